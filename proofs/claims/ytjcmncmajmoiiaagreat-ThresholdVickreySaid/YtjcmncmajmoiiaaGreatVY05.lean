/-
  The symbolic run: its operations, and what must hold for a piece of code to come to a post. Plain definitions: no proof stands here.
  Conditions: none.
-/
import Derived.Test.YtjcmncmajmoiiaaGreatVY04
set_option maxRecDepth 100000
set_option maxHeartbeats 4000000
set_option linter.all false
open BitVec renaming ofInt->γs
open Bool renaming and_eq_true->ζ,and_true->δT,false_eq_true->χ,or_eq_true->δp,true_eq_false->ζH
open Function renaming comp_def->δe
open Go.Vi.AV renaming sc->δg,ren->δC
open Go.Vi.AV.sc renaming injEq->γX
open Go.Vi.SV renaming g->γG
open List renaming replicate->ε,map_map->δn,mem_map->γg,length_cons->γB,length->γn,drop_drop->γV,getElem?_eq_getElem->ν,take->γa,take_of_length_le->γh,map_cons->ι,take_append_drop->Δ,cons_append->γF,modify_succ_cons->ζv,getElem?_eq_some_iff->θ,map_append->γd,flatMap_nil->ζp,nil_append->δf,drop_zero->δV,take_succ_cons->δ4,range->π,range'->ζk,range'_succ->εq,range_eq_range'->δI,flatMap_cons->δZ,all_map->ζN,map->γf,ext_getElem?->δc,append_inj->εD
open List.cons renaming injEq->ξ
open Nat renaming beq->δx,add_assoc->ζG,mul_le_mul_right->γK,add_mul->εs,add_right_cancel_iff->ζg
open Option renaming map_eq_some_iff->δ,map_some->γm,isSome_some->ζI,isSome_none->ε5
open Option.some renaming injEq->γ
namespace Go.Vi
abbrev eZ:=List (Nat×SV)
abbrev bW:=List bq
structure cq where
 env:eZ
 o:bW
def jI:eZ->Nat->SV
 |[],_=> .ud
 |p::r,s=>bif δx p.1 s then p.2 else jI r s
def vo (env:eZ) (a:Option Nat) (v:SV):eZ:=
 match a with
 |none=>env
 |some d=>(d,v)::env
def SV.oU:Value->SV
 | .int k n=> .il k n
 | .bool b=> .bl b
 |v=> .sc v
def SV.uP:Value->SV
 | .agg a=>if a.toList.all (·.oneCell') then .agg (a.toList.map .oU) else .ud
 | .tuple _=> .ud
 | .int k n=> .il k n
 | .bool b=> .bl b
 |v=> .sc v
def jj (env:eZ):Operand->SV
 | .tmp t=>jI env t
 | .const v=> .uP v
 | .global _=> .ud
 | .func f=> .fn (.func f) [] []
def SV.cellsOf:SV->List SV
 | .agg a=>a
 |v=>[v]
def SV.one:SV->Bool
 | .agg _| .bH _| .ud| .ite _ _ _=>false
 | .sc v=>v.oneCell'
 |_=>true
def xj (l:List SV):Bool:=l.all (·.one)
mutual
def SV.pure:SV->Bool
 | .sc _| .il .. | .si .. | .bl _| .sb _| .row .. =>true
 |_=>false
def zt:List SV->Bool
 |[]=>true
 |c::a=>c.pure&&zt a
end
mutual
def SV.bY (k:Nat):SV->Bool
 | .ud| .sc _| .il .. | .si .. | .bl _| .sb _| .row .. | .ep .. =>true
 | .agg e| .bH e=>sC k e
 | .ptr d .. | .ap d .. | .rp d .. | .ow d .. | .os d .. | .oc d .. | .mp d=>decide (d<k)
 | .fn _ a b=>sC k a&&sC k b
 | .ia _ _| .ite _ _ _=>true
def sC (k:Nat):List SV->Bool
 |[]=>true
 |c::e=>c.bY k&&sC k e
end
def bq.bY (k:Nat):bq->Bool
 | .cells b _ _ a=>a||sC k b
 | .oQ _ _ _ t=>sC k t
 |_=>true
mutual
def SV.kZ:SV->Bool
 | .ud| .sc _| .il .. | .si .. | .bl _| .sb _=>true
 | .agg a| .bH a=>CL a
 |_=>false
def CL:List SV->Bool
 |[]=>true
 |c::a=>c.kZ&&CL a
end
def bV (k:IntKind) (n:Int):Prop:=
 match k with
 | .i64=> -9223372036854775808<=n/\n<=9223372036854775807
 |k=>k.wrap n=n
def vp (k:IntKind) (n:Int) (K:Int->Prop):Prop:=
 match k with
 | .u32=>K (n % 4294967296)
 | .u64=>K (n % 18446744073709551616)
 |k=>bV k n/\K n
structure OV where
 pure:FuncId->List SV->(SV->Prop)->Prop
 own:FuncId->List SV->bW->(SV->bW->Prop)->Prop
structure iM where
 C:OV
 ty:TypeId->Option bk
 mt:List Nat×Bool->Option (bk×bk)
 sp:Nat->Option (Nat×Nat×Nat):=λ_=>none
 it:FuncId->Option fj:=λ_=>none
 ro:FuncId->Bool:=λ_=>false
def sD (cs:List SV) (a:Nat):Option Nat->Option SV
 |none=>cs[a]?
 |some n=>if a+n<=cs.length then some (.agg ((cs.drop a).take n)) else none
def tW (cs:List SV) (a:Nat):List SV->List SV
 |[]=>cs
 |v::b=>tW (cs.set a v) (a+1) b
def iN {b:Type} (x:Option b) (K:b->Prop):Prop:=match x with|some a=>K a|none=>False
def vq {b:Type} (f:SV->(b->Prop)->Prop):List SV->(List b->Prop)->Prop
 |[],K=>K []
 |v::c,K=>f v λa=>vq f c λd=>K (a::d)
def rF (o:bW):Nat->SV->(SV->Prop)->Prop
 |_,.ud,K=>K .ud
 |_,.sc v,K=>match v with
  | .slice none 0 0=>K (.row (.i .i64) [])
  |v=>K (.sc v)
 |_,.il k n,K=>K (.il k n)
 |_,.si k n,K=>K (.si k n)
 |_,.bl b,K=>K (.bl b)
 |_,.sb b,K=>K (.sb b)
 |_,.row s l,K=>K (.row s l)
 |_,.ia t cs,K=>K (.ia t cs)
 |d+1,.agg cs,K=>vq (rF o d) cs λcs'=>K (.agg cs')
 |d+1,.bH cs,K=>vq (rF o d) cs λcs'=>K (.bH cs')
 |d+1,.fn f a b,K=>vq (rF o d) a λa'=>vq (rF o d) b λb'=>K (.fn f a' b')
 |_+1,.ow id n sz,K=>match o[id]? with
  |some (.row s l _ _)=>if sz=s.sz then n=l.length/\K (.row s l) else False
  |_=>False
 |_+1,.os id off len n sz,K=>match o[id]? with
  |some (.row s l _ _)=>if sz=s.sz then n=l.length/\off+len<=n/\K (.row s ((l.drop off).take len)) else False
  |_=>False
 |_,_,_=>False
def mQ (o:bW) (a:SV) (n:Option Nat) (K:SV->Prop):Prop:=
 match a with
 | .ptr h b d=>match o[h]? with
  |some (.cells c _ _ _)=>if c.length=d then iN (sD c b n) K else False
  |_=>False
 | .ap h e g f d i=>match o[h]? with
  |some (.cells c _ _ _)=>if c.length=d/\e+g*f<=d then i<f/\zu ((c.drop e).take (g*f)) g i n K else False
  |_=>False
 | .ep s l i b=>i<l.length/\iN (sD (encS s (bj l i s.dflt)) b n) K
 | .rp h i b m g=>match o[h]? with
  |some (.row s l _ _)=>if g=s.sz then m=l.length/\i<l.length/\iN (sD (encS s (bj l i s.dflt)) b n) K else False
  |_=>False
 |_=>False
where
 zu (c:List SV) (g i:Nat) (n:Option Nat) (K:SV->Prop):Prop:=
  match n,g with
  |none,1=>match ints c with
   |some l=>K (.si .i64 (bj l i 0))
   |none=>match rowsOff c with
    |some l=>K (.row .off (bj l i []))
    |none=>False
  |_,_=>False;rowsOff:List SV->Option (List (List Off))
  |[]=>some []
  | .row .off l::c=>(rowsOff c).map (l::·)
  |_=>none
def mkK (bB:Nat) (x:bq) (o:bW) (K:bW->Prop):Prop:=
 match o[bB]? with
 |some .dead=>K (o.set bB x)
 |_=>False
def sE (a:List (Nat×Nat×SV)) (cs:List SV):Option (List SV):=
 match a with
 |[]=>some cs
 |(b,n,v)::c=>
  if v.cellsOf.length=n/\xj v.cellsOf=true/\b+n<=cs.length then sE c (tW cs b v.cellsOf) else none
def tX (s:bk):Nat->List SV->Option (List s.T)
 |0,[]=>some []
 |n+1,a=>match jH s (a.take s.sz),tX s n (a.drop s.sz) with
  |some x,some l=>some (x::l)
  |_,_=>none
 |_,_=>none
def vr (o:bW) (s:bk) (x:SV) (K:List s.T->Prop):Prop:=
 match x with
 | .row a l=>iN (iI a s l) K
 | .ow d n e=>match o[d]? with
  |some (.row a l _ _)=>if e=a.sz then n=l.length/\iN (iI a s l) K else False
  |_=>False
 | .os d c b n e=>match o[d]? with
  |some (.row a l _ _)=>if e=a.sz then n=l.length/\c+b<=n/\iN (iI a s ((l.drop c).take b)) K else False
  |_=>False
 | .sc (.slice none 0 0)=>K []
 |_=>False
def OW (o:bW):SV->Option (List SV)
 | .ow j 1 a=>match o[j]? with
  |some (.oQ s [] _ t)=>if s.sz=a then some t else none
  |_=>none
 |_=>none
def SV.OX:SV->Bool
 | .ow .. =>true
 |_=>false
def zw:SV->Option Int
 | .si _ n=>some n
 | .il _ n=>some n
 |_=>none
def isNil:SV->Bool
 | .sc (.slice none 0 0)=>true
 |_=>false
def eJ (e:BinOp) (x y:SV) (K:SV->Prop):Prop:=
 match x,y with
 | .il k a,.il d b=>match gK e (.int k a) (.int d b) with
  |some (.int k n)=>K (.il k n)
  |some (.bool c)=>K (.bl c)
  |_=>False
 | .si k a,.si d b=>go k a d b
 | .il k a,.si d b=>go k a d b
 | .si k a,.il d b=>go k a d b
 | .sc (.string a),.sc (.string b)=>match e with
  | .eql=>K (.sb (a.toList==b.toList))
  | .neq=>K (.sb (!(a.toList==b.toList)))
  |_=>False
 |_,_=>False
where
 go (k:IntKind) (a:Int) (d:IntKind) (b:Int):Prop:=
  match e with
  | .shl=>0<=b/\b<=k.bits/\vp k (a*2^b.toNat) λn=>K (.si k n)
  | .shr=>0<=b/\b<=k.bits/\K (.si k (a / 2^b.toNat))
  | .add=>if k=d then vp k (a+b) λn=>K (.si k n) else False
  | .sub=>if k=d then vp k (a - b) λn=>K (.si k n) else False
  | .mul=>if k=d then vp k (a*b) λn=>K (.si k n) else False
  | .quo=>if k=d then b≠0/\bV k (a.tdiv b)/\K (.si k (a.tdiv b)) else False
  | .rem=>if k=d then b≠0/\K (.si k (a.tmod b)) else False
  | .and=>if k=d then K (.si k (rG k a b)) else False
  | .or=>if k=d then K (.si k (nZ k a b)) else False
  | .xor=>if k=d then K (.si k (G2 k a b)) else False
  | .andNot=>if k=d then K (.si k (pN k a b)) else False
  | .eql=>if k=d then K (.sb (decide (a=b))) else False
  | .neq=>if k=d then K (.sb (decide (a≠b))) else False
  | .lss=>if k=d then K (.sb (decide (a<b))) else False
  | .leq=>if k=d then K (.sb (decide (a<=b))) else False
  | .gtr=>if k=d then K (.sb (decide (b<a))) else False
  | .geq=>if k=d then K (.sb (decide (b<=a))) else False;rG (k:IntKind) (a b:Int):Int:=eQ k (γs k.bits a &&&γs k.bits b).toNat;nZ (k:IntKind) (a b:Int):Int:=eQ k (γs k.bits a |||γs k.bits b).toNat;G2 (k:IntKind) (a b:Int):Int:=eQ k (γs k.bits a ^^^γs k.bits b).toNat;pN (k:IntKind) (a b:Int):Int:=eQ k (γs k.bits a &&&~~~(γs k.bits b)).toNat
def G3:SV->SV->Option Bool
 | .si k a,y=>(y.int k).map λb=>decide (a=b)
 | .il k a,y=>(y.int k).map λb=>decide (a=b)
 | .sb a,y=>y.boo.map λb=>a==b
 | .bl a,y=>y.boo.map λb=>a==b
 |_,_=>none
def tY:List SV->List SV->Option Bool
 |[],[]=>some true
 |x::d,y::c=>match G3 x y,tY d c with
  |some a,some b=>some (a&&b)
  |_,_=>none
 |_,_=>none
def lB:List Nat->List SV->Bool
 |[],[]=>true
 |0::a,.si _ _::b=>lB a b
 |0::a,.il _ _::b=>lB a b
 |1::a,.sb _::b=>lB a b
 |1::a,.bl _::b=>lB a b
 |_,_=>false
def j4 (a sv:bk) (x:a.T) (es:List (a.T×sv.T)):Option sv.T:=(es.find? λp=>decide (p.1=x)).map (·.2)
def nz (a sv:bk) (x:a.T) (v:sv.T):List (a.T×sv.T)->List (a.T×sv.T)
 |[]=>[(x,v)]
 |p::r=>if p.1=x then(x,v)::r else p::nz a sv x v r
def vt (a:Bool):SV->Bool
 | .agg _=>a
 |_=>!a
def bk.keyed:bk->Bool
 | .key| .sit| .i _=>true
 |_=>false
def oa (d:Nat):Option SV->(Nat->Prop)->Prop
 |none,K=>K d
 |some (.il _ n),K=>if 0<=n then K n.toNat else False
 |some (.si _ n),K=>0<=n/\K n.toNat
 |_,_=>False
def tZ:List Int->Nat->Int->Nat->List Int
 |[],_,_,_=>[]
 |a::l,i,v,j=>(if i=j then v else a)::tZ l i v (j+1)
def CN:SV->(SV->Prop)->Prop
 | .ite c a b,K=>(c=true->CN a K)/\(c=false->CN b K)
 |v,K=>K v
def SV.G:SV->AV
 | .ite c a b=>match c with
  |true=>a.G
  |false=>b.G
 |v=>v.g
def eK (p:iM) (op:cE) (ρ:Operand->SV) (o:bW) (bB:Nat) (K:SV->bW->Prop):Prop:=
 match op with
 | .uQ x=>K (ρ x) o
 | .pick c a b=>match ρ c with
  | .bl true=>K (ρ a) o
  | .bl false=>K (ρ b) o
  | .sb c=>(c=true->K (ρ a) o)/\(c=false->K (ρ b) o)
  |_=>False
 | .alloc z e pu=>mkK bB (.cells (z.map .oU) e z.length pu) o λo'=>K (.ptr bB 0 z.length) o'
 | .box e x=>if xj (ρ x).cellsOf then mkK bB (.cells (ρ x).cellsOf e (ρ x).cellsOf.length false) o λo'=>K (.ptr bB 0 (ρ x).cellsOf.length) o' else False
 | .build z parts=>iN (sE (parts.map λq=>(q.1,q.2.1,ρ q.2.2)) (z.map .oU)) λcs=>K (.agg cs) o
 | .pE z len parts e sz=>match p.ty e,sE (parts.map λq=>(q.1,sz,ρ q.2)) ((ε len (z.map SV.oU)).flatten) with
  |some s,some cs=>if s.sz=sz then(if cs.any SV.OX then(if cs.length=len*sz then mkK bB (.oQ s [] e cs) o λo'=>K (.ow bB len sz) o' else False) else iN (tX s len (cs.map SV.qn)) λl=>mkK bB (.row s l e true) o λo'=>K (.ow bB len sz) o') else False
  |_,_=>False
 | .tn z len parts e sz=>match p.ty e,sE (parts.map λq=>(q.1,sz,ρ q.2)) ((ε len (z.map SV.oU)).flatten) with
  |some s,some cs=>if s.sz=sz then iN (tX s len (cs.map SV.qn)) λl=>K (.row s l) o else False
  |_,_=>False
 | .load n a=>mQ o (ρ a) n λv=>K v o
 | .store n a x=>match ρ a with
  | .ptr id off tot=>match o[id]? with
   |some (.cells cs e sz pu)=>
    if cs.length=tot/\(ρ x).cellsOf.length=n/\xj (ρ x).cellsOf=true/\off+n<=cs.length/\(pu=false\/zt (ρ x).cellsOf=true) then K .ud (o.set id (.cells (tW cs off (if pu then(ρ x).cellsOf.map SV.qn else(ρ x).cellsOf)) e sz pu)) else False
   |_=>False
  | .rp id i off m sz=>match o[id]? with
   |some (.row s l e pu)=>
    if sz=s.sz/\(ρ x).cellsOf.length=n/\off+n<=s.sz then m=l.length/\i<l.length/\iN (jH s (tW (encS s (bj l i s.dflt)) off (if pu then(ρ x).cellsOf.map SV.qn else(ρ x).cellsOf))) λv=>K .ud (o.set id (.row s (l.set i v) e pu)) else False
   |_=>False
  | .ap id base sz len tot i=>match o[id]? with
   |some (.cells cs e sz' pu)=>match n,sz,(ρ x).int .i64 with
    |1,1,some v=>match ints ((cs.drop base).take len) with
     |some l=>if cs.length=tot/\base+len<=tot then i<len/\K .ud (o.set id (.cells (tW cs base ((tZ l i v 0).map (SV.si .i64))) e sz' pu)) else False
     |none=>False
    |_,_,_=>False
   |_=>False
  |_=>False
 | .uR x=>match ρ x with
  | .ptr a b c=>K (.ptr a b c) o
  | .rp a b c d e=>K (.rp a b c d e) o
  | .ep s l i f=>K (.ep s l i f) o
  |_=>False
 | .bin op x y=>eJ op (ρ x) (ρ y) λv=>K v o
 | .beq neg x y=>match(ρ x).boo,(ρ y).boo with
  |some a,some b=>K (.sb (if neg then !(a==b) else a==b)) o
  |_,_=>False
 | .sg neg ks x y=>match ρ x,ρ y with
  | .agg a,.agg b=>if lB ks a&&lB ks b then iN (tY a b) λr=>K (.sb (if neg then !r else r)) o else False
  |_,_=>False
 | .un op x=>match op,ρ x with
  | .not,.sb b=>K (.sb !b) o
  | .not,.bl b=>K (.bl !b) o
  | .neg,.si k n=>bV k (-n)/\K (.si k (-n)) o
  | .neg,.il k n=>K (.il k (eQ k (0 - n))) o
  |_,_=>False
 | .conv k x=>match ρ x with
  | .il _ n=>K (.il k (eQ k n)) o
  | .si .i64 n=>bV k n/\K (.si k n) o
  | .si _ n=>vp k n λm=>K (.si k m) o
  |_=>False
 | .uS off x=>match ρ x with
  | .ptr id b tot=>K (.ptr id (b+off) tot) o
  | .ep s l i b=>K (.ep s l i (b+off)) o
  | .rp id i b m sz=>K (.rp id i (b+off) m sz) o
  |_=>False
 | .field off n x=>match ρ x with
  | .agg cs=>iN (sD cs off n) λv=>K v o
  |_=>False
 | .uT len sz x i=>match ρ i with
  | .il _ n=>if 0<=n/\n<len then(match ρ x with
   | .ptr id b tot=>K (.ptr id (b+n.toNat*sz) tot) o
   | .ep s l j b=>K (.ep s l j (b+n.toNat*sz)) o
   | .rp id j b m sz'=>K (.rp id j (b+n.toNat*sz) m sz') o
   |_=>False) else False
  | .si _ n=>match ρ x with
   | .ptr id b tot=>0<=n/\n<len/\K (.ap id b sz len tot n.toNat) o
   |_=>False
  |_=>False
 | .sj sz x i=>match zw (ρ i) with
  |some n=>match ρ x with
   | .row s l=>if sz=s.sz then 0<=n/\n<l.length/\K (.ep s l n.toNat 0) o else False
   | .ow id m sz'=>match o[id]? with
    |some (.row s l _ _)=>if sz=s.sz/\sz'=s.sz then m=l.length/\0<=n/\n<l.length/\K (.rp id n.toNat 0 m sz) o else False
    |_=>False
   | .os id off len m sz'=>match o[id]? with
    |some (.row s l _ _)=>if sz=s.sz/\sz'=s.sz then m=l.length/\0<=n/\n<len/\off+len<=m/\K (.rp id (off+n.toNat) 0 m sz) o else False
    |_=>False
   | .oc id off len m sz'=>match o[id]? with
    |some (.row s l _ _)=>if sz=s.sz/\sz'=s.sz then m=l.length/\0<=n/\n<len/\off+len<=m/\K (.rp id (off+n.toNat) 0 m sz) o else False
    |_=>False
   |_=>False
  |none=>False
 | .idx len sz n x i=>match ρ i,ρ x with
  | .il _ k,.agg cs=>if 0<=k/\k<len then iN (sD cs (k.toNat*sz) n) λv=>K v o else False
  | .si _ k,.agg cs=>match n,sz,ints cs with
   |none,1,some l=>if l.length=len then 0<=k/\k<len/\K (.si .i64 (bj l k.toNat 0)) o else False
   |_,_,_=>False
  |_,_=>False
 | .ql z e sz bytes l c pu=>match zw (ρ l),zw (ρ c),p.ty e with
  |some n,some m,some s=>if s.sz=sz then iN (jH s (if pu then(z.map SV.oU).map SV.qn else z.map .oU)) λx=>0<=n/\n<=m/\m*bytes<=140737488355328/\m<=1000000000000/\
    mkK bB (.row s (ε n.toNat x) e pu) o λo'=>K (.ow bB n.toNat sz) o' else False
  |_,_,_=>False
 | .slice sz x lo hi=>match ρ x with
  | .row s l=>if sz=s.sz then oa 0 (lo.map ρ) λa=>oa l.length (hi.map ρ) λb=>a<=b/\b<=l.length/\K (.row s ((l.drop a).take (b - a))) o else False
  | .ow id m sz'=>match o[id]? with
   |some (.row s l _ _)=>if sz=s.sz/\sz'=s.sz then m=l.length/\oa 0 (lo.map ρ) λa=>oa m (hi.map ρ) λb=>a<=b/\b<=m/\K (.os id a (b - a) m sz) o else False
   |_=>False
  | .os id off len m sz'=>match o[id]? with
   |some (.row s l _ _)=>if sz=s.sz/\sz'=s.sz then m=l.length/\oa 0 (lo.map ρ) λa=>oa len (hi.map ρ) λb=>a<=b/\b<=len/\K (.os id (off+a) (b - a) m sz) o else False
   |_=>False
  |_=>False
 | .slice3 sz x lo hi mx=>match ρ x with
  | .row s l=>if sz=s.sz then oa 0 (lo.map ρ) λa=>oa l.length (some (ρ hi)) λb=>oa l.length (some (ρ mx)) λm=>a<=b/\b<=m/\m<=l.length/\K (.row s ((l.drop a).take (b - a))) o else False
  | .ow id n sz'=>match o[id]? with
   |some (.row s l _ _)=>if sz=s.sz/\sz'=s.sz then n=l.length/\oa 0 (lo.map ρ) λa=>oa n (some (ρ hi)) λb=>oa n (some (ρ mx)) λm=>a<=b/\b<=m/\m<=n/\K (.oc id a (b - a) n sz) o else False
   |_=>False
  |_=>False
 | .append e sz bytes s x pu=>match p.ty e,OW o (ρ x) with
  |some t,some tl=>match ρ s,ρ x with
   | .ow id n sz',.ow _ _ Zb=>match o[id]? with
    |some (.row t' l e' G4)=>if e'=e/\t'.sz=sz/\sz'=sz/\Zb=sz/\t.sz=sz/\G4=false/\tl.length=sz/\xj tl=true then n=l.length/\(l.length+1)*bytes<=140737488355328/\l.length+1<=1000000000000/\
      K (.ow id (l.length+1) sz) (o.set id (.oQ t' l e tl)) else False
    |_=>False
   |_,_=>False
  |some t,none=>if t.sz=sz then vr o t (ρ x) λnew=>match ρ s with
    | .sc (.slice none 0 0)=>(new.length=0->K (.sc yZ) o)/\(new.length≠0->new.length*bytes<=140737488355328/\new.length<=1000000000000/\mkK bB (.row t new e pu) o λo'=>K (.ow bB new.length sz) o')
    | .ow id n sz'=>match o[id]? with
     |some (.row t' l e' G4)=>if e'=e/\t'.sz=sz/\sz'=sz then n=l.length/\(l.length+new.length)*bytes<=140737488355328/\l.length+new.length<=1000000000000/\
       iN (iI t' t l) λl'=>K (.ow id (l'++new).length sz) (o.set id (.row t (l'++new) e G4)) else False
     |_=>False
    | .row t' l=>new.length=0/\K (.row t' l) o
    |_=>False
   else False
  |none,_=>False
 | .len k x=>match k,ρ x with
  |0,.row _ l=>K (.si .i64 l.length) o
  |0,.ow _ n _=>K (.si .i64 n) o
  |0,.os _ _ len _ _=>K (.si .i64 len) o
  |0,.oc _ _ len _ _=>K (.si .i64 len) o
  |0,.sc (.slice none 0 0)=>K (.il .i64 0) o
  |1,.sc (.string s)=>K (.si .i64 s.size) o
  |2,.mp id=>match o[id]? with
   |some (.map _ _ _ es _ _)=>K (.si .i64 es.length) o
   |_=>False
  |_,_=>False
 | .uV n=>K (.il .i64 n) o
 | .mm mx x y=>match ρ x,ρ y with
  | .il k a,.il k' b=>if k=k' then K (.il k (if mx then(if b>a then b else a) else(if b<a then b else a))) o else False
  | .si k a,y=>iN (y.int k) λb=>K (.si k (if mx then max a b else min a b)) o
  | .il k a,y=>iN (y.int k) λb=>K (.si k (if mx then max a b else min a b)) o
  |_,_=>False
 | .call f args own=>zx p f (args.map ρ) o own K
 | .jG f args own=>match ρ f with
  | .fn (.func g) first captured=>zx p g (first++args.map ρ++captured) o own K
  |_=>False
 | .extract x i=>match ρ x with
  | .bH vs=>iN vs[i]? λv=>K v o
  |_=>False
 | .tq f first captured=>K (.fn f (first.map ρ) (captured.map ρ)) o
 | .uW t x=>match ρ x with
  | .agg cs=>if zt cs=true then K (.ia t cs) o else False
  |_=>False
 | .oJ tab x args=>match ρ x with
  | .ia t cs=>match uY tab t with
   |some f=>zx p f (.agg cs::args.map ρ) o false K
   |none=>False
  |_=>False
 | .qm kt pu=>match p.mt kt with
  |some (sk,sv)=>mkK bB (.map sk sv kt.2 [] kt pu) o λo'=>K (.mp bB) o'
  |none=>False
 | .lookup z agg ks ka x k ok=>match ρ x with
  | .mp id=>match o[id]? with
   |some (.map sk sv xk es kt _)=>
    if kt=(ks,ka)/\xk=ka/\sk.keyed=true/\sv.xh=true/\agg=false/\(ka=false->sk.sz=1)/\lB ks (ρ k).cellsOf=true/\vt ka (ρ k)=true then
     iN (jH sk (ρ k).cellsOf) λkv=>iN (jH sv (z.map .oU)) λzv=>
      let r:=(encS sv ((j4 sk sv kv es).getD zv)).headD .ud;K (if ok then .bH [r,.sb (j4 sk sv kv es).isSome] else r) o
    else False
   |_=>False
  |_=>False
 | .rc ks ka x k v=>match ρ x with
  | .mp id=>match o[id]? with
   |some (.map sk sv xk es kt pu)=>
    if kt=(ks,ka)/\xk=ka/\sk.keyed=true/\sv.xh=true/\(ka=false->sk.sz=1)/\lB ks (ρ k).cellsOf=true/\vt ka (ρ k)=true/\vt false (ρ v)=true then
     iN (jH sk (ρ k).cellsOf) λkv=>iN (jH sv (ρ v).cellsOf) λvv=>K .ud (o.set id (.map sk sv xk (nz sk sv kv vv es) kt pu))
    else False
   |_=>False
  |_=>False
 |_=>False
where
 zx (p:iM) (f:FuncId) (args:List SV) (o:bW) (own:Bool) (K:SV->bW->Prop):Prop:=
  if own then p.C.own f args o K
  else vq (rF o 6) args λargs'=>p.C.pure f args' λr=>if(args.flatMap (λv=>fh (o.map bq.g) 6 v.g)).isEmpty||r.kZ then K r o else False
def xl:eZ->Nat->SV->eZ
 |[],_,_=>[]
 |p::r,s,v=>bif δx p.1 s then(p.1,v)::r else p::xl r s v
def G5 (env:eZ) (g:Option (Option Nat×Bool)) (K:eZ->Bool->Prop):Prop:=
 match g with
 |none=>K env true
 |some (none,_)=>False
 |some (some s,b)=>match jI env s with
  | .bl c=>K env (c==b)
  | .sb c=>(c=true->K (xl env s (.bl true)) (true==b))/\(c=false->K (xl env s (.bl false)) (false==b))
  | .bH []=>K env false
  |_=>False
def SV.same (v w:SV):Prop:=v.g=w.g
def SV.rH (v:SV):SV->Prop
 | .ite c a b=>(c=true->v.rH a)/\(c=false->v.rH b)
 |w=>v.same w
def bq.same (x y:bq):Prop:=x.g=y.g
def jk:bW->bW->Prop
 |[],[]=>True
 |x::o,y::a=>x.same y/\jk o a
 |_,_=>False
def OY (p:iM) (a:cE) (o o':bW) (K:Bool->Prop):Prop:=
 match a with
 | .call f _ true=>if p.ro f=true then jk o o'/\K true else K false
 |_=>K false
def xm (p:iM) (base:Nat):List dp->cq->Trace->(cq->Trace->Prop)->Prop
 |[],b,c,K=>K b c
 |i::r,b,c,K=>G5 b.env i.guard λa w=>
   if w then eK p i.op (jj a) b.o (base+i.bB) λv d=>OY p i.op b.o d λe=>xm p base r ⟨vo a i.dst v,d⟩ ((i.idx,dO i.op (λx=>(jj a x).g) (b.o.map bq.g) (base+i.bB),if e then[] else wrt i.op (λx=>(jj a x).g) (b.o.map bq.g) (base+i.bB))::c) K
   else xm p base r ⟨vo a i.dst (.bH []),b.o⟩ ((i.idx,[],[])::c) K
def bq.ni:bq->Bool
 | .dead=>true
 |_=>false
def G6 (base:Nat) (o:bW):bW:=if(o.drop base).all (·.ni) then o.take base else o
def G7 (p:iM) (k:Nat) (c:List dp) (b:List (Nat×Nat)) (st:cq) (K:cq->Prop):Prop:=
 xm p st.o.length c ⟨st.env,st.o++ε k .dead⟩ [] λa d=>
  if b.isEmpty||tu (st.o.length+k) d.reverse b then K ⟨a.env,if k=0 then a.o else G6 st.o.length a.o⟩ else False
mutual
def jl (id:Nat) (s:bk) (l:List s.T):SV->(SV->Prop)->Prop
 | .ow j n m,K=>if j=id then(if m=s.sz then n=l.length/\K (.row s l) else False) else K (.ow j n m)
 | .os j h g n m,K=>if j=id then(if m=s.sz then n=l.length/\h+g<=n/\K (.row s ((l.drop h).take g)) else False) else K (.os j h g n m)
 | .oc j h g n m,K=>if j=id then False else K (.oc j h g n m)
 | .rp j i f n m,K=>if j=id then False else K (.rp j i f n m)
 | .ptr j f t,K=>if j=id then False else K (.ptr j f t)
 | .ap j a b c d e,K=>if j=id then False else K (.ap j a b c d e)
 | .agg o,K=>rI id s l o λk=>K (.agg k)
 | .bH o,K=>rI id s l o λk=>K (.bH k)
 | .fn f a b,K=>rI id s l a λp=>rI id s l b λr=>K (.fn f p r)
 |v,K=>K v
def rI (id:Nat) (s:bk) (l:List s.T):List SV->(List SV->Prop)->Prop
 |[],K=>K []
 |c::o,K=>jl id s l c λq=>rI id s l o λk=>K (q::k)
end
def zy (id:Nat) (s:bk) (l:List s.T):eZ->(eZ->Prop)->Prop
 |[],K=>K []
 |(k,v)::r,K=>jl id s l v λa=>zy id s l r λb=>K ((k,a)::b)
def ob (id:Nat) (s:bk) (l:List s.T):Nat->bW->(bW->Prop)->Prop
 |_,[],K=>K []
 |i,x::r,K=>match x with
  | .cells g e h b=>if b then(if i=id then False else ob id s l (i+1) r λa=>K (.cells g e h b::a)) else rI id s l g λd=>ob id s l (i+1) r λa=>K (.cells d e h b::a)
  | .oQ c f e t=>if i=id then False else rI id s l t λj=>match tX c 1 j with
   |some m=>ob id s l (i+1) r λa=>K (.row c (f++m) e false::a)
   |none=>False
  | .row c f e b=>if i=id then(if b then ob id s l (i+1) r λa=>K (.dead::a) else False) else ob id s l (i+1) r λa=>K (.row c f e b::a)
  |x=>ob id s l (i+1) r λa=>K (x::a)
def t6 (p:iM) (lo:Nat) (h:ky) (st:cq) (K:cq->Prop):Prop:=
 if h.own then match h.off with
  |none=>if isNil (jI st.env h.slot) then(match p.ty h.e with
    |some s=>if s.sz=h.sz then K ⟨(h.slot,.ow st.o.length 0 h.sz)::st.env,st.o++[.row s [] h.e h.pu]⟩ else False
    |none=>False) else if h.sz=0 then(match jI st.env h.slot with
     | .ow a _ _=>match st.o[a]? with
      |some (.row s l e true)=>K ⟨st.env,st.o.set a (.row s l e false)⟩
      |_=>False
     |_=>False) else K st
  |some k=>match jI st.env h.slot with
   | .ptr a b c=>match st.o[a]? with
    |some (.cells d e i f)=>if(d[b+k]?).any isNil then(if d.length=c/\f=false then(match p.ty h.e with
      |some s=>if s.sz=h.sz then K ⟨st.env,(st.o.set a (.cells (d.set (b+k) (.ow st.o.length 0 h.sz)) e i f))++[.row s [] h.e h.pu]⟩ else False
      |none=>False) else False) else K st
    |_=>False
   |_=>False
 else match OZ h st with
  |some (some a)=>if Nat.ble lo a then(match st.o[a]? with
   |some (.row s l e f)=>zy a s l st.env λg=>ob a s l 0 (if f then st.o else st.o.set a (.row s l e true)) λo=>K ⟨g,o⟩
   |_=>False) else K st
  |some none=>K st
  |none=>False
where
 xn:SV->Option Nat
  | .ow a .. =>some a
  | .os a .. =>some a
  | .oc a .. =>some a
  |_=>none;OZ (h:ky) (st:cq):Option (Option Nat):=
  match h.off with
  |none=>some (xn (jI st.env h.slot))
  |some k=>match jI st.env h.slot with
   | .ptr a b c=>match st.o[a]? with
    |some (.cells d _ _ _)=>if d.length=c then(d[b+k]?).map xn else none
    |_=>none
   |_=>none
def zz (p:iM) (lo:Nat):List ky->cq->(cq->Prop)->Prop
 |[],st,K=>K st
 |h::hs,st,K=>t6 p lo h st λst'=>zz p lo hs st' K
def G8 (a:List Nat) (env:eZ):eZ:=a.map λs=>(s,jI env s)
def trimS (k:Nat) (st:cq):cq:=
 if st.o.length<=k then st
 else if(st.env.all λp=>p.2.bY k)&&((st.o.take k).all λx=>x.bY k) then⟨st.env,st.o.take k⟩ else st
def xo:eZ->eZ->Prop
 |[],[]=>True
 |(k,v)::e,(b,c)::a=>if k=b then v.same c/\xo e a else False
 |_,_=>False
def zA (s t:cq):Prop:=xo s.env t.env/\jk s.o t.o
def iS (s:cq) (k:Nat):Int:=match jI s.env k with
 | .si _ n=>n
 | .il _ n=>n
 |_=>0
def bS (s:cq) (k:Nat):Bool:=match jI s.env k with
 | .sb b=>b
 | .bl b=>b
 |_=>false
def rS (t:bk) (s:cq) (k:Nat):List t.T:=match jI s.env k with
 | .row a l=>match iI a t l with
  |some l=>l
  |none=>[]
 |_=>[]
def oS (t:bk) (s:cq) (id:Nat):List t.T:=match s.o[id]? with
 |some (.row a l _ _)=>match iI a t l with
  |some l=>l
  |none=>[]
 |_=>[]
def CO (k v b a:bk) (es:List (k.T×v.T)):Option (List (b.T×a.T)):=if h:k=b/\v=a then some (h.1▸h.2▸es) else none
def mS (k v:bk) (s:cq) (id:Nat):List (k.T×v.T):=match s.o[id]? with
 |some (.map b c _ a _ _)=>match CO b c k v a with
  |some a=>a
  |none=>[]
 |_=>[]
def splitN (v:Int) (n:Nat) (K:Nat->Prop):Nat->Prop
 |0=>0<=v/\v<n
 |j+1=>(v=(n - (j+1):Nat)->K (n - (j+1)))/\splitN v n K j
def splitK (x:Option (Nat×Nat×Nat)) (st:cq) (K:cq->Prop):Prop:=
 match x with
 |none=>K st
 |some (b,a,n)=>match st.o[b]? with
  |some (.cells c e f d)=>match c[a]? with
   |some (.si k v)=>splitN v n (λj=>K ⟨st.env,st.o.set b (.cells (c.set a (.il k j)) e f d)⟩) n
   |_=>False
  |_=>False
inductive cB where
 |pO (n:Nat)
 |look
 |inv (X:Type) (shape:X->cq) (next:cq->X) (J:X->Prop) (m:X->Nat) (inner:X->Nat->cB)
def Look (_:cq):Prop:=False
def vu:IR->Nat
 | .region c .. =>c
 | .seq .skip b=>vu b
 | .seq a _=>vu a
 | .block _ b=>vu b
 | .loop b=>vu b
 | .turns _ b=>vu b
 |_=>0
def G9 (W:cq->(Out->cq->Prop)->Prop) (Q:Out->cq->Prop):Nat->cq->Prop
 |0,_=>False
 |n+1,b=>W b λa s=>match a with
  | .norm=>G9 W Q n (trimS b.o.length s)
  |o=>Q o s
def zB (t:Nat):eZ->eZ
 |[]=>[]
 |p::r=>bif δx p.1 t then zB t r else p::zB t r
def xp (x:Operand) (env:eZ):eZ:=
 match x with
 | .tmp t=>zB t env
 |_=>env
def CP (env:eZ) (x:Operand) (v:SV):eZ:=
 match x with
 | .tmp t=>xl env t v
 |_=>env
def wpS (p:iM) (lo:Nat):IR->(Nat->cB)->cq->(Out->cq->Prop)->Prop
 | .skip,_,st,Q=>Q .norm st
 | .region id draw k ops kz live pre post,_,st,Q=>splitK (p.sp id) st λst0=>zz p lo pre st0 λst1=>G7 p k ops kz st1 λst2=>zz p lo post ⟨G8 live st2.env,st2.o⟩ λHa=>Q .norm Ha
 | .seq a b,Λ,st,Q=>wpS p lo a Λ st λout s=>match out with
  | .norm=>wpS p lo b Λ s Q
  |o=>Q o s
 | .cond x a b,Λ,st,Q=>match jj st.env x with
  | .bl true=>wpS p lo a Λ ⟨xp x st.env,st.o⟩ Q
  | .bl false=>wpS p lo b Λ ⟨xp x st.env,st.o⟩ Q
  | .sb c=>(c=true->wpS p lo a Λ ⟨xp x st.env,st.o⟩ Q)/\(c=false->wpS p lo b Λ ⟨xp x st.env,st.o⟩ Q)
  |_=>False
 | .block id b,Λ,st,Q=>wpS p lo b Λ st λout s=>Q (out.inBlock id) s
 | .loop b,Λ,st,Q=>match Λ (vu b) with
  | .pO n=>G9 (wpS p lo b Λ) Q n st
  | .look=>Look st
  | .inv _ shape next J m inner=>(zA st (shape (next st))/\J (next st))/\∀x,J x->wpS p lo b (inner x) (shape x) λout s=>match out with
   | .norm=>zA (trimS (shape x).o.length s) (shape (next (trimS (shape x).o.length s)))/\J (next (trimS (shape x).o.length s))/\m (next (trimS (shape x).o.length s))<m x
   |o=>Q o s
 | .exit id,_,st,Q=>Q (.exit id) st
 | .ret,_,st,Q=>Q .ret st
 | .goto l,_,st,Q=>Q (.goto l) st
 | .oK x a b,Λ,st,Q=>match jj st.env x with
  | .bl true=>wpS p lo a Λ st Q
  | .bl false=>wpS p lo b Λ st Q
  | .sb c=>(c=true->wpS p lo a Λ ⟨CP st.env x (.bl true),st.o⟩ Q)/\(c=false->wpS p lo b Λ ⟨CP st.env x (.bl false),st.o⟩ Q)
  |_=>False
 | .turns none b,Λ,st,Q=>wpS p lo b Λ st λout s=>match out with
  | .goto _=>False
  |o=>Q o s
 | .turns (some l) b,Λ,st,Q=>match Λ (vu b) with
  | .inv _ shape next J m inner=>(zA st (shape (next st))/\J (next st))/\∀x,J x->wpS p lo b (inner x) (shape x) λout s=>match out with
   | .goto l'=>l'=l/\zA (trimS (shape x).o.length s) (shape (next (trimS (shape x).o.length s)))/\J (next (trimS (shape x).o.length s))/\m (next (trimS (shape x).o.length s))<m x
   |o=>Q o s
  |_=>Look st
 | .tt ..,_,_,_=>False
def nA:Nat->List SV->eZ
 |_,[]=>[]
 |i,v::a=>(i,v)::nA (i+1) a
def od (st:cq) (a:List nk) (K:SV->Prop):Prop:=
 goK a λl=>match l with
  |[v]=>K v
  |l=>K (.bH l)
where
 goK:List nk->(List SV->Prop)->Prop
  |[],K=>K []
  |r::a,K=>O0 r λv=>goK a λl=>K (v::l);O0 (r:nk) (K:SV->Prop):Prop:=match r.cell with
  |none=>K (jI st.env r.slot)
  |some n=>mQ st.o (jI st.env r.slot) n K
def sG (p:iM) (Λ:Nat->cB) (F:fj) (args:List SV) (Q:SV->Prop):Prop:=
 wpS p 0 F.body Λ ⟨nA 0 args,[]⟩ λa b=>match a with
  | .exit _=>False
  | .goto _=>False
  |_=>od b F.res λr=>rF b.o 6 r Q
def vx (p:iM) (Λ:Nat->cB) (F:fj) (args:List SV) (o:bW) (Q:SV->bW->Prop):Prop:=
 wpS p o.length F.body Λ ⟨nA 0 args,o⟩ λb a=>match b with
  | .exit _=>False
  | .goto _=>False
  |_=>od a F.res λr=>if r.bY o.length&&a.o.all (λx=>x.bY o.length)&&decide (o.length<=a.o.length) then Q r (a.o.take o.length) else False
def gE (env:eZ):jg:=env.map λp=>(p.1,p.2.g)
def gO (o:bW):Store:=o.map bq.g
def cq.g (st:cq):St:=⟨gE st.env,gO st.o⟩
theorem og:∀(env:eZ) (s:Nat),dI (gE env) s=(jI env s).g
 |[],_=>by simp[gE,dI,jI,γG];|p::r,s=>by
  have:=og r s;grind[gE,dI,jI]
theorem O1 (env:eZ) (d:Option Nat) (v:SV):gE (vo env d v)=oH (gE env) d v.g:=by
 cases d<;>simp[vo,oH,gE]
theorem O2 (v:Value):(SV.oU v).g= .sc v:=by cases v<;>simp[SV.oU,γG]
theorem He (l:List Value):(l.map SV.oU).map γG=l.map .sc:=by simp[O2]
theorem zC (env:eZ) (x:Operand):eC (gE env) x=(jj env x).g:=by
 cases x with
 |tmp t=>simp[eC,jj,og];|const v=>
  cases v<;>simp[eC,jj,AV.uP,SV.uP,γG];split<;>simp[γG,gi,O2];|global g=>simp[eC,jj,γG];|func f=>simp[eC,jj,γG,gL]
theorem O3 (env:eZ):eC (gE env)=λx=>(jj env x).g:=funext λx=>zC env x
theorem CQ (v:SV):v.g.cellsOf=gL v.cellsOf:=by
 cases v<;>simp[γG,AV.cellsOf,SV.cellsOf,gL]
theorem Zc (v:SV):v.g.one=v.one:=by
 cases v<;>simp[γG,AV.one,SV.one,Value.oneCell']
theorem CS (l:List SV):eF (gL l)=xj l:=by
 induction l<;>grind[gL,eF,xj,Zc]
theorem Hf:∀(l:List SV),zt l=true->dr (gL l)=true
 |[],_=>by simp[gL,dr];|v::l,h=>by
  simp only[zt,ζ] at h;simp only[gL,dr,Hf l h.2,δT];have a:=h.1;cases v<;>simp[SV.pure] at a<;>simp[γG,AV.pure,qD]
mutual
theorem zD (k:Nat):∀(v:SV),v.g.bY k=v.bY k
 | .agg c=>by simp only[γG,AV.bY,SV.bY];exact vy k c;| .bH c=>by simp only[γG,AV.bY,SV.bY];exact vy k c;| .fn _ a b=>by simp only[γG,AV.bY,SV.bY,vy k a,vy k b];| .ud| .sc _| .il .. | .si .. | .bl _| .sb _| .row .. | .ep .. | .ptr .. | .ap .. | .rp .. | .ow .. | .os .. | .oc .. | .mp _| .ia _ _| .ite _ _ _=>by simp[γG,AV.bY,SV.bY]
theorem vy (k:Nat):∀(l:List SV),dZ k (gL l)=sC k l
 |[]=>by simp[gL,dZ,sC];|v::l=>by simp only[gL,dZ,sC,zD k v,vy k l]
end
theorem Zd (k:Nat) {b sv:bk} (c:Bool) (es:List (b.T×sv.T)):dZ k ((es.map λp=>(oR b c p.1,mP sv p.2)).map (·.2))=true:=
 GZ λa h=>by
  simp only[δn,γg,Function.comp] at h;grind[mP,AV.bY]
theorem CU (k:Nat) (x:bq):x.g.bY k=x.bY k:=by
 cases x with
 |dead=>rfl;|cells n e m d=>simp[bq.g,bP.bY,bq.bY,vy];|row s l e d=>simp[bq.g,bP.bY,bq.bY,OS];|oQ s l e t=>
  have c:∀a b:List AV,dZ k (a++b)=(dZ k a&&dZ k b):=λa b=>by
   induction a<;>grind[dZ]
  grind[bq.g,bP.bY,bq.bY,OS,vy];|map i o f j h d=>simp only[bq.g,bP.bY,bq.bY,Zd,Bool.or_true]
mutual
theorem O4:∀(v:SV),v.kZ=true->v.g.kZ=true
 | .agg a,h=>by simp only[SV.kZ] at h;simp only[γG,AV.kZ];exact Hh a h;| .bH a,h=>by simp only[SV.kZ] at h;simp only[γG,AV.kZ];exact Hh a h;| .ud,_| .sc _,_| .il ..,_| .si ..,_| .bl _,_| .sb _,_=>by simp[γG,AV.kZ];| .row ..,h| .ep ..,h| .ptr ..,h| .ap ..,h| .rp ..,h| .ow ..,h| .os ..,h| .oc ..,h| .mp _,h| .fn ..,h| .ia _ _,h| .ite _ _ _,h=>by simp[SV.kZ] at h
theorem Hh:∀(l:List SV),CL l=true->uX (gL l)=true
 |[],_=>by simp[gL,uX];|v::l,h=>by
  simp only[CL,ζ] at h;simp only[gL,uX,O4 v h.1,Hh l h.2,δT]
end
theorem jJ (l:List SV):(gL l).length=l.length:=by simp[gi]
theorem t7 (l:List SV) (i:Nat):(gL l)[i]?=(l[i]?).map γG:=by simp[gi]
theorem vz (a b:List SV):gL (a++b)=gL a++gL b:=by simp[gi]
theorem CV {cs:List SV} {a:Nat} {n:Option Nat} {v:SV} (h:sD cs a n=some v):gp (gL cs) a n=some v.g:=by
 cases n with
 |none=>grind[sD,gp,t7];|some m=>
  simp only[sD] at h;split at h
  ·rename_i b;simp only[γ] at h;subst h;simp_all[gp,γG,gi]
  ·cases h
theorem zE:∀(vs cs:List SV) (a:Nat),gL (tW cs a vs)=fZ (gL cs) a (gL vs)
 |[],cs,a=>by simp[tW,gL,fZ];|v::vs,cs,a=>by
  simp only[tW,gL,fZ];rw[zE vs];simp_all[gi]
theorem Hj (cs:List SV):gL (cs.map SV.qn)=(gL cs).map AV.qn:=by
 simp_all[gi,Y9]
theorem Hk (pu:Bool) (cs:List SV):gL (if pu then cs.map SV.qn else cs)=eu pu (gL cs):=by
 grind[eu,Hj]
theorem Ze {c:AV} (h:Plain c.qn):c.one=true/\c.pure=true:=by
 by_cases a:c.qn=c
 ·rw[a] at h;exact⟨h.one,h.pure⟩
 ·unfold AV.qn at a;split at a;·exact⟨rfl,rfl⟩
  simp_all
theorem Hl {pu:Bool} {cs:List AV} (h:∀c∈eu pu cs,Plain c):eF cs=true/\dr cs=true:=by
 have b:∀c∈cs,c.one=true/\c.pure=true:=by
  intro c a;unfold eu at h;split at h;·grind[Ze]
  ·exact⟨(h c a).one,(h c a).pure⟩
 grind[eF,CH]
theorem Hm:∀(vs a b c:List AV) (d:Nat),d+vs.length<=b.length->fZ (a++b++c) (a.length+d) vs=a++fZ b d vs++c
 |[],a,b,c,d,_=>rfl
 |v::vs,a,b,c,d,h=>by
  simp only[γB] at h;simp only[fZ];have e:(a++b++c).set (a.length+d) v=a++b.set d v++c:=by
   grind
  rw[e,ζG,Hm vs a (b.set d v) c (d+1) (by simp;omega)]
theorem O5 {s:bk} {l:List s.T} {i:Nat} (h:i<l.length):cC s l=cC s (l.take i)++dN s (bj l i s.dflt)++cC s (l.drop (i+1)):=by
 have a:l=l.take i++l[i]::l.drop (i+1):=by simp
 grind[cM,cC]
theorem take_len {a:Type} {l:List a} {i:Nat} (h:i<l.length):(l.take i).length=i:=by simp;omega
theorem Zf {s:bk} {l:List s.T} {i a:Nat} {v:s.T} {vs:List AV} (h:i<l.length) (e:a+vs.length<=s.sz) (c:fZ (dN s (bj l i s.dflt)) a vs=dN s v):
  fZ (cC s l) (i*s.sz+a) vs=cC s (l.set i v):=by
 have d:(cC s (l.take i)).length=i*s.sz:=by rw[ft,take_len h]
 rw[O5 h,<-d,Hm _ _ _ _ _ (by grind[lY]),c];have b:i<(l.set i v).length:=by simpa using h
 rw[O5 b,cM b];simp[List.take_set_of_le,List.drop_set_of_lt]
theorem O6 {s:bk} {l:List s.T} {i b:Nat} {n:Option Nat} {v:SV} (h:i<l.length) (e:sD (encS s (bj l i s.dflt)) b n=some v):gp (cC s l) (i*s.sz+b) n=some v.g:=by
 have a:=CV e;rw[gi,tV] at a;have c:=Za (s:=s) h;have d:(cC s l).length=i*s.sz+(s.sz+(cC s (l.drop (i+1))).length):=by
  have:=congrArg γn c;grind[lY]
 cases n with
 |none=>
  simp only[gp] at a ⊢;rw[<-List.getElem?_drop,c,List.getElem?_append_left]<;>grind;|some m=>
  simp only[gp,lY] at a;split at a
  ·rename_i f;simp only[gp];rw[if_pos (by omega),<-γV,c,List.drop_append_of_le_length (by grind[lY]),List.take_append_of_le_length (by grind[lY])];exact a
  ·cases a
theorem iV {b:Type} {x:Option b} {K:b->Prop} (h:iN x K):∃a,x=some a/\K a:=by
 cases x with
 |none=>exact h.elim;|some a=>exact⟨a,rfl,h⟩
theorem Hn (o:bW) (i:Nat):(gO o)[i]?=(o[i]?).map bq.g:=by simp[gO]
theorem oh (o:bW):(gO o).length=o.length:=by simp[gO]
theorem qE (o:bW) (i:Nat) (x:bq):gO (o.set i x)=(gO o).set i x.g:=by simp[gO]
theorem fF {o:bW} {i:Nat} {x:bq} (h:o[i]?=some x):(gO o)[i]?=some x.g:=by grind[Hn]
theorem O7:∀{cs:List SV} {l:List Int},ints cs=some l->cs.length=l.length/\∀i,i<l.length->(cs[i]?).map γG=some (.sc (.int .i64 (bj l i 0))):=by
 intro cs l h;have a:=CC h;have c:cs.length=l.length:=by simpa using congrArg γn a
 refine⟨c,λi b=>?_⟩;have:=congrArg (λl=>l[i]?) a;simp only[List.getElem?_map] at this;rw[this,ν b,cM b];rfl
theorem O8:∀{cs:List SV} {l:List (List Off)},mQ.rowsOff cs=some l->cs.length=l.length/\∀i,i<l.length->cs[i]?=some (.row .off (bj l i []))
 |[],l,h=>by grind[mQ.rowsOff];|c::cs,l,h=>by
  cases c with
  |row s x=>
   cases s<;>simp only[mQ.rowsOff,reduceCtorEq] at h;obtain⟨e,a,rfl⟩:=δ.1 h;obtain⟨b,d⟩:=O8 a;grind[bj];|_=>simp[mQ.rowsOff] at h
theorem Zg {cs:List SV} {sz i:Nat} {n:Option Nat} {K:SV->Prop} (h:mQ.zu cs sz i n K) (d:i*sz<cs.length):∃v,gp (gL cs) (i*sz) n=some v.g/\K v:=by
 unfold mQ.zu at h;split at h
 ·rw[Nat.mul_one] at d ⊢;split at h
  ·rename_i l a;obtain⟨b,c⟩:=O7 a;grind[gp,t7,γG]
  ·split at h
   ·rename_i l a;obtain⟨b,c⟩:=O8 a;grind[gp,t7]
   simp_all
 simp_all
theorem Zh {cs:List AV} {base a m:Nat} {v:AV} (h:gp ((cs.drop base).take m) a none=some v):gp cs (base+a) none=some v:=by
 grind[gp]
theorem O9 {o:bW} {a:SV} {n:Option Nat} {K:SV->Prop} (h:mQ o a n K):∃cs b v,behind (gO o) a.g=some (cs,b)/\gp cs b n=some v.g/\K v:=by
 cases a with
 |ptr x b t=>
  simp only[mQ] at h;split at h
  ·rename_i cs e f z y;split at h
   ·rename_i D;obtain⟨v,k,j⟩:=iV h;exact⟨gL cs,b,v,by simp_all[behind,γG,fF,bq.g,jJ],CV k,j⟩
   simp_all
  simp_all;|ap x c f d t i=>
  simp only[mQ] at h;split at h
  ·rename_i cs e A z y;split at h
   ·rename_i D;obtain⟨C,p⟩:=h;have w:(i+1)*f<=d*f:=γK _ C;rw[Nat.succ_mul] at w;have F:f*d=d*f:=Nat.mul_comm ..;by_cases E:f=0;·grind[mQ.zu]
    ·have q:i*f<((cs.drop c).take (f*d)).length:=by grind
     obtain⟨v,k,j⟩:=Zg p q;have B:n=none:=by
      grind[mQ.zu]
     subst B;refine⟨gL cs,c+i*f,v,by simp_all[behind,γG,fF,bq.g,jJ],?_,j⟩;have:gL ((cs.drop c).take (f*d))=((gL cs).drop c).take (f*d):=by simp[gi]
     grind[Zh]
   simp_all
  simp_all;|ep s l i b=>
  simp only[mQ] at h;obtain⟨u,p⟩:=h;obtain⟨v,k,j⟩:=iV p;exact⟨cC s l,i*s.sz+b,v,by simp[behind,γG],O6 u k,j⟩;|rp x i b m f=>
  simp only[mQ] at h;split at h
  ·rename_i s l e z y;split at h
   ·rename_i r;subst r;obtain⟨w,u,p⟩:=h;obtain⟨v,k,j⟩:=iV p;exact⟨cC s l,i*s.sz+b,v,by simp_all[behind,γG,fF,bq.g,ft],O6 u k,j⟩
   simp_all
  simp_all;|_=>simp only[mQ] at h
theorem Pe (o:Store) (d:Nat) {v:Value} (h:v≠ .slice none 0 0):freeze o d (.sc v)=some (.sc v):=by
 grind[freeze]
theorem Pg (o:Store) (d:Nat) {a:AV} (h:Plain a):freeze o d a=some a:=by
 rcases h with⟨v,rfl,_,h⟩|⟨n,b,rfl,_⟩<;>grind[Pe,freeze]
theorem Ho {f:AV->Option AV}:∀{l:List AV},(∀a∈l,f a=some a)->l.mapM f=some l
 |[],_=>by simp;|a::l,h=>by simp[List.mapM_cons,h a (by simp),Ho (l:=l) λb c=>h b (by simp[c])]
theorem xq {o:Store} {d:Nat} {f:SV->(SV->Prop)->Prop} (c:∀v K,f v K->∃b:SV,freeze o d v.g=some b.g/\K b):
  ∀{l:List SV} {K:List SV->Prop},vq f l K->∃a,(gL l).mapM (freeze o d)=some (gL a)/\K a
 |[],K,h=>⟨[],by simp[gL],h⟩
 |v::l,K,h=>by
  obtain⟨b,j,i⟩:=c v _ h;obtain⟨a,k,e⟩:=xq c i;exact⟨b::a,by simp_all[gL],e⟩
theorem zF {s:bk} {l:List s.T} {b a:Nat}:((cC s l).drop (b*s.sz)).take (a*s.sz)=cC s ((l.drop b).take a):=by
 rw[G0,OU]
theorem Hq {o:bW}:∀{d:Nat} {v:SV} {K:SV->Prop},rF o d v K->∃y,freeze (gO o) d v.g=some y.g/\K y:=by
 intro d;induction d with
 |zero=>
  intro v K h;cases v<;>simp only[rF] at h<;>grind[rF,γG,freeze,cC,Pe];|succ d p=>
  intro v K h;cases v<;>simp only[rF] at h;case sc v=>
   grind[γG,freeze,cC]
  case agg B=>
   obtain⟨A,z,r⟩:=xq (λv K m=>p m) h;grind[γG,freeze]
  case bH B=>
   obtain⟨A,z,r⟩:=xq (λv K m=>p m) h;grind[γG,freeze]
  case fn f a b=>
   obtain⟨I,z,r⟩:=xq (λv K m=>p m) h;obtain⟨J,L,H⟩:=xq (λv K m=>p m) r;grind[γG,freeze]
  case ow E n F=>
   split at h
   ·rename_i s l e G w;split at h
    ·rename_i k;obtain⟨rfl,t⟩:=h;subst k;refine⟨_,?_,t⟩;have i:(cC s l).mapM (freeze (gO o) d)=some (cC s l):=Ho λa C=>by
      grind[Pg,ny]
     have D:γa (l.length*s.sz) (cC s l)=cC s l:=γh (by grind[ft]);simp_all[γG,freeze,fF,bq.g,ft,qD]
    simp_all
   simp_all
  case os E j c n F=>
   split at h
   ·rename_i s l e G w;split at h
    ·rename_i k;obtain⟨rfl,u,t⟩:=h;subst k;refine⟨_,?_,t⟩;have i:(cC s ((l.drop j).take c)).mapM (freeze (gO o) d)=some (cC s ((l.drop j).take c)):=Ho λa C=>by
      grind[Pg,ny]
     have x:(j+c)*s.sz<=l.length*s.sz:=γK _ u;rw[εs] at x;have q:((l.drop j).take c).length=c:=by simp;omega
     simp only[γG,freeze,fF w,bq.g,ft,x,and_self,if_true,zF,i,qD,q];simp_all
    simp_all
   simp_all
  all_goals grind[γG,freeze]
theorem CW {k:IntKind} {n:Int} (h:bV k n):eQ k n=n:=by
 cases k<;>simp only[bV,eQ] at h ⊢<;>simp_all
theorem nB {c:Prop} [Decidable c] {A:Prop} (h:if c then A else False):c/\A:=by
 simp_all
theorem agY {b:Int} {k:Nat} (h:b<=k):min b.toNat k=b.toNat:=by omega
theorem Zi (a b:Int):(a==b)=decide (a=b):=rfl
theorem Zj (a b:Int):(a !=b)=decide (a≠b):=by
 grind
theorem zG {k:IntKind} {n:Int} {K:Int->Prop} (h:vp k n K):K (eQ k n):=by
 have a:k= .u32->eQ k n=n % 4294967296:=by
  grind[tJ,IntKind.wrap,IntKind.bits,IntKind.signed]
 have b:k= .u64->eQ k n=n % 18446744073709551616:=by
  grind[tJ,IntKind.wrap,IntKind.bits,IntKind.signed]
 unfold vp at h;grind[CW]
theorem go_sound {e:BinOp} {k i:IntKind} {a b:Int} {K:SV->Prop} (h:eJ.go e K k a i b):∃v f:_,gK e (.int k a) (.int i b)=some v/\f.g= .sc v/\K f:=by
 cases e<;>simp only[eJ.go] at h;case shl=>
  obtain⟨j,m,l⟩:=h;refine⟨.int k (eQ k (a*2^b.toNat)),.si k (eQ k (a*2^b.toNat)),?_,rfl,zG l⟩;simp_all[gK,Gf]
 case shr=>
  obtain⟨j,m,n⟩:=h;refine⟨.int k (a / 2^b.toNat),_,?_,rfl,n⟩;have:a.fdiv (2^b.toNat)=a / 2^b.toNat:=Int.fdiv_eq_ediv_of_nonneg _ (by grind);simp_all[gK,Gf]
 case add=>
  obtain⟨d,c⟩:=nB h;subst d;exact⟨.int k (eQ k (a+b)),.si k (eQ k (a+b)),by simp only[gK,if_true,lv],rfl,zG c⟩
 case sub=>
  obtain⟨d,c⟩:=nB h;subst d;exact⟨.int k (eQ k (a - b)),.si k (eQ k (a - b)),by simp only[gK,if_true,lv],rfl,zG c⟩
 case mul=>
  obtain⟨d,c⟩:=nB h;subst d;exact⟨.int k (eQ k (a*b)),.si k (eQ k (a*b)),by simp only[gK,if_true,lv],rfl,zG c⟩
 case quo=>
  obtain⟨d,c⟩:=nB h;subst d;exact⟨.int k (a.tdiv b),_,by simp_all[gK,lv,CW],rfl,c.2.2⟩
 case rem=>
  obtain⟨d,c⟩:=nB h;subst d;exact⟨.int k (a.tmod b),_,by simp_all[gK,lv],rfl,c.2⟩
 case and=>
  obtain⟨d,c⟩:=nB h;subst d;exact⟨.int k (eJ.rG k a b),_,by simp only[gK,if_true,lv,eJ.rG],rfl,c⟩
 case or=>
  obtain⟨d,c⟩:=nB h;subst d;exact⟨.int k (eJ.nZ k a b),_,by simp only[gK,if_true,lv,eJ.nZ],rfl,c⟩
 case xor=>
  obtain⟨d,c⟩:=nB h;subst d;exact⟨.int k (eJ.G2 k a b),_,by simp only[gK,if_true,lv,eJ.G2],rfl,c⟩
 case andNot=>
  obtain⟨d,c⟩:=nB h;subst d;exact⟨.int k (eJ.pN k a b),_,by simp only[gK,if_true,lv,eJ.pN],rfl,c⟩
 case eql=>
  obtain⟨d,c⟩:=nB h;subst d;exact⟨.bool (decide (a=b)),_,by simp_all[gK,lv,Zi],rfl,c⟩
 case neq=>
  obtain⟨d,c⟩:=nB h;subst d;exact⟨.bool (decide (a≠b)),_,by simp_all[gK,lv,Zj],rfl,c⟩
 case lss=>
  obtain⟨d,c⟩:=nB h;subst d;exact⟨.bool (decide (a<b)),_,by simp only[gK,if_true,lv],rfl,c⟩
 case leq=>
  obtain⟨d,c⟩:=nB h;subst d;exact⟨.bool (decide (a<=b)),_,by simp only[gK,if_true,lv],rfl,c⟩
 case gtr=>
  obtain⟨d,c⟩:=nB h;subst d;exact⟨.bool (decide (b<a)),_,by simp only[gK,if_true,lv],rfl,c⟩
 case geq=>
  obtain⟨d,c⟩:=nB h;subst d;exact⟨.bool (decide (b<=a)),_,by simp only[gK,if_true,lv],rfl,c⟩
theorem Zk {j:BinOp} {x y:SV} {K:SV->Prop} (h:eJ j x y K):∃a b v c,x.g= .sc a/\y.g= .sc b/\gK j a b=some v/\c.g= .sc v/\K c:=by
 unfold eJ at h;split at h
 ·split at h;·rename_i i;exact⟨_,_,_,_,rfl,rfl,i,rfl,h⟩
  ·rename_i i;exact⟨_,_,_,_,rfl,rfl,i,rfl,h⟩
  simp_all
 ·obtain⟨v,c,d,e,f⟩:=go_sound h;exact⟨_,_,v,c,rfl,rfl,d,e,f⟩
 ·obtain⟨v,c,d,e,f⟩:=go_sound h;exact⟨_,_,v,c,rfl,rfl,d,e,f⟩
 ·obtain⟨v,c,d,e,f⟩:=go_sound h;exact⟨_,_,v,c,rfl,rfl,d,e,f⟩
 ·split at h;·exact⟨_,_,_,_,rfl,rfl,by grind[gK],rfl,h⟩
  ·exact⟨_,_,_,_,rfl,rfl,by grind[gK],rfl,h⟩
  simp_all
 simp_all
theorem zH {k:IntKind} {a b:Int}:seq1 (.int k a) (.int k b)=some (decide (a=b)):=by
 simp only[seq1,if_true,γ];rfl
theorem Zl {x y:SV} {r:Bool} (h:G3 x y=some r):∃a b,x.g= .sc a/\y.g= .sc b/\seq1 a b=some r:=by
 cases x<;>simp only[G3,reduceCtorEq] at h;all_goals
  obtain⟨b,c,rfl⟩:=δ.1 h;first
   |exact⟨_,_,rfl,gU c,zH⟩;|exact⟨_,_,rfl,xi c,by simp[seq1]⟩
theorem Ph:∀{x y:List SV} {r:Bool},tY x y=some r->∃a b,gL x=a.map .sc/\gL y=b.map .sc/\gq a b=some r
 |[],[],r,h=>by simp[tY] at h;subst h;exact⟨[],[],rfl,rfl,rfl⟩;|[],_::_,r,h=>by grind[tY];|_::_,[],r,h=>by grind[tY];|x::l,y::n,r,h=>by
  simp only[tY] at h;split at h
  ·rename_i a b e f;simp only[γ] at h;subst h;obtain⟨u,v,g,j,k⟩:=Zl e;obtain⟨d,c,i,o,m⟩:=Ph f;exact⟨u::d,v::c,by grind[gL],by grind[gL],by grind[gq]⟩
  ·cases h
theorem Hr:∀(l:List Value),sr (l.map .sc)=some l
 |[]=>rfl
 |v::l=>by simp[sr,Hr l]
theorem t8:∀{a b:List Value},a.map δg=b.map δg->a=b
 |[],[],_=>rfl
 |[],_::_,h=>by simp at h;|_::_,[],h=>by simp at h;|x::a,y::b,h=>by
  simp only[ι,ξ,γX] at h;rw[h.1,t8 h.2]
theorem vA:∀{e:List Nat} {x:List SV} {a:List Value},lB e x=true->gL x=a.map .sc->ey e a=true
 |[],[],a,_,h=>by
  cases a with
  |nil=>rfl;|cons a i=>simp[gL] at h
 |[],_::_,a,h,_=>by grind[lB];|_::_,[],a,h,_=>by grind[lB];|k::e,x::j,a,h,f=>by
  cases a with
  |nil=>grind[gL];|cons a i=>
   simp only[gL,ι,ξ] at f;obtain⟨c,d⟩:=f;match k,x,h with
   |0,.si k n,h=>simp only[lB] at h;simp only[γG,γX] at c;subst c;simpa[ey] using vA h d;|0,.il k n,h=>simp only[lB] at h;simp only[γG,γX] at c;subst c;simpa[ey] using vA h d;|1,.sb b,h=>simp only[lB] at h;simp only[γG,γX] at c;subst c;simpa[ey] using vA h d;|1,.bl b,h=>simp only[lB] at h;simp only[γG,γX] at c;subst c;simpa[ey] using vA h d
theorem Zm {c:List Nat} {a b:List SV} {r:Bool} (d:(lB c a&&lB c b)=true) (h:tY a b=some r):wG c (gL a) (gL b)=some r:=by
 obtain⟨u,v,f,e,g⟩:=Ph h;simp only[ζ] at d;rw[f,e];simp only[wG,Hr,vA d.1 f,vA d.2 e,Bool.and_self,if_true,g]
theorem Zn {s s':bk} {l:List s.T} {a:List s'.T} (h:iI s s' l=some a):s=s'/\HEq l a:=by
 unfold iI at h;grind
theorem zI {s s':bk} {l:List s.T} {l':List s'.T} (h:iI s s' l=some l'):s'=s/\cC s' l'=cC s l/\l'.length=l.length:=by
 grind[Zn]
theorem Ht:∀{a:List (Nat×Nat×SV)} {cs b:List SV},sE a cs=some b->lz (a.map λq=>(q.1,q.2.1,q.2.2.g)) (gL cs)=some (gL b)
 |[],cs,b,h=>by simp[sE] at h;subst h;rfl;|(d,n,v)::r,cs,b,h=>by
  simp only[sE] at h;split at h
  ·rename_i c;obtain⟨i,f,e⟩:=c;have:=Ht h;simp_all[lz,CQ,jJ,CS,zE]
  ·cases h
theorem CX {s:bk}:∀{n:Nat} {cs:List SV} {l:List s.T},tX s n cs=some l->gL cs=cC s l/\l.length=n
 |0,[],l,h=>by grind[tX,gL,cC];|0,_::_,l,h=>by simp[tX] at h;|n+1,cs,l,h=>by
  simp only[tX] at h;split at h
  ·rename_i x f a b;simp only[γ] at h;subst h;obtain⟨d,c⟩:=CX b;have e:=nY a;refine⟨?_,by simp[c]⟩;rw[gi] at d ⊢;conv=>lhs;rw[<-Δ s.sz cs]
   grind[cC]
  ·cases h
theorem Zo {o:bW} {s:bk} {x:SV} {K:List s.T->Prop} (h:vr o s x K):∃l,nj (gO o) s.sz x.g=some (l.length,cC s l)/\K l:=by
 cases x with
 |row q l=>
  simp only[vr] at h;obtain⟨f,c,w⟩:=iV h;obtain⟨rfl,p,m⟩:=zI c;exact⟨f,by simp_all[γG,nj,ft],w⟩;|ow y n u=>
  simp only[vr] at h;split at h
  ·rename_i q l e A B;split at h
   ·rename_i b;subst b;obtain⟨rfl,k⟩:=h;obtain⟨f,c,i⟩:=iV k;obtain⟨rfl,p,m⟩:=zI c;refine⟨f,?_,i⟩;have t:γa (l.length*s.sz) (cC s l)=cC s l:=γh (by grind[ft]);simp_all[γG,nj,fF,bq.g,ft]
   simp_all
  simp_all;|os y d a n u=>
  simp only[vr] at h;split at h
  ·rename_i q l e A B;split at h
   ·rename_i b;subst b;obtain⟨rfl,j,k⟩:=h;obtain⟨f,c,i⟩:=iV k;obtain⟨rfl,p,m⟩:=zI c;refine⟨f,?_,i⟩;have r:(d+a)*s.sz<=l.length*s.sz:=γK _ j;rw[εs] at r;have z:((l.drop d).take a).length=a:=by simp;omega
    simp_all[γG,nj,fF,bq.g,ft,zF]
   simp_all
  simp_all;|sc v=>
  grind[vr,γG,nj,cC];|_=>simp only[vr] at h
theorem Hu {v:SV} {n:Int} (h:zw v=some n):gZ v.g=some n:=by
 cases v<;>simp[zw] at h<;>simp[γG,gZ,h]
theorem pP {d:Nat} {x:Option SV} {K:Nat->Prop} (h:oa d x K):∃n,hJ d (x.map γG)=some n/\K n:=by
 unfold oa at h;grind[γG,hJ]
theorem vB {bB:Nat} {x:bq} {o:bW} {K:bW->Prop} (h:mkK bB x o K):∃o',kX bB x.g (gO o)=some (gO o')/\K o':=by
 grind[mkK,kX,fF,bq.g,qE]
theorem Zp {s:bk} (e:s.keyed=true) (x y:s.T):gq (dJ s x) (dJ s y)=some (decide (x=y)):=by
 cases s<;>simp only[bk.keyed,reduceCtorEq] at e;·grind[dJ,gq,zH]
 ·obtain⟨b,⟨m,o,a,l,c,i⟩⟩:=x;obtain⟨g,⟨k,h,j,n,d,f⟩⟩:=y;simp_all[dJ,iv,gq,zH]
 ·obtain⟨b,⟨m,o,a,l,c,i⟩,⟨C,t,B,A,D,w⟩⟩:=x;obtain⟨g,⟨k,h,j,n,d,f⟩,⟨p,z,r,u,v,q⟩⟩:=y;simp only[dJ,iv,gq,zH,γ,δT];grind
theorem Zq {s:bk} {a:Bool} (d:s.keyed=true) (b:a=false->s.sz=1) (x y:s.T):keq (oR s a x) (oR s a y)=some (decide (x=y)):=by
 cases a with
 |true=>grind[oR,keq,Zp];|false=>
  have c:=b rfl;cases s<;>simp only[bk.keyed,reduceCtorEq] at d<;>simp only[bk.sz,reduceCtorEq,Nat.reduceEqDiff] at c;simp_all[oR,dJ,keq,zH]
theorem Hv {a sv:bk} {c:Bool} (f:a.keyed=true) (e:c=false->a.sz=1) (x:a.T):∀(es:List (a.T×sv.T)) (i:Nat),
  ∃r,nV (oR a c x) (es.map λp=>(oR a c p.1,mP sv p.2)) i=some r/\(match j4 a sv x es with|some v=>∃j,r=some (i+j,mP sv v)/\(∃p,es[j]?=some p/\p.1=x)/\(∀g<j,∀p,es[g]?=some p->p.1≠x)|none=>r=none/\∀p∈es,p.1≠x)
 |[],i=>⟨none,by simp[nV],by simp[j4]⟩
 |p::es,i=>by
  simp only[ι,nV,Zq f e];by_cases b:p.1=x
  ·refine⟨some (i,mP sv p.2),by simp[b],?_⟩;simp only[j4,List.find?_cons,b,decide_true,γm];exact⟨0,by simp,⟨p,by simp,b⟩,by simp⟩
  ·obtain⟨r,m,k⟩:=Hv f e x es (i+1);have d:¬x=p.1:=λh=>b h.symm;refine⟨r,by simp[d,m],?_⟩;have n:j4 a sv x (p::es)=j4 a sv x es:=by grind[j4]
   rw[n];split at k
   ·obtain⟨j,w,⟨q,t,l⟩,o⟩:=k;refine⟨j+1,by grind,⟨q,by simp_all,l⟩,λg u s y=>?_⟩;grind
   grind
theorem Hw {a sv:bk} {x:a.T} {v:sv.T}:∀{es:List (a.T×sv.T)},(∀p∈es,p.1≠x)->nz a sv x v es=es++[(x,v)]
 |[],_=>rfl
 |p::es,h=>by
  simp only[nz,if_neg (h p (by simp)),γF];rw[Hw λq b=>h q (by simp[b])]
theorem Pj {a sv:bk} {x:a.T} {v:sv.T}:∀{es:List (a.T×sv.T)} {j:Nat},(∃p,es[j]?=some p/\p.1=x)->(∀b<j,∀p,es[b]?=some p->p.1≠x)->nz a sv x v es=es.modify j λ_=>(x,v)
 |[],j,⟨p,h,_⟩,_=>by simp at h;|p::es,0,⟨q,h,d⟩,_=>by
  grind[nz];|p::es,j+1,⟨q,h,d⟩,c=>by
  have g:=c 0 (by omega) p (by simp);simp only[nz,if_neg g,ζv];rw[Pj (j:=j) ⟨q,by simpa using h,d⟩ λb i e f=>c (b+1) (by omega) e (by simp_all)]
theorem Pm {f:List Nat} {d:Bool} {s:bk} {v:SV} {x:s.T} (e:lB f v.cellsOf=true) (o:vt d v=true) (p:s.flat=true) (n:jH s v.cellsOf=some x):ly f d v.g=some (oR s d x):=by
 have k:=nY n;have c:gL v.cellsOf=(dJ s x).map .sc:=by grind[gi,CB]
 have i:=vA e c;by_cases l:∃h,v= .agg h
 ·obtain⟨h,rfl⟩:=l;simp_all[SV.cellsOf,vt,γG,ly,Hr,oR]
 ·have b:d=false:=by
   simp_all[vt]
  subst b;have j:v.cellsOf=[v]:=by
   cases v<;>first|rfl|simp_all
  rw[j] at c;simp only[gL] at c;cases m:dJ s x with
  |nil=>simp_all;|cons a r=>
   rw[m] at c i;simp only[ι,ξ] at c;simp_all[ly,oR]
theorem Pn {s:bk} (h:s.xh=true) (x:s.T):((encS s x).headD .ud).g=mP s x:=by
 cases s<;>simp[bk.xh] at h<;>simp[encS,mP,dJ,γG]
theorem Po {s:bk} (h:s.xh=true) (x:s.T):dN s x=[mP s x]:=by
 cases s<;>simp[bk.xh] at h<;>simp[dN,mP,dJ]
theorem Pq {s:bk} (h:s.keyed=true):s.flat=true:=by
 cases s<;>simp[bk.keyed] at h<;>rfl
structure pQ (call:cV) (C:OV):Prop where
 pure:∀f args K,C.pure f args K->∃r:SV,call f (gL args) [] false=some (r.g,[])/\K r
 own:∀f args o K,C.own f args o K->∃(r:SV) (o':bW),iH call f (gL args) (gO o)=some (r.g,gO o')/\K r o'
section
variable {call:cV} {p:iM} {o:bW} {bB:Nat} {K:SV->bW->Prop}
theorem Hy (j:pQ call p.C) {f:FuncId} {args:List SV} {own:Bool} (h:eK.zx p f args o own K):
  ∃(v:SV) (o':bW),gA call f (gL args) (gO o) own=some (v.g,gO o')/\K v o':=by
 unfold eK.zx at h;split at h
 ·rename_i c;obtain⟨r,o',k,e⟩:=j.own _ _ _ _ h;exact⟨r,o',by simp_all[gA],e⟩
 ·rename_i c;have c:own=false:=by simp_all
  subst c;obtain⟨b,k,e⟩:=xq (o:=gO o) (d:=6) (λv K m=>Hq m) h;obtain⟨r,l,i⟩:=j.pure _ _ _ e;split at i
  ·rename_i a;refine⟨r,o,?_,i⟩;simp only[gA,χ,if_false,k,l];rw[if_pos];simp only[δp] at a ⊢;rcases a with a|a
   ·left;rw[gi,List.flatMap_map];exact a
   grind[O4]
  simp_all
theorem CY (ρ:Operand->SV) (l:List Operand):gL (l.map ρ)=l.map λx=>(ρ x).g:=by simp[gi]
theorem Zr {a:List (Nat×Nat×Operand)} {ρ:Operand->SV} {cs b:List SV} (h:sE (a.map λq=>(q.1,q.2.1,ρ q.2.2)) cs=some b):
  lz (a.map λq=>(q.1,q.2.1,(ρ q.2.2).g)) (gL cs)=some (gL b):=by
 have:=Ht h;grind[δe]
theorem Hz {a:List (Nat×Operand)} {sz:Nat} {ρ:Operand->SV} {cs b:List SV} (h:sE (a.map λq=>(q.1,sz,ρ q.2)) cs=some b):
  lz (a.map λq=>(q.1,sz,(ρ q.2).g)) (gL cs)=some (gL b):=by
 have:=Ht h;grind[δe]
theorem HA (z:List Value):gL (z.map SV.oU)=z.map .sc:=by rw[gi,He]
theorem HB (a:Nat) (z:List Value):gL ((ε a (z.map SV.oU)).flatten)=(ε a (z.map δg)).flatten:=by
 rw[gi,List.map_flatten,List.map_replicate,He]
theorem Zs (s:bk) (x:s.T) (n:Nat):(ε n (dN s x)).flatten=cC s (ε n x):=by
 induction n<;>grind[cC]
theorem zJ {ρ:Operand->SV} (l:Option Operand):(l.map ρ).map γG=l.map λx=>(ρ x).g:=by cases l<;>rfl
theorem Zt:∀{l:List Int} {i:Nat} {v:Int},i<l.length->fZ (l.map λn=>δg (iv n)) 0 ((l.set i v).map λn=>δg (iv n))=(l.map λn=>δg (iv n)).set i (.sc (iv v)):=by
 intro l i v e;have d:∀(b a c:List AV),b.length=c.length->fZ (a++c) a.length b=a++b:=by
  intro b;induction b with
  |nil=>grind[fZ];|cons w b f=>
   intro a c h;cases c with
   |nil=>simp at h;|cons y c=>
    simp only[γB,ζg] at h;simp only[fZ];have:(a++y::c).set a.length w=(a++[w])++c:=by
     simp_all
    grind
 have:=d ((l.set i v).map λn=>δg (iv n)) [] (l.map λn=>δg (iv n)) (by simp);simp_all
theorem Pv {b c:Type} (f:b->c) (x:b):∀(l:List b) (j:Nat),(l.modify j λ_=>x).map f=(l.map f).modify j λ_=>f x
 |[],j=>by simp;|a::l,0=>by simp_all;|a::l,j+1=>by simp only[ζv,ι,Pv f x l j]
theorem Zu (v:Value):(δg v).cellsOf=[.sc v]:=rfl
theorem Px:∀{l:List Int} {i j:Nat} {v:Int},tZ l (i+j) v j=l.set i v
 |[],_,_,_=>rfl
 |a::l,0,j,v=>by
  have h:∀(l:List Int) (c:Nat),j<c->tZ l j v c=l:=by
   intro l;induction l with
   |nil=>intro _ _;rfl;|cons b l d=>intro c e;simp only[tZ,if_neg (show ¬j=c by omega),d (c+1) (by omega)]
  simp_all[tZ];|a::l,i+1,j,v=>by
  simp only[tZ,if_neg (show ¬i+1+j=j by omega),List.set_cons_succ];rw[show i+1+j=i+(j+1) from by omega,Px]
theorem Zv {ρ:Operand->SV} {n:Nat} {a x:Operand} (h:eK p (.store n a x) ρ o bB K):
  ∃(v:SV) (o':bW),bK call (.store n a x) (λx=>(ρ x).g) (gO o) bB=some (v.g,gO o')/\K v o':=by
 simp only[eK] at h;split at h
 ·rename_i W b L B;split at h
  ·rename_i f e Y E z;split at h
   ·rename_i D;obtain⟨V,C,X,P,R⟩:=D;refine⟨.ud,_,?_,h⟩;simp only[bK,B,γG,fF z,bq.g,CQ,jJ,CS];rw[if_pos ⟨V,C,X,P,R.imp (λq=>q) λhp=>Hf _ hp⟩,qE,bq.g,zE,Hk]
   simp_all
  simp_all
 ·rename_i W i b m Y B;split at h
  ·rename_i s l e E z;split at h
   ·rename_i D;obtain⟨rfl,C,X⟩:=D;obtain⟨rfl,N,P⟩:=h;obtain⟨v,hv,R⟩:=iV P;refine⟨.ud,_,?_,R⟩;have T:=nY hv;rw[<-gi,zE,Hk] at T;have O:gL (encS s (bj l i s.dflt))=dN s (bj l i s.dflt):=by rw[gi,tV]
    rw[O] at T;have y:(i+1)*s.sz<=l.length*s.sz:=γK _ N;rw[Nat.succ_mul] at y;have u:∀c∈eu E (gL (ρ x).cellsOf),Plain c:=by
     intro c hc;obtain⟨j,hj⟩:=List.mem_iff_getElem?.1 hc;have U:=(θ.1 hj).1;rw[tG,jJ,C] at U;have a1:(fZ (dN s (bj l i s.dflt)) b (eu E (gL (ρ x).cellsOf)))[b+j]?=some c:=by
      have a0:∀(r f:List AV) (b j:Nat) (c:AV),r[j]?=some c->b+r.length<=f.length->(fZ f b r)[b+j]?=some c:=by
       intro r;induction r with
       |nil=>simp_all;|cons w r ih=>
        intro f b j c h M;simp only[γB] at M;simp only[fZ];cases j with
        |zero=>
         simp only[List.getElem?_cons_zero,γ] at h;subst h;have F:∀(r f:List AV) (Z k:Nat),k<Z->(fZ f Z r)[k]?=f[k]?:=by
          intro r;induction r<;>grind[fZ]
         grind;|succ j=>
         have:=ih (f.set b w) (b+1) j c (by simpa using h) (by simp;omega);grind
      grind[tG,jJ,lY]
     grind[zr]
    obtain⟨G,Q⟩:=Hl u;simp only[bK,B,γG,fF z,bq.g,CQ,ft,jJ];rw[if_pos ⟨trivial,C,G,by omega,.inr Q⟩,qE,bq.g,Zf N (by grind[tG,jJ]) T]
   simp_all
  simp_all
 ·rename_i W d Y t L i B;split at h
  ·rename_i f e a3 E z;split at h
   ·rename_i v H;split at h
    ·rename_i l M;split at h
     ·rename_i D;obtain⟨V,C⟩:=D;rw[show tZ l i v 0=l.set i v from Px (j:=0)] at h;obtain⟨N,hk⟩:=h;refine⟨.ud,_,?_,hk⟩;have S:(ρ x).cellsOf=[ρ x]:=by
       cases hr:ρ x<;>rw[hr] at H<;>simp[SV.int] at H<;>rfl
      have I:(ρ x).g= .sc (iv v):=gU H;have A:=CC M;have a2:l.length=t:=by
       have:=congrArg γn A;grind
      have J:gL f=gL (f.take d)++(l.map λn=>δg (iv n))++gL (f.drop (d+t)):=by
       rw[<-A,gi,gi,gi,<-γd,<-γd];congr 1;rw[<-γV,List.append_assoc,Δ,Δ]
      have a4:(gL (f.take d)).length=d:=by grind[jJ]
      have hq:eu E [δg (iv v)]=[δg (iv v)]:=by unfold eu;split<;>rfl
      simp only[bK,B,γG,fF z,bq.g,I,Zu,List.length_singleton,jJ,hq];rw[if_pos ⟨V,trivial,by simp[eF,AV.one,iv,Value.oneCell'],by omega,.inr (by simp[dr,AV.pure])⟩,qE,bq.g,zE];congr 4;have e1:gL ((l.set i v).map (SV.si .i64))=(l.set i v).map λn=>δg (iv n):=by
       rw[gi,δn];rfl
      rw[e1,J];have hm:=Hm ((l.set i v).map λn=>δg (iv n)) (gL (f.take d)) (l.map λn=>δg (iv n)) (gL (f.drop (d+t))) 0 (by simp);grind[Zt,fZ]
     simp_all
    simp_all
   simp_all
  simp_all
 simp_all
theorem Zw {ρ:Operand->SV} {e:TypeId} {sz b:Nat} {s x:Operand} {pu:Bool} (h:eK p (.append e sz b s x pu) ρ o bB K):
  ∃(v:SV) (o':bW),bK call (.append e sz b s x pu) (λx=>(ρ x).g) (gO o) bB=some (v.g,gO o')/\K v o':=by
 simp only[eK] at h;split at h
 ·rename_i t tl U a;split at h
  ·rename_i S n G j m R k M;split at h
   ·rename_i O l Z I H;split at h
    ·rename_i F;obtain⟨rfl,q,rfl,rfl,rfl,rfl,i,w⟩:=F;obtain⟨rfl,C,y,B⟩:=h;rw[M] at a;unfold OW at a;split at a
     ·rename_i j' W Y;injection Y with e1 N e3;subst e1 N e3;split at a
      ·rename_i s2 N L D;split at a
       ·rename_i A;injection a with a;subst a;refine⟨_,_,?_,B⟩;have E:nj (gO o) t.sz (.os j 0 1 (1*t.sz))=some (1,gL L):=by
         simp only[nj,fF D,bq.g,cC,ζp,δf,jJ];rw[if_pos ⟨by omega,A,by omega⟩,δV,γh (by grind[jJ])]
        have J:eF (gL L)=true:=by grind[CS]
        simp only[bK,k,M,γG,qp];simp only[E,J,ζH,if_false,fF H,bq.g,ft,q];rw[if_pos ⟨trivial,trivial,trivial,trivial,C,y,.inl trivial⟩,qE,bq.g];grind
       ·cases a
      ·cases a
     ·cases a
    simp_all
   simp_all
  simp_all
 ·rename_i t U _;split at h
  ·rename_i z;subst z;obtain⟨f,V,d⟩:=Zo h;have r:eF (cC t f)=true:=CJ _ _;have c:dr (cC t f)=true:=qD _ _;simp only[bK,qp,V,r,ζH,if_false];split at d
   ·rename_i k;rw[k];simp only[γG];by_cases u:f.length=0;·exact⟨_,_,by simp only[u,if_true];rfl,d.1 u⟩
    ·obtain⟨q,i,w⟩:=d.2 u;obtain⟨o',P,Q⟩:=vB w;refine⟨_,o',?_,Q⟩;simp only[bq.g] at P;rw[if_neg u,if_pos ⟨q,i,.inr c⟩,P];rfl
   ·rename_i S n G k;split at d
    ·rename_i O l Z I H;split at d
     ·rename_i F;obtain⟨rfl,q,rfl⟩:=F;obtain⟨rfl,i,w,C⟩:=d;obtain⟨l',y,B⟩:=iV C;obtain⟨rfl,T,X⟩:=zI y;refine⟨_,_,?_,B⟩;rw[k];simp only[γG,fF H,bq.g,ft];rw[if_pos ⟨trivial,trivial,trivial,trivial,i,w,.inr c⟩,qE,bq.g,OT,T];grind
     simp_all
    simp_all
   ·rename_i O l k;obtain⟨q,i⟩:=d;refine⟨_,_,?_,i⟩;simp_all[γG]
   simp_all
  simp_all
 simp_all
theorem Py {mx:Bool} {a b:Int}:(if mx then(if b>a then b else a) else(if b<a then b else a))=if mx then max a b else min a b:=by
 grind
theorem Zx (hC:pQ call p.C) {op:cE} {ρ:Operand->SV} (h:eK p op ρ o bB K):
  ∃(v:SV) (o':bW),bK call op (λx=>(ρ x).g) (gO o) bB=some (v.g,gO o')/\K v o':=by
 cases op with
 |uQ x=>exact⟨_,_,rfl,h⟩;|pick c a b=>
  simp only[eK] at h;split at h;·grind[bK,γG]
  ·grind[bK,γG]
  ·rename_i c hc;cases c<;>grind[bK,γG]
  simp_all;|alloc z e pu=>
  obtain⟨o',hm,hk⟩:=vB h;grind[bq.g,HA,bK,γG];|box e x=>
  simp only[eK] at h;split at h
  ·rename_i h1;obtain⟨o',hm,hk⟩:=vB h;simp only[bq.g] at hm;exact⟨_,o',by simp_all[bK,CQ,CS,jJ,γG],hk⟩
  simp_all;|build z parts=>
  simp only[eK] at h;obtain⟨cs,h1,h2⟩:=iV h;have:=Zr h1;grind[HA,bK,γG];|pE z len parts e sz=>
  simp only[eK] at h;split at h
  ·rename_i s cs hs hf;split at h
   ·rename_i hsz;split at h
    ·rename_i hany;split at h
     ·rename_i hlen;obtain⟨o',hm,hk⟩:=vB h;simp only[bq.g,cC,ζp,δf] at hm;have hfa:=Hz hf;rw[HB] at hfa;refine⟨_,o',?_,hk⟩;subst hsz;have hp:dr (gL cs)=false:=by
       clear hf hfa hm hlen h;induction cs with
       |nil=>simp at hany;|cons c cs ih=>
        simp only[List.any_cons,δp] at hany;simp only[gL,dr];rcases hany with hc|hc
        ·have h9:c.g.pure=false:=by
          cases c<;>grind[γG,AV.pure,SV.OX]
         simp_all
        simp_all
      simp_all[bK,eu,γG]
     simp_all
    obtain⟨l,h1,h2⟩:=iV h;obtain⟨h3,h4⟩:=CX h1;obtain⟨o',hm,hk⟩:=vB h2;simp only[bq.g] at hm;have hfa:=Hz hf;rw[HB] at hfa;refine⟨_,o',?_,hk⟩;subst hsz;rw[Hj] at h3;have hp:dr (gL cs)=true:=(Hl (pu:=true) (cs:=gL cs) λc hc=>ny (s:=s) (l:=l) (by rw[<-h3];exact hc)).2;grind[eu,bK,γG]
   simp_all
  simp_all;|tn z len parts e sz=>
  simp only[eK] at h;split at h
  ·rename_i s cs hs hf;split at h
   ·rename_i hsz;obtain⟨l,h1,h2⟩:=iV h;obtain⟨h3,h4⟩:=CX h1;have hfa:=Hz hf;rw[HB] at hfa;rw[Hj] at h3;have hp:dr (gL cs)=true:=(Hl (pu:=true) (cs:=gL cs) λc hc=>ny (s:=s) (l:=l) (by rw[<-h3];exact hc)).2;have hq:eu true (gL cs)=cC s l:=h3;exact⟨_,_,by simp_all[bK,γG],h2⟩
   simp_all
  simp_all;|load n a=>
  simp only[eK] at h;grind[O9,bK];|store n a x=>exact Zv h;|uR x=>
  simp only[eK] at h;grind[bK,γG];|bin op x y=>
  simp only[eK] at h;grind[Zk,bK];|beq neg x y=>
  simp only[eK] at h;split at h
  ·rename_i a b h1 h2;exact⟨_,_,by simp_all[bK,xi,γG],h⟩
  simp_all;|sg neg ks x y=>
  simp only[eK] at h;split at h
  ·rename_i a b h1 h2;split at h
   ·rename_i hk;obtain⟨r,hr,h3⟩:=iV h;grind[bK,γG,Zm]
   simp_all
  simp_all;|un op x=>
  simp only[eK] at h;split at h<;>grind[bK,γG,y5,CW];|conv k x=>
  simp only[eK] at h;split at h;·grind[bK,γG]
  ·grind[bK,γG,CW]
  ·rename_i kk n _ hx;exact⟨.si k (eQ k n),_,by grind[bK,γG],zG h⟩
  simp_all;|uS off x=>
  simp only[eK] at h;grind[bK,γG,oL];|field off n x=>
  simp only[eK] at h;split at h
  ·rename_i cs hx;obtain⟨v,h1,h2⟩:=iV h;grind[bK,γG,CV]
  simp_all;|uT len sz x i=>
  simp only[eK] at h;split at h
  ·rename_i k n hi;split at h
   ·rename_i hn;split at h;·rename_i hx;exact⟨_,_,by simp_all[bK,γG,gZ,oL],h⟩
    ·rename_i hx;exact⟨_,_,by simp only[bK,hi,hx,γG,gZ,if_pos hn,oL,γm,ζG],h⟩
    ·rename_i hx;exact⟨_,_,by simp only[bK,hi,hx,γG,gZ,if_pos hn,oL,γm,ζG],h⟩
    simp_all
   simp_all
  ·rename_i k n hi;split at h;·rename_i hx;exact⟨_,_,by simp_all[bK,γG,gZ,oL],h.2.2⟩
   simp_all
  simp_all;|sj sz x i=>
  simp only[eK] at h;split at h
  ·rename_i n hi;have hi:=Hu hi;split at h
   ·rename_i s l hx;split at h
    ·rename_i hsz;subst hsz;obtain⟨h1,h2,h3⟩:=h;refine⟨_,_,?_,h3⟩;simp_all[bK,γG,qo,ft]
    simp_all
   ·rename_i id m sz' hx;split at h
    ·rename_i s l e pu ho;split at h
     ·rename_i hsz;obtain⟨rfl,rfl⟩:=hsz;obtain⟨rfl,h1,h2,h3⟩:=h;refine⟨_,_,?_,h3⟩;simp_all[bK,γG,qo,fF,bq.g,ft,pJ]
     simp_all
    simp_all
   ·rename_i id off len m sz' hx;split at h
    ·rename_i s l e pu ho;split at h
     ·rename_i hsz;obtain⟨rfl,rfl⟩:=hsz;obtain⟨rfl,h1,h2,h4,h3⟩:=h;refine⟨_,_,?_,h3⟩;have hm:(off+len)*s.sz<=l.length*s.sz:=γK _ h4;rw[εs] at hm;simp only[bK,hi,hx,γG,qo,fF ho,bq.g,ft];rw[pJ (by omega),if_pos ⟨trivial,trivial,h1,h2,hm⟩];grind
     simp_all
    simp_all
   ·rename_i id off len m sz' hx;split at h
    ·rename_i s l e pu ho;split at h
     ·rename_i hsz;obtain⟨rfl,rfl⟩:=hsz;obtain⟨rfl,h1,h2,h4,h3⟩:=h;refine⟨_,_,?_,h3⟩;have hm:(off+len)*s.sz<=l.length*s.sz:=γK _ h4;have hp:=GX s;rw[εs] at hm;simp only[bK,hi,hx,γG,qo,fF ho,bq.g,ft];rw[BR (by omega),show off*s.sz+(l.length*s.sz+s.sz) - l.length*s.sz - s.sz=off*s.sz by omega,if_pos ⟨trivial,trivial,h1,h2,hm⟩];grind
     simp_all
    simp_all
   simp_all
  simp_all;|idx len sz n x i=>
  simp only[eK] at h;split at h
  ·rename_i k' k cs hi hx;split at h
   ·rename_i hk;obtain⟨v,h1,h2⟩:=iV h;exact⟨_,_,by simp_all[bK,γG,gZ,CV],h2⟩
   simp_all
  ·rename_i k' k cs hi hx;split at h
   ·rename_i l _ _ hl;split at h
    ·rename_i hll;obtain⟨h1,h2,h3⟩:=h;refine⟨_,_,?_,h3⟩;obtain⟨h4,h5⟩:=O7 hl;simp_all[bK,γG,gZ,gp,t7]
    simp_all
   simp_all
  simp_all;|wF x i=>simp_all[eK];|ql z e sz bytes l c pu=>
  simp only[eK] at h;split at h
  ·rename_i n m s hn hm hs;have hn:=Hu hn;have hm:=Hu hm;split at h
   ·rename_i hsz;subst hsz;obtain⟨x,hx,h1,h2,h3,h4,h5⟩:=iV h;obtain⟨o',hmk,hk⟩:=vB h5;refine⟨_,o',?_,hk⟩;have hd:=nY hx;rw[<-gi,Hk,HA] at hd;simp_all[bq.g,bK,Zs,γG]
   simp_all
  simp_all;|slice sz x lo hi=>
  simp only[eK] at h;split at h
  ·rename_i s l hx;split at h
   ·rename_i hsz;subst hsz;obtain⟨a,ha,h1⟩:=pP h;obtain⟨b,hb,h2,h3,h4⟩:=pP h1;refine⟨_,_,?_,h4⟩;rw[zJ] at ha hb;have hlen:((l.drop a).take (b - a)).length=b - a:=by simp;omega
    simp_all[bK,γG,qq,ft,zF]
   simp_all
  ·rename_i id m sz' hx;split at h
   ·rename_i s l e pu ho;split at h
    ·rename_i hsz;obtain⟨rfl,rfl⟩:=hsz;obtain⟨rfl,h⟩:=h;obtain⟨a,ha,h1⟩:=pP h;obtain⟨b,hb,h2,h3,h4⟩:=pP h1;refine⟨_,_,?_,h4⟩;rw[zJ] at ha hb;simp_all[bK,γG,qq,fF,bq.g,ft]
    simp_all
   simp_all
  ·rename_i id off len m sz' hx;split at h
   ·rename_i s l e pu ho;split at h
    ·rename_i hsz;obtain⟨rfl,rfl⟩:=hsz;obtain⟨rfl,h⟩:=h;obtain⟨a,ha,h1⟩:=pP h;obtain⟨b,hb,h2,h3,h4⟩:=pP h1;refine⟨_,_,?_,h4⟩;rw[zJ] at ha hb;simp only[bK,hx,γG,qq,ha,hb,fF ho,bq.g,ft];grind
    simp_all
   simp_all
  simp_all;|slice3 sz x lo hi mx=>
  simp only[eK] at h;split at h
  ·rename_i s l hx;split at h
   ·rename_i hsz;subst hsz;obtain⟨a,ha,h1⟩:=pP h;obtain⟨b,hb,h2⟩:=pP h1;obtain⟨m,hm,h3,h4,h5,h6⟩:=pP h2;refine⟨_,_,?_,h6⟩;rw[zJ] at ha;simp only[γm] at hb hm;have hlen:((l.drop a).take (b - a)).length=b - a:=by simp;omega
    simp_all[bK,γG,sw,ft,zF]
   simp_all
  ·rename_i id n sz' hx;split at h
   ·rename_i s l e pu ho;split at h
    ·rename_i hsz;obtain⟨rfl,rfl⟩:=hsz;obtain⟨rfl,h⟩:=h;obtain⟨a,ha,h1⟩:=pP h;obtain⟨b,hb,h2⟩:=pP h1;obtain⟨m,hm,h3,h4,h5,h6⟩:=pP h2;refine⟨_,_,?_,h6⟩;rw[zJ] at ha;simp only[γm] at hb hm;simp only[bK,hx,γG,sw,ha,hb,hm,fF ho,bq.g,ft];simp_all[GX]
    simp_all
   simp_all
  simp_all;|uU x lo hi=>simp_all[eK];|append e sz bytes s x pu=>exact Zw h;|len k x=>
  simp only[eK] at h;split at h;·grind[bK,γG,lx]
  ·grind[bK,γG,lx]
  ·grind[bK,γG,lx]
  ·grind[bK,γG,lx]
  ·grind[bK,γG,lx]
  ·grind[bK,γG,lx]
  ·rename_i id hx;split at h
   ·rename_i sk sv ka es kt pu ho;exact⟨_,_,by simp_all[bK,γG,lx,fF,bq.g],h⟩
   simp_all
  simp_all;|uV n=>exact⟨_,_,rfl,h⟩;|mm mx x y=>
  simp only[eK] at h;split at h
  ·rename_i hx hy;split at h
   ·rename_i hk;exact⟨_,_,by simp_all[bK,γG],h⟩
   simp_all
  ·rename_i k a hx;obtain⟨b,hb,h2⟩:=iV h;exact⟨_,_,by simp only[bK,hx,gU hb,γG,if_true,Py],h2⟩
  ·rename_i k a hx _;obtain⟨b,hb,h2⟩:=iV h;exact⟨_,_,by simp only[bK,hx,gU hb,γG,if_true,Py],h2⟩
  simp_all;|call f args own=>
  simp only[eK] at h;grind[Hy,CY,bK];|jG f args own=>
  simp only[eK] at h;grind[Hy,vz,CY,bK,γG];|extract x i=>
  simp only[eK] at h;split at h
  ·rename_i vs hx;obtain⟨v,h1,h2⟩:=iV h;grind[bK,γG,t7]
  simp_all;|tq f first captured=>exact⟨_,_,by grind[bK,γG,CY],h⟩;|uW t x=>
  simp only[eK] at h;split at h
  ·rename_i cs hx;split at h
   ·rename_i hp;exact⟨_,_,by simp_all[bK,γG,Hf],h⟩
   simp_all
  simp_all;|oJ tab x args=>
  simp only[eK] at h;split at h<;>grind[Hy,gL,γG,CY,bK];|qm kt pu=>
  simp only[eK] at h;grind[vB,bq.g,bK,γG];|lookup z agg ks ka x k ok=>
  simp only[eK] at h;split at h
  ·rename_i id hx;split at h
   ·rename_i sk sv xk es kt pu ho;split at h
    ·rename_i hh;obtain⟨rfl,rfl,h1,h2,rfl,h4,h5,h6⟩:=hh;obtain⟨kv,hkv,h7⟩:=iV h;obtain⟨zv,hzv,h8⟩:=iV h7;have hkey:=Pm h5 h6 (Pq h1) hkv;have hz:rf z false=some (mP sv zv):=by
      have hd:=nY hzv;rw[He,Po h2] at hd;cases z with
      |nil=>simp at hd;|cons a r=>
       simp_all[rf]
     obtain⟨r,hr,hm⟩:=Hv (sv:=sv) h1 h4 kv es 0;refine⟨_,_,?_,h8⟩;simp only[bK,hx,γG,hkey,fF ho,bq.g,if_true,hr,hz];cases hf:j4 sk sv kv es with
     |some v=>
      rw[hf] at hm;obtain⟨j,rfl,_⟩:=hm;simp only[Option.getD_some];cases ok<;>simp only[χ,if_false,if_true,γG,gL,Pn h2,ζI,ε5];|none=>
      rw[hf] at hm;obtain⟨rfl,_⟩:=hm;simp only[Option.getD_none];cases ok<;>simp only[χ,if_false,if_true,γG,gL,Pn h2,ζI,ε5]
    simp_all
   simp_all
  simp_all;|rc ks ka x k v=>
  simp only[eK] at h;split at h
  ·rename_i id hx;split at h
   ·rename_i sk sv xk es kt pu ho;split at h
    ·rename_i hh;obtain⟨rfl,rfl,h1,h2,h4,h5,h6,h9⟩:=hh;obtain⟨kv,hkv,h7⟩:=iV h;obtain⟨vv,hvv,h8⟩:=iV h7;have hkey:=Pm h5 h6 (Pq h1) hkv;have hv:(ρ v).g=mP sv vv:=by
      have hd:=nY hvv;rw[Po h2] at hd;have hc:(ρ v).cellsOf=[ρ v]:=by
       revert h9;cases ρ v<;>simp[SV.cellsOf,vt]
      simp_all
     obtain⟨r,hr,hm⟩:=Hv (sv:=sv) h1 h4 kv es 0;refine⟨_,_,?_,h8⟩;have hpure:(mP sv vv).pure=true:=by simp[mP,AV.pure]
     simp only[bK,hx,γG,hkey,fF ho,bq.g,hv,hpure,hr,qE];rw[if_neg (by simp)];cases hf:j4 sk sv kv es with
     |some w=>
      rw[hf] at hm;obtain⟨j,rfl,h10,h11⟩:=hm;rw[Pj h10 h11];simp_all[Pv];|none=>
      grind[Hw]
    simp_all
   simp_all
  simp_all
end
mutual
theorem HC {o:Store} {k:Nat}:∀{v:AV},v.bY k=true->v.bT o (λi=>decide (k<=i))=some v
 | .os m d j e,h=>by
  simp_all[AV.bY,AV.bT,if_neg];| .ptr m d e,h=>by
  simp_all[AV.bY,AV.bT,if_neg];| .agg g,h=>by simp only[AV.bY] at h;simp only[AV.bT,xr h,γm];| .bH g,h=>by simp only[AV.bY] at h;simp only[AV.bT,xr h,γm];| .fn f a b,h=>by
  simp only[AV.bY,ζ] at h;simp only[AV.bT,xr h.1,xr h.2];| .ud,_| .sc _,_| .sl _ _,_| .ep _ _,_| .mp _,_| .iU _ _,_=>by simp only[AV.bT]
theorem xr {o:Store} {k:Nat}:∀{l:List AV},dZ k l=true->gP o (λi=>decide (k<=i)) l=some l
 |[],_=>by simp[gP];|c::g,h=>by
  simp only[dZ,ζ] at h;simp only[gP,HC h.1,xr h.2]
end
theorem Pz {o:Store} {k:Nat}:∀{l:List (Value×AV)},dZ k (l.map (·.2))=true->qu o (λi=>decide (k<=i)) l=some l
 |[],_=>by simp[qu];|(q,c)::a,h=>by
  simp only[ι,dZ,ζ] at h;simp only[qu,HC h.1,Pz h.2]
theorem Zy {o:Store} {k:Nat} {x:bP} (h:x.bY k=true):x.bT o (λi=>decide (k<=i))=some x:=by
 cases x with
 |dead=>rfl;|cells b e f a=>
  cases a with
  |true=>simp only[bP.bT,if_true];|false=>simp_all[bP.bY,bP.bT,xr]
 |map d c a=>
  cases a with
  |true=>simp only[bP.bT,if_true];|false=>simp_all[bP.bY,bP.bT,Pz]
theorem PD {o:Store} {k:Nat}:∀{r:Store},(∀x∈r,x.bY k=true)->jh o (λi=>decide (k<=i)) r=some r
 |[],_=>rfl
 |x::r,h=>by
  simp only[jh,Zy (h x (by simp)),PD (r:=r) λy a=>h y (by simp[a])]
theorem PE {k:Nat}:∀{o:Store} {i:Nat},(fE (λj=>decide (k<=j)) i o).take (k - i)=o.take (k - i)
 |[],i=>by simp[fE];|x::r,i=>by
  simp only[fE];by_cases a:i<k
  ·rw[show k - i=(k - (i+1))+1 from by omega,δ4,δ4,PE];grind
  simp_all
theorem agZ {k i:Nat} (h:i<k):(π k).contains i=true:=by simp[h]
theorem PG {o:Store} {k:Nat}:∀{d:Nat} {vs:List AV},dZ k vs=true->cJ o d vs (π k)=π k:=by
 intro d;induction d with
 |zero=>grind[cJ];|succ d e=>
  intro vs h;cases vs with
  |nil=>simp[cJ];|cons v vs=>
   simp only[dZ,ζ] at h;have i:=h.1;simp only[cJ];cases v with
   |agg g=>grind[AV.bY];|bH g=>grind[AV.bY];|fn f a b=>grind[AV.bY];|ptr c _ _=>simp_all[AV.bY];|os c _ _ _=>simp_all[AV.bY];|mp c=>simp_all[AV.bY];|_=>simp only[e h.2]
theorem PH:∀{n s i p:Nat},s<=i->i<s+n->idxOf (ζk s n) i p=some (p+(i - s))
 |0,s,i,p,a,b=>by omega;|n+1,s,i,p,a,b=>by
  simp only[εq,idxOf];by_cases h:s=i;·subst h;simp
  ·have:(s==i)=false:=by simpa using h
   rw[this];simp only[χ,if_false];rw[PH (by omega) (by omega)];grind
theorem HD {k i:Nat} (h:i<k):idxOf (π k) i=some i:=by
 rw[δI,PH (by omega) (by omega)];simp
mutual
theorem CZ {k:Nat}:∀{v:AV},v.bY k=true->v.ren (λj=>idxOf (π k) j)=some v
 | .os g d m e,h=>by simp_all[AV.bY,δC,HD];| .ptr g d e,h=>by simp_all[AV.bY,δC,HD];| .mp g,h=>by simp_all[AV.bY,δC,HD];| .agg i,h=>by simp only[AV.bY] at h;simp only[δC,xt h,γm];| .bH i,h=>by simp only[AV.bY] at h;simp only[δC,xt h,γm];| .fn f a b,h=>by
  simp only[AV.bY,ζ] at h;simp only[δC,xt h.1,xt h.2];| .ud,_| .sc _,_| .sl _ _,_| .ep _ _,_| .iU _ _,_=>by simp only[δC]
theorem xt {k:Nat}:∀{l:List AV},dZ k l=true->iG (λj=>idxOf (π k) j) l=some l
 |[],_=>by simp[iG];|c::i,h=>by
  simp only[dZ,ζ] at h;simp only[iG,CZ h.1,xt h.2]
end
theorem PI {k:Nat}:∀{l:List (Value×AV)},dZ k (l.map (·.2))=true->oM (λj=>idxOf (π k) j) l=some l
 |[],_=>by simp[oM];|(q,c)::a,h=>by
  simp only[ι,dZ,ζ] at h;simp only[oM,CZ h.1,PI h.2]
theorem Zz {k:Nat} {x:bP} (h:x.bY k=true):x.ren (λj=>idxOf (π k) j)=some x:=by
 cases x with
 |dead=>rfl;|cells b e f a=>
  cases a with
  |true=>simp only[bP.ren,if_true];|false=>simp_all[bP.bY,bP.ren,xt]
 |map d c a=>
  cases a with
  |true=>simp only[bP.ren,if_true];|false=>simp_all[bP.bY,bP.ren,PI]
theorem HE {k:Nat} {o:Store} (a:∀x∈o.take k,x.bY k=true) (c:k<=o.length):∀{n s:Nat},s+n=k->kY o (π k) (ζk s n)=some ((o.take k).drop s)
 |0,s,h=>by
  grind[kY];|n+1,s,h=>by
  simp only[εq,kY];have d:s<o.length:=by omega
  have e:o[s]?=some o[s]:=ν d;rw[e,HE a c (by omega)];have f:o[s]∈o.take k:=by
   rw[List.mem_take_iff_getElem];grind
  simp only[Zz (a _ f),γm];congr 1;have b:s<(o.take k).length:=by simp;omega
  rw[List.drop_eq_getElem_cons b];simp
theorem nodup_range':∀{n s:Nat},iH.pF (ζk s n)=true
 |0,_=>by simp[iH.pF];|n+1,s=>by
  simp only[εq,iH.pF,nodup_range',δT,Bool.not_eq_true'];grind
theorem PK {k:Nat}:∀{a b:List AV},dZ k a=true->dZ k b=true->dZ k (a++b)=true
 |[],b,_,h=>h
 |x::a,b,h,c=>by
  simp only[dZ,ζ] at h;simp only[γF,dZ,h.1,PK h.2 c,Bool.and_self]
theorem HF {k:Nat}:∀{o:Store},(∀x∈o,x.bY k=true)->dZ k (o.flatMap lQ.bP.y9)=true
 |[],_=>by simp[dZ];|x::o,h=>by
  simp only[δZ];refine PK ?_ (HF λy a=>h y (by simp[a]));have b:=h x (by simp);cases x<;>grind[lQ.bP.y9,dZ,bP.bY]
theorem PL {k:Nat} {r:AV} {o:Store} (e:r.bY k=true) (b:∀x∈o,x.bY k=true) (j:k<=o.length):lQ k r o=some (r,o.take k):=by
 unfold lQ;rw[HC e,PD b];simp only;have a:(fE (λi=>decide (k<=i)) 0 o).take k=o.take k:=by simpa using PE (k:=k) (o:=o) (i:=0)
 have d:∀{o:Store} {i:Nat},(fE (λi=>decide (k<=i)) i o).length=o.length:=by
  intro o;induction o with
  |nil=>intro i;rfl;|cons x o l=>simp_all[fE]
 have h:∀x∈o.take k,x.bY k=true:=λx g=>b x (List.mem_of_mem_take g);rw[a,PG (by grind[dZ,HF])];have f:iH.pF (π k)=true:=by rw[δI];exact nodup_range'
 rw[if_pos f,CZ e];have c:=HE (k:=k) (o:=fE (λi=>decide (k<=i)) 0 o) (by simp_all) (by simp_all) (n:=k) (s:=0) (by omega);rw[<-δI,a,δV] at c;rw[c]
theorem HG:∀{env:eZ} {s:Nat} {v:SV},(jI env s).g=v.g->gE (xl env s v)=gE env
 |[],_,_,_=>rfl
 |p::r,s,v,h=>by
  simp only[xl,jI] at h ⊢;cases a:δx p.1 s with
  |true=>
   simp_all[gE];|false=>
   rw[a] at h;simp only[cond_false] at h ⊢;have:=HG h;grind[gE]
theorem ZA {env:eZ} {g:Option (Option Nat×Bool)} {K:eZ->Bool->Prop} (h:G5 env g K):∃a w,gE a=gE env/\mK (gE env) g=some w/\K a w:=by
 unfold G5 at h;split at h;·exact⟨_,_,rfl,rfl,h⟩
 ·exact h.elim
 ·rename_i s b;split at h;·grind[mK,og,γG]
  ·rename_i c d;cases c<;>grind[HG,mK,og,γG]
  all_goals grind[mK,og,γG,gL]
section
variable {call:cV} {p:iM}
theorem PN:∀{a b:bW},jk a b->gO a=gO b
 |[],[],_=>rfl
 |x::a,y::b,h=>by
  obtain⟨c,d⟩:=h;have e:x.g=y.g:=c;simp only[gO,ι,e];congr 1;exact PN d
def vC:Trace->Trace->Prop
 |[],[]=>True
 |x::a,y::b=>(x.1=y.1/\x.2.1=y.2.1/\∀j∈x.2.2,j∈y.2.2)/\vC a b
 |_,_=>False
theorem vC.look:∀{a b:Trace} {i:Nat},vC a b->(qt a i).1=(qt b i).1/\∀j∈(qt a i).2,j∈(qt b i).2
 |[],[],_,_=>⟨rfl,λj h=>h⟩
 |(k,x)::a,(g,y)::b,i,h=>by
  obtain⟨⟨c,e,d⟩,f⟩:=h;simp only at c e d;subst c;simp only[qt];split;·exact⟨e,d⟩
  ·exact vC.look f
theorem ZB {a b d c:List Nat} (f:∀j∈a,j∈d) (e:∀j∈b,j∈c) (h:wH d c=true):wH a b=true:=by
 grind[wH]
theorem ZC {n:Nat} {a b:Trace} {c:List (Nat×Nat)} (h:vC a b) (d:tu n b c=true):tu n a c=true:=by
 unfold tu at d ⊢;rw[List.all_eq_true] at d ⊢;intro p e;have l:=d p e;obtain⟨g,k⟩:=h.look (i:=p.1);obtain⟨f,j⟩:=h.look (i:=p.2);grind[ZB]
theorem HH (u:pQ call p.C) {base:Nat}:∀{d:List dp} {st:cq} {l:Trace} {K:cq->Trace->Prop},xm p base d st l K->
  ∃st' T,gd call base d st.g=some st'.g/\vC (mL call base d st.g) T/\K st' (T.reverse++l)
 |[],st,l,K,h=>⟨st,[],rfl,trivial,h⟩
 |i::r,st,l,K,h=>by
  simp only[xm] at h;obtain⟨a,w,B,s,q⟩:=ZA h;have A:st.g=⟨gE a,gO st.o⟩:=by grind[cq.g]
  rw[<-B] at s;cases w with
  |true=>
   simp only[if_true] at q;obtain⟨v,y,E,c⟩:=Zx u q;have b:hZ call base i st.g=some (cq.g ⟨vo a i.dst v,y⟩):=by
    grind[hZ,O3,y7,cq.g,O1]
   have k:∀W:List Nat,(∀j∈ec call i.op (λx=>(jj a x).g) (gO st.o) (base+i.bB),j∈W)->
     xm p base r ⟨vo a i.dst v,y⟩ ((i.idx,dO i.op (λx=>(jj a x).g) (st.o.map bq.g) (base+i.bB),W)::l) K->
     ∃st' T,gd call base (i::r) st.g=some st'.g/\vC (mL call base (i::r) st.g) T/\K st' (T.reverse++l):=λW G c=>by
    obtain⟨st',T,D,z,F⟩:=HH u c;refine⟨st',(i.idx,dO i.op (λx=>(jj a x).g) (st.o.map bq.g) (base+i.bB),W)::T,by grind[gd],?_,?_⟩
    ·simp only[mL,b];rw[A];simp only[s,O3];exact⟨⟨rfl,rfl,G⟩,z⟩
    simp_all
   unfold OY at c;split at c
   ·rename_i f n t;split at c
    ·obtain⟨H,c⟩:=c;refine k [] (λj m=>?_) c;rw[t] at E m;have e:iH call f (n.map λx=>(jj a x).g) (gO st.o)=some (v.g,gO y):=by simp_all[bK,gA]
     simp only[ec,e,List.mem_filter,decide_eq_true_eq] at m;grind[PN]
    ·exact k _ (λj m=>GI m) c
   ·exact k _ (λj m=>GI m) c;|false=>
   simp only[χ,if_false] at q;obtain⟨st',T,D,z,F⟩:=HH u q;have b:hZ call base i st.g=some (cq.g ⟨vo a i.dst (.bH []),st.o⟩):=by
    grind[hZ,cq.g,O1,γG,gL]
   refine⟨st',(i.idx,[],[])::T,by grind[gd],?_,?_⟩
   ·simp only[mL,b];rw[A];simp only[s];exact⟨⟨rfl,rfl,λj h=>h⟩,z⟩
   simp_all
theorem ZD (k:Nat):gO (ε k .dead)=gh k:=by simp[gO,gh,bq.g]
theorem PO (a b:bW):gO (a++b)=gO a++gO b:=by simp[gO]
theorem ZE (x:bq):x.g.ni=x.ni:=by cases x<;>rfl
theorem ZF (base:Nat) (o:bW):gO (G6 base o)=rh base (gO o):=by
 unfold G6 rh;have:((gO o).drop base).all (·.ni)=(o.drop base).all (·.ni):=by
  simp only[gO,<-List.map_drop,ζN];grind[ZE]
 rw[this];cases(o.drop base).all (·.ni);·rfl
 ·simp[gO]
theorem ZG (i:pQ call p.C) {k:Nat} {b:List dp} {a:List (Nat×Nat)} {st:cq} {K:cq->Prop} (h:G7 p k b a st K):∃st',pG call k b a st.g=some st'.g/\K st':=by
 unfold G7 at h;obtain⟨st',T,f,j,d⟩:=HH i h;rw[List.append_nil,List.reverse_reverse] at d;have e:(cq.mk st.env (st.o++ε k .dead)).g=⟨st.g.env,st.g.o++gh k⟩:=by simp[cq.g,PO,ZD]
 rw[e] at f j;have c:st.g.o.length=st.o.length:=by simp[cq.g,oh]
 split at d
 ·rename_i l;refine⟨_,?_,d⟩;simp only[pG,c];rw[f];simp only;rw[if_pos (by
   grind[gh,ZC])];grind[cq.g,ZF]
 simp_all
end
theorem C0 {v:SV}:isNil v=true↔v.g= .sc (.slice none 0 0):=by
 constructor
 ·intro h;unfold isNil at h;split at h;·rfl
  ·cases h
 ·intro h;cases v<;>simp only[γG,reduceCtorEq,γX] at h;subst h;rfl
section
variable {o:bW} {id:Nat} {s:bk} {l:List s.T} {e:TypeId}
def pid (id:Nat):Nat->Bool:=λi=>i==id
mutual
theorem PQ (r:o[id]?=some (.row s l e true)):∀{v:SV} {K:SV->Prop},jl id s l v K->∃E:SV,v.g.bT (gO o) (pid id)=some E.g/\K E
 | .ow j n A,K,h=>by
  simp only[jl] at h;split at h
  ·rename_i q;subst q;split at h
   ·rename_i u;subst u;obtain⟨rfl,D⟩:=h;refine⟨_,?_,D⟩;have I:γa (l.length*s.sz) (cC s l)=cC s l:=γh (by grind[ft]);simp_all[γG,AV.bT,pid,fF,bq.g,ft]
   simp_all
  ·rename_i q;refine⟨_,?_,h⟩;simp_all[γG,AV.bT,pid];| .os j w p n A,K,h=>by
  simp only[jl] at h;split at h
  ·rename_i q;subst q;split at h
   ·rename_i u;subst u;obtain⟨rfl,C,D⟩:=h;refine⟨_,?_,D⟩;have F:(w+p)*s.sz<=l.length*s.sz:=γK _ C;rw[εs] at F;have B:((l.drop w).take p).length=p:=by simp;omega
    simp only[γG,AV.bT,pid,BEq.rfl,if_true,fF r,bq.g,ft,F,and_self,zF,B]
   simp_all
  ·rename_i q;refine⟨_,?_,h⟩;simp_all[γG,AV.bT,pid];| .oc j w p n A,K,h=>by
  simp only[jl] at h;split at h;·exact h.elim
  ·rename_i q;exact⟨_,by simp_all[γG,AV.bT,pid],h⟩;| .rp j i f n A,K,h=>by
  simp only[jl] at h;split at h;·exact h.elim
  ·rename_i q;exact⟨_,by simp_all[γG,AV.bT,pid],h⟩;| .ptr j f t,K,h=>by
  simp only[jl] at h;split at h;·exact h.elim
  ·rename_i q;exact⟨_,by simp_all[γG,AV.bT,pid],h⟩;| .ap j a b c d i,K,h=>by
  simp only[jl] at h;split at h;·exact h.elim
  ·rename_i q;exact⟨_,by simp_all[γG,AV.bT,pid],h⟩;| .agg x,K,h=>by
  simp only[jl] at h;obtain⟨m,z,y⟩:=vD r h;grind[γG,AV.bT];| .bH x,K,h=>by
  simp only[jl] at h;obtain⟨m,z,y⟩:=vD r h;grind[γG,AV.bT];| .fn f a b,K,h=>by
  simp only[jl] at h;obtain⟨M,z,y⟩:=vD r h;obtain⟨L,G,H⟩:=vD r y;grind[γG,AV.bT];| .ud,K,h=>⟨.ud,by grind[γG,AV.bT],by grind[jl]⟩
 | .sc v,K,h=>⟨.sc v,by grind[γG,AV.bT],by grind[jl]⟩
 | .il k n,K,h=>⟨.il k n,by grind[γG,AV.bT],by grind[jl]⟩
 | .si k n,K,h=>⟨.si k n,by grind[γG,AV.bT],by grind[jl]⟩
 | .bl b,K,h=>⟨.bl b,by grind[γG,AV.bT],by grind[jl]⟩
 | .sb b,K,h=>⟨.sb b,by grind[γG,AV.bT],by grind[jl]⟩
 | .row s l,K,h=>⟨.row s l,by grind[γG,AV.bT],by grind[jl]⟩
 | .ep s l i f,K,h=>⟨.ep s l i f,by grind[γG,AV.bT],by grind[jl]⟩
 | .mp i,K,h=>⟨.mp i,by grind[γG,AV.bT],by grind[jl]⟩
 | .ia t x,K,h=>⟨.ia t x,by grind[γG,AV.bT],by grind[jl]⟩
 | .ite c a b,K,h=>⟨.ite c a b,by grind[γG,AV.bT],by grind[jl]⟩
theorem vD (r:o[id]?=some (.row s l e true)):∀{x:List SV} {K:List SV->Prop},rI id s l x K->∃m:List SV,gP (gO o) (pid id) (gL x)=some (gL m)/\K m
 |[],K,h=>⟨[],by simp[gL,gP],by grind[rI]⟩
 |c::x,K,h=>by
  simp only[rI] at h;obtain⟨J,z,y⟩:=PQ r h;obtain⟨m,G,H⟩:=vD r y;grind[gL,gP]
end
theorem HI (b:o[id]?=some (.row s l e true)):∀{env:eZ} {K:eZ->Prop},zy id s l env K->∃a,uZ (gO o) (pid id) (gE env)=some (gE a)/\K a
 |[],K,h=>⟨[],rfl,h⟩
 |(k,v)::r,K,h=>by
  simp only[zy] at h;obtain⟨f,d,c⟩:=PQ b h;obtain⟨j,g,i⟩:=HI b c;grind[gE,uZ]
theorem C2 {o:Store} {q:Nat->Bool}:∀{cs:List AV},(∀a∈cs,Plain a)->gP o q cs=some cs
 |[],_=>by simp[gP];|a::cs,h=>by
  have d:=C2 (o:=o) (q:=q) (cs:=cs) λb c=>h b (by simp[c]);rcases h a (by simp) with⟨v,rfl,_⟩|⟨n,e,rfl,_⟩<;>simp only[gP,AV.bT,d]
theorem HJ {o:Store} {q:Nat->Bool}:∀{es:List (Value×AV)},(∀a∈es,∃v,a.2= .sc v)->qu o q es=some es
 |[],_=>by simp[qu];|(k,a)::es,h=>by
  obtain⟨v,b⟩:=h (k,a) (by simp);simp only at b;subst b;simp only[qu,AV.bT,HJ (es:=es) λa c=>h a (by simp[c])]
theorem sH (j:o[id]?=some (.row s l e true)):∀{i:Nat} {r:bW} {K:bW->Prop},ob id s l i r K->∃r' mid,jh (gO o) (pid id) (gO r)=some mid/\fE (pid id) i mid=gO r'/\K r'
 |i,[],K,h=>⟨[],[],rfl,rfl,h⟩
 |i,x::r,K,h=>by
  cases x with
  |dead=>
   simp only[ob] at h;obtain⟨r',mid,w,n,f⟩:=sH j h;grind[gO,bq.g,jh,bP.bT,fE];|cells N p F d=>
   simp only[ob] at h;cases d with
   |true=>
    simp only[if_true] at h;split at h;·exact h.elim
    ·rename_i B;obtain⟨r',mid,w,n,f⟩:=sH j h;refine⟨_,.cells (gL N) p F true::mid,?_,?_,f⟩;all_goals simp_all[gO,bq.g,jh,bP.bT,fE,pid];|false=>
    simp only[χ,if_false] at h;obtain⟨A,z,k⟩:=vD j h;obtain⟨r',mid,w,n,f⟩:=sH j k;refine⟨_,.cells (gL A) p F false::mid,?_,?_,f⟩;all_goals simp_all[gO,bq.g,jh,bP.bT,fE]
  |oQ v u p t=>
   simp only[ob] at h;split at h;·exact h.elim
   ·obtain⟨O,z,k⟩:=vD j h;split at k
    ·rename_i m M;obtain⟨L,_⟩:=CX M;obtain⟨r',mid,w,n,f⟩:=sH j k;refine⟨_,(bq.row v (u++m) p false).g::mid,?_,?_,f⟩
     ·simp only[gO,ι,bq.g] at w z ⊢;have G:∀(a b c:List AV),gP (γf bq.g o) (pid id) a=some a->gP (γf bq.g o) (pid id) b=some c->gP (γf bq.g o) (pid id) (a++b)=some (a++c):=λa b c w n=>by
       induction a<;>grind[gP]
      have P:gP (γf bq.g o) (pid id) (cC v u)=some (cC v u):=C2 (λa C=>ny C);simp_all[jh,bP.bT,OT]
     ·simp only[bq.g,fE,n];rfl
    simp_all;|row v u p d=>
   simp only[ob] at h;have y:(bq.row v u p d).g.bT (gO o) (pid id)=some (bq.row v u p d).g:=by
    cases d with
    |true=>simp only[bq.g,bP.bT,if_true];|false=>
     simp only[bq.g,bP.bT,χ,if_false];grind[C2,ny]
   split at h
   ·rename_i B;cases d with
    |false=>simp_all;|true=>
     simp only[if_true] at h;obtain⟨r',mid,w,n,f⟩:=sH j h;refine⟨_,(bq.row v u p true).g::mid,?_,?_,f⟩;all_goals simp_all[gO,jh,bq.g,fE,pid]
   ·rename_i B;obtain⟨r',mid,w,n,f⟩:=sH j h;refine⟨_,(bq.row v u p d).g::mid,?_,?_,f⟩;·grind[gO,jh]
    ·cases d<;>simp only[bq.g,fE,n,pid,beq_iff_eq,if_neg B]<;>rfl;|map H D I E J d=>
   simp only[ob] at h;have y:(bq.map H D I E J d).g.bT (gO o) (pid id)=some (bq.map H D I E J d).g:=by
    cases d with
    |true=>simp only[bq.g,bP.bT,if_true];|false=>
     simp only[bq.g,bP.bT,χ,if_false];rw[HJ (λa C=>by obtain⟨q,_,rfl⟩:=γg.1 C;exact⟨_,rfl⟩),γm]
   obtain⟨r',mid,w,n,f⟩:=sH j h;grind[gO,jh,bq.g,fE]
end
theorem ZH {v:SV}:(∃id,t6.xn v=some id/\∃a b c,v.g= .os id a b c)\/(t6.xn v=none/\∀id a b c,v.g≠ .os id a b c):=by
 cases v<;>simp[t6.xn,γG]
theorem PR {p:iM} {lo:Nat} {h:ky} {st:cq} {K:cq->Prop} {v:SV} (t:h.own=false) (f:BF h st.g=some v.g)
  (d:match t6.xn v with
   |some id=>if Nat.ble lo id then(match st.o[id]? with
    |some (.row s l e pu)=>zy id s l st.env λenv=>ob id s l 0 (if pu then st.o else st.o.set id (.row s l e true)) λo=>K ⟨env,o⟩
    |_=>False) else K st
   |none=>K st):∃st',jW lo h st.g=st'.g/\K st':=by
 let _:=p;unfold jW;rw[if_neg (by simp[t]),f];rcases @ZH v with⟨id,w,a,b,c,x⟩|⟨w,x⟩
 ·rw[w] at d;rw[x];simp only at d ⊢;split at d
  ·rename_i q;rw[if_pos q];split at d
   ·rename_i s l e pu m;have D:(λi=>i==id)=pid id:=rfl;cases pu with
    |true=>
     simp only[if_true] at d;obtain⟨j,A,n⟩:=HI m d;obtain⟨B,u,C,y,r⟩:=sH m n;refine⟨_,?_,r⟩;simp_all[y8,cq.g,fF,bq.g,BI];|false=>
     simp only[χ,if_false] at d;have z:id<st.o.length:=(θ.1 m).1;have k:(st.o.set id (.row s l e true))[id]?=some (.row s l e true):=by simp_all
     obtain⟨j,A,n⟩:=HI (o:=st.o.set id (.row s l e true)) k d;obtain⟨B,u,C,y,r⟩:=sH k n;refine⟨_,?_,r⟩;simp_all[y8,cq.g,fF,bq.g,qD,qE,BI]
   simp_all
  grind
 grind
section
variable {p:iM} {lo:Nat}
theorem ZI {h:ky} {st:cq} {K:cq->Prop} (a:t6 p lo h st K):∃st',jW lo h st.g=st'.g/\K st':=by
 unfold t6 at a;split at a
 ·rename_i f;unfold jW;rw[if_pos f];unfold BH;split at a
  ·rename_i b;simp only[b];split at a
   ·rename_i r;have t:=C0.1 r;rw[<-og] at t;have B:dI st.g.env h.slot= .sc (.slice none 0 0):=t;rw[B];split at a
    ·rename_i s J;split at a
     ·rename_i w;refine⟨_,?_,a⟩;simp[cq.g,gE,gO,γG,bq.g,cC,w]
     simp_all
    simp_all
   ·rename_i r;split at a
    ·rename_i z;split at a
     ·rename_i m G D d;have n:dI st.g.env h.slot= .os m 0 G (G*D):=by
       show dI (gE st.env) h.slot=_;rw[og,d];rfl
      rw[n];split at a
      ·rename_i s l e y;refine⟨_,?_,a⟩;simp_all[BG,cq.g,fF,bq.g,qE]
      simp_all
     simp_all
    ·rename_i z;refine⟨st,?_,a⟩;split
     ·rename_i L;have:dI (gE st.env) h.slot= .sc (.slice none 0 0):=L;grind[og,C0]
     all_goals simp_all
  ·rename_i k b;simp only[b];split at a
   ·rename_i m c j d;have n:dI st.g.env h.slot= .ptr m c j:=by
     show dI (gE st.env) h.slot=_;rw[og,d];rfl
    rw[n];split at a
    ·rename_i i e F E y;have u:st.g.o[m]?=some (.cells (gL i) e F E):=fF y;simp only[u];split at a
     ·rename_i r;cases C:i[c+k]? with
      |none=>simp_all;|some v=>
       rw[C] at r;simp only[Option.any_some] at r;have M:=C0.1 r;have A:(gL i)[c+k]?=some (.sc (.slice none 0 0)):=by grind[t7]
       simp only[A,jJ];split at a
       ·rename_i I;rw[if_pos I];split at a
        ·rename_i s J;split at a
         ·rename_i w;refine⟨_,?_,a⟩;have N:gL (i.set (c+k) (.ow st.o.length 0 h.sz))=(gL i).set (c+k) (.os st.o.length 0 0 0):=by
           simp_all[gi,γG]
          simp_all[cq.g,bq.g,gO,cC]
         simp_all
        simp_all
       simp_all
     grind[t7,C0]
    simp_all
   simp_all
 ·rename_i f;have f:h.own=false:=by simpa using f
  unfold t6.OZ at a;cases b:h.off with
  |none=>
   rw[b] at a;simp only at a;refine PR (p:=p) (v:=jI st.env h.slot) f ?_ ?_;all_goals grind[BF,cq.g,og];|some k=>
   rw[b] at a;simp only at a;cases q:jI st.env h.slot with
   |ptr m c j=>
    rw[q] at a;simp only at a;cases y:st.o[m]? with
    |none=>simp_all;|some x=>
     rw[y] at a;cases x with
     |cells i e F E=>
      simp only at a;by_cases H:i.length=j
      ·rw[if_pos H] at a;cases C:i[c+k]? with
       |none=>simp_all;|some v=>
        rw[C] at a;refine PR (p:=p) (v:=v) f ?_ ?_
        ·unfold BF;rw[b];have:dI st.g.env h.slot= .ptr m c j:=by
          show dI (gE st.env) h.slot=_;rw[og,q];rfl
         have u:st.g.o[m]?=some (.cells (gL i) e F E):=fF y;simp_all[behind,jJ,t7]
        grind
      simp_all;|_=>exact a.elim
   |_=>rw[q] at a;exact a.elim
theorem HK:∀{hs:List ky} {st:cq} {K:cq->Prop},zz p lo hs st K->∃st',hs.foldl (λs h=>jW lo h s) st.g=st'.g/\K st'
 |[],st,K,h=>⟨st,rfl,h⟩
 |h::hs,st,K,hk=>by
  simp only[zz] at hk;obtain⟨st1,h1,h2⟩:=ZI hk;obtain⟨st2,h3,h4⟩:=HK h2;exact⟨st2,by rw[List.foldl_cons,h1,h3],h4⟩
theorem ZJ (a:List Nat) (env:eZ):gE (G8 a env)=prune a (gE env):=by
 simp[G8,prune,gE,<-og]
theorem HL (k:Nat) (st:cq):(trimS k st).g=trim k st.g:=by
 unfold trimS trim;have b:st.g.o.length=st.o.length:=by simp[cq.g,oh]
 have c:(st.g.env.all λp=>p.2.bY k)=(st.env.all λp=>p.2.bY k):=by
  simp only[cq.g,gE,ζN];grind[zD]
 have d:((st.g.o.take k).all λx=>x.bY k)=((st.o.take k).all λx=>x.bY k):=by
  simp only[cq.g,gO,<-List.map_take,ζN];grind[CU]
 rw[b,c,d];by_cases a:st.o.length<=k;·simp_all
 ·rw[if_neg a,if_neg a];split;·simp[cq.g,gO]
  ·rfl
variable {T:Tab}
theorem PS {v:Int} {n:Nat} {K:Nat->Prop}:∀{j:Nat},j<=n->splitN v n K j->(n - j:Nat)<=v->∃i:Nat,v=i/\K i
 |0,_,h,a=>by
  grind[splitN];|j+1,c,h,a=>by
  simp only[splitN] at h;by_cases b:v=(n - (j+1):Nat);·grind
  ·exact PS (by omega) h.2 (by omega)
theorem PT {v:Int} {n:Nat} {K:Nat->Prop}:∀{j:Nat},splitN v n K j->0<=v
 |0,h=>h.1
 |j+1,h=>PT h.2
theorem ZK {x:Option (Nat×Nat×Nat)} {st:cq} {K:cq->Prop} (h:splitK x st K):∃st',st'.g=st.g/\K st':=by
 unfold splitK at h;split at h;·grind
 ·rename_i p a n;split at h
  ·rename_i c e q r b;split at h
   ·rename_i k v o;obtain⟨i,rfl,f⟩:=PS (Nat.le_refl _) h (by have:=PT h;omega);refine⟨_,?_,f⟩;have l:gL (c.set a (.il k i))=gL c:=by
     rw[gi,gi,List.map_set];apply δc;grind[γG]
    simp only[cq.g,qE,bq.g,l,cq.mk.injEq,St.mk.injEq,true_and];apply δc;intro j;rw[List.getElem?_set];split
    ·rename_i d;subst d;have m:=(θ.1 b).1;rw[if_pos (by grind[oh]),Hn,b];rfl
    ·rfl
   simp_all
  simp_all
theorem PU:∀{e a:eZ},xo e a->gE e=gE a
 |[],[],_=>rfl
 |[],_::_,h=>by grind[xo];|_::_,[],h=>by grind[xo];|(k,v)::e,(d,c)::a,h=>by
  simp only[xo] at h;split at h
  ·rename_i b;subst b;have:=PU h.2;simp only[gE,ι] at this ⊢;rw[this,show v.g=c.g from h.1]
  simp_all
theorem xu:∀{o o':bW},jk o o'->gO o=gO o'
 |[],[],_=>rfl
 |[],_::_,h=>by grind[jk];|_::_,[],h=>by grind[jk];|x::o,y::o',h=>by
  simp only[jk] at h;have:=xu h.2;simp only[gO,ι] at this ⊢;rw[this,show x.g=y.g from h.1]
theorem C4 {s t:cq} (h:zA s t):s.g=t.g:=by
 simp only[cq.g,PU h.1,xu h.2]
theorem ag0 (env:eZ) (args:List Operand):args.map (eC (gE env))=gL (args.map (jj env)):=by
 simp_all[gi,zC]
theorem vE (hC:pQ T.K p.C) (hI:∀f F,p.it f=some F->T.fn f=some F):∀{c:IR} {Λ:Nat->cB} {st:cq} {Q:Out->cq->Prop},wpS p lo c Λ st Q->VW T zq lo c st.g λout s=>∃ss,s=ss.g/\Q out ss:=by
 intro c;induction c with
 |skip=>intro Λ st Q h;exact VW.skip ⟨st,rfl,h⟩;|exit id=>intro Λ st Q h;exact VW.exit ⟨st,rfl,h⟩;|ret=>intro Λ st Q h;exact VW.ret ⟨st,rfl,h⟩;|goto l=>intro Λ st Q h;exact VW.goto ⟨st,rfl,h⟩;|oK x a b iha ihb=>
  intro Λ st Q h;simp only[wpS] at h;have hx:eC st.g.env x=(jj st.env x).g:=zC _ _;split at h
  ·rename_i he;rw[he] at hx;exact VW.oK hx (by rw[if_pos rfl];exact iha h)
  ·rename_i he;rw[he] at hx;exact VW.oK hx (by rw[if_neg (by simp)];exact ihb h)
  ·rename_i c he;rw[he] at hx;have hset:∀v:SV,(SV.sb c).g=v.g->(cq.mk (CP st.env x v) st.o).g=st.g:=λv hv=>by
    cases x with
    |tmp t=>
     have:jI st.env t= .sb c:=he;simp only[cq.g,CP];rw[HG (by rw[this];exact hv)];|_=>rfl
   refine VW.oK hx ?_;cases c with
   |true=>
    have:=iha (h.1 rfl);rw[hset (.bl true) rfl] at this;rw[if_pos rfl];exact this;|false=>
    have:=ihb (h.2 rfl);rw[hset (.bl false) rfl] at this;rw[if_neg (by simp)];exact this
  ·exact h.elim;|turns l b ih=>
  intro Λ st Q h;cases l with
  |none=>
   simp only[wpS] at h;refine VW.Y4 ((ih h).mono ?_);rintro out s ⟨ss,rfl,h2⟩;cases out with
   |norm=>exact⟨by simp,ss,rfl,h2⟩;|exit id=>exact⟨by simp,ss,rfl,h2⟩;|ret=>exact⟨by simp,ss,rfl,h2⟩;|goto l=>exact h2.elim
  |some l=>
   simp only[wpS] at h;split at h
   ·rename_i X shape next J m inner _;obtain⟨⟨h0,hx⟩,hstep⟩:=h;refine VW.Y5 (λk s=>∃x,s=(shape x).g/\J x/\m x=k) ?_ (m (next st)) _ ⟨next st,C4 h0,hx,rfl⟩;rintro k s ⟨x,rfl,hj,rfl⟩;refine(ih (hstep x hj)).mono ?_;rintro out s ⟨ss,rfl,h2⟩;cases out with
    |goto l'=>
     obtain⟨rfl,h3,h4,h5⟩:=h2;refine .inl ⟨rfl,_,h5,_,?_,h4,rfl⟩;have h6:=C4 h3;rw[<-h6,HL,show(shape x).o.length=(shape x).g.o.length from by simp[cq.g,oh]];|norm=>exact .inr ⟨by simp,ss,rfl,h2⟩;|exit id=>exact .inr ⟨by simp,ss,rfl,h2⟩;|ret=>exact .inr ⟨by simp,ss,rfl,h2⟩
   ·exact h.elim
 |region id draw k ops kz live pre post=>
  intro Λ st Q h;simp only[wpS] at h;obtain⟨st0,h0,h⟩:=ZK h;obtain⟨st1,h1,h2⟩:=HK h;obtain⟨st2,h3,h4⟩:=ZG hC h2;obtain⟨Ha,h5,h6⟩:=HK h4;refine VW.region ?_;rw[<-h0,h1,h3];refine⟨Ha,?_,h6⟩;rw[<-h5];simp only[cq.g,ZJ];|tt g caps d a b _ _=>intro Λ st Q h;exact h.elim;|seq a b iha ihb=>
  intro Λ st Q h;simp only[wpS] at h;refine VW.seq ((iha h).mono ?_);rintro out s ⟨ss,rfl,h2⟩;cases out with
  |norm=>rw[if_pos rfl];exact ihb h2;|exit id=>rw[if_neg (by simp)];exact⟨ss,rfl,h2⟩;|ret=>rw[if_neg (by simp)];exact⟨ss,rfl,h2⟩;|goto l=>rw[if_neg (by simp)];exact⟨ss,rfl,h2⟩
 |cond x a b iha ihb=>
  intro Λ st Q h;simp only[wpS] at h;have hx:eC st.g.env x=(jj st.env x).g:=zC _ _;have hdr:(cq.mk (xp x st.env) st.o).g=⟨pH x st.g.env,st.g.o⟩:=by
   have:∀(t:Nat) (env:eZ),(zB t env).map (λp=>(p.1,p.2.g))=rm t (env.map λp=>(p.1,p.2.g)):=by
    intro t env;induction env with
    |nil=>rfl;|cons p env ih=>
     simp only[zB,rm,ι];cases δx p.1 t with
     |true=>simpa using ih;|false=>simpa using ih
   cases x with
   |tmp t=>simp only[cq.g,gE,xp,pH];rw[this];|_=>rfl
  split at h
  ·rename_i he;rw[he] at hx;exact VW.cond hx (by rw[if_pos rfl,<-hdr];exact iha h)
  ·rename_i he;rw[he] at hx;exact VW.cond hx (by rw[if_neg (by simp),<-hdr];exact ihb h)
  ·rename_i c he;rw[he] at hx;refine VW.cond hx ?_;cases c with
   |true=>rw[if_pos rfl,<-hdr];exact iha (h.1 rfl);|false=>rw[if_neg (by simp),<-hdr];exact ihb (h.2 rfl)
  ·exact h.elim;|block id b ih=>
  intro Λ st Q h;simp only[wpS] at h;exact VW.block ((ih h).mono λout s ⟨ss,e,h2⟩=>⟨ss,e,h2⟩);|loop b ih=>
  intro Λ st Q h;simp only[wpS] at h;split at h
  ·rename_i n ZL;clear ZL;induction n generalizing st with
   |zero=>exact h.elim;|succ n ihn=>
    simp only[G9] at h;refine VW.loop ((ih h).mono ?_);rintro out s ⟨ss,rfl,h2⟩;cases out with
    |norm=>
     rw[if_pos rfl];have:=ihn h2;rwa [HL,show st.o.length=st.g.o.length from by simp[cq.g,oh]] at this;|exit id=>rw[if_neg (by simp)];exact⟨ss,rfl,h2⟩;|ret=>rw[if_neg (by simp)];exact⟨ss,rfl,h2⟩;|goto l=>rw[if_neg (by simp)];exact⟨ss,rfl,h2⟩
  ·exact h.elim
  ·rename_i X shape next J m inner _;obtain⟨⟨h0,hx⟩,hstep⟩:=h;refine VW.Y3 (λk s=>∃x,s=(shape x).g/\J x/\m x=k) ?_ (m (next st)) _ ⟨next st,C4 h0,hx,rfl⟩;rintro k s ⟨x,rfl,hj,rfl⟩;refine(ih (hstep x hj)).mono ?_;rintro out s ⟨ss,rfl,h2⟩;cases out with
   |norm=>
    rw[if_pos rfl];obtain⟨h3,h4,h5⟩:=h2;refine⟨_,h5,_,?_,h4,rfl⟩;have h6:=C4 h3;rw[<-h6,HL,show(shape x).o.length=(shape x).g.o.length from by simp[cq.g,oh]];|exit id=>rw[if_neg (by simp)];exact⟨ss,rfl,h2⟩;|ret=>rw[if_neg (by simp)];exact⟨ss,rfl,h2⟩;|goto l=>rw[if_neg (by simp)];exact⟨ss,rfl,h2⟩
theorem PV {st:cq}:∀{a:List nk} {K:List SV->Prop},od.goK st a K->∃l,a.mapM (ri st.g)=some (gL l)/\K l
 |[],K,h=>⟨[],by simp[gL],h⟩
 |r::a,K,h=>by
  simp only[od.goK] at h;have b:∃v,ri st.g r=some v.g/\od.goK st a λl=>K (v::l):=by
   unfold od.O0 at h;unfold ri;split at h
   ·rename_i c;rw[c];exact⟨_,by grind[cq.g,og],h⟩
   grind[O9,cq.g,og]
  obtain⟨v,i,d⟩:=b;obtain⟨l,f,e⟩:=PV d;exact⟨v::l,by simp_all[gL],e⟩
theorem xw {st:cq} {b:List nk} {K:SV->Prop} (h:od st b K):∃r,nW st.g b=some r.g/\K r:=by
 unfold od at h;obtain⟨l,c,a⟩:=PV h;unfold nW;rw[c];match l,a with
 |[],a=>exact⟨_,rfl,a⟩;|[v],a=>exact⟨v,rfl,a⟩;|v::w::l,a=>exact⟨_,rfl,a⟩
theorem vF:∀(i:Nat) (args:List SV),gE (nA i args)=ic i (gL args)
 |_,[]=>rfl
 |i,v::a=>by
  have:=vF (i+1) a;grind[gE,nA,gL,ic]
theorem C5 {Λ:Nat->cB} {P:Program} (hT:kC P T) (hC:pQ T.K p.C) (hI:∀f F,p.it f=some F->T.fn f=some F) {f:FuncId} {F:fj} (hF:T.fn f=some F) {args:List SV} {r:AV} (hK:T.K f (gL args) [] false=none) (hlen:args.length=F.params)
  {Q:SV->Prop} (hQ:∀v,Q v->v.g=r) (h:sG p Λ F args Q):gQ P f=true/\lA P f (gL args) [] r []:=by
 unfold sG at h;have hw:=vE hC hI h;have hst:(cq.mk (nA 0 args) []).g=⟨ic 0 (gL args),[]⟩:=by simp[cq.g,vF,gO]
 rw[hst] at hw;obtain⟨h1,h2,_⟩:=Cm hT hF (o:=[]) (own:=false) hK (by rw[jJ];exact hlen) (v:=r) (o':=[]) (hw.mono λout s hs=>by
  obtain⟨ss,rfl,hq⟩:=hs;cases out with
  |exit id=>exact hq.elim;|goto l=>exact hq.elim;|norm=>
   obtain⟨r0,h1,h2⟩:=xw hq;obtain⟨v,h3,h4⟩:=Hq h2;refine⟨.inl rfl,?_⟩;rw[h1];show finish false 0 r0.g ss.g.o=_;have:freeze ss.g.o 6 r0.g=some v.g:=h3;simp[finish,this,hQ _ h4];|ret=>
   obtain⟨r0,h1,h2⟩:=xw hq;obtain⟨v,h3,h4⟩:=Hq h2;refine⟨.inr rfl,?_⟩;rw[h1];show finish false 0 r0.g ss.g.o=_;have:freeze ss.g.o 6 r0.g=some v.g:=h3;simp[finish,this,hQ _ h4]);exact⟨h1,h2⟩
end
structure oV (α:Type) where
 put:α->SV
 dec:SV->Option α
 ok:∀v a,dec v=some a->v.g=(put a).g
 inj:∀a b,(put a).g=(put b).g->a=b
structure qF (α:Type) where
 put:α->List SV
 dec:List SV->Option α
 ok:∀v a,dec v=some a->gL v=gL (put a)
 inj:∀a b,gL (put a)=gL (put b)->a=b
def qF.one {d:Type} (c:oV d):qF d where
 put a:=[c.put a];dec
  |[v]=>c.dec v
  |_=>none;ok v a h:=by
  match v,h with
  |[v],h=>simp only[gL,c.ok v a h]
 inj a b h:=by
  simp only[gL,ξ,and_true] at h;exact c.inj a b h
def qF.cons {f g:Type} (c:oV f) (d:qF g):qF (f×g) where
 put a:=c.put a.1::d.put a.2;dec
  |v::e=>match c.dec v,d.dec e with
   |some a,some b=>some (a,b)
   |_,_=>none
  |[]=>none;ok v a h:=by
  match v,h with
  |v::e,h=>
   simp only at h;split at h
   ·rename_i x y j i;simp only[γ] at h;subst h;simp only[gL,c.ok v x j,d.ok e y i]
   ·cases h
 inj a b h:=by
  simp only[gL,ξ] at h;exact Prod.ext (c.inj _ _ h.1) (d.inj _ _ h.2)
def qF.nil:qF Unit where
 put _:=[];dec
  |[]=>some ()
  |_=>none;ok v a h:=by
  grind
 inj a b h:=rfl
structure bL where
 f:FuncId
 α:Type
 A:qF α
 dom:α->Prop
 res:α->SV
def Holds (P:Program) (c:bL):Prop:=∀a,c.dom a->gQ P c.f=true/\lA P c.f (gL (c.A.put a)) [] (c.res a).G []
def oW (f:FuncId):List bL->Option bL
 |[]=>none
 |c::r=>bif δx c.f f then some c else oW f r
def vG (L:List bL) (f:FuncId) (args:List SV) (K:SV->Prop):Prop:=
 match oW f L with
 |some c=>iN (c.A.dec args) λa=>c.dom a/\CN (c.res a) K
 |none=>False
structure mR where
 K:FuncId->List AV->Store->Option (AV×Store)
 C:FuncId->List SV->bW->(SV->bW->Prop)->Prop
def mR.none:mR:=⟨λ_ _ _=> .none,λ_ _ _ _=>False⟩
noncomputable def sJ (L:List bL) (W:mR):cV:=λf args o own=>
 if own then W.K f args o
 else match o with
  |[]=>match oW f L with
   |some c=>(ans (λa=>gL (c.A.put a)) c.dom (λa=>(c.res a).G) args).map λv=>(v,[])
   |none=> .none
  |_=> .none
noncomputable def qG (a:FuncId->Option fj) (L:List bL) (W:mR):Tab:=⟨a,sJ L W⟩
structure pR (P:Program) (W:mR):Prop where
 K:∀f args o r o',W.K f args o=some (r,o')->gQ P f=true/\lA P f args o r o'
 C:∀(call:cV),(∀f args o,call f args o true=W.K f args o)->∀f args o K,W.C f args o K->∃(r:SV) (o':bW),iH call f (gL args) (gO o)=some (r.g,gO o')/\K r o'
theorem pR.none (P:Program):pR P mR.none where
 K:=λ_ _ _ _ _ h=>by cases h
 C:=λ_ _ _ _ _ _ h=>h.elim
theorem PW:∀{L:List bL} {f:FuncId} {c:bL},oW f L=some c->c.f=f/\c∈L
 |[],_,_,h=>by cases h;|d::L,f,c,h=>by
  simp only[oW] at h;cases a:δx d.f f with
  |true=>
   simp_all;|false=>
   rw[a] at h;simp only[cond_false] at h;obtain⟨b,e⟩:=PW h;simp_all
theorem HM:∀{v:SV} {K:SV->Prop},CN v K->∃w:SV,w.g=v.G/\K w
 | .ite c a b,K,h=>by
  cases c with
  |true=>exact HM (v:=a) (h.1 rfl);|false=>exact HM (v:=b) (h.2 rfl)
 | .ud,_,h| .sc _,_,h| .il _ _,_,h| .si _ _,_,h| .bl _,_,h| .sb _,_,h| .agg _,_,h| .bH _,_,h| .row _ _,_,h| .ep _ _ _ _,_,h| .ptr _ _ _,_,h| .ap _ _ _ _ _ _,_,h| .rp _ _ _ _ _,_,h| .ow _ _ _,_,h| .os _ _ _ _ _,_,h| .oc _ _ _ _ _,_,h| .mp _,_,h| .fn _ _ _,_,h| .ia _ _,_,h=>⟨_,rfl,h⟩
theorem xx:∀{w v:SV},v.rH w->v.g=w.G
 | .ite c a b,v,h=>by
  cases c with
  |true=>exact xx (w:=a) (h.1 rfl);|false=>exact xx (w:=b) (h.2 rfl)
 | .ud,_,h| .sc _,_,h| .il _ _,_,h| .si _ _,_,h| .bl _,_,h| .sb _,_,h| .agg _,_,h| .bH _,_,h| .row _ _,_,h| .ep _ _ _ _,_,h| .ptr _ _ _,_,h| .ap _ _ _ _ _ _,_,h| .rp _ _ _ _ _,_,h| .ow _ _ _,_,h| .os _ _ _ _ _,_,h| .oc _ _ _ _ _,_,h| .mp _,_,h| .fn _ _ _,_,h| .ia _ _,_,h=>h
variable {P:Program} {L:List bL} {W:mR} {fn:FuncId->Option fj}
theorem ua (j:pR P W) (k:∀c∈L,Holds P c) (n:kC P ⟨fn,λ_ _ _ _=>none⟩):kC P (qG fn L W) where
 fn:=n.fn;K:=λg e o b r q h=>by
  simp only[qG,sJ] at h;cases b with
  |true=>
   simp only[if_true] at h;obtain⟨p,d⟩:=j.K _ _ _ _ _ h;simp_all;|false=>
   simp only[χ,if_false] at h;split at h
   ·split at h
    ·rename_i c l;obtain⟨rfl,f⟩:=PW l;obtain⟨v,m,d⟩:=δ.1 h;simp only[Prod.mk.injEq] at d;obtain⟨rfl,rfl⟩:=d;obtain⟨a,rfl,i,rfl⟩:=Y7 m;obtain⟨t,s⟩:=k c f a i;simp_all
    ·cases h
   ·cases h
theorem ub (hW:pR P W):pQ (qG fn L W).K ⟨vG L,W.C⟩ where
 pure:=λf args K h=>by
  simp only[vG] at h;split at h
  ·rename_i c hc;obtain⟨a,h1,h2,h3⟩:=iV h;obtain⟨r,h4,h5⟩:=HM h3;refine⟨r,?_,h5⟩;have:=c.A.ok _ _ h1;simp only[qG,sJ,χ,if_false,hc,this];rw[Y6 (enc:=λa=>gL (c.A.put a)) c.A.inj h2,h4];rfl
  ·exact h.elim
 own:=λf args o K h=>hW.C _ (λf args o=>by simp[qG,sJ]) f args o K h
theorem C6 {f:FuncId} {args:List AV} (h:oW f L=none):(qG fn L W).K f args [] false=none:=by
 simp[qG,sJ,h]
def lZ (L:List bL) (W:mR) (a:TypeId->Option bk) (c:List Nat×Bool->Option (bk×bk)) (b:FuncId->Option fj):iM:=⟨⟨vG L,W.C⟩,a,c,λ_=>none,b,λ_=>false⟩
theorem holds_of (c:bL) {F:fj} {ty:TypeId->Option bk} {mt:List Nat×Bool->Option (bk×bk)} {Λ:c.α->Nat->cB} (h0:kC P ⟨fn,λ_ _ _ _=>none⟩) (hW:pR P W) (hL:∀c∈L,Holds P c)
  (hF:fn c.f=some F) (hfr:oW c.f L=none) (hlen:∀a,(c.A.put a).length=F.params)
  (h:∀a,c.dom a->sG (lZ L W ty mt fn) (Λ a) F (c.A.put a) λv=>v.rH (c.res a)):Holds P c:=by
 intro a hd;exact C5 (p:=lZ L W ty mt fn) (Λ:=Λ a) (ua hW hL h0) (ub hW) (λ_ _ h=>h) hF (C6 hfr) (hlen a) (λ_ h=>xx h) (h a hd)
def HN (L:List bL) (W:mR) (a:TypeId->Option bk) (c:List Nat×Bool->Option (bk×bk)) (b:FuncId->Option fj) (d:FuncId->Bool):iM:=⟨⟨vG L,W.C⟩,a,c,λ_=>none,b,d⟩
theorem ZM (c:bL) {F:fj} {ty:TypeId->Option bk} {mt:List Nat×Bool->Option (bk×bk)} {ro:FuncId->Bool} {Λ:c.α->Nat->cB} (h0:kC P ⟨fn,λ_ _ _ _=>none⟩) (hW:pR P W) (hL:∀c∈L,Holds P c)
  (hF:fn c.f=some F) (hfr:oW c.f L=none) (hlen:∀a,(c.A.put a).length=F.params)
  (h:∀a,c.dom a->sG (HN L W ty mt fn ro) (Λ a) F (c.A.put a) λv=>v.rH (c.res a)):Holds P c:=by
 intro a hd;exact C5 (p:=HN L W ty mt fn ro) (Λ:=Λ a) (ua hW hL h0) (ub hW) (λ_ _ h=>h) hF (C6 hfr) (hlen a) (λ_ h=>xx h) (h a hd)
def dV (k:IntKind):oV Int where
 put n:=.si k n;dec v:=v.int k;ok v a h:=by rw[gU h];rfl
 inj a b h:=by grind[γG]
def PX:oV Bool where
 put b:=.sb b;dec v:=v.boo;ok v a h:=by rw[xi h];rfl
 inj a b h:=by grind[γG]
theorem rJ:(s:bk)->(x y:s.T)->dJ s x=dJ s y->(e:s.flat=true:=by rfl)->x=y
 | .i k,x,y,h,_=>by grind[dJ];| .b,x,y,h,_=>by grind[dJ];| .eD,⟨o,B,r,f,j,q⟩,⟨p,l,g,u,A,z⟩,h,_=>by
  simp_all[dJ,iv];| .off,⟨b,⟨o,B,r,f,j,q⟩,v⟩,⟨c,⟨p,l,g,u,A,z⟩,w⟩,h,_=>by
  simp_all[dJ,iv];| .need,⟨a,b⟩,⟨c,d⟩,h,_=>by
  simp_all[dJ,iv];| .key,⟨b,⟨o,B,r,f,j,q⟩⟩,⟨c,⟨p,l,g,u,A,z⟩⟩,h,_=>by
  simp_all[dJ,iv];| .sit,⟨m,⟨o,B,r,f,j,q⟩,⟨K,F,G,N,L,P⟩⟩,⟨n,⟨p,l,g,u,A,z⟩,⟨O,J,M,I,H,E⟩⟩,h,_=>by
  simp_all[dJ,iv];| .bJ _,_,_,_,e=>by grind[bk.flat];| .pair s t,(a,b),(c,d),h,e=>by
  simp only[bk.flat,ζ] at e;simp only[dJ] at h;obtain⟨D,C⟩:=εD h (by grind[GY]);rw[rJ s a c D e.1,rJ t b d C e.2]
theorem HO {d i:Type} {n:Nat} {f:d->List i} (a:∀x,(f x).length=n) (c:∀x y,f x=f y->x=y):∀{l m:List d},l.length=m.length->l.flatMap f=m.flatMap f->l=m
 |[],[],_,_=>rfl
 |[],_::_,h,_=>by simp at h;|_::_,[],h,_=>by simp at h;|x::l,y::m,b,h=>by
  simp only[δZ] at h;obtain⟨e,g⟩:=εD h (by rw[a,a]);simp only[γB,ζg] at b;rw[c x y e,HO a c b g]
theorem xy:(s:bk)->(x y:s.T)->(h:dN s x=dN s y)->x=y
 | .bJ s,x,y,h=>by
  simp only[dN,ξ,AV.sl.injEq,and_true] at h;exact HO (lY s) (xy s) h.1 h.2;| .pair s t,(a,b),(c,d),h=>by
  simp only[dN] at h;obtain⟨e,f⟩:=εD h (by grind[lY]);rw[xy s a c e,xy t b d f];| .i k,x,y,h=>rJ (.i k) x y (t8 h)
 | .b,x,y,h=>rJ .b x y (t8 h)
 | .eD,x,y,h=>rJ .eD x y (t8 h)
 | .off,x,y,h=>rJ .off x y (t8 h)
 | .need,x,y,h=>rJ .need x y (t8 h)
 | .key,x,y,h=>rJ .key x y (t8 h)
 | .sit,x,y,h=>rJ .sit x y (t8 h)
theorem l8 (s:bk) {l m:List s.T} (a:l.length=m.length) (h:cC s l=cC s m):l=m:=
 HO (lY s) (xy s) a h
def eG (s:bk):oV s.T where
 put x:=.agg (encS s x);dec
  | .agg c=>jH s c
  |_=>none;ok v a h:=by
  grind[γG,gi,nY,tV]
 inj a b h:=by
  grind[γG,gi,tV,xy]
theorem jK {s:bk} {v:SV} {l:List s.T} (h:gj s v=some l):v.g=(SV.row s l).g:=by
 cases v<;>simp only[gj,reduceCtorEq] at h;grind[zI,γG,cC]
def dW (s:bk):oV (List s.T) where
 put l:=.row s l;dec:=gj s;ok v a h:=jK h;inj a b h:=by
  grind[γG,l8]
end Go.Vi
