/-
  The symbolic run: its operations, and what must hold for a piece of code to come to a post. Plain definitions: no proof stands here.
  Conditions: none.
-/
import Derived.Test.YtlphnffeeefcdaaGreatWC04
set_option maxRecDepth 100000
set_option maxHeartbeats 4000000
set_option linter.all false
open BitVec renaming ofInt->γl
open Bool renaming and_eq_true->θ,and_true->δH,false_eq_true->Γ,or_eq_true->δj,true_eq_false->ζG
open Function renaming comp_def->δm
open Go.Vi.AV renaming sc->δe,ren->δB
open Go.Vi.AV.sc renaming injEq->γ7
open Go.Vi.SV renaming g->γA
open List renaming replicate->δ,map_map->δn,mem_map->γf,length_cons->γy,length->Φ,drop_drop->δi,getElem?_eq_getElem->μ,take->τ,take_of_length_le->γc,map_cons->φ,take_append_drop->γK,cons_append->γC,modify_succ_cons->ζs,getElem?_eq_some_iff->ι,map_append->γg,flatMap_nil->ζm,nil_append->δO,take_succ_cons->δ3,range->Θ,range'->ζj,range'_succ->εs,range_eq_range'->δF,flatMap_cons->δ2,all_map->ζN,map->γd,ext_getElem?->δd,append_inj->εE
open List.cons renaming injEq->Ξ
open Nat renaming beq->δw,add_assoc->ζF,mul_le_mul_right->γI,add_mul->εu,add_right_cancel_iff->ζd
open Option renaming map_eq_some_iff->ε,map_some->γm,isSome_some->ζH,isSome_none->ε2
open Option.some renaming injEq->γ
namespace Go.Vi
abbrev fH:=List (Nat×SV)
abbrev cu:=List bA
structure cG where
 env:fH
 o:cu
def jI:fH->Nat->SV
 |[],_=> .ud
 |p::r,s=>bif δw p.1 s then p.2 else jI r s
def vl (env:fH) (a:Option Nat) (v:SV):fH:=
 match a with
 |none=>env
 |some d=>(d,v)::env
def SV.oW:Value->SV
 | .int k n=> .il k n
 | .bool b=> .bl b
 |v=> .sc v
def SV.uM:Value->SV
 | .agg a=>if a.toList.all (·.oneCell') then .agg (a.toList.map .oW) else .ud
 | .tuple _=> .ud
 | .int k n=> .il k n
 | .bool b=> .bl b
 |v=> .sc v
def jJ (env:fH):Operand->SV
 | .tmp t=>jI env t
 | .const v=> .uM v
 | .global _=> .ud
 | .func f=> .fn (.func f) [] []
def SV.cellsOf:SV->List SV
 | .agg a=>a
 |v=>[v]
def SV.one:SV->Bool
 | .agg _| .bN _| .ud| .ite _ _ _=>false
 | .sc v=>v.oneCell'
 |_=>true
def xo (l:List SV):Bool:=l.all (·.one)
mutual
def SV.pure:SV->Bool
 | .sc _| .il .. | .si .. | .bl _| .sb _| .row .. =>true
 |_=>false
def zx:List SV->Bool
 |[]=>true
 |c::a=>c.pure&&zx a
end
mutual
def SV.cy (k:Nat):SV->Bool
 | .ud| .sc _| .il .. | .si .. | .bl _| .sb _| .row .. | .ep .. =>true
 | .agg e| .bN e=>sA k e
 | .ptr d .. | .ap d .. | .rp d .. | .ow d .. | .os d .. | .oc d .. | .mp d=>decide (d<k)
 | .fn _ a b=>sA k a&&sA k b
 | .ia _ _| .ite _ _ _=>true
def sA (k:Nat):List SV->Bool
 |[]=>true
 |c::e=>c.cy k&&sA k e
end
def bA.cy (k:Nat):bA->Bool
 | .cells b _ _ a=>a||sA k b
 | .oU _ _ _ t=>sA k t
 |_=>true
mutual
def SV.li:SV->Bool
 | .ud| .sc _| .il .. | .si .. | .bl _| .sb _=>true
 | .agg a| .bN a=>CH a
 |_=>false
def CH:List SV->Bool
 |[]=>true
 |c::a=>c.li&&CH a
end
def bU (k:IntKind) (n:Int):Prop:=
 match k with
 | .i64=> -9223372036854775808<=n/\n<=9223372036854775807
 |k=>k.wrap n=n
def vm (k:IntKind) (n:Int) (K:Int->Prop):Prop:=
 match k with
 | .u32=>K (n % 4294967296)
 | .u64=>K (n % 18446744073709551616)
 |k=>bU k n/\K n
structure OP where
 pure:FuncId->List SV->(SV->Prop)->Prop
 own:FuncId->List SV->cu->(SV->cu->Prop)->Prop
structure ja where
 C:OP
 ty:TypeId->Option bw
 mt:List Nat×Bool->Option (bw×bw)
 sp:Nat->Option (Nat×Nat×Nat):=λ_=>none
 it:FuncId->Option fE:=λ_=>none
 ro:FuncId->Bool:=λ_=>false
def sB (cs:List SV) (a:Nat):Option Nat->Option SV
 |none=>cs[a]?
 |some n=>if a+n<=cs.length then some (.agg ((cs.drop a).take n)) else none
def tP (cs:List SV) (a:Nat):List SV->List SV
 |[]=>cs
 |v::b=>tP (cs.set a v) (a+1) b
def jb {b:Type} (x:Option b) (K:b->Prop):Prop:=match x with|some a=>K a|none=>False
def vn {b:Type} (f:SV->(b->Prop)->Prop):List SV->(List b->Prop)->Prop
 |[],K=>K []
 |v::c,K=>f v λa=>vn f c λd=>K (a::d)
def rl (o:cu):Nat->SV->(SV->Prop)->Prop
 |_,.ud,K=>K .ud
 |_,.sc v,K=>match v with
  | .slice none 0 0=>K (.row (.i .i64) [])
  |v=>K (.sc v)
 |_,.il k n,K=>K (.il k n)
 |_,.si k n,K=>K (.si k n)
 |_,.bl b,K=>K (.bl b)
 |_,.sb b,K=>K (.sb b)
 |_,.row s l,K=>K (.row s l)
 |_,.ia t cs,K=>K (.ia t cs)
 |d+1,.agg cs,K=>vn (rl o d) cs λcs'=>K (.agg cs')
 |d+1,.bN cs,K=>vn (rl o d) cs λcs'=>K (.bN cs')
 |d+1,.fn f a b,K=>vn (rl o d) a λa'=>vn (rl o d) b λb'=>K (.fn f a' b')
 |_+1,.ow id n sz,K=>match o[id]? with
  |some (.row s l _ _)=>if sz=s.sz then n=l.length/\K (.row s l) else False
  |_=>False
 |_+1,.os id off len n sz,K=>match o[id]? with
  |some (.row s l _ _)=>if sz=s.sz then n=l.length/\off+len<=n/\K (.row s ((l.drop off).take len)) else False
  |_=>False
 |_,_,_=>False
def mN (o:cu) (a:SV) (n:Option Nat) (K:SV->Prop):Prop:=
 match a with
 | .ptr h b d=>match o[h]? with
  |some (.cells c _ _ _)=>if c.length=d then jb (sB c b n) K else False
  |_=>False
 | .ap h e g f d i=>match o[h]? with
  |some (.cells c _ _ _)=>if c.length=d/\e+g*f<=d then i<f/\zy ((c.drop e).take (g*f)) g i n K else False
  |_=>False
 | .ep s l i b=>i<l.length/\jb (sB (encS s (bp l i s.dflt)) b n) K
 | .rp h i b m g=>match o[h]? with
  |some (.row s l _ _)=>if g=s.sz then m=l.length/\i<l.length/\jb (sB (encS s (bp l i s.dflt)) b n) K else False
  |_=>False
 |_=>False
where
 zy (c:List SV) (g i:Nat) (n:Option Nat) (K:SV->Prop):Prop:=
  match n,g with
  |none,1=>match ints c with
   |some l=>K (.si .i64 (bp l i 0))
   |none=>match rowsOff c with
    |some l=>K (.row .off (bp l i []))
    |none=>False
  |_,_=>False;rowsOff:List SV->Option (List (List Off))
  |[]=>some []
  | .row .off l::c=>(rowsOff c).map (l::·)
  |_=>none
def mkK (bF:Nat) (x:bA) (o:cu) (K:cu->Prop):Prop:=
 match o[bF]? with
 |some .dead=>K (o.set bF x)
 |_=>False
def sC (a:List (Nat×Nat×SV)) (cs:List SV):Option (List SV):=
 match a with
 |[]=>some cs
 |(b,n,v)::c=>
  if v.cellsOf.length=n/\xo v.cellsOf=true/\b+n<=cs.length then sC c (tP cs b v.cellsOf) else none
def tQ (s:bw):Nat->List SV->Option (List s.T)
 |0,[]=>some []
 |n+1,a=>match jU s (a.take s.sz),tQ s n (a.drop s.sz) with
  |some x,some l=>some (x::l)
  |_,_=>none
 |_,_=>none
def vo (o:cu) (s:bw) (x:SV) (K:List s.T->Prop):Prop:=
 match x with
 | .row a l=>jb (iF a s l) K
 | .ow d n e=>match o[d]? with
  |some (.row a l _ _)=>if e=a.sz then n=l.length/\jb (iF a s l) K else False
  |_=>False
 | .os d c b n e=>match o[d]? with
  |some (.row a l _ _)=>if e=a.sz then n=l.length/\c+b<=n/\jb (iF a s ((l.drop c).take b)) K else False
  |_=>False
 | .sc (.slice none 0 0)=>K []
 |_=>False
def OQ (o:cu):SV->Option (List SV)
 | .ow j 1 a=>match o[j]? with
  |some (.oU s [] _ t)=>if s.sz=a then some t else none
  |_=>none
 |_=>none
def SV.OS:SV->Bool
 | .ow .. =>true
 |_=>false
def zz:SV->Option Int
 | .si _ n=>some n
 | .il _ n=>some n
 |_=>none
def isNil:SV->Bool
 | .sc (.slice none 0 0)=>true
 |_=>false
def ie (e:BinOp) (x y:SV) (K:SV->Prop):Prop:=
 match x,y with
 | .il k a,.il d b=>match gZ e (.int k a) (.int d b) with
  |some (.int k n)=>K (.il k n)
  |some (.bool c)=>K (.bl c)
  |_=>False
 | .si k a,.si d b=>go k a d b
 | .il k a,.si d b=>go k a d b
 | .si k a,.il d b=>go k a d b
 | .sc (.string a),.sc (.string b)=>match e with
  | .eql=>K (.sb (a.toList==b.toList))
  | .neq=>K (.sb (!(a.toList==b.toList)))
  |_=>False
 |_,_=>False
where
 go (k:IntKind) (a:Int) (d:IntKind) (b:Int):Prop:=
  match e with
  | .shl=>0<=b/\b<=k.bits/\vm k (a*2^b.toNat) λn=>K (.si k n)
  | .shr=>0<=b/\b<=k.bits/\K (.si k (a / 2^b.toNat))
  | .add=>if k=d then vm k (a+b) λn=>K (.si k n) else False
  | .sub=>if k=d then vm k (a - b) λn=>K (.si k n) else False
  | .mul=>if k=d then vm k (a*b) λn=>K (.si k n) else False
  | .quo=>if k=d then b≠0/\bU k (a.tdiv b)/\K (.si k (a.tdiv b)) else False
  | .rem=>if k=d then b≠0/\K (.si k (a.tmod b)) else False
  | .and=>if k=d then K (.si k (vp k a b)) else False
  | .or=>if k=d then K (.si k (nV k a b)) else False
  | .xor=>if k=d then K (.si k (GQ k a b)) else False
  | .andNot=>if k=d then K (.si k (CJ k a b)) else False
  | .eql=>if k=d then K (.sb (decide (a=b))) else False
  | .neq=>if k=d then K (.sb (decide (a≠b))) else False
  | .lss=>if k=d then K (.sb (decide (a<b))) else False
  | .leq=>if k=d then K (.sb (decide (a<=b))) else False
  | .gtr=>if k=d then K (.sb (decide (b<a))) else False
  | .geq=>if k=d then K (.sb (decide (b<=a))) else False;vp (k:IntKind) (a b:Int):Int:=fe k (γl k.bits a &&&γl k.bits b).toNat;nV (k:IntKind) (a b:Int):Int:=fe k (γl k.bits a |||γl k.bits b).toNat;GQ (k:IntKind) (a b:Int):Int:=fe k (γl k.bits a ^^^γl k.bits b).toNat;CJ (k:IntKind) (a b:Int):Int:=fe k (γl k.bits a &&&~~~(γl k.bits b)).toNat
def GR:SV->SV->Option Bool
 | .si k a,y=>(y.int k).map λb=>decide (a=b)
 | .il k a,y=>(y.int k).map λb=>decide (a=b)
 | .sb a,y=>y.boo.map λb=>a==b
 | .bl a,y=>y.boo.map λb=>a==b
 |_,_=>none
def tV:List SV->List SV->Option Bool
 |[],[]=>some true
 |x::d,y::c=>match GR x y,tV d c with
  |some a,some b=>some (a&&b)
  |_,_=>none
 |_,_=>none
def lF:List Nat->List SV->Bool
 |[],[]=>true
 |0::a,.si _ _::b=>lF a b
 |0::a,.il _ _::b=>lF a b
 |1::a,.sb _::b=>lF a b
 |1::a,.bl _::b=>lF a b
 |_,_=>false
def nW (a sv:bw) (x:a.T) (es:List (a.T×sv.T)):Option sv.T:=(es.find? λp=>decide (p.1=x)).map (·.2)
def sD (a sv:bw) (x:a.T) (v:sv.T):List (a.T×sv.T)->List (a.T×sv.T)
 |[]=>[(x,v)]
 |p::r=>if p.1=x then(x,v)::r else p::sD a sv x v r
def vq (a:Bool):SV->Bool
 | .agg _=>a
 |_=>!a
def bw.keyed:bw->Bool
 | .key| .sit| .i _=>true
 |_=>false
def nX (d:Nat):Option SV->(Nat->Prop)->Prop
 |none,K=>K d
 |some (.il _ n),K=>if 0<=n then K n.toNat else False
 |some (.si _ n),K=>0<=n/\K n.toNat
 |_,_=>False
def tW:List Int->Nat->Int->Nat->List Int
 |[],_,_,_=>[]
 |a::l,i,v,j=>(if i=j then v else a)::tW l i v (j+1)
def CL:SV->(SV->Prop)->Prop
 | .ite c a b,K=>(c=true->CL a K)/\(c=false->CL b K)
 |v,K=>K v
def SV.G:SV->AV
 | .ite c a b=>match c with
  |true=>a.G
  |false=>b.G
 |v=>v.g
def eX (p:ja) (op:cO) (ρ:Operand->SV) (o:cu) (bF:Nat) (K:SV->cu->Prop):Prop:=
 match op with
 | .uN x=>K (ρ x) o
 | .pick c a b=>match ρ c with
  | .bl true=>K (ρ a) o
  | .bl false=>K (ρ b) o
  | .sb c=>(c=true->K (ρ a) o)/\(c=false->K (ρ b) o)
  |_=>False
 | .alloc z e pu=>mkK bF (.cells (z.map .oW) e z.length pu) o λo'=>K (.ptr bF 0 z.length) o'
 | .box e x=>if xo (ρ x).cellsOf then mkK bF (.cells (ρ x).cellsOf e (ρ x).cellsOf.length false) o λo'=>K (.ptr bF 0 (ρ x).cellsOf.length) o' else False
 | .build z parts=>jb (sC (parts.map λq=>(q.1,q.2.1,ρ q.2.2)) (z.map .oW)) λcs=>K (.agg cs) o
 | .pD z len parts e sz=>match p.ty e,sC (parts.map λq=>(q.1,sz,ρ q.2)) ((δ len (z.map SV.oW)).flatten) with
  |some s,some cs=>if s.sz=sz then(if cs.any SV.OS then(if cs.length=len*sz then mkK bF (.oU s [] e cs) o λo'=>K (.ow bF len sz) o' else False) else jb (tQ s len (cs.map SV.qn)) λl=>mkK bF (.row s l e true) o λo'=>K (.ow bF len sz) o') else False
  |_,_=>False
 | .tf z len parts e sz=>match p.ty e,sC (parts.map λq=>(q.1,sz,ρ q.2)) ((δ len (z.map SV.oW)).flatten) with
  |some s,some cs=>if s.sz=sz then jb (tQ s len (cs.map SV.qn)) λl=>K (.row s l) o else False
  |_,_=>False
 | .load n a=>mN o (ρ a) n λv=>K v o
 | .store n a x=>match ρ a with
  | .ptr id off tot=>match o[id]? with
   |some (.cells cs e sz pu)=>
    if cs.length=tot/\(ρ x).cellsOf.length=n/\xo (ρ x).cellsOf=true/\off+n<=cs.length/\(pu=false\/zx (ρ x).cellsOf=true) then K .ud (o.set id (.cells (tP cs off (if pu then(ρ x).cellsOf.map SV.qn else(ρ x).cellsOf)) e sz pu)) else False
   |_=>False
  | .rp id i off m sz=>match o[id]? with
   |some (.row s l e pu)=>
    if sz=s.sz/\(ρ x).cellsOf.length=n/\off+n<=s.sz then m=l.length/\i<l.length/\jb (jU s (tP (encS s (bp l i s.dflt)) off (if pu then(ρ x).cellsOf.map SV.qn else(ρ x).cellsOf))) λv=>K .ud (o.set id (.row s (l.set i v) e pu)) else False
   |_=>False
  | .ap id base sz len tot i=>match o[id]? with
   |some (.cells cs e sz' pu)=>match n,sz,(ρ x).int .i64 with
    |1,1,some v=>match ints ((cs.drop base).take len) with
     |some l=>if cs.length=tot/\base+len<=tot then i<len/\K .ud (o.set id (.cells (tP cs base ((tW l i v 0).map (SV.si .i64))) e sz' pu)) else False
     |none=>False
    |_,_,_=>False
   |_=>False
  |_=>False
 | .uO x=>match ρ x with
  | .ptr a b c=>K (.ptr a b c) o
  | .rp a b c d e=>K (.rp a b c d e) o
  | .ep s l i f=>K (.ep s l i f) o
  |_=>False
 | .bin op x y=>ie op (ρ x) (ρ y) λv=>K v o
 | .beq neg x y=>match(ρ x).boo,(ρ y).boo with
  |some a,some b=>K (.sb (if neg then !(a==b) else a==b)) o
  |_,_=>False
 | .sd neg ks x y=>match ρ x,ρ y with
  | .agg a,.agg b=>if lF ks a&&lF ks b then jb (tV a b) λr=>K (.sb (if neg then !r else r)) o else False
  |_,_=>False
 | .un op x=>match op,ρ x with
  | .not,.sb b=>K (.sb !b) o
  | .not,.bl b=>K (.bl !b) o
  | .neg,.si k n=>bU k (-n)/\K (.si k (-n)) o
  | .neg,.il k n=>K (.il k (fe k (0 - n))) o
  |_,_=>False
 | .conv k x=>match ρ x with
  | .il _ n=>K (.il k (fe k n)) o
  | .si .i64 n=>bU k n/\K (.si k n) o
  | .si _ n=>vm k n λm=>K (.si k m) o
  |_=>False
 | .uP off x=>match ρ x with
  | .ptr id b tot=>K (.ptr id (b+off) tot) o
  | .ep s l i b=>K (.ep s l i (b+off)) o
  | .rp id i b m sz=>K (.rp id i (b+off) m sz) o
  |_=>False
 | .field off n x=>match ρ x with
  | .agg cs=>jb (sB cs off n) λv=>K v o
  |_=>False
 | .uQ len sz x i=>match ρ i with
  | .il _ n=>if 0<=n/\n<len then(match ρ x with
   | .ptr id b tot=>K (.ptr id (b+n.toNat*sz) tot) o
   | .ep s l j b=>K (.ep s l j (b+n.toNat*sz)) o
   | .rp id j b m sz'=>K (.rp id j (b+n.toNat*sz) m sz') o
   |_=>False) else False
  | .si _ n=>match ρ x with
   | .ptr id b tot=>0<=n/\n<len/\K (.ap id b sz len tot n.toNat) o
   |_=>False
  |_=>False
 | .sf sz x i=>match zz (ρ i) with
  |some n=>match ρ x with
   | .row s l=>if sz=s.sz then 0<=n/\n<l.length/\K (.ep s l n.toNat 0) o else False
   | .ow id m sz'=>match o[id]? with
    |some (.row s l _ _)=>if sz=s.sz/\sz'=s.sz then m=l.length/\0<=n/\n<l.length/\K (.rp id n.toNat 0 m sz) o else False
    |_=>False
   | .os id off len m sz'=>match o[id]? with
    |some (.row s l _ _)=>if sz=s.sz/\sz'=s.sz then m=l.length/\0<=n/\n<len/\off+len<=m/\K (.rp id (off+n.toNat) 0 m sz) o else False
    |_=>False
   | .oc id off len m sz'=>match o[id]? with
    |some (.row s l _ _)=>if sz=s.sz/\sz'=s.sz then m=l.length/\0<=n/\n<len/\off+len<=m/\K (.rp id (off+n.toNat) 0 m sz) o else False
    |_=>False
   |_=>False
  |none=>False
 | .idx len sz n x i=>match ρ i,ρ x with
  | .il _ k,.agg cs=>if 0<=k/\k<len then jb (sB cs (k.toNat*sz) n) λv=>K v o else False
  | .si _ k,.agg cs=>match n,sz,ints cs with
   |none,1,some l=>if l.length=len then 0<=k/\k<len/\K (.si .i64 (bp l k.toNat 0)) o else False
   |_,_,_=>False
  |_,_=>False
 | .qf z e sz bytes l c pu=>match zz (ρ l),zz (ρ c),p.ty e with
  |some n,some m,some s=>if s.sz=sz then jb (jU s (if pu then(z.map SV.oW).map SV.qn else z.map .oW)) λx=>0<=n/\n<=m/\m*bytes<=140737488355328/\m<=1000000000000/\
    mkK bF (.row s (δ n.toNat x) e pu) o λo'=>K (.ow bF n.toNat sz) o' else False
  |_,_,_=>False
 | .slice sz x lo hi=>match ρ x with
  | .row s l=>if sz=s.sz then nX 0 (lo.map ρ) λa=>nX l.length (hi.map ρ) λb=>a<=b/\b<=l.length/\K (.row s ((l.drop a).take (b - a))) o else False
  | .ow id m sz'=>match o[id]? with
   |some (.row s l _ _)=>if sz=s.sz/\sz'=s.sz then m=l.length/\nX 0 (lo.map ρ) λa=>nX m (hi.map ρ) λb=>a<=b/\b<=m/\K (.os id a (b - a) m sz) o else False
   |_=>False
  | .os id off len m sz'=>match o[id]? with
   |some (.row s l _ _)=>if sz=s.sz/\sz'=s.sz then m=l.length/\nX 0 (lo.map ρ) λa=>nX len (hi.map ρ) λb=>a<=b/\b<=len/\K (.os id (off+a) (b - a) m sz) o else False
   |_=>False
  |_=>False
 | .slice3 sz x lo hi mx=>match ρ x with
  | .row s l=>if sz=s.sz then nX 0 (lo.map ρ) λa=>nX l.length (some (ρ hi)) λb=>nX l.length (some (ρ mx)) λm=>a<=b/\b<=m/\m<=l.length/\K (.row s ((l.drop a).take (b - a))) o else False
  | .ow id n sz'=>match o[id]? with
   |some (.row s l _ _)=>if sz=s.sz/\sz'=s.sz then n=l.length/\nX 0 (lo.map ρ) λa=>nX n (some (ρ hi)) λb=>nX n (some (ρ mx)) λm=>a<=b/\b<=m/\m<=n/\K (.oc id a (b - a) n sz) o else False
   |_=>False
  |_=>False
 | .append e sz bytes s x pu=>match p.ty e,OQ o (ρ x) with
  |some t,some tl=>match ρ s,ρ x with
   | .ow id n sz',.ow _ _ YM=>match o[id]? with
    |some (.row t' l e' GU)=>if e'=e/\t'.sz=sz/\sz'=sz/\YM=sz/\t.sz=sz/\GU=false/\tl.length=sz/\xo tl=true then n=l.length/\(l.length+1)*bytes<=140737488355328/\l.length+1<=1000000000000/\
      K (.ow id (l.length+1) sz) (o.set id (.oU t' l e tl)) else False
    |_=>False
   |_,_=>False
  |some t,none=>if t.sz=sz then vo o t (ρ x) λnew=>match ρ s with
    | .sc (.slice none 0 0)=>(new.length=0->K (.sc y7) o)/\(new.length≠0->new.length*bytes<=140737488355328/\new.length<=1000000000000/\mkK bF (.row t new e pu) o λo'=>K (.ow bF new.length sz) o')
    | .ow id n sz'=>match o[id]? with
     |some (.row t' l e' GU)=>if e'=e/\t'.sz=sz/\sz'=sz then n=l.length/\(l.length+new.length)*bytes<=140737488355328/\l.length+new.length<=1000000000000/\
       jb (iF t' t l) λl'=>K (.ow id (l'++new).length sz) (o.set id (.row t (l'++new) e GU)) else False
     |_=>False
    | .row t' l=>new.length=0/\K (.row t' l) o
    |_=>False
   else False
  |none,_=>False
 | .len k x=>match k,ρ x with
  |0,.row _ l=>K (.si .i64 l.length) o
  |0,.ow _ n _=>K (.si .i64 n) o
  |0,.os _ _ len _ _=>K (.si .i64 len) o
  |0,.oc _ _ len _ _=>K (.si .i64 len) o
  |0,.sc (.slice none 0 0)=>K (.il .i64 0) o
  |1,.sc (.string s)=>K (.si .i64 s.size) o
  |2,.mp id=>match o[id]? with
   |some (.map _ _ _ es _ _)=>K (.si .i64 es.length) o
   |_=>False
  |_,_=>False
 | .uS n=>K (.il .i64 n) o
 | .mm mx x y=>match ρ x,ρ y with
  | .il k a,.il k' b=>if k=k' then K (.il k (if mx then(if b>a then b else a) else(if b<a then b else a))) o else False
  | .si k a,y=>jb (y.int k) λb=>K (.si k (if mx then max a b else min a b)) o
  | .il k a,y=>jb (y.int k) λb=>K (.si k (if mx then max a b else min a b)) o
  |_,_=>False
 | .call f args own=>zA p f (args.map ρ) o own K
 | .jT f args own=>match ρ f with
  | .fn (.func g) first captured=>zA p g (first++args.map ρ++captured) o own K
  |_=>False
 | .extract x i=>match ρ x with
  | .bN vs=>jb vs[i]? λv=>K v o
  |_=>False
 | .tg f first captured=>K (.fn f (first.map ρ) (captured.map ρ)) o
 | .uT t x=>match ρ x with
  | .agg cs=>if zx cs=true then K (.ia t cs) o else False
  |_=>False
 | .oL tab x args=>match ρ x with
  | .ia t cs=>match uV tab t with
   |some f=>zA p f (.agg cs::args.map ρ) o false K
   |none=>False
  |_=>False
 | .qg kt pu=>match p.mt kt with
  |some (sk,sv)=>mkK bF (.map sk sv kt.2 [] kt pu) o λo'=>K (.mp bF) o'
  |none=>False
 | .lookup z agg ks ka x k ok=>match ρ x with
  | .mp id=>match o[id]? with
   |some (.map sk sv xp es kt _)=>
    if kt=(ks,ka)/\xp=ka/\sk.keyed=true/\sv.xm=true/\agg=false/\(ka=false->sk.sz=1)/\lF ks (ρ k).cellsOf=true/\vq ka (ρ k)=true then
     jb (jU sk (ρ k).cellsOf) λkv=>jb (jU sv (z.map .oW)) λzv=>
      let r:=(encS sv ((nW sk sv kv es).getD zv)).headD .ud;K (if ok then .bN [r,.sb (nW sk sv kv es).isSome] else r) o
    else False
   |_=>False
  |_=>False
 | .qX ks ka x k v=>match ρ x with
  | .mp id=>match o[id]? with
   |some (.map sk sv xp es kt pu)=>
    if kt=(ks,ka)/\xp=ka/\sk.keyed=true/\sv.xm=true/\(ka=false->sk.sz=1)/\lF ks (ρ k).cellsOf=true/\vq ka (ρ k)=true/\vq false (ρ v)=true then
     jb (jU sk (ρ k).cellsOf) λkv=>jb (jU sv (ρ v).cellsOf) λvv=>K .ud (o.set id (.map sk sv xp (sD sk sv kv vv es) kt pu))
    else False
   |_=>False
  |_=>False
 |_=>False
where
 zA (p:ja) (f:FuncId) (args:List SV) (o:cu) (own:Bool) (K:SV->cu->Prop):Prop:=
  if own then p.C.own f args o K
  else vn (rl o 6) args λargs'=>p.C.pure f args' λr=>if(args.flatMap (λv=>fA (o.map bA.g) 6 v.g)).isEmpty||r.li then K r o else False
def xt:fH->Nat->SV->fH
 |[],_,_=>[]
 |p::r,s,v=>bif δw p.1 s then(p.1,v)::r else p::xt r s v
def GV (env:fH) (g:Option (Option Nat×Bool)) (K:fH->Bool->Prop):Prop:=
 match g with
 |none=>K env true
 |some (none,_)=>False
 |some (some s,b)=>match jI env s with
  | .bl c=>K env (c==b)
  | .sb c=>(c=true->K (xt env s (.bl true)) (true==b))/\(c=false->K (xt env s (.bl false)) (false==b))
  | .bN []=>K env false
  |_=>False
def SV.same (v w:SV):Prop:=v.g=w.g
def SV.rm (v:SV):SV->Prop
 | .ite c a b=>(c=true->v.rm a)/\(c=false->v.rm b)
 |w=>v.same w
def bA.same (x y:bA):Prop:=x.g=y.g
def kq:cu->cu->Prop
 |[],[]=>True
 |x::o,y::a=>x.same y/\kq o a
 |_,_=>False
def OT (p:ja) (a:cO) (o o':cu) (K:Bool->Prop):Prop:=
 match a with
 | .call f _ true=>if p.ro f=true then kq o o'/\K true else K false
 |_=>K false
def xu (p:ja) (base:Nat):List dA->cG->Trace->(cG->Trace->Prop)->Prop
 |[],b,c,K=>K b c
 |i::r,b,c,K=>GV b.env i.guard λa w=>
   if w then eX p i.op (jJ a) b.o (base+i.bF) λv d=>OT p i.op b.o d λe=>xu p base r ⟨vl a i.dst v,d⟩ ((i.idx,dY i.op (λx=>(jJ a x).g) (b.o.map bA.g) (base+i.bF),if e then[] else wrt i.op (λx=>(jJ a x).g) (b.o.map bA.g) (base+i.bF))::c) K
   else xu p base r ⟨vl a i.dst (.bN []),b.o⟩ ((i.idx,[],[])::c) K
def bA.mZ:bA->Bool
 | .dead=>true
 |_=>false
def GX (base:Nat) (o:cu):cu:=if(o.drop base).all (·.mZ) then o.take base else o
def GY (p:ja) (k:Nat) (c:List dA) (b:List (Nat×Nat)) (st:cG) (K:cG->Prop):Prop:=
 xu p st.o.length c ⟨st.env,st.o++δ k .dead⟩ [] λa d=>
  if b.isEmpty||tn (st.o.length+k) d.reverse b then K ⟨a.env,if k=0 then a.o else GX st.o.length a.o⟩ else False
mutual
def jK (id:Nat) (s:bw) (l:List s.T):SV->(SV->Prop)->Prop
 | .ow j n m,K=>if j=id then(if m=s.sz then n=l.length/\K (.row s l) else False) else K (.ow j n m)
 | .os j h g n m,K=>if j=id then(if m=s.sz then n=l.length/\h+g<=n/\K (.row s ((l.drop h).take g)) else False) else K (.os j h g n m)
 | .oc j h g n m,K=>if j=id then False else K (.oc j h g n m)
 | .rp j i f n m,K=>if j=id then False else K (.rp j i f n m)
 | .ptr j f t,K=>if j=id then False else K (.ptr j f t)
 | .ap j a b c d e,K=>if j=id then False else K (.ap j a b c d e)
 | .agg o,K=>rq id s l o λk=>K (.agg k)
 | .bN o,K=>rq id s l o λk=>K (.bN k)
 | .fn f a b,K=>rq id s l a λp=>rq id s l b λr=>K (.fn f p r)
 |v,K=>K v
def rq (id:Nat) (s:bw) (l:List s.T):List SV->(List SV->Prop)->Prop
 |[],K=>K []
 |c::o,K=>jK id s l c λq=>rq id s l o λk=>K (q::k)
end
def zB (id:Nat) (s:bw) (l:List s.T):fH->(fH->Prop)->Prop
 |[],K=>K []
 |(k,v)::r,K=>jK id s l v λa=>zB id s l r λb=>K ((k,a)::b)
def nY (id:Nat) (s:bw) (l:List s.T):Nat->cu->(cu->Prop)->Prop
 |_,[],K=>K []
 |i,x::r,K=>match x with
  | .cells g e h b=>if b then(if i=id then False else nY id s l (i+1) r λa=>K (.cells g e h b::a)) else rq id s l g λd=>nY id s l (i+1) r λa=>K (.cells d e h b::a)
  | .oU c f e t=>if i=id then False else rq id s l t λj=>match tQ c 1 j with
   |some m=>nY id s l (i+1) r λa=>K (.row c (f++m) e false::a)
   |none=>False
  | .row c f e b=>if i=id then(if b then nY id s l (i+1) r λa=>K (.dead::a) else False) else nY id s l (i+1) r λa=>K (.row c f e b::a)
  |x=>nY id s l (i+1) r λa=>K (x::a)
def tX (p:ja) (lo:Nat) (h:kL) (st:cG) (K:cG->Prop):Prop:=
 if h.own then match h.off with
  |none=>if isNil (jI st.env h.slot) then(match p.ty h.e with
    |some s=>if s.sz=h.sz then K ⟨(h.slot,.ow st.o.length 0 h.sz)::st.env,st.o++[.row s [] h.e h.pu]⟩ else False
    |none=>False) else if h.sz=0 then(match jI st.env h.slot with
     | .ow a _ _=>match st.o[a]? with
      |some (.row s l e true)=>K ⟨st.env,st.o.set a (.row s l e false)⟩
      |_=>False
     |_=>False) else K st
  |some k=>match jI st.env h.slot with
   | .ptr a b c=>match st.o[a]? with
    |some (.cells d e i f)=>if(d[b+k]?).any isNil then(if d.length=c/\f=false then(match p.ty h.e with
      |some s=>if s.sz=h.sz then K ⟨st.env,(st.o.set a (.cells (d.set (b+k) (.ow st.o.length 0 h.sz)) e i f))++[.row s [] h.e h.pu]⟩ else False
      |none=>False) else False) else K st
    |_=>False
   |_=>False
 else match OU h st with
  |some (some a)=>if Nat.ble lo a then(match st.o[a]? with
   |some (.row s l e f)=>zB a s l st.env λg=>nY a s l 0 (if f then st.o else st.o.set a (.row s l e true)) λo=>K ⟨g,o⟩
   |_=>False) else K st
  |some none=>K st
  |none=>False
where
 xw:SV->Option Nat
  | .ow a .. =>some a
  | .os a .. =>some a
  | .oc a .. =>some a
  |_=>none;OU (h:kL) (st:cG):Option (Option Nat):=
  match h.off with
  |none=>some (xw (jI st.env h.slot))
  |some k=>match jI st.env h.slot with
   | .ptr a b c=>match st.o[a]? with
    |some (.cells d _ _ _)=>if d.length=c then(d[b+k]?).map xw else none
    |_=>none
   |_=>none
def zC (p:ja) (lo:Nat):List kL->cG->(cG->Prop)->Prop
 |[],st,K=>K st
 |h::hs,st,K=>tX p lo h st λst'=>zC p lo hs st' K
def GZ (a:List Nat) (env:fH):fH:=a.map λs=>(s,jI env s)
def trimS (k:Nat) (st:cG):cG:=
 if st.o.length<=k then st
 else if(st.env.all λp=>p.2.cy k)&&((st.o.take k).all λx=>x.cy k) then⟨st.env,st.o.take k⟩ else st
def xx:fH->fH->Prop
 |[],[]=>True
 |(k,v)::e,(b,c)::a=>if k=b then v.same c/\xx e a else False
 |_,_=>False
def zD (s t:cG):Prop:=xx s.env t.env/\kq s.o t.o
def iS (s:cG) (k:Nat):Int:=match jI s.env k with
 | .si _ n=>n
 | .il _ n=>n
 |_=>0
def bS (s:cG) (k:Nat):Bool:=match jI s.env k with
 | .sb b=>b
 | .bl b=>b
 |_=>false
def rS (t:bw) (s:cG) (k:Nat):List t.T:=match jI s.env k with
 | .row a l=>match iF a t l with
  |some l=>l
  |none=>[]
 |_=>[]
def oS (t:bw) (s:cG) (id:Nat):List t.T:=match s.o[id]? with
 |some (.row a l _ _)=>match iF a t l with
  |some l=>l
  |none=>[]
 |_=>[]
def splitN (v:Int) (n:Nat) (K:Nat->Prop):Nat->Prop
 |0=>0<=v/\v<n
 |j+1=>(v=(n - (j+1):Nat)->K (n - (j+1)))/\splitN v n K j
def splitK (x:Option (Nat×Nat×Nat)) (st:cG) (K:cG->Prop):Prop:=
 match x with
 |none=>K st
 |some (b,a,n)=>match st.o[b]? with
  |some (.cells c e f d)=>match c[a]? with
   |some (.si k v)=>splitN v n (λj=>K ⟨st.env,st.o.set b (.cells (c.set a (.il k j)) e f d)⟩) n
   |_=>False
  |_=>False
inductive cC where
 |ry (n:Nat)
 |look
 |inv (X:Type) (shape:X->cG) (next:cG->X) (J:X->Prop) (m:X->Nat) (inner:X->Nat->cC)
def Look (_:cG):Prop:=False
def vr:IR->Nat
 | .region c .. =>c
 | .seq .skip b=>vr b
 | .seq a _=>vr a
 | .block _ b=>vr b
 | .loop b=>vr b
 | .turns _ b=>vr b
 |_=>0
def G0 (W:cG->(Out->cG->Prop)->Prop) (Q:Out->cG->Prop):Nat->cG->Prop
 |0,_=>False
 |n+1,b=>W b λa s=>match a with
  | .norm=>G0 W Q n (trimS b.o.length s)
  |o=>Q o s
def zE (t:Nat):fH->fH
 |[]=>[]
 |p::r=>bif δw p.1 t then zE t r else p::zE t r
def xy (x:Operand) (env:fH):fH:=
 match x with
 | .tmp t=>zE t env
 |_=>env
def CN (env:fH) (x:Operand) (v:SV):fH:=
 match x with
 | .tmp t=>xt env t v
 |_=>env
def wpS (p:ja) (lo:Nat):IR->(Nat->cC)->cG->(Out->cG->Prop)->Prop
 | .skip,_,st,Q=>Q .norm st
 | .region id draw k ops kM live pre post,_,st,Q=>splitK (p.sp id) st λst0=>zC p lo pre st0 λst1=>GY p k ops kM st1 λst2=>zC p lo post ⟨GZ live st2.env,st2.o⟩ λG2=>Q .norm G2
 | .seq a b,Λ,st,Q=>wpS p lo a Λ st λout s=>match out with
  | .norm=>wpS p lo b Λ s Q
  |o=>Q o s
 | .cond x a b,Λ,st,Q=>match jJ st.env x with
  | .bl true=>wpS p lo a Λ ⟨xy x st.env,st.o⟩ Q
  | .bl false=>wpS p lo b Λ ⟨xy x st.env,st.o⟩ Q
  | .sb c=>(c=true->wpS p lo a Λ ⟨xy x st.env,st.o⟩ Q)/\(c=false->wpS p lo b Λ ⟨xy x st.env,st.o⟩ Q)
  |_=>False
 | .block id b,Λ,st,Q=>wpS p lo b Λ st λout s=>Q (out.inBlock id) s
 | .loop b,Λ,st,Q=>match Λ (vr b) with
  | .ry n=>G0 (wpS p lo b Λ) Q n st
  | .look=>Look st
  | .inv _ shape next J m inner=>(zD st (shape (next st))/\J (next st))/\∀x,J x->wpS p lo b (inner x) (shape x) λout s=>match out with
   | .norm=>zD (trimS (shape x).o.length s) (shape (next (trimS (shape x).o.length s)))/\J (next (trimS (shape x).o.length s))/\m (next (trimS (shape x).o.length s))<m x
   |o=>Q o s
 | .exit id,_,st,Q=>Q (.exit id) st
 | .ret,_,st,Q=>Q .ret st
 | .goto l,_,st,Q=>Q (.goto l) st
 | .oM x a b,Λ,st,Q=>match jJ st.env x with
  | .bl true=>wpS p lo a Λ st Q
  | .bl false=>wpS p lo b Λ st Q
  | .sb c=>(c=true->wpS p lo a Λ ⟨CN st.env x (.bl true),st.o⟩ Q)/\(c=false->wpS p lo b Λ ⟨CN st.env x (.bl false),st.o⟩ Q)
  |_=>False
 | .turns none b,Λ,st,Q=>wpS p lo b Λ st λout s=>match out with
  | .goto _=>False
  |o=>Q o s
 | .turns (some l) b,Λ,st,Q=>match Λ (vr b) with
  | .inv _ shape next J m inner=>(zD st (shape (next st))/\J (next st))/\∀x,J x->wpS p lo b (inner x) (shape x) λout s=>match out with
   | .goto l'=>l'=l/\zD (trimS (shape x).o.length s) (shape (next (trimS (shape x).o.length s)))/\J (next (trimS (shape x).o.length s))/\m (next (trimS (shape x).o.length s))<m x
   |o=>Q o s
  |_=>Look st
 | .tj ..,_,_,_=>False
def nn:Nat->List SV->fH
 |_,[]=>[]
 |i,v::a=>(i,v)::nn (i+1) a
def nZ (st:cG) (a:List nf) (K:SV->Prop):Prop:=
 goK a λl=>match l with
  |[v]=>K v
  |l=>K (.bN l)
where
 goK:List nf->(List SV->Prop)->Prop
  |[],K=>K []
  |r::a,K=>OV r λv=>goK a λl=>K (v::l);OV (r:nf) (K:SV->Prop):Prop:=match r.cell with
  |none=>K (jI st.env r.slot)
  |some n=>mN st.o (jI st.env r.slot) n K
def sE (p:ja) (Λ:Nat->cC) (F:fE) (args:List SV) (Q:SV->Prop):Prop:=
 wpS p 0 F.body Λ ⟨nn 0 args,[]⟩ λa b=>match a with
  | .exit _=>False
  | .goto _=>False
  |_=>nZ b F.res λr=>rl b.o 6 r Q
def zF (p:ja) (Λ:Nat->cC) (F:fE) (args:List SV) (o:cu) (Q:SV->cu->Prop):Prop:=
 wpS p o.length F.body Λ ⟨nn 0 args,o⟩ λb a=>match b with
  | .exit _=>False
  | .goto _=>False
  |_=>nZ a F.res λr=>if r.cy o.length&&a.o.all (λx=>x.cy o.length)&&decide (o.length<=a.o.length) then Q r (a.o.take o.length) else False
def gE (env:fH):jE:=env.map λp=>(p.1,p.2.g)
def gO (o:cu):Store:=o.map bA.g
def cG.g (st:cG):St:=⟨gE st.env,gO st.o⟩
theorem oa:∀(env:fH) (s:Nat),dN (gE env) s=(jI env s).g
 |[],_=>by simp[gE,dN,jI,γA];|p::r,s=>by
  have:=oa r s;grind[gE,dN,jI]
theorem OW (env:fH) (d:Option Nat) (v:SV):gE (vl env d v)=oK (gE env) d v.g:=by
 cases d<;>simp[vl,oK,gE]
theorem OX (v:Value):(SV.oW v).g= .sc v:=by cases v<;>simp[SV.oW,γA]
theorem G3 (l:List Value):(l.map SV.oW).map γA=l.map .sc:=by simp[OX]
theorem zG (env:fH) (x:Operand):eT (gE env) x=(jJ env x).g:=by
 cases x with
 |tmp t=>simp[eT,jJ,oa];|const v=>
  cases v<;>simp[eT,jJ,AV.uM,SV.uM,γA];split<;>simp[γA,gn,OX];|global g=>simp[eT,jJ,γA];|func f=>simp[eT,jJ,γA,gL]
theorem OY (env:fH):eT (gE env)=λx=>(jJ env x).g:=funext λx=>zG env x
theorem CO (v:SV):v.g.cellsOf=gL v.cellsOf:=by
 cases v<;>simp[γA,AV.cellsOf,SV.cellsOf,gL]
theorem YN (v:SV):v.g.one=v.one:=by
 cases v<;>simp[γA,AV.one,SV.one,Value.oneCell']
theorem CP (l:List SV):eU (gL l)=xo l:=by
 induction l<;>grind[gL,eU,xo,YN]
theorem G4:∀(l:List SV),zx l=true->dx (gL l)=true
 |[],_=>by simp[gL,dx];|v::l,h=>by
  simp only[zx,θ] at h;simp only[gL,dx,G4 l h.2,δH];have a:=h.1;cases v<;>simp[SV.pure] at a<;>simp[γA,AV.pure,oV]
mutual
theorem zH (k:Nat):∀(v:SV),v.g.cy k=v.cy k
 | .agg c=>by simp only[γA,AV.cy,SV.cy];exact vt k c;| .bN c=>by simp only[γA,AV.cy,SV.cy];exact vt k c;| .fn _ a b=>by simp only[γA,AV.cy,SV.cy,vt k a,vt k b];| .ud| .sc _| .il .. | .si .. | .bl _| .sb _| .row .. | .ep .. | .ptr .. | .ap .. | .rp .. | .ow .. | .os .. | .oc .. | .mp _| .ia _ _| .ite _ _ _=>by simp[γA,AV.cy,SV.cy]
theorem vt (k:Nat):∀(l:List SV),eC k (gL l)=sA k l
 |[]=>by simp[gL,eC,sA];|v::l=>by simp only[gL,eC,sA,zH k v,vt k l]
end
theorem YP (k:Nat) {b sv:bw} (c:Bool) (es:List (b.T×sv.T)):eC k ((es.map λp=>(pM b c p.1,nj sv p.2)).map (·.2))=true:=
 GM λa h=>by
  simp only[δn,γf,Function.comp] at h;grind[nj,AV.cy]
theorem CQ (k:Nat) (x:bA):x.g.cy k=x.cy k:=by
 cases x with
 |dead=>rfl;|cells n e m d=>simp[bA.g,bW.cy,bA.cy,vt];|row s l e d=>simp[bA.g,bW.cy,bA.cy,OL];|oU s l e t=>
  have c:∀a b:List AV,eC k (a++b)=(eC k a&&eC k b):=λa b=>by
   induction a<;>grind[eC]
  grind[bA.g,bW.cy,bA.cy,OL,vt];|map i o f j h d=>simp only[bA.g,bW.cy,bA.cy,YP,Bool.or_true]
mutual
theorem OZ:∀(v:SV),v.li=true->v.g.li=true
 | .agg a,h=>by simp only[SV.li] at h;simp only[γA,AV.li];exact G5 a h;| .bN a,h=>by simp only[SV.li] at h;simp only[γA,AV.li];exact G5 a h;| .ud,_| .sc _,_| .il ..,_| .si ..,_| .bl _,_| .sb _,_=>by simp[γA,AV.li];| .row ..,h| .ep ..,h| .ptr ..,h| .ap ..,h| .rp ..,h| .ow ..,h| .os ..,h| .oc ..,h| .mp _,h| .fn ..,h| .ia _ _,h| .ite _ _ _,h=>by simp[SV.li] at h
theorem G5:∀(l:List SV),CH l=true->uU (gL l)=true
 |[],_=>by simp[gL,uU];|v::l,h=>by
  simp only[CH,θ] at h;simp only[gL,uU,OZ v h.1,G5 l h.2,δH]
end
theorem jV (l:List SV):(gL l).length=l.length:=by simp[gn]
theorem tY (l:List SV) (i:Nat):(gL l)[i]?=(l[i]?).map γA:=by simp[gn]
theorem vu (a b:List SV):gL (a++b)=gL a++gL b:=by simp[gn]
theorem CS {cs:List SV} {a:Nat} {n:Option Nat} {v:SV} (h:sB cs a n=some v):gw (gL cs) a n=some v.g:=by
 cases n with
 |none=>grind[sB,gw,tY];|some m=>
  simp only[sB] at h;split at h
  ·rename_i b;simp only[γ] at h;subst h;simp_all[gw,γA,gn]
  ·cases h
theorem zI:∀(vs cs:List SV) (a:Nat),gL (tP cs a vs)=gj (gL cs) a (gL vs)
 |[],cs,a=>by simp[tP,gL,gj];|v::vs,cs,a=>by
  simp only[tP,gL,gj];rw[zI vs];simp_all[gn]
theorem G6 (cs:List SV):gL (cs.map SV.qn)=(gL cs).map AV.qn:=by
 simp_all[gn,YK]
theorem G7 (pu:Bool) (cs:List SV):gL (if pu then cs.map SV.qn else cs)=eI pu (gL cs):=by
 grind[eI,G6]
theorem YQ {c:AV} (h:Plain c.qn):c.one=true/\c.pure=true:=by
 by_cases a:c.qn=c
 ·rw[a] at h;exact⟨h.one,h.pure⟩
 ·unfold AV.qn at a;split at a;·exact⟨rfl,rfl⟩
  simp_all
theorem G8 {pu:Bool} {cs:List AV} (h:∀c∈eI pu cs,Plain c):eU cs=true/\dx cs=true:=by
 have b:∀c∈cs,c.one=true/\c.pure=true:=by
  intro c a;unfold eI at h;split at h;·grind[YQ]
  ·exact⟨(h c a).one,(h c a).pure⟩
 grind[eU,CC]
theorem G9:∀(vs a b c:List AV) (d:Nat),d+vs.length<=b.length->gj (a++b++c) (a.length+d) vs=a++gj b d vs++c
 |[],a,b,c,d,_=>rfl
 |v::vs,a,b,c,d,h=>by
  simp only[γy] at h;simp only[gj];have e:(a++b++c).set (a.length+d) v=a++b.set d v++c:=by
   grind
  rw[e,ζF,G9 vs a (b.set d v) c (d+1) (by simp;omega)]
theorem O0 {s:bw} {l:List s.T} {i:Nat} (h:i<l.length):cM s l=cM s (l.take i)++dC s (bp l i s.dflt)++cM s (l.drop (i+1)):=by
 have a:l=l.take i++l[i]::l.drop (i+1):=by simp
 grind[dj,cM]
theorem take_len {a:Type} {l:List a} {i:Nat} (h:i<l.length):(l.take i).length=i:=by simp;omega
theorem YR {s:bw} {l:List s.T} {i a:Nat} {v:s.T} {vs:List AV} (h:i<l.length) (e:a+vs.length<=s.sz) (c:gj (dC s (bp l i s.dflt)) a vs=dC s v):
  gj (cM s l) (i*s.sz+a) vs=cM s (l.set i v):=by
 have d:(cM s (l.take i)).length=i*s.sz:=by rw[ff,take_len h]
 rw[O0 h,<-d,G9 _ _ _ _ _ (by grind[me]),c];have b:i<(l.set i v).length:=by simpa using h
 rw[O0 b,dj b];simp[List.take_set_of_le,List.drop_set_of_lt]
theorem O1 {s:bw} {l:List s.T} {i b:Nat} {n:Option Nat} {v:SV} (h:i<l.length) (e:sB (encS s (bp l i s.dflt)) b n=some v):gw (cM s l) (i*s.sz+b) n=some v.g:=by
 have a:=CS e;rw[gn,tO] at a;have c:=YL (s:=s) h;have d:(cM s l).length=i*s.sz+(s.sz+(cM s (l.drop (i+1))).length):=by
  have:=congrArg Φ c;grind[me]
 cases n with
 |none=>
  simp only[gw] at a ⊢;rw[<-List.getElem?_drop,c,List.getElem?_append_left]<;>grind;|some m=>
  simp only[gw,me] at a;split at a
  ·rename_i f;simp only[gw];rw[if_pos (by omega),<-δi,c,List.drop_append_of_le_length (by grind[me]),List.take_append_of_le_length (by grind[me])];exact a
  ·cases a
theorem jq {b:Type} {x:Option b} {K:b->Prop} (h:jb x K):∃a,x=some a/\K a:=by
 cases x with
 |none=>exact h.elim;|some a=>exact⟨a,rfl,h⟩
theorem Ha (o:cu) (i:Nat):(gO o)[i]?=(o[i]?).map bA.g:=by simp[gO]
theorem ob (o:cu):(gO o).length=o.length:=by simp[gO]
theorem qy (o:cu) (i:Nat) (x:bA):gO (o.set i x)=(gO o).set i x.g:=by simp[gO]
theorem fU {o:cu} {i:Nat} {x:bA} (h:o[i]?=some x):(gO o)[i]?=some x.g:=by grind[Ha]
theorem O2:∀{cs:List SV} {l:List Int},ints cs=some l->cs.length=l.length/\∀i,i<l.length->(cs[i]?).map γA=some (.sc (.int .i64 (bp l i 0))):=by
 intro cs l h;have a:=Cm h;have c:cs.length=l.length:=by simpa using congrArg Φ a
 refine⟨c,λi b=>?_⟩;have:=congrArg (λl=>l[i]?) a;simp only[List.getElem?_map] at this;rw[this,μ b,dj b];rfl
theorem O3:∀{cs:List SV} {l:List (List Off)},mN.rowsOff cs=some l->cs.length=l.length/\∀i,i<l.length->cs[i]?=some (.row .off (bp l i []))
 |[],l,h=>by grind[mN.rowsOff];|c::cs,l,h=>by
  cases c with
  |row s x=>
   cases s<;>simp only[mN.rowsOff,reduceCtorEq] at h;obtain⟨e,a,rfl⟩:=ε.1 h;obtain⟨b,d⟩:=O3 a;grind[bp];|_=>simp[mN.rowsOff] at h
theorem YT {cs:List SV} {sz i:Nat} {n:Option Nat} {K:SV->Prop} (h:mN.zy cs sz i n K) (d:i*sz<cs.length):∃v,gw (gL cs) (i*sz) n=some v.g/\K v:=by
 unfold mN.zy at h;split at h
 ·rw[Nat.mul_one] at d ⊢;split at h
  ·rename_i l a;obtain⟨b,c⟩:=O2 a;grind[gw,tY,γA]
  ·split at h
   ·rename_i l a;obtain⟨b,c⟩:=O3 a;grind[gw,tY]
   simp_all
 simp_all
theorem YU {cs:List AV} {base a m:Nat} {v:AV} (h:gw ((cs.drop base).take m) a none=some v):gw cs (base+a) none=some v:=by
 grind[gw]
theorem O4 {o:cu} {a:SV} {n:Option Nat} {K:SV->Prop} (h:mN o a n K):∃cs b v,behind (gO o) a.g=some (cs,b)/\gw cs b n=some v.g/\K v:=by
 cases a with
 |ptr x b t=>
  simp only[mN] at h;split at h
  ·rename_i cs e f z y;split at h
   ·rename_i D;obtain⟨v,k,j⟩:=jq h;exact⟨gL cs,b,v,by simp_all[behind,γA,fU,bA.g,jV],CS k,j⟩
   simp_all
  simp_all;|ap x c f d t i=>
  simp only[mN] at h;split at h
  ·rename_i cs e A z y;split at h
   ·rename_i D;obtain⟨C,p⟩:=h;have w:(i+1)*f<=d*f:=γI _ C;rw[Nat.succ_mul] at w;have F:f*d=d*f:=Nat.mul_comm ..;by_cases E:f=0;·grind[mN.zy]
    ·have q:i*f<((cs.drop c).take (f*d)).length:=by grind
     obtain⟨v,k,j⟩:=YT p q;have B:n=none:=by
      grind[mN.zy]
     subst B;refine⟨gL cs,c+i*f,v,by simp_all[behind,γA,fU,bA.g,jV],?_,j⟩;have:gL ((cs.drop c).take (f*d))=((gL cs).drop c).take (f*d):=by simp[gn]
     grind[YU]
   simp_all
  simp_all;|ep s l i b=>
  simp only[mN] at h;obtain⟨u,p⟩:=h;obtain⟨v,k,j⟩:=jq p;exact⟨cM s l,i*s.sz+b,v,by simp[behind,γA],O1 u k,j⟩;|rp x i b m f=>
  simp only[mN] at h;split at h
  ·rename_i s l e z y;split at h
   ·rename_i r;subst r;obtain⟨w,u,p⟩:=h;obtain⟨v,k,j⟩:=jq p;exact⟨cM s l,i*s.sz+b,v,by simp_all[behind,γA,fU,bA.g,ff],O1 u k,j⟩
   simp_all
  simp_all;|_=>simp only[mN] at h
theorem O5 (o:Store) (d:Nat) {v:Value} (h:v≠ .slice none 0 0):freeze o d (.sc v)=some (.sc v):=by
 grind[freeze]
theorem O6 (o:Store) (d:Nat) {a:AV} (h:Plain a):freeze o d a=some a:=by
 rcases h with⟨v,rfl,_,h⟩|⟨n,b,rfl,_⟩<;>grind[O5,freeze]
theorem He {f:AV->Option AV}:∀{l:List AV},(∀a∈l,f a=some a)->l.mapM f=some l
 |[],_=>by simp;|a::l,h=>by simp[List.mapM_cons,h a (by simp),He (l:=l) λb c=>h b (by simp[c])]
theorem xA {o:Store} {d:Nat} {f:SV->(SV->Prop)->Prop} (c:∀v K,f v K->∃b:SV,freeze o d v.g=some b.g/\K b):
  ∀{l:List SV} {K:List SV->Prop},vn f l K->∃a,(gL l).mapM (freeze o d)=some (gL a)/\K a
 |[],K,h=>⟨[],by simp[gL],h⟩
 |v::l,K,h=>by
  obtain⟨b,j,i⟩:=c v _ h;obtain⟨a,k,e⟩:=xA c i;exact⟨b::a,by simp_all[gL],e⟩
theorem zJ {s:bw} {l:List s.T} {b a:Nat}:((cM s l).drop (b*s.sz)).take (a*s.sz)=cM s ((l.drop b).take a):=by
 rw[GN,OO]
theorem Hf {o:cu}:∀{d:Nat} {v:SV} {K:SV->Prop},rl o d v K->∃y,freeze (gO o) d v.g=some y.g/\K y:=by
 intro d;induction d with
 |zero=>
  intro v K h;cases v<;>simp only[rl] at h<;>grind[rl,γA,freeze,cM,O5];|succ d p=>
  intro v K h;cases v<;>simp only[rl] at h;case sc v=>
   grind[γA,freeze,cM]
  case agg B=>
   obtain⟨A,z,r⟩:=xA (λv K m=>p m) h;grind[γA,freeze]
  case bN B=>
   obtain⟨A,z,r⟩:=xA (λv K m=>p m) h;grind[γA,freeze]
  case fn f a b=>
   obtain⟨I,z,r⟩:=xA (λv K m=>p m) h;obtain⟨J,L,H⟩:=xA (λv K m=>p m) r;grind[γA,freeze]
  case ow E n F=>
   split at h
   ·rename_i s l e G w;split at h
    ·rename_i k;obtain⟨rfl,t⟩:=h;subst k;refine⟨_,?_,t⟩;have i:(cM s l).mapM (freeze (gO o) d)=some (cM s l):=He λa C=>by
      grind[O6,nk]
     have D:τ (l.length*s.sz) (cM s l)=cM s l:=γc (by grind[ff]);simp_all[γA,freeze,fU,bA.g,ff,oV]
    simp_all
   simp_all
  case os E j c n F=>
   split at h
   ·rename_i s l e G w;split at h
    ·rename_i k;obtain⟨rfl,u,t⟩:=h;subst k;refine⟨_,?_,t⟩;have i:(cM s ((l.drop j).take c)).mapM (freeze (gO o) d)=some (cM s ((l.drop j).take c)):=He λa C=>by
      grind[O6,nk]
     have x:(j+c)*s.sz<=l.length*s.sz:=γI _ u;rw[εu] at x;have q:((l.drop j).take c).length=c:=by simp;omega
     simp only[γA,freeze,fU w,bA.g,ff,x,and_self,if_true,zJ,i,oV,q];simp_all
    simp_all
   simp_all
  all_goals grind[γA,freeze]
theorem CU {k:IntKind} {n:Int} (h:bU k n):fe k n=n:=by
 cases k<;>simp only[bU,fe] at h ⊢<;>simp_all
theorem np {c:Prop} [Decidable c] {A:Prop} (h:if c then A else False):c/\A:=by
 simp_all
theorem agB {b:Int} {k:Nat} (h:b<=k):min b.toNat k=b.toNat:=by omega
theorem YV (a b:Int):(a==b)=decide (a=b):=rfl
theorem YW (a b:Int):(a !=b)=decide (a≠b):=by
 grind
theorem zK {k:IntKind} {n:Int} {K:Int->Prop} (h:vm k n K):K (fe k n):=by
 have a:k= .u32->fe k n=n % 4294967296:=by
  grind[tC,IntKind.wrap,IntKind.bits,IntKind.signed]
 have b:k= .u64->fe k n=n % 18446744073709551616:=by
  grind[tC,IntKind.wrap,IntKind.bits,IntKind.signed]
 unfold vm at h;grind[CU]
theorem go_sound {e:BinOp} {k i:IntKind} {a b:Int} {K:SV->Prop} (h:ie.go e K k a i b):∃v f:_,gZ e (.int k a) (.int i b)=some v/\f.g= .sc v/\K f:=by
 cases e<;>simp only[ie.go] at h;case shl=>
  obtain⟨j,m,l⟩:=h;refine⟨.int k (fe k (a*2^b.toNat)),.si k (fe k (a*2^b.toNat)),?_,rfl,zK l⟩;simp_all[gZ,F2]
 case shr=>
  obtain⟨j,m,n⟩:=h;refine⟨.int k (a / 2^b.toNat),_,?_,rfl,n⟩;have:a.fdiv (2^b.toNat)=a / 2^b.toNat:=Int.fdiv_eq_ediv_of_nonneg _ (by grind);simp_all[gZ,F2]
 case add=>
  obtain⟨d,c⟩:=np h;subst d;exact⟨.int k (fe k (a+b)),.si k (fe k (a+b)),by simp only[gZ,if_true,lA],rfl,zK c⟩
 case sub=>
  obtain⟨d,c⟩:=np h;subst d;exact⟨.int k (fe k (a - b)),.si k (fe k (a - b)),by simp only[gZ,if_true,lA],rfl,zK c⟩
 case mul=>
  obtain⟨d,c⟩:=np h;subst d;exact⟨.int k (fe k (a*b)),.si k (fe k (a*b)),by simp only[gZ,if_true,lA],rfl,zK c⟩
 case quo=>
  obtain⟨d,c⟩:=np h;subst d;exact⟨.int k (a.tdiv b),_,by simp_all[gZ,lA,CU],rfl,c.2.2⟩
 case rem=>
  obtain⟨d,c⟩:=np h;subst d;exact⟨.int k (a.tmod b),_,by simp_all[gZ,lA],rfl,c.2⟩
 case and=>
  obtain⟨d,c⟩:=np h;subst d;exact⟨.int k (ie.vp k a b),_,by simp only[gZ,if_true,lA,ie.vp],rfl,c⟩
 case or=>
  obtain⟨d,c⟩:=np h;subst d;exact⟨.int k (ie.nV k a b),_,by simp only[gZ,if_true,lA,ie.nV],rfl,c⟩
 case xor=>
  obtain⟨d,c⟩:=np h;subst d;exact⟨.int k (ie.GQ k a b),_,by simp only[gZ,if_true,lA,ie.GQ],rfl,c⟩
 case andNot=>
  obtain⟨d,c⟩:=np h;subst d;exact⟨.int k (ie.CJ k a b),_,by simp only[gZ,if_true,lA,ie.CJ],rfl,c⟩
 case eql=>
  obtain⟨d,c⟩:=np h;subst d;exact⟨.bool (decide (a=b)),_,by simp_all[gZ,lA,YV],rfl,c⟩
 case neq=>
  obtain⟨d,c⟩:=np h;subst d;exact⟨.bool (decide (a≠b)),_,by simp_all[gZ,lA,YW],rfl,c⟩
 case lss=>
  obtain⟨d,c⟩:=np h;subst d;exact⟨.bool (decide (a<b)),_,by simp only[gZ,if_true,lA],rfl,c⟩
 case leq=>
  obtain⟨d,c⟩:=np h;subst d;exact⟨.bool (decide (a<=b)),_,by simp only[gZ,if_true,lA],rfl,c⟩
 case gtr=>
  obtain⟨d,c⟩:=np h;subst d;exact⟨.bool (decide (b<a)),_,by simp only[gZ,if_true,lA],rfl,c⟩
 case geq=>
  obtain⟨d,c⟩:=np h;subst d;exact⟨.bool (decide (b<=a)),_,by simp only[gZ,if_true,lA],rfl,c⟩
theorem YX {j:BinOp} {x y:SV} {K:SV->Prop} (h:ie j x y K):∃a b v c,x.g= .sc a/\y.g= .sc b/\gZ j a b=some v/\c.g= .sc v/\K c:=by
 unfold ie at h;split at h
 ·split at h;·rename_i i;exact⟨_,_,_,_,rfl,rfl,i,rfl,h⟩
  ·rename_i i;exact⟨_,_,_,_,rfl,rfl,i,rfl,h⟩
  simp_all
 ·obtain⟨v,c,d,e,f⟩:=go_sound h;exact⟨_,_,v,c,rfl,rfl,d,e,f⟩
 ·obtain⟨v,c,d,e,f⟩:=go_sound h;exact⟨_,_,v,c,rfl,rfl,d,e,f⟩
 ·obtain⟨v,c,d,e,f⟩:=go_sound h;exact⟨_,_,v,c,rfl,rfl,d,e,f⟩
 ·split at h;·exact⟨_,_,_,_,rfl,rfl,by grind[gZ],rfl,h⟩
  ·exact⟨_,_,_,_,rfl,rfl,by grind[gZ],rfl,h⟩
  simp_all
 simp_all
theorem zL {k:IntKind} {a b:Int}:seq1 (.int k a) (.int k b)=some (decide (a=b)):=by
 simp only[seq1,if_true,γ];rfl
theorem YY {x y:SV} {r:Bool} (h:GR x y=some r):∃a b,x.g= .sc a/\y.g= .sc b/\seq1 a b=some r:=by
 cases x<;>simp only[GR,reduceCtorEq] at h;all_goals
  obtain⟨b,c,rfl⟩:=ε.1 h;first
   |exact⟨_,_,rfl,iP c,zL⟩;|exact⟨_,_,rfl,xn c,by simp[seq1]⟩
theorem O7:∀{x y:List SV} {r:Bool},tV x y=some r->∃a b,gL x=a.map .sc/\gL y=b.map .sc/\gA a b=some r
 |[],[],r,h=>by simp[tV] at h;subst h;exact⟨[],[],rfl,rfl,rfl⟩;|[],_::_,r,h=>by grind[tV];|_::_,[],r,h=>by grind[tV];|x::l,y::n,r,h=>by
  simp only[tV] at h;split at h
  ·rename_i a b e f;simp only[γ] at h;subst h;obtain⟨u,v,g,j,k⟩:=YY e;obtain⟨d,c,i,o,m⟩:=O7 f;exact⟨u::d,v::c,by grind[gL],by grind[gL],by grind[gA]⟩
  ·cases h
theorem Hh:∀(l:List Value),sg (l.map .sc)=some l
 |[]=>rfl
 |v::l=>by simp[sg,Hh l]
theorem tZ:∀{a b:List Value},a.map δe=b.map δe->a=b
 |[],[],_=>rfl
 |[],_::_,h=>by simp at h;|_::_,[],h=>by simp at h;|x::a,y::b,h=>by
  simp only[φ,Ξ,γ7] at h;rw[h.1,tZ h.2]
theorem vx:∀{e:List Nat} {x:List SV} {a:List Value},lF e x=true->gL x=a.map .sc->eJ e a=true
 |[],[],a,_,h=>by
  cases a with
  |nil=>rfl;|cons a i=>simp[gL] at h
 |[],_::_,a,h,_=>by grind[lF];|_::_,[],a,h,_=>by grind[lF];|k::e,x::j,a,h,f=>by
  cases a with
  |nil=>grind[gL];|cons a i=>
   simp only[gL,φ,Ξ] at f;obtain⟨c,d⟩:=f;match k,x,h with
   |0,.si k n,h=>simp only[lF] at h;simp only[γA,γ7] at c;subst c;simpa[eJ] using vx h d;|0,.il k n,h=>simp only[lF] at h;simp only[γA,γ7] at c;subst c;simpa[eJ] using vx h d;|1,.sb b,h=>simp only[lF] at h;simp only[γA,γ7] at c;subst c;simpa[eJ] using vx h d;|1,.bl b,h=>simp only[lF] at h;simp only[γA,γ7] at c;subst c;simpa[eJ] using vx h d
theorem YZ {c:List Nat} {a b:List SV} {r:Bool} (d:(lF c a&&lF c b)=true) (h:tV a b=some r):wJ c (gL a) (gL b)=some r:=by
 obtain⟨u,v,f,e,g⟩:=O7 h;simp only[θ] at d;rw[f,e];simp only[wJ,Hh,vx d.1 f,vx d.2 e,Bool.and_self,if_true,g]
theorem Y0 {s s':bw} {l:List s.T} {a:List s'.T} (h:iF s s' l=some a):s=s'/\HEq l a:=by
 unfold iF at h;grind
theorem zM {s s':bw} {l:List s.T} {l':List s'.T} (h:iF s s' l=some l'):s'=s/\cM s' l'=cM s l/\l'.length=l.length:=by
 grind[Y0]
theorem Hj:∀{a:List (Nat×Nat×SV)} {cs b:List SV},sC a cs=some b->lC (a.map λq=>(q.1,q.2.1,q.2.2.g)) (gL cs)=some (gL b)
 |[],cs,b,h=>by simp[sC] at h;subst h;rfl;|(d,n,v)::r,cs,b,h=>by
  simp only[sC] at h;split at h
  ·rename_i c;obtain⟨i,f,e⟩:=c;have:=Hj h;simp_all[lC,CO,jV,CP,zI]
  ·cases h
theorem CV {s:bw}:∀{n:Nat} {cs:List SV} {l:List s.T},tQ s n cs=some l->gL cs=cM s l/\l.length=n
 |0,[],l,h=>by grind[tQ,gL,cM];|0,_::_,l,h=>by simp[tQ] at h;|n+1,cs,l,h=>by
  simp only[tQ] at h;split at h
  ·rename_i x f a b;simp only[γ] at h;subst h;obtain⟨d,c⟩:=CV b;have e:=nU a;refine⟨?_,by simp[c]⟩;rw[gn] at d ⊢;conv=>lhs;rw[<-γK s.sz cs]
   grind[cM]
  ·cases h
theorem Y1 {o:cu} {s:bw} {x:SV} {K:List s.T->Prop} (h:vo o s x K):∃l,nc (gO o) s.sz x.g=some (l.length,cM s l)/\K l:=by
 cases x with
 |row q l=>
  simp only[vo] at h;obtain⟨f,c,w⟩:=jq h;obtain⟨rfl,p,m⟩:=zM c;exact⟨f,by simp_all[γA,nc,ff],w⟩;|ow y n u=>
  simp only[vo] at h;split at h
  ·rename_i q l e A B;split at h
   ·rename_i b;subst b;obtain⟨rfl,k⟩:=h;obtain⟨f,c,i⟩:=jq k;obtain⟨rfl,p,m⟩:=zM c;refine⟨f,?_,i⟩;have t:τ (l.length*s.sz) (cM s l)=cM s l:=γc (by grind[ff]);simp_all[γA,nc,fU,bA.g,ff]
   simp_all
  simp_all;|os y d a n u=>
  simp only[vo] at h;split at h
  ·rename_i q l e A B;split at h
   ·rename_i b;subst b;obtain⟨rfl,j,k⟩:=h;obtain⟨f,c,i⟩:=jq k;obtain⟨rfl,p,m⟩:=zM c;refine⟨f,?_,i⟩;have r:(d+a)*s.sz<=l.length*s.sz:=γI _ j;rw[εu] at r;have z:((l.drop d).take a).length=a:=by simp;omega
    simp_all[γA,nc,fU,bA.g,ff,zJ]
   simp_all
  simp_all;|sc v=>
  grind[vo,γA,nc,cM];|_=>simp only[vo] at h
theorem Hk {v:SV} {n:Int} (h:zz v=some n):iw v.g=some n:=by
 cases v<;>simp[zz] at h<;>simp[γA,iw,h]
theorem pN {d:Nat} {x:Option SV} {K:Nat->Prop} (h:nX d x K):∃n,ix d (x.map γA)=some n/\K n:=by
 unfold nX at h;grind[γA,ix]
theorem vy {bF:Nat} {x:bA} {o:cu} {K:cu->Prop} (h:mkK bF x o K):∃o',lg bF x.g (gO o)=some (gO o')/\K o':=by
 grind[mkK,lg,fU,bA.g,qy]
theorem Y2 {s:bw} (e:s.keyed=true) (x y:s.T):gA (dI s x) (dI s y)=some (decide (x=y)):=by
 cases s<;>simp only[bw.keyed,reduceCtorEq] at e;·grind[dI,gA,zL]
 ·obtain⟨b,⟨m,o,a,l,c,i⟩⟩:=x;obtain⟨g,⟨k,h,j,n,d,f⟩⟩:=y;simp_all[dI,iv,gA,zL]
 ·obtain⟨b,⟨m,o,a,l,c,i⟩,⟨C,t,B,A,D,w⟩⟩:=x;obtain⟨g,⟨k,h,j,n,d,f⟩,⟨p,z,r,u,v,q⟩⟩:=y;simp only[dI,iv,gA,zL,γ,δH];grind
theorem Y3 {s:bw} {a:Bool} (d:s.keyed=true) (b:a=false->s.sz=1) (x y:s.T):keq (pM s a x) (pM s a y)=some (decide (x=y)):=by
 cases a with
 |true=>grind[pM,keq,Y2];|false=>
  have c:=b rfl;cases s<;>simp only[bw.keyed,reduceCtorEq] at d<;>simp only[bw.sz,reduceCtorEq,Nat.reduceEqDiff] at c;simp_all[pM,dI,keq,zL]
theorem Hl {a sv:bw} {c:Bool} (f:a.keyed=true) (e:c=false->a.sz=1) (x:a.T):∀(es:List (a.T×sv.T)) (i:Nat),
  ∃r,nP (pM a c x) (es.map λp=>(pM a c p.1,nj sv p.2)) i=some r/\(match nW a sv x es with|some v=>∃j,r=some (i+j,nj sv v)/\(∃p,es[j]?=some p/\p.1=x)/\(∀g<j,∀p,es[g]?=some p->p.1≠x)|none=>r=none/\∀p∈es,p.1≠x)
 |[],i=>⟨none,by simp[nP],by simp[nW]⟩
 |p::es,i=>by
  simp only[φ,nP,Y3 f e];by_cases b:p.1=x
  ·refine⟨some (i,nj sv p.2),by simp[b],?_⟩;simp only[nW,List.find?_cons,b,decide_true,γm];exact⟨0,by simp,⟨p,by simp,b⟩,by simp⟩
  ·obtain⟨r,m,k⟩:=Hl f e x es (i+1);have d:¬x=p.1:=λh=>b h.symm;refine⟨r,by simp[d,m],?_⟩;have n:nW a sv x (p::es)=nW a sv x es:=by grind[nW]
   rw[n];split at k
   ·obtain⟨j,w,⟨q,t,l⟩,o⟩:=k;refine⟨j+1,by grind,⟨q,by simp_all,l⟩,λg u s y=>?_⟩;grind
   grind
theorem Hm {a sv:bw} {x:a.T} {v:sv.T}:∀{es:List (a.T×sv.T)},(∀p∈es,p.1≠x)->sD a sv x v es=es++[(x,v)]
 |[],_=>rfl
 |p::es,h=>by
  simp only[sD,if_neg (h p (by simp)),γC];rw[Hm λq b=>h q (by simp[b])]
theorem O8 {a sv:bw} {x:a.T} {v:sv.T}:∀{es:List (a.T×sv.T)} {j:Nat},(∃p,es[j]?=some p/\p.1=x)->(∀b<j,∀p,es[b]?=some p->p.1≠x)->sD a sv x v es=es.modify j λ_=>(x,v)
 |[],j,⟨p,h,_⟩,_=>by simp at h;|p::es,0,⟨q,h,d⟩,_=>by
  grind[sD];|p::es,j+1,⟨q,h,d⟩,c=>by
  have g:=c 0 (by omega) p (by simp);simp only[sD,if_neg g,ζs];rw[O8 (j:=j) ⟨q,by simpa using h,d⟩ λb i e f=>c (b+1) (by omega) e (by simp_all)]
theorem O9 {f:List Nat} {d:Bool} {s:bw} {v:SV} {x:s.T} (e:lF f v.cellsOf=true) (o:vq d v=true) (p:s.flat=true) (n:jU s v.cellsOf=some x):ql f d v.g=some (pM s d x):=by
 have k:=nU n;have c:gL v.cellsOf=(dI s x).map .sc:=by grind[gn,Cj]
 have i:=vx e c;by_cases l:∃h,v= .agg h
 ·obtain⟨h,rfl⟩:=l;simp_all[SV.cellsOf,vq,γA,ql,Hh,pM]
 ·have b:d=false:=by
   simp_all[vq]
  subst b;have j:v.cellsOf=[v]:=by
   cases v<;>first|rfl|simp_all
  rw[j] at c;simp only[gL] at c;cases m:dI s x with
  |nil=>simp_all;|cons a r=>
   rw[m] at c i;simp only[φ,Ξ] at c;simp_all[ql,pM]
theorem Pe {s:bw} (h:s.xm=true) (x:s.T):((encS s x).headD .ud).g=nj s x:=by
 cases s<;>simp[bw.xm] at h<;>simp[encS,nj,dI,γA]
theorem Pg {s:bw} (h:s.xm=true) (x:s.T):dC s x=[nj s x]:=by
 cases s<;>simp[bw.xm] at h<;>simp[dC,nj,dI]
theorem Ph {s:bw} (h:s.keyed=true):s.flat=true:=by
 cases s<;>simp[bw.keyed] at h<;>rfl
structure pO (call:dm) (C:OP):Prop where
 pure:∀f args K,C.pure f args K->∃r:SV,call f (gL args) [] false=some (r.g,[])/\K r
 own:∀f args o K,C.own f args o K->∃(r:SV) (o':cu),iO call f (gL args) (gO o)=some (r.g,gO o')/\K r o'
section
variable {call:dm} {p:ja} {o:cu} {bF:Nat} {K:SV->cu->Prop}
theorem Hn (j:pO call p.C) {f:FuncId} {args:List SV} {own:Bool} (h:eX.zA p f args o own K):
  ∃(v:SV) (o':cu),gU call f (gL args) (gO o) own=some (v.g,gO o')/\K v o':=by
 unfold eX.zA at h;split at h
 ·rename_i c;obtain⟨r,o',k,e⟩:=j.own _ _ _ _ h;exact⟨r,o',by simp_all[gU],e⟩
 ·rename_i c;have c:own=false:=by simp_all
  subst c;obtain⟨b,k,e⟩:=xA (o:=gO o) (d:=6) (λv K m=>Hf m) h;obtain⟨r,l,i⟩:=j.pure _ _ _ e;split at i
  ·rename_i a;refine⟨r,o,?_,i⟩;simp only[gU,Γ,if_false,k,l];rw[if_pos];simp only[δj] at a ⊢;rcases a with a|a
   ·left;rw[gn,List.flatMap_map];exact a
   grind[OZ]
  simp_all
theorem CW (ρ:Operand->SV) (l:List Operand):gL (l.map ρ)=l.map λx=>(ρ x).g:=by simp[gn]
theorem Y4 {a:List (Nat×Nat×Operand)} {ρ:Operand->SV} {cs b:List SV} (h:sC (a.map λq=>(q.1,q.2.1,ρ q.2.2)) cs=some b):
  lC (a.map λq=>(q.1,q.2.1,(ρ q.2.2).g)) (gL cs)=some (gL b):=by
 have:=Hj h;grind[δm]
theorem Ho {a:List (Nat×Operand)} {sz:Nat} {ρ:Operand->SV} {cs b:List SV} (h:sC (a.map λq=>(q.1,sz,ρ q.2)) cs=some b):
  lC (a.map λq=>(q.1,sz,(ρ q.2).g)) (gL cs)=some (gL b):=by
 have:=Hj h;grind[δm]
theorem Hq (z:List Value):gL (z.map SV.oW)=z.map .sc:=by rw[gn,G3]
theorem Hr (a:Nat) (z:List Value):gL ((δ a (z.map SV.oW)).flatten)=(δ a (z.map δe)).flatten:=by
 rw[gn,List.map_flatten,List.map_replicate,G3]
theorem Y5 (s:bw) (x:s.T) (n:Nat):(δ n (dC s x)).flatten=cM s (δ n x):=by
 induction n<;>grind[cM]
theorem zO {ρ:Operand->SV} (l:Option Operand):(l.map ρ).map γA=l.map λx=>(ρ x).g:=by cases l<;>rfl
theorem Y6:∀{l:List Int} {i:Nat} {v:Int},i<l.length->gj (l.map λn=>δe (iv n)) 0 ((l.set i v).map λn=>δe (iv n))=(l.map λn=>δe (iv n)).set i (.sc (iv v)):=by
 intro l i v e;have d:∀(b a c:List AV),b.length=c.length->gj (a++c) a.length b=a++b:=by
  intro b;induction b with
  |nil=>grind[gj];|cons w b f=>
   intro a c h;cases c with
   |nil=>simp at h;|cons y c=>
    simp only[γy,ζd] at h;simp only[gj];have:(a++y::c).set a.length w=(a++[w])++c:=by
     simp_all
    grind
 have:=d ((l.set i v).map λn=>δe (iv n)) [] (l.map λn=>δe (iv n)) (by simp);simp_all
theorem Pj {b c:Type} (f:b->c) (x:b):∀(l:List b) (j:Nat),(l.modify j λ_=>x).map f=(l.map f).modify j λ_=>f x
 |[],j=>by simp;|a::l,0=>by simp_all;|a::l,j+1=>by simp only[ζs,φ,Pj f x l j]
theorem Y7 (v:Value):(δe v).cellsOf=[.sc v]:=rfl
theorem Pm:∀{l:List Int} {i j:Nat} {v:Int},tW l (i+j) v j=l.set i v
 |[],_,_,_=>rfl
 |a::l,0,j,v=>by
  have h:∀(l:List Int) (c:Nat),j<c->tW l j v c=l:=by
   intro l;induction l with
   |nil=>intro _ _;rfl;|cons b l d=>intro c e;simp only[tW,if_neg (show ¬j=c by omega),d (c+1) (by omega)]
  simp_all[tW];|a::l,i+1,j,v=>by
  simp only[tW,if_neg (show ¬i+1+j=j by omega),List.set_cons_succ];rw[show i+1+j=i+(j+1) from by omega,Pm]
theorem Y8 {ρ:Operand->SV} {n:Nat} {a x:Operand} (h:eX p (.store n a x) ρ o bF K):
  ∃(v:SV) (o':cu),bT call (.store n a x) (λx=>(ρ x).g) (gO o) bF=some (v.g,gO o')/\K v o':=by
 simp only[eX] at h;split at h
 ·rename_i W b L B;split at h
  ·rename_i f e Y E z;split at h
   ·rename_i D;obtain⟨V,C,X,P,R⟩:=D;refine⟨.ud,_,?_,h⟩;simp only[bT,B,γA,fU z,bA.g,CO,jV,CP];rw[if_pos ⟨V,C,X,P,R.imp (λq=>q) λhp=>G4 _ hp⟩,qy,bA.g,zI,G7]
   simp_all
  simp_all
 ·rename_i W i b m Y B;split at h
  ·rename_i s l e E z;split at h
   ·rename_i D;obtain⟨rfl,C,X⟩:=D;obtain⟨rfl,N,P⟩:=h;obtain⟨v,hv,R⟩:=jq P;refine⟨.ud,_,?_,R⟩;have T:=nU hv;rw[<-gn,zI,G7] at T;have O:gL (encS s (bp l i s.dflt))=dC s (bp l i s.dflt):=by rw[gn,tO]
    rw[O] at T;have y:(i+1)*s.sz<=l.length*s.sz:=γI _ N;rw[Nat.succ_mul] at y;have u:∀c∈eI E (gL (ρ x).cellsOf),Plain c:=by
     intro c hc;obtain⟨j,hj⟩:=List.mem_iff_getElem?.1 hc;have U:=(ι.1 hj).1;rw[tu,jV,C] at U;have a1:(gj (dC s (bp l i s.dflt)) b (eI E (gL (ρ x).cellsOf)))[b+j]?=some c:=by
      have a0:∀(r f:List AV) (b j:Nat) (c:AV),r[j]?=some c->b+r.length<=f.length->(gj f b r)[b+j]?=some c:=by
       intro r;induction r with
       |nil=>simp_all;|cons w r ih=>
        intro f b j c h M;simp only[γy] at M;simp only[gj];cases j with
        |zero=>
         simp only[List.getElem?_cons_zero,γ] at h;subst h;have F:∀(r f:List AV) (Z k:Nat),k<Z->(gj f Z r)[k]?=f[k]?:=by
          intro r;induction r<;>grind[gj]
         grind;|succ j=>
         have:=ih (f.set b w) (b+1) j c (by simpa using h) (by simp;omega);grind
      grind[tu,jV,me]
     grind[zw]
    obtain⟨G,Q⟩:=G8 u;simp only[bT,B,γA,fU z,bA.g,CO,ff,jV];rw[if_pos ⟨trivial,C,G,by omega,.inr Q⟩,qy,bA.g,YR N (by grind[tu,jV]) T]
   simp_all
  simp_all
 ·rename_i W d Y t L i B;split at h
  ·rename_i f e a3 E z;split at h
   ·rename_i v H;split at h
    ·rename_i l M;split at h
     ·rename_i D;obtain⟨V,C⟩:=D;rw[show tW l i v 0=l.set i v from Pm (j:=0)] at h;obtain⟨N,hk⟩:=h;refine⟨.ud,_,?_,hk⟩;have S:(ρ x).cellsOf=[ρ x]:=by
       cases hr:ρ x<;>rw[hr] at H<;>simp[SV.int] at H<;>rfl
      have I:(ρ x).g= .sc (iv v):=iP H;have A:=Cm M;have a2:l.length=t:=by
       have:=congrArg Φ A;grind
      have J:gL f=gL (f.take d)++(l.map λn=>δe (iv n))++gL (f.drop (d+t)):=by
       rw[<-A,gn,gn,gn,<-γg,<-γg];congr 1;rw[<-δi,List.append_assoc,γK,γK]
      have a4:(gL (f.take d)).length=d:=by grind[jV]
      have hq:eI E [δe (iv v)]=[δe (iv v)]:=by unfold eI;split<;>rfl
      simp only[bT,B,γA,fU z,bA.g,I,Y7,List.length_singleton,jV,hq];rw[if_pos ⟨V,trivial,by simp[eU,AV.one,iv,Value.oneCell'],by omega,.inr (by simp[dx,AV.pure])⟩,qy,bA.g,zI];congr 4;have e1:gL ((l.set i v).map (SV.si .i64))=(l.set i v).map λn=>δe (iv n):=by
       rw[gn,δn];rfl
      rw[e1,J];have hm:=G9 ((l.set i v).map λn=>δe (iv n)) (gL (f.take d)) (l.map λn=>δe (iv n)) (gL (f.drop (d+t))) 0 (by simp);grind[Y6,gj]
     simp_all
    simp_all
   simp_all
  simp_all
 simp_all
theorem Y9 {ρ:Operand->SV} {e:TypeId} {sz b:Nat} {s x:Operand} {pu:Bool} (h:eX p (.append e sz b s x pu) ρ o bF K):
  ∃(v:SV) (o':cu),bT call (.append e sz b s x pu) (λx=>(ρ x).g) (gO o) bF=some (v.g,gO o')/\K v o':=by
 simp only[eX] at h;split at h
 ·rename_i t tl U a;split at h
  ·rename_i S n G j m R k M;split at h
   ·rename_i O l Z I H;split at h
    ·rename_i F;obtain⟨rfl,q,rfl,rfl,rfl,rfl,i,w⟩:=F;obtain⟨rfl,C,y,B⟩:=h;rw[M] at a;unfold OQ at a;split at a
     ·rename_i j' W Y;injection Y with e1 N e3;subst e1 N e3;split at a
      ·rename_i s2 N L D;split at a
       ·rename_i A;injection a with a;subst a;refine⟨_,_,?_,B⟩;have E:nc (gO o) t.sz (.os j 0 1 (1*t.sz))=some (1,gL L):=by
         simp only[nc,fU D,bA.g,cM,ζm,δO,jV];rw[if_pos ⟨by omega,A,by omega⟩,List.drop_zero,γc (by grind[jV])]
        have J:eU (gL L)=true:=by grind[CP]
        simp only[bT,k,M,γA,qj];simp only[E,J,ζG,if_false,fU H,bA.g,ff,q];rw[if_pos ⟨trivial,trivial,trivial,trivial,C,y,.inl trivial⟩,qy,bA.g];grind
       ·cases a
      ·cases a
     ·cases a
    simp_all
   simp_all
  simp_all
 ·rename_i t U _;split at h
  ·rename_i z;subst z;obtain⟨f,V,d⟩:=Y1 h;have r:eU (cM t f)=true:=CG _ _;have c:dx (cM t f)=true:=oV _ _;simp only[bT,qj,V,r,ζG,if_false];split at d
   ·rename_i k;rw[k];simp only[γA];by_cases u:f.length=0;·exact⟨_,_,by simp only[u,if_true];rfl,d.1 u⟩
    ·obtain⟨q,i,w⟩:=d.2 u;obtain⟨o',P,Q⟩:=vy w;refine⟨_,o',?_,Q⟩;simp only[bA.g] at P;rw[if_neg u,if_pos ⟨q,i,.inr c⟩,P];rfl
   ·rename_i S n G k;split at d
    ·rename_i O l Z I H;split at d
     ·rename_i F;obtain⟨rfl,q,rfl⟩:=F;obtain⟨rfl,i,w,C⟩:=d;obtain⟨l',y,B⟩:=jq C;obtain⟨rfl,T,X⟩:=zM y;refine⟨_,_,?_,B⟩;rw[k];simp only[γA,fU H,bA.g,ff];rw[if_pos ⟨trivial,trivial,trivial,trivial,i,w,.inr c⟩,qy,bA.g,OM,T];grind
     simp_all
    simp_all
   ·rename_i O l k;obtain⟨q,i⟩:=d;refine⟨_,_,?_,i⟩;simp_all[γA]
   simp_all
  simp_all
 simp_all
theorem Pn {mx:Bool} {a b:Int}:(if mx then(if b>a then b else a) else(if b<a then b else a))=if mx then max a b else min a b:=by
 grind
theorem Za (hC:pO call p.C) {op:cO} {ρ:Operand->SV} (h:eX p op ρ o bF K):
  ∃(v:SV) (o':cu),bT call op (λx=>(ρ x).g) (gO o) bF=some (v.g,gO o')/\K v o':=by
 cases op with
 |uN x=>exact⟨_,_,rfl,h⟩;|pick c a b=>
  simp only[eX] at h;split at h;·grind[bT,γA]
  ·grind[bT,γA]
  ·rename_i c hc;cases c<;>grind[bT,γA]
  simp_all;|alloc z e pu=>
  obtain⟨o',hm,hk⟩:=vy h;grind[bA.g,Hq,bT,γA];|box e x=>
  simp only[eX] at h;split at h
  ·rename_i h1;obtain⟨o',hm,hk⟩:=vy h;simp only[bA.g] at hm;exact⟨_,o',by simp_all[bT,CO,CP,jV,γA],hk⟩
  simp_all;|build z parts=>
  simp only[eX] at h;obtain⟨cs,h1,h2⟩:=jq h;have:=Y4 h1;grind[Hq,bT,γA];|pD z len parts e sz=>
  simp only[eX] at h;split at h
  ·rename_i s cs hs hf;split at h
   ·rename_i hsz;split at h
    ·rename_i hany;split at h
     ·rename_i hlen;obtain⟨o',hm,hk⟩:=vy h;simp only[bA.g,cM,ζm,δO] at hm;have hfa:=Ho hf;rw[Hr] at hfa;refine⟨_,o',?_,hk⟩;subst hsz;have hp:dx (gL cs)=false:=by
       clear hf hfa hm hlen h;induction cs with
       |nil=>simp at hany;|cons c cs ih=>
        simp only[List.any_cons,δj] at hany;simp only[gL,dx];rcases hany with hc|hc
        ·have h9:c.g.pure=false:=by
          cases c<;>grind[γA,AV.pure,SV.OS]
         simp_all
        simp_all
      simp_all[bT,eI,γA]
     simp_all
    obtain⟨l,h1,h2⟩:=jq h;obtain⟨h3,h4⟩:=CV h1;obtain⟨o',hm,hk⟩:=vy h2;simp only[bA.g] at hm;have hfa:=Ho hf;rw[Hr] at hfa;refine⟨_,o',?_,hk⟩;subst hsz;rw[G6] at h3;have hp:dx (gL cs)=true:=(G8 (pu:=true) (cs:=gL cs) λc hc=>nk (s:=s) (l:=l) (by rw[<-h3];exact hc)).2;grind[eI,bT,γA]
   simp_all
  simp_all;|tf z len parts e sz=>
  simp only[eX] at h;split at h
  ·rename_i s cs hs hf;split at h
   ·rename_i hsz;obtain⟨l,h1,h2⟩:=jq h;obtain⟨h3,h4⟩:=CV h1;have hfa:=Ho hf;rw[Hr] at hfa;rw[G6] at h3;have hp:dx (gL cs)=true:=(G8 (pu:=true) (cs:=gL cs) λc hc=>nk (s:=s) (l:=l) (by rw[<-h3];exact hc)).2;have hq:eI true (gL cs)=cM s l:=h3;exact⟨_,_,by simp_all[bT,γA],h2⟩
   simp_all
  simp_all;|load n a=>
  simp only[eX] at h;grind[O4,bT];|store n a x=>exact Y8 h;|uO x=>
  simp only[eX] at h;grind[bT,γA];|bin op x y=>
  simp only[eX] at h;grind[YX,bT];|beq neg x y=>
  simp only[eX] at h;split at h
  ·rename_i a b h1 h2;exact⟨_,_,by simp_all[bT,xn,γA],h⟩
  simp_all;|sd neg ks x y=>
  simp only[eX] at h;split at h
  ·rename_i a b h1 h2;split at h
   ·rename_i hk;obtain⟨r,hr,h3⟩:=jq h;grind[bT,γA,YZ]
   simp_all
  simp_all;|un op x=>
  simp only[eX] at h;split at h<;>grind[bT,γA,y8,CU];|conv k x=>
  simp only[eX] at h;split at h;·grind[bT,γA]
  ·grind[bT,γA,CU]
  ·rename_i kk n _ hx;exact⟨.si k (fe k n),_,by grind[bT,γA],zK h⟩
  simp_all;|uP off x=>
  simp only[eX] at h;grind[bT,γA,oN];|field off n x=>
  simp only[eX] at h;split at h
  ·rename_i cs hx;obtain⟨v,h1,h2⟩:=jq h;grind[bT,γA,CS]
  simp_all;|uQ len sz x i=>
  simp only[eX] at h;split at h
  ·rename_i k n hi;split at h
   ·rename_i hn;split at h;·rename_i hx;exact⟨_,_,by simp_all[bT,γA,iw,oN],h⟩
    ·rename_i hx;exact⟨_,_,by simp only[bT,hi,hx,γA,iw,if_pos hn,oN,γm,ζF],h⟩
    ·rename_i hx;exact⟨_,_,by simp only[bT,hi,hx,γA,iw,if_pos hn,oN,γm,ζF],h⟩
    simp_all
   simp_all
  ·rename_i k n hi;split at h;·rename_i hx;exact⟨_,_,by simp_all[bT,γA,iw,oN],h.2.2⟩
   simp_all
  simp_all;|sf sz x i=>
  simp only[eX] at h;split at h
  ·rename_i n hi;have hi:=Hk hi;split at h
   ·rename_i s l hx;split at h
    ·rename_i hsz;subst hsz;obtain⟨h1,h2,h3⟩:=h;refine⟨_,_,?_,h3⟩;simp_all[bT,γA,qh,ff]
    simp_all
   ·rename_i id m sz' hx;split at h
    ·rename_i s l e pu ho;split at h
     ·rename_i hsz;obtain⟨rfl,rfl⟩:=hsz;obtain⟨rfl,h1,h2,h3⟩:=h;refine⟨_,_,?_,h3⟩;simp_all[bT,γA,qh,fU,bA.g,ff,pI]
     simp_all
    simp_all
   ·rename_i id off len m sz' hx;split at h
    ·rename_i s l e pu ho;split at h
     ·rename_i hsz;obtain⟨rfl,rfl⟩:=hsz;obtain⟨rfl,h1,h2,h4,h3⟩:=h;refine⟨_,_,?_,h3⟩;have hm:(off+len)*s.sz<=l.length*s.sz:=γI _ h4;rw[εu] at hm;simp only[bT,hi,hx,γA,qh,fU ho,bA.g,ff];rw[pI (by omega),if_pos ⟨trivial,trivial,h1,h2,hm⟩];grind
     simp_all
    simp_all
   ·rename_i id off len m sz' hx;split at h
    ·rename_i s l e pu ho;split at h
     ·rename_i hsz;obtain⟨rfl,rfl⟩:=hsz;obtain⟨rfl,h1,h2,h4,h3⟩:=h;refine⟨_,_,?_,h3⟩;have hm:(off+len)*s.sz<=l.length*s.sz:=γI _ h4;have hp:=GK s;rw[εu] at hm;simp only[bT,hi,hx,γA,qh,fU ho,bA.g,ff];rw[BN (by omega),show off*s.sz+(l.length*s.sz+s.sz) - l.length*s.sz - s.sz=off*s.sz by omega,if_pos ⟨trivial,trivial,h1,h2,hm⟩];grind
     simp_all
    simp_all
   simp_all
  simp_all;|idx len sz n x i=>
  simp only[eX] at h;split at h
  ·rename_i k' k cs hi hx;split at h
   ·rename_i hk;obtain⟨v,h1,h2⟩:=jq h;exact⟨_,_,by simp_all[bT,γA,iw,CS],h2⟩
   simp_all
  ·rename_i k' k cs hi hx;split at h
   ·rename_i l _ _ hl;split at h
    ·rename_i hll;obtain⟨h1,h2,h3⟩:=h;refine⟨_,_,?_,h3⟩;obtain⟨h4,h5⟩:=O2 hl;simp_all[bT,γA,iw,gw,tY]
    simp_all
   simp_all
  simp_all;|wI x i=>simp_all[eX];|qf z e sz bytes l c pu=>
  simp only[eX] at h;split at h
  ·rename_i n m s hn hm hs;have hn:=Hk hn;have hm:=Hk hm;split at h
   ·rename_i hsz;subst hsz;obtain⟨x,hx,h1,h2,h3,h4,h5⟩:=jq h;obtain⟨o',hmk,hk⟩:=vy h5;refine⟨_,o',?_,hk⟩;have hd:=nU hx;rw[<-gn,G7,Hq] at hd;simp_all[bA.g,bT,Y5,γA]
   simp_all
  simp_all;|slice sz x lo hi=>
  simp only[eX] at h;split at h
  ·rename_i s l hx;split at h
   ·rename_i hsz;subst hsz;obtain⟨a,ha,h1⟩:=pN h;obtain⟨b,hb,h2,h3,h4⟩:=pN h1;refine⟨_,_,?_,h4⟩;rw[zO] at ha hb;have hlen:((l.drop a).take (b - a)).length=b - a:=by simp;omega
    simp_all[bT,γA,qk,ff,zJ]
   simp_all
  ·rename_i id m sz' hx;split at h
   ·rename_i s l e pu ho;split at h
    ·rename_i hsz;obtain⟨rfl,rfl⟩:=hsz;obtain⟨rfl,h⟩:=h;obtain⟨a,ha,h1⟩:=pN h;obtain⟨b,hb,h2,h3,h4⟩:=pN h1;refine⟨_,_,?_,h4⟩;rw[zO] at ha hb;simp_all[bT,γA,qk,fU,bA.g,ff]
    simp_all
   simp_all
  ·rename_i id off len m sz' hx;split at h
   ·rename_i s l e pu ho;split at h
    ·rename_i hsz;obtain⟨rfl,rfl⟩:=hsz;obtain⟨rfl,h⟩:=h;obtain⟨a,ha,h1⟩:=pN h;obtain⟨b,hb,h2,h3,h4⟩:=pN h1;refine⟨_,_,?_,h4⟩;rw[zO] at ha hb;simp only[bT,hx,γA,qk,ha,hb,fU ho,bA.g,ff];grind
    simp_all
   simp_all
  simp_all;|slice3 sz x lo hi mx=>
  simp only[eX] at h;split at h
  ·rename_i s l hx;split at h
   ·rename_i hsz;subst hsz;obtain⟨a,ha,h1⟩:=pN h;obtain⟨b,hb,h2⟩:=pN h1;obtain⟨m,hm,h3,h4,h5,h6⟩:=pN h2;refine⟨_,_,?_,h6⟩;rw[zO] at ha;simp only[γm] at hb hm;have hlen:((l.drop a).take (b - a)).length=b - a:=by simp;omega
    simp_all[bT,γA,sr,ff,zJ]
   simp_all
  ·rename_i id n sz' hx;split at h
   ·rename_i s l e pu ho;split at h
    ·rename_i hsz;obtain⟨rfl,rfl⟩:=hsz;obtain⟨rfl,h⟩:=h;obtain⟨a,ha,h1⟩:=pN h;obtain⟨b,hb,h2⟩:=pN h1;obtain⟨m,hm,h3,h4,h5,h6⟩:=pN h2;refine⟨_,_,?_,h6⟩;rw[zO] at ha;simp only[γm] at hb hm;simp only[bT,hx,γA,sr,ha,hb,hm,fU ho,bA.g,ff];simp_all[GK]
    simp_all
   simp_all
  simp_all;|uR x lo hi=>simp_all[eX];|append e sz bytes s x pu=>exact Y9 h;|len k x=>
  simp only[eX] at h;split at h;·grind[bT,γA,lB]
  ·grind[bT,γA,lB]
  ·grind[bT,γA,lB]
  ·grind[bT,γA,lB]
  ·grind[bT,γA,lB]
  ·grind[bT,γA,lB]
  ·rename_i id hx;split at h
   ·rename_i sk sv ka es kt pu ho;exact⟨_,_,by simp_all[bT,γA,lB,fU,bA.g],h⟩
   simp_all
  simp_all;|uS n=>exact⟨_,_,rfl,h⟩;|mm mx x y=>
  simp only[eX] at h;split at h
  ·rename_i hx hy;split at h
   ·rename_i hk;exact⟨_,_,by simp_all[bT,γA],h⟩
   simp_all
  ·rename_i k a hx;obtain⟨b,hb,h2⟩:=jq h;exact⟨_,_,by simp only[bT,hx,iP hb,γA,if_true,Pn],h2⟩
  ·rename_i k a hx _;obtain⟨b,hb,h2⟩:=jq h;exact⟨_,_,by simp only[bT,hx,iP hb,γA,if_true,Pn],h2⟩
  simp_all;|call f args own=>
  simp only[eX] at h;grind[Hn,CW,bT];|jT f args own=>
  simp only[eX] at h;grind[Hn,vu,CW,bT,γA];|extract x i=>
  simp only[eX] at h;split at h
  ·rename_i vs hx;obtain⟨v,h1,h2⟩:=jq h;grind[bT,γA,tY]
  simp_all;|tg f first captured=>exact⟨_,_,by grind[bT,γA,CW],h⟩;|uT t x=>
  simp only[eX] at h;split at h
  ·rename_i cs hx;split at h
   ·rename_i hp;exact⟨_,_,by simp_all[bT,γA,G4],h⟩
   simp_all
  simp_all;|oL tab x args=>
  simp only[eX] at h;split at h<;>grind[Hn,gL,γA,CW,bT];|qg kt pu=>
  simp only[eX] at h;grind[vy,bA.g,bT,γA];|lookup z agg ks ka x k ok=>
  simp only[eX] at h;split at h
  ·rename_i id hx;split at h
   ·rename_i sk sv xp es kt pu ho;split at h
    ·rename_i hh;obtain⟨rfl,rfl,h1,h2,rfl,h4,h5,h6⟩:=hh;obtain⟨kv,hkv,h7⟩:=jq h;obtain⟨zv,hzv,h8⟩:=jq h7;have hkey:=O9 h5 h6 (Ph h1) hkv;have hz:qY z false=some (nj sv zv):=by
      have hd:=nU hzv;rw[G3,Pg h2] at hd;cases z with
      |nil=>simp at hd;|cons a r=>
       simp_all[qY]
     obtain⟨r,hr,hm⟩:=Hl (sv:=sv) h1 h4 kv es 0;refine⟨_,_,?_,h8⟩;simp only[bT,hx,γA,hkey,fU ho,bA.g,if_true,hr,hz];cases hf:nW sk sv kv es with
     |some v=>
      rw[hf] at hm;obtain⟨j,rfl,_⟩:=hm;simp only[Option.getD_some];cases ok<;>simp only[Γ,if_false,if_true,γA,gL,Pe h2,ζH,ε2];|none=>
      rw[hf] at hm;obtain⟨rfl,_⟩:=hm;simp only[Option.getD_none];cases ok<;>simp only[Γ,if_false,if_true,γA,gL,Pe h2,ζH,ε2]
    simp_all
   simp_all
  simp_all;|qX ks ka x k v=>
  simp only[eX] at h;split at h
  ·rename_i id hx;split at h
   ·rename_i sk sv xp es kt pu ho;split at h
    ·rename_i hh;obtain⟨rfl,rfl,h1,h2,h4,h5,h6,h9⟩:=hh;obtain⟨kv,hkv,h7⟩:=jq h;obtain⟨vv,hvv,h8⟩:=jq h7;have hkey:=O9 h5 h6 (Ph h1) hkv;have hv:(ρ v).g=nj sv vv:=by
      have hd:=nU hvv;rw[Pg h2] at hd;have hc:(ρ v).cellsOf=[ρ v]:=by
       revert h9;cases ρ v<;>simp[SV.cellsOf,vq]
      simp_all
     obtain⟨r,hr,hm⟩:=Hl (sv:=sv) h1 h4 kv es 0;refine⟨_,_,?_,h8⟩;have hpure:(nj sv vv).pure=true:=by simp[nj,AV.pure]
     simp only[bT,hx,γA,hkey,fU ho,bA.g,hv,hpure,hr,qy];rw[if_neg (by simp)];cases hf:nW sk sv kv es with
     |some w=>
      rw[hf] at hm;obtain⟨j,rfl,h10,h11⟩:=hm;rw[O8 h10 h11];simp_all[Pj];|none=>
      grind[Hm]
    simp_all
   simp_all
  simp_all
end
mutual
theorem Ht {o:Store} {k:Nat}:∀{v:AV},v.cy k=true->v.bZ o (λi=>decide (k<=i))=some v
 | .os m d j e,h=>by
  simp_all[AV.cy,AV.bZ,if_neg];| .ptr m d e,h=>by
  simp_all[AV.cy,AV.bZ,if_neg];| .agg g,h=>by simp only[AV.cy] at h;simp only[AV.bZ,xB h,γm];| .bN g,h=>by simp only[AV.cy] at h;simp only[AV.bZ,xB h,γm];| .fn f a b,h=>by
  simp only[AV.cy,θ] at h;simp only[AV.bZ,xB h.1,xB h.2];| .ud,_| .sc _,_| .sl _ _,_| .ep _ _,_| .mp _,_| .jo _ _,_=>by simp only[AV.bZ]
theorem xB {o:Store} {k:Nat}:∀{l:List AV},eC k l=true->hJ o (λi=>decide (k<=i)) l=some l
 |[],_=>by simp[hJ];|c::g,h=>by
  simp only[eC,θ] at h;simp only[hJ,Ht h.1,xB h.2]
end
theorem Po {o:Store} {k:Nat}:∀{l:List (Value×AV)},eC k (l.map (·.2))=true->qp o (λi=>decide (k<=i)) l=some l
 |[],_=>by simp[qp];|(q,c)::a,h=>by
  simp only[φ,eC,θ] at h;simp only[qp,Ht h.1,Po h.2]
theorem Zb {o:Store} {k:Nat} {x:bW} (h:x.cy k=true):x.bZ o (λi=>decide (k<=i))=some x:=by
 cases x with
 |dead=>rfl;|cells b e f a=>
  cases a with
  |true=>simp only[bW.bZ,if_true];|false=>simp_all[bW.cy,bW.bZ,xB]
 |map d c a=>
  cases a with
  |true=>simp only[bW.bZ,if_true];|false=>simp_all[bW.cy,bW.bZ,Po]
theorem Pq {o:Store} {k:Nat}:∀{r:Store},(∀x∈r,x.cy k=true)->jF o (λi=>decide (k<=i)) r=some r
 |[],_=>rfl
 |x::r,h=>by
  simp only[jF,Zb (h x (by simp)),Pq (r:=r) λy a=>h y (by simp[a])]
theorem Pv {k:Nat}:∀{o:Store} {i:Nat},(fS (λj=>decide (k<=j)) i o).take (k - i)=o.take (k - i)
 |[],i=>by simp[fS];|x::r,i=>by
  simp only[fS];by_cases a:i<k
  ·rw[show k - i=(k - (i+1))+1 from by omega,δ3,δ3,Pv];grind
  simp_all
theorem agC {k i:Nat} (h:i<k):(Θ k).contains i=true:=by simp[h]
theorem Px {o:Store} {k:Nat}:∀{d:Nat} {vs:List AV},eC k vs=true->dc o d vs (Θ k)=Θ k:=by
 intro d;induction d with
 |zero=>grind[dc];|succ d e=>
  intro vs h;cases vs with
  |nil=>simp[dc];|cons v vs=>
   simp only[eC,θ] at h;have i:=h.1;simp only[dc];cases v with
   |agg g=>grind[AV.cy];|bN g=>grind[AV.cy];|fn f a b=>grind[AV.cy];|ptr c _ _=>simp_all[AV.cy];|os c _ _ _=>simp_all[AV.cy];|mp c=>simp_all[AV.cy];|_=>simp only[e h.2]
theorem Py:∀{n s i p:Nat},s<=i->i<s+n->idxOf (ζj s n) i p=some (p+(i - s))
 |0,s,i,p,a,b=>by omega;|n+1,s,i,p,a,b=>by
  simp only[εs,idxOf];by_cases h:s=i;·subst h;simp
  ·have:(s==i)=false:=by simpa using h
   rw[this];simp only[Γ,if_false];rw[Py (by omega) (by omega)];grind
theorem Hu {k i:Nat} (h:i<k):idxOf (Θ k) i=some i:=by
 rw[δF,Py (by omega) (by omega)];simp
mutual
theorem CX {k:Nat}:∀{v:AV},v.cy k=true->v.ren (λj=>idxOf (Θ k) j)=some v
 | .os g d m e,h=>by simp_all[AV.cy,δB,Hu];| .ptr g d e,h=>by simp_all[AV.cy,δB,Hu];| .mp g,h=>by simp_all[AV.cy,δB,Hu];| .agg i,h=>by simp only[AV.cy] at h;simp only[δB,xC h,γm];| .bN i,h=>by simp only[AV.cy] at h;simp only[δB,xC h,γm];| .fn f a b,h=>by
  simp only[AV.cy,θ] at h;simp only[δB,xC h.1,xC h.2];| .ud,_| .sc _,_| .sl _ _,_| .ep _ _,_| .jo _ _,_=>by simp only[δB]
theorem xC {k:Nat}:∀{l:List AV},eC k l=true->iN (λj=>idxOf (Θ k) j) l=some l
 |[],_=>by simp[iN];|c::i,h=>by
  simp only[eC,θ] at h;simp only[iN,CX h.1,xC h.2]
end
theorem Pz {k:Nat}:∀{l:List (Value×AV)},eC k (l.map (·.2))=true->oO (λj=>idxOf (Θ k) j) l=some l
 |[],_=>by simp[oO];|(q,c)::a,h=>by
  simp only[φ,eC,θ] at h;simp only[oO,CX h.1,Pz h.2]
theorem Zc {k:Nat} {x:bW} (h:x.cy k=true):x.ren (λj=>idxOf (Θ k) j)=some x:=by
 cases x with
 |dead=>rfl;|cells b e f a=>
  cases a with
  |true=>simp only[bW.ren,if_true];|false=>simp_all[bW.cy,bW.ren,xC]
 |map d c a=>
  cases a with
  |true=>simp only[bW.ren,if_true];|false=>simp_all[bW.cy,bW.ren,Pz]
theorem Hv {k:Nat} {o:Store} (a:∀x∈o.take k,x.cy k=true) (c:k<=o.length):∀{n s:Nat},s+n=k->lh o (Θ k) (ζj s n)=some ((o.take k).drop s)
 |0,s,h=>by
  grind[lh];|n+1,s,h=>by
  simp only[εs,lh];have d:s<o.length:=by omega
  have e:o[s]?=some o[s]:=μ d;rw[e,Hv a c (by omega)];have f:o[s]∈o.take k:=by
   rw[List.mem_take_iff_getElem];grind
  simp only[Zc (a _ f),γm];congr 1;have b:s<(o.take k).length:=by simp;omega
  rw[List.drop_eq_getElem_cons b];simp
theorem nodup_range':∀{n s:Nat},iO.pE (ζj s n)=true
 |0,_=>by simp[iO.pE];|n+1,s=>by
  simp only[εs,iO.pE,nodup_range',δH,Bool.not_eq_true'];grind
theorem PD {k:Nat}:∀{a b:List AV},eC k a=true->eC k b=true->eC k (a++b)=true
 |[],b,_,h=>h
 |x::a,b,h,c=>by
  simp only[eC,θ] at h;simp only[γC,eC,h.1,PD h.2 c,Bool.and_self]
theorem Hw {k:Nat}:∀{o:Store},(∀x∈o,x.cy k=true)->eC k (o.flatMap lT.bW.zb)=true
 |[],_=>by simp[eC];|x::o,h=>by
  simp only[δ2];refine PD ?_ (Hw λy a=>h y (by simp[a]));have b:=h x (by simp);cases x<;>grind[lT.bW.zb,eC,bW.cy]
theorem PE {k:Nat} {r:AV} {o:Store} (e:r.cy k=true) (b:∀x∈o,x.cy k=true) (j:k<=o.length):lT k r o=some (r,o.take k):=by
 unfold lT;rw[Ht e,Pq b];simp only;have a:(fS (λi=>decide (k<=i)) 0 o).take k=o.take k:=by simpa using Pv (k:=k) (o:=o) (i:=0)
 have d:∀{o:Store} {i:Nat},(fS (λi=>decide (k<=i)) i o).length=o.length:=by
  intro o;induction o with
  |nil=>intro i;rfl;|cons x o l=>simp_all[fS]
 have h:∀x∈o.take k,x.cy k=true:=λx g=>b x (List.mem_of_mem_take g);rw[a,Px (by grind[eC,Hw])];have f:iO.pE (Θ k)=true:=by rw[δF];exact nodup_range'
 rw[if_pos f,CX e];have c:=Hv (k:=k) (o:=fS (λi=>decide (k<=i)) 0 o) (by simp_all) (by simp_all) (n:=k) (s:=0) (by omega);rw[<-δF,a,List.drop_zero] at c;rw[c]
theorem Hy:∀{env:fH} {s:Nat} {v:SV},(jI env s).g=v.g->gE (xt env s v)=gE env
 |[],_,_,_=>rfl
 |p::r,s,v,h=>by
  simp only[xt,jI] at h ⊢;cases a:δw p.1 s with
  |true=>
   simp_all[gE];|false=>
   rw[a] at h;simp only[cond_false] at h ⊢;have:=Hy h;grind[gE]
theorem Zd {env:fH} {g:Option (Option Nat×Bool)} {K:fH->Bool->Prop} (h:GV env g K):∃a w,gE a=gE env/\mI (gE env) g=some w/\K a w:=by
 unfold GV at h;split at h;·exact⟨_,_,rfl,rfl,h⟩
 ·exact h.elim
 ·rename_i s b;split at h;·grind[mI,oa,γA]
  ·rename_i c d;cases c<;>grind[Hy,mI,oa,γA]
  all_goals grind[mI,oa,γA,gL]
section
variable {call:dm} {p:ja}
theorem PG:∀{a b:cu},kq a b->gO a=gO b
 |[],[],_=>rfl
 |x::a,y::b,h=>by
  obtain⟨c,d⟩:=h;have e:x.g=y.g:=c;simp only[gO,φ,e];congr 1;exact PG d
def vz:Trace->Trace->Prop
 |[],[]=>True
 |x::a,y::b=>(x.1=y.1/\x.2.1=y.2.1/\∀j∈x.2.2,j∈y.2.2)/\vz a b
 |_,_=>False
theorem vz.look:∀{a b:Trace} {i:Nat},vz a b->(qo a i).1=(qo b i).1/\∀j∈(qo a i).2,j∈(qo b i).2
 |[],[],_,_=>⟨rfl,λj h=>h⟩
 |(k,x)::a,(g,y)::b,i,h=>by
  obtain⟨⟨c,e,d⟩,f⟩:=h;simp only at c e d;subst c;simp only[qo];split;·exact⟨e,d⟩
  ·exact vz.look f
theorem Ze {a b d c:List Nat} (f:∀j∈a,j∈d) (e:∀j∈b,j∈c) (h:wK d c=true):wK a b=true:=by
 grind[wK]
theorem Zf {n:Nat} {a b:Trace} {c:List (Nat×Nat)} (h:vz a b) (d:tn n b c=true):tn n a c=true:=by
 unfold tn at d ⊢;rw[List.all_eq_true] at d ⊢;intro p e;have l:=d p e;obtain⟨g,k⟩:=h.look (i:=p.1);obtain⟨f,j⟩:=h.look (i:=p.2);grind[Ze]
theorem Hz (u:pO call p.C) {base:Nat}:∀{d:List dA} {st:cG} {l:Trace} {K:cG->Trace->Prop},xu p base d st l K->
  ∃st' T,gk call base d st.g=some st'.g/\vz (mJ call base d st.g) T/\K st' (T.reverse++l)
 |[],st,l,K,h=>⟨st,[],rfl,trivial,h⟩
 |i::r,st,l,K,h=>by
  simp only[xu] at h;obtain⟨a,w,B,s,q⟩:=Zd h;have A:st.g=⟨gE a,gO st.o⟩:=by grind[cG.g]
  rw[<-B] at s;cases w with
  |true=>
   simp only[if_true] at q;obtain⟨v,y,E,c⟩:=Za u q;have b:iy call base i st.g=some (cG.g ⟨vl a i.dst v,y⟩):=by
    grind[iy,OY,y9,cG.g,OW]
   have k:∀W:List Nat,(∀j∈eE call i.op (λx=>(jJ a x).g) (gO st.o) (base+i.bF),j∈W)->
     xu p base r ⟨vl a i.dst v,y⟩ ((i.idx,dY i.op (λx=>(jJ a x).g) (st.o.map bA.g) (base+i.bF),W)::l) K->
     ∃st' T,gk call base (i::r) st.g=some st'.g/\vz (mJ call base (i::r) st.g) T/\K st' (T.reverse++l):=λW G c=>by
    obtain⟨st',T,D,z,F⟩:=Hz u c;refine⟨st',(i.idx,dY i.op (λx=>(jJ a x).g) (st.o.map bA.g) (base+i.bF),W)::T,by grind[gk],?_,?_⟩
    ·simp only[mJ,b];rw[A];simp only[s,OY];exact⟨⟨rfl,rfl,G⟩,z⟩
    simp_all
   unfold OT at c;split at c
   ·rename_i f n t;split at c
    ·obtain⟨H,c⟩:=c;refine k [] (λj m=>?_) c;rw[t] at E m;have e:iO call f (n.map λx=>(jJ a x).g) (gO st.o)=some (v.g,gO y):=by simp_all[bT,gU]
     simp only[eE,e,List.mem_filter,decide_eq_true_eq] at m;grind[PG]
    ·exact k _ (λj m=>Gu m) c
   ·exact k _ (λj m=>Gu m) c;|false=>
   simp only[Γ,if_false] at q;obtain⟨st',T,D,z,F⟩:=Hz u q;have b:iy call base i st.g=some (cG.g ⟨vl a i.dst (.bN []),st.o⟩):=by
    grind[iy,cG.g,OW,γA,gL]
   refine⟨st',(i.idx,[],[])::T,by grind[gk],?_,?_⟩
   ·simp only[mJ,b];rw[A];simp only[s];exact⟨⟨rfl,rfl,λj h=>h⟩,z⟩
   simp_all
theorem Zg (k:Nat):gO (δ k .dead)=gl k:=by simp[gO,gl,bA.g]
theorem PH (a b:cu):gO (a++b)=gO a++gO b:=by simp[gO]
theorem Zh (x:bA):x.g.mZ=x.mZ:=by cases x<;>rfl
theorem Zi (base:Nat) (o:cu):gO (GX base o)=qZ base (gO o):=by
 unfold GX qZ;have:((gO o).drop base).all (·.mZ)=(o.drop base).all (·.mZ):=by
  simp only[gO,<-List.map_drop,ζN];grind[Zh]
 rw[this];cases(o.drop base).all (·.mZ);·rfl
 ·simp[gO]
theorem Zj (i:pO call p.C) {k:Nat} {b:List dA} {a:List (Nat×Nat)} {st:cG} {K:cG->Prop} (h:GY p k b a st K):∃st',pF call k b a st.g=some st'.g/\K st':=by
 unfold GY at h;obtain⟨st',T,f,j,d⟩:=Hz i h;rw[List.append_nil,List.reverse_reverse] at d;have e:(cG.mk st.env (st.o++δ k .dead)).g=⟨st.g.env,st.g.o++gl k⟩:=by simp[cG.g,PH,Zg]
 rw[e] at f j;have c:st.g.o.length=st.o.length:=by simp[cG.g,ob]
 split at d
 ·rename_i l;refine⟨_,?_,d⟩;simp only[pF,c];rw[f];simp only;rw[if_pos (by
   grind[gl,Zf])];grind[cG.g,Zi]
 simp_all
end
theorem CY {v:SV}:isNil v=true↔v.g= .sc (.slice none 0 0):=by
 constructor
 ·intro h;unfold isNil at h;split at h;·rfl
  ·cases h
 ·intro h;cases v<;>simp only[γA,reduceCtorEq,γ7] at h;subst h;rfl
section
variable {o:cu} {id:Nat} {s:bw} {l:List s.T} {e:TypeId}
def pid (id:Nat):Nat->Bool:=λi=>i==id
mutual
theorem PI (r:o[id]?=some (.row s l e true)):∀{v:SV} {K:SV->Prop},jK id s l v K->∃E:SV,v.g.bZ (gO o) (pid id)=some E.g/\K E
 | .ow j n A,K,h=>by
  simp only[jK] at h;split at h
  ·rename_i q;subst q;split at h
   ·rename_i u;subst u;obtain⟨rfl,D⟩:=h;refine⟨_,?_,D⟩;have I:τ (l.length*s.sz) (cM s l)=cM s l:=γc (by grind[ff]);simp_all[γA,AV.bZ,pid,fU,bA.g,ff]
   simp_all
  ·rename_i q;refine⟨_,?_,h⟩;simp_all[γA,AV.bZ,pid];| .os j w p n A,K,h=>by
  simp only[jK] at h;split at h
  ·rename_i q;subst q;split at h
   ·rename_i u;subst u;obtain⟨rfl,C,D⟩:=h;refine⟨_,?_,D⟩;have F:(w+p)*s.sz<=l.length*s.sz:=γI _ C;rw[εu] at F;have B:((l.drop w).take p).length=p:=by simp;omega
    simp only[γA,AV.bZ,pid,BEq.rfl,if_true,fU r,bA.g,ff,F,and_self,zJ,B]
   simp_all
  ·rename_i q;refine⟨_,?_,h⟩;simp_all[γA,AV.bZ,pid];| .oc j w p n A,K,h=>by
  simp only[jK] at h;split at h;·exact h.elim
  ·rename_i q;exact⟨_,by simp_all[γA,AV.bZ,pid],h⟩;| .rp j i f n A,K,h=>by
  simp only[jK] at h;split at h;·exact h.elim
  ·rename_i q;exact⟨_,by simp_all[γA,AV.bZ,pid],h⟩;| .ptr j f t,K,h=>by
  simp only[jK] at h;split at h;·exact h.elim
  ·rename_i q;exact⟨_,by simp_all[γA,AV.bZ,pid],h⟩;| .ap j a b c d i,K,h=>by
  simp only[jK] at h;split at h;·exact h.elim
  ·rename_i q;exact⟨_,by simp_all[γA,AV.bZ,pid],h⟩;| .agg x,K,h=>by
  simp only[jK] at h;obtain⟨m,z,y⟩:=vA r h;grind[γA,AV.bZ];| .bN x,K,h=>by
  simp only[jK] at h;obtain⟨m,z,y⟩:=vA r h;grind[γA,AV.bZ];| .fn f a b,K,h=>by
  simp only[jK] at h;obtain⟨M,z,y⟩:=vA r h;obtain⟨L,G,H⟩:=vA r y;grind[γA,AV.bZ];| .ud,K,h=>⟨.ud,by grind[γA,AV.bZ],by grind[jK]⟩
 | .sc v,K,h=>⟨.sc v,by grind[γA,AV.bZ],by grind[jK]⟩
 | .il k n,K,h=>⟨.il k n,by grind[γA,AV.bZ],by grind[jK]⟩
 | .si k n,K,h=>⟨.si k n,by grind[γA,AV.bZ],by grind[jK]⟩
 | .bl b,K,h=>⟨.bl b,by grind[γA,AV.bZ],by grind[jK]⟩
 | .sb b,K,h=>⟨.sb b,by grind[γA,AV.bZ],by grind[jK]⟩
 | .row s l,K,h=>⟨.row s l,by grind[γA,AV.bZ],by grind[jK]⟩
 | .ep s l i f,K,h=>⟨.ep s l i f,by grind[γA,AV.bZ],by grind[jK]⟩
 | .mp i,K,h=>⟨.mp i,by grind[γA,AV.bZ],by grind[jK]⟩
 | .ia t x,K,h=>⟨.ia t x,by grind[γA,AV.bZ],by grind[jK]⟩
 | .ite c a b,K,h=>⟨.ite c a b,by grind[γA,AV.bZ],by grind[jK]⟩
theorem vA (r:o[id]?=some (.row s l e true)):∀{x:List SV} {K:List SV->Prop},rq id s l x K->∃m:List SV,hJ (gO o) (pid id) (gL x)=some (gL m)/\K m
 |[],K,h=>⟨[],by simp[gL,hJ],by grind[rq]⟩
 |c::x,K,h=>by
  simp only[rq] at h;obtain⟨J,z,y⟩:=PI r h;obtain⟨m,G,H⟩:=vA r y;grind[gL,hJ]
end
theorem HA (b:o[id]?=some (.row s l e true)):∀{env:fH} {K:fH->Prop},zB id s l env K->∃a,uW (gO o) (pid id) (gE env)=some (gE a)/\K a
 |[],K,h=>⟨[],rfl,h⟩
 |(k,v)::r,K,h=>by
  simp only[zB] at h;obtain⟨f,d,c⟩:=PI b h;obtain⟨j,g,i⟩:=HA b c;grind[gE,uW]
theorem CZ {o:Store} {q:Nat->Bool}:∀{cs:List AV},(∀a∈cs,Plain a)->hJ o q cs=some cs
 |[],_=>by simp[hJ];|a::cs,h=>by
  have d:=CZ (o:=o) (q:=q) (cs:=cs) λb c=>h b (by simp[c]);rcases h a (by simp) with⟨v,rfl,_⟩|⟨n,e,rfl,_⟩<;>simp only[hJ,AV.bZ,d]
theorem HB {o:Store} {q:Nat->Bool}:∀{es:List (Value×AV)},(∀a∈es,∃v,a.2= .sc v)->qp o q es=some es
 |[],_=>by simp[qp];|(k,a)::es,h=>by
  obtain⟨v,b⟩:=h (k,a) (by simp);simp only at b;subst b;simp only[qp,AV.bZ,HB (es:=es) λa c=>h a (by simp[c])]
theorem sG (j:o[id]?=some (.row s l e true)):∀{i:Nat} {r:cu} {K:cu->Prop},nY id s l i r K->∃r' mid,jF (gO o) (pid id) (gO r)=some mid/\fS (pid id) i mid=gO r'/\K r'
 |i,[],K,h=>⟨[],[],rfl,rfl,h⟩
 |i,x::r,K,h=>by
  cases x with
  |dead=>
   simp only[nY] at h;obtain⟨r',mid,w,n,f⟩:=sG j h;grind[gO,bA.g,jF,bW.bZ,fS];|cells N p F d=>
   simp only[nY] at h;cases d with
   |true=>
    simp only[if_true] at h;split at h;·exact h.elim
    ·rename_i B;obtain⟨r',mid,w,n,f⟩:=sG j h;refine⟨_,.cells (gL N) p F true::mid,?_,?_,f⟩;all_goals simp_all[gO,bA.g,jF,bW.bZ,fS,pid];|false=>
    simp only[Γ,if_false] at h;obtain⟨A,z,k⟩:=vA j h;obtain⟨r',mid,w,n,f⟩:=sG j k;refine⟨_,.cells (gL A) p F false::mid,?_,?_,f⟩;all_goals simp_all[gO,bA.g,jF,bW.bZ,fS]
  |oU v u p t=>
   simp only[nY] at h;split at h;·exact h.elim
   ·obtain⟨O,z,k⟩:=vA j h;split at k
    ·rename_i m M;obtain⟨L,_⟩:=CV M;obtain⟨r',mid,w,n,f⟩:=sG j k;refine⟨_,(bA.row v (u++m) p false).g::mid,?_,?_,f⟩
     ·simp only[gO,φ,bA.g] at w z ⊢;have G:∀(a b c:List AV),hJ (γd bA.g o) (pid id) a=some a->hJ (γd bA.g o) (pid id) b=some c->hJ (γd bA.g o) (pid id) (a++b)=some (a++c):=λa b c w n=>by
       induction a<;>grind[hJ]
      have P:hJ (γd bA.g o) (pid id) (cM v u)=some (cM v u):=CZ (λa C=>nk C);simp_all[jF,bW.bZ,OM]
     ·simp only[bA.g,fS,n];rfl
    simp_all;|row v u p d=>
   simp only[nY] at h;have y:(bA.row v u p d).g.bZ (gO o) (pid id)=some (bA.row v u p d).g:=by
    cases d with
    |true=>simp only[bA.g,bW.bZ,if_true];|false=>
     simp only[bA.g,bW.bZ,Γ,if_false];grind[CZ,nk]
   split at h
   ·rename_i B;cases d with
    |false=>simp_all;|true=>
     simp only[if_true] at h;obtain⟨r',mid,w,n,f⟩:=sG j h;refine⟨_,(bA.row v u p true).g::mid,?_,?_,f⟩;all_goals simp_all[gO,jF,bA.g,fS,pid]
   ·rename_i B;obtain⟨r',mid,w,n,f⟩:=sG j h;refine⟨_,(bA.row v u p d).g::mid,?_,?_,f⟩;·grind[gO,jF]
    ·cases d<;>simp only[bA.g,fS,n,pid,beq_iff_eq,if_neg B]<;>rfl;|map H D I E J d=>
   simp only[nY] at h;have y:(bA.map H D I E J d).g.bZ (gO o) (pid id)=some (bA.map H D I E J d).g:=by
    cases d with
    |true=>simp only[bA.g,bW.bZ,if_true];|false=>
     simp only[bA.g,bW.bZ,Γ,if_false];rw[HB (λa C=>by obtain⟨q,_,rfl⟩:=γf.1 C;exact⟨_,rfl⟩),γm]
   obtain⟨r',mid,w,n,f⟩:=sG j h;grind[gO,jF,bA.g,fS]
end
theorem Zk {v:SV}:(∃id,tX.xw v=some id/\∃a b c,v.g= .os id a b c)\/(tX.xw v=none/\∀id a b c,v.g≠ .os id a b c):=by
 cases v<;>simp[tX.xw,γA]
theorem PK {p:ja} {lo:Nat} {h:kL} {st:cG} {K:cG->Prop} {v:SV} (t:h.own=false) (f:Bz h st.g=some v.g)
  (d:match tX.xw v with
   |some id=>if Nat.ble lo id then(match st.o[id]? with
    |some (.row s l e pu)=>zB id s l st.env λenv=>nY id s l 0 (if pu then st.o else st.o.set id (.row s l e true)) λo=>K ⟨env,o⟩
    |_=>False) else K st
   |none=>K st):∃st',km lo h st.g=st'.g/\K st':=by
 let _:=p;unfold km;rw[if_neg (by simp[t]),f];rcases @Zk v with⟨id,w,a,b,c,x⟩|⟨w,x⟩
 ·rw[w] at d;rw[x];simp only at d ⊢;split at d
  ·rename_i q;rw[if_pos q];split at d
   ·rename_i s l e pu m;have D:(λi=>i==id)=pid id:=rfl;cases pu with
    |true=>
     simp only[if_true] at d;obtain⟨j,A,n⟩:=HA m d;obtain⟨B,u,C,y,r⟩:=sG m n;refine⟨_,?_,r⟩;simp_all[za,cG.g,fU,bA.g,BE];|false=>
     simp only[Γ,if_false] at d;have z:id<st.o.length:=(ι.1 m).1;have k:(st.o.set id (.row s l e true))[id]?=some (.row s l e true):=by simp_all
     obtain⟨j,A,n⟩:=HA (o:=st.o.set id (.row s l e true)) k d;obtain⟨B,u,C,y,r⟩:=sG k n;refine⟨_,?_,r⟩;simp_all[za,cG.g,fU,bA.g,oV,qy,BE]
   simp_all
  grind
 grind
section
variable {p:ja} {lo:Nat}
theorem Zl {h:kL} {st:cG} {K:cG->Prop} (a:tX p lo h st K):∃st',km lo h st.g=st'.g/\K st':=by
 unfold tX at a;split at a
 ·rename_i f;unfold km;rw[if_pos f];unfold BD;split at a
  ·rename_i b;simp only[b];split at a
   ·rename_i r;have t:=CY.1 r;rw[<-oa] at t;have B:dN st.g.env h.slot= .sc (.slice none 0 0):=t;rw[B];split at a
    ·rename_i s J;split at a
     ·rename_i w;refine⟨_,?_,a⟩;simp[cG.g,gE,gO,γA,bA.g,cM,w]
     simp_all
    simp_all
   ·rename_i r;split at a
    ·rename_i z;split at a
     ·rename_i m G D d;have n:dN st.g.env h.slot= .os m 0 G (G*D):=by
       show dN (gE st.env) h.slot=_;rw[oa,d];rfl
      rw[n];split at a
      ·rename_i s l e y;refine⟨_,?_,a⟩;simp_all[BA,cG.g,fU,bA.g,qy]
      simp_all
     simp_all
    ·rename_i z;refine⟨st,?_,a⟩;split
     ·rename_i L;have:dN (gE st.env) h.slot= .sc (.slice none 0 0):=L;grind[oa,CY]
     all_goals simp_all
  ·rename_i k b;simp only[b];split at a
   ·rename_i m c j d;have n:dN st.g.env h.slot= .ptr m c j:=by
     show dN (gE st.env) h.slot=_;rw[oa,d];rfl
    rw[n];split at a
    ·rename_i i e F E y;have u:st.g.o[m]?=some (.cells (gL i) e F E):=fU y;simp only[u];split at a
     ·rename_i r;cases C:i[c+k]? with
      |none=>simp_all;|some v=>
       rw[C] at r;simp only[Option.any_some] at r;have M:=CY.1 r;have A:(gL i)[c+k]?=some (.sc (.slice none 0 0)):=by grind[tY]
       simp only[A,jV];split at a
       ·rename_i I;rw[if_pos I];split at a
        ·rename_i s J;split at a
         ·rename_i w;refine⟨_,?_,a⟩;have N:gL (i.set (c+k) (.ow st.o.length 0 h.sz))=(gL i).set (c+k) (.os st.o.length 0 0 0):=by
           simp_all[gn,γA]
          simp_all[cG.g,bA.g,gO,cM]
         simp_all
        simp_all
       simp_all
     grind[tY,CY]
    simp_all
   simp_all
 ·rename_i f;have f:h.own=false:=by simpa using f
  unfold tX.OU at a;cases b:h.off with
  |none=>
   rw[b] at a;simp only at a;refine PK (p:=p) (v:=jI st.env h.slot) f ?_ ?_;all_goals grind[Bz,cG.g,oa];|some k=>
   rw[b] at a;simp only at a;cases q:jI st.env h.slot with
   |ptr m c j=>
    rw[q] at a;simp only at a;cases y:st.o[m]? with
    |none=>simp_all;|some x=>
     rw[y] at a;cases x with
     |cells i e F E=>
      simp only at a;by_cases H:i.length=j
      ·rw[if_pos H] at a;cases C:i[c+k]? with
       |none=>simp_all;|some v=>
        rw[C] at a;refine PK (p:=p) (v:=v) f ?_ ?_
        ·unfold Bz;rw[b];have:dN st.g.env h.slot= .ptr m c j:=by
          show dN (gE st.env) h.slot=_;rw[oa,q];rfl
         have u:st.g.o[m]?=some (.cells (gL i) e F E):=fU y;simp_all[behind,jV,tY]
        grind
      simp_all;|_=>exact a.elim
   |_=>rw[q] at a;exact a.elim
theorem HC:∀{hs:List kL} {st:cG} {K:cG->Prop},zC p lo hs st K->∃st',hs.foldl (λs h=>km lo h s) st.g=st'.g/\K st'
 |[],st,K,h=>⟨st,rfl,h⟩
 |h::hs,st,K,hk=>by
  simp only[zC] at hk;obtain⟨st1,h1,h2⟩:=Zl hk;obtain⟨st2,h3,h4⟩:=HC h2;exact⟨st2,by rw[List.foldl_cons,h1,h3],h4⟩
theorem Zm (a:List Nat) (env:fH):gE (GZ a env)=prune a (gE env):=by
 simp[GZ,prune,gE,<-oa]
theorem HD (k:Nat) (st:cG):(trimS k st).g=trim k st.g:=by
 unfold trimS trim;have b:st.g.o.length=st.o.length:=by simp[cG.g,ob]
 have c:(st.g.env.all λp=>p.2.cy k)=(st.env.all λp=>p.2.cy k):=by
  simp only[cG.g,gE,ζN];grind[zH]
 have d:((st.g.o.take k).all λx=>x.cy k)=((st.o.take k).all λx=>x.cy k):=by
  simp only[cG.g,gO,<-List.map_take,ζN];grind[CQ]
 rw[b,c,d];by_cases a:st.o.length<=k;·simp_all
 ·rw[if_neg a,if_neg a];split;·simp[cG.g,gO]
  ·rfl
variable {T:Tab}
theorem PL {v:Int} {n:Nat} {K:Nat->Prop}:∀{j:Nat},j<=n->splitN v n K j->(n - j:Nat)<=v->∃i:Nat,v=i/\K i
 |0,_,h,a=>by
  grind[splitN];|j+1,c,h,a=>by
  simp only[splitN] at h;by_cases b:v=(n - (j+1):Nat);·grind
  ·exact PL (by omega) h.2 (by omega)
theorem PN {v:Int} {n:Nat} {K:Nat->Prop}:∀{j:Nat},splitN v n K j->0<=v
 |0,h=>h.1
 |j+1,h=>PN h.2
theorem Zn {x:Option (Nat×Nat×Nat)} {st:cG} {K:cG->Prop} (h:splitK x st K):∃st',st'.g=st.g/\K st':=by
 unfold splitK at h;split at h;·grind
 ·rename_i p a n;split at h
  ·rename_i c e q r b;split at h
   ·rename_i k v o;obtain⟨i,rfl,f⟩:=PL (Nat.le_refl _) h (by have:=PN h;omega);refine⟨_,?_,f⟩;have l:gL (c.set a (.il k i))=gL c:=by
     rw[gn,gn,List.map_set];apply δd;grind[γA]
    simp only[cG.g,qy,bA.g,l,cG.mk.injEq,St.mk.injEq,true_and];apply δd;intro j;rw[List.getElem?_set];split
    ·rename_i d;subst d;have m:=(ι.1 b).1;rw[if_pos (by grind[ob]),Ha,b];rfl
    ·rfl
   simp_all
  simp_all
theorem PO:∀{e a:fH},xx e a->gE e=gE a
 |[],[],_=>rfl
 |[],_::_,h=>by grind[xx];|_::_,[],h=>by grind[xx];|(k,v)::e,(d,c)::a,h=>by
  simp only[xx] at h;split at h
  ·rename_i b;subst b;have:=PO h.2;simp only[gE,φ] at this ⊢;rw[this,show v.g=c.g from h.1]
  simp_all
theorem xE:∀{o o':cu},kq o o'->gO o=gO o'
 |[],[],_=>rfl
 |[],_::_,h=>by grind[kq];|_::_,[],h=>by grind[kq];|x::o,y::o',h=>by
  simp only[kq] at h;have:=xE h.2;simp only[gO,φ] at this ⊢;rw[this,show x.g=y.g from h.1]
theorem C0 {s t:cG} (h:zD s t):s.g=t.g:=by
 simp only[cG.g,PO h.1,xE h.2]
theorem agD (env:fH) (args:List Operand):args.map (eT (gE env))=gL (args.map (jJ env)):=by
 simp_all[gn,zG]
theorem vB (hC:pO T.K p.C) (hI:∀f F,p.it f=some F->T.fn f=some F):∀{c:IR} {Λ:Nat->cC} {st:cG} {Q:Out->cG->Prop},wpS p lo c Λ st Q->VW T zu lo c st.g λout s=>∃ss,s=ss.g/\Q out ss:=by
 intro c;induction c with
 |skip=>intro Λ st Q h;exact VW.skip ⟨st,rfl,h⟩;|exit id=>intro Λ st Q h;exact VW.exit ⟨st,rfl,h⟩;|ret=>intro Λ st Q h;exact VW.ret ⟨st,rfl,h⟩;|goto l=>intro Λ st Q h;exact VW.goto ⟨st,rfl,h⟩;|oM x a b iha ihb=>
  intro Λ st Q h;simp only[wpS] at h;have hx:eT st.g.env x=(jJ st.env x).g:=zG _ _;split at h
  ·rename_i he;rw[he] at hx;exact VW.oM hx (by rw[if_pos rfl];exact iha h)
  ·rename_i he;rw[he] at hx;exact VW.oM hx (by rw[if_neg (by simp)];exact ihb h)
  ·rename_i c he;rw[he] at hx;have hset:∀v:SV,(SV.sb c).g=v.g->(cG.mk (CN st.env x v) st.o).g=st.g:=λv hv=>by
    cases x with
    |tmp t=>
     have:jI st.env t= .sb c:=he;simp only[cG.g,CN];rw[Hy (by rw[this];exact hv)];|_=>rfl
   refine VW.oM hx ?_;cases c with
   |true=>
    have:=iha (h.1 rfl);rw[hset (.bl true) rfl] at this;rw[if_pos rfl];exact this;|false=>
    have:=ihb (h.2 rfl);rw[hset (.bl false) rfl] at this;rw[if_neg (by simp)];exact this
  ·exact h.elim;|turns l b ih=>
  intro Λ st Q h;cases l with
  |none=>
   simp only[wpS] at h;refine VW.YF ((ih h).mono ?_);rintro out s ⟨ss,rfl,h2⟩;cases out with
   |norm=>exact⟨by simp,ss,rfl,h2⟩;|exit id=>exact⟨by simp,ss,rfl,h2⟩;|ret=>exact⟨by simp,ss,rfl,h2⟩;|goto l=>exact h2.elim
  |some l=>
   simp only[wpS] at h;split at h
   ·rename_i X shape next J m inner _;obtain⟨⟨h0,hx⟩,hstep⟩:=h;refine VW.YG (λk s=>∃x,s=(shape x).g/\J x/\m x=k) ?_ (m (next st)) _ ⟨next st,C0 h0,hx,rfl⟩;rintro k s ⟨x,rfl,hj,rfl⟩;refine(ih (hstep x hj)).mono ?_;rintro out s ⟨ss,rfl,h2⟩;cases out with
    |goto l'=>
     obtain⟨rfl,h3,h4,h5⟩:=h2;refine .inl ⟨rfl,_,h5,_,?_,h4,rfl⟩;have h6:=C0 h3;rw[<-h6,HD,show(shape x).o.length=(shape x).g.o.length from by simp[cG.g,ob]];|norm=>exact .inr ⟨by simp,ss,rfl,h2⟩;|exit id=>exact .inr ⟨by simp,ss,rfl,h2⟩;|ret=>exact .inr ⟨by simp,ss,rfl,h2⟩
   ·exact h.elim
 |region id draw k ops kM live pre post=>
  intro Λ st Q h;simp only[wpS] at h;obtain⟨st0,h0,h⟩:=Zn h;obtain⟨st1,h1,h2⟩:=HC h;obtain⟨st2,h3,h4⟩:=Zj hC h2;obtain⟨G2,h5,h6⟩:=HC h4;refine VW.region ?_;rw[<-h0,h1,h3];refine⟨G2,?_,h6⟩;rw[<-h5];simp only[cG.g,Zm];|tj g caps d a b _ _=>intro Λ st Q h;exact h.elim;|seq a b iha ihb=>
  intro Λ st Q h;simp only[wpS] at h;refine VW.seq ((iha h).mono ?_);rintro out s ⟨ss,rfl,h2⟩;cases out with
  |norm=>rw[if_pos rfl];exact ihb h2;|exit id=>rw[if_neg (by simp)];exact⟨ss,rfl,h2⟩;|ret=>rw[if_neg (by simp)];exact⟨ss,rfl,h2⟩;|goto l=>rw[if_neg (by simp)];exact⟨ss,rfl,h2⟩
 |cond x a b iha ihb=>
  intro Λ st Q h;simp only[wpS] at h;have hx:eT st.g.env x=(jJ st.env x).g:=zG _ _;have hdr:(cG.mk (xy x st.env) st.o).g=⟨pG x st.g.env,st.g.o⟩:=by
   have:∀(t:Nat) (env:fH),(zE t env).map (λp=>(p.1,p.2.g))=ra t (env.map λp=>(p.1,p.2.g)):=by
    intro t env;induction env with
    |nil=>rfl;|cons p env ih=>
     simp only[zE,ra,φ];cases δw p.1 t with
     |true=>simpa using ih;|false=>simpa using ih
   cases x with
   |tmp t=>simp only[cG.g,gE,xy,pG];rw[this];|_=>rfl
  split at h
  ·rename_i he;rw[he] at hx;exact VW.cond hx (by rw[if_pos rfl,<-hdr];exact iha h)
  ·rename_i he;rw[he] at hx;exact VW.cond hx (by rw[if_neg (by simp),<-hdr];exact ihb h)
  ·rename_i c he;rw[he] at hx;refine VW.cond hx ?_;cases c with
   |true=>rw[if_pos rfl,<-hdr];exact iha (h.1 rfl);|false=>rw[if_neg (by simp),<-hdr];exact ihb (h.2 rfl)
  ·exact h.elim;|block id b ih=>
  intro Λ st Q h;simp only[wpS] at h;exact VW.block ((ih h).mono λout s ⟨ss,e,h2⟩=>⟨ss,e,h2⟩);|loop b ih=>
  intro Λ st Q h;simp only[wpS] at h;split at h
  ·rename_i n Zo;clear Zo;induction n generalizing st with
   |zero=>exact h.elim;|succ n ihn=>
    simp only[G0] at h;refine VW.loop ((ih h).mono ?_);rintro out s ⟨ss,rfl,h2⟩;cases out with
    |norm=>
     rw[if_pos rfl];have:=ihn h2;rwa [HD,show st.o.length=st.g.o.length from by simp[cG.g,ob]] at this;|exit id=>rw[if_neg (by simp)];exact⟨ss,rfl,h2⟩;|ret=>rw[if_neg (by simp)];exact⟨ss,rfl,h2⟩;|goto l=>rw[if_neg (by simp)];exact⟨ss,rfl,h2⟩
  ·exact h.elim
  ·rename_i X shape next J m inner _;obtain⟨⟨h0,hx⟩,hstep⟩:=h;refine VW.YE (λk s=>∃x,s=(shape x).g/\J x/\m x=k) ?_ (m (next st)) _ ⟨next st,C0 h0,hx,rfl⟩;rintro k s ⟨x,rfl,hj,rfl⟩;refine(ih (hstep x hj)).mono ?_;rintro out s ⟨ss,rfl,h2⟩;cases out with
   |norm=>
    rw[if_pos rfl];obtain⟨h3,h4,h5⟩:=h2;refine⟨_,h5,_,?_,h4,rfl⟩;have h6:=C0 h3;rw[<-h6,HD,show(shape x).o.length=(shape x).g.o.length from by simp[cG.g,ob]];|exit id=>rw[if_neg (by simp)];exact⟨ss,rfl,h2⟩;|ret=>rw[if_neg (by simp)];exact⟨ss,rfl,h2⟩;|goto l=>rw[if_neg (by simp)];exact⟨ss,rfl,h2⟩
theorem PQ {st:cG}:∀{a:List nf} {K:List SV->Prop},nZ.goK st a K->∃l,a.mapM (q0 st.g)=some (gL l)/\K l
 |[],K,h=>⟨[],by simp[gL],h⟩
 |r::a,K,h=>by
  simp only[nZ.goK] at h;have b:∃v,q0 st.g r=some v.g/\nZ.goK st a λl=>K (v::l):=by
   unfold nZ.OV at h;unfold q0;split at h
   ·rename_i c;rw[c];exact⟨_,by grind[cG.g,oa],h⟩
   grind[O4,cG.g,oa]
  obtain⟨v,i,d⟩:=b;obtain⟨l,f,e⟩:=PQ d;exact⟨v::l,by simp_all[gL],e⟩
theorem xF {st:cG} {b:List nf} {K:SV->Prop} (h:nZ st b K):∃r,nQ st.g b=some r.g/\K r:=by
 unfold nZ at h;obtain⟨l,c,a⟩:=PQ h;unfold nQ;rw[c];match l,a with
 |[],a=>exact⟨_,rfl,a⟩;|[v],a=>exact⟨v,rfl,a⟩;|v::w::l,a=>exact⟨_,rfl,a⟩
theorem vC:∀(i:Nat) (args:List SV),gE (nn i args)=iz i (gL args)
 |_,[]=>rfl
 |i,v::a=>by
  have:=vC (i+1) a;grind[gE,nn,gL,iz]
theorem C2 {Λ:Nat->cC} {P:Program} (hT:kP P T) (hC:pO T.K p.C) (hI:∀f F,p.it f=some F->T.fn f=some F) {f:FuncId} {F:fE} (hF:T.fn f=some F) {args:List SV} {r:AV} (hK:T.K f (gL args) [] false=none) (hlen:args.length=F.params)
  {Q:SV->Prop} (hQ:∀v,Q v->v.g=r) (h:sE p Λ F args Q):hZ P f=true/\lD P f (gL args) [] r []:=by
 unfold sE at h;have hw:=vB hC hI h;have hst:(cG.mk (nn 0 args) []).g=⟨iz 0 (gL args),[]⟩:=by simp[cG.g,vC,gO]
 rw[hst] at hw;obtain⟨h1,h2,_⟩:=Ci hT hF (o:=[]) (own:=false) hK (by rw[jV];exact hlen) (v:=r) (o':=[]) (hw.mono λout s hs=>by
  obtain⟨ss,rfl,hq⟩:=hs;cases out with
  |exit id=>exact hq.elim;|goto l=>exact hq.elim;|norm=>
   obtain⟨r0,h1,h2⟩:=xF hq;obtain⟨v,h3,h4⟩:=Hf h2;refine⟨.inl rfl,?_⟩;rw[h1];show finish false 0 r0.g ss.g.o=_;have:freeze ss.g.o 6 r0.g=some v.g:=h3;simp[finish,this,hQ _ h4];|ret=>
   obtain⟨r0,h1,h2⟩:=xF hq;obtain⟨v,h3,h4⟩:=Hf h2;refine⟨.inr rfl,?_⟩;rw[h1];show finish false 0 r0.g ss.g.o=_;have:freeze ss.g.o 6 r0.g=some v.g:=h3;simp[finish,this,hQ _ h4]);exact⟨h1,h2⟩
end
structure qA (α:Type) where
 put:α->SV
 dec:SV->Option α
 ok:∀v a,dec v=some a->v.g=(put a).g
 inj:∀a b,(put a).g=(put b).g->a=b
structure qB (α:Type) where
 put:α->List SV
 dec:List SV->Option α
 ok:∀v a,dec v=some a->gL v=gL (put a)
 inj:∀a b,gL (put a)=gL (put b)->a=b
def qB.one {d:Type} (c:qA d):qB d where
 put a:=[c.put a];dec
  |[v]=>c.dec v
  |_=>none;ok v a h:=by
  match v,h with
  |[v],h=>simp only[gL,c.ok v a h]
 inj a b h:=by
  simp only[gL,Ξ,and_true] at h;exact c.inj a b h
def qB.cons {f g:Type} (c:qA f) (d:qB g):qB (f×g) where
 put a:=c.put a.1::d.put a.2;dec
  |v::e=>match c.dec v,d.dec e with
   |some a,some b=>some (a,b)
   |_,_=>none
  |[]=>none;ok v a h:=by
  match v,h with
  |v::e,h=>
   simp only at h;split at h
   ·rename_i x y j i;simp only[γ] at h;subst h;simp only[gL,c.ok v x j,d.ok e y i]
   ·cases h
 inj a b h:=by
  simp only[gL,Ξ] at h;exact Prod.ext (c.inj _ _ h.1) (d.inj _ _ h.2)
def qB.nil:qB Unit where
 put _:=[];dec
  |[]=>some ()
  |_=>none;ok v a h:=by
  grind
 inj a b h:=rfl
structure bL where
 f:FuncId
 α:Type
 A:qB α
 dom:α->Prop
 res:α->SV
def Holds (P:Program) (c:bL):Prop:=∀a,c.dom a->hZ P c.f=true/\lD P c.f (gL (c.A.put a)) [] (c.res a).G []
def oY (f:FuncId):List bL->Option bL
 |[]=>none
 |c::r=>bif δw c.f f then some c else oY f r
def vD (L:List bL) (f:FuncId) (args:List SV) (K:SV->Prop):Prop:=
 match oY f L with
 |some c=>jb (c.A.dec args) λa=>c.dom a/\CL (c.res a) K
 |none=>False
structure mO where
 K:FuncId->List AV->Store->Option (AV×Store)
 C:FuncId->List SV->cu->(SV->cu->Prop)->Prop
def mO.none:mO:=⟨λ_ _ _=> .none,λ_ _ _ _=>False⟩
noncomputable def sH (L:List bL) (W:mO):dm:=λf args o own=>
 if own then W.K f args o
 else match o with
  |[]=>match oY f L with
   |some c=>(ans (λa=>gL (c.A.put a)) c.dom (λa=>(c.res a).G) args).map λv=>(v,[])
   |none=> .none
  |_=> .none
noncomputable def qC (a:FuncId->Option fE) (L:List bL) (W:mO):Tab:=⟨a,sH L W⟩
structure pP (P:Program) (W:mO):Prop where
 K:∀f args o r o',W.K f args o=some (r,o')->hZ P f=true/\lD P f args o r o'
 C:∀(call:dm),(∀f args o,call f args o true=W.K f args o)->∀f args o K,W.C f args o K->∃(r:SV) (o':cu),iO call f (gL args) (gO o)=some (r.g,gO o')/\K r o'
theorem pP.none (P:Program):pP P mO.none where
 K:=λ_ _ _ _ _ h=>by cases h
 C:=λ_ _ _ _ _ _ h=>h.elim
theorem PR:∀{L:List bL} {f:FuncId} {c:bL},oY f L=some c->c.f=f/\c∈L
 |[],_,_,h=>by cases h;|d::L,f,c,h=>by
  simp only[oY] at h;cases a:δw d.f f with
  |true=>
   simp_all;|false=>
   rw[a] at h;simp only[cond_false] at h;obtain⟨b,e⟩:=PR h;simp_all
theorem HE:∀{v:SV} {K:SV->Prop},CL v K->∃w:SV,w.g=v.G/\K w
 | .ite c a b,K,h=>by
  cases c with
  |true=>exact HE (v:=a) (h.1 rfl);|false=>exact HE (v:=b) (h.2 rfl)
 | .ud,_,h| .sc _,_,h| .il _ _,_,h| .si _ _,_,h| .bl _,_,h| .sb _,_,h| .agg _,_,h| .bN _,_,h| .row _ _,_,h| .ep _ _ _ _,_,h| .ptr _ _ _,_,h| .ap _ _ _ _ _ _,_,h| .rp _ _ _ _ _,_,h| .ow _ _ _,_,h| .os _ _ _ _ _,_,h| .oc _ _ _ _ _,_,h| .mp _,_,h| .fn _ _ _,_,h| .ia _ _,_,h=>⟨_,rfl,h⟩
theorem xG:∀{w v:SV},v.rm w->v.g=w.G
 | .ite c a b,v,h=>by
  cases c with
  |true=>exact xG (w:=a) (h.1 rfl);|false=>exact xG (w:=b) (h.2 rfl)
 | .ud,_,h| .sc _,_,h| .il _ _,_,h| .si _ _,_,h| .bl _,_,h| .sb _,_,h| .agg _,_,h| .bN _,_,h| .row _ _,_,h| .ep _ _ _ _,_,h| .ptr _ _ _,_,h| .ap _ _ _ _ _ _,_,h| .rp _ _ _ _ _,_,h| .ow _ _ _,_,h| .os _ _ _ _ _,_,h| .oc _ _ _ _ _,_,h| .mp _,_,h| .fn _ _ _,_,h| .ia _ _,_,h=>h
variable {P:Program} {L:List bL} {W:mO} {fn:FuncId->Option fE}
theorem t6 (j:pP P W) (k:∀c∈L,Holds P c) (n:kP P ⟨fn,λ_ _ _ _=>none⟩):kP P (qC fn L W) where
 fn:=n.fn;K:=λg e o b r q h=>by
  simp only[qC,sH] at h;cases b with
  |true=>
   simp only[if_true] at h;obtain⟨p,d⟩:=j.K _ _ _ _ _ h;simp_all;|false=>
   simp only[Γ,if_false] at h;split at h
   ·split at h
    ·rename_i c l;obtain⟨rfl,f⟩:=PR l;obtain⟨v,m,d⟩:=ε.1 h;simp only[Prod.mk.injEq] at d;obtain⟨rfl,rfl⟩:=d;obtain⟨a,rfl,i,rfl⟩:=YI m;obtain⟨t,s⟩:=k c f a i;simp_all
    ·cases h
   ·cases h
theorem t7 (hW:pP P W):pO (qC fn L W).K ⟨vD L,W.C⟩ where
 pure:=λf args K h=>by
  simp only[vD] at h;split at h
  ·rename_i c hc;obtain⟨a,h1,h2,h3⟩:=jq h;obtain⟨r,h4,h5⟩:=HE h3;refine⟨r,?_,h5⟩;have:=c.A.ok _ _ h1;simp only[qC,sH,Γ,if_false,hc,this];rw[YH (enc:=λa=>gL (c.A.put a)) c.A.inj h2,h4];rfl
  ·exact h.elim
 own:=λf args o K h=>hW.C _ (λf args o=>by simp[qC,sH]) f args o K h
theorem C4 {f:FuncId} {args:List AV} (h:oY f L=none):(qC fn L W).K f args [] false=none:=by
 simp[qC,sH,h]
def nu (L:List bL) (W:mO) (a:TypeId->Option bw) (c:List Nat×Bool->Option (bw×bw)) (b:FuncId->Option fE):ja:=⟨⟨vD L,W.C⟩,a,c,λ_=>none,b,λ_=>false⟩
theorem holds_of (c:bL) {F:fE} {ty:TypeId->Option bw} {mt:List Nat×Bool->Option (bw×bw)} {Λ:c.α->Nat->cC} (h0:kP P ⟨fn,λ_ _ _ _=>none⟩) (hW:pP P W) (hL:∀c∈L,Holds P c)
  (hF:fn c.f=some F) (hfr:oY c.f L=none) (hlen:∀a,(c.A.put a).length=F.params)
  (h:∀a,c.dom a->sE (nu L W ty mt fn) (Λ a) F (c.A.put a) λv=>v.rm (c.res a)):Holds P c:=by
 intro a hd;exact C2 (p:=nu L W ty mt fn) (Λ:=Λ a) (t6 hW hL h0) (t7 hW) (λ_ _ h=>h) hF (C4 hfr) (hlen a) (λ_ h=>xG h) (h a hd)
def HF (L:List bL) (W:mO) (a:TypeId->Option bw) (c:List Nat×Bool->Option (bw×bw)) (b:FuncId->Option fE) (d:FuncId->Bool):ja:=⟨⟨vD L,W.C⟩,a,c,λ_=>none,b,d⟩
theorem Zp (c:bL) {F:fE} {ty:TypeId->Option bw} {mt:List Nat×Bool->Option (bw×bw)} {ro:FuncId->Bool} {Λ:c.α->Nat->cC} (h0:kP P ⟨fn,λ_ _ _ _=>none⟩) (hW:pP P W) (hL:∀c∈L,Holds P c)
  (hF:fn c.f=some F) (hfr:oY c.f L=none) (hlen:∀a,(c.A.put a).length=F.params)
  (h:∀a,c.dom a->sE (HF L W ty mt fn ro) (Λ a) F (c.A.put a) λv=>v.rm (c.res a)):Holds P c:=by
 intro a hd;exact C2 (p:=HF L W ty mt fn ro) (Λ:=Λ a) (t6 hW hL h0) (t7 hW) (λ_ _ h=>h) hF (C4 hfr) (hlen a) (λ_ h=>xG h) (h a hd)
def ef (k:IntKind):qA Int where
 put n:=.si k n;dec v:=v.int k;ok v a h:=by rw[iP h];rfl
 inj a b h:=by grind[γA]
def HG:qA Bool where
 put b:=.sb b;dec v:=v.boo;ok v a h:=by rw[xn h];rfl
 inj a b h:=by grind[γA]
theorem sJ:(s:bw)->(x y:s.T)->dI s x=dI s y->(e:s.flat=true:=by rfl)->x=y
 | .i k,x,y,h,_=>by grind[dI];| .b,x,y,h,_=>by grind[dI];| .eL,⟨o,B,r,f,j,q⟩,⟨p,l,g,u,A,z⟩,h,_=>by
  simp_all[dI,iv];| .off,⟨b,⟨o,B,r,f,j,q⟩,v⟩,⟨c,⟨p,l,g,u,A,z⟩,w⟩,h,_=>by
  simp_all[dI,iv];| .need,⟨a,b⟩,⟨c,d⟩,h,_=>by
  simp_all[dI,iv];| .key,⟨b,⟨o,B,r,f,j,q⟩⟩,⟨c,⟨p,l,g,u,A,z⟩⟩,h,_=>by
  simp_all[dI,iv];| .sit,⟨m,⟨o,B,r,f,j,q⟩,⟨K,F,G,N,L,P⟩⟩,⟨n,⟨p,l,g,u,A,z⟩,⟨O,J,M,I,H,E⟩⟩,h,_=>by
  simp_all[dI,iv];| .bP _,_,_,_,e=>by grind[bw.flat];| .pair s t,(a,b),(c,d),h,e=>by
  simp only[bw.flat,θ] at e;simp only[dI] at h;obtain⟨D,C⟩:=εE h (by grind[GL]);rw[sJ s a c D e.1,sJ t b d C e.2]
theorem HH {d i:Type} {n:Nat} {f:d->List i} (a:∀x,(f x).length=n) (c:∀x y,f x=f y->x=y):∀{l m:List d},l.length=m.length->l.flatMap f=m.flatMap f->l=m
 |[],[],_,_=>rfl
 |[],_::_,h,_=>by simp at h;|_::_,[],h,_=>by simp at h;|x::l,y::m,b,h=>by
  simp only[δ2] at h;obtain⟨e,g⟩:=εE h (by rw[a,a]);simp only[γy,ζd] at b;rw[c x y e,HH a c b g]
theorem xH:(s:bw)->(x y:s.T)->(h:dC s x=dC s y)->x=y
 | .bP s,x,y,h=>by
  simp only[dC,Ξ,AV.sl.injEq,and_true] at h;exact HH (me s) (xH s) h.1 h.2;| .pair s t,(a,b),(c,d),h=>by
  simp only[dC] at h;obtain⟨e,f⟩:=εE h (by grind[me]);rw[xH s a c e,xH t b d f];| .i k,x,y,h=>sJ (.i k) x y (tZ h)
 | .b,x,y,h=>sJ .b x y (tZ h)
 | .eL,x,y,h=>sJ .eL x y (tZ h)
 | .off,x,y,h=>sJ .off x y (tZ h)
 | .need,x,y,h=>sJ .need x y (tZ h)
 | .key,x,y,h=>sJ .key x y (tZ h)
 | .sit,x,y,h=>sJ .sit x y (tZ h)
theorem lG (s:bw) {l m:List s.T} (a:l.length=m.length) (h:cM s l=cM s m):l=m:=
 HH (me s) (xH s) a h
def dZ (s:bw):qA s.T where
 put x:=.agg (encS s x);dec
  | .agg c=>jU s c
  |_=>none;ok v a h:=by
  grind[γA,gn,nU,tO]
 inj a b h:=by
  grind[γA,gn,tO,xH]
theorem oZ {s:bw} {v:SV} {l:List s.T} (h:jH s v=some l):v.g=(SV.row s l).g:=by
 cases v<;>simp only[jH,reduceCtorEq] at h;grind[zM,γA,cM]
def cV (s:bw):qA (List s.T) where
 put l:=.row s l;dec:=jH s;ok v a h:=oZ h;inj a b h:=by
  grind[γA,lG]
end Go.Vi
