import Derived.Test.YtbnhiekmnpikhaaGreatDE04
set_option maxRecDepth 100000
set_option maxHeartbeats 4000000
set_option linter.all false
open And renaming intro->γm
open BitVec renaming ofInt->γt
open Bool renaming and_eq_true->θ,and_true->δV,false_eq_true->τ,or_eq_true->δz,true_eq_false->ζY
open Function renaming comp_def->δi
open Go.Vi.AV renaming sc->δg,bI->δy
open Go.Vi.AV.sc renaming injEq->δe
open Go.Vi.SV renaming g->γF
open List renaming replicate->δ,map_map->γP,mem_map->Γ,length_cons->γK,length->γd,drop_drop->δl,getElem?_eq_getElem->μ,take->Δ,take_of_length_le->γu,map_cons->ξ,take_append_drop->γT,cons_append->γM,modify_succ_cons->ζN,getElem?_eq_some_iff->ζ,map_append->γb,flatMap_nil->ζI,nil_append->δP,drop_zero->εq,map_nil->γw,take_succ_cons->δw,range->ω,range'->ζC,range'_succ->εv,range_eq_range'->δH,flatMap_cons->δ0,all_map->ζ7,map->γc,ext_getElem?->δa,append_inj->εF
open List.cons renaming injEq->Θ
open Nat renaming beq->δu,add_assoc->ε0,mul_le_mul_right->γQ,add_mul->δX,add_right_cancel_iff->ζu
open Option renaming map_eq_some_iff->ε,map_some->ν,isSome_some->ζZ,isSome_none->ζg
open Option.some renaming injEq->γ
namespace Go.Vi
abbrev eC:=List (Nat×SV)
abbrev TP:=List iZ
structure bE where
 env:eC
 o:TP
def jk:eC->Nat->SV
 |[],_=> .ud
 |p::r,s=>bif δu p.1 s then p.2 else jk r s
def ti (env:eC) (a:Option Nat) (v:SV):eC:=
 match a with
 |none=>env
 |some d=>(d,v)::env
def SV.nn:Value->SV
 | .int k n=> .il k n
 | .bool b=> .bl b
 |v=> .sc v
def SV.ta:Value->SV
 | .agg a=>if a.toList.all (·.oneCell') then .agg (a.toList.map .nn) else .ud
 | .tuple _=> .ud
 | .int k n=> .il k n
 | .bool b=> .bl b
 |v=> .sc v
def iJ (env:eC):Operand->SV
 | .tmp t=>jk env t
 | .const v=> .ta v
 | .global _=> .ud
 | .func f=> .fn (.func f) [] []
def SV.cellsOf:SV->List SV
 | .agg a=>a
 |v=>[v]
def SV.one:SV->Bool
 | .agg _| .Gz _| .ud| .ite _ _ _=>false
 | .sc v=>v.oneCell'
 |_=>true
def vn (l:List SV):Bool:=l.all (·.one)
mutual
def SV.pure:SV->Bool
 | .sc _| .il .. | .si .. | .bl _| .sb _| .row .. =>true
 |_=>false
def xH:List SV->Bool
 |[]=>true
 |c::a=>c.pure&&xH a
end
mutual
def SV.VI (k:Nat):SV->Bool
 | .ud| .sc _| .il .. | .si .. | .bl _| .sb _| .row .. | .ep .. =>true
 | .agg e| .Gz e=>qC k e
 | .ptr d .. | .ap d .. | .rp d .. | .ow d .. | .os d .. | .oc d .. | .mp d=>decide (d<k)
 | .fn _ a b=>qC k a&&qC k b
 | .ia _ _| .ite _ _ _=>true
def qC (k:Nat):List SV->Bool
 |[]=>true
 |c::e=>c.VI k&&qC k e
end
def iZ.VI (k:Nat):iZ->Bool
 | .cells b _ _ a=>a||qC k b
 | .aol _ _ _ t=>qC k t
 |_=>true
mutual
def SV.kf:SV->Bool
 | .ud| .sc _| .il .. | .si .. | .bl _| .sb _=>true
 | .agg a| .Gz a=>As a
 |_=>false
def As:List SV->Bool
 |[]=>true
 |c::a=>c.kf&&As a
end
def VL (k:IntKind) (n:Int):Prop:=
 match k with
 | .i64=> -9223372036854775808<=n/\n<=9223372036854775807
 |k=>k.wrap n=n
def th (k:IntKind) (n:Int) (K:Int->Prop):Prop:=
 match k with
 | .u32=>K (n % 4294967296)
 | .u64=>K (n % 18446744073709551616)
 |k=>VL k n/\K n
structure O0 where
 pure:FuncId->List SV->(SV->Prop)->Prop
 own:FuncId->List SV->TP->(SV->TP->Prop)->Prop
structure ig where
 C:O0
 ty:TypeId->Option ew
 mt:List Nat×Bool->Option (ew×ew)
 sp:Nat->Option (Nat×Nat×Nat):=λ_=>none
 it:FuncId->Option el:=λ_=>none
 ro:FuncId->Bool:=λ_=>false
def qB (cs:List SV) (a:Nat):Option Nat->Option SV
 |none=>cs[a]?
 |some n=>if a+n<=cs.length then some (.agg ((cs.drop a).take n)) else none
def rV (cs:List SV) (a:Nat):List SV->List SV
 |[]=>cs
 |v::b=>rV (cs.set a v) (a+1) b
def ic {b:Type} (x:Option b) (K:b->Prop):Prop:=match x with|some a=>K a|none=>False
def tg {b:Type} (f:SV->(b->Prop)->Prop):List SV->(List b->Prop)->Prop
 |[],K=>K []
 |v::c,K=>f v λa=>tg f c λd=>K (a::d)
def pZ (o:TP):Nat->SV->(SV->Prop)->Prop
 |_,.ud,K=>K .ud
 |_,.sc v,K=>match v with
  | .slice none 0 0=>K (.row (.i .i64) [])
  |v=>K (.sc v)
 |_,.il k n,K=>K (.il k n)
 |_,.si k n,K=>K (.si k n)
 |_,.bl b,K=>K (.bl b)
 |_,.sb b,K=>K (.sb b)
 |_,.row s l,K=>K (.row s l)
 |_,.ia t cs,K=>K (.ia t cs)
 |d+1,.agg cs,K=>tg (pZ o d) cs λcs'=>K (.agg cs')
 |d+1,.Gz cs,K=>tg (pZ o d) cs λcs'=>K (.Gz cs')
 |d+1,.fn f a b,K=>tg (pZ o d) a λa'=>tg (pZ o d) b λb'=>K (.fn f a' b')
 |_+1,.ow id n sz,K=>match o[id]? with
  |some (.row s l _ _)=>if sz=s.sz then n=l.length/\K (.row s l) else False
  |_=>False
 |_+1,.os id bu len n sz,K=>match o[id]? with
  |some (.row s l _ _)=>if sz=s.sz then n=l.length/\bu+len<=n/\K (.row s ((l.drop bu).take len)) else False
  |_=>False
 |_,_,_=>False
def ll (o:TP) (a:SV) (n:Option Nat) (K:SV->Prop):Prop:=
 match a with
 | .ptr h b d=>match o[h]? with
  |some (.cells c _ _ _)=>if c.length=d then ic (qB c b n) K else False
  |_=>False
 | .ap h e g f d i=>match o[h]? with
  |some (.cells c _ _ _)=>if c.length=d/\e+g*f<=d then i<f/\awd ((c.drop e).take (g*f)) g i n K else False
  |_=>False
 | .ep s l i b=>i<l.length/\ic (qB (cR s (bN l i s.bw)) b n) K
 | .rp h i b m g=>match o[h]? with
  |some (.row s l _ _)=>if g=s.sz then m=l.length/\i<l.length/\ic (qB (cR s (bN l i s.bw)) b n) K else False
  |_=>False
 |_=>False
where
 awd (c:List SV) (g i:Nat) (n:Option Nat) (K:SV->Prop):Prop:=
  match n,g with
  |none,1=>match ints c with
   |some l=>K (.si .i64 (bN l i 0))
   |none=>match rowsOff c with
    |some l=>K (.row .bu (bN l i []))
    |none=>False
  |_,_=>False;rowsOff:List SV->Option (List (List bC))
  |[]=>some []
  | .row .bu l::c=>(rowsOff c).map (l::·)
  |_=>none
def qc (qE:Nat) (x:iZ) (o:TP) (K:TP->Prop):Prop:=
 match o[qE]? with
 |some .dead=>K (o.set qE x)
 |_=>False
def qA (a:List (Nat×Nat×SV)) (cs:List SV):Option (List SV):=
 match a with
 |[]=>some cs
 |(b,n,v)::c=>
  if v.cellsOf.length=n/\vn v.cellsOf=true/\b+n<=cs.length then qA c (rV cs b v.cellsOf) else none
def rU (s:ew):Nat->List SV->Option (List s.T)
 |0,[]=>some []
 |n+1,a=>match jl s (a.take s.sz),rU s n (a.drop s.sz) with
  |some x,some l=>some (x::l)
  |_,_=>none
 |_,_=>none
def tf (o:TP) (s:ew) (x:SV) (K:List s.T->Prop):Prop:=
 match x with
 | .row a l=>ic (gF a s l) K
 | .ow d n e=>match o[d]? with
  |some (.row a l _ _)=>if e=a.sz then n=l.length/\ic (gF a s l) K else False
  |_=>False
 | .os d c b n e=>match o[d]? with
  |some (.row a l _ _)=>if e=a.sz then n=l.length/\c+b<=n/\ic (gF a s ((l.drop c).take b)) K else False
  |_=>False
 | .sc (.slice none 0 0)=>K []
 |_=>False
def OZ (o:TP):SV->Option (List SV)
 | .ow j 1 a=>match o[j]? with
  |some (.aol s [] _ t)=>if s.sz=a then some t else none
  |_=>none
 |_=>none
def SV.OY:SV->Bool
 | .ow .. =>true
 |_=>false
def xG:SV->Option Int
 | .si _ n=>some n
 | .il _ n=>some n
 |_=>none
def isNil:SV->Bool
 | .sc (.slice none 0 0)=>true
 |_=>false
def gd (e:BinOp) (x y:SV) (K:SV->Prop):Prop:=
 match x,y with
 | .il k a,.il d b=>match gh e (.int k a) (.int d b) with
  |some (.int k n)=>K (.il k n)
  |some (.bool c)=>K (.bl c)
  |_=>False
 | .si k a,.si d b=>go k a d b
 | .il k a,.si d b=>go k a d b
 | .si k a,.il d b=>go k a d b
 | .sc (.string a),.sc (.string b)=>match e with
  | .eql=>K (.sb (a.toList==b.toList))
  | .neq=>K (.sb (!(a.toList==b.toList)))
  |_=>False
 |_,_=>False
where
 go (k:IntKind) (a:Int) (d:IntKind) (b:Int):Prop:=
  match e with
  | .shl=>0<=b/\b<=k.bits/\th k (a*2^b.toNat) λn=>K (.si k n)
  | .shr=>0<=b/\b<=k.bits/\K (.si k (a / 2^b.toNat))
  | .add=>if k=d then th k (a+b) λn=>K (.si k n) else False
  | .sub=>if k=d then th k (a - b) λn=>K (.si k n) else False
  | .mul=>if k=d then th k (a*b) λn=>K (.si k n) else False
  | .quo=>if k=d then b≠0/\VL k (a.tdiv b)/\K (.si k (a.tdiv b)) else False
  | .rem=>if k=d then b≠0/\K (.si k (a.tmod b)) else False
  | .and=>if k=d then K (.si k (asV k a b)) else False
  | .or=>if k=d then K (.si k (orI k a b)) else False
  | .xor=>if k=d then K (.si k (aBx k a b)) else False
  | .andNot=>if k=d then K (.si k (ays k a b)) else False
  | .eql=>if k=d then K (.sb (decide (a=b))) else False
  | .neq=>if k=d then K (.sb (decide (a≠b))) else False
  | .lss=>if k=d then K (.sb (decide (a<b))) else False
  | .leq=>if k=d then K (.sb (decide (a<=b))) else False
  | .gtr=>if k=d then K (.sb (decide (b<a))) else False
  | .geq=>if k=d then K (.sb (decide (b<=a))) else False;asV (k:IntKind) (a b:Int):Int:=ed k (γt k.bits a &&&γt k.bits b).toNat;orI (k:IntKind) (a b:Int):Int:=ed k (γt k.bits a |||γt k.bits b).toNat;aBx (k:IntKind) (a b:Int):Int:=ed k (γt k.bits a ^^^γt k.bits b).toNat;ays (k:IntKind) (a b:Int):Int:=ed k (γt k.bits a &&&~~~(γt k.bits b)).toNat
def Ga:SV->SV->Option Bool
 | .si k a,y=>(y.int k).map λb=>decide (a=b)
 | .il k a,y=>(y.int k).map λb=>decide (a=b)
 | .sb a,y=>y.pj.map λb=>a==b
 | .bl a,y=>y.pj.map λb=>a==b
 |_,_=>none
def rT:List SV->List SV->Option Bool
 |[],[]=>some true
 |x::d,y::c=>match Ga x y,rT d c with
  |some a,some b=>some (a&&b)
  |_,_=>none
 |_,_=>none
def kx:List Nat->List SV->Bool
 |[],[]=>true
 |0::a,.si _ _::b=>kx a b
 |0::a,.il _ _::b=>kx a b
 |1::a,.sb _::b=>kx a b
 |1::a,.bl _::b=>kx a b
 |_,_=>false
def mG (a sv:ew) (x:a.T) (es:List (a.T×sv.T)):Option sv.T:=(es.find? λp=>decide (p.1=x)).map (·.2)
def qz (a sv:ew) (x:a.T) (v:sv.T):List (a.T×sv.T)->List (a.T×sv.T)
 |[]=>[(x,v)]
 |p::r=>if p.1=x then(x,v)::r else p::qz a sv x v r
def te (a:Bool):SV->Bool
 | .agg _=>a
 |_=>!a
def ew.keyed:ew->Bool
 | .key| .sit| .i _=>true
 |_=>false
def mE (d:Nat):Option SV->(Nat->Prop)->Prop
 |none,K=>K d
 |some (.il _ n),K=>if 0<=n then K n.toNat else False
 |some (.si _ n),K=>0<=n/\K n.toNat
 |_,_=>False
def rR:List Int->Nat->Int->Nat->List Int
 |[],_,_,_=>[]
 |a::l,i,v,j=>(if i=j then v else a)::rR l i v (j+1)
def zd:SV->(SV->Prop)->Prop
 | .ite c a b,K=>(c=true->zd a K)/\(c=false->zd b K)
 |v,K=>K v
def SV.G:SV->AV
 | .ite c a b=>match c with
  |true=>a.G
  |false=>b.G
 |v=>v.g
def dS (p:ig) (op:bR) (ρ:Operand->SV) (o:TP) (qE:Nat) (K:SV->TP->Prop):Prop:=
 match op with
 | .mov x=>K (ρ x) o
 | .pick c a b=>match ρ c with
  | .bl true=>K (ρ a) o
  | .bl false=>K (ρ b) o
  | .sb c=>(c=true->K (ρ a) o)/\(c=false->K (ρ b) o)
  |_=>False
 | .alloc z e pu=>qc qE (.cells (z.map .nn) e z.length pu) o λo'=>K (.ptr qE 0 z.length) o'
 | .box e x=>if vn (ρ x).cellsOf then qc qE (.cells (ρ x).cellsOf e (ρ x).cellsOf.length false) o λo'=>K (.ptr qE 0 (ρ x).cellsOf.length) o' else False
 | .build z parts=>ic (qA (parts.map λq=>(q.1,q.2.1,ρ q.2.2)) (z.map .nn)) λcs=>K (.agg cs) o
 | .aoE z len parts e sz=>match p.ty e,qA (parts.map λq=>(q.1,sz,ρ q.2)) ((δ len (z.map SV.nn)).flatten) with
  |some s,some cs=>if s.sz=sz then(if cs.any SV.OY then(if cs.length=len*sz then qc qE (.aol s [] e cs) o λo'=>K (.ow qE len sz) o' else False) else ic (rU s len (cs.map SV.qn)) λl=>qc qE (.row s l e true) o λo'=>K (.ow qE len sz) o') else False
  |_,_=>False
 | .ard z len parts e sz=>match p.ty e,qA (parts.map λq=>(q.1,sz,ρ q.2)) ((δ len (z.map SV.nn)).flatten) with
  |some s,some cs=>if s.sz=sz then ic (rU s len (cs.map SV.qn)) λl=>K (.row s l) o else False
  |_,_=>False
 | .load n a=>ll o (ρ a) n λv=>K v o
 | .store n a x=>match ρ a with
  | .ptr id bu tot=>match o[id]? with
   |some (.cells cs e sz pu)=>
    if cs.length=tot/\(ρ x).cellsOf.length=n/\vn (ρ x).cellsOf=true/\bu+n<=cs.length/\(pu=false\/xH (ρ x).cellsOf=true) then K .ud (o.set id (.cells (rV cs bu (if pu then(ρ x).cellsOf.map SV.qn else(ρ x).cellsOf)) e sz pu)) else False
   |_=>False
  | .rp id i bu m sz=>match o[id]? with
   |some (.row s l e pu)=>
    if sz=s.sz/\(ρ x).cellsOf.length=n/\bu+n<=s.sz then m=l.length/\i<l.length/\ic (jl s (rV (cR s (bN l i s.bw)) bu (if pu then(ρ x).cellsOf.map SV.qn else(ρ x).cellsOf))) λv=>K .ud (o.set id (.row s (l.set i v) e pu)) else False
   |_=>False
  | .ap id base sz len tot i=>match o[id]? with
   |some (.cells cs e sz' pu)=>match n,sz,(ρ x).int .i64 with
    |1,1,some v=>match ints ((cs.drop base).take len) with
     |some l=>if cs.length=tot/\base+len<=tot then i<len/\K .ud (o.set id (.cells (rV cs base ((rR l i v 0).map (SV.si .i64))) e sz' pu)) else False
     |none=>False
    |_,_,_=>False
   |_=>False
  |_=>False
 | .asq x=>match ρ x with
  | .ptr a b c=>K (.ptr a b c) o
  | .rp a b c d e=>K (.rp a b c d e) o
  | .ep s l i f=>K (.ep s l i f) o
  |_=>False
 | .bin op x y=>gd op (ρ x) (ρ y) λv=>K v o
 | .beq neg x y=>match(ρ x).pj,(ρ y).pj with
  |some a,some b=>K (.sb (if neg then !(a==b) else a==b)) o
  |_,_=>False
 | .eqf neg ks x y=>match ρ x,ρ y with
  | .agg a,.agg b=>if kx ks a&&kx ks b then ic (rT a b) λr=>K (.sb (if neg then !r else r)) o else False
  |_,_=>False
 | .arf neg x y=>match ρ x,ρ y with
  | .ptr _ _ _,.sc (.pointer none)=>K (.bl neg) o
  | .sc (.pointer none),.sc (.pointer none)=>K (.bl !neg) o
  |_,_=>False
 | .un op x=>match op,ρ x with
  | .not,.sb b=>K (.sb !b) o
  | .not,.bl b=>K (.bl !b) o
  | .neg,.si k n=>VL k (-n)/\K (.si k (-n)) o
  | .neg,.il k n=>K (.il k (ed k (0 - n))) o
  |_,_=>False
 | .conv k x=>match ρ x with
  | .il _ n=>K (.il k (ed k n)) o
  | .si .i64 n=>VL k n/\K (.si k n) o
  | .si _ n=>th k n λm=>K (.si k m) o
  |_=>False
 | .asr bu x=>match ρ x with
  | .ptr id b tot=>K (.ptr id (b+bu) tot) o
  | .ep s l i b=>K (.ep s l i (b+bu)) o
  | .rp id i b m sz=>K (.rp id i (b+bu) m sz) o
  |_=>False
 | .field bu n x=>match ρ x with
  | .agg cs=>ic (qB cs bu n) λv=>K v o
  |_=>False
 | .asu len sz x i=>match ρ i with
  | .il _ n=>if 0<=n/\n<len then(match ρ x with
   | .ptr id b tot=>K (.ptr id (b+n.toNat*sz) tot) o
   | .ep s l j b=>K (.ep s l j (b+n.toNat*sz)) o
   | .rp id j b m sz'=>K (.rp id j (b+n.toNat*sz) m sz') o
   |_=>False) else False
  | .si _ n=>match ρ x with
   | .ptr id b tot=>0<=n/\n<len/\K (.ap id b sz len tot n.toNat) o
   |_=>False
  |_=>False
 | .aqx sz x i=>match xG (ρ i) with
  |some n=>match ρ x with
   | .row s l=>if sz=s.sz then 0<=n/\n<l.length/\K (.ep s l n.toNat 0) o else False
   | .ow id m sz'=>match o[id]? with
    |some (.row s l _ _)=>if sz=s.sz/\sz'=s.sz then m=l.length/\0<=n/\n<l.length/\K (.rp id n.toNat 0 m sz) o else False
    |_=>False
   | .os id bu len m sz'=>match o[id]? with
    |some (.row s l _ _)=>if sz=s.sz/\sz'=s.sz then m=l.length/\0<=n/\n<len/\bu+len<=m/\K (.rp id (bu+n.toNat) 0 m sz) o else False
    |_=>False
   | .oc id bu len m sz'=>match o[id]? with
    |some (.row s l _ _)=>if sz=s.sz/\sz'=s.sz then m=l.length/\0<=n/\n<len/\bu+len<=m/\K (.rp id (bu+n.toNat) 0 m sz) o else False
    |_=>False
   |_=>False
  |none=>False
 | .idx len sz n x i=>match ρ i,ρ x with
  | .il _ k,.agg cs=>if 0<=k/\k<len then ic (qB cs (k.toNat*sz) n) λv=>K v o else False
  | .si _ k,.agg cs=>match n,sz,ints cs with
   |none,1,some l=>if l.length=len then 0<=k/\k<len/\K (.si .i64 (bN l k.toNat 0)) o else False
   |_,_,_=>False
  |_,_=>False
 | .ao6 z e sz bytes l c pu=>match xG (ρ l),xG (ρ c),p.ty e with
  |some n,some m,some s=>if s.sz=sz then ic (jl s (if pu then(z.map SV.nn).map SV.qn else z.map .nn)) λx=>0<=n/\n<=m/\m*bytes<=140737488355328/\m<=1000000000000/\
    qc qE (.row s (δ n.toNat x) e pu) o λo'=>K (.ow qE n.toNat sz) o' else False
  |_,_,_=>False
 | .slice sz x lo hi=>match ρ x with
  | .row s l=>if sz=s.sz then mE 0 (lo.map ρ) λa=>mE l.length (hi.map ρ) λb=>a<=b/\b<=l.length/\K (.row s ((l.drop a).take (b - a))) o else False
  | .ow id m sz'=>match o[id]? with
   |some (.row s l _ _)=>if sz=s.sz/\sz'=s.sz then m=l.length/\mE 0 (lo.map ρ) λa=>mE m (hi.map ρ) λb=>a<=b/\b<=m/\K (.os id a (b - a) m sz) o else False
   |_=>False
  | .os id bu len m sz'=>match o[id]? with
   |some (.row s l _ _)=>if sz=s.sz/\sz'=s.sz then m=l.length/\mE 0 (lo.map ρ) λa=>mE len (hi.map ρ) λb=>a<=b/\b<=len/\K (.os id (bu+a) (b - a) m sz) o else False
   |_=>False
  |_=>False
 | .slice3 sz x lo hi mx=>match ρ x with
  | .row s l=>if sz=s.sz then mE 0 (lo.map ρ) λa=>mE l.length (some (ρ hi)) λb=>mE l.length (some (ρ mx)) λm=>a<=b/\b<=m/\m<=l.length/\K (.row s ((l.drop a).take (b - a))) o else False
  | .ow id n sz'=>match o[id]? with
   |some (.row s l _ _)=>if sz=s.sz/\sz'=s.sz then n=l.length/\mE 0 (lo.map ρ) λa=>mE n (some (ρ hi)) λb=>mE n (some (ρ mx)) λm=>a<=b/\b<=m/\m<=n/\K (.oc id a (b - a) n sz) o else False
   |_=>False
  |_=>False
 | .append e sz bytes s x pu=>match p.ty e,OZ o (ρ x) with
  |some t,some tl=>match ρ s,ρ x with
   | .ow id n sz',.ow _ _ sz2=>match o[id]? with
    |some (.row t' l e' pu')=>if e'=e/\t'.sz=sz/\sz'=sz/\sz2=sz/\t.sz=sz/\pu'=false/\tl.length=sz/\vn tl=true then n=l.length/\(l.length+1)*bytes<=140737488355328/\l.length+1<=1000000000000/\
      K (.ow id (l.length+1) sz) (o.set id (.aol t' l e tl)) else False
    |_=>False
   |_,_=>False
  |some t,none=>if t.sz=sz then tf o t (ρ x) λnew=>match ρ s with
    | .sc (.slice none 0 0)=>(new.length=0->K (.sc yt) o)/\(new.length≠0->new.length*bytes<=140737488355328/\new.length<=1000000000000/\qc qE (.row t new e pu) o λo'=>K (.ow qE new.length sz) o')
    | .ow id n sz'=>match o[id]? with
     |some (.row t' l e' pu')=>if e'=e/\t'.sz=sz/\sz'=sz then n=l.length/\(l.length+new.length)*bytes<=140737488355328/\l.length+new.length<=1000000000000/\
       ic (gF t' t l) λl'=>K (.ow id (l'++new).length sz) (o.set id (.row t (l'++new) e pu')) else False
     |_=>False
    | .row t' l=>new.length=0/\K (.row t' l) o
    |_=>False
   else False
  |none,_=>False
 | .len k x=>match k,ρ x with
  |0,.row _ l=>K (.si .i64 l.length) o
  |0,.ow _ n _=>K (.si .i64 n) o
  |0,.os _ _ len _ _=>K (.si .i64 len) o
  |0,.oc _ _ len _ _=>K (.si .i64 len) o
  |0,.sc (.slice none 0 0)=>K (.il .i64 0) o
  |1,.sc (.string s)=>K (.si .i64 s.size) o
  |2,.mp id=>match o[id]? with
   |some (.map _ _ _ es _ _)=>K (.si .i64 es.length) o
   |_=>False
  |_,_=>False
 | .asw n=>K (.il .i64 n) o
 | .mm mx x y=>match ρ x,ρ y with
  | .il k a,.il k' b=>if k=k' then K (.il k (if mx then(if b>a then b else a) else(if b<a then b else a))) o else False
  | .si k a,y=>ic (y.int k) λb=>K (.si k (if mx then max a b else min a b)) o
  | .il k a,y=>ic (y.int k) λb=>K (.si k (if mx then max a b else min a b)) o
  |_,_=>False
 | .call f args own=>awf p f (args.map ρ) o own K
 | .ak4 f args own=>match ρ f with
  | .fn (.func g) first captured=>awf p g (first++args.map ρ++captured) o own K
  |_=>False
 | .extract x i=>match ρ x with
  | .Gz vs=>ic vs[i]? λv=>K v o
  |_=>False
 | .arh f first captured=>K (.fn f (first.map ρ) (captured.map ρ)) o
 | .asx t x=>match ρ x with
  | .agg cs=>if xH cs=true then K (.ia t cs) o else False
  |_=>False
 | .aoe tab x args=>match ρ x with
  | .ia t cs=>match s9 tab t with
   |some f=>awf p f (.agg cs::args.map ρ) o false K
   |none=>False
  |_=>False
 | .ao7 kt pu=>match p.mt kt with
  |some (sk,sv)=>qc qE (.map sk sv kt.2 [] kt pu) o λo'=>K (.mp qE) o'
  |none=>False
 | .lookup z agg ks ka x k ok=>match ρ x with
  | .mp id=>match o[id]? with
   |some (.map sk sv ka' es kt _)=>
    if kt=(ks,ka)/\ka'=ka/\sk.keyed=true/\sv.vo=true/\agg=false/\(ka=false->sk.sz=1)/\kx ks (ρ k).cellsOf=true/\te ka (ρ k)=true then
     ic (jl sk (ρ k).cellsOf) λkv=>ic (jl sv (z.map .nn)) λzv=>
      let r:=(cR sv ((mG sk sv kv es).getD zv)).headD .ud;K (if ok then .Gz [r,.sb (mG sk sv kv es).isSome] else r) o
    else False
   |_=>False
  |_=>False
 | .apP ks ka x k v=>match ρ x with
  | .mp id=>match o[id]? with
   |some (.map sk sv ka' es kt pu)=>
    if kt=(ks,ka)/\ka'=ka/\sk.keyed=true/\sv.vo=true/\(ka=false->sk.sz=1)/\kx ks (ρ k).cellsOf=true/\te ka (ρ k)=true/\te false (ρ v)=true then
     ic (jl sk (ρ k).cellsOf) λkv=>ic (jl sv (ρ v).cellsOf) λvv=>K .ud (o.set id (.map sk sv ka' (qz sk sv kv vv es) kt pu))
    else False
   |_=>False
  |_=>False
 |_=>False
where
 awf (p:ig) (f:FuncId) (args:List SV) (o:TP) (own:Bool) (K:SV->TP->Prop):Prop:=
  if own then p.C.own f args o K
  else tg (pZ o 6) args λargs'=>p.C.pure f args' λr=>if(args.flatMap (λv=>eE (o.map iZ.g) 6 v.g)).isEmpty||r.kf then K r o else False
def vm:eC->Nat->SV->eC
 |[],_,_=>[]
 |p::r,s,v=>bif δu p.1 s then(p.1,v)::r else p::vm r s v
def GV (env:eC) (g:Option (Option Nat×Bool)) (K:eC->Bool->Prop):Prop:=
 match g with
 |none=>K env true
 |some (none,_)=>False
 |some (some s,b)=>match jk env s with
  | .bl c=>K env (c==b)
  | .sb c=>(c=true->K (vm env s (.bl true)) (true==b))/\(c=false->K (vm env s (.bl false)) (false==b))
  | .Gz []=>K env false
  |_=>False
def SV.bi (v w:SV):Prop:=v.g=w.g
def SV.pY (v:SV):SV->Prop
 | .ite c a b=>(c=true->v.pY a)/\(c=false->v.pY b)
 |w=>v.bi w
def iZ.bi (x y:iZ):Prop:=x.g=y.g
def jW:TP->TP->Prop
 |[],[]=>True
 |x::o,y::a=>x.bi y/\jW o a
 |_,_=>False
def IV (p:ig) (a:bR) (o o':TP) (K:Bool->Prop):Prop:=
 match a with
 | .call f _ true=>if p.ro f=true then jW o o'/\K true else K false
 |_=>K false
def vl (p:ig) (base:Nat):List cM->bE->Trace->(bE->Trace->Prop)->Prop
 |[],b,c,K=>K b c
 |i::r,b,c,K=>GV b.env i.guard λa w=>
   if w then dS p i.op (iJ a) b.o (base+i.qE) λv d=>IV p i.op b.o d λe=>vl p base r ⟨ti a i.dst v,d⟩ ((i.idx,di i.op (λx=>(iJ a x).g) (b.o.map iZ.g) (base+i.qE),if e then[] else fj i.op (λx=>(iJ a x).g) (b.o.map iZ.g) (base+i.qE))::c) K
   else vl p base r ⟨ti a i.dst (.Gz []),b.o⟩ ((i.idx,[],[])::c) K
def iZ.lX:iZ->Bool
 | .dead=>true
 |_=>false
def GU (base:Nat) (o:TP):TP:=if(o.drop base).all (·.lX) then o.take base else o
def GT (p:ig) (k:Nat) (c:List cM) (b:List (Nat×Nat)) (st:bE) (K:bE->Prop):Prop:=
 vl p st.o.length c ⟨st.env,st.o++δ k .dead⟩ [] λa d=>
  if b.isEmpty||rA (st.o.length+k) d.reverse b then K ⟨a.env,if k=0 then a.o else GU st.o.length a.o⟩ else False
mutual
def iQ (id:Nat) (s:ew) (l:List s.T):SV->(SV->Prop)->Prop
 | .ow j n m,K=>if j=id then(if m=s.sz then n=l.length/\K (.row s l) else False) else K (.ow j n m)
 | .os j h g n m,K=>if j=id then(if m=s.sz then n=l.length/\h+g<=n/\K (.row s ((l.drop h).take g)) else False) else K (.os j h g n m)
 | .oc j h g n m,K=>if j=id then False else K (.oc j h g n m)
 | .rp j i f n m,K=>if j=id then False else K (.rp j i f n m)
 | .ptr j f t,K=>if j=id then False else K (.ptr j f t)
 | .ap j a b c d e,K=>if j=id then False else K (.ap j a b c d e)
 | .agg o,K=>pX id s l o λk=>K (.agg k)
 | .Gz o,K=>pX id s l o λk=>K (.Gz k)
 | .fn f a b,K=>pX id s l a λp=>pX id s l b λr=>K (.fn f p r)
 |v,K=>K v
def pX (id:Nat) (s:ew) (l:List s.T):List SV->(List SV->Prop)->Prop
 |[],K=>K []
 |c::o,K=>iQ id s l c λq=>pX id s l o λk=>K (q::k)
end
def xF (id:Nat) (s:ew) (l:List s.T):eC->(eC->Prop)->Prop
 |[],K=>K []
 |(k,v)::r,K=>iQ id s l v λa=>xF id s l r λb=>K ((k,a)::b)
def mD (id:Nat) (s:ew) (l:List s.T):Nat->TP->(TP->Prop)->Prop
 |_,[],K=>K []
 |i,x::r,K=>match x with
  | .cells g e h b=>if b then(if i=id then False else mD id s l (i+1) r λa=>K (.cells g e h b::a)) else pX id s l g λd=>mD id s l (i+1) r λa=>K (.cells d e h b::a)
  | .aol c f e t=>if i=id then False else pX id s l t λj=>match rU c 1 j with
   |some m=>mD id s l (i+1) r λa=>K (.row c (f++m) e false::a)
   |none=>False
  | .row c f e b=>if i=id then(if b then mD id s l (i+1) r λa=>K (.dead::a) else False) else mD id s l (i+1) r λa=>K (.row c f e b::a)
  |x=>mD id s l (i+1) r λa=>K (x::a)
def rQ (p:ig) (lo:Nat) (h:iM) (st:bE) (K:bE->Prop):Prop:=
 if h.own then match h.bu with
  |none=>if isNil (jk st.env h.slot) then(match p.ty h.e with
    |some s=>if s.sz=h.sz then K ⟨(h.slot,.ow st.o.length 0 h.sz)::st.env,st.o++[.row s [] h.e h.pu]⟩ else False
    |none=>False) else if h.sz=0 then(match jk st.env h.slot with
     | .ow a _ _=>match st.o[a]? with
      |some (.row s l e true)=>K ⟨st.env,st.o.set a (.row s l e false)⟩
      |_=>False
     |_=>False) else K st
  |some k=>match jk st.env h.slot with
   | .ptr a b c=>match st.o[a]? with
    |some (.cells d e i f)=>if(d[b+k]?).any isNil then(if d.length=c/\f=false then(match p.ty h.e with
      |some s=>if s.sz=h.sz then K ⟨st.env,(st.o.set a (.cells (d.set (b+k) (.ow st.o.length 0 h.sz)) e i f))++[.row s [] h.e h.pu]⟩ else False
      |none=>False) else False) else K st
    |_=>False
   |_=>False
 else match aHQ h st with
  |some (some a)=>if Nat.ble lo a then(match st.o[a]? with
   |some (.row s l e f)=>xF a s l st.env λg=>mD a s l 0 (if f then st.o else st.o.set a (.row s l e true)) λo=>K ⟨g,o⟩
   |_=>False) else K st
  |some none=>K st
  |none=>False
where
 aui:SV->Option Nat
  | .ow a .. =>some a
  | .os a .. =>some a
  | .oc a .. =>some a
  |_=>none;aHQ (h:iM) (st:bE):Option (Option Nat):=
  match h.bu with
  |none=>some (aui (jk st.env h.slot))
  |some k=>match jk st.env h.slot with
   | .ptr a b c=>match st.o[a]? with
    |some (.cells d _ _ _)=>if d.length=c then(d[b+k]?).map aui else none
    |_=>none
   |_=>none
def xE (p:ig) (lo:Nat):List iM->bE->(bE->Prop)->Prop
 |[],st,K=>K st
 |h::hs,st,K=>rQ p lo h st λst'=>xE p lo hs st' K
def GS (a:List Nat) (env:eC):eC:=a.map λs=>(s,jk env s)
def eJ (k:Nat) (st:bE):bE:=
 if st.o.length<=k then st
 else if(st.env.all λp=>p.2.VI k)&&((st.o.take k).all λx=>x.VI k) then⟨st.env,st.o.take k⟩ else st
def vk:eC->eC->Prop
 |[],[]=>True
 |(k,v)::e,(b,c)::a=>if k=b then v.bi c/\vk e a else False
 |_,_=>False
def xD (s t:bE):Prop:=vk s.env t.env/\jW s.o t.o
def iS (s:bE) (k:Nat):Int:=match jk s.env k with
 | .si _ n=>n
 | .il _ n=>n
 |_=>0
def bS (s:bE) (k:Nat):Bool:=match jk s.env k with
 | .sb b=>b
 | .bl b=>b
 |_=>false
def rS (t:ew) (s:bE) (k:Nat):List t.T:=match jk s.env k with
 | .row a l=>match gF a t l with
  |some l=>l
  |none=>[]
 |_=>[]
def oS (t:ew) (s:bE) (id:Nat):List t.T:=match s.o[id]? with
 |some (.row a l _ _)=>match gF a t l with
  |some l=>l
  |none=>[]
 |_=>[]
def gG (v:Int) (n:Nat) (K:Nat->Prop):Nat->Prop
 |0=>0<=v/\v<n
 |j+1=>(v=(n - (j+1):Nat)->K (n - (j+1)))/\gG v n K j
def mg (x:Option (Nat×Nat×Nat)) (st:bE) (K:bE->Prop):Prop:=
 match x with
 |none=>K st
 |some (b,a,n)=>match st.o[b]? with
  |some (.cells c e f d)=>match c[a]? with
   |some (.si k v)=>gG v n (λj=>K ⟨st.env,st.o.set b (.cells (c.set a (.il k j)) e f d)⟩) n
   |_=>False
  |_=>False
inductive bJ where
 |apl (n:Nat)
 |look
 |inv (X:Type) (shape:X->bE) (next:bE->X) (J:X->Prop) (m:X->Nat) (inner:X->Nat->bJ)
def uf (_:bE):Prop:=False
def td:IR->Nat
 | .region c .. =>c
 | .seq .skip b=>td b
 | .seq a _=>td a
 | .block _ b=>td b
 | .loop b=>td b
 | .turns _ b=>td b
 |_=>0
def GR (W:bE->(Out->bE->Prop)->Prop) (Q:Out->bE->Prop):Nat->bE->Prop
 |0,_=>False
 |n+1,b=>W b λa s=>match a with
  | .norm=>GR W Q n (eJ b.o.length s)
  |o=>Q o s
def xC (t:Nat):eC->eC
 |[]=>[]
 |p::r=>bif δu p.1 t then xC t r else p::xC t r
def vj (x:Operand) (env:eC):eC:=
 match x with
 | .tmp t=>xC t env
 |_=>env
def Ar (env:eC) (x:Operand) (v:SV):eC:=
 match x with
 | .tmp t=>vm env t v
 |_=>env
def wpS (p:ig) (lo:Nat):IR->(Nat->bJ)->bE->(Out->bE->Prop)->Prop
 | .skip,_,st,Q=>Q .norm st
 | .region id draw k ops chk live pre post,_,st,Q=>mg (p.sp id) st λst0=>xE p lo pre st0 λst1=>GT p k ops chk st1 λst2=>xE p lo post ⟨GS live st2.env,st2.o⟩ λst3=>Q .norm st3
 | .seq a b,Λ,st,Q=>wpS p lo a Λ st λout s=>match out with
  | .norm=>wpS p lo b Λ s Q
  |o=>Q o s
 | .cond x a b,Λ,st,Q=>match iJ st.env x with
  | .bl true=>wpS p lo a Λ ⟨vj x st.env,st.o⟩ Q
  | .bl false=>wpS p lo b Λ ⟨vj x st.env,st.o⟩ Q
  | .sb c=>(c=true->wpS p lo a Λ ⟨vj x st.env,st.o⟩ Q)/\(c=false->wpS p lo b Λ ⟨vj x st.env,st.o⟩ Q)
  |_=>False
 | .block id b,Λ,st,Q=>wpS p lo b Λ st λout s=>Q (out.inBlock id) s
 | .loop b,Λ,st,Q=>match Λ (td b) with
  | .apl n=>GR (wpS p lo b Λ) Q n st
  | .look=>uf st
  | .inv _ shape next J m inner=>(xD st (shape (next st))/\J (next st))/\∀x,J x->wpS p lo b (inner x) (shape x) λout s=>match out with
   | .norm=>xD (eJ (shape x).o.length s) (shape (next (eJ (shape x).o.length s)))/\J (next (eJ (shape x).o.length s))/\m (next (eJ (shape x).o.length s))<m x
   |o=>Q o s
 | .exit id,_,st,Q=>Q (.exit id) st
 | .ret,_,st,Q=>Q .ret st
 | .goto l,_,st,Q=>Q (.goto l) st
 | .nw x a b,Λ,st,Q=>match iJ st.env x with
  | .bl true=>wpS p lo a Λ st Q
  | .bl false=>wpS p lo b Λ st Q
  | .sb c=>(c=true->wpS p lo a Λ ⟨Ar st.env x (.bl true),st.o⟩ Q)/\(c=false->wpS p lo b Λ ⟨Ar st.env x (.bl false),st.o⟩ Q)
  |_=>False
 | .turns none b,Λ,st,Q=>wpS p lo b Λ st λout s=>match out with
  | .goto _=>False
  |o=>Q o s
 | .turns (some l) b,Λ,st,Q=>match Λ (td b) with
  | .inv _ shape next J m inner=>(xD st (shape (next st))/\J (next st))/\∀x,J x->wpS p lo b (inner x) (shape x) λout s=>match out with
   | .goto l'=>l'=l/\xD (eJ (shape x).o.length s) (shape (next (eJ (shape x).o.length s)))/\J (next (eJ (shape x).o.length s))/\m (next (eJ (shape x).o.length s))<m x
   |o=>Q o s
  |_=>uf st
 | .dfr ..,_,_,_=>False
def lP:Nat->List SV->eC
 |_,[]=>[]
 |i,v::a=>(i,v)::lP (i+1) a
def mC (st:bE) (a:List lU) (K:SV->Prop):Prop:=
 goK a λl=>match l with
  |[v]=>K v
  |l=>K (.Gz l)
where
 goK:List lU->(List SV->Prop)->Prop
  |[],K=>K []
  |r::a,K=>aHR r λv=>goK a λl=>K (v::l);aHR (r:lU) (K:SV->Prop):Prop:=match r.cell with
  |none=>K (jk st.env r.slot)
  |some n=>ll st.o (jk st.env r.slot) n K
def oj (p:ig) (Λ:Nat->bJ) (F:el) (args:List SV) (Q:SV->Prop):Prop:=
 wpS p 0 F.body Λ ⟨lP 0 args,[]⟩ λa b=>match a with
  | .exit _=>False
  | .goto _=>False
  |_=>mC b F.res λr=>pZ b.o 6 r Q
def xB (p:ig) (Λ:Nat->bJ) (F:el) (args:List SV) (o:TP) (Q:SV->TP->Prop):Prop:=
 wpS p o.length F.body Λ ⟨lP 0 args,o⟩ λb a=>match b with
  | .exit _=>False
  | .goto _=>False
  |_=>mC a F.res λr=>if r.VI o.length&&a.o.all (λx=>x.VI o.length)&&decide (o.length<=a.o.length) then Q r (a.o.take o.length) else False
def gE (env:eC):iT:=env.map λp=>(p.1,p.2.g)
def gO (o:TP):a_:=o.map iZ.g
def bE.g (st:bE):St:=⟨gE st.env,gO st.o⟩
theorem mB:∀(env:eC) (s:Nat),cY (gE env) s=(jk env s).g
 |[],_=>by simp[gE,cY,jk,γF];|p::r,s=>by
  have:=mB r s;grind[gE,cY,jk]
theorem OX (env:eC) (d:Option Nat) (v:SV):gE (ti env d v)=nx (gE env) d v.g:=by
 cases d<;>simp[ti,nx,gE]
theorem OW (v:Value):(SV.nn v).g= .sc v:=by cases v<;>simp[SV.nn,γF]
theorem GQ (l:List Value):(l.map SV.nn).map γF=l.map .sc:=by simp[OW]
theorem xA (env:eC) (x:Operand):dO (gE env) x=(iJ env x).g:=by
 cases x with
 |tmp t=>simp[dO,iJ,mB];|const v=>
  cases v<;>simp[dO,iJ,AV.ta,SV.ta,γF];split<;>simp[γF,ft,OW];|global g=>simp[dO,iJ,γF];|func f=>simp[dO,iJ,γF,gL]
theorem OV (env:eC):dO (gE env)=λx=>(iJ env x).g:=funext λx=>xA env x
theorem An (v:SV):v.g.cellsOf=gL v.cellsOf:=by
 cases v<;>simp[γF,AV.cellsOf,SV.cellsOf,gL]
theorem Xu (v:SV):v.g.one=v.one:=by
 cases v<;>simp[γF,AV.one,SV.one,Value.oneCell']
theorem Am (l:List SV):dQ (gL l)=vn l:=by
 induction l<;>grind[gL,dQ,vn,Xu]
theorem GP:∀(l:List SV),xH l=true->cJ (gL l)=true
 |[],_=>by simp[gL,cJ];|v::l,h=>by
  simp only[xH,θ] at h;simp only[gL,cJ,GP l h.2,δV];have a:=h.1;cases v<;>simp[SV.pure] at a<;>simp[γF,AV.pure,np]
mutual
theorem xz (k:Nat):∀(v:SV),v.g.VI k=v.VI k
 | .agg c=>by simp only[γF,AV.VI,SV.VI];exact tc k c;| .Gz c=>by simp only[γF,AV.VI,SV.VI];exact tc k c;| .fn _ a b=>by simp only[γF,AV.VI,SV.VI,tc k a,tc k b];| .ud| .sc _| .il .. | .si .. | .bl _| .sb _| .row .. | .ep .. | .ptr .. | .ap .. | .rp .. | .ow .. | .os .. | .oc .. | .mp _| .ia _ _| .ite _ _ _=>by simp[γF,AV.VI,SV.VI]
theorem tc (k:Nat):∀(l:List SV),dH k (gL l)=qC k l
 |[]=>by simp[gL,dH,qC];|v::l=>by simp only[gL,dH,qC,xz k v,tc k l]
end
theorem Xt (k:Nat) {b sv:ew} (c:Bool) (es:List (b.T×sv.T)):dH k ((es.map λp=>(nU b c p.1,lR sv p.2)).map (·.2))=true:=
 Gc λa h=>by
  simp only[γP,Γ,Function.comp] at h;grind[lR,AV.VI]
theorem Al (k:Nat) (x:iZ):x.g.VI k=x.VI k:=by
 cases x with
 |dead=>rfl;|cells n e m d=>simp[iZ.g,OL.VI,iZ.VI,tc];|row s l e d=>simp[iZ.g,OL.VI,iZ.VI,O4];|aol s l e t=>
  have c:∀a b:List AV,dH k (a++b)=(dH k a&&dH k b):=λa b=>by
   induction a<;>grind[dH]
  grind[iZ.g,OL.VI,iZ.VI,O4,tc];|map i o f j h d=>simp only[iZ.g,OL.VI,iZ.VI,Xt,Bool.or_true]
mutual
theorem OU:∀(v:SV),v.kf=true->v.g.kf=true
 | .agg a,h=>by simp only[SV.kf] at h;simp only[γF,AV.kf];exact GO a h;| .Gz a,h=>by simp only[SV.kf] at h;simp only[γF,AV.kf];exact GO a h;| .ud,_| .sc _,_| .il ..,_| .si ..,_| .bl _,_| .sb _,_=>by simp[γF,AV.kf];| .row ..,h| .ep ..,h| .ptr ..,h| .ap ..,h| .rp ..,h| .ow ..,h| .os ..,h| .oc ..,h| .mp _,h| .fn ..,h| .ia _ _,h| .ite _ _ _,h=>by simp[SV.kf] at h
theorem GO:∀(l:List SV),As l=true->s_ (gL l)=true
 |[],_=>by simp[gL,s_];|v::l,h=>by
  simp only[As,θ] at h;simp only[gL,s_,OU v h.1,GO l h.2,δV]
end
theorem jj (l:List SV):(gL l).length=l.length:=by simp[ft]
theorem rP (l:List SV) (i:Nat):(gL l)[i]?=(l[i]?).map γF:=by simp[ft]
theorem rO (a b:List SV):gL (a++b)=gL a++gL b:=by simp[ft]
theorem Ak {cs:List SV} {a:Nat} {n:Option Nat} {v:SV} (h:qB cs a n=some v):fF (gL cs) a n=some v.g:=by
 cases n with
 |none=>grind[qB,fF,rP];|some m=>
  simp only[qB] at h;split at h
  ·rename_i b;simp only[γ] at h;subst h;simp_all[fF,γF,ft]
  ·cases h
theorem xy:∀(vs cs:List SV) (a:Nat),gL (rV cs a vs)=fy (gL cs) a (gL vs)
 |[],cs,a=>by simp[rV,gL,fy];|v::vs,cs,a=>by
  simp only[rV,gL,fy];rw[xy vs];simp_all[ft]
theorem GN (cs:List SV):gL (cs.map SV.qn)=(gL cs).map AV.qn:=by
 simp_all[ft,Xv]
theorem GM (pu:Bool) (cs:List SV):gL (if pu then cs.map SV.qn else cs)=ee pu (gL cs):=by
 grind[ee,GN]
theorem Xs {c:AV} (h:Plain c.qn):c.one=true/\c.pure=true:=by
 by_cases a:c.qn=c
 ·rw[a] at h;exact⟨h.one,h.pure⟩
 ·unfold AV.qn at a;split at a;·exact⟨rfl,rfl⟩
  simp_all
theorem GL {pu:Bool} {cs:List AV} (h:∀c∈ee pu cs,Plain c):dQ cs=true/\cJ cs=true:=by
 have b:∀c∈cs,c.one=true/\c.pure=true:=by
  intro c a;unfold ee at h;split at h;·grind[Xs]
  ·exact⟨(h c a).one,(h c a).pure⟩
 grind[dQ,Av]
theorem GK:∀(vs a b c:List AV) (d:Nat),d+vs.length<=b.length->fy (a++b++c) (a.length+d) vs=a++fy b d vs++c
 |[],a,b,c,d,_=>rfl
 |v::vs,a,b,c,d,h=>by
  simp only[γK] at h;simp only[fy];have e:(a++b++c).set (a.length+d) v=a++b.set d v++c:=by
   grind
  rw[e,ε0,GK vs a (b.set d v) c (d+1) (by simp;omega)]
theorem OT {s:ew} {l:List s.T} {i:Nat} (h:i<l.length):bP s l=bP s (l.take i)++df s (bN l i s.bw)++bP s (l.drop (i+1)):=by
 have a:l=l.take i++l[i]::l.drop (i+1):=by simp
 grind[bV,bP]
theorem o_ {a:Type} {l:List a} {i:Nat} (h:i<l.length):(l.take i).length=i:=by simp;omega
theorem Xr {s:ew} {l:List s.T} {i a:Nat} {v:s.T} {vs:List AV} (h:i<l.length) (e:a+vs.length<=s.sz) (c:fy (df s (bN l i s.bw)) a vs=df s v):
  fy (bP s l) (i*s.sz+a) vs=bP s (l.set i v):=by
 have d:(bP s (l.take i)).length=i*s.sz:=by rw[ec,o_ h]
 rw[OT h,<-d,GK _ _ _ _ _ (by grind[kD]),c];have b:i<(l.set i v).length:=by simpa using h
 rw[OT b,bV b];simp[List.take_set_of_le,List.drop_set_of_lt]
theorem OS {s:ew} {l:List s.T} {i b:Nat} {n:Option Nat} {v:SV} (h:i<l.length) (e:qB (cR s (bN l i s.bw)) b n=some v):fF (bP s l) (i*s.sz+b) n=some v.g:=by
 have a:=Ak e;rw[ft,rW] at a;have c:=O1 (s:=s) h;have d:(bP s l).length=i*s.sz+(s.sz+(bP s (l.drop (i+1))).length):=by
  have:=congrArg γd c;grind[kD]
 cases n with
 |none=>
  simp only[fF] at a ⊢;rw[<-List.getElem?_drop,c,List.getElem?_append_left]<;>grind;|some m=>
  simp only[fF,kD] at a;split at a
  ·rename_i f;simp only[fF];rw[if_pos (by omega),<-δl,c,List.drop_append_of_le_length (by grind[kD]),List.take_append_of_le_length (by grind[kD])];exact a
  ·cases a
theorem iG {b:Type} {x:Option b} {K:b->Prop} (h:ic x K):∃a,x=some a/\K a:=by
 cases x with
 |none=>exact h.elim;|some a=>exact⟨a,rfl,h⟩
theorem GJ (o:TP) (i:Nat):(gO o)[i]?=(o[i]?).map iZ.g:=by simp[gO]
theorem mA (o:TP):(gO o).length=o.length:=by simp[gO]
theorem oB (o:TP) (i:Nat) (x:iZ):gO (o.set i x)=(gO o).set i x.g:=by simp[gO]
theorem eY {o:TP} {i:Nat} {x:iZ} (h:o[i]?=some x):(gO o)[i]?=some x.g:=by grind[GJ]
theorem OR:∀{cs:List SV} {l:List Int},ints cs=some l->cs.length=l.length/\∀i,i<l.length->(cs[i]?).map γF=some (.sc (.int .i64 (bN l i 0))):=by
 intro cs l h;have a:=Ax h;have c:cs.length=l.length:=by simpa using congrArg γd a
 refine⟨c,λi b=>?_⟩;have:=congrArg (λl=>l[i]?) a;simp only[List.getElem?_map] at this;rw[this,μ b,bV b];rfl
theorem OQ:∀{cs:List SV} {l:List (List bC)},ll.rowsOff cs=some l->cs.length=l.length/\∀i,i<l.length->cs[i]?=some (.row .bu (bN l i []))
 |[],l,h=>by grind[ll.rowsOff];|c::cs,l,h=>by
  cases c with
  |row s x=>
   cases s<;>simp only[ll.rowsOff,reduceCtorEq] at h;obtain⟨e,a,rfl⟩:=ε.1 h;obtain⟨b,d⟩:=OQ a;grind[bN];|_=>simp[ll.rowsOff] at h
theorem Xq {cs:List SV} {sz i:Nat} {n:Option Nat} {K:SV->Prop} (h:ll.awd cs sz i n K) (d:i*sz<cs.length):∃v,fF (gL cs) (i*sz) n=some v.g/\K v:=by
 unfold ll.awd at h;split at h
 ·rw[Nat.mul_one] at d ⊢;split at h
  ·rename_i l a;obtain⟨b,c⟩:=OR a;grind[fF,rP,γF]
  ·split at h
   ·rename_i l a;obtain⟨b,c⟩:=OQ a;grind[fF,rP]
   simp_all
 simp_all
theorem Xp {cs:List AV} {base a m:Nat} {v:AV} (h:fF ((cs.drop base).take m) a none=some v):fF cs (base+a) none=some v:=by
 grind[fF]
theorem Pi {o:TP} {a:SV} {n:Option Nat} {K:SV->Prop} (h:ll o a n K):∃cs b v,behind (gO o) a.g=some (cs,b)/\fF cs b n=some v.g/\K v:=by
 cases a with
 |ptr x b t=>
  simp only[ll] at h;split at h
  ·rename_i cs e f z y;split at h
   ·rename_i D;obtain⟨v,k,j⟩:=iG h;exact⟨gL cs,b,v,by simp_all[behind,γF,eY,iZ.g,jj],Ak k,j⟩
   simp_all
  simp_all;|ap x c f d t i=>
  simp only[ll] at h;split at h
  ·rename_i cs e A z y;split at h
   ·rename_i D;obtain⟨C,p⟩:=h;have w:(i+1)*f<=d*f:=γQ _ C;rw[Nat.succ_mul] at w;have F:f*d=d*f:=Nat.mul_comm ..;by_cases E:f=0;·grind[ll.awd]
    ·have q:i*f<((cs.drop c).take (f*d)).length:=by grind
     obtain⟨v,k,j⟩:=Xq p q;have B:n=none:=by
      grind[ll.awd]
     subst B;refine⟨gL cs,c+i*f,v,by simp_all[behind,γF,eY,iZ.g,jj],?_,j⟩;have:gL ((cs.drop c).take (f*d))=((gL cs).drop c).take (f*d):=by simp[ft]
     grind[Xp]
   simp_all
  simp_all;|ep s l i b=>
  simp only[ll] at h;obtain⟨u,p⟩:=h;obtain⟨v,k,j⟩:=iG p;exact⟨bP s l,i*s.sz+b,v,by simp[behind,γF],OS u k,j⟩;|rp x i b m f=>
  simp only[ll] at h;split at h
  ·rename_i s l e z y;split at h
   ·rename_i r;subst r;obtain⟨w,u,p⟩:=h;obtain⟨v,k,j⟩:=iG p;exact⟨bP s l,i*s.sz+b,v,by simp_all[behind,γF,eY,iZ.g,ec],OS u k,j⟩
   simp_all
  simp_all;|_=>simp only[ll] at h
theorem Ph (o:a_) (d:Nat) {v:Value} (h:v≠ .slice none 0 0):freeze o d (.sc v)=some (.sc v):=by
 grind[freeze]
theorem Pg (o:a_) (d:Nat) {a:AV} (h:Plain a):freeze o d a=some a:=by
 rcases h with⟨v,rfl,_,h⟩|⟨n,b,rfl,_⟩<;>grind[Ph,freeze]
theorem GI {f:AV->Option AV}:∀{l:List AV},(∀a∈l,f a=some a)->l.mapM f=some l
 |[],_=>by simp;|a::l,h=>by simp[List.mapM_cons,h a (by simp),GI (l:=l) λb c=>h b (by simp[c])]
theorem vi {o:a_} {d:Nat} {f:SV->(SV->Prop)->Prop} (c:∀v K,f v K->∃b:SV,freeze o d v.g=some b.g/\K b):
  ∀{l:List SV} {K:List SV->Prop},tg f l K->∃a,(gL l).mapM (freeze o d)=some (gL a)/\K a
 |[],K,h=>⟨[],by simp[gL],h⟩
 |v::l,K,h=>by
  obtain⟨b,j,i⟩:=c v _ h;obtain⟨a,k,e⟩:=vi c i;exact⟨b::a,by simp_all[gL],e⟩
theorem xx {s:ew} {l:List s.T} {b a:Nat}:((bP s l).drop (b*s.sz)).take (a*s.sz)=bP s ((l.drop b).take a):=by
 rw[Gb,O2]
theorem GH {o:TP}:∀{d:Nat} {v:SV} {K:SV->Prop},pZ o d v K->∃y,freeze (gO o) d v.g=some y.g/\K y:=by
 intro d;induction d with
 |zero=>
  intro v K h;cases v<;>simp only[pZ] at h<;>grind[pZ,γF,freeze,bP,Ph];|succ d p=>
  intro v K h;cases v<;>simp only[pZ] at h;case sc v=>
   grind[γF,freeze,bP]
  case agg B=>
   obtain⟨A,z,r⟩:=vi (λv K m=>p m) h;grind[γF,freeze]
  case Gz B=>
   obtain⟨A,z,r⟩:=vi (λv K m=>p m) h;grind[γF,freeze]
  case fn f a b=>
   obtain⟨I,z,r⟩:=vi (λv K m=>p m) h;obtain⟨J,L,H⟩:=vi (λv K m=>p m) r;grind[γF,freeze]
  case ow E n F=>
   split at h
   ·rename_i s l e G w;split at h
    ·rename_i k;obtain⟨rfl,t⟩:=h;subst k;refine⟨_,?_,t⟩;have i:(bP s l).mapM (freeze (gO o) d)=some (bP s l):=GI λa C=>by
      grind[Pg,lQ]
     have D:Δ (l.length*s.sz) (bP s l)=bP s l:=γu (by grind[ec]);simp_all[γF,freeze,eY,iZ.g,ec,np]
    simp_all
   simp_all
  case os E j c n F=>
   split at h
   ·rename_i s l e G w;split at h
    ·rename_i k;obtain⟨rfl,u,t⟩:=h;subst k;refine⟨_,?_,t⟩;have i:(bP s ((l.drop j).take c)).mapM (freeze (gO o) d)=some (bP s ((l.drop j).take c)):=GI λa C=>by
      grind[Pg,lQ]
     have x:(j+c)*s.sz<=l.length*s.sz:=γQ _ u;rw[δX] at x;have q:((l.drop j).take c).length=c:=by simp;omega
     simp only[γF,freeze,eY w,iZ.g,ec,x,and_self,if_true,xx,i,np,q];simp_all
    simp_all
   simp_all
  all_goals grind[γF,freeze]
theorem Aj {k:IntKind} {n:Int} (h:VL k n):ed k n=n:=by
 cases k<;>simp only[VL,ed] at h ⊢<;>simp_all
theorem lO {c:Prop} [Decidable c] {A:Prop} (h:if c then A else False):c/\A:=by
 simp_all
theorem aYY {b:Int} {k:Nat} (h:b<=k):min b.toNat k=b.toNat:=by omega
theorem Xo (a b:Int):(a==b)=decide (a=b):=rfl
theorem Xn (a b:Int):(a !=b)=decide (a≠b):=by
 grind
theorem xw {k:IntKind} {n:Int} {K:Int->Prop} (h:th k n K):K (ed k n):=by
 have a:k= .u32->ed k n=n % 4294967296:=by
  grind[rn,IntKind.wrap,IntKind.bits,IntKind.signed]
 have b:k= .u64->ed k n=n % 18446744073709551616:=by
  grind[rn,IntKind.wrap,IntKind.bits,IntKind.signed]
 unfold th at h;grind[Aj]
theorem iY {e:BinOp} {k i:IntKind} {a b:Int} {K:SV->Prop} (h:gd.go e K k a i b):∃v f:_,gh e (.int k a) (.int i b)=some v/\f.g= .sc v/\K f:=by
 cases e<;>simp only[gd.go] at h;case shl=>
  obtain⟨j,m,l⟩:=h;refine⟨.int k (ed k (a*2^b.toNat)),.si k (ed k (a*2^b.toNat)),?_,rfl,xw l⟩;simp_all[gh,Hc]
 case shr=>
  obtain⟨j,m,n⟩:=h;refine⟨.int k (a / 2^b.toNat),_,?_,rfl,n⟩;have:a.fdiv (2^b.toNat)=a / 2^b.toNat:=Int.fdiv_eq_ediv_of_nonneg _ (by grind);simp_all[gh,Hc]
 case add=>
  obtain⟨d,c⟩:=lO h;subst d;exact⟨.int k (ed k (a+b)),.si k (ed k (a+b)),by simp only[gh,if_true,kA],rfl,xw c⟩
 case sub=>
  obtain⟨d,c⟩:=lO h;subst d;exact⟨.int k (ed k (a - b)),.si k (ed k (a - b)),by simp only[gh,if_true,kA],rfl,xw c⟩
 case mul=>
  obtain⟨d,c⟩:=lO h;subst d;exact⟨.int k (ed k (a*b)),.si k (ed k (a*b)),by simp only[gh,if_true,kA],rfl,xw c⟩
 case quo=>
  obtain⟨d,c⟩:=lO h;subst d;exact⟨.int k (a.tdiv b),_,by simp_all[gh,kA,Aj],rfl,c.2.2⟩
 case rem=>
  obtain⟨d,c⟩:=lO h;subst d;exact⟨.int k (a.tmod b),_,by simp_all[gh,kA],rfl,c.2⟩
 case and=>
  obtain⟨d,c⟩:=lO h;subst d;exact⟨.int k (gd.asV k a b),_,by simp only[gh,if_true,kA,gd.asV],rfl,c⟩
 case or=>
  obtain⟨d,c⟩:=lO h;subst d;exact⟨.int k (gd.orI k a b),_,by simp only[gh,if_true,kA,gd.orI],rfl,c⟩
 case xor=>
  obtain⟨d,c⟩:=lO h;subst d;exact⟨.int k (gd.aBx k a b),_,by simp only[gh,if_true,kA,gd.aBx],rfl,c⟩
 case andNot=>
  obtain⟨d,c⟩:=lO h;subst d;exact⟨.int k (gd.ays k a b),_,by simp only[gh,if_true,kA,gd.ays],rfl,c⟩
 case eql=>
  obtain⟨d,c⟩:=lO h;subst d;exact⟨.bool (decide (a=b)),_,by simp_all[gh,kA,Xo],rfl,c⟩
 case neq=>
  obtain⟨d,c⟩:=lO h;subst d;exact⟨.bool (decide (a≠b)),_,by simp_all[gh,kA,Xn],rfl,c⟩
 case lss=>
  obtain⟨d,c⟩:=lO h;subst d;exact⟨.bool (decide (a<b)),_,by simp only[gh,if_true,kA],rfl,c⟩
 case leq=>
  obtain⟨d,c⟩:=lO h;subst d;exact⟨.bool (decide (a<=b)),_,by simp only[gh,if_true,kA],rfl,c⟩
 case gtr=>
  obtain⟨d,c⟩:=lO h;subst d;exact⟨.bool (decide (b<a)),_,by simp only[gh,if_true,kA],rfl,c⟩
 case geq=>
  obtain⟨d,c⟩:=lO h;subst d;exact⟨.bool (decide (b<=a)),_,by simp only[gh,if_true,kA],rfl,c⟩
theorem Xm {j:BinOp} {x y:SV} {K:SV->Prop} (h:gd j x y K):∃a b v c,x.g= .sc a/\y.g= .sc b/\gh j a b=some v/\c.g= .sc v/\K c:=by
 unfold gd at h;split at h
 ·split at h;·rename_i i;exact⟨_,_,_,_,rfl,rfl,i,rfl,h⟩
  ·rename_i i;exact⟨_,_,_,_,rfl,rfl,i,rfl,h⟩
  simp_all
 ·obtain⟨v,c,d,e,f⟩:=iY h;exact⟨_,_,v,c,rfl,rfl,d,e,f⟩
 ·obtain⟨v,c,d,e,f⟩:=iY h;exact⟨_,_,v,c,rfl,rfl,d,e,f⟩
 ·obtain⟨v,c,d,e,f⟩:=iY h;exact⟨_,_,v,c,rfl,rfl,d,e,f⟩
 ·split at h;·exact⟨_,_,_,_,rfl,rfl,by grind[gh],rfl,h⟩
  ·exact⟨_,_,_,_,rfl,rfl,by grind[gh],rfl,h⟩
  simp_all
 simp_all
theorem xv {k:IntKind} {a b:Int}:seq1 (.int k a) (.int k b)=some (decide (a=b)):=by
 simp only[seq1,if_true,γ];rfl
theorem Xl {x y:SV} {r:Bool} (h:Ga x y=some r):∃a b,x.g= .sc a/\y.g= .sc b/\seq1 a b=some r:=by
 cases x<;>simp only[Ga,reduceCtorEq] at h;all_goals
  obtain⟨b,c,rfl⟩:=ε.1 h;first
   |exact⟨_,_,rfl,gT c,xv⟩;|exact⟨_,_,rfl,tj c,by simp[seq1]⟩
theorem Pf:∀{x y:List SV} {r:Bool},rT x y=some r->∃a b,gL x=a.map .sc/\gL y=b.map .sc/\fc a b=some r
 |[],[],r,h=>by simp[rT] at h;subst h;exact⟨[],[],rfl,rfl,rfl⟩;|[],_::_,r,h=>by grind[rT];|_::_,[],r,h=>by grind[rT];|x::l,y::n,r,h=>by
  simp only[rT] at h;split at h
  ·rename_i a b e f;simp only[γ] at h;subst h;obtain⟨u,v,g,j,k⟩:=Xl e;obtain⟨d,c,i,o,m⟩:=Pf f;exact⟨u::d,v::c,by grind[gL],by grind[gL],by grind[fc]⟩
  ·cases h
theorem GG:∀(l:List Value),p9 (l.map .sc)=some l
 |[]=>rfl
 |v::l=>by simp[p9,GG l]
theorem rN:∀{a b:List Value},a.map δg=b.map δg->a=b
 |[],[],_=>rfl
 |[],_::_,h=>by simp at h;|_::_,[],h=>by simp at h;|x::a,y::b,h=>by
  simp only[ξ,Θ,δe] at h;rw[h.1,rN h.2]
theorem tb:∀{e:List Nat} {x:List SV} {a:List Value},kx e x=true->gL x=a.map .sc->dM e a=true
 |[],[],a,_,h=>by
  cases a with
  |nil=>rfl;|cons a i=>simp[gL] at h
 |[],_::_,a,h,_=>by grind[kx];|_::_,[],a,h,_=>by grind[kx];|k::e,x::j,a,h,f=>by
  cases a with
  |nil=>grind[gL];|cons a i=>
   simp only[gL,ξ,Θ] at f;obtain⟨c,d⟩:=f;match k,x,h with
   |0,.si k n,h=>simp only[kx] at h;simp only[γF,δe] at c;subst c;simpa[dM] using tb h d;|0,.il k n,h=>simp only[kx] at h;simp only[γF,δe] at c;subst c;simpa[dM] using tb h d;|1,.sb b,h=>simp only[kx] at h;simp only[γF,δe] at c;subst c;simpa[dM] using tb h d;|1,.bl b,h=>simp only[kx] at h;simp only[γF,δe] at c;subst c;simpa[dM] using tb h d
theorem Xk {c:List Nat} {a b:List SV} {r:Bool} (d:(kx c a&&kx c b)=true) (h:rT a b=some r):uk c (gL a) (gL b)=some r:=by
 obtain⟨u,v,f,e,g⟩:=Pf h;simp only[θ] at d;rw[f,e];simp only[uk,GG,tb d.1 f,tb d.2 e,Bool.and_self,if_true,g]
theorem X7 {s s':ew} {l:List s.T} {a:List s'.T} (h:gF s s' l=some a):s=s'/\HEq l a:=by
 unfold gF at h;grind
theorem xu {s s':ew} {l:List s.T} {l':List s'.T} (h:gF s s' l=some l'):s'=s/\bP s' l'=bP s l/\l'.length=l.length:=by
 grind[X7]
theorem GF:∀{a:List (Nat×Nat×SV)} {cs b:List SV},qA a cs=some b->ky (a.map λq=>(q.1,q.2.1,q.2.2.g)) (gL cs)=some (gL b)
 |[],cs,b,h=>by simp[qA] at h;subst h;rfl;|(d,n,v)::r,cs,b,h=>by
  simp only[qA] at h;split at h
  ·rename_i c;obtain⟨i,f,e⟩:=c;have:=GF h;simp_all[ky,An,jj,Am,xy]
  ·cases h
theorem A6 {s:ew}:∀{n:Nat} {cs:List SV} {l:List s.T},rU s n cs=some l->gL cs=bP s l/\l.length=n
 |0,[],l,h=>by grind[rU,gL,bP];|0,_::_,l,h=>by simp[rU] at h;|n+1,cs,l,h=>by
  simp only[rU] at h;split at h
  ·rename_i x f a b;simp only[γ] at h;subst h;obtain⟨d,c⟩:=A6 b;have e:=mH a;refine⟨?_,by simp[c]⟩;rw[ft] at d ⊢;conv=>lhs;rw[<-γT s.sz cs]
   grind[bP]
  ·cases h
theorem X6 {o:TP} {s:ew} {x:SV} {K:List s.T->Prop} (h:tf o s x K):∃l,lV (gO o) s.sz x.g=some (l.length,bP s l)/\K l:=by
 cases x with
 |row q l=>
  simp only[tf] at h;obtain⟨f,c,w⟩:=iG h;obtain⟨rfl,p,m⟩:=xu c;exact⟨f,by simp_all[γF,lV,ec],w⟩;|ow y n u=>
  simp only[tf] at h;split at h
  ·rename_i q l e A B;split at h
   ·rename_i b;subst b;obtain⟨rfl,k⟩:=h;obtain⟨f,c,i⟩:=iG k;obtain⟨rfl,p,m⟩:=xu c;refine⟨f,?_,i⟩;have t:Δ (l.length*s.sz) (bP s l)=bP s l:=γu (by grind[ec]);simp_all[γF,lV,eY,iZ.g,ec]
   simp_all
  simp_all;|os y d a n u=>
  simp only[tf] at h;split at h
  ·rename_i q l e A B;split at h
   ·rename_i b;subst b;obtain⟨rfl,j,k⟩:=h;obtain⟨f,c,i⟩:=iG k;obtain⟨rfl,p,m⟩:=xu c;refine⟨f,?_,i⟩;have r:(d+a)*s.sz<=l.length*s.sz:=γQ _ j;rw[δX] at r;have z:((l.drop d).take a).length=a:=by simp;omega
    simp_all[γF,lV,eY,iZ.g,ec,xx]
   simp_all
  simp_all;|sc v=>
  grind[tf,γF,lV,bP];|_=>simp only[tf] at h
theorem GE {v:SV} {n:Int} (h:xG v=some n):gr v.g=some n:=by
 cases v<;>simp[xG] at h<;>simp[γF,gr,h]
theorem nT {d:Nat} {x:Option SV} {K:Nat->Prop} (h:mE d x K):∃n,gq d (x.map γF)=some n/\K n:=by
 unfold mE at h;grind[γF,gq]
theorem tQ {qE:Nat} {x:iZ} {o:TP} {K:TP->Prop} (h:qc qE x o K):∃o',j4 qE x.g (gO o)=some (gO o')/\K o':=by
 grind[qc,j4,eY,iZ.g,oB]
theorem X5 {s:ew} (e:s.keyed=true) (x y:s.T):fc (cI s x) (cI s y)=some (decide (x=y)):=by
 cases s<;>simp only[ew.keyed,reduceCtorEq] at e;·grind[cI,fc,xv]
 ·obtain⟨b,⟨m,o,a,l,c,i⟩⟩:=x;obtain⟨g,⟨k,h,j,n,d,f⟩⟩:=y;simp_all[cI,iv,fc,xv]
 ·obtain⟨b,⟨m,o,a,l,c,i⟩,⟨C,t,B,A,D,w⟩⟩:=x;obtain⟨g,⟨k,h,j,n,d,f⟩,⟨p,z,r,u,v,q⟩⟩:=y;simp only[cI,iv,fc,xv,γ,δV];grind
theorem X4 {s:ew} {a:Bool} (d:s.keyed=true) (b:a=false->s.sz=1) (x y:s.T):k9 (nU s a x) (nU s a y)=some (decide (x=y)):=by
 cases a with
 |true=>grind[nU,k9,X5];|false=>
  have c:=b rfl;cases s<;>simp only[ew.keyed,reduceCtorEq] at d<;>simp only[ew.sz,reduceCtorEq,Nat.reduceEqDiff] at c;simp_all[nU,cI,k9,xv]
theorem GD {a sv:ew} {c:Bool} (f:a.keyed=true) (e:c=false->a.sz=1) (x:a.T):∀(es:List (a.T×sv.T)) (i:Nat),
  ∃r,lu (nU a c x) (es.map λp=>(nU a c p.1,lR sv p.2)) i=some r/\(match mG a sv x es with|some v=>∃j,r=some (i+j,lR sv v)/\(∃p,es[j]?=some p/\p.1=x)/\(∀g<j,∀p,es[g]?=some p->p.1≠x)|none=>r=none/\∀p∈es,p.1≠x)
 |[],i=>⟨none,by simp[lu],by simp[mG]⟩
 |p::es,i=>by
  simp only[ξ,lu,X4 f e];by_cases b:p.1=x
  ·refine⟨some (i,lR sv p.2),by simp[b],?_⟩;simp only[mG,List.find?_cons,b,decide_true,ν];exact⟨0,by simp,⟨p,by simp,b⟩,by simp⟩
  ·obtain⟨r,m,k⟩:=GD f e x es (i+1);have d:¬x=p.1:=λh=>b h.symm;refine⟨r,by simp[d,m],?_⟩;have n:mG a sv x (p::es)=mG a sv x es:=by grind[mG]
   rw[n];split at k
   ·obtain⟨j,w,⟨q,t,l⟩,o⟩:=k;refine⟨j+1,by grind,⟨q,by simp_all,l⟩,λg u s y=>?_⟩;grind
   grind
theorem GC {a sv:ew} {x:a.T} {v:sv.T}:∀{es:List (a.T×sv.T)},(∀p∈es,p.1≠x)->qz a sv x v es=es++[(x,v)]
 |[],_=>rfl
 |p::es,h=>by
  simp only[qz,if_neg (h p (by simp)),γM];rw[GC λq b=>h q (by simp[b])]
theorem Pe {a sv:ew} {x:a.T} {v:sv.T}:∀{es:List (a.T×sv.T)} {j:Nat},(∃p,es[j]?=some p/\p.1=x)->(∀b<j,∀p,es[b]?=some p->p.1≠x)->qz a sv x v es=es.modify j λ_=>(x,v)
 |[],j,⟨p,h,_⟩,_=>by simp at h;|p::es,0,⟨q,h,d⟩,_=>by
  grind[qz];|p::es,j+1,⟨q,h,d⟩,c=>by
  have g:=c 0 (by omega) p (by simp);simp only[qz,if_neg g,ζN];rw[Pe (j:=j) ⟨q,by simpa using h,d⟩ λb i e f=>c (b+1) (by omega) e (by simp_all)]
theorem Pd {f:List Nat} {d:Bool} {s:ew} {v:SV} {x:s.T} (e:kx f v.cellsOf=true) (o:te d v=true) (p:s.flat=true) (n:jl s v.cellsOf=some x):oK f d v.g=some (nU s d x):=by
 have k:=mH n;have c:gL v.cellsOf=(cI s x).map .sc:=by grind[ft,Ay]
 have i:=tb e c;by_cases l:∃h,v= .agg h
 ·obtain⟨h,rfl⟩:=l;simp_all[SV.cellsOf,te,γF,oK,GG,nU]
 ·have b:d=false:=by
   simp_all[te]
  subst b;have j:v.cellsOf=[v]:=by
   cases v<;>first|rfl|simp_all
  rw[j] at c;simp only[gL] at c;cases m:cI s x with
  |nil=>simp_all;|cons a r=>
   rw[m] at c i;simp only[ξ,Θ] at c;simp_all[oK,nU]
theorem Pc {s:ew} (h:s.vo=true) (x:s.T):((cR s x).headD .ud).g=lR s x:=by
 cases s<;>simp[ew.vo] at h<;>simp[cR,lR,cI,γF]
theorem Pb {s:ew} (h:s.vo=true) (x:s.T):df s x=[lR s x]:=by
 cases s<;>simp[ew.vo] at h<;>simp[df,lR,cI]
theorem Pa {s:ew} (h:s.keyed=true):s.flat=true:=by
 cases s<;>simp[ew.keyed] at h<;>rfl
structure nS (call:cw) (C:O0):Prop where
 pure:∀f args K,C.pure f args K->∃r:SV,call f (gL args) [] false=some (r.g,[])/\K r
 own:∀f args o K,C.own f args o K->∃(r:SV) (o':TP),gU call f (gL args) (gO o)=some (r.g,gO o')/\K r o'
section
variable {call:cw} {p:ig} {o:TP} {qE:Nat} {K:SV->TP->Prop}
theorem GB (j:nS call p.C) {f:FuncId} {args:List SV} {own:Bool} (h:dS.awf p f args o own K):
  ∃(v:SV) (o':TP),fV call f (gL args) (gO o) own=some (v.g,gO o')/\K v o':=by
 unfold dS.awf at h;split at h
 ·rename_i c;obtain⟨r,o',k,e⟩:=j.own _ _ _ _ h;exact⟨r,o',by simp_all[fV],e⟩
 ·rename_i c;have c:own=false:=by simp_all
  subst c;obtain⟨b,k,e⟩:=vi (o:=gO o) (d:=6) (λv K m=>GH m) h;obtain⟨r,l,i⟩:=j.pure _ _ _ e;split at i
  ·rename_i a;refine⟨r,o,?_,i⟩;simp only[fV,τ,if_false,k,l];rw[if_pos];simp only[δz] at a ⊢;rcases a with a|a
   ·left;rw[ft,List.flatMap_map];exact a
   grind[OU]
  simp_all
theorem A5 (ρ:Operand->SV) (l:List Operand):gL (l.map ρ)=l.map λx=>(ρ x).g:=by simp[ft]
theorem X3 {a:List (Nat×Nat×Operand)} {ρ:Operand->SV} {cs b:List SV} (h:qA (a.map λq=>(q.1,q.2.1,ρ q.2.2)) cs=some b):
  ky (a.map λq=>(q.1,q.2.1,(ρ q.2.2).g)) (gL cs)=some (gL b):=by
 have:=GF h;grind[δi]
theorem GA {a:List (Nat×Operand)} {sz:Nat} {ρ:Operand->SV} {cs b:List SV} (h:qA (a.map λq=>(q.1,sz,ρ q.2)) cs=some b):
  ky (a.map λq=>(q.1,sz,(ρ q.2).g)) (gL cs)=some (gL b):=by
 have:=GF h;grind[δi]
theorem Gy (z:List Value):gL (z.map SV.nn)=z.map .sc:=by rw[ft,GQ]
theorem Gx (a:Nat) (z:List Value):gL ((δ a (z.map SV.nn)).flatten)=(δ a (z.map δg)).flatten:=by
 rw[ft,List.map_flatten,List.map_replicate,GQ]
theorem X2 (s:ew) (x:s.T) (n:Nat):(δ n (df s x)).flatten=bP s (δ n x):=by
 induction n<;>grind[bP]
theorem xt {ρ:Operand->SV} (l:Option Operand):(l.map ρ).map γF=l.map λx=>(ρ x).g:=by cases l<;>rfl
theorem X1:∀{l:List Int} {i:Nat} {v:Int},i<l.length->fy (l.map λn=>δg (iv n)) 0 ((l.set i v).map λn=>δg (iv n))=(l.map λn=>δg (iv n)).set i (.sc (iv v)):=by
 intro l i v e;have d:∀(b a c:List AV),b.length=c.length->fy (a++c) a.length b=a++b:=by
  intro b;induction b with
  |nil=>grind[fy];|cons w b f=>
   intro a c h;cases c with
   |nil=>simp at h;|cons y c=>
    simp only[γK,ζu] at h;simp only[fy];have:(a++y::c).set a.length w=(a++[w])++c:=by
     simp_all
    grind
 have:=d ((l.set i v).map λn=>δg (iv n)) [] (l.map λn=>δg (iv n)) (by simp);simp_all
theorem O_ {b c:Type} (f:b->c) (x:b):∀(l:List b) (j:Nat),(l.modify j λ_=>x).map f=(l.map f).modify j λ_=>f x
 |[],j=>by simp;|a::l,0=>by simp_all;|a::l,j+1=>by simp only[ζN,ξ,O_ f x l j]
theorem X0 (v:Value):(δg v).cellsOf=[.sc v]:=rfl
theorem NJ:∀{l:List Int} {i j:Nat} {v:Int},rR l (i+j) v j=l.set i v
 |[],_,_,_=>rfl
 |a::l,0,j,v=>by
  have h:∀(l:List Int) (c:Nat),j<c->rR l j v c=l:=by
   intro l;induction l with
   |nil=>intro _ _;rfl;|cons b l d=>intro c e;simp only[rR,if_neg (show ¬j=c by omega),d (c+1) (by omega)]
  simp_all[rR];|a::l,i+1,j,v=>by
  simp only[rR,if_neg (show ¬i+1+j=j by omega),List.set_cons_succ];rw[show i+1+j=i+(j+1) from by omega,NJ]
theorem XZ {ρ:Operand->SV} {n:Nat} {a x:Operand} (h:dS p (.store n a x) ρ o qE K):
  ∃(v:SV) (o':TP),MO call (.store n a x) (λx=>(ρ x).g) (gO o) qE=some (v.g,gO o')/\K v o':=by
 simp only[dS] at h;split at h
 ·rename_i W b L B;split at h
  ·rename_i f e Y E z;split at h
   ·rename_i D;obtain⟨V,C,X,P,R⟩:=D;refine⟨.ud,_,?_,h⟩;simp only[MO,B,γF,eY z,iZ.g,An,jj,Am];rw[if_pos ⟨V,C,X,P,R.imp (λq=>q) λhp=>GP _ hp⟩,oB,iZ.g,xy,GM]
   simp_all
  simp_all
 ·rename_i W i b m Y B;split at h
  ·rename_i s l e E z;split at h
   ·rename_i D;obtain⟨rfl,C,X⟩:=D;obtain⟨rfl,N,P⟩:=h;obtain⟨v,hv,R⟩:=iG P;refine⟨.ud,_,?_,R⟩;have T:=mH hv;rw[<-ft,xy,GM] at T;have O:gL (cR s (bN l i s.bw))=df s (bN l i s.bw):=by rw[ft,rW]
    rw[O] at T;have y:(i+1)*s.sz<=l.length*s.sz:=γQ _ N;rw[Nat.succ_mul] at y;have u:∀c∈ee E (gL (ρ x).cellsOf),Plain c:=by
     intro c hc;obtain⟨j,hj⟩:=List.mem_iff_getElem?.1 hc;have U:=(ζ.1 hj).1;rw[rr,jj,C] at U;have a1:(fy (df s (bN l i s.bw)) b (ee E (gL (ρ x).cellsOf)))[b+j]?=some c:=by
      have a0:∀(r f:List AV) (b j:Nat) (c:AV),r[j]?=some c->b+r.length<=f.length->(fy f b r)[b+j]?=some c:=by
       intro r;induction r with
       |nil=>simp_all;|cons w r ih=>
        intro f b j c h M;simp only[γK] at M;simp only[fy];cases j with
        |zero=>
         simp only[List.getElem?_cons_zero,γ] at h;subst h;have F:∀(r f:List AV) (Z k:Nat),k<Z->(fy f Z r)[k]?=f[k]?:=by
          intro r;induction r<;>grind[fy]
         grind;|succ j=>
         have:=ih (f.set b w) (b+1) j c (by simpa using h) (by simp;omega);grind
      grind[rr,jj,kD]
     grind[yu]
    obtain⟨G,Q⟩:=GL u;simp only[MO,B,γF,eY z,iZ.g,An,ec,jj];rw[if_pos ⟨trivial,C,G,by omega,.inr Q⟩,oB,iZ.g,Xr N (by grind[rr,jj]) T]
   simp_all
  simp_all
 ·rename_i W d Y t L i B;split at h
  ·rename_i f e a3 E z;split at h
   ·rename_i v H;split at h
    ·rename_i l M;split at h
     ·rename_i D;obtain⟨V,C⟩:=D;rw[show rR l i v 0=l.set i v from NJ (j:=0)] at h;obtain⟨N,hk⟩:=h;refine⟨.ud,_,?_,hk⟩;have S:(ρ x).cellsOf=[ρ x]:=by
       cases hr:ρ x<;>rw[hr] at H<;>simp[SV.int] at H<;>rfl
      have I:(ρ x).g= .sc (iv v):=gT H;have A:=Ax M;have a2:l.length=t:=by
       have:=congrArg γd A;grind
      have J:gL f=gL (f.take d)++(l.map λn=>δg (iv n))++gL (f.drop (d+t)):=by
       rw[<-A,ft,ft,ft,<-γb,<-γb];congr 1;rw[<-δl,List.append_assoc,γT,γT]
      have a4:(gL (f.take d)).length=d:=by grind[jj]
      have hq:ee E [δg (iv v)]=[δg (iv v)]:=by unfold ee;split<;>rfl
      simp only[MO,B,γF,eY z,iZ.g,I,X0,List.length_singleton,jj,hq];rw[if_pos ⟨V,trivial,by simp[dQ,AV.one,iv,Value.oneCell'],by omega,.inr (by simp[cJ,AV.pure])⟩,oB,iZ.g,xy];congr 4;have e1:gL ((l.set i v).map (SV.si .i64))=(l.set i v).map λn=>δg (iv n):=by
       rw[ft,γP];rfl
      rw[e1,J];have hm:=GK ((l.set i v).map λn=>δg (iv n)) (gL (f.take d)) (l.map λn=>δg (iv n)) (gL (f.drop (d+t))) 0 (by simp);grind[X1,fy]
     simp_all
    simp_all
   simp_all
  simp_all
 simp_all
theorem XY {ρ:Operand->SV} {e:TypeId} {sz b:Nat} {s x:Operand} {pu:Bool} (h:dS p (.append e sz b s x pu) ρ o qE K):
  ∃(v:SV) (o':TP),MO call (.append e sz b s x pu) (λx=>(ρ x).g) (gO o) qE=some (v.g,gO o')/\K v o':=by
 simp only[dS] at h;split at h
 ·rename_i t tl U a;split at h
  ·rename_i S n G j m R k M;split at h
   ·rename_i O l Z I H;split at h
    ·rename_i F;obtain⟨rfl,q,rfl,rfl,rfl,rfl,i,w⟩:=F;obtain⟨rfl,C,y,B⟩:=h;rw[M] at a;unfold OZ at a;split at a
     ·rename_i j' W Y;injection Y with e1 N e3;subst e1 N e3;split at a
      ·rename_i s2 N L D;split at a
       ·rename_i A;injection a with a;subst a;refine⟨_,_,?_,B⟩;have E:lV (gO o) t.sz (.os j 0 1 (1*t.sz))=some (1,gL L):=by
         simp only[lV,eY D,iZ.g,bP,ζI,δP,jj];rw[if_pos ⟨by omega,A,by omega⟩,εq,γu (by grind[jj])]
        have J:dQ (gL L)=true:=by grind[Am]
        simp only[MO,k,M,γF,o5];simp only[E,J,ζY,if_false,eY H,iZ.g,ec,q];rw[if_pos ⟨trivial,trivial,trivial,trivial,C,y,.inl trivial⟩,oB,iZ.g];grind
       ·cases a
      ·cases a
     ·cases a
    simp_all
   simp_all
  simp_all
 ·rename_i t U _;split at h
  ·rename_i z;subst z;obtain⟨f,V,d⟩:=X6 h;have r:dQ (bP t f)=true:=Au _ _;have c:cJ (bP t f)=true:=np _ _;simp only[MO,o5,V,r,ζY,if_false];split at d
   ·rename_i k;rw[k];simp only[γF];by_cases u:f.length=0;·exact⟨_,_,by simp only[u,if_true];rfl,d.1 u⟩
    ·obtain⟨q,i,w⟩:=d.2 u;obtain⟨o',P,Q⟩:=tQ w;refine⟨_,o',?_,Q⟩;simp only[iZ.g] at P;rw[if_neg u,if_pos ⟨q,i,.inr c⟩,P];rfl
   ·rename_i S n G k;split at d
    ·rename_i O l Z I H;split at d
     ·rename_i F;obtain⟨rfl,q,rfl⟩:=F;obtain⟨rfl,i,w,C⟩:=d;obtain⟨l',y,B⟩:=iG C;obtain⟨rfl,T,X⟩:=xu y;refine⟨_,_,?_,B⟩;rw[k];simp only[γF,eY H,iZ.g,ec];rw[if_pos ⟨trivial,trivial,trivial,trivial,i,w,.inr c⟩,oB,iZ.g,O3,T];grind
     simp_all
    simp_all
   ·rename_i O l k;obtain⟨q,i⟩:=d;refine⟨_,_,?_,i⟩;simp_all[γF]
   simp_all
  simp_all
 simp_all
theorem NF {mx:Bool} {a b:Int}:(if mx then(if b>a then b else a) else(if b<a then b else a))=if mx then max a b else min a b:=by
 grind
theorem XX (hC:nS call p.C) {op:bR} {ρ:Operand->SV} (h:dS p op ρ o qE K):
  ∃(v:SV) (o':TP),MO call op (λx=>(ρ x).g) (gO o) qE=some (v.g,gO o')/\K v o':=by
 cases op with
 |mov x=>exact⟨_,_,rfl,h⟩;|pick c a b=>
  simp only[dS] at h;split at h;·rename_i hc;exact⟨_,_,by simp only[MO,hc,γF],h⟩
  ·rename_i hc;exact⟨_,_,by simp only[MO,hc,γF],h⟩
  ·rename_i c hc;cases c with
   |true=>exact⟨_,_,by simp only[MO,hc,γF],h.1 rfl⟩;|false=>exact⟨_,_,by simp only[MO,hc,γF],h.2 rfl⟩
  ·exact h.elim;|alloc z e pu=>
  obtain⟨o',hm,hk⟩:=tQ h;simp only[iZ.g,Gy] at hm;exact⟨_,o',by simp only[MO,hm,ν,γF],hk⟩;|box e x=>
  simp only[dS] at h;split at h
  ·rename_i h1;obtain⟨o',hm,hk⟩:=tQ h;simp only[iZ.g] at hm;exact⟨_,o',by simp only[MO,An,Am,h1,if_true,jj,hm,ν,γF],hk⟩
  ·exact h.elim;|build z parts=>
  simp only[dS] at h;obtain⟨cs,h1,h2⟩:=iG h;have:=X3 h1;rw[Gy] at this;exact⟨_,_,by simp only[MO,this,ν,γF],h2⟩;|aoE z len parts e sz=>
  simp only[dS] at h;split at h
  ·rename_i s cs hs hf;split at h
   ·rename_i hsz;split at h
    ·rename_i hany;split at h
     ·rename_i hlen;obtain⟨o',hm,hk⟩:=tQ h;simp only[iZ.g,bP,ζI,δP] at hm;have hfa:=GA hf;rw[Gx] at hfa;refine⟨_,o',?_,hk⟩;subst hsz;have hp:cJ (gL cs)=false:=by
       clear hf hfa hm hlen h;induction cs with
       |nil=>simp at hany;|cons c cs ih=>
        simp only[List.any_cons,δz] at hany;simp only[gL,cJ];rcases hany with hc|hc
        ·have h9:c.g.pure=false:=by
          cases c with
          |ow a b d=>simp[γF,AV.pure];|_=>simp[SV.OY] at hc
         rw[h9,Bool.false_and]
        ·have ih2:=ih hc;rw[ih2,Bool.and_false]
      simp only[MO,hfa,hp,ee,τ,if_false,hm,ν,γF]
     ·exact h.elim
    obtain⟨l,h1,h2⟩:=iG h;obtain⟨h3,h4⟩:=A6 h1;obtain⟨o',hm,hk⟩:=tQ h2;simp only[iZ.g] at hm;have hfa:=GA hf;rw[Gx] at hfa;refine⟨_,o',?_,hk⟩;subst hsz;rw[GN] at h3;have hp:cJ (gL cs)=true:=(GL (pu:=true) (cs:=gL cs) λc hc=>lQ (s:=s) (l:=l) (by rw[<-h3];exact hc)).2;have hq:ee true (gL cs)=bP s l:=h3;simp only[MO,hfa,hp,hq,hm,ν,γF]
   ·exact h.elim
  ·exact h.elim;|ard z len parts e sz=>
  simp only[dS] at h;split at h
  ·rename_i s cs hs hf;split at h
   ·rename_i hsz;obtain⟨l,h1,h2⟩:=iG h;obtain⟨h3,h4⟩:=A6 h1;have hfa:=GA hf;rw[Gx] at hfa;rw[GN] at h3;have hp:cJ (gL cs)=true:=(GL (pu:=true) (cs:=gL cs) λc hc=>lQ (s:=s) (l:=l) (by rw[<-h3];exact hc)).2;have hq:ee true (gL cs)=bP s l:=h3;exact⟨_,_,by simp only[MO,hfa,hp,hq,if_true,γF,h4],h2⟩
   ·exact h.elim
  ·exact h.elim;|load n a=>
  simp only[dS] at h;obtain⟨cs,bu,v,h1,h2,h3⟩:=Pi h;exact⟨v,o,by simp only[MO,h1,h2,ν],h3⟩;|store n a x=>exact XZ h;|asq x=>
  simp only[dS] at h;split at h;·rename_i hx;exact⟨_,_,by simp only[MO,hx,γF],h⟩
  ·rename_i hx;exact⟨_,_,by simp only[MO,hx,γF],h⟩
  ·rename_i hx;exact⟨_,_,by simp only[MO,hx,γF],h⟩
  ·exact h.elim;|bin op x y=>
  simp only[dS] at h;obtain⟨a,b,v,v',h1,h2,h3,h4,h5⟩:=Xm h;exact⟨v',o,by simp only[MO,h1,h2,h3,ν,h4],h5⟩;|beq neg x y=>
  simp only[dS] at h;split at h
  ·rename_i a b h1 h2;exact⟨_,_,by simp only[MO,tj h1,tj h2,γF],h⟩
  ·exact h.elim;|eqf neg ks x y=>
  simp only[dS] at h;split at h
  ·rename_i a b h1 h2;split at h
   ·rename_i hk;obtain⟨r,hr,h3⟩:=iG h;exact⟨_,_,by simp only[MO,h1,h2,γF,Xk hk hr,ν],h3⟩
   ·exact h.elim
  ·exact h.elim;|arf neg x y=>
  simp only[dS] at h;split at h
  ·rename_i h1 h2;exact⟨_,_,by simp only[MO,h1,h2,γF],h⟩
  ·rename_i h1 h2;exact⟨_,_,by simp only[MO,h1,h2,γF],h⟩
  ·exact h.elim;|un op x=>
  simp only[dS] at h;split at h;·rename_i hx;exact⟨_,_,by simp only[MO,hx,γF,q_,ν],h⟩
  ·rename_i hx;exact⟨_,_,by simp only[MO,hx,γF,q_,ν],h⟩
  ·rename_i k n hx;refine⟨_,_,?_,h.2⟩;have:(0:Int) - n= -n:=by omega
   simp only[MO,hx,γF,q_,ν,this,Aj h.1]
  ·rename_i hx;exact⟨_,_,by simp only[MO,hx,γF,q_,ν],h⟩
  ·exact h.elim;|conv k x=>
  simp only[dS] at h;split at h;·rename_i hx;exact⟨_,_,by simp only[MO,hx,γF],h⟩
  ·rename_i hx;exact⟨_,_,by simp only[MO,hx,γF,Aj h.1],h.2⟩
  ·rename_i kk n _ hx;exact⟨.si k (ed k n),_,by simp only[MO,hx,γF],xw h⟩
  ·exact h.elim;|asr bu x=>
  simp only[dS] at h;split at h;·rename_i hx;exact⟨_,_,by simp only[MO,hx,γF,lW,ν],h⟩
  ·rename_i hx;exact⟨_,_,by simp only[MO,hx,γF,lW,ν,ε0],h⟩
  ·rename_i hx;exact⟨_,_,by simp only[MO,hx,γF,lW,ν,ε0],h⟩
  ·exact h.elim;|field bu n x=>
  simp only[dS] at h;split at h
  ·rename_i cs hx;obtain⟨v,h1,h2⟩:=iG h;exact⟨_,_,by simp only[MO,hx,γF,Ak h1,ν],h2⟩
  ·exact h.elim;|asu len sz x i=>
  simp only[dS] at h;split at h
  ·rename_i k n hi;split at h
   ·rename_i hn;split at h;·rename_i hx;exact⟨_,_,by simp only[MO,hi,hx,γF,gr,if_pos hn,lW,ν],h⟩
    ·rename_i hx;exact⟨_,_,by simp only[MO,hi,hx,γF,gr,if_pos hn,lW,ν,ε0],h⟩
    ·rename_i hx;exact⟨_,_,by simp only[MO,hi,hx,γF,gr,if_pos hn,lW,ν,ε0],h⟩
    ·exact h.elim
   ·exact h.elim
  ·rename_i k n hi;split at h;·rename_i hx;exact⟨_,_,by simp only[MO,hi,hx,γF,gr,if_pos (γm h.1 h.2.1),lW,ν],h.2.2⟩
   ·exact h.elim
  ·exact h.elim;|aqx sz x i=>
  simp only[dS] at h;split at h
  ·rename_i n hi;have hi:=GE hi;split at h
   ·rename_i s l hx;split at h
    ·rename_i hsz;subst hsz;obtain⟨h1,h2,h3⟩:=h;refine⟨_,_,?_,h3⟩;simp only[MO,hi,hx,γF,o6,ec];rw[if_pos ⟨h1,h2,trivial⟩];simp
    ·exact h.elim
   ·rename_i id m sz' hx;split at h
    ·rename_i s l e pu ho;split at h
     ·rename_i hsz;obtain⟨rfl,rfl⟩:=hsz;obtain⟨rfl,h1,h2,h3⟩:=h;refine⟨_,_,?_,h3⟩;simp only[MO,hi,hx,γF,o6,eY ho,iZ.g,ec];rw[nZ (Nat.zero_le _),if_pos ⟨trivial,trivial,h1,h2,by omega⟩];simp
     ·exact h.elim
    ·exact h.elim
   ·rename_i id bu len m sz' hx;split at h
    ·rename_i s l e pu ho;split at h
     ·rename_i hsz;obtain⟨rfl,rfl⟩:=hsz;obtain⟨rfl,h1,h2,h4,h3⟩:=h;refine⟨_,_,?_,h3⟩;have hm:(bu+len)*s.sz<=l.length*s.sz:=γQ _ h4;rw[δX] at hm;simp only[MO,hi,hx,γF,o6,eY ho,iZ.g,ec];rw[nZ (by omega),if_pos ⟨trivial,trivial,h1,h2,hm⟩];simp[δX]
     ·exact h.elim
    ·exact h.elim
   ·rename_i id bu len m sz' hx;split at h
    ·rename_i s l e pu ho;split at h
     ·rename_i hsz;obtain⟨rfl,rfl⟩:=hsz;obtain⟨rfl,h1,h2,h4,h3⟩:=h;refine⟨_,_,?_,h3⟩;have hm:(bu+len)*s.sz<=l.length*s.sz:=γQ _ h4;have hp:=Ge s;rw[δX] at hm;simp only[MO,hi,hx,γF,o6,eY ho,iZ.g,ec];rw[BB (by omega),show bu*s.sz+(l.length*s.sz+s.sz) - l.length*s.sz - s.sz=bu*s.sz by omega,if_pos ⟨trivial,trivial,h1,h2,hm⟩];simp[δX]
     ·exact h.elim
    ·exact h.elim
   ·exact h.elim
  ·exact h.elim;|idx len sz n x i=>
  simp only[dS] at h;split at h
  ·rename_i k' k cs hi hx;split at h
   ·rename_i hk;obtain⟨v,h1,h2⟩:=iG h;exact⟨_,_,by simp only[MO,hi,hx,γF,gr,if_pos hk,Ak h1,ν],h2⟩
   ·exact h.elim
  ·rename_i k' k cs hi hx;split at h
   ·rename_i l _ _ hl;split at h
    ·rename_i hll;obtain⟨h1,h2,h3⟩:=h;refine⟨_,_,?_,h3⟩;obtain⟨h4,h5⟩:=OR hl;have h6:=h5 k.toNat (by omega);simp only[MO,hi,hx,γF,gr,if_pos (γm h1 h2),Nat.mul_one,fF,rP,h6,ν]
    ·exact h.elim
   ·exact h.elim
  ·exact h.elim;|atG x i=>simp only[dS] at h;|ao6 z e sz bytes l c pu=>
  simp only[dS] at h;split at h
  ·rename_i n m s hn hm hs;have hn:=GE hn;have hm:=GE hm;split at h
   ·rename_i hsz;subst hsz;obtain⟨x,hx,h1,h2,h3,h4,h5⟩:=iG h;obtain⟨o',hmk,hk⟩:=tQ h5;refine⟨_,o',?_,hk⟩;have hd:=mH hx;rw[<-ft,GM,Gy] at hd;simp only[iZ.g] at hmk;simp only[MO,hn,hm];rw[if_pos ⟨h1,h2,h3,h4⟩,hd,X2,hmk];simp[γF]
   ·exact h.elim
  ·exact h.elim;|slice sz x lo hi=>
  simp only[dS] at h;split at h
  ·rename_i s l hx;split at h
   ·rename_i hsz;subst hsz;obtain⟨a,ha,h1⟩:=nT h;obtain⟨b,hb,h2,h3,h4⟩:=nT h1;refine⟨_,_,?_,h4⟩;rw[xt] at ha hb;have hlen:((l.drop a).take (b - a)).length=b - a:=by simp;omega
    simp only[MO,hx,γF,oL,ha,hb,ec,and_true,if_pos (γm h2 h3),ν,xx,hlen]
   ·exact h.elim
  ·rename_i id m sz' hx;split at h
   ·rename_i s l e pu ho;split at h
    ·rename_i hsz;obtain⟨rfl,rfl⟩:=hsz;obtain⟨rfl,h⟩:=h;obtain⟨a,ha,h1⟩:=nT h;obtain⟨b,hb,h2,h3,h4⟩:=nT h1;refine⟨_,_,?_,h4⟩;rw[xt] at ha hb;simp only[MO,hx,γF,oL,ha,hb,eY ho,iZ.g,ec];rw[if_pos ⟨h2,h3,trivial,trivial⟩];simp
    ·exact h.elim
   ·exact h.elim
  ·rename_i id bu len m sz' hx;split at h
   ·rename_i s l e pu ho;split at h
    ·rename_i hsz;obtain⟨rfl,rfl⟩:=hsz;obtain⟨rfl,h⟩:=h;obtain⟨a,ha,h1⟩:=nT h;obtain⟨b,hb,h2,h3,h4⟩:=nT h1;refine⟨_,_,?_,h4⟩;rw[xt] at ha hb;simp only[MO,hx,γF,oL,ha,hb,eY ho,iZ.g,ec];rw[if_pos ⟨h2,h3,trivial,trivial⟩];simp[δX]
    ·exact h.elim
   ·exact h.elim
  ·exact h.elim;|slice3 sz x lo hi mx=>
  simp only[dS] at h;split at h
  ·rename_i s l hx;split at h
   ·rename_i hsz;subst hsz;obtain⟨a,ha,h1⟩:=nT h;obtain⟨b,hb,h2⟩:=nT h1;obtain⟨m,hm,h3,h4,h5,h6⟩:=nT h2;refine⟨_,_,?_,h6⟩;rw[xt] at ha;simp only[ν] at hb hm;have hlen:((l.drop a).take (b - a)).length=b - a:=by simp;omega
    simp only[MO,hx,γF,qH,ha,hb,hm,ec,and_true,if_pos (γm h3 (γm h4 h5)),ν,xx,hlen]
   ·exact h.elim
  ·rename_i id n sz' hx;split at h
   ·rename_i s l e pu ho;split at h
    ·rename_i hsz;obtain⟨rfl,rfl⟩:=hsz;obtain⟨rfl,h⟩:=h;obtain⟨a,ha,h1⟩:=nT h;obtain⟨b,hb,h2⟩:=nT h1;obtain⟨m,hm,h3,h4,h5,h6⟩:=nT h2;refine⟨_,_,?_,h6⟩;rw[xt] at ha;simp only[ν] at hb hm;simp only[MO,hx,γF,qH,ha,hb,hm,eY ho,iZ.g,ec];rw[if_pos ⟨h3,h4,h5,trivial,trivial,by omega,Ge _⟩];simp
    ·exact h.elim
   ·exact h.elim
  ·exact h.elim;|asv x lo hi=>simp only[dS] at h;|append e sz bytes s x pu=>exact XY h;|len k x=>
  simp only[dS] at h;split at h;·rename_i hx;exact⟨_,_,by simp only[MO,hx,γF,kz,ν],h⟩
  ·rename_i hx;exact⟨_,_,by simp only[MO,hx,γF,kz,ν],h⟩
  ·rename_i hx;exact⟨_,_,by simp only[MO,hx,γF,kz,ν],h⟩
  ·rename_i hx;exact⟨_,_,by simp only[MO,hx,γF,kz,ν],h⟩
  ·rename_i hx;exact⟨_,_,by simp only[MO,hx,γF,kz,ν];rfl,h⟩
  ·rename_i hx;exact⟨_,_,by simp only[MO,hx,γF,kz,ν],h⟩
  ·rename_i id hx;split at h
   ·rename_i sk sv ka es kt pu ho;exact⟨_,_,by simp only[MO,hx,γF,kz,eY ho,iZ.g,List.length_map,ν],h⟩
   ·exact h.elim
  ·exact h.elim;|asw n=>exact⟨_,_,rfl,h⟩;|mm mx x y=>
  simp only[dS] at h;split at h
  ·rename_i hx hy;split at h
   ·rename_i hk;exact⟨_,_,by simp only[MO,hx,hy,γF,if_pos hk],h⟩
   ·exact h.elim
  ·rename_i k a hx;obtain⟨b,hb,h2⟩:=iG h;exact⟨_,_,by simp only[MO,hx,gT hb,γF,if_true,NF],h2⟩
  ·rename_i k a hx _;obtain⟨b,hb,h2⟩:=iG h;exact⟨_,_,by simp only[MO,hx,gT hb,γF,if_true,NF],h2⟩
  ·exact h.elim;|call f args own=>
  simp only[dS] at h;obtain⟨v,o',h1,h2⟩:=GB hC h;rw[A5] at h1;exact⟨v,o',by simp only[MO,h1],h2⟩;|ak4 f args own=>
  simp only[dS] at h;split at h
  ·rename_i g first captured hf;obtain⟨v,o',h1,h2⟩:=GB hC h;rw[rO,rO,A5] at h1;exact⟨v,o',by simp only[MO,hf,γF,h1],h2⟩
  ·exact h.elim;|extract x i=>
  simp only[dS] at h;split at h
  ·rename_i vs hx;obtain⟨v,h1,h2⟩:=iG h;exact⟨_,_,by simp only[MO,hx,γF,rP,h1,ν],h2⟩
  ·exact h.elim;|arh f first captured=>exact⟨_,_,by simp only[MO,γF,A5],h⟩;|asx t x=>
  simp only[dS] at h;split at h
  ·rename_i cs hx;split at h
   ·rename_i hp;exact⟨_,_,by simp only[MO,hx,γF,if_pos (GP cs hp)],h⟩
   ·exact h.elim
  ·exact h.elim;|aoe tab x args=>
  simp only[dS] at h;split at h
  ·rename_i t cs hx;split at h
   ·rename_i f hf;obtain⟨v,o',h1,h2⟩:=GB hC h;simp only[gL,γF,A5] at h1;exact⟨v,o',by simp only[MO,hx,γF,hf,h1],h2⟩
   ·exact h.elim
  ·exact h.elim;|ao7 kt pu=>
  simp only[dS] at h;split at h
  ·rename_i sk sv hs;obtain⟨o',hm,hk⟩:=tQ h;simp only[iZ.g,γw] at hm;exact⟨_,o',by simp only[MO,hm,ν,γF],hk⟩
  ·exact h.elim;|lookup z agg ks ka x k ok=>
  simp only[dS] at h;split at h
  ·rename_i id hx;split at h
   ·rename_i sk sv ka' es kt pu ho;split at h
    ·rename_i hh;obtain⟨rfl,rfl,h1,h2,rfl,h4,h5,h6⟩:=hh;obtain⟨kv,hkv,h7⟩:=iG h;obtain⟨zv,hzv,h8⟩:=iG h7;have hkey:=Pd h5 h6 (Pa h1) hkv;have hz:pS z false=some (lR sv zv):=by
      have hd:=mH hzv;rw[GQ,Pb h2] at hd;cases z with
      |nil=>simp at hd;|cons a r=>
       cases r with
       |nil=>simp only[ξ,γw,Θ,and_true] at hd;simp[pS,hd];|cons=>simp at hd
     obtain⟨r,hr,hm⟩:=GD (sv:=sv) h1 h4 kv es 0;refine⟨_,_,?_,h8⟩;simp only[MO,hx,γF,hkey,eY ho,iZ.g,if_true,hr,hz];cases hf:mG sk sv kv es with
     |some v=>
      rw[hf] at hm;obtain⟨j,rfl,_⟩:=hm;simp only[Option.getD_some];cases ok<;>simp only[τ,if_false,if_true,γF,gL,Pc h2,ζZ,ζg];|none=>
      rw[hf] at hm;obtain⟨rfl,_⟩:=hm;simp only[Option.getD_none];cases ok<;>simp only[τ,if_false,if_true,γF,gL,Pc h2,ζZ,ζg]
    ·exact h.elim
   ·exact h.elim
  ·exact h.elim;|apP ks ka x k v=>
  simp only[dS] at h;split at h
  ·rename_i id hx;split at h
   ·rename_i sk sv ka' es kt pu ho;split at h
    ·rename_i hh;obtain⟨rfl,rfl,h1,h2,h4,h5,h6,h9⟩:=hh;obtain⟨kv,hkv,h7⟩:=iG h;obtain⟨vv,hvv,h8⟩:=iG h7;have hkey:=Pd h5 h6 (Pa h1) hkv;have hv:(ρ v).g=lR sv vv:=by
      have hd:=mH hvv;rw[Pb h2] at hd;have hc:(ρ v).cellsOf=[ρ v]:=by
       revert h9;cases ρ v<;>simp[SV.cellsOf,te]
      rw[hc] at hd;simpa using hd
     obtain⟨r,hr,hm⟩:=GD (sv:=sv) h1 h4 kv es 0;refine⟨_,_,?_,h8⟩;have hpure:(lR sv vv).pure=true:=by simp[lR,AV.pure]
     simp only[MO,hx,γF,hkey,eY ho,iZ.g,hv,hpure,hr,oB];rw[if_neg (by simp)];cases hf:mG sk sv kv es with
     |some w=>
      rw[hf] at hm;obtain⟨j,rfl,h10,h11⟩:=hm;rw[Pe h10 h11];simp only[Nat.zero_add];rw[O_];|none=>
      rw[hf] at hm;obtain⟨rfl,h10⟩:=hm;rw[GC h10];simp
    ·exact h.elim
   ·exact h.elim
  ·exact h.elim
end
mutual
theorem Gw {o:a_} {k:Nat}:∀{v:AV},v.VI k=true->v.Q5 o (λi=>decide (k<=i))=some v
 | .os m d j e,h=>by
  simp_all[AV.VI,AV.Q5,if_neg];| .ptr m d e,h=>by
  simp_all[AV.VI,AV.Q5,if_neg];| .agg g,h=>by simp only[AV.VI] at h;simp only[AV.Q5,vh h,ν];| .Gz g,h=>by simp only[AV.VI] at h;simp only[AV.Q5,vh h,ν];| .fn f a b,h=>by
  simp only[AV.VI,θ] at h;simp only[AV.Q5,vh h.1,vh h.2];| .ud,_| .sc _,_| .sl _ _,_| .ep _ _,_| .mp _,_| .ifc _ _,_=>by simp only[AV.Q5]
theorem vh {o:a_} {k:Nat}:∀{l:List AV},dH k l=true->gf o (λi=>decide (k<=i)) l=some l
 |[],_=>by simp[gf];|c::g,h=>by
  simp only[dH,θ] at h;simp only[gf,Gw h.1,vh h.2]
end
theorem ND {o:a_} {k:Nat}:∀{l:List (Value×AV)},dH k (l.map (·.2))=true->oH o (λi=>decide (k<=i)) l=some l
 |[],_=>by simp[oH];|(q,c)::a,h=>by
  simp only[ξ,dH,θ] at h;simp only[oH,Gw h.1,ND h.2]
theorem XW {o:a_} {k:Nat} {x:OL} (h:x.VI k=true):x.Q5 o (λi=>decide (k<=i))=some x:=by
 cases x with
 |dead=>rfl;|cells b e f a=>
  cases a with
  |true=>simp only[OL.Q5,if_true];|false=>simp_all[OL.VI,OL.Q5,vh]
 |map d c a=>
  cases a with
  |true=>simp only[OL.Q5,if_true];|false=>simp_all[OL.VI,OL.Q5,ND]
theorem NC {o:a_} {k:Nat}:∀{r:a_},(∀x∈r,x.VI k=true)->iR o (λi=>decide (k<=i)) r=some r
 |[],_=>rfl
 |x::r,h=>by
  simp only[iR,XW (h x (by simp)),NC (r:=r) λy a=>h y (by simp[a])]
theorem NB {k:Nat}:∀{o:a_} {i:Nat},(e6 (λj=>decide (k<=j)) i o).take (k - i)=o.take (k - i)
 |[],i=>by simp[e6];|x::r,i=>by
  simp only[e6];by_cases a:i<k
  ·rw[show k - i=(k - (i+1))+1 from by omega,δw,δw,NB];grind
  simp_all
theorem aYZ {k i:Nat} (h:i<k):(ω k).contains i=true:=by simp[h]
theorem NA {o:a_} {k:Nat}:∀{d:Nat} {vs:List AV},dH k vs=true->b_ o d vs (ω k)=ω k:=by
 intro d;induction d with
 |zero=>grind[b_];|succ d e=>
  intro vs h;cases vs with
  |nil=>simp[b_];|cons v vs=>
   simp only[dH,θ] at h;have i:=h.1;simp only[b_];cases v with
   |agg g=>grind[AV.VI];|Gz g=>grind[AV.VI];|fn f a b=>grind[AV.VI];|ptr c _ _=>simp_all[AV.VI];|os c _ _ _=>simp_all[AV.VI];|mp c=>simp_all[AV.VI];|_=>simp only[e h.2]
theorem Nz:∀{n s i p:Nat},s<=i->i<s+n->idxOf (ζC s n) i p=some (p+(i - s))
 |0,s,i,p,a,b=>by omega;|n+1,s,i,p,a,b=>by
  simp only[εv,idxOf];by_cases h:s=i;·subst h;simp
  ·have:(s==i)=false:=by simpa using h
   rw[this];simp only[τ,if_false];rw[Nz (by omega) (by omega)];grind
theorem G6 {k i:Nat} (h:i<k):idxOf (ω k) i=some i:=by
 rw[δH,Nz (by omega) (by omega)];simp
mutual
theorem A4 {k:Nat}:∀{v:AV},v.VI k=true->v.bI (λj=>idxOf (ω k) j)=some v
 | .os g d m e,h=>by simp_all[AV.VI,δy,G6];| .ptr g d e,h=>by simp_all[AV.VI,δy,G6];| .mp g,h=>by simp_all[AV.VI,δy,G6];| .agg i,h=>by simp only[AV.VI] at h;simp only[δy,vg h,ν];| .Gz i,h=>by simp only[AV.VI] at h;simp only[δy,vg h,ν];| .fn f a b,h=>by
  simp only[AV.VI,θ] at h;simp only[δy,vg h.1,vg h.2];| .ud,_| .sc _,_| .sl _ _,_| .ep _ _,_| .ifc _ _,_=>by simp only[δy]
theorem vg {k:Nat}:∀{l:List AV},dH k l=true->gV (λj=>idxOf (ω k) j) l=some l
 |[],_=>by simp[gV];|c::i,h=>by
  simp only[dH,θ] at h;simp only[gV,A4 h.1,vg h.2]
end
theorem Ny {k:Nat}:∀{l:List (Value×AV)},dH k (l.map (·.2))=true->nv (λj=>idxOf (ω k) j) l=some l
 |[],_=>by simp[nv];|(q,c)::a,h=>by
  simp only[ξ,dH,θ] at h;simp only[nv,A4 h.1,Ny h.2]
theorem XV {k:Nat} {x:OL} (h:x.VI k=true):x.bI (λj=>idxOf (ω k) j)=some x:=by
 cases x with
 |dead=>rfl;|cells b e f a=>
  cases a with
  |true=>simp only[OL.bI,if_true];|false=>simp_all[OL.VI,OL.bI,vg]
 |map d c a=>
  cases a with
  |true=>simp only[OL.bI,if_true];|false=>simp_all[OL.VI,OL.bI,Ny]
theorem G5 {k:Nat} {o:a_} (a:∀x∈o.take k,x.VI k=true) (c:k<=o.length):∀{n s:Nat},s+n=k->j7 o (ω k) (ζC s n)=some ((o.take k).drop s)
 |0,s,h=>by
  grind[j7];|n+1,s,h=>by
  simp only[εv,j7];have d:s<o.length:=by omega
  have e:o[s]?=some o[s]:=μ d;rw[e,G5 a c (by omega)];have f:o[s]∈o.take k:=by
   rw[List.mem_take_iff_getElem];grind
  simp only[XV (a _ f),ν];congr 1;have b:s<(o.take k).length:=by simp;omega
  rw[List.drop_eq_getElem_cons b];simp
theorem nodup_range':∀{n s:Nat},gU.aoF (ζC s n)=true
 |0,_=>by simp[gU.aoF];|n+1,s=>by
  simp only[εv,gU.aoF,nodup_range',δV,Bool.not_eq_true'];grind
theorem Nx {k:Nat}:∀{a b:List AV},dH k a=true->dH k b=true->dH k (a++b)=true
 |[],b,_,h=>h
 |x::a,b,h,c=>by
  simp only[dH,θ] at h;simp only[γM,dH,h.1,Nx h.2 c,Bool.and_self]
theorem G4 {k:Nat}:∀{o:a_},(∀x∈o,x.VI k=true)->dH k (o.flatMap kI.OL.avs)=true
 |[],_=>by simp[dH];|x::o,h=>by
  simp only[δ0];refine Nx ?_ (G4 λy a=>h y (by simp[a]));have b:=h x (by simp);cases x<;>grind[kI.OL.avs,dH,OL.VI]
theorem Nw {k:Nat} {r:AV} {o:a_} (e:r.VI k=true) (b:∀x∈o,x.VI k=true) (j:k<=o.length):kI k r o=some (r,o.take k):=by
 unfold kI;rw[Gw e,NC b];simp only;have a:(e6 (λi=>decide (k<=i)) 0 o).take k=o.take k:=by simpa using NB (k:=k) (o:=o) (i:=0)
 have d:∀{o:a_} {i:Nat},(e6 (λi=>decide (k<=i)) i o).length=o.length:=by
  intro o;induction o with
  |nil=>intro i;rfl;|cons x o l=>simp_all[e6]
 have h:∀x∈o.take k,x.VI k=true:=λx g=>b x (List.mem_of_mem_take g);rw[a,NA (by grind[dH,G4])];have f:gU.aoF (ω k)=true:=by rw[δH];exact nodup_range'
 rw[if_pos f,A4 e];have c:=G5 (k:=k) (o:=e6 (λi=>decide (k<=i)) 0 o) (by simp_all) (by simp_all) (n:=k) (s:=0) (by omega);rw[<-δH,a,εq] at c;rw[c]
theorem G3:∀{env:eC} {s:Nat} {v:SV},(jk env s).g=v.g->gE (vm env s v)=gE env
 |[],_,_,_=>rfl
 |p::r,s,v,h=>by
  simp only[vm,jk] at h ⊢;cases a:δu p.1 s with
  |true=>
   simp_all[gE];|false=>
   rw[a] at h;simp only[cond_false] at h ⊢;have:=G3 h;grind[gE]
theorem XU {env:eC} {g:Option (Option Nat×Bool)} {K:eC->Bool->Prop} (h:GV env g K):∃a w,gE a=gE env/\lr (gE env) g=some w/\K a w:=by
 unfold GV at h;split at h;·exact⟨_,_,rfl,rfl,h⟩
 ·exact h.elim
 ·rename_i s b;split at h;·grind[lr,mB,γF]
  ·rename_i c d;cases c<;>grind[G3,lr,mB,γF]
  all_goals grind[lr,mB,γF,gL]
section
variable {call:cw} {p:ig}
theorem Nv:∀{a b:TP},jW a b->gO a=gO b
 |[],[],_=>rfl
 |x::a,y::b,h=>by
  obtain⟨c,d⟩:=h;have e:x.g=y.g:=c;simp only[gO,ξ,e];congr 1;exact Nv d
def tP:Trace->Trace->Prop
 |[],[]=>True
 |x::a,y::b=>(x.1=y.1/\x.2.1=y.2.1/\∀j∈x.2.2,j∈y.2.2)/\tP a b
 |_,_=>False
theorem tP.look:∀{a b:Trace} {i:Nat},tP a b->(oJ a i).1=(oJ b i).1/\∀j∈(oJ a i).2,j∈(oJ b i).2
 |[],[],_,_=>⟨rfl,λj h=>h⟩
 |(k,x)::a,(g,y)::b,i,h=>by
  obtain⟨⟨c,e,d⟩,f⟩:=h;simp only at c e d;subst c;simp only[oJ];split;·exact⟨e,d⟩
  ·exact tP.look f
theorem XT {a b d c:List Nat} (f:∀j∈a,j∈d) (e:∀j∈b,j∈c) (h:wu d c=true):wu a b=true:=by
 grind[wu]
theorem XS {n:Nat} {a b:Trace} {c:List (Nat×Nat)} (h:tP a b) (d:rA n b c=true):rA n a c=true:=by
 unfold rA at d ⊢;rw[List.all_eq_true] at d ⊢;intro p e;have l:=d p e;obtain⟨g,k⟩:=h.look (i:=p.1);obtain⟨f,j⟩:=h.look (i:=p.2);grind[XT]
theorem G2 (u:nS call p.C) {base:Nat}:∀{d:List cM} {st:bE} {l:Trace} {K:bE->Trace->Prop},vl p base d st l K->
  ∃st' T,fw call base d st.g=some st'.g/\tP (lq call base d st.g) T/\K st' (T.reverse++l)
 |[],st,l,K,h=>⟨st,[],rfl,trivial,h⟩
 |i::r,st,l,K,h=>by
  simp only[vl] at h;obtain⟨a,w,B,s,q⟩:=XU h;have A:st.g=⟨gE a,gO st.o⟩:=by grind[bE.g]
  rw[<-B] at s;cases w with
  |true=>
   simp only[if_true] at q;obtain⟨v,y,E,c⟩:=XX u q;have b:gp call base i st.g=some (bE.g ⟨ti a i.dst v,y⟩):=by
    grind[gp,OV,yr,bE.g,OX]
   have k:∀W:List Nat,(∀j∈dL call i.op (λx=>(iJ a x).g) (gO st.o) (base+i.qE),j∈W)->
     vl p base r ⟨ti a i.dst v,y⟩ ((i.idx,di i.op (λx=>(iJ a x).g) (st.o.map iZ.g) (base+i.qE),W)::l) K->
     ∃st' T,fw call base (i::r) st.g=some st'.g/\tP (lq call base (i::r) st.g) T/\K st' (T.reverse++l):=λW G c=>by
    obtain⟨st',T,D,z,F⟩:=G2 u c;refine⟨st',(i.idx,di i.op (λx=>(iJ a x).g) (st.o.map iZ.g) (base+i.qE),W)::T,by grind[fw],?_,?_⟩
    ·simp only[lq,b];rw[A];simp only[s,OV];exact⟨⟨rfl,rfl,G⟩,z⟩
    simp_all
   unfold IV at c;split at c
   ·rename_i f n t;split at c
    ·obtain⟨H,c⟩:=c;refine k [] (λj m=>?_) c;rw[t] at E m;have e:gU call f (n.map λx=>(iJ a x).g) (gO st.o)=some (v.g,gO y):=by simp_all[MO,fV]
     simp only[dL,e,List.mem_filter,decide_eq_true_eq] at m;grind[Nv]
    ·exact k _ (λj m=>Gn m) c
   ·exact k _ (λj m=>Gn m) c;|false=>
   simp only[τ,if_false] at q;obtain⟨st',T,D,z,F⟩:=G2 u q;have b:gp call base i st.g=some (bE.g ⟨ti a i.dst (.Gz []),st.o⟩):=by
    grind[gp,bE.g,OX,γF,gL]
   refine⟨st',(i.idx,[],[])::T,by grind[fw],?_,?_⟩
   ·simp only[lq,b];rw[A];simp only[s];exact⟨⟨rfl,rfl,λj h=>h⟩,z⟩
   simp_all
theorem XR (k:Nat):gO (δ k .dead)=fu k:=by simp[gO,fu,iZ.g]
theorem Nu (a b:TP):gO (a++b)=gO a++gO b:=by simp[gO]
theorem XQ (x:iZ):x.g.lX=x.lX:=by cases x<;>rfl
theorem XP (base:Nat) (o:TP):gO (GU base o)=pR base (gO o):=by
 unfold GU pR;have:((gO o).drop base).all (·.lX)=(o.drop base).all (·.lX):=by
  simp only[gO,<-List.map_drop,ζ7];grind[XQ]
 rw[this];cases(o.drop base).all (·.lX);·rfl
 ·simp[gO]
theorem XO (i:nS call p.C) {k:Nat} {b:List cM} {a:List (Nat×Nat)} {st:bE} {K:bE->Prop} (h:GT p k b a st K):∃st',n9 call k b a st.g=some st'.g/\K st':=by
 unfold GT at h;obtain⟨st',T,f,j,d⟩:=G2 i h;rw[List.append_nil,List.reverse_reverse] at d;have e:(bE.mk st.env (st.o++δ k .dead)).g=⟨st.g.env,st.g.o++fu k⟩:=by simp[bE.g,Nu,XR]
 rw[e] at f j;have c:st.g.o.length=st.o.length:=by simp[bE.g,mA]
 split at d
 ·rename_i l;refine⟨_,?_,d⟩;simp only[n9,c];rw[f];simp only;rw[if_pos (by
   grind[fu,XS])];grind[bE.g,XP]
 simp_all
end
theorem A3 {v:SV}:isNil v=true↔v.g= .sc (.slice none 0 0):=by
 constructor
 ·intro h;unfold isNil at h;split at h;·rfl
  ·cases h
 ·intro h;cases v<;>simp only[γF,reduceCtorEq,δe] at h;subst h;rfl
section
variable {o:TP} {id:Nat} {s:ew} {l:List s.T} {e:TypeId}
def pid (id:Nat):Nat->Bool:=λi=>i==id
mutual
theorem Nt (r:o[id]?=some (.row s l e true)):∀{v:SV} {K:SV->Prop},iQ id s l v K->∃E:SV,v.g.Q5 (gO o) (pid id)=some E.g/\K E
 | .ow j n A,K,h=>by
  simp only[iQ] at h;split at h
  ·rename_i q;subst q;split at h
   ·rename_i u;subst u;obtain⟨rfl,D⟩:=h;refine⟨_,?_,D⟩;have I:Δ (l.length*s.sz) (bP s l)=bP s l:=γu (by grind[ec]);simp_all[γF,AV.Q5,pid,eY,iZ.g,ec]
   simp_all
  ·rename_i q;refine⟨_,?_,h⟩;simp_all[γF,AV.Q5,pid];| .os j w p n A,K,h=>by
  simp only[iQ] at h;split at h
  ·rename_i q;subst q;split at h
   ·rename_i u;subst u;obtain⟨rfl,C,D⟩:=h;refine⟨_,?_,D⟩;have F:(w+p)*s.sz<=l.length*s.sz:=γQ _ C;rw[δX] at F;have B:((l.drop w).take p).length=p:=by simp;omega
    simp only[γF,AV.Q5,pid,BEq.rfl,if_true,eY r,iZ.g,ec,F,and_self,xx,B]
   simp_all
  ·rename_i q;refine⟨_,?_,h⟩;simp_all[γF,AV.Q5,pid];| .oc j w p n A,K,h=>by
  simp only[iQ] at h;split at h;·exact h.elim
  ·rename_i q;exact⟨_,by simp_all[γF,AV.Q5,pid],h⟩;| .rp j i f n A,K,h=>by
  simp only[iQ] at h;split at h;·exact h.elim
  ·rename_i q;exact⟨_,by simp_all[γF,AV.Q5,pid],h⟩;| .ptr j f t,K,h=>by
  simp only[iQ] at h;split at h;·exact h.elim
  ·rename_i q;exact⟨_,by simp_all[γF,AV.Q5,pid],h⟩;| .ap j a b c d i,K,h=>by
  simp only[iQ] at h;split at h;·exact h.elim
  ·rename_i q;exact⟨_,by simp_all[γF,AV.Q5,pid],h⟩;| .agg x,K,h=>by
  simp only[iQ] at h;obtain⟨m,z,y⟩:=tO r h;grind[γF,AV.Q5];| .Gz x,K,h=>by
  simp only[iQ] at h;obtain⟨m,z,y⟩:=tO r h;grind[γF,AV.Q5];| .fn f a b,K,h=>by
  simp only[iQ] at h;obtain⟨M,z,y⟩:=tO r h;obtain⟨L,G,H⟩:=tO r y;grind[γF,AV.Q5];| .ud,K,h=>⟨.ud,by grind[γF,AV.Q5],by grind[iQ]⟩
 | .sc v,K,h=>⟨.sc v,by grind[γF,AV.Q5],by grind[iQ]⟩
 | .il k n,K,h=>⟨.il k n,by grind[γF,AV.Q5],by grind[iQ]⟩
 | .si k n,K,h=>⟨.si k n,by grind[γF,AV.Q5],by grind[iQ]⟩
 | .bl b,K,h=>⟨.bl b,by grind[γF,AV.Q5],by grind[iQ]⟩
 | .sb b,K,h=>⟨.sb b,by grind[γF,AV.Q5],by grind[iQ]⟩
 | .row s l,K,h=>⟨.row s l,by grind[γF,AV.Q5],by grind[iQ]⟩
 | .ep s l i f,K,h=>⟨.ep s l i f,by grind[γF,AV.Q5],by grind[iQ]⟩
 | .mp i,K,h=>⟨.mp i,by grind[γF,AV.Q5],by grind[iQ]⟩
 | .ia t x,K,h=>⟨.ia t x,by grind[γF,AV.Q5],by grind[iQ]⟩
 | .ite c a b,K,h=>⟨.ite c a b,by grind[γF,AV.Q5],by grind[iQ]⟩
theorem tO (r:o[id]?=some (.row s l e true)):∀{x:List SV} {K:List SV->Prop},pX id s l x K->∃m:List SV,gf (gO o) (pid id) (gL x)=some (gL m)/\K m
 |[],K,h=>⟨[],by simp[gL,gf],by grind[pX]⟩
 |c::x,K,h=>by
  simp only[pX] at h;obtain⟨J,z,y⟩:=Nt r h;obtain⟨m,G,H⟩:=tO r y;grind[gL,gf]
end
theorem G0 (b:o[id]?=some (.row s l e true)):∀{env:eC} {K:eC->Prop},xF id s l env K->∃a,tG (gO o) (pid id) (gE env)=some (gE a)/\K a
 |[],K,h=>⟨[],rfl,h⟩
 |(k,v)::r,K,h=>by
  simp only[xF] at h;obtain⟨f,d,c⟩:=Nt b h;obtain⟨j,g,i⟩:=G0 b c;grind[gE,tG]
theorem A2 {o:a_} {q:Nat->Bool}:∀{cs:List AV},(∀a∈cs,Plain a)->gf o q cs=some cs
 |[],_=>by simp[gf];|a::cs,h=>by
  have d:=A2 (o:=o) (q:=q) (cs:=cs) λb c=>h b (by simp[c]);rcases h a (by simp) with⟨v,rfl,_⟩|⟨n,e,rfl,_⟩<;>simp only[gf,AV.Q5,d]
theorem GZ {o:a_} {q:Nat->Bool}:∀{es:List (Value×AV)},(∀a∈es,∃v,a.2= .sc v)->oH o q es=some es
 |[],_=>by simp[oH];|(k,a)::es,h=>by
  obtain⟨v,b⟩:=h (k,a) (by simp);simp only at b;subst b;simp only[oH,AV.Q5,GZ (es:=es) λa c=>h a (by simp[c])]
theorem qy (j:o[id]?=some (.row s l e true)):∀{i:Nat} {r:TP} {K:TP->Prop},mD id s l i r K->∃r' mid,iR (gO o) (pid id) (gO r)=some mid/\e6 (pid id) i mid=gO r'/\K r'
 |i,[],K,h=>⟨[],[],rfl,rfl,h⟩
 |i,x::r,K,h=>by
  cases x with
  |dead=>
   simp only[mD] at h;obtain⟨r',mid,w,n,f⟩:=qy j h;grind[gO,iZ.g,iR,OL.Q5,e6];|cells N p F d=>
   simp only[mD] at h;cases d with
   |true=>
    simp only[if_true] at h;split at h;·exact h.elim
    ·rename_i B;obtain⟨r',mid,w,n,f⟩:=qy j h;refine⟨_,.cells (gL N) p F true::mid,?_,?_,f⟩;all_goals simp_all[gO,iZ.g,iR,OL.Q5,e6,pid];|false=>
    simp only[τ,if_false] at h;obtain⟨A,z,k⟩:=tO j h;obtain⟨r',mid,w,n,f⟩:=qy j k;refine⟨_,.cells (gL A) p F false::mid,?_,?_,f⟩;all_goals simp_all[gO,iZ.g,iR,OL.Q5,e6]
  |aol v u p t=>
   simp only[mD] at h;split at h;·exact h.elim
   ·obtain⟨O,z,k⟩:=tO j h;split at k
    ·rename_i m M;obtain⟨L,_⟩:=A6 M;obtain⟨r',mid,w,n,f⟩:=qy j k;refine⟨_,(iZ.row v (u++m) p false).g::mid,?_,?_,f⟩
     ·simp only[gO,ξ,iZ.g] at w z ⊢;have G:∀(a b c:List AV),gf (γc iZ.g o) (pid id) a=some a->gf (γc iZ.g o) (pid id) b=some c->gf (γc iZ.g o) (pid id) (a++b)=some (a++c):=λa b c w n=>by
       induction a<;>grind[gf]
      have P:gf (γc iZ.g o) (pid id) (bP v u)=some (bP v u):=A2 (λa C=>lQ C);simp_all[iR,OL.Q5,O3]
     ·simp only[iZ.g,e6,n];rfl
    simp_all;|row v u p d=>
   simp only[mD] at h;have y:(iZ.row v u p d).g.Q5 (gO o) (pid id)=some (iZ.row v u p d).g:=by
    cases d with
    |true=>simp only[iZ.g,OL.Q5,if_true];|false=>
     simp only[iZ.g,OL.Q5,τ,if_false];grind[A2,lQ]
   split at h
   ·rename_i B;cases d with
    |false=>simp_all;|true=>
     simp only[if_true] at h;obtain⟨r',mid,w,n,f⟩:=qy j h;refine⟨_,(iZ.row v u p true).g::mid,?_,?_,f⟩;all_goals simp_all[gO,iR,iZ.g,e6,pid]
   ·rename_i B;obtain⟨r',mid,w,n,f⟩:=qy j h;refine⟨_,(iZ.row v u p d).g::mid,?_,?_,f⟩;·grind[gO,iR]
    ·cases d<;>simp only[iZ.g,e6,n,pid,beq_iff_eq,if_neg B]<;>rfl;|map H D I E J d=>
   simp only[mD] at h;have y:(iZ.map H D I E J d).g.Q5 (gO o) (pid id)=some (iZ.map H D I E J d).g:=by
    cases d with
    |true=>simp only[iZ.g,OL.Q5,if_true];|false=>
     simp only[iZ.g,OL.Q5,τ,if_false];rw[GZ (λa C=>by obtain⟨q,_,rfl⟩:=Γ.1 C;exact⟨_,rfl⟩),ν]
   obtain⟨r',mid,w,n,f⟩:=qy j h;grind[gO,iR,iZ.g,e6]
end
theorem XN {v:SV}:(∃id,rQ.aui v=some id/\∃a b c,v.g= .os id a b c)\/(rQ.aui v=none/\∀id a b c,v.g≠ .os id a b c):=by
 cases v<;>simp[rQ.aui,γF]
theorem Ns {p:ig} {lo:Nat} {h:iM} {st:bE} {K:bE->Prop} {v:SV} (t:h.own=false) (f:Br h st.g=some v.g)
  (d:match rQ.aui v with
   |some id=>if Nat.ble lo id then(match st.o[id]? with
    |some (.row s l e pu)=>xF id s l st.env λenv=>mD id s l 0 (if pu then st.o else st.o.set id (.row s l e true)) λo=>K ⟨env,o⟩
    |_=>False) else K st
   |none=>K st):∃st',jE lo h st.g=st'.g/\K st':=by
 let _:=p;unfold jE;rw[if_neg (by simp[t]),f];rcases @XN v with⟨id,w,a,b,c,x⟩|⟨w,x⟩
 ·rw[w] at d;rw[x];simp only at d ⊢;split at d
  ·rename_i q;rw[if_pos q];split at d
   ·rename_i s l e pu m;have D:(λi=>i==id)=pid id:=rfl;cases pu with
    |true=>
     simp only[if_true] at d;obtain⟨j,A,n⟩:=G0 m d;obtain⟨B,u,C,y,r⟩:=qy m n;refine⟨_,?_,r⟩;simp_all[yq,bE.g,eY,iZ.g,Bo];|false=>
     simp only[τ,if_false] at d;have z:id<st.o.length:=(ζ.1 m).1;have k:(st.o.set id (.row s l e true))[id]?=some (.row s l e true):=by simp_all
     obtain⟨j,A,n⟩:=G0 (o:=st.o.set id (.row s l e true)) k d;obtain⟨B,u,C,y,r⟩:=qy k n;refine⟨_,?_,r⟩;simp_all[yq,bE.g,eY,iZ.g,np,oB,Bo]
   simp_all
  grind
 grind
section
variable {p:ig} {lo:Nat}
theorem XM {h:iM} {st:bE} {K:bE->Prop} (a:rQ p lo h st K):∃st',jE lo h st.g=st'.g/\K st':=by
 unfold rQ at a;split at a
 ·rename_i f;unfold jE;rw[if_pos f];unfold Bp;split at a
  ·rename_i b;simp only[b];split at a
   ·rename_i r;have t:=A3.1 r;rw[<-mB] at t;have B:cY st.g.env h.slot= .sc (.slice none 0 0):=t;rw[B];split at a
    ·rename_i s J;split at a
     ·rename_i w;refine⟨_,?_,a⟩;simp[bE.g,gE,gO,γF,iZ.g,bP,w]
     simp_all
    simp_all
   ·rename_i r;split at a
    ·rename_i z;split at a
     ·rename_i m G D d;have n:cY st.g.env h.slot= .os m 0 G (G*D):=by
       show cY (gE st.env) h.slot=_;rw[mB,d];rfl
      rw[n];split at a
      ·rename_i s l e y;refine⟨_,?_,a⟩;simp_all[Bq,bE.g,eY,iZ.g,oB]
      simp_all
     simp_all
    ·rename_i z;refine⟨st,?_,a⟩;split
     ·rename_i L;have:cY (gE st.env) h.slot= .sc (.slice none 0 0):=L;grind[mB,A3]
     all_goals simp_all
  ·rename_i k b;simp only[b];split at a
   ·rename_i m c j d;have n:cY st.g.env h.slot= .ptr m c j:=by
     show cY (gE st.env) h.slot=_;rw[mB,d];rfl
    rw[n];split at a
    ·rename_i i e F E y;have u:st.g.o[m]?=some (.cells (gL i) e F E):=eY y;simp only[u];split at a
     ·rename_i r;cases C:i[c+k]? with
      |none=>simp_all;|some v=>
       rw[C] at r;simp only[Option.any_some] at r;have M:=A3.1 r;have A:(gL i)[c+k]?=some (.sc (.slice none 0 0)):=by grind[rP]
       simp only[A,jj];split at a
       ·rename_i I;rw[if_pos I];split at a
        ·rename_i s J;split at a
         ·rename_i w;refine⟨_,?_,a⟩;have N:gL (i.set (c+k) (.ow st.o.length 0 h.sz))=(gL i).set (c+k) (.os st.o.length 0 0 0):=by
           simp_all[ft,γF]
          simp_all[bE.g,iZ.g,gO,bP]
         simp_all
        simp_all
       simp_all
     grind[rP,A3]
    simp_all
   simp_all
 ·rename_i f;have f:h.own=false:=by simpa using f
  unfold rQ.aHQ at a;cases b:h.bu with
  |none=>
   rw[b] at a;simp only at a;refine Ns (p:=p) (v:=jk st.env h.slot) f ?_ ?_;all_goals grind[Br,bE.g,mB];|some k=>
   rw[b] at a;simp only at a;cases q:jk st.env h.slot with
   |ptr m c j=>
    rw[q] at a;simp only at a;cases y:st.o[m]? with
    |none=>simp_all;|some x=>
     rw[y] at a;cases x with
     |cells i e F E=>
      simp only at a;by_cases H:i.length=j
      ·rw[if_pos H] at a;cases C:i[c+k]? with
       |none=>simp_all;|some v=>
        rw[C] at a;refine Ns (p:=p) (v:=v) f ?_ ?_
        ·unfold Br;rw[b];have:cY st.g.env h.slot= .ptr m c j:=by
          show cY (gE st.env) h.slot=_;rw[mB,q];rfl
         have u:st.g.o[m]?=some (.cells (gL i) e F E):=eY y;simp_all[behind,jj,rP]
        grind
      simp_all;|_=>exact a.elim
   |_=>rw[q] at a;exact a.elim
theorem GY:∀{hs:List iM} {st:bE} {K:bE->Prop},xE p lo hs st K->∃st',hs.foldl (λs h=>jE lo h s) st.g=st'.g/\K st'
 |[],st,K,h=>⟨st,rfl,h⟩
 |h::hs,st,K,hk=>by
  simp only[xE] at hk;obtain⟨st1,h1,h2⟩:=XM hk;obtain⟨st2,h3,h4⟩:=GY h2;exact⟨st2,by rw[List.foldl_cons,h1,h3],h4⟩
theorem XL (a:List Nat) (env:eC):gE (GS a env)=eK a (gE env):=by
 simp[GS,eK,gE,<-mB]
theorem GX (k:Nat) (st:bE):(eJ k st).g=trim k st.g:=by
 unfold eJ trim;have b:st.g.o.length=st.o.length:=by simp[bE.g,mA]
 have c:(st.g.env.all λp=>p.2.VI k)=(st.env.all λp=>p.2.VI k):=by
  simp only[bE.g,gE,ζ7];grind[xz]
 have d:((st.g.o.take k).all λx=>x.VI k)=((st.o.take k).all λx=>x.VI k):=by
  simp only[bE.g,gO,<-List.map_take,ζ7];grind[Al]
 rw[b,c,d];by_cases a:st.o.length<=k;·simp_all
 ·rw[if_neg a,if_neg a];split;·simp[bE.g,gO]
  ·rfl
variable {T:jm}
theorem Nr {v:Int} {n:Nat} {K:Nat->Prop}:∀{j:Nat},j<=n->gG v n K j->(n - j:Nat)<=v->∃i:Nat,v=i/\K i
 |0,_,h,a=>by
  grind[gG];|j+1,c,h,a=>by
  simp only[gG] at h;by_cases b:v=(n - (j+1):Nat);·grind
  ·exact Nr (by omega) h.2 (by omega)
theorem Nq {v:Int} {n:Nat} {K:Nat->Prop}:∀{j:Nat},gG v n K j->0<=v
 |0,h=>h.1
 |j+1,h=>Nq h.2
theorem XK {x:Option (Nat×Nat×Nat)} {st:bE} {K:bE->Prop} (h:mg x st K):∃st',st'.g=st.g/\K st':=by
 unfold mg at h;split at h;·grind
 ·rename_i p a n;split at h
  ·rename_i c e q r b;split at h
   ·rename_i k v o;obtain⟨i,rfl,f⟩:=Nr (Nat.le_refl _) h (by have:=Nq h;omega);refine⟨_,?_,f⟩;have l:gL (c.set a (.il k i))=gL c:=by
     rw[ft,ft,List.map_set];apply δa;grind[γF]
    simp only[bE.g,oB,iZ.g,l,bE.mk.injEq,St.mk.injEq,true_and];apply δa;intro j;rw[List.getElem?_set];split
    ·rename_i d;subst d;have m:=(ζ.1 b).1;rw[if_pos (by grind[mA]),GJ,b];rfl
    ·rfl
   simp_all
  simp_all
theorem Np:∀{e a:eC},vk e a->gE e=gE a
 |[],[],_=>rfl
 |[],_::_,h=>by grind[vk];|_::_,[],h=>by grind[vk];|(k,v)::e,(d,c)::a,h=>by
  simp only[vk] at h;split at h
  ·rename_i b;subst b;have:=Np h.2;simp only[gE,ξ] at this ⊢;rw[this,show v.g=c.g from h.1]
  simp_all
theorem vf:∀{o o':TP},jW o o'->gO o=gO o'
 |[],[],_=>rfl
 |[],_::_,h=>by grind[jW];|_::_,[],h=>by grind[jW];|x::o,y::o',h=>by
  simp only[jW] at h;have:=vf h.2;simp only[gO,ξ] at this ⊢;rw[this,show x.g=y.g from h.1]
theorem A1 {s t:bE} (h:xD s t):s.g=t.g:=by
 simp only[bE.g,Np h.1,vf h.2]
theorem aY0 (env:eC) (args:List Operand):args.map (dO (gE env))=gL (args.map (iJ env)):=by
 simp_all[ft,xA]
theorem tN (hC:nS T.K p.C) (hI:∀f F,p.it f=some F->T.fn f=some F):∀{c:IR} {Λ:Nat->bJ} {st:bE} {Q:Out->bE->Prop},wpS p lo c Λ st Q->VW T yv lo c st.g λout s=>∃ss,s=ss.g/\Q out ss:=by
 intro c;induction c with
 |skip=>intro Λ st Q h;exact VW.skip ⟨st,rfl,h⟩;|exit id=>intro Λ st Q h;exact VW.exit ⟨st,rfl,h⟩;|ret=>intro Λ st Q h;exact VW.ret ⟨st,rfl,h⟩;|goto l=>intro Λ st Q h;exact VW.goto ⟨st,rfl,h⟩;|nw x a b iha ihb=>
  intro Λ st Q h;simp only[wpS] at h;have hx:dO st.g.env x=(iJ st.env x).g:=xA _ _;split at h
  ·rename_i he;rw[he] at hx;exact VW.nw hx (by rw[if_pos rfl];exact iha h)
  ·rename_i he;rw[he] at hx;exact VW.nw hx (by rw[if_neg (by simp)];exact ihb h)
  ·rename_i c he;rw[he] at hx;have hset:∀v:SV,(SV.sb c).g=v.g->(bE.mk (Ar st.env x v) st.o).g=st.g:=λv hv=>by
    cases x with
    |tmp t=>
     have:jk st.env t= .sb c:=he;simp only[bE.g,Ar];rw[G3 (by rw[this];exact hv)];|_=>rfl
   refine VW.nw hx ?_;cases c with
   |true=>
    have:=iha (h.1 rfl);rw[hset (.bl true) rfl] at this;rw[if_pos rfl];exact this;|false=>
    have:=ihb (h.2 rfl);rw[hset (.bl false) rfl] at this;rw[if_neg (by simp)];exact this
  ·exact h.elim;|turns l b ih=>
  intro Λ st Q h;cases l with
  |none=>
   simp only[wpS] at h;refine VW.XA ((ih h).mono ?_);rintro out s ⟨ss,rfl,h2⟩;cases out with
   |norm=>exact⟨by simp,ss,rfl,h2⟩;|exit id=>exact⟨by simp,ss,rfl,h2⟩;|ret=>exact⟨by simp,ss,rfl,h2⟩;|goto l=>exact h2.elim
  |some l=>
   simp only[wpS] at h;split at h
   ·rename_i X shape next J m inner _;obtain⟨⟨h0,hx⟩,hstep⟩:=h;refine VW.Xz (λk s=>∃x,s=(shape x).g/\J x/\m x=k) ?_ (m (next st)) _ ⟨next st,A1 h0,hx,rfl⟩;rintro k s ⟨x,rfl,hj,rfl⟩;refine(ih (hstep x hj)).mono ?_;rintro out s ⟨ss,rfl,h2⟩;cases out with
    |goto l'=>
     obtain⟨rfl,h3,h4,h5⟩:=h2;refine .inl ⟨rfl,_,h5,_,?_,h4,rfl⟩;have h6:=A1 h3;rw[<-h6,GX,show(shape x).o.length=(shape x).g.o.length from by simp[bE.g,mA]];|norm=>exact .inr ⟨by simp,ss,rfl,h2⟩;|exit id=>exact .inr ⟨by simp,ss,rfl,h2⟩;|ret=>exact .inr ⟨by simp,ss,rfl,h2⟩
   ·exact h.elim
 |region id draw k ops chk live pre post=>
  intro Λ st Q h;simp only[wpS] at h;obtain⟨st0,h0,h⟩:=XK h;obtain⟨st1,h1,h2⟩:=GY h;obtain⟨st2,h3,h4⟩:=XO hC h2;obtain⟨st3,h5,h6⟩:=GY h4;refine VW.region ?_;rw[<-h0,h1,h3];refine⟨st3,?_,h6⟩;rw[<-h5];simp only[bE.g,XL];|dfr g caps d a b _ _=>intro Λ st Q h;exact h.elim;|seq a b iha ihb=>
  intro Λ st Q h;simp only[wpS] at h;refine VW.seq ((iha h).mono ?_);rintro out s ⟨ss,rfl,h2⟩;cases out with
  |norm=>rw[if_pos rfl];exact ihb h2;|exit id=>rw[if_neg (by simp)];exact⟨ss,rfl,h2⟩;|ret=>rw[if_neg (by simp)];exact⟨ss,rfl,h2⟩;|goto l=>rw[if_neg (by simp)];exact⟨ss,rfl,h2⟩
 |cond x a b iha ihb=>
  intro Λ st Q h;simp only[wpS] at h;have hx:dO st.g.env x=(iJ st.env x).g:=xA _ _;have hdr:(bE.mk (vj x st.env) st.o).g=⟨n5 x st.g.env,st.g.o⟩:=by
   have:∀(t:Nat) (env:eC),(xC t env).map (λp=>(p.1,p.2.g))=pN t (env.map λp=>(p.1,p.2.g)):=by
    intro t env;induction env with
    |nil=>rfl;|cons p env ih=>
     simp only[xC,pN,ξ];cases δu p.1 t with
     |true=>simpa using ih;|false=>simpa using ih
   cases x with
   |tmp t=>simp only[bE.g,gE,vj,n5];rw[this];|_=>rfl
  split at h
  ·rename_i he;rw[he] at hx;exact VW.cond hx (by rw[if_pos rfl,<-hdr];exact iha h)
  ·rename_i he;rw[he] at hx;exact VW.cond hx (by rw[if_neg (by simp),<-hdr];exact ihb h)
  ·rename_i c he;rw[he] at hx;refine VW.cond hx ?_;cases c with
   |true=>rw[if_pos rfl,<-hdr];exact iha (h.1 rfl);|false=>rw[if_neg (by simp),<-hdr];exact ihb (h.2 rfl)
  ·exact h.elim;|block id b ih=>
  intro Λ st Q h;simp only[wpS] at h;exact VW.block ((ih h).mono λout s ⟨ss,e,h2⟩=>⟨ss,e,h2⟩);|loop b ih=>
  intro Λ st Q h;simp only[wpS] at h;split at h
  ·rename_i n hΛ;clear hΛ;induction n generalizing st with
   |zero=>exact h.elim;|succ n ihn=>
    simp only[GR] at h;refine VW.loop ((ih h).mono ?_);rintro out s ⟨ss,rfl,h2⟩;cases out with
    |norm=>
     rw[if_pos rfl];have:=ihn h2;rwa [GX,show st.o.length=st.g.o.length from by simp[bE.g,mA]] at this;|exit id=>rw[if_neg (by simp)];exact⟨ss,rfl,h2⟩;|ret=>rw[if_neg (by simp)];exact⟨ss,rfl,h2⟩;|goto l=>rw[if_neg (by simp)];exact⟨ss,rfl,h2⟩
  ·exact h.elim
  ·rename_i X shape next J m inner _;obtain⟨⟨h0,hx⟩,hstep⟩:=h;refine VW.XB (λk s=>∃x,s=(shape x).g/\J x/\m x=k) ?_ (m (next st)) _ ⟨next st,A1 h0,hx,rfl⟩;rintro k s ⟨x,rfl,hj,rfl⟩;refine(ih (hstep x hj)).mono ?_;rintro out s ⟨ss,rfl,h2⟩;cases out with
   |norm=>
    rw[if_pos rfl];obtain⟨h3,h4,h5⟩:=h2;refine⟨_,h5,_,?_,h4,rfl⟩;have h6:=A1 h3;rw[<-h6,GX,show(shape x).o.length=(shape x).g.o.length from by simp[bE.g,mA]];|exit id=>rw[if_neg (by simp)];exact⟨ss,rfl,h2⟩;|ret=>rw[if_neg (by simp)];exact⟨ss,rfl,h2⟩;|goto l=>rw[if_neg (by simp)];exact⟨ss,rfl,h2⟩
theorem No {st:bE}:∀{a:List lU} {K:List SV->Prop},mC.goK st a K->∃l,a.mapM (pQ st.g)=some (gL l)/\K l
 |[],K,h=>⟨[],by simp[gL],h⟩
 |r::a,K,h=>by
  simp only[mC.goK] at h;have b:∃v,pQ st.g r=some v.g/\mC.goK st a λl=>K (v::l):=by
   unfold mC.aHR at h;unfold pQ;split at h
   ·rename_i c;rw[c];exact⟨_,by grind[bE.g,mB],h⟩
   grind[Pi,bE.g,mB]
  obtain⟨v,i,d⟩:=b;obtain⟨l,f,e⟩:=No d;exact⟨v::l,by simp_all[gL],e⟩
theorem ve {st:bE} {b:List lU} {K:SV->Prop} (h:mC st b K):∃r,mJ st.g b=some r.g/\K r:=by
 unfold mC at h;obtain⟨l,c,a⟩:=No h;unfold mJ;rw[c];match l,a with
 |[],a=>exact⟨_,rfl,a⟩;|[v],a=>exact⟨v,rfl,a⟩;|v::w::l,a=>exact⟨_,rfl,a⟩
theorem tM:∀(i:Nat) (args:List SV),gE (lP i args)=gn i (gL args)
 |_,[]=>rfl
 |i,v::a=>by
  have:=tM (i+1) a;grind[gE,lP,gL,gn]
theorem A0 {Λ:Nat->bJ} {P:Program} (hT:jX P T) (hC:nS T.K p.C) (hI:∀f F,p.it f=some F->T.fn f=some F) {f:FuncId} {F:el} (hF:T.fn f=some F) {args:List SV} {r:AV} (hK:T.K f (gL args) [] false=none) (hlen:args.length=F.params)
  {Q:SV->Prop} (hQ:∀v,Q v->v.g=r) (h:oj p Λ F args Q):fU P f=true/\jB P f (gL args) [] r []:=by
 unfold oj at h;have hw:=tN hC hI h;have hst:(bE.mk (lP 0 args) []).g=⟨gn 0 (gL args),[]⟩:=by simp[bE.g,tM,gO]
 rw[hst] at hw;obtain⟨h1,h2,_⟩:=Az hT hF (o:=[]) (own:=false) hK (by rw[jj];exact hlen) (v:=r) (o':=[]) (hw.mono λout s hs=>by
  obtain⟨ss,rfl,hq⟩:=hs;cases out with
  |exit id=>exact hq.elim;|goto l=>exact hq.elim;|norm=>
   obtain⟨r0,h1,h2⟩:=ve hq;obtain⟨v,h3,h4⟩:=GH h2;refine⟨.inl rfl,?_⟩;rw[h1];show finish false 0 r0.g ss.g.o=_;have:freeze ss.g.o 6 r0.g=some v.g:=h3;simp[finish,this,hQ _ h4];|ret=>
   obtain⟨r0,h1,h2⟩:=ve hq;obtain⟨v,h3,h4⟩:=GH h2;refine⟨.inr rfl,?_⟩;rw[h1];show finish false 0 r0.g ss.g.o=_;have:freeze ss.g.o 6 r0.g=some v.g:=h3;simp[finish,this,hQ _ h4]);exact⟨h1,h2⟩
end
structure o8 (α:Type) where
 put:α->SV
 dec:SV->Option α
 ok:∀v a,dec v=some a->v.g=(put a).g
 inj:∀a b,(put a).g=(put b).g->a=b
structure oA (α:Type) where
 put:α->List SV
 dec:List SV->Option α
 ok:∀v a,dec v=some a->gL v=gL (put a)
 inj:∀a b,gL (put a)=gL (put b)->a=b
def oA.one {d:Type} (c:o8 d):oA d where
 put a:=[c.put a];dec
  |[v]=>c.dec v
  |_=>none;ok v a h:=by
  match v,h with
  |[v],h=>simp only[gL,c.ok v a h]
 inj a b h:=by
  simp only[gL,Θ,and_true] at h;exact c.inj a b h
def oA.cons {f g:Type} (c:o8 f) (d:oA g):oA (f×g) where
 put a:=c.put a.1::d.put a.2;dec
  |v::e=>match c.dec v,d.dec e with
   |some a,some b=>some (a,b)
   |_,_=>none
  |[]=>none;ok v a h:=by
  match v,h with
  |v::e,h=>
   simp only at h;split at h
   ·rename_i x y j i;simp only[γ] at h;subst h;simp only[gL,c.ok v x j,d.ok e y i]
   ·cases h
 inj a b h:=by
  simp only[gL,Θ] at h;exact Prod.ext (c.inj _ _ h.1) (d.inj _ _ h.2)
def oA.nil:oA Unit where
 put _:=[];dec
  |[]=>some ()
  |_=>none;ok v a h:=by
  grind
 inj a b h:=rfl
structure NG where
 f:FuncId
 α:Type
 A:oA α
 dom:α->Prop
 res:α->SV
def Holds (P:Program) (c:NG):Prop:=∀a,c.dom a->fU P c.f=true/\jB P c.f (gL (c.A.put a)) [] (c.res a).G []
def lj (f:FuncId):List NG->Option NG
 |[]=>none
 |c::r=>bif δu c.f f then some c else lj f r
def tL (L:List NG) (f:FuncId) (args:List SV) (K:SV->Prop):Prop:=
 match lj f L with
 |some c=>ic (c.A.dec args) λa=>c.dom a/\zd (c.res a) K
 |none=>False
structure ku where
 K:FuncId->List AV->a_->Option (AV×a_)
 C:FuncId->List SV->TP->(SV->TP->Prop)->Prop
def ku.none:ku:=⟨λ_ _ _=> .none,λ_ _ _ _=>False⟩
noncomputable def pW (L:List NG) (W:ku):cw:=λf args o own=>
 if own then W.K f args o
 else match o with
  |[]=>match lj f L with
   |some c=>(tR (λa=>gL (c.A.put a)) c.dom (λa=>(c.res a).G) args).map λv=>(v,[])
   |none=> .none
  |_=> .none
noncomputable def nQ (a:FuncId->Option el) (L:List NG) (W:ku):jm:=⟨a,pW L W⟩
structure mz (P:Program) (W:ku):Prop where
 K:∀f args o r o',W.K f args o=some (r,o')->fU P f=true/\jB P f args o r o'
 C:∀(call:cw),(∀f args o,call f args o true=W.K f args o)->∀f args o K,W.C f args o K->∃(r:SV) (o':TP),gU call f (gL args) (gO o)=some (r.g,gO o')/\K r o'
theorem mz.none (P:Program):mz P ku.none where
 K:=λ_ _ _ _ _ h=>by cases h
 C:=λ_ _ _ _ _ _ h=>h.elim
theorem Nn:∀{L:List NG} {f:FuncId} {c:NG},lj f L=some c->c.f=f/\c∈L
 |[],_,_,h=>by cases h;|d::L,f,c,h=>by
  simp only[lj] at h;cases a:δu d.f f with
  |true=>
   simp_all;|false=>
   rw[a] at h;simp only[cond_false] at h;obtain⟨b,e⟩:=Nn h;simp_all
theorem GW:∀{v:SV} {K:SV->Prop},zd v K->∃w:SV,w.g=v.G/\K w
 | .ite c a b,K,h=>by
  cases c with
  |true=>exact GW (v:=a) (h.1 rfl);|false=>exact GW (v:=b) (h.2 rfl)
 | .ud,_,h| .sc _,_,h| .il _ _,_,h| .si _ _,_,h| .bl _,_,h| .sb _,_,h| .agg _,_,h| .Gz _,_,h| .row _ _,_,h| .ep _ _ _ _,_,h| .ptr _ _ _,_,h| .ap _ _ _ _ _ _,_,h| .rp _ _ _ _ _,_,h| .ow _ _ _,_,h| .os _ _ _ _ _,_,h| .oc _ _ _ _ _,_,h| .mp _,_,h| .fn _ _ _,_,h| .ia _ _,_,h=>⟨_,rfl,h⟩
theorem vd:∀{w v:SV},v.pY w->v.g=w.G
 | .ite c a b,v,h=>by
  cases c with
  |true=>exact vd (w:=a) (h.1 rfl);|false=>exact vd (w:=b) (h.2 rfl)
 | .ud,_,h| .sc _,_,h| .il _ _,_,h| .si _ _,_,h| .bl _,_,h| .sb _,_,h| .agg _,_,h| .Gz _,_,h| .row _ _,_,h| .ep _ _ _ _,_,h| .ptr _ _ _,_,h| .ap _ _ _ _ _ _,_,h| .rp _ _ _ _ _,_,h| .ow _ _ _,_,h| .os _ _ _ _ _,_,h| .oc _ _ _ _ _,_,h| .mp _,_,h| .fn _ _ _,_,h| .ia _ _,_,h=>h
variable {P:Program} {L:List NG} {W:ku} {fn:FuncId->Option el}
theorem rM (j:mz P W) (k:∀c∈L,Holds P c) (n:jX P ⟨fn,λ_ _ _ _=>none⟩):jX P (nQ fn L W) where
 fn:=n.fn;K:=λg e o b r q h=>by
  simp only[nQ,pW] at h;cases b with
  |true=>
   simp only[if_true] at h;obtain⟨p,d⟩:=j.K _ _ _ _ _ h;simp_all;|false=>
   simp only[τ,if_false] at h;split at h
   ·split at h
    ·rename_i c l;obtain⟨rfl,f⟩:=Nn l;obtain⟨v,m,d⟩:=ε.1 h;simp only[Prod.mk.injEq] at d;obtain⟨rfl,rfl⟩:=d;obtain⟨a,rfl,i,rfl⟩:=Xx m;obtain⟨t,s⟩:=k c f a i;simp_all
    ·cases h
   ·cases h
theorem rL (hW:mz P W):nS (nQ fn L W).K ⟨tL L,W.C⟩ where
 pure:=λf args K h=>by
  simp only[tL] at h;split at h
  ·rename_i c hc;obtain⟨a,h1,h2,h3⟩:=iG h;obtain⟨r,h4,h5⟩:=GW h3;refine⟨r,?_,h5⟩;have:=c.A.ok _ _ h1;simp only[nQ,pW,τ,if_false,hc,this];rw[Xy (enc:=λa=>gL (c.A.put a)) c.A.inj h2,h4];rfl
  ·exact h.elim
 own:=λf args o K h=>hW.C _ (λf args o=>by simp[nQ,pW]) f args o K h
theorem FC {f:FuncId} {args:List AV} (h:lj f L=none):(nQ fn L W).K f args [] false=none:=by
 simp[nQ,pW,h]
def kr (L:List NG) (W:ku) (a:TypeId->Option ew) (c:List Nat×Bool->Option (ew×ew)) (b:FuncId->Option el):ig:=⟨⟨tL L,W.C⟩,a,c,λ_=>none,b,λ_=>false⟩
theorem holds_of (c:NG) {F:el} {ty:TypeId->Option ew} {mt:List Nat×Bool->Option (ew×ew)} {Λ:c.α->Nat->bJ} (h0:jX P ⟨fn,λ_ _ _ _=>none⟩) (hW:mz P W) (hL:∀c∈L,Holds P c)
  (hF:fn c.f=some F) (hfr:lj c.f L=none) (hlen:∀a,(c.A.put a).length=F.params)
  (h:∀a,c.dom a->oj (kr L W ty mt fn) (Λ a) F (c.A.put a) λv=>v.pY (c.res a)):Holds P c:=by
 intro a hd;exact A0 (p:=kr L W ty mt fn) (Λ:=Λ a) (rM hW hL h0) (rL hW) (λ_ _ h=>h) hF (FC hfr) (hlen a) (λ_ h=>vd h) (h a hd)
def FB (L:List NG) (W:ku) (a:TypeId->Option ew) (c:List Nat×Bool->Option (ew×ew)) (b:FuncId->Option el) (d:FuncId->Bool):ig:=⟨⟨tL L,W.C⟩,a,c,λ_=>none,b,d⟩
theorem XJ (c:NG) {F:el} {ty:TypeId->Option ew} {mt:List Nat×Bool->Option (ew×ew)} {ro:FuncId->Bool} {Λ:c.α->Nat->bJ} (h0:jX P ⟨fn,λ_ _ _ _=>none⟩) (hW:mz P W) (hL:∀c∈L,Holds P c)
  (hF:fn c.f=some F) (hfr:lj c.f L=none) (hlen:∀a,(c.A.put a).length=F.params)
  (h:∀a,c.dom a->oj (FB L W ty mt fn ro) (Λ a) F (c.A.put a) λv=>v.pY (c.res a)):Holds P c:=by
 intro a hd;exact A0 (p:=FB L W ty mt fn ro) (Λ:=Λ a) (rM hW hL h0) (rL hW) (λ_ _ h=>h) hF (FC hfr) (hlen a) (λ_ h=>vd h) (h a hd)
def dX (k:IntKind):o8 Int where
 put n:=.si k n;dec v:=v.int k;ok v a h:=by rw[gT h];rfl
 inj a b h:=by grind[γF]
def Nm:o8 Bool where
 put b:=.sb b;dec v:=v.pj;ok v a h:=by rw[tj h];rfl
 inj a b h:=by grind[γF]
theorem qx:(s:ew)->(x y:s.T)->cI s x=cI s y->(e:s.flat=true:=by rfl)->x=y
 | .i k,x,y,h,_=>by grind[cI];| .b,x,y,h,_=>by grind[cI];| .bun,⟨o,B,r,f,j,q⟩,⟨p,l,g,u,A,z⟩,h,_=>by
  simp_all[cI,iv];| .bu,⟨b,⟨o,B,r,f,j,q⟩,v⟩,⟨c,⟨p,l,g,u,A,z⟩,w⟩,h,_=>by
  simp_all[cI,iv];| .need,⟨a,b⟩,⟨c,d⟩,h,_=>by
  simp_all[cI,iv];| .key,⟨b,⟨o,B,r,f,j,q⟩⟩,⟨c,⟨p,l,g,u,A,z⟩⟩,h,_=>by
  simp_all[cI,iv];| .sit,⟨m,⟨o,B,r,f,j,q⟩,⟨K,F,G,N,L,P⟩⟩,⟨n,⟨p,l,g,u,A,z⟩,⟨O,J,M,I,H,E⟩⟩,h,_=>by
  simp_all[cI,iv];| .Ap _,_,_,_,e=>by grind[ew.flat];| .pair s t,(a,b),(c,d),h,e=>by
  simp only[ew.flat,θ] at e;simp only[cI] at h;obtain⟨D,C⟩:=εF h (by grind[Gd]);rw[qx s a c D e.1,qx t b d C e.2]
theorem FA {d i:Type} {n:Nat} {f:d->List i} (a:∀x,(f x).length=n) (c:∀x y,f x=f y->x=y):∀{l m:List d},l.length=m.length->l.flatMap f=m.flatMap f->l=m
 |[],[],_,_=>rfl
 |[],_::_,h,_=>by simp at h;|_::_,[],h,_=>by simp at h;|x::l,y::m,b,h=>by
  simp only[δ0] at h;obtain⟨e,g⟩:=εF h (by rw[a,a]);simp only[γK,ζu] at b;rw[c x y e,FA a c b g]
theorem vc:(s:ew)->(x y:s.T)->(h:df s x=df s y)->x=y
 | .Ap s,x,y,h=>by
  simp only[df,Θ,AV.sl.injEq,and_true] at h;exact FA (kD s) (vc s) h.1 h.2;| .pair s t,(a,b),(c,d),h=>by
  simp only[df] at h;obtain⟨e,f⟩:=εF h (by grind[kD]);rw[vc s a c e,vc t b d f];| .i k,x,y,h=>qx (.i k) x y (rN h)
 | .b,x,y,h=>qx .b x y (rN h)
 | .bun,x,y,h=>qx .bun x y (rN h)
 | .bu,x,y,h=>qx .bu x y (rN h)
 | .need,x,y,h=>qx .need x y (rN h)
 | .key,x,y,h=>qx .key x y (rN h)
 | .sit,x,y,h=>qx .sit x y (rN h)
theorem kq (s:ew) {l m:List s.T} (a:l.length=m.length) (h:bP s l=bP s m):l=m:=
 FA (kD s) (vc s) a h
def dD (s:ew):o8 s.T where
 put x:=.agg (cR s x);dec
  | .agg c=>jl s c
  |_=>none;ok v a h:=by
  grind[γF,ft,mH,rW]
 inj a b h:=by
  grind[γF,ft,rW,vc]
theorem nl {s:ew} {v:SV} {l:List s.T} (h:iH s v=some l):v.g=(SV.row s l).g:=by
 cases v<;>simp only[iH,reduceCtorEq] at h;grind[xu,γF,bP]
def cO (s:ew):o8 (List s.T) where
 put l:=.row s l;dec:=iH s;ok v a h:=nl h;inj a b h:=by
  grind[γF,kq]
end Go.Vi
