import Derived.Test.YtbnhiekmnpikhaaGreatDR04
set_option maxRecDepth 100000
set_option maxHeartbeats 4000000
set_option linter.all false
open And renaming intro->γk
open BitVec renaming ofInt->γo
open Bool renaming and_eq_true->θ,and_true->δT,false_eq_true->φ,or_eq_true->δo,true_eq_false->ζS
open Function renaming comp_def->δn
open Go.Vi.AV renaming sc->δh,bH->δz
open Go.Vi.AV.sc renaming injEq->δf
open Go.Vi.SV renaming g->γE
open List renaming replicate->δ,map_map->γ5,mem_map->Ω,length_cons->γG,length->γb,drop_drop->δk,getElem?_eq_getElem->μ,take->Γ,take_of_length_le->γp,map_cons->π,take_append_drop->γP,cons_append->γI,modify_succ_cons->ζG,getElem?_eq_some_iff->ζ,map_append->γa,flatMap_nil->ζB,nil_append->δM,drop_zero->εq,map_nil->γr,take_succ_cons->δw,range->ω,range'->ζw,range'_succ->εu,range_eq_range'->δF,flatMap_cons->δY,all_map->ζZ,map->γd,ext_getElem?->γ9,append_inj->εG
open List.cons renaming injEq->Δ
open Nat renaming beq->δu,add_assoc->ε0,mul_le_mul_right->γN,add_mul->δV,add_right_cancel_iff->ζq
open Option renaming map_eq_some_iff->ε,map_some->ν,isSome_some->ζT,isSome_none->ζf
open Option.some renaming injEq->γ
namespace Go.Vi
abbrev eD:=List (Nat×SV)
abbrev TN:=List iZ
structure VK where
 env:eD
 o:TN
def jl:eD->Nat->SV
 |[],_=> .ud
 |p::r,s=>bif δu p.1 s then p.2 else jl r s
def tg (env:eD) (a:Option Nat) (v:SV):eD:=
 match a with
 |none=>env
 |some d=>(d,v)::env
def SV.nh:Value->SV
 | .int k n=> .il k n
 | .bool b=> .bl b
 |v=> .sc v
def SV.tb:Value->SV
 | .agg a=>if a.toList.all (·.oneCell') then .agg (a.toList.map .nh) else .ud
 | .tuple _=> .ud
 | .int k n=> .il k n
 | .bool b=> .bl b
 |v=> .sc v
def iL (env:eD):Operand->SV
 | .tmp t=>jl env t
 | .const v=> .tb v
 | .global _=> .ud
 | .func f=> .fn (.func f) [] []
def SV.cellsOf:SV->List SV
 | .agg a=>a
 |v=>[v]
def SV.one:SV->Bool
 | .agg _| .Gz _| .ud| .ite _ _ _=>false
 | .sc v=>v.oneCell'
 |_=>true
def vm (l:List SV):Bool:=l.all (·.one)
mutual
def SV.pure:SV->Bool
 | .sc _| .il .. | .si .. | .bl _| .sb _| .row .. =>true
 |_=>false
def xG:List SV->Bool
 |[]=>true
 |c::a=>c.pure&&xG a
end
mutual
def SV.TP (k:Nat):SV->Bool
 | .ud| .sc _| .il .. | .si .. | .bl _| .sb _| .row .. | .ep .. =>true
 | .agg e| .Gz e=>qA k e
 | .ptr d .. | .ap d .. | .rp d .. | .ow d .. | .os d .. | .oc d .. | .mp d=>decide (d<k)
 | .fn _ a b=>qA k a&&qA k b
 | .ia _ _| .ite _ _ _=>true
def qA (k:Nat):List SV->Bool
 |[]=>true
 |c::e=>c.TP k&&qA k e
end
def iZ.TP (k:Nat):iZ->Bool
 | .cells b _ _ a=>a||qA k b
 | .aor _ _ _ t=>qA k t
 |_=>true
mutual
def SV.kh:SV->Bool
 | .ud| .sc _| .il .. | .si .. | .bl _| .sb _=>true
 | .agg a| .Gz a=>Am a
 |_=>false
def Am:List SV->Bool
 |[]=>true
 |c::a=>c.kh&&Am a
end
def VI (k:IntKind) (n:Int):Prop:=
 match k with
 | .i64=> -9223372036854775808<=n/\n<=9223372036854775807
 |k=>k.wrap n=n
def tf (k:IntKind) (n:Int) (K:Int->Prop):Prop:=
 match k with
 | .u32=>K (n % 4294967296)
 | .u64=>K (n % 18446744073709551616)
 |k=>VI k n/\K n
structure OK where
 pure:FuncId->List SV->(SV->Prop)->Prop
 own:FuncId->List SV->TN->(SV->TN->Prop)->Prop
structure ic where
 C:OK
 ty:TypeId->Option ew
 mt:List Nat×Bool->Option (ew×ew)
 sp:Nat->Option (Nat×Nat×Nat):=λ_=>none
 it:FuncId->Option ey:=λ_=>none
 ro:FuncId->Bool:=λ_=>false
def qz (cs:List SV) (a:Nat):Option Nat->Option SV
 |none=>cs[a]?
 |some n=>if a+n<=cs.length then some (.agg ((cs.drop a).take n)) else none
def rR (cs:List SV) (a:Nat):List SV->List SV
 |[]=>cs
 |v::b=>rR (cs.set a v) (a+1) b
def h_ {b:Type} (x:Option b) (K:b->Prop):Prop:=match x with|some a=>K a|none=>False
def te {b:Type} (f:SV->(b->Prop)->Prop):List SV->(List b->Prop)->Prop
 |[],K=>K []
 |v::c,K=>f v λa=>te f c λd=>K (a::d)
def pX (o:TN):Nat->SV->(SV->Prop)->Prop
 |_,.ud,K=>K .ud
 |_,.sc v,K=>match v with
  | .slice none 0 0=>K (.row (.i .i64) [])
  |v=>K (.sc v)
 |_,.il k n,K=>K (.il k n)
 |_,.si k n,K=>K (.si k n)
 |_,.bl b,K=>K (.bl b)
 |_,.sb b,K=>K (.sb b)
 |_,.row s l,K=>K (.row s l)
 |_,.ia t cs,K=>K (.ia t cs)
 |d+1,.agg cs,K=>te (pX o d) cs λcs'=>K (.agg cs')
 |d+1,.Gz cs,K=>te (pX o d) cs λcs'=>K (.Gz cs')
 |d+1,.fn f a b,K=>te (pX o d) a λa'=>te (pX o d) b λb'=>K (.fn f a' b')
 |_+1,.ow id n sz,K=>match o[id]? with
  |some (.row s l _ _)=>if sz=s.sz then n=l.length/\K (.row s l) else False
  |_=>False
 |_+1,.os id bu len n sz,K=>match o[id]? with
  |some (.row s l _ _)=>if sz=s.sz then n=l.length/\bu+len<=n/\K (.row s ((l.drop bu).take len)) else False
  |_=>False
 |_,_,_=>False
def lE (o:TN) (a:SV) (n:Option Nat) (K:SV->Prop):Prop:=
 match a with
 | .ptr h b d=>match o[h]? with
  |some (.cells c _ _ _)=>if c.length=d then h_ (qz c b n) K else False
  |_=>False
 | .ap h e g f d i=>match o[h]? with
  |some (.cells c _ _ _)=>if c.length=d/\e+g*f<=d then i<f/\awf ((c.drop e).take (g*f)) g i n K else False
  |_=>False
 | .ep s l i b=>i<l.length/\h_ (qz (cJ s (bN l i s.bw)) b n) K
 | .rp h i b m g=>match o[h]? with
  |some (.row s l _ _)=>if g=s.sz then m=l.length/\i<l.length/\h_ (qz (cJ s (bN l i s.bw)) b n) K else False
  |_=>False
 |_=>False
where
 awf (c:List SV) (g i:Nat) (n:Option Nat) (K:SV->Prop):Prop:=
  match n,g with
  |none,1=>match ints c with
   |some l=>K (.si .i64 (bN l i 0))
   |none=>match rowsOff c with
    |some l=>K (.row .bu (bN l i []))
    |none=>False
  |_,_=>False;rowsOff:List SV->Option (List (List bC))
  |[]=>some []
  | .row .bu l::c=>(rowsOff c).map (l::·)
  |_=>none
def qd (oz:Nat) (x:iZ) (o:TN) (K:TN->Prop):Prop:=
 match o[oz]? with
 |some .dead=>K (o.set oz x)
 |_=>False
def qy (a:List (Nat×Nat×SV)) (cs:List SV):Option (List SV):=
 match a with
 |[]=>some cs
 |(b,n,v)::c=>
  if v.cellsOf.length=n/\vm v.cellsOf=true/\b+n<=cs.length then qy c (rR cs b v.cellsOf) else none
def rQ (s:ew):Nat->List SV->Option (List s.T)
 |0,[]=>some []
 |n+1,a=>match jm s (a.take s.sz),rQ s n (a.drop s.sz) with
  |some x,some l=>some (x::l)
  |_,_=>none
 |_,_=>none
def td (o:TN) (s:ew) (x:SV) (K:List s.T->Prop):Prop:=
 match x with
 | .row a l=>h_ (gG a s l) K
 | .ow d n e=>match o[d]? with
  |some (.row a l _ _)=>if e=a.sz then n=l.length/\h_ (gG a s l) K else False
  |_=>False
 | .os d c b n e=>match o[d]? with
  |some (.row a l _ _)=>if e=a.sz then n=l.length/\c+b<=n/\h_ (gG a s ((l.drop c).take b)) K else False
  |_=>False
 | .sc (.slice none 0 0)=>K []
 |_=>False
def OJ (o:TN):SV->Option (List SV)
 | .ow j 1 a=>match o[j]? with
  |some (.aor s [] _ t)=>if s.sz=a then some t else none
  |_=>none
 |_=>none
def SV.OI:SV->Bool
 | .ow .. =>true
 |_=>false
def xF:SV->Option Int
 | .si _ n=>some n
 | .il _ n=>some n
 |_=>none
def isNil:SV->Bool
 | .sc (.slice none 0 0)=>true
 |_=>false
def gd (e:BinOp) (x y:SV) (K:SV->Prop):Prop:=
 match x,y with
 | .il k a,.il d b=>match gh e (.int k a) (.int d b) with
  |some (.int k n)=>K (.il k n)
  |some (.bool c)=>K (.bl c)
  |_=>False
 | .si k a,.si d b=>go k a d b
 | .il k a,.si d b=>go k a d b
 | .si k a,.il d b=>go k a d b
 | .sc (.string a),.sc (.string b)=>match e with
  | .eql=>K (.sb (a.toList==b.toList))
  | .neq=>K (.sb (!(a.toList==b.toList)))
  |_=>False
 |_,_=>False
where
 go (k:IntKind) (a:Int) (d:IntKind) (b:Int):Prop:=
  match e with
  | .shl=>0<=b/\b<=k.bits/\tf k (a*2^b.toNat) λn=>K (.si k n)
  | .shr=>0<=b/\b<=k.bits/\K (.si k (a / 2^b.toNat))
  | .add=>if k=d then tf k (a+b) λn=>K (.si k n) else False
  | .sub=>if k=d then tf k (a - b) λn=>K (.si k n) else False
  | .mul=>if k=d then tf k (a*b) λn=>K (.si k n) else False
  | .quo=>if k=d then b≠0/\VI k (a.tdiv b)/\K (.si k (a.tdiv b)) else False
  | .rem=>if k=d then b≠0/\K (.si k (a.tmod b)) else False
  | .and=>if k=d then K (.si k (asY k a b)) else False
  | .or=>if k=d then K (.si k (orI k a b)) else False
  | .xor=>if k=d then K (.si k (aBy k a b)) else False
  | .andNot=>if k=d then K (.si k (ayt k a b)) else False
  | .eql=>if k=d then K (.sb (decide (a=b))) else False
  | .neq=>if k=d then K (.sb (decide (a≠b))) else False
  | .lss=>if k=d then K (.sb (decide (a<b))) else False
  | .leq=>if k=d then K (.sb (decide (a<=b))) else False
  | .gtr=>if k=d then K (.sb (decide (b<a))) else False
  | .geq=>if k=d then K (.sb (decide (b<=a))) else False;asY (k:IntKind) (a b:Int):Int:=ed k (γo k.bits a &&&γo k.bits b).toNat;orI (k:IntKind) (a b:Int):Int:=ed k (γo k.bits a |||γo k.bits b).toNat;aBy (k:IntKind) (a b:Int):Int:=ed k (γo k.bits a ^^^γo k.bits b).toNat;ayt (k:IntKind) (a b:Int):Int:=ed k (γo k.bits a &&&~~~(γo k.bits b)).toNat
def F8:SV->SV->Option Bool
 | .si k a,y=>(y.int k).map λb=>decide (a=b)
 | .il k a,y=>(y.int k).map λb=>decide (a=b)
 | .sb a,y=>y.ph.map λb=>a==b
 | .bl a,y=>y.ph.map λb=>a==b
 |_,_=>none
def rP:List SV->List SV->Option Bool
 |[],[]=>some true
 |x::d,y::c=>match F8 x y,rP d c with
  |some a,some b=>some (a&&b)
  |_,_=>none
 |_,_=>none
def kz:List Nat->List SV->Bool
 |[],[]=>true
 |0::a,.si _ _::b=>kz a b
 |0::a,.il _ _::b=>kz a b
 |1::a,.sb _::b=>kz a b
 |1::a,.bl _::b=>kz a b
 |_,_=>false
def mI (a sv:ew) (x:a.T) (es:List (a.T×sv.T)):Option sv.T:=(es.find? λp=>decide (p.1=x)).map (·.2)
def qx (a sv:ew) (x:a.T) (v:sv.T):List (a.T×sv.T)->List (a.T×sv.T)
 |[]=>[(x,v)]
 |p::r=>if p.1=x then(x,v)::r else p::qx a sv x v r
def tc (a:Bool):SV->Bool
 | .agg _=>a
 |_=>!a
def ew.keyed:ew->Bool
 | .key| .sit| .i _=>true
 |_=>false
def mH (d:Nat):Option SV->(Nat->Prop)->Prop
 |none,K=>K d
 |some (.il _ n),K=>if 0<=n then K n.toNat else False
 |some (.si _ n),K=>0<=n/\K n.toNat
 |_,_=>False
def rO:List Int->Nat->Int->Nat->List Int
 |[],_,_,_=>[]
 |a::l,i,v,j=>(if i=j then v else a)::rO l i v (j+1)
def zb:SV->(SV->Prop)->Prop
 | .ite c a b,K=>(c=true->zb a K)/\(c=false->zb b K)
 |v,K=>K v
def SV.G:SV->AV
 | .ite c a b=>match c with
  |true=>a.G
  |false=>b.G
 |v=>v.g
def dR (p:ic) (op:bT) (ρ:Operand->SV) (o:TN) (oz:Nat) (K:SV->TN->Prop):Prop:=
 match op with
 | .mov x=>K (ρ x) o
 | .pick c a b=>match ρ c with
  | .bl true=>K (ρ a) o
  | .bl false=>K (ρ b) o
  | .sb c=>(c=true->K (ρ a) o)/\(c=false->K (ρ b) o)
  |_=>False
 | .alloc z e pu=>qd oz (.cells (z.map .nh) e z.length pu) o λo'=>K (.ptr oz 0 z.length) o'
 | .box e x=>if vm (ρ x).cellsOf then qd oz (.cells (ρ x).cellsOf e (ρ x).cellsOf.length false) o λo'=>K (.ptr oz 0 (ρ x).cellsOf.length) o' else False
 | .build z parts=>h_ (qy (parts.map λq=>(q.1,q.2.1,ρ q.2.2)) (z.map .nh)) λcs=>K (.agg cs) o
 | .aoK z len parts e sz=>match p.ty e,qy (parts.map λq=>(q.1,sz,ρ q.2)) ((δ len (z.map SV.nh)).flatten) with
  |some s,some cs=>if s.sz=sz then(if cs.any SV.OI then(if cs.length=len*sz then qd oz (.aor s [] e cs) o λo'=>K (.ow oz len sz) o' else False) else h_ (rQ s len (cs.map SV.qn)) λl=>qd oz (.row s l e true) o λo'=>K (.ow oz len sz) o') else False
  |_,_=>False
 | .ark z len parts e sz=>match p.ty e,qy (parts.map λq=>(q.1,sz,ρ q.2)) ((δ len (z.map SV.nh)).flatten) with
  |some s,some cs=>if s.sz=sz then h_ (rQ s len (cs.map SV.qn)) λl=>K (.row s l) o else False
  |_,_=>False
 | .load n a=>lE o (ρ a) n λv=>K v o
 | .store n a x=>match ρ a with
  | .ptr id bu tot=>match o[id]? with
   |some (.cells cs e sz pu)=>
    if cs.length=tot/\(ρ x).cellsOf.length=n/\vm (ρ x).cellsOf=true/\bu+n<=cs.length/\(pu=false\/xG (ρ x).cellsOf=true) then K .ud (o.set id (.cells (rR cs bu (if pu then(ρ x).cellsOf.map SV.qn else(ρ x).cellsOf)) e sz pu)) else False
   |_=>False
  | .rp id i bu m sz=>match o[id]? with
   |some (.row s l e pu)=>
    if sz=s.sz/\(ρ x).cellsOf.length=n/\bu+n<=s.sz then m=l.length/\i<l.length/\h_ (jm s (rR (cJ s (bN l i s.bw)) bu (if pu then(ρ x).cellsOf.map SV.qn else(ρ x).cellsOf))) λv=>K .ud (o.set id (.row s (l.set i v) e pu)) else False
   |_=>False
  | .ap id base sz len tot i=>match o[id]? with
   |some (.cells cs e sz' pu)=>match n,sz,(ρ x).int .i64 with
    |1,1,some v=>match ints ((cs.drop base).take len) with
     |some l=>if cs.length=tot/\base+len<=tot then i<len/\K .ud (o.set id (.cells (rR cs base ((rO l i v 0).map (SV.si .i64))) e sz' pu)) else False
     |none=>False
    |_,_,_=>False
   |_=>False
  |_=>False
 | .asv x=>match ρ x with
  | .ptr a b c=>K (.ptr a b c) o
  | .rp a b c d e=>K (.rp a b c d e) o
  | .ep s l i f=>K (.ep s l i f) o
  |_=>False
 | .bin op x y=>gd op (ρ x) (ρ y) λv=>K v o
 | .beq neg x y=>match(ρ x).ph,(ρ y).ph with
  |some a,some b=>K (.sb (if neg then !(a==b) else a==b)) o
  |_,_=>False
 | .eqf neg ks x y=>match ρ x,ρ y with
  | .agg a,.agg b=>if kz ks a&&kz ks b then h_ (rP a b) λr=>K (.sb (if neg then !r else r)) o else False
  |_,_=>False
 | .arl neg x y=>match ρ x,ρ y with
  | .ptr _ _ _,.sc (.pointer none)=>K (.bl neg) o
  | .sc (.pointer none),.sc (.pointer none)=>K (.bl !neg) o
  |_,_=>False
 | .un op x=>match op,ρ x with
  | .not,.sb b=>K (.sb !b) o
  | .not,.bl b=>K (.bl !b) o
  | .neg,.si k n=>VI k (-n)/\K (.si k (-n)) o
  | .neg,.il k n=>K (.il k (ed k (0 - n))) o
  |_,_=>False
 | .conv k x=>match ρ x with
  | .il _ n=>K (.il k (ed k n)) o
  | .si .i64 n=>VI k n/\K (.si k n) o
  | .si _ n=>tf k n λm=>K (.si k m) o
  |_=>False
 | .asw bu x=>match ρ x with
  | .ptr id b tot=>K (.ptr id (b+bu) tot) o
  | .ep s l i b=>K (.ep s l i (b+bu)) o
  | .rp id i b m sz=>K (.rp id i (b+bu) m sz) o
  |_=>False
 | .field bu n x=>match ρ x with
  | .agg cs=>h_ (qz cs bu n) λv=>K v o
  |_=>False
 | .asx len sz x i=>match ρ i with
  | .il _ n=>if 0<=n/\n<len then(match ρ x with
   | .ptr id b tot=>K (.ptr id (b+n.toNat*sz) tot) o
   | .ep s l j b=>K (.ep s l j (b+n.toNat*sz)) o
   | .rp id j b m sz'=>K (.rp id j (b+n.toNat*sz) m sz') o
   |_=>False) else False
  | .si _ n=>match ρ x with
   | .ptr id b tot=>0<=n/\n<len/\K (.ap id b sz len tot n.toNat) o
   |_=>False
  |_=>False
 | .aqE sz x i=>match xF (ρ i) with
  |some n=>match ρ x with
   | .row s l=>if sz=s.sz then 0<=n/\n<l.length/\K (.ep s l n.toNat 0) o else False
   | .ow id m sz'=>match o[id]? with
    |some (.row s l _ _)=>if sz=s.sz/\sz'=s.sz then m=l.length/\0<=n/\n<l.length/\K (.rp id n.toNat 0 m sz) o else False
    |_=>False
   | .os id bu len m sz'=>match o[id]? with
    |some (.row s l _ _)=>if sz=s.sz/\sz'=s.sz then m=l.length/\0<=n/\n<len/\bu+len<=m/\K (.rp id (bu+n.toNat) 0 m sz) o else False
    |_=>False
   | .oc id bu len m sz'=>match o[id]? with
    |some (.row s l _ _)=>if sz=s.sz/\sz'=s.sz then m=l.length/\0<=n/\n<len/\bu+len<=m/\K (.rp id (bu+n.toNat) 0 m sz) o else False
    |_=>False
   |_=>False
  |none=>False
 | .idx len sz n x i=>match ρ i,ρ x with
  | .il _ k,.agg cs=>if 0<=k/\k<len then h_ (qz cs (k.toNat*sz) n) λv=>K v o else False
  | .si _ k,.agg cs=>match n,sz,ints cs with
   |none,1,some l=>if l.length=len then 0<=k/\k<len/\K (.si .i64 (bN l k.toNat 0)) o else False
   |_,_,_=>False
  |_,_=>False
 | .apa z e sz bytes l c pu=>match xF (ρ l),xF (ρ c),p.ty e with
  |some n,some m,some s=>if s.sz=sz then h_ (jm s (if pu then(z.map SV.nh).map SV.qn else z.map .nh)) λx=>0<=n/\n<=m/\m*bytes<=140737488355328/\m<=1000000000000/\
    qd oz (.row s (δ n.toNat x) e pu) o λo'=>K (.ow oz n.toNat sz) o' else False
  |_,_,_=>False
 | .slice sz x lo hi=>match ρ x with
  | .row s l=>if sz=s.sz then mH 0 (lo.map ρ) λa=>mH l.length (hi.map ρ) λb=>a<=b/\b<=l.length/\K (.row s ((l.drop a).take (b - a))) o else False
  | .ow id m sz'=>match o[id]? with
   |some (.row s l _ _)=>if sz=s.sz/\sz'=s.sz then m=l.length/\mH 0 (lo.map ρ) λa=>mH m (hi.map ρ) λb=>a<=b/\b<=m/\K (.os id a (b - a) m sz) o else False
   |_=>False
  | .os id bu len m sz'=>match o[id]? with
   |some (.row s l _ _)=>if sz=s.sz/\sz'=s.sz then m=l.length/\mH 0 (lo.map ρ) λa=>mH len (hi.map ρ) λb=>a<=b/\b<=len/\K (.os id (bu+a) (b - a) m sz) o else False
   |_=>False
  |_=>False
 | .slice3 sz x lo hi mx=>match ρ x with
  | .row s l=>if sz=s.sz then mH 0 (lo.map ρ) λa=>mH l.length (some (ρ hi)) λb=>mH l.length (some (ρ mx)) λm=>a<=b/\b<=m/\m<=l.length/\K (.row s ((l.drop a).take (b - a))) o else False
  | .ow id n sz'=>match o[id]? with
   |some (.row s l _ _)=>if sz=s.sz/\sz'=s.sz then n=l.length/\mH 0 (lo.map ρ) λa=>mH n (some (ρ hi)) λb=>mH n (some (ρ mx)) λm=>a<=b/\b<=m/\m<=n/\K (.oc id a (b - a) n sz) o else False
   |_=>False
  |_=>False
 | .append e sz bytes s x pu=>match p.ty e,OJ o (ρ x) with
  |some t,some tl=>match ρ s,ρ x with
   | .ow id n sz',.ow _ _ sz2=>match o[id]? with
    |some (.row t' l e' pu')=>if e'=e/\t'.sz=sz/\sz'=sz/\sz2=sz/\t.sz=sz/\pu'=false/\tl.length=sz/\vm tl=true then n=l.length/\(l.length+1)*bytes<=140737488355328/\l.length+1<=1000000000000/\
      K (.ow id (l.length+1) sz) (o.set id (.aor t' l e tl)) else False
    |_=>False
   |_,_=>False
  |some t,none=>if t.sz=sz then td o t (ρ x) λnew=>match ρ s with
    | .sc (.slice none 0 0)=>(new.length=0->K (.sc yp) o)/\(new.length≠0->new.length*bytes<=140737488355328/\new.length<=1000000000000/\qd oz (.row t new e pu) o λo'=>K (.ow oz new.length sz) o')
    | .ow id n sz'=>match o[id]? with
     |some (.row t' l e' pu')=>if e'=e/\t'.sz=sz/\sz'=sz then n=l.length/\(l.length+new.length)*bytes<=140737488355328/\l.length+new.length<=1000000000000/\
       h_ (gG t' t l) λl'=>K (.ow id (l'++new).length sz) (o.set id (.row t (l'++new) e pu')) else False
     |_=>False
    | .row t' l=>new.length=0/\K (.row t' l) o
    |_=>False
   else False
  |none,_=>False
 | .len k x=>match k,ρ x with
  |0,.row _ l=>K (.si .i64 l.length) o
  |0,.ow _ n _=>K (.si .i64 n) o
  |0,.os _ _ len _ _=>K (.si .i64 len) o
  |0,.oc _ _ len _ _=>K (.si .i64 len) o
  |0,.sc (.slice none 0 0)=>K (.il .i64 0) o
  |1,.sc (.string s)=>K (.si .i64 s.size) o
  |2,.mp id=>match o[id]? with
   |some (.map _ _ _ es _ _)=>K (.si .i64 es.length) o
   |_=>False
  |_,_=>False
 | .asz n=>K (.il .i64 n) o
 | .mm mx x y=>match ρ x,ρ y with
  | .il k a,.il k' b=>if k=k' then K (.il k (if mx then(if b>a then b else a) else(if b<a then b else a))) o else False
  | .si k a,y=>h_ (y.int k) λb=>K (.si k (if mx then max a b else min a b)) o
  | .il k a,y=>h_ (y.int k) λb=>K (.si k (if mx then max a b else min a b)) o
  |_,_=>False
 | .call f args own=>awh p f (args.map ρ) o own K
 | .ak7 f args own=>match ρ f with
  | .fn (.func g) first captured=>awh p g (first++args.map ρ++captured) o own K
  |_=>False
 | .extract x i=>match ρ x with
  | .Gz vs=>h_ vs[i]? λv=>K v o
  |_=>False
 | .arn f first captured=>K (.fn f (first.map ρ) (captured.map ρ)) o
 | .asA t x=>match ρ x with
  | .agg cs=>if xG cs=true then K (.ia t cs) o else False
  |_=>False
 | .aok tab x args=>match ρ x with
  | .ia t cs=>match tF tab t with
   |some f=>awh p f (.agg cs::args.map ρ) o false K
   |none=>False
  |_=>False
 | .apb kt pu=>match p.mt kt with
  |some (sk,sv)=>qd oz (.map sk sv kt.2 [] kt pu) o λo'=>K (.mp oz) o'
  |none=>False
 | .lookup z agg ks ka x k ok=>match ρ x with
  | .mp id=>match o[id]? with
   |some (.map sk sv ka' es kt _)=>
    if kt=(ks,ka)/\ka'=ka/\sk.keyed=true/\sv.vn=true/\agg=false/\(ka=false->sk.sz=1)/\kz ks (ρ k).cellsOf=true/\tc ka (ρ k)=true then
     h_ (jm sk (ρ k).cellsOf) λkv=>h_ (jm sv (z.map .nh)) λzv=>
      let r:=(cJ sv ((mI sk sv kv es).getD zv)).headD .ud;K (if ok then .Gz [r,.sb (mI sk sv kv es).isSome] else r) o
    else False
   |_=>False
  |_=>False
 | .apT ks ka x k v=>match ρ x with
  | .mp id=>match o[id]? with
   |some (.map sk sv ka' es kt pu)=>
    if kt=(ks,ka)/\ka'=ka/\sk.keyed=true/\sv.vn=true/\(ka=false->sk.sz=1)/\kz ks (ρ k).cellsOf=true/\tc ka (ρ k)=true/\tc false (ρ v)=true then
     h_ (jm sk (ρ k).cellsOf) λkv=>h_ (jm sv (ρ v).cellsOf) λvv=>K .ud (o.set id (.map sk sv ka' (qx sk sv kv vv es) kt pu))
    else False
   |_=>False
  |_=>False
 |_=>False
where
 awh (p:ic) (f:FuncId) (args:List SV) (o:TN) (own:Bool) (K:SV->TN->Prop):Prop:=
  if own then p.C.own f args o K
  else te (pX o 6) args λargs'=>p.C.pure f args' λr=>if(args.flatMap (λv=>eG (o.map iZ.g) 6 v.g)).isEmpty||r.kh then K r o else False
def vl:eD->Nat->SV->eD
 |[],_,_=>[]
 |p::r,s,v=>bif δu p.1 s then(p.1,v)::r else p::vl r s v
def GS (env:eD) (g:Option (Option Nat×Bool)) (K:eD->Bool->Prop):Prop:=
 match g with
 |none=>K env true
 |some (none,_)=>False
 |some (some s,b)=>match jl env s with
  | .bl c=>K env (c==b)
  | .sb c=>(c=true->K (vl env s (.bl true)) (true==b))/\(c=false->K (vl env s (.bl false)) (false==b))
  | .Gz []=>K env false
  |_=>False
def SV.bi (v w:SV):Prop:=v.g=w.g
def SV.pW (v:SV):SV->Prop
 | .ite c a b=>(c=true->v.pW a)/\(c=false->v.pW b)
 |w=>v.bi w
def iZ.bi (x y:iZ):Prop:=x.g=y.g
def jY:TN->TN->Prop
 |[],[]=>True
 |x::o,y::a=>x.bi y/\jY o a
 |_,_=>False
def IT (p:ic) (a:bT) (o o':TN) (K:Bool->Prop):Prop:=
 match a with
 | .call f _ true=>if p.ro f=true then jY o o'/\K true else K false
 |_=>K false
def vk (p:ic) (base:Nat):List cM->VK->Trace->(VK->Trace->Prop)->Prop
 |[],b,c,K=>K b c
 |i::r,b,c,K=>GS b.env i.guard λa w=>
   if w then dR p i.op (iL a) b.o (base+i.oz) λv d=>IT p i.op b.o d λe=>vk p base r ⟨tg a i.dst v,d⟩ ((i.idx,dh i.op (λx=>(iL a x).g) (b.o.map iZ.g) (base+i.oz),if e then[] else fk i.op (λx=>(iL a x).g) (b.o.map iZ.g) (base+i.oz))::c) K
   else vk p base r ⟨tg a i.dst (.Gz []),b.o⟩ ((i.idx,[],[])::c) K
def iZ.lV:iZ->Bool
 | .dead=>true
 |_=>false
def GR (base:Nat) (o:TN):TN:=if(o.drop base).all (·.lV) then o.take base else o
def GQ (p:ic) (k:Nat) (c:List cM) (b:List (Nat×Nat)) (st:VK) (K:VK->Prop):Prop:=
 vk p st.o.length c ⟨st.env,st.o++δ k .dead⟩ [] λa d=>
  if b.isEmpty||rz (st.o.length+k) d.reverse b then K ⟨a.env,if k=0 then a.o else GR st.o.length a.o⟩ else False
mutual
def iP (id:Nat) (s:ew) (l:List s.T):SV->(SV->Prop)->Prop
 | .ow j n m,K=>if j=id then(if m=s.sz then n=l.length/\K (.row s l) else False) else K (.ow j n m)
 | .os j h g n m,K=>if j=id then(if m=s.sz then n=l.length/\h+g<=n/\K (.row s ((l.drop h).take g)) else False) else K (.os j h g n m)
 | .oc j h g n m,K=>if j=id then False else K (.oc j h g n m)
 | .rp j i f n m,K=>if j=id then False else K (.rp j i f n m)
 | .ptr j f t,K=>if j=id then False else K (.ptr j f t)
 | .ap j a b c d e,K=>if j=id then False else K (.ap j a b c d e)
 | .agg o,K=>pV id s l o λk=>K (.agg k)
 | .Gz o,K=>pV id s l o λk=>K (.Gz k)
 | .fn f a b,K=>pV id s l a λp=>pV id s l b λr=>K (.fn f p r)
 |v,K=>K v
def pV (id:Nat) (s:ew) (l:List s.T):List SV->(List SV->Prop)->Prop
 |[],K=>K []
 |c::o,K=>iP id s l c λq=>pV id s l o λk=>K (q::k)
end
def xE (id:Nat) (s:ew) (l:List s.T):eD->(eD->Prop)->Prop
 |[],K=>K []
 |(k,v)::r,K=>iP id s l v λa=>xE id s l r λb=>K ((k,a)::b)
def mG (id:Nat) (s:ew) (l:List s.T):Nat->TN->(TN->Prop)->Prop
 |_,[],K=>K []
 |i,x::r,K=>match x with
  | .cells g e h b=>if b then(if i=id then False else mG id s l (i+1) r λa=>K (.cells g e h b::a)) else pV id s l g λd=>mG id s l (i+1) r λa=>K (.cells d e h b::a)
  | .aor c f e t=>if i=id then False else pV id s l t λj=>match rQ c 1 j with
   |some m=>mG id s l (i+1) r λa=>K (.row c (f++m) e false::a)
   |none=>False
  | .row c f e b=>if i=id then(if b then mG id s l (i+1) r λa=>K (.dead::a) else False) else mG id s l (i+1) r λa=>K (.row c f e b::a)
  |x=>mG id s l (i+1) r λa=>K (x::a)
def rN (p:ic) (lo:Nat) (h:iO) (st:VK) (K:VK->Prop):Prop:=
 if h.own then match h.bu with
  |none=>if isNil (jl st.env h.slot) then(match p.ty h.e with
    |some s=>if s.sz=h.sz then K ⟨(h.slot,.ow st.o.length 0 h.sz)::st.env,st.o++[.row s [] h.e h.pu]⟩ else False
    |none=>False) else if h.sz=0 then(match jl st.env h.slot with
     | .ow a _ _=>match st.o[a]? with
      |some (.row s l e true)=>K ⟨st.env,st.o.set a (.row s l e false)⟩
      |_=>False
     |_=>False) else K st
  |some k=>match jl st.env h.slot with
   | .ptr a b c=>match st.o[a]? with
    |some (.cells d e i f)=>if(d[b+k]?).any isNil then(if d.length=c/\f=false then(match p.ty h.e with
      |some s=>if s.sz=h.sz then K ⟨st.env,(st.o.set a (.cells (d.set (b+k) (.ow st.o.length 0 h.sz)) e i f))++[.row s [] h.e h.pu]⟩ else False
      |none=>False) else False) else K st
    |_=>False
   |_=>False
 else match aHI h st with
  |some (some a)=>if Nat.ble lo a then(match st.o[a]? with
   |some (.row s l e f)=>xE a s l st.env λg=>mG a s l 0 (if f then st.o else st.o.set a (.row s l e true)) λo=>K ⟨g,o⟩
   |_=>False) else K st
  |some none=>K st
  |none=>False
where
 aum:SV->Option Nat
  | .ow a .. =>some a
  | .os a .. =>some a
  | .oc a .. =>some a
  |_=>none;aHI (h:iO) (st:VK):Option (Option Nat):=
  match h.bu with
  |none=>some (aum (jl st.env h.slot))
  |some k=>match jl st.env h.slot with
   | .ptr a b c=>match st.o[a]? with
    |some (.cells d _ _ _)=>if d.length=c then(d[b+k]?).map aum else none
    |_=>none
   |_=>none
def xD (p:ic) (lo:Nat):List iO->VK->(VK->Prop)->Prop
 |[],st,K=>K st
 |h::hs,st,K=>rN p lo h st λst'=>xD p lo hs st' K
def GP (a:List Nat) (env:eD):eD:=a.map λs=>(s,jl env s)
def eJ (k:Nat) (st:VK):VK:=
 if st.o.length<=k then st
 else if(st.env.all λp=>p.2.TP k)&&((st.o.take k).all λx=>x.TP k) then⟨st.env,st.o.take k⟩ else st
def vj:eD->eD->Prop
 |[],[]=>True
 |(k,v)::e,(b,c)::a=>if k=b then v.bi c/\vj e a else False
 |_,_=>False
def xC (s t:VK):Prop:=vj s.env t.env/\jY s.o t.o
def iS (s:VK) (k:Nat):Int:=match jl s.env k with
 | .si _ n=>n
 | .il _ n=>n
 |_=>0
def bS (s:VK) (k:Nat):Bool:=match jl s.env k with
 | .sb b=>b
 | .bl b=>b
 |_=>false
def rS (t:ew) (s:VK) (k:Nat):List t.T:=match jl s.env k with
 | .row a l=>match gG a t l with
  |some l=>l
  |none=>[]
 |_=>[]
def oS (t:ew) (s:VK) (id:Nat):List t.T:=match s.o[id]? with
 |some (.row a l _ _)=>match gG a t l with
  |some l=>l
  |none=>[]
 |_=>[]
def gH (v:Int) (n:Nat) (K:Nat->Prop):Nat->Prop
 |0=>0<=v/\v<n
 |j+1=>(v=(n - (j+1):Nat)->K (n - (j+1)))/\gH v n K j
def mg (x:Option (Nat×Nat×Nat)) (st:VK) (K:VK->Prop):Prop:=
 match x with
 |none=>K st
 |some (b,a,n)=>match st.o[b]? with
  |some (.cells c e f d)=>match c[a]? with
   |some (.si k v)=>gH v n (λj=>K ⟨st.env,st.o.set b (.cells (c.set a (.il k j)) e f d)⟩) n
   |_=>False
  |_=>False
inductive bG where
 |apq (n:Nat)
 |look
 |inv (X:Type) (shape:X->VK) (next:VK->X) (J:X->Prop) (m:X->Nat) (inner:X->Nat->bG)
def uf (_:VK):Prop:=False
def tQ:IR->Nat
 | .region c .. =>c
 | .seq .skip b=>tQ b
 | .seq a _=>tQ a
 | .block _ b=>tQ b
 | .loop b=>tQ b
 | .turns _ b=>tQ b
 |_=>0
def GO (W:VK->(Out->VK->Prop)->Prop) (Q:Out->VK->Prop):Nat->VK->Prop
 |0,_=>False
 |n+1,b=>W b λa s=>match a with
  | .norm=>GO W Q n (eJ b.o.length s)
  |o=>Q o s
def xB (t:Nat):eD->eD
 |[]=>[]
 |p::r=>bif δu p.1 t then xB t r else p::xB t r
def vi (x:Operand) (env:eD):eD:=
 match x with
 | .tmp t=>xB t env
 |_=>env
def Al (env:eD) (x:Operand) (v:SV):eD:=
 match x with
 | .tmp t=>vl env t v
 |_=>env
def wpS (p:ic) (lo:Nat):IR->(Nat->bG)->VK->(Out->VK->Prop)->Prop
 | .skip,_,st,Q=>Q .norm st
 | .region id draw k ops chk live pre post,_,st,Q=>mg (p.sp id) st λst0=>xD p lo pre st0 λst1=>GQ p k ops chk st1 λst2=>xD p lo post ⟨GP live st2.env,st2.o⟩ λst3=>Q .norm st3
 | .seq a b,Λ,st,Q=>wpS p lo a Λ st λout s=>match out with
  | .norm=>wpS p lo b Λ s Q
  |o=>Q o s
 | .cond x a b,Λ,st,Q=>match iL st.env x with
  | .bl true=>wpS p lo a Λ ⟨vi x st.env,st.o⟩ Q
  | .bl false=>wpS p lo b Λ ⟨vi x st.env,st.o⟩ Q
  | .sb c=>(c=true->wpS p lo a Λ ⟨vi x st.env,st.o⟩ Q)/\(c=false->wpS p lo b Λ ⟨vi x st.env,st.o⟩ Q)
  |_=>False
 | .block id b,Λ,st,Q=>wpS p lo b Λ st λout s=>Q (out.inBlock id) s
 | .loop b,Λ,st,Q=>match Λ (tQ b) with
  | .apq n=>GO (wpS p lo b Λ) Q n st
  | .look=>uf st
  | .inv _ shape next J m inner=>(xC st (shape (next st))/\J (next st))/\∀x,J x->wpS p lo b (inner x) (shape x) λout s=>match out with
   | .norm=>xC (eJ (shape x).o.length s) (shape (next (eJ (shape x).o.length s)))/\J (next (eJ (shape x).o.length s))/\m (next (eJ (shape x).o.length s))<m x
   |o=>Q o s
 | .exit id,_,st,Q=>Q (.exit id) st
 | .ret,_,st,Q=>Q .ret st
 | .goto l,_,st,Q=>Q (.goto l) st
 | .nr x a b,Λ,st,Q=>match iL st.env x with
  | .bl true=>wpS p lo a Λ st Q
  | .bl false=>wpS p lo b Λ st Q
  | .sb c=>(c=true->wpS p lo a Λ ⟨Al st.env x (.bl true),st.o⟩ Q)/\(c=false->wpS p lo b Λ ⟨Al st.env x (.bl false),st.o⟩ Q)
  |_=>False
 | .turns none b,Λ,st,Q=>wpS p lo b Λ st λout s=>match out with
  | .goto _=>False
  |o=>Q o s
 | .turns (some l) b,Λ,st,Q=>match Λ (tQ b) with
  | .inv _ shape next J m inner=>(xC st (shape (next st))/\J (next st))/\∀x,J x->wpS p lo b (inner x) (shape x) λout s=>match out with
   | .goto l'=>l'=l/\xC (eJ (shape x).o.length s) (shape (next (eJ (shape x).o.length s)))/\J (next (eJ (shape x).o.length s))/\m (next (eJ (shape x).o.length s))<m x
   |o=>Q o s
  |_=>uf st
 | .dfr ..,_,_,_=>False
def lN:Nat->List SV->eD
 |_,[]=>[]
 |i,v::a=>(i,v)::lN (i+1) a
def mE (st:VK) (a:List lS) (K:SV->Prop):Prop:=
 goK a λl=>match l with
  |[v]=>K v
  |l=>K (.Gz l)
where
 goK:List lS->(List SV->Prop)->Prop
  |[],K=>K []
  |r::a,K=>aHJ r λv=>goK a λl=>K (v::l);aHJ (r:lS) (K:SV->Prop):Prop:=match r.cell with
  |none=>K (jl st.env r.slot)
  |some n=>lE st.o (jl st.env r.slot) n K
def oj (p:ic) (Λ:Nat->bG) (F:ey) (args:List SV) (Q:SV->Prop):Prop:=
 wpS p 0 F.body Λ ⟨lN 0 args,[]⟩ λa b=>match a with
  | .exit _=>False
  | .goto _=>False
  |_=>mE b F.res λr=>pX b.o 6 r Q
def xA (p:ic) (Λ:Nat->bG) (F:ey) (args:List SV) (o:TN) (Q:SV->TN->Prop):Prop:=
 wpS p o.length F.body Λ ⟨lN 0 args,o⟩ λb a=>match b with
  | .exit _=>False
  | .goto _=>False
  |_=>mE a F.res λr=>if r.TP o.length&&a.o.all (λx=>x.TP o.length)&&decide (o.length<=a.o.length) then Q r (a.o.take o.length) else False
def gE (env:eD):iR:=env.map λp=>(p.1,p.2.g)
def gO (o:TN):a_:=o.map iZ.g
def VK.g (st:VK):St:=⟨gE st.env,gO st.o⟩
theorem mD:∀(env:eD) (s:Nat),cX (gE env) s=(jl env s).g
 |[],_=>by simp[gE,cX,jl,γE];|p::r,s=>by
  have:=mD r s;grind[gE,cX,jl]
theorem OH (env:eD) (d:Option Nat) (v:SV):gE (tg env d v)=ns (gE env) d v.g:=by
 cases d<;>simp[tg,ns,gE]
theorem OG (v:Value):(SV.nh v).g= .sc v:=by cases v<;>simp[SV.nh,γE]
theorem GN (l:List Value):(l.map SV.nh).map γE=l.map .sc:=by simp[OG]
theorem xz (env:eD) (x:Operand):dM (gE env) x=(iL env x).g:=by
 cases x with
 |tmp t=>simp[dM,iL,mD];|const v=>
  cases v<;>simp[dM,iL,AV.tb,SV.tb,γE];split<;>simp[γE,fu,OG];|global g=>simp[dM,iL,γE];|func f=>simp[dM,iL,γE,gL]
theorem OF (env:eD):dM (gE env)=λx=>(iL env x).g:=funext λx=>xz env x
theorem Ak (v:SV):v.g.cellsOf=gL v.cellsOf:=by
 cases v<;>simp[γE,AV.cellsOf,SV.cellsOf,gL]
theorem YG (v:SV):v.g.one=v.one:=by
 cases v<;>simp[γE,AV.one,SV.one,Value.oneCell']
theorem Aj (l:List SV):dP (gL l)=vm l:=by
 induction l<;>grind[gL,dP,vm,YG]
theorem GM:∀(l:List SV),xG l=true->cK (gL l)=true
 |[],_=>by simp[gL,cK];|v::l,h=>by
  simp only[xG,θ] at h;simp only[gL,cK,GM l h.2,δT];have a:=h.1;cases v<;>simp[SV.pure] at a<;>simp[γE,AV.pure,ni]
mutual
theorem xy (k:Nat):∀(v:SV),v.g.TP k=v.TP k
 | .agg c=>by simp only[γE,AV.TP,SV.TP];exact tP k c;| .Gz c=>by simp only[γE,AV.TP,SV.TP];exact tP k c;| .fn _ a b=>by simp only[γE,AV.TP,SV.TP,tP k a,tP k b];| .ud| .sc _| .il .. | .si .. | .bl _| .sb _| .row .. | .ep .. | .ptr .. | .ap .. | .rp .. | .ow .. | .os .. | .oc .. | .mp _| .ia _ _| .ite _ _ _=>by simp[γE,AV.TP,SV.TP]
theorem tP (k:Nat):∀(l:List SV),dF k (gL l)=qA k l
 |[]=>by simp[gL,dF,qA];|v::l=>by simp only[gL,dF,qA,xy k v,tP k l]
end
theorem YF (k:Nat) {b sv:ew} (c:Bool) (es:List (b.T×sv.T)):dF k ((es.map λp=>(nQ b c p.1,lP sv p.2)).map (·.2))=true:=
 F_ λa h=>by
  simp only[γ5,Ω,Function.comp] at h;grind[lP,AV.TP]
theorem Ai (k:Nat) (x:iZ):x.g.TP k=x.TP k:=by
 cases x with
 |dead=>rfl;|cells n e m d=>simp[iZ.g,OL.TP,iZ.TP,tP];|row s l e d=>simp[iZ.g,OL.TP,iZ.TP,OQ];|aor s l e t=>
  have c:∀a b:List AV,dF k (a++b)=(dF k a&&dF k b):=λa b=>by
   induction a<;>grind[dF]
  grind[iZ.g,OL.TP,iZ.TP,OQ,tP];|map i o f j h d=>simp only[iZ.g,OL.TP,iZ.TP,YF,Bool.or_true]
mutual
theorem OE:∀(v:SV),v.kh=true->v.g.kh=true
 | .agg a,h=>by simp only[SV.kh] at h;simp only[γE,AV.kh];exact GL a h;| .Gz a,h=>by simp only[SV.kh] at h;simp only[γE,AV.kh];exact GL a h;| .ud,_| .sc _,_| .il ..,_| .si ..,_| .bl _,_| .sb _,_=>by simp[γE,AV.kh];| .row ..,h| .ep ..,h| .ptr ..,h| .ap ..,h| .rp ..,h| .ow ..,h| .os ..,h| .oc ..,h| .mp _,h| .fn ..,h| .ia _ _,h| .ite _ _ _,h=>by simp[SV.kh] at h
theorem GL:∀(l:List SV),Am l=true->tG (gL l)=true
 |[],_=>by simp[gL,tG];|v::l,h=>by
  simp only[Am,θ] at h;simp only[gL,tG,OE v h.1,GL l h.2,δT]
end
theorem jk (l:List SV):(gL l).length=l.length:=by simp[fu]
theorem rM (l:List SV) (i:Nat):(gL l)[i]?=(l[i]?).map γE:=by simp[fu]
theorem rL (a b:List SV):gL (a++b)=gL a++gL b:=by simp[fu]
theorem Ah {cs:List SV} {a:Nat} {n:Option Nat} {v:SV} (h:qz cs a n=some v):fD (gL cs) a n=some v.g:=by
 cases n with
 |none=>grind[qz,fD,rM];|some m=>
  simp only[qz] at h;split at h
  ·rename_i b;simp only[γ] at h;subst h;simp_all[fD,γE,fu]
  ·cases h
theorem xx:∀(vs cs:List SV) (a:Nat),gL (rR cs a vs)=fz (gL cs) a (gL vs)
 |[],cs,a=>by simp[rR,gL,fz];|v::vs,cs,a=>by
  simp only[rR,gL,fz];rw[xx vs];simp_all[fu]
theorem GK (cs:List SV):gL (cs.map SV.qn)=(gL cs).map AV.qn:=by
 simp_all[fu,YH]
theorem GJ (pu:Bool) (cs:List SV):gL (if pu then cs.map SV.qn else cs)=ee pu (gL cs):=by
 grind[ee,GK]
theorem Xl {c:AV} (h:Plain c.qn):c.one=true/\c.pure=true:=by
 by_cases a:c.qn=c
 ·rw[a] at h;exact⟨h.one,h.pure⟩
 ·unfold AV.qn at a;split at a;·exact⟨rfl,rfl⟩
  simp_all
theorem GI {pu:Bool} {cs:List AV} (h:∀c∈ee pu cs,Plain c):dP cs=true/\cK cs=true:=by
 have b:∀c∈cs,c.one=true/\c.pure=true:=by
  intro c a;unfold ee at h;split at h;·grind[Xl]
  ·exact⟨(h c a).one,(h c a).pure⟩
 grind[dP,Ar]
theorem GH:∀(vs a b c:List AV) (d:Nat),d+vs.length<=b.length->fz (a++b++c) (a.length+d) vs=a++fz b d vs++c
 |[],a,b,c,d,_=>rfl
 |v::vs,a,b,c,d,h=>by
  simp only[γG] at h;simp only[fz];have e:(a++b++c).set (a.length+d) v=a++b.set d v++c:=by
   grind
  rw[e,ε0,GH vs a (b.set d v) c (d+1) (by simp;omega)]
theorem OD {s:ew} {l:List s.T} {i:Nat} (h:i<l.length):bO s l=bO s (l.take i)++de s (bN l i s.bw)++bO s (l.drop (i+1)):=by
 have a:l=l.take i++l[i]::l.drop (i+1):=by simp
 grind[b_,bO]
theorem o9 {a:Type} {l:List a} {i:Nat} (h:i<l.length):(l.take i).length=i:=by simp;omega
theorem Xk {s:ew} {l:List s.T} {i a:Nat} {v:s.T} {vs:List AV} (h:i<l.length) (e:a+vs.length<=s.sz) (c:fz (de s (bN l i s.bw)) a vs=de s v):
  fz (bO s l) (i*s.sz+a) vs=bO s (l.set i v):=by
 have d:(bO s (l.take i)).length=i*s.sz:=by rw[ec,o9 h]
 rw[OD h,<-d,GH _ _ _ _ _ (by grind[k8]),c];have b:i<(l.set i v).length:=by simpa using h
 rw[OD b,b_ b];simp[List.take_set_of_le,List.drop_set_of_lt]
theorem OC {s:ew} {l:List s.T} {i b:Nat} {n:Option Nat} {v:SV} (h:i<l.length) (e:qz (cJ s (bN l i s.bw)) b n=some v):fD (bO s l) (i*s.sz+b) n=some v.g:=by
 have a:=Ah e;rw[fu,rT] at a;have c:=ON (s:=s) h;have d:(bO s l).length=i*s.sz+(s.sz+(bO s (l.drop (i+1))).length):=by
  have:=congrArg γb c;grind[k8]
 cases n with
 |none=>
  simp only[fD] at a ⊢;rw[<-List.getElem?_drop,c,List.getElem?_append_left]<;>grind;|some m=>
  simp only[fD,k8] at a;split at a
  ·rename_i f;simp only[fD];rw[if_pos (by omega),<-δk,c,List.drop_append_of_le_length (by grind[k8]),List.take_append_of_le_length (by grind[k8])];exact a
  ·cases a
theorem iI {b:Type} {x:Option b} {K:b->Prop} (h:h_ x K):∃a,x=some a/\K a:=by
 cases x with
 |none=>exact h.elim;|some a=>exact⟨a,rfl,h⟩
theorem GG (o:TN) (i:Nat):(gO o)[i]?=(o[i]?).map iZ.g:=by simp[gO]
theorem mC (o:TN):(gO o).length=o.length:=by simp[gO]
theorem oA (o:TN) (i:Nat) (x:iZ):gO (o.set i x)=(gO o).set i x.g:=by simp[gO]
theorem e6 {o:TN} {i:Nat} {x:iZ} (h:o[i]?=some x):(gO o)[i]?=some x.g:=by grind[GG]
theorem OB:∀{cs:List SV} {l:List Int},ints cs=some l->cs.length=l.length/\∀i,i<l.length->(cs[i]?).map γE=some (.sc (.int .i64 (bN l i 0))):=by
 intro cs l h;have a:=Au h;have c:cs.length=l.length:=by simpa using congrArg γb a
 refine⟨c,λi b=>?_⟩;have:=congrArg (λl=>l[i]?) a;simp only[List.getElem?_map] at this;rw[this,μ b,b_ b];rfl
theorem Oz:∀{cs:List SV} {l:List (List bC)},lE.rowsOff cs=some l->cs.length=l.length/\∀i,i<l.length->cs[i]?=some (.row .bu (bN l i []))
 |[],l,h=>by grind[lE.rowsOff];|c::cs,l,h=>by
  cases c with
  |row s x=>
   cases s<;>simp only[lE.rowsOff,reduceCtorEq] at h;obtain⟨e,a,rfl⟩:=ε.1 h;obtain⟨b,d⟩:=Oz a;grind[bN];|_=>simp[lE.rowsOff] at h
theorem Xj {cs:List SV} {sz i:Nat} {n:Option Nat} {K:SV->Prop} (h:lE.awf cs sz i n K) (d:i*sz<cs.length):∃v,fD (gL cs) (i*sz) n=some v.g/\K v:=by
 unfold lE.awf at h;split at h
 ·rw[Nat.mul_one] at d ⊢;split at h
  ·rename_i l a;obtain⟨b,c⟩:=OB a;grind[fD,rM,γE]
  ·split at h
   ·rename_i l a;obtain⟨b,c⟩:=Oz a;grind[fD,rM]
   simp_all
 simp_all
theorem Xi {cs:List AV} {base a m:Nat} {v:AV} (h:fD ((cs.drop base).take m) a none=some v):fD cs (base+a) none=some v:=by
 grind[fD]
theorem Oy {o:TN} {a:SV} {n:Option Nat} {K:SV->Prop} (h:lE o a n K):∃cs b v,behind (gO o) a.g=some (cs,b)/\fD cs b n=some v.g/\K v:=by
 cases a with
 |ptr x b t=>
  simp only[lE] at h;split at h
  ·rename_i cs e f z y;split at h
   ·rename_i D;obtain⟨v,k,j⟩:=iI h;exact⟨gL cs,b,v,by simp_all[behind,γE,e6,iZ.g,jk],Ah k,j⟩
   simp_all
  simp_all;|ap x c f d t i=>
  simp only[lE] at h;split at h
  ·rename_i cs e A z y;split at h
   ·rename_i D;obtain⟨C,p⟩:=h;have w:(i+1)*f<=d*f:=γN _ C;rw[Nat.succ_mul] at w;have F:f*d=d*f:=Nat.mul_comm ..;by_cases E:f=0;·grind[lE.awf]
    ·have q:i*f<((cs.drop c).take (f*d)).length:=by grind
     obtain⟨v,k,j⟩:=Xj p q;have B:n=none:=by
      grind[lE.awf]
     subst B;refine⟨gL cs,c+i*f,v,by simp_all[behind,γE,e6,iZ.g,jk],?_,j⟩;have:gL ((cs.drop c).take (f*d))=((gL cs).drop c).take (f*d):=by simp[fu]
     grind[Xi]
   simp_all
  simp_all;|ep s l i b=>
  simp only[lE] at h;obtain⟨u,p⟩:=h;obtain⟨v,k,j⟩:=iI p;exact⟨bO s l,i*s.sz+b,v,by simp[behind,γE],OC u k,j⟩;|rp x i b m f=>
  simp only[lE] at h;split at h
  ·rename_i s l e z y;split at h
   ·rename_i r;subst r;obtain⟨w,u,p⟩:=h;obtain⟨v,k,j⟩:=iI p;exact⟨bO s l,i*s.sz+b,v,by simp_all[behind,γE,e6,iZ.g,ec],OC u k,j⟩
   simp_all
  simp_all;|_=>simp only[lE] at h
theorem Ox (o:a_) (d:Nat) {v:Value} (h:v≠ .slice none 0 0):freeze o d (.sc v)=some (.sc v):=by
 grind[freeze]
theorem Ow (o:a_) (d:Nat) {a:AV} (h:Plain a):freeze o d a=some a:=by
 rcases h with⟨v,rfl,_,h⟩|⟨n,b,rfl,_⟩<;>grind[Ox,freeze]
theorem GF {f:AV->Option AV}:∀{l:List AV},(∀a∈l,f a=some a)->l.mapM f=some l
 |[],_=>by simp;|a::l,h=>by simp[List.mapM_cons,h a (by simp),GF (l:=l) λb c=>h b (by simp[c])]
theorem vh {o:a_} {d:Nat} {f:SV->(SV->Prop)->Prop} (c:∀v K,f v K->∃b:SV,freeze o d v.g=some b.g/\K b):
  ∀{l:List SV} {K:List SV->Prop},te f l K->∃a,(gL l).mapM (freeze o d)=some (gL a)/\K a
 |[],K,h=>⟨[],by simp[gL],h⟩
 |v::l,K,h=>by
  obtain⟨b,j,i⟩:=c v _ h;obtain⟨a,k,e⟩:=vh c i;exact⟨b::a,by simp_all[gL],e⟩
theorem xw {s:ew} {l:List s.T} {b a:Nat}:((bO s l).drop (b*s.sz)).take (a*s.sz)=bO s ((l.drop b).take a):=by
 rw[F9,OO]
theorem GE {o:TN}:∀{d:Nat} {v:SV} {K:SV->Prop},pX o d v K->∃y,freeze (gO o) d v.g=some y.g/\K y:=by
 intro d;induction d with
 |zero=>
  intro v K h;cases v<;>simp only[pX] at h<;>grind[pX,γE,freeze,bO,Ox];|succ d p=>
  intro v K h;cases v<;>simp only[pX] at h;case sc v=>
   grind[γE,freeze,bO]
  case agg B=>
   obtain⟨A,z,r⟩:=vh (λv K m=>p m) h;grind[γE,freeze]
  case Gz B=>
   obtain⟨A,z,r⟩:=vh (λv K m=>p m) h;grind[γE,freeze]
  case fn f a b=>
   obtain⟨I,z,r⟩:=vh (λv K m=>p m) h;obtain⟨J,L,H⟩:=vh (λv K m=>p m) r;grind[γE,freeze]
  case ow E n F=>
   split at h
   ·rename_i s l e G w;split at h
    ·rename_i k;obtain⟨rfl,t⟩:=h;subst k;refine⟨_,?_,t⟩;have i:(bO s l).mapM (freeze (gO o) d)=some (bO s l):=GF λa C=>by
      grind[Ow,lO]
     have D:Γ (l.length*s.sz) (bO s l)=bO s l:=γp (by grind[ec]);simp_all[γE,freeze,e6,iZ.g,ec,ni]
    simp_all
   simp_all
  case os E j c n F=>
   split at h
   ·rename_i s l e G w;split at h
    ·rename_i k;obtain⟨rfl,u,t⟩:=h;subst k;refine⟨_,?_,t⟩;have i:(bO s ((l.drop j).take c)).mapM (freeze (gO o) d)=some (bO s ((l.drop j).take c)):=GF λa C=>by
      grind[Ow,lO]
     have x:(j+c)*s.sz<=l.length*s.sz:=γN _ u;rw[δV] at x;have q:((l.drop j).take c).length=c:=by simp;omega
     simp only[γE,freeze,e6 w,iZ.g,ec,x,and_self,if_true,xw,i,ni,q];simp_all
    simp_all
   simp_all
  all_goals grind[γE,freeze]
theorem A5 {k:IntKind} {n:Int} (h:VI k n):ed k n=n:=by
 cases k<;>simp only[VI,ed] at h ⊢<;>simp_all
theorem lM {c:Prop} [Decidable c] {A:Prop} (h:if c then A else False):c/\A:=by
 simp_all
theorem aYJ {b:Int} {k:Nat} (h:b<=k):min b.toNat k=b.toNat:=by omega
theorem Xh (a b:Int):(a==b)=decide (a=b):=rfl
theorem Xg (a b:Int):(a !=b)=decide (a≠b):=by
 grind
theorem xv {k:IntKind} {n:Int} {K:Int->Prop} (h:tf k n K):K (ed k n):=by
 have a:k= .u32->ed k n=n % 4294967296:=by
  grind[rm,IntKind.wrap,IntKind.bits,IntKind.signed]
 have b:k= .u64->ed k n=n % 18446744073709551616:=by
  grind[rm,IntKind.wrap,IntKind.bits,IntKind.signed]
 unfold tf at h;grind[A5]
theorem ja {e:BinOp} {k i:IntKind} {a b:Int} {K:SV->Prop} (h:gd.go e K k a i b):∃v f:_,gh e (.int k a) (.int i b)=some v/\f.g= .sc v/\K f:=by
 cases e<;>simp only[gd.go] at h;case shl=>
  obtain⟨j,m,l⟩:=h;refine⟨.int k (ed k (a*2^b.toNat)),.si k (ed k (a*2^b.toNat)),?_,rfl,xv l⟩;simp_all[gh,G_]
 case shr=>
  obtain⟨j,m,n⟩:=h;refine⟨.int k (a / 2^b.toNat),_,?_,rfl,n⟩;have:a.fdiv (2^b.toNat)=a / 2^b.toNat:=Int.fdiv_eq_ediv_of_nonneg _ (by grind);simp_all[gh,G_]
 case add=>
  obtain⟨d,c⟩:=lM h;subst d;exact⟨.int k (ed k (a+b)),.si k (ed k (a+b)),by simp only[gh,if_true,kC],rfl,xv c⟩
 case sub=>
  obtain⟨d,c⟩:=lM h;subst d;exact⟨.int k (ed k (a - b)),.si k (ed k (a - b)),by simp only[gh,if_true,kC],rfl,xv c⟩
 case mul=>
  obtain⟨d,c⟩:=lM h;subst d;exact⟨.int k (ed k (a*b)),.si k (ed k (a*b)),by simp only[gh,if_true,kC],rfl,xv c⟩
 case quo=>
  obtain⟨d,c⟩:=lM h;subst d;exact⟨.int k (a.tdiv b),_,by simp_all[gh,kC,A5],rfl,c.2.2⟩
 case rem=>
  obtain⟨d,c⟩:=lM h;subst d;exact⟨.int k (a.tmod b),_,by simp_all[gh,kC],rfl,c.2⟩
 case and=>
  obtain⟨d,c⟩:=lM h;subst d;exact⟨.int k (gd.asY k a b),_,by simp only[gh,if_true,kC,gd.asY],rfl,c⟩
 case or=>
  obtain⟨d,c⟩:=lM h;subst d;exact⟨.int k (gd.orI k a b),_,by simp only[gh,if_true,kC,gd.orI],rfl,c⟩
 case xor=>
  obtain⟨d,c⟩:=lM h;subst d;exact⟨.int k (gd.aBy k a b),_,by simp only[gh,if_true,kC,gd.aBy],rfl,c⟩
 case andNot=>
  obtain⟨d,c⟩:=lM h;subst d;exact⟨.int k (gd.ayt k a b),_,by simp only[gh,if_true,kC,gd.ayt],rfl,c⟩
 case eql=>
  obtain⟨d,c⟩:=lM h;subst d;exact⟨.bool (decide (a=b)),_,by simp_all[gh,kC,Xh],rfl,c⟩
 case neq=>
  obtain⟨d,c⟩:=lM h;subst d;exact⟨.bool (decide (a≠b)),_,by simp_all[gh,kC,Xg],rfl,c⟩
 case lss=>
  obtain⟨d,c⟩:=lM h;subst d;exact⟨.bool (decide (a<b)),_,by simp only[gh,if_true,kC],rfl,c⟩
 case leq=>
  obtain⟨d,c⟩:=lM h;subst d;exact⟨.bool (decide (a<=b)),_,by simp only[gh,if_true,kC],rfl,c⟩
 case gtr=>
  obtain⟨d,c⟩:=lM h;subst d;exact⟨.bool (decide (b<a)),_,by simp only[gh,if_true,kC],rfl,c⟩
 case geq=>
  obtain⟨d,c⟩:=lM h;subst d;exact⟨.bool (decide (b<=a)),_,by simp only[gh,if_true,kC],rfl,c⟩
theorem Xf {j:BinOp} {x y:SV} {K:SV->Prop} (h:gd j x y K):∃a b v c,x.g= .sc a/\y.g= .sc b/\gh j a b=some v/\c.g= .sc v/\K c:=by
 unfold gd at h;split at h
 ·split at h;·rename_i i;exact⟨_,_,_,_,rfl,rfl,i,rfl,h⟩
  ·rename_i i;exact⟨_,_,_,_,rfl,rfl,i,rfl,h⟩
  simp_all
 ·obtain⟨v,c,d,e,f⟩:=ja h;exact⟨_,_,v,c,rfl,rfl,d,e,f⟩
 ·obtain⟨v,c,d,e,f⟩:=ja h;exact⟨_,_,v,c,rfl,rfl,d,e,f⟩
 ·obtain⟨v,c,d,e,f⟩:=ja h;exact⟨_,_,v,c,rfl,rfl,d,e,f⟩
 ·split at h;·exact⟨_,_,_,_,rfl,rfl,by grind[gh],rfl,h⟩
  ·exact⟨_,_,_,_,rfl,rfl,by grind[gh],rfl,h⟩
  simp_all
 simp_all
theorem xu {k:IntKind} {a b:Int}:seq1 (.int k a) (.int k b)=some (decide (a=b)):=by
 simp only[seq1,if_true,γ];rfl
theorem Xe {x y:SV} {r:Bool} (h:F8 x y=some r):∃a b,x.g= .sc a/\y.g= .sc b/\seq1 a b=some r:=by
 cases x<;>simp only[F8,reduceCtorEq] at h;all_goals
  obtain⟨b,c,rfl⟩:=ε.1 h;first
   |exact⟨_,_,rfl,gS c,xu⟩;|exact⟨_,_,rfl,th c,by simp[seq1]⟩
theorem Ou:∀{x y:List SV} {r:Bool},rP x y=some r->∃a b,gL x=a.map .sc/\gL y=b.map .sc/\fe a b=some r
 |[],[],r,h=>by simp[rP] at h;subst h;exact⟨[],[],rfl,rfl,rfl⟩;|[],_::_,r,h=>by grind[rP];|_::_,[],r,h=>by grind[rP];|x::l,y::n,r,h=>by
  simp only[rP] at h;split at h
  ·rename_i a b e f;simp only[γ] at h;subst h;obtain⟨u,v,g,j,k⟩:=Xe e;obtain⟨d,c,i,o,m⟩:=Ou f;exact⟨u::d,v::c,by grind[gL],by grind[gL],by grind[fe]⟩
  ·cases h
theorem GD:∀(l:List Value),qa (l.map .sc)=some l
 |[]=>rfl
 |v::l=>by simp[qa,GD l]
theorem rK:∀{a b:List Value},a.map δh=b.map δh->a=b
 |[],[],_=>rfl
 |[],_::_,h=>by simp at h;|_::_,[],h=>by simp at h;|x::a,y::b,h=>by
  simp only[π,Δ,δf] at h;rw[h.1,rK h.2]
theorem tO:∀{e:List Nat} {x:List SV} {a:List Value},kz e x=true->gL x=a.map .sc->dK e a=true
 |[],[],a,_,h=>by
  cases a with
  |nil=>rfl;|cons a i=>simp[gL] at h
 |[],_::_,a,h,_=>by grind[kz];|_::_,[],a,h,_=>by grind[kz];|k::e,x::j,a,h,f=>by
  cases a with
  |nil=>grind[gL];|cons a i=>
   simp only[gL,π,Δ] at f;obtain⟨c,d⟩:=f;match k,x,h with
   |0,.si k n,h=>simp only[kz] at h;simp only[γE,δf] at c;subst c;simpa[dK] using tO h d;|0,.il k n,h=>simp only[kz] at h;simp only[γE,δf] at c;subst c;simpa[dK] using tO h d;|1,.sb b,h=>simp only[kz] at h;simp only[γE,δf] at c;subst c;simpa[dK] using tO h d;|1,.bl b,h=>simp only[kz] at h;simp only[γE,δf] at c;subst c;simpa[dK] using tO h d
theorem Xd {c:List Nat} {a b:List SV} {r:Bool} (d:(kz c a&&kz c b)=true) (h:rP a b=some r):um c (gL a) (gL b)=some r:=by
 obtain⟨u,v,f,e,g⟩:=Ou h;simp only[θ] at d;rw[f,e];simp only[um,GD,tO d.1 f,tO d.2 e,Bool.and_self,if_true,g]
theorem Xc {s s':ew} {l:List s.T} {a:List s'.T} (h:gG s s' l=some a):s=s'/\HEq l a:=by
 unfold gG at h;grind
theorem xt {s s':ew} {l:List s.T} {l':List s'.T} (h:gG s s' l=some l'):s'=s/\bO s' l'=bO s l/\l'.length=l.length:=by
 grind[Xc]
theorem GC:∀{a:List (Nat×Nat×SV)} {cs b:List SV},qy a cs=some b->kA (a.map λq=>(q.1,q.2.1,q.2.2.g)) (gL cs)=some (gL b)
 |[],cs,b,h=>by simp[qy] at h;subst h;rfl;|(d,n,v)::r,cs,b,h=>by
  simp only[qy] at h;split at h
  ·rename_i c;obtain⟨i,f,e⟩:=c;have:=GC h;simp_all[kA,Ak,jk,Aj,xx]
  ·cases h
theorem A4 {s:ew}:∀{n:Nat} {cs:List SV} {l:List s.T},rQ s n cs=some l->gL cs=bO s l/\l.length=n
 |0,[],l,h=>by grind[rQ,gL,bO];|0,_::_,l,h=>by simp[rQ] at h;|n+1,cs,l,h=>by
  simp only[rQ] at h;split at h
  ·rename_i x f a b;simp only[γ] at h;subst h;obtain⟨d,c⟩:=A4 b;have e:=mJ a;refine⟨?_,by simp[c]⟩;rw[fu] at d ⊢;conv=>lhs;rw[<-γP s.sz cs]
   grind[bO]
  ·cases h
theorem Xb {o:TN} {s:ew} {x:SV} {K:List s.T->Prop} (h:td o s x K):∃l,lT (gO o) s.sz x.g=some (l.length,bO s l)/\K l:=by
 cases x with
 |row q l=>
  simp only[td] at h;obtain⟨f,c,w⟩:=iI h;obtain⟨rfl,p,m⟩:=xt c;exact⟨f,by simp_all[γE,lT,ec],w⟩;|ow y n u=>
  simp only[td] at h;split at h
  ·rename_i q l e A B;split at h
   ·rename_i b;subst b;obtain⟨rfl,k⟩:=h;obtain⟨f,c,i⟩:=iI k;obtain⟨rfl,p,m⟩:=xt c;refine⟨f,?_,i⟩;have t:Γ (l.length*s.sz) (bO s l)=bO s l:=γp (by grind[ec]);simp_all[γE,lT,e6,iZ.g,ec]
   simp_all
  simp_all;|os y d a n u=>
  simp only[td] at h;split at h
  ·rename_i q l e A B;split at h
   ·rename_i b;subst b;obtain⟨rfl,j,k⟩:=h;obtain⟨f,c,i⟩:=iI k;obtain⟨rfl,p,m⟩:=xt c;refine⟨f,?_,i⟩;have r:(d+a)*s.sz<=l.length*s.sz:=γN _ j;rw[δV] at r;have z:((l.drop d).take a).length=a:=by simp;omega
    simp_all[γE,lT,e6,iZ.g,ec,xw]
   simp_all
  simp_all;|sc v=>
  grind[td,γE,lT,bO];|_=>simp only[td] at h
theorem GB {v:SV} {n:Int} (h:xF v=some n):gq v.g=some n:=by
 cases v<;>simp[xF] at h<;>simp[γE,gq,h]
theorem nP {d:Nat} {x:Option SV} {K:Nat->Prop} (h:mH d x K):∃n,gp d (x.map γE)=some n/\K n:=by
 unfold mH at h;grind[γE,gp]
theorem tN {oz:Nat} {x:iZ} {o:TN} {K:TN->Prop} (h:qd oz x o K):∃o',j7 oz x.g (gO o)=some (gO o')/\K o':=by
 grind[qd,j7,e6,iZ.g,oA]
theorem Xa {s:ew} (e:s.keyed=true) (x y:s.T):fe (cI s x) (cI s y)=some (decide (x=y)):=by
 cases s<;>simp only[ew.keyed,reduceCtorEq] at e;·grind[cI,fe,xu]
 ·obtain⟨b,⟨m,o,a,l,c,i⟩⟩:=x;obtain⟨g,⟨k,h,j,n,d,f⟩⟩:=y;simp_all[cI,iv,fe,xu]
 ·obtain⟨b,⟨m,o,a,l,c,i⟩,⟨C,t,B,A,D,w⟩⟩:=x;obtain⟨g,⟨k,h,j,n,d,f⟩,⟨p,z,r,u,v,q⟩⟩:=y;simp only[cI,iv,fe,xu,γ,δT];grind
theorem W_ {s:ew} {a:Bool} (d:s.keyed=true) (b:a=false->s.sz=1) (x y:s.T):lj (nQ s a x) (nQ s a y)=some (decide (x=y)):=by
 cases a with
 |true=>grind[nQ,lj,Xa];|false=>
  have c:=b rfl;cases s<;>simp only[ew.keyed,reduceCtorEq] at d<;>simp only[ew.sz,reduceCtorEq,Nat.reduceEqDiff] at c;simp_all[nQ,cI,lj,xu]
theorem GA {a sv:ew} {c:Bool} (f:a.keyed=true) (e:c=false->a.sz=1) (x:a.T):∀(es:List (a.T×sv.T)) (i:Nat),
  ∃r,ly (nQ a c x) (es.map λp=>(nQ a c p.1,lP sv p.2)) i=some r/\(match mI a sv x es with|some v=>∃j,r=some (i+j,lP sv v)/\(∃p,es[j]?=some p/\p.1=x)/\(∀g<j,∀p,es[g]?=some p->p.1≠x)|none=>r=none/\∀p∈es,p.1≠x)
 |[],i=>⟨none,by simp[ly],by simp[mI]⟩
 |p::es,i=>by
  simp only[π,ly,W_ f e];by_cases b:p.1=x
  ·refine⟨some (i,lP sv p.2),by simp[b],?_⟩;simp only[mI,List.find?_cons,b,decide_true,ν];exact⟨0,by simp,⟨p,by simp,b⟩,by simp⟩
  ·obtain⟨r,m,k⟩:=GA f e x es (i+1);have d:¬x=p.1:=λh=>b h.symm;refine⟨r,by simp[d,m],?_⟩;have n:mI a sv x (p::es)=mI a sv x es:=by grind[mI]
   rw[n];split at k
   ·obtain⟨j,w,⟨q,t,l⟩,o⟩:=k;refine⟨j+1,by grind,⟨q,by simp_all,l⟩,λg u s y=>?_⟩;grind
   grind
theorem Gy {a sv:ew} {x:a.T} {v:sv.T}:∀{es:List (a.T×sv.T)},(∀p∈es,p.1≠x)->qx a sv x v es=es++[(x,v)]
 |[],_=>rfl
 |p::es,h=>by
  simp only[qx,if_neg (h p (by simp)),γI];rw[Gy λq b=>h q (by simp[b])]
theorem Ot {a sv:ew} {x:a.T} {v:sv.T}:∀{es:List (a.T×sv.T)} {j:Nat},(∃p,es[j]?=some p/\p.1=x)->(∀b<j,∀p,es[b]?=some p->p.1≠x)->qx a sv x v es=es.modify j λ_=>(x,v)
 |[],j,⟨p,h,_⟩,_=>by simp at h;|p::es,0,⟨q,h,d⟩,_=>by
  grind[qx];|p::es,j+1,⟨q,h,d⟩,c=>by
  have g:=c 0 (by omega) p (by simp);simp only[qx,if_neg g,ζG];rw[Ot (j:=j) ⟨q,by simpa using h,d⟩ λb i e f=>c (b+1) (by omega) e (by simp_all)]
theorem Oo {f:List Nat} {d:Bool} {s:ew} {v:SV} {x:s.T} (e:kz f v.cellsOf=true) (o:tc d v=true) (p:s.flat=true) (n:jm s v.cellsOf=some x):oJ f d v.g=some (nQ s d x):=by
 have k:=mJ n;have c:gL v.cellsOf=(cI s x).map .sc:=by grind[fu,Av]
 have i:=tO e c;by_cases l:∃h,v= .agg h
 ·obtain⟨h,rfl⟩:=l;simp_all[SV.cellsOf,tc,γE,oJ,GD,nQ]
 ·have b:d=false:=by
   simp_all[tc]
  subst b;have j:v.cellsOf=[v]:=by
   cases v<;>first|rfl|simp_all
  rw[j] at c;simp only[gL] at c;cases m:cI s x with
  |nil=>simp_all;|cons a r=>
   rw[m] at c i;simp only[π,Δ] at c;simp_all[oJ,nQ]
theorem On {s:ew} (h:s.vn=true) (x:s.T):((cJ s x).headD .ud).g=lP s x:=by
 cases s<;>simp[ew.vn] at h<;>simp[cJ,lP,cI,γE]
theorem Om {s:ew} (h:s.vn=true) (x:s.T):de s x=[lP s x]:=by
 cases s<;>simp[ew.vn] at h<;>simp[de,lP,cI]
theorem O0 {s:ew} (h:s.keyed=true):s.flat=true:=by
 cases s<;>simp[ew.keyed] at h<;>rfl
structure nO (call:cy) (C:OK):Prop where
 pure:∀f args K,C.pure f args K->∃r:SV,call f (gL args) [] false=some (r.g,[])/\K r
 own:∀f args o K,C.own f args o K->∃(r:SV) (o':TN),gT call f (gL args) (gO o)=some (r.g,gO o')/\K r o'
section
variable {call:cy} {p:ic} {o:TN} {oz:Nat} {K:SV->TN->Prop}
theorem Gx (j:nO call p.C) {f:FuncId} {args:List SV} {own:Bool} (h:dR.awh p f args o own K):
  ∃(v:SV) (o':TN),fV call f (gL args) (gO o) own=some (v.g,gO o')/\K v o':=by
 unfold dR.awh at h;split at h
 ·rename_i c;obtain⟨r,o',k,e⟩:=j.own _ _ _ _ h;exact⟨r,o',by simp_all[fV],e⟩
 ·rename_i c;have c:own=false:=by simp_all
  subst c;obtain⟨b,k,e⟩:=vh (o:=gO o) (d:=6) (λv K m=>GE m) h;obtain⟨r,l,i⟩:=j.pure _ _ _ e;split at i
  ·rename_i a;refine⟨r,o,?_,i⟩;simp only[fV,φ,if_false,k,l];rw[if_pos];simp only[δo] at a ⊢;rcases a with a|a
   ·left;rw[fu,List.flatMap_map];exact a
   grind[OE]
  simp_all
theorem A3 (ρ:Operand->SV) (l:List Operand):gL (l.map ρ)=l.map λx=>(ρ x).g:=by simp[fu]
theorem W8 {a:List (Nat×Nat×Operand)} {ρ:Operand->SV} {cs b:List SV} (h:qy (a.map λq=>(q.1,q.2.1,ρ q.2.2)) cs=some b):
  kA (a.map λq=>(q.1,q.2.1,(ρ q.2.2).g)) (gL cs)=some (gL b):=by
 have:=GC h;grind[δn]
theorem Gw {a:List (Nat×Operand)} {sz:Nat} {ρ:Operand->SV} {cs b:List SV} (h:qy (a.map λq=>(q.1,sz,ρ q.2)) cs=some b):
  kA (a.map λq=>(q.1,sz,(ρ q.2).g)) (gL cs)=some (gL b):=by
 have:=GC h;grind[δn]
theorem Gv (z:List Value):gL (z.map SV.nh)=z.map .sc:=by rw[fu,GN]
theorem Gu (a:Nat) (z:List Value):gL ((δ a (z.map SV.nh)).flatten)=(δ a (z.map δh)).flatten:=by
 rw[fu,List.map_flatten,List.map_replicate,GN]
theorem W7 (s:ew) (x:s.T) (n:Nat):(δ n (de s x)).flatten=bO s (δ n x):=by
 induction n<;>grind[bO]
theorem xp {ρ:Operand->SV} (l:Option Operand):(l.map ρ).map γE=l.map λx=>(ρ x).g:=by cases l<;>rfl
theorem W6:∀{l:List Int} {i:Nat} {v:Int},i<l.length->fz (l.map λn=>δh (iv n)) 0 ((l.set i v).map λn=>δh (iv n))=(l.map λn=>δh (iv n)).set i (.sc (iv v)):=by
 intro l i v e;have d:∀(b a c:List AV),b.length=c.length->fz (a++c) a.length b=a++b:=by
  intro b;induction b with
  |nil=>grind[fz];|cons w b f=>
   intro a c h;cases c with
   |nil=>simp at h;|cons y c=>
    simp only[γG,ζq] at h;simp only[fz];have:(a++y::c).set a.length w=(a++[w])++c:=by
     simp_all
    grind
 have:=d ((l.set i v).map λn=>δh (iv n)) [] (l.map λn=>δh (iv n)) (by simp);simp_all
theorem OZ {b c:Type} (f:b->c) (x:b):∀(l:List b) (j:Nat),(l.modify j λ_=>x).map f=(l.map f).modify j λ_=>f x
 |[],j=>by simp;|a::l,0=>by simp_all;|a::l,j+1=>by simp only[ζG,π,OZ f x l j]
theorem W5 (v:Value):(δh v).cellsOf=[.sc v]:=rfl
theorem OY:∀{l:List Int} {i j:Nat} {v:Int},rO l (i+j) v j=l.set i v
 |[],_,_,_=>rfl
 |a::l,0,j,v=>by
  have h:∀(l:List Int) (c:Nat),j<c->rO l j v c=l:=by
   intro l;induction l with
   |nil=>intro _ _;rfl;|cons b l d=>intro c e;simp only[rO,if_neg (show ¬j=c by omega),d (c+1) (by omega)]
  simp_all[rO];|a::l,i+1,j,v=>by
  simp only[rO,if_neg (show ¬i+1+j=j by omega),List.set_cons_succ];rw[show i+1+j=i+(j+1) from by omega,OY]
theorem W4 {ρ:Operand->SV} {n:Nat} {a x:Operand} (h:dR p (.store n a x) ρ o oz K):
  ∃(v:SV) (o':TN),MO call (.store n a x) (λx=>(ρ x).g) (gO o) oz=some (v.g,gO o')/\K v o':=by
 simp only[dR] at h;split at h
 ·rename_i W b L B;split at h
  ·rename_i f e Y E z;split at h
   ·rename_i D;obtain⟨V,C,X,P,R⟩:=D;refine⟨.ud,_,?_,h⟩;simp only[MO,B,γE,e6 z,iZ.g,Ak,jk,Aj];rw[if_pos ⟨V,C,X,P,R.imp (λq=>q) λhp=>GM _ hp⟩,oA,iZ.g,xx,GJ]
   simp_all
  simp_all
 ·rename_i W i b m Y B;split at h
  ·rename_i s l e E z;split at h
   ·rename_i D;obtain⟨rfl,C,X⟩:=D;obtain⟨rfl,N,P⟩:=h;obtain⟨v,hv,R⟩:=iI P;refine⟨.ud,_,?_,R⟩;have T:=mJ hv;rw[<-fu,xx,GJ] at T;have O:gL (cJ s (bN l i s.bw))=de s (bN l i s.bw):=by rw[fu,rT]
    rw[O] at T;have y:(i+1)*s.sz<=l.length*s.sz:=γN _ N;rw[Nat.succ_mul] at y;have u:∀c∈ee E (gL (ρ x).cellsOf),Plain c:=by
     intro c hc;obtain⟨j,hj⟩:=List.mem_iff_getElem?.1 hc;have U:=(ζ.1 hj).1;rw[rq,jk,C] at U;have a1:(fz (de s (bN l i s.bw)) b (ee E (gL (ρ x).cellsOf)))[b+j]?=some c:=by
      have a0:∀(r f:List AV) (b j:Nat) (c:AV),r[j]?=some c->b+r.length<=f.length->(fz f b r)[b+j]?=some c:=by
       intro r;induction r with
       |nil=>simp_all;|cons w r ih=>
        intro f b j c h M;simp only[γG] at M;simp only[fz];cases j with
        |zero=>
         simp only[List.getElem?_cons_zero,γ] at h;subst h;have F:∀(r f:List AV) (Z k:Nat),k<Z->(fz f Z r)[k]?=f[k]?:=by
          intro r;induction r<;>grind[fz]
         grind;|succ j=>
         have:=ih (f.set b w) (b+1) j c (by simpa using h) (by simp;omega);grind
      grind[rq,jk,k8]
     grind[xH]
    obtain⟨G,Q⟩:=GI u;simp only[MO,B,γE,e6 z,iZ.g,Ak,ec,jk];rw[if_pos ⟨trivial,C,G,by omega,.inr Q⟩,oA,iZ.g,Xk N (by grind[rq,jk]) T]
   simp_all
  simp_all
 ·rename_i W d Y t L i B;split at h
  ·rename_i f e a3 E z;split at h
   ·rename_i v H;split at h
    ·rename_i l M;split at h
     ·rename_i D;obtain⟨V,C⟩:=D;rw[show rO l i v 0=l.set i v from OY (j:=0)] at h;obtain⟨N,hk⟩:=h;refine⟨.ud,_,?_,hk⟩;have S:(ρ x).cellsOf=[ρ x]:=by
       cases hr:ρ x<;>rw[hr] at H<;>simp[SV.int] at H<;>rfl
      have I:(ρ x).g= .sc (iv v):=gS H;have A:=Au M;have a2:l.length=t:=by
       have:=congrArg γb A;grind
      have J:gL f=gL (f.take d)++(l.map λn=>δh (iv n))++gL (f.drop (d+t)):=by
       rw[<-A,fu,fu,fu,<-γa,<-γa];congr 1;rw[<-δk,List.append_assoc,γP,γP]
      have a4:(gL (f.take d)).length=d:=by grind[jk]
      have hq:ee E [δh (iv v)]=[δh (iv v)]:=by unfold ee;split<;>rfl
      simp only[MO,B,γE,e6 z,iZ.g,I,W5,List.length_singleton,jk,hq];rw[if_pos ⟨V,trivial,by simp[dP,AV.one,iv,Value.oneCell'],by omega,.inr (by simp[cK,AV.pure])⟩,oA,iZ.g,xx];congr 4;have e1:gL ((l.set i v).map (SV.si .i64))=(l.set i v).map λn=>δh (iv n):=by
       rw[fu,γ5];rfl
      rw[e1,J];have hm:=GH ((l.set i v).map λn=>δh (iv n)) (gL (f.take d)) (l.map λn=>δh (iv n)) (gL (f.drop (d+t))) 0 (by simp);grind[W6,fz]
     simp_all
    simp_all
   simp_all
  simp_all
 simp_all
theorem W3 {ρ:Operand->SV} {e:TypeId} {sz b:Nat} {s x:Operand} {pu:Bool} (h:dR p (.append e sz b s x pu) ρ o oz K):
  ∃(v:SV) (o':TN),MO call (.append e sz b s x pu) (λx=>(ρ x).g) (gO o) oz=some (v.g,gO o')/\K v o':=by
 simp only[dR] at h;split at h
 ·rename_i t tl U a;split at h
  ·rename_i S n G j m R k M;split at h
   ·rename_i O l Z I H;split at h
    ·rename_i F;obtain⟨rfl,q,rfl,rfl,rfl,rfl,i,w⟩:=F;obtain⟨rfl,C,y,B⟩:=h;rw[M] at a;unfold OJ at a;split at a
     ·rename_i j' W Y;injection Y with e1 N e3;subst e1 N e3;split at a
      ·rename_i s2 N L D;split at a
       ·rename_i A;injection a with a;subst a;refine⟨_,_,?_,B⟩;have E:lT (gO o) t.sz (.os j 0 1 (1*t.sz))=some (1,gL L):=by
         simp only[lT,e6 D,iZ.g,bO,ζB,δM,jk];rw[if_pos ⟨by omega,A,by omega⟩,εq,γp (by grind[jk])]
        have J:dP (gL L)=true:=by grind[Aj]
        simp only[MO,k,M,γE,oL];simp only[E,J,ζS,if_false,e6 H,iZ.g,ec,q];rw[if_pos ⟨trivial,trivial,trivial,trivial,C,y,.inl trivial⟩,oA,iZ.g];grind
       ·cases a
      ·cases a
     ·cases a
    simp_all
   simp_all
  simp_all
 ·rename_i t U _;split at h
  ·rename_i z;subst z;obtain⟨f,V,d⟩:=Xb h;have r:dP (bO t f)=true:=An _ _;have c:cK (bO t f)=true:=ni _ _;simp only[MO,oL,V,r,ζS,if_false];split at d
   ·rename_i k;rw[k];simp only[γE];by_cases u:f.length=0;·exact⟨_,_,by simp only[u,if_true];rfl,d.1 u⟩
    ·obtain⟨q,i,w⟩:=d.2 u;obtain⟨o',P,Q⟩:=tN w;refine⟨_,o',?_,Q⟩;simp only[iZ.g] at P;rw[if_neg u,if_pos ⟨q,i,.inr c⟩,P];rfl
   ·rename_i S n G k;split at d
    ·rename_i O l Z I H;split at d
     ·rename_i F;obtain⟨rfl,q,rfl⟩:=F;obtain⟨rfl,i,w,C⟩:=d;obtain⟨l',y,B⟩:=iI C;obtain⟨rfl,T,X⟩:=xt y;refine⟨_,_,?_,B⟩;rw[k];simp only[γE,e6 H,iZ.g,ec];rw[if_pos ⟨trivial,trivial,trivial,trivial,i,w,.inr c⟩,oA,iZ.g,OP,T];grind
     simp_all
    simp_all
   ·rename_i O l k;obtain⟨q,i⟩:=d;refine⟨_,_,?_,i⟩;simp_all[γE]
   simp_all
  simp_all
 simp_all
theorem OX {mx:Bool} {a b:Int}:(if mx then(if b>a then b else a) else(if b<a then b else a))=if mx then max a b else min a b:=by
 grind
theorem W1 (hC:nO call p.C) {op:bT} {ρ:Operand->SV} (h:dR p op ρ o oz K):
  ∃(v:SV) (o':TN),MO call op (λx=>(ρ x).g) (gO o) oz=some (v.g,gO o')/\K v o':=by
 cases op with
 |mov x=>exact⟨_,_,rfl,h⟩;|pick c a b=>
  simp only[dR] at h;split at h;·rename_i hc;exact⟨_,_,by simp only[MO,hc,γE],h⟩
  ·rename_i hc;exact⟨_,_,by simp only[MO,hc,γE],h⟩
  ·rename_i c hc;cases c with
   |true=>exact⟨_,_,by simp only[MO,hc,γE],h.1 rfl⟩;|false=>exact⟨_,_,by simp only[MO,hc,γE],h.2 rfl⟩
  ·exact h.elim;|alloc z e pu=>
  obtain⟨o',hm,hk⟩:=tN h;simp only[iZ.g,Gv] at hm;exact⟨_,o',by simp only[MO,hm,ν,γE],hk⟩;|box e x=>
  simp only[dR] at h;split at h
  ·rename_i h1;obtain⟨o',hm,hk⟩:=tN h;simp only[iZ.g] at hm;exact⟨_,o',by simp only[MO,Ak,Aj,h1,if_true,jk,hm,ν,γE],hk⟩
  ·exact h.elim;|build z parts=>
  simp only[dR] at h;obtain⟨cs,h1,h2⟩:=iI h;have:=W8 h1;rw[Gv] at this;exact⟨_,_,by simp only[MO,this,ν,γE],h2⟩;|aoK z len parts e sz=>
  simp only[dR] at h;split at h
  ·rename_i s cs hs hf;split at h
   ·rename_i hsz;split at h
    ·rename_i hany;split at h
     ·rename_i hlen;obtain⟨o',hm,hk⟩:=tN h;simp only[iZ.g,bO,ζB,δM] at hm;have hfa:=Gw hf;rw[Gu] at hfa;refine⟨_,o',?_,hk⟩;subst hsz;have hp:cK (gL cs)=false:=by
       clear hf hfa hm hlen h;induction cs with
       |nil=>simp at hany;|cons c cs ih=>
        simp only[List.any_cons,δo] at hany;simp only[gL,cK];rcases hany with hc|hc
        ·have h9:c.g.pure=false:=by
          cases c with
          |ow a b d=>simp[γE,AV.pure];|_=>simp[SV.OI] at hc
         rw[h9,Bool.false_and]
        ·have ih2:=ih hc;rw[ih2,Bool.and_false]
      simp only[MO,hfa,hp,ee,φ,if_false,hm,ν,γE]
     ·exact h.elim
    obtain⟨l,h1,h2⟩:=iI h;obtain⟨h3,h4⟩:=A4 h1;obtain⟨o',hm,hk⟩:=tN h2;simp only[iZ.g] at hm;have hfa:=Gw hf;rw[Gu] at hfa;refine⟨_,o',?_,hk⟩;subst hsz;rw[GK] at h3;have hp:cK (gL cs)=true:=(GI (pu:=true) (cs:=gL cs) λc hc=>lO (s:=s) (l:=l) (by rw[<-h3];exact hc)).2;have hq:ee true (gL cs)=bO s l:=h3;simp only[MO,hfa,hp,hq,hm,ν,γE]
   ·exact h.elim
  ·exact h.elim;|ark z len parts e sz=>
  simp only[dR] at h;split at h
  ·rename_i s cs hs hf;split at h
   ·rename_i hsz;obtain⟨l,h1,h2⟩:=iI h;obtain⟨h3,h4⟩:=A4 h1;have hfa:=Gw hf;rw[Gu] at hfa;rw[GK] at h3;have hp:cK (gL cs)=true:=(GI (pu:=true) (cs:=gL cs) λc hc=>lO (s:=s) (l:=l) (by rw[<-h3];exact hc)).2;have hq:ee true (gL cs)=bO s l:=h3;exact⟨_,_,by simp only[MO,hfa,hp,hq,if_true,γE,h4],h2⟩
   ·exact h.elim
  ·exact h.elim;|load n a=>
  simp only[dR] at h;obtain⟨cs,bu,v,h1,h2,h3⟩:=Oy h;exact⟨v,o,by simp only[MO,h1,h2,ν],h3⟩;|store n a x=>exact W4 h;|asv x=>
  simp only[dR] at h;split at h;·rename_i hx;exact⟨_,_,by simp only[MO,hx,γE],h⟩
  ·rename_i hx;exact⟨_,_,by simp only[MO,hx,γE],h⟩
  ·rename_i hx;exact⟨_,_,by simp only[MO,hx,γE],h⟩
  ·exact h.elim;|bin op x y=>
  simp only[dR] at h;obtain⟨a,b,v,v',h1,h2,h3,h4,h5⟩:=Xf h;exact⟨v',o,by simp only[MO,h1,h2,h3,ν,h4],h5⟩;|beq neg x y=>
  simp only[dR] at h;split at h
  ·rename_i a b h1 h2;exact⟨_,_,by simp only[MO,th h1,th h2,γE],h⟩
  ·exact h.elim;|eqf neg ks x y=>
  simp only[dR] at h;split at h
  ·rename_i a b h1 h2;split at h
   ·rename_i hk;obtain⟨r,hr,h3⟩:=iI h;exact⟨_,_,by simp only[MO,h1,h2,γE,Xd hk hr,ν],h3⟩
   ·exact h.elim
  ·exact h.elim;|arl neg x y=>
  simp only[dR] at h;split at h
  ·rename_i h1 h2;exact⟨_,_,by simp only[MO,h1,h2,γE],h⟩
  ·rename_i h1 h2;exact⟨_,_,by simp only[MO,h1,h2,γE],h⟩
  ·exact h.elim;|un op x=>
  simp only[dR] at h;split at h;·rename_i hx;exact⟨_,_,by simp only[MO,hx,γE,q_,ν],h⟩
  ·rename_i hx;exact⟨_,_,by simp only[MO,hx,γE,q_,ν],h⟩
  ·rename_i k n hx;refine⟨_,_,?_,h.2⟩;have:(0:Int) - n= -n:=by omega
   simp only[MO,hx,γE,q_,ν,this,A5 h.1]
  ·rename_i hx;exact⟨_,_,by simp only[MO,hx,γE,q_,ν],h⟩
  ·exact h.elim;|conv k x=>
  simp only[dR] at h;split at h;·rename_i hx;exact⟨_,_,by simp only[MO,hx,γE],h⟩
  ·rename_i hx;exact⟨_,_,by simp only[MO,hx,γE,A5 h.1],h.2⟩
  ·rename_i kk n _ hx;exact⟨.si k (ed k n),_,by simp only[MO,hx,γE],xv h⟩
  ·exact h.elim;|asw bu x=>
  simp only[dR] at h;split at h;·rename_i hx;exact⟨_,_,by simp only[MO,hx,γE,lU,ν],h⟩
  ·rename_i hx;exact⟨_,_,by simp only[MO,hx,γE,lU,ν,ε0],h⟩
  ·rename_i hx;exact⟨_,_,by simp only[MO,hx,γE,lU,ν,ε0],h⟩
  ·exact h.elim;|field bu n x=>
  simp only[dR] at h;split at h
  ·rename_i cs hx;obtain⟨v,h1,h2⟩:=iI h;exact⟨_,_,by simp only[MO,hx,γE,Ah h1,ν],h2⟩
  ·exact h.elim;|asx len sz x i=>
  simp only[dR] at h;split at h
  ·rename_i k n hi;split at h
   ·rename_i hn;split at h;·rename_i hx;exact⟨_,_,by simp only[MO,hi,hx,γE,gq,if_pos hn,lU,ν],h⟩
    ·rename_i hx;exact⟨_,_,by simp only[MO,hi,hx,γE,gq,if_pos hn,lU,ν,ε0],h⟩
    ·rename_i hx;exact⟨_,_,by simp only[MO,hi,hx,γE,gq,if_pos hn,lU,ν,ε0],h⟩
    ·exact h.elim
   ·exact h.elim
  ·rename_i k n hi;split at h;·rename_i hx;exact⟨_,_,by simp only[MO,hi,hx,γE,gq,if_pos (γk h.1 h.2.1),lU,ν],h.2.2⟩
   ·exact h.elim
  ·exact h.elim;|aqE sz x i=>
  simp only[dR] at h;split at h
  ·rename_i n hi;have hi:=GB hi;split at h
   ·rename_i s l hx;split at h
    ·rename_i hsz;subst hsz;obtain⟨h1,h2,h3⟩:=h;refine⟨_,_,?_,h3⟩;simp only[MO,hi,hx,γE,oM,ec];rw[if_pos ⟨h1,h2,trivial⟩];simp
    ·exact h.elim
   ·rename_i id m sz' hx;split at h
    ·rename_i s l e pu ho;split at h
     ·rename_i hsz;obtain⟨rfl,rfl⟩:=hsz;obtain⟨rfl,h1,h2,h3⟩:=h;refine⟨_,_,?_,h3⟩;simp only[MO,hi,hx,γE,oM,e6 ho,iZ.g,ec];rw[nV (Nat.zero_le _),if_pos ⟨trivial,trivial,h1,h2,by omega⟩];simp
     ·exact h.elim
    ·exact h.elim
   ·rename_i id bu len m sz' hx;split at h
    ·rename_i s l e pu ho;split at h
     ·rename_i hsz;obtain⟨rfl,rfl⟩:=hsz;obtain⟨rfl,h1,h2,h4,h3⟩:=h;refine⟨_,_,?_,h3⟩;have hm:(bu+len)*s.sz<=l.length*s.sz:=γN _ h4;rw[δV] at hm;simp only[MO,hi,hx,γE,oM,e6 ho,iZ.g,ec];rw[nV (by omega),if_pos ⟨trivial,trivial,h1,h2,hm⟩];simp[δV]
     ·exact h.elim
    ·exact h.elim
   ·rename_i id bu len m sz' hx;split at h
    ·rename_i s l e pu ho;split at h
     ·rename_i hsz;obtain⟨rfl,rfl⟩:=hsz;obtain⟨rfl,h1,h2,h4,h3⟩:=h;refine⟨_,_,?_,h3⟩;have hm:(bu+len)*s.sz<=l.length*s.sz:=γN _ h4;have hp:=Gb s;rw[δV] at hm;simp only[MO,hi,hx,γE,oM,e6 ho,iZ.g,ec];rw[By (by omega),show bu*s.sz+(l.length*s.sz+s.sz) - l.length*s.sz - s.sz=bu*s.sz by omega,if_pos ⟨trivial,trivial,h1,h2,hm⟩];simp[δV]
     ·exact h.elim
    ·exact h.elim
   ·exact h.elim
  ·exact h.elim;|idx len sz n x i=>
  simp only[dR] at h;split at h
  ·rename_i k' k cs hi hx;split at h
   ·rename_i hk;obtain⟨v,h1,h2⟩:=iI h;exact⟨_,_,by simp only[MO,hi,hx,γE,gq,if_pos hk,Ah h1,ν],h2⟩
   ·exact h.elim
  ·rename_i k' k cs hi hx;split at h
   ·rename_i l _ _ hl;split at h
    ·rename_i hll;obtain⟨h1,h2,h3⟩:=h;refine⟨_,_,?_,h3⟩;obtain⟨h4,h5⟩:=OB hl;have h6:=h5 k.toNat (by omega);simp only[MO,hi,hx,γE,gq,if_pos (γk h1 h2),Nat.mul_one,fD,rM,h6,ν]
    ·exact h.elim
   ·exact h.elim
  ·exact h.elim;|atK x i=>simp only[dR] at h;|apa z e sz bytes l c pu=>
  simp only[dR] at h;split at h
  ·rename_i n m s hn hm hs;have hn:=GB hn;have hm:=GB hm;split at h
   ·rename_i hsz;subst hsz;obtain⟨x,hx,h1,h2,h3,h4,h5⟩:=iI h;obtain⟨o',hmk,hk⟩:=tN h5;refine⟨_,o',?_,hk⟩;have hd:=mJ hx;rw[<-fu,GJ,Gv] at hd;simp only[iZ.g] at hmk;simp only[MO,hn,hm];rw[if_pos ⟨h1,h2,h3,h4⟩,hd,W7,hmk];simp[γE]
   ·exact h.elim
  ·exact h.elim;|slice sz x lo hi=>
  simp only[dR] at h;split at h
  ·rename_i s l hx;split at h
   ·rename_i hsz;subst hsz;obtain⟨a,ha,h1⟩:=nP h;obtain⟨b,hb,h2,h3,h4⟩:=nP h1;refine⟨_,_,?_,h4⟩;rw[xp] at ha hb;have hlen:((l.drop a).take (b - a)).length=b - a:=by simp;omega
    simp only[MO,hx,γE,oK,ha,hb,ec,and_true,if_pos (γk h2 h3),ν,xw,hlen]
   ·exact h.elim
  ·rename_i id m sz' hx;split at h
   ·rename_i s l e pu ho;split at h
    ·rename_i hsz;obtain⟨rfl,rfl⟩:=hsz;obtain⟨rfl,h⟩:=h;obtain⟨a,ha,h1⟩:=nP h;obtain⟨b,hb,h2,h3,h4⟩:=nP h1;refine⟨_,_,?_,h4⟩;rw[xp] at ha hb;simp only[MO,hx,γE,oK,ha,hb,e6 ho,iZ.g,ec];rw[if_pos ⟨h2,h3,trivial,trivial⟩];simp
    ·exact h.elim
   ·exact h.elim
  ·rename_i id bu len m sz' hx;split at h
   ·rename_i s l e pu ho;split at h
    ·rename_i hsz;obtain⟨rfl,rfl⟩:=hsz;obtain⟨rfl,h⟩:=h;obtain⟨a,ha,h1⟩:=nP h;obtain⟨b,hb,h2,h3,h4⟩:=nP h1;refine⟨_,_,?_,h4⟩;rw[xp] at ha hb;simp only[MO,hx,γE,oK,ha,hb,e6 ho,iZ.g,ec];rw[if_pos ⟨h2,h3,trivial,trivial⟩];simp[δV]
    ·exact h.elim
   ·exact h.elim
  ·exact h.elim;|slice3 sz x lo hi mx=>
  simp only[dR] at h;split at h
  ·rename_i s l hx;split at h
   ·rename_i hsz;subst hsz;obtain⟨a,ha,h1⟩:=nP h;obtain⟨b,hb,h2⟩:=nP h1;obtain⟨m,hm,h3,h4,h5,h6⟩:=nP h2;refine⟨_,_,?_,h6⟩;rw[xp] at ha;simp only[ν] at hb hm;have hlen:((l.drop a).take (b - a)).length=b - a:=by simp;omega
    simp only[MO,hx,γE,qF,ha,hb,hm,ec,and_true,if_pos (γk h3 (γk h4 h5)),ν,xw,hlen]
   ·exact h.elim
  ·rename_i id n sz' hx;split at h
   ·rename_i s l e pu ho;split at h
    ·rename_i hsz;obtain⟨rfl,rfl⟩:=hsz;obtain⟨rfl,h⟩:=h;obtain⟨a,ha,h1⟩:=nP h;obtain⟨b,hb,h2⟩:=nP h1;obtain⟨m,hm,h3,h4,h5,h6⟩:=nP h2;refine⟨_,_,?_,h6⟩;rw[xp] at ha;simp only[ν] at hb hm;simp only[MO,hx,γE,qF,ha,hb,hm,e6 ho,iZ.g,ec];rw[if_pos ⟨h3,h4,h5,trivial,trivial,by omega,Gb _⟩];simp
    ·exact h.elim
   ·exact h.elim
  ·exact h.elim;|asy x lo hi=>simp only[dR] at h;|append e sz bytes s x pu=>exact W3 h;|len k x=>
  simp only[dR] at h;split at h;·rename_i hx;exact⟨_,_,by simp only[MO,hx,γE,kB,ν],h⟩
  ·rename_i hx;exact⟨_,_,by simp only[MO,hx,γE,kB,ν],h⟩
  ·rename_i hx;exact⟨_,_,by simp only[MO,hx,γE,kB,ν],h⟩
  ·rename_i hx;exact⟨_,_,by simp only[MO,hx,γE,kB,ν],h⟩
  ·rename_i hx;exact⟨_,_,by simp only[MO,hx,γE,kB,ν];rfl,h⟩
  ·rename_i hx;exact⟨_,_,by simp only[MO,hx,γE,kB,ν],h⟩
  ·rename_i id hx;split at h
   ·rename_i sk sv ka es kt pu ho;exact⟨_,_,by simp only[MO,hx,γE,kB,e6 ho,iZ.g,List.length_map,ν],h⟩
   ·exact h.elim
  ·exact h.elim;|asz n=>exact⟨_,_,rfl,h⟩;|mm mx x y=>
  simp only[dR] at h;split at h
  ·rename_i hx hy;split at h
   ·rename_i hk;exact⟨_,_,by simp only[MO,hx,hy,γE,if_pos hk],h⟩
   ·exact h.elim
  ·rename_i k a hx;obtain⟨b,hb,h2⟩:=iI h;exact⟨_,_,by simp only[MO,hx,gS hb,γE,if_true,OX],h2⟩
  ·rename_i k a hx _;obtain⟨b,hb,h2⟩:=iI h;exact⟨_,_,by simp only[MO,hx,gS hb,γE,if_true,OX],h2⟩
  ·exact h.elim;|call f args own=>
  simp only[dR] at h;obtain⟨v,o',h1,h2⟩:=Gx hC h;rw[A3] at h1;exact⟨v,o',by simp only[MO,h1],h2⟩;|ak7 f args own=>
  simp only[dR] at h;split at h
  ·rename_i g first captured hf;obtain⟨v,o',h1,h2⟩:=Gx hC h;rw[rL,rL,A3] at h1;exact⟨v,o',by simp only[MO,hf,γE,h1],h2⟩
  ·exact h.elim;|extract x i=>
  simp only[dR] at h;split at h
  ·rename_i vs hx;obtain⟨v,h1,h2⟩:=iI h;exact⟨_,_,by simp only[MO,hx,γE,rM,h1,ν],h2⟩
  ·exact h.elim;|arn f first captured=>exact⟨_,_,by simp only[MO,γE,A3],h⟩;|asA t x=>
  simp only[dR] at h;split at h
  ·rename_i cs hx;split at h
   ·rename_i hp;exact⟨_,_,by simp only[MO,hx,γE,if_pos (GM cs hp)],h⟩
   ·exact h.elim
  ·exact h.elim;|aok tab x args=>
  simp only[dR] at h;split at h
  ·rename_i t cs hx;split at h
   ·rename_i f hf;obtain⟨v,o',h1,h2⟩:=Gx hC h;simp only[gL,γE,A3] at h1;exact⟨v,o',by simp only[MO,hx,γE,hf,h1],h2⟩
   ·exact h.elim
  ·exact h.elim;|apb kt pu=>
  simp only[dR] at h;split at h
  ·rename_i sk sv hs;obtain⟨o',hm,hk⟩:=tN h;simp only[iZ.g,γr] at hm;exact⟨_,o',by simp only[MO,hm,ν,γE],hk⟩
  ·exact h.elim;|lookup z agg ks ka x k ok=>
  simp only[dR] at h;split at h
  ·rename_i id hx;split at h
   ·rename_i sk sv ka' es kt pu ho;split at h
    ·rename_i hh;obtain⟨rfl,rfl,h1,h2,rfl,h4,h5,h6⟩:=hh;obtain⟨kv,hkv,h7⟩:=iI h;obtain⟨zv,hzv,h8⟩:=iI h7;have hkey:=Oo h5 h6 (O0 h1) hkv;have hz:pU z false=some (lP sv zv):=by
      have hd:=mJ hzv;rw[GN,Om h2] at hd;cases z with
      |nil=>simp at hd;|cons a r=>
       cases r with
       |nil=>simp only[π,γr,Δ,and_true] at hd;simp[pU,hd];|cons=>simp at hd
     obtain⟨r,hr,hm⟩:=GA (sv:=sv) h1 h4 kv es 0;refine⟨_,_,?_,h8⟩;simp only[MO,hx,γE,hkey,e6 ho,iZ.g,if_true,hr,hz];cases hf:mI sk sv kv es with
     |some v=>
      rw[hf] at hm;obtain⟨j,rfl,_⟩:=hm;simp only[Option.getD_some];cases ok<;>simp only[φ,if_false,if_true,γE,gL,On h2,ζT,ζf];|none=>
      rw[hf] at hm;obtain⟨rfl,_⟩:=hm;simp only[Option.getD_none];cases ok<;>simp only[φ,if_false,if_true,γE,gL,On h2,ζT,ζf]
    ·exact h.elim
   ·exact h.elim
  ·exact h.elim;|apT ks ka x k v=>
  simp only[dR] at h;split at h
  ·rename_i id hx;split at h
   ·rename_i sk sv ka' es kt pu ho;split at h
    ·rename_i hh;obtain⟨rfl,rfl,h1,h2,h4,h5,h6,h9⟩:=hh;obtain⟨kv,hkv,h7⟩:=iI h;obtain⟨vv,hvv,h8⟩:=iI h7;have hkey:=Oo h5 h6 (O0 h1) hkv;have hv:(ρ v).g=lP sv vv:=by
      have hd:=mJ hvv;rw[Om h2] at hd;have hc:(ρ v).cellsOf=[ρ v]:=by
       revert h9;cases ρ v<;>simp[SV.cellsOf,tc]
      rw[hc] at hd;simpa using hd
     obtain⟨r,hr,hm⟩:=GA (sv:=sv) h1 h4 kv es 0;refine⟨_,_,?_,h8⟩;have hpure:(lP sv vv).pure=true:=by simp[lP,AV.pure]
     simp only[MO,hx,γE,hkey,e6 ho,iZ.g,hv,hpure,hr,oA];rw[if_neg (by simp)];cases hf:mI sk sv kv es with
     |some w=>
      rw[hf] at hm;obtain⟨j,rfl,h10,h11⟩:=hm;rw[Ot h10 h11];simp only[Nat.zero_add];rw[OZ];|none=>
      rw[hf] at hm;obtain⟨rfl,h10⟩:=hm;rw[Gy h10];simp
    ·exact h.elim
   ·exact h.elim
  ·exact h.elim
end
mutual
theorem G3 {o:a_} {k:Nat}:∀{v:AV},v.TP k=true->v.Q5 o (λi=>decide (k<=i))=some v
 | .os m d j e,h=>by
  simp_all[AV.TP,AV.Q5,if_neg];| .ptr m d e,h=>by
  simp_all[AV.TP,AV.Q5,if_neg];| .agg g,h=>by simp only[AV.TP] at h;simp only[AV.Q5,vg h,ν];| .Gz g,h=>by simp only[AV.TP] at h;simp only[AV.Q5,vg h,ν];| .fn f a b,h=>by
  simp only[AV.TP,θ] at h;simp only[AV.Q5,vg h.1,vg h.2];| .ud,_| .sc _,_| .sl _ _,_| .ep _ _,_| .mp _,_| .ifc _ _,_=>by simp only[AV.Q5]
theorem vg {o:a_} {k:Nat}:∀{l:List AV},dF k l=true->gf o (λi=>decide (k<=i)) l=some l
 |[],_=>by simp[gf];|c::g,h=>by
  simp only[dF,θ] at h;simp only[gf,G3 h.1,vg h.2]
end
theorem OW {o:a_} {k:Nat}:∀{l:List (Value×AV)},dF k (l.map (·.2))=true->oG o (λi=>decide (k<=i)) l=some l
 |[],_=>by simp[oG];|(q,c)::a,h=>by
  simp only[π,dF,θ] at h;simp only[oG,G3 h.1,OW h.2]
theorem W0 {o:a_} {k:Nat} {x:OL} (h:x.TP k=true):x.Q5 o (λi=>decide (k<=i))=some x:=by
 cases x with
 |dead=>rfl;|cells b e f a=>
  cases a with
  |true=>simp only[OL.Q5,if_true];|false=>simp_all[OL.TP,OL.Q5,vg]
 |map d c a=>
  cases a with
  |true=>simp only[OL.Q5,if_true];|false=>simp_all[OL.TP,OL.Q5,OW]
theorem OV {o:a_} {k:Nat}:∀{r:a_},(∀x∈r,x.TP k=true)->iQ o (λi=>decide (k<=i)) r=some r
 |[],_=>rfl
 |x::r,h=>by
  simp only[iQ,W0 (h x (by simp)),OV (r:=r) λy a=>h y (by simp[a])]
theorem OU {k:Nat}:∀{o:a_} {i:Nat},(e_ (λj=>decide (k<=j)) i o).take (k - i)=o.take (k - i)
 |[],i=>by simp[e_];|x::r,i=>by
  simp only[e_];by_cases a:i<k
  ·rw[show k - i=(k - (i+1))+1 from by omega,δw,δw,OU];grind
  simp_all
theorem aYK {k i:Nat} (h:i<k):(ω k).contains i=true:=by simp[h]
theorem OT {o:a_} {k:Nat}:∀{d:Nat} {vs:List AV},dF k vs=true->cd o d vs (ω k)=ω k:=by
 intro d;induction d with
 |zero=>grind[cd];|succ d e=>
  intro vs h;cases vs with
  |nil=>simp[cd];|cons v vs=>
   simp only[dF,θ] at h;have i:=h.1;simp only[cd];cases v with
   |agg g=>grind[AV.TP];|Gz g=>grind[AV.TP];|fn f a b=>grind[AV.TP];|ptr c _ _=>simp_all[AV.TP];|os c _ _ _=>simp_all[AV.TP];|mp c=>simp_all[AV.TP];|_=>simp only[e h.2]
theorem OS:∀{n s i p:Nat},s<=i->i<s+n->idxOf (ζw s n) i p=some (p+(i - s))
 |0,s,i,p,a,b=>by omega;|n+1,s,i,p,a,b=>by
  simp only[εu,idxOf];by_cases h:s=i;·subst h;simp
  ·have:(s==i)=false:=by simpa using h
   rw[this];simp only[φ,if_false];rw[OS (by omega) (by omega)];grind
theorem G2 {k i:Nat} (h:i<k):idxOf (ω k) i=some i:=by
 rw[δF,OS (by omega) (by omega)];simp
mutual
theorem A2 {k:Nat}:∀{v:AV},v.TP k=true->v.bH (λj=>idxOf (ω k) j)=some v
 | .os g d m e,h=>by simp_all[AV.TP,δz,G2];| .ptr g d e,h=>by simp_all[AV.TP,δz,G2];| .mp g,h=>by simp_all[AV.TP,δz,G2];| .agg i,h=>by simp only[AV.TP] at h;simp only[δz,vf h,ν];| .Gz i,h=>by simp only[AV.TP] at h;simp only[δz,vf h,ν];| .fn f a b,h=>by
  simp only[AV.TP,θ] at h;simp only[δz,vf h.1,vf h.2];| .ud,_| .sc _,_| .sl _ _,_| .ep _ _,_| .ifc _ _,_=>by simp only[δz]
theorem vf {k:Nat}:∀{l:List AV},dF k l=true->gU (λj=>idxOf (ω k) j) l=some l
 |[],_=>by simp[gU];|c::i,h=>by
  simp only[dF,θ] at h;simp only[gU,A2 h.1,vf h.2]
end
theorem OR {k:Nat}:∀{l:List (Value×AV)},dF k (l.map (·.2))=true->np (λj=>idxOf (ω k) j) l=some l
 |[],_=>by simp[np];|(q,c)::a,h=>by
  simp only[π,dF,θ] at h;simp only[np,A2 h.1,OR h.2]
theorem WZ {k:Nat} {x:OL} (h:x.TP k=true):x.bH (λj=>idxOf (ω k) j)=some x:=by
 cases x with
 |dead=>rfl;|cells b e f a=>
  cases a with
  |true=>simp only[OL.bH,if_true];|false=>simp_all[OL.TP,OL.bH,vf]
 |map d c a=>
  cases a with
  |true=>simp only[OL.bH,if_true];|false=>simp_all[OL.TP,OL.bH,OR]
theorem G0 {k:Nat} {o:a_} (a:∀x∈o.take k,x.TP k=true) (c:k<=o.length):∀{n s:Nat},s+n=k->ki o (ω k) (ζw s n)=some ((o.take k).drop s)
 |0,s,h=>by
  grind[ki];|n+1,s,h=>by
  simp only[εu,ki];have d:s<o.length:=by omega
  have e:o[s]?=some o[s]:=μ d;rw[e,G0 a c (by omega)];have f:o[s]∈o.take k:=by
   rw[List.mem_take_iff_getElem];grind
  simp only[WZ (a _ f),ν];congr 1;have b:s<(o.take k).length:=by simp;omega
  rw[List.drop_eq_getElem_cons b];simp
theorem nodup_range':∀{n s:Nat},gT.aoL (ζw s n)=true
 |0,_=>by simp[gT.aoL];|n+1,s=>by
  simp only[εu,gT.aoL,nodup_range',δT,Bool.not_eq_true'];grind
theorem Nm {k:Nat}:∀{a b:List AV},dF k a=true->dF k b=true->dF k (a++b)=true
 |[],b,_,h=>h
 |x::a,b,h,c=>by
  simp only[dF,θ] at h;simp only[γI,dF,h.1,Nm h.2 c,Bool.and_self]
theorem GZ {k:Nat}:∀{o:a_},(∀x∈o,x.TP k=true)->dF k (o.flatMap kJ.OL.avs)=true
 |[],_=>by simp[dF];|x::o,h=>by
  simp only[δY];refine Nm ?_ (GZ λy a=>h y (by simp[a]));have b:=h x (by simp);cases x<;>grind[kJ.OL.avs,dF,OL.TP]
theorem Nl {k:Nat} {r:AV} {o:a_} (e:r.TP k=true) (b:∀x∈o,x.TP k=true) (j:k<=o.length):kJ k r o=some (r,o.take k):=by
 unfold kJ;rw[G3 e,OV b];simp only;have a:(e_ (λi=>decide (k<=i)) 0 o).take k=o.take k:=by simpa using OU (k:=k) (o:=o) (i:=0)
 have d:∀{o:a_} {i:Nat},(e_ (λi=>decide (k<=i)) i o).length=o.length:=by
  intro o;induction o with
  |nil=>intro i;rfl;|cons x o l=>simp_all[e_]
 have h:∀x∈o.take k,x.TP k=true:=λx g=>b x (List.mem_of_mem_take g);rw[a,OT (by grind[dF,GZ])];have f:gT.aoL (ω k)=true:=by rw[δF];exact nodup_range'
 rw[if_pos f,A2 e];have c:=G0 (k:=k) (o:=e_ (λi=>decide (k<=i)) 0 o) (by simp_all) (by simp_all) (n:=k) (s:=0) (by omega);rw[<-δF,a,εq] at c;rw[c]
theorem GY:∀{env:eD} {s:Nat} {v:SV},(jl env s).g=v.g->gE (vl env s v)=gE env
 |[],_,_,_=>rfl
 |p::r,s,v,h=>by
  simp only[vl,jl] at h ⊢;cases a:δu p.1 s with
  |true=>
   simp_all[gE];|false=>
   rw[a] at h;simp only[cond_false] at h ⊢;have:=GY h;grind[gE]
theorem WY {env:eD} {g:Option (Option Nat×Bool)} {K:eD->Bool->Prop} (h:GS env g K):∃a w,gE a=gE env/\lx (gE env) g=some w/\K a w:=by
 unfold GS at h;split at h;·exact⟨_,_,rfl,rfl,h⟩
 ·exact h.elim
 ·rename_i s b;split at h;·grind[lx,mD,γE]
  ·rename_i c d;cases c<;>grind[GY,lx,mD,γE]
  all_goals grind[lx,mD,γE,gL]
section
variable {call:cy} {p:ic}
theorem Nk:∀{a b:TN},jY a b->gO a=gO b
 |[],[],_=>rfl
 |x::a,y::b,h=>by
  obtain⟨c,d⟩:=h;have e:x.g=y.g:=c;simp only[gO,π,e];congr 1;exact Nk d
def tM:Trace->Trace->Prop
 |[],[]=>True
 |x::a,y::b=>(x.1=y.1/\x.2.1=y.2.1/\∀j∈x.2.2,j∈y.2.2)/\tM a b
 |_,_=>False
theorem tM.look:∀{a b:Trace} {i:Nat},tM a b->(oH a i).1=(oH b i).1/\∀j∈(oH a i).2,j∈(oH b i).2
 |[],[],_,_=>⟨rfl,λj h=>h⟩
 |(k,x)::a,(g,y)::b,i,h=>by
  obtain⟨⟨c,e,d⟩,f⟩:=h;simp only at c e d;subst c;simp only[oH];split;·exact⟨e,d⟩
  ·exact tM.look f
theorem WX {a b d c:List Nat} (f:∀j∈a,j∈d) (e:∀j∈b,j∈c) (h:wq d c=true):wq a b=true:=by
 grind[wq]
theorem WW {n:Nat} {a b:Trace} {c:List (Nat×Nat)} (h:tM a b) (d:rz n b c=true):rz n a c=true:=by
 unfold rz at d ⊢;rw[List.all_eq_true] at d ⊢;intro p e;have l:=d p e;obtain⟨g,k⟩:=h.look (i:=p.1);obtain⟨f,j⟩:=h.look (i:=p.2);grind[WX]
theorem GX (u:nO call p.C) {base:Nat}:∀{d:List cM} {st:VK} {l:Trace} {K:VK->Trace->Prop},vk p base d st l K->
  ∃st' T,fy call base d st.g=some st'.g/\tM (lv call base d st.g) T/\K st' (T.reverse++l)
 |[],st,l,K,h=>⟨st,[],rfl,trivial,h⟩
 |i::r,st,l,K,h=>by
  simp only[vk] at h;obtain⟨a,w,B,s,q⟩:=WY h;have A:st.g=⟨gE a,gO st.o⟩:=by grind[VK.g]
  rw[<-B] at s;cases w with
  |true=>
   simp only[if_true] at q;obtain⟨v,y,E,c⟩:=W1 u q;have b:gn call base i st.g=some (VK.g ⟨tg a i.dst v,y⟩):=by
    grind[gn,OF,yo,VK.g,OH]
   have k:∀W:List Nat,(∀j∈dJ call i.op (λx=>(iL a x).g) (gO st.o) (base+i.oz),j∈W)->
     vk p base r ⟨tg a i.dst v,y⟩ ((i.idx,dh i.op (λx=>(iL a x).g) (st.o.map iZ.g) (base+i.oz),W)::l) K->
     ∃st' T,fy call base (i::r) st.g=some st'.g/\tM (lv call base (i::r) st.g) T/\K st' (T.reverse++l):=λW G c=>by
    obtain⟨st',T,D,z,F⟩:=GX u c;refine⟨st',(i.idx,dh i.op (λx=>(iL a x).g) (st.o.map iZ.g) (base+i.oz),W)::T,by grind[fy],?_,?_⟩
    ·simp only[lv,b];rw[A];simp only[s,OF];exact⟨⟨rfl,rfl,G⟩,z⟩
    simp_all
   unfold IT at c;split at c
   ·rename_i f n t;split at c
    ·obtain⟨H,c⟩:=c;refine k [] (λj m=>?_) c;rw[t] at E m;have e:gT call f (n.map λx=>(iL a x).g) (gO st.o)=some (v.g,gO y):=by simp_all[MO,fV]
     simp only[dJ,e,List.mem_filter,decide_eq_true_eq] at m;grind[Nk]
    ·exact k _ (λj m=>Gk m) c
   ·exact k _ (λj m=>Gk m) c;|false=>
   simp only[φ,if_false] at q;obtain⟨st',T,D,z,F⟩:=GX u q;have b:gn call base i st.g=some (VK.g ⟨tg a i.dst (.Gz []),st.o⟩):=by
    grind[gn,VK.g,OH,γE,gL]
   refine⟨st',(i.idx,[],[])::T,by grind[fy],?_,?_⟩
   ·simp only[lv,b];rw[A];simp only[s];exact⟨⟨rfl,rfl,λj h=>h⟩,z⟩
   simp_all
theorem WV (k:Nat):gO (δ k .dead)=fw k:=by simp[gO,fw,iZ.g]
theorem Nj (a b:TN):gO (a++b)=gO a++gO b:=by simp[gO]
theorem XK (x:iZ):x.g.lV=x.lV:=by cases x<;>rfl
theorem XJ (base:Nat) (o:TN):gO (GR base o)=pT base (gO o):=by
 unfold GR pT;have:((gO o).drop base).all (·.lV)=(o.drop base).all (·.lV):=by
  simp only[gO,<-List.map_drop,ζZ];grind[XK]
 rw[this];cases(o.drop base).all (·.lV);·rfl
 ·simp[gO]
theorem XI (i:nO call p.C) {k:Nat} {b:List cM} {a:List (Nat×Nat)} {st:VK} {K:VK->Prop} (h:GQ p k b a st K):∃st',nZ call k b a st.g=some st'.g/\K st':=by
 unfold GQ at h;obtain⟨st',T,f,j,d⟩:=GX i h;rw[List.append_nil,List.reverse_reverse] at d;have e:(VK.mk st.env (st.o++δ k .dead)).g=⟨st.g.env,st.g.o++fw k⟩:=by simp[VK.g,Nj,WV]
 rw[e] at f j;have c:st.g.o.length=st.o.length:=by simp[VK.g,mC]
 split at d
 ·rename_i l;refine⟨_,?_,d⟩;simp only[nZ,c];rw[f];simp only;rw[if_pos (by
   grind[fw,WW])];grind[VK.g,XJ]
 simp_all
end
theorem A1 {v:SV}:isNil v=true↔v.g= .sc (.slice none 0 0):=by
 constructor
 ·intro h;unfold isNil at h;split at h;·rfl
  ·cases h
 ·intro h;cases v<;>simp only[γE,reduceCtorEq,δf] at h;subst h;rfl
section
variable {o:TN} {id:Nat} {s:ew} {l:List s.T} {e:TypeId}
def pid (id:Nat):Nat->Bool:=λi=>i==id
mutual
theorem Ni (r:o[id]?=some (.row s l e true)):∀{v:SV} {K:SV->Prop},iP id s l v K->∃E:SV,v.g.Q5 (gO o) (pid id)=some E.g/\K E
 | .ow j n A,K,h=>by
  simp only[iP] at h;split at h
  ·rename_i q;subst q;split at h
   ·rename_i u;subst u;obtain⟨rfl,D⟩:=h;refine⟨_,?_,D⟩;have I:Γ (l.length*s.sz) (bO s l)=bO s l:=γp (by grind[ec]);simp_all[γE,AV.Q5,pid,e6,iZ.g,ec]
   simp_all
  ·rename_i q;refine⟨_,?_,h⟩;simp_all[γE,AV.Q5,pid];| .os j w p n A,K,h=>by
  simp only[iP] at h;split at h
  ·rename_i q;subst q;split at h
   ·rename_i u;subst u;obtain⟨rfl,C,D⟩:=h;refine⟨_,?_,D⟩;have F:(w+p)*s.sz<=l.length*s.sz:=γN _ C;rw[δV] at F;have B:((l.drop w).take p).length=p:=by simp;omega
    simp only[γE,AV.Q5,pid,BEq.rfl,if_true,e6 r,iZ.g,ec,F,and_self,xw,B]
   simp_all
  ·rename_i q;refine⟨_,?_,h⟩;simp_all[γE,AV.Q5,pid];| .oc j w p n A,K,h=>by
  simp only[iP] at h;split at h;·exact h.elim
  ·rename_i q;exact⟨_,by simp_all[γE,AV.Q5,pid],h⟩;| .rp j i f n A,K,h=>by
  simp only[iP] at h;split at h;·exact h.elim
  ·rename_i q;exact⟨_,by simp_all[γE,AV.Q5,pid],h⟩;| .ptr j f t,K,h=>by
  simp only[iP] at h;split at h;·exact h.elim
  ·rename_i q;exact⟨_,by simp_all[γE,AV.Q5,pid],h⟩;| .ap j a b c d i,K,h=>by
  simp only[iP] at h;split at h;·exact h.elim
  ·rename_i q;exact⟨_,by simp_all[γE,AV.Q5,pid],h⟩;| .agg x,K,h=>by
  simp only[iP] at h;obtain⟨m,z,y⟩:=tL r h;grind[γE,AV.Q5];| .Gz x,K,h=>by
  simp only[iP] at h;obtain⟨m,z,y⟩:=tL r h;grind[γE,AV.Q5];| .fn f a b,K,h=>by
  simp only[iP] at h;obtain⟨M,z,y⟩:=tL r h;obtain⟨L,G,H⟩:=tL r y;grind[γE,AV.Q5];| .ud,K,h=>⟨.ud,by grind[γE,AV.Q5],by grind[iP]⟩
 | .sc v,K,h=>⟨.sc v,by grind[γE,AV.Q5],by grind[iP]⟩
 | .il k n,K,h=>⟨.il k n,by grind[γE,AV.Q5],by grind[iP]⟩
 | .si k n,K,h=>⟨.si k n,by grind[γE,AV.Q5],by grind[iP]⟩
 | .bl b,K,h=>⟨.bl b,by grind[γE,AV.Q5],by grind[iP]⟩
 | .sb b,K,h=>⟨.sb b,by grind[γE,AV.Q5],by grind[iP]⟩
 | .row s l,K,h=>⟨.row s l,by grind[γE,AV.Q5],by grind[iP]⟩
 | .ep s l i f,K,h=>⟨.ep s l i f,by grind[γE,AV.Q5],by grind[iP]⟩
 | .mp i,K,h=>⟨.mp i,by grind[γE,AV.Q5],by grind[iP]⟩
 | .ia t x,K,h=>⟨.ia t x,by grind[γE,AV.Q5],by grind[iP]⟩
 | .ite c a b,K,h=>⟨.ite c a b,by grind[γE,AV.Q5],by grind[iP]⟩
theorem tL (r:o[id]?=some (.row s l e true)):∀{x:List SV} {K:List SV->Prop},pV id s l x K->∃m:List SV,gf (gO o) (pid id) (gL x)=some (gL m)/\K m
 |[],K,h=>⟨[],by simp[gL,gf],by grind[pV]⟩
 |c::x,K,h=>by
  simp only[pV] at h;obtain⟨J,z,y⟩:=Ni r h;obtain⟨m,G,H⟩:=tL r y;grind[gL,gf]
end
theorem GW (b:o[id]?=some (.row s l e true)):∀{env:eD} {K:eD->Prop},xE id s l env K->∃a,tE (gO o) (pid id) (gE env)=some (gE a)/\K a
 |[],K,h=>⟨[],rfl,h⟩
 |(k,v)::r,K,h=>by
  simp only[xE] at h;obtain⟨f,d,c⟩:=Ni b h;obtain⟨j,g,i⟩:=GW b c;grind[gE,tE]
theorem A0 {o:a_} {q:Nat->Bool}:∀{cs:List AV},(∀a∈cs,Plain a)->gf o q cs=some cs
 |[],_=>by simp[gf];|a::cs,h=>by
  have d:=A0 (o:=o) (q:=q) (cs:=cs) λb c=>h b (by simp[c]);rcases h a (by simp) with⟨v,rfl,_⟩|⟨n,e,rfl,_⟩<;>simp only[gf,AV.Q5,d]
theorem GV {o:a_} {q:Nat->Bool}:∀{es:List (Value×AV)},(∀a∈es,∃v,a.2= .sc v)->oG o q es=some es
 |[],_=>by simp[oG];|(k,a)::es,h=>by
  obtain⟨v,b⟩:=h (k,a) (by simp);simp only at b;subst b;simp only[oG,AV.Q5,GV (es:=es) λa c=>h a (by simp[c])]
theorem qw (j:o[id]?=some (.row s l e true)):∀{i:Nat} {r:TN} {K:TN->Prop},mG id s l i r K->∃r' mid,iQ (gO o) (pid id) (gO r)=some mid/\e_ (pid id) i mid=gO r'/\K r'
 |i,[],K,h=>⟨[],[],rfl,rfl,h⟩
 |i,x::r,K,h=>by
  cases x with
  |dead=>
   simp only[mG] at h;obtain⟨r',mid,w,n,f⟩:=qw j h;grind[gO,iZ.g,iQ,OL.Q5,e_];|cells N p F d=>
   simp only[mG] at h;cases d with
   |true=>
    simp only[if_true] at h;split at h;·exact h.elim
    ·rename_i B;obtain⟨r',mid,w,n,f⟩:=qw j h;refine⟨_,.cells (gL N) p F true::mid,?_,?_,f⟩;all_goals simp_all[gO,iZ.g,iQ,OL.Q5,e_,pid];|false=>
    simp only[φ,if_false] at h;obtain⟨A,z,k⟩:=tL j h;obtain⟨r',mid,w,n,f⟩:=qw j k;refine⟨_,.cells (gL A) p F false::mid,?_,?_,f⟩;all_goals simp_all[gO,iZ.g,iQ,OL.Q5,e_]
  |aor v u p t=>
   simp only[mG] at h;split at h;·exact h.elim
   ·obtain⟨O,z,k⟩:=tL j h;split at k
    ·rename_i m M;obtain⟨L,_⟩:=A4 M;obtain⟨r',mid,w,n,f⟩:=qw j k;refine⟨_,(iZ.row v (u++m) p false).g::mid,?_,?_,f⟩
     ·simp only[gO,π,iZ.g] at w z ⊢;have G:∀(a b c:List AV),gf (γd iZ.g o) (pid id) a=some a->gf (γd iZ.g o) (pid id) b=some c->gf (γd iZ.g o) (pid id) (a++b)=some (a++c):=λa b c w n=>by
       induction a<;>grind[gf]
      have P:gf (γd iZ.g o) (pid id) (bO v u)=some (bO v u):=A0 (λa C=>lO C);simp_all[iQ,OL.Q5,OP]
     ·simp only[iZ.g,e_,n];rfl
    simp_all;|row v u p d=>
   simp only[mG] at h;have y:(iZ.row v u p d).g.Q5 (gO o) (pid id)=some (iZ.row v u p d).g:=by
    cases d with
    |true=>simp only[iZ.g,OL.Q5,if_true];|false=>
     simp only[iZ.g,OL.Q5,φ,if_false];grind[A0,lO]
   split at h
   ·rename_i B;cases d with
    |false=>simp_all;|true=>
     simp only[if_true] at h;obtain⟨r',mid,w,n,f⟩:=qw j h;refine⟨_,(iZ.row v u p true).g::mid,?_,?_,f⟩;all_goals simp_all[gO,iQ,iZ.g,e_,pid]
   ·rename_i B;obtain⟨r',mid,w,n,f⟩:=qw j h;refine⟨_,(iZ.row v u p d).g::mid,?_,?_,f⟩;·grind[gO,iQ]
    ·cases d<;>simp only[iZ.g,e_,n,pid,beq_iff_eq,if_neg B]<;>rfl;|map H D I E J d=>
   simp only[mG] at h;have y:(iZ.map H D I E J d).g.Q5 (gO o) (pid id)=some (iZ.map H D I E J d).g:=by
    cases d with
    |true=>simp only[iZ.g,OL.Q5,if_true];|false=>
     simp only[iZ.g,OL.Q5,φ,if_false];rw[GV (λa C=>by obtain⟨q,_,rfl⟩:=Ω.1 C;exact⟨_,rfl⟩),ν]
   obtain⟨r',mid,w,n,f⟩:=qw j h;grind[gO,iQ,iZ.g,e_]
end
theorem XH {v:SV}:(∃id,rN.aum v=some id/\∃a b c,v.g= .os id a b c)\/(rN.aum v=none/\∀id a b c,v.g≠ .os id a b c):=by
 cases v<;>simp[rN.aum,γE]
theorem Nh {p:ic} {lo:Nat} {h:iO} {st:VK} {K:VK->Prop} {v:SV} (t:h.own=false) (f:Bp h st.g=some v.g)
  (d:match rN.aum v with
   |some id=>if Nat.ble lo id then(match st.o[id]? with
    |some (.row s l e pu)=>xE id s l st.env λenv=>mG id s l 0 (if pu then st.o else st.o.set id (.row s l e true)) λo=>K ⟨env,o⟩
    |_=>False) else K st
   |none=>K st):∃st',jE lo h st.g=st'.g/\K st':=by
 let _:=p;unfold jE;rw[if_neg (by simp[t]),f];rcases @XH v with⟨id,w,a,b,c,x⟩|⟨w,x⟩
 ·rw[w] at d;rw[x];simp only at d ⊢;split at d
  ·rename_i q;rw[if_pos q];split at d
   ·rename_i s l e pu m;have D:(λi=>i==id)=pid id:=rfl;cases pu with
    |true=>
     simp only[if_true] at d;obtain⟨j,A,n⟩:=GW m d;obtain⟨B,u,C,y,r⟩:=qw m n;refine⟨_,?_,r⟩;simp_all[yn,VK.g,e6,iZ.g,Bm];|false=>
     simp only[φ,if_false] at d;have z:id<st.o.length:=(ζ.1 m).1;have k:(st.o.set id (.row s l e true))[id]?=some (.row s l e true):=by simp_all
     obtain⟨j,A,n⟩:=GW (o:=st.o.set id (.row s l e true)) k d;obtain⟨B,u,C,y,r⟩:=qw k n;refine⟨_,?_,r⟩;simp_all[yn,VK.g,e6,iZ.g,ni,oA,Bm]
   simp_all
  grind
 grind
section
variable {p:ic} {lo:Nat}
theorem XG {h:iO} {st:VK} {K:VK->Prop} (a:rN p lo h st K):∃st',jE lo h st.g=st'.g/\K st':=by
 unfold rN at a;split at a
 ·rename_i f;unfold jE;rw[if_pos f];unfold Bn;split at a
  ·rename_i b;simp only[b];split at a
   ·rename_i r;have t:=A1.1 r;rw[<-mD] at t;have B:cX st.g.env h.slot= .sc (.slice none 0 0):=t;rw[B];split at a
    ·rename_i s J;split at a
     ·rename_i w;refine⟨_,?_,a⟩;simp[VK.g,gE,gO,γE,iZ.g,bO,w]
     simp_all
    simp_all
   ·rename_i r;split at a
    ·rename_i z;split at a
     ·rename_i m G D d;have n:cX st.g.env h.slot= .os m 0 G (G*D):=by
       show cX (gE st.env) h.slot=_;rw[mD,d];rfl
      rw[n];split at a
      ·rename_i s l e y;refine⟨_,?_,a⟩;simp_all[Bo,VK.g,e6,iZ.g,oA]
      simp_all
     simp_all
    ·rename_i z;refine⟨st,?_,a⟩;split
     ·rename_i L;have:cX (gE st.env) h.slot= .sc (.slice none 0 0):=L;grind[mD,A1]
     all_goals simp_all
  ·rename_i k b;simp only[b];split at a
   ·rename_i m c j d;have n:cX st.g.env h.slot= .ptr m c j:=by
     show cX (gE st.env) h.slot=_;rw[mD,d];rfl
    rw[n];split at a
    ·rename_i i e F E y;have u:st.g.o[m]?=some (.cells (gL i) e F E):=e6 y;simp only[u];split at a
     ·rename_i r;cases C:i[c+k]? with
      |none=>simp_all;|some v=>
       rw[C] at r;simp only[Option.any_some] at r;have M:=A1.1 r;have A:(gL i)[c+k]?=some (.sc (.slice none 0 0)):=by grind[rM]
       simp only[A,jk];split at a
       ·rename_i I;rw[if_pos I];split at a
        ·rename_i s J;split at a
         ·rename_i w;refine⟨_,?_,a⟩;have N:gL (i.set (c+k) (.ow st.o.length 0 h.sz))=(gL i).set (c+k) (.os st.o.length 0 0 0):=by
           simp_all[fu,γE]
          simp_all[VK.g,iZ.g,gO,bO]
         simp_all
        simp_all
       simp_all
     grind[rM,A1]
    simp_all
   simp_all
 ·rename_i f;have f:h.own=false:=by simpa using f
  unfold rN.aHI at a;cases b:h.bu with
  |none=>
   rw[b] at a;simp only at a;refine Nh (p:=p) (v:=jl st.env h.slot) f ?_ ?_;all_goals grind[Bp,VK.g,mD];|some k=>
   rw[b] at a;simp only at a;cases q:jl st.env h.slot with
   |ptr m c j=>
    rw[q] at a;simp only at a;cases y:st.o[m]? with
    |none=>simp_all;|some x=>
     rw[y] at a;cases x with
     |cells i e F E=>
      simp only at a;by_cases H:i.length=j
      ·rw[if_pos H] at a;cases C:i[c+k]? with
       |none=>simp_all;|some v=>
        rw[C] at a;refine Nh (p:=p) (v:=v) f ?_ ?_
        ·unfold Bp;rw[b];have:cX st.g.env h.slot= .ptr m c j:=by
          show cX (gE st.env) h.slot=_;rw[mD,q];rfl
         have u:st.g.o[m]?=some (.cells (gL i) e F E):=e6 y;simp_all[behind,jk,rM]
        grind
      simp_all;|_=>exact a.elim
   |_=>rw[q] at a;exact a.elim
theorem GU:∀{hs:List iO} {st:VK} {K:VK->Prop},xD p lo hs st K->∃st',hs.foldl (λs h=>jE lo h s) st.g=st'.g/\K st'
 |[],st,K,h=>⟨st,rfl,h⟩
 |h::hs,st,K,hk=>by
  simp only[xD] at hk;obtain⟨st1,h1,h2⟩:=XG hk;obtain⟨st2,h3,h4⟩:=GU h2;exact⟨st2,by rw[List.foldl_cons,h1,h3],h4⟩
theorem XF (a:List Nat) (env:eD):gE (GP a env)=eK a (gE env):=by
 simp[GP,eK,gE,<-mD]
theorem GT (k:Nat) (st:VK):(eJ k st).g=trim k st.g:=by
 unfold eJ trim;have b:st.g.o.length=st.o.length:=by simp[VK.g,mC]
 have c:(st.g.env.all λp=>p.2.TP k)=(st.env.all λp=>p.2.TP k):=by
  simp only[VK.g,gE,ζZ];grind[xy]
 have d:((st.g.o.take k).all λx=>x.TP k)=((st.o.take k).all λx=>x.TP k):=by
  simp only[VK.g,gO,<-List.map_take,ζZ];grind[Ai]
 rw[b,c,d];by_cases a:st.o.length<=k;·simp_all
 ·rw[if_neg a,if_neg a];split;·simp[VK.g,gO]
  ·rfl
variable {T:jn}
theorem Ng {v:Int} {n:Nat} {K:Nat->Prop}:∀{j:Nat},j<=n->gH v n K j->(n - j:Nat)<=v->∃i:Nat,v=i/\K i
 |0,_,h,a=>by
  grind[gH];|j+1,c,h,a=>by
  simp only[gH] at h;by_cases b:v=(n - (j+1):Nat);·grind
  ·exact Ng (by omega) h.2 (by omega)
theorem Nf {v:Int} {n:Nat} {K:Nat->Prop}:∀{j:Nat},gH v n K j->0<=v
 |0,h=>h.1
 |j+1,h=>Nf h.2
theorem XE {x:Option (Nat×Nat×Nat)} {st:VK} {K:VK->Prop} (h:mg x st K):∃st',st'.g=st.g/\K st':=by
 unfold mg at h;split at h;·grind
 ·rename_i p a n;split at h
  ·rename_i c e q r b;split at h
   ·rename_i k v o;obtain⟨i,rfl,f⟩:=Ng (Nat.le_refl _) h (by have:=Nf h;omega);refine⟨_,?_,f⟩;have l:gL (c.set a (.il k i))=gL c:=by
     rw[fu,fu,List.map_set];apply γ9;grind[γE]
    simp only[VK.g,oA,iZ.g,l,VK.mk.injEq,St.mk.injEq,true_and];apply γ9;intro j;rw[List.getElem?_set];split
    ·rename_i d;subst d;have m:=(ζ.1 b).1;rw[if_pos (by grind[mC]),GG,b];rfl
    ·rfl
   simp_all
  simp_all
theorem Nd:∀{e a:eD},vj e a->gE e=gE a
 |[],[],_=>rfl
 |[],_::_,h=>by grind[vj];|_::_,[],h=>by grind[vj];|(k,v)::e,(d,c)::a,h=>by
  simp only[vj] at h;split at h
  ·rename_i b;subst b;have:=Nd h.2;simp only[gE,π] at this ⊢;rw[this,show v.g=c.g from h.1]
  simp_all
theorem ve:∀{o o':TN},jY o o'->gO o=gO o'
 |[],[],_=>rfl
 |[],_::_,h=>by grind[jY];|_::_,[],h=>by grind[jY];|x::o,y::o',h=>by
  simp only[jY] at h;have:=ve h.2;simp only[gO,π] at this ⊢;rw[this,show x.g=y.g from h.1]
theorem AZ {s t:VK} (h:xC s t):s.g=t.g:=by
 simp only[VK.g,Nd h.1,ve h.2]
theorem aYL (env:eD) (args:List Operand):args.map (dM (gE env))=gL (args.map (iL env)):=by
 simp_all[fu,xz]
theorem tK (hC:nO T.K p.C) (hI:∀f F,p.it f=some F->T.fn f=some F):∀{c:IR} {Λ:Nat->bG} {st:VK} {Q:Out->VK->Prop},wpS p lo c Λ st Q->VW T xI lo c st.g λout s=>∃ss,s=ss.g/\Q out ss:=by
 intro c;induction c with
 |skip=>intro Λ st Q h;exact VW.skip ⟨st,rfl,h⟩;|exit id=>intro Λ st Q h;exact VW.exit ⟨st,rfl,h⟩;|ret=>intro Λ st Q h;exact VW.ret ⟨st,rfl,h⟩;|goto l=>intro Λ st Q h;exact VW.goto ⟨st,rfl,h⟩;|nr x a b iha ihb=>
  intro Λ st Q h;simp only[wpS] at h;have hx:dM st.g.env x=(iL st.env x).g:=xz _ _;split at h
  ·rename_i he;rw[he] at hx;exact VW.nr hx (by rw[if_pos rfl];exact iha h)
  ·rename_i he;rw[he] at hx;exact VW.nr hx (by rw[if_neg (by simp)];exact ihb h)
  ·rename_i c he;rw[he] at hx;have hset:∀v:SV,(SV.sb c).g=v.g->(VK.mk (Al st.env x v) st.o).g=st.g:=λv hv=>by
    cases x with
    |tmp t=>
     have:jl st.env t= .sb c:=he;simp only[VK.g,Al];rw[GY (by rw[this];exact hv)];|_=>rfl
   refine VW.nr hx ?_;cases c with
   |true=>
    have:=iha (h.1 rfl);rw[hset (.bl true) rfl] at this;rw[if_pos rfl];exact this;|false=>
    have:=ihb (h.2 rfl);rw[hset (.bl false) rfl] at this;rw[if_neg (by simp)];exact this
  ·exact h.elim;|turns l b ih=>
  intro Λ st Q h;cases l with
  |none=>
   simp only[wpS] at h;refine VW.YM ((ih h).mono ?_);rintro out s ⟨ss,rfl,h2⟩;cases out with
   |norm=>exact⟨by simp,ss,rfl,h2⟩;|exit id=>exact⟨by simp,ss,rfl,h2⟩;|ret=>exact⟨by simp,ss,rfl,h2⟩;|goto l=>exact h2.elim
  |some l=>
   simp only[wpS] at h;split at h
   ·rename_i X shape next J m inner _;obtain⟨⟨h0,hx⟩,hstep⟩:=h;refine VW.YL (λk s=>∃x,s=(shape x).g/\J x/\m x=k) ?_ (m (next st)) _ ⟨next st,AZ h0,hx,rfl⟩;rintro k s ⟨x,rfl,hj,rfl⟩;refine(ih (hstep x hj)).mono ?_;rintro out s ⟨ss,rfl,h2⟩;cases out with
    |goto l'=>
     obtain⟨rfl,h3,h4,h5⟩:=h2;refine .inl ⟨rfl,_,h5,_,?_,h4,rfl⟩;have h6:=AZ h3;rw[<-h6,GT,show(shape x).o.length=(shape x).g.o.length from by simp[VK.g,mC]];|norm=>exact .inr ⟨by simp,ss,rfl,h2⟩;|exit id=>exact .inr ⟨by simp,ss,rfl,h2⟩;|ret=>exact .inr ⟨by simp,ss,rfl,h2⟩
   ·exact h.elim
 |region id draw k ops chk live pre post=>
  intro Λ st Q h;simp only[wpS] at h;obtain⟨st0,h0,h⟩:=XE h;obtain⟨st1,h1,h2⟩:=GU h;obtain⟨st2,h3,h4⟩:=XI hC h2;obtain⟨st3,h5,h6⟩:=GU h4;refine VW.region ?_;rw[<-h0,h1,h3];refine⟨st3,?_,h6⟩;rw[<-h5];simp only[VK.g,XF];|dfr g caps d a b _ _=>intro Λ st Q h;exact h.elim;|seq a b iha ihb=>
  intro Λ st Q h;simp only[wpS] at h;refine VW.seq ((iha h).mono ?_);rintro out s ⟨ss,rfl,h2⟩;cases out with
  |norm=>rw[if_pos rfl];exact ihb h2;|exit id=>rw[if_neg (by simp)];exact⟨ss,rfl,h2⟩;|ret=>rw[if_neg (by simp)];exact⟨ss,rfl,h2⟩;|goto l=>rw[if_neg (by simp)];exact⟨ss,rfl,h2⟩
 |cond x a b iha ihb=>
  intro Λ st Q h;simp only[wpS] at h;have hx:dM st.g.env x=(iL st.env x).g:=xz _ _;have hdr:(VK.mk (vi x st.env) st.o).g=⟨nY x st.g.env,st.g.o⟩:=by
   have:∀(t:Nat) (env:eD),(xB t env).map (λp=>(p.1,p.2.g))=pP t (env.map λp=>(p.1,p.2.g)):=by
    intro t env;induction env with
    |nil=>rfl;|cons p env ih=>
     simp only[xB,pP,π];cases δu p.1 t with
     |true=>simpa using ih;|false=>simpa using ih
   cases x with
   |tmp t=>simp only[VK.g,gE,vi,nY];rw[this];|_=>rfl
  split at h
  ·rename_i he;rw[he] at hx;exact VW.cond hx (by rw[if_pos rfl,<-hdr];exact iha h)
  ·rename_i he;rw[he] at hx;exact VW.cond hx (by rw[if_neg (by simp),<-hdr];exact ihb h)
  ·rename_i c he;rw[he] at hx;refine VW.cond hx ?_;cases c with
   |true=>rw[if_pos rfl,<-hdr];exact iha (h.1 rfl);|false=>rw[if_neg (by simp),<-hdr];exact ihb (h.2 rfl)
  ·exact h.elim;|block id b ih=>
  intro Λ st Q h;simp only[wpS] at h;exact VW.block ((ih h).mono λout s ⟨ss,e,h2⟩=>⟨ss,e,h2⟩);|loop b ih=>
  intro Λ st Q h;simp only[wpS] at h;split at h
  ·rename_i n hΛ;clear hΛ;induction n generalizing st with
   |zero=>exact h.elim;|succ n ihn=>
    simp only[GO] at h;refine VW.loop ((ih h).mono ?_);rintro out s ⟨ss,rfl,h2⟩;cases out with
    |norm=>
     rw[if_pos rfl];have:=ihn h2;rwa [GT,show st.o.length=st.g.o.length from by simp[VK.g,mC]] at this;|exit id=>rw[if_neg (by simp)];exact⟨ss,rfl,h2⟩;|ret=>rw[if_neg (by simp)];exact⟨ss,rfl,h2⟩;|goto l=>rw[if_neg (by simp)];exact⟨ss,rfl,h2⟩
  ·exact h.elim
  ·rename_i X shape next J m inner _;obtain⟨⟨h0,hx⟩,hstep⟩:=h;refine VW.YN (λk s=>∃x,s=(shape x).g/\J x/\m x=k) ?_ (m (next st)) _ ⟨next st,AZ h0,hx,rfl⟩;rintro k s ⟨x,rfl,hj,rfl⟩;refine(ih (hstep x hj)).mono ?_;rintro out s ⟨ss,rfl,h2⟩;cases out with
   |norm=>
    rw[if_pos rfl];obtain⟨h3,h4,h5⟩:=h2;refine⟨_,h5,_,?_,h4,rfl⟩;have h6:=AZ h3;rw[<-h6,GT,show(shape x).o.length=(shape x).g.o.length from by simp[VK.g,mC]];|exit id=>rw[if_neg (by simp)];exact⟨ss,rfl,h2⟩;|ret=>rw[if_neg (by simp)];exact⟨ss,rfl,h2⟩;|goto l=>rw[if_neg (by simp)];exact⟨ss,rfl,h2⟩
theorem Nc {st:VK}:∀{a:List lS} {K:List SV->Prop},mE.goK st a K->∃l,a.mapM (pS st.g)=some (gL l)/\K l
 |[],K,h=>⟨[],by simp[gL],h⟩
 |r::a,K,h=>by
  simp only[mE.goK] at h;have b:∃v,pS st.g r=some v.g/\mE.goK st a λl=>K (v::l):=by
   unfold mE.aHJ at h;unfold pS;split at h
   ·rename_i c;rw[c];exact⟨_,by grind[VK.g,mD],h⟩
   grind[Oy,VK.g,mD]
  obtain⟨v,i,d⟩:=b;obtain⟨l,f,e⟩:=Nc d;exact⟨v::l,by simp_all[gL],e⟩
theorem vd {st:VK} {b:List lS} {K:SV->Prop} (h:mE st b K):∃r,mL st.g b=some r.g/\K r:=by
 unfold mE at h;obtain⟨l,c,a⟩:=Nc h;unfold mL;rw[c];match l,a with
 |[],a=>exact⟨_,rfl,a⟩;|[v],a=>exact⟨v,rfl,a⟩;|v::w::l,a=>exact⟨_,rfl,a⟩
theorem tJ:∀(i:Nat) (args:List SV),gE (lN i args)=gl i (gL args)
 |_,[]=>rfl
 |i,v::a=>by
  have:=tJ (i+1) a;grind[gE,lN,gL,gl]
theorem AY {Λ:Nat->bG} {P:Program} (hT:jZ P T) (hC:nO T.K p.C) (hI:∀f F,p.it f=some F->T.fn f=some F) {f:FuncId} {F:ey} (hF:T.fn f=some F) {args:List SV} {r:AV} (hK:T.K f (gL args) [] false=none) (hlen:args.length=F.params)
  {Q:SV->Prop} (hQ:∀v,Q v->v.g=r) (h:oj p Λ F args Q):fU P f=true/\jB P f (gL args) [] r []:=by
 unfold oj at h;have hw:=tK hC hI h;have hst:(VK.mk (lN 0 args) []).g=⟨gl 0 (gL args),[]⟩:=by simp[VK.g,tJ,gO]
 rw[hst] at hw;obtain⟨h1,h2,_⟩:=Aw hT hF (o:=[]) (own:=false) hK (by rw[jk];exact hlen) (v:=r) (o':=[]) (hw.mono λout s hs=>by
  obtain⟨ss,rfl,hq⟩:=hs;cases out with
  |exit id=>exact hq.elim;|goto l=>exact hq.elim;|norm=>
   obtain⟨r0,h1,h2⟩:=vd hq;obtain⟨v,h3,h4⟩:=GE h2;refine⟨.inl rfl,?_⟩;rw[h1];show finish false 0 r0.g ss.g.o=_;have:freeze ss.g.o 6 r0.g=some v.g:=h3;simp[finish,this,hQ _ h4];|ret=>
   obtain⟨r0,h1,h2⟩:=vd hq;obtain⟨v,h3,h4⟩:=GE h2;refine⟨.inr rfl,?_⟩;rw[h1];show finish false 0 r0.g ss.g.o=_;have:freeze ss.g.o 6 r0.g=some v.g:=h3;simp[finish,this,hQ _ h4]);exact⟨h1,h2⟩
end
structure o7 (α:Type) where
 put:α->SV
 dec:SV->Option α
 ok:∀v a,dec v=some a->v.g=(put a).g
 inj:∀a b,(put a).g=(put b).g->a=b
structure ox (α:Type) where
 put:α->List SV
 dec:List SV->Option α
 ok:∀v a,dec v=some a->gL v=gL (put a)
 inj:∀a b,gL (put a)=gL (put b)->a=b
def ox.one {d:Type} (c:o7 d):ox d where
 put a:=[c.put a];dec
  |[v]=>c.dec v
  |_=>none;ok v a h:=by
  match v,h with
  |[v],h=>simp only[gL,c.ok v a h]
 inj a b h:=by
  simp only[gL,Δ,and_true] at h;exact c.inj a b h
def ox.cons {f g:Type} (c:o7 f) (d:ox g):ox (f×g) where
 put a:=c.put a.1::d.put a.2;dec
  |v::e=>match c.dec v,d.dec e with
   |some a,some b=>some (a,b)
   |_,_=>none
  |[]=>none;ok v a h:=by
  match v,h with
  |v::e,h=>
   simp only at h;split at h
   ·rename_i x y j i;simp only[γ] at h;subst h;simp only[gL,c.ok v x j,d.ok e y i]
   ·cases h
 inj a b h:=by
  simp only[gL,Δ] at h;exact Prod.ext (c.inj _ _ h.1) (d.inj _ _ h.2)
def ox.nil:ox Unit where
 put _:=[];dec
  |[]=>some ()
  |_=>none;ok v a h:=by
  grind
 inj a b h:=rfl
structure M9 where
 f:FuncId
 α:Type
 A:ox α
 dom:α->Prop
 res:α->SV
def Holds (P:Program) (c:M9):Prop:=∀a,c.dom a->fU P c.f=true/\jB P c.f (gL (c.A.put a)) [] (c.res a).G []
def lD (f:FuncId):List M9->Option M9
 |[]=>none
 |c::r=>bif δu c.f f then some c else lD f r
def tI (L:List M9) (f:FuncId) (args:List SV) (K:SV->Prop):Prop:=
 match lD f L with
 |some c=>h_ (c.A.dec args) λa=>c.dom a/\zb (c.res a) K
 |none=>False
structure ky where
 K:FuncId->List AV->a_->Option (AV×a_)
 C:FuncId->List SV->TN->(SV->TN->Prop)->Prop
def ky.none:ky:=⟨λ_ _ _=> .none,λ_ _ _ _=>False⟩
noncomputable def pL (L:List M9) (W:ky):cy:=λf args o own=>
 if own then W.K f args o
 else match o with
  |[]=>match lD f L with
   |some c=>(tR (λa=>gL (c.A.put a)) c.dom (λa=>(c.res a).G) args).map λv=>(v,[])
   |none=> .none
  |_=> .none
noncomputable def nN (a:FuncId->Option ey) (L:List M9) (W:ky):jn:=⟨a,pL L W⟩
structure mB (P:Program) (W:ky):Prop where
 K:∀f args o r o',W.K f args o=some (r,o')->fU P f=true/\jB P f args o r o'
 C:∀(call:cy),(∀f args o,call f args o true=W.K f args o)->∀f args o K,W.C f args o K->∃(r:SV) (o':TN),gT call f (gL args) (gO o)=some (r.g,gO o')/\K r o'
theorem mB.none (P:Program):mB P ky.none where
 K:=λ_ _ _ _ _ h=>by cases h
 C:=λ_ _ _ _ _ _ h=>h.elim
theorem Nb:∀{L:List M9} {f:FuncId} {c:M9},lD f L=some c->c.f=f/\c∈L
 |[],_,_,h=>by cases h;|d::L,f,c,h=>by
  simp only[lD] at h;cases a:δu d.f f with
  |true=>
   simp_all;|false=>
   rw[a] at h;simp only[cond_false] at h;obtain⟨b,e⟩:=Nb h;simp_all
theorem Fx:∀{v:SV} {K:SV->Prop},zb v K->∃w:SV,w.g=v.G/\K w
 | .ite c a b,K,h=>by
  cases c with
  |true=>exact Fx (v:=a) (h.1 rfl);|false=>exact Fx (v:=b) (h.2 rfl)
 | .ud,_,h| .sc _,_,h| .il _ _,_,h| .si _ _,_,h| .bl _,_,h| .sb _,_,h| .agg _,_,h| .Gz _,_,h| .row _ _,_,h| .ep _ _ _ _,_,h| .ptr _ _ _,_,h| .ap _ _ _ _ _ _,_,h| .rp _ _ _ _ _,_,h| .ow _ _ _,_,h| .os _ _ _ _ _,_,h| .oc _ _ _ _ _,_,h| .mp _,_,h| .fn _ _ _,_,h| .ia _ _,_,h=>⟨_,rfl,h⟩
theorem vc:∀{w v:SV},v.pW w->v.g=w.G
 | .ite c a b,v,h=>by
  cases c with
  |true=>exact vc (w:=a) (h.1 rfl);|false=>exact vc (w:=b) (h.2 rfl)
 | .ud,_,h| .sc _,_,h| .il _ _,_,h| .si _ _,_,h| .bl _,_,h| .sb _,_,h| .agg _,_,h| .Gz _,_,h| .row _ _,_,h| .ep _ _ _ _,_,h| .ptr _ _ _,_,h| .ap _ _ _ _ _ _,_,h| .rp _ _ _ _ _,_,h| .ow _ _ _,_,h| .os _ _ _ _ _,_,h| .oc _ _ _ _ _,_,h| .mp _,_,h| .fn _ _ _,_,h| .ia _ _,_,h=>h
variable {P:Program} {L:List M9} {W:ky} {fn:FuncId->Option ey}
theorem rJ (j:mB P W) (k:∀c∈L,Holds P c) (n:jZ P ⟨fn,λ_ _ _ _=>none⟩):jZ P (nN fn L W) where
 fn:=n.fn;K:=λg e o b r q h=>by
  simp only[nN,pL] at h;cases b with
  |true=>
   simp only[if_true] at h;obtain⟨p,d⟩:=j.K _ _ _ _ _ h;simp_all;|false=>
   simp only[φ,if_false] at h;split at h
   ·split at h
    ·rename_i c l;obtain⟨rfl,f⟩:=Nb l;obtain⟨v,m,d⟩:=ε.1 h;simp only[Prod.mk.injEq] at d;obtain⟨rfl,rfl⟩:=d;obtain⟨a,rfl,i,rfl⟩:=YJ m;obtain⟨t,s⟩:=k c f a i;simp_all
    ·cases h
   ·cases h
theorem rI (hW:mB P W):nO (nN fn L W).K ⟨tI L,W.C⟩ where
 pure:=λf args K h=>by
  simp only[tI] at h;split at h
  ·rename_i c hc;obtain⟨a,h1,h2,h3⟩:=iI h;obtain⟨r,h4,h5⟩:=Fx h3;refine⟨r,?_,h5⟩;have:=c.A.ok _ _ h1;simp only[nN,pL,φ,if_false,hc,this];rw[YK (enc:=λa=>gL (c.A.put a)) c.A.inj h2,h4];rfl
  ·exact h.elim
 own:=λf args o K h=>hW.C _ (λf args o=>by simp[nN,pL]) f args o K h
theorem Fw {f:FuncId} {args:List AV} (h:lD f L=none):(nN fn L W).K f args [] false=none:=by
 simp[nN,pL,h]
def kx (L:List M9) (W:ky) (a:TypeId->Option ew) (c:List Nat×Bool->Option (ew×ew)) (b:FuncId->Option ey):ic:=⟨⟨tI L,W.C⟩,a,c,λ_=>none,b,λ_=>false⟩
theorem holds_of (c:M9) {F:ey} {ty:TypeId->Option ew} {mt:List Nat×Bool->Option (ew×ew)} {Λ:c.α->Nat->bG} (h0:jZ P ⟨fn,λ_ _ _ _=>none⟩) (hW:mB P W) (hL:∀c∈L,Holds P c)
  (hF:fn c.f=some F) (hfr:lD c.f L=none) (hlen:∀a,(c.A.put a).length=F.params)
  (h:∀a,c.dom a->oj (kx L W ty mt fn) (Λ a) F (c.A.put a) λv=>v.pW (c.res a)):Holds P c:=by
 intro a hd;exact AY (p:=kx L W ty mt fn) (Λ:=Λ a) (rJ hW hL h0) (rI hW) (λ_ _ h=>h) hF (Fw hfr) (hlen a) (λ_ h=>vc h) (h a hd)
def Fv (L:List M9) (W:ky) (a:TypeId->Option ew) (c:List Nat×Bool->Option (ew×ew)) (b:FuncId->Option ey) (d:FuncId->Bool):ic:=⟨⟨tI L,W.C⟩,a,c,λ_=>none,b,d⟩
theorem XD (c:M9) {F:ey} {ty:TypeId->Option ew} {mt:List Nat×Bool->Option (ew×ew)} {ro:FuncId->Bool} {Λ:c.α->Nat->bG} (h0:jZ P ⟨fn,λ_ _ _ _=>none⟩) (hW:mB P W) (hL:∀c∈L,Holds P c)
  (hF:fn c.f=some F) (hfr:lD c.f L=none) (hlen:∀a,(c.A.put a).length=F.params)
  (h:∀a,c.dom a->oj (Fv L W ty mt fn ro) (Λ a) F (c.A.put a) λv=>v.pW (c.res a)):Holds P c:=by
 intro a hd;exact AY (p:=Fv L W ty mt fn ro) (Λ:=Λ a) (rJ hW hL h0) (rI hW) (λ_ _ h=>h) hF (Fw hfr) (hlen a) (λ_ h=>vc h) (h a hd)
def dX (k:IntKind):o7 Int where
 put n:=.si k n;dec v:=v.int k;ok v a h:=by rw[gS h];rfl
 inj a b h:=by grind[γE]
def Na:o7 Bool where
 put b:=.sb b;dec v:=v.ph;ok v a h:=by rw[th h];rfl
 inj a b h:=by grind[γE]
theorem qv:(s:ew)->(x y:s.T)->cI s x=cI s y->(e:s.flat=true:=by rfl)->x=y
 | .i k,x,y,h,_=>by grind[cI];| .b,x,y,h,_=>by grind[cI];| .bun,⟨o,B,r,f,j,q⟩,⟨p,l,g,u,A,z⟩,h,_=>by
  simp_all[cI,iv];| .bu,⟨b,⟨o,B,r,f,j,q⟩,v⟩,⟨c,⟨p,l,g,u,A,z⟩,w⟩,h,_=>by
  simp_all[cI,iv];| .need,⟨a,b⟩,⟨c,d⟩,h,_=>by
  simp_all[cI,iv];| .key,⟨b,⟨o,B,r,f,j,q⟩⟩,⟨c,⟨p,l,g,u,A,z⟩⟩,h,_=>by
  simp_all[cI,iv];| .sit,⟨m,⟨o,B,r,f,j,q⟩,⟨K,F,G,N,L,P⟩⟩,⟨n,⟨p,l,g,u,A,z⟩,⟨O,J,M,I,H,E⟩⟩,h,_=>by
  simp_all[cI,iv];| .qE _,_,_,_,e=>by grind[ew.flat];| .pair s t,(a,b),(c,d),h,e=>by
  simp only[ew.flat,θ] at e;simp only[cI] at h;obtain⟨D,C⟩:=εG h (by grind[Ga]);rw[qv s a c D e.1,qv t b d C e.2]
theorem Fu {d i:Type} {n:Nat} {f:d->List i} (a:∀x,(f x).length=n) (c:∀x y,f x=f y->x=y):∀{l m:List d},l.length=m.length->l.flatMap f=m.flatMap f->l=m
 |[],[],_,_=>rfl
 |[],_::_,h,_=>by simp at h;|_::_,[],h,_=>by simp at h;|x::l,y::m,b,h=>by
  simp only[δY] at h;obtain⟨e,g⟩:=εG h (by rw[a,a]);simp only[γG,ζq] at b;rw[c x y e,Fu a c b g]
theorem u_:(s:ew)->(x y:s.T)->(h:de s x=de s y)->x=y
 | .qE s,x,y,h=>by
  simp only[de,Δ,AV.sl.injEq,and_true] at h;exact Fu (k8 s) (u_ s) h.1 h.2;| .pair s t,(a,b),(c,d),h=>by
  simp only[de] at h;obtain⟨e,f⟩:=εG h (by grind[k8]);rw[u_ s a c e,u_ t b d f];| .i k,x,y,h=>qv (.i k) x y (rK h)
 | .b,x,y,h=>qv .b x y (rK h)
 | .bun,x,y,h=>qv .bun x y (rK h)
 | .bu,x,y,h=>qv .bu x y (rK h)
 | .need,x,y,h=>qv .need x y (rK h)
 | .key,x,y,h=>qv .key x y (rK h)
 | .sit,x,y,h=>qv .sit x y (rK h)
theorem ku (s:ew) {l m:List s.T} (a:l.length=m.length) (h:bO s l=bO s m):l=m:=
 Fu (k8 s) (u_ s) a h
def dy (s:ew):o7 s.T where
 put x:=.agg (cJ s x);dec
  | .agg c=>jm s c
  |_=>none;ok v a h:=by
  grind[γE,fu,mJ,rT]
 inj a b h:=by
  grind[γE,fu,rT,u_]
theorem ng {s:ew} {v:SV} {l:List s.T} (h:iJ s v=some l):v.g=(SV.row s l).g:=by
 cases v<;>simp only[iJ,reduceCtorEq] at h;grind[xt,γE,bO]
def cL (s:ew):o7 (List s.T) where
 put l:=.row s l;dec:=iJ s;ok v a h:=ng h;inj a b h:=by
  grind[γE,ku]
end Go.Vi
