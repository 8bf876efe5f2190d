/-
  The symbolic run: its operations, and what must hold for a piece of code to come to a post. Plain definitions: no proof stands here.
  Conditions: none.
-/
import Derived.Test.YtjcmncmajmoiiaaGreatTX04
set_option maxRecDepth 100000
set_option maxHeartbeats 4000000
set_option linter.all false
open And renaming intro->γj
open BitVec renaming ofInt->γt
open Bool renaming and_eq_true->θ,and_true->δX,false_eq_true->φ,or_eq_true->δq,true_eq_false->ζO
open Function renaming comp_def->δf
open Go.Vi.AV renaming sc->δj,ren->δD
open Go.Vi.AV.sc renaming injEq->γZ
open Go.Vi.SV renaming g->γF
open List renaming replicate->ε,map_map->δo,mem_map->γf,length_cons->γv,length->γo,drop_drop->γV,getElem?_eq_getElem->ξ,take->γd,take_of_length_le->γn,map_cons->ι,take_append_drop->γc,cons_append->γB,modify_succ_cons->ζF,getElem?_eq_some_iff->ζ,map_append->γa,flatMap_nil->εY,nil_append->δp,drop_zero->δM,map_nil->γs,take_succ_cons->εe,range->τ,range'->ζx,range'_succ->εw,range_eq_range'->δI,flatMap_cons->δ8,all_map->ζU,map->γh,ext_getElem?->δc,append_inj->εH
open List.cons renaming injEq->π
open Nat renaming beq->δz,add_assoc->ε2,mul_le_mul_right->γO,add_mul->δ1,add_right_cancel_iff->ζp,le_refl->ψ
open Option renaming map_eq_some_iff->δ,map_some->μ,isSome_some->ζP,isSome_none->ζf
open Option.some renaming injEq->γ
namespace Go.Vi
abbrev ff:=List (Nat×SV)
abbrev bV:=List bq
structure cn where
 env:ff
 o:bV
def jC:ff->Nat->SV
 |[],_=> .ud
 |p::r,s=>bif δz p.1 s then p.2 else jC r s
def uX (env:ff) (a:Option Nat) (v:SV):ff:=
 match a with
 |none=>env
 |some d=>(d,v)::env
def SV.oD:Value->SV
 | .int k n=> .il k n
 | .bool b=> .bl b
 |v=> .sc v
def SV.uy:Value->SV
 | .agg a=>if a.toList.all (·.oneCell') then .agg (a.toList.map .oD) else .ud
 | .tuple _=> .ud
 | .int k n=> .il k n
 | .bool b=> .bl b
 |v=> .sc v
def jh (env:ff):Operand->SV
 | .tmp t=>jC env t
 | .const v=> .uy v
 | .global _=> .ud
 | .func f=> .fn (.func f) [] []
def SV.cellsOf:SV->List SV
 | .agg a=>a
 |v=>[v]
def SV.one:SV->Bool
 | .agg _| .bH _| .ud| .ite _ _ _=>false
 | .sc v=>v.oneCell'
 |_=>true
def wS (l:List SV):Bool:=l.all (·.one)
mutual
def SV.pure:SV->Bool
 | .sc _| .il .. | .si .. | .bl _| .sb _| .row .. =>true
 |_=>false
def zd:List SV->Bool
 |[]=>true
 |c::a=>c.pure&&zd a
end
mutual
def SV.bY (k:Nat):SV->Bool
 | .ud| .sc _| .il .. | .si .. | .bl _| .sb _| .row .. | .ep .. =>true
 | .agg cs| .bH cs=>rX k cs
 | .ptr id .. | .ap id .. | .rp id .. | .ow id .. | .os id .. | .oc id .. | .mp id=>decide (id<k)
 | .fn _ a b=>rX k a&&rX k b
 | .ia _ _| .ite _ _ _=>true
def rX (k:Nat):List SV->Bool
 |[]=>true
 |c::cs=>c.bY k&&rX k cs
end
def bq.bY (k:Nat):bq->Bool
 | .cells b _ _ a=>a||rX k b
 | .oz _ _ _ t=>rX k t
 |_=>true
mutual
def SV.kP:SV->Bool
 | .ud| .sc _| .il .. | .si .. | .bl _| .sb _=>true
 | .agg a| .bH a=>B2 a
 |_=>false
def B2:List SV->Bool
 |[]=>true
 |c::a=>c.kP&&B2 a
end
def bX (k:IntKind) (n:Int):Prop:=
 match k with
 | .i64=> -9223372036854775808<=n/\n<=9223372036854775807
 |k=>k.wrap n=n
def uY (k:IntKind) (n:Int) (K:Int->Prop):Prop:=
 match k with
 | .u32=>K (n % 4294967296)
 | .u64=>K (n % 18446744073709551616)
 |k=>bX k n/\K n
structure Oc where
 pure:FuncId->List SV->(SV->Prop)->Prop
 own:FuncId->List SV->bV->(SV->bV->Prop)->Prop
structure iI where
 C:Oc
 ty:TypeId->Option bn
 mt:List Nat×Bool->Option (bn×bn)
 sp:Nat->Option (Nat×Nat×Nat):=λ_=>none
 it:FuncId->Option fb:=λ_=>none
 ro:FuncId->Bool:=λ_=>false
def rY (cs:List SV) (a:Nat):Option Nat->Option SV
 |none=>cs[a]?
 |some n=>if a+n<=cs.length then some (.agg ((cs.drop a).take n)) else none
def tB (cs:List SV) (a:Nat):List SV->List SV
 |[]=>cs
 |v::b=>tB (cs.set a v) (a+1) b
def iJ {b:Type} (x:Option b) (K:b->Prop):Prop:=match x with|some a=>K a|none=>False
def uZ {b:Type} (f:SV->(b->Prop)->Prop):List SV->(List b->Prop)->Prop
 |[],K=>K []
 |v::c,K=>f v λa=>uZ f c λd=>K (a::d)
def q9 (o:bV):Nat->SV->(SV->Prop)->Prop
 |_,.ud,K=>K .ud
 |_,.sc v,K=>match v with
  | .slice none 0 0=>K (.row (.i .i64) [])
  |v=>K (.sc v)
 |_,.il k n,K=>K (.il k n)
 |_,.si k n,K=>K (.si k n)
 |_,.bl b,K=>K (.bl b)
 |_,.sb b,K=>K (.sb b)
 |_,.row s l,K=>K (.row s l)
 |_,.ia t cs,K=>K (.ia t cs)
 |d+1,.agg cs,K=>uZ (q9 o d) cs λcs'=>K (.agg cs')
 |d+1,.bH cs,K=>uZ (q9 o d) cs λcs'=>K (.bH cs')
 |d+1,.fn f a b,K=>uZ (q9 o d) a λa'=>uZ (q9 o d) b λb'=>K (.fn f a' b')
 |_+1,.ow id n sz,K=>match o[id]? with
  |some (.row s l _ _)=>if sz=s.sz then n=l.length/\K (.row s l) else False
  |_=>False
 |_+1,.os id off len n sz,K=>match o[id]? with
  |some (.row s l _ _)=>if sz=s.sz then n=l.length/\off+len<=n/\K (.row s ((l.drop off).take len)) else False
  |_=>False
 |_,_,_=>False
def mA (o:bV) (a:SV) (n:Option Nat) (K:SV->Prop):Prop:=
 match a with
 | .ptr h b d=>match o[h]? with
  |some (.cells c _ _ _)=>if c.length=d then iJ (rY c b n) K else False
  |_=>False
 | .ap h e g f d i=>match o[h]? with
  |some (.cells c _ _ _)=>if c.length=d/\e+g*f<=d then i<f/\ze ((c.drop e).take (g*f)) g i n K else False
  |_=>False
 | .ep s l i b=>i<l.length/\iJ (rY (encS s (bj l i s.dflt)) b n) K
 | .rp h i b m g=>match o[h]? with
  |some (.row s l _ _)=>if g=s.sz then m=l.length/\i<l.length/\iJ (rY (encS s (bj l i s.dflt)) b n) K else False
  |_=>False
 |_=>False
where
 ze (c:List SV) (g i:Nat) (n:Option Nat) (K:SV->Prop):Prop:=
  match n,g with
  |none,1=>match ints c with
   |some l=>K (.si .i64 (bj l i 0))
   |none=>match rowsOff c with
    |some l=>K (.row .off (bj l i []))
    |none=>False
  |_,_=>False
 rowsOff:List SV->Option (List (List Off))
  |[]=>some []
  | .row .off l::c=>(rowsOff c).map (l::·)
  |_=>none
def mkK (bB:Nat) (x:bq) (o:bV) (K:bV->Prop):Prop:=
 match o[bB]? with
 |some .dead=>K (o.set bB x)
 |_=>False
def rZ (a:List (Nat×Nat×SV)) (cs:List SV):Option (List SV):=
 match a with
 |[]=>some cs
 |(b,n,v)::c=>
  if v.cellsOf.length=n/\wS v.cellsOf=true/\b+n<=cs.length then rZ c (tB cs b v.cellsOf) else none
def tC (s:bn):Nat->List SV->Option (List s.T)
 |0,[]=>some []
 |n+1,a=>match jB s (a.take s.sz),tC s n (a.drop s.sz) with
  |some x,some l=>some (x::l)
  |_,_=>none
 |_,_=>none
def u7 (o:bV) (s:bn) (x:SV) (K:List s.T->Prop):Prop:=
 match x with
 | .row a l=>iJ (iD a s l) K
 | .ow d n e=>match o[d]? with
  |some (.row a l _ _)=>if e=a.sz then n=l.length/\iJ (iD a s l) K else False
  |_=>False
 | .os d c b n e=>match o[d]? with
  |some (.row a l _ _)=>if e=a.sz then n=l.length/\c+b<=n/\iJ (iD a s ((l.drop c).take b)) K else False
  |_=>False
 | .sc (.slice none 0 0)=>K []
 |_=>False
def Oe (o:bV):SV->Option (List SV)
 | .ow j 1 a=>match o[j]? with
  |some (.oz s [] _ t)=>if s.sz=a then some t else none
  |_=>none
 |_=>none
def SV.Og:SV->Bool
 | .ow .. =>true
 |_=>false
def zf:SV->Option Int
 | .si _ n=>some n
 | .il _ n=>some n
 |_=>none
def isNil:SV->Bool
 | .sc (.slice none 0 0)=>true
 |_=>false
def fh (e:BinOp) (x y:SV) (K:SV->Prop):Prop:=
 match x,y with
 | .il k a,.il d b=>match gC e (.int k a) (.int d b) with
  |some (.int k n)=>K (.il k n)
  |some (.bool c)=>K (.bl c)
  |_=>False
 | .si k a,.si d b=>go k a d b
 | .il k a,.si d b=>go k a d b
 | .si k a,.il d b=>go k a d b
 | .sc (.string a),.sc (.string b)=>match e with
  | .eql=>K (.sb (a.toList==b.toList))
  | .neq=>K (.sb (!(a.toList==b.toList)))
  |_=>False
 |_,_=>False
where
 go (k:IntKind) (a:Int) (d:IntKind) (b:Int):Prop:=
  match e with
  | .shl=>0<=b/\b<=k.bits/\uY k (a*2^b.toNat) λn=>K (.si k n)
  | .shr=>0<=b/\b<=k.bits/\K (.si k (a / 2^b.toNat))
  | .add=>if k=d then uY k (a+b) λn=>K (.si k n) else False
  | .sub=>if k=d then uY k (a - b) λn=>K (.si k n) else False
  | .mul=>if k=d then uY k (a*b) λn=>K (.si k n) else False
  | .quo=>if k=d then b≠0/\bX k (a.tdiv b)/\K (.si k (a.tdiv b)) else False
  | .rem=>if k=d then b≠0/\K (.si k (a.tmod b)) else False
  | .and=>if k=d then K (.si k (tG k a b)) else False
  | .or=>if k=d then K (.si k (nJ k a b)) else False
  | .xor=>if k=d then K (.si k (Gl k a b)) else False
  | .andNot=>if k=d then K (.si k (ra k a b)) else False
  | .eql=>if k=d then K (.sb (decide (a=b))) else False
  | .neq=>if k=d then K (.sb (decide (a≠b))) else False
  | .lss=>if k=d then K (.sb (decide (a<b))) else False
  | .leq=>if k=d then K (.sb (decide (a<=b))) else False
  | .gtr=>if k=d then K (.sb (decide (b<a))) else False
  | .geq=>if k=d then K (.sb (decide (b<=a))) else False
 tG (k:IntKind) (a b:Int):Int:=eK k (γt k.bits a &&&γt k.bits b).toNat
 nJ (k:IntKind) (a b:Int):Int:=eK k (γt k.bits a |||γt k.bits b).toNat
 Gl (k:IntKind) (a b:Int):Int:=eK k (γt k.bits a ^^^γt k.bits b).toNat
 ra (k:IntKind) (a b:Int):Int:=eK k (γt k.bits a &&&~~~(γt k.bits b)).toNat
def Gm:SV->SV->Option Bool
 | .si k a,y=>(y.int k).map λb=>decide (a=b)
 | .il k a,y=>(y.int k).map λb=>decide (a=b)
 | .sb a,y=>y.boo.map λb=>a==b
 | .bl a,y=>y.boo.map λb=>a==b
 |_,_=>none
def tH:List SV->List SV->Option Bool
 |[],[]=>some true
 |x::d,y::c=>match Gm x y,tH d c with
  |some a,some b=>some (a&&b)
  |_,_=>none
 |_,_=>none
def li:List Nat->List SV->Bool
 |[],[]=>true
 |0::a,.si _ _::b=>li a b
 |0::a,.il _ _::b=>li a b
 |1::a,.sb _::b=>li a b
 |1::a,.bl _::b=>li a b
 |_,_=>false
def jV (a sv:bn) (x:a.T) (es:List (a.T×sv.T)):Option sv.T:=(es.find? λp=>decide (p.1=x)).map (·.2)
def mY (a sv:bn) (x:a.T) (v:sv.T):List (a.T×sv.T)->List (a.T×sv.T)
 |[]=>[(x,v)]
 |p::r=>if p.1=x then(x,v)::r else p::mY a sv x v r
def u9 (a:Bool):SV->Bool
 | .agg _=>a
 |_=>!a
def bn.keyed:bn->Bool
 | .key| .sit| .i _=>true
 |_=>false
def nK (d:Nat):Option SV->(Nat->Prop)->Prop
 |none,K=>K d
 |some (.il _ n),K=>if 0<=n then K n.toNat else False
 |some (.si _ n),K=>0<=n/\K n.toNat
 |_,_=>False
def tJ:List Int->Nat->Int->Nat->List Int
 |[],_,_,_=>[]
 |a::l,i,v,j=>(if i=j then v else a)::tJ l i v (j+1)
def B5:SV->(SV->Prop)->Prop
 | .ite c a b,K=>(c=true->B5 a K)/\(c=false->B5 b K)
 |v,K=>K v
def SV.G:SV->AV
 | .ite c a b=>match c with
  |true=>a.G
  |false=>b.G
 |v=>v.g
def eI (p:iI) (op:cz) (ρ:Operand->SV) (o:bV) (bB:Nat) (K:SV->bV->Prop):Prop:=
 match op with
 | .uz x=>K (ρ x) o
 | .pick c a b=>match ρ c with
  | .bl true=>K (ρ a) o
  | .bl false=>K (ρ b) o
  | .sb c=>(c=true->K (ρ a) o)/\(c=false->K (ρ b) o)
  |_=>False
 | .alloc z e pu=>mkK bB (.cells (z.map .oD) e z.length pu) o λo'=>K (.ptr bB 0 z.length) o'
 | .box e x=>if wS (ρ x).cellsOf then mkK bB (.cells (ρ x).cellsOf e (ρ x).cellsOf.length false) o λo'=>K (.ptr bB 0 (ρ x).cellsOf.length) o' else False
 | .build z parts=>iJ (rZ (parts.map λq=>(q.1,q.2.1,ρ q.2.2)) (z.map .oD)) λcs=>K (.agg cs) o
 | .pd z len parts e sz=>match p.ty e,rZ (parts.map λq=>(q.1,sz,ρ q.2)) ((ε len (z.map SV.oD)).flatten) with
  |some s,some cs=>if s.sz=sz then(if cs.any SV.Og then(if cs.length=len*sz then mkK bB (.oz s [] e cs) o λo'=>K (.ow bB len sz) o' else False) else iJ (tC s len (cs.map SV.qn)) λl=>mkK bB (.row s l e true) o λo'=>K (.ow bB len sz) o') else False
  |_,_=>False
 | .sT z len parts e sz=>match p.ty e,rZ (parts.map λq=>(q.1,sz,ρ q.2)) ((ε len (z.map SV.oD)).flatten) with
  |some s,some cs=>if s.sz=sz then iJ (tC s len (cs.map SV.qn)) λl=>K (.row s l) o else False
  |_,_=>False
 | .load n a=>mA o (ρ a) n λv=>K v o
 | .store n a x=>match ρ a with
  | .ptr id off tot=>match o[id]? with
   |some (.cells cs e sz pu)=>
    if cs.length=tot/\(ρ x).cellsOf.length=n/\wS (ρ x).cellsOf=true/\off+n<=cs.length/\(pu=false\/zd (ρ x).cellsOf=true) then K .ud (o.set id (.cells (tB cs off (if pu then(ρ x).cellsOf.map SV.qn else(ρ x).cellsOf)) e sz pu)) else False
   |_=>False
  | .rp id i off m sz=>match o[id]? with
   |some (.row s l e pu)=>
    if sz=s.sz/\(ρ x).cellsOf.length=n/\off+n<=s.sz then m=l.length/\i<l.length/\iJ (jB s (tB (encS s (bj l i s.dflt)) off (if pu then(ρ x).cellsOf.map SV.qn else(ρ x).cellsOf))) λv=>K .ud (o.set id (.row s (l.set i v) e pu)) else False
   |_=>False
  | .ap id base sz len tot i=>match o[id]? with
   |some (.cells cs e sz' pu)=>match n,sz,(ρ x).int .i64 with
    |1,1,some v=>match ints ((cs.drop base).take len) with
     |some l=>if cs.length=tot/\base+len<=tot then i<len/\K .ud (o.set id (.cells (tB cs base ((tJ l i v 0).map (SV.si .i64))) e sz' pu)) else False
     |none=>False
    |_,_,_=>False
   |_=>False
  |_=>False
 | .uA x=>match ρ x with
  | .ptr a b c=>K (.ptr a b c) o
  | .rp a b c d e=>K (.rp a b c d e) o
  | .ep s l i f=>K (.ep s l i f) o
  |_=>False
 | .bin op x y=>fh op (ρ x) (ρ y) λv=>K v o
 | .beq neg x y=>match(ρ x).boo,(ρ y).boo with
  |some a,some b=>K (.sb (if neg then !(a==b) else a==b)) o
  |_,_=>False
 | .rN neg ks x y=>match ρ x,ρ y with
  | .agg a,.agg b=>if li ks a&&li ks b then iJ (tH a b) λr=>K (.sb (if neg then !r else r)) o else False
  |_,_=>False
 | .un op x=>match op,ρ x with
  | .not,.sb b=>K (.sb !b) o
  | .not,.bl b=>K (.bl !b) o
  | .neg,.si k n=>bX k (-n)/\K (.si k (-n)) o
  | .neg,.il k n=>K (.il k (eK k (0 - n))) o
  |_,_=>False
 | .conv k x=>match ρ x with
  | .il _ n=>K (.il k (eK k n)) o
  | .si .i64 n=>bX k n/\K (.si k n) o
  | .si _ n=>uY k n λm=>K (.si k m) o
  |_=>False
 | .uB off x=>match ρ x with
  | .ptr id b tot=>K (.ptr id (b+off) tot) o
  | .ep s l i b=>K (.ep s l i (b+off)) o
  | .rp id i b m sz=>K (.rp id i (b+off) m sz) o
  |_=>False
 | .field off n x=>match ρ x with
  | .agg cs=>iJ (rY cs off n) λv=>K v o
  |_=>False
 | .uC len sz x i=>match ρ i with
  | .il _ n=>if 0<=n/\n<len then(match ρ x with
   | .ptr id b tot=>K (.ptr id (b+n.toNat*sz) tot) o
   | .ep s l j b=>K (.ep s l j (b+n.toNat*sz)) o
   | .rp id j b m sz'=>K (.rp id j (b+n.toNat*sz) m sz') o
   |_=>False) else False
  | .si _ n=>match ρ x with
   | .ptr id b tot=>0<=n/\n<len/\K (.ap id b sz len tot n.toNat) o
   |_=>False
  |_=>False
 | .rO sz x i=>match zf (ρ i) with
  |some n=>match ρ x with
   | .row s l=>if sz=s.sz then 0<=n/\n<l.length/\K (.ep s l n.toNat 0) o else False
   | .ow id m sz'=>match o[id]? with
    |some (.row s l _ _)=>if sz=s.sz/\sz'=s.sz then m=l.length/\0<=n/\n<l.length/\K (.rp id n.toNat 0 m sz) o else False
    |_=>False
   | .os id off len m sz'=>match o[id]? with
    |some (.row s l _ _)=>if sz=s.sz/\sz'=s.sz then m=l.length/\0<=n/\n<len/\off+len<=m/\K (.rp id (off+n.toNat) 0 m sz) o else False
    |_=>False
   | .oc id off len m sz'=>match o[id]? with
    |some (.row s l _ _)=>if sz=s.sz/\sz'=s.sz then m=l.length/\0<=n/\n<len/\off+len<=m/\K (.rp id (off+n.toNat) 0 m sz) o else False
    |_=>False
   |_=>False
  |none=>False
 | .idx len sz n x i=>match ρ i,ρ x with
  | .il _ k,.agg cs=>if 0<=k/\k<len then iJ (rY cs (k.toNat*sz) n) λv=>K v o else False
  | .si _ k,.agg cs=>match n,sz,ints cs with
   |none,1,some l=>if l.length=len then 0<=k/\k<len/\K (.si .i64 (bj l k.toNat 0)) o else False
   |_,_,_=>False
  |_,_=>False
 | .pS z e sz bytes l c pu=>match zf (ρ l),zf (ρ c),p.ty e with
  |some n,some m,some s=>if s.sz=sz then iJ (jB s (if pu then(z.map SV.oD).map SV.qn else z.map .oD)) λx=>0<=n/\n<=m/\m*bytes<=140737488355328/\m<=1000000000000/\
    mkK bB (.row s (ε n.toNat x) e pu) o λo'=>K (.ow bB n.toNat sz) o' else False
  |_,_,_=>False
 | .slice sz x lo hi=>match ρ x with
  | .row s l=>if sz=s.sz then nK 0 (lo.map ρ) λa=>nK l.length (hi.map ρ) λb=>a<=b/\b<=l.length/\K (.row s ((l.drop a).take (b - a))) o else False
  | .ow id m sz'=>match o[id]? with
   |some (.row s l _ _)=>if sz=s.sz/\sz'=s.sz then m=l.length/\nK 0 (lo.map ρ) λa=>nK m (hi.map ρ) λb=>a<=b/\b<=m/\K (.os id a (b - a) m sz) o else False
   |_=>False
  | .os id off len m sz'=>match o[id]? with
   |some (.row s l _ _)=>if sz=s.sz/\sz'=s.sz then m=l.length/\nK 0 (lo.map ρ) λa=>nK len (hi.map ρ) λb=>a<=b/\b<=len/\K (.os id (off+a) (b - a) m sz) o else False
   |_=>False
  |_=>False
 | .slice3 sz x lo hi mx=>match ρ x with
  | .row s l=>if sz=s.sz then nK 0 (lo.map ρ) λa=>nK l.length (some (ρ hi)) λb=>nK l.length (some (ρ mx)) λm=>a<=b/\b<=m/\m<=l.length/\K (.row s ((l.drop a).take (b - a))) o else False
  | .ow id n sz'=>match o[id]? with
   |some (.row s l _ _)=>if sz=s.sz/\sz'=s.sz then n=l.length/\nK 0 (lo.map ρ) λa=>nK n (some (ρ hi)) λb=>nK n (some (ρ mx)) λm=>a<=b/\b<=m/\m<=n/\K (.oc id a (b - a) n sz) o else False
   |_=>False
  |_=>False
 | .append e sz bytes s x pu=>match p.ty e,Oe o (ρ x) with
  |some t,some tl=>match ρ s,ρ x with
   | .ow id n sz',.ow _ _ Yu=>match o[id]? with
    |some (.row t' l e' Gn)=>if e'=e/\t'.sz=sz/\sz'=sz/\Yu=sz/\t.sz=sz/\Gn=false/\tl.length=sz/\wS tl=true then n=l.length/\(l.length+1)*bytes<=140737488355328/\l.length+1<=1000000000000/\
      K (.ow id (l.length+1) sz) (o.set id (.oz t' l e tl)) else False
    |_=>False
   |_,_=>False
  |some t,none=>if t.sz=sz then u7 o t (ρ x) λnew=>match ρ s with
    | .sc (.slice none 0 0)=>(new.length=0->K (.sc yK) o)/\(new.length≠0->new.length*bytes<=140737488355328/\new.length<=1000000000000/\mkK bB (.row t new e pu) o λo'=>K (.ow bB new.length sz) o')
    | .ow id n sz'=>match o[id]? with
     |some (.row t' l e' Gn)=>if e'=e/\t'.sz=sz/\sz'=sz then n=l.length/\(l.length+new.length)*bytes<=140737488355328/\l.length+new.length<=1000000000000/\
       iJ (iD t' t l) λl'=>K (.ow id (l'++new).length sz) (o.set id (.row t (l'++new) e Gn)) else False
     |_=>False
    | .row t' l=>new.length=0/\K (.row t' l) o
    |_=>False
   else False
  |none,_=>False
 | .len k x=>match k,ρ x with
  |0,.row _ l=>K (.si .i64 l.length) o
  |0,.ow _ n _=>K (.si .i64 n) o
  |0,.os _ _ len _ _=>K (.si .i64 len) o
  |0,.oc _ _ len _ _=>K (.si .i64 len) o
  |0,.sc (.slice none 0 0)=>K (.il .i64 0) o
  |1,.sc (.string s)=>K (.si .i64 s.size) o
  |2,.mp id=>match o[id]? with
   |some (.map _ _ _ es _ _)=>K (.si .i64 es.length) o
   |_=>False
  |_,_=>False
 | .uE n=>K (.il .i64 n) o
 | .mm mx x y=>match ρ x,ρ y with
  | .il k a,.il k' b=>if k=k' then K (.il k (if mx then(if b>a then b else a) else(if b<a then b else a))) o else False
  | .si k a,y=>iJ (y.int k) λb=>K (.si k (if mx then max a b else min a b)) o
  | .il k a,y=>iJ (y.int k) λb=>K (.si k (if mx then max a b else min a b)) o
  |_,_=>False
 | .call f args own=>zg p f (args.map ρ) o own K
 | .jA f args own=>match ρ f with
  | .fn (.func g) first captured=>zg p g (first++args.map ρ++captured) o own K
  |_=>False
 | .extract x i=>match ρ x with
  | .bH vs=>iJ vs[i]? λv=>K v o
  |_=>False
 | .sU f first captured=>K (.fn f (first.map ρ) (captured.map ρ)) o
 | .uF t x=>match ρ x with
  | .agg cs=>if zd cs=true then K (.ia t cs) o else False
  |_=>False
 | .oh tab x args=>match ρ x with
  | .ia t cs=>match uH tab t with
   |some f=>zg p f (.agg cs::args.map ρ) o false K
   |none=>False
  |_=>False
 | .pT kt pu=>match p.mt kt with
  |some (sk,sv)=>mkK bB (.map sk sv kt.2 [] kt pu) o λo'=>K (.mp bB) o'
  |none=>False
 | .lookup z agg ks ka x k ok=>match ρ x with
  | .mp id=>match o[id]? with
   |some (.map sk sv wT es kt _)=>
    if kt=(ks,ka)/\wT=ka/\sk.keyed=true/\sv.wR=true/\agg=false/\(ka=false->sk.sz=1)/\li ks (ρ k).cellsOf=true/\u9 ka (ρ k)=true then
     iJ (jB sk (ρ k).cellsOf) λkv=>iJ (jB sv (z.map .oD)) λzv=>
      let r:=(encS sv ((jV sk sv kv es).getD zv)).headD .ud
      K (if ok then .bH [r,.sb (jV sk sv kv es).isSome] else r) o
    else False
   |_=>False
  |_=>False
 | .qN ks ka x k v=>match ρ x with
  | .mp id=>match o[id]? with
   |some (.map sk sv wT es kt pu)=>
    if kt=(ks,ka)/\wT=ka/\sk.keyed=true/\sv.wR=true/\(ka=false->sk.sz=1)/\li ks (ρ k).cellsOf=true/\u9 ka (ρ k)=true/\u9 false (ρ v)=true then
     iJ (jB sk (ρ k).cellsOf) λkv=>iJ (jB sv (ρ v).cellsOf) λvv=>K .ud (o.set id (.map sk sv wT (mY sk sv kv vv es) kt pu))
    else False
   |_=>False
  |_=>False
 |_=>False
where
 zg (p:iI) (f:FuncId) (args:List SV) (o:bV) (own:Bool) (K:SV->bV->Prop):Prop:=
  if own then p.C.own f args o K
  else uZ (q9 o 6) args λargs'=>p.C.pure f args' λr=>if(args.flatMap (λv=>eU (o.map bq.g) 6 v.g)).isEmpty||r.kP then K r o else False
def wU:ff->Nat->SV->ff
 |[],_,_=>[]
 |p::r,s,v=>bif δz p.1 s then(p.1,v)::r else p::wU r s v
def Gp (env:ff) (g:Option (Option Nat×Bool)) (K:ff->Bool->Prop):Prop:=
 match g with
 |none=>K env true
 |some (none,_)=>False
 |some (some s,b)=>match jC env s with
  | .bl c=>K env (c==b)
  | .sb c=>(c=true->K (wU env s (.bl true)) (true==b))/\(c=false->K (wU env s (.bl false)) (false==b))
  | .bH []=>K env false
  |_=>False
def SV.same (v w:SV):Prop:=v.g=w.g
def SV.r7 (v:SV):SV->Prop
 | .ite c a b=>(c=true->v.r7 a)/\(c=false->v.r7 b)
 |w=>v.same w
def bq.same (x y:bq):Prop:=x.g=y.g
def ji:bV->bV->Prop
 |[],[]=>True
 |x::o,y::a=>x.same y/\ji o a
 |_,_=>False
def Oh (p:iI) (a:cz) (o o':bV) (K:Bool->Prop):Prop:=
 match a with
 | .call f _ true=>if p.ro f=true then ji o o'/\K true else K false
 |_=>K false
def wV (p:iI) (base:Nat):List dm->cn->Trace->(cn->Trace->Prop)->Prop
 |[],b,c,K=>K b c
 |i::r,b,c,K=>Gp b.env i.guard λa w=>
   if w then eI p i.op (jh a) b.o (base+i.bB) λv d=>Oh p i.op b.o d λe=>wV p base r ⟨uX a i.dst v,d⟩ ((i.idx,dM i.op (λx=>(jh a x).g) (b.o.map bq.g) (base+i.bB),if e then[] else wrt i.op (λx=>(jh a x).g) (b.o.map bq.g) (base+i.bB))::c) K
   else wV p base r ⟨uX a i.dst (.bH []),b.o⟩ ((i.idx,[],[])::c) K
def bq.mN:bq->Bool
 | .dead=>true
 |_=>false
def Gq (base:Nat) (o:bV):bV:=if(o.drop base).all (·.mN) then o.take base else o
def Gs (p:iI) (k:Nat) (c:List dm) (b:List (Nat×Nat)) (st:cn) (K:cn->Prop):Prop:=
 wV p st.o.length c ⟨st.env,st.o++ε k .dead⟩ [] λa d=>
  if b.isEmpty||sX (st.o.length+k) d.reverse b then K ⟨a.env,if k=0 then a.o else Gq st.o.length a.o⟩ else False
mutual
def jj (id:Nat) (s:bn) (l:List s.T):SV->(SV->Prop)->Prop
 | .ow j n m,K=>if j=id then(if m=s.sz then n=l.length/\K (.row s l) else False) else K (.ow j n m)
 | .os j h g n m,K=>if j=id then(if m=s.sz then n=l.length/\h+g<=n/\K (.row s ((l.drop h).take g)) else False) else K (.os j h g n m)
 | .oc j h g n m,K=>if j=id then False else K (.oc j h g n m)
 | .rp j i f n m,K=>if j=id then False else K (.rp j i f n m)
 | .ptr j f t,K=>if j=id then False else K (.ptr j f t)
 | .ap j a b c d e,K=>if j=id then False else K (.ap j a b c d e)
 | .agg o,K=>rb id s l o λk=>K (.agg k)
 | .bH o,K=>rb id s l o λk=>K (.bH k)
 | .fn f a b,K=>rb id s l a λp=>rb id s l b λr=>K (.fn f p r)
 |v,K=>K v
def rb (id:Nat) (s:bn) (l:List s.T):List SV->(List SV->Prop)->Prop
 |[],K=>K []
 |c::o,K=>jj id s l c λq=>rb id s l o λk=>K (q::k)
end
def zh (id:Nat) (s:bn) (l:List s.T):ff->(ff->Prop)->Prop
 |[],K=>K []
 |(k,v)::r,K=>jj id s l v λa=>zh id s l r λb=>K ((k,a)::b)
def nL (id:Nat) (s:bn) (l:List s.T):Nat->bV->(bV->Prop)->Prop
 |_,[],K=>K []
 |i,x::r,K=>match x with
  | .cells g e h b=>if b then(if i=id then False else nL id s l (i+1) r λa=>K (.cells g e h b::a)) else rb id s l g λd=>nL id s l (i+1) r λa=>K (.cells d e h b::a)
  | .oz c f e t=>if i=id then False else rb id s l t λj=>match tC c 1 j with
   |some m=>nL id s l (i+1) r λa=>K (.row c (f++m) e false::a)
   |none=>False
  | .row c f e b=>if i=id then(if b then nL id s l (i+1) r λa=>K (.dead::a) else False) else nL id s l (i+1) r λa=>K (.row c f e b::a)
  |x=>nL id s l (i+1) r λa=>K (x::a)
def tK (p:iI) (lo:Nat) (h:km) (st:cn) (K:cn->Prop):Prop:=
 if h.own then match h.off with
  |none=>if isNil (jC st.env h.slot) then(match p.ty h.e with
    |some s=>if s.sz=h.sz then K ⟨(h.slot,.ow st.o.length 0 h.sz)::st.env,st.o++[.row s [] h.e h.pu]⟩ else False
    |none=>False) else if h.sz=0 then(match jC st.env h.slot with
     | .ow a _ _=>match st.o[a]? with
      |some (.row s l e true)=>K ⟨st.env,st.o.set a (.row s l e false)⟩
      |_=>False
     |_=>False) else K st
  |some k=>match jC st.env h.slot with
   | .ptr a b c=>match st.o[a]? with
    |some (.cells d e i f)=>if(d[b+k]?).any isNil then(if d.length=c/\f=false then(match p.ty h.e with
      |some s=>if s.sz=h.sz then K ⟨st.env,(st.o.set a (.cells (d.set (b+k) (.ow st.o.length 0 h.sz)) e i f))++[.row s [] h.e h.pu]⟩ else False
      |none=>False) else False) else K st
    |_=>False
   |_=>False
 else match Oi h st with
  |some (some a)=>if Nat.ble lo a then(match st.o[a]? with
   |some (.row s l e f)=>zh a s l st.env λg=>nL a s l 0 (if f then st.o else st.o.set a (.row s l e true)) λo=>K ⟨g,o⟩
   |_=>False) else K st
  |some none=>K st
  |none=>False
where
 wW:SV->Option Nat
  | .ow a .. =>some a
  | .os a .. =>some a
  | .oc a .. =>some a
  |_=>none
 Oi (h:km) (st:cn):Option (Option Nat):=
  match h.off with
  |none=>some (wW (jC st.env h.slot))
  |some k=>match jC st.env h.slot with
   | .ptr a b c=>match st.o[a]? with
    |some (.cells d _ _ _)=>if d.length=c then(d[b+k]?).map wW else none
    |_=>none
   |_=>none
def zi (p:iI) (lo:Nat):List km->cn->(cn->Prop)->Prop
 |[],st,K=>K st
 |h::hs,st,K=>tK p lo h st λst'=>zi p lo hs st' K
def Gt (a:List Nat) (env:ff):ff:=a.map λs=>(s,jC env s)
def trimS (k:Nat) (st:cn):cn:=
 if st.o.length<=k then st
 else if(st.env.all λp=>p.2.bY k)&&((st.o.take k).all λx=>x.bY k) then⟨st.env,st.o.take k⟩ else st
def wX:ff->ff->Prop
 |[],[]=>True
 |(k,v)::e,(b,c)::a=>if k=b then v.same c/\wX e a else False
 |_,_=>False
def zj (s t:cn):Prop:=wX s.env t.env/\ji s.o t.o
def iS (s:cn) (k:Nat):Int:=match jC s.env k with
 | .si _ n=>n
 | .il _ n=>n
 |_=>0
def bS (s:cn) (k:Nat):Bool:=match jC s.env k with
 | .sb b=>b
 | .bl b=>b
 |_=>false
def rS (t:bn) (s:cn) (k:Nat):List t.T:=match jC s.env k with
 | .row a l=>match iD a t l with
  |some l=>l
  |none=>[]
 |_=>[]
def oS (t:bn) (s:cn) (id:Nat):List t.T:=match s.o[id]? with
 |some (.row a l _ _)=>match iD a t l with
  |some l=>l
  |none=>[]
 |_=>[]
def Gu (k v b a:bn) (es:List (k.T×v.T)):Option (List (b.T×a.T)):=if h:k=b/\v=a then some (h.1▸h.2▸es) else none
def splitN (v:Int) (n:Nat) (K:Nat->Prop):Nat->Prop
 |0=>0<=v/\v<n
 |j+1=>(v=(n - (j+1):Nat)->K (n - (j+1)))/\splitN v n K j
def splitK (x:Option (Nat×Nat×Nat)) (st:cn) (K:cn->Prop):Prop:=
 match x with
 |none=>K st
 |some (b,a,n)=>match st.o[b]? with
  |some (.cells c e f d)=>match c[a]? with
   |some (.si k v)=>splitN v n (λj=>K ⟨st.env,st.o.set b (.cells (c.set a (.il k j)) e f d)⟩) n
   |_=>False
  |_=>False
inductive cB where
 |oG (n:Nat)
 |look
 |inv (X:Type) (shape:X->cn) (next:cn->X) (J:X->Prop) (m:X->Nat) (inner:X->Nat->cB)
def Look (_:cn):Prop:=False
def vd:IR->Nat
 | .region c .. =>c
 | .seq .skip b=>vd b
 | .seq a _=>vd a
 | .block _ b=>vd b
 | .loop b=>vd b
 | .turns _ b=>vd b
 |_=>0
def Gv (W:cn->(Out->cn->Prop)->Prop) (Q:Out->cn->Prop):Nat->cn->Prop
 |0,_=>False
 |n+1,b=>W b λa s=>match a with
  | .norm=>Gv W Q n (trimS b.o.length s)
  |o=>Q o s
def zk (t:Nat):ff->ff
 |[]=>[]
 |p::r=>bif δz p.1 t then zk t r else p::zk t r
def wY (x:Operand) (env:ff):ff:=
 match x with
 | .tmp t=>zk t env
 |_=>env
def B6 (env:ff) (x:Operand) (v:SV):ff:=
 match x with
 | .tmp t=>wU env t v
 |_=>env
def wpS (p:iI) (lo:Nat):IR->(Nat->cB)->cn->(Out->cn->Prop)->Prop
 | .skip,_,st,Q=>Q .norm st
 | .region id draw k ops kn live pre post,_,st,Q=>splitK (p.sp id) st λst0=>zi p lo pre st0 λst1=>Gs p k ops kn st1 λst2=>zi p lo post ⟨Gt live st2.env,st2.o⟩ λGw=>Q .norm Gw
 | .seq a b,Λ,st,Q=>wpS p lo a Λ st λout s=>match out with
  | .norm=>wpS p lo b Λ s Q
  |o=>Q o s
 | .cond x a b,Λ,st,Q=>match jh st.env x with
  | .bl true=>wpS p lo a Λ ⟨wY x st.env,st.o⟩ Q
  | .bl false=>wpS p lo b Λ ⟨wY x st.env,st.o⟩ Q
  | .sb c=>(c=true->wpS p lo a Λ ⟨wY x st.env,st.o⟩ Q)/\(c=false->wpS p lo b Λ ⟨wY x st.env,st.o⟩ Q)
  |_=>False
 | .block id b,Λ,st,Q=>wpS p lo b Λ st λout s=>Q (out.inBlock id) s
 | .loop b,Λ,st,Q=>match Λ (vd b) with
  | .oG n=>Gv (wpS p lo b Λ) Q n st
  | .look=>Look st
  | .inv _ shape next J m inner=>(zj st (shape (next st))/\J (next st))/\∀x,J x->wpS p lo b (inner x) (shape x) λout s=>match out with
   | .norm=>zj (trimS (shape x).o.length s) (shape (next (trimS (shape x).o.length s)))/\J (next (trimS (shape x).o.length s))/\m (next (trimS (shape x).o.length s))<m x
   |o=>Q o s
 | .exit id,_,st,Q=>Q (.exit id) st
 | .ret,_,st,Q=>Q .ret st
 | .goto l,_,st,Q=>Q (.goto l) st
 | .om x a b,Λ,st,Q=>match jh st.env x with
  | .bl true=>wpS p lo a Λ st Q
  | .bl false=>wpS p lo b Λ st Q
  | .sb c=>(c=true->wpS p lo a Λ ⟨B6 st.env x (.bl true),st.o⟩ Q)/\(c=false->wpS p lo b Λ ⟨B6 st.env x (.bl false),st.o⟩ Q)
  |_=>False
 | .turns none b,Λ,st,Q=>wpS p lo b Λ st λout s=>match out with
  | .goto _=>False
  |o=>Q o s
 | .turns (some l) b,Λ,st,Q=>match Λ (vd b) with
  | .inv _ shape next J m inner=>(zj st (shape (next st))/\J (next st))/\∀x,J x->wpS p lo b (inner x) (shape x) λout s=>match out with
   | .goto l'=>l'=l/\zj (trimS (shape x).o.length s) (shape (next (trimS (shape x).o.length s)))/\J (next (trimS (shape x).o.length s))/\m (next (trimS (shape x).o.length s))<m x
   |o=>Q o s
  |_=>Look st
 | .sV ..,_,_,_=>False
def mZ:Nat->List SV->ff
 |_,[]=>[]
 |i,v::a=>(i,v)::mZ (i+1) a
def nM (st:cn) (a:List mQ) (K:SV->Prop):Prop:=
 goK a λl=>match l with
  |[v]=>K v
  |l=>K (.bH l)
where
 goK:List mQ->(List SV->Prop)->Prop
  |[],K=>K []
  |r::a,K=>Oj r λv=>goK a λl=>K (v::l)
 Oj (r:mQ) (K:SV->Prop):Prop:=match r.cell with
  |none=>K (jC st.env r.slot)
  |some n=>mA st.o (jC st.env r.slot) n K
def sa (p:iI) (Λ:Nat->cB) (F:fb) (args:List SV) (Q:SV->Prop):Prop:=
 wpS p 0 F.body Λ ⟨mZ 0 args,[]⟩ λa b=>match a with
  | .exit _=>False
  | .goto _=>False
  |_=>nM b F.res λr=>q9 b.o 6 r Q
def ve (p:iI) (Λ:Nat->cB) (F:fb) (args:List SV) (o:bV) (Q:SV->bV->Prop):Prop:=
 wpS p o.length F.body Λ ⟨mZ 0 args,o⟩ λb a=>match b with
  | .exit _=>False
  | .goto _=>False
  |_=>nM a F.res λr=>if r.bY o.length&&a.o.all (λx=>x.bY o.length)&&decide (o.length<=a.o.length) then Q r (a.o.take o.length) else False
def gE (env:ff):je:=env.map λp=>(p.1,p.2.g)
def gO (o:bV):Store:=o.map bq.g
def cn.g (st:cn):St:=⟨gE st.env,gO st.o⟩
theorem nN:∀(env:ff) (s:Nat),dF (gE env) s=(jC env s).g
 |[],_=>by simp[gE,dF,jC,γF]
 |p::r,s=>by
  have:=nN r s
  grind[gE,dF,jC]
theorem Ol (env:ff) (d:Option Nat) (v:SV):gE (uX env d v)=og (gE env) d v.g:=by
 cases d<;>simp[uX,og,gE]
theorem Om (v:Value):(SV.oD v).g= .sc v:=by cases v<;>simp[SV.oD,γF]
theorem Gx (l:List Value):(l.map SV.oD).map γF=l.map .sc:=by simp[Om]
theorem zl (env:ff) (x:Operand):eE (gE env) x=(jh env x).g:=by
 cases x with
 |tmp t=>simp[eE,jh,nN]
 |const v=>
  cases v<;>simp[eE,jh,AV.uy,SV.uy,γF]
  split<;>simp[γF,fV,Om]
 |global g=>simp[eE,jh,γF]
 |func f=>simp[eE,jh,γF,gL]
theorem On (env:ff):eE (gE env)=λx=>(jh env x).g:=funext λx=>zl env x
theorem B7 (v:SV):v.g.cellsOf=gL v.cellsOf:=by
 cases v<;>simp[γF,AV.cellsOf,SV.cellsOf,gL]
theorem Yv (v:SV):v.g.one=v.one:=by
 cases v<;>simp[γF,AV.one,SV.one,Value.oneCell']
theorem B8 (l:List SV):eF (gL l)=wS l:=by
 induction l<;>grind[gL,eF,wS,Yv]
theorem Gy:∀(l:List SV),zd l=true->dp (gL l)=true
 |[],_=>by simp[gL,dp]
 |v::l,h=>by
  simp only[zd,θ] at h;simp only[gL,dp,Gy l h.2,δX]
  have a:=h.1
  cases v<;>simp[SV.pure] at a<;>simp[γF,AV.pure,qg]
mutual
theorem zm (k:Nat):∀(v:SV),v.g.bY k=v.bY k
 | .agg cs=>by simp only[γF,AV.bY,SV.bY];exact vf k cs
 | .bH cs=>by simp only[γF,AV.bY,SV.bY];exact vf k cs
 | .fn _ a b=>by simp only[γF,AV.bY,SV.bY,vf k a,vf k b]
 | .ud| .sc _| .il .. | .si .. | .bl _| .sb _| .row .. | .ep .. | .ptr .. | .ap .. | .rp .. | .ow .. | .os .. | .oc .. | .mp _| .ia _ _| .ite _ _ _=>by simp[γF,AV.bY,SV.bY]
theorem vf (k:Nat):∀(l:List SV),dZ k (gL l)=rX k l
 |[]=>by simp[gL,dZ,rX]
 |v::l=>by simp only[gL,dZ,rX,zm k v,vf k l]
end
theorem Yw (k:Nat) {b sv:bn} (c:Bool) (es:List (b.T×sv.T)):dZ k ((es.map λp=>(oC b c p.1,my sv p.2)).map (·.2))=true:=
 Gj λa h=>by
  simp only[δo,γf,Function.comp] at h
  grind[my,AV.bY]
theorem B9 (k:Nat) (x:bq):x.g.bY k=x.bY k:=by
 cases x with
 |dead=>rfl
 |cells n e m d=>simp[bq.g,bP.bY,bq.bY,vf]
 |row s l e d=>simp[bq.g,bP.bY,bq.bY,N9]
 |oz s l e t=>
  have c:∀a b:List AV,dZ k (a++b)=(dZ k a&&dZ k b):=λa b=>by
   induction a<;>grind[dZ]
  grind[bq.g,bP.bY,bq.bY,N9,vf]
 |map i o f j h d=>simp only[bq.g,bP.bY,bq.bY,Yw,Bool.or_true]
mutual
theorem Oo:∀(v:SV),v.kP=true->v.g.kP=true
 | .agg cs,h=>by simp only[SV.kP] at h;simp only[γF,AV.kP];exact Gz cs h
 | .bH cs,h=>by simp only[SV.kP] at h;simp only[γF,AV.kP];exact Gz cs h
 | .ud,_| .sc _,_| .il ..,_| .si ..,_| .bl _,_| .sb _,_=>by simp[γF,AV.kP]
 | .row ..,h| .ep ..,h| .ptr ..,h| .ap ..,h| .rp ..,h| .ow ..,h| .os ..,h| .oc ..,h| .mp _,h| .fn ..,h| .ia _ _,h| .ite _ _ _,h=>by simp[SV.kP] at h
theorem Gz:∀(l:List SV),B2 l=true->uG (gL l)=true
 |[],_=>by simp[gL,uG]
 |v::l,h=>by
  simp only[B2,θ] at h;simp only[gL,uG,Oo v h.1,Gz l h.2,δX]
end
theorem jD (l:List SV):(gL l).length=l.length:=by simp[fV]
theorem tL (l:List SV) (i:Nat):(gL l)[i]?=(l[i]?).map γF:=by simp[fV]
theorem tM (a b:List SV):gL (a++b)=gL a++gL b:=by simp[fV]
theorem Cb {cs:List SV} {a:Nat} {n:Option Nat} {v:SV} (h:rY cs a n=some v):gi (gL cs) a n=some v.g:=by
 cases n with
 |none=>grind[rY,gi,tL]
 |some m=>
  simp only[rY] at h;split at h
  ·rename_i b
   simp only[γ] at h;subst h
   simp_all[gi,γF,fV]
  ·cases h
theorem zn:∀(vs cs:List SV) (a:Nat),gL (tB cs a vs)=fR (gL cs) a (gL vs)
 |[],cs,a=>by simp[tB,gL,fR]
 |v::vs,cs,a=>by
  simp only[tB,gL,fR];rw[zn vs]
  simp_all[fV]
theorem GF (cs:List SV):gL (cs.map SV.qn)=(gL cs).map AV.qn:=by
 simp_all[fV,Ys]
theorem GG (pu:Bool) (cs:List SV):gL (if pu then cs.map SV.qn else cs)=eu pu (gL cs):=by
 grind[eu,GF]
theorem Yx {c:AV} (h:Plain c.qn):c.one=true/\c.pure=true:=by
 by_cases a:c.qn=c
 ·rw[a] at h
  exact⟨h.one,h.pure⟩
 ·unfold AV.qn at a
  split at a
  ·exact⟨rfl,rfl⟩
  simp_all
theorem GH {pu:Bool} {cs:List AV} (h:∀c∈eu pu cs,Plain c):eF cs=true/\dp cs=true:=by
 have b:∀c∈cs,c.one=true/\c.pure=true:=by
  intro c a;unfold eu at h;split at h
  ·grind[Yx]
  ·exact⟨(h c a).one,(h c a).pure⟩
 grind[eF,BZ]
theorem GI:∀(vs a b c:List AV) (d:Nat),d+vs.length<=b.length->fR (a++b++c) (a.length+d) vs=a++fR b d vs++c
 |[],a,b,c,d,_=>rfl
 |v::vs,a,b,c,d,h=>by
  simp only[γv] at h;simp only[fR]
  have e:(a++b++c).set (a.length+d) v=a++b.set d v++c:=by
   grind
  rw[e,ε2,GI vs a (b.set d v) c (d+1) (by simp;omega)]
theorem Oq {s:bn} {l:List s.T} {i:Nat} (h:i<l.length):cC s l=cC s (l.take i)++dJ s (bj l i s.dflt)++cC s (l.drop (i+1)):=by
 have a:l=l.take i++l[i]::l.drop (i+1):=by simp
 grind[cO,cC]
theorem take_len {a:Type} {l:List a} {i:Nat} (h:i<l.length):(l.take i).length=i:=by simp;omega
theorem Yy {s:bn} {l:List s.T} {i a:Nat} {v:s.T} {vs:List AV} (h:i<l.length) (e:a+vs.length<=s.sz) (c:fR (dJ s (bj l i s.dflt)) a vs=dJ s v):
  fR (cC s l) (i*s.sz+a) vs=cC s (l.set i v):=by
 have d:(cC s (l.take i)).length=i*s.sz:=by rw[fe,take_len h]
 rw[Oq h,<-d,GI _ _ _ _ _ (by grind[lI]),c]
 have b:i<(l.set i v).length:=by simpa using h
 rw[Oq b,cO b]
 simp[List.take_set_of_le,List.drop_set_of_lt]
theorem Ot {s:bn} {l:List s.T} {i b:Nat} {n:Option Nat} {v:SV} (h:i<l.length) (e:rY (encS s (bj l i s.dflt)) b n=some v):gi (cC s l) (i*s.sz+b) n=some v.g:=by
 have a:=Cb e
 rw[fV,tu] at a
 have c:=Yt (s:=s) h
 have d:(cC s l).length=i*s.sz+(s.sz+(cC s (l.drop (i+1))).length):=by
  have:=congrArg γo c
  grind[lI]
 cases n with
 |none=>
  simp only[gi] at a ⊢
  rw[<-List.getElem?_drop,c,List.getElem?_append_left]<;>grind
 |some m=>
  simp only[gi,lI] at a;split at a
  ·rename_i f
   simp only[gi]
   rw[if_pos (by omega),<-γV,c,List.drop_append_of_le_length (by grind[lI]),List.take_append_of_le_length (by grind[lI])]
   exact a
  ·cases a
theorem iT {b:Type} {x:Option b} {K:b->Prop} (h:iJ x K):∃a,x=some a/\K a:=by
 cases x with
 |none=>exact h.elim
 |some a=>exact⟨a,rfl,h⟩
theorem GK (o:bV) (i:Nat):(gO o)[i]?=(o[i]?).map bq.g:=by simp[gO]
theorem nO (o:bV):(gO o).length=o.length:=by simp[gO]
theorem qh (o:bV) (i:Nat) (x:bq):gO (o.set i x)=(gO o).set i x.g:=by simp[gO]
theorem fz {o:bV} {i:Nat} {x:bq} (h:o[i]?=some x):(gO o)[i]?=some x.g:=by grind[GK]
theorem Ou:∀{cs:List SV} {l:List Int},ints cs=some l->cs.length=l.length/\∀i,i<l.length->(cs[i]?).map γF=some (.sc (.int .i64 (bj l i 0))):=by
 intro cs l h
 have a:=BX h
 have c:cs.length=l.length:=by simpa using congrArg γo a
 refine⟨c,λi b=>?_⟩
 have:=congrArg (λl=>l[i]?) a
 simp only[List.getElem?_map] at this;rw[this,ξ b,cO b];rfl
theorem Ov:∀{cs:List SV} {l:List (List Off)},mA.rowsOff cs=some l->cs.length=l.length/\∀i,i<l.length->cs[i]?=some (.row .off (bj l i []))
 |[],l,h=>by grind[mA.rowsOff]
 |c::cs,l,h=>by
  cases c with
  |row s x=>
   cases s<;>simp only[mA.rowsOff,reduceCtorEq] at h
   obtain⟨e,a,rfl⟩:=δ.1 h
   obtain⟨b,d⟩:=Ov a
   grind[bj]
  |_=>simp[mA.rowsOff] at h
theorem Yz {cs:List SV} {sz i:Nat} {n:Option Nat} {K:SV->Prop} (h:mA.ze cs sz i n K) (d:i*sz<cs.length):∃v,gi (gL cs) (i*sz) n=some v.g/\K v:=by
 unfold mA.ze at h;split at h
 ·rw[Nat.mul_one] at d ⊢
  split at h
  ·rename_i l a
   obtain⟨b,c⟩:=Ou a
   grind[gi,tL,γF]
  ·split at h
   ·rename_i l a
    obtain⟨b,c⟩:=Ov a
    grind[gi,tL]
   simp_all
 simp_all
theorem YA {cs:List AV} {base a m:Nat} {v:AV} (h:gi ((cs.drop base).take m) a none=some v):gi cs (base+a) none=some v:=by
 grind[gi]
theorem Ox {o:bV} {a:SV} {n:Option Nat} {K:SV->Prop} (h:mA o a n K):∃cs b v,behind (gO o) a.g=some (cs,b)/\gi cs b n=some v.g/\K v:=by
 cases a with
 |ptr x b t=>
  simp only[mA] at h;split at h
  ·rename_i cs e f z y
   split at h
   ·rename_i D
    obtain⟨v,k,j⟩:=iT h
    exact⟨gL cs,b,v,by simp_all[behind,γF,fz,bq.g,jD],Cb k,j⟩
   simp_all
  simp_all
 |ap x c f d t i=>
  simp only[mA] at h;split at h
  ·rename_i cs e A z y
   split at h
   ·rename_i D
    obtain⟨C,p⟩:=h
    have w:(i+1)*f<=d*f:=γO _ C
    rw[Nat.succ_mul] at w
    have F:f*d=d*f:=Nat.mul_comm ..
    by_cases E:f=0
    ·grind[mA.ze]
    ·have q:i*f<((cs.drop c).take (f*d)).length:=by grind
     obtain⟨v,k,j⟩:=Yz p q
     have B:n=none:=by
      grind[mA.ze]
     subst B
     refine⟨gL cs,c+i*f,v,by simp_all[behind,γF,fz,bq.g,jD],?_,j⟩
     have:gL ((cs.drop c).take (f*d))=((gL cs).drop c).take (f*d):=by simp[fV]
     grind[YA]
   simp_all
  simp_all
 |ep s l i b=>
  simp only[mA] at h
  obtain⟨u,p⟩:=h
  obtain⟨v,k,j⟩:=iT p
  exact⟨cC s l,i*s.sz+b,v,by simp[behind,γF],Ot u k,j⟩
 |rp x i b m f=>
  simp only[mA] at h;split at h
  ·rename_i s l e z y
   split at h
   ·rename_i r
    subst r
    obtain⟨w,u,p⟩:=h
    obtain⟨v,k,j⟩:=iT p
    exact⟨cC s l,i*s.sz+b,v,by simp_all[behind,γF,fz,bq.g,fe],Ot u k,j⟩
   simp_all
  simp_all
 |_=>simp only[mA] at h
theorem Oy (o:Store) (d:Nat) {v:Value} (h:v≠ .slice none 0 0):freeze o d (.sc v)=some (.sc v):=by
 grind[freeze]
theorem Oz (o:Store) (d:Nat) {a:AV} (h:Plain a):freeze o d a=some a:=by
 rcases h with⟨v,rfl,_,h⟩|⟨n,b,rfl,_⟩<;>grind[Oy,freeze]
theorem GL {f:AV->Option AV}:∀{l:List AV},(∀a∈l,f a=some a)->l.mapM f=some l
 |[],_=>by simp
 |a::l,h=>by simp[List.mapM_cons,h a (by simp),GL (l:=l) λb c=>h b (by simp[c])]
theorem wZ {o:Store} {d:Nat} {f:SV->(SV->Prop)->Prop} (c:∀v K,f v K->∃b:SV,freeze o d v.g=some b.g/\K b):
  ∀{l:List SV} {K:List SV->Prop},uZ f l K->∃a,(gL l).mapM (freeze o d)=some (gL a)/\K a
 |[],K,h=>⟨[],by simp[gL],h⟩
 |v::l,K,h=>by
  obtain⟨b,j,i⟩:=c v _ h
  obtain⟨a,k,e⟩:=wZ c i
  exact⟨b::a,by simp_all[gL],e⟩
theorem zo {s:bn} {l:List s.T} {b a:Nat}:((cC s l).drop (b*s.sz)).take (a*s.sz)=cC s ((l.drop b).take a):=by
 rw[Gk,Ob]
theorem GM {o:bV}:∀{d:Nat} {v:SV} {K:SV->Prop},q9 o d v K->∃y,freeze (gO o) d v.g=some y.g/\K y:=by
 intro d
 induction d with
 |zero=>
  intro v K h
  cases v<;>simp only[q9] at h<;>grind[q9,γF,freeze,cC,Oy]
 |succ d p=>
  intro v K h
  cases v<;>simp only[q9] at h
  case sc v=>
   grind[γF,freeze,cC]
  case agg B=>
   obtain⟨A,z,r⟩:=wZ (λv K m=>p m) h
   grind[γF,freeze]
  case bH B=>
   obtain⟨A,z,r⟩:=wZ (λv K m=>p m) h
   grind[γF,freeze]
  case fn f a b=>
   obtain⟨I,z,r⟩:=wZ (λv K m=>p m) h
   obtain⟨J,L,H⟩:=wZ (λv K m=>p m) r
   grind[γF,freeze]
  case ow E n F=>
   split at h
   ·rename_i s l e G w
    split at h
    ·rename_i k
     obtain⟨rfl,t⟩:=h
     subst k
     refine⟨_,?_,t⟩
     have i:(cC s l).mapM (freeze (gO o) d)=some (cC s l):=GL λa C=>by
      grind[Oz,mX]
     have D:γd (l.length*s.sz) (cC s l)=cC s l:=γn (by grind[fe])
     simp_all[γF,freeze,fz,bq.g,fe,qg]
    simp_all
   simp_all
  case os E j c n F=>
   split at h
   ·rename_i s l e G w
    split at h
    ·rename_i k
     obtain⟨rfl,u,t⟩:=h
     subst k
     refine⟨_,?_,t⟩
     have i:(cC s ((l.drop j).take c)).mapM (freeze (gO o) d)=some (cC s ((l.drop j).take c)):=GL λa C=>by
      grind[Oz,mX]
     have x:(j+c)*s.sz<=l.length*s.sz:=γO _ u
     rw[δ1] at x
     have q:((l.drop j).take c).length=c:=by simp;omega
     simp only[γF,freeze,fz w,bq.g,fe,x,and_self,if_true,zo,i,qg,q]
     simp_all
    simp_all
   simp_all
  all_goals grind[γF,freeze]
theorem Cc {k:IntKind} {n:Int} (h:bX k n):eK k n=n:=by
 cases k<;>simp only[bX,eK] at h ⊢<;>simp_all
theorem nc {c:Prop} [Decidable c] {A:Prop} (h:if c then A else False):c/\A:=by
 simp_all
theorem af6 {b:Int} {k:Nat} (h:b<=k):min b.toNat k=b.toNat:=by omega
theorem YB (a b:Int):(a==b)=decide (a=b):=rfl
theorem YC (a b:Int):(a !=b)=decide (a≠b):=by
 grind
theorem zp {k:IntKind} {n:Int} {K:Int->Prop} (h:uY k n K):K (eK k n):=by
 have a:k= .u32->eK k n=n % 4294967296:=by
  grind[tc,IntKind.wrap,IntKind.bits,IntKind.signed]
 have b:k= .u64->eK k n=n % 18446744073709551616:=by
  grind[tc,IntKind.wrap,IntKind.bits,IntKind.signed]
 unfold uY at h
 grind[Cc]
theorem go_sound {e:BinOp} {k i:IntKind} {a b:Int} {K:SV->Prop} (h:fh.go e K k a i b):∃v f:_,gC e (.int k a) (.int i b)=some v/\f.g= .sc v/\K f:=by
 cases e<;>simp only[fh.go] at h
 case shl=>
  obtain⟨j,m,l⟩:=h
  refine⟨.int k (eK k (a*2^b.toNat)),.si k (eK k (a*2^b.toNat)),?_,rfl,zp l⟩
  simp_all[gC,Fv]
 case shr=>
  obtain⟨j,m,n⟩:=h
  refine⟨.int k (a / 2^b.toNat),_,?_,rfl,n⟩
  have:a.fdiv (2^b.toNat)=a / 2^b.toNat:=Int.fdiv_eq_ediv_of_nonneg _ (by grind)
  simp_all[gC,Fv]
 case add=>
  obtain⟨d,c⟩:=nc h
  subst d
  exact⟨.int k (eK k (a+b)),.si k (eK k (a+b)),by simp only[gC,if_true,kY],rfl,zp c⟩
 case sub=>
  obtain⟨d,c⟩:=nc h
  subst d
  exact⟨.int k (eK k (a - b)),.si k (eK k (a - b)),by simp only[gC,if_true,kY],rfl,zp c⟩
 case mul=>
  obtain⟨d,c⟩:=nc h
  subst d
  exact⟨.int k (eK k (a*b)),.si k (eK k (a*b)),by simp only[gC,if_true,kY],rfl,zp c⟩
 case quo=>
  obtain⟨d,c⟩:=nc h
  subst d
  exact⟨.int k (a.tdiv b),_,by simp_all[gC,kY,Cc],rfl,c.2.2⟩
 case rem=>
  obtain⟨d,c⟩:=nc h
  subst d
  exact⟨.int k (a.tmod b),_,by simp_all[gC,kY],rfl,c.2⟩
 case and=>
  obtain⟨d,c⟩:=nc h
  subst d
  exact⟨.int k (fh.tG k a b),_,by simp only[gC,if_true,kY,fh.tG],rfl,c⟩
 case or=>
  obtain⟨d,c⟩:=nc h
  subst d
  exact⟨.int k (fh.nJ k a b),_,by simp only[gC,if_true,kY,fh.nJ],rfl,c⟩
 case xor=>
  obtain⟨d,c⟩:=nc h
  subst d
  exact⟨.int k (fh.Gl k a b),_,by simp only[gC,if_true,kY,fh.Gl],rfl,c⟩
 case andNot=>
  obtain⟨d,c⟩:=nc h
  subst d
  exact⟨.int k (fh.ra k a b),_,by simp only[gC,if_true,kY,fh.ra],rfl,c⟩
 case eql=>
  obtain⟨d,c⟩:=nc h
  subst d
  exact⟨.bool (decide (a=b)),_,by simp_all[gC,kY,YB],rfl,c⟩
 case neq=>
  obtain⟨d,c⟩:=nc h
  subst d
  exact⟨.bool (decide (a≠b)),_,by simp_all[gC,kY,YC],rfl,c⟩
 case lss=>
  obtain⟨d,c⟩:=nc h
  subst d
  exact⟨.bool (decide (a<b)),_,by simp only[gC,if_true,kY],rfl,c⟩
 case leq=>
  obtain⟨d,c⟩:=nc h
  subst d
  exact⟨.bool (decide (a<=b)),_,by simp only[gC,if_true,kY],rfl,c⟩
 case gtr=>
  obtain⟨d,c⟩:=nc h
  subst d
  exact⟨.bool (decide (b<a)),_,by simp only[gC,if_true,kY],rfl,c⟩
 case geq=>
  obtain⟨d,c⟩:=nc h
  subst d
  exact⟨.bool (decide (b<=a)),_,by simp only[gC,if_true,kY],rfl,c⟩
theorem YD {j:BinOp} {x y:SV} {K:SV->Prop} (h:fh j x y K):∃a b v c,x.g= .sc a/\y.g= .sc b/\gC j a b=some v/\c.g= .sc v/\K c:=by
 unfold fh at h;split at h
 ·split at h
  ·rename_i i;exact⟨_,_,_,_,rfl,rfl,i,rfl,h⟩
  ·rename_i i;exact⟨_,_,_,_,rfl,rfl,i,rfl,h⟩
  simp_all
 ·obtain⟨v,c,d,e,f⟩:=go_sound h
  exact⟨_,_,v,c,rfl,rfl,d,e,f⟩
 ·obtain⟨v,c,d,e,f⟩:=go_sound h
  exact⟨_,_,v,c,rfl,rfl,d,e,f⟩
 ·obtain⟨v,c,d,e,f⟩:=go_sound h
  exact⟨_,_,v,c,rfl,rfl,d,e,f⟩
 ·split at h
  ·exact⟨_,_,_,_,rfl,rfl,by grind[gC],rfl,h⟩
  ·exact⟨_,_,_,_,rfl,rfl,by grind[gC],rfl,h⟩
  simp_all
 simp_all
theorem zq {k:IntKind} {a b:Int}:seq1 (.int k a) (.int k b)=some (decide (a=b)):=by
 simp only[seq1,if_true,γ];rfl
theorem YE {x y:SV} {r:Bool} (h:Gm x y=some r):∃a b,x.g= .sc a/\y.g= .sc b/\seq1 a b=some r:=by
 cases x<;>simp only[Gm,reduceCtorEq] at h
 all_goals
  obtain⟨b,c,rfl⟩:=δ.1 h
  first
   |exact⟨_,_,rfl,gX c,zq⟩
   |exact⟨_,_,rfl,uW c,by simp[seq1]⟩
theorem OA:∀{x y:List SV} {r:Bool},tH x y=some r->∃a b,gL x=a.map .sc/\gL y=b.map .sc/\gj a b=some r
 |[],[],r,h=>by simp[tH] at h;subst h;exact⟨[],[],rfl,rfl,rfl⟩
 |[],_::_,r,h=>by grind[tH]
 |_::_,[],r,h=>by grind[tH]
 |x::l,y::n,r,h=>by
  simp only[tH] at h;split at h
  ·rename_i a b e f
   simp only[γ] at h;subst h
   obtain⟨u,v,g,j,k⟩:=YE e
   obtain⟨d,c,i,o,m⟩:=OA f
   exact⟨u::d,v::c,by grind[gL],by grind[gL],by grind[gj]⟩
  ·cases h
theorem GN:∀(l:List Value),rP (l.map .sc)=some l
 |[]=>rfl
 |v::l=>by simp[rP,GN l]
theorem tN:∀{a b:List Value},a.map δj=b.map δj->a=b
 |[],[],_=>rfl
 |[],_::_,h=>by simp at h
 |_::_,[],h=>by simp at h
 |x::a,y::b,h=>by
  simp only[ι,π,γZ] at h;rw[h.1,tN h.2]
theorem vg:∀{e:List Nat} {x:List SV} {a:List Value},li e x=true->gL x=a.map .sc->ey e a=true
 |[],[],a,_,h=>by
  cases a with
  |nil=>rfl
  |cons a i=>simp[gL] at h
 |[],_::_,a,h,_=>by grind[li]
 |_::_,[],a,h,_=>by grind[li]
 |k::e,x::j,a,h,f=>by
  cases a with
  |nil=>grind[gL]
  |cons a i=>
   simp only[gL,ι,π] at f
   obtain⟨c,d⟩:=f
   match k,x,h with
   |0,.si k n,h=>simp only[li] at h;simp only[γF,γZ] at c;subst c;simpa[ey] using vg h d
   |0,.il k n,h=>simp only[li] at h;simp only[γF,γZ] at c;subst c;simpa[ey] using vg h d
   |1,.sb b,h=>simp only[li] at h;simp only[γF,γZ] at c;subst c;simpa[ey] using vg h d
   |1,.bl b,h=>simp only[li] at h;simp only[γF,γZ] at c;subst c;simpa[ey] using vg h d
theorem YF {c:List Nat} {a b:List SV} {r:Bool} (d:(li c a&&li c b)=true) (h:tH a b=some r):wb c (gL a) (gL b)=some r:=by
 obtain⟨u,v,f,e,g⟩:=OA h
 simp only[θ] at d;rw[f,e];simp only[wb,GN,vg d.1 f,vg d.2 e,Bool.and_self,if_true,g]
theorem YG {s s':bn} {l:List s.T} {a:List s'.T} (h:iD s s' l=some a):s=s'/\HEq l a:=by
 unfold iD at h
 grind
theorem zr {s s':bn} {l:List s.T} {l':List s'.T} (h:iD s s' l=some l'):s'=s/\cC s' l'=cC s l/\l'.length=l.length:=by
 grind[YG]
theorem GQ:∀{a:List (Nat×Nat×SV)} {cs b:List SV},rZ a cs=some b->lg (a.map λq=>(q.1,q.2.1,q.2.2.g)) (gL cs)=some (gL b)
 |[],cs,b,h=>by simp[rZ] at h;subst h;rfl
 |(d,n,v)::r,cs,b,h=>by
  simp only[rZ] at h;split at h
  ·rename_i c
   obtain⟨i,f,e⟩:=c
   have:=GQ h
   simp_all[lg,B7,jD,B8,zn]
  ·cases h
theorem Cd {s:bn}:∀{n:Nat} {cs:List SV} {l:List s.T},tC s n cs=some l->gL cs=cC s l/\l.length=n
 |0,[],l,h=>by grind[tC,gL,cC]
 |0,_::_,l,h=>by simp[tC] at h
 |n+1,cs,l,h=>by
  simp only[tC] at h;split at h
  ·rename_i x f a b
   simp only[γ] at h;subst h
   obtain⟨d,c⟩:=Cd b
   have e:=nI a
   refine⟨?_,by simp[c]⟩
   rw[fV] at d ⊢
   conv=>lhs;rw[<-γc s.sz cs]
   grind[cC]
  ·cases h
theorem YH {o:bV} {s:bn} {x:SV} {K:List s.T->Prop} (h:u7 o s x K):∃l,mP (gO o) s.sz x.g=some (l.length,cC s l)/\K l:=by
 cases x with
 |row q l=>
  simp only[u7] at h
  obtain⟨f,c,w⟩:=iT h
  obtain⟨rfl,p,m⟩:=zr c
  exact⟨f,by simp_all[γF,mP,fe],w⟩
 |ow y n u=>
  simp only[u7] at h;split at h
  ·rename_i q l e A B
   split at h
   ·rename_i b
    subst b
    obtain⟨rfl,k⟩:=h
    obtain⟨f,c,i⟩:=iT k
    obtain⟨rfl,p,m⟩:=zr c
    refine⟨f,?_,i⟩
    have t:γd (l.length*s.sz) (cC s l)=cC s l:=γn (by grind[fe])
    simp_all[γF,mP,fz,bq.g,fe]
   simp_all
  simp_all
 |os y d a n u=>
  simp only[u7] at h;split at h
  ·rename_i q l e A B
   split at h
   ·rename_i b
    subst b
    obtain⟨rfl,j,k⟩:=h
    obtain⟨f,c,i⟩:=iT k
    obtain⟨rfl,p,m⟩:=zr c
    refine⟨f,?_,i⟩
    have r:(d+a)*s.sz<=l.length*s.sz:=γO _ j
    rw[δ1] at r
    have z:((l.drop d).take a).length=a:=by simp;omega
    simp_all[γF,mP,fz,bq.g,fe,zo]
   simp_all
  simp_all
 |sc v=>
  grind[u7,γF,mP,cC]
 |_=>simp only[u7] at h
theorem GR {v:SV} {n:Int} (h:zf v=some n):gR v.g=some n:=by
 cases v<;>simp[zf] at h<;>simp[γF,gR,h]
theorem py {d:Nat} {x:Option SV} {K:Nat->Prop} (h:nK d x K):∃n,gU d (x.map γF)=some n/\K n:=by
 unfold nK at h
 grind[γF,gU]
theorem vh {bB:Nat} {x:bq} {o:bV} {K:bV->Prop} (h:mkK bB x o K):∃o',kN bB x.g (gO o)=some (gO o')/\K o':=by
 grind[mkK,kN,fz,bq.g,qh]
theorem YI {s:bn} (e:s.keyed=true) (x y:s.T):gj (dE s x) (dE s y)=some (decide (x=y)):=by
 cases s<;>simp only[bn.keyed,reduceCtorEq] at e
 ·grind[dE,gj,zq]
 ·obtain⟨b,⟨m,o,a,l,c,i⟩⟩:=x
  obtain⟨g,⟨k,h,j,n,d,f⟩⟩:=y
  simp_all[dE,iv,gj,zq]
 ·obtain⟨b,⟨m,o,a,l,c,i⟩,⟨C,t,B,A,D,w⟩⟩:=x
  obtain⟨g,⟨k,h,j,n,d,f⟩,⟨p,z,r,u,v,q⟩⟩:=y
  simp only[dE,iv,gj,zq,γ,δX]
  grind
theorem YJ {s:bn} {a:Bool} (d:s.keyed=true) (b:a=false->s.sz=1) (x y:s.T):keq (oC s a x) (oC s a y)=some (decide (x=y)):=by
 cases a with
 |true=>grind[oC,keq,YI]
 |false=>
  have c:=b rfl
  cases s<;>simp only[bn.keyed,reduceCtorEq] at d<;>simp only[bn.sz,reduceCtorEq,Nat.reduceEqDiff] at c
  simp_all[oC,dE,keq,zq]
theorem GU {a sv:bn} {c:Bool} (f:a.keyed=true) (e:c=false->a.sz=1) (x:a.T):∀(es:List (a.T×sv.T)) (i:Nat),
  ∃r,nE (oC a c x) (es.map λp=>(oC a c p.1,my sv p.2)) i=some r/\(match jV a sv x es with|some v=>∃j,r=some (i+j,my sv v)/\(∃p,es[j]?=some p/\p.1=x)/\(∀g<j,∀p,es[g]?=some p->p.1≠x)|none=>r=none/\∀p∈es,p.1≠x)
 |[],i=>⟨none,by simp[nE],by simp[jV]⟩
 |p::es,i=>by
  simp only[ι,nE,YJ f e]
  by_cases b:p.1=x
  ·refine⟨some (i,my sv p.2),by simp[b],?_⟩
   simp only[jV,List.find?_cons,b,decide_true,μ]
   exact⟨0,by simp,⟨p,by simp,b⟩,by simp⟩
  ·obtain⟨r,m,k⟩:=GU f e x es (i+1)
   have d:¬x=p.1:=λh=>b h.symm
   refine⟨r,by simp[d,m],?_⟩
   have n:jV a sv x (p::es)=jV a sv x es:=by grind[jV]
   rw[n];split at k
   ·obtain⟨j,w,⟨q,t,l⟩,o⟩:=k
    refine⟨j+1,by grind,⟨q,by simp_all,l⟩,λg u s y=>?_⟩
    grind
   grind
theorem GV {a sv:bn} {x:a.T} {v:sv.T}:∀{es:List (a.T×sv.T)},(∀p∈es,p.1≠x)->mY a sv x v es=es++[(x,v)]
 |[],_=>rfl
 |p::es,h=>by
  simp only[mY,if_neg (h p (by simp)),γB]
  rw[GV λq b=>h q (by simp[b])]
theorem OB {a sv:bn} {x:a.T} {v:sv.T}:∀{es:List (a.T×sv.T)} {j:Nat},(∃p,es[j]?=some p/\p.1=x)->(∀b<j,∀p,es[b]?=some p->p.1≠x)->mY a sv x v es=es.modify j λ_=>(x,v)
 |[],j,⟨p,h,_⟩,_=>by simp at h
 |p::es,0,⟨q,h,d⟩,_=>by
  grind[mY]
 |p::es,j+1,⟨q,h,d⟩,c=>by
  have g:=c 0 (by omega) p (by simp)
  simp only[mY,if_neg g,ζF]
  rw[OB (j:=j) ⟨q,by simpa using h,d⟩ λb i e f=>c (b+1) (by omega) e (by simp_all)]
theorem OC {f:List Nat} {d:Bool} {s:bn} {v:SV} {x:s.T} (e:li f v.cellsOf=true) (o:u9 d v=true) (p:s.flat=true) (n:jB s v.cellsOf=some x):k9 f d v.g=some (oC s d x):=by
 have k:=nI n
 have c:gL v.cellsOf=(dE s x).map .sc:=by grind[fV,BW]
 have i:=vg e c
 by_cases l:∃h,v= .agg h
 ·obtain⟨h,rfl⟩:=l
  simp_all[SV.cellsOf,u9,γF,k9,GN,oC]
 ·have b:d=false:=by
   simp_all[u9]
  subst b
  have j:v.cellsOf=[v]:=by
   cases v<;>first|rfl|simp_all
  rw[j] at c;simp only[gL] at c
  cases m:dE s x with
  |nil=>simp_all
  |cons a r=>
   rw[m] at c i;simp only[ι,π] at c
   simp_all[k9,oC]
theorem OD {s:bn} (h:s.wR=true) (x:s.T):((encS s x).headD .ud).g=my s x:=by
 cases s<;>simp[bn.wR] at h<;>simp[encS,my,dE,γF]
theorem OE {s:bn} (h:s.wR=true) (x:s.T):dJ s x=[my s x]:=by
 cases s<;>simp[bn.wR] at h<;>simp[dJ,my,dE]
theorem OG {s:bn} (h:s.keyed=true):s.flat=true:=by
 cases s<;>simp[bn.keyed] at h<;>rfl
structure pz (call:cT) (C:Oc):Prop where
 pure:∀f args K,C.pure f args K->∃r:SV,call f (gL args) [] false=some (r.g,[])/\K r
 own:∀f args o K,C.own f args o K->∃(r:SV) (o':bV),iC call f (gL args) (gO o)=some (r.g,gO o')/\K r o'
section
variable {call:cT} {p:iI} {o:bV} {bB:Nat} {K:SV->bV->Prop}
theorem GX (j:pz call p.C) {f:FuncId} {args:List SV} {own:Bool} (h:eI.zg p f args o own K):
  ∃(v:SV) (o':bV),gu call f (gL args) (gO o) own=some (v.g,gO o')/\K v o':=by
 unfold eI.zg at h;split at h
 ·rename_i c
  obtain⟨r,o',k,e⟩:=j.own _ _ _ _ h
  exact⟨r,o',by simp_all[gu],e⟩
 ·rename_i c
  have c:own=false:=by simp_all
  subst c
  obtain⟨b,k,e⟩:=wZ (o:=gO o) (d:=6) (λv K m=>GM m) h
  obtain⟨r,l,i⟩:=j.pure _ _ _ e
  split at i
  ·rename_i a
   refine⟨r,o,?_,i⟩
   simp only[gu,φ,if_false,k,l];rw[if_pos];simp only[δq] at a ⊢
   rcases a with a|a
   ·left
    rw[fV,List.flatMap_map];exact a
   grind[Oo]
  simp_all
theorem Ce (ρ:Operand->SV) (l:List Operand):gL (l.map ρ)=l.map λx=>(ρ x).g:=by simp[fV]
theorem YK {a:List (Nat×Nat×Operand)} {ρ:Operand->SV} {cs b:List SV} (h:rZ (a.map λq=>(q.1,q.2.1,ρ q.2.2)) cs=some b):
  lg (a.map λq=>(q.1,q.2.1,(ρ q.2.2).g)) (gL cs)=some (gL b):=by
 have:=GQ h
 grind[δf]
theorem GY {a:List (Nat×Operand)} {sz:Nat} {ρ:Operand->SV} {cs b:List SV} (h:rZ (a.map λq=>(q.1,sz,ρ q.2)) cs=some b):
  lg (a.map λq=>(q.1,sz,(ρ q.2).g)) (gL cs)=some (gL b):=by
 have:=GQ h
 grind[δf]
theorem GZ (z:List Value):gL (z.map SV.oD)=z.map .sc:=by rw[fV,Gx]
theorem G0 (a:Nat) (z:List Value):gL ((ε a (z.map SV.oD)).flatten)=(ε a (z.map δj)).flatten:=by
 rw[fV,List.map_flatten,List.map_replicate,Gx]
theorem YL (s:bn) (x:s.T) (n:Nat):(ε n (dJ s x)).flatten=cC s (ε n x):=by
 induction n<;>grind[cC]
theorem zt {ρ:Operand->SV} (l:Option Operand):(l.map ρ).map γF=l.map λx=>(ρ x).g:=by cases l<;>rfl
theorem YM:∀{l:List Int} {i:Nat} {v:Int},i<l.length->fR (l.map λn=>δj (iv n)) 0 ((l.set i v).map λn=>δj (iv n))=(l.map λn=>δj (iv n)).set i (.sc (iv v)):=by
 intro l i v e
 have d:∀(b a c:List AV),b.length=c.length->fR (a++c) a.length b=a++b:=by
  intro b
  induction b with
  |nil=>grind[fR]
  |cons w b f=>
   intro a c h
   cases c with
   |nil=>simp at h
   |cons y c=>
    simp only[γv,ζp] at h;simp only[fR]
    have:(a++y::c).set a.length w=(a++[w])++c:=by
     simp_all
    grind
 have:=d ((l.set i v).map λn=>δj (iv n)) [] (l.map λn=>δj (iv n)) (by simp)
 simp_all
theorem OH {b c:Type} (f:b->c) (x:b):∀(l:List b) (j:Nat),(l.modify j λ_=>x).map f=(l.map f).modify j λ_=>f x
 |[],j=>by simp
 |a::l,0=>by simp_all
 |a::l,j+1=>by simp only[ζF,ι,OH f x l j]
theorem YN (v:Value):(δj v).cellsOf=[.sc v]:=rfl
theorem OI:∀{l:List Int} {i j:Nat} {v:Int},tJ l (i+j) v j=l.set i v
 |[],_,_,_=>rfl
 |a::l,0,j,v=>by
  have h:∀(l:List Int) (c:Nat),j<c->tJ l j v c=l:=by
   intro l
   induction l with
   |nil=>intro _ _;rfl
   |cons b l d=>intro c e;simp only[tJ,if_neg (show ¬j=c by omega),d (c+1) (by omega)]
  simp_all[tJ]
 |a::l,i+1,j,v=>by
  simp only[tJ,if_neg (show ¬i+1+j=j by omega),List.set_cons_succ]
  rw[show i+1+j=i+(j+1) from by omega,OI]
theorem YP {ρ:Operand->SV} {n:Nat} {a x:Operand} (h:eI p (.store n a x) ρ o bB K):
  ∃(v:SV) (o':bV),bJ call (.store n a x) (λx=>(ρ x).g) (gO o) bB=some (v.g,gO o')/\K v o':=by
 simp only[eI] at h;split at h
 ·rename_i W b L B
  split at h
  ·rename_i f e Y E z
   split at h
   ·rename_i D
    obtain⟨V,C,X,P,R⟩:=D
    refine⟨.ud,_,?_,h⟩
    simp only[bJ,B,γF,fz z,bq.g,B7,jD,B8]
    rw[if_pos ⟨V,C,X,P,R.imp (λq=>q) λhp=>Gy _ hp⟩,qh,bq.g,zn,GG]
   simp_all
  simp_all
 ·rename_i W i b m Y B
  split at h
  ·rename_i s l e E z
   split at h
   ·rename_i D
    obtain⟨rfl,C,X⟩:=D
    obtain⟨rfl,N,P⟩:=h
    obtain⟨v,hv,R⟩:=iT P
    refine⟨.ud,_,?_,R⟩
    have T:=nI hv
    rw[<-fV,zn,GG] at T
    have O:gL (encS s (bj l i s.dflt))=dJ s (bj l i s.dflt):=by rw[fV,tu]
    rw[O] at T
    have y:(i+1)*s.sz<=l.length*s.sz:=γO _ N
    rw[Nat.succ_mul] at y
    have u:∀c∈eu E (gL (ρ x).cellsOf),Plain c:=by
     intro c hc
     obtain⟨j,hj⟩:=List.mem_iff_getElem?.1 hc
     have U:=(ζ.1 hj).1
     rw[s7,jD,C] at U
     have a1:(fR (dJ s (bj l i s.dflt)) b (eu E (gL (ρ x).cellsOf)))[b+j]?=some c:=by
      have a0:∀(r f:List AV) (b j:Nat) (c:AV),r[j]?=some c->b+r.length<=f.length->(fR f b r)[b+j]?=some c:=by
       intro r
       induction r with
       |nil=>simp_all
       |cons w r ih=>
        intro f b j c h M;simp only[γv] at M;simp only[fR]
        cases j with
        |zero=>
         simp only[List.getElem?_cons_zero,γ] at h;subst h
         have F:∀(r f:List AV) (Z k:Nat),k<Z->(fR f Z r)[k]?=f[k]?:=by
          intro r
          induction r<;>grind[fR]
         grind
        |succ j=>
         have:=ih (f.set b w) (b+1) j c (by simpa using h) (by simp;omega)
         grind
      grind[s7,jD,lI]
     grind[zc]
    obtain⟨G,Q⟩:=GH u
    simp only[bJ,B,γF,fz z,bq.g,B7,fe,jD]
    rw[if_pos ⟨trivial,C,G,by omega,.inr Q⟩,qh,bq.g,Yy N (by grind[s7,jD]) T]
   simp_all
  simp_all
 ·rename_i W d Y t L i B
  split at h
  ·rename_i f e a3 E z
   split at h
   ·rename_i v H
    split at h
    ·rename_i l M
     split at h
     ·rename_i D
      obtain⟨V,C⟩:=D
      rw[show tJ l i v 0=l.set i v from OI (j:=0)] at h
      obtain⟨N,hk⟩:=h
      refine⟨.ud,_,?_,hk⟩
      have S:(ρ x).cellsOf=[ρ x]:=by
       cases hr:ρ x<;>rw[hr] at H<;>simp[SV.int] at H<;>rfl
      have I:(ρ x).g= .sc (iv v):=gX H
      have A:=BX M
      have a2:l.length=t:=by
       have:=congrArg γo A
       grind
      have J:gL f=gL (f.take d)++(l.map λn=>δj (iv n))++gL (f.drop (d+t)):=by
       rw[<-A,fV,fV,fV,<-γa,<-γa]
       congr 1
       rw[<-γV,List.append_assoc,γc,γc]
      have a4:(gL (f.take d)).length=d:=by grind[jD]
      have hq:eu E [δj (iv v)]=[δj (iv v)]:=by unfold eu;split<;>rfl
      simp only[bJ,B,γF,fz z,bq.g,I,YN,List.length_singleton,jD,hq]
      rw[if_pos ⟨V,trivial,by simp[eF,AV.one,iv,Value.oneCell'],by omega,.inr (by simp[dp,AV.pure])⟩,qh,bq.g,zn]
      congr 4
      have e1:gL ((l.set i v).map (SV.si .i64))=(l.set i v).map λn=>δj (iv n):=by
       rw[fV,δo];rfl
      rw[e1,J]
      have hm:=GI ((l.set i v).map λn=>δj (iv n)) (gL (f.take d)) (l.map λn=>δj (iv n)) (gL (f.drop (d+t))) 0 (by simp)
      grind[YM,fR]
     simp_all
    simp_all
   simp_all
  simp_all
 simp_all
theorem YQ {ρ:Operand->SV} {e:TypeId} {sz b:Nat} {s x:Operand} {pu:Bool} (h:eI p (.append e sz b s x pu) ρ o bB K):
  ∃(v:SV) (o':bV),bJ call (.append e sz b s x pu) (λx=>(ρ x).g) (gO o) bB=some (v.g,gO o')/\K v o':=by
 simp only[eI] at h;split at h
 ·rename_i t tl U a
  split at h
  ·rename_i S n G j m R k M
   split at h
   ·rename_i O l Z I H
    split at h
    ·rename_i F
     obtain⟨rfl,q,rfl,rfl,rfl,rfl,i,w⟩:=F
     obtain⟨rfl,C,y,B⟩:=h
     rw[M] at a;unfold Oe at a;split at a
     ·rename_i j' W Y
      injection Y with e1 N e3;subst e1 N e3;split at a
      ·rename_i s2 N L D
       split at a
       ·rename_i A
        injection a with a;subst a
        refine⟨_,_,?_,B⟩
        have E:mP (gO o) t.sz (.os j 0 1 (1*t.sz))=some (1,gL L):=by
         simp only[mP,fz D,bq.g,cC,εY,δp,jD]
         rw[if_pos ⟨by omega,A,by omega⟩,δM,γn (by grind[jD])]
        have J:eF (gL L)=true:=by grind[B8]
        simp only[bJ,k,M,γF,pV];simp only[E,J,ζO,if_false,fz H,bq.g,fe,q]
        rw[if_pos ⟨trivial,trivial,trivial,trivial,C,y,.inl trivial⟩,qh,bq.g]
        grind
       ·cases a
      ·cases a
     ·cases a
    simp_all
   simp_all
  simp_all
 ·rename_i t U _
  split at h
  ·rename_i z
   subst z
   obtain⟨f,V,d⟩:=YH h
   have r:eF (cC t f)=true:=B0 _ _
   have c:dp (cC t f)=true:=qg _ _
   simp only[bJ,pV,V,r,ζO,if_false];split at d
   ·rename_i k
    rw[k];simp only[γF]
    by_cases u:f.length=0
    ·exact⟨_,_,by simp only[u,if_true];rfl,d.1 u⟩
    ·obtain⟨q,i,w⟩:=d.2 u
     obtain⟨o',P,Q⟩:=vh w
     refine⟨_,o',?_,Q⟩
     simp only[bq.g] at P
     rw[if_neg u,if_pos ⟨q,i,.inr c⟩,P]
     rfl
   ·rename_i S n G k
    split at d
    ·rename_i O l Z I H
     split at d
     ·rename_i F
      obtain⟨rfl,q,rfl⟩:=F
      obtain⟨rfl,i,w,C⟩:=d
      obtain⟨l',y,B⟩:=iT C
      obtain⟨rfl,T,X⟩:=zr y
      refine⟨_,_,?_,B⟩
      rw[k];simp only[γF,fz H,bq.g,fe]
      rw[if_pos ⟨trivial,trivial,trivial,trivial,i,w,.inr c⟩,qh,bq.g,Oa,T]
      grind
     simp_all
    simp_all
   ·rename_i O l k
    obtain⟨q,i⟩:=d
    refine⟨_,_,?_,i⟩
    simp_all[γF]
   simp_all
  simp_all
 simp_all
theorem OJ {mx:Bool} {a b:Int}:(if mx then(if b>a then b else a) else(if b<a then b else a))=if mx then max a b else min a b:=by
 grind
theorem YR (hC:pz call p.C) {op:cz} {ρ:Operand->SV} (h:eI p op ρ o bB K):
  ∃(v:SV) (o':bV),bJ call op (λx=>(ρ x).g) (gO o) bB=some (v.g,gO o')/\K v o':=by
 cases op with
 |uz x=>exact⟨_,_,rfl,h⟩
 |pick c a b=>
  simp only[eI] at h;split at h
  ·rename_i hc;exact⟨_,_,by simp only[bJ,hc,γF],h⟩
  ·rename_i hc;exact⟨_,_,by simp only[bJ,hc,γF],h⟩
  ·rename_i c hc
   cases c with
   |true=>exact⟨_,_,by simp only[bJ,hc,γF],h.1 rfl⟩
   |false=>exact⟨_,_,by simp only[bJ,hc,γF],h.2 rfl⟩
  ·exact h.elim
 |alloc z e pu=>
  obtain⟨o',hm,hk⟩:=vh h
  simp only[bq.g,GZ] at hm
  exact⟨_,o',by simp only[bJ,hm,μ,γF],hk⟩
 |box e x=>
  simp only[eI] at h;split at h
  ·rename_i h1
   obtain⟨o',hm,hk⟩:=vh h
   simp only[bq.g] at hm
   exact⟨_,o',by simp only[bJ,B7,B8,h1,if_true,jD,hm,μ,γF],hk⟩
  ·exact h.elim
 |build z parts=>
  simp only[eI] at h
  obtain⟨cs,h1,h2⟩:=iT h
  have:=YK h1
  rw[GZ] at this
  exact⟨_,_,by simp only[bJ,this,μ,γF],h2⟩
 |pd z len parts e sz=>
  simp only[eI] at h;split at h
  ·rename_i s cs hs hf
   split at h
   ·rename_i hsz
    split at h
    ·rename_i hany
     split at h
     ·rename_i hlen
      obtain⟨o',hm,hk⟩:=vh h
      simp only[bq.g,cC,εY,δp] at hm
      have hfa:=GY hf
      rw[G0] at hfa
      refine⟨_,o',?_,hk⟩
      subst hsz
      have hp:dp (gL cs)=false:=by
       clear hf hfa hm hlen h
       induction cs with
       |nil=>simp at hany
       |cons c cs ih=>
        simp only[List.any_cons,δq] at hany;simp only[gL,dp]
        rcases hany with hc|hc
        ·have h9:c.g.pure=false:=by
          cases c with
          |ow a b d=>simp[γF,AV.pure]
          |_=>simp[SV.Og] at hc
         rw[h9,Bool.false_and]
        ·have ih2:=ih hc
         rw[ih2,Bool.and_false]
      simp only[bJ,hfa,hp,eu,φ,if_false,hm,μ,γF]
     ·exact h.elim
    obtain⟨l,h1,h2⟩:=iT h
    obtain⟨h3,h4⟩:=Cd h1
    obtain⟨o',hm,hk⟩:=vh h2
    simp only[bq.g] at hm
    have hfa:=GY hf
    rw[G0] at hfa
    refine⟨_,o',?_,hk⟩
    subst hsz;rw[GF] at h3
    have hp:dp (gL cs)=true:=(GH (pu:=true) (cs:=gL cs) λc hc=>mX (s:=s) (l:=l) (by rw[<-h3];exact hc)).2
    have hq:eu true (gL cs)=cC s l:=h3
    simp only[bJ,hfa,hp,hq,hm,μ,γF]
   ·exact h.elim
  ·exact h.elim
 |sT z len parts e sz=>
  simp only[eI] at h;split at h
  ·rename_i s cs hs hf
   split at h
   ·rename_i hsz
    obtain⟨l,h1,h2⟩:=iT h
    obtain⟨h3,h4⟩:=Cd h1
    have hfa:=GY hf
    rw[G0] at hfa;rw[GF] at h3
    have hp:dp (gL cs)=true:=(GH (pu:=true) (cs:=gL cs) λc hc=>mX (s:=s) (l:=l) (by rw[<-h3];exact hc)).2
    have hq:eu true (gL cs)=cC s l:=h3
    exact⟨_,_,by simp only[bJ,hfa,hp,hq,if_true,γF,h4],h2⟩
   ·exact h.elim
  ·exact h.elim
 |load n a=>
  simp only[eI] at h
  obtain⟨cs,off,v,h1,h2,h3⟩:=Ox h
  exact⟨v,o,by simp only[bJ,h1,h2,μ],h3⟩
 |store n a x=>exact YP h
 |uA x=>
  simp only[eI] at h;split at h
  ·rename_i hx;exact⟨_,_,by simp only[bJ,hx,γF],h⟩
  ·rename_i hx;exact⟨_,_,by simp only[bJ,hx,γF],h⟩
  ·rename_i hx;exact⟨_,_,by simp only[bJ,hx,γF],h⟩
  ·exact h.elim
 |bin op x y=>
  simp only[eI] at h
  obtain⟨a,b,v,v',h1,h2,h3,h4,h5⟩:=YD h
  exact⟨v',o,by simp only[bJ,h1,h2,h3,μ,h4],h5⟩
 |beq neg x y=>
  simp only[eI] at h;split at h
  ·rename_i a b h1 h2
   exact⟨_,_,by simp only[bJ,uW h1,uW h2,γF],h⟩
  ·exact h.elim
 |rN neg ks x y=>
  simp only[eI] at h;split at h
  ·rename_i a b h1 h2
   split at h
   ·rename_i hk
    obtain⟨r,hr,h3⟩:=iT h
    exact⟨_,_,by simp only[bJ,h1,h2,γF,YF hk hr,μ],h3⟩
   ·exact h.elim
  ·exact h.elim
 |un op x=>
  simp only[eI] at h;split at h
  ·rename_i hx;exact⟨_,_,by simp only[bJ,hx,γF,sW,μ],h⟩
  ·rename_i hx;exact⟨_,_,by simp only[bJ,hx,γF,sW,μ],h⟩
  ·rename_i k n hx
   refine⟨_,_,?_,h.2⟩
   have:(0:Int) - n= -n:=by omega
   simp only[bJ,hx,γF,sW,μ,this,Cc h.1]
  ·rename_i hx;exact⟨_,_,by simp only[bJ,hx,γF,sW,μ],h⟩
  ·exact h.elim
 |conv k x=>
  simp only[eI] at h;split at h
  ·rename_i hx;exact⟨_,_,by simp only[bJ,hx,γF],h⟩
  ·rename_i hx;exact⟨_,_,by simp only[bJ,hx,γF,Cc h.1],h.2⟩
  ·rename_i kk n _ hx;exact⟨.si k (eK k n),_,by simp only[bJ,hx,γF],zp h⟩
  ·exact h.elim
 |uB off x=>
  simp only[eI] at h;split at h
  ·rename_i hx;exact⟨_,_,by simp only[bJ,hx,γF,mO,μ],h⟩
  ·rename_i hx;exact⟨_,_,by simp only[bJ,hx,γF,mO,μ,ε2],h⟩
  ·rename_i hx;exact⟨_,_,by simp only[bJ,hx,γF,mO,μ,ε2],h⟩
  ·exact h.elim
 |field off n x=>
  simp only[eI] at h;split at h
  ·rename_i cs hx
   obtain⟨v,h1,h2⟩:=iT h
   exact⟨_,_,by simp only[bJ,hx,γF,Cb h1,μ],h2⟩
  ·exact h.elim
 |uC len sz x i=>
  simp only[eI] at h;split at h
  ·rename_i k n hi
   split at h
   ·rename_i hn
    split at h
    ·rename_i hx;exact⟨_,_,by simp only[bJ,hi,hx,γF,gR,if_pos hn,mO,μ],h⟩
    ·rename_i hx;exact⟨_,_,by simp only[bJ,hi,hx,γF,gR,if_pos hn,mO,μ,ε2],h⟩
    ·rename_i hx;exact⟨_,_,by simp only[bJ,hi,hx,γF,gR,if_pos hn,mO,μ,ε2],h⟩
    ·exact h.elim
   ·exact h.elim
  ·rename_i k n hi
   split at h
   ·rename_i hx;exact⟨_,_,by simp only[bJ,hi,hx,γF,gR,if_pos (γj h.1 h.2.1),mO,μ],h.2.2⟩
   ·exact h.elim
  ·exact h.elim
 |rO sz x i=>
  simp only[eI] at h;split at h
  ·rename_i n hi
   have hi:=GR hi
   split at h
   ·rename_i s l hx
    split at h
    ·rename_i hsz
     subst hsz
     obtain⟨h1,h2,h3⟩:=h
     refine⟨_,_,?_,h3⟩
     simp only[bJ,hi,hx,γF,pU,fe]
     rw[if_pos ⟨h1,h2,trivial⟩]
     simp
    ·exact h.elim
   ·rename_i id m sz' hx
    split at h
    ·rename_i s l e pu ho
     split at h
     ·rename_i hsz
      obtain⟨rfl,rfl⟩:=hsz
      obtain⟨rfl,h1,h2,h3⟩:=h
      refine⟨_,_,?_,h3⟩
      simp only[bJ,hi,hx,γF,pU,fz ho,bq.g,fe]
      rw[pr (Nat.zero_le _),if_pos ⟨trivial,trivial,h1,h2,by omega⟩]
      simp
     ·exact h.elim
    ·exact h.elim
   ·rename_i id off len m sz' hx
    split at h
    ·rename_i s l e pu ho
     split at h
     ·rename_i hsz
      obtain⟨rfl,rfl⟩:=hsz
      obtain⟨rfl,h1,h2,h4,h3⟩:=h
      refine⟨_,_,?_,h3⟩
      have hm:(off+len)*s.sz<=l.length*s.sz:=γO _ h4
      rw[δ1] at hm;simp only[bJ,hi,hx,γF,pU,fz ho,bq.g,fe]
      rw[pr (by omega),if_pos ⟨trivial,trivial,h1,h2,hm⟩]
      simp[δ1]
     ·exact h.elim
    ·exact h.elim
   ·rename_i id off len m sz' hx
    split at h
    ·rename_i s l e pu ho
     split at h
     ·rename_i hsz
      obtain⟨rfl,rfl⟩:=hsz
      obtain⟨rfl,h1,h2,h4,h3⟩:=h
      refine⟨_,_,?_,h3⟩
      have hm:(off+len)*s.sz<=l.length*s.sz:=γO _ h4
      have hp:=Gh s
      rw[δ1] at hm;simp only[bJ,hi,hx,γF,pU,fz ho,bq.g,fe]
      rw[Bv (by omega),show off*s.sz+(l.length*s.sz+s.sz) - l.length*s.sz - s.sz=off*s.sz by omega,if_pos ⟨trivial,trivial,h1,h2,hm⟩]
      simp[δ1]
     ·exact h.elim
    ·exact h.elim
   ·exact h.elim
  ·exact h.elim
 |idx len sz n x i=>
  simp only[eI] at h;split at h
  ·rename_i k' k cs hi hx
   split at h
   ·rename_i hk
    obtain⟨v,h1,h2⟩:=iT h
    exact⟨_,_,by simp only[bJ,hi,hx,γF,gR,if_pos hk,Cb h1,μ],h2⟩
   ·exact h.elim
  ·rename_i k' k cs hi hx
   split at h
   ·rename_i l _ _ hl
    split at h
    ·rename_i hll
     obtain⟨h1,h2,h3⟩:=h
     refine⟨_,_,?_,h3⟩
     obtain⟨h4,h5⟩:=Ou hl
     have h6:=h5 k.toNat (by omega)
     simp only[bJ,hi,hx,γF,gR,if_pos (γj h1 h2),Nat.mul_one,gi,tL,h6,μ]
    ·exact h.elim
   ·exact h.elim
  ·exact h.elim
 |wa x i=>simp only[eI] at h
 |pS z e sz bytes l c pu=>
  simp only[eI] at h;split at h
  ·rename_i n m s hn hm hs
   have hn:=GR hn
   have hm:=GR hm
   split at h
   ·rename_i hsz
    subst hsz
    obtain⟨x,hx,h1,h2,h3,h4,h5⟩:=iT h
    obtain⟨o',hmk,hk⟩:=vh h5
    refine⟨_,o',?_,hk⟩
    have hd:=nI hx
    rw[<-fV,GG,GZ] at hd;simp only[bq.g] at hmk;simp only[bJ,hn,hm]
    rw[if_pos ⟨h1,h2,h3,h4⟩,hd,YL,hmk]
    simp[γF]
   ·exact h.elim
  ·exact h.elim
 |slice sz x lo hi=>
  simp only[eI] at h;split at h
  ·rename_i s l hx
   split at h
   ·rename_i hsz
    subst hsz
    obtain⟨a,ha,h1⟩:=py h
    obtain⟨b,hb,h2,h3,h4⟩:=py h1
    refine⟨_,_,?_,h4⟩
    rw[zt] at ha hb
    have hlen:((l.drop a).take (b - a)).length=b - a:=by simp;omega
    simp only[bJ,hx,γF,pW,ha,hb,fe,and_true,if_pos (γj h2 h3),μ,zo,hlen]
   ·exact h.elim
  ·rename_i id m sz' hx
   split at h
   ·rename_i s l e pu ho
    split at h
    ·rename_i hsz
     obtain⟨rfl,rfl⟩:=hsz
     obtain⟨rfl,h⟩:=h
     obtain⟨a,ha,h1⟩:=py h
     obtain⟨b,hb,h2,h3,h4⟩:=py h1
     refine⟨_,_,?_,h4⟩
     rw[zt] at ha hb;simp only[bJ,hx,γF,pW,ha,hb,fz ho,bq.g,fe]
     rw[if_pos ⟨h2,h3,trivial,trivial⟩]
     simp
    ·exact h.elim
   ·exact h.elim
  ·rename_i id off len m sz' hx
   split at h
   ·rename_i s l e pu ho
    split at h
    ·rename_i hsz
     obtain⟨rfl,rfl⟩:=hsz
     obtain⟨rfl,h⟩:=h
     obtain⟨a,ha,h1⟩:=py h
     obtain⟨b,hb,h2,h3,h4⟩:=py h1
     refine⟨_,_,?_,h4⟩
     rw[zt] at ha hb;simp only[bJ,hx,γF,pW,ha,hb,fz ho,bq.g,fe]
     rw[if_pos ⟨h2,h3,trivial,trivial⟩]
     simp[δ1]
    ·exact h.elim
   ·exact h.elim
  ·exact h.elim
 |slice3 sz x lo hi mx=>
  simp only[eI] at h;split at h
  ·rename_i s l hx
   split at h
   ·rename_i hsz
    subst hsz
    obtain⟨a,ha,h1⟩:=py h
    obtain⟨b,hb,h2⟩:=py h1
    obtain⟨m,hm,h3,h4,h5,h6⟩:=py h2
    refine⟨_,_,?_,h6⟩
    rw[zt] at ha;simp only[μ] at hb hm
    have hlen:((l.drop a).take (b - a)).length=b - a:=by simp;omega
    simp only[bJ,hx,γF,rR,ha,hb,hm,fe,and_true,if_pos (γj h3 (γj h4 h5)),μ,zo,hlen]
   ·exact h.elim
  ·rename_i id n sz' hx
   split at h
   ·rename_i s l e pu ho
    split at h
    ·rename_i hsz
     obtain⟨rfl,rfl⟩:=hsz
     obtain⟨rfl,h⟩:=h
     obtain⟨a,ha,h1⟩:=py h
     obtain⟨b,hb,h2⟩:=py h1
     obtain⟨m,hm,h3,h4,h5,h6⟩:=py h2
     refine⟨_,_,?_,h6⟩
     rw[zt] at ha;simp only[μ] at hb hm;simp only[bJ,hx,γF,rR,ha,hb,hm,fz ho,bq.g,fe]
     rw[if_pos ⟨h3,h4,h5,trivial,trivial,by omega,Gh _⟩]
     simp
    ·exact h.elim
   ·exact h.elim
  ·exact h.elim
 |uD x lo hi=>simp only[eI] at h
 |append e sz bytes s x pu=>exact YQ h
 |len k x=>
  simp only[eI] at h;split at h
  ·rename_i hx;exact⟨_,_,by simp only[bJ,hx,γF,kZ,μ],h⟩
  ·rename_i hx;exact⟨_,_,by simp only[bJ,hx,γF,kZ,μ],h⟩
  ·rename_i hx;exact⟨_,_,by simp only[bJ,hx,γF,kZ,μ],h⟩
  ·rename_i hx;exact⟨_,_,by simp only[bJ,hx,γF,kZ,μ],h⟩
  ·rename_i hx;exact⟨_,_,by simp only[bJ,hx,γF,kZ,μ];rfl,h⟩
  ·rename_i hx;exact⟨_,_,by simp only[bJ,hx,γF,kZ,μ],h⟩
  ·rename_i id hx
   split at h
   ·rename_i sk sv ka es kt pu ho
    exact⟨_,_,by simp only[bJ,hx,γF,kZ,fz ho,bq.g,List.length_map,μ],h⟩
   ·exact h.elim
  ·exact h.elim
 |uE n=>exact⟨_,_,rfl,h⟩
 |mm mx x y=>
  simp only[eI] at h;split at h
  ·rename_i hx hy
   split at h
   ·rename_i hk
    exact⟨_,_,by simp only[bJ,hx,hy,γF,if_pos hk],h⟩
   ·exact h.elim
  ·rename_i k a hx
   obtain⟨b,hb,h2⟩:=iT h
   exact⟨_,_,by simp only[bJ,hx,gX hb,γF,if_true,OJ],h2⟩
  ·rename_i k a hx _
   obtain⟨b,hb,h2⟩:=iT h
   exact⟨_,_,by simp only[bJ,hx,gX hb,γF,if_true,OJ],h2⟩
  ·exact h.elim
 |call f args own=>
  simp only[eI] at h
  obtain⟨v,o',h1,h2⟩:=GX hC h
  rw[Ce] at h1
  exact⟨v,o',by simp only[bJ,h1],h2⟩
 |jA f args own=>
  simp only[eI] at h;split at h
  ·rename_i g first captured hf
   obtain⟨v,o',h1,h2⟩:=GX hC h
   rw[tM,tM,Ce] at h1
   exact⟨v,o',by simp only[bJ,hf,γF,h1],h2⟩
  ·exact h.elim
 |extract x i=>
  simp only[eI] at h;split at h
  ·rename_i vs hx
   obtain⟨v,h1,h2⟩:=iT h
   exact⟨_,_,by simp only[bJ,hx,γF,tL,h1,μ],h2⟩
  ·exact h.elim
 |sU f first captured=>exact⟨_,_,by simp only[bJ,γF,Ce],h⟩
 |uF t x=>
  simp only[eI] at h;split at h
  ·rename_i cs hx
   split at h
   ·rename_i hp
    exact⟨_,_,by simp only[bJ,hx,γF,if_pos (Gy cs hp)],h⟩
   ·exact h.elim
  ·exact h.elim
 |oh tab x args=>
  simp only[eI] at h;split at h
  ·rename_i t cs hx
   split at h
   ·rename_i f hf
    obtain⟨v,o',h1,h2⟩:=GX hC h
    simp only[gL,γF,Ce] at h1
    exact⟨v,o',by simp only[bJ,hx,γF,hf,h1],h2⟩
   ·exact h.elim
  ·exact h.elim
 |pT kt pu=>
  simp only[eI] at h;split at h
  ·rename_i sk sv hs
   obtain⟨o',hm,hk⟩:=vh h
   simp only[bq.g,γs] at hm
   exact⟨_,o',by simp only[bJ,hm,μ,γF],hk⟩
  ·exact h.elim
 |lookup z agg ks ka x k ok=>
  simp only[eI] at h;split at h
  ·rename_i id hx
   split at h
   ·rename_i sk sv wT es kt pu ho
    split at h
    ·rename_i hh
     obtain⟨rfl,rfl,h1,h2,rfl,h4,h5,h6⟩:=hh
     obtain⟨kv,hkv,h7⟩:=iT h
     obtain⟨zv,hzv,h8⟩:=iT h7
     have hkey:=OC h5 h6 (OG h1) hkv
     have hz:qO z false=some (my sv zv):=by
      have hd:=nI hzv
      rw[Gx,OE h2] at hd
      cases z with
      |nil=>simp at hd
      |cons a r=>
       cases r with
       |nil=>simp only[ι,γs,π,and_true] at hd;simp[qO,hd]
       |cons=>simp at hd
     obtain⟨r,hr,hm⟩:=GU (sv:=sv) h1 h4 kv es 0
     refine⟨_,_,?_,h8⟩
     simp only[bJ,hx,γF,hkey,fz ho,bq.g,if_true,hr,hz]
     cases hf:jV sk sv kv es with
     |some v=>
      rw[hf] at hm
      obtain⟨j,rfl,_⟩:=hm
      simp only[Option.getD_some]
      cases ok<;>simp only[φ,if_false,if_true,γF,gL,OD h2,ζP,ζf]
     |none=>
      rw[hf] at hm
      obtain⟨rfl,_⟩:=hm
      simp only[Option.getD_none]
      cases ok<;>simp only[φ,if_false,if_true,γF,gL,OD h2,ζP,ζf]
    ·exact h.elim
   ·exact h.elim
  ·exact h.elim
 |qN ks ka x k v=>
  simp only[eI] at h;split at h
  ·rename_i id hx
   split at h
   ·rename_i sk sv wT es kt pu ho
    split at h
    ·rename_i hh
     obtain⟨rfl,rfl,h1,h2,h4,h5,h6,h9⟩:=hh
     obtain⟨kv,hkv,h7⟩:=iT h
     obtain⟨vv,hvv,h8⟩:=iT h7
     have hkey:=OC h5 h6 (OG h1) hkv
     have hv:(ρ v).g=my sv vv:=by
      have hd:=nI hvv
      rw[OE h2] at hd
      have hc:(ρ v).cellsOf=[ρ v]:=by
       revert h9
       cases ρ v<;>simp[SV.cellsOf,u9]
      rw[hc] at hd
      simpa using hd
     obtain⟨r,hr,hm⟩:=GU (sv:=sv) h1 h4 kv es 0
     refine⟨_,_,?_,h8⟩
     have hpure:(my sv vv).pure=true:=by simp[my,AV.pure]
     simp only[bJ,hx,γF,hkey,fz ho,bq.g,hv,hpure,hr,qh]
     rw[if_neg (by simp)]
     cases hf:jV sk sv kv es with
     |some w=>
      rw[hf] at hm
      obtain⟨j,rfl,h10,h11⟩:=hm
      rw[OB h10 h11];simp only[Nat.zero_add];rw[OH]
     |none=>
      rw[hf] at hm
      obtain⟨rfl,h10⟩:=hm
      rw[GV h10]
      simp
    ·exact h.elim
   ·exact h.elim
  ·exact h.elim
end
mutual
theorem G2 {o:Store} {k:Nat}:∀{v:AV},v.bY k=true->v.bT o (λi=>decide (k<=i))=some v
 | .os id off len tot,h=>by
  simp only[AV.bY,decide_eq_true_eq] at h;simp only[AV.bT,decide_eq_true_eq,if_neg (Nat.not_le.2 h)]
 | .ptr id off tot,h=>by
  simp only[AV.bY,decide_eq_true_eq] at h;simp only[AV.bT,decide_eq_true_eq,if_neg (Nat.not_le.2 h)]
 | .agg cs,h=>by simp only[AV.bY] at h;simp only[AV.bT,w8 h,μ]
 | .bH cs,h=>by simp only[AV.bY] at h;simp only[AV.bT,w8 h,μ]
 | .fn f a b,h=>by
  simp only[AV.bY,θ] at h;simp only[AV.bT,w8 h.1,w8 h.2]
 | .ud,_| .sc _,_| .sl _ _,_| .ep _ _,_| .mp _,_| .iQ _ _,_=>by simp only[AV.bT]
theorem w8 {o:Store} {k:Nat}:∀{l:List AV},dZ k l=true->gG o (λi=>decide (k<=i)) l=some l
 |[],_=>by simp[gG]
 |c::cs,h=>by
  simp only[dZ,θ] at h;simp only[gG,G2 h.1,w8 h.2]
end
theorem OL {o:Store} {k:Nat}:∀{l:List (Value×AV)},dZ k (l.map (·.2))=true->pZ o (λi=>decide (k<=i)) l=some l
 |[],_=>by simp[pZ]
 |(q,c)::a,h=>by
  simp only[ι,dZ,θ] at h;simp only[pZ,G2 h.1,OL h.2]
theorem YT {o:Store} {k:Nat} {x:bP} (h:x.bY k=true):x.bT o (λi=>decide (k<=i))=some x:=by
 cases x with
 |dead=>rfl
 |cells b e f a=>
  cases a with
  |true=>simp only[bP.bT,if_true]
  |false=>simp_all[bP.bY,bP.bT,w8]
 |map d c a=>
  cases a with
  |true=>simp only[bP.bT,if_true]
  |false=>simp_all[bP.bY,bP.bT,OL]
theorem OM {o:Store} {k:Nat}:∀{r:Store},(∀x∈r,x.bY k=true)->jf o (λi=>decide (k<=i)) r=some r
 |[],_=>rfl
 |x::r,h=>by
  simp only[jf,YT (h x (by simp)),OM (r:=r) λy a=>h y (by simp[a])]
theorem OO {k:Nat}:∀{o:Store} {i:Nat},(fy (λj=>decide (k<=j)) i o).take (k - i)=o.take (k - i)
 |[],i=>by simp[fy]
 |x::r,i=>by
  simp only[fy]
  by_cases a:i<k
  ·rw[show k - i=(k - (i+1))+1 from by omega,εe,εe,OO]
   grind
  simp_all
theorem af7 {k i:Nat} (h:i<k):(τ k).contains i=true:=by simp[h]
theorem OP {o:Store} {k:Nat}:∀{d:Nat} {vs:List AV},dZ k vs=true->cG o d vs (τ k)=τ k:=by
 intro d
 induction d with
 |zero=>grind[cG]
 |succ d e=>
  intro vs h
  cases vs with
  |nil=>simp[cG]
  |cons v vs=>
   simp only[dZ,θ] at h
   have i:=h.1
   simp only[cG]
   cases v with
   |agg g=>grind[AV.bY]
   |bH g=>grind[AV.bY]
   |fn f a b=>grind[AV.bY]
   |ptr c _ _=>simp_all[AV.bY]
   |os c _ _ _=>simp_all[AV.bY]
   |mp c=>simp_all[AV.bY]
   |_=>simp only[e h.2]
theorem OQ:∀{n s i p:Nat},s<=i->i<s+n->idxOf (ζx s n) i p=some (p+(i - s))
 |0,s,i,p,a,b=>by omega
 |n+1,s,i,p,a,b=>by
  simp only[εw,idxOf]
  by_cases h:s=i
  ·subst h;simp
  ·have:(s==i)=false:=by simpa using h
   rw[this];simp only[φ,if_false]
   rw[OQ (by omega) (by omega)]
   grind
theorem G3 {k i:Nat} (h:i<k):idxOf (τ k) i=some i:=by
 rw[δI,OQ (by omega) (by omega)]
 simp
mutual
theorem Cf {k:Nat}:∀{v:AV},v.bY k=true->v.ren (λj=>idxOf (τ k) j)=some v
 | .os id off len tot,h=>by simp only[AV.bY,decide_eq_true_eq] at h;simp only[δD,G3 h,μ]
 | .ptr id off tot,h=>by simp only[AV.bY,decide_eq_true_eq] at h;simp only[δD,G3 h,μ]
 | .mp id,h=>by simp only[AV.bY,decide_eq_true_eq] at h;simp only[δD,G3 h,μ]
 | .agg cs,h=>by simp only[AV.bY] at h;simp only[δD,w9 h,μ]
 | .bH cs,h=>by simp only[AV.bY] at h;simp only[δD,w9 h,μ]
 | .fn f a b,h=>by
  simp only[AV.bY,θ] at h;simp only[δD,w9 h.1,w9 h.2]
 | .ud,_| .sc _,_| .sl _ _,_| .ep _ _,_| .iQ _ _,_=>by simp only[δD]
theorem w9 {k:Nat}:∀{l:List AV},dZ k l=true->iz (λj=>idxOf (τ k) j) l=some l
 |[],_=>by simp[iz]
 |c::cs,h=>by
  simp only[dZ,θ] at h;simp only[iz,Cf h.1,w9 h.2]
end
theorem OS {k:Nat}:∀{l:List (Value×AV)},dZ k (l.map (·.2))=true->oo (λj=>idxOf (τ k) j) l=some l
 |[],_=>by simp[oo]
 |(q,c)::a,h=>by
  simp only[ι,dZ,θ] at h;simp only[oo,Cf h.1,OS h.2]
theorem YU {k:Nat} {x:bP} (h:x.bY k=true):x.ren (λj=>idxOf (τ k) j)=some x:=by
 cases x with
 |dead=>rfl
 |cells b e f a=>
  cases a with
  |true=>simp only[bP.ren,if_true]
  |false=>simp_all[bP.bY,bP.ren,w9]
 |map d c a=>
  cases a with
  |true=>simp only[bP.ren,if_true]
  |false=>simp_all[bP.bY,bP.ren,OS]
theorem G4 {k:Nat} {o:Store} (a:∀x∈o.take k,x.bY k=true) (c:k<=o.length):∀{n s:Nat},s+n=k->kO o (τ k) (ζx s n)=some ((o.take k).drop s)
 |0,s,h=>by
  grind[kO]
 |n+1,s,h=>by
  simp only[εw,kO]
  have d:s<o.length:=by omega
  have e:o[s]?=some o[s]:=ξ d
  rw[e,G4 a c (by omega)]
  have f:o[s]∈o.take k:=by
   rw[List.mem_take_iff_getElem]
   grind
  simp only[YU (a _ f),μ]
  congr 1
  have b:s<(o.take k).length:=by simp;omega
  rw[List.drop_eq_getElem_cons b]
  simp
theorem nodup_range':∀{n s:Nat},iC.pe (ζx s n)=true
 |0,_=>by simp[iC.pe]
 |n+1,s=>by
  simp only[εw,iC.pe,nodup_range',δX,Bool.not_eq_true']
  grind
theorem OT {k:Nat}:∀{a b:List AV},dZ k a=true->dZ k b=true->dZ k (a++b)=true
 |[],b,_,h=>h
 |x::a,b,h,c=>by
  simp only[dZ,θ] at h;simp only[γB,dZ,h.1,OT h.2 c,Bool.and_self]
theorem G5 {k:Nat}:∀{o:Store},(∀x∈o,x.bY k=true)->dZ k (o.flatMap lA.bP.yN)=true
 |[],_=>by simp[dZ]
 |x::o,h=>by
  simp only[δ8]
  refine OT ?_ (G5 λy a=>h y (by simp[a]))
  have b:=h x (by simp)
  cases x<;>grind[lA.bP.yN,dZ,bP.bY]
theorem OU {k:Nat} {r:AV} {o:Store} (e:r.bY k=true) (b:∀x∈o,x.bY k=true) (j:k<=o.length):lA k r o=some (r,o.take k):=by
 unfold lA;rw[G2 e,OM b]
 simp only
 have a:(fy (λi=>decide (k<=i)) 0 o).take k=o.take k:=by simpa using OO (k:=k) (o:=o) (i:=0)
 have d:∀{o:Store} {i:Nat},(fy (λi=>decide (k<=i)) i o).length=o.length:=by
  intro o
  induction o with
  |nil=>intro i;rfl
  |cons x o l=>simp_all[fy]
 have h:∀x∈o.take k,x.bY k=true:=λx g=>b x (List.mem_of_mem_take g)
 rw[a,OP (by grind[dZ,G5])]
 have f:iC.pe (τ k)=true:=by rw[δI];exact nodup_range'
 rw[if_pos f,Cf e]
 have c:=G4 (k:=k) (o:=fy (λi=>decide (k<=i)) 0 o) (by simp_all) (by simp_all) (n:=k) (s:=0) (by omega)
 rw[<-δI,a,δM] at c;rw[c]
theorem G6:∀{env:ff} {s:Nat} {v:SV},(jC env s).g=v.g->gE (wU env s v)=gE env
 |[],_,_,_=>rfl
 |p::r,s,v,h=>by
  simp only[wU,jC] at h ⊢
  cases a:δz p.1 s with
  |true=>
   simp_all[gE]
  |false=>
   rw[a] at h;simp only[cond_false] at h ⊢
   have:=G6 h
   grind[gE]
theorem YV {env:ff} {g:Option (Option Nat×Bool)} {K:ff->Bool->Prop} (h:Gp env g K):∃a w,gE a=gE env/\mh (gE env) g=some w/\K a w:=by
 unfold Gp at h;split at h
 ·exact⟨_,_,rfl,rfl,h⟩
 ·exact h.elim
 ·rename_i s b
  split at h
  ·grind[mh,nN,γF]
  ·rename_i c d
   cases c<;>grind[G6,mh,nN,γF]
  all_goals grind[mh,nN,γF,gL]
section
variable {call:cT} {p:iI}
theorem OV:∀{a b:bV},ji a b->gO a=gO b
 |[],[],_=>rfl
 |x::a,y::b,h=>by
  obtain⟨c,d⟩:=h
  have e:x.g=y.g:=c
  simp only[gO,ι,e]
  congr 1
  exact OV d
def vi:Trace->Trace->Prop
 |[],[]=>True
 |x::a,y::b=>(x.1=y.1/\x.2.1=y.2.1/\∀j∈x.2.2,j∈y.2.2)/\vi a b
 |_,_=>False
theorem vi.look:∀{a b:Trace} {i:Nat},vi a b->(pY a i).1=(pY b i).1/\∀j∈(pY a i).2,j∈(pY b i).2
 |[],[],_,_=>⟨rfl,λj h=>h⟩
 |(k,x)::a,(g,y)::b,i,h=>by
  obtain⟨⟨c,e,d⟩,f⟩:=h
  simp only at c e d
  subst c;simp only[pY];split
  ·exact⟨e,d⟩
  ·exact vi.look f
theorem YW {a b d c:List Nat} (f:∀j∈a,j∈d) (e:∀j∈b,j∈c) (h:wh d c=true):wh a b=true:=by
 grind[wh]
theorem YX {n:Nat} {a b:Trace} {c:List (Nat×Nat)} (h:vi a b) (d:sX n b c=true):sX n a c=true:=by
 unfold sX at d ⊢;rw[List.all_eq_true] at d ⊢;intro p e
 have l:=d p e
 obtain⟨g,k⟩:=h.look (i:=p.1)
 obtain⟨f,j⟩:=h.look (i:=p.2)
 grind[YW]
theorem G7 (u:pz call p.C) {base:Nat}:∀{d:List dm} {st:cn} {l:Trace} {K:cn->Trace->Prop},wV p base d st l K->
  ∃st' T,fS call base d st.g=some st'.g/\vi (mj call base d st.g) T/\K st' (T.reverse++l)
 |[],st,l,K,h=>⟨st,[],rfl,trivial,h⟩
 |i::r,st,l,K,h=>by
  simp only[wV] at h
  obtain⟨a,w,B,s,q⟩:=YV h
  have A:st.g=⟨gE a,gO st.o⟩:=by grind[cn.g]
  rw[<-B] at s
  cases w with
  |true=>
   simp only[if_true] at q
   obtain⟨v,y,E,c⟩:=YR u q
   have b:gV call base i st.g=some (cn.g ⟨uX a i.dst v,y⟩):=by
    grind[gV,On,yL,cn.g,Ol]
   have k:∀W:List Nat,(∀j∈ec call i.op (λx=>(jh a x).g) (gO st.o) (base+i.bB),j∈W)->
     wV p base r ⟨uX a i.dst v,y⟩ ((i.idx,dM i.op (λx=>(jh a x).g) (st.o.map bq.g) (base+i.bB),W)::l) K->
     ∃st' T,fS call base (i::r) st.g=some st'.g/\vi (mj call base (i::r) st.g) T/\K st' (T.reverse++l):=λW G c=>by
    obtain⟨st',T,D,z,F⟩:=G7 u c
    refine⟨st',(i.idx,dM i.op (λx=>(jh a x).g) (st.o.map bq.g) (base+i.bB),W)::T,by grind[fS],?_,?_⟩
    ·simp only[mj,b]
     rw[A];simp only[s,On]
     exact⟨⟨rfl,rfl,G⟩,z⟩
    simp_all
   unfold Oh at c;split at c
   ·rename_i f n t
    split at c
    ·obtain⟨H,c⟩:=c
     refine k [] (λj m=>?_) c
     rw[t] at E m
     have e:iC call f (n.map λx=>(jh a x).g) (gO st.o)=some (v.g,gO y):=by simp_all[bJ,gu]
     simp only[ec,e,List.mem_filter,decide_eq_true_eq] at m
     grind[OV]
    ·exact k _ (λj m=>F5 m) c
   ·exact k _ (λj m=>F5 m) c
  |false=>
   simp only[φ,if_false] at q
   obtain⟨st',T,D,z,F⟩:=G7 u q
   have b:gV call base i st.g=some (cn.g ⟨uX a i.dst (.bH []),st.o⟩):=by
    grind[gV,cn.g,Ol,γF,gL]
   refine⟨st',(i.idx,[],[])::T,by grind[fS],?_,?_⟩
   ·simp only[mj,b]
    rw[A];simp only[s]
    exact⟨⟨rfl,rfl,λj h=>h⟩,z⟩
   simp_all
theorem YY (k:Nat):gO (ε k .dead)=fU k:=by simp[gO,fU,bq.g]
theorem OW (a b:bV):gO (a++b)=gO a++gO b:=by simp[gO]
theorem YZ (x:bq):x.g.mN=x.mN:=by cases x<;>rfl
theorem Y0 (base:Nat) (o:bV):gO (Gq base o)=qQ base (gO o):=by
 unfold Gq qQ
 have:((gO o).drop base).all (·.mN)=(o.drop base).all (·.mN):=by
  simp only[gO,<-List.map_drop,ζU]
  grind[YZ]
 rw[this]
 cases(o.drop base).all (·.mN)
 ·rfl
 ·simp[gO]
theorem Y3 (i:pz call p.C) {k:Nat} {b:List dm} {a:List (Nat×Nat)} {st:cn} {K:cn->Prop} (h:Gs p k b a st K):∃st',pg call k b a st.g=some st'.g/\K st':=by
 unfold Gs at h
 obtain⟨st',T,f,j,d⟩:=G7 i h
 rw[List.append_nil,List.reverse_reverse] at d
 have e:(cn.mk st.env (st.o++ε k .dead)).g=⟨st.g.env,st.g.o++fU k⟩:=by simp[cn.g,OW,YY]
 rw[e] at f j
 have c:st.g.o.length=st.o.length:=by simp[cn.g,nO]
 split at d
 ·rename_i l
  refine⟨_,?_,d⟩
  simp only[pg,c];rw[f]
  simp only
  rw[if_pos (by
   grind[fU,YX])]
  grind[cn.g,Y0]
 simp_all
end
theorem Ci {v:SV}:isNil v=true↔v.g= .sc (.slice none 0 0):=by
 constructor
 ·intro h
  unfold isNil at h;split at h
  ·rfl
  ·cases h
 ·intro h
  cases v<;>simp only[γF,reduceCtorEq,γZ] at h
  subst h;rfl
section
variable {o:bV} {id:Nat} {s:bn} {l:List s.T} {e:TypeId}
def pid (id:Nat):Nat->Bool:=λi=>i==id
mutual
theorem OX (ho:o[id]?=some (.row s l e true)):∀{v:SV} {K:SV->Prop},jj id s l v K->∃v':SV,v.g.bT (gO o) (pid id)=some v'.g/\K v'
 | .ow j n sz,K,h=>by
  simp only[jj] at h;split at h
  ·rename_i hj
   subst hj;split at h
   ·rename_i hsz
    subst hsz
    obtain⟨rfl,hk⟩:=h
    refine⟨_,?_,hk⟩
    have htk:γd (l.length*s.sz) (cC s l)=cC s l:=γn (by rw[fe];omega)
    simp only[γF,AV.bT,pid,BEq.rfl,if_true,fz ho,bq.g,fe,Nat.zero_add,ψ,and_self,δM,htk]
   ·exact h.elim
  ·rename_i hj
   refine⟨_,?_,h⟩
   simp only[γF,AV.bT,pid,beq_iff_eq,if_neg hj]
 | .os j off len n sz,K,h=>by
  simp only[jj] at h;split at h
  ·rename_i hj
   subst hj;split at h
   ·rename_i hsz
    subst hsz
    obtain⟨rfl,hle,hk⟩:=h
    refine⟨_,?_,hk⟩
    have hm:(off+len)*s.sz<=l.length*s.sz:=γO _ hle
    rw[δ1] at hm
    have hll:((l.drop off).take len).length=len:=by simp;omega
    simp only[γF,AV.bT,pid,BEq.rfl,if_true,fz ho,bq.g,fe,hm,and_self,zo,hll]
   ·exact h.elim
  ·rename_i hj
   refine⟨_,?_,h⟩
   simp only[γF,AV.bT,pid,beq_iff_eq,if_neg hj]
 | .oc j off len n sz,K,h=>by
  simp only[jj] at h;split at h
  ·exact h.elim
  ·rename_i hj
   exact⟨_,by simp only[γF,AV.bT,pid,beq_iff_eq,if_neg hj],h⟩
 | .rp j i f n sz,K,h=>by
  simp only[jj] at h;split at h
  ·exact h.elim
  ·rename_i hj
   exact⟨_,by simp only[γF,AV.bT,pid,beq_iff_eq,if_neg hj],h⟩
 | .ptr j f t,K,h=>by
  simp only[jj] at h;split at h
  ·exact h.elim
  ·rename_i hj
   exact⟨_,by simp only[γF,AV.bT,pid,beq_iff_eq,if_neg hj],h⟩
 | .ap j a b c d i,K,h=>by
  simp only[jj] at h;split at h
  ·exact h.elim
  ·rename_i hj
   exact⟨_,by simp only[γF,AV.bT,pid,beq_iff_eq,if_neg hj],h⟩
 | .agg cs,K,h=>by
  simp only[jj] at h
  obtain⟨cs',h1,h2⟩:=vj ho h
  exact⟨_,by simp only[γF,AV.bT,h1,μ],h2⟩
 | .bH cs,K,h=>by
  simp only[jj] at h
  obtain⟨cs',h1,h2⟩:=vj ho h
  exact⟨_,by simp only[γF,AV.bT,h1,μ],h2⟩
 | .fn f a b,K,h=>by
  simp only[jj] at h
  obtain⟨a',h1,h2⟩:=vj ho h
  obtain⟨b',h3,h4⟩:=vj ho h2
  exact⟨_,by simp only[γF,AV.bT,h1,h3],h4⟩
 | .ud,K,h=>⟨.ud,by simp only[γF,AV.bT],by simpa only[jj] using h⟩
 | .sc v,K,h=>⟨.sc v,by simp only[γF,AV.bT],by simpa only[jj] using h⟩
 | .il k n,K,h=>⟨.il k n,by simp only[γF,AV.bT],by simpa only[jj] using h⟩
 | .si k n,K,h=>⟨.si k n,by simp only[γF,AV.bT],by simpa only[jj] using h⟩
 | .bl b,K,h=>⟨.bl b,by simp only[γF,AV.bT],by simpa only[jj] using h⟩
 | .sb b,K,h=>⟨.sb b,by simp only[γF,AV.bT],by simpa only[jj] using h⟩
 | .row s l,K,h=>⟨.row s l,by simp only[γF,AV.bT],by simpa only[jj] using h⟩
 | .ep s l i f,K,h=>⟨.ep s l i f,by simp only[γF,AV.bT],by simpa only[jj] using h⟩
 | .mp i,K,h=>⟨.mp i,by simp only[γF,AV.bT],by simpa only[jj] using h⟩
 | .ia t cs,K,h=>⟨.ia t cs,by simp only[γF,AV.bT],by simpa only[jj] using h⟩
 | .ite c a b,K,h=>⟨.ite c a b,by simp only[γF,AV.bT],by simpa only[jj] using h⟩
theorem vj (ho:o[id]?=some (.row s l e true)):∀{cs:List SV} {K:List SV->Prop},rb id s l cs K->∃cs':List SV,gG (gO o) (pid id) (gL cs)=some (gL cs')/\K cs'
 |[],K,h=>⟨[],by simp[gL,gG],by simpa only[rb] using h⟩
 |c::cs,K,h=>by
  simp only[rb] at h
  obtain⟨c',h1,h2⟩:=OX ho h
  obtain⟨cs',h3,h4⟩:=vj ho h2
  exact⟨c'::cs',by simp only[gL,gG,h1,h3],h4⟩
end
theorem G8 (b:o[id]?=some (.row s l e true)):∀{env:ff} {K:ff->Prop},zh id s l env K->∃a,uI (gO o) (pid id) (gE env)=some (gE a)/\K a
 |[],K,h=>⟨[],rfl,h⟩
 |(k,v)::r,K,h=>by
  simp only[zh] at h
  obtain⟨f,d,c⟩:=OX b h
  obtain⟨j,g,i⟩:=G8 b c
  grind[gE,uI]
theorem Cj {o:Store} {q:Nat->Bool}:∀{cs:List AV},(∀a∈cs,Plain a)->gG o q cs=some cs
 |[],_=>by simp[gG]
 |a::cs,h=>by
  have d:=Cj (o:=o) (q:=q) (cs:=cs) λb c=>h b (by simp[c])
  rcases h a (by simp) with⟨v,rfl,_⟩|⟨n,e,rfl,_⟩<;>simp only[gG,AV.bT,d]
theorem G9 {o:Store} {q:Nat->Bool}:∀{es:List (Value×AV)},(∀a∈es,∃v,a.2= .sc v)->pZ o q es=some es
 |[],_=>by simp[pZ]
 |(k,a)::es,h=>by
  obtain⟨v,b⟩:=h (k,a) (by simp)
  simp only at b
  subst b
  simp only[pZ,AV.bT,G9 (es:=es) λa c=>h a (by simp[c])]
theorem sd (j:o[id]?=some (.row s l e true)):∀{i:Nat} {r:bV} {K:bV->Prop},nL id s l i r K->∃r' mid,jf (gO o) (pid id) (gO r)=some mid/\fy (pid id) i mid=gO r'/\K r'
 |i,[],K,h=>⟨[],[],rfl,rfl,h⟩
 |i,x::r,K,h=>by
  cases x with
  |dead=>
   simp only[nL] at h
   obtain⟨r',mid,w,n,f⟩:=sd j h
   grind[gO,bq.g,jf,bP.bT,fy]
  |cells N p F d=>
   simp only[nL] at h
   cases d with
   |true=>
    simp only[if_true] at h;split at h
    ·exact h.elim
    ·rename_i B
     obtain⟨r',mid,w,n,f⟩:=sd j h
     refine⟨_,.cells (gL N) p F true::mid,?_,?_,f⟩
     all_goals simp_all[gO,bq.g,jf,bP.bT,fy,pid]
   |false=>
    simp only[φ,if_false] at h
    obtain⟨A,z,k⟩:=vj j h
    obtain⟨r',mid,w,n,f⟩:=sd j k
    refine⟨_,.cells (gL A) p F false::mid,?_,?_,f⟩
    all_goals simp_all[gO,bq.g,jf,bP.bT,fy]
  |oz v u p t=>
   simp only[nL] at h;split at h
   ·exact h.elim
   ·obtain⟨O,z,k⟩:=vj j h
    split at k
    ·rename_i m M
     obtain⟨L,_⟩:=Cd M
     obtain⟨r',mid,w,n,f⟩:=sd j k
     refine⟨_,(bq.row v (u++m) p false).g::mid,?_,?_,f⟩
     ·simp only[gO,ι,bq.g] at w z ⊢
      have G:∀(a b c:List AV),gG (γh bq.g o) (pid id) a=some a->gG (γh bq.g o) (pid id) b=some c->gG (γh bq.g o) (pid id) (a++b)=some (a++c):=λa b c w n=>by
       induction a<;>grind[gG]
      have P:gG (γh bq.g o) (pid id) (cC v u)=some (cC v u):=Cj (λa C=>mX C)
      simp_all[jf,bP.bT,Oa]
     ·simp only[bq.g,fy,n];rfl
    simp_all
  |row v u p d=>
   simp only[nL] at h
   have y:(bq.row v u p d).g.bT (gO o) (pid id)=some (bq.row v u p d).g:=by
    cases d with
    |true=>simp only[bq.g,bP.bT,if_true]
    |false=>
     simp only[bq.g,bP.bT,φ,if_false]
     grind[Cj,mX]
   split at h
   ·rename_i B
    cases d with
    |false=>simp_all
    |true=>
     simp only[if_true] at h
     obtain⟨r',mid,w,n,f⟩:=sd j h
     refine⟨_,(bq.row v u p true).g::mid,?_,?_,f⟩
     all_goals simp_all[gO,jf,bq.g,fy,pid]
   ·rename_i B
    obtain⟨r',mid,w,n,f⟩:=sd j h
    refine⟨_,(bq.row v u p d).g::mid,?_,?_,f⟩
    ·grind[gO,jf]
    ·cases d<;>simp only[bq.g,fy,n,pid,beq_iff_eq,if_neg B]<;>rfl
  |map H D I E J d=>
   simp only[nL] at h
   have y:(bq.map H D I E J d).g.bT (gO o) (pid id)=some (bq.map H D I E J d).g:=by
    cases d with
    |true=>simp only[bq.g,bP.bT,if_true]
    |false=>
     simp only[bq.g,bP.bT,φ,if_false]
     rw[G9 (λa C=>by obtain⟨q,_,rfl⟩:=γf.1 C;exact⟨_,rfl⟩),μ]
   obtain⟨r',mid,w,n,f⟩:=sd j h
   grind[gO,jf,bq.g,fy]
end
theorem Y4 {v:SV}:(∃id,tK.wW v=some id/\∃a b c,v.g= .os id a b c)\/(tK.wW v=none/\∀id a b c,v.g≠ .os id a b c):=by
 cases v<;>simp[tK.wW,γF]
theorem OY {p:iI} {lo:Nat} {h:km} {st:cn} {K:cn->Prop} {v:SV} (t:h.own=false) (f:Bf h st.g=some v.g)
  (d:match tK.wW v with
   |some id=>if Nat.ble lo id then(match st.o[id]? with
    |some (.row s l e pu)=>zh id s l st.env λenv=>nL id s l 0 (if pu then st.o else st.o.set id (.row s l e true)) λo=>K ⟨env,o⟩
    |_=>False) else K st
   |none=>K st):∃st',jR lo h st.g=st'.g/\K st':=by
 let _:=p
 unfold jR
 rw[if_neg (by simp[t]),f]
 rcases @Y4 v with⟨id,w,a,b,c,x⟩|⟨w,x⟩
 ·rw[w] at d
  rw[x]
  simp only at d ⊢
  split at d
  ·rename_i q
   rw[if_pos q];split at d
   ·rename_i s l e pu m
    have D:(λi=>i==id)=pid id:=rfl
    cases pu with
    |true=>
     simp only[if_true] at d
     obtain⟨j,A,n⟩:=G8 m d
     obtain⟨B,u,C,y,r⟩:=sd m n
     refine⟨_,?_,r⟩
     simp_all[yM,cn.g,fz,bq.g,Bi]
    |false=>
     simp only[φ,if_false] at d
     have z:id<st.o.length:=(ζ.1 m).1
     have k:(st.o.set id (.row s l e true))[id]?=some (.row s l e true):=by simp_all
     obtain⟨j,A,n⟩:=G8 (o:=st.o.set id (.row s l e true)) k d
     obtain⟨B,u,C,y,r⟩:=sd k n
     refine⟨_,?_,r⟩
     simp_all[yM,cn.g,fz,bq.g,qg,qh,Bi]
   simp_all
  grind
 grind
section
variable {p:iI} {lo:Nat}
theorem Y5 {h:km} {st:cn} {K:cn->Prop} (a:tK p lo h st K):∃st',jR lo h st.g=st'.g/\K st':=by
 unfold tK at a;split at a
 ·rename_i f
  unfold jR;rw[if_pos f];unfold Bh;split at a
  ·rename_i b
   simp only[b];split at a
   ·rename_i r
    have t:=Ci.1 r
    rw[<-nN] at t
    have B:dF st.g.env h.slot= .sc (.slice none 0 0):=t
    rw[B];split at a
    ·rename_i s J
     split at a
     ·rename_i w
      refine⟨_,?_,a⟩
      simp[cn.g,gE,gO,γF,bq.g,cC,w]
     simp_all
    simp_all
   ·rename_i r
    split at a
    ·rename_i z
     split at a
     ·rename_i m G D d
      have n:dF st.g.env h.slot= .os m 0 G (G*D):=by
       show dF (gE st.env) h.slot=_
       rw[nN,d];rfl
      rw[n];split at a
      ·rename_i s l e y
       refine⟨_,?_,a⟩
       simp_all[Bg,cn.g,fz,bq.g,qh]
      simp_all
     simp_all
    ·rename_i z
     refine⟨st,?_,a⟩
     split
     ·rename_i L
      have:dF (gE st.env) h.slot= .sc (.slice none 0 0):=L
      grind[nN,Ci]
     all_goals simp_all
  ·rename_i k b
   simp only[b];split at a
   ·rename_i m c j d
    have n:dF st.g.env h.slot= .ptr m c j:=by
     show dF (gE st.env) h.slot=_
     rw[nN,d];rfl
    rw[n];split at a
    ·rename_i i e F E y
     have u:st.g.o[m]?=some (.cells (gL i) e F E):=fz y
     simp only[u];split at a
     ·rename_i r
      cases C:i[c+k]? with
      |none=>simp_all
      |some v=>
       rw[C] at r;simp only[Option.any_some] at r
       have M:=Ci.1 r
       have A:(gL i)[c+k]?=some (.sc (.slice none 0 0)):=by grind[tL]
       simp only[A,jD];split at a
       ·rename_i I
        rw[if_pos I];split at a
        ·rename_i s J
         split at a
         ·rename_i w
          refine⟨_,?_,a⟩
          have N:gL (i.set (c+k) (.ow st.o.length 0 h.sz))=(gL i).set (c+k) (.os st.o.length 0 0 0):=by
           simp_all[fV,γF]
          simp_all[cn.g,bq.g,gO,cC]
         simp_all
        simp_all
       simp_all
     grind[tL,Ci]
    simp_all
   simp_all
 ·rename_i f
  have f:h.own=false:=by simpa using f
  unfold tK.Oi at a
  cases b:h.off with
  |none=>
   rw[b] at a
   simp only at a
   refine OY (p:=p) (v:=jC st.env h.slot) f ?_ ?_
   all_goals grind[Bf,cn.g,nN]
  |some k=>
   rw[b] at a
   simp only at a
   cases q:jC st.env h.slot with
   |ptr m c j=>
    rw[q] at a
    simp only at a
    cases y:st.o[m]? with
    |none=>simp_all
    |some x=>
     rw[y] at a
     cases x with
     |cells i e F E=>
      simp only at a
      by_cases H:i.length=j
      ·rw[if_pos H] at a
       cases C:i[c+k]? with
       |none=>simp_all
       |some v=>
        rw[C] at a
        refine OY (p:=p) (v:=v) f ?_ ?_
        ·unfold Bf
         rw[b]
         have:dF st.g.env h.slot= .ptr m c j:=by
          show dF (gE st.env) h.slot=_
          rw[nN,q];rfl
         have u:st.g.o[m]?=some (.cells (gL i) e F E):=fz y
         simp_all[behind,jD,tL]
        grind
      simp_all
     |_=>exact a.elim
   |_=>rw[q] at a;exact a.elim
theorem Ha:∀{hs:List km} {st:cn} {K:cn->Prop},zi p lo hs st K->∃st',hs.foldl (λs h=>jR lo h s) st.g=st'.g/\K st'
 |[],st,K,h=>⟨st,rfl,h⟩
 |h::hs,st,K,hk=>by
  simp only[zi] at hk
  obtain⟨st1,h1,h2⟩:=Y5 hk
  obtain⟨st2,h3,h4⟩:=Ha h2
  exact⟨st2,by rw[List.foldl_cons,h1,h3],h4⟩
theorem Y6 (a:List Nat) (env:ff):gE (Gt a env)=prune a (gE env):=by
 simp[Gt,prune,gE,<-nN]
theorem He (k:Nat) (st:cn):(trimS k st).g=trim k st.g:=by
 unfold trimS trim
 have b:st.g.o.length=st.o.length:=by simp[cn.g,nO]
 have c:(st.g.env.all λp=>p.2.bY k)=(st.env.all λp=>p.2.bY k):=by
  simp only[cn.g,gE,ζU]
  grind[zm]
 have d:((st.g.o.take k).all λx=>x.bY k)=((st.o.take k).all λx=>x.bY k):=by
  simp only[cn.g,gO,<-List.map_take,ζU]
  grind[B9]
 rw[b,c,d]
 by_cases a:st.o.length<=k
 ·simp_all
 ·rw[if_neg a,if_neg a]
  split
  ·simp[cn.g,gO]
  ·rfl
variable {T:Tab}
theorem OZ {v:Int} {n:Nat} {K:Nat->Prop}:∀{j:Nat},j<=n->splitN v n K j->(n - j:Nat)<=v->∃i:Nat,v=i/\K i
 |0,_,h,a=>by
  grind[splitN]
 |j+1,c,h,a=>by
  simp only[splitN] at h
  by_cases b:v=(n - (j+1):Nat)
  ·grind
  ·exact OZ (by omega) h.2 (by omega)
theorem O0 {v:Int} {n:Nat} {K:Nat->Prop}:∀{j:Nat},splitN v n K j->0<=v
 |0,h=>h.1
 |j+1,h=>O0 h.2
theorem Y7 {x:Option (Nat×Nat×Nat)} {st:cn} {K:cn->Prop} (h:splitK x st K):∃st',st'.g=st.g/\K st':=by
 unfold splitK at h;split at h
 ·grind
 ·rename_i p a n
  split at h
  ·rename_i c e q r b
   split at h
   ·rename_i k v o
    obtain⟨i,rfl,f⟩:=OZ (ψ _) h (by have:=O0 h;omega)
    refine⟨_,?_,f⟩
    have l:gL (c.set a (.il k i))=gL c:=by
     rw[fV,fV,List.map_set]
     apply δc
     grind[γF]
    simp only[cn.g,qh,bq.g,l,cn.mk.injEq,St.mk.injEq,true_and]
    apply δc
    intro j;rw[List.getElem?_set];split
    ·rename_i d
     subst d
     have m:=(ζ.1 b).1
     rw[if_pos (by grind[nO]),GK,b]
     rfl
    ·rfl
   simp_all
  simp_all
theorem O1:∀{e a:ff},wX e a->gE e=gE a
 |[],[],_=>rfl
 |[],_::_,h=>by grind[wX]
 |_::_,[],h=>by grind[wX]
 |(k,v)::e,(d,c)::a,h=>by
  simp only[wX] at h;split at h
  ·rename_i b
   subst b
   have:=O1 h.2
   simp only[gE,ι] at this ⊢;rw[this,show v.g=c.g from h.1]
  simp_all
theorem xd:∀{o o':bV},ji o o'->gO o=gO o'
 |[],[],_=>rfl
 |[],_::_,h=>by grind[ji]
 |_::_,[],h=>by grind[ji]
 |x::o,y::o',h=>by
  simp only[ji] at h
  have:=xd h.2
  simp only[gO,ι] at this ⊢;rw[this,show x.g=y.g from h.1]
theorem Cm {s t:cn} (h:zj s t):s.g=t.g:=by
 simp only[cn.g,O1 h.1,xd h.2]
theorem af8 (env:ff) (args:List Operand):args.map (eE (gE env))=gL (args.map (jh env)):=by
 simp_all[fV,zl]
theorem vk (hC:pz T.K p.C) (hI:∀f F,p.it f=some F->T.fn f=some F):∀{c:IR} {Λ:Nat->cB} {st:cn} {Q:Out->cn->Prop},wpS p lo c Λ st Q->VW T zb lo c st.g λout s=>∃ss,s=ss.g/\Q out ss:=by
 intro c
 induction c with
 |skip=>intro Λ st Q h;exact VW.skip ⟨st,rfl,h⟩
 |exit id=>intro Λ st Q h;exact VW.exit ⟨st,rfl,h⟩
 |ret=>intro Λ st Q h;exact VW.ret ⟨st,rfl,h⟩
 |goto l=>intro Λ st Q h;exact VW.goto ⟨st,rfl,h⟩
 |om x a b iha ihb=>
  intro Λ st Q h;simp only[wpS] at h
  have hx:eE st.g.env x=(jh st.env x).g:=zl _ _
  split at h
  ·rename_i he
   rw[he] at hx
   exact VW.om hx (by rw[if_pos rfl];exact iha h)
  ·rename_i he
   rw[he] at hx
   exact VW.om hx (by rw[if_neg (by simp)];exact ihb h)
  ·rename_i c he
   rw[he] at hx
   have hset:∀v:SV,(SV.sb c).g=v.g->(cn.mk (B6 st.env x v) st.o).g=st.g:=λv hv=>by
    cases x with
    |tmp t=>
     have:jC st.env t= .sb c:=he
     simp only[cn.g,B6]
     rw[G6 (by rw[this];exact hv)]
    |_=>rfl
   refine VW.om hx ?_
   cases c with
   |true=>
    have:=iha (h.1 rfl)
    rw[hset (.bl true) rfl] at this
    rw[if_pos rfl];exact this
   |false=>
    have:=ihb (h.2 rfl)
    rw[hset (.bl false) rfl] at this
    rw[if_neg (by simp)];exact this
  ·exact h.elim
 |turns l b ih=>
  intro Λ st Q h
  cases l with
  |none=>
   simp only[wpS] at h
   refine VW.Yn ((ih h).mono ?_)
   rintro out s ⟨ss,rfl,h2⟩
   cases out with
   |norm=>exact⟨by simp,ss,rfl,h2⟩
   |exit id=>exact⟨by simp,ss,rfl,h2⟩
   |ret=>exact⟨by simp,ss,rfl,h2⟩
   |goto l=>exact h2.elim
  |some l=>
   simp only[wpS] at h;split at h
   ·rename_i X shape next J m inner _
    obtain⟨⟨h0,hx⟩,hstep⟩:=h
    refine VW.Yo (λk s=>∃x,s=(shape x).g/\J x/\m x=k) ?_ (m (next st)) _ ⟨next st,Cm h0,hx,rfl⟩
    rintro k s ⟨x,rfl,hj,rfl⟩
    refine(ih (hstep x hj)).mono ?_
    rintro out s ⟨ss,rfl,h2⟩
    cases out with
    |goto l'=>
     obtain⟨rfl,h3,h4,h5⟩:=h2
     refine .inl ⟨rfl,_,h5,_,?_,h4,rfl⟩
     have h6:=Cm h3
     rw[<-h6,He,show(shape x).o.length=(shape x).g.o.length from by simp[cn.g,nO]]
    |norm=>exact .inr ⟨by simp,ss,rfl,h2⟩
    |exit id=>exact .inr ⟨by simp,ss,rfl,h2⟩
    |ret=>exact .inr ⟨by simp,ss,rfl,h2⟩
   ·exact h.elim
 |region id draw k ops kn live pre post=>
  intro Λ st Q h;simp only[wpS] at h
  obtain⟨st0,h0,h⟩:=Y7 h
  obtain⟨st1,h1,h2⟩:=Ha h
  obtain⟨st2,h3,h4⟩:=Y3 hC h2
  obtain⟨Gw,h5,h6⟩:=Ha h4
  refine VW.region ?_
  rw[<-h0,h1,h3]
  refine⟨Gw,?_,h6⟩
  rw[<-h5];simp only[cn.g,Y6]
 |sV g caps d a b _ _=>intro Λ st Q h;exact h.elim
 |seq a b iha ihb=>
  intro Λ st Q h;simp only[wpS] at h
  refine VW.seq ((iha h).mono ?_)
  rintro out s ⟨ss,rfl,h2⟩
  cases out with
  |norm=>rw[if_pos rfl];exact ihb h2
  |exit id=>rw[if_neg (by simp)];exact⟨ss,rfl,h2⟩
  |ret=>rw[if_neg (by simp)];exact⟨ss,rfl,h2⟩
  |goto l=>rw[if_neg (by simp)];exact⟨ss,rfl,h2⟩
 |cond x a b iha ihb=>
  intro Λ st Q h;simp only[wpS] at h
  have hx:eE st.g.env x=(jh st.env x).g:=zl _ _
  have hdr:(cn.mk (wY x st.env) st.o).g=⟨po x st.g.env,st.g.o⟩:=by
   have:∀(t:Nat) (env:ff),(zk t env).map (λp=>(p.1,p.2.g))=qU t (env.map λp=>(p.1,p.2.g)):=by
    intro t env
    induction env with
    |nil=>rfl
    |cons p env ih=>
     simp only[zk,qU,ι]
     cases δz p.1 t with
     |true=>simpa using ih
     |false=>simpa using ih
   cases x with
   |tmp t=>simp only[cn.g,gE,wY,po];rw[this]
   |_=>rfl
  split at h
  ·rename_i he
   rw[he] at hx
   exact VW.cond hx (by rw[if_pos rfl,<-hdr];exact iha h)
  ·rename_i he
   rw[he] at hx
   exact VW.cond hx (by rw[if_neg (by simp),<-hdr];exact ihb h)
  ·rename_i c he
   rw[he] at hx
   refine VW.cond hx ?_
   cases c with
   |true=>rw[if_pos rfl,<-hdr];exact iha (h.1 rfl)
   |false=>rw[if_neg (by simp),<-hdr];exact ihb (h.2 rfl)
  ·exact h.elim
 |block id b ih=>
  intro Λ st Q h;simp only[wpS] at h
  exact VW.block ((ih h).mono λout s ⟨ss,e,h2⟩=>⟨ss,e,h2⟩)
 |loop b ih=>
  intro Λ st Q h;simp only[wpS] at h;split at h
  ·rename_i n Y8
   clear Y8
   induction n generalizing st with
   |zero=>exact h.elim
   |succ n ihn=>
    simp only[Gv] at h
    refine VW.loop ((ih h).mono ?_)
    rintro out s ⟨ss,rfl,h2⟩
    cases out with
    |norm=>
     rw[if_pos rfl]
     have:=ihn h2
     rwa [He,show st.o.length=st.g.o.length from by simp[cn.g,nO]] at this
    |exit id=>rw[if_neg (by simp)];exact⟨ss,rfl,h2⟩
    |ret=>rw[if_neg (by simp)];exact⟨ss,rfl,h2⟩
    |goto l=>rw[if_neg (by simp)];exact⟨ss,rfl,h2⟩
  ·exact h.elim
  ·rename_i X shape next J m inner _
   obtain⟨⟨h0,hx⟩,hstep⟩:=h
   refine VW.Ym (λk s=>∃x,s=(shape x).g/\J x/\m x=k) ?_ (m (next st)) _ ⟨next st,Cm h0,hx,rfl⟩
   rintro k s ⟨x,rfl,hj,rfl⟩
   refine(ih (hstep x hj)).mono ?_
   rintro out s ⟨ss,rfl,h2⟩
   cases out with
   |norm=>
    rw[if_pos rfl]
    obtain⟨h3,h4,h5⟩:=h2
    refine⟨_,h5,_,?_,h4,rfl⟩
    have h6:=Cm h3
    rw[<-h6,He,show(shape x).o.length=(shape x).g.o.length from by simp[cn.g,nO]]
   |exit id=>rw[if_neg (by simp)];exact⟨ss,rfl,h2⟩
   |ret=>rw[if_neg (by simp)];exact⟨ss,rfl,h2⟩
   |goto l=>rw[if_neg (by simp)];exact⟨ss,rfl,h2⟩
theorem O2 {st:cn}:∀{a:List mQ} {K:List SV->Prop},nM.goK st a K->∃l,a.mapM (qR st.g)=some (gL l)/\K l
 |[],K,h=>⟨[],by simp[gL],h⟩
 |r::a,K,h=>by
  simp only[nM.goK] at h
  have b:∃v,qR st.g r=some v.g/\nM.goK st a λl=>K (v::l):=by
   unfold nM.Oj at h;unfold qR;split at h
   ·rename_i c
    rw[c]
    exact⟨_,by grind[cn.g,nN],h⟩
   grind[Ox,cn.g,nN]
  obtain⟨v,i,d⟩:=b
  obtain⟨l,f,e⟩:=O2 d
  exact⟨v::l,by simp_all[gL],e⟩
theorem xe {st:cn} {b:List mQ} {K:SV->Prop} (h:nM st b K):∃r,nG st.g b=some r.g/\K r:=by
 unfold nM at h
 obtain⟨l,c,a⟩:=O2 h
 unfold nG;rw[c]
 match l,a with
 |[],a=>exact⟨_,rfl,a⟩
 |[v],a=>exact⟨v,rfl,a⟩
 |v::w::l,a=>exact⟨_,rfl,a⟩
theorem vl:∀(i:Nat) (args:List SV),gE (mZ i args)=gW i (gL args)
 |_,[]=>rfl
 |i,v::a=>by
  have:=vl (i+1) a
  grind[gE,mZ,gL,gW]
theorem CB {Λ:Nat->cB} {P:Program} (hT:kq P T) (hC:pz T.K p.C) (hI:∀f F,p.it f=some F->T.fn f=some F) {f:FuncId} {F:fb} (hF:T.fn f=some F) {args:List SV} {r:AV} (hK:T.K f (gL args) [] false=none) (hlen:args.length=F.params)
  {Q:SV->Prop} (hQ:∀v,Q v->v.g=r) (h:sa p Λ F args Q):gI P f=true/\lh P f (gL args) [] r []:=by
 unfold sa at h
 have hw:=vk hC hI h
 have hst:(cn.mk (mZ 0 args) []).g=⟨gW 0 (gL args),[]⟩:=by simp[cn.g,vl,gO]
 rw[hst] at hw
 obtain⟨h1,h2,_⟩:=BV hT hF (o:=[]) (own:=false) hK (by rw[jD];exact hlen) (v:=r) (o':=[]) (hw.mono λout s hs=>by
  obtain⟨ss,rfl,hq⟩:=hs
  cases out with
  |exit id=>exact hq.elim
  |goto l=>exact hq.elim
  |norm=>
   obtain⟨r0,h1,h2⟩:=xe hq
   obtain⟨v,h3,h4⟩:=GM h2
   refine⟨.inl rfl,?_⟩
   rw[h1]
   show finish false 0 r0.g ss.g.o=_
   have:freeze ss.g.o 6 r0.g=some v.g:=h3
   simp[finish,this,hQ _ h4]
  |ret=>
   obtain⟨r0,h1,h2⟩:=xe hq
   obtain⟨v,h3,h4⟩:=GM h2
   refine⟨.inr rfl,?_⟩
   rw[h1]
   show finish false 0 r0.g ss.g.o=_
   have:freeze ss.g.o 6 r0.g=some v.g:=h3
   simp[finish,this,hQ _ h4])
 exact⟨h1,h2⟩
end
structure pA (α:Type) where
 put:α->SV
 dec:SV->Option α
 ok:∀v a,dec v=some a->v.g=(put a).g
 inj:∀a b,(put a).g=(put b).g->a=b
structure qj (α:Type) where
 put:α->List SV
 dec:List SV->Option α
 ok:∀v a,dec v=some a->gL v=gL (put a)
 inj:∀a b,gL (put a)=gL (put b)->a=b
def qj.one {d:Type} (c:pA d):qj d where
 put a:=[c.put a]
 dec
  |[v]=>c.dec v
  |_=>none
 ok v a h:=by
  match v,h with
  |[v],h=>simp only[gL,c.ok v a h]
 inj a b h:=by
  simp only[gL,π,and_true] at h
  exact c.inj a b h
def qj.cons {f g:Type} (c:pA f) (d:qj g):qj (f×g) where
 put a:=c.put a.1::d.put a.2
 dec
  |v::e=>match c.dec v,d.dec e with
   |some a,some b=>some (a,b)
   |_,_=>none
  |[]=>none
 ok v a h:=by
  match v,h with
  |v::e,h=>
   simp only at h
   split at h
   ·rename_i x y j i
    simp only[γ] at h;subst h
    simp only[gL,c.ok v x j,d.ok e y i]
   ·cases h
 inj a b h:=by
  simp only[gL,π] at h
  exact Prod.ext (c.inj _ _ h.1) (d.inj _ _ h.2)
def qj.nil:qj Unit where
 put _:=[]
 dec
  |[]=>some ()
  |_=>none
 ok v a h:=by
  grind
 inj a b h:=rfl
structure bM where
 f:FuncId
 α:Type
 A:qj α
 dom:α->Prop
 res:α->SV
def Holds (P:Program) (c:bM):Prop:=∀a,c.dom a->gI P c.f=true/\lh P c.f (gL (c.A.put a)) [] (c.res a).G []
def oH (f:FuncId):List bM->Option bM
 |[]=>none
 |c::r=>bif δz c.f f then some c else oH f r
def vm (L:List bM) (f:FuncId) (args:List SV) (K:SV->Prop):Prop:=
 match oH f L with
 |some c=>iJ (c.A.dec args) λa=>c.dom a/\B5 (c.res a) K
 |none=>False
structure mB where
 K:FuncId->List AV->Store->Option (AV×Store)
 C:FuncId->List SV->bV->(SV->bV->Prop)->Prop
def mB.none:mB:=⟨λ_ _ _=> .none,λ_ _ _ _=>False⟩
noncomputable def sf (L:List bM) (W:mB):cT:=λf args o own=>
 if own then W.K f args o
 else match o with
  |[]=>match oH f L with
   |some c=>(ans (λa=>gL (c.A.put a)) c.dom (λa=>(c.res a).G) args).map λv=>(v,[])
   |none=> .none
  |_=> .none
noncomputable def qk (a:FuncId->Option fb) (L:List bM) (W:mB):Tab:=⟨a,sf L W⟩
structure pB (P:Program) (W:mB):Prop where
 K:∀f args o r o',W.K f args o=some (r,o')->gI P f=true/\lh P f args o r o'
 C:∀(call:cT),(∀f args o,call f args o true=W.K f args o)->∀f args o K,W.C f args o K->∃(r:SV) (o':bV),iC call f (gL args) (gO o)=some (r.g,gO o')/\K r o'
theorem pB.none (P:Program):pB P mB.none where
 K:=λ_ _ _ _ _ h=>by cases h
 C:=λ_ _ _ _ _ _ h=>h.elim
theorem O3:∀{L:List bM} {f:FuncId} {c:bM},oH f L=some c->c.f=f/\c∈L
 |[],_,_,h=>by cases h
 |d::L,f,c,h=>by
  simp only[oH] at h
  cases a:δz d.f f with
  |true=>
   simp_all
  |false=>
   rw[a] at h;simp only[cond_false] at h
   obtain⟨b,e⟩:=O3 h
   simp_all
theorem Hf:∀{v:SV} {K:SV->Prop},B5 v K->∃w:SV,w.g=v.G/\K w
 | .ite c a b,K,h=>by
  cases c with
  |true=>exact Hf (v:=a) (h.1 rfl)
  |false=>exact Hf (v:=b) (h.2 rfl)
 | .ud,_,h| .sc _,_,h| .il _ _,_,h| .si _ _,_,h| .bl _,_,h| .sb _,_,h| .agg _,_,h| .bH _,_,h| .row _ _,_,h| .ep _ _ _ _,_,h| .ptr _ _ _,_,h| .ap _ _ _ _ _ _,_,h| .rp _ _ _ _ _,_,h| .ow _ _ _,_,h| .os _ _ _ _ _,_,h| .oc _ _ _ _ _,_,h| .mp _,_,h| .fn _ _ _,_,h| .ia _ _,_,h=>⟨_,rfl,h⟩
theorem xf:∀{w v:SV},v.r7 w->v.g=w.G
 | .ite c a b,v,h=>by
  cases c with
  |true=>exact xf (w:=a) (h.1 rfl)
  |false=>exact xf (w:=b) (h.2 rfl)
 | .ud,_,h| .sc _,_,h| .il _ _,_,h| .si _ _,_,h| .bl _,_,h| .sb _,_,h| .agg _,_,h| .bH _,_,h| .row _ _,_,h| .ep _ _ _ _,_,h| .ptr _ _ _,_,h| .ap _ _ _ _ _ _,_,h| .rp _ _ _ _ _,_,h| .ow _ _ _,_,h| .os _ _ _ _ _,_,h| .oc _ _ _ _ _,_,h| .mp _,_,h| .fn _ _ _,_,h| .ia _ _,_,h=>h
variable {P:Program} {L:List bM} {W:mB} {fn:FuncId->Option fb}
theorem tO (j:pB P W) (k:∀c∈L,Holds P c) (n:kq P ⟨fn,λ_ _ _ _=>none⟩):kq P (qk fn L W) where
 fn:=n.fn
 K:=λg e o b r q h=>by
  simp only[qk,sf] at h
  cases b with
  |true=>
   simp only[if_true] at h
   obtain⟨p,d⟩:=j.K _ _ _ _ _ h
   simp_all
  |false=>
   simp only[φ,if_false] at h;split at h
   ·split at h
    ·rename_i c l
     obtain⟨rfl,f⟩:=O3 l
     obtain⟨v,m,d⟩:=δ.1 h
     simp only[Prod.mk.injEq] at d
     obtain⟨rfl,rfl⟩:=d
     obtain⟨a,rfl,i,rfl⟩:=Yq m
     obtain⟨t,s⟩:=k c f a i
     simp_all
    ·cases h
   ·cases h
theorem tP (hW:pB P W):pz (qk fn L W).K ⟨vm L,W.C⟩ where
 pure:=λf args K h=>by
  simp only[vm] at h;split at h
  ·rename_i c hc
   obtain⟨a,h1,h2,h3⟩:=iT h
   obtain⟨r,h4,h5⟩:=Hf h3
   refine⟨r,?_,h5⟩
   have:=c.A.ok _ _ h1
   simp only[qk,sf,φ,if_false,hc,this];rw[Yp (enc:=λa=>gL (c.A.put a)) c.A.inj h2,h4];rfl
  ·exact h.elim
 own:=λf args o K h=>hW.C _ (λf args o=>by simp[qk,sf]) f args o K h
theorem CC {f:FuncId} {args:List AV} (h:oH f L=none):(qk fn L W).K f args [] false=none:=by
 simp[qk,sf,h]
def lJ (L:List bM) (W:mB) (a:TypeId->Option bn) (c:List Nat×Bool->Option (bn×bn)) (b:FuncId->Option fb):iI:=⟨⟨vm L,W.C⟩,a,c,λ_=>none,b,λ_=>false⟩
theorem holds_of (c:bM) {F:fb} {ty:TypeId->Option bn} {mt:List Nat×Bool->Option (bn×bn)} {Λ:c.α->Nat->cB} (h0:kq P ⟨fn,λ_ _ _ _=>none⟩) (hW:pB P W) (hL:∀c∈L,Holds P c)
  (hF:fn c.f=some F) (hfr:oH c.f L=none) (hlen:∀a,(c.A.put a).length=F.params)
  (h:∀a,c.dom a->sa (lJ L W ty mt fn) (Λ a) F (c.A.put a) λv=>v.r7 (c.res a)):Holds P c:=by
 intro a hd
 exact CB (p:=lJ L W ty mt fn) (Λ:=Λ a) (tO hW hL h0) (tP hW) (λ_ _ h=>h) hF (CC hfr) (hlen a) (λ_ h=>xf h) (h a hd)
def Hh (L:List bM) (W:mB) (a:TypeId->Option bn) (c:List Nat×Bool->Option (bn×bn)) (b:FuncId->Option fb) (d:FuncId->Bool):iI:=⟨⟨vm L,W.C⟩,a,c,λ_=>none,b,d⟩
theorem Y9 (c:bM) {F:fb} {ty:TypeId->Option bn} {mt:List Nat×Bool->Option (bn×bn)} {ro:FuncId->Bool} {Λ:c.α->Nat->cB} (h0:kq P ⟨fn,λ_ _ _ _=>none⟩) (hW:pB P W) (hL:∀c∈L,Holds P c)
  (hF:fn c.f=some F) (hfr:oH c.f L=none) (hlen:∀a,(c.A.put a).length=F.params)
  (h:∀a,c.dom a->sa (Hh L W ty mt fn ro) (Λ a) F (c.A.put a) λv=>v.r7 (c.res a)):Holds P c:=by
 intro a hd
 exact CB (p:=Hh L W ty mt fn ro) (Λ:=Λ a) (tO hW hL h0) (tP hW) (λ_ _ h=>h) hF (CC hfr) (hlen a) (λ_ h=>xf h) (h a hd)
def ez (k:IntKind):pA Int where
 put n:=.si k n
 dec v:=v.int k
 ok v a h:=by rw[gX h];rfl
 inj a b h:=by grind[γF]
def O4:pA Bool where
 put b:=.sb b
 dec v:=v.boo
 ok v a h:=by rw[uW h];rfl
 inj a b h:=by grind[γF]
theorem rc:(s:bn)->(x y:s.T)->dE s x=dE s y->(e:s.flat=true:=by rfl)->x=y
 | .i k,x,y,h,_=>by grind[dE]
 | .b,x,y,h,_=>by grind[dE]
 | .dX,⟨o,B,r,f,j,q⟩,⟨p,l,g,u,A,z⟩,h,_=>by
  simp_all[dE,iv]
 | .off,⟨b,⟨o,B,r,f,j,q⟩,v⟩,⟨c,⟨p,l,g,u,A,z⟩,w⟩,h,_=>by
  simp_all[dE,iv]
 | .need,⟨a,b⟩,⟨c,d⟩,h,_=>by
  simp_all[dE,iv]
 | .key,⟨b,⟨o,B,r,f,j,q⟩⟩,⟨c,⟨p,l,g,u,A,z⟩⟩,h,_=>by
  simp_all[dE,iv]
 | .sit,⟨m,⟨o,B,r,f,j,q⟩,⟨K,F,G,N,L,P⟩⟩,⟨n,⟨p,l,g,u,A,z⟩,⟨O,J,M,I,H,E⟩⟩,h,_=>by
  simp_all[dE,iv]
 | .bK _,_,_,_,e=>by grind[bn.flat]
 | .pair s t,(a,b),(c,d),h,e=>by
  simp only[bn.flat,θ] at e;simp only[dE] at h
  obtain⟨D,C⟩:=εH h (by grind[Gi])
  rw[rc s a c D e.1,rc t b d C e.2]
theorem Hj {d i:Type} {n:Nat} {f:d->List i} (a:∀x,(f x).length=n) (c:∀x y,f x=f y->x=y):∀{l m:List d},l.length=m.length->l.flatMap f=m.flatMap f->l=m
 |[],[],_,_=>rfl
 |[],_::_,h,_=>by simp at h
 |_::_,[],h,_=>by simp at h
 |x::l,y::m,b,h=>by
  simp only[δ8] at h
  obtain⟨e,g⟩:=εH h (by rw[a,a])
  simp only[γv,ζp] at b;rw[c x y e,Hj a c b g]
theorem xg:(s:bn)->(x y:s.T)->(h:dJ s x=dJ s y)->x=y
 | .bK s,x,y,h=>by
  simp only[dJ,π,AV.sl.injEq,and_true] at h
  exact Hj (lI s) (xg s) h.1 h.2
 | .pair s t,(a,b),(c,d),h=>by
  simp only[dJ] at h
  obtain⟨e,f⟩:=εH h (by grind[lI])
  rw[xg s a c e,xg t b d f]
 | .i k,x,y,h=>rc (.i k) x y (tN h)
 | .b,x,y,h=>rc .b x y (tN h)
 | .dX,x,y,h=>rc .dX x y (tN h)
 | .off,x,y,h=>rc .off x y (tN h)
 | .need,x,y,h=>rc .need x y (tN h)
 | .key,x,y,h=>rc .key x y (tN h)
 | .sit,x,y,h=>rc .sit x y (tN h)
theorem lK (s:bn) {l m:List s.T} (a:l.length=m.length) (h:cC s l=cC s m):l=m:=
 Hj (lI s) (xg s) a h
def eG (s:bn):pA s.T where
 put x:=.agg (encS s x)
 dec
  | .agg c=>jB s c
  |_=>none
 ok v a h:=by
  grind[γF,fV,nI,tu]
 inj a b h:=by
  grind[γF,fV,tu,xg]
theorem jE {s:bn} {v:SV} {l:List s.T} (h:fW s v=some l):v.g=(SV.row s l).g:=by
 cases v<;>simp only[fW,reduceCtorEq] at h
 grind[zr,γF,cC]
def dN (s:bn):pA (List s.T) where
 put l:=.row s l
 dec:=fW s
 ok v a h:=jE h
 inj a b h:=by
  grind[γF,lK]
end Go.Vi
