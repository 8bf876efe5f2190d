/-
  The symbolic run: its operations, and what must hold for a piece of code to come to a post. Plain definitions: no proof stands here.
  Conditions: none.
-/
import Derived.Test.YtddpfdamlefbgaaGreatSF04
set_option maxRecDepth 100000
set_option maxHeartbeats 4000000
set_option linter.all false
namespace Go.Vi
abbrev SEnv:=List (Nat×SV)
abbrev SStore:=List SObj
structure SSt where
 env:SEnv
 o:SStore
def getS:SEnv→Nat→SV
 |[],_=> .ud
 |p::r,s=>bif Nat.beq p.1 s then p.2 else getS r s
def putS (env:SEnv) (a:Option Nat) (v:SV):SEnv:=
 match a with
 |none=>env
 |some d=>(d,v)::env
def SV.ofCell:Value→SV
 | .int k n=> .il k n
 | .bool b=> .bl b
 |v=> .sc v
def SV.ofVal:Value→SV
 | .agg a=>if a.toList.all (·.oneCell') then .agg (a.toList.map .ofCell) else .ud
 | .tuple _=> .ud
 | .int k n=> .il k n
 | .bool b=> .bl b
 |v=> .sc v
def evS (env:SEnv):Operand→SV
 | .tmp t=>getS env t
 | .const v=> .ofVal v
 | .global _=> .ud
 | .func f=> .fn (.func f) [] []
def SV.cellsOf:SV→List SV
 | .agg a=>a
 |v=>[v]
def SV.one:SV→Bool
 | .agg _| .tup _| .ud| .ite _ _ _=>false
 | .sc v=>v.oneCell'
 |_=>true
def oneS (l:List SV):Bool:=l.all (·.one)
mutual
def SV.pure:SV→Bool
 | .sc _| .il .. | .si .. | .bl _| .sb _| .row .. =>true
 |_=>false
def pureS:List SV→Bool
 |[]=>true
 |c::a=>c.pure&&pureS a
end
mutual
def SV.bel (k:Nat):SV→Bool
 | .ud| .sc _| .il .. | .si .. | .bl _| .sb _| .row .. | .ep .. =>true
 | .agg e| .tup e=>belS k e
 | .ptr d .. | .ap d .. | .rp d .. | .ow d .. | .os d .. | .oc d .. | .mp d=>decide (d<k)
 | .fn _ a b=>belS k a&&belS k b
 | .ia _ _| .ite _ _ _=>true
def belS (k:Nat):List SV→Bool
 |[]=>true
 |c::e=>c.bel k&&belS k e
end
def SObj.bel (k:Nat):SObj→Bool
 | .cells b _ _ a=>a||belS k b
 | .rowp _ _ _ t=>belS k t
 |_=>true
mutual
def SV.noSl:SV→Bool
 | .ud| .sc _| .il .. | .si .. | .bl _| .sb _=>true
 | .agg a| .tup a=>noSlS a
 |_=>false
def noSlS:List SV→Bool
 |[]=>true
 |c::a=>c.noSl&&noSlS a
end
def inR (k:IntKind) (n:Int):Prop:=
 match k with
 | .i64=> -9223372036854775808≤n∧n≤9223372036854775807
 |k=>k.wrap n=n
def rngK (k:IntKind) (n:Int) (K:Int→Prop):Prop:=
 match k with
 | .u32=>K (n % 4294967296)
 | .u64=>K (n % 18446744073709551616)
 |k=>inR k n∧K n
structure SCalls where
 pure:FuncId→List SV→(SV→Prop)→Prop
 own:FuncId→List SV→SStore→(SV→SStore→Prop)→Prop
structure SPar where
 C:SCalls
 ty:TypeId→Option SId
 mt:List Nat×Bool→Option (SId×SId)
 sp:Nat→Option (Nat×Nat×Nat):=fun _=>none
 it:FuncId→Option IFn:=fun _=>none
 ro:FuncId→Bool:=fun _=>false
def partS (cs:List SV) (a:Nat):Option Nat→Option SV
 |none=>cs[a]?
 |some n=>if a+n≤cs.length then some (.agg ((cs.drop a).take n)) else none
def writeS (cs:List SV) (a:Nat):List SV→List SV
 |[]=>cs
 |v::b=>writeS (cs.set a v) (a+1) b
def optK {b:Type} (x:Option b) (K:b→Prop):Prop:=match x with|some a=>K a|none=>False
def seqK {b:Type} (f:SV→(b→Prop)→Prop):List SV→(List b→Prop)→Prop
 |[],K=>K []
 |v::c,K=>f v fun a=>seqK f c fun d=>K (a::d)
def frzK (o:SStore):Nat→SV→(SV→Prop)→Prop
 |_,.ud,K=>K .ud
 |_,.sc v,K=>match v with
  | .slice none 0 0=>K (.row (.i .i64) [])
  |v=>K (.sc v)
 |_,.il k n,K=>K (.il k n)
 |_,.si k n,K=>K (.si k n)
 |_,.bl b,K=>K (.bl b)
 |_,.sb b,K=>K (.sb b)
 |_,.row s l,K=>K (.row s l)
 |_,.ia t cs,K=>K (.ia t cs)
 |d+1,.agg cs,K=>seqK (frzK o d) cs fun cs'=>K (.agg cs')
 |d+1,.tup cs,K=>seqK (frzK o d) cs fun cs'=>K (.tup cs')
 |d+1,.fn f a b,K=>seqK (frzK o d) a fun a'=>seqK (frzK o d) b fun b'=>K (.fn f a' b')
 |_+1,.ow id n sz,K=>match o[id]? with
  |some (.row s l _ _)=>if sz=s.sz then n=l.length∧K (.row s l) else False
  |_=>False
 |_+1,.os id off len n sz,K=>match o[id]? with
  |some (.row s l _ _)=>if sz=s.sz then n=l.length∧off+len≤n∧K (.row s ((l.drop off).take len)) else False
  |_=>False
 |_,_,_=>False
def loadK (o:SStore) (a:SV) (n:Option Nat) (K:SV→Prop):Prop:=
 match a with
 | .ptr h b d=>match o[h]? with
  |some (.cells c _ _ _)=>if c.length=d then optK (partS c b n) K else False
  |_=>False
 | .ap h e g f d i=>match o[h]? with
  |some (.cells c _ _ _)=>if c.length=d∧e+g*f≤d then i<f∧pickK ((c.drop e).take (g*f)) g i n K else False
  |_=>False
 | .ep s l i b=>i<l.length∧optK (partS (encS s (nthD l i s.dflt)) b n) K
 | .rp h i b m g=>match o[h]? with
  |some (.row s l _ _)=>if g=s.sz then m=l.length∧i<l.length∧optK (partS (encS s (nthD l i s.dflt)) b n) K else False
  |_=>False
 |_=>False
where
 pickK (c:List SV) (g i:Nat) (n:Option Nat) (K:SV→Prop):Prop:=
  match n,g with
  |none,1=>match ints c with
   |some l=>K (.si .i64 (nthD l i 0))
   |none=>match rowsOff c with
    |some l=>K (.row .off (nthD l i []))
    |none=>False
  |_,_=>False
 rowsOff:List SV→Option (List (List Off))
  |[]=>some []
  | .row .off l::c=>(rowsOff c).map (l::·)
  |_=>none
def mkK (nid:Nat) (x:SObj) (o:SStore) (K:SStore→Prop):Prop:=
 match o[nid]? with
 |some .dead=>K (o.set nid x)
 |_=>False
def fillS (a:List (Nat×Nat×SV)) (cs:List SV):Option (List SV):=
 match a with
 |[]=>some cs
 |(b,n,v)::c=>
  if v.cellsOf.length=n∧oneS v.cellsOf=true∧b+n≤cs.length then fillS c (writeS cs b v.cellsOf) else none
def decL (s:SId):Nat→List SV→Option (List s.T)
 |0,[]=>some []
 |n+1,a=>match decS s (a.take s.sz),decL s n (a.drop s.sz) with
  |some x,some l=>some (x::l)
  |_,_=>none
 |_,_=>none
def elemsK (o:SStore) (s:SId) (x:SV) (K:List s.T→Prop):Prop:=
 match x with
 | .row a l=>optK (castL a s l) K
 | .ow d n e=>match o[d]? with
  |some (.row a l _ _)=>if e=a.sz then n=l.length∧optK (castL a s l) K else False
  |_=>False
 | .os d c b n e=>match o[d]? with
  |some (.row a l _ _)=>if e=a.sz then n=l.length∧c+b≤n∧optK (castL a s ((l.drop c).take b)) K else False
  |_=>False
 | .sc (.slice none 0 0)=>K []
 |_=>False
def pendK (o:SStore):SV→Option (List SV)
 | .ow j 1 a=>match o[j]? with
  |some (.rowp s [] _ t)=>if s.sz=a then some t else none
  |_=>none
 |_=>none
def SV.isOw:SV→Bool
 | .ow .. =>true
 |_=>false
def intS:SV→Option Int
 | .si _ n=>some n
 | .il _ n=>some n
 |_=>none
def isNil:SV→Bool
 | .sc (.slice none 0 0)=>true
 |_=>false
def binK (e:BinOp) (x y:SV) (K:SV→Prop):Prop:=
 match x,y with
 | .il k a,.il d b=>match scBin e (.int k a) (.int d b) with
  |some (.int k n)=>K (.il k n)
  |some (.bool c)=>K (.bl c)
  |_=>False
 | .si k a,.si d b=>go k a d b
 | .il k a,.si d b=>go k a d b
 | .si k a,.il d b=>go k a d b
 | .sc (.string a),.sc (.string b)=>match e with
  | .eql=>K (.sb (a.toList==b.toList))
  | .neq=>K (.sb (!(a.toList==b.toList)))
  |_=>False
 |_,_=>False
where
 go (k:IntKind) (a:Int) (d:IntKind) (b:Int):Prop:=
  match e with
  | .shl=>0≤b∧b≤k.bits∧rngK k (a*2^b.toNat) fun n=>K (.si k n)
  | .shr=>0≤b∧b≤k.bits∧K (.si k (a / 2^b.toNat))
  | .add=>if k=d then rngK k (a+b) fun n=>K (.si k n) else False
  | .sub=>if k=d then rngK k (a - b) fun n=>K (.si k n) else False
  | .mul=>if k=d then rngK k (a*b) fun n=>K (.si k n) else False
  | .quo=>if k=d then b≠0∧inR k (a.tdiv b)∧K (.si k (a.tdiv b)) else False
  | .rem=>if k=d then b≠0∧K (.si k (a.tmod b)) else False
  | .and=>if k=d then K (.si k (andI k a b)) else False
  | .or=>if k=d then K (.si k (orI k a b)) else False
  | .xor=>if k=d then K (.si k (xorI k a b)) else False
  | .andNot=>if k=d then K (.si k (andNotI k a b)) else False
  | .eql=>if k=d then K (.sb (decide (a=b))) else False
  | .neq=>if k=d then K (.sb (decide (a≠b))) else False
  | .lss=>if k=d then K (.sb (decide (a<b))) else False
  | .leq=>if k=d then K (.sb (decide (a≤b))) else False
  | .gtr=>if k=d then K (.sb (decide (b<a))) else False
  | .geq=>if k=d then K (.sb (decide (b≤a))) else False
 andI (k:IntKind) (a b:Int):Int:=wrapI k (BitVec.ofInt k.bits a &&&BitVec.ofInt k.bits b).toNat
 orI (k:IntKind) (a b:Int):Int:=wrapI k (BitVec.ofInt k.bits a |||BitVec.ofInt k.bits b).toNat
 xorI (k:IntKind) (a b:Int):Int:=wrapI k (BitVec.ofInt k.bits a ^^^BitVec.ofInt k.bits b).toNat
 andNotI (k:IntKind) (a b:Int):Int:=wrapI k (BitVec.ofInt k.bits a &&&~~~(BitVec.ofInt k.bits b)).toNat
def seq1S:SV→SV→Option Bool
 | .si k a,y=>(y.int k).map fun b=>decide (a=b)
 | .il k a,y=>(y.int k).map fun b=>decide (a=b)
 | .sb a,y=>y.boo.map fun b=>a==b
 | .bl a,y=>y.boo.map fun b=>a==b
 |_,_=>none
def seqLS:List SV→List SV→Option Bool
 |[],[]=>some true
 |x::d,y::c=>match seq1S x y,seqLS d c with
  |some a,some b=>some (a&&b)
  |_,_=>none
 |_,_=>none
def kOkS:List Nat→List SV→Bool
 |[],[]=>true
 |0::a,.si _ _::b=>kOkS a b
 |0::a,.il _ _::b=>kOkS a b
 |1::a,.sb _::b=>kOkS a b
 |1::a,.bl _::b=>kOkS a b
 |_,_=>false
def findT (a sv:SId) (x:a.T) (es:List (a.T×sv.T)):Option sv.T:=(es.find? fun p=>decide (p.1=x)).map (·.2)
def setT (a sv:SId) (x:a.T) (v:sv.T):List (a.T×sv.T)→List (a.T×sv.T)
 |[]=>[(x,v)]
 |p::r=>if p.1=x then(x,v)::r else p::setT a sv x v r
def aggIs (a:Bool):SV→Bool
 | .agg _=>a
 |_=>!a
def SId.keyed:SId→Bool
 | .key| .sit| .i _=>true
 |_=>false
def boundK (d:Nat):Option SV→(Nat→Prop)→Prop
 |none,K=>K d
 |some (.il _ n),K=>if 0≤n then K n.toNat else False
 |some (.si _ n),K=>0≤n∧K n.toNat
 |_,_=>False
def setI:List Int→Nat→Int→Nat→List Int
 |[],_,_,_=>[]
 |a::l,i,v,j=>(if i=j then v else a)::setI l i v (j+1)
def brK:SV→(SV→Prop)→Prop
 | .ite c a b,K=>(c=true→brK a K)∧(c=false→brK b K)
 |v,K=>K v
def SV.G:SV→AV
 | .ite c a b=>match c with
  |true=>a.G
  |false=>b.G
 |v=>v.g
def opK (p:SPar) (op:IOp) (ρ:Operand→SV) (o:SStore) (nid:Nat) (K:SV→SStore→Prop):Prop:=
 match op with
 | .mov x=>K (ρ x) o
 | .pick c a b=>match ρ c with
  | .bl true=>K (ρ a) o
  | .bl false=>K (ρ b) o
  | .sb c=>(c=true→K (ρ a) o)∧(c=false→K (ρ b) o)
  |_=>False
 | .alloc z e pu=>mkK nid (.cells (z.map .ofCell) e z.length pu) o fun o'=>K (.ptr nid 0 z.length) o'
 | .box e x=>if oneS (ρ x).cellsOf then mkK nid (.cells (ρ x).cellsOf e (ρ x).cellsOf.length false) o fun o'=>K (.ptr nid 0 (ρ x).cellsOf.length) o' else False
 | .build z parts=>optK (fillS (parts.map fun q=>(q.1,q.2.1,ρ q.2.2)) (z.map .ofCell)) fun cs=>K (.agg cs) o
 | .mkrow z len parts e sz=>match p.ty e,fillS (parts.map fun q=>(q.1,sz,ρ q.2)) ((List.replicate len (z.map SV.ofCell)).flatten) with
  |some s,some cs=>if s.sz=sz then(if cs.any SV.isOw then(if cs.length=len*sz then mkK nid (.rowp s [] e cs) o fun o'=>K (.ow nid len sz) o' else False) else optK (decL s len (cs.map SV.qn)) fun l=>mkK nid (.row s l e true) o fun o'=>K (.ow nid len sz) o') else False
  |_,_=>False
 | .mkimm z len parts e sz=>match p.ty e,fillS (parts.map fun q=>(q.1,sz,ρ q.2)) ((List.replicate len (z.map SV.ofCell)).flatten) with
  |some s,some cs=>if s.sz=sz then optK (decL s len (cs.map SV.qn)) fun l=>K (.row s l) o else False
  |_,_=>False
 | .load n a=>loadK o (ρ a) n fun v=>K v o
 | .store n a x=>match ρ a with
  | .ptr id off tot=>match o[id]? with
   |some (.cells cs e sz pu)=>
    if cs.length=tot∧(ρ x).cellsOf.length=n∧oneS (ρ x).cellsOf=true∧off+n≤cs.length∧(pu=false∨pureS (ρ x).cellsOf=true) then K .ud (o.set id (.cells (writeS cs off (if pu then(ρ x).cellsOf.map SV.qn else(ρ x).cellsOf)) e sz pu)) else False
   |_=>False
  | .rp id i off m sz=>match o[id]? with
   |some (.row s l e pu)=>
    if sz=s.sz∧(ρ x).cellsOf.length=n∧off+n≤s.sz then m=l.length∧i<l.length∧optK (decS s (writeS (encS s (nthD l i s.dflt)) off (if pu then(ρ x).cellsOf.map SV.qn else(ρ x).cellsOf))) fun v=>K .ud (o.set id (.row s (l.set i v) e pu)) else False
   |_=>False
  | .ap id base sz len tot i=>match o[id]? with
   |some (.cells cs e sz' pu)=>match n,sz,(ρ x).int .i64 with
    |1,1,some v=>match ints ((cs.drop base).take len) with
     |some l=>if cs.length=tot∧base+len≤tot then i<len∧K .ud (o.set id (.cells (writeS cs base ((setI l i v 0).map (SV.si .i64))) e sz' pu)) else False
     |none=>False
    |_,_,_=>False
   |_=>False
  |_=>False
 | .nilc x=>match ρ x with
  | .ptr a b c=>K (.ptr a b c) o
  | .rp a b c d e=>K (.rp a b c d e) o
  | .ep s l i f=>K (.ep s l i f) o
  |_=>False
 | .bin op x y=>binK op (ρ x) (ρ y) fun v=>K v o
 | .beq neg x y=>match(ρ x).boo,(ρ y).boo with
  |some a,some b=>K (.sb (if neg then !(a==b) else a==b)) o
  |_,_=>False
 | .eqf neg ks x y=>match ρ x,ρ y with
  | .agg a,.agg b=>if kOkS ks a&&kOkS ks b then optK (seqLS a b) fun r=>K (.sb (if neg then !r else r)) o else False
  |_,_=>False
 | .pnil neg x y=>match ρ x,ρ y with
  | .ptr _ _ _,.sc (.pointer none)=>K (.bl neg) o
  | .sc (.pointer none),.sc (.pointer none)=>K (.bl !neg) o
  |_,_=>False
 | .un op x=>match op,ρ x with
  | .not,.sb b=>K (.sb !b) o
  | .not,.bl b=>K (.bl !b) o
  | .neg,.si k n=>inR k (-n)∧K (.si k (-n)) o
  | .neg,.il k n=>K (.il k (wrapI k (0 - n))) o
  |_,_=>False
 | .conv k x=>match ρ x with
  | .il _ n=>K (.il k (wrapI k n)) o
  | .si .i64 n=>inR k n∧K (.si k n) o
  | .si _ n=>rngK k n fun m=>K (.si k m) o
  |_=>False
 | .fieldA off x=>match ρ x with
  | .ptr id b tot=>K (.ptr id (b+off) tot) o
  | .ep s l i b=>K (.ep s l i (b+off)) o
  | .rp id i b m sz=>K (.rp id i (b+off) m sz) o
  |_=>False
 | .field off n x=>match ρ x with
  | .agg cs=>optK (partS cs off n) fun v=>K v o
  |_=>False
 | .idxA len sz x i=>match ρ i with
  | .il _ n=>if 0≤n∧n<len then(match ρ x with
   | .ptr id b tot=>K (.ptr id (b+n.toNat*sz) tot) o
   | .ep s l j b=>K (.ep s l j (b+n.toNat*sz)) o
   | .rp id j b m sz'=>K (.rp id j (b+n.toNat*sz) m sz') o
   |_=>False) else False
  | .si _ n=>match ρ x with
   | .ptr id b tot=>0≤n∧n<len∧K (.ap id b sz len tot n.toNat) o
   |_=>False
  |_=>False
 | .idxS sz x i=>match intS (ρ i) with
  |some n=>match ρ x with
   | .row s l=>if sz=s.sz then 0≤n∧n<l.length∧K (.ep s l n.toNat 0) o else False
   | .ow id m sz'=>match o[id]? with
    |some (.row s l _ _)=>if sz=s.sz∧sz'=s.sz then m=l.length∧0≤n∧n<l.length∧K (.rp id n.toNat 0 m sz) o else False
    |_=>False
   | .os id off len m sz'=>match o[id]? with
    |some (.row s l _ _)=>if sz=s.sz∧sz'=s.sz then m=l.length∧0≤n∧n<len∧off+len≤m∧K (.rp id (off+n.toNat) 0 m sz) o else False
    |_=>False
   | .oc id off len m sz'=>match o[id]? with
    |some (.row s l _ _)=>if sz=s.sz∧sz'=s.sz then m=l.length∧0≤n∧n<len∧off+len≤m∧K (.rp id (off+n.toNat) 0 m sz) o else False
    |_=>False
   |_=>False
  |none=>False
 | .idx len sz n x i=>match ρ i,ρ x with
  | .il _ k,.agg cs=>if 0≤k∧k<len then optK (partS cs (k.toNat*sz) n) fun v=>K v o else False
  | .si _ k,.agg cs=>match n,sz,ints cs with
   |none,1,some l=>if l.length=len then 0≤k∧k<len∧K (.si .i64 (nthD l k.toNat 0)) o else False
   |_,_,_=>False
  |_,_=>False
 | .mkslice z e sz bytes l c pu=>match intS (ρ l),intS (ρ c),p.ty e with
  |some n,some m,some s=>if s.sz=sz then optK (decS s (if pu then(z.map SV.ofCell).map SV.qn else z.map .ofCell)) fun x=>0≤n∧n≤m∧m*bytes≤140737488355328∧m≤1000000000000∧
    mkK nid (.row s (List.replicate n.toNat x) e pu) o fun o'=>K (.ow nid n.toNat sz) o' else False
  |_,_,_=>False
 | .slice sz x lo hi=>match ρ x with
  | .row s l=>if sz=s.sz then boundK 0 (lo.map ρ) fun a=>boundK l.length (hi.map ρ) fun b=>a≤b∧b≤l.length∧K (.row s ((l.drop a).take (b - a))) o else False
  | .ow id m sz'=>match o[id]? with
   |some (.row s l _ _)=>if sz=s.sz∧sz'=s.sz then m=l.length∧boundK 0 (lo.map ρ) fun a=>boundK m (hi.map ρ) fun b=>a≤b∧b≤m∧K (.os id a (b - a) m sz) o else False
   |_=>False
  | .os id off len m sz'=>match o[id]? with
   |some (.row s l _ _)=>if sz=s.sz∧sz'=s.sz then m=l.length∧boundK 0 (lo.map ρ) fun a=>boundK len (hi.map ρ) fun b=>a≤b∧b≤len∧K (.os id (off+a) (b - a) m sz) o else False
   |_=>False
  |_=>False
 | .slice3 sz x lo hi mx=>match ρ x with
  | .row s l=>if sz=s.sz then boundK 0 (lo.map ρ) fun a=>boundK l.length (some (ρ hi)) fun b=>boundK l.length (some (ρ mx)) fun m=>a≤b∧b≤m∧m≤l.length∧K (.row s ((l.drop a).take (b - a))) o else False
  | .ow id n sz'=>match o[id]? with
   |some (.row s l _ _)=>if sz=s.sz∧sz'=s.sz then n=l.length∧boundK 0 (lo.map ρ) fun a=>boundK n (some (ρ hi)) fun b=>boundK n (some (ρ mx)) fun m=>a≤b∧b≤m∧m≤n∧K (.oc id a (b - a) n sz) o else False
   |_=>False
  |_=>False
 | .append e sz bytes s x pu=>match p.ty e,pendK o (ρ x) with
  |some t,some tl=>match ρ s,ρ x with
   | .ow id n sz',.ow _ _ sz2=>match o[id]? with
    |some (.row t' l e' pu')=>if e'=e∧t'.sz=sz∧sz'=sz∧sz2=sz∧t.sz=sz∧pu'=false∧tl.length=sz∧oneS tl=true then n=l.length∧(l.length+1)*bytes≤140737488355328∧l.length+1≤1000000000000∧
      K (.ow id (l.length+1) sz) (o.set id (.rowp t' l e tl)) else False
    |_=>False
   |_,_=>False
  |some t,none=>if t.sz=sz then elemsK o t (ρ x) fun new=>match ρ s with
    | .sc (.slice none 0 0)=>(new.length=0→K (.sc nilSl) o)∧(new.length≠0→new.length*bytes≤140737488355328∧new.length≤1000000000000∧mkK nid (.row t new e pu) o fun o'=>K (.ow nid new.length sz) o')
    | .ow id n sz'=>match o[id]? with
     |some (.row t' l e' pu')=>if e'=e∧t'.sz=sz∧sz'=sz then n=l.length∧(l.length+new.length)*bytes≤140737488355328∧l.length+new.length≤1000000000000∧
       optK (castL t' t l) fun l'=>K (.ow id (l'++new).length sz) (o.set id (.row t (l'++new) e pu')) else False
     |_=>False
    | .row t' l=>new.length=0∧K (.row t' l) o
    |_=>False
   else False
  |none,_=>False
 | .len k x=>match k,ρ x with
  |0,.row _ l=>K (.si .i64 l.length) o
  |0,.ow _ n _=>K (.si .i64 n) o
  |0,.os _ _ len _ _=>K (.si .i64 len) o
  |0,.oc _ _ len _ _=>K (.si .i64 len) o
  |0,.sc (.slice none 0 0)=>K (.il .i64 0) o
  |1,.sc (.string s)=>K (.si .i64 s.size) o
  |2,.mp id=>match o[id]? with
   |some (.map _ _ _ es _ _)=>K (.si .i64 es.length) o
   |_=>False
  |_,_=>False
 | .lenArr n=>K (.il .i64 n) o
 | .mm mx x y=>match ρ x,ρ y with
  | .il k a,.il k' b=>if k=k' then K (.il k (if mx then(if b>a then b else a) else(if b<a then b else a))) o else False
  | .si k a,y=>optK (y.int k) fun b=>K (.si k (if mx then max a b else min a b)) o
  | .il k a,y=>optK (y.int k) fun b=>K (.si k (if mx then max a b else min a b)) o
  |_,_=>False
 | .call f args own=>callK p f (args.map ρ) o own K
 | .callv f args own=>match ρ f with
  | .fn (.func g) first captured=>callK p g (first++args.map ρ++captured) o own K
  |_=>False
 | .extract x i=>match ρ x with
  | .tup vs=>optK vs[i]? fun v=>K v o
  |_=>False
 | .mkfn f first captured=>K (.fn f (first.map ρ) (captured.map ρ)) o
 | .mkif t x=>match ρ x with
  | .agg cs=>if pureS cs=true then K (.ia t cs) o else False
  |_=>False
 | .callm tab x args=>match ρ x with
  | .ia t cs=>match lookM tab t with
   |some f=>callK p f (.agg cs::args.map ρ) o false K
   |none=>False
  |_=>False
 | .mkmap kt pu=>match p.mt kt with
  |some (sk,sv)=>mkK nid (.map sk sv kt.2 [] kt pu) o fun o'=>K (.mp nid) o'
  |none=>False
 | .lookup z agg ks ka x k ok=>match ρ x with
  | .mp id=>match o[id]? with
   |some (.map sk sv ka' es kt _)=>
    if kt=(ks,ka)∧ka'=ka∧sk.keyed=true∧sv.scal=true∧agg=false∧(ka=false→sk.sz=1)∧kOkS ks (ρ k).cellsOf=true∧aggIs ka (ρ k)=true then
     optK (decS sk (ρ k).cellsOf) fun kv=>optK (decS sv (z.map .ofCell)) fun zv=>
      let r:=(encS sv ((findT sk sv kv es).getD zv)).headD .ud
      K (if ok then .tup [r,.sb (findT sk sv kv es).isSome] else r) o
    else False
   |_=>False
  |_=>False
 | .mapset ks ka x k v=>match ρ x with
  | .mp id=>match o[id]? with
   |some (.map sk sv ka' es kt pu)=>
    if kt=(ks,ka)∧ka'=ka∧sk.keyed=true∧sv.scal=true∧(ka=false→sk.sz=1)∧kOkS ks (ρ k).cellsOf=true∧aggIs ka (ρ k)=true∧aggIs false (ρ v)=true then
     optK (decS sk (ρ k).cellsOf) fun kv=>optK (decS sv (ρ v).cellsOf) fun vv=>K .ud (o.set id (.map sk sv ka' (setT sk sv kv vv es) kt pu))
    else False
   |_=>False
  |_=>False
 |_=>False
where
 callK (p:SPar) (f:FuncId) (args:List SV) (o:SStore) (own:Bool) (K:SV→SStore→Prop):Prop:=
  if own then p.C.own f args o K
  else seqK (frzK o 6) args fun args'=>p.C.pure f args' fun r=>if(args.flatMap (fun v=>tchF (o.map SObj.g) 6 v.g)).isEmpty||r.noSl then K r o else False
def setE:SEnv→Nat→SV→SEnv
 |[],_,_=>[]
 |p::r,s,v=>bif Nat.beq p.1 s then(p.1,v)::r else p::setE r s v
def wantK (env:SEnv) (g:Option (Option Nat×Bool)) (K:SEnv→Bool→Prop):Prop:=
 match g with
 |none=>K env true
 |some (none,_)=>False
 |some (some s,b)=>match getS env s with
  | .bl c=>K env (c==b)
  | .sb c=>(c=true→K (setE env s (.bl true)) (true==b))∧(c=false→K (setE env s (.bl false)) (false==b))
  | .tup []=>K env false
  |_=>False
def SV.same (v w:SV):Prop:=v.g=w.g
def SV.sameR (v:SV):SV→Prop
 | .ite c a b=>(c=true→v.sameR a)∧(c=false→v.sameR b)
 |w=>v.same w
def SObj.same (x y:SObj):Prop:=x.g=y.g
def sameO:SStore→SStore→Prop
 |[],[]=>True
 |x::o,y::a=>x.same y∧sameO o a
 |_,_=>False
def roK (p:SPar) (a:IOp) (o o':SStore) (K:Bool→Prop):Prop:=
 match a with
 | .call f _ true=>if p.ro f=true then sameO o o'∧K true else K false
 |_=>K false
def opsK (p:SPar) (base:Nat):List IOper→SSt→Trace→(SSt→Trace→Prop)→Prop
 |[],b,c,K=>K b c
 |i::r,b,c,K=>wantK b.env i.guard fun a w=>
   if w then opK p i.op (evS a) b.o (base+i.nid) fun v d=>roK p i.op b.o d fun e=>opsK p base r ⟨putS a i.dst v,d⟩ ((i.idx,tch i.op (fun x=>(evS a x).g) (b.o.map SObj.g) (base+i.nid),if e then[] else wrt i.op (fun x=>(evS a x).g) (b.o.map SObj.g) (base+i.nid))::c) K
   else opsK p base r ⟨putS a i.dst (.tup []),b.o⟩ ((i.idx,[],[])::c) K
def SObj.isDead:SObj→Bool
 | .dead=>true
 |_=>false
def sweepS (base:Nat) (o:SStore):SStore:=if(o.drop base).all (·.isDead) then o.take base else o
def regK (p:SPar) (k:Nat) (c:List IOper) (b:List (Nat×Nat)) (st:SSt) (K:SSt→Prop):Prop:=
 opsK p st.o.length c ⟨st.env,st.o++List.replicate k .dead⟩ [] fun a d=>
  if b.isEmpty||chkOk (st.o.length+k) d.reverse b then K ⟨a.env,if k=0 then a.o else sweepS st.o.length a.o⟩ else False
mutual
def frzV (id:Nat) (s:SId) (l:List s.T):SV→(SV→Prop)→Prop
 | .ow j n m,K=>if j=id then(if m=s.sz then n=l.length∧K (.row s l) else False) else K (.ow j n m)
 | .os j h g n m,K=>if j=id then(if m=s.sz then n=l.length∧h+g≤n∧K (.row s ((l.drop h).take g)) else False) else K (.os j h g n m)
 | .oc j h g n m,K=>if j=id then False else K (.oc j h g n m)
 | .rp j i f n m,K=>if j=id then False else K (.rp j i f n m)
 | .ptr j f t,K=>if j=id then False else K (.ptr j f t)
 | .ap j a b c d e,K=>if j=id then False else K (.ap j a b c d e)
 | .agg o,K=>frzVL id s l o fun k=>K (.agg k)
 | .tup o,K=>frzVL id s l o fun k=>K (.tup k)
 | .fn f a b,K=>frzVL id s l a fun p=>frzVL id s l b fun r=>K (.fn f p r)
 |v,K=>K v
def frzVL (id:Nat) (s:SId) (l:List s.T):List SV→(List SV→Prop)→Prop
 |[],K=>K []
 |c::o,K=>frzV id s l c fun q=>frzVL id s l o fun k=>K (q::k)
end
def frzEK (id:Nat) (s:SId) (l:List s.T):SEnv→(SEnv→Prop)→Prop
 |[],K=>K []
 |(k,v)::r,K=>frzV id s l v fun a=>frzEK id s l r fun b=>K ((k,a)::b)
def frzOK (id:Nat) (s:SId) (l:List s.T):Nat→SStore→(SStore→Prop)→Prop
 |_,[],K=>K []
 |i,x::r,K=>match x with
  | .cells g e h b=>if b then(if i=id then False else frzOK id s l (i+1) r fun a=>K (.cells g e h b::a)) else frzVL id s l g fun d=>frzOK id s l (i+1) r fun a=>K (.cells d e h b::a)
  | .rowp c f e t=>if i=id then False else frzVL id s l t fun j=>match decL c 1 j with
   |some m=>frzOK id s l (i+1) r fun a=>K (.row c (f++m) e false::a)
   |none=>False
  | .row c f e b=>if i=id then(if b then frzOK id s l (i+1) r fun a=>K (.dead::a) else False) else frzOK id s l (i+1) r fun a=>K (.row c f e b::a)
  |x=>frzOK id s l (i+1) r fun a=>K (x::a)
def hintK (p:SPar) (lo:Nat) (h:OwnH) (st:SSt) (K:SSt→Prop):Prop:=
 if h.own then match h.off with
  |none=>if isNil (getS st.env h.slot) then(match p.ty h.e with
    |some s=>if s.sz=h.sz then K ⟨(h.slot,.ow st.o.length 0 h.sz)::st.env,st.o++[.row s [] h.e h.pu]⟩ else False
    |none=>False) else if h.sz=0 then(match getS st.env h.slot with
     | .ow a _ _=>match st.o[a]? with
      |some (.row s l e true)=>K ⟨st.env,st.o.set a (.row s l e false)⟩
      |_=>False
     |_=>False) else K st
  |some k=>match getS st.env h.slot with
   | .ptr a b c=>match st.o[a]? with
    |some (.cells d e i f)=>if(d[b+k]?).any isNil then(if d.length=c∧f=false then(match p.ty h.e with
      |some s=>if s.sz=h.sz then K ⟨st.env,(st.o.set a (.cells (d.set (b+k) (.ow st.o.length 0 h.sz)) e i f))++[.row s [] h.e h.pu]⟩ else False
      |none=>False) else False) else K st
    |_=>False
   |_=>False
 else match cellK h st with
  |some (some a)=>if Nat.ble lo a then(match st.o[a]? with
   |some (.row s l e f)=>frzEK a s l st.env fun g=>frzOK a s l 0 (if f then st.o else st.o.set a (.row s l e true)) fun o=>K ⟨g,o⟩
   |_=>False) else K st
  |some none=>K st
  |none=>False
where
 idOf:SV→Option Nat
  | .ow a .. =>some a
  | .os a .. =>some a
  | .oc a .. =>some a
  |_=>none
 cellK (h:OwnH) (st:SSt):Option (Option Nat):=
  match h.off with
  |none=>some (idOf (getS st.env h.slot))
  |some k=>match getS st.env h.slot with
   | .ptr a b c=>match st.o[a]? with
    |some (.cells d _ _ _)=>if d.length=c then(d[b+k]?).map idOf else none
    |_=>none
   |_=>none
def hintsK (p:SPar) (lo:Nat):List OwnH→SSt→(SSt→Prop)→Prop
 |[],st,K=>K st
 |h::hs,st,K=>hintK p lo h st fun st'=>hintsK p lo hs st' K
def pruneS (a:List Nat) (env:SEnv):SEnv:=a.map fun s=>(s,getS env s)
def trimS (k:Nat) (st:SSt):SSt:=
 if st.o.length≤k then st
 else if(st.env.all fun p=>p.2.bel k)&&((st.o.take k).all fun x=>x.bel k) then⟨st.env,st.o.take k⟩ else st
def sameE:SEnv→SEnv→Prop
 |[],[]=>True
 |(k,v)::e,(b,c)::a=>if k=b then v.same c∧sameE e a else False
 |_,_=>False
def sameSt (s t:SSt):Prop:=sameE s.env t.env∧sameO s.o t.o
def iS (s:SSt) (k:Nat):Int:=match getS s.env k with
 | .si _ n=>n
 | .il _ n=>n
 |_=>0
def rS (t:SId) (s:SSt) (k:Nat):List t.T:=match getS s.env k with
 | .row a l=>match castL a t l with
  |some l=>l
  |none=>[]
 |_=>[]
def oS (t:SId) (s:SSt) (id:Nat):List t.T:=match s.o[id]? with
 |some (.row a l _ _)=>match castL a t l with
  |some l=>l
  |none=>[]
 |_=>[]
def cS (t:SId) (s:SSt) (id a:Nat):t.T:=match s.o[id]? with
 |some (.cells b _ _ _)=>match decS t ((b.drop a).take t.sz) with
  |some x=>x
  |none=>t.dflt
 |_=>t.dflt
def castM (k v b a:SId) (es:List (k.T×v.T)):Option (List (b.T×a.T)):=if h:k=b∧v=a then some (h.1▸h.2▸es) else none
def splitN (v:Int) (n:Nat) (K:Nat→Prop):Nat→Prop
 |0=>0≤v∧v<n
 |j+1=>(v=(n - (j+1):Nat)→K (n - (j+1)))∧splitN v n K j
def splitK (x:Option (Nat×Nat×Nat)) (st:SSt) (K:SSt→Prop):Prop:=
 match x with
 |none=>K st
 |some (b,a,n)=>match st.o[b]? with
  |some (.cells c e f d)=>match c[a]? with
   |some (.si k v)=>splitN v n (fun j=>K ⟨st.env,st.o.set b (.cells (c.set a (.il k j)) e f d)⟩) n
   |_=>False
  |_=>False
inductive LoopAnn where
 |unroll (n:Nat)
 |look
 |inv (X:Type) (shape:X→SSt) (next:SSt→X) (J:X→Prop) (m:X→Nat) (inner:X→Nat→LoopAnn)
def Look (_:SSt):Prop:=False
def firstReg:IR→Nat
 | .region c .. =>c
 | .seq .skip b=>firstReg b
 | .seq a _=>firstReg a
 | .block _ b=>firstReg b
 | .loop b=>firstReg b
 | .turns _ b=>firstReg b
 |_=>0
def unrollK (W:SSt→(Out→SSt→Prop)→Prop) (Q:Out→SSt→Prop):Nat→SSt→Prop
 |0,_=>False
 |n+1,b=>W b fun a s=>match a with
  | .norm=>unrollK W Q n (trimS b.o.length s)
  |o=>Q o s
def dropS (t:Nat):SEnv→SEnv
 |[]=>[]
 |p::r=>bif Nat.beq p.1 t then dropS t r else p::dropS t r
def dropSE (x:Operand) (env:SEnv):SEnv:=
 match x with
 | .tmp t=>dropS t env
 |_=>env
def setX (env:SEnv) (x:Operand) (v:SV):SEnv:=
 match x with
 | .tmp t=>setE env t v
 |_=>env
def wpS (p:SPar) (lo:Nat):IR→(Nat→LoopAnn)→SSt→(Out→SSt→Prop)→Prop
 | .skip,_,st,Q=>Q .norm st
 | .region id draw k ops chk live pre post,_,st,Q=>splitK (p.sp id) st fun st0=>hintsK p lo pre st0 fun st1=>regK p k ops chk st1 fun st2=>hintsK p lo post ⟨pruneS live st2.env,st2.o⟩ fun st3=>Q .norm st3
 | .seq a b,Λ,st,Q=>wpS p lo a Λ st fun out s=>match out with
  | .norm=>wpS p lo b Λ s Q
  |o=>Q o s
 | .cond x a b,Λ,st,Q=>match evS st.env x with
  | .bl true=>wpS p lo a Λ ⟨dropSE x st.env,st.o⟩ Q
  | .bl false=>wpS p lo b Λ ⟨dropSE x st.env,st.o⟩ Q
  | .sb c=>(c=true→wpS p lo a Λ ⟨dropSE x st.env,st.o⟩ Q)∧(c=false→wpS p lo b Λ ⟨dropSE x st.env,st.o⟩ Q)
  |_=>False
 | .block id b,Λ,st,Q=>wpS p lo b Λ st fun out s=>Q (out.inBlock id) s
 | .loop b,Λ,st,Q=>match Λ (firstReg b) with
  | .unroll n=>unrollK (wpS p lo b Λ) Q n st
  | .look=>Look st
  | .inv _ shape next J m inner=>(sameSt st (shape (next st))∧J (next st))∧∀x,J x→wpS p lo b (inner x) (shape x) fun out s=>match out with
   | .norm=>sameSt (trimS (shape x).o.length s) (shape (next (trimS (shape x).o.length s)))∧J (next (trimS (shape x).o.length s))∧m (next (trimS (shape x).o.length s))<m x
   |o=>Q o s
 | .exit id,_,st,Q=>Q (.exit id) st
 | .ret,_,st,Q=>Q .ret st
 | .goto l,_,st,Q=>Q (.goto l) st
 | .condK x a b,Λ,st,Q=>match evS st.env x with
  | .bl true=>wpS p lo a Λ st Q
  | .bl false=>wpS p lo b Λ st Q
  | .sb c=>(c=true→wpS p lo a Λ ⟨setX st.env x (.bl true),st.o⟩ Q)∧(c=false→wpS p lo b Λ ⟨setX st.env x (.bl false),st.o⟩ Q)
  |_=>False
 | .turns none b,Λ,st,Q=>wpS p lo b Λ st fun out s=>match out with
  | .goto _=>False
  |o=>Q o s
 | .turns (some l) b,Λ,st,Q=>match Λ (firstReg b) with
  | .inv _ shape next J m inner=>(sameSt st (shape (next st))∧J (next st))∧∀x,J x→wpS p lo b (inner x) (shape x) fun out s=>match out with
   | .goto l'=>l'=l∧sameSt (trimS (shape x).o.length s) (shape (next (trimS (shape x).o.length s)))∧J (next (trimS (shape x).o.length s))∧m (next (trimS (shape x).o.length s))<m x
   |o=>Q o s
  |_=>Look st
 | .dfr ..,_,_,_=>False
def bindS:Nat→List SV→SEnv
 |_,[]=>[]
 |i,v::a=>(i,v)::bindS (i+1) a
def resK (st:SSt) (a:List IRes) (K:SV→Prop):Prop:=
 goK a fun l=>match l with
  |[v]=>K v
  |l=>K (.tup l)
where
 goK:List IRes→(List SV→Prop)→Prop
  |[],K=>K []
  |r::a,K=>oneK r fun v=>goK a fun l=>K (v::l)
 oneK (r:IRes) (K:SV→Prop):Prop:=match r.cell with
  |none=>K (getS st.env r.slot)
  |some n=>loadK st.o (getS st.env r.slot) n K
def fnK (p:SPar) (Λ:Nat→LoopAnn) (F:IFn) (args:List SV) (Q:SV→Prop):Prop:=
 wpS p 0 F.body Λ ⟨bindS 0 args,[]⟩ fun a b=>match a with
  | .exit _=>False
  | .goto _=>False
  |_=>resK b F.res fun r=>frzK b.o 6 r Q
def fnOwnK (p:SPar) (Λ:Nat→LoopAnn) (F:IFn) (args:List SV) (o:SStore) (Q:SV→SStore→Prop):Prop:=
 wpS p o.length F.body Λ ⟨bindS 0 args,o⟩ fun b a=>match b with
  | .exit _=>False
  | .goto _=>False
  |_=>resK a F.res fun r=>if r.bel o.length&&a.o.all (fun x=>x.bel o.length)&&decide (o.length≤a.o.length) then Q r (a.o.take o.length) else False
def gE (env:SEnv):EnvA:=env.map fun p=>(p.1,p.2.g)
def gO (o:SStore):Store:=o.map SObj.g
def SSt.g (st:SSt):St:=⟨gE st.env,gO st.o⟩
theorem getS_g:∀(env:SEnv) (s:Nat),getE (gE env) s=(getS env s).g
 |[],_=>by simp[gE,getE,getS,SV.g]
 |p::r,s=>by
  have:=getS_g r s
  grind[gE,getE,getS]
theorem putS_g (env:SEnv) (d:Option Nat) (v:SV):gE (putS env d v)=putE (gE env) d v.g:=by
 cases d<;>simp[putS,putE,gE]
theorem ofCell_g (v:Value):(SV.ofCell v).g= .sc v:=by cases v<;>simp[SV.ofCell,SV.g]
theorem map_ofCell (l:List Value):(l.map SV.ofCell).map SV.g=l.map .sc:=by simp[ofCell_g]
theorem evS_g (env:SEnv) (x:Operand):evA (gE env) x=(evS env x).g:=by
 cases x with
 |tmp t=>simp[evA,evS,getS_g]
 |const v=>
  cases v<;>simp[evA,evS,AV.ofVal,SV.ofVal,SV.g]
  split<;>simp[SV.g,gL_map,ofCell_g]
 |global g=>simp[evA,evS,SV.g]
 |func f=>simp[evA,evS,SV.g,gL]
theorem evS_fun (env:SEnv):evA (gE env)=fun x=>(evS env x).g:=funext fun x=>evS_g env x
theorem cellsOf_g (v:SV):v.g.cellsOf=gL v.cellsOf:=by
 cases v<;>simp[SV.g,AV.cellsOf,SV.cellsOf,gL]
theorem one_g (v:SV):v.g.one=v.one:=by
 cases v<;>simp[SV.g,AV.one,SV.one,Value.oneCell']
theorem oneS_g (l:List SV):oneL (gL l)=oneS l:=by
 induction l<;>grind[gL,oneL,oneS,one_g]
theorem pureS_g:∀(l:List SV),pureS l=true→pureL (gL l)=true
 |[],_=>by simp[gL,pureL]
 |v::l,h=>by
  simp only[pureS,Bool.and_eq_true] at h
  simp only[gL,pureL,pureS_g l h.2,Bool.and_true]
  have a:=h.1
  cases v<;>simp[SV.pure] at a<;>simp[SV.g,AV.pure,flatA_pure]
mutual
theorem bel_g (k:Nat):∀(v:SV),v.g.bel k=v.bel k
 | .agg c=>by simp only[SV.g,AV.bel,SV.bel];exact belS_g k c
 | .tup c=>by simp only[SV.g,AV.bel,SV.bel];exact belS_g k c
 | .fn _ a b=>by simp only[SV.g,AV.bel,SV.bel,belS_g k a,belS_g k b]
 | .ud| .sc _| .il .. | .si .. | .bl _| .sb _| .row .. | .ep .. | .ptr .. | .ap .. | .rp .. | .ow .. | .os .. | .oc .. | .mp _| .ia _ _| .ite _ _ _=>by simp[SV.g,AV.bel,SV.bel]
theorem belS_g (k:Nat):∀(l:List SV),belL k (gL l)=belS k l
 |[]=>by simp[gL,belL,belS]
 |v::l=>by simp only[gL,belL,belS,bel_g k v,belS_g k l]
end
theorem map_bel (k:Nat) {b sv:SId} (c:Bool) (es:List (b.T×sv.T)):belL k ((es.map fun p=>(keyV b c p.1,valA sv p.2)).map (·.2))=true:=
 belL_all fun a h=>by
  simp only[List.map_map,List.mem_map,Function.comp] at h
  grind[valA,AV.bel]
theorem obel_g (k:Nat) (x:SObj):x.g.bel k=x.bel k:=by
 cases x with
 |dead=>rfl
 |cells n e m d=>simp[SObj.g,AObj.bel,SObj.bel,belS_g]
 |row s l e d=>simp[SObj.g,AObj.bel,SObj.bel,flatA_bel]
 |rowp s l e t=>
  have c:∀a b:List AV,belL k (a++b)=(belL k a&&belL k b):=fun a b=>by
   induction a<;>grind[belL]
  grind[SObj.g,AObj.bel,SObj.bel,flatA_bel,belS_g]
 |map i o f j h d=>simp only[SObj.g,AObj.bel,SObj.bel,map_bel,Bool.or_true]
mutual
theorem noSl_g:∀(v:SV),v.noSl=true→v.g.noSl=true
 | .agg a,h=>by simp only[SV.noSl] at h;simp only[SV.g,AV.noSl];exact noSlS_g a h
 | .tup a,h=>by simp only[SV.noSl] at h;simp only[SV.g,AV.noSl];exact noSlS_g a h
 | .ud,_| .sc _,_| .il ..,_| .si ..,_| .bl _,_| .sb _,_=>by simp[SV.g,AV.noSl]
 | .row ..,h| .ep ..,h| .ptr ..,h| .ap ..,h| .rp ..,h| .ow ..,h| .os ..,h| .oc ..,h| .mp _,h| .fn ..,h| .ia _ _,h| .ite _ _ _,h=>by simp[SV.noSl] at h
theorem noSlS_g:∀(l:List SV),noSlS l=true→noSlL (gL l)=true
 |[],_=>by simp[gL,noSlL]
 |v::l,h=>by
  simp only[noSlS,Bool.and_eq_true] at h
  simp only[gL,noSlL,noSl_g v h.1,noSlS_g l h.2,Bool.and_true]
end
theorem gL_len (l:List SV):(gL l).length=l.length:=by simp[gL_map]
theorem gL_get (l:List SV) (i:Nat):(gL l)[i]?=(l[i]?).map SV.g:=by simp[gL_map]
theorem gL_app (a b:List SV):gL (a++b)=gL a++gL b:=by simp[gL_map]
theorem partS_g {cs:List SV} {a:Nat} {n:Option Nat} {v:SV} (h:partS cs a n=some v):partA (gL cs) a n=some v.g:=by
 cases n with
 |none=>grind[partS,partA,gL_get]
 |some m=>
  simp only[partS] at h
  split at h
  ·rename_i b
   simp only[Option.some.injEq] at h;subst h
   simp_all[partA,SV.g,gL_map]
  ·cases h
theorem writeS_g:∀(vs cs:List SV) (a:Nat),gL (writeS cs a vs)=writeL (gL cs) a (gL vs)
 |[],cs,a=>by simp[writeS,gL,writeL]
 |v::vs,cs,a=>by
  simp only[writeS,gL,writeL]
  rw[writeS_g vs]
  simp_all[gL_map]
theorem gL_qn (cs:List SV):gL (cs.map SV.qn)=(gL cs).map AV.qn:=by
 simp_all[gL_map,qnS_g]
theorem gL_qnL (pu:Bool) (cs:List SV):gL (if pu then cs.map SV.qn else cs)=qnL pu (gL cs):=by
 grind[qnL,gL_qn]
theorem plain_qn {c:AV} (h:Plain c.qn):c.one=true∧c.pure=true:=by
 by_cases a:c.qn=c
 ·rw[a] at h
  exact⟨h.one,h.pure⟩
 ·unfold AV.qn at a
  split at a
  ·exact⟨rfl,rfl⟩
  simp_all
theorem qnL_plain {pu:Bool} {cs:List AV} (h:∀c∈qnL pu cs,Plain c):oneL cs=true∧pureL cs=true:=by
 have b:∀c∈cs,c.one=true∧c.pure=true:=by
  intro c a
  unfold qnL at h
  split at h
  ·grind[plain_qn]
  ·exact⟨(h c a).one,(h c a).pure⟩
 grind[oneL,pureL_all]
theorem writeL_mid:∀(vs a b c:List AV) (d:Nat),d+vs.length≤b.length→writeL (a++b++c) (a.length+d) vs=a++writeL b d vs++c
 |[],a,b,c,d,_=>rfl
 |v::vs,a,b,c,d,h=>by
  simp only[List.length_cons] at h
  simp only[writeL]
  have e:(a++b++c).set (a.length+d) v=a++b.set d v++c:=by
   grind
  rw[e,Nat.add_assoc,writeL_mid vs a (b.set d v) c (d+1) (by simp;omega)]
theorem flatA_split {s:SId} {l:List s.T} {i:Nat} (h:i<l.length):flatA s l=flatA s (l.take i)++encA s (nthD l i s.dflt)++flatA s (l.drop (i+1)):=by
 have a:l=l.take i++l[i]::l.drop (i+1):=by simp
 grind[nthD_eq,flatA]
theorem take_len {a:Type} {l:List a} {i:Nat} (h:i<l.length):(l.take i).length=i:=by simp;omega
theorem flatA_set {s:SId} {l:List s.T} {i a:Nat} {v:s.T} {vs:List AV} (h:i<l.length) (e:a+vs.length≤s.sz) (c:writeL (encA s (nthD l i s.dflt)) a vs=encA s v):
  writeL (flatA s l) (i*s.sz+a) vs=flatA s (l.set i v):=by
 have d:(flatA s (l.take i)).length=i*s.sz:=by rw[flatA_len,take_len h]
 rw[flatA_split h,←d,writeL_mid _ _ _ _ _ (by grind[encA_len]),c]
 have b:i<(l.set i v).length:=by simpa using h
 rw[flatA_split b,nthD_eq b]
 simp[List.take_set_of_le,List.drop_set_of_lt]
theorem flatA_part {s:SId} {l:List s.T} {i b:Nat} {n:Option Nat} {v:SV} (h:i<l.length) (e:partS (encS s (nthD l i s.dflt)) b n=some v):partA (flatA s l) (i*s.sz+b) n=some v.g:=by
 have a:=partS_g e
 rw[gL_map,encS_g] at a
 have c:=flatA_at (s:=s) h
 have d:(flatA s l).length=i*s.sz+(s.sz+(flatA s (l.drop (i+1))).length):=by
  have:=congrArg List.length c
  grind[encA_len]
 cases n with
 |none=>
  simp only[partA] at a ⊢
  rw[←List.getElem?_drop,c,List.getElem?_append_left]<;>grind
 |some m=>
  simp only[partA,encA_len] at a
  split at a
  ·rename_i f
   simp only[partA]
   rw[if_pos (by omega),←List.drop_drop,c,List.drop_append_of_le_length (by grind[encA_len]),List.take_append_of_le_length (by grind[encA_len])]
   exact a
  ·cases a
theorem optK_some {b:Type} {x:Option b} {K:b→Prop} (h:optK x K):∃a,x=some a∧K a:=by
 cases x with
 |none=>exact h.elim
 |some a=>exact⟨a,rfl,h⟩
theorem gO_get (o:SStore) (i:Nat):(gO o)[i]?=(o[i]?).map SObj.g:=by simp[gO]
theorem gO_len (o:SStore):(gO o).length=o.length:=by simp[gO]
theorem gO_set (o:SStore) (i:Nat) (x:SObj):gO (o.set i x)=(gO o).set i x.g:=by simp[gO]
theorem getI {o:SStore} {i:Nat} {x:SObj} (h:o[i]?=some x):(gO o)[i]?=some x.g:=by grind[gO_get]
theorem ints_all:∀{cs:List SV} {l:List Int},ints cs=some l→cs.length=l.length∧∀i,i<l.length→(cs[i]?).map SV.g=some (.sc (.int .i64 (nthD l i 0))):=by
 intro cs l h
 have a:=ints_g h
 have c:cs.length=l.length:=by simpa using congrArg List.length a
 refine⟨c,fun i b=>?_⟩
 have:=congrArg (fun l=>l[i]?) a
 simp only[List.getElem?_map] at this
 rw[this,List.getElem?_eq_getElem b,nthD_eq b]
 rfl
theorem rows_all:∀{cs:List SV} {l:List (List Off)},loadK.rowsOff cs=some l→cs.length=l.length∧∀i,i<l.length→cs[i]?=some (.row .off (nthD l i []))
 |[],l,h=>by grind[loadK.rowsOff]
 |c::cs,l,h=>by
  cases c with
  |row s x=>
   cases s<;>simp only[loadK.rowsOff,reduceCtorEq] at h
   obtain⟨e,a,rfl⟩:=Option.map_eq_some_iff.1 h
   obtain⟨b,d⟩:=rows_all a
   grind[nthD]
  |_=>simp[loadK.rowsOff] at h
theorem pickK_sound {cs:List SV} {sz i:Nat} {n:Option Nat} {K:SV→Prop} (h:loadK.pickK cs sz i n K) (d:i*sz<cs.length):∃v,partA (gL cs) (i*sz) n=some v.g∧K v:=by
 unfold loadK.pickK at h
 split at h
 ·rw[Nat.mul_one] at d ⊢
  split at h
  ·rename_i l a
   obtain⟨b,c⟩:=ints_all a
   grind[partA,gL_get,SV.g]
  ·split at h
   ·rename_i l a
    obtain⟨b,c⟩:=rows_all a
    grind[partA,gL_get]
   simp_all
 simp_all
theorem partA_sub {cs:List AV} {base a m:Nat} {v:AV} (h:partA ((cs.drop base).take m) a none=some v):partA cs (base+a) none=some v:=by
 grind[partA]
theorem loadK_sound {o:SStore} {a:SV} {n:Option Nat} {K:SV→Prop} (h:loadK o a n K):∃cs b v,behind (gO o) a.g=some (cs,b)∧partA cs b n=some v.g∧K v:=by
 cases a with
 |ptr x b t=>
  simp only[loadK] at h
  split at h
  ·rename_i cs e f z y
   split at h
   ·rename_i D
    obtain⟨v,k,j⟩:=optK_some h
    exact⟨gL cs,b,v,by simp_all[behind,SV.g,getI,SObj.g,gL_len],partS_g k,j⟩
   simp_all
  simp_all
 |ap x c f d t i=>
  simp only[loadK] at h
  split at h
  ·rename_i cs e A z y
   split at h
   ·rename_i D
    obtain⟨C,p⟩:=h
    have w:(i+1)*f≤d*f:=Nat.mul_le_mul_right _ C
    rw[Nat.succ_mul] at w
    have F:f*d=d*f:=Nat.mul_comm ..
    by_cases E:f=0
    ·grind[loadK.pickK]
    ·have q:i*f<((cs.drop c).take (f*d)).length:=by grind
     obtain⟨v,k,j⟩:=pickK_sound p q
     have B:n=none:=by
      grind[loadK.pickK]
     subst B
     refine⟨gL cs,c+i*f,v,by simp_all[behind,SV.g,getI,SObj.g,gL_len],?_,j⟩
     have:gL ((cs.drop c).take (f*d))=((gL cs).drop c).take (f*d):=by simp[gL_map]
     grind[partA_sub]
   simp_all
  simp_all
 |ep s l i b=>
  simp only[loadK] at h
  obtain⟨u,p⟩:=h
  obtain⟨v,k,j⟩:=optK_some p
  exact⟨flatA s l,i*s.sz+b,v,by simp[behind,SV.g],flatA_part u k,j⟩
 |rp x i b m f=>
  simp only[loadK] at h
  split at h
  ·rename_i s l e z y
   split at h
   ·rename_i r
    subst r
    obtain⟨w,u,p⟩:=h
    obtain⟨v,k,j⟩:=optK_some p
    exact⟨flatA s l,i*s.sz+b,v,by simp_all[behind,SV.g,getI,SObj.g,flatA_len],flatA_part u k,j⟩
   simp_all
  simp_all
 |_=>simp only[loadK] at h
theorem freeze_sc (o:Store) (d:Nat) {v:Value} (h:v≠ .slice none 0 0):freeze o d (.sc v)=some (.sc v):=by
 grind[freeze]
theorem freeze_plain (o:Store) (d:Nat) {a:AV} (h:Plain a):freeze o d a=some a:=by
 rcases h with⟨v,rfl,_,h⟩|⟨n,b,rfl,_⟩<;>grind[freeze_sc,freeze]
theorem mapM_self {f:AV→Option AV}:∀{l:List AV},(∀a∈l,f a=some a)→l.mapM f=some l
 |[],_=>by simp
 |a::l,h=>by simp[List.mapM_cons,h a (by simp),mapM_self (l:=l) fun b c=>h b (by simp[c])]
theorem seqK_sound {o:Store} {d:Nat} {f:SV→(SV→Prop)→Prop} (c:∀v K,f v K→∃b:SV,freeze o d v.g=some b.g∧K b):
  ∀{l:List SV} {K:List SV→Prop},seqK f l K→∃a,(gL l).mapM (freeze o d)=some (gL a)∧K a
 |[],K,h=>⟨[],by simp[gL],h⟩
 |v::l,K,h=>by
  obtain⟨b,j,i⟩:=c v _ h
  obtain⟨a,k,e⟩:=seqK_sound c i
  exact⟨b::a,by simp_all[gL],e⟩
theorem flatA_sub {s:SId} {l:List s.T} {b a:Nat}:((flatA s l).drop (b*s.sz)).take (a*s.sz)=flatA s ((l.drop b).take a):=by
 rw[flatA_drop,flatA_take]
theorem frzK_sound {o:SStore}:∀{d:Nat} {v:SV} {K:SV→Prop},frzK o d v K→∃y,freeze (gO o) d v.g=some y.g∧K y:=by
 intro d
 induction d with
 |zero=>
  intro v K h
  cases v<;>simp only[frzK] at h<;>grind[frzK,SV.g,freeze,flatA,freeze_sc]
 |succ d p=>
  intro v K h
  cases v<;>simp only[frzK] at h
  case sc v=>
   grind[SV.g,freeze,flatA]
  case agg B=>
   obtain⟨A,z,r⟩:=seqK_sound (fun v K m=>p m) h
   grind[SV.g,freeze]
  case tup B=>
   obtain⟨A,z,r⟩:=seqK_sound (fun v K m=>p m) h
   grind[SV.g,freeze]
  case fn f a b=>
   obtain⟨I,z,r⟩:=seqK_sound (fun v K m=>p m) h
   obtain⟨J,L,H⟩:=seqK_sound (fun v K m=>p m) r
   grind[SV.g,freeze]
  case ow E n F=>
   split at h
   ·rename_i s l e G w
    split at h
    ·rename_i k
     obtain⟨rfl,t⟩:=h
     subst k
     refine⟨_,?_,t⟩
     have i:(flatA s l).mapM (freeze (gO o) d)=some (flatA s l):=mapM_self fun a C=>by
      grind[freeze_plain,flatA_plain]
     have D:List.take (l.length*s.sz) (flatA s l)=flatA s l:=List.take_of_length_le (by grind[flatA_len])
     simp_all[SV.g,freeze,getI,SObj.g,flatA_len,flatA_pure]
    simp_all
   simp_all
  case os E j c n F=>
   split at h
   ·rename_i s l e G w
    split at h
    ·rename_i k
     obtain⟨rfl,u,t⟩:=h
     subst k
     refine⟨_,?_,t⟩
     have i:(flatA s ((l.drop j).take c)).mapM (freeze (gO o) d)=some (flatA s ((l.drop j).take c)):=mapM_self fun a C=>by
      grind[freeze_plain,flatA_plain]
     have x:(j+c)*s.sz≤l.length*s.sz:=Nat.mul_le_mul_right _ u
     rw[Nat.add_mul] at x
     have q:((l.drop j).take c).length=c:=by simp;omega
     simp only[SV.g,freeze,getI w,SObj.g,flatA_len,x,and_self,if_true,flatA_sub,i,flatA_pure,q]
     simp_all
    simp_all
   simp_all
  all_goals grind[SV.g,freeze]
theorem wrapI_in {k:IntKind} {n:Int} (h:inR k n):wrapI k n=n:=by
 cases k<;>simp only[inR,wrapI] at h ⊢<;>simp_all
theorem if_false' {c:Prop} [Decidable c] {A:Prop} (h:if c then A else False):c∧A:=by
 simp_all
theorem min_bits {b:Int} {k:Nat} (h:b≤k):min b.toNat k=b.toNat:=by omega
theorem eq_dec (a b:Int):(a==b)=decide (a=b):=rfl
theorem ne_dec (a b:Int):(a !=b)=decide (a≠b):=by
 grind
theorem rngK_sound {k:IntKind} {n:Int} {K:Int→Prop} (h:rngK k n K):K (wrapI k n):=by
 have a:k= .u32→wrapI k n=n % 4294967296:=by
  grind[wrapI_eq,IntKind.wrap,IntKind.bits,IntKind.signed]
 have b:k= .u64→wrapI k n=n % 18446744073709551616:=by
  grind[wrapI_eq,IntKind.wrap,IntKind.bits,IntKind.signed]
 unfold rngK at h
 grind[wrapI_in]
theorem go_sound {e:BinOp} {k i:IntKind} {a b:Int} {K:SV→Prop} (h:binK.go e K k a i b):∃v f:_,scBin e (.int k a) (.int i b)=some v∧f.g= .sc v∧K f:=by
 cases e<;>simp only[binK.go] at h
 case shl=>
  obtain⟨j,m,l⟩:=h
  refine⟨.int k (wrapI k (a*2^b.toNat)),.si k (wrapI k (a*2^b.toNat)),?_,rfl,rngK_sound l⟩
  simp_all[scBin,powI_eq]
 case shr=>
  obtain⟨j,m,n⟩:=h
  refine⟨.int k (a / 2^b.toNat),_,?_,rfl,n⟩
  have:a.fdiv (2^b.toNat)=a / 2^b.toNat:=Int.fdiv_eq_ediv_of_nonneg _ (by grind)
  simp_all[scBin,powI_eq]
 case add=>
  obtain⟨d,c⟩:=if_false' h
  subst d
  exact⟨.int k (wrapI k (a+b)),.si k (wrapI k (a+b)),by simp only[scBin,if_true,intBin],rfl,rngK_sound c⟩
 case sub=>
  obtain⟨d,c⟩:=if_false' h
  subst d
  exact⟨.int k (wrapI k (a - b)),.si k (wrapI k (a - b)),by simp only[scBin,if_true,intBin],rfl,rngK_sound c⟩
 case mul=>
  obtain⟨d,c⟩:=if_false' h
  subst d
  exact⟨.int k (wrapI k (a*b)),.si k (wrapI k (a*b)),by simp only[scBin,if_true,intBin],rfl,rngK_sound c⟩
 case quo=>
  obtain⟨d,c⟩:=if_false' h
  subst d
  exact⟨.int k (a.tdiv b),_,by simp_all[scBin,intBin,wrapI_in],rfl,c.2.2⟩
 case rem=>
  obtain⟨d,c⟩:=if_false' h
  subst d
  exact⟨.int k (a.tmod b),_,by simp_all[scBin,intBin],rfl,c.2⟩
 case and=>
  obtain⟨d,c⟩:=if_false' h
  subst d
  exact⟨.int k (binK.andI k a b),_,by simp only[scBin,if_true,intBin,binK.andI],rfl,c⟩
 case or=>
  obtain⟨d,c⟩:=if_false' h
  subst d
  exact⟨.int k (binK.orI k a b),_,by simp only[scBin,if_true,intBin,binK.orI],rfl,c⟩
 case xor=>
  obtain⟨d,c⟩:=if_false' h
  subst d
  exact⟨.int k (binK.xorI k a b),_,by simp only[scBin,if_true,intBin,binK.xorI],rfl,c⟩
 case andNot=>
  obtain⟨d,c⟩:=if_false' h
  subst d
  exact⟨.int k (binK.andNotI k a b),_,by simp only[scBin,if_true,intBin,binK.andNotI],rfl,c⟩
 case eql=>
  obtain⟨d,c⟩:=if_false' h
  subst d
  exact⟨.bool (decide (a=b)),_,by simp_all[scBin,intBin,eq_dec],rfl,c⟩
 case neq=>
  obtain⟨d,c⟩:=if_false' h
  subst d
  exact⟨.bool (decide (a≠b)),_,by simp_all[scBin,intBin,ne_dec],rfl,c⟩
 case lss=>
  obtain⟨d,c⟩:=if_false' h
  subst d
  exact⟨.bool (decide (a<b)),_,by simp only[scBin,if_true,intBin],rfl,c⟩
 case leq=>
  obtain⟨d,c⟩:=if_false' h
  subst d
  exact⟨.bool (decide (a≤b)),_,by simp only[scBin,if_true,intBin],rfl,c⟩
 case gtr=>
  obtain⟨d,c⟩:=if_false' h
  subst d
  exact⟨.bool (decide (b<a)),_,by simp only[scBin,if_true,intBin],rfl,c⟩
 case geq=>
  obtain⟨d,c⟩:=if_false' h
  subst d
  exact⟨.bool (decide (b≤a)),_,by simp only[scBin,if_true,intBin],rfl,c⟩
theorem binK_sound {j:BinOp} {x y:SV} {K:SV→Prop} (h:binK j x y K):∃a b v c,x.g= .sc a∧y.g= .sc b∧scBin j a b=some v∧c.g= .sc v∧K c:=by
 unfold binK at h
 split at h
 ·split at h
  ·rename_i i;exact⟨_,_,_,_,rfl,rfl,i,rfl,h⟩
  ·rename_i i;exact⟨_,_,_,_,rfl,rfl,i,rfl,h⟩
  simp_all
 ·obtain⟨v,c,d,e,f⟩:=go_sound h
  exact⟨_,_,v,c,rfl,rfl,d,e,f⟩
 ·obtain⟨v,c,d,e,f⟩:=go_sound h
  exact⟨_,_,v,c,rfl,rfl,d,e,f⟩
 ·obtain⟨v,c,d,e,f⟩:=go_sound h
  exact⟨_,_,v,c,rfl,rfl,d,e,f⟩
 ·split at h
  ·exact⟨_,_,_,_,rfl,rfl,by grind[scBin],rfl,h⟩
  ·exact⟨_,_,_,_,rfl,rfl,by grind[scBin],rfl,h⟩
  simp_all
 simp_all
theorem seq1_int {k:IntKind} {a b:Int}:seq1 (.int k a) (.int k b)=some (decide (a=b)):=by
 simp only[seq1,if_true,Option.some.injEq];rfl
theorem seq1S_sound {x y:SV} {r:Bool} (h:seq1S x y=some r):∃a b,x.g= .sc a∧y.g= .sc b∧seq1 a b=some r:=by
 cases x<;>simp only[seq1S,reduceCtorEq] at h
 all_goals
  obtain⟨b,c,rfl⟩:=Option.map_eq_some_iff.1 h
  first
   |exact⟨_,_,rfl,int_g c,seq1_int⟩
   |exact⟨_,_,rfl,boo_g c,by simp[seq1]⟩
theorem seqLS_sound:∀{x y:List SV} {r:Bool},seqLS x y=some r→∃a b,gL x=a.map .sc∧gL y=b.map .sc∧seqL a b=some r
 |[],[],r,h=>by simp[seqLS] at h;subst h;exact⟨[],[],rfl,rfl,rfl⟩
 |[],_::_,r,h=>by grind[seqLS]
 |_::_,[],r,h=>by grind[seqLS]
 |x::l,y::n,r,h=>by
  simp only[seqLS] at h
  split at h
  ·rename_i a b e f
   simp only[Option.some.injEq] at h;subst h
   obtain⟨u,v,g,j,k⟩:=seq1S_sound e
   obtain⟨d,c,i,o,m⟩:=seqLS_sound f
   exact⟨u::d,v::c,by grind[gL],by grind[gL],by grind[seqL]⟩
  ·cases h
theorem scs_map:∀(l:List Value),scs (l.map .sc)=some l
 |[]=>rfl
 |v::l=>by simp[scs,scs_map l]
theorem map_sc_inj:∀{a b:List Value},a.map AV.sc=b.map AV.sc→a=b
 |[],[],_=>rfl
 |[],_::_,h=>by simp at h
 |_::_,[],h=>by simp at h
 |x::a,y::b,h=>by
  simp only[List.map_cons,List.cons.injEq,AV.sc.injEq] at h
  rw[h.1,map_sc_inj h.2]
theorem kOkS_sound:∀{e:List Nat} {x:List SV} {a:List Value},kOkS e x=true→gL x=a.map .sc→kOk e a=true
 |[],[],a,_,h=>by
  cases a with
  |nil=>rfl
  |cons a i=>simp[gL] at h
 |[],_::_,a,h,_=>by grind[kOkS]
 |_::_,[],a,h,_=>by grind[kOkS]
 |k::e,x::j,a,h,f=>by
  cases a with
  |nil=>grind[gL]
  |cons a i=>
   simp only[gL,List.map_cons,List.cons.injEq] at f
   obtain⟨c,d⟩:=f
   match k,x,h with
   |0,.si k n,h=>simp only[kOkS] at h;simp only[SV.g,AV.sc.injEq] at c;subst c;simpa[kOk] using kOkS_sound h d
   |0,.il k n,h=>simp only[kOkS] at h;simp only[SV.g,AV.sc.injEq] at c;subst c;simpa[kOk] using kOkS_sound h d
   |1,.sb b,h=>simp only[kOkS] at h;simp only[SV.g,AV.sc.injEq] at c;subst c;simpa[kOk] using kOkS_sound h d
   |1,.bl b,h=>simp only[kOkS] at h;simp only[SV.g,AV.sc.injEq] at c;subst c;simpa[kOk] using kOkS_sound h d
theorem feq_sound {c:List Nat} {a b:List SV} {r:Bool} (d:(kOkS c a&&kOkS c b)=true) (h:seqLS a b=some r):feq c (gL a) (gL b)=some r:=by
 obtain⟨u,v,f,e,g⟩:=seqLS_sound h
 simp only[Bool.and_eq_true] at d
 rw[f,e]
 simp only[feq,scs_map,kOkS_sound d.1 f,kOkS_sound d.2 e,Bool.and_self,if_true,g]
theorem castL_some {s s':SId} {l:List s.T} {a:List s'.T} (h:castL s s' l=some a):s=s'∧HEq l a:=by
 unfold castL at h
 grind
theorem castL_flat {s s':SId} {l:List s.T} {l':List s'.T} (h:castL s s' l=some l'):s'=s∧flatA s' l'=flatA s l∧l'.length=l.length:=by
 grind[castL_some]
theorem fillS_g:∀{a:List (Nat×Nat×SV)} {cs b:List SV},fillS a cs=some b→fillA (a.map fun q=>(q.1,q.2.1,q.2.2.g)) (gL cs)=some (gL b)
 |[],cs,b,h=>by simp[fillS] at h;subst h;rfl
 |(d,n,v)::r,cs,b,h=>by
  simp only[fillS] at h
  split at h
  ·rename_i c
   obtain⟨i,f,e⟩:=c
   have:=fillS_g h
   simp_all[fillA,cellsOf_g,gL_len,oneS_g,writeS_g]
  ·cases h
theorem decL_g {s:SId}:∀{n:Nat} {cs:List SV} {l:List s.T},decL s n cs=some l→gL cs=flatA s l∧l.length=n
 |0,[],l,h=>by grind[decL,gL,flatA]
 |0,_::_,l,h=>by simp[decL] at h
 |n+1,cs,l,h=>by
  simp only[decL] at h
  split at h
  ·rename_i x f a b
   simp only[Option.some.injEq] at h;subst h
   obtain⟨d,c⟩:=decL_g b
   have e:=decS_g a
   refine⟨?_,by simp[c]⟩
   rw[gL_map] at d ⊢
   conv=>lhs;rw[←List.take_append_drop s.sz cs]
   grind[flatA]
  ·cases h
theorem elemsK_sound {o:SStore} {s:SId} {x:SV} {K:List s.T→Prop} (h:elemsK o s x K):∃l,elemsA (gO o) s.sz x.g=some (l.length,flatA s l)∧K l:=by
 cases x with
 |row q l=>
  simp only[elemsK] at h
  obtain⟨f,c,w⟩:=optK_some h
  obtain⟨rfl,p,m⟩:=castL_flat c
  exact⟨f,by simp_all[SV.g,elemsA,flatA_len],w⟩
 |ow y n u=>
  simp only[elemsK] at h
  split at h
  ·rename_i q l e A B
   split at h
   ·rename_i b
    subst b
    obtain⟨rfl,k⟩:=h
    obtain⟨f,c,i⟩:=optK_some k
    obtain⟨rfl,p,m⟩:=castL_flat c
    refine⟨f,?_,i⟩
    have t:List.take (l.length*s.sz) (flatA s l)=flatA s l:=List.take_of_length_le (by grind[flatA_len])
    simp_all[SV.g,elemsA,getI,SObj.g,flatA_len]
   simp_all
  simp_all
 |os y d a n u=>
  simp only[elemsK] at h
  split at h
  ·rename_i q l e A B
   split at h
   ·rename_i b
    subst b
    obtain⟨rfl,j,k⟩:=h
    obtain⟨f,c,i⟩:=optK_some k
    obtain⟨rfl,p,m⟩:=castL_flat c
    refine⟨f,?_,i⟩
    have r:(d+a)*s.sz≤l.length*s.sz:=Nat.mul_le_mul_right _ j
    rw[Nat.add_mul] at r
    have z:((l.drop d).take a).length=a:=by simp;omega
    simp_all[SV.g,elemsA,getI,SObj.g,flatA_len,flatA_sub]
   simp_all
  simp_all
 |sc v=>
  grind[elemsK,SV.g,elemsA,flatA]
 |_=>simp only[elemsK] at h
theorem intS_g {v:SV} {n:Int} (h:intS v=some n):intA v.g=some n:=by
 cases v<;>simp[intS] at h<;>simp[SV.g,intA,h]
theorem boundK_sound {d:Nat} {x:Option SV} {K:Nat→Prop} (h:boundK d x K):∃n,boundA d (x.map SV.g)=some n∧K n:=by
 unfold boundK at h
 grind[SV.g,boundA]
theorem mkK_sound {nid:Nat} {x:SObj} {o:SStore} {K:SStore→Prop} (h:mkK nid x o K):∃o',mkO nid x.g (gO o)=some (gO o')∧K o':=by
 grind[mkK,mkO,getI,SObj.g,gO_set]
theorem encV_eq {s:SId} (e:s.keyed=true) (x y:s.T):seqL (encV s x) (encV s y)=some (decide (x=y)):=by
 cases s<;>simp only[SId.keyed,reduceCtorEq] at e
 ·grind[encV,seqL,seq1_int]
 ·obtain⟨b,⟨m,o,a,l,c,i⟩⟩:=x
  obtain⟨g,⟨k,h,j,n,d,f⟩⟩:=y
  simp_all[encV,iv,seqL,seq1_int]
 ·obtain⟨b,⟨m,o,a,l,c,i⟩,⟨C,t,B,A,D,w⟩⟩:=x
  obtain⟨g,⟨k,h,j,n,d,f⟩,⟨p,z,r,u,v,q⟩⟩:=y
  simp only[encV,iv,seqL,seq1_int,Option.some.injEq,Bool.and_true]
  grind
theorem keq_keyV {s:SId} {a:Bool} (d:s.keyed=true) (b:a=false→s.sz=1) (x y:s.T):keq (keyV s a x) (keyV s a y)=some (decide (x=y)):=by
 cases a with
 |true=>grind[keyV,keq,encV_eq]
 |false=>
  have c:=b rfl
  cases s<;>simp only[SId.keyed,reduceCtorEq] at d<;>simp only[SId.sz,reduceCtorEq,Nat.reduceEqDiff] at c
  simp_all[keyV,encV,keq,seq1_int]
theorem findM_sound {a sv:SId} {c:Bool} (f:a.keyed=true) (e:c=false→a.sz=1) (x:a.T):∀(es:List (a.T×sv.T)) (i:Nat),
  ∃r,findM (keyV a c x) (es.map fun p=>(keyV a c p.1,valA sv p.2)) i=some r∧(match findT a sv x es with|some v=>∃j,r=some (i+j,valA sv v)∧(∃p,es[j]?=some p∧p.1=x)∧(∀g<j,∀p,es[g]?=some p→p.1≠x)|none=>r=none∧∀p∈es,p.1≠x)
 |[],i=>⟨none,by simp[findM],by simp[findT]⟩
 |p::es,i=>by
  simp only[List.map_cons,findM,keq_keyV f e]
  by_cases b:p.1=x
  ·refine⟨some (i,valA sv p.2),by simp[b],?_⟩
   simp only[findT,List.find?_cons,b,decide_true,Option.map_some]
   exact⟨0,by simp,⟨p,by simp,b⟩,by simp⟩
  ·obtain⟨r,m,k⟩:=findM_sound f e x es (i+1)
   have d:¬x=p.1:=fun h=>b h.symm
   refine⟨r,by simp[d,m],?_⟩
   have n:findT a sv x (p::es)=findT a sv x es:=by grind[findT]
   rw[n]
   split at k
   ·obtain⟨j,w,⟨q,t,l⟩,o⟩:=k
    refine⟨j+1,by grind,⟨q,by simp_all,l⟩,fun g u s y=>?_⟩
    grind
   grind
theorem setT_none {a sv:SId} {x:a.T} {v:sv.T}:∀{es:List (a.T×sv.T)},(∀p∈es,p.1≠x)→setT a sv x v es=es++[(x,v)]
 |[],_=>rfl
 |p::es,h=>by
  simp only[setT,if_neg (h p (by simp)),List.cons_append]
  rw[setT_none fun q b=>h q (by simp[b])]
theorem setT_some {a sv:SId} {x:a.T} {v:sv.T}:∀{es:List (a.T×sv.T)} {j:Nat},(∃p,es[j]?=some p∧p.1=x)→(∀b<j,∀p,es[b]?=some p→p.1≠x)→setT a sv x v es=es.modify j fun _=>(x,v)
 |[],j,⟨p,h,_⟩,_=>by simp at h
 |p::es,0,⟨q,h,d⟩,_=>by
  grind[setT]
 |p::es,j+1,⟨q,h,d⟩,c=>by
  have g:=c 0 (by omega) p (by simp)
  simp only[setT,if_neg g,List.modify_succ_cons]
  rw[setT_some (j:=j) ⟨q,by simpa using h,d⟩ fun b i e f=>c (b+1) (by omega) e (by simp_all)]
theorem keyA_sound {f:List Nat} {d:Bool} {s:SId} {v:SV} {x:s.T} (e:kOkS f v.cellsOf=true) (o:aggIs d v=true) (p:s.flat=true) (n:decS s v.cellsOf=some x):keyA f d v.g=some (keyV s d x):=by
 have k:=decS_g n
 have c:gL v.cellsOf=(encV s x).map .sc:=by grind[gL_map,flat_encA]
 have i:=kOkS_sound e c
 by_cases l:∃h,v= .agg h
 ·obtain⟨h,rfl⟩:=l
  simp_all[SV.cellsOf,aggIs,SV.g,keyA,scs_map,keyV]
 ·have b:d=false:=by
   simp_all[aggIs]
  subst b
  have j:v.cellsOf=[v]:=by
   cases v<;>first|rfl|simp_all
  rw[j] at c
  simp only[gL] at c
  cases m:encV s x with
  |nil=>simp_all
  |cons a r=>
   rw[m] at c i
   simp only[List.map_cons,List.cons.injEq] at c
   simp_all[keyA,keyV]
theorem valA_head {s:SId} (h:s.scal=true) (x:s.T):((encS s x).headD .ud).g=valA s x:=by
 cases s<;>simp[SId.scal] at h<;>simp[encS,valA,encV,SV.g]
theorem valA_enc {s:SId} (h:s.scal=true) (x:s.T):encA s x=[valA s x]:=by
 cases s<;>simp[SId.scal] at h<;>simp[encA,valA,encV]
theorem keyed_flat {s:SId} (h:s.keyed=true):s.flat=true:=by
 cases s<;>simp[SId.keyed] at h<;>rfl
structure SCallsOK (call:Oracle) (C:SCalls):Prop where
 pure:∀f args K,C.pure f args K→∃r:SV,call f (gL args) [] false=some (r.g,[])∧K r
 own:∀f args o K,C.own f args o K→∃(r:SV) (o':SStore),callOwn call f (gL args) (gO o)=some (r.g,gO o')∧K r o'
section
variable {call:Oracle} {p:SPar} {o:SStore} {nid:Nat} {K:SV→SStore→Prop}
theorem callK_sound (j:SCallsOK call p.C) {f:FuncId} {args:List SV} {own:Bool} (h:opK.callK p f args o own K):
  ∃(v:SV) (o':SStore),callA call f (gL args) (gO o) own=some (v.g,gO o')∧K v o':=by
 unfold opK.callK at h
 split at h
 ·rename_i c
  obtain⟨r,o',k,e⟩:=j.own _ _ _ _ h
  exact⟨r,o',by simp_all[callA],e⟩
 ·rename_i c
  have c:own=false:=by simp_all
  subst c
  obtain⟨b,k,e⟩:=seqK_sound (o:=gO o) (d:=6) (fun v K m=>frzK_sound m) h
  obtain⟨r,l,i⟩:=j.pure _ _ _ e
  split at i
  ·rename_i a
   refine⟨r,o,?_,i⟩
   simp only[callA,Bool.false_eq_true,if_false,k,l]
   rw[if_pos]
   simp only[Bool.or_eq_true] at a ⊢
   rcases a with a|a
   ·left
    rw[gL_map,List.flatMap_map]
    exact a
   grind[noSl_g]
  simp_all
theorem gL_rho (ρ:Operand→SV) (l:List Operand):gL (l.map ρ)=l.map fun x=>(ρ x).g:=by simp[gL_map]
theorem fill_rho {a:List (Nat×Nat×Operand)} {ρ:Operand→SV} {cs b:List SV} (h:fillS (a.map fun q=>(q.1,q.2.1,ρ q.2.2)) cs=some b):
  fillA (a.map fun q=>(q.1,q.2.1,(ρ q.2.2).g)) (gL cs)=some (gL b):=by
 have:=fillS_g h
 grind[Function.comp_def]
theorem fill_rho2 {a:List (Nat×Operand)} {sz:Nat} {ρ:Operand→SV} {cs b:List SV} (h:fillS (a.map fun q=>(q.1,sz,ρ q.2)) cs=some b):
  fillA (a.map fun q=>(q.1,sz,(ρ q.2).g)) (gL cs)=some (gL b):=by
 have:=fillS_g h
 grind[Function.comp_def]
theorem gL_ofCell (z:List Value):gL (z.map SV.ofCell)=z.map .sc:=by rw[gL_map,map_ofCell]
theorem gL_rep (a:Nat) (z:List Value):gL ((List.replicate a (z.map SV.ofCell)).flatten)=(List.replicate a (z.map AV.sc)).flatten:=by
 rw[gL_map,List.map_flatten,List.map_replicate,map_ofCell]
theorem rep_flat (s:SId) (x:s.T) (n:Nat):(List.replicate n (encA s x)).flatten=flatA s (List.replicate n x):=by
 induction n<;>grind[flatA]
theorem map_opt_rho {ρ:Operand→SV} (l:Option Operand):(l.map ρ).map SV.g=l.map fun x=>(ρ x).g:=by cases l<;>rfl
theorem set_seg:∀{l:List Int} {i:Nat} {v:Int},i<l.length→writeL (l.map fun n=>AV.sc (iv n)) 0 ((l.set i v).map fun n=>AV.sc (iv n))=(l.map fun n=>AV.sc (iv n)).set i (.sc (iv v)):=by
 intro l i v e
 have d:∀(b a c:List AV),b.length=c.length→writeL (a++c) a.length b=a++b:=by
  intro b
  induction b with
  |nil=>grind[writeL]
  |cons w b f=>
   intro a c h
   cases c with
   |nil=>simp at h
   |cons y c=>
    simp only[List.length_cons,Nat.add_right_cancel_iff] at h
    simp only[writeL]
    have:(a++y::c).set a.length w=(a++[w])++c:=by
     simp_all
    grind
 have:=d ((l.set i v).map fun n=>AV.sc (iv n)) [] (l.map fun n=>AV.sc (iv n)) (by simp)
 simp_all
theorem map_modify_const {b c:Type} (f:b→c) (x:b):∀(l:List b) (j:Nat),(l.modify j fun _=>x).map f=(l.map f).modify j fun _=>f x
 |[],j=>by simp
 |a::l,0=>by simp_all
 |a::l,j+1=>by simp only[List.modify_succ_cons,List.map_cons,map_modify_const f x l j]
theorem sc_cells (v:Value):(AV.sc v).cellsOf=[.sc v]:=rfl
theorem setI_eq:∀{l:List Int} {i j:Nat} {v:Int},setI l (i+j) v j=l.set i v
 |[],_,_,_=>rfl
 |a::l,0,j,v=>by
  have h:∀(l:List Int) (c:Nat),j<c→setI l j v c=l:=by
   intro l
   induction l with
   |nil=>intro _ _;rfl
   |cons b l d=>intro c e;simp only[setI,if_neg (show ¬j=c by omega),d (c+1) (by omega)]
  simp_all[setI]
 |a::l,i+1,j,v=>by
  simp only[setI,if_neg (show ¬i+1+j=j by omega),List.set_cons_succ]
  rw[show i+1+j=i+(j+1) from by omega,setI_eq]
theorem opK_store {ρ:Operand→SV} {n:Nat} {a x:Operand} (h:opK p (.store n a x) ρ o nid K):
  ∃(v:SV) (o':SStore),effS call (.store n a x) (fun x=>(ρ x).g) (gO o) nid=some (v.g,gO o')∧K v o':=by
 simp only[opK] at h
 split at h
 ·rename_i W b L B
  split at h
  ·rename_i f e Y E z
   split at h
   ·rename_i D
    obtain⟨V,C,X,P,R⟩:=D
    refine⟨.ud,_,?_,h⟩
    simp only[effS,B,SV.g,getI z,SObj.g,cellsOf_g,gL_len,oneS_g]
    rw[if_pos ⟨V,C,X,P,R.imp (fun q=>q) fun hp=>pureS_g _ hp⟩,gO_set,SObj.g,writeS_g,gL_qnL]
   simp_all
  simp_all
 ·rename_i W i b m Y B
  split at h
  ·rename_i s l e E z
   split at h
   ·rename_i D
    obtain⟨rfl,C,X⟩:=D
    obtain⟨rfl,N,P⟩:=h
    obtain⟨v,hv,R⟩:=optK_some P
    refine⟨.ud,_,?_,R⟩
    have T:=decS_g hv
    rw[←gL_map,writeS_g,gL_qnL] at T
    have O:gL (encS s (nthD l i s.dflt))=encA s (nthD l i s.dflt):=by rw[gL_map,encS_g]
    rw[O] at T
    have y:(i+1)*s.sz≤l.length*s.sz:=Nat.mul_le_mul_right _ N
    rw[Nat.succ_mul] at y
    have u:∀c∈qnL E (gL (ρ x).cellsOf),Plain c:=by
     intro c hc
     obtain⟨j,hj⟩:=List.mem_iff_getElem?.1 hc
     have U:=(List.getElem?_eq_some_iff.1 hj).1
     rw[qnL_len,gL_len,C] at U
     have a1:(writeL (encA s (nthD l i s.dflt)) b (qnL E (gL (ρ x).cellsOf)))[b+j]?=some c:=by
      have a0:∀(r f:List AV) (b j:Nat) (c:AV),r[j]?=some c→b+r.length≤f.length→(writeL f b r)[b+j]?=some c:=by
       intro r
       induction r with
       |nil=>simp_all
       |cons w r ih=>
        intro f b j c h M
        simp only[List.length_cons] at M
        simp only[writeL]
        cases j with
        |zero=>
         simp only[List.getElem?_cons_zero,Option.some.injEq] at h
         subst h
         have F:∀(r f:List AV) (Z k:Nat),k<Z→(writeL f Z r)[k]?=f[k]?:=by
          intro r
          induction r<;>grind[writeL]
         grind
        |succ j=>
         have:=ih (f.set b w) (b+1) j c (by simpa using h) (by simp;omega)
         grind
      grind[qnL_len,gL_len,encA_len]
     grind[encA_plain]
    obtain⟨G,Q⟩:=qnL_plain u
    simp only[effS,B,SV.g,getI z,SObj.g,cellsOf_g,flatA_len,gL_len]
    rw[if_pos ⟨trivial,C,G,by omega,.inr Q⟩,gO_set,SObj.g,flatA_set N (by grind[qnL_len,gL_len]) T]
   simp_all
  simp_all
 ·rename_i W d Y t L i B
  split at h
  ·rename_i f e a3 E z
   split at h
   ·rename_i v H
    split at h
    ·rename_i l M
     split at h
     ·rename_i D
      obtain⟨V,C⟩:=D
      rw[show setI l i v 0=l.set i v from setI_eq (j:=0)] at h
      obtain⟨N,hk⟩:=h
      refine⟨.ud,_,?_,hk⟩
      have S:(ρ x).cellsOf=[ρ x]:=by
       cases hr:ρ x<;>rw[hr] at H<;>simp[SV.int] at H<;>rfl
      have I:(ρ x).g= .sc (iv v):=int_g H
      have A:=ints_g M
      have a2:l.length=t:=by
       have:=congrArg List.length A
       grind
      have J:gL f=gL (f.take d)++(l.map fun n=>AV.sc (iv n))++gL (f.drop (d+t)):=by
       rw[←A,gL_map,gL_map,gL_map,←List.map_append,←List.map_append]
       congr 1
       rw[←List.drop_drop,List.append_assoc,List.take_append_drop,List.take_append_drop]
      have a4:(gL (f.take d)).length=d:=by grind[gL_len]
      have hq:qnL E [AV.sc (iv v)]=[AV.sc (iv v)]:=by unfold qnL;split<;>rfl
      simp only[effS,B,SV.g,getI z,SObj.g,I,sc_cells,List.length_singleton,gL_len,hq]
      rw[if_pos ⟨V,trivial,by simp[oneL,AV.one,iv,Value.oneCell'],by omega,.inr (by simp[pureL,AV.pure])⟩,gO_set,SObj.g,writeS_g]
      congr 4
      have e1:gL ((l.set i v).map (SV.si .i64))=(l.set i v).map fun n=>AV.sc (iv n):=by
       rw[gL_map,List.map_map];rfl
      rw[e1,J]
      have hm:=writeL_mid ((l.set i v).map fun n=>AV.sc (iv n)) (gL (f.take d)) (l.map fun n=>AV.sc (iv n)) (gL (f.drop (d+t))) 0 (by simp)
      grind[set_seg,writeL]
     simp_all
    simp_all
   simp_all
  simp_all
 simp_all
theorem opK_append {ρ:Operand→SV} {e:TypeId} {sz b:Nat} {s x:Operand} {pu:Bool} (h:opK p (.append e sz b s x pu) ρ o nid K):
  ∃(v:SV) (o':SStore),effS call (.append e sz b s x pu) (fun x=>(ρ x).g) (gO o) nid=some (v.g,gO o')∧K v o':=by
 simp only[opK] at h
 split at h
 ·rename_i t tl U a
  split at h
  ·rename_i S n G j m R k M
   split at h
   ·rename_i O l Z I H
    split at h
    ·rename_i F
     obtain⟨rfl,q,rfl,rfl,rfl,rfl,i,w⟩:=F
     obtain⟨rfl,C,y,B⟩:=h
     rw[M] at a
     unfold pendK at a
     split at a
     ·rename_i j' W Y
      injection Y with e1 N e3
      subst e1 N e3
      split at a
      ·rename_i s2 N L D
       split at a
       ·rename_i A
        injection a with a
        subst a
        refine⟨_,_,?_,B⟩
        have E:elemsA (gO o) t.sz (.os j 0 1 (1*t.sz))=some (1,gL L):=by
         simp only[elemsA,getI D,SObj.g,flatA,List.flatMap_nil,List.nil_append,gL_len]
         rw[if_pos ⟨by omega,A,by omega⟩,List.drop_zero,List.take_of_length_le (by grind[gL_len])]
        have J:oneL (gL L)=true:=by grind[oneS_g]
        simp only[effS,k,M,SV.g,appendA]
        simp only[E,J,Bool.true_eq_false,if_false,getI H,SObj.g,flatA_len,q]
        rw[if_pos ⟨trivial,trivial,trivial,trivial,C,y,.inl trivial⟩,gO_set,SObj.g]
        grind
       ·cases a
      ·cases a
     ·cases a
    simp_all
   simp_all
  simp_all
 ·rename_i t U _
  split at h
  ·rename_i z
   subst z
   obtain⟨f,V,d⟩:=elemsK_sound h
   have r:oneL (flatA t f)=true:=flatA_one _ _
   have c:pureL (flatA t f)=true:=flatA_pure _ _
   simp only[effS,appendA,V,r,Bool.true_eq_false,if_false]
   split at d
   ·rename_i k
    rw[k]
    simp only[SV.g]
    by_cases u:f.length=0
    ·exact⟨_,_,by simp only[u,if_true];rfl,d.1 u⟩
    ·obtain⟨q,i,w⟩:=d.2 u
     obtain⟨o',P,Q⟩:=mkK_sound w
     refine⟨_,o',?_,Q⟩
     simp only[SObj.g] at P
     rw[if_neg u,if_pos ⟨q,i,.inr c⟩,P]
     rfl
   ·rename_i S n G k
    split at d
    ·rename_i O l Z I H
     split at d
     ·rename_i F
      obtain⟨rfl,q,rfl⟩:=F
      obtain⟨rfl,i,w,C⟩:=d
      obtain⟨l',y,B⟩:=optK_some C
      obtain⟨rfl,T,X⟩:=castL_flat y
      refine⟨_,_,?_,B⟩
      rw[k]
      simp only[SV.g,getI H,SObj.g,flatA_len]
      rw[if_pos ⟨trivial,trivial,trivial,trivial,i,w,.inr c⟩,gO_set,SObj.g,flatA_app,T]
      grind
     simp_all
    simp_all
   ·rename_i O l k
    obtain⟨q,i⟩:=d
    refine⟨_,_,?_,i⟩
    simp_all[SV.g]
   simp_all
  simp_all
 simp_all
theorem mm_int {mx:Bool} {a b:Int}:(if mx then(if b>a then b else a) else(if b<a then b else a))=if mx then max a b else min a b:=by
 grind
theorem opK_sound (hC:SCallsOK call p.C) {op:IOp} {ρ:Operand→SV} (h:opK p op ρ o nid K):
  ∃(v:SV) (o':SStore),effS call op (fun x=>(ρ x).g) (gO o) nid=some (v.g,gO o')∧K v o':=by
 cases op with
 |mov x=>exact⟨_,_,rfl,h⟩
 |pick c a b=>
  simp only[opK] at h
  split at h
  ·rename_i hc;exact⟨_,_,by simp only[effS,hc,SV.g],h⟩
  ·rename_i hc;exact⟨_,_,by simp only[effS,hc,SV.g],h⟩
  ·rename_i c hc
   cases c with
   |true=>exact⟨_,_,by simp only[effS,hc,SV.g],h.1 rfl⟩
   |false=>exact⟨_,_,by simp only[effS,hc,SV.g],h.2 rfl⟩
  ·exact h.elim
 |alloc z e pu=>
  obtain⟨o',hm,hk⟩:=mkK_sound h
  simp only[SObj.g,gL_ofCell] at hm
  exact⟨_,o',by simp only[effS,hm,Option.map_some,SV.g],hk⟩
 |box e x=>
  simp only[opK] at h
  split at h
  ·rename_i h1
   obtain⟨o',hm,hk⟩:=mkK_sound h
   simp only[SObj.g] at hm
   exact⟨_,o',by simp only[effS,cellsOf_g,oneS_g,h1,if_true,gL_len,hm,Option.map_some,SV.g],hk⟩
  ·exact h.elim
 |build z parts=>
  simp only[opK] at h
  obtain⟨cs,h1,h2⟩:=optK_some h
  have:=fill_rho h1
  rw[gL_ofCell] at this
  exact⟨_,_,by simp only[effS,this,Option.map_some,SV.g],h2⟩
 |mkrow z len parts e sz=>
  simp only[opK] at h
  split at h
  ·rename_i s cs hs hf
   split at h
   ·rename_i hsz
    split at h
    ·rename_i hany
     split at h
     ·rename_i hlen
      obtain⟨o',hm,hk⟩:=mkK_sound h
      simp only[SObj.g,flatA,List.flatMap_nil,List.nil_append] at hm
      have hfa:=fill_rho2 hf
      rw[gL_rep] at hfa
      refine⟨_,o',?_,hk⟩
      subst hsz
      have hp:pureL (gL cs)=false:=by
       clear hf hfa hm hlen h
       induction cs with
       |nil=>simp at hany
       |cons c cs ih=>
        simp only[List.any_cons,Bool.or_eq_true] at hany
        simp only[gL,pureL]
        rcases hany with hc|hc
        ·have h9:c.g.pure=false:=by
          cases c with
          |ow a b d=>simp[SV.g,AV.pure]
          |_=>simp[SV.isOw] at hc
         rw[h9,Bool.false_and]
        ·have ih2:=ih hc
         rw[ih2,Bool.and_false]
      simp only[effS,hfa,hp,qnL,Bool.false_eq_true,if_false,hm,Option.map_some,SV.g]
     ·exact h.elim
    obtain⟨l,h1,h2⟩:=optK_some h
    obtain⟨h3,h4⟩:=decL_g h1
    obtain⟨o',hm,hk⟩:=mkK_sound h2
    simp only[SObj.g] at hm
    have hfa:=fill_rho2 hf
    rw[gL_rep] at hfa
    refine⟨_,o',?_,hk⟩
    subst hsz
    rw[gL_qn] at h3
    have hp:pureL (gL cs)=true:=(qnL_plain (pu:=true) (cs:=gL cs) fun c hc=>flatA_plain (s:=s) (l:=l) (by rw[←h3];exact hc)).2
    have hq:qnL true (gL cs)=flatA s l:=h3
    simp only[effS,hfa,hp,hq,hm,Option.map_some,SV.g]
   ·exact h.elim
  ·exact h.elim
 |mkimm z len parts e sz=>
  simp only[opK] at h
  split at h
  ·rename_i s cs hs hf
   split at h
   ·rename_i hsz
    obtain⟨l,h1,h2⟩:=optK_some h
    obtain⟨h3,h4⟩:=decL_g h1
    have hfa:=fill_rho2 hf
    rw[gL_rep] at hfa
    rw[gL_qn] at h3
    have hp:pureL (gL cs)=true:=(qnL_plain (pu:=true) (cs:=gL cs) fun c hc=>flatA_plain (s:=s) (l:=l) (by rw[←h3];exact hc)).2
    have hq:qnL true (gL cs)=flatA s l:=h3
    exact⟨_,_,by simp only[effS,hfa,hp,hq,if_true,SV.g,h4],h2⟩
   ·exact h.elim
  ·exact h.elim
 |load n a=>
  simp only[opK] at h
  obtain⟨cs,off,v,h1,h2,h3⟩:=loadK_sound h
  exact⟨v,o,by simp only[effS,h1,h2,Option.map_some],h3⟩
 |store n a x=>exact opK_store h
 |nilc x=>
  simp only[opK] at h
  split at h
  ·rename_i hx;exact⟨_,_,by simp only[effS,hx,SV.g],h⟩
  ·rename_i hx;exact⟨_,_,by simp only[effS,hx,SV.g],h⟩
  ·rename_i hx;exact⟨_,_,by simp only[effS,hx,SV.g],h⟩
  ·exact h.elim
 |bin op x y=>
  simp only[opK] at h
  obtain⟨a,b,v,v',h1,h2,h3,h4,h5⟩:=binK_sound h
  exact⟨v',o,by simp only[effS,h1,h2,h3,Option.map_some,h4],h5⟩
 |beq neg x y=>
  simp only[opK] at h
  split at h
  ·rename_i a b h1 h2
   exact⟨_,_,by simp only[effS,boo_g h1,boo_g h2,SV.g],h⟩
  ·exact h.elim
 |eqf neg ks x y=>
  simp only[opK] at h
  split at h
  ·rename_i a b h1 h2
   split at h
   ·rename_i hk
    obtain⟨r,hr,h3⟩:=optK_some h
    exact⟨_,_,by simp only[effS,h1,h2,SV.g,feq_sound hk hr,Option.map_some],h3⟩
   ·exact h.elim
  ·exact h.elim
 |pnil neg x y=>
  simp only[opK] at h
  split at h
  ·rename_i h1 h2
   exact⟨_,_,by simp only[effS,h1,h2,SV.g],h⟩
  ·rename_i h1 h2
   exact⟨_,_,by simp only[effS,h1,h2,SV.g],h⟩
  ·exact h.elim
 |un op x=>
  simp only[opK] at h
  split at h
  ·rename_i hx;exact⟨_,_,by simp only[effS,hx,SV.g,unA,Option.map_some],h⟩
  ·rename_i hx;exact⟨_,_,by simp only[effS,hx,SV.g,unA,Option.map_some],h⟩
  ·rename_i k n hx
   refine⟨_,_,?_,h.2⟩
   have:(0:Int) - n= -n:=by omega
   simp only[effS,hx,SV.g,unA,Option.map_some,this,wrapI_in h.1]
  ·rename_i hx;exact⟨_,_,by simp only[effS,hx,SV.g,unA,Option.map_some],h⟩
  ·exact h.elim
 |conv k x=>
  simp only[opK] at h
  split at h
  ·rename_i hx;exact⟨_,_,by simp only[effS,hx,SV.g],h⟩
  ·rename_i hx;exact⟨_,_,by simp only[effS,hx,SV.g,wrapI_in h.1],h.2⟩
  ·rename_i kk n _ hx;exact⟨.si k (wrapI k n),_,by simp only[effS,hx,SV.g],rngK_sound h⟩
  ·exact h.elim
 |fieldA off x=>
  simp only[opK] at h
  split at h
  ·rename_i hx;exact⟨_,_,by simp only[effS,hx,SV.g,addA,Option.map_some],h⟩
  ·rename_i hx;exact⟨_,_,by simp only[effS,hx,SV.g,addA,Option.map_some,Nat.add_assoc],h⟩
  ·rename_i hx;exact⟨_,_,by simp only[effS,hx,SV.g,addA,Option.map_some,Nat.add_assoc],h⟩
  ·exact h.elim
 |field off n x=>
  simp only[opK] at h
  split at h
  ·rename_i cs hx
   obtain⟨v,h1,h2⟩:=optK_some h
   exact⟨_,_,by simp only[effS,hx,SV.g,partS_g h1,Option.map_some],h2⟩
  ·exact h.elim
 |idxA len sz x i=>
  simp only[opK] at h
  split at h
  ·rename_i k n hi
   split at h
   ·rename_i hn
    split at h
    ·rename_i hx;exact⟨_,_,by simp only[effS,hi,hx,SV.g,intA,if_pos hn,addA,Option.map_some],h⟩
    ·rename_i hx;exact⟨_,_,by simp only[effS,hi,hx,SV.g,intA,if_pos hn,addA,Option.map_some,Nat.add_assoc],h⟩
    ·rename_i hx;exact⟨_,_,by simp only[effS,hi,hx,SV.g,intA,if_pos hn,addA,Option.map_some,Nat.add_assoc],h⟩
    ·exact h.elim
   ·exact h.elim
  ·rename_i k n hi
   split at h
   ·rename_i hx;exact⟨_,_,by simp only[effS,hi,hx,SV.g,intA,if_pos (And.intro h.1 h.2.1),addA,Option.map_some],h.2.2⟩
   ·exact h.elim
  ·exact h.elim
 |idxS sz x i=>
  simp only[opK] at h
  split at h
  ·rename_i n hi
   have hi:=intS_g hi
   split at h
   ·rename_i s l hx
    split at h
    ·rename_i hsz
     subst hsz
     obtain⟨h1,h2,h3⟩:=h
     refine⟨_,_,?_,h3⟩
     simp only[effS,hi,hx,SV.g,idxSA,flatA_len]
     rw[if_pos ⟨h1,h2,trivial⟩]
     simp
    ·exact h.elim
   ·rename_i id m sz' hx
    split at h
    ·rename_i s l e pu ho
     split at h
     ·rename_i hsz
      obtain⟨rfl,rfl⟩:=hsz
      obtain⟨rfl,h1,h2,h3⟩:=h
      refine⟨_,_,?_,h3⟩
      simp only[effS,hi,hx,SV.g,idxSA,getI ho,SObj.g,flatA_len]
      rw[offR_le (Nat.zero_le _),if_pos ⟨trivial,trivial,h1,h2,by omega⟩]
      simp
     ·exact h.elim
    ·exact h.elim
   ·rename_i id off len m sz' hx
    split at h
    ·rename_i s l e pu ho
     split at h
     ·rename_i hsz
      obtain⟨rfl,rfl⟩:=hsz
      obtain⟨rfl,h1,h2,h4,h3⟩:=h
      refine⟨_,_,?_,h3⟩
      have hm:(off+len)*s.sz≤l.length*s.sz:=Nat.mul_le_mul_right _ h4
      rw[Nat.add_mul] at hm
      simp only[effS,hi,hx,SV.g,idxSA,getI ho,SObj.g,flatA_len]
      rw[offR_le (by omega),if_pos ⟨trivial,trivial,h1,h2,hm⟩]
      simp[Nat.add_mul]
     ·exact h.elim
    ·exact h.elim
   ·rename_i id off len m sz' hx
    split at h
    ·rename_i s l e pu ho
     split at h
     ·rename_i hsz
      obtain⟨rfl,rfl⟩:=hsz
      obtain⟨rfl,h1,h2,h4,h3⟩:=h
      refine⟨_,_,?_,h3⟩
      have hm:(off+len)*s.sz≤l.length*s.sz:=Nat.mul_le_mul_right _ h4
      have hp:=sz_pos s
      rw[Nat.add_mul] at hm
      simp only[effS,hi,hx,SV.g,idxSA,getI ho,SObj.g,flatA_len]
      rw[offR_gt (by omega),show off*s.sz+(l.length*s.sz+s.sz) - l.length*s.sz - s.sz=off*s.sz by omega,if_pos ⟨trivial,trivial,h1,h2,hm⟩]
      simp[Nat.add_mul]
     ·exact h.elim
    ·exact h.elim
   ·exact h.elim
  ·exact h.elim
 |idx len sz n x i=>
  simp only[opK] at h
  split at h
  ·rename_i k' k cs hi hx
   split at h
   ·rename_i hk
    obtain⟨v,h1,h2⟩:=optK_some h
    exact⟨_,_,by simp only[effS,hi,hx,SV.g,intA,if_pos hk,partS_g h1,Option.map_some],h2⟩
   ·exact h.elim
  ·rename_i k' k cs hi hx
   split at h
   ·rename_i l _ _ hl
    split at h
    ·rename_i hll
     obtain⟨h1,h2,h3⟩:=h
     refine⟨_,_,?_,h3⟩
     obtain⟨h4,h5⟩:=ints_all hl
     have h6:=h5 k.toNat (by omega)
     simp only[effS,hi,hx,SV.g,intA,if_pos (And.intro h1 h2),Nat.mul_one,partA,gL_get,h6,Option.map_some]
    ·exact h.elim
   ·exact h.elim
  ·exact h.elim
 |idxStr x i=>simp only[opK] at h
 |mkslice z e sz bytes l c pu=>
  simp only[opK] at h
  split at h
  ·rename_i n m s hn hm hs
   have hn:=intS_g hn
   have hm:=intS_g hm
   split at h
   ·rename_i hsz
    subst hsz
    obtain⟨x,hx,h1,h2,h3,h4,h5⟩:=optK_some h
    obtain⟨o',hmk,hk⟩:=mkK_sound h5
    refine⟨_,o',?_,hk⟩
    have hd:=decS_g hx
    rw[←gL_map,gL_qnL,gL_ofCell] at hd
    simp only[SObj.g] at hmk
    simp only[effS,hn,hm]
    rw[if_pos ⟨h1,h2,h3,h4⟩,hd,rep_flat,hmk]
    simp[SV.g]
   ·exact h.elim
  ·exact h.elim
 |slice sz x lo hi=>
  simp only[opK] at h
  split at h
  ·rename_i s l hx
   split at h
   ·rename_i hsz
    subst hsz
    obtain⟨a,ha,h1⟩:=boundK_sound h
    obtain⟨b,hb,h2,h3,h4⟩:=boundK_sound h1
    refine⟨_,_,?_,h4⟩
    rw[map_opt_rho] at ha hb
    have hlen:((l.drop a).take (b - a)).length=b - a:=by simp;omega
    simp only[effS,hx,SV.g,sliceA,ha,hb,flatA_len,and_true,if_pos (And.intro h2 h3),Option.map_some,flatA_sub,hlen]
   ·exact h.elim
  ·rename_i id m sz' hx
   split at h
   ·rename_i s l e pu ho
    split at h
    ·rename_i hsz
     obtain⟨rfl,rfl⟩:=hsz
     obtain⟨rfl,h⟩:=h
     obtain⟨a,ha,h1⟩:=boundK_sound h
     obtain⟨b,hb,h2,h3,h4⟩:=boundK_sound h1
     refine⟨_,_,?_,h4⟩
     rw[map_opt_rho] at ha hb
     simp only[effS,hx,SV.g,sliceA,ha,hb,getI ho,SObj.g,flatA_len]
     rw[if_pos ⟨h2,h3,trivial,trivial⟩]
     simp
    ·exact h.elim
   ·exact h.elim
  ·rename_i id off len m sz' hx
   split at h
   ·rename_i s l e pu ho
    split at h
    ·rename_i hsz
     obtain⟨rfl,rfl⟩:=hsz
     obtain⟨rfl,h⟩:=h
     obtain⟨a,ha,h1⟩:=boundK_sound h
     obtain⟨b,hb,h2,h3,h4⟩:=boundK_sound h1
     refine⟨_,_,?_,h4⟩
     rw[map_opt_rho] at ha hb
     simp only[effS,hx,SV.g,sliceA,ha,hb,getI ho,SObj.g,flatA_len]
     rw[if_pos ⟨h2,h3,trivial,trivial⟩]
     simp[Nat.add_mul]
    ·exact h.elim
   ·exact h.elim
  ·exact h.elim
 |slice3 sz x lo hi mx=>
  simp only[opK] at h
  split at h
  ·rename_i s l hx
   split at h
   ·rename_i hsz
    subst hsz
    obtain⟨a,ha,h1⟩:=boundK_sound h
    obtain⟨b,hb,h2⟩:=boundK_sound h1
    obtain⟨m,hm,h3,h4,h5,h6⟩:=boundK_sound h2
    refine⟨_,_,?_,h6⟩
    rw[map_opt_rho] at ha
    simp only[Option.map_some] at hb hm
    have hlen:((l.drop a).take (b - a)).length=b - a:=by simp;omega
    simp only[effS,hx,SV.g,sliceA3,ha,hb,hm,flatA_len,and_true,if_pos (And.intro h3 (And.intro h4 h5)),Option.map_some,flatA_sub,hlen]
   ·exact h.elim
  ·rename_i id n sz' hx
   split at h
   ·rename_i s l e pu ho
    split at h
    ·rename_i hsz
     obtain⟨rfl,rfl⟩:=hsz
     obtain⟨rfl,h⟩:=h
     obtain⟨a,ha,h1⟩:=boundK_sound h
     obtain⟨b,hb,h2⟩:=boundK_sound h1
     obtain⟨m,hm,h3,h4,h5,h6⟩:=boundK_sound h2
     refine⟨_,_,?_,h6⟩
     rw[map_opt_rho] at ha
     simp only[Option.map_some] at hb hm
     simp only[effS,hx,SV.g,sliceA3,ha,hb,hm,getI ho,SObj.g,flatA_len]
     rw[if_pos ⟨h3,h4,h5,trivial,trivial,by omega,sz_pos _⟩]
     simp
    ·exact h.elim
   ·exact h.elim
  ·exact h.elim
 |sliceStr x lo hi=>simp only[opK] at h
 |append e sz bytes s x pu=>exact opK_append h
 |len k x=>
  simp only[opK] at h
  split at h
  ·rename_i hx;exact⟨_,_,by simp only[effS,hx,SV.g,lenA,Option.map_some],h⟩
  ·rename_i hx;exact⟨_,_,by simp only[effS,hx,SV.g,lenA,Option.map_some],h⟩
  ·rename_i hx;exact⟨_,_,by simp only[effS,hx,SV.g,lenA,Option.map_some],h⟩
  ·rename_i hx;exact⟨_,_,by simp only[effS,hx,SV.g,lenA,Option.map_some],h⟩
  ·rename_i hx;exact⟨_,_,by simp only[effS,hx,SV.g,lenA,Option.map_some];rfl,h⟩
  ·rename_i hx;exact⟨_,_,by simp only[effS,hx,SV.g,lenA,Option.map_some],h⟩
  ·rename_i id hx
   split at h
   ·rename_i sk sv ka es kt pu ho
    exact⟨_,_,by simp only[effS,hx,SV.g,lenA,getI ho,SObj.g,List.length_map,Option.map_some],h⟩
   ·exact h.elim
  ·exact h.elim
 |lenArr n=>exact⟨_,_,rfl,h⟩
 |mm mx x y=>
  simp only[opK] at h
  split at h
  ·rename_i hx hy
   split at h
   ·rename_i hk
    exact⟨_,_,by simp only[effS,hx,hy,SV.g,if_pos hk],h⟩
   ·exact h.elim
  ·rename_i k a hx
   obtain⟨b,hb,h2⟩:=optK_some h
   exact⟨_,_,by simp only[effS,hx,int_g hb,SV.g,if_true,mm_int],h2⟩
  ·rename_i k a hx _
   obtain⟨b,hb,h2⟩:=optK_some h
   exact⟨_,_,by simp only[effS,hx,int_g hb,SV.g,if_true,mm_int],h2⟩
  ·exact h.elim
 |call f args own=>
  simp only[opK] at h
  obtain⟨v,o',h1,h2⟩:=callK_sound hC h
  rw[gL_rho] at h1
  exact⟨v,o',by simp only[effS,h1],h2⟩
 |callv f args own=>
  simp only[opK] at h
  split at h
  ·rename_i g first captured hf
   obtain⟨v,o',h1,h2⟩:=callK_sound hC h
   rw[gL_app,gL_app,gL_rho] at h1
   exact⟨v,o',by simp only[effS,hf,SV.g,h1],h2⟩
  ·exact h.elim
 |extract x i=>
  simp only[opK] at h
  split at h
  ·rename_i vs hx
   obtain⟨v,h1,h2⟩:=optK_some h
   exact⟨_,_,by simp only[effS,hx,SV.g,gL_get,h1,Option.map_some],h2⟩
  ·exact h.elim
 |mkfn f first captured=>exact⟨_,_,by simp only[effS,SV.g,gL_rho],h⟩
 |mkif t x=>
  simp only[opK] at h
  split at h
  ·rename_i cs hx
   split at h
   ·rename_i hp
    exact⟨_,_,by simp only[effS,hx,SV.g,if_pos (pureS_g cs hp)],h⟩
   ·exact h.elim
  ·exact h.elim
 |callm tab x args=>
  simp only[opK] at h
  split at h
  ·rename_i t cs hx
   split at h
   ·rename_i f hf
    obtain⟨v,o',h1,h2⟩:=callK_sound hC h
    simp only[gL,SV.g,gL_rho] at h1
    exact⟨v,o',by simp only[effS,hx,SV.g,hf,h1],h2⟩
   ·exact h.elim
  ·exact h.elim
 |mkmap kt pu=>
  simp only[opK] at h
  split at h
  ·rename_i sk sv hs
   obtain⟨o',hm,hk⟩:=mkK_sound h
   simp only[SObj.g,List.map_nil] at hm
   exact⟨_,o',by simp only[effS,hm,Option.map_some,SV.g],hk⟩
  ·exact h.elim
 |lookup z agg ks ka x k ok=>
  simp only[opK] at h
  split at h
  ·rename_i id hx
   split at h
   ·rename_i sk sv ka' es kt pu ho
    split at h
    ·rename_i hh
     obtain⟨rfl,rfl,h1,h2,rfl,h4,h5,h6⟩:=hh
     obtain⟨kv,hkv,h7⟩:=optK_some h
     obtain⟨zv,hzv,h8⟩:=optK_some h7
     have hkey:=keyA_sound h5 h6 (keyed_flat h1) hkv
     have hz:zeroA z false=some (valA sv zv):=by
      have hd:=decS_g hzv
      rw[map_ofCell,valA_enc h2] at hd
      cases z with
      |nil=>simp at hd
      |cons a r=>
       cases r with
       |nil=>simp only[List.map_cons,List.map_nil,List.cons.injEq,and_true] at hd;simp[zeroA,hd]
       |cons=>simp at hd
     obtain⟨r,hr,hm⟩:=findM_sound (sv:=sv) h1 h4 kv es 0
     refine⟨_,_,?_,h8⟩
     simp only[effS,hx,SV.g,hkey,getI ho,SObj.g,if_true,hr,hz]
     cases hf:findT sk sv kv es with
     |some v=>
      rw[hf] at hm
      obtain⟨j,rfl,_⟩:=hm
      simp only[Option.getD_some]
      cases ok<;>simp only[Bool.false_eq_true,if_false,if_true,SV.g,gL,valA_head h2,Option.isSome_some,Option.isSome_none]
     |none=>
      rw[hf] at hm
      obtain⟨rfl,_⟩:=hm
      simp only[Option.getD_none]
      cases ok<;>simp only[Bool.false_eq_true,if_false,if_true,SV.g,gL,valA_head h2,Option.isSome_some,Option.isSome_none]
    ·exact h.elim
   ·exact h.elim
  ·exact h.elim
 |mapset ks ka x k v=>
  simp only[opK] at h
  split at h
  ·rename_i id hx
   split at h
   ·rename_i sk sv ka' es kt pu ho
    split at h
    ·rename_i hh
     obtain⟨rfl,rfl,h1,h2,h4,h5,h6,h9⟩:=hh
     obtain⟨kv,hkv,h7⟩:=optK_some h
     obtain⟨vv,hvv,h8⟩:=optK_some h7
     have hkey:=keyA_sound h5 h6 (keyed_flat h1) hkv
     have hv:(ρ v).g=valA sv vv:=by
      have hd:=decS_g hvv
      rw[valA_enc h2] at hd
      have hc:(ρ v).cellsOf=[ρ v]:=by
       revert h9
       cases ρ v<;>simp[SV.cellsOf,aggIs]
      rw[hc] at hd
      simpa using hd
     obtain⟨r,hr,hm⟩:=findM_sound (sv:=sv) h1 h4 kv es 0
     refine⟨_,_,?_,h8⟩
     have hpure:(valA sv vv).pure=true:=by simp[valA,AV.pure]
     simp only[effS,hx,SV.g,hkey,getI ho,SObj.g,hv,hpure,hr,gO_set]
     rw[if_neg (by simp)]
     cases hf:findT sk sv kv es with
     |some w=>
      rw[hf] at hm
      obtain⟨j,rfl,h10,h11⟩:=hm
      rw[setT_some h10 h11]
      simp only[Nat.zero_add]
      rw[map_modify_const]
     |none=>
      rw[hf] at hm
      obtain⟨rfl,h10⟩:=hm
      rw[setT_none h10]
      simp
    ·exact h.elim
   ·exact h.elim
  ·exact h.elim
end
mutual
theorem frz_bel {o:Store} {k:Nat}:∀{v:AV},v.bel k=true→v.frz o (fun i=>decide (k≤i))=some v
 | .os m d j e,h=>by
  simp_all[AV.bel,AV.frz,if_neg]
 | .ptr m d e,h=>by
  simp_all[AV.bel,AV.frz,if_neg]
 | .agg g,h=>by simp only[AV.bel] at h;simp only[AV.frz,frzL_bel h,Option.map_some]
 | .tup g,h=>by simp only[AV.bel] at h;simp only[AV.frz,frzL_bel h,Option.map_some]
 | .fn f a b,h=>by
  simp only[AV.bel,Bool.and_eq_true] at h
  simp only[AV.frz,frzL_bel h.1,frzL_bel h.2]
 | .ud,_| .sc _,_| .sl _ _,_| .ep _ _,_| .mp _,_| .ifc _ _,_=>by simp only[AV.frz]
theorem frzL_bel {o:Store} {k:Nat}:∀{l:List AV},belL k l=true→frzL o (fun i=>decide (k≤i)) l=some l
 |[],_=>by simp[frzL]
 |c::g,h=>by
  simp only[belL,Bool.and_eq_true] at h
  simp only[frzL,frz_bel h.1,frzL_bel h.2]
end
theorem frzM_bel {o:Store} {k:Nat}:∀{l:List (Value×AV)},belL k (l.map (·.2))=true→frzM o (fun i=>decide (k≤i)) l=some l
 |[],_=>by simp[frzM]
 |(q,c)::a,h=>by
  simp only[List.map_cons,belL,Bool.and_eq_true] at h
  simp only[frzM,frz_bel h.1,frzM_bel h.2]
theorem ofrz_bel {o:Store} {k:Nat} {x:AObj} (h:x.bel k=true):x.frz o (fun i=>decide (k≤i))=some x:=by
 cases x with
 |dead=>rfl
 |cells b e f a=>
  cases a with
  |true=>simp only[AObj.frz,if_true]
  |false=>simp_all[AObj.bel,AObj.frz,frzL_bel]
 |map d c a=>
  cases a with
  |true=>simp only[AObj.frz,if_true]
  |false=>simp_all[AObj.bel,AObj.frz,frzM_bel]
theorem frzS_bel {o:Store} {k:Nat}:∀{r:Store},(∀x∈r,x.bel k=true)→frzS o (fun i=>decide (k≤i)) r=some r
 |[],_=>rfl
 |x::r,h=>by
  simp only[frzS,ofrz_bel (h x (by simp)),frzS_bel (r:=r) fun y a=>h y (by simp[a])]
theorem dropPu_take {k:Nat}:∀{o:Store} {i:Nat},(dropPu (fun j=>decide (k≤j)) i o).take (k - i)=o.take (k - i)
 |[],i=>by simp[dropPu]
 |x::r,i=>by
  simp only[dropPu]
  by_cases a:i<k
  ·rw[show k - i=(k - (i+1))+1 from by omega,List.take_succ_cons,List.take_succ_cons,dropPu_take]
   grind
  simp_all
theorem mem_range_c {k i:Nat} (h:i<k):(List.range k).contains i=true:=by simp[h]
theorem reach_bel {o:Store} {k:Nat}:∀{d:Nat} {vs:List AV},belL k vs=true→reachF o d vs (List.range k)=List.range k:=by
 intro d
 induction d with
 |zero=>grind[reachF]
 |succ d e=>
  intro vs h
  cases vs with
  |nil=>simp[reachF]
  |cons v vs=>
   simp only[belL,Bool.and_eq_true] at h
   have i:=h.1
   simp only[reachF]
   cases v with
   |agg g=>grind[AV.bel]
   |tup g=>grind[AV.bel]
   |fn f a b=>grind[AV.bel]
   |ptr c _ _=>simp_all[AV.bel]
   |os c _ _ _=>simp_all[AV.bel]
   |mp c=>simp_all[AV.bel]
   |_=>simp only[e h.2]
theorem idxOf_range':∀{n s i p:Nat},s≤i→i<s+n→idxOf (List.range' s n) i p=some (p+(i - s))
 |0,s,i,p,a,b=>by omega
 |n+1,s,i,p,a,b=>by
  simp only[List.range'_succ,idxOf]
  by_cases h:s=i
  ·subst h;simp
  ·have:(s==i)=false:=by simpa using h
   rw[this]
   simp only[Bool.false_eq_true,if_false]
   rw[idxOf_range' (by omega) (by omega)]
   grind
theorem idxOf_range {k i:Nat} (h:i<k):idxOf (List.range k) i=some i:=by
 rw[List.range_eq_range',idxOf_range' (by omega) (by omega)]
 simp
mutual
theorem ren_bel {k:Nat}:∀{v:AV},v.bel k=true→v.ren (fun j=>idxOf (List.range k) j)=some v
 | .os g d m e,h=>by simp_all[AV.bel,AV.ren,idxOf_range]
 | .ptr g d e,h=>by simp_all[AV.bel,AV.ren,idxOf_range]
 | .mp g,h=>by simp_all[AV.bel,AV.ren,idxOf_range]
 | .agg i,h=>by simp only[AV.bel] at h;simp only[AV.ren,renL_bel h,Option.map_some]
 | .tup i,h=>by simp only[AV.bel] at h;simp only[AV.ren,renL_bel h,Option.map_some]
 | .fn f a b,h=>by
  simp only[AV.bel,Bool.and_eq_true] at h
  simp only[AV.ren,renL_bel h.1,renL_bel h.2]
 | .ud,_| .sc _,_| .sl _ _,_| .ep _ _,_| .ifc _ _,_=>by simp only[AV.ren]
theorem renL_bel {k:Nat}:∀{l:List AV},belL k l=true→renL (fun j=>idxOf (List.range k) j) l=some l
 |[],_=>by simp[renL]
 |c::i,h=>by
  simp only[belL,Bool.and_eq_true] at h
  simp only[renL,ren_bel h.1,renL_bel h.2]
end
theorem renM_bel {k:Nat}:∀{l:List (Value×AV)},belL k (l.map (·.2))=true→renM (fun j=>idxOf (List.range k) j) l=some l
 |[],_=>by simp[renM]
 |(q,c)::a,h=>by
  simp only[List.map_cons,belL,Bool.and_eq_true] at h
  simp only[renM,ren_bel h.1,renM_bel h.2]
theorem oren_bel {k:Nat} {x:AObj} (h:x.bel k=true):x.ren (fun j=>idxOf (List.range k) j)=some x:=by
 cases x with
 |dead=>rfl
 |cells b e f a=>
  cases a with
  |true=>simp only[AObj.ren,if_true]
  |false=>simp_all[AObj.bel,AObj.ren,renL_bel]
 |map d c a=>
  cases a with
  |true=>simp only[AObj.ren,if_true]
  |false=>simp_all[AObj.bel,AObj.ren,renM_bel]
theorem sub_range {k:Nat} {o:Store} (a:∀x∈o.take k,x.bel k=true) (c:k≤o.length):∀{n s:Nat},s+n=k→subStore o (List.range k) (List.range' s n)=some ((o.take k).drop s)
 |0,s,h=>by
  grind[subStore]
 |n+1,s,h=>by
  simp only[List.range'_succ,subStore]
  have d:s<o.length:=by omega
  have e:o[s]?=some o[s]:=List.getElem?_eq_getElem d
  rw[e,sub_range a c (by omega)]
  have f:o[s]∈o.take k:=by
   rw[List.mem_take_iff_getElem]
   grind
  simp only[oren_bel (a _ f),Option.map_some]
  congr 1
  have b:s<(o.take k).length:=by simp;omega
  rw[List.drop_eq_getElem_cons b]
  simp
theorem nodup_range':∀{n s:Nat},callOwn.nodupN (List.range' s n)=true
 |0,_=>by simp[callOwn.nodupN]
 |n+1,s=>by
  simp only[List.range'_succ,callOwn.nodupN,nodup_range',Bool.and_true,Bool.not_eq_true']
  grind
theorem belL_app {k:Nat}:∀{a b:List AV},belL k a=true→belL k b=true→belL k (a++b)=true
 |[],b,_,h=>h
 |x::a,b,h,c=>by
  simp only[belL,Bool.and_eq_true] at h
  simp only[List.cons_append,belL,h.1,belL_app h.2 c,Bool.and_self]
theorem avs_bel {k:Nat}:∀{o:Store},(∀x∈o,x.bel k=true)→belL k (o.flatMap finishOwn.AObj.avs)=true
 |[],_=>by simp[belL]
 |x::o,h=>by
  simp only[List.flatMap_cons]
  refine belL_app ?_ (avs_bel fun y a=>h y (by simp[a]))
  have b:=h x (by simp)
  cases x<;>grind[finishOwn.AObj.avs,belL,AObj.bel]
theorem finishOwn_bel {k:Nat} {r:AV} {o:Store} (e:r.bel k=true) (b:∀x∈o,x.bel k=true) (j:k≤o.length):finishOwn k r o=some (r,o.take k):=by
 unfold finishOwn
 rw[frz_bel e,frzS_bel b]
 simp only
 have a:(dropPu (fun i=>decide (k≤i)) 0 o).take k=o.take k:=by simpa using dropPu_take (k:=k) (o:=o) (i:=0)
 have d:∀{o:Store} {i:Nat},(dropPu (fun i=>decide (k≤i)) i o).length=o.length:=by
  intro o
  induction o with
  |nil=>intro i;rfl
  |cons x o l=>simp_all[dropPu]
 have h:∀x∈o.take k,x.bel k=true:=fun x g=>b x (List.mem_of_mem_take g)
 rw[a,reach_bel (by grind[belL,avs_bel])]
 have f:callOwn.nodupN (List.range k)=true:=by rw[List.range_eq_range'];exact nodup_range'
 rw[if_pos f,ren_bel e]
 have c:=sub_range (k:=k) (o:=dropPu (fun i=>decide (k≤i)) 0 o) (by simp_all) (by simp_all) (n:=k) (s:=0) (by omega)
 rw[←List.range_eq_range',a,List.drop_zero] at c
 rw[c]
theorem setE_g:∀{env:SEnv} {s:Nat} {v:SV},(getS env s).g=v.g→gE (setE env s v)=gE env
 |[],_,_,_=>rfl
 |p::r,s,v,h=>by
  simp only[setE,getS] at h ⊢
  cases a:Nat.beq p.1 s with
  |true=>
   simp_all[gE]
  |false=>
   rw[a] at h
   simp only[cond_false] at h ⊢
   have:=setE_g h
   grind[gE]
theorem wantK_sound {env:SEnv} {g:Option (Option Nat×Bool)} {K:SEnv→Bool→Prop} (h:wantK env g K):∃a w,gE a=gE env∧wantA (gE env) g=some w∧K a w:=by
 unfold wantK at h
 split at h
 ·exact⟨_,_,rfl,rfl,h⟩
 ·exact h.elim
 ·rename_i s b
  split at h
  ·grind[wantA,getS_g,SV.g]
  ·rename_i c d
   cases c<;>grind[setE_g,wantA,getS_g,SV.g]
  all_goals grind[wantA,getS_g,SV.g,gL]
section
variable {call:Oracle} {p:SPar}
theorem sameO_gg:∀{a b:SStore},sameO a b→gO a=gO b
 |[],[],_=>rfl
 |x::a,y::b,h=>by
  obtain⟨c,d⟩:=h
  have e:x.g=y.g:=c
  simp only[gO,List.map_cons,e]
  congr 1
  exact sameO_gg d
def TrLe:Trace→Trace→Prop
 |[],[]=>True
 |x::a,y::b=>(x.1=y.1∧x.2.1=y.2.1∧∀j∈x.2.2,j∈y.2.2)∧TrLe a b
 |_,_=>False
theorem TrLe.look:∀{a b:Trace} {i:Nat},TrLe a b→(lookT a i).1=(lookT b i).1∧∀j∈(lookT a i).2,j∈(lookT b i).2
 |[],[],_,_=>⟨rfl,fun j h=>h⟩
 |(k,x)::a,(g,y)::b,i,h=>by
  obtain⟨⟨c,e,d⟩,f⟩:=h
  simp only at c e d
  subst c
  simp only[lookT]
  split
  ·exact⟨e,d⟩
  ·exact TrLe.look f
theorem apartL_mono {a b d c:List Nat} (f:∀j∈a,j∈d) (e:∀j∈b,j∈c) (h:apartL d c=true):apartL a b=true:=by
 grind[apartL]
theorem chkOk_mono {n:Nat} {a b:Trace} {c:List (Nat×Nat)} (h:TrLe a b) (d:chkOk n b c=true):chkOk n a c=true:=by
 unfold chkOk at d ⊢
 rw[List.all_eq_true] at d ⊢
 intro p e
 have l:=d p e
 obtain⟨g,k⟩:=h.look (i:=p.1)
 obtain⟨f,j⟩:=h.look (i:=p.2)
 grind[apartL_mono]
theorem opsK_sound (u:SCallsOK call p.C) {base:Nat}:∀{d:List IOper} {st:SSt} {l:Trace} {K:SSt→Trace→Prop},opsK p base d st l K→
  ∃st' T,runOps call base d st.g=some st'.g∧TrLe (traceOps call base d st.g) T∧K st' (T.reverse++l)
 |[],st,l,K,h=>⟨st,[],rfl,trivial,h⟩
 |i::r,st,l,K,h=>by
  simp only[opsK] at h
  obtain⟨a,w,B,s,q⟩:=wantK_sound h
  have A:st.g=⟨gE a,gO st.o⟩:=by grind[SSt.g]
  rw[←B] at s
  cases w with
  |true=>
   simp only[if_true] at q
   obtain⟨v,y,E,c⟩:=opK_sound u q
   have b:runOp call base i st.g=some (SSt.g ⟨putS a i.dst v,y⟩):=by
    grind[runOp,evS_fun,eff_eq,SSt.g,putS_g]
   have k:∀W:List Nat,(∀j∈wrtC call i.op (fun x=>(evS a x).g) (gO st.o) (base+i.nid),j∈W)→
     opsK p base r ⟨putS a i.dst v,y⟩ ((i.idx,tch i.op (fun x=>(evS a x).g) (st.o.map SObj.g) (base+i.nid),W)::l) K→
     ∃st' T,runOps call base (i::r) st.g=some st'.g∧TrLe (traceOps call base (i::r) st.g) T∧K st' (T.reverse++l):=fun W G c=>by
    obtain⟨st',T,D,z,F⟩:=opsK_sound u c
    refine⟨st',(i.idx,tch i.op (fun x=>(evS a x).g) (st.o.map SObj.g) (base+i.nid),W)::T,by grind[runOps],?_,?_⟩
    ·simp only[traceOps,b]
     rw[A]
     simp only[s,evS_fun]
     exact⟨⟨rfl,rfl,G⟩,z⟩
    simp_all
   unfold roK at c
   split at c
   ·rename_i f n t
    split at c
    ·obtain⟨H,c⟩:=c
     refine k [] (fun j m=>?_) c
     rw[t] at E m
     have e:callOwn call f (n.map fun x=>(evS a x).g) (gO st.o)=some (v.g,gO y):=by simp_all[effS,callA]
     simp only[wrtC,e,List.mem_filter,decide_eq_true_eq] at m
     grind[sameO_gg]
    ·exact k _ (fun j m=>wrtC_sub m) c
   ·exact k _ (fun j m=>wrtC_sub m) c
  |false=>
   simp only[Bool.false_eq_true,if_false] at q
   obtain⟨st',T,D,z,F⟩:=opsK_sound u q
   have b:runOp call base i st.g=some (SSt.g ⟨putS a i.dst (.tup []),st.o⟩):=by
    grind[runOp,SSt.g,putS_g,SV.g,gL]
   refine⟨st',(i.idx,[],[])::T,by grind[runOps],?_,?_⟩
   ·simp only[traceOps,b]
    rw[A]
    simp only[s]
    exact⟨⟨rfl,rfl,fun j h=>h⟩,z⟩
   simp_all
theorem deads_g (k:Nat):gO (List.replicate k .dead)=deads k:=by simp[gO,deads,SObj.g]
theorem gO_app (a b:SStore):gO (a++b)=gO a++gO b:=by simp[gO]
theorem isDead_g (x:SObj):x.g.isDead=x.isDead:=by cases x<;>rfl
theorem sweepS_g (base:Nat) (o:SStore):gO (sweepS base o)=sweep base (gO o):=by
 unfold sweepS sweep
 have:((gO o).drop base).all (·.isDead)=(o.drop base).all (·.isDead):=by
  simp only[gO,←List.map_drop,List.all_map]
  grind[isDead_g]
 rw[this]
 cases(o.drop base).all (·.isDead)
 ·rfl
 ·simp[gO]
theorem regK_sound (i:SCallsOK call p.C) {k:Nat} {b:List IOper} {a:List (Nat×Nat)} {st:SSt} {K:SSt→Prop} (h:regK p k b a st K):∃st',runReg call k b a st.g=some st'.g∧K st':=by
 unfold regK at h
 obtain⟨st',T,f,j,d⟩:=opsK_sound i h
 rw[List.append_nil,List.reverse_reverse] at d
 have e:(SSt.mk st.env (st.o++List.replicate k .dead)).g=⟨st.g.env,st.g.o++deads k⟩:=by simp[SSt.g,gO_app,deads_g]
 rw[e] at f j
 have c:st.g.o.length=st.o.length:=by simp[SSt.g,gO_len]
 split at d
 ·rename_i l
  refine⟨_,?_,d⟩
  simp only[runReg,c]
  rw[f]
  simp only
  rw[if_pos (by
   grind[deads,chkOk_mono])]
  grind[SSt.g,sweepS_g]
 simp_all
end
theorem isNil_g {v:SV}:isNil v=true↔v.g= .sc (.slice none 0 0):=by
 constructor
 ·intro h
  unfold isNil at h
  split at h
  ·rfl
  ·cases h
 ·intro h
  cases v<;>simp only[SV.g,reduceCtorEq,AV.sc.injEq] at h
  subst h
  rfl
section
variable {o:SStore} {id:Nat} {s:SId} {l:List s.T} {e:TypeId}
def pid (id:Nat):Nat→Bool:=fun i=>i==id
mutual
theorem frzV_sound (r:o[id]?=some (.row s l e true)):∀{v:SV} {K:SV→Prop},frzV id s l v K→∃E:SV,v.g.frz (gO o) (pid id)=some E.g∧K E
 | .ow j n A,K,h=>by
  simp only[frzV] at h
  split at h
  ·rename_i q
   subst q
   split at h
   ·rename_i u
    subst u
    obtain⟨rfl,D⟩:=h
    refine⟨_,?_,D⟩
    have I:List.take (l.length*s.sz) (flatA s l)=flatA s l:=List.take_of_length_le (by grind[flatA_len])
    simp_all[SV.g,AV.frz,pid,getI,SObj.g,flatA_len]
   simp_all
  ·rename_i q
   refine⟨_,?_,h⟩
   simp_all[SV.g,AV.frz,pid]
 | .os j w p n A,K,h=>by
  simp only[frzV] at h
  split at h
  ·rename_i q
   subst q
   split at h
   ·rename_i u
    subst u
    obtain⟨rfl,C,D⟩:=h
    refine⟨_,?_,D⟩
    have F:(w+p)*s.sz≤l.length*s.sz:=Nat.mul_le_mul_right _ C
    rw[Nat.add_mul] at F
    have B:((l.drop w).take p).length=p:=by simp;omega
    simp only[SV.g,AV.frz,pid,BEq.rfl,if_true,getI r,SObj.g,flatA_len,F,and_self,flatA_sub,B]
   simp_all
  ·rename_i q
   refine⟨_,?_,h⟩
   simp_all[SV.g,AV.frz,pid]
 | .oc j w p n A,K,h=>by
  simp only[frzV] at h
  split at h
  ·exact h.elim
  ·rename_i q
   exact⟨_,by simp_all[SV.g,AV.frz,pid],h⟩
 | .rp j i f n A,K,h=>by
  simp only[frzV] at h
  split at h
  ·exact h.elim
  ·rename_i q
   exact⟨_,by simp_all[SV.g,AV.frz,pid],h⟩
 | .ptr j f t,K,h=>by
  simp only[frzV] at h
  split at h
  ·exact h.elim
  ·rename_i q
   exact⟨_,by simp_all[SV.g,AV.frz,pid],h⟩
 | .ap j a b c d i,K,h=>by
  simp only[frzV] at h
  split at h
  ·exact h.elim
  ·rename_i q
   exact⟨_,by simp_all[SV.g,AV.frz,pid],h⟩
 | .agg x,K,h=>by
  simp only[frzV] at h
  obtain⟨m,z,y⟩:=frzVL_sound r h
  grind[SV.g,AV.frz]
 | .tup x,K,h=>by
  simp only[frzV] at h
  obtain⟨m,z,y⟩:=frzVL_sound r h
  grind[SV.g,AV.frz]
 | .fn f a b,K,h=>by
  simp only[frzV] at h
  obtain⟨M,z,y⟩:=frzVL_sound r h
  obtain⟨L,G,H⟩:=frzVL_sound r y
  grind[SV.g,AV.frz]
 | .ud,K,h=>⟨.ud,by grind[SV.g,AV.frz],by grind[frzV]⟩
 | .sc v,K,h=>⟨.sc v,by grind[SV.g,AV.frz],by grind[frzV]⟩
 | .il k n,K,h=>⟨.il k n,by grind[SV.g,AV.frz],by grind[frzV]⟩
 | .si k n,K,h=>⟨.si k n,by grind[SV.g,AV.frz],by grind[frzV]⟩
 | .bl b,K,h=>⟨.bl b,by grind[SV.g,AV.frz],by grind[frzV]⟩
 | .sb b,K,h=>⟨.sb b,by grind[SV.g,AV.frz],by grind[frzV]⟩
 | .row s l,K,h=>⟨.row s l,by grind[SV.g,AV.frz],by grind[frzV]⟩
 | .ep s l i f,K,h=>⟨.ep s l i f,by grind[SV.g,AV.frz],by grind[frzV]⟩
 | .mp i,K,h=>⟨.mp i,by grind[SV.g,AV.frz],by grind[frzV]⟩
 | .ia t x,K,h=>⟨.ia t x,by grind[SV.g,AV.frz],by grind[frzV]⟩
 | .ite c a b,K,h=>⟨.ite c a b,by grind[SV.g,AV.frz],by grind[frzV]⟩
theorem frzVL_sound (r:o[id]?=some (.row s l e true)):∀{x:List SV} {K:List SV→Prop},frzVL id s l x K→∃m:List SV,frzL (gO o) (pid id) (gL x)=some (gL m)∧K m
 |[],K,h=>⟨[],by simp[gL,frzL],by grind[frzVL]⟩
 |c::x,K,h=>by
  simp only[frzVL] at h
  obtain⟨J,z,y⟩:=frzV_sound r h
  obtain⟨m,G,H⟩:=frzVL_sound r y
  grind[gL,frzL]
end
theorem frzEK_sound (b:o[id]?=some (.row s l e true)):∀{env:SEnv} {K:SEnv→Prop},frzEK id s l env K→∃a,frzE (gO o) (pid id) (gE env)=some (gE a)∧K a
 |[],K,h=>⟨[],rfl,h⟩
 |(k,v)::r,K,h=>by
  simp only[frzEK] at h
  obtain⟨f,d,c⟩:=frzV_sound b h
  obtain⟨j,g,i⟩:=frzEK_sound b c
  grind[gE,frzE]
theorem frzL_plain {o:Store} {q:Nat→Bool}:∀{cs:List AV},(∀a∈cs,Plain a)→frzL o q cs=some cs
 |[],_=>by simp[frzL]
 |a::cs,h=>by
  have d:=frzL_plain (o:=o) (q:=q) (cs:=cs) fun b c=>h b (by simp[c])
  rcases h a (by simp) with⟨v,rfl,_⟩|⟨n,e,rfl,_⟩<;>simp only[frzL,AV.frz,d]
theorem frzM_sc {o:Store} {q:Nat→Bool}:∀{es:List (Value×AV)},(∀a∈es,∃v,a.2= .sc v)→frzM o q es=some es
 |[],_=>by simp[frzM]
 |(k,a)::es,h=>by
  obtain⟨v,b⟩:=h (k,a) (by simp)
  simp only at b
  subst b
  simp only[frzM,AV.frz,frzM_sc (es:=es) fun a c=>h a (by simp[c])]
theorem frzOK_sound (j:o[id]?=some (.row s l e true)):∀{i:Nat} {r:SStore} {K:SStore→Prop},frzOK id s l i r K→∃r' mid,frzS (gO o) (pid id) (gO r)=some mid∧dropPu (pid id) i mid=gO r'∧K r'
 |i,[],K,h=>⟨[],[],rfl,rfl,h⟩
 |i,x::r,K,h=>by
  cases x with
  |dead=>
   simp only[frzOK] at h
   obtain⟨r',mid,w,n,f⟩:=frzOK_sound j h
   grind[gO,SObj.g,frzS,AObj.frz,dropPu]
  |cells N p F d=>
   simp only[frzOK] at h
   cases d with
   |true=>
    simp only[if_true] at h
    split at h
    ·exact h.elim
    ·rename_i B
     obtain⟨r',mid,w,n,f⟩:=frzOK_sound j h
     refine⟨_,.cells (gL N) p F true::mid,?_,?_,f⟩
     all_goals simp_all[gO,SObj.g,frzS,AObj.frz,dropPu,pid]
   |false=>
    simp only[Bool.false_eq_true,if_false] at h
    obtain⟨A,z,k⟩:=frzVL_sound j h
    obtain⟨r',mid,w,n,f⟩:=frzOK_sound j k
    refine⟨_,.cells (gL A) p F false::mid,?_,?_,f⟩
    all_goals simp_all[gO,SObj.g,frzS,AObj.frz,dropPu]
  |rowp v u p t=>
   simp only[frzOK] at h
   split at h
   ·exact h.elim
   ·obtain⟨O,z,k⟩:=frzVL_sound j h
    split at k
    ·rename_i m M
     obtain⟨L,_⟩:=decL_g M
     obtain⟨r',mid,w,n,f⟩:=frzOK_sound j k
     refine⟨_,(SObj.row v (u++m) p false).g::mid,?_,?_,f⟩
     ·simp only[gO,List.map_cons,SObj.g] at w z ⊢
      have G:∀(a b c:List AV),frzL (List.map SObj.g o) (pid id) a=some a→frzL (List.map SObj.g o) (pid id) b=some c→frzL (List.map SObj.g o) (pid id) (a++b)=some (a++c):=fun a b c w n=>by
       induction a<;>grind[frzL]
      have P:frzL (List.map SObj.g o) (pid id) (flatA v u)=some (flatA v u):=frzL_plain (fun a C=>flatA_plain C)
      simp_all[frzS,AObj.frz,flatA_app]
     ·simp only[SObj.g,dropPu,n];rfl
    simp_all
  |row v u p d=>
   simp only[frzOK] at h
   have y:(SObj.row v u p d).g.frz (gO o) (pid id)=some (SObj.row v u p d).g:=by
    cases d with
    |true=>simp only[SObj.g,AObj.frz,if_true]
    |false=>
     simp only[SObj.g,AObj.frz,Bool.false_eq_true,if_false]
     grind[frzL_plain,flatA_plain]
   split at h
   ·rename_i B
    cases d with
    |false=>simp_all
    |true=>
     simp only[if_true] at h
     obtain⟨r',mid,w,n,f⟩:=frzOK_sound j h
     refine⟨_,(SObj.row v u p true).g::mid,?_,?_,f⟩
     all_goals simp_all[gO,frzS,SObj.g,dropPu,pid]
   ·rename_i B
    obtain⟨r',mid,w,n,f⟩:=frzOK_sound j h
    refine⟨_,(SObj.row v u p d).g::mid,?_,?_,f⟩
    ·grind[gO,frzS]
    ·cases d<;>simp only[SObj.g,dropPu,n,pid,beq_iff_eq,if_neg B]<;>rfl
  |map H D I E J d=>
   simp only[frzOK] at h
   have y:(SObj.map H D I E J d).g.frz (gO o) (pid id)=some (SObj.map H D I E J d).g:=by
    cases d with
    |true=>simp only[SObj.g,AObj.frz,if_true]
    |false=>
     simp only[SObj.g,AObj.frz,Bool.false_eq_true,if_false]
     rw[frzM_sc (fun a C=>by obtain⟨q,_,rfl⟩:=List.mem_map.1 C;exact⟨_,rfl⟩),Option.map_some]
   obtain⟨r',mid,w,n,f⟩:=frzOK_sound j h
   grind[gO,frzS,SObj.g,dropPu]
end
theorem idOf_g {v:SV}:(∃id,hintK.idOf v=some id∧∃a b c,v.g= .os id a b c)∨(hintK.idOf v=none∧∀id a b c,v.g≠ .os id a b c):=by
 cases v<;>simp[hintK.idOf,SV.g]
theorem hint_frz {p:SPar} {lo:Nat} {h:OwnH} {st:SSt} {K:SSt→Prop} {v:SV} (t:h.own=false) (f:cellH h st.g=some v.g)
  (d:match hintK.idOf v with
   |some id=>if Nat.ble lo id then(match st.o[id]? with
    |some (.row s l e pu)=>frzEK id s l st.env fun env=>frzOK id s l 0 (if pu then st.o else st.o.set id (.row s l e true)) fun o=>K ⟨env,o⟩
    |_=>False) else K st
   |none=>K st):∃st',ownH lo h st.g=st'.g∧K st':=by
 let _:=p
 unfold ownH
 rw[if_neg (by simp[t]),f]
 rcases @idOf_g v with⟨id,w,a,b,c,x⟩|⟨w,x⟩
 ·rw[w] at d
  rw[x]
  simp only at d ⊢
  split at d
  ·rename_i q
   rw[if_pos q]
   split at d
   ·rename_i s l e pu m
    have D:(fun i=>i==id)=pid id:=rfl
    cases pu with
    |true=>
     simp only[if_true] at d
     obtain⟨j,A,n⟩:=frzEK_sound m d
     obtain⟨B,u,C,y,r⟩:=frzOK_sound m n
     refine⟨_,?_,r⟩
     simp_all[purH,SSt.g,getI,SObj.g,frzH]
    |false=>
     simp only[Bool.false_eq_true,if_false] at d
     have z:id<st.o.length:=(List.getElem?_eq_some_iff.1 m).1
     have k:(st.o.set id (.row s l e true))[id]?=some (.row s l e true):=by simp_all
     obtain⟨j,A,n⟩:=frzEK_sound (o:=st.o.set id (.row s l e true)) k d
     obtain⟨B,u,C,y,r⟩:=frzOK_sound k n
     refine⟨_,?_,r⟩
     simp_all[purH,SSt.g,getI,SObj.g,flatA_pure,gO_set,frzH]
   simp_all
  grind
 grind
section
variable {p:SPar} {lo:Nat}
theorem hintK_sound {h:OwnH} {st:SSt} {K:SSt→Prop} (a:hintK p lo h st K):∃st',ownH lo h st.g=st'.g∧K st':=by
 unfold hintK at a
 split at a
 ·rename_i f
  unfold ownH
  rw[if_pos f]
  unfold ownH1
  split at a
  ·rename_i b
   simp only[b]
   split at a
   ·rename_i r
    have t:=isNil_g.1 r
    rw[←getS_g] at t
    have B:getE st.g.env h.slot= .sc (.slice none 0 0):=t
    rw[B]
    split at a
    ·rename_i s J
     split at a
     ·rename_i w
      refine⟨_,?_,a⟩
      simp[SSt.g,gE,gO,SV.g,SObj.g,flatA,w]
     simp_all
    simp_all
   ·rename_i r
    split at a
    ·rename_i z
     split at a
     ·rename_i m G D d
      have n:getE st.g.env h.slot= .os m 0 G (G*D):=by
       show getE (gE st.env) h.slot=_
       rw[getS_g,d];rfl
      rw[n]
      split at a
      ·rename_i s l e y
       refine⟨_,?_,a⟩
       simp_all[unpH,SSt.g,getI,SObj.g,gO_set]
      simp_all
     simp_all
    ·rename_i z
     refine⟨st,?_,a⟩
     split
     ·rename_i L
      have:getE (gE st.env) h.slot= .sc (.slice none 0 0):=L
      grind[getS_g,isNil_g]
     all_goals simp_all
  ·rename_i k b
   simp only[b]
   split at a
   ·rename_i m c j d
    have n:getE st.g.env h.slot= .ptr m c j:=by
     show getE (gE st.env) h.slot=_
     rw[getS_g,d];rfl
    rw[n]
    split at a
    ·rename_i i e F E y
     have u:st.g.o[m]?=some (.cells (gL i) e F E):=getI y
     simp only[u]
     split at a
     ·rename_i r
      cases C:i[c+k]? with
      |none=>simp_all
      |some v=>
       rw[C] at r
       simp only[Option.any_some] at r
       have M:=isNil_g.1 r
       have A:(gL i)[c+k]?=some (.sc (.slice none 0 0)):=by grind[gL_get]
       simp only[A,gL_len]
       split at a
       ·rename_i I
        rw[if_pos I]
        split at a
        ·rename_i s J
         split at a
         ·rename_i w
          refine⟨_,?_,a⟩
          have N:gL (i.set (c+k) (.ow st.o.length 0 h.sz))=(gL i).set (c+k) (.os st.o.length 0 0 0):=by
           simp_all[gL_map,SV.g]
          simp_all[SSt.g,SObj.g,gO,flatA]
         simp_all
        simp_all
       simp_all
     grind[gL_get,isNil_g]
    simp_all
   simp_all
 ·rename_i f
  have f:h.own=false:=by simpa using f
  unfold hintK.cellK at a
  cases b:h.off with
  |none=>
   rw[b] at a
   simp only at a
   refine hint_frz (p:=p) (v:=getS st.env h.slot) f ?_ ?_
   all_goals grind[cellH,SSt.g,getS_g]
  |some k=>
   rw[b] at a
   simp only at a
   cases q:getS st.env h.slot with
   |ptr m c j=>
    rw[q] at a
    simp only at a
    cases y:st.o[m]? with
    |none=>simp_all
    |some x=>
     rw[y] at a
     cases x with
     |cells i e F E=>
      simp only at a
      by_cases H:i.length=j
      ·rw[if_pos H] at a
       cases C:i[c+k]? with
       |none=>simp_all
       |some v=>
        rw[C] at a
        refine hint_frz (p:=p) (v:=v) f ?_ ?_
        ·unfold cellH
         rw[b]
         have:getE st.g.env h.slot= .ptr m c j:=by
          show getE (gE st.env) h.slot=_
          rw[getS_g,q];rfl
         have u:st.g.o[m]?=some (.cells (gL i) e F E):=getI y
         simp_all[behind,gL_len,gL_get]
        grind
      simp_all
     |_=>exact a.elim
   |_=>rw[q] at a;exact a.elim
theorem hintsK_sound:∀{hs:List OwnH} {st:SSt} {K:SSt→Prop},hintsK p lo hs st K→∃st',hs.foldl (fun s h=>ownH lo h s) st.g=st'.g∧K st'
 |[],st,K,h=>⟨st,rfl,h⟩
 |h::hs,st,K,hk=>by
  simp only[hintsK] at hk
  obtain⟨st1,h1,h2⟩:=hintK_sound hk
  obtain⟨st2,h3,h4⟩:=hintsK_sound h2
  exact⟨st2,by rw[List.foldl_cons,h1,h3],h4⟩
theorem pruneS_g (a:List Nat) (env:SEnv):gE (pruneS a env)=prune a (gE env):=by
 simp[pruneS,prune,gE,←getS_g]
theorem trimS_g (k:Nat) (st:SSt):(trimS k st).g=trim k st.g:=by
 unfold trimS trim
 have b:st.g.o.length=st.o.length:=by simp[SSt.g,gO_len]
 have c:(st.g.env.all fun p=>p.2.bel k)=(st.env.all fun p=>p.2.bel k):=by
  simp only[SSt.g,gE,List.all_map]
  grind[bel_g]
 have d:((st.g.o.take k).all fun x=>x.bel k)=((st.o.take k).all fun x=>x.bel k):=by
  simp only[SSt.g,gO,←List.map_take,List.all_map]
  grind[obel_g]
 rw[b,c,d]
 by_cases a:st.o.length≤k
 ·simp_all
 ·rw[if_neg a,if_neg a]
  split
  ·simp[SSt.g,gO]
  ·rfl
variable {T:Tab}
theorem splitN_sound {v:Int} {n:Nat} {K:Nat→Prop}:∀{j:Nat},j≤n→splitN v n K j→(n - j:Nat)≤v→∃i:Nat,v=i∧K i
 |0,_,h,a=>by
  grind[splitN]
 |j+1,c,h,a=>by
  simp only[splitN] at h
  by_cases b:v=(n - (j+1):Nat)
  ·grind
  ·exact splitN_sound (by omega) h.2 (by omega)
theorem splitN_nonneg {v:Int} {n:Nat} {K:Nat→Prop}:∀{j:Nat},splitN v n K j→0≤v
 |0,h=>h.1
 |j+1,h=>splitN_nonneg h.2
theorem splitK_sound {x:Option (Nat×Nat×Nat)} {st:SSt} {K:SSt→Prop} (h:splitK x st K):∃st',st'.g=st.g∧K st':=by
 unfold splitK at h
 split at h
 ·grind
 ·rename_i p a n
  split at h
  ·rename_i c e q r b
   split at h
   ·rename_i k v o
    obtain⟨i,rfl,f⟩:=splitN_sound (Nat.le_refl _) h (by have:=splitN_nonneg h;omega)
    refine⟨_,?_,f⟩
    have l:gL (c.set a (.il k i))=gL c:=by
     rw[gL_map,gL_map,List.map_set]
     apply List.ext_getElem?
     grind[SV.g]
    simp only[SSt.g,gO_set,SObj.g,l,SSt.mk.injEq,St.mk.injEq,true_and]
    apply List.ext_getElem?
    intro j
    rw[List.getElem?_set]
    split
    ·rename_i d
     subst d
     have m:=(List.getElem?_eq_some_iff.1 b).1
     rw[if_pos (by grind[gO_len]),gO_get,b]
     rfl
    ·rfl
   simp_all
  simp_all
theorem sameE_g:∀{e a:SEnv},sameE e a→gE e=gE a
 |[],[],_=>rfl
 |[],_::_,h=>by grind[sameE]
 |_::_,[],h=>by grind[sameE]
 |(k,v)::e,(d,c)::a,h=>by
  simp only[sameE] at h
  split at h
  ·rename_i b
   subst b
   have:=sameE_g h.2
   simp only[gE,List.map_cons] at this ⊢
   rw[this,show v.g=c.g from h.1]
  simp_all
theorem sameO_g:∀{o o':SStore},sameO o o'→gO o=gO o'
 |[],[],_=>rfl
 |[],_::_,h=>by grind[sameO]
 |_::_,[],h=>by grind[sameO]
 |x::o,y::o',h=>by
  simp only[sameO] at h
  have:=sameO_g h.2
  simp only[gO,List.map_cons] at this ⊢
  rw[this,show x.g=y.g from h.1]
theorem sameSt_g {s t:SSt} (h:sameSt s t):s.g=t.g:=by
 simp only[SSt.g,sameE_g h.1,sameO_g h.2]
theorem map_evS (env:SEnv) (args:List Operand):args.map (evA (gE env))=gL (args.map (evS env)):=by
 simp_all[gL_map,evS_g]
theorem wpS_sound (hC:SCallsOK T.K p.C) (hI:∀f F,p.it f=some F→T.fn f=some F):∀{c:IR} {Λ:Nat→LoopAnn} {st:SSt} {Q:Out→SSt→Prop},wpS p lo c Λ st Q→VW T plainM lo c st.g fun out s=>∃ss,s=ss.g∧Q out ss:=by
 intro c
 induction c with
 |skip=>intro Λ st Q h;exact VW.skip ⟨st,rfl,h⟩
 |exit id=>intro Λ st Q h;exact VW.exit ⟨st,rfl,h⟩
 |ret=>intro Λ st Q h;exact VW.ret ⟨st,rfl,h⟩
 |goto l=>intro Λ st Q h;exact VW.goto ⟨st,rfl,h⟩
 |condK x a b iha ihb=>
  intro Λ st Q h
  simp only[wpS] at h
  have hx:evA st.g.env x=(evS st.env x).g:=evS_g _ _
  split at h
  ·rename_i he
   rw[he] at hx
   exact VW.condK hx (by rw[if_pos rfl];exact iha h)
  ·rename_i he
   rw[he] at hx
   exact VW.condK hx (by rw[if_neg (by simp)];exact ihb h)
  ·rename_i c he
   rw[he] at hx
   have hset:∀v:SV,(SV.sb c).g=v.g→(SSt.mk (setX st.env x v) st.o).g=st.g:=fun v hv=>by
    cases x with
    |tmp t=>
     have:getS st.env t= .sb c:=he
     simp only[SSt.g,setX]
     rw[setE_g (by rw[this];exact hv)]
    |_=>rfl
   refine VW.condK hx ?_
   cases c with
   |true=>
    have:=iha (h.1 rfl)
    rw[hset (.bl true) rfl] at this
    rw[if_pos rfl];exact this
   |false=>
    have:=ihb (h.2 rfl)
    rw[hset (.bl false) rfl] at this
    rw[if_neg (by simp)];exact this
  ·exact h.elim
 |turns l b ih=>
  intro Λ st Q h
  cases l with
  |none=>
   simp only[wpS] at h
   refine VW.turn_no ((ih h).mono ?_)
   rintro out s ⟨ss,rfl,h2⟩
   cases out with
   |norm=>exact⟨by simp,ss,rfl,h2⟩
   |exit id=>exact⟨by simp,ss,rfl,h2⟩
   |ret=>exact⟨by simp,ss,rfl,h2⟩
   |goto l=>exact h2.elim
  |some l=>
   simp only[wpS] at h
   split at h
   ·rename_i X shape next J m inner _
    obtain⟨⟨h0,hx⟩,hstep⟩:=h
    refine VW.turn_inv (fun k s=>∃x,s=(shape x).g∧J x∧m x=k) ?_ (m (next st)) _ ⟨next st,sameSt_g h0,hx,rfl⟩
    rintro k s ⟨x,rfl,hj,rfl⟩
    refine(ih (hstep x hj)).mono ?_
    rintro out s ⟨ss,rfl,h2⟩
    cases out with
    |goto l'=>
     obtain⟨rfl,h3,h4,h5⟩:=h2
     refine .inl ⟨rfl,_,h5,_,?_,h4,rfl⟩
     have h6:=sameSt_g h3
     rw[←h6,trimS_g,show(shape x).o.length=(shape x).g.o.length from by simp[SSt.g,gO_len]]
    |norm=>exact .inr ⟨by simp,ss,rfl,h2⟩
    |exit id=>exact .inr ⟨by simp,ss,rfl,h2⟩
    |ret=>exact .inr ⟨by simp,ss,rfl,h2⟩
   ·exact h.elim
 |region id draw k ops chk live pre post=>
  intro Λ st Q h
  simp only[wpS] at h
  obtain⟨st0,h0,h⟩:=splitK_sound h
  obtain⟨st1,h1,h2⟩:=hintsK_sound h
  obtain⟨st2,h3,h4⟩:=regK_sound hC h2
  obtain⟨st3,h5,h6⟩:=hintsK_sound h4
  refine VW.region ?_
  rw[←h0,h1,h3]
  refine⟨st3,?_,h6⟩
  rw[←h5]
  simp only[SSt.g,pruneS_g]
 |dfr g caps d a b _ _=>intro Λ st Q h;exact h.elim
 |seq a b iha ihb=>
  intro Λ st Q h
  simp only[wpS] at h
  refine VW.seq ((iha h).mono ?_)
  rintro out s ⟨ss,rfl,h2⟩
  cases out with
  |norm=>rw[if_pos rfl];exact ihb h2
  |exit id=>rw[if_neg (by simp)];exact⟨ss,rfl,h2⟩
  |ret=>rw[if_neg (by simp)];exact⟨ss,rfl,h2⟩
  |goto l=>rw[if_neg (by simp)];exact⟨ss,rfl,h2⟩
 |cond x a b iha ihb=>
  intro Λ st Q h
  simp only[wpS] at h
  have hx:evA st.g.env x=(evS st.env x).g:=evS_g _ _
  have hdr:(SSt.mk (dropSE x st.env) st.o).g=⟨dropE x st.g.env,st.g.o⟩:=by
   have:∀(t:Nat) (env:SEnv),(dropS t env).map (fun p=>(p.1,p.2.g))=dropL t (env.map fun p=>(p.1,p.2.g)):=by
    intro t env
    induction env with
    |nil=>rfl
    |cons p env ih=>
     simp only[dropS,dropL,List.map_cons]
     cases Nat.beq p.1 t with
     |true=>simpa using ih
     |false=>simpa using ih
   cases x with
   |tmp t=>simp only[SSt.g,gE,dropSE,dropE];rw[this]
   |_=>rfl
  split at h
  ·rename_i he
   rw[he] at hx
   exact VW.cond hx (by rw[if_pos rfl,←hdr];exact iha h)
  ·rename_i he
   rw[he] at hx
   exact VW.cond hx (by rw[if_neg (by simp),←hdr];exact ihb h)
  ·rename_i c he
   rw[he] at hx
   refine VW.cond hx ?_
   cases c with
   |true=>rw[if_pos rfl,←hdr];exact iha (h.1 rfl)
   |false=>rw[if_neg (by simp),←hdr];exact ihb (h.2 rfl)
  ·exact h.elim
 |block id b ih=>
  intro Λ st Q h
  simp only[wpS] at h
  exact VW.block ((ih h).mono fun out s ⟨ss,e,h2⟩=>⟨ss,e,h2⟩)
 |loop b ih=>
  intro Λ st Q h
  simp only[wpS] at h
  split at h
  ·rename_i n hΛ
   clear hΛ
   induction n generalizing st with
   |zero=>exact h.elim
   |succ n ihn=>
    simp only[unrollK] at h
    refine VW.loop ((ih h).mono ?_)
    rintro out s ⟨ss,rfl,h2⟩
    cases out with
    |norm=>
     rw[if_pos rfl]
     have:=ihn h2
     rwa [trimS_g,show st.o.length=st.g.o.length from by simp[SSt.g,gO_len]] at this
    |exit id=>rw[if_neg (by simp)];exact⟨ss,rfl,h2⟩
    |ret=>rw[if_neg (by simp)];exact⟨ss,rfl,h2⟩
    |goto l=>rw[if_neg (by simp)];exact⟨ss,rfl,h2⟩
  ·exact h.elim
  ·rename_i X shape next J m inner _
   obtain⟨⟨h0,hx⟩,hstep⟩:=h
   refine VW.loop_inv (fun k s=>∃x,s=(shape x).g∧J x∧m x=k) ?_ (m (next st)) _ ⟨next st,sameSt_g h0,hx,rfl⟩
   rintro k s ⟨x,rfl,hj,rfl⟩
   refine(ih (hstep x hj)).mono ?_
   rintro out s ⟨ss,rfl,h2⟩
   cases out with
   |norm=>
    rw[if_pos rfl]
    obtain⟨h3,h4,h5⟩:=h2
    refine⟨_,h5,_,?_,h4,rfl⟩
    have h6:=sameSt_g h3
    rw[←h6,trimS_g,show(shape x).o.length=(shape x).g.o.length from by simp[SSt.g,gO_len]]
   |exit id=>rw[if_neg (by simp)];exact⟨ss,rfl,h2⟩
   |ret=>rw[if_neg (by simp)];exact⟨ss,rfl,h2⟩
   |goto l=>rw[if_neg (by simp)];exact⟨ss,rfl,h2⟩
theorem resK_go {st:SSt}:∀{a:List IRes} {K:List SV→Prop},resK.goK st a K→∃l,a.mapM (resA st.g)=some (gL l)∧K l
 |[],K,h=>⟨[],by simp[gL],h⟩
 |r::a,K,h=>by
  simp only[resK.goK] at h
  have b:∃v,resA st.g r=some v.g∧resK.goK st a fun l=>K (v::l):=by
   unfold resK.oneK at h
   unfold resA
   split at h
   ·rename_i c
    rw[c]
    exact⟨_,by grind[SSt.g,getS_g],h⟩
   grind[loadK_sound,SSt.g,getS_g]
  obtain⟨v,i,d⟩:=b
  obtain⟨l,f,e⟩:=resK_go d
  exact⟨v::l,by simp_all[gL],e⟩
theorem resK_sound {st:SSt} {b:List IRes} {K:SV→Prop} (h:resK st b K):∃r,resultsA st.g b=some r.g∧K r:=by
 unfold resK at h
 obtain⟨l,c,a⟩:=resK_go h
 unfold resultsA
 rw[c]
 match l,a with
 |[],a=>exact⟨_,rfl,a⟩
 |[v],a=>exact⟨v,rfl,a⟩
 |v::w::l,a=>exact⟨_,rfl,a⟩
theorem bindS_g:∀(i:Nat) (args:List SV),gE (bindS i args)=bindArgs i (gL args)
 |_,[]=>rfl
 |i,v::a=>by
  have:=bindS_g (i+1) a
  grind[gE,bindS,gL,bindArgs]
theorem fnK_soundR {Λ:Nat→LoopAnn} {P:Program} (hT:TabOK P T) (hC:SCallsOK T.K p.C) (hI:∀f F,p.it f=some F→T.fn f=some F) {f:FuncId} {F:IFn} (hF:T.fn f=some F) {args:List SV} {r:AV} (hK:T.K f (gL args) [] false=none) (hlen:args.length=F.params)
  {Q:SV→Prop} (hQ:∀v,Q v→v.g=r) (h:fnK p Λ F args Q):goodF P f=true∧CallO P f (gL args) [] r []:=by
 unfold fnK at h
 have hw:=wpS_sound hC hI h
 have hst:(SSt.mk (bindS 0 args) []).g=⟨bindArgs 0 (gL args),[]⟩:=by simp[SSt.g,bindS_g,gO]
 rw[hst] at hw
 obtain⟨h1,h2,_⟩:=call_of_vw hT hF (o:=[]) (own:=false) hK (by rw[gL_len];exact hlen) (v:=r) (o':=[]) (hw.mono fun out s hs=>by
  obtain⟨ss,rfl,hq⟩:=hs
  cases out with
  |exit id=>exact hq.elim
  |goto l=>exact hq.elim
  |norm=>
   obtain⟨r0,h1,h2⟩:=resK_sound hq
   obtain⟨v,h3,h4⟩:=frzK_sound h2
   refine⟨.inl rfl,?_⟩
   rw[h1]
   show finish false 0 r0.g ss.g.o=_
   have:freeze ss.g.o 6 r0.g=some v.g:=h3
   simp[finish,this,hQ _ h4]
  |ret=>
   obtain⟨r0,h1,h2⟩:=resK_sound hq
   obtain⟨v,h3,h4⟩:=frzK_sound h2
   refine⟨.inr rfl,?_⟩
   rw[h1]
   show finish false 0 r0.g ss.g.o=_
   have:freeze ss.g.o 6 r0.g=some v.g:=h3
   simp[finish,this,hQ _ h4])
 exact⟨h1,h2⟩
end
structure Cod (α:Type) where
 put:α→SV
 dec:SV→Option α
 ok:∀v a,dec v=some a→v.g=(put a).g
 inj:∀a b,(put a).g=(put b).g→a=b
structure ACod (α:Type) where
 put:α→List SV
 dec:List SV→Option α
 ok:∀v a,dec v=some a→gL v=gL (put a)
 inj:∀a b,gL (put a)=gL (put b)→a=b
def ACod.one {d:Type} (c:Cod d):ACod d where
 put a:=[c.put a]
 dec
  |[v]=>c.dec v
  |_=>none
 ok v a h:=by
  match v,h with
  |[v],h=>simp only[gL,c.ok v a h]
 inj a b h:=by
  simp only[gL,List.cons.injEq,and_true] at h
  exact c.inj a b h
def ACod.cons {f g:Type} (c:Cod f) (d:ACod g):ACod (f×g) where
 put a:=c.put a.1::d.put a.2
 dec
  |v::e=>match c.dec v,d.dec e with
   |some a,some b=>some (a,b)
   |_,_=>none
  |[]=>none
 ok v a h:=by
  match v,h with
  |v::e,h=>
   simp only at h
   split at h
   ·rename_i x y j i
    simp only[Option.some.injEq] at h;subst h
    simp only[gL,c.ok v x j,d.ok e y i]
   ·cases h
 inj a b h:=by
  simp only[gL,List.cons.injEq] at h
  exact Prod.ext (c.inj _ _ h.1) (d.inj _ _ h.2)
def ACod.nil:ACod Unit where
 put _:=[]
 dec
  |[]=>some ()
  |_=>none
 ok v a h:=by
  grind
 inj a b h:=rfl
structure SCtr where
 f:FuncId
 α:Type
 A:ACod α
 dom:α→Prop
 res:α→SV
def Holds (P:Program) (c:SCtr):Prop:=∀a,c.dom a→goodF P c.f=true∧CallO P c.f (gL (c.A.put a)) [] (c.res a).G []
def findC (f:FuncId):List SCtr→Option SCtr
 |[]=>none
 |c::r=>bif Nat.beq c.f f then some c else findC f r
def pureK (L:List SCtr) (f:FuncId) (args:List SV) (K:SV→Prop):Prop:=
 match findC f L with
 |some c=>optK (c.A.dec args) fun a=>c.dom a∧brK (c.res a) K
 |none=>False
structure OwnT where
 K:FuncId→List AV→Store→Option (AV×Store)
 C:FuncId→List SV→SStore→(SV→SStore→Prop)→Prop
def OwnT.none:OwnT:=⟨fun _ _ _=> .none,fun _ _ _ _=>False⟩
noncomputable def tabK (L:List SCtr) (W:OwnT):Oracle:=fun f args o own=>
 if own then W.K f args o
 else match o with
  |[]=>match findC f L with
   |some c=>(ans (fun a=>gL (c.A.put a)) c.dom (fun a=>(c.res a).G) args).map fun v=>(v,[])
   |none=> .none
  |_=> .none
noncomputable def tabL (a:FuncId→Option IFn) (L:List SCtr) (W:OwnT):Tab:=⟨a,tabK L W⟩
structure OwnOK (P:Program) (W:OwnT):Prop where
 K:∀f args o r o',W.K f args o=some (r,o')→goodF P f=true∧CallO P f args o r o'
 C:∀(call:Oracle),(∀f args o,call f args o true=W.K f args o)→∀f args o K,W.C f args o K→∃(r:SV) (o':SStore),callOwn call f (gL args) (gO o)=some (r.g,gO o')∧K r o'
theorem OwnOK.none (P:Program):OwnOK P OwnT.none where
 K:=fun _ _ _ _ _ h=>by cases h
 C:=fun _ _ _ _ _ _ h=>h.elim
theorem findC_f:∀{L:List SCtr} {f:FuncId} {c:SCtr},findC f L=some c→c.f=f∧c∈L
 |[],_,_,h=>by cases h
 |d::L,f,c,h=>by
  simp only[findC] at h
  cases a:Nat.beq d.f f with
  |true=>
   simp_all
  |false=>
   rw[a] at h
   simp only[cond_false] at h
   obtain⟨b,e⟩:=findC_f h
   simp_all
theorem brK_sound:∀{v:SV} {K:SV→Prop},brK v K→∃w:SV,w.g=v.G∧K w
 | .ite c a b,K,h=>by
  cases c with
  |true=>exact brK_sound (v:=a) (h.1 rfl)
  |false=>exact brK_sound (v:=b) (h.2 rfl)
 | .ud,_,h| .sc _,_,h| .il _ _,_,h| .si _ _,_,h| .bl _,_,h| .sb _,_,h| .agg _,_,h| .tup _,_,h| .row _ _,_,h| .ep _ _ _ _,_,h| .ptr _ _ _,_,h| .ap _ _ _ _ _ _,_,h| .rp _ _ _ _ _,_,h| .ow _ _ _,_,h| .os _ _ _ _ _,_,h| .oc _ _ _ _ _,_,h| .mp _,_,h| .fn _ _ _,_,h| .ia _ _,_,h=>⟨_,rfl,h⟩
theorem sameR_G:∀{w v:SV},v.sameR w→v.g=w.G
 | .ite c a b,v,h=>by
  cases c with
  |true=>exact sameR_G (w:=a) (h.1 rfl)
  |false=>exact sameR_G (w:=b) (h.2 rfl)
 | .ud,_,h| .sc _,_,h| .il _ _,_,h| .si _ _,_,h| .bl _,_,h| .sb _,_,h| .agg _,_,h| .tup _,_,h| .row _ _,_,h| .ep _ _ _ _,_,h| .ptr _ _ _,_,h| .ap _ _ _ _ _ _,_,h| .rp _ _ _ _ _,_,h| .ow _ _ _,_,h| .os _ _ _ _ _,_,h| .oc _ _ _ _ _,_,h| .mp _,_,h| .fn _ _ _,_,h| .ia _ _,_,h=>h
variable {P:Program} {L:List SCtr} {W:OwnT} {fn:FuncId→Option IFn}
theorem tabL_ok (j:OwnOK P W) (k:∀c∈L,Holds P c) (n:TabOK P ⟨fn,fun _ _ _ _=>none⟩):TabOK P (tabL fn L W) where
 fn:=n.fn
 K:=fun g e o b r q h=>by
  simp only[tabL,tabK] at h
  cases b with
  |true=>
   simp only[if_true] at h
   obtain⟨p,d⟩:=j.K _ _ _ _ _ h
   simp_all
  |false=>
   simp only[Bool.false_eq_true,if_false] at h
   split at h
   ·split at h
    ·rename_i c l
     obtain⟨rfl,f⟩:=findC_f l
     obtain⟨v,m,d⟩:=Option.map_eq_some_iff.1 h
     simp only[Prod.mk.injEq] at d
     obtain⟨rfl,rfl⟩:=d
     obtain⟨a,rfl,i,rfl⟩:=ans_some m
     obtain⟨t,s⟩:=k c f a i
     simp_all
    ·cases h
   ·cases h
theorem tabL_calls (hW:OwnOK P W):SCallsOK (tabL fn L W).K ⟨pureK L,W.C⟩ where
 pure:=fun f args K h=>by
  simp only[pureK] at h
  split at h
  ·rename_i c hc
   obtain⟨a,h1,h2,h3⟩:=optK_some h
   obtain⟨r,h4,h5⟩:=brK_sound h3
   refine⟨r,?_,h5⟩
   have:=c.A.ok _ _ h1
   simp only[tabL,tabK,Bool.false_eq_true,if_false,hc,this]
   rw[ans_eq (enc:=fun a=>gL (c.A.put a)) c.A.inj h2,h4]
   rfl
  ·exact h.elim
 own:=fun f args o K h=>hW.C _ (fun f args o=>by simp[tabL,tabK]) f args o K h
theorem tabK_fresh {f:FuncId} {args:List AV} (h:findC f L=none):(tabL fn L W).K f args [] false=none:=by
 simp[tabL,tabK,h]
def parL (L:List SCtr) (W:OwnT) (a:TypeId→Option SId) (c:List Nat×Bool→Option (SId×SId)) (b:FuncId→Option IFn):SPar:=⟨⟨pureK L,W.C⟩,a,c,fun _=>none,b,fun _=>false⟩
theorem holds_of (c:SCtr) {F:IFn} {ty:TypeId→Option SId} {mt:List Nat×Bool→Option (SId×SId)} {Λ:c.α→Nat→LoopAnn} (h0:TabOK P ⟨fn,fun _ _ _ _=>none⟩) (hW:OwnOK P W) (hL:∀c∈L,Holds P c)
  (hF:fn c.f=some F) (hfr:findC c.f L=none) (hlen:∀a,(c.A.put a).length=F.params)
  (h:∀a,c.dom a→fnK (parL L W ty mt fn) (Λ a) F (c.A.put a) fun v=>v.sameR (c.res a)):Holds P c:=by
 intro a hd
 exact fnK_soundR (p:=parL L W ty mt fn) (Λ:=Λ a) (tabL_ok hW hL h0) (tabL_calls hW) (fun _ _ h=>h) hF (tabK_fresh hfr) (hlen a) (fun _ h=>sameR_G h) (h a hd)
def codI (k:IntKind):Cod Int where
 put n:=.si k n
 dec v:=v.int k
 ok v a h:=by rw[int_g h];rfl
 inj a b h:=by grind[SV.g]
def codB:Cod Bool where
 put b:=.sb b
 dec v:=v.boo
 ok v a h:=by rw[boo_g h];rfl
 inj a b h:=by grind[SV.g]
theorem encV_inj:(s:SId)→(x y:s.T)→encV s x=encV s y→(e:s.flat=true:=by rfl)→x=y
 | .i k,x,y,h,_=>by grind[encV]
 | .b,x,y,h,_=>by grind[encV]
 | .bun,⟨o,B,r,f,j,q⟩,⟨p,l,g,u,A,z⟩,h,_=>by
  simp_all[encV,iv]
 | .off,⟨b,⟨o,B,r,f,j,q⟩,v⟩,⟨c,⟨p,l,g,u,A,z⟩,w⟩,h,_=>by
  simp_all[encV,iv]
 | .need,⟨a,b⟩,⟨c,d⟩,h,_=>by
  simp_all[encV,iv]
 | .key,⟨b,⟨o,B,r,f,j,q⟩⟩,⟨c,⟨p,l,g,u,A,z⟩⟩,h,_=>by
  simp_all[encV,iv]
 | .sit,⟨m,⟨o,B,r,f,j,q⟩,⟨K,F,G,N,L,P⟩⟩,⟨n,⟨p,l,g,u,A,z⟩,⟨O,J,M,I,H,E⟩⟩,h,_=>by
  simp_all[encV,iv]
 | .lst _,_,_,_,e=>by grind[SId.flat]
 | .pair s t,(a,b),(c,d),h,e=>by
  simp only[SId.flat,Bool.and_eq_true] at e
  simp only[encV] at h
  obtain⟨D,C⟩:=List.append_inj h (by grind[encV_len])
  rw[encV_inj s a c D e.1,encV_inj t b d C e.2]
theorem flatMap_inj {d i:Type} {n:Nat} {f:d→List i} (a:∀x,(f x).length=n) (c:∀x y,f x=f y→x=y):∀{l m:List d},l.length=m.length→l.flatMap f=m.flatMap f→l=m
 |[],[],_,_=>rfl
 |[],_::_,h,_=>by simp at h
 |_::_,[],h,_=>by simp at h
 |x::l,y::m,b,h=>by
  simp only[List.flatMap_cons] at h
  obtain⟨e,g⟩:=List.append_inj h (by rw[a,a])
  simp only[List.length_cons,Nat.add_right_cancel_iff] at b
  rw[c x y e,flatMap_inj a c b g]
theorem encA_inj:(s:SId)→(x y:s.T)→(h:encA s x=encA s y)→x=y
 | .lst s,x,y,h=>by
  simp only[encA,List.cons.injEq,AV.sl.injEq,and_true] at h
  exact flatMap_inj (encA_len s) (encA_inj s) h.1 h.2
 | .pair s t,(a,b),(c,d),h=>by
  simp only[encA] at h
  obtain⟨e,f⟩:=List.append_inj h (by grind[encA_len])
  rw[encA_inj s a c e,encA_inj t b d f]
 | .i k,x,y,h=>encV_inj (.i k) x y (map_sc_inj h)
 | .b,x,y,h=>encV_inj .b x y (map_sc_inj h)
 | .bun,x,y,h=>encV_inj .bun x y (map_sc_inj h)
 | .off,x,y,h=>encV_inj .off x y (map_sc_inj h)
 | .need,x,y,h=>encV_inj .need x y (map_sc_inj h)
 | .key,x,y,h=>encV_inj .key x y (map_sc_inj h)
 | .sit,x,y,h=>encV_inj .sit x y (map_sc_inj h)
theorem flatA_inj (s:SId) {l m:List s.T} (a:l.length=m.length) (h:flatA s l=flatA s m):l=m:=
 flatMap_inj (encA_len s) (encA_inj s) a h
def codE (s:SId):Cod s.T where
 put x:=.agg (encS s x)
 dec
  | .agg c=>decS s c
  |_=>none
 ok v a h:=by
  grind[SV.g,gL_map,decS_g,encS_g]
 inj a b h:=by
  grind[SV.g,gL_map,encS_g,encA_inj]
theorem decRow_ok {s:SId} {v:SV} {l:List s.T} (h:decRow s v=some l):v.g=(SV.row s l).g:=by
 cases v<;>simp only[decRow,reduceCtorEq] at h
 grind[castL_flat,SV.g,flatA]
def codR (s:SId):Cod (List s.T) where
 put l:=.row s l
 dec:=decRow s
 ok v a h:=decRow_ok h
 inj a b h:=by
  grind[SV.g,flatA_inj]
end Go.Vi
