/-
  The symbolic run: its operations, and what must hold for a piece of code to come to a post. Plain definitions: no proof stands here.
  Conditions: none.
-/
import Derived.Test.YtoifpgeocpjneaaDD04
set_option maxRecDepth 100000
set_option maxHeartbeats 4000000
set_option linter.unusedSimpArgs false
set_option linter.unusedVariables false
namespace Go.Vi
abbrev SEnv:=List (Nat×SV)
abbrev SStore:=List SObj
structure SSt where
 env:SEnv
 o:SStore
def getS:SEnv→Nat→SV
 |[],_=> .ud
 |p::r,s=>bif Nat.beq p.1 s then p.2 else getS r s
def putS (env:SEnv) (dst:Option Nat) (v:SV):SEnv:=
 match dst with
 |none=>env
 |some d=>(d,v)::env
def SV.ofCell:Value→SV
 | .int k n=> .il k n
 | .bool b=> .bl b
 |v=> .sc v
def SV.ofVal:Value→SV
 | .agg cs=>if cs.toList.all (·.oneCell') then .agg (cs.toList.map .ofCell) else .ud
 | .tuple _=> .ud
 | .int k n=> .il k n
 | .bool b=> .bl b
 |v=> .sc v
def evS (env:SEnv):Operand→SV
 | .tmp t=>getS env t
 | .const v=> .ofVal v
 | .global _=> .ud
 | .func f=> .fn (.func f) [] []
def SV.cellsOf:SV→List SV
 | .agg cs=>cs
 |v=>[v]
def SV.one:SV→Bool
 | .agg _| .tup _| .ud=>false
 | .sc v=>v.oneCell'
 |_=>true
def oneS (l:List SV):Bool:=l.all (·.one)
mutual
def SV.pure:SV→Bool
 | .sc _| .il .. | .si .. | .bl _| .sb _| .row .. =>true
 |_=>false
def pureS:List SV→Bool
 |[]=>true
 |c::cs=>c.pure&&pureS cs
end
mutual
def SV.bel (k:Nat):SV→Bool
 | .ud| .sc _| .il .. | .si .. | .bl _| .sb _| .row .. | .ep .. =>true
 | .agg cs| .tup cs=>belS k cs
 | .ptr id .. | .ap id .. | .rp id .. | .ow id .. | .os id .. | .oc id .. | .mp id=>decide (id<k)
 | .fn _ a b=>belS k a&&belS k b
def belS (k:Nat):List SV→Bool
 |[]=>true
 |c::cs=>c.bel k&&belS k cs
end
def SObj.bel (k:Nat):SObj→Bool
 | .cells cs _ _ pu=>pu||belS k cs
 | .rowp _ _ _ t=>belS k t
 |_=>true
mutual
def SV.noSl:SV→Bool
 | .ud| .sc _| .il .. | .si .. | .bl _| .sb _=>true
 | .agg cs| .tup cs=>noSlS cs
 |_=>false
def noSlS:List SV→Bool
 |[]=>true
 |c::cs=>c.noSl&&noSlS cs
end
def inR (k:IntKind) (n:Int):Prop:=
 match k with
 | .i64=> -9223372036854775808≤n∧n≤9223372036854775807
 |k=>k.wrap n=n
def rngK (k:IntKind) (n:Int) (K:Int→Prop):Prop:=
 match k with
 | .u32=>K (n % 4294967296)
 | .u64=>K (n % 18446744073709551616)
 |k=>inR k n∧K n
structure SCalls where
 pure:FuncId→List SV→(SV→Prop)→Prop
 own:FuncId→List SV→SStore→(SV→SStore→Prop)→Prop
structure SPar where
 C:SCalls
 ty:TypeId→Option SId
 mt:List Nat×Bool→Option (SId×SId)
 sp:Nat→Option (Nat×Nat×Nat):=fun _=>none
 it:FuncId→Option IFn:=fun _=>none
 ro:FuncId→Bool:=fun _=>false
def partS (cs:List SV) (off:Nat):Option Nat→Option SV
 |none=>cs[off]?
 |some n=>if off+n≤cs.length then some (.agg ((cs.drop off).take n)) else none
def writeS (cs:List SV) (off:Nat):List SV→List SV
 |[]=>cs
 |v::vs=>writeS (cs.set off v) (off+1) vs
def optK {α:Type} (x:Option α) (K:α→Prop):Prop:=match x with|some a=>K a|none=>False
def seqK {α:Type} (f:SV→(α→Prop)→Prop):List SV→(List α→Prop)→Prop
 |[],K=>K []
 |v::vs,K=>f v fun a=>seqK f vs fun az=>K (a::az)
def frzK (o:SStore):Nat→SV→(SV→Prop)→Prop
 |_,.ud,K=>K .ud
 |_,.sc v,K=>match v with
  | .slice none 0 0=>K (.row (.i .i64) [])
  |v=>K (.sc v)
 |_,.il k n,K=>K (.il k n)
 |_,.si k n,K=>K (.si k n)
 |_,.bl b,K=>K (.bl b)
 |_,.sb b,K=>K (.sb b)
 |_,.row s l,K=>K (.row s l)
 |d+1,.agg cs,K=>seqK (frzK o d) cs fun cs'=>K (.agg cs')
 |d+1,.tup cs,K=>seqK (frzK o d) cs fun cs'=>K (.tup cs')
 |d+1,.fn f a b,K=>seqK (frzK o d) a fun a'=>seqK (frzK o d) b fun b'=>K (.fn f a' b')
 |_+1,.ow id n sz,K=>match o[id]? with
  |some (.row s l _ _)=>if sz=s.sz then n=l.length∧K (.row s l) else False
  |_=>False
 |_+1,.os id off len n sz,K=>match o[id]? with
  |some (.row s l _ _)=>if sz=s.sz then n=l.length∧off+len≤n∧K (.row s ((l.drop off).take len)) else False
  |_=>False
 |_,_,_=>False
def loadK (o:SStore) (a:SV) (n:Option Nat) (K:SV→Prop):Prop:=
 match a with
 | .ptr id off tot=>match o[id]? with
  |some (.cells cs _ _ _)=>if cs.length=tot then optK (partS cs off n) K else False
  |_=>False
 | .ap id base sz len tot i=>match o[id]? with
  |some (.cells cs _ _ _)=>if cs.length=tot∧base+sz*len≤tot then i<len∧pickK ((cs.drop base).take (sz*len)) sz i n K else False
  |_=>False
 | .ep s l i off=>i<l.length∧optK (partS (encS s (nthD l i s.dflt)) off n) K
 | .rp id i off m sz=>match o[id]? with
  |some (.row s l _ _)=>if sz=s.sz then m=l.length∧i<l.length∧optK (partS (encS s (nthD l i s.dflt)) off n) K else False
  |_=>False
 |_=>False
where
 pickK (cs:List SV) (sz i:Nat) (n:Option Nat) (K:SV→Prop):Prop:=
  match n,sz with
  |none,1=>match ints cs with
   |some l=>K (.si .i64 (nthD l i 0))
   |none=>match rowsOff cs with
    |some l=>K (.row .off (nthD l i []))
    |none=>False
  |_,_=>False
 rowsOff:List SV→Option (List (List Off))
  |[]=>some []
  | .row .off l::cs=>(rowsOff cs).map (l::·)
  |_=>none
def mkK (nid:Nat) (x:SObj) (o:SStore) (K:SStore→Prop):Prop:=
 match o[nid]? with
 |some .dead=>K (o.set nid x)
 |_=>False
def fillS (parts:List (Nat×Nat×SV)) (cs:List SV):Option (List SV):=
 match parts with
 |[]=>some cs
 |(off,n,v)::rest=>
  if v.cellsOf.length=n∧oneS v.cellsOf=true∧off+n≤cs.length then fillS rest (writeS cs off v.cellsOf) else none
def decL (s:SId):Nat→List SV→Option (List s.T)
 |0,[]=>some []
 |n+1,cs=>match decS s (cs.take s.sz),decL s n (cs.drop s.sz) with
  |some x,some l=>some (x::l)
  |_,_=>none
 |_,_=>none
def elemsK (o:SStore) (s:SId) (x:SV) (K:List s.T→Prop):Prop:=
 match x with
 | .row s' l=>optK (castL s' s l) K
 | .ow id n sz=>match o[id]? with
  |some (.row s' l _ _)=>if sz=s'.sz then n=l.length∧optK (castL s' s l) K else False
  |_=>False
 | .os id off len n sz=>match o[id]? with
  |some (.row s' l _ _)=>if sz=s'.sz then n=l.length∧off+len≤n∧optK (castL s' s ((l.drop off).take len)) K else False
  |_=>False
 | .sc (.slice none 0 0)=>K []
 |_=>False
def pendK (o:SStore):SV→Option (List SV)
 | .ow j 1 sz=>match o[j]? with
  |some (.rowp s [] _ t)=>if s.sz=sz then some t else none
  |_=>none
 |_=>none
def SV.isOw:SV→Bool
 | .ow .. =>true
 |_=>false
def intS:SV→Option Int
 | .si _ n=>some n
 | .il _ n=>some n
 |_=>none
def isNil:SV→Bool
 | .sc (.slice none 0 0)=>true
 |_=>false
def binK (op:BinOp) (x y:SV) (K:SV→Prop):Prop:=
 match x,y with
 | .il k a,.il k' b=>match scBin op (.int k a) (.int k' b) with
  |some (.int k n)=>K (.il k n)
  |some (.bool c)=>K (.bl c)
  |_=>False
 | .si k a,.si k' b=>go k a k' b
 | .il k a,.si k' b=>go k a k' b
 | .si k a,.il k' b=>go k a k' b
 | .sc (.string a),.sc (.string b)=>match op with
  | .eql=>K (.sb (a.toList==b.toList))
  | .neq=>K (.sb (!(a.toList==b.toList)))
  |_=>False
 |_,_=>False
where
 go (k:IntKind) (a:Int) (k':IntKind) (b:Int):Prop:=
  match op with
  | .shl=>0≤b∧b≤k.bits∧rngK k (a*2^b.toNat) fun n=>K (.si k n)
  | .shr=>0≤b∧b≤k.bits∧K (.si k (a / 2^b.toNat))
  | .add=>if k=k' then rngK k (a+b) fun n=>K (.si k n) else False
  | .sub=>if k=k' then rngK k (a - b) fun n=>K (.si k n) else False
  | .mul=>if k=k' then rngK k (a*b) fun n=>K (.si k n) else False
  | .quo=>if k=k' then b≠0∧inR k (a.tdiv b)∧K (.si k (a.tdiv b)) else False
  | .rem=>if k=k' then b≠0∧K (.si k (a.tmod b)) else False
  | .and=>if k=k' then K (.si k (andI k a b)) else False
  | .or=>if k=k' then K (.si k (orI k a b)) else False
  | .xor=>if k=k' then K (.si k (xorI k a b)) else False
  | .andNot=>if k=k' then K (.si k (andNotI k a b)) else False
  | .eql=>if k=k' then K (.sb (decide (a=b))) else False
  | .neq=>if k=k' then K (.sb (decide (a≠b))) else False
  | .lss=>if k=k' then K (.sb (decide (a<b))) else False
  | .leq=>if k=k' then K (.sb (decide (a≤b))) else False
  | .gtr=>if k=k' then K (.sb (decide (b<a))) else False
  | .geq=>if k=k' then K (.sb (decide (b≤a))) else False
 andI (k:IntKind) (a b:Int):Int:=wrapI k (BitVec.ofInt k.bits a &&&BitVec.ofInt k.bits b).toNat
 orI (k:IntKind) (a b:Int):Int:=wrapI k (BitVec.ofInt k.bits a |||BitVec.ofInt k.bits b).toNat
 xorI (k:IntKind) (a b:Int):Int:=wrapI k (BitVec.ofInt k.bits a ^^^BitVec.ofInt k.bits b).toNat
 andNotI (k:IntKind) (a b:Int):Int:=wrapI k (BitVec.ofInt k.bits a &&&~~~(BitVec.ofInt k.bits b)).toNat
def seq1S:SV→SV→Option Bool
 | .si k a,y=>(y.int k).map fun b=>decide (a=b)
 | .il k a,y=>(y.int k).map fun b=>decide (a=b)
 | .sb a,y=>y.boo.map fun b=>a==b
 | .bl a,y=>y.boo.map fun b=>a==b
 |_,_=>none
def seqLS:List SV→List SV→Option Bool
 |[],[]=>some true
 |x::xs,y::ys=>match seq1S x y,seqLS xs ys with
  |some a,some b=>some (a&&b)
  |_,_=>none
 |_,_=>none
def kOkS:List Nat→List SV→Bool
 |[],[]=>true
 |0::ks,.si _ _::vs=>kOkS ks vs
 |0::ks,.il _ _::vs=>kOkS ks vs
 |1::ks,.sb _::vs=>kOkS ks vs
 |1::ks,.bl _::vs=>kOkS ks vs
 |_,_=>false
def findT (sk sv:SId) (x:sk.T) (es:List (sk.T×sv.T)):Option sv.T:=(es.find? fun p=>decide (p.1=x)).map (·.2)
def setT (sk sv:SId) (x:sk.T) (v:sv.T):List (sk.T×sv.T)→List (sk.T×sv.T)
 |[]=>[(x,v)]
 |p::r=>if p.1=x then(x,v)::r else p::setT sk sv x v r
def aggIs (ka:Bool):SV→Bool
 | .agg _=>ka
 |_=>!ka
def SId.keyed:SId→Bool
 | .key| .sit| .i _=>true
 |_=>false
def boundK (d:Nat):Option SV→(Nat→Prop)→Prop
 |none,K=>K d
 |some (.il _ n),K=>if 0≤n then K n.toNat else False
 |some (.si _ n),K=>0≤n∧K n.toNat
 |_,_=>False
def setI:List Int→Nat→Int→Nat→List Int
 |[],_,_,_=>[]
 |a::l,i,v,j=>(if i=j then v else a)::setI l i v (j+1)
def opK (p:SPar) (op:IOp) (ρ:Operand→SV) (o:SStore) (nid:Nat) (K:SV→SStore→Prop):Prop:=
 match op with
 | .mov x=>K (ρ x) o
 | .pick c a b=>match ρ c with
  | .bl true=>K (ρ a) o
  | .bl false=>K (ρ b) o
  | .sb c=>(c=true→K (ρ a) o)∧(c=false→K (ρ b) o)
  |_=>False
 | .alloc z e pu=>mkK nid (.cells (z.map .ofCell) e z.length pu) o fun o'=>K (.ptr nid 0 z.length) o'
 | .box e x=>if oneS (ρ x).cellsOf then mkK nid (.cells (ρ x).cellsOf e (ρ x).cellsOf.length false) o fun o'=>K (.ptr nid 0 (ρ x).cellsOf.length) o' else False
 | .build z parts=>optK (fillS (parts.map fun q=>(q.1,q.2.1,ρ q.2.2)) (z.map .ofCell)) fun cs=>K (.agg cs) o
 | .mkrow z len parts e sz=>match p.ty e,fillS (parts.map fun q=>(q.1,sz,ρ q.2)) ((List.replicate len (z.map SV.ofCell)).flatten) with
  |some s,some cs=>if s.sz=sz then(if cs.any SV.isOw then(if cs.length=len*sz then mkK nid (.rowp s [] e cs) o fun o'=>K (.ow nid len sz) o' else False) else optK (decL s len (cs.map SV.qn)) fun l=>mkK nid (.row s l e true) o fun o'=>K (.ow nid len sz) o') else False
  |_,_=>False
 | .mkimm z len parts e sz=>match p.ty e,fillS (parts.map fun q=>(q.1,sz,ρ q.2)) ((List.replicate len (z.map SV.ofCell)).flatten) with
  |some s,some cs=>if s.sz=sz then optK (decL s len (cs.map SV.qn)) fun l=>K (.row s l) o else False
  |_,_=>False
 | .load n a=>loadK o (ρ a) n fun v=>K v o
 | .store n a x=>match ρ a with
  | .ptr id off tot=>match o[id]? with
   |some (.cells cs e sz pu)=>
    if cs.length=tot∧(ρ x).cellsOf.length=n∧oneS (ρ x).cellsOf=true∧off+n≤cs.length∧(pu=false∨pureS (ρ x).cellsOf=true) then K .ud (o.set id (.cells (writeS cs off (if pu then(ρ x).cellsOf.map SV.qn else(ρ x).cellsOf)) e sz pu)) else False
   |_=>False
  | .rp id i off m sz=>match o[id]? with
   |some (.row s l e pu)=>
    if sz=s.sz∧(ρ x).cellsOf.length=n∧off+n≤s.sz then m=l.length∧i<l.length∧optK (decS s (writeS (encS s (nthD l i s.dflt)) off (if pu then(ρ x).cellsOf.map SV.qn else(ρ x).cellsOf))) fun v=>K .ud (o.set id (.row s (l.set i v) e pu)) else False
   |_=>False
  | .ap id base sz len tot i=>match o[id]? with
   |some (.cells cs e sz' pu)=>match n,sz,(ρ x).int .i64 with
    |1,1,some v=>match ints ((cs.drop base).take len) with
     |some l=>if cs.length=tot∧base+len≤tot then i<len∧K .ud (o.set id (.cells (writeS cs base ((setI l i v 0).map (SV.si .i64))) e sz' pu)) else False
     |none=>False
    |_,_,_=>False
   |_=>False
  |_=>False
 | .nilc x=>match ρ x with
  | .ptr a b c=>K (.ptr a b c) o
  | .rp a b c d e=>K (.rp a b c d e) o
  | .ep s l i f=>K (.ep s l i f) o
  |_=>False
 | .bin op x y=>binK op (ρ x) (ρ y) fun v=>K v o
 | .beq neg x y=>match(ρ x).boo,(ρ y).boo with
  |some a,some b=>K (.sb (if neg then !(a==b) else a==b)) o
  |_,_=>False
 | .eqf neg ks x y=>match ρ x,ρ y with
  | .agg a,.agg b=>if kOkS ks a&&kOkS ks b then optK (seqLS a b) fun r=>K (.sb (if neg then !r else r)) o else False
  |_,_=>False
 | .un op x=>match op,ρ x with
  | .not,.sb b=>K (.sb !b) o
  | .not,.bl b=>K (.bl !b) o
  | .neg,.si k n=>inR k (-n)∧K (.si k (-n)) o
  | .neg,.il k n=>K (.il k (wrapI k (0 - n))) o
  |_,_=>False
 | .conv k x=>match ρ x with
  | .il _ n=>K (.il k (wrapI k n)) o
  | .si .i64 n=>inR k n∧K (.si k n) o
  | .si _ n=>rngK k n fun m=>K (.si k m) o
  |_=>False
 | .fieldA off x=>match ρ x with
  | .ptr id b tot=>K (.ptr id (b+off) tot) o
  | .ep s l i b=>K (.ep s l i (b+off)) o
  | .rp id i b m sz=>K (.rp id i (b+off) m sz) o
  |_=>False
 | .field off n x=>match ρ x with
  | .agg cs=>optK (partS cs off n) fun v=>K v o
  |_=>False
 | .idxA len sz x i=>match ρ i with
  | .il _ n=>if 0≤n∧n<len then(match ρ x with
   | .ptr id b tot=>K (.ptr id (b+n.toNat*sz) tot) o
   | .ep s l j b=>K (.ep s l j (b+n.toNat*sz)) o
   | .rp id j b m sz'=>K (.rp id j (b+n.toNat*sz) m sz') o
   |_=>False) else False
  | .si _ n=>match ρ x with
   | .ptr id b tot=>0≤n∧n<len∧K (.ap id b sz len tot n.toNat) o
   |_=>False
  |_=>False
 | .idxS sz x i=>match intS (ρ i) with
  |some n=>match ρ x with
   | .row s l=>if sz=s.sz then 0≤n∧n<l.length∧K (.ep s l n.toNat 0) o else False
   | .ow id m sz'=>match o[id]? with
    |some (.row s l _ _)=>if sz=s.sz∧sz'=s.sz then m=l.length∧0≤n∧n<l.length∧K (.rp id n.toNat 0 m sz) o else False
    |_=>False
   | .os id off len m sz'=>match o[id]? with
    |some (.row s l _ _)=>if sz=s.sz∧sz'=s.sz then m=l.length∧0≤n∧n<len∧off+len≤m∧K (.rp id (off+n.toNat) 0 m sz) o else False
    |_=>False
   | .oc id off len m sz'=>match o[id]? with
    |some (.row s l _ _)=>if sz=s.sz∧sz'=s.sz then m=l.length∧0≤n∧n<len∧off+len≤m∧K (.rp id (off+n.toNat) 0 m sz) o else False
    |_=>False
   |_=>False
  |none=>False
 | .idx len sz n x i=>match ρ i,ρ x with
  | .il _ k,.agg cs=>if 0≤k∧k<len then optK (partS cs (k.toNat*sz) n) fun v=>K v o else False
  | .si _ k,.agg cs=>match n,sz,ints cs with
   |none,1,some l=>if l.length=len then 0≤k∧k<len∧K (.si .i64 (nthD l k.toNat 0)) o else False
   |_,_,_=>False
  |_,_=>False
 | .mkslice z e sz bytes l c pu=>match intS (ρ l),intS (ρ c),p.ty e with
  |some n,some m,some s=>if s.sz=sz then optK (decS s (if pu then(z.map SV.ofCell).map SV.qn else z.map .ofCell)) fun x=>0≤n∧n≤m∧m*bytes≤140737488355328∧m≤1000000000000∧
    mkK nid (.row s (List.replicate n.toNat x) e pu) o fun o'=>K (.ow nid n.toNat sz) o' else False
  |_,_,_=>False
 | .slice sz x lo hi=>match ρ x with
  | .row s l=>if sz=s.sz then boundK 0 (lo.map ρ) fun a=>boundK l.length (hi.map ρ) fun b=>a≤b∧b≤l.length∧K (.row s ((l.drop a).take (b - a))) o else False
  | .ow id m sz'=>match o[id]? with
   |some (.row s l _ _)=>if sz=s.sz∧sz'=s.sz then m=l.length∧boundK 0 (lo.map ρ) fun a=>boundK m (hi.map ρ) fun b=>a≤b∧b≤m∧K (.os id a (b - a) m sz) o else False
   |_=>False
  | .os id off len m sz'=>match o[id]? with
   |some (.row s l _ _)=>if sz=s.sz∧sz'=s.sz then m=l.length∧boundK 0 (lo.map ρ) fun a=>boundK len (hi.map ρ) fun b=>a≤b∧b≤len∧K (.os id (off+a) (b - a) m sz) o else False
   |_=>False
  |_=>False
 | .slice3 sz x lo hi mx=>match ρ x with
  | .row s l=>if sz=s.sz then boundK 0 (lo.map ρ) fun a=>boundK l.length (some (ρ hi)) fun b=>boundK l.length (some (ρ mx)) fun m=>a≤b∧b≤m∧m≤l.length∧K (.row s ((l.drop a).take (b - a))) o else False
  | .ow id n sz'=>match o[id]? with
   |some (.row s l _ _)=>if sz=s.sz∧sz'=s.sz then n=l.length∧boundK 0 (lo.map ρ) fun a=>boundK n (some (ρ hi)) fun b=>boundK n (some (ρ mx)) fun m=>a≤b∧b≤m∧m≤n∧K (.oc id a (b - a) n sz) o else False
   |_=>False
  |_=>False
 | .append e sz bytes s x pu=>match p.ty e,pendK o (ρ x) with
  |some t,some tl=>match ρ s,ρ x with
   | .ow id n sz',.ow _ _ sz2=>match o[id]? with
    |some (.row t' l e' pu')=>if e'=e∧t'.sz=sz∧sz'=sz∧sz2=sz∧t.sz=sz∧pu'=false∧tl.length=sz∧oneS tl=true then n=l.length∧(l.length+1)*bytes≤140737488355328∧l.length+1≤1000000000000∧
      K (.ow id (l.length+1) sz) (o.set id (.rowp t' l e tl)) else False
    |_=>False
   |_,_=>False
  |some t,none=>if t.sz=sz then elemsK o t (ρ x) fun new=>match ρ s with
    | .sc (.slice none 0 0)=>(new.length=0→K (.sc nilSl) o)∧(new.length≠0→new.length*bytes≤140737488355328∧new.length≤1000000000000∧mkK nid (.row t new e pu) o fun o'=>K (.ow nid new.length sz) o')
    | .ow id n sz'=>match o[id]? with
     |some (.row t' l e' pu')=>if e'=e∧t'.sz=sz∧sz'=sz then n=l.length∧(l.length+new.length)*bytes≤140737488355328∧l.length+new.length≤1000000000000∧
       optK (castL t' t l) fun l'=>K (.ow id (l'++new).length sz) (o.set id (.row t (l'++new) e pu')) else False
     |_=>False
    | .row t' l=>new.length=0∧K (.row t' l) o
    |_=>False
   else False
  |none,_=>False
 | .len k x=>match k,ρ x with
  |0,.row _ l=>K (.si .i64 l.length) o
  |0,.ow _ n _=>K (.si .i64 n) o
  |0,.os _ _ len _ _=>K (.si .i64 len) o
  |0,.oc _ _ len _ _=>K (.si .i64 len) o
  |0,.sc (.slice none 0 0)=>K (.il .i64 0) o
  |1,.sc (.string s)=>K (.si .i64 s.size) o
  |2,.mp id=>match o[id]? with
   |some (.map _ _ _ es _ _)=>K (.si .i64 es.length) o
   |_=>False
  |_,_=>False
 | .lenArr n=>K (.il .i64 n) o
 | .mm mx x y=>match ρ x,ρ y with
  | .il k a,.il k' b=>if k=k' then K (.il k (if mx then(if b>a then b else a) else(if b<a then b else a))) o else False
  | .si k a,y=>optK (y.int k) fun b=>K (.si k (if mx then max a b else min a b)) o
  | .il k a,y=>optK (y.int k) fun b=>K (.si k (if mx then max a b else min a b)) o
  |_,_=>False
 | .call f args own=>callK p f (args.map ρ) o own K
 | .callv f args own=>match ρ f with
  | .fn (.func g) first captured=>callK p g (first++args.map ρ++captured) o own K
  |_=>False
 | .extract x i=>match ρ x with
  | .tup vs=>optK vs[i]? fun v=>K v o
  |_=>False
 | .mkfn f first captured=>K (.fn f (first.map ρ) (captured.map ρ)) o
 | .mkmap kt pu=>match p.mt kt with
  |some (sk,sv)=>mkK nid (.map sk sv kt.2 [] kt pu) o fun o'=>K (.mp nid) o'
  |none=>False
 | .lookup z agg ks ka x k ok=>match ρ x with
  | .mp id=>match o[id]? with
   |some (.map sk sv ka' es kt _)=>
    if kt=(ks,ka)∧ka'=ka∧sk.keyed=true∧sv.scal=true∧agg=false∧(ka=false→sk.sz=1)∧kOkS ks (ρ k).cellsOf=true∧aggIs ka (ρ k)=true then
     optK (decS sk (ρ k).cellsOf) fun kv=>optK (decS sv (z.map .ofCell)) fun zv=>
      let r:=(encS sv ((findT sk sv kv es).getD zv)).headD .ud
      K (if ok then .tup [r,.sb (findT sk sv kv es).isSome] else r) o
    else False
   |_=>False
  |_=>False
 | .mapset ks ka x k v=>match ρ x with
  | .mp id=>match o[id]? with
   |some (.map sk sv ka' es kt pu)=>
    if kt=(ks,ka)∧ka'=ka∧sk.keyed=true∧sv.scal=true∧(ka=false→sk.sz=1)∧kOkS ks (ρ k).cellsOf=true∧aggIs ka (ρ k)=true∧aggIs false (ρ v)=true then
     optK (decS sk (ρ k).cellsOf) fun kv=>optK (decS sv (ρ v).cellsOf) fun vv=>K .ud (o.set id (.map sk sv ka' (setT sk sv kv vv es) kt pu))
    else False
   |_=>False
  |_=>False
 |_=>False
where
 callK (p:SPar) (f:FuncId) (args:List SV) (o:SStore) (own:Bool) (K:SV→SStore→Prop):Prop:=
  if own then p.C.own f args o K
  else seqK (frzK o 6) args fun args'=>p.C.pure f args' fun r=>if(args.flatMap (fun v=>tchF (o.map SObj.g) 6 v.g)).isEmpty||r.noSl then K r o else False
def setE:SEnv→Nat→SV→SEnv
 |[],_,_=>[]
 |p::r,s,v=>bif Nat.beq p.1 s then(p.1,v)::r else p::setE r s v
def wantK (env:SEnv) (g:Option (Option Nat×Bool)) (K:SEnv→Bool→Prop):Prop:=
 match g with
 |none=>K env true
 |some (none,_)=>False
 |some (some s,b)=>match getS env s with
  | .bl c=>K env (c==b)
  | .sb c=>(c=true→K (setE env s (.bl true)) (true==b))∧(c=false→K (setE env s (.bl false)) (false==b))
  | .tup []=>K env false
  |_=>False
def SV.same (v w:SV):Prop:=v.g=w.g
def SObj.same (x y:SObj):Prop:=x.g=y.g
def sameO:SStore→SStore→Prop
 |[],[]=>True
 |x::o,y::o'=>x.same y∧sameO o o'
 |_,_=>False
def roK (p:SPar) (op:IOp) (o o':SStore) (K:Bool→Prop):Prop:=
 match op with
 | .call f _ true=>if p.ro f=true then sameO o o'∧K true else K false
 |_=>K false
def opsK (p:SPar) (base:Nat):List IOper→SSt→Trace→(SSt→Trace→Prop)→Prop
 |[],st,tr,K=>K st tr
 |i::r,st,tr,K=>wantK st.env i.guard fun env w=>
   if w then opK p i.op (evS env) st.o (base+i.nid) fun v o'=>roK p i.op st.o o' fun ro=>opsK p base r ⟨putS env i.dst v,o'⟩ ((i.idx,tch i.op (fun x=>(evS env x).g) (st.o.map SObj.g) (base+i.nid),if ro then[] else wrt i.op (fun x=>(evS env x).g) (st.o.map SObj.g) (base+i.nid))::tr) K
   else opsK p base r ⟨putS env i.dst (.tup []),st.o⟩ ((i.idx,[],[])::tr) K
def SObj.isDead:SObj→Bool
 | .dead=>true
 |_=>false
def sweepS (base:Nat) (o:SStore):SStore:=if(o.drop base).all (·.isDead) then o.take base else o
def regK (p:SPar) (k:Nat) (ops:List IOper) (chk:List (Nat×Nat)) (st:SSt) (K:SSt→Prop):Prop:=
 opsK p st.o.length ops ⟨st.env,st.o++List.replicate k .dead⟩ [] fun st' tr=>
  if chk.isEmpty||chkOk (st.o.length+k) tr.reverse chk then K ⟨st'.env,if k=0 then st'.o else sweepS st.o.length st'.o⟩ else False
mutual
def frzV (id:Nat) (s:SId) (l:List s.T):SV→(SV→Prop)→Prop
 | .ow j n sz,K=>if j=id then(if sz=s.sz then n=l.length∧K (.row s l) else False) else K (.ow j n sz)
 | .os j off len n sz,K=>if j=id then(if sz=s.sz then n=l.length∧off+len≤n∧K (.row s ((l.drop off).take len)) else False) else K (.os j off len n sz)
 | .oc j off len n sz,K=>if j=id then False else K (.oc j off len n sz)
 | .rp j i f n sz,K=>if j=id then False else K (.rp j i f n sz)
 | .ptr j f t,K=>if j=id then False else K (.ptr j f t)
 | .ap j a b c d e,K=>if j=id then False else K (.ap j a b c d e)
 | .agg cs,K=>frzVL id s l cs fun cs'=>K (.agg cs')
 | .tup cs,K=>frzVL id s l cs fun cs'=>K (.tup cs')
 | .fn f a b,K=>frzVL id s l a fun a'=>frzVL id s l b fun b'=>K (.fn f a' b')
 |v,K=>K v
def frzVL (id:Nat) (s:SId) (l:List s.T):List SV→(List SV→Prop)→Prop
 |[],K=>K []
 |c::cs,K=>frzV id s l c fun c'=>frzVL id s l cs fun cs'=>K (c'::cs')
end
def frzEK (id:Nat) (s:SId) (l:List s.T):SEnv→(SEnv→Prop)→Prop
 |[],K=>K []
 |(k,v)::r,K=>frzV id s l v fun v'=>frzEK id s l r fun r'=>K ((k,v')::r')
def frzOK (id:Nat) (s:SId) (l:List s.T):Nat→SStore→(SStore→Prop)→Prop
 |_,[],K=>K []
 |i,x::r,K=>match x with
  | .cells cs e sz pu=>if pu then(if i=id then False else frzOK id s l (i+1) r fun r'=>K (.cells cs e sz pu::r')) else frzVL id s l cs fun cs'=>frzOK id s l (i+1) r fun r'=>K (.cells cs' e sz pu::r')
  | .rowp s' l' e t=>if i=id then False else frzVL id s l t fun t'=>match decL s' 1 t' with
   |some m=>frzOK id s l (i+1) r fun r'=>K (.row s' (l'++m) e false::r')
   |none=>False
  | .row s' l' e pu=>if i=id then(if pu then frzOK id s l (i+1) r fun r'=>K (.dead::r') else False) else frzOK id s l (i+1) r fun r'=>K (.row s' l' e pu::r')
  |x=>frzOK id s l (i+1) r fun r'=>K (x::r')
def hintK (p:SPar) (lo:Nat) (h:OwnH) (st:SSt) (K:SSt→Prop):Prop:=
 if h.own then match h.off with
  |none=>if isNil (getS st.env h.slot) then(match p.ty h.e with
    |some s=>if s.sz=h.sz then K ⟨(h.slot,.ow st.o.length 0 h.sz)::st.env,st.o++[.row s [] h.e h.pu]⟩ else False
    |none=>False) else if h.sz=0 then(match getS st.env h.slot with
     | .ow id _ _=>match st.o[id]? with
      |some (.row s l e true)=>K ⟨st.env,st.o.set id (.row s l e false)⟩
      |_=>False
     |_=>False) else K st
  |some k=>match getS st.env h.slot with
   | .ptr id off tot=>match st.o[id]? with
    |some (.cells cs e sz pu)=>if(cs[off+k]?).any isNil then(if cs.length=tot∧pu=false then(match p.ty h.e with
      |some s=>if s.sz=h.sz then K ⟨st.env,(st.o.set id (.cells (cs.set (off+k) (.ow st.o.length 0 h.sz)) e sz pu))++[.row s [] h.e h.pu]⟩ else False
      |none=>False) else False) else K st
    |_=>False
   |_=>False
 else match cellK h st with
  |some (some id)=>if Nat.ble lo id then(match st.o[id]? with
   |some (.row s l e pu)=>frzEK id s l st.env fun env=>frzOK id s l 0 (if pu then st.o else st.o.set id (.row s l e true)) fun o=>K ⟨env,o⟩
   |_=>False) else K st
  |some none=>K st
  |none=>False
where
 idOf:SV→Option Nat
  | .ow id .. =>some id
  | .os id .. =>some id
  | .oc id .. =>some id
  |_=>none
 cellK (h:OwnH) (st:SSt):Option (Option Nat):=
  match h.off with
  |none=>some (idOf (getS st.env h.slot))
  |some k=>match getS st.env h.slot with
   | .ptr id off tot=>match st.o[id]? with
    |some (.cells cs _ _ _)=>if cs.length=tot then(cs[off+k]?).map idOf else none
    |_=>none
   |_=>none
def hintsK (p:SPar) (lo:Nat):List OwnH→SSt→(SSt→Prop)→Prop
 |[],st,K=>K st
 |h::hs,st,K=>hintK p lo h st fun st'=>hintsK p lo hs st' K
def pruneS (live:List Nat) (env:SEnv):SEnv:=live.map fun s=>(s,getS env s)
def trimS (k:Nat) (st:SSt):SSt:=
 if st.o.length≤k then st
 else if(st.env.all fun p=>p.2.bel k)&&((st.o.take k).all fun x=>x.bel k) then⟨st.env,st.o.take k⟩ else st
def sameE:SEnv→SEnv→Prop
 |[],[]=>True
 |(k,v)::e,(k',v')::e'=>if k=k' then v.same v'∧sameE e e' else False
 |_,_=>False
def sameSt (s t:SSt):Prop:=sameE s.env t.env∧sameO s.o t.o
def iS (s:SSt) (k:Nat):Int:=match getS s.env k with
 | .si _ n=>n
 | .il _ n=>n
 |_=>0
def bS (s:SSt) (k:Nat):Bool:=match getS s.env k with
 | .sb b=>b
 | .bl b=>b
 |_=>false
def rS (t:SId) (s:SSt) (k:Nat):List t.T:=match getS s.env k with
 | .row t' l=>match castL t' t l with
  |some l=>l
  |none=>[]
 |_=>[]
def oS (t:SId) (s:SSt) (id:Nat):List t.T:=match s.o[id]? with
 |some (.row t' l _ _)=>match castL t' t l with
  |some l=>l
  |none=>[]
 |_=>[]
def cS (t:SId) (s:SSt) (id off:Nat):t.T:=match s.o[id]? with
 |some (.cells cs _ _ _)=>match decS t ((cs.drop off).take t.sz) with
  |some x=>x
  |none=>t.dflt
 |_=>t.dflt
def castM (k v k' v':SId) (es:List (k.T×v.T)):Option (List (k'.T×v'.T)):=if h:k=k'∧v=v' then some (h.1▸h.2▸es) else none
def mS (k v:SId) (s:SSt) (id:Nat):List (k.T×v.T):=match s.o[id]? with
 |some (.map k' v' _ es _ _)=>match castM k' v' k v es with
  |some es=>es
  |none=>[]
 |_=>[]
def splitN (v:Int) (n:Nat) (K:Nat→Prop):Nat→Prop
 |0=>0≤v∧v<n
 |j+1=>(v=(n - (j+1):Nat)→K (n - (j+1)))∧splitN v n K j
def splitK (x:Option (Nat×Nat×Nat)) (st:SSt) (K:SSt→Prop):Prop:=
 match x with
 |none=>K st
 |some (id,off,n)=>match st.o[id]? with
  |some (.cells cs e sz pu)=>match cs[off]? with
   |some (.si k v)=>splitN v n (fun j=>K ⟨st.env,st.o.set id (.cells (cs.set off (.il k j)) e sz pu)⟩) n
   |_=>False
  |_=>False
inductive LoopAnn where
 |unroll (n:Nat)
 |look
 |inv (X:Type) (shape:X→SSt) (next:SSt→X) (J:X→Prop) (m:X→Nat) (inner:X→Nat→LoopAnn)
def Look (_:SSt):Prop:=False
def firstReg:IR→Nat
 | .region id .. =>id
 | .seq .skip b=>firstReg b
 | .seq a _=>firstReg a
 | .block _ b=>firstReg b
 | .loop b=>firstReg b
 | .turns _ b=>firstReg b
 |_=>0
def unrollK (W:SSt→(Out→SSt→Prop)→Prop) (Q:Out→SSt→Prop):Nat→SSt→Prop
 |0,_=>False
 |n+1,st=>W st fun out s=>match out with
  | .norm=>unrollK W Q n (trimS st.o.length s)
  |o=>Q o s
def dropS (t:Nat):SEnv→SEnv
 |[]=>[]
 |p::r=>bif Nat.beq p.1 t then dropS t r else p::dropS t r
def dropSE (x:Operand) (env:SEnv):SEnv:=
 match x with
 | .tmp t=>dropS t env
 |_=>env
def setX (env:SEnv) (x:Operand) (v:SV):SEnv:=
 match x with
 | .tmp t=>setE env t v
 |_=>env
abbrev YS:=List SV→SStore→(SV→SStore→Prop)→Prop
mutual
def SV.noY:SV→Bool
 | .agg cs| .tup cs=>noYS cs
 | .fn (.yield _) _ _=>false
 | .fn _ a b=>noYS a&&noYS b
 |_=>true
def noYS:List SV→Bool
 |[]=>true
 |c::cs=>c.noY&&noYS cs
end
def SObj.noY:SObj→Bool
 | .cells cs _ _ pu=>pu||noYS cs
 | .rowp _ _ _ t=>noYS t
 |_=>true
def yArg (op:IOp) (ρ:Operand→SV):Option (List SV):=
 match op with
 | .callv x args _=>match ρ x with
  | .fn (.yield _) [] []=>some (args.map ρ)
  |_=>none
 |_=>none
def opsYK (p:SPar) (Y:YS) (base:Nat):List IOper→SSt→(SSt→Prop)→Prop
 |[],st,K=>K st
 |i::r,st,K=>wantK st.env i.guard fun env w=>
   if w then match yArg i.op (evS env) with
    |some vs=>Y vs st.o fun v o'=>opsYK p Y base r ⟨putS env i.dst v,o'⟩ K
    |none=>opK p i.op (evS env) st.o (base+i.nid) fun v o'=>opsYK p Y base r ⟨putS env i.dst v,o'⟩ K
   else opsYK p Y base r ⟨putS env i.dst (.tup []),st.o⟩ K
def regYK (p:SPar) (Y:YS) (k:Nat) (ops:List IOper) (st:SSt) (K:SSt→Prop):Prop:=
 opsYK p Y st.o.length ops ⟨st.env,st.o++List.replicate k .dead⟩ fun st'=>K ⟨st'.env,if k=0 then st'.o else sweepS st.o.length st'.o⟩
def regMK (p:SPar) (Y:Option YS) (draw:Bool) (k:Nat) (ops:List IOper) (chk:List (Nat×Nat)) (st:SSt) (K:SSt→Prop):Prop:=
 match Y,draw with
 |none,_=>regK p k ops chk st K
 |some _,true=>regK p k ops chk st K
 |some y,false=>regYK p y k ops st K
def wpG (p:SPar) (E:Operand→List Nat→IR→IR→(Nat→LoopAnn)→SSt→(Out→SSt→Prop)→Prop) (Y:Option YS) (lo:Nat):IR→(Nat→LoopAnn)→SSt→(Out→SSt→Prop)→Prop
 | .skip,_,st,Q=>Q .norm st
 | .region id draw k ops chk live pre post,_,st,Q=>splitK (p.sp id) st fun st0=>hintsK p lo pre st0 fun st1=>regMK p Y draw k ops chk st1 fun st2=>hintsK p lo post ⟨pruneS live st2.env,st2.o⟩ fun st3=>Q .norm st3
 | .seq a b,Λ,st,Q=>wpG p E Y lo a Λ st fun out s=>match out with
  | .norm=>wpG p E Y lo b Λ s Q
  |o=>Q o s
 | .cond x a b,Λ,st,Q=>match evS st.env x with
  | .bl true=>wpG p E Y lo a Λ ⟨dropSE x st.env,st.o⟩ Q
  | .bl false=>wpG p E Y lo b Λ ⟨dropSE x st.env,st.o⟩ Q
  | .sb c=>(c=true→wpG p E Y lo a Λ ⟨dropSE x st.env,st.o⟩ Q)∧(c=false→wpG p E Y lo b Λ ⟨dropSE x st.env,st.o⟩ Q)
  |_=>False
 | .block id b,Λ,st,Q=>wpG p E Y lo b Λ st fun out s=>Q (out.inBlock id) s
 | .loop b,Λ,st,Q=>match Λ (firstReg b) with
  | .unroll n=>unrollK (wpG p E Y lo b Λ) Q n st
  | .look=>Look st
  | .inv _ shape next J m inner=>(sameSt st (shape (next st))∧J (next st))∧∀x,J x→wpG p E Y lo b (inner x) (shape x) fun out s=>match out with
   | .norm=>sameSt (trimS (shape x).o.length s) (shape (next (trimS (shape x).o.length s)))∧J (next (trimS (shape x).o.length s))∧m (next (trimS (shape x).o.length s))<m x
   |o=>Q o s
 | .exit id,_,st,Q=>Q (.exit id) st
 | .ret,_,st,Q=>Q .ret st
 | .goto l,_,st,Q=>Q (.goto l) st
 | .condK x a b,Λ,st,Q=>match evS st.env x with
  | .bl true=>wpG p E Y lo a Λ st Q
  | .bl false=>wpG p E Y lo b Λ st Q
  | .sb c=>(c=true→wpG p E Y lo a Λ ⟨setX st.env x (.bl true),st.o⟩ Q)∧(c=false→wpG p E Y lo b Λ ⟨setX st.env x (.bl false),st.o⟩ Q)
  |_=>False
 | .turns none b,Λ,st,Q=>wpG p E Y lo b Λ st fun out s=>match out with
  | .goto _=>False
  |o=>Q o s
 | .turns (some l) b,Λ,st,Q=>match Λ (firstReg b) with
  | .inv _ shape next J m inner=>(sameSt st (shape (next st))∧J (next st))∧∀x,J x→wpG p E Y lo b (inner x) (shape x) fun out s=>match out with
   | .goto l'=>l'=l∧sameSt (trimS (shape x).o.length s) (shape (next (trimS (shape x).o.length s)))∧J (next (trimS (shape x).o.length s))∧m (next (trimS (shape x).o.length s))<m x
   |o=>Q o s
  |_=>Look st
 | .each x ps az bd,Λ,st,Q=>E x ps az bd Λ st Q
def noE:Operand→List Nat→IR→IR→(Nat→LoopAnn)→SSt→(Out→SSt→Prop)→Prop:=fun _ _ _ _ _ _ _=>False
def bindS:Nat→List SV→SEnv
 |_,[]=>[]
 |i,v::vs=>(i,v)::bindS (i+1) vs
def bindPS:List Nat→List SV→SEnv→SEnv
 |p::ps,v::vs,env=>bindPS ps vs ((p,v)::env)
 |_,_,env=>env
def resK (st:SSt) (rs:List IRes) (K:SV→Prop):Prop:=
 goK rs fun l=>match l with
  |[v]=>K v
  |l=>K (.tup l)
where
 goK:List IRes→(List SV→Prop)→Prop
  |[],K=>K []
  |r::rs,K=>oneK r fun v=>goK rs fun l=>K (v::l)
 oneK (r:IRes) (K:SV→Prop):Prop:=match r.cell with
  |none=>K (getS st.env r.slot)
  |some n=>loadK st.o (getS st.env r.slot) n K
def roundK (p:SPar) (ps:List Nat) (az bd:IR) (Λ:Nat→LoopAnn) (env:SEnv):YS:=fun vs o K=>
 if vs.length=ps.length then wpG p noE none o.length az Λ ⟨bindPS ps vs env,o⟩ fun out s1=>match out with
  | .norm=>wpG p noE none s1.o.length bd Λ s1 fun out s2=>match out with
   | .norm=>K (.bl true) (trimS o.length ⟨[],s2.o⟩).o
   |_=>False
  |_=>False
 else False
def eachK (p:SPar) (x:Operand) (ps:List Nat) (az bd:IR) (Λ:Nat→LoopAnn) (st:SSt) (Q:Out→SSt→Prop):Prop:=
 match evS st.env x with
 | .fn (.func f) first captured=>match p.it f with
  |some F=>if first.length+1+captured.length=F.params∧st.env.all (fun p=>p.2.noY)=true∧st.o.all SObj.noY=true then
    wpG p noE (some (roundK p ps az bd Λ st.env)) st.o.length F.body (fun n=>Λ (1000+n)) ⟨bindS 0 (first++[.fn (.yield 0) [] []]++captured),st.o⟩ fun out s=>match out with
     | .exit _=>False
     | .goto _=>False
     |_=>resK s F.res fun r=>if r.bel st.o.length&&s.o.all (fun x=>x.bel st.o.length)&&decide (st.o.length≤s.o.length)&&(s.o.take st.o.length).all SObj.noY then Q .norm ⟨st.env,s.o.take st.o.length⟩ else False
   else False
  |none=>False
 |_=>False
def wpS (p:SPar) (lo:Nat):IR→(Nat→LoopAnn)→SSt→(Out→SSt→Prop)→Prop:=wpG p (eachK p) none lo
def fnK (p:SPar) (Λ:Nat→LoopAnn) (F:IFn) (args:List SV) (Q:SV→Prop):Prop:=
 wpS p 0 F.body Λ ⟨bindS 0 args,[]⟩ fun out st=>match out with
  | .exit _=>False
  | .goto _=>False
  |_=>resK st F.res fun r=>frzK st.o 6 r Q
def fnOwnK (p:SPar) (Λ:Nat→LoopAnn) (F:IFn) (args:List SV) (o:SStore) (Q:SV→SStore→Prop):Prop:=
 wpS p o.length F.body Λ ⟨bindS 0 args,o⟩ fun out st=>match out with
  | .exit _=>False
  | .goto _=>False
  |_=>resK st F.res fun r=>if r.bel o.length&&st.o.all (fun x=>x.bel o.length)&&decide (o.length≤st.o.length) then Q r (st.o.take o.length) else False
def gE (env:SEnv):EnvA:=env.map fun p=>(p.1,p.2.g)
def gO (o:SStore):Store:=o.map SObj.g
def SSt.g (st:SSt):St:=⟨gE st.env,gO st.o⟩
theorem getS_g:∀(env:SEnv) (s:Nat),getE (gE env) s=(getS env s).g
 |[],_=>by simp[gE,getE,getS,SV.g]
 |p::r,s=>by
  have:=getS_g r s
  simp only[gE,List.map_cons,getE,getS] at this ⊢
  rw[this]
  cases Nat.beq p.1 s<;>rfl
theorem putS_g (env:SEnv) (d:Option Nat) (v:SV):gE (putS env d v)=putE (gE env) d v.g:=by
 cases d<;>simp[putS,putE,gE]
theorem ofCell_g (v:Value):(SV.ofCell v).g= .sc v:=by cases v<;>simp[SV.ofCell,SV.g]
theorem map_ofCell (l:List Value):(l.map SV.ofCell).map SV.g=l.map .sc:=by simp[ofCell_g]
theorem evS_g (env:SEnv) (x:Operand):evA (gE env) x=(evS env x).g:=by
 cases x with
 |tmp t=>simp[evA,evS,getS_g]
 |const v=>
  cases v<;>simp[evA,evS,AV.ofVal,SV.ofVal,SV.g]
  split<;>simp[SV.g,gL_map,ofCell_g]
 |global g=>simp[evA,evS,SV.g]
 |func f=>simp[evA,evS,SV.g,gL]
theorem evS_fun (env:SEnv):evA (gE env)=fun x=>(evS env x).g:=funext fun x=>evS_g env x
theorem cellsOf_g (v:SV):v.g.cellsOf=gL v.cellsOf:=by
 cases v<;>simp[SV.g,AV.cellsOf,SV.cellsOf,gL]
theorem one_g (v:SV):v.g.one=v.one:=by
 cases v<;>simp[SV.g,AV.one,SV.one,Value.oneCell']
theorem oneS_g (l:List SV):oneL (gL l)=oneS l:=by
 induction l with
 |nil=>simp[gL,oneL,oneS]
 |cons v l ih=>simp only[oneL,oneS,gL,List.all_cons,one_g] at ih ⊢;rw[ih]
theorem pureS_g:∀(l:List SV),pureS l=true→pureL (gL l)=true
 |[],_=>by simp[gL,pureL]
 |v::l,h=>by
  simp only[pureS,Bool.and_eq_true] at h
  simp only[gL,pureL,pureS_g l h.2,Bool.and_true]
  have h1:=h.1
  cases v<;>simp[SV.pure] at h1<;>simp[SV.g,AV.pure,flatA_pure]
mutual
theorem bel_g (k:Nat):∀(v:SV),v.g.bel k=v.bel k
 | .agg cs=>by simp only[SV.g,AV.bel,SV.bel];exact belS_g k cs
 | .tup cs=>by simp only[SV.g,AV.bel,SV.bel];exact belS_g k cs
 | .fn _ a b=>by simp only[SV.g,AV.bel,SV.bel,belS_g k a,belS_g k b]
 | .ud| .sc _| .il .. | .si .. | .bl _| .sb _| .row .. | .ep .. | .ptr .. | .ap .. | .rp .. | .ow .. | .os .. | .oc .. | .mp _=>by simp[SV.g,AV.bel,SV.bel]
theorem belS_g (k:Nat):∀(l:List SV),belL k (gL l)=belS k l
 |[]=>by simp[gL,belL,belS]
 |v::l=>by simp only[gL,belL,belS,bel_g k v,belS_g k l]
end
theorem map_bel (k:Nat) {sk sv:SId} (ka:Bool) (es:List (sk.T×sv.T)):belL k ((es.map fun p=>(keyV sk ka p.1,valA sv p.2)).map (·.2))=true:=
 belL_all fun a h=>by
  simp only[List.map_map,List.mem_map,Function.comp] at h
  obtain⟨p,_,rfl⟩:=h
  simp[valA,AV.bel]
theorem obel_g (k:Nat) (x:SObj):x.g.bel k=x.bel k:=by
 cases x with
 |dead=>rfl
 |cells cs e sz pu=>simp[SObj.g,AObj.bel,SObj.bel,belS_g]
 |row s l e pu=>simp[SObj.g,AObj.bel,SObj.bel,flatA_bel]
 |rowp s l e t=>
  have happ:∀a b:List AV,belL k (a++b)=(belL k a&&belL k b):=fun a b=>by
   induction a with
   |nil=>simp[belL]
   |cons c a ih=>simp only[List.cons_append,belL,ih,Bool.and_assoc]
  simp only[SObj.g,AObj.bel,SObj.bel,happ,flatA_bel,belS_g,Bool.true_and,Bool.false_or]
 |map sk sv ka es kt pu=>simp only[SObj.g,AObj.bel,SObj.bel,map_bel,Bool.or_true]
mutual
theorem noSl_g:∀(v:SV),v.noSl=true→v.g.noSl=true
 | .agg cs,h=>by simp only[SV.noSl] at h;simp only[SV.g,AV.noSl];exact noSlS_g cs h
 | .tup cs,h=>by simp only[SV.noSl] at h;simp only[SV.g,AV.noSl];exact noSlS_g cs h
 | .ud,_| .sc _,_| .il ..,_| .si ..,_| .bl _,_| .sb _,_=>by simp[SV.g,AV.noSl]
 | .row ..,h| .ep ..,h| .ptr ..,h| .ap ..,h| .rp ..,h| .ow ..,h| .os ..,h| .oc ..,h| .mp _,h| .fn ..,h=>by simp[SV.noSl] at h
theorem noSlS_g:∀(l:List SV),noSlS l=true→noSlL (gL l)=true
 |[],_=>by simp[gL,noSlL]
 |v::l,h=>by
  simp only[noSlS,Bool.and_eq_true] at h
  simp only[gL,noSlL,noSl_g v h.1,noSlS_g l h.2,Bool.and_true]
end
theorem gL_len (l:List SV):(gL l).length=l.length:=by simp[gL_map]
theorem gL_get (l:List SV) (i:Nat):(gL l)[i]?=(l[i]?).map SV.g:=by simp[gL_map]
theorem gL_app (a b:List SV):gL (a++b)=gL a++gL b:=by simp[gL_map]
theorem partS_g {cs:List SV} {off:Nat} {n:Option Nat} {v:SV} (h:partS cs off n=some v):partA (gL cs) off n=some v.g:=by
 cases n with
 |none=>simp only[partS] at h;simp[partA,gL_get,h]
 |some m=>
  simp only[partS] at h
  split at h
  ·rename_i hl
   simp only[Option.some.injEq] at h;subst h
   simp only[partA]
   rw[if_pos (by rw[gL_len];exact hl)]
   simp only[SV.g,gL_map,List.map_take,List.map_drop]
  ·cases h
theorem writeS_g:∀(vs cs:List SV) (off:Nat),gL (writeS cs off vs)=writeL (gL cs) off (gL vs)
 |[],cs,off=>by simp[writeS,gL,writeL]
 |v::vs,cs,off=>by
  simp only[writeS,gL,writeL]
  rw[writeS_g vs]
  congr 1
  simp[gL_map]
theorem gL_qn (cs:List SV):gL (cs.map SV.qn)=(gL cs).map AV.qn:=by
 rw[gL_map,gL_map,List.map_map,List.map_map]
 exact List.map_congr_left fun v _=>qnS_g v
theorem gL_qnL (pu:Bool) (cs:List SV):gL (if pu then cs.map SV.qn else cs)=qnL pu (gL cs):=by
 unfold qnL
 split
 ·exact gL_qn cs
 ·rfl
theorem plain_qn {c:AV} (h:Plain c.qn):c.one=true∧c.pure=true:=by
 by_cases hc:c.qn=c
 ·rw[hc] at h
  exact⟨h.one,h.pure⟩
 ·unfold AV.qn at hc
  split at hc
  ·exact⟨rfl,rfl⟩
  ·exact absurd rfl hc
theorem qnL_plain {pu:Bool} {cs:List AV} (h:∀c∈qnL pu cs,Plain c):oneL cs=true∧pureL cs=true:=by
 have key:∀c∈cs,c.one=true∧c.pure=true:=by
  intro c hc
  unfold qnL at h
  split at h
  ·exact plain_qn (h _ (List.mem_map_of_mem hc))
  ·exact⟨(h c hc).one,(h c hc).pure⟩
 exact⟨by simp only[oneL,List.all_eq_true];exact fun c hc=>(key c hc).1,pureL_all fun c hc=>(key c hc).2⟩
theorem writeL_len:∀(vs cs:List AV) (off:Nat),(writeL cs off vs).length=cs.length
 |[],_,_=>rfl
 |v::vs,cs,off=>by simp only[writeL];rw[writeL_len vs];simp
theorem writeS_len:∀(vs cs:List SV) (off:Nat),(writeS cs off vs).length=cs.length
 |[],_,_=>rfl
 |v::vs,cs,off=>by simp only[writeS];rw[writeS_len vs];simp
theorem writeL_mid:∀(vs a b c:List AV) (off:Nat),off+vs.length≤b.length→writeL (a++b++c) (a.length+off) vs=a++writeL b off vs++c
 |[],a,b,c,off,_=>rfl
 |v::vs,a,b,c,off,h=>by
  simp only[List.length_cons] at h
  simp only[writeL]
  have h1:(a++b++c).set (a.length+off) v=a++b.set off v++c:=by
   rw[List.append_assoc,List.set_append_right _ _ (by omega),Nat.add_sub_cancel_left,List.set_append_left _ _ (by omega),List.append_assoc]
  rw[h1,Nat.add_assoc,writeL_mid vs a (b.set off v) c (off+1) (by simp;omega)]
theorem flatA_split {s:SId} {l:List s.T} {i:Nat} (h:i<l.length):flatA s l=flatA s (l.take i)++encA s (nthD l i s.dflt)++flatA s (l.drop (i+1)):=by
 have h1:l=l.take i++l[i]::l.drop (i+1):=by simp
 rw[nthD_eq h]
 conv=>lhs;rw[h1]
 rw[flatA_app]
 simp only[flatA,List.flatMap_cons,List.append_assoc]
theorem take_len {α:Type} {l:List α} {i:Nat} (h:i<l.length):(l.take i).length=i:=by simp;omega
theorem flatA_set {s:SId} {l:List s.T} {i off:Nat} {v:s.T} {vs:List AV} (h:i<l.length) (ho:off+vs.length≤s.sz) (hw:writeL (encA s (nthD l i s.dflt)) off vs=encA s v):
  writeL (flatA s l) (i*s.sz+off) vs=flatA s (l.set i v):=by
 have hl:(flatA s (l.take i)).length=i*s.sz:=by rw[flatA_len,take_len h]
 rw[flatA_split h,←hl,writeL_mid _ _ _ _ _ (by rw[encA_len];exact ho),hw]
 have h2:i<(l.set i v).length:=by simpa using h
 rw[flatA_split h2,nthD_eq h2]
 simp[List.take_set_of_le,List.drop_set_of_lt]
theorem flatA_part {s:SId} {l:List s.T} {i off:Nat} {n:Option Nat} {v:SV} (h:i<l.length) (hp:partS (encS s (nthD l i s.dflt)) off n=some v):partA (flatA s l) (i*s.sz+off) n=some v.g:=by
 have hg:=partS_g hp
 rw[gL_map,encS_g] at hg
 have hd:=flatA_at (s:=s) h
 have hlen:(flatA s l).length=i*s.sz+(s.sz+(flatA s (l.drop (i+1))).length):=by
  have:=congrArg List.length hd
  simp only[List.length_drop,List.length_append,encA_len] at this
  have h2:=flatA_len s l
  have h3:i*s.sz≤l.length*s.sz:=Nat.mul_le_mul_right _ (by omega)
  omega
 cases n with
 |none=>
  simp only[partA] at hg ⊢
  rw[←List.getElem?_drop,hd,List.getElem?_append_left]
  ·exact hg
  ·exact(List.getElem?_eq_some_iff.1 hg).1
 |some m=>
  simp only[partA,encA_len] at hg
  split at hg
  ·rename_i hl
   simp only[partA]
   rw[if_pos (by omega),←List.drop_drop,hd,List.drop_append_of_le_length (by rw[encA_len];omega),List.take_append_of_le_length (by rw[List.length_drop,encA_len];omega)]
   exact hg
  ·cases hg
theorem optK_some {α:Type} {x:Option α} {K:α→Prop} (h:optK x K):∃a,x=some a∧K a:=by
 cases x with
 |none=>exact h.elim
 |some a=>exact⟨a,rfl,h⟩
theorem gO_get (o:SStore) (i:Nat):(gO o)[i]?=(o[i]?).map SObj.g:=by simp[gO]
theorem gO_len (o:SStore):(gO o).length=o.length:=by simp[gO]
theorem gO_set (o:SStore) (i:Nat) (x:SObj):gO (o.set i x)=(gO o).set i x.g:=by simp[gO]
theorem getI {o:SStore} {i:Nat} {x:SObj} (h:o[i]?=some x):(gO o)[i]?=some x.g:=by rw[gO_get,h];rfl
theorem ints_all:∀{cs:List SV} {l:List Int},ints cs=some l→cs.length=l.length∧∀i,i<l.length→(cs[i]?).map SV.g=some (.sc (.int .i64 (nthD l i 0))):=by
 intro cs l h
 have h1:=ints_g h
 have h2:cs.length=l.length:=by simpa using congrArg List.length h1
 refine⟨h2,fun i hi=>?_⟩
 have:=congrArg (fun l=>l[i]?) h1
 simp only[List.getElem?_map] at this
 rw[this,List.getElem?_eq_getElem hi,nthD_eq hi]
 rfl
theorem rows_all:∀{cs:List SV} {l:List (List Off)},loadK.rowsOff cs=some l→cs.length=l.length∧∀i,i<l.length→cs[i]?=some (.row .off (nthD l i []))
 |[],l,h=>by simp[loadK.rowsOff] at h;subst h;simp
 |c::cs,l,h=>by
  cases c with
  |row s x=>
   cases s<;>simp only[loadK.rowsOff,reduceCtorEq] at h
   obtain⟨l',h1,rfl⟩:=Option.map_eq_some_iff.1 h
   obtain⟨h2,h3⟩:=rows_all h1
   refine⟨by simp[h2],fun i hi=>?_⟩
   cases i with
   |zero=>simp[nthD]
   |succ i=>simp only[List.getElem?_cons_succ];rw[h3 i (by simpa using hi)];simp[nthD]
  |_=>simp[loadK.rowsOff] at h
theorem pickK_sound {cs:List SV} {sz i:Nat} {n:Option Nat} {K:SV→Prop} (h:loadK.pickK cs sz i n K) (hi:i*sz<cs.length):∃v,partA (gL cs) (i*sz) n=some v.g∧K v:=by
 unfold loadK.pickK at h
 split at h
 ·rw[Nat.mul_one] at hi ⊢
  split at h
  ·rename_i l hl
   obtain⟨h1,h2⟩:=ints_all hl
   refine⟨_,?_,h⟩
   simp only[partA,gL_get,SV.g]
   exact h2 i (by omega)
  ·split at h
   ·rename_i l hl
    obtain⟨h1,h2⟩:=rows_all hl
    refine⟨_,?_,h⟩
    simp only[partA,gL_get,h2 i (by omega)]
    rfl
   ·exact h.elim
 ·exact h.elim
theorem partA_sub {cs:List AV} {base off m:Nat} {v:AV} (h:partA ((cs.drop base).take m) off none=some v):partA cs (base+off) none=some v:=by
 simp only[partA,List.getElem?_take] at h ⊢
 split at h
 ·rwa [List.getElem?_drop] at h
 ·cases h
theorem loadK_sound {o:SStore} {a:SV} {n:Option Nat} {K:SV→Prop} (h:loadK o a n K):∃cs off v,behind (gO o) a.g=some (cs,off)∧partA cs off n=some v.g∧K v:=by
 cases a with
 |ptr id off tot=>
  simp only[loadK] at h
  split at h
  ·rename_i cs e sz pu ho
   split at h
   ·rename_i hl
    obtain⟨v,hv,hk⟩:=optK_some h
    exact⟨gL cs,off,v,by simp[behind,SV.g,getI ho,SObj.g,gL_len,hl],partS_g hv,hk⟩
   ·exact h.elim
  ·exact h.elim
 |ap id base sz len tot i=>
  simp only[loadK] at h
  split at h
  ·rename_i cs e sz' pu ho
   split at h
   ·rename_i hl
    obtain⟨h1,h2⟩:=h
    have hm:(i+1)*sz≤len*sz:=Nat.mul_le_mul_right _ h1
    rw[Nat.succ_mul] at hm
    have hc:sz*len=len*sz:=Nat.mul_comm ..
    by_cases hz:sz=0
    ·subst hz
     unfold loadK.pickK at h2
     split at h2
     ·rename_i hh;cases hh
     ·exact h2.elim
    ·have hlt:i*sz<((cs.drop base).take (sz*len)).length:=by simp only[List.length_take,List.length_drop];omega
     obtain⟨v,hv,hk⟩:=pickK_sound h2 hlt
     have hn:n=none:=by
      unfold loadK.pickK at h2
      split at h2
      ·rfl
      ·exact h2.elim
     subst hn
     refine⟨gL cs,base+i*sz,v,by simp[behind,SV.g,getI ho,SObj.g,gL_len,hl.1],?_,hk⟩
     have:gL ((cs.drop base).take (sz*len))=((gL cs).drop base).take (sz*len):=by simp[gL_map]
     rw[this] at hv
     exact partA_sub hv
   ·exact h.elim
  ·exact h.elim
 |ep s l i off=>
  simp only[loadK] at h
  obtain⟨hi,h2⟩:=h
  obtain⟨v,hv,hk⟩:=optK_some h2
  exact⟨flatA s l,i*s.sz+off,v,by simp[behind,SV.g],flatA_part hi hv,hk⟩
 |rp id i off m sz=>
  simp only[loadK] at h
  split at h
  ·rename_i s l e pu ho
   split at h
   ·rename_i hsz
    subst hsz
    obtain⟨hm,hi,h2⟩:=h
    obtain⟨v,hv,hk⟩:=optK_some h2
    exact⟨flatA s l,i*s.sz+off,v,by simp[behind,SV.g,getI ho,SObj.g,flatA_len,hm],flatA_part hi hv,hk⟩
   ·exact h.elim
  ·exact h.elim
 |_=>simp only[loadK] at h
theorem freeze_sc (o:Store) (d:Nat) {v:Value} (h:v≠ .slice none 0 0):freeze o d (.sc v)=some (.sc v):=by
 cases d<;>unfold freeze<;>split<;>simp_all
theorem freeze_plain (o:Store) (d:Nat) {a:AV} (h:Plain a):freeze o d a=some a:=by
 rcases h with⟨v,rfl,_,h⟩|⟨n,cs,rfl,_⟩
 ·exact freeze_sc o d h
 ·cases d<;>simp[freeze]
theorem mapM_self {f:AV→Option AV}:∀{l:List AV},(∀a∈l,f a=some a)→l.mapM f=some l
 |[],_=>by simp
 |a::l,h=>by simp[List.mapM_cons,h a (by simp),mapM_self (l:=l) fun b hb=>h b (by simp[hb])]
theorem seqK_sound {o:Store} {d:Nat} {f:SV→(SV→Prop)→Prop} (hf:∀v K,f v K→∃v':SV,freeze o d v.g=some v'.g∧K v'):
  ∀{l:List SV} {K:List SV→Prop},seqK f l K→∃l',(gL l).mapM (freeze o d)=some (gL l')∧K l'
 |[],K,h=>⟨[],by simp[gL],h⟩
 |v::l,K,h=>by
  obtain⟨v',h1,h2⟩:=hf v _ h
  obtain⟨l',h3,h4⟩:=seqK_sound hf h2
  exact⟨v'::l',by simp[gL,List.mapM_cons,h1,h3],h4⟩
theorem flatA_sub {s:SId} {l:List s.T} {off len:Nat}:((flatA s l).drop (off*s.sz)).take (len*s.sz)=flatA s ((l.drop off).take len):=by
 rw[flatA_drop,flatA_take]
theorem frzK_sound {o:SStore}:∀{d:Nat} {v:SV} {K:SV→Prop},frzK o d v K→∃v',freeze (gO o) d v.g=some v'.g∧K v':=by
 intro d
 induction d with
 |zero=>
  intro v K h
  cases v<;>simp only[frzK] at h
  case sc v=>
   split at h
   ·exact⟨_,by simp[SV.g,freeze,flatA],h⟩
   ·rename_i hv
    exact⟨_,by simp only[SV.g];exact freeze_sc _ _ hv,h⟩
  all_goals first|exact h.elim|exact⟨_,by simp[SV.g,freeze],h⟩
 |succ d ih=>
  intro v K h
  cases v<;>simp only[frzK] at h
  case sc v=>
   split at h
   ·exact⟨_,by simp[SV.g,freeze,flatA],h⟩
   ·rename_i hv
    exact⟨_,by simp only[SV.g];exact freeze_sc _ _ hv,h⟩
  case agg cs=>
   obtain⟨l',h1,h2⟩:=seqK_sound (fun v K hv=>ih hv) h
   exact⟨_,by simp[SV.g,freeze,h1],h2⟩
  case tup cs=>
   obtain⟨l',h1,h2⟩:=seqK_sound (fun v K hv=>ih hv) h
   exact⟨_,by simp[SV.g,freeze,h1],h2⟩
  case fn f a b=>
   obtain⟨a',h1,h2⟩:=seqK_sound (fun v K hv=>ih hv) h
   obtain⟨b',h3,h4⟩:=seqK_sound (fun v K hv=>ih hv) h2
   exact⟨_,by simp[SV.g,freeze,h1,h3],h4⟩
  case ow id n sz=>
   split at h
   ·rename_i s l e pu ho
    split at h
    ·rename_i hsz
     obtain⟨rfl,hk⟩:=h
     subst hsz
     refine⟨_,?_,hk⟩
     have hself:(flatA s l).mapM (freeze (gO o) d)=some (flatA s l):=mapM_self fun a ha=>by
      exact freeze_plain _ _ (flatA_plain ha)
     have htk:List.take (l.length*s.sz) (flatA s l)=flatA s l:=List.take_of_length_le (by rw[flatA_len];omega)
     simp only[SV.g,freeze,getI ho,SObj.g,flatA_len,Nat.zero_add,Nat.le_refl,and_self,if_true,List.drop_zero,htk,hself,flatA_pure]
     cases pu<;>simp
    ·exact h.elim
   ·exact h.elim
  case os id off len n sz=>
   split at h
   ·rename_i s l e pu ho
    split at h
    ·rename_i hsz
     obtain⟨rfl,hle,hk⟩:=h
     subst hsz
     refine⟨_,?_,hk⟩
     have hself:(flatA s ((l.drop off).take len)).mapM (freeze (gO o) d)=some (flatA s ((l.drop off).take len)):=mapM_self fun a ha=>by
      exact freeze_plain _ _ (flatA_plain ha)
     have hm:(off+len)*s.sz≤l.length*s.sz:=Nat.mul_le_mul_right _ hle
     rw[Nat.add_mul] at hm
     have hll:((l.drop off).take len).length=len:=by simp;omega
     simp only[SV.g,freeze,getI ho,SObj.g,flatA_len,hm,and_self,if_true,flatA_sub,hself,flatA_pure,hll]
     cases pu<;>simp
    ·exact h.elim
   ·exact h.elim
  all_goals first|exact h.elim|exact⟨_,by simp[SV.g,freeze],h⟩
theorem wrapI_in {k:IntKind} {n:Int} (h:inR k n):wrapI k n=n:=by
 cases k<;>simp only[inR,wrapI] at h ⊢
 ·exact h
 ·exact h
 ·exact h
 ·simp[h.1,h.2]
 ·exact h
 ·exact h
 ·split<;>first|rfl|exact h
 ·split<;>first|rfl|exact h
theorem if_false' {c:Prop} [Decidable c] {A:Prop} (h:if c then A else False):c∧A:=by
 split at h
 ·exact⟨‹_›,h⟩
 ·exact h.elim
theorem min_bits {b:Int} {k:Nat} (h:b≤k):min b.toNat k=b.toNat:=by omega
theorem eq_dec (a b:Int):(a==b)=decide (a=b):=rfl
theorem ne_dec (a b:Int):(a !=b)=decide (a≠b):=by
 rw[Bool.eq_iff_iff]
 simp
theorem rngK_sound {k:IntKind} {n:Int} {K:Int→Prop} (h:rngK k n K):K (wrapI k n):=by
 have hu:k= .u32→wrapI k n=n % 4294967296:=by
  rintro rfl
  rw[wrapI_eq]
  simp[IntKind.wrap,IntKind.bits,IntKind.signed]
 have hv:k= .u64→wrapI k n=n % 18446744073709551616:=by
  rintro rfl
  rw[wrapI_eq]
  simp[IntKind.wrap,IntKind.bits,IntKind.signed]
 unfold rngK at h
 split at h
 ·rw[hu rfl];exact h
 ·rw[hv rfl];exact h
 ·rw[wrapI_in h.1];exact h.2
theorem go_sound {op:BinOp} {k k':IntKind} {a b:Int} {K:SV→Prop} (h:binK.go op K k a k' b):∃v v':_,scBin op (.int k a) (.int k' b)=some v∧v'.g= .sc v∧K v':=by
 cases op<;>simp only[binK.go] at h
 case shl=>
  obtain⟨h1,h2,h3⟩:=h
  refine⟨.int k (wrapI k (a*2^b.toNat)),.si k (wrapI k (a*2^b.toNat)),?_,rfl,rngK_sound h3⟩
  simp only[scBin,if_neg (Int.not_lt.2 h1),min_bits h2,powI_eq]
 case shr=>
  obtain⟨h1,h2,h4⟩:=h
  refine⟨.int k (a / 2^b.toNat),_,?_,rfl,h4⟩
  have:a.fdiv (2^b.toNat)=a / 2^b.toNat:=Int.fdiv_eq_ediv_of_nonneg _ (by exact Int.le_of_lt (Int.pow_pos (by decide)))
  simp only[scBin,if_neg (Int.not_lt.2 h1),min_bits h2,powI_eq,this]
 case add=>
  obtain⟨hk,hh⟩:=if_false' h
  subst hk
  exact⟨.int k (wrapI k (a+b)),.si k (wrapI k (a+b)),by simp only[scBin,if_true,intBin],rfl,rngK_sound hh⟩
 case sub=>
  obtain⟨hk,hh⟩:=if_false' h
  subst hk
  exact⟨.int k (wrapI k (a - b)),.si k (wrapI k (a - b)),by simp only[scBin,if_true,intBin],rfl,rngK_sound hh⟩
 case mul=>
  obtain⟨hk,hh⟩:=if_false' h
  subst hk
  exact⟨.int k (wrapI k (a*b)),.si k (wrapI k (a*b)),by simp only[scBin,if_true,intBin],rfl,rngK_sound hh⟩
 case quo=>
  obtain⟨hk,hh⟩:=if_false' h
  subst hk
  exact⟨.int k (a.tdiv b),_,by simp only[scBin,if_true,intBin,if_neg hh.1,wrapI_in hh.2.1],rfl,hh.2.2⟩
 case rem=>
  obtain⟨hk,hh⟩:=if_false' h
  subst hk
  exact⟨.int k (a.tmod b),_,by simp only[scBin,if_true,intBin,if_neg hh.1],rfl,hh.2⟩
 case and=>
  obtain⟨hk,hh⟩:=if_false' h
  subst hk
  exact⟨.int k (binK.andI k a b),_,by simp only[scBin,if_true,intBin,binK.andI],rfl,hh⟩
 case or=>
  obtain⟨hk,hh⟩:=if_false' h
  subst hk
  exact⟨.int k (binK.orI k a b),_,by simp only[scBin,if_true,intBin,binK.orI],rfl,hh⟩
 case xor=>
  obtain⟨hk,hh⟩:=if_false' h
  subst hk
  exact⟨.int k (binK.xorI k a b),_,by simp only[scBin,if_true,intBin,binK.xorI],rfl,hh⟩
 case andNot=>
  obtain⟨hk,hh⟩:=if_false' h
  subst hk
  exact⟨.int k (binK.andNotI k a b),_,by simp only[scBin,if_true,intBin,binK.andNotI],rfl,hh⟩
 case eql=>
  obtain⟨hk,hh⟩:=if_false' h
  subst hk
  exact⟨.bool (decide (a=b)),_,by simp only[scBin,if_true,intBin,Option.some.injEq,Value.bool.injEq];exact eq_dec a b,rfl,hh⟩
 case neq=>
  obtain⟨hk,hh⟩:=if_false' h
  subst hk
  exact⟨.bool (decide (a≠b)),_,by simp only[scBin,if_true,intBin,Option.some.injEq,Value.bool.injEq];exact ne_dec a b,rfl,hh⟩
 case lss=>
  obtain⟨hk,hh⟩:=if_false' h
  subst hk
  exact⟨.bool (decide (a<b)),_,by simp only[scBin,if_true,intBin],rfl,hh⟩
 case leq=>
  obtain⟨hk,hh⟩:=if_false' h
  subst hk
  exact⟨.bool (decide (a≤b)),_,by simp only[scBin,if_true,intBin],rfl,hh⟩
 case gtr=>
  obtain⟨hk,hh⟩:=if_false' h
  subst hk
  exact⟨.bool (decide (b<a)),_,by simp only[scBin,if_true,intBin],rfl,hh⟩
 case geq=>
  obtain⟨hk,hh⟩:=if_false' h
  subst hk
  exact⟨.bool (decide (b≤a)),_,by simp only[scBin,if_true,intBin],rfl,hh⟩
theorem binK_sound {op:BinOp} {x y:SV} {K:SV→Prop} (h:binK op x y K):∃a b v v',x.g= .sc a∧y.g= .sc b∧scBin op a b=some v∧v'.g= .sc v∧K v':=by
 unfold binK at h
 split at h
 ·split at h
  ·rename_i hs;exact⟨_,_,_,_,rfl,rfl,hs,rfl,h⟩
  ·rename_i hs;exact⟨_,_,_,_,rfl,rfl,hs,rfl,h⟩
  ·exact h.elim
 ·obtain⟨v,v',h1,h2,h3⟩:=go_sound h
  exact⟨_,_,v,v',rfl,rfl,h1,h2,h3⟩
 ·obtain⟨v,v',h1,h2,h3⟩:=go_sound h
  exact⟨_,_,v,v',rfl,rfl,h1,h2,h3⟩
 ·obtain⟨v,v',h1,h2,h3⟩:=go_sound h
  exact⟨_,_,v,v',rfl,rfl,h1,h2,h3⟩
 ·split at h
  ·exact⟨_,_,_,_,rfl,rfl,by simp only[scBin],rfl,h⟩
  ·exact⟨_,_,_,_,rfl,rfl,by simp only[scBin],rfl,h⟩
  ·exact h.elim
 ·exact h.elim
theorem seq1_int {k:IntKind} {a b:Int}:seq1 (.int k a) (.int k b)=some (decide (a=b)):=by
 simp only[seq1,if_true,Option.some.injEq];rfl
theorem seq1S_sound {x y:SV} {r:Bool} (h:seq1S x y=some r):∃a b,x.g= .sc a∧y.g= .sc b∧seq1 a b=some r:=by
 cases x<;>simp only[seq1S,reduceCtorEq] at h
 all_goals
  obtain⟨b,hb,rfl⟩:=Option.map_eq_some_iff.1 h
  first
   |exact⟨_,_,rfl,int_g hb,seq1_int⟩
   |exact⟨_,_,rfl,boo_g hb,by simp[seq1]⟩
theorem seqLS_sound:∀{x y:List SV} {r:Bool},seqLS x y=some r→∃a b,gL x=a.map .sc∧gL y=b.map .sc∧seqL a b=some r
 |[],[],r,h=>by simp[seqLS] at h;subst h;exact⟨[],[],rfl,rfl,rfl⟩
 |[],_::_,r,h=>by simp[seqLS] at h
 |_::_,[],r,h=>by simp[seqLS] at h
 |x::xs,y::ys,r,h=>by
  simp only[seqLS] at h
  split at h
  ·rename_i a b h1 h2
   simp only[Option.some.injEq] at h;subst h
   obtain⟨u,v,e1,e2,e3⟩:=seq1S_sound h1
   obtain⟨us,vs,f1,f2,f3⟩:=seqLS_sound h2
   exact⟨u::us,v::vs,by simp[gL,e1,f1],by simp[gL,e2,f2],by simp[seqL,e3,f3]⟩
  ·cases h
theorem scs_map:∀(l:List Value),scs (l.map .sc)=some l
 |[]=>rfl
 |v::l=>by simp[scs,scs_map l]
theorem map_sc_inj:∀{a b:List Value},a.map AV.sc=b.map AV.sc→a=b
 |[],[],_=>rfl
 |[],_::_,h=>by simp at h
 |_::_,[],h=>by simp at h
 |x::a,y::b,h=>by
  simp only[List.map_cons,List.cons.injEq,AV.sc.injEq] at h
  rw[h.1,map_sc_inj h.2]
theorem kOkS_sound:∀{ks:List Nat} {x:List SV} {a:List Value},kOkS ks x=true→gL x=a.map .sc→kOk ks a=true
 |[],[],a,_,h=>by
  cases a with
  |nil=>rfl
  |cons a az=>simp[gL] at h
 |[],_::_,a,h,_=>by simp[kOkS] at h
 |_::_,[],a,h,_=>by simp[kOkS] at h
 |k::ks,x::xs,a,h,hg=>by
  cases a with
  |nil=>simp[gL] at hg
  |cons a az=>
   simp only[gL,List.map_cons,List.cons.injEq] at hg
   obtain⟨h1,h2⟩:=hg
   match k,x,h with
   |0,.si k n,h=>simp only[kOkS] at h;simp only[SV.g,AV.sc.injEq] at h1;subst h1;simpa[kOk] using kOkS_sound h h2
   |0,.il k n,h=>simp only[kOkS] at h;simp only[SV.g,AV.sc.injEq] at h1;subst h1;simpa[kOk] using kOkS_sound h h2
   |1,.sb b,h=>simp only[kOkS] at h;simp only[SV.g,AV.sc.injEq] at h1;subst h1;simpa[kOk] using kOkS_sound h h2
   |1,.bl b,h=>simp only[kOkS] at h;simp only[SV.g,AV.sc.injEq] at h1;subst h1;simpa[kOk] using kOkS_sound h h2
theorem feq_sound {ks:List Nat} {a b:List SV} {r:Bool} (hk:(kOkS ks a&&kOkS ks b)=true) (h:seqLS a b=some r):feq ks (gL a) (gL b)=some r:=by
 obtain⟨u,v,h1,h2,h3⟩:=seqLS_sound h
 simp only[Bool.and_eq_true] at hk
 rw[h1,h2]
 simp only[feq,scs_map,kOkS_sound hk.1 h1,kOkS_sound hk.2 h2,Bool.and_self,if_true,h3]
theorem castL_some {s s':SId} {l:List s.T} {l':List s'.T} (h:castL s s' l=some l'):s=s'∧HEq l l':=by
 unfold castL at h
 split at h
 ·rename_i hs
  subst hs
  simp only[Option.some.injEq] at h
  exact⟨rfl,heq_of_eq h⟩
 ·cases h
theorem castL_flat {s s':SId} {l:List s.T} {l':List s'.T} (h:castL s s' l=some l'):s'=s∧flatA s' l'=flatA s l∧l'.length=l.length:=by
 obtain⟨rfl,h⟩:=castL_some h
 cases h
 exact⟨rfl,rfl,rfl⟩
theorem fillS_g:∀{parts:List (Nat×Nat×SV)} {cs cs':List SV},fillS parts cs=some cs'→fillA (parts.map fun q=>(q.1,q.2.1,q.2.2.g)) (gL cs)=some (gL cs')
 |[],cs,cs',h=>by simp[fillS] at h;subst h;rfl
 |(off,n,v)::r,cs,cs',h=>by
  simp only[fillS] at h
  split at h
  ·rename_i hh
   obtain⟨h1,h2,h3⟩:=hh
   have:=fillS_g h
   simp only[List.map_cons,fillA,cellsOf_g,gL_len,oneS_g]
   rw[if_pos ⟨h1,h2,h3⟩,←writeS_g]
   exact this
  ·cases h
theorem decL_g {s:SId}:∀{n:Nat} {cs:List SV} {l:List s.T},decL s n cs=some l→gL cs=flatA s l∧l.length=n
 |0,[],l,h=>by simp[decL] at h;subst h;simp[gL,flatA]
 |0,_::_,l,h=>by simp[decL] at h
 |n+1,cs,l,h=>by
  simp only[decL] at h
  split at h
  ·rename_i x l' h1 h2
   simp only[Option.some.injEq] at h;subst h
   obtain⟨h3,h4⟩:=decL_g h2
   have h5:=decS_g h1
   refine⟨?_,by simp[h4]⟩
   rw[gL_map] at h3 ⊢
   conv=>lhs;rw[←List.take_append_drop s.sz cs]
   rw[List.map_append,h5,h3]
   simp[flatA]
  ·cases h
theorem elemsK_sound {o:SStore} {s:SId} {x:SV} {K:List s.T→Prop} (h:elemsK o s x K):∃l,elemsA (gO o) s.sz x.g=some (l.length,flatA s l)∧K l:=by
 cases x with
 |row s' l=>
  simp only[elemsK] at h
  obtain⟨l',h1,h2⟩:=optK_some h
  obtain⟨rfl,h4,h5⟩:=castL_flat h1
  exact⟨l',by simp only[SV.g,elemsA,flatA_len,if_true,h4,h5],h2⟩
 |ow id n sz=>
  simp only[elemsK] at h
  split at h
  ·rename_i s' l e pu ho
   split at h
   ·rename_i hsz
    subst hsz
    obtain⟨rfl,h3⟩:=h
    obtain⟨l',h1,h6⟩:=optK_some h3
    obtain⟨rfl,h4,h5⟩:=castL_flat h1
    refine⟨l',?_,h6⟩
    have htk:List.take (l.length*s.sz) (flatA s l)=flatA s l:=List.take_of_length_le (by rw[flatA_len];omega)
    simp only[SV.g,elemsA,getI ho,SObj.g,flatA_len,Nat.zero_add,Nat.le_refl,and_self,if_true,List.drop_zero,htk,h4,h5]
   ·exact h.elim
  ·exact h.elim
 |os id off len n sz=>
  simp only[elemsK] at h
  split at h
  ·rename_i s' l e pu ho
   split at h
   ·rename_i hsz
    subst hsz
    obtain⟨rfl,hle,h3⟩:=h
    obtain⟨l',h1,h6⟩:=optK_some h3
    obtain⟨rfl,h4,h5⟩:=castL_flat h1
    refine⟨l',?_,h6⟩
    have hm:(off+len)*s.sz≤l.length*s.sz:=Nat.mul_le_mul_right _ hle
    rw[Nat.add_mul] at hm
    have hll:((l.drop off).take len).length=len:=by simp;omega
    simp only[SV.g,elemsA,getI ho,SObj.g,flatA_len,hm,and_self,if_true,flatA_sub,h4,h5,hll]
   ·exact h.elim
  ·exact h.elim
 |sc v=>
  cases v<;>simp only[elemsK] at h
  rename_i q a b
  cases q<;>try exact h.elim
  cases a<;>try exact h.elim
  cases b<;>try exact h.elim
  exact⟨[],by simp[SV.g,elemsA,flatA],h⟩
 |_=>simp only[elemsK] at h
theorem intS_g {v:SV} {n:Int} (h:intS v=some n):intA v.g=some n:=by
 cases v<;>simp[intS] at h<;>simp[SV.g,intA,h]
theorem boundK_sound {d:Nat} {x:Option SV} {K:Nat→Prop} (h:boundK d x K):∃n,boundA d (x.map SV.g)=some n∧K n:=by
 unfold boundK at h
 split at h
 ·exact⟨_,rfl,h⟩
 ·split at h
  ·rename_i hn;exact⟨_,by simp[SV.g,boundA,hn],h⟩
  ·exact h.elim
 ·exact⟨_,by simp[SV.g,boundA,h.1],h.2⟩
 ·exact h.elim
theorem mkK_sound {nid:Nat} {x:SObj} {o:SStore} {K:SStore→Prop} (h:mkK nid x o K):∃o',mkO nid x.g (gO o)=some (gO o')∧K o':=by
 unfold mkK at h
 split at h
 ·rename_i ho
  exact⟨_,by simp[mkO,getI ho,SObj.g,gO_set],h⟩
 ·exact h.elim
theorem encV_eq {s:SId} (hk:s.keyed=true) (x y:s.T):seqL (encV s x) (encV s y)=some (decide (x=y)):=by
 cases s<;>simp only[SId.keyed,reduceCtorEq] at hk
 ·simp only[encV,seqL,seq1_int,Bool.and_true]
 ·obtain⟨b,⟨a0,a1,a2,a3,a4,a5⟩⟩:=x
  obtain⟨b',⟨c0,c1,c2,c3,c4,c5⟩⟩:=y
  simp only[encV,iv,seqL,seq1_int,Option.some.injEq,Bool.and_true]
  rw[Bool.eq_iff_iff]
  simp[BKey.mk.injEq,Bun.mk.injEq]
 ·obtain⟨b,⟨a0,a1,a2,a3,a4,a5⟩,⟨d0,d1,d2,d3,d4,d5⟩⟩:=x
  obtain⟨b',⟨c0,c1,c2,c3,c4,c5⟩,⟨e0,e1,e2,e3,e4,e5⟩⟩:=y
  simp only[encV,iv,seqL,seq1_int,Option.some.injEq,Bool.and_true]
  rw[Bool.eq_iff_iff]
  simp only[Bool.and_eq_true,decide_eq_true_eq,Sit.mk.injEq,Bun.mk.injEq]
  constructor<;>intro h<;>simp_all
theorem keq_keyV {s:SId} {ka:Bool} (hk:s.keyed=true) (h1:ka=false→s.sz=1) (x y:s.T):keq (keyV s ka x) (keyV s ka y)=some (decide (x=y)):=by
 cases ka with
 |true=>simp[keyV,keq,encV_eq hk]
 |false=>
  have h2:=h1 rfl
  cases s<;>simp only[SId.keyed,reduceCtorEq] at hk<;>simp only[SId.sz,reduceCtorEq,Nat.reduceEqDiff] at h2
  simp only[keyV,encV,List.headD_cons]
  simp only[keq,Bool.false_eq_true,if_false,seq1_int]
theorem findM_sound {sk sv:SId} {ka:Bool} (hk:sk.keyed=true) (h1:ka=false→sk.sz=1) (x:sk.T):∀(es:List (sk.T×sv.T)) (i:Nat),
  ∃r,findM (keyV sk ka x) (es.map fun p=>(keyV sk ka p.1,valA sv p.2)) i=some r∧(match findT sk sv x es with|some v=>∃j,r=some (i+j,valA sv v)∧(∃p,es[j]?=some p∧p.1=x)∧(∀j'<j,∀p,es[j']?=some p→p.1≠x)|none=>r=none∧∀p∈es,p.1≠x)
 |[],i=>⟨none,by simp[findM],by simp[findT]⟩
 |p::es,i=>by
  simp only[List.map_cons,findM,keq_keyV hk h1]
  by_cases hp:p.1=x
  ·refine⟨some (i,valA sv p.2),by simp[hp],?_⟩
   simp only[findT,List.find?_cons,hp,decide_true,Option.map_some]
   exact⟨0,by simp,⟨p,by simp,hp⟩,by simp⟩
  ·obtain⟨r,hr,hm⟩:=findM_sound hk h1 x es (i+1)
   have hp':¬x=p.1:=fun h=>hp h.symm
   refine⟨r,by simp[hp',hr],?_⟩
   have hf:findT sk sv x (p::es)=findT sk sv x es:=by simp[findT,List.find?_cons,hp]
   rw[hf]
   split at hm
   ·obtain⟨j,h2,⟨q,h3,h4⟩,h5⟩:=hm
    refine⟨j+1,by rw[h2];congr 2;omega,⟨q,by simpa using h3,h4⟩,fun j' hj q' hq=>?_⟩
    cases j' with
    |zero=>simp at hq;subst hq;exact hp
    |succ j'=>exact h5 j' (by omega) q' (by simpa using hq)
   ·refine⟨hm.1,fun q hq=>?_⟩
    rcases List.mem_cons.1 hq with rfl|hq
    ·exact hp
    ·exact hm.2 q hq
theorem setT_none {sk sv:SId} {x:sk.T} {v:sv.T}:∀{es:List (sk.T×sv.T)},(∀p∈es,p.1≠x)→setT sk sv x v es=es++[(x,v)]
 |[],_=>rfl
 |p::es,h=>by
  simp only[setT,if_neg (h p (by simp)),List.cons_append]
  rw[setT_none fun q hq=>h q (by simp[hq])]
theorem setT_some {sk sv:SId} {x:sk.T} {v:sv.T}:∀{es:List (sk.T×sv.T)} {j:Nat},(∃p,es[j]?=some p∧p.1=x)→(∀j'<j,∀p,es[j']?=some p→p.1≠x)→setT sk sv x v es=es.modify j fun _=>(x,v)
 |[],j,⟨p,h,_⟩,_=>by simp at h
 |p::es,0,⟨q,h,hq⟩,_=>by
  simp at h;subst h
  simp[setT,hq,List.modify]
 |p::es,j+1,⟨q,h,hq⟩,h2=>by
  have hp:=h2 0 (by omega) p (by simp)
  simp only[setT,if_neg hp,List.modify_succ_cons]
  rw[setT_some (j:=j) ⟨q,by simpa using h,hq⟩ fun j' hj q' hq'=>h2 (j'+1) (by omega) q' (by simpa using hq')]
theorem keyA_sound {ks:List Nat} {ka:Bool} {s:SId} {v:SV} {x:s.T} (hko:kOkS ks v.cellsOf=true) (hag:aggIs ka v=true) (hf:s.flat=true) (hd:decS s v.cellsOf=some x):keyA ks ka v.g=some (keyV s ka x):=by
 have hd2:=decS_g hd
 have hg:gL v.cellsOf=(encV s x).map .sc:=by rw[gL_map,hd2];exact flat_encA s hf x
 have hk:=kOkS_sound hko hg
 by_cases hv:∃cs,v= .agg cs
 ·obtain⟨cs,rfl⟩:=hv
  simp only[SV.cellsOf] at hg hk
  simp only[aggIs] at hag
  subst hag
  simp only[SV.g,keyA,hg,scs_map,hk,Bool.and_self,if_true,keyV]
 ·have hag2:ka=false:=by
   cases v<;>simp[aggIs] at hag<;>first|exact hag|exact absurd ⟨_,rfl⟩ hv
  subst hag2
  have hc:v.cellsOf=[v]:=by
   cases v<;>first|rfl|exact absurd ⟨_,rfl⟩ hv
  rw[hc] at hg
  simp only[gL] at hg
  cases hx:encV s x with
  |nil=>rw[hx] at hg;simp at hg
  |cons a r=>
   rw[hx] at hg hk
   simp only[List.map_cons,List.cons.injEq] at hg
   cases r with
   |cons=>simp at hg
   |nil=>rw[hg.1];simp[keyA,hk,keyV,hx]
theorem valA_head {s:SId} (h:s.scal=true) (x:s.T):((encS s x).headD .ud).g=valA s x:=by
 cases s<;>simp[SId.scal] at h<;>simp[encS,valA,encV,SV.g]
theorem valA_enc {s:SId} (h:s.scal=true) (x:s.T):encA s x=[valA s x]:=by
 cases s<;>simp[SId.scal] at h<;>simp[encA,valA,encV]
theorem keyed_flat {s:SId} (h:s.keyed=true):s.flat=true:=by
 cases s<;>simp[SId.keyed] at h<;>rfl
structure SCallsOK (call:Oracle) (C:SCalls):Prop where
 pure:∀f args K,C.pure f args K→∃r:SV,call f (gL args) [] false=some (r.g,[])∧K r
 own:∀f args o K,C.own f args o K→∃(r:SV) (o':SStore),callOwn call f (gL args) (gO o)=some (r.g,gO o')∧K r o'
section
variable {call:Oracle} {p:SPar} {o:SStore} {nid:Nat} {K:SV→SStore→Prop}
theorem callK_sound (hC:SCallsOK call p.C) {f:FuncId} {args:List SV} {own:Bool} (h:opK.callK p f args o own K):
  ∃(v:SV) (o':SStore),callA call f (gL args) (gO o) own=some (v.g,gO o')∧K v o':=by
 unfold opK.callK at h
 split at h
 ·rename_i ho
  obtain⟨r,o',h1,h2⟩:=hC.own _ _ _ _ h
  exact⟨r,o',by simp only[callA,ho,if_true,h1],h2⟩
 ·rename_i ho
  have ho:own=false:=by simpa using ho
  subst ho
  obtain⟨args',h1,h2⟩:=seqK_sound (o:=gO o) (d:=6) (fun v K hv=>frzK_sound hv) h
  obtain⟨r,h3,h4⟩:=hC.pure _ _ _ h2
  split at h4
  ·rename_i ht
   refine⟨r,o,?_,h4⟩
   simp only[callA,Bool.false_eq_true,if_false,h1,h3]
   rw[if_pos]
   simp only[Bool.or_eq_true] at ht ⊢
   rcases ht with ht|ht
   ·left
    rw[gL_map,List.flatMap_map]
    exact ht
   ·exact .inr (noSl_g r ht)
  ·exact h4.elim
theorem gL_rho (ρ:Operand→SV) (l:List Operand):gL (l.map ρ)=l.map fun x=>(ρ x).g:=by simp[gL_map]
theorem fill_rho {parts:List (Nat×Nat×Operand)} {ρ:Operand→SV} {cs cs':List SV} (h:fillS (parts.map fun q=>(q.1,q.2.1,ρ q.2.2)) cs=some cs'):
  fillA (parts.map fun q=>(q.1,q.2.1,(ρ q.2.2).g)) (gL cs)=some (gL cs'):=by
 have:=fillS_g h
 simpa[List.map_map,Function.comp_def] using this
theorem fill_rho2 {parts:List (Nat×Operand)} {sz:Nat} {ρ:Operand→SV} {cs cs':List SV} (h:fillS (parts.map fun q=>(q.1,sz,ρ q.2)) cs=some cs'):
  fillA (parts.map fun q=>(q.1,sz,(ρ q.2).g)) (gL cs)=some (gL cs'):=by
 have:=fillS_g h
 simpa[List.map_map,Function.comp_def] using this
theorem gL_ofCell (z:List Value):gL (z.map SV.ofCell)=z.map .sc:=by rw[gL_map,map_ofCell]
theorem gL_rep (len:Nat) (z:List Value):gL ((List.replicate len (z.map SV.ofCell)).flatten)=(List.replicate len (z.map AV.sc)).flatten:=by
 rw[gL_map,List.map_flatten,List.map_replicate,map_ofCell]
theorem rep_flat (s:SId) (x:s.T) (n:Nat):(List.replicate n (encA s x)).flatten=flatA s (List.replicate n x):=by
 induction n with
 |zero=>simp[flatA]
 |succ n ih=>simp only[List.replicate_succ,List.flatten_cons,ih,flatA,List.flatMap_cons]
theorem boo_both {x:SV} {b:Bool} (h:x.boo=some b):x.g= .sc (.bool b):=boo_g h
theorem map_opt_rho {ρ:Operand→SV} (l:Option Operand):(l.map ρ).map SV.g=l.map fun x=>(ρ x).g:=by cases l<;>rfl
theorem set_seg:∀{l:List Int} {i:Nat} {v:Int},i<l.length→writeL (l.map fun n=>AV.sc (iv n)) 0 ((l.set i v).map fun n=>AV.sc (iv n))=(l.map fun n=>AV.sc (iv n)).set i (.sc (iv v)):=by
 intro l i v hi
 have key:∀(vs a c:List AV),vs.length=c.length→writeL (a++c) a.length vs=a++vs:=by
  intro vs
  induction vs with
  |nil=>intro a c h;cases c with
   |nil=>simp[writeL]
   |cons=>simp at h
  |cons w vs ih=>
   intro a c h
   cases c with
   |nil=>simp at h
   |cons y c=>
    simp only[List.length_cons,Nat.add_right_cancel_iff] at h
    simp only[writeL]
    have:(a++y::c).set a.length w=(a++[w])++c:=by
     rw[List.set_append_right _ _ (Nat.le_refl _)];simp
    rw[this]
    have:=ih (a++[w]) c h
    simp only[List.length_append,List.length_singleton] at this
    rw[this]
    simp
 have:=key ((l.set i v).map fun n=>AV.sc (iv n)) [] (l.map fun n=>AV.sc (iv n)) (by simp)
 simp only[List.nil_append,List.length_nil] at this
 rw[this,List.map_set]
theorem writeL_app (vs a b:List AV) (off:Nat) (h:off+vs.length≤b.length):writeL (a++b) (a.length+off) vs=a++writeL b off vs:=by
 have:=writeL_mid vs a b [] off h
 simpa using this
theorem map_modify_const {α β:Type} (f:α→β) (x:α):∀(l:List α) (j:Nat),(l.modify j fun _=>x).map f=(l.map f).modify j fun _=>f x
 |[],j=>by simp
 |a::l,0=>by simp[List.modify]
 |a::l,j+1=>by simp only[List.modify_succ_cons,List.map_cons,map_modify_const f x l j]
theorem sc_cells (v:Value):(AV.sc v).cellsOf=[.sc v]:=rfl
theorem setI_eq:∀{l:List Int} {i j:Nat} {v:Int},setI l (i+j) v j=l.set i v
 |[],_,_,_=>rfl
 |a::l,0,j,v=>by
  have h:∀(l:List Int) (j':Nat),j<j'→setI l j v j'=l:=by
   intro l
   induction l with
   |nil=>intro _ _;rfl
   |cons b l ih=>intro j' hj;simp only[setI,if_neg (show ¬j=j' by omega),ih (j'+1) (by omega)]
  simp only[setI,Nat.zero_add,if_true,List.set_cons_zero,h l (j+1) (by omega)]
 |a::l,i+1,j,v=>by
  simp only[setI,if_neg (show ¬i+1+j=j by omega),List.set_cons_succ]
  rw[show i+1+j=i+(j+1) from by omega,setI_eq]
theorem opK_store {ρ:Operand→SV} {n:Nat} {a x:Operand} (h:opK p (.store n a x) ρ o nid K):
  ∃(v:SV) (o':SStore),effS call (.store n a x) (fun x=>(ρ x).g) (gO o) nid=some (v.g,gO o')∧K v o':=by
 simp only[opK] at h
 split at h
 ·rename_i id off tot ha
  split at h
  ·rename_i cs e sz pu ho
   split at h
   ·rename_i hh
    obtain⟨h1,h2,h3,h4,h5⟩:=hh
    refine⟨.ud,_,?_,h⟩
    simp only[effS,ha,SV.g,getI ho,SObj.g,cellsOf_g,gL_len,oneS_g]
    rw[if_pos ⟨h1,h2,h3,h4,h5.imp (fun q=>q) fun hp=>pureS_g _ hp⟩,gO_set,SObj.g,writeS_g,gL_qnL]
   ·exact h.elim
  ·exact h.elim
 ·rename_i id i off m sz ha
  split at h
  ·rename_i s l e pu ho
   split at h
   ·rename_i hh
    obtain⟨rfl,h2,h3⟩:=hh
    obtain⟨rfl,hi,h4⟩:=h
    obtain⟨v,hv,h5⟩:=optK_some h4
    refine⟨.ud,_,?_,h5⟩
    have hd:=decS_g hv
    rw[←gL_map,writeS_g,gL_qnL] at hd
    have hen:gL (encS s (nthD l i s.dflt))=encA s (nthD l i s.dflt):=by rw[gL_map,encS_g]
    rw[hen] at hd
    have hmul:(i+1)*s.sz≤l.length*s.sz:=Nat.mul_le_mul_right _ hi
    rw[Nat.succ_mul] at hmul
    have hone:∀c∈qnL pu (gL (ρ x).cellsOf),Plain c:=by
     intro c hc
     obtain⟨j,hj⟩:=List.mem_iff_getElem?.1 hc
     have hjl:=(List.getElem?_eq_some_iff.1 hj).1
     rw[qnL_len,gL_len,h2] at hjl
     have key:(writeL (encA s (nthD l i s.dflt)) off (qnL pu (gL (ρ x).cellsOf)))[off+j]?=some c:=by
      have gen:∀(vs cs:List AV) (off j:Nat) (c:AV),vs[j]?=some c→off+vs.length≤cs.length→(writeL cs off vs)[off+j]?=some c:=by
       intro vs
       induction vs with
       |nil=>intro cs off j c h;simp at h
       |cons w vs ih=>
        intro cs off j c h hl
        simp only[List.length_cons] at hl
        simp only[writeL]
        cases j with
        |zero=>
         simp only[List.getElem?_cons_zero,Option.some.injEq] at h
         subst h
         have before:∀(vs cs:List AV) (o2 k:Nat),k<o2→(writeL cs o2 vs)[k]?=cs[k]?:=by
          intro vs
          induction vs with
          |nil=>intro cs o2 k _;rfl
          |cons w vs ih=>intro cs o2 k hk;simp only[writeL];rw[ih _ _ _ (by omega),List.getElem?_set_ne (by omega)]
         simp only[Nat.add_zero]
         rw[before _ _ _ _ (by omega),List.getElem?_set_self (by omega)]
        |succ j=>
         have:=ih (cs.set off w) (off+1) j c (by simpa using h) (by simp;omega)
         rwa [show off+(j+1)=off+1+j from by omega]
      exact gen _ _ _ _ _ hj (by rw[qnL_len,gL_len,h2,encA_len];exact h3)
     rw[hd] at key
     exact encA_plain _ _ _ (List.mem_of_getElem? key)
    obtain⟨ho1,ho2⟩:=qnL_plain hone
    simp only[effS,ha,SV.g,getI ho,SObj.g,cellsOf_g,flatA_len,gL_len]
    rw[if_pos ⟨trivial,h2,ho1,by omega,.inr ho2⟩,gO_set,SObj.g,flatA_set hi (by rw[qnL_len,gL_len,h2];exact h3) hd]
   ·exact h.elim
  ·exact h.elim
 ·rename_i id base sz len tot i ha
  split at h
  ·rename_i cs e sz' pu ho
   split at h
   ·rename_i v hx
    split at h
    ·rename_i l hl
     split at h
     ·rename_i hh
      obtain⟨h1,h2⟩:=hh
      rw[show setI l i v 0=l.set i v from setI_eq (j:=0)] at h
      obtain⟨hi,hk⟩:=h
      refine⟨.ud,_,?_,hk⟩
      have hcell:(ρ x).cellsOf=[ρ x]:=by
       cases hr:ρ x<;>rw[hr] at hx<;>simp[SV.int] at hx<;>rfl
      have hxg:(ρ x).g= .sc (iv v):=int_g hx
      have hig:=ints_g hl
      have hll:l.length=len:=by
       have:=congrArg List.length hig
       simp only[List.length_map,List.length_take,List.length_drop] at this
       omega
      have hdt:gL cs=gL (cs.take base)++(l.map fun n=>AV.sc (iv n))++gL (cs.drop (base+len)):=by
       rw[←hig,gL_map,gL_map,gL_map,←List.map_append,←List.map_append]
       congr 1
       rw[←List.drop_drop,List.append_assoc,List.take_append_drop,List.take_append_drop]
      have hbl:(gL (cs.take base)).length=base:=by rw[gL_len];simp;omega
      have hq:qnL pu [AV.sc (iv v)]=[AV.sc (iv v)]:=by unfold qnL;split<;>rfl
      simp only[effS,ha,SV.g,getI ho,SObj.g,hxg,sc_cells,List.length_singleton,gL_len,hq]
      rw[if_pos ⟨h1,trivial,by simp[oneL,AV.one,iv,Value.oneCell'],by omega,.inr (by simp[pureL,AV.pure])⟩,gO_set,SObj.g,writeS_g]
      congr 4
      have e1:gL ((l.set i v).map (SV.si .i64))=(l.set i v).map fun n=>AV.sc (iv n):=by
       rw[gL_map,List.map_map];rfl
      rw[e1,hdt]
      have hm:=writeL_mid ((l.set i v).map fun n=>AV.sc (iv n)) (gL (cs.take base)) (l.map fun n=>AV.sc (iv n)) (gL (cs.drop (base+len))) 0 (by simp)
      rw[hbl,Nat.add_zero] at hm
      rw[hm,set_seg (by omega)]
      simp only[writeL,Nat.mul_one]
      rw[List.append_assoc,List.set_append_right _ _ (by omega),hbl,Nat.add_sub_cancel_left,List.set_append_left _ _ (by simp;omega),List.append_assoc]
     ·exact h.elim
    ·exact h.elim
   ·exact h.elim
  ·exact h.elim
 ·exact h.elim
theorem opK_append {ρ:Operand→SV} {e:TypeId} {sz bytes:Nat} {s x:Operand} {pu:Bool} (h:opK p (.append e sz bytes s x pu) ρ o nid K):
  ∃(v:SV) (o':SStore),effS call (.append e sz bytes s x pu) (fun x=>(ρ x).g) (gO o) nid=some (v.g,gO o')∧K v o':=by
 simp only[opK] at h
 split at h
 ·rename_i t tl ht hpe
  split at h
  ·rename_i id n sz' j m sz2 hs hx
   split at h
   ·rename_i t' l e' pu' ho
    split at h
    ·rename_i hh
     obtain⟨rfl,h3,rfl,rfl,rfl,rfl,h4,h5⟩:=hh
     obtain⟨rfl,h6,h7,h8⟩:=h
     rw[hx] at hpe
     unfold pendK at hpe
     split at hpe
     ·rename_i j' sz3 hj
      injection hj with e1 e2 e3
      subst e1 e2 e3
      split at hpe
      ·rename_i s2 e2 t2 ho2
       split at hpe
       ·rename_i hs2
        injection hpe with hpe
        subst hpe
        refine⟨_,_,?_,h8⟩
        have hel:elemsA (gO o) t.sz (.os j 0 1 (1*t.sz))=some (1,gL t2):=by
         simp only[elemsA,getI ho2,SObj.g,flatA,List.flatMap_nil,List.nil_append,gL_len]
         rw[if_pos ⟨by omega,hs2,by omega⟩,List.drop_zero,List.take_of_length_le (by rw[gL_len];omega)]
        have hon:oneL (gL t2)=true:=by rw[oneS_g];exact h5
        simp only[effS,hs,hx,SV.g,appendA]
        simp only[hel,hon,Bool.true_eq_false,if_false,getI ho,SObj.g,flatA_len,h3]
        rw[if_pos ⟨trivial,trivial,trivial,trivial,h6,h7,.inl trivial⟩,gO_set,SObj.g]
        simp only[Nat.add_mul,h3]
       ·cases hpe
      ·cases hpe
     ·cases hpe
    ·exact h.elim
   ·exact h.elim
  ·exact h.elim
 ·rename_i t ht _
  split at h
  ·rename_i hsz
   subst hsz
   obtain⟨new,hn,h2⟩:=elemsK_sound h
   have hone:oneL (flatA t new)=true:=flatA_one _ _
   have hpur:pureL (flatA t new)=true:=flatA_pure _ _
   simp only[effS,appendA,hn,hone,Bool.true_eq_false,if_false]
   split at h2
   ·rename_i hs
    rw[hs]
    simp only[SV.g]
    by_cases h0:new.length=0
    ·exact⟨_,_,by simp only[h0,if_true];rfl,h2.1 h0⟩
    ·obtain⟨h3,h4,h5⟩:=h2.2 h0
     obtain⟨o',hm,hk⟩:=mkK_sound h5
     refine⟨_,o',?_,hk⟩
     simp only[SObj.g] at hm
     rw[if_neg h0,if_pos ⟨h3,h4,.inr hpur⟩,hm]
     rfl
   ·rename_i id n sz' hs
    split at h2
    ·rename_i t' l e' pu' ho
     split at h2
     ·rename_i hh
      obtain⟨rfl,h3,rfl⟩:=hh
      obtain⟨rfl,h4,h5,h6⟩:=h2
      obtain⟨l',h7,h8⟩:=optK_some h6
      obtain⟨rfl,h9,h10⟩:=castL_flat h7
      refine⟨_,_,?_,h8⟩
      rw[hs]
      simp only[SV.g,getI ho,SObj.g,flatA_len]
      rw[if_pos ⟨trivial,trivial,trivial,trivial,h4,h5,.inr hpur⟩,gO_set,SObj.g,flatA_app,h9]
      simp only[List.length_append,h10,Nat.add_mul]
     ·exact h2.elim
    ·exact h2.elim
   ·rename_i t' l hs
    obtain⟨h3,h4⟩:=h2
    refine⟨_,_,?_,h4⟩
    rw[hs]
    simp only[SV.g,h3,if_true]
   ·exact h2.elim
  ·exact h.elim
 ·exact h.elim
theorem mm_int {mx:Bool} {a b:Int}:(if mx then(if b>a then b else a) else(if b<a then b else a))=if mx then max a b else min a b:=by
 cases mx<;>simp<;>split<;>omega
theorem opK_sound (hC:SCallsOK call p.C) {op:IOp} {ρ:Operand→SV} (h:opK p op ρ o nid K):
  ∃(v:SV) (o':SStore),effS call op (fun x=>(ρ x).g) (gO o) nid=some (v.g,gO o')∧K v o':=by
 cases op with
 |mov x=>exact⟨_,_,rfl,h⟩
 |pick c a b=>
  simp only[opK] at h
  split at h
  ·rename_i hc;exact⟨_,_,by simp only[effS,hc,SV.g],h⟩
  ·rename_i hc;exact⟨_,_,by simp only[effS,hc,SV.g],h⟩
  ·rename_i c hc
   cases c with
   |true=>exact⟨_,_,by simp only[effS,hc,SV.g],h.1 rfl⟩
   |false=>exact⟨_,_,by simp only[effS,hc,SV.g],h.2 rfl⟩
  ·exact h.elim
 |alloc z e pu=>
  obtain⟨o',hm,hk⟩:=mkK_sound h
  simp only[SObj.g,gL_ofCell] at hm
  exact⟨_,o',by simp only[effS,hm,Option.map_some,SV.g],hk⟩
 |box e x=>
  simp only[opK] at h
  split at h
  ·rename_i h1
   obtain⟨o',hm,hk⟩:=mkK_sound h
   simp only[SObj.g] at hm
   exact⟨_,o',by simp only[effS,cellsOf_g,oneS_g,h1,if_true,gL_len,hm,Option.map_some,SV.g],hk⟩
  ·exact h.elim
 |build z parts=>
  simp only[opK] at h
  obtain⟨cs,h1,h2⟩:=optK_some h
  have:=fill_rho h1
  rw[gL_ofCell] at this
  exact⟨_,_,by simp only[effS,this,Option.map_some,SV.g],h2⟩
 |mkrow z len parts e sz=>
  simp only[opK] at h
  split at h
  ·rename_i s cs hs hf
   split at h
   ·rename_i hsz
    split at h
    ·rename_i hany
     split at h
     ·rename_i hlen
      obtain⟨o',hm,hk⟩:=mkK_sound h
      simp only[SObj.g,flatA,List.flatMap_nil,List.nil_append] at hm
      have hfa:=fill_rho2 hf
      rw[gL_rep] at hfa
      refine⟨_,o',?_,hk⟩
      subst hsz
      have hp:pureL (gL cs)=false:=by
       clear hf hfa hm hlen h
       induction cs with
       |nil=>simp at hany
       |cons c cs ih=>
        simp only[List.any_cons,Bool.or_eq_true] at hany
        simp only[gL,pureL]
        rcases hany with hc|hc
        ·have h9:c.g.pure=false:=by
          cases c with
          |ow a b d=>simp[SV.g,AV.pure]
          |_=>simp[SV.isOw] at hc
         rw[h9,Bool.false_and]
        ·have ih2:=ih hc
         rw[ih2,Bool.and_false]
      simp only[effS,hfa,hp,qnL,Bool.false_eq_true,if_false,hm,Option.map_some,SV.g]
     ·exact h.elim
    obtain⟨l,h1,h2⟩:=optK_some h
    obtain⟨h3,h4⟩:=decL_g h1
    obtain⟨o',hm,hk⟩:=mkK_sound h2
    simp only[SObj.g] at hm
    have hfa:=fill_rho2 hf
    rw[gL_rep] at hfa
    refine⟨_,o',?_,hk⟩
    subst hsz
    rw[gL_qn] at h3
    have hp:pureL (gL cs)=true:=(qnL_plain (pu:=true) (cs:=gL cs) fun c hc=>flatA_plain (s:=s) (l:=l) (by rw[←h3];exact hc)).2
    have hq:qnL true (gL cs)=flatA s l:=h3
    simp only[effS,hfa,hp,hq,hm,Option.map_some,SV.g]
   ·exact h.elim
  ·exact h.elim
 |mkimm z len parts e sz=>
  simp only[opK] at h
  split at h
  ·rename_i s cs hs hf
   split at h
   ·rename_i hsz
    obtain⟨l,h1,h2⟩:=optK_some h
    obtain⟨h3,h4⟩:=decL_g h1
    have hfa:=fill_rho2 hf
    rw[gL_rep] at hfa
    rw[gL_qn] at h3
    have hp:pureL (gL cs)=true:=(qnL_plain (pu:=true) (cs:=gL cs) fun c hc=>flatA_plain (s:=s) (l:=l) (by rw[←h3];exact hc)).2
    have hq:qnL true (gL cs)=flatA s l:=h3
    exact⟨_,_,by simp only[effS,hfa,hp,hq,if_true,SV.g,h4],h2⟩
   ·exact h.elim
  ·exact h.elim
 |load n a=>
  simp only[opK] at h
  obtain⟨cs,off,v,h1,h2,h3⟩:=loadK_sound h
  exact⟨v,o,by simp only[effS,h1,h2,Option.map_some],h3⟩
 |store n a x=>exact opK_store h
 |nilc x=>
  simp only[opK] at h
  split at h
  ·rename_i hx;exact⟨_,_,by simp only[effS,hx,SV.g],h⟩
  ·rename_i hx;exact⟨_,_,by simp only[effS,hx,SV.g],h⟩
  ·rename_i hx;exact⟨_,_,by simp only[effS,hx,SV.g],h⟩
  ·exact h.elim
 |bin op x y=>
  simp only[opK] at h
  obtain⟨a,b,v,v',h1,h2,h3,h4,h5⟩:=binK_sound h
  exact⟨v',o,by simp only[effS,h1,h2,h3,Option.map_some,h4],h5⟩
 |beq neg x y=>
  simp only[opK] at h
  split at h
  ·rename_i a b h1 h2
   exact⟨_,_,by simp only[effS,boo_g h1,boo_g h2,SV.g],h⟩
  ·exact h.elim
 |eqf neg ks x y=>
  simp only[opK] at h
  split at h
  ·rename_i a b h1 h2
   split at h
   ·rename_i hk
    obtain⟨r,hr,h3⟩:=optK_some h
    exact⟨_,_,by simp only[effS,h1,h2,SV.g,feq_sound hk hr,Option.map_some],h3⟩
   ·exact h.elim
  ·exact h.elim
 |un op x=>
  simp only[opK] at h
  split at h
  ·rename_i hx;exact⟨_,_,by simp only[effS,hx,SV.g,unA,Option.map_some],h⟩
  ·rename_i hx;exact⟨_,_,by simp only[effS,hx,SV.g,unA,Option.map_some],h⟩
  ·rename_i k n hx
   refine⟨_,_,?_,h.2⟩
   have:(0:Int) - n= -n:=by omega
   simp only[effS,hx,SV.g,unA,Option.map_some,this,wrapI_in h.1]
  ·rename_i hx;exact⟨_,_,by simp only[effS,hx,SV.g,unA,Option.map_some],h⟩
  ·exact h.elim
 |conv k x=>
  simp only[opK] at h
  split at h
  ·rename_i hx;exact⟨_,_,by simp only[effS,hx,SV.g],h⟩
  ·rename_i hx;exact⟨_,_,by simp only[effS,hx,SV.g,wrapI_in h.1],h.2⟩
  ·rename_i kk n _ hx;exact⟨.si k (wrapI k n),_,by simp only[effS,hx,SV.g],rngK_sound h⟩
  ·exact h.elim
 |fieldA off x=>
  simp only[opK] at h
  split at h
  ·rename_i hx;exact⟨_,_,by simp only[effS,hx,SV.g,addA,Option.map_some],h⟩
  ·rename_i hx;exact⟨_,_,by simp only[effS,hx,SV.g,addA,Option.map_some,Nat.add_assoc],h⟩
  ·rename_i hx;exact⟨_,_,by simp only[effS,hx,SV.g,addA,Option.map_some,Nat.add_assoc],h⟩
  ·exact h.elim
 |field off n x=>
  simp only[opK] at h
  split at h
  ·rename_i cs hx
   obtain⟨v,h1,h2⟩:=optK_some h
   exact⟨_,_,by simp only[effS,hx,SV.g,partS_g h1,Option.map_some],h2⟩
  ·exact h.elim
 |idxA len sz x i=>
  simp only[opK] at h
  split at h
  ·rename_i k n hi
   split at h
   ·rename_i hn
    split at h
    ·rename_i hx;exact⟨_,_,by simp only[effS,hi,hx,SV.g,intA,if_pos hn,addA,Option.map_some],h⟩
    ·rename_i hx;exact⟨_,_,by simp only[effS,hi,hx,SV.g,intA,if_pos hn,addA,Option.map_some,Nat.add_assoc],h⟩
    ·rename_i hx;exact⟨_,_,by simp only[effS,hi,hx,SV.g,intA,if_pos hn,addA,Option.map_some,Nat.add_assoc],h⟩
    ·exact h.elim
   ·exact h.elim
  ·rename_i k n hi
   split at h
   ·rename_i hx;exact⟨_,_,by simp only[effS,hi,hx,SV.g,intA,if_pos (And.intro h.1 h.2.1),addA,Option.map_some],h.2.2⟩
   ·exact h.elim
  ·exact h.elim
 |idxS sz x i=>
  simp only[opK] at h
  split at h
  ·rename_i n hi
   have hi:=intS_g hi
   split at h
   ·rename_i s l hx
    split at h
    ·rename_i hsz
     subst hsz
     obtain⟨h1,h2,h3⟩:=h
     refine⟨_,_,?_,h3⟩
     simp only[effS,hi,hx,SV.g,idxSA,flatA_len]
     rw[if_pos ⟨h1,h2,trivial⟩]
     simp
    ·exact h.elim
   ·rename_i id m sz' hx
    split at h
    ·rename_i s l e pu ho
     split at h
     ·rename_i hsz
      obtain⟨rfl,rfl⟩:=hsz
      obtain⟨rfl,h1,h2,h3⟩:=h
      refine⟨_,_,?_,h3⟩
      simp only[effS,hi,hx,SV.g,idxSA,getI ho,SObj.g,flatA_len]
      rw[offR_le (Nat.zero_le _),if_pos ⟨trivial,trivial,h1,h2,by omega⟩]
      simp
     ·exact h.elim
    ·exact h.elim
   ·rename_i id off len m sz' hx
    split at h
    ·rename_i s l e pu ho
     split at h
     ·rename_i hsz
      obtain⟨rfl,rfl⟩:=hsz
      obtain⟨rfl,h1,h2,h4,h3⟩:=h
      refine⟨_,_,?_,h3⟩
      have hm:(off+len)*s.sz≤l.length*s.sz:=Nat.mul_le_mul_right _ h4
      rw[Nat.add_mul] at hm
      simp only[effS,hi,hx,SV.g,idxSA,getI ho,SObj.g,flatA_len]
      rw[offR_le (by omega),if_pos ⟨trivial,trivial,h1,h2,hm⟩]
      simp[Nat.add_mul]
     ·exact h.elim
    ·exact h.elim
   ·rename_i id off len m sz' hx
    split at h
    ·rename_i s l e pu ho
     split at h
     ·rename_i hsz
      obtain⟨rfl,rfl⟩:=hsz
      obtain⟨rfl,h1,h2,h4,h3⟩:=h
      refine⟨_,_,?_,h3⟩
      have hm:(off+len)*s.sz≤l.length*s.sz:=Nat.mul_le_mul_right _ h4
      have hp:=sz_pos s
      rw[Nat.add_mul] at hm
      simp only[effS,hi,hx,SV.g,idxSA,getI ho,SObj.g,flatA_len]
      rw[offR_gt (by omega),show off*s.sz+(l.length*s.sz+s.sz) - l.length*s.sz - s.sz=off*s.sz by omega,if_pos ⟨trivial,trivial,h1,h2,hm⟩]
      simp[Nat.add_mul]
     ·exact h.elim
    ·exact h.elim
   ·exact h.elim
  ·exact h.elim
 |idx len sz n x i=>
  simp only[opK] at h
  split at h
  ·rename_i k' k cs hi hx
   split at h
   ·rename_i hk
    obtain⟨v,h1,h2⟩:=optK_some h
    exact⟨_,_,by simp only[effS,hi,hx,SV.g,intA,if_pos hk,partS_g h1,Option.map_some],h2⟩
   ·exact h.elim
  ·rename_i k' k cs hi hx
   split at h
   ·rename_i l _ _ hl
    split at h
    ·rename_i hll
     obtain⟨h1,h2,h3⟩:=h
     refine⟨_,_,?_,h3⟩
     obtain⟨h4,h5⟩:=ints_all hl
     have h6:=h5 k.toNat (by omega)
     simp only[effS,hi,hx,SV.g,intA,if_pos (And.intro h1 h2),Nat.mul_one,partA,gL_get,h6,Option.map_some]
    ·exact h.elim
   ·exact h.elim
  ·exact h.elim
 |idxStr x i=>simp only[opK] at h
 |mkslice z e sz bytes l c pu=>
  simp only[opK] at h
  split at h
  ·rename_i n m s hn hm hs
   have hn:=intS_g hn
   have hm:=intS_g hm
   split at h
   ·rename_i hsz
    subst hsz
    obtain⟨x,hx,h1,h2,h3,h4,h5⟩:=optK_some h
    obtain⟨o',hmk,hk⟩:=mkK_sound h5
    refine⟨_,o',?_,hk⟩
    have hd:=decS_g hx
    rw[←gL_map,gL_qnL,gL_ofCell] at hd
    simp only[SObj.g] at hmk
    simp only[effS,hn,hm]
    rw[if_pos ⟨h1,h2,h3,h4⟩,hd,rep_flat,hmk]
    simp[SV.g]
   ·exact h.elim
  ·exact h.elim
 |slice sz x lo hi=>
  simp only[opK] at h
  split at h
  ·rename_i s l hx
   split at h
   ·rename_i hsz
    subst hsz
    obtain⟨a,ha,h1⟩:=boundK_sound h
    obtain⟨b,hb,h2,h3,h4⟩:=boundK_sound h1
    refine⟨_,_,?_,h4⟩
    rw[map_opt_rho] at ha hb
    have hlen:((l.drop a).take (b - a)).length=b - a:=by simp;omega
    simp only[effS,hx,SV.g,sliceA,ha,hb,flatA_len,and_true,if_pos (And.intro h2 h3),Option.map_some,flatA_sub,hlen]
   ·exact h.elim
  ·rename_i id m sz' hx
   split at h
   ·rename_i s l e pu ho
    split at h
    ·rename_i hsz
     obtain⟨rfl,rfl⟩:=hsz
     obtain⟨rfl,h⟩:=h
     obtain⟨a,ha,h1⟩:=boundK_sound h
     obtain⟨b,hb,h2,h3,h4⟩:=boundK_sound h1
     refine⟨_,_,?_,h4⟩
     rw[map_opt_rho] at ha hb
     simp only[effS,hx,SV.g,sliceA,ha,hb,getI ho,SObj.g,flatA_len]
     rw[if_pos ⟨h2,h3,trivial,trivial⟩]
     simp
    ·exact h.elim
   ·exact h.elim
  ·rename_i id off len m sz' hx
   split at h
   ·rename_i s l e pu ho
    split at h
    ·rename_i hsz
     obtain⟨rfl,rfl⟩:=hsz
     obtain⟨rfl,h⟩:=h
     obtain⟨a,ha,h1⟩:=boundK_sound h
     obtain⟨b,hb,h2,h3,h4⟩:=boundK_sound h1
     refine⟨_,_,?_,h4⟩
     rw[map_opt_rho] at ha hb
     simp only[effS,hx,SV.g,sliceA,ha,hb,getI ho,SObj.g,flatA_len]
     rw[if_pos ⟨h2,h3,trivial,trivial⟩]
     simp[Nat.add_mul]
    ·exact h.elim
   ·exact h.elim
  ·exact h.elim
 |slice3 sz x lo hi mx=>
  simp only[opK] at h
  split at h
  ·rename_i s l hx
   split at h
   ·rename_i hsz
    subst hsz
    obtain⟨a,ha,h1⟩:=boundK_sound h
    obtain⟨b,hb,h2⟩:=boundK_sound h1
    obtain⟨m,hm,h3,h4,h5,h6⟩:=boundK_sound h2
    refine⟨_,_,?_,h6⟩
    rw[map_opt_rho] at ha
    simp only[Option.map_some] at hb hm
    have hlen:((l.drop a).take (b - a)).length=b - a:=by simp;omega
    simp only[effS,hx,SV.g,sliceA3,ha,hb,hm,flatA_len,and_true,if_pos (And.intro h3 (And.intro h4 h5)),Option.map_some,flatA_sub,hlen]
   ·exact h.elim
  ·rename_i id n sz' hx
   split at h
   ·rename_i s l e pu ho
    split at h
    ·rename_i hsz
     obtain⟨rfl,rfl⟩:=hsz
     obtain⟨rfl,h⟩:=h
     obtain⟨a,ha,h1⟩:=boundK_sound h
     obtain⟨b,hb,h2⟩:=boundK_sound h1
     obtain⟨m,hm,h3,h4,h5,h6⟩:=boundK_sound h2
     refine⟨_,_,?_,h6⟩
     rw[map_opt_rho] at ha
     simp only[Option.map_some] at hb hm
     simp only[effS,hx,SV.g,sliceA3,ha,hb,hm,getI ho,SObj.g,flatA_len]
     rw[if_pos ⟨h3,h4,h5,trivial,trivial,by omega,sz_pos _⟩]
     simp
    ·exact h.elim
   ·exact h.elim
  ·exact h.elim
 |sliceStr x lo hi=>simp only[opK] at h
 |append e sz bytes s x pu=>exact opK_append h
 |len k x=>
  simp only[opK] at h
  split at h
  ·rename_i hx;exact⟨_,_,by simp only[effS,hx,SV.g,lenA,Option.map_some],h⟩
  ·rename_i hx;exact⟨_,_,by simp only[effS,hx,SV.g,lenA,Option.map_some],h⟩
  ·rename_i hx;exact⟨_,_,by simp only[effS,hx,SV.g,lenA,Option.map_some],h⟩
  ·rename_i hx;exact⟨_,_,by simp only[effS,hx,SV.g,lenA,Option.map_some],h⟩
  ·rename_i hx;exact⟨_,_,by simp only[effS,hx,SV.g,lenA,Option.map_some];rfl,h⟩
  ·rename_i hx;exact⟨_,_,by simp only[effS,hx,SV.g,lenA,Option.map_some],h⟩
  ·rename_i id hx
   split at h
   ·rename_i sk sv ka es kt pu ho
    exact⟨_,_,by simp only[effS,hx,SV.g,lenA,getI ho,SObj.g,List.length_map,Option.map_some],h⟩
   ·exact h.elim
  ·exact h.elim
 |lenArr n=>exact⟨_,_,rfl,h⟩
 |mm mx x y=>
  simp only[opK] at h
  split at h
  ·rename_i hx hy
   split at h
   ·rename_i hk
    exact⟨_,_,by simp only[effS,hx,hy,SV.g,if_pos hk],h⟩
   ·exact h.elim
  ·rename_i k a hx
   obtain⟨b,hb,h2⟩:=optK_some h
   exact⟨_,_,by simp only[effS,hx,int_g hb,SV.g,if_true,mm_int],h2⟩
  ·rename_i k a hx _
   obtain⟨b,hb,h2⟩:=optK_some h
   exact⟨_,_,by simp only[effS,hx,int_g hb,SV.g,if_true,mm_int],h2⟩
  ·exact h.elim
 |call f args own=>
  simp only[opK] at h
  obtain⟨v,o',h1,h2⟩:=callK_sound hC h
  rw[gL_rho] at h1
  exact⟨v,o',by simp only[effS,h1],h2⟩
 |callv f args own=>
  simp only[opK] at h
  split at h
  ·rename_i g first captured hf
   obtain⟨v,o',h1,h2⟩:=callK_sound hC h
   rw[gL_app,gL_app,gL_rho] at h1
   exact⟨v,o',by simp only[effS,hf,SV.g,h1],h2⟩
  ·exact h.elim
 |extract x i=>
  simp only[opK] at h
  split at h
  ·rename_i vs hx
   obtain⟨v,h1,h2⟩:=optK_some h
   exact⟨_,_,by simp only[effS,hx,SV.g,gL_get,h1,Option.map_some],h2⟩
  ·exact h.elim
 |mkfn f first captured=>exact⟨_,_,by simp only[effS,SV.g,gL_rho],h⟩
 |mkmap kt pu=>
  simp only[opK] at h
  split at h
  ·rename_i sk sv hs
   obtain⟨o',hm,hk⟩:=mkK_sound h
   simp only[SObj.g,List.map_nil] at hm
   exact⟨_,o',by simp only[effS,hm,Option.map_some,SV.g],hk⟩
  ·exact h.elim
 |lookup z agg ks ka x k ok=>
  simp only[opK] at h
  split at h
  ·rename_i id hx
   split at h
   ·rename_i sk sv ka' es kt pu ho
    split at h
    ·rename_i hh
     obtain⟨rfl,rfl,h1,h2,rfl,h4,h5,h6⟩:=hh
     obtain⟨kv,hkv,h7⟩:=optK_some h
     obtain⟨zv,hzv,h8⟩:=optK_some h7
     have hkey:=keyA_sound h5 h6 (keyed_flat h1) hkv
     have hz:zeroA z false=some (valA sv zv):=by
      have hd:=decS_g hzv
      rw[map_ofCell,valA_enc h2] at hd
      cases z with
      |nil=>simp at hd
      |cons a r=>
       cases r with
       |nil=>simp only[List.map_cons,List.map_nil,List.cons.injEq,and_true] at hd;simp[zeroA,hd]
       |cons=>simp at hd
     obtain⟨r,hr,hm⟩:=findM_sound (sv:=sv) h1 h4 kv es 0
     refine⟨_,_,?_,h8⟩
     simp only[effS,hx,SV.g,hkey,getI ho,SObj.g,if_true,hr,hz]
     cases hf:findT sk sv kv es with
     |some v=>
      rw[hf] at hm
      obtain⟨j,rfl,_⟩:=hm
      simp only[Option.getD_some]
      cases ok<;>simp only[Bool.false_eq_true,if_false,if_true,SV.g,gL,valA_head h2,Option.isSome_some,Option.isSome_none]
     |none=>
      rw[hf] at hm
      obtain⟨rfl,_⟩:=hm
      simp only[Option.getD_none]
      cases ok<;>simp only[Bool.false_eq_true,if_false,if_true,SV.g,gL,valA_head h2,Option.isSome_some,Option.isSome_none]
    ·exact h.elim
   ·exact h.elim
  ·exact h.elim
 |mapset ks ka x k v=>
  simp only[opK] at h
  split at h
  ·rename_i id hx
   split at h
   ·rename_i sk sv ka' es kt pu ho
    split at h
    ·rename_i hh
     obtain⟨rfl,rfl,h1,h2,h4,h5,h6,h9⟩:=hh
     obtain⟨kv,hkv,h7⟩:=optK_some h
     obtain⟨vv,hvv,h8⟩:=optK_some h7
     have hkey:=keyA_sound h5 h6 (keyed_flat h1) hkv
     have hv:(ρ v).g=valA sv vv:=by
      have hd:=decS_g hvv
      rw[valA_enc h2] at hd
      have hc:(ρ v).cellsOf=[ρ v]:=by
       revert h9
       cases ρ v<;>simp[SV.cellsOf,aggIs]
      rw[hc] at hd
      simpa using hd
     obtain⟨r,hr,hm⟩:=findM_sound (sv:=sv) h1 h4 kv es 0
     refine⟨_,_,?_,h8⟩
     have hpure:(valA sv vv).pure=true:=by simp[valA,AV.pure]
     simp only[effS,hx,SV.g,hkey,getI ho,SObj.g,hv,hpure,hr,gO_set]
     rw[if_neg (by simp)]
     cases hf:findT sk sv kv es with
     |some w=>
      rw[hf] at hm
      obtain⟨j,rfl,h10,h11⟩:=hm
      rw[setT_some h10 h11]
      simp only[Nat.zero_add]
      rw[map_modify_const]
     |none=>
      rw[hf] at hm
      obtain⟨rfl,h10⟩:=hm
      rw[setT_none h10]
      simp
    ·exact h.elim
   ·exact h.elim
  ·exact h.elim
end
mutual
theorem frz_bel {o:Store} {k:Nat}:∀{v:AV},v.bel k=true→v.frz o (fun i=>decide (k≤i))=some v
 | .os id off len tot,h=>by
  simp only[AV.bel,decide_eq_true_eq] at h
  simp only[AV.frz,decide_eq_true_eq,if_neg (Nat.not_le.2 h)]
 | .ptr id off tot,h=>by
  simp only[AV.bel,decide_eq_true_eq] at h
  simp only[AV.frz,decide_eq_true_eq,if_neg (Nat.not_le.2 h)]
 | .agg cs,h=>by simp only[AV.bel] at h;simp only[AV.frz,frzL_bel h,Option.map_some]
 | .tup cs,h=>by simp only[AV.bel] at h;simp only[AV.frz,frzL_bel h,Option.map_some]
 | .fn f a b,h=>by
  simp only[AV.bel,Bool.and_eq_true] at h
  simp only[AV.frz,frzL_bel h.1,frzL_bel h.2]
 | .ud,_| .sc _,_| .sl _ _,_| .ep _ _,_| .mp _,_=>by simp only[AV.frz]
theorem frzL_bel {o:Store} {k:Nat}:∀{l:List AV},belL k l=true→frzL o (fun i=>decide (k≤i)) l=some l
 |[],_=>by simp[frzL]
 |c::cs,h=>by
  simp only[belL,Bool.and_eq_true] at h
  simp only[frzL,frz_bel h.1,frzL_bel h.2]
end
theorem frzM_bel {o:Store} {k:Nat}:∀{l:List (Value×AV)},belL k (l.map (·.2))=true→frzM o (fun i=>decide (k≤i)) l=some l
 |[],_=>by simp[frzM]
 |(q,c)::cs,h=>by
  simp only[List.map_cons,belL,Bool.and_eq_true] at h
  simp only[frzM,frz_bel h.1,frzM_bel h.2]
theorem ofrz_bel {o:Store} {k:Nat} {x:AObj} (h:x.bel k=true):x.frz o (fun i=>decide (k≤i))=some x:=by
 cases x with
 |dead=>rfl
 |cells cs e sz pu=>
  cases pu with
  |true=>simp only[AObj.frz,if_true]
  |false=>simp only[AObj.bel,Bool.false_or] at h;simp only[AObj.frz,Bool.false_eq_true,if_false,frzL_bel h,Option.map_some]
 |map es kt pu=>
  cases pu with
  |true=>simp only[AObj.frz,if_true]
  |false=>simp only[AObj.bel,Bool.false_or] at h;simp only[AObj.frz,Bool.false_eq_true,if_false,frzM_bel h,Option.map_some]
theorem frzS_bel {o:Store} {k:Nat}:∀{r:Store},(∀x∈r,x.bel k=true)→frzS o (fun i=>decide (k≤i)) r=some r
 |[],_=>rfl
 |x::r,h=>by
  simp only[frzS,ofrz_bel (h x (by simp)),frzS_bel (r:=r) fun y hy=>h y (by simp[hy])]
theorem dropPu_take {k:Nat}:∀{o:Store} {i:Nat},(dropPu (fun j=>decide (k≤j)) i o).take (k - i)=o.take (k - i)
 |[],i=>by simp[dropPu]
 |x::r,i=>by
  simp only[dropPu]
  by_cases hi:i<k
  ·rw[show k - i=(k - (i+1))+1 from by omega,List.take_succ_cons,List.take_succ_cons,dropPu_take]
   congr 1
   cases x with
   |cells cs e sz pu=>cases pu<;>simp[Nat.not_le.2 hi]
   |_=>rfl
  ·rw[show k - i=0 from by omega];simp
theorem mem_range_c {k i:Nat} (h:i<k):(List.range k).contains i=true:=by simp[h]
theorem reach_bel {o:Store} {k:Nat}:∀{d:Nat} {vs:List AV},belL k vs=true→reachF o d vs (List.range k)=List.range k:=by
 intro d
 induction d with
 |zero=>intro vs _;simp[reachF]
 |succ d ih=>
  intro vs h
  cases vs with
  |nil=>simp[reachF]
  |cons v vs=>
   simp only[belL,Bool.and_eq_true] at h
   have h1:=h.1
   simp only[reachF]
   cases v with
   |agg cs=>simp only[AV.bel] at h1;simp only[ih h1,ih h.2]
   |tup cs=>simp only[AV.bel] at h1;simp only[ih h1,ih h.2]
   |fn f a b=>simp only[AV.bel,Bool.and_eq_true] at h1;simp only[ih h1.1,ih h1.2,ih h.2]
   |ptr id _ _=>simp only[AV.bel,decide_eq_true_eq] at h1;simp only[mem_range_c h1,if_true,ih h.2]
   |os id _ _ _=>simp only[AV.bel,decide_eq_true_eq] at h1;simp only[mem_range_c h1,if_true,ih h.2]
   |mp id=>simp only[AV.bel,decide_eq_true_eq] at h1;simp only[mem_range_c h1,if_true,ih h.2]
   |_=>simp only[ih h.2]
theorem idxOf_range':∀{n s i p:Nat},s≤i→i<s+n→idxOf (List.range' s n) i p=some (p+(i - s))
 |0,s,i,p,h1,h2=>by omega
 |n+1,s,i,p,h1,h2=>by
  simp only[List.range'_succ,idxOf]
  by_cases h:s=i
  ·subst h;simp
  ·have:(s==i)=false:=by simpa using h
   rw[this]
   simp only[Bool.false_eq_true,if_false]
   rw[idxOf_range' (by omega) (by omega)]
   congr 1
   omega
theorem idxOf_range {k i:Nat} (h:i<k):idxOf (List.range k) i=some i:=by
 rw[List.range_eq_range',idxOf_range' (by omega) (by omega)]
 simp
mutual
theorem ren_bel {k:Nat}:∀{v:AV},v.bel k=true→v.ren (fun j=>idxOf (List.range k) j)=some v
 | .os id off len tot,h=>by simp only[AV.bel,decide_eq_true_eq] at h;simp only[AV.ren,idxOf_range h,Option.map_some]
 | .ptr id off tot,h=>by simp only[AV.bel,decide_eq_true_eq] at h;simp only[AV.ren,idxOf_range h,Option.map_some]
 | .mp id,h=>by simp only[AV.bel,decide_eq_true_eq] at h;simp only[AV.ren,idxOf_range h,Option.map_some]
 | .agg cs,h=>by simp only[AV.bel] at h;simp only[AV.ren,renL_bel h,Option.map_some]
 | .tup cs,h=>by simp only[AV.bel] at h;simp only[AV.ren,renL_bel h,Option.map_some]
 | .fn f a b,h=>by
  simp only[AV.bel,Bool.and_eq_true] at h
  simp only[AV.ren,renL_bel h.1,renL_bel h.2]
 | .ud,_| .sc _,_| .sl _ _,_| .ep _ _,_=>by simp only[AV.ren]
theorem renL_bel {k:Nat}:∀{l:List AV},belL k l=true→renL (fun j=>idxOf (List.range k) j) l=some l
 |[],_=>by simp[renL]
 |c::cs,h=>by
  simp only[belL,Bool.and_eq_true] at h
  simp only[renL,ren_bel h.1,renL_bel h.2]
end
theorem renM_bel {k:Nat}:∀{l:List (Value×AV)},belL k (l.map (·.2))=true→renM (fun j=>idxOf (List.range k) j) l=some l
 |[],_=>by simp[renM]
 |(q,c)::cs,h=>by
  simp only[List.map_cons,belL,Bool.and_eq_true] at h
  simp only[renM,ren_bel h.1,renM_bel h.2]
theorem oren_bel {k:Nat} {x:AObj} (h:x.bel k=true):x.ren (fun j=>idxOf (List.range k) j)=some x:=by
 cases x with
 |dead=>rfl
 |cells cs e sz pu=>
  cases pu with
  |true=>simp only[AObj.ren,if_true]
  |false=>simp only[AObj.bel,Bool.false_or] at h;simp only[AObj.ren,Bool.false_eq_true,if_false,renL_bel h,Option.map_some]
 |map es kt pu=>
  cases pu with
  |true=>simp only[AObj.ren,if_true]
  |false=>simp only[AObj.bel,Bool.false_or] at h;simp only[AObj.ren,Bool.false_eq_true,if_false,renM_bel h,Option.map_some]
theorem sub_range {k:Nat} {o:Store} (hb:∀x∈o.take k,x.bel k=true) (hl:k≤o.length):∀{n s:Nat},s+n=k→subStore o (List.range k) (List.range' s n)=some ((o.take k).drop s)
 |0,s,h=>by
  simp only[Nat.add_zero] at h;subst h
  simp[subStore]
 |n+1,s,h=>by
  simp only[List.range'_succ,subStore]
  have hs:s<o.length:=by omega
  have hg:o[s]?=some o[s]:=List.getElem?_eq_getElem hs
  rw[hg,sub_range hb hl (by omega)]
  have hm:o[s]∈o.take k:=by
   rw[List.mem_take_iff_getElem]
   exact⟨s,by omega,rfl⟩
  simp only[oren_bel (hb _ hm),Option.map_some]
  congr 1
  have hk:s<(o.take k).length:=by simp;omega
  rw[List.drop_eq_getElem_cons hk]
  simp
theorem nodup_range':∀{n s:Nat},callOwn.nodupN (List.range' s n)=true
 |0,_=>by simp[callOwn.nodupN]
 |n+1,s=>by
  simp only[List.range'_succ,callOwn.nodupN,nodup_range',Bool.and_true,Bool.not_eq_true']
  simp[List.mem_range']
  intro x _
  omega
theorem belL_app {k:Nat}:∀{a b:List AV},belL k a=true→belL k b=true→belL k (a++b)=true
 |[],b,_,h=>h
 |x::a,b,h,h2=>by
  simp only[belL,Bool.and_eq_true] at h
  simp only[List.cons_append,belL,h.1,belL_app h.2 h2,Bool.and_self]
theorem avs_bel {k:Nat}:∀{o:Store},(∀x∈o,x.bel k=true)→belL k (o.flatMap finishOwn.AObj.avs)=true
 |[],_=>by simp[belL]
 |x::o,h=>by
  simp only[List.flatMap_cons]
  refine belL_app ?_ (avs_bel fun y hy=>h y (by simp[hy]))
  have hx:=h x (by simp)
  cases x with
  |dead=>simp[finishOwn.AObj.avs,belL]
  |cells cs e sz pu=>cases pu<;>simp[finishOwn.AObj.avs,belL];simpa[AObj.bel] using hx
  |map es kt pu=>cases pu<;>simp[finishOwn.AObj.avs,belL];simpa[AObj.bel] using hx
theorem finishOwn_bel {k:Nat} {r:AV} {o:Store} (hr:r.bel k=true) (ho:∀x∈o,x.bel k=true) (hl:k≤o.length):finishOwn k r o=some (r,o.take k):=by
 unfold finishOwn
 rw[frz_bel hr,frzS_bel ho]
 simp only
 have ht:(dropPu (fun i=>decide (k≤i)) 0 o).take k=o.take k:=by simpa using dropPu_take (k:=k) (o:=o) (i:=0)
 have hlen:∀{o:Store} {i:Nat},(dropPu (fun i=>decide (k≤i)) i o).length=o.length:=by
  intro o
  induction o with
  |nil=>intro i;rfl
  |cons x o ih=>intro i;simp only[dropPu,List.length_cons,ih]
 have hb:∀x∈o.take k,x.bel k=true:=fun x hx=>ho x (List.mem_of_mem_take hx)
 rw[ht,reach_bel (by simp only[belL,hr,Bool.true_and];exact avs_bel hb)]
 have hn:callOwn.nodupN (List.range k)=true:=by rw[List.range_eq_range'];exact nodup_range'
 rw[if_pos hn,ren_bel hr]
 have hs:=sub_range (k:=k) (o:=dropPu (fun i=>decide (k≤i)) 0 o) (by rw[ht];exact hb) (by rw[hlen];exact hl) (n:=k) (s:=0) (by omega)
 rw[←List.range_eq_range',ht,List.drop_zero] at hs
 rw[hs]
end Go.Vi
