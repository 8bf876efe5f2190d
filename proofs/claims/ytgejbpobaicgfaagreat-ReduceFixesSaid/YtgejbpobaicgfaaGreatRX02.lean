/-
  The abstract interpreter: what it means that a value and a store of the interpreter stand for a value and a world of the model.
  Conditions: none.
-/
import Derived.Test.YtgejbpobaicgfaaGreatRX00
import Derived.OwnWalk
import Derived.Maps.AppendAt
import Derived.Laws.CopyRow
import Derived.Laws.Cells
import Derived.Laws.Entries
import Derived.Laws.Small
import Derived.Laws.Tables
import Derived.Laws.MakeOwn
import Derived.Great.BuildSlice
import Derived.Laws.StructEq
import Derived.ChangeKeysEq
set_option maxRecDepth 100000
set_option maxHeartbeats 4000000
set_option linter.unusedSimpArgs false
set_option linter.unusedVariables false
namespace Go.Vi
abbrev aV:=List (Option (Nat×Nat))
def Own (σ:aV) (b:Nat):Prop:=∃(i c:Nat),σ[i]?=some (some (b,c))
def oZ (o:Store) (id tot:Nat):Prop:=∃cs e sz pu,o[id]?=some (.cells cs e sz pu)∧tot≤cs.length
def o6 (o:Store) (id sz tot:Nat):Prop:=∃cs e pu,o[id]?=some (.cells cs e sz pu)∧cs.length=tot
def IsMap (o:Store) (id:Nat):Prop:=∃es kt pu,o[id]?=some (.map es kt pu)
def iO (σ:aV) (id off len tot sz:Nat) (a:Option Addr) (cap:Nat):Prop:=
 match σ[id]? with
 |some none=>tot=0∧a=none∧cap=0∧len=0
 |some (some (b,c))=>(0<len→a=some ⟨b,kL off tot sz,none⟩)∧(off=0→len*sz=tot→0<sz→a=some ⟨b,0,none⟩∧cap=c)∧((off≤tot∧off+len*sz≤tot)∨(tot+sz≤off∧off - tot - sz+len*sz≤tot∧0<sz))
 |none=>False
theorem kq {off tot sz:Nat} (h:off≤tot):kL off tot sz=off:=by
 unfold kL
 rw[Nat.ble_eq_true_of_le h,if_pos rfl]
theorem xG {off tot sz:Nat} (h:tot<off):kL off tot sz=off - tot - sz:=by
 unfold kL
 rw[if_neg]
 intro h2
 have:=Nat.le_of_ble_eq_true h2
 omega
structure bG where
 p:Nat→Prop
 l:Nat
instance:CoeFun bG (fun _=>Nat→Prop):=⟨bG.p⟩
class jo (A A':bG):Prop where
 eq:A'.l=A.l
instance (A:bG):jo A A:=⟨rfl⟩
instance (A:bG) (p:Nat→Prop):jo A ⟨p,A.l⟩:=⟨rfl⟩
def qF (l:Nat):Fn→Fn
 | .yield _=> .yield l
 |f=>f
def Fr (A:bG) (σ:aV) (b:Nat):Prop:=¬Own σ b∧¬A b
section
variable (A:bG) (w:World) (σ:aV) (o:Store)
mutual
def aj:AV→Value→Prop
 | .ud,_=>True
 | .sc u,v=>v=u∧u.oneCell'=true
 | .agg cs,v=>∃vs,v= .agg vs∧aA cs vs.toList
 | .aD cs,v=>∃vs,v= .tuple vs∧aA cs vs.toList
 | .sl n cs,v=>∃a cap,v= .slice a n cap∧n≤cap∧bJ cs=true∧bH cs a 0
 | .ep cs off,v=>∃a:Addr,v= .pointer (some (a.add off))∧bJ cs=true∧bH cs (some a) 0
 | .ptr id off tot,v=>oZ o id tot∧(∃a,v= .pointer (some a))∧∀sz,o6 o id sz tot→∃b c,σ[id]?=some (some (b,c))∧v= .pointer (some ⟨b,off,none⟩)
 | .os id off len tot,v=>oZ o id tot∧∃a cap,v= .slice a len cap∧len≤cap∧∀sz,o6 o id sz tot→iO σ id off len tot sz a cap
 | .mp id,v=>IsMap o id∧∃b c,σ[id]?=some (some (b,c))∧v= .map (some b)
 | .fn f a b,v=>∃a' b',v= .func (qF A.l f) a' b'∧aA a a'.toList∧aA b b'.toList
def aA:List AV→List Value→Prop
 |[],vs=>vs=[]
 |c::cs,vs=>∃v r,vs=v::r∧aj c v∧aA cs r
def bH:List AV→Option Addr→Nat→Prop
 |[],_,_=>True
 |c::cs,a,j=>(∃b v,a=some b∧Fr A σ b.block∧w.cell? (b.add j)=some v∧aj c v)∧bH cs a (j+1)
end
end
structure Ext (w:World) (σ:aV) (o:Store) (w':World) (σ':aV) (o':Store):Prop where
 size:w.heap.size≤w'.heap.size
 blk:∀b,b<w.heap.size→¬Own σ b→w'.heap[b]?=w.heap[b]?∧¬Own σ' b
 len:o.length≤o'.length
 cur:∀id tot,oZ o id tot→oZ o' id tot∧∀sz,o6 o' id sz tot→o6 o id sz tot∧σ'[id]?=σ[id]?
 isMap:∀id,IsMap o id→IsMap o' id∧σ'[id]?=σ[id]?
 os:w'.os=w.os
 tape:w'.tape=w.tape
 output:w'.output=w.output
theorem Ext.refl (w:World) (σ:aV) (o:Store):Ext w σ o w σ o:=
 ⟨Nat.le_refl _,fun _ _ h=>⟨rfl,h⟩,Nat.le_refl _,fun _ _ h=>⟨h,fun _ h=>⟨h,rfl⟩⟩,fun _ h=>⟨h,rfl⟩,rfl,rfl,rfl⟩
theorem Ext.trans {w w1 w2:World} {σ σ1 σ2:aV} {o o1 o2:Store} (h:Ext w σ o w1 σ1 o1) (k:Ext w1 σ1 o1 w2 σ2 o2):Ext w σ o w2 σ2 o2 where
 size:=Nat.le_trans h.size k.size
 blk:=fun b hb hn=>by
  obtain⟨h1,h2⟩:=h.blk b hb hn
  obtain⟨k1,k2⟩:=k.blk b (Nat.lt_of_lt_of_le hb h.size) h2
  exact⟨k1.trans h1,k2⟩
 len:=Nat.le_trans h.len k.len
 cur:=fun id tot ha=>by
  obtain⟨h1,h2⟩:=h.cur id tot ha
  obtain⟨k1,k2⟩:=k.cur id tot h1
  refine⟨k1,fun sz hc=>?_⟩
  obtain⟨k3,k4⟩:=k2 sz hc
  obtain⟨h3,h4⟩:=h2 sz k3
  exact⟨h3,k4.trans h4⟩
 isMap:=fun id ha=>by
  obtain⟨h1,h2⟩:=h.isMap id ha
  obtain⟨k1,k2⟩:=k.isMap id h1
  exact⟨k1,k2.trans h2⟩
 os:=k.os.trans h.os
 tape:=k.tape.trans h.tape
 output:=k.output.trans h.output
section
variable {A:bG} {w w':World} {σ σ':aV} {o o':Store}
theorem F7 {a:Addr} {v:Value} (hc:w.cell? a=some v):a.block<w.heap.size:=World.block_lt_of_cell? w a hc
theorem add_block (a:Addr) (n:Nat):(a.add n).block=a.block:=by unfold Addr.add;split<;>rfl
theorem add_add (a:Addr) (i j:Nat):(a.add i).add j=a.add (i+j):=by
 unfold Addr.add
 by_cases hi:i=0<;>by_cases hj:j=0<;>simp[hi,hj,Nat.add_assoc]
mutual
theorem aj.ext (h:Ext w σ o w' σ' o'):∀(c:AV) (v:Value),aj A w σ o c v→aj A w' σ' o' c v
 | .ud,_,_=>by simp[aj]
 | .sc u,v,hr=>by simpa[aj] using hr
 | .agg cs,v,hr=>by
  simp only[aj] at hr ⊢
  obtain⟨vs,rfl,hl⟩:=hr
  exact⟨vs,rfl,aA.ext h cs _ hl⟩
 | .aD cs,v,hr=>by
  simp only[aj] at hr ⊢
  obtain⟨vs,rfl,hl⟩:=hr
  exact⟨vs,rfl,aA.ext h cs _ hl⟩
 | .sl n cs,v,hr=>by
  simp only[aj] at hr ⊢
  obtain⟨a,cap,rfl,hn,hp,hm⟩:=hr
  exact⟨a,cap,rfl,hn,hp,bH.ext h cs a 0 hm⟩
 | .ep cs off,v,hr=>by
  simp only[aj] at hr ⊢
  obtain⟨a,rfl,hp,hm⟩:=hr
  exact⟨a,rfl,hp,bH.ext h cs _ 0 hm⟩
 | .ptr id off tot,v,hr=>by
  simp only[aj] at hr ⊢
  obtain⟨h0,h3⟩:=h.cur id tot hr.1
  refine⟨h0,hr.2.1,fun sz hc=>?_⟩
  obtain⟨h1,h2⟩:=h3 sz hc
  rw[h2]
  exact hr.2.2 sz h1
 | .os id off len tot,v,hr=>by
  simp only[aj] at hr ⊢
  obtain⟨ha,a,cap,rfl,hl,hk⟩:=hr
  obtain⟨h0,h3⟩:=h.cur id tot ha
  refine⟨h0,a,cap,rfl,hl,fun sz hc=>?_⟩
  obtain⟨h1,h2⟩:=h3 sz hc
  have:=hk sz h1
  unfold iO at this ⊢
  rw[h2]
  exact this
 | .mp id,v,hr=>by
  simp only[aj] at hr ⊢
  obtain⟨h1,h2⟩:=h.isMap id hr.1
  rw[h2]
  exact⟨h1,hr.2⟩
 | .fn f a b,v,hr=>by
  simp only[aj] at hr ⊢
  obtain⟨a',b',rfl,ha,hb⟩:=hr
  exact⟨a',b',rfl,aA.ext h a _ ha,aA.ext h b _ hb⟩
theorem aA.ext (h:Ext w σ o w' σ' o'):∀(cs:List AV) (vs:List Value),aA A w σ o cs vs→aA A w' σ' o' cs vs
 |[],vs,hr=>by simpa[aA] using hr
 |c::cs,vs,hr=>by
  simp only[aA] at hr ⊢
  obtain⟨v,r,rfl,hc,hl⟩:=hr
  exact⟨v,r,rfl,aj.ext h c v hc,aA.ext h cs r hl⟩
theorem bH.ext (h:Ext w σ o w' σ' o'):∀(cs:List AV) (a:Option Addr) (j:Nat),bH A w σ o cs a j→bH A w' σ' o' cs a j
 |[],_,_,_=>by simp[bH]
 |c::cs,a,j,hr=>by
  simp only[bH] at hr ⊢
  obtain⟨⟨b,v,rfl,hn,hc,hv⟩,hl⟩:=hr
  have hlt:b.block<w.heap.size:=by have:=F7 hc;rwa [add_block] at this
  obtain⟨h1,h2⟩:=h.blk b.block hlt hn.1
  exact⟨⟨b,v,rfl,⟨h2,hn.2⟩,by rw[World.cell?_of_block (w:=w) (by rw[add_block];exact h1)];exact hc,aj.ext h c v hv⟩,bH.ext h cs _ (j+1) hl⟩
end
theorem aA.length:∀(cs:List AV) (vs:List Value),aA A w σ o cs vs→cs.length=vs.length
 |[],vs,hr=>by simp[aA] at hr;simp[hr]
 |c::cs,vs,hr=>by
  simp only[aA] at hr
  obtain⟨v,r,rfl,_,hl⟩:=hr
  simp[aA.length cs r hl]
theorem aA.get:∀(cs:List AV) (vs:List Value),aA A w σ o cs vs→∀(i:Nat) (c:AV),cs[i]?=some c→∃v,vs[i]?=some v∧aj A w σ o c v
 |[],_,_,i,c,hc=>by simp at hc
 |c::cs,vs,hr,i,d,hd=>by
  simp only[aA] at hr
  obtain⟨v,r,rfl,hv,hl⟩:=hr
  cases i with
  |zero=>simp at hd;subst hd;exact⟨v,by simp,hv⟩
  |succ i=>simp at hd;obtain⟨u,hu,hr⟩:=aA.get cs r hl i d hd;exact⟨u,by simpa using hu,hr⟩
theorem aA.gv:∀(cs:List AV) (vs:List Value),cs.length=vs.length→(∀(i:Nat) (c:AV),cs[i]?=some c→∃v,vs[i]?=some v∧aj A w σ o c v)→aA A w σ o cs vs
 |[],vs,hl,_=>by simp[aA];exact List.eq_nil_of_length_eq_zero (by simpa using hl.symm)
 |c::cs,[],hl,_=>by simp at hl
 |c::cs,v::vs,hl,hg=>by
  simp only[aA]
  obtain⟨u,hu,hr⟩:=hg 0 c (by simp)
  simp at hu
  subst hu
  exact⟨v,vs,rfl,hr,aA.gv cs vs (by simpa using hl) fun i d hd=>by simpa using hg (i+1) d (by simpa using hd)⟩
theorem bH.get:∀(cs:List AV) (a:Option Addr) (j:Nat),bH A w σ o cs a j→∀(i:Nat) (c:AV),cs[i]?=some c→
  ∃b v,a=some b∧Fr A σ b.block∧w.cell? (b.add (j+i))=some v∧aj A w σ o c v
 |[],_,_,_,i,c,hc=>by simp at hc
 |c::cs,a,j,hr,i,d,hd=>by
  simp only[bH] at hr
  obtain⟨h1,hl⟩:=hr
  cases i with
  |zero=>simp at hd;subst hd;simpa using h1
  |succ i=>
   simp at hd
   have:=bH.get cs a (j+1) hl i d hd
   rwa [show j+1+i=j+(i+1) from by omega] at this
theorem bH.gv:∀(cs:List AV) (a:Option Addr) (j:Nat),(∀(i:Nat) (c:AV),cs[i]?=some c→
  ∃b v,a=some b∧Fr A σ b.block∧w.cell? (b.add (j+i))=some v∧aj A w σ o c v)→bH A w σ o cs a j
 |[],_,_,_=>by simp[bH]
 |c::cs,a,j,hg=>by
  simp only[bH]
  refine⟨by simpa using hg 0 c (by simp),bH.gv cs a (j+1) fun i d hd=>?_⟩
  have:=hg (i+1) d (by simpa using hd)
  rwa [show j+1+i=j+(i+1) from by omega]
theorem aA.append {cs ds:List AV} {vs us:List Value} (h:aA A w σ o cs vs) (k:aA A w σ o ds us):aA A w σ o (cs++ds) (vs++us):=by
 induction cs generalizing vs with
 |nil=>simp only[aA] at h;subst h;simpa using k
 |cons c cs ih=>
  simp only[aA] at h
  obtain⟨v,r,rfl,hv,hl⟩:=h
  simp only[List.cons_append,aA]
  exact⟨v,r++us,rfl,hv,ih hl⟩
theorem aj.qn {c:AV} {v:Value} (h:aj A w σ o c v):aj A w σ o c.qn v:=by
 unfold AV.qn
 split
 ·simp only[aj] at h ⊢
  exact⟨none,0,h.1,Nat.le_refl _,by simp[bJ],by simp[bH]⟩
 ·exact h
theorem aA.qn:∀{cs:List AV} {vs:List Value},aA A w σ o cs vs→aA A w σ o (cs.map .qn) vs
 |[],_,h=>h
 |c::cs,vs,h=>by
  simp only[aA,List.map_cons] at h ⊢
  obtain⟨v,r,rfl,hv,hl⟩:=h
  exact⟨v,r,rfl,hv.qn,aA.qn hl⟩
theorem aA.cp (pu:Bool) {cs:List AV} {vs:List Value} (h:aA A w σ o cs vs):aA A w σ o (cp pu cs) vs:=by
 unfold Go.Vi.cp
 split
 ·exact h.qn
 ·exact h
theorem mr (pu:Bool) (cs:List AV):(Go.Vi.cp pu cs).length=cs.length:=by
 unfold Go.Vi.cp
 split<;>simp
theorem PS {c:AV} (h:c.pure=true):c.qn.pure=true:=by
 unfold AV.qn
 split
 ·simp[AV.pure,bJ]
 ·exact h
theorem PT {c:AV} (h:c.one=true):c.qn.one=true:=by
 unfold AV.qn
 split
 ·simp[AV.one]
 ·exact h
theorem F8:∀{cs:List AV},bJ cs=true→bJ (cs.map .qn)=true
 |[],h=>h
 |c::cs,h=>by
  simp only[bJ,List.map_cons,Bool.and_eq_true] at h ⊢
  exact⟨PS h.1,F8 h.2⟩
theorem xH {pu:Bool} {cs:List AV} (h:bJ cs=true):bJ (Go.Vi.cp pu cs)=true:=by
 unfold Go.Vi.cp
 split
 ·exact F8 h
 ·exact h
theorem F9:∀{cs:List AV},cz cs=true→cz (cs.map .qn)=true
 |[],h=>h
 |c::cs,h=>by
  simp only[cz,List.map_cons,List.all_cons,Bool.and_eq_true] at h ⊢
  exact⟨PT h.1,F9 h.2⟩
theorem AG {pu:Bool} {cs:List AV} (h:cz cs=true):cz (Go.Vi.cp pu cs)=true:=by
 unfold Go.Vi.cp
 split
 ·exact F9 h
 ·exact h
theorem AH {pu:Bool} {cs:List AV} {vs:List Value} (h:aA A w σ o cs vs) {j:Nat} {c:AV} (hc:(Go.Vi.cp pu cs)[j]?=some c):∃v,vs[j]?=some v∧aj A w σ o c v:=
 aA.get _ _ (h.cp pu) j c hc
theorem aj.one {c:AV} {v:Value} (h:aj A w σ o c v) (h1:c.one=true):v.oneCell'=true:=by
 cases c<;>simp only[aj] at h<;>simp only[AV.one,Bool.false_eq_true] at h1
 ·exact h.1▸h.2
 ·obtain⟨a,cap,rfl,_⟩:=h;rfl
 ·obtain⟨a,rfl,_⟩:=h;rfl
 ·obtain⟨_,⟨a,rfl⟩,_⟩:=h;rfl
 ·obtain⟨_,a,cap,rfl,_⟩:=h;rfl
 ·obtain⟨_,b,c,_,rfl⟩:=h;rfl
 ·obtain⟨a,b,rfl,_⟩:=h;rfl
theorem aj.cells {c:AV} {v:Value} (h:aj A w σ o c v) (h1:cz c.cellsOf=true):aA A w σ o c.cellsOf v.cells.toList∧∀u∈v.cells.toList,u.oneCell'=true:=by
 have key:∀(cs:List AV) (vs:List Value),aA A w σ o cs vs→cz cs=true→∀u∈vs,u.oneCell'=true:=by
  intro cs
  induction cs with
  |nil=>intro vs hr _ u hu;simp only[aA] at hr;subst hr;simp at hu
  |cons c cs ih=>
   intro vs hr h1 u hu
   simp only[aA] at hr
   obtain⟨v,r,rfl,hc,hl⟩:=hr
   simp only[cz,List.all_cons,Bool.and_eq_true] at h1
   rcases List.mem_cons.1 hu with rfl|hu
   ·exact hc.one h1.1
   ·exact ih r hl h1.2 u hu
 cases c with
 |agg cs=>
  simp only[aj] at h
  obtain⟨vs,rfl,hl⟩:=h
  exact⟨hl,key _ _ hl h1⟩
 |_=>
  simp only[AV.cellsOf,cz,List.all_cons,List.all_nil,Bool.and_true] at h1
  have h2:=h.one h1
  have h3:v.cells=#[v]:=by cases v<;>simp_all [Value.cells,Value.oneCell']
  simp only[AV.cellsOf,h3,List.mem_singleton]
  exact⟨by simp only[aA];exact⟨v,[],rfl,h,rfl⟩,by rintro u rfl;exact h2⟩
def qG (kt:List Nat×Bool) (k:Value):Prop:=∃l,cq kt.1 l=true∧(if kt.2 then k= .agg l.toArray else l=[k])
def bI (A:bG) (w:World) (σ:aV) (o:Store) (i:Nat):aP→Prop
 | .dead=>σ[i]?=some none
 | .cells cs e sz pu=>(pu=true→bJ cs=true)∧cz cs=true∧
  ((σ[i]?=some none∧cs=[])∨∃b cap arr,σ[i]?=some (some (b,cap))∧cap≤maxLen∧w.heap[b]?=some (.cells arr e (0,0))∧arr.size=cap*sz∧cs.length≤arr.size∧
   ∀(j:Nat) (c:AV),cs[j]?=some c→∃v,arr[j]?=some v∧aj A w σ o c v)
 | .map es kt pu=>(pu=true→∀e∈es,e.2.pure=true)∧(∀e∈es,qG kt e.1)∧∃(b c:Nat) (entries:Array MapEntry) (clock:Nat),σ[i]?=some (some (b,c))∧w.heap[b]?=some (.map entries clock)∧entries.size=es.length∧
   ∀(j:Nat) (e:Value×AV),es[j]?=some e→∃m,entries[j]?=some m∧m.key=e.1∧aj A w σ o e.2 m.val
structure aU (A:bG) (w:World) (σ:aV) (o:Store):Prop where
 len:σ.length=o.length
 dist:∀(i j b c d:Nat),σ[i]?=some (some (b,c))→σ[j]?=some (some (b,d))→i=j
 bnd:∀(i b c:Nat),σ[i]?=some (some (b,c))→b<w.heap.size
 obj:∀(i:Nat) (x:aP),o[i]?=some x→bI A w σ o i x
 av:∀(i b c:Nat),σ[i]?=some (some (b,c))→¬A b
 gw:∀b,A b→b<w.heap.size
theorem bI.ext (h:Ext w σ o w' σ' o') {i:Nat} {x:aP} (hx:bI A w σ o i x) (hσ:σ'[i]?=σ[i]?)
  (hb:∀b c,σ[i]?=some (some (b,c))→w'.heap[b]?=w.heap[b]?):bI A w' σ' o' i x:=by
 cases x with
 |dead=>simp only[bI] at hx ⊢;rw[hσ];exact hx
 |cells cs e sz pu=>
  simp only[bI] at hx ⊢
  refine⟨hx.1,hx.2.1,?_⟩
  rcases hx.2.2 with h0|⟨b,cap,arr,h1,h2,h3,h4,h5,h6⟩
  ·exact .inl ⟨by rw[hσ];exact h0.1,h0.2⟩
  ·refine .inr ⟨b,cap,arr,by rw[hσ];exact h1,h2,by rw[hb b cap h1];exact h3,h4,h5,fun j c hj=>?_⟩
   obtain⟨v,hv,hr⟩:=h6 j c hj
   exact⟨v,hv,hr.ext h⟩
 |map es kt pu=>
  simp only[bI] at hx ⊢
  obtain⟨h0,h00,b,c,en,cl,h1,h2,h3,h4⟩:=hx
  refine⟨h0,h00,b,c,en,cl,by rw[hσ];exact h1,by rw[hb b c h1];exact h2,h3,fun j e hj=>?_⟩
  obtain⟨m,hm,hk,hr⟩:=h4 j e hj
  exact⟨m,hm,hk,hr.ext h⟩
theorem aU.upd (hS:aU A w σ o) {id:Nat} {x x':aP} {s':Option (Nat×Nat)} (hx:o[id]?=some x)
  (hsz:w.heap.size≤w'.heap.size) (hos:w'.os=w.os) (PU:w'.tape=w.tape) (hout:w'.output=w.output)
  (hblk:∀b,b<w.heap.size→(∀c,σ[id]?≠some (some (b,c)))→w'.heap[b]?=w.heap[b]?)
  (hs:∀b c,s'=some (b,c)→(∃d,σ[id]?=some (some (b,d)))∨(w.heap.size≤b∧b<w'.heap.size))
  (hkind:match x with
   | .dead=>True
   | .cells cs _ sz _=>∃cs' e' dV,x'= .cells cs' e' sz dV∧cs.length≤cs'.length∧(cs'.length=cs.length→σ[id]?=some s')
   | .map _ _ _=>(∃es' qH dV,x'= .map es' qH dV)∧σ[id]?=some s')
  (hok:Ext w σ o w' (σ.set id s') (o.set id x')→bI A w' (σ.set id s') (o.set id x') id x'):
  aU A w' (σ.set id s') (o.set id x')∧Ext w σ o w' (σ.set id s') (o.set id x'):=by
 have hid:id<o.length:=(List.getElem?_eq_some_iff.1 hx).1
 have cn:id<σ.length:=by rw[hS.len];exact hid
 have hne:∀i,i≠id→(σ.set id s')[i]?=σ[i]?:=fun i hi=>by rw[List.getElem?_set_ne (Ne.symm hi)]
 have hne':∀i,i≠id→(o.set id x')[i]?=o[i]?:=fun i hi=>by rw[List.getElem?_set_ne (Ne.symm hi)]
 have hat:(σ.set id s')[id]?=some s':=by rw[List.getElem?_set_self cn]
 have hat':(o.set id x')[id]?=some x':=by rw[List.getElem?_set_self hid]
 have hext:Ext w σ o w' (σ.set id s') (o.set id x'):=by
  refine⟨hsz,fun b hb hn=>⟨hblk b hb fun c hc=>hn ⟨id,c,hc⟩,?_⟩,by simp,fun i tot ha=>?_,fun i ha=>?_,hos,PU,hout⟩
  ·rintro⟨i,c,hi⟩
   by_cases he:i=id
   ·subst he
    rw[hat] at hi
    injection hi with hi
    subst hi
    rcases hs b c rfl with⟨d,hs⟩|hs
    ·exact hn ⟨i,d,hs⟩
    ·omega
   ·rw[hne i he] at hi
    exact hn ⟨i,c,hi⟩
  ·by_cases he:i=id
   ·subst he
    obtain⟨cs,e,sz,pu,h1,h2⟩:=ha
    rw[hx] at h1
    injection h1 with h1
    subst h1
    obtain⟨cs',e',dV,rfl,h3,h4⟩:=hkind
    refine⟨⟨cs',e',sz,dV,hat',by omega⟩,fun sz' hc=>?_⟩
    obtain⟨cs2,e2,pu2,hc1,hc2⟩:=hc
    rw[hat'] at hc1
    injection hc1 with hc1
    injection hc1 with e1 e2 e3 e4
    subst e1 e3
    refine⟨⟨cs,e,pu,hx,by omega⟩,?_⟩
    rw[hat,h4 (by omega)]
   ·refine⟨?_,fun sz hc=>⟨?_,hne i he⟩⟩
    ·obtain⟨cs,e,sz,pu,h1,h2⟩:=ha
     exact⟨cs,e,sz,pu,by rw[hne' i he];exact h1,h2⟩
    ·obtain⟨cs,e,pu,h1,h2⟩:=hc
     exact⟨cs,e,pu,by rw[←hne' i he];exact h1,h2⟩
  ·by_cases he:i=id
   ·subst he
    obtain⟨es,kt,pu,h1⟩:=ha
    rw[hx] at h1
    injection h1 with h1
    subst h1
    obtain⟨⟨es',qH,dV,rfl⟩,h2⟩:=hkind
    exact⟨⟨es',qH,dV,hat'⟩,by rw[hat,h2]⟩
   ·obtain⟨es,kt,pu,h1⟩:=ha
    exact⟨⟨es,kt,pu,by rw[hne' i he];exact h1⟩,hne i he⟩
 refine⟨⟨by simp[hS.len],fun i j b c d hi hj=>?_,fun i b c hi=>?_,fun i y hy=>?_,fun i b c hi=>?_,fun b hb=>Nat.lt_of_lt_of_le (hS.gw b hb) hsz⟩,hext⟩
 ·by_cases he:i=id<;>by_cases hf:j=id
  ·rw[he,hf]
  ·subst he
   rw[hat] at hi
   rw[hne j hf] at hj
   injection hi with hi
   subst hi
   rcases hs b c rfl with⟨d',hs⟩|hs
   ·exact hS.dist i j b d' d hs hj
   ·have:=hS.bnd j b d hj
    omega
  ·subst hf
   rw[hat] at hj
   rw[hne i he] at hi
   injection hj with hj
   subst hj
   rcases hs b d rfl with⟨d',hs⟩|hs
   ·exact hS.dist i j b c d' hi hs
   ·have:=hS.bnd i b c hi
    omega
  ·rw[hne i he] at hi
   rw[hne j hf] at hj
   exact hS.dist i j b c d hi hj
 ·by_cases he:i=id
  ·subst he
   rw[hat] at hi
   injection hi with hi
   subst hi
   rcases hs b c rfl with⟨d,hs⟩|hs
   ·exact Nat.lt_of_lt_of_le (hS.bnd i b d hs) hsz
   ·exact hs.2
  ·rw[hne i he] at hi
   exact Nat.lt_of_lt_of_le (hS.bnd i b c hi) hsz
 ·by_cases he:i=id
  ·subst he
   rw[hat'] at hy
   injection hy with hy
   subst hy
   exact hok hext
  ·rw[hne' i he] at hy
   refine(hS.obj i y hy).ext hext (hne i he) fun b c hb=>?_
   refine hblk b (hS.bnd i b c hb) fun d hd=>he (hS.dist i id b c d hb hd)
 ·by_cases he:i=id
  ·subst he
   rw[hat] at hi
   injection hi with hi
   subst hi
   rcases hs b c rfl with⟨d,hs⟩|hs
   ·exact hS.av i b d hs
   ·intro hA
    have:=hS.gw b hA
    omega
  ·rw[hne i he] at hi
   exact hS.av i b c hi
end
section
variable {P:Program} {A:bG} {w w':World} {σ σ':aV} {o o':Store} {aQ:Operand→AV} {aR:Operand→Value} {oper:Oper} {v:AV}
def Gives (A:bG) (P:Program) (aR:Operand→Value) (oper:Oper) (w:World) (σ:aV) (o:Store) (v:AV) (o':Store):Prop:=
 ∃u w' σ',((execOp aR oper).run P w= .ok (.value u) w'∨((execOp aR oper).run P w= .ok .skip w'∧u=undef))∧aU A w' σ' o'∧aj A w' σ' o' v u∧Ext w σ o w' σ' o'
theorem Gives.same (hS:aU A w σ o) {u:Value} (h:(execOp aR oper).run P w= .ok (.value u) w) (hr:aj A w σ o v u):Gives A P aR oper w σ o v o:=
 ⟨u,w,σ,.inl h,hS,hr,Ext.refl _ _ _⟩
theorem qI {t:TypeId} {b:Bool} (h:cB P t=some b) (w:World):(isAgg t).run P w= .ok b w:=by
 unfold cB at h
 cases hu:P.underlying t with
 |none=>simp[hu] at h
 |some d=>cases d<;>simp[hu] at h<;>subst h<;>simp[isAgg,run_underlying hu]
theorem kU {t:TypeId} {n:Nat} (h:sizeT P t=some n) (w:World):(sizeOf t).run P w= .ok n w:=by
 unfold sizeT at h
 cases hi:P.info? t with
 |none=>simp[hi] at h
 |some i=>simp[hi] at h;simp[sizeOf,typeInfo,hi,h]
theorem Ge {t:TypeId} (h:jH P t=some none):cB P t=some false:=by
 unfold jH at h;split at h<;>simp_all
theorem Gf {t:TypeId} {n:Nat} (h:jH P t=some (some n)):cB P t=some true∧sizeT P t=some n:=by
 unfold jH at h;split at h<;>simp_all
theorem Gg (cs:Array Value) (l:List AV) (off:Nat) (t:TypeId) (n:Option Nat) (hn:jH P t=some n) (hl:aA A w σ o l cs.toList) (hp:dJ l off n=some v):
  ∃u,(part t cs off).run P w= .ok u w∧aj A w σ o v u:=by
 have hlen:=aA.length _ _ hl
 cases n with
 |none=>
  simp only[dJ] at hp
  obtain⟨u,hu,hr⟩:=aA.get _ _ hl off v hp
  exact⟨u,by simp at hu;simp[part,qI (Ge hn),hu],hr⟩
 |some n=>
  obtain⟨h1,h2⟩:=Gf hn
  simp only[dJ] at hp
  split at hp
  ·rename_i hle
   injection hp with hp
   subst hp
   refine⟨.agg (cs.extract off (off+n)),by simp[part,qI h1,kU h2],?_⟩
   simp only[aj]
   refine⟨_,rfl,aA.gv _ _ (by simp at hlen ⊢;omega) fun i c hc=>?_⟩
   rw[List.getElem?_take] at hc
   split at hc
   ·rename_i hi
    rw[List.getElem?_drop] at hc
    obtain⟨u,hu,hr⟩:=aA.get _ _ hl (off+i) c hc
    refine⟨u,?_,hr⟩
    simp at hu ⊢
    rw[List.getElem?_take_of_lt hi,List.getElem?_drop]
    simpa using hu
   ·cases hc
  ·cases hp
theorem aj.Gh (hS:aU A w σ o) {a:AV} {u:Value} {cs:List AV} {off:Nat} (h:aj A w σ o a u) (hb:Go.Vi.behind o a=some (cs,off)):
  ∃p:Addr,u= .pointer (some p)∧∀(j:Nat) (c:AV),cs[off+j]?=some c→∃v,w.cell? (p.add j)=some v∧aj A w σ o c v:=by
 cases a<;>simp only[Go.Vi.behind,reduceCtorEq] at hb
 ·simp only[Option.some.injEq,Prod.mk.injEq] at hb
  obtain⟨rfl,rfl⟩:=hb
  simp only[aj] at h
  obtain⟨b,rfl,_,hm⟩:=h
  refine⟨_,rfl,fun j c hc=>?_⟩
  obtain⟨b',v,hb',_,hcell,hr⟩:=bH.get _ _ _ hm _ c hc
  injection hb' with hb'
  subst hb'
  rw[add_add]
  exact⟨v,by simpa using hcell,hr⟩
 ·rename_i id off' tot
  split at hb
  ·rename_i cs' e sz pu ho
   split at hb
   ·rename_i htot
    simp only[Option.some.injEq,Prod.mk.injEq] at hb
    obtain⟨rfl,rfl⟩:=hb
    simp only[aj] at h
    obtain⟨b,c,hσ,rfl⟩:=h.2.2 sz ⟨cs',e,pu,ho,htot⟩
    refine⟨_,rfl,fun j d hd=>?_⟩
    have hx:=hS.obj id _ ho
    simp only[bI] at hx
    rcases hx.2.2 with⟨h0,_⟩|⟨b',cap,arr,h1,h2,h3,h4,h5,h6⟩
    ·rw[hσ] at h0;cases h0
    ·rw[hσ] at h1
     simp only[Option.some.injEq,Prod.mk.injEq] at h1
     obtain⟨rfl,rfl⟩:=h1
     obtain⟨v,hv,hr⟩:=h6 _ d hd
     refine⟨v,?_,hr⟩
     have:(⟨b,off',none⟩:Addr).add j=⟨b,off'+j,none⟩:=by unfold Addr.add;split<;>simp_all
     rw[this]
     simp[World.cell?,h3,hv]
   ·cases hb
  ·cases hb
theorem Gi {a:AV} {p:Addr} {cs:List AV} {off:Nat} {t:TypeId} {n:Option Nat} (hn:jH P t=some n)
  (hc:∀(j:Nat) (c:AV),cs[off+j]?=some c→∃v,w.cell? (p.add j)=some v∧aj A w σ o c v) (hp:dJ cs off n=some a):
  ∃u,(loadVar t p).run P w= .ok u w∧aj A w σ o a u:=by
 cases n with
 |none=>
  simp only[dJ] at hp
  obtain⟨u,hu,hr⟩:=hc 0 a (by simpa using hp)
  have h0:p.add 0=p:=by simp[Addr.add]
  rw[h0] at hu
  exact⟨u,by simp[loadVar,qI (Ge hn),load,Sem.run,hu],hr⟩
 |some n=>
  obtain⟨h1,h2⟩:=Gf hn
  simp only[dJ] at hp
  split at hp
  ·rename_i hle
   injection hp with hp
   subst hp
   have hall:∀j,j<n→∃v,w.cell? (p.add j)=some v∧aj A w σ o (cs.getD (off+j) .ud) v:=by
    intro j hj
    have hlt:off+j<cs.length:=by omega
    obtain⟨v,hv,hr⟩:=hc j _ (List.getElem?_eq_getElem hlt)
    exact⟨v,hv,by simpa[List.getD,List.getElem?_eq_getElem hlt] using hr⟩
   let f:Nat→Value:=fun j=>(w.cell? (p.add j)).getD undef
   have hf:∀j,j<n→w.cell? (p.add j)=some (f j):=fun j hj=>by
    obtain⟨v,hv,_⟩:=hall j hj
    simp[f,hv]
   refine⟨.agg ((List.range n).map f).toArray,by simp[loadVar,qI h1,kU h2,run_loadCells w p n f hf],?_⟩
   simp only[aj]
   refine⟨_,rfl,aA.gv _ _ (by simp;omega) fun i c hc'=>?_⟩
   rw[List.getElem?_take] at hc'
   split at hc'
   ·rename_i hi
    rw[List.getElem?_drop] at hc'
    obtain⟨v,hv,hr⟩:=hc i c hc'
    exact⟨v,by simp[hi,f,hv],hr⟩
   ·cases hc'
  ·cases hp
theorem PV (hS:aU A w σ o) (hρ:∀x,aj A w σ o (aQ x) (aR x)) {t:TypeId} {n:Option Nat} {x:Operand} (hop:oper.op= .load t x) (hn:jH P t=some n)
  {cs:List AV} {off:Nat} (hb:behind o (aQ x)=some (cs,off)) (hp:dJ cs off n=some v):Gives A P aR oper w σ o v o:=by
 obtain⟨p,hp1,hc⟩:=(hρ x).Gh hS hb
 obtain⟨u,hu,hr⟩:=Gi hn hc hp
 exact Gives.same hS (by simp[execOp,hop,Instr.loadAt,Instr.sureAddr,hp1,hu]) hr
theorem sU:∀(vs cs:List AV) (off:Nat),(dE cs off vs).length=cs.length
 |[],_,_=>rfl
 |v::vs,cs,off=>by simp[dE,sU vs]
theorem xI:∀(vs cs:List AV) (off:Nat),off+vs.length≤cs.length→∀j,(dE cs off vs)[j]?=if off≤j∧j<off+vs.length then vs[j - off]? else cs[j]?
 |[],cs,off,_,j=>by simp[dE];omega
 |v::vs,cs,off,hl,j=>by
  simp only[dE,List.length_cons] at hl ⊢
  rw[xI vs (cs.set off v) (off+1) (by simp;omega) j]
  by_cases h1:off+1≤j∧j<off+1+vs.length
  ·rw[if_pos h1,if_pos (by omega),show j - off=(j - (off+1))+1 from by omega,List.getElem?_cons_succ]
  ·rw[if_neg h1]
   by_cases h2:off=j
   ·subst h2
    rw[if_pos (by omega),List.getElem?_set_self (by omega)]
    simp
   ·rw[List.getElem?_set_ne h2,if_neg (by omega)]
theorem jK {cs:List AV} (h:bJ cs=true):∀c∈cs,c.pure=true:=by
 induction cs with
 |nil=>simp
 |cons c cs ih=>
  simp only[bJ,Bool.and_eq_true] at h
  intro d hd
  rcases List.mem_cons.1 hd with rfl|hd
  ·exact h.1
  ·exact ih h.2 d hd
theorem nk {cs:List AV} (h:∀c∈cs,c.pure=true):bJ cs=true:=by
 induction cs with
 |nil=>rfl
 |cons c cs ih=>simp only[bJ,Bool.and_eq_true];exact⟨h c (by simp),ih fun d hd=>h d (by simp[hd])⟩
theorem AI {vs cs:List AV} {off:Nat} (hl:off+vs.length≤cs.length):∀c∈dE cs off vs,c∈cs∨c∈vs:=by
 intro c hc
 obtain⟨j,hj⟩:=List.getElem?_of_mem hc
 rw[xI vs cs off hl j] at hj
 split at hj
 ·exact .inr (List.mem_of_getElem? hj)
 ·exact .inl (List.mem_of_getElem? hj)
theorem PW (arr:List Value) (vs:List Value) (off:Nat) (hl:off+vs.length≤arr.length) (j:Nat):
  (arr.take off++vs++arr.drop (off+vs.length))[j]?=if off≤j∧j<off+vs.length then vs[j - off]? else arr[j]?:=by
 rw[List.append_assoc,List.getElem?_append]
 have h0:(arr.take off).length=off:=by simp;omega
 rw[h0]
 by_cases h1:j<off
 ·rw[if_pos h1,if_neg (by omega),List.getElem?_take_of_lt h1]
 ·rw[if_neg h1,List.getElem?_append]
  by_cases h2:j<off+vs.length
  ·rw[if_pos (by omega),if_pos (by omega)]
  ·rw[if_neg (by omega),if_neg (by omega),List.getElem?_drop,show off+vs.length+(j - off - vs.length)=j from by omega]
theorem gx {cs:List AV}:cz cs=true↔∀c∈cs,c.one=true:=by simp[cz]
theorem PX (hS:aU A w σ o) (hρ:∀x,aj A w σ o (aQ x) (aR x)) {t:TypeId} {n:Nat} {x y:Operand} (hop:oper.op= .store t x y) (hn:sizeT P t=some n)
  {id off tot:Nat} (ha:aQ x= .ptr id off tot) {cs:List AV} {e:TypeId} {sz:Nat} {pu:Bool} (ho:o[id]?=some (.cells cs e sz pu)) (htot:cs.length=tot)
  (hlen:(aQ y).cellsOf.length=n) (h1:cz (aQ y).cellsOf=true) (hle:off+n≤cs.length) (cJ:pu=false∨bJ (aQ y).cellsOf=true):
  Gives A P aR oper w σ o .ud (o.set id (.cells (dE cs off (cp pu (aQ y).cellsOf)) e sz pu)):=by
 have hx:=hρ x
 rw[ha] at hx
 simp only[aj] at hx
 obtain⟨b,c,hσ,hp⟩:=hx.2.2 sz ⟨cs,e,pu,ho,htot⟩
 obtain⟨hl0,hone⟩:=(hρ y).cells h1
 have hl:=hl0.cp pu
 replace hlen:(cp pu (aQ y).cellsOf).length=n:=by rw[mr];exact hlen
 replace h1:cz (cp pu (aQ y).cellsOf)=true:=AG h1
 replace cJ:pu=false∨bJ (cp pu (aQ y).cellsOf)=true:=cJ.imp (fun h=>h) xH
 generalize cp pu (aQ y).cellsOf=vs at*
 have hlen':(aR y).cells.toList.length=n:=by rw[←hlen];exact(aA.length _ _ hl).symm
 have cQ:=hS.obj id _ ho
 simp only[bI] at cQ
 obtain⟨q1,q2,q3⟩:=cQ
 rcases q3 with⟨h0,_⟩|⟨b',cap,arr,k1,k2,k3,k4,k5,k6⟩
 ·rw[hσ] at h0;cases h0
 rw[hσ] at k1
 simp only[Option.some.injEq,Prod.mk.injEq] at k1
 obtain⟨rfl,rfl⟩:=k1
 have hrun:=run_storeCells_at (P:=P) b off e (aR y).cells.toList 0 arr w k3 (by simp at hlen' ⊢;omega) hone
 simp only[Nat.add_zero] at hrun
 generalize hnew:(arr.toList.take off++(aR y).cells.toList++arr.toList.drop (off+(aR y).cells.toList.length)).toArray=new at hrun
 have my:(execOp aR oper).run P w= .ok .skip (w.setRow b new):=by
  simp only[execOp,hop,Instr.storeAt,Instr.sureAddr,hp,storeVar]
  simp only[Sem.run_bind,Sem.run_pure,Result.andThen_ok,kU hn]
  rw[if_neg (by simp at hlen' ⊢;omega)]
  simp[hrun]
 have hblt:b<w.heap.size:=hS.bnd id b c hσ
 have hsame:∀k,k≠b→(w.setRow b new).heap[k]?=w.heap[k]?:=by
  intro k hk
  simp[World.setRow,Array.getElem?_modify,Ne.symm hk]
 have hat:(w.setRow b new).heap[b]?=some (.cells new e (0,0)):=by
  simp[World.setRow,Array.getElem?_modify,k3]
 have Gj:new.size=arr.size:=by rw[←hnew];simp at hlen' ⊢;omega
 have cn:id<σ.length:=(List.getElem?_eq_some_iff.1 hσ).1
 have hset:σ.set id (some (b,c))=σ:=by
  apply List.ext_getElem?
  intro i
  by_cases hi:id=i
  ·subst hi;rw[List.getElem?_set_self cn,hσ]
  ·rw[List.getElem?_set_ne hi]
 obtain⟨hS',hE⟩:=aU.upd (w':=w.setRow b new) (s':=some (b,c)) (x':=.cells (dE cs off vs) e sz pu) hS ho (by simp[World.setRow]) rfl rfl rfl
  (fun k _ hk=>hsame k (fun he=>hk c (he▸hσ))) (fun b2 c2 h2=> .inl ⟨c,by injection h2 with h2;injection h2 with h3 h4;rw[hσ,h3]⟩) ⟨_,_,_,rfl,by rw[sU];exact Nat.le_refl _,fun _=>hσ⟩ (fun hE=>by
   simp only[bI]
   refine⟨fun hpt=>?_,?_,.inr ⟨b,c,new,by rw[List.getElem?_set_self cn],k2,hat,by rw[Gj];exact k4,by rw[sU,Gj];exact k5,fun j d hd=>?_⟩⟩
   ·refine nk fun d hd=>?_
    rcases AI (by rw[hlen];exact hle) d hd with hd|hd
    ·exact jK (q1 hpt) d hd
    ·exact jK (cJ.resolve_left (by simp[hpt])) d hd
   ·refine gx.2 fun d hd=>?_
    rcases AI (by rw[hlen];exact hle) d hd with hd|hd
    ·exact gx.1 q2 d hd
    ·exact gx.1 h1 d hd
   ·rw[xI _ _ _ (by rw[hlen];exact hle)] at hd
    rw[hlen] at hd
    have hsp:=PW arr.toList (aR y).cells.toList off (by simp at hlen' ⊢;omega) j
    have xJ:new[j]?=if off≤j∧j<off+n then(aR y).cells.toList[j - off]? else arr[j]?:=by
     rw[←hnew]
     rw[hlen'] at hsp
     simpa[hlen'] using hsp
    by_cases hj:off≤j∧j<off+n
    ·rw[if_pos hj] at hd xJ
     obtain⟨u,hu,hr⟩:=aA.get _ _ hl _ d hd
     exact⟨u,by rw[xJ];exact hu,hr.ext hE⟩
    ·rw[if_neg hj] at hd xJ
     obtain⟨u,hu,hr⟩:=k6 j d hd
     exact⟨u,by rw[xJ];exact hu,hr.ext hE⟩)
 rw[hset] at hS' hE
 exact⟨undef,_,σ,.inr ⟨my,rfl⟩,hS',by simp[aj],hE⟩
end
section
variable {P:Program} {A:bG} {w w':World} {σ σ':aV} {o o':Store} {aQ:Operand→AV} {aR:Operand→Value} {oper:Oper} {v:AV}
theorem o7 {am:Nat} {x:aP} (h:fU am x o=some o'):o[am]?=some .dead∧o'=o.set am x:=by
 unfold fU at h
 split at h
 ·rename_i hd;injection h with h;exact⟨hd,h.symm⟩
 ·cases h
theorem aU.xK (hS:aU A w σ o) {am:Nat} (hd:o[am]?=some .dead) {cs:List AV} {arr:Array Value} {e:TypeId} {sz cap:Nat} {pu:Bool} (hcap:arr.size=cap*sz) (hm:cap≤maxLen)
  (hle:cs.length≤arr.size) (h1:cz cs=true) (hp:pu=true→bJ cs=true) (hrep:∀(j:Nat) (c:AV),cs[j]?=some c→∃v,arr[j]?=some v∧aj A w σ o c v):
  aU A (w.alloc (.cells arr e)) (σ.set am (some (w.heap.size,cap))) (o.set am (.cells cs e sz pu))∧Ext w σ o (w.alloc (.cells arr e)) (σ.set am (some (w.heap.size,cap))) (o.set am (.cells cs e sz pu)):=by
 have hid:am<o.length:=(List.getElem?_eq_some_iff.1 hd).1
 have cn:am<σ.length:=by rw[hS.len];exact hid
 refine aU.upd (x:=.dead) hS hd (by simp) rfl rfl rfl (fun b hb _=>heap_alloc_old w _ b hb) (fun b c h=> .inr ?_) trivial fun hE=>?_
 ·simp only[Option.some.injEq,Prod.mk.injEq] at h
  obtain⟨rfl,_⟩:=h
  exact⟨Nat.le_refl _,by simp⟩
 ·simp only[bI]
  refine⟨hp,h1,.inr ⟨w.heap.size,cap,arr,by rw[List.getElem?_set_self cn],hm,heap_alloc_new w _,hcap,hle,fun j c hj=>?_⟩⟩
  obtain⟨u,hu,hr⟩:=hrep j c hj
  exact⟨u,hu,hr.ext hE⟩
theorem Gk:1≤maxLen:=by simp[maxLen]
theorem qJ (A:bG) (w:World) (σ:aV) (o:Store):∀(z:List Value),(∀u∈z,u.oneCell'=true)→aA A w σ o (z.map .sc) z
 |[],_=>by simp[aA]
 |v::z,h=>by
  simp only[List.map_cons,aA]
  exact⟨v,z,rfl,by simp[aj,h v],qJ A w σ o z fun u hu=>h u (by simp[hu])⟩
theorem AK {z:List Value} (h:∀u∈z,u.oneCell'=true):cz (z.map AV.sc)=true:=by
 refine gx.2 fun c hc=>?_
 obtain⟨u,hu,rfl⟩:=List.mem_map.1 hc
 exact h u hu
theorem Gl (z:List Value):bJ (z.map AV.sc)=true:=by
 refine nk fun c hc=>?_
 obtain⟨u,_,rfl⟩:=List.mem_map.1 hc
 rfl
theorem o8 {t:TypeId} {z:List Value} (h:gY P t=some z):∃(i:TypeInfo) (zv:Value),P.info? t=some i∧i.zero=some zv∧zv.cells.toList=z∧i.size=z.length∧∀u∈z,u.oneCell'=true:=by
 unfold gY at h
 cases hi:P.info? t with
 |none=>simp[hi] at h
 |some i=>
  cases hz:i.zero with
  |none=>simp[hi,hz,sizeT] at h
  |some zv=>
   simp only[hi,hz,sizeT,Option.bind_some,Option.map_some] at h
   split at h
   ·rename_i hc
    simp only[Bool.and_eq_true,List.all_eq_true,beq_iff_eq] at hc
    injection h with h
    exact⟨i,zv,rfl,hz,h,by rw[←h,←hc.2];simp,by rw[←h];exact hc.1⟩
   ·cases h
theorem PY (hS:aU A w σ o) {t:TypeId} {z:List Value} {pu:Bool} {am:Nat} (hop:oper.op= .alloc t) (hz:gY P t=some z)
  (hd:o[am]?=some .dead):Gives A P aR oper w σ o (.ptr am 0 z.length) (o.set am (.cells (z.map .sc) t z.length pu)):=by
 obtain⟨i,zv,hi,hzv,hcells,hsize,hone⟩:=o8 hz
 have hid:am<o.length:=(List.getElem?_eq_some_iff.1 hd).1
 have cn:am<σ.length:=by rw[hS.len];exact hid
 have hsz:zv.cells.size=z.length:=by rw[←hcells];simp
 obtain⟨hS',hE⟩:=hS.xK (w:=w) (arr:=zv.cells) (e:=t) (sz:=z.length) (cap:=1) (pu:=pu) (cs:=z.map .sc) hd (by omega) Gk (by simp[hsz]) (AK hone) (fun _=>Gl z)
  (fun j c hj=>by
   obtain⟨u,hu,hr⟩:=aA.get _ _ (qJ A w σ o z hone) j c hj
   exact⟨u,by rw[←hcells] at hu;simpa using hu,hr⟩)
 refine⟨.pointer (some ⟨w.heap.size,0,none⟩),_,_,.inl ?_,hS',?_,hE⟩
 ·simp[execOp,hop,Instr.alloc,zeroValue,typeInfo,hi,hzv,newVar,newRow,newObj,Sem.run]
 ·simp only[aj]
  refine⟨⟨_,_,_,_,by rw[List.getElem?_set_self hid],by simp⟩,⟨_,rfl⟩,fun sz hc=>⟨w.heap.size,1,by rw[List.getElem?_set_self cn],rfl⟩⟩
theorem PZ (hS:aU A w σ o) (hρ:∀x,aj A w σ o (aQ x) (aR x)) {e:TypeId} {x:Operand} {am:Nat} (hop:oper.op= .box e x) (h1:cz (aQ x).cellsOf=true)
  (hd:o[am]?=some .dead):Gives A P aR oper w σ o (.ptr am 0 (aQ x).cellsOf.length) (o.set am (.cells (aQ x).cellsOf e (aQ x).cellsOf.length false)):=by
 have hid:am<o.length:=(List.getElem?_eq_some_iff.1 hd).1
 have cn:am<σ.length:=by rw[hS.len];exact hid
 obtain⟨hl,_⟩:=(hρ x).cells h1
 have hlen:=aA.length _ _ hl
 obtain⟨hS',hE⟩:=hS.xK (w:=w) (arr:=(aR x).cells) (e:=e) (sz:=(aQ x).cellsOf.length) (cap:=1) (pu:=false) (cs:=(aQ x).cellsOf) hd (by simp at hlen;omega) Gk (by simp at hlen;omega) h1 (by simp)
  (fun j c hj=>by
   obtain⟨u,hu,hr⟩:=aA.get _ _ hl j c hj
   exact⟨u,by simpa using hu,hr⟩)
 refine⟨.pointer (some ⟨w.heap.size,0,none⟩),_,_,.inl ?_,hS',?_,hE⟩
 ·simp[execOp,hop,Instr.box,newVar,newRow,newObj,Sem.run]
 ·simp only[aj]
  refine⟨⟨_,_,_,_,by rw[List.getElem?_set_self hid],by simp⟩,⟨_,rfl⟩,fun sz hc=>⟨w.heap.size,1,by rw[List.getElem?_set_self cn],rfl⟩⟩
theorem Gm (hS:aU A w σ o) (hρ:∀x,aj A w σ o (aQ x) (aR x)) {x:Operand} (hop:oper.op= .move x∨oper.op= .assign x):Gives A P aR oper w σ o (aQ x) o:=
 Gives.same hS (u:=aR x) (by rcases hop with h|h<;>simp[execOp,h]) (hρ x)
theorem dM {u:Value} {v:Value} (h:aj A w σ o (.sc u) v):v=u:=by simp only[aj] at h;exact h.1
theorem Gn (hS:aU A w σ o) (hρ:∀x,aj A w σ o (aQ x) (aR x)) {c a b:Operand} (hop:oper.op= .pick c a b) {t:Bool} (hc:aQ c= .sc (.bool t)):Gives A P aR oper w σ o (aQ (if t then a else b)) o:=by
 have h1:=hρ c
 rw[hc] at h1
 have h2:=dM h1
 refine Gives.same hS (u:=aR (if t then a else b)) ?_ (hρ _)
 cases t<;>simp[execOp,hop,h2,asBool]
theorem Gp (hS:aU A w σ o) (hρ:∀x,aj A w σ o (aQ x) (aR x)) {x:Operand} (hop:oper.op= .nilCheck x) {p:Addr} (hp:aR x= .pointer (some p)):Gives A P aR oper w σ o (aQ x) o:=by
 refine Gives.same hS (u:=aR x) ?_ (hρ x)
 simp[execOp,hop,hp]
theorem nl (k:IntKind) (n:Int):cO k n=k.wrap n:=by
 cases k<;>simp only[cO]
 all_goals
  split
  ·rename_i h
   simp only[Bool.and_eq_true,decide_eq_true_eq] at h
   simp only[IntKind.wrap,IntKind.bits,IntKind.signed]
   simp
   omega
  ·rfl
theorem AL (n:Nat):vh n=2^n:=by
 simp[vh]
theorem P0 {op:BinOp} {t:TypeId} {x y:Operand} {a b r:Value} (h:dO op a b=some r):
  (do eqGuard op t x y a b;binOp op t a b:Sem Value).run P w= .ok r w:=by
 unfold dO at h
 simp only[gr,nl,AL] at h
 split at h
 ·rename_i k n k' m
  split at h
  ·split at h
   ·cases h
   ·injection h with h;subst h
    rename_i hm
    simp[eqGuard,binOp,Op.shift,hm]
  ·split at h
   ·cases h
   ·injection h with h;subst h
    rename_i hm
    simp[eqGuard,binOp,Op.shift,hm]
  ·split at h
   ·rename_i hk
    subst hk
    cases op<;>simp only[reduceCtorEq] at h<;>first
     |(injection h with h;subst h;simp[eqGuard,binOp,Op.intArith,Op.intBits,Op.intCmp];done)
     |(split at h
       ·cases h
       ·rename_i hm;injection h with h;subst h;simp[eqGuard,binOp,Op.intDiv,hm])
   ·cases h
 ·rename_i c d
  cases op<;>simp only[reduceCtorEq] at h
  all_goals first
   |(injection h with h;subst h;simp[eqGuard,binOp,Op.stringOp];done)
   |(split at h
     ·rename_i hle
      injection h with h;subst h
      simp[eqGuard,binOp,Op.stringOp]
      omega
     ·cases h)
 ·cases h
theorem P3 {op:BinOp} {a b r:Value} (h:dO op a b=some r):r.oneCell'=true:=by
 unfold dO at h
 split at h
 ·split at h
  ·split at h
   ·cases h
   ·injection h with h;subst h;rfl
  ·split at h
   ·cases h
   ·injection h with h;subst h;rfl
  ·split at h
   ·unfold gr at h
    cases op<;>simp only[reduceCtorEq] at h<;>first
     |(injection h with h;subst h;rfl)
     |(split at h
       ·cases h
       ·injection h with h;subst h;rfl)
   ·cases h
 ·cases op<;>simp only[reduceCtorEq] at h
  all_goals first
   |(injection h with h;subst h;rfl)
   |(split at h
     ·injection h with h;subst h;rfl
     ·cases h)
 ·cases h
theorem P4 (hS:aU A w σ o) (hρ:∀x,aj A w σ o (aQ x) (aR x)) {op:BinOp} {t t':TypeId} {x y:Operand} (hop:oper.op= .binOp op t x y t') {a b r:Value} (ha:aQ x= .sc a) (hb:aQ y= .sc b)
  (h:dO op a b=some r):Gives A P aR oper w σ o (.sc r) o:=by
 have h1:=hρ x
 have h2:=hρ y
 rw[ha] at h1
 rw[hb] at h2
 refine Gives.same hS (u:=r) ?_ (by simp[aj,P3 h])
 simp only[execOp,hop,dM h1,dM h2]
 have:=P0 (P:=P) (w:=w) (t:=t) (x:=x) (y:=y) h
 simp only[Sem.run_bind] at this ⊢
 rw[this]
 rfl
theorem P5 (hS:aU A w σ o) (hρ:∀x,aj A w σ o (aQ x) (aR x)) {op:BinOp} {neg:Bool} {t t':TypeId} {x y:Operand} (hop:oper.op= .binOp op t x y t') (hn:(op= .eql∧neg=false)∨(op= .neq∧neg=true))
  (hu:P.underlying t=some .bool) {a b:Bool} (ha:aQ x= .sc (.bool a)) (hb:aQ y= .sc (.bool b)):Gives A P aR oper w σ o (.sc (.bool (if neg then !(a==b) else a==b))) o:=by
 have h1:=hρ x
 have h2:=hρ y
 rw[ha] at h1
 rw[hb] at h2
 refine Gives.same hS (u:=.bool (if neg then !(a==b) else a==b)) ?_ (by simp[aj,Value.oneCell'])
 simp only[execOp,hop,dM h1,dM h2]
 rcases hn with⟨rfl,rfl⟩|⟨rfl,rfl⟩<;>simp[eqGuard,binOp,Go.run_equal_bool w t _ _ hu]
theorem P6 (hS:aU A w σ o) (hρ:∀x,aj A w σ o (aQ x) (aR x)) {op:UnOp} {t:TypeId} {x:Operand} (hop:oper.op= .unOp op t x) (h:ni op (aQ x)=some v):Gives A P aR oper w σ o v o:=by
 have h1:=hρ x
 unfold ni at h
 split at h
 ·rename_i b hx
  rw[hx] at h1
  have:=dM h1
  split at h
  ·injection h with h;subst h
   refine Gives.same hS (u:=.bool !b) ?_ (by simp[aj,Value.oneCell'])
   simp[execOp,hop,this,Op.unary]
  ·cases h
 ·rename_i k n hx
  rw[hx] at h1
  have:=dM h1
  split at h
  ·injection h with h;subst h
   rw[nl]
   refine Gives.same hS (u:=.int k (k.wrap (0 - n))) ?_ (by simp[aj,Value.oneCell'])
   simp[execOp,hop,this,Op.unary,Op.intArith]
  ·cases h
 ·cases h
theorem P7 (hS:aU A w σ o) (hρ:∀x,aj A w σ o (aQ x) (aR x)) {s d:TypeId} {ds:TypeDesc} {k k':IntKind} {n:Int} {x:Operand} (hop:oper.op= .convert s d x) (hs:P.underlying s=some ds) (hd:P.underlying d=some (.int k))
  (hx:aQ x= .sc (.int k' n)):Gives A P aR oper w σ o (.sc (.int k (cO k n))) o:=by
 rw[nl]
 have h1:=hρ x
 rw[hx] at h1
 have:=dM h1
 refine Gives.same hS (u:=.int k (k.wrap n)) ?_ (by simp[aj,Value.oneCell'])
 simp only[execOp,hop,this,convert]
 simp only[Sem.run_bind,run_underlying hs,run_underlying hd,Result.andThen_ok]
 cases ds<;>simp[Conv.intToInt]
theorem Gq {a b:AV} {d:Nat} {u:Value} (h:aj A w σ o a u) (ha:iL d a=some b):∃p:Addr,u= .pointer (some p)∧aj A w σ o b (.pointer (some (p.add d))):=by
 unfold iL at ha
 split at ha
 ·rename_i id off tot
  injection ha with ha;subst ha
  simp only[aj] at h ⊢
  obtain⟨h1,⟨p,rfl⟩,h3⟩:=h
  refine⟨p,rfl,h1,⟨_,rfl⟩,fun sz hc=>?_⟩
  obtain⟨b,c,hσ,hp⟩:=h3 sz hc
  injection hp with hp
  injection hp with hp
  subst hp
  refine⟨b,c,hσ,?_⟩
  unfold Addr.add
  split<;>simp_all
 ·rename_i cs off
  injection ha with ha;subst ha
  simp only[aj] at h ⊢
  obtain⟨p,rfl,h1,h2⟩:=h
  exact⟨p.add off,rfl,p,by rw[add_add],h1,h2⟩
 ·cases ha
end
section
variable {P:Program} {A:bG} {w w':World} {σ σ':aV} {o o':Store} {aQ:Operand→AV} {aR:Operand→Value} {oper:Oper} {v:AV}
theorem P8 (hS:aU A w σ o) (hρ:∀x,aj A w σ o (aQ x) (aR x)) {s f n:Nat} {fs:Array Field} {g:Field} {x:Operand} (hop:oper.op= .fieldAddr s x f) (hs:P.underlying s=some (.struct fs)) (hg:fs[f]?=some g)
  (hn:sizeT P g.type=some n) (hn0:n≠0) (h:iL g.offset (aQ x)=some v):Gives A P aR oper w σ o v o:=by
 obtain⟨p,hp,hr⟩:=Gq (hρ x) h
 refine Gives.same hS ?_ hr
 simp[execOp,hop,Instr.fieldAt,run_underlying hs,hg,hp,Instr.sureAddr,fieldPlace,kU hn,hn0]
theorem P9 (hS:aU A w σ o) (hρ:∀x,aj A w σ o (aQ x) (aR x)) {s f:Nat} {fs:Array Field} {g:Field} {x:Operand} {n:Option Nat} (hop:oper.op= .field s x f) (hs:P.underlying s=some (.struct fs)) (hg:fs[f]?=some g)
  (hn:jH P g.type=some n) {cs:List AV} (hx:aQ x= .agg cs) (h:dJ cs g.offset n=some v):Gives A P aR oper w σ o v o:=by
 have h1:=hρ x
 rw[hx] at h1
 simp only[aj] at h1
 obtain⟨vs,hv,hl⟩:=h1
 obtain⟨u,hu,hr⟩:=Gg (P:=P) vs cs g.offset g.type n hn hl h
 refine Gives.same hS (u:=u) ?_ hr
 simp[execOp,hop,Instr.field,run_underlying hs,hg,hv,asAgg,hu]
theorem qK {a:AV} {n:Int} {u:Value} (h:aj A w σ o a u) (ha:dU a=some n):∃k,u= .int k n:=by
 unfold dU at ha
 split at ha
 ·rename_i k m
  injection ha with ha
  subst ha
  exact⟨k,dM h⟩
 ·cases ha
theorem Qa (hS:aU A w σ o) (hρ:∀x,aj A w σ o (aQ x) (aR x)) {t len e sz:Nat} {x i:Operand} {n:Int} (hop:oper.op= .indexAddr t x i) (ht:P.underlying t=some (.array len e)) (hsz:sizeT P e=some sz)
  (hi:dU (aQ i)=some n) (h0:0≤n) (h1:n<len) (h:iL (n.toNat*sz) (aQ x)=some v):Gives A P aR oper w σ o v o:=by
 obtain⟨p,hp,hr⟩:=Gq (hρ x) h
 obtain⟨k,hk⟩:=qK (hρ i) hi
 refine Gives.same hS ?_ hr
 simp only[execOp,hop,Instr.indexAt,hk,hp]
 simp only[Sem.run_bind,asIntOf,Sem.run_pure,Result.andThen_ok,run_underlying ht,Instr.sureAddr]
 rw[if_pos ⟨h0,h1⟩]
 simp[kU hsz]
theorem Qb (hS:aU A w σ o) (hρ:∀x,aj A w σ o (aQ x) (aR x)) {t e sz:Nat} {x i:Operand} {n:Int} (hop:oper.op= .indexAddr t x i) (ht:P.underlying t=some (.slice e)) (hsz:sizeT P e=some sz) (hsz0:sz≠0)
  (hi:dU (aQ i)=some n) (h:kM o sz (aQ x) n=some v):Gives A P aR oper w σ o v o:=by
 obtain⟨k,hk⟩:=qK (hρ i) hi
 have hx:=hρ x
 have main:∀(a:Option Addr) (len cap:Nat) (p:Addr),aR x= .slice a len cap→a=some p→0≤n→n<len→aj A w σ o v (.pointer (some (p.add (n.toNat*sz))))→Gives A P aR oper w σ o v o:=by
  intro a len cap p hxv ha h0 h1 hr
  refine Gives.same hS ?_ hr
  simp only[execOp,hop,Instr.indexAt,hk,hxv,ha]
  simp only[Sem.run_bind,asIntOf,Sem.run_pure,Result.andThen_ok,run_underlying ht]
  rw[if_pos ⟨h0,h1⟩]
  simp[kU hsz]
 unfold kM at h
 split at h
 ·rename_i m cs hxa
  rw[hxa] at hx
  simp only[aj] at hx
  obtain⟨a,cap,hxv,hn,hp,hm⟩:=hx
  split at h
  ·rename_i hc
   injection h with h;subst h
   obtain⟨h0,h1,hlen⟩:=hc
   have hne:n.toNat*sz<cs.length:=by
    rw[hlen]
    have:n.toNat<m:=by omega
    exact(Nat.mul_lt_mul_right (by omega)).2 this
   obtain⟨b,u,hb,_⟩:=bH.get _ _ _ hm _ _ (List.getElem?_eq_getElem hne)
   refine main a m cap b hxv hb h0 h1 ?_
   simp only[aj]
   subst hb
   exact⟨b,rfl,hp,hm⟩
  ·cases h
 ·rename_i id off len tot hxa
  rw[hxa] at hx
  simp only[aj] at hx
  obtain⟨hle,a,cap,hxv,hlc,hcur⟩:=hx
  split at h
  ·rename_i cs e' sz' pu ho
   split at h
   ·rename_i hc
    obtain⟨htot,rfl,h0,h1,hrange⟩:=hc
    injection h with h;subst h
    have hk':=hcur sz' ⟨cs,e',pu,ho,htot⟩
    have hcl:o6 o id sz' tot:=⟨cs,e',pu,ho,htot⟩
    unfold iO at hk'
    split at hk'
    ·omega
    ·rename_i b c hσ
     have ha:=hk'.1 (by omega)
     refine main a len cap _ hxv ha h0 h1 ?_
     simp only[aj]
     refine⟨hle,⟨_,rfl⟩,fun sz hc=>⟨b,c,hσ,?_⟩⟩
     have:(⟨b,kL off tot sz',none⟩:Addr).add (n.toNat*sz')=⟨b,kL off tot sz'+n.toNat*sz',none⟩:=by unfold Addr.add;split<;>simp_all
     rw[this]
    ·exact hk'.elim
   ·cases h
  ·cases h
 ·cases h
theorem Qc (hS:aU A w σ o) (hρ:∀x,aj A w σ o (aQ x) (aR x)) {t len e sz:Nat} {x i:Operand} {n:Int} {m:Option Nat} (hop:oper.op= .index t x i) (ht:P.underlying t=some (.array len e)) (hsz:sizeT P e=some sz)
  (hm:jH P e=some m) (hi:dU (aQ i)=some n) (h0:0≤n) (h1:n<len) {cs:List AV} (hx:aQ x= .agg cs) (h:dJ cs (n.toNat*sz) m=some v):Gives A P aR oper w σ o v o:=by
 obtain⟨k,hk⟩:=qK (hρ i) hi
 have hx':=hρ x
 rw[hx] at hx'
 simp only[aj] at hx'
 obtain⟨vs,hv,hl⟩:=hx'
 obtain⟨u,hu,hr⟩:=Gg (P:=P) vs cs _ e m hm hl h
 refine Gives.same hS (u:=u) ?_ hr
 simp only[execOp,hop,Instr.index,hk,hv]
 simp only[Sem.run_bind,asIntOf,Sem.run_pure,Result.andThen_ok,run_underlying ht]
 rw[if_pos ⟨h0,h1⟩]
 simp[kU hsz,hu]
theorem Qd (hS:aU A w σ o) (hρ:∀x,aj A w σ o (aQ x) (aR x)) {t:Nat} {x i:Operand} {n:Int} {s:ByteArray} {b:UInt8} (hop:oper.op= .index t x i) (ht:P.underlying t=some .string)
  (hi:dU (aQ i)=some n) (h0:0≤n) (hx:aQ x= .sc (.string s)) (h:s[n.toNat]?=some b):Gives A P aR oper w σ o (.sc (.int .u8 b.toNat)) o:=by
 obtain⟨k,hk⟩:=qK (hρ i) hi
 have hx':=hρ x
 rw[hx] at hx'
 have hv:=dM hx'
 refine Gives.same hS (u:=.int .u8 b.toNat) ?_ (by simp[aj,Value.oneCell'])
 simp only[execOp,hop,Instr.index,hk,hv]
 simp only[Sem.run_bind,asIntOf,Sem.run_pure,Result.andThen_ok,run_underlying ht]
 simp[h0,h]
theorem Qe (hS:aU A w σ o) (hρ:∀x,aj A w σ o (aQ x) (aR x)) {t:TypeId} {x:Operand} {c:Call} {k n:Nat} (hop:oper.op= .call c) (hc:c.callee= .builtin .len) (ha:c.args=#[x]) (hty:c.argTypes=#[t])
  (ht:(k=0∧∃e,P.underlying t=some (.slice e))∨(k=1∧P.underlying t=some .string)∨(k=2∧∃a b,P.underlying t=some (.map a b))) (hn:gV o k (aQ x)=some n):Gives A P aR oper w σ o (.sc (.int .i64 n)) o:=by
 refine Gives.same hS (u:=.int .i64 n) ?_ (by simp[aj,Value.oneCell'])
 simp only[execOp,hop,resolve,hc,ha,hty,invoke,builtin]
 have hx:=hρ x
 rcases ht with⟨rfl,e,ht⟩|⟨rfl,ht⟩|⟨rfl,a,b,ht⟩
 ·have:∃A c,aR x= .slice A n c:=by
   cases hxa:aQ x<;>rw[hxa] at hn hx<;>simp only[gV,reduceCtorEq] at hn
   ·rename_i u
    cases u<;>simp only[reduceCtorEq,Option.some.injEq] at hn
    subst hn
    exact⟨_,_,dM hx⟩
   ·simp only[Option.some.injEq] at hn
    subst hn
    simp only[aj] at hx
    obtain⟨A,cap,hv,_⟩:=hx
    exact⟨A,cap,hv⟩
   ·simp only[Option.some.injEq] at hn
    subst hn
    simp only[aj] at hx
    obtain⟨_,A,cap,hv,_⟩:=hx
    exact⟨A,cap,hv⟩
  obtain⟨A,c',hv⟩:=this
  simp[hv,Builtin.len_,run_underlying ht,goInt]
 ·cases hxa:aQ x<;>rw[hxa] at hn hx<;>simp only[gV,reduceCtorEq] at hn
  rename_i u
  cases u<;>simp only[reduceCtorEq,Option.some.injEq] at hn
  subst hn
  simp[dM hx,Builtin.len_,run_underlying ht,goInt]
 ·cases hxa:aQ x<;>rw[hxa] at hn hx<;>simp only[gV,reduceCtorEq] at hn
  rename_i id
  split at hn
  ·rename_i es kt pu ho
   simp only[Option.some.injEq] at hn
   subst hn
   simp only[aj] at hx
   obtain⟨_,b',c',hσ,hv⟩:=hx
   have cQ:=hS.obj id _ ho
   simp only[bI] at cQ
   obtain⟨_,_,b2,c2,en,cl,h3,h4,h5,_⟩:=cQ
   rw[hσ] at h3
   simp only[Option.some.injEq,Prod.mk.injEq] at h3
   obtain⟨rfl,rfl⟩:=h3
   simp[hv,Builtin.len_,run_underlying ht,goInt,getObj,Sem.run,h4,h5]
  ·cases hn
theorem Qf (hS:aU A w σ o) {t:TypeId} {x:Operand} {c:Call} {n e:Nat} (hop:oper.op= .call c) (hc:c.callee= .builtin .len) (ha:c.args=#[x]) (hty:c.argTypes=#[t])
  (ht:P.underlying t=some (.array n e)):Gives A P aR oper w σ o (.sc (.int .i64 n)) o:=by
 refine Gives.same hS (u:=.int .i64 n) ?_ (by simp[aj,Value.oneCell'])
 simp[execOp,hop,resolve,hc,ha,hty,invoke,builtin,Builtin.len_,run_underlying ht,goInt]
theorem Gs (hS:aU A w σ o) (hρ:∀x,aj A w σ o (aQ x) (aR x)) {mx:Bool} {x y:Operand} {c:Call} {k:IntKind} {a b:Int} (hop:oper.op= .call c) (hc:c.callee= .builtin (if mx then .max else .min)) (ha:c.args=#[x,y])
  (hx:aQ x= .sc (.int k a)) (hy:aQ y= .sc (.int k b)):Gives A P aR oper w σ o (.sc (.int k (if mx then(if b>a then b else a) else(if b<a then b else a)))) o:=by
 have h1:=hρ x
 have h2:=hρ y
 rw[hx] at h1
 rw[hy] at h2
 refine Gives.same hS (u:=.int k (if mx then(if b>a then b else a) else(if b<a then b else a))) ?_ (by simp[aj,Value.oneCell'])
 cases mx<;>simp[execOp,hop,resolve,hc,ha,invoke,builtin,Builtin.min_,Builtin.max_,dM h1,dM h2,Builtin.min2,Builtin.max2]
theorem Qg (hS:aU A w σ o) (hρ:∀x,aj A w σ o (aQ x) (aR x)) {x:Operand} {i:Nat} (hop:oper.op= .extract x i) {vs:List AV} (hx:aQ x= .aD vs) (h:vs[i]?=some v):Gives A P aR oper w σ o v o:=by
 have h1:=hρ x
 rw[hx] at h1
 simp only[aj] at h1
 obtain⟨us,hu,hl⟩:=h1
 obtain⟨u,hu',hr⟩:=aA.get _ _ hl i v h
 refine Gives.same hS (u:=u) ?_ hr
 simp at hu'
 simp[execOp,hop,hu,Instr.extract,hu']
theorem o9 (hρ:∀x,aj A w σ o (aQ x) (aR x)):∀l:List Operand,aA A w σ o (l.map aQ) (l.map aR)
 |[]=>by simp[aA]
 |x::l=>by simp only[List.map_cons,aA];exact⟨_,_,rfl,hρ x,o9 hρ l⟩
theorem Qh (hS:aU A w σ o) (hρ:∀x,aj A w σ o (aQ x) (aR x)) {f:Fn} (hf:∀l,qF l f=f) {a b:Array Operand} (hop:oper.op= .makeFunc f a b):Gives A P aR oper w σ o (.fn f (a.toList.map aQ) (b.toList.map aQ)) o:=by
 refine Gives.same hS (u:=.func f (a.map aR) (b.map aR)) (by simp[execOp,hop,Instr.makeFunc]) ?_
 simp only[aj]
 exact⟨_,_,by rw[hf],by simpa using o9 hρ a.toList,by simpa using o9 hρ b.toList⟩
end
section
variable {P:Program} {A:bG} {w w':World} {σ σ':aV} {o o':Store} {aQ:Operand→AV} {aR:Operand→Value} {oper:Oper} {v:AV}
theorem qL {d k:Nat} {a:Option AV} {u:Option Value} (h:∀x,a=some x→∃y,u=some y∧aj A w σ o x y) (hn:a=none→u=none) (hb:dP d a=some k):
  (u=none∧k=d)∨∃q,u=some (.int q (k:Int)):=by
 unfold dP at hb
 split at hb
 ·injection hb with hb;exact .inl ⟨hn rfl,hb.symm⟩
 ·rename_i q n
  split at hb
  ·rename_i h0
   injection hb with hb
   obtain⟨y,hy,hr⟩:=h _ rfl
   refine .inr ⟨q,?_⟩
   rw[hy,dM hr,←hb]
   congr 2
   omega
  ·cases hb
 ·cases hb
theorem Gt (isSlice:Bool) (len cap l h:Nat) (lo hi:Option Value) (hlo:(lo=none∧l=0)∨∃q,lo=some (.int q (l:Int))) (hhi:(hi=none∧h=len)∨∃q,hi=some (.int q (h:Int))) (hlh:l≤h) (Qi:h≤cap):
  (Instr.sliceBounds isSlice len cap lo hi none).run P w= .ok (l,h,cap) w:=by
 have a1:(0:Int)≤h∧(h:Int)≤cap:=by omega
 have a2:(0:Int)≤l∧(l:Int)≤h:=by omega
 rcases hlo with⟨rfl,rfl⟩|⟨q,rfl⟩<;>rcases hhi with⟨rfl,rfl⟩|⟨q',rfl⟩<;>
  simp[Instr.sliceBounds,Instr.sliceBound,asIntOf,a1,a2,hlh,Qi]
theorem lD (hρ:∀x,aj A w σ o (aQ x) (aR x)) (lo:Option Operand):(∀x,lo.map aQ=some x→∃y,lo.map aR=some y∧aj A w σ o x y)∧(lo.map aQ=none→lo.map aR=none):=by
 cases lo with
 |none=>simp
 |some a=>simp;exact hρ a
theorem Qj (hS:aU A w σ o) (hρ:∀x,aj A w σ o (aQ x) (aR x)) {t e sz:Nat} {x:Operand} {lo hi:Option Operand} (hop:oper.op= .slice t x lo hi none) (ht:P.underlying t=some (.slice e)) (hsz:sizeT P e=some sz) (hsz0:sz≠0)
  (h:kO o sz (aQ x) (lo.map aQ) (hi.map aQ)=some v):Gives A P aR oper w σ o v o:=by
 have hx:=hρ x
 have main:∀(a:Option Addr) (len cap l k:Nat),aR x= .slice a len cap→dP 0 (lo.map aQ)=some l→dP len (hi.map aQ)=some k→l≤k→k≤cap→
   aj A w σ o v (.slice (if cap=l then a else a.map (·.add (l*sz))) (k - l) (cap - l))→Gives A P aR oper w σ o v o:=by
  intro a len cap l k hxv hl hk hlk hkc hr
  refine Gives.same hS ?_ hr
  have b1:=qL (lD hρ lo).1 (lD hρ lo).2 hl
  have b2:=qL (lD hρ hi).1 (lD hρ hi).2 hk
  simp only[execOp,hop,Instr.sliceAt,hxv,Instr.slice]
  simp[run_underlying ht,Gt true len cap l k _ _ b1 b2 hlk hkc,kU hsz]
 unfold kO at h
 split at h
 ·rename_i n cs hxa
  rw[hxa] at hx
  simp only[aj] at hx
  obtain⟨a,cap,hxv,hn,hp,hm⟩:=hx
  split at h
  ·rename_i l k hl hk
   split at h
   ·rename_i hc
    injection h with h;subst h
    refine main a n cap l k hxv hl hk hc.1 (by omega) ?_
    simp only[aj]
    refine⟨_,_,rfl,by omega,?_,?_⟩
    ·refine nk fun c hc'=>jK hp c ?_
     exact List.mem_of_mem_drop (List.mem_of_mem_take hc')
    ·refine bH.gv _ _ _ fun i c hi=>?_
     rw[List.getElem?_take] at hi
     split at hi
     ·rename_i hlt
      rw[List.getElem?_drop] at hi
      obtain⟨b,u,rfl,hno,hcell,hr⟩:=bH.get _ _ _ hm _ _ hi
      have hne:cap≠l:=by
       intro he
       have:k - l=0:=by omega
       rw[this] at hlt
       omega
      refine⟨b.add (l*sz),u,by simp[hne],by rw[add_block];exact hno,?_,hr⟩
      rw[add_add]
      simpa using hcell
     ·cases hi
   ·cases h
  ·cases h
 ·rename_i id off len tot hxa
  rw[hxa] at hx
  simp only[aj] at hx
  obtain⟨hle,a,cap,hxv,hlc,hcur⟩:=hx
  split at h
  ·rename_i l k hl hk
   split at h
   ·rename_i cs e' sz' pu ho
    split at h
    ·rename_i hc
     injection h with h;subst h
     obtain⟨hlk,hkl,htot,rfl⟩:=hc
     refine main a len cap l k hxv hl hk hlk (by omega) ?_
     simp only[aj]
     refine⟨hle,_,_,rfl,by omega,fun lF fZ=>?_⟩
     have h1:=hcur lF fZ
     obtain⟨cs2,e2,pu2,ho2,_⟩:=fZ
     rw[ho] at ho2
     injection ho2 with ho2
     injection ho2 with _ _ hsz2 _
     subst hsz2
     unfold iO at h1 ⊢
     split
     ·rename_i hσ
      rw[hσ] at h1
      obtain⟨h2,h3,h4,h5⟩:=h1
      subst h3
      have:l=0:=by omega
      subst this
      exact⟨h2,by simp,by omega,by omega⟩
     ·rename_i b c hσ
      rw[hσ] at h1
      obtain⟨h2,h3,h4⟩:=h1
      have hmul:l*sz'+(k - l)*sz'=k*sz':=by rw[←Nat.add_mul];congr 1;omega
      have Qk:k*sz'≤len*sz':=Nat.mul_le_mul_right _ hkl
      refine⟨fun hpos=>?_,fun hz ht hs=>?_,?_⟩
      ·have hne:cap≠l:=by omega
       have ho2:kL (off+l*sz') tot sz'=kL off tot sz'+l*sz':=by
        rcases h4 with⟨h5,h6⟩|⟨h5,h6,h7⟩
        ·rw[kq h5,kq (by omega)]
        ·rw[xG (by omega),xG (by omega)]
         omega
       rw[h2 (by omega),if_neg hne,ho2]
       simp only[Option.map_some,Option.some.injEq]
       unfold Addr.add;split<;>simp_all
      ·have hl0:l*sz'=0:=by omega
       have hl1:l=0:=by
        rcases Nat.mul_eq_zero.1 hl0 with h|h
        ·exact h
        ·omega
       subst hl1
       have hk2:k*sz'=tot:=by simpa using ht
       have hkeq:k=len:=by
        have:len*sz'≤k*sz':=by omega
        have:=Nat.le_of_mul_le_mul_right this hs
        omega
       obtain⟨h5,h6⟩:=h3 (by omega) (by rw[←hkeq];exact hk2) hs
       subst h5 h6
       by_cases hc0:cap=0
       ·simp[hc0]
       ·rw[if_neg hc0];simp[Addr.add]
      ·rcases h4 with⟨h5,h6⟩|⟨h5,h6,h7⟩
       ·exact .inl ⟨by omega,by omega⟩
       ·exact .inr ⟨by omega,by omega,h7⟩
     ·rename_i hσ
      rw[hσ] at h1
      exact h1.elim
    ·cases h
   ·cases h
  ·cases h
 ·rename_i hxa
  rw[hxa] at hx
  have hxv:=dM hx
  split at h
  ·rename_i hl hk
   injection h with h;subst h
   refine main none 0 0 0 0 hxv hl hk (Nat.le_refl _) (Nat.le_refl _) ?_
   simp[aj,sN,Value.oneCell']
  ·cases h
 ·cases h
theorem Ql (len cap l h m:Nat) (lo:Option Value) (hv mv:Value) (hlo:(lo=none∧l=0)∨∃q,lo=some (.int q (l:Int))) (hhi:∃q,hv= .int q (h:Int))
  (hmx:∃q,mv= .int q (m:Int)) (hlh:l≤h) (hhm:h≤m) (hmc:m≤cap):
  (Instr.sliceBounds true len cap lo (some hv) (some mv)).run P w= .ok (l,h,m) w:=by
 have a0:(0:Int)≤m∧(m:Int)≤cap:=by omega
 have a1:(0:Int)≤h∧(h:Int)≤m:=by omega
 have a2:(0:Int)≤l∧(l:Int)≤h:=by omega
 obtain⟨q0,rfl⟩:=hmx
 obtain⟨q1,rfl⟩:=hhi
 rcases hlo with⟨rfl,rfl⟩|⟨q,rfl⟩<;>
  simp[Instr.sliceBounds,Instr.sliceBound,asIntOf,a0,a1,a2,hlh,hhm]
theorem Qm (hS:aU A w σ o) (hρ:∀x,aj A w σ o (aQ x) (aR x)) {t e sz:Nat} {x:Operand} {lo:Option Operand} {hi mx:Operand} (hop:oper.op= .slice t x lo (some hi) (some mx)) (ht:P.underlying t=some (.slice e)) (hsz:sizeT P e=some sz) (hs0:¬sz=0)
  (h:mh o sz (aQ x) (lo.map aQ) (aQ hi) (aQ mx)=some v):Gives A P aR oper w σ o v o:=by
 have hx:=hρ x
 have main:∀(a:Option Addr) (len cap l k m:Nat),aR x= .slice a len cap→dP 0 (lo.map aQ)=some l→dP len (some (aQ hi))=some k→dP len (some (aQ mx))=some m→l≤k→k≤m→m≤cap→
   aj A w σ o v (.slice (if m=l then a else a.map (·.add (l*sz))) (k - l) (m - l))→Gives A P aR oper w σ o v o:=by
  intro a len cap l k m hxv hl hk hm hlk hkm hmc hr
  refine Gives.same hS ?_ hr
  have b1:=qL (lD hρ lo).1 (lD hρ lo).2 hl
  have Gu:∀(y:Operand) (n:Nat),dP len (some (aQ y))=some n→∃q,aR y= .int q (n:Int):=by
   intro y n hy
   rcases qL (a:=some (aQ y)) (u:=some (aR y)) (fun x hx=>by injection hx with hx;subst hx;exact⟨_,rfl,hρ y⟩) (fun h=>by cases h) hy with⟨h,_⟩|⟨q,h⟩
   ·cases h
   ·injection h with h;exact⟨q,h⟩
  have b2:=Gu hi k hk
  have b4:=Gu mx m hm
  simp only[execOp,hop,Instr.sliceAt,hxv,Instr.slice]
  simp[run_underlying ht,Ql len cap l k m _ _ _ b1 b2 b4 hlk hkm hmc,kU hsz]
 unfold mh at h
 split at h
 ·rename_i n cs hxa
  rw[hxa] at hx
  simp only[aj] at hx
  obtain⟨a,cap,hxv,hn,hp,hm⟩:=hx
  split at h
  ·rename_i l k m hl hk hmx
   split at h
   ·rename_i hc
    injection h with h;subst h
    refine main a n cap l k m hxv hl hk hmx hc.1 hc.2.1 (by omega) ?_
    simp only[aj]
    refine⟨_,_,rfl,by omega,?_,?_⟩
    ·refine nk fun c hc'=>jK hp c ?_
     exact List.mem_of_mem_drop (List.mem_of_mem_take hc')
    ·refine bH.gv _ _ _ fun i c hi=>?_
     rw[List.getElem?_take] at hi
     split at hi
     ·rename_i hlt
      rw[List.getElem?_drop] at hi
      obtain⟨b,u,rfl,hno,hcell,hr⟩:=bH.get _ _ _ hm _ _ hi
      have hne:m≠l:=by
       intro he
       have:k - l=0:=by omega
       rw[this] at hlt
       omega
      refine⟨b.add (l*sz),u,by simp[hne],by rw[add_block];exact hno,?_,hr⟩
      rw[add_add]
      simpa using hcell
     ·cases hi
   ·cases h
  ·cases h
 ·rename_i id off len tot hxa
  rw[hxa] at hx
  simp only[aj] at hx
  obtain⟨hle,a,cap,hxv,hlc,hcur⟩:=hx
  split at h
  ·rename_i l k m hl hk hmx
   split at h
   ·rename_i cs e' sz' pu ho
    split at h
    ·rename_i hc
     injection h with h;subst h
     obtain⟨hlk,hkm,hml,htot,rfl,hrange,hpos⟩:=hc
     refine main a len cap l k m hxv hl hk hmx hlk hkm (by omega) ?_
     simp only[aj]
     refine⟨hle,_,_,rfl,by omega,fun lF fZ=>?_⟩
     have h1:=hcur lF fZ
     obtain⟨cs2,e2,pu2,ho2,_⟩:=fZ
     rw[ho] at ho2
     injection ho2 with ho2
     injection ho2 with _ _ hsz2 _
     subst hsz2
     have hmul:l*sz'+(k - l)*sz'=k*sz':=by rw[←Nat.add_mul];congr 1;omega
     have Qk:k*sz'≤len*sz':=Nat.mul_le_mul_right _ (by omega)
     unfold iO at h1 ⊢
     split
     ·rename_i hσ
      rw[hσ] at h1
      obtain⟨h2,h3,h4,h5⟩:=h1
      subst h3
      exact⟨h2,by simp,by omega,by omega⟩
     ·rename_i b c hσ
      rw[hσ] at h1
      obtain⟨h2,h3,h4⟩:=h1
      refine⟨fun Gv=>?_,fun hz=>by omega,.inr ⟨by omega,by omega,hpos⟩⟩
      have hne:m≠l:=by omega
      have hadd:(⟨b,off,none⟩:Addr).add (l*sz')=⟨b,off+l*sz',none⟩:=by unfold Addr.add;split<;>simp_all
      rw[h2 (by omega),if_neg hne,kq (by omega),xG (by omega),Option.map_some,hadd,show off+l*sz'+(tot+sz') - tot - sz'=off+l*sz' by omega]
     ·rename_i hσ
      rw[hσ] at h1
      exact h1.elim
    ·cases h
   ·cases h
  ·cases h
 ·cases h
theorem Qn (hS:aU A w σ o) (hρ:∀x,aj A w σ o (aQ x) (aR x)) {t l k:Nat} {x:Operand} {s:ByteArray} {lo hi:Option Operand} (hop:oper.op= .slice t x lo hi none) (ht:P.underlying t=some .string)
  (hx:aQ x= .sc (.string s)) (hl:dP 0 (lo.map aQ)=some l) (hk:dP s.size (hi.map aQ)=some k) (hlk:l≤k) (hks:k≤s.size):Gives A P aR oper w σ o (.sc (.string (s.extract l k))) o:=by
 have h1:=hρ x
 rw[hx] at h1
 have hv:=dM h1
 refine Gives.same hS (u:=.string (s.extract l k)) ?_ (by simp[aj,Value.oneCell'])
 have b1:=qL (lD hρ lo).1 (lD hρ lo).2 hl
 have b2:=qL (lD hρ hi).1 (lD hρ hi).2 hk
 simp only[execOp,hop,Instr.sliceAt,hv,Instr.slice]
 simp[run_underlying ht,Gt false s.size s.size l k _ _ b1 b2 hlk hks]
theorem AM (place:Nat→Option (Nat×Nat)):∀(parts:List (Nat×Nat×AV)) (sV:List (Nat×Value)) (cs:List AV) (vs:Array Value) (cs':List AV),
  parts.length=sV.length→(∀(i:Nat) (p:Nat×Nat×AV) (q:Nat×Value),parts[i]?=some p→sV[i]?=some q→place q.1=some (p.1,p.2.1)∧aj A w σ o p.2.2 q.2)→
  aA A w σ o cs vs.toList→cz cs=true→gu parts cs=some cs'→
  ∃us,Instr.fill place vs sV=some us∧aA A w σ o cs' us.toList∧cz cs'=true∧cs'.length=cs.length
 |[],[],cs,vs,cs',_,_,hr,h1,hf=>by
  simp only[gu,Option.some.injEq] at hf
  subst hf
  exact⟨vs,rfl,hr,h1,rfl⟩
 |[],_::_,_,_,_,hl,_,_,_,_=>by simp at hl
 |_::_,[],_,_,_,hl,_,_,_,_=>by simp at hl
 |(off,n,a)::parts,(i,u)::sV,cs,vs,cs',hl,hp,hr,h1,hf=>by
  simp only[gu] at hf
  split at hf
  ·rename_i hc
   obtain⟨c1,c2,c3⟩:=hc
   obtain⟨p1,p2⟩:=hp 0 (off,n,a) (i,u) rfl rfl
   simp only at p1 p2
   obtain⟨q1,q2⟩:=p2.cells c2
   have hlen:=aA.length _ _ q1
   have AO:=aA.length _ _ hr
   have hsz:u.cells.size=n:=by rw[←c1,hlen];simp
   simp only[Instr.fill,p1]
   rw[if_neg (by simp[hsz];simp at AO;omega)]
   have hw:∀(xs:List Value) (k:Nat) (ws:Array Value),((xs.zipIdx k).foldl (fun cs (p:Value×Nat)=>cs.setIfInBounds (off+p.2) p.1) ws).size=ws.size∧
     ∀j,off+k+xs.length≤ws.size→((xs.zipIdx k).foldl (fun cs (p:Value×Nat)=>cs.setIfInBounds (off+p.2) p.1) ws)[j]?=if off+k≤j∧j<off+k+xs.length then xs[j - (off+k)]? else ws[j]?:=by
    intro xs
    induction xs with
    |nil=>intro k ws;simp;intro j _ h1 h2;omega
    |cons x xs ih=>
     intro k ws
     simp only[List.zipIdx_cons,List.foldl_cons]
     obtain⟨i1,i2⟩:=ih (k+1) (ws.setIfInBounds (off+k) x)
     refine⟨by rw[i1];simp,fun j hj=>?_⟩
     simp only[List.length_cons] at hj ⊢
     rw[i2 j (by simp;omega)]
     by_cases g1:off+(k+1)≤j∧j<off+(k+1)+xs.length
     ·rw[if_pos g1,if_pos (by omega),show j - (off+k)=(j - (off+(k+1)))+1 from by omega,List.getElem?_cons_succ]
     ·rw[if_neg g1]
      by_cases g2:off+k=j
      ·subst g2
       rw[if_pos (by omega),Array.getElem?_setIfInBounds_self_of_lt (by omega)]
       simp
      ·rw[if_neg (by omega),Array.getElem?_setIfInBounds_ne g2]
   have aav:Array.foldl (fun cs (p:Value×Nat)=>cs.setIfInBounds (off+p.2) p.1) vs u.cells.zipIdx=(u.cells.toList.zipIdx 0).foldl (fun cs (p:Value×Nat)=>cs.setIfInBounds (off+p.2) p.1) vs:=by
    rw[←Array.foldl_toList];simp
   obtain⟨w1,w2⟩:=hw u.cells.toList 0 vs
   have hr':aA A w σ o (dE cs off a.cellsOf) ((u.cells.toList.zipIdx 0).foldl (fun cs (p:Value×Nat)=>cs.setIfInBounds (off+p.2) p.1) vs).toList:=by
    refine aA.gv _ _ (by rw[sU];simp[w1];simpa using AO) fun j c hj=>?_
    rw[xI _ _ _ (by omega)] at hj
    have hj2:=w2 j (by simp[hsz];simp at AO;omega)
    simp only[Array.getElem?_toList]
    rw[hj2]
    simp only[Nat.add_zero,Array.length_toList,hsz]
    rw[c1] at hj
    by_cases g:off≤j∧j<off+n
    ·rw[if_pos g] at hj ⊢
     exact aA.get _ _ q1 _ c hj
    ·rw[if_neg g] at hj ⊢
     simpa using aA.get _ _ hr _ c hj
   have h1':cz (dE cs off a.cellsOf)=true:=gx.2 fun d hd=>by
    rcases AI (by omega) d hd with hd|hd
    ·exact gx.1 h1 d hd
    ·exact gx.1 c2 d hd
   obtain⟨us,k1,k2,k3,k4⟩:=AM place parts sV _ _ cs' (by simpa using hl) (fun i p q hi hq=>hp (i+1) p q (by simpa using hi) (by simpa using hq)) hr' h1' hf
   refine⟨us,?_,k2,k3,by rw[k4,sU]⟩
   rw[←k1]
   congr 1
  ·cases hf
end
section
variable {P:Program} {A:bG} {w w':World} {σ σ':aV} {o o':Store} {aQ:Operand→AV} {aR:Operand→Value} {oper:Oper} {v:AV}
theorem AP {α β:Type} {f:α→Option β}:∀{l:List α} {r:List β},lC f l=some r→l.length=r.length∧∀(i:Nat) (a:α) (b:β),l[i]?=some a→r[i]?=some b→f a=some b
 |[],r,h=>by simp only[lC,Option.some.injEq] at h;subst h;simp
 |a::l,r,h=>by
  simp only[lC] at h
  split at h
  ·rename_i b r' hb hr
   injection h with h;subst h
   obtain⟨h1,h2⟩:=AP hr
   refine⟨by simp[h1],fun i x y hx hy=>?_⟩
   cases i with
   |zero=>simp at hx hy;subst hx hy;exact hb
   |succ i=>simp at hx hy;exact h2 i x y hx hy
  ·cases h
theorem Gw (hS:aU A w σ o) (hρ:∀x,aj A w σ o (aQ x) (aR x)) {t:TypeId} {place:Nat→Option (Nat×Nat)} {z:List Value} {parts:Array (Nat×Operand)} {ps:List (Nat×Nat×Operand)} {cs:List AV} (hop:oper.op= .build t parts)
  (hz:gY P t=some z) (hpl:∀zv:Value,(P.info? t).bind (·.zero)=some zv→∀l,P.built t l=Instr.fill place zv.cells l)
  (hlen:ps.length=parts.toList.length) (hps:∀(i:Nat) (p:Nat×Operand) (q:Nat×Nat×Operand),parts.toList[i]?=some p→ps[i]?=some q→place p.1=some (q.1,q.2.1)∧q.2.2=p.2)
  (hf:gu (ps.map fun p=>(p.1,p.2.1,aQ p.2.2)) (z.map .sc)=some cs):Gives A P aR oper w σ o (.agg cs) o:=by
 obtain⟨i,zv,hi,hzv,hcells,hsize,hone⟩:=o8 hz
 obtain⟨us,h1,h2,h3,h4⟩:=AM (w:=w) (σ:=σ) (o:=o) place (ps.map fun p=>(p.1,p.2.1,aQ p.2.2)) (parts.toList.map fun p=>(p.1,aR p.2)) (z.map .sc) zv.cells cs (by simpa using hlen)
  (fun j p q hp hq=>by
   rw[List.getElem?_map,Option.map_eq_some_iff] at hp hq
   obtain⟨p',hp',rfl⟩:=hp
   obtain⟨q',hq',rfl⟩:=hq
   obtain⟨k1,k2⟩:=hps j q' p' hq' hp'
   exact⟨k1,by simp only[k2];exact hρ _⟩) (by rw[hcells];exact qJ A w σ o z hone) (AK hone) hf
 have hb:P.built t (parts.toList.map fun p=>(p.1,aR p.2))=some us:=by rw[hpl zv (by simp[hi,hzv])];exact h1
 refine Gives.same hS (u:=.agg us) ?_ (by simp only[aj];exact⟨us,rfl,h2⟩)
 have:=run_build (P:=P) w t (parts.map fun p=>(p.1,aR p.2)) us (by simpa using hb)
 simp only[execOp,hop]
 simp[this]
theorem Gx (A:bG) (w:World) (σ:aV) (o:Store) {z:List Value} (hone:∀u∈z,u.oneCell'=true) (zc:Array Value) (hz:zc.toList=z):∀n:Nat,
  aA A w σ o (List.replicate n (z.map AV.sc)).flatten (madeCells zc (n*z.length)).toList:=by
 intro n
 have hlen:((List.replicate n (z.map AV.sc)).flatten).length=n*z.length:=by simp
 refine aA.gv _ _ (by simp[madeCells]) fun j c hj=>?_
 have hjl:j<n*z.length:=by have:=(List.getElem?_eq_some_iff.1 hj).1;rwa [hlen] at this
 have key:∀(n j:Nat),j<n*z.length→((List.replicate n (z.map AV.sc)).flatten)[j]?=(z.map AV.sc)[j % z.length]?:=by
  intro n
  induction n with
  |zero=>intro j hj;simp at hj
  |succ n ih=>
   intro j hj
   rw[List.replicate_succ,List.flatten_cons,List.getElem?_append]
   simp only[List.length_map]
   by_cases h:j<z.length
   ·rw[if_pos h,Nat.mod_eq_of_lt h]
   ·rw[if_neg h,ih (j - z.length) (by rw[Nat.succ_mul] at hj;omega)]
    congr 1
    rw[Nat.mod_eq_sub_mod (by omega:j≥z.length)]
 rw[key n j hjl] at hj
 obtain⟨u,hu,hr⟩:=aA.get _ _ (qJ A w σ o z hone) _ c hj
 refine⟨u,?_,hr⟩
 have hzs:zc.size=z.length:=by rw[←hz];simp
 have hpos:0<z.length:=by
  rcases Nat.eq_zero_or_pos z.length with h|h
  ·rw[h] at hjl;simp at hjl
  ·exact h
 have hm:j % z.length<zc.size:=by rw[hzs];exact Nat.mod_lt _ hpos
 simp only[madeCells,Array.getElem?_toList]
 rw[Array.getElem?_map,Array.getElem?_range]
 simp only[hjl,if_true,Option.map_some,hzs]
 have hu2:zc[j % z.length]?=some u:=by rw[←hu,←hz];simp
 rw[getElem!_pos zc (j % z.length) hm]
 rw[←hu2,Array.getElem?_eq_getElem hm]
theorem Gy {z:List Value} (hone:∀u∈z,u.oneCell'=true) (n:Nat):cz (List.replicate n (z.map AV.sc)).flatten=true:=by
 refine gx.2 fun c hc=>?_
 simp only[List.mem_flatten,List.mem_replicate] at hc
 obtain⟨l,⟨_,rfl⟩,hc⟩:=hc
 exact gx.1 (AK hone) c hc
theorem Qo (z:List Value) (n:Nat):bJ (List.replicate n (z.map AV.sc)).flatten=true:=by
 refine nk fun c hc=>?_
 simp only[List.mem_flatten,List.mem_replicate] at hc
 obtain⟨l,⟨_,rfl⟩,hc⟩:=hc
 exact jK (Gl z) c hc
theorem Gz (hρ:∀x,aj A w σ o (aQ x) (aR x)) {t e len:Nat} {z:List Value} {parts:Array (Nat×Operand)} {cs:List AV} (ht:P.underlying t=some (.slice e)) (hz:gY P e=some z) (hpos:0<z.length) (hsm:len*z.length≤16777216)
  (hf:gu ((parts.toList.map fun p=>(p.1*z.length,p.2)).map fun p=>(p.1,z.length,aQ p.2)) (List.replicate len (z.map AV.sc)).flatten=some cs):
  ∃us:Array Value,(Instr.buildSlice t len (parts.map fun p=>(p.1,aR p.2))).run P w= .ok (.slice (some ⟨w.heap.size,0,none⟩) len len) (w.alloc (.cells us e))∧aA A w σ o cs us.toList∧cz cs=true∧cs.length=len*z.length:=by
 obtain⟨i,zv,hi,hzv,hcells,hsize,hone⟩:=o8 hz
 have hzs:zv.cells.size=z.length:=by rw[←hcells];simp
 obtain⟨us,h1,h2,h3,h4⟩:=AM (w:=w) (σ:=σ) (o:=o) (fun i=>some (i*z.length,z.length)) ((parts.toList.map fun p=>(p.1*z.length,p.2)).map fun p=>(p.1,z.length,aQ p.2))
  (parts.toList.map fun p=>(p.1,aR p.2)) _ (madeCells zv.cells (len*z.length)) cs (by simp)
  (fun j p q hp hq=>by
   rw[List.map_map,List.getElem?_map,Option.map_eq_some_iff] at hp
   rw[List.getElem?_map,Option.map_eq_some_iff] at hq
   obtain⟨p',hp',rfl⟩:=hp
   obtain⟨q',hq',rfl⟩:=hq
   rw[hp'] at hq'
   injection hq' with hq'
   subst hq'
   exact⟨rfl,hρ _⟩) (Gx A w σ o hone zv.cells hcells len) (Gy hone len) hf
 have hl:cs.length=len*z.length:=by rw[h4];simp
 refine⟨us,?_,h2,h3,hl⟩
 by_cases h0:len*z.length=0
 ·have hl0:len=0:=by
   rcases Nat.mul_eq_zero.1 h0 with h|h
   ·exact h
   ·omega
  subst hl0
  have hm:madeCells zv.cells (0*z.length)=#[]:=by simp[madeCells,Array.range_zero']
  rw[hm] at h1
  have h1':Instr.fill (fun Qp=>some (Qp*z.length,z.length)) #[] (List.map (fun p=>(p.fst,aR p.snd)) parts.toList)=some us:=h1
  simp[Instr.buildSlice,run_underlying ht,sizeOf,typeInfo,hi,hsize,newRow,Array.range_zero',h1']
 ·exact run_buildSlice w t e len _ us i zv ht hi hzv (by rw[hsize];omega) (by rw[hsize];exact h0) (by
   rw[hsize]
   have:(parts.map fun p=>(p.1,aR p.2)).toList=parts.toList.map fun p=>(p.1,aR p.2):=by simp
   rw[this]
   exact h1)
theorem Qq (hS:aU A w σ o) (hρ:∀x,aj A w σ o (aQ x) (aR x)) {t e len am:Nat} {z:List Value} {parts:Array (Nat×Operand)} {cs:List AV} (hop:oper.op= .buildSlice t len parts) (ht:P.underlying t=some (.slice e))
  (hz:gY P e=some z) (hpos:0<z.length) (hsm:len*z.length≤16777216)
  (hf:gu ((parts.toList.map fun p=>(p.1*z.length,p.2)).map fun p=>(p.1,z.length,aQ p.2)) (List.replicate len (z.map AV.sc)).flatten=some cs) (hd:o[am]?=some .dead):
  Gives A P aR oper w σ o (.os am 0 len (len*z.length)) (o.set am (.cells (cp (bJ cs) cs) e z.length (bJ cs))):=by
 obtain⟨us,h1,h2,h3,h4⟩:=Gz hρ ht hz hpos hsm hf
 have hid:am<o.length:=(List.getElem?_eq_some_iff.1 hd).1
 have cn:am<σ.length:=by rw[hS.len];exact hid
 have mA:us.size=len*z.length:=by have:=aA.length _ _ h2;simp at this;omega
 have hlm:len≤maxLen:=by
  have:len*1≤len*z.length:=Nat.mul_le_mul_left _ hpos
  simp only[maxLen];omega
 obtain⟨hS',hE⟩:=hS.xK (w:=w) (arr:=us) (e:=e) (sz:=z.length) (cap:=len) (pu:=bJ cs) (cs:=cp (bJ cs) cs) hd mA hlm (by rw[mr];omega) (AG h3) (fun h=>xH h)
  (fun j c hj=>by obtain⟨u,hu,hr⟩:=AH h2 hj;exact⟨u,by simpa using hu,hr⟩)
 refine⟨.slice (some ⟨w.heap.size,0,none⟩) len len,_,_,.inl ?_,hS',?_,hE⟩
 ·simp only[execOp,hop]
  simp[h1]
 ·simp only[aj]
  refine⟨⟨_,_,_,_,by rw[List.getElem?_set_self hid],by rw[mr];omega⟩,_,_,rfl,Nat.le_refl _,fun sz hc=>?_⟩
  obtain⟨cs2,e2,pu2,ho2,_⟩:=hc
  rw[List.getElem?_set_self hid] at ho2
  injection ho2 with ho2
  injection ho2 with _ _ hsz2 _
  subst hsz2
  unfold iO
  rw[List.getElem?_set_self cn]
  exact⟨fun _=>by rw[kq (Nat.zero_le _)],fun _ _ _=>⟨rfl,rfl⟩,.inl ⟨by omega,by omega⟩⟩
theorem aU.grow (hS:aU A w σ o) (x:Obj):aU A (w.alloc x) σ o∧Ext w σ o (w.alloc x) σ o:=by
 have hE:Ext w σ o (w.alloc x) σ o:=⟨by simp,fun b hb hn=>⟨heap_alloc_old w x b hb,hn⟩,Nat.le_refl _,fun _ _ h=>⟨h,fun _ h=>⟨h,rfl⟩⟩,fun _ h=>⟨h,rfl⟩,rfl,rfl,rfl⟩
 exact⟨⟨hS.len,hS.dist,fun i b c h=>Nat.lt_of_lt_of_le (hS.bnd i b c h) (by simp),fun i y hy=>(hS.obj i y hy).ext hE rfl fun b c hb=>heap_alloc_old w x b (hS.bnd i b c hb),hS.av,fun b hb=>Nat.lt_of_lt_of_le (hS.gw b hb) (by simp)⟩,hE⟩
theorem Qr (hS:aU A w σ o) (hρ:∀x,aj A w σ o (aQ x) (aR x)) {t e len:Nat} {z:List Value} {parts:Array (Nat×Operand)} {cs:List AV} (hop:oper.op= .buildSlice t len parts) (ht:P.underlying t=some (.slice e))
  (hz:gY P e=some z) (hpos:0<z.length) (hsm:len*z.length≤16777216)
  (hf:gu ((parts.toList.map fun p=>(p.1*z.length,p.2)).map fun p=>(p.1,z.length,aQ p.2)) (List.replicate len (z.map AV.sc)).flatten=some cs) (hp:bJ cs=true):
  Gives A P aR oper w σ o (.sl len (cp true cs)) o:=by
 obtain⟨us,h1,h2,h3,h4⟩:=Gz hρ ht hz hpos hsm hf
 obtain⟨hS',hE⟩:=hS.grow (.cells us e)
 refine⟨.slice (some ⟨w.heap.size,0,none⟩) len len,_,_,.inl ?_,hS',?_,hE⟩
 ·simp only[execOp,hop]
  simp[h1]
 ·simp only[aj]
  refine⟨_,_,rfl,Nat.le_refl _,xH hp,bH.gv _ _ _ fun j c hj=>?_⟩
  obtain⟨u,hu,hr⟩:=AH h2 hj
  refine⟨_,u,rfl,?_,?_,hr.ext hE⟩
  ·refine⟨?_,fun hA=>by have:=hS.gw _ hA;simp at this⟩
   rintro⟨i,c,hi⟩
   have:=hS.bnd i _ c hi
   simp at this
  ·have:(⟨w.heap.size,0,none⟩:Addr).add (0+j)=⟨w.heap.size,j,none⟩:=by unfold Addr.add;split<;>simp_all
   rw[this]
   simp only[World.cell?,heap_alloc_new]
   simpa using hu
theorem Qs (pu:Bool) (n:Nat) (cs:List AV):(List.replicate n (cp pu cs)).flatten=cp pu (List.replicate n cs).flatten:=by
 unfold cp
 split
 ·rw[List.map_flatten,List.map_replicate]
 ·rfl
theorem Qu (hS:aU A w σ o) (hρ:∀x,aj A w σ o (aQ x) (aR x)) {t e am bytes:Nat} {z:List Value} {l c:Operand} {n m:Int} {pu:Bool} (hop:oper.op= .makeSlice t l c) (ht:P.underlying t=some (.slice e))
  (hz:gY P e=some z) (hb:qD P e=some bytes) (hl:dU (aQ l)=some n) (hc:dU (aQ c)=some m) (h0:0≤n) (hnm:n≤m) (hby:m*bytes≤140737488355328) (hm:m≤1000000000000)
  (hd:o[am]?=some .dead):Gives A P aR oper w σ o (.os am 0 n.toNat (n.toNat*z.length)) (o.set am (.cells (List.replicate n.toNat (cp pu (z.map AV.sc))).flatten e z.length pu)):=by
 rw[Qs]
 obtain⟨i,zv,hi,hzv,hcells,hsize,hone⟩:=o8 hz
 obtain⟨kl,hkl⟩:=qK (hρ l) hl
 obtain⟨kc,hkc⟩:=qK (hρ c) hc
 have hib:i.bytes=bytes:=by simp[qD,hi] at hb;exact hb
 have hrun:=run_make (P:=P) w t e i zv ht hi hzv kl kc n m h0 hnm (by rw[hib,Int.mul_comm];omega) (by omega)
 rw[hsize] at hrun
 have hid:am<o.length:=(List.getElem?_eq_some_iff.1 hd).1
 have cn:am<σ.length:=by rw[hS.len];exact hid
 have hle:n.toNat*z.length≤m.toNat*z.length:=Nat.mul_le_mul_right _ (by omega)
 have hrep:=Gx A w σ o hone zv.cells hcells m.toNat
 obtain⟨hS',hE⟩:=hS.xK (w:=w) (arr:=madeCells zv.cells (m.toNat*z.length)) (e:=e) (sz:=z.length) (cap:=m.toNat) (pu:=pu) (cs:=cp pu (List.replicate n.toNat (z.map AV.sc)).flatten) hd (by simp[madeCells])
  (by simp only[maxLen];omega) (by rw[mr];simp[madeCells];exact hle) (AG (Gy hone _)) (fun _=>xH (Qo _ _))
  (fun j c hj=>by
   have hrn:aA A w σ o (List.replicate n.toNat (z.map AV.sc)).flatten ((madeCells zv.cells (m.toNat*z.length)).toList.take (n.toNat*z.length)):=by
    refine aA.gv _ _ (by simp[madeCells];rw[Nat.min_eq_left (by omega)]) fun j c hj=>?_
    have hjl:=(List.getElem?_eq_some_iff.1 hj).1
    have AQ:j<n.toNat*z.length:=by simpa using hjl
    have hsplit:(List.replicate m.toNat (z.map AV.sc)).flatten=(List.replicate n.toNat (z.map AV.sc)).flatten++(List.replicate (m.toNat - n.toNat) (z.map AV.sc)).flatten:=by
     rw[←List.flatten_append,List.replicate_append_replicate]
     congr 2
     omega
    obtain⟨u,hu,hr⟩:=aA.get _ _ hrep j c (by rw[hsplit,List.getElem?_append_left hjl];exact hj)
    exact⟨u,by rw[List.getElem?_take_of_lt AQ];exact hu,hr⟩
   obtain⟨u,hu,hr⟩:=AH hrn hj
   have AQ:j<n.toNat*z.length:=by
    have:=(List.getElem?_eq_some_iff.1 hj).1
    rw[mr] at this
    simpa using this
   exact⟨u,by rw[List.getElem?_take_of_lt AQ] at hu;simpa using hu,hr⟩)
 refine⟨.slice (some ⟨w.heap.size,0,none⟩) n.toNat m.toNat,_,_,.inl ?_,hS',?_,hE⟩
 ·simp only[execOp,hop,hkl,hkc]
  simp[hrun]
 ·simp only[aj]
  refine⟨⟨_,_,_,_,by rw[List.getElem?_set_self hid],by rw[mr];simp⟩,_,_,rfl,by omega,fun sz fZ=>?_⟩
  obtain⟨cs2,e2,pu2,ho2,_⟩:=fZ
  rw[List.getElem?_set_self hid] at ho2
  injection ho2 with ho2
  injection ho2 with _ _ hsz2 _
  subst hsz2
  unfold iO
  rw[List.getElem?_set_self cn]
  exact⟨fun _=>by rw[kq (Nat.zero_le _)],fun _ _ _=>⟨rfl,rfl⟩,.inl ⟨by omega,by omega⟩⟩
end
section
variable {P:Program} {A:bG} {w w':World} {σ σ':aV} {o o':Store} {aQ:Operand→AV} {aR:Operand→Value} {oper:Oper} {v:AV}
theorem AS (b off j:Nat):(⟨b,off,none⟩:Addr).add j=⟨b,off+j,none⟩:=by unfold Addr.add;split<;>simp_all
theorem Qv (hS:aU A w σ o) {sz:Nat} (hsz0:0<sz) {a:AV} {u:Value} (h:aj A w σ o a u) {m:Nat} {new:List AV} (he:iM o sz a=some (m,new)):
  ∃Z c,u= .slice Z m c∧m≤c∧new.length=m*sz∧∀(j:Nat) (d:AV),new[j]?=some d→∃(p:Addr) (v:Value),Z=some p∧w.cell? (p.add j)=some v∧aj A w σ o d v:=by
 unfold iM at he
 split at he
 ·rename_i n cs
  split at he
  ·rename_i hlen
   simp only[Option.some.injEq,Prod.mk.injEq] at he
   obtain⟨rfl,rfl⟩:=he
   simp only[aj] at h
   obtain⟨Z,cap,rfl,hc,_,hm⟩:=h
   refine⟨Z,cap,rfl,hc,hlen,fun j d hd=>?_⟩
   obtain⟨b,v,hb,_,hcell,hr⟩:=bH.get _ _ _ hm j d hd
   exact⟨b,v,hb,by simpa using hcell,hr⟩
  ·cases he
 ·rename_i id off len tot
  simp only[aj] at h
  obtain⟨hle,Z,cap,rfl,hc,hcur⟩:=h
  split at he
  ·rename_i cs e sz' pu ho
   split at he
   ·rename_i hcond
    obtain⟨htot,rfl,hrange⟩:=hcond
    simp only[Option.some.injEq,Prod.mk.injEq] at he
    obtain⟨rfl,rfl⟩:=he
    have hk:=hcur sz' ⟨cs,e,pu,ho,htot⟩
    refine⟨Z,cap,rfl,hc,by simp;omega,fun j d hd=>?_⟩
    rw[List.getElem?_take] at hd
    split at hd
    ·rename_i hj
     rw[List.getElem?_drop] at hd
     have hpos:0<len:=by
      rcases Nat.eq_zero_or_pos len with h0|h0
      ·subst h0;simp at hj
      ·exact h0
     unfold iO at hk
     split at hk
     ·omega
     ·rename_i b c hσ
      have hx:=hS.obj id _ ho
      simp only[bI] at hx
      rcases hx.2.2 with⟨h0,_⟩|⟨b',cap',arr,h1,_,h3,_,_,h6⟩
      ·rw[hσ] at h0;cases h0
      ·rw[hσ] at h1
       simp only[Option.some.injEq,Prod.mk.injEq] at h1
       obtain⟨rfl,rfl⟩:=h1
       obtain⟨v,hv,hr⟩:=h6 _ d hd
       refine⟨⟨b,off,none⟩,v,(by rw[hk.1 hpos,kq (by omega)]),?_,hr⟩
       rw[AS]
       simp[World.cell?,h3,hv]
     ·exact hk.elim
    ·cases hd
   ·cases he
  ·cases he
 ·simp only[Option.some.injEq,Prod.mk.injEq] at he
  obtain⟨rfl,rfl⟩:=he
  exact⟨none,0,dM h,Nat.le_refl _,by simp,by simp⟩
 ·cases he
theorem Qw {t ty e:TypeId} {i:TypeInfo} (ht:P.underlying t=some (.slice e)) (hi:P.info? e=some i) (B Z:Option Addr) (n c c':Nat) (hnc:n≤c) (w:World):
  (Builtin.append_ #[t,t] ty #[.slice B n c,.slice Z 0 c']).run P w= .ok (.slice B n c) w:=by
 cases B<;>cases Z<;>simp[Builtin.append_,run_underlying ht,sizeOf,typeInfo,hi,Builtin.lenOf,Builtin.firstCells,hnc,loadCells,loadCellsFrom,storeCells]
theorem AU {t:TypeId} {c:Call} {s x:Operand} (hop:oper.op= .call c) (hc:c.callee= .builtin .append) (ha:c.args=#[s,x]) (hty:c.argTypes=#[t,t]) {u:Value}
  (h:(Builtin.append_ #[t,t] oper.type #[aR s,aR x]).run P w= .ok u w'):(execOp aR oper).run P w= .ok (.value u) w':=by
 simp[execOp,hop,resolve,hc,ha,hty,invoke,builtin,h]
theorem GE {A:bG} {w:World} {σ:aV} {o:Store} {Z:Option Addr}:∀(new:List AV) (k:Nat),(∀(j:Nat) (d:AV),new[j]?=some d→∃(p:Addr) (v:Value),Z=some p∧w.cell? (p.add (k+j))=some v∧aj A w σ o d v)→
  ∃vs:List Value,aA A w σ o new vs∧∀(p:Addr),Z=some p→∀(j:Nat) (u:Value),vs[j]?=some u→w.cell? (p.add (k+j))=some u
 |[],_,_=>⟨[],by simp[aA],by simp⟩
 |d::new,k,h=>by
  obtain⟨p,v,hp,hv,hr⟩:=h 0 d (by simp)
  obtain⟨vs,h1,h2⟩:=GE new (k+1) (fun j d' hd=>by
   have:=h (j+1) d' (by simpa using hd)
   rwa [show k+1+j=k+(j+1) from by omega])
  refine⟨v::vs,by simp only[aA];exact⟨v,vs,rfl,hr,h1⟩,fun q hq j u hu=>?_⟩
  rw[hp] at hq
  injection hq with hq
  subst hq
  cases j with
  |zero=>simp at hu;subst hu;simpa using hv
  |succ j=>
   have:=h2 p hp j u (by simpa using hu)
   rwa [show k+(j+1)=k+1+j from by omega]
theorem GF {A:bG} {w:World} {σ:aV} {o:Store}:∀{cs:List AV} {vs:List Value},aA A w σ o cs vs→cz cs=true→∀u∈vs,u.oneCell'=true
 |[],vs,hr,_=>by simp only[aA] at hr;subst hr;simp
 |c::cs,vs,hr,h1=>by
  simp only[aA] at hr
  obtain⟨v,r,rfl,hc,hl⟩:=hr
  simp only[cz,List.all_cons,Bool.and_eq_true] at h1
  intro u hu
  rcases List.mem_cons.1 hu with rfl|hu
  ·exact hc.one h1.1
  ·exact GF hl h1.2 u hu
theorem Qx (hS:aU A w σ o) (hρ:∀x,aj A w σ o (aQ x) (aR x)) {t e sz bytes am:Nat} {z:List Value} {c:Call} {s x:Operand} {pu:Bool} (hop:oper.op= .call c) (hc:c.callee= .builtin .append) (ha:c.args=#[s,x]) (hty:c.argTypes=#[t,t])
  (ht:P.underlying t=some (.slice e)) (hz:gY P e=some z) (hb:qD P e=some bytes) (hsz:sz=z.length) (hsz0:0<sz) (h:kN e sz bytes pu (aQ s) (aQ x) o am=some (v,o')):Gives A P aR oper w σ o v o':=by
 obtain⟨i,zv,hi,hzv,hcells,hsize,hone⟩:=o8 hz
 have hib:i.bytes=bytes:=by simp[qD,hi] at hb;exact hb
 have his:i.size=sz:=by omega
 have hzs:zv.cells.size=sz:=by rw[hsz,←hcells];simp
 unfold kN at h
 split at h
 ·cases h
 rename_i m new hel
 split at h
 ·cases h
 rename_i h1
 have h1':cz new=true:=by simpa using h1
 obtain⟨Z,cx,hxv,hmc,hnl,hnew⟩:=Qv hS hsz0 (hρ x) hel
 have hzero:∀(B:Option Addr) (n cap:Nat),m=0→aR s= .slice B n cap→n≤cap→(execOp aR oper).run P w= .ok (.value (.slice B n cap)) w:=by
  intro B n cap hm hsv hn
  subst hm
  exact AU (aR:=aR) hop hc ha hty (by rw[hsv,hxv];exact Qw ht hi B Z n cap cx hn w)
 obtain⟨vs,hvl,GG⟩:=GE (w:=w) (σ:=σ) (o:=o) (Z:=Z) new 0 (fun j d hd=>by simpa using hnew j d hd)
 have GH:vs.length=m*sz:=by rw[←hnl];exact(aA.length _ _ hvl).symm
 have GI:=GF hvl h1'
 have hs:=hρ s
 split at h
 ·
  rename_i hsa
  rw[hsa] at hs
  have hsv:=dM hs
  split at h
  ·rename_i hm0
   simp only[Option.some.injEq,Prod.mk.injEq] at h
   obtain⟨rfl,rfl⟩:=h
   exact Gives.same hS (hzero none 0 0 hm0 hsv (Nat.le_refl _)) (by simp[aj,sN,Value.oneCell'])
  ·rename_i hm0
   split at h
   ·rename_i hcond
    obtain⟨hby,hbig,cJ⟩:=hcond
    cases hmk:fU am (.cells new e sz pu) o with
    |none=>simp[hmk] at h
    |some o2=>
     simp only[hmk,Option.map_some,Option.some.injEq,Prod.mk.injEq] at h
     obtain⟨rfl,rfl⟩:=h
     obtain⟨hd,rfl⟩:=o7 hmk
     have hid:am<o.length:=(List.getElem?_eq_some_iff.1 hd).1
     have cn:am<σ.length:=by rw[hS.len];exact hid
     have hlt:0<new.length:=by rw[hnl];exact Nat.mul_pos (by omega) hsz0
     obtain⟨p,_,hp,_⟩:=hnew 0 _ (List.getElem?_eq_getElem hlt)
     obtain⟨v',w1,hrun,hown,hgrow,hnil,hat⟩:=run_append_own_at (P:=P) w w.heap.size t oper.type e i zv sz bytes ht hi hzv his hib hzs hsz0 (.slice none 0 0) 0 [] (World.ownsRow_nil w _ _ _) p m cx vs GH
      (fun j u hu=>by simpa using GG p hp j u hu) GI (by simp only[maxLen];omega) (by simpa using hby) (Nat.le_refl _)
     have my:=AU (P:=P) (w:=w) (w':=w1) (aR:=aR) hop hc ha hty (u:=v') (by rw[hsv,hxv,hp];exact hrun)
     simp only[Nat.zero_add,List.nil_append] at hown
     rcases hown.2 with⟨hv',hmz⟩|⟨g,cap,cur,hv',hg,hh,AW,hcm,hcs,htk⟩
     ·omega
     ·have hwf:g<w1.heap.size:=(Array.getElem?_eq_some_iff.1 hh).1
      obtain⟨hS',hE⟩:=aU.upd (w':=w1) (x:=.dead) (x':=.cells new e sz pu) (s':=some (g,cap)) hS hd hgrow.size hgrow.os hgrow.tape hgrow.output (fun b hb2 _=>hgrow.block b hb2 (by simp[Value.ownBlock]))
       (fun b c2 h2=> .inr (by injection h2 with h2;injection h2 with h3 h4;subst h3;exact⟨hg,hwf⟩)) trivial (fun hE=>by
        simp only[bI]
        refine⟨fun hpt=>cJ.resolve_left (by simp[hpt]),h1',.inr ⟨g,cap,cur,by rw[List.getElem?_set_self cn],hcm,hh,hcs,by
         have:(cur.toList.take (m*sz)).length=vs.length:=by rw[htk]
         simp at this;omega,fun j d hd2=>?_⟩⟩
        obtain⟨u,hu,hr⟩:=aA.get _ _ hvl j d hd2
        refine⟨u,?_,hr.ext hE⟩
        rw[←htk,List.getElem?_take] at hu
        split at hu
        ·simpa using hu
        ·cases hu)
      refine⟨v',w1,_,.inl my,hS',?_,hE⟩
      simp only[aj]
      refine⟨⟨_,_,_,_,by rw[List.getElem?_set_self hid],by omega⟩,_,_,hv',AW,fun lF fZ=>?_⟩
      obtain⟨cs2,e2,pu2,ho2,_⟩:=fZ
      rw[List.getElem?_set_self hid] at ho2
      injection ho2 with ho2
      injection ho2 with _ _ hsz2 _
      subst hsz2
      unfold iO
      rw[List.getElem?_set_self cn]
      exact⟨fun _=>by rw[kq (Nat.zero_le _)],fun _ _ _=>⟨rfl,rfl⟩,.inl ⟨by omega,by omega⟩⟩
   ·cases h
 ·
  rename_i id len tot hsa
  rw[hsa] at hs
  simp only[aj] at hs
  obtain⟨hle,B,qM,hsv,AX,hcur⟩:=hs
  split at h
  ·rename_i cs e' sz' dV ho
   split at h
   ·rename_i hcond
    obtain⟨htot,rfl,rfl,hfull,hby,hbig,cJ⟩:=hcond
    simp only[Option.some.injEq,Prod.mk.injEq] at h
    obtain⟨rfl,rfl⟩:=h
    have hid:id<o.length:=(List.getElem?_eq_some_iff.1 ho).1
    have cn:id<σ.length:=by rw[hS.len];exact hid
    have hk:=hcur sz' ⟨cs,e',dV,ho,htot⟩
    have iy:=hS.obj id _ ho
    simp only[bI] at iy
    obtain⟨q1,q2,q3⟩:=iy
    rcases Nat.eq_zero_or_pos m with hm0|Qy
    ·
     have hn0:new=[]:=List.eq_nil_of_length_eq_zero (by rw[hnl,hm0];simp)
     subst hm0 hn0
     have hset:o.set id (.cells (cs++[]) e' sz' dV)=o:=by
      apply List.ext_getElem?
      intro j
      by_cases hj:id=j
      ·subst hj;rw[List.getElem?_set_self hid,ho];simp
      ·rw[List.getElem?_set_ne hj]
     rw[hset]
     refine Gives.same hS (hzero B len qM rfl hsv AX) ?_
     simp only[aj]
     exact⟨by simpa using hle,_,_,rfl,AX,by simpa using hcur⟩
    ·have hlt:0<new.length:=by rw[hnl];exact Nat.mul_pos Qy hsz0
     obtain⟨p,_,hp,_⟩:=hnew 0 _ (List.getElem?_eq_getElem hlt)
     have hrow:∃xs:List Value,w.ownsRow 0 e' sz' (.slice B len qM) len xs∧aA A w σ o cs xs∧(∀k,(Value.slice B len qM).ownBlock=some k→∃d,σ[id]?=some (some (k,d))):=by
      unfold iO at hk
      split at hk
      ·rename_i hσ
       obtain⟨k1,rfl,rfl,rfl⟩:=hk
       refine⟨[],World.ownsRow_nil w _ _ _,?_,by simp[Value.ownBlock]⟩
       have:cs=[]:=List.eq_nil_of_length_eq_zero (by omega)
       subst this;simp[aA]
      ·rename_i b cap hσ
       obtain⟨k1,k2,k3⟩:=hk
       obtain⟨k4,k5⟩:=k2 rfl hfull hsz0
       subst k4 k5
       rcases q3 with⟨h0,_⟩|⟨b',cap',arr,r1,r2,r3,r4,r5,r6⟩
       ·rw[hσ] at h0;cases h0
       rw[hσ] at r1
       simp only[Option.some.injEq,Prod.mk.injEq] at r1
       obtain⟨rfl,rfl⟩:=r1
       refine⟨arr.toList.take (len*sz'),⟨by simp;omega,.inr ⟨b,qM,arr,rfl,Nat.zero_le _,r3,AX,r2,r4,rfl⟩⟩,aA.gv _ _ (by simp;omega) fun j d hd=>?_,fun k hk=>⟨qM,by simp[Value.ownBlock] at hk;subst hk;exact hσ⟩⟩
       obtain⟨u,hu,hr⟩:=r6 j d hd
       have hjl:j<cs.length:=(List.getElem?_eq_some_iff.1 hd).1
       exact⟨u,by rw[List.getElem?_take_of_lt (by omega)];simpa using hu,hr⟩
      ·exact hk.elim
     obtain⟨xs,hown0,hxl,hblk⟩:=hrow
     obtain⟨v',w1,hrun,hown,hgrow,hnil,hat⟩:=run_append_own_at (P:=P) w 0 t oper.type e' i zv sz' bytes ht hi hzv his hib hzs hsz0 (.slice B len qM) len xs hown0 p m cx vs GH
      (fun j u hu=>by simpa using GG p hp j u hu) GI (by simp only[maxLen];omega) hby (Nat.zero_le _)
     have my:=AU (P:=P) (w:=w) (w':=w1) (aR:=aR) hop hc ha hty (u:=v') (by rw[hsv,hxv,hp];exact hrun)
     rcases hown.2 with⟨hv',hmz⟩|⟨g,cap,cur,hv',hg,hh,AW,hcm,hcs,htk⟩
     ·omega
     ·have hwf:g<w1.heap.size:=(Array.getElem?_eq_some_iff.1 hh).1
      have hgb:(∃d,σ[id]?=some (some (g,d)))∨g=w.heap.size:=by
       have cQ:v'.ownBlock=some g:=by rw[hv'];rfl
       rcases hat with h2|h2
       ·rw[cQ] at h2
        exact .inl (hblk g h2.symm)
       ·rw[cQ] at h2
        exact .inr (by injection h2)
      have hcl:(cs++new).length=(len+m)*sz':=by rw[List.length_append,hnl,Nat.add_mul];omega
      obtain⟨hS',hE⟩:=aU.upd (w':=w1) (x':=.cells (cs++new) e' sz' dV) (s':=some (g,cap)) hS ho hgrow.size hgrow.os hgrow.tape hgrow.output
       (fun b hb2 hnb=>hgrow.block b hb2 (fun he=>by obtain⟨d,hd⟩:=hblk b he.symm;exact hnb d hd))
       (fun b c2 h2=>by
        injection h2 with h2
        injection h2 with h3 h4
        subst h3
        rcases hgb with hgb|hgb
        ·exact .inl hgb
        ·exact .inr ⟨by omega,hwf⟩)
       ⟨_,_,_,rfl,by simp,fun hll=>by simp at hll;subst hll;simp at hlt⟩ (fun hE=>by
        simp only[bI]
        refine⟨fun hpt=>nk fun d hd=>?_,gx.2 fun d hd=>?_,.inr ⟨g,cap,cur,by rw[List.getElem?_set_self cn],hcm,hh,hcs,by
         have:(cur.toList.take ((len+m)*sz')).length=(xs++vs).length:=by rw[htk]
         rw[hown.1] at this
         simp at this;omega,fun j d hd2=>?_⟩⟩
        ·rcases List.mem_append.1 hd with hd|hd
         ·exact jK (q1 hpt) d hd
         ·exact jK (cJ.resolve_left (by simp[hpt])) d hd
        ·rcases List.mem_append.1 hd with hd|hd
         ·exact gx.1 q2 d hd
         ·exact gx.1 h1' d hd
        ·obtain⟨u,hu,hr⟩:=aA.get _ _ (aA.append hxl hvl) j d hd2
         refine⟨u,?_,hr.ext hE⟩
         rw[←htk,List.getElem?_take] at hu
         split at hu
         ·simpa using hu
         ·cases hu)
      refine⟨v',w1,_,.inl my,hS',?_,hE⟩
      simp only[aj]
      refine⟨⟨_,_,_,_,by rw[List.getElem?_set_self hid],by rw[hcl,Nat.add_mul];omega⟩,_,_,hv',AW,fun lF fZ=>?_⟩
      obtain⟨cs2,e2,pu2,ho2,_⟩:=fZ
      rw[List.getElem?_set_self hid] at ho2
      injection ho2 with ho2
      injection ho2 with _ _ hsz2 _
      subst hsz2
      unfold iO
      rw[List.getElem?_set_self cn]
      refine⟨fun _=>by rw[kq (Nat.zero_le _)],fun _ _ _=>⟨rfl,rfl⟩,.inl ⟨by omega,by rw[Nat.add_mul];omega⟩⟩
   ·cases h
  ·cases h
 ·
  rename_i n cs hsa
  rw[hsa] at hs
  split at h
  ·rename_i hm0
   simp only[Option.some.injEq,Prod.mk.injEq] at h
   obtain⟨rfl,rfl⟩:=h
   have hs2:=hs
   simp only[aj] at hs
   obtain⟨B,cap,hsv,hn,_⟩:=hs
   exact Gives.same hS (hzero B n cap hm0 hsv hn) (by rw[hsv] at hs2;exact hs2)
  ·cases h
 ·cases h
end
section
variable {P:Program} {A:bG} {w w':World} {σ σ':aV} {o o':Store} {aQ:Operand→AV} {aR:Operand→Value} {oper:Oper} {v:AV}
def ft (P:Program) (t:TypeId) (l:List Value):Value:=
 match cB P t with
 |some true=> .agg l.toArray
 |_=>l.headD undef
theorem iP:∀{ks:List Nat} {vs:List Value},cq ks vs=true→vs.length=ks.length
 |[],[],_=>rfl
 |[],_::_,h=>by simp[cq] at h
 |k::ks,[],h=>by match k with
  |0|1|2|_+3=>simp[cq] at h
 |0::ks,v::vs,h=>by cases v<;>simp only[cq,Bool.false_eq_true] at h<;>simp[iP h]
 |1::ks,v::vs,h=>by cases v<;>simp only[cq,Bool.false_eq_true] at h<;>simp[iP h]
 |2::ks,v::vs,h=>by cases v<;>simp only[cq,Bool.false_eq_true] at h<;>simp[iP h]
 |(k+3)::ks,v::vs,h=>by simp[cq] at h
theorem mB:∀{ks ls:List Nat} {vs:List Value},cq (ks++ls) vs=true→cq ks (vs.take ks.length)=true∧cq ls (vs.drop ks.length)=true
 |[],ls,vs,h=>by simpa[cq] using h
 |k::ks,ls,[],h=>by match k with
  |0|1|2|_+3=>simp[cq] at h
 |0::ks,ls,v::vs,h=>by cases v<;>simp only[List.cons_append,cq,Bool.false_eq_true] at h<;>simpa[cq] using mB h
 |1::ks,ls,v::vs,h=>by cases v<;>simp only[List.cons_append,cq,Bool.false_eq_true] at h<;>simpa[cq] using mB h
 |2::ks,ls,v::vs,h=>by cases v<;>simp only[List.cons_append,cq,Bool.false_eq_true] at h<;>simpa[cq] using mB h
 |(k+3)::ks,ls,v::vs,h=>by simp[cq] at h
theorem AY:∀(n:Nat) {xs ys:List Value} {r:Bool},dq xs ys=some r→
  ∃a b,dq (xs.take n) (ys.take n)=some a∧dq (xs.drop n) (ys.drop n)=some b∧r=(a&&b)
 |0,xs,ys,r,h=>⟨true,r,by simp[dq],by simpa using h,by simp⟩
 |n+1,[],[],r,h=>by simp only[dq,Option.some.injEq] at h;exact⟨true,true,by simp[dq],by simp[dq],by simp[←h]⟩
 |n+1,[],_::_,r,h=>by simp[dq] at h
 |n+1,_::_,[],r,h=>by simp[dq] at h
 |n+1,x::xs,y::ys,r,h=>by
  simp only[dq] at h
  split at h
  ·rename_i a b ha hb
   injection h with h
   obtain⟨c,d,h1,h2,h3⟩:=AY n hb
   exact⟨a&&c,d,by simp[dq,ha,h1],by simpa using h2,by rw[←h,h3,Bool.and_assoc]⟩
  ·cases h
theorem sW {m:Nat} {t:TypeId} {ks:List Nat} (h:dK P (m+1) t=some ks):
  (P.underlying t=some .bool∧sizeT P t=some 1∧ks=[1])∨(∃k,P.underlying t=some (.int k)∧sizeT P t=some 1∧ks=[0])∨(P.underlying t=some .string∧sizeT P t=some 1∧ks=[2])∨
  (∃fs,P.underlying t=some (.struct fs)∧P.stoodInHeld t=false∧lB (dK P m) 0 fs.toList=some ks∧sizeT P t=some ks.length)∨
  ∃k e ks',P.underlying t=some (.array k e)∧dK P m e=some ks'∧ks=(List.replicate k ks').flatten∧sizeT P t=some (k*ks'.length):=by
 simp only[dK] at h
 split at h
 ·rename_i k hu hs;injection h with h;exact .inr (.inl ⟨k,hu,hs,h.symm⟩)
 ·rename_i hu hs;injection h with h;exact .inl ⟨hu,hs,h.symm⟩
 ·rename_i hu hs;injection h with h;exact .inr (.inr (.inl ⟨hu,hs,h.symm⟩))
 ·rename_i fs n hu hs
  split at h
  ·cases h
  ·rename_i hst
   split at h
   ·rename_i ks' hk
    split at h
    ·rename_i hn
     injection h with h;subst h
     exact .inr (.inr (.inr (.inl ⟨fs,hu,by simpa using hst,hk,by rw[hn];exact hs⟩)))
    ·cases h
   ·cases h
 ·rename_i k e n hu hs
  split at h
  ·rename_i ks' hk
   split at h
   ·rename_i hn
    injection h with h;subst h
    exact .inr (.inr (.inr (.inr ⟨k,e,ks',hu,hk,rfl,by rw[←hn];exact hs⟩)))
   ·cases h
  ·cases h
 ·cases h
theorem qN {m:Nat} {t:TypeId} {ks:List Nat} (h:dK P m t=some ks):sizeT P t=some ks.length∧(∃b,cB P t=some b):=by
 cases m with
 |zero=>simp[dK] at h
 |succ m=>
  rcases sW h with⟨hu,hs,rfl⟩|⟨k,hu,hs,rfl⟩|⟨hu,hs,rfl⟩|⟨fs,hu,_,_,hs⟩|⟨k,e,ks',hu,_,rfl,hs⟩
  ·exact⟨hs,false,by simp[cB,hu]⟩
  ·exact⟨hs,false,by simp[cB,hu]⟩
  ·exact⟨hs,false,by simp[cB,hu]⟩
  ·exact⟨hs,true,by simp[cB,hu]⟩
  ·exact⟨by rw[hs];simp,true,by simp[cB,hu]⟩
theorem qO {t:TypeId} {ks:List Nat} (hs:sizeT P t=some ks.length) (ha:∃b,cB P t=some b) (hlen1:cB P t=some false→ks.length=1) (xs:Array Value) (off:Nat) (hle:off+ks.length≤xs.size) (w:World):
  (part t xs off).run P w= .ok (ft P t ((xs.toList.drop off).take ks.length)) w:=by
 obtain⟨b,hb⟩:=ha
 cases b with
 |true=>
  simp only[part,Sem.run_bind,qI hb,Result.andThen_ok,if_true,kU hs,Sem.run_pure,ft,hb]
  congr 2
  apply Array.ext'
  simp[List.extract_eq_take_drop]
 |false=>
  have h1:=hlen1 hb
  have hlt:off<xs.size:=by omega
  simp only[part,Sem.run_bind,qI hb,Result.andThen_ok,Bool.false_eq_true,if_false,ft,hb,h1]
  rw[Array.getElem?_eq_getElem hlt]
  have h2:xs.toList.drop off=xs[off]::xs.toList.drop (off+1):=by
   rw[List.drop_eq_getElem_cons (by simpa using hlt)]
   simp
  rw[h2]
  simp
theorem pe {m:Nat} {t:TypeId} {ks:List Nat} (h:dK P m t=some ks) (hb:cB P t=some false):ks.length=1:=by
 cases m with
 |zero=>simp[dK] at h
 |succ m=>
  rcases sW h with⟨hu,hs,rfl⟩|⟨k,hu,hs,rfl⟩|⟨hu,hs,rfl⟩|⟨fs,hu,_,_,hs⟩|⟨k,e,ks',hu,_,rfl,hs⟩
  ·rfl
  ·rfl
  ·rfl
  ·simp[cB,hu] at hb
  ·simp[cB,hu] at hb
theorem xM (d:Nat):∀(m:Nat) (t:TypeId) (ks:List Nat),dK P m t=some ks→∀(xs ys:List Value) (r:Bool),cq ks xs=true→cq ks ys=true→dq xs ys=some r→∀w:World,
  (Op.equalIn (d+m) t (ft P t xs) (ft P t ys)).run P w= .ok r w
 |0,t,ks,hk,_,_,_,_,_,_,_=>by simp[dK] at hk
 |m+1,t,ks,hk,xs,ys,r,hx,hy,hr,w=>by
  rw[show d+(m+1)=(d+m)+1 from rfl]
  rcases sW hk with⟨hu,hs,rfl⟩|⟨k,hu,hs,rfl⟩|⟨hu,hs,rfl⟩|⟨fs,hu,hst,hk',hs⟩|⟨k,e,ks',hu,hk',rfl,hs⟩
  ·match xs,ys,hx,hy with
   |[.bool a],[.bool b],_,_=>
    simp[dq,seq1] at hr
    subst hr
    simp[ft,cB,hu,Op.equalIn,run_underlying hu]
  ·match xs,ys,hx,hy with
   |[.int k1 a],[.int k2 b],_,_=>
    simp only[dq,seq1] at hr
    by_cases he:k1=k2
    ·subst he
     simp at hr
     subst hr
     simp[ft,cB,hu,Op.equalIn,run_underlying hu]
    ·simp[he] at hr
  ·match xs,ys,hx,hy with
   |[.string a],[.string b],_,_=>
    simp[dq,seq1] at hr
    subst hr
    simp[ft,cB,hu,Op.equalIn,run_underlying hu,beq_toListBytes]
  ·have hag:cB P t=some true:=by simp[cB,hu]
   simp only[ft,hag]
   have hfs:P.fieldsOf t=fs:=by simp[Program.fieldsOf,hu]
   rw[run_equalIn_struct w (d+m) t xs.toArray ys.toArray (by rw[hfs];exact hu) hst,hfs]
   have hlx:=iP hx
   have xN:=iP hy
   have key:∀(fl:List Field) (off:Nat) (iz:List Nat),lB (dK P m) off fl=some iz→off+iz.length=ks.length→∀r,cq iz (xs.drop off)=true→cq iz (ys.drop off)=true→
     dq (xs.drop off) (ys.drop off)=some r→(Op.eqFields (d+m) xs.toArray ys.toArray fl).run P w= .ok r w:=by
    intro fl
    induction fl with
    |nil=>
     intro off iz h0 hl r h1 h2 h3
     simp only[lB,Option.some.injEq] at h0
     subst h0
     have e1:=iP h1
     have e2:=iP h2
     have g1:xs.drop off=[]:=List.eq_nil_of_length_eq_zero (by simpa using e1)
     have g2:ys.drop off=[]:=List.eq_nil_of_length_eq_zero (by simpa using e2)
     rw[g1,g2] at h3
     simp[dq] at h3
     simp[Op.eqFields,h3]
    |cons f fl ih=>
     intro off iz h0 hl r h1 h2 h3
     simp only[lB] at h0
     split at h0
     ·cases h0
     ·rename_i hnm
      split at h0
      ·rename_i a2 ha2
       split at h0
       ·rename_i r2 hr2
        injection h0 with h0;subst h0
        obtain⟨hse,hae⟩:=qN ha2
        obtain⟨h1a,h1b⟩:=mB h1
        obtain⟨h2a,h2b⟩:=mB h2
        obtain⟨a,b,h4,h5,h6⟩:=AY a2.length h3
        rw[List.drop_drop] at h1b h2b h5
        rw[List.drop_drop] at h5
        have hnm':f.name≠ "_" ∧f.offset=off:=by
         simp only[not_or,Decidable.not_not] at hnm;exact hnm
        rw[List.length_append] at hl
        have p1:=qO hse hae (fun hb=>pe ha2 hb) xs.toArray f.offset (by rw[hnm'.2];simp;omega) w
        have p2:=qO hse hae (fun hb=>pe ha2 hb) ys.toArray f.offset (by rw[hnm'.2];simp;omega) w
        rw[hnm'.2] at p1 p2
        have p3:=xM d m f.type a2 ha2 _ _ a h1a h2a h4 w
        have p4:=ih (off+a2.length) r2 hr2 (by omega) b h1b h2b h5
        simp only[Op.eqFields,hnm'.1,ne_eq,not_false_eq_true,if_true,hnm'.2,Sem.run_bind,p1,p2,Result.andThen_ok,p3]
        cases a
        ·simp[h6]
        ·simp[h6,p4]
       ·cases h0
      ·cases h0
   exact key fs.toList 0 ks hk' (by omega) r (by simpa using hx) (by simpa using hy) (by simpa using hr)
  ·obtain⟨hse,hae⟩:=qN hk'
   obtain⟨i,hi⟩:∃i,P.info? e=some i:=by
    cases hi:P.info? e with
    |none=>simp[sizeT,hi] at hse
    |some i=>exact⟨i,rfl⟩
   have hce:P.cellsOf e=ks'.length:=by
    unfold sizeT at hse
    simp[Program.cellsOf,hse]
   have hag:cB P t=some true:=by simp[cB,hu]
   simp only[ft,hag]
   rw[run_equalIn_array w (d+m) xs.toArray ys.toArray hu hi,hce]
   have hlx:=iP hx
   have xN:=iP hy
   have hfl:((List.replicate k ks').flatten).length=k*ks'.length:=by simp
   rw[hfl] at hlx xN
   have key:∀(q j:Nat),j+q=k→∀r,cq ((List.replicate q ks').flatten) (xs.drop (j*ks'.length))=true→cq ((List.replicate q ks').flatten) (ys.drop (j*ks'.length))=true→
     dq (xs.drop (j*ks'.length)) (ys.drop (j*ks'.length))=some r→(Op.eqItems (d+m) e ks'.length xs.toArray ys.toArray (List.range' j q)).run P w= .ok r w:=by
    intro q
    induction q with
    |zero=>
     intro j hj r h1 h2 h3
     have e1:=iP h1
     have e2:=iP h2
     simp only[List.replicate_zero,List.flatten_nil,List.length_nil] at e1 e2
     have g1:xs.drop (j*ks'.length)=[]:=List.eq_nil_of_length_eq_zero e1
     have g2:ys.drop (j*ks'.length)=[]:=List.eq_nil_of_length_eq_zero e2
     rw[g1,g2] at h3
     simp[dq] at h3
     simp[Op.eqItems,h3]
    |succ q ih=>
     intro j hj r h1 h2 h3
     rw[List.replicate_succ,List.flatten_cons] at h1 h2
     obtain⟨h1a,h1b⟩:=mB h1
     obtain⟨h2a,h2b⟩:=mB h2
     obtain⟨a,b,h4,h5,h6⟩:=AY ks'.length h3
     rw[List.drop_drop] at h1b h2b h5
     rw[List.drop_drop] at h5
     have hj1:j*ks'.length+ks'.length=(j+1)*ks'.length:=by rw[Nat.add_mul];omega
     rw[hj1] at h1b h2b h5
     have hle:j*ks'.length+ks'.length≤k*ks'.length:=by rw[hj1];exact Nat.mul_le_mul_right _ (by omega)
     have p1:=qO hse hae (fun hb=>pe hk' hb) xs.toArray (j*ks'.length) (by simp;omega) w
     have p2:=qO hse hae (fun hb=>pe hk' hb) ys.toArray (j*ks'.length) (by simp;omega) w
     have p3:=xM d m e ks' hk' _ _ a h1a h2a h4 w
     have p4:=ih (j+1) (by omega) b h1b h2b h5
     rw[List.range'_succ]
     simp only[Op.eqItems,Sem.run_bind,p1,p2,Result.andThen_ok,p3]
     cases a
     ·simp[h6]
     ·simp[h6,p4]
   have:=key k 0 (by omega) r (by simpa using hx) (by simpa using hy) (by simpa using hr)
   rw[List.range_eq_range']
   exact this
end
section
variable {P:Program} {A:bG} {w w':World} {σ σ':aV} {o o':Store} {aQ:Operand→AV} {aR:Operand→Value} {oper:Oper} {v:AV}
theorem AZ:∀(m:Nat) (t:TypeId) (ks:List Nat),dK P m t=some ks→∀D,m≤D→P.eqGuardType D t=false
 |0,_,_,h,_,_=>by simp[dK] at h
 |m+1,t,ks,h,0,hD=>by omega
 |m+1,t,ks,h,D+1,hD=>by
  rcases sW h with⟨hu,hs,rfl⟩|⟨k,hu,hs,rfl⟩|⟨hu,hs,rfl⟩|⟨fs,hu,hst,hk',hs⟩|⟨k,e,ks',hu,hk',rfl,hs⟩
  ·simp[Program.eqGuardType,hu]
  ·simp[Program.eqGuardType,hu]
  ·simp[Program.eqGuardType,hu]
  ·simp only[Program.eqGuardType,hu]
   rw[←Bool.not_eq_true,Array.any_eq_true']
   rintro⟨f,hf,hp⟩
   have key:∀(fl:List Field) (off:Nat) (iz:List Nat),lB (dK P m) off fl=some iz→∀f∈fl,∃A4,dK P m f.type=some A4:=by
    intro fl
    induction fl with
    |nil=>intro off iz _ f hf;simp at hf
    |cons g fl ih=>
     intro off iz h0 f hf
     simp only[lB] at h0
     split at h0
     ·cases h0
     ·split at h0
      ·rename_i a2 ha2
       split at h0
       ·rename_i r2 hr2
        rcases List.mem_cons.1 hf with rfl|hf
        ·exact⟨a2,ha2⟩
        ·exact ih _ _ hr2 f hf
       ·cases h0
      ·cases h0
   obtain⟨A4,hk3⟩:=key _ _ _ hk' f (by simpa using hf)
   rw[AZ m f.type A4 hk3 D (by omega)] at hp
   simp at hp
  ·simp only[Program.eqGuardType,hu]
   exact AZ m e ks' hk' D (by omega)
theorem xO:∀{cs:List AV} {vs us:List Value},mf cs=some vs→aA A w σ o cs us→us=vs
 |[],vs,us,h,hr=>by simp only[mf,Option.some.injEq] at h;simp only[aA] at hr;rw[hr,h]
 |c::cs,vs,us,h,hr=>by
  cases c<;>simp only[mf,reduceCtorEq,Option.map_eq_some_iff] at h
  obtain⟨r,h1,rfl⟩:=h
  simp only[aA] at hr
  obtain⟨u,us',rfl,hu,hl⟩:=hr
  rw[dM hu,xO h1 hl]
theorem Qz (hS:aU A w σ o) (hρ:∀x,aj A w σ o (aQ x) (aR x)) {op:BinOp} {neg:Bool} {t t':TypeId} {ks:List Nat} {x y:Operand} (hop:oper.op= .binOp op t x y t') (hn:(op= .eql∧neg=false)∨(op= .neq∧neg=true))
  (hag:cB P t=some true) (hk:dK P 20 t=some ks) (hD:20≤P.depth) {a b:List AV} {r:Bool} (ha:aQ x= .agg a) (hb:aQ y= .agg b) (hf:qu ks a b=some r):
  Gives A P aR oper w σ o (.sc (.bool (if neg then !r else r))) o:=by
 have h1:=hρ x
 have h2:=hρ y
 rw[ha] at h1
 rw[hb] at h2
 simp only[aj] at h1 h2
 obtain⟨xs,hx,hxl⟩:=h1
 obtain⟨ys,hy,hyl⟩:=h2
 unfold qu at hf
 split at hf
 ·rename_i va vb hsa hsb
  split at hf
  ·rename_i hko
   simp only[Bool.and_eq_true] at hko
   have e1:=xO hsa hxl
   have e2:=xO hsb hyl
   have hrun:=xM (P:=P) 9980 20 t ks hk va vb r hko.1 hko.2 hf w
   simp only[ft,hag] at hrun
   have e3:va.toArray=xs:=by rw[←e1]
   have e4:vb.toArray=ys:=by rw[←e2]
   rw[e3,e4] at hrun
   refine Gives.same hS (u:=.bool (if neg then !r else r)) ?_ (by simp[aj,Value.oneCell'])
   have hg:=AZ 20 t ks hk P.depth hD
   simp only[execOp,hop,hx,hy]
   rcases hn with⟨rfl,rfl⟩|⟨rfl,rfl⟩<;>simp[eqGuard,hg,binOp,Op.equal,Op.maxDepth,hrun]
  ·cases hf
 ·cases hf
theorem xQ (em:Bool) (d:Nat):∀(m:Nat) (t:TypeId) (ks:List Nat),dK P m t=some ks→∀(xs:List Value),cq ks xs=true→∀w:World,(Instr.checkKey em (d+m) t (ft P t xs)).run P w= .ok () w
 |0,t,ks,hk,_,_,_=>by simp[dK] at hk
 |m+1,t,ks,hk,xs,hx,w=>by
  rw[show d+(m+1)=(d+m)+1 from rfl]
  rcases sW hk with⟨hu,hs,rfl⟩|⟨k,hu,hs,rfl⟩|⟨hu,hs,rfl⟩|⟨fs,hu,hst,hk',hs⟩|⟨k,e,ks',hu,hk',rfl,hs⟩
  ·match xs,hx with
   |[.bool a],_=>simp[ft,cB,hu,Instr.checkKey,run_underlying hu]
  ·match xs,hx with
   |[.int k a],_=>simp[ft,cB,hu,Instr.checkKey,run_underlying hu]
  ·match xs,hx with
   |[.string a],_=>simp[ft,cB,hu,Instr.checkKey,run_underlying hu]
  ·have hag:cB P t=some true:=by simp[cB,hu]
   simp only[ft,hag,Instr.checkKey,Sem.run_bind,run_underlying hu,Result.andThen_ok]
   have hlx:=iP hx
   have key:∀(fl:List Field) (off:Nat) (iz:List Nat),lB (dK P m) off fl=some iz→off+iz.length=ks.length→cq iz (xs.drop off)=true→
     (forIn fl PUnit.unit fun(f:Field) (_:PUnit)=>(do
      if f.name≠ "_" then
       Instr.checkKey em (d+m) f.type (←part f.type xs.toArray f.offset)
      pure (ForInStep.yield PUnit.unit):Sem (ForInStep PUnit))).run P w= .ok PUnit.unit w:=by
    intro fl
    induction fl with
    |nil=>intro off iz _ _ _;simp
    |cons f fl ih=>
     intro off iz h0 hl h1
     simp only[lB] at h0
     split at h0
     ·cases h0
     ·rename_i hnm
      split at h0
      ·rename_i a2 ha2
       split at h0
       ·rename_i r2 hr2
        injection h0 with h0;subst h0
        obtain⟨hse,hae⟩:=qN ha2
        obtain⟨h1a,h1b⟩:=mB h1
        rw[List.drop_drop] at h1b
        have hnm':f.name≠ "_" ∧f.offset=off:=by
         simp only[not_or,Decidable.not_not] at hnm;exact hnm
        rw[List.length_append] at hl
        have p1:=qO hse hae (fun hb=>pe ha2 hb) xs.toArray f.offset (by rw[hnm'.2];simp;omega) w
        rw[hnm'.2] at p1
        have p3:=xQ em d m f.type a2 ha2 _ h1a w
        have p4:=ih (off+a2.length) r2 hr2 (by omega) h1b
        simp only[List.forIn_cons,Sem.run_bind,hnm'.1,ne_eq,not_false_eq_true,if_true,hnm'.2,p1,Result.andThen_ok,p3,Sem.run_pure]
        exact p4
       ·cases h0
      ·cases h0
   have:=key fs.toList 0 ks hk' (by omega) (by simpa using hx)
   rw[←Array.forIn_toList]
   simp only[this,Result.andThen_ok,Sem.run_pure]
  ·obtain⟨hse,hae⟩:=qN hk'
   have hag:cB P t=some true:=by simp[cB,hu]
   simp only[ft,hag,Instr.checkKey,Sem.run_bind,run_underlying hu,Result.andThen_ok]
   simp only[Std.Legacy.Range.forIn_eq_forIn_range',Std.Legacy.Range.size,Nat.sub_zero,Nat.add_one_sub_one,Nat.div_one]
   have hlx:=iP hx
   have hfl:((List.replicate k ks').flatten).length=k*ks'.length:=by simp
   rw[hfl] at hlx
   have key:∀(q j:Nat),j+q=k→cq ((List.replicate q ks').flatten) (xs.drop (j*ks'.length))=true→
     (forIn (List.range' j q) PUnit.unit fun(i:Nat) (_:PUnit)=>(do
      Instr.checkKey em (d+m) e (←part e xs.toArray (i*(←sizeOf e)))
      pure (ForInStep.yield PUnit.unit):Sem (ForInStep PUnit))).run P w= .ok PUnit.unit w:=by
    intro q
    induction q with
    |zero=>intro j _ _;simp
    |succ q ih=>
     intro j hj h1
     rw[List.replicate_succ,List.flatten_cons] at h1
     obtain⟨h1a,h1b⟩:=mB h1
     rw[List.drop_drop] at h1b
     have hj1:j*ks'.length+ks'.length=(j+1)*ks'.length:=by rw[Nat.add_mul];omega
     rw[hj1] at h1b
     have hle:j*ks'.length+ks'.length≤k*ks'.length:=by rw[hj1];exact Nat.mul_le_mul_right _ (by omega)
     have p1:=qO hse hae (fun hb=>pe hk' hb) xs.toArray (j*ks'.length) (by simp;omega) w
     have p3:=xQ em d m e ks' hk' _ h1a w
     have p4:=ih (j+1) (by omega) h1b
     rw[List.range'_succ]
     simp only[List.forIn_cons,Sem.run_bind,kU hse,Result.andThen_ok,p1,p3,Sem.run_pure]
     exact p4
   have:=key k 0 (by omega) (by simpa using hx)
   simp only[this,Result.andThen_ok,Sem.run_pure]
theorem QA {a b:ByteArray} (h:a.toList=b.toList):a=b:=by
 have h2:(a==b)=true:=by rw[beq_toListBytes];simp[h]
 obtain⟨x⟩:=a
 obtain⟨y⟩:=b
 have h3:(x==y)=true:=h2
 have h4:x=y:=by simpa using h3
 rw[h4]
theorem GK {a b:Value} (h:seq1 a b=some true):a=b∧(∀n,Instr.sameBits n b a=true):=by
 unfold seq1 at h
 split at h
 ·split at h
  ·rename_i hk
   subst hk
   simp at h
   subst h
   exact⟨rfl,fun n=>by simp[Instr.sameBits]⟩
  ·cases h
 ·simp at h;subst h;exact⟨rfl,fun n=>by simp[Instr.sameBits]⟩
 ·simp at h
  have:=QA h
  subst this
  exact⟨rfl,fun n=>by simp[Instr.sameBits,beq_toListBytes]⟩
 ·cases h
theorem GL:∀{xs ys:List Value},dq xs ys=some true→xs=ys∧∀n,(ys.zip xs).all (fun p=>Instr.sameBits n p.1 p.2)=true
 |[],[],_=>⟨rfl,fun _=>rfl⟩
 |[],_::_,h=>by simp[dq] at h
 |_::_,[],h=>by simp[dq] at h
 |x::xs,y::ys,h=>by
  simp only[dq] at h
  split at h
  ·rename_i a b ha hb
   simp only[Option.some.injEq,Bool.and_eq_true] at h
   obtain⟨rfl,rfl⟩:=h
   obtain⟨h1,h2⟩:=GK ha
   obtain⟨h3,h4⟩:=GL hb
   exact⟨by rw[h1,h3],fun n=>by simp[h2 n,h4 n]⟩
  ·cases h
theorem QB {a b:Value} (h:keq a b=some true):a=b∧∀n,Instr.sameBits (n+1) b a=true:=by
 unfold keq at h
 split at h
 ·rename_i x y
  obtain⟨h1,h2⟩:=GL h
  have h3:x=y:=Array.ext' h1
  subst h3
  exact⟨rfl,fun n=>by simp only[Instr.sameBits,beq_self_eq_true,Bool.true_and];exact h2 n⟩
 ·cases h
 ·cases h
 ·obtain⟨h1,h2⟩:=GK h
  exact⟨h1,fun n=>h2 (n+1)⟩
def qP (P:Program) (t:TypeId) (ks:List Nat) (k:Value):Prop:=∃l,cq ks l=true∧k=ft P t l
theorem qG.fits {t:TypeId} {ks:List Nat} {ka:Bool} {k:Value} (hag:cB P t=some ka) (h:qG (ks,ka) k):qP P t ks k:=by
 obtain⟨l,h1,h2⟩:=h
 refine⟨l,h1,?_⟩
 cases ka
 ·simp only[Bool.false_eq_true,if_false] at h2
  subst h2
  simp[ft,hag]
 ·simp only[if_true] at h2
  simp[ft,hag,h2]
theorem GM {ks:List Nat} {ka:Bool} {a:AV} {u k:Value} (h:aj A w σ o a u) (hh:kP ks ka a=some k):u=k∧qG (ks,ka) k:=by
 cases a<;>simp only[kP,reduceCtorEq] at hh
 ·rename_i v
  split at hh
  ·rename_i hc
   simp only[Bool.and_eq_true,Bool.not_eq_true'] at hc
   injection hh with hh;subst hh
   exact⟨dM h,[v],hc.2,by simp[hc.1]⟩
  ·cases hh
 ·rename_i cs
  split at hh
  ·rename_i vs hvs
   split at hh
   ·rename_i hc
    simp only[Bool.and_eq_true] at hc
    injection hh with hh;subst hh
    simp only[aj] at h
    obtain⟨us,rfl,hl⟩:=h
    have:=xO hvs hl
    exact⟨by rw[←this],vs,hc.2,by simp[hc.1]⟩
   ·cases hh
  ·cases hh
theorem QC {t:TypeId} {ks:List Nat} (hk:dK P 20 t=some ks) {a b:Value} (ha:qP P t ks a) (hb:qP P t ks b) {r:Bool} (h:keq a b=some r) (w:World):(Op.equal t a b).run P w= .ok r w:=by
 obtain⟨la,h1,rfl⟩:=ha
 obtain⟨lb,h2,rfl⟩:=hb
 have hs:dq la lb=some r:=by
  unfold ft at h
  obtain⟨_,ba,hba⟩:=qN hk
  cases ba with
  |true=>simp only[hba,keq] at h;exact h
  |false=>
   have h3:=pe hk hba
   have h4:=iP h1
   have h5:=iP h2
   rw[h3] at h4 h5
   match la,lb,h4,h5 with
   |[x],[y],_,_=>
    simp only[hba,List.headD_cons] at h
    have hx:seq1 x y=some r:=by
     match ks,h3 with
     |[q],_=>cases x<;>cases y<;>simp_all [cq,keq]<;>(match q with|0|1|2|_+3=>simp_all [cq])
    simp[dq,hx]
 exact xM 9980 20 t ks hk la lb r h1 h2 hs w
theorem QE {d:TypeDesc} {a b:Value} {r:Bool} (h:keq a b=some r):
  Instr.sameNow d a b=some r∨Instr.sameNow d a b=none:=by
 cases hq:Instr.sameNow d a b with
 |none=>exact .inr rfl
 |some r'=>
  left
  unfold Instr.sameNow at hq
  split at hq
  ·split at hq
   ·rename_i hkk
    subst hkk
    simp[keq,seq1] at h
    simp at hq
    rw[←hq,h]
   ·cases hq
  ·simp[keq,seq1] at h
   simp only[Option.some.injEq] at hq
   rw[←hq,beq_toListBytes,←h]
  ·simp[keq,seq1] at h
   simp at hq
   rw[←hq,h]
  ·cases hq
theorem GN {t:TypeId} {ks:List Nat} (hk:dK P 20 t=some ks) {k:Value} (pg:qP P t ks k) (w:World) (es:List (Value×AV)) (en:List MapEntry) (hlen:en.length=es.length)
  (hen:∀(j:Nat) (e:Value×AV),es[j]?=some e→∃m,en[j]?=some m∧m.key=e.1∧qP P t ks m.key) {r:Option (Nat×AV)} (hf:jm k es 0=some r):
  match r with
  |none=>(Instr.findKey t k en).run P w= .ok none w
  |some (i,a)=>∃e m,es[i]?=some e∧e.2=a∧en[i]?=some m∧keq k e.1=some true∧(Instr.findKey t k en).run P w= .ok (some (i,m.val)) w:=by
 obtain⟨d,hu⟩:∃d,P.underlying t=some d:=by
  have:=(qN hk).2
  obtain⟨b,hb⟩:=this
  cases hu:P.underlying t with
  |none=>simp[cB,hu] at hb
  |some d=>exact⟨d,rfl⟩
 have key:∀(es:List (Value×AV)) (en:List MapEntry) (i:Nat),en.length=es.length→(∀(j:Nat) (e:Value×AV),es[j]?=some e→∃m,en[j]?=some m∧m.key=e.1∧qP P t ks m.key)→∀r,jm k es i=some r→
   (match r with
    |none=>(Instr.findAsking t k en i).run P w= .ok none w∧(∀q,Instr.findNow d k en i=some q→q=none)
    |some (n,a)=>∃e m,i≤n∧es[n - i]?=some e∧e.2=a∧en[n - i]?=some m∧keq k e.1=some true∧(Instr.findAsking t k en i).run P w= .ok (some (n,m.val)) w∧(∀q,Instr.findNow d k en i=some q→q=some (n,m.val))):=by
  intro es
  induction es with
  |nil=>
   intro en i hl _ r hr
   have:en=[]:=List.eq_nil_of_length_eq_zero (by simpa using hl)
   subst this
   simp only[jm,Option.some.injEq] at hr
   subst hr
   exact⟨by simp[Instr.findAsking],by simp[Instr.findNow]⟩
  |cons e es ih=>
   intro en i hl hg r hr
   match en,hl with
   |m::en,hl=>
    obtain⟨m',hm',hmk,QF⟩:=hg 0 e (by simp)
    simp at hm'
    subst hm'
    simp only[jm] at hr
    cases hq:keq k e.1 with
    |none=>simp[hq] at hr
    |some b=>
     have hrun:=QC hk pg QF (r:=b) (by rw[hmk];exact hq) w
     have hsn:=QE (d:=d) (a:=k) (b:=m.key) (r:=b) (by rw[hmk];exact hq)
     cases b with
     |true=>
      simp only[hq,Option.some.injEq] at hr
      subst hr
      refine⟨e,m,Nat.le_refl _,by simp,rfl,by simp,hq,?_,?_⟩
      ·simp[Instr.findAsking,hrun]
      ·intro q hqq
       simp only[Instr.findNow] at hqq
       rcases hsn with h|h<;>simp[h] at hqq
       exact hqq.symm
     |false=>
      simp only[hq] at hr
      have:=ih en (i+1) (by simpa using hl) (fun j e' he=>by simpa using hg (j+1) e' (by simpa using he)) r hr
      have e1:(Instr.findAsking t k (m::en) i).run P w=(Instr.findAsking t k en (i+1)).run P w:=by
       simp[Instr.findAsking,hrun]
      have e2:∀q,Instr.findNow d k (m::en) i=some q→Instr.findNow d k en (i+1)=some q:=by
       intro q hqq
       simp only[Instr.findNow] at hqq
       rcases hsn with h|h<;>simp[h] at hqq
       exact hqq
      match r,this with
      |none,⟨h1,h2⟩=>exact⟨by rw[e1];exact h1,fun q hq=>h2 q (e2 q hq)⟩
      |some (n,a),⟨e',m',h1,h2,h3,h4,h5,h6,h7⟩=>
       refine⟨e',m',by omega,?_,h3,?_,h5,by rw[e1];exact h6,fun q hq=>h7 q (e2 q hq)⟩
       ·rw[show n - i=(n - (i+1))+1 from by omega];simpa using h2
       ·rw[show n - i=(n - (i+1))+1 from by omega];simpa using h4
 have:=key es en 0 hlen hen r hf
 match r,this with
 |none,⟨h1,h2⟩=>
  simp only[Instr.findKey,Sem.run_bind,run_underlying hu,Result.andThen_ok]
  cases hq:Instr.findNow d k en 0 with
  |none=>simpa[hq] using h1
  |some q=>simp[h2 q hq]
 |some (n,a),⟨e,m,h1,h2,h3,h4,h5,h6,h7⟩=>
  refine⟨e,m,by simpa using h2,h3,by simpa using h4,h5,?_⟩
  simp only[Instr.findKey,Sem.run_bind,run_underlying hu,Result.andThen_ok]
  cases hq:Instr.findNow d k en 0 with
  |none=>simpa[hq] using h6
  |some q=>simp[h7 q hq]
theorem QG (hS:aU A w σ o) {t:TypeId} {kt:List Nat×Bool} {pu:Bool} {am:Nat} (hop:oper.op= .makeMap t none) (hd:o[am]?=some .dead):Gives A P aR oper w σ o (.mp am) (o.set am (.map [] kt pu)):=by
 have hid:am<o.length:=(List.getElem?_eq_some_iff.1 hd).1
 have cn:am<σ.length:=by rw[hS.len];exact hid
 obtain⟨hS',hE⟩:=aU.upd (w':=w.alloc (.map #[] 0)) (x:=.dead) (x':=.map [] kt pu) (s':=some (w.heap.size,1)) hS hd (by simp) rfl rfl rfl (fun b hb _=>heap_alloc_old w _ b hb)
  (fun b c h=> .inr (by
   simp only[Option.some.injEq,Prod.mk.injEq] at h
   obtain⟨rfl,_⟩:=h
   exact⟨Nat.le_refl _,by simp⟩)) trivial (fun hE=>by
   simp only[bI]
   exact⟨by simp,by simp,w.heap.size,1,#[],0,by rw[List.getElem?_set_self cn],heap_alloc_new w _,rfl,by simp⟩)
 refine⟨.map (some w.heap.size),_,_,.inl ?_,hS',?_,hE⟩
 ·simp[execOp,hop,Instr.makeMap,newObj,Sem.run]
 ·simp only[aj]
  exact⟨⟨[],kt,pu,by rw[List.getElem?_set_self hid]⟩,w.heap.size,1,by rw[List.getElem?_set_self cn],rfl⟩
theorem GQ (hS:aU A w σ o) {id:Nat} {es:List (Value×AV)} {kt:List Nat×Bool} {pu:Bool} (ho:o[id]?=some (.map es kt pu)) {u:Value} (h:aj A w σ o (.mp id) u):
  ∃(b c:Nat) (entries:Array MapEntry) (clock:Nat),σ[id]?=some (some (b,c))∧u= .map (some b)∧w.heap[b]?=some (.map entries clock)∧entries.size=es.length∧(pu=true→∀e∈es,e.2.pure=true)∧(∀e∈es,qG kt e.1)∧
   ∀(j:Nat) (e:Value×AV),es[j]?=some e→∃m,entries[j]?=some m∧m.key=e.1∧aj A w σ o e.2 m.val:=by
 simp only[aj] at h
 obtain⟨_,b,c,hσ,rfl⟩:=h
 have hx:=hS.obj id _ ho
 simp only[bI] at hx
 obtain⟨h1,h2,b',c',en,cl,h3,h4,h5,h6⟩:=hx
 rw[hσ] at h3
 simp only[Option.some.injEq,Prod.mk.injEq] at h3
 obtain⟨rfl,rfl⟩:=h3
 exact⟨b,c,en,cl,hσ,rfl,h4,h5,h1,h2,h6⟩
theorem GR {t:TypeId} {z:List Value} {g:Bool} {a:AV} (hz:gY P t=some z) (hg:sQ P t g=true) (ha:lx z g=some a):∃u,(∀w:World,(zeroValue t).run P w= .ok u w)∧aj A w σ o a u:=by
 obtain⟨i,zv,hi,hzv,hcells,hsize,hone⟩:=o8 hz
 refine⟨zv,fun w=>by simp[zeroValue,typeInfo,hi,hzv],?_⟩
 simp only[sQ,hi,hzv,Option.bind_some] at hg
 unfold lx at ha
 cases zv with
 |agg cs=>
  simp only at hg
  subst hg
  simp only[if_true,Option.some.injEq] at ha
  subst ha
  simp only[aj]
  simp only[Value.cells] at hcells
  exact⟨cs,rfl,by rw[hcells];exact qJ A w σ o z hone⟩
 |_=>
  simp only[Bool.not_eq_true'] at hg
  subst hg
  simp only[Value.cells] at hcells
  subst hcells
  simp only[Bool.false_eq_true,if_false,Option.some.injEq] at ha
  subst ha
  exact by simp[aj,hone]
theorem QH {t:TypeId} {z:List Value} {g:Bool} (hz:gY P t=some z) (hg:sQ P t g=true):∃a,lx z g=some a:=by
 obtain⟨i,zv,hi,hzv,hcells,hsize,hone⟩:=o8 hz
 simp only[sQ,hi,hzv,Option.bind_some] at hg
 unfold lx
 cases zv with
 |agg cs=>simp only at hg;subst hg;exact⟨_,rfl⟩
 |_=>
  simp only[Bool.not_eq_true'] at hg
  subst hg
  simp only[Value.cells] at hcells
  subst hcells
  exact⟨_,rfl⟩
theorem GT (hS:aU A w σ o) (hρ:∀x,aj A w σ o (aQ x) (aR x)) {t kt et:TypeId} {ks:List Nat} {ka g ok:Bool} {z:List Value} {x k:Operand} (hop:oper.op= .lookup t x k ok) (ht:P.underlying t=some (.map kt et))
  (hk:dK P 20 kt=some ks) (hag:cB P kt=some ka) (hz:∃a u,lx z g=some a∧(∀w:World,(zeroValue et).run P w= .ok u w)∧aj A w σ o a u)
  {id:Nat} (hx:aQ x= .mp id) {kv:Value} (hkv:kP ks ka (aQ k)=some kv) {es:List (Value×AV)} {pu:Bool} (ho:o[id]?=some (.map es (ks,ka) pu))
  {r:Option (Nat×AV)} (hf:jm kv es 0=some r) {zv:AV} (hzv:lx z g=some zv):
  Gives A P aR oper w σ o (if ok then .aD [(r.map (·.2)).getD zv,.sc (.bool r.isSome)] else(r.map (·.2)).getD zv) o:=by
 have h1:=hρ x
 rw[hx] at h1
 obtain⟨b,c,en,cl,hσ,hu,hh,hlen,_,pg,hen⟩:=GQ hS ho h1
 obtain⟨hk1,hk2⟩:=GM (hρ k) hkv
 obtain⟨a0,z0,hz1,hz2,hz3⟩:=hz
 rw[hz1] at hzv
 injection hzv with hzv
 subst hzv
 have sX:=hk2.fits hag
 have hfind:=GN hk sX w es en.toList (by simpa using hlen) (fun j e he=>by
  obtain⟨m,hm,hmk,_⟩:=hen j e he
  exact⟨m,by simpa using hm,hmk,by rw[hmk];exact(pg e (List.mem_of_getElem? he)).fits hag⟩) hf
 obtain⟨lk,A5,hlk2⟩:=sX
 have hck:=xQ (P:=P) en.isEmpty 9980 20 kt ks hk lk A5 w
 rw[←hlk2] at hck
 have hget:(getObj b).run P w= .ok (.map en cl) w:=by simp[getObj,Sem.run,hh]
 have main:∃u,aj A w σ o ((r.map (·.2)).getD a0) u∧(execOp aR oper).run P w= .ok (.value (if ok then .tuple #[u,.bool r.isSome] else u)) w:=by
  cases r with
  |none=>
   refine⟨z0,hz3,?_⟩
   simp only[execOp,hop,Instr.lookup,hu,hk1]
   simp[run_underlying ht,hget,hck,hfind,hz2]
  |some p=>
   obtain⟨i,a⟩:=p
   obtain⟨e,m,q1,q2,q3,q4,q5⟩:=hfind
   obtain⟨m',hm',_,hr⟩:=hen i e q1
   have:m'=m:=by
    rw[Array.getElem?_toList] at q3
    rw[hm'] at q3
    injection q3
   subst this
   refine⟨m'.val,by rw[←q2];exact hr,?_⟩
   simp only[execOp,hop,Instr.lookup,hu,hk1]
   simp[run_underlying ht,hget,hck,q5]
 obtain⟨u,hr,my⟩:=main
 refine Gives.same hS my ?_
 cases ok
 ·simpa using hr
 ·simp only[if_true,aj]
  exact⟨_,rfl,by simp only[aA];exact⟨u,[.bool r.isSome],rfl,hr,.bool r.isSome,[],rfl,by simp[aj,Value.oneCell'],rfl⟩⟩
theorem QI {k:Value} (h:∀n,Instr.sameBits (n+1) k k=true) (w:World):(Instr.keyThatStays k k).run P w= .ok k w:=by
 simp[Instr.keyThatStays,h 9999]
theorem xR (hS:aU A w σ o) (hρ:∀x,aj A w σ o (aQ x) (aR x)) {t kt et:TypeId} {ks:List Nat} {ka:Bool} {x k y:Operand} (hop:oper.op= .mapUpdate t x k y∨oper.op= .insert t x k y) (ht:P.underlying t=some (.map kt et))
  (hk:dK P 20 kt=some ks) (hag:cB P kt=some ka)
  {id:Nat} (hx:aQ x= .mp id) {kv:Value} (hkv:kP ks ka (aQ k)=some kv) {es:List (Value×AV)} {pu:Bool} (ho:o[id]?=some (.map es (ks,ka) pu)) (cJ:pu=true→(aQ y).pure=true)
  {r:Option (Nat×AV)} (hf:jm kv es 0=some r):
  Gives A P aR oper w σ o .ud (o.set id (.map (match r with|some (i,_)=>es.modify i fun _=>(kv,aQ y)|none=>es++[(kv,aQ y)]) (ks,ka) pu)):=by
 have h1:=hρ x
 rw[hx] at h1
 obtain⟨b,c,en,cl,hσ,hu,hh,hlen,GU,pg,hen⟩:=GQ hS ho h1
 obtain⟨hk1,hk2⟩:=GM (hρ k) hkv
 have sX:=hk2.fits hag
 have hfind:=GN hk sX w es en.toList (by simpa using hlen) (fun j e he=>by
  obtain⟨m,hm,hmk,_⟩:=hen j e he
  exact⟨m,by simpa using hm,hmk,by rw[hmk];exact(pg e (List.mem_of_getElem? he)).fits hag⟩) hf
 obtain⟨lk,A5,hlk2⟩:=sX
 have hck:=xQ (P:=P) false 9980 20 kt ks hk lk A5 w
 rw[←hlk2] at hck
 have hget:(getObj b).run P w= .ok (.map en cl) w:=by simp[getObj,Sem.run,hh]
 have hset:∀X:Obj,(setObj b X).run P w= .ok () {w with heap:=w.heap.setIfInBounds b X}:=by
  intro X;simp[setObj,Sem.run,hh]
 have hblt:b<w.heap.size:=hS.bnd id b c hσ
 have hid:id<o.length:=(List.getElem?_eq_some_iff.1 ho).1
 have cn:id<σ.length:=by rw[hS.len];exact hid
 have QJ:σ.set id (some (b,c))=σ:=by
  apply List.ext_getElem?
  intro i
  by_cases hi:id=i
  ·subst hi;rw[List.getElem?_set_self cn,hσ]
  ·rw[List.getElem?_set_ne hi]
 have fin:∀(en':Array MapEntry) (cl':Nat) (es':List (Value×AV)),(execOp aR oper).run P w= .ok .skip {w with heap:=w.heap.setIfInBounds b (.map en' cl')}→en'.size=es'.length→
   (pu=true→∀e∈es',e.2.pure=true)→(∀e∈es',qG (ks,ka) e.1)→(∀(j:Nat) (e:Value×AV),es'[j]?=some e→∃m,en'[j]?=some m∧m.key=e.1∧aj A w σ o e.2 m.val)→
   Gives A P aR oper w σ o .ud (o.set id (.map es' (ks,ka) pu)):=by
  intro en' cl' es' my f1 f2 f3 f4
  have hat:({w with heap:=w.heap.setIfInBounds b (.map en' cl')}:World).heap[b]?=some (.map en' cl'):=by simp[hblt]
  obtain⟨hS',hE⟩:=aU.upd (w':={w with heap:=w.heap.setIfInBounds b (.map en' cl')}) (x':=.map es' (ks,ka) pu) (s':=some (b,c)) hS ho (by simp) rfl rfl rfl
   (fun q _ hq=>by
    have:b≠q:=fun he=>hq c (he▸hσ)
    simp[Array.getElem?_setIfInBounds_ne this])
   (fun b2 c2 h2=> .inl ⟨c,by injection h2 with h2;injection h2 with h3 h4;rw[hσ,h3]⟩) ⟨⟨_,_,_,rfl⟩,hσ⟩ (fun hE=>by
    simp only[bI]
    refine⟨f2,f3,b,c,en',cl',by rw[List.getElem?_set_self cn],hat,f1,fun j e he=>?_⟩
    obtain⟨m,q1,q2,q3⟩:=f4 j e he
    exact⟨m,q1,q2,q3.ext hE⟩)
  rw[QJ] at hS' hE
  exact⟨undef,_,σ,.inr ⟨my,rfl⟩,hS',by simp[aj],hE⟩
 cases r with
 |none=>
  refine fin (en.push {key:=kv,val:=aR y,born:=cl}) (cl+1) (es++[(kv,aQ y)]) ?_ (by simp[hlen]) ?_ ?_ ?_
  ·rcases hop with hop|hop<;>simp only[execOp,hop,Instr.mapUpdate,hu,hk1]<;>simp[run_underlying ht,hget,hck,hfind,hset]
  ·intro hp e he
   rcases List.mem_append.1 he with he|he
   ·exact GU hp e he
   ·simp at he;subst he;exact cJ hp
  ·intro e he
   rcases List.mem_append.1 he with he|he
   ·exact pg e he
   ·simp at he;subst he;exact hk2
  ·intro j e he
   rw[List.getElem?_append] at he
   split at he
   ·rename_i hj
    obtain⟨m,q1,q2,q3⟩:=hen j e he
    exact⟨m,by rw[Array.getElem?_push_lt (by omega)];rw[←q1];simp[hlen,hj],q2,q3⟩
   ·rename_i hj
    have:j=es.length:=by
     have:=(List.getElem?_eq_some_iff.1 he).1
     simp at this;omega
    subst this
    simp at he
    subst he
    exact⟨{key:=kv,val:=aR y,born:=cl},by rw[←hlen];simp,rfl,hρ y⟩
 |some p=>
  obtain⟨i,a⟩:=p
  obtain⟨e,m,q1,q2,q3,q4,q5⟩:=hfind
  obtain⟨q6,q7⟩:=QB q4
  have hmk:m.key=kv:=by
   obtain⟨m',hm',hmk',_⟩:=hen i e q1
   rw[Array.getElem?_toList] at q3
   rw[hm'] at q3
   injection q3 with q3
   rw[←q3,hmk',q6]
  rw[Array.getElem?_toList] at q3
  refine fin (en.modify i fun e=>{e with key:=kv,val:=aR y}) cl (es.modify i fun _=>(kv,aQ y)) ?_ (by simp[hlen]) ?_ ?_ ?_
  ·have hst:(Instr.keyThatStays (((en[i]?).map (·.key)).getD kv) kv).run P w= .ok kv w:=by
    rw[q3]
    simp only[Option.map_some,Option.getD_some,hmk]
    exact QI (by rw[q6] at q7 ⊢;exact q7) w
   rcases hop with hop|hop<;>simp only[execOp,hop,Instr.mapUpdate,hu,hk1]<;>simp[run_underlying ht,hget,hck,q5,hst,hset]
  ·intro hp e' he
   obtain⟨j,hj⟩:=List.getElem?_of_mem he
   rw[List.getElem?_modify] at hj
   split at hj
   ·simp at hj;obtain⟨_,_,rfl⟩:=hj;exact cJ hp
   ·simp at hj;exact GU hp e' (List.mem_of_getElem? hj)
  ·intro e' he
   obtain⟨j,hj⟩:=List.getElem?_of_mem he
   rw[List.getElem?_modify] at hj
   split at hj
   ·simp at hj;obtain⟨_,_,rfl⟩:=hj;exact hk2
   ·simp at hj;exact pg e' (List.mem_of_getElem? hj)
  ·intro j e' he
   rw[List.getElem?_modify] at he
   split at he
   ·rename_i hij
    subst hij
    simp at he
    obtain⟨_,_,rfl⟩:=he
    exact⟨{m with key:=kv,val:=aR y},by simp[Array.getElem?_modify,q3],rfl,hρ y⟩
   ·rename_i hij
    simp at he
    obtain⟨m',r1,r2,r3⟩:=hen j e' he
    exact⟨m',by simp[Array.getElem?_modify,hij,r1],r2,r3⟩
end
end Go.Vi
