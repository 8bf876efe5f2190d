/-
  The abstract interpreter: what it means that a value and a store of the interpreter stand for a value and a world of the model.
  Conditions: none.
-/
import Derived.Test.YtgejbpobaicgfaaGreatRK00
import Derived.OwnWalk
import Derived.Maps.AppendAt
import Derived.Laws.CopyRow
import Derived.Laws.Cells
import Derived.Laws.Entries
import Derived.Laws.Small
import Derived.Laws.Tables
import Derived.Laws.MakeOwn
import Derived.Great.BuildSlice
import Derived.Laws.StructEq
import Derived.ChangeKeysEq
set_option maxRecDepth 100000
set_option maxHeartbeats 4000000
set_option linter.all false
namespace Go.Vi
abbrev gB:=List (Option (Nat×Nat))
def Own (σ:gB) (b:Nat):Prop:=∃(i c:Nat),σ[i]?=some (some (b,c))
def aey (o:Store) (id a:Nat):Prop:=∃b e d c,o[id]?=some (.cells b e d c)/\a<=b.length
def afq (o:Store) (id sz a:Nat):Prop:=∃b e c,o[id]?=some (.cells b e sz c)/\b.length=a
def IsMap (o:Store) (id:Nat):Prop:=∃c b a,o[id]?=some (.map c b a)
def Ss (σ:gB) (id e f d sz:Nat) (a:Option Addr) (cap:Nat):Prop:=
 match σ[id]? with
 |some none=>d=0/\a=none/\cap=0/\f=0
 |some (some (b,c))=>(0<f->a=some ⟨b,adV e d sz,none⟩)/\(e=0->f*sz=d->0<sz->a=some ⟨b,0,none⟩/\cap=c)/\((e<=d/\e+f*sz<=d)\/(d+sz<=e/\e - d - sz+f*sz<=d/\0<sz))
 |none=>False
theorem ab4 {a b sz:Nat} (h:a<=b):adV a b sz=a:=by
 simp_all[adV]
theorem akp {a b sz:Nat} (h:b<a):adV a b sz=a - b - sz:=by
 simp_all[adV,if_neg]
structure qa where
 p:Nat->Prop
 l:Nat
instance:CoeFun qa (fun _=>Nat->Prop):=⟨qa.p⟩
class aa9 (A A':qa):Prop where
 eq:A'.l=A.l
instance (A:qa):aa9 A A:=⟨rfl⟩
instance (A:qa) (p:Nat->Prop):aa9 A ⟨p,A.l⟩:=⟨rfl⟩
def fnL (l:Nat):Fn->Fn
 | .yield _=> .yield l
 |f=>f
def Fr (A:qa) (σ:gB) (b:Nat):Prop:=¬Own σ b/\¬A b
section
variable (A:qa) (w:World) (σ:gB) (o:Store)
mutual
def cQ:AV->Value->Prop
 | .ud,_=>True
 | .sc u,v=>v=u/\u.oneCell'=true
 | .agg e,v=>∃k,v= .agg k/\ey e k.toList
 | .eW e,v=>∃k,v= .tuple k/\ey e k.toList
 | .sl n e,v=>∃a d,v= .slice a n d/\n<=d/\pZ e=true/\oQ e a 0
 | .ep e h,v=>∃a:Addr,v= .pointer (some (a.add h))/\pZ e=true/\oQ e (some a) 0
 | .ptr i h g,v=>aey o i g/\(∃a,v= .pointer (some a))/\∀p,afq o i p g->∃b c,σ[i]?=some (some (b,c))/\v= .pointer (some ⟨b,h,none⟩)
 | .os i h m g,v=>aey o i g/\∃a d,v= .slice a m d/\m<=d/\∀p,afq o i p g->Ss σ i h m g p a d
 | .mp i,v=>IsMap o i/\∃b c,σ[i]?=some (some (b,c))/\v= .map (some b)
 | .fn f a b,v=>∃q s,v= .func (fnL A.l f) q s/\ey a q.toList/\ey b s.toList
def ey:List AV->List Value->Prop
 |[],k=>k=[]
 |c::e,k=>∃v r,k=v::r/\cQ c v/\ey e r
def oQ:List AV->Option Addr->Nat->Prop
 |[],_,_=>True
 |c::e,a,j=>(∃b v,a=some b/\Fr A σ b.block/\w.cell? (b.add j)=some v/\cQ c v)/\oQ e a (j+1)
end
end
structure Ext (w:World) (σ:gB) (o:Store) (w':World) (σ':gB) (o':Store):Prop where
 size:w.heap.size<=w'.heap.size
 blk:∀b,b<w.heap.size->¬Own σ b->w'.heap[b]?=w.heap[b]?/\¬Own σ' b
 len:o.length<=o'.length
 cur:∀id tot,aey o id tot->aey o' id tot/\∀sz,afq o' id sz tot->afq o id sz tot/\σ'[id]?=σ[id]?
 isMap:∀id,IsMap o id->IsMap o' id/\σ'[id]?=σ[id]?
 os:w'.os=w.os
 tape:w'.tape=w.tape
 output:w'.output=w.output
theorem Ext.refl (w:World) (σ:gB) (o:Store):Ext w σ o w σ o:=
 ⟨Nat.le_refl _,fun _ _ h=>⟨rfl,h⟩,Nat.le_refl _,fun _ _ h=>⟨h,fun _ h=>⟨h,rfl⟩⟩,fun _ h=>⟨h,rfl⟩,rfl,rfl,rfl⟩
theorem Ext.trans {w n p:World} {σ a c:gB} {o l o2:Store} (h:Ext w σ o n a l) (k:Ext n a l p c o2):Ext w σ o p c o2 where
 size:=Nat.le_trans h.size k.size
 blk:=fun b q r=>by
  obtain⟨f,i⟩:=h.blk b q r
  obtain⟨m,j⟩:=k.blk b (Nat.lt_of_lt_of_le q h.size) i
  simp_all
 len:=Nat.le_trans h.len k.len
 cur:=fun e d g=>by
  obtain⟨f,i⟩:=h.cur e d g
  obtain⟨m,j⟩:=k.cur e d f
  grind
 isMap:=fun e g=>by
  obtain⟨f,i⟩:=h.isMap e g
  obtain⟨m,j⟩:=k.isMap e f
  simp_all
 os:=k.os.trans h.os
 tape:=k.tape.trans h.tape
 output:=k.output.trans h.output
section
variable {A:qa} {w w':World} {σ σ':gB} {o o':Store}
theorem arU {a:Addr} {v:Value} (b:w.cell? a=some v):a.block<w.heap.size:=World.block_lt_of_cell? w a b
theorem add_block (a:Addr) (n:Nat):(a.add n).block=a.block:=by grind[Addr.add]
theorem add_add (a:Addr) (i j:Nat):(a.add i).add j=a.add (i+j):=by
 grind[Addr.add]
mutual
theorem cQ.ext (h:Ext w σ o w' σ' o'):∀(c:AV) (v:Value),cQ A w σ o c v->cQ A w' σ' o' c v
 | .ud,_,_=>by simp[cQ]
 | .sc u,v,d=>by grind[cQ]
 | .agg e,v,d=>by
  simp only[cQ] at d ⊢
  obtain⟨i,rfl,g⟩:=d
  exact⟨i,rfl,ey.ext h e _ g⟩
 | .eW e,v,d=>by
  simp only[cQ] at d ⊢
  obtain⟨i,rfl,g⟩:=d
  exact⟨i,rfl,ey.ext h e _ g⟩
 | .sl n e,v,d=>by
  simp only[cQ] at d ⊢
  obtain⟨a,l,rfl,q,x,z⟩:=d
  exact⟨a,l,rfl,q,x,oQ.ext h e a 0 z⟩
 | .ep e m,v,d=>by
  simp only[cQ] at d ⊢
  obtain⟨a,rfl,x,z⟩:=d
  exact⟨a,rfl,x,oQ.ext h e _ 0 z⟩
 | .ptr p m k,v,d=>by
  simp only[cQ] at d ⊢
  obtain⟨J,I⟩:=h.cur p k d.1
  grind
 | .os p m H k,v,d=>by
  simp only[cQ] at d ⊢
  obtain⟨y,a,l,rfl,g,K⟩:=d
  obtain⟨J,I⟩:=h.cur p k y
  grind[Ss]
 | .mp p,v,d=>by
  simp only[cQ] at d ⊢
  obtain⟨C,B⟩:=h.isMap p d.1
  simp_all
 | .fn f a b,v,d=>by
  simp only[cQ] at d ⊢
  obtain⟨E,F,rfl,y,G⟩:=d
  exact⟨E,F,rfl,ey.ext h a _ y,ey.ext h b _ G⟩
theorem ey.ext (h:Ext w σ o w' σ' o'):∀(e:List AV) (i:List Value),ey A w σ o e i->ey A w' σ' o' e i
 |[],i,d=>by grind[ey]
 |c::e,i,d=>by
  simp only[ey] at d ⊢
  obtain⟨v,r,rfl,t,g⟩:=d
  exact⟨v,r,rfl,cQ.ext h c v t,ey.ext h e r g⟩
theorem oQ.ext (h:Ext w σ o w' σ' o'):∀(e:List AV) (a:Option Addr) (j:Nat),oQ A w σ o e a j->oQ A w' σ' o' e a j
 |[],_,_,_=>by simp[oQ]
 |c::e,a,j,d=>by
  simp only[oQ] at d ⊢
  obtain⟨⟨b,v,rfl,q,t,D⟩,g⟩:=d
  have s:b.block<w.heap.size:=by have:=arU t;grind[add_block]
  obtain⟨C,B⟩:=h.blk b.block s q.1
  exact⟨⟨b,v,rfl,⟨B,q.2⟩,by grind[World.cell?_of_block,add_block],cQ.ext h c v D⟩,oQ.ext h e _ (j+1) g⟩
end
theorem ey.length:∀(cs:List AV) (vs:List Value),ey A w σ o cs vs->cs.length=vs.length
 |[],vs,a=>by grind[ey]
 |c::cs,vs,a=>by
  simp only[ey] at a
  obtain⟨v,r,rfl,_,b⟩:=a
  simp[ey.length cs r b]
theorem ey.get:∀(cs:List AV) (vs:List Value),ey A w σ o cs vs->∀(i:Nat) (c:AV),cs[i]?=some c->∃v,vs[i]?=some v/\cQ A w σ o c v
 |[],_,_,i,c,h=>by simp at h
 |c::cs,vs,b,i,d,a=>by
  simp only[ey] at b
  obtain⟨v,r,rfl,f,g⟩:=b
  cases i with
  |zero=>simp at a;subst a;exact⟨v,by simp,f⟩
  |succ i=>simp at a;obtain⟨u,e,b⟩:=ey.get cs r g i d a;exact⟨u,by simpa using e,b⟩
theorem ey.XR:∀(cs:List AV) (vs:List Value),cs.length=vs.length->(∀(i:Nat) (c:AV),cs[i]?=some c->∃v,vs[i]?=some v/\cQ A w σ o c v)->ey A w σ o cs vs
 |[],vs,a,_=>by grind[ey]
 |c::cs,[],a,_=>by simp at a
 |c::cs,v::vs,a,e=>by
  simp only[ey]
  obtain⟨u,b,f⟩:=e 0 c (by simp)
  simp at b;subst b
  exact⟨v,vs,rfl,f,ey.XR cs vs (by simp_all) fun i d g=>by simpa using e (i+1) d (by simp_all)⟩
theorem oQ.get:∀(cs:List AV) (a:Option Addr) (j:Nat),oQ A w σ o cs a j->∀(i:Nat) (c:AV),cs[i]?=some c->
  ∃b v,a=some b/\Fr A σ b.block/\w.cell? (b.add (j+i))=some v/\cQ A w σ o c v
 |[],_,_,_,i,c,k=>by simp at k
 |c::cs,a,j,f,i,d,e=>by
  simp only[oQ] at f
  obtain⟨g,h⟩:=f
  cases i with
  |zero=>simp at e;subst e;simpa using g
  |succ i=>
   simp at e
   have:=oQ.get cs a (j+1) h i d e
   rwa [show j+1+i=j+(i+1) from by omega] at this
theorem oQ.XR:∀(cs:List AV) (a:Option Addr) (j:Nat),(∀(i:Nat) (c:AV),cs[i]?=some c->
  ∃b v,a=some b/\Fr A σ b.block/\w.cell? (b.add (j+i))=some v/\cQ A w σ o c v)->oQ A w σ o cs a j
 |[],_,_,_=>by simp[oQ]
 |c::cs,a,j,e=>by
  simp only[oQ]
  refine⟨by simpa using e 0 c (by simp),oQ.XR cs a (j+1) fun i d f=>?_⟩
  have:=e (i+1) d (by simpa using f)
  rwa [show j+1+i=j+(i+1) from by omega]
theorem ey.append {cs a:List AV} {vs b:List Value} (h:ey A w σ o cs vs) (k:ey A w σ o a b):ey A w σ o (cs++a) (vs++b):=by
 induction cs generalizing vs<;>grind[ey]
theorem cQ.qn {c:AV} {v:Value} (h:cQ A w σ o c v):cQ A w σ o c.qn v:=by
 unfold AV.qn
 grind[cQ,pZ,oQ]
theorem ey.qn:∀{cs:List AV} {vs:List Value},ey A w σ o cs vs->ey A w σ o (cs.map .qn) vs
 |[],_,h=>h
 |c::cs,vs,h=>by
  simp only[ey,List.map_cons] at h ⊢
  obtain⟨v,r,rfl,a,b⟩:=h
  exact⟨v,r,rfl,a.qn,ey.qn b⟩
theorem ey.sy (pu:Bool) {cs:List AV} {vs:List Value} (h:ey A w σ o cs vs):ey A w σ o (sy pu cs) vs:=by
 unfold Go.Vi.sy;split
 ·exact h.qn
 ·exact h
theorem aez (pu:Bool) (cs:List AV):(Go.Vi.sy pu cs).length=cs.length:=by
 grind[Go.Vi.sy]
theorem azb {c:AV} (h:c.pure=true):c.qn.pure=true:=by
 unfold AV.qn
 grind[AV.pure,pZ]
theorem azc {c:AV} (h:c.one=true):c.qn.one=true:=by
 unfold AV.qn
 grind[AV.one]
theorem arV:∀{cs:List AV},pZ cs=true->pZ (cs.map .qn)=true
 |[],h=>h
 |c::cs,h=>by
  simp only[pZ,List.map_cons,Bool.and_eq_true] at h ⊢
  exact⟨azb h.1,arV h.2⟩
theorem akq {pu:Bool} {cs:List AV} (h:pZ cs=true):pZ (Go.Vi.sy pu cs)=true:=by
 grind[Go.Vi.sy,arV]
theorem azd:∀{cs:List AV},s5 cs=true->s5 (cs.map .qn)=true
 |[],h=>h
 |c::cs,h=>by
  grind[s5,azc]
theorem am1 {pu:Bool} {cs:List AV} (h:s5 cs=true):s5 (Go.Vi.sy pu cs)=true:=by
 grind[Go.Vi.sy,azd]
theorem am2 {pu:Bool} {cs:List AV} {vs:List Value} (h:ey A w σ o cs vs) {j:Nat} {c:AV} (a:(Go.Vi.sy pu cs)[j]?=some c):∃v,vs[j]?=some v/\cQ A w σ o c v:=
 ey.get _ _ (h.sy pu) j c a
theorem cQ.one {c:AV} {v:Value} (h:cQ A w σ o c v) (e:c.one=true):v.oneCell'=true:=by
 cases c<;>simp only[cQ] at h<;>simp only[AV.one,Bool.false_eq_true] at e
 ·simp_all
 ·obtain⟨a,d,rfl,_⟩:=h;rfl
 ·obtain⟨a,rfl,_⟩:=h;rfl
 ·obtain⟨_,⟨a,rfl⟩,_⟩:=h;rfl
 ·obtain⟨_,a,d,rfl,_⟩:=h;rfl
 ·obtain⟨_,b,c,_,rfl⟩:=h;rfl
 ·obtain⟨a,b,rfl,_⟩:=h;rfl
theorem cQ.cells {c:AV} {v:Value} (h:cQ A w σ o c v) (a:s5 c.cellsOf=true):ey A w σ o c.cellsOf v.cells.toList/\∀u∈v.cells.toList,u.oneCell'=true:=by
 have f:∀(b:List AV) (e:List Value),ey A w σ o b e->s5 b=true->∀u∈e,u.oneCell'=true:=by
  intro b
  induction b with
  |nil=>grind[ey]
  |cons c b k=>
   intro e i a u g;simp only[ey] at i
   obtain⟨v,r,rfl,j,d⟩:=i
   simp only[s5,List.all_cons,Bool.and_eq_true] at a
   rcases List.mem_cons.1 g with rfl|g
   ·exact j.one a.1
   ·exact k r d a.2 u g
 cases c with
 |agg b=>
  simp only[cQ] at h
  obtain⟨e,rfl,d⟩:=h
  exact⟨d,f _ _ d a⟩
 |_=>
  simp only[AV.cellsOf,s5,List.all_cons,List.all_nil,Bool.and_true] at a
  have l:=h.one a
  have m:v.cells=#[v]:=by cases v<;>simp_all [Value.cells,Value.oneCell']
  simp only[AV.cellsOf,m,List.mem_singleton]
  exact⟨by simp only[ey];exact⟨v,[],rfl,h,rfl⟩,by rintro u rfl;exact l⟩
def agD (a:List Nat×Bool) (k:Value):Prop:=∃l,sV a.1 l=true/\(if a.2 then k= .agg l.toArray else l=[k])
def pd (A:qa) (w:World) (σ:gB) (o:Store) (i:Nat):fZ->Prop
 | .dead=>σ[i]?=some none
 | .cells h e n l=>(l=true->pZ h=true)/\s5 h=true/\
  ((σ[i]?=some none/\h=[])\/∃b f d,σ[i]?=some (some (b,f))/\f<=maxLen/\w.heap[b]?=some (.cells d e (0,0))/\d.size=f*n/\h.length<=d.size/\
   ∀(j:Nat) (c:AV),h[j]?=some c->∃v,d[j]?=some v/\cQ A w σ o c v)
 | .map k p l=>(l=true->∀e∈k,e.2.pure=true)/\(∀e∈k,agD p e.1)/\∃(b c:Nat) (a:Array MapEntry) (g:Nat),σ[i]?=some (some (b,c))/\w.heap[b]?=some (.map a g)/\a.size=k.length/\
   ∀(j:Nat) (e:Value×AV),k[j]?=some e->∃m,a[j]?=some m/\m.key=e.1/\cQ A w σ o e.2 m.val
structure gp (A:qa) (w:World) (σ:gB) (o:Store):Prop where
 len:σ.length=o.length
 dist:∀(i j b c d:Nat),σ[i]?=some (some (b,c))->σ[j]?=some (some (b,d))->i=j
 bnd:∀(i b c:Nat),σ[i]?=some (some (b,c))->b<w.heap.size
 obj:∀(i:Nat) (x:fZ),o[i]?=some x->pd A w σ o i x
 av:∀(i b c:Nat),σ[i]?=some (some (b,c))->¬A b
 QL:∀b,A b->b<w.heap.size
theorem pd.ext (h:Ext w σ o w' σ' o') {i:Nat} {x:fZ} (a:pd A w σ o i x) (f:σ'[i]?=σ[i]?)
  (I:∀b c,σ[i]?=some (some (b,c))->w'.heap[b]?=w.heap[b]?):pd A w' σ' o' i x:=by
 cases x with
 |dead=>grind[pd]
 |cells K e G E=>
  simp only[pd] at a ⊢
  refine⟨a.1,a.2.1,?_⟩
  rcases a.2.2 with t|⟨b,l,k,q,s,r,g,z,y⟩
  ·simp_all
  ·refine .inr ⟨b,l,k,by rw[f];exact q,s,by simp_all,g,z,fun j c n=>?_⟩
   obtain⟨v,C,d⟩:=y j c n
   exact⟨v,C,d.ext h⟩
 |map H J E=>
  simp only[pd] at a ⊢
  obtain⟨t,p,b,c,B,D,q,s,r,g⟩:=a
  refine⟨t,p,b,c,B,D,by simp_all,by simp_all,r,fun j e n=>?_⟩
  obtain⟨m,F,u,d⟩:=g j e n
  exact⟨m,F,u,d.ext h⟩
theorem gp.upd (k:gp A w σ o) {id:Nat} {x x':fZ} {s':Option (Nat×Nat)} (L:o[id]?=some x)
  (u:w.heap.size<=w'.heap.size) (R:w'.os=w.os) (D:w'.tape=w.tape) (K:w'.output=w.output)
  (B:∀b,b<w.heap.size->(∀c,σ[id]?≠some (some (b,c)))->w'.heap[b]?=w.heap[b]?)
  (g:∀b c,s'=some (b,c)->(∃d,σ[id]?=some (some (b,d)))\/(w.heap.size<=b/\b<w'.heap.size))
  (r:match x with
   | .dead=>True
   | .cells cs _ sz _=>∃p S l,x'= .cells p S sz l/\cs.length<=p.length/\(p.length=cs.length->σ[id]?=some s')
   | .map _ _ _=>(∃E C l,x'= .map E C l)/\σ[id]?=some s')
  (a0:Ext w σ o w' (σ.set id s') (o.set id x')->pd A w' (σ.set id s') (o.set id x') id x'):
  gp A w' (σ.set id s') (o.set id x')/\Ext w σ o w' (σ.set id s') (o.set id x'):=by
 have O:id<o.length:=(List.getElem?_eq_some_iff.1 L).1
 have Q:id<σ.length:=by rw[k.len];exact O
 have h:∀i,i≠id->(σ.set id s')[i]?=σ[i]?:=fun i a=>by grind
 have J:∀i,i≠id->(o.set id x')[i]?=o[i]?:=fun i a=>by grind
 have m:(σ.set id s')[id]?=some s':=by simp_all
 have q:(o.set id x')[id]?=some x':=by simp_all
 have v:Ext w σ o w' (σ.set id s') (o.set id x'):=by
  refine⟨u,fun b F P=>⟨B b F fun c I=>P ⟨id,c,I⟩,?_⟩,by simp,fun i a3 H=>?_,fun i H=>?_,R,D,K⟩
  ·rintro⟨i,c,a⟩
   by_cases f:i=id
   ·subst f
    rw[m] at a;injection a with a;subst a
    rcases g b c rfl with⟨d,g⟩|g
    ·exact P ⟨i,d,g⟩
    ·omega
   ·rw[h i f] at a
    exact P ⟨i,c,a⟩
  ·by_cases f:i=id
   ·subst f
    obtain⟨cs,e,sz,z,n,G⟩:=H
    rw[L] at n;injection n with n;subst n
    obtain⟨p,S,l,rfl,h3,h4⟩:=r
    refine⟨⟨p,S,sz,l,q,by omega⟩,fun X I=>?_⟩
    obtain⟨a2,Z,a1,s,Y⟩:=I
    rw[q] at s;injection s with s;injection s with e1 Z e3 e4;subst e1 e3
    refine⟨⟨cs,e,z,L,by omega⟩,?_⟩
    grind
   ·refine⟨?_,fun sz I=>⟨?_,h i f⟩⟩
    ·obtain⟨cs,e,sz,z,n,G⟩:=H
     exact⟨cs,e,sz,z,by simp_all,G⟩
    ·obtain⟨cs,e,z,n,G⟩:=I
     exact⟨cs,e,z,by simp_all,G⟩
  ·by_cases f:i=id
   ·subst f
    obtain⟨V,T,z,n⟩:=H
    rw[L] at n;injection n with n;subst n
    obtain⟨⟨E,C,l,rfl⟩,G⟩:=r
    exact⟨⟨E,C,l,q⟩,by rw[m,G]⟩
   ·obtain⟨V,T,z,n⟩:=H
    exact⟨⟨V,T,z,by simp_all⟩,h i f⟩
 refine⟨⟨by simp[k.len],fun i j b c d a t=>?_,fun i b c a=>?_,fun i y U=>?_,fun i b c a=>?_,fun b F=>Nat.lt_of_lt_of_le (k.QL b F) u⟩,v⟩
 ·by_cases f:i=id<;>by_cases M:j=id
  ·rw[f,M]
  ·subst f
   rw[m] at a;rw[h j M] at t;injection a with a;subst a
   rcases g b c rfl with⟨N,g⟩|g
   ·exact k.dist i j b N d g t
   ·have:=k.bnd j b d t
    omega
  ·subst M
   rw[m] at t;rw[h i f] at a;injection t with t;subst t
   rcases g b d rfl with⟨N,g⟩|g
   ·exact k.dist i j b c N a g
   ·have:=k.bnd i b c a
    omega
  ·rw[h i f] at a
   rw[h j M] at t
   exact k.dist i j b c d a t
 ·by_cases f:i=id
  ·subst f
   rw[m] at a;injection a with a;subst a
   rcases g b c rfl with⟨d,g⟩|g
   ·exact Nat.lt_of_lt_of_le (k.bnd i b d g) u
   ·exact g.2
  ·rw[h i f] at a
   exact Nat.lt_of_lt_of_le (k.bnd i b c a) u
 ·by_cases f:i=id
  ·simp_all
  ·rw[J i f] at U
   refine(k.obj i y U).ext v (h i f) fun b c F=>?_
   refine B b (k.bnd i b c F) fun d hd=>f (k.dist i id b c d F hd)
 ·by_cases f:i=id
  ·subst f
   rw[m] at a;injection a with a;subst a
   rcases g b c rfl with⟨d,g⟩|g
   ·exact k.av i b d g
   ·intro W
    have:=k.QL b W
    omega
  ·rw[h i f] at a
   exact k.av i b c a
end
section
variable {P:Program} {A:qa} {w w':World} {σ σ':gB} {o o':Store} {gb:Operand->AV} {ga:Operand->Value} {oper:Oper} {v:AV}
def Gives (A:qa) (P:Program) (ga:Operand->Value) (oper:Oper) (w:World) (σ:gB) (o:Store) (v:AV) (o':Store):Prop:=
 ∃u w' σ',((execOp ga oper).run P w= .ok (.value u) w'\/((execOp ga oper).run P w= .ok .skip w'/\u=undef))/\gp A w' σ' o'/\cQ A w' σ' o' v u/\Ext w σ o w' σ' o'
theorem Gives.same (hS:gp A w σ o) {u:Value} (h:(execOp ga oper).run P w= .ok (.value u) w) (hr:cQ A w σ o v u):Gives A P ga oper w σ o v o:=
 ⟨u,w,σ,.inl h,hS,hr,Ext.refl _ _ _⟩
theorem agE {t:TypeId} {b:Bool} (h:yf P t=some b) (w:World):(isAgg t).run P w= .ok b w:=by
 unfold yf at h
 cases a:P.underlying t with
 |none=>simp_all
 |some d=>cases d<;>simp[a] at h<;>subst h<;>simp[isAgg,run_underlying a]
theorem acK {t:TypeId} {n:Nat} (h:sizeT P t=some n) (w:World):(sizeOf t).run P w= .ok n w:=by
 unfold sizeT at h
 cases a:P.info? t with
 |none=>simp_all
 |some i=>simp_all[sizeOf,typeInfo]
theorem arW {t:TypeId} (h:abC P t=some none):yf P t=some false:=by
 grind[abC]
theorem arX {t:TypeId} {n:Nat} (h:abC P t=some (some n)):yf P t=some true/\sizeT P t=some n:=by
 grind[abC]
theorem arY (cs:Array Value) (l:List AV) (a:Nat) (t:TypeId) (n:Option Nat) (f:abC P t=some n) (d:ey A w σ o l cs.toList) (b:AX l a n=some v):
  ∃u,(part t cs a).run P w= .ok u w/\cQ A w σ o v u:=by
 have c:=ey.length _ _ d
 cases n with
 |none=>
  simp only[AX] at b
  obtain⟨u,j,i⟩:=ey.get _ _ d a v b
  simp_all[part,agE,arW]
 |some n=>
  obtain⟨e,g⟩:=arX f
  simp only[AX] at b;split at b
  ·rename_i h
   injection b with b;subst b
   refine⟨.agg (cs.extract a (a+n)),by simp[part,agE e,acK g],?_⟩
   simp only[cQ]
   grind[ey.XR,ey.get]
  simp_all
theorem cQ.arZ (hS:gp A w σ o) {a:AV} {u:Value} {cs:List AV} {off:Nat} (h:cQ A w σ o a u) (hb:Go.Vi.behind o a=some (cs,off)):
  ∃p:Addr,u= .pointer (some p)/\∀(j:Nat) (c:AV),cs[off+j]?=some c->∃v,w.cell? (p.add j)=some v/\cQ A w σ o c v:=by
 cases a<;>simp only[Go.Vi.behind,reduceCtorEq] at hb
 ·grind[cQ,oQ.get,add_add]
 ·rename_i id off' tot
  split at hb
  ·rename_i cs' e sz pu ho
   split at hb
   ·rename_i htot
    simp only[Option.some.injEq,Prod.mk.injEq] at hb
    obtain⟨rfl,rfl⟩:=hb
    simp only[cQ] at h
    obtain⟨b,c,hσ,rfl⟩:=h.2.2 sz ⟨cs',e,pu,ho,htot⟩
    refine⟨_,rfl,fun j d hd=>?_⟩
    have hx:=hS.obj id _ ho
    grind[pd,Addr.add,World.cell?]
   simp_all
  simp_all
theorem ar0 {a:AV} {p:Addr} {cs:List AV} {b:Nat} {t:TypeId} {n:Option Nat} (h:abC P t=some n)
  (g:∀(j:Nat) (c:AV),cs[b+j]?=some c->∃v,w.cell? (p.add j)=some v/\cQ A w σ o c v) (d:AX cs b n=some a):
  ∃u,(loadVar t p).run P w= .ok u w/\cQ A w σ o a u:=by
 cases n with
 |none=>
  simp only[AX] at d
  obtain⟨u,r,s⟩:=g 0 a (by omega)
  simp_all[Addr.add,loadVar,agE,arW]
 |some n=>
  obtain⟨k,m⟩:=arX h
  simp only[AX] at d;split at d
  ·rename_i i
   injection d with d;subst d
   have e:∀j,j<n->∃v,w.cell? (p.add j)=some v/\cQ A w σ o (cs.getD (b+j) .ud) v:=by
    grind
   let f:Nat->Value:=fun j=>(w.cell? (p.add j)).getD undef
   have l:∀j,j<n->w.cell? (p.add j)=some (f j):=fun j q=>by
    grind
   refine⟨.agg ((List.range n).map f).toArray,by simp_all[loadVar,agE,acK,run_loadCells],?_⟩
   grind[cQ,ey.XR]
  simp_all
theorem aze (e:gp A w σ o) (b:∀x,cQ A w σ o (gb x) (ga x)) {t:TypeId} {n:Option Nat} {x:Operand} (g:oper.op= .load t x) (d:abC P t=some n)
  {cs:List AV} {a:Nat} (f:behind o (gb x)=some (cs,a)) (i:AX cs a n=some v):Gives A P ga oper w σ o v o:=by
 obtain⟨p,h,c⟩:=(b x).arZ e f
 obtain⟨u,j,k⟩:=ar0 d c i
 simp_all[Gives.same,execOp,Instr.loadAt,Instr.sureAddr]
theorem ain:∀(vs cs:List AV) (a:Nat),(Ai cs a vs).length=cs.length
 |[],_,_=>rfl
 |v::vs,cs,a=>by simp[Ai,ain vs]
theorem akr:∀(vs cs:List AV) (a:Nat),a+vs.length<=cs.length->∀j,(Ai cs a vs)[j]?=if a<=j/\j<a+vs.length then vs[j - a]? else cs[j]?
 |[],cs,a,_,j=>by grind[Ai]
 |v::vs,cs,a,b,j=>by
  simp only[Ai,List.length_cons] at b ⊢
  rw[akr vs (cs.set a v) (a+1) (by grind) j]
  grind
theorem acL {cs:List AV} (h:pZ cs=true):∀c∈cs,c.pure=true:=by
 induction cs<;>grind[pZ]
theorem aeA {cs:List AV} (h:∀c∈cs,c.pure=true):pZ cs=true:=by
 induction cs<;>grind[pZ]
theorem aio {vs cs:List AV} {a:Nat} (d:a+vs.length<=cs.length):∀c∈Ai cs a vs,c∈cs\/c∈vs:=by
 intro c b
 obtain⟨j,e⟩:=List.getElem?_of_mem b
 grind[akr]
theorem azf (arr:List Value) (vs:List Value) (a:Nat) (b:a+vs.length<=arr.length) (j:Nat):
  (arr.take a++vs++arr.drop (a+vs.length))[j]?=if a<=j/\j<a+vs.length then vs[j - a]? else arr[j]?:=by
 rw[List.append_assoc,List.getElem?_append]
 grind
theorem aaE {cs:List AV}:s5 cs=true↔∀c∈cs,c.one=true:=by simp[s5]
theorem azg (hS:gp A w σ o) (hρ:∀x,cQ A w σ o (gb x) (ga x)) {t:TypeId} {n:Nat} {x y:Operand} (hop:oper.op= .store t x y) (hn:sizeT P t=some n)
  {id off tot:Nat} (ha:gb x= .ptr id off tot) {cs:List AV} {e:TypeId} {sz:Nat} {pu:Bool} (ho:o[id]?=some (.cells cs e sz pu)) (htot:cs.length=tot)
  (hlen:(gb y).cellsOf.length=n) (h1:s5 (gb y).cellsOf=true) (hle:off+n<=cs.length) (hpu:pu=false\/pZ (gb y).cellsOf=true):
  Gives A P ga oper w σ o .ud (o.set id (.cells (Ai cs off (sy pu (gb y).cellsOf)) e sz pu)):=by
 have hx:=hρ x
 rw[ha] at hx;simp only[cQ] at hx
 obtain⟨b,c,hσ,hp⟩:=hx.2.2 sz ⟨cs,e,pu,ho,htot⟩
 obtain⟨hl0,hone⟩:=(hρ y).cells h1
 have hl:=hl0.sy pu
 replace hlen:(sy pu (gb y).cellsOf).length=n:=by grind[aez]
 replace h1:s5 (sy pu (gb y).cellsOf)=true:=am1 h1
 replace hpu:pu=false\/pZ (sy pu (gb y).cellsOf)=true:=hpu.imp (fun h=>h) akq
 generalize sy pu (gb y).cellsOf=vs at*
 have hlen':(ga y).cells.toList.length=n:=by grind[ey.length]
 have hob:=hS.obj id _ ho
 simp only[pd] at hob
 obtain⟨q1,q2,q3⟩:=hob
 rcases q3 with⟨h0,_⟩|⟨b',cap,arr,k1,k2,k3,k4,k5,k6⟩
 ·simp_all
 rw[hσ] at k1;simp only[Option.some.injEq,Prod.mk.injEq] at k1
 obtain⟨rfl,rfl⟩:=k1
 have hrun:=run_storeCells_at (P:=P) b off e (ga y).cells.toList 0 arr w k3 (by omega) hone
 simp only[Nat.add_zero] at hrun
 generalize hnew:(arr.toList.take off++(ga y).cells.toList++arr.toList.drop (off+(ga y).cells.toList.length)).toArray=new at hrun
 have azh:(execOp ga oper).run P w= .ok .skip (w.setRow b new):=by
  simp_all[execOp,Instr.storeAt,Instr.sureAddr,storeVar,acK]
 have hblt:b<w.heap.size:=hS.bnd id b c hσ
 have hsame:∀k,k≠b->(w.setRow b new).heap[k]?=w.heap[k]?:=by
  simp_all[World.setRow,Array.getElem?_modify,Ne.symm]
 have hat:(w.setRow b new).heap[b]?=some (.cells new e (0,0)):=by
  grind[World.setRow]
 have aHz:new.size=arr.size:=by grind
 have aHA:id<σ.length:=(List.getElem?_eq_some_iff.1 hσ).1
 have hset:σ.set id (some (b,c))=σ:=by
  apply List.ext_getElem?
  grind
 obtain⟨hS',hE⟩:=gp.upd (w':=w.setRow b new) (s':=some (b,c)) (x':=.cells (Ai cs off vs) e sz pu) hS ho (by simp_all) rfl rfl rfl
  (fun k _ hk=>hsame k (fun he=>hk c (he▸hσ))) (fun b2 c2 h2=> .inl ⟨c,by simp_all⟩) ⟨_,_,_,rfl,by grind[ain],fun _=>hσ⟩ (fun hE=>by
   simp only[pd]
   refine⟨fun hpt=>?_,?_,.inr ⟨b,c,new,by simp_all,k2,hat,by omega,by grind[ain],fun j d hd=>?_⟩⟩
   ·refine aeA fun d hd=>?_
    rcases aio (by rw[hlen];exact hle) d hd with hd|hd<;>grind[aio,acL]
   ·refine aaE.2 fun d hd=>?_
    rcases aio (by rw[hlen];exact hle) d hd with hd|hd<;>grind[aio,aaE]
   ·rw[akr _ _ _ (by omega)] at hd
    rw[hlen] at hd
    have hsp:=azf arr.toList (ga y).cells.toList off (by grind) j
    have hnj:new[j]?=if off<=j/\j<off+n then(ga y).cells.toList[j - off]? else arr[j]?:=by
     grind
    by_cases hj:off<=j/\j<off+n
    ·rw[if_pos hj] at hd hnj
     obtain⟨u,hu,hr⟩:=ey.get _ _ hl _ d hd
     exact⟨u,by rw[hnj];exact hu,hr.ext hE⟩
    ·rw[if_neg hj] at hd hnj
     obtain⟨u,hu,hr⟩:=k6 j d hd
     exact⟨u,by rw[hnj];exact hu,hr.ext hE⟩)
 rw[hset] at hS' hE
 exact⟨undef,_,σ,.inr ⟨azh,rfl⟩,hS',by simp[cQ],hE⟩
end
section
variable {P:Program} {A:qa} {w w':World} {σ σ':gB} {o o':Store} {gb:Operand->AV} {ga:Operand->Value} {oper:Oper} {v:AV}
theorem agF {ei:Nat} {x:fZ} (h:SU ei x o=some o'):o[ei]?=some .dead/\o'=o.set ei x:=by
 grind[SU]
theorem gp.akt (k:gp A w σ o) {ei:Nat} (l:o[ei]?=some .dead) {cs:List AV} {arr:Array Value} {e:TypeId} {sz cap:Nat} {pu:Bool} (d:arr.size=cap*sz) (p:cap<=maxLen)
  (g:cs.length<=arr.size) (y:s5 cs=true) (m:pu=true->pZ cs=true) (a:∀(j:Nat) (c:AV),cs[j]?=some c->∃v,arr[j]?=some v/\cQ A w σ o c v):
  gp A (w.alloc (.cells arr e)) (σ.set ei (some (w.heap.size,cap))) (o.set ei (.cells cs e sz pu))/\Ext w σ o (w.alloc (.cells arr e)) (σ.set ei (some (w.heap.size,cap))) (o.set ei (.cells cs e sz pu)):=by
 have i:ei<o.length:=(List.getElem?_eq_some_iff.1 l).1
 have f:ei<σ.length:=by rw[k.len];exact i
 refine gp.upd (x:=.dead) k l (by simp) rfl rfl rfl (fun b r _=>heap_alloc_old w _ b r) (fun b c h=> .inr ?_) trivial fun q=>?_
 ·simp_all
 ·simp only[pd]
  refine⟨m,y,.inr ⟨w.heap.size,cap,arr,by simp_all,p,heap_alloc_new w _,d,g,fun j c n=>?_⟩⟩
  obtain⟨u,s,t⟩:=a j c n
  exact⟨u,s,t.ext q⟩
theorem ar4:1<=maxLen:=by simp[maxLen]
theorem agG (A:qa) (w:World) (σ:gB) (o:Store):∀(z:List Value),(∀u∈z,u.oneCell'=true)->ey A w σ o (z.map .sc) z
 |[],_=>by simp[ey]
 |v::z,h=>by
  simp only[List.map_cons,ey]
  exact⟨v,z,rfl,by simp[cQ,h v],agG A w σ o z fun u a=>h u (by simp[a])⟩
theorem am3 {z:List Value} (h:∀u∈z,u.oneCell'=true):s5 (z.map AV.sc)=true:=by
 refine aaE.2 fun c b=>?_
 obtain⟨u,a,rfl⟩:=List.mem_map.1 b
 exact h u a
theorem ar5 (z:List Value):pZ (z.map AV.sc)=true:=by
 refine aeA fun c a=>?_
 obtain⟨u,_,rfl⟩:=List.mem_map.1 a
 rfl
theorem afr {t:TypeId} {z:List Value} (h:XQ P t=some z):∃(i:TypeInfo) (a:Value),P.info? t=some i/\i.zero=some a/\a.cells.toList=z/\i.size=z.length/\∀u∈z,u.oneCell'=true:=by
 unfold XQ at h
 cases b:P.info? t with
 |none=>simp[b] at h
 |some i=>
  cases c:i.zero with
  |none=>simp_all
  |some a=>
   simp only[b,c,sizeT,Option.bind_some,Option.map_some] at h
   grind
theorem azi (m:gp A w σ o) {t:TypeId} {z:List Value} {pu:Bool} {ei:Nat} (q:oper.op= .alloc t) (p:XQ P t=some z)
  (l:o[ei]?=some .dead):Gives A P ga oper w σ o (.ptr ei 0 z.length) (o.set ei (.cells (z.map .sc) t z.length pu)):=by
 obtain⟨i,n,C,v,d,k,a⟩:=afr p
 have b:ei<o.length:=(List.getElem?_eq_some_iff.1 l).1
 have f:ei<σ.length:=by rw[m.len];exact b
 have g:n.cells.size=z.length:=by grind
 obtain⟨h,s⟩:=m.akt (w:=w) (arr:=n.cells) (e:=t) (sz:=z.length) (cap:=1) (pu:=pu) (cs:=z.map .sc) l (by omega) ar4 (by simp[g]) (am3 a) (fun _=>ar5 z)
  (fun j c r=>by
   obtain⟨u,D,x⟩:=ey.get _ _ (agG A w σ o z a) j c r
   grind)
 refine⟨.pointer (some ⟨w.heap.size,0,none⟩),_,_,.inl ?_,h,?_,s⟩
 ·simp_all[execOp,Instr.alloc,zeroValue,typeInfo,newVar,newRow]
 ·simp only[cQ]
  refine⟨⟨_,_,_,_,by rw[List.getElem?_set_self b],by simp⟩,⟨_,rfl⟩,fun B y=>⟨w.heap.size,1,by simp_all,rfl⟩⟩
theorem azj (l:gp A w σ o) (g:∀x,cQ A w σ o (gb x) (ga x)) {e:TypeId} {x:Operand} {ei:Nat} (f:oper.op= .box e x) (h:s5 (gb x).cellsOf=true)
  (k:o[ei]?=some .dead):Gives A P ga oper w σ o (.ptr ei 0 (gb x).cellsOf.length) (o.set ei (.cells (gb x).cellsOf e (gb x).cellsOf.length false)):=by
 have a:ei<o.length:=(List.getElem?_eq_some_iff.1 k).1
 have d:ei<σ.length:=by rw[l.len];exact a
 obtain⟨m,_⟩:=(g x).cells h
 have i:=ey.length _ _ m
 obtain⟨b,n⟩:=l.akt (w:=w) (arr:=(ga x).cells) (e:=e) (sz:=(gb x).cellsOf.length) (cap:=1) (pu:=false) (cs:=(gb x).cellsOf) k (by simp_all) ar4 (by simp_all) h (by simp)
  (fun j c r=>by
   grind[ey.get])
 refine⟨.pointer (some ⟨w.heap.size,0,none⟩),_,_,.inl ?_,b,?_,n⟩
 ·simp[execOp,f,Instr.box,newVar,newRow,newObj,Sem.run]
 ·simp only[cQ]
  refine⟨⟨_,_,_,_,by rw[List.getElem?_set_self a],by simp⟩,⟨_,rfl⟩,fun p q=>⟨w.heap.size,1,by simp_all,rfl⟩⟩
theorem ar6 (c:gp A w σ o) (b:∀x,cQ A w σ o (gb x) (ga x)) {x:Operand} (a:oper.op= .move x\/oper.op= .assign x):Gives A P ga oper w σ o (gb x) o:=
 Gives.same c (u:=ga x) (by rcases a with h|h<;>simp[execOp,h]) (b x)
theorem B0 {u:Value} {v:Value} (h:cQ A w σ o (.sc u) v):v=u:=by grind[cQ]
theorem ar7 (i:gp A w σ o) (d:∀x,cQ A w σ o (gb x) (ga x)) {c a b:Operand} (e:oper.op= .pick c a b) {t:Bool} (h:gb c= .sc (.bool t)):Gives A P ga oper w σ o (gb (if t then a else b)) o:=by
 have f:=d c
 rw[h] at f
 have g:=B0 f
 refine Gives.same i (u:=ga (if t then a else b)) ?_ (d _)
 cases t<;>simp[execOp,e,g,asBool]
theorem ar8 (c:gp A w σ o) (a:∀x,cQ A w σ o (gb x) (ga x)) {x:Operand} (b:oper.op= .nilCheck x) {p:Addr} (d:ga x= .pointer (some p)):Gives A P ga oper w σ o (gb x) o:=by
 refine Gives.same c (u:=ga x) ?_ (a x)
 simp_all[execOp]
theorem aeB (k:IntKind) (n:Int):um k n=k.wrap n:=by
 cases k<;>simp only[um]
 all_goals
  split
  ·rename_i h
   simp only[Bool.and_eq_true,decide_eq_true_eq] at h
   grind[IntKind.wrap,IntKind.bits,IntKind.signed]
  ·rfl
theorem am4 (n:Nat):akd n=2^n:=by
 simp[akd]
theorem azk {e:BinOp} {t:TypeId} {x y:Operand} {a b r:Value} (h:BJ e a b=some r):
  (do eqGuard e t x y a b;binOp e t a b:Sem Value).run P w= .ok r w:=by
 unfold BJ at h;simp only[W2,aeB,am4] at h;split at h
 ·rename_i k n j m
  split at h
  ·split at h
   ·cases h
   ·injection h with h;subst h
    rename_i f
    simp[eqGuard,binOp,Op.shift,f]
  ·split at h
   ·cases h
   ·injection h with h;subst h
    rename_i f
    simp[eqGuard,binOp,Op.shift,f]
  ·split at h
   ·rename_i i
    subst i
    cases e<;>simp only[reduceCtorEq] at h<;>first
     |(injection h with h;subst h;simp[eqGuard,binOp,Op.intArith,Op.intBits,Op.intCmp];done)
     |simp_all[eqGuard,binOp,Op.intDiv]
   ·cases h
 ·rename_i c d
  cases e<;>simp only[reduceCtorEq] at h
  all_goals first
   |(injection h with h;simp_all[eqGuard,binOp,Op.stringOp])
   |(split at h
     ·rename_i g
      injection h with h;subst h
      simp[eqGuard,binOp,Op.stringOp]
      omega
     ·cases h)
 ·cases h
theorem azl {c:BinOp} {a b r:Value} (h:BJ c a b=some r):r.oneCell'=true:=by
 unfold BJ at h;split at h
 ·split at h
  ·split at h
   ·cases h
   ·injection h with h;subst h;rfl
  ·split at h
   ·cases h
   ·injection h with h;subst h;rfl
  ·split at h
   ·unfold W2 at h
    cases c<;>simp only[reduceCtorEq] at h<;>first
     |(injection h with h;subst h;rfl)
     |(split at h
       ·cases h
       ·injection h with h;subst h;rfl)
   ·cases h
 ·cases c<;>simp only[reduceCtorEq] at h
  all_goals first
   |(injection h with h;subst h;rfl)
   |(split at h
     ·injection h with h;subst h;rfl
     ·cases h)
 ·cases h
theorem azm (l:gp A w σ o) (c:∀x,cQ A w σ o (gb x) (ga x)) {g:BinOp} {t k:TypeId} {x y:Operand} (d:oper.op= .binOp g t x y k) {a b r:Value} (j:gb x= .sc a) (i:gb y= .sc b)
  (h:BJ g a b=some r):Gives A P ga oper w σ o (.sc r) o:=by
 have f:=c x
 have e:=c y
 rw[j] at f;rw[i] at e
 refine Gives.same l (u:=r) ?_ (by simp[cQ,azl h])
 simp only[execOp,d,B0 f,B0 e]
 have:=azk (P:=P) (w:=w) (t:=t) (x:=x) (y:=y) h
 simp only[Sem.run_bind] at this ⊢;rw[this];rfl
theorem azn (i:gp A w σ o) (d:∀x,cQ A w σ o (gb x) (ga x)) {f:BinOp} {c:Bool} {t m:TypeId} {x y:Operand} (e:oper.op= .binOp f t x y m) (k:(f= .eql/\c=false)\/(f= .neq/\c=true))
  (l:P.underlying t=some .bool) {a b:Bool} (j:gb x= .sc (.bool a)) (n:gb y= .sc (.bool b)):Gives A P ga oper w σ o (.sc (.bool (if c then !(a==b) else a==b))) o:=by
 have h:=d x
 have g:=d y
 rw[j] at h;rw[n] at g
 refine Gives.same i (u:=.bool (if c then !(a==b) else a==b)) ?_ (by simp[cQ,Value.oneCell'])
 simp only[execOp,e,B0 h,B0 g]
 rcases k with⟨rfl,rfl⟩|⟨rfl,rfl⟩<;>simp[eqGuard,binOp,Go.run_equal_bool w t _ _ l]
theorem azo (f:gp A w σ o) (c:∀x,cQ A w σ o (gb x) (ga x)) {e:UnOp} {t:TypeId} {x:Operand} (g:oper.op= .unOp e t x) (h:unA e (gb x)=some v):Gives A P ga oper w σ o v o:=by
 have a:=c x
 unfold unA at h;split at h
 ·rename_i b d
  rw[d] at a
  have:=B0 a
  split at h
  ·injection h with h;subst h
   refine Gives.same f (u:=.bool !b) ?_ (by simp[cQ,Value.oneCell'])
   simp_all[execOp,Op.unary]
  ·cases h
 ·rename_i k n d
  rw[d] at a
  have:=B0 a
  split at h
  ·injection h with h;subst h
   rw[aeB]
   refine Gives.same f (u:=.int k (k.wrap (0 - n))) ?_ (by simp[cQ,Value.oneCell'])
   simp_all[execOp,Op.unary,Op.intArith]
  ·cases h
 ·cases h
theorem azp (c:gp A w σ o) (a:∀x,cQ A w σ o (gb x) (ga x)) {s d:TypeId} {h:TypeDesc} {k f:IntKind} {n:Int} {x:Operand} (e:oper.op= .convert s d x) (i:P.underlying s=some h) (j:P.underlying d=some (.int k))
  (g:gb x= .sc (.int f n)):Gives A P ga oper w σ o (.sc (.int k (um k n))) o:=by
 rw[aeB]
 have b:=a x
 rw[g] at b
 have:=B0 b
 refine Gives.same c (u:=.int k (k.wrap n)) ?_ (by simp[cQ,Value.oneCell'])
 simp_all[execOp,convert,run_underlying,Conv.intToInt]
theorem ar9 {a b:AV} {d:Nat} {u:Value} (h:cQ A w σ o a u) (c:abz d a=some b):∃p:Addr,u= .pointer (some p)/\cQ A w σ o b (.pointer (some (p.add d))):=by
 unfold abz at c
 grind[cQ,Addr.add,add_add]
end
section
variable {P:Program} {A:qa} {w w':World} {σ σ':gB} {o o':Store} {gb:Operand->AV} {ga:Operand->Value} {oper:Oper} {v:AV}
theorem azq (d:gp A w σ o) (a:∀x,cQ A w σ o (gb x) (ga x)) {s f n:Nat} {fs:Array Field} {g:Field} {x:Operand} (b:oper.op= .fieldAddr s x f) (e:P.underlying s=some (.struct fs)) (j:fs[f]?=some g)
  (k:sizeT P g.type=some n) (c:n≠0) (h:abz g.offset (gb x)=some v):Gives A P ga oper w σ o v o:=by
 obtain⟨p,i,l⟩:=ar9 (a x) h
 simp_all[Gives.same,execOp,Instr.fieldAt,run_underlying,Instr.sureAddr,fieldPlace,acK]
theorem azr (p:gp A w σ o) (b:∀x,cQ A w σ o (gb x) (ga x)) {s f:Nat} {fs:Array Field} {g:Field} {x:Operand} {n:Option Nat} (i:oper.op= .field s x f) (r:P.underlying s=some (.struct fs)) (l:fs[f]?=some g)
  (j:abC P g.type=some n) {cs:List AV} (e:gb x= .agg cs) (h:AX cs g.offset n=some v):Gives A P ga oper w σ o v o:=by
 have a:=b x
 rw[e] at a;simp only[cQ] at a
 obtain⟨c,k,d⟩:=a
 obtain⟨u,q,m⟩:=arY (P:=P) c cs g.offset g.type n j d h
 simp_all[Gives.same,execOp,Instr.field,run_underlying,asAgg]
theorem agH {a:AV} {n:Int} {u:Value} (h:cQ A w σ o a u) (b:DW a=some n):∃k,u= .int k n:=by
 unfold DW at b
 grind[B0]
theorem azs (q:gp A w σ o) (b:∀x,cQ A w σ o (gb x) (ga x)) {t a e sz:Nat} {x i:Operand} {n:Int} (c:oper.op= .indexAddr t x i) (g:P.underlying t=some (.array a e)) (d:sizeT P e=some sz)
  (m:DW (gb i)=some n) (r:0<=n) (s:n<a) (h:abz (n.toNat*sz) (gb x)=some v):Gives A P ga oper w σ o v o:=by
 obtain⟨p,f,l⟩:=ar9 (b x) h
 obtain⟨k,j⟩:=agH (b i) m
 refine Gives.same q ?_ l
 simp only[execOp,c,Instr.indexAt,j,f];simp only[Sem.run_bind,asIntOf,Sem.run_pure,Result.andThen_ok,run_underlying g,Instr.sureAddr]
 simp_all[acK]
theorem azt (hS:gp A w σ o) (B:∀x,cQ A w σ o (gb x) (ga x)) {t e sz:Nat} {x i:Operand} {n:Int} (M:oper.op= .indexAddr t x i) (Y:P.underlying t=some (.slice e)) (X:sizeT P e=some sz) (S:sz≠0)
  (Z:DW (gb i)=some n) (h:acE o sz (gb x) n=some v):Gives A P ga oper w σ o v o:=by
 obtain⟨k,T⟩:=agH (B i) Z
 have r:=B x
 have C:∀(a:Option Addr) (f d:Nat) (p:Addr),ga x= .slice a f d->a=some p->0<=n->n<f->cQ A w σ o v (.pointer (some (p.add (n.toNat*sz))))->Gives A P ga oper w σ o v o:=by
  intro a f d p g K N G hr
  refine Gives.same hS ?_ hr
  simp only[execOp,M,Instr.indexAt,T,g,K];simp only[Sem.run_bind,asIntOf,Sem.run_pure,Result.andThen_ok,run_underlying Y]
  simp_all[acK]
 unfold acE at h;split at h
 ·rename_i m F q
  rw[q] at r;simp only[cQ] at r
  obtain⟨a,d,g,hn,hp,U⟩:=r
  split at h
  ·rename_i E
   injection h with h;subst h
   obtain⟨N,G,z⟩:=E
   have H:n.toNat*sz<F.length:=by
    rw[z]
    have:n.toNat<m:=by omega
    exact(Nat.mul_lt_mul_right (by omega)).2 this
   obtain⟨b,u,hb,_⟩:=oQ.get _ _ _ U _ _ (List.getElem?_eq_getElem H)
   grind[cQ]
  ·cases h
 ·rename_i V a0 f I q
  rw[q] at r;simp only[cQ] at r
  obtain⟨L,a,d,g,W,s⟩:=r
  split at h
  ·rename_i F O y Q R
   split at h
   ·rename_i E
    obtain⟨j,rfl,N,G,D⟩:=E
    injection h with h;subst h
    have l:=s y ⟨F,O,Q,R,j⟩
    have a1:afq o V y I:=⟨F,O,Q,R,j⟩
    unfold Ss at l;split at l
    ·omega
    ·rename_i b c J
     have K:=l.1 (by omega)
     refine C a f d _ g K N G ?_
     simp only[cQ]
     refine⟨L,⟨_,rfl⟩,fun sz E=>⟨b,c,J,?_⟩⟩
     simp_all[Addr.add]
    simp_all
   ·cases h
  ·cases h
 ·cases h
theorem azu (f:gp A w σ o) (b:∀x,cQ A w σ o (gb x) (ga x)) {t c e sz:Nat} {x i:Operand} {n:Int} {m:Option Nat} (d:oper.op= .index t x i) (B:P.underlying t=some (.array c e)) (p:sizeT P e=some sz)
  (j:abC P e=some m) (z:DW (gb i)=some n) (E:0<=n) (C:n<c) {cs:List AV} (g:gb x= .agg cs) (h:AX cs (n.toNat*sz) m=some v):Gives A P ga oper w σ o v o:=by
 obtain⟨k,q⟩:=agH (b i) z
 have a:=b x
 rw[g] at a;simp only[cQ] at a
 obtain⟨s,l,r⟩:=a
 obtain⟨u,D,y⟩:=arY (P:=P) s cs _ e m j r h
 refine Gives.same f (u:=u) ?_ y
 simp only[execOp,d,Instr.index,q,l]
 simp_all[asIntOf,run_underlying,acK]
theorem azv (d:gp A w σ o) (c:∀x,cQ A w σ o (gb x) (ga x)) {t:Nat} {x i:Operand} {n:Int} {s:ByteArray} {b:UInt8} (e:oper.op= .index t x i) (l:P.underlying t=some .string)
  (f:DW (gb i)=some n) (p:0<=n) (g:gb x= .sc (.string s)) (h:s[n.toNat]?=some b):Gives A P ga oper w σ o (.sc (.int .u8 b.toNat)) o:=by
 obtain⟨k,j⟩:=agH (c i) f
 have a:=c x
 rw[g] at a
 have m:=B0 a
 refine Gives.same d (u:=.int .u8 b.toNat) ?_ (by simp[cQ,Value.oneCell'])
 simp_all[execOp,Instr.index,asIntOf,run_underlying]
theorem azw (s:gp A w σ o) (j:∀x,cQ A w σ o (gb x) (ga x)) {t:TypeId} {x:Operand} {c:Call} {k n:Nat} (q:oper.op= .call c) (z:c.callee= .builtin .len) (C:c.args=#[x]) (r:c.argTypes=#[t])
  (g:(k=0/\∃e,P.underlying t=some (.slice e))\/(k=1/\P.underlying t=some .string)\/(k=2/\∃a b,P.underlying t=some (.map a b))) (d:W7 o k (gb x)=some n):Gives A P ga oper w σ o (.sc (.int .i64 n)) o:=by
 refine Gives.same s (u:=.int .i64 n) ?_ (by simp[cQ,Value.oneCell'])
 simp only[execOp,q,resolve,z,C,r,invoke,builtin]
 have h:=j x
 rcases g with⟨rfl,e,g⟩|⟨rfl,g⟩|⟨rfl,a,b,g⟩
 ·have:∃A c,ga x= .slice A n c:=by
   cases f:gb x<;>rw[f] at d h<;>simp only[W7,reduceCtorEq] at d<;>grind[W7,reduceCtorEq,B0,cQ]
  obtain⟨A,E,l⟩:=this
  simp[l,Builtin.len_,run_underlying g,goInt]
 ·cases f:gb x<;>rw[f] at d h<;>simp only[W7,reduceCtorEq] at d
  rename_i u
  cases u<;>simp only[reduceCtorEq,Option.some.injEq] at d
  subst d
  simp[B0 h,Builtin.len_,run_underlying g,goInt]
 ·cases f:gb x<;>rw[f] at d h<;>simp only[W7,reduceCtorEq] at d
  rename_i B;split at d
  ·rename_i H J M D
   simp only[Option.some.injEq] at d;subst d;simp only[cQ] at h
   obtain⟨_,K,E,p,l⟩:=h
   have i:=s.obj B _ D
   simp only[pd] at i
   obtain⟨_,_,L,I,G,F,m,v,y,_⟩:=i
   rw[p] at m;simp only[Option.some.injEq,Prod.mk.injEq] at m
   obtain⟨rfl,rfl⟩:=m
   simp[l,Builtin.len_,run_underlying g,goInt,getObj,Sem.run,v,y]
  ·cases d
theorem azx (h:gp A w σ o) {t:TypeId} {x:Operand} {c:Call} {n e:Nat} (a:oper.op= .call c) (g:c.callee= .builtin .len) (f:c.args=#[x]) (b:c.argTypes=#[t])
  (d:P.underlying t=some (.array n e)):Gives A P ga oper w σ o (.sc (.int .i64 n)) o:=by
 refine Gives.same h (u:=.int .i64 n) ?_ (by simp[cQ,Value.oneCell'])
 simp[execOp,a,resolve,g,f,b,invoke,builtin,Builtin.len_,run_underlying d,goInt]
theorem asa (h:gp A w σ o) (d:∀x,cQ A w σ o (gb x) (ga x)) {mx:Bool} {x y:Operand} {c:Call} {k:IntKind} {a b:Int} (e:oper.op= .call c) (l:c.callee= .builtin (if mx then .max else .min)) (m:c.args=#[x,y])
  (j:gb x= .sc (.int k a)) (i:gb y= .sc (.int k b)):Gives A P ga oper w σ o (.sc (.int k (if mx then(if b>a then b else a) else(if b<a then b else a)))) o:=by
 have g:=d x
 have f:=d y
 rw[j] at g;rw[i] at f
 refine Gives.same h (u:=.int k (if mx then(if b>a then b else a) else(if b<a then b else a))) ?_ (by simp[cQ,Value.oneCell'])
 cases mx<;>simp[execOp,e,resolve,l,m,invoke,builtin,Builtin.min_,Builtin.max_,B0 g,B0 f,Builtin.min2,Builtin.max2]
theorem azy (l:gp A w σ o) (a:∀x,cQ A w σ o (gb x) (ga x)) {x:Operand} {i:Nat} (f:oper.op= .extract x i) {vs:List AV} (d:gb x= .eW vs) (h:vs[i]?=some v):Gives A P ga oper w σ o v o:=by
 have b:=a x
 rw[d] at b;simp only[cQ] at b
 obtain⟨g,k,e⟩:=b
 obtain⟨u,c,j⟩:=ey.get _ _ e i v h
 simp_all[Gives.same,execOp,Instr.extract]
theorem agI (a:∀x,cQ A w σ o (gb x) (ga x)):∀l:List Operand,ey A w σ o (l.map gb) (l.map ga)
 |[]=>by simp[ey]
 |x::l=>by simp only[List.map_cons,ey];exact⟨_,_,rfl,a x,agI a l⟩
theorem azz (g:gp A w σ o) (e:∀x,cQ A w σ o (gb x) (ga x)) {f:Fn} (d:∀l,fnL l f=f) {a b:Array Operand} (c:oper.op= .makeFunc f a b):Gives A P ga oper w σ o (.fn f (a.toList.map gb) (b.toList.map gb)) o:=by
 refine Gives.same g (u:=.func f (a.map ga) (b.map ga)) (by simp[execOp,c,Instr.makeFunc]) ?_
 simp only[cQ]
 exact⟨_,_,by rw[d],by simp_all[agI],by simp_all[agI]⟩
end
section
variable {P:Program} {A:qa} {w w':World} {σ σ':gB} {o o':Store} {gb:Operand->AV} {ga:Operand->Value} {oper:Oper} {v:AV}
theorem agJ {d k:Nat} {a:Option AV} {u:Option Value} (h:∀x,a=some x->∃y,u=some y/\cQ A w σ o x y) (c:a=none->u=none) (b:DX d a=some k):
  (u=none/\k=d)\/∃q,u=some (.int q (k:Int)):=by
 unfold DX at b
 grind[B0]
theorem asb (a:Bool) (b cap l h:Nat) (lo g:Option Value) (d:(lo=none/\l=0)\/∃q,lo=some (.int q (l:Int))) (e:(g=none/\h=b)\/∃q,g=some (.int q (h:Int))) (f:l<=h) (c:h<=cap):
  (Instr.sliceBounds a b cap lo g none).run P w= .ok (l,h,cap) w:=by
 have i:(0:Int)<=h/\(h:Int)<=cap:=by omega
 have j:(0:Int)<=l/\(l:Int)<=h:=by omega
 rcases d with⟨rfl,rfl⟩|⟨q,rfl⟩<;>rcases e with⟨rfl,rfl⟩|⟨k,rfl⟩<;>
  simp[Instr.sliceBounds,Instr.sliceBound,asIntOf,i,j,f,c]
theorem adi (a:∀x,cQ A w σ o (gb x) (ga x)) (lo:Option Operand):(∀x,lo.map gb=some x->∃y,lo.map ga=some y/\cQ A w σ o x y)/\(lo.map gb=none->lo.map ga=none):=by
 cases lo<;>simp_all
theorem azA (hS:gp A w σ o) (p:∀x,cQ A w σ o (gb x) (ga x)) {t e sz:Nat} {x:Operand} {lo m:Option Operand} (M:oper.op= .slice t x lo m none) (Y:P.underlying t=some (.slice e)) (S:sizeT P e=some sz) (a1:sz≠0)
  (h:acG o sz (gb x) (lo.map gb) (m.map gb)=some v):Gives A P ga oper w σ o v o:=by
 have B:=p x
 have r:∀(a:Option Addr) (g f l k:Nat),ga x= .slice a g f->DX 0 (lo.map gb)=some l->DX g (m.map gb)=some k->l<=k->k<=f->
   cQ A w σ o v (.slice (if f=l then a else a.map (·.add (l*sz))) (k - l) (f - l))->Gives A P ga oper w σ o v o:=by
  intro a g f l k q F C y T hr
  refine Gives.same hS ?_ hr
  have b1:=agJ (adi p lo).1 (adi p lo).2 F
  have b2:=agJ (adi p m).1 (adi p m).2 C
  simp only[execOp,M,Instr.sliceAt,q,Instr.slice]
  simp[run_underlying Y,asb true g f l k _ _ b1 b2 y T,acK S]
 unfold acG at h;split at h
 ·rename_i n cs z
  rw[z] at B;simp only[cQ] at B
  obtain⟨a,f,q,hn,hp,hm⟩:=B
  split at h
  ·rename_i l k F C
   split at h
   ·rename_i R
    injection h with h;subst h
    refine r a n f l k q F C R.1 (by omega) ?_
    simp only[cQ]
    refine⟨_,_,rfl,by omega,?_,?_⟩
    ·refine aeA fun c a7=>acL hp c ?_
     grind
    ·refine oQ.XR _ _ _ fun i c m=>?_
     rw[List.getElem?_take] at m;split at m
     ·rename_i a2
      rw[List.getElem?_drop] at m
      obtain⟨b,u,rfl,a4,U,hr⟩:=oQ.get _ _ _ hm _ _ m
      have D:f≠l:=by
       grind
      simp_all[add_block,add_add]
     ·cases m
   ·cases h
  ·cases h
 ·rename_i id E g s z
  rw[z] at B;simp only[cQ] at B
  obtain⟨Q,a,f,q,a5,G⟩:=B
  split at h
  ·rename_i l k F C
   split at h
   ·rename_i cs e' d pu ho
    split at h
    ·rename_i R
     injection h with h;subst h
     obtain⟨y,N,a0,rfl⟩:=R
     refine r a g f l k q F C y (by omega) ?_
     simp only[cQ]
     refine⟨Q,_,_,rfl,by omega,fun J H=>?_⟩
     have I:=G J H
     obtain⟨a8,e2,a3,j,_⟩:=H
     rw[ho] at j;injection j with j;injection j with _ _ hsz2 _;subst hsz2;unfold Ss at I ⊢;split
     ·simp_all
     ·rename_i b c L
      rw[L] at I
      obtain⟨h2,h3,h4⟩:=I
      have X:l*d+(k - l)*d=k*d:=by rw[<-Nat.add_mul];congr 1;omega
      have K:k*d<=g*d:=Nat.mul_le_mul_right _ N
      refine⟨fun Z=>?_,fun hz Y hs=>?_,?_⟩
      ·have D:f≠l:=by omega
       have j:adV (E+l*d) s d=adV E s d+l*d:=by
        rcases h4 with⟨h5,h6⟩|⟨h5,h6,h7⟩
        ·grind[ab4]
        ·rw[akp (by omega),akp (by omega)]
         omega
       rw[h2 (by omega),if_neg D,j]
       simp_all[Addr.add]
      ·have O:l*d=0:=by omega
       have V:l=0:=by
        rcases Nat.mul_eq_zero.1 O with h|h<;>omega
       subst V
       have a6:k*d=s:=by omega
       have W:k=g:=by
        have:g*d<=k*d:=by omega
        have:=Nat.le_of_mul_le_mul_right this hs
        omega
       simp_all[Addr.add]
      omega
     simp_all
    ·cases h
   ·cases h
  ·cases h
 all_goals grind[cQ,aic]
theorem azB (f cap l h m:Nat) (lo:Option Value) (i g:Value) (b:(lo=none/\l=0)\/∃q,lo=some (.int q (l:Int))) (a:∃q,i= .int q (h:Int))
  (c:∃q,g= .int q (m:Int)) (d:l<=h) (e:h<=m) (j:m<=cap):
  (Instr.sliceBounds true f cap lo (some i) (some g)).run P w= .ok (l,h,m) w:=by
 have n:(0:Int)<=m/\(m:Int)<=cap:=by omega
 have o:(0:Int)<=h/\(h:Int)<=m:=by omega
 have k:(0:Int)<=l/\(l:Int)<=h:=by omega
 obtain⟨r,rfl⟩:=c
 obtain⟨p,rfl⟩:=a
 rcases b with⟨rfl,rfl⟩|⟨q,rfl⟩<;>
  simp[Instr.sliceBounds,Instr.sliceBound,asIntOf,n,o,k,d,e]
theorem azC (hS:gp A w σ o) (C:∀x,cQ A w σ o (gb x) (ga x)) {t e sz:Nat} {x:Operand} {lo:Option Operand} {s mx:Operand} (a0:oper.op= .slice t x lo (some s) (some mx)) (ht:P.underlying t=some (.slice e)) (Z:sizeT P e=some sz) (b6:¬sz=0)
  (h:adW o sz (gb x) (lo.map gb) (gb s) (gb mx)=some v):Gives A P ga oper w σ o v o:=by
 have r:=C x
 have D:∀(a:Option Addr) (g j l k m:Nat),ga x= .slice a g j->DX 0 (lo.map gb)=some l->DX g (some (gb s))=some k->DX g (some (gb mx))=some m->l<=k->k<=m->m<=j->
   cQ A w σ o v (.slice (if m=l then a else a.map (·.add (l*sz))) (k - l) (m - l))->Gives A P ga oper w σ o v o:=by
  intro a g j l k m p S M V F H a2 hr
  refine Gives.same hS ?_ hr
  have b1:=agJ (adi C lo).1 (adi C lo).2 S
  have f:∀(y:Operand) (n:Nat),DX g (some (gb y))=some n->∃q,ga y= .int q (n:Int):=by
   intro y n hy
   rcases agJ (a:=some (gb y)) (u:=some (ga y)) (fun x r=>by injection r with r;subst r;exact⟨_,rfl,C y⟩) (fun h=>by cases h) hy with⟨h,_⟩|⟨q,h⟩
   all_goals simp_all
  have b2:=f s k M
  have b4:=f mx m V
  simp only[execOp,a0,Instr.sliceAt,p,Instr.slice]
  simp[run_underlying ht,azB g j l k m _ _ _ b1 b2 b4 F H a2,acK Z]
 unfold adW at h;split at h
 ·rename_i n cs E
  rw[E] at r;simp only[cQ] at r
  obtain⟨a,j,p,hn,hp,V⟩:=r
  split at h
  ·rename_i l k m S M I
   split at h
   ·rename_i U
    injection h with h;subst h
    refine D a n j l k m p S M I U.1 U.2.1 (by omega) ?_
    simp only[cQ]
    refine⟨_,_,rfl,by omega,?_,?_⟩
    ·refine aeA fun c a4=>acL hp c ?_
     exact List.mem_of_mem_drop (List.mem_of_mem_take a4)
    ·refine oQ.XR _ _ _ fun i c s=>?_
     rw[List.getElem?_take] at s;split at s
     ·rename_i b0
      rw[List.getElem?_drop] at s
      obtain⟨b,u,rfl,a8,a3,hr⟩:=oQ.get _ _ _ V _ _ s
      have O:m≠l:=by
       grind
      simp_all[add_block,add_add]
     ·cases s
   ·cases h
  ·cases h
 ·rename_i id z g N E
  rw[E] at r;simp only[cQ] at r
  obtain⟨a1,a,j,p,a9,L⟩:=r
  split at h
  ·rename_i l k m S M I
   split at h
   ·rename_i cs e' d pu ho
    split at h
    ·rename_i U
     injection h with h;subst h
     obtain⟨F,H,b3,a5,rfl,T,K⟩:=U
     refine D a g j l k m p S M I F H (by omega) ?_
     simp only[cQ]
     refine⟨a1,_,_,rfl,by omega,fun Y R=>?_⟩
     have J:=L Y R
     obtain⟨b5,e2,a7,B,_⟩:=R
     rw[ho] at B;injection B with B;injection B with _ _ hsz2 _;subst hsz2
     have a6:l*d+(k - l)*d=k*d:=by rw[<-Nat.add_mul];congr 1;omega
     have X:k*d<=g*d:=Nat.mul_le_mul_right _ (by omega)
     unfold Ss at J ⊢;split
     ·rename_i G
      rw[G] at J
      obtain⟨h2,h3,h4,h5⟩:=J
      subst h3
      exact⟨h2,by simp,by omega,by omega⟩
     ·rename_i b c G
      rw[G] at J
      obtain⟨h2,h3,h4⟩:=J
      refine⟨fun W=>?_,fun hz=>by omega,.inr ⟨by omega,by omega,K⟩⟩
      have O:m≠l:=by omega
      have Q:(⟨b,z,none⟩:Addr).add (l*d)=⟨b,z+l*d,none⟩:=by unfold Addr.add;split<;>simp_all
      rw[h2 (by omega),if_neg O,ab4 (by omega),akp (by omega),Option.map_some,Q,show z+l*d+(N+d) - N - d=z+l*d by omega]
     simp_all
    ·cases h
   ·cases h
  ·cases h
 ·cases h
theorem azD (g:gp A w σ o) (a:∀x,cQ A w σ o (gb x) (ga x)) {t l k:Nat} {x:Operand} {s:ByteArray} {lo b:Option Operand} (e:oper.op= .slice t x lo b none) (j:P.underlying t=some .string)
  (p:gb x= .sc (.string s)) (i:DX 0 (lo.map gb)=some l) (n:DX s.size (b.map gb)=some k) (c:l<=k) (d:k<=s.size):Gives A P ga oper w σ o (.sc (.string (s.extract l k))) o:=by
 have f:=a x
 rw[p] at f
 have m:=B0 f
 refine Gives.same g (u:=.string (s.extract l k)) ?_ (by simp[cQ,Value.oneCell'])
 have h:=agJ (adi a lo).1 (adi a lo).2 i
 have q:=agJ (adi a b).1 (adi a b).2 n
 simp only[execOp,e,Instr.sliceAt,m,Instr.slice]
 simp[run_underlying j,asb false s.size s.size l k _ _ h q c d]
theorem am5 (place:Nat->Option (Nat×Nat)):∀(f:List (Nat×Nat×AV)) (b:List (Nat×Value)) (cs:List AV) (vs:Array Value) (h:List AV),
  f.length=b.length->(∀(i:Nat) (p:Nat×Nat×AV) (q:Nat×Value),f[i]?=some p->b[i]?=some q->place q.1=some (p.1,p.2.1)/\cQ A w σ o p.2.2 q.2)->
  ey A w σ o cs vs.toList->s5 cs=true->Xm f cs=some h->
  ∃C,Instr.fill place vs b=some C/\ey A w σ o h C.toList/\s5 h=true/\h.length=cs.length
 |[],[],cs,vs,h,_,_,G,L,r=>by
  simp only[Xm,Option.some.injEq] at r;subst r
  exact⟨vs,rfl,G,L,rfl⟩
 |[],_::_,_,_,_,s,_,_,_,_=>by simp at s
 |_::_,[],_,_,_,s,_,_,_,_=>by simp at s
 |(e,n,a)::f,(i,u)::b,cs,vs,h,s,H,G,L,r=>by
  simp only[Xm] at r;split at r
  ·rename_i O
   obtain⟨J,S,U⟩:=O
   obtain⟨I,K⟩:=H 0 (e,n,a) (i,u) rfl rfl
   simp only at I K
   obtain⟨Q,W⟩:=K.cells S
   have t:=ey.length _ _ Q
   have E:=ey.length _ _ G
   have z:u.cells.size=n:=by rw[<-J,t];simp
   simp only[Instr.fill,I]
   rw[if_neg (by simp_all)]
   have M:∀(l:List Value) (k:Nat) (m:Array Value),((l.zipIdx k).foldl (fun cs (p:Value×Nat)=>cs.setIfInBounds (e+p.2) p.1) m).size=m.size/\
     ∀j,e+k+l.length<=m.size->((l.zipIdx k).foldl (fun cs (p:Value×Nat)=>cs.setIfInBounds (e+p.2) p.1) m)[j]?=if e+k<=j/\j<e+k+l.length then l[j - (e+k)]? else m[j]?:=by
    intro l
    induction l with
    |nil=>intro k m;simp;omega
    |cons x l ih=>
     intro k m;simp only[List.zipIdx_cons,List.foldl_cons]
     grind
   have D:Array.foldl (fun cs (p:Value×Nat)=>cs.setIfInBounds (e+p.2) p.1) vs u.cells.zipIdx=(u.cells.toList.zipIdx 0).foldl (fun cs (p:Value×Nat)=>cs.setIfInBounds (e+p.2) p.1) vs:=by
    rw[<-Array.foldl_toList];simp
   obtain⟨Z,P⟩:=M u.cells.toList 0 vs
   have y:ey A w σ o (Ai cs e a.cellsOf) ((u.cells.toList.zipIdx 0).foldl (fun cs (p:Value×Nat)=>cs.setIfInBounds (e+p.2) p.1) vs).toList:=by
    refine ey.XR _ _ (by grind[ain]) fun j c v=>?_
    rw[akr _ _ _ (by omega)] at v
    have F:=P j (by simp_all)
    simp only[Array.getElem?_toList];rw[F];simp only[Nat.add_zero,Array.length_toList,z];rw[J] at v
    by_cases g:e<=j/\j<e+n
    ·rw[if_pos g] at v ⊢
     grind[ey.get]
    ·rw[if_neg g] at v ⊢
     grind[ey.get]
   have B:s5 (Ai cs e a.cellsOf)=true:=aaE.2 fun d Y=>by
    grind[aio,aaE]
   obtain⟨C,V,T,X,k4⟩:=am5 place f b _ _ h (by simpa using s) (fun i p q R N=>H (i+1) p q (by simpa using R) (by simpa using N)) y B r
   grind[ain]
  ·cases r
end
section
variable {P:Program} {A:qa} {w w':World} {σ σ':gB} {o o':Store} {gb:Operand->AV} {ga:Operand->Value} {oper:Oper} {v:AV}
theorem am6 {d c:Type} {f:d->Option c}:∀{l:List d} {r:List c},adf f l=some r->l.length=r.length/\∀(i:Nat) (a:d) (b:c),l[i]?=some a->r[i]?=some b->f a=some b
 |[],r,h=>by grind[adf]
 |a::l,r,h=>by
  simp only[adf] at h;split at h
  ·rename_i b j m e
   injection h with h;subst h
   obtain⟨g,k⟩:=am6 e
   grind
  ·cases h
theorem asc (H:gp A w σ o) (g:∀x,cQ A w σ o (gb x) (ga x)) {t:TypeId} {place:Nat->Option (Nat×Nat)} {z:List Value} {a:Array (Nat×Operand)} {f:List (Nat×Nat×Operand)} {cs:List AV} (G:oper.op= .build t a)
  (J:XQ P t=some z) (E:∀e:Value,(P.info? t).bind (·.zero)=some e->∀l,P.built t l=Instr.fill place e.cells l)
  (c:f.length=a.toList.length) (n:∀(i:Nat) (p:Nat×Operand) (q:Nat×Nat×Operand),a.toList[i]?=some p->f[i]?=some q->place p.1=some (q.1,q.2.1)/\q.2.2=p.2)
  (B:Xm (f.map fun p=>(p.1,p.2.1,gb p.2.2)) (z.map .sc)=some cs):Gives A P ga oper w σ o (.agg cs) o:=by
 obtain⟨i,e,N,D,d,h,b⟩:=afr J
 obtain⟨r,Q,L,K,O⟩:=am5 (w:=w) (σ:=σ) (o:=o) place (f.map fun p=>(p.1,p.2.1,gb p.2.2)) (a.toList.map fun p=>(p.1,ga p.2)) (z.map .sc) e.cells cs (by simpa using c)
  (fun j p q v s=>by
   rw[List.getElem?_map,Option.map_eq_some_iff] at v s
   obtain⟨C,m,rfl⟩:=v
   obtain⟨F,k,rfl⟩:=s
   obtain⟨I,y⟩:=n j F C k m
   exact⟨I,by simp only[y];exact g _⟩) (by grind[agG]) (am3 b) B
 have M:P.built t (a.toList.map fun p=>(p.1,ga p.2))=some r:=by simp_all
 refine Gives.same H (u:=.agg r) ?_ (by grind[cQ])
 simp_all[run_build,execOp]
theorem ase (A:qa) (w:World) (σ:gB) (o:Store) {z:List Value} (a:∀u∈z,u.oneCell'=true) (b:Array Value) (q:b.toList=z):∀n:Nat,
  ey A w σ o (List.replicate n (z.map AV.sc)).flatten (madeCells b (n*z.length)).toList:=by
 intro n
 have i:((List.replicate n (z.map AV.sc)).flatten).length=n*z.length:=by simp
 refine ey.XR _ _ (by simp[madeCells]) fun j c d=>?_
 have e:j<n*z.length:=by grind
 have f:∀(n j:Nat),j<n*z.length->((List.replicate n (z.map AV.sc)).flatten)[j]?=(z.map AV.sc)[j % z.length]?:=by
  intro n
  induction n with
  |zero=>omega
  |succ n m=>
   intro j d;rw[List.replicate_succ,List.flatten_cons,List.getElem?_append];simp only[List.length_map]
   by_cases h:j<z.length
   ·rw[if_pos h,Nat.mod_eq_of_lt h]
   ·rw[if_neg h,m (j - z.length) (by grind)]
    congr 1
    rw[Nat.mod_eq_sub_mod (by omega:j≥z.length)]
 rw[f n j e] at d
 obtain⟨u,r,l⟩:=ey.get _ _ (agG A w σ o z a) _ c d
 refine⟨u,?_,l⟩
 have k:b.size=z.length:=by grind
 have g:0<z.length:=by
  grind
 have p:j % z.length<b.size:=by grind
 simp only[madeCells,Array.getElem?_toList]
 grind
theorem asf {z:List Value} (a:∀u∈z,u.oneCell'=true) (n:Nat):s5 (List.replicate n (z.map AV.sc)).flatten=true:=by
 refine aaE.2 fun c b=>?_
 simp only[List.mem_flatten,List.mem_replicate] at b
 grind[aaE,am3]
theorem azE (z:List Value) (n:Nat):pZ (List.replicate n (z.map AV.sc)).flatten=true:=by
 refine aeA fun c a=>?_
 simp only[List.mem_flatten,List.mem_replicate] at a
 grind[acL,ar5]
theorem ash (r:∀x,cQ A w σ o (gb x) (ga x)) {t e b:Nat} {z:List Value} {a:Array (Nat×Operand)} {cs:List AV} (F:P.underlying t=some (.slice e)) (E:XQ P e=some z) (m:0<z.length) (C:b*z.length<=16777216)
  (B:Xm ((a.toList.map fun p=>(p.1*z.length,p.2)).map fun p=>(p.1,z.length,gb p.2)) (List.replicate b (z.map AV.sc)).flatten=some cs):
  ∃g:Array Value,(Instr.buildSlice t b (a.map fun p=>(p.1,ga p.2))).run P w= .ok (.slice (some ⟨w.heap.size,0,none⟩) b b) (w.alloc (.cells g e))/\ey A w σ o cs g.toList/\s5 cs=true/\cs.length=b*z.length:=by
 obtain⟨i,k,H,l,c,f,d⟩:=afr E
 have v:k.cells.size=z.length:=by grind
 obtain⟨g,n,D,u,s⟩:=am5 (w:=w) (σ:=σ) (o:=o) (fun i=>some (i*z.length,z.length)) ((a.toList.map fun p=>(p.1*z.length,p.2)).map fun p=>(p.1,z.length,gb p.2))
  (a.toList.map fun p=>(p.1,ga p.2)) _ (madeCells k.cells (b*z.length)) cs (by simp)
  (fun j p q K J=>by
   grind) (ase A w σ o d k.cells c b) (asf d b) B
 have y:cs.length=b*z.length:=by rw[s];simp
 refine⟨g,?_,D,u,y⟩
 by_cases I:b*z.length=0
 ·have G:b=0:=by
   rcases Nat.mul_eq_zero.1 I with h|h<;>omega
  simp_all[madeCells,Array.range_zero',Instr.buildSlice,run_underlying,sizeOf,typeInfo,newRow]
 ·exact run_buildSlice w t e b _ g i k F H l (by simp_all) (by simp_all) (by
   rw[f]
   have:(a.map fun p=>(p.1,ga p.2)).toList=a.toList.map fun p=>(p.1,ga p.2):=by simp
   rw[this]
   exact n)
theorem azF (r:gp A w σ o) (l:∀x,cQ A w σ o (gb x) (ga x)) {t e a ei:Nat} {z:List Value} {b:Array (Nat×Operand)} {cs:List AV} (E:oper.op= .buildSlice t a b) (H:P.underlying t=some (.slice e))
  (y:XQ P e=some z) (d:0<z.length) (i:a*z.length<=16777216)
  (B:Xm ((b.toList.map fun p=>(p.1*z.length,p.2)).map fun p=>(p.1,z.length,gb p.2)) (List.replicate a (z.map AV.sc)).flatten=some cs) (s:o[ei]?=some .dead):
  Gives A P ga oper w σ o (.os ei 0 a (a*z.length)) (o.set ei (.cells (sy (pZ cs) cs) e z.length (pZ cs))):=by
 obtain⟨q,J,v,G,K⟩:=ash l H y d i B
 have f:ei<o.length:=(List.getElem?_eq_some_iff.1 s).1
 have m:ei<σ.length:=by rw[r.len];exact f
 have g:q.size=a*z.length:=by have:=ey.length _ _ v;simp_all
 have n:a<=maxLen:=by
  have:a*1<=a*z.length:=Nat.mul_le_mul_left _ d
  grind[maxLen]
 obtain⟨k,D⟩:=r.akt (w:=w) (arr:=q) (e:=e) (sz:=z.length) (cap:=a) (pu:=pZ cs) (cs:=sy (pZ cs) cs) s g n (by grind[aez]) (am1 G) (fun h=>akq h)
  (fun j c N=>by grind[am2])
 refine⟨.slice (some ⟨w.heap.size,0,none⟩) a a,_,_,.inl ?_,k,?_,D⟩
 ·simp_all[execOp]
 ·simp only[cQ]
  refine⟨⟨_,_,_,_,by rw[List.getElem?_set_self f],by grind[aez]⟩,_,_,rfl,Nat.le_refl _,fun M C=>?_⟩
  obtain⟨F,L,I,u,_⟩:=C
  grind[Ss,ab4]
theorem gp.grow (a:gp A w σ o) (x:Obj):gp A (w.alloc x) σ o/\Ext w σ o (w.alloc x) σ o:=by
 have e:Ext w σ o (w.alloc x) σ o:=⟨by simp,fun b d g=>⟨heap_alloc_old w x b d,g⟩,Nat.le_refl _,fun _ _ h=>⟨h,fun _ h=>⟨h,rfl⟩⟩,fun _ h=>⟨h,rfl⟩,rfl,rfl,rfl⟩
 exact⟨⟨a.len,a.dist,fun i b c h=>Nat.lt_of_lt_of_le (a.bnd i b c h) (by simp),fun i y f=>(a.obj i y f).ext e rfl fun b c d=>heap_alloc_old w x b (a.bnd i b c d),a.av,fun b d=>Nat.lt_of_lt_of_le (a.QL b d) (by simp)⟩,e⟩
theorem azG (f:gp A w σ o) (h:∀x,cQ A w σ o (gb x) (ga x)) {t e a:Nat} {z:List Value} {b:Array (Nat×Operand)} {cs:List AV} (r:oper.op= .buildSlice t a b) (C:P.underlying t=some (.slice e))
  (q:XQ P e=some z) (d:0<z.length) (g:a*z.length<=16777216)
  (v:Xm ((b.toList.map fun p=>(p.1*z.length,p.2)).map fun p=>(p.1,z.length,gb p.2)) (List.replicate a (z.map AV.sc)).flatten=some cs) (s:pZ cs=true):
  Gives A P ga oper w σ o (.sl a (sy true cs)) o:=by
 obtain⟨m,F,D,G,H⟩:=ash h C q d g v
 obtain⟨k,l⟩:=f.grow (.cells m e)
 refine⟨.slice (some ⟨w.heap.size,0,none⟩) a a,_,_,.inl ?_,k,?_,l⟩
 ·simp_all[execOp]
 ·simp only[cQ]
  refine⟨_,_,rfl,Nat.le_refl _,akq s,oQ.XR _ _ _ fun j c B=>?_⟩
  obtain⟨u,I,y⟩:=am2 D B
  refine⟨_,u,rfl,?_,?_,y.ext l⟩
  ·refine⟨?_,fun n=>by have:=f.QL _ n;simp at this⟩
   rintro⟨i,c,E⟩
   have:=f.bnd i _ c E
   simp at this
  grind[Addr.add,World.cell?,heap_alloc_new]
theorem azH (pu:Bool) (n:Nat) (cs:List AV):(List.replicate n (sy pu cs)).flatten=sy pu (List.replicate n cs).flatten:=by
 unfold sy
 split<;>simp_all
theorem azI (D:gp A w σ o) (p:∀x,cQ A w σ o (gb x) (ga x)) {t e ei a:Nat} {z:List Value} {l c:Operand} {n m:Int} {pu:Bool} (V:oper.op= .makeSlice t l c) (Z:P.underlying t=some (.slice e))
  (hz:XQ P e=some z) (hb:agA P e=some a) (S:DW (gb l)=some n) (I:DW (gb c)=some m) (H:0<=n) (v:n<=m) (W:m*a<=140737488355328) (hm:m<=1000000000000)
  (E:o[ei]?=some .dead):Gives A P ga oper w σ o (.os ei 0 n.toNat (n.toNat*z.length)) (o.set ei (.cells (List.replicate n.toNat (sy pu (z.map AV.sc))).flatten e z.length pu)):=by
 rw[azH]
 obtain⟨i,q,hi,B,b,f,d⟩:=afr hz
 obtain⟨O,T⟩:=agH (p l) S
 obtain⟨M,N⟩:=agH (p c) I
 have K:i.bytes=a:=by grind[agA]
 have g:=run_make (P:=P) w t e i q Z hi B O M n m H v (by grind) (by omega)
 rw[f] at g
 have k:ei<o.length:=(List.getElem?_eq_some_iff.1 E).1
 have s:ei<σ.length:=by rw[D.len];exact k
 have J:n.toNat*z.length<=m.toNat*z.length:=Nat.mul_le_mul_right _ (by omega)
 have h:=ase A w σ o d q.cells b m.toNat
 obtain⟨C,U⟩:=D.akt (w:=w) (arr:=madeCells q.cells (m.toNat*z.length)) (e:=e) (sz:=z.length) (cap:=m.toNat) (pu:=pu) (cs:=sy pu (List.replicate n.toNat (z.map AV.sc)).flatten) E (by simp[madeCells])
  (by grind[maxLen]) (by simp_all[aez,madeCells]) (am1 (asf d _)) (fun _=>akq (azE _ _))
  (fun j c F=>by
   have L:ey A w σ o (List.replicate n.toNat (z.map AV.sc)).flatten ((madeCells q.cells (m.toNat*z.length)).toList.take (n.toNat*z.length)):=by
    refine ey.XR _ _ (by simp_all[madeCells]) fun j c F=>?_
    have X:=(List.getElem?_eq_some_iff.1 F).1
    have G:j<n.toNat*z.length:=by simp_all
    have r:(List.replicate m.toNat (z.map AV.sc)).flatten=(List.replicate n.toNat (z.map AV.sc)).flatten++(List.replicate (m.toNat - n.toNat) (z.map AV.sc)).flatten:=by
     rw[<-List.flatten_append,List.replicate_append_replicate]
     grind
    obtain⟨u,hu,hr⟩:=ey.get _ _ h j c (by grind)
    simp_all
   grind[am2])
 refine⟨.slice (some ⟨w.heap.size,0,none⟩) n.toNat m.toNat,_,_,.inl ?_,C,?_,U⟩
 ·simp_all[execOp]
 ·simp only[cQ]
  refine⟨⟨_,_,_,_,by rw[List.getElem?_set_self k],by rw[aez];simp⟩,_,_,rfl,by omega,fun sz y=>?_⟩
  obtain⟨Y,e2,Q,R,_⟩:=y
  grind[Ss,ab4]
end
section
variable {P:Program} {A:qa} {w w':World} {σ σ':gB} {o o':Store} {gb:Operand->AV} {ga:Operand->Value} {oper:Oper} {v:AV}
theorem am7 (b a j:Nat):(⟨b,a,none⟩:Addr).add j=⟨b,a+j,none⟩:=by grind[Addr.add]
theorem azJ (C:gp A w σ o) {sz:Nat} (B:0<sz) {a:AV} {u:Value} (h:cQ A w σ o a u) {m:Nat} {i:List AV} (f:aaC o sz a=some (m,i)):
  ∃Z c,u= .slice Z m c/\m<=c/\i.length=m*sz/\∀(j:Nat) (d:AV),i[j]?=some d->∃(p:Addr) (v:Value),Z=some p/\w.cell? (p.add j)=some v/\cQ A w σ o d v:=by
 unfold aaC at f;split at f
 ·grind[cQ,oQ.get]
 ·rename_i F J s E
  simp only[cQ] at h
  obtain⟨H,Z,t,rfl,D,k⟩:=h
  split at f
  ·rename_i G e r K x
   split at f
   ·rename_i g
    obtain⟨l,rfl,q⟩:=g
    simp only[Option.some.injEq,Prod.mk.injEq] at f
    obtain⟨rfl,rfl⟩:=f
    have y:=k r ⟨G,e,K,x,l⟩
    refine⟨Z,t,rfl,D,by simp;omega,fun j d n=>?_⟩
    rw[List.getElem?_take] at n;split at n
    ·rename_i M
     rw[List.getElem?_drop] at n
     have z:0<s:=by
      grind
     unfold Ss at y;split at y
     ·omega
     ·rename_i b c I
      have L:=C.obj F _ x
      grind[pd,ab4,am7,World.cell?]
     simp_all
    ·cases n
   ·cases f
  ·cases f
 all_goals grind[B0]
theorem azK {t g e:TypeId} {i:TypeInfo} (b:P.underlying t=some (.slice e)) (d:P.info? e=some i) (B Z:Option Addr) (n c f:Nat) (a:n<=c) (w:World):
  (Builtin.append_ #[t,t] g #[.slice B n c,.slice Z 0 f]).run P w= .ok (.slice B n c) w:=by
 cases B<;>cases Z<;>simp[Builtin.append_,run_underlying b,sizeOf,typeInfo,d,Builtin.lenOf,Builtin.firstCells,a,loadCells,loadCellsFrom,storeCells]
theorem am8 {t:TypeId} {c:Call} {s x:Operand} (a:oper.op= .call c) (e:c.callee= .builtin .append) (d:c.args=#[s,x]) (b:c.argTypes=#[t,t]) {u:Value}
  (h:(Builtin.append_ #[t,t] oper.type #[ga s,ga x]).run P w= .ok u w'):(execOp ga oper).run P w= .ok (.value u) w':=by
 simp[execOp,a,resolve,e,d,b,invoke,builtin,h]
theorem asi {A:qa} {w:World} {σ:gB} {o:Store} {Z:Option Addr}:∀(a:List AV) (k:Nat),(∀(j:Nat) (d:AV),a[j]?=some d->∃(p:Addr) (v:Value),Z=some p/\w.cell? (p.add (k+j))=some v/\cQ A w σ o d v)->
  ∃vs:List Value,ey A w σ o a vs/\∀(p:Addr),Z=some p->∀(j:Nat) (u:Value),vs[j]?=some u->w.cell? (p.add (k+j))=some u
 |[],_,_=>⟨[],by simp[ey],by simp⟩
 |d::a,k,h=>by
  obtain⟨p,v,i,l,e⟩:=h 0 d (by simp)
  obtain⟨vs,c,g⟩:=asi a (k+1) (fun j b f=>by
   have:=h (j+1) b (by simp_all)
   rwa [show k+1+j=k+(j+1) from by omega])
  refine⟨v::vs,by grind[ey],fun q m j u n=>?_⟩
  grind
theorem asj {A:qa} {w:World} {σ:gB} {o:Store}:∀{cs:List AV} {vs:List Value},ey A w σ o cs vs->s5 cs=true->∀u∈vs,u.oneCell'=true
 |[],vs,d,_=>by grind[ey]
 |c::cs,vs,d,a=>by
  simp only[ey] at d
  obtain⟨v,r,rfl,e,f⟩:=d
  simp only[s5,List.all_cons,Bool.and_eq_true] at a;intro u b
  rcases List.mem_cons.1 b with rfl|b
  ·exact e.one a.1
  ·exact asj f a.2 u b
theorem azL (hS:gp A w σ o) (c4:∀x,cQ A w σ o (gb x) (ga x)) {t e sz f ei:Nat} {z:List Value} {c:Call} {s x:Operand} {pu:Bool} (c1:oper.op= .call c) (hc:c.callee= .builtin .append) (ha:c.args=#[s,x]) (c6:c.argTypes=#[t,t])
  (ht:P.underlying t=some (.slice e)) (hz:XQ P e=some z) (hb:agA P e=some f) (f1:sz=z.length) (y:0<sz) (h:acF e sz f pu (gb s) (gb x) o ei=some (v,o')):Gives A P ga oper w σ o v o':=by
 obtain⟨i,zv,hi,c8,c9,e3,f0⟩:=afr hz
 have c7:i.bytes=f:=by grind[agA]
 have b3:i.size=sz:=by omega
 have c3:zv.cells.size=sz:=by grind
 unfold acF at h;split at h
 ·cases h
 rename_i m q e1;split at h
 ·cases h
 rename_i h1
 have b1:s5 q=true:=by simpa using h1
 obtain⟨Z,cx,g0,f9,b7,K⟩:=azJ hS y (c4 x) e1
 have d3:∀(B:Option Addr) (n l:Nat),m=0->ga s= .slice B n l->n<=l->(execOp ga oper).run P w= .ok (.value (.slice B n l)) w:=by
  grind[am8,azK]
 obtain⟨vs,a4,f6⟩:=asi (w:=w) (σ:=σ) (o:=o) (Z:=Z) q 0 (fun j d hd=>by simpa using K j d hd)
 have M:vs.length=m*sz:=by grind[ey.length]
 have J:=asj a4 b1
 have hs:=c4 s
 split at h
 ·
  rename_i a1;rw[a1] at hs
  have d8:=B0 hs
  split at h
  ·grind[Gives.same,aic]
  ·rename_i a7
   split at h
   ·rename_i F
    obtain⟨a8,b9,a9⟩:=F
    cases U:SU ei (.cells q e sz pu) o with
    |none=>simp[U] at h
    |some o2=>
     simp only[U,Option.map_some,Option.some.injEq,Prod.mk.injEq] at h
     obtain⟨rfl,rfl⟩:=h
     obtain⟨hd,rfl⟩:=agF U
     have L:ei<o.length:=(List.getElem?_eq_some_iff.1 hd).1
     have X:ei<σ.length:=by rw[hS.len];exact L
     have a0:0<q.length:=by rw[b7];exact Nat.mul_pos (by omega) y
     obtain⟨p,_,hp,_⟩:=K 0 _ (List.getElem?_eq_getElem a0)
     obtain⟨v',N,b8,r,a,c5,e0⟩:=run_append_own_at (P:=P) w w.heap.size t oper.type e i zv sz f ht hi c8 b3 c7 c3 y (.slice none 0 0) 0 [] (World.ownsRow_nil w _ _ _) p m cx vs M
      (fun j u hu=>by simp_all) J (by grind[maxLen]) (by simp_all) (Nat.le_refl _)
     have G:=am8 (P:=P) (w:=w) (w':=N) (ga:=ga) c1 hc ha c6 (u:=v') (by simp_all)
     simp only[Nat.zero_add,List.nil_append] at r
     rcases r.2 with⟨I,d4⟩|⟨g,l,O,I,hg,hh,H,a2,a3,b4⟩
     ·omega
     ·have d9:g<N.heap.size:=(Array.getElem?_eq_some_iff.1 hh).1
      obtain⟨Y,hE⟩:=gp.upd (w':=N) (x:=.dead) (x':=.cells q e sz pu) (s':=some (g,l)) hS hd a.size a.os a.tape a.output (fun b W _=>a.block b W (by simp[Value.ownBlock]))
       (fun b c2 h2=> .inr (by simp_all)) trivial (fun hE=>by
        simp only[pd]
        refine⟨fun b2=>a9.resolve_left (by simp[b2]),b1,.inr ⟨g,l,O,by simp_all,a2,hh,a3,by
         grind,fun j d T=>?_⟩⟩
        obtain⟨u,hu,hr⟩:=ey.get _ _ a4 j d T
        refine⟨u,?_,hr.ext hE⟩
        grind)
      refine⟨v',N,_,.inl G,Y,?_,hE⟩
      simp only[cQ]
      refine⟨⟨_,_,_,_,by rw[List.getElem?_set_self L],by omega⟩,_,_,I,H,fun e6 a5=>?_⟩
      obtain⟨e4,e2,d5,d6,_⟩:=a5
      grind[Ss,ab4]
   ·cases h
 ·
  rename_i id E f2 a1;rw[a1] at hs;simp only[cQ] at hs
  obtain⟨f3,B,C,d8,S,b6⟩:=hs
  split at h
  ·rename_i cs e' D R ho
   split at h
   ·rename_i F
    obtain⟨c0,rfl,rfl,a6,a8,b9,a9⟩:=F
    simp only[Option.some.injEq,Prod.mk.injEq] at h
    obtain⟨rfl,rfl⟩:=h
    have L:id<o.length:=(List.getElem?_eq_some_iff.1 ho).1
    have X:id<σ.length:=by rw[hS.len];exact L
    have hk:=b6 D ⟨cs,e',R,ho,c0⟩
    have Q:=hS.obj id _ ho
    simp only[pd] at Q
    obtain⟨q1,q2,q3⟩:=Q
    rcases Nat.eq_zero_or_pos m with a7|e5
    ·
     have d7:q=[]:=List.eq_nil_of_length_eq_zero (by rw[b7,a7];simp)
     subst a7 d7
     have e7:o.set id (.cells (cs++[]) e' D R)=o:=by
      apply List.ext_getElem?
      grind
     grind[Gives.same]
    ·have a0:0<q.length:=by simp_all
     obtain⟨p,_,hp,_⟩:=K 0 _ (List.getElem?_eq_getElem a0)
     have b5:∃xs:List Value,w.ownsRow 0 e' D (.slice B E C) E xs/\ey A w σ o cs xs/\(∀k,(Value.slice B E C).ownBlock=some k->∃d,σ[id]?=some (some (k,d))):=by
      unfold Ss at hk;split at hk
      ·simp_all[World.ownsRow_nil,Value.ownBlock,ey]
      ·rename_i b l d2
       obtain⟨k1,k2,k3⟩:=hk
       obtain⟨k4,k5⟩:=k2 rfl a6 y
       subst k4 k5
       rcases q3 with⟨h0,_⟩|⟨b',e8,b0,r1,r2,r3,r4,r5,r6⟩
       ·simp_all
       rw[d2] at r1;simp only[Option.some.injEq,Prod.mk.injEq] at r1
       obtain⟨rfl,rfl⟩:=r1
       refine⟨b0.toList.take (E*D),⟨by simp;omega,.inr ⟨b,C,b0,rfl,Nat.zero_le _,r3,S,r2,r4,rfl⟩⟩,ey.XR _ _ (by simp;omega) fun j d hd=>?_,fun k hk=>⟨C,by grind[Value.ownBlock]⟩⟩
       grind
      ·exact hk.elim
     obtain⟨xs,V,d1,e9⟩:=b5
     obtain⟨v',N,b8,r,a,c5,e0⟩:=run_append_own_at (P:=P) w 0 t oper.type e' i zv D f ht hi c8 b3 c7 c3 y (.slice B E C) E xs V p m cx vs M
      (fun j u hu=>by simp_all) J (by grind[maxLen]) a8 (Nat.zero_le _)
     have G:=am8 (P:=P) (w:=w) (w':=N) (ga:=ga) c1 hc ha c6 (u:=v') (by simp_all)
     rcases r.2 with⟨I,d4⟩|⟨g,l,O,I,hg,hh,H,a2,a3,b4⟩
     ·omega
     ·have d9:g<N.heap.size:=(Array.getElem?_eq_some_iff.1 hh).1
      have f4:(∃d,σ[id]?=some (some (g,d)))\/g=w.heap.size:=by
       have f5:v'.ownBlock=some g:=by rw[I];rfl
       grind
      have d0:(cs++q).length=(E+m)*D:=by grind
      obtain⟨Y,hE⟩:=gp.upd (w':=N) (x':=.cells (cs++q) e' D R) (s':=some (g,l)) hS ho a.size a.os a.tape a.output
       (fun b W f7=>a.block b W (fun he=>by grind))
       (fun b c2 h2=>by
        grind)
       ⟨_,_,_,rfl,by simp,fun f8=>by grind⟩ (fun hE=>by
        simp only[pd]
        refine⟨fun b2=>aeA fun d hd=>?_,aaE.2 fun d hd=>?_,.inr ⟨g,l,O,by simp_all,a2,hh,a3,by
         have:(O.toList.take ((E+m)*D)).length=(xs++vs).length:=by rw[b4]
         rw[r.1] at this
         simp at this;omega,fun j d T=>?_⟩⟩
        ·grind[acL]
        ·grind[aaE]
        ·obtain⟨u,hu,hr⟩:=ey.get _ _ (ey.append d1 a4) j d T
         refine⟨u,?_,hr.ext hE⟩
         grind)
      refine⟨v',N,_,.inl G,Y,?_,hE⟩
      simp only[cQ]
      refine⟨⟨_,_,_,_,by rw[List.getElem?_set_self L],by rw[d0,Nat.add_mul];omega⟩,_,_,I,H,fun e6 a5=>?_⟩
      obtain⟨e4,e2,d5,d6,_⟩:=a5
      grind[Ss,ab4]
   ·cases h
  ·cases h
 all_goals grind[cQ,Gives.same]
end
section
variable {P:Program} {A:qa} {w w':World} {σ σ':gB} {o o':Store} {gb:Operand->AV} {ga:Operand->Value} {oper:Oper} {v:AV}
def XT (P:Program) (t:TypeId) (l:List Value):Value:=
 match yf P t with
 |some true=> .agg l.toArray
 |_=>l.headD undef
theorem aaF:∀{a:List Nat} {vs:List Value},sV a vs=true->vs.length=a.length
 |[],[],_=>rfl
 |[],_::_,h=>by grind[sV]
 |k::a,[],h=>by grind[sV]
 |0::a,v::vs,h=>by cases v<;>simp only[sV,Bool.false_eq_true] at h<;>simp[aaF h]
 |1::a,v::vs,h=>by cases v<;>simp only[sV,Bool.false_eq_true] at h<;>simp[aaF h]
 |2::a,v::vs,h=>by cases v<;>simp only[sV,Bool.false_eq_true] at h<;>simp[aaF h]
 |(k+3)::a,v::vs,h=>by simp[sV] at h
theorem adZ:∀{a b:List Nat} {vs:List Value},sV (a++b) vs=true->sV a (vs.take a.length)=true/\sV b (vs.drop a.length)=true
 |[],b,vs,h=>by grind[sV]
 |k::a,b,[],h=>by grind[sV]
 |0::a,b,v::vs,h=>by cases v<;>simp only[List.cons_append,sV,Bool.false_eq_true] at h<;>simpa[sV] using adZ h
 |1::a,b,v::vs,h=>by cases v<;>simp only[List.cons_append,sV,Bool.false_eq_true] at h<;>simpa[sV] using adZ h
 |2::a,b,v::vs,h=>by cases v<;>simp only[List.cons_append,sV,Bool.false_eq_true] at h<;>simpa[sV] using adZ h
 |(k+3)::a,b,v::vs,h=>by simp[sV] at h
theorem am9:∀(n:Nat) {xs e:List Value} {r:Bool},A0 xs e=some r->
  ∃a b,A0 (xs.take n) (e.take n)=some a/\A0 (xs.drop n) (e.drop n)=some b/\r=(a&&b)
 |0,xs,e,r,h=>⟨true,r,by simp[A0],by simpa using h,by simp⟩
 |n+1,[],[],r,h=>by simp_all
 |n+1,[],_::_,r,h=>by grind[A0]
 |n+1,_::_,[],r,h=>by grind[A0]
 |n+1,x::xs,y::e,r,h=>by
  simp only[A0] at h;split at h
  ·rename_i a b j f
   injection h with h
   obtain⟨c,d,k,i,g⟩:=am9 n f
   grind[A0]
  ·cases h
theorem aip {m:Nat} {t:TypeId} {d:List Nat} (h:A1 P (m+1) t=some d):
  (P.underlying t=some .bool/\sizeT P t=some 1/\d=[1])\/(∃k,P.underlying t=some (.int k)/\sizeT P t=some 1/\d=[0])\/(P.underlying t=some .string/\sizeT P t=some 1/\d=[2])\/
  (∃fs,P.underlying t=some (.struct fs)/\P.stoodInHeld t=false/\ade (A1 P m) 0 fs.toList=some d/\sizeT P t=some d.length)\/
  ∃k e a,P.underlying t=some (.array k e)/\A1 P m e=some a/\d=(List.replicate k a).flatten/\sizeT P t=some (k*a.length):=by
 simp only[A1] at h;split at h
 ·rename_i k b c;injection h with h;exact .inr (.inl ⟨k,b,c,h.symm⟩)
 ·rename_i b c;injection h with h;exact .inl ⟨b,c,h.symm⟩
 ·rename_i b c;injection h with h;exact .inr (.inr (.inl ⟨b,c,h.symm⟩))
 ·rename_i fs n b c
  split at h
  ·cases h
  ·rename_i i
   split at h
   ·rename_i a f
    split at h
    ·rename_i g
     injection h with h;subst h
     exact .inr (.inr (.inr (.inl ⟨fs,b,by simp_all,f,by rw[g];exact c⟩)))
    ·cases h
   ·cases h
 ·rename_i k e n b c
  split at h
  ·rename_i a f
   split at h
   ·rename_i g
    injection h with h;subst h
    exact .inr (.inr (.inr (.inr ⟨k,e,a,b,f,rfl,by rw[<-g];exact c⟩)))
   ·cases h
  ·cases h
 ·cases h
theorem agK {m:Nat} {t:TypeId} {d:List Nat} (h:A1 P m t=some d):sizeT P t=some d.length/\(∃b,yf P t=some b):=by
 cases m with
 |zero=>grind[A1]
 |succ m=>
  rcases aip h with⟨a,c,rfl⟩|⟨k,a,c,rfl⟩|⟨a,c,rfl⟩|⟨g,a,_,_,c⟩|⟨k,e,f,a,_,rfl,c⟩
  all_goals simp_all[yf]
theorem agL {t:TypeId} {e:List Nat} (i:sizeT P t=some e.length) (k:∃b,yf P t=some b) (c:yf P t=some false->e.length=1) (xs:Array Value) (a:Nat) (j:a+e.length<=xs.size) (w:World):
  (part t xs a).run P w= .ok (XT P t ((xs.toList.drop a).take e.length)) w:=by
 obtain⟨b,d⟩:=k
 cases b with
 |true=>
  simp only[part,Sem.run_bind,agE d,Result.andThen_ok,if_true,acK i,Sem.run_pure,XT,d]
  congr 2
  grind
 |false=>
  have g:=c d
  have f:a<xs.size:=by omega
  simp only[part,Sem.run_bind,agE d,Result.andThen_ok,Bool.false_eq_true,if_false,XT,d,g];rw[Array.getElem?_eq_getElem f]
  have h:xs.toList.drop a=xs[a]::xs.toList.drop (a+1):=by
   rw[List.drop_eq_getElem_cons (by omega)]
   simp
  rw[h]
  simp
theorem afs {m:Nat} {t:TypeId} {a:List Nat} (h:A1 P m t=some a) (b:yf P t=some false):a.length=1:=by
 cases m<;>grind[A1,aip,yf]
theorem aku (d:Nat):∀(m:Nat) (t:TypeId) (I:List Nat),A1 P m t=some I->∀(xs h:List Value) (r:Bool),sV I xs=true->sV I h=true->A0 xs h=some r->∀w:World,
  (Op.equalIn (d+m) t (XT P t xs) (XT P t h)).run P w= .ok r w
 |0,t,I,hk,_,_,_,_,_,_,_=>by grind[A1]
 |m+1,t,I,hk,xs,h,r,O,R,G,w=>by
  rw[show d+(m+1)=(d+m)+1 from rfl]
  rcases aip hk with⟨s,U,rfl⟩|⟨k,s,U,rfl⟩|⟨s,U,rfl⟩|⟨fs,s,a1,x,U⟩|⟨k,e,c,s,x,rfl,U⟩
  ·match xs,h,O,R with
   |[.bool a],[.bool b],_,_=>
    simp[A0,seq1] at G
    subst G
    simp[XT,yf,s,Op.equalIn,run_underlying s]
  ·match xs,h,O,R with
   |[.int k1 a],[.int k2 b],_,_=>
    simp only[A0,seq1] at G
    by_cases he:k1=k2
    ·subst he
     simp at G;subst G
     simp[XT,yf,s,Op.equalIn,run_underlying s]
    simp_all
  ·match xs,h,O,R with
   |[.string a],[.string b],_,_=>
    simp[A0,seq1] at G
    subst G
    simp[XT,yf,s,Op.equalIn,run_underlying s,beq_toListBytes]
  ·have D:yf P t=some true:=by grind[yf]
   simp only[XT,D]
   have X:P.fieldsOf t=fs:=by grind[Program.fieldsOf]
   rw[run_equalIn_struct w (d+m) t xs.toArray h.toArray (by simp_all) a1,X]
   have K:=aaF O
   have M:=aaF R
   have L:∀(N:List Field) (g:Nat) (o:List Nat),ade (A1 P m) g N=some o->g+o.length=I.length->∀r,sV o (xs.drop g)=true->sV o (h.drop g)=true->
     A0 (xs.drop g) (h.drop g)=some r->(Op.eqFields (d+m) xs.toArray h.toArray N).run P w= .ok r w:=by
    intro N
    induction N with
    |nil=>
     intro g o p hl r C A J;simp only[ade,Option.some.injEq] at p;subst p
     have e1:=aaF C
     have e2:=aaF A
     have g1:xs.drop g=[]:=List.eq_nil_of_length_eq_zero (by omega)
     have g2:h.drop g=[]:=List.eq_nil_of_length_eq_zero (by omega)
     simp_all[A0,Op.eqFields]
    |cons f N ih=>
     intro g o p hl r C A J;simp only[ade] at p;split at p
     ·cases p
     ·rename_i a4
      split at p
      ·rename_i V z
       split at p
       ·rename_i r2 Y
        injection p with p;subst p
        obtain⟨y,u⟩:=agK z
        obtain⟨F,l⟩:=adZ C
        obtain⟨H,n⟩:=adZ A
        obtain⟨a,b,h4,B,h6⟩:=am9 V.length J
        rw[List.drop_drop] at l n B;rw[List.drop_drop] at B
        have v:f.name≠ "_" ∧f.offset=g:=by
         simp_all
        rw[List.length_append] at hl
        have T:=agL y u (fun E=>afs z E) xs.toArray f.offset (by grind) w
        have S:=agL y u (fun E=>afs z E) h.toArray f.offset (by grind) w
        rw[v.2] at T S
        have W:=aku d m f.type V z _ _ a F H h4 w
        have p4:=ih (g+V.length) r2 Y (by omega) b l n B
        simp only[Op.eqFields,v.1,ne_eq,not_false_eq_true,if_true,v.2,Sem.run_bind,T,S,Result.andThen_ok,W]
        cases a<;>simp_all
       ·cases p
      ·cases p
   grind
  ·obtain⟨y,u⟩:=agK x
   obtain⟨i,hi⟩:∃i,P.info? e=some i:=by
    cases hi:P.info? e<;>grind[sizeT]
   have a0:P.cellsOf e=c.length:=by
    grind[sizeT,Program.cellsOf]
   have D:yf P t=some true:=by grind[yf]
   simp only[XT,D];rw[run_equalIn_array w (d+m) xs.toArray h.toArray s hi,a0]
   have K:=aaF O
   have M:=aaF R
   have Z:((List.replicate k c).flatten).length=k*c.length:=by simp
   rw[Z] at K M
   have L:∀(q j:Nat),j+q=k->∀r,sV ((List.replicate q c).flatten) (xs.drop (j*c.length))=true->sV ((List.replicate q c).flatten) (h.drop (j*c.length))=true->
     A0 (xs.drop (j*c.length)) (h.drop (j*c.length))=some r->(Op.eqItems (d+m) e c.length xs.toArray h.toArray (List.range' j q)).run P w= .ok r w:=by
    intro q
    induction q with
    |zero=>
     intro j hj r C A J
     have e1:=aaF C
     have e2:=aaF A
     simp only[List.replicate_zero,List.flatten_nil,List.length_nil] at e1 e2
     have g1:xs.drop (j*c.length)=[]:=List.eq_nil_of_length_eq_zero e1
     have g2:h.drop (j*c.length)=[]:=List.eq_nil_of_length_eq_zero e2
     rw[g1,g2] at J
     simp_all[A0,Op.eqItems]
    |succ q ih=>
     intro j hj r C A J;rw[List.replicate_succ,List.flatten_cons] at C A
     obtain⟨F,l⟩:=adZ C
     obtain⟨H,n⟩:=adZ A
     obtain⟨a,b,h4,B,h6⟩:=am9 c.length J
     rw[List.drop_drop] at l n B;rw[List.drop_drop] at B
     have Q:j*c.length+c.length=(j+1)*c.length:=by grind
     rw[Q] at l n B
     have a3:j*c.length+c.length<=k*c.length:=by rw[Q];exact Nat.mul_le_mul_right _ (by omega)
     have T:=agL y u (fun E=>afs x E) xs.toArray (j*c.length) (by simp;omega) w
     have S:=agL y u (fun E=>afs x E) h.toArray (j*c.length) (by simp;omega) w
     have W:=aku d m e c x _ _ a F H h4 w
     have p4:=ih (j+1) (by omega) b l n B
     rw[List.range'_succ];simp only[Op.eqItems,Sem.run_bind,T,S,Result.andThen_ok,W]
     cases a<;>simp_all
   have:=L k 0 (by omega) r (by simp_all) (by simp_all) (by simp_all)
   rw[List.range_eq_range'];exact this
end
section
variable {P:Program} {A:qa} {w w':World} {σ σ':gB} {o o':Store} {gb:Operand->AV} {ga:Operand->Value} {oper:Oper} {v:AV}
theorem ana:∀(m:Nat) (t:TypeId) (j:List Nat),A1 P m t=some j->∀D,m<=D->P.eqGuardType D t=false
 |0,_,_,h,_,_=>by grind[A1]
 |m+1,t,j,h,0,s=>by omega
 |m+1,t,j,h,D+1,s=>by
  rcases aip h with⟨c,d,rfl⟩|⟨k,c,d,rfl⟩|⟨c,d,rfl⟩|⟨v,c,r,a,d⟩|⟨k,e,i,c,a,rfl,d⟩
  ·grind[Program.eqGuardType]
  ·grind[Program.eqGuardType]
  ·grind[Program.eqGuardType]
  ·simp only[Program.eqGuardType,c]
   rw[<-Bool.not_eq_true,Array.any_eq_true']
   rintro⟨f,u,q⟩
   have n:∀(g:List Field) (l:Nat) (o:List Nat),ade (A1 P m) l g=some o->∀f∈g,∃b,A1 P m f.type=some b:=by
    intro g
    induction g<;>grind[ade]
   obtain⟨b,p⟩:=n _ _ _ a f (by simp_all)
   rw[ana m f.type b p D (by omega)] at q
   simp at q
  ·simp only[Program.eqGuardType,c]
   exact ana m e i a D (by omega)
theorem akv:∀{cs:List AV} {vs a:List Value},scs cs=some vs->ey A w σ o cs a->a=vs
 |[],vs,a,h,b=>by grind[scs,ey]
 |c::cs,vs,a,h,b=>by
  cases c<;>simp only[scs,reduceCtorEq,Option.map_eq_some_iff] at h
  obtain⟨r,d,rfl⟩:=h
  simp only[ey] at b
  obtain⟨u,f,rfl,g,e⟩:=b
  rw[B0 g,akv d e]
theorem azM (R:gp A w σ o) (g:∀x,cQ A w σ o (gb x) (ga x)) {m:BinOp} {d:Bool} {t J:TypeId} {h:List Nat} {x y:Operand} (n:oper.op= .binOp m t x y J) (O:(m= .eql/\d=false)\/(m= .neq/\d=true))
  (p:yf P t=some true) (v:A1 P 20 t=some h) (K:20<=P.depth) {a b:List AV} {r:Bool} (H:gb x= .agg a) (C:gb y= .agg b) (f:feq h a b=some r):
  Gives A P ga oper w σ o (.sc (.bool (if d then !r else r))) o:=by
 have i:=g x
 have k:=g y
 rw[H] at i;rw[C] at k;simp only[cQ] at i k
 obtain⟨I,M,j⟩:=i
 obtain⟨Q,G,q⟩:=k
 unfold feq at f;split at f
 ·rename_i z B l s
  split at f
  ·rename_i e
   simp only[Bool.and_eq_true] at e
   have L:=akv l j
   have F:=akv s q
   have c:=aku (P:=P) 9980 20 t h v z B r e.1 e.2 f w
   simp only[XT,p] at c
   have D:z.toArray=I:=by rw[<-L]
   have N:B.toArray=Q:=by rw[<-F]
   rw[D,N] at c
   refine Gives.same R (u:=.bool (if d then !r else r)) ?_ (by simp[cQ,Value.oneCell'])
   have E:=ana 20 t h v P.depth K
   simp only[execOp,n,M,G]
   rcases O with⟨rfl,rfl⟩|⟨rfl,rfl⟩<;>simp[eqGuard,E,binOp,Op.equal,Op.maxDepth,c]
  ·cases f
 ·cases f
theorem akw (x:Bool) (d:Nat):∀(m:Nat) (t:TypeId) (z:List Nat),A1 P m t=some z->∀(xs:List Value),sV z xs=true->∀w:World,(Instr.checkKey x (d+m) t (XT P t xs)).run P w= .ok () w
 |0,t,z,J,_,_,_=>by grind[A1]
 |m+1,t,z,J,xs,K,w=>by
  rw[show d+(m+1)=(d+m)+1 from rfl]
  rcases aip J with⟨u,D,rfl⟩|⟨k,u,D,rfl⟩|⟨u,D,rfl⟩|⟨V,u,S,h,D⟩|⟨k,e,a,u,h,rfl,D⟩
  ·simp_all[Instr.checkKey,run_underlying]
  ·simp_all[Instr.checkKey,run_underlying]
  ·simp_all[Instr.checkKey,run_underlying]
  ·have p:yf P t=some true:=by grind[yf]
   simp only[XT,p,Instr.checkKey,Sem.run_bind,run_underlying u,Result.andThen_ok]
   have A:=aaF K
   have I:∀(v:List Field) (b:Nat) (l:List Nat),ade (A1 P m) b v=some l->b+l.length=z.length->sV l (xs.drop b)=true->
     (forIn v PUnit.unit fun(f:Field) (_:PUnit)=>(do
      if f.name≠ "_" then
       Instr.checkKey x (d+m) f.type (<-part f.type xs.toArray f.offset)
      pure (ForInStep.yield PUnit.unit):Sem (ForInStep PUnit))).run P w= .ok PUnit.unit w:=by
    intro v
    induction v with
    |nil=>simp_all
    |cons f v H=>
     intro b l g Q C;simp only[ade] at g;split at g
     ·cases g
     ·rename_i U
      split at g
      ·rename_i L r
       split at g
       ·rename_i N F
        injection g with g;subst g
        obtain⟨s,o⟩:=agK r
        obtain⟨n,c⟩:=adZ C
        rw[List.drop_drop] at c
        have y:f.name≠ "_" ∧f.offset=b:=by
         simp_all
        rw[List.length_append] at Q
        have M:=agL s o (fun G=>afs r G) xs.toArray f.offset (by grind) w
        rw[y.2] at M
        have R:=akw x d m f.type L r _ n w
        have O:=H (b+L.length) N F (by omega) c
        simp_all
       ·cases g
      ·cases g
   grind[Result.andThen_ok,Sem.run_pure]
  ·obtain⟨s,o⟩:=agK h
   have p:yf P t=some true:=by grind[yf]
   simp only[XT,p,Instr.checkKey,Sem.run_bind,run_underlying u,Result.andThen_ok];simp only[Std.Legacy.Range.forIn_eq_forIn_range',Std.Legacy.Range.size,Nat.sub_zero,Nat.add_one_sub_one,Nat.div_one]
   have A:=aaF K
   have E:((List.replicate k a).flatten).length=k*a.length:=by simp
   rw[E] at A
   have I:∀(q j:Nat),j+q=k->sV ((List.replicate q a).flatten) (xs.drop (j*a.length))=true->
     (forIn (List.range' j q) PUnit.unit fun(i:Nat) (_:PUnit)=>(do
      Instr.checkKey x (d+m) e (<-part e xs.toArray (i*(<-sizeOf e)))
      pure (ForInStep.yield PUnit.unit):Sem (ForInStep PUnit))).run P w= .ok PUnit.unit w:=by
    intro q
    induction q with
    |zero=>simp_all
    |succ q H=>
     intro j W C;rw[List.replicate_succ,List.flatten_cons] at C
     obtain⟨n,c⟩:=adZ C
     rw[List.drop_drop] at c
     have B:j*a.length+a.length=(j+1)*a.length:=by grind
     rw[B] at c
     have T:j*a.length+a.length<=k*a.length:=by rw[B];exact Nat.mul_le_mul_right _ (by omega)
     have M:=agL s o (fun G=>afs h G) xs.toArray (j*a.length) (by simp;omega) w
     have R:=akw x d m e a h _ n w
     have O:=H (j+1) (by omega) c
     rw[List.range'_succ]
     simp_all[acK]
   simp_all
theorem azN {a b:ByteArray} (h:a.toList=b.toList):a=b:=by
 have c:(a==b)=true:=by grind[beq_toListBytes]
 obtain⟨x⟩:=a
 obtain⟨y⟩:=b
 have d:(x==y)=true:=c
 simp_all
theorem asl {a b:Value} (h:seq1 a b=some true):a=b/\(∀n,Instr.sameBits n b a=true):=by
 unfold seq1 at h
 grind[Instr.sameBits,azN,beq_toListBytes]
theorem asn:∀{xs c:List Value},A0 xs c=some true->xs=c/\∀n,(c.zip xs).all (fun p=>Instr.sameBits n p.1 p.2)=true
 |[],[],_=>⟨rfl,fun _=>rfl⟩
 |[],_::_,h=>by grind[A0]
 |_::_,[],h=>by grind[A0]
 |x::xs,y::c,h=>by
  simp only[A0] at h;split at h
  ·rename_i a b d e
   simp only[Option.some.injEq,Bool.and_eq_true] at h
   obtain⟨rfl,rfl⟩:=h
   obtain⟨f,g⟩:=asl d
   obtain⟨j,i⟩:=asn e
   simp_all
  ·cases h
theorem azO {a b:Value} (h:keq a b=some true):a=b/\∀n,Instr.sameBits (n+1) b a=true:=by
 unfold keq at h;split at h
 ·rename_i x y
  obtain⟨c,d⟩:=asn h
  simp_all[Instr.sameBits]
 all_goals grind[asl]
def agM (P:Program) (t:TypeId) (ks:List Nat) (k:Value):Prop:=∃l,sV ks l=true/\k=XT P t l
theorem agD.fits {t:TypeId} {b:List Nat} {a:Bool} {k:Value} (d:yf P t=some a) (h:agD (b,a) k):agM P t b k:=by
 obtain⟨l,c,e⟩:=h
 refine⟨l,c,?_⟩
 cases a
 all_goals simp_all[XT]
theorem aso {f:List Nat} {e:Bool} {a:AV} {u k:Value} (h:cQ A w σ o a u) (b:Xh f e a=some k):u=k/\agD (f,e) k:=by
 cases a<;>simp only[Xh,reduceCtorEq] at b
 ·rename_i v
  split at b
  ·rename_i c
   simp only[Bool.and_eq_true,Bool.not_eq_true'] at c
   injection b with b;subst b
   exact⟨B0 h,[v],c.2,by simp[c.1]⟩
  ·cases b
 ·rename_i j
  split at b
  ·rename_i g d
   split at b
   ·rename_i c
    simp only[Bool.and_eq_true] at c
    injection b with b;subst b
    simp only[cQ] at h
    obtain⟨l,rfl,i⟩:=h
    have:=akv d i
    exact⟨by rw[<-this],g,c.2,by simp[c.1]⟩
   ·cases b
  ·cases b
theorem azP {t:TypeId} {c:List Nat} (e:A1 P 20 t=some c) {a b:Value} (o:agM P t c a) (s:agM P t c b) {r:Bool} (h:keq a b=some r) (w:World):(Op.equal t a b).run P w= .ok r w:=by
 obtain⟨g,m,rfl⟩:=o
 obtain⟨f,k,rfl⟩:=s
 have n:A0 g f=some r:=by
  unfold XT at h
  obtain⟨_,u,d⟩:=agK e
  cases u with
  |true=>grind[keq]
  |false=>
   have l:=afs e d
   have j:=aaF m
   have i:=aaF k
   rw[l] at j i
   match g,f,j,i with
   |[x],[y],_,_=>
    simp only[d,List.headD_cons] at h
    have p:seq1 x y=some r:=by
     match c,l with
     |[q],_=>cases x<;>cases y<;>simp_all [sV,keq]<;>(match q with|0|1|2|_+3=>simp_all [sV])
    simp[A0,p]
 exact aku 9980 20 t c e g f r m k n w
theorem azQ {d:TypeDesc} {a b:Value} {r:Bool} (h:keq a b=some r):
  Instr.sameNow d a b=some r\/Instr.sameNow d a b=none:=by
 cases c:Instr.sameNow d a b with
 |none=>simp_all
 |some e=>
  left
  unfold Instr.sameNow at c
  grind[keq,seq1,beq_toListBytes]
theorem asq {t:TypeId} {p:List Nat} (G:A1 P 20 t=some p) {k:Value} (v:agM P t p k) (w:World) (es:List (Value×AV)) (en:List MapEntry) (l:en.length=es.length)
  (C:∀(j:Nat) (e:Value×AV),es[j]?=some e->∃m,en[j]?=some m/\m.key=e.1/\agM P t p m.key) {r:Option (Nat×AV)} (J:aa7 k es 0=some r):
  match r with
  |none=>(Instr.findKey t k en).run P w= .ok none w
  |some (i,a)=>∃e m,es[i]?=some e/\e.2=a/\en[i]?=some m/\keq k e.1=some true/\(Instr.findKey t k en).run P w= .ok (some (i,m.val)) w:=by
 obtain⟨d,H⟩:∃d,P.underlying t=some d:=by
  have:=(agK G).2
  grind[yf]
 have y:∀(es:List (Value×AV)) (en:List MapEntry) (i:Nat),en.length=es.length->(∀(j:Nat) (e:Value×AV),es[j]?=some e->∃m,en[j]?=some m/\m.key=e.1/\agM P t p m.key)->∀r,aa7 k es i=some r->
   (match r with
    |none=>(Instr.findAsking t k en i).run P w= .ok none w/\(∀q,Instr.findNow d k en i=some q->q=none)
    |some (n,a)=>∃e m,i<=n/\es[n - i]?=some e/\e.2=a/\en[n - i]?=some m/\keq k e.1=some true/\(Instr.findAsking t k en i).run P w= .ok (some (n,m.val)) w/\(∀q,Instr.findNow d k en i=some q->q=some (n,m.val))):=by
  intro es
  induction es with
  |nil=>
   intro en i A _ r f
   have:en=[]:=List.eq_nil_of_length_eq_zero (by omega)
   subst this;simp only[aa7,Option.some.injEq] at f;subst f
   simp_all[Instr.findAsking,Instr.findNow]
  |cons e es L=>
   intro en i A F r f
   match en,A with
   |m::en,A=>
    obtain⟨E,h,N,z⟩:=F 0 e (by simp)
    simp at h;subst h;simp only[aa7] at f
    cases c:keq k e.1 with
    |none=>simp[c] at f
    |some b=>
     have g:=azP G v z (r:=b) (by grind) w
     have O:=azQ (d:=d) (a:=k) (b:=m.key) (r:=b) (by grind)
     cases b with
     |true=>
      simp only[c,Option.some.injEq] at f;subst f
      refine⟨e,m,Nat.le_refl _,by simp,rfl,by simp,c,?_,?_⟩
      ·simp[Instr.findAsking,g]
      grind[Instr.findNow]
     |false=>
      simp only[c] at f
      have:=L en (i+1) (by grind) (fun j u Q=>by simpa using F (j+1) u (by grind)) r f
      have R:(Instr.findAsking t k (m::en) i).run P w=(Instr.findAsking t k en (i+1)).run P w:=by
       simp[Instr.findAsking,g]
      have K:∀q,Instr.findNow d k (m::en) i=some q->Instr.findNow d k en (i+1)=some q:=by
       grind[Instr.findNow]
      match r,this with
      |none,⟨s,o⟩=>grind
      |some (n,a),⟨u,E,s,o,B,M,x,I,D⟩=>
       refine⟨u,E,by omega,?_,B,?_,x,by grind,fun q c=>D q (K q c)⟩
       ·grind
       grind
 have:=y es en 0 l C r J
 match r,this with
 |none,⟨s,o⟩=>
  simp only[Instr.findKey,Sem.run_bind,run_underlying H,Result.andThen_ok]
  cases c:Instr.findNow d k en 0 with
  |none=>omega
  |some q=>simp[o q c]
 |some (n,a),⟨e,m,s,o,B,M,x,I,D⟩=>
  refine⟨e,m,by omega,B,by omega,x,?_⟩
  simp only[Instr.findKey,Sem.run_bind,run_underlying H,Result.andThen_ok]
  cases c:Instr.findNow d k en 0 with
  |none=>omega
  |some q=>simp[D q c]
theorem azR (k:gp A w σ o) {t:TypeId} {d:List Nat×Bool} {pu:Bool} {ei:Nat} (a:oper.op= .makeMap t none) (j:o[ei]?=some .dead):Gives A P ga oper w σ o (.mp ei) (o.set ei (.map [] d pu)):=by
 have f:ei<o.length:=(List.getElem?_eq_some_iff.1 j).1
 have e:ei<σ.length:=by rw[k.len];exact f
 obtain⟨g,i⟩:=gp.upd (w':=w.alloc (.map #[] 0)) (x:=.dead) (x':=.map [] d pu) (s':=some (w.heap.size,1)) k j (by simp) rfl rfl rfl (fun b l _=>heap_alloc_old w _ b l)
  (fun b c h=> .inr (by
   simp only[Option.some.injEq,Prod.mk.injEq] at h
   obtain⟨rfl,_⟩:=h
   exact⟨Nat.le_refl _,by simp⟩)) trivial (fun i=>by
   grind[pd,heap_alloc_new])
 refine⟨.map (some w.heap.size),_,_,.inl ?_,g,?_,i⟩
 ·simp[execOp,a,Instr.makeMap,newObj,Sem.run]
 ·simp only[cQ]
  exact⟨⟨[],d,pu,by simp_all⟩,w.heap.size,1,by simp_all,rfl⟩
theorem asr (g:gp A w σ o) {id:Nat} {es:List (Value×AV)} {f:List Nat×Bool} {pu:Bool} (i:o[id]?=some (.map es f pu)) {u:Value} (h:cQ A w σ o (.mp id) u):
  ∃(b c:Nat) (a:Array MapEntry) (d:Nat),σ[id]?=some (some (b,c))/\u= .map (some b)/\w.heap[b]?=some (.map a d)/\a.size=es.length/\(pu=true->∀e∈es,e.2.pure=true)/\(∀e∈es,agD f e.1)/\
   ∀(j:Nat) (e:Value×AV),es[j]?=some e->∃m,a[j]?=some m/\m.key=e.1/\cQ A w σ o e.2 m.val:=by
 simp only[cQ] at h
 obtain⟨_,b,c,k,rfl⟩:=h
 have l:=g.obj id _ i
 grind[pd]
theorem asu {t:TypeId} {z:List Value} {g:Bool} {a:AV} (k:XQ P t=some z) (c:ail P t g=true) (e:ac5 z g=some a):∃u,(∀w:World,(zeroValue t).run P w= .ok u w)/\cQ A w σ o a u:=by
 obtain⟨i,j,l,h,b,f,d⟩:=afr k
 refine⟨j,fun w=>by simp_all[zeroValue,typeInfo],?_⟩
 simp only[ail,l,h,Option.bind_some] at c;unfold ac5 at e
 cases j with
 |agg m=>
  simp only at c
  subst c;simp only[if_true,Option.some.injEq] at e
  grind[cQ,Value.cells,agG]
 |_=>
  simp only[Bool.not_eq_true'] at c;subst c;simp only[Value.cells] at b;subst b;simp only[Bool.false_eq_true,if_false,Option.some.injEq] at e;subst e
  exact by simp[cQ,d]
theorem azS {t:TypeId} {z:List Value} {g:Bool} (j:XQ P t=some z) (c:ail P t g=true):∃a,ac5 z g=some a:=by
 obtain⟨i,h,k,e,b,d,f⟩:=afr j
 simp only[ail,k,e,Option.bind_some] at c;unfold ac5
 cases h with
 |agg l=>simp_all
 |_=>
  simp only[Bool.not_eq_true'] at c;subst c;simp only[Value.cells] at b;subst b
  exact⟨_,rfl⟩
theorem asv (V:gp A w σ o) (q:∀x,cQ A w σ o (gb x) (ga x)) {t E T:TypeId} {D:List Nat} {I g ok:Bool} {z:List Value} {x k:Operand} (Y:oper.op= .lookup t x k ok) (ht:P.underlying t=some (.map E T))
  (S:A1 P 20 E=some D) (B:yf P E=some I) (hz:∃a u,ac5 z g=some a/\(∀w:World,(zeroValue T).run P w= .ok u w)/\cQ A w σ o a u)
  {id:Nat} (hx:gb x= .mp id) {X:Value} (H:Xh D I (gb k)=some X) {es:List (Value×AV)} {pu:Bool} (ho:o[id]?=some (.map es (D,I) pu))
  {r:Option (Nat×AV)} (hf:aa7 X es 0=some r) {M:AV} (f:ac5 z g=some M):
  Gives A P ga oper w σ o (if ok then .eW [(r.map (·.2)).getD M,.sc (.bool r.isSome)] else(r.map (·.2)).getD M) o:=by
 have O:=q x
 rw[hx] at O
 obtain⟨b,c,K,cl,a3,hu,Z,R,_,G,n⟩:=asr V ho O
 obtain⟨a1,L⟩:=aso (q k) H
 obtain⟨a0,z0,N,a2,F⟩:=hz
 rw[N] at f;injection f with f;subst f
 have d:=L.fits B
 have h:=asq S d w es K.toList (by omega) (fun j e W=>by
  obtain⟨m,hm,y,_⟩:=n j e W
  exact⟨m,by simp_all,y,by rw[y];exact(G e (List.mem_of_getElem? W)).fits B⟩) hf
 obtain⟨lk,C,s⟩:=d
 have J:=akw (P:=P) K.isEmpty 9980 20 E D S lk C w
 rw[<-s] at J
 have Q:(getObj b).run P w= .ok (.map K cl) w:=by simp[getObj,Sem.run,Z]
 have v:∃u,cQ A w σ o ((r.map (·.2)).getD a0) u/\(execOp ga oper).run P w= .ok (.value (if ok then .tuple #[u,.bool r.isSome] else u)) w:=by
  cases r with
  |none=>
   refine⟨z0,F,?_⟩
   simp_all[execOp,Instr.lookup,run_underlying]
  |some p=>
   obtain⟨i,a⟩:=p
   obtain⟨e,m,q1,q2,q3,q4,q5⟩:=h
   obtain⟨U,a4,_,hr⟩:=n i e q1
   have:U=m:=by
    simp_all
   subst this
   refine⟨U.val,by simp_all,?_⟩
   simp_all[execOp,Instr.lookup,run_underlying]
 obtain⟨u,hr,l⟩:=v
 refine Gives.same V l ?_
 cases ok
 all_goals simp_all[cQ,ey,Value.oneCell']
theorem azT {k:Value} (h:∀n,Instr.sameBits (n+1) k k=true) (w:World):(Instr.keyThatStays k k).run P w= .ok k w:=by
 simp_all[Instr.keyThatStays]
theorem akx (hS:gp A w σ o) (I:∀x,cQ A w σ o (gb x) (ga x)) {t U et:TypeId} {D:List Nat} {F:Bool} {x k y:Operand} (d:oper.op= .mapUpdate t x k y\/oper.op= .insert t x k y) (ht:P.underlying t=some (.map U et))
  (hk:A1 P 20 U=some D) (N:yf P U=some F)
  {id:Nat} (hx:gb x= .mp id) {h:Value} (a2:Xh D F (gb k)=some h) {es:List (Value×AV)} {pu:Bool} (ho:o[id]?=some (.map es (D,F) pu)) (a6:pu=true->(gb y).pure=true)
  {r:Option (Nat×AV)} (hf:aa7 h es 0=some r):
  Gives A P ga oper w σ o .ud (o.set id (.map (match r with|some (i,_)=>es.modify i fun _=>(h,gb y)|none=>es++[(h,gb y)]) (D,F) pu)):=by
 have h1:=I x
 rw[hx] at h1
 obtain⟨b,c,R,T,J,hu,hh,B,a4,W,a0⟩:=asr hS ho h1
 obtain⟨Q,Y⟩:=aso (I k) a2
 have u:=Y.fits N
 have s:=asq hk u w es R.toList (by omega) (fun j e l=>by
  obtain⟨m,hm,G,_⟩:=a0 j e l
  exact⟨m,by simpa using hm,G,by rw[G];exact(W e (List.mem_of_getElem? l)).fits N⟩) hf
 obtain⟨lk,K,O⟩:=u
 have E:=akw (P:=P) false 9980 20 U D hk lk K w
 rw[<-O] at E
 have C:(getObj b).run P w= .ok (.map R T) w:=by simp[getObj,Sem.run,hh]
 have z:∀X:Obj,(setObj b X).run P w= .ok () {w with heap:=w.heap.setIfInBounds b X}:=by
  grind[setObj,Sem.run]
 have S:b<w.heap.size:=hS.bnd id b c J
 have a5:id<o.length:=(List.getElem?_eq_some_iff.1 ho).1
 have a3:id<σ.length:=by grind
 have v:σ.set id (some (b,c))=σ:=by
  apply List.ext_getElem?
  grind
 have L:∀(f:Array MapEntry) (n:Nat) (g:List (Value×AV)),(execOp ga oper).run P w= .ok .skip {w with heap:=w.heap.setIfInBounds b (.map f n)}->f.size=g.length->
   (pu=true->∀e∈g,e.2.pure=true)->(∀e∈g,agD (D,F) e.1)->(∀(j:Nat) (e:Value×AV),g[j]?=some e->∃m,f[j]?=some m/\m.key=e.1/\cQ A w σ o e.2 m.val)->
   Gives A P ga oper w σ o .ud (o.set id (.map g (D,F) pu)):=by
  intro f n g H f1 f2 f3 f4
  have a1:({w with heap:=w.heap.setIfInBounds b (.map f n)}:World).heap[b]?=some (.map f n):=by simp[S]
  obtain⟨M,V⟩:=gp.upd (w':={w with heap:=w.heap.setIfInBounds b (.map f n)}) (x':=.map g (D,F) pu) (s':=some (b,c)) hS ho (by simp) rfl rfl rfl
   (fun q _ hq=>by
    simp_all)
   (fun b2 c2 h2=> .inl ⟨c,by simp_all⟩) ⟨⟨_,_,_,rfl⟩,J⟩ (fun V=>by
    simp only[pd]
    refine⟨f2,f3,b,c,f,n,by simp_all,a1,f1,fun j e l=>?_⟩
    obtain⟨m,q1,q2,q3⟩:=f4 j e l
    exact⟨m,q1,q2,q3.ext V⟩)
  rw[v] at M V
  exact⟨undef,_,σ,.inr ⟨H,rfl⟩,M,by simp[cQ],V⟩
 cases r with
 |none=>
  refine L (R.push {key:=h,val:=ga y,born:=T}) (T+1) (es++[(h,gb y)]) ?_ (by simp[B]) ?_ ?_ ?_
  ·rcases d with d|d<;>simp only[execOp,d,Instr.mapUpdate,hu,Q]<;>simp[run_underlying ht,C,E,s,z]
  ·grind
  ·grind
  ·intro j e l
   rw[List.getElem?_append] at l;split at l
   ·grind
   ·rename_i hj
    have:j=es.length:=by
     grind
    subst this;simp at l;subst l
    exact⟨{key:=h,val:=ga y,born:=T},by grind,rfl,I y⟩
 |some p=>
  obtain⟨i,a⟩:=p
  obtain⟨e,m,q1,q2,q3,q4,q5⟩:=s
  obtain⟨q6,q7⟩:=azO q4
  have G:m.key=h:=by
   grind
  rw[Array.getElem?_toList] at q3
  refine L (R.modify i fun e=>{e with key:=h,val:=ga y}) T (es.modify i fun _=>(h,gb y)) ?_ (by simp[B]) ?_ ?_ ?_
  ·have Z:(Instr.keyThatStays (((R[i]?).map (·.key)).getD h) h).run P w= .ok h w:=by
    grind[azT]
   rcases d with d|d<;>simp only[execOp,d,Instr.mapUpdate,hu,Q]<;>simp[run_underlying ht,C,E,q5,Z,z]
  ·intro hp e' l
   obtain⟨j,hj⟩:=List.getElem?_of_mem l
   grind
  ·intro e' l
   obtain⟨j,hj⟩:=List.getElem?_of_mem l
   grind
  grind
end
end Go.Vi
