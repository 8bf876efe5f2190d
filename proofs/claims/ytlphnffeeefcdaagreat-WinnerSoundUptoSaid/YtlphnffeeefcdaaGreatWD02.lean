/-
  The abstract interpreter: what it means that a value and a store of the interpreter stand for a value and a world of the model.
  Conditions: none.
-/
import Derived.Test.YtlphnffeeefcdaaGreatWD00
import Derived.OwnWalk
import Derived.Maps.AppendAt
import Derived.Laws.CopyRow
import Derived.Laws.Cells
import Derived.Laws.Entries
import Derived.Laws.Small
import Derived.Laws.Tables
import Derived.Laws.MakeOwn
import Derived.Great.BuildSlice
import Derived.Laws.StructEq
import Derived.ChangeKeysEq
set_option maxRecDepth 100000
set_option maxHeartbeats 4000000
set_option linter.all false
open Array renaming getElem?_toList->δy,getElem?_eq_some_iff->γR
open Bool renaming and_eq_true->ζ,false_eq_true->χ,not_eq_true'->γ5
open ForInStep renaming yield->ζR
open Go.Vi.AV renaming sc->δd
open List renaming map_cons->ξ,all_cons->ζg,mem_cons->γC,getElem?_eq_some_iff->θ,getElem?_of_mem->γI,getElem?_append->εl,ext_getElem?->δc,mem_map->γa,getElem?_set_self->δt,getElem?_eq_getElem->ν,getElem?_take->δf,getElem?_drop->δR,replicate->δ,replicate_succ->δl,flatten_cons->ε7,mem_flatten->ζO,mem_replicate->εX,eq_nil_of_length_eq_zero->Φ,cons_append->γy,drop_drop->δi,length_append->γg,range'->ζh,range'_succ->εp,mem_of_getElem?->γt
open Nat renaming le_refl->φ,lt_of_lt_of_le->γo,add_mul->εa,mul_le_mul_right->γG,zero_le->εE
open Option renaming bind_some->δN,map_some->γl,map_eq_some_iff->ε
open Option.some renaming injEq->γ
open PUnit renaming unit->ε8
open Prod.mk renaming injEq->μ
open Std.Legacy.Range renaming forIn_eq_forIn_range'->ζy,size->ζU
namespace Go.Vi
abbrev bY:=List (Option (Nat×Nat))
def Own (σ:bY) (b:Nat):Prop:=∃(i c:Nat),σ[i]?=some (some (b,c))
def sZ (o:Store) (id a:Nat):Prop:=∃b e d c,o[id]?=some (.cells b e d c)/\a<=b.length
def uN (o:Store) (id sz a:Nat):Prop:=∃b e c,o[id]?=some (.cells b e sz c)/\b.length=a
def IsMap (o:Store) (id:Nat):Prop:=∃c b a,o[id]?=some (.map c b a)
def kA (σ:bY) (id e f d sz:Nat) (a:Option Addr) (cap:Nat):Prop:=
 match σ[id]? with
 |some none=>d=0/\a=none/\cap=0/\f=0
 |some (some (b,c))=>(0<f->a=some ⟨b,rN e d sz,none⟩)/\(e=0->f*sz=d->0<sz->a=some ⟨b,0,none⟩/\cap=c)/\((e<=d/\e+f*sz<=d)\/(d+sz<=e/\e - d - sz+f*sz<=d/\0<sz))
 |none=>False
theorem po {a b sz:Nat} (h:a<=b):rN a b sz=a:=by
 simp_all[rN]
theorem By {a b sz:Nat} (h:b<a):rN a b sz=a - b - sz:=by
 simp_all[rN,if_neg]
structure dQ where
 p:Nat->Prop
 l:Nat
instance:CoeFun dQ (λ_=>Nat->Prop):=⟨dQ.p⟩
class nH (A A':dQ):Prop where
 eq:A'.l=A.l
instance (A:dQ):nH A A:=⟨rfl⟩
instance (A:dQ) (p:Nat->Prop):nH A ⟨p,A.l⟩:=⟨rfl⟩
def Ft (l:Nat):Fn->Fn
 | .yield _=> .yield l
 |f=>f
def Fr (A:dQ) (σ:bY) (b:Nat):Prop:=¬Own σ b/\¬A b
section
variable (A:dQ) (w:World) (σ:bY) (o:Store)
mutual
def bw:AV->Value->Prop
 | .ud,_=>True
 | .sc u,v=>v=u/\u.oneCell'=true
 | .agg cs,v=>∃vs,v= .agg vs/\bF cs vs.toList
 | .bJ cs,v=>∃vs,v= .tuple vs/\bF cs vs.toList
 | .sl n cs,v=>∃a cap,v= .slice a n cap/\n<=cap/\dr cs=true/\dA cs a 0
 | .ep cs off,v=>∃a:Addr,v= .pointer (some (a.add off))/\dr cs=true/\dA cs (some a) 0
 | .ptr id off tot,v=>sZ o id tot/\(∃a,v= .pointer (some a))/\∀sz,uN o id sz tot->∃b c,σ[id]?=some (some (b,c))/\v= .pointer (some ⟨b,off,none⟩)
 | .os id off len tot,v=>sZ o id tot/\∃a cap,v= .slice a len cap/\len<=cap/\∀sz,uN o id sz tot->kA σ id off len tot sz a cap
 | .mp id,v=>IsMap o id/\∃b c,σ[id]?=some (some (b,c))/\v= .map (some b)
 | .fn f a b,v=>∃a' b',v= .func (Ft A.l f) a' b'/\bF a a'.toList/\bF b b'.toList
 | .je t cs,v=>∃vs,v= .iface t (.agg vs)/\dr cs=true/\bF cs vs.toList
def bF:List AV->List Value->Prop
 |[],vs=>vs=[]
 |c::cs,vs=>∃v r,vs=v::r/\bw c v/\bF cs r
def dA:List AV->Option Addr->Nat->Prop
 |[],_,_=>True
 |c::cs,a,j=>(∃b v,a=some b/\Fr A σ b.block/\w.cell? (b.add j)=some v/\bw c v)/\dA cs a (j+1)
end
end
structure Ext (w:World) (σ:bY) (o:Store) (w':World) (σ':bY) (o':Store):Prop where
 size:w.heap.size<=w'.heap.size
 blk:∀b,b<w.heap.size->¬Own σ b->w'.heap[b]?=w.heap[b]?/\¬Own σ' b
 len:o.length<=o'.length
 cur:∀id tot,sZ o id tot->sZ o' id tot/\∀sz,uN o' id sz tot->uN o id sz tot/\σ'[id]?=σ[id]?
 isMap:∀id,IsMap o id->IsMap o' id/\σ'[id]?=σ[id]?
 os:w'.os=w.os
 tape:w'.tape=w.tape
 output:w'.output=w.output
theorem Ext.refl (w:World) (σ:bY) (o:Store):Ext w σ o w σ o:=
 ⟨φ _,λ_ _ h=>⟨rfl,h⟩,φ _,λ_ _ h=>⟨h,λ_ h=>⟨h,rfl⟩⟩,λ_ h=>⟨h,rfl⟩,rfl,rfl,rfl⟩
theorem Ext.trans {w n p:World} {σ a c:bY} {o l o2:Store} (h:Ext w σ o n a l) (k:Ext n a l p c o2):Ext w σ o p c o2 where
 size:=Nat.le_trans h.size k.size;blk:=λb q r=>by
  obtain⟨f,i⟩:=h.blk b q r;obtain⟨m,j⟩:=k.blk b (γo q h.size) i;simp_all
 len:=Nat.le_trans h.len k.len;cur:=λe d g=>by
  obtain⟨f,i⟩:=h.cur e d g;obtain⟨m,j⟩:=k.cur e d f;grind
 isMap:=λe g=>by
  obtain⟨f,i⟩:=h.isMap e g;obtain⟨m,j⟩:=k.isMap e f;simp_all
 os:=k.os.trans h.os;tape:=k.tape.trans h.tape;output:=k.output.trans h.output
section
variable {A:dQ} {w w':World} {σ σ':bY} {o o':Store}
theorem MD {a:Addr} {v:Value} (b:w.cell? a=some v):a.block<w.heap.size:=World.block_lt_of_cell? w a b
theorem add_block (a:Addr) (n:Nat):(a.add n).block=a.block:=by grind[Addr.add]
theorem add_add (a:Addr) (i j:Nat):(a.add i).add j=a.add (i+j):=by
 grind[Addr.add]
mutual
theorem bw.ext (h:Ext w σ o w' σ' o'):∀(c:AV) (v:Value),bw A w σ o c v->bw A w' σ' o' c v
 | .ud,_,_=>by simp[bw];| .sc u,v,hr=>by simpa[bw] using hr;| .agg cs,v,hr=>by
  simp only[bw] at hr ⊢;obtain⟨vs,rfl,hl⟩:=hr;exact⟨vs,rfl,bF.ext h cs _ hl⟩;| .bJ cs,v,hr=>by
  simp only[bw] at hr ⊢;obtain⟨vs,rfl,hl⟩:=hr;exact⟨vs,rfl,bF.ext h cs _ hl⟩;| .sl n cs,v,hr=>by
  simp only[bw] at hr ⊢;obtain⟨a,cap,rfl,hn,hp,hm⟩:=hr;exact⟨a,cap,rfl,hn,hp,dA.ext h cs a 0 hm⟩;| .ep cs off,v,hr=>by
  simp only[bw] at hr ⊢;obtain⟨a,rfl,hp,hm⟩:=hr;exact⟨a,rfl,hp,dA.ext h cs _ 0 hm⟩;| .ptr id off tot,v,hr=>by
  simp only[bw] at hr ⊢;obtain⟨h0,h3⟩:=h.cur id tot hr.1;refine⟨h0,hr.2.1,λsz hc=>?_⟩;obtain⟨h1,h2⟩:=h3 sz hc;rw[h2];exact hr.2.2 sz h1;| .os id off len tot,v,hr=>by
  simp only[bw] at hr ⊢;obtain⟨ha,a,cap,rfl,hl,hk⟩:=hr;obtain⟨h0,h3⟩:=h.cur id tot ha;refine⟨h0,a,cap,rfl,hl,λsz hc=>?_⟩;obtain⟨h1,h2⟩:=h3 sz hc;have:=hk sz h1;unfold kA at this ⊢;rw[h2];exact this;| .mp id,v,hr=>by
  simp only[bw] at hr ⊢;obtain⟨h1,h2⟩:=h.isMap id hr.1;rw[h2];exact⟨h1,hr.2⟩;| .fn f a b,v,hr=>by
  simp only[bw] at hr ⊢;obtain⟨a',b',rfl,ha,hb⟩:=hr;exact⟨a',b',rfl,bF.ext h a _ ha,bF.ext h b _ hb⟩;| .je t cs,v,hr=>by
  simp only[bw] at hr ⊢;obtain⟨vs,rfl,hp,hl⟩:=hr;exact⟨vs,rfl,hp,bF.ext h cs _ hl⟩
theorem bF.ext (h:Ext w σ o w' σ' o'):∀(cs:List AV) (vs:List Value),bF A w σ o cs vs->bF A w' σ' o' cs vs
 |[],vs,hr=>by simpa[bF] using hr;|c::cs,vs,hr=>by
  simp only[bF] at hr ⊢;obtain⟨v,r,rfl,hc,hl⟩:=hr;exact⟨v,r,rfl,bw.ext h c v hc,bF.ext h cs r hl⟩
theorem dA.ext (h:Ext w σ o w' σ' o'):∀(cs:List AV) (a:Option Addr) (j:Nat),dA A w σ o cs a j->dA A w' σ' o' cs a j
 |[],_,_,_=>by simp[dA];|c::cs,a,j,hr=>by
  simp only[dA] at hr ⊢;obtain⟨⟨b,v,rfl,hn,hc,hv⟩,hl⟩:=hr;have hlt:b.block<w.heap.size:=by have:=MD hc;rwa [add_block] at this
  obtain⟨h1,h2⟩:=h.blk b.block hlt hn.1;exact⟨⟨b,v,rfl,⟨h2,hn.2⟩,by rw[World.cell?_of_block (w:=w) (by rw[add_block];exact h1)];exact hc,bw.ext h c v hv⟩,dA.ext h cs _ (j+1) hl⟩
end
theorem bF.length:∀(cs:List AV) (vs:List Value),bF A w σ o cs vs->cs.length=vs.length
 |[],vs,a=>by grind[bF];|c::cs,vs,a=>by
  simp only[bF] at a;obtain⟨v,r,rfl,_,b⟩:=a;simp[bF.length cs r b]
theorem bF.get:∀(cs:List AV) (vs:List Value),bF A w σ o cs vs->∀(i:Nat) (c:AV),cs[i]?=some c->∃v,vs[i]?=some v/\bw A w σ o c v
 |[],_,_,i,c,h=>by simp at h;|c::cs,vs,b,i,d,a=>by
  simp only[bF] at b;obtain⟨v,r,rfl,f,g⟩:=b;cases i with
  |zero=>simp at a;subst a;exact⟨v,by simp,f⟩;|succ i=>simp at a;obtain⟨u,e,b⟩:=bF.get cs r g i d a;exact⟨u,by simpa using e,b⟩
theorem bF.lF:∀(cs:List AV) (vs:List Value),cs.length=vs.length->(∀(i:Nat) (c:AV),cs[i]?=some c->∃v,vs[i]?=some v/\bw A w σ o c v)->bF A w σ o cs vs
 |[],vs,a,_=>by grind[bF];|c::cs,[],a,_=>by simp at a;|c::cs,v::vs,a,e=>by
  simp only[bF];obtain⟨u,b,f⟩:=e 0 c (by simp);simp at b;subst b;exact⟨v,vs,rfl,f,bF.lF cs vs (by simp_all) λi d g=>by simpa using e (i+1) d (by simp_all)⟩
theorem dA.get:∀(cs:List AV) (a:Option Addr) (j:Nat),dA A w σ o cs a j->∀(i:Nat) (c:AV),cs[i]?=some c->
  ∃b v,a=some b/\Fr A σ b.block/\w.cell? (b.add (j+i))=some v/\bw A w σ o c v
 |[],_,_,_,i,c,k=>by simp at k;|c::cs,a,j,f,i,d,e=>by
  simp only[dA] at f;obtain⟨g,h⟩:=f;cases i with
  |zero=>simp at e;subst e;simpa using g;|succ i=>
   simp at e;have:=dA.get cs a (j+1) h i d e;rwa [show j+1+i=j+(i+1) from by omega] at this
theorem dA.lF:∀(cs:List AV) (a:Option Addr) (j:Nat),(∀(i:Nat) (c:AV),cs[i]?=some c->
  ∃b v,a=some b/\Fr A σ b.block/\w.cell? (b.add (j+i))=some v/\bw A w σ o c v)->dA A w σ o cs a j
 |[],_,_,_=>by simp[dA];|c::cs,a,j,e=>by
  simp only[dA];refine⟨by simpa using e 0 c (by simp),dA.lF cs a (j+1) λi d f=>?_⟩;have:=e (i+1) d (by simpa using f);rwa [show j+1+i=j+(i+1) from by omega]
theorem bF.append {cs a:List AV} {vs b:List Value} (h:bF A w σ o cs vs) (k:bF A w σ o a b):bF A w σ o (cs++a) (vs++b):=by
 induction cs generalizing vs<;>grind[bF]
theorem bw.qn {c:AV} {v:Value} (h:bw A w σ o c v):bw A w σ o c.qn v:=by
 unfold AV.qn;grind[bw,dr,dA]
theorem bF.qn:∀{cs:List AV} {vs:List Value},bF A w σ o cs vs->bF A w σ o (cs.map .qn) vs
 |[],_,h=>h
 |c::cs,vs,h=>by
  simp only[bF,ξ] at h ⊢;obtain⟨v,r,rfl,a,b⟩:=h;exact⟨v,r,rfl,a.qn,bF.qn b⟩
theorem bF.eC (pu:Bool) {cs:List AV} {vs:List Value} (h:bF A w σ o cs vs):bF A w σ o (eC pu cs) vs:=by
 unfold Go.Vi.eC;split;·exact h.qn
 ·exact h
theorem s7 (pu:Bool) (cs:List AV):(Go.Vi.eC pu cs).length=cs.length:=by
 grind[Go.Vi.eC]
theorem V2 {c:AV} (h:c.pure=true):c.qn.pure=true:=by
 unfold AV.qn;grind[AV.pure,dr]
theorem V3 {c:AV} (h:c.one=true):c.qn.one=true:=by
 unfold AV.qn;grind[AV.one]
theorem ME:∀{cs:List AV},dr cs=true->dr (cs.map .qn)=true
 |[],h=>h
 |c::cs,h=>by
  simp only[dr,ξ,ζ] at h ⊢;exact⟨V2 h.1,ME h.2⟩
theorem Bz {pu:Bool} {cs:List AV} (h:dr cs=true):dr (Go.Vi.eC pu cs)=true:=by
 grind[Go.Vi.eC,ME]
theorem V4:∀{cs:List AV},eJ cs=true->eJ (cs.map .qn)=true
 |[],h=>h
 |c::cs,h=>by
  grind[eJ,V3]
theorem Fv {pu:Bool} {cs:List AV} (h:eJ cs=true):eJ (Go.Vi.eC pu cs)=true:=by
 grind[Go.Vi.eC,V4]
theorem Fz {pu:Bool} {cs:List AV} {vs:List Value} (h:bF A w σ o cs vs) {j:Nat} {c:AV} (a:(Go.Vi.eC pu cs)[j]?=some c):∃v,vs[j]?=some v/\bw A w σ o c v:=
 bF.get _ _ (h.eC pu) j c a
theorem bw.one {c:AV} {v:Value} (h:bw A w σ o c v) (e:c.one=true):v.oneCell'=true:=by
 cases c<;>simp only[bw] at h<;>simp only[AV.one,χ] at e;·simp_all
 ·obtain⟨a,d,rfl,_⟩:=h;rfl
 ·obtain⟨a,rfl,_⟩:=h;rfl
 ·obtain⟨_,⟨a,rfl⟩,_⟩:=h;rfl
 ·obtain⟨_,a,d,rfl,_⟩:=h;rfl
 ·obtain⟨_,b,c,_,rfl⟩:=h;rfl
 ·obtain⟨a,b,rfl,_⟩:=h;rfl
 ·obtain⟨vs,rfl,_⟩:=h;rfl
theorem bw.cells {c:AV} {v:Value} (h:bw A w σ o c v) (a:eJ c.cellsOf=true):bF A w σ o c.cellsOf v.cells.toList/\∀u∈v.cells.toList,u.oneCell'=true:=by
 have f:∀(b:List AV) (e:List Value),bF A w σ o b e->eJ b=true->∀u∈e,u.oneCell'=true:=by
  intro b;induction b with
  |nil=>grind[bF];|cons c b k=>
   intro e i a u g;simp only[bF] at i;obtain⟨v,r,rfl,j,d⟩:=i;simp only[eJ,ζg,ζ] at a;rcases γC.1 g with rfl|g;·exact j.one a.1
   ·exact k r d a.2 u g
 cases c with
 |agg b=>
  simp only[bw] at h;obtain⟨e,rfl,d⟩:=h;exact⟨d,f _ _ d a⟩;|_=>
  simp only[AV.cellsOf,eJ,ζg,List.all_nil,Bool.and_true] at a;have l:=h.one a;have m:v.cells=#[v]:=by cases v<;>simp_all [Value.cells,Value.oneCell']
  simp only[AV.cellsOf,m,List.mem_singleton];exact⟨by simp only[bF];exact⟨v,[],rfl,h,rfl⟩,by rintro u rfl;exact l⟩
def wH (a:List Nat×Bool) (k:Value):Prop:=∃l,eD a.1 l=true/\(if a.2 then k= .agg l.toArray else l=[k])
def dD (A:dQ) (w:World) (σ:bY) (o:Store) (i:Nat):bR->Prop
 | .dead=>σ[i]?=some none
 | .cells h e n l=>(l=true->dr h=true)/\eJ h=true/\
  ((σ[i]?=some none/\h=[])\/∃b f d,σ[i]?=some (some (b,f))/\f<=maxLen/\w.heap[b]?=some (.cells d e (0,0))/\d.size=f*n/\h.length<=d.size/\
   ∀(j:Nat) (c:AV),h[j]?=some c->∃v,d[j]?=some v/\bw A w σ o c v)
 | .map k p l=>(l=true->∀e∈k,e.2.pure=true)/\(∀e∈k,wH p e.1)/\∃(b c:Nat) (a:Array MapEntry) (g:Nat),σ[i]?=some (some (b,c))/\w.heap[b]?=some (.map a g)/\a.size=k.length/\
   ∀(j:Nat) (e:Value×AV),k[j]?=some e->∃m,a[j]?=some m/\m.key=e.1/\bw A w σ o e.2 m.val
structure bV (A:dQ) (w:World) (σ:bY) (o:Store):Prop where
 len:σ.length=o.length
 dist:∀(i j b c d:Nat),σ[i]?=some (some (b,c))->σ[j]?=some (some (b,d))->i=j
 bnd:∀(i b c:Nat),σ[i]?=some (some (b,c))->b<w.heap.size
 obj:∀(i:Nat) (x:bR),o[i]?=some x->dD A w σ o i x
 av:∀(i b c:Nat),σ[i]?=some (some (b,c))->¬A b
 jV:∀b,A b->b<w.heap.size
theorem dD.ext (h:Ext w σ o w' σ' o') {i:Nat} {x:bR} (a:dD A w σ o i x) (f:σ'[i]?=σ[i]?)
  (I:∀b c,σ[i]?=some (some (b,c))->w'.heap[b]?=w.heap[b]?):dD A w' σ' o' i x:=by
 cases x with
 |dead=>grind[dD];|cells K e G E=>
  simp only[dD] at a ⊢;refine⟨a.1,a.2.1,?_⟩;rcases a.2.2 with t|⟨b,l,k,q,s,r,g,z,y⟩;·simp_all
  ·refine .inr ⟨b,l,k,by rw[f];exact q,s,by simp_all,g,z,λj c n=>?_⟩;obtain⟨v,C,d⟩:=y j c n;exact⟨v,C,d.ext h⟩;|map H J E=>
  simp only[dD] at a ⊢;obtain⟨t,p,b,c,B,D,q,s,r,g⟩:=a;refine⟨t,p,b,c,B,D,by simp_all,by simp_all,r,λj e n=>?_⟩;obtain⟨m,F,u,d⟩:=g j e n;exact⟨m,F,u,d.ext h⟩
theorem bV.upd (k:bV A w σ o) {id:Nat} {x x':bR} {s':Option (Nat×Nat)} (L:o[id]?=some x)
  (u:w.heap.size<=w'.heap.size) (R:w'.os=w.os) (D:w'.tape=w.tape) (K:w'.output=w.output)
  (B:∀b,b<w.heap.size->(∀c,σ[id]?≠some (some (b,c)))->w'.heap[b]?=w.heap[b]?)
  (g:∀b c,s'=some (b,c)->(∃d,σ[id]?=some (some (b,d)))\/(w.heap.size<=b/\b<w'.heap.size))
  (r:match x with
   | .dead=>True
   | .cells cs _ sz _=>∃p S l,x'= .cells p S sz l/\cs.length<=p.length/\(p.length=cs.length->σ[id]?=some s')
   | .map _ _ _=>(∃E C l,x'= .map E C l)/\σ[id]?=some s')
  (a0:Ext w σ o w' (σ.set id s') (o.set id x')->dD A w' (σ.set id s') (o.set id x') id x'):
  bV A w' (σ.set id s') (o.set id x')/\Ext w σ o w' (σ.set id s') (o.set id x'):=by
 have O:id<o.length:=(θ.1 L).1;have Q:id<σ.length:=by rw[k.len];exact O
 have h:∀i,i≠id->(σ.set id s')[i]?=σ[i]?:=λi a=>by grind
 have J:∀i,i≠id->(o.set id x')[i]?=o[i]?:=λi a=>by grind
 have m:(σ.set id s')[id]?=some s':=by simp_all
 have q:(o.set id x')[id]?=some x':=by simp_all
 have v:Ext w σ o w' (σ.set id s') (o.set id x'):=by
  refine⟨u,λb F P=>⟨B b F λc I=>P ⟨id,c,I⟩,?_⟩,by simp,λi a3 H=>?_,λi H=>?_,R,D,K⟩
  ·rintro⟨i,c,a⟩;by_cases f:i=id
   ·subst f;rw[m] at a;injection a with a;subst a;rcases g b c rfl with⟨d,g⟩|g;·exact P ⟨i,d,g⟩
    ·omega
   ·rw[h i f] at a;exact P ⟨i,c,a⟩
  ·by_cases f:i=id
   ·subst f;obtain⟨cs,e,sz,z,n,G⟩:=H;rw[L] at n;injection n with n;subst n;obtain⟨p,S,l,rfl,h3,h4⟩:=r;refine⟨⟨p,S,sz,l,q,by omega⟩,λX I=>?_⟩;obtain⟨a2,Z,a1,s,Y⟩:=I;rw[q] at s;injection s with s;injection s with e1 Z e3 e4;subst e1 e3;refine⟨⟨cs,e,z,L,by omega⟩,?_⟩;grind
   ·refine⟨?_,λsz I=>⟨?_,h i f⟩⟩
    ·obtain⟨cs,e,sz,z,n,G⟩:=H;exact⟨cs,e,sz,z,by simp_all,G⟩
    ·obtain⟨cs,e,z,n,G⟩:=I;exact⟨cs,e,z,by simp_all,G⟩
  ·by_cases f:i=id
   ·subst f;obtain⟨V,T,z,n⟩:=H;rw[L] at n;injection n with n;subst n;obtain⟨⟨E,C,l,rfl⟩,G⟩:=r;exact⟨⟨E,C,l,q⟩,by rw[m,G]⟩
   ·obtain⟨V,T,z,n⟩:=H;exact⟨⟨V,T,z,by simp_all⟩,h i f⟩
 refine⟨⟨by simp[k.len],λi j b c d a t=>?_,λi b c a=>?_,λi y U=>?_,λi b c a=>?_,λb F=>γo (k.jV b F) u⟩,v⟩
 ·by_cases f:i=id<;>by_cases M:j=id;·rw[f,M]
  ·subst f;rw[m] at a;rw[h j M] at t;injection a with a;subst a;rcases g b c rfl with⟨N,g⟩|g;·exact k.dist i j b N d g t
   ·have:=k.bnd j b d t;omega
  ·subst M;rw[m] at t;rw[h i f] at a;injection t with t;subst t;rcases g b d rfl with⟨N,g⟩|g;·exact k.dist i j b c N a g
   ·have:=k.bnd i b c a;omega
  ·rw[h i f] at a;rw[h j M] at t;exact k.dist i j b c d a t
 ·by_cases f:i=id
  ·subst f;rw[m] at a;injection a with a;subst a;rcases g b c rfl with⟨d,g⟩|g;·exact γo (k.bnd i b d g) u
   ·exact g.2
  ·rw[h i f] at a;exact γo (k.bnd i b c a) u
 ·by_cases f:i=id;·simp_all
  ·rw[J i f] at U;refine(k.obj i y U).ext v (h i f) λb c F=>?_;refine B b (k.bnd i b c F) λd hd=>f (k.dist i id b c d F hd)
 ·by_cases f:i=id
  ·subst f;rw[m] at a;injection a with a;subst a;rcases g b c rfl with⟨d,g⟩|g;·exact k.av i b d g
   ·intro W;have:=k.jV b W;omega
  ·rw[h i f] at a;exact k.av i b c a
end
section
variable {P:Program} {A:dQ} {w w':World} {σ σ':bY} {o o':Store} {bT:Operand->AV} {bP:Operand->Value} {oper:Oper} {v:AV}
def Gives (A:dQ) (P:Program) (bP:Operand->Value) (oper:Oper) (w:World) (σ:bY) (o:Store) (v:AV) (o':Store):Prop:=
 ∃u w' σ',((execOp bP oper).run P w= .ok (.value u) w'\/((execOp bP oper).run P w= .ok .skip w'/\u=undef))/\bV A w' σ' o'/\bw A w' σ' o' v u/\Ext w σ o w' σ' o'
theorem Gives.same (hS:bV A w σ o) {u:Value} (h:(execOp bP oper).run P w= .ok (.value u) w) (hr:bw A w σ o v u):Gives A P bP oper w σ o v o:=
 ⟨u,w,σ,.inl h,hS,hr,Ext.refl _ _ _⟩
theorem wI {t:TypeId} {b:Bool} (h:fw P t=some b) (w:World):(isAgg t).run P w= .ok b w:=by
 unfold fw at h;cases a:P.underlying t with
 |none=>simp_all;|some d=>cases d<;>simp[a] at h<;>subst h<;>simp[isAgg,run_underlying a]
theorem qf {t:TypeId} {n:Nat} (h:sizeT P t=some n) (w:World):(sizeOf t).run P w= .ok n w:=by
 unfold sizeT at h;cases a:P.info? t with
 |none=>simp_all;|some i=>simp_all[sizeOf,typeInfo]
theorem MF {t:TypeId} (h:oC P t=some none):fw P t=some false:=by
 grind[oC]
theorem MG {t:TypeId} {n:Nat} (h:oC P t=some (some n)):fw P t=some true/\sizeT P t=some n:=by
 grind[oC]
theorem MH (cs:Array Value) (l:List AV) (a:Nat) (t:TypeId) (n:Option Nat) (f:oC P t=some n) (d:bF A w σ o l cs.toList) (b:gj l a n=some v):
  ∃u,(part t cs a).run P w= .ok u w/\bw A w σ o v u:=by
 have c:=bF.length _ _ d;cases n with
 |none=>
  simp only[gj] at b;obtain⟨u,j,i⟩:=bF.get _ _ d a v b;simp_all[part,wI,MF];|some n=>
  obtain⟨e,g⟩:=MG f;simp only[gj] at b;split at b
  ·rename_i h;injection b with b;subst b;refine⟨.agg (cs.extract a (a+n)),by simp[part,wI e,qf g],?_⟩;simp only[bw];grind[bF.lF,bF.get]
  simp_all
theorem bw.MI (hS:bV A w σ o) {a:AV} {u:Value} {cs:List AV} {off:Nat} (h:bw A w σ o a u) (hb:Go.Vi.behind o a=some (cs,off)):
  ∃p:Addr,u= .pointer (some p)/\∀(j:Nat) (c:AV),cs[off+j]?=some c->∃v,w.cell? (p.add j)=some v/\bw A w σ o c v:=by
 cases a<;>simp only[Go.Vi.behind,reduceCtorEq] at hb;·grind[bw,dA.get,add_add]
 ·rename_i id off' tot;split at hb
  ·rename_i cs' e sz pu ho;split at hb
   ·rename_i htot;simp only[γ,μ] at hb;obtain⟨rfl,rfl⟩:=hb;simp only[bw] at h;obtain⟨b,c,hσ,rfl⟩:=h.2.2 sz ⟨cs',e,pu,ho,htot⟩;refine⟨_,rfl,λj d hd=>?_⟩;have hx:=hS.obj id _ ho;grind[dD,Addr.add,World.cell?]
   simp_all
  simp_all
theorem MJ {a:AV} {p:Addr} {cs:List AV} {b:Nat} {t:TypeId} {n:Option Nat} (h:oC P t=some n)
  (g:∀(j:Nat) (c:AV),cs[b+j]?=some c->∃v,w.cell? (p.add j)=some v/\bw A w σ o c v) (d:gj cs b n=some a):
  ∃u,(loadVar t p).run P w= .ok u w/\bw A w σ o a u:=by
 cases n with
 |none=>
  simp only[gj] at d;obtain⟨u,r,s⟩:=g 0 a (by omega);simp_all[Addr.add,loadVar,wI,MF];|some n=>
  obtain⟨k,m⟩:=MG h;simp only[gj] at d;split at d
  ·rename_i i;injection d with d;subst d;have e:∀j,j<n->∃v,w.cell? (p.add j)=some v/\bw A w σ o (cs.getD (b+j) .ud) v:=by
    grind
   let f:Nat->Value:=λj=>(w.cell? (p.add j)).getD undef;have l:∀j,j<n->w.cell? (p.add j)=some (f j):=λj q=>by
    grind
   refine⟨.agg ((List.range n).map f).toArray,by simp_all[loadVar,wI,qf,run_loadCells],?_⟩;grind[bw,bF.lF]
  simp_all
theorem V5 (e:bV A w σ o) (b:∀x,bw A w σ o (bT x) (bP x)) {t:TypeId} {n:Option Nat} {x:Operand} (g:oper.op= .load t x) (d:oC P t=some n)
  {cs:List AV} {a:Nat} (f:behind o (bT x)=some (cs,a)) (i:gj cs a n=some v):Gives A P bP oper w σ o v o:=by
 obtain⟨p,h,c⟩:=(b x).MI e f;obtain⟨u,j,k⟩:=MJ d c i;simp_all[Gives.same,execOp,Instr.loadAt,Instr.sureAddr]
theorem yU:∀(vs cs:List AV) (a:Nat),(fQ cs a vs).length=cs.length
 |[],_,_=>rfl
 |v::vs,cs,a=>by simp[fQ,yU vs]
theorem BA:∀(vs cs:List AV) (a:Nat),a+vs.length<=cs.length->∀j,(fQ cs a vs)[j]?=if a<=j/\j<a+vs.length then vs[j - a]? else cs[j]?
 |[],cs,a,_,j=>by grind[fQ];|v::vs,cs,a,b,j=>by
  simp only[fQ,List.length_cons] at b ⊢;rw[BA vs (cs.set a v) (a+1) (by grind) j];grind
theorem qg {cs:List AV} (h:dr cs=true):∀c∈cs,c.pure=true:=by
 induction cs<;>grind[dr]
theorem s8 {cs:List AV} (h:∀c∈cs,c.pure=true):dr cs=true:=by
 induction cs<;>grind[dr]
theorem yV {vs cs:List AV} {a:Nat} (d:a+vs.length<=cs.length):∀c∈fQ cs a vs,c∈cs\/c∈vs:=by
 intro c b;obtain⟨j,e⟩:=γI b;grind[BA]
theorem V6 (arr:List Value) (vs:List Value) (a:Nat) (b:a+vs.length<=arr.length) (j:Nat):
  (arr.take a++vs++arr.drop (a+vs.length))[j]?=if a<=j/\j<a+vs.length then vs[j - a]? else arr[j]?:=by
 rw[List.append_assoc,εl];grind
theorem mN {cs:List AV}:eJ cs=true↔∀c∈cs,c.one=true:=by simp[eJ]
theorem V7 (hS:bV A w σ o) (hρ:∀x,bw A w σ o (bT x) (bP x)) {t:TypeId} {n:Nat} {x y:Operand} (hop:oper.op= .store t x y) (hn:sizeT P t=some n)
  {id off tot:Nat} (ha:bT x= .ptr id off tot) {cs:List AV} {e:TypeId} {sz:Nat} {pu:Bool} (ho:o[id]?=some (.cells cs e sz pu)) (htot:cs.length=tot)
  (hlen:(bT y).cellsOf.length=n) (h1:eJ (bT y).cellsOf=true) (hle:off+n<=cs.length) (MK:pu=false\/dr (bT y).cellsOf=true):
  Gives A P bP oper w σ o .ud (o.set id (.cells (fQ cs off (eC pu (bT y).cellsOf)) e sz pu)):=by
 have hx:=hρ x;rw[ha] at hx;simp only[bw] at hx;obtain⟨b,c,hσ,hp⟩:=hx.2.2 sz ⟨cs,e,pu,ho,htot⟩;obtain⟨hl0,hone⟩:=(hρ y).cells h1;have hl:=hl0.eC pu;replace hlen:(eC pu (bT y).cellsOf).length=n:=by grind[s7]
 replace h1:eJ (eC pu (bT y).cellsOf)=true:=Fv h1;replace MK:pu=false\/dr (eC pu (bT y).cellsOf)=true:=MK.imp (λh=>h) Bz;generalize eC pu (bT y).cellsOf=vs at*;have hlen':(bP y).cells.toList.length=n:=by grind[bF.length]
 have ML:=hS.obj id _ ho;simp only[dD] at ML;obtain⟨q1,q2,q3⟩:=ML;rcases q3 with⟨h0,_⟩|⟨b',cap,arr,k1,k2,k3,k4,k5,k6⟩;·simp_all
 rw[hσ] at k1;simp only[γ,μ] at k1;obtain⟨rfl,rfl⟩:=k1;have hrun:=run_storeCells_at (P:=P) b off e (bP y).cells.toList 0 arr w k3 (by omega) hone;simp only[Nat.add_zero] at hrun;generalize hnew:(arr.toList.take off++(bP y).cells.toList++arr.toList.drop (off+(bP y).cells.toList.length)).toArray=new at hrun;have V8:(execOp bP oper).run P w= .ok .skip (w.setRow b new):=by
  simp_all[execOp,Instr.storeAt,Instr.sureAddr,storeVar,qf]
 have hblt:b<w.heap.size:=hS.bnd id b c hσ;have hsame:∀k,k≠b->(w.setRow b new).heap[k]?=w.heap[k]?:=by
  simp_all[World.setRow,Array.getElem?_modify,Ne.symm]
 have hat:(w.setRow b new).heap[b]?=some (.cells new e (0,0)):=by
  grind[World.setRow]
 have agn:new.size=arr.size:=by grind
 have agp:id<σ.length:=(θ.1 hσ).1;have hset:σ.set id (some (b,c))=σ:=by
  apply δc;grind
 obtain⟨hS',hE⟩:=bV.upd (w':=w.setRow b new) (s':=some (b,c)) (x':=.cells (fQ cs off vs) e sz pu) hS ho (by simp_all) rfl rfl rfl
  (λk _ hk=>hsame k (λhe=>hk c (he▸hσ))) (λb2 c2 h2=> .inl ⟨c,by simp_all⟩) ⟨_,_,_,rfl,by grind[yU],λ_=>hσ⟩ (λhE=>by
   simp only[dD];refine⟨λhpt=>?_,?_,.inr ⟨b,c,new,by simp_all,k2,hat,by omega,by grind[yU],λj d hd=>?_⟩⟩
   ·refine s8 λd hd=>?_;rcases yV (by rw[hlen];exact hle) d hd with hd|hd<;>grind[yV,qg]
   ·refine mN.2 λd hd=>?_;rcases yV (by rw[hlen];exact hle) d hd with hd|hd<;>grind[yV,mN]
   ·rw[BA _ _ _ (by omega)] at hd;rw[hlen] at hd;have hsp:=V6 arr.toList (bP y).cells.toList off (by grind) j;have BD:new[j]?=if off<=j/\j<off+n then(bP y).cells.toList[j - off]? else arr[j]?:=by
     grind
    by_cases hj:off<=j/\j<off+n
    ·rw[if_pos hj] at hd BD;obtain⟨u,hu,hr⟩:=bF.get _ _ hl _ d hd;exact⟨u,by rw[BD];exact hu,hr.ext hE⟩
    ·rw[if_neg hj] at hd BD;obtain⟨u,hu,hr⟩:=k6 j d hd;exact⟨u,by rw[BD];exact hu,hr.ext hE⟩);rw[hset] at hS' hE;exact⟨undef,_,σ,.inr ⟨V8,rfl⟩,hS',by simp[bw],hE⟩
end
section
variable {P:Program} {A:dQ} {w w':World} {σ σ':bY} {o o':Store} {bT:Operand->AV} {bP:Operand->Value} {oper:Oper} {v:AV}
theorem wJ {bE:Nat} {x:bR} (h:kM bE x o=some o'):o[bE]?=some .dead/\o'=o.set bE x:=by
 grind[kM]
theorem bV.BE (k:bV A w σ o) {bE:Nat} (l:o[bE]?=some .dead) {cs:List AV} {arr:Array Value} {e:TypeId} {sz cap:Nat} {pu:Bool} (d:arr.size=cap*sz) (p:cap<=maxLen)
  (g:cs.length<=arr.size) (y:eJ cs=true) (m:pu=true->dr cs=true) (a:∀(j:Nat) (c:AV),cs[j]?=some c->∃v,arr[j]?=some v/\bw A w σ o c v):
  bV A (w.alloc (.cells arr e)) (σ.set bE (some (w.heap.size,cap))) (o.set bE (.cells cs e sz pu))/\Ext w σ o (w.alloc (.cells arr e)) (σ.set bE (some (w.heap.size,cap))) (o.set bE (.cells cs e sz pu)):=by
 have i:bE<o.length:=(θ.1 l).1;have f:bE<σ.length:=by rw[k.len];exact i
 refine bV.upd (x:=.dead) k l (by simp) rfl rfl rfl (λb r _=>heap_alloc_old w _ b r) (λb c h=> .inr ?_) trivial λq=>?_;·simp_all
 ·simp only[dD];refine⟨m,y,.inr ⟨w.heap.size,cap,arr,by simp_all,p,heap_alloc_new w _,d,g,λj c n=>?_⟩⟩;obtain⟨u,s,t⟩:=a j c n;exact⟨u,s,t.ext q⟩
theorem MM:1<=maxLen:=by simp[maxLen]
theorem wK (A:dQ) (w:World) (σ:bY) (o:Store):∀(z:List Value),(∀u∈z,u.oneCell'=true)->bF A w σ o (z.map .sc) z
 |[],_=>by simp[bF];|v::z,h=>by
  simp only[ξ,bF];exact⟨v,z,rfl,by simp[bw,h v],wK A w σ o z λu a=>h u (by simp[a])⟩
theorem FA {z:List Value} (h:∀u∈z,u.oneCell'=true):eJ (z.map δd)=true:=by
 refine mN.2 λc b=>?_;obtain⟨u,a,rfl⟩:=γa.1 b;exact h u a
theorem MN (z:List Value):dr (z.map δd)=true:=by
 refine s8 λc a=>?_;obtain⟨u,_,rfl⟩:=γa.1 a;rfl
theorem uO {t:TypeId} {z:List Value} (h:lD P t=some z):∃(i:TypeInfo) (a:Value),P.info? t=some i/\i.zero=some a/\a.cells.toList=z/\i.size=z.length/\∀u∈z,u.oneCell'=true:=by
 unfold lD at h;cases b:P.info? t with
 |none=>simp[b] at h;|some i=>
  cases c:i.zero with
  |none=>simp_all;|some a=>
   simp only[b,c,sizeT,δN,γl] at h;grind
theorem V9 (m:bV A w σ o) {t:TypeId} {z:List Value} {pu:Bool} {bE:Nat} (q:oper.op= .alloc t) (p:lD P t=some z)
  (l:o[bE]?=some .dead):Gives A P bP oper w σ o (.ptr bE 0 z.length) (o.set bE (.cells (z.map .sc) t z.length pu)):=by
 obtain⟨i,n,C,v,d,k,a⟩:=uO p;have b:bE<o.length:=(θ.1 l).1;have f:bE<σ.length:=by rw[m.len];exact b
 have g:n.cells.size=z.length:=by grind
 obtain⟨h,s⟩:=m.BE (w:=w) (arr:=n.cells) (e:=t) (sz:=z.length) (cap:=1) (pu:=pu) (cs:=z.map .sc) l (by omega) MM (by simp[g]) (FA a) (λ_=>MN z)
  (λj c r=>by
   obtain⟨u,D,x⟩:=bF.get _ _ (wK A w σ o z a) j c r;grind);refine⟨.pointer (some ⟨w.heap.size,0,none⟩),_,_,.inl ?_,h,?_,s⟩;·simp_all[execOp,Instr.alloc,zeroValue,typeInfo,newVar,newRow]
 ·simp only[bw];refine⟨⟨_,_,_,_,by rw[δt b],by simp⟩,⟨_,rfl⟩,λB y=>⟨w.heap.size,1,by simp_all,rfl⟩⟩
theorem Wa (l:bV A w σ o) (g:∀x,bw A w σ o (bT x) (bP x)) {e:TypeId} {x:Operand} {bE:Nat} (f:oper.op= .box e x) (h:eJ (bT x).cellsOf=true)
  (k:o[bE]?=some .dead):Gives A P bP oper w σ o (.ptr bE 0 (bT x).cellsOf.length) (o.set bE (.cells (bT x).cellsOf e (bT x).cellsOf.length false)):=by
 have a:bE<o.length:=(θ.1 k).1;have d:bE<σ.length:=by rw[l.len];exact a
 obtain⟨m,_⟩:=(g x).cells h;have i:=bF.length _ _ m;obtain⟨b,n⟩:=l.BE (w:=w) (arr:=(bP x).cells) (e:=e) (sz:=(bT x).cellsOf.length) (cap:=1) (pu:=false) (cs:=(bT x).cellsOf) k (by simp_all) MM (by simp_all) h (by simp)
  (λj c r=>by
   grind[bF.get]);refine⟨.pointer (some ⟨w.heap.size,0,none⟩),_,_,.inl ?_,b,?_,n⟩;·simp[execOp,f,Instr.box,newVar,newRow,newObj,Sem.run]
 ·simp only[bw];refine⟨⟨_,_,_,_,by rw[δt a],by simp⟩,⟨_,rfl⟩,λp q=>⟨w.heap.size,1,by simp_all,rfl⟩⟩
theorem MO (c:bV A w σ o) (b:∀x,bw A w σ o (bT x) (bP x)) {x:Operand} (a:oper.op= .move x\/oper.op= .assign x):Gives A P bP oper w σ o (bT x) o:=
 Gives.same c (u:=bP x) (by rcases a with h|h<;>simp[execOp,h]) (b x)
theorem gX {u:Value} {v:Value} (h:bw A w σ o (.sc u) v):v=u:=by grind[bw]
theorem MP (i:bV A w σ o) (d:∀x,bw A w σ o (bT x) (bP x)) {c a b:Operand} (e:oper.op= .pick c a b) {t:Bool} (h:bT c= .sc (.bool t)):Gives A P bP oper w σ o (bT (if t then a else b)) o:=by
 have f:=d c;rw[h] at f;have g:=gX f;refine Gives.same i (u:=bP (if t then a else b)) ?_ (d _);cases t<;>simp[execOp,e,g,asBool]
theorem MQ (c:bV A w σ o) (a:∀x,bw A w σ o (bT x) (bP x)) {x:Operand} (b:oper.op= .nilCheck x) {p:Addr} (d:bP x= .pointer (some p)):Gives A P bP oper w σ o (bT x) o:=by
 refine Gives.same c (u:=bP x) ?_ (a x);simp_all[execOp]
theorem s9 (k:IntKind) (n:Int):eV k n=k.wrap n:=by
 cases k<;>simp only[eV];all_goals
  split
  ·rename_i h;simp only[ζ,decide_eq_true_eq] at h;grind[IntKind.wrap,IntKind.bits,IntKind.signed]
  ·rfl
theorem FB (n:Nat):Bg n=2^n:=by
 simp[Bg]
theorem Wb {e:BinOp} {t:TypeId} {x y:Operand} {a b r:Value} (h:gV e a b=some r):
  (do eqGuard e t x y a b;binOp e t a b:Sem Value).run P w= .ok r w:=by
 unfold gV at h;simp only[k9,s9,FB] at h;split at h
 ·rename_i k n j m;split at h
  ·split at h;·cases h
   ·injection h with h;subst h;rename_i f;simp[eqGuard,binOp,Op.shift,f]
  ·split at h;·cases h
   ·injection h with h;subst h;rename_i f;simp[eqGuard,binOp,Op.shift,f]
  ·split at h
   ·rename_i i;subst i;cases e<;>simp only[reduceCtorEq] at h<;>first
     |(injection h with h;subst h;simp[eqGuard,binOp,Op.intArith,Op.intBits,Op.intCmp];done);|simp_all[eqGuard,binOp,Op.intDiv]
   ·cases h
 ·rename_i c d;cases e<;>simp only[reduceCtorEq] at h;all_goals first
   |(injection h with h;simp_all[eqGuard,binOp,Op.stringOp])
   |(split at h
     ·rename_i g;injection h with h;subst h;simp[eqGuard,binOp,Op.stringOp];omega
     ·cases h)
 ·cases h
theorem Wc {c:BinOp} {a b r:Value} (h:gV c a b=some r):r.oneCell'=true:=by
 unfold gV at h;split at h
 ·split at h
  ·split at h;·cases h
   ·injection h with h;subst h;rfl
  ·split at h;·cases h
   ·injection h with h;subst h;rfl
  ·split at h
   ·unfold k9 at h;cases c<;>simp only[reduceCtorEq] at h<;>first
     |(injection h with h;subst h;rfl)
     |(split at h;·cases h
       ·injection h with h;subst h;rfl)
   ·cases h
 ·cases c<;>simp only[reduceCtorEq] at h;all_goals first
   |(injection h with h;subst h;rfl)
   |(split at h;·injection h with h;subst h;rfl
     ·cases h)
 ·cases h
theorem Wg (l:bV A w σ o) (c:∀x,bw A w σ o (bT x) (bP x)) {g:BinOp} {t k:TypeId} {x y:Operand} (d:oper.op= .binOp g t x y k) {a b r:Value} (j:bT x= .sc a) (i:bT y= .sc b)
  (h:gV g a b=some r):Gives A P bP oper w σ o (.sc r) o:=by
 have f:=c x;have e:=c y;rw[j] at f;rw[i] at e;refine Gives.same l (u:=r) ?_ (by simp[bw,Wc h]);simp only[execOp,d,gX f,gX e];have:=Wb (P:=P) (w:=w) (t:=t) (x:=x) (y:=y) h;simp only[Sem.run_bind] at this ⊢;rw[this];rfl
theorem Wh (i:bV A w σ o) (d:∀x,bw A w σ o (bT x) (bP x)) {f:BinOp} {c:Bool} {t m:TypeId} {x y:Operand} (e:oper.op= .binOp f t x y m) (k:(f= .eql/\c=false)\/(f= .neq/\c=true))
  (l:P.underlying t=some .bool) {a b:Bool} (j:bT x= .sc (.bool a)) (n:bT y= .sc (.bool b)):Gives A P bP oper w σ o (.sc (.bool (if c then !(a==b) else a==b))) o:=by
 have h:=d x;have g:=d y;rw[j] at h;rw[n] at g;refine Gives.same i (u:=.bool (if c then !(a==b) else a==b)) ?_ (by simp[bw,Value.oneCell']);simp only[execOp,e,gX h,gX g];rcases k with⟨rfl,rfl⟩|⟨rfl,rfl⟩<;>simp[eqGuard,binOp,Go.run_equal_bool w t _ _ l]
theorem Wi (f:bV A w σ o) (c:∀x,bw A w σ o (bT x) (bP x)) {e:UnOp} {t:TypeId} {x:Operand} (g:oper.op= .unOp e t x) (h:yO e (bT x)=some v):Gives A P bP oper w σ o v o:=by
 have a:=c x;unfold yO at h;split at h
 ·rename_i b d;rw[d] at a;have:=gX a;split at h
  ·injection h with h;subst h;refine Gives.same f (u:=.bool !b) ?_ (by simp[bw,Value.oneCell']);simp_all[execOp,Op.unary]
  ·cases h
 ·rename_i k n d;rw[d] at a;have:=gX a;split at h
  ·injection h with h;subst h;rw[s9];refine Gives.same f (u:=.int k (k.wrap (0 - n))) ?_ (by simp[bw,Value.oneCell']);simp_all[execOp,Op.unary,Op.intArith]
  ·cases h
 ·cases h
theorem Wj (c:bV A w σ o) (a:∀x,bw A w σ o (bT x) (bP x)) {s d:TypeId} {h:TypeDesc} {k f:IntKind} {n:Int} {x:Operand} (e:oper.op= .convert s d x) (i:P.underlying s=some h) (j:P.underlying d=some (.int k))
  (g:bT x= .sc (.int f n)):Gives A P bP oper w σ o (.sc (.int k (eV k n))) o:=by
 rw[s9];have b:=a x;rw[g] at b;have:=gX b;refine Gives.same c (u:=.int k (k.wrap n)) ?_ (by simp[bw,Value.oneCell']);simp_all[execOp,convert,run_underlying,Conv.intToInt]
theorem MR {a b:AV} {d:Nat} {u:Value} (h:bw A w σ o a u) (c:ov d a=some b):∃p:Addr,u= .pointer (some p)/\bw A w σ o b (.pointer (some (p.add d))):=by
 unfold ov at c;grind[bw,Addr.add,add_add]
end
section
variable {P:Program} {A:dQ} {w w':World} {σ σ':bY} {o o':Store} {bT:Operand->AV} {bP:Operand->Value} {oper:Oper} {v:AV}
theorem Wl (d:bV A w σ o) (a:∀x,bw A w σ o (bT x) (bP x)) {s f n:Nat} {fs:Array Field} {g:Field} {x:Operand} (b:oper.op= .fieldAddr s x f) (e:P.underlying s=some (.struct fs)) (j:fs[f]?=some g)
  (k:sizeT P g.type=some n) (c:n≠0) (h:ov g.offset (bT x)=some v):Gives A P bP oper w σ o v o:=by
 obtain⟨p,i,l⟩:=MR (a x) h;simp_all[Gives.same,execOp,Instr.fieldAt,run_underlying,Instr.sureAddr,fieldPlace,qf]
theorem Wm (p:bV A w σ o) (b:∀x,bw A w σ o (bT x) (bP x)) {s f:Nat} {fs:Array Field} {g:Field} {x:Operand} {n:Option Nat} (i:oper.op= .field s x f) (r:P.underlying s=some (.struct fs)) (l:fs[f]?=some g)
  (j:oC P g.type=some n) {cs:List AV} (e:bT x= .agg cs) (h:gj cs g.offset n=some v):Gives A P bP oper w σ o v o:=by
 have a:=b x;rw[e] at a;simp only[bw] at a;obtain⟨c,k,d⟩:=a;obtain⟨u,q,m⟩:=MH (P:=P) c cs g.offset g.type n j d h;simp_all[Gives.same,execOp,Instr.field,run_underlying,asAgg]
theorem wL {a:AV} {n:Int} {u:Value} (h:bw A w σ o a u) (b:ig a=some n):∃k,u= .int k n:=by
 unfold ig at b;grind[gX]
theorem Wn (q:bV A w σ o) (b:∀x,bw A w σ o (bT x) (bP x)) {t a e sz:Nat} {x i:Operand} {n:Int} (c:oper.op= .indexAddr t x i) (g:P.underlying t=some (.array a e)) (d:sizeT P e=some sz)
  (m:ig (bT i)=some n) (r:0<=n) (s:n<a) (h:ov (n.toNat*sz) (bT x)=some v):Gives A P bP oper w σ o v o:=by
 obtain⟨p,f,l⟩:=MR (b x) h;obtain⟨k,j⟩:=wL (b i) m;refine Gives.same q ?_ l;simp only[execOp,c,Instr.indexAt,j,f];simp only[Sem.run_bind,asIntOf,Sem.run_pure,Result.andThen_ok,run_underlying g,Instr.sureAddr];simp_all[qf]
theorem Wp (hS:bV A w σ o) (B:∀x,bw A w σ o (bT x) (bP x)) {t e sz:Nat} {x i:Operand} {n:Int} (M:oper.op= .indexAddr t x i) (Y:P.underlying t=some (.slice e)) (X:sizeT P e=some sz) (S:sz≠0)
  (Z:ig (bT i)=some n) (h:pY o sz (bT x) n=some v):Gives A P bP oper w σ o v o:=by
 obtain⟨k,T⟩:=wL (B i) Z;have r:=B x;have C:∀(a:Option Addr) (f d:Nat) (p:Addr),bP x= .slice a f d->a=some p->0<=n->n<f->bw A w σ o v (.pointer (some (p.add (n.toNat*sz))))->Gives A P bP oper w σ o v o:=by
  intro a f d p g K N G hr;refine Gives.same hS ?_ hr;simp only[execOp,M,Instr.indexAt,T,g,K];simp only[Sem.run_bind,asIntOf,Sem.run_pure,Result.andThen_ok,run_underlying Y];simp_all[qf]
 unfold pY at h;split at h
 ·rename_i m F q;rw[q] at r;simp only[bw] at r;obtain⟨a,d,g,hn,hp,U⟩:=r;split at h
  ·rename_i E;injection h with h;subst h;obtain⟨N,G,z⟩:=E;have H:n.toNat*sz<F.length:=by
    rw[z];have:n.toNat<m:=by omega
    exact(Nat.mul_lt_mul_right (by omega)).2 this
   obtain⟨b,u,hb,_⟩:=dA.get _ _ _ U _ _ (ν H);grind[bw]
  ·cases h
 ·rename_i V a0 f I q;rw[q] at r;simp only[bw] at r;obtain⟨L,a,d,g,W,s⟩:=r;split at h
  ·rename_i F O y Q R;split at h
   ·rename_i E;obtain⟨j,rfl,N,G,D⟩:=E;injection h with h;subst h;have l:=s y ⟨F,O,Q,R,j⟩;have a1:uN o V y I:=⟨F,O,Q,R,j⟩;unfold kA at l;split at l;·omega
    ·rename_i b c J;have K:=l.1 (by omega);refine C a f d _ g K N G ?_;simp only[bw];refine⟨L,⟨_,rfl⟩,λsz E=>⟨b,c,J,?_⟩⟩;simp_all[Addr.add]
    simp_all
   ·cases h
  ·cases h
 ·cases h
theorem Wq (f:bV A w σ o) (b:∀x,bw A w σ o (bT x) (bP x)) {t c e sz:Nat} {x i:Operand} {n:Int} {m:Option Nat} (d:oper.op= .index t x i) (B:P.underlying t=some (.array c e)) (p:sizeT P e=some sz)
  (j:oC P e=some m) (z:ig (bT i)=some n) (E:0<=n) (C:n<c) {cs:List AV} (g:bT x= .agg cs) (h:gj cs (n.toNat*sz) m=some v):Gives A P bP oper w σ o v o:=by
 obtain⟨k,q⟩:=wL (b i) z;have a:=b x;rw[g] at a;simp only[bw] at a;obtain⟨s,l,r⟩:=a;obtain⟨u,D,y⟩:=MH (P:=P) s cs _ e m j r h;refine Gives.same f (u:=u) ?_ y;simp only[execOp,d,Instr.index,q,l];simp_all[asIntOf,run_underlying,qf]
theorem Ws (d:bV A w σ o) (c:∀x,bw A w σ o (bT x) (bP x)) {t:Nat} {x i:Operand} {n:Int} {s:ByteArray} {b:UInt8} (e:oper.op= .index t x i) (l:P.underlying t=some .string)
  (f:ig (bT i)=some n) (p:0<=n) (g:bT x= .sc (.string s)) (h:s[n.toNat]?=some b):Gives A P bP oper w σ o (.sc (.int .u8 b.toNat)) o:=by
 obtain⟨k,j⟩:=wL (c i) f;have a:=c x;rw[g] at a;have m:=gX a;refine Gives.same d (u:=.int .u8 b.toNat) ?_ (by simp[bw,Value.oneCell']);simp_all[execOp,Instr.index,asIntOf,run_underlying]
theorem Wt (s:bV A w σ o) (j:∀x,bw A w σ o (bT x) (bP x)) {t:TypeId} {x:Operand} {c:Call} {k n:Nat} (q:oper.op= .call c) (z:c.callee= .builtin .len) (C:c.args=#[x]) (r:c.argTypes=#[t])
  (g:(k=0/\∃e,P.underlying t=some (.slice e))\/(k=1/\P.underlying t=some .string)\/(k=2/\∃a b,P.underlying t=some (.map a b))) (d:lg o k (bT x)=some n):Gives A P bP oper w σ o (.sc (.int .i64 n)) o:=by
 refine Gives.same s (u:=.int .i64 n) ?_ (by simp[bw,Value.oneCell']);simp only[execOp,q,resolve,z,C,r,invoke,builtin];have h:=j x;rcases g with⟨rfl,e,g⟩|⟨rfl,g⟩|⟨rfl,a,b,g⟩
 ·have:∃A c,bP x= .slice A n c:=by
   cases f:bT x<;>rw[f] at d h<;>simp only[lg,reduceCtorEq] at d<;>grind[lg,reduceCtorEq,gX,bw]
  obtain⟨A,E,l⟩:=this;simp[l,Builtin.len_,run_underlying g,goInt]
 ·cases f:bT x<;>rw[f] at d h<;>simp only[lg,reduceCtorEq] at d;rename_i u;cases u<;>simp only[reduceCtorEq,γ] at d;subst d;simp[gX h,Builtin.len_,run_underlying g,goInt]
 ·cases f:bT x<;>rw[f] at d h<;>simp only[lg,reduceCtorEq] at d;rename_i B;split at d
  ·rename_i H J M D;simp only[γ] at d;subst d;simp only[bw] at h;obtain⟨_,K,E,p,l⟩:=h;have i:=s.obj B _ D;simp only[dD] at i;obtain⟨_,_,L,I,G,F,m,v,y,_⟩:=i;rw[p] at m;simp only[γ,μ] at m;obtain⟨rfl,rfl⟩:=m;simp[l,Builtin.len_,run_underlying g,goInt,getObj,Sem.run,v,y]
  ·cases d
theorem Wu (h:bV A w σ o) {t:TypeId} {x:Operand} {c:Call} {n e:Nat} (a:oper.op= .call c) (g:c.callee= .builtin .len) (f:c.args=#[x]) (b:c.argTypes=#[t])
  (d:P.underlying t=some (.array n e)):Gives A P bP oper w σ o (.sc (.int .i64 n)) o:=by
 refine Gives.same h (u:=.int .i64 n) ?_ (by simp[bw,Value.oneCell']);simp[execOp,a,resolve,g,f,b,invoke,builtin,Builtin.len_,run_underlying d,goInt]
theorem MS (h:bV A w σ o) (d:∀x,bw A w σ o (bT x) (bP x)) {mx:Bool} {x y:Operand} {c:Call} {k:IntKind} {a b:Int} (e:oper.op= .call c) (l:c.callee= .builtin (if mx then .max else .min)) (m:c.args=#[x,y])
  (j:bT x= .sc (.int k a)) (i:bT y= .sc (.int k b)):Gives A P bP oper w σ o (.sc (.int k (if mx then(if b>a then b else a) else(if b<a then b else a)))) o:=by
 have g:=d x;have f:=d y;rw[j] at g;rw[i] at f;refine Gives.same h (u:=.int k (if mx then(if b>a then b else a) else(if b<a then b else a))) ?_ (by simp[bw,Value.oneCell']);cases mx<;>simp[execOp,e,resolve,l,m,invoke,builtin,Builtin.min_,Builtin.max_,gX g,gX f,Builtin.min2,Builtin.max2]
theorem Wv (l:bV A w σ o) (a:∀x,bw A w σ o (bT x) (bP x)) {x:Operand} {i:Nat} (f:oper.op= .extract x i) {vs:List AV} (d:bT x= .bJ vs) (h:vs[i]?=some v):Gives A P bP oper w σ o v o:=by
 have b:=a x;rw[d] at b;simp only[bw] at b;obtain⟨g,k,e⟩:=b;obtain⟨u,c,j⟩:=bF.get _ _ e i v h;simp_all[Gives.same,execOp,Instr.extract]
theorem uP (a:∀x,bw A w σ o (bT x) (bP x)):∀l:List Operand,bF A w σ o (l.map bT) (l.map bP)
 |[]=>by simp[bF];|x::l=>by simp only[ξ,bF];exact⟨_,_,rfl,a x,uP a l⟩
theorem Ww (hS:bV A w σ o) (hρ:∀x,bw A w σ o (bT x) (bP x)) {t:TypeId} {x:Operand} {fs:Array Field} (ht:P.underlying t=some (.struct fs)) (hop:oper.op= .makeInterface t x) {cs:List AV} (hx:bT x= .agg cs) (hp:dr cs=true):Gives A P bP oper w σ o (.je t cs) o:=by
 have h1:=hρ x;rw[hx] at h1;simp only[bw] at h1;obtain⟨vs,hv,hl⟩:=h1;refine Gives.same hS (u:=.iface t (.agg vs)) ?_ ?_;·simp[execOp,hop,Instr.makeInterface,run_underlying ht,hv]
 ·simp only[bw];exact⟨_,rfl,hp,hl⟩
theorem Wx (g:bV A w σ o) (e:∀x,bw A w σ o (bT x) (bP x)) {f:Fn} (d:∀l,Ft l f=f) {a b:Array Operand} (c:oper.op= .makeFunc f a b):Gives A P bP oper w σ o (.fn f (a.toList.map bT) (b.toList.map bT)) o:=by
 refine Gives.same g (u:=.func f (a.map bP) (b.map bP)) (by simp[execOp,c,Instr.makeFunc]) ?_;simp only[bw];exact⟨_,_,by rw[d],by simp_all[uP],by simp_all[uP]⟩
end
section
variable {P:Program} {A:dQ} {w w':World} {σ σ':bY} {o o':Store} {bT:Operand->AV} {bP:Operand->Value} {oper:Oper} {v:AV}
theorem wM {d k:Nat} {a:Option AV} {u:Option Value} (h:∀x,a=some x->∃y,u=some y/\bw A w σ o x y) (c:a=none->u=none) (b:ik d a=some k):
  (u=none/\k=d)\/∃q,u=some (.int q (k:Int)):=by
 unfold ik at b;grind[gX]
theorem MU (a:Bool) (b cap l h:Nat) (lo g:Option Value) (d:(lo=none/\l=0)\/∃q,lo=some (.int q (l:Int))) (e:(g=none/\h=b)\/∃q,g=some (.int q (h:Int))) (f:l<=h) (c:h<=cap):
  (Instr.sliceBounds a b cap lo g none).run P w= .ok (l,h,cap) w:=by
 have i:(0:Int)<=h/\(h:Int)<=cap:=by omega
 have j:(0:Int)<=l/\(l:Int)<=h:=by omega
 rcases d with⟨rfl,rfl⟩|⟨q,rfl⟩<;>rcases e with⟨rfl,rfl⟩|⟨k,rfl⟩<;>
  simp[Instr.sliceBounds,Instr.sliceBound,asIntOf,i,j,f,c]
theorem qY (a:∀x,bw A w σ o (bT x) (bP x)) (lo:Option Operand):(∀x,lo.map bT=some x->∃y,lo.map bP=some y/\bw A w σ o x y)/\(lo.map bT=none->lo.map bP=none):=by
 cases lo<;>simp_all
theorem Wy (hS:bV A w σ o) (p:∀x,bw A w σ o (bT x) (bP x)) {t e sz:Nat} {x:Operand} {lo m:Option Operand} (M:oper.op= .slice t x lo m none) (Y:P.underlying t=some (.slice e)) (S:sizeT P e=some sz) (a1:sz≠0)
  (h:qa o sz (bT x) (lo.map bT) (m.map bT)=some v):Gives A P bP oper w σ o v o:=by
 have B:=p x;have r:∀(a:Option Addr) (g f l k:Nat),bP x= .slice a g f->ik 0 (lo.map bT)=some l->ik g (m.map bT)=some k->l<=k->k<=f->
   bw A w σ o v (.slice (if f=l then a else a.map (·.add (l*sz))) (k - l) (f - l))->Gives A P bP oper w σ o v o:=by
  intro a g f l k q F C y T hr;refine Gives.same hS ?_ hr;have b1:=wM (qY p lo).1 (qY p lo).2 F;have b2:=wM (qY p m).1 (qY p m).2 C;simp only[execOp,M,Instr.sliceAt,q,Instr.slice];simp[run_underlying Y,MU true g f l k _ _ b1 b2 y T,qf S]
 unfold qa at h;split at h
 ·rename_i n cs z;rw[z] at B;simp only[bw] at B;obtain⟨a,f,q,hn,hp,hm⟩:=B;split at h
  ·rename_i l k F C;split at h
   ·rename_i R;injection h with h;subst h;refine r a n f l k q F C R.1 (by omega) ?_;simp only[bw];refine⟨_,_,rfl,by omega,?_,?_⟩
    ·refine s8 λc a7=>qg hp c ?_;grind
    ·refine dA.lF _ _ _ λi c m=>?_;rw[δf] at m;split at m
     ·rename_i a2;rw[δR] at m;obtain⟨b,u,rfl,a4,U,hr⟩:=dA.get _ _ _ hm _ _ m;have D:f≠l:=by
       grind
      simp_all[add_block,add_add]
     ·cases m
   ·cases h
  ·cases h
 ·rename_i id E g s z;rw[z] at B;simp only[bw] at B;obtain⟨Q,a,f,q,a5,G⟩:=B;split at h
  ·rename_i l k F C;split at h
   ·rename_i cs e' d pu ho;split at h
    ·rename_i R;injection h with h;subst h;obtain⟨y,N,a0,rfl⟩:=R;refine r a g f l k q F C y (by omega) ?_;simp only[bw];refine⟨Q,_,_,rfl,by omega,λJ H=>?_⟩;have I:=G J H;obtain⟨a8,e2,a3,j,_⟩:=H;rw[ho] at j;injection j with j;injection j with _ _ hsz2 _;subst hsz2;unfold kA at I ⊢;split;·simp_all
     ·rename_i b c L;rw[L] at I;obtain⟨h2,h3,h4⟩:=I;have X:l*d+(k - l)*d=k*d:=by rw[<-εa];congr 1;omega
      have K:k*d<=g*d:=γG _ N;refine⟨λZ=>?_,λhz Y hs=>?_,?_⟩
      ·have D:f≠l:=by omega
       have j:rN (E+l*d) s d=rN E s d+l*d:=by
        rcases h4 with⟨h5,h6⟩|⟨h5,h6,h7⟩;·grind[po]
        ·rw[By (by omega),By (by omega)];omega
       rw[h2 (by omega),if_neg D,j];simp_all[Addr.add]
      ·have O:l*d=0:=by omega
       have V:l=0:=by
        rcases Nat.mul_eq_zero.1 O with h|h<;>omega
       subst V;have a6:k*d=s:=by omega
       have W:k=g:=by
        have:g*d<=k*d:=by omega
        have:=Nat.le_of_mul_le_mul_right this hs;omega
       simp_all[Addr.add]
      omega
     simp_all
    ·cases h
   ·cases h
  ·cases h
 all_goals grind[bw,yN]
theorem Wz (f cap l h m:Nat) (lo:Option Value) (i g:Value) (b:(lo=none/\l=0)\/∃q,lo=some (.int q (l:Int))) (a:∃q,i= .int q (h:Int))
  (c:∃q,g= .int q (m:Int)) (d:l<=h) (e:h<=m) (j:m<=cap):
  (Instr.sliceBounds true f cap lo (some i) (some g)).run P w= .ok (l,h,m) w:=by
 have n:(0:Int)<=m/\(m:Int)<=cap:=by omega
 have o:(0:Int)<=h/\(h:Int)<=m:=by omega
 have k:(0:Int)<=l/\(l:Int)<=h:=by omega
 obtain⟨r,rfl⟩:=c;obtain⟨p,rfl⟩:=a;rcases b with⟨rfl,rfl⟩|⟨q,rfl⟩<;>
  simp[Instr.sliceBounds,Instr.sliceBound,asIntOf,n,o,k,d,e]
theorem WA (hS:bV A w σ o) (C:∀x,bw A w σ o (bT x) (bP x)) {t e sz:Nat} {x:Operand} {lo:Option Operand} {s mx:Operand} (a0:oper.op= .slice t x lo (some s) (some mx)) (ht:P.underlying t=some (.slice e)) (Z:sizeT P e=some sz) (b6:¬sz=0)
  (h:rO o sz (bT x) (lo.map bT) (bT s) (bT mx)=some v):Gives A P bP oper w σ o v o:=by
 have r:=C x;have D:∀(a:Option Addr) (g j l k m:Nat),bP x= .slice a g j->ik 0 (lo.map bT)=some l->ik g (some (bT s))=some k->ik g (some (bT mx))=some m->l<=k->k<=m->m<=j->
   bw A w σ o v (.slice (if m=l then a else a.map (·.add (l*sz))) (k - l) (m - l))->Gives A P bP oper w σ o v o:=by
  intro a g j l k m p S M V F H a2 hr;refine Gives.same hS ?_ hr;have b1:=wM (qY C lo).1 (qY C lo).2 S;have f:∀(y:Operand) (n:Nat),ik g (some (bT y))=some n->∃q,bP y= .int q (n:Int):=by
   intro y n hy;rcases wM (a:=some (bT y)) (u:=some (bP y)) (λx r=>by injection r with r;subst r;exact⟨_,rfl,C y⟩) (λh=>by cases h) hy with⟨h,_⟩|⟨q,h⟩;all_goals simp_all
  have b2:=f s k M;have b4:=f mx m V;simp only[execOp,a0,Instr.sliceAt,p,Instr.slice];simp[run_underlying ht,Wz g j l k m _ _ _ b1 b2 b4 F H a2,qf Z]
 unfold rO at h;split at h
 ·rename_i n cs E;rw[E] at r;simp only[bw] at r;obtain⟨a,j,p,hn,hp,V⟩:=r;split at h
  ·rename_i l k m S M I;split at h
   ·rename_i U;injection h with h;subst h;refine D a n j l k m p S M I U.1 U.2.1 (by omega) ?_;simp only[bw];refine⟨_,_,rfl,by omega,?_,?_⟩
    ·refine s8 λc a4=>qg hp c ?_;exact List.mem_of_mem_drop (List.mem_of_mem_take a4)
    ·refine dA.lF _ _ _ λi c s=>?_;rw[δf] at s;split at s
     ·rename_i b0;rw[δR] at s;obtain⟨b,u,rfl,a8,a3,hr⟩:=dA.get _ _ _ V _ _ s;have O:m≠l:=by
       grind
      simp_all[add_block,add_add]
     ·cases s
   ·cases h
  ·cases h
 ·rename_i id z g N E;rw[E] at r;simp only[bw] at r;obtain⟨a1,a,j,p,a9,L⟩:=r;split at h
  ·rename_i l k m S M I;split at h
   ·rename_i cs e' d pu ho;split at h
    ·rename_i U;injection h with h;subst h;obtain⟨F,H,b3,a5,rfl,T,K⟩:=U;refine D a g j l k m p S M I F H (by omega) ?_;simp only[bw];refine⟨a1,_,_,rfl,by omega,λY R=>?_⟩;have J:=L Y R;obtain⟨b5,e2,a7,B,_⟩:=R;rw[ho] at B;injection B with B;injection B with _ _ hsz2 _;subst hsz2;have a6:l*d+(k - l)*d=k*d:=by rw[<-εa];congr 1;omega
     have X:k*d<=g*d:=γG _ (by omega);unfold kA at J ⊢;split
     ·rename_i G;rw[G] at J;obtain⟨h2,h3,h4,h5⟩:=J;subst h3;exact⟨h2,by simp,by omega,by omega⟩
     ·rename_i b c G;rw[G] at J;obtain⟨h2,h3,h4⟩:=J;refine⟨λW=>?_,λhz=>by omega,.inr ⟨by omega,by omega,K⟩⟩;have O:m≠l:=by omega
      have Q:(⟨b,z,none⟩:Addr).add (l*d)=⟨b,z+l*d,none⟩:=by unfold Addr.add;split<;>simp_all
      rw[h2 (by omega),if_neg O,po (by omega),By (by omega),γl,Q,show z+l*d+(N+d) - N - d=z+l*d by omega]
     simp_all
    ·cases h
   ·cases h
  ·cases h
 ·cases h
theorem WB (g:bV A w σ o) (a:∀x,bw A w σ o (bT x) (bP x)) {t l k:Nat} {x:Operand} {s:ByteArray} {lo b:Option Operand} (e:oper.op= .slice t x lo b none) (j:P.underlying t=some .string)
  (p:bT x= .sc (.string s)) (i:ik 0 (lo.map bT)=some l) (n:ik s.size (b.map bT)=some k) (c:l<=k) (d:k<=s.size):Gives A P bP oper w σ o (.sc (.string (s.extract l k))) o:=by
 have f:=a x;rw[p] at f;have m:=gX f;refine Gives.same g (u:=.string (s.extract l k)) ?_ (by simp[bw,Value.oneCell']);have h:=wM (qY a lo).1 (qY a lo).2 i;have q:=wM (qY a b).1 (qY a b).2 n;simp only[execOp,e,Instr.sliceAt,m,Instr.slice];simp[run_underlying j,MU false s.size s.size l k _ _ h q c d]
theorem FC (place:Nat->Option (Nat×Nat)):∀(f:List (Nat×Nat×AV)) (b:List (Nat×Value)) (cs:List AV) (vs:Array Value) (h:List AV),
  f.length=b.length->(∀(i:Nat) (p:Nat×Nat×AV) (q:Nat×Value),f[i]?=some p->b[i]?=some q->place q.1=some (p.1,p.2.1)/\bw A w σ o p.2.2 q.2)->
  bF A w σ o cs vs.toList->eJ cs=true->li f cs=some h->
  ∃C,Instr.fill place vs b=some C/\bF A w σ o h C.toList/\eJ h=true/\h.length=cs.length
 |[],[],cs,vs,h,_,_,G,L,r=>by
  simp only[li,γ] at r;subst r;exact⟨vs,rfl,G,L,rfl⟩;|[],_::_,_,_,_,s,_,_,_,_=>by simp at s;|_::_,[],_,_,_,s,_,_,_,_=>by simp at s;|(e,n,a)::f,(i,u)::b,cs,vs,h,s,H,G,L,r=>by
  simp only[li] at r;split at r
  ·rename_i O;obtain⟨J,S,U⟩:=O;obtain⟨I,K⟩:=H 0 (e,n,a) (i,u) rfl rfl;simp only at I K;obtain⟨Q,W⟩:=K.cells S;have t:=bF.length _ _ Q;have E:=bF.length _ _ G;have z:u.cells.size=n:=by rw[<-J,t];simp
   simp only[Instr.fill,I];rw[if_neg (by simp_all)];have M:∀(l:List Value) (k:Nat) (m:Array Value),((l.zipIdx k).foldl (λcs (p:Value×Nat)=>cs.setIfInBounds (e+p.2) p.1) m).size=m.size/\
     ∀j,e+k+l.length<=m.size->((l.zipIdx k).foldl (λcs (p:Value×Nat)=>cs.setIfInBounds (e+p.2) p.1) m)[j]?=if e+k<=j/\j<e+k+l.length then l[j - (e+k)]? else m[j]?:=by
    intro l;induction l with
    |nil=>intro k m;simp;omega;|cons x l ih=>
     intro k m;simp only[List.zipIdx_cons,List.foldl_cons];grind
   have D:Array.foldl (λcs (p:Value×Nat)=>cs.setIfInBounds (e+p.2) p.1) vs u.cells.zipIdx=(u.cells.toList.zipIdx 0).foldl (λcs (p:Value×Nat)=>cs.setIfInBounds (e+p.2) p.1) vs:=by
    rw[<-Array.foldl_toList];simp
   obtain⟨Z,P⟩:=M u.cells.toList 0 vs;have y:bF A w σ o (fQ cs e a.cellsOf) ((u.cells.toList.zipIdx 0).foldl (λcs (p:Value×Nat)=>cs.setIfInBounds (e+p.2) p.1) vs).toList:=by
    refine bF.lF _ _ (by grind[yU]) λj c v=>?_;rw[BA _ _ _ (by omega)] at v;have F:=P j (by simp_all);simp only[δy];rw[F];simp only[Nat.add_zero,Array.length_toList,z];rw[J] at v;by_cases g:e<=j/\j<e+n
    ·rw[if_pos g] at v ⊢;grind[bF.get]
    ·rw[if_neg g] at v ⊢;grind[bF.get]
   have B:eJ (fQ cs e a.cellsOf)=true:=mN.2 λd Y=>by
    grind[yV,mN]
   obtain⟨C,V,T,X,k4⟩:=FC place f b _ _ h (by simpa using s) (λi p q R N=>H (i+1) p q (by simpa using R) (by simpa using N)) y B r;grind[yU]
  ·cases r
end
section
variable {P:Program} {A:dQ} {w w':World} {σ σ':bY} {o o':Store} {bT:Operand->AV} {bP:Operand->Value} {oper:Oper} {v:AV}
theorem FD {d c:Type} {f:d->Option c}:∀{l:List d} {r:List c},qV f l=some r->l.length=r.length/\∀(i:Nat) (a:d) (b:c),l[i]?=some a->r[i]?=some b->f a=some b
 |[],r,h=>by grind[qV];|a::l,r,h=>by
  simp only[qV] at h;split at h
  ·rename_i b j m e;injection h with h;subst h;obtain⟨g,k⟩:=FD e;grind
  ·cases h
theorem MV (H:bV A w σ o) (g:∀x,bw A w σ o (bT x) (bP x)) {t:TypeId} {place:Nat->Option (Nat×Nat)} {z:List Value} {a:Array (Nat×Operand)} {f:List (Nat×Nat×Operand)} {cs:List AV} (G:oper.op= .build t a)
  (J:lD P t=some z) (E:∀e:Value,(P.info? t).bind (·.zero)=some e->∀l,P.built t l=Instr.fill place e.cells l)
  (c:f.length=a.toList.length) (n:∀(i:Nat) (p:Nat×Operand) (q:Nat×Nat×Operand),a.toList[i]?=some p->f[i]?=some q->place p.1=some (q.1,q.2.1)/\q.2.2=p.2)
  (B:li (f.map λp=>(p.1,p.2.1,bT p.2.2)) (z.map .sc)=some cs):Gives A P bP oper w σ o (.agg cs) o:=by
 obtain⟨i,e,N,D,d,h,b⟩:=uO J;obtain⟨r,Q,L,K,O⟩:=FC (w:=w) (σ:=σ) (o:=o) place (f.map λp=>(p.1,p.2.1,bT p.2.2)) (a.toList.map λp=>(p.1,bP p.2)) (z.map .sc) e.cells cs (by simpa using c)
  (λj p q v s=>by
   rw[List.getElem?_map,ε] at v s;obtain⟨C,m,rfl⟩:=v;obtain⟨F,k,rfl⟩:=s;obtain⟨I,y⟩:=n j F C k m;exact⟨I,by simp only[y];exact g _⟩) (by grind[wK]) (FA b) B;have M:P.built t (a.toList.map λp=>(p.1,bP p.2))=some r:=by simp_all
 refine Gives.same H (u:=.agg r) ?_ (by grind[bw]);simp_all[run_build,execOp]
theorem MW (A:dQ) (w:World) (σ:bY) (o:Store) {z:List Value} (a:∀u∈z,u.oneCell'=true) (b:Array Value) (q:b.toList=z):∀n:Nat,
  bF A w σ o (δ n (z.map δd)).flatten (madeCells b (n*z.length)).toList:=by
 intro n;have i:((δ n (z.map δd)).flatten).length=n*z.length:=by simp
 refine bF.lF _ _ (by simp[madeCells]) λj c d=>?_;have e:j<n*z.length:=by grind
 have f:∀(n j:Nat),j<n*z.length->((δ n (z.map δd)).flatten)[j]?=(z.map δd)[j % z.length]?:=by
  intro n;induction n with
  |zero=>omega;|succ n m=>
   intro j d;rw[δl,ε7,εl];simp only[List.length_map];by_cases h:j<z.length;·rw[if_pos h,Nat.mod_eq_of_lt h]
   ·rw[if_neg h,m (j - z.length) (by grind)];congr 1;rw[Nat.mod_eq_sub_mod (by omega:j≥z.length)]
 rw[f n j e] at d;obtain⟨u,r,l⟩:=bF.get _ _ (wK A w σ o z a) _ c d;refine⟨u,?_,l⟩;have k:b.size=z.length:=by grind
 have g:0<z.length:=by
  grind
 have p:j % z.length<b.size:=by grind
 simp only[madeCells,δy];grind
theorem MX {z:List Value} (a:∀u∈z,u.oneCell'=true) (n:Nat):eJ (δ n (z.map δd)).flatten=true:=by
 refine mN.2 λc b=>?_;simp only[ζO,εX] at b;grind[mN,FA]
theorem WC (z:List Value) (n:Nat):dr (δ n (z.map δd)).flatten=true:=by
 refine s8 λc a=>?_;simp only[ζO,εX] at a;grind[qg,MN]
theorem MY (r:∀x,bw A w σ o (bT x) (bP x)) {t e b:Nat} {z:List Value} {a:Array (Nat×Operand)} {cs:List AV} (F:P.underlying t=some (.slice e)) (E:lD P e=some z) (m:0<z.length) (C:b*z.length<=16777216)
  (B:li ((a.toList.map λp=>(p.1*z.length,p.2)).map λp=>(p.1,z.length,bT p.2)) (δ b (z.map δd)).flatten=some cs):
  ∃g:Array Value,(Instr.buildSlice t b (a.map λp=>(p.1,bP p.2))).run P w= .ok (.slice (some ⟨w.heap.size,0,none⟩) b b) (w.alloc (.cells g e))/\bF A w σ o cs g.toList/\eJ cs=true/\cs.length=b*z.length:=by
 obtain⟨i,k,H,l,c,f,d⟩:=uO E;have v:k.cells.size=z.length:=by grind
 obtain⟨g,n,D,u,s⟩:=FC (w:=w) (σ:=σ) (o:=o) (λi=>some (i*z.length,z.length)) ((a.toList.map λp=>(p.1*z.length,p.2)).map λp=>(p.1,z.length,bT p.2))
  (a.toList.map λp=>(p.1,bP p.2)) _ (madeCells k.cells (b*z.length)) cs (by simp)
  (λj p q K J=>by
   grind) (MW A w σ o d k.cells c b) (MX d b) B;have y:cs.length=b*z.length:=by rw[s];simp
 refine⟨g,?_,D,u,y⟩;by_cases I:b*z.length=0
 ·have G:b=0:=by
   rcases Nat.mul_eq_zero.1 I with h|h<;>omega
  simp_all[madeCells,Array.range_zero',Instr.buildSlice,run_underlying,sizeOf,typeInfo,newRow]
 ·exact run_buildSlice w t e b _ g i k F H l (by simp_all) (by simp_all) (by
   rw[f];have:(a.map λp=>(p.1,bP p.2)).toList=a.toList.map λp=>(p.1,bP p.2):=by simp
   rw[this];exact n)
theorem WE (r:bV A w σ o) (l:∀x,bw A w σ o (bT x) (bP x)) {t e a bE:Nat} {z:List Value} {b:Array (Nat×Operand)} {cs:List AV} (E:oper.op= .buildSlice t a b) (H:P.underlying t=some (.slice e))
  (y:lD P e=some z) (d:0<z.length) (i:a*z.length<=16777216)
  (B:li ((b.toList.map λp=>(p.1*z.length,p.2)).map λp=>(p.1,z.length,bT p.2)) (δ a (z.map δd)).flatten=some cs) (s:o[bE]?=some .dead):
  Gives A P bP oper w σ o (.os bE 0 a (a*z.length)) (o.set bE (.cells (eC (dr cs) cs) e z.length (dr cs))):=by
 obtain⟨q,J,v,G,K⟩:=MY l H y d i B;have f:bE<o.length:=(θ.1 s).1;have m:bE<σ.length:=by rw[r.len];exact f
 have g:q.size=a*z.length:=by have:=bF.length _ _ v;simp_all
 have n:a<=maxLen:=by
  have:a*1<=a*z.length:=Nat.mul_le_mul_left _ d;grind[maxLen]
 obtain⟨k,D⟩:=r.BE (w:=w) (arr:=q) (e:=e) (sz:=z.length) (cap:=a) (pu:=dr cs) (cs:=eC (dr cs) cs) s g n (by grind[s7]) (Fv G) (λh=>Bz h)
  (λj c N=>by grind[Fz]);refine⟨.slice (some ⟨w.heap.size,0,none⟩) a a,_,_,.inl ?_,k,?_,D⟩;·simp_all[execOp]
 ·simp only[bw];refine⟨⟨_,_,_,_,by rw[δt f],by grind[s7]⟩,_,_,rfl,φ _,λM C=>?_⟩;obtain⟨F,L,I,u,_⟩:=C;grind[kA,po]
theorem bV.grow (a:bV A w σ o) (x:Obj):bV A (w.alloc x) σ o/\Ext w σ o (w.alloc x) σ o:=by
 have e:Ext w σ o (w.alloc x) σ o:=⟨by simp,λb d g=>⟨heap_alloc_old w x b d,g⟩,φ _,λ_ _ h=>⟨h,λ_ h=>⟨h,rfl⟩⟩,λ_ h=>⟨h,rfl⟩,rfl,rfl,rfl⟩;exact⟨⟨a.len,a.dist,λi b c h=>γo (a.bnd i b c h) (by simp),λi y f=>(a.obj i y f).ext e rfl λb c d=>heap_alloc_old w x b (a.bnd i b c d),a.av,λb d=>γo (a.jV b d) (by simp)⟩,e⟩
theorem WG (f:bV A w σ o) (h:∀x,bw A w σ o (bT x) (bP x)) {t e a:Nat} {z:List Value} {b:Array (Nat×Operand)} {cs:List AV} (r:oper.op= .buildSlice t a b) (C:P.underlying t=some (.slice e))
  (q:lD P e=some z) (d:0<z.length) (g:a*z.length<=16777216)
  (v:li ((b.toList.map λp=>(p.1*z.length,p.2)).map λp=>(p.1,z.length,bT p.2)) (δ a (z.map δd)).flatten=some cs) (s:dr cs=true):
  Gives A P bP oper w σ o (.sl a (eC true cs)) o:=by
 obtain⟨m,F,D,G,H⟩:=MY h C q d g v;obtain⟨k,l⟩:=f.grow (.cells m e);refine⟨.slice (some ⟨w.heap.size,0,none⟩) a a,_,_,.inl ?_,k,?_,l⟩;·simp_all[execOp]
 ·simp only[bw];refine⟨_,_,rfl,φ _,Bz s,dA.lF _ _ _ λj c B=>?_⟩;obtain⟨u,I,y⟩:=Fz D B;refine⟨_,u,rfl,?_,?_,y.ext l⟩
  ·refine⟨?_,λn=>by have:=f.jV _ n;simp at this⟩;rintro⟨i,c,E⟩;have:=f.bnd i _ c E;simp at this
  grind[Addr.add,World.cell?,heap_alloc_new]
theorem WH (pu:Bool) (n:Nat) (cs:List AV):(δ n (eC pu cs)).flatten=eC pu (δ n cs).flatten:=by
 unfold eC;split<;>simp_all
theorem WI (D:bV A w σ o) (p:∀x,bw A w σ o (bT x) (bP x)) {t e bE a:Nat} {z:List Value} {l c:Operand} {n m:Int} {pu:Bool} (V:oper.op= .makeSlice t l c) (Z:P.underlying t=some (.slice e))
  (hz:lD P e=some z) (hb:wC P e=some a) (S:ig (bT l)=some n) (I:ig (bT c)=some m) (H:0<=n) (v:n<=m) (W:m*a<=140737488355328) (hm:m<=1000000000000)
  (E:o[bE]?=some .dead):Gives A P bP oper w σ o (.os bE 0 n.toNat (n.toNat*z.length)) (o.set bE (.cells (δ n.toNat (eC pu (z.map δd))).flatten e z.length pu)):=by
 rw[WH];obtain⟨i,q,hi,B,b,f,d⟩:=uO hz;obtain⟨O,T⟩:=wL (p l) S;obtain⟨M,N⟩:=wL (p c) I;have K:i.bytes=a:=by grind[wC]
 have g:=run_make (P:=P) w t e i q Z hi B O M n m H v (by grind) (by omega);rw[f] at g;have k:bE<o.length:=(θ.1 E).1;have s:bE<σ.length:=by rw[D.len];exact k
 have J:n.toNat*z.length<=m.toNat*z.length:=γG _ (by omega);have h:=MW A w σ o d q.cells b m.toNat;obtain⟨C,U⟩:=D.BE (w:=w) (arr:=madeCells q.cells (m.toNat*z.length)) (e:=e) (sz:=z.length) (cap:=m.toNat) (pu:=pu) (cs:=eC pu (δ n.toNat (z.map δd)).flatten) E (by simp[madeCells])
  (by grind[maxLen]) (by simp_all[s7,madeCells]) (Fv (MX d _)) (λ_=>Bz (WC _ _))
  (λj c F=>by
   have L:bF A w σ o (δ n.toNat (z.map δd)).flatten ((madeCells q.cells (m.toNat*z.length)).toList.take (n.toNat*z.length)):=by
    refine bF.lF _ _ (by simp_all[madeCells]) λj c F=>?_;have X:=(θ.1 F).1;have G:j<n.toNat*z.length:=by simp_all
    have r:(δ m.toNat (z.map δd)).flatten=(δ n.toNat (z.map δd)).flatten++(δ (m.toNat - n.toNat) (z.map δd)).flatten:=by
     rw[<-List.flatten_append,List.replicate_append_replicate];grind
    obtain⟨u,hu,hr⟩:=bF.get _ _ h j c (by grind);simp_all
   grind[Fz]);refine⟨.slice (some ⟨w.heap.size,0,none⟩) n.toNat m.toNat,_,_,.inl ?_,C,?_,U⟩;·simp_all[execOp]
 ·simp only[bw];refine⟨⟨_,_,_,_,by rw[δt k],by rw[s7];simp⟩,_,_,rfl,by omega,λsz y=>?_⟩;obtain⟨Y,e2,Q,R,_⟩:=y;grind[kA,po]
end
section
variable {P:Program} {A:dQ} {w w':World} {σ σ':bY} {o o':Store} {bT:Operand->AV} {bP:Operand->Value} {oper:Oper} {v:AV}
theorem FG (b a j:Nat):(⟨b,a,none⟩:Addr).add j=⟨b,a+j,none⟩:=by grind[Addr.add]
theorem WJ (C:bV A w σ o) {sz:Nat} (B:0<sz) {a:AV} {u:Value} (h:bw A w σ o a u) {m:Nat} {i:List AV} (f:mL o sz a=some (m,i)):
  ∃Z c,u= .slice Z m c/\m<=c/\i.length=m*sz/\∀(j:Nat) (d:AV),i[j]?=some d->∃(p:Addr) (v:Value),Z=some p/\w.cell? (p.add j)=some v/\bw A w σ o d v:=by
 unfold mL at f;split at f;·grind[bw,dA.get]
 ·rename_i F J s E;simp only[bw] at h;obtain⟨H,Z,t,rfl,D,k⟩:=h;split at f
  ·rename_i G e r K x;split at f
   ·rename_i g;obtain⟨l,rfl,q⟩:=g;simp only[γ,μ] at f;obtain⟨rfl,rfl⟩:=f;have y:=k r ⟨G,e,K,x,l⟩;refine⟨Z,t,rfl,D,by simp;omega,λj d n=>?_⟩;rw[δf] at n;split at n
    ·rename_i M;rw[δR] at n;have z:0<s:=by
      grind
     unfold kA at y;split at y;·omega
     ·rename_i b c I;have L:=C.obj F _ x;grind[dD,po,FG,World.cell?]
     simp_all
    ·cases n
   ·cases f
  ·cases f
 all_goals grind[gX]
theorem WL {t g e:TypeId} {i:TypeInfo} (b:P.underlying t=some (.slice e)) (d:P.info? e=some i) (B Z:Option Addr) (n c f:Nat) (a:n<=c) (w:World):
  (Builtin.append_ #[t,t] g #[.slice B n c,.slice Z 0 f]).run P w= .ok (.slice B n c) w:=by
 cases B<;>cases Z<;>simp[Builtin.append_,run_underlying b,sizeOf,typeInfo,d,Builtin.lenOf,Builtin.firstCells,a,loadCells,loadCellsFrom,storeCells]
theorem FH {t:TypeId} {c:Call} {s x:Operand} (a:oper.op= .call c) (e:c.callee= .builtin .append) (d:c.args=#[s,x]) (b:c.argTypes=#[t,t]) {u:Value}
  (h:(Builtin.append_ #[t,t] oper.type #[bP s,bP x]).run P w= .ok u w'):(execOp bP oper).run P w= .ok (.value u) w':=by
 simp[execOp,a,resolve,e,d,b,invoke,builtin,h]
theorem MZ {A:dQ} {w:World} {σ:bY} {o:Store} {Z:Option Addr}:∀(a:List AV) (k:Nat),(∀(j:Nat) (d:AV),a[j]?=some d->∃(p:Addr) (v:Value),Z=some p/\w.cell? (p.add (k+j))=some v/\bw A w σ o d v)->
  ∃vs:List Value,bF A w σ o a vs/\∀(p:Addr),Z=some p->∀(j:Nat) (u:Value),vs[j]?=some u->w.cell? (p.add (k+j))=some u
 |[],_,_=>⟨[],by simp[bF],by simp⟩
 |d::a,k,h=>by
  obtain⟨p,v,i,l,e⟩:=h 0 d (by simp);obtain⟨vs,c,g⟩:=MZ a (k+1) (λj b f=>by
   have:=h (j+1) b (by simp_all);rwa [show k+1+j=k+(j+1) from by omega]);refine⟨v::vs,by grind[bF],λq m j u n=>?_⟩;grind
theorem M4 {A:dQ} {w:World} {σ:bY} {o:Store}:∀{cs:List AV} {vs:List Value},bF A w σ o cs vs->eJ cs=true->∀u∈vs,u.oneCell'=true
 |[],vs,d,_=>by grind[bF];|c::cs,vs,d,a=>by
  simp only[bF] at d;obtain⟨v,r,rfl,e,f⟩:=d;simp only[eJ,ζg,ζ] at a;intro u b;rcases γC.1 b with rfl|b;·exact e.one a.1
  ·exact M4 f a.2 u b
theorem WM (hS:bV A w σ o) (c4:∀x,bw A w σ o (bT x) (bP x)) {t e sz f bE:Nat} {z:List Value} {c:Call} {s x:Operand} {pu:Bool} (c1:oper.op= .call c) (hc:c.callee= .builtin .append) (ha:c.args=#[s,x]) (c6:c.argTypes=#[t,t])
  (ht:P.underlying t=some (.slice e)) (hz:lD P e=some z) (hb:wC P e=some f) (f1:sz=z.length) (y:0<sz) (h:pZ e sz f pu (bT s) (bT x) o bE=some (v,o')):Gives A P bP oper w σ o v o':=by
 obtain⟨i,zv,hi,c8,c9,e3,f0⟩:=uO hz;have c7:i.bytes=f:=by grind[wC]
 have b3:i.size=sz:=by omega
 have c3:zv.cells.size=sz:=by grind
 unfold pZ at h;split at h;·cases h
 rename_i m q e1;split at h;·cases h
 rename_i h1;have b1:eJ q=true:=by simpa using h1
 obtain⟨Z,cx,g0,f9,b7,K⟩:=WJ hS y (c4 x) e1;have d3:∀(B:Option Addr) (n l:Nat),m=0->bP s= .slice B n l->n<=l->(execOp bP oper).run P w= .ok (.value (.slice B n l)) w:=by
  grind[FH,WL]
 obtain⟨vs,a4,f6⟩:=MZ (w:=w) (σ:=σ) (o:=o) (Z:=Z) q 0 (λj d hd=>by simpa using K j d hd);have M:vs.length=m*sz:=by grind[bF.length]
 have J:=M4 a4 b1;have hs:=c4 s;split at h;·
  rename_i a1;rw[a1] at hs;have d8:=gX hs;split at h;·grind[Gives.same,yN]
  ·rename_i a7;split at h
   ·rename_i F;obtain⟨a8,b9,a9⟩:=F;cases U:kM bE (.cells q e sz pu) o with
    |none=>simp[U] at h;|some o2=>
     simp only[U,γl,γ,μ] at h;obtain⟨rfl,rfl⟩:=h;obtain⟨hd,rfl⟩:=wJ U;have L:bE<o.length:=(θ.1 hd).1;have X:bE<σ.length:=by rw[hS.len];exact L
     have a0:0<q.length:=by rw[b7];exact Nat.mul_pos (by omega) y
     obtain⟨p,_,hp,_⟩:=K 0 _ (ν a0);obtain⟨v',N,b8,r,a,c5,e0⟩:=run_append_own_at (P:=P) w w.heap.size t oper.type e i zv sz f ht hi c8 b3 c7 c3 y (.slice none 0 0) 0 [] (World.ownsRow_nil w _ _ _) p m cx vs M
      (λj u hu=>by simp_all) J (by grind[maxLen]) (by simp_all) (φ _);have G:=FH (P:=P) (w:=w) (w':=N) (bP:=bP) c1 hc ha c6 (u:=v') (by simp_all);simp only[Nat.zero_add,List.nil_append] at r;rcases r.2 with⟨I,d4⟩|⟨g,l,O,I,hg,hh,H,a2,a3,b4⟩;·omega
     ·have d9:g<N.heap.size:=(γR.1 hh).1;obtain⟨Y,hE⟩:=bV.upd (w':=N) (x:=.dead) (x':=.cells q e sz pu) (s':=some (g,l)) hS hd a.size a.os a.tape a.output (λb W _=>a.block b W (by simp[Value.ownBlock]))
       (λb c2 h2=> .inr (by simp_all)) trivial (λhE=>by
        simp only[dD];refine⟨λb2=>a9.resolve_left (by simp[b2]),b1,.inr ⟨g,l,O,by simp_all,a2,hh,a3,by
         grind,λj d T=>?_⟩⟩;obtain⟨u,hu,hr⟩:=bF.get _ _ a4 j d T;refine⟨u,?_,hr.ext hE⟩;grind);refine⟨v',N,_,.inl G,Y,?_,hE⟩;simp only[bw];refine⟨⟨_,_,_,_,by rw[δt L],by omega⟩,_,_,I,H,λe6 a5=>?_⟩;obtain⟨e4,e2,d5,d6,_⟩:=a5;grind[kA,po]
   ·cases h
 ·
  rename_i id E f2 a1;rw[a1] at hs;simp only[bw] at hs;obtain⟨f3,B,C,d8,S,b6⟩:=hs;split at h
  ·rename_i cs e' D R ho;split at h
   ·rename_i F;obtain⟨c0,rfl,rfl,a6,a8,b9,a9⟩:=F;simp only[γ,μ] at h;obtain⟨rfl,rfl⟩:=h;have L:id<o.length:=(θ.1 ho).1;have X:id<σ.length:=by rw[hS.len];exact L
    have hk:=b6 D ⟨cs,e',R,ho,c0⟩;have Q:=hS.obj id _ ho;simp only[dD] at Q;obtain⟨q1,q2,q3⟩:=Q;rcases Nat.eq_zero_or_pos m with a7|e5;·
     have d7:q=[]:=Φ (by rw[b7,a7];simp);subst a7 d7;have e7:o.set id (.cells (cs++[]) e' D R)=o:=by
      apply δc;grind
     grind[Gives.same]
    ·have a0:0<q.length:=by simp_all
     obtain⟨p,_,hp,_⟩:=K 0 _ (ν a0);have b5:∃xs:List Value,w.ownsRow 0 e' D (.slice B E C) E xs/\bF A w σ o cs xs/\(∀k,(Value.slice B E C).ownBlock=some k->∃d,σ[id]?=some (some (k,d))):=by
      unfold kA at hk;split at hk;·simp_all[World.ownsRow_nil,Value.ownBlock,bF]
      ·rename_i b l d2;obtain⟨k1,k2,k3⟩:=hk;obtain⟨k4,k5⟩:=k2 rfl a6 y;subst k4 k5;rcases q3 with⟨h0,_⟩|⟨b',e8,b0,r1,r2,r3,r4,r5,r6⟩;·simp_all
       rw[d2] at r1;simp only[γ,μ] at r1;obtain⟨rfl,rfl⟩:=r1;refine⟨b0.toList.take (E*D),⟨by simp;omega,.inr ⟨b,C,b0,rfl,εE _,r3,S,r2,r4,rfl⟩⟩,bF.lF _ _ (by simp;omega) λj d hd=>?_,λk hk=>⟨C,by grind[Value.ownBlock]⟩⟩;grind
      ·exact hk.elim
     obtain⟨xs,V,d1,e9⟩:=b5;obtain⟨v',N,b8,r,a,c5,e0⟩:=run_append_own_at (P:=P) w 0 t oper.type e' i zv D f ht hi c8 b3 c7 c3 y (.slice B E C) E xs V p m cx vs M
      (λj u hu=>by simp_all) J (by grind[maxLen]) a8 (εE _);have G:=FH (P:=P) (w:=w) (w':=N) (bP:=bP) c1 hc ha c6 (u:=v') (by simp_all);rcases r.2 with⟨I,d4⟩|⟨g,l,O,I,hg,hh,H,a2,a3,b4⟩;·omega
     ·have d9:g<N.heap.size:=(γR.1 hh).1;have f4:(∃d,σ[id]?=some (some (g,d)))\/g=w.heap.size:=by
       have f5:v'.ownBlock=some g:=by rw[I];rfl
       grind
      have d0:(cs++q).length=(E+m)*D:=by grind
      obtain⟨Y,hE⟩:=bV.upd (w':=N) (x':=.cells (cs++q) e' D R) (s':=some (g,l)) hS ho a.size a.os a.tape a.output
       (λb W f7=>a.block b W (λhe=>by grind))
       (λb c2 h2=>by
        grind)
       ⟨_,_,_,rfl,by simp,λf8=>by grind⟩ (λhE=>by
        simp only[dD];refine⟨λb2=>s8 λd hd=>?_,mN.2 λd hd=>?_,.inr ⟨g,l,O,by simp_all,a2,hh,a3,by
         have:(O.toList.take ((E+m)*D)).length=(xs++vs).length:=by rw[b4]
         rw[r.1] at this;simp at this;omega,λj d T=>?_⟩⟩;·grind[qg]
        ·grind[mN]
        ·obtain⟨u,hu,hr⟩:=bF.get _ _ (bF.append d1 a4) j d T;refine⟨u,?_,hr.ext hE⟩;grind);refine⟨v',N,_,.inl G,Y,?_,hE⟩;simp only[bw];refine⟨⟨_,_,_,_,by rw[δt L],by rw[d0,εa];omega⟩,_,_,I,H,λe6 a5=>?_⟩;obtain⟨e4,e2,d5,d6,_⟩:=a5;grind[kA,po]
   ·cases h
  ·cases h
 all_goals grind[bw,Gives.same]
end
section
variable {P:Program} {A:dQ} {w w':World} {σ σ':bY} {o o':Store} {bT:Operand->AV} {bP:Operand->Value} {oper:Oper} {v:AV}
def lG (P:Program) (t:TypeId) (l:List Value):Value:=
 match fw P t with
 |some true=> .agg l.toArray
 |_=>l.headD undef
theorem mO:∀{a:List Nat} {vs:List Value},eD a vs=true->vs.length=a.length
 |[],[],_=>rfl
 |[],_::_,h=>by grind[eD];|k::a,[],h=>by grind[eD];|0::a,v::vs,h=>by cases v<;>simp only[eD,χ] at h<;>simp[mO h];|1::a,v::vs,h=>by cases v<;>simp only[eD,χ] at h<;>simp[mO h];|2::a,v::vs,h=>by cases v<;>simp only[eD,χ] at h<;>simp[mO h];|(k+3)::a,v::vs,h=>by simp[eD] at h
theorem rR:∀{a b:List Nat} {vs:List Value},eD (a++b) vs=true->eD a (vs.take a.length)=true/\eD b (vs.drop a.length)=true
 |[],b,vs,h=>by grind[eD];|k::a,b,[],h=>by grind[eD];|0::a,b,v::vs,h=>by cases v<;>simp only[γy,eD,χ] at h<;>simpa[eD] using rR h;|1::a,b,v::vs,h=>by cases v<;>simp only[γy,eD,χ] at h<;>simpa[eD] using rR h;|2::a,b,v::vs,h=>by cases v<;>simp only[γy,eD,χ] at h<;>simpa[eD] using rR h;|(k+3)::a,b,v::vs,h=>by simp[eD] at h
theorem FI:∀(n:Nat) {xs e:List Value} {r:Bool},gk xs e=some r->
  ∃a b,gk (xs.take n) (e.take n)=some a/\gk (xs.drop n) (e.drop n)=some b/\r=(a&&b)
 |0,xs,e,r,h=>⟨true,r,by simp[gk],by simpa using h,by simp⟩
 |n+1,[],[],r,h=>by simp_all;|n+1,[],_::_,r,h=>by grind[gk];|n+1,_::_,[],r,h=>by grind[gk];|n+1,x::xs,y::e,r,h=>by
  simp only[gk] at h;split at h
  ·rename_i a b j f;injection h with h;obtain⟨c,d,k,i,g⟩:=FI n f;grind[gk]
  ·cases h
theorem yW {m:Nat} {t:TypeId} {d:List Nat} (h:gl P (m+1) t=some d):
  (P.underlying t=some .bool/\sizeT P t=some 1/\d=[1])\/(∃k,P.underlying t=some (.int k)/\sizeT P t=some 1/\d=[0])\/(P.underlying t=some .string/\sizeT P t=some 1/\d=[2])\/
  (∃fs,P.underlying t=some (.struct fs)/\P.stoodInHeld t=false/\qU (gl P m) 0 fs.toList=some d/\sizeT P t=some d.length)\/
  ∃k e a,P.underlying t=some (.array k e)/\gl P m e=some a/\d=(δ k a).flatten/\sizeT P t=some (k*a.length):=by
 simp only[gl] at h;split at h;·rename_i k b c;injection h with h;exact .inr (.inl ⟨k,b,c,h.symm⟩)
 ·rename_i b c;injection h with h;exact .inl ⟨b,c,h.symm⟩
 ·rename_i b c;injection h with h;exact .inr (.inr (.inl ⟨b,c,h.symm⟩))
 ·rename_i fs n b c;split at h;·cases h
  ·rename_i i;split at h
   ·rename_i a f;split at h
    ·rename_i g;injection h with h;subst h;exact .inr (.inr (.inr (.inl ⟨fs,b,by simp_all,f,by rw[g];exact c⟩)))
    ·cases h
   ·cases h
 ·rename_i k e n b c;split at h
  ·rename_i a f;split at h
   ·rename_i g;injection h with h;subst h;exact .inr (.inr (.inr (.inr ⟨k,e,a,b,f,rfl,by rw[<-g];exact c⟩)))
   ·cases h
  ·cases h
 ·cases h
theorem wO {m:Nat} {t:TypeId} {d:List Nat} (h:gl P m t=some d):sizeT P t=some d.length/\(∃b,fw P t=some b):=by
 cases m with
 |zero=>grind[gl];|succ m=>
  rcases yW h with⟨a,c,rfl⟩|⟨k,a,c,rfl⟩|⟨a,c,rfl⟩|⟨g,a,_,_,c⟩|⟨k,e,f,a,_,rfl,c⟩;all_goals simp_all[fw]
theorem wP {t:TypeId} {e:List Nat} (i:sizeT P t=some e.length) (k:∃b,fw P t=some b) (c:fw P t=some false->e.length=1) (xs:Array Value) (a:Nat) (j:a+e.length<=xs.size) (w:World):
  (part t xs a).run P w= .ok (lG P t ((xs.toList.drop a).take e.length)) w:=by
 obtain⟨b,d⟩:=k;cases b with
 |true=>
  simp only[part,Sem.run_bind,wI d,Result.andThen_ok,if_true,qf i,Sem.run_pure,lG,d];congr 2;grind;|false=>
  have g:=c d;have f:a<xs.size:=by omega
  simp only[part,Sem.run_bind,wI d,Result.andThen_ok,χ,if_false,lG,d,g];rw[Array.getElem?_eq_getElem f];have h:xs.toList.drop a=xs[a]::xs.toList.drop (a+1):=by
   rw[List.drop_eq_getElem_cons (by omega)];simp
  rw[h];simp
theorem uQ {m:Nat} {t:TypeId} {a:List Nat} (h:gl P m t=some a) (b:fw P t=some false):a.length=1:=by
 cases m<;>grind[gl,yW,fw]
theorem BF (d:Nat):∀(m:Nat) (t:TypeId) (I:List Nat),gl P m t=some I->∀(xs h:List Value) (r:Bool),eD I xs=true->eD I h=true->gk xs h=some r->∀w:World,
  (Op.equalIn (d+m) t (lG P t xs) (lG P t h)).run P w= .ok r w
 |0,t,I,hk,_,_,_,_,_,_,_=>by grind[gl];|m+1,t,I,hk,xs,h,r,O,R,G,w=>by
  rw[show d+(m+1)=(d+m)+1 from rfl];rcases yW hk with⟨s,U,rfl⟩|⟨k,s,U,rfl⟩|⟨s,U,rfl⟩|⟨fs,s,a1,x,U⟩|⟨k,e,c,s,x,rfl,U⟩;·match xs,h,O,R with
   |[.bool a],[.bool b],_,_=>
    simp[gk,seq1] at G;subst G;simp[lG,fw,s,Op.equalIn,run_underlying s]
  ·match xs,h,O,R with
   |[.int k1 a],[.int k2 b],_,_=>
    simp only[gk,seq1] at G;by_cases he:k1=k2
    ·subst he;simp at G;subst G;simp[lG,fw,s,Op.equalIn,run_underlying s]
    simp_all
  ·match xs,h,O,R with
   |[.string a],[.string b],_,_=>
    simp[gk,seq1] at G;subst G;simp[lG,fw,s,Op.equalIn,run_underlying s,beq_toListBytes]
  ·have D:fw P t=some true:=by grind[fw]
   simp only[lG,D];have X:P.fieldsOf t=fs:=by grind[Program.fieldsOf]
   rw[run_equalIn_struct w (d+m) t xs.toArray h.toArray (by simp_all) a1,X];have K:=mO O;have M:=mO R;have L:∀(N:List Field) (g:Nat) (o:List Nat),qU (gl P m) g N=some o->g+o.length=I.length->∀r,eD o (xs.drop g)=true->eD o (h.drop g)=true->
     gk (xs.drop g) (h.drop g)=some r->(Op.eqFields (d+m) xs.toArray h.toArray N).run P w= .ok r w:=by
    intro N;induction N with
    |nil=>
     intro g o p hl r C A J;simp only[qU,γ] at p;subst p;have e1:=mO C;have e2:=mO A;have g1:xs.drop g=[]:=Φ (by omega);have g2:h.drop g=[]:=Φ (by omega);simp_all[gk,Op.eqFields];|cons f N ih=>
     intro g o p hl r C A J;simp only[qU] at p;split at p;·cases p
     ·rename_i a4;split at p
      ·rename_i V z;split at p
       ·rename_i r2 Y;injection p with p;subst p;obtain⟨y,u⟩:=wO z;obtain⟨F,l⟩:=rR C;obtain⟨H,n⟩:=rR A;obtain⟨a,b,h4,B,h6⟩:=FI V.length J;rw[δi] at l n B;rw[δi] at B;have v:f.name≠ "_" ∧f.offset=g:=by
         simp_all
        rw[γg] at hl;have T:=wP y u (λE=>uQ z E) xs.toArray f.offset (by grind) w;have S:=wP y u (λE=>uQ z E) h.toArray f.offset (by grind) w;rw[v.2] at T S;have W:=BF d m f.type V z _ _ a F H h4 w;have p4:=ih (g+V.length) r2 Y (by omega) b l n B;simp only[Op.eqFields,v.1,ne_eq,not_false_eq_true,if_true,v.2,Sem.run_bind,T,S,Result.andThen_ok,W];cases a<;>simp_all
       ·cases p
      ·cases p
   grind
  ·obtain⟨y,u⟩:=wO x;obtain⟨i,hi⟩:∃i,P.info? e=some i:=by
    cases hi:P.info? e<;>grind[sizeT]
   have a0:P.cellsOf e=c.length:=by
    grind[sizeT,Program.cellsOf]
   have D:fw P t=some true:=by grind[fw]
   simp only[lG,D];rw[run_equalIn_array w (d+m) xs.toArray h.toArray s hi,a0];have K:=mO O;have M:=mO R;have Z:((δ k c).flatten).length=k*c.length:=by simp
   rw[Z] at K M;have L:∀(q j:Nat),j+q=k->∀r,eD ((δ q c).flatten) (xs.drop (j*c.length))=true->eD ((δ q c).flatten) (h.drop (j*c.length))=true->
     gk (xs.drop (j*c.length)) (h.drop (j*c.length))=some r->(Op.eqItems (d+m) e c.length xs.toArray h.toArray (ζh j q)).run P w= .ok r w:=by
    intro q;induction q with
    |zero=>
     intro j hj r C A J;have e1:=mO C;have e2:=mO A;simp only[List.replicate_zero,List.flatten_nil,List.length_nil] at e1 e2;have g1:xs.drop (j*c.length)=[]:=Φ e1;have g2:h.drop (j*c.length)=[]:=Φ e2;rw[g1,g2] at J;simp_all[gk,Op.eqItems];|succ q ih=>
     intro j hj r C A J;rw[δl,ε7] at C A;obtain⟨F,l⟩:=rR C;obtain⟨H,n⟩:=rR A;obtain⟨a,b,h4,B,h6⟩:=FI c.length J;rw[δi] at l n B;rw[δi] at B;have Q:j*c.length+c.length=(j+1)*c.length:=by grind
     rw[Q] at l n B;have a3:j*c.length+c.length<=k*c.length:=by rw[Q];exact γG _ (by omega)
     have T:=wP y u (λE=>uQ x E) xs.toArray (j*c.length) (by simp;omega) w;have S:=wP y u (λE=>uQ x E) h.toArray (j*c.length) (by simp;omega) w;have W:=BF d m e c x _ _ a F H h4 w;have p4:=ih (j+1) (by omega) b l n B;rw[εp];simp only[Op.eqItems,Sem.run_bind,T,S,Result.andThen_ok,W];cases a<;>simp_all
   have:=L k 0 (by omega) r (by simp_all) (by simp_all) (by simp_all);rw[List.range_eq_range'];exact this
end
section
variable {P:Program} {A:dQ} {w w':World} {σ σ':bY} {o o':Store} {bT:Operand->AV} {bP:Operand->Value} {oper:Oper} {v:AV}
theorem FK:∀(m:Nat) (t:TypeId) (j:List Nat),gl P m t=some j->∀D,m<=D->P.eqGuardType D t=false
 |0,_,_,h,_,_=>by grind[gl];|m+1,t,j,h,0,s=>by omega;|m+1,t,j,h,D+1,s=>by
  rcases yW h with⟨c,d,rfl⟩|⟨k,c,d,rfl⟩|⟨c,d,rfl⟩|⟨v,c,r,a,d⟩|⟨k,e,i,c,a,rfl,d⟩;·grind[Program.eqGuardType]
  ·grind[Program.eqGuardType]
  ·grind[Program.eqGuardType]
  ·simp only[Program.eqGuardType,c];rw[<-Bool.not_eq_true,Array.any_eq_true'];rintro⟨f,u,q⟩;have n:∀(g:List Field) (l:Nat) (o:List Nat),qU (gl P m) l g=some o->∀f∈g,∃b,gl P m f.type=some b:=by
    intro g;induction g<;>grind[qU]
   obtain⟨b,p⟩:=n _ _ _ a f (by simp_all);rw[FK m f.type b p D (by omega)] at q;simp at q
  ·simp only[Program.eqGuardType,c];exact FK m e i a D (by omega)
theorem BG:∀{cs:List AV} {vs a:List Value},rM cs=some vs->bF A w σ o cs a->a=vs
 |[],vs,a,h,b=>by grind[rM,bF];|c::cs,vs,a,h,b=>by
  cases c<;>simp only[rM,reduceCtorEq,ε] at h;obtain⟨r,d,rfl⟩:=h;simp only[bF] at b;obtain⟨u,f,rfl,g,e⟩:=b;rw[gX g,BG d e]
theorem WN (R:bV A w σ o) (g:∀x,bw A w σ o (bT x) (bP x)) {m:BinOp} {d:Bool} {t J:TypeId} {h:List Nat} {x y:Operand} (n:oper.op= .binOp m t x y J) (O:(m= .eql/\d=false)\/(m= .neq/\d=true))
  (p:fw P t=some true) (v:gl P 20 t=some h) (K:20<=P.depth) {a b:List AV} {r:Bool} (H:bT x= .agg a) (C:bT y= .agg b) (f:wy h a b=some r):
  Gives A P bP oper w σ o (.sc (.bool (if d then !r else r))) o:=by
 have i:=g x;have k:=g y;rw[H] at i;rw[C] at k;simp only[bw] at i k;obtain⟨I,M,j⟩:=i;obtain⟨Q,G,q⟩:=k;unfold wy at f;split at f
 ·rename_i z B l s;split at f
  ·rename_i e;simp only[ζ] at e;have L:=BG l j;have F:=BG s q;have c:=BF (P:=P) 9980 20 t h v z B r e.1 e.2 f w;simp only[lG,p] at c;have D:z.toArray=I:=by rw[<-L]
   have N:B.toArray=Q:=by rw[<-F]
   rw[D,N] at c;refine Gives.same R (u:=.bool (if d then !r else r)) ?_ (by simp[bw,Value.oneCell']);have E:=FK 20 t h v P.depth K;simp only[execOp,n,M,G];rcases O with⟨rfl,rfl⟩|⟨rfl,rfl⟩<;>simp[eqGuard,E,binOp,Op.equal,Op.maxDepth,c]
  ·cases f
 ·cases f
theorem BH (x:Bool) (d:Nat):∀(m:Nat) (t:TypeId) (z:List Nat),gl P m t=some z->∀(xs:List Value),eD z xs=true->∀w:World,(Instr.checkKey x (d+m) t (lG P t xs)).run P w= .ok () w
 |0,t,z,J,_,_,_=>by grind[gl];|m+1,t,z,J,xs,K,w=>by
  rw[show d+(m+1)=(d+m)+1 from rfl];rcases yW J with⟨u,D,rfl⟩|⟨k,u,D,rfl⟩|⟨u,D,rfl⟩|⟨V,u,S,h,D⟩|⟨k,e,a,u,h,rfl,D⟩;·simp_all[Instr.checkKey,run_underlying]
  ·simp_all[Instr.checkKey,run_underlying]
  ·simp_all[Instr.checkKey,run_underlying]
  ·have p:fw P t=some true:=by grind[fw]
   simp only[lG,p,Instr.checkKey,Sem.run_bind,run_underlying u,Result.andThen_ok];have A:=mO K;have I:∀(v:List Field) (b:Nat) (l:List Nat),qU (gl P m) b v=some l->b+l.length=z.length->eD l (xs.drop b)=true->
     (forIn v ε8 λ(f:Field) (_:PUnit)=>(do
      if f.name≠ "_" then
       Instr.checkKey x (d+m) f.type (<-part f.type xs.toArray f.offset)
      pure (ζR ε8):Sem (ForInStep PUnit))).run P w= .ok ε8 w:=by
    intro v;induction v with
    |nil=>simp_all;|cons f v H=>
     intro b l g Q C;simp only[qU] at g;split at g;·cases g
     ·rename_i U;split at g
      ·rename_i L r;split at g
       ·rename_i N F;injection g with g;subst g;obtain⟨s,o⟩:=wO r;obtain⟨n,c⟩:=rR C;rw[δi] at c;have y:f.name≠ "_" ∧f.offset=b:=by
         simp_all
        rw[γg] at Q;have M:=wP s o (λG=>uQ r G) xs.toArray f.offset (by grind) w;rw[y.2] at M;have R:=BH x d m f.type L r _ n w;have O:=H (b+L.length) N F (by omega) c;simp_all
       ·cases g
      ·cases g
   grind[Result.andThen_ok,Sem.run_pure]
  ·obtain⟨s,o⟩:=wO h;have p:fw P t=some true:=by grind[fw]
   simp only[lG,p,Instr.checkKey,Sem.run_bind,run_underlying u,Result.andThen_ok];simp only[ζy,ζU,Nat.sub_zero,Nat.add_one_sub_one,Nat.div_one];have A:=mO K;have E:((δ k a).flatten).length=k*a.length:=by simp
   rw[E] at A;have I:∀(q j:Nat),j+q=k->eD ((δ q a).flatten) (xs.drop (j*a.length))=true->
     (forIn (ζh j q) ε8 λ(i:Nat) (_:PUnit)=>(do
      Instr.checkKey x (d+m) e (<-part e xs.toArray (i*(<-sizeOf e)));pure (ζR ε8):Sem (ForInStep PUnit))).run P w= .ok ε8 w:=by
    intro q;induction q with
    |zero=>simp_all;|succ q H=>
     intro j W C;rw[δl,ε7] at C;obtain⟨n,c⟩:=rR C;rw[δi] at c;have B:j*a.length+a.length=(j+1)*a.length:=by grind
     rw[B] at c;have T:j*a.length+a.length<=k*a.length:=by rw[B];exact γG _ (by omega)
     have M:=wP s o (λG=>uQ h G) xs.toArray (j*a.length) (by simp;omega) w;have R:=BH x d m e a h _ n w;have O:=H (j+1) (by omega) c;rw[εp];simp_all[qf]
   simp_all
theorem WO {a b:ByteArray} (h:a.toList=b.toList):a=b:=by
 have c:(a==b)=true:=by grind[beq_toListBytes]
 obtain⟨x⟩:=a;obtain⟨y⟩:=b;have d:(x==y)=true:=c;simp_all
theorem M5 {a b:Value} (h:seq1 a b=some true):a=b/\(∀n,Instr.sameBits n b a=true):=by
 unfold seq1 at h;grind[Instr.sameBits,WO,beq_toListBytes]
theorem M7:∀{xs c:List Value},gk xs c=some true->xs=c/\∀n,(c.zip xs).all (λp=>Instr.sameBits n p.1 p.2)=true
 |[],[],_=>⟨rfl,λ_=>rfl⟩
 |[],_::_,h=>by grind[gk];|_::_,[],h=>by grind[gk];|x::xs,y::c,h=>by
  simp only[gk] at h;split at h
  ·rename_i a b d e;simp only[γ,ζ] at h;obtain⟨rfl,rfl⟩:=h;obtain⟨f,g⟩:=M5 d;obtain⟨j,i⟩:=M7 e;simp_all
  ·cases h
theorem WQ {a b:Value} (h:keq a b=some true):a=b/\∀n,Instr.sameBits (n+1) b a=true:=by
 unfold keq at h;split at h
 ·rename_i x y;obtain⟨c,d⟩:=M7 h;simp_all[Instr.sameBits]
 all_goals grind[M5]
def wQ (P:Program) (t:TypeId) (ks:List Nat) (k:Value):Prop:=∃l,eD ks l=true/\k=lG P t l
theorem wH.fits {t:TypeId} {b:List Nat} {a:Bool} {k:Value} (d:fw P t=some a) (h:wH (b,a) k):wQ P t b k:=by
 obtain⟨l,c,e⟩:=h;refine⟨l,c,?_⟩;cases a;all_goals simp_all[lG]
theorem M8 {f:List Nat} {e:Bool} {a:AV} {u k:Value} (h:bw A w σ o a u) (b:lh f e a=some k):u=k/\wH (f,e) k:=by
 cases a<;>simp only[lh,reduceCtorEq] at b
 ·rename_i v;split at b
  ·rename_i c;simp only[ζ,γ5] at c;injection b with b;subst b;exact⟨gX h,[v],c.2,by simp[c.1]⟩
  ·cases b
 ·rename_i j;split at b
  ·rename_i g d;split at b
   ·rename_i c;simp only[ζ] at c;injection b with b;subst b;simp only[bw] at h;obtain⟨l,rfl,i⟩:=h;have:=BG d i;exact⟨by rw[<-this],g,c.2,by simp[c.1]⟩
   ·cases b
  ·cases b
theorem WR {t:TypeId} {c:List Nat} (e:gl P 20 t=some c) {a b:Value} (o:wQ P t c a) (s:wQ P t c b) {r:Bool} (h:keq a b=some r) (w:World):(Op.equal t a b).run P w= .ok r w:=by
 obtain⟨g,m,rfl⟩:=o;obtain⟨f,k,rfl⟩:=s;have n:gk g f=some r:=by
  unfold lG at h;obtain⟨_,u,d⟩:=wO e;cases u with
  |true=>grind[keq];|false=>
   have l:=uQ e d;have j:=mO m;have i:=mO k;rw[l] at j i;match g,f,j,i with
   |[x],[y],_,_=>
    simp only[d,List.headD_cons] at h;have p:seq1 x y=some r:=by
     match c,l with
     |[q],_=>cases x<;>cases y<;>simp_all [eD,keq]<;>(match q with|0|1|2|_+3=>simp_all [eD])
    simp[gk,p]
 exact BF 9980 20 t c e g f r m k n w
theorem WS {d:TypeDesc} {a b:Value} {r:Bool} (h:keq a b=some r):
  Instr.sameNow d a b=some r\/Instr.sameNow d a b=none:=by
 cases c:Instr.sameNow d a b with
 |none=>simp_all;|some e=>
  left;unfold Instr.sameNow at c;grind[keq,seq1,beq_toListBytes]
theorem M9 {t:TypeId} {p:List Nat} (G:gl P 20 t=some p) {k:Value} (v:wQ P t p k) (w:World) (es:List (Value×AV)) (en:List MapEntry) (l:en.length=es.length)
  (C:∀(j:Nat) (e:Value×AV),es[j]?=some e->∃m,en[j]?=some m/\m.key=e.1/\wQ P t p m.key) {r:Option (Nat×AV)} (J:nE k es 0=some r):
  match r with
  |none=>(Instr.findKey t k en).run P w= .ok none w
  |some (i,a)=>∃e m,es[i]?=some e/\e.2=a/\en[i]?=some m/\keq k e.1=some true/\(Instr.findKey t k en).run P w= .ok (some (i,m.val)) w:=by
 obtain⟨d,H⟩:∃d,P.underlying t=some d:=by
  have:=(wO G).2;grind[fw]
 have y:∀(es:List (Value×AV)) (en:List MapEntry) (i:Nat),en.length=es.length->(∀(j:Nat) (e:Value×AV),es[j]?=some e->∃m,en[j]?=some m/\m.key=e.1/\wQ P t p m.key)->∀r,nE k es i=some r->
   (match r with
    |none=>(Instr.findAsking t k en i).run P w= .ok none w/\(∀q,Instr.findNow d k en i=some q->q=none)
    |some (n,a)=>∃e m,i<=n/\es[n - i]?=some e/\e.2=a/\en[n - i]?=some m/\keq k e.1=some true/\(Instr.findAsking t k en i).run P w= .ok (some (n,m.val)) w/\(∀q,Instr.findNow d k en i=some q->q=some (n,m.val))):=by
  intro es;induction es with
  |nil=>
   intro en i A _ r f;have:en=[]:=Φ (by omega);subst this;simp only[nE,γ] at f;subst f;simp_all[Instr.findAsking,Instr.findNow];|cons e es L=>
   intro en i A F r f;match en,A with
   |m::en,A=>
    obtain⟨E,h,N,z⟩:=F 0 e (by simp);simp at h;subst h;simp only[nE] at f;cases c:keq k e.1 with
    |none=>simp[c] at f;|some b=>
     have g:=WR G v z (r:=b) (by grind) w;have O:=WS (d:=d) (a:=k) (b:=m.key) (r:=b) (by grind);cases b with
     |true=>
      simp only[c,γ] at f;subst f;refine⟨e,m,φ _,by simp,rfl,by simp,c,?_,?_⟩;·simp[Instr.findAsking,g]
      grind[Instr.findNow];|false=>
      simp only[c] at f;have:=L en (i+1) (by grind) (λj u Q=>by simpa using F (j+1) u (by grind)) r f;have R:(Instr.findAsking t k (m::en) i).run P w=(Instr.findAsking t k en (i+1)).run P w:=by
       simp[Instr.findAsking,g]
      have K:∀q,Instr.findNow d k (m::en) i=some q->Instr.findNow d k en (i+1)=some q:=by
       grind[Instr.findNow]
      match r,this with
      |none,⟨s,o⟩=>grind;|some (n,a),⟨u,E,s,o,B,M,x,I,D⟩=>
       refine⟨u,E,by omega,?_,B,?_,x,by grind,λq c=>D q (K q c)⟩;·grind
       grind
 have:=y es en 0 l C r J;match r,this with
 |none,⟨s,o⟩=>
  simp only[Instr.findKey,Sem.run_bind,run_underlying H,Result.andThen_ok];cases c:Instr.findNow d k en 0 with
  |none=>omega;|some q=>simp[o q c]
 |some (n,a),⟨e,m,s,o,B,M,x,I,D⟩=>
  refine⟨e,m,by omega,B,by omega,x,?_⟩;simp only[Instr.findKey,Sem.run_bind,run_underlying H,Result.andThen_ok];cases c:Instr.findNow d k en 0 with
  |none=>omega;|some q=>simp[D q c]
theorem WT (k:bV A w σ o) {t:TypeId} {d:List Nat×Bool} {pu:Bool} {bE:Nat} (a:oper.op= .makeMap t none) (j:o[bE]?=some .dead):Gives A P bP oper w σ o (.mp bE) (o.set bE (.map [] d pu)):=by
 have f:bE<o.length:=(θ.1 j).1;have e:bE<σ.length:=by rw[k.len];exact f
 obtain⟨g,i⟩:=bV.upd (w':=w.alloc (.map #[] 0)) (x:=.dead) (x':=.map [] d pu) (s':=some (w.heap.size,1)) k j (by simp) rfl rfl rfl (λb l _=>heap_alloc_old w _ b l)
  (λb c h=> .inr (by
   simp only[γ,μ] at h;obtain⟨rfl,_⟩:=h;exact⟨φ _,by simp⟩)) trivial (λi=>by
   grind[dD,heap_alloc_new]);refine⟨.map (some w.heap.size),_,_,.inl ?_,g,?_,i⟩;·simp[execOp,a,Instr.makeMap,newObj,Sem.run]
 ·simp only[bw];exact⟨⟨[],d,pu,by simp_all⟩,w.heap.size,1,by simp_all,rfl⟩
theorem Na (g:bV A w σ o) {id:Nat} {es:List (Value×AV)} {f:List Nat×Bool} {pu:Bool} (i:o[id]?=some (.map es f pu)) {u:Value} (h:bw A w σ o (.mp id) u):
  ∃(b c:Nat) (a:Array MapEntry) (d:Nat),σ[id]?=some (some (b,c))/\u= .map (some b)/\w.heap[b]?=some (.map a d)/\a.size=es.length/\(pu=true->∀e∈es,e.2.pure=true)/\(∀e∈es,wH f e.1)/\
   ∀(j:Nat) (e:Value×AV),es[j]?=some e->∃m,a[j]?=some m/\m.key=e.1/\bw A w σ o e.2 m.val:=by
 simp only[bw] at h;obtain⟨_,b,c,k,rfl⟩:=h;have l:=g.obj id _ i;grind[dD]
theorem Nb {t:TypeId} {z:List Value} {g:Bool} {a:AV} (k:lD P t=some z) (c:yT P t g=true) (e:qO z g=some a):∃u,(∀w:World,(zeroValue t).run P w= .ok u w)/\bw A w σ o a u:=by
 obtain⟨i,j,l,h,b,f,d⟩:=uO k;refine⟨j,λw=>by simp_all[zeroValue,typeInfo],?_⟩;simp only[yT,l,h,δN] at c;unfold qO at e;cases j with
 |agg m=>
  simp only at c;subst c;simp only[if_true,γ] at e;grind[bw,Value.cells,wK];|_=>
  simp only[γ5] at c;subst c;simp only[Value.cells] at b;subst b;simp only[χ,if_false,γ] at e;subst e;exact by simp[bw,d]
theorem WU {t:TypeId} {z:List Value} {g:Bool} (j:lD P t=some z) (c:yT P t g=true):∃a,qO z g=some a:=by
 obtain⟨i,h,k,e,b,d,f⟩:=uO j;simp only[yT,k,e,δN] at c;unfold qO;cases h with
 |agg l=>simp_all;|_=>
  simp only[γ5] at c;subst c;simp only[Value.cells] at b;subst b;exact⟨_,rfl⟩
theorem Nc (V:bV A w σ o) (q:∀x,bw A w σ o (bT x) (bP x)) {t E T:TypeId} {D:List Nat} {I g ok:Bool} {z:List Value} {x k:Operand} (Y:oper.op= .lookup t x k ok) (ht:P.underlying t=some (.map E T))
  (S:gl P 20 E=some D) (B:fw P E=some I) (hz:∃a u,qO z g=some a/\(∀w:World,(zeroValue T).run P w= .ok u w)/\bw A w σ o a u)
  {id:Nat} (hx:bT x= .mp id) {X:Value} (H:lh D I (bT k)=some X) {es:List (Value×AV)} {pu:Bool} (ho:o[id]?=some (.map es (D,I) pu))
  {r:Option (Nat×AV)} (hf:nE X es 0=some r) {M:AV} (f:qO z g=some M):
  Gives A P bP oper w σ o (if ok then .bJ [(r.map (·.2)).getD M,.sc (.bool r.isSome)] else(r.map (·.2)).getD M) o:=by
 have O:=q x;rw[hx] at O;obtain⟨b,c,K,cl,a3,hu,Z,R,_,G,n⟩:=Na V ho O;obtain⟨a1,L⟩:=M8 (q k) H;obtain⟨a0,z0,N,a2,F⟩:=hz;rw[N] at f;injection f with f;subst f;have d:=L.fits B;have h:=M9 S d w es K.toList (by omega) (λj e W=>by
  obtain⟨m,hm,y,_⟩:=n j e W;exact⟨m,by simp_all,y,by rw[y];exact(G e (γt W)).fits B⟩) hf;obtain⟨lk,C,s⟩:=d;have J:=BH (P:=P) K.isEmpty 9980 20 E D S lk C w;rw[<-s] at J;have Q:(getObj b).run P w= .ok (.map K cl) w:=by simp[getObj,Sem.run,Z]
 have v:∃u,bw A w σ o ((r.map (·.2)).getD a0) u/\(execOp bP oper).run P w= .ok (.value (if ok then .tuple #[u,.bool r.isSome] else u)) w:=by
  cases r with
  |none=>
   refine⟨z0,F,?_⟩;simp_all[execOp,Instr.lookup,run_underlying];|some p=>
   obtain⟨i,a⟩:=p;obtain⟨e,m,q1,q2,q3,q4,q5⟩:=h;obtain⟨U,a4,_,hr⟩:=n i e q1;have:U=m:=by
    simp_all
   subst this;refine⟨U.val,by simp_all,?_⟩;simp_all[execOp,Instr.lookup,run_underlying]
 obtain⟨u,hr,l⟩:=v;refine Gives.same V l ?_;cases ok;all_goals simp_all[bw,bF,Value.oneCell']
theorem WV {k:Value} (h:∀n,Instr.sameBits (n+1) k k=true) (w:World):(Instr.keyThatStays k k).run P w= .ok k w:=by
 simp_all[Instr.keyThatStays]
theorem BI (hS:bV A w σ o) (I:∀x,bw A w σ o (bT x) (bP x)) {t U et:TypeId} {D:List Nat} {F:Bool} {x k y:Operand} (d:oper.op= .mapUpdate t x k y\/oper.op= .insert t x k y) (ht:P.underlying t=some (.map U et))
  (hk:gl P 20 U=some D) (N:fw P U=some F)
  {id:Nat} (hx:bT x= .mp id) {h:Value} (a2:lh D F (bT k)=some h) {es:List (Value×AV)} {pu:Bool} (ho:o[id]?=some (.map es (D,F) pu)) (a6:pu=true->(bT y).pure=true)
  {r:Option (Nat×AV)} (hf:nE h es 0=some r):
  Gives A P bP oper w σ o .ud (o.set id (.map (match r with|some (i,_)=>es.modify i λ_=>(h,bT y)|none=>es++[(h,bT y)]) (D,F) pu)):=by
 have h1:=I x;rw[hx] at h1;obtain⟨b,c,R,T,J,hu,hh,B,a4,W,a0⟩:=Na hS ho h1;obtain⟨Q,Y⟩:=M8 (I k) a2;have u:=Y.fits N;have s:=M9 hk u w es R.toList (by omega) (λj e l=>by
  obtain⟨m,hm,G,_⟩:=a0 j e l;exact⟨m,by simpa using hm,G,by rw[G];exact(W e (γt l)).fits N⟩) hf;obtain⟨lk,K,O⟩:=u;have E:=BH (P:=P) false 9980 20 U D hk lk K w;rw[<-O] at E;have C:(getObj b).run P w= .ok (.map R T) w:=by simp[getObj,Sem.run,hh]
 have z:∀X:Obj,(setObj b X).run P w= .ok () {w with heap:=w.heap.setIfInBounds b X}:=by
  grind[setObj,Sem.run]
 have S:b<w.heap.size:=hS.bnd id b c J;have a5:id<o.length:=(θ.1 ho).1;have a3:id<σ.length:=by grind
 have v:σ.set id (some (b,c))=σ:=by
  apply δc;grind
 have L:∀(f:Array MapEntry) (n:Nat) (g:List (Value×AV)),(execOp bP oper).run P w= .ok .skip {w with heap:=w.heap.setIfInBounds b (.map f n)}->f.size=g.length->
   (pu=true->∀e∈g,e.2.pure=true)->(∀e∈g,wH (D,F) e.1)->(∀(j:Nat) (e:Value×AV),g[j]?=some e->∃m,f[j]?=some m/\m.key=e.1/\bw A w σ o e.2 m.val)->
   Gives A P bP oper w σ o .ud (o.set id (.map g (D,F) pu)):=by
  intro f n g H f1 f2 f3 f4;have a1:({w with heap:=w.heap.setIfInBounds b (.map f n)}:World).heap[b]?=some (.map f n):=by simp[S]
  obtain⟨M,V⟩:=bV.upd (w':={w with heap:=w.heap.setIfInBounds b (.map f n)}) (x':=.map g (D,F) pu) (s':=some (b,c)) hS ho (by simp) rfl rfl rfl
   (λq _ hq=>by
    simp_all)
   (λb2 c2 h2=> .inl ⟨c,by simp_all⟩) ⟨⟨_,_,_,rfl⟩,J⟩ (λV=>by
    simp only[dD];refine⟨f2,f3,b,c,f,n,by simp_all,a1,f1,λj e l=>?_⟩;obtain⟨m,q1,q2,q3⟩:=f4 j e l;exact⟨m,q1,q2,q3.ext V⟩);rw[v] at M V;exact⟨undef,_,σ,.inr ⟨H,rfl⟩,M,by simp[bw],V⟩
 cases r with
 |none=>
  refine L (R.push {key:=h,val:=bP y,born:=T}) (T+1) (es++[(h,bT y)]) ?_ (by simp[B]) ?_ ?_ ?_;·rcases d with d|d<;>simp only[execOp,d,Instr.mapUpdate,hu,Q]<;>simp[run_underlying ht,C,E,s,z]
  ·grind
  ·grind
  ·intro j e l;rw[εl] at l;split at l;·grind
   ·rename_i hj;have:j=es.length:=by
     grind
    subst this;simp at l;subst l;exact⟨{key:=h,val:=bP y,born:=T},by grind,rfl,I y⟩;|some p=>
  obtain⟨i,a⟩:=p;obtain⟨e,m,q1,q2,q3,q4,q5⟩:=s;obtain⟨q6,q7⟩:=WQ q4;have G:m.key=h:=by
   grind
  rw[δy] at q3;refine L (R.modify i λe=>{e with key:=h,val:=bP y}) T (es.modify i λ_=>(h,bT y)) ?_ (by simp[B]) ?_ ?_ ?_
  ·have Z:(Instr.keyThatStays (((R[i]?).map (·.key)).getD h) h).run P w= .ok h w:=by
    grind[WV]
   rcases d with d|d<;>simp only[execOp,d,Instr.mapUpdate,hu,Q]<;>simp[run_underlying ht,C,E,q5,Z,z]
  ·intro hp e' l;obtain⟨j,hj⟩:=γI l;grind
  ·intro e' l;obtain⟨j,hj⟩:=γI l;grind
  grind
end
end Go.Vi
