import Derived.Test.YtbnhiekmnpikhaaGreatDR00
import Derived.OwnWalk
import Derived.Maps.AppendAt
import Derived.Great.BuildSlice
import Derived.ChangeKeysEq
set_option maxRecDepth 100000
set_option maxHeartbeats 4000000
set_option linter.all false
open Array renaming getElem?_modify->εS,getElem?_toList->γX,getElem?_eq_some_iff->γA
open Bool renaming and_eq_true->θ,false_eq_true->φ,not_eq_true'->δi
open ForInStep renaming yield->ζ5
open Go.MapKept renaming Stamped->ζb
open Go.Vi renaming ee->ε3
open Go.Vi.AV renaming sc->δh
open List renaming map_cons->π,all_cons->ζv,mem_cons->γw,getElem?_eq_some_iff->ζ,getElem?_of_mem->γH,getElem?_append->εo,ext_getElem?->γ9,mem_map->Ω,getElem?_set_self->γL,getElem?_eq_getElem->μ,getElem?_take->δj,getElem?_drop->δA,replicate->δ,replicate_succ->δe,flatten_cons->ζm,mem_flatten->ζ1,mem_replicate->ζc,eq_nil_of_length_eq_zero->τ,cons_append->γI,drop_drop->δk,length_append->γh,range'->ζw,range'_succ->εu,mem_of_getElem?->γe,mem_append->γi,getElem?_modify->εZ
open Nat renaming le_refl->ξ,le_trans->δ1,lt_of_lt_of_le->γj,add_mul->δV,mul_le_mul_right->γN,zero_le->δ4
open Option renaming bind_some->δQ,map_some->ν,map_eq_some_iff->ε
open Option.some renaming injEq->γ
open PUnit renaming unit->ζn
open Prod.mk renaming injEq->ι
open Std.Legacy.Range renaming forIn_eq_forIn_range'->ζN,size->ζ9
namespace Go.Vi
abbrev TM:=List (Option (Nat×Nat))
def Own (σ:TM) (b:Nat):Prop:=∃(i c:Nat),σ[i]?=some (some (b,c))
def rr (o:a_) (id a:Nat):Prop:=∃b e d c,o[id]?=some (.cells b e d c)/\a<=b.length
def tB (o:a_) (id sz a:Nat):Prop:=∃b e c,o[id]?=some (.cells b e sz c)/\b.length=a
def IsMap (o:a_) (id:Nat):Prop:=∃c b a,o[id]?=some (.map c b a)
def j3 (σ:TM) (id e f d sz:Nat) (a:Option Addr) (cap:Nat):Prop:=
 match σ[id]? with
 |some none=>d=0/\a=none/\cap=0/\f=0
 |some (some (b,c))=>(0<f->a=some ⟨b,qG e d sz,none⟩)/\(e=0->f*sz=d->0<sz->a=some ⟨b,0,none⟩/\cap=c)/\((e<=d/\e+f*sz<=d)\/(d+sz<=e/\e - d - sz+f*sz<=d/\0<sz))
 |none=>False
theorem nV {a b sz:Nat} (h:a<=b):qG a b sz=a:=by
 simp_all[qG]
theorem By {a b sz:Nat} (h:b<a):qG a b sz=a - b - sz:=by
 simp_all[qG,if_neg]
structure dc where
 p:Nat->Prop
 l:Nat
instance:CoeFun dc (λ_=>Nat->Prop):=⟨dc.p⟩
class anO (A A':dc):Prop where
 eq:A'.l=A.l
instance (A:dc):anO A A:=⟨rfl⟩
instance (A:dc) (p:Nat->Prop):anO A ⟨p,A.l⟩:=⟨rfl⟩
def Cj (l:Nat):Fn->Fn
 | .yield _=> .yield l
 |f=>f
def Fr (A:dc) (σ:TM) (b:Nat):Prop:=¬Own σ b/\¬A b
section
variable (A:dc) (w:World) (σ:TM) (o:a_)
mutual
def nA:AV->Value->Prop
 | .ud,_=>True
 | .sc u,v=>v=u/\u.oneCell'=true
 | .agg cs,v=>∃vs,v= .agg vs/\Aq cs vs.toList
 | .Gz cs,v=>∃vs,v= .tuple vs/\Aq cs vs.toList
 | .sl n cs,v=>∃a cap,v= .slice a n cap/\n<=cap/\cK cs=true/\cH cs a 0
 | .ep cs bu,v=>∃a:Addr,v= .pointer (some (a.add bu))/\cK cs=true/\cH cs (some a) 0
 | .ptr id bu tot,v=>rr o id tot/\(∃a,v= .pointer (some a))/\∀sz,tB o id sz tot->∃b c,σ[id]?=some (some (b,c))/\v= .pointer (some ⟨b,bu,none⟩)
 | .os id bu len tot,v=>rr o id tot/\∃a cap,v= .slice a len cap/\len<=cap/\∀sz,tB o id sz tot->j3 σ id bu len tot sz a cap
 | .mp id,v=>IsMap o id/\∃b c,σ[id]?=some (some (b,c))/\v= .map (some b)
 | .fn f a b,v=>∃a' b',v= .func (Cj A.l f) a' b'/\Aq a a'.toList/\Aq b b'.toList
 | .ifc t cs,v=>∃vs,v= .iface t (.agg vs)/\cK cs=true/\Aq cs vs.toList
def Aq:List AV->List Value->Prop
 |[],vs=>vs=[]
 |c::cs,vs=>∃v r,vs=v::r/\nA c v/\Aq cs r
def cH:List AV->Option Addr->Nat->Prop
 |[],_,_=>True
 |c::cs,a,j=>(∃b v,a=some b/\Fr A σ b.block/\w.cell? (b.add j)=some v/\nA c v)/\cH cs a (j+1)
end
end
structure Ext (w:World) (σ:TM) (o:a_) (w':World) (σ':TM) (o':a_):Prop where
 size:w.heap.size<=w'.heap.size
 blk:∀b,b<w.heap.size->¬Own σ b->w'.heap[b]?=w.heap[b]?/\¬Own σ' b
 len:o.length<=o'.length
 cur:∀id tot,rr o id tot->rr o' id tot/\∀sz,tB o' id sz tot->tB o id sz tot/\σ'[id]?=σ[id]?
 isMap:∀id,IsMap o id->IsMap o' id/\σ'[id]?=σ[id]?
 os:w'.os=w.os
 tape:w'.tape=w.tape
 output:w'.output=w.output
theorem Ext.refl (w:World) (σ:TM) (o:a_):Ext w σ o w σ o:=
 ⟨ξ _,λ_ _ h=>⟨rfl,h⟩,ξ _,λ_ _ h=>⟨h,λ_ h=>⟨h,rfl⟩⟩,λ_ h=>⟨h,rfl⟩,rfl,rfl,rfl⟩
theorem Ext.trans {w n p:World} {σ a c:TM} {o l o2:a_} (h:Ext w σ o n a l) (k:Ext n a l p c o2):Ext w σ o p c o2 where
 size:=δ1 h.size k.size;blk:=λb q r=>by
  obtain⟨f,i⟩:=h.blk b q r;obtain⟨m,j⟩:=k.blk b (γj q h.size) i;simp_all
 len:=δ1 h.len k.len;cur:=λe d g=>by
  obtain⟨f,i⟩:=h.cur e d g;obtain⟨m,j⟩:=k.cur e d f;grind
 isMap:=λe g=>by
  obtain⟨f,i⟩:=h.isMap e g;obtain⟨m,j⟩:=k.isMap e f;simp_all
 os:=k.os.trans h.os;tape:=k.tape.trans h.tape;output:=k.output.trans h.output
section
variable {A:dc} {w w':World} {σ σ':TM} {o o':a_}
theorem Pf {a:Addr} {v:Value} (b:w.cell? a=some v):a.block<w.heap.size:=World.block_lt_of_cell? w a b
theorem cY (a:Addr) (n:Nat):(a.add n).block=a.block:=by grind[Addr.add]
theorem add_add (a:Addr) (i j:Nat):(a.add i).add j=a.add (i+j):=by
 grind[Addr.add]
mutual
theorem nA.ext (h:Ext w σ o w' σ' o'):∀(c:AV) (v:Value),nA A w σ o c v->nA A w' σ' o' c v
 | .ud,_,_=>by simp[nA];| .sc u,v,hr=>by simpa[nA] using hr;| .agg cs,v,hr=>by
  simp only[nA] at hr ⊢;obtain⟨vs,rfl,hl⟩:=hr;exact⟨vs,rfl,Aq.ext h cs _ hl⟩;| .Gz cs,v,hr=>by
  simp only[nA] at hr ⊢;obtain⟨vs,rfl,hl⟩:=hr;exact⟨vs,rfl,Aq.ext h cs _ hl⟩;| .sl n cs,v,hr=>by
  simp only[nA] at hr ⊢;obtain⟨a,cap,rfl,hn,hp,hm⟩:=hr;exact⟨a,cap,rfl,hn,hp,cH.ext h cs a 0 hm⟩;| .ep cs bu,v,hr=>by
  simp only[nA] at hr ⊢;obtain⟨a,rfl,hp,hm⟩:=hr;exact⟨a,rfl,hp,cH.ext h cs _ 0 hm⟩;| .ptr id bu tot,v,hr=>by
  simp only[nA] at hr ⊢;obtain⟨h0,h3⟩:=h.cur id tot hr.1;refine⟨h0,hr.2.1,λsz hc=>?_⟩;obtain⟨h1,h2⟩:=h3 sz hc;rw[h2];exact hr.2.2 sz h1;| .os id bu len tot,v,hr=>by
  simp only[nA] at hr ⊢;obtain⟨ha,a,cap,rfl,hl,hk⟩:=hr;obtain⟨h0,h3⟩:=h.cur id tot ha;refine⟨h0,a,cap,rfl,hl,λsz hc=>?_⟩;obtain⟨h1,h2⟩:=h3 sz hc;have:=hk sz h1;unfold j3 at this ⊢;rw[h2];exact this;| .mp id,v,hr=>by
  simp only[nA] at hr ⊢;obtain⟨h1,h2⟩:=h.isMap id hr.1;rw[h2];exact⟨h1,hr.2⟩;| .fn f a b,v,hr=>by
  simp only[nA] at hr ⊢;obtain⟨a',b',rfl,ha,hb⟩:=hr;exact⟨a',b',rfl,Aq.ext h a _ ha,Aq.ext h b _ hb⟩;| .ifc t cs,v,hr=>by
  simp only[nA] at hr ⊢;obtain⟨vs,rfl,hp,hl⟩:=hr;exact⟨vs,rfl,hp,Aq.ext h cs _ hl⟩
theorem Aq.ext (h:Ext w σ o w' σ' o'):∀(cs:List AV) (vs:List Value),Aq A w σ o cs vs->Aq A w' σ' o' cs vs
 |[],vs,hr=>by simpa[Aq] using hr;|c::cs,vs,hr=>by
  simp only[Aq] at hr ⊢;obtain⟨v,r,rfl,hc,hl⟩:=hr;exact⟨v,r,rfl,nA.ext h c v hc,Aq.ext h cs r hl⟩
theorem cH.ext (h:Ext w σ o w' σ' o'):∀(cs:List AV) (a:Option Addr) (j:Nat),cH A w σ o cs a j->cH A w' σ' o' cs a j
 |[],_,_,_=>by simp[cH];|c::cs,a,j,hr=>by
  simp only[cH] at hr ⊢;obtain⟨⟨b,v,rfl,hn,hc,hv⟩,hl⟩:=hr;have hlt:b.block<w.heap.size:=by have:=Pf hc;rwa [cY] at this
  obtain⟨h1,h2⟩:=h.blk b.block hlt hn.1;exact⟨⟨b,v,rfl,⟨h2,hn.2⟩,by rw[World.cell?_of_block (w:=w) (by rw[cY];exact h1)];exact hc,nA.ext h c v hv⟩,cH.ext h cs _ (j+1) hl⟩
end
theorem Aq.length:∀(cs:List AV) (vs:List Value),Aq A w σ o cs vs->cs.length=vs.length
 |[],vs,a=>by grind[Aq];|c::cs,vs,a=>by
  simp only[Aq] at a;obtain⟨v,r,rfl,_,b⟩:=a;simp[Aq.length cs r b]
theorem Aq.get:∀(cs:List AV) (vs:List Value),Aq A w σ o cs vs->∀(i:Nat) (c:AV),cs[i]?=some c->∃v,vs[i]?=some v/\nA A w σ o c v
 |[],_,_,i,c,h=>by simp at h;|c::cs,vs,b,i,d,a=>by
  simp only[Aq] at b;obtain⟨v,r,rfl,f,g⟩:=b;cases i with
  |zero=>simp at a;subst a;exact⟨v,by simp,f⟩;|succ i=>simp at a;obtain⟨u,e,b⟩:=Aq.get cs r g i d a;exact⟨u,by simpa using e,b⟩
theorem Aq.kg:∀(cs:List AV) (vs:List Value),cs.length=vs.length->(∀(i:Nat) (c:AV),cs[i]?=some c->∃v,vs[i]?=some v/\nA A w σ o c v)->Aq A w σ o cs vs
 |[],vs,a,_=>by grind[Aq];|c::cs,[],a,_=>by simp at a;|c::cs,v::vs,a,e=>by
  simp only[Aq];obtain⟨u,b,f⟩:=e 0 c (by simp);simp at b;subst b;exact⟨v,vs,rfl,f,Aq.kg cs vs (by simp_all) λi d g=>by simpa using e (i+1) d (by simp_all)⟩
theorem cH.get:∀(cs:List AV) (a:Option Addr) (j:Nat),cH A w σ o cs a j->∀(i:Nat) (c:AV),cs[i]?=some c->
  ∃b v,a=some b/\Fr A σ b.block/\w.cell? (b.add (j+i))=some v/\nA A w σ o c v
 |[],_,_,_,i,c,k=>by simp at k;|c::cs,a,j,f,i,d,e=>by
  simp only[cH] at f;obtain⟨g,h⟩:=f;cases i with
  |zero=>simp at e;subst e;simpa using g;|succ i=>
   simp at e;have:=cH.get cs a (j+1) h i d e;rwa [show j+1+i=j+(i+1) from by omega] at this
theorem cH.kg:∀(cs:List AV) (a:Option Addr) (j:Nat),(∀(i:Nat) (c:AV),cs[i]?=some c->
  ∃b v,a=some b/\Fr A σ b.block/\w.cell? (b.add (j+i))=some v/\nA A w σ o c v)->cH A w σ o cs a j
 |[],_,_,_=>by simp[cH];|c::cs,a,j,e=>by
  simp only[cH];refine⟨by simpa using e 0 c (by simp),cH.kg cs a (j+1) λi d f=>?_⟩;have:=e (i+1) d (by simpa using f);rwa [show j+1+i=j+(i+1) from by omega]
theorem Aq.append {cs a:List AV} {vs b:List Value} (h:Aq A w σ o cs vs) (k:Aq A w σ o a b):Aq A w σ o (cs++a) (vs++b):=by
 induction cs generalizing vs<;>grind[Aq]
theorem nA.qn {c:AV} {v:Value} (h:nA A w σ o c v):nA A w σ o c.qn v:=by
 unfold AV.qn;grind[nA,cK,cH]
theorem Aq.qn:∀{cs:List AV} {vs:List Value},Aq A w σ o cs vs->Aq A w σ o (cs.map .qn) vs
 |[],_,h=>h
 |c::cs,vs,h=>by
  simp only[Aq,π] at h ⊢;obtain⟨v,r,rfl,a,b⟩:=h;exact⟨v,r,rfl,a.qn,Aq.qn b⟩
theorem Aq.ee (pu:Bool) {cs:List AV} {vs:List Value} (h:Aq A w σ o cs vs):Aq A w σ o (ee pu cs) vs:=by
 unfold ε3;split;·exact h.qn
 ·exact h
theorem rq (pu:Bool) (cs:List AV):(ε3 pu cs).length=cs.length:=by
 grind[ε3]
theorem aN2 {c:AV} (h:c.pure=true):c.qn.pure=true:=by
 unfold AV.qn;grind[AV.pure,cK]
theorem aN3 {c:AV} (h:c.one=true):c.qn.one=true:=by
 unfold AV.qn;grind[AV.one]
theorem Pe:∀{cs:List AV},cK cs=true->cK (cs.map .qn)=true
 |[],h=>h
 |c::cs,h=>by
  simp only[cK,π,θ] at h ⊢;exact⟨aN2 h.1,Pe h.2⟩
theorem Bx {pu:Bool} {cs:List AV} (h:cK cs=true):cK (ε3 pu cs)=true:=by
 grind[ε3,Pe]
theorem aN4:∀{cs:List AV},dP cs=true->dP (cs.map .qn)=true
 |[],h=>h
 |c::cs,h=>by
  grind[dP,aN3]
theorem Hc {pu:Bool} {cs:List AV} (h:dP cs=true):dP (ε3 pu cs)=true:=by
 grind[ε3,aN4]
theorem Hb {pu:Bool} {cs:List AV} {vs:List Value} (h:Aq A w σ o cs vs) {j:Nat} {c:AV} (a:(ε3 pu cs)[j]?=some c):∃v,vs[j]?=some v/\nA A w σ o c v:=
 Aq.get _ _ (h.ee pu) j c a
theorem nA.one {c:AV} {v:Value} (h:nA A w σ o c v) (e:c.one=true):v.oneCell'=true:=by
 cases c<;>simp only[nA] at h<;>simp only[AV.one,φ] at e;·simp_all
 ·obtain⟨a,d,rfl,_⟩:=h;rfl
 ·obtain⟨a,rfl,_⟩:=h;rfl
 ·obtain⟨_,⟨a,rfl⟩,_⟩:=h;rfl
 ·obtain⟨_,a,d,rfl,_⟩:=h;rfl
 ·obtain⟨_,b,c,_,rfl⟩:=h;rfl
 ·obtain⟨a,b,rfl,_⟩:=h;rfl
 ·obtain⟨vs,rfl,_⟩:=h;rfl
theorem nA.cells {c:AV} {v:Value} (h:nA A w σ o c v) (a:dP c.cellsOf=true):Aq A w σ o c.cellsOf v.cells.toList/\∀u∈v.cells.toList,u.oneCell'=true:=by
 have f:∀(b:List AV) (e:List Value),Aq A w σ o b e->dP b=true->∀u∈e,u.oneCell'=true:=by
  intro b;induction b with
  |nil=>grind[Aq];|cons c b k=>
   intro e i a u g;simp only[Aq] at i;obtain⟨v,r,rfl,j,d⟩:=i;simp only[dP,ζv,θ] at a;rcases γw.1 g with rfl|g;·exact j.one a.1
   ·exact k r d a.2 u g
 cases c with
 |agg b=>
  simp only[nA] at h;obtain⟨e,rfl,d⟩:=h;exact⟨d,f _ _ d a⟩;|_=>
  simp only[AV.cellsOf,dP,ζv,List.all_nil,Bool.and_true] at a;have l:=h.one a;have m:v.cells=#[v]:=by cases v<;>simp_all [Value.cells,Value.oneCell']
  simp only[AV.cellsOf,m,List.mem_singleton];exact⟨by simp only[Aq];exact⟨v,[],rfl,h,rfl⟩,by rintro u rfl;exact l⟩
def wg (a:List Nat×Bool) (k:Value):Prop:=∃l,dK a.1 l=true/\(if a.2 then k= .agg l.toArray else l=[k])
def cP (A:dc) (w:World) (σ:TM) (o:a_) (i:Nat):OL->Prop
 | .dead=>σ[i]?=some none
 | .cells cs e sz pu=>(pu=true->cK cs=true)/\dP cs=true/\
  ((σ[i]?=some none/\cs=[])\/∃b cap arr,σ[i]?=some (some (b,cap))/\cap<=maxLen/\w.heap[b]?=some (.cells arr e (0,0))/\arr.size=cap*sz/\cs.length<=arr.size/\
   ∀(j:Nat) (c:AV),cs[j]?=some c->∃v,arr[j]?=some v/\nA A w σ o c v)
 | .map es kt pu=>(pu=true->∀e∈es,e.2.pure=true)/\(∀e∈es,wg kt e.1)/\∃(b c:Nat) (entries:Array MapEntry) (clock:Nat),σ[i]?=some (some (b,c))/\w.heap[b]?=some (.map entries clock)/\(entries.size=es.length/\ζb entries clock)/\
   ∀(j:Nat) (e:Value×AV),es[j]?=some e->∃m,entries[j]?=some m/\m.key=e.1/\nA A w σ o e.2 m.val
structure OM (A:dc) (w:World) (σ:TM) (o:a_):Prop where
 len:σ.length=o.length
 dist:∀(i j b c d:Nat),σ[i]?=some (some (b,c))->σ[j]?=some (some (b,d))->i=j
 dZ:∀(i b c:Nat),σ[i]?=some (some (b,c))->b<w.heap.size
 obj:∀(i:Nat) (x:OL),o[i]?=some x->cP A w σ o i x
 av:∀(i b c:Nat),σ[i]?=some (some (b,c))->¬A b
 avb:∀b,A b->b<w.heap.size
theorem cP.ext (h:Ext w σ o w' σ' o') {i:Nat} {x:OL} (a:cP A w σ o i x) (f:σ'[i]?=σ[i]?)
  (I:∀b c,σ[i]?=some (some (b,c))->w'.heap[b]?=w.heap[b]?):cP A w' σ' o' i x:=by
 cases x with
 |dead=>grind[cP];|cells K e G E=>
  simp only[cP] at a ⊢;refine⟨a.1,a.2.1,?_⟩;rcases a.2.2 with t|⟨b,l,k,q,s,r,g,z,y⟩;·simp_all
  ·refine .inr ⟨b,l,k,by rw[f];exact q,s,by simp_all,g,z,λj c n=>?_⟩;obtain⟨v,C,d⟩:=y j c n;exact⟨v,C,d.ext h⟩;|map H J E=>
  simp only[cP] at a ⊢;obtain⟨t,p,b,c,B,D,q,s,r,g⟩:=a;refine⟨t,p,b,c,B,D,by simp_all,by simp_all,r,λj e n=>?_⟩;obtain⟨m,F,u,d⟩:=g j e n;exact⟨m,F,u,d.ext h⟩
theorem OM.iw (k:OM A w σ o) {id:Nat} {x x':OL} {s':Option (Nat×Nat)} (L:o[id]?=some x)
  (u:w.heap.size<=w'.heap.size) (R:w'.os=w.os) (D:w'.tape=w.tape) (K:w'.output=w.output)
  (B:∀b,b<w.heap.size->(∀c,σ[id]?≠some (some (b,c)))->w'.heap[b]?=w.heap[b]?)
  (g:∀b c,s'=some (b,c)->(∃d,σ[id]?=some (some (b,d)))\/(w.heap.size<=b/\b<w'.heap.size))
  (r:match x with
   | .dead=>True
   | .cells cs _ sz _=>∃p S l,x'= .cells p S sz l/\cs.length<=p.length/\(p.length=cs.length->σ[id]?=some s')
   | .map _ _ _=>(∃E C l,x'= .map E C l)/\σ[id]?=some s')
  (a0:Ext w σ o w' (σ.set id s') (o.set id x')->cP A w' (σ.set id s') (o.set id x') id x'):
  OM A w' (σ.set id s') (o.set id x')/\Ext w σ o w' (σ.set id s') (o.set id x'):=by
 have O:id<o.length:=(ζ.1 L).1;have Q:id<σ.length:=by rw[k.len];exact O
 have h:∀i,i≠id->(σ.set id s')[i]?=σ[i]?:=λi a=>by grind
 have J:∀i,i≠id->(o.set id x')[i]?=o[i]?:=λi a=>by grind
 have m:(σ.set id s')[id]?=some s':=by simp_all
 have q:(o.set id x')[id]?=some x':=by simp_all
 have v:Ext w σ o w' (σ.set id s') (o.set id x'):=by
  refine⟨u,λb F P=>⟨B b F λc I=>P ⟨id,c,I⟩,?_⟩,by simp,λi a3 H=>?_,λi H=>?_,R,D,K⟩
  ·rintro⟨i,c,a⟩;by_cases f:i=id
   ·subst f;rw[m] at a;injection a with a;subst a;rcases g b c rfl with⟨d,g⟩|g;·exact P ⟨i,d,g⟩
    ·omega
   ·rw[h i f] at a;exact P ⟨i,c,a⟩
  ·by_cases f:i=id
   ·subst f;obtain⟨cs,e,sz,z,n,G⟩:=H;rw[L] at n;injection n with n;subst n;obtain⟨p,S,l,rfl,h3,h4⟩:=r;refine⟨⟨p,S,sz,l,q,by omega⟩,λX I=>?_⟩;obtain⟨a2,Z,a1,s,Y⟩:=I;rw[q] at s;injection s with s;injection s with e1 Z e3 e4;subst e1 e3;refine⟨⟨cs,e,z,L,by omega⟩,?_⟩;grind
   ·refine⟨?_,λsz I=>⟨?_,h i f⟩⟩
    ·obtain⟨cs,e,sz,z,n,G⟩:=H;exact⟨cs,e,sz,z,by simp_all,G⟩
    ·obtain⟨cs,e,z,n,G⟩:=I;exact⟨cs,e,z,by simp_all,G⟩
  ·by_cases f:i=id
   ·subst f;obtain⟨V,T,z,n⟩:=H;rw[L] at n;injection n with n;subst n;obtain⟨⟨E,C,l,rfl⟩,G⟩:=r;exact⟨⟨E,C,l,q⟩,by rw[m,G]⟩
   ·obtain⟨V,T,z,n⟩:=H;exact⟨⟨V,T,z,by simp_all⟩,h i f⟩
 refine⟨⟨by simp[k.len],λi j b c d a t=>?_,λi b c a=>?_,λi y U=>?_,λi b c a=>?_,λb F=>γj (k.avb b F) u⟩,v⟩
 ·by_cases f:i=id<;>by_cases M:j=id;·rw[f,M]
  ·subst f;rw[m] at a;rw[h j M] at t;injection a with a;subst a;rcases g b c rfl with⟨N,g⟩|g;·exact k.dist i j b N d g t
   ·have:=k.dZ j b d t;omega
  ·subst M;rw[m] at t;rw[h i f] at a;injection t with t;subst t;rcases g b d rfl with⟨N,g⟩|g;·exact k.dist i j b c N a g
   ·have:=k.dZ i b c a;omega
  ·rw[h i f] at a;rw[h j M] at t;exact k.dist i j b c d a t
 ·by_cases f:i=id
  ·subst f;rw[m] at a;injection a with a;subst a;rcases g b c rfl with⟨d,g⟩|g;·exact γj (k.dZ i b d g) u
   ·exact g.2
  ·rw[h i f] at a;exact γj (k.dZ i b c a) u
 ·by_cases f:i=id;·simp_all
  ·rw[J i f] at U;refine(k.obj i y U).ext v (h i f) λb c F=>?_;refine B b (k.dZ i b c F) λd hd=>f (k.dist i id b c d F hd)
 ·by_cases f:i=id
  ·subst f;rw[m] at a;injection a with a;subst a;rcases g b c rfl with⟨d,g⟩|g;·exact k.av i b d g
   ·intro W;have:=k.avb b W;omega
  ·rw[h i f] at a;exact k.av i b c a
end
section
variable {P:Program} {A:dc} {w w':World} {σ σ':TM} {o o':a_} {Ov:Operand->AV} {NI:Operand->Value} {oper:Oper} {v:AV}
def bA (A:dc) (P:Program) (NI:Operand->Value) (oper:Oper) (w:World) (σ:TM) (o:a_) (v:AV) (o':a_):Prop:=
 ∃u w' σ',((execOp NI oper).run P w= .ok (.value u) w'\/((execOp NI oper).run P w= .ok .skip w'/\u=undef))/\OM A w' σ' o'/\nA A w' σ' o' v u/\Ext w σ o w' σ' o'
theorem bA.bi (hS:OM A w σ o) {u:Value} (h:(execOp NI oper).run P w= .ok (.value u) w) (hr:nA A w σ o v u):bA A P NI oper w σ o v o:=
 ⟨u,w,σ,.inl h,hS,hr,Ext.refl _ _ _⟩
theorem we {t:TypeId} {b:Bool} (h:eI P t=some b) (w:World):(isAgg t).run P w= .ok b w:=by
 unfold eI at h;cases a:P.underlying t with
 |none=>simp_all;|some d=>cases d<;>simp[a] at h<;>subst h<;>simp[isAgg,run_underlying a]
theorem oE {t:TypeId} {n:Nat} (h:bK P t=some n) (w:World):(sizeOf t).run P w= .ok n w:=by
 unfold bK at h;cases a:P.info? t with
 |none=>simp_all;|some i=>simp_all[sizeOf,typeInfo]
theorem Pd {t:TypeId} (h:nl P t=some none):eI P t=some false:=by
 grind[nl]
theorem Pc {t:TypeId} {n:Nat} (h:nl P t=some (some n)):eI P t=some true/\bK P t=some n:=by
 grind[nl]
theorem Pb (cs:Array Value) (l:List AV) (a:Nat) (t:TypeId) (n:Option Nat) (f:nl P t=some n) (d:Aq A w σ o l cs.toList) (b:fD l a n=some v):
  ∃u,(part t cs a).run P w= .ok u w/\nA A w σ o v u:=by
 have c:=Aq.length _ _ d;cases n with
 |none=>
  simp only[fD] at b;obtain⟨u,j,i⟩:=Aq.get _ _ d a v b;simp_all[part,we,Pd];|some n=>
  obtain⟨e,g⟩:=Pc f;simp only[fD] at b;split at b
  ·rename_i h;injection b with b;subst b;refine⟨.agg (cs.extract a (a+n)),by simp[part,we e,oE g],?_⟩;simp only[nA];grind[Aq.kg,Aq.get]
  simp_all
theorem nA.Pa (hS:OM A w σ o) {a:AV} {u:Value} {cs:List AV} {bu:Nat} (h:nA A w σ o a u) (hb:Go.Vi.behind o a=some (cs,bu)):
  ∃p:Addr,u= .pointer (some p)/\∀(j:Nat) (c:AV),cs[bu+j]?=some c->∃v,w.cell? (p.add j)=some v/\nA A w σ o c v:=by
 cases a<;>simp only[Go.Vi.behind,reduceCtorEq] at hb;·grind[nA,cH.get,add_add]
 ·rename_i id off' tot;split at hb
  ·rename_i cs' e sz pu ho;split at hb
   ·rename_i htot;simp only[γ,ι] at hb;obtain⟨rfl,rfl⟩:=hb;simp only[nA] at h;obtain⟨b,c,hσ,rfl⟩:=h.2.2 sz ⟨cs',e,pu,ho,htot⟩;refine⟨_,rfl,λj d hd=>?_⟩;have hx:=hS.obj id _ ho;grind[cP,Addr.add,World.cell?]
   simp_all
  simp_all
theorem O_ {a:AV} {p:Addr} {cs:List AV} {b:Nat} {t:TypeId} {n:Option Nat} (h:nl P t=some n)
  (g:∀(j:Nat) (c:AV),cs[b+j]?=some c->∃v,w.cell? (p.add j)=some v/\nA A w σ o c v) (d:fD cs b n=some a):
  ∃u,(loadVar t p).run P w= .ok u w/\nA A w σ o a u:=by
 cases n with
 |none=>
  simp only[fD] at d;obtain⟨u,r,s⟩:=g 0 a (by omega);simp_all[Addr.add,loadVar,we,Pd];|some n=>
  obtain⟨k,m⟩:=Pc h;simp only[fD] at d;split at d
  ·rename_i i;injection d with d;subst d;have e:∀j,j<n->∃v,w.cell? (p.add j)=some v/\nA A w σ o (cs.getD (b+j) .ud) v:=by
    grind
   let f:Nat->Value:=λj=>(w.cell? (p.add j)).getD undef;have l:∀j,j<n->w.cell? (p.add j)=some (f j):=λj q=>by
    grind
   refine⟨.agg ((List.range n).map f).toArray,by simp_all[loadVar,we,oE,run_loadCells],?_⟩;grind[nA,Aq.kg]
  simp_all
theorem aN5 (e:OM A w σ o) (b:∀x,nA A w σ o (Ov x) (NI x)) {t:TypeId} {n:Option Nat} {x:Operand} (g:oper.op= .load t x) (d:nl P t=some n)
  {cs:List AV} {a:Nat} (f:behind o (Ov x)=some (cs,a)) (i:fD cs a n=some v):bA A P NI oper w σ o v o:=by
 obtain⟨p,h,c⟩:=(b x).Pa e f;obtain⟨u,j,k⟩:=O_ d c i;simp_all[bA.bi,execOp,Instr.loadAt,Instr.sureAddr]
theorem yk:∀(vs cs:List AV) (a:Nat),(fz cs a vs).length=cs.length
 |[],_,_=>rfl
 |v::vs,cs,a=>by simp[fz,yk vs]
theorem Bw:∀(vs cs:List AV) (a:Nat),a+vs.length<=cs.length->∀j,(fz cs a vs)[j]?=if a<=j/\j<a+vs.length then vs[j - a]? else cs[j]?
 |[],cs,a,_,j=>by grind[fz];|v::vs,cs,a,b,j=>by
  simp only[fz,List.length_cons] at b ⊢;rw[Bw vs (cs.set a v) (a+1) (by grind) j];grind
theorem oD {cs:List AV} (h:cK cs=true):∀c∈cs,c.pure=true:=by
 induction cs<;>grind[cK]
theorem rn {cs:List AV} (h:∀c∈cs,c.pure=true):cK cs=true:=by
 induction cs<;>grind[cK]
theorem yj {vs cs:List AV} {a:Nat} (d:a+vs.length<=cs.length):∀c∈fz cs a vs,c∈cs\/c∈vs:=by
 intro c b;obtain⟨j,e⟩:=γH b;grind[Bw]
theorem aN6 (arr:List Value) (vs:List Value) (a:Nat) (b:a+vs.length<=arr.length) (j:Nat):
  (arr.take a++vs++arr.drop (a+vs.length))[j]?=if a<=j/\j<a+vs.length then vs[j - a]? else arr[j]?:=by
 rw[List.append_assoc,εo];grind
theorem lR {cs:List AV}:dP cs=true↔∀c∈cs,c.one=true:=by simp[dP]
theorem aN7 (hS:OM A w σ o) (hρ:∀x,nA A w σ o (Ov x) (NI x)) {t:TypeId} {n:Nat} {x y:Operand} (hop:oper.op= .store t x y) (hn:bK P t=some n)
  {id bu tot:Nat} (ha:Ov x= .ptr id bu tot) {cs:List AV} {e:TypeId} {sz:Nat} {pu:Bool} (ho:o[id]?=some (.cells cs e sz pu)) (htot:cs.length=tot)
  (hlen:(Ov y).cellsOf.length=n) (h1:dP (Ov y).cellsOf=true) (hle:bu+n<=cs.length) (hpu:pu=false\/cK (Ov y).cellsOf=true):
  bA A P NI oper w σ o .ud (o.set id (.cells (fz cs bu (ee pu (Ov y).cellsOf)) e sz pu)):=by
 have hx:=hρ x;rw[ha] at hx;simp only[nA] at hx;obtain⟨b,c,hσ,hp⟩:=hx.2.2 sz ⟨cs,e,pu,ho,htot⟩;obtain⟨hl0,hone⟩:=(hρ y).cells h1;have hl:=hl0.ee pu;replace hlen:(ee pu (Ov y).cellsOf).length=n:=by grind[rq]
 replace h1:dP (ee pu (Ov y).cellsOf)=true:=Hc h1;replace hpu:pu=false\/cK (ee pu (Ov y).cellsOf)=true:=hpu.imp (λh=>h) Bx;generalize ee pu (Ov y).cellsOf=vs at*;have hlen':(NI y).cells.toList.length=n:=by grind[Aq.length]
 have hob:=hS.obj id _ ho;simp only[cP] at hob;obtain⟨q1,q2,q3⟩:=hob;rcases q3 with⟨h0,_⟩|⟨b',cap,arr,k1,k2,k3,k4,k5,k6⟩;·simp_all
 rw[hσ] at k1;simp only[γ,ι] at k1;obtain⟨rfl,rfl⟩:=k1;have hrun:=run_storeCells_at (P:=P) b bu e (NI y).cells.toList 0 arr w k3 (by omega) hone;simp only[Nat.add_zero] at hrun;generalize hnew:(arr.toList.take bu++(NI y).cells.toList++arr.toList.drop (bu+(NI y).cells.toList.length)).toArray=new at hrun;have avT:(execOp NI oper).run P w= .ok .skip (w.setRow b new):=by
  simp_all[execOp,Instr.storeAt,Instr.sureAddr,storeVar,oE]
 have hblt:b<w.heap.size:=hS.dZ id b c hσ;have hsame:∀k,k≠b->(w.setRow b new).heap[k]?=w.heap[k]?:=by
  simp_all[World.setRow,εS,Ne.symm]
 have hat:(w.setRow b new).heap[b]?=some (.cells new e (0,0)):=by
  grind[World.setRow]
 have aYA:new.size=arr.size:=by grind
 have atW:id<σ.length:=(ζ.1 hσ).1;have hset:σ.set id (some (b,c))=σ:=by
  apply γ9;grind
 obtain⟨hS',hE⟩:=OM.iw (w':=w.setRow b new) (s':=some (b,c)) (x':=.cells (fz cs bu vs) e sz pu) hS ho (by simp_all) rfl rfl rfl
  (λk _ hk=>hsame k (λhe=>hk c (he▸hσ))) (λb2 c2 h2=> .inl ⟨c,by simp_all⟩) ⟨_,_,_,rfl,by grind[yk],λ_=>hσ⟩ (λhE=>by
   simp only[cP];refine⟨λhpt=>?_,?_,.inr ⟨b,c,new,by simp_all,k2,hat,by omega,by grind[yk],λj d hd=>?_⟩⟩
   ·refine rn λd hd=>?_;rcases yj (by rw[hlen];exact hle) d hd with hd|hd<;>grind[yj,oD]
   ·refine lR.2 λd hd=>?_;rcases yj (by rw[hlen];exact hle) d hd with hd|hd<;>grind[yj,lR]
   ·rw[Bw _ _ _ (by omega)] at hd;rw[hlen] at hd;have hsp:=aN6 arr.toList (NI y).cells.toList bu (by grind) j;have hnj:new[j]?=if bu<=j/\j<bu+n then(NI y).cells.toList[j - bu]? else arr[j]?:=by
     grind
    by_cases hj:bu<=j/\j<bu+n
    ·rw[if_pos hj] at hd hnj;obtain⟨u,hu,hr⟩:=Aq.get _ _ hl _ d hd;exact⟨u,by rw[hnj];exact hu,hr.ext hE⟩
    ·rw[if_neg hj] at hd hnj;obtain⟨u,hu,hr⟩:=k6 j d hd;exact⟨u,by rw[hnj];exact hu,hr.ext hE⟩);rw[hset] at hS' hE;exact⟨undef,_,σ,.inr ⟨avT,rfl⟩,hS',by simp[nA],hE⟩
end
section
variable {P:Program} {A:dc} {w w':World} {σ σ':TM} {o o':a_} {Ov:Operand->AV} {NI:Operand->Value} {oper:Oper} {v:AV}
theorem wc {oz:Nat} {x:OL} (h:j7 oz x o=some o'):o[oz]?=some .dead/\o'=o.set oz x:=by
 grind[j7]
theorem OM.Bv (k:OM A w σ o) {oz:Nat} (l:o[oz]?=some .dead) {cs:List AV} {arr:Array Value} {e:TypeId} {sz cap:Nat} {pu:Bool} (d:arr.size=cap*sz) (p:cap<=maxLen)
  (g:cs.length<=arr.size) (y:dP cs=true) (m:pu=true->cK cs=true) (a:∀(j:Nat) (c:AV),cs[j]?=some c->∃v,arr[j]?=some v/\nA A w σ o c v):
  OM A (w.alloc (.cells arr e)) (σ.set oz (some (w.heap.size,cap))) (o.set oz (.cells cs e sz pu))/\Ext w σ o (w.alloc (.cells arr e)) (σ.set oz (some (w.heap.size,cap))) (o.set oz (.cells cs e sz pu)):=by
 have i:oz<o.length:=(ζ.1 l).1;have f:oz<σ.length:=by rw[k.len];exact i
 refine OM.iw (x:=.dead) k l (by simp) rfl rfl rfl (λb r _=>heap_alloc_old w _ b r) (λb c h=> .inr ?_) trivial λq=>?_;·simp_all
 ·simp only[cP];refine⟨m,y,.inr ⟨w.heap.size,cap,arr,by simp_all,p,heap_alloc_new w _,d,g,λj c n=>?_⟩⟩;obtain⟨u,s,t⟩:=a j c n;exact⟨u,s,t.ext q⟩
theorem O9:1<=maxLen:=by simp[maxLen]
theorem tA (A:dc) (w:World) (σ:TM) (o:a_):∀(z:List Value),(∀u∈z,u.oneCell'=true)->Aq A w σ o (z.map .sc) z
 |[],_=>by simp[Aq];|v::z,h=>by
  simp only[π,Aq];exact⟨v,z,rfl,by simp[nA,h v],tA A w σ o z λu a=>h u (by simp[a])⟩
theorem Ha {z:List Value} (h:∀u∈z,u.oneCell'=true):dP (z.map δh)=true:=by
 refine lR.2 λc b=>?_;obtain⟨u,a,rfl⟩:=Ω.1 b;exact h u a
theorem O8 (z:List Value):cK (z.map δh)=true:=by
 refine rn λc a=>?_;obtain⟨u,_,rfl⟩:=Ω.1 a;rfl
theorem tv {t:TypeId} {z:List Value} (h:kI P t=some z):∃(i:TypeInfo) (a:Value),P.info? t=some i/\i.zero=some a/\a.cells.toList=z/\i.size=z.length/\∀u∈z,u.oneCell'=true:=by
 unfold kI at h;cases b:P.info? t with
 |none=>simp[b] at h;|some i=>
  cases c:i.zero with
  |none=>simp_all;|some a=>
   simp only[b,c,bK,δQ,ν] at h;grind
theorem aN8 (m:OM A w σ o) {t:TypeId} {z:List Value} {pu:Bool} {oz:Nat} (q:oper.op= .alloc t) (p:kI P t=some z)
  (l:o[oz]?=some .dead):bA A P NI oper w σ o (.ptr oz 0 z.length) (o.set oz (.cells (z.map .sc) t z.length pu)):=by
 obtain⟨i,n,C,v,d,k,a⟩:=tv p;have b:oz<o.length:=(ζ.1 l).1;have f:oz<σ.length:=by rw[m.len];exact b
 have g:n.cells.size=z.length:=by grind
 obtain⟨h,s⟩:=m.Bv (w:=w) (arr:=n.cells) (e:=t) (sz:=z.length) (cap:=1) (pu:=pu) (cs:=z.map .sc) l (by omega) O9 (by simp[g]) (Ha a) (λ_=>O8 z)
  (λj c r=>by
   obtain⟨u,D,x⟩:=Aq.get _ _ (tA A w σ o z a) j c r;grind);refine⟨.pointer (some ⟨w.heap.size,0,none⟩),_,_,.inl ?_,h,?_,s⟩;·simp_all[execOp,Instr.alloc,zeroValue,typeInfo,newVar,newRow]
 ·simp only[nA];refine⟨⟨_,_,_,_,by rw[γL b],by simp⟩,⟨_,rfl⟩,λB y=>⟨w.heap.size,1,by simp_all,rfl⟩⟩
theorem aN9 (l:OM A w σ o) (g:∀x,nA A w σ o (Ov x) (NI x)) {e:TypeId} {x:Operand} {oz:Nat} (f:oper.op= .box e x) (h:dP (Ov x).cellsOf=true)
  (k:o[oz]?=some .dead):bA A P NI oper w σ o (.ptr oz 0 (Ov x).cellsOf.length) (o.set oz (.cells (Ov x).cellsOf e (Ov x).cellsOf.length false)):=by
 have a:oz<o.length:=(ζ.1 k).1;have d:oz<σ.length:=by rw[l.len];exact a
 obtain⟨m,_⟩:=(g x).cells h;have i:=Aq.length _ _ m;obtain⟨b,n⟩:=l.Bv (w:=w) (arr:=(NI x).cells) (e:=e) (sz:=(Ov x).cellsOf.length) (cap:=1) (pu:=false) (cs:=(Ov x).cellsOf) k (by simp_all) O9 (by simp_all) h (by simp)
  (λj c r=>by
   grind[Aq.get]);refine⟨.pointer (some ⟨w.heap.size,0,none⟩),_,_,.inl ?_,b,?_,n⟩;·simp[execOp,f,Instr.box,newVar,newRow,newObj,Sem.run]
 ·simp only[nA];refine⟨⟨_,_,_,_,by rw[γL a],by simp⟩,⟨_,rfl⟩,λp q=>⟨w.heap.size,1,by simp_all,rfl⟩⟩
theorem O7 (c:OM A w σ o) (b:∀x,nA A w σ o (Ov x) (NI x)) {x:Operand} (a:oper.op= .move x\/oper.op= .assign x):bA A P NI oper w σ o (Ov x) o:=
 bA.bi c (u:=NI x) (by rcases a with h|h<;>simp[execOp,h]) (b x)
theorem fN {u:Value} {v:Value} (h:nA A w σ o (.sc u) v):v=u:=by grind[nA]
theorem O6 (i:OM A w σ o) (d:∀x,nA A w σ o (Ov x) (NI x)) {c a b:Operand} (e:oper.op= .pick c a b) {t:Bool} (h:Ov c= .sc (.bool t)):bA A P NI oper w σ o (Ov (if t then a else b)) o:=by
 have f:=d c;rw[h] at f;have g:=fN f;refine bA.bi i (u:=NI (if t then a else b)) ?_ (d _);cases t<;>simp[execOp,e,g,asBool]
theorem O5 (c:OM A w σ o) (a:∀x,nA A w σ o (Ov x) (NI x)) {x:Operand} (b:oper.op= .nilCheck x) {p:Addr} (d:NI x= .pointer (some p)):bA A P NI oper w σ o (Ov x) o:=by
 refine bA.bi c (u:=NI x) ?_ (a x);simp_all[execOp]
theorem rm (k:IntKind) (n:Int):ed k n=k.wrap n:=by
 cases k<;>simp only[ed];all_goals
  split
  ·rename_i h;simp only[θ,decide_eq_true_eq] at h;grind[IntKind.wrap,IntKind.bits,IntKind.signed]
  ·rfl
theorem G_ (n:Nat):Bq n=2^n:=by
 simp[Bq]
theorem Ze {e:BinOp} {t:TypeId} {x y:Operand} {a b r:Value} (h:gh e a b=some r):
  (do eqGuard e t x y a b;binOp e t a b:Sem Value).run P w= .ok r w:=by
 unfold gh at h;simp only[kC,rm,G_] at h;split at h
 ·rename_i k n j m;split at h
  ·split at h;·cases h
   ·injection h with h;subst h;rename_i f;simp[eqGuard,binOp,Op.shift,f]
  ·split at h;·cases h
   ·injection h with h;subst h;rename_i f;simp[eqGuard,binOp,Op.shift,f]
  ·split at h
   ·rename_i i;subst i;cases e<;>simp only[reduceCtorEq] at h<;>first
     |(injection h with h;subst h;simp[eqGuard,binOp,Op.intArith,Op.intBits,Op.intCmp];done);|simp_all[eqGuard,binOp,Op.intDiv]
   ·cases h
 ·rename_i c d;cases e<;>simp only[reduceCtorEq] at h;all_goals first
   |(injection h with h;simp_all[eqGuard,binOp,Op.stringOp])
   |(split at h
     ·rename_i g;injection h with h;subst h;simp[eqGuard,binOp,Op.stringOp];omega
     ·cases h)
 ·cases h
theorem Zd {c:BinOp} {a b r:Value} (h:gh c a b=some r):r.oneCell'=true:=by
 unfold gh at h;split at h
 ·split at h
  ·split at h;·cases h
   ·injection h with h;subst h;rfl
  ·split at h;·cases h
   ·injection h with h;subst h;rfl
  ·split at h
   ·unfold kC at h;cases c<;>simp only[reduceCtorEq] at h<;>first
     |(injection h with h;subst h;rfl)
     |(split at h;·cases h
       ·injection h with h;subst h;rfl)
   ·cases h
 ·cases c<;>simp only[reduceCtorEq] at h;all_goals first
   |(injection h with h;subst h;rfl)
   |(split at h;·injection h with h;subst h;rfl
     ·cases h)
 ·cases h
theorem Zc (l:OM A w σ o) (c:∀x,nA A w σ o (Ov x) (NI x)) {g:BinOp} {t k:TypeId} {x y:Operand} (d:oper.op= .binOp g t x y k) {a b r:Value} (j:Ov x= .sc a) (i:Ov y= .sc b)
  (h:gh g a b=some r):bA A P NI oper w σ o (.sc r) o:=by
 have f:=c x;have e:=c y;rw[j] at f;rw[i] at e;refine bA.bi l (u:=r) ?_ (by simp[nA,Zd h]);simp only[execOp,d,fN f,fN e];have:=Ze (P:=P) (w:=w) (t:=t) (x:=x) (y:=y) h;simp only[Sem.run_bind] at this ⊢;rw[this];rfl
theorem Zb (i:OM A w σ o) (d:∀x,nA A w σ o (Ov x) (NI x)) {f:BinOp} {c:Bool} {t m:TypeId} {x y:Operand} (e:oper.op= .binOp f t x y m) (k:(f= .eql/\c=false)\/(f= .neq/\c=true))
  (l:P.underlying t=some .bool) {a b:Bool} (j:Ov x= .sc (.bool a)) (n:Ov y= .sc (.bool b)):bA A P NI oper w σ o (.sc (.bool (if c then !(a==b) else a==b))) o:=by
 have h:=d x;have g:=d y;rw[j] at h;rw[n] at g;refine bA.bi i (u:=.bool (if c then !(a==b) else a==b)) ?_ (by simp[nA,Value.oneCell']);simp only[execOp,e,fN h,fN g];rcases k with⟨rfl,rfl⟩|⟨rfl,rfl⟩<;>simp[eqGuard,binOp,Go.run_equal_bool w t _ _ l]
theorem Za (w:World) (d:Nat) {t e:TypeId} (p:Option Addr) (h:P.underlying t=some (.pointer e)):(Op.equalIn (d+1) t (.pointer p) (.pointer none)).run P w= .ok p.isNone w:=by
 cases p<;>simp[Op.equalIn,run_underlying h]
theorem O4 (hS:OM A w σ o) (hρ:∀x,nA A w σ o (Ov x) (NI x)) {op:BinOp} {neg:Bool} {t t' e:TypeId} {x y:Operand} (hop:oper.op= .binOp op t x y t') (hn:(op= .eql/\neg=false)\/(op= .neq/\neg=true))
  (hu:P.underlying t=some (.pointer e)) {p:Option Addr} (ha:NI x= .pointer p) (hb:Ov y= .sc (.pointer none)):bA A P NI oper w σ o (.sc (.bool (if neg then p.isSome else p.isNone))) o:=by
 have h2:=hρ y;rw[hb] at h2;refine bA.bi hS (u:=.bool (if neg then p.isSome else p.isNone)) ?_ (by simp[nA,Value.oneCell']);simp only[execOp,hop,ha,fN h2];have hq:(Op.equal t (.pointer p) (.pointer none)).run P w= .ok p.isNone w:=Za w 9999 p hu;rcases hn with⟨rfl,rfl⟩|⟨rfl,rfl⟩<;>cases p<;>simp[eqGuard,binOp,hq]
theorem Y_ (f:OM A w σ o) (c:∀x,nA A w σ o (Ov x) (NI x)) {e:UnOp} {t:TypeId} {x:Operand} (g:oper.op= .unOp e t x) (h:q_ e (Ov x)=some v):bA A P NI oper w σ o v o:=by
 have a:=c x;unfold q_ at h;split at h
 ·rename_i b d;rw[d] at a;have:=fN a;split at h
  ·injection h with h;subst h;refine bA.bi f (u:=.bool !b) ?_ (by simp[nA,Value.oneCell']);simp_all[execOp,Op.unary]
  ·cases h
 ·rename_i k n d;rw[d] at a;have:=fN a;split at h
  ·injection h with h;subst h;rw[rm];refine bA.bi f (u:=.int k (k.wrap (0 - n))) ?_ (by simp[nA,Value.oneCell']);simp_all[execOp,Op.unary,Op.intArith]
  ·cases h
 ·cases h
theorem Y9 (c:OM A w σ o) (a:∀x,nA A w σ o (Ov x) (NI x)) {s d:TypeId} {h:TypeDesc} {k f:IntKind} {n:Int} {x:Operand} (e:oper.op= .convert s d x) (i:P.underlying s=some h) (j:P.underlying d=some (.int k))
  (g:Ov x= .sc (.int f n)):bA A P NI oper w σ o (.sc (.int k (ed k n))) o:=by
 rw[rm];have b:=a x;rw[g] at b;have:=fN b;refine bA.bi c (u:=.int k (k.wrap n)) ?_ (by simp[nA,Value.oneCell']);simp_all[execOp,convert,run_underlying,Conv.intToInt]
theorem O3 {a b:AV} {d:Nat} {u:Value} (h:nA A w σ o a u) (c:lU d a=some b):∃p:Addr,u= .pointer (some p)/\nA A w σ o b (.pointer (some (p.add d))):=by
 unfold lU at c;grind[nA,Addr.add,add_add]
end
section
variable {P:Program} {A:dc} {w w':World} {σ σ':TM} {o o':a_} {Ov:Operand->AV} {NI:Operand->Value} {oper:Oper} {v:AV}
theorem Y8 (d:OM A w σ o) (a:∀x,nA A w σ o (Ov x) (NI x)) {s f n:Nat} {fs:Array Field} {g:Field} {x:Operand} (b:oper.op= .fieldAddr s x f) (e:P.underlying s=some (.struct fs)) (j:fs[f]?=some g)
  (k:bK P g.type=some n) (c:n≠0) (h:lU g.offset (Ov x)=some v):bA A P NI oper w σ o v o:=by
 obtain⟨p,i,l⟩:=O3 (a x) h;simp_all[bA.bi,execOp,Instr.fieldAt,run_underlying,Instr.sureAddr,fieldPlace,oE]
theorem Y7 (p:OM A w σ o) (b:∀x,nA A w σ o (Ov x) (NI x)) {s f:Nat} {fs:Array Field} {g:Field} {x:Operand} {n:Option Nat} (i:oper.op= .field s x f) (r:P.underlying s=some (.struct fs)) (l:fs[f]?=some g)
  (j:nl P g.type=some n) {cs:List AV} (e:Ov x= .agg cs) (h:fD cs g.offset n=some v):bA A P NI oper w σ o v o:=by
 have a:=b x;rw[e] at a;simp only[nA] at a;obtain⟨c,k,d⟩:=a;obtain⟨u,q,m⟩:=Pb (P:=P) c cs g.offset g.type n j d h;simp_all[bA.bi,execOp,Instr.field,run_underlying,asAgg]
theorem wb {a:AV} {n:Int} {u:Value} (h:nA A w σ o a u) (b:gq a=some n):∃k,u= .int k n:=by
 unfold gq at b;grind[fN]
theorem Y6 (q:OM A w σ o) (b:∀x,nA A w σ o (Ov x) (NI x)) {t a e sz:Nat} {x i:Operand} {n:Int} (c:oper.op= .indexAddr t x i) (g:P.underlying t=some (.array a e)) (d:bK P e=some sz)
  (m:gq (Ov i)=some n) (r:0<=n) (s:n<a) (h:lU (n.toNat*sz) (Ov x)=some v):bA A P NI oper w σ o v o:=by
 obtain⟨p,f,l⟩:=O3 (b x) h;obtain⟨k,j⟩:=wb (b i) m;refine bA.bi q ?_ l;simp only[execOp,c,Instr.indexAt,j,f];simp only[Sem.run_bind,asIntOf,Sem.run_pure,Result.andThen_ok,run_underlying g,Instr.sureAddr];simp_all[oE]
theorem Y5 (hS:OM A w σ o) (B:∀x,nA A w σ o (Ov x) (NI x)) {t e sz:Nat} {x i:Operand} {n:Int} (M:oper.op= .indexAddr t x i) (Y:P.underlying t=some (.slice e)) (X:bK P e=some sz) (S:sz≠0)
  (Z:gq (Ov i)=some n) (h:oM o sz (Ov x) n=some v):bA A P NI oper w σ o v o:=by
 obtain⟨k,T⟩:=wb (B i) Z;have r:=B x;have C:∀(a:Option Addr) (f d:Nat) (p:Addr),NI x= .slice a f d->a=some p->0<=n->n<f->nA A w σ o v (.pointer (some (p.add (n.toNat*sz))))->bA A P NI oper w σ o v o:=by
  intro a f d p g K N G hr;refine bA.bi hS ?_ hr;simp only[execOp,M,Instr.indexAt,T,g,K];simp only[Sem.run_bind,asIntOf,Sem.run_pure,Result.andThen_ok,run_underlying Y];simp_all[oE]
 unfold oM at h;split at h
 ·rename_i m F q;rw[q] at r;simp only[nA] at r;obtain⟨a,d,g,hn,hp,U⟩:=r;split at h
  ·rename_i E;injection h with h;subst h;obtain⟨N,G,z⟩:=E;have H:n.toNat*sz<F.length:=by
    rw[z];have:n.toNat<m:=by omega
    exact(Nat.mul_lt_mul_right (by omega)).2 this
   obtain⟨b,u,hb,_⟩:=cH.get _ _ _ U _ _ (μ H);grind[nA]
  ·cases h
 ·rename_i V a0 f I q;rw[q] at r;simp only[nA] at r;obtain⟨L,a,d,g,W,s⟩:=r;split at h
  ·rename_i F O y Q R;split at h
   ·rename_i E;obtain⟨j,rfl,N,G,D⟩:=E;injection h with h;subst h;have l:=s y ⟨F,O,Q,R,j⟩;have a1:tB o V y I:=⟨F,O,Q,R,j⟩;unfold j3 at l;split at l;·omega
    ·rename_i b c J;have K:=l.1 (by omega);refine C a f d _ g K N G ?_;simp only[nA];refine⟨L,⟨_,rfl⟩,λsz E=>⟨b,c,J,?_⟩⟩;simp_all[Addr.add]
    simp_all
   ·cases h
  ·cases h
 ·cases h
theorem Y4 (f:OM A w σ o) (b:∀x,nA A w σ o (Ov x) (NI x)) {t c e sz:Nat} {x i:Operand} {n:Int} {m:Option Nat} (d:oper.op= .index t x i) (B:P.underlying t=some (.array c e)) (p:bK P e=some sz)
  (j:nl P e=some m) (z:gq (Ov i)=some n) (E:0<=n) (C:n<c) {cs:List AV} (g:Ov x= .agg cs) (h:fD cs (n.toNat*sz) m=some v):bA A P NI oper w σ o v o:=by
 obtain⟨k,q⟩:=wb (b i) z;have a:=b x;rw[g] at a;simp only[nA] at a;obtain⟨s,l,r⟩:=a;obtain⟨u,D,y⟩:=Pb (P:=P) s cs _ e m j r h;refine bA.bi f (u:=u) ?_ y;simp only[execOp,d,Instr.index,q,l];simp_all[asIntOf,run_underlying,oE]
theorem Y3 (d:OM A w σ o) (c:∀x,nA A w σ o (Ov x) (NI x)) {t:Nat} {x i:Operand} {n:Int} {s:ByteArray} {b:UInt8} (e:oper.op= .index t x i) (l:P.underlying t=some .string)
  (f:gq (Ov i)=some n) (p:0<=n) (g:Ov x= .sc (.string s)) (h:s[n.toNat]?=some b):bA A P NI oper w σ o (.sc (.int .u8 b.toNat)) o:=by
 obtain⟨k,j⟩:=wb (c i) f;have a:=c x;rw[g] at a;have m:=fN a;refine bA.bi d (u:=.int .u8 b.toNat) ?_ (by simp[nA,Value.oneCell']);simp_all[execOp,Instr.index,asIntOf,run_underlying]
theorem Y2 (s:OM A w σ o) (j:∀x,nA A w σ o (Ov x) (NI x)) {t:TypeId} {x:Operand} {c:Call} {k n:Nat} (q:oper.op= .call c) (z:c.callee= .builtin .len) (C:c.args=#[x]) (r:c.argTypes=#[t])
  (g:(k=0/\∃e,P.underlying t=some (.slice e))\/(k=1/\P.underlying t=some .string)\/(k=2/\∃a b,P.underlying t=some (.map a b))) (d:kB o k (Ov x)=some n):bA A P NI oper w σ o (.sc (.int .i64 n)) o:=by
 refine bA.bi s (u:=.int .i64 n) ?_ (by simp[nA,Value.oneCell']);simp only[execOp,q,resolve,z,C,r,invoke,builtin];have h:=j x;rcases g with⟨rfl,e,g⟩|⟨rfl,g⟩|⟨rfl,a,b,g⟩
 ·have:∃A c,NI x= .slice A n c:=by
   cases f:Ov x<;>rw[f] at d h<;>simp only[kB,reduceCtorEq] at d<;>grind[kB,reduceCtorEq,fN,nA]
  obtain⟨A,E,l⟩:=this;simp[l,Builtin.len_,run_underlying g,goInt]
 ·cases f:Ov x<;>rw[f] at d h<;>simp only[kB,reduceCtorEq] at d;rename_i u;cases u<;>simp only[reduceCtorEq,γ] at d;subst d;simp[fN h,Builtin.len_,run_underlying g,goInt]
 ·cases f:Ov x<;>rw[f] at d h<;>simp only[kB,reduceCtorEq] at d;rename_i B;split at d
  ·rename_i H J M D;simp only[γ] at d;subst d;simp only[nA] at h;obtain⟨_,K,E,p,l⟩:=h;have i:=s.obj B _ D;simp only[cP] at i;obtain⟨_,_,L,I,G,F,m,v,y,_⟩:=i;rw[p] at m;simp only[γ,ι] at m;obtain⟨rfl,rfl⟩:=m;simp[l,Builtin.len_,run_underlying g,goInt,getObj,Sem.run,v,y]
  ·cases d
theorem Y1 (h:OM A w σ o) {t:TypeId} {x:Operand} {c:Call} {n e:Nat} (a:oper.op= .call c) (g:c.callee= .builtin .len) (f:c.args=#[x]) (b:c.argTypes=#[t])
  (d:P.underlying t=some (.array n e)):bA A P NI oper w σ o (.sc (.int .i64 n)) o:=by
 refine bA.bi h (u:=.int .i64 n) ?_ (by simp[nA,Value.oneCell']);simp[execOp,a,resolve,g,f,b,invoke,builtin,Builtin.len_,run_underlying d,goInt]
theorem O2 (h:OM A w σ o) (d:∀x,nA A w σ o (Ov x) (NI x)) {mx:Bool} {x y:Operand} {c:Call} {k:IntKind} {a b:Int} (e:oper.op= .call c) (l:c.callee= .builtin (if mx then .max else .min)) (m:c.args=#[x,y])
  (j:Ov x= .sc (.int k a)) (i:Ov y= .sc (.int k b)):bA A P NI oper w σ o (.sc (.int k (if mx then(if b>a then b else a) else(if b<a then b else a)))) o:=by
 have g:=d x;have f:=d y;rw[j] at g;rw[i] at f;refine bA.bi h (u:=.int k (if mx then(if b>a then b else a) else(if b<a then b else a))) ?_ (by simp[nA,Value.oneCell']);cases mx<;>simp[execOp,e,resolve,l,m,invoke,builtin,Builtin.min_,Builtin.max_,fN g,fN f,Builtin.min2,Builtin.max2]
theorem Y0 (l:OM A w σ o) (a:∀x,nA A w σ o (Ov x) (NI x)) {x:Operand} {i:Nat} (f:oper.op= .extract x i) {vs:List AV} (d:Ov x= .Gz vs) (h:vs[i]?=some v):bA A P NI oper w σ o v o:=by
 have b:=a x;rw[d] at b;simp only[nA] at b;obtain⟨g,k,e⟩:=b;obtain⟨u,c,j⟩:=Aq.get _ _ e i v h;simp_all[bA.bi,execOp,Instr.extract]
theorem tu (a:∀x,nA A w σ o (Ov x) (NI x)):∀l:List Operand,Aq A w σ o (l.map Ov) (l.map NI)
 |[]=>by simp[Aq];|x::l=>by simp only[π,Aq];exact⟨_,_,rfl,a x,tu a l⟩
theorem YZ (hS:OM A w σ o) (hρ:∀x,nA A w σ o (Ov x) (NI x)) {t:TypeId} {x:Operand} {fs:Array Field} (ht:P.underlying t=some (.struct fs)) (hop:oper.op= .makeInterface t x) {cs:List AV} (hx:Ov x= .agg cs) (hp:cK cs=true):bA A P NI oper w σ o (.ifc t cs) o:=by
 have h1:=hρ x;rw[hx] at h1;simp only[nA] at h1;obtain⟨vs,hv,hl⟩:=h1;refine bA.bi hS (u:=.iface t (.agg vs)) ?_ ?_;·simp[execOp,hop,Instr.makeInterface,run_underlying ht,hv]
 ·simp only[nA];exact⟨_,rfl,hp,hl⟩
theorem YY (g:OM A w σ o) (e:∀x,nA A w σ o (Ov x) (NI x)) {f:Fn} (d:∀l,Cj l f=f) {a b:Array Operand} (c:oper.op= .makeFunc f a b):bA A P NI oper w σ o (.fn f (a.toList.map Ov) (b.toList.map Ov)) o:=by
 refine bA.bi g (u:=.func f (a.map NI) (b.map NI)) (by simp[execOp,c,Instr.makeFunc]) ?_;simp only[nA];exact⟨_,_,by rw[d],by simp_all[tu],by simp_all[tu]⟩
end
section
variable {P:Program} {A:dc} {w w':World} {σ σ':TM} {o o':a_} {Ov:Operand->AV} {NI:Operand->Value} {oper:Oper} {v:AV}
theorem v_ {d k:Nat} {a:Option AV} {u:Option Value} (h:∀x,a=some x->∃y,u=some y/\nA A w σ o x y) (c:a=none->u=none) (b:gp d a=some k):
  (u=none/\k=d)\/∃q,u=some (.int q (k:Int)):=by
 unfold gp at b;grind[fN]
theorem O1 (a:Bool) (b cap l h:Nat) (lo g:Option Value) (d:(lo=none/\l=0)\/∃q,lo=some (.int q (l:Int))) (e:(g=none/\h=b)\/∃q,g=some (.int q (h:Int))) (f:l<=h) (c:h<=cap):
  (Instr.sliceBounds a b cap lo g none).run P w= .ok (l,h,cap) w:=by
 have i:(0:Int)<=h/\(h:Int)<=cap:=by omega
 have j:(0:Int)<=l/\(l:Int)<=h:=by omega
 rcases d with⟨rfl,rfl⟩|⟨q,rfl⟩<;>rcases e with⟨rfl,rfl⟩|⟨k,rfl⟩<;>
  simp[Instr.sliceBounds,Instr.sliceBound,asIntOf,i,j,f,c]
theorem p5 (a:∀x,nA A w σ o (Ov x) (NI x)) (lo:Option Operand):(∀x,lo.map Ov=some x->∃y,lo.map NI=some y/\nA A w σ o x y)/\(lo.map Ov=none->lo.map NI=none):=by
 cases lo<;>simp_all
theorem YX (hS:OM A w σ o) (p:∀x,nA A w σ o (Ov x) (NI x)) {t e sz:Nat} {x:Operand} {lo m:Option Operand} (M:oper.op= .slice t x lo m none) (Y:P.underlying t=some (.slice e)) (S:bK P e=some sz) (a1:sz≠0)
  (h:oK o sz (Ov x) (lo.map Ov) (m.map Ov)=some v):bA A P NI oper w σ o v o:=by
 have B:=p x;have r:∀(a:Option Addr) (g f l k:Nat),NI x= .slice a g f->gp 0 (lo.map Ov)=some l->gp g (m.map Ov)=some k->l<=k->k<=f->
   nA A w σ o v (.slice (if f=l then a else a.map (·.add (l*sz))) (k - l) (f - l))->bA A P NI oper w σ o v o:=by
  intro a g f l k q F C y T hr;refine bA.bi hS ?_ hr;have b1:=v_ (p5 p lo).1 (p5 p lo).2 F;have b2:=v_ (p5 p m).1 (p5 p m).2 C;simp only[execOp,M,Instr.sliceAt,q,Instr.slice];simp[run_underlying Y,O1 true g f l k _ _ b1 b2 y T,oE S]
 unfold oK at h;split at h
 ·rename_i n cs z;rw[z] at B;simp only[nA] at B;obtain⟨a,f,q,hn,hp,hm⟩:=B;split at h
  ·rename_i l k F C;split at h
   ·rename_i R;injection h with h;subst h;refine r a n f l k q F C R.1 (by omega) ?_;simp only[nA];refine⟨_,_,rfl,by omega,?_,?_⟩
    ·refine rn λc a7=>oD hp c ?_;grind
    ·refine cH.kg _ _ _ λi c m=>?_;rw[δj] at m;split at m
     ·rename_i a2;rw[δA] at m;obtain⟨b,u,rfl,a4,U,hr⟩:=cH.get _ _ _ hm _ _ m;have D:f≠l:=by
       grind
      simp_all[cY,add_add]
     ·cases m
   ·cases h
  ·cases h
 ·rename_i id E g s z;rw[z] at B;simp only[nA] at B;obtain⟨Q,a,f,q,a5,G⟩:=B;split at h
  ·rename_i l k F C;split at h
   ·rename_i cs e' d pu ho;split at h
    ·rename_i R;injection h with h;subst h;obtain⟨y,N,a0,rfl⟩:=R;refine r a g f l k q F C y (by omega) ?_;simp only[nA];refine⟨Q,_,_,rfl,by omega,λJ H=>?_⟩;have I:=G J H;obtain⟨a8,e2,a3,j,_⟩:=H;rw[ho] at j;injection j with j;injection j with _ _ hsz2 _;subst hsz2;unfold j3 at I ⊢;split;·simp_all
     ·rename_i b c L;rw[L] at I;obtain⟨h2,h3,h4⟩:=I;have X:l*d+(k - l)*d=k*d:=by rw[<-δV];congr 1;omega
      have K:k*d<=g*d:=γN _ N;refine⟨λZ=>?_,λhz Y hs=>?_,?_⟩
      ·have D:f≠l:=by omega
       have j:qG (E+l*d) s d=qG E s d+l*d:=by
        rcases h4 with⟨h5,h6⟩|⟨h5,h6,h7⟩;·grind[nV]
        ·rw[By (by omega),By (by omega)];omega
       rw[h2 (by omega),if_neg D,j];simp_all[Addr.add]
      ·have O:l*d=0:=by omega
       have V:l=0:=by
        rcases Nat.mul_eq_zero.1 O with h|h<;>omega
       subst V;have a6:k*d=s:=by omega
       have W:k=g:=by
        have:g*d<=k*d:=by omega
        have:=Nat.le_of_mul_le_mul_right this hs;omega
       simp_all[Addr.add]
      omega
     simp_all
    ·cases h
   ·cases h
  ·cases h
 all_goals grind[nA,yp]
theorem YW (f cap l h m:Nat) (lo:Option Value) (i g:Value) (b:(lo=none/\l=0)\/∃q,lo=some (.int q (l:Int))) (a:∃q,i= .int q (h:Int))
  (c:∃q,g= .int q (m:Int)) (d:l<=h) (e:h<=m) (j:m<=cap):
  (Instr.sliceBounds true f cap lo (some i) (some g)).run P w= .ok (l,h,m) w:=by
 have n:(0:Int)<=m/\(m:Int)<=cap:=by omega
 have o:(0:Int)<=h/\(h:Int)<=m:=by omega
 have k:(0:Int)<=l/\(l:Int)<=h:=by omega
 obtain⟨r,rfl⟩:=c;obtain⟨p,rfl⟩:=a;rcases b with⟨rfl,rfl⟩|⟨q,rfl⟩<;>
  simp[Instr.sliceBounds,Instr.sliceBound,asIntOf,n,o,k,d,e]
theorem YV (hS:OM A w σ o) (C:∀x,nA A w σ o (Ov x) (NI x)) {t e sz:Nat} {x:Operand} {lo:Option Operand} {s mx:Operand} (a0:oper.op= .slice t x lo (some s) (some mx)) (ht:P.underlying t=some (.slice e)) (Z:bK P e=some sz) (b6:¬sz=0)
  (h:qF o sz (Ov x) (lo.map Ov) (Ov s) (Ov mx)=some v):bA A P NI oper w σ o v o:=by
 have r:=C x;have D:∀(a:Option Addr) (g j l k m:Nat),NI x= .slice a g j->gp 0 (lo.map Ov)=some l->gp g (some (Ov s))=some k->gp g (some (Ov mx))=some m->l<=k->k<=m->m<=j->
   nA A w σ o v (.slice (if m=l then a else a.map (·.add (l*sz))) (k - l) (m - l))->bA A P NI oper w σ o v o:=by
  intro a g j l k m p S M V F H a2 hr;refine bA.bi hS ?_ hr;have b1:=v_ (p5 C lo).1 (p5 C lo).2 S;have f:∀(y:Operand) (n:Nat),gp g (some (Ov y))=some n->∃q,NI y= .int q (n:Int):=by
   intro y n hy;rcases v_ (a:=some (Ov y)) (u:=some (NI y)) (λx r=>by injection r with r;subst r;exact⟨_,rfl,C y⟩) (λh=>by cases h) hy with⟨h,_⟩|⟨q,h⟩;all_goals simp_all
  have b2:=f s k M;have b4:=f mx m V;simp only[execOp,a0,Instr.sliceAt,p,Instr.slice];simp[run_underlying ht,YW g j l k m _ _ _ b1 b2 b4 F H a2,oE Z]
 unfold qF at h;split at h
 ·rename_i n cs E;rw[E] at r;simp only[nA] at r;obtain⟨a,j,p,hn,hp,V⟩:=r;split at h
  ·rename_i l k m S M I;split at h
   ·rename_i U;injection h with h;subst h;refine D a n j l k m p S M I U.1 U.2.1 (by omega) ?_;simp only[nA];refine⟨_,_,rfl,by omega,?_,?_⟩
    ·refine rn λc a4=>oD hp c ?_;exact List.mem_of_mem_drop (List.mem_of_mem_take a4)
    ·refine cH.kg _ _ _ λi c s=>?_;rw[δj] at s;split at s
     ·rename_i b0;rw[δA] at s;obtain⟨b,u,rfl,a8,a3,hr⟩:=cH.get _ _ _ V _ _ s;have O:m≠l:=by
       grind
      simp_all[cY,add_add]
     ·cases s
   ·cases h
  ·cases h
 ·rename_i id z g N E;rw[E] at r;simp only[nA] at r;obtain⟨a1,a,j,p,a9,L⟩:=r;split at h
  ·rename_i l k m S M I;split at h
   ·rename_i cs e' d pu ho;split at h
    ·rename_i U;injection h with h;subst h;obtain⟨F,H,b3,a5,rfl,T,K⟩:=U;refine D a g j l k m p S M I F H (by omega) ?_;simp only[nA];refine⟨a1,_,_,rfl,by omega,λY R=>?_⟩;have J:=L Y R;obtain⟨b5,e2,a7,B,_⟩:=R;rw[ho] at B;injection B with B;injection B with _ _ hsz2 _;subst hsz2;have a6:l*d+(k - l)*d=k*d:=by rw[<-δV];congr 1;omega
     have X:k*d<=g*d:=γN _ (by omega);unfold j3 at J ⊢;split
     ·rename_i G;rw[G] at J;obtain⟨h2,h3,h4,h5⟩:=J;subst h3;exact⟨h2,by simp,by omega,by omega⟩
     ·rename_i b c G;rw[G] at J;obtain⟨h2,h3,h4⟩:=J;refine⟨λW=>?_,λhz=>by omega,.inr ⟨by omega,by omega,K⟩⟩;have O:m≠l:=by omega
      have Q:(⟨b,z,none⟩:Addr).add (l*d)=⟨b,z+l*d,none⟩:=by unfold Addr.add;split<;>simp_all
      rw[h2 (by omega),if_neg O,nV (by omega),By (by omega),ν,Q,show z+l*d+(N+d) - N - d=z+l*d by omega]
     simp_all
    ·cases h
   ·cases h
  ·cases h
 ·cases h
theorem YU (g:OM A w σ o) (a:∀x,nA A w σ o (Ov x) (NI x)) {t l k:Nat} {x:Operand} {s:ByteArray} {lo b:Option Operand} (e:oper.op= .slice t x lo b none) (j:P.underlying t=some .string)
  (p:Ov x= .sc (.string s)) (i:gp 0 (lo.map Ov)=some l) (n:gp s.size (b.map Ov)=some k) (c:l<=k) (d:k<=s.size):bA A P NI oper w σ o (.sc (.string (s.extract l k))) o:=by
 have f:=a x;rw[p] at f;have m:=fN f;refine bA.bi g (u:=.string (s.extract l k)) ?_ (by simp[nA,Value.oneCell']);have h:=v_ (p5 a lo).1 (p5 a lo).2 i;have q:=v_ (p5 a b).1 (p5 a b).2 n;simp only[execOp,e,Instr.sliceAt,m,Instr.slice];simp[run_underlying j,O1 false s.size s.size l k _ _ h q c d]
theorem G9 (place:Nat->Option (Nat×Nat)):∀(f:List (Nat×Nat×AV)) (b:List (Nat×Value)) (cs:List AV) (vs:Array Value) (h:List AV),
  f.length=b.length->(∀(i:Nat) (p:Nat×Nat×AV) (q:Nat×Value),f[i]?=some p->b[i]?=some q->place q.1=some (p.1,p.2.1)/\nA A w σ o p.2.2 q.2)->
  Aq A w σ o cs vs.toList->dP cs=true->kA f cs=some h->
  ∃C,Instr.fill place vs b=some C/\Aq A w σ o h C.toList/\dP h=true/\h.length=cs.length
 |[],[],cs,vs,h,_,_,G,L,r=>by
  simp only[kA,γ] at r;subst r;exact⟨vs,rfl,G,L,rfl⟩;|[],_::_,_,_,_,s,_,_,_,_=>by simp at s;|_::_,[],_,_,_,s,_,_,_,_=>by simp at s;|(e,n,a)::f,(i,u)::b,cs,vs,h,s,H,G,L,r=>by
  simp only[kA] at r;split at r
  ·rename_i O;obtain⟨J,S,U⟩:=O;obtain⟨I,K⟩:=H 0 (e,n,a) (i,u) rfl rfl;simp only at I K;obtain⟨Q,W⟩:=K.cells S;have t:=Aq.length _ _ Q;have E:=Aq.length _ _ G;have z:u.cells.size=n:=by rw[<-J,t];simp
   simp only[Instr.fill,I];rw[if_neg (by simp_all)];have M:∀(l:List Value) (k:Nat) (m:Array Value),((l.zipIdx k).foldl (λcs (p:Value×Nat)=>cs.setIfInBounds (e+p.2) p.1) m).size=m.size/\
     ∀j,e+k+l.length<=m.size->((l.zipIdx k).foldl (λcs (p:Value×Nat)=>cs.setIfInBounds (e+p.2) p.1) m)[j]?=if e+k<=j/\j<e+k+l.length then l[j - (e+k)]? else m[j]?:=by
    intro l;induction l with
    |nil=>intro k m;simp;omega;|cons x l ih=>
     intro k m;simp only[List.zipIdx_cons,List.foldl_cons];grind
   have D:Array.foldl (λcs (p:Value×Nat)=>cs.setIfInBounds (e+p.2) p.1) vs u.cells.zipIdx=(u.cells.toList.zipIdx 0).foldl (λcs (p:Value×Nat)=>cs.setIfInBounds (e+p.2) p.1) vs:=by
    rw[<-Array.foldl_toList];simp
   obtain⟨Z,P⟩:=M u.cells.toList 0 vs;have y:Aq A w σ o (fz cs e a.cellsOf) ((u.cells.toList.zipIdx 0).foldl (λcs (p:Value×Nat)=>cs.setIfInBounds (e+p.2) p.1) vs).toList:=by
    refine Aq.kg _ _ (by grind[yk]) λj c v=>?_;rw[Bw _ _ _ (by omega)] at v;have F:=P j (by simp_all);simp only[γX];rw[F];simp only[Nat.add_zero,Array.length_toList,z];rw[J] at v;by_cases g:e<=j/\j<e+n
    ·rw[if_pos g] at v ⊢;grind[Aq.get]
    ·rw[if_neg g] at v ⊢;grind[Aq.get]
   have B:dP (fz cs e a.cellsOf)=true:=lR.2 λd Y=>by
    grind[yj,lR]
   obtain⟨C,V,T,X,k4⟩:=G9 place f b _ _ h (by simpa using s) (λi p q R N=>H (i+1) p q (by simpa using R) (by simpa using N)) y B r;grind[yk]
  ·cases r
end
section
variable {P:Program} {A:dc} {w w':World} {σ σ':TM} {o o':a_} {Ov:Operand->AV} {NI:Operand->Value} {oper:Oper} {v:AV}
theorem G8 {d c:Type} {f:d->Option c}:∀{l:List d} {r:List c},p8 f l=some r->l.length=r.length/\∀(i:Nat) (a:d) (b:c),l[i]?=some a->r[i]?=some b->f a=some b
 |[],r,h=>by grind[p8];|a::l,r,h=>by
  simp only[p8] at h;split at h
  ·rename_i b j m e;injection h with h;subst h;obtain⟨g,k⟩:=G8 e;grind
  ·cases h
theorem PJ (H:OM A w σ o) (g:∀x,nA A w σ o (Ov x) (NI x)) {t:TypeId} {place:Nat->Option (Nat×Nat)} {z:List Value} {a:Array (Nat×Operand)} {f:List (Nat×Nat×Operand)} {cs:List AV} (G:oper.op= .build t a)
  (J:kI P t=some z) (E:∀e:Value,(P.info? t).bind (·.zero)=some e->∀l,P.built t l=Instr.fill place e.cells l)
  (c:f.length=a.toList.length) (n:∀(i:Nat) (p:Nat×Operand) (q:Nat×Nat×Operand),a.toList[i]?=some p->f[i]?=some q->place p.1=some (q.1,q.2.1)/\q.2.2=p.2)
  (B:kA (f.map λp=>(p.1,p.2.1,Ov p.2.2)) (z.map .sc)=some cs):bA A P NI oper w σ o (.agg cs) o:=by
 obtain⟨i,e,N,D,d,h,b⟩:=tv J;obtain⟨r,Q,L,K,O⟩:=G9 (w:=w) (σ:=σ) (o:=o) place (f.map λp=>(p.1,p.2.1,Ov p.2.2)) (a.toList.map λp=>(p.1,NI p.2)) (z.map .sc) e.cells cs (by simpa using c)
  (λj p q v s=>by
   rw[List.getElem?_map,ε] at v s;obtain⟨C,m,rfl⟩:=v;obtain⟨F,k,rfl⟩:=s;obtain⟨I,y⟩:=n j F C k m;exact⟨I,by simp only[y];exact g _⟩) (by grind[tA]) (Ha b) B;have M:P.built t (a.toList.map λp=>(p.1,NI p.2))=some r:=by simp_all
 refine bA.bi H (u:=.agg r) ?_ (by grind[nA]);simp_all[run_build,execOp]
theorem PI (A:dc) (w:World) (σ:TM) (o:a_) {z:List Value} (a:∀u∈z,u.oneCell'=true) (b:Array Value) (q:b.toList=z):∀n:Nat,
  Aq A w σ o (δ n (z.map δh)).flatten (madeCells b (n*z.length)).toList:=by
 intro n;have i:((δ n (z.map δh)).flatten).length=n*z.length:=by simp
 refine Aq.kg _ _ (by simp[madeCells]) λj c d=>?_;have e:j<n*z.length:=by grind
 have f:∀(n j:Nat),j<n*z.length->((δ n (z.map δh)).flatten)[j]?=(z.map δh)[j % z.length]?:=by
  intro n;induction n with
  |zero=>omega;|succ n m=>
   intro j d;rw[δe,ζm,εo];simp only[List.length_map];by_cases h:j<z.length;·rw[if_pos h,Nat.mod_eq_of_lt h]
   ·rw[if_neg h,m (j - z.length) (by grind)];congr 1;rw[Nat.mod_eq_sub_mod (by omega:j≥z.length)]
 rw[f n j e] at d;obtain⟨u,r,l⟩:=Aq.get _ _ (tA A w σ o z a) _ c d;refine⟨u,?_,l⟩;have k:b.size=z.length:=by grind
 have g:0<z.length:=by
  grind
 have p:j % z.length<b.size:=by grind
 simp only[madeCells,γX];grind
theorem PH {z:List Value} (a:∀u∈z,u.oneCell'=true) (n:Nat):dP (δ n (z.map δh)).flatten=true:=by
 refine lR.2 λc b=>?_;simp only[ζ1,ζc] at b;grind[lR,Ha]
theorem YT (z:List Value) (n:Nat):cK (δ n (z.map δh)).flatten=true:=by
 refine rn λc a=>?_;simp only[ζ1,ζc] at a;grind[oD,O8]
theorem PG (r:∀x,nA A w σ o (Ov x) (NI x)) {t e b:Nat} {z:List Value} {a:Array (Nat×Operand)} {cs:List AV} (F:P.underlying t=some (.slice e)) (E:kI P e=some z) (m:0<z.length) (C:b*z.length<=16777216)
  (B:kA ((a.toList.map λp=>(p.1*z.length,p.2)).map λp=>(p.1,z.length,Ov p.2)) (δ b (z.map δh)).flatten=some cs):
  ∃g:Array Value,(Instr.buildSlice t b (a.map λp=>(p.1,NI p.2))).run P w= .ok (.slice (some ⟨w.heap.size,0,none⟩) b b) (w.alloc (.cells g e))/\Aq A w σ o cs g.toList/\dP cs=true/\cs.length=b*z.length:=by
 obtain⟨i,k,H,l,c,f,d⟩:=tv E;have v:k.cells.size=z.length:=by grind
 obtain⟨g,n,D,u,s⟩:=G9 (w:=w) (σ:=σ) (o:=o) (λi=>some (i*z.length,z.length)) ((a.toList.map λp=>(p.1*z.length,p.2)).map λp=>(p.1,z.length,Ov p.2))
  (a.toList.map λp=>(p.1,NI p.2)) _ (madeCells k.cells (b*z.length)) cs (by simp)
  (λj p q K J=>by
   grind) (PI A w σ o d k.cells c b) (PH d b) B;have y:cs.length=b*z.length:=by rw[s];simp
 refine⟨g,?_,D,u,y⟩;by_cases I:b*z.length=0
 ·have G:b=0:=by
   rcases Nat.mul_eq_zero.1 I with h|h<;>omega
  simp_all[madeCells,Array.range_zero',Instr.buildSlice,run_underlying,sizeOf,typeInfo,newRow]
 ·exact run_buildSlice w t e b _ g i k F H l (by simp_all) (by simp_all) (by
   rw[f];have:(a.map λp=>(p.1,NI p.2)).toList=a.toList.map λp=>(p.1,NI p.2):=by simp
   rw[this];exact n)
theorem YR (r:OM A w σ o) (l:∀x,nA A w σ o (Ov x) (NI x)) {t e a oz:Nat} {z:List Value} {b:Array (Nat×Operand)} {cs:List AV} (E:oper.op= .buildSlice t a b) (H:P.underlying t=some (.slice e))
  (y:kI P e=some z) (d:0<z.length) (i:a*z.length<=16777216)
  (B:kA ((b.toList.map λp=>(p.1*z.length,p.2)).map λp=>(p.1,z.length,Ov p.2)) (δ a (z.map δh)).flatten=some cs) (s:o[oz]?=some .dead):
  bA A P NI oper w σ o (.os oz 0 a (a*z.length)) (o.set oz (.cells (ee (cK cs) cs) e z.length (cK cs))):=by
 obtain⟨q,J,v,G,K⟩:=PG l H y d i B;have f:oz<o.length:=(ζ.1 s).1;have m:oz<σ.length:=by rw[r.len];exact f
 have g:q.size=a*z.length:=by have:=Aq.length _ _ v;simp_all
 have n:a<=maxLen:=by
  have:a*1<=a*z.length:=Nat.mul_le_mul_left _ d;grind[maxLen]
 obtain⟨k,D⟩:=r.Bv (w:=w) (arr:=q) (e:=e) (sz:=z.length) (cap:=a) (pu:=cK cs) (cs:=ee (cK cs) cs) s g n (by grind[rq]) (Hc G) (λh=>Bx h)
  (λj c N=>by grind[Hb]);refine⟨.slice (some ⟨w.heap.size,0,none⟩) a a,_,_,.inl ?_,k,?_,D⟩;·simp_all[execOp]
 ·simp only[nA];refine⟨⟨_,_,_,_,by rw[γL f],by grind[rq]⟩,_,_,rfl,ξ _,λM C=>?_⟩;obtain⟨F,L,I,u,_⟩:=C;grind[j3,nV]
theorem OM.grow (a:OM A w σ o) (x:Obj):OM A (w.alloc x) σ o/\Ext w σ o (w.alloc x) σ o:=by
 have e:Ext w σ o (w.alloc x) σ o:=⟨by simp,λb d g=>⟨heap_alloc_old w x b d,g⟩,ξ _,λ_ _ h=>⟨h,λ_ h=>⟨h,rfl⟩⟩,λ_ h=>⟨h,rfl⟩,rfl,rfl,rfl⟩;exact⟨⟨a.len,a.dist,λi b c h=>γj (a.dZ i b c h) (by simp),λi y f=>(a.obj i y f).ext e rfl λb c d=>heap_alloc_old w x b (a.dZ i b c d),a.av,λb d=>γj (a.avb b d) (by simp)⟩,e⟩
theorem YQ (f:OM A w σ o) (h:∀x,nA A w σ o (Ov x) (NI x)) {t e a:Nat} {z:List Value} {b:Array (Nat×Operand)} {cs:List AV} (r:oper.op= .buildSlice t a b) (C:P.underlying t=some (.slice e))
  (q:kI P e=some z) (d:0<z.length) (g:a*z.length<=16777216)
  (v:kA ((b.toList.map λp=>(p.1*z.length,p.2)).map λp=>(p.1,z.length,Ov p.2)) (δ a (z.map δh)).flatten=some cs) (s:cK cs=true):
  bA A P NI oper w σ o (.sl a (ee true cs)) o:=by
 obtain⟨m,F,D,G,H⟩:=PG h C q d g v;obtain⟨k,l⟩:=f.grow (.cells m e);refine⟨.slice (some ⟨w.heap.size,0,none⟩) a a,_,_,.inl ?_,k,?_,l⟩;·simp_all[execOp]
 ·simp only[nA];refine⟨_,_,rfl,ξ _,Bx s,cH.kg _ _ _ λj c B=>?_⟩;obtain⟨u,I,y⟩:=Hb D B;refine⟨_,u,rfl,?_,?_,y.ext l⟩
  ·refine⟨?_,λn=>by have:=f.avb _ n;simp at this⟩;rintro⟨i,c,E⟩;have:=f.dZ i _ c E;simp at this
  grind[Addr.add,World.cell?,heap_alloc_new]
theorem YP (pu:Bool) (n:Nat) (cs:List AV):(δ n (ee pu cs)).flatten=ee pu (δ n cs).flatten:=by
 unfold ee;split<;>simp_all
theorem ZC (D:OM A w σ o) (p:∀x,nA A w σ o (Ov x) (NI x)) {t e oz a:Nat} {z:List Value} {l c:Operand} {n m:Int} {pu:Bool} (V:oper.op= .makeSlice t l c) (Z:P.underlying t=some (.slice e))
  (hz:kI P e=some z) (hb:wk P e=some a) (S:gq (Ov l)=some n) (I:gq (Ov c)=some m) (H:0<=n) (v:n<=m) (W:m*a<=140737488355328) (hm:m<=1000000000000)
  (E:o[oz]?=some .dead):bA A P NI oper w σ o (.os oz 0 n.toNat (n.toNat*z.length)) (o.set oz (.cells (δ n.toNat (ee pu (z.map δh))).flatten e z.length pu)):=by
 rw[YP];obtain⟨i,q,hi,B,b,f,d⟩:=tv hz;obtain⟨O,T⟩:=wb (p l) S;obtain⟨M,N⟩:=wb (p c) I;have K:i.bytes=a:=by grind[wk]
 have g:=run_make (P:=P) w t e i q Z hi B O M n m H v (by grind) (by omega);rw[f] at g;have k:oz<o.length:=(ζ.1 E).1;have s:oz<σ.length:=by rw[D.len];exact k
 have J:n.toNat*z.length<=m.toNat*z.length:=γN _ (by omega);have h:=PI A w σ o d q.cells b m.toNat;obtain⟨C,U⟩:=D.Bv (w:=w) (arr:=madeCells q.cells (m.toNat*z.length)) (e:=e) (sz:=z.length) (cap:=m.toNat) (pu:=pu) (cs:=ee pu (δ n.toNat (z.map δh)).flatten) E (by simp[madeCells])
  (by grind[maxLen]) (by simp_all[rq,madeCells]) (Hc (PH d _)) (λ_=>Bx (YT _ _))
  (λj c F=>by
   have L:Aq A w σ o (δ n.toNat (z.map δh)).flatten ((madeCells q.cells (m.toNat*z.length)).toList.take (n.toNat*z.length)):=by
    refine Aq.kg _ _ (by simp_all[madeCells]) λj c F=>?_;have X:=(ζ.1 F).1;have G:j<n.toNat*z.length:=by simp_all
    have r:(δ m.toNat (z.map δh)).flatten=(δ n.toNat (z.map δh)).flatten++(δ (m.toNat - n.toNat) (z.map δh)).flatten:=by
     rw[<-List.flatten_append,List.replicate_append_replicate];grind
    obtain⟨u,hu,hr⟩:=Aq.get _ _ h j c (by grind);simp_all
   grind[Hb]);refine⟨.slice (some ⟨w.heap.size,0,none⟩) n.toNat m.toNat,_,_,.inl ?_,C,?_,U⟩;·simp_all[execOp]
 ·simp only[nA];refine⟨⟨_,_,_,_,by rw[γL k],by rw[rq];simp⟩,_,_,rfl,by omega,λsz y=>?_⟩;obtain⟨Y,e2,Q,R,_⟩:=y;grind[j3,nV]
end
section
variable {P:Program} {A:dc} {w w':World} {σ σ':TM} {o o':a_} {Ov:Operand->AV} {NI:Operand->Value} {oper:Oper} {v:AV}
theorem G7 (b a j:Nat):(⟨b,a,none⟩:Addr).add j=⟨b,a+j,none⟩:=by grind[Addr.add]
theorem ZB (C:OM A w σ o) {sz:Nat} (B:0<sz) {a:AV} {u:Value} (h:nA A w σ o a u) {m:Nat} {i:List AV} (f:lT o sz a=some (m,i)):
  ∃Z c,u= .slice Z m c/\m<=c/\i.length=m*sz/\∀(j:Nat) (d:AV),i[j]?=some d->∃(p:Addr) (v:Value),Z=some p/\w.cell? (p.add j)=some v/\nA A w σ o d v:=by
 unfold lT at f;split at f;·grind[nA,cH.get]
 ·rename_i F J s E;simp only[nA] at h;obtain⟨H,Z,t,rfl,D,k⟩:=h;split at f
  ·rename_i G e r K x;split at f
   ·rename_i g;obtain⟨l,rfl,q⟩:=g;simp only[γ,ι] at f;obtain⟨rfl,rfl⟩:=f;have y:=k r ⟨G,e,K,x,l⟩;refine⟨Z,t,rfl,D,by simp;omega,λj d n=>?_⟩;rw[δj] at n;split at n
    ·rename_i M;rw[δA] at n;have z:0<s:=by
      grind
     unfold j3 at y;split at y;·omega
     ·rename_i b c I;have L:=C.obj F _ x;grind[cP,nV,G7,World.cell?]
     simp_all
    ·cases n
   ·cases f
  ·cases f
 all_goals grind[fN]
theorem ZA {t g e:TypeId} {i:TypeInfo} (b:P.underlying t=some (.slice e)) (d:P.info? e=some i) (B Z:Option Addr) (n c f:Nat) (a:n<=c) (w:World):
  (Builtin.append_ #[t,t] g #[.slice B n c,.slice Z 0 f]).run P w= .ok (.slice B n c) w:=by
 cases B<;>cases Z<;>simp[Builtin.append_,run_underlying b,sizeOf,typeInfo,d,Builtin.lenOf,Builtin.firstCells,a,loadCells,loadCellsFrom,storeCells]
theorem G6 {t:TypeId} {c:Call} {s x:Operand} (a:oper.op= .call c) (e:c.callee= .builtin .append) (d:c.args=#[s,x]) (b:c.argTypes=#[t,t]) {u:Value}
  (h:(Builtin.append_ #[t,t] oper.type #[NI s,NI x]).run P w= .ok u w'):(execOp NI oper).run P w= .ok (.value u) w':=by
 simp[execOp,a,resolve,e,d,b,invoke,builtin,h]
theorem PF {A:dc} {w:World} {σ:TM} {o:a_} {Z:Option Addr}:∀(a:List AV) (k:Nat),(∀(j:Nat) (d:AV),a[j]?=some d->∃(p:Addr) (v:Value),Z=some p/\w.cell? (p.add (k+j))=some v/\nA A w σ o d v)->
  ∃vs:List Value,Aq A w σ o a vs/\∀(p:Addr),Z=some p->∀(j:Nat) (u:Value),vs[j]?=some u->w.cell? (p.add (k+j))=some u
 |[],_,_=>⟨[],by simp[Aq],by simp⟩
 |d::a,k,h=>by
  obtain⟨p,v,i,l,e⟩:=h 0 d (by simp);obtain⟨vs,c,g⟩:=PF a (k+1) (λj b f=>by
   have:=h (j+1) b (by simp_all);rwa [show k+1+j=k+(j+1) from by omega]);refine⟨v::vs,by grind[Aq],λq m j u n=>?_⟩;grind
theorem PE {A:dc} {w:World} {σ:TM} {o:a_}:∀{cs:List AV} {vs:List Value},Aq A w σ o cs vs->dP cs=true->∀u∈vs,u.oneCell'=true
 |[],vs,d,_=>by grind[Aq];|c::cs,vs,d,a=>by
  simp only[Aq] at d;obtain⟨v,r,rfl,e,f⟩:=d;simp only[dP,ζv,θ] at a;intro u b;rcases γw.1 b with rfl|b;·exact e.one a.1
  ·exact PE f a.2 u b
theorem Zz (hS:OM A w σ o) (c4:∀x,nA A w σ o (Ov x) (NI x)) {t e sz f oz:Nat} {z:List Value} {c:Call} {s x:Operand} {pu:Bool} (c1:oper.op= .call c) (hc:c.callee= .builtin .append) (ha:c.args=#[s,x]) (c6:c.argTypes=#[t,t])
  (ht:P.underlying t=some (.slice e)) (hz:kI P e=some z) (hb:wk P e=some f) (f1:sz=z.length) (y:0<sz) (h:oL e sz f pu (Ov s) (Ov x) o oz=some (v,o')):bA A P NI oper w σ o v o':=by
 obtain⟨i,zv,hi,c8,c9,e3,f0⟩:=tv hz;have c7:i.bytes=f:=by grind[wk]
 have b3:i.size=sz:=by omega
 have c3:zv.cells.size=sz:=by grind
 unfold oL at h;split at h;·cases h
 rename_i m q e1;split at h;·cases h
 rename_i h1;have b1:dP q=true:=by simpa using h1
 obtain⟨Z,cx,g0,f9,b7,K⟩:=ZB hS y (c4 x) e1;have d3:∀(B:Option Addr) (n l:Nat),m=0->NI s= .slice B n l->n<=l->(execOp NI oper).run P w= .ok (.value (.slice B n l)) w:=by
  grind[G6,ZA]
 obtain⟨vs,a4,f6⟩:=PF (w:=w) (σ:=σ) (o:=o) (Z:=Z) q 0 (λj d hd=>by simpa using K j d hd);have M:vs.length=m*sz:=by grind[Aq.length]
 have J:=PE a4 b1;have hs:=c4 s;split at h;·
  rename_i a1;rw[a1] at hs;have d8:=fN hs;split at h;·grind[bA.bi,yp]
  ·rename_i a7;split at h
   ·rename_i F;obtain⟨a8,b9,a9⟩:=F;cases U:j7 oz (.cells q e sz pu) o with
    |none=>simp[U] at h;|some o2=>
     simp only[U,ν,γ,ι] at h;obtain⟨rfl,rfl⟩:=h;obtain⟨hd,rfl⟩:=wc U;have L:oz<o.length:=(ζ.1 hd).1;have X:oz<σ.length:=by rw[hS.len];exact L
     have a0:0<q.length:=by rw[b7];exact Nat.mul_pos (by omega) y
     obtain⟨p,_,hp,_⟩:=K 0 _ (μ a0);obtain⟨v',N,b8,r,a,c5,e0⟩:=run_append_own_at (P:=P) w w.heap.size t oper.type e i zv sz f ht hi c8 b3 c7 c3 y (.slice none 0 0) 0 [] (World.ownsRow_nil w _ _ _) p m cx vs M
      (λj u hu=>by simp_all) J (by grind[maxLen]) (by simp_all) (ξ _);have G:=G6 (P:=P) (w:=w) (w':=N) (NI:=NI) c1 hc ha c6 (u:=v') (by simp_all);simp only[Nat.zero_add,List.nil_append] at r;rcases r.2 with⟨I,d4⟩|⟨g,l,O,I,hg,hh,H,a2,a3,b4⟩;·omega
     ·have d9:g<N.heap.size:=(γA.1 hh).1;obtain⟨Y,hE⟩:=OM.iw (w':=N) (x:=.dead) (x':=.cells q e sz pu) (s':=some (g,l)) hS hd a.size a.os a.tape a.output (λb W _=>a.block b W (by simp[Value.ownBlock]))
       (λb c2 h2=> .inr (by simp_all)) trivial (λhE=>by
        simp only[cP];refine⟨λb2=>a9.resolve_left (by simp[b2]),b1,.inr ⟨g,l,O,by simp_all,a2,hh,a3,by
         grind,λj d T=>?_⟩⟩;obtain⟨u,hu,hr⟩:=Aq.get _ _ a4 j d T;refine⟨u,?_,hr.ext hE⟩;grind);refine⟨v',N,_,.inl G,Y,?_,hE⟩;simp only[nA];refine⟨⟨_,_,_,_,by rw[γL L],by omega⟩,_,_,I,H,λe6 a5=>?_⟩;obtain⟨e4,e2,d5,d6,_⟩:=a5;grind[j3,nV]
   ·cases h
 ·
  rename_i id E f2 a1;rw[a1] at hs;simp only[nA] at hs;obtain⟨f3,B,C,d8,S,b6⟩:=hs;split at h
  ·rename_i cs e' D R ho;split at h
   ·rename_i F;obtain⟨c0,rfl,rfl,a6,a8,b9,a9⟩:=F;simp only[γ,ι] at h;obtain⟨rfl,rfl⟩:=h;have L:id<o.length:=(ζ.1 ho).1;have X:id<σ.length:=by rw[hS.len];exact L
    have hk:=b6 D ⟨cs,e',R,ho,c0⟩;have Q:=hS.obj id _ ho;simp only[cP] at Q;obtain⟨q1,q2,q3⟩:=Q;rcases Nat.eq_zero_or_pos m with a7|e5;·
     have d7:q=[]:=τ (by rw[b7,a7];simp);subst a7 d7;have e7:o.set id (.cells (cs++[]) e' D R)=o:=by
      apply γ9;grind
     grind[bA.bi]
    ·have a0:0<q.length:=by simp_all
     obtain⟨p,_,hp,_⟩:=K 0 _ (μ a0);have b5:∃xs:List Value,w.ownsRow 0 e' D (.slice B E C) E xs/\Aq A w σ o cs xs/\(∀k,(Value.slice B E C).ownBlock=some k->∃d,σ[id]?=some (some (k,d))):=by
      unfold j3 at hk;split at hk;·simp_all[World.ownsRow_nil,Value.ownBlock,Aq]
      ·rename_i b l d2;obtain⟨k1,k2,k3⟩:=hk;obtain⟨k4,k5⟩:=k2 rfl a6 y;subst k4 k5;rcases q3 with⟨h0,_⟩|⟨b',e8,b0,r1,r2,r3,r4,r5,r6⟩;·simp_all
       rw[d2] at r1;simp only[γ,ι] at r1;obtain⟨rfl,rfl⟩:=r1;refine⟨b0.toList.take (E*D),⟨by simp;omega,.inr ⟨b,C,b0,rfl,δ4 _,r3,S,r2,r4,rfl⟩⟩,Aq.kg _ _ (by simp;omega) λj d hd=>?_,λk hk=>⟨C,by grind[Value.ownBlock]⟩⟩;grind
      ·exact hk.elim
     obtain⟨xs,V,d1,e9⟩:=b5;obtain⟨v',N,b8,r,a,c5,e0⟩:=run_append_own_at (P:=P) w 0 t oper.type e' i zv D f ht hi c8 b3 c7 c3 y (.slice B E C) E xs V p m cx vs M
      (λj u hu=>by simp_all) J (by grind[maxLen]) a8 (δ4 _);have G:=G6 (P:=P) (w:=w) (w':=N) (NI:=NI) c1 hc ha c6 (u:=v') (by simp_all);rcases r.2 with⟨I,d4⟩|⟨g,l,O,I,hg,hh,H,a2,a3,b4⟩;·omega
     ·have d9:g<N.heap.size:=(γA.1 hh).1;have f4:(∃d,σ[id]?=some (some (g,d)))\/g=w.heap.size:=by
       have f5:v'.ownBlock=some g:=by rw[I];rfl
       grind
      have d0:(cs++q).length=(E+m)*D:=by grind
      obtain⟨Y,hE⟩:=OM.iw (w':=N) (x':=.cells (cs++q) e' D R) (s':=some (g,l)) hS ho a.size a.os a.tape a.output
       (λb W f7=>a.block b W (λhe=>by grind))
       (λb c2 h2=>by
        grind)
       ⟨_,_,_,rfl,by simp,λf8=>by grind⟩ (λhE=>by
        simp only[cP];refine⟨λb2=>rn λd hd=>?_,lR.2 λd hd=>?_,.inr ⟨g,l,O,by simp_all,a2,hh,a3,by
         have:(O.toList.take ((E+m)*D)).length=(xs++vs).length:=by rw[b4]
         rw[r.1] at this;simp at this;omega,λj d T=>?_⟩⟩;·grind[oD]
        ·grind[lR]
        ·obtain⟨u,hu,hr⟩:=Aq.get _ _ (Aq.append d1 a4) j d T;refine⟨u,?_,hr.ext hE⟩;grind);refine⟨v',N,_,.inl G,Y,?_,hE⟩;simp only[nA];refine⟨⟨_,_,_,_,by rw[γL L],by rw[d0,δV];omega⟩,_,_,I,H,λe6 a5=>?_⟩;obtain⟨e4,e2,d5,d6,_⟩:=a5;grind[j3,nV]
   ·cases h
  ·cases h
 all_goals grind[nA,bA.bi]
end
section
variable {P:Program} {A:dc} {w w':World} {σ σ':TM} {o o':a_} {Ov:Operand->AV} {NI:Operand->Value} {oper:Oper} {v:AV}
def kH (P:Program) (t:TypeId) (l:List Value):Value:=
 match eI P t with
 |some true=> .agg l.toArray
 |_=>l.headD undef
theorem lQ:∀{a:List Nat} {vs:List Value},dK a vs=true->vs.length=a.length
 |[],[],_=>rfl
 |[],_::_,h=>by grind[dK];|k::a,[],h=>by grind[dK];|0::a,v::vs,h=>by cases v<;>simp only[dK,φ] at h<;>simp[lQ h];|1::a,v::vs,h=>by cases v<;>simp only[dK,φ] at h<;>simp[lQ h];|2::a,v::vs,h=>by cases v<;>simp only[dK,φ] at h<;>simp[lQ h];|(k+3)::a,v::vs,h=>by simp[dK] at h
theorem qB:∀{a b:List Nat} {vs:List Value},dK (a++b) vs=true->dK a (vs.take a.length)=true/\dK b (vs.drop a.length)=true
 |[],b,vs,h=>by grind[dK];|k::a,b,[],h=>by grind[dK];|0::a,b,v::vs,h=>by cases v<;>simp only[γI,dK,φ] at h<;>simpa[dK] using qB h;|1::a,b,v::vs,h=>by cases v<;>simp only[γI,dK,φ] at h<;>simpa[dK] using qB h;|2::a,b,v::vs,h=>by cases v<;>simp only[γI,dK,φ] at h<;>simpa[dK] using qB h;|(k+3)::a,b,v::vs,h=>by simp[dK] at h
theorem G5:∀(n:Nat) {xs e:List Value} {r:Bool},fe xs e=some r->
  ∃a b,fe (xs.take n) (e.take n)=some a/\fe (xs.drop n) (e.drop n)=some b/\r=(a&&b)
 |0,xs,e,r,h=>⟨true,r,by simp[fe],by simpa using h,by simp⟩
 |n+1,[],[],r,h=>by simp_all;|n+1,[],_::_,r,h=>by grind[fe];|n+1,_::_,[],r,h=>by grind[fe];|n+1,x::xs,y::e,r,h=>by
  simp only[fe] at h;split at h
  ·rename_i a b j f;injection h with h;obtain⟨c,d,k,i,g⟩:=G5 n f;grind[fe]
  ·cases h
theorem yi {m:Nat} {t:TypeId} {d:List Nat} (h:fA P (m+1) t=some d):
  (P.underlying t=some .bool/\bK P t=some 1/\d=[1])\/(∃k,P.underlying t=some (.int k)/\bK P t=some 1/\d=[0])\/(P.underlying t=some .string/\bK P t=some 1/\d=[2])\/
  (∃fs,P.underlying t=some (.struct fs)/\P.stoodInHeld t=false/\p9 (fA P m) 0 fs.toList=some d/\bK P t=some d.length)\/
  ∃k e a,P.underlying t=some (.array k e)/\fA P m e=some a/\d=(δ k a).flatten/\bK P t=some (k*a.length):=by
 simp only[fA] at h;split at h;·rename_i k b c;injection h with h;exact .inr (.inl ⟨k,b,c,h.symm⟩)
 ·rename_i b c;injection h with h;exact .inl ⟨b,c,h.symm⟩
 ·rename_i b c;injection h with h;exact .inr (.inr (.inl ⟨b,c,h.symm⟩))
 ·rename_i fs n b c;split at h;·cases h
  ·rename_i i;split at h
   ·rename_i a f;split at h
    ·rename_i g;injection h with h;subst h;exact .inr (.inr (.inr (.inl ⟨fs,b,by simp_all,f,by rw[g];exact c⟩)))
    ·cases h
   ·cases h
 ·rename_i k e n b c;split at h
  ·rename_i a f;split at h
   ·rename_i g;injection h with h;subst h;exact .inr (.inr (.inr (.inr ⟨k,e,a,b,f,rfl,by rw[<-g];exact c⟩)))
   ·cases h
  ·cases h
 ·cases h
theorem wx {m:Nat} {t:TypeId} {d:List Nat} (h:fA P m t=some d):bK P t=some d.length/\(∃b,eI P t=some b):=by
 cases m with
 |zero=>grind[fA];|succ m=>
  rcases yi h with⟨a,c,rfl⟩|⟨k,a,c,rfl⟩|⟨a,c,rfl⟩|⟨g,a,_,_,c⟩|⟨k,e,f,a,_,rfl,c⟩;all_goals simp_all[eI]
theorem wv {t:TypeId} {e:List Nat} (i:bK P t=some e.length) (k:∃b,eI P t=some b) (c:eI P t=some false->e.length=1) (xs:Array Value) (a:Nat) (j:a+e.length<=xs.size) (w:World):
  (part t xs a).run P w= .ok (kH P t ((xs.toList.drop a).take e.length)) w:=by
 obtain⟨b,d⟩:=k;cases b with
 |true=>
  simp only[part,Sem.run_bind,we d,Result.andThen_ok,if_true,oE i,Sem.run_pure,kH,d];congr 2;grind;|false=>
  have g:=c d;have f:a<xs.size:=by omega
  simp only[part,Sem.run_bind,we d,Result.andThen_ok,φ,if_false,kH,d,g];rw[Array.getElem?_eq_getElem f];have h:xs.toList.drop a=xs[a]::xs.toList.drop (a+1):=by
   rw[List.drop_eq_getElem_cons (by omega)];simp
  rw[h];simp
theorem tt {m:Nat} {t:TypeId} {a:List Nat} (h:fA P m t=some a) (b:eI P t=some false):a.length=1:=by
 cases m<;>grind[fA,yi,eI]
theorem Bu (d:Nat):∀(m:Nat) (t:TypeId) (I:List Nat),fA P m t=some I->∀(xs h:List Value) (r:Bool),dK I xs=true->dK I h=true->fe xs h=some r->∀w:World,
  (Op.equalIn (d+m) t (kH P t xs) (kH P t h)).run P w= .ok r w
 |0,t,I,hk,_,_,_,_,_,_,_=>by grind[fA];|m+1,t,I,hk,xs,h,r,O,R,G,w=>by
  rw[show d+(m+1)=(d+m)+1 from rfl];rcases yi hk with⟨s,U,rfl⟩|⟨k,s,U,rfl⟩|⟨s,U,rfl⟩|⟨fs,s,a1,x,U⟩|⟨k,e,c,s,x,rfl,U⟩;·match xs,h,O,R with
   |[.bool a],[.bool b],_,_=>
    simp[fe,seq1] at G;subst G;simp[kH,eI,s,Op.equalIn,run_underlying s]
  ·match xs,h,O,R with
   |[.int k1 a],[.int k2 b],_,_=>
    simp only[fe,seq1] at G;by_cases he:k1=k2
    ·subst he;simp at G;subst G;simp[kH,eI,s,Op.equalIn,run_underlying s]
    simp_all
  ·match xs,h,O,R with
   |[.string a],[.string b],_,_=>
    simp[fe,seq1] at G;subst G;simp[kH,eI,s,Op.equalIn,run_underlying s,beq_toListBytes]
  ·have D:eI P t=some true:=by grind[eI]
   simp only[kH,D];have X:P.fieldsOf t=fs:=by grind[Program.fieldsOf]
   rw[run_equalIn_struct w (d+m) t xs.toArray h.toArray (by simp_all) a1,X];have K:=lQ O;have M:=lQ R;have L:∀(N:List Field) (g:Nat) (o:List Nat),p9 (fA P m) g N=some o->g+o.length=I.length->∀r,dK o (xs.drop g)=true->dK o (h.drop g)=true->
     fe (xs.drop g) (h.drop g)=some r->(Op.eqFields (d+m) xs.toArray h.toArray N).run P w= .ok r w:=by
    intro N;induction N with
    |nil=>
     intro g o p hl r C A J;simp only[p9,γ] at p;subst p;have e1:=lQ C;have e2:=lQ A;have g1:xs.drop g=[]:=τ (by omega);have g2:h.drop g=[]:=τ (by omega);simp_all[fe,Op.eqFields];|cons f N ih=>
     intro g o p hl r C A J;simp only[p9] at p;split at p;·cases p
     ·rename_i a4;split at p
      ·rename_i V z;split at p
       ·rename_i r2 Y;injection p with p;subst p;obtain⟨y,u⟩:=wx z;obtain⟨F,l⟩:=qB C;obtain⟨H,n⟩:=qB A;obtain⟨a,b,h4,B,h6⟩:=G5 V.length J;rw[δk] at l n B;rw[δk] at B;have v:f.name≠ "_" ∧f.offset=g:=by
         simp_all
        rw[γh] at hl;have T:=wv y u (λE=>tt z E) xs.toArray f.offset (by grind) w;have S:=wv y u (λE=>tt z E) h.toArray f.offset (by grind) w;rw[v.2] at T S;have W:=Bu d m f.type V z _ _ a F H h4 w;have p4:=ih (g+V.length) r2 Y (by omega) b l n B;simp only[Op.eqFields,v.1,ne_eq,not_false_eq_true,if_true,v.2,Sem.run_bind,T,S,Result.andThen_ok,W];cases a<;>simp_all
       ·cases p
      ·cases p
   grind
  ·obtain⟨y,u⟩:=wx x;obtain⟨i,hi⟩:∃i,P.info? e=some i:=by
    cases hi:P.info? e<;>grind[bK]
   have a0:P.cellsOf e=c.length:=by
    grind[bK,Program.cellsOf]
   have D:eI P t=some true:=by grind[eI]
   simp only[kH,D];rw[run_equalIn_array w (d+m) xs.toArray h.toArray s hi,a0];have K:=lQ O;have M:=lQ R;have Z:((δ k c).flatten).length=k*c.length:=by simp
   rw[Z] at K M;have L:∀(q j:Nat),j+q=k->∀r,dK ((δ q c).flatten) (xs.drop (j*c.length))=true->dK ((δ q c).flatten) (h.drop (j*c.length))=true->
     fe (xs.drop (j*c.length)) (h.drop (j*c.length))=some r->(Op.eqItems (d+m) e c.length xs.toArray h.toArray (ζw j q)).run P w= .ok r w:=by
    intro q;induction q with
    |zero=>
     intro j hj r C A J;have e1:=lQ C;have e2:=lQ A;simp only[List.replicate_zero,List.flatten_nil,List.length_nil] at e1 e2;have g1:xs.drop (j*c.length)=[]:=τ e1;have g2:h.drop (j*c.length)=[]:=τ e2;rw[g1,g2] at J;simp_all[fe,Op.eqItems];|succ q ih=>
     intro j hj r C A J;rw[δe,ζm] at C A;obtain⟨F,l⟩:=qB C;obtain⟨H,n⟩:=qB A;obtain⟨a,b,h4,B,h6⟩:=G5 c.length J;rw[δk] at l n B;rw[δk] at B;have Q:j*c.length+c.length=(j+1)*c.length:=by grind
     rw[Q] at l n B;have a3:j*c.length+c.length<=k*c.length:=by rw[Q];exact γN _ (by omega)
     have T:=wv y u (λE=>tt x E) xs.toArray (j*c.length) (by simp;omega) w;have S:=wv y u (λE=>tt x E) h.toArray (j*c.length) (by simp;omega) w;have W:=Bu d m e c x _ _ a F H h4 w;have p4:=ih (j+1) (by omega) b l n B;rw[εu];simp only[Op.eqItems,Sem.run_bind,T,S,Result.andThen_ok,W];cases a<;>simp_all
   have:=L k 0 (by omega) r (by simp_all) (by simp_all) (by simp_all);rw[List.range_eq_range'];exact this
end
section
variable {P:Program} {A:dc} {w w':World} {σ σ':TM} {o o':a_} {Ov:Operand->AV} {NI:Operand->Value} {oper:Oper} {v:AV}
theorem G4:∀(m:Nat) (t:TypeId) (j:List Nat),fA P m t=some j->∀D,m<=D->P.eqGuardType D t=false
 |0,_,_,h,_,_=>by grind[fA];|m+1,t,j,h,0,s=>by omega;|m+1,t,j,h,D+1,s=>by
  rcases yi h with⟨c,d,rfl⟩|⟨k,c,d,rfl⟩|⟨c,d,rfl⟩|⟨v,c,r,a,d⟩|⟨k,e,i,c,a,rfl,d⟩;·grind[Program.eqGuardType]
  ·grind[Program.eqGuardType]
  ·grind[Program.eqGuardType]
  ·simp only[Program.eqGuardType,c];rw[<-Bool.not_eq_true,Array.any_eq_true'];rintro⟨f,u,q⟩;have n:∀(g:List Field) (l:Nat) (o:List Nat),p9 (fA P m) l g=some o->∀f∈g,∃b,fA P m f.type=some b:=by
    intro g;induction g<;>grind[p9]
   obtain⟨b,p⟩:=n _ _ _ a f (by simp_all);rw[G4 m f.type b p D (by omega)] at q;simp at q
  ·simp only[Program.eqGuardType,c];exact G4 m e i a D (by omega)
theorem Bt:∀{cs:List AV} {vs a:List Value},qa cs=some vs->Aq A w σ o cs a->a=vs
 |[],vs,a,h,b=>by grind[qa,Aq];|c::cs,vs,a,h,b=>by
  cases c<;>simp only[qa,reduceCtorEq,ε] at h;obtain⟨r,d,rfl⟩:=h;simp only[Aq] at b;obtain⟨u,f,rfl,g,e⟩:=b;rw[fN g,Bt d e]
theorem Zy (R:OM A w σ o) (g:∀x,nA A w σ o (Ov x) (NI x)) {m:BinOp} {d:Bool} {t J:TypeId} {h:List Nat} {x y:Operand} (n:oper.op= .binOp m t x y J) (O:(m= .eql/\d=false)\/(m= .neq/\d=true))
  (p:eI P t=some true) (v:fA P 20 t=some h) (K:20<=P.depth) {a b:List AV} {r:Bool} (H:Ov x= .agg a) (C:Ov y= .agg b) (f:um h a b=some r):
  bA A P NI oper w σ o (.sc (.bool (if d then !r else r))) o:=by
 have i:=g x;have k:=g y;rw[H] at i;rw[C] at k;simp only[nA] at i k;obtain⟨I,M,j⟩:=i;obtain⟨Q,G,q⟩:=k;unfold um at f;split at f
 ·rename_i z B l s;split at f
  ·rename_i e;simp only[θ] at e;have L:=Bt l j;have F:=Bt s q;have c:=Bu (P:=P) 9980 20 t h v z B r e.1 e.2 f w;simp only[kH,p] at c;have D:z.toArray=I:=by rw[<-L]
   have N:B.toArray=Q:=by rw[<-F]
   rw[D,N] at c;refine bA.bi R (u:=.bool (if d then !r else r)) ?_ (by simp[nA,Value.oneCell']);have E:=G4 20 t h v P.depth K;simp only[execOp,n,M,G];rcases O with⟨rfl,rfl⟩|⟨rfl,rfl⟩<;>simp[eqGuard,E,binOp,Op.equal,Op.maxDepth,c]
  ·cases f
 ·cases f
theorem Bs (x:Bool) (d:Nat):∀(m:Nat) (t:TypeId) (z:List Nat),fA P m t=some z->∀(xs:List Value),dK z xs=true->∀w:World,(Instr.checkKey x (d+m) t (kH P t xs)).run P w= .ok () w
 |0,t,z,J,_,_,_=>by grind[fA];|m+1,t,z,J,xs,K,w=>by
  rw[show d+(m+1)=(d+m)+1 from rfl];rcases yi J with⟨u,D,rfl⟩|⟨k,u,D,rfl⟩|⟨u,D,rfl⟩|⟨V,u,S,h,D⟩|⟨k,e,a,u,h,rfl,D⟩;·simp_all[Instr.checkKey,run_underlying]
  ·simp_all[Instr.checkKey,run_underlying]
  ·simp_all[Instr.checkKey,run_underlying]
  ·have p:eI P t=some true:=by grind[eI]
   simp only[kH,p,Instr.checkKey,Sem.run_bind,run_underlying u,Result.andThen_ok];have A:=lQ K;have I:∀(v:List Field) (b:Nat) (l:List Nat),p9 (fA P m) b v=some l->b+l.length=z.length->dK l (xs.drop b)=true->
     (forIn v ζn λ(f:Field) (_:PUnit)=>(do
      if f.name≠ "_" then
       Instr.checkKey x (d+m) f.type (<-part f.type xs.toArray f.offset)
      pure (ζ5 ζn):Sem (ForInStep PUnit))).run P w= .ok ζn w:=by
    intro v;induction v with
    |nil=>simp_all;|cons f v H=>
     intro b l g Q C;simp only[p9] at g;split at g;·cases g
     ·rename_i U;split at g
      ·rename_i L r;split at g
       ·rename_i N F;injection g with g;subst g;obtain⟨s,o⟩:=wx r;obtain⟨n,c⟩:=qB C;rw[δk] at c;have y:f.name≠ "_" ∧f.offset=b:=by
         simp_all
        rw[γh] at Q;have M:=wv s o (λG=>tt r G) xs.toArray f.offset (by grind) w;rw[y.2] at M;have R:=Bs x d m f.type L r _ n w;have O:=H (b+L.length) N F (by omega) c;simp_all
       ·cases g
      ·cases g
   grind[Result.andThen_ok,Sem.run_pure]
  ·obtain⟨s,o⟩:=wx h;have p:eI P t=some true:=by grind[eI]
   simp only[kH,p,Instr.checkKey,Sem.run_bind,run_underlying u,Result.andThen_ok];simp only[ζN,ζ9,Nat.sub_zero,Nat.add_one_sub_one,Nat.div_one];have A:=lQ K;have E:((δ k a).flatten).length=k*a.length:=by simp
   rw[E] at A;have I:∀(q j:Nat),j+q=k->dK ((δ q a).flatten) (xs.drop (j*a.length))=true->
     (forIn (ζw j q) ζn λ(i:Nat) (_:PUnit)=>(do
      Instr.checkKey x (d+m) e (<-part e xs.toArray (i*(<-sizeOf e)));pure (ζ5 ζn):Sem (ForInStep PUnit))).run P w= .ok ζn w:=by
    intro q;induction q with
    |zero=>simp_all;|succ q H=>
     intro j W C;rw[δe,ζm] at C;obtain⟨n,c⟩:=qB C;rw[δk] at c;have B:j*a.length+a.length=(j+1)*a.length:=by grind
     rw[B] at c;have T:j*a.length+a.length<=k*a.length:=by rw[B];exact γN _ (by omega)
     have M:=wv s o (λG=>tt h G) xs.toArray (j*a.length) (by simp;omega) w;have R:=Bs x d m e a h _ n w;have O:=H (j+1) (by omega) c;rw[εu];simp_all[oE]
   simp_all
theorem Zx {a b:ByteArray} (h:a.toList=b.toList):a=b:=by
 have c:(a==b)=true:=by grind[beq_toListBytes]
 obtain⟨x⟩:=a;obtain⟨y⟩:=b;have d:(x==y)=true:=c;simp_all
theorem PD {a b:Value} (h:seq1 a b=some true):a=b/\(∀n,Instr.sameBits n b a=true):=by
 unfold seq1 at h;grind[Instr.sameBits,Zx,beq_toListBytes]
theorem PC:∀{xs c:List Value},fe xs c=some true->xs=c/\∀n,(c.zip xs).all (λp=>Instr.sameBits n p.1 p.2)=true
 |[],[],_=>⟨rfl,λ_=>rfl⟩
 |[],_::_,h=>by grind[fe];|_::_,[],h=>by grind[fe];|x::xs,y::c,h=>by
  simp only[fe] at h;split at h
  ·rename_i a b d e;simp only[γ,θ] at h;obtain⟨rfl,rfl⟩:=h;obtain⟨f,g⟩:=PD d;obtain⟨j,i⟩:=PC e;simp_all
  ·cases h
theorem Zw {a b:Value} (h:lj a b=some true):a=b/\∀n,Instr.sameBits (n+1) b a=true:=by
 unfold lj at h;split at h
 ·rename_i x y;obtain⟨c,d⟩:=PC h;simp_all[Instr.sameBits]
 all_goals grind[PD]
def wu (P:Program) (t:TypeId) (ks:List Nat) (k:Value):Prop:=∃l,dK ks l=true/\k=kH P t l
theorem wg.fits {t:TypeId} {b:List Nat} {a:Bool} {k:Value} (d:eI P t=some a) (h:wg (b,a) k):wu P t b k:=by
 obtain⟨l,c,e⟩:=h;refine⟨l,c,?_⟩;cases a;all_goals simp_all[kH]
theorem PB {f:List Nat} {e:Bool} {a:AV} {u k:Value} (h:nA A w σ o a u) (b:oJ f e a=some k):u=k/\wg (f,e) k:=by
 cases a<;>simp only[oJ,reduceCtorEq] at b
 ·rename_i v;split at b
  ·rename_i c;simp only[θ,δi] at c;injection b with b;subst b;exact⟨fN h,[v],c.2,by simp[c.1]⟩
  ·cases b
 ·rename_i j;split at b
  ·rename_i g d;split at b
   ·rename_i c;simp only[θ] at c;injection b with b;subst b;simp only[nA] at h;obtain⟨l,rfl,i⟩:=h;have:=Bt d i;exact⟨by rw[<-this],g,c.2,by simp[c.1]⟩
   ·cases b
  ·cases b
theorem Zv {t:TypeId} {c:List Nat} (e:fA P 20 t=some c) {a b:Value} (o:wu P t c a) (s:wu P t c b) {r:Bool} (h:lj a b=some r) (w:World):(Op.equal t a b).run P w= .ok r w:=by
 obtain⟨g,m,rfl⟩:=o;obtain⟨f,k,rfl⟩:=s;have n:fe g f=some r:=by
  unfold kH at h;obtain⟨_,u,d⟩:=wx e;cases u with
  |true=>grind[lj];|false=>
   have l:=tt e d;have j:=lQ m;have i:=lQ k;rw[l] at j i;match g,f,j,i with
   |[x],[y],_,_=>
    simp only[d,List.headD_cons] at h;have p:seq1 x y=some r:=by
     match c,l with
     |[q],_=>cases x<;>cases y<;>simp_all [dK,lj]<;>(match q with|0|1|2|_+3=>simp_all [dK])
    simp[fe,p]
 exact Bu 9980 20 t c e g f r m k n w
theorem Zu {d:TypeDesc} {a b:Value} {r:Bool} (h:lj a b=some r):
  Instr.sameNow d a b=some r\/Instr.sameNow d a b=none:=by
 cases c:Instr.sameNow d a b with
 |none=>simp_all;|some e=>
  left;unfold Instr.sameNow at c;grind[lj,seq1,beq_toListBytes]
theorem PA {t:TypeId} {p:List Nat} (G:fA P 20 t=some p) {k:Value} (v:wu P t p k) (w:World) (es:List (Value×AV)) (en:List MapEntry) (l:en.length=es.length)
  (C:∀(j:Nat) (e:Value×AV),es[j]?=some e->∃m,en[j]?=some m/\m.key=e.1/\wu P t p m.key) {r:Option (Nat×AV)} (J:ly k es 0=some r):
  match r with
  |none=>(Instr.findKey t k en).run P w= .ok none w
  |some (i,a)=>∃e m,es[i]?=some e/\e.2=a/\en[i]?=some m/\lj k e.1=some true/\(Instr.findKey t k en).run P w= .ok (some (i,m.val)) w:=by
 obtain⟨d,H⟩:∃d,P.underlying t=some d:=by
  have:=(wx G).2;grind[eI]
 have y:∀(es:List (Value×AV)) (en:List MapEntry) (i:Nat),en.length=es.length->(∀(j:Nat) (e:Value×AV),es[j]?=some e->∃m,en[j]?=some m/\m.key=e.1/\wu P t p m.key)->∀r,ly k es i=some r->
   (match r with
    |none=>(Instr.findAsking t k en i).run P w= .ok none w/\(∀q,Instr.findNow d k en i=some q->q=none)
    |some (n,a)=>∃e m,i<=n/\es[n - i]?=some e/\e.2=a/\en[n - i]?=some m/\lj k e.1=some true/\(Instr.findAsking t k en i).run P w= .ok (some (n,m.val)) w/\(∀q,Instr.findNow d k en i=some q->q=some (n,m.val))):=by
  intro es;induction es with
  |nil=>
   intro en i A _ r f;have:en=[]:=τ (by omega);subst this;simp only[ly,γ] at f;subst f;simp_all[Instr.findAsking,Instr.findNow];|cons e es L=>
   intro en i A F r f;match en,A with
   |m::en,A=>
    obtain⟨E,h,N,z⟩:=F 0 e (by simp);simp at h;subst h;simp only[ly] at f;cases c:lj k e.1 with
    |none=>simp[c] at f;|some b=>
     have g:=Zv G v z (r:=b) (by grind) w;have O:=Zu (d:=d) (a:=k) (b:=m.key) (r:=b) (by grind);cases b with
     |true=>
      simp only[c,γ] at f;subst f;refine⟨e,m,ξ _,by simp,rfl,by simp,c,?_,?_⟩;·simp[Instr.findAsking,g]
      grind[Instr.findNow];|false=>
      simp only[c] at f;have:=L en (i+1) (by grind) (λj u Q=>by simpa using F (j+1) u (by grind)) r f;have R:(Instr.findAsking t k (m::en) i).run P w=(Instr.findAsking t k en (i+1)).run P w:=by
       simp[Instr.findAsking,g]
      have K:∀q,Instr.findNow d k (m::en) i=some q->Instr.findNow d k en (i+1)=some q:=by
       grind[Instr.findNow]
      match r,this with
      |none,⟨s,o⟩=>grind;|some (n,a),⟨u,E,s,o,B,M,x,I,D⟩=>
       refine⟨u,E,by omega,?_,B,?_,x,by grind,λq c=>D q (K q c)⟩;·grind
       grind
 have:=y es en 0 l C r J;match r,this with
 |none,⟨s,o⟩=>
  simp only[Instr.findKey,Sem.run_bind,run_underlying H,Result.andThen_ok];cases c:Instr.findNow d k en 0 with
  |none=>omega;|some q=>simp[o q c]
 |some (n,a),⟨e,m,s,o,B,M,x,I,D⟩=>
  refine⟨e,m,by omega,B,by omega,x,?_⟩;simp only[Instr.findKey,Sem.run_bind,run_underlying H,Result.andThen_ok];cases c:Instr.findNow d k en 0 with
  |none=>omega;|some q=>simp[D q c]
theorem Zt (hS:OM A w σ o) {t:TypeId} {kt:List Nat×Bool} {pu:Bool} {oz:Nat} (hop:oper.op= .makeMap t none) (hd:o[oz]?=some .dead):bA A P NI oper w σ o (.mp oz) (o.set oz (.map [] kt pu)):=by
 have hid:oz<o.length:=(ζ.1 hd).1;have atW:oz<σ.length:=by rw[hS.len];exact hid
 obtain⟨hS',hE⟩:=OM.iw (w':=w.alloc (.map #[] 0)) (x:=.dead) (x':=.map [] kt pu) (s':=some (w.heap.size,1)) hS hd (by simp) rfl rfl rfl (λb hb _=>heap_alloc_old w _ b hb)
  (λb c h=> .inr (by
   simp only[γ,ι] at h;obtain⟨rfl,_⟩:=h;exact⟨ξ _,by simp⟩)) trivial (λhE=>by
   simp only[cP];exact⟨by simp,by simp,w.heap.size,1,#[],0,by rw[γL atW],heap_alloc_new w _,⟨rfl,Go.MapKept.stamped_empty 0⟩,by simp⟩);refine⟨.map (some w.heap.size),_,_,.inl ?_,hS',?_,hE⟩;·simp[execOp,hop,Instr.makeMap,newObj,Sem.run]
 ·simp only[nA];exact⟨⟨[],kt,pu,by rw[γL hid]⟩,w.heap.size,1,by rw[γL atW],rfl⟩
theorem Pz (hS:OM A w σ o) {id:Nat} {es:List (Value×AV)} {kt:List Nat×Bool} {pu:Bool} (ho:o[id]?=some (.map es kt pu)) {u:Value} (h:nA A w σ o (.mp id) u):
  ∃(b c:Nat) (entries:Array MapEntry) (clock:Nat),σ[id]?=some (some (b,c))/\u= .map (some b)/\w.heap[b]?=some (.map entries clock)/\(entries.size=es.length/\ζb entries clock)/\(pu=true->∀e∈es,e.2.pure=true)/\(∀e∈es,wg kt e.1)/\
   ∀(j:Nat) (e:Value×AV),es[j]?=some e->∃m,entries[j]?=some m/\m.key=e.1/\nA A w σ o e.2 m.val:=by
 simp only[nA] at h;obtain⟨_,b,c,hσ,rfl⟩:=h;have hx:=hS.obj id _ ho;simp only[cP] at hx;obtain⟨h1,h2,b',c',en,cl,h3,h4,h5,h6⟩:=hx;rw[hσ] at h3;simp only[γ,ι] at h3;obtain⟨rfl,rfl⟩:=h3;exact⟨b,c,en,cl,hσ,rfl,h4,h5,h1,h2,h6⟩
theorem Py {t:TypeId} {z:List Value} {g:Bool} {a:AV} (k:kI P t=some z) (c:yl P t g=true) (e:pU z g=some a):∃u,(∀w:World,(zeroValue t).run P w= .ok u w)/\nA A w σ o a u:=by
 obtain⟨i,j,l,h,b,f,d⟩:=tv k;refine⟨j,λw=>by simp_all[zeroValue,typeInfo],?_⟩;simp only[yl,l,h,δQ] at c;unfold pU at e;cases j with
 |agg m=>
  simp only at c;subst c;simp only[if_true,γ] at e;grind[nA,Value.cells,tA];|_=>
  simp only[δi] at c;subst c;simp only[Value.cells] at b;subst b;simp only[φ,if_false,γ] at e;subst e;exact by simp[nA,d]
theorem Zs {t:TypeId} {z:List Value} {g:Bool} (j:kI P t=some z) (c:yl P t g=true):∃a,pU z g=some a:=by
 obtain⟨i,h,k,e,b,d,f⟩:=tv j;simp only[yl,k,e,δQ] at c;unfold pU;cases h with
 |agg l=>simp_all;|_=>
  simp only[δi] at c;subst c;simp only[Value.cells] at b;subst b;exact⟨_,rfl⟩
theorem Px (hS:OM A w σ o) (hρ:∀x,nA A w σ o (Ov x) (NI x)) {t kt et:TypeId} {ks:List Nat} {ka g ok:Bool} {z:List Value} {x k:Operand} (hop:oper.op= .lookup t x k ok) (ht:P.underlying t=some (.map kt et))
  (hk:fA P 20 kt=some ks) (hag:eI P kt=some ka) (hz:∃a u,pU z g=some a/\(∀w:World,(zeroValue et).run P w= .ok u w)/\nA A w σ o a u)
  {id:Nat} (hx:Ov x= .mp id) {kv:Value} (hkv:oJ ks ka (Ov k)=some kv) {es:List (Value×AV)} {pu:Bool} (ho:o[id]?=some (.map es (ks,ka) pu))
  {r:Option (Nat×AV)} (hf:ly kv es 0=some r) {zv:AV} (hzv:pU z g=some zv):
  bA A P NI oper w σ o (if ok then .Gz [(r.map (·.2)).getD zv,.sc (.bool r.isSome)] else(r.map (·.2)).getD zv) o:=by
 have h1:=hρ x;rw[hx] at h1;obtain⟨b,c,en,cl,hσ,hu,hh,⟨hlen,_⟩,_,hkf,hen⟩:=Pz hS ho h1;obtain⟨hk1,hk2⟩:=PB (hρ k) hkv;obtain⟨a0,z0,hz1,hz2,hz3⟩:=hz;rw[hz1] at hzv;injection hzv with hzv;subst hzv;have avW:=hk2.fits hag;have hfind:=PA hk avW w es en.toList (by simpa using hlen) (λj e he=>by
  obtain⟨m,hm,hmk,_⟩:=hen j e he;exact⟨m,by simpa using hm,hmk,by rw[hmk];exact(hkf e (γe he)).fits hag⟩) hf;obtain⟨lk,aA0,hlk2⟩:=avW;have hck:=Bs (P:=P) en.isEmpty 9980 20 kt ks hk lk aA0 w;rw[<-hlk2] at hck;have hget:(getObj b).run P w= .ok (.map en cl) w:=by simp[getObj,Sem.run,hh]
 have main:∃u,nA A w σ o ((r.map (·.2)).getD a0) u/\(execOp NI oper).run P w= .ok (.value (if ok then .tuple #[u,.bool r.isSome] else u)) w:=by
  cases r with
  |none=>
   refine⟨z0,hz3,?_⟩;simp only[execOp,hop,Instr.lookup,hu,hk1];simp[run_underlying ht,hget,hck,hfind,hz2];|some p=>
   obtain⟨i,a⟩:=p;obtain⟨e,m,q1,q2,q3,q4,q5⟩:=hfind;obtain⟨m',hm',_,hr⟩:=hen i e q1;have:m'=m:=by
    rw[γX] at q3;rw[hm'] at q3;injection q3
   subst this;refine⟨m'.val,by rw[<-q2];exact hr,?_⟩;simp only[execOp,hop,Instr.lookup,hu,hk1];simp[run_underlying ht,hget,hck,q5]
 obtain⟨u,hr,avT⟩:=main;refine bA.bi hS avT ?_;cases ok;·simpa using hr
 ·simp only[if_true,nA];exact⟨_,rfl,by simp only[Aq];exact⟨u,[.bool r.isSome],rfl,hr,.bool r.isSome,[],rfl,by simp[nA,Value.oneCell'],rfl⟩⟩
theorem Zr {k:Value} (h:∀n,Instr.sameBits (n+1) k k=true) (w:World):(Instr.keyThatStays k k).run P w= .ok k w:=by
 simp_all[Instr.keyThatStays]
theorem Pw:∀l:List Value,fe l l≠some false
 |[]=>by simp[fe];|x::xs=>by
  have ih:=Pw xs;have hx:seq1 x x≠some false:=by cases x<;>simp[seq1]
  simp only[fe];intro h;split at h
  ·rename_i a b ha hb;cases a;·exact hx ha
   ·cases b;·exact ih hb
    ·cases h
  ·cases h
theorem Zq (a:Value):lj a a≠some false:=by
 cases a<;>simp[lj,seq1];exact Pw _
theorem Pv {k:Value}:∀{es:List (Value×AV)} {i:Nat},ly k es i=some none->∀e∈es,e.1≠k
 |[],_,_,e,he=>by simp at he;|p::es,i,h,e,he=>by
  simp only[ly] at h;split at h;·cases h
  ·rename_i hq;rcases γw.1 he with rfl|he;·intro hk;rw[hk] at hq;exact Zq k hq
   ·exact Pv h e he
  ·cases h
theorem Br (hS:OM A w σ o) (hρ:∀x,nA A w σ o (Ov x) (NI x)) {t kt et:TypeId} {ks:List Nat} {ka:Bool} {x k y:Operand} (hop:oper.op= .mapUpdate t x k y\/oper.op= .insert t x k y) (ht:P.underlying t=some (.map kt et))
  (hk:fA P 20 kt=some ks) (hag:eI P kt=some ka)
  {id:Nat} (hx:Ov x= .mp id) {kv:Value} (hkv:oJ ks ka (Ov k)=some kv) {es:List (Value×AV)} {pu:Bool} (ho:o[id]?=some (.map es (ks,ka) pu)) (hpu:pu=true->(Ov y).pure=true)
  {r:Option (Nat×AV)} (hf:ly kv es 0=some r):
  bA A P NI oper w σ o .ud (o.set id (.map (match r with|some (i,_)=>es.modify i λ_=>(kv,Ov y)|none=>es++[(kv,Ov y)]) (ks,ka) pu)):=by
 have h1:=hρ x;rw[hx] at h1;obtain⟨b,c,en,cl,hσ,hu,hh,⟨hlen,aGP⟩,aGQ,hkf,hen⟩:=Pz hS ho h1;obtain⟨hk1,hk2⟩:=PB (hρ k) hkv;have avW:=hk2.fits hag;have hfind:=PA hk avW w es en.toList (by simpa using hlen) (λj e he=>by
  obtain⟨m,hm,hmk,_⟩:=hen j e he;exact⟨m,by simpa using hm,hmk,by rw[hmk];exact(hkf e (γe he)).fits hag⟩) hf;obtain⟨lk,aA0,hlk2⟩:=avW;have hck:=Bs (P:=P) false 9980 20 kt ks hk lk aA0 w;rw[<-hlk2] at hck;have hget:(getObj b).run P w= .ok (.map en cl) w:=by simp[getObj,Sem.run,hh]
 have hset:∀X:Obj,(setObj b X).run P w= .ok () {w with heap:=w.heap.setIfInBounds b X}:=by
  intro X;simp[setObj,Sem.run,hh]
 have hblt:b<w.heap.size:=hS.dZ id b c hσ;have hid:id<o.length:=(ζ.1 ho).1;have atW:id<σ.length:=by rw[hS.len];exact hid
 have aON:σ.set id (some (b,c))=σ:=by
  apply γ9;intro i;by_cases hi:id=i;·subst hi;rw[γL atW,hσ]
  ·rw[List.getElem?_set_ne hi]
 have fin:∀(en':Array MapEntry) (cl':Nat) (es':List (Value×AV)),(execOp NI oper).run P w= .ok .skip {w with heap:=w.heap.setIfInBounds b (.map en' cl')}->en'.size=es'.length/\ζb en' cl'->
   (pu=true->∀e∈es',e.2.pure=true)->(∀e∈es',wg (ks,ka) e.1)->(∀(j:Nat) (e:Value×AV),es'[j]?=some e->∃m,en'[j]?=some m/\m.key=e.1/\nA A w σ o e.2 m.val)->
   bA A P NI oper w σ o .ud (o.set id (.map es' (ks,ka) pu)):=by
  intro en' cl' es' avT f1 f2 f3 f4;have hat:({w with heap:=w.heap.setIfInBounds b (.map en' cl')}:World).heap[b]?=some (.map en' cl'):=by simp[hblt]
  obtain⟨hS',hE⟩:=OM.iw (w':={w with heap:=w.heap.setIfInBounds b (.map en' cl')}) (x':=.map es' (ks,ka) pu) (s':=some (b,c)) hS ho (by simp) rfl rfl rfl
   (λq _ hq=>by
    have:b≠q:=λhe=>hq c (he▸hσ);simp[Array.getElem?_setIfInBounds_ne this])
   (λb2 c2 h2=> .inl ⟨c,by injection h2 with h2;injection h2 with h3 h4;rw[hσ,h3]⟩) ⟨⟨_,_,_,rfl⟩,hσ⟩ (λhE=>by
    simp only[cP];refine⟨f2,f3,b,c,en',cl',by rw[γL atW],hat,f1,λj e he=>?_⟩;obtain⟨m,q1,q2,q3⟩:=f4 j e he;exact⟨m,q1,q2,q3.ext hE⟩);rw[aON] at hS' hE;exact⟨undef,_,σ,.inr ⟨avT,rfl⟩,hS',by simp[nA],hE⟩
 cases r with
 |none=>
  refine fin (en.push {key:=kv,val:=NI y,born:=cl}) (cl+1) (es++[(kv,Ov y)]) ?_ ⟨by simp[hlen],Go.MapKept.stamped_push aGP λx hx hk=>?_⟩ ?_ ?_ ?_;rotate_left
  ·obtain⟨j,hj⟩:=γH hx;have hjl:j<es.length:=by have:=(ζ.1 hj).1;simp at this;omega
   obtain⟨m,hm,hmk,_⟩:=hen j es[j] (μ hjl);rw[γX,hm] at hj;injection hj with hj;exact Pv hf es[j] (List.getElem_mem hjl) (by rw[<-hmk,hj,hk])
  rotate_right;·rcases hop with hop|hop<;>simp only[execOp,hop,Instr.mapUpdate,hu,hk1]<;>simp[run_underlying ht,hget,hck,hfind,hset]
  ·intro hp e he;rcases γi.1 he with he|he;·exact aGQ hp e he
   ·simp at he;subst he;exact hpu hp
  ·intro e he;rcases γi.1 he with he|he;·exact hkf e he
   ·simp at he;subst he;exact hk2
  ·intro j e he;rw[εo] at he;split at he
   ·rename_i hj;obtain⟨m,q1,q2,q3⟩:=hen j e he;exact⟨m,by rw[Array.getElem?_push_lt (by omega)];rw[<-q1];simp[hlen,hj],q2,q3⟩
   ·rename_i hj;have:j=es.length:=by
     have:=(ζ.1 he).1;simp at this;omega
    subst this;simp at he;subst he;exact⟨{key:=kv,val:=NI y,born:=cl},by rw[<-hlen];simp,rfl,hρ y⟩;|some p=>
  obtain⟨i,a⟩:=p;obtain⟨e,m,q1,q2,q3,q4,q5⟩:=hfind;obtain⟨q6,q7⟩:=Zw q4;have hmk:m.key=kv:=by
   obtain⟨m',hm',hmk',_⟩:=hen i e q1;rw[γX] at q3;rw[hm'] at q3;injection q3 with q3;rw[<-q3,hmk',q6]
  rw[γX] at q3;refine fin (en.modify i λe=>{e with key:=kv,val:=NI y}) cl (es.modify i λ_=>(kv,Ov y)) ?_ ⟨by simp[hlen],Go.MapKept.stamped_modify aGP i _ (λ_ _=>rfl) λe _ he=>by rw[q3] at he;injection he with he;rw[<-he,hmk]⟩ ?_ ?_ ?_
  ·have hst:(Instr.keyThatStays (((en[i]?).map (·.key)).getD kv) kv).run P w= .ok kv w:=by
    rw[q3];simp only[ν,Option.getD_some,hmk];exact Zr (by rw[q6] at q7 ⊢;exact q7) w
   rcases hop with hop|hop<;>simp only[execOp,hop,Instr.mapUpdate,hu,hk1]<;>simp[run_underlying ht,hget,hck,q5,hst,hset]
  ·intro hp e' he;obtain⟨j,hj⟩:=γH he;rw[εZ] at hj;split at hj;·simp at hj;obtain⟨_,_,rfl⟩:=hj;exact hpu hp
   ·simp at hj;exact aGQ hp e' (γe hj)
  ·intro e' he;obtain⟨j,hj⟩:=γH he;rw[εZ] at hj;split at hj;·simp at hj;obtain⟨_,_,rfl⟩:=hj;exact hk2
   ·simp at hj;exact hkf e' (γe hj)
  ·intro j e' he;rw[εZ] at he;split at he
   ·rename_i hij;subst hij;simp at he;obtain⟨_,_,rfl⟩:=he;exact⟨{m with key:=kv,val:=NI y},by simp[εS,q3],rfl,hρ y⟩
   ·rename_i hij;simp at he;obtain⟨m',r1,r2,r3⟩:=hen j e' he;exact⟨m',by simp[εS,hij,r1],r2,r3⟩
end
end Go.Vi
