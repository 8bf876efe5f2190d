import Derived.Test.YtbnhiekmnpikhaaGreatDW00
import Derived.OwnWalk
import Derived.Maps.AppendAt
import Derived.Great.BuildSlice
import Derived.ChangeKeysEq
import Derived.OrdersIn
set_option maxRecDepth 100000
set_option maxHeartbeats 4000000
set_option linter.all false
open Array renaming getElem?_modify->εZ,getElem?_toList->γ0,getElem?_eq_some_iff->γB,ext'->εq,getD_eq_getD_getElem?->εg
open Bool renaming and_eq_true->ζ,false_eq_true->ω,not_eq_true'->δf,or_eq_true->δd
open Decidable renaming not_not->θi
open ForInStep renaming yield->θw
open Function renaming comp_def->δg
open Go.MapKept renaming Stamped->ζj
open Go.Vi renaming el->ε9
open Go.Vi.AV renaming one->θm,sc->δe,bJ->δx
open List renaming map_cons->ν,all_cons->ζI,mem_cons->γl,getElem?_eq_some_iff->θ,range->Γ,getElem?_of_mem->γK,getElem?_append->εv,ext_getElem?->γ8,mem_map->Δ,getElem?_set_self->γN,getElem?_eq_getElem->μ,getElem?_take->δh,getElem?_drop->δz,mem_of_mem_drop->γY,mem_of_mem_take->γj,foldl_cons->δQ,getElem?_map->γH,replicate->δ,replicate_succ->δc,flatten_cons->ζy,mem_flatten->θp,mem_replicate->ζl,nil_append->δR,eq_nil_of_length_eq_zero->ψ,cons_append->γL,drop_drop->δj,length_append->γF,range'->ζJ,range'_succ->εC,mem_of_getElem?->γh,getElem?_set_ne->δq,mem_append->γo,getElem?_modify->ε6,getElem?_take_of_lt->δA,getElem?_append_left->γ9,getElem?_append_right->ζe,all_eq_true->τ,mapM_cons->εY,getElem?_cons_succ->γR,contains_eq_mem->ζ5,nodup_cons->γQ,getElem?_inj->ζA,mem_flatMap->δC,not_mem_nil->δl,mem_filter->Θ,getElem?_eq_none->ζS,getElem?_set->εr,map_congr_left->γI,getD_eq_getElem?_getD->ζf
open Nat renaming le_refl->π,le_trans->δ5,lt_of_lt_of_le->γw,add_zero->ζk,add_mul->δX,mul_le_mul_right->γP,zero_add->εf,zero_le->δ8,sub_zero->ε0,lt_or_ge->ζm
open Ne renaming symm->θv
open Option renaming bind_some->δT,map_some->ξ,map_eq_some_iff->ε,getD_some->δB,map_map->ζu
open Option.some renaming injEq->γ
open PUnit renaming unit->ζz
open Prod.mk renaming injEq->ι
open Std.Legacy.Range renaming forIn_eq_forIn_range'->ζ4,size->θA
namespace Go.Vi
abbrev TN:=List (Option (Nat×Nat))
def Own (σ:TN) (b:Nat):Prop:=∃(i c:Nat),σ[i]?=some (some (b,c))
def sC (o:a_) (id a:Nat):Prop:=∃b e d c,o[id]?=some (.cells b e d c)/\a<=b.length
def ue (o:a_) (id sz a:Nat):Prop:=∃b e c,o[id]?=some (.cells b e sz c)/\b.length=a
def IsMap (o:a_) (id:Nat):Prop:=∃c b a,o[id]?=some (.map c b a)
def j9 (σ:TN) (id e f d sz:Nat) (a:Option Addr) (cap:Nat):Prop:=
 match σ[id]? with
 |some none=>d=0/\a=none/\cap=0/\f=0
 |some (some (b,c))=>(0<f->a=some ⟨b,q8 e d sz,none⟩)/\(e=0->f*sz=d->0<sz->a=some ⟨b,0,none⟩/\cap=c)/\((e<=d/\e+f*sz<=d)\/(d+sz<=e/\e - d - sz+f*sz<=d/\0<sz))
 |none=>False
theorem oA {a b sz:Nat} (h:a<=b):q8 a b sz=a:=by simp_all[q8]
theorem AX {a b sz:Nat} (h:b<a):q8 a b sz=a - b - sz:=by simp_all[q8,if_neg]
structure c_ where
 p:Nat->Prop
 l:Nat
instance:CoeFun c_ (λ_=>Nat->Prop):=⟨c_.p⟩
class an5 (A A':c_):Prop where
 eq:A'.l=A.l
instance (A:c_):an5 A A:=⟨rfl⟩
instance (A:c_) (p:Nat->Prop):an5 A ⟨p,A.l⟩:=⟨rfl⟩
def CP (l:Nat):Fn->Fn
 | .yield _=> .yield l
 |f=>f
def Fr (A:c_) (σ:TN) (b:Nat):Prop:=¬Own σ b/\¬A b
section
variable (A:c_) (w:World) (σ:TN) (o:a_)
mutual
def nA:AV->Value->Prop
 | .ud,_=>True
 | .sc u,v=>v=u/\u.oneCell'=true
 | .agg cs,v=>∃vs,v= .agg vs/\Aq cs vs.toList
 | .IL cs,v=>∃vs,v= .tuple vs/\Aq cs vs.toList
 | .sl n cs,v=>∃a cap,v= .slice a n cap/\n<=cap/\cJ cs=true/\cF cs a 0
 | .ep cs bu,v=>∃a:Addr,v= .pointer (some (a.add bu))/\cJ cs=true/\cF cs (some a) 0
 | .ptr id bu d,v=>sC o id d/\(∃a,v= .pointer (some a))/\∀sz,ue o id sz d->∃b c,σ[id]?=some (some (b,c))/\v= .pointer (some ⟨b,bu,none⟩)
 | .os id bu len d,v=>sC o id d/\∃a cap,v= .slice a len cap/\len<=cap/\∀sz,ue o id sz d->j9 σ id bu len d sz a cap
 | .mp id,v=>IsMap o id/\∃b c,σ[id]?=some (some (b,c))/\v= .map (some b)
 | .fn f a b,v=>∃g e,v= .func (CP A.l f) g e/\Aq a g.toList/\Aq b e.toList
 | .ifc t cs,v=>∃vs,v= .iface t (.agg vs)/\cJ cs=true/\Aq cs vs.toList
def Aq:List AV->List Value->Prop
 |[],vs=>vs=[]
 |c::cs,vs=>∃v r,vs=v::r/\nA c v/\Aq cs r
def cF:List AV->Option Addr->Nat->Prop
 |[],_,_=>True
 |c::cs,a,j=>(∃b v,a=some b/\Fr A σ b.block/\w.cell? (b.add j)=some v/\nA c v)/\cF cs a (j+1)
end
end
structure Ext (w:World) (σ:TN) (o:a_) (w':World) (σ':TN) (o':a_):Prop where
 size:w.heap.size<=w'.heap.size
 blk:∀b,b<w.heap.size->¬Own σ b->w'.heap[b]?=w.heap[b]?/\¬Own σ' b
 len:o.length<=o'.length
 cur:∀id tot,sC o id tot->sC o' id tot/\∀sz,ue o' id sz tot->ue o id sz tot/\σ'[id]?=σ[id]?
 isMap:∀id,IsMap o id->IsMap o' id/\σ'[id]?=σ[id]?
 os:w'.os=w.os
 tape:w'.tape=w.tape
 output:w'.output=w.output
theorem Ext.refl (w:World) (σ:TN) (o:a_):Ext w σ o w σ o:=
 ⟨π _,λ_ _ h=>⟨rfl,h⟩,π _,λ_ _ h=>⟨h,λ_ h=>⟨h,rfl⟩⟩,λ_ h=>⟨h,rfl⟩,rfl,rfl,rfl⟩
theorem Ext.trans {w n p:World} {σ a c:TN} {o l o2:a_} (h:Ext w σ o n a l) (k:Ext n a l p c o2):Ext w σ o p c o2 where
 size:=δ5 h.size k.size;blk:=λb q r=>by obtain⟨f,i⟩:=h.blk b q r;obtain⟨m,j⟩:=k.blk b (γw q h.size) i;simp_all
 len:=δ5 h.len k.len;cur:=λe d g=>by obtain⟨f,i⟩:=h.cur e d g;obtain⟨m,j⟩:=k.cur e d f;grind
 isMap:=λe g=>by obtain⟨f,i⟩:=h.isMap e g;obtain⟨m,j⟩:=k.isMap e f;simp_all
 os:=k.os.trans h.os;tape:=k.tape.trans h.tape;output:=k.output.trans h.output
section
variable {A:c_} {w w':World} {σ σ':TN} {o o':a_}
theorem Qp {a:Addr} {v:Value} (b:w.cell? a=some v):a.block<w.heap.size:=World.block_lt_of_cell? w a b
theorem cY (a:Addr) (n:Nat):(a.add n).block=a.block:=by grind[Addr.add]
theorem add_add (a:Addr) (i j:Nat):(a.add i).add j=a.add (i+j):=by grind[Addr.add]
mutual
theorem nA.ext (h:Ext w σ o w' σ' o'):∀(c:AV) (v:Value),nA A w σ o c v->nA A w' σ' o' c v
 | .ud,_,_=>by simp[nA];| .sc u,v,hr=>by simpa[nA] using hr;| .agg cs,v,hr=>by simp only[nA] at hr ⊢;obtain⟨vs,rfl,d⟩:=hr;exact⟨vs,rfl,Aq.ext h cs _ d⟩;| .IL cs,v,hr=>by simp only[nA] at hr ⊢;obtain⟨vs,rfl,d⟩:=hr;exact⟨vs,rfl,Aq.ext h cs _ d⟩;| .sl n cs,v,hr=>by simp only[nA] at hr ⊢;obtain⟨a,cap,rfl,m,g,hm⟩:=hr;exact⟨a,cap,rfl,m,g,cF.ext h cs a 0 hm⟩;| .ep cs bu,v,hr=>by simp only[nA] at hr ⊢;obtain⟨a,rfl,g,hm⟩:=hr;exact⟨a,rfl,g,cF.ext h cs _ 0 hm⟩;| .ptr id bu e,v,hr=>by simp only[nA] at hr ⊢;obtain⟨l,k⟩:=h.cur id e hr.1;refine⟨l,hr.2.1,λsz hc=>?_⟩;obtain⟨h1,i⟩:=k sz hc;rw[i];exact hr.2.2 sz h1;| .os id bu len e,v,hr=>by simp only[nA] at hr ⊢;obtain⟨j,a,cap,rfl,d,hk⟩:=hr;obtain⟨l,k⟩:=h.cur id e j;refine⟨l,a,cap,rfl,d,λsz hc=>?_⟩;obtain⟨h1,i⟩:=k sz hc;have:=hk sz h1;unfold j9 at this ⊢;rw[i];exact this;| .mp id,v,hr=>by simp only[nA] at hr ⊢;obtain⟨h1,i⟩:=h.isMap id hr.1;rw[i];exact⟨h1,hr.2⟩;| .fn f a b,v,hr=>by simp only[nA] at hr ⊢;obtain⟨r,q,rfl,j,p⟩:=hr;exact⟨r,q,rfl,Aq.ext h a _ j,Aq.ext h b _ p⟩;| .ifc t cs,v,hr=>by simp only[nA] at hr ⊢;obtain⟨vs,rfl,g,d⟩:=hr;exact⟨vs,rfl,g,Aq.ext h cs _ d⟩
theorem Aq.ext (h:Ext w σ o w' σ' o'):∀(cs:List AV) (vs:List Value),Aq A w σ o cs vs->Aq A w' σ' o' cs vs
 |[],vs,hr=>by simpa[Aq] using hr;|c::cs,vs,hr=>by simp only[Aq] at hr ⊢;obtain⟨v,r,rfl,hc,a⟩:=hr;exact⟨v,r,rfl,nA.ext h c v hc,Aq.ext h cs r a⟩
theorem cF.ext (h:Ext w σ o w' σ' o'):∀(cs:List AV) (a:Option Addr) (j:Nat),cF A w σ o cs a j->cF A w' σ' o' cs a j
 |[],_,_,_=>by simp[cF];|c::cs,a,j,hr=>by
  simp only[cF] at hr ⊢;obtain⟨⟨b,v,rfl,e,hc,f⟩,g⟩:=hr;have d:b.block<w.heap.size:=by have:=Qp hc;rwa [cY] at this
  obtain⟨h1,i⟩:=h.blk b.block d e.1;exact⟨⟨b,v,rfl,⟨i,e.2⟩,by rw[World.cell?_of_block (w:=w) (by rw[cY];exact h1)];exact hc,nA.ext h c v f⟩,cF.ext h cs _ (j+1) g⟩
end
theorem Aq.length:∀(cs:List AV) (vs:List Value),Aq A w σ o cs vs->cs.length=vs.length
 |[],vs,a=>by grind[Aq];|c::cs,vs,a=>by simp only[Aq] at a;obtain⟨v,r,rfl,_,b⟩:=a;simp[Aq.length cs r b]
theorem Aq.get:∀(cs:List AV) (vs:List Value),Aq A w σ o cs vs->∀(i:Nat) (c:AV),cs[i]?=some c->∃v,vs[i]?=some v/\nA A w σ o c v
 |[],_,_,i,c,h=>by simp at h;|c::cs,vs,b,i,d,a=>by
  simp only[Aq] at b;obtain⟨v,r,rfl,f,g⟩:=b;cases i with
  |zero=>simp at a;subst a;exact⟨v,by simp,f⟩;|succ i=>simp at a;obtain⟨u,e,b⟩:=Aq.get cs r g i d a;exact⟨u,by simpa using e,b⟩
theorem Aq.kC:∀(cs:List AV) (vs:List Value),cs.length=vs.length->(∀(i:Nat) (c:AV),cs[i]?=some c->∃v,vs[i]?=some v/\nA A w σ o c v)->Aq A w σ o cs vs
 |[],vs,a,_=>by grind[Aq];|c::cs,[],a,_=>by simp at a;|c::cs,v::vs,a,e=>by simp only[Aq];obtain⟨u,b,f⟩:=e 0 c (by simp);simp at b;subst b;exact⟨v,vs,rfl,f,Aq.kC cs vs (by simp_all) λi d g=>by simpa using e (i+1) d (by simp_all)⟩
theorem cF.get:∀(cs:List AV) (a:Option Addr) (j:Nat),cF A w σ o cs a j->∀(i:Nat) (c:AV),cs[i]?=some c->
  ∃b v,a=some b/\Fr A σ b.block/\w.cell? (b.add (j+i))=some v/\nA A w σ o c v
 |[],_,_,_,i,c,k=>by simp at k;|c::cs,a,j,f,i,d,e=>by
  simp only[cF] at f;obtain⟨g,h⟩:=f;cases i with
  |zero=>simp at e;subst e;simpa using g;|succ i=>
   simp at e;have:=cF.get cs a (j+1) h i d e;rwa [show j+1+i=j+(i+1) from by omega] at this
theorem cF.kC:∀(cs:List AV) (a:Option Addr) (j:Nat),(∀(i:Nat) (c:AV),cs[i]?=some c->
  ∃b v,a=some b/\Fr A σ b.block/\w.cell? (b.add (j+i))=some v/\nA A w σ o c v)->cF A w σ o cs a j
 |[],_,_,_=>by simp[cF];|c::cs,a,j,e=>by simp only[cF];refine⟨by simpa using e 0 c (by simp),cF.kC cs a (j+1) λi d f=>?_⟩;have:=e (i+1) d (by simpa using f);rwa [show j+1+i=j+(i+1) from by omega]
theorem Aq.append {cs a:List AV} {vs b:List Value} (h:Aq A w σ o cs vs) (k:Aq A w σ o a b):Aq A w σ o (cs++a) (vs++b):=by induction cs generalizing vs<;>grind[Aq]
theorem nA.qn {c:AV} {v:Value} (h:nA A w σ o c v):nA A w σ o c.qn v:=by unfold AV.qn;grind[nA,cJ,cF]
theorem Aq.qn:∀{cs:List AV} {vs:List Value},Aq A w σ o cs vs->Aq A w σ o (cs.map .qn) vs
 |[],_,h=>h
 |c::cs,vs,h=>by simp only[Aq,ν] at h ⊢;obtain⟨v,r,rfl,a,b⟩:=h;exact⟨v,r,rfl,a.qn,Aq.qn b⟩
theorem Aq.el (pu:Bool) {cs:List AV} {vs:List Value} (h:Aq A w σ o cs vs):Aq A w σ o (el pu cs) vs:=by
 unfold ε9;split;·exact h.qn
 ·exact h
theorem sB (pu:Bool) (cs:List AV):(ε9 pu cs).length=cs.length:=by grind[ε9]
theorem aPe {c:AV} (h:c.pure=true):c.qn.pure=true:=by unfold AV.qn;grind[AV.pure,cJ]
theorem aPf {c:AV} (h:c.one=true):c.qn.one=true:=by unfold AV.qn;grind[θm]
theorem Qo:∀{cs:List AV},cJ cs=true->cJ (cs.map .qn)=true
 |[],h=>h
 |c::cs,h=>by simp only[cJ,ν,ζ] at h ⊢;exact⟨aPe h.1,Qo h.2⟩
theorem AW {pu:Bool} {cs:List AV} (h:cJ cs=true):cJ (ε9 pu cs)=true:=by grind[ε9,Qo]
theorem aPg:∀{cs:List AV},dV cs=true->dV (cs.map .qn)=true
 |[],h=>h
 |c::cs,h=>by grind[dV,aPf]
theorem HE {pu:Bool} {cs:List AV} (h:dV cs=true):dV (ε9 pu cs)=true:=by grind[ε9,aPg]
theorem HD {pu:Bool} {cs:List AV} {vs:List Value} (h:Aq A w σ o cs vs) {j:Nat} {c:AV} (a:(ε9 pu cs)[j]?=some c):∃v,vs[j]?=some v/\nA A w σ o c v:=
 Aq.get _ _ (h.el pu) j c a
theorem nA.one {c:AV} {v:Value} (h:nA A w σ o c v) (e:c.one=true):v.oneCell'=true:=by
 cases c<;>simp only[nA] at h<;>simp only[θm,ω] at e;·simp_all
 ·obtain⟨a,d,rfl,_⟩:=h;rfl
 ·obtain⟨a,rfl,_⟩:=h;rfl
 ·obtain⟨_,⟨a,rfl⟩,_⟩:=h;rfl
 ·obtain⟨_,a,d,rfl,_⟩:=h;rfl
 ·obtain⟨_,b,c,_,rfl⟩:=h;rfl
 ·obtain⟨a,b,rfl,_⟩:=h;rfl
 ·obtain⟨vs,rfl,_⟩:=h;rfl
theorem nA.cells {c:AV} {v:Value} (h:nA A w σ o c v) (a:dV c.cellsOf=true):Aq A w σ o c.cellsOf v.cells.toList/\∀u∈v.cells.toList,u.oneCell'=true:=by
 have f:∀(b:List AV) (e:List Value),Aq A w σ o b e->dV b=true->∀u∈e,u.oneCell'=true:=by
  intro b;induction b with
  |nil=>grind[Aq];|cons c b k=>
   intro e i a u g;simp only[Aq] at i;obtain⟨v,r,rfl,j,d⟩:=i;simp only[dV,ζI,ζ] at a;rcases γl.1 g with rfl|g;·exact j.one a.1
   ·exact k r d a.2 u g
 cases c with
 |agg b=>
  simp only[nA] at h;obtain⟨e,rfl,d⟩:=h;exact⟨d,f _ _ d a⟩;|_=>
  simp only[AV.cellsOf,dV,ζI,List.all_nil,Bool.and_true] at a;have l:=h.one a;have m:v.cells=#[v]:=by cases v<;>simp_all [Value.cells,Value.oneCell']
  simp only[AV.cellsOf,m,List.mem_singleton];exact⟨by simp only[Aq];exact⟨v,[],rfl,h,rfl⟩,by rintro u rfl;exact l⟩
def wg (a:List Nat×Bool) (k:Value):Prop:=∃l,dQ a.1 l=true/\(if a.2 then k= .agg l.toArray else l=[k])
def cQ (A:c_) (w:World) (σ:TN) (o:a_) (i:Nat):OL->Prop
 | .dead=>σ[i]?=some none
 | .cells cs e sz pu=>(pu=true->cJ cs=true)/\dV cs=true/\
  ((σ[i]?=some none/\cs=[])\/∃b cap arr,σ[i]?=some (some (b,cap))/\cap<=maxLen/\w.heap[b]?=some (.cells arr e (0,0))/\arr.size=cap*sz/\cs.length<=arr.size/\
   ∀(j:Nat) (c:AV),cs[j]?=some c->∃v,arr[j]?=some v/\nA A w σ o c v)
 | .map es kt pu=>(pu=true->∀e∈es,e.2.pure=true)/\(∀e∈es,wg kt e.1)/\∃(b c:Nat) (entries:Array MapEntry) (clock:Nat),σ[i]?=some (some (b,c))/\w.heap[b]?=some (.map entries clock)/\(entries.size=es.length/\ζj entries clock)/\
   ∀(j:Nat) (e:Value×AV),es[j]?=some e->∃m,entries[j]?=some m/\m.key=e.1/\nA A w σ o e.2 m.val
structure Q5 (A:c_) (w:World) (σ:TN) (o:a_):Prop where
 len:σ.length=o.length
 dist:∀(i j b c d:Nat),σ[i]?=some (some (b,c))->σ[j]?=some (some (b,d))->i=j
 ef:∀(i b c:Nat),σ[i]?=some (some (b,c))->b<w.heap.size
 obj:∀(i:Nat) (x:OL),o[i]?=some x->cQ A w σ o i x
 av:∀(i b c:Nat),σ[i]?=some (some (b,c))->¬A b
 avb:∀b,A b->b<w.heap.size
theorem cQ.ext (h:Ext w σ o w' σ' o') {i:Nat} {x:OL} (a:cQ A w σ o i x) (f:σ'[i]?=σ[i]?)
  (I:∀b c,σ[i]?=some (some (b,c))->w'.heap[b]?=w.heap[b]?):cQ A w' σ' o' i x:=by
 cases x with
 |dead=>grind[cQ];|cells K e G E=>
  simp only[cQ] at a ⊢;refine⟨a.1,a.2.1,?_⟩;rcases a.2.2 with t|⟨b,l,k,q,s,r,g,z,y⟩;·simp_all
  ·refine .inr ⟨b,l,k,by rw[f];exact q,s,by simp_all,g,z,λj c n=>?_⟩;obtain⟨v,C,d⟩:=y j c n;exact⟨v,C,d.ext h⟩;|map H J E=>
  simp only[cQ] at a ⊢;obtain⟨t,p,b,c,B,D,q,s,r,g⟩:=a;refine⟨t,p,b,c,B,D,by simp_all,by simp_all,r,λj e n=>?_⟩;obtain⟨m,F,u,d⟩:=g j e n;exact⟨m,F,u,d.ext h⟩
theorem Q5.kj (k:Q5 A w σ o) {id:Nat} {x x':OL} {s':Option (Nat×Nat)} (L:o[id]?=some x)
  (u:w.heap.size<=w'.heap.size) (R:w'.os=w.os) (D:w'.tape=w.tape) (K:w'.output=w.output)
  (B:∀b,b<w.heap.size->(∀c,σ[id]?≠some (some (b,c)))->w'.heap[b]?=w.heap[b]?)
  (g:∀b c,s'=some (b,c)->(∃d,σ[id]?=some (some (b,d)))\/(w.heap.size<=b/\b<w'.heap.size))
  (r:match x with
   | .dead=>True
   | .cells cs _ sz _=>∃p S l,x'= .cells p S sz l/\cs.length<=p.length/\(p.length=cs.length->σ[id]?=some s')
   | .map _ _ _=>(∃E C l,x'= .map E C l)/\σ[id]?=some s')
  (a0:Ext w σ o w' (σ.set id s') (o.set id x')->cQ A w' (σ.set id s') (o.set id x') id x'):
  Q5 A w' (σ.set id s') (o.set id x')/\Ext w σ o w' (σ.set id s') (o.set id x'):=by
 have O:id<o.length:=(θ.1 L).1;have Q:id<σ.length:=by rw[k.len];exact O
 have h:∀i,i≠id->(σ.set id s')[i]?=σ[i]?:=λi a=>by grind
 have J:∀i,i≠id->(o.set id x')[i]?=o[i]?:=λi a=>by grind
 have m:(σ.set id s')[id]?=some s':=by simp_all
 have q:(o.set id x')[id]?=some x':=by simp_all
 have v:Ext w σ o w' (σ.set id s') (o.set id x'):=by
  refine⟨u,λb F P=>⟨B b F λc I=>P ⟨id,c,I⟩,?_⟩,by simp,λi a3 H=>?_,λi H=>?_,R,D,K⟩
  ·rintro⟨i,c,a⟩;by_cases f:i=id
   ·subst f;rw[m] at a;injection a with a;subst a;rcases g b c rfl with⟨d,g⟩|g;·exact P ⟨i,d,g⟩
    ·omega
   ·rw[h i f] at a;exact P ⟨i,c,a⟩
  ·by_cases f:i=id
   ·subst f;obtain⟨cs,e,sz,z,n,G⟩:=H;rw[L] at n;injection n with n;subst n;obtain⟨p,S,l,rfl,h3,h4⟩:=r;refine⟨⟨p,S,sz,l,q,by omega⟩,λX I=>?_⟩;obtain⟨a2,Z,a1,s,Y⟩:=I;rw[q] at s;injection s with s;injection s with e1 Z e3 e4;subst e1 e3;refine⟨⟨cs,e,z,L,by omega⟩,?_⟩;grind
   ·refine⟨?_,λsz I=>⟨?_,h i f⟩⟩
    ·obtain⟨cs,e,sz,z,n,G⟩:=H;exact⟨cs,e,sz,z,by simp_all,G⟩
    ·obtain⟨cs,e,z,n,G⟩:=I;exact⟨cs,e,z,by simp_all,G⟩
  ·by_cases f:i=id
   ·subst f;obtain⟨V,T,z,n⟩:=H;rw[L] at n;injection n with n;subst n;obtain⟨⟨E,C,l,rfl⟩,G⟩:=r;exact⟨⟨E,C,l,q⟩,by rw[m,G]⟩
   ·obtain⟨V,T,z,n⟩:=H;exact⟨⟨V,T,z,by simp_all⟩,h i f⟩
 refine⟨⟨by simp[k.len],λi j b c d a t=>?_,λi b c a=>?_,λi y U=>?_,λi b c a=>?_,λb F=>γw (k.avb b F) u⟩,v⟩
 ·by_cases f:i=id<;>by_cases M:j=id;·rw[f,M]
  ·subst f;rw[m] at a;rw[h j M] at t;injection a with a;subst a;rcases g b c rfl with⟨N,g⟩|g;·exact k.dist i j b N d g t
   ·have:=k.ef j b d t;omega
  ·subst M;rw[m] at t;rw[h i f] at a;injection t with t;subst t;rcases g b d rfl with⟨N,g⟩|g;·exact k.dist i j b c N a g
   ·have:=k.ef i b c a;omega
  ·rw[h i f] at a;rw[h j M] at t;exact k.dist i j b c d a t
 ·by_cases f:i=id
  ·subst f;rw[m] at a;injection a with a;subst a;rcases g b c rfl with⟨d,g⟩|g;·exact γw (k.ef i b d g) u
   ·exact g.2
  ·rw[h i f] at a;exact γw (k.ef i b c a) u
 ·by_cases f:i=id;·simp_all
  ·rw[J i f] at U;refine(k.obj i y U).ext v (h i f) λb c F=>?_;refine B b (k.ef i b c F) λd hd=>f (k.dist i id b c d F hd)
 ·by_cases f:i=id
  ·subst f;rw[m] at a;injection a with a;subst a;rcases g b c rfl with⟨d,g⟩|g;·exact k.av i b d g
   ·intro W;have:=k.avb b W;omega
  ·rw[h i f] at a;exact k.av i b c a
end
section
variable {P:Program} {A:c_} {w w':World} {σ σ':TN} {o o':a_} {OM:Operand->AV} {Ov:Operand->Value} {oper:Oper} {v:AV}
def bB (A:c_) (P:Program) (Ov:Operand->Value) (oper:Oper) (w:World) (σ:TN) (o:a_) (v:AV) (o':a_):Prop:=
 ∃u w' σ',((execOp Ov oper).run P w= .ok (.value u) w'\/((execOp Ov oper).run P w= .ok .skip w'/\u=undef))/\Q5 A w' σ' o'/\nA A w' σ' o' v u/\Ext w σ o w' σ' o'
theorem bB.bi (a:Q5 A w σ o) {u:Value} (h:(execOp Ov oper).run P w= .ok (.value u) w) (hr:nA A w σ o v u):bB A P Ov oper w σ o v o:=
 ⟨u,w,σ,.inl h,a,hr,Ext.refl _ _ _⟩
theorem we {t:TypeId} {b:Bool} (h:eX P t=some b) (w:World):(isAgg t).run P w= .ok b w:=by
 unfold eX at h;cases a:P.underlying t with
 |none=>simp_all;|some d=>cases d<;>simp[a] at h<;>subst h<;>simp[isAgg,run_underlying a]
theorem px {t:TypeId} {n:Nat} (h:bK P t=some n) (w:World):(sizeOf t).run P w= .ok n w:=by
 unfold bK at h;cases a:P.info? t with
 |none=>simp_all;|some i=>simp_all[sizeOf,typeInfo]
theorem Qn {t:TypeId} (h:nB P t=some none):eX P t=some false:=by grind[nB]
theorem Qm {t:TypeId} {n:Nat} (h:nB P t=some (some n)):eX P t=some true/\bK P t=some n:=by grind[nB]
theorem Ql (cs:Array Value) (l:List AV) (a:Nat) (t:TypeId) (n:Option Nat) (f:nB P t=some n) (d:Aq A w σ o l cs.toList) (b:gf l a n=some v):
  ∃u,(part t cs a).run P w= .ok u w/\nA A w σ o v u:=by
 have c:=Aq.length _ _ d;cases n with
 |none=>
  simp only[gf] at b;obtain⟨u,j,i⟩:=Aq.get _ _ d a v b;simp_all[part,we,Qn];|some n=>
  obtain⟨e,g⟩:=Qm f;simp only[gf] at b;split at b
  next h=>injection b with b;subst b;refine⟨.agg (cs.extract a (a+n)),by simp[part,we e,px g],?_⟩;simp only[nA];grind[Aq.kC,Aq.get]
  simp_all
theorem nA.Qk (m:Q5 A w σ o) {a:AV} {u:Value} {cs:List AV} {bu:Nat} (h:nA A w σ o a u) (f:Go.Vi.behind o a=some (cs,bu)):
  ∃p:Addr,u= .pointer (some p)/\∀(j:Nat) (c:AV),cs[bu+j]?=some c->∃v,w.cell? (p.add j)=some v/\nA A w σ o c v:=by
 cases a<;>simp only[Go.Vi.behind,reduceCtorEq] at f;·grind[nA,cF.get,add_add]
 ·rename_i id l n;split at f
  ·rename_i i e sz pu k;split at f
   next g=>simp only[γ,ι] at f;obtain⟨rfl,rfl⟩:=f;simp only[nA] at h;obtain⟨b,c,q,rfl⟩:=h.2.2 sz ⟨i,e,pu,k,g⟩;refine⟨_,rfl,λj d s=>?_⟩;have r:=m.obj id _ k;grind[cQ,Addr.add,World.cell?]
   simp_all
  simp_all
theorem Qj {a:AV} {p:Addr} {cs:List AV} {b:Nat} {t:TypeId} {n:Option Nat} (h:nB P t=some n)
  (g:∀(j:Nat) (c:AV),cs[b+j]?=some c->∃v,w.cell? (p.add j)=some v/\nA A w σ o c v) (d:gf cs b n=some a):
  ∃u,(loadVar t p).run P w= .ok u w/\nA A w σ o a u:=by
 cases n with
 |none=>
  simp only[gf] at d;obtain⟨u,r,s⟩:=g 0 a (by omega);simp_all[Addr.add,loadVar,we,Qn];|some n=>
  obtain⟨k,m⟩:=Qm h;simp only[gf] at d;split at d
  ·rename_i i;injection d with d;subst d;have e:∀j,j<n->∃v,w.cell? (p.add j)=some v/\nA A w σ o (cs.getD (b+j) .ud) v:=by grind
   let f:Nat->Value:=λj=>(w.cell? (p.add j)).getD undef;have l:∀j,j<n->w.cell? (p.add j)=some (f j):=λj q=>by grind
   refine⟨.agg ((Γ n).map f).toArray,by simp_all[loadVar,we,px,run_loadCells],?_⟩;grind[nA,Aq.kC]
  simp_all
theorem aPh (e:Q5 A w σ o) (b:∀x,nA A w σ o (OM x) (Ov x)) {t:TypeId} {n:Option Nat} {x:Operand} (g:oper.op= .load t x) (d:nB P t=some n)
  {cs:List AV} {a:Nat} (f:behind o (OM x)=some (cs,a)) (i:gf cs a n=some v):bB A P Ov oper w σ o v o:=by obtain⟨p,h,c⟩:=(b x).Qk e f;obtain⟨u,j,k⟩:=Qj d c i;simp_all[bB.bi,execOp,Instr.loadAt,Instr.sureAddr]
theorem yr:∀(vs cs:List AV) (a:Nat),(fO cs a vs).length=cs.length
 |[],_,_=>rfl
 |v::vs,cs,a=>by simp[fO,yr vs]
theorem AU:∀(vs cs:List AV) (a:Nat),a+vs.length<=cs.length->∀j,(fO cs a vs)[j]?=if a<=j/\j<a+vs.length then vs[j - a]? else cs[j]?
 |[],cs,a,_,j=>by grind[fO];|v::vs,cs,a,b,j=>by simp only[fO,List.length_cons] at b ⊢;rw[AU vs (cs.set a v) (a+1) (by grind) j];grind
theorem pv {cs:List AV} (h:cJ cs=true):∀c∈cs,c.pure=true:=by induction cs<;>grind[cJ]
theorem sA {cs:List AV} (h:∀c∈cs,c.pure=true):cJ cs=true:=by induction cs<;>grind[cJ]
theorem yq {vs cs:List AV} {a:Nat} (d:a+vs.length<=cs.length):∀c∈fO cs a vs,c∈cs\/c∈vs:=by intro c b;obtain⟨j,e⟩:=γK b;grind[AU]
theorem aPi (arr:List Value) (vs:List Value) (a:Nat) (b:a+vs.length<=arr.length) (j:Nat):
  (arr.take a++vs++arr.drop (a+vs.length))[j]?=if a<=j/\j<a+vs.length then vs[j - a]? else arr[j]?:=by rw[List.append_assoc,εv];grind
theorem mJ {cs:List AV}:dV cs=true↔∀c∈cs,c.one=true:=by simp[dV]
theorem aPj (F:Q5 A w σ o) (K:∀x,nA A w σ o (OM x) (Ov x)) {t:TypeId} {n:Nat} {x y:Operand} (V:oper.op= .store t x y) (hn:bK P t=some n)
  {id bu p:Nat} (S:OM x= .ptr id bu p) {cs:List AV} {e:TypeId} {sz:Nat} {pu:Bool} (E:o[id]?=some (.cells cs e sz pu)) (z:cs.length=p)
  (hlen:(OM y).cellsOf.length=n) (h1:dV (OM y).cellsOf=true) (hle:bu+n<=cs.length) (q:pu=false\/cJ (OM y).cellsOf=true):
  bB A P Ov oper w σ o .ud (o.set id (.cells (fO cs bu (el pu (OM y).cellsOf)) e sz pu)):=by
 have D:=K x;rw[S] at D;simp only[nA] at D;obtain⟨b,c,l,hp⟩:=D.2.2 sz ⟨cs,e,pu,E,z⟩;obtain⟨G,C⟩:=(K y).cells h1;have R:=G.el pu;replace hlen:(el pu (OM y).cellsOf).length=n:=by grind[sB]
 replace h1:dV (el pu (OM y).cellsOf)=true:=HE h1;replace q:pu=false\/cJ (el pu (OM y).cellsOf)=true:=q.imp (λh=>h) AW;generalize el pu (OM y).cellsOf=vs at*;have J:(Ov y).cells.toList.length=n:=by grind[Aq.length]
 have r:=F.obj id _ E;simp only[cQ] at r;obtain⟨q1,Y,O⟩:=r;rcases O with⟨h0,_⟩|⟨b',cap,arr,k1,k2,k3,k4,k5,Q⟩;·simp_all
 rw[l] at k1;simp only[γ,ι] at k1;obtain⟨rfl,rfl⟩:=k1;have g:=run_storeCells_at (P:=P) b bu e (Ov y).cells.toList 0 arr w k3 (by omega) C;simp only[ζk] at g;generalize M:(arr.toList.take bu++(Ov y).cells.toList++arr.toList.drop (bu+(Ov y).cells.toList.length)).toArray=new at g;have I:(execOp Ov oper).run P w= .ok .skip (w.setRow b new):=by simp_all[execOp,Instr.storeAt,Instr.sureAddr,storeVar,px]
 have N:b<w.heap.size:=F.ef id b c l;have i:∀k,k≠b->(w.setRow b new).heap[k]?=w.heap[k]?:=by simp_all[World.setRow,εZ,θv]
 have H:(w.setRow b new).heap[b]?=some (.cells new e (0,0)):=by grind[World.setRow]
 have W:new.size=arr.size:=by grind
 have X:id<σ.length:=(θ.1 l).1;have B:σ.set id (some (b,c))=σ:=by apply γ8;grind
 obtain⟨s,m⟩:=Q5.kj (w':=w.setRow b new) (s':=some (b,c)) (x':=.cells (fO cs bu vs) e sz pu) F E (by simp_all) rfl rfl rfl
  (λk _ hk=>i k (λhe=>hk c (he▸l))) (λb2 c2 h2=> .inl ⟨c,by simp_all⟩) ⟨_,_,_,rfl,by grind[yr],λ_=>l⟩ (λm=>by
   simp only[cQ];refine⟨λU=>?_,?_,.inr ⟨b,c,new,by simp_all,k2,H,by omega,by grind[yr],λj d a=>?_⟩⟩
   ·refine sA λd a=>?_;rcases yq (by rw[hlen];exact hle) d a with a|a<;>grind[yq,pv]
   ·refine mJ.2 λd a=>?_;rcases yq (by rw[hlen];exact hle) d a with a|a<;>grind[yq,mJ]
   ·rw[AU _ _ _ (by omega)] at a;rw[hlen] at a;have T:=aPi arr.toList (Ov y).cells.toList bu (by grind) j;have f:new[j]?=if bu<=j/\j<bu+n then(Ov y).cells.toList[j - bu]? else arr[j]?:=by grind
    by_cases L:bu<=j/\j<bu+n
    ·rw[if_pos L] at a f;obtain⟨u,hu,hr⟩:=Aq.get _ _ R _ d a;exact⟨u,by rw[f];exact hu,hr.ext m⟩
    ·rw[if_neg L] at a f;obtain⟨u,hu,hr⟩:=Q j d a;exact⟨u,by rw[f];exact hu,hr.ext m⟩);rw[B] at s m;exact⟨undef,_,σ,.inr ⟨I,rfl⟩,s,by simp[nA],m⟩
end
section
variable {P:Program} {A:c_} {w w':World} {σ σ':TN} {o o':a_} {OM:Operand->AV} {Ov:Operand->Value} {oper:Oper} {v:AV}
theorem wc {qE:Nat} {x:OL} (h:kn qE x o=some o'):o[qE]?=some .dead/\o'=o.set qE x:=by grind[kn]
theorem Q5.AT (k:Q5 A w σ o) {qE:Nat} (l:o[qE]?=some .dead) {cs:List AV} {arr:Array Value} {e:TypeId} {sz cap:Nat} {pu:Bool} (d:arr.size=cap*sz) (p:cap<=maxLen)
  (g:cs.length<=arr.size) (y:dV cs=true) (m:pu=true->cJ cs=true) (a:∀(j:Nat) (c:AV),cs[j]?=some c->∃v,arr[j]?=some v/\nA A w σ o c v):
  Q5 A (w.alloc (.cells arr e)) (σ.set qE (some (w.heap.size,cap))) (o.set qE (.cells cs e sz pu))/\Ext w σ o (w.alloc (.cells arr e)) (σ.set qE (some (w.heap.size,cap))) (o.set qE (.cells cs e sz pu)):=by
 have i:qE<o.length:=(θ.1 l).1;have f:qE<σ.length:=by rw[k.len];exact i
 refine Q5.kj (x:=.dead) k l (by simp) rfl rfl rfl (λb r _=>heap_alloc_old w _ b r) (λb c h=> .inr ?_) trivial λq=>?_;·simp_all
 ·simp only[cQ];refine⟨m,y,.inr ⟨w.heap.size,cap,arr,by simp_all,p,heap_alloc_new w _,d,g,λj c n=>?_⟩⟩;obtain⟨u,s,t⟩:=a j c n;exact⟨u,s,t.ext q⟩
theorem Qi:1<=maxLen:=by simp[maxLen]
theorem uc (A:c_) (w:World) (σ:TN) (o:a_):∀(z:List Value),(∀u∈z,u.oneCell'=true)->Aq A w σ o (z.map .sc) z
 |[],_=>by simp[Aq];|v::z,h=>by simp only[ν,Aq];exact⟨v,z,rfl,by simp[nA,h v],uc A w σ o z λu a=>h u (by simp[a])⟩
theorem HC {z:List Value} (h:∀u∈z,u.oneCell'=true):dV (z.map δe)=true:=by refine mJ.2 λc b=>?_;obtain⟨u,a,rfl⟩:=Δ.1 b;exact h u a
theorem Qh (z:List Value):cJ (z.map δe)=true:=by refine sA λc a=>?_;obtain⟨u,_,rfl⟩:=Δ.1 a;rfl
theorem ub {t:TypeId} {z:List Value} (h:lq P t=some z):∃(i:TypeInfo) (a:Value),P.info? t=some i/\i.zero=some a/\a.cells.toList=z/\i.size=z.length/\∀u∈z,u.oneCell'=true:=by
 unfold lq at h;cases b:P.info? t with
 |none=>simp[b] at h;|some i=>
  cases c:i.zero with
  |none=>simp_all;|some a=>
   simp only[b,c,bK,δT,ξ] at h;grind
theorem aPk (m:Q5 A w σ o) {t:TypeId} {z:List Value} {pu:Bool} {qE:Nat} (q:oper.op= .alloc t) (p:lq P t=some z)
  (l:o[qE]?=some .dead):bB A P Ov oper w σ o (.ptr qE 0 z.length) (o.set qE (.cells (z.map .sc) t z.length pu)):=by
 obtain⟨i,n,C,v,d,k,a⟩:=ub p;have b:qE<o.length:=(θ.1 l).1;have f:qE<σ.length:=by rw[m.len];exact b
 have g:n.cells.size=z.length:=by grind
 obtain⟨h,s⟩:=m.AT (w:=w) (arr:=n.cells) (e:=t) (sz:=z.length) (cap:=1) (pu:=pu) (cs:=z.map .sc) l (by omega) Qi (by simp[g]) (HC a) (λ_=>Qh z)
  (λj c r=>by obtain⟨u,D,x⟩:=Aq.get _ _ (uc A w σ o z a) j c r;grind);refine⟨.pointer (some ⟨w.heap.size,0,none⟩),_,_,.inl ?_,h,?_,s⟩;·simp_all[execOp,Instr.alloc,zeroValue,typeInfo,newVar,newRow]
 ·simp only[nA];refine⟨⟨_,_,_,_,by rw[γN b],by simp⟩,⟨_,rfl⟩,λB y=>⟨w.heap.size,1,by simp_all,rfl⟩⟩
theorem aPl (l:Q5 A w σ o) (g:∀x,nA A w σ o (OM x) (Ov x)) {e:TypeId} {x:Operand} {qE:Nat} (f:oper.op= .box e x) (h:dV (OM x).cellsOf=true)
  (k:o[qE]?=some .dead):bB A P Ov oper w σ o (.ptr qE 0 (OM x).cellsOf.length) (o.set qE (.cells (OM x).cellsOf e (OM x).cellsOf.length false)):=by
 have a:qE<o.length:=(θ.1 k).1;have d:qE<σ.length:=by rw[l.len];exact a
 obtain⟨m,_⟩:=(g x).cells h;have i:=Aq.length _ _ m;obtain⟨b,n⟩:=l.AT (w:=w) (arr:=(Ov x).cells) (e:=e) (sz:=(OM x).cellsOf.length) (cap:=1) (pu:=false) (cs:=(OM x).cellsOf) k (by simp_all) Qi (by simp_all) h (by simp)
  (λj c r=>by grind[Aq.get]);refine⟨.pointer (some ⟨w.heap.size,0,none⟩),_,_,.inl ?_,b,?_,n⟩;·simp[execOp,f,Instr.box,newVar,newRow,newObj,Sem.run]
 ·simp only[nA];refine⟨⟨_,_,_,_,by rw[γN a],by simp⟩,⟨_,rfl⟩,λp q=>⟨w.heap.size,1,by simp_all,rfl⟩⟩
theorem Qg (c:Q5 A w σ o) (b:∀x,nA A w σ o (OM x) (Ov x)) {x:Operand} (a:oper.op= .move x\/oper.op= .assign x):bB A P Ov oper w σ o (OM x) o:=
 bB.bi c (u:=Ov x) (by rcases a with h|h<;>simp[execOp,h]) (b x)
theorem f_ {u:Value} {v:Value} (h:nA A w σ o (.sc u) v):v=u:=by grind[nA]
theorem Qf (i:Q5 A w σ o) (d:∀x,nA A w σ o (OM x) (Ov x)) {c a b:Operand} (e:oper.op= .pick c a b) {t:Bool} (h:OM c= .sc (.bool t)):bB A P Ov oper w σ o (OM (if t then a else b)) o:=by have f:=d c;rw[h] at f;have g:=f_ f;refine bB.bi i (u:=Ov (if t then a else b)) ?_ (d _);cases t<;>simp[execOp,e,g,asBool]
theorem Qe (c:Q5 A w σ o) (a:∀x,nA A w σ o (OM x) (Ov x)) {x:Operand} (b:oper.op= .nilCheck x) {p:Addr} (d:Ov x= .pointer (some p)):bB A P Ov oper w σ o (OM x) o:=by refine bB.bi c (u:=Ov x) ?_ (a x);simp_all[execOp]
theorem sy (k:IntKind) (n:Int):ei k n=k.wrap n:=by
 cases k<;>simp only[ei];all_goals
  split
  next h=>simp only[ζ,decide_eq_true_eq] at h;grind[IntKind.wrap,IntKind.bits,IntKind.signed]
  ·rfl
theorem HB (n:Nat):A_ n=2^n:=by simp[A_]
theorem aPm {e:BinOp} {t:TypeId} {x y:Operand} {a b r:Value} (h:gz e a b=some r):
  (do eqGuard e t x y a b;binOp e t a b:Sem Value).run P w= .ok r w:=by
 unfold gz at h;simp only[kO,sy,HB] at h;split at h
 ·rename_i k n j m;split at h
  ·split at h;·cases h
   ·injection h with h;subst h;rename_i f;simp[eqGuard,binOp,Op.shift,f]
  ·split at h;·cases h
   ·injection h with h;subst h;rename_i f;simp[eqGuard,binOp,Op.shift,f]
  ·split at h
   ·rename_i i;subst i;cases e<;>simp only[reduceCtorEq] at h<;>first
     |(injection h with h;subst h;simp[eqGuard,binOp,Op.intArith,Op.intBits,Op.intCmp];done);|simp_all[eqGuard,binOp,Op.intDiv]
   ·cases h
 ·rename_i c d;cases e<;>simp only[reduceCtorEq] at h;all_goals first
   |(injection h with h;simp_all[eqGuard,binOp,Op.stringOp])
   |(split at h
     next g=>injection h with h;subst h;simp[eqGuard,binOp,Op.stringOp];omega
     ·cases h)
 ·cases h
theorem aPn {c:BinOp} {a b r:Value} (h:gz c a b=some r):r.oneCell'=true:=by
 unfold gz at h;split at h
 ·split at h
  ·split at h;·cases h
   ·injection h with h;subst h;rfl
  ·split at h;·cases h
   ·injection h with h;subst h;rfl
  ·split at h
   ·unfold kO at h;cases c<;>simp only[reduceCtorEq] at h<;>first
     |(injection h with h;subst h;rfl)
     |(split at h;·cases h
       ·injection h with h;subst h;rfl)
   ·cases h
 ·cases c<;>simp only[reduceCtorEq] at h;all_goals first
   |(injection h with h;subst h;rfl)
   |(split at h;·injection h with h;subst h;rfl
     ·cases h)
 ·cases h
theorem aPo (l:Q5 A w σ o) (c:∀x,nA A w σ o (OM x) (Ov x)) {g:BinOp} {t k:TypeId} {x y:Operand} (d:oper.op= .binOp g t x y k) {a b r:Value} (j:OM x= .sc a) (i:OM y= .sc b)
  (h:gz g a b=some r):bB A P Ov oper w σ o (.sc r) o:=by have f:=c x;have e:=c y;rw[j] at f;rw[i] at e;refine bB.bi l (u:=r) ?_ (by simp[nA,aPn h]);simp only[execOp,d,f_ f,f_ e];have:=aPm (P:=P) (w:=w) (t:=t) (x:=x) (y:=y) h;simp only[Sem.run_bind] at this ⊢;rw[this];rfl
theorem aPp (i:Q5 A w σ o) (d:∀x,nA A w σ o (OM x) (Ov x)) {f:BinOp} {c:Bool} {t m:TypeId} {x y:Operand} (e:oper.op= .binOp f t x y m) (k:(f= .eql/\c=false)\/(f= .neq/\c=true))
  (l:P.underlying t=some .bool) {a b:Bool} (j:OM x= .sc (.bool a)) (n:OM y= .sc (.bool b)):bB A P Ov oper w σ o (.sc (.bool (if c then !(a==b) else a==b))) o:=by have h:=d x;have g:=d y;rw[j] at h;rw[n] at g;refine bB.bi i (u:=.bool (if c then !(a==b) else a==b)) ?_ (by simp[nA,Value.oneCell']);simp only[execOp,e,f_ h,f_ g];rcases k with⟨rfl,rfl⟩|⟨rfl,rfl⟩<;>simp[eqGuard,binOp,Go.run_equal_bool w t _ _ l]
theorem aPq (w:World) (d:Nat) {t e:TypeId} (p:Option Addr) (h:P.underlying t=some (.pointer e)):(Op.equalIn (d+1) t (.pointer p) (.pointer none)).run P w= .ok p.isNone w:=by cases p<;>simp[Op.equalIn,run_underlying h]
theorem Qd (i:Q5 A w σ o) (c:∀x,nA A w σ o (OM x) (Ov x)) {op:BinOp} {neg:Bool} {t t' e:TypeId} {x y:Operand} (a:oper.op= .binOp op t x y t') (f:(op= .eql/\neg=false)\/(op= .neq/\neg=true))
  (hu:P.underlying t=some (.pointer e)) {p:Option Addr} (h:Ov x= .pointer p) (g:OM y= .sc (.pointer none)):bB A P Ov oper w σ o (.sc (.bool (if neg then p.isSome else p.isNone))) o:=by have b:=c y;rw[g] at b;refine bB.bi i (u:=.bool (if neg then p.isSome else p.isNone)) ?_ (by simp[nA,Value.oneCell']);simp only[execOp,a,h,f_ b];have d:(Op.equal t (.pointer p) (.pointer none)).run P w= .ok p.isNone w:=aPq w 9999 p hu;rcases f with⟨rfl,rfl⟩|⟨rfl,rfl⟩<;>cases p<;>simp[eqGuard,binOp,d]
theorem aPr (f:Q5 A w σ o) (c:∀x,nA A w σ o (OM x) (Ov x)) {e:UnOp} {t:TypeId} {x:Operand} (g:oper.op= .unOp e t x) (h:rG e (OM x)=some v):bB A P Ov oper w σ o v o:=by
 have a:=c x;unfold rG at h;split at h
 ·rename_i b d;rw[d] at a;have:=f_ a;split at h
  ·injection h with h;subst h;refine bB.bi f (u:=.bool !b) ?_ (by simp[nA,Value.oneCell']);simp_all[execOp,Op.unary]
  ·cases h
 ·rename_i k n d;rw[d] at a;have:=f_ a;split at h
  ·injection h with h;subst h;rw[sy];refine bB.bi f (u:=.int k (k.wrap (0 - n))) ?_ (by simp[nA,Value.oneCell']);simp_all[execOp,Op.unary,Op.intArith]
  ·cases h
 ·cases h
theorem aPs (c:Q5 A w σ o) (a:∀x,nA A w σ o (OM x) (Ov x)) {s d:TypeId} {h:TypeDesc} {k f:IntKind} {n:Int} {x:Operand} (e:oper.op= .convert s d x) (i:P.underlying s=some h) (j:P.underlying d=some (.int k))
  (g:OM x= .sc (.int f n)):bB A P Ov oper w σ o (.sc (.int k (ei k n))) o:=by rw[sy];have b:=a x;rw[g] at b;have:=f_ b;refine bB.bi c (u:=.int k (k.wrap n)) ?_ (by simp[nA,Value.oneCell']);simp_all[execOp,convert,run_underlying,Conv.intToInt]
theorem Qc {a b:AV} {d:Nat} {u:Value} (h:nA A w σ o a u) (c:mf d a=some b):∃p:Addr,u= .pointer (some p)/\nA A w σ o b (.pointer (some (p.add d))):=by unfold mf at c;grind[nA,Addr.add,add_add]
end
section
variable {P:Program} {A:c_} {w w':World} {σ σ':TN} {o o':a_} {OM:Operand->AV} {Ov:Operand->Value} {oper:Oper} {v:AV}
theorem aPt (d:Q5 A w σ o) (a:∀x,nA A w σ o (OM x) (Ov x)) {s f n:Nat} {fs:Array Field} {g:Field} {x:Operand} (b:oper.op= .fieldAddr s x f) (e:P.underlying s=some (.struct fs)) (j:fs[f]?=some g)
  (k:bK P g.type=some n) (c:n≠0) (h:mf g.offset (OM x)=some v):bB A P Ov oper w σ o v o:=by obtain⟨p,i,l⟩:=Qc (a x) h;simp_all[bB.bi,execOp,Instr.fieldAt,run_underlying,Instr.sureAddr,fieldPlace,px]
theorem aPu (p:Q5 A w σ o) (b:∀x,nA A w σ o (OM x) (Ov x)) {s f:Nat} {fs:Array Field} {g:Field} {x:Operand} {n:Option Nat} (i:oper.op= .field s x f) (r:P.underlying s=some (.struct fs)) (l:fs[f]?=some g)
  (j:nB P g.type=some n) {cs:List AV} (e:OM x= .agg cs) (h:gf cs g.offset n=some v):bB A P Ov oper w σ o v o:=by have a:=b x;rw[e] at a;simp only[nA] at a;obtain⟨c,k,d⟩:=a;obtain⟨u,q,m⟩:=Ql (P:=P) c cs g.offset g.type n j d h;simp_all[bB.bi,execOp,Instr.field,run_underlying,asAgg]
theorem wb {a:AV} {n:Int} {u:Value} (h:nA A w σ o a u) (b:gP a=some n):∃k,u= .int k n:=by unfold gP at b;grind[f_]
theorem aPv (q:Q5 A w σ o) (b:∀x,nA A w σ o (OM x) (Ov x)) {t a e sz:Nat} {x i:Operand} {n:Int} (c:oper.op= .indexAddr t x i) (g:P.underlying t=some (.array a e)) (d:bK P e=some sz)
  (m:gP (OM i)=some n) (r:0<=n) (s:n<a) (h:mf (n.toNat*sz) (OM x)=some v):bB A P Ov oper w σ o v o:=by obtain⟨p,f,l⟩:=Qc (b x) h;obtain⟨k,j⟩:=wb (b i) m;refine bB.bi q ?_ l;simp only[execOp,c,Instr.indexAt,j,f];simp only[Sem.run_bind,asIntOf,Sem.run_pure,Result.andThen_ok,run_underlying g,Instr.sureAddr];simp_all[px]
theorem aPw (hS:Q5 A w σ o) (B:∀x,nA A w σ o (OM x) (Ov x)) {t e sz:Nat} {x i:Operand} {n:Int} (M:oper.op= .indexAddr t x i) (Y:P.underlying t=some (.slice e)) (X:bK P e=some sz) (S:sz≠0)
  (Z:gP (OM i)=some n) (h:o7 o sz (OM x) n=some v):bB A P Ov oper w σ o v o:=by
 obtain⟨k,T⟩:=wb (B i) Z;have r:=B x;have C:∀(a:Option Addr) (f d:Nat) (p:Addr),Ov x= .slice a f d->a=some p->0<=n->n<f->nA A w σ o v (.pointer (some (p.add (n.toNat*sz))))->bB A P Ov oper w σ o v o:=by intro a f d p g K N G hr;refine bB.bi hS ?_ hr;simp only[execOp,M,Instr.indexAt,T,g,K];simp only[Sem.run_bind,asIntOf,Sem.run_pure,Result.andThen_ok,run_underlying Y];simp_all[px]
 unfold o7 at h;split at h
 ·rename_i m F q;rw[q] at r;simp only[nA] at r;obtain⟨a,d,g,hn,hp,U⟩:=r;split at h
  ·rename_i E;injection h with h;subst h;obtain⟨N,G,z⟩:=E;have H:n.toNat*sz<F.length:=by
    rw[z];have:n.toNat<m:=by omega
    exact(Nat.mul_lt_mul_right (by omega)).2 this
   obtain⟨b,u,hb,_⟩:=cF.get _ _ _ U _ _ (μ H);grind[nA]
  ·cases h
 ·rename_i V a0 f I q;rw[q] at r;simp only[nA] at r;obtain⟨L,a,d,g,W,s⟩:=r;split at h
  ·rename_i F O y Q R;split at h
   ·rename_i E;obtain⟨j,rfl,N,G,D⟩:=E;injection h with h;subst h;have l:=s y ⟨F,O,Q,R,j⟩;have a1:ue o V y I:=⟨F,O,Q,R,j⟩;unfold j9 at l;split at l;·omega
    next b c J=>have K:=l.1 (by omega);refine C a f d _ g K N G ?_;simp only[nA];refine⟨L,⟨_,rfl⟩,λsz E=>⟨b,c,J,?_⟩⟩;simp_all[Addr.add]
    simp_all
   ·cases h
  ·cases h
 ·cases h
theorem aPx (f:Q5 A w σ o) (b:∀x,nA A w σ o (OM x) (Ov x)) {t c e sz:Nat} {x i:Operand} {n:Int} {m:Option Nat} (d:oper.op= .index t x i) (B:P.underlying t=some (.array c e)) (p:bK P e=some sz)
  (j:nB P e=some m) (z:gP (OM i)=some n) (E:0<=n) (C:n<c) {cs:List AV} (g:OM x= .agg cs) (h:gf cs (n.toNat*sz) m=some v):bB A P Ov oper w σ o v o:=by obtain⟨k,q⟩:=wb (b i) z;have a:=b x;rw[g] at a;simp only[nA] at a;obtain⟨s,l,r⟩:=a;obtain⟨u,D,y⟩:=Ql (P:=P) s cs _ e m j r h;refine bB.bi f (u:=u) ?_ y;simp only[execOp,d,Instr.index,q,l];simp_all[asIntOf,run_underlying,px]
theorem aPy (d:Q5 A w σ o) (c:∀x,nA A w σ o (OM x) (Ov x)) {t:Nat} {x i:Operand} {n:Int} {s:ByteArray} {b:UInt8} (e:oper.op= .index t x i) (l:P.underlying t=some .string)
  (f:gP (OM i)=some n) (p:0<=n) (g:OM x= .sc (.string s)) (h:s[n.toNat]?=some b):bB A P Ov oper w σ o (.sc (.int .u8 b.toNat)) o:=by obtain⟨k,j⟩:=wb (c i) f;have a:=c x;rw[g] at a;have m:=f_ a;refine bB.bi d (u:=.int .u8 b.toNat) ?_ (by simp[nA,Value.oneCell']);simp_all[execOp,Instr.index,asIntOf,run_underlying]
theorem aPz (s:Q5 A w σ o) (j:∀x,nA A w σ o (OM x) (Ov x)) {t:TypeId} {x:Operand} {c:Call} {k n:Nat} (q:oper.op= .call c) (z:c.callee= .builtin .len) (C:c.args=#[x]) (r:c.argTypes=#[t])
  (g:(k=0/\∃e,P.underlying t=some (.slice e))\/(k=1/\P.underlying t=some .string)\/(k=2/\∃a b,P.underlying t=some (.map a b))) (d:kN o k (OM x)=some n):bB A P Ov oper w σ o (.sc (.int .i64 n)) o:=by
 refine bB.bi s (u:=.int .i64 n) ?_ (by simp[nA,Value.oneCell']);simp only[execOp,q,resolve,z,C,r,invoke,builtin];have h:=j x;rcases g with⟨rfl,e,g⟩|⟨rfl,g⟩|⟨rfl,a,b,g⟩
 ·have:∃A c,Ov x= .slice A n c:=by cases f:OM x<;>rw[f] at d h<;>simp only[kN,reduceCtorEq] at d<;>grind[kN,reduceCtorEq,f_,nA]
  obtain⟨A,E,l⟩:=this;simp[l,Builtin.len_,run_underlying g,goInt]
 ·cases f:OM x<;>rw[f] at d h<;>simp only[kN,reduceCtorEq] at d;rename_i u;cases u<;>simp only[reduceCtorEq,γ] at d;subst d;simp[f_ h,Builtin.len_,run_underlying g,goInt]
 ·cases f:OM x<;>rw[f] at d h<;>simp only[kN,reduceCtorEq] at d;rename_i B;split at d
  next H J M D=>simp only[γ] at d;subst d;simp only[nA] at h;obtain⟨_,K,E,p,l⟩:=h;have i:=s.obj B _ D;simp only[cQ] at i;obtain⟨_,_,L,I,G,F,m,v,y,_⟩:=i;rw[p] at m;simp only[γ,ι] at m;obtain⟨rfl,rfl⟩:=m;simp[l,Builtin.len_,run_underlying g,goInt,getObj,Sem.run,v,y]
  ·cases d
theorem aPA (h:Q5 A w σ o) {t:TypeId} {x:Operand} {c:Call} {n e:Nat} (a:oper.op= .call c) (g:c.callee= .builtin .len) (f:c.args=#[x]) (b:c.argTypes=#[t])
  (d:P.underlying t=some (.array n e)):bB A P Ov oper w σ o (.sc (.int .i64 n)) o:=by refine bB.bi h (u:=.int .i64 n) ?_ (by simp[nA,Value.oneCell']);simp[execOp,a,resolve,g,f,b,invoke,builtin,Builtin.len_,run_underlying d,goInt]
theorem Qb (h:Q5 A w σ o) (d:∀x,nA A w σ o (OM x) (Ov x)) {mx:Bool} {x y:Operand} {c:Call} {k:IntKind} {a b:Int} (e:oper.op= .call c) (l:c.callee= .builtin (if mx then .max else .min)) (m:c.args=#[x,y])
  (j:OM x= .sc (.int k a)) (i:OM y= .sc (.int k b)):bB A P Ov oper w σ o (.sc (.int k (if mx then(if b>a then b else a) else(if b<a then b else a)))) o:=by have g:=d x;have f:=d y;rw[j] at g;rw[i] at f;refine bB.bi h (u:=.int k (if mx then(if b>a then b else a) else(if b<a then b else a))) ?_ (by simp[nA,Value.oneCell']);cases mx<;>simp[execOp,e,resolve,l,m,invoke,builtin,Builtin.min_,Builtin.max_,f_ g,f_ f,Builtin.min2,Builtin.max2]
theorem aPB (l:Q5 A w σ o) (a:∀x,nA A w σ o (OM x) (Ov x)) {x:Operand} {i:Nat} (f:oper.op= .extract x i) {vs:List AV} (d:OM x= .IL vs) (h:vs[i]?=some v):bB A P Ov oper w σ o v o:=by have b:=a x;rw[d] at b;simp only[nA] at b;obtain⟨g,k,e⟩:=b;obtain⟨u,c,j⟩:=Aq.get _ _ e i v h;simp_all[bB.bi,execOp,Instr.extract]
theorem ua (a:∀x,nA A w σ o (OM x) (Ov x)):∀l:List Operand,Aq A w σ o (l.map OM) (l.map Ov)
 |[]=>by simp[Aq];|x::l=>by simp only[ν,Aq];exact⟨_,_,rfl,a x,ua a l⟩
theorem aPC (h:Q5 A w σ o) (b:∀x,nA A w σ o (OM x) (Ov x)) {t:TypeId} {x:Operand} {fs:Array Field} (e:P.underlying t=some (.struct fs)) (a:oper.op= .makeInterface t x) {cs:List AV} (c:OM x= .agg cs) (f:cJ cs=true):bB A P Ov oper w σ o (.ifc t cs) o:=by
 have h1:=b x;rw[c] at h1;simp only[nA] at h1;obtain⟨vs,d,g⟩:=h1;refine bB.bi h (u:=.iface t (.agg vs)) ?_ ?_;·simp[execOp,a,Instr.makeInterface,run_underlying e,d]
 ·simp only[nA];exact⟨_,rfl,f,g⟩
theorem aPD (g:Q5 A w σ o) (e:∀x,nA A w σ o (OM x) (Ov x)) {f:Fn} (d:∀l,CP l f=f) {a b:Array Operand} (c:oper.op= .makeFunc f a b):bB A P Ov oper w σ o (.fn f (a.toList.map OM) (b.toList.map OM)) o:=by refine bB.bi g (u:=.func f (a.map Ov) (b.map Ov)) (by simp[execOp,c,Instr.makeFunc]) ?_;simp only[nA];exact⟨_,_,by rw[d],by simp_all[ua],by simp_all[ua]⟩
end
section
variable {P:Program} {A:c_} {w w':World} {σ σ':TN} {o o':a_} {OM:Operand->AV} {Ov:Operand->Value} {oper:Oper} {v:AV}
theorem v_ {d k:Nat} {a:Option AV} {u:Option Value} (h:∀x,a=some x->∃y,u=some y/\nA A w σ o x y) (c:a=none->u=none) (b:gN d a=some k):
  (u=none/\k=d)\/∃q,u=some (.int q (k:Int)):=by unfold gN at b;grind[f_]
theorem Qa (a:Bool) (b cap l h:Nat) (lo g:Option Value) (d:(lo=none/\l=0)\/∃q,lo=some (.int q (l:Int))) (e:(g=none/\h=b)\/∃q,g=some (.int q (h:Int))) (f:l<=h) (c:h<=cap):
  (Instr.sliceBounds a b cap lo g none).run P w= .ok (l,h,cap) w:=by
 have i:(0:Int)<=h/\(h:Int)<=cap:=by omega
 have j:(0:Int)<=l/\(l:Int)<=h:=by omega
 rcases d with⟨rfl,rfl⟩|⟨q,rfl⟩<;>rcases e with⟨rfl,rfl⟩|⟨k,rfl⟩<;>
  simp[Instr.sliceBounds,Instr.sliceBound,asIntOf,i,j,f,c]
theorem p9 (a:∀x,nA A w σ o (OM x) (Ov x)) (lo:Option Operand):(∀x,lo.map OM=some x->∃y,lo.map Ov=some y/\nA A w σ o x y)/\(lo.map OM=none->lo.map Ov=none):=by cases lo<;>simp_all
theorem aPE (hS:Q5 A w σ o) (p:∀x,nA A w σ o (OM x) (Ov x)) {t e sz:Nat} {x:Operand} {lo m:Option Operand} (M:oper.op= .slice t x lo m none) (Y:P.underlying t=some (.slice e)) (S:bK P e=some sz) (a1:sz≠0)
  (h:oZ o sz (OM x) (lo.map OM) (m.map OM)=some v):bB A P Ov oper w σ o v o:=by
 have B:=p x;have r:∀(a:Option Addr) (g f l k:Nat),Ov x= .slice a g f->gN 0 (lo.map OM)=some l->gN g (m.map OM)=some k->l<=k->k<=f->
   nA A w σ o v (.slice (if f=l then a else a.map (·.add (l*sz))) (k - l) (f - l))->bB A P Ov oper w σ o v o:=by intro a g f l k q F C y T hr;refine bB.bi hS ?_ hr;have b1:=v_ (p9 p lo).1 (p9 p lo).2 F;have b2:=v_ (p9 p m).1 (p9 p m).2 C;simp only[execOp,M,Instr.sliceAt,q,Instr.slice];simp[run_underlying Y,Qa true g f l k _ _ b1 b2 y T,px S]
 unfold oZ at h;split at h
 ·rename_i n cs z;rw[z] at B;simp only[nA] at B;obtain⟨a,f,q,hn,hp,hm⟩:=B;split at h
  ·rename_i l k F C;split at h
   ·rename_i R;injection h with h;subst h;refine r a n f l k q F C R.1 (by omega) ?_;simp only[nA];refine⟨_,_,rfl,by omega,?_,?_⟩
    ·refine sA λc a7=>pv hp c ?_;grind
    ·refine cF.kC _ _ _ λi c m=>?_;rw[δh] at m;split at m
     ·rename_i a2;rw[δz] at m;obtain⟨b,u,rfl,a4,U,hr⟩:=cF.get _ _ _ hm _ _ m;have D:f≠l:=by grind
      simp_all[cY,add_add]
     ·cases m
   ·cases h
  ·cases h
 ·rename_i id E g s z;rw[z] at B;simp only[nA] at B;obtain⟨Q,a,f,q,a5,G⟩:=B;split at h
  ·rename_i l k F C;split at h
   ·rename_i cs e' d pu ho;split at h
    ·rename_i R;injection h with h;subst h;obtain⟨y,N,a0,rfl⟩:=R;refine r a g f l k q F C y (by omega) ?_;simp only[nA];refine⟨Q,_,_,rfl,by omega,λJ H=>?_⟩;have I:=G J H;obtain⟨a8,e2,a3,j,_⟩:=H;rw[ho] at j;injection j with j;injection j with _ _ hsz2 _;subst hsz2;unfold j9 at I ⊢;split;·simp_all
     ·rename_i b c L;rw[L] at I;obtain⟨h2,h3,h4⟩:=I;have X:l*d+(k - l)*d=k*d:=by rw[<-δX];congr 1;omega
      have K:k*d<=g*d:=γP _ N;refine⟨λZ=>?_,λhz Y hs=>?_,?_⟩
      ·have D:f≠l:=by omega
       have j:q8 (E+l*d) s d=q8 E s d+l*d:=by
        rcases h4 with⟨h5,h6⟩|⟨h5,h6,h7⟩;·grind[oA]
        ·rw[AX (by omega),AX (by omega)];omega
       rw[h2 (by omega),if_neg D,j];simp_all[Addr.add]
      ·have O:l*d=0:=by omega
       have V:l=0:=by rcases Nat.mul_eq_zero.1 O with h|h<;>omega
       subst V;have a6:k*d=s:=by omega
       have W:k=g:=by
        have:g*d<=k*d:=by omega
        have:=Nat.le_of_mul_le_mul_right this hs;omega
       simp_all[Addr.add]
      omega
     simp_all
    ·cases h
   ·cases h
  ·cases h
 all_goals grind[nA,y5]
theorem aPF (f cap l h m:Nat) (lo:Option Value) (i g:Value) (b:(lo=none/\l=0)\/∃q,lo=some (.int q (l:Int))) (a:∃q,i= .int q (h:Int))
  (c:∃q,g= .int q (m:Int)) (d:l<=h) (e:h<=m) (j:m<=cap):
  (Instr.sliceBounds true f cap lo (some i) (some g)).run P w= .ok (l,h,m) w:=by
 have n:(0:Int)<=m/\(m:Int)<=cap:=by omega
 have o:(0:Int)<=h/\(h:Int)<=m:=by omega
 have k:(0:Int)<=l/\(l:Int)<=h:=by omega
 obtain⟨r,rfl⟩:=c;obtain⟨p,rfl⟩:=a;rcases b with⟨rfl,rfl⟩|⟨q,rfl⟩<;>
  simp[Instr.sliceBounds,Instr.sliceBound,asIntOf,n,o,k,d,e]
theorem aPG (hS:Q5 A w σ o) (C:∀x,nA A w σ o (OM x) (Ov x)) {t e sz:Nat} {x:Operand} {lo:Option Operand} {s mx:Operand} (a0:oper.op= .slice t x lo (some s) (some mx)) (ht:P.underlying t=some (.slice e)) (Z:bK P e=some sz) (b6:¬sz=0)
  (h:qZ o sz (OM x) (lo.map OM) (OM s) (OM mx)=some v):bB A P Ov oper w σ o v o:=by
 have r:=C x;have D:∀(a:Option Addr) (g j l k m:Nat),Ov x= .slice a g j->gN 0 (lo.map OM)=some l->gN g (some (OM s))=some k->gN g (some (OM mx))=some m->l<=k->k<=m->m<=j->
   nA A w σ o v (.slice (if m=l then a else a.map (·.add (l*sz))) (k - l) (m - l))->bB A P Ov oper w σ o v o:=by
  intro a g j l k m p S M V F H a2 hr;refine bB.bi hS ?_ hr;have b1:=v_ (p9 C lo).1 (p9 C lo).2 S;have f:∀(y:Operand) (n:Nat),gN g (some (OM y))=some n->∃q,Ov y= .int q (n:Int):=by intro y n hy;rcases v_ (a:=some (OM y)) (u:=some (Ov y)) (λx r=>by injection r with r;subst r;exact⟨_,rfl,C y⟩) (λh=>by cases h) hy with⟨h,_⟩|⟨q,h⟩;all_goals simp_all
  have b2:=f s k M;have b4:=f mx m V;simp only[execOp,a0,Instr.sliceAt,p,Instr.slice];simp[run_underlying ht,aPF g j l k m _ _ _ b1 b2 b4 F H a2,px Z]
 unfold qZ at h;split at h
 ·rename_i n cs E;rw[E] at r;simp only[nA] at r;obtain⟨a,j,p,hn,hp,V⟩:=r;split at h
  ·rename_i l k m S M I;split at h
   ·rename_i U;injection h with h;subst h;refine D a n j l k m p S M I U.1 U.2.1 (by omega) ?_;simp only[nA];refine⟨_,_,rfl,by omega,?_,?_⟩
    ·refine sA λc a4=>pv hp c ?_;exact γY (γj a4)
    ·refine cF.kC _ _ _ λi c s=>?_;rw[δh] at s;split at s
     ·rename_i b0;rw[δz] at s;obtain⟨b,u,rfl,a8,a3,hr⟩:=cF.get _ _ _ V _ _ s;have O:m≠l:=by grind
      simp_all[cY,add_add]
     ·cases s
   ·cases h
  ·cases h
 ·rename_i id z g N E;rw[E] at r;simp only[nA] at r;obtain⟨a1,a,j,p,a9,L⟩:=r;split at h
  ·rename_i l k m S M I;split at h
   ·rename_i cs e' d pu ho;split at h
    ·rename_i U;injection h with h;subst h;obtain⟨F,H,b3,a5,rfl,T,K⟩:=U;refine D a g j l k m p S M I F H (by omega) ?_;simp only[nA];refine⟨a1,_,_,rfl,by omega,λY R=>?_⟩;have J:=L Y R;obtain⟨b5,e2,a7,B,_⟩:=R;rw[ho] at B;injection B with B;injection B with _ _ hsz2 _;subst hsz2;have a6:l*d+(k - l)*d=k*d:=by rw[<-δX];congr 1;omega
     have X:k*d<=g*d:=γP _ (by omega);unfold j9 at J ⊢;split
     next G=>rw[G] at J;obtain⟨h2,h3,h4,h5⟩:=J;subst h3;exact⟨h2,by simp,by omega⟩
     ·rename_i b c G;rw[G] at J;obtain⟨h2,h3,h4⟩:=J;refine⟨λW=>?_,λhz=>by omega,.inr ⟨by omega,by omega,K⟩⟩;have O:m≠l:=by omega
      have Q:(⟨b,z,none⟩:Addr).add (l*d)=⟨b,z+l*d,none⟩:=by unfold Addr.add;split<;>simp_all
      rw[h2 (by omega),if_neg O,oA (by omega),AX (by omega),ξ,Q,show z+l*d+(N+d) - N - d=z+l*d by omega]
     simp_all
    ·cases h
   ·cases h
  ·cases h
 ·cases h
theorem aPH (g:Q5 A w σ o) (a:∀x,nA A w σ o (OM x) (Ov x)) {t l k:Nat} {x:Operand} {s:ByteArray} {lo b:Option Operand} (e:oper.op= .slice t x lo b none) (j:P.underlying t=some .string)
  (p:OM x= .sc (.string s)) (i:gN 0 (lo.map OM)=some l) (n:gN s.size (b.map OM)=some k) (c:l<=k) (d:k<=s.size):bB A P Ov oper w σ o (.sc (.string (s.extract l k))) o:=by have f:=a x;rw[p] at f;have m:=f_ f;refine bB.bi g (u:=.string (s.extract l k)) ?_ (by simp[nA,Value.oneCell']);have h:=v_ (p9 a lo).1 (p9 a lo).2 i;have q:=v_ (p9 a b).1 (p9 a b).2 n;simp only[execOp,e,Instr.sliceAt,m,Instr.slice];simp[run_underlying j,Qa false s.size s.size l k _ _ h q c d]
theorem HA (place:Nat->Option (Nat×Nat)):∀(f:List (Nat×Nat×AV)) (b:List (Nat×Value)) (cs:List AV) (vs:Array Value) (h:List AV),
  f.length=b.length->(∀(i:Nat) (p:Nat×Nat×AV) (q:Nat×Value),f[i]?=some p->b[i]?=some q->place q.1=some (p.1,p.2.1)/\nA A w σ o p.2.2 q.2)->
  Aq A w σ o cs vs.toList->dV cs=true->kM f cs=some h->
  ∃C,Instr.fill place vs b=some C/\Aq A w σ o h C.toList/\dV h=true/\h.length=cs.length
 |[],[],cs,vs,h,_,_,G,L,r=>by
  simp only[kM,γ] at r;subst r;exact⟨vs,rfl,G,L,rfl⟩;|[],_::_,_,_,_,s,_,_,_,_=>by simp at s;|_::_,[],_,_,_,s,_,_,_,_=>by simp at s;|(e,n,a)::f,(i,u)::b,cs,vs,h,s,H,G,L,r=>by
  simp only[kM] at r;split at r
  ·rename_i O;obtain⟨J,S,U⟩:=O;obtain⟨I,K⟩:=H 0 (e,n,a) (i,u) rfl rfl;simp only at I K;obtain⟨Q,W⟩:=K.cells S;have t:=Aq.length _ _ Q;have E:=Aq.length _ _ G;have z:u.cells.size=n:=by rw[<-J,t];simp
   simp only[Instr.fill,I];rw[if_neg (by simp_all)];have M:∀(l:List Value) (k:Nat) (m:Array Value),((l.zipIdx k).foldl (λcs (p:Value×Nat)=>cs.setIfInBounds (e+p.2) p.1) m).size=m.size/\
     ∀j,e+k+l.length<=m.size->((l.zipIdx k).foldl (λcs (p:Value×Nat)=>cs.setIfInBounds (e+p.2) p.1) m)[j]?=if e+k<=j/\j<e+k+l.length then l[j - (e+k)]? else m[j]?:=by
    intro l;induction l with
    |nil=>intro k m;simp;omega;|cons x l ih=>
     intro k m;simp only[List.zipIdx_cons,δQ];grind
   have D:Array.foldl (λcs (p:Value×Nat)=>cs.setIfInBounds (e+p.2) p.1) vs u.cells.zipIdx=(u.cells.toList.zipIdx 0).foldl (λcs (p:Value×Nat)=>cs.setIfInBounds (e+p.2) p.1) vs:=by rw[<-Array.foldl_toList];simp
   obtain⟨Z,P⟩:=M u.cells.toList 0 vs;have y:Aq A w σ o (fO cs e a.cellsOf) ((u.cells.toList.zipIdx 0).foldl (λcs (p:Value×Nat)=>cs.setIfInBounds (e+p.2) p.1) vs).toList:=by
    refine Aq.kC _ _ (by grind[yr]) λj c v=>?_;rw[AU _ _ _ (by omega)] at v;have F:=P j (by simp_all);simp only[γ0];rw[F];simp only[ζk,Array.length_toList,z];rw[J] at v;by_cases g:e<=j/\j<e+n
    ·rw[if_pos g] at v ⊢;grind[Aq.get]
    ·rw[if_neg g] at v ⊢;grind[Aq.get]
   have B:dV (fO cs e a.cellsOf)=true:=mJ.2 λd Y=>by grind[yq,mJ]
   obtain⟨C,V,T,X,k4⟩:=HA place f b _ _ h (by simpa using s) (λi p q R N=>H (i+1) p q (by simpa using R) (by simpa using N)) y B r;grind[yr]
  ·cases r
end
section
variable {P:Program} {A:c_} {w w':World} {σ σ':TN} {o o':a_} {OM:Operand->AV} {Ov:Operand->Value} {oper:Oper} {v:AV}
theorem Hz {d c:Type} {f:d->Option c}:∀{l:List d} {r:List c},qb f l=some r->l.length=r.length/\∀(i:Nat) (a:d) (b:c),l[i]?=some a->r[i]?=some b->f a=some b
 |[],r,h=>by grind[qb];|a::l,r,h=>by
  simp only[qb] at h;split at h
  next b j m e=>injection h with h;subst h;obtain⟨g,k⟩:=Hz e;grind
  ·cases h
theorem P_ (H:Q5 A w σ o) (g:∀x,nA A w σ o (OM x) (Ov x)) {t:TypeId} {place:Nat->Option (Nat×Nat)} {z:List Value} {a:Array (Nat×Operand)} {f:List (Nat×Nat×Operand)} {cs:List AV} (G:oper.op= .build t a)
  (J:lq P t=some z) (E:∀e:Value,(P.info? t).bind (·.zero)=some e->∀l,P.built t l=Instr.fill place e.cells l)
  (c:f.length=a.toList.length) (n:∀(i:Nat) (p:Nat×Operand) (q:Nat×Nat×Operand),a.toList[i]?=some p->f[i]?=some q->place p.1=some (q.1,q.2.1)/\q.2.2=p.2)
  (B:kM (f.map λp=>(p.1,p.2.1,OM p.2.2)) (z.map .sc)=some cs):bB A P Ov oper w σ o (.agg cs) o:=by
 obtain⟨i,e,N,D,d,h,b⟩:=ub J;obtain⟨r,Q,L,K,O⟩:=HA (w:=w) (σ:=σ) (o:=o) place (f.map λp=>(p.1,p.2.1,OM p.2.2)) (a.toList.map λp=>(p.1,Ov p.2)) (z.map .sc) e.cells cs (by simpa using c)
  (λj p q v s=>by rw[γH,ε] at v s;obtain⟨C,m,rfl⟩:=v;obtain⟨F,k,rfl⟩:=s;obtain⟨I,y⟩:=n j F C k m;exact⟨I,by simp only[y];exact g _⟩) (by grind[uc]) (HC b) B;have M:P.built t (a.toList.map λp=>(p.1,Ov p.2))=some r:=by simp_all
 refine bB.bi H (u:=.agg r) ?_ (by grind[nA]);simp_all[run_build,execOp]
theorem P9 (A:c_) (w:World) (σ:TN) (o:a_) {z:List Value} (a:∀u∈z,u.oneCell'=true) (b:Array Value) (q:b.toList=z):∀n:Nat,
  Aq A w σ o (δ n (z.map δe)).flatten (madeCells b (n*z.length)).toList:=by
 intro n;have i:((δ n (z.map δe)).flatten).length=n*z.length:=by simp
 refine Aq.kC _ _ (by simp[madeCells]) λj c d=>?_;have e:j<n*z.length:=by grind
 have f:∀(n j:Nat),j<n*z.length->((δ n (z.map δe)).flatten)[j]?=(z.map δe)[j % z.length]?:=by
  intro n;induction n with
  |zero=>omega;|succ n m=>
   intro j d;rw[δc,ζy,εv];simp only[List.length_map];by_cases h:j<z.length;·rw[if_pos h,Nat.mod_eq_of_lt h]
   ·rw[if_neg h,m (j - z.length) (by grind)];congr 1;rw[Nat.mod_eq_sub_mod (by omega:j≥z.length)]
 rw[f n j e] at d;obtain⟨u,r,l⟩:=Aq.get _ _ (uc A w σ o z a) _ c d;refine⟨u,?_,l⟩;have k:b.size=z.length:=by grind
 have g:0<z.length:=by grind
 have p:j % z.length<b.size:=by grind
 simp only[madeCells,γ0];grind
theorem P8 {z:List Value} (a:∀u∈z,u.oneCell'=true) (n:Nat):dV (δ n (z.map δe)).flatten=true:=by refine mJ.2 λc b=>?_;simp only[θp,ζl] at b;grind[mJ,HC]
theorem aPI (z:List Value) (n:Nat):cJ (δ n (z.map δe)).flatten=true:=by refine sA λc a=>?_;simp only[θp,ζl] at a;grind[pv,Qh]
theorem P7 (r:∀x,nA A w σ o (OM x) (Ov x)) {t e b:Nat} {z:List Value} {a:Array (Nat×Operand)} {cs:List AV} (F:P.underlying t=some (.slice e)) (E:lq P e=some z) (m:0<z.length) (C:b*z.length<=16777216)
  (B:kM ((a.toList.map λp=>(p.1*z.length,p.2)).map λp=>(p.1,z.length,OM p.2)) (δ b (z.map δe)).flatten=some cs):
  ∃g:Array Value,(Instr.buildSlice t b (a.map λp=>(p.1,Ov p.2))).run P w= .ok (.slice (some ⟨w.heap.size,0,none⟩) b b) (w.alloc (.cells g e))/\Aq A w σ o cs g.toList/\dV cs=true/\cs.length=b*z.length:=by
 obtain⟨i,k,H,l,c,f,d⟩:=ub E;have v:k.cells.size=z.length:=by grind
 obtain⟨g,n,D,u,s⟩:=HA (w:=w) (σ:=σ) (o:=o) (λi=>some (i*z.length,z.length)) ((a.toList.map λp=>(p.1*z.length,p.2)).map λp=>(p.1,z.length,OM p.2))
  (a.toList.map λp=>(p.1,Ov p.2)) _ (madeCells k.cells (b*z.length)) cs (by simp)
  (λj p q K J=>by grind) (P9 A w σ o d k.cells c b) (P8 d b) B;have y:cs.length=b*z.length:=by rw[s];simp
 refine⟨g,?_,D,u,y⟩;by_cases I:b*z.length=0
 ·have G:b=0:=by rcases Nat.mul_eq_zero.1 I with h|h<;>omega
  simp_all[madeCells,Array.range_zero',Instr.buildSlice,run_underlying,sizeOf,typeInfo,newRow]
 ·exact run_buildSlice w t e b _ g i k F H l (by simp_all) (by simp_all) (by
   rw[f];have:(a.map λp=>(p.1,Ov p.2)).toList=a.toList.map λp=>(p.1,Ov p.2):=by simp
   rw[this];exact n)
theorem aPJ (r:Q5 A w σ o) (l:∀x,nA A w σ o (OM x) (Ov x)) {t e a qE:Nat} {z:List Value} {b:Array (Nat×Operand)} {cs:List AV} (E:oper.op= .buildSlice t a b) (H:P.underlying t=some (.slice e))
  (y:lq P e=some z) (d:0<z.length) (i:a*z.length<=16777216)
  (B:kM ((b.toList.map λp=>(p.1*z.length,p.2)).map λp=>(p.1,z.length,OM p.2)) (δ a (z.map δe)).flatten=some cs) (s:o[qE]?=some .dead):
  bB A P Ov oper w σ o (.os qE 0 a (a*z.length)) (o.set qE (.cells (el (cJ cs) cs) e z.length (cJ cs))):=by
 obtain⟨q,J,v,G,K⟩:=P7 l H y d i B;have f:qE<o.length:=(θ.1 s).1;have m:qE<σ.length:=by rw[r.len];exact f
 have g:q.size=a*z.length:=by have:=Aq.length _ _ v;simp_all
 have n:a<=maxLen:=by have:a*1<=a*z.length:=Nat.mul_le_mul_left _ d;grind[maxLen]
 obtain⟨k,D⟩:=r.AT (w:=w) (arr:=q) (e:=e) (sz:=z.length) (cap:=a) (pu:=cJ cs) (cs:=el (cJ cs) cs) s g n (by grind[sB]) (HE G) (λh=>AW h)
  (λj c N=>by grind[HD]);refine⟨.slice (some ⟨w.heap.size,0,none⟩) a a,_,_,.inl ?_,k,?_,D⟩;·simp_all[execOp]
 ·simp only[nA];refine⟨⟨_,_,_,_,by rw[γN f],by grind[sB]⟩,_,_,rfl,π _,λM C=>?_⟩;obtain⟨F,L,I,u,_⟩:=C;grind[j9,oA]
theorem Q5.grow (a:Q5 A w σ o) (x:Obj):Q5 A (w.alloc x) σ o/\Ext w σ o (w.alloc x) σ o:=by have e:Ext w σ o (w.alloc x) σ o:=⟨by simp,λb d g=>⟨heap_alloc_old w x b d,g⟩,π _,λ_ _ h=>⟨h,λ_ h=>⟨h,rfl⟩⟩,λ_ h=>⟨h,rfl⟩,rfl,rfl,rfl⟩;exact⟨⟨a.len,a.dist,λi b c h=>γw (a.ef i b c h) (by simp),λi y f=>(a.obj i y f).ext e rfl λb c d=>heap_alloc_old w x b (a.ef i b c d),a.av,λb d=>γw (a.avb b d) (by simp)⟩,e⟩
theorem aPK (f:Q5 A w σ o) (h:∀x,nA A w σ o (OM x) (Ov x)) {t e a:Nat} {z:List Value} {b:Array (Nat×Operand)} {cs:List AV} (r:oper.op= .buildSlice t a b) (C:P.underlying t=some (.slice e))
  (q:lq P e=some z) (d:0<z.length) (g:a*z.length<=16777216)
  (v:kM ((b.toList.map λp=>(p.1*z.length,p.2)).map λp=>(p.1,z.length,OM p.2)) (δ a (z.map δe)).flatten=some cs) (s:cJ cs=true):
  bB A P Ov oper w σ o (.sl a (el true cs)) o:=by
 obtain⟨m,F,D,G,H⟩:=P7 h C q d g v;obtain⟨k,l⟩:=f.grow (.cells m e);refine⟨.slice (some ⟨w.heap.size,0,none⟩) a a,_,_,.inl ?_,k,?_,l⟩;·simp_all[execOp]
 ·simp only[nA];refine⟨_,_,rfl,π _,AW s,cF.kC _ _ _ λj c B=>?_⟩;obtain⟨u,I,y⟩:=HD D B;refine⟨_,u,rfl,?_,?_,y.ext l⟩
  ·refine⟨?_,λn=>by have:=f.avb _ n;simp at this⟩;rintro⟨i,c,E⟩;have:=f.ef i _ c E;simp at this
  grind[Addr.add,World.cell?,heap_alloc_new]
theorem aPL (pu:Bool) (n:Nat) (cs:List AV):(δ n (el pu cs)).flatten=el pu (δ n cs).flatten:=by unfold el;split<;>simp_all
theorem aPM (D:Q5 A w σ o) (p:∀x,nA A w σ o (OM x) (Ov x)) {t e qE a:Nat} {z:List Value} {l c:Operand} {n m:Int} {pu:Bool} (V:oper.op= .makeSlice t l c) (Z:P.underlying t=some (.slice e))
  (hz:lq P e=some z) (hb:wk P e=some a) (S:gP (OM l)=some n) (I:gP (OM c)=some m) (H:0<=n) (v:n<=m) (W:m*a<=140737488355328) (hm:m<=1000000000000)
  (E:o[qE]?=some .dead):bB A P Ov oper w σ o (.os qE 0 n.toNat (n.toNat*z.length)) (o.set qE (.cells (δ n.toNat (el pu (z.map δe))).flatten e z.length pu)):=by
 rw[aPL];obtain⟨i,q,hi,B,b,f,d⟩:=ub hz;obtain⟨O,T⟩:=wb (p l) S;obtain⟨M,N⟩:=wb (p c) I;have K:i.bytes=a:=by grind[wk]
 have g:=run_make (P:=P) w t e i q Z hi B O M n m H v (by grind) (by omega);rw[f] at g;have k:qE<o.length:=(θ.1 E).1;have s:qE<σ.length:=by rw[D.len];exact k
 have J:n.toNat*z.length<=m.toNat*z.length:=γP _ (by omega);have h:=P9 A w σ o d q.cells b m.toNat;obtain⟨C,U⟩:=D.AT (w:=w) (arr:=madeCells q.cells (m.toNat*z.length)) (e:=e) (sz:=z.length) (cap:=m.toNat) (pu:=pu) (cs:=el pu (δ n.toNat (z.map δe)).flatten) E (by simp[madeCells])
  (by grind[maxLen]) (by simp_all[sB,madeCells]) (HE (P8 d _)) (λ_=>AW (aPI _ _))
  (λj c F=>by
   have L:Aq A w σ o (δ n.toNat (z.map δe)).flatten ((madeCells q.cells (m.toNat*z.length)).toList.take (n.toNat*z.length)):=by
    refine Aq.kC _ _ (by simp_all[madeCells]) λj c F=>?_;have X:=(θ.1 F).1;have G:j<n.toNat*z.length:=by simp_all
    have r:(δ m.toNat (z.map δe)).flatten=(δ n.toNat (z.map δe)).flatten++(δ (m.toNat - n.toNat) (z.map δe)).flatten:=by rw[<-List.flatten_append,List.replicate_append_replicate];grind
    obtain⟨u,hu,hr⟩:=Aq.get _ _ h j c (by grind);simp_all
   grind[HD]);refine⟨.slice (some ⟨w.heap.size,0,none⟩) n.toNat m.toNat,_,_,.inl ?_,C,?_,U⟩;·simp_all[execOp]
 ·simp only[nA];refine⟨⟨_,_,_,_,by rw[γN k],by rw[sB];simp⟩,_,_,rfl,by omega,λsz y=>?_⟩;obtain⟨Y,e2,Q,R,_⟩:=y;grind[j9,oA]
end
section
variable {P:Program} {A:c_} {w w':World} {σ σ':TN} {o o':a_} {OM:Operand->AV} {Ov:Operand->Value} {oper:Oper} {v:AV}
theorem Hy (b a j:Nat):(⟨b,a,none⟩:Addr).add j=⟨b,a+j,none⟩:=by grind[Addr.add]
theorem aPN (C:Q5 A w σ o) {sz:Nat} (B:0<sz) {a:AV} {u:Value} (h:nA A w σ o a u) {m:Nat} {i:List AV} (f:me o sz a=some (m,i)):
  ∃Z c,u= .slice Z m c/\m<=c/\i.length=m*sz/\∀(j:Nat) (d:AV),i[j]?=some d->∃(p:Addr) (v:Value),Z=some p/\w.cell? (p.add j)=some v/\nA A w σ o d v:=by
 unfold me at f;split at f;·grind[nA,cF.get]
 ·rename_i F J s E;simp only[nA] at h;obtain⟨H,Z,t,rfl,D,k⟩:=h;split at f
  ·rename_i G e r K x;split at f
   ·rename_i g;obtain⟨l,rfl,q⟩:=g;simp only[γ,ι] at f;obtain⟨rfl,rfl⟩:=f;have y:=k r ⟨G,e,K,x,l⟩;refine⟨Z,t,rfl,D,by simp;omega,λj d n=>?_⟩;rw[δh] at n;split at n
    ·rename_i M;rw[δz] at n;have z:0<s:=by grind
     unfold j9 at y;split at y;·omega
     next b c I=>have L:=C.obj F _ x;grind[cQ,oA,Hy,World.cell?]
     simp_all
    ·cases n
   ·cases f
  ·cases f
 all_goals grind[f_]
theorem aPO {t g e:TypeId} {i:TypeInfo} (b:P.underlying t=some (.slice e)) (d:P.info? e=some i) (B Z:Option Addr) (n c f:Nat) (a:n<=c) (w:World):
  (Builtin.append_ #[t,t] g #[.slice B n c,.slice Z 0 f]).run P w= .ok (.slice B n c) w:=by cases B<;>cases Z<;>simp[Builtin.append_,run_underlying b,sizeOf,typeInfo,d,Builtin.lenOf,Builtin.firstCells,a,loadCells,loadCellsFrom,storeCells]
theorem Hx {t:TypeId} {c:Call} {s x:Operand} (a:oper.op= .call c) (e:c.callee= .builtin .append) (d:c.args=#[s,x]) (b:c.argTypes=#[t,t]) {u:Value}
  (h:(Builtin.append_ #[t,t] oper.type #[Ov s,Ov x]).run P w= .ok u w'):(execOp Ov oper).run P w= .ok (.value u) w':=by simp[execOp,a,resolve,e,d,b,invoke,builtin,h]
theorem P6 {A:c_} {w:World} {σ:TN} {o:a_} {Z:Option Addr}:∀(a:List AV) (k:Nat),(∀(j:Nat) (d:AV),a[j]?=some d->∃(p:Addr) (v:Value),Z=some p/\w.cell? (p.add (k+j))=some v/\nA A w σ o d v)->
  ∃vs:List Value,Aq A w σ o a vs/\∀(p:Addr),Z=some p->∀(j:Nat) (u:Value),vs[j]?=some u->w.cell? (p.add (k+j))=some u
 |[],_,_=>⟨[],by simp[Aq],by simp⟩
 |d::a,k,h=>by obtain⟨p,v,i,l,e⟩:=h 0 d (by simp);obtain⟨vs,c,g⟩:=P6 a (k+1) (λj b f=>by have:=h (j+1) b (by simp_all);rwa [show k+1+j=k+(j+1) from by omega]);refine⟨v::vs,by grind[Aq],λq m j u n=>?_⟩;grind
theorem P5 {A:c_} {w:World} {σ:TN} {o:a_}:∀{cs:List AV} {vs:List Value},Aq A w σ o cs vs->dV cs=true->∀u∈vs,u.oneCell'=true
 |[],vs,d,_=>by grind[Aq];|c::cs,vs,d,a=>by
  simp only[Aq] at d;obtain⟨v,r,rfl,e,f⟩:=d;simp only[dV,ζI,ζ] at a;intro u b;rcases γl.1 b with rfl|b;·exact e.one a.1
  ·exact P5 f a.2 u b
theorem aPP (hS:Q5 A w σ o) (c4:∀x,nA A w σ o (OM x) (Ov x)) {t e sz f qE:Nat} {z:List Value} {c:Call} {s x:Operand} {pu:Bool} (c1:oper.op= .call c) (hc:c.callee= .builtin .append) (ha:c.args=#[s,x]) (c6:c.argTypes=#[t,t])
  (ht:P.underlying t=some (.slice e)) (hz:lq P e=some z) (hb:wk P e=some f) (f1:sz=z.length) (y:0<sz) (h:o6 e sz f pu (OM s) (OM x) o qE=some (v,o')):bB A P Ov oper w σ o v o':=by
 obtain⟨i,zv,hi,c8,c9,e3,f0⟩:=ub hz;have c7:i.bytes=f:=by grind[wk]
 have b3:i.size=sz:=by omega
 have c3:zv.cells.size=sz:=by grind
 unfold o6 at h;split at h;·cases h
 rename_i m q e1;split at h;·cases h
 rename_i h1;have b1:dV q=true:=by simpa using h1
 obtain⟨Z,cx,g0,f9,b7,K⟩:=aPN hS y (c4 x) e1;have d3:∀(B:Option Addr) (n l:Nat),m=0->Ov s= .slice B n l->n<=l->(execOp Ov oper).run P w= .ok (.value (.slice B n l)) w:=by grind[Hx,aPO]
 obtain⟨vs,a4,f6⟩:=P6 (w:=w) (σ:=σ) (o:=o) (Z:=Z) q 0 (λj d hd=>by simpa using K j d hd);have M:vs.length=m*sz:=by grind[Aq.length]
 have J:=P5 a4 b1;have hs:=c4 s;split at h;·
  rename_i a1;rw[a1] at hs;have d8:=f_ hs;split at h;·grind[bB.bi,y5]
  ·rename_i a7;split at h
   ·rename_i F;obtain⟨a8,b9,a9⟩:=F;cases U:kn qE (.cells q e sz pu) o with
    |none=>simp[U] at h;|some o2=>
     simp only[U,ξ,γ,ι] at h;obtain⟨rfl,rfl⟩:=h;obtain⟨hd,rfl⟩:=wc U;have L:qE<o.length:=(θ.1 hd).1;have X:qE<σ.length:=by rw[hS.len];exact L
     have a0:0<q.length:=by rw[b7];exact Nat.mul_pos (by omega) y
     obtain⟨p,_,hp,_⟩:=K 0 _ (μ a0);obtain⟨v',N,b8,r,a,c5,e0⟩:=run_append_own_at (P:=P) w w.heap.size t oper.type e i zv sz f ht hi c8 b3 c7 c3 y (.slice none 0 0) 0 [] (World.ownsRow_nil w _ _ _) p m cx vs M
      (λj u hu=>by simp_all) J (by grind[maxLen]) (by simp_all) (π _);have G:=Hx (P:=P) (w:=w) (w':=N) (Ov:=Ov) c1 hc ha c6 (u:=v') (by simp_all);simp only[εf,δR] at r;rcases r.2 with⟨I,d4⟩|⟨g,l,O,I,hg,hh,H,a2,a3,b4⟩;·omega
     ·have d9:g<N.heap.size:=(γB.1 hh).1;obtain⟨Y,hE⟩:=Q5.kj (w':=N) (x:=.dead) (x':=.cells q e sz pu) (s':=some (g,l)) hS hd a.size a.os a.tape a.output (λb W _=>a.block b W (by simp[Value.ownBlock]))
       (λb c2 h2=> .inr (by simp_all)) trivial (λhE=>by simp only[cQ];refine⟨λb2=>a9.resolve_left (by simp[b2]),b1,.inr ⟨g,l,O,by simp_all,a2,hh,a3,by grind,λj d T=>?_⟩⟩;obtain⟨u,hu,hr⟩:=Aq.get _ _ a4 j d T;refine⟨u,?_,hr.ext hE⟩;grind);refine⟨v',N,_,.inl G,Y,?_,hE⟩;simp only[nA];refine⟨⟨_,_,_,_,by rw[γN L],by omega⟩,_,_,I,H,λe6 a5=>?_⟩;obtain⟨e4,e2,d5,d6,_⟩:=a5;grind[j9,oA]
   ·cases h
 ·
  rename_i id E f2 a1;rw[a1] at hs;simp only[nA] at hs;obtain⟨f3,B,C,d8,S,b6⟩:=hs;split at h
  ·rename_i cs e' D R ho;split at h
   ·rename_i F;obtain⟨c0,rfl,rfl,a6,a8,b9,a9⟩:=F;simp only[γ,ι] at h;obtain⟨rfl,rfl⟩:=h;have L:id<o.length:=(θ.1 ho).1;have X:id<σ.length:=by rw[hS.len];exact L
    have hk:=b6 D ⟨cs,e',R,ho,c0⟩;have Q:=hS.obj id _ ho;simp only[cQ] at Q;obtain⟨q1,q2,q3⟩:=Q;rcases Nat.eq_zero_or_pos m with a7|e5;·
     have d7:q=[]:=ψ (by rw[b7,a7];simp);subst a7 d7;have e7:o.set id (.cells (cs++[]) e' D R)=o:=by apply γ8;grind
     grind[bB.bi]
    ·have a0:0<q.length:=by simp_all
     obtain⟨p,_,hp,_⟩:=K 0 _ (μ a0);have b5:∃xs:List Value,w.ownsRow 0 e' D (.slice B E C) E xs/\Aq A w σ o cs xs/\(∀k,(Value.slice B E C).ownBlock=some k->∃d,σ[id]?=some (some (k,d))):=by
      unfold j9 at hk;split at hk;·simp_all[World.ownsRow_nil,Value.ownBlock,Aq]
      ·rename_i b l d2;obtain⟨k1,k2,k3⟩:=hk;obtain⟨k4,k5⟩:=k2 rfl a6 y;subst k4 k5;rcases q3 with⟨h0,_⟩|⟨b',e8,b0,r1,r2,r3,r4,r5,r6⟩;·simp_all
       rw[d2] at r1;simp only[γ,ι] at r1;obtain⟨rfl,rfl⟩:=r1;refine⟨b0.toList.take (E*D),⟨by simp;omega,.inr ⟨b,C,b0,rfl,δ8 _,r3,S,r2,r4,rfl⟩⟩,Aq.kC _ _ (by simp;omega) λj d hd=>?_,λk hk=>⟨C,by grind[Value.ownBlock]⟩⟩;grind
      ·exact hk.elim
     obtain⟨xs,V,d1,e9⟩:=b5;obtain⟨v',N,b8,r,a,c5,e0⟩:=run_append_own_at (P:=P) w 0 t oper.type e' i zv D f ht hi c8 b3 c7 c3 y (.slice B E C) E xs V p m cx vs M
      (λj u hu=>by simp_all) J (by grind[maxLen]) a8 (δ8 _);have G:=Hx (P:=P) (w:=w) (w':=N) (Ov:=Ov) c1 hc ha c6 (u:=v') (by simp_all);rcases r.2 with⟨I,d4⟩|⟨g,l,O,I,hg,hh,H,a2,a3,b4⟩;·omega
     ·have d9:g<N.heap.size:=(γB.1 hh).1;have f4:(∃d,σ[id]?=some (some (g,d)))\/g=w.heap.size:=by
       have f5:v'.ownBlock=some g:=by rw[I];rfl
       grind
      have d0:(cs++q).length=(E+m)*D:=by grind
      obtain⟨Y,hE⟩:=Q5.kj (w':=N) (x':=.cells (cs++q) e' D R) (s':=some (g,l)) hS ho a.size a.os a.tape a.output
       (λb W f7=>a.block b W (λhe=>by grind))
       (λb c2 h2=>by grind)
       ⟨_,_,_,rfl,by simp,λf8=>by grind⟩ (λhE=>by
        simp only[cQ];refine⟨λb2=>sA λd hd=>?_,mJ.2 λd hd=>?_,.inr ⟨g,l,O,by simp_all,a2,hh,a3,by
         have:(O.toList.take ((E+m)*D)).length=(xs++vs).length:=by rw[b4]
         rw[r.1] at this;simp at this;omega,λj d T=>?_⟩⟩;·grind[pv]
        ·grind[mJ]
        ·obtain⟨u,hu,hr⟩:=Aq.get _ _ (Aq.append d1 a4) j d T;refine⟨u,?_,hr.ext hE⟩;grind);refine⟨v',N,_,.inl G,Y,?_,hE⟩;simp only[nA];refine⟨⟨_,_,_,_,by rw[γN L],by rw[d0,δX];omega⟩,_,_,I,H,λe6 a5=>?_⟩;obtain⟨e4,e2,d5,d6,_⟩:=a5;grind[j9,oA]
   ·cases h
  ·cases h
 all_goals grind[nA,bB.bi]
end
section
variable {P:Program} {A:c_} {w w':World} {σ σ':TN} {o o':a_} {OM:Operand->AV} {Ov:Operand->Value} {oper:Oper} {v:AV}
def lp (P:Program) (t:TypeId) (l:List Value):Value:=
 match eX P t with
 |some true=> .agg l.toArray
 |_=>l.headD undef
theorem mI:∀{a:List Nat} {vs:List Value},dQ a vs=true->vs.length=a.length
 |[],[],_=>rfl
 |[],_::_,h=>by grind[dQ];|k::a,[],h=>by grind[dQ];|0::a,v::vs,h=>by cases v<;>simp only[dQ,ω] at h<;>simp[mI h];|1::a,v::vs,h=>by cases v<;>simp only[dQ,ω] at h<;>simp[mI h];|2::a,v::vs,h=>by cases v<;>simp only[dQ,ω] at h<;>simp[mI h];|(k+3)::a,v::vs,h=>by simp[dQ] at h
theorem qW:∀{a b:List Nat} {vs:List Value},dQ (a++b) vs=true->dQ a (vs.take a.length)=true/\dQ b (vs.drop a.length)=true
 |[],b,vs,h=>by grind[dQ];|k::a,b,[],h=>by grind[dQ];|0::a,b,v::vs,h=>by cases v<;>simp only[γL,dQ,ω] at h<;>simpa[dQ] using qW h;|1::a,b,v::vs,h=>by cases v<;>simp only[γL,dQ,ω] at h<;>simpa[dQ] using qW h;|2::a,b,v::vs,h=>by cases v<;>simp only[γL,dQ,ω] at h<;>simpa[dQ] using qW h;|(k+3)::a,b,v::vs,h=>by simp[dQ] at h
theorem Hw:∀(n:Nat) {xs e:List Value} {r:Bool},ft xs e=some r->
  ∃a b,ft (xs.take n) (e.take n)=some a/\ft (xs.drop n) (e.drop n)=some b/\r=(a&&b)
 |0,xs,e,r,h=>⟨true,r,by simp[ft],by simpa using h,by simp⟩
 |n+1,[],[],r,h=>by simp_all;|n+1,[],_::_,r,h=>by grind[ft];|n+1,_::_,[],r,h=>by grind[ft];|n+1,x::xs,y::e,r,h=>by
  simp only[ft] at h;split at h
  next a b j f=>injection h with h;obtain⟨c,d,k,i,g⟩:=Hw n f;grind[ft]
  ·cases h
theorem yp {m:Nat} {t:TypeId} {d:List Nat} (h:gd P (m+1) t=some d):
  (P.underlying t=some .bool/\bK P t=some 1/\d=[1])\/(∃k,P.underlying t=some (.int k)/\bK P t=some 1/\d=[0])\/(P.underlying t=some .string/\bK P t=some 1/\d=[2])\/
  (∃fs,P.underlying t=some (.struct fs)/\P.stoodInHeld t=false/\qc (gd P m) 0 fs.toList=some d/\bK P t=some d.length)\/
  ∃k e a,P.underlying t=some (.array k e)/\gd P m e=some a/\d=(δ k a).flatten/\bK P t=some (k*a.length):=by
 simp only[gd] at h;split at h;·rename_i k b c;injection h with h;exact .inr (.inl ⟨k,b,c,h.symm⟩)
 next b c=>injection h with h;exact .inl ⟨b,c,h.symm⟩
 next b c=>injection h with h;exact .inr (.inr (.inl ⟨b,c,h.symm⟩))
 ·rename_i fs n b c;split at h;·cases h
  ·rename_i i;split at h
   ·rename_i a f;split at h
    next g=>injection h with h;subst h;exact .inr (.inr (.inr (.inl ⟨fs,b,by simp_all,f,by rw[g];exact c⟩)))
    ·cases h
   ·cases h
 ·rename_i k e n b c;split at h
  ·rename_i a f;split at h
   next g=>injection h with h;subst h;exact .inr (.inr (.inr (.inr ⟨k,e,a,b,f,rfl,by rw[<-g];exact c⟩)))
   ·cases h
  ·cases h
 ·cases h
theorem v8 {m:Nat} {t:TypeId} {d:List Nat} (h:gd P m t=some d):bK P t=some d.length/\(∃b,eX P t=some b):=by
 cases m with
 |zero=>grind[gd];|succ m=>
  rcases yp h with⟨a,c,rfl⟩|⟨k,a,c,rfl⟩|⟨a,c,rfl⟩|⟨g,a,_,_,c⟩|⟨k,e,f,a,_,rfl,c⟩;all_goals simp_all[eX]
theorem v7 {t:TypeId} {e:List Nat} (i:bK P t=some e.length) (k:∃b,eX P t=some b) (c:eX P t=some false->e.length=1) (xs:Array Value) (a:Nat) (j:a+e.length<=xs.size) (w:World):
  (part t xs a).run P w= .ok (lp P t ((xs.toList.drop a).take e.length)) w:=by
 obtain⟨b,d⟩:=k;cases b with
 |true=>
  simp only[part,Sem.run_bind,we d,Result.andThen_ok,if_true,px i,Sem.run_pure,lp,d];congr 2;grind;|false=>
  have g:=c d;have f:a<xs.size:=by omega
  simp only[part,Sem.run_bind,we d,Result.andThen_ok,ω,if_false,lp,d,g];rw[Array.getElem?_eq_getElem f];have h:xs.toList.drop a=xs[a]::xs.toList.drop (a+1):=by rw[List.drop_eq_getElem_cons (by omega)];simp
  rw[h];simp
theorem t_ {m:Nat} {t:TypeId} {a:List Nat} (h:gd P m t=some a) (b:eX P t=some false):a.length=1:=by cases m<;>grind[gd,yp,eX]
theorem AS (d:Nat):∀(m:Nat) (t:TypeId) (I:List Nat),gd P m t=some I->∀(xs h:List Value) (r:Bool),dQ I xs=true->dQ I h=true->ft xs h=some r->∀w:World,
  (Op.equalIn (d+m) t (lp P t xs) (lp P t h)).run P w= .ok r w
 |0,t,I,hk,_,_,_,_,_,_,_=>by grind[gd];|m+1,t,I,hk,xs,h,r,O,R,G,w=>by
  rw[show d+(m+1)=(d+m)+1 from rfl];rcases yp hk with⟨s,U,rfl⟩|⟨k,s,U,rfl⟩|⟨s,U,rfl⟩|⟨fs,s,a1,x,U⟩|⟨k,e,c,s,x,rfl,U⟩;·match xs,h,O,R with
   |[.bool a],[.bool b],_,_=>
    simp[ft,seq1] at G;subst G;simp[lp,eX,s,Op.equalIn,run_underlying s]
  ·match xs,h,O,R with
   |[.int k1 a],[.int k2 b],_,_=>
    simp only[ft,seq1] at G;by_cases he:k1=k2
    ·subst he;simp at G;subst G;simp[lp,eX,s,Op.equalIn,run_underlying s]
    simp_all
  ·match xs,h,O,R with
   |[.string a],[.string b],_,_=>
    simp[ft,seq1] at G;subst G;simp[lp,eX,s,Op.equalIn,run_underlying s,beq_toListBytes]
  ·have D:eX P t=some true:=by grind[eX]
   simp only[lp,D];have X:P.fieldsOf t=fs:=by grind[Program.fieldsOf]
   rw[run_equalIn_struct w (d+m) t xs.toArray h.toArray (by simp_all) a1,X];have K:=mI O;have M:=mI R;have L:∀(N:List Field) (g:Nat) (o:List Nat),qc (gd P m) g N=some o->g+o.length=I.length->∀r,dQ o (xs.drop g)=true->dQ o (h.drop g)=true->
     ft (xs.drop g) (h.drop g)=some r->(Op.eqFields (d+m) xs.toArray h.toArray N).run P w= .ok r w:=by
    intro N;induction N with
    |nil=>
     intro g o p hl r C A J;simp only[qc,γ] at p;subst p;have e1:=mI C;have e2:=mI A;have g1:xs.drop g=[]:=ψ (by omega);have g2:h.drop g=[]:=ψ (by omega);simp_all[ft,Op.eqFields];|cons f N ih=>
     intro g o p hl r C A J;simp only[qc] at p;split at p;·cases p
     ·rename_i a4;split at p
      ·rename_i V z;split at p
       ·rename_i r2 Y;injection p with p;subst p;obtain⟨y,u⟩:=v8 z;obtain⟨F,l⟩:=qW C;obtain⟨H,n⟩:=qW A;obtain⟨a,b,h4,B,h6⟩:=Hw V.length J;rw[δj] at l n B;rw[δj] at B;have v:f.name≠ "_" ∧f.offset=g:=by simp_all
        rw[γF] at hl;have T:=v7 y u (λE=>t_ z E) xs.toArray f.offset (by grind) w;have S:=v7 y u (λE=>t_ z E) h.toArray f.offset (by grind) w;rw[v.2] at T S;have W:=AS d m f.type V z _ _ a F H h4 w;have p4:=ih (g+V.length) r2 Y (by omega) b l n B;simp only[Op.eqFields,v.1,ne_eq,not_false_eq_true,if_true,v.2,Sem.run_bind,T,S,Result.andThen_ok,W];cases a<;>simp_all
       ·cases p
      ·cases p
   grind
  ·obtain⟨y,u⟩:=v8 x;obtain⟨i,hi⟩:∃i,P.info? e=some i:=by cases hi:P.info? e<;>grind[bK]
   have a0:P.cellsOf e=c.length:=by grind[bK,Program.cellsOf]
   have D:eX P t=some true:=by grind[eX]
   simp only[lp,D];rw[run_equalIn_array w (d+m) xs.toArray h.toArray s hi,a0];have K:=mI O;have M:=mI R;have Z:((δ k c).flatten).length=k*c.length:=by simp
   rw[Z] at K M;have L:∀(q j:Nat),j+q=k->∀r,dQ ((δ q c).flatten) (xs.drop (j*c.length))=true->dQ ((δ q c).flatten) (h.drop (j*c.length))=true->
     ft (xs.drop (j*c.length)) (h.drop (j*c.length))=some r->(Op.eqItems (d+m) e c.length xs.toArray h.toArray (ζJ j q)).run P w= .ok r w:=by
    intro q;induction q with
    |zero=>
     intro j hj r C A J;have e1:=mI C;have e2:=mI A;simp only[List.replicate_zero,List.flatten_nil,List.length_nil] at e1 e2;have g1:xs.drop (j*c.length)=[]:=ψ e1;have g2:h.drop (j*c.length)=[]:=ψ e2;rw[g1,g2] at J;simp_all[ft,Op.eqItems];|succ q ih=>
     intro j hj r C A J;rw[δc,ζy] at C A;obtain⟨F,l⟩:=qW C;obtain⟨H,n⟩:=qW A;obtain⟨a,b,h4,B,h6⟩:=Hw c.length J;rw[δj] at l n B;rw[δj] at B;have Q:j*c.length+c.length=(j+1)*c.length:=by grind
     rw[Q] at l n B;have a3:j*c.length+c.length<=k*c.length:=by rw[Q];exact γP _ (by omega)
     have T:=v7 y u (λE=>t_ x E) xs.toArray (j*c.length) (by simp;omega) w;have S:=v7 y u (λE=>t_ x E) h.toArray (j*c.length) (by simp;omega) w;have W:=AS d m e c x _ _ a F H h4 w;have p4:=ih (j+1) (by omega) b l n B;rw[εC];simp only[Op.eqItems,Sem.run_bind,T,S,Result.andThen_ok,W];cases a<;>simp_all
   have:=L k 0 (by omega) r (by simp_all) (by simp_all) (by simp_all);rw[List.range_eq_range'];exact this
end
section
variable {P:Program} {A:c_} {w w':World} {σ σ':TN} {o o':a_} {OM:Operand->AV} {Ov:Operand->Value} {oper:Oper} {v:AV}
theorem Hv:∀(m:Nat) (t:TypeId) (j:List Nat),gd P m t=some j->∀D,m<=D->P.eqGuardType D t=false
 |0,_,_,h,_,_=>by grind[gd];|m+1,t,j,h,0,s=>by omega;|m+1,t,j,h,D+1,s=>by
  rcases yp h with⟨c,d,rfl⟩|⟨k,c,d,rfl⟩|⟨c,d,rfl⟩|⟨v,c,r,a,d⟩|⟨k,e,i,c,a,rfl,d⟩;·grind[Program.eqGuardType]
  ·grind[Program.eqGuardType]
  ·grind[Program.eqGuardType]
  ·simp only[Program.eqGuardType,c];rw[<-Bool.not_eq_true,Array.any_eq_true'];rintro⟨f,u,q⟩;have n:∀(g:List Field) (l:Nat) (o:List Nat),qc (gd P m) l g=some o->∀f∈g,∃b,gd P m f.type=some b:=by intro g;induction g<;>grind[qc]
   obtain⟨b,p⟩:=n _ _ _ a f (by simp_all);rw[Hv m f.type b p D (by omega)] at q;simp at q
  ·simp only[Program.eqGuardType,c];exact Hv m e i a D (by omega)
theorem AR:∀{cs:List AV} {vs a:List Value},qw cs=some vs->Aq A w σ o cs a->a=vs
 |[],vs,a,h,b=>by grind[qw,Aq];|c::cs,vs,a,h,b=>by cases c<;>simp only[qw,reduceCtorEq,ε] at h;obtain⟨r,d,rfl⟩:=h;simp only[Aq] at b;obtain⟨u,f,rfl,g,e⟩:=b;rw[f_ g,AR d e]
theorem aPQ (R:Q5 A w σ o) (g:∀x,nA A w σ o (OM x) (Ov x)) {m:BinOp} {d:Bool} {t J:TypeId} {h:List Nat} {x y:Operand} (n:oper.op= .binOp m t x y J) (O:(m= .eql/\d=false)\/(m= .neq/\d=true))
  (p:eX P t=some true) (v:gd P 20 t=some h) (K:20<=P.depth) {a b:List AV} {r:Bool} (H:OM x= .agg a) (C:OM y= .agg b) (f:uP h a b=some r):
  bB A P Ov oper w σ o (.sc (.bool (if d then !r else r))) o:=by
 have i:=g x;have k:=g y;rw[H] at i;rw[C] at k;simp only[nA] at i k;obtain⟨I,M,j⟩:=i;obtain⟨Q,G,q⟩:=k;unfold uP at f;split at f
 ·rename_i z B l s;split at f
  ·rename_i e;simp only[ζ] at e;have L:=AR l j;have F:=AR s q;have c:=AS (P:=P) 9980 20 t h v z B r e.1 e.2 f w;simp only[lp,p] at c;have D:z.toArray=I:=by rw[<-L]
   have N:B.toArray=Q:=by rw[<-F]
   rw[D,N] at c;refine bB.bi R (u:=.bool (if d then !r else r)) ?_ (by simp[nA,Value.oneCell']);have E:=Hv 20 t h v P.depth K;simp only[execOp,n,M,G];rcases O with⟨rfl,rfl⟩|⟨rfl,rfl⟩<;>simp[eqGuard,E,binOp,Op.equal,Op.maxDepth,c]
  ·cases f
 ·cases f
theorem AQ (x:Bool) (d:Nat):∀(m:Nat) (t:TypeId) (z:List Nat),gd P m t=some z->∀(xs:List Value),dQ z xs=true->∀w:World,(Instr.checkKey x (d+m) t (lp P t xs)).run P w= .ok () w
 |0,t,z,J,_,_,_=>by grind[gd];|m+1,t,z,J,xs,K,w=>by
  rw[show d+(m+1)=(d+m)+1 from rfl];rcases yp J with⟨u,D,rfl⟩|⟨k,u,D,rfl⟩|⟨u,D,rfl⟩|⟨V,u,S,h,D⟩|⟨k,e,a,u,h,rfl,D⟩;·simp_all[Instr.checkKey,run_underlying]
  ·simp_all[Instr.checkKey,run_underlying]
  ·simp_all[Instr.checkKey,run_underlying]
  ·have p:eX P t=some true:=by grind[eX]
   simp only[lp,p,Instr.checkKey,Sem.run_bind,run_underlying u,Result.andThen_ok];have A:=mI K;have I:∀(v:List Field) (b:Nat) (l:List Nat),qc (gd P m) b v=some l->b+l.length=z.length->dQ l (xs.drop b)=true->
     (forIn v ζz λ(f:Field) (_:PUnit)=>(do
      if f.name≠ "_" then
       Instr.checkKey x (d+m) f.type (<-part f.type xs.toArray f.offset)
      pure (θw ζz):Sem (ForInStep PUnit))).run P w= .ok ζz w:=by
    intro v;induction v with
    |nil=>simp_all;|cons f v H=>
     intro b l g Q C;simp only[qc] at g;split at g;·cases g
     ·rename_i U;split at g
      ·rename_i L r;split at g
       ·rename_i N F;injection g with g;subst g;obtain⟨s,o⟩:=v8 r;obtain⟨n,c⟩:=qW C;rw[δj] at c;have y:f.name≠ "_" ∧f.offset=b:=by simp_all
        rw[γF] at Q;have M:=v7 s o (λG=>t_ r G) xs.toArray f.offset (by grind) w;rw[y.2] at M;have R:=AQ x d m f.type L r _ n w;have O:=H (b+L.length) N F (by omega) c;simp_all
       ·cases g
      ·cases g
   grind[Result.andThen_ok,Sem.run_pure]
  ·obtain⟨s,o⟩:=v8 h;have p:eX P t=some true:=by grind[eX]
   simp only[lp,p,Instr.checkKey,Sem.run_bind,run_underlying u,Result.andThen_ok];simp only[ζ4,θA,ε0,Nat.add_one_sub_one,Nat.div_one];have A:=mI K;have E:((δ k a).flatten).length=k*a.length:=by simp
   rw[E] at A;have I:∀(q j:Nat),j+q=k->dQ ((δ q a).flatten) (xs.drop (j*a.length))=true->
     (forIn (ζJ j q) ζz λ(i:Nat) (_:PUnit)=>(do
      Instr.checkKey x (d+m) e (<-part e xs.toArray (i*(<-sizeOf e)));pure (θw ζz):Sem (ForInStep PUnit))).run P w= .ok ζz w:=by
    intro q;induction q with
    |zero=>simp_all;|succ q H=>
     intro j W C;rw[δc,ζy] at C;obtain⟨n,c⟩:=qW C;rw[δj] at c;have B:j*a.length+a.length=(j+1)*a.length:=by grind
     rw[B] at c;have T:j*a.length+a.length<=k*a.length:=by rw[B];exact γP _ (by omega)
     have M:=v7 s o (λG=>t_ h G) xs.toArray (j*a.length) (by simp;omega) w;have R:=AQ x d m e a h _ n w;have O:=H (j+1) (by omega) c;rw[εC];simp_all[px]
   simp_all
theorem aPR {a b:ByteArray} (h:a.toList=b.toList):a=b:=by
 have c:(a==b)=true:=by grind[beq_toListBytes]
 obtain⟨x⟩:=a;obtain⟨y⟩:=b;have d:(x==y)=true:=c;simp_all
theorem P4 {a b:Value} (h:seq1 a b=some true):a=b/\(∀n,Instr.sameBits n b a=true):=by unfold seq1 at h;grind[Instr.sameBits,aPR,beq_toListBytes]
theorem P3:∀{xs c:List Value},ft xs c=some true->xs=c/\∀n,(c.zip xs).all (λp=>Instr.sameBits n p.1 p.2)=true
 |[],[],_=>⟨rfl,λ_=>rfl⟩
 |[],_::_,h=>by grind[ft];|_::_,[],h=>by grind[ft];|x::xs,y::c,h=>by
  simp only[ft] at h;split at h
  next a b d e=>simp only[γ,ζ] at h;obtain⟨rfl,rfl⟩:=h;obtain⟨f,g⟩:=P4 d;obtain⟨j,i⟩:=P3 e;simp_all
  ·cases h
theorem aPS {a b:Value} (h:lF a b=some true):a=b/\∀n,Instr.sameBits (n+1) b a=true:=by
 unfold lF at h;split at h
 next x y=>obtain⟨c,d⟩:=P3 h;simp_all[Instr.sameBits]
 all_goals grind[P4]
def vZ (P:Program) (t:TypeId) (a:List Nat) (k:Value):Prop:=∃l,dQ a l=true/\k=lp P t l
theorem wg.fits {t:TypeId} {b:List Nat} {a:Bool} {k:Value} (d:eX P t=some a) (h:wg (b,a) k):vZ P t b k:=by obtain⟨l,c,e⟩:=h;refine⟨l,c,?_⟩;cases a;all_goals simp_all[lp]
theorem QO {f:List Nat} {e:Bool} {a:AV} {u k:Value} (h:nA A w σ o a u) (b:oY f e a=some k):u=k/\wg (f,e) k:=by
 cases a<;>simp only[oY,reduceCtorEq] at b
 ·rename_i v;split at b
  next c=>simp only[ζ,δf] at c;injection b with b;subst b;exact⟨f_ h,[v],c.2,by simp[c.1]⟩
  ·cases b
 ·rename_i j;split at b
  ·rename_i g d;split at b
   next c=>simp only[ζ] at c;injection b with b;subst b;simp only[nA] at h;obtain⟨l,rfl,i⟩:=h;have:=AR d i;exact⟨by rw[<-this],g,c.2,by simp[c.1]⟩
   ·cases b
  ·cases b
theorem aPT {t:TypeId} {c:List Nat} (e:gd P 20 t=some c) {a b:Value} (o:vZ P t c a) (s:vZ P t c b) {r:Bool} (h:lF a b=some r) (w:World):(Op.equal t a b).run P w= .ok r w:=by
 obtain⟨g,m,rfl⟩:=o;obtain⟨f,k,rfl⟩:=s;have n:ft g f=some r:=by
  unfold lp at h;obtain⟨_,u,d⟩:=v8 e;cases u with
  |true=>grind[lF];|false=>
   have l:=t_ e d;have j:=mI m;have i:=mI k;rw[l] at j i;match g,f,j,i with
   |[x],[y],_,_=>
    simp only[d,List.headD_cons] at h;have p:seq1 x y=some r:=by
     match c,l with
     |[q],_=>cases x<;>cases y<;>simp_all [dQ,lF]<;>(match q with|0|1|2|_+3=>simp_all [dQ])
    simp[ft,p]
 exact AS 9980 20 t c e g f r m k n w
theorem aPU {d:TypeDesc} {a b:Value} {r:Bool} (h:lF a b=some r):
  Instr.sameNow d a b=some r\/Instr.sameNow d a b=none:=by
 cases c:Instr.sameNow d a b with
 |none=>simp_all;|some e=>
  left;unfold Instr.sameNow at c;grind[lF,seq1,beq_toListBytes]
theorem QN {t:TypeId} {p:List Nat} (G:gd P 20 t=some p) {k:Value} (v:vZ P t p k) (w:World) (es:List (Value×AV)) (en:List MapEntry) (l:en.length=es.length)
  (C:∀(j:Nat) (e:Value×AV),es[j]?=some e->∃m,en[j]?=some m/\m.key=e.1/\vZ P t p m.key) {r:Option (Nat×AV)} (J:lZ k es 0=some r):
  match r with
  |none=>(Instr.findKey t k en).run P w= .ok none w
  |some (i,a)=>∃e m,es[i]?=some e/\e.2=a/\en[i]?=some m/\lF k e.1=some true/\(Instr.findKey t k en).run P w= .ok (some (i,m.val)) w:=by
 obtain⟨d,H⟩:∃d,P.underlying t=some d:=by have:=(v8 G).2;grind[eX]
 have y:∀(es:List (Value×AV)) (en:List MapEntry) (i:Nat),en.length=es.length->(∀(j:Nat) (e:Value×AV),es[j]?=some e->∃m,en[j]?=some m/\m.key=e.1/\vZ P t p m.key)->∀r,lZ k es i=some r->
   (match r with
    |none=>(Instr.findAsking t k en i).run P w= .ok none w/\(∀q,Instr.findNow d k en i=some q->q=none)
    |some (n,a)=>∃e m,i<=n/\es[n - i]?=some e/\e.2=a/\en[n - i]?=some m/\lF k e.1=some true/\(Instr.findAsking t k en i).run P w= .ok (some (n,m.val)) w/\(∀q,Instr.findNow d k en i=some q->q=some (n,m.val))):=by
  intro es;induction es with
  |nil=>
   intro en i A _ r f;have:en=[]:=ψ (by omega);subst this;simp only[lZ,γ] at f;subst f;simp_all[Instr.findAsking,Instr.findNow];|cons e es L=>
   intro en i A F r f;match en,A with
   |m::en,A=>
    obtain⟨E,h,N,z⟩:=F 0 e (by simp);simp at h;subst h;simp only[lZ] at f;cases c:lF k e.1 with
    |none=>simp[c] at f;|some b=>
     have g:=aPT G v z (r:=b) (by grind) w;have O:=aPU (d:=d) (a:=k) (b:=m.key) (r:=b) (by grind);cases b with
     |true=>
      simp only[c,γ] at f;subst f;refine⟨e,m,π _,by simp,rfl,by simp,c,?_,?_⟩;·simp[Instr.findAsking,g]
      grind[Instr.findNow];|false=>
      simp only[c] at f;have:=L en (i+1) (by grind) (λj u Q=>by simpa using F (j+1) u (by grind)) r f;have R:(Instr.findAsking t k (m::en) i).run P w=(Instr.findAsking t k en (i+1)).run P w:=by simp[Instr.findAsking,g]
      have K:∀q,Instr.findNow d k (m::en) i=some q->Instr.findNow d k en (i+1)=some q:=by grind[Instr.findNow]
      match r,this with
      |none,⟨s,o⟩=>grind;|some (n,a),⟨u,E,s,o,B,M,x,I,D⟩=>
       refine⟨u,E,by omega,?_,B,?_,x,by grind,λq c=>D q (K q c)⟩;·grind
       grind
 have:=y es en 0 l C r J;match r,this with
 |none,⟨s,o⟩=>
  simp only[Instr.findKey,Sem.run_bind,run_underlying H,Result.andThen_ok];cases c:Instr.findNow d k en 0 with
  |none=>omega;|some q=>simp[o q c]
 |some (n,a),⟨e,m,s,o,B,M,x,I,D⟩=>
  refine⟨e,m,by omega,B,by omega,x,?_⟩;simp only[Instr.findKey,Sem.run_bind,run_underlying H,Result.andThen_ok];cases c:Instr.findNow d k en 0 with
  |none=>omega;|some q=>simp[D q c]
theorem aPV (j:Q5 A w σ o) {t:TypeId} {e:List Nat×Bool} {pu:Bool} {qE:Nat} (f:oper.op= .makeMap t none) (i:o[qE]?=some .dead):bB A P Ov oper w σ o (.mp qE) (o.set qE (.map [] e pu)):=by
 have a:qE<o.length:=(θ.1 i).1;have d:qE<σ.length:=by rw[j.len];exact a
 obtain⟨g,k⟩:=Q5.kj (w':=w.alloc (.map #[] 0)) (x:=.dead) (x':=.map [] e pu) (s':=some (w.heap.size,1)) j i (by simp) rfl rfl rfl (λb l _=>heap_alloc_old w _ b l)
  (λb c h=> .inr (by simp only[γ,ι] at h;obtain⟨rfl,_⟩:=h;exact⟨π _,by simp⟩)) trivial (λk=>by simp only[cQ];exact⟨by simp,by simp,w.heap.size,1,#[],0,by rw[γN d],heap_alloc_new w _,⟨rfl,Go.MapKept.stamped_empty 0⟩,by simp⟩);refine⟨.map (some w.heap.size),_,_,.inl ?_,g,?_,k⟩;·simp[execOp,f,Instr.makeMap,newObj,Sem.run]
 ·simp only[nA];exact⟨⟨[],e,pu,by rw[γN a]⟩,w.heap.size,1,by rw[γN d],rfl⟩
theorem QM (k:Q5 A w σ o) {id:Nat} {es:List (Value×AV)} {d:List Nat×Bool} {pu:Bool} (i:o[id]?=some (.map es d pu)) {u:Value} (h:nA A w σ o (.mp id) u):
  ∃(b c:Nat) (entries:Array MapEntry) (clock:Nat),σ[id]?=some (some (b,c))/\u= .map (some b)/\w.heap[b]?=some (.map entries clock)/\(entries.size=es.length/\ζj entries clock)/\(pu=true->∀e∈es,e.2.pure=true)/\(∀e∈es,wg d e.1)/\
   ∀(j:Nat) (e:Value×AV),es[j]?=some e->∃m,entries[j]?=some m/\m.key=e.1/\nA A w σ o e.2 m.val:=by simp only[nA] at h;obtain⟨_,b,c,f,rfl⟩:=h;have g:=k.obj id _ i;simp only[cQ] at g;obtain⟨h1,q,s,r,en,cl,a,p,n,l⟩:=g;rw[f] at a;simp only[γ,ι] at a;obtain⟨rfl,rfl⟩:=a;exact⟨b,c,en,cl,f,rfl,p,n,h1,q,l⟩
theorem QL {t:TypeId} {z:List Value} {g:Bool} {a:AV} (k:lq P t=some z) (c:yt P t g=true) (e:qi z g=some a):∃u,(∀w:World,(zeroValue t).run P w= .ok u w)/\nA A w σ o a u:=by
 obtain⟨i,j,l,h,b,f,d⟩:=ub k;refine⟨j,λw=>by simp_all[zeroValue,typeInfo],?_⟩;simp only[yt,l,h,δT] at c;unfold qi at e;cases j with
 |agg m=>
  simp only at c;subst c;simp only[if_true,γ] at e;grind[nA,Value.cells,uc];|_=>
  simp only[δf] at c;subst c;simp only[Value.cells] at b;subst b;simp only[ω,if_false,γ] at e;subst e;exact by simp[nA,d]
theorem aPW {t:TypeId} {z:List Value} {g:Bool} (j:lq P t=some z) (c:yt P t g=true):∃a,qi z g=some a:=by
 obtain⟨i,h,k,e,b,d,f⟩:=ub j;simp only[yt,k,e,δT] at c;unfold qi;cases h with
 |agg l=>simp_all;|_=>
  simp only[δf] at c;subst c;simp only[Value.cells] at b;subst b;exact⟨_,rfl⟩
theorem QK (X:Q5 A w σ o) (V:∀x,nA A w σ o (OM x) (Ov x)) {t E Y:TypeId} {F:List Nat} {I g ok:Bool} {z:List Value} {x k:Operand} (q:oper.op= .lookup t x k ok) (W:P.underlying t=some (.map E Y))
  (hk:gd P 20 E=some F) (B:eX P E=some I) (hz:∃a u,qi z g=some a/\(∀w:World,(zeroValue Y).run P w= .ok u w)/\nA A w σ o a u)
  {id:Nat} (hx:OM x= .mp id) {U:Value} (N:oY F I (OM k)=some U) {es:List (Value×AV)} {pu:Bool} (ho:o[id]?=some (.map es (F,I) pu))
  {r:Option (Nat×AV)} (hf:lZ U es 0=some r) {G:AV} (f:qi z g=some G):
  bB A P Ov oper w σ o (if ok then .IL [(r.map (·.2)).getD G,.sc (.bool r.isSome)] else(r.map (·.2)).getD G) o:=by
 have h1:=V x;rw[hx] at h1;obtain⟨b,c,en,cl,hσ,hu,hh,⟨hlen,_⟩,_,O,y⟩:=QM X ho h1;obtain⟨v,Q⟩:=QO (V k) N;obtain⟨a0,z0,L,K,J⟩:=hz;rw[L] at f;injection f with f;subst f;have C:=Q.fits B;have d:=QN hk C w es en.toList (by simpa using hlen) (λj e he=>by obtain⟨m,hm,s,_⟩:=y j e he;exact⟨m,by simpa using hm,s,by rw[s];exact(O e (γh he)).fits B⟩) hf;obtain⟨lk,S,D⟩:=C;have n:=AQ (P:=P) en.isEmpty 9980 20 E F hk lk S w;rw[<-D] at n;have l:(getObj b).run P w= .ok (.map en cl) w:=by simp[getObj,Sem.run,hh]
 have main:∃u,nA A w σ o ((r.map (·.2)).getD a0) u/\(execOp Ov oper).run P w= .ok (.value (if ok then .tuple #[u,.bool r.isSome] else u)) w:=by
  cases r with
  |none=>
   refine⟨z0,J,?_⟩;simp only[execOp,q,Instr.lookup,hu,v];simp[run_underlying W,l,n,d,K];|some p=>
   obtain⟨i,a⟩:=p;obtain⟨e,m,q1,q2,H,q4,Z⟩:=d;obtain⟨T,M,_,hr⟩:=y i e q1;have:T=m:=by rw[γ0] at H;rw[M] at H;injection H
   subst this;refine⟨T.val,by rw[<-q2];exact hr,?_⟩;simp only[execOp,q,Instr.lookup,hu,v];simp[run_underlying W,l,n,Z]
 obtain⟨u,hr,R⟩:=main;refine bB.bi X R ?_;cases ok;·simpa using hr
 ·simp only[if_true,nA];exact⟨_,rfl,by simp only[Aq];exact⟨u,[.bool r.isSome],rfl,hr,.bool r.isSome,[],rfl,by simp[nA,Value.oneCell'],rfl⟩⟩
theorem aPX {k:Value} (h:∀n,Instr.sameBits (n+1) k k=true) (w:World):(Instr.keyThatStays k k).run P w= .ok k w:=by simp_all[Instr.keyThatStays]
theorem QJ:∀l:List Value,ft l l≠some false
 |[]=>by simp[ft];|x::xs=>by
  have c:=QJ xs;have d:seq1 x x≠some false:=by cases x<;>simp[seq1]
  simp only[ft];intro h;split at h
  ·rename_i a b f e;cases a;·exact d f
   ·cases b;·exact c e
    ·cases h
  ·cases h
theorem aPY (a:Value):lF a a≠some false:=by cases a<;>simp[lF,seq1];exact QJ _
theorem QI {k:Value}:∀{es:List (Value×AV)} {i:Nat},lZ k es i=some none->∀e∈es,e.1≠k
 |[],_,_,e,he=>by simp at he;|p::es,i,h,e,he=>by
  simp only[lZ] at h;split at h;·cases h
  ·rename_i a;rcases γl.1 he with rfl|he;·intro hk;rw[hk] at a;exact aPY k a
   ·exact QI h e he
  ·cases h
theorem AP (hS:Q5 A w σ o) (hρ:∀x,nA A w σ o (OM x) (Ov x)) {t kt et:TypeId} {E:List Nat} {H:Bool} {x k y:Operand} (g:oper.op= .mapUpdate t x k y\/oper.op= .insert t x k y) (ht:P.underlying t=some (.map kt et))
  (hk:gd P 20 kt=some E) (W:eX P kt=some H)
  {id:Nat} (hx:OM x= .mp id) {u:Value} (hkv:oY E H (OM k)=some u) {es:List (Value×AV)} {pu:Bool} (ho:o[id]?=some (.map es (E,H) pu)) (T:pu=true->(OM y).pure=true)
  {r:Option (Nat×AV)} (hf:lZ u es 0=some r):
  bB A P Ov oper w σ o .ud (o.set id (.map (match r with|some (i,_)=>es.modify i λ_=>(u,OM y)|none=>es++[(u,OM y)]) (E,H) pu)):=by
 have h1:=hρ x;rw[hx] at h1;obtain⟨b,c,en,cl,Q,hu,hh,⟨hlen,aHH⟩,aHI,I,C⟩:=QM hS ho h1;obtain⟨U,J⟩:=QO (hρ k) hkv;have awi:=J.fits W;have D:=QN hk awi w es en.toList (by simpa using hlen) (λj e he=>by obtain⟨m,hm,l,_⟩:=C j e he;exact⟨m,by simpa using hm,l,by rw[l];exact(I e (γh he)).fits W⟩) hf;obtain⟨lk,aBp,hlk2⟩:=awi;have M:=AQ (P:=P) false 9980 20 kt E hk lk aBp w;rw[<-hlk2] at M;have G:(getObj b).run P w= .ok (.map en cl) w:=by simp[getObj,Sem.run,hh]
 have F:∀X:Obj,(setObj b X).run P w= .ok () {w with heap:=w.heap.setIfInBounds b X}:=by intro X;simp[setObj,Sem.run,hh]
 have hblt:b<w.heap.size:=hS.ef id b c Q;have hid:id<o.length:=(θ.1 ho).1;have aul:id<σ.length:=by rw[hS.len];exact hid
 have aPZ:σ.set id (some (b,c))=σ:=by
  apply γ8;intro i;by_cases hi:id=i;·subst hi;rw[γN aul,Q]
  ·rw[δq hi]
 have fin:∀(f:Array MapEntry) (s:Nat) (n:List (Value×AV)),(execOp Ov oper).run P w= .ok .skip {w with heap:=w.heap.setIfInBounds b (.map f s)}->f.size=n.length/\ζj f s->
   (pu=true->∀e∈n,e.2.pure=true)->(∀e∈n,wg (E,H) e.1)->(∀(j:Nat) (e:Value×AV),n[j]?=some e->∃m,f[j]?=some m/\m.key=e.1/\nA A w σ o e.2 m.val)->
   bB A P Ov oper w σ o .ud (o.set id (.map n (E,H) pu)):=by
  intro f s n awf f1 f2 f3 f4;have hat:({w with heap:=w.heap.setIfInBounds b (.map f s)}:World).heap[b]?=some (.map f s):=by simp[hblt]
  obtain⟨Y,hE⟩:=Q5.kj (w':={w with heap:=w.heap.setIfInBounds b (.map f s)}) (x':=.map n (E,H) pu) (s':=some (b,c)) hS ho (by simp) rfl rfl rfl
   (λq _ hq=>by have:b≠q:=λhe=>hq c (he▸Q);simp[Array.getElem?_setIfInBounds_ne this])
   (λb2 c2 h2=> .inl ⟨c,by injection h2 with h2;injection h2 with h3 h4;rw[Q,h3]⟩) ⟨⟨_,_,_,rfl⟩,Q⟩ (λhE=>by simp only[cQ];refine⟨f2,f3,b,c,f,s,by rw[γN aul],hat,f1,λj e he=>?_⟩;obtain⟨m,O,q2,z⟩:=f4 j e he;exact⟨m,O,q2,z.ext hE⟩);rw[aPZ] at Y hE;exact⟨undef,_,σ,.inr ⟨awf,rfl⟩,Y,by simp[nA],hE⟩
 cases r with
 |none=>
  refine fin (en.push {key:=u,val:=Ov y,born:=cl}) (cl+1) (es++[(u,OM y)]) ?_ ⟨by simp[hlen],Go.MapKept.stamped_push aHH λx hx hk=>?_⟩ ?_ ?_ ?_;rotate_left
  ·obtain⟨j,d⟩:=γK hx;have V:j<es.length:=by have:=(θ.1 d).1;simp at this;omega
   obtain⟨m,hm,l,_⟩:=C j es[j] (μ V);rw[γ0,hm] at d;injection d with d;exact QI hf es[j] (List.getElem_mem V) (by rw[<-l,d,hk])
  rotate_right;·rcases g with g|g<;>simp only[execOp,g,Instr.mapUpdate,hu,U]<;>simp[run_underlying ht,G,M,D,F]
  ·intro R e he;rcases γo.1 he with he|he;·exact aHI R e he
   ·simp at he;subst he;exact T R
  ·intro e he;rcases γo.1 he with he|he;·exact I e he
   ·simp at he;subst he;exact J
  ·intro j e he;rw[εv] at he;split at he
   next d=>obtain⟨m,O,q2,z⟩:=C j e he;exact⟨m,by rw[Array.getElem?_push_lt (by omega)];rw[<-O];simp[hlen,d],q2,z⟩
   ·rename_i d;have:j=es.length:=by have:=(θ.1 he).1;simp at this;omega
    subst this;simp at he;subst he;exact⟨{key:=u,val:=Ov y,born:=cl},by rw[<-hlen];simp,rfl,hρ y⟩;|some p=>
  obtain⟨i,a⟩:=p;obtain⟨e,m,O,q2,z,q4,q5⟩:=D;obtain⟨q6,q7⟩:=aPS q4;have l:m.key=u:=by obtain⟨m',hm',hmk',_⟩:=C i e O;rw[γ0] at z;rw[hm'] at z;injection z with z;rw[<-z,hmk',q6]
  rw[γ0] at z;refine fin (en.modify i λe=>{e with key:=u,val:=Ov y}) cl (es.modify i λ_=>(u,OM y)) ?_ ⟨by simp[hlen],Go.MapKept.stamped_modify aHH i _ (λ_ _=>rfl) λe _ he=>by rw[z] at he;injection he with he;rw[<-he,l]⟩ ?_ ?_ ?_
  ·have hst:(Instr.keyThatStays (((en[i]?).map (·.key)).getD u) u).run P w= .ok u w:=by rw[z];simp only[ξ,δB,l];exact aPX (by rw[q6] at q7 ⊢;exact q7) w
   rcases g with g|g<;>simp only[execOp,g,Instr.mapUpdate,hu,U]<;>simp[run_underlying ht,G,M,q5,hst,F]
  ·intro R S he;obtain⟨j,d⟩:=γK he;rw[ε6] at d;split at d;·simp at d;obtain⟨_,_,rfl⟩:=d;exact T R
   ·simp at d;exact aHI R S (γh d)
  ·intro S he;obtain⟨j,d⟩:=γK he;rw[ε6] at d;split at d;·simp at d;obtain⟨_,_,rfl⟩:=d;exact J
   ·simp at d;exact I S (γh d)
  ·intro j S he;rw[ε6] at he;split at he
   next L=>subst L;simp at he;obtain⟨_,_,rfl⟩:=he;exact⟨{m with key:=u,val:=Ov y},by simp[εZ,z],rfl,hρ y⟩
   next L=>simp at he;obtain⟨m',r1,r2,r3⟩:=C j S he;exact⟨m',by simp[εZ,L,r1],r2,r3⟩
end
def bT.oO:bT->Bool
 | .call .. | .ale .. | .aov .. =>true
 |_=>false
section
variable {P:Program} {A:c_} {w w':World} {σ σ':TN} {o o':a_} {OM:Operand->AV} {Ov:Operand->Value} {oper:Oper} {v:AV}
theorem jJ {b:Type} {x:Option b} {f:b->AV×a_} {p:AV×a_} (h:x.map f=some p):∃a,x=some a/\f a=p:=by simp_all
theorem aP0 {call:cz} {fl:Bool} {T:bT} {qE:Nat} (hc:oB P fl oper=some T) (hnc:T.oO=false) (E:Q5 A w σ o) (D:∀x,nA A w σ o (OM x) (Ov x))
  (he:qA call T OM o qE=some (v,o')):bB A P Ov oper w σ o v o':=by
 rw[y4] at he;unfold oB at hc;split at hc;·
  rename_i x j;injection hc with hc;subst hc;simp only[M9,γ,ι] at he;obtain⟨rfl,rfl⟩:=he;exact Qg E D (.inl j)
 next x j=>injection hc with hc;subst hc;simp only[M9,γ,ι] at he;obtain⟨rfl,rfl⟩:=he;exact Qg E D (.inr j)
 ·rename_i c a b j;injection hc with hc;subst hc;simp only[M9] at he;split at he
  next hcc=>simp only[γ,ι] at he;obtain⟨rfl,rfl⟩:=he;exact Qf (t:=true) E D j hcc
  next hcc=>simp only[γ,ι] at he;obtain⟨rfl,rfl⟩:=he;exact Qf (t:=false) E D j hcc
  ·cases he
 next e j=>obtain⟨z,R,rfl⟩:=ε.1 hc;simp only[M9] at he;obtain⟨o2,hm,C⟩:=jJ he;obtain⟨V,rfl⟩:=wc hm;simp only[ι] at C;obtain⟨rfl,rfl⟩:=C;exact aPk E j R V
 ·rename_i e x j;injection hc with hc;subst hc;simp only[M9] at he;split at he
  next h1=>obtain⟨o2,hm,C⟩:=jJ he;obtain⟨V,rfl⟩:=wc hm;simp only[ι] at C;obtain⟨rfl,rfl⟩:=C;exact aPl E D j h1 V
  ·cases he
 ·
  rename_i t parts j;split at hc
  ·rename_i z fields R F;split at hc
   ·rename_i places hpl;obtain⟨ps,hps,rfl⟩:=ε.1 hc;simp only[M9] at he;obtain⟨cs,M,C⟩:=jJ he;simp only[ι] at C;obtain⟨rfl,rfl⟩:=C;obtain⟨hl,hg⟩:=Hz hps;refine P_ (place:=λi=>places[i]?) E D j R (λzv I l=>?_) hl.symm (λi p q L hq=>?_) M;·cases hi:P.info? t with
     |none=>simp[hi] at I;|some i=>
      simp[hi] at I;unfold Q1 at hpl;simp[Program.built,hi,F,I,hpl]
    ·have:=hg i p q L hq;simp only[Q0,ε] at this;obtain⟨r,h1,rfl⟩:=this;exact⟨h1,rfl⟩
   ·cases hc
  ·rename_i z k e R F;obtain⟨n,J,rfl⟩:=ε.1 hc;simp only[M9] at he;obtain⟨cs,M,C⟩:=jJ he;simp only[ι] at C;obtain⟨rfl,rfl⟩:=C;refine P_ (place:=λi=>some (i*n,n)) E D j R (λzv I l=>?_) (by simp) (λi p q L hq=>?_) M;·cases hi:P.info? t with
    |none=>simp[hi] at I;|some i=>
     simp[hi] at I;cases hie:P.info? e with
     |none=>simp[bK,hie] at J;|some ie=>
      simp[bK,hie] at J;simp[Program.built,hi,F,I,hie,J]
   ·rw[γH,L] at hq;simp at hq;subst hq;exact⟨rfl,rfl⟩
  ·cases hc
 ·
  rename_i t len parts j;split at hc
  ·rename_i e F;split at hc
   ·rename_i z R;split at hc
    ·rename_i B;injection hc with hc;subst hc;split at he
     ·simp only[M9] at he;split at he
      ·rename_i cs M;split at he
       next L=>simp only[γ,ι] at he;obtain⟨rfl,rfl⟩:=he;exact aPK E D j F R B.2 B.1 M L
       ·cases he
      ·cases he
     ·simp only[M9] at he;split at he
      next cs M=>obtain⟨o2,hm,C⟩:=jJ he;obtain⟨V,rfl⟩:=wc hm;simp only[ι] at C;obtain⟨rfl,rfl⟩:=C;exact aPJ E D j F R B.2 B.1 M V
      ·cases he
    ·cases hc
   ·cases hc
  ·cases hc
 ·
  rename_i t a j;obtain⟨n,J,rfl⟩:=ε.1 hc;simp only[M9] at he;split at he
  next cs bu S=>obtain⟨a',L,C⟩:=jJ he;simp only[ι] at C;obtain⟨rfl,rfl⟩:=C;exact aPh E D j J S L
  ·cases he
 ·
  rename_i t a x j;obtain⟨n,J,rfl⟩:=ε.1 hc;simp only[M9] at he;split at he
  ·rename_i id bu tot N;split at he
   ·rename_i cs e sz pu Z;split at he
    next B=>simp only[γ,ι] at he;obtain⟨rfl,rfl⟩:=he;obtain⟨c1,c2,c3,c4,c5⟩:=B;exact aPj E D j J N Z c1 c2 c3 c4 c5
    ·cases he
   ·cases he
  ·cases he
 ·
  rename_i x j;injection hc with hc;subst hc;simp only[M9] at he;have G:=D x;split at he
  next a b c W=>simp only[γ,ι] at he;obtain⟨rfl,rfl⟩:=he;rw[W] at G;simp only[nA] at G;obtain⟨_,⟨p,L⟩,_⟩:=G;rw[<-W];exact Qe E D j L
  next a b W=>simp only[γ,ι] at he;obtain⟨rfl,rfl⟩:=he;rw[W] at G;simp only[nA] at G;obtain⟨p,L,_⟩:=G;rw[<-W];exact Qe E D j L
  ·cases he
 ·
  rename_i op t x y t' j;have aBq:∀(h:T= .bin op x y),bB A P Ov oper w σ o v o':=by
   intro h;subst h;simp only[M9] at he;split at he
   next a b N S=>obtain⟨r,hr,C⟩:=jJ he;simp only[ι] at C;obtain⟨rfl,rfl⟩:=C;exact aPo E D j N S hr
   ·cases he
  have heq:∀(neg:Bool),(op= .eql/\neg=false)\/(op= .neq/\neg=true)->
    (match P.underlying t with
     |some (.struct _)|some (.array _ _)=>if 20<=P.depth then(gd P 20 t).map λks=>bT.eqf neg ks x y else none
     |some .bool=>some (.beq neg x y)
     |some (.int _)|some .string=>some (.bin op x y)
     |some (.pointer _)=>some (.arz neg x y)
     |_=>none)=some T->bB A P Ov oper w σ o v o':=by
   intro neg J hc;have hagg:eX P t=some true->(if 20<=P.depth then(gd P 20 t).map λks=>bT.eqf neg ks x y else none)=some T->bB A P Ov oper w σ o v o':=by
    intro K hc;split at hc
    ·rename_i hD;obtain⟨ks,hk,rfl⟩:=ε.1 hc;simp only[M9] at he;split at he
     next a b N S=>obtain⟨r,hr,C⟩:=jJ he;simp only[ι] at C;obtain⟨rfl,rfl⟩:=C;exact aPQ E D j J K hk hD N S hr
     ·cases he
    ·cases hc
   split at hc;·rename_i hu;exact hagg (by simp[eX,hu]) hc
   next hu=>exact hagg (by simp[eX,hu]) hc
   ·rename_i hu;injection hc with hc;subst hc;simp only[M9] at he;split at he
    next a b N S=>simp only[γ,ι] at he;obtain⟨rfl,rfl⟩:=he;exact aPp E D j J hu N S
    ·cases he
   ·injection hc with hc;exact aBq hc.symm
   ·injection hc with hc;exact aBq hc.symm
   ·rename_i hu;injection hc with hc;subst hc;simp only[M9] at he;split at he
    next N S=>simp only[γ,ι] at he;obtain⟨rfl,rfl⟩:=he;have G:=D x;rw[N] at G;simp only[nA] at G;obtain⟨_,⟨p,L⟩,_⟩:=G;simpa using Qd E D j J hu L S
    next N S=>simp only[γ,ι] at he;obtain⟨rfl,rfl⟩:=he;have G:=D x;rw[N] at G;simpa using Qd E D j J hu (f_ G) S
    ·cases he
   ·cases hc
  split at hc;·exact heq false (.inl ⟨rfl,rfl⟩) hc
  ·exact heq true (.inr ⟨rfl,rfl⟩) hc
  ·injection hc with hc;exact aBq hc.symm
 ·
  rename_i op t x j;injection hc with hc;subst hc;simp only[M9] at he;obtain⟨r,hr,C⟩:=jJ he;simp only[ι] at C;obtain⟨rfl,rfl⟩:=C;exact aPr E D j hr
 ·
  rename_i s d x j;split at hc
  ·rename_i ds k hs V;injection hc with hc;subst hc;simp only[M9] at he;split at he
   next k' n G=>simp only[γ,ι] at he;obtain⟨rfl,rfl⟩:=he;exact aPs E D j hs V G
   ·cases he
  ·cases hc
 ·
  rename_i s x f j;split at hc
  ·rename_i fs hs;split at hc
   ·rename_i g hg;split at hc
    ·rename_i n J;split at hc;·cases hc
     next U=>injection hc with hc;subst hc;simp only[M9] at he;obtain⟨r,hr,C⟩:=jJ he;simp only[ι] at C;obtain⟨rfl,rfl⟩:=C;exact aPt E D j hs hg J U hr
    ·cases hc
   ·cases hc
  ·cases hc
 ·
  rename_i t x f j;split at hc
  ·rename_i fs hs;split at hc
   ·rename_i g hg;obtain⟨n,J,rfl⟩:=ε.1 hc;simp only[M9] at he;split at he
    next cs G=>obtain⟨r,hr,C⟩:=jJ he;simp only[ι] at C;obtain⟨rfl,rfl⟩:=C;exact aPu E D j hs hg J G hr
    ·cases he
   ·cases hc
  ·cases hc
 ·
  rename_i t x i j;split at hc
  ·rename_i len e F;obtain⟨n,J,rfl⟩:=ε.1 hc;simp only[M9] at he;split at he
   ·rename_i k hi;split at he
    next B=>obtain⟨r,hr,C⟩:=jJ he;simp only[ι] at C;obtain⟨rfl,rfl⟩:=C;exact aPv E D j F J hi B.1 B.2 hr
    ·cases he
   ·cases he
  ·rename_i e F;split at hc
   ·rename_i n J;split at hc;·cases hc
    ·rename_i U;injection hc with hc;subst hc;simp only[M9] at he;split at he
     next k hi=>obtain⟨r,hr,C⟩:=jJ he;simp only[ι] at C;obtain⟨rfl,rfl⟩:=C;exact aPw E D j F J U hi hr
     ·cases he
   ·cases hc
  ·cases hc
 ·
  rename_i t x i j;split at hc
  ·rename_i len e F;split at hc
   ·rename_i s n hs J;injection hc with hc;subst hc;simp only[M9] at he;split at he
    ·rename_i k cs hi G;split at he
     next B=>obtain⟨r,hr,C⟩:=jJ he;simp only[ι] at C;obtain⟨rfl,rfl⟩:=C;exact aPx E D j F hs J hi B.1 B.2 G hr
     ·cases he
    ·cases he
   ·cases hc
  ·rename_i F;injection hc with hc;subst hc;simp only[M9] at he;split at he
   ·rename_i k s hi G;split at he
    next B=>obtain⟨r,hr,C⟩:=jJ he;simp only[ι] at C;obtain⟨rfl,rfl⟩:=C;exact aPy E D j F hi B G hr
    ·cases he
   ·cases he
  ·cases hc
 ·
  rename_i t l c j;split at hc
  ·rename_i e F;split at hc
   ·rename_i z b R S;split at hc
    ·rename_i hpos;injection hc with hc;subst hc;simp only[M9] at he;split at he
     ·rename_i n m hl hm;split at he
      next B=>obtain⟨c1,c2,c3,c4⟩:=B;obtain⟨o2,hmk,C⟩:=jJ he;obtain⟨V,rfl⟩:=wc hmk;simp only[ι] at C;obtain⟨rfl,rfl⟩:=C;exact aPM E D j F R S hl hm c1 c2 c3 c4 V
      ·cases he
     ·cases he
    ·cases hc
   ·cases hc
  ·cases hc
 ·
  rename_i t x lo hi j;split at hc
  ·rename_i e F;split at hc
   ·rename_i n J;split at hc;·cases hc
    next U=>injection hc with hc;subst hc;simp only[M9] at he;obtain⟨r,hr,C⟩:=jJ he;simp only[ι] at C;obtain⟨rfl,rfl⟩:=C;exact aPE E D j F J U hr
   ·cases hc
  ·rename_i F;injection hc with hc;subst hc;simp only[M9] at he;split at he
   ·rename_i s G;split at he
    ·rename_i l k hl hk;split at he
     next B=>simp only[γ,ι] at he;obtain⟨rfl,rfl⟩:=he;exact aPH E D j F G hl hk B.1 B.2
     ·cases he
    ·cases he
   ·cases he
  ·cases hc
 ·
  rename_i t x lo hi mx j;split at hc
  ·rename_i e F;split at hc
   ·rename_i n J;split at hc;·cases hc
    next U=>injection hc with hc;subst hc;simp only[M9] at he;obtain⟨r,hr,C⟩:=jJ he;simp only[ι] at C;obtain⟨rfl,rfl⟩:=C;exact aPG E D j F J U hr
   ·cases hc
  ·cases hc
 ·
  rename_i c j;split at hc
  ·split at hc;·injection hc with hc;subst hc;simp[bT.oO] at hnc
   ·cases hc
  ·injection hc with hc;subst hc;simp[bT.oO] at hnc
  ·split at hc;·cases hc
   ·injection hc with hc;subst hc;simp[bT.oO] at hnc
  ·rename_i Q;split at hc
   ·rename_i s x t t' N hty;split at hc
    ·rename_i htt;subst htt;split at hc
     ·rename_i e F;split at hc
      ·rename_i z b R S;split at hc
       next hpos=>injection hc with hc;subst hc;simp only[M9] at he;exact aPP E D j Q (εq N) (εq hty) F R S rfl hpos he
       ·cases hc
      ·cases hc
     ·cases hc
    ·cases hc
   ·cases hc
  ·rename_i Q;split at hc
   ·rename_i x t N hty;have ha':c.args=#[x]:=εq N;have hty':c.argTypes=#[t]:=εq hty;have hlen:∀k,(k=0/\∃e,P.underlying t=some (.slice e))\/(k=1/\P.underlying t=some .string)\/(k=2/\∃a b,P.underlying t=some (.map a b))->T= .len k x->bB A P Ov oper w σ o v o':=by intro k F hh;subst hh;simp only[M9] at he;obtain⟨n,J,C⟩:=jJ he;simp only[ι] at C;obtain⟨rfl,rfl⟩:=C;exact aPz E D j Q ha' hty' F J
    split at hc;·rename_i e F;injection hc with hc;exact hlen 0 (.inl ⟨rfl,e,F⟩) hc.symm
    next F=>injection hc with hc;exact hlen 1 (.inr (.inl ⟨rfl,F⟩)) hc.symm
    next k e F=>injection hc with hc;exact hlen 2 (.inr (.inr ⟨rfl,k,e,F⟩)) hc.symm
    next n e F=>injection hc with hc;subst hc;simp only[M9,γ,ι] at he;obtain⟨rfl,rfl⟩:=he;exact aPA E j Q ha' hty' F
    ·cases hc
   ·cases hc
  ·rename_i Q;split at hc
   ·rename_i x y N;injection hc with hc;subst hc;simp only[M9] at he;split at he
    ·rename_i k a k' b G hy;split at he
     next hkk=>subst hkk;simp only[γ,ι] at he;obtain⟨rfl,rfl⟩:=he;exact Qb (mx:=false) E D j Q (εq N) G hy
     ·cases he
    ·cases he
   ·cases hc
  ·rename_i Q;split at hc
   ·rename_i x y N;injection hc with hc;subst hc;simp only[M9] at he;split at he
    ·rename_i k a k' b G hy;split at he
     next hkk=>subst hkk;simp only[γ,ι] at he;obtain⟨rfl,rfl⟩:=he;exact Qb (mx:=true) E D j Q (εq N) G hy
     ·cases he
    ·cases he
   ·cases hc
  ·cases hc
 ·
  rename_i x i j;injection hc with hc;subst hc;simp only[M9] at he;split at he
  next vs G=>obtain⟨r,hr,C⟩:=jJ he;simp only[ι] at C;obtain⟨rfl,rfl⟩:=C;exact aPB E D j G hr
  ·cases he
 ·rename_i f a b j;split at hc
  ·injection hc with hc;subst hc;simp only[M9,γ,ι] at he;obtain⟨rfl,rfl⟩:=he;exact aPD E D (λ_=>rfl) j
  ·cases hc
 ·rename_i t x j;split at hc
  ·rename_i fs F;injection hc with hc;subst hc;simp only[M9] at he;split at he
   ·rename_i cs G;split at he
    next L=>simp only[γ,ι] at he;obtain⟨rfl,rfl⟩:=he;exact aPC E D F j G L
    ·cases he
   ·cases he
  ·cases hc
 ·rename_i t j;split at hc
  ·split at hc
   ·injection hc with hc;subst hc;simp only[M9] at he;obtain⟨o2,hmk,C⟩:=jJ he;obtain⟨V,rfl⟩:=wc hmk;simp only[ι] at C;obtain⟨rfl,rfl⟩:=C;exact aPV E j V
   ·cases hc
  ·cases hc
 ·
  rename_i t x k ok j;split at hc
  ·rename_i kt et F;split at hc
   ·rename_i ks ka z g hk K R hg;split at hc
    ·rename_i hzo;injection hc with hc;subst hc;simp only[M9] at he;split at he
     ·rename_i id kv G O;split at he
      ·rename_i es kt' pu Z;split at he
       ·rename_i X;subst X;split at he
        next i a q M=>simp only[γ,ι] at he;obtain⟨rfl,rfl⟩:=he;obtain⟨zv,I⟩:=aPW R hzo;obtain⟨u,hu1,hu2⟩:=QL (w:=w) (σ:=σ) (o:=o) R hzo I;have:=QK (ok:=ok) E D j F hk K ⟨zv,u,I,hu1,hu2⟩ G O Z M I;simpa using this
        next zv M I=>simp only[γ,ι] at he;obtain⟨rfl,rfl⟩:=he;obtain⟨u,hu1,hu2⟩:=QL (w:=w) (σ:=σ) (o:=o) R hzo I;have:=QK (ok:=ok) E D j F hk K ⟨zv,u,I,hu1,hu2⟩ G O Z M I;simpa using this
        ·cases he
       ·cases he
      ·cases he
     ·cases he
    ·cases hc
   ·cases hc
  ·cases hc
 ·rename_i t m k v' j;split at hc
  ·rename_i kt et F;split at hc
   ·rename_i ks ka hk K;injection hc with hc;subst hc;simp only[M9] at he;split at he
    ·rename_i id kv G O;split at he
     ·rename_i es kt' pu Z;split at he;·cases he
      ·rename_i B;simp only[not_or,θi] at B;obtain⟨hpu,X⟩:=B;subst X;have Y:pu=true->(OM v').pure=true:=λL=>by
        cases hq:(OM v').pure with
        |true=>rfl;|false=>exact absurd ⟨L,hq⟩ hpu
       split at he
       next i a M=>simp only[γ,ι] at he;obtain⟨rfl,rfl⟩:=he;exact AP E D (.inl j) F hk K G O Z Y M
       next M=>simp only[γ,ι] at he;obtain⟨rfl,rfl⟩:=he;exact AP E D (.inl j) F hk K G O Z Y M
       ·cases he
     ·cases he
    ·cases he
   ·cases hc
  ·cases hc
 ·rename_i t m k v' j;split at hc
  ·rename_i kt et F;split at hc
   ·rename_i ks ka hk K;injection hc with hc;subst hc;simp only[M9] at he;split at he
    ·rename_i id kv G O;split at he
     ·rename_i es kt' pu Z;split at he;·cases he
      ·rename_i B;simp only[not_or,θi] at B;obtain⟨hpu,X⟩:=B;subst X;have Y:pu=true->(OM v').pure=true:=λL=>by
        cases hq:(OM v').pure with
        |true=>rfl;|false=>exact absurd ⟨L,hq⟩ hpu
       split at he
       next i a M=>simp only[γ,ι] at he;obtain⟨rfl,rfl⟩:=he;exact AP E D (.inr j) F hk K G O Z Y M
       next M=>simp only[γ,ι] at he;obtain⟨rfl,rfl⟩:=he;exact AP E D (.inr j) F hk K G O Z Y M
       ·cases he
     ·cases he
    ·cases he
   ·cases hc
  ·cases hc
 ·cases hc
end
section
variable {A A':c_} {w w':World} {σ σ':TN} {o o':a_}
def Tr (o:a_) (σ:TN) (o':a_) (c:TN) (id a:Nat):Prop:=
 (∀f e g h,o[id]?=some (.cells f e g h)->∃b i d,o'[a]?=some (.cells b i g d)/\b.length=f.length)/\(IsMap o id->IsMap o' a)/\c[a]?=σ[id]?
theorem Tr.vY {id b a:Nat} (h:Tr o σ o' σ' id b) (k:sC o id a):sC o' b a:=by obtain⟨j,e,f,l,g,n⟩:=k;obtain⟨d,i,c,m,p⟩:=h.1 j e f l g;exact⟨d,i,f,c,m,by omega⟩
theorem Tr.cur {id g f sz:Nat} (h:Tr o σ o' σ' id g) (k:sC o id f) (p:ue o' g sz f):ue o id sz f:=by obtain⟨m,e,j,l,n,w⟩:=k;obtain⟨r,y,s,u,x⟩:=h.1 m e j l n;obtain⟨t,v,q,i,z⟩:=p;rw[u] at i;injection i with i;injection i with a b c d;subst a c;exact⟨m,e,l,n,by omega⟩
mutual
theorem AV.uz (m:Nat->Option Nat):∀(c:AV),c.pure=true->c.bJ m=some c
 | .sc _,_=>rfl
 | .sl _ _,_=>rfl
 | .ud,h| .agg _,h| .IL _,h| .ep _ _,h| .ptr _ _ _,h| .os _ _ _ _,h| .mp _,h| .fn _ _ _,h| .ifc _ _,h=>by simp[AV.pure] at h
end
theorem QH (m:Nat->Option Nat):∀(cs:List AV),cJ cs=true->iu m cs=some cs
 |[],_=>rfl
 |c::cs,h=>by simp only[cJ,ζ] at h;simp only[iu,AV.uz m c h.1,QH m cs h.2]
mutual
theorem nA.bJ [an5 A A'] (l:∀b,b<w.heap.size->Fr A σ b->Fr A' σ' b) {m:Nat->Option Nat} (k:∀id e,m id=some e->Tr o σ o' σ' id e):
  ∀(c:AV) (v:Value) (q:AV),c.bJ m=some q->nA A w σ o c v->nA A' w σ' o' q v
 | .ud,v,q,d,_=>by grind[δx,nA];| .sc u,v,q,d,h=>by grind[δx,nA];| .sl n g,v,q,d,h=>by
  simp only[δx,γ] at d;subst d;simp only[nA] at h ⊢;obtain⟨a,D,rfl,T,s,F⟩:=h;exact⟨a,D,rfl,T,s,cF.bJ l k g a 0 s F⟩;| .ep g G,v,q,d,h=>by
  simp only[δx,γ] at d;subst d;simp only[nA] at h ⊢;obtain⟨a,rfl,s,F⟩:=h;exact⟨a,rfl,s,cF.bJ l k g _ 0 s F⟩;| .agg g,v,q,d,h=>by
  simp only[δx,ε] at d;obtain⟨i,p,rfl⟩:=d;simp only[nA] at h ⊢;obtain⟨B,rfl,z⟩:=h;exact⟨B,rfl,Aq.bJ l k g _ i p z⟩;| .IL g,v,q,d,h=>by
  simp only[δx,ε] at d;obtain⟨i,p,rfl⟩:=d;simp only[nA] at h ⊢;obtain⟨B,rfl,z⟩:=h;exact⟨B,rfl,Aq.bJ l k g _ i p z⟩;| .ptr id G I,v,q,d,h=>by
  simp only[δx,ε] at d;obtain⟨e,p,rfl⟩:=d;have C:=k id e p;simp only[nA] at h ⊢;refine⟨C.vY h.1,h.2.1,λL E=>?_⟩;rw[C.2.2];exact h.2.2 L (C.cur h.1 E);| .os id G P I,v,q,d,h=>by
  simp only[δx,ε] at d;obtain⟨e,p,rfl⟩:=d;have C:=k id e p;simp only[nA] at h ⊢;obtain⟨N,a,D,K,z,O⟩:=h;refine⟨C.vY N,a,D,K,z,λL E=>?_⟩;have:=O L (C.cur N E);unfold j9 at this ⊢;rw[C.2.2];exact this;| .mp id,v,q,d,h=>by
  simp only[δx,ε] at d;obtain⟨e,p,rfl⟩:=d;have C:=k id e p;simp only[nA] at h ⊢;rw[C.2.2];exact⟨C.2.1 h.1,h.2⟩;| .fn f a b,v,q,d,h=>by
  simp only[δx] at d;split at d
  next Q V p J=>injection d with d;subst d;simp only[nA] at h ⊢;obtain⟨x,y,rfl,R,S⟩:=h;exact⟨x,y,by rw[an5.eq (A:=A) (A':=A')],Aq.bJ l k a _ Q p R,Aq.bJ l k b _ V J S⟩
  ·cases d;| .ifc t g,v,q,d,h=>by simp only[δx,γ] at d;subst d;simp only[nA] at h ⊢;obtain⟨B,rfl,s,z⟩:=h;exact⟨B,rfl,s,Aq.bJ l k g _ g (QH m g s) z⟩
theorem Aq.bJ [an5 A A'] (l:∀b,b<w.heap.size->Fr A σ b->Fr A' σ' b) {m:Nat->Option Nat} (k:∀id e,m id=some e->Tr o σ o' σ' id e):
  ∀(g:List AV) (B:List Value) (i:List AV),iu m g=some i->Aq A w σ o g B->Aq A' w σ' o' i B
 |[],B,i,d,h=>by grind[iu,Aq];|c::g,B,i,d,h=>by
  simp only[iu] at d;split at d
  next W H p J=>injection d with d;subst d;simp only[Aq] at h ⊢;obtain⟨v,r,rfl,K,z⟩:=h;exact⟨v,r,rfl,nA.bJ l k c v W p K,Aq.bJ l k g r H J z⟩
  ·cases d
theorem cF.bJ [an5 A A'] (l:∀b,b<w.heap.size->Fr A σ b->Fr A' σ' b) {m:Nat->Option Nat} (k:∀id e,m id=some e->Tr o σ o' σ' id e):
  ∀(g:List AV) (a:Option Addr) (j:Nat),cJ g=true->cF A w σ o g a j->cF A' w σ' o' g a j
 |[],_,_,_,_=>by simp[cF];|c::g,a,j,s,h=>by
  simp only[cJ,ζ] at s;simp only[cF] at h ⊢;obtain⟨⟨b,v,rfl,U,d,F⟩,z⟩:=h;have M:b.block<w.heap.size:=by grind[Qp,cY]
  exact⟨⟨b,v,rfl,l _ M U,d,nA.bJ l k c v c (AV.uz m c s.1) F⟩,cF.bJ l k g _ (j+1) s.2 z⟩
end
theorem Hu {m:Nat->Option Nat}:∀{cs a:List AV},iu m cs=some a->a.length=cs.length/\∀(j:Nat) (b:AV),a[j]?=some b->∃c,cs[j]?=some c/\c.bJ m=some b
 |[],a,h=>by grind[iu];|c::cs,a,h=>by
  simp only[iu] at h;split at h
  next k e f d=>injection h with h;subst h;obtain⟨i,g⟩:=Hu d;grind
  ·cases h
theorem QG {m:Nat->Option Nat}:∀{es a:List (Value×AV)},nD m es=some a->a.length=es.length/\∀(j:Nat) (b:Value×AV),a[j]?=some b->∃e,es[j]?=some e/\e.1=b.1/\e.2.bJ m=some b.2
 |[],a,h=>by grind[nD];|e::es,a,h=>by
  simp only[nD] at h;split at h
  next v d f c=>injection h with h;subst h;obtain⟨g,i⟩:=QG c;grind
  ·cases h
theorem aP2 {m:Nat->Option Nat} {c a:AV} (h:c.bJ m=some a) (b:c.one=true):a.one=true:=by cases c<;>simp only[δx,γ,ε] at h<;>simp only[θm,ω] at b<;>grind[δx,θm]
mutual
theorem bah {m:Nat->Option Nat}:∀{c a:AV},c.bJ m=some a->c.pure=true->a=c
 |c,a,h,b=>by grind[AV.uz]
end
theorem cQ.bJ [an5 A A'] (u:∀b,b<w.heap.size->Fr A σ b->Fr A' σ' b) {m:Nat->Option Nat} (hm:∀id s,m id=some s->Tr o σ o' σ' id s) {i G:Nat} {x x':OL} (f:x.bJ m=some x') (q:σ'[G]?=σ[i]?)
  (h:cQ A w σ o i x):cQ A' w σ' o' G x':=by
 cases x with
 |dead=>simp only[OL.bJ,γ] at f;subst f;simp only[cQ] at h ⊢;rw[q];exact h;|cells cs e sz pu=>
  simp only[cQ] at h;obtain⟨h1,r,y⟩:=h;have key:∀a,a.length=cs.length->(pu=true->cJ a=true)->dV a=true->(∀(j:Nat) (k:AV) (v:Value),a[j]?=some k->(∀c,cs[j]?=some c->nA A w σ o c v->nA A' w σ' o' k v))->cQ A' w σ' o' G (.cells a e sz pu):=by
   intro a k1 k2 k3 k4;simp only[cQ];refine⟨k2,k3,?_⟩;rcases y with⟨S,J⟩|⟨b,cap,arr,D,C,B,Q,U,P⟩;·left;rw[q];exact⟨S,ψ (by rw[k1,J];rfl)⟩
   ·refine .inr ⟨b,cap,arr,by rw[q];exact D,C,B,Q,by omega,λj k l=>?_⟩;have t:j<cs.length:=by have:=(θ.1 l).1;omega
    obtain⟨v,R,hr⟩:=P j _ (μ t);exact⟨v,R,k4 j k v l _ (μ t) hr⟩
  simp only[OL.bJ] at f;split at f
  next d=>injection f with f;subst f;refine key cs rfl h1 r λj k v l c hc hr=>?_;rw[l] at hc;injection hc with hc;subst hc;exact nA.bJ u hm k v k (AV.uz m k (pv (h1 d) k (γh l))) hr
  ·rename_i d;obtain⟨a,p,rfl⟩:=ε.1 f;obtain⟨g1,g2⟩:=Hu p;refine key a g1 (λH=>absurd H d) (mJ.2 λc hc=>?_) λj k v l c hc hr=>?_
   ·obtain⟨j,l⟩:=γK hc;obtain⟨O,g,n⟩:=g2 j c l;exact aP2 n (mJ.1 r O (γh g))
   ·obtain⟨O,g,n⟩:=g2 j k l;rw[hc] at g;injection g with g;subst g;exact nA.bJ u hm c v k n hr;|map es V pu=>
  simp only[cQ] at h;obtain⟨h1,r,b,c,en,cl,y,M,I,L⟩:=h;simp only[OL.bJ] at f;split at f
  next d=>injection f with f;subst f;simp only[cQ];refine⟨h1,r,b,c,en,cl,by rw[q];exact y,M,I,λj e he=>?_⟩;obtain⟨F,g,n,E⟩:=L j e he;exact⟨F,g,n,nA.bJ u hm e.2 _ e.2 (AV.uz m e.2 (h1 d e (γh he))) E⟩
  ·rename_i d;obtain⟨T,p,rfl⟩:=ε.1 f;obtain⟨g1,g2⟩:=QG p;simp only[cQ];refine⟨λH=>absurd H d,λe he=>?_,b,c,en,cl,by rw[q];exact y,M,⟨by have:=I.1;omega,I.2⟩,λj N he=>?_⟩
   ·obtain⟨j,l⟩:=γK he;obtain⟨z,g,n,_⟩:=g2 j e l;rw[<-n];exact r z (γh g)
   ·obtain⟨z,g,n,E⟩:=g2 j N he;obtain⟨F,D,C,B⟩:=L j z g;exact⟨F,D,by rw[C,n],nA.bJ u hm z.2 _ N.2 E B⟩
def pt (k:Nat):Nat->Option Nat:=λi=>if i<k then some i else none
mutual
theorem AO (k:Nat):∀(c:AV),c.VJ k=true->c.bJ (pt k)=some c
 | .ud,_| .sc _,_| .sl _ _,_| .ep _ _,_| .ifc _ _,_=>rfl
 | .agg d,h=>by simp only[AV.VJ] at h;simp[δx,vX k d h];| .IL d,h=>by simp only[AV.VJ] at h;simp[δx,vX k d h];| .ptr e _ _,h=>by simp_all[AV.VJ,δx,pt];| .os e _ _ _,h=>by simp_all[AV.VJ,δx,pt];| .mp e,h=>by simp_all[AV.VJ,δx,pt];| .fn f a b,h=>by simp only[AV.VJ,ζ] at h;simp[δx,vX k a h.1,vX k b h.2]
theorem vX (k:Nat):∀(d:List AV),dK k d=true->iu (pt k) d=some d
 |[],_=>rfl
 |c::d,h=>by simp only[dK,ζ] at h;simp[iu,AO k c h.1,vX k d h.2]
end
theorem QF {k:Nat} {cs:List AV}:dK k cs=true↔∀c∈cs,c.VJ k=true:=by induction cs<;>grind[dK]
theorem QE (k:Nat) (id a:Nat) (h:pt k id=some a):Tr o σ (o.take k) (σ.take k) id a:=by
 unfold pt at h;split at h
 next i=>injection h with h;subst h;refine⟨λf e j b g=>⟨f,e,b,by simp_all,rfl⟩,λ⟨d,c,b,g⟩=>⟨d,c,b,by simp_all⟩,by simp_all⟩
 ·cases h
theorem QC (k:Nat) (b:Nat) (h:Fr A σ b):Fr A (σ.take k) b:=by
 refine⟨?_,h.2⟩;rintro⟨i,c,a⟩;rw[δh] at a;split at a;·exact h.1 ⟨i,c,a⟩
 ·cases a
theorem nA.take {k:Nat} {c:AV} {v:Value} (h:nA A w σ o c v) (a:c.VJ k=true):nA A w (σ.take k) (o.take k) c v:=
 nA.bJ (λb _ d=>QC k b d) (QE k) c v c (AO k c a) h
theorem aP3 {k:Nat} {x:OL} (h:x.VJ k=true):x.bJ (pt k)=some x:=by
 cases x with
 |dead=>rfl;|cells g e i c=>
  grind[OL.VJ,OL.bJ,vX];|map a f c=>
  simp only[OL.VJ,δd] at h;simp only[OL.bJ];split;·rfl
  ·rename_i b;have d:=h.resolve_left b;have:nD (pt k) a=some a:=by clear h b;induction a<;>grind[dK,nD,AO]
   rw[this];rfl
theorem Q5.take (e:Q5 A w σ o) {k:Nat} (n:∀x∈o.take k,x.VJ k=true):Q5 A w (σ.take k) (o.take k):=by
 have a:∀(i:Nat) (s:Option (Nat×Nat)),(σ.take k)[i]?=some s->σ[i]?=some s:=by grind
 refine⟨by simp[e.len],λi j b c d g m=>e.dist i j b c d (a _ _ g) (a _ _ m),λi b c g=>e.ef i b c (a _ _ g),λi x f=>?_,λi b c g=>e.av i b c (a _ _ g),e.avb⟩;have h:=f;rw[δh] at f;split at f
 next p=>exact cQ.bJ (λb _ l=>QC k b l) (QE k) (aP3 (n x (γh h))) (by simp_all) (e.obj i x f)
 ·cases f
theorem Ext.take {v:World} {j:TN} {u:a_} (h:Ext v j u w σ o) {k:Nat} (C:u.length<=k):Ext v j u w (σ.take k) (o.take k) where
 size:=h.size;blk:=λb z B=>by
  obtain⟨g,p⟩:=h.blk b z B;refine⟨g,?_⟩;rintro⟨i,c,q⟩;rw[δh] at q;split at q;·exact p ⟨i,c,q⟩
  ·cases q
 len:=by have:=h.len;simp;omega
 cur:=λm t l=>by
  obtain⟨g,p⟩:=h.cur m t l;have d:m<k:=by obtain⟨r,e,n,a,f,_⟩:=l;grind
  refine⟨?_,λn A=>?_⟩
  ·obtain⟨r,e,n,a,f,s⟩:=g;exact⟨r,e,n,a,by simp_all,s⟩
  ·rw[δA d];refine p n ?_;obtain⟨r,e,a,f,s⟩:=A;rw[δA d] at f;exact⟨r,e,a,f,s⟩
 isMap:=λm l=>by
  obtain⟨g,p⟩:=h.isMap m l;have d:m<k:=by obtain⟨x,y,a,f⟩:=l;grind
  refine⟨?_,by simp_all⟩;obtain⟨x,y,a,f⟩:=g;exact⟨x,y,a,by simp_all⟩
 os:=h.os;tape:=h.tape;output:=h.output
mutual
theorem nA.VJ {k:Nat} (g:∀i x,k<=i->o[i]?=some x->x.mg=true):∀(c:AV) (v:Value),nA A w σ o c v->c.VJ k=true
 | .ud,_,_| .sc _,_,_| .sl _ _,_,_| .ep _ _,_,_| .ifc _ _,_,_=>rfl
 | .agg d,v,h=>by simp only[nA] at h;obtain⟨l,_,j⟩:=h;simp only[AV.VJ];exact Aq.VJ g d _ j;| .IL d,v,h=>by simp only[nA] at h;obtain⟨l,_,j⟩:=h;simp only[AV.VJ];exact Aq.VJ g d _ j;| .ptr n _ _,v,h=>by simp only[nA] at h;obtain⟨⟨d,e,s,m,p,_⟩,_⟩:=h;simp only[AV.VJ,decide_eq_true_eq];grind[OL.mg];| .os n _ _ _,v,h=>by simp only[nA] at h;obtain⟨⟨d,e,s,m,p,_⟩,_⟩:=h;simp only[AV.VJ,decide_eq_true_eq];grind[OL.mg];| .mp n,v,h=>by simp only[nA] at h;obtain⟨⟨B,z,m,p⟩,_⟩:=h;simp only[AV.VJ,decide_eq_true_eq];grind[OL.mg];| .fn f a b,v,h=>by simp only[nA] at h;obtain⟨x,y,_,u,q⟩:=h;simp only[AV.VJ,ζ];exact⟨Aq.VJ g a _ u,Aq.VJ g b _ q⟩
theorem Aq.VJ {k:Nat} (g:∀i x,k<=i->o[i]?=some x->x.mg=true):∀(d:List AV) (l:List Value),Aq A w σ o d l->dK k d=true
 |[],_,_=>rfl
 |c::d,l,h=>by simp only[Aq] at h;obtain⟨v,r,_,t,j⟩:=h;simp only[dK,ζ];exact⟨nA.VJ g c v t,Aq.VJ g d r j⟩
end
theorem cQ.VJ {k i:Nat} {x:OL} (n:∀i x,k<=i->o[i]?=some x->x.mg=true) (h:cQ A w σ o i x):x.VJ k=true:=by
 cases x with
 |dead=>rfl;|cells t e s g=>
  simp only[cQ] at h;simp only[OL.VJ,δd];right;refine QF.2 λc a=>?_;obtain⟨j,f⟩:=γK a;grind[nA.VJ];|map r p g=>
  simp only[cQ] at h;obtain⟨_,_,b,c,m,l,_,_,_,q⟩:=h;simp only[OL.VJ,δd];right;refine QF.2 λc a=>?_;obtain⟨e,d,rfl⟩:=Δ.1 a;obtain⟨j,f⟩:=γK d;grind[nA.VJ]
theorem aP4 {n i:Nat} {x:OL} (h:(fK n)[i]?=some x):x= .dead:=by grind[fK]
theorem Q5.fK (f:Q5 A w σ o) (n:Nat):Q5 A w (σ++δ n none) (o++fK n)/\Ext w σ o w (σ++δ n none) (o++fK n):=by
 have g:∀(i:Nat) (b c:Nat),(σ++δ n none)[i]?=some (some (b,c))->σ[i]?=some (some (b,c)):=by grind
 have v:Ext w σ o w (σ++δ n none) (o++Go.Vi.fK n):=by
  refine⟨π _,λb _ F=>⟨rfl,λ⟨i,c,h⟩=>F ⟨i,c,g i b c h⟩⟩,by simp,λK I q=>?_,λK q=>?_,rfl,rfl,rfl⟩
  ·obtain⟨H,e,G,m,s,C⟩:=q;have a:=(θ.1 s).1;refine⟨⟨H,e,G,m,by grind,C⟩,λB D=>⟨?_,by rw[γ9 (by rw[f.len];exact a)]⟩⟩;obtain⟨p,J,u,l,t⟩:=D;rw[γ9 a] at l;exact⟨p,J,u,l,t⟩
  ·obtain⟨z,y,m,s⟩:=q;have a:=(θ.1 s).1;exact⟨⟨z,y,m,by grind⟩,by rw[γ9 (by rw[f.len];exact a)]⟩
 refine⟨⟨by simp[Go.Vi.fK,f.len],λi j b c d h E=>f.dist i j b c d (g _ _ _ h) (g _ _ _ E),λi b c h=>f.ef i b c (g _ _ _ h),λi x k=>?_,λi b c h=>f.av i b c (g _ _ _ h),f.avb⟩,v⟩;rw[εv] at k;split at k
 next a=>exact(f.obj i x k).ext v (by rw[γ9 (by rw[f.len];exact a)]) λ_ _ _=>rfl
 next a=>have:=aP4 k;subst this;simp only[cQ];have r:=(θ.1 k).1;simp[Go.Vi.fK] at r;rw[ζe (by rw[f.len];omega),List.getElem?_replicate,if_pos (by rw[f.len];omega)]
theorem aP5 (f:Q5 A w σ o) (k:Nat):∃b,Q5 A w b (qh k o)/\(∀c v,nA A w σ o c v->nA A w b (qh k o) c v)/\
  ∀(e:World) (a:TN) (d:a_),d.length<=k->Ext e a d w σ o->Ext e a d w b (qh k o):=by
 unfold qh;split
 ·rename_i h;have g:∀i x,k<=i->o[i]?=some x->x.mg=true:=by intro i x r l;refine τ.1 h x (γh (i:=i - k) ?_);simp_all
  refine⟨σ.take k,f.take λx l=>?_,λc v m=>m.take (nA.VJ g c v m),λe a d q p=>p.take q⟩;obtain⟨j,n⟩:=γK (γj l);exact cQ.VJ g (f.obj j x n)
 ·exact⟨σ,f,λ_ _ h=>h,λ_ _ _ _ h=>h⟩
end
def j8 (P:Program) (f:FuncId) (args:List AV) (o:a_) (r:AV) (o':a_):Prop:=
 ∀(A:c_) (w:World) (b:TN) (d:List Value),Q5 A w b o->Aq A w b o args d->
  Calls P f d.toArray w λe c=>∃u a,e= .returned u/\Q5 A c a o'/\nA A c a o' r u/\Ext w b o c a o'
def oN (P:Program) (call:cz):Prop:=
 ∀f a o b r c,call f a o b=some (r,c)->gv P f=true/\j8 P f a o r c/\(b=false->c=[])
section
variable {P:Program} {A B:c_} {w w':World} {σ σ':TN} {o o':a_}
theorem AN {d e:Type} {f:d->Option e}:∀{l:List d} {c:List e},l.mapM f=some c->c.length=l.length/\∀(j:Nat) (a:d),l[j]?=some a->∃b,c[j]?=some b/\f a=some b
 |[],c,h=>by simp_all;|a::l,c,h=>by
  rw[εY] at h;cases g:f a with
  |none=>simp[g] at h;|some b=>
   cases i:l.mapM f with
   |none=>simp_all;|some r=>
    simp[g,i] at h;subst h;obtain⟨m,k⟩:=AN i;grind
theorem yo {f:AV->Option AV} {cs a:List AV} {vs:List Value} (h:cs.mapM f=some a) (e:Aq A w σ o cs vs) (n:∀c∈cs,∀d v,f c=some d->nA A w σ o c v->nA B w σ' o' d v):Aq B w σ' o' a vs:=by
 obtain⟨p,m⟩:=AN h;have q:=Aq.length _ _ e;refine Aq.kC _ _ (by omega) λj d k=>?_;have g:j<cs.length:=by grind
 obtain⟨v,r,i⟩:=Aq.get _ _ e j _ (μ g);obtain⟨b,s,l⟩:=m j _ (μ g);grind
theorem Ht [an5 A B] (hS:Q5 A w σ o) (hB:∀b,b<w.heap.size->Fr A σ b->¬B b):∀(d:Nat) (a Q:AV) (u:Value),freeze o d a=some Q->(∀id∈eK o d a,∀b c,σ[id]?=some (some (b,c))->¬B b)->
  nA A w σ o a u->nA B w [] [] Q u:=by
 have F:∀b,b<w.heap.size->Fr A σ b->Fr B [] b:=λb z f=>⟨λ⟨i,c,E⟩=>by simp at E,hB b z f⟩;have M:∀id t,(λ_:Nat=>(none:Option Nat)) id=some t->Tr o σ [] [] id t:=λ_ _ h=>by cases h
 intro d;induction d with
 |zero=>
  intro a Q u f _ s;cases a<;>simp only[freeze,reduceCtorEq,γ] at f;·grind[nA]
  ·rename_i v;split at f
   ·injection f with f;subst f;have:=f_ s;subst this;simp only[nA,cF];exact⟨none,0,rfl,π _,rfl,trivial⟩
   grind[nA]
  ·subst f;exact nA.bJ F M _ _ _ rfl s
  ·subst f;exact nA.bJ F M _ _ _ rfl s;|succ d ih=>
  intro a Q u f ht s;cases a<;>simp only[freeze,reduceCtorEq,γ] at f;·grind[nA]
  ·rename_i v;split at f
   ·injection f with f;subst f;have:=f_ s;subst this;simp only[nA,cF];exact⟨none,0,rfl,π _,rfl,trivial⟩
   grind[nA]
  next C=>obtain⟨I,h1,rfl⟩:=ε.1 f;grind[nA,yo,eK]
  next C=>obtain⟨I,h1,rfl⟩:=ε.1 f;grind[nA,yo,eK]
  ·subst f;exact nA.bJ F M _ _ _ rfl s
  ·
   rename_i id q r a3;split at f
   ·rename_i C e R pu T;split at f
    ·rename_i y;obtain⟨D,P⟩:=y;simp only[nA] at s;obtain⟨a5,X,O,rfl,J,G⟩:=s;have Z:=G R ⟨C,e,pu,T,D⟩;have L:=hS.obj id _ T;simp only[cQ] at L;obtain⟨q1,q2,q3⟩:=L;have k:∀(j:Nat) (c:AV),((C.drop q).take (r*R))[j]?=some c->∃(p:Addr) (v:Value),X=some p/\¬B p.block/\w.cell? (p.add j)=some v/\nA A w σ o c v:=by
      intro j c n;rw[δh] at n;split at n
      ·rename_i S;rw[δz] at n;have a1:0<r:=by grind
       unfold j9 at Z;split at Z;·omega
       ·rename_i b c2 K;rcases q3 with⟨h0,_⟩|⟨b',a0,a4,U,_,r3,_,_,r6⟩;·simp_all
        ·rw[K] at U;simp only[γ,ι] at U;obtain⟨rfl,rfl⟩:=U;obtain⟨v,hv,m⟩:=r6 _ c n;refine⟨⟨b,q,none⟩,v,(by grind[oA]),ht id (by simp[eK]) b c2 K,?_,m⟩;grind[Hy,World.cell?]
       simp_all
      ·cases n
     split at f
     next N=>injection f with f;subst f;have g:cJ ((C.drop q).take (r*R))=true:=sA λc n=>pv (q1 N) c (γY (γj n));simp only[nA];refine⟨X,O,rfl,J,g,cF.kC _ _ _ λj c n=>?_⟩;obtain⟨p,v,V,x,l,m⟩:=k j c n;exact⟨p,v,V,⟨λ⟨i,c,E⟩=>by simp at E,x⟩,by simpa using l,nA.bJ F M c v c (AV.uz _ c (pv g c (γh n))) m⟩
     ·rename_i N;split at f
      ·rename_i I H;split at f
       ·rename_i g;injection f with f;subst f;obtain⟨m1,m2⟩:=AN H;simp only[nA];refine⟨X,O,rfl,J,g,cF.kC _ _ _ λj c' W=>?_⟩;have S:j<((C.drop q).take (r*R)).length:=by grind
        obtain⟨p,v,V,x,l,m⟩:=k j _ (μ S);obtain⟨b,z,Y⟩:=m2 j _ (μ S);rw[W] at z;injection z with z;subst z;refine⟨p,v,V,⟨λ⟨i,c,E⟩=>by simp at E,x⟩,by simpa using l,ih _ _ v Y (λt a2=>ht t ?_) m⟩;simp only[eK,T,γl];grind
       ·cases f
      ·cases f
    ·cases f
   ·cases f
  ·grind[nA,an5.eq,yo,eK]
  ·subst f;exact nA.bJ F M _ _ _ rfl s
theorem Q5.JS (f:Q5 A w σ o) (e:Ext w [] [] w' σ' o'):Q5 A w' σ o/\Ext w σ o w' σ o:=by have a:∀b,b<w.heap.size->w'.heap[b]?=w.heap[b]?:=λb d=>(e.blk b d λ⟨i,c,l⟩=>by simp at l).1;have g:Ext w σ o w' σ o:=⟨e.size,λb d k=>⟨a b d,k⟩,π _,λ_ _ h=>⟨h,λ_ h=>⟨h,rfl⟩⟩,λ_ h=>⟨h,rfl⟩,e.os,e.tape,e.output⟩;exact⟨⟨f.len,f.dist,λi b c h=>γw (f.ef i b c h) e.size,λi x j=>(f.obj i x j).ext g rfl λb c d=>a b (f.ef i b c d),f.av,λb d=>γw (f.avb b d) e.size⟩,g⟩
mutual
theorem QB:∀(r:AV) (u:Value),r.kD=true->nA A w σ o r u->nA B w' σ' o' r u
 | .ud,_,_,_=>by simp[nA];| .sc v,u,_,h=>by grind[nA];| .agg b,u,a,h=>by simp only[AV.kD] at a;simp only[nA] at h ⊢;obtain⟨d,rfl,e⟩:=h;exact⟨d,rfl,Hs b _ a e⟩;| .IL b,u,a,h=>by simp only[AV.kD] at a;simp only[nA] at h ⊢;obtain⟨d,rfl,e⟩:=h;exact⟨d,rfl,Hs b _ a e⟩;| .sl n b,u,a,h=>by grind[AV.kD,nA,cF];| .ep _ _,_,a,_| .ptr _ _ _,_,a,_| .os _ _ _ _,_,a,_| .mp _,_,a,_| .fn _ _ _,_,a,_| .ifc _ _,_,a,_=>by simp[AV.kD] at a
theorem Hs:∀(b:List AV) (d:List Value),uj b=true->Aq A w σ o b d->Aq B w' σ' o' b d
 |[],d,_,h=>by grind[Aq];|c::b,d,a,h=>by simp only[uj,ζ] at a;simp only[Aq] at h ⊢;obtain⟨v,r,rfl,f,e⟩:=h;exact⟨v,r,rfl,QB c v a.1 f,Hs b r a.2 e⟩
end
theorem yn (w:World) (a:∀b,A b->b<w.heap.size):Q5 A w [] []:=⟨rfl,by simp,by simp,by simp,by simp,a⟩
theorem aP6 {call:cz} (q:oN P call) (n:Q5 A w σ o) {f:FuncId} {args a:List AV} {vs:List Value} (N:Aq A w σ o args vs) (K:args.mapM (freeze o 6)=some a) {r:AV}
  (X:call f a [] false=some (r,[])) (y:(args.flatMap (eK o 6)).isEmpty=true\/r.kD=true):
  gv P f=true/\Calls P f vs.toArray w λe w'=>∃u g,e= .returned u/\Q5 A w' g o/\nA A w' g o r u/\Ext w σ o w' g o:=by
 obtain⟨S,C,_⟩:=q _ _ _ _ _ _ X;refine⟨S,?_⟩;rcases y with y|y;·
  let B:c_:=⟨λb=>A b\/Own σ b,A.l⟩;have Q:∀b,B b->b<w.heap.size:=λb z=>Or.elim (show A b\/Own σ b from z) (n.avb b) λ⟨i,c,V⟩=>n.ef i b c V;haveI:an5 A B:=⟨rfl⟩;haveI:an5 B A:=⟨rfl⟩;have j:Aq B w [] [] a vs:=yo K N λc E J v s t=>Ht n (λb _ d z=>Or.elim (show A b\/Own σ b from z) d.2 d.1) 6 c J v s (λI U=>by simp_all) t;refine(C B w [] vs (yn w Q) j).mono ?_;rintro e w' ⟨u,g,rfl,F,p,G⟩;obtain⟨M,L⟩:=n.JS G;refine⟨u,σ,rfl,M,?_,L⟩;have D:r.VJ 0=true:=nA.VJ (k:=0) (λi x _ W=>by simp at W) r u p;refine nA.bJ (m:=pt 0) (λb z d=>⟨λR=>d.2 (show A b\/Own σ b from .inr R),λT=>d.2 (show A b\/Own σ b from .inl T)⟩) (λI O h=>by grind[pt]) r u r (AO 0 r D) p
 ·have j:Aq A w [] [] a vs:=yo K N λc E J v s t=>Ht n (λb _ d z=>d.2 z) 6 c J v s (λI _ b Y H=>n.av I b Y H) t;refine(C A w [] vs (yn w n.avb) j).mono ?_;rintro e w' ⟨u,g,rfl,F,p,G⟩;obtain⟨M,L⟩:=n.JS G;grind[QB]
end
section
variable {A:c_} {w:World} {σ:TN} {o:a_}
def ja (o:a_) (p:Nat->Bool) (i:Nat):Bool:=p i&&(match o[i]? with|some (.cells _ _ _ true)=>true|_=>false)
def ln (o:a_) (p:Nat->Bool) (σ:TN):TN:=(Γ σ.length).map λi=>if ja o p i then none else(σ[i]?).getD none
theorem Hr (o:a_) (p:Nat->Bool) (σ:TN):(ln o p σ).length=σ.length:=by simp[ln]
theorem Hq {o:a_} {p:Nat->Bool} {σ:TN} {i:Nat} (a:i<σ.length):(ln o p σ)[i]?=some (if ja o p i then none else(σ[i]?).getD none):=by simp[ln,a]
theorem uy {o:a_} {p:Nat->Bool} {σ:TN} {i:Nat} {s:Nat×Nat} (h:(ln o p σ)[i]?=some (some s)):σ[i]?=some (some s)/\ja o p i=false:=by
 have a:i<σ.length:=by grind[Hr]
 simp_all[Hq]
theorem QA {o:a_} {p:Nat->Bool} {σ:TN} {i:Nat} (h:ja o p i=false):(ln o p σ)[i]?=σ[i]?:=by grind[Hq,Hr]
def Hp (p:Nat->Bool) (i:Nat):OL->OL
 | .cells b e a true=>if p i then .dead else .cells b e a true
 |x=>x
theorem AM (p:Nat->Bool):∀(o:a_) (k i:Nat),(fo p k o)[i]?=(o[i]?).map (Hp p (k+i))
 |[],k,i=>by simp[fo];|x::r,k,i=>by
  simp only[fo];cases i with
  |zero=>simp only[List.getElem?_cons_zero,ξ,ζk];congr 1;|succ i=>simp only[γR];rw[AM p r (k+1) i,show k+1+i=k+(i+1) from by omega]
theorem Qz {p:Nat->Bool} {a:a_}:∀{o o':a_},jj a p o=some o'->o'.length=o.length/\∀(i:Nat) (x:OL),o[i]?=some x->∃y,x.TL a p=some y/\o'[i]?=some y
 |[],o',h=>by grind[jj];|x::r,o',h=>by
  simp only[jj] at h;split at h
  next y l e b=>injection h with h;subst h;obtain⟨d,c⟩:=Qz b;grind
  ·cases h
theorem Ho {o:a_} {p:Nat->Bool}:∀{cs a:List AV},gw o p cs=some a->a.length=cs.length/\∀(j:Nat) (b:AV),a[j]?=some b->∃c,cs[j]?=some c/\c.TL o p=some b
 |[],a,h=>by grind[gw];|c::cs,a,h=>by
  simp only[gw] at h;split at h
  next k e f d=>injection h with h;subst h;obtain⟨i,g⟩:=Ho d;grind
  ·cases h
theorem Qy {o:a_} {p:Nat->Bool}:∀{es a:List (Value×AV)},oW o p es=some a->a.length=es.length/\∀(j:Nat) (b:Value×AV),a[j]?=some b->∃e,es[j]?=some e/\e.1=b.1/\e.2.TL o p=some b.2
 |[],a,h=>by grind[oW];|e::es,a,h=>by
  simp only[oW] at h;split at h
  next v d f c=>injection h with h;subst h;obtain⟨g,i⟩:=Qy c;grind
  ·cases h
theorem Qx {o:a_} {p:Nat->Bool}:∀{env a:jk},uh o p env=some a->∀s,(cX env s).TL o p=some (cX a s)
 |[],a,h,s=>by simp only[uh,γ] at h;subst h;rfl;|(k,v)::r,a,h,s=>by
  simp only[uh] at h;split at h
  ·rename_i e d b c;injection h with h;subst h;simp only[cX];cases f:Nat.beq k s with
   |true=>exact b;|false=>exact Qx c s
  ·cases h
mutual
theorem AV.Qw (o:a_) (p:Nat->Bool):∀(c:AV),c.pure=true->c.TL o p=some c
 | .sc _,_=>rfl
 | .sl _ _,_=>rfl
 | .ud,h| .agg _,h| .IL _,h| .ep _ _,h| .ptr _ _ _,h| .os _ _ _ _,h| .mp _,h| .fn _ _ _,h| .ifc _ _,h=>by simp[AV.pure] at h
end
theorem aP7 {o:a_} {p:Nat->Bool} {c a:AV} (h:c.TL o p=some a) (b:c.one=true):a.one=true:=by cases c<;>simp only[θm,ω] at b<;>simp only[AV.TL] at h<;>grind[θm,AV.TL]
structure sS (o:a_) (p:Nat->Bool) (o2:a_):Prop where
 len:o2.length=o.length
 get:∀i x,o[i]?=some x->(ja o p i=true/\o2[i]?=some .dead)\/(ja o p i=false/\∃y,x.TL o p=some y/\o2[i]?=some y)
theorem Qv {o a:a_} {p:Nat->Bool} (h:jj o p o=some a):sS o p (fo p 0 a):=by
 obtain⟨k,l⟩:=Qz h;have n:(fo p 0 a).length=o.length:=by
  rw[<-k];apply Nat.le_antisymm
  ·rcases ζm a.length (fo p 0 a).length with h|h
   ·exfalso;have:=AM p a 0 a.length;simp_all
   ·exact h
  ·rcases ζm (fo p 0 a).length a.length with h|h
   ·exfalso;have:=AM p a 0 (fo p 0 a).length;simp_all
   ·exact h
 refine⟨n,λi x j=>?_⟩;obtain⟨y,b,f⟩:=l i x j;have d:=AM p a 0 i;rw[f,εf] at d;simp only[ξ] at d;unfold ja;rw[j];cases x with
 |cells s e q g=>
  cases g with
  |true=>
   simp only[OL.TL,if_true,γ] at b;grind[Hp];|false=>
   right;simp only[OL.TL,ω,if_false,ε] at b;grind[Hp]
 |dead=>
  simp only[OL.TL,γ] at b;subst b;right;exact⟨by simp,_,rfl,d⟩;|map r m g=>
  right;have:∃c,y= .map c m g:=by
   simp only[OL.TL] at b;split at b;·grind
   ·obtain⟨c,_,rfl⟩:=ε.1 b;simp_all
  obtain⟨c,rfl⟩:=this;exact⟨by simp,_,b,d⟩
theorem sS.tr {o2:a_} {p:Nat->Bool} (h:sS o p o2) {id:Nat} (m:ja o p id=false):Tr o σ o2 (ln o p σ) id id:=by
 refine⟨λn e q d c=>?_,λ⟨l,g,d,c⟩=>?_,QA m⟩
 ·rcases h.get id _ c with⟨i,_⟩|⟨_,y,a,b⟩;·simp_all
  ·simp only[OL.TL] at a;split at a;·grind
   ·obtain⟨k,j,rfl⟩:=ε.1 a;grind[Ho]
 ·rcases h.get id _ c with⟨i,_⟩|⟨_,y,a,b⟩;·simp_all
  ·simp only[OL.TL] at a;split at a;·injection a with a;subst a;exact⟨l,g,d,b⟩
   ·obtain⟨f,j,rfl⟩:=ε.1 a;exact⟨f,g,d,b⟩
theorem ux {p:Nat->Bool} {b:Nat} (h:Fr A σ b):Fr A (ln o p σ) b:=⟨λ⟨i,c,a⟩=>h.1 ⟨i,c,(uy a).1⟩,h.2⟩
mutual
theorem nA.TL (E:Q5 A w σ o) {p:Nat->Bool} {o2:a_} (D:sS o p o2):∀(c:AV) (v:Value) (q:AV),c.TL o p=some q->nA A w σ o c v->nA A w (ln o p σ) o2 q v
 | .ud,v,q,d,_=>by grind[AV.TL,nA];| .sc u,v,q,d,h=>by grind[AV.TL,nA];| .sl n s,v,q,d,h=>by
  simp only[AV.TL,γ] at d;subst d;exact nA.bJ (m:=λ_=>none) (λb _ z=>ux z) (λ_ _ h=>by cases h) _ _ _ rfl h;| .ep s B,v,q,d,h=>by
  simp only[AV.TL,γ] at d;subst d;exact nA.bJ (m:=λ_=>none) (λb _ z=>ux z) (λ_ _ h=>by cases h) _ _ _ rfl h;| .agg s,v,q,d,h=>by
  simp only[AV.TL,ε] at d;obtain⟨k,K,rfl⟩:=d;simp only[nA] at h ⊢;obtain⟨F,rfl,Q⟩:=h;exact⟨F,rfl,Aq.TL E D s _ k K Q⟩;| .IL s,v,q,d,h=>by
  simp only[AV.TL,ε] at d;obtain⟨k,K,rfl⟩:=d;simp only[nA] at h ⊢;obtain⟨F,rfl,Q⟩:=h;exact⟨F,rfl,Aq.TL E D s _ k K Q⟩;| .ptr l B G,v,q,d,h=>by
  have H:ja o p l=false/\q= .ptr l B G:=by grind[ja,AV.TL]
  obtain⟨H,rfl⟩:=H;exact nA.bJ (m:=λi=>if i=l then some l else none) (λb _ z=>ux z) (λi j g=>by
   split at g;·rename_i M;injection g with g;subst M;subst g;exact D.tr H
   ·cases g) _ _ _ (by simp[δx]) h;| .mp l,v,q,d,h=>by
  simp only[AV.TL,γ] at d;subst d;have H:ja o p l=false:=by simp only[nA] at h;obtain⟨⟨es,kt,pu,S⟩,_⟩:=h;simp[ja,S]
  exact nA.bJ (m:=λi=>if i=l then some l else none) (λb _ z=>ux z) (λi j g=>by
   split at g;·rename_i M;injection g with g;subst M;subst g;exact D.tr H
   ·cases g) _ _ _ (by simp[δx]) h;| .fn f a b,v,q,d,h=>by
  simp only[AV.TL] at d;split at d
  next a' r K h2=>injection d with d;subst d;simp only[nA] at h ⊢;obtain⟨x,y,rfl,hx,hy⟩:=h;exact⟨x,y,rfl,Aq.TL E D a _ a' K hx,Aq.TL E D b _ r h2 hy⟩
  ·cases d;| .ifc t s,v,q,d,h=>by
  simp only[AV.TL,γ] at d;subst d;exact nA.bJ (m:=λ_=>none) (λb _ z=>ux z) (λ_ _ h=>by cases h) _ _ _ rfl h;| .os l B L G,v,q,d,h=>by
  have a3:ja o p l=false->q= .os l B L G->nA A w (ln o p σ) o2 q v:=by
   rintro H rfl;exact nA.bJ (m:=λi=>if i=l then some l else none) (λb _ z=>ux z) (λi j g=>by
    split at g;·rename_i M;injection g with g;subst M;subst g;exact D.tr H
    ·cases g) _ _ _ (by simp[δx]) h
  simp only[AV.TL] at d;split at d
  ·rename_i hp;split at d
   ·rename_i s e sz pu S;split at d
    ·rename_i V;subst V;split at d
     ·rename_i J;injection d with d;subst d;obtain⟨N,R⟩:=J;have a4:ja o p l=true:=by grind[ja]
      simp only[nA] at h;obtain⟨a6,X,Y,rfl,W,O⟩:=h;have hk:=O sz ⟨s,e,true,S,N⟩;have P:=E.obj l _ S;simp only[cQ] at P;obtain⟨q1,q2,q3⟩:=P;have C:cJ ((s.drop B).take (L*sz))=true:=sA λc d=>pv (q1 trivial) c (γY (γj d));simp only[nA];refine⟨X,Y,rfl,W,C,cF.kC _ _ _ λj c d=>?_⟩;have a0:=pv C c (γh d);rw[δh] at d;split at d
      ·rename_i hj;rw[δz] at d;have a2:0<L:=by grind
       unfold j9 at hk;split at hk;·omega
       ·rename_i b c2 I;rcases q3 with⟨M,_⟩|⟨r,a1,a5,T,_,r3,_,_,Z⟩;·simp_all
        ·rw[I] at T;simp only[γ,ι] at T;obtain⟨rfl,rfl⟩:=T;obtain⟨u,hu,U⟩:=Z _ c d;refine⟨⟨b,B,none⟩,u,(by grind[oA]),⟨?_,E.av l b c2 I⟩,?_,?_⟩
         ·rintro⟨i,c3,hi⟩;obtain⟨k1,k2⟩:=uy hi;have:=E.dist l i b c2 c3 I k1;simp_all
         ·grind[Hy,World.cell?]
         ·exact nA.bJ (m:=λ_=>none) (λb _ z=>ux z) (λ_ _ h=>by cases h) c u c (AV.uz _ c a0) U
       simp_all
      ·cases d
     ·cases d
    grind[ja]
   grind[ja]
  grind[ja]
theorem Aq.TL (E:Q5 A w σ o) {p:Nat->Bool} {o2:a_} (D:sS o p o2):∀(s:List AV) (F:List Value) (k:List AV),gw o p s=some k->Aq A w σ o s F->Aq A w (ln o p σ) o2 k F
 |[],F,k,d,h=>by grind[gw,Aq];|c::s,F,k,d,h=>by
  simp only[gw] at d;split at d
  next c1 Z K b=>injection d with d;subst d;simp only[Aq] at h ⊢;obtain⟨v,r,rfl,a,Q⟩:=h;exact⟨v,r,rfl,nA.TL E D c v c1 K a,Aq.TL E D s r Z b Q⟩
  ·cases d
end
end
section
variable {A:c_} {w:World} {σ:TN} {o:a_}
theorem cQ.TL (r:Q5 A w σ o) {p:Nat->Bool} {o2:a_} (u:sS o p o2) {i:Nat} {x y:OL} (R:o[i]?=some x) (T:ja o p i=false) (f:x.TL o p=some y):cQ A w (ln o p σ) o2 i y:=by
 have h:=r.obj i x R;have q:=QA (σ:=σ) T;cases x with
 |dead=>simp only[OL.TL,γ] at f;subst f;simp only[cQ] at h ⊢;rw[q];exact h;|cells cs e sz pu=>
  simp only[cQ] at h;obtain⟨h1,s,z⟩:=h;have key:∀a,a.length=cs.length->(pu=true->cJ a=true)->dV a=true->(∀(j:Nat) (k:AV) (v:Value),a[j]?=some k->(∀c,cs[j]?=some c->nA A w σ o c v->nA A w (ln o p σ) o2 k v))->cQ A w (ln o p σ) o2 i (.cells a e sz pu):=by
   intro a k1 k2 k3 k4;simp only[cQ];refine⟨k2,k3,?_⟩;rcases z with⟨U,J⟩|⟨b,cap,arr,E,D,C,Q,W,P⟩;·left;rw[q];exact⟨U,ψ (by rw[k1,J];rfl)⟩
   ·refine .inr ⟨b,cap,arr,by rw[q];exact E,D,C,Q,by omega,λj k l=>?_⟩;have t:j<cs.length:=by have:=(θ.1 l).1;omega
    obtain⟨v,S,hr⟩:=P j _ (μ t);exact⟨v,S,k4 j k v l _ (μ t) hr⟩
  simp only[OL.TL] at f;split at f
  next d=>injection f with f;subst f;refine key cs rfl h1 s λj k v l c hc hr=>?_;rw[l] at hc;injection hc with hc;subst hc;exact nA.TL r u k v k (AV.Qw o p k (pv (h1 d) k (γh l))) hr
  ·rename_i d;obtain⟨a,n,rfl⟩:=ε.1 f;obtain⟨g1,g2⟩:=Ho n;refine key a g1 (λH=>absurd H d) (mJ.2 λc hc=>?_) λj k v l c hc hr=>?_
   ·obtain⟨j,l⟩:=γK hc;obtain⟨O,g,m⟩:=g2 j c l;exact aP7 m (mJ.1 s O (γh g))
   ·obtain⟨O,g,m⟩:=g2 j k l;rw[hc] at g;injection g with g;subst g;exact nA.TL r u c v k m hr;|map es X pu=>
  simp only[cQ] at h;obtain⟨h1,s,b,c,en,cl,z,M,I,L⟩:=h;simp only[OL.TL] at f;split at f
  next d=>injection f with f;subst f;simp only[cQ];refine⟨h1,s,b,c,en,cl,by rw[q];exact z,M,I,λj e he=>?_⟩;obtain⟨G,g,m,F⟩:=L j e he;exact⟨G,g,m,nA.TL r u e.2 _ e.2 (AV.Qw o p e.2 (h1 d e (γh he))) F⟩
  ·rename_i d;obtain⟨V,n,rfl⟩:=ε.1 f;obtain⟨g1,g2⟩:=Qy n;simp only[cQ];refine⟨λH=>absurd H d,λe he=>?_,b,c,en,cl,by rw[q];exact z,M,⟨by have:=I.1;omega,I.2⟩,λj N he=>?_⟩
   ·obtain⟨j,l⟩:=γK he;obtain⟨B,g,m,_⟩:=g2 j e l;rw[<-m];exact s B (γh g)
   ·obtain⟨B,g,m,F⟩:=g2 j N he;obtain⟨G,E,D,C⟩:=L j B g;exact⟨G,E,by rw[D,m],nA.TL r u B.2 _ N.2 F C⟩
theorem Q5.TL (e:Q5 A w σ o) {p:Nat->Bool} {o2:a_} (g:sS o p o2):Q5 A w (ln o p σ) o2:=by
 refine⟨by rw[Hr,g.len,e.len],λi j b c d a m=>e.dist i j b c d (uy a).1 (uy m).1,λi b c a=>e.ef i b c (uy a).1,λi y h=>?_,λi b c a=>e.av i b c (uy a).1,e.avb⟩;have a:i<o.length:=by have:=(θ.1 h).1;rw[g.len] at this;exact this
 have l:=μ a;rcases g.get i _ l with⟨k,f⟩|⟨k,z,f,n⟩
 ·rw[h] at f;injection f with f;subst f;simp only[cQ];rw[Hq (by rw[e.len];exact a),k];rfl
 grind[cQ.TL]
theorem Ext.TL {t:World} {k:TN} {h:a_} (a:Ext t k h w σ o) {p:Nat->Bool} {o2:a_} (m:sS o p o2) (B:∀i,i<h.length->p i=false):Ext t k h w (ln o p σ) o2 where
 size:=a.size;blk:=λb u y=>by obtain⟨g,j⟩:=a.blk b u y;exact⟨g,λ⟨i,c,z⟩=>j ⟨i,c,(uy z).1⟩⟩
 len:=by rw[m.len];exact a.len
 cur:=λd q l=>by
  obtain⟨g,j⟩:=a.cur d q l;have r:d<h.length:=by obtain⟨D,e,s,A,x,_⟩:=l;grind
  have n:ja o p d=false:=by grind[ja]
  have f:=m.tr (σ:=σ) n;refine⟨f.vY g,λs v=>?_⟩;rw[f.2.2];exact j s (f.cur g v)
 isMap:=λd l=>by
  obtain⟨g,j⟩:=a.isMap d l;have r:d<h.length:=by obtain⟨C,E,A,x⟩:=l;grind
  have n:ja o p d=false:=by grind[ja]
  have f:=m.tr (σ:=σ) n;exact⟨f.2.1 g,by rw[f.2.2];exact j⟩
 os:=a.os;tape:=a.tape;output:=a.output
end
def pr (o:a_) (d:Nat) (id:Nat) (acc:List Nat):List Nat:=
 if acc.contains id then acc else
 match o[id]? with
 |some (.cells b _ _ a)=>if a then acc++[id] else b_ o d b (acc++[id])
 |some (.map c _ a)=>if a then acc++[id] else b_ o d (c.map (·.2)) (acc++[id])
 |_=>acc++[id]
def uw (o:a_) (d:Nat) (v:AV) (acc:List Nat):List Nat:=
 match v with
 | .agg e| .IL e=>b_ o d e acc
 | .ptr c _ _| .os c _ _ _| .mp c=>pr o d c acc
 | .fn _ a b=>b_ o d b (b_ o d a acc)
 |_=>acc
theorem ym (o:a_) (d:Nat) (v:AV) (vs:List AV) (acc:List Nat):b_ o (d+1) (v::vs) acc=b_ o d vs (uw o d v acc):=by cases v<;>rfl
theorem yl:∀(a:List Nat) (o X:a_),(lu o a X).length=o.length
 |[],o,X=>by cases X<;>rfl;|i::r,o,[]=>rfl
 |i::r,o,x::l=>by simp only[lu];rw[yl r];simp
theorem AL:∀(a:List Nat) (o X:a_) (j:Nat),j∉a->(lu o a X)[j]?=o[j]?
 |[],o,X,j,_=>by cases X<;>rfl;|i::r,o,[],j,_=>rfl
 |i::r,o,x::l,j,h=>by simp only[γl,not_or] at h;simp only[lu];rw[AL r _ l j h.2,δq (θv h.1)]
theorem Hn {m:Nat->Option Nat}:∀{o o':a_},qY m o=some o'->o'.length=o.length
 |[],o',h=>by grind[qY];|x::r,o',h=>by
  simp only[qY] at h;split at h;·rename_i y l b a;injection h with h;subst h;simp[Hn a]
  ·cases h
theorem sx (o:a_):∀(d:Nat) (vs:List AV) (acc:List Nat),∃t,b_ o d vs acc=acc++t
 |0,vs,acc=>⟨[],by grind[b_]⟩
 |d+1,[],acc=>⟨[],by simp[b_]⟩
 |d+1,v::vs,acc=>by
  rw[ym];have e:∀c,∃t,pr o d c acc=acc++t:=by
   intro c;unfold pr;split;·simp_all
   ·split
    ·split;·simp_all
     ·obtain⟨t,h⟩:=sx o d ‹_› (acc++[c]);simp_all
    ·split;·simp_all
     next m _ _ _ _=>obtain⟨t,h⟩:=sx o d (m.map (·.2)) (acc++[c]);simp_all
    simp_all
  have j:∃t,uw o d v acc=acc++t:=by
   cases v with
   |agg g=>exact sx o d g acc;|IL g=>exact sx o d g acc;|ptr c _ _=>exact e c;|os c _ _ _=>exact e c;|mp c=>exact e c;|fn f a b=>
    obtain⟨i,n⟩:=sx o d a acc;obtain⟨l,p⟩:=sx o d b (acc++i);grind[uw];|_=>exact⟨[],by simp[uw]⟩
  obtain⟨t,h⟩:=j;obtain⟨l,k⟩:=sx o d vs (acc++t);simp_all
theorem vW:∀{b:List Nat} {i k j:Nat},idxOf b i k=some j->k<=j/\b[j - k]?=some i
 |[],i,k,j,h=>by grind[idxOf];|a::r,i,k,j,h=>by
  simp only[idxOf] at h;split at h;·simp_all
  ·obtain⟨d,c⟩:=vW h;grind
theorem Bw:∀{l:List Nat},ir.aoV l=true->l.Nodup
 |[],_=>List.nodup_nil
 |a::r,h=>by simp only[ir.aoV,ζ,δf,ζ5,decide_eq_false_iff_not] at h;exact γQ.2 ⟨h.1,Bw h.2⟩
theorem vV {o:a_} {b:List Nat}:∀{r:List Nat} {s:a_},kE o b r=some s->s.length=r.length/\∀(j i:Nat),r[j]?=some i->∃x y,o[i]?=some x/\x.bJ (λj=>idxOf b j)=some y/\s[j]?=some y
 |[],s,h=>by grind[kE];|a::r,s,h=>by
  simp only[kE] at h;split at h
  next x l f c=>obtain⟨y,d,rfl⟩:=ε.1 h;obtain⟨g,e⟩:=vV c;grind
  ·cases h
theorem Bv {m:Nat->Option Nat}:∀{o o':a_},qY m o=some o'->∀(i:Nat) (x:OL),o[i]?=some x->∃y,x.bJ m=some y/\o'[i]?=some y
 |[],o',h,i,x,b=>by simp at b;|a::r,o',h,i,x,b=>by
  simp only[qY] at h;split at h
  ·rename_i y l f c;injection h with h;subst h;cases i with
   |zero=>simp_all;|succ i=>obtain⟨z,e,d⟩:=Bv c i x (by simp_all);simp_all
  ·cases h
theorem Qu {m:Nat->Option Nat} {cs:List AV} {e:TypeId} {sz:Nat} {pu:Bool} {y:OL} (h:(OL.cells cs e sz pu).bJ m=some y):∃a,y= .cells a e sz pu/\a.length=cs.length:=by
 simp only[OL.bJ] at h;split at h;·grind
 ·obtain⟨a,b,rfl⟩:=ε.1 h;grind[Hu]
theorem Qt {m:Nat->Option Nat} {es:List (Value×AV)} {b:List Nat×Bool} {pu:Bool} {y:OL} (h:(OL.map es b pu).bJ m=some y):∃a,y= .map a b pu:=by
 simp only[OL.bJ] at h;split at h;·grind
 ·obtain⟨a,c,rfl⟩:=ε.1 h;simp_all
def ll (σ:TN) (a:List Nat):TN:=a.map λi=>(σ[i]?).getD none
section
variable {A A':c_} {w:World} {σ:TN} {o s:a_} {ids:List Nat}
theorem p8 {j:Nat} {t:Nat×Nat} (h:(ll σ ids)[j]?=some (some t)):∃i,ids[j]?=some i/\σ[i]?=some (some t):=by grind[ll]
theorem H3 (a:σ.length=o.length) (b:kE o ids ids=some s) {j i:Nat} (c:ids[j]?=some i):(ll σ ids)[j]?=σ[i]?:=by obtain⟨_,d⟩:=vV b;grind[ll]
theorem uv (c:σ.length=o.length) (i:kE o ids ids=some s) {id a:Nat} (h:idxOf ids id=some a):Tr o σ s (ll σ ids) id a:=by
 obtain⟨_,f⟩:=vW h;simp only[ε0] at f;obtain⟨_,n⟩:=vV i;obtain⟨x,y,m,l,d⟩:=n a id f;refine⟨λr e q j b=>?_,λ⟨p,k,j,b⟩=>?_,H3 c i f⟩;·grind[Qu]
 ·rw[m] at b;injection b with b;subst b;obtain⟨g,rfl⟩:=Qt l;exact⟨g,k,j,d⟩
theorem Q5.sub [an5 A A'] (f:Q5 A w σ o) (u:ids.Nodup) (n:kE o ids ids=some s) (E:∀b,b<w.heap.size->Fr A σ b->Fr A' (ll σ ids) b)
  (D:∀i∈ids,∀b c,σ[i]?=some (some (b,c))->¬A' b) (g:∀b,A' b->b<w.heap.size):Q5 A' w (ll σ ids) s:=by
 obtain⟨F,B⟩:=vV n;refine⟨by grind[ll],λi j b c d m l=>?_,λi b c m=>?_,λj y C=>?_,λi b c m=>?_,g⟩
 ·obtain⟨x,k,e⟩:=p8 m;obtain⟨z,t,p⟩:=p8 l;have:=f.dist x z b c d e p;subst this;exact(ζA (θ.1 k).1 u).1 (k.trans t.symm)
 ·obtain⟨x,k,e⟩:=p8 m;exact f.ef x b c e
 ·have q:j<ids.length:=by grind
  have l:=μ q;obtain⟨x,H,k,r,a⟩:=B j _ l;rw[C] at a;injection a with a;subst a;exact cQ.bJ E (λG v h=>uv f.len n h) r (H3 f.len n l) (f.obj _ x k)
 grind[p8]
theorem aP8 {o':a_} {U:World} {H:TN} {p:a_} (Z:Q5 A w σ o) (hE:Ext U H p w σ o) {V r:AV} {u:Value} (hr:nA A w σ o V u) (g:lr p.length V o=some (r,o')):
  ∃F,Q5 A w F o'/\nA A w F o' r u/\Ext U H p w F o':=by
 unfold lr at g;split at g
 ·rename_i Y o1 S O;have N:=Qv O;have f:=Z.TL N;have d:=hE.TL N (λi z=>by simp_all);have C:=nA.TL Z N _ _ _ S hr;simp only at g;generalize fo (λi=>decide (p.length<=i)) 0 o1=M at g N f d C;generalize ln o (λi=>decide (p.length<=i)) σ=D at f d C;obtain⟨t,ht⟩:=sx M fp (Y::(M.take p.length).flatMap lr.OL.avs) (Γ p.length);generalize b_ M fp (Y::(M.take p.length).flatMap lr.OL.avs) (Γ p.length)=n at g ht;split at g
  ·rename_i L;split at g
   ·rename_i r2 s2 Q s;simp only[γ,ι] at g;obtain⟨rfl,rfl⟩:=g;have J:∀b,b<w.heap.size->Fr A D b->Fr A (ll D n) b:=λb _ g=>⟨λ⟨i,c,z⟩=>by obtain⟨x,hx,B⟩:=p8 z;exact g.1 ⟨x,c,B⟩,g.2⟩;have K:∀i,i<p.length->n[i]?=some i:=by grind
    have y:∀i,i<p.length->idxOf n i=some i:=by
     intro i z;have T:i∈n:=γh (K i z);have:∃j,idxOf n i=some j:=by
      have a0:∀(l:List Nat) (k:Nat),i∈l->∃j,idxOf l i k=some j:=by
       intro l;induction l with
       |nil=>simp_all;|cons a l ih=>
        intro k h;simp only[idxOf];split;·simp_all
        next P=>refine ih (k+1) ((γl.1 h).resolve_left λq=>P (by simp[q]))
      simp_all
     obtain⟨j,W⟩:=this;obtain⟨_,q⟩:=vW W;simp only[ε0] at q;have:=(ζA (θ.1 q).1 (Bw L)).1 (q.trans (K i z).symm);rw[W,this]
    refine⟨ll D n,f.sub (Bw L) s J (λi _ b c h=>f.av i b c h) f.avb,nA.bJ J (λv a1 h=>uv f.len s h) _ _ _ Q C,d.size,λb hb hn=>?_,?_,λv R I=>?_,λv I=>?_,d.os,d.tape,d.output⟩
    ·obtain⟨G,q⟩:=d.blk b hb hn;refine⟨G,λ⟨i,c,z⟩=>?_⟩;obtain⟨x,hx,B⟩:=p8 z;exact q ⟨x,c,B⟩
    ·grind[vV]
    ·obtain⟨G,q⟩:=d.cur v R I;have E:v<p.length:=by obtain⟨cs,e,X,pu,ho,_⟩:=I;grind
     have m:=uv f.len s (y v E);refine⟨m.vY G,λX hc=>?_⟩;rw[m.2.2];exact q X (m.cur G hc)
    ·obtain⟨G,q⟩:=d.isMap v I;have E:v<p.length:=by obtain⟨es,kt,pu,ho⟩:=I;grind
     have m:=uv f.len s (y v E);exact⟨m.2.1 G,by rw[m.2.2];exact q⟩
   ·cases g
  ·cases g
 ·cases g
end
theorem Qs:∀(b:List Nat) (o X:a_) (j i:Nat) (x:OL),b.Nodup->b[j]?=some i->i<o.length->X[j]?=some x->(lu o b X)[i]?=some x
 |[],o,X,j,i,x,_,c,_,_=>by simp at c;|a::r,o,[],j,i,x,_,_,_,d=>by simp at d;|a::r,o,y::l,j,i,x,e,c,f,d=>by
  rw[γQ] at e;simp only[lu];cases j with
  |zero=>
   grind[AL];|succ j=>
   simp only[γR] at c d;exact Qs r _ l j i x e.2 c (by simp_all) d
theorem H2 {i:Nat}:∀{l:List Nat} {k:Nat},i∈l->∃j,idxOf l i k=some j
 |[],k,h=>by simp at h;|a::l,k,h=>by
  simp only[idxOf];split;·simp_all
  next b=>exact H2 ((γl.1 h).resolve_left λc=>b (by simp[c]))
def oM (σ b:TN) (a:List Nat):TN:=
 ((Γ σ.length).map λi=>match idxOf a i with|some j=>(b[j]?).getD none|none=>(σ[i]?).getD none)++b.drop a.length
section
variable {A:c_} {w:World} {σ:TN} {o:a_}
theorem aP9 {P:Program} {call:cz} (a9:oN P call) (v:Q5 A w σ o) {f:FuncId} {args:List AV} {vs:List Value} (hr:Aq A w σ o args vs)
  {r:AV} {o':a_} (J:ir call f args o=some (r,o')):
  gv P f=true/\Calls P f vs.toArray w λe w'=>∃u g,e= .returned u/\Q5 A w' g o'/\nA A w' g o' r u/\Ext w σ o w' g o':=by
 unfold ir at J;simp only at J;generalize b_ o fp args []=a at J;split at J
 ·rename_i U T ha I;split at J
  ·rename_i r1 n c1;split at J;·cases J
   ·rename_i Q;simp only[not_or,Bool.not_eq_false,Nat.not_lt] at Q;obtain⟨d2,a1⟩:=Q;have a1:=Bw a1;split at J
    ·rename_i r2 b9 c0 S;simp only[γ,ι] at J;obtain⟨rfl,d3⟩:=J;obtain⟨hg,c2,_⟩:=a9 _ _ _ _ _ _ c1;refine⟨hg,?_⟩;have d0:=vV I;have b2:∀(j i:Nat),a[j]?=some i->i<o.length:=λj i m=>by grind
     have d4:=λ{j i:Nat} (m:a[j]?=some i)=>H3 v.len I m;obtain⟨N,s,a5⟩:∃N:c_,(∀b,N b↔(A b\/(Own σ b/\¬Own (ll σ a) b)))/\N.l=A.l:=⟨⟨λb=>A b\/(Own σ b/\¬Own (ll σ a) b),A.l⟩,λb=>Iff.rfl,rfl⟩;haveI:an5 A N:=⟨a5⟩;haveI:an5 N A:=⟨a5.symm⟩;have b4:∀b,b<w.heap.size->Fr A σ b->Fr N (ll σ a) b:=λb _ hf=>⟨λ⟨i,c,p⟩=>by
      obtain⟨x,hx,G⟩:=p8 p;exact hf.1 ⟨x,c,G⟩,λh=>((s b).1 h).elim hf.2 λh=>hf.1 h.1⟩;have c6:Q5 N w (ll σ a) T:=v.sub a1 I b4 (λi p b c h hA=>by
      rcases(s b).1 hA with q|⟨_,q⟩;·exact v.av i b c h q
      ·obtain⟨j,m⟩:=γK p;exact q ⟨j,c,by simp_all⟩) (λb h=>((s b).1 h).elim (v.avb b) λ⟨⟨i,c,p⟩,_⟩=>v.ef i b c p);have b1:Aq N w (ll σ a) T U vs:=Aq.bJ b4 (λD d6 h=>uv v.len I h) args vs U ha hr;refine(c2 N w _ vs c6 b1).mono ?_;rintro e w' ⟨u,g,rfl,C,c7,X⟩;have d5:=Hn S;have hN:=v.len;have b7:(oM σ g a).length=o.length+(n.length - a.length):=by simp[oM,hN,C.len]
     have a7:o'.length=o.length+(n.length - a.length):=by grind[yl]
     have a8:∀i,i<o.length->idxOf a i=none->(oM σ g a)[i]?=σ[i]?/\o'[i]?=o[i]?/\i∉a:=by
      intro i p hn;have d1:i∉a:=λh=>by obtain⟨j,m⟩:=H2 (k:=0) h;simp_all
      grind[oM,AL]
     have b6:∀j t,nC a o.length j=some t->(oM σ g a)[t]?=g[j]?/\o'[t]?=b9[j]?:=by
      intro j t m;unfold nC at m;split at m
      ·rename_i i K;injection m with m;subst m;have p:=b2 j i K;have c3:j<a.length:=(θ.1 K).1;obtain⟨j2,E⟩:=H2 (k:=0) (γh K);have B:=(vW E).2;simp only[ε0] at B;have:=(ζA (θ.1 B).1 a1).1 (B.trans K.symm);subst this;constructor
       ·unfold oM;rw[γ9 (by simp;omega)];have:j2<g.length:=by rw[C.len];omega
        simp_all
       grind[Qs]
      ·rename_i K;injection m with m;subst m;have c3:=List.getElem?_eq_none_iff.1 K;constructor
       ·unfold oM;rw[ζe (by simp;omega)];simp_all
       grind
     have b8:∀i,i<o'.length->(∃j,j<n.length/\nC a o.length j=some i)\/(i<o.length/\idxOf a i=none):=by
      intro i p;rw[a7] at p;rcases ζm i o.length with q|q;·cases hq:idxOf a i with
       |none=>exact .inr ⟨q,rfl⟩;|some j=>
        left;have B:=(vW hq).2;simp only[ε0] at B;have:=(θ.1 B).1;exact⟨j,by omega,by simp[nC,B]⟩
      grind[nC]
     have F:∀i b c,i<o.length->idxOf a i=none->σ[i]?=some (some (b,c))->N b:=by intro i b c p hn hs;refine(s b).2 (.inr ⟨⟨i,c,hs⟩,?_⟩);rintro⟨j,d,m⟩;obtain⟨x,hx,G⟩:=p8 m;have:=v.dist i x b c d hs G;grind
     have L:∀i b c,(oM σ g a)[i]?=some (some (b,c))->(∃j,nC a o.length j=some i/\g[j]?=some (some (b,c)))\/(i<o.length/\idxOf a i=none/\σ[i]?=some (some (b,c))):=by grind
     have a3:∀j t,nC a o.length j=some t->Tr n g o' (oM σ g a) j t:=by
      intro j t m;obtain⟨Y,W⟩:=b6 j t m;refine⟨λcs e sz Z ho=>?_,λ⟨es,kt,Z,ho⟩=>?_,Y⟩;·grind[Bv,Qu]
      ·obtain⟨y,hy,c5⟩:=Bv S j _ ho;obtain⟨c8,rfl⟩:=Qt hy;exact⟨c8,kt,Z,by rw[W];exact c5⟩
     have a6:∀b,b<w'.heap.size->Fr N g b->Fr A (oM σ g a) b:=by
      intro b _ hf;refine⟨?_,λh=>hf.2 ((s b).2 (.inl h))⟩;rintro⟨i,c,p⟩;rcases L i b c p with⟨j,_,m⟩|⟨q,H,M⟩;·exact hf.1 ⟨j,c,m⟩
      ·exact hf.2 (F i b c q H M)
     have a0:∀i b c,i<o.length->idxOf a i=none->σ[i]?=some (some (b,c))->¬Own (ll σ a) b:=by rintro i b c p hn hs ⟨j,d,m⟩;obtain⟨x,hx,G⟩:=p8 m;have:=v.dist i x b c d hs G;grind
     have R:∀b,Own (ll σ a) b->Own σ b:=λb ⟨i,c,p⟩=>by obtain⟨x,hx,G⟩:=p8 p;exact⟨x,c,G⟩
     have O:∀D,D<o.length->∀j,idxOf a D=some j->nC a o.length j=some D:=by intro D _ j m;have B:=(vW m).2;grind[nC]
     have b5:Ext w σ o w' (oM σ g a) o':=by
      refine⟨X.size,λb hb hn=>?_,by omega,λD c4 a2=>?_,λD hm=>?_,X.os,X.tape,X.output⟩
      ·obtain⟨q,H⟩:=X.blk b hb λh=>hn (R b h);refine⟨q,?_⟩;rintro⟨i,c,p⟩;rcases L i b c p with⟨j,_,m⟩|⟨_,_,M⟩;·exact H ⟨j,c,m⟩
       ·exact hn ⟨i,c,M⟩
      ·have V:D<o.length:=by obtain⟨cs,e,sz,Z,ho,_⟩:=a2;grind
       cases hq:idxOf a D with
       |none=>
        obtain⟨l1,l2,_⟩:=a8 D V hq;refine⟨?_,λsz b0=>⟨?_,l1⟩⟩
        ·obtain⟨cs,e,sz,Z,ho,hl⟩:=a2;exact⟨cs,e,sz,Z,by grind,hl⟩
        ·obtain⟨cs,e,Z,ho,hl⟩:=b0;exact⟨cs,e,Z,by grind,hl⟩;|some j=>
        have Y:=uv v.len I hq;have W:=a3 j D (O D V j hq);obtain⟨q,H⟩:=X.cur j c4 (Y.vY a2);refine⟨W.vY q,λsz b0=>?_⟩;obtain⟨M,h4⟩:=H sz (W.cur q b0);exact⟨Y.cur a2 M,by rw[W.2.2,h4,Y.2.2]⟩
      ·have V:D<o.length:=by obtain⟨es,kt,Z,ho⟩:=hm;grind
       cases hq:idxOf a D with
       |none=>
        obtain⟨l1,l2,_⟩:=a8 D V hq;obtain⟨es,kt,Z,ho⟩:=hm;exact⟨⟨es,kt,Z,by grind⟩,l1⟩;|some j=>
        have Y:=uv v.len I hq;have W:=a3 j D (O D V j hq);obtain⟨q,H⟩:=X.isMap j (Y.2.1 hm);exact⟨W.2.1 q,by rw[W.2.2,H,Y.2.2]⟩
     refine⟨u,oM σ g a,rfl,⟨by omega,λi k b c d p hk=>?_,λi b c p=>?_,λi y hy=>?_,λi b c p=>?_,λb hb=>γw (v.avb b hb) X.size⟩,nA.bJ a6 a3 _ _ _ c0 c7,b5⟩
     ·rcases L i b c p with⟨j,m,E⟩|⟨q,H,M⟩<;>rcases L k b d hk with⟨l,hl,b3⟩|⟨g1,g2,g3⟩
      ·have:=C.dist j l b c d E b3;grind
      ·exact absurd (F k b d g1 g2 g3) (C.av j b c E)
      ·exact absurd (F i b c q H M) (C.av l b d b3)
      ·exact v.dist i k b c d M g3
     ·rcases L i b c p with⟨j,m,E⟩|⟨q,H,M⟩;·exact C.ef j b c E
      ·exact γw (v.ef i b c M) X.size
     ·rcases b8 i (θ.1 hy).1 with⟨j,c9,m⟩|⟨q,H⟩
      ·have hx:=μ c9;obtain⟨z,hz,a4⟩:=Bv S j _ hx;obtain⟨Y,W⟩:=b6 j i m;rw[<-W,hy] at a4;injection a4 with a4;subst a4;exact cQ.bJ a6 a3 hz Y (C.obj j _ hx)
      ·obtain⟨l1,l2,_⟩:=a8 i q H;rw[l2] at hy;exact(v.obj i y hy).ext b5 l1 λb c hb=>(X.blk b (v.ef i b c hb) (a0 i b c q H hb)).1
     ·rcases L i b c p with⟨j,m,E⟩|⟨q,H,M⟩;·exact λh=>C.av j b c E ((s b).2 (.inl h))
      ·exact v.av i b c M
    ·cases J
  ·cases J
 ·cases J
end
section
variable {P:Program} {A:c_} {D:List Deferred} {w w':World} {σ σ':TN} {o o':a_}
theorem Z5 {call:cz} (b:oN P call) (d:Q5 A w σ o) {f:FuncId} {args:List AV} {vs:List Value} (g:Aq A w σ o args vs) {own:Bool} {r:AV} (c:gn call f args o own=some (r,o')):
  gv P f=true/\Calls P f vs.toArray w λe w'=>∃u a,e= .returned u/\Q5 A w' a o'/\nA A w' a o' r u/\Ext w σ o w' a o':=by grind[gn,aP9,aP6]
theorem Bu {f:FuncId} (b:gv P f=true) (args:Array Value) (w:World):(callFunc f args).run P w= .ok (.enter f args) w:=by
 unfold gv at b;cases c:P.funcs[f]? with
 |none=>simp_all;|some a=>
  simp only[c,Option.any_some,ζ,δf] at b;have d:a.body.isNone=false:=by simp_all
  have e:¬a.name= "runtime.NumGoroutine" :=by simp_all
  have g:¬a.body=none:=by grind
  simp_all[callFunc]
theorem Z4 {name:String} {t:TypeId} {f:FuncId} (h:A4 P name t=some f) (v:Value) (w:World) (n:Nat):(method (n+1) t v name).run P w= .ok (f,v) w:=by
 unfold A4 at h;split at h
 ·rename_i fs i hu hi;split at h
  ·rename_i m hm;split at h
   next g a b=>injection h with h;subst h;simp[method,typeInfo,hi,hm,a,b,follow,receiverAt,run_underlying hu,Place.get]
   ·cases h
  ·cases h
 ·cases h
theorem H1 {name:String} {t:TypeId} {f:FuncId}:∀{n:Nat},ui (wj P name n) t=some f->A4 P name t=some f
 |0,h=>by simp[wj,ui] at h;|n+1,h=>by
  simp only[wj] at h;split at h
  ·rename_i g b;simp only[ui] at h;cases a:Nat.beq n t with
   |true=>
    rw[a] at h;simp only[cond_true,γ] at h;subst h;rw[<-Nat.eq_of_beq_eq_true a];exact b;|false=>
    rw[a] at h;exact H1 h
  ·exact H1 h
theorem Z3 {fl:Bool} {a:Oper} {b:bT} (e:oB P fl a=some b) (h:b.oO=true):
  ∃c:Call,a.op= .call c/\((∃f,c.callee= .value (.func f)/\b= .call f c.args.toList fl)\/(∃x,c.callee= .value x/\b= .ale x c.args.toList fl)\/∃x d,c.callee= .invoke x d/\b= .aov (Q2 P d) x c.args.toList):=by
 cases g:a.op;case call c=>
  refine⟨c,rfl,?_⟩;simp only[oB,g] at e;grind[bT.oO]
 case buildSlice=>
  grind[oB,bT.oO]
 case slice t x k i j=>
  grind[oB,bT.oO]
 case makeMap t r=>
  grind[oB,bT.oO]
 all_goals
  exfalso;simp only[oB,g,reduceCtorEq] at e;try (repeat' (split at e))<;>first
   |(cases e;done);|(injection e with e;subst e;simp[bT.oO] at h;done);|(obtain⟨_,_,rfl⟩:=ε.1 e;simp[bT.oO] at h;done)
def FR (rnd:Option Nat):Fence:={Fence.wide with round:=rnd}
theorem Z2 {rnd:Option Nat} {n:Nat} {f:FuncId} {args:Array Value} {R:Ending->World->Prop} (h:Calls P f args w R):CallsIn (FR rnd) n P f args w R:=
 (callsIn_wide (n:=n)).2 h
theorem Z1 {fl:Bool} {a:Oper} {b:bT} (d:oB P fl a=some b) (c:Call):a.op≠ .defer c:=by grind[oB]
theorem Z0 {call:cz} (D:oN P call) {fl:Bool} {b:Oper} {C:bT} (O:oB P fl b=some C) (W:Q5 A w σ o) {p:Operand->AV} {a:Act} (n:∀x,nA A w σ o (p x) (a.eval x)) {qE:Nat} {v:AV}
  (i:qA call C p o qE=some (v,o')) {m:Act->World->Prop} {Q:Exit->Act->World->Prop}
  (V:∀u w' z,Q5 A w' z o'->nA A w' z o' v u->Ext w σ o w' z o'->m (a.put b.dst u) w') {rnd:Option Nat}:b.wpIn (FR rnd) 0 P a w m Q:=by
 have r:b.semAt (FR rnd).round a.eval=execOp a.eval b:=Oper.semAt_eq _ _ _ (Z1 O);by_cases R:C.oO=false
 ·obtain⟨u,Z,G,e,q,X,Y⟩:=aP0 O R W n i;unfold Oper.wpIn;rw[r];refine⟨λ_ _=>trivial,?_⟩;rcases e with e|⟨e,rfl⟩
  ·rw[e];exact V u Z G q X Y
  ·rw[e];exact V undef Z G q X Y
 ·
  have E:∀(f:FuncId) (l:List AV) (k:List Value) (F:Bool),Aq A w σ o l k->gn call f l o F=some (v,o')->
    (gv P f=true->(execOp a.eval b).run P w= .ok (.enter f k.toArray) w)->b.wpIn (FR rnd) 0 P a w m Q:=by intro f l k F L M J;obtain⟨s,I⟩:=Z5 D W L M;unfold Oper.wpIn;rw[r,J s];refine⟨λ_ _=>trivial,λh=>by grind[FR,Fence.wide],(Z2 I).mono ?_⟩;grind
  obtain⟨c,y,hh⟩:=Z3 O (by simp_all);rw[y4] at i;rcases hh with⟨f,d,rfl⟩|⟨x,d,rfl⟩|⟨x,H,d,rfl⟩
  ·simp only[M9] at i;refine E f (c.args.toList.map p) (c.args.toList.map a.eval) fl (ua n _) i λs=>?_;simp only[execOp,y,resolve,d];simp[Act.eval,Deferred.ofValue,invoke,Bu s];grind
  ·simp only[M9] at i;split at i
   next g B j K=>have q:=n x;rw[K] at q;simp only[nA] at q;obtain⟨f',c',S,N,T⟩:=q;refine E g (B++c.args.toList.map p++j) (f'.toList++c.args.toList.map a.eval++c'.toList) fl (Aq.append (Aq.append N (ua n _)) T) i λs=>?_;simp only[execOp,y,resolve,d];simp[S,CP,Deferred.ofValue,invoke,Bu s]
   ·cases i
  ·simp only[M9] at i;split at i
   ·rename_i t cs K;split at i
    ·rename_i f N;have q:=n x;rw[K] at q;simp only[nA] at q;obtain⟨k,S,_,hl⟩:=q;have L:Aq A w σ o (.agg cs::c.args.toList.map p) (.agg k::c.args.toList.map a.eval):=by grind[Aq,nA,ua]
     refine E f _ _ false L i λs=>?_;have hm:(method (P.types.size+Made.depth) t (.agg k) H).run P w= .ok (f,.agg k) w:=Z4 (H1 N) (.agg k) w (P.types.size+99);have hz:(#[Value.iface t (.agg k)]++Array.map a.eval c.args)[0]?=some (Value.iface t (.agg k)):=by grind
     have U:#[Value.agg k]++(Array.map a.eval c.args).extract 0 c.args.size=(Value.agg k::List.map a.eval c.args.toList).toArray:=εq (by simp;exact List.take_of_length_le (by simp));simp only[execOp,y,resolve,d,S];simp[invoke,hz,callMethod,hm,Bu s,U]
    ·cases i
   ·cases i
def sQ (b w:World) (a:List Deferred):Prop:=
 a.Pairwise (λd e=>d.target≠e.target)/\∀d∈a,∃r,d={target:=.collected r,args:=#[]}/\b.heap.size<=r/\w.heap[r]?=some (.deferred (some []))
theorem Q5.H0 (d:Q5 A w σ o) {r:Nat} {x:Obj} (h:w.heap[r]?=some x) (g:∀a b c,x≠ .cells a b c) (l:∀a b,x≠ .map a b):¬Own σ r:=by
 rintro⟨i,c,k⟩;have f:i<o.length:=by rw[<-d.len];grind
 have e:=d.obj i _ (μ f);cases j:o[i]<;>grind[cQ,ι]
theorem sQ.ext {c:World} {b:List Deferred} (h:sQ c w b) (e:Q5 A w σ o) (i:Ext w σ o w' σ' o'):sQ c w' b:=
 ⟨h.1,λd g=>by obtain⟨r,j,f,a⟩:=h.2 d g;exact⟨r,j,f,by rw[(i.blk r (γB.1 a).1 (e.H0 a (by simp) (by simp))).1];exact a⟩⟩
def Cz (D:List Deferred) (b w:World) (c:List Deferred):Prop:=∃a,c=a++D/\sQ b w a
theorem Cz.ext {b:World} {D a:List Deferred} (h:Cz D b w a) (c:Q5 A w σ o) (f:Ext w σ o w' σ' o'):Cz D b w' a:=by obtain⟨d,g,e⟩:=h;exact⟨d,g,e.ext c f⟩
structure cm (A:c_) (nt:Nat) (D:List Deferred) (w0:World) (σ0:TN) (o0:a_) (st:St) (a:Act) (w:World) (σ:TN):Prop where
 sim:Q5 A w σ st.o
 env:∀s,nA A w σ st.o (cX st.env s) (a.tmps.getD s undef)
 size:a.tmps.size=nt
 defers:Cz D w0 w a.defers
 ext:Ext w0 σ0 o0 w σ st.o
theorem ZZ (v:Value):nA A w σ o (.uk v) v:=by
 cases v<;>simp only[AV.uk]<;>try (simp[nA,Value.oneCell'];done)
 grind[nA,uc]
theorem cm.ev {d:Nat} {e:World} {b:TN} {c:a_} {st:St} {a:Act} (h:cm A d D e b c st a w σ) (x:Operand):nA A w σ st.o (dS st.env x) (a.eval x):=by
 cases x with
 |tmp t=>exact h.env t;|const v=>exact ZZ v;|global g=>simp[dS,nA];|func f=>simp only[dS,Act.eval,nA];exact⟨#[],#[],rfl,by simp[Aq],by simp[Aq]⟩
theorem ZY {a:Act} {b:Option Tmp} {u:Value} {c:Nat} (f:a.tmps.size=c) (e:A3 c b=true) (s:Nat):
  (a.put b u).tmps.getD s undef=if b=some s then u else a.tmps.getD s undef:=by
 cases b with
 |none=>simp[Act.put];|some d=>
  simp only[A3,decide_eq_true_eq] at e;simp only[Act.put,γ];by_cases h:d=s<;>simp_all
theorem Qr (a:Act) (b:Option Tmp) (u:Value):(a.put b u).tmps.size=a.tmps.size/\(a.put b u).defers=a.defers:=by cases b<;>simp[Act.put]
theorem uu (env:jk) (a:Option Nat) (v:AV) (s:Nat):cX (nG env a v) s=if a=some s then v else cX env s:=by
 cases a with
 |none=>simp[nG];|some d=>
  simp_all[nG,cX]
theorem cm.put {e:Nat} {g:World} {c:TN} {f:a_} {st:St} {a:Act} (h:cm A e D g c f st a w σ) (k:Q5 A w' σ' o') (d:Ext w σ st.o w' σ' o') {b:Option Tmp} (i:A3 e b=true) {v:AV} {u:Value} (j:nA A w' σ' o' v u):
  cm A e D g c f ⟨nG st.env b v,o'⟩ (a.put b u) w' σ' where
 sim:=k;env:=λs=>by
  simp only[uu,ZY h.size i];split;·exact j
  ·exact(h.env s).ext d
 size:=by rw[(Qr _ _ _).1];exact h.size
 defers:=by rw[(Qr _ _ _).2];exact h.defers.ext h.sim d
 ext:=h.ext.trans d
theorem QY {x:Nat} {v:World} {l:TN} {p:a_} {st:St} {a:Act} (h:cm A x D v l p st a w σ) {f:Array Oper} {d:Oper} {b:Bool}
  (e:lY st.env (d.guard.map λg=>(((f[g.1]?).bind (·.dst)),g.2))=some b):Region.wanted d (yielded f a.tmps)=b:=by
 unfold Region.wanted;cases u:d.guard with
 |none=>grind[lY];|some g=>
  obtain⟨j,q⟩:=g;simp only[u,ξ,lY] at e;cases n:(f[j]?).bind (·.dst) with
  |none=>simp_all;|some s=>
   simp only[n] at e;have i:=h.env s;simp only[yielded,n,δT];split at e
   ·rename_i c m;injection e with e;rw[m] at i;have k:=f_ i;have o:a.tmps[s]?=some (.bool c):=by rw[εg] at k;grind[undef]
    simp_all
   ·rename_i m;injection e with e;rw[m] at i;simp only[nA,Aq] at i;obtain⟨r,k,o⟩:=i;have t:r=#[]:=εq (by omega);subst t;have o:a.tmps[s]?=some (.tuple #[])\/a.tmps[s]?=none:=by rw[εg] at k;grind
    grind
   ·cases e
theorem QX {call:cz} (e:oN P call) {j:Nat} {fl:List Nat} {c:Array Oper} {qE k:Nat} {i:cM} (f:qa P j fl c qE k=some i) {base:Nat} {st st':St} (b:gM call base i st=some st')
  {t:World} {g:TN} {p:a_} {a:Act} (h:cm A j D t g p st a w σ) {K:Act->World->Prop} {Q:Exit->Act->World->Prop} (o:∀s w' d,cm A j D t g p st' s w' d->K s w') {rnd:Option Nat}:wpOpIn (FR rnd) 0 P c Q k K a w:=by
 unfold qa at f;cases q:c[k]? with
 |none=>simp_all;|some n=>
  simp only[q] at f;split at f
  ·rename_i r;obtain⟨E,l,rfl⟩:=ε.1 f;unfold wpOpIn;simp only[q];simp only[gM] at b;split at b;·cases b
   next m=>have:=QY h m;rw[this];injection b with b;subst b;simp only[ω,if_false];exact⟨λ_ _=>trivial,o _ _ σ (h.put h.sim (Ext.refl _ _ _) r (by simp only[nA];exact⟨#[],rfl,by simp[Aq]⟩))⟩
   ·rename_i m;have:=QY h m;rw[this];simp only[if_true];split at b
    next v C z=>injection b with b;subst b;exact Z0 e l h.sim h.ev z λu w' d B x y=>o _ _ d (h.put B y r x)
    ·cases b
  ·cases f
theorem QW {call:cz} (c:oN P call) {o:Nat} {fl:List Nat} {f:Array Oper} {base:Nat} {u:World} {g:TN} {s:a_} {Q:Exit->Act->World->Prop} {rnd:Option Nat}:
  ∀(l:List cM) (b:List Nat),l.length=b.length->(∀(j:Nat) (i:cM) (k:Nat),l[j]?=some i->b[j]?=some k->∃qE,qa P o fl f qE k=some i)->∀(st st':St) (a:Act) (w:World) (σ:TN),
   fN call base l st=some st'->cm A o D u g s st a w σ->(∀m w' d,cm A o D u g s st' m w' d->Q .normal m w')->wpOpsIn (FR rnd) 0 P f Q b a w
 |[],[],_,_,st,st',a,w,σ,e,h,p=>by
  simp only[fN,γ] at e;subst e;exact p a w σ h;|[],_::_,n,_,_,_,_,_,_,_,_,_=>by simp at n;|_::_,[],n,_,_,_,_,_,_,_,_,_=>by simp at n;|i::l,k::b,n,t,st,st',a,w,σ,e,h,p=>by
  simp only[fN] at e;split at e
  next q v=>obtain⟨qE,r⟩:=t 0 i k (by simp) (by simp);rw[wpOpsIn_cons];exact QX c r v h λm w' d y=>QW c l b (by simp_all) (λj z x C B=>t (j+1) z x (by simp_all) (by simp_all)) q st' m w' d e y p
  ·cases e
theorem HZ {d:Nat} {fl:List Nat} {b:Array Oper}:∀{k:Nat} {a:List Nat} {l:List cM} {n:Nat},ug P d fl b k a=some (l,n)->
  l.length=a.length/\(∀(j:Nat) (i:cM) (q:Nat),l[j]?=some i->a[j]?=some q->∃qE,qa P d fl b qE q=some i)
 |k,[],l,n,h=>by grind[ug];|k,i::r,l,n,h=>by
  simp only[ug] at h;split at h;·cases h
  ·rename_i x o;split at h;·cases h
   next g m c=>simp only[γ,ι] at h;obtain⟨rfl,_⟩:=h;obtain⟨e,f⟩:=HZ c;grind
end
section
variable {call:cz} {ρ ρ2:Operand->AV} {qE:Nat}
theorem QV {a:bT} (d:a.bt=0) (o o2:a_):M9 call a ρ o2 qE=(M9 call a ρ o qE).map λp=>(p.1,o2):=by
 cases a<;>try (simp[bT.bt] at d;done)
 case call f c b=>cases b<;>simp[bT.bt] at d
 case ale f c b=>cases b<;>simp[bT.bt] at d
 all_goals simp only[M9]
 all_goals (repeat' split)<;>simp_all [ζu,δg]
theorem ZX {a:bT} (b:a.bt=0) {o o':a_} {v:AV} (h:M9 call a ρ o qE=some (v,o')):o'=o:=by grind[QV]
theorem ZW {o o2:a_} {a:AV} (h:∀j∈eJ a,o2[j]?=o[j]?):behind o2 a=behind o a:=by cases a<;>simp only[behind];grind[eJ]
theorem ZV {o o2:a_} {sz:Nat} {a:AV} (h:∀j∈eJ a,o2[j]?=o[j]?):me o2 sz a=me o sz a:=by
 cases a with
 |os e d b c=>grind[me,eJ];|sc v=>unfold me;grind;|_=>rfl
theorem ZU {o o2:a_} {sz:Nat} {a:AV} {i:Int} (h:∀j∈eJ a,o2[j]?=o[j]?):o7 o2 sz a i=o7 o sz a i:=by cases a<;>simp only[o7];grind[eJ]
theorem ZT {o o2:a_} {sz:Nat} {a:AV} {lo b:Option AV} (h:∀j∈eJ a,o2[j]?=o[j]?):oZ o2 sz a lo b=oZ o sz a lo b:=by
 cases a with
 |os f e c d=>grind[oZ,eJ];|sc v=>unfold oZ;grind;|_=>rfl
theorem ZS {o o2:a_} {sz:Nat} {a:AV} {lo:Option AV} {b mx:AV} (h:∀j∈eJ a,o2[j]?=o[j]?):qZ o2 sz a lo b mx=qZ o sz a lo b mx:=by cases a<;>grind[id,qZ,eJ]
theorem ZR {o o2:a_} {k:Nat} {a:AV} (h:∀j∈eJ a,o2[j]?=o[j]?):kN o2 k a=kN o k a:=by
 cases a with
 |mp b=>
  match k with
  |0=>rfl;|1=>rfl;|2=>grind[kN,eJ];|_+3=>rfl
 |_=>unfold kN;split<;>first|rfl|(simp_all;done)
theorem vU {c e:Type} {f g:c->List e}:∀{l:List c},(∀a∈l,f a=g a)->l.flatMap f=l.flatMap g
 |[],_=>rfl
 |a::l,h=>by simp only[List.flatMap_cons];rw[h a (by simp),vU λb d=>h b (by simp[d])]
theorem vT {c e:Type} {f g:c->Option e}:∀{l:List c},(∀a∈l,f a=g a)->l.mapM f=l.mapM g
 |[],_=>rfl
 |a::l,h=>by rw[εY,εY,h a (by simp),vT λb d=>h b (by simp[d])]
theorem vS {o o2:a_}:∀(d:Nat) (a:AV),(∀j∈eK o d a,o2[j]?=o[j]?)->freeze o2 d a=freeze o d a/\eK o2 d a=eK o d a
 |0,a,_=>by cases a<;>simp[freeze,eK];|d+1,a,h=>by
  cases a with
  |agg i=>
   simp only[eK,δC,forall_exists_index,and_imp] at h;have l:=λc g=>vS d c (λj b=>h j c g b);grind[freeze,eK,vT,vU];|IL i=>
   simp only[eK,δC,forall_exists_index,and_imp] at h;have l:=λc g=>vS d c (λj b=>h j c g b);grind[freeze,eK,vT,vU];|fn f x y=>
   simp only[eK,γo,δC] at h;have v:=λc g=>vS d c (λj b=>h j (.inl ⟨c,g,b⟩));have z:=λc g=>vS d c (λj b=>h j (.inr ⟨c,g,b⟩));grind[freeze,eK,vT,vU];|os k q s n=>
   have r:=h k (by simp[eK]);simp only[freeze,eK];rw[r];cases p:o[k]? with
   |none=>simp_all;|some x=>
    cases x with
    |dead=>simp_all;|map w t m=>simp_all;|cells i e u m=>
     cases m with
     |true=>simp_all;|false=>
      simp only[eK,p,γl,ω,if_false,δC] at h;have l:=λc g=>vS d c (λj b=>h j (.inr ⟨c,g,b⟩));simp_all[vT,vU]
  |_=>simp[freeze,eK]
theorem yk {f:FuncId} {args:List AV} {o o2:a_} (h:∀j∈args.flatMap (eK o 6),o2[j]?=o[j]?):
  gn call f args o2 false=(gn call f args o false).map (λp=>(p.1,o2))/\args.flatMap (eK o2 6)=args.flatMap (eK o 6):=by simp only[δC,forall_exists_index,and_imp] at h;have d:=λc a=>vS 6 c (λj e=>h j c a e);have b:args.flatMap (eK o2 6)=args.flatMap (eK o 6):=vU λc a=>(d c a).2;refine⟨?_,b⟩;unfold gn;rw[if_neg (by simp),if_neg (by simp),b,vT λc a=>(d c a).1];grind
theorem HY {b:bT} (w:b.bt=1) {o o2:a_} (h:∀j∈dj b ρ o qE,o2[j]?=o[j]?):
  M9 call b ρ o2 qE=(M9 call b ρ o qE).map (λp=>(p.1,o2))/\dj b ρ o2 qE=dj b ρ o qE:=by
 cases b<;>try (simp[bT.bt] at w;done)
 case load n a=>
  simp only[M9,dj] at h ⊢;rw[ZW h];refine⟨?_,trivial⟩;split<;>simp[ζu,δg]
 case aqK l x i=>
  simp only[M9,dj] at h ⊢;refine⟨?_,trivial⟩;split;·rw[ZU h];simp_all[δg]
  ·rfl
 case slice l x q y=>
  simp only[M9,dj] at h ⊢;refine⟨?_,trivial⟩;rw[ZT h];simp_all[δg]
 case slice3 l x q y A=>
  simp only[M9,dj] at h ⊢;refine⟨?_,trivial⟩;rw[ZS h];simp_all[δg]
 case len k x=>
  simp only[M9,dj] at h ⊢;refine⟨?_,trivial⟩;rw[ZR h];simp_all[δg]
 case lookup z m F D x k C=>
  simp only[M9,dj] at h ⊢;refine⟨?_,trivial⟩;split<;>grind[id,eJ]
 case aov r x c=>
  simp only[M9,dj] at h ⊢;split
  next t B u=>simp only[u] at h ⊢;refine⟨?_,(yk (call:=call) (f:=0) h).2⟩;grind[yk]
  simp_all
 case call f c d=>
  cases d<;>grind[M9,dj,yk,bT.bt]
 case ale f c d=>
  cases d
  ·simp only[M9,dj] at h ⊢;split;·grind[yk]
   ·rename_i s;refine⟨rfl,?_⟩;split
    next E g e v=>simp only[v] at h ⊢;exact(yk (call:=call) (f:=0) h).2
    ·rfl
  grind[bT.bt]
theorem ZQ {a:bT} (b:a.bt=1) {o o':a_} {v:AV} (h:M9 call a ρ o qE=some (v,o')):o'=o:=by have:=(HY (call:=call) (ρ:=ρ) (qE:=qE) b (o:=o) (o2:=o) λ_ _=>rfl).1;grind
theorem Bt {o:a_} {id:Nat}:o.set id ((o[id]?).getD .dead)=o:=by apply γ8;grind
theorem ZP {d:bT} (H:d.bt=2) {o o':a_} {v:AV} (b:M9 call d ρ o qE=some (v,o')):
  ∃id x,id∈fD d ρ o qE/\o'=o.set id x/\∀o2,(∀j∈dj d ρ o qE,o2[j]?=o[j]?)->
   M9 call d ρ o2 qE=some (v,o2.set id x)/\dj d ρ o2 qE=dj d ρ o qE/\fD d ρ o2 qE=fD d ρ o qE:=by
 have C:∀{x:OL} {g:AV} {v:AV} {o':a_},(kn qE x o).map (λo'=>(g,o'))=some (v,o')->v=g/\o'=o.set qE x/\∀o2:a_,o2[qE]?=o[qE]?->(kn qE x o2).map (λo'=>(g,o'))=some (v,o2.set qE x):=by grind[kn]
 cases d<;>try (simp[bT.bt] at H;done)
 case alloc z e y=>
  simp only[M9,dj,fD] at b ⊢;grind
 case box e x=>
  simp only[M9,dj,fD] at b ⊢;grind
 case aoU z D E e A=>
  simp only[M9,dj,fD] at b ⊢;grind
 case apq z e A q l c y=>
  simp only[M9,dj,fD] at b ⊢;grind
 case apr Q y=>
  simp only[M9,dj,fD] at b ⊢;grind
 case store n a x=>
  simp only[M9,dj,fD] at b ⊢;split at b
  ·rename_i id R G J;split at b
   ·rename_i L e A y K;split at b
    next p=>simp only[γ,ι] at b;obtain⟨rfl,rfl⟩:=b;refine⟨id,_,by simp[J,eJ],rfl,λo2 h=>⟨?_,trivial,trivial⟩⟩;have U:=h id (by simp[J,eJ]);grind
    ·cases b
   ·cases b
  ·cases b
 case append e A q s x y=>
  simp only[M9,dj,fD] at b ⊢;unfold o6 at b;split at b;·cases b
  ·rename_i m F P;split at b;·cases b
   ·rename_i N;have t:∀o2:a_,(∀j∈qE::(eJ (ρ s)++eJ (ρ x)),o2[j]?=o[j]?)->me o2 A (ρ x)=some (m,F):=λo2 h=>by grind[ZV]
    split at b
    ·rename_i B;split at b
     next I=>simp only[γ,ι] at b;obtain⟨rfl,rfl⟩:=b;refine⟨qE,(o[qE]?).getD .dead,by simp,Bt.symm,λo2 h=>⟨?_,trivial,trivial⟩⟩;rw[<-h qE (by simp),Bt];simp_all[o6]
     ·split at b
      next I p=>obtain⟨rfl,rfl,h3⟩:=C b;refine⟨qE,_,by simp,rfl,λo2 h=>⟨?_,trivial,trivial⟩⟩;simp_all[o6]
      ·cases b
    ·rename_i id D G B;split at b
     ·rename_i L e' S O K;split at b
      next p=>simp only[γ,ι] at b;obtain⟨rfl,rfl⟩:=b;refine⟨id,_,by simp[B,eJ],rfl,λo2 h=>⟨?_,trivial,trivial⟩⟩;unfold o6;rw[t o2 h];have U:=h id (by simp[B,eJ]);simp_all
      ·cases b
     ·cases b
    ·rename_i n L B;split at b
     next I=>simp only[γ,ι] at b;obtain⟨rfl,rfl⟩:=b;refine⟨qE,(o[qE]?).getD .dead,by simp,Bt.symm,λo2 h=>⟨?_,trivial,trivial⟩⟩;rw[<-h qE (by simp),Bt];simp_all[o6]
     ·cases b
    ·cases b
 case ap9 W X x k v'=>
  simp only[M9,dj,fD] at b ⊢;split at b
  ·rename_i id Y M V;split at b
   ·rename_i Z Q y K;split at b;·cases b
    ·rename_i p;split at b
     next i w T=>simp only[γ,ι] at b;obtain⟨rfl,rfl⟩:=b;refine⟨id,_,by simp[M,eJ],rfl,λo2 h=>⟨?_,trivial,trivial⟩⟩;simp_all[eJ]
     next T=>simp only[γ,ι] at b;obtain⟨rfl,rfl⟩:=b;refine⟨id,_,by simp[M,eJ],rfl,λo2 h=>⟨?_,trivial,trivial⟩⟩;simp_all[eJ]
     ·cases b
   ·cases b
  ·cases b
 case call f u r=>cases r<;>simp[bT.bt] at H
 case ale f u r=>cases r<;>simp[bT.bt] at H
theorem p7 (o:a_):∀(d:Nat) (vs:List AV) (acc:List Nat) (j:Nat),j∈acc->j∈b_ o d vs acc
 |0,vs,acc,j,h=>by grind[b_];|d+1,[],acc,j,h=>by simp_all[b_];|d+1,v::vs,acc,j,h=>by
  rw[ym];apply p7 o d;have e:∀c,j∈pr o d c acc:=by
   intro c;unfold pr;split;·exact h
   ·split
    ·split;·simp[h]
     ·exact p7 o d _ _ j (by simp[h])
    ·split;·simp[h]
     ·exact p7 o d _ _ j (by simp[h])
    ·simp[h]
  cases v with
  |agg g=>exact p7 o d _ _ j h;|IL g=>exact p7 o d _ _ j h;|ptr c _ _=>exact e c;|os c _ _ _=>exact e c;|mp c=>exact e c;|fn f a b=>exact p7 o d _ _ j (p7 o d _ _ j h);|_=>exact h
theorem ZO (o:a_) (d id:Nat) (acc:List Nat):id∈pr o d id acc:=by grind[pr,p7]
theorem sw {o o2:a_}:∀(d:Nat) (vs:List AV) (acc:List Nat),(∀j∈b_ o d vs acc,o2[j]?=o[j]?)->b_ o2 d vs acc=b_ o d vs acc
 |0,vs,acc,_=>by grind[b_];|d+1,[],acc,_=>by simp[b_];|d+1,v::vs,acc,h=>by
  rw[ym] at h;rw[ym,ym];have m:∀c,(∀j∈pr o d c acc,o2[j]?=o[j]?)->pr o2 d c acc=pr o d c acc:=by
   intro c g;have r:=g c (ZO o d c acc);unfold pr at g ⊢;split;·rfl
   ·rename_i q;rw[if_neg q] at g;rw[r];cases p:o[c]? with
    |none=>rfl;|some x=>
     rw[p] at g;cases x with
     |dead=>rfl;|cells l e w n=>
      cases n with
      |true=>rfl;|false=>exact sw d _ _ g
     |map s u n=>
      cases n with
      |true=>rfl;|false=>exact sw d _ _ g
  have k:uw o2 d v acc=uw o d v acc:=by
   have i:=λj g=>h j (p7 o d vs _ j g);cases v with
   |agg l=>exact sw d l acc i;|IL l=>exact sw d l acc i;|ptr c _ _=>exact m c i;|os c _ _ _=>exact m c i;|mp c=>exact m c i;|fn f a b=>
    have y:b_ o2 d a acc=b_ o d a acc:=sw d a acc λj g=>i j (p7 o d b _ j g);have t:b_ o2 d b (b_ o d a acc)=b_ o d b (b_ o d a acc):=sw d b _ i;grind[uw];|_=>rfl
  rw[k];exact sw d vs _ h
theorem QU {o o2:a_} {a:List Nat}:∀{r:List Nat},(∀j∈r,o2[j]?=o[j]?)->kE o2 a r=kE o a r
 |[],_=>rfl
 |i::r,h=>by simp only[kE];rw[h i (by simp),QU λj b=>h j (by simp[b])]
theorem QT:∀(a:List Nat) (o o2 X:a_) (j:Nat),o2.length=o.length->a.length=X.length->(j∈a\/o2[j]?=o[j]?)->(lu o2 a X)[j]?=(lu o a X)[j]?
 |[],o,o2,X,j,_,_,h=>by grind[lu];|i::r,o,o2,[],j,_,c,_=>by simp at c;|i::r,o,o2,x::l,j,b,c,h=>by simp only[lu];refine QT r _ _ l j (by simp[b]) (by simp_all) ?_;grind
theorem QS {f:FuncId} {args:List AV} {o o':a_} {r:AV} (h:ir call f args o=some (r,o')):
  o.length<=o'.length/\(∀j,j<o.length->j∉b_ o fp args []->o'[j]?=o[j]?)/\
  ∀o2:a_,o2.length=o.length->(∀j∈b_ o fp args [],o2[j]?=o[j]?)->∃g,ir call f args o2=some (r,g)/\
   b_ o2 fp args []=b_ o fp args []/\∀j,(j∈b_ o fp args []\/o.length<=j)->g[j]?=o'[j]?:=by
 have b:∀o2:a_,(∀j∈b_ o fp args [],o2[j]?=o[j]?)->b_ o2 fp args []=b_ o fp args []:=λo2 h=>sw fp args [] h;have e:∀o2:a_,(∀j∈b_ o fp args [],o2[j]?=o[j]?)->kE o2 (b_ o fp args []) (b_ o fp args [])=kE o (b_ o fp args []) (b_ o fp args []):=λo2 h=>QU h;unfold ir at h;simp only at h;generalize q:b_ o fp args []=a at h b e;split at h
 ·rename_i m l v y;split at h
  ·rename_i B i n;split at h;·cases h
   ·rename_i d;split at h
    ·rename_i A c x t;simp only[γ,ι] at h;obtain⟨rfl,rfl⟩:=h;simp only[not_or] at d;have u:=Hn t;have z:a.length=(c.take a.length).length:=by simp;omega
     refine⟨by simp[yl],λj s w=>?_,λo2 p k=>?_⟩;·grind[yl,AL]
     ·refine⟨lu o2 a (c.take a.length)++c.drop a.length,?_,b o2 k,λj s=>?_⟩
      ·unfold ir;grind
      grind[yl,QT]
    ·cases h
  ·cases h
 ·cases h
end
section
variable {call:cz} {ρ ρ2:Operand->AV} {qE:Nat}
theorem QR {a:bT} {o:a_} {j:Nat} (h:j∈fD a ρ o qE):j∈dj a ρ o qE:=by
 cases a<;>simp only[fD,dj,δl] at h ⊢<;>try exact h
 all_goals grind
theorem ZN {a:bT} {o:a_} (h:a.bt=0\/a.bt=1):fD a ρ o qE=[]:=by
 cases a<;>try (simp[bT.bt] at h;done)
 case call f c b=>cases b<;>simp[bT.bt] at h;rfl
 case ale f c b=>cases b<;>simp[bT.bt] at h;rfl
 all_goals rfl
theorem HX {b:bT} {o:a_} (h:b.bt=0):dj b ρ o qE=[]:=by
 cases b<;>try (simp[bT.bt] at h;done)
 case call f c a=>cases a<;>simp[bT.bt] at h
 case ale f c a=>cases a<;>simp[bT.bt] at h
 all_goals rfl
theorem ZM (a:bT):a.bt=0\/a.bt=1\/a.bt=2\/a.bt=3:=by
 cases a<;>try (simp[bT.bt];done)
 case call f c b=>cases b<;>simp[bT.bt]
 case ale f c b=>cases b<;>simp[bT.bt]
def lW (a:bT) (W:List Nat) (n j:Nat):Prop:=j∈W\/(a.bt=3/\n<=j)
theorem HW {a:bT} {o:a_} {j:Nat} (h:j∈dP call a ρ o qE):j∈fD a ρ o qE:=by
 unfold dP at h;split at h
 ·split at h;·exact(Θ.1 h).1
  ·simp at h
 ·exact h
theorem ZL {a:bT} {o:a_} {j:Nat} (h:j∈dP call a ρ o qE):j∈dj a ρ o qE:=QR (HW h)
theorem su {a:bT} {o:a_} (h:a.bt=0\/a.bt=1):dP call a ρ o qE=[]:=by unfold dP;grind[bT.bt,ZN]
theorem ZK {a:bT} {o:a_} (h:a.bt=2):dP call a ρ o qE=fD a ρ o qE:=by unfold dP;grind[bT.bt]
open Classical in
theorem ZJ {a:bT} {o o':a_} {v:AV} (he:M9 call a ρ o qE=some (v,o')):
  o.length<=o'.length/\(a.bt≠3->o'.length=o.length)/\(∀j,¬lW a (dP call a ρ o qE) o.length j->o'[j]?=o[j]?)/\
  ∀o2:a_,(∀j∈dj a ρ o qE,o2[j]?=o[j]?)->(a.bt=3->o2.length=o.length)->
   ∃c,M9 call a ρ o2 qE=some (v,c)/\dj a ρ o2 qE=dj a ρ o qE/\dP call a ρ o2 qE=dP call a ρ o qE/\∀j,lW a (dP call a ρ o qE) o.length j->c[j]?=o'[j]?:=by
 rcases ZM a with hc|hc|hc|hc
 ·have:=ZX hc he;subst this;refine⟨π _,λ_=>rfl,λ_ _=>rfl,λo2 _ _=>⟨o2,?_,by rw[HX hc,HX hc],by rw[su (.inl hc),su (.inl hc)],λj b=>?_⟩⟩;·rw[QV hc o' o2,he];rfl
  ·rw[lW,su (.inl hc)] at b;simp[hc] at b
 ·have:=ZQ hc he;subst this;refine⟨π _,λ_=>rfl,λ_ _=>rfl,λo2 h _=>⟨o2,?_,(HY (call:=call) hc h).2,by rw[su (.inr hc),su (.inr hc)],λj b=>?_⟩⟩;·rw[(HY hc h).1,he];rfl
  ·rw[lW,su (.inr hc)] at b;simp[hc] at b
 ·simp only[ZK hc];obtain⟨id,x,p,rfl,hk⟩:=ZP hc he;refine⟨by simp,λ_=>by simp,λj b=>?_,λo2 h _=>?_⟩
  ·have:j≠id:=λe=>b (.inl (e▸p));rw[δq (θv this)]
  ·obtain⟨k1,k2,k3⟩:=hk o2 h;refine⟨_,k1,k2,k3,λj b=>?_⟩;have b:j∈fD a ρ o qE:=b.resolve_right (by simp[hc]);have d:=h j (QR b);by_cases e:id=j
   ·subst e;have hlen:(id<o2.length)↔(id<o.length):=by
     rcases ζm id o2.length with g1|g1<;>rcases ζm id o.length with g2|g2;·simp[g1,g2]
     ·rw[μ g1,ζS g2] at d;cases d
     ·rw[μ g2,ζS g1] at d;cases d
     ·omega
    rw[εr,εr];simp only[if_true];by_cases h1:id<o.length;·rw[if_pos h1,if_pos (hlen.2 h1)]
    ·rw[if_neg h1,if_neg λu=>h1 (hlen.1 u)]
   ·rw[δq e,δq e];exact d
 ·have key:∀(f:FuncId) (args:List AV),ir call f args o=some (v,o')->dP call a ρ o qE=b_ o fp args []->dj a ρ o qE=b_ o fp args []->
    (∀o2:a_,M9 call a ρ o2 qE=ir call f args o2/\dj a ρ o2 qE=b_ o2 fp args []/\dP call a ρ o2 qE=b_ o2 fp args [])->
    o.length<=o'.length/\(a.bt≠3->o'.length=o.length)/\(∀j,¬lW a (dP call a ρ o qE) o.length j->o'[j]?=o[j]?)/\
    ∀o2:a_,(∀j∈dj a ρ o qE,o2[j]?=o[j]?)->(a.bt=3->o2.length=o.length)->
    ∃c,M9 call a ρ o2 qE=some (v,c)/\dj a ρ o2 qE=dj a ρ o qE/\dP call a ρ o2 qE=dP call a ρ o qE/\∀j,lW a (dP call a ρ o qE) o.length j->c[j]?=o'[j]?:=by
   intro f args i hw s t;obtain⟨c1,c2,n⟩:=QS i;refine⟨c1,λh=>absurd hc h,λj b=>?_,λo2 h l=>?_⟩
   ·simp only[lW,hc,true_and,not_or,Nat.not_le,hw] at b;exact c2 j b.2 b.1
   ·rw[s] at h;obtain⟨c,d1,d2,d3⟩:=n o2 (l hc) h;obtain⟨g1,g2,g3⟩:=t o2;refine⟨c,by rw[g1,d1],by rw[g2,d2,s],by rw[g3,d2,hw],λj b=>d3 j ?_⟩;simp only[lW,hc,true_and,hw] at b;exact b
  cases a<;>try (simp[bT.bt] at hc;done)
  case call f args own=>
   cases own;·simp[bT.bt] at hc
   ·simp only[M9,gn,if_true] at he;obtain⟨c1,c2,n⟩:=QS he;have hw:dP call (.call f args true) ρ o qE=(b_ o fp (args.map ρ) []).filter λj=>decide (o'[j]?≠o[j]?):=by simp only[dP,he]
    refine⟨c1,λh=>absurd hc h,λj b=>?_,λo2 h l=>?_⟩
    ·simp only[lW,hc,true_and,not_or,Nat.not_le,hw,Θ,decide_eq_true_eq,not_and,Classical.not_not,ne_eq] at b;by_cases hm:j∈b_ o fp (args.map ρ) [];·exact b.1 hm
     ·exact c2 j b.2 hm
    ·obtain⟨c,d1,d2,d3⟩:=n o2 (l hc) h;refine⟨c,by simp only[M9,gn,if_true,d1],d2,?_,λj b=>?_⟩
     ·rw[hw];simp only[dP,d1,d2];refine List.filter_congr λj b=>?_;rw[d3 j (.inl b),h j b]
     ·rw[lW,hw,Θ] at b;exact d3 j (b.imp (λh=>h.1) λh=>h.2)
  case ale f args own=>
   cases own;·simp[bT.bt] at hc
   ·simp only[M9,gn,if_true] at he;split at he
    next g first captured k=>exact key g (first++args.map ρ++captured) he (by simp[dP,fD,k]) (by simp[dj,k]) λo2=>⟨by simp[M9,gn,k],by simp[dj,k],by simp[dP,fD,k]⟩
    ·cases he
theorem HV {l:List Operand} (h:∀x∈l,ρ2 x=ρ x):l.map ρ2=l.map ρ:=γI h
theorem ZI {c:bT} (h:∀x∈c.j_,ρ2 x=ρ x) (o:a_):M9 call c ρ2 o qE=M9 call c ρ o qE/\dj c ρ2 o qE=dj c ρ o qE/\dP call c ρ2 o qE=dP call c ρ o qE:=by
 cases c;case build z i=>
  have:(i.map λp=>(p.1,p.2.1,ρ2 p.2.2))=i.map λp=>(p.1,p.2.1,ρ p.2.2):=γI λp r=>by grind[bT.j_]
  simp only[M9,dj,dP,fD,this,and_self]
 case aoU z n i e l=>
  have:(i.map λp=>(p.1,l,ρ2 p.2))=i.map λp=>(p.1,l,ρ p.2):=γI λp r=>by grind[bT.j_]
  simp only[M9,dj,dP,fD,this,and_self]
 case arx z n i e l=>
  have:(i.map λp=>(p.1,l,ρ2 p.2))=i.map λp=>(p.1,l,ρ p.2):=γI λp r=>by grind[bT.j_]
  simp only[M9,dj,dP,fD,this,and_self]
 case call f d k=>
  have:=HV h;simp only[bT.j_] at this;cases k<;>simp only[M9,dj,dP,fD,this,and_self]
 case ale f d k=>
  have m:d.map ρ2=d.map ρ:=HV λx u=>h x (by grind[bT.j_]);have q:=h f (by simp[bT.j_]);cases k<;>simp only[M9,dj,dP,fD,m,q,and_self]
 case aov s x d=>
  simp_all[HV,bT.j_,M9,dj,dP,fD]
 case arA f a b=>
  simp_all[bT.j_,M9,dj,dP,fD]
 case slice l x g j=>
  have m:g.map ρ2=g.map ρ:=by cases g<;>simp[bT.j_] at h ⊢;exact h.2.1
  have q:j.map ρ2=j.map ρ:=by cases j<;>simp[bT.j_] at h ⊢;simp_all
  simp_all[bT.j_,M9,dj,dP,fD]
 case asM x g j=>
  have m:g.map ρ2=g.map ρ:=by cases g<;>simp[bT.j_] at h ⊢;exact h.2.1
  have q:j.map ρ2=j.map ρ:=by cases j<;>simp[bT.j_] at h ⊢;simp_all
  simp_all[bT.j_,M9,dj,dP,fD]
 case slice3 l x g j t=>
  have m:g.map ρ2=g.map ρ:=by
   cases g with
   |none=>rfl;|some a=>simp_all[bT.j_]
  simp_all[bT.j_,M9,dj,dP,fD]
 all_goals
  simp only[bT.j_,γl,δl,or_false,forall_eq_or_imp,forall_eq] at h;simp[M9,dj,dP,fD,h]
end
section
variable {call:cz} {base:Nat}
noncomputable def entry (call:cz) (base:Nat) (i:cM) (st:St):List Nat×List Nat:=
 match lY st.env i.guard with
 |some true=>(dj i.op (dS st.env) st.o (base+i.qE),dP call i.op (dS st.env) st.o (base+i.qE))
 |_=>([],[])
theorem ZH {i:cM} {st:St} {j:Nat} (h:j∈(entry call base i st).2):j∈(entry call base i st).1:=by grind[entry,ZL]
theorem QQ {i:cM} {e a:jk} (h:∀s∈i.reads,cX a s=cX e s):(∀x∈i.op.j_,dS a x=dS e x)/\lY a i.guard=lY e i.guard:=by
 constructor
 ·intro x b;cases x with
  |tmp t=>
   refine h t ?_;simp only[cM.reads,γo];left;exact List.mem_filterMap.2 ⟨.tmp t,b,rfl⟩;|_=>rfl
 ·unfold lY;grind[cM.reads]
theorem wP {i:cM} {st st':St} (a:gM call base i st=some st'):
  ∃v,(∀s,cX st'.env s=if i.dst=some s then v else cX st.env s)/\st.o.length<=st'.o.length/\(i.op.bt≠3->st'.o.length=st.o.length)/\
   (∀j,¬lW i.op (entry call base i st).2 st.o.length j->st'.o[j]?=st.o[j]?)/\
   ∀st2:St,(∀s∈i.reads,cX st2.env s=cX st.env s)->(∀j∈(entry call base i st).1,st2.o[j]?=st.o[j]?)->(i.op.bt=3->st2.o.length=st.o.length)->
    ∃b,gM call base i st2=some b/\(∀s,cX b.env s=if i.dst=some s then v else cX st2.env s)/\entry call base i st2=entry call base i st/\
     ∀j,lW i.op (entry call base i st).2 st.o.length j->b.o[j]?=st'.o[j]?:=by
 unfold gM at a;split at a;·cases a
 next n=>injection a with a;subst a;refine⟨.IL [],λs=>uu _ _ _ _,π _,λ_=>rfl,λ_ _=>rfl,λst2 c _ k=>?_⟩;obtain⟨h,t⟩:=QQ c;refine⟨⟨nG st2.env i.dst (.IL []),st2.o⟩,?_,λs=>uu _ _ _ _,?_,λj w=>?_⟩;all_goals simp_all[gM,entry,lW]
 ·rename_i n;split at a
  ·rename_i v y c;injection a with a;subst a;rw[y4] at c;obtain⟨r,l,m,p⟩:=ZJ c;have e:entry call base i st=(dj i.op (dS st.env) st.o (base+i.qE),dP call i.op (dS st.env) st.o (base+i.qE)):=by grind[entry]
   rw[e];refine⟨v,λs=>uu _ _ _ _,r,l,m,λst2 f d k=>?_⟩;obtain⟨h,t⟩:=QQ f;obtain⟨g,z,x,B,q⟩:=p st2.o d k;obtain⟨C,A,u⟩:=ZI (call:=call) (qE:=base+i.qE) h st2.o;refine⟨⟨nG st2.env i.dst v,g⟩,?_,λs=>uu _ _ _ _,?_,q⟩<;>grind[nG,uu,gM,y4,entry]
  ·cases a
def jI (a b:St):Prop:=(∀s,cX a.env s=cX b.env s)/\a.o=b.o
theorem jI.refl (a:St):jI a a:=⟨λ_=>rfl,rfl⟩
theorem jI.trans {a b c:St} (h:jI a b) (k:jI b c):jI a c:=⟨λs=>(h.1 s).trans (k.1 s),h.2.trans k.2⟩
theorem jI.symm {a b:St} (h:jI a b):jI b a:=⟨λs=>(h.1 s).symm,h.2.symm⟩
theorem jI.run {i:cM} {a b l:St} (h:jI a b) (e:gM call base i a=some l):∃k,gM call base i b=some k/\jI l k/\entry call base i b=entry call base i a:=by
 have j:dS b.env=dS a.env:=by
  funext x;cases x with
  |tmp t=>exact(h.1 t).symm;|_=>rfl
 have o:lY b.env i.guard=lY a.env i.guard:=by
  cases p:i.guard with
  |none=>rfl;|some g=>
   obtain⟨c,d⟩:=g;cases c with
   |none=>rfl;|some s=>simp only[lY];rw[h.1]
 have f:∀(v:AV) (s:Nat),cX (nG a.env i.dst v) s=cX (nG b.env i.dst v) s:=by
  intro v s;simp only[uu];by_cases m:i.dst=some s;·simp_all
  ·rw[if_neg m,if_neg m];exact h.1 s
 have n:entry call base i b=entry call base i a:=by unfold entry;rw[o,j,h.2]
 unfold gM at e ⊢;rw[o,j,<-h.2];split at e;·cases e
 ·injection e with e;subst e;exact⟨_,rfl,⟨f _,rfl⟩,n⟩
 ·split at e
  ·injection e with e;subst e;exact⟨_,rfl,⟨f _,rfl⟩,n⟩
  ·cases e
def yj (n0:Nat) (y:cM) (a:List Nat×List Nat) (x:cM) (b:List Nat×List Nat):Prop:=
 yZ y x=true/\(∀j∈a.2,j∉b.1)/\(∀j∈b.2,j∉a.1)/\(y.op.bt=3->x.op.bt≠3/\∀j∈b.1,j<n0)/\(x.op.bt=3->∀j∈a.1,j<n0)
theorem ZG {y x:cM} (h:yZ y x=true):(∀d,y.dst=some d->d∉x.reads)/\(∀d,x.dst=some d->d∉y.reads)/\∀d,y.dst=some d->x.dst≠some d:=by grind[yZ,HG]
theorem swap {n0:Nat} {y x:cM} {st c s2:St} (k:gM call base y st=some c) (n:gM call base x c=some s2) (P:n0<=st.o.length) (D:yj n0 y (entry call base y st) x (entry call base x c)):
  ∃a b,gM call base x st=some a/\gM call base y a=some b/\jI s2 b/\entry call base x st=entry call base x c/\entry call base y a=entry call base y st:=by
 obtain⟨d,Z,O,H,Q⟩:=D;obtain⟨a1,K,U⟩:=ZG d;obtain⟨G,A,y2,S,C,F⟩:=wP k;obtain⟨L,q,V,T,X,l⟩:=wP n;obtain⟨a,h,u,f,p4⟩:=l st (λs i=>by grind) (λj m=>by rw[C j];rintro(z|⟨e,B⟩)<;>grind) (λe=>by omega);obtain⟨E,J,W,I,r,_⟩:=wP h;obtain⟨b,g,w,p,R⟩:=F a (λs i=>by grind) (λj m=>by rw[r j];rw[f];rintro(z|⟨e,B⟩)<;>grind) (λe=>by omega);obtain⟨t,b1,M,Y,N,_⟩:=wP g;refine⟨a,b,h,g,⟨λs=>?_,?_⟩,f.symm▸rfl,p⟩
 ·rw[q s,w s,u s,A s];grind
 ·apply γ8;intro j;by_cases v:lW x.op (entry call base x c).2 c.o.length j;·
   grind[lW,ZH]
  grind[lW]
noncomputable def dI (call:cz) (base:Nat):List cM->St->List (List Nat×List Nat)
 |[],_=>[]
 |i::r,b=>entry call base i b::match gM call base i b with
  |some a=>dI call base r a
  |none=>[]
theorem jI.runs {l:List cM}:∀{a b d:St},jI a b->fN call base l a=some d->∃e,fN call base l b=some e/\jI d e/\dI call base l b=dI call base l a:=by
 induction l with
 |nil=>intro a b d h c;simp only[fN,γ] at c;subst c;exact⟨b,rfl,h,rfl⟩;|cons i l o=>
  intro a b d h c;simp only[fN] at c;split at c
  next k f=>obtain⟨j,m,g,n⟩:=h.run f;grind[fN,dI]
  ·cases c
theorem front {n0:Nat} {x:cM} {b:List cM}:∀(a:List cM) {st s:St},fN call base (a++x::b) st=some s->n0<=st.o.length->
  (∀(k:Nat) (y:cM) (p f:List Nat×List Nat),a[k]?=some y->(dI call base (a++x::b) st)[k]?=some p->(dI call base (a++x::b) st)[a.length]?=some f->yj n0 y p x f)->
  ∃g s',gM call base x st=some g/\fN call base (a++b) g=some s'/\jI s s'/\(dI call base (a++x::b) st)[a.length]?=some (entry call base x st)/\
   dI call base (a++b) g=(dI call base (a++x::b) st).eraseIdx a.length
 |[],st,s,d,_,_=>by
  grind[fN,jI.refl,dI];|y::a,st,s,d,n,m=>by
  simp only[γL,fN] at d;split at d
  ·rename_i l i;have c:dI call base (y::(a++x::b)) st=entry call base y st::dI call base (a++x::b) l:=by simp[dI,i]
   obtain⟨_,_,h,_⟩:=wP i;obtain⟨g,s',r,v,C,M,I⟩:=front a d (δ5 n h) λk z u f t K L=>m (k+1) z u f (by simpa using t) (by simp_all) (by simp_all);have e:yj n0 y (entry call base y st) x (entry call base x l):=m 0 y _ _ (by simp) (by simp[c]) (by simp_all);obtain⟨B,H,w,F,A,D,J⟩:=swap i r n e;obtain⟨j,G,q,E⟩:=A.runs v;refine⟨B,j,w,?_,C.trans q,?_,?_⟩<;>grind[fN,dI]
  ·cases d
end
theorem aQA {acc:List Nat} {l:List Edge} {m:Nat}:∀{s:Nat},(l.foldl (A2 acc) s).testBit m=true->s.testBit m=true\/∃e∈l,Region.binds .any e=true/\(m=e.on\/(acc.getD e.on 0).testBit m=true):=by
 induction l with
 |nil=>simp_all;|cons e l b=>
  intro s h;simp only[δQ] at h;rcases b h with a|⟨d,f,a,c⟩
  ·unfold A2 at a;grind
  grind
def yi (acc:List Nat) (o:Oper):Nat:=o.after.toList.foldl (A2 acc) 0
theorem QP:∀(L:List Oper) (acc:List Nat),∃r,L.foldl (λacc o=>acc++[yi acc o]) acc=acc++r/\r.length=L.length/\
  ∀(k:Nat) (o:Oper),L[k]?=some o->r[k]?=some (yi (acc++r.take k) o)
 |[],acc=>⟨[],by simp,rfl,by simp⟩
 |o::L,acc=>by obtain⟨r,b,a,d⟩:=QP L (acc++[yi acc o]);refine⟨yi acc o::r,by simp[b],by simp[a],λk e c=>?_⟩;cases k<;>simp_all
theorem aQB {a:Array Oper} {k m:Nat} {o:Oper} (p:a[k]?=some o) (h:((nY a).getD k 0).testBit m=true):
  ∃e∈o.after,Region.binds .any e=true/\(m=e.on\/((nY a).getD e.on 0).testBit m=true):=by
 obtain⟨r,j,n,g⟩:=QP a.toList [];have c:nY a=r:=by grind[nY,yi]
 rw[c] at h ⊢;have d:=g k o (by simp_all);rw[ζf,d] at h;simp only[δB,δR] at h;rcases aQA h with f|⟨e,l,i,b⟩;·simp at f
 ·refine⟨e,by simp_all,i,b.imp_right λb=>?_⟩;rw[ζf] at b ⊢;rw[δh] at b;grind
theorem Pu:∀(L:List Oper) (i:Nat),wm i L=true->∀(k:Nat) (o:Oper),L[k]?=some o->∀e∈o.after,Region.binds .any e=true->e.on<i+k
 |[],i,_,k,o,a,_,_,_=>by simp at a;|o::L,i,h,k,c,a,e,d,b=>by
  simp only[wm,ζ,τ] at h;cases k with
  |zero=>
   grind;|succ k=>
   have:=Pu L (i+1) h.2 k c (by simp_all) e d b;omega
theorem Pt {c:List Nat}:∀{l:List cM},wi c l=true->∀(p q:Nat) (y x:cM),p<q->l[p]?=some y->l[q]?=some x->
  (c.getD x.idx 0).testBit y.idx=true\/(yZ y x=true/\(wo y x=true\/A5 y x=true))
 |[],_,p,q,y,x,_,e,_=>by simp at e;|a::r,h,p,q,y,x,b,e,d=>by
  simp only[wi,ζ,τ] at h;match q,b with
  |q+1,b=>
   simp only[γR] at d;cases p with
   |zero=>
    grind;|succ p=>exact Pt h.2 p q y x (by omega) (by simp_all) d
theorem Ps {d:List Nat}:∀{l:List cM} (p q:Nat) (y x:cM),p<q->l[p]?=some y->l[q]?=some x->¬(d.getD x.idx 0).testBit y.idx=true->wo y x=false->(y.idx,x.idx)∈p_ d l
 |[],p,q,y,x,_,c,_,_,_=>by simp at c;|a::r,p,q,y,x,b,c,e,g,f=>by
  simp only[p_,γo];match q,b with
  |q+1,b=>
   simp only[γR] at e;cases p with
   |zero=>
    grind;|succ p=>exact .inr (Ps p q y x (by omega) (by simp_all) e g f)
section
variable {P:Program} {A:c_} {D:List Deferred} {call:cz} {base:Nat}
theorem HU:∀{l:List cM} {st:St} {p:Nat} {x:cM} {t:List Nat×List Nat},l[p]?=some x->(dI call base l st)[p]?=some t->∃st',t=entry call base x st'
 |[],st,p,x,t,b,_=>by simp at b;|i::l,st,p,x,t,b,a=>by
  simp only[dI] at a;cases p with
  |zero=>grind;|succ p=>
   simp only[γR] at b a;split at a;·exact HU b a
   ·simp at a
theorem HT:∀{l:List cM} {st s:St} {p:Nat} {x:cM} {t:List Nat×List Nat},fN call base l st=some s->(l.map (·.idx)).Nodup->l[p]?=some x->(dI call base l st)[p]?=some t->oX (lX call base l st) x.idx=t
 |[],st,s,p,x,t,_,_,a,_=>by simp at a;|i::l,st,s,p,x,t,b,g,a,d=>by
  simp only[fN] at b;split at b
  ·rename_i j k;simp only[ν,γQ] at g;have e:lX call base (i::l) st=(i.idx,entry call base i st)::lX call base l j:=by grind[lX,entry]
   rw[e];simp only[dI,k] at d;cases p with
   |zero=>grind[oX];|succ p=>
    simp only[γR] at a d;have c:i.idx≠x.idx:=λh=>g.1 (h▸List.mem_map_of_mem (f:=λi:cM=>i.idx) (γh a));simp only[oX,beq_iff_eq,c,if_false];exact HT b g.2 a d
  ·cases b
theorem Pr {i:cM} {st:St} (h:i.op.bt=0):entry call base i st=([],[]):=by grind[entry,HX,su]
theorem Pq {i:cM} {st:St} (h:i.op.bt=1):(entry call base i st).2=[]:=by grind[entry,su]
theorem Pp {a b:List Nat} (h:wq a b=true):∀j∈a,j∉b:=by intro j c d;have:=τ.1 h j c;simp_all
theorem aQC {n0:Nat} {c:List Nat} {l:List cM} {st s:St} (z:fN call base l st=some s) (A:(l.map (·.idx)).Nodup) (r:wi c l=true)
  (b:((p_ c l).isEmpty||sE n0 (lX call base l st) (p_ c l))=true) {p q:Nat} {y x:cM} {E D:List Nat×List Nat} (e:p<q) (i:l[p]?=some y) (j:l[q]?=some x)
  (d:(dI call base l st)[p]?=some E) (f:(dI call base l st)[q]?=some D):(c.getD x.idx 0).testBit y.idx=true\/yj n0 y E x D:=by
 rcases Pt r p q y x e i j with h|⟨g,I⟩;·exact .inl h
 by_cases u:(c.getD x.idx 0).testBit y.idx=true;·exact .inl u
 right;obtain⟨v,m⟩:=HU i d;obtain⟨C,k⟩:=HU j f;cases a:wo y x with
 |true=>
  unfold wo at a;simp only[δd,ζ,beq_iff_eq] at a;rcases a with(a|a)|⟨a,n⟩
  ·have:=Pr (call:=call) (base:=base) (st:=v) a;rw[this] at m;subst m;exact⟨g,by simp,by simp,λh=>(by omega),by simp⟩
  ·have:=Pr (call:=call) (base:=base) (st:=C) a;rw[this] at k;subst k;exact⟨g,by simp,by simp,λ_=>⟨by rw[a];decide,by simp⟩,λh=>(by omega)⟩
  ·have B:=Pq (call:=call) (base:=base) (st:=v) a;have w:=Pq (call:=call) (base:=base) (st:=C) n;rw[<-m] at B;rw[<-k] at w;exact⟨g,by simp[B],by simp[w],λh=>(by omega),λh=>(by omega)⟩;|false=>
  have M:A5 y x=true:=I.resolve_left (by simp[a]);have J:=Ps p q y x e i j u a;have o:(p_ c l).isEmpty=false:=by grind
  rw[o,Bool.false_or] at b;have t:=τ.1 b _ J;simp only[HT z A i d,HT z A j f,ζ,τ,decide_eq_true_eq] at t;obtain⟨⟨⟨F,K⟩,H⟩,G⟩:=t;refine⟨g,Pp F,Pp K,λL=>⟨λN=>?_,G⟩,λ_=>H⟩;grind[A5]
theorem cm.eq {e:Nat} {f:World} {b:TN} {d:a_} {st st':St} {a:Act} {w:World} {σ:TN} (h:cm A e D f b d st a w σ) (c:jI st st'):cm A e D f b d st' a w σ where
 sim:=c.2▸h.sim;env:=λs=>by rw[<-c.1 s,<-c.2];exact h.env s
 size:=h.size;defers:=h.defers;ext:=c.2▸h.ext
theorem cm.drew {e:Nat} {f:World} {b:TN} {d:a_} {st:St} {a:Act} {w:World} {σ:TN} (h:cm A e D f b d st a w σ):cm A e D f b d st a {w with drawn:=w.drawn+1} σ:=by have c:Ext w σ st.o {w with drawn:=w.drawn+1} σ st.o:=⟨π _,λ_ _ h=>⟨rfl,h⟩,π _,λ_ _ h=>⟨h,λ_ h=>⟨h,rfl⟩⟩,λ_ h=>⟨h,rfl⟩,rfl,rfl,rfl⟩;exact⟨⟨h.sim.len,h.sim.dist,h.sim.ef,λi x g=>(h.sim.obj i x g).ext c rfl λ_ _ _=>rfl,h.sim.av,h.sim.avb⟩,λs=>(h.env s).ext c,h.size,h.defers,h.ext.trans c⟩
theorem aQD {c:Type} (b a:List c) (x:c):b++a=(b++x::a).eraseIdx b.length:=by grind
structure HS (P:Program) (nt:Nat) (fl:List Nat) (ops:Array Oper) (call:cz) (base n0:Nat) (st2:St) (l:List cM) (listed:Array Bool) (st:St):Prop where
 run:∃s,fN call base l st=some s/\jI st2 s
 len:n0<=st.o.length
 rel:∀(p q:Nat) (y x:cM) (ty tx:List Nat×List Nat),p<q->l[p]?=some y->l[q]?=some x->(dI call base l st)[p]?=some ty->(dI call base l st)[q]?=some tx->((nY ops).getD x.idx 0).testBit y.idx=true\/yj n0 y ty x tx
 comp:∀x∈l,∃qE,qa P nt fl ops qE x.idx=some x
 nodup:(l.map (·.idx)).Nodup
 sz:listed.size=ops.size
 zi:∀k,k<ops.size->(listed.getD k true=false↔∃x∈l,x.idx=k)
 closed:∀k m,listed.getD k false=true->((nY ops).getD k 0).testBit m=true->listed.getD m false=true
theorem rE {c:Array Bool} {k:Nat} (h:k<c.size) (a b:Bool):c.getD k a=c.getD k b:=by simp_all
theorem aQE {M:Nat} {fl:List Nat} {c:Array Oper} (K:oN P call) (a5:wm 0 c.toList=true) {n0:Nat} {st2:St} {w0:World} {L:TN} {o0:a_} {Q:Exit->Act->World->Prop}
  (hQ:∀Y w' F,cm A M D w0 L o0 st2 Y w' F->Q .normal Y w') {rnd:Option Nat}:∀(h:Nat) (l:List cM) (b:Array Bool) (st:St) (a:Act) (w:World) (σ:TN),l.length<=h->
   HS P M fl c call base n0 st2 l b st->cm A M D w0 L o0 st a w σ->wpAnyIn (FR rnd) 0 P .any c Q h b a w:=by
 have C:∀(b:Array Bool) (st:St) (a:Act) (w:World) (σ:TN),HS P M fl c call base n0 st2 [] b st->cm A M D w0 L o0 st a w σ->Q .normal a w:=by intro b st a w σ d O;obtain⟨s,n,h2⟩:=d.run;simp only[fN,γ] at n;subst n;exact hQ _ _ _ (O.eq h2.symm)
 have H:∀(l:List cM) (b:Array Bool) (st:St),HS P M fl c call base n0 st2 l b st->∀(k:Nat),(∃x∈l,x.idx=k)->Region.ready .any c b≠[]:=by
  intro l b st d k;induction k using Nat.strongRecOn with
  |_ k ih=>
   rintro⟨x,G,rfl⟩;obtain⟨V,X⟩:=d.comp x G;cases I:c[x.idx]? with
   |none=>grind[qa];|some o=>
    have j:x.idx<c.size:=(γB.1 I).1;by_cases i:∀e∈o.after,Region.binds .any e=true->b.getD e.on false=true
    ·intro u;have:x.idx∈Region.ready .any c b:=mem_ready.2 ⟨(d.zi _ j).2 ⟨x,G,rfl⟩,o,I,i⟩;simp_all
    ·simp only[Classical.not_forall] at i;obtain⟨e,he,hb,hn⟩:=i;have N:=Pu c.toList 0 a5 x.idx o (by simp_all) e he hb;simp only[εf] at N;refine ih e.on N ((d.zi e.on (by omega)).1 ?_);rw[rE (by rw[d.sz];omega) true false];simp_all
 intro h;induction h with
 |zero=>
  intro l b st a w σ hl d O;have:l=[]:=ψ (by omega);subst this;refine⟨?_,C b st a w σ d O⟩;rw[List.eq_nil_iff_forall_not_mem];intro k j;obtain⟨h0,o,I,_⟩:=mem_ready.1 j;obtain⟨x,G,_⟩:=(d.zi k (γB.1 I).1).1 h0;simp at G;|succ h ih=>
  intro l b st a w σ hl d O;refine⟨λu=>?_,λk j=>?_⟩;·cases l with
   |nil=>grind;|cons x l=>exact absurd u (H _ b st d x.idx ⟨x,by simp,rfl⟩)
  ·obtain⟨h0,o,I,i⟩:=mem_ready.1 j;have a2:k<c.size:=(γB.1 I).1;obtain⟨x,G,rfl⟩:=(d.zi k a2).1 h0;obtain⟨f,g,rfl⟩:=List.append_of_mem G;obtain⟨s,R,S⟩:=d.run;have T:∀m,((nY c).getD x.idx 0).testBit m=true->b.getD m false=true:=by
    intro m hm;obtain⟨e,he,hb,n⟩:=aQB I hm;rcases n with rfl|n;·simp_all
    ·exact d.closed _ _ (i e he hb) n
   obtain⟨s1,s',f1,f2,f3,f4,f5⟩:=front (n0:=n0) f R d.len λp y W tx hp n h2=>by
    have a0:p<f.length:=(θ.1 hp).1;have J:(f++x::g)[p]?=some y:=by grind
    rcases d.rel p f.length y x W tx a0 J (by simp) n h2 with Z|Z
    ·exfalso;have h4:=T _ Z;obtain⟨V,X⟩:=d.comp y (γh J);cases U:c[y.idx]? with
     |none=>simp[qa,U] at X;|some oy=>
      have a6:y.idx<c.size:=(γB.1 U).1;have h5:=(d.zi _ a6).2 ⟨y,γh J,rfl⟩;grind
    ·exact Z
   obtain⟨V,X⟩:=d.comp x G;refine QX K X f1 O λY w' F a4=>?_;have a8:=d.nodup;have a7:=aQD f g x;have v:∀(p:Nat) (y:cM),(f++g)[p]?=some y->(f++x::g)[if p<f.length then p else p+1]?=some y:=by grind
   have B:∀(p:Nat) (t:List Nat×List Nat),(dI call base (f++g) s1)[p]?=some t->(dI call base (f++x::g) st)[if p<f.length then p else p+1]?=some t:=by grind
   obtain⟨_,_,E,_⟩:=wP f1;refine ih (f++g) _ s1 Y w' F (by grind) ⟨⟨s',f2,S.trans f3⟩,δ5 d.len E,λp q y z W tz a9 hy hz a1 a3=>?_,λy hy=>d.comp y ?_,?_,by simp[d.sz],λk j=>?_,λk m j hm=>?_⟩ a4
   ·refine d.rel _ _ y z W tz ?_ (v p y hy) (v q z hz) (B p W a1) (B q tz a3);split<;>split<;>omega
   ·grind
   ·grind
   ·by_cases r:k=x.idx
    ·subst r;have n:(b.setIfInBounds x.idx true).getD x.idx true=true:=by simp
     grind
    ·rw[getD_set_ne true (θv r),d.zi k j];grind
   ·by_cases r:k=x.idx;·grind[getD_set_true]
    ·rw[getD_set_ne false (θv r)] at j;exact getD_set_true (d.closed k m j hm)
theorem Po:∀{l:List Nat},jl l=true->l.Nodup
 |[],_=>List.nodup_nil
 |a::r,h=>by simp only[jl,ζ,δf,ζ5,decide_eq_false_iff_not] at h;exact γQ.2 ⟨h.1,Po h.2⟩
theorem aQF {b:Nat} {fl:List Nat} {a:Array Oper} {qE k:Nat} {x:cM} (h:qa P b fl a qE k=some x):x.idx=k/\k<a.size:=by
 unfold qa at h;split at h;·cases h
 ·rename_i o d;split at h
  ·obtain⟨c,_,rfl⟩:=ε.1 h;grind
  ·cases h
theorem aQG (g:oN P call) {s:Nat} {fl:List Nat} {d:Array Oper} {id k:Nat} {c:List Nat} {l:List cM} (S:ug P s fl d 0 c=some (l,k)) (h:P.follows .mixedOrders=true)
  (C:c.length=d.size) (L:jl c=true) (M:wi (nY d) l=true) (u:wm 0 d.toList=true) (r:(Γ d.size).all c.contains=true)
  {b st2:St} (T:fN call b.o.length l ⟨b.env,b.o++fK k⟩=some st2)
  (G:((p_ (nY d) l).isEmpty||sE (b.o++fK k).length (lX call b.o.length l ⟨b.env,b.o++fK k⟩) (p_ (nY d) l))=true)
  {I:World} {n:TN} {F:a_} {a:Act} {w:World} {σ:TN} {Q:Exit->Act->World->Prop} (O:cm A s D I n F ⟨b.env,b.o++fK k⟩ a w σ) (K:∀B w' t,cm A s D I n F st2 B w' t->Q .normal B w') {rnd:Option Nat}:(Code.region id d true).wpIn (FR rnd) 0 P Q a w:=by
 obtain⟨Z,W⟩:=HZ S;have E:l.map (·.idx)=c:=by
  apply γ8;intro j;rw[γH];cases f:l[j]? with
  |none=>
   simp_all;|some x=>
   have v:=(θ.1 f).1;have z:=μ (l:=c) (i:=j) (by omega);obtain⟨X,V⟩:=W j x _ f z;rw[z];simp[(aQF V).1]
 have e:(l.map (·.idx)).Nodup:=by grind[Po]
 refine wpIn_region_any h (aQE (fl:=fl) (base:=b.o.length) (n0:=(b.o++fK k).length) g u K d.size l _ ⟨b.env,b.o++fK k⟩ a _ σ (by omega) ⟨⟨st2,T,jI.refl _⟩,π _,λp q y x ty tx R Y H N U=>?_,λx H=>?_,e,by simp,λj f=>?_,λj m f=>?_⟩ O.drew);·grind[aQC]
 ·obtain⟨j,f⟩:=γK H;have v:=(θ.1 f).1;have z:=μ (l:=c) (i:=j) (by omega);grind
 ·have J:(Array.replicate d.size false).getD j true=false:=by simp[f]
  rw[J];refine⟨λ_=>?_,λ_=>rfl⟩;have:=τ.1 r j (List.mem_range.2 f);grind
 ·exfalso;rw[εg,Array.getElem?_replicate] at f;grind
end
end Go.Vi
