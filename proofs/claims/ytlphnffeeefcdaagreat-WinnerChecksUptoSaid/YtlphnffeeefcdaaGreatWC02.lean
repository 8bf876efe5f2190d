/-
  The abstract interpreter: what it means that a value and a store of the interpreter stand for a value and a world of the model.
  Conditions: none.
-/
import Derived.Test.YtlphnffeeefcdaaGreatWC00
import Derived.OwnWalk
import Derived.Maps.AppendAt
import Derived.Laws.CopyRow
import Derived.Laws.Cells
import Derived.Laws.Entries
import Derived.Laws.Small
import Derived.Laws.Tables
import Derived.Laws.MakeOwn
import Derived.Great.BuildSlice
import Derived.Laws.StructEq
import Derived.ChangeKeysEq
set_option maxRecDepth 100000
set_option maxHeartbeats 4000000
set_option linter.all false
open Array renaming getElem?_toList->δA,getElem?_eq_some_iff->γP
open Bool renaming and_eq_true->θ,false_eq_true->Γ,not_eq_true'->γX
open ForInStep renaming yield->ζR
open Go.Vi.AV renaming sc->δe
open List renaming map_cons->φ,all_cons->ζi,mem_cons->γD,getElem?_eq_some_iff->ι,getElem?_of_mem->γH,getElem?_append->εn,ext_getElem?->δd,mem_map->γf,getElem?_set_self->δv,getElem?_eq_getElem->μ,getElem?_take->δg,getElem?_drop->δW,replicate->δ,replicate_succ->δk,flatten_cons->ε9,mem_flatten->ζP,mem_replicate->ε0,eq_nil_of_length_eq_zero->π,cons_append->γC,drop_drop->δi,length_append->γq,range'->ζj,range'_succ->εs,mem_of_getElem?->γr
open Nat renaming le_refl->ψ,lt_of_lt_of_le->γj,add_mul->εu,mul_le_mul_right->γI,zero_le->εT
open Option renaming bind_some->δS,map_some->γm,map_eq_some_iff->ε
open Option.some renaming injEq->γ
open PUnit renaming unit->ζa
open Prod.mk renaming injEq->κ
open Std.Legacy.Range renaming forIn_eq_forIn_range'->ζz,size->ζU
namespace Go.Vi
abbrev cn:=List (Option (Nat×Nat))
def Own (σ:cn) (b:Nat):Prop:=∃(i c:Nat),σ[i]?=some (some (b,c))
def tt (o:Store) (id a:Nat):Prop:=∃b e d c,o[id]?=some (.cells b e d c)/\a<=b.length
def uZ (o:Store) (id sz a:Nat):Prop:=∃b e c,o[id]?=some (.cells b e sz c)/\b.length=a
def IsMap (o:Store) (id:Nat):Prop:=∃c b a,o[id]?=some (.map c b a)
def kO (σ:cn) (id e f d sz:Nat) (a:Option Addr) (cap:Nat):Prop:=
 match σ[id]? with
 |some none=>d=0/\a=none/\cap=0/\f=0
 |some (some (b,c))=>(0<f->a=some ⟨b,sj e d sz,none⟩)/\(e=0->f*sz=d->0<sz->a=some ⟨b,0,none⟩/\cap=c)/\((e<=d/\e+f*sz<=d)\/(d+sz<=e/\e - d - sz+f*sz<=d/\0<sz))
 |none=>False
theorem pI {a b sz:Nat} (h:a<=b):sj a b sz=a:=by
 simp_all[sj]
theorem BN {a b sz:Nat} (h:b<a):sj a b sz=a - b - sz:=by
 simp_all[sj,if_neg]
structure dT where
 p:Nat->Prop
 l:Nat
instance:CoeFun dT (λ_=>Nat->Prop):=⟨dT.p⟩
class nS (A A':dT):Prop where
 eq:A'.l=A.l
instance (A:dT):nS A A:=⟨rfl⟩
instance (A:dT) (p:Nat->Prop):nS A ⟨p,A.l⟩:=⟨rfl⟩
def FW (l:Nat):Fn->Fn
 | .yield _=> .yield l
 |f=>f
def Fr (A:dT) (σ:cn) (b:Nat):Prop:=¬Own σ b/\¬A b
section
variable (A:dT) (w:World) (σ:cn) (o:Store)
mutual
def bC:AV->Value->Prop
 | .ud,_=>True
 | .sc u,v=>v=u/\u.oneCell'=true
 | .agg cs,v=>∃vs,v= .agg vs/\bI cs vs.toList
 | .bN cs,v=>∃vs,v= .tuple vs/\bI cs vs.toList
 | .sl n cs,v=>∃a cap,v= .slice a n cap/\n<=cap/\dx cs=true/\dB cs a 0
 | .ep cs off,v=>∃a:Addr,v= .pointer (some (a.add off))/\dx cs=true/\dB cs (some a) 0
 | .ptr id off tot,v=>tt o id tot/\(∃a,v= .pointer (some a))/\∀sz,uZ o id sz tot->∃b c,σ[id]?=some (some (b,c))/\v= .pointer (some ⟨b,off,none⟩)
 | .os id off len tot,v=>tt o id tot/\∃a cap,v= .slice a len cap/\len<=cap/\∀sz,uZ o id sz tot->kO σ id off len tot sz a cap
 | .mp id,v=>IsMap o id/\∃b c,σ[id]?=some (some (b,c))/\v= .map (some b)
 | .fn f a b,v=>∃a' b',v= .func (FW A.l f) a' b'/\bI a a'.toList/\bI b b'.toList
 | .jo t cs,v=>∃vs,v= .iface t (.agg vs)/\dx cs=true/\bI cs vs.toList
def bI:List AV->List Value->Prop
 |[],vs=>vs=[]
 |c::cs,vs=>∃v r,vs=v::r/\bC c v/\bI cs r
def dB:List AV->Option Addr->Nat->Prop
 |[],_,_=>True
 |c::cs,a,j=>(∃b v,a=some b/\Fr A σ b.block/\w.cell? (b.add j)=some v/\bC c v)/\dB cs a (j+1)
end
end
structure Ext (w:World) (σ:cn) (o:Store) (w':World) (σ':cn) (o':Store):Prop where
 size:w.heap.size<=w'.heap.size
 blk:∀b,b<w.heap.size->¬Own σ b->w'.heap[b]?=w.heap[b]?/\¬Own σ' b
 len:o.length<=o'.length
 cur:∀id tot,tt o id tot->tt o' id tot/\∀sz,uZ o' id sz tot->uZ o id sz tot/\σ'[id]?=σ[id]?
 isMap:∀id,IsMap o id->IsMap o' id/\σ'[id]?=σ[id]?
 os:w'.os=w.os
 tape:w'.tape=w.tape
 output:w'.output=w.output
theorem Ext.refl (w:World) (σ:cn) (o:Store):Ext w σ o w σ o:=
 ⟨ψ _,λ_ _ h=>⟨rfl,h⟩,ψ _,λ_ _ h=>⟨h,λ_ h=>⟨h,rfl⟩⟩,λ_ h=>⟨h,rfl⟩,rfl,rfl,rfl⟩
theorem Ext.trans {w n p:World} {σ a c:cn} {o l o2:Store} (h:Ext w σ o n a l) (k:Ext n a l p c o2):Ext w σ o p c o2 where
 size:=Nat.le_trans h.size k.size;blk:=λb q r=>by
  obtain⟨f,i⟩:=h.blk b q r;obtain⟨m,j⟩:=k.blk b (γj q h.size) i;simp_all
 len:=Nat.le_trans h.len k.len;cur:=λe d g=>by
  obtain⟨f,i⟩:=h.cur e d g;obtain⟨m,j⟩:=k.cur e d f;grind
 isMap:=λe g=>by
  obtain⟨f,i⟩:=h.isMap e g;obtain⟨m,j⟩:=k.isMap e f;simp_all
 os:=k.os.trans h.os;tape:=k.tape.trans h.tape;output:=k.output.trans h.output
section
variable {A:dT} {w w':World} {σ σ':cn} {o o':Store}
theorem Ni {a:Addr} {v:Value} (b:w.cell? a=some v):a.block<w.heap.size:=World.block_lt_of_cell? w a b
theorem add_block (a:Addr) (n:Nat):(a.add n).block=a.block:=by grind[Addr.add]
theorem add_add (a:Addr) (i j:Nat):(a.add i).add j=a.add (i+j):=by
 grind[Addr.add]
mutual
theorem bC.ext (h:Ext w σ o w' σ' o'):∀(c:AV) (v:Value),bC A w σ o c v->bC A w' σ' o' c v
 | .ud,_,_=>by simp[bC];| .sc u,v,hr=>by simpa[bC] using hr;| .agg cs,v,hr=>by
  simp only[bC] at hr ⊢;obtain⟨vs,rfl,hl⟩:=hr;exact⟨vs,rfl,bI.ext h cs _ hl⟩;| .bN cs,v,hr=>by
  simp only[bC] at hr ⊢;obtain⟨vs,rfl,hl⟩:=hr;exact⟨vs,rfl,bI.ext h cs _ hl⟩;| .sl n cs,v,hr=>by
  simp only[bC] at hr ⊢;obtain⟨a,cap,rfl,hn,hp,hm⟩:=hr;exact⟨a,cap,rfl,hn,hp,dB.ext h cs a 0 hm⟩;| .ep cs off,v,hr=>by
  simp only[bC] at hr ⊢;obtain⟨a,rfl,hp,hm⟩:=hr;exact⟨a,rfl,hp,dB.ext h cs _ 0 hm⟩;| .ptr id off tot,v,hr=>by
  simp only[bC] at hr ⊢;obtain⟨h0,h3⟩:=h.cur id tot hr.1;refine⟨h0,hr.2.1,λsz hc=>?_⟩;obtain⟨h1,h2⟩:=h3 sz hc;rw[h2];exact hr.2.2 sz h1;| .os id off len tot,v,hr=>by
  simp only[bC] at hr ⊢;obtain⟨ha,a,cap,rfl,hl,hk⟩:=hr;obtain⟨h0,h3⟩:=h.cur id tot ha;refine⟨h0,a,cap,rfl,hl,λsz hc=>?_⟩;obtain⟨h1,h2⟩:=h3 sz hc;have:=hk sz h1;unfold kO at this ⊢;rw[h2];exact this;| .mp id,v,hr=>by
  simp only[bC] at hr ⊢;obtain⟨h1,h2⟩:=h.isMap id hr.1;rw[h2];exact⟨h1,hr.2⟩;| .fn f a b,v,hr=>by
  simp only[bC] at hr ⊢;obtain⟨a',b',rfl,ha,hb⟩:=hr;exact⟨a',b',rfl,bI.ext h a _ ha,bI.ext h b _ hb⟩;| .jo t cs,v,hr=>by
  simp only[bC] at hr ⊢;obtain⟨vs,rfl,hp,hl⟩:=hr;exact⟨vs,rfl,hp,bI.ext h cs _ hl⟩
theorem bI.ext (h:Ext w σ o w' σ' o'):∀(cs:List AV) (vs:List Value),bI A w σ o cs vs->bI A w' σ' o' cs vs
 |[],vs,hr=>by simpa[bI] using hr;|c::cs,vs,hr=>by
  simp only[bI] at hr ⊢;obtain⟨v,r,rfl,hc,hl⟩:=hr;exact⟨v,r,rfl,bC.ext h c v hc,bI.ext h cs r hl⟩
theorem dB.ext (h:Ext w σ o w' σ' o'):∀(cs:List AV) (a:Option Addr) (j:Nat),dB A w σ o cs a j->dB A w' σ' o' cs a j
 |[],_,_,_=>by simp[dB];|c::cs,a,j,hr=>by
  simp only[dB] at hr ⊢;obtain⟨⟨b,v,rfl,hn,hc,hv⟩,hl⟩:=hr;have hlt:b.block<w.heap.size:=by have:=Ni hc;rwa [add_block] at this
  obtain⟨h1,h2⟩:=h.blk b.block hlt hn.1;exact⟨⟨b,v,rfl,⟨h2,hn.2⟩,by rw[World.cell?_of_block (w:=w) (by rw[add_block];exact h1)];exact hc,bC.ext h c v hv⟩,dB.ext h cs _ (j+1) hl⟩
end
theorem bI.length:∀(cs:List AV) (vs:List Value),bI A w σ o cs vs->cs.length=vs.length
 |[],vs,a=>by grind[bI];|c::cs,vs,a=>by
  simp only[bI] at a;obtain⟨v,r,rfl,_,b⟩:=a;simp[bI.length cs r b]
theorem bI.get:∀(cs:List AV) (vs:List Value),bI A w σ o cs vs->∀(i:Nat) (c:AV),cs[i]?=some c->∃v,vs[i]?=some v/\bC A w σ o c v
 |[],_,_,i,c,h=>by simp at h;|c::cs,vs,b,i,d,a=>by
  simp only[bI] at b;obtain⟨v,r,rfl,f,g⟩:=b;cases i with
  |zero=>simp at a;subst a;exact⟨v,by simp,f⟩;|succ i=>simp at a;obtain⟨u,e,b⟩:=bI.get cs r g i d a;exact⟨u,by simpa using e,b⟩
theorem bI.lV:∀(cs:List AV) (vs:List Value),cs.length=vs.length->(∀(i:Nat) (c:AV),cs[i]?=some c->∃v,vs[i]?=some v/\bC A w σ o c v)->bI A w σ o cs vs
 |[],vs,a,_=>by grind[bI];|c::cs,[],a,_=>by simp at a;|c::cs,v::vs,a,e=>by
  simp only[bI];obtain⟨u,b,f⟩:=e 0 c (by simp);simp at b;subst b;exact⟨v,vs,rfl,f,bI.lV cs vs (by simp_all) λi d g=>by simpa using e (i+1) d (by simp_all)⟩
theorem dB.get:∀(cs:List AV) (a:Option Addr) (j:Nat),dB A w σ o cs a j->∀(i:Nat) (c:AV),cs[i]?=some c->
  ∃b v,a=some b/\Fr A σ b.block/\w.cell? (b.add (j+i))=some v/\bC A w σ o c v
 |[],_,_,_,i,c,k=>by simp at k;|c::cs,a,j,f,i,d,e=>by
  simp only[dB] at f;obtain⟨g,h⟩:=f;cases i with
  |zero=>simp at e;subst e;simpa using g;|succ i=>
   simp at e;have:=dB.get cs a (j+1) h i d e;rwa [show j+1+i=j+(i+1) from by omega] at this
theorem dB.lV:∀(cs:List AV) (a:Option Addr) (j:Nat),(∀(i:Nat) (c:AV),cs[i]?=some c->
  ∃b v,a=some b/\Fr A σ b.block/\w.cell? (b.add (j+i))=some v/\bC A w σ o c v)->dB A w σ o cs a j
 |[],_,_,_=>by simp[dB];|c::cs,a,j,e=>by
  simp only[dB];refine⟨by simpa using e 0 c (by simp),dB.lV cs a (j+1) λi d f=>?_⟩;have:=e (i+1) d (by simpa using f);rwa [show j+1+i=j+(i+1) from by omega]
theorem bI.append {cs a:List AV} {vs b:List Value} (h:bI A w σ o cs vs) (k:bI A w σ o a b):bI A w σ o (cs++a) (vs++b):=by
 induction cs generalizing vs<;>grind[bI]
theorem bC.qn {c:AV} {v:Value} (h:bC A w σ o c v):bC A w σ o c.qn v:=by
 unfold AV.qn;grind[bC,dx,dB]
theorem bI.qn:∀{cs:List AV} {vs:List Value},bI A w σ o cs vs->bI A w σ o (cs.map .qn) vs
 |[],_,h=>h
 |c::cs,vs,h=>by
  simp only[bI,φ] at h ⊢;obtain⟨v,r,rfl,a,b⟩:=h;exact⟨v,r,rfl,a.qn,bI.qn b⟩
theorem bI.eI (pu:Bool) {cs:List AV} {vs:List Value} (h:bI A w σ o cs vs):bI A w σ o (eI pu cs) vs:=by
 unfold Go.Vi.eI;split;·exact h.qn
 ·exact h
theorem tu (pu:Bool) (cs:List AV):(Go.Vi.eI pu cs).length=cs.length:=by
 grind[Go.Vi.eI]
theorem WE {c:AV} (h:c.pure=true):c.qn.pure=true:=by
 unfold AV.qn;grind[AV.pure,dx]
theorem WG {c:AV} (h:c.one=true):c.qn.one=true:=by
 unfold AV.qn;grind[AV.one]
theorem Nj:∀{cs:List AV},dx cs=true->dx (cs.map .qn)=true
 |[],h=>h
 |c::cs,h=>by
  simp only[dx,φ,θ] at h ⊢;exact⟨WE h.1,Nj h.2⟩
theorem BO {pu:Bool} {cs:List AV} (h:dx cs=true):dx (Go.Vi.eI pu cs)=true:=by
 grind[Go.Vi.eI,Nj]
theorem WH:∀{cs:List AV},eU cs=true->eU (cs.map .qn)=true
 |[],h=>h
 |c::cs,h=>by
  grind[eU,WG]
theorem FX {pu:Bool} {cs:List AV} (h:eU cs=true):eU (Go.Vi.eI pu cs)=true:=by
 grind[Go.Vi.eI,WH]
theorem FY {pu:Bool} {cs:List AV} {vs:List Value} (h:bI A w σ o cs vs) {j:Nat} {c:AV} (a:(Go.Vi.eI pu cs)[j]?=some c):∃v,vs[j]?=some v/\bC A w σ o c v:=
 bI.get _ _ (h.eI pu) j c a
theorem bC.one {c:AV} {v:Value} (h:bC A w σ o c v) (e:c.one=true):v.oneCell'=true:=by
 cases c<;>simp only[bC] at h<;>simp only[AV.one,Γ] at e;·simp_all
 ·obtain⟨a,d,rfl,_⟩:=h;rfl
 ·obtain⟨a,rfl,_⟩:=h;rfl
 ·obtain⟨_,⟨a,rfl⟩,_⟩:=h;rfl
 ·obtain⟨_,a,d,rfl,_⟩:=h;rfl
 ·obtain⟨_,b,c,_,rfl⟩:=h;rfl
 ·obtain⟨a,b,rfl,_⟩:=h;rfl
 ·obtain⟨vs,rfl,_⟩:=h;rfl
theorem bC.cells {c:AV} {v:Value} (h:bC A w σ o c v) (a:eU c.cellsOf=true):bI A w σ o c.cellsOf v.cells.toList/\∀u∈v.cells.toList,u.oneCell'=true:=by
 have f:∀(b:List AV) (e:List Value),bI A w σ o b e->eU b=true->∀u∈e,u.oneCell'=true:=by
  intro b;induction b with
  |nil=>grind[bI];|cons c b k=>
   intro e i a u g;simp only[bI] at i;obtain⟨v,r,rfl,j,d⟩:=i;simp only[eU,ζi,θ] at a;rcases γD.1 g with rfl|g;·exact j.one a.1
   ·exact k r d a.2 u g
 cases c with
 |agg b=>
  simp only[bC] at h;obtain⟨e,rfl,d⟩:=h;exact⟨d,f _ _ d a⟩;|_=>
  simp only[AV.cellsOf,eU,ζi,List.all_nil,Bool.and_true] at a;have l:=h.one a;have m:v.cells=#[v]:=by cases v<;>simp_all [Value.cells,Value.oneCell']
  simp only[AV.cellsOf,m,List.mem_singleton];exact⟨by simp only[bI];exact⟨v,[],rfl,h,rfl⟩,by rintro u rfl;exact l⟩
def wS (a:List Nat×Bool) (k:Value):Prop:=∃l,eJ a.1 l=true/\(if a.2 then k= .agg l.toArray else l=[k])
def dF (A:dT) (w:World) (σ:cn) (o:Store) (i:Nat):bW->Prop
 | .dead=>σ[i]?=some none
 | .cells h e n l=>(l=true->dx h=true)/\eU h=true/\
  ((σ[i]?=some none/\h=[])\/∃b f d,σ[i]?=some (some (b,f))/\f<=maxLen/\w.heap[b]?=some (.cells d e (0,0))/\d.size=f*n/\h.length<=d.size/\
   ∀(j:Nat) (c:AV),h[j]?=some c->∃v,d[j]?=some v/\bC A w σ o c v)
 | .map k p l=>(l=true->∀e∈k,e.2.pure=true)/\(∀e∈k,wS p e.1)/\∃(b c:Nat) (a:Array MapEntry) (g:Nat),σ[i]?=some (some (b,c))/\w.heap[b]?=some (.map a g)/\a.size=k.length/\
   ∀(j:Nat) (e:Value×AV),k[j]?=some e->∃m,a[j]?=some m/\m.key=e.1/\bC A w σ o e.2 m.val
structure cj (A:dT) (w:World) (σ:cn) (o:Store):Prop where
 len:σ.length=o.length
 dist:∀(i j b c d:Nat),σ[i]?=some (some (b,c))->σ[j]?=some (some (b,d))->i=j
 bnd:∀(i b c:Nat),σ[i]?=some (some (b,c))->b<w.heap.size
 obj:∀(i:Nat) (x:bW),o[i]?=some x->dF A w σ o i x
 av:∀(i b c:Nat),σ[i]?=some (some (b,c))->¬A b
 kn:∀b,A b->b<w.heap.size
theorem dF.ext (h:Ext w σ o w' σ' o') {i:Nat} {x:bW} (a:dF A w σ o i x) (f:σ'[i]?=σ[i]?)
  (I:∀b c,σ[i]?=some (some (b,c))->w'.heap[b]?=w.heap[b]?):dF A w' σ' o' i x:=by
 cases x with
 |dead=>grind[dF];|cells K e G E=>
  simp only[dF] at a ⊢;refine⟨a.1,a.2.1,?_⟩;rcases a.2.2 with t|⟨b,l,k,q,s,r,g,z,y⟩;·simp_all
  ·refine .inr ⟨b,l,k,by rw[f];exact q,s,by simp_all,g,z,λj c n=>?_⟩;obtain⟨v,C,d⟩:=y j c n;exact⟨v,C,d.ext h⟩;|map H J E=>
  simp only[dF] at a ⊢;obtain⟨t,p,b,c,B,D,q,s,r,g⟩:=a;refine⟨t,p,b,c,B,D,by simp_all,by simp_all,r,λj e n=>?_⟩;obtain⟨m,F,u,d⟩:=g j e n;exact⟨m,F,u,d.ext h⟩
theorem cj.upd (k:cj A w σ o) {id:Nat} {x x':bW} {s':Option (Nat×Nat)} (L:o[id]?=some x)
  (u:w.heap.size<=w'.heap.size) (R:w'.os=w.os) (D:w'.tape=w.tape) (K:w'.output=w.output)
  (B:∀b,b<w.heap.size->(∀c,σ[id]?≠some (some (b,c)))->w'.heap[b]?=w.heap[b]?)
  (g:∀b c,s'=some (b,c)->(∃d,σ[id]?=some (some (b,d)))\/(w.heap.size<=b/\b<w'.heap.size))
  (r:match x with
   | .dead=>True
   | .cells cs _ sz _=>∃p S l,x'= .cells p S sz l/\cs.length<=p.length/\(p.length=cs.length->σ[id]?=some s')
   | .map _ _ _=>(∃E C l,x'= .map E C l)/\σ[id]?=some s')
  (a0:Ext w σ o w' (σ.set id s') (o.set id x')->dF A w' (σ.set id s') (o.set id x') id x'):
  cj A w' (σ.set id s') (o.set id x')/\Ext w σ o w' (σ.set id s') (o.set id x'):=by
 have O:id<o.length:=(ι.1 L).1;have Q:id<σ.length:=by rw[k.len];exact O
 have h:∀i,i≠id->(σ.set id s')[i]?=σ[i]?:=λi a=>by grind
 have J:∀i,i≠id->(o.set id x')[i]?=o[i]?:=λi a=>by grind
 have m:(σ.set id s')[id]?=some s':=by simp_all
 have q:(o.set id x')[id]?=some x':=by simp_all
 have v:Ext w σ o w' (σ.set id s') (o.set id x'):=by
  refine⟨u,λb F P=>⟨B b F λc I=>P ⟨id,c,I⟩,?_⟩,by simp,λi a3 H=>?_,λi H=>?_,R,D,K⟩
  ·rintro⟨i,c,a⟩;by_cases f:i=id
   ·subst f;rw[m] at a;injection a with a;subst a;rcases g b c rfl with⟨d,g⟩|g;·exact P ⟨i,d,g⟩
    ·omega
   ·rw[h i f] at a;exact P ⟨i,c,a⟩
  ·by_cases f:i=id
   ·subst f;obtain⟨cs,e,sz,z,n,G⟩:=H;rw[L] at n;injection n with n;subst n;obtain⟨p,S,l,rfl,h3,h4⟩:=r;refine⟨⟨p,S,sz,l,q,by omega⟩,λX I=>?_⟩;obtain⟨a2,Z,a1,s,Y⟩:=I;rw[q] at s;injection s with s;injection s with e1 Z e3 e4;subst e1 e3;refine⟨⟨cs,e,z,L,by omega⟩,?_⟩;grind
   ·refine⟨?_,λsz I=>⟨?_,h i f⟩⟩
    ·obtain⟨cs,e,sz,z,n,G⟩:=H;exact⟨cs,e,sz,z,by simp_all,G⟩
    ·obtain⟨cs,e,z,n,G⟩:=I;exact⟨cs,e,z,by simp_all,G⟩
  ·by_cases f:i=id
   ·subst f;obtain⟨V,T,z,n⟩:=H;rw[L] at n;injection n with n;subst n;obtain⟨⟨E,C,l,rfl⟩,G⟩:=r;exact⟨⟨E,C,l,q⟩,by rw[m,G]⟩
   ·obtain⟨V,T,z,n⟩:=H;exact⟨⟨V,T,z,by simp_all⟩,h i f⟩
 refine⟨⟨by simp[k.len],λi j b c d a t=>?_,λi b c a=>?_,λi y U=>?_,λi b c a=>?_,λb F=>γj (k.kn b F) u⟩,v⟩
 ·by_cases f:i=id<;>by_cases M:j=id;·rw[f,M]
  ·subst f;rw[m] at a;rw[h j M] at t;injection a with a;subst a;rcases g b c rfl with⟨N,g⟩|g;·exact k.dist i j b N d g t
   ·have:=k.bnd j b d t;omega
  ·subst M;rw[m] at t;rw[h i f] at a;injection t with t;subst t;rcases g b d rfl with⟨N,g⟩|g;·exact k.dist i j b c N a g
   ·have:=k.bnd i b c a;omega
  ·rw[h i f] at a;rw[h j M] at t;exact k.dist i j b c d a t
 ·by_cases f:i=id
  ·subst f;rw[m] at a;injection a with a;subst a;rcases g b c rfl with⟨d,g⟩|g;·exact γj (k.bnd i b d g) u
   ·exact g.2
  ·rw[h i f] at a;exact γj (k.bnd i b c a) u
 ·by_cases f:i=id;·simp_all
  ·rw[J i f] at U;refine(k.obj i y U).ext v (h i f) λb c F=>?_;refine B b (k.bnd i b c F) λd hd=>f (k.dist i id b c d F hd)
 ·by_cases f:i=id
  ·subst f;rw[m] at a;injection a with a;subst a;rcases g b c rfl with⟨d,g⟩|g;·exact k.av i b d g
   ·intro W;have:=k.kn b W;omega
  ·rw[h i f] at a;exact k.av i b c a
end
section
variable {P:Program} {A:dT} {w w':World} {σ σ':cn} {o o':Store} {bY:Operand->AV} {bX:Operand->Value} {oper:Oper} {v:AV}
def Gives (A:dT) (P:Program) (bX:Operand->Value) (oper:Oper) (w:World) (σ:cn) (o:Store) (v:AV) (o':Store):Prop:=
 ∃u w' σ',((execOp bX oper).run P w= .ok (.value u) w'\/((execOp bX oper).run P w= .ok .skip w'/\u=undef))/\cj A w' σ' o'/\bC A w' σ' o' v u/\Ext w σ o w' σ' o'
theorem Gives.same (hS:cj A w σ o) {u:Value} (h:(execOp bX oper).run P w= .ok (.value u) w) (hr:bC A w σ o v u):Gives A P bX oper w σ o v o:=
 ⟨u,w,σ,.inl h,hS,hr,Ext.refl _ _ _⟩
theorem wT {t:TypeId} {b:Bool} (h:fO P t=some b) (w:World):(isAgg t).run P w= .ok b w:=by
 unfold fO at h;cases a:P.underlying t with
 |none=>simp_all;|some d=>cases d<;>simp[a] at h<;>subst h<;>simp[isAgg,run_underlying a]
theorem qt {t:TypeId} {n:Nat} (h:sizeT P t=some n) (w:World):(sizeOf t).run P w= .ok n w:=by
 unfold sizeT at h;cases a:P.info? t with
 |none=>simp_all;|some i=>simp_all[sizeOf,typeInfo]
theorem Nk {t:TypeId} (h:oQ P t=some none):fO P t=some false:=by
 grind[oQ]
theorem Nl {t:TypeId} {n:Nat} (h:oQ P t=some (some n)):fO P t=some true/\sizeT P t=some n:=by
 grind[oQ]
theorem Nn (cs:Array Value) (l:List AV) (a:Nat) (t:TypeId) (n:Option Nat) (f:oQ P t=some n) (d:bI A w σ o l cs.toList) (b:gw l a n=some v):
  ∃u,(part t cs a).run P w= .ok u w/\bC A w σ o v u:=by
 have c:=bI.length _ _ d;cases n with
 |none=>
  simp only[gw] at b;obtain⟨u,j,i⟩:=bI.get _ _ d a v b;simp_all[part,wT,Nk];|some n=>
  obtain⟨e,g⟩:=Nl f;simp only[gw] at b;split at b
  ·rename_i h;injection b with b;subst b;refine⟨.agg (cs.extract a (a+n)),by simp[part,wT e,qt g],?_⟩;simp only[bC];grind[bI.lV,bI.get]
  simp_all
theorem bC.Np (hS:cj A w σ o) {a:AV} {u:Value} {cs:List AV} {off:Nat} (h:bC A w σ o a u) (hb:Go.Vi.behind o a=some (cs,off)):
  ∃p:Addr,u= .pointer (some p)/\∀(j:Nat) (c:AV),cs[off+j]?=some c->∃v,w.cell? (p.add j)=some v/\bC A w σ o c v:=by
 cases a<;>simp only[Go.Vi.behind,reduceCtorEq] at hb;·grind[bC,dB.get,add_add]
 ·rename_i id off' tot;split at hb
  ·rename_i cs' e sz pu ho;split at hb
   ·rename_i htot;simp only[γ,κ] at hb;obtain⟨rfl,rfl⟩:=hb;simp only[bC] at h;obtain⟨b,c,hσ,rfl⟩:=h.2.2 sz ⟨cs',e,pu,ho,htot⟩;refine⟨_,rfl,λj d hd=>?_⟩;have hx:=hS.obj id _ ho;grind[dF,Addr.add,World.cell?]
   simp_all
  simp_all
theorem Nq {a:AV} {p:Addr} {cs:List AV} {b:Nat} {t:TypeId} {n:Option Nat} (h:oQ P t=some n)
  (g:∀(j:Nat) (c:AV),cs[b+j]?=some c->∃v,w.cell? (p.add j)=some v/\bC A w σ o c v) (d:gw cs b n=some a):
  ∃u,(loadVar t p).run P w= .ok u w/\bC A w σ o a u:=by
 cases n with
 |none=>
  simp only[gw] at d;obtain⟨u,r,s⟩:=g 0 a (by omega);simp_all[Addr.add,loadVar,wT,Nk];|some n=>
  obtain⟨k,m⟩:=Nl h;simp only[gw] at d;split at d
  ·rename_i i;injection d with d;subst d;have e:∀j,j<n->∃v,w.cell? (p.add j)=some v/\bC A w σ o (cs.getD (b+j) .ud) v:=by
    grind
   let f:Nat->Value:=λj=>(w.cell? (p.add j)).getD undef;have l:∀j,j<n->w.cell? (p.add j)=some (f j):=λj q=>by
    grind
   refine⟨.agg ((List.range n).map f).toArray,by simp_all[loadVar,wT,qt,run_loadCells],?_⟩;grind[bC,bI.lV]
  simp_all
theorem WI (e:cj A w σ o) (b:∀x,bC A w σ o (bY x) (bX x)) {t:TypeId} {n:Option Nat} {x:Operand} (g:oper.op= .load t x) (d:oQ P t=some n)
  {cs:List AV} {a:Nat} (f:behind o (bY x)=some (cs,a)) (i:gw cs a n=some v):Gives A P bX oper w σ o v o:=by
 obtain⟨p,h,c⟩:=(b x).Np e f;obtain⟨u,j,k⟩:=Nq d c i;simp_all[Gives.same,execOp,Instr.loadAt,Instr.sureAddr]
theorem ze:∀(vs cs:List AV) (a:Nat),(gj cs a vs).length=cs.length
 |[],_,_=>rfl
 |v::vs,cs,a=>by simp[gj,ze vs]
theorem BP:∀(vs cs:List AV) (a:Nat),a+vs.length<=cs.length->∀j,(gj cs a vs)[j]?=if a<=j/\j<a+vs.length then vs[j - a]? else cs[j]?
 |[],cs,a,_,j=>by grind[gj];|v::vs,cs,a,b,j=>by
  simp only[gj,List.length_cons] at b ⊢;rw[BP vs (cs.set a v) (a+1) (by grind) j];grind
theorem qu {cs:List AV} (h:dx cs=true):∀c∈cs,c.pure=true:=by
 induction cs<;>grind[dx]
theorem tB {cs:List AV} (h:∀c∈cs,c.pure=true):dx cs=true:=by
 induction cs<;>grind[dx]
theorem zf {vs cs:List AV} {a:Nat} (d:a+vs.length<=cs.length):∀c∈gj cs a vs,c∈cs\/c∈vs:=by
 intro c b;obtain⟨j,e⟩:=γH b;grind[BP]
theorem WJ (arr:List Value) (vs:List Value) (a:Nat) (b:a+vs.length<=arr.length) (j:Nat):
  (arr.take a++vs++arr.drop (a+vs.length))[j]?=if a<=j/\j<a+vs.length then vs[j - a]? else arr[j]?:=by
 rw[List.append_assoc,εn];grind
theorem ng {cs:List AV}:eU cs=true↔∀c∈cs,c.one=true:=by simp[eU]
theorem WL (hS:cj A w σ o) (hρ:∀x,bC A w σ o (bY x) (bX x)) {t:TypeId} {n:Nat} {x y:Operand} (hop:oper.op= .store t x y) (hn:sizeT P t=some n)
  {id off tot:Nat} (ha:bY x= .ptr id off tot) {cs:List AV} {e:TypeId} {sz:Nat} {pu:Bool} (ho:o[id]?=some (.cells cs e sz pu)) (htot:cs.length=tot)
  (hlen:(bY y).cellsOf.length=n) (h1:eU (bY y).cellsOf=true) (hle:off+n<=cs.length) (Nr:pu=false\/dx (bY y).cellsOf=true):
  Gives A P bX oper w σ o .ud (o.set id (.cells (gj cs off (eI pu (bY y).cellsOf)) e sz pu)):=by
 have hx:=hρ x;rw[ha] at hx;simp only[bC] at hx;obtain⟨b,c,hσ,hp⟩:=hx.2.2 sz ⟨cs,e,pu,ho,htot⟩;obtain⟨hl0,hone⟩:=(hρ y).cells h1;have hl:=hl0.eI pu;replace hlen:(eI pu (bY y).cellsOf).length=n:=by grind[tu]
 replace h1:eU (eI pu (bY y).cellsOf)=true:=FX h1;replace Nr:pu=false\/dx (eI pu (bY y).cellsOf)=true:=Nr.imp (λh=>h) BO;generalize eI pu (bY y).cellsOf=vs at*;have hlen':(bX y).cells.toList.length=n:=by grind[bI.length]
 have Ns:=hS.obj id _ ho;simp only[dF] at Ns;obtain⟨q1,q2,q3⟩:=Ns;rcases q3 with⟨h0,_⟩|⟨b',cap,arr,k1,k2,k3,k4,k5,k6⟩;·simp_all
 rw[hσ] at k1;simp only[γ,κ] at k1;obtain⟨rfl,rfl⟩:=k1;have hrun:=run_storeCells_at (P:=P) b off e (bX y).cells.toList 0 arr w k3 (by omega) hone;simp only[Nat.add_zero] at hrun;generalize hnew:(arr.toList.take off++(bX y).cells.toList++arr.toList.drop (off+(bX y).cells.toList.length)).toArray=new at hrun;have WM:(execOp bX oper).run P w= .ok .skip (w.setRow b new):=by
  simp_all[execOp,Instr.storeAt,Instr.sureAddr,storeVar,qt]
 have hblt:b<w.heap.size:=hS.bnd id b c hσ;have hsame:∀k,k≠b->(w.setRow b new).heap[k]?=w.heap[k]?:=by
  simp_all[World.setRow,Array.getElem?_modify,Ne.symm]
 have hat:(w.setRow b new).heap[b]?=some (.cells new e (0,0)):=by
  grind[World.setRow]
 have agr:new.size=arr.size:=by grind
 have ags:id<σ.length:=(ι.1 hσ).1;have hset:σ.set id (some (b,c))=σ:=by
  apply δd;grind
 obtain⟨hS',hE⟩:=cj.upd (w':=w.setRow b new) (s':=some (b,c)) (x':=.cells (gj cs off vs) e sz pu) hS ho (by simp_all) rfl rfl rfl
  (λk _ hk=>hsame k (λhe=>hk c (he▸hσ))) (λb2 c2 h2=> .inl ⟨c,by simp_all⟩) ⟨_,_,_,rfl,by grind[ze],λ_=>hσ⟩ (λhE=>by
   simp only[dF];refine⟨λhpt=>?_,?_,.inr ⟨b,c,new,by simp_all,k2,hat,by omega,by grind[ze],λj d hd=>?_⟩⟩
   ·refine tB λd hd=>?_;rcases zf (by rw[hlen];exact hle) d hd with hd|hd<;>grind[zf,qu]
   ·refine ng.2 λd hd=>?_;rcases zf (by rw[hlen];exact hle) d hd with hd|hd<;>grind[zf,ng]
   ·rw[BP _ _ _ (by omega)] at hd;rw[hlen] at hd;have hsp:=WJ arr.toList (bX y).cells.toList off (by grind) j;have BQ:new[j]?=if off<=j/\j<off+n then(bX y).cells.toList[j - off]? else arr[j]?:=by
     grind
    by_cases hj:off<=j/\j<off+n
    ·rw[if_pos hj] at hd BQ;obtain⟨u,hu,hr⟩:=bI.get _ _ hl _ d hd;exact⟨u,by rw[BQ];exact hu,hr.ext hE⟩
    ·rw[if_neg hj] at hd BQ;obtain⟨u,hu,hr⟩:=k6 j d hd;exact⟨u,by rw[BQ];exact hu,hr.ext hE⟩);rw[hset] at hS' hE;exact⟨undef,_,σ,.inr ⟨WM,rfl⟩,hS',by simp[bC],hE⟩
end
section
variable {P:Program} {A:dT} {w w':World} {σ σ':cn} {o o':Store} {bY:Operand->AV} {bX:Operand->Value} {oper:Oper} {v:AV}
theorem wU {bF:Nat} {x:bW} (h:lg bF x o=some o'):o[bF]?=some .dead/\o'=o.set bF x:=by
 grind[lg]
theorem cj.BR (k:cj A w σ o) {bF:Nat} (l:o[bF]?=some .dead) {cs:List AV} {arr:Array Value} {e:TypeId} {sz cap:Nat} {pu:Bool} (d:arr.size=cap*sz) (p:cap<=maxLen)
  (g:cs.length<=arr.size) (y:eU cs=true) (m:pu=true->dx cs=true) (a:∀(j:Nat) (c:AV),cs[j]?=some c->∃v,arr[j]?=some v/\bC A w σ o c v):
  cj A (w.alloc (.cells arr e)) (σ.set bF (some (w.heap.size,cap))) (o.set bF (.cells cs e sz pu))/\Ext w σ o (w.alloc (.cells arr e)) (σ.set bF (some (w.heap.size,cap))) (o.set bF (.cells cs e sz pu)):=by
 have i:bF<o.length:=(ι.1 l).1;have f:bF<σ.length:=by rw[k.len];exact i
 refine cj.upd (x:=.dead) k l (by simp) rfl rfl rfl (λb r _=>heap_alloc_old w _ b r) (λb c h=> .inr ?_) trivial λq=>?_;·simp_all
 ·simp only[dF];refine⟨m,y,.inr ⟨w.heap.size,cap,arr,by simp_all,p,heap_alloc_new w _,d,g,λj c n=>?_⟩⟩;obtain⟨u,s,t⟩:=a j c n;exact⟨u,s,t.ext q⟩
theorem Nu:1<=maxLen:=by simp[maxLen]
theorem wV (A:dT) (w:World) (σ:cn) (o:Store):∀(z:List Value),(∀u∈z,u.oneCell'=true)->bI A w σ o (z.map .sc) z
 |[],_=>by simp[bI];|v::z,h=>by
  simp only[φ,bI];exact⟨v,z,rfl,by simp[bC,h v],wV A w σ o z λu a=>h u (by simp[a])⟩
theorem FZ {z:List Value} (h:∀u∈z,u.oneCell'=true):eU (z.map δe)=true:=by
 refine ng.2 λc b=>?_;obtain⟨u,a,rfl⟩:=γf.1 b;exact h u a
theorem Nv (z:List Value):dx (z.map δe)=true:=by
 refine tB λc a=>?_;obtain⟨u,_,rfl⟩:=γf.1 a;rfl
theorem u7 {t:TypeId} {z:List Value} (h:lU P t=some z):∃(i:TypeInfo) (a:Value),P.info? t=some i/\i.zero=some a/\a.cells.toList=z/\i.size=z.length/\∀u∈z,u.oneCell'=true:=by
 unfold lU at h;cases b:P.info? t with
 |none=>simp[b] at h;|some i=>
  cases c:i.zero with
  |none=>simp_all;|some a=>
   simp only[b,c,sizeT,δS,γm] at h;grind
theorem WN (m:cj A w σ o) {t:TypeId} {z:List Value} {pu:Bool} {bF:Nat} (q:oper.op= .alloc t) (p:lU P t=some z)
  (l:o[bF]?=some .dead):Gives A P bX oper w σ o (.ptr bF 0 z.length) (o.set bF (.cells (z.map .sc) t z.length pu)):=by
 obtain⟨i,n,C,v,d,k,a⟩:=u7 p;have b:bF<o.length:=(ι.1 l).1;have f:bF<σ.length:=by rw[m.len];exact b
 have g:n.cells.size=z.length:=by grind
 obtain⟨h,s⟩:=m.BR (w:=w) (arr:=n.cells) (e:=t) (sz:=z.length) (cap:=1) (pu:=pu) (cs:=z.map .sc) l (by omega) Nu (by simp[g]) (FZ a) (λ_=>Nv z)
  (λj c r=>by
   obtain⟨u,D,x⟩:=bI.get _ _ (wV A w σ o z a) j c r;grind);refine⟨.pointer (some ⟨w.heap.size,0,none⟩),_,_,.inl ?_,h,?_,s⟩;·simp_all[execOp,Instr.alloc,zeroValue,typeInfo,newVar,newRow]
 ·simp only[bC];refine⟨⟨_,_,_,_,by rw[δv b],by simp⟩,⟨_,rfl⟩,λB y=>⟨w.heap.size,1,by simp_all,rfl⟩⟩
theorem WO (l:cj A w σ o) (g:∀x,bC A w σ o (bY x) (bX x)) {e:TypeId} {x:Operand} {bF:Nat} (f:oper.op= .box e x) (h:eU (bY x).cellsOf=true)
  (k:o[bF]?=some .dead):Gives A P bX oper w σ o (.ptr bF 0 (bY x).cellsOf.length) (o.set bF (.cells (bY x).cellsOf e (bY x).cellsOf.length false)):=by
 have a:bF<o.length:=(ι.1 k).1;have d:bF<σ.length:=by rw[l.len];exact a
 obtain⟨m,_⟩:=(g x).cells h;have i:=bI.length _ _ m;obtain⟨b,n⟩:=l.BR (w:=w) (arr:=(bX x).cells) (e:=e) (sz:=(bY x).cellsOf.length) (cap:=1) (pu:=false) (cs:=(bY x).cellsOf) k (by simp_all) Nu (by simp_all) h (by simp)
  (λj c r=>by
   grind[bI.get]);refine⟨.pointer (some ⟨w.heap.size,0,none⟩),_,_,.inl ?_,b,?_,n⟩;·simp[execOp,f,Instr.box,newVar,newRow,newObj,Sem.run]
 ·simp only[bC];refine⟨⟨_,_,_,_,by rw[δv a],by simp⟩,⟨_,rfl⟩,λp q=>⟨w.heap.size,1,by simp_all,rfl⟩⟩
theorem Nw (c:cj A w σ o) (b:∀x,bC A w σ o (bY x) (bX x)) {x:Operand} (a:oper.op= .move x\/oper.op= .assign x):Gives A P bX oper w σ o (bY x) o:=
 Gives.same c (u:=bX x) (by rcases a with h|h<;>simp[execOp,h]) (b x)
theorem ic {u:Value} {v:Value} (h:bC A w σ o (.sc u) v):v=u:=by grind[bC]
theorem Nx (i:cj A w σ o) (d:∀x,bC A w σ o (bY x) (bX x)) {c a b:Operand} (e:oper.op= .pick c a b) {t:Bool} (h:bY c= .sc (.bool t)):Gives A P bX oper w σ o (bY (if t then a else b)) o:=by
 have f:=d c;rw[h] at f;have g:=ic f;refine Gives.same i (u:=bX (if t then a else b)) ?_ (d _);cases t<;>simp[execOp,e,g,asBool]
theorem Ny (c:cj A w σ o) (a:∀x,bC A w σ o (bY x) (bX x)) {x:Operand} (b:oper.op= .nilCheck x) {p:Addr} (d:bX x= .pointer (some p)):Gives A P bX oper w σ o (bY x) o:=by
 refine Gives.same c (u:=bX x) ?_ (a x);simp_all[execOp]
theorem tC (k:IntKind) (n:Int):fe k n=k.wrap n:=by
 cases k<;>simp only[fe];all_goals
  split
  ·rename_i h;simp only[θ,decide_eq_true_eq] at h;grind[IntKind.wrap,IntKind.bits,IntKind.signed]
  ·rfl
theorem F2 (n:Nat):By n=2^n:=by
 simp[By]
theorem WQ {e:BinOp} {t:TypeId} {x y:Operand} {a b r:Value} (h:gZ e a b=some r):
  (do eqGuard e t x y a b;binOp e t a b:Sem Value).run P w= .ok r w:=by
 unfold gZ at h;simp only[lA,tC,F2] at h;split at h
 ·rename_i k n j m;split at h
  ·split at h;·cases h
   ·injection h with h;subst h;rename_i f;simp[eqGuard,binOp,Op.shift,f]
  ·split at h;·cases h
   ·injection h with h;subst h;rename_i f;simp[eqGuard,binOp,Op.shift,f]
  ·split at h
   ·rename_i i;subst i;cases e<;>simp only[reduceCtorEq] at h<;>first
     |(injection h with h;subst h;simp[eqGuard,binOp,Op.intArith,Op.intBits,Op.intCmp];done);|simp_all[eqGuard,binOp,Op.intDiv]
   ·cases h
 ·rename_i c d;cases e<;>simp only[reduceCtorEq] at h;all_goals first
   |(injection h with h;simp_all[eqGuard,binOp,Op.stringOp])
   |(split at h
     ·rename_i g;injection h with h;subst h;simp[eqGuard,binOp,Op.stringOp];omega
     ·cases h)
 ·cases h
theorem WR {c:BinOp} {a b r:Value} (h:gZ c a b=some r):r.oneCell'=true:=by
 unfold gZ at h;split at h
 ·split at h
  ·split at h;·cases h
   ·injection h with h;subst h;rfl
  ·split at h;·cases h
   ·injection h with h;subst h;rfl
  ·split at h
   ·unfold lA at h;cases c<;>simp only[reduceCtorEq] at h<;>first
     |(injection h with h;subst h;rfl)
     |(split at h;·cases h
       ·injection h with h;subst h;rfl)
   ·cases h
 ·cases c<;>simp only[reduceCtorEq] at h;all_goals first
   |(injection h with h;subst h;rfl)
   |(split at h;·injection h with h;subst h;rfl
     ·cases h)
 ·cases h
theorem WS (l:cj A w σ o) (c:∀x,bC A w σ o (bY x) (bX x)) {g:BinOp} {t k:TypeId} {x y:Operand} (d:oper.op= .binOp g t x y k) {a b r:Value} (j:bY x= .sc a) (i:bY y= .sc b)
  (h:gZ g a b=some r):Gives A P bX oper w σ o (.sc r) o:=by
 have f:=c x;have e:=c y;rw[j] at f;rw[i] at e;refine Gives.same l (u:=r) ?_ (by simp[bC,WR h]);simp only[execOp,d,ic f,ic e];have:=WQ (P:=P) (w:=w) (t:=t) (x:=x) (y:=y) h;simp only[Sem.run_bind] at this ⊢;rw[this];rfl
theorem WT (i:cj A w σ o) (d:∀x,bC A w σ o (bY x) (bX x)) {f:BinOp} {c:Bool} {t m:TypeId} {x y:Operand} (e:oper.op= .binOp f t x y m) (k:(f= .eql/\c=false)\/(f= .neq/\c=true))
  (l:P.underlying t=some .bool) {a b:Bool} (j:bY x= .sc (.bool a)) (n:bY y= .sc (.bool b)):Gives A P bX oper w σ o (.sc (.bool (if c then !(a==b) else a==b))) o:=by
 have h:=d x;have g:=d y;rw[j] at h;rw[n] at g;refine Gives.same i (u:=.bool (if c then !(a==b) else a==b)) ?_ (by simp[bC,Value.oneCell']);simp only[execOp,e,ic h,ic g];rcases k with⟨rfl,rfl⟩|⟨rfl,rfl⟩<;>simp[eqGuard,binOp,Go.run_equal_bool w t _ _ l]
theorem WU (f:cj A w σ o) (c:∀x,bC A w σ o (bY x) (bX x)) {e:UnOp} {t:TypeId} {x:Operand} (g:oper.op= .unOp e t x) (h:y8 e (bY x)=some v):Gives A P bX oper w σ o v o:=by
 have a:=c x;unfold y8 at h;split at h
 ·rename_i b d;rw[d] at a;have:=ic a;split at h
  ·injection h with h;subst h;refine Gives.same f (u:=.bool !b) ?_ (by simp[bC,Value.oneCell']);simp_all[execOp,Op.unary]
  ·cases h
 ·rename_i k n d;rw[d] at a;have:=ic a;split at h
  ·injection h with h;subst h;rw[tC];refine Gives.same f (u:=.int k (k.wrap (0 - n))) ?_ (by simp[bC,Value.oneCell']);simp_all[execOp,Op.unary,Op.intArith]
  ·cases h
 ·cases h
theorem WV (c:cj A w σ o) (a:∀x,bC A w σ o (bY x) (bX x)) {s d:TypeId} {h:TypeDesc} {k f:IntKind} {n:Int} {x:Operand} (e:oper.op= .convert s d x) (i:P.underlying s=some h) (j:P.underlying d=some (.int k))
  (g:bY x= .sc (.int f n)):Gives A P bX oper w σ o (.sc (.int k (fe k n))) o:=by
 rw[tC];have b:=a x;rw[g] at b;have:=ic b;refine Gives.same c (u:=.int k (k.wrap n)) ?_ (by simp[bC,Value.oneCell']);simp_all[execOp,convert,run_underlying,Conv.intToInt]
theorem Nz {a b:AV} {d:Nat} {u:Value} (h:bC A w σ o a u) (c:oN d a=some b):∃p:Addr,u= .pointer (some p)/\bC A w σ o b (.pointer (some (p.add d))):=by
 unfold oN at c;grind[bC,Addr.add,add_add]
end
section
variable {P:Program} {A:dT} {w w':World} {σ σ':cn} {o o':Store} {bY:Operand->AV} {bX:Operand->Value} {oper:Oper} {v:AV}
theorem WW (d:cj A w σ o) (a:∀x,bC A w σ o (bY x) (bX x)) {s f n:Nat} {fs:Array Field} {g:Field} {x:Operand} (b:oper.op= .fieldAddr s x f) (e:P.underlying s=some (.struct fs)) (j:fs[f]?=some g)
  (k:sizeT P g.type=some n) (c:n≠0) (h:oN g.offset (bY x)=some v):Gives A P bX oper w σ o v o:=by
 obtain⟨p,i,l⟩:=Nz (a x) h;simp_all[Gives.same,execOp,Instr.fieldAt,run_underlying,Instr.sureAddr,fieldPlace,qt]
theorem WX (p:cj A w σ o) (b:∀x,bC A w σ o (bY x) (bX x)) {s f:Nat} {fs:Array Field} {g:Field} {x:Operand} {n:Option Nat} (i:oper.op= .field s x f) (r:P.underlying s=some (.struct fs)) (l:fs[f]?=some g)
  (j:oQ P g.type=some n) {cs:List AV} (e:bY x= .agg cs) (h:gw cs g.offset n=some v):Gives A P bX oper w σ o v o:=by
 have a:=b x;rw[e] at a;simp only[bC] at a;obtain⟨c,k,d⟩:=a;obtain⟨u,q,m⟩:=Nn (P:=P) c cs g.offset g.type n j d h;simp_all[Gives.same,execOp,Instr.field,run_underlying,asAgg]
theorem wW {a:AV} {n:Int} {u:Value} (h:bC A w σ o a u) (b:iw a=some n):∃k,u= .int k n:=by
 unfold iw at b;grind[ic]
theorem WY (q:cj A w σ o) (b:∀x,bC A w σ o (bY x) (bX x)) {t a e sz:Nat} {x i:Operand} {n:Int} (c:oper.op= .indexAddr t x i) (g:P.underlying t=some (.array a e)) (d:sizeT P e=some sz)
  (m:iw (bY i)=some n) (r:0<=n) (s:n<a) (h:oN (n.toNat*sz) (bY x)=some v):Gives A P bX oper w σ o v o:=by
 obtain⟨p,f,l⟩:=Nz (b x) h;obtain⟨k,j⟩:=wW (b i) m;refine Gives.same q ?_ l;simp only[execOp,c,Instr.indexAt,j,f];simp only[Sem.run_bind,asIntOf,Sem.run_pure,Result.andThen_ok,run_underlying g,Instr.sureAddr];simp_all[qt]
theorem WZ (hS:cj A w σ o) (B:∀x,bC A w σ o (bY x) (bX x)) {t e sz:Nat} {x i:Operand} {n:Int} (M:oper.op= .indexAddr t x i) (Y:P.underlying t=some (.slice e)) (X:sizeT P e=some sz) (S:sz≠0)
  (Z:iw (bY i)=some n) (h:qh o sz (bY x) n=some v):Gives A P bX oper w σ o v o:=by
 obtain⟨k,T⟩:=wW (B i) Z;have r:=B x;have C:∀(a:Option Addr) (f d:Nat) (p:Addr),bX x= .slice a f d->a=some p->0<=n->n<f->bC A w σ o v (.pointer (some (p.add (n.toNat*sz))))->Gives A P bX oper w σ o v o:=by
  intro a f d p g K N G hr;refine Gives.same hS ?_ hr;simp only[execOp,M,Instr.indexAt,T,g,K];simp only[Sem.run_bind,asIntOf,Sem.run_pure,Result.andThen_ok,run_underlying Y];simp_all[qt]
 unfold qh at h;split at h
 ·rename_i m F q;rw[q] at r;simp only[bC] at r;obtain⟨a,d,g,hn,hp,U⟩:=r;split at h
  ·rename_i E;injection h with h;subst h;obtain⟨N,G,z⟩:=E;have H:n.toNat*sz<F.length:=by
    rw[z];have:n.toNat<m:=by omega
    exact(Nat.mul_lt_mul_right (by omega)).2 this
   obtain⟨b,u,hb,_⟩:=dB.get _ _ _ U _ _ (μ H);grind[bC]
  ·cases h
 ·rename_i V a0 f I q;rw[q] at r;simp only[bC] at r;obtain⟨L,a,d,g,W,s⟩:=r;split at h
  ·rename_i F O y Q R;split at h
   ·rename_i E;obtain⟨j,rfl,N,G,D⟩:=E;injection h with h;subst h;have l:=s y ⟨F,O,Q,R,j⟩;have a1:uZ o V y I:=⟨F,O,Q,R,j⟩;unfold kO at l;split at l;·omega
    ·rename_i b c J;have K:=l.1 (by omega);refine C a f d _ g K N G ?_;simp only[bC];refine⟨L,⟨_,rfl⟩,λsz E=>⟨b,c,J,?_⟩⟩;simp_all[Addr.add]
    simp_all
   ·cases h
  ·cases h
 ·cases h
theorem W0 (f:cj A w σ o) (b:∀x,bC A w σ o (bY x) (bX x)) {t c e sz:Nat} {x i:Operand} {n:Int} {m:Option Nat} (d:oper.op= .index t x i) (B:P.underlying t=some (.array c e)) (p:sizeT P e=some sz)
  (j:oQ P e=some m) (z:iw (bY i)=some n) (E:0<=n) (C:n<c) {cs:List AV} (g:bY x= .agg cs) (h:gw cs (n.toNat*sz) m=some v):Gives A P bX oper w σ o v o:=by
 obtain⟨k,q⟩:=wW (b i) z;have a:=b x;rw[g] at a;simp only[bC] at a;obtain⟨s,l,r⟩:=a;obtain⟨u,D,y⟩:=Nn (P:=P) s cs _ e m j r h;refine Gives.same f (u:=u) ?_ y;simp only[execOp,d,Instr.index,q,l];simp_all[asIntOf,run_underlying,qt]
theorem W1 (d:cj A w σ o) (c:∀x,bC A w σ o (bY x) (bX x)) {t:Nat} {x i:Operand} {n:Int} {s:ByteArray} {b:UInt8} (e:oper.op= .index t x i) (l:P.underlying t=some .string)
  (f:iw (bY i)=some n) (p:0<=n) (g:bY x= .sc (.string s)) (h:s[n.toNat]?=some b):Gives A P bX oper w σ o (.sc (.int .u8 b.toNat)) o:=by
 obtain⟨k,j⟩:=wW (c i) f;have a:=c x;rw[g] at a;have m:=ic a;refine Gives.same d (u:=.int .u8 b.toNat) ?_ (by simp[bC,Value.oneCell']);simp_all[execOp,Instr.index,asIntOf,run_underlying]
theorem W3 (s:cj A w σ o) (j:∀x,bC A w σ o (bY x) (bX x)) {t:TypeId} {x:Operand} {c:Call} {k n:Nat} (q:oper.op= .call c) (z:c.callee= .builtin .len) (C:c.args=#[x]) (r:c.argTypes=#[t])
  (g:(k=0/\∃e,P.underlying t=some (.slice e))\/(k=1/\P.underlying t=some .string)\/(k=2/\∃a b,P.underlying t=some (.map a b))) (d:lB o k (bY x)=some n):Gives A P bX oper w σ o (.sc (.int .i64 n)) o:=by
 refine Gives.same s (u:=.int .i64 n) ?_ (by simp[bC,Value.oneCell']);simp only[execOp,q,resolve,z,C,r,invoke,builtin];have h:=j x;rcases g with⟨rfl,e,g⟩|⟨rfl,g⟩|⟨rfl,a,b,g⟩
 ·have:∃A c,bX x= .slice A n c:=by
   cases f:bY x<;>rw[f] at d h<;>simp only[lB,reduceCtorEq] at d<;>grind[lB,reduceCtorEq,ic,bC]
  obtain⟨A,E,l⟩:=this;simp[l,Builtin.len_,run_underlying g,goInt]
 ·cases f:bY x<;>rw[f] at d h<;>simp only[lB,reduceCtorEq] at d;rename_i u;cases u<;>simp only[reduceCtorEq,γ] at d;subst d;simp[ic h,Builtin.len_,run_underlying g,goInt]
 ·cases f:bY x<;>rw[f] at d h<;>simp only[lB,reduceCtorEq] at d;rename_i B;split at d
  ·rename_i H J M D;simp only[γ] at d;subst d;simp only[bC] at h;obtain⟨_,K,E,p,l⟩:=h;have i:=s.obj B _ D;simp only[dF] at i;obtain⟨_,_,L,I,G,F,m,v,y,_⟩:=i;rw[p] at m;simp only[γ,κ] at m;obtain⟨rfl,rfl⟩:=m;simp[l,Builtin.len_,run_underlying g,goInt,getObj,Sem.run,v,y]
  ·cases d
theorem W4 (h:cj A w σ o) {t:TypeId} {x:Operand} {c:Call} {n e:Nat} (a:oper.op= .call c) (g:c.callee= .builtin .len) (f:c.args=#[x]) (b:c.argTypes=#[t])
  (d:P.underlying t=some (.array n e)):Gives A P bX oper w σ o (.sc (.int .i64 n)) o:=by
 refine Gives.same h (u:=.int .i64 n) ?_ (by simp[bC,Value.oneCell']);simp[execOp,a,resolve,g,f,b,invoke,builtin,Builtin.len_,run_underlying d,goInt]
theorem NA (h:cj A w σ o) (d:∀x,bC A w σ o (bY x) (bX x)) {mx:Bool} {x y:Operand} {c:Call} {k:IntKind} {a b:Int} (e:oper.op= .call c) (l:c.callee= .builtin (if mx then .max else .min)) (m:c.args=#[x,y])
  (j:bY x= .sc (.int k a)) (i:bY y= .sc (.int k b)):Gives A P bX oper w σ o (.sc (.int k (if mx then(if b>a then b else a) else(if b<a then b else a)))) o:=by
 have g:=d x;have f:=d y;rw[j] at g;rw[i] at f;refine Gives.same h (u:=.int k (if mx then(if b>a then b else a) else(if b<a then b else a))) ?_ (by simp[bC,Value.oneCell']);cases mx<;>simp[execOp,e,resolve,l,m,invoke,builtin,Builtin.min_,Builtin.max_,ic g,ic f,Builtin.min2,Builtin.max2]
theorem W5 (l:cj A w σ o) (a:∀x,bC A w σ o (bY x) (bX x)) {x:Operand} {i:Nat} (f:oper.op= .extract x i) {vs:List AV} (d:bY x= .bN vs) (h:vs[i]?=some v):Gives A P bX oper w σ o v o:=by
 have b:=a x;rw[d] at b;simp only[bC] at b;obtain⟨g,k,e⟩:=b;obtain⟨u,c,j⟩:=bI.get _ _ e i v h;simp_all[Gives.same,execOp,Instr.extract]
theorem u9 (a:∀x,bC A w σ o (bY x) (bX x)):∀l:List Operand,bI A w σ o (l.map bY) (l.map bX)
 |[]=>by simp[bI];|x::l=>by simp only[φ,bI];exact⟨_,_,rfl,a x,u9 a l⟩
theorem W6 (hS:cj A w σ o) (hρ:∀x,bC A w σ o (bY x) (bX x)) {t:TypeId} {x:Operand} {fs:Array Field} (ht:P.underlying t=some (.struct fs)) (hop:oper.op= .makeInterface t x) {cs:List AV} (hx:bY x= .agg cs) (hp:dx cs=true):Gives A P bX oper w σ o (.jo t cs) o:=by
 have h1:=hρ x;rw[hx] at h1;simp only[bC] at h1;obtain⟨vs,hv,hl⟩:=h1;refine Gives.same hS (u:=.iface t (.agg vs)) ?_ ?_;·simp[execOp,hop,Instr.makeInterface,run_underlying ht,hv]
 ·simp only[bC];exact⟨_,rfl,hp,hl⟩
theorem W7 (g:cj A w σ o) (e:∀x,bC A w σ o (bY x) (bX x)) {f:Fn} (d:∀l,FW l f=f) {a b:Array Operand} (c:oper.op= .makeFunc f a b):Gives A P bX oper w σ o (.fn f (a.toList.map bY) (b.toList.map bY)) o:=by
 refine Gives.same g (u:=.func f (a.map bX) (b.map bX)) (by simp[execOp,c,Instr.makeFunc]) ?_;simp only[bC];exact⟨_,_,by rw[d],by simp_all[u9],by simp_all[u9]⟩
end
section
variable {P:Program} {A:dT} {w w':World} {σ σ':cn} {o o':Store} {bY:Operand->AV} {bX:Operand->Value} {oper:Oper} {v:AV}
theorem wX {d k:Nat} {a:Option AV} {u:Option Value} (h:∀x,a=some x->∃y,u=some y/\bC A w σ o x y) (c:a=none->u=none) (b:ix d a=some k):
  (u=none/\k=d)\/∃q,u=some (.int q (k:Int)):=by
 unfold ix at b;grind[ic]
theorem NB (a:Bool) (b cap l h:Nat) (lo g:Option Value) (d:(lo=none/\l=0)\/∃q,lo=some (.int q (l:Int))) (e:(g=none/\h=b)\/∃q,g=some (.int q (h:Int))) (f:l<=h) (c:h<=cap):
  (Instr.sliceBounds a b cap lo g none).run P w= .ok (l,h,cap) w:=by
 have i:(0:Int)<=h/\(h:Int)<=cap:=by omega
 have j:(0:Int)<=l/\(l:Int)<=h:=by omega
 rcases d with⟨rfl,rfl⟩|⟨q,rfl⟩<;>rcases e with⟨rfl,rfl⟩|⟨k,rfl⟩<;>
  simp[Instr.sliceBounds,Instr.sliceBound,asIntOf,i,j,f,c]
theorem ri (a:∀x,bC A w σ o (bY x) (bX x)) (lo:Option Operand):(∀x,lo.map bY=some x->∃y,lo.map bX=some y/\bC A w σ o x y)/\(lo.map bY=none->lo.map bX=none):=by
 cases lo<;>simp_all
theorem W8 (hS:cj A w σ o) (p:∀x,bC A w σ o (bY x) (bX x)) {t e sz:Nat} {x:Operand} {lo m:Option Operand} (M:oper.op= .slice t x lo m none) (Y:P.underlying t=some (.slice e)) (S:sizeT P e=some sz) (a1:sz≠0)
  (h:qk o sz (bY x) (lo.map bY) (m.map bY)=some v):Gives A P bX oper w σ o v o:=by
 have B:=p x;have r:∀(a:Option Addr) (g f l k:Nat),bX x= .slice a g f->ix 0 (lo.map bY)=some l->ix g (m.map bY)=some k->l<=k->k<=f->
   bC A w σ o v (.slice (if f=l then a else a.map (·.add (l*sz))) (k - l) (f - l))->Gives A P bX oper w σ o v o:=by
  intro a g f l k q F C y T hr;refine Gives.same hS ?_ hr;have b1:=wX (ri p lo).1 (ri p lo).2 F;have b2:=wX (ri p m).1 (ri p m).2 C;simp only[execOp,M,Instr.sliceAt,q,Instr.slice];simp[run_underlying Y,NB true g f l k _ _ b1 b2 y T,qt S]
 unfold qk at h;split at h
 ·rename_i n cs z;rw[z] at B;simp only[bC] at B;obtain⟨a,f,q,hn,hp,hm⟩:=B;split at h
  ·rename_i l k F C;split at h
   ·rename_i R;injection h with h;subst h;refine r a n f l k q F C R.1 (by omega) ?_;simp only[bC];refine⟨_,_,rfl,by omega,?_,?_⟩
    ·refine tB λc a7=>qu hp c ?_;grind
    ·refine dB.lV _ _ _ λi c m=>?_;rw[δg] at m;split at m
     ·rename_i a2;rw[δW] at m;obtain⟨b,u,rfl,a4,U,hr⟩:=dB.get _ _ _ hm _ _ m;have D:f≠l:=by
       grind
      simp_all[add_block,add_add]
     ·cases m
   ·cases h
  ·cases h
 ·rename_i id E g s z;rw[z] at B;simp only[bC] at B;obtain⟨Q,a,f,q,a5,G⟩:=B;split at h
  ·rename_i l k F C;split at h
   ·rename_i cs e' d pu ho;split at h
    ·rename_i R;injection h with h;subst h;obtain⟨y,N,a0,rfl⟩:=R;refine r a g f l k q F C y (by omega) ?_;simp only[bC];refine⟨Q,_,_,rfl,by omega,λJ H=>?_⟩;have I:=G J H;obtain⟨a8,e2,a3,j,_⟩:=H;rw[ho] at j;injection j with j;injection j with _ _ hsz2 _;subst hsz2;unfold kO at I ⊢;split;·simp_all
     ·rename_i b c L;rw[L] at I;obtain⟨h2,h3,h4⟩:=I;have X:l*d+(k - l)*d=k*d:=by rw[<-εu];congr 1;omega
      have K:k*d<=g*d:=γI _ N;refine⟨λZ=>?_,λhz Y hs=>?_,?_⟩
      ·have D:f≠l:=by omega
       have j:sj (E+l*d) s d=sj E s d+l*d:=by
        rcases h4 with⟨h5,h6⟩|⟨h5,h6,h7⟩;·grind[pI]
        ·rw[BN (by omega),BN (by omega)];omega
       rw[h2 (by omega),if_neg D,j];simp_all[Addr.add]
      ·have O:l*d=0:=by omega
       have V:l=0:=by
        rcases Nat.mul_eq_zero.1 O with h|h<;>omega
       subst V;have a6:k*d=s:=by omega
       have W:k=g:=by
        have:g*d<=k*d:=by omega
        have:=Nat.le_of_mul_le_mul_right this hs;omega
       simp_all[Addr.add]
      omega
     simp_all
    ·cases h
   ·cases h
  ·cases h
 all_goals grind[bC,y7]
theorem W9 (f cap l h m:Nat) (lo:Option Value) (i g:Value) (b:(lo=none/\l=0)\/∃q,lo=some (.int q (l:Int))) (a:∃q,i= .int q (h:Int))
  (c:∃q,g= .int q (m:Int)) (d:l<=h) (e:h<=m) (j:m<=cap):
  (Instr.sliceBounds true f cap lo (some i) (some g)).run P w= .ok (l,h,m) w:=by
 have n:(0:Int)<=m/\(m:Int)<=cap:=by omega
 have o:(0:Int)<=h/\(h:Int)<=m:=by omega
 have k:(0:Int)<=l/\(l:Int)<=h:=by omega
 obtain⟨r,rfl⟩:=c;obtain⟨p,rfl⟩:=a;rcases b with⟨rfl,rfl⟩|⟨q,rfl⟩<;>
  simp[Instr.sliceBounds,Instr.sliceBound,asIntOf,n,o,k,d,e]
theorem Xa (hS:cj A w σ o) (C:∀x,bC A w σ o (bY x) (bX x)) {t e sz:Nat} {x:Operand} {lo:Option Operand} {s mx:Operand} (a0:oper.op= .slice t x lo (some s) (some mx)) (ht:P.underlying t=some (.slice e)) (Z:sizeT P e=some sz) (b6:¬sz=0)
  (h:sr o sz (bY x) (lo.map bY) (bY s) (bY mx)=some v):Gives A P bX oper w σ o v o:=by
 have r:=C x;have D:∀(a:Option Addr) (g j l k m:Nat),bX x= .slice a g j->ix 0 (lo.map bY)=some l->ix g (some (bY s))=some k->ix g (some (bY mx))=some m->l<=k->k<=m->m<=j->
   bC A w σ o v (.slice (if m=l then a else a.map (·.add (l*sz))) (k - l) (m - l))->Gives A P bX oper w σ o v o:=by
  intro a g j l k m p S M V F H a2 hr;refine Gives.same hS ?_ hr;have b1:=wX (ri C lo).1 (ri C lo).2 S;have f:∀(y:Operand) (n:Nat),ix g (some (bY y))=some n->∃q,bX y= .int q (n:Int):=by
   intro y n hy;rcases wX (a:=some (bY y)) (u:=some (bX y)) (λx r=>by injection r with r;subst r;exact⟨_,rfl,C y⟩) (λh=>by cases h) hy with⟨h,_⟩|⟨q,h⟩;all_goals simp_all
  have b2:=f s k M;have b4:=f mx m V;simp only[execOp,a0,Instr.sliceAt,p,Instr.slice];simp[run_underlying ht,W9 g j l k m _ _ _ b1 b2 b4 F H a2,qt Z]
 unfold sr at h;split at h
 ·rename_i n cs E;rw[E] at r;simp only[bC] at r;obtain⟨a,j,p,hn,hp,V⟩:=r;split at h
  ·rename_i l k m S M I;split at h
   ·rename_i U;injection h with h;subst h;refine D a n j l k m p S M I U.1 U.2.1 (by omega) ?_;simp only[bC];refine⟨_,_,rfl,by omega,?_,?_⟩
    ·refine tB λc a4=>qu hp c ?_;exact List.mem_of_mem_drop (List.mem_of_mem_take a4)
    ·refine dB.lV _ _ _ λi c s=>?_;rw[δg] at s;split at s
     ·rename_i b0;rw[δW] at s;obtain⟨b,u,rfl,a8,a3,hr⟩:=dB.get _ _ _ V _ _ s;have O:m≠l:=by
       grind
      simp_all[add_block,add_add]
     ·cases s
   ·cases h
  ·cases h
 ·rename_i id z g N E;rw[E] at r;simp only[bC] at r;obtain⟨a1,a,j,p,a9,L⟩:=r;split at h
  ·rename_i l k m S M I;split at h
   ·rename_i cs e' d pu ho;split at h
    ·rename_i U;injection h with h;subst h;obtain⟨F,H,b3,a5,rfl,T,K⟩:=U;refine D a g j l k m p S M I F H (by omega) ?_;simp only[bC];refine⟨a1,_,_,rfl,by omega,λY R=>?_⟩;have J:=L Y R;obtain⟨b5,e2,a7,B,_⟩:=R;rw[ho] at B;injection B with B;injection B with _ _ hsz2 _;subst hsz2;have a6:l*d+(k - l)*d=k*d:=by rw[<-εu];congr 1;omega
     have X:k*d<=g*d:=γI _ (by omega);unfold kO at J ⊢;split
     ·rename_i G;rw[G] at J;obtain⟨h2,h3,h4,h5⟩:=J;subst h3;exact⟨h2,by simp,by omega,by omega⟩
     ·rename_i b c G;rw[G] at J;obtain⟨h2,h3,h4⟩:=J;refine⟨λW=>?_,λhz=>by omega,.inr ⟨by omega,by omega,K⟩⟩;have O:m≠l:=by omega
      have Q:(⟨b,z,none⟩:Addr).add (l*d)=⟨b,z+l*d,none⟩:=by unfold Addr.add;split<;>simp_all
      rw[h2 (by omega),if_neg O,pI (by omega),BN (by omega),γm,Q,show z+l*d+(N+d) - N - d=z+l*d by omega]
     simp_all
    ·cases h
   ·cases h
  ·cases h
 ·cases h
theorem Xb (g:cj A w σ o) (a:∀x,bC A w σ o (bY x) (bX x)) {t l k:Nat} {x:Operand} {s:ByteArray} {lo b:Option Operand} (e:oper.op= .slice t x lo b none) (j:P.underlying t=some .string)
  (p:bY x= .sc (.string s)) (i:ix 0 (lo.map bY)=some l) (n:ix s.size (b.map bY)=some k) (c:l<=k) (d:k<=s.size):Gives A P bX oper w σ o (.sc (.string (s.extract l k))) o:=by
 have f:=a x;rw[p] at f;have m:=ic f;refine Gives.same g (u:=.string (s.extract l k)) ?_ (by simp[bC,Value.oneCell']);have h:=wX (ri a lo).1 (ri a lo).2 i;have q:=wX (ri a b).1 (ri a b).2 n;simp only[execOp,e,Instr.sliceAt,m,Instr.slice];simp[run_underlying j,NB false s.size s.size l k _ _ h q c d]
theorem F3 (place:Nat->Option (Nat×Nat)):∀(f:List (Nat×Nat×AV)) (b:List (Nat×Value)) (cs:List AV) (vs:Array Value) (h:List AV),
  f.length=b.length->(∀(i:Nat) (p:Nat×Nat×AV) (q:Nat×Value),f[i]?=some p->b[i]?=some q->place q.1=some (p.1,p.2.1)/\bC A w σ o p.2.2 q.2)->
  bI A w σ o cs vs.toList->eU cs=true->lC f cs=some h->
  ∃C,Instr.fill place vs b=some C/\bI A w σ o h C.toList/\eU h=true/\h.length=cs.length
 |[],[],cs,vs,h,_,_,G,L,r=>by
  simp only[lC,γ] at r;subst r;exact⟨vs,rfl,G,L,rfl⟩;|[],_::_,_,_,_,s,_,_,_,_=>by simp at s;|_::_,[],_,_,_,s,_,_,_,_=>by simp at s;|(e,n,a)::f,(i,u)::b,cs,vs,h,s,H,G,L,r=>by
  simp only[lC] at r;split at r
  ·rename_i O;obtain⟨J,S,U⟩:=O;obtain⟨I,K⟩:=H 0 (e,n,a) (i,u) rfl rfl;simp only at I K;obtain⟨Q,W⟩:=K.cells S;have t:=bI.length _ _ Q;have E:=bI.length _ _ G;have z:u.cells.size=n:=by rw[<-J,t];simp
   simp only[Instr.fill,I];rw[if_neg (by simp_all)];have M:∀(l:List Value) (k:Nat) (m:Array Value),((l.zipIdx k).foldl (λcs (p:Value×Nat)=>cs.setIfInBounds (e+p.2) p.1) m).size=m.size/\
     ∀j,e+k+l.length<=m.size->((l.zipIdx k).foldl (λcs (p:Value×Nat)=>cs.setIfInBounds (e+p.2) p.1) m)[j]?=if e+k<=j/\j<e+k+l.length then l[j - (e+k)]? else m[j]?:=by
    intro l;induction l with
    |nil=>intro k m;simp;omega;|cons x l ih=>
     intro k m;simp only[List.zipIdx_cons,List.foldl_cons];grind
   have D:Array.foldl (λcs (p:Value×Nat)=>cs.setIfInBounds (e+p.2) p.1) vs u.cells.zipIdx=(u.cells.toList.zipIdx 0).foldl (λcs (p:Value×Nat)=>cs.setIfInBounds (e+p.2) p.1) vs:=by
    rw[<-Array.foldl_toList];simp
   obtain⟨Z,P⟩:=M u.cells.toList 0 vs;have y:bI A w σ o (gj cs e a.cellsOf) ((u.cells.toList.zipIdx 0).foldl (λcs (p:Value×Nat)=>cs.setIfInBounds (e+p.2) p.1) vs).toList:=by
    refine bI.lV _ _ (by grind[ze]) λj c v=>?_;rw[BP _ _ _ (by omega)] at v;have F:=P j (by simp_all);simp only[δA];rw[F];simp only[Nat.add_zero,Array.length_toList,z];rw[J] at v;by_cases g:e<=j/\j<e+n
    ·rw[if_pos g] at v ⊢;grind[bI.get]
    ·rw[if_neg g] at v ⊢;grind[bI.get]
   have B:eU (gj cs e a.cellsOf)=true:=ng.2 λd Y=>by
    grind[zf,ng]
   obtain⟨C,V,T,X,k4⟩:=F3 place f b _ _ h (by simpa using s) (λi p q R N=>H (i+1) p q (by simpa using R) (by simpa using N)) y B r;grind[ze]
  ·cases r
end
section
variable {P:Program} {A:dT} {w w':World} {σ σ':cn} {o o':Store} {bY:Operand->AV} {bX:Operand->Value} {oper:Oper} {v:AV}
theorem F4 {d c:Type} {f:d->Option c}:∀{l:List d} {r:List c},rc f l=some r->l.length=r.length/\∀(i:Nat) (a:d) (b:c),l[i]?=some a->r[i]?=some b->f a=some b
 |[],r,h=>by grind[rc];|a::l,r,h=>by
  simp only[rc] at h;split at h
  ·rename_i b j m e;injection h with h;subst h;obtain⟨g,k⟩:=F4 e;grind
  ·cases h
theorem NC (H:cj A w σ o) (g:∀x,bC A w σ o (bY x) (bX x)) {t:TypeId} {place:Nat->Option (Nat×Nat)} {z:List Value} {a:Array (Nat×Operand)} {f:List (Nat×Nat×Operand)} {cs:List AV} (G:oper.op= .build t a)
  (J:lU P t=some z) (E:∀e:Value,(P.info? t).bind (·.zero)=some e->∀l,P.built t l=Instr.fill place e.cells l)
  (c:f.length=a.toList.length) (n:∀(i:Nat) (p:Nat×Operand) (q:Nat×Nat×Operand),a.toList[i]?=some p->f[i]?=some q->place p.1=some (q.1,q.2.1)/\q.2.2=p.2)
  (B:lC (f.map λp=>(p.1,p.2.1,bY p.2.2)) (z.map .sc)=some cs):Gives A P bX oper w σ o (.agg cs) o:=by
 obtain⟨i,e,N,D,d,h,b⟩:=u7 J;obtain⟨r,Q,L,K,O⟩:=F3 (w:=w) (σ:=σ) (o:=o) place (f.map λp=>(p.1,p.2.1,bY p.2.2)) (a.toList.map λp=>(p.1,bX p.2)) (z.map .sc) e.cells cs (by simpa using c)
  (λj p q v s=>by
   rw[List.getElem?_map,ε] at v s;obtain⟨C,m,rfl⟩:=v;obtain⟨F,k,rfl⟩:=s;obtain⟨I,y⟩:=n j F C k m;exact⟨I,by simp only[y];exact g _⟩) (by grind[wV]) (FZ b) B;have M:P.built t (a.toList.map λp=>(p.1,bX p.2))=some r:=by simp_all
 refine Gives.same H (u:=.agg r) ?_ (by grind[bC]);simp_all[run_build,execOp]
theorem ND (A:dT) (w:World) (σ:cn) (o:Store) {z:List Value} (a:∀u∈z,u.oneCell'=true) (b:Array Value) (q:b.toList=z):∀n:Nat,
  bI A w σ o (δ n (z.map δe)).flatten (madeCells b (n*z.length)).toList:=by
 intro n;have i:((δ n (z.map δe)).flatten).length=n*z.length:=by simp
 refine bI.lV _ _ (by simp[madeCells]) λj c d=>?_;have e:j<n*z.length:=by grind
 have f:∀(n j:Nat),j<n*z.length->((δ n (z.map δe)).flatten)[j]?=(z.map δe)[j % z.length]?:=by
  intro n;induction n with
  |zero=>omega;|succ n m=>
   intro j d;rw[δk,ε9,εn];simp only[List.length_map];by_cases h:j<z.length;·rw[if_pos h,Nat.mod_eq_of_lt h]
   ·rw[if_neg h,m (j - z.length) (by grind)];congr 1;rw[Nat.mod_eq_sub_mod (by omega:j≥z.length)]
 rw[f n j e] at d;obtain⟨u,r,l⟩:=bI.get _ _ (wV A w σ o z a) _ c d;refine⟨u,?_,l⟩;have k:b.size=z.length:=by grind
 have g:0<z.length:=by
  grind
 have p:j % z.length<b.size:=by grind
 simp only[madeCells,δA];grind
theorem NF {z:List Value} (a:∀u∈z,u.oneCell'=true) (n:Nat):eU (δ n (z.map δe)).flatten=true:=by
 refine ng.2 λc b=>?_;simp only[ζP,ε0] at b;grind[ng,FZ]
theorem Xc (z:List Value) (n:Nat):dx (δ n (z.map δe)).flatten=true:=by
 refine tB λc a=>?_;simp only[ζP,ε0] at a;grind[qu,Nv]
theorem NG (r:∀x,bC A w σ o (bY x) (bX x)) {t e b:Nat} {z:List Value} {a:Array (Nat×Operand)} {cs:List AV} (F:P.underlying t=some (.slice e)) (E:lU P e=some z) (m:0<z.length) (C:b*z.length<=16777216)
  (B:lC ((a.toList.map λp=>(p.1*z.length,p.2)).map λp=>(p.1,z.length,bY p.2)) (δ b (z.map δe)).flatten=some cs):
  ∃g:Array Value,(Instr.buildSlice t b (a.map λp=>(p.1,bX p.2))).run P w= .ok (.slice (some ⟨w.heap.size,0,none⟩) b b) (w.alloc (.cells g e))/\bI A w σ o cs g.toList/\eU cs=true/\cs.length=b*z.length:=by
 obtain⟨i,k,H,l,c,f,d⟩:=u7 E;have v:k.cells.size=z.length:=by grind
 obtain⟨g,n,D,u,s⟩:=F3 (w:=w) (σ:=σ) (o:=o) (λi=>some (i*z.length,z.length)) ((a.toList.map λp=>(p.1*z.length,p.2)).map λp=>(p.1,z.length,bY p.2))
  (a.toList.map λp=>(p.1,bX p.2)) _ (madeCells k.cells (b*z.length)) cs (by simp)
  (λj p q K J=>by
   grind) (ND A w σ o d k.cells c b) (NF d b) B;have y:cs.length=b*z.length:=by rw[s];simp
 refine⟨g,?_,D,u,y⟩;by_cases I:b*z.length=0
 ·have G:b=0:=by
   rcases Nat.mul_eq_zero.1 I with h|h<;>omega
  simp_all[madeCells,Array.range_zero',Instr.buildSlice,run_underlying,sizeOf,typeInfo,newRow]
 ·exact run_buildSlice w t e b _ g i k F H l (by simp_all) (by simp_all) (by
   rw[f];have:(a.map λp=>(p.1,bX p.2)).toList=a.toList.map λp=>(p.1,bX p.2):=by simp
   rw[this];exact n)
theorem Xd (r:cj A w σ o) (l:∀x,bC A w σ o (bY x) (bX x)) {t e a bF:Nat} {z:List Value} {b:Array (Nat×Operand)} {cs:List AV} (E:oper.op= .buildSlice t a b) (H:P.underlying t=some (.slice e))
  (y:lU P e=some z) (d:0<z.length) (i:a*z.length<=16777216)
  (B:lC ((b.toList.map λp=>(p.1*z.length,p.2)).map λp=>(p.1,z.length,bY p.2)) (δ a (z.map δe)).flatten=some cs) (s:o[bF]?=some .dead):
  Gives A P bX oper w σ o (.os bF 0 a (a*z.length)) (o.set bF (.cells (eI (dx cs) cs) e z.length (dx cs))):=by
 obtain⟨q,J,v,G,K⟩:=NG l H y d i B;have f:bF<o.length:=(ι.1 s).1;have m:bF<σ.length:=by rw[r.len];exact f
 have g:q.size=a*z.length:=by have:=bI.length _ _ v;simp_all
 have n:a<=maxLen:=by
  have:a*1<=a*z.length:=Nat.mul_le_mul_left _ d;grind[maxLen]
 obtain⟨k,D⟩:=r.BR (w:=w) (arr:=q) (e:=e) (sz:=z.length) (cap:=a) (pu:=dx cs) (cs:=eI (dx cs) cs) s g n (by grind[tu]) (FX G) (λh=>BO h)
  (λj c N=>by grind[FY]);refine⟨.slice (some ⟨w.heap.size,0,none⟩) a a,_,_,.inl ?_,k,?_,D⟩;·simp_all[execOp]
 ·simp only[bC];refine⟨⟨_,_,_,_,by rw[δv f],by grind[tu]⟩,_,_,rfl,ψ _,λM C=>?_⟩;obtain⟨F,L,I,u,_⟩:=C;grind[kO,pI]
theorem cj.grow (a:cj A w σ o) (x:Obj):cj A (w.alloc x) σ o/\Ext w σ o (w.alloc x) σ o:=by
 have e:Ext w σ o (w.alloc x) σ o:=⟨by simp,λb d g=>⟨heap_alloc_old w x b d,g⟩,ψ _,λ_ _ h=>⟨h,λ_ h=>⟨h,rfl⟩⟩,λ_ h=>⟨h,rfl⟩,rfl,rfl,rfl⟩;exact⟨⟨a.len,a.dist,λi b c h=>γj (a.bnd i b c h) (by simp),λi y f=>(a.obj i y f).ext e rfl λb c d=>heap_alloc_old w x b (a.bnd i b c d),a.av,λb d=>γj (a.kn b d) (by simp)⟩,e⟩
theorem Xe (f:cj A w σ o) (h:∀x,bC A w σ o (bY x) (bX x)) {t e a:Nat} {z:List Value} {b:Array (Nat×Operand)} {cs:List AV} (r:oper.op= .buildSlice t a b) (C:P.underlying t=some (.slice e))
  (q:lU P e=some z) (d:0<z.length) (g:a*z.length<=16777216)
  (v:lC ((b.toList.map λp=>(p.1*z.length,p.2)).map λp=>(p.1,z.length,bY p.2)) (δ a (z.map δe)).flatten=some cs) (s:dx cs=true):
  Gives A P bX oper w σ o (.sl a (eI true cs)) o:=by
 obtain⟨m,F,D,G,H⟩:=NG h C q d g v;obtain⟨k,l⟩:=f.grow (.cells m e);refine⟨.slice (some ⟨w.heap.size,0,none⟩) a a,_,_,.inl ?_,k,?_,l⟩;·simp_all[execOp]
 ·simp only[bC];refine⟨_,_,rfl,ψ _,BO s,dB.lV _ _ _ λj c B=>?_⟩;obtain⟨u,I,y⟩:=FY D B;refine⟨_,u,rfl,?_,?_,y.ext l⟩
  ·refine⟨?_,λn=>by have:=f.kn _ n;simp at this⟩;rintro⟨i,c,E⟩;have:=f.bnd i _ c E;simp at this
  grind[Addr.add,World.cell?,heap_alloc_new]
theorem Xf (pu:Bool) (n:Nat) (cs:List AV):(δ n (eI pu cs)).flatten=eI pu (δ n cs).flatten:=by
 unfold eI;split<;>simp_all
theorem Xg (D:cj A w σ o) (p:∀x,bC A w σ o (bY x) (bX x)) {t e bF a:Nat} {z:List Value} {l c:Operand} {n m:Int} {pu:Bool} (V:oper.op= .makeSlice t l c) (Z:P.underlying t=some (.slice e))
  (hz:lU P e=some z) (hb:wO P e=some a) (S:iw (bY l)=some n) (I:iw (bY c)=some m) (H:0<=n) (v:n<=m) (W:m*a<=140737488355328) (hm:m<=1000000000000)
  (E:o[bF]?=some .dead):Gives A P bX oper w σ o (.os bF 0 n.toNat (n.toNat*z.length)) (o.set bF (.cells (δ n.toNat (eI pu (z.map δe))).flatten e z.length pu)):=by
 rw[Xf];obtain⟨i,q,hi,B,b,f,d⟩:=u7 hz;obtain⟨O,T⟩:=wW (p l) S;obtain⟨M,N⟩:=wW (p c) I;have K:i.bytes=a:=by grind[wO]
 have g:=run_make (P:=P) w t e i q Z hi B O M n m H v (by grind) (by omega);rw[f] at g;have k:bF<o.length:=(ι.1 E).1;have s:bF<σ.length:=by rw[D.len];exact k
 have J:n.toNat*z.length<=m.toNat*z.length:=γI _ (by omega);have h:=ND A w σ o d q.cells b m.toNat;obtain⟨C,U⟩:=D.BR (w:=w) (arr:=madeCells q.cells (m.toNat*z.length)) (e:=e) (sz:=z.length) (cap:=m.toNat) (pu:=pu) (cs:=eI pu (δ n.toNat (z.map δe)).flatten) E (by simp[madeCells])
  (by grind[maxLen]) (by simp_all[tu,madeCells]) (FX (NF d _)) (λ_=>BO (Xc _ _))
  (λj c F=>by
   have L:bI A w σ o (δ n.toNat (z.map δe)).flatten ((madeCells q.cells (m.toNat*z.length)).toList.take (n.toNat*z.length)):=by
    refine bI.lV _ _ (by simp_all[madeCells]) λj c F=>?_;have X:=(ι.1 F).1;have G:j<n.toNat*z.length:=by simp_all
    have r:(δ m.toNat (z.map δe)).flatten=(δ n.toNat (z.map δe)).flatten++(δ (m.toNat - n.toNat) (z.map δe)).flatten:=by
     rw[<-List.flatten_append,List.replicate_append_replicate];grind
    obtain⟨u,hu,hr⟩:=bI.get _ _ h j c (by grind);simp_all
   grind[FY]);refine⟨.slice (some ⟨w.heap.size,0,none⟩) n.toNat m.toNat,_,_,.inl ?_,C,?_,U⟩;·simp_all[execOp]
 ·simp only[bC];refine⟨⟨_,_,_,_,by rw[δv k],by rw[tu];simp⟩,_,_,rfl,by omega,λsz y=>?_⟩;obtain⟨Y,e2,Q,R,_⟩:=y;grind[kO,pI]
end
section
variable {P:Program} {A:dT} {w w':World} {σ σ':cn} {o o':Store} {bY:Operand->AV} {bX:Operand->Value} {oper:Oper} {v:AV}
theorem F5 (b a j:Nat):(⟨b,a,none⟩:Addr).add j=⟨b,a+j,none⟩:=by grind[Addr.add]
theorem Xh (C:cj A w σ o) {sz:Nat} (B:0<sz) {a:AV} {u:Value} (h:bC A w σ o a u) {m:Nat} {i:List AV} (f:nc o sz a=some (m,i)):
  ∃Z c,u= .slice Z m c/\m<=c/\i.length=m*sz/\∀(j:Nat) (d:AV),i[j]?=some d->∃(p:Addr) (v:Value),Z=some p/\w.cell? (p.add j)=some v/\bC A w σ o d v:=by
 unfold nc at f;split at f;·grind[bC,dB.get]
 ·rename_i F J s E;simp only[bC] at h;obtain⟨H,Z,t,rfl,D,k⟩:=h;split at f
  ·rename_i G e r K x;split at f
   ·rename_i g;obtain⟨l,rfl,q⟩:=g;simp only[γ,κ] at f;obtain⟨rfl,rfl⟩:=f;have y:=k r ⟨G,e,K,x,l⟩;refine⟨Z,t,rfl,D,by simp;omega,λj d n=>?_⟩;rw[δg] at n;split at n
    ·rename_i M;rw[δW] at n;have z:0<s:=by
      grind
     unfold kO at y;split at y;·omega
     ·rename_i b c I;have L:=C.obj F _ x;grind[dF,pI,F5,World.cell?]
     simp_all
    ·cases n
   ·cases f
  ·cases f
 all_goals grind[ic]
theorem Xi {t g e:TypeId} {i:TypeInfo} (b:P.underlying t=some (.slice e)) (d:P.info? e=some i) (B Z:Option Addr) (n c f:Nat) (a:n<=c) (w:World):
  (Builtin.append_ #[t,t] g #[.slice B n c,.slice Z 0 f]).run P w= .ok (.slice B n c) w:=by
 cases B<;>cases Z<;>simp[Builtin.append_,run_underlying b,sizeOf,typeInfo,d,Builtin.lenOf,Builtin.firstCells,a,loadCells,loadCellsFrom,storeCells]
theorem F6 {t:TypeId} {c:Call} {s x:Operand} (a:oper.op= .call c) (e:c.callee= .builtin .append) (d:c.args=#[s,x]) (b:c.argTypes=#[t,t]) {u:Value}
  (h:(Builtin.append_ #[t,t] oper.type #[bX s,bX x]).run P w= .ok u w'):(execOp bX oper).run P w= .ok (.value u) w':=by
 simp[execOp,a,resolve,e,d,b,invoke,builtin,h]
theorem NH {A:dT} {w:World} {σ:cn} {o:Store} {Z:Option Addr}:∀(a:List AV) (k:Nat),(∀(j:Nat) (d:AV),a[j]?=some d->∃(p:Addr) (v:Value),Z=some p/\w.cell? (p.add (k+j))=some v/\bC A w σ o d v)->
  ∃vs:List Value,bI A w σ o a vs/\∀(p:Addr),Z=some p->∀(j:Nat) (u:Value),vs[j]?=some u->w.cell? (p.add (k+j))=some u
 |[],_,_=>⟨[],by simp[bI],by simp⟩
 |d::a,k,h=>by
  obtain⟨p,v,i,l,e⟩:=h 0 d (by simp);obtain⟨vs,c,g⟩:=NH a (k+1) (λj b f=>by
   have:=h (j+1) b (by simp_all);rwa [show k+1+j=k+(j+1) from by omega]);refine⟨v::vs,by grind[bI],λq m j u n=>?_⟩;grind
theorem NI {A:dT} {w:World} {σ:cn} {o:Store}:∀{cs:List AV} {vs:List Value},bI A w σ o cs vs->eU cs=true->∀u∈vs,u.oneCell'=true
 |[],vs,d,_=>by grind[bI];|c::cs,vs,d,a=>by
  simp only[bI] at d;obtain⟨v,r,rfl,e,f⟩:=d;simp only[eU,ζi,θ] at a;intro u b;rcases γD.1 b with rfl|b;·exact e.one a.1
  ·exact NI f a.2 u b
theorem Xj (hS:cj A w σ o) (c4:∀x,bC A w σ o (bY x) (bX x)) {t e sz f bF:Nat} {z:List Value} {c:Call} {s x:Operand} {pu:Bool} (c1:oper.op= .call c) (hc:c.callee= .builtin .append) (ha:c.args=#[s,x]) (c6:c.argTypes=#[t,t])
  (ht:P.underlying t=some (.slice e)) (hz:lU P e=some z) (hb:wO P e=some f) (f1:sz=z.length) (y:0<sz) (h:qj e sz f pu (bY s) (bY x) o bF=some (v,o')):Gives A P bX oper w σ o v o':=by
 obtain⟨i,zv,hi,c8,c9,e3,f0⟩:=u7 hz;have c7:i.bytes=f:=by grind[wO]
 have b3:i.size=sz:=by omega
 have c3:zv.cells.size=sz:=by grind
 unfold qj at h;split at h;·cases h
 rename_i m q e1;split at h;·cases h
 rename_i h1;have b1:eU q=true:=by simpa using h1
 obtain⟨Z,cx,g0,f9,b7,K⟩:=Xh hS y (c4 x) e1;have d3:∀(B:Option Addr) (n l:Nat),m=0->bX s= .slice B n l->n<=l->(execOp bX oper).run P w= .ok (.value (.slice B n l)) w:=by
  grind[F6,Xi]
 obtain⟨vs,a4,f6⟩:=NH (w:=w) (σ:=σ) (o:=o) (Z:=Z) q 0 (λj d hd=>by simpa using K j d hd);have M:vs.length=m*sz:=by grind[bI.length]
 have J:=NI a4 b1;have hs:=c4 s;split at h;·
  rename_i a1;rw[a1] at hs;have d8:=ic hs;split at h;·grind[Gives.same,y7]
  ·rename_i a7;split at h
   ·rename_i F;obtain⟨a8,b9,a9⟩:=F;cases U:lg bF (.cells q e sz pu) o with
    |none=>simp[U] at h;|some o2=>
     simp only[U,γm,γ,κ] at h;obtain⟨rfl,rfl⟩:=h;obtain⟨hd,rfl⟩:=wU U;have L:bF<o.length:=(ι.1 hd).1;have X:bF<σ.length:=by rw[hS.len];exact L
     have a0:0<q.length:=by rw[b7];exact Nat.mul_pos (by omega) y
     obtain⟨p,_,hp,_⟩:=K 0 _ (μ a0);obtain⟨v',N,b8,r,a,c5,e0⟩:=run_append_own_at (P:=P) w w.heap.size t oper.type e i zv sz f ht hi c8 b3 c7 c3 y (.slice none 0 0) 0 [] (World.ownsRow_nil w _ _ _) p m cx vs M
      (λj u hu=>by simp_all) J (by grind[maxLen]) (by simp_all) (ψ _);have G:=F6 (P:=P) (w:=w) (w':=N) (bX:=bX) c1 hc ha c6 (u:=v') (by simp_all);simp only[Nat.zero_add,List.nil_append] at r;rcases r.2 with⟨I,d4⟩|⟨g,l,O,I,hg,hh,H,a2,a3,b4⟩;·omega
     ·have d9:g<N.heap.size:=(γP.1 hh).1;obtain⟨Y,hE⟩:=cj.upd (w':=N) (x:=.dead) (x':=.cells q e sz pu) (s':=some (g,l)) hS hd a.size a.os a.tape a.output (λb W _=>a.block b W (by simp[Value.ownBlock]))
       (λb c2 h2=> .inr (by simp_all)) trivial (λhE=>by
        simp only[dF];refine⟨λb2=>a9.resolve_left (by simp[b2]),b1,.inr ⟨g,l,O,by simp_all,a2,hh,a3,by
         grind,λj d T=>?_⟩⟩;obtain⟨u,hu,hr⟩:=bI.get _ _ a4 j d T;refine⟨u,?_,hr.ext hE⟩;grind);refine⟨v',N,_,.inl G,Y,?_,hE⟩;simp only[bC];refine⟨⟨_,_,_,_,by rw[δv L],by omega⟩,_,_,I,H,λe6 a5=>?_⟩;obtain⟨e4,e2,d5,d6,_⟩:=a5;grind[kO,pI]
   ·cases h
 ·
  rename_i id E f2 a1;rw[a1] at hs;simp only[bC] at hs;obtain⟨f3,B,C,d8,S,b6⟩:=hs;split at h
  ·rename_i cs e' D R ho;split at h
   ·rename_i F;obtain⟨c0,rfl,rfl,a6,a8,b9,a9⟩:=F;simp only[γ,κ] at h;obtain⟨rfl,rfl⟩:=h;have L:id<o.length:=(ι.1 ho).1;have X:id<σ.length:=by rw[hS.len];exact L
    have hk:=b6 D ⟨cs,e',R,ho,c0⟩;have Q:=hS.obj id _ ho;simp only[dF] at Q;obtain⟨q1,q2,q3⟩:=Q;rcases Nat.eq_zero_or_pos m with a7|e5;·
     have d7:q=[]:=π (by rw[b7,a7];simp);subst a7 d7;have e7:o.set id (.cells (cs++[]) e' D R)=o:=by
      apply δd;grind
     grind[Gives.same]
    ·have a0:0<q.length:=by simp_all
     obtain⟨p,_,hp,_⟩:=K 0 _ (μ a0);have b5:∃xs:List Value,w.ownsRow 0 e' D (.slice B E C) E xs/\bI A w σ o cs xs/\(∀k,(Value.slice B E C).ownBlock=some k->∃d,σ[id]?=some (some (k,d))):=by
      unfold kO at hk;split at hk;·simp_all[World.ownsRow_nil,Value.ownBlock,bI]
      ·rename_i b l d2;obtain⟨k1,k2,k3⟩:=hk;obtain⟨k4,k5⟩:=k2 rfl a6 y;subst k4 k5;rcases q3 with⟨h0,_⟩|⟨b',e8,b0,r1,r2,r3,r4,r5,r6⟩;·simp_all
       rw[d2] at r1;simp only[γ,κ] at r1;obtain⟨rfl,rfl⟩:=r1;refine⟨b0.toList.take (E*D),⟨by simp;omega,.inr ⟨b,C,b0,rfl,εT _,r3,S,r2,r4,rfl⟩⟩,bI.lV _ _ (by simp;omega) λj d hd=>?_,λk hk=>⟨C,by grind[Value.ownBlock]⟩⟩;grind
      ·exact hk.elim
     obtain⟨xs,V,d1,e9⟩:=b5;obtain⟨v',N,b8,r,a,c5,e0⟩:=run_append_own_at (P:=P) w 0 t oper.type e' i zv D f ht hi c8 b3 c7 c3 y (.slice B E C) E xs V p m cx vs M
      (λj u hu=>by simp_all) J (by grind[maxLen]) a8 (εT _);have G:=F6 (P:=P) (w:=w) (w':=N) (bX:=bX) c1 hc ha c6 (u:=v') (by simp_all);rcases r.2 with⟨I,d4⟩|⟨g,l,O,I,hg,hh,H,a2,a3,b4⟩;·omega
     ·have d9:g<N.heap.size:=(γP.1 hh).1;have f4:(∃d,σ[id]?=some (some (g,d)))\/g=w.heap.size:=by
       have f5:v'.ownBlock=some g:=by rw[I];rfl
       grind
      have d0:(cs++q).length=(E+m)*D:=by grind
      obtain⟨Y,hE⟩:=cj.upd (w':=N) (x':=.cells (cs++q) e' D R) (s':=some (g,l)) hS ho a.size a.os a.tape a.output
       (λb W f7=>a.block b W (λhe=>by grind))
       (λb c2 h2=>by
        grind)
       ⟨_,_,_,rfl,by simp,λf8=>by grind⟩ (λhE=>by
        simp only[dF];refine⟨λb2=>tB λd hd=>?_,ng.2 λd hd=>?_,.inr ⟨g,l,O,by simp_all,a2,hh,a3,by
         have:(O.toList.take ((E+m)*D)).length=(xs++vs).length:=by rw[b4]
         rw[r.1] at this;simp at this;omega,λj d T=>?_⟩⟩;·grind[qu]
        ·grind[ng]
        ·obtain⟨u,hu,hr⟩:=bI.get _ _ (bI.append d1 a4) j d T;refine⟨u,?_,hr.ext hE⟩;grind);refine⟨v',N,_,.inl G,Y,?_,hE⟩;simp only[bC];refine⟨⟨_,_,_,_,by rw[δv L],by rw[d0,εu];omega⟩,_,_,I,H,λe6 a5=>?_⟩;obtain⟨e4,e2,d5,d6,_⟩:=a5;grind[kO,pI]
   ·cases h
  ·cases h
 all_goals grind[bC,Gives.same]
end
section
variable {P:Program} {A:dT} {w w':World} {σ σ':cn} {o o':Store} {bY:Operand->AV} {bX:Operand->Value} {oper:Oper} {v:AV}
def lW (P:Program) (t:TypeId) (l:List Value):Value:=
 match fO P t with
 |some true=> .agg l.toArray
 |_=>l.headD undef
theorem nh:∀{a:List Nat} {vs:List Value},eJ a vs=true->vs.length=a.length
 |[],[],_=>rfl
 |[],_::_,h=>by grind[eJ];|k::a,[],h=>by grind[eJ];|0::a,v::vs,h=>by cases v<;>simp only[eJ,Γ] at h<;>simp[nh h];|1::a,v::vs,h=>by cases v<;>simp only[eJ,Γ] at h<;>simp[nh h];|2::a,v::vs,h=>by cases v<;>simp only[eJ,Γ] at h<;>simp[nh h];|(k+3)::a,v::vs,h=>by simp[eJ] at h
theorem sx:∀{a b:List Nat} {vs:List Value},eJ (a++b) vs=true->eJ a (vs.take a.length)=true/\eJ b (vs.drop a.length)=true
 |[],b,vs,h=>by grind[eJ];|k::a,b,[],h=>by grind[eJ];|0::a,b,v::vs,h=>by cases v<;>simp only[γC,eJ,Γ] at h<;>simpa[eJ] using sx h;|1::a,b,v::vs,h=>by cases v<;>simp only[γC,eJ,Γ] at h<;>simpa[eJ] using sx h;|2::a,b,v::vs,h=>by cases v<;>simp only[γC,eJ,Γ] at h<;>simpa[eJ] using sx h;|(k+3)::a,b,v::vs,h=>by simp[eJ] at h
theorem F7:∀(n:Nat) {xs e:List Value} {r:Bool},gA xs e=some r->
  ∃a b,gA (xs.take n) (e.take n)=some a/\gA (xs.drop n) (e.drop n)=some b/\r=(a&&b)
 |0,xs,e,r,h=>⟨true,r,by simp[gA],by simpa using h,by simp⟩
 |n+1,[],[],r,h=>by simp_all;|n+1,[],_::_,r,h=>by grind[gA];|n+1,_::_,[],r,h=>by grind[gA];|n+1,x::xs,y::e,r,h=>by
  simp only[gA] at h;split at h
  ·rename_i a b j f;injection h with h;obtain⟨c,d,k,i,g⟩:=F7 n f;grind[gA]
  ·cases h
theorem zg {m:Nat} {t:TypeId} {d:List Nat} (h:gB P (m+1) t=some d):
  (P.underlying t=some .bool/\sizeT P t=some 1/\d=[1])\/(∃k,P.underlying t=some (.int k)/\sizeT P t=some 1/\d=[0])\/(P.underlying t=some .string/\sizeT P t=some 1/\d=[2])\/
  (∃fs,P.underlying t=some (.struct fs)/\P.stoodInHeld t=false/\rb (gB P m) 0 fs.toList=some d/\sizeT P t=some d.length)\/
  ∃k e a,P.underlying t=some (.array k e)/\gB P m e=some a/\d=(δ k a).flatten/\sizeT P t=some (k*a.length):=by
 simp only[gB] at h;split at h;·rename_i k b c;injection h with h;exact .inr (.inl ⟨k,b,c,h.symm⟩)
 ·rename_i b c;injection h with h;exact .inl ⟨b,c,h.symm⟩
 ·rename_i b c;injection h with h;exact .inr (.inr (.inl ⟨b,c,h.symm⟩))
 ·rename_i fs n b c;split at h;·cases h
  ·rename_i i;split at h
   ·rename_i a f;split at h
    ·rename_i g;injection h with h;subst h;exact .inr (.inr (.inr (.inl ⟨fs,b,by simp_all,f,by rw[g];exact c⟩)))
    ·cases h
   ·cases h
 ·rename_i k e n b c;split at h
  ·rename_i a f;split at h
   ·rename_i g;injection h with h;subst h;exact .inr (.inr (.inr (.inr ⟨k,e,a,b,f,rfl,by rw[<-g];exact c⟩)))
   ·cases h
  ·cases h
 ·cases h
theorem wY {m:Nat} {t:TypeId} {d:List Nat} (h:gB P m t=some d):sizeT P t=some d.length/\(∃b,fO P t=some b):=by
 cases m with
 |zero=>grind[gB];|succ m=>
  rcases zg h with⟨a,c,rfl⟩|⟨k,a,c,rfl⟩|⟨a,c,rfl⟩|⟨g,a,_,_,c⟩|⟨k,e,f,a,_,rfl,c⟩;all_goals simp_all[fO]
theorem wZ {t:TypeId} {e:List Nat} (i:sizeT P t=some e.length) (k:∃b,fO P t=some b) (c:fO P t=some false->e.length=1) (xs:Array Value) (a:Nat) (j:a+e.length<=xs.size) (w:World):
  (part t xs a).run P w= .ok (lW P t ((xs.toList.drop a).take e.length)) w:=by
 obtain⟨b,d⟩:=k;cases b with
 |true=>
  simp only[part,Sem.run_bind,wT d,Result.andThen_ok,if_true,qt i,Sem.run_pure,lW,d];congr 2;grind;|false=>
  have g:=c d;have f:a<xs.size:=by omega
  simp only[part,Sem.run_bind,wT d,Result.andThen_ok,Γ,if_false,lW,d,g];rw[Array.getElem?_eq_getElem f];have h:xs.toList.drop a=xs[a]::xs.toList.drop (a+1):=by
   rw[List.drop_eq_getElem_cons (by omega)];simp
  rw[h];simp
theorem vd {m:Nat} {t:TypeId} {a:List Nat} (h:gB P m t=some a) (b:fO P t=some false):a.length=1:=by
 cases m<;>grind[gB,zg,fO]
theorem BS (d:Nat):∀(m:Nat) (t:TypeId) (I:List Nat),gB P m t=some I->∀(xs h:List Value) (r:Bool),eJ I xs=true->eJ I h=true->gA xs h=some r->∀w:World,
  (Op.equalIn (d+m) t (lW P t xs) (lW P t h)).run P w= .ok r w
 |0,t,I,hk,_,_,_,_,_,_,_=>by grind[gB];|m+1,t,I,hk,xs,h,r,O,R,G,w=>by
  rw[show d+(m+1)=(d+m)+1 from rfl];rcases zg hk with⟨s,U,rfl⟩|⟨k,s,U,rfl⟩|⟨s,U,rfl⟩|⟨fs,s,a1,x,U⟩|⟨k,e,c,s,x,rfl,U⟩;·match xs,h,O,R with
   |[.bool a],[.bool b],_,_=>
    simp[gA,seq1] at G;subst G;simp[lW,fO,s,Op.equalIn,run_underlying s]
  ·match xs,h,O,R with
   |[.int k1 a],[.int k2 b],_,_=>
    simp only[gA,seq1] at G;by_cases he:k1=k2
    ·subst he;simp at G;subst G;simp[lW,fO,s,Op.equalIn,run_underlying s]
    simp_all
  ·match xs,h,O,R with
   |[.string a],[.string b],_,_=>
    simp[gA,seq1] at G;subst G;simp[lW,fO,s,Op.equalIn,run_underlying s,beq_toListBytes]
  ·have D:fO P t=some true:=by grind[fO]
   simp only[lW,D];have X:P.fieldsOf t=fs:=by grind[Program.fieldsOf]
   rw[run_equalIn_struct w (d+m) t xs.toArray h.toArray (by simp_all) a1,X];have K:=nh O;have M:=nh R;have L:∀(N:List Field) (g:Nat) (o:List Nat),rb (gB P m) g N=some o->g+o.length=I.length->∀r,eJ o (xs.drop g)=true->eJ o (h.drop g)=true->
     gA (xs.drop g) (h.drop g)=some r->(Op.eqFields (d+m) xs.toArray h.toArray N).run P w= .ok r w:=by
    intro N;induction N with
    |nil=>
     intro g o p hl r C A J;simp only[rb,γ] at p;subst p;have e1:=nh C;have e2:=nh A;have g1:xs.drop g=[]:=π (by omega);have g2:h.drop g=[]:=π (by omega);simp_all[gA,Op.eqFields];|cons f N ih=>
     intro g o p hl r C A J;simp only[rb] at p;split at p;·cases p
     ·rename_i a4;split at p
      ·rename_i V z;split at p
       ·rename_i r2 Y;injection p with p;subst p;obtain⟨y,u⟩:=wY z;obtain⟨F,l⟩:=sx C;obtain⟨H,n⟩:=sx A;obtain⟨a,b,h4,B,h6⟩:=F7 V.length J;rw[δi] at l n B;rw[δi] at B;have v:f.name≠ "_" ∧f.offset=g:=by
         simp_all
        rw[γq] at hl;have T:=wZ y u (λE=>vd z E) xs.toArray f.offset (by grind) w;have S:=wZ y u (λE=>vd z E) h.toArray f.offset (by grind) w;rw[v.2] at T S;have W:=BS d m f.type V z _ _ a F H h4 w;have p4:=ih (g+V.length) r2 Y (by omega) b l n B;simp only[Op.eqFields,v.1,ne_eq,not_false_eq_true,if_true,v.2,Sem.run_bind,T,S,Result.andThen_ok,W];cases a<;>simp_all
       ·cases p
      ·cases p
   grind
  ·obtain⟨y,u⟩:=wY x;obtain⟨i,hi⟩:∃i,P.info? e=some i:=by
    cases hi:P.info? e<;>grind[sizeT]
   have a0:P.cellsOf e=c.length:=by
    grind[sizeT,Program.cellsOf]
   have D:fO P t=some true:=by grind[fO]
   simp only[lW,D];rw[run_equalIn_array w (d+m) xs.toArray h.toArray s hi,a0];have K:=nh O;have M:=nh R;have Z:((δ k c).flatten).length=k*c.length:=by simp
   rw[Z] at K M;have L:∀(q j:Nat),j+q=k->∀r,eJ ((δ q c).flatten) (xs.drop (j*c.length))=true->eJ ((δ q c).flatten) (h.drop (j*c.length))=true->
     gA (xs.drop (j*c.length)) (h.drop (j*c.length))=some r->(Op.eqItems (d+m) e c.length xs.toArray h.toArray (ζj j q)).run P w= .ok r w:=by
    intro q;induction q with
    |zero=>
     intro j hj r C A J;have e1:=nh C;have e2:=nh A;simp only[List.replicate_zero,List.flatten_nil,List.length_nil] at e1 e2;have g1:xs.drop (j*c.length)=[]:=π e1;have g2:h.drop (j*c.length)=[]:=π e2;rw[g1,g2] at J;simp_all[gA,Op.eqItems];|succ q ih=>
     intro j hj r C A J;rw[δk,ε9] at C A;obtain⟨F,l⟩:=sx C;obtain⟨H,n⟩:=sx A;obtain⟨a,b,h4,B,h6⟩:=F7 c.length J;rw[δi] at l n B;rw[δi] at B;have Q:j*c.length+c.length=(j+1)*c.length:=by grind
     rw[Q] at l n B;have a3:j*c.length+c.length<=k*c.length:=by rw[Q];exact γI _ (by omega)
     have T:=wZ y u (λE=>vd x E) xs.toArray (j*c.length) (by simp;omega) w;have S:=wZ y u (λE=>vd x E) h.toArray (j*c.length) (by simp;omega) w;have W:=BS d m e c x _ _ a F H h4 w;have p4:=ih (j+1) (by omega) b l n B;rw[εs];simp only[Op.eqItems,Sem.run_bind,T,S,Result.andThen_ok,W];cases a<;>simp_all
   have:=L k 0 (by omega) r (by simp_all) (by simp_all) (by simp_all);rw[List.range_eq_range'];exact this
end
section
variable {P:Program} {A:dT} {w w':World} {σ σ':cn} {o o':Store} {bY:Operand->AV} {bX:Operand->Value} {oper:Oper} {v:AV}
theorem F8:∀(m:Nat) (t:TypeId) (j:List Nat),gB P m t=some j->∀D,m<=D->P.eqGuardType D t=false
 |0,_,_,h,_,_=>by grind[gB];|m+1,t,j,h,0,s=>by omega;|m+1,t,j,h,D+1,s=>by
  rcases zg h with⟨c,d,rfl⟩|⟨k,c,d,rfl⟩|⟨c,d,rfl⟩|⟨v,c,r,a,d⟩|⟨k,e,i,c,a,rfl,d⟩;·grind[Program.eqGuardType]
  ·grind[Program.eqGuardType]
  ·grind[Program.eqGuardType]
  ·simp only[Program.eqGuardType,c];rw[<-Bool.not_eq_true,Array.any_eq_true'];rintro⟨f,u,q⟩;have n:∀(g:List Field) (l:Nat) (o:List Nat),rb (gB P m) l g=some o->∀f∈g,∃b,gB P m f.type=some b:=by
    intro g;induction g<;>grind[rb]
   obtain⟨b,p⟩:=n _ _ _ a f (by simp_all);rw[F8 m f.type b p D (by omega)] at q;simp at q
  ·simp only[Program.eqGuardType,c];exact F8 m e i a D (by omega)
theorem BU:∀{cs:List AV} {vs a:List Value},sg cs=some vs->bI A w σ o cs a->a=vs
 |[],vs,a,h,b=>by grind[sg,bI];|c::cs,vs,a,h,b=>by
  cases c<;>simp only[sg,reduceCtorEq,ε] at h;obtain⟨r,d,rfl⟩:=h;simp only[bI] at b;obtain⟨u,f,rfl,g,e⟩:=b;rw[ic g,BU d e]
theorem Xk (R:cj A w σ o) (g:∀x,bC A w σ o (bY x) (bX x)) {m:BinOp} {d:Bool} {t J:TypeId} {h:List Nat} {x y:Operand} (n:oper.op= .binOp m t x y J) (O:(m= .eql/\d=false)\/(m= .neq/\d=true))
  (p:fO P t=some true) (v:gB P 20 t=some h) (K:20<=P.depth) {a b:List AV} {r:Bool} (H:bY x= .agg a) (C:bY y= .agg b) (f:wJ h a b=some r):
  Gives A P bX oper w σ o (.sc (.bool (if d then !r else r))) o:=by
 have i:=g x;have k:=g y;rw[H] at i;rw[C] at k;simp only[bC] at i k;obtain⟨I,M,j⟩:=i;obtain⟨Q,G,q⟩:=k;unfold wJ at f;split at f
 ·rename_i z B l s;split at f
  ·rename_i e;simp only[θ] at e;have L:=BU l j;have F:=BU s q;have c:=BS (P:=P) 9980 20 t h v z B r e.1 e.2 f w;simp only[lW,p] at c;have D:z.toArray=I:=by rw[<-L]
   have N:B.toArray=Q:=by rw[<-F]
   rw[D,N] at c;refine Gives.same R (u:=.bool (if d then !r else r)) ?_ (by simp[bC,Value.oneCell']);have E:=F8 20 t h v P.depth K;simp only[execOp,n,M,G];rcases O with⟨rfl,rfl⟩|⟨rfl,rfl⟩<;>simp[eqGuard,E,binOp,Op.equal,Op.maxDepth,c]
  ·cases f
 ·cases f
theorem BV (x:Bool) (d:Nat):∀(m:Nat) (t:TypeId) (z:List Nat),gB P m t=some z->∀(xs:List Value),eJ z xs=true->∀w:World,(Instr.checkKey x (d+m) t (lW P t xs)).run P w= .ok () w
 |0,t,z,J,_,_,_=>by grind[gB];|m+1,t,z,J,xs,K,w=>by
  rw[show d+(m+1)=(d+m)+1 from rfl];rcases zg J with⟨u,D,rfl⟩|⟨k,u,D,rfl⟩|⟨u,D,rfl⟩|⟨V,u,S,h,D⟩|⟨k,e,a,u,h,rfl,D⟩;·simp_all[Instr.checkKey,run_underlying]
  ·simp_all[Instr.checkKey,run_underlying]
  ·simp_all[Instr.checkKey,run_underlying]
  ·have p:fO P t=some true:=by grind[fO]
   simp only[lW,p,Instr.checkKey,Sem.run_bind,run_underlying u,Result.andThen_ok];have A:=nh K;have I:∀(v:List Field) (b:Nat) (l:List Nat),rb (gB P m) b v=some l->b+l.length=z.length->eJ l (xs.drop b)=true->
     (forIn v ζa λ(f:Field) (_:PUnit)=>(do
      if f.name≠ "_" then
       Instr.checkKey x (d+m) f.type (<-part f.type xs.toArray f.offset)
      pure (ζR ζa):Sem (ForInStep PUnit))).run P w= .ok ζa w:=by
    intro v;induction v with
    |nil=>simp_all;|cons f v H=>
     intro b l g Q C;simp only[rb] at g;split at g;·cases g
     ·rename_i U;split at g
      ·rename_i L r;split at g
       ·rename_i N F;injection g with g;subst g;obtain⟨s,o⟩:=wY r;obtain⟨n,c⟩:=sx C;rw[δi] at c;have y:f.name≠ "_" ∧f.offset=b:=by
         simp_all
        rw[γq] at Q;have M:=wZ s o (λG=>vd r G) xs.toArray f.offset (by grind) w;rw[y.2] at M;have R:=BV x d m f.type L r _ n w;have O:=H (b+L.length) N F (by omega) c;simp_all
       ·cases g
      ·cases g
   grind[Result.andThen_ok,Sem.run_pure]
  ·obtain⟨s,o⟩:=wY h;have p:fO P t=some true:=by grind[fO]
   simp only[lW,p,Instr.checkKey,Sem.run_bind,run_underlying u,Result.andThen_ok];simp only[ζz,ζU,Nat.sub_zero,Nat.add_one_sub_one,Nat.div_one];have A:=nh K;have E:((δ k a).flatten).length=k*a.length:=by simp
   rw[E] at A;have I:∀(q j:Nat),j+q=k->eJ ((δ q a).flatten) (xs.drop (j*a.length))=true->
     (forIn (ζj j q) ζa λ(i:Nat) (_:PUnit)=>(do
      Instr.checkKey x (d+m) e (<-part e xs.toArray (i*(<-sizeOf e)));pure (ζR ζa):Sem (ForInStep PUnit))).run P w= .ok ζa w:=by
    intro q;induction q with
    |zero=>simp_all;|succ q H=>
     intro j W C;rw[δk,ε9] at C;obtain⟨n,c⟩:=sx C;rw[δi] at c;have B:j*a.length+a.length=(j+1)*a.length:=by grind
     rw[B] at c;have T:j*a.length+a.length<=k*a.length:=by rw[B];exact γI _ (by omega)
     have M:=wZ s o (λG=>vd h G) xs.toArray (j*a.length) (by simp;omega) w;have R:=BV x d m e a h _ n w;have O:=H (j+1) (by omega) c;rw[εs];simp_all[qt]
   simp_all
theorem Xl {a b:ByteArray} (h:a.toList=b.toList):a=b:=by
 have c:(a==b)=true:=by grind[beq_toListBytes]
 obtain⟨x⟩:=a;obtain⟨y⟩:=b;have d:(x==y)=true:=c;simp_all
theorem NJ {a b:Value} (h:seq1 a b=some true):a=b/\(∀n,Instr.sameBits n b a=true):=by
 unfold seq1 at h;grind[Instr.sameBits,Xl,beq_toListBytes]
theorem NK:∀{xs c:List Value},gA xs c=some true->xs=c/\∀n,(c.zip xs).all (λp=>Instr.sameBits n p.1 p.2)=true
 |[],[],_=>⟨rfl,λ_=>rfl⟩
 |[],_::_,h=>by grind[gA];|_::_,[],h=>by grind[gA];|x::xs,y::c,h=>by
  simp only[gA] at h;split at h
  ·rename_i a b d e;simp only[γ,θ] at h;obtain⟨rfl,rfl⟩:=h;obtain⟨f,g⟩:=NJ d;obtain⟨j,i⟩:=NK e;simp_all
  ·cases h
theorem Xm {a b:Value} (h:keq a b=some true):a=b/\∀n,Instr.sameBits (n+1) b a=true:=by
 unfold keq at h;split at h
 ·rename_i x y;obtain⟨c,d⟩:=NK h;simp_all[Instr.sameBits]
 all_goals grind[NJ]
def w8 (P:Program) (t:TypeId) (ks:List Nat) (k:Value):Prop:=∃l,eJ ks l=true/\k=lW P t l
theorem wS.fits {t:TypeId} {b:List Nat} {a:Bool} {k:Value} (d:fO P t=some a) (h:wS (b,a) k):w8 P t b k:=by
 obtain⟨l,c,e⟩:=h;refine⟨l,c,?_⟩;cases a;all_goals simp_all[lW]
theorem NL {f:List Nat} {e:Bool} {a:AV} {u k:Value} (h:bC A w σ o a u) (b:ql f e a=some k):u=k/\wS (f,e) k:=by
 cases a<;>simp only[ql,reduceCtorEq] at b
 ·rename_i v;split at b
  ·rename_i c;simp only[θ,γX] at c;injection b with b;subst b;exact⟨ic h,[v],c.2,by simp[c.1]⟩
  ·cases b
 ·rename_i j;split at b
  ·rename_i g d;split at b
   ·rename_i c;simp only[θ] at c;injection b with b;subst b;simp only[bC] at h;obtain⟨l,rfl,i⟩:=h;have:=BU d i;exact⟨by rw[<-this],g,c.2,by simp[c.1]⟩
   ·cases b
  ·cases b
theorem Xn {t:TypeId} {c:List Nat} (e:gB P 20 t=some c) {a b:Value} (o:w8 P t c a) (s:w8 P t c b) {r:Bool} (h:keq a b=some r) (w:World):(Op.equal t a b).run P w= .ok r w:=by
 obtain⟨g,m,rfl⟩:=o;obtain⟨f,k,rfl⟩:=s;have n:gA g f=some r:=by
  unfold lW at h;obtain⟨_,u,d⟩:=wY e;cases u with
  |true=>grind[keq];|false=>
   have l:=vd e d;have j:=nh m;have i:=nh k;rw[l] at j i;match g,f,j,i with
   |[x],[y],_,_=>
    simp only[d,List.headD_cons] at h;have p:seq1 x y=some r:=by
     match c,l with
     |[q],_=>cases x<;>cases y<;>simp_all [eJ,keq]<;>(match q with|0|1|2|_+3=>simp_all [eJ])
    simp[gA,p]
 exact BS 9980 20 t c e g f r m k n w
theorem Xo {d:TypeDesc} {a b:Value} {r:Bool} (h:keq a b=some r):
  Instr.sameNow d a b=some r\/Instr.sameNow d a b=none:=by
 cases c:Instr.sameNow d a b with
 |none=>simp_all;|some e=>
  left;unfold Instr.sameNow at c;grind[keq,seq1,beq_toListBytes]
theorem NM {t:TypeId} {p:List Nat} (G:gB P 20 t=some p) {k:Value} (v:w8 P t p k) (w:World) (es:List (Value×AV)) (en:List MapEntry) (l:en.length=es.length)
  (C:∀(j:Nat) (e:Value×AV),es[j]?=some e->∃m,en[j]?=some m/\m.key=e.1/\w8 P t p m.key) {r:Option (Nat×AV)} (J:nP k es 0=some r):
  match r with
  |none=>(Instr.findKey t k en).run P w= .ok none w
  |some (i,a)=>∃e m,es[i]?=some e/\e.2=a/\en[i]?=some m/\keq k e.1=some true/\(Instr.findKey t k en).run P w= .ok (some (i,m.val)) w:=by
 obtain⟨d,H⟩:∃d,P.underlying t=some d:=by
  have:=(wY G).2;grind[fO]
 have y:∀(es:List (Value×AV)) (en:List MapEntry) (i:Nat),en.length=es.length->(∀(j:Nat) (e:Value×AV),es[j]?=some e->∃m,en[j]?=some m/\m.key=e.1/\w8 P t p m.key)->∀r,nP k es i=some r->
   (match r with
    |none=>(Instr.findAsking t k en i).run P w= .ok none w/\(∀q,Instr.findNow d k en i=some q->q=none)
    |some (n,a)=>∃e m,i<=n/\es[n - i]?=some e/\e.2=a/\en[n - i]?=some m/\keq k e.1=some true/\(Instr.findAsking t k en i).run P w= .ok (some (n,m.val)) w/\(∀q,Instr.findNow d k en i=some q->q=some (n,m.val))):=by
  intro es;induction es with
  |nil=>
   intro en i A _ r f;have:en=[]:=π (by omega);subst this;simp only[nP,γ] at f;subst f;simp_all[Instr.findAsking,Instr.findNow];|cons e es L=>
   intro en i A F r f;match en,A with
   |m::en,A=>
    obtain⟨E,h,N,z⟩:=F 0 e (by simp);simp at h;subst h;simp only[nP] at f;cases c:keq k e.1 with
    |none=>simp[c] at f;|some b=>
     have g:=Xn G v z (r:=b) (by grind) w;have O:=Xo (d:=d) (a:=k) (b:=m.key) (r:=b) (by grind);cases b with
     |true=>
      simp only[c,γ] at f;subst f;refine⟨e,m,ψ _,by simp,rfl,by simp,c,?_,?_⟩;·simp[Instr.findAsking,g]
      grind[Instr.findNow];|false=>
      simp only[c] at f;have:=L en (i+1) (by grind) (λj u Q=>by simpa using F (j+1) u (by grind)) r f;have R:(Instr.findAsking t k (m::en) i).run P w=(Instr.findAsking t k en (i+1)).run P w:=by
       simp[Instr.findAsking,g]
      have K:∀q,Instr.findNow d k (m::en) i=some q->Instr.findNow d k en (i+1)=some q:=by
       grind[Instr.findNow]
      match r,this with
      |none,⟨s,o⟩=>grind;|some (n,a),⟨u,E,s,o,B,M,x,I,D⟩=>
       refine⟨u,E,by omega,?_,B,?_,x,by grind,λq c=>D q (K q c)⟩;·grind
       grind
 have:=y es en 0 l C r J;match r,this with
 |none,⟨s,o⟩=>
  simp only[Instr.findKey,Sem.run_bind,run_underlying H,Result.andThen_ok];cases c:Instr.findNow d k en 0 with
  |none=>omega;|some q=>simp[o q c]
 |some (n,a),⟨e,m,s,o,B,M,x,I,D⟩=>
  refine⟨e,m,by omega,B,by omega,x,?_⟩;simp only[Instr.findKey,Sem.run_bind,run_underlying H,Result.andThen_ok];cases c:Instr.findNow d k en 0 with
  |none=>omega;|some q=>simp[D q c]
theorem Xp (k:cj A w σ o) {t:TypeId} {d:List Nat×Bool} {pu:Bool} {bF:Nat} (a:oper.op= .makeMap t none) (j:o[bF]?=some .dead):Gives A P bX oper w σ o (.mp bF) (o.set bF (.map [] d pu)):=by
 have f:bF<o.length:=(ι.1 j).1;have e:bF<σ.length:=by rw[k.len];exact f
 obtain⟨g,i⟩:=cj.upd (w':=w.alloc (.map #[] 0)) (x:=.dead) (x':=.map [] d pu) (s':=some (w.heap.size,1)) k j (by simp) rfl rfl rfl (λb l _=>heap_alloc_old w _ b l)
  (λb c h=> .inr (by
   simp only[γ,κ] at h;obtain⟨rfl,_⟩:=h;exact⟨ψ _,by simp⟩)) trivial (λi=>by
   grind[dF,heap_alloc_new]);refine⟨.map (some w.heap.size),_,_,.inl ?_,g,?_,i⟩;·simp[execOp,a,Instr.makeMap,newObj,Sem.run]
 ·simp only[bC];exact⟨⟨[],d,pu,by simp_all⟩,w.heap.size,1,by simp_all,rfl⟩
theorem NN (g:cj A w σ o) {id:Nat} {es:List (Value×AV)} {f:List Nat×Bool} {pu:Bool} (i:o[id]?=some (.map es f pu)) {u:Value} (h:bC A w σ o (.mp id) u):
  ∃(b c:Nat) (a:Array MapEntry) (d:Nat),σ[id]?=some (some (b,c))/\u= .map (some b)/\w.heap[b]?=some (.map a d)/\a.size=es.length/\(pu=true->∀e∈es,e.2.pure=true)/\(∀e∈es,wS f e.1)/\
   ∀(j:Nat) (e:Value×AV),es[j]?=some e->∃m,a[j]?=some m/\m.key=e.1/\bC A w σ o e.2 m.val:=by
 simp only[bC] at h;obtain⟨_,b,c,k,rfl⟩:=h;have l:=g.obj id _ i;grind[dF]
theorem NP {t:TypeId} {z:List Value} {g:Bool} {a:AV} (k:lU P t=some z) (c:zd P t g=true) (e:qY z g=some a):∃u,(∀w:World,(zeroValue t).run P w= .ok u w)/\bC A w σ o a u:=by
 obtain⟨i,j,l,h,b,f,d⟩:=u7 k;refine⟨j,λw=>by simp_all[zeroValue,typeInfo],?_⟩;simp only[zd,l,h,δS] at c;unfold qY at e;cases j with
 |agg m=>
  simp only at c;subst c;simp only[if_true,γ] at e;grind[bC,Value.cells,wV];|_=>
  simp only[γX] at c;subst c;simp only[Value.cells] at b;subst b;simp only[Γ,if_false,γ] at e;subst e;exact by simp[bC,d]
theorem Xq {t:TypeId} {z:List Value} {g:Bool} (j:lU P t=some z) (c:zd P t g=true):∃a,qY z g=some a:=by
 obtain⟨i,h,k,e,b,d,f⟩:=u7 j;simp only[zd,k,e,δS] at c;unfold qY;cases h with
 |agg l=>simp_all;|_=>
  simp only[γX] at c;subst c;simp only[Value.cells] at b;subst b;exact⟨_,rfl⟩
theorem NQ (V:cj A w σ o) (q:∀x,bC A w σ o (bY x) (bX x)) {t E T:TypeId} {D:List Nat} {I g ok:Bool} {z:List Value} {x k:Operand} (Y:oper.op= .lookup t x k ok) (ht:P.underlying t=some (.map E T))
  (S:gB P 20 E=some D) (B:fO P E=some I) (hz:∃a u,qY z g=some a/\(∀w:World,(zeroValue T).run P w= .ok u w)/\bC A w σ o a u)
  {id:Nat} (hx:bY x= .mp id) {X:Value} (H:ql D I (bY k)=some X) {es:List (Value×AV)} {pu:Bool} (ho:o[id]?=some (.map es (D,I) pu))
  {r:Option (Nat×AV)} (hf:nP X es 0=some r) {M:AV} (f:qY z g=some M):
  Gives A P bX oper w σ o (if ok then .bN [(r.map (·.2)).getD M,.sc (.bool r.isSome)] else(r.map (·.2)).getD M) o:=by
 have O:=q x;rw[hx] at O;obtain⟨b,c,K,cl,a3,hu,Z,R,_,G,n⟩:=NN V ho O;obtain⟨a1,L⟩:=NL (q k) H;obtain⟨a0,z0,N,a2,F⟩:=hz;rw[N] at f;injection f with f;subst f;have d:=L.fits B;have h:=NM S d w es K.toList (by omega) (λj e W=>by
  obtain⟨m,hm,y,_⟩:=n j e W;exact⟨m,by simp_all,y,by rw[y];exact(G e (γr W)).fits B⟩) hf;obtain⟨lk,C,s⟩:=d;have J:=BV (P:=P) K.isEmpty 9980 20 E D S lk C w;rw[<-s] at J;have Q:(getObj b).run P w= .ok (.map K cl) w:=by simp[getObj,Sem.run,Z]
 have v:∃u,bC A w σ o ((r.map (·.2)).getD a0) u/\(execOp bX oper).run P w= .ok (.value (if ok then .tuple #[u,.bool r.isSome] else u)) w:=by
  cases r with
  |none=>
   refine⟨z0,F,?_⟩;simp_all[execOp,Instr.lookup,run_underlying];|some p=>
   obtain⟨i,a⟩:=p;obtain⟨e,m,q1,q2,q3,q4,q5⟩:=h;obtain⟨U,a4,_,hr⟩:=n i e q1;have:U=m:=by
    simp_all
   subst this;refine⟨U.val,by simp_all,?_⟩;simp_all[execOp,Instr.lookup,run_underlying]
 obtain⟨u,hr,l⟩:=v;refine Gives.same V l ?_;cases ok;all_goals simp_all[bC,bI,Value.oneCell']
theorem Xr {k:Value} (h:∀n,Instr.sameBits (n+1) k k=true) (w:World):(Instr.keyThatStays k k).run P w= .ok k w:=by
 simp_all[Instr.keyThatStays]
theorem BW (hS:cj A w σ o) (I:∀x,bC A w σ o (bY x) (bX x)) {t U et:TypeId} {D:List Nat} {F:Bool} {x k y:Operand} (d:oper.op= .mapUpdate t x k y\/oper.op= .insert t x k y) (ht:P.underlying t=some (.map U et))
  (hk:gB P 20 U=some D) (N:fO P U=some F)
  {id:Nat} (hx:bY x= .mp id) {h:Value} (a2:ql D F (bY k)=some h) {es:List (Value×AV)} {pu:Bool} (ho:o[id]?=some (.map es (D,F) pu)) (a6:pu=true->(bY y).pure=true)
  {r:Option (Nat×AV)} (hf:nP h es 0=some r):
  Gives A P bX oper w σ o .ud (o.set id (.map (match r with|some (i,_)=>es.modify i λ_=>(h,bY y)|none=>es++[(h,bY y)]) (D,F) pu)):=by
 have h1:=I x;rw[hx] at h1;obtain⟨b,c,R,T,J,hu,hh,B,a4,W,a0⟩:=NN hS ho h1;obtain⟨Q,Y⟩:=NL (I k) a2;have u:=Y.fits N;have s:=NM hk u w es R.toList (by omega) (λj e l=>by
  obtain⟨m,hm,G,_⟩:=a0 j e l;exact⟨m,by simpa using hm,G,by rw[G];exact(W e (γr l)).fits N⟩) hf;obtain⟨lk,K,O⟩:=u;have E:=BV (P:=P) false 9980 20 U D hk lk K w;rw[<-O] at E;have C:(getObj b).run P w= .ok (.map R T) w:=by simp[getObj,Sem.run,hh]
 have z:∀X:Obj,(setObj b X).run P w= .ok () {w with heap:=w.heap.setIfInBounds b X}:=by
  grind[setObj,Sem.run]
 have S:b<w.heap.size:=hS.bnd id b c J;have a5:id<o.length:=(ι.1 ho).1;have a3:id<σ.length:=by grind
 have v:σ.set id (some (b,c))=σ:=by
  apply δd;grind
 have L:∀(f:Array MapEntry) (n:Nat) (g:List (Value×AV)),(execOp bX oper).run P w= .ok .skip {w with heap:=w.heap.setIfInBounds b (.map f n)}->f.size=g.length->
   (pu=true->∀e∈g,e.2.pure=true)->(∀e∈g,wS (D,F) e.1)->(∀(j:Nat) (e:Value×AV),g[j]?=some e->∃m,f[j]?=some m/\m.key=e.1/\bC A w σ o e.2 m.val)->
   Gives A P bX oper w σ o .ud (o.set id (.map g (D,F) pu)):=by
  intro f n g H f1 f2 f3 f4;have a1:({w with heap:=w.heap.setIfInBounds b (.map f n)}:World).heap[b]?=some (.map f n):=by simp[S]
  obtain⟨M,V⟩:=cj.upd (w':={w with heap:=w.heap.setIfInBounds b (.map f n)}) (x':=.map g (D,F) pu) (s':=some (b,c)) hS ho (by simp) rfl rfl rfl
   (λq _ hq=>by
    simp_all)
   (λb2 c2 h2=> .inl ⟨c,by simp_all⟩) ⟨⟨_,_,_,rfl⟩,J⟩ (λV=>by
    simp only[dF];refine⟨f2,f3,b,c,f,n,by simp_all,a1,f1,λj e l=>?_⟩;obtain⟨m,q1,q2,q3⟩:=f4 j e l;exact⟨m,q1,q2,q3.ext V⟩);rw[v] at M V;exact⟨undef,_,σ,.inr ⟨H,rfl⟩,M,by simp[bC],V⟩
 cases r with
 |none=>
  refine L (R.push {key:=h,val:=bX y,born:=T}) (T+1) (es++[(h,bY y)]) ?_ (by simp[B]) ?_ ?_ ?_;·rcases d with d|d<;>simp only[execOp,d,Instr.mapUpdate,hu,Q]<;>simp[run_underlying ht,C,E,s,z]
  ·grind
  ·grind
  ·intro j e l;rw[εn] at l;split at l;·grind
   ·rename_i hj;have:j=es.length:=by
     grind
    subst this;simp at l;subst l;exact⟨{key:=h,val:=bX y,born:=T},by grind,rfl,I y⟩;|some p=>
  obtain⟨i,a⟩:=p;obtain⟨e,m,q1,q2,q3,q4,q5⟩:=s;obtain⟨q6,q7⟩:=Xm q4;have G:m.key=h:=by
   grind
  rw[δA] at q3;refine L (R.modify i λe=>{e with key:=h,val:=bX y}) T (es.modify i λ_=>(h,bY y)) ?_ (by simp[B]) ?_ ?_ ?_
  ·have Z:(Instr.keyThatStays (((R[i]?).map (·.key)).getD h) h).run P w= .ok h w:=by
    grind[Xr]
   rcases d with d|d<;>simp only[execOp,d,Instr.mapUpdate,hu,Q]<;>simp[run_underlying ht,C,E,q5,Z,z]
  ·intro hp e' l;obtain⟨j,hj⟩:=γH l;grind
  ·intro e' l;obtain⟨j,hj⟩:=γH l;grind
  grind
end
end Go.Vi
