/-
  The abstract interpreter: what it means that a value and a store of the interpreter stand for a value and a world of the model.
  Conditions: none.
-/
import Derived.Test.YtddpfdamlefbgaaGreatSF00
import Derived.OwnWalk
import Derived.Maps.AppendAt
import Derived.MapKept
import Derived.Laws.CopyRow
import Derived.Laws.Cells
import Derived.Laws.Entries
import Derived.Laws.Small
import Derived.Laws.Tables
import Derived.Laws.MakeOwn
import Derived.Great.BuildSlice
import Derived.Laws.StructEq
import Derived.ChangeKeysEq
set_option maxRecDepth 100000
set_option maxHeartbeats 4000000
set_option linter.all false
namespace Go.Vi
abbrev Sig:=List (Option (Nat×Nat))
def Own (σ:Sig) (b:Nat):Prop:=∃(i c:Nat),σ[i]?=some (some (b,c))
def LenLe (o:Store) (id a:Nat):Prop:=∃b e d c,o[id]?=some (.cells b e d c)∧a≤b.length
def CurO (o:Store) (id sz a:Nat):Prop:=∃b e c,o[id]?=some (.cells b e sz c)∧b.length=a
def IsMap (o:Store) (id:Nat):Prop:=∃c b a,o[id]?=some (.map c b a)
def OsOk (σ:Sig) (id e f d sz:Nat) (a:Option Addr) (cap:Nat):Prop:=
 match σ[id]? with
 |some none=>d=0∧a=none∧cap=0∧f=0
 |some (some (b,c))=>(0<f→a=some ⟨b,offR e d sz,none⟩)∧(e=0→f*sz=d→0<sz→a=some ⟨b,0,none⟩∧cap=c)∧((e≤d∧e+f*sz≤d)∨(d+sz≤e∧e - d - sz+f*sz≤d∧0<sz))
 |none=>False
theorem offR_le {a b sz:Nat} (h:a≤b):offR a b sz=a:=by
 simp_all[offR]
theorem offR_gt {a b sz:Nat} (h:b<a):offR a b sz=a - b - sz:=by
 simp_all[offR,if_neg]
structure Clr where
 p:Nat→Prop
 l:Nat
instance:CoeFun Clr (fun _=>Nat→Prop):=⟨Clr.p⟩
class SameL (A A':Clr):Prop where
 eq:A'.l=A.l
instance (A:Clr):SameL A A:=⟨rfl⟩
instance (A:Clr) (p:Nat→Prop):SameL A ⟨p,A.l⟩:=⟨rfl⟩
def fnL (l:Nat):Fn→Fn
 | .yield _=> .yield l
 |f=>f
def Fr (A:Clr) (σ:Sig) (b:Nat):Prop:=¬Own σ b∧¬A b
section
variable (A:Clr) (w:World) (σ:Sig) (o:Store)
mutual
def Rep:AV→Value→Prop
 | .ud,_=>True
 | .sc u,v=>v=u∧u.oneCell'=true
 | .agg cs,v=>∃vs,v= .agg vs∧RepL cs vs.toList
 | .tup cs,v=>∃vs,v= .tuple vs∧RepL cs vs.toList
 | .sl n cs,v=>∃a cap,v= .slice a n cap∧n≤cap∧pureL cs=true∧RepM cs a 0
 | .ep cs off,v=>∃a:Addr,v= .pointer (some (a.add off))∧pureL cs=true∧RepM cs (some a) 0
 | .ptr id off tot,v=>LenLe o id tot∧(∃a,v= .pointer (some a))∧∀sz,CurO o id sz tot→∃b c,σ[id]?=some (some (b,c))∧v= .pointer (some ⟨b,off,none⟩)
 | .os id off len tot,v=>LenLe o id tot∧∃a cap,v= .slice a len cap∧len≤cap∧∀sz,CurO o id sz tot→OsOk σ id off len tot sz a cap
 | .mp id,v=>IsMap o id∧∃b c,σ[id]?=some (some (b,c))∧v= .map (some b)
 | .fn f a b,v=>∃a' b',v= .func (fnL A.l f) a' b'∧RepL a a'.toList∧RepL b b'.toList
 | .ifc t cs,v=>∃vs,v= .iface t (.agg vs)∧pureL cs=true∧RepL cs vs.toList
def RepL:List AV→List Value→Prop
 |[],vs=>vs=[]
 |c::cs,vs=>∃v r,vs=v::r∧Rep c v∧RepL cs r
def RepM:List AV→Option Addr→Nat→Prop
 |[],_,_=>True
 |c::cs,a,j=>(∃b v,a=some b∧Fr A σ b.block∧w.cell? (b.add j)=some v∧Rep c v)∧RepM cs a (j+1)
end
end
structure Ext (w:World) (σ:Sig) (o:Store) (w':World) (σ':Sig) (o':Store):Prop where
 size:w.heap.size≤w'.heap.size
 blk:∀b,b<w.heap.size→¬Own σ b→w'.heap[b]?=w.heap[b]?∧¬Own σ' b
 len:o.length≤o'.length
 cur:∀id tot,LenLe o id tot→LenLe o' id tot∧∀sz,CurO o' id sz tot→CurO o id sz tot∧σ'[id]?=σ[id]?
 isMap:∀id,IsMap o id→IsMap o' id∧σ'[id]?=σ[id]?
 os:w'.os=w.os
 tape:w'.tape=w.tape
 output:w'.output=w.output
theorem Ext.refl (w:World) (σ:Sig) (o:Store):Ext w σ o w σ o:=
 ⟨Nat.le_refl _,fun _ _ h=>⟨rfl,h⟩,Nat.le_refl _,fun _ _ h=>⟨h,fun _ h=>⟨h,rfl⟩⟩,fun _ h=>⟨h,rfl⟩,rfl,rfl,rfl⟩
theorem Ext.trans {w n p:World} {σ a c:Sig} {o l o2:Store} (h:Ext w σ o n a l) (k:Ext n a l p c o2):Ext w σ o p c o2 where
 size:=Nat.le_trans h.size k.size
 blk:=fun b q r=>by
  obtain⟨f,i⟩:=h.blk b q r
  obtain⟨m,j⟩:=k.blk b (Nat.lt_of_lt_of_le q h.size) i
  simp_all
 len:=Nat.le_trans h.len k.len
 cur:=fun e d g=>by
  obtain⟨f,i⟩:=h.cur e d g
  obtain⟨m,j⟩:=k.cur e d f
  grind
 isMap:=fun e g=>by
  obtain⟨f,i⟩:=h.isMap e g
  obtain⟨m,j⟩:=k.isMap e f
  simp_all
 os:=k.os.trans h.os
 tape:=k.tape.trans h.tape
 output:=k.output.trans h.output
section
variable {A:Clr} {w w':World} {σ σ':Sig} {o o':Store}
theorem cell_of_blk {a:Addr} {v:Value} (b:w.cell? a=some v):a.block<w.heap.size:=World.block_lt_of_cell? w a b
theorem add_block (a:Addr) (n:Nat):(a.add n).block=a.block:=by grind[Addr.add]
theorem add_add (a:Addr) (i j:Nat):(a.add i).add j=a.add (i+j):=by
 grind[Addr.add]
mutual
theorem Rep.ext (h:Ext w σ o w' σ' o'):∀(c:AV) (v:Value),Rep A w σ o c v→Rep A w' σ' o' c v
 | .ud,_,_=>by simp[Rep]
 | .sc u,v,hr=>by simpa[Rep] using hr
 | .agg cs,v,hr=>by
  simp only[Rep] at hr ⊢
  obtain⟨vs,rfl,hl⟩:=hr
  exact⟨vs,rfl,RepL.ext h cs _ hl⟩
 | .tup cs,v,hr=>by
  simp only[Rep] at hr ⊢
  obtain⟨vs,rfl,hl⟩:=hr
  exact⟨vs,rfl,RepL.ext h cs _ hl⟩
 | .sl n cs,v,hr=>by
  simp only[Rep] at hr ⊢
  obtain⟨a,cap,rfl,hn,hp,hm⟩:=hr
  exact⟨a,cap,rfl,hn,hp,RepM.ext h cs a 0 hm⟩
 | .ep cs off,v,hr=>by
  simp only[Rep] at hr ⊢
  obtain⟨a,rfl,hp,hm⟩:=hr
  exact⟨a,rfl,hp,RepM.ext h cs _ 0 hm⟩
 | .ptr id off tot,v,hr=>by
  simp only[Rep] at hr ⊢
  obtain⟨h0,h3⟩:=h.cur id tot hr.1
  refine⟨h0,hr.2.1,fun sz hc=>?_⟩
  obtain⟨h1,h2⟩:=h3 sz hc
  rw[h2]
  exact hr.2.2 sz h1
 | .os id off len tot,v,hr=>by
  simp only[Rep] at hr ⊢
  obtain⟨ha,a,cap,rfl,hl,hk⟩:=hr
  obtain⟨h0,h3⟩:=h.cur id tot ha
  refine⟨h0,a,cap,rfl,hl,fun sz hc=>?_⟩
  obtain⟨h1,h2⟩:=h3 sz hc
  have:=hk sz h1
  unfold OsOk at this ⊢
  rw[h2]
  exact this
 | .mp id,v,hr=>by
  simp only[Rep] at hr ⊢
  obtain⟨h1,h2⟩:=h.isMap id hr.1
  rw[h2]
  exact⟨h1,hr.2⟩
 | .fn f a b,v,hr=>by
  simp only[Rep] at hr ⊢
  obtain⟨a',b',rfl,ha,hb⟩:=hr
  exact⟨a',b',rfl,RepL.ext h a _ ha,RepL.ext h b _ hb⟩
 | .ifc t cs,v,hr=>by
  simp only[Rep] at hr ⊢
  obtain⟨vs,rfl,hp,hl⟩:=hr
  exact⟨vs,rfl,hp,RepL.ext h cs _ hl⟩
theorem RepL.ext (h:Ext w σ o w' σ' o'):∀(cs:List AV) (vs:List Value),RepL A w σ o cs vs→RepL A w' σ' o' cs vs
 |[],vs,hr=>by simpa[RepL] using hr
 |c::cs,vs,hr=>by
  simp only[RepL] at hr ⊢
  obtain⟨v,r,rfl,hc,hl⟩:=hr
  exact⟨v,r,rfl,Rep.ext h c v hc,RepL.ext h cs r hl⟩
theorem RepM.ext (h:Ext w σ o w' σ' o'):∀(cs:List AV) (a:Option Addr) (j:Nat),RepM A w σ o cs a j→RepM A w' σ' o' cs a j
 |[],_,_,_=>by simp[RepM]
 |c::cs,a,j,hr=>by
  simp only[RepM] at hr ⊢
  obtain⟨⟨b,v,rfl,hn,hc,hv⟩,hl⟩:=hr
  have hlt:b.block<w.heap.size:=by have:=cell_of_blk hc;rwa [add_block] at this
  obtain⟨h1,h2⟩:=h.blk b.block hlt hn.1
  exact⟨⟨b,v,rfl,⟨h2,hn.2⟩,by rw[World.cell?_of_block (w:=w) (by rw[add_block];exact h1)];exact hc,Rep.ext h c v hv⟩,RepM.ext h cs _ (j+1) hl⟩
end
theorem RepL.length:∀(cs:List AV) (vs:List Value),RepL A w σ o cs vs→cs.length=vs.length
 |[],vs,a=>by grind[RepL]
 |c::cs,vs,a=>by
  simp only[RepL] at a
  obtain⟨v,r,rfl,_,b⟩:=a
  simp[RepL.length cs r b]
theorem RepL.get:∀(cs:List AV) (vs:List Value),RepL A w σ o cs vs→∀(i:Nat) (c:AV),cs[i]?=some c→∃v,vs[i]?=some v∧Rep A w σ o c v
 |[],_,_,i,c,h=>by simp at h
 |c::cs,vs,b,i,d,a=>by
  simp only[RepL] at b
  obtain⟨v,r,rfl,f,g⟩:=b
  cases i with
  |zero=>simp at a;subst a;exact⟨v,by simp,f⟩
  |succ i=>simp at a;obtain⟨u,e,b⟩:=RepL.get cs r g i d a;exact⟨u,by simpa using e,b⟩
theorem RepL.of_get:∀(cs:List AV) (vs:List Value),cs.length=vs.length→(∀(i:Nat) (c:AV),cs[i]?=some c→∃v,vs[i]?=some v∧Rep A w σ o c v)→RepL A w σ o cs vs
 |[],vs,a,_=>by grind[RepL]
 |c::cs,[],a,_=>by simp at a
 |c::cs,v::vs,a,e=>by
  simp only[RepL]
  obtain⟨u,b,f⟩:=e 0 c (by simp)
  simp at b
  subst b
  exact⟨v,vs,rfl,f,RepL.of_get cs vs (by simp_all) fun i d g=>by simpa using e (i+1) d (by simp_all)⟩
theorem RepM.get:∀(cs:List AV) (a:Option Addr) (j:Nat),RepM A w σ o cs a j→∀(i:Nat) (c:AV),cs[i]?=some c→
  ∃b v,a=some b∧Fr A σ b.block∧w.cell? (b.add (j+i))=some v∧Rep A w σ o c v
 |[],_,_,_,i,c,k=>by simp at k
 |c::cs,a,j,f,i,d,e=>by
  simp only[RepM] at f
  obtain⟨g,h⟩:=f
  cases i with
  |zero=>simp at e;subst e;simpa using g
  |succ i=>
   simp at e
   have:=RepM.get cs a (j+1) h i d e
   rwa [show j+1+i=j+(i+1) from by omega] at this
theorem RepM.of_get:∀(cs:List AV) (a:Option Addr) (j:Nat),(∀(i:Nat) (c:AV),cs[i]?=some c→
  ∃b v,a=some b∧Fr A σ b.block∧w.cell? (b.add (j+i))=some v∧Rep A w σ o c v)→RepM A w σ o cs a j
 |[],_,_,_=>by simp[RepM]
 |c::cs,a,j,e=>by
  simp only[RepM]
  refine⟨by simpa using e 0 c (by simp),RepM.of_get cs a (j+1) fun i d f=>?_⟩
  have:=e (i+1) d (by simpa using f)
  rwa [show j+1+i=j+(i+1) from by omega]
theorem RepL.append {cs a:List AV} {vs b:List Value} (h:RepL A w σ o cs vs) (k:RepL A w σ o a b):RepL A w σ o (cs++a) (vs++b):=by
 induction cs generalizing vs<;>grind[RepL]
theorem Rep.qn {c:AV} {v:Value} (h:Rep A w σ o c v):Rep A w σ o c.qn v:=by
 unfold AV.qn
 grind[Rep,pureL,RepM]
theorem RepL.qn:∀{cs:List AV} {vs:List Value},RepL A w σ o cs vs→RepL A w σ o (cs.map .qn) vs
 |[],_,h=>h
 |c::cs,vs,h=>by
  simp only[RepL,List.map_cons] at h ⊢
  obtain⟨v,r,rfl,a,b⟩:=h
  exact⟨v,r,rfl,a.qn,RepL.qn b⟩
theorem RepL.qnL (pu:Bool) {cs:List AV} {vs:List Value} (h:RepL A w σ o cs vs):RepL A w σ o (qnL pu cs) vs:=by
 unfold Go.Vi.qnL
 split
 ·exact h.qn
 ·exact h
theorem qnL_len (pu:Bool) (cs:List AV):(Go.Vi.qnL pu cs).length=cs.length:=by
 grind[Go.Vi.qnL]
theorem qn_pure {c:AV} (h:c.pure=true):c.qn.pure=true:=by
 unfold AV.qn
 grind[AV.pure,pureL]
theorem qn_one {c:AV} (h:c.one=true):c.qn.one=true:=by
 unfold AV.qn
 grind[AV.one]
theorem pureL_qn:∀{cs:List AV},pureL cs=true→pureL (cs.map .qn)=true
 |[],h=>h
 |c::cs,h=>by
  simp only[pureL,List.map_cons,Bool.and_eq_true] at h ⊢
  exact⟨qn_pure h.1,pureL_qn h.2⟩
theorem qnL_pure {pu:Bool} {cs:List AV} (h:pureL cs=true):pureL (Go.Vi.qnL pu cs)=true:=by
 grind[Go.Vi.qnL,pureL_qn]
theorem oneL_qn:∀{cs:List AV},oneL cs=true→oneL (cs.map .qn)=true
 |[],h=>h
 |c::cs,h=>by
  grind[oneL,qn_one]
theorem qnL_one {pu:Bool} {cs:List AV} (h:oneL cs=true):oneL (Go.Vi.qnL pu cs)=true:=by
 grind[Go.Vi.qnL,oneL_qn]
theorem qnL_get {pu:Bool} {cs:List AV} {vs:List Value} (h:RepL A w σ o cs vs) {j:Nat} {c:AV} (a:(Go.Vi.qnL pu cs)[j]?=some c):∃v,vs[j]?=some v∧Rep A w σ o c v:=
 RepL.get _ _ (h.qnL pu) j c a
theorem Rep.one {c:AV} {v:Value} (h:Rep A w σ o c v) (e:c.one=true):v.oneCell'=true:=by
 cases c<;>simp only[Rep] at h<;>simp only[AV.one,Bool.false_eq_true] at e
 ·simp_all
 ·obtain⟨a,d,rfl,_⟩:=h;rfl
 ·obtain⟨a,rfl,_⟩:=h;rfl
 ·obtain⟨_,⟨a,rfl⟩,_⟩:=h;rfl
 ·obtain⟨_,a,d,rfl,_⟩:=h;rfl
 ·obtain⟨_,b,c,_,rfl⟩:=h;rfl
 ·obtain⟨a,b,rfl,_⟩:=h;rfl
 ·obtain⟨vs,rfl,_⟩:=h;rfl
theorem Rep.cells {c:AV} {v:Value} (h:Rep A w σ o c v) (a:oneL c.cellsOf=true):RepL A w σ o c.cellsOf v.cells.toList∧∀u∈v.cells.toList,u.oneCell'=true:=by
 have f:∀(b:List AV) (e:List Value),RepL A w σ o b e→oneL b=true→∀u∈e,u.oneCell'=true:=by
  intro b
  induction b with
  |nil=>grind[RepL]
  |cons c b k=>
   intro e i a u g
   simp only[RepL] at i
   obtain⟨v,r,rfl,j,d⟩:=i
   simp only[oneL,List.all_cons,Bool.and_eq_true] at a
   rcases List.mem_cons.1 g with rfl|g
   ·exact j.one a.1
   ·exact k r d a.2 u g
 cases c with
 |agg b=>
  simp only[Rep] at h
  obtain⟨e,rfl,d⟩:=h
  exact⟨d,f _ _ d a⟩
 |_=>
  simp only[AV.cellsOf,oneL,List.all_cons,List.all_nil,Bool.and_true] at a
  have l:=h.one a
  have m:v.cells=#[v]:=by cases v<;>simp_all [Value.cells,Value.oneCell']
  simp only[AV.cellsOf,m,List.mem_singleton]
  exact⟨by simp only[RepL];exact⟨v,[],rfl,h,rfl⟩,by rintro u rfl;exact l⟩
def KeyForm (a:List Nat×Bool) (k:Value):Prop:=∃l,kOk a.1 l=true∧(if a.2 then k= .agg l.toArray else l=[k])
def ObjOK (A:Clr) (w:World) (σ:Sig) (o:Store) (i:Nat):AObj→Prop
 | .dead=>σ[i]?=some none
 | .cells cs e sz pu=>(pu=true→pureL cs=true)∧oneL cs=true∧
  ((σ[i]?=some none∧cs=[])∨∃b cap arr,σ[i]?=some (some (b,cap))∧cap≤maxLen∧w.heap[b]?=some (.cells arr e (0,0))∧arr.size=cap*sz∧cs.length≤arr.size∧
   ∀(j:Nat) (c:AV),cs[j]?=some c→∃v,arr[j]?=some v∧Rep A w σ o c v)
 | .map es kt pu=>(pu=true→∀e∈es,e.2.pure=true)∧(∀e∈es,KeyForm kt e.1)∧∃(b c:Nat) (entries:Array MapEntry) (clock:Nat),σ[i]?=some (some (b,c))∧w.heap[b]?=some (.map entries clock)∧(entries.size=es.length∧Go.MapKept.Stamped entries clock)∧
   ∀(j:Nat) (e:Value×AV),es[j]?=some e→∃m,entries[j]?=some m∧m.key=e.1∧Rep A w σ o e.2 m.val
structure SimO (A:Clr) (w:World) (σ:Sig) (o:Store):Prop where
 len:σ.length=o.length
 dist:∀(i j b c d:Nat),σ[i]?=some (some (b,c))→σ[j]?=some (some (b,d))→i=j
 bnd:∀(i b c:Nat),σ[i]?=some (some (b,c))→b<w.heap.size
 obj:∀(i:Nat) (x:AObj),o[i]?=some x→ObjOK A w σ o i x
 av:∀(i b c:Nat),σ[i]?=some (some (b,c))→¬A b
 avb:∀b,A b→b<w.heap.size
theorem ObjOK.ext (h:Ext w σ o w' σ' o') {i:Nat} {x:AObj} (a:ObjOK A w σ o i x) (f:σ'[i]?=σ[i]?)
  (I:∀b c,σ[i]?=some (some (b,c))→w'.heap[b]?=w.heap[b]?):ObjOK A w' σ' o' i x:=by
 cases x with
 |dead=>grind[ObjOK]
 |cells K e G E=>
  simp only[ObjOK] at a ⊢
  refine⟨a.1,a.2.1,?_⟩
  rcases a.2.2 with t|⟨b,l,k,q,s,r,g,z,y⟩
  ·simp_all
  ·refine .inr ⟨b,l,k,by rw[f];exact q,s,by simp_all,g,z,fun j c n=>?_⟩
   obtain⟨v,C,d⟩:=y j c n
   exact⟨v,C,d.ext h⟩
 |map H J E=>
  simp only[ObjOK] at a ⊢
  obtain⟨t,p,b,c,B,D,q,s,r,g⟩:=a
  refine⟨t,p,b,c,B,D,by simp_all,by simp_all,r,fun j e n=>?_⟩
  obtain⟨m,F,u,d⟩:=g j e n
  exact⟨m,F,u,d.ext h⟩
theorem SimO.upd (k:SimO A w σ o) {id:Nat} {x x':AObj} {s':Option (Nat×Nat)} (L:o[id]?=some x)
  (u:w.heap.size≤w'.heap.size) (R:w'.os=w.os) (D:w'.tape=w.tape) (K:w'.output=w.output)
  (B:∀b,b<w.heap.size→(∀c,σ[id]?≠some (some (b,c)))→w'.heap[b]?=w.heap[b]?)
  (g:∀b c,s'=some (b,c)→(∃d,σ[id]?=some (some (b,d)))∨(w.heap.size≤b∧b<w'.heap.size))
  (r:match x with
   | .dead=>True
   | .cells cs _ sz _=>∃p S l,x'= .cells p S sz l∧cs.length≤p.length∧(p.length=cs.length→σ[id]?=some s')
   | .map _ _ _=>(∃E C l,x'= .map E C l)∧σ[id]?=some s')
  (a0:Ext w σ o w' (σ.set id s') (o.set id x')→ObjOK A w' (σ.set id s') (o.set id x') id x'):
  SimO A w' (σ.set id s') (o.set id x')∧Ext w σ o w' (σ.set id s') (o.set id x'):=by
 have O:id<o.length:=(List.getElem?_eq_some_iff.1 L).1
 have Q:id<σ.length:=by rw[k.len];exact O
 have h:∀i,i≠id→(σ.set id s')[i]?=σ[i]?:=fun i a=>by grind
 have J:∀i,i≠id→(o.set id x')[i]?=o[i]?:=fun i a=>by grind
 have m:(σ.set id s')[id]?=some s':=by simp_all
 have q:(o.set id x')[id]?=some x':=by simp_all
 have v:Ext w σ o w' (σ.set id s') (o.set id x'):=by
  refine⟨u,fun b F P=>⟨B b F fun c I=>P ⟨id,c,I⟩,?_⟩,by simp,fun i a3 H=>?_,fun i H=>?_,R,D,K⟩
  ·rintro⟨i,c,a⟩
   by_cases f:i=id
   ·subst f
    rw[m] at a
    injection a with a
    subst a
    rcases g b c rfl with⟨d,g⟩|g
    ·exact P ⟨i,d,g⟩
    ·omega
   ·rw[h i f] at a
    exact P ⟨i,c,a⟩
  ·by_cases f:i=id
   ·subst f
    obtain⟨cs,e,sz,z,n,G⟩:=H
    rw[L] at n
    injection n with n
    subst n
    obtain⟨p,S,l,rfl,h3,h4⟩:=r
    refine⟨⟨p,S,sz,l,q,by omega⟩,fun X I=>?_⟩
    obtain⟨a2,Z,a1,s,Y⟩:=I
    rw[q] at s
    injection s with s
    injection s with e1 Z e3 e4
    subst e1 e3
    refine⟨⟨cs,e,z,L,by omega⟩,?_⟩
    grind
   ·refine⟨?_,fun sz I=>⟨?_,h i f⟩⟩
    ·obtain⟨cs,e,sz,z,n,G⟩:=H
     exact⟨cs,e,sz,z,by simp_all,G⟩
    ·obtain⟨cs,e,z,n,G⟩:=I
     exact⟨cs,e,z,by simp_all,G⟩
  ·by_cases f:i=id
   ·subst f
    obtain⟨V,T,z,n⟩:=H
    rw[L] at n
    injection n with n
    subst n
    obtain⟨⟨E,C,l,rfl⟩,G⟩:=r
    exact⟨⟨E,C,l,q⟩,by rw[m,G]⟩
   ·obtain⟨V,T,z,n⟩:=H
    exact⟨⟨V,T,z,by simp_all⟩,h i f⟩
 refine⟨⟨by simp[k.len],fun i j b c d a t=>?_,fun i b c a=>?_,fun i y U=>?_,fun i b c a=>?_,fun b F=>Nat.lt_of_lt_of_le (k.avb b F) u⟩,v⟩
 ·by_cases f:i=id<;>by_cases M:j=id
  ·rw[f,M]
  ·subst f
   rw[m] at a
   rw[h j M] at t
   injection a with a
   subst a
   rcases g b c rfl with⟨N,g⟩|g
   ·exact k.dist i j b N d g t
   ·have:=k.bnd j b d t
    omega
  ·subst M
   rw[m] at t
   rw[h i f] at a
   injection t with t
   subst t
   rcases g b d rfl with⟨N,g⟩|g
   ·exact k.dist i j b c N a g
   ·have:=k.bnd i b c a
    omega
  ·rw[h i f] at a
   rw[h j M] at t
   exact k.dist i j b c d a t
 ·by_cases f:i=id
  ·subst f
   rw[m] at a
   injection a with a
   subst a
   rcases g b c rfl with⟨d,g⟩|g
   ·exact Nat.lt_of_lt_of_le (k.bnd i b d g) u
   ·exact g.2
  ·rw[h i f] at a
   exact Nat.lt_of_lt_of_le (k.bnd i b c a) u
 ·by_cases f:i=id
  ·simp_all
  ·rw[J i f] at U
   refine(k.obj i y U).ext v (h i f) fun b c F=>?_
   refine B b (k.bnd i b c F) fun d hd=>f (k.dist i id b c d F hd)
 ·by_cases f:i=id
  ·subst f
   rw[m] at a
   injection a with a
   subst a
   rcases g b c rfl with⟨d,g⟩|g
   ·exact k.av i b d g
   ·intro W
    have:=k.avb b W
    omega
  ·rw[h i f] at a
   exact k.av i b c a
end
section
variable {P:Program} {A:Clr} {w w':World} {σ σ':Sig} {o o':Store} {ρA:Operand→AV} {ρC:Operand→Value} {oper:Oper} {v:AV}
def Gives (A:Clr) (P:Program) (ρC:Operand→Value) (oper:Oper) (w:World) (σ:Sig) (o:Store) (v:AV) (o':Store):Prop:=
 ∃u w' σ',((execOp ρC oper).run P w= .ok (.value u) w'∨((execOp ρC oper).run P w= .ok .skip w'∧u=undef))∧SimO A w' σ' o'∧Rep A w' σ' o' v u∧Ext w σ o w' σ' o'
theorem Gives.same (hS:SimO A w σ o) {u:Value} (h:(execOp ρC oper).run P w= .ok (.value u) w) (hr:Rep A w σ o v u):Gives A P ρC oper w σ o v o:=
 ⟨u,w,σ,.inl h,hS,hr,Ext.refl _ _ _⟩
theorem run_isAgg' {t:TypeId} {b:Bool} (h:isAggT P t=some b) (w:World):(isAgg t).run P w= .ok b w:=by
 unfold isAggT at h
 cases a:P.underlying t with
 |none=>simp_all
 |some d=>cases d<;>simp[a] at h<;>subst h<;>simp[isAgg,run_underlying a]
theorem run_sizeOf' {t:TypeId} {n:Nat} (h:sizeT P t=some n) (w:World):(sizeOf t).run P w= .ok n w:=by
 unfold sizeT at h
 cases a:P.info? t with
 |none=>simp_all
 |some i=>simp_all[sizeOf,typeInfo]
theorem shapeT_none {t:TypeId} (h:shapeT P t=some none):isAggT P t=some false:=by
 grind[shapeT]
theorem shapeT_some {t:TypeId} {n:Nat} (h:shapeT P t=some (some n)):isAggT P t=some true∧sizeT P t=some n:=by
 grind[shapeT]
theorem run_part (cs:Array Value) (l:List AV) (a:Nat) (t:TypeId) (n:Option Nat) (f:shapeT P t=some n) (d:RepL A w σ o l cs.toList) (b:partA l a n=some v):
  ∃u,(part t cs a).run P w= .ok u w∧Rep A w σ o v u:=by
 have c:=RepL.length _ _ d
 cases n with
 |none=>
  simp only[partA] at b
  obtain⟨u,j,i⟩:=RepL.get _ _ d a v b
  simp_all[part,run_isAgg',shapeT_none]
 |some n=>
  obtain⟨e,g⟩:=shapeT_some f
  simp only[partA] at b
  split at b
  ·rename_i h
   injection b with b
   subst b
   refine⟨.agg (cs.extract a (a+n)),by simp[part,run_isAgg' e,run_sizeOf' g],?_⟩
   simp only[Rep]
   grind[RepL.of_get,RepL.get]
  simp_all
theorem Rep.behindA (hS:SimO A w σ o) {a:AV} {u:Value} {cs:List AV} {off:Nat} (h:Rep A w σ o a u) (hb:Go.Vi.behind o a=some (cs,off)):
  ∃p:Addr,u= .pointer (some p)∧∀(j:Nat) (c:AV),cs[off+j]?=some c→∃v,w.cell? (p.add j)=some v∧Rep A w σ o c v:=by
 cases a<;>simp only[Go.Vi.behind,reduceCtorEq] at hb
 ·grind[Rep,RepM.get,add_add]
 ·rename_i id off' tot
  split at hb
  ·rename_i cs' e sz pu ho
   split at hb
   ·rename_i htot
    simp only[Option.some.injEq,Prod.mk.injEq] at hb
    obtain⟨rfl,rfl⟩:=hb
    simp only[Rep] at h
    obtain⟨b,c,hσ,rfl⟩:=h.2.2 sz ⟨cs',e,pu,ho,htot⟩
    refine⟨_,rfl,fun j d hd=>?_⟩
    have hx:=hS.obj id _ ho
    grind[ObjOK,Addr.add,World.cell?]
   simp_all
  simp_all
theorem run_loadVar' {a:AV} {p:Addr} {cs:List AV} {b:Nat} {t:TypeId} {n:Option Nat} (h:shapeT P t=some n)
  (g:∀(j:Nat) (c:AV),cs[b+j]?=some c→∃v,w.cell? (p.add j)=some v∧Rep A w σ o c v) (d:partA cs b n=some a):
  ∃u,(loadVar t p).run P w= .ok u w∧Rep A w σ o a u:=by
 cases n with
 |none=>
  simp only[partA] at d
  obtain⟨u,r,s⟩:=g 0 a (by omega)
  simp_all[Addr.add,loadVar,run_isAgg',shapeT_none]
 |some n=>
  obtain⟨k,m⟩:=shapeT_some h
  simp only[partA] at d
  split at d
  ·rename_i i
   injection d with d
   subst d
   have e:∀j,j<n→∃v,w.cell? (p.add j)=some v∧Rep A w σ o (cs.getD (b+j) .ud) v:=by
    grind
   let f:Nat→Value:=fun j=>(w.cell? (p.add j)).getD undef
   have l:∀j,j<n→w.cell? (p.add j)=some (f j):=fun j q=>by
    grind
   refine⟨.agg ((List.range n).map f).toArray,by simp_all[loadVar,run_isAgg',run_sizeOf',run_loadCells],?_⟩
   grind[Rep,RepL.of_get]
  simp_all
theorem g_load (e:SimO A w σ o) (b:∀x,Rep A w σ o (ρA x) (ρC x)) {t:TypeId} {n:Option Nat} {x:Operand} (g:oper.op= .load t x) (d:shapeT P t=some n)
  {cs:List AV} {a:Nat} (f:behind o (ρA x)=some (cs,a)) (i:partA cs a n=some v):Gives A P ρC oper w σ o v o:=by
 obtain⟨p,h,c⟩:=(b x).behindA e f
 obtain⟨u,j,k⟩:=run_loadVar' d c i
 simp_all[Gives.same,execOp,Instr.loadAt,Instr.sureAddr]
theorem writeL_length:∀(vs cs:List AV) (a:Nat),(writeL cs a vs).length=cs.length
 |[],_,_=>rfl
 |v::vs,cs,a=>by simp[writeL,writeL_length vs]
theorem writeL_get:∀(vs cs:List AV) (a:Nat),a+vs.length≤cs.length→∀j,(writeL cs a vs)[j]?=if a≤j∧j<a+vs.length then vs[j - a]? else cs[j]?
 |[],cs,a,_,j=>by grind[writeL]
 |v::vs,cs,a,b,j=>by
  simp only[writeL,List.length_cons] at b ⊢
  rw[writeL_get vs (cs.set a v) (a+1) (by grind) j]
  grind
theorem pureL_get {cs:List AV} (h:pureL cs=true):∀c∈cs,c.pure=true:=by
 induction cs<;>grind[pureL]
theorem pureL_of {cs:List AV} (h:∀c∈cs,c.pure=true):pureL cs=true:=by
 induction cs<;>grind[pureL]
theorem writeL_mem {vs cs:List AV} {a:Nat} (d:a+vs.length≤cs.length):∀c∈writeL cs a vs,c∈cs∨c∈vs:=by
 intro c b
 obtain⟨j,e⟩:=List.getElem?_of_mem b
 grind[writeL_get]
theorem splice_get (arr:List Value) (vs:List Value) (a:Nat) (b:a+vs.length≤arr.length) (j:Nat):
  (arr.take a++vs++arr.drop (a+vs.length))[j]?=if a≤j∧j<a+vs.length then vs[j - a]? else arr[j]?:=by
 rw[List.append_assoc,List.getElem?_append]
 grind
theorem oneL_of {cs:List AV}:oneL cs=true↔∀c∈cs,c.one=true:=by simp[oneL]
theorem g_store (hS:SimO A w σ o) (hρ:∀x,Rep A w σ o (ρA x) (ρC x)) {t:TypeId} {n:Nat} {x y:Operand} (hop:oper.op= .store t x y) (hn:sizeT P t=some n)
  {id off tot:Nat} (ha:ρA x= .ptr id off tot) {cs:List AV} {e:TypeId} {sz:Nat} {pu:Bool} (ho:o[id]?=some (.cells cs e sz pu)) (htot:cs.length=tot)
  (hlen:(ρA y).cellsOf.length=n) (h1:oneL (ρA y).cellsOf=true) (hle:off+n≤cs.length) (hpu:pu=false∨pureL (ρA y).cellsOf=true):
  Gives A P ρC oper w σ o .ud (o.set id (.cells (writeL cs off (qnL pu (ρA y).cellsOf)) e sz pu)):=by
 have hx:=hρ x
 rw[ha] at hx
 simp only[Rep] at hx
 obtain⟨b,c,hσ,hp⟩:=hx.2.2 sz ⟨cs,e,pu,ho,htot⟩
 obtain⟨hl0,hone⟩:=(hρ y).cells h1
 have hl:=hl0.qnL pu
 replace hlen:(qnL pu (ρA y).cellsOf).length=n:=by grind[qnL_len]
 replace h1:oneL (qnL pu (ρA y).cellsOf)=true:=qnL_one h1
 replace hpu:pu=false∨pureL (qnL pu (ρA y).cellsOf)=true:=hpu.imp (fun h=>h) qnL_pure
 generalize qnL pu (ρA y).cellsOf=vs at*
 have hlen':(ρC y).cells.toList.length=n:=by grind[RepL.length]
 have hob:=hS.obj id _ ho
 simp only[ObjOK] at hob
 obtain⟨q1,q2,q3⟩:=hob
 rcases q3 with⟨h0,_⟩|⟨b',cap,arr,k1,k2,k3,k4,k5,k6⟩
 ·simp_all
 rw[hσ] at k1
 simp only[Option.some.injEq,Prod.mk.injEq] at k1
 obtain⟨rfl,rfl⟩:=k1
 have hrun:=run_storeCells_at (P:=P) b off e (ρC y).cells.toList 0 arr w k3 (by omega) hone
 simp only[Nat.add_zero] at hrun
 generalize hnew:(arr.toList.take off++(ρC y).cells.toList++arr.toList.drop (off+(ρC y).cells.toList.length)).toArray=new at hrun
 have hexec:(execOp ρC oper).run P w= .ok .skip (w.setRow b new):=by
  simp_all[execOp,Instr.storeAt,Instr.sureAddr,storeVar,run_sizeOf']
 have hblt:b<w.heap.size:=hS.bnd id b c hσ
 have hsame:∀k,k≠b→(w.setRow b new).heap[k]?=w.heap[k]?:=by
  simp_all[World.setRow,Array.getElem?_modify,Ne.symm]
 have hat:(w.setRow b new).heap[b]?=some (.cells new e (0,0)):=by
  grind[World.setRow]
 have hnsz:new.size=arr.size:=by grind
 have hidσ:id<σ.length:=(List.getElem?_eq_some_iff.1 hσ).1
 have hset:σ.set id (some (b,c))=σ:=by
  apply List.ext_getElem?
  grind
 obtain⟨hS',hE⟩:=SimO.upd (w':=w.setRow b new) (s':=some (b,c)) (x':=.cells (writeL cs off vs) e sz pu) hS ho (by simp_all) rfl rfl rfl
  (fun k _ hk=>hsame k (fun he=>hk c (he▸hσ))) (fun b2 c2 h2=> .inl ⟨c,by simp_all⟩) ⟨_,_,_,rfl,by grind[writeL_length],fun _=>hσ⟩ (fun hE=>by
   simp only[ObjOK]
   refine⟨fun hpt=>?_,?_,.inr ⟨b,c,new,by simp_all,k2,hat,by omega,by grind[writeL_length],fun j d hd=>?_⟩⟩
   ·refine pureL_of fun d hd=>?_
    rcases writeL_mem (by rw[hlen];exact hle) d hd with hd|hd<;>grind[writeL_mem,pureL_get]
   ·refine oneL_of.2 fun d hd=>?_
    rcases writeL_mem (by rw[hlen];exact hle) d hd with hd|hd<;>grind[writeL_mem,oneL_of]
   ·rw[writeL_get _ _ _ (by omega)] at hd
    rw[hlen] at hd
    have hsp:=splice_get arr.toList (ρC y).cells.toList off (by grind) j
    have hnj:new[j]?=if off≤j∧j<off+n then(ρC y).cells.toList[j - off]? else arr[j]?:=by
     grind
    by_cases hj:off≤j∧j<off+n
    ·rw[if_pos hj] at hd hnj
     obtain⟨u,hu,hr⟩:=RepL.get _ _ hl _ d hd
     exact⟨u,by rw[hnj];exact hu,hr.ext hE⟩
    ·rw[if_neg hj] at hd hnj
     obtain⟨u,hu,hr⟩:=k6 j d hd
     exact⟨u,by rw[hnj];exact hu,hr.ext hE⟩)
 rw[hset] at hS' hE
 exact⟨undef,_,σ,.inr ⟨hexec,rfl⟩,hS',by simp[Rep],hE⟩
end
section
variable {P:Program} {A:Clr} {w w':World} {σ σ':Sig} {o o':Store} {ρA:Operand→AV} {ρC:Operand→Value} {oper:Oper} {v:AV}
theorem mkO_some {nid:Nat} {x:AObj} (h:mkO nid x o=some o'):o[nid]?=some .dead∧o'=o.set nid x:=by
 grind[mkO]
theorem SimO.newCells (k:SimO A w σ o) {nid:Nat} (l:o[nid]?=some .dead) {cs:List AV} {arr:Array Value} {e:TypeId} {sz cap:Nat} {pu:Bool} (d:arr.size=cap*sz) (p:cap≤maxLen)
  (g:cs.length≤arr.size) (y:oneL cs=true) (m:pu=true→pureL cs=true) (a:∀(j:Nat) (c:AV),cs[j]?=some c→∃v,arr[j]?=some v∧Rep A w σ o c v):
  SimO A (w.alloc (.cells arr e)) (σ.set nid (some (w.heap.size,cap))) (o.set nid (.cells cs e sz pu))∧Ext w σ o (w.alloc (.cells arr e)) (σ.set nid (some (w.heap.size,cap))) (o.set nid (.cells cs e sz pu)):=by
 have i:nid<o.length:=(List.getElem?_eq_some_iff.1 l).1
 have f:nid<σ.length:=by rw[k.len];exact i
 refine SimO.upd (x:=.dead) k l (by simp) rfl rfl rfl (fun b r _=>heap_alloc_old w _ b r) (fun b c h=> .inr ?_) trivial fun q=>?_
 ·simp_all
 ·simp only[ObjOK]
  refine⟨m,y,.inr ⟨w.heap.size,cap,arr,by simp_all,p,heap_alloc_new w _,d,g,fun j c n=>?_⟩⟩
  obtain⟨u,s,t⟩:=a j c n
  exact⟨u,s,t.ext q⟩
theorem maxLen_one:1≤maxLen:=by simp[maxLen]
theorem repL_sc (A:Clr) (w:World) (σ:Sig) (o:Store):∀(z:List Value),(∀u∈z,u.oneCell'=true)→RepL A w σ o (z.map .sc) z
 |[],_=>by simp[RepL]
 |v::z,h=>by
  simp only[List.map_cons,RepL]
  exact⟨v,z,rfl,by simp[Rep,h v],repL_sc A w σ o z fun u a=>h u (by simp[a])⟩
theorem oneL_sc {z:List Value} (h:∀u∈z,u.oneCell'=true):oneL (z.map AV.sc)=true:=by
 refine oneL_of.2 fun c b=>?_
 obtain⟨u,a,rfl⟩:=List.mem_map.1 b
 exact h u a
theorem pureL_sc (z:List Value):pureL (z.map AV.sc)=true:=by
 refine pureL_of fun c a=>?_
 obtain⟨u,_,rfl⟩:=List.mem_map.1 a
 rfl
theorem zeroT_some {t:TypeId} {z:List Value} (h:zeroT P t=some z):∃(i:TypeInfo) (a:Value),P.info? t=some i∧i.zero=some a∧a.cells.toList=z∧i.size=z.length∧∀u∈z,u.oneCell'=true:=by
 unfold zeroT at h
 cases b:P.info? t with
 |none=>simp[b] at h
 |some i=>
  cases c:i.zero with
  |none=>simp_all
  |some a=>
   simp only[b,c,sizeT,Option.bind_some,Option.map_some] at h
   grind
theorem g_alloc (m:SimO A w σ o) {t:TypeId} {z:List Value} {pu:Bool} {nid:Nat} (q:oper.op= .alloc t) (p:zeroT P t=some z)
  (l:o[nid]?=some .dead):Gives A P ρC oper w σ o (.ptr nid 0 z.length) (o.set nid (.cells (z.map .sc) t z.length pu)):=by
 obtain⟨i,n,C,v,d,k,a⟩:=zeroT_some p
 have b:nid<o.length:=(List.getElem?_eq_some_iff.1 l).1
 have f:nid<σ.length:=by rw[m.len];exact b
 have g:n.cells.size=z.length:=by grind
 obtain⟨h,s⟩:=m.newCells (w:=w) (arr:=n.cells) (e:=t) (sz:=z.length) (cap:=1) (pu:=pu) (cs:=z.map .sc) l (by omega) maxLen_one (by simp[g]) (oneL_sc a) (fun _=>pureL_sc z)
  (fun j c r=>by
   obtain⟨u,D,x⟩:=RepL.get _ _ (repL_sc A w σ o z a) j c r
   grind)
 refine⟨.pointer (some ⟨w.heap.size,0,none⟩),_,_,.inl ?_,h,?_,s⟩
 ·simp_all[execOp,Instr.alloc,zeroValue,typeInfo,newVar,newRow]
 ·simp only[Rep]
  refine⟨⟨_,_,_,_,by rw[List.getElem?_set_self b],by simp⟩,⟨_,rfl⟩,fun B y=>⟨w.heap.size,1,by simp_all,rfl⟩⟩
theorem g_box (l:SimO A w σ o) (g:∀x,Rep A w σ o (ρA x) (ρC x)) {e:TypeId} {x:Operand} {nid:Nat} (f:oper.op= .box e x) (h:oneL (ρA x).cellsOf=true)
  (k:o[nid]?=some .dead):Gives A P ρC oper w σ o (.ptr nid 0 (ρA x).cellsOf.length) (o.set nid (.cells (ρA x).cellsOf e (ρA x).cellsOf.length false)):=by
 have a:nid<o.length:=(List.getElem?_eq_some_iff.1 k).1
 have d:nid<σ.length:=by rw[l.len];exact a
 obtain⟨m,_⟩:=(g x).cells h
 have i:=RepL.length _ _ m
 obtain⟨b,n⟩:=l.newCells (w:=w) (arr:=(ρC x).cells) (e:=e) (sz:=(ρA x).cellsOf.length) (cap:=1) (pu:=false) (cs:=(ρA x).cellsOf) k (by simp_all) maxLen_one (by simp_all) h (by simp)
  (fun j c r=>by
   grind[RepL.get])
 refine⟨.pointer (some ⟨w.heap.size,0,none⟩),_,_,.inl ?_,b,?_,n⟩
 ·simp[execOp,f,Instr.box,newVar,newRow,newObj,Sem.run]
 ·simp only[Rep]
  refine⟨⟨_,_,_,_,by rw[List.getElem?_set_self a],by simp⟩,⟨_,rfl⟩,fun p q=>⟨w.heap.size,1,by simp_all,rfl⟩⟩
theorem g_mov (c:SimO A w σ o) (b:∀x,Rep A w σ o (ρA x) (ρC x)) {x:Operand} (a:oper.op= .move x∨oper.op= .assign x):Gives A P ρC oper w σ o (ρA x) o:=
 Gives.same c (u:=ρC x) (by rcases a with h|h<;>simp[execOp,h]) (b x)
theorem rep_sc {u:Value} {v:Value} (h:Rep A w σ o (.sc u) v):v=u:=by grind[Rep]
theorem g_pick (i:SimO A w σ o) (d:∀x,Rep A w σ o (ρA x) (ρC x)) {c a b:Operand} (e:oper.op= .pick c a b) {t:Bool} (h:ρA c= .sc (.bool t)):Gives A P ρC oper w σ o (ρA (if t then a else b)) o:=by
 have f:=d c
 rw[h] at f
 have g:=rep_sc f
 refine Gives.same i (u:=ρC (if t then a else b)) ?_ (d _)
 cases t<;>simp[execOp,e,g,asBool]
theorem g_nilc (c:SimO A w σ o) (a:∀x,Rep A w σ o (ρA x) (ρC x)) {x:Operand} (b:oper.op= .nilCheck x) {p:Addr} (d:ρC x= .pointer (some p)):Gives A P ρC oper w σ o (ρA x) o:=by
 refine Gives.same c (u:=ρC x) ?_ (a x)
 simp_all[execOp]
theorem wrapI_eq (k:IntKind) (n:Int):wrapI k n=k.wrap n:=by
 cases k<;>simp only[wrapI]
 all_goals
  split
  ·rename_i h
   simp only[Bool.and_eq_true,decide_eq_true_eq] at h
   grind[IntKind.wrap,IntKind.bits,IntKind.signed]
  ·rfl
theorem powI_eq (n:Nat):powI n=2^n:=by
 simp[powI]
theorem run_scBin {e:BinOp} {t:TypeId} {x y:Operand} {a b r:Value} (h:scBin e a b=some r):
  (do eqGuard e t x y a b;binOp e t a b:Sem Value).run P w= .ok r w:=by
 unfold scBin at h
 simp only[intBin,wrapI_eq,powI_eq] at h
 split at h
 ·rename_i k n j m
  split at h
  ·split at h
   ·cases h
   ·injection h with h;subst h
    rename_i f
    simp[eqGuard,binOp,Op.shift,f]
  ·split at h
   ·cases h
   ·injection h with h;subst h
    rename_i f
    simp[eqGuard,binOp,Op.shift,f]
  ·split at h
   ·rename_i i
    subst i
    cases e<;>simp only[reduceCtorEq] at h<;>first
     |(injection h with h;subst h;simp[eqGuard,binOp,Op.intArith,Op.intBits,Op.intCmp];done)
     |simp_all[eqGuard,binOp,Op.intDiv]
   ·cases h
 ·rename_i c d
  cases e<;>simp only[reduceCtorEq] at h
  all_goals first
   |(injection h with h;simp_all[eqGuard,binOp,Op.stringOp])
   |(split at h
     ·rename_i g
      injection h with h;subst h
      simp[eqGuard,binOp,Op.stringOp]
      omega
     ·cases h)
 ·cases h
theorem scBin_one {c:BinOp} {a b r:Value} (h:scBin c a b=some r):r.oneCell'=true:=by
 unfold scBin at h
 split at h
 ·split at h
  ·split at h
   ·cases h
   ·injection h with h;subst h;rfl
  ·split at h
   ·cases h
   ·injection h with h;subst h;rfl
  ·split at h
   ·unfold intBin at h
    cases c<;>simp only[reduceCtorEq] at h<;>first
     |(injection h with h;subst h;rfl)
     |(split at h
       ·cases h
       ·injection h with h;subst h;rfl)
   ·cases h
 ·cases c<;>simp only[reduceCtorEq] at h
  all_goals first
   |(injection h with h;subst h;rfl)
   |(split at h
     ·injection h with h;subst h;rfl
     ·cases h)
 ·cases h
theorem g_bin (l:SimO A w σ o) (c:∀x,Rep A w σ o (ρA x) (ρC x)) {g:BinOp} {t k:TypeId} {x y:Operand} (d:oper.op= .binOp g t x y k) {a b r:Value} (j:ρA x= .sc a) (i:ρA y= .sc b)
  (h:scBin g a b=some r):Gives A P ρC oper w σ o (.sc r) o:=by
 have f:=c x
 have e:=c y
 rw[j] at f
 rw[i] at e
 refine Gives.same l (u:=r) ?_ (by simp[Rep,scBin_one h])
 simp only[execOp,d,rep_sc f,rep_sc e]
 have:=run_scBin (P:=P) (w:=w) (t:=t) (x:=x) (y:=y) h
 simp only[Sem.run_bind] at this ⊢
 rw[this]
 rfl
theorem g_beq (i:SimO A w σ o) (d:∀x,Rep A w σ o (ρA x) (ρC x)) {f:BinOp} {c:Bool} {t m:TypeId} {x y:Operand} (e:oper.op= .binOp f t x y m) (k:(f= .eql∧c=false)∨(f= .neq∧c=true))
  (l:P.underlying t=some .bool) {a b:Bool} (j:ρA x= .sc (.bool a)) (n:ρA y= .sc (.bool b)):Gives A P ρC oper w σ o (.sc (.bool (if c then !(a==b) else a==b))) o:=by
 have h:=d x
 have g:=d y
 rw[j] at h
 rw[n] at g
 refine Gives.same i (u:=.bool (if c then !(a==b) else a==b)) ?_ (by simp[Rep,Value.oneCell'])
 simp only[execOp,e,rep_sc h,rep_sc g]
 rcases k with⟨rfl,rfl⟩|⟨rfl,rfl⟩<;>simp[eqGuard,binOp,Go.run_equal_bool w t _ _ l]
theorem run_equalIn_nilp (w:World) (d:Nat) {t e:TypeId} (p:Option Addr) (h:P.underlying t=some (.pointer e)):(Op.equalIn (d+1) t (.pointer p) (.pointer none)).run P w= .ok p.isNone w:=by
 cases p<;>simp[Op.equalIn,run_underlying h]
theorem g_pnil (hS:SimO A w σ o) (hρ:∀x,Rep A w σ o (ρA x) (ρC x)) {op:BinOp} {neg:Bool} {t t' e:TypeId} {x y:Operand} (hop:oper.op= .binOp op t x y t') (hn:(op= .eql∧neg=false)∨(op= .neq∧neg=true))
  (hu:P.underlying t=some (.pointer e)) {p:Option Addr} (ha:ρC x= .pointer p) (hb:ρA y= .sc (.pointer none)):Gives A P ρC oper w σ o (.sc (.bool (if neg then p.isSome else p.isNone))) o:=by
 have h2:=hρ y
 rw[hb] at h2
 refine Gives.same hS (u:=.bool (if neg then p.isSome else p.isNone)) ?_ (by simp[Rep,Value.oneCell'])
 simp only[execOp,hop,ha,rep_sc h2]
 have hq:(Op.equal t (.pointer p) (.pointer none)).run P w= .ok p.isNone w:=run_equalIn_nilp w 9999 p hu
 rcases hn with⟨rfl,rfl⟩|⟨rfl,rfl⟩<;>cases p<;>simp[eqGuard,binOp,hq]
theorem g_un (f:SimO A w σ o) (c:∀x,Rep A w σ o (ρA x) (ρC x)) {e:UnOp} {t:TypeId} {x:Operand} (g:oper.op= .unOp e t x) (h:unA e (ρA x)=some v):Gives A P ρC oper w σ o v o:=by
 have a:=c x
 unfold unA at h
 split at h
 ·rename_i b d
  rw[d] at a
  have:=rep_sc a
  split at h
  ·injection h with h;subst h
   refine Gives.same f (u:=.bool !b) ?_ (by simp[Rep,Value.oneCell'])
   simp_all[execOp,Op.unary]
  ·cases h
 ·rename_i k n d
  rw[d] at a
  have:=rep_sc a
  split at h
  ·injection h with h;subst h
   rw[wrapI_eq]
   refine Gives.same f (u:=.int k (k.wrap (0 - n))) ?_ (by simp[Rep,Value.oneCell'])
   simp_all[execOp,Op.unary,Op.intArith]
  ·cases h
 ·cases h
theorem g_conv (c:SimO A w σ o) (a:∀x,Rep A w σ o (ρA x) (ρC x)) {s d:TypeId} {h:TypeDesc} {k f:IntKind} {n:Int} {x:Operand} (e:oper.op= .convert s d x) (i:P.underlying s=some h) (j:P.underlying d=some (.int k))
  (g:ρA x= .sc (.int f n)):Gives A P ρC oper w σ o (.sc (.int k (wrapI k n))) o:=by
 rw[wrapI_eq]
 have b:=a x
 rw[g] at b
 have:=rep_sc b
 refine Gives.same c (u:=.int k (k.wrap n)) ?_ (by simp[Rep,Value.oneCell'])
 simp_all[execOp,convert,run_underlying,Conv.intToInt]
theorem rep_addA {a b:AV} {d:Nat} {u:Value} (h:Rep A w σ o a u) (c:addA d a=some b):∃p:Addr,u= .pointer (some p)∧Rep A w σ o b (.pointer (some (p.add d))):=by
 unfold addA at c
 grind[Rep,Addr.add,add_add]
end
section
variable {P:Program} {A:Clr} {w w':World} {σ σ':Sig} {o o':Store} {ρA:Operand→AV} {ρC:Operand→Value} {oper:Oper} {v:AV}
theorem g_fieldA (d:SimO A w σ o) (a:∀x,Rep A w σ o (ρA x) (ρC x)) {s f n:Nat} {fs:Array Field} {g:Field} {x:Operand} (b:oper.op= .fieldAddr s x f) (e:P.underlying s=some (.struct fs)) (j:fs[f]?=some g)
  (k:sizeT P g.type=some n) (c:n≠0) (h:addA g.offset (ρA x)=some v):Gives A P ρC oper w σ o v o:=by
 obtain⟨p,i,l⟩:=rep_addA (a x) h
 simp_all[Gives.same,execOp,Instr.fieldAt,run_underlying,Instr.sureAddr,fieldPlace,run_sizeOf']
theorem g_field (p:SimO A w σ o) (b:∀x,Rep A w σ o (ρA x) (ρC x)) {s f:Nat} {fs:Array Field} {g:Field} {x:Operand} {n:Option Nat} (i:oper.op= .field s x f) (r:P.underlying s=some (.struct fs)) (l:fs[f]?=some g)
  (j:shapeT P g.type=some n) {cs:List AV} (e:ρA x= .agg cs) (h:partA cs g.offset n=some v):Gives A P ρC oper w σ o v o:=by
 have a:=b x
 rw[e] at a
 simp only[Rep] at a
 obtain⟨c,k,d⟩:=a
 obtain⟨u,q,m⟩:=run_part (P:=P) c cs g.offset g.type n j d h
 simp_all[Gives.same,execOp,Instr.field,run_underlying,asAgg]
theorem intA_rep {a:AV} {n:Int} {u:Value} (h:Rep A w σ o a u) (b:intA a=some n):∃k,u= .int k n:=by
 unfold intA at b
 grind[rep_sc]
theorem g_idxA (q:SimO A w σ o) (b:∀x,Rep A w σ o (ρA x) (ρC x)) {t a e sz:Nat} {x i:Operand} {n:Int} (c:oper.op= .indexAddr t x i) (g:P.underlying t=some (.array a e)) (d:sizeT P e=some sz)
  (m:intA (ρA i)=some n) (r:0≤n) (s:n<a) (h:addA (n.toNat*sz) (ρA x)=some v):Gives A P ρC oper w σ o v o:=by
 obtain⟨p,f,l⟩:=rep_addA (b x) h
 obtain⟨k,j⟩:=intA_rep (b i) m
 refine Gives.same q ?_ l
 simp only[execOp,c,Instr.indexAt,j,f]
 simp only[Sem.run_bind,asIntOf,Sem.run_pure,Result.andThen_ok,run_underlying g,Instr.sureAddr]
 simp_all[run_sizeOf']
theorem g_idxS (hS:SimO A w σ o) (B:∀x,Rep A w σ o (ρA x) (ρC x)) {t e sz:Nat} {x i:Operand} {n:Int} (M:oper.op= .indexAddr t x i) (Y:P.underlying t=some (.slice e)) (X:sizeT P e=some sz) (S:sz≠0)
  (Z:intA (ρA i)=some n) (h:idxSA o sz (ρA x) n=some v):Gives A P ρC oper w σ o v o:=by
 obtain⟨k,T⟩:=intA_rep (B i) Z
 have r:=B x
 have C:∀(a:Option Addr) (f d:Nat) (p:Addr),ρC x= .slice a f d→a=some p→0≤n→n<f→Rep A w σ o v (.pointer (some (p.add (n.toNat*sz))))→Gives A P ρC oper w σ o v o:=by
  intro a f d p g K N G hr
  refine Gives.same hS ?_ hr
  simp only[execOp,M,Instr.indexAt,T,g,K]
  simp only[Sem.run_bind,asIntOf,Sem.run_pure,Result.andThen_ok,run_underlying Y]
  simp_all[run_sizeOf']
 unfold idxSA at h
 split at h
 ·rename_i m F q
  rw[q] at r
  simp only[Rep] at r
  obtain⟨a,d,g,hn,hp,U⟩:=r
  split at h
  ·rename_i E
   injection h with h;subst h
   obtain⟨N,G,z⟩:=E
   have H:n.toNat*sz<F.length:=by
    rw[z]
    have:n.toNat<m:=by omega
    exact(Nat.mul_lt_mul_right (by omega)).2 this
   obtain⟨b,u,hb,_⟩:=RepM.get _ _ _ U _ _ (List.getElem?_eq_getElem H)
   grind[Rep]
  ·cases h
 ·rename_i V a0 f I q
  rw[q] at r
  simp only[Rep] at r
  obtain⟨L,a,d,g,W,s⟩:=r
  split at h
  ·rename_i F O y Q R
   split at h
   ·rename_i E
    obtain⟨j,rfl,N,G,D⟩:=E
    injection h with h;subst h
    have l:=s y ⟨F,O,Q,R,j⟩
    have a1:CurO o V y I:=⟨F,O,Q,R,j⟩
    unfold OsOk at l
    split at l
    ·omega
    ·rename_i b c J
     have K:=l.1 (by omega)
     refine C a f d _ g K N G ?_
     simp only[Rep]
     refine⟨L,⟨_,rfl⟩,fun sz E=>⟨b,c,J,?_⟩⟩
     simp_all[Addr.add]
    simp_all
   ·cases h
  ·cases h
 ·cases h
theorem g_idx (f:SimO A w σ o) (b:∀x,Rep A w σ o (ρA x) (ρC x)) {t c e sz:Nat} {x i:Operand} {n:Int} {m:Option Nat} (d:oper.op= .index t x i) (B:P.underlying t=some (.array c e)) (p:sizeT P e=some sz)
  (j:shapeT P e=some m) (z:intA (ρA i)=some n) (E:0≤n) (C:n<c) {cs:List AV} (g:ρA x= .agg cs) (h:partA cs (n.toNat*sz) m=some v):Gives A P ρC oper w σ o v o:=by
 obtain⟨k,q⟩:=intA_rep (b i) z
 have a:=b x
 rw[g] at a
 simp only[Rep] at a
 obtain⟨s,l,r⟩:=a
 obtain⟨u,D,y⟩:=run_part (P:=P) s cs _ e m j r h
 refine Gives.same f (u:=u) ?_ y
 simp only[execOp,d,Instr.index,q,l]
 simp_all[asIntOf,run_underlying,run_sizeOf']
theorem g_idxStr (d:SimO A w σ o) (c:∀x,Rep A w σ o (ρA x) (ρC x)) {t:Nat} {x i:Operand} {n:Int} {s:ByteArray} {b:UInt8} (e:oper.op= .index t x i) (l:P.underlying t=some .string)
  (f:intA (ρA i)=some n) (p:0≤n) (g:ρA x= .sc (.string s)) (h:s[n.toNat]?=some b):Gives A P ρC oper w σ o (.sc (.int .u8 b.toNat)) o:=by
 obtain⟨k,j⟩:=intA_rep (c i) f
 have a:=c x
 rw[g] at a
 have m:=rep_sc a
 refine Gives.same d (u:=.int .u8 b.toNat) ?_ (by simp[Rep,Value.oneCell'])
 simp_all[execOp,Instr.index,asIntOf,run_underlying]
theorem g_len (s:SimO A w σ o) (j:∀x,Rep A w σ o (ρA x) (ρC x)) {t:TypeId} {x:Operand} {c:Call} {k n:Nat} (q:oper.op= .call c) (z:c.callee= .builtin .len) (C:c.args=#[x]) (r:c.argTypes=#[t])
  (g:(k=0∧∃e,P.underlying t=some (.slice e))∨(k=1∧P.underlying t=some .string)∨(k=2∧∃a b,P.underlying t=some (.map a b))) (d:lenA o k (ρA x)=some n):Gives A P ρC oper w σ o (.sc (.int .i64 n)) o:=by
 refine Gives.same s (u:=.int .i64 n) ?_ (by simp[Rep,Value.oneCell'])
 simp only[execOp,q,resolve,z,C,r,invoke,builtin]
 have h:=j x
 rcases g with⟨rfl,e,g⟩|⟨rfl,g⟩|⟨rfl,a,b,g⟩
 ·have:∃A c,ρC x= .slice A n c:=by
   cases f:ρA x<;>rw[f] at d h<;>simp only[lenA,reduceCtorEq] at d<;>grind[lenA,reduceCtorEq,rep_sc,Rep]
  obtain⟨A,E,l⟩:=this
  simp[l,Builtin.len_,run_underlying g,goInt]
 ·cases f:ρA x<;>rw[f] at d h<;>simp only[lenA,reduceCtorEq] at d
  rename_i u
  cases u<;>simp only[reduceCtorEq,Option.some.injEq] at d
  subst d
  simp[rep_sc h,Builtin.len_,run_underlying g,goInt]
 ·cases f:ρA x<;>rw[f] at d h<;>simp only[lenA,reduceCtorEq] at d
  rename_i B
  split at d
  ·rename_i H J M D
   simp only[Option.some.injEq] at d
   subst d
   simp only[Rep] at h
   obtain⟨_,K,E,p,l⟩:=h
   have i:=s.obj B _ D
   simp only[ObjOK] at i
   obtain⟨_,_,L,I,G,F,m,v,y,_⟩:=i
   rw[p] at m
   simp only[Option.some.injEq,Prod.mk.injEq] at m
   obtain⟨rfl,rfl⟩:=m
   simp[l,Builtin.len_,run_underlying g,goInt,getObj,Sem.run,v,y]
  ·cases d
theorem g_lenArr (h:SimO A w σ o) {t:TypeId} {x:Operand} {c:Call} {n e:Nat} (a:oper.op= .call c) (g:c.callee= .builtin .len) (f:c.args=#[x]) (b:c.argTypes=#[t])
  (d:P.underlying t=some (.array n e)):Gives A P ρC oper w σ o (.sc (.int .i64 n)) o:=by
 refine Gives.same h (u:=.int .i64 n) ?_ (by simp[Rep,Value.oneCell'])
 simp[execOp,a,resolve,g,f,b,invoke,builtin,Builtin.len_,run_underlying d,goInt]
theorem g_mm (h:SimO A w σ o) (d:∀x,Rep A w σ o (ρA x) (ρC x)) {mx:Bool} {x y:Operand} {c:Call} {k:IntKind} {a b:Int} (e:oper.op= .call c) (l:c.callee= .builtin (if mx then .max else .min)) (m:c.args=#[x,y])
  (j:ρA x= .sc (.int k a)) (i:ρA y= .sc (.int k b)):Gives A P ρC oper w σ o (.sc (.int k (if mx then(if b>a then b else a) else(if b<a then b else a)))) o:=by
 have g:=d x
 have f:=d y
 rw[j] at g
 rw[i] at f
 refine Gives.same h (u:=.int k (if mx then(if b>a then b else a) else(if b<a then b else a))) ?_ (by simp[Rep,Value.oneCell'])
 cases mx<;>simp[execOp,e,resolve,l,m,invoke,builtin,Builtin.min_,Builtin.max_,rep_sc g,rep_sc f,Builtin.min2,Builtin.max2]
theorem g_extract (l:SimO A w σ o) (a:∀x,Rep A w σ o (ρA x) (ρC x)) {x:Operand} {i:Nat} (f:oper.op= .extract x i) {vs:List AV} (d:ρA x= .tup vs) (h:vs[i]?=some v):Gives A P ρC oper w σ o v o:=by
 have b:=a x
 rw[d] at b
 simp only[Rep] at b
 obtain⟨g,k,e⟩:=b
 obtain⟨u,c,j⟩:=RepL.get _ _ e i v h
 simp_all[Gives.same,execOp,Instr.extract]
theorem repL_map (a:∀x,Rep A w σ o (ρA x) (ρC x)):∀l:List Operand,RepL A w σ o (l.map ρA) (l.map ρC)
 |[]=>by simp[RepL]
 |x::l=>by simp only[List.map_cons,RepL];exact⟨_,_,rfl,a x,repL_map a l⟩
theorem g_mkif (hS:SimO A w σ o) (hρ:∀x,Rep A w σ o (ρA x) (ρC x)) {t:TypeId} {x:Operand} {fs:Array Field} (ht:P.underlying t=some (.struct fs)) (hop:oper.op= .makeInterface t x) {cs:List AV} (hx:ρA x= .agg cs) (hp:pureL cs=true):Gives A P ρC oper w σ o (.ifc t cs) o:=by
 have h1:=hρ x
 rw[hx] at h1
 simp only[Rep] at h1
 obtain⟨vs,hv,hl⟩:=h1
 refine Gives.same hS (u:=.iface t (.agg vs)) ?_ ?_
 ·simp[execOp,hop,Instr.makeInterface,run_underlying ht,hv]
 ·simp only[Rep]
  exact⟨_,rfl,hp,hl⟩
theorem g_mkfn (g:SimO A w σ o) (e:∀x,Rep A w σ o (ρA x) (ρC x)) {f:Fn} (d:∀l,fnL l f=f) {a b:Array Operand} (c:oper.op= .makeFunc f a b):Gives A P ρC oper w σ o (.fn f (a.toList.map ρA) (b.toList.map ρA)) o:=by
 refine Gives.same g (u:=.func f (a.map ρC) (b.map ρC)) (by simp[execOp,c,Instr.makeFunc]) ?_
 simp only[Rep]
 exact⟨_,_,by rw[d],by simp_all[repL_map],by simp_all[repL_map]⟩
end
section
variable {P:Program} {A:Clr} {w w':World} {σ σ':Sig} {o o':Store} {ρA:Operand→AV} {ρC:Operand→Value} {oper:Oper} {v:AV}
theorem boundA_rep {d k:Nat} {a:Option AV} {u:Option Value} (h:∀x,a=some x→∃y,u=some y∧Rep A w σ o x y) (c:a=none→u=none) (b:boundA d a=some k):
  (u=none∧k=d)∨∃q,u=some (.int q (k:Int)):=by
 unfold boundA at b
 grind[rep_sc]
theorem run_bounds (a:Bool) (b cap l h:Nat) (lo g:Option Value) (d:(lo=none∧l=0)∨∃q,lo=some (.int q (l:Int))) (e:(g=none∧h=b)∨∃q,g=some (.int q (h:Int))) (f:l≤h) (c:h≤cap):
  (Instr.sliceBounds a b cap lo g none).run P w= .ok (l,h,cap) w:=by
 have i:(0:Int)≤h∧(h:Int)≤cap:=by omega
 have j:(0:Int)≤l∧(l:Int)≤h:=by omega
 rcases d with⟨rfl,rfl⟩|⟨q,rfl⟩<;>rcases e with⟨rfl,rfl⟩|⟨k,rfl⟩<;>
  simp[Instr.sliceBounds,Instr.sliceBound,asIntOf,i,j,f,c]
theorem map_rep (a:∀x,Rep A w σ o (ρA x) (ρC x)) (lo:Option Operand):(∀x,lo.map ρA=some x→∃y,lo.map ρC=some y∧Rep A w σ o x y)∧(lo.map ρA=none→lo.map ρC=none):=by
 cases lo<;>simp_all
theorem g_slice (hS:SimO A w σ o) (p:∀x,Rep A w σ o (ρA x) (ρC x)) {t e sz:Nat} {x:Operand} {lo m:Option Operand} (M:oper.op= .slice t x lo m none) (Y:P.underlying t=some (.slice e)) (S:sizeT P e=some sz) (a1:sz≠0)
  (h:sliceA o sz (ρA x) (lo.map ρA) (m.map ρA)=some v):Gives A P ρC oper w σ o v o:=by
 have B:=p x
 have r:∀(a:Option Addr) (g f l k:Nat),ρC x= .slice a g f→boundA 0 (lo.map ρA)=some l→boundA g (m.map ρA)=some k→l≤k→k≤f→
   Rep A w σ o v (.slice (if f=l then a else a.map (·.add (l*sz))) (k - l) (f - l))→Gives A P ρC oper w σ o v o:=by
  intro a g f l k q F C y T hr
  refine Gives.same hS ?_ hr
  have b1:=boundA_rep (map_rep p lo).1 (map_rep p lo).2 F
  have b2:=boundA_rep (map_rep p m).1 (map_rep p m).2 C
  simp only[execOp,M,Instr.sliceAt,q,Instr.slice]
  simp[run_underlying Y,run_bounds true g f l k _ _ b1 b2 y T,run_sizeOf' S]
 unfold sliceA at h
 split at h
 ·rename_i n cs z
  rw[z] at B
  simp only[Rep] at B
  obtain⟨a,f,q,hn,hp,hm⟩:=B
  split at h
  ·rename_i l k F C
   split at h
   ·rename_i R
    injection h with h;subst h
    refine r a n f l k q F C R.1 (by omega) ?_
    simp only[Rep]
    refine⟨_,_,rfl,by omega,?_,?_⟩
    ·refine pureL_of fun c a7=>pureL_get hp c ?_
     grind
    ·refine RepM.of_get _ _ _ fun i c m=>?_
     rw[List.getElem?_take] at m
     split at m
     ·rename_i a2
      rw[List.getElem?_drop] at m
      obtain⟨b,u,rfl,a4,U,hr⟩:=RepM.get _ _ _ hm _ _ m
      have D:f≠l:=by
       grind
      simp_all[add_block,add_add]
     ·cases m
   ·cases h
  ·cases h
 ·rename_i id E g s z
  rw[z] at B
  simp only[Rep] at B
  obtain⟨Q,a,f,q,a5,G⟩:=B
  split at h
  ·rename_i l k F C
   split at h
   ·rename_i cs e' d pu ho
    split at h
    ·rename_i R
     injection h with h;subst h
     obtain⟨y,N,a0,rfl⟩:=R
     refine r a g f l k q F C y (by omega) ?_
     simp only[Rep]
     refine⟨Q,_,_,rfl,by omega,fun J H=>?_⟩
     have I:=G J H
     obtain⟨a8,e2,a3,j,_⟩:=H
     rw[ho] at j
     injection j with j
     injection j with _ _ hsz2 _
     subst hsz2
     unfold OsOk at I ⊢
     split
     ·simp_all
     ·rename_i b c L
      rw[L] at I
      obtain⟨h2,h3,h4⟩:=I
      have X:l*d+(k - l)*d=k*d:=by rw[←Nat.add_mul];congr 1;omega
      have K:k*d≤g*d:=Nat.mul_le_mul_right _ N
      refine⟨fun Z=>?_,fun hz Y hs=>?_,?_⟩
      ·have D:f≠l:=by omega
       have j:offR (E+l*d) s d=offR E s d+l*d:=by
        rcases h4 with⟨h5,h6⟩|⟨h5,h6,h7⟩
        ·grind[offR_le]
        ·rw[offR_gt (by omega),offR_gt (by omega)]
         omega
       rw[h2 (by omega),if_neg D,j]
       simp_all[Addr.add]
      ·have O:l*d=0:=by omega
       have V:l=0:=by
        rcases Nat.mul_eq_zero.1 O with h|h<;>omega
       subst V
       have a6:k*d=s:=by omega
       have W:k=g:=by
        have:g*d≤k*d:=by omega
        have:=Nat.le_of_mul_le_mul_right this hs
        omega
       simp_all[Addr.add]
      omega
     simp_all
    ·cases h
   ·cases h
  ·cases h
 all_goals grind[Rep,nilSl]
theorem run_bounds3 (f cap l h m:Nat) (lo:Option Value) (i g:Value) (b:(lo=none∧l=0)∨∃q,lo=some (.int q (l:Int))) (a:∃q,i= .int q (h:Int))
  (c:∃q,g= .int q (m:Int)) (d:l≤h) (e:h≤m) (j:m≤cap):
  (Instr.sliceBounds true f cap lo (some i) (some g)).run P w= .ok (l,h,m) w:=by
 have n:(0:Int)≤m∧(m:Int)≤cap:=by omega
 have o:(0:Int)≤h∧(h:Int)≤m:=by omega
 have k:(0:Int)≤l∧(l:Int)≤h:=by omega
 obtain⟨r,rfl⟩:=c
 obtain⟨p,rfl⟩:=a
 rcases b with⟨rfl,rfl⟩|⟨q,rfl⟩<;>
  simp[Instr.sliceBounds,Instr.sliceBound,asIntOf,n,o,k,d,e]
theorem g_slice3 (hS:SimO A w σ o) (C:∀x,Rep A w σ o (ρA x) (ρC x)) {t e sz:Nat} {x:Operand} {lo:Option Operand} {s mx:Operand} (a0:oper.op= .slice t x lo (some s) (some mx)) (ht:P.underlying t=some (.slice e)) (Z:sizeT P e=some sz) (b6:¬sz=0)
  (h:sliceA3 o sz (ρA x) (lo.map ρA) (ρA s) (ρA mx)=some v):Gives A P ρC oper w σ o v o:=by
 have r:=C x
 have D:∀(a:Option Addr) (g j l k m:Nat),ρC x= .slice a g j→boundA 0 (lo.map ρA)=some l→boundA g (some (ρA s))=some k→boundA g (some (ρA mx))=some m→l≤k→k≤m→m≤j→
   Rep A w σ o v (.slice (if m=l then a else a.map (·.add (l*sz))) (k - l) (m - l))→Gives A P ρC oper w σ o v o:=by
  intro a g j l k m p S M V F H a2 hr
  refine Gives.same hS ?_ hr
  have b1:=boundA_rep (map_rep C lo).1 (map_rep C lo).2 S
  have f:∀(y:Operand) (n:Nat),boundA g (some (ρA y))=some n→∃q,ρC y= .int q (n:Int):=by
   intro y n hy
   rcases boundA_rep (a:=some (ρA y)) (u:=some (ρC y)) (fun x r=>by injection r with r;subst r;exact⟨_,rfl,C y⟩) (fun h=>by cases h) hy with⟨h,_⟩|⟨q,h⟩
   all_goals simp_all
  have b2:=f s k M
  have b4:=f mx m V
  simp only[execOp,a0,Instr.sliceAt,p,Instr.slice]
  simp[run_underlying ht,run_bounds3 g j l k m _ _ _ b1 b2 b4 F H a2,run_sizeOf' Z]
 unfold sliceA3 at h
 split at h
 ·rename_i n cs E
  rw[E] at r
  simp only[Rep] at r
  obtain⟨a,j,p,hn,hp,V⟩:=r
  split at h
  ·rename_i l k m S M I
   split at h
   ·rename_i U
    injection h with h;subst h
    refine D a n j l k m p S M I U.1 U.2.1 (by omega) ?_
    simp only[Rep]
    refine⟨_,_,rfl,by omega,?_,?_⟩
    ·refine pureL_of fun c a4=>pureL_get hp c ?_
     exact List.mem_of_mem_drop (List.mem_of_mem_take a4)
    ·refine RepM.of_get _ _ _ fun i c s=>?_
     rw[List.getElem?_take] at s
     split at s
     ·rename_i b0
      rw[List.getElem?_drop] at s
      obtain⟨b,u,rfl,a8,a3,hr⟩:=RepM.get _ _ _ V _ _ s
      have O:m≠l:=by
       grind
      simp_all[add_block,add_add]
     ·cases s
   ·cases h
  ·cases h
 ·rename_i id z g N E
  rw[E] at r
  simp only[Rep] at r
  obtain⟨a1,a,j,p,a9,L⟩:=r
  split at h
  ·rename_i l k m S M I
   split at h
   ·rename_i cs e' d pu ho
    split at h
    ·rename_i U
     injection h with h;subst h
     obtain⟨F,H,b3,a5,rfl,T,K⟩:=U
     refine D a g j l k m p S M I F H (by omega) ?_
     simp only[Rep]
     refine⟨a1,_,_,rfl,by omega,fun Y R=>?_⟩
     have J:=L Y R
     obtain⟨b5,e2,a7,B,_⟩:=R
     rw[ho] at B
     injection B with B
     injection B with _ _ hsz2 _
     subst hsz2
     have a6:l*d+(k - l)*d=k*d:=by rw[←Nat.add_mul];congr 1;omega
     have X:k*d≤g*d:=Nat.mul_le_mul_right _ (by omega)
     unfold OsOk at J ⊢
     split
     ·rename_i G
      rw[G] at J
      obtain⟨h2,h3,h4,h5⟩:=J
      subst h3
      exact⟨h2,by simp,by omega,by omega⟩
     ·rename_i b c G
      rw[G] at J
      obtain⟨h2,h3,h4⟩:=J
      refine⟨fun W=>?_,fun hz=>by omega,.inr ⟨by omega,by omega,K⟩⟩
      have O:m≠l:=by omega
      have Q:(⟨b,z,none⟩:Addr).add (l*d)=⟨b,z+l*d,none⟩:=by unfold Addr.add;split<;>simp_all
      rw[h2 (by omega),if_neg O,offR_le (by omega),offR_gt (by omega),Option.map_some,Q,show z+l*d+(N+d) - N - d=z+l*d by omega]
     simp_all
    ·cases h
   ·cases h
  ·cases h
 ·cases h
theorem g_sliceStr (g:SimO A w σ o) (a:∀x,Rep A w σ o (ρA x) (ρC x)) {t l k:Nat} {x:Operand} {s:ByteArray} {lo b:Option Operand} (e:oper.op= .slice t x lo b none) (j:P.underlying t=some .string)
  (p:ρA x= .sc (.string s)) (i:boundA 0 (lo.map ρA)=some l) (n:boundA s.size (b.map ρA)=some k) (c:l≤k) (d:k≤s.size):Gives A P ρC oper w σ o (.sc (.string (s.extract l k))) o:=by
 have f:=a x
 rw[p] at f
 have m:=rep_sc f
 refine Gives.same g (u:=.string (s.extract l k)) ?_ (by simp[Rep,Value.oneCell'])
 have h:=boundA_rep (map_rep a lo).1 (map_rep a lo).2 i
 have q:=boundA_rep (map_rep a b).1 (map_rep a b).2 n
 simp only[execOp,e,Instr.sliceAt,m,Instr.slice]
 simp[run_underlying j,run_bounds false s.size s.size l k _ _ h q c d]
theorem fill_rep (place:Nat→Option (Nat×Nat)):∀(f:List (Nat×Nat×AV)) (b:List (Nat×Value)) (cs:List AV) (vs:Array Value) (h:List AV),
  f.length=b.length→(∀(i:Nat) (p:Nat×Nat×AV) (q:Nat×Value),f[i]?=some p→b[i]?=some q→place q.1=some (p.1,p.2.1)∧Rep A w σ o p.2.2 q.2)→
  RepL A w σ o cs vs.toList→oneL cs=true→fillA f cs=some h→
  ∃C,Instr.fill place vs b=some C∧RepL A w σ o h C.toList∧oneL h=true∧h.length=cs.length
 |[],[],cs,vs,h,_,_,G,L,r=>by
  simp only[fillA,Option.some.injEq] at r
  subst r
  exact⟨vs,rfl,G,L,rfl⟩
 |[],_::_,_,_,_,s,_,_,_,_=>by simp at s
 |_::_,[],_,_,_,s,_,_,_,_=>by simp at s
 |(e,n,a)::f,(i,u)::b,cs,vs,h,s,H,G,L,r=>by
  simp only[fillA] at r
  split at r
  ·rename_i O
   obtain⟨J,S,U⟩:=O
   obtain⟨I,K⟩:=H 0 (e,n,a) (i,u) rfl rfl
   simp only at I K
   obtain⟨Q,W⟩:=K.cells S
   have t:=RepL.length _ _ Q
   have E:=RepL.length _ _ G
   have z:u.cells.size=n:=by rw[←J,t];simp
   simp only[Instr.fill,I]
   rw[if_neg (by simp_all)]
   have M:∀(l:List Value) (k:Nat) (m:Array Value),((l.zipIdx k).foldl (fun cs (p:Value×Nat)=>cs.setIfInBounds (e+p.2) p.1) m).size=m.size∧
     ∀j,e+k+l.length≤m.size→((l.zipIdx k).foldl (fun cs (p:Value×Nat)=>cs.setIfInBounds (e+p.2) p.1) m)[j]?=if e+k≤j∧j<e+k+l.length then l[j - (e+k)]? else m[j]?:=by
    intro l
    induction l with
    |nil=>intro k m;simp;omega
    |cons x l ih=>
     intro k m
     simp only[List.zipIdx_cons,List.foldl_cons]
     grind
   have D:Array.foldl (fun cs (p:Value×Nat)=>cs.setIfInBounds (e+p.2) p.1) vs u.cells.zipIdx=(u.cells.toList.zipIdx 0).foldl (fun cs (p:Value×Nat)=>cs.setIfInBounds (e+p.2) p.1) vs:=by
    rw[←Array.foldl_toList];simp
   obtain⟨Z,P⟩:=M u.cells.toList 0 vs
   have y:RepL A w σ o (writeL cs e a.cellsOf) ((u.cells.toList.zipIdx 0).foldl (fun cs (p:Value×Nat)=>cs.setIfInBounds (e+p.2) p.1) vs).toList:=by
    refine RepL.of_get _ _ (by grind[writeL_length]) fun j c v=>?_
    rw[writeL_get _ _ _ (by omega)] at v
    have F:=P j (by simp_all)
    simp only[Array.getElem?_toList]
    rw[F]
    simp only[Nat.add_zero,Array.length_toList,z]
    rw[J] at v
    by_cases g:e≤j∧j<e+n
    ·rw[if_pos g] at v ⊢
     grind[RepL.get]
    ·rw[if_neg g] at v ⊢
     grind[RepL.get]
   have B:oneL (writeL cs e a.cellsOf)=true:=oneL_of.2 fun d Y=>by
    grind[writeL_mem,oneL_of]
   obtain⟨C,V,T,X,k4⟩:=fill_rep place f b _ _ h (by simpa using s) (fun i p q R N=>H (i+1) p q (by simpa using R) (by simpa using N)) y B r
   grind[writeL_length]
  ·cases r
end
section
variable {P:Program} {A:Clr} {w w':World} {σ σ':Sig} {o o':Store} {ρA:Operand→AV} {ρC:Operand→Value} {oper:Oper} {v:AV}
theorem optAll_get {d c:Type} {f:d→Option c}:∀{l:List d} {r:List c},optAll f l=some r→l.length=r.length∧∀(i:Nat) (a:d) (b:c),l[i]?=some a→r[i]?=some b→f a=some b
 |[],r,h=>by grind[optAll]
 |a::l,r,h=>by
  simp only[optAll] at h
  split at h
  ·rename_i b j m e
   injection h with h;subst h
   obtain⟨g,k⟩:=optAll_get e
   grind
  ·cases h
theorem g_build (H:SimO A w σ o) (g:∀x,Rep A w σ o (ρA x) (ρC x)) {t:TypeId} {place:Nat→Option (Nat×Nat)} {z:List Value} {a:Array (Nat×Operand)} {f:List (Nat×Nat×Operand)} {cs:List AV} (G:oper.op= .build t a)
  (J:zeroT P t=some z) (E:∀e:Value,(P.info? t).bind (·.zero)=some e→∀l,P.built t l=Instr.fill place e.cells l)
  (c:f.length=a.toList.length) (n:∀(i:Nat) (p:Nat×Operand) (q:Nat×Nat×Operand),a.toList[i]?=some p→f[i]?=some q→place p.1=some (q.1,q.2.1)∧q.2.2=p.2)
  (B:fillA (f.map fun p=>(p.1,p.2.1,ρA p.2.2)) (z.map .sc)=some cs):Gives A P ρC oper w σ o (.agg cs) o:=by
 obtain⟨i,e,N,D,d,h,b⟩:=zeroT_some J
 obtain⟨r,Q,L,K,O⟩:=fill_rep (w:=w) (σ:=σ) (o:=o) place (f.map fun p=>(p.1,p.2.1,ρA p.2.2)) (a.toList.map fun p=>(p.1,ρC p.2)) (z.map .sc) e.cells cs (by simpa using c)
  (fun j p q v s=>by
   rw[List.getElem?_map,Option.map_eq_some_iff] at v s
   obtain⟨C,m,rfl⟩:=v
   obtain⟨F,k,rfl⟩:=s
   obtain⟨I,y⟩:=n j F C k m
   exact⟨I,by simp only[y];exact g _⟩) (by grind[repL_sc]) (oneL_sc b) B
 have M:P.built t (a.toList.map fun p=>(p.1,ρC p.2))=some r:=by simp_all
 refine Gives.same H (u:=.agg r) ?_ (by grind[Rep])
 simp_all[run_build,execOp]
theorem rep_zeros (A:Clr) (w:World) (σ:Sig) (o:Store) {z:List Value} (a:∀u∈z,u.oneCell'=true) (b:Array Value) (q:b.toList=z):∀n:Nat,
  RepL A w σ o (List.replicate n (z.map AV.sc)).flatten (madeCells b (n*z.length)).toList:=by
 intro n
 have i:((List.replicate n (z.map AV.sc)).flatten).length=n*z.length:=by simp
 refine RepL.of_get _ _ (by simp[madeCells]) fun j c d=>?_
 have e:j<n*z.length:=by grind
 have f:∀(n j:Nat),j<n*z.length→((List.replicate n (z.map AV.sc)).flatten)[j]?=(z.map AV.sc)[j % z.length]?:=by
  intro n
  induction n with
  |zero=>omega
  |succ n m=>
   intro j d
   rw[List.replicate_succ,List.flatten_cons,List.getElem?_append]
   simp only[List.length_map]
   by_cases h:j<z.length
   ·rw[if_pos h,Nat.mod_eq_of_lt h]
   ·rw[if_neg h,m (j - z.length) (by grind)]
    congr 1
    rw[Nat.mod_eq_sub_mod (by omega:j≥z.length)]
 rw[f n j e] at d
 obtain⟨u,r,l⟩:=RepL.get _ _ (repL_sc A w σ o z a) _ c d
 refine⟨u,?_,l⟩
 have k:b.size=z.length:=by grind
 have g:0<z.length:=by
  grind
 have p:j % z.length<b.size:=by grind
 simp only[madeCells,Array.getElem?_toList]
 grind
theorem oneL_zeros {z:List Value} (a:∀u∈z,u.oneCell'=true) (n:Nat):oneL (List.replicate n (z.map AV.sc)).flatten=true:=by
 refine oneL_of.2 fun c b=>?_
 simp only[List.mem_flatten,List.mem_replicate] at b
 grind[oneL_of,oneL_sc]
theorem pureL_zeros (z:List Value) (n:Nat):pureL (List.replicate n (z.map AV.sc)).flatten=true:=by
 refine pureL_of fun c a=>?_
 simp only[List.mem_flatten,List.mem_replicate] at a
 grind[pureL_get,pureL_sc]
theorem run_mkrow (r:∀x,Rep A w σ o (ρA x) (ρC x)) {t e b:Nat} {z:List Value} {a:Array (Nat×Operand)} {cs:List AV} (F:P.underlying t=some (.slice e)) (E:zeroT P e=some z) (m:0<z.length) (C:b*z.length≤16777216)
  (B:fillA ((a.toList.map fun p=>(p.1*z.length,p.2)).map fun p=>(p.1,z.length,ρA p.2)) (List.replicate b (z.map AV.sc)).flatten=some cs):
  ∃g:Array Value,(Instr.buildSlice t b (a.map fun p=>(p.1,ρC p.2))).run P w= .ok (.slice (some ⟨w.heap.size,0,none⟩) b b) (w.alloc (.cells g e))∧RepL A w σ o cs g.toList∧oneL cs=true∧cs.length=b*z.length:=by
 obtain⟨i,k,H,l,c,f,d⟩:=zeroT_some E
 have v:k.cells.size=z.length:=by grind
 obtain⟨g,n,D,u,s⟩:=fill_rep (w:=w) (σ:=σ) (o:=o) (fun i=>some (i*z.length,z.length)) ((a.toList.map fun p=>(p.1*z.length,p.2)).map fun p=>(p.1,z.length,ρA p.2))
  (a.toList.map fun p=>(p.1,ρC p.2)) _ (madeCells k.cells (b*z.length)) cs (by simp)
  (fun j p q K J=>by
   grind) (rep_zeros A w σ o d k.cells c b) (oneL_zeros d b) B
 have y:cs.length=b*z.length:=by rw[s];simp
 refine⟨g,?_,D,u,y⟩
 by_cases I:b*z.length=0
 ·have G:b=0:=by
   rcases Nat.mul_eq_zero.1 I with h|h<;>omega
  simp_all[madeCells,Array.range_zero',Instr.buildSlice,run_underlying,sizeOf,typeInfo,newRow]
 ·exact run_buildSlice w t e b _ g i k F H l (by simp_all) (by simp_all) (by
   rw[f]
   have:(a.map fun p=>(p.1,ρC p.2)).toList=a.toList.map fun p=>(p.1,ρC p.2):=by simp
   rw[this]
   exact n)
theorem g_mkrow (r:SimO A w σ o) (l:∀x,Rep A w σ o (ρA x) (ρC x)) {t e a nid:Nat} {z:List Value} {b:Array (Nat×Operand)} {cs:List AV} (E:oper.op= .buildSlice t a b) (H:P.underlying t=some (.slice e))
  (y:zeroT P e=some z) (d:0<z.length) (i:a*z.length≤16777216)
  (B:fillA ((b.toList.map fun p=>(p.1*z.length,p.2)).map fun p=>(p.1,z.length,ρA p.2)) (List.replicate a (z.map AV.sc)).flatten=some cs) (s:o[nid]?=some .dead):
  Gives A P ρC oper w σ o (.os nid 0 a (a*z.length)) (o.set nid (.cells (qnL (pureL cs) cs) e z.length (pureL cs))):=by
 obtain⟨q,J,v,G,K⟩:=run_mkrow l H y d i B
 have f:nid<o.length:=(List.getElem?_eq_some_iff.1 s).1
 have m:nid<σ.length:=by rw[r.len];exact f
 have g:q.size=a*z.length:=by have:=RepL.length _ _ v;simp_all
 have n:a≤maxLen:=by
  have:a*1≤a*z.length:=Nat.mul_le_mul_left _ d
  grind[maxLen]
 obtain⟨k,D⟩:=r.newCells (w:=w) (arr:=q) (e:=e) (sz:=z.length) (cap:=a) (pu:=pureL cs) (cs:=qnL (pureL cs) cs) s g n (by grind[qnL_len]) (qnL_one G) (fun h=>qnL_pure h)
  (fun j c N=>by grind[qnL_get])
 refine⟨.slice (some ⟨w.heap.size,0,none⟩) a a,_,_,.inl ?_,k,?_,D⟩
 ·simp_all[execOp]
 ·simp only[Rep]
  refine⟨⟨_,_,_,_,by rw[List.getElem?_set_self f],by grind[qnL_len]⟩,_,_,rfl,Nat.le_refl _,fun M C=>?_⟩
  obtain⟨F,L,I,u,_⟩:=C
  grind[OsOk,offR_le]
theorem SimO.grow (a:SimO A w σ o) (x:Obj):SimO A (w.alloc x) σ o∧Ext w σ o (w.alloc x) σ o:=by
 have e:Ext w σ o (w.alloc x) σ o:=⟨by simp,fun b d g=>⟨heap_alloc_old w x b d,g⟩,Nat.le_refl _,fun _ _ h=>⟨h,fun _ h=>⟨h,rfl⟩⟩,fun _ h=>⟨h,rfl⟩,rfl,rfl,rfl⟩
 exact⟨⟨a.len,a.dist,fun i b c h=>Nat.lt_of_lt_of_le (a.bnd i b c h) (by simp),fun i y f=>(a.obj i y f).ext e rfl fun b c d=>heap_alloc_old w x b (a.bnd i b c d),a.av,fun b d=>Nat.lt_of_lt_of_le (a.avb b d) (by simp)⟩,e⟩
theorem g_mkimm (f:SimO A w σ o) (h:∀x,Rep A w σ o (ρA x) (ρC x)) {t e a:Nat} {z:List Value} {b:Array (Nat×Operand)} {cs:List AV} (r:oper.op= .buildSlice t a b) (C:P.underlying t=some (.slice e))
  (q:zeroT P e=some z) (d:0<z.length) (g:a*z.length≤16777216)
  (v:fillA ((b.toList.map fun p=>(p.1*z.length,p.2)).map fun p=>(p.1,z.length,ρA p.2)) (List.replicate a (z.map AV.sc)).flatten=some cs) (s:pureL cs=true):
  Gives A P ρC oper w σ o (.sl a (qnL true cs)) o:=by
 obtain⟨m,F,D,G,H⟩:=run_mkrow h C q d g v
 obtain⟨k,l⟩:=f.grow (.cells m e)
 refine⟨.slice (some ⟨w.heap.size,0,none⟩) a a,_,_,.inl ?_,k,?_,l⟩
 ·simp_all[execOp]
 ·simp only[Rep]
  refine⟨_,_,rfl,Nat.le_refl _,qnL_pure s,RepM.of_get _ _ _ fun j c B=>?_⟩
  obtain⟨u,I,y⟩:=qnL_get D B
  refine⟨_,u,rfl,?_,?_,y.ext l⟩
  ·refine⟨?_,fun n=>by have:=f.avb _ n;simp at this⟩
   rintro⟨i,c,E⟩
   have:=f.bnd i _ c E
   simp at this
  grind[Addr.add,World.cell?,heap_alloc_new]
theorem qnL_rep (pu:Bool) (n:Nat) (cs:List AV):(List.replicate n (qnL pu cs)).flatten=qnL pu (List.replicate n cs).flatten:=by
 unfold qnL
 split<;>simp_all
theorem g_mkslice (D:SimO A w σ o) (p:∀x,Rep A w σ o (ρA x) (ρC x)) {t e nid a:Nat} {z:List Value} {l c:Operand} {n m:Int} {pu:Bool} (V:oper.op= .makeSlice t l c) (Z:P.underlying t=some (.slice e))
  (hz:zeroT P e=some z) (hb:bytesT P e=some a) (S:intA (ρA l)=some n) (I:intA (ρA c)=some m) (H:0≤n) (v:n≤m) (W:m*a≤140737488355328) (hm:m≤1000000000000)
  (E:o[nid]?=some .dead):Gives A P ρC oper w σ o (.os nid 0 n.toNat (n.toNat*z.length)) (o.set nid (.cells (List.replicate n.toNat (qnL pu (z.map AV.sc))).flatten e z.length pu)):=by
 rw[qnL_rep]
 obtain⟨i,q,hi,B,b,f,d⟩:=zeroT_some hz
 obtain⟨O,T⟩:=intA_rep (p l) S
 obtain⟨M,N⟩:=intA_rep (p c) I
 have K:i.bytes=a:=by grind[bytesT]
 have g:=run_make (P:=P) w t e i q Z hi B O M n m H v (by grind) (by omega)
 rw[f] at g
 have k:nid<o.length:=(List.getElem?_eq_some_iff.1 E).1
 have s:nid<σ.length:=by rw[D.len];exact k
 have J:n.toNat*z.length≤m.toNat*z.length:=Nat.mul_le_mul_right _ (by omega)
 have h:=rep_zeros A w σ o d q.cells b m.toNat
 obtain⟨C,U⟩:=D.newCells (w:=w) (arr:=madeCells q.cells (m.toNat*z.length)) (e:=e) (sz:=z.length) (cap:=m.toNat) (pu:=pu) (cs:=qnL pu (List.replicate n.toNat (z.map AV.sc)).flatten) E (by simp[madeCells])
  (by grind[maxLen]) (by simp_all[qnL_len,madeCells]) (qnL_one (oneL_zeros d _)) (fun _=>qnL_pure (pureL_zeros _ _))
  (fun j c F=>by
   have L:RepL A w σ o (List.replicate n.toNat (z.map AV.sc)).flatten ((madeCells q.cells (m.toNat*z.length)).toList.take (n.toNat*z.length)):=by
    refine RepL.of_get _ _ (by simp_all[madeCells]) fun j c F=>?_
    have X:=(List.getElem?_eq_some_iff.1 F).1
    have G:j<n.toNat*z.length:=by simp_all
    have r:(List.replicate m.toNat (z.map AV.sc)).flatten=(List.replicate n.toNat (z.map AV.sc)).flatten++(List.replicate (m.toNat - n.toNat) (z.map AV.sc)).flatten:=by
     rw[←List.flatten_append,List.replicate_append_replicate]
     grind
    obtain⟨u,hu,hr⟩:=RepL.get _ _ h j c (by grind)
    simp_all
   grind[qnL_get])
 refine⟨.slice (some ⟨w.heap.size,0,none⟩) n.toNat m.toNat,_,_,.inl ?_,C,?_,U⟩
 ·simp_all[execOp]
 ·simp only[Rep]
  refine⟨⟨_,_,_,_,by rw[List.getElem?_set_self k],by rw[qnL_len];simp⟩,_,_,rfl,by omega,fun sz y=>?_⟩
  obtain⟨Y,e2,Q,R,_⟩:=y
  grind[OsOk,offR_le]
end
section
variable {P:Program} {A:Clr} {w w':World} {σ σ':Sig} {o o':Store} {ρA:Operand→AV} {ρC:Operand→Value} {oper:Oper} {v:AV}
theorem add_own (b a j:Nat):(⟨b,a,none⟩:Addr).add j=⟨b,a+j,none⟩:=by grind[Addr.add]
theorem elems_rep (C:SimO A w σ o) {sz:Nat} (B:0<sz) {a:AV} {u:Value} (h:Rep A w σ o a u) {m:Nat} {i:List AV} (f:elemsA o sz a=some (m,i)):
  ∃Z c,u= .slice Z m c∧m≤c∧i.length=m*sz∧∀(j:Nat) (d:AV),i[j]?=some d→∃(p:Addr) (v:Value),Z=some p∧w.cell? (p.add j)=some v∧Rep A w σ o d v:=by
 unfold elemsA at f
 split at f
 ·grind[Rep,RepM.get]
 ·rename_i F J s E
  simp only[Rep] at h
  obtain⟨H,Z,t,rfl,D,k⟩:=h
  split at f
  ·rename_i G e r K x
   split at f
   ·rename_i g
    obtain⟨l,rfl,q⟩:=g
    simp only[Option.some.injEq,Prod.mk.injEq] at f
    obtain⟨rfl,rfl⟩:=f
    have y:=k r ⟨G,e,K,x,l⟩
    refine⟨Z,t,rfl,D,by simp;omega,fun j d n=>?_⟩
    rw[List.getElem?_take] at n
    split at n
    ·rename_i M
     rw[List.getElem?_drop] at n
     have z:0<s:=by
      grind
     unfold OsOk at y
     split at y
     ·omega
     ·rename_i b c I
      have L:=C.obj F _ x
      grind[ObjOK,offR_le,add_own,World.cell?]
     simp_all
    ·cases n
   ·cases f
  ·cases f
 all_goals grind[rep_sc]
theorem run_append_zero {t g e:TypeId} {i:TypeInfo} (b:P.underlying t=some (.slice e)) (d:P.info? e=some i) (B Z:Option Addr) (n c f:Nat) (a:n≤c) (w:World):
  (Builtin.append_ #[t,t] g #[.slice B n c,.slice Z 0 f]).run P w= .ok (.slice B n c) w:=by
 cases B<;>cases Z<;>simp[Builtin.append_,run_underlying b,sizeOf,typeInfo,d,Builtin.lenOf,Builtin.firstCells,a,loadCells,loadCellsFrom,storeCells]
theorem exec_append {t:TypeId} {c:Call} {s x:Operand} (a:oper.op= .call c) (e:c.callee= .builtin .append) (d:c.args=#[s,x]) (b:c.argTypes=#[t,t]) {u:Value}
  (h:(Builtin.append_ #[t,t] oper.type #[ρC s,ρC x]).run P w= .ok u w'):(execOp ρC oper).run P w= .ok (.value u) w':=by
 simp[execOp,a,resolve,e,d,b,invoke,builtin,h]
theorem vals_of {A:Clr} {w:World} {σ:Sig} {o:Store} {Z:Option Addr}:∀(a:List AV) (k:Nat),(∀(j:Nat) (d:AV),a[j]?=some d→∃(p:Addr) (v:Value),Z=some p∧w.cell? (p.add (k+j))=some v∧Rep A w σ o d v)→
  ∃vs:List Value,RepL A w σ o a vs∧∀(p:Addr),Z=some p→∀(j:Nat) (u:Value),vs[j]?=some u→w.cell? (p.add (k+j))=some u
 |[],_,_=>⟨[],by simp[RepL],by simp⟩
 |d::a,k,h=>by
  obtain⟨p,v,i,l,e⟩:=h 0 d (by simp)
  obtain⟨vs,c,g⟩:=vals_of a (k+1) (fun j b f=>by
   have:=h (j+1) b (by simp_all)
   rwa [show k+1+j=k+(j+1) from by omega])
  refine⟨v::vs,by grind[RepL],fun q m j u n=>?_⟩
  grind
theorem repL_one {A:Clr} {w:World} {σ:Sig} {o:Store}:∀{cs:List AV} {vs:List Value},RepL A w σ o cs vs→oneL cs=true→∀u∈vs,u.oneCell'=true
 |[],vs,d,_=>by grind[RepL]
 |c::cs,vs,d,a=>by
  simp only[RepL] at d
  obtain⟨v,r,rfl,e,f⟩:=d
  simp only[oneL,List.all_cons,Bool.and_eq_true] at a
  intro u b
  rcases List.mem_cons.1 b with rfl|b
  ·exact e.one a.1
  ·exact repL_one f a.2 u b
theorem g_append (hS:SimO A w σ o) (c4:∀x,Rep A w σ o (ρA x) (ρC x)) {t e sz f nid:Nat} {z:List Value} {c:Call} {s x:Operand} {pu:Bool} (c1:oper.op= .call c) (hc:c.callee= .builtin .append) (ha:c.args=#[s,x]) (c6:c.argTypes=#[t,t])
  (ht:P.underlying t=some (.slice e)) (hz:zeroT P e=some z) (hb:bytesT P e=some f) (f1:sz=z.length) (y:0<sz) (h:appendA e sz f pu (ρA s) (ρA x) o nid=some (v,o')):Gives A P ρC oper w σ o v o':=by
 obtain⟨i,zv,hi,c8,c9,e3,f0⟩:=zeroT_some hz
 have c7:i.bytes=f:=by grind[bytesT]
 have b3:i.size=sz:=by omega
 have c3:zv.cells.size=sz:=by grind
 unfold appendA at h
 split at h
 ·cases h
 rename_i m q e1
 split at h
 ·cases h
 rename_i h1
 have b1:oneL q=true:=by simpa using h1
 obtain⟨Z,cx,g0,f9,b7,K⟩:=elems_rep hS y (c4 x) e1
 have d3:∀(B:Option Addr) (n l:Nat),m=0→ρC s= .slice B n l→n≤l→(execOp ρC oper).run P w= .ok (.value (.slice B n l)) w:=by
  grind[exec_append,run_append_zero]
 obtain⟨vs,a4,f6⟩:=vals_of (w:=w) (σ:=σ) (o:=o) (Z:=Z) q 0 (fun j d hd=>by simpa using K j d hd)
 have M:vs.length=m*sz:=by grind[RepL.length]
 have J:=repL_one a4 b1
 have hs:=c4 s
 split at h
 ·
  rename_i a1
  rw[a1] at hs
  have d8:=rep_sc hs
  split at h
  ·grind[Gives.same,nilSl]
  ·rename_i a7
   split at h
   ·rename_i F
    obtain⟨a8,b9,a9⟩:=F
    cases U:mkO nid (.cells q e sz pu) o with
    |none=>simp[U] at h
    |some o2=>
     simp only[U,Option.map_some,Option.some.injEq,Prod.mk.injEq] at h
     obtain⟨rfl,rfl⟩:=h
     obtain⟨hd,rfl⟩:=mkO_some U
     have L:nid<o.length:=(List.getElem?_eq_some_iff.1 hd).1
     have X:nid<σ.length:=by rw[hS.len];exact L
     have a0:0<q.length:=by rw[b7];exact Nat.mul_pos (by omega) y
     obtain⟨p,_,hp,_⟩:=K 0 _ (List.getElem?_eq_getElem a0)
     obtain⟨v',N,b8,r,a,c5,e0⟩:=run_append_own_at (P:=P) w w.heap.size t oper.type e i zv sz f ht hi c8 b3 c7 c3 y (.slice none 0 0) 0 [] (World.ownsRow_nil w _ _ _) p m cx vs M
      (fun j u hu=>by simp_all) J (by grind[maxLen]) (by simp_all) (Nat.le_refl _)
     have G:=exec_append (P:=P) (w:=w) (w':=N) (ρC:=ρC) c1 hc ha c6 (u:=v') (by simp_all)
     simp only[Nat.zero_add,List.nil_append] at r
     rcases r.2 with⟨I,d4⟩|⟨g,l,O,I,hg,hh,H,a2,a3,b4⟩
     ·omega
     ·have d9:g<N.heap.size:=(Array.getElem?_eq_some_iff.1 hh).1
      obtain⟨Y,hE⟩:=SimO.upd (w':=N) (x:=.dead) (x':=.cells q e sz pu) (s':=some (g,l)) hS hd a.size a.os a.tape a.output (fun b W _=>a.block b W (by simp[Value.ownBlock]))
       (fun b c2 h2=> .inr (by simp_all)) trivial (fun hE=>by
        simp only[ObjOK]
        refine⟨fun b2=>a9.resolve_left (by simp[b2]),b1,.inr ⟨g,l,O,by simp_all,a2,hh,a3,by
         grind,fun j d T=>?_⟩⟩
        obtain⟨u,hu,hr⟩:=RepL.get _ _ a4 j d T
        refine⟨u,?_,hr.ext hE⟩
        grind)
      refine⟨v',N,_,.inl G,Y,?_,hE⟩
      simp only[Rep]
      refine⟨⟨_,_,_,_,by rw[List.getElem?_set_self L],by omega⟩,_,_,I,H,fun e6 a5=>?_⟩
      obtain⟨e4,e2,d5,d6,_⟩:=a5
      grind[OsOk,offR_le]
   ·cases h
 ·
  rename_i id E f2 a1
  rw[a1] at hs
  simp only[Rep] at hs
  obtain⟨f3,B,C,d8,S,b6⟩:=hs
  split at h
  ·rename_i cs e' D R ho
   split at h
   ·rename_i F
    obtain⟨c0,rfl,rfl,a6,a8,b9,a9⟩:=F
    simp only[Option.some.injEq,Prod.mk.injEq] at h
    obtain⟨rfl,rfl⟩:=h
    have L:id<o.length:=(List.getElem?_eq_some_iff.1 ho).1
    have X:id<σ.length:=by rw[hS.len];exact L
    have hk:=b6 D ⟨cs,e',R,ho,c0⟩
    have Q:=hS.obj id _ ho
    simp only[ObjOK] at Q
    obtain⟨q1,q2,q3⟩:=Q
    rcases Nat.eq_zero_or_pos m with a7|e5
    ·
     have d7:q=[]:=List.eq_nil_of_length_eq_zero (by rw[b7,a7];simp)
     subst a7 d7
     have e7:o.set id (.cells (cs++[]) e' D R)=o:=by
      apply List.ext_getElem?
      grind
     grind[Gives.same]
    ·have a0:0<q.length:=by simp_all
     obtain⟨p,_,hp,_⟩:=K 0 _ (List.getElem?_eq_getElem a0)
     have b5:∃xs:List Value,w.ownsRow 0 e' D (.slice B E C) E xs∧RepL A w σ o cs xs∧(∀k,(Value.slice B E C).ownBlock=some k→∃d,σ[id]?=some (some (k,d))):=by
      unfold OsOk at hk
      split at hk
      ·simp_all[World.ownsRow_nil,Value.ownBlock,RepL]
      ·rename_i b l d2
       obtain⟨k1,k2,k3⟩:=hk
       obtain⟨k4,k5⟩:=k2 rfl a6 y
       subst k4 k5
       rcases q3 with⟨h0,_⟩|⟨b',e8,b0,r1,r2,r3,r4,r5,r6⟩
       ·simp_all
       rw[d2] at r1
       simp only[Option.some.injEq,Prod.mk.injEq] at r1
       obtain⟨rfl,rfl⟩:=r1
       refine⟨b0.toList.take (E*D),⟨by simp;omega,.inr ⟨b,C,b0,rfl,Nat.zero_le _,r3,S,r2,r4,rfl⟩⟩,RepL.of_get _ _ (by simp;omega) fun j d hd=>?_,fun k hk=>⟨C,by grind[Value.ownBlock]⟩⟩
       grind
      ·exact hk.elim
     obtain⟨xs,V,d1,e9⟩:=b5
     obtain⟨v',N,b8,r,a,c5,e0⟩:=run_append_own_at (P:=P) w 0 t oper.type e' i zv D f ht hi c8 b3 c7 c3 y (.slice B E C) E xs V p m cx vs M
      (fun j u hu=>by simp_all) J (by grind[maxLen]) a8 (Nat.zero_le _)
     have G:=exec_append (P:=P) (w:=w) (w':=N) (ρC:=ρC) c1 hc ha c6 (u:=v') (by simp_all)
     rcases r.2 with⟨I,d4⟩|⟨g,l,O,I,hg,hh,H,a2,a3,b4⟩
     ·omega
     ·have d9:g<N.heap.size:=(Array.getElem?_eq_some_iff.1 hh).1
      have f4:(∃d,σ[id]?=some (some (g,d)))∨g=w.heap.size:=by
       have f5:v'.ownBlock=some g:=by rw[I];rfl
       grind
      have d0:(cs++q).length=(E+m)*D:=by grind
      obtain⟨Y,hE⟩:=SimO.upd (w':=N) (x':=.cells (cs++q) e' D R) (s':=some (g,l)) hS ho a.size a.os a.tape a.output
       (fun b W f7=>a.block b W (fun he=>by grind))
       (fun b c2 h2=>by
        grind)
       ⟨_,_,_,rfl,by simp,fun f8=>by grind⟩ (fun hE=>by
        simp only[ObjOK]
        refine⟨fun b2=>pureL_of fun d hd=>?_,oneL_of.2 fun d hd=>?_,.inr ⟨g,l,O,by simp_all,a2,hh,a3,by
         have:(O.toList.take ((E+m)*D)).length=(xs++vs).length:=by rw[b4]
         rw[r.1] at this
         simp at this;omega,fun j d T=>?_⟩⟩
        ·grind[pureL_get]
        ·grind[oneL_of]
        ·obtain⟨u,hu,hr⟩:=RepL.get _ _ (RepL.append d1 a4) j d T
         refine⟨u,?_,hr.ext hE⟩
         grind)
      refine⟨v',N,_,.inl G,Y,?_,hE⟩
      simp only[Rep]
      refine⟨⟨_,_,_,_,by rw[List.getElem?_set_self L],by rw[d0,Nat.add_mul];omega⟩,_,_,I,H,fun e6 a5=>?_⟩
      obtain⟨e4,e2,d5,d6,_⟩:=a5
      grind[OsOk,offR_le]
   ·cases h
  ·cases h
 all_goals grind[Rep,Gives.same]
end
section
variable {P:Program} {A:Clr} {w w':World} {σ σ':Sig} {o o':Store} {ρA:Operand→AV} {ρC:Operand→Value} {oper:Oper} {v:AV}
def wrapV (P:Program) (t:TypeId) (l:List Value):Value:=
 match isAggT P t with
 |some true=> .agg l.toArray
 |_=>l.headD undef
theorem kOk_length:∀{a:List Nat} {vs:List Value},kOk a vs=true→vs.length=a.length
 |[],[],_=>rfl
 |[],_::_,h=>by grind[kOk]
 |k::a,[],h=>by grind[kOk]
 |0::a,v::vs,h=>by cases v<;>simp only[kOk,Bool.false_eq_true] at h<;>simp[kOk_length h]
 |1::a,v::vs,h=>by cases v<;>simp only[kOk,Bool.false_eq_true] at h<;>simp[kOk_length h]
 |2::a,v::vs,h=>by cases v<;>simp only[kOk,Bool.false_eq_true] at h<;>simp[kOk_length h]
 |(k+3)::a,v::vs,h=>by simp[kOk] at h
theorem kOk_append:∀{a b:List Nat} {vs:List Value},kOk (a++b) vs=true→kOk a (vs.take a.length)=true∧kOk b (vs.drop a.length)=true
 |[],b,vs,h=>by grind[kOk]
 |k::a,b,[],h=>by grind[kOk]
 |0::a,b,v::vs,h=>by cases v<;>simp only[List.cons_append,kOk,Bool.false_eq_true] at h<;>simpa[kOk] using kOk_append h
 |1::a,b,v::vs,h=>by cases v<;>simp only[List.cons_append,kOk,Bool.false_eq_true] at h<;>simpa[kOk] using kOk_append h
 |2::a,b,v::vs,h=>by cases v<;>simp only[List.cons_append,kOk,Bool.false_eq_true] at h<;>simpa[kOk] using kOk_append h
 |(k+3)::a,b,v::vs,h=>by simp[kOk] at h
theorem seqL_split:∀(n:Nat) {xs e:List Value} {r:Bool},seqL xs e=some r→
  ∃a b,seqL (xs.take n) (e.take n)=some a∧seqL (xs.drop n) (e.drop n)=some b∧r=(a&&b)
 |0,xs,e,r,h=>⟨true,r,by simp[seqL],by simpa using h,by simp⟩
 |n+1,[],[],r,h=>by simp_all
 |n+1,[],_::_,r,h=>by grind[seqL]
 |n+1,_::_,[],r,h=>by grind[seqL]
 |n+1,x::xs,y::e,r,h=>by
  simp only[seqL] at h
  split at h
  ·rename_i a b j f
   injection h with h
   obtain⟨c,d,k,i,g⟩:=seqL_split n f
   grind[seqL]
  ·cases h
theorem kindsT_inv {m:Nat} {t:TypeId} {d:List Nat} (h:kindsT P (m+1) t=some d):
  (P.underlying t=some .bool∧sizeT P t=some 1∧d=[1])∨(∃k,P.underlying t=some (.int k)∧sizeT P t=some 1∧d=[0])∨(P.underlying t=some .string∧sizeT P t=some 1∧d=[2])∨
  (∃fs,P.underlying t=some (.struct fs)∧P.stoodInHeld t=false∧kindsFs (kindsT P m) 0 fs.toList=some d∧sizeT P t=some d.length)∨
  ∃k e a,P.underlying t=some (.array k e)∧kindsT P m e=some a∧d=(List.replicate k a).flatten∧sizeT P t=some (k*a.length):=by
 simp only[kindsT] at h
 split at h
 ·rename_i k b c;injection h with h;exact .inr (.inl ⟨k,b,c,h.symm⟩)
 ·rename_i b c;injection h with h;exact .inl ⟨b,c,h.symm⟩
 ·rename_i b c;injection h with h;exact .inr (.inr (.inl ⟨b,c,h.symm⟩))
 ·rename_i fs n b c
  split at h
  ·cases h
  ·rename_i i
   split at h
   ·rename_i a f
    split at h
    ·rename_i g
     injection h with h;subst h
     exact .inr (.inr (.inr (.inl ⟨fs,b,by simp_all,f,by rw[g];exact c⟩)))
    ·cases h
   ·cases h
 ·rename_i k e n b c
  split at h
  ·rename_i a f
   split at h
   ·rename_i g
    injection h with h;subst h
    exact .inr (.inr (.inr (.inr ⟨k,e,a,b,f,rfl,by rw[←g];exact c⟩)))
   ·cases h
  ·cases h
 ·cases h
theorem kindsT_size {m:Nat} {t:TypeId} {d:List Nat} (h:kindsT P m t=some d):sizeT P t=some d.length∧(∃b,isAggT P t=some b):=by
 cases m with
 |zero=>grind[kindsT]
 |succ m=>
  rcases kindsT_inv h with⟨a,c,rfl⟩|⟨k,a,c,rfl⟩|⟨a,c,rfl⟩|⟨g,a,_,_,c⟩|⟨k,e,f,a,_,rfl,c⟩
  all_goals simp_all[isAggT]
theorem run_part_flat {t:TypeId} {e:List Nat} (i:sizeT P t=some e.length) (k:∃b,isAggT P t=some b) (c:isAggT P t=some false→e.length=1) (xs:Array Value) (a:Nat) (j:a+e.length≤xs.size) (w:World):
  (part t xs a).run P w= .ok (wrapV P t ((xs.toList.drop a).take e.length)) w:=by
 obtain⟨b,d⟩:=k
 cases b with
 |true=>
  simp only[part,Sem.run_bind,run_isAgg' d,Result.andThen_ok,if_true,run_sizeOf' i,Sem.run_pure,wrapV,d]
  congr 2
  grind
 |false=>
  have g:=c d
  have f:a<xs.size:=by omega
  simp only[part,Sem.run_bind,run_isAgg' d,Result.andThen_ok,Bool.false_eq_true,if_false,wrapV,d,g]
  rw[Array.getElem?_eq_getElem f]
  have h:xs.toList.drop a=xs[a]::xs.toList.drop (a+1):=by
   rw[List.drop_eq_getElem_cons (by omega)]
   simp
  rw[h]
  simp
theorem kindsT_one {m:Nat} {t:TypeId} {a:List Nat} (h:kindsT P m t=some a) (b:isAggT P t=some false):a.length=1:=by
 cases m<;>grind[kindsT,kindsT_inv,isAggT]
theorem run_eq_flat (d:Nat):∀(m:Nat) (t:TypeId) (I:List Nat),kindsT P m t=some I→∀(xs h:List Value) (r:Bool),kOk I xs=true→kOk I h=true→seqL xs h=some r→∀w:World,
  (Op.equalIn (d+m) t (wrapV P t xs) (wrapV P t h)).run P w= .ok r w
 |0,t,I,hk,_,_,_,_,_,_,_=>by grind[kindsT]
 |m+1,t,I,hk,xs,h,r,O,R,G,w=>by
  rw[show d+(m+1)=(d+m)+1 from rfl]
  rcases kindsT_inv hk with⟨s,U,rfl⟩|⟨k,s,U,rfl⟩|⟨s,U,rfl⟩|⟨fs,s,a1,x,U⟩|⟨k,e,c,s,x,rfl,U⟩
  ·match xs,h,O,R with
   |[.bool a],[.bool b],_,_=>
    simp[seqL,seq1] at G
    subst G
    simp[wrapV,isAggT,s,Op.equalIn,run_underlying s]
  ·match xs,h,O,R with
   |[.int k1 a],[.int k2 b],_,_=>
    simp only[seqL,seq1] at G
    by_cases he:k1=k2
    ·subst he
     simp at G
     subst G
     simp[wrapV,isAggT,s,Op.equalIn,run_underlying s]
    simp_all
  ·match xs,h,O,R with
   |[.string a],[.string b],_,_=>
    simp[seqL,seq1] at G
    subst G
    simp[wrapV,isAggT,s,Op.equalIn,run_underlying s,beq_toListBytes]
  ·have D:isAggT P t=some true:=by grind[isAggT]
   simp only[wrapV,D]
   have X:P.fieldsOf t=fs:=by grind[Program.fieldsOf]
   rw[run_equalIn_struct w (d+m) t xs.toArray h.toArray (by simp_all) a1,X]
   have K:=kOk_length O
   have M:=kOk_length R
   have L:∀(N:List Field) (g:Nat) (o:List Nat),kindsFs (kindsT P m) g N=some o→g+o.length=I.length→∀r,kOk o (xs.drop g)=true→kOk o (h.drop g)=true→
     seqL (xs.drop g) (h.drop g)=some r→(Op.eqFields (d+m) xs.toArray h.toArray N).run P w= .ok r w:=by
    intro N
    induction N with
    |nil=>
     intro g o p hl r C A J
     simp only[kindsFs,Option.some.injEq] at p
     subst p
     have e1:=kOk_length C
     have e2:=kOk_length A
     have g1:xs.drop g=[]:=List.eq_nil_of_length_eq_zero (by omega)
     have g2:h.drop g=[]:=List.eq_nil_of_length_eq_zero (by omega)
     simp_all[seqL,Op.eqFields]
    |cons f N ih=>
     intro g o p hl r C A J
     simp only[kindsFs] at p
     split at p
     ·cases p
     ·rename_i a4
      split at p
      ·rename_i V z
       split at p
       ·rename_i r2 Y
        injection p with p;subst p
        obtain⟨y,u⟩:=kindsT_size z
        obtain⟨F,l⟩:=kOk_append C
        obtain⟨H,n⟩:=kOk_append A
        obtain⟨a,b,h4,B,h6⟩:=seqL_split V.length J
        rw[List.drop_drop] at l n B
        rw[List.drop_drop] at B
        have v:f.name≠ "_" ∧f.offset=g:=by
         simp_all
        rw[List.length_append] at hl
        have T:=run_part_flat y u (fun E=>kindsT_one z E) xs.toArray f.offset (by grind) w
        have S:=run_part_flat y u (fun E=>kindsT_one z E) h.toArray f.offset (by grind) w
        rw[v.2] at T S
        have W:=run_eq_flat d m f.type V z _ _ a F H h4 w
        have p4:=ih (g+V.length) r2 Y (by omega) b l n B
        simp only[Op.eqFields,v.1,ne_eq,not_false_eq_true,if_true,v.2,Sem.run_bind,T,S,Result.andThen_ok,W]
        cases a<;>simp_all
       ·cases p
      ·cases p
   grind
  ·obtain⟨y,u⟩:=kindsT_size x
   obtain⟨i,hi⟩:∃i,P.info? e=some i:=by
    cases hi:P.info? e<;>grind[sizeT]
   have a0:P.cellsOf e=c.length:=by
    grind[sizeT,Program.cellsOf]
   have D:isAggT P t=some true:=by grind[isAggT]
   simp only[wrapV,D]
   rw[run_equalIn_array w (d+m) xs.toArray h.toArray s hi,a0]
   have K:=kOk_length O
   have M:=kOk_length R
   have Z:((List.replicate k c).flatten).length=k*c.length:=by simp
   rw[Z] at K M
   have L:∀(q j:Nat),j+q=k→∀r,kOk ((List.replicate q c).flatten) (xs.drop (j*c.length))=true→kOk ((List.replicate q c).flatten) (h.drop (j*c.length))=true→
     seqL (xs.drop (j*c.length)) (h.drop (j*c.length))=some r→(Op.eqItems (d+m) e c.length xs.toArray h.toArray (List.range' j q)).run P w= .ok r w:=by
    intro q
    induction q with
    |zero=>
     intro j hj r C A J
     have e1:=kOk_length C
     have e2:=kOk_length A
     simp only[List.replicate_zero,List.flatten_nil,List.length_nil] at e1 e2
     have g1:xs.drop (j*c.length)=[]:=List.eq_nil_of_length_eq_zero e1
     have g2:h.drop (j*c.length)=[]:=List.eq_nil_of_length_eq_zero e2
     rw[g1,g2] at J
     simp_all[seqL,Op.eqItems]
    |succ q ih=>
     intro j hj r C A J
     rw[List.replicate_succ,List.flatten_cons] at C A
     obtain⟨F,l⟩:=kOk_append C
     obtain⟨H,n⟩:=kOk_append A
     obtain⟨a,b,h4,B,h6⟩:=seqL_split c.length J
     rw[List.drop_drop] at l n B
     rw[List.drop_drop] at B
     have Q:j*c.length+c.length=(j+1)*c.length:=by grind
     rw[Q] at l n B
     have a3:j*c.length+c.length≤k*c.length:=by rw[Q];exact Nat.mul_le_mul_right _ (by omega)
     have T:=run_part_flat y u (fun E=>kindsT_one x E) xs.toArray (j*c.length) (by simp;omega) w
     have S:=run_part_flat y u (fun E=>kindsT_one x E) h.toArray (j*c.length) (by simp;omega) w
     have W:=run_eq_flat d m e c x _ _ a F H h4 w
     have p4:=ih (j+1) (by omega) b l n B
     rw[List.range'_succ]
     simp only[Op.eqItems,Sem.run_bind,T,S,Result.andThen_ok,W]
     cases a<;>simp_all
   have:=L k 0 (by omega) r (by simp_all) (by simp_all) (by simp_all)
   rw[List.range_eq_range']
   exact this
end
section
variable {P:Program} {A:Clr} {w w':World} {σ σ':Sig} {o o':Store} {ρA:Operand→AV} {ρC:Operand→Value} {oper:Oper} {v:AV}
theorem eqGuardType_flat:∀(m:Nat) (t:TypeId) (j:List Nat),kindsT P m t=some j→∀D,m≤D→P.eqGuardType D t=false
 |0,_,_,h,_,_=>by grind[kindsT]
 |m+1,t,j,h,0,s=>by omega
 |m+1,t,j,h,D+1,s=>by
  rcases kindsT_inv h with⟨c,d,rfl⟩|⟨k,c,d,rfl⟩|⟨c,d,rfl⟩|⟨v,c,r,a,d⟩|⟨k,e,i,c,a,rfl,d⟩
  ·grind[Program.eqGuardType]
  ·grind[Program.eqGuardType]
  ·grind[Program.eqGuardType]
  ·simp only[Program.eqGuardType,c]
   rw[←Bool.not_eq_true,Array.any_eq_true']
   rintro⟨f,u,q⟩
   have n:∀(g:List Field) (l:Nat) (o:List Nat),kindsFs (kindsT P m) l g=some o→∀f∈g,∃b,kindsT P m f.type=some b:=by
    intro g
    induction g<;>grind[kindsFs]
   obtain⟨b,p⟩:=n _ _ _ a f (by simp_all)
   rw[eqGuardType_flat m f.type b p D (by omega)] at q
   simp at q
  ·simp only[Program.eqGuardType,c]
   exact eqGuardType_flat m e i a D (by omega)
theorem scs_rep:∀{cs:List AV} {vs a:List Value},scs cs=some vs→RepL A w σ o cs a→a=vs
 |[],vs,a,h,b=>by grind[scs,RepL]
 |c::cs,vs,a,h,b=>by
  cases c<;>simp only[scs,reduceCtorEq,Option.map_eq_some_iff] at h
  obtain⟨r,d,rfl⟩:=h
  simp only[RepL] at b
  obtain⟨u,f,rfl,g,e⟩:=b
  rw[rep_sc g,scs_rep d e]
theorem g_eqf (R:SimO A w σ o) (g:∀x,Rep A w σ o (ρA x) (ρC x)) {m:BinOp} {d:Bool} {t J:TypeId} {h:List Nat} {x y:Operand} (n:oper.op= .binOp m t x y J) (O:(m= .eql∧d=false)∨(m= .neq∧d=true))
  (p:isAggT P t=some true) (v:kindsT P 20 t=some h) (K:20≤P.depth) {a b:List AV} {r:Bool} (H:ρA x= .agg a) (C:ρA y= .agg b) (f:feq h a b=some r):
  Gives A P ρC oper w σ o (.sc (.bool (if d then !r else r))) o:=by
 have i:=g x
 have k:=g y
 rw[H] at i
 rw[C] at k
 simp only[Rep] at i k
 obtain⟨I,M,j⟩:=i
 obtain⟨Q,G,q⟩:=k
 unfold feq at f
 split at f
 ·rename_i z B l s
  split at f
  ·rename_i e
   simp only[Bool.and_eq_true] at e
   have L:=scs_rep l j
   have F:=scs_rep s q
   have c:=run_eq_flat (P:=P) 9980 20 t h v z B r e.1 e.2 f w
   simp only[wrapV,p] at c
   have D:z.toArray=I:=by rw[←L]
   have N:B.toArray=Q:=by rw[←F]
   rw[D,N] at c
   refine Gives.same R (u:=.bool (if d then !r else r)) ?_ (by simp[Rep,Value.oneCell'])
   have E:=eqGuardType_flat 20 t h v P.depth K
   simp only[execOp,n,M,G]
   rcases O with⟨rfl,rfl⟩|⟨rfl,rfl⟩<;>simp[eqGuard,E,binOp,Op.equal,Op.maxDepth,c]
  ·cases f
 ·cases f
theorem run_checkKey_flat (x:Bool) (d:Nat):∀(m:Nat) (t:TypeId) (z:List Nat),kindsT P m t=some z→∀(xs:List Value),kOk z xs=true→∀w:World,(Instr.checkKey x (d+m) t (wrapV P t xs)).run P w= .ok () w
 |0,t,z,J,_,_,_=>by grind[kindsT]
 |m+1,t,z,J,xs,K,w=>by
  rw[show d+(m+1)=(d+m)+1 from rfl]
  rcases kindsT_inv J with⟨u,D,rfl⟩|⟨k,u,D,rfl⟩|⟨u,D,rfl⟩|⟨V,u,S,h,D⟩|⟨k,e,a,u,h,rfl,D⟩
  ·simp_all[Instr.checkKey,run_underlying]
  ·simp_all[Instr.checkKey,run_underlying]
  ·simp_all[Instr.checkKey,run_underlying]
  ·have p:isAggT P t=some true:=by grind[isAggT]
   simp only[wrapV,p,Instr.checkKey,Sem.run_bind,run_underlying u,Result.andThen_ok]
   have A:=kOk_length K
   have I:∀(v:List Field) (b:Nat) (l:List Nat),kindsFs (kindsT P m) b v=some l→b+l.length=z.length→kOk l (xs.drop b)=true→
     (forIn v PUnit.unit fun(f:Field) (_:PUnit)=>(do
      if f.name≠ "_" then
       Instr.checkKey x (d+m) f.type (←part f.type xs.toArray f.offset)
      pure (ForInStep.yield PUnit.unit):Sem (ForInStep PUnit))).run P w= .ok PUnit.unit w:=by
    intro v
    induction v with
    |nil=>simp_all
    |cons f v H=>
     intro b l g Q C
     simp only[kindsFs] at g
     split at g
     ·cases g
     ·rename_i U
      split at g
      ·rename_i L r
       split at g
       ·rename_i N F
        injection g with g;subst g
        obtain⟨s,o⟩:=kindsT_size r
        obtain⟨n,c⟩:=kOk_append C
        rw[List.drop_drop] at c
        have y:f.name≠ "_" ∧f.offset=b:=by
         simp_all
        rw[List.length_append] at Q
        have M:=run_part_flat s o (fun G=>kindsT_one r G) xs.toArray f.offset (by grind) w
        rw[y.2] at M
        have R:=run_checkKey_flat x d m f.type L r _ n w
        have O:=H (b+L.length) N F (by omega) c
        simp_all
       ·cases g
      ·cases g
   grind[Result.andThen_ok,Sem.run_pure]
  ·obtain⟨s,o⟩:=kindsT_size h
   have p:isAggT P t=some true:=by grind[isAggT]
   simp only[wrapV,p,Instr.checkKey,Sem.run_bind,run_underlying u,Result.andThen_ok]
   simp only[Std.Legacy.Range.forIn_eq_forIn_range',Std.Legacy.Range.size,Nat.sub_zero,Nat.add_one_sub_one,Nat.div_one]
   have A:=kOk_length K
   have E:((List.replicate k a).flatten).length=k*a.length:=by simp
   rw[E] at A
   have I:∀(q j:Nat),j+q=k→kOk ((List.replicate q a).flatten) (xs.drop (j*a.length))=true→
     (forIn (List.range' j q) PUnit.unit fun(i:Nat) (_:PUnit)=>(do
      Instr.checkKey x (d+m) e (←part e xs.toArray (i*(←sizeOf e)))
      pure (ForInStep.yield PUnit.unit):Sem (ForInStep PUnit))).run P w= .ok PUnit.unit w:=by
    intro q
    induction q with
    |zero=>simp_all
    |succ q H=>
     intro j W C
     rw[List.replicate_succ,List.flatten_cons] at C
     obtain⟨n,c⟩:=kOk_append C
     rw[List.drop_drop] at c
     have B:j*a.length+a.length=(j+1)*a.length:=by grind
     rw[B] at c
     have T:j*a.length+a.length≤k*a.length:=by rw[B];exact Nat.mul_le_mul_right _ (by omega)
     have M:=run_part_flat s o (fun G=>kindsT_one h G) xs.toArray (j*a.length) (by simp;omega) w
     have R:=run_checkKey_flat x d m e a h _ n w
     have O:=H (j+1) (by omega) c
     rw[List.range'_succ]
     simp_all[run_sizeOf']
   simp_all
theorem bytes_ext {a b:ByteArray} (h:a.toList=b.toList):a=b:=by
 have c:(a==b)=true:=by grind[beq_toListBytes]
 obtain⟨x⟩:=a
 obtain⟨y⟩:=b
 have d:(x==y)=true:=c
 simp_all
theorem seq1_eq {a b:Value} (h:seq1 a b=some true):a=b∧(∀n,Instr.sameBits n b a=true):=by
 unfold seq1 at h
 grind[Instr.sameBits,bytes_ext,beq_toListBytes]
theorem seqL_eq:∀{xs c:List Value},seqL xs c=some true→xs=c∧∀n,(c.zip xs).all (fun p=>Instr.sameBits n p.1 p.2)=true
 |[],[],_=>⟨rfl,fun _=>rfl⟩
 |[],_::_,h=>by grind[seqL]
 |_::_,[],h=>by grind[seqL]
 |x::xs,y::c,h=>by
  simp only[seqL] at h
  split at h
  ·rename_i a b d e
   simp only[Option.some.injEq,Bool.and_eq_true] at h
   obtain⟨rfl,rfl⟩:=h
   obtain⟨f,g⟩:=seq1_eq d
   obtain⟨j,i⟩:=seqL_eq e
   simp_all
  ·cases h
theorem keq_eq {a b:Value} (h:keq a b=some true):a=b∧∀n,Instr.sameBits (n+1) b a=true:=by
 unfold keq at h
 split at h
 ·rename_i x y
  obtain⟨c,d⟩:=seqL_eq h
  simp_all[Instr.sameBits]
 all_goals grind[seq1_eq]
def KeyFits (P:Program) (t:TypeId) (ks:List Nat) (k:Value):Prop:=∃l,kOk ks l=true∧k=wrapV P t l
theorem KeyForm.fits {t:TypeId} {b:List Nat} {a:Bool} {k:Value} (d:isAggT P t=some a) (h:KeyForm (b,a) k):KeyFits P t b k:=by
 obtain⟨l,c,e⟩:=h
 refine⟨l,c,?_⟩
 cases a
 all_goals simp_all[wrapV]
theorem keyA_rep {f:List Nat} {e:Bool} {a:AV} {u k:Value} (h:Rep A w σ o a u) (b:keyA f e a=some k):u=k∧KeyForm (f,e) k:=by
 cases a<;>simp only[keyA,reduceCtorEq] at b
 ·rename_i v
  split at b
  ·rename_i c
   simp only[Bool.and_eq_true,Bool.not_eq_true'] at c
   injection b with b;subst b
   exact⟨rep_sc h,[v],c.2,by simp[c.1]⟩
  ·cases b
 ·rename_i j
  split at b
  ·rename_i g d
   split at b
   ·rename_i c
    simp only[Bool.and_eq_true] at c
    injection b with b;subst b
    simp only[Rep] at h
    obtain⟨l,rfl,i⟩:=h
    have:=scs_rep d i
    exact⟨by rw[←this],g,c.2,by simp[c.1]⟩
   ·cases b
  ·cases b
theorem run_equal_key {t:TypeId} {c:List Nat} (e:kindsT P 20 t=some c) {a b:Value} (o:KeyFits P t c a) (s:KeyFits P t c b) {r:Bool} (h:keq a b=some r) (w:World):(Op.equal t a b).run P w= .ok r w:=by
 obtain⟨g,m,rfl⟩:=o
 obtain⟨f,k,rfl⟩:=s
 have n:seqL g f=some r:=by
  unfold wrapV at h
  obtain⟨_,u,d⟩:=kindsT_size e
  cases u with
  |true=>grind[keq]
  |false=>
   have l:=kindsT_one e d
   have j:=kOk_length m
   have i:=kOk_length k
   rw[l] at j i
   match g,f,j,i with
   |[x],[y],_,_=>
    simp only[d,List.headD_cons] at h
    have p:seq1 x y=some r:=by
     match c,l with
     |[q],_=>cases x<;>cases y<;>simp_all [kOk,keq]<;>(match q with|0|1|2|_+3=>simp_all [kOk])
    simp[seqL,p]
 exact run_eq_flat 9980 20 t c e g f r m k n w
theorem sameNow_key {d:TypeDesc} {a b:Value} {r:Bool} (h:keq a b=some r):
  Instr.sameNow d a b=some r∨Instr.sameNow d a b=none:=by
 cases c:Instr.sameNow d a b with
 |none=>simp_all
 |some e=>
  left
  unfold Instr.sameNow at c
  grind[keq,seq1,beq_toListBytes]
theorem run_findKey_flat {t:TypeId} {p:List Nat} (G:kindsT P 20 t=some p) {k:Value} (v:KeyFits P t p k) (w:World) (es:List (Value×AV)) (en:List MapEntry) (l:en.length=es.length)
  (C:∀(j:Nat) (e:Value×AV),es[j]?=some e→∃m,en[j]?=some m∧m.key=e.1∧KeyFits P t p m.key) {r:Option (Nat×AV)} (J:findM k es 0=some r):
  match r with
  |none=>(Instr.findKey t k en).run P w= .ok none w
  |some (i,a)=>∃e m,es[i]?=some e∧e.2=a∧en[i]?=some m∧keq k e.1=some true∧(Instr.findKey t k en).run P w= .ok (some (i,m.val)) w:=by
 obtain⟨d,H⟩:∃d,P.underlying t=some d:=by
  have:=(kindsT_size G).2
  grind[isAggT]
 have y:∀(es:List (Value×AV)) (en:List MapEntry) (i:Nat),en.length=es.length→(∀(j:Nat) (e:Value×AV),es[j]?=some e→∃m,en[j]?=some m∧m.key=e.1∧KeyFits P t p m.key)→∀r,findM k es i=some r→
   (match r with
    |none=>(Instr.findAsking t k en i).run P w= .ok none w∧(∀q,Instr.findNow d k en i=some q→q=none)
    |some (n,a)=>∃e m,i≤n∧es[n - i]?=some e∧e.2=a∧en[n - i]?=some m∧keq k e.1=some true∧(Instr.findAsking t k en i).run P w= .ok (some (n,m.val)) w∧(∀q,Instr.findNow d k en i=some q→q=some (n,m.val))):=by
  intro es
  induction es with
  |nil=>
   intro en i A _ r f
   have:en=[]:=List.eq_nil_of_length_eq_zero (by omega)
   subst this
   simp only[findM,Option.some.injEq] at f
   subst f
   simp_all[Instr.findAsking,Instr.findNow]
  |cons e es L=>
   intro en i A F r f
   match en,A with
   |m::en,A=>
    obtain⟨E,h,N,z⟩:=F 0 e (by simp)
    simp at h
    subst h
    simp only[findM] at f
    cases c:keq k e.1 with
    |none=>simp[c] at f
    |some b=>
     have g:=run_equal_key G v z (r:=b) (by grind) w
     have O:=sameNow_key (d:=d) (a:=k) (b:=m.key) (r:=b) (by grind)
     cases b with
     |true=>
      simp only[c,Option.some.injEq] at f
      subst f
      refine⟨e,m,Nat.le_refl _,by simp,rfl,by simp,c,?_,?_⟩
      ·simp[Instr.findAsking,g]
      grind[Instr.findNow]
     |false=>
      simp only[c] at f
      have:=L en (i+1) (by grind) (fun j u Q=>by simpa using F (j+1) u (by grind)) r f
      have R:(Instr.findAsking t k (m::en) i).run P w=(Instr.findAsking t k en (i+1)).run P w:=by
       simp[Instr.findAsking,g]
      have K:∀q,Instr.findNow d k (m::en) i=some q→Instr.findNow d k en (i+1)=some q:=by
       grind[Instr.findNow]
      match r,this with
      |none,⟨s,o⟩=>grind
      |some (n,a),⟨u,E,s,o,B,M,x,I,D⟩=>
       refine⟨u,E,by omega,?_,B,?_,x,by grind,fun q c=>D q (K q c)⟩
       ·grind
       grind
 have:=y es en 0 l C r J
 match r,this with
 |none,⟨s,o⟩=>
  simp only[Instr.findKey,Sem.run_bind,run_underlying H,Result.andThen_ok]
  cases c:Instr.findNow d k en 0 with
  |none=>omega
  |some q=>simp[o q c]
 |some (n,a),⟨e,m,s,o,B,M,x,I,D⟩=>
  refine⟨e,m,by omega,B,by omega,x,?_⟩
  simp only[Instr.findKey,Sem.run_bind,run_underlying H,Result.andThen_ok]
  cases c:Instr.findNow d k en 0 with
  |none=>omega
  |some q=>simp[D q c]
theorem g_mkmap (hS:SimO A w σ o) {t:TypeId} {kt:List Nat×Bool} {pu:Bool} {nid:Nat} (hop:oper.op= .makeMap t none) (hd:o[nid]?=some .dead):Gives A P ρC oper w σ o (.mp nid) (o.set nid (.map [] kt pu)):=by
 have hid:nid<o.length:=(List.getElem?_eq_some_iff.1 hd).1
 have hidσ:nid<σ.length:=by rw[hS.len];exact hid
 obtain⟨hS',hE⟩:=SimO.upd (w':=w.alloc (.map #[] 0)) (x:=.dead) (x':=.map [] kt pu) (s':=some (w.heap.size,1)) hS hd (by simp) rfl rfl rfl (fun b hb _=>heap_alloc_old w _ b hb)
  (fun b c h=> .inr (by
   simp only[Option.some.injEq,Prod.mk.injEq] at h
   obtain⟨rfl,_⟩:=h
   exact⟨Nat.le_refl _,by simp⟩)) trivial (fun hE=>by
   simp only[ObjOK]
   exact⟨by simp,by simp,w.heap.size,1,#[],0,by rw[List.getElem?_set_self hidσ],heap_alloc_new w _,⟨rfl,Go.MapKept.stamped_empty 0⟩,by simp⟩)
 refine⟨.map (some w.heap.size),_,_,.inl ?_,hS',?_,hE⟩
 ·simp[execOp,hop,Instr.makeMap,newObj,Sem.run]
 ·simp only[Rep]
  exact⟨⟨[],kt,pu,by rw[List.getElem?_set_self hid]⟩,w.heap.size,1,by rw[List.getElem?_set_self hidσ],rfl⟩
theorem map_obj (hS:SimO A w σ o) {id:Nat} {es:List (Value×AV)} {kt:List Nat×Bool} {pu:Bool} (ho:o[id]?=some (.map es kt pu)) {u:Value} (h:Rep A w σ o (.mp id) u):
  ∃(b c:Nat) (entries:Array MapEntry) (clock:Nat),σ[id]?=some (some (b,c))∧u= .map (some b)∧w.heap[b]?=some (.map entries clock)∧(entries.size=es.length∧Go.MapKept.Stamped entries clock)∧(pu=true→∀e∈es,e.2.pure=true)∧(∀e∈es,KeyForm kt e.1)∧
   ∀(j:Nat) (e:Value×AV),es[j]?=some e→∃m,entries[j]?=some m∧m.key=e.1∧Rep A w σ o e.2 m.val:=by
 simp only[Rep] at h
 obtain⟨_,b,c,hσ,rfl⟩:=h
 have hx:=hS.obj id _ ho
 simp only[ObjOK] at hx
 obtain⟨h1,h2,b',c',en,cl,h3,h4,h5,h6⟩:=hx
 rw[hσ] at h3
 simp only[Option.some.injEq,Prod.mk.injEq] at h3
 obtain⟨rfl,rfl⟩:=h3
 exact⟨b,c,en,cl,hσ,rfl,h4,h5,h1,h2,h6⟩
theorem zeroA_rep {t:TypeId} {z:List Value} {g:Bool} {a:AV} (k:zeroT P t=some z) (c:zeroOk P t g=true) (e:zeroA z g=some a):∃u,(∀w:World,(zeroValue t).run P w= .ok u w)∧Rep A w σ o a u:=by
 obtain⟨i,j,l,h,b,f,d⟩:=zeroT_some k
 refine⟨j,fun w=>by simp_all[zeroValue,typeInfo],?_⟩
 simp only[zeroOk,l,h,Option.bind_some] at c
 unfold zeroA at e
 cases j with
 |agg m=>
  simp only at c
  subst c
  simp only[if_true,Option.some.injEq] at e
  grind[Rep,Value.cells,repL_sc]
 |_=>
  simp only[Bool.not_eq_true'] at c
  subst c
  simp only[Value.cells] at b
  subst b
  simp only[Bool.false_eq_true,if_false,Option.some.injEq] at e
  subst e
  exact by simp[Rep,d]
theorem zeroA_some {t:TypeId} {z:List Value} {g:Bool} (j:zeroT P t=some z) (c:zeroOk P t g=true):∃a,zeroA z g=some a:=by
 obtain⟨i,h,k,e,b,d,f⟩:=zeroT_some j
 simp only[zeroOk,k,e,Option.bind_some] at c
 unfold zeroA
 cases h with
 |agg l=>simp_all
 |_=>
  simp only[Bool.not_eq_true'] at c
  subst c
  simp only[Value.cells] at b
  subst b
  exact⟨_,rfl⟩
theorem g_lookup (hS:SimO A w σ o) (hρ:∀x,Rep A w σ o (ρA x) (ρC x)) {t kt et:TypeId} {ks:List Nat} {ka g ok:Bool} {z:List Value} {x k:Operand} (hop:oper.op= .lookup t x k ok) (ht:P.underlying t=some (.map kt et))
  (hk:kindsT P 20 kt=some ks) (hag:isAggT P kt=some ka) (hz:∃a u,zeroA z g=some a∧(∀w:World,(zeroValue et).run P w= .ok u w)∧Rep A w σ o a u)
  {id:Nat} (hx:ρA x= .mp id) {kv:Value} (hkv:keyA ks ka (ρA k)=some kv) {es:List (Value×AV)} {pu:Bool} (ho:o[id]?=some (.map es (ks,ka) pu))
  {r:Option (Nat×AV)} (hf:findM kv es 0=some r) {zv:AV} (hzv:zeroA z g=some zv):
  Gives A P ρC oper w σ o (if ok then .tup [(r.map (·.2)).getD zv,.sc (.bool r.isSome)] else(r.map (·.2)).getD zv) o:=by
 have h1:=hρ x
 rw[hx] at h1
 obtain⟨b,c,en,cl,hσ,hu,hh,⟨hlen,_⟩,_,hkf,hen⟩:=map_obj hS ho h1
 obtain⟨hk1,hk2⟩:=keyA_rep (hρ k) hkv
 obtain⟨a0,z0,hz1,hz2,hz3⟩:=hz
 rw[hz1] at hzv
 injection hzv with hzv
 subst hzv
 have hkfit:=hk2.fits hag
 have hfind:=run_findKey_flat hk hkfit w es en.toList (by simpa using hlen) (fun j e he=>by
  obtain⟨m,hm,hmk,_⟩:=hen j e he
  exact⟨m,by simpa using hm,hmk,by rw[hmk];exact(hkf e (List.mem_of_getElem? he)).fits hag⟩) hf
 obtain⟨lk,hlk1,hlk2⟩:=hkfit
 have hck:=run_checkKey_flat (P:=P) en.isEmpty 9980 20 kt ks hk lk hlk1 w
 rw[←hlk2] at hck
 have hget:(getObj b).run P w= .ok (.map en cl) w:=by simp[getObj,Sem.run,hh]
 have main:∃u,Rep A w σ o ((r.map (·.2)).getD a0) u∧(execOp ρC oper).run P w= .ok (.value (if ok then .tuple #[u,.bool r.isSome] else u)) w:=by
  cases r with
  |none=>
   refine⟨z0,hz3,?_⟩
   simp only[execOp,hop,Instr.lookup,hu,hk1]
   simp[run_underlying ht,hget,hck,hfind,hz2]
  |some p=>
   obtain⟨i,a⟩:=p
   obtain⟨e,m,q1,q2,q3,q4,q5⟩:=hfind
   obtain⟨m',hm',_,hr⟩:=hen i e q1
   have:m'=m:=by
    rw[Array.getElem?_toList] at q3
    rw[hm'] at q3
    injection q3
   subst this
   refine⟨m'.val,by rw[←q2];exact hr,?_⟩
   simp only[execOp,hop,Instr.lookup,hu,hk1]
   simp[run_underlying ht,hget,hck,q5]
 obtain⟨u,hr,hexec⟩:=main
 refine Gives.same hS hexec ?_
 cases ok
 ·simpa using hr
 ·simp only[if_true,Rep]
  exact⟨_,rfl,by simp only[RepL];exact⟨u,[.bool r.isSome],rfl,hr,.bool r.isSome,[],rfl,by simp[Rep,Value.oneCell'],rfl⟩⟩
theorem run_keyThatStays_flat {k:Value} (h:∀n,Instr.sameBits (n+1) k k=true) (w:World):(Instr.keyThatStays k k).run P w= .ok k w:=by
 simp_all[Instr.keyThatStays]
theorem seqL_self:∀l:List Value,seqL l l≠some false
 |[]=>by simp[seqL]
 |x::xs=>by
  have ih:=seqL_self xs
  have hx:seq1 x x≠some false:=by cases x<;>simp[seq1]
  simp only[seqL]
  intro h
  split at h
  ·rename_i a b ha hb
   cases a
   ·exact hx ha
   ·cases b
    ·exact ih hb
    ·cases h
  ·cases h
theorem keq_self (a:Value):keq a a≠some false:=by
 cases a<;>simp[keq,seq1]
 exact seqL_self _
theorem findM_none_ne {k:Value}:∀{es:List (Value×AV)} {i:Nat},findM k es i=some none→∀e∈es,e.1≠k
 |[],_,_,e,he=>by simp at he
 |p::es,i,h,e,he=>by
  simp only[findM] at h
  split at h
  ·cases h
  ·rename_i hq
   rcases List.mem_cons.1 he with rfl|he
   ·intro hk;rw[hk] at hq;exact keq_self k hq
   ·exact findM_none_ne h e he
  ·cases h
theorem g_mapset (hS:SimO A w σ o) (hρ:∀x,Rep A w σ o (ρA x) (ρC x)) {t kt et:TypeId} {ks:List Nat} {ka:Bool} {x k y:Operand} (hop:oper.op= .mapUpdate t x k y∨oper.op= .insert t x k y) (ht:P.underlying t=some (.map kt et))
  (hk:kindsT P 20 kt=some ks) (hag:isAggT P kt=some ka)
  {id:Nat} (hx:ρA x= .mp id) {kv:Value} (hkv:keyA ks ka (ρA k)=some kv) {es:List (Value×AV)} {pu:Bool} (ho:o[id]?=some (.map es (ks,ka) pu)) (hpu:pu=true→(ρA y).pure=true)
  {r:Option (Nat×AV)} (hf:findM kv es 0=some r):
  Gives A P ρC oper w σ o .ud (o.set id (.map (match r with|some (i,_)=>es.modify i fun _=>(kv,ρA y)|none=>es++[(kv,ρA y)]) (ks,ka) pu)):=by
 have h1:=hρ x
 rw[hx] at h1
 obtain⟨b,c,en,cl,hσ,hu,hh,⟨hlen,hst0⟩,hpu0,hkf,hen⟩:=map_obj hS ho h1
 obtain⟨hk1,hk2⟩:=keyA_rep (hρ k) hkv
 have hkfit:=hk2.fits hag
 have hfind:=run_findKey_flat hk hkfit w es en.toList (by simpa using hlen) (fun j e he=>by
  obtain⟨m,hm,hmk,_⟩:=hen j e he
  exact⟨m,by simpa using hm,hmk,by rw[hmk];exact(hkf e (List.mem_of_getElem? he)).fits hag⟩) hf
 obtain⟨lk,hlk1,hlk2⟩:=hkfit
 have hck:=run_checkKey_flat (P:=P) false 9980 20 kt ks hk lk hlk1 w
 rw[←hlk2] at hck
 have hget:(getObj b).run P w= .ok (.map en cl) w:=by simp[getObj,Sem.run,hh]
 have hset:∀X:Obj,(setObj b X).run P w= .ok () {w with heap:=w.heap.setIfInBounds b X}:=by
  intro X;simp[setObj,Sem.run,hh]
 have hblt:b<w.heap.size:=hS.bnd id b c hσ
 have hid:id<o.length:=(List.getElem?_eq_some_iff.1 ho).1
 have hidσ:id<σ.length:=by rw[hS.len];exact hid
 have hσset:σ.set id (some (b,c))=σ:=by
  apply List.ext_getElem?
  intro i
  by_cases hi:id=i
  ·subst hi;rw[List.getElem?_set_self hidσ,hσ]
  ·rw[List.getElem?_set_ne hi]
 have fin:∀(en':Array MapEntry) (cl':Nat) (es':List (Value×AV)),(execOp ρC oper).run P w= .ok .skip {w with heap:=w.heap.setIfInBounds b (.map en' cl')}→en'.size=es'.length∧Go.MapKept.Stamped en' cl'→
   (pu=true→∀e∈es',e.2.pure=true)→(∀e∈es',KeyForm (ks,ka) e.1)→(∀(j:Nat) (e:Value×AV),es'[j]?=some e→∃m,en'[j]?=some m∧m.key=e.1∧Rep A w σ o e.2 m.val)→
   Gives A P ρC oper w σ o .ud (o.set id (.map es' (ks,ka) pu)):=by
  intro en' cl' es' hexec f1 f2 f3 f4
  have hat:({w with heap:=w.heap.setIfInBounds b (.map en' cl')}:World).heap[b]?=some (.map en' cl'):=by simp[hblt]
  obtain⟨hS',hE⟩:=SimO.upd (w':={w with heap:=w.heap.setIfInBounds b (.map en' cl')}) (x':=.map es' (ks,ka) pu) (s':=some (b,c)) hS ho (by simp) rfl rfl rfl
   (fun q _ hq=>by
    have:b≠q:=fun he=>hq c (he▸hσ)
    simp[Array.getElem?_setIfInBounds_ne this])
   (fun b2 c2 h2=> .inl ⟨c,by injection h2 with h2;injection h2 with h3 h4;rw[hσ,h3]⟩) ⟨⟨_,_,_,rfl⟩,hσ⟩ (fun hE=>by
    simp only[ObjOK]
    refine⟨f2,f3,b,c,en',cl',by rw[List.getElem?_set_self hidσ],hat,f1,fun j e he=>?_⟩
    obtain⟨m,q1,q2,q3⟩:=f4 j e he
    exact⟨m,q1,q2,q3.ext hE⟩)
  rw[hσset] at hS' hE
  exact⟨undef,_,σ,.inr ⟨hexec,rfl⟩,hS',by simp[Rep],hE⟩
 cases r with
 |none=>
  refine fin (en.push {key:=kv,val:=ρC y,born:=cl}) (cl+1) (es++[(kv,ρA y)]) ?_ ⟨by simp[hlen],Go.MapKept.stamped_push hst0 fun x hx hk=>?_⟩ ?_ ?_ ?_
  rotate_left
  ·obtain⟨j,hj⟩:=List.getElem?_of_mem hx
   have hjl:j<es.length:=by have:=(List.getElem?_eq_some_iff.1 hj).1;simp at this;omega
   obtain⟨m,hm,hmk,_⟩:=hen j es[j] (List.getElem?_eq_getElem hjl)
   rw[Array.getElem?_toList,hm] at hj
   injection hj with hj
   exact findM_none_ne hf es[j] (List.getElem_mem hjl) (by rw[←hmk,hj,hk])
  rotate_right
  ·rcases hop with hop|hop<;>simp only[execOp,hop,Instr.mapUpdate,hu,hk1]<;>simp[run_underlying ht,hget,hck,hfind,hset]
  ·intro hp e he
   rcases List.mem_append.1 he with he|he
   ·exact hpu0 hp e he
   ·simp at he;subst he;exact hpu hp
  ·intro e he
   rcases List.mem_append.1 he with he|he
   ·exact hkf e he
   ·simp at he;subst he;exact hk2
  ·intro j e he
   rw[List.getElem?_append] at he
   split at he
   ·rename_i hj
    obtain⟨m,q1,q2,q3⟩:=hen j e he
    exact⟨m,by rw[Array.getElem?_push_lt (by omega)];rw[←q1];simp[hlen,hj],q2,q3⟩
   ·rename_i hj
    have:j=es.length:=by
     have:=(List.getElem?_eq_some_iff.1 he).1
     simp at this;omega
    subst this
    simp at he
    subst he
    exact⟨{key:=kv,val:=ρC y,born:=cl},by rw[←hlen];simp,rfl,hρ y⟩
 |some p=>
  obtain⟨i,a⟩:=p
  obtain⟨e,m,q1,q2,q3,q4,q5⟩:=hfind
  obtain⟨q6,q7⟩:=keq_eq q4
  have hmk:m.key=kv:=by
   obtain⟨m',hm',hmk',_⟩:=hen i e q1
   rw[Array.getElem?_toList] at q3
   rw[hm'] at q3
   injection q3 with q3
   rw[←q3,hmk',q6]
  rw[Array.getElem?_toList] at q3
  refine fin (en.modify i fun e=>{e with key:=kv,val:=ρC y}) cl (es.modify i fun _=>(kv,ρA y)) ?_ ⟨by simp[hlen],Go.MapKept.stamped_modify hst0 i _ (fun _ _=>rfl) fun e _ he=>by rw[q3] at he;injection he with he;rw[←he,hmk]⟩ ?_ ?_ ?_
  ·have hst:(Instr.keyThatStays (((en[i]?).map (·.key)).getD kv) kv).run P w= .ok kv w:=by
    rw[q3]
    simp only[Option.map_some,Option.getD_some,hmk]
    exact run_keyThatStays_flat (by rw[q6] at q7 ⊢;exact q7) w
   rcases hop with hop|hop<;>simp only[execOp,hop,Instr.mapUpdate,hu,hk1]<;>simp[run_underlying ht,hget,hck,q5,hst,hset]
  ·intro hp e' he
   obtain⟨j,hj⟩:=List.getElem?_of_mem he
   rw[List.getElem?_modify] at hj
   split at hj
   ·simp at hj;obtain⟨_,_,rfl⟩:=hj;exact hpu hp
   ·simp at hj;exact hpu0 hp e' (List.mem_of_getElem? hj)
  ·intro e' he
   obtain⟨j,hj⟩:=List.getElem?_of_mem he
   rw[List.getElem?_modify] at hj
   split at hj
   ·simp at hj;obtain⟨_,_,rfl⟩:=hj;exact hk2
   ·simp at hj;exact hkf e' (List.mem_of_getElem? hj)
  ·intro j e' he
   rw[List.getElem?_modify] at he
   split at he
   ·rename_i hij
    subst hij
    simp at he
    obtain⟨_,_,rfl⟩:=he
    exact⟨{m with key:=kv,val:=ρC y},by simp[Array.getElem?_modify,q3],rfl,hρ y⟩
   ·rename_i hij
    simp at he
    obtain⟨m',r1,r2,r3⟩:=hen j e' he
    exact⟨m',by simp[Array.getElem?_modify,hij,r1],r2,r3⟩
end
end Go.Vi
