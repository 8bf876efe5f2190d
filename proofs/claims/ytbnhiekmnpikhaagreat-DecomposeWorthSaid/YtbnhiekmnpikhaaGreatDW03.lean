import Derived.Test.YtbnhiekmnpikhaaGreatDW02
import Derived.RangeFuncOwn
import Derived.LoopNIn
import Derived.LoopN
import Derived.Scope
import Derived.Test.YtbnhiekmnpikhaaGreatDW01
set_option maxRecDepth 100000
set_option maxHeartbeats 4000000
set_option linter.all false
open And renaming intro->γk
open Array renaming replicate->εh,getElem?_toList->γ0,ext'->εq
open BitVec renaming ofInt->γq
open Bool renaming false_eq_true->ω,and_eq_true->ζ,and_true->δI,or_eq_true->δd,true_eq_false->θb,not_eq_false->ζB
open Classical renaming choose->δU,choose_spec->εi
open Function renaming comp_def->δg
open Go.Vi renaming e_->ζ8,qA->θB
open Go.Vi.AV renaming pure->ζ7,sc->δe,bJ->δx
open Go.Vi.AV.sc renaming injEq->δa
open Go.Vi.AV.sl renaming injEq->δ9
open List renaming replicate->δ,getElem?_eq_some_iff->θ,getElem?_eq_getElem->μ,getElem?_set->εr,eq_nil_of_length_eq_zero->ψ,cons_append->γL,pairwise_cons->γp,mem_cons_of_mem->γe,map_cons->ν,all_eq_true->τ,range->Γ,mapM_cons->εY,append_nil->γ1,map_append->γb,length_append->γF,take_append_drop->γS,mem_append->γo,mem_map->Δ,flatMap_cons->δ2,take_succ_cons->δv,take_of_length_le->γr,drop_eq_getElem_cons->δi,map_map->γO,length_cons->γC,length->γf,drop_drop->δj,take->Ξ,modify_succ_cons->ζU,flatMap_nil->ζO,nil_append->δR,drop_zero->εx,map_nil->γv,range'->ζJ,range'_succ->εC,range_eq_range'->δH,all_map->θn,map->γd,ext_getElem?->γ8,append_inj->εM
open List.Pairwise renaming nil->δN
open List.cons renaming injEq->χ
open Nat renaming le_refl->π,beq->δu,eq_of_beq_eq_true->ε1,lt_of_lt_of_le->γw,zero_le->δ8,succ_mul->ζT,add_sub_cancel_left->ζK,add_assoc->ε7,mul_le_mul_right->γP,add_mul->δX,add_right_cancel_iff->ζC
open Option renaming map_eq_some_iff->ε,map_some->ξ,isSome_some->θc,isSome_none->ζo,bind_some->δT
open Option.some renaming injEq->γ
open Prod.mk renaming injEq->ι
namespace Go.Vi
section
variable {P:Program} {A:c_} {D:List Deferred} {w w':World} {σ σ':TN} {o o':a_}
theorem Q5.fresh (i:Q5 A w σ o) (e:TypeId) (sz:Nat) (pu:Bool):∃a,Q5 A w a (o++[.cells [] e sz pu])/\Ext w σ o w a (o++[.cells [] e sz pu])/\a[o.length]?=some none:=by
 obtain⟨k,j⟩:=i.fK 1;have b:(o++Go.Vi.fK 1)[o.length]?=some .dead:=by simp[Go.Vi.fK]
 have c:(o++Go.Vi.fK 1).set o.length (.cells [] e sz pu)=o++[.cells [] e sz pu]:=by grind[Go.Vi.fK]
 have f:o.length<(σ++δ 1 none).length:=by simp[i.len]
 obtain⟨d,g⟩:=k.kj (w':=w) (x':=.cells [] e sz pu) (s':=none) b (π _) rfl rfl rfl (λ_ _ _=>rfl) (λ_ _ h=>by cases h) trivial (λl=>by simp only[cQ];exact⟨λ_=>rfl,rfl,.inl ⟨by simp_all,trivial⟩⟩);rw[c] at d g;exact⟨_,d,j.trans g,by simp_all⟩
theorem Pn {n:Nat} {e:TypeId} {sz:Nat} {pu:Bool} (c:o[n]?=some (.cells [] e sz pu)) (a:σ[n]?=some none):nA A w σ o (.os n 0 0 0) (.slice none 0 0):=by simp only[nA];refine⟨⟨[],e,sz,pu,c,π _⟩,none,0,rfl,π _,λb _=>?_⟩;grind[j9]
theorem cm.Q8 {t:Nat} {r:World} {g:TN} {p:a_} {st:St} {a:Act} (h:cm A t D r g p st a w σ) (id:Nat):∃i,cm A t D r g p (A8 id st) a w i:=by
 unfold A8;split
 ·rename_i E e L k;have n:id<st.o.length:=(θ.1 k).1;have d:id<σ.length:=by rw[h.sim.len];exact n
  obtain⟨x,q⟩:=h.sim.kj (w':=w) (x':=.cells E e L false) (s':=σ[id]) k (π _) rfl rfl rfl (λ_ _ _=>rfl)
   (λb c N=> .inl ⟨c,by simp_all⟩) ⟨_,e,false,rfl,by simp,λ_=>μ d⟩ (λK=>by
    have f:=h.sim.obj id _ k;simp only[cQ] at f ⊢;obtain⟨P,H,I⟩:=f;refine⟨λG=>(by cases G),H,?_⟩;rcases I with⟨O,R⟩|⟨b,l,m,Q,J,u,y,F,M⟩;·simp_all
    ·refine .inr ⟨b,l,m,?_,J,u,y,F,λj c C=>?_⟩;·simp_all
     ·obtain⟨v,z,B⟩:=M j c C;exact⟨v,z,B.ext K⟩);exact⟨_,x,λs=>(h.env s).ext q,h.size,h.defers,h.ext.trans q⟩
 grind
theorem cm.aQI {M:Nat} {P:World} {u:TN} {U:a_} {st:St} {a:Act} (h:cm A M D P u U st a w σ) (x:jf):∃C,cm A M D P u U (A7 x st) a w C:=by
 obtain⟨f,I,z,V⟩:=h.sim.fresh x.e x.sz x.pu;have r:(st.o++[OL.cells [] x.e x.sz x.pu])[st.o.length]?=some (.cells [] x.e x.sz x.pu):=by simp
 unfold A7;split
 ·split
  ·rename_i N;refine⟨f,I,λs=>?_,h.size,h.defers,h.ext.trans z⟩;simp only[cX];cases X:δu x.slot s with
   |true=>
    have:=ε1 X;subst this;have:=h.env x.slot;grind[f_,Pn];|false=>exact(h.env s).ext z
  ·split;·exact h.Q8 _
   grind
  grind
 ·rename_i k _;split
  ·rename_i i d a1 N;split
   ·rename_i p e y pu ho;split
    ·rename_i R;split
     ·rename_i g;obtain⟨L,rfl⟩:=g;have a0:i<st.o.length:=(θ.1 ho).1;have l:i<f.length:=by grind
      have n:(st.o++[OL.cells [] x.e x.sz x.pu])[i]?=some (.cells p e y false):=by grind
      have Z:d+k<p.length:=(θ.1 R).1;obtain⟨O,G⟩:=I.kj (w':=w) (x':=.cells (p.set (d+k) (.os st.o.length 0 0 0)) e y false) (s':=f[i]) n (π _) rfl rfl rfl (λ_ _ _=>rfl)
       (λb c N=> .inl ⟨c,by simp_all⟩) ⟨_,e,false,rfl,by simp,λ_=>μ l⟩ (λS=>by
        have t:=I.obj i _ n;simp only[cQ] at t ⊢;obtain⟨q1,q2,q3⟩:=t;refine⟨λh=>(by cases h),?_,?_⟩
        ·refine mJ.2 λc H=>?_;rcases List.mem_or_eq_of_mem_set H with T|T;·grind[mJ]
         ·subst T;rfl
        ·rcases q3 with⟨_,h0⟩|⟨b,K,B,r1,W,r3,Y,r5,Q⟩;·simp_all
         ·refine .inr ⟨b,K,B,?_,W,r3,Y,by simp_all,λj c m=>?_⟩;·simp_all
          ·rw[εr] at m;split at m
           next J=>subst J;injection m with m;subst m;obtain⟨v,E,F⟩:=Q _ _ R;refine⟨v,E,?_⟩;rw[f_ F];exact(Pn r V).ext S
           ·obtain⟨v,E,F⟩:=Q j c m;exact⟨v,E,F.ext S⟩);have q:(st.o++[OL.cells [] x.e x.sz x.pu]).set i (.cells (p.set (d+k) (.os st.o.length 0 0 0)) e y false)=(st.o.set i (.cells (p.set (d+k) (.os st.o.length 0 0 0)) e y false))++[OL.cells [] x.e x.sz x.pu]:=by simp_all
      rw[q] at O G;exact⟨_,O,λs=>((h.env s).ext z).ext G,h.size,h.defers,(h.ext.trans z).trans G⟩
     grind
    grind
   grind
  grind
theorem cm.Rl {t:Nat} {r:World} {f:TN} {p:a_} {st:St} {a:Act} (h:cm A t D r f p st a w σ) (id:Nat):∃i,cm A t D r f p (y3 id st) a w i:=by
 unfold y3;split
 ·rename_i G e x k;split
  ·rename_i E;have n:id<st.o.length:=(θ.1 k).1;have d:id<σ.length:=by rw[h.sim.len];exact n
   obtain⟨y,q⟩:=h.sim.kj (w':=w) (x':=.cells G e x true) (s':=σ[id]) k (π _) rfl rfl rfl (λ_ _ _=>rfl)
    (λb c N=> .inl ⟨c,by simp_all⟩) ⟨_,e,true,rfl,by simp,λ_=>μ d⟩ (λH=>by
     have g:=h.sim.obj id _ k;simp only[cQ] at g ⊢;obtain⟨P,F,K⟩:=g;refine⟨λ_=>E,F,?_⟩;rcases K with⟨O,R⟩|⟨b,l,m,Q,L,u,z,I,M⟩;·simp_all
     ·refine .inr ⟨b,l,m,?_,L,u,z,I,λj c B=>?_⟩;·simp_all
      ·obtain⟨v,C,J⟩:=M j c B;exact⟨v,C,J.ext H⟩);exact⟨_,y,λs=>(h.env s).ext q,h.size,h.defers,h.ext.trans q⟩
  grind
 grind
theorem cm.hint {f:Nat} {g:World} {b:TN} {e:a_} {st:St} {a:Act} {lo:Nat} (l:e.length<=lo) (h:cm A f D g b e st a w σ) (x:jf):∃d,cm A f D g b e (jK lo x st) a w d:=by
 unfold jK;split;·exact h.aQI x
 ·split
  ·rename_i o _ _ _ _;split
   ·rename_i p;have m:=Nat.le_of_ble_eq_true p;obtain⟨k,h⟩:=h.Rl o;unfold A6;simp only;split
    next q t n j=>have c:=Qv j;exact⟨_,h.sim.TL c,λs=>nA.TL h.sim c _ _ _ (Qx n s) (h.env s),h.size,h.defers,h.ext.TL c λi r=>by grind⟩
    grind
   grind
  grind
theorem Pm {s:World} {f:TN} {h:a_} (j:Q5 A w σ o) (g:Ext s f h w σ o) {l r:AV} {u:Value} (y:nA A w σ o l u) {own:Bool} (a:finish own h.length l o=some (r,o')):
  ∃d,Q5 A w d o'/\nA A w d o' r u/\Ext s f h w d o':=by
 unfold finish at a;cases own with
 |true=>grind[aP8];|false=>
  simp only[ω,if_false] at a;split at a
  ·rename_i D;split at a
   ·rename_i C m;simp only[γ,ι] at a;obtain⟨rfl,rfl⟩:=a;have t:h=[]:=ψ D;subst t;refine⟨[],yn w j.avb,Ht j (λb _ a=>a.2) 6 l C u m (λq _ b c p=>j.av q b c p) y,g.size,λb v B=>⟨(g.blk b v B).1,λ⟨i,c,z⟩=>by simp at z⟩,π _,λq x k=>?_,λq k=>?_,g.os,g.tape,g.output⟩;·obtain⟨G,e,F,E,n,_⟩:=k;simp at n
    ·obtain⟨H,I,E,n⟩:=k;simp at n
   ·cases a
  ·cases a
end
open Go.RowKit
section
variable {A:c_} {w w':World} {σ:TN} {o:a_}
mutual
theorem nA.to (g:∀(p:Addr) (v:Value),w.cell? p=some v->w'.cell? p=some v):∀(c:AV) (v:Value),nA A w σ o c v->nA A w' σ o c v
 | .ud,_,_=>by simp[nA];| .sc u,v,d=>by grind[nA];| .agg e,v,d=>by simp only[nA] at d ⊢;obtain⟨k,rfl,i⟩:=d;exact⟨k,rfl,Aq.to g e _ i⟩;| .IL e,v,d=>by simp only[nA] at d ⊢;obtain⟨k,rfl,i⟩:=d;exact⟨k,rfl,Aq.to g e _ i⟩;| .sl n e,v,d=>by simp only[nA] at d ⊢;obtain⟨a,q,rfl,G,x,y⟩:=d;exact⟨a,q,rfl,G,x,cF.to g e a 0 y⟩;| .ep e l,v,d=>by simp only[nA] at d ⊢;obtain⟨a,rfl,x,y⟩:=d;exact⟨a,rfl,x,cF.to g e _ 0 y⟩;| .ptr z l m,v,d=>by grind[nA];| .os z l H m,v,d=>by grind[nA];| .mp z,v,d=>by grind[nA];| .fn f a b,v,d=>by simp only[nA] at d ⊢;obtain⟨E,F,rfl,C,I⟩:=d;exact⟨E,F,rfl,Aq.to g a _ C,Aq.to g b _ I⟩;| .ifc t e,v,d=>by simp only[nA] at d ⊢;obtain⟨k,rfl,B,i⟩:=d;exact⟨k,rfl,B,Aq.to g e _ i⟩
theorem Aq.to (g:∀(p:Addr) (v:Value),w.cell? p=some v->w'.cell? p=some v):∀(e:List AV) (k:List Value),Aq A w σ o e k->Aq A w' σ o e k
 |[],_,h=>by grind[Aq];|c::e,k,h=>by simp only[Aq] at h ⊢;obtain⟨v,r,rfl,s,i⟩:=h;exact⟨v,r,rfl,nA.to g c v s,Aq.to g e r i⟩
theorem cF.to (g:∀(p:Addr) (v:Value),w.cell? p=some v->w'.cell? p=some v):∀(e:List AV) (a:Option Addr) (j:Nat),cF A w σ o e a j->cF A w' σ o e a j
 |[],_,_,_=>by simp[cF];|c::e,a,j,h=>by simp only[cF] at h ⊢;obtain⟨⟨b,v,rfl,D,s,d⟩,i⟩:=h;exact⟨⟨b,v,rfl,D,g _ _ s,nA.to g c v d⟩,cF.to g e _ (j+1) i⟩
end
theorem Q5.to (a:Q5 A w σ o) (t:∀(p:Addr) (v:Value),w.cell? p=some v->w'.cell? p=some v) (J:∀(i b c:Nat),σ[i]?=some (some (b,c))->w'.heap[b]?=w.heap[b]?)
  (d:w.heap.size<=w'.heap.size):Q5 A w' σ o:=by
 refine⟨a.len,a.dist,λi b c h=>γw (a.ef i b c h) d,λi x F=>?_,a.av,λb h=>γw (a.avb b h) d⟩;have h:=a.obj i x F;cases x with
 |dead=>grind[cQ];|cells N e K H=>
  simp only[cQ] at h ⊢;refine⟨h.1,h.2.1,?_⟩;rcases h.2.2 with s|⟨b,n,g,k,u,y,l,D,C⟩;·exact .inl s
  ·refine .inr ⟨b,n,g,k,u,by grind,l,D,λj c q=>?_⟩;obtain⟨v,I,f⟩:=C j c q;exact⟨v,I,f.to t c v⟩;|map M L H=>
  simp only[cQ] at h ⊢;obtain⟨s,r,b,c,E,G,k,u,y,l⟩:=h;refine⟨s,r,b,c,E,G,k,by grind,y,λj e q=>?_⟩;obtain⟨m,B,z,f⟩:=l j e q;exact⟨m,B,z,f.to t e.2 _⟩
theorem yh {r b:Nat} {y:Obj} (h:b≠r):(w.putObj r y).heap[b]?=w.heap[b]?:=by simp_all[World.putObj,Ne.symm]
theorem putObj_size {r:Nat} {y:Obj}:(w.putObj r y).heap.size=w.heap.size:=by simp_all
theorem Pl {r:Nat} {x y:Obj} (h:w.heap[r]?=some x) (b:x.isCells=false) (p:Addr) (v:Value) (a:w.cell? p=some v):(w.putObj r y).cell? p=some v:=by grind[cells_of_cell,World.cell?_of_block,yh]
theorem Q5.sr (a:Q5 A w σ o) {r:Nat} {x y:Obj} (h:w.heap[r]?=some x) (d:x.isCells=false) (g:¬Own σ r):Q5 A (w.putObj r y) σ o:=
 a.to (Pl h d) (λi b c f=>yh λe=>g ⟨i,c,e▸f⟩) (by simp_all)
theorem nA.sr {c:AV} {v:Value} (a:nA A w σ o c v) {r:Nat} {x y:Obj} (h:w.heap[r]?=some x) (b:x.isCells=false):nA A (w.putObj r y) σ o c v:=
 a.to (Pl h b) c v
theorem Ext.sr {c:World} {a:TN} {d:a_} (h:Ext c a d w σ o) {r:Nat} {y:Obj} (g:c.heap.size<=r):Ext c a d (w.putObj r y) σ o where
 size:=by rw[putObj_size];exact h.size
 blk:=λb e f=>by obtain⟨i,j⟩:=h.blk b e f;grind[yh]
 len:=h.len;cur:=h.cur;isMap:=h.isMap;os:=h.os;tape:=h.tape;output:=h.output
theorem Bs {P:Program} {t:Func} {a:Array Value} {m:World} {D:List Deferred} {R:Ending->World->Prop}:∀(j:List Deferred) (w:World),sQ m w j->Q5 A w σ o->
  (∀w',Q5 A w' σ o->(∀{c:TN} {q:a_},Ext m c q w σ o->Ext m c q w' σ o)->(∀s v,nA A w σ o s v->nA A w' σ o s v)->LeavesInM (FR none) 0 P t a R D .returning w')->
  LeavesInM (FR none) 0 P t a R (j++D) .returning w
 |[],w,_,f,k=>k w f (λh=>h) (λ_ _ h=>h)
 |d::j,w,g,f,k=>by obtain⟨r,x,n,i⟩:=g.2 d (by simp);have C:=f.H0 i (by simp) (by simp);simp only[γL,LeavesInM];refine⟨by simp,.inl ⟨r,w.putObj r (.deferred none),by rw[x],run_takeDeferred i,?_⟩⟩;refine Bs j _ ⟨(γp.1 g.1).2,λe p=>?_⟩ (f.sr i rfl C) λw' y z E=>k w' y (λh=>z (h.sr n)) (λs v h=>E s v (h.sr i rfl));obtain⟨B,l,b,u⟩:=g.2 e (γe _ p);refine⟨B,l,b,?_⟩;have:=(γp.1 g.1).1 e p;grind[yh]
theorem HR {P:Program} {m:World}:∀(f:List Deferred) (w:World) (fr:Frame) (cs:List Frame),fr.mode= .returning->fr.defers=f->sQ m w f->Q5 A w σ o->
  ∃w',StepsIn (Machine.fenced P (FR none)) P (lone fr cs w) (lone {fr with defers:=[]} cs w')/\Q5 A w' σ o/\(∀{a:TN} {u:a_},Ext m a u w σ o->Ext m a u w' σ o)/\∀s v,nA A w σ o s v->nA A w' σ o s v
 |[],w,fr,cs,_,k,_,l=>by
  refine⟨w,?_,l,λh=>h,λ_ _ h=>h⟩;have:fr={fr with defers:=[]}:=by rw[<-k]
  rw[<-this];exact StepsIn.refl _;|d::f,w,fr,cs,x,k,j,l=>by
  obtain⟨r,p,q,i⟩:=j.2 d (by simp);have C:=l.H0 i (by simp) (by simp);have b:fr.mode≠ .run:=by rw[x];simp
  have I:=step_collected (cs:=cs) b k (by rw[p]) (run_takeDeferred (P:=P) i);have H:(lone fr cs w).fenced P (FR none):=fenced_out (n:=0) trivial (by simp[FR,Fence.wide,Fence.room]) b k (λg J=>by grind[Target.leads]);obtain⟨w',E,z,F,D⟩:=HR f (w.putObj r (.deferred none)) {fr with defers:=[]++f} cs x rfl ⟨(γp.1 j.1).2,λe y=>by obtain⟨G,t,c,B⟩:=j.2 e (γe _ y);refine⟨G,t,c,?_⟩;have:=(γp.1 j.1).1 e y;grind[yh]⟩ (l.sr i rfl C);exact⟨w',.head H I E,z,λh=>F (h.sr q),λs v h=>D s v (h.sr i rfl)⟩
theorem aQK {P:Program} {f:FuncId} {m:Func} {c:Code} {args:Array Value} {u:FrameMode} {w:World} {R:Ending->World->Prop}
  (E:P.funcs[f]?=some m) (S:m.body=some c)
  (h:c.wpIn (FR none) 0 P (λe a r=>(e= .normal\/e= .ret)/\∃(q:World) (g:TN) (l:a_),sQ q r a.defers/\Q5 A r g l/\∀i,Q5 A i g l->(∀{n:TN} {I:a_},Ext q n I r g l->Ext q n I i g l)->(∀s v,nA A r g l s v->nA A i g l s v)->
   ∃v,(results m a.tmps).run P i= .ok v i/\R (.returned v) i) {tmps:=args++εh (m.ntmps - args.size) undef,defers:=[]} w):
  CallsDIn (FR none) 0 P f args u w λe L w'=>L=u/\R e w':=by
 refine⟨trivial,λd z Q J=>?_⟩;let b:Frame:={(default:Frame) with fn:=f,kind:=.deferred,roundOf:=none};have k:Frame.enter P f args .deferred=
   b.atR {tmps:=args++εh (m.ntmps - args.size) undef,defers:=[]} [.code c]:=by grind[Frame.enter,Frame.atR]
 have F:({d with mode:=u}:Frame)=d:=by subst Q;rfl
 obtain⟨e,p,w',O,j⟩:=h b [] (d::z) rfl trivial J;rw[<-k] at j;obtain⟨N,q,g,l,H,K,G⟩:=O;rcases N with rfl|rfl
 ·obtain⟨i,C,t,y,B⟩:=HR (P:=P) p.defers w' {b.atR p [] with mode:=.returning} (d::z) rfl rfl H K;obtain⟨v,D,x⟩:=G i t y B;exact⟨.returned v,u,i,_,⟨rfl,x⟩,(by rw[F];exact StepsIn.trans (StepsIn.trans j (.one (fenced_calm (fr:=b.atR p []) trivial J rfl) (stepR_end rfl))) C),rfl,rfl,rfl,rfl,m,E,D⟩
 ·obtain⟨o,M⟩:=j.1 rfl;obtain⟨i,C,t,y,B⟩:=HR (P:=P) p.defers w' {b.atR p o with mode:=.returning} (d::z) rfl rfl H K;obtain⟨v,D,x⟩:=G i t y B;exact⟨.returned v,u,i,_,⟨rfl,x⟩,(by rw[F];exact StepsIn.trans M C),rfl,rfl,rfl,rfl,m,E,D⟩
end
open Go.RowKit
def Out.sq:Out->Exit
 | .norm=> .normal
 | .exit a=> .exit a
 | .ret=> .ret
 | .goto l=> .goto l
section
variable {P:Program} {A:c_} {D:List Deferred} {w w':World} {σ σ':TN} {o o':a_}
theorem aQL (a:List Nat) (env:jk) (s:Nat):cX (e_ a env) s=cX env s\/cX (e_ a env) s= .ud:=by
 unfold e_;induction a with
 |nil=>right;rfl;|cons x a b=>
  simp only[ν,cX];cases c:δu x s<;>simp_all
theorem aQM (t:Nat) (env:jk) (s:Nat):cX (qd t env) s=cX env s\/cX (qd t env) s= .ud:=by
 induction env with
 |nil=>left;rfl;|cons p env c=>
  simp only[qd];cases a:δu p.1 t with
  |true=>
   simp only[cond_true];by_cases d:p.1=s
   ·have e:=ε1 a;right;have:∀env:jk,cX (qd t env) t= .ud:=by
     intro env;induction env with
     |nil=>rfl;|cons q env c=>
      simp only[qd];cases b:δu q.1 t with
      |true=>simp_all;|false=>simp_all[cX]
    simp_all
   ·have:cX (p::env) s=cX env s:=by
     simp only[cX];have:δu p.1 s=false:=by cases h:δu p.1 s<;>simp_all
     rw[this];rfl
    simp_all;|false=>
   simp only[cond_false,cX];grind
theorem cm.drop {d:Nat} {e:World} {b:TN} {c:a_} {st:St} {a:Act} (h:cm A d D e b c st a w σ) (x:Operand):cm A d D e b c ⟨oC x st.env,st.o⟩ a w σ where
 sim:=h.sim;env:=λs=>by
  unfold oC;split
  ·rename_i t;rcases aQM t st.env s with f|f;·simp only[f];exact h.env s
   grind[nA]
  ·exact h.env s
 size:=h.size;defers:=h.defers;ext:=h.ext
theorem cm.e_ {e:Nat} {f:World} {c:TN} {d:a_} {st:St} {a:Act} (h:cm A e D f c d st a w σ) (b:List Nat):cm A e D f c d ⟨ζ8 b st.env,st.o⟩ a w σ where
 sim:=h.sim;env:=λs=>by
  rcases aQL b st.env s with g|g;·simp only[g];exact h.env s
  grind[nA]
 size:=h.size;defers:=h.defers;ext:=h.ext
theorem aQN {env:jk} {s:Nat}:cX env s= .ud\/∃p∈env,p.2=cX env s:=by induction env<;>grind[cX]
theorem cm.trim {g:Nat} {f:World} {b:TN} {d:a_} {st:St} {a:Act} (h:cm A g D f b d st a w σ) {k:Nat} (i:d.length<=k):∃c,cm A g D f b d (Go.Vi.trim k st) a w c:=by
 unfold Go.Vi.trim;split;·grind
 ·split
  next e=>simp only[ζ,τ] at e;refine⟨σ.take k,⟨h.sim.take e.2,λs=>?_,h.size,h.defers,h.ext.take i⟩⟩;grind[aQN,env,nA,nA.take]
  grind
theorem cm.fK {e:Nat} {g:World} {b:TN} {d:a_} {st:St} {a:Act} (h:cm A e D g b d st a w σ) (n:Nat):∃c,cm A e D g b d ⟨st.env,st.o++Go.Vi.fK n⟩ a w c:=by obtain⟨i,f⟩:=h.sim.fK n;exact⟨_,i,λs=>(h.env s).ext f,h.size,h.defers,h.ext.trans f⟩
theorem cm.qh {e:Nat} {f:World} {c:TN} {d:a_} {st:St} {a:Act} (h:cm A e D f c d st a w σ) {k:Nat} (g:d.length<=k):∃b,cm A e D f c d ⟨st.env,Go.Vi.qh k st.o⟩ a w b:=by obtain⟨b,l,j,i⟩:=aP5 h.sim k;exact⟨b,l,λs=>j _ _ (h.env s),h.size,h.defers,i _ _ _ g h.ext⟩
theorem cm.len {d:Nat} {e:World} {b:TN} {c:a_} {st:St} {a:Act} (h:cm A d D e b c st a w σ):c.length<=st.o.length:=h.ext.len
theorem cm.hints {e:Nat} {d:World} {σ0:TN} {b:a_} {lo:Nat} (c:b.length<=lo) (l:List jf):∀{st:St} {a:Act} {σ:TN},cm A e D d σ0 b st a w σ->∃σ',cm A e D d σ0 b (l.foldl (λs h=>jK lo h s) st) a w σ':=by
 induction l with
 |nil=>intro st a σ h;exact⟨σ,h⟩;|cons x l f=>
  intro st a σ h;obtain⟨σ1,h1⟩:=cm.hint c h x;exact f h1
theorem aQO {rnd:Option Nat} {call:cz} (i:oN P call) {lo j:Nat} {H:List RH} {id:Nat} {ops:Array Oper} {draw:Bool} {c:IR} (hc:wh P j H id ops draw=some c):
  ∃k l d live pre post,c= .region id draw k l d live pre post/\∀{st st':St},oD call k l d (pre.foldl (λs h=>jK lo h s) st)=some st'->∀{g:World} {σ0:TN} {f:a_} {a:Act} {w:World} {σ:TN},f.length<=lo->cm A j D g σ0 f st a w σ->
   (Code.region id ops draw).wpIn (FR rnd) 0 P (λe m w'=>e= .normal/\∃σ',cm A j D g σ0 f (post.foldl (λs h=>jK lo h s) ⟨ζ8 live st'.env,st'.o⟩) m w' σ') a w:=by
 unfold wh at hc;split at hc;·cases hc
 ·rename_i h E;have fin:∀(k:Nat) (l:List cM) (d:List (Nat×Nat)),(∀{st1 st2:St},fN call st1.o.length l ⟨st1.env,st1.o++fK k⟩=some st2->(d.isEmpty||sE (st1.o++fK k).length (lX call st1.o.length l ⟨st1.env,st1.o++fK k⟩) d)=true->
     ∀{g:World} {σ0:TN} {f:a_} {a:Act} {w:World} {σ:TN} {Q:Exit->Act->World->Prop},cm A j D g σ0 f ⟨st1.env,st1.o++fK k⟩ a w σ->(∀m w' σ',cm A j D g σ0 f st2 m w' σ'->Q .normal m w')->(Code.region id ops draw).wpIn (FR rnd) 0 P Q a w)->
    ∀{st st':St},oD call k l d (h.pre.foldl (λs h=>jK lo h s) st)=some st'->∀{g:World} {σ0:TN} {f:a_} {a:Act} {w:World} {σ:TN},f.length<=lo->cm A j D g σ0 f st a w σ->
     (Code.region id ops draw).wpIn (FR rnd) 0 P (λe m w'=>e= .normal/\∃σ',cm A j D g σ0 f (h.post.foldl (λs h=>jK lo h s) ⟨ζ8 h.live st'.env,st'.o⟩) m w' σ') a w:=by
   intro k l d u st st' hr g σ0 f a w σ t q;obtain⟨σ1,n⟩:=cm.hints t h.pre q;generalize C:h.pre.foldl (λs h=>jK lo h s) st=st1 at hr n;unfold oD at hr;simp only at hr;split at hr
   ·rename_i st2 r;split at hr
    ·rename_i p;injection hr with hr;obtain⟨σ2,z⟩:=n.fK k;refine u r p z λm w' σ' B=>⟨rfl,?_⟩;have y:∃σ4,cm A j D g σ0 f st' m w' σ4:=by
      subst hr;by_cases hk:k=0;·simp only[hk,if_true];exact⟨σ',B⟩
      ·simp only[hk,if_false];exact B.qh n.len
     obtain⟨σ4,y⟩:=y;exact cm.hints t h.post (y.e_ h.live)
    ·cases hr
   ·cases hr
  cases draw with
  |false=>
   simp only[ω,if_false] at hc;obtain⟨⟨l,k⟩,v,rfl⟩:=ε.1 hc;refine⟨k,l,[],h.live,h.pre,h.post,rfl,fin k l [] λ{st1 st2} r _ g σ0 f a w σ Q q x=>?_⟩;obtain⟨g1,g2⟩:=HZ v;exact wpIn_region (QW i l (Γ ops.size) g1 g2 _ _ a w σ r q x);|true=>
   simp only[if_true] at hc;generalize (if h.perm.isEmpty=true then Γ ops.size else h.perm)=perm at hc;split at hc
   ·rename_i l k v;split at hc
    next b=>injection hc with hc;refine⟨k,l,p_ (nY ops) l,h.live,h.pre,h.post,hc.symm,fin k l _ λ{st1 st2} r p g σ0 f a w σ Q q x=>?_⟩;simp only[ζ,beq_iff_eq] at b;exact aQG i v b.1.1.1.1.1 b.1.1.1.1.2 b.1.1.1.2 b.1.1.2 b.1.2 b.2 r p q x
    ·cases hc
   ·cases hc
def ur (_:Program) (rnd:Option Nat) (_:c_->World->TN->a_->Prop):Md->Prop
 | .plain=>rnd=none
def fc (B:c_->World->TN->a_->Prop):Prop:=∀A w c o b a d,B A w c o->Ext w c o b a d->B A b a d
theorem aQP {call:cz} (m:oN P call) {rnd:Option Nat} {B:c_->World->TN->a_->Prop} {md:Md} (G:ur P rnd B md) (F:fc B) {lo r:Nat} {H:List RH} {id:Nat} {p:Array Oper} {d:Bool} {c:IR} (y:wh P r H id p d=some c):
  ∃k l j f g b,c= .region id d k l j f g b/\∀{st st':St},HH md d call k l j (g.foldl (λs h=>jK lo h s) st)=some st'->∀{q:World} {i:TN} {n:a_} {a:Act} {w:World} {σ:TN},B A q i n->n.length<=lo->cm A r D q i n st a w σ->
   (Code.region id p d).wpIn (FR rnd) 0 P (λe x w'=>e= .normal/\∃u,cm A r D q i n (b.foldl (λs h=>jK lo h s) ⟨ζ8 f st'.env,st'.o⟩) x w' u) a w:=by obtain⟨k,l,j,f,g,b,v,E⟩:=aQO (rnd:=rnd) m (A:=A) (lo:=lo) y;refine⟨k,l,j,f,g,b,v,?_⟩;intro st st' z q i n a w σ _ t C;exact E z t C
structure j7 (P:Program) (T:jy):Prop where
 fn:∀f F,T.fn f=some F->∃fn H,P.funcs[f]?=some fn/\AY P H fn=some F/\gv P f=true
 K:∀f args o own r o',T.K f args o own=some (r,o')->gv P f=true/\j8 P f args o r o'/\(own=false->o'=[])
def yg (P:Program) (T:jy) (n:Nat):Prop:=
 ∀(g:Option Nat) (m:Md) (B:c_->World->TN->a_->Prop),ur P g B m->fc B->
 ∀(o:Nat) (c:IR) (p:St) (h:Out) (f:St),exec T m n o c p=some (h,f)->∀(j:Nat) (H:List RH) (b:Code),comp P j H b=some c->∀(D:List Deferred) (A:c_) (l:World) (d:TN) (i:a_) (a:Act) (w:World) (q:TN),B A l d i->i.length<=o->cm A j D l d i p a w q->
  b.wpIn (FR g) 0 P (λe s r=>e=h.sq/\∃k,cm A j D l d i f s r k) a w
def yf:c_->World->TN->a_->Prop:=λ_ _ _ _=>True
theorem Br:fc yf:=λ_ _ _ _ _ _ _ _ _=>trivial
theorem Pk:∀(k:Nat) (args:List AV) (s:Nat),cX (gK k args) s=if k<=s then(args[s - k]?).getD .ud else .ud
 |k,[],s=>by simp[gK,cX];|k,v::b,s=>by
  simp only[gK,cX];by_cases h:k=s;·subst h;simp
  ·have a:δu k s=false:=by cases a:δu k s<;>simp_all
   simp only[a,cond_false];rw[Pk (k+1) b s];grind
def ye (a:Array Value):ResultVar->Sem Value
 | .tmp t=>pure (a.getD t undef)
 | .cell x t=>do loadVar t (<-asAddr (a.getD x undef))
theorem aQQ (b:Func) (a:Array Value):results b a=(do let vs <-b.results.mapM (ye a);pure (if h:vs.size=1 then vs[0] else .tuple vs)):=by unfold results;congr 1
theorem aQR {m:Nat} {i:World} {e:TN} {l:a_} {st:St} {a:Act} (h:cm A m D i e l st a w σ) {f:ResultVar} {g:mc} (d:qX P f=some g) {r:AV} (c:qg st g=some r):
  ∃u,(ye a.tmps f).run P w= .ok u w/\nA A w σ st.o r u:=by
 cases f with
 |tmp t=>
  simp only[qX,γ] at d;subst d;simp only[qg,γ] at c;subst c;exact⟨_,rfl,h.env t⟩;|cell x t=>
  simp only[qX,ε] at d;obtain⟨n,j,rfl⟩:=d;simp only[qg] at c;split at c
  next y s k=>obtain⟨p,z,b⟩:=(h.env x).Qk h.sim k;obtain⟨u,v,q⟩:=Qj (P:=P) j b c;grind[ye,asAddr]
  ·cases c
theorem HQ {K:Nat} {Q:World} {t:TN} {N:a_} {st:St} {a:Act} (h:cm A K D Q t N st a w σ) {m:Func} {H:List mc} (O:qb (qX P) m.results.toList=some H) {r:AV} (j:nv st H=some r):
  ∃u,(results m a.tmps).run P w= .ok u w/\nA A w σ st.o r u:=by
 obtain⟨n,S⟩:=Hz O;unfold nv at j;have z:∀(c:List ResultVar) (b:List mc) (g:List AV),c.length=b.length->(∀(i:Nat) (x:ResultVar) (y:mc),c[i]?=some x->b[i]?=some y->qX P x=some y)->b.mapM (qg st)=some g->
   ∃d:List Value,(c.mapM (ye a.tmps)).run P w= .ok d w/\Aq A w σ st.o g d:=by
  intro c;induction c with
  |nil=>
   intro b g l _ f;have:b=[]:=ψ (by simp_all);simp_all[Aq];|cons x c R=>
   intro b g l G f;match b,l with
   |y::b,l=>
    rw[εY] at f;cases s:qg st y with
    |none=>simp[s] at f;|some v=>
     cases e:b.mapM (qg st) with
     |none=>simp_all;|some C=>
      simp[s,e] at f;subst f;obtain⟨u,U,M⟩:=aQR h (G 0 x y (by simp) (by simp)) s;obtain⟨d,B,E⟩:=R b C (by grind) (λi p q J T=>G (i+1) p q (by simpa using J) (by simpa using T)) e;refine⟨u::d,?_,by grind[Aq]⟩;simp_all
 have F:∀d:List Value,(m.results.toList.mapM (ye a.tmps)).run P w= .ok d w->
   (results m a.tmps).run P w= .ok (if h:d.length=1 then d[0]'(by omega) else .tuple d.toArray) w:=by grind[aQQ,Array.mapM_eq_mapM_toList,Sem.run_bind,Sem.run_map,Result.andThen_ok,Sem.run_pure]
 split at j;·grind[Aq]
 ·rename_i g I f;injection j with j;subst j;obtain⟨d,B,l⟩:=z _ _ _ n S f;have k:=Aq.length _ _ l;have L:¬d.length=1:=by
   intro n;match g,k.trans n with
   |[v],_=>simp_all
  grind[nA]
 ·cases j
theorem HP {a:Nat} {args:List AV} {vs:List Value} (d:Q5 A w σ o) (b:Aq A w σ o args vs) (j:args.length<=a):cm A a [] w σ o ⟨gK 0 args,o⟩ {tmps:=vs.toArray++εh (a - vs.toArray.size) undef,defers:=[]} w σ:=by
 have i:=Aq.length _ _ b;refine⟨d,λs=>?_,?_,⟨[],rfl,δN,by simp⟩,Ext.refl _ _ _⟩
 ·simp only[Pk,δ8,if_true,Nat.sub_zero];cases h:args[s]? with
  |none=>simp[nA];|some c=>
   obtain⟨v,e,g⟩:=Aq.get _ _ b s c h;have f:s<vs.length:=(θ.1 e).1;have:(vs.toArray++εh (a - vs.toArray.size) undef).getD s undef=v:=by simp_all[Array.getElem?_append_left]
   simp_all
 ·simp;omega
theorem aQS {T:jy} {n:Nat} (W:yg P T n) {md:Md} {B:c_->World->TN->a_->Prop} (N:ur P none B md) (L:fc B) {f:FuncId} {c:Func} {g:Code} {H:List RH} {b:IR} {E:List mc}
  (t:P.funcs[f]?=some c) (i:c.body=some g) (X:comp P c.ntmps H g=some b) (y:qb (qX P) c.results.toList=some E) (Q:¬c.ntmps<c.params.size+c.nfree)
  {args:List AV} {out:Out} {st:St} (C:args.length=c.params.size+c.nfree) (j:out= .norm\/out= .ret) (m:exec T md n o.length b ⟨gK 0 args,o⟩=some (out,st)) {G r:AV} (z:nv st E=some G) {own:Bool} (q:finish own o.length G st.o=some (r,o'))
  {vs:List Value} (x:B A w σ o) (J:Q5 A w σ o) (I:Aq A w σ o args vs):
  CallsIn (FR none) 0 P f vs.toArray w λe w'=>∃u a,e= .returned u/\Q5 A w' a o'/\nA A w' a o' r u/\Ext w σ o w' a o':=by
 have M:=Aq.length _ _ I;refine callsIn_of_wp_marks (F:=FR none) t i trivial (wpIn_mono (W none md B N L _ b _ out st m c.ntmps H g X [] A w σ o {tmps:=vs.toArray++εh (c.ntmps - vs.toArray.size) undef,defers:=[]} w σ x (π _) (HP J I (by omega))) ?_)
 ·rintro e p w' ⟨rfl,a,d⟩;have k:LeavesInM (FR none) 0 P c p.tmps (λe w'=>∃u a,e= .returned u/\Q5 A w' a o'/\nA A w' a o' r u/\Ext w σ o w' a o') p.defers .returning w':=by obtain⟨K,v,U⟩:=d.defers;rw[v];refine Bs K w' U d.sim λS R V O=>?_;simp only[LeavesInM,LeavesIn];have h:cm A c.ntmps [] w σ o st {p with defers:=[]} S a:=⟨R,λs=>O _ _ (d.env s),d.size,⟨[],rfl,δN,by simp⟩,V d.ext⟩;obtain⟨u,Y,l⟩:=HQ h y z;have D:=Pm h.sim h.ext l q;simp_all
  rcases j with rfl|rfl;·exact k
  ·exact k
theorem Pj {out:Out} (h:qe out=true):out= .norm\/out= .ret:=by grind[qe]
theorem Z_ {P:Program} {j:Nat} {H:List RH} {g:FuncId} {e:List Operand} {d:Nat} {a b:IR} (c:Code):comp P j H c≠some (.dfr g e d a b):=by
 intro h;cases c with
 |region k i f=>
  simp only[comp] at h;unfold wh at h;split at h;·cases h
  ·split at h;·grind
   simp_all;|seq x y=>grind[comp];|cond c x y=>
  grind[comp];|_=>simp[comp] at h
theorem Z9 {f:Array Oper} {g:FuncId} {e:List Operand} {d:Nat} (h:AZ f=some (g,e,d)):∃i j a b c,f.toList=[i,j]/\i.dst=some d/\i.op= .makeFunc (.func g) a b/\i.guard=none/\j.op= .defer c/\j.dst=none/\j.guard=none/\c.callee= .value (.tmp d)/\a.toList=[]/\c.args.toList=[]/\b.toList=e:=by grind[AZ]
theorem Z8 {n:Nat} {id:Nat} {e:Array Oper} {g:FuncId} {f:List Operand} {d:Nat} (H:AZ e=some (g,f,d)) (p:d<n) {st:St} {a:Act} {F:World} {l:TN} {G:a_} (h:cm A n D F l G st a w σ) {Q:Exit->Act->World->Prop}
  (I:∀(r:Act) (vs:List Value),Aq A w σ st.o (f.map (dS st.env)) vs->cm A n ({target:=.fn (.func g) vs.toArray,args:=#[]}::a.defers) w σ st.o ⟨(d,.ud)::st.env,st.o⟩ r w σ->Q .normal r w):
  (Code.region id e false).wpIn (FR none) 0 P Q a w:=by
 obtain⟨k,u,x,b,c,t,q,U,X,S,J,V,R,N,T,rfl⟩:=Z9 H;have L:e[0]?=some k:=by rw[<-γ0,t];rfl
 have z:e[1]?=some u:=by rw[<-γ0,t];rfl
 have B:e.size=2:=by grind[Array.length_toList]
 have W:x=#[]:=εq (by omega);have O:c.args=#[]:=εq (by omega);refine wpIn_region ?_;rw[B];show wpOpsIn (FR none) 0 P e Q [0,1] a w;rw[wpOpsIn_cons];unfold wpOpIn;simp only[L];rw[if_pos (by grind[Region.wanted])];unfold Oper.wpIn;rw[show(FR none).round=none from rfl,Oper.semAt_none];refine⟨λ_ _=>trivial,?_⟩;have E:(execOp a.eval k).run P w= .ok (.value (.func (.func g) #[] (b.map a.eval))) w:=by simp_all[execOp,Instr.makeFunc]
 rw[E,Oper.uponIn_value,wpOpsIn_cons];have C:d<a.tmps.size:=by rw[h.size];exact p
 have m:(a.put k.dst (.func (.func g) #[] (b.map a.eval))).eval (.tmp d)= .func (.func g) #[] (b.map a.eval):=by simp_all[Act.put,Act.eval]
 generalize i:a.put k.dst (.func (.func g) #[] (b.map a.eval))=K at m;unfold wpOpIn;simp only[z];rw[if_pos (by grind[Region.wanted])];unfold Oper.wpIn;rw[show(FR none).round=none from rfl,Oper.semAt_none];refine⟨λ_ _=>trivial,?_⟩;have y:(execOp K.eval u).run P w= .ok (.defer {target:=.fn (.func g) (b.map a.eval),args:=#[]}) w:=by simp_all[execOp,resolve,Deferred.ofValue]
 rw[y,Oper.uponIn_defer,J];show Q .normal _ w;have j:Aq A w σ st.o (b.toList.map (dS st.env)) (b.toList.map a.eval):=ua (λx=>h.ev x) b.toList;refine I _ (b.toList.map a.eval) j ⟨h.sim,λs=>?_,?_,⟨[],?_,δN,by simp⟩,Ext.refl _ _ _⟩
 ·subst i;by_cases M:d=s;·simp_all[cX,nA]
  ·have v:δu d s=false:=by cases v:δu d s<;>simp_all
   simp only[cX,v,cond_false];have:=h.env s;simp_all[Act.put]
 ·subst i;simp[q,Act.put,h.size]
 ·subst i;simp[q,Act.put];grind
theorem Z7 {T:jy} {n:Nat} (Q:yg P T n) {v:Nat} {H:List RH} {lo:Nat} {C:World} {p:TN} {D:a_} (I:D.length<=lo) {g:FuncId} {m:List Operand} {d:Nat} {S:IR} {s0 s2:St} {out:Out}
  (J:exec T .plain n s0.o.length S ⟨(d,.ud)::s0.env,s0.o⟩=some (out,s2)):∀(f:Code) (z:IR) (st:St) (a:Act) (w:World) (σ:TN),uf P v H f=some (z,(g,m,d),S)->qf (exec T .plain n lo) z st=some s0->cm A v [] C p D st a w σ->
  f.wpIn (FR none) 0 P (λe B w'=>e=out.sq/\gv P g=true/\∃(q:World) (j t:TN) (R:List Deferred) (vs:List Value),sQ C q R/\Q5 A q j s0.o/\Ext C p D q j s0.o/\Aq A q j s0.o (m.map (dS s0.env)) vs/\
   cm A v ({target:=.fn (.func g) vs.toArray,args:=#[]}::R) q j s0.o s2 B w' t) a w:=by
 intro f;induction f with
 |seq c l _ G=>
  intro z st a w σ k i h;cases c with
  |region W K N=>
   unfold uf at k;split at k
   ·rename_i x X _;split at k
    next y=>obtain⟨b,Y,O⟩:=ε.1 k;simp only[ι] at O;obtain⟨rfl,rfl,rfl⟩:=O;simp only[qf,γ] at i;subst i;refine wpIn_seq (Z8 X y.1 h λE vs V s=>?_);show l.wpIn _ _ _ _ E w;obtain⟨ms,U,Z⟩:=h.defers;refine wpIn_mono (Q none .plain yf rfl Br _ b _ out s2 J v H l Y _ A w σ st.o E w σ trivial (π _) s) ?_;rintro e B w' ⟨rfl,t,L⟩;exact⟨rfl,y.2,w,σ,t,a.defers,vs,by simp_all,h.sim,h.ext,V,L⟩
    ·cases k
   ·split at k
    ·rename_i r B x b hr F;simp only[γ,ι] at k;obtain⟨rfl,rfl,rfl⟩:=k;simp only[qf] at i;split at i
     next u M=>refine wpIn_seq (wpIn_mono (Q none .plain yf rfl Br lo r st .norm u M v H (.region W K _) (by grind[comp]) [] A C p D a w σ trivial I h) ?_);rintro e E q ⟨rfl,j,s⟩;exact G B u E q j F i s
     ·cases i
    ·cases k;|_=>simp[uf] at k
 |_=>
  intro z st a w σ k;simp[uf] at k
theorem Z6 {T:jy} (hT:j7 P T) {n:Nat} (ih:yg P T n) {f:FuncId} {fn:Func} {code:Code} {H:List RH} {ia ib:IR} {g:FuncId} {c:List Operand} {d:Nat} {rs:List mc}
  (U:P.funcs[f]?=some fn) (q:fn.body=some code) (hb:uf P fn.ntmps H code=some (ia,(g,c,d),ib)) (M:qb (qX P) fn.results.toList=some rs) (hnt:¬fn.ntmps<fn.params.size+fn.nfree)
  {args:List AV} {out l:Out} {s0 s2 s3:St} (hlen:args.length=fn.params.size+fn.nfree) (D:out= .norm\/out= .ret) (h1:qf (exec T .plain n o.length) ia ⟨gK 0 args,o⟩=some s0) (h2:exec T .plain n s0.o.length ib ⟨(d,.ud)::s0.env,s0.o⟩=some (out,s2))
  {F:eL} (hF:T.fn g=some F) (hcl:(c.map (dS s0.env)).length=F.params) (z:F.res=[]) (I:exec T .plain n s2.o.length F.body ⟨gK 0 (c.map (dS s0.env)),s2.o⟩=some (l,s3)) (baj:l= .norm\/l= .ret)
  {r0 r:AV} (Q:nv ⟨s2.env,s3.o⟩ rs=some r0) {own:Bool} (V:finish own o.length r0 s3.o=some (r,o'))
  {vs:List Value} (hS:Q5 A w σ o) (hr:Aq A w σ o args vs):
  CallsIn (FR none) 0 P f vs.toArray w λe w'=>∃u σ',e= .returned u/\Q5 A w' σ' o'/\nA A w' σ' o' r u/\Ext w σ o w' σ' o':=by
 have hvl:=Aq.length _ _ hr;obtain⟨v,Hg,W,a,hgg⟩:=hT.fn g F hF;obtain⟨y,aQY,Z,hpg,O⟩:∃y,v.body=some y/\comp P v.ntmps Hg y=some F.body/\F.params<=v.ntmps/\qb (qX P) v.results.toList=some []:=by
  unfold AY at a;split at a;·cases a
  ·rename_i y bak;split at a
   ·rename_i b rs' p bal;split at a;·cases a
    ·rename_i bam;injection a with a;subst a;simp only at I z ⊢;subst z;unfold HF at p;split at p;·simp_all
     ·obtain⟨x,_,rfl⟩:=ε.1 p;cases n<;>simp[exec] at I
   ·cases a
 refine callsIn_of_wp_marks (F:=FR none) U q trivial (wpIn_mono (Z7 ih (π _) h2 code ia _ _ w σ hb h1 (HP hS hr (by omega))) ?_);rintro e E w' ⟨rfl,hg,w1,σ1,σ',J,K,xc,X,Y,hcv,j⟩;have key:LeavesInM (FR none) 0 P fn E.tmps (λe w'=>∃u σ',e= .returned u/\Q5 A w' σ' o'/\nA A w' σ' o' r u/\Ext w σ o w' σ' o') E.defers .returning w':=by
  obtain⟨ms,S,hM⟩:=j.defers;rw[S];refine Bs ms w' hM j.sim λt q1 q3 q4=>?_;simp only[LeavesInM];refine⟨by simp,.inr ⟨λh=>by grind[FR,Fence.wide],.func g,K.toArray,g,K.toArray,rfl,by simp[invoke,Bu hg],λ_ _=>trivial,?_⟩⟩;have C:Aq A t σ' s2.o (c.map (dS s0.env)) K:=by have e1:Ext w1 σ1 s0.o w' σ' s2.o:=j.ext;grind[Aq.ext]
  have bao:=Aq.length _ _ C;refine CallsDIn.mono (aQK (A:=A) W aQY (R:=λe m=>∃u σ3,e= .returned u/\Q5 A m σ3 s3.o/\Ext t σ' s2.o m σ3 s3.o) (wpIn_mono (ih none .plain yf rfl Br _ F.body _ l s3 I v.ntmps Hg y Z [] A t σ' s2.o _ t σ' trivial (π _) (HP q1 C (by omega))) ?_)) ?_
  ·rintro e a3 m ⟨rfl,σ3,i⟩;obtain⟨ms3,aQ0,CJ⟩:=i.defers;rw[γ1] at aQ0;refine⟨by grind[Out.sq],t,σ3,s3.o,by simp_all,i.sim,λG k1 k2 k3=>?_⟩;have k:cm A v.ntmps [] t σ' s2.o s3 {a3 with defers:=[]} G σ3:=⟨k1,λs=>k3 _ _ (i.env s),i.size,⟨[],rfl,δN,by simp⟩,k2 i.ext⟩;obtain⟨u,hu,_⟩:=HQ k O (r:=.IL []) rfl;exact⟨u,hu,u,σ3,rfl,k1,k2 i.ext⟩
  ·rintro e u' m ⟨rfl,u,σ3,rfl,p1,p2⟩;show LeavesInM (FR none) 0 P fn E.tmps _ J (settle .returning) m;rw[show settle FrameMode.returning= .returning from rfl,<-γ1 J];have B:Ext w1 σ1 s0.o m σ3 s3.o:=(q3 j.ext).trans p2;refine Bs J m (xc.ext X B) p1 λG t1 t3 t4=>?_;simp only[LeavesInM,LeavesIn];have k:cm A fn.ntmps [] w σ o ⟨s2.env,s3.o⟩ {E with defers:=[]} G σ3:=⟨t1,λs=>t4 _ _ ((q4 _ _ (j.env s)).ext p2),j.size,⟨[],rfl,δN,by simp⟩,t3 (Y.trans B)⟩;obtain⟨u,hu,L⟩:=HQ k M Q;have hfin:=Pm k.sim k.ext L V;simp_all
 rcases D with rfl|rfl;·exact key
 ·exact key
theorem Pi {T:jy} (N:j7 P T) {n:Nat} (ih:yg P T n):oN P (oV T (exec T .plain n)):=by
 intro f e o m r I c;unfold oV at c;split at c
 next x hK=>injection c with c;subst c;exact N.K _ _ _ _ _ _ hK
 ·split at c;·cases c
  ·rename_i F J;obtain⟨fn,H,y,a,hg⟩:=N.fn f F J;split at c
   ·rename_i k;unfold AY at a;split at a;·cases a
    ·rename_i a0 j;split at a
     ·rename_i b rs i D;split at a;·cases a
      ·rename_i E;injection a with a;subst a;simp only at c k;have p:∀{t:AV} {u:St},finish m o.length t u.o=some (r,I)->m=false->I=[]:=λl ho=>by subst ho;unfold finish at l;grind
       unfold HF at i;split at i
       ·rename_i V S;injection i with i;subst i;have R:∀(x:Option (Out×St)),sD T (exec T .plain n) o.length V ⟨gK 0 e,o⟩=x->exec T .plain n o.length V ⟨gK 0 e,o⟩=x:=λx hx=>by unfold sD at hx;grind[Z_]
        have a1:∀(h:Out) (u:St),(h= .norm\/h= .ret)->sD T (exec T .plain n) o.length V ⟨gK 0 e,o⟩=some (h,u)->∀t,nv u rs=some t->finish m o.length t u.o=some (r,I)->
          gv P f=true/\j8 P f e o r I/\(m=false->I=[]):=by intro h u G Q t s l;exact⟨hg,λA w σ vs L U=>(callsIn_wide (n:=0)).1 (aQS ih (md:=.plain) (B:=yf) rfl Br y j S D E k G (R _ Q) s l trivial L U),p l⟩
        grind
       ·obtain⟨⟨ia,⟨g,q,d⟩,ib⟩,S,rfl⟩:=ε.1 i;simp only[sD] at c;cases W:qf (exec T .plain n o.length) ia ⟨gK 0 e,o⟩ with
        |none=>simp_all;|some v=>
        simp only[W] at c;cases h2:exec T .plain n v.o.length ib ⟨(d,.ud)::v.env,v.o⟩ with
        |none=>simp_all;|some x2=>
        obtain⟨h,Y⟩:=x2;simp only[h2] at c;cases Z:qe h with
        |false=>simp_all;|true=>
        simp only[Z,if_true] at c;unfold Ic at c;cases J:T.fn g with
        |none=>simp_all;|some O=>
        simp only[J] at c;by_cases M:(q.map (dS v.env)).length=O.params/\O.res.isEmpty=true
        ·rw[if_pos M] at c;cases X:exec T .plain n Y.o.length O.body ⟨gK 0 (q.map (dS v.env)),Y.o⟩ with
         |none=>simp_all;|some x3=>
         obtain⟨C,s3⟩:=x3;simp only[X] at c;cases z:qe C with
         |false=>simp_all;|true=>
         simp only[z,if_true] at c;split at c
         next t s=>exact⟨hg,λA w σ vs L U=>(callsIn_wide (n:=0)).1 (Z6 N ih y j S D E k (Pj Z) W h2 J M.1 (List.isEmpty_iff.1 M.2) X (Pj z) s c L U),p c⟩
         ·cases c
        simp_all
     ·cases a
   ·cases c
end
open Go.RowKit
section
variable {P:Program} {A:c_} {D:List Deferred} {w w':World} {σ σ':TN} {o o':a_}
theorem aQ1 {rnd:Option Nat} {Q:Exit->Act->World->Prop} {a:Act} {w:World} {c:Code} (h:c.wpIn (FR rnd) 0 P (Exit.noGoto Q) a w):(Code.scope c).wpIn (FR rnd) 0 P Q a w:=by
 intro b k n o p m;obtain⟨e,d,f,j,g⟩:=h b (.inScope c::k) n o p m;have s:step P (lone (b.atR a (.code (.scope c)::k)) n w)= .next (lone (b.atR a (.code c:: .inScope c::k)) n w):=step_lone_go (by simp[stepG,stepG.exec,Frame.atR]);have q:step P (lone (b.atR d (.inScope c::k)) n f)= .next (lone (b.atR d k) n f):=step_lone_go (by simp[stepG,stepG.exec,Frame.atR]);have i:=StepsIn.one (I:=Machine.fenced P (FR rnd)) (fenced_calm (fr:=b.atR a (.code (.scope c)::k)) p m rfl) s;cases e with
 |normal=>exact⟨.normal,d,f,j,(StepsIn.trans i (StepsIn.trans g (.one (fenced_calm (fr:=b.atR d (.inScope c::k)) p m rfl) q)))⟩;|exit u=>exact⟨.exit u,d,f,j,.of_steps i ⟨λr t=>g.1 r (by grind[exitTo]),λm t=>by obtain⟨x,z,v⟩:=g.2 m (by grind[exitTo]);grind⟩⟩;|goto l=>exact j.elim;|ret=>exact⟨_,d,f,j,.of_steps i g⟩;|panic y=>exact⟨_,d,f,j,.of_steps i g⟩;|outgrown=>exact⟨_,d,f,j,.of_steps i g⟩
def yd (rnd:Option Nat) (P:Program) (b:Code) (l:Nat) (Q:Exit->Act->World->Prop):Nat->Code->Act->World->Prop
 |0,_,_,_=>False
 |n+1,x,a,w=>x.wpIn (FR rnd) 0 P (λe d c=>match e with
   | .goto f=>f=l/\yd rnd P b l Q n b d c
   |e=>Q e d c) a w
theorem aQ2 {rnd:Option Nat} {Q:Exit->Act->World->Prop} {a:Act} {w:World} {c i:Code} {l:Nat} (S:findLabel c l=some i) {n:Nat} (h:yd rnd P i l Q n c a w):(Code.scope c).wpIn (FR rnd) 0 P Q a w:=by
 intro b k p A y t;have E:gotoIn l (.inScope c::k)=some (.code i:: .inScope c::k):=by grind[gotoIn]
 have B:∀n x a w,yd rnd P i l Q n x a w->∃e u v,Q e u v/\ArrivesIn (Machine.fenced P (FR rnd)) P (lone (b.atR a (.code x:: .inScope c::k)) p w) b k p e u v:=by
  intro n;induction n with
  |zero=>intro x a w h;exact h.elim;|succ n J=>
   intro x a w h;obtain⟨e,d,g,m,f⟩:=h b (.inScope c::k) p A y t;have G:step P (lone (b.atR d (.inScope c::k)) p g)= .next (lone (b.atR d k) p g):=step_lone_go (by simp[stepG,stepG.exec,Frame.atR]);cases e with
   |normal=>exact⟨.normal,d,g,m,StepsIn.trans f (.one (fenced_calm (fr:=b.atR d (.inScope c::k)) y t rfl) G)⟩;|exit K=>exact⟨.exit K,d,g,m,λD C=>f.1 D (by grind[exitTo]),λt C=>by obtain⟨M,O,N⟩:=f.2 t (by grind[exitTo]);grind⟩;|goto L=>
    obtain⟨rfl,H⟩:=m;obtain⟨q,r,s,o,j⟩:=J i d g H;exact⟨q,r,s,o,.of_steps (f.1 _ E) j⟩;|ret=>exact⟨_,d,g,m,f⟩;|panic R=>exact⟨_,d,g,m,f⟩;|outgrown=>exact⟨_,d,g,m,f⟩
 have F:step P (lone (b.atR a (.code (.scope c)::k)) p w)= .next (lone (b.atR a (.code c:: .inScope c::k)) p w):=step_lone_go (by simp[stepG,stepG.exec,Frame.atR]);have z:=StepsIn.one (I:=Machine.fenced P (FR rnd)) (fenced_calm (fr:=b.atR a (.code (.scope c)::k)) y t rfl) F;obtain⟨e,u,v,m,f⟩:=B n c a w h;exact⟨e,u,v,m,.of_steps z f⟩
theorem aQ3 {b:Code} {l c:Nat} {H:List RH} {x:IR} (h:A0 b=some l) (d:comp P c H b=some x):∃a,findLabel b l=some a/\comp P c H a=some x:=by unfold A0 at h;grind[findLabel,comp]
theorem Ph {T:jy} (hT:j7 P T):∀n,yg P T n/\(∀(rnd:Option Nat) (md:Md) (B:c_->World->TN->a_->Prop),ur P rnd B md->fc B->∀(lo:Nat) (b:IR) (st:St) (out:Out) (st':St),exec T md n lo (.loop b) st=some (out,st')->∀(q:Nat) (H:List RH) (f:Code),comp P q H f=some b->∀(D:List Deferred) (A:c_) (r:World) (d:TN) (m:a_) (a:Act) (w:World) (σ:TN),B A r d m->
   m.length<=lo->cm A q D r d m st a w σ->Code.roundsIn (FR rnd) 0 P f (λe v w'=>e=out.sq/\∃u,cm A q D r d m st' v w' u) n a w)/\∀(rnd:Option Nat) (md:Md) (B:c_->World->TN->a_->Prop),ur P rnd B md->fc B->∀(lo l:Nat) (b:IR) (st:St) (out:Out) (st':St),exec T md n lo (.turns (some l) b) st=some (out,st')->∀(q:Nat) (H:List RH) (f s:Code),comp P q H f=some b->comp P q H s=some b->∀(D:List Deferred) (A:c_) (r:World) (d:TN) (m:a_) (a:Act) (w:World) (σ:TN),B A r d m->
   m.length<=lo->cm A q D r d m st a w σ->yd rnd P s l (λe v w'=>e=out.sq/\∃u,cm A q D r d m st' v w' u) n f a w
 |0=>⟨λrnd md B _ _ lo c st out st' h=>by grind[exec],λrnd md B _ _ lo b st out st' h=>by grind[exec],λrnd md B _ _ lo l b st out st' h=>by grind[exec]⟩
 |n+1=>by
  obtain⟨I,a0,Z⟩:=Ph hT n;have M:∀(rnd:Option Nat) (md:Md) (B:c_->World->TN->a_->Prop),ur P rnd B md->fc B->∀(lo:Nat) (b:IR) (st:St) (out:Out) (st':St),exec T md (n+1) lo (.loop b) st=some (out,st')->∀(q:Nat) (H:List RH) (f:Code),comp P q H f=some b->∀(D:List Deferred) (A:c_) (r:World) (d:TN) (m:a_) (a:Act) (w:World) (σ:TN),B A r d m->
    m.length<=lo->cm A q D r d m st a w σ->Code.roundsIn (FR rnd) 0 P f (λe v w'=>e=out.sq/\∃u,cm A q D r d m st' v w' u) (n+1) a w:=by
   intro rnd md B C E lo b st out st' h q H f p D A r d m a w σ j i t;simp only[exec] at h;split at h
   next F Q=>have O:=I rnd md B C E lo b st .norm F Q q H f p _ A r d m a w σ j i t;rw[roundsIn_succ];refine wpIn_mono O ?_;rintro e v w' ⟨rfl,u,g⟩;obtain⟨N,L⟩:=g.trim (k:=st.o.length) t.len;exact a0 rnd md B C E lo b _ out st' h q H f p _ A r d m v w' N j i L
   ·rename_i K;have O:=I rnd md B C E lo b st out st' h q H f p _ A r d m a w σ j i t;rw[roundsIn_succ];refine wpIn_mono O ?_;rintro e v w' ⟨rfl,g⟩;cases out with
    |norm=>simp_all;|exit S=>exact⟨rfl,g⟩;|ret=>exact⟨rfl,g⟩;|goto l=>exact⟨rfl,g⟩
  have R:∀(rnd:Option Nat) (md:Md) (B:c_->World->TN->a_->Prop),ur P rnd B md->fc B->∀(lo l:Nat) (b:IR) (st:St) (out:Out) (st':St),exec T md (n+1) lo (.turns (some l) b) st=some (out,st')->∀(q:Nat) (H:List RH) (f s:Code),comp P q H f=some b->comp P q H s=some b->∀(D:List Deferred) (A:c_) (r:World) (d:TN) (m:a_) (a:Act) (w:World) (σ:TN),B A r d m->
    m.length<=lo->cm A q D r d m st a w σ->yd rnd P s l (λe v w'=>e=out.sq/\∃u,cm A q D r d m st' v w' u) (n+1) f a w:=by
   intro rnd md B C E lo l b st out st' h q H f s p hr D A r d m a w σ j i t;simp only[exec] at h;split at h
   ·rename_i l' F Q;split at h
    next U=>injection U with U;subst U;refine wpIn_mono (I rnd md B C E lo b st (.goto l) F Q q H f p _ A r d m a w σ j i t) ?_;rintro e v w' ⟨rfl,u,g⟩;obtain⟨N,L⟩:=g.trim (k:=st.o.length) t.len;exact⟨rfl,Z rnd md B C E lo l b _ out st' h q H s s hr hr _ A r d m v w' N j i L⟩
    ·cases h
   ·rename_i K;refine wpIn_mono (I rnd md B C E lo b st out st' h q H f p _ A r d m a w σ j i t) ?_;rintro e v w' ⟨rfl,g⟩;cases out with
    |norm=>exact⟨rfl,g⟩;|exit S=>exact⟨rfl,g⟩;|ret=>exact⟨rfl,g⟩;|goto l=>simp_all
  refine⟨λrnd md B C E lo c st out st' h q H f p D A r d m a w σ j i t=>?_,M,R⟩;cases f with
  |skip=>
   simp only[comp,γ] at p;subst p;simp only[exec,γ,ι] at h;obtain⟨rfl,rfl⟩:=h;exact wpIn_skip ⟨rfl,σ,t⟩;|scope b=>
   simp only[comp] at p;obtain⟨V,J,rfl⟩:=ε.1 p;cases U:A0 b with
   |some l=>
    grind[aQ3,aQ2];|none=>
    rw[U] at h;simp only[exec] at h;refine aQ1 ?_;split at h;·simp_all
    ·rename_i K;refine wpIn_mono (I rnd md B C E lo V st out st' h q H b J _ A r d m a w σ j i t) ?_;rintro e v w' ⟨rfl,g⟩;cases out with
     |norm=>exact⟨rfl,g⟩;|exit S=>exact⟨rfl,g⟩;|ret=>exact⟨rfl,g⟩;|goto l=>simp_all
  |goto l=>
   simp only[comp,γ] at p;subst p;simp only[exec,γ,ι] at h;obtain⟨rfl,rfl⟩:=h;exact wpIn_goto ⟨rfl,σ,t⟩;|label l=>
   simp only[comp,γ] at p;subst p;simp only[exec,γ,ι] at h;obtain⟨rfl,rfl⟩:=h;exact wpIn_label ⟨rfl,σ,t⟩;|region S a8 a3=>
   simp only[comp] at p;obtain⟨k,l,a4,a1,a7,a2,rfl,hw⟩:=aQP (Pi hT I) C E (A:=A) (lo:=lo) p;simp only[exec] at h;split at h
   next a5 h2=>simp only[γ,ι] at h;obtain⟨rfl,rfl⟩:=h;exact hw h2 j i t
   ·cases h;|seq x y=>
   simp only[comp] at p;split at p
   ·rename_i V W J X;injection p with p;subst p;simp only[exec] at h;split at h
    next F Q=>refine wpIn_seq (wpIn_mono (I rnd md B C E lo V st .norm F Q q H x J _ A r d m a w σ j i t) ?_);rintro e v w' ⟨rfl,u,g⟩;exact I rnd md B C E lo W F out st' h q H y X _ A r d m v w' u j i g
    ·rename_i K;refine wpIn_seq (wpIn_mono (I rnd md B C E lo V st out st' h q H x J _ A r d m a w σ j i t) ?_);rintro e v w' ⟨rfl,g⟩;cases out with
     |norm=>simp_all;|exit S=>exact⟨rfl,g⟩;|ret=>exact⟨rfl,g⟩;|goto l=>exact⟨rfl,g⟩
   ·cases p;|cond x y z=>
   simp only[comp] at p;split at p
   ·rename_i W z' X hz;injection p with p;subst p;by_cases hk:QZ H x=true
    ·rw[if_pos hk] at h;simp only[exec] at h;have J:=t.ev x;split at h
     next G=>rw[G] at J;exact wpIn_cond_true (f_ J) (I rnd md B C E lo W _ out st' h q H y X _ A r d m a w σ j i t)
     next G=>rw[G] at J;exact wpIn_cond_false (f_ J) (I rnd md B C E lo z' _ out st' h q H z hz _ A r d m a w σ j i t)
     ·cases h
    rw[if_neg hk] at h;simp only[exec] at h;have J:=t.ev x;split at h
    next G=>rw[G] at J;exact wpIn_cond_true (f_ J) (I rnd md B C E lo W _ out st' h q H y X _ A r d m a w σ j i (t.drop x))
    next G=>rw[G] at J;exact wpIn_cond_false (f_ J) (I rnd md B C E lo z' _ out st' h q H z hz _ A r d m a w σ j i (t.drop x))
    ·cases h
   ·cases p;|block S b=>
   simp only[comp] at p;obtain⟨b',O,rfl⟩:=ε.1 p;simp only[exec] at h;split at h
   next Y F Q=>refine wpIn_block (wpIn_mono (I rnd md B C E lo b' st (.exit Y) F Q q H b O _ A r d m a w σ j i t) ?_);rintro e v w' ⟨rfl,g⟩;simp only[Out.sq,Exit.inBlock];grind
   ·rename_i K;refine wpIn_block (wpIn_mono (I rnd md B C E lo b' st out st' h q H b O _ A r d m a w σ j i t) ?_);rintro e v w' ⟨rfl,g⟩;cases out with
    |norm=>exact⟨rfl,g⟩;|exit a6=>simp_all;|ret=>exact⟨rfl,g⟩;|goto l=>exact⟨rfl,g⟩
  |loop b=>
   simp only[comp] at p;obtain⟨b',O,rfl⟩:=ε.1 p;grind[wpIn_loop_rounds];|exit S=>
   simp only[comp,γ] at p;subst p;simp only[exec,γ,ι] at h;obtain⟨rfl,rfl⟩:=h;exact wpIn_exit ⟨rfl,σ,t⟩;|ret=>
   simp only[comp,γ] at p;subst p;simp only[exec,γ,ι] at h;obtain⟨rfl,rfl⟩:=h;exact wpIn_ret ⟨rfl,σ,t⟩;|_=>grind[comp]
theorem HO {T:jy} (a:j7 P T) (n:Nat):oN P (oV T (exec T .plain n)):=Pi a (Ph a n).1
end
def Ev (T:jy) (md:Nat->Md) (lo:Nat) (c:IR) (st:St) (r:Out×St):Prop:=∃N,∀m n,N<=m->N<=n->exec T (md m) n lo c st=some r
abbrev yc:Nat->Md:=λ_=> .plain
section
variable {T:jy} {md:Nat->Md} {lo:Nat} {st st1 st':St} {r:Out×St} {a b:IR} {out:Out}
theorem Ev.mk (N:Nat) (h:∀m n,N<=m->N<=n->exec T (md m) (n+1) lo a st=some r):Ev T md lo a st r:=
 ⟨N+1,λm n c b=>by
  match n,b with
  |n+1,b=>grind⟩
theorem Ev.skip:Ev T md lo .skip st (.norm,st):=.mk 0 λ_ _ _ _=>by simp only[exec]
theorem Ev.ret:Ev T md lo .ret st (.ret,st):=.mk 0 λ_ _ _ _=>by simp only[exec]
theorem Ev.exit {id:Nat}:Ev T md lo (.exit id) st (.exit id,st):=.mk 0 λ_ _ _ _=>by simp only[exec]
theorem Ev.seq (h:Ev T md lo a st (.norm,st1)) (k:Ev T md lo b st1 r):Ev T md lo (.seq a b) st r:=by obtain⟨N,h⟩:=h;obtain⟨M,k⟩:=k;exact .mk (N+M) λm n c d=>by simp only[exec,h m n (by omega) (by omega),k m n (by omega) (by omega)]
theorem Ev.aQ4 (h:Ev T md lo a st (out,st1)) (c:out≠ .norm):Ev T md lo (.seq a b) st (out,st1):=by obtain⟨N,h⟩:=h;exact .mk N λm n e d=>by simp_all[exec]
theorem Ev.aQ5 {x:Operand} (d:dS st.env x= .sc (.bool true)) (h:Ev T md lo a ⟨oC x st.env,st.o⟩ r):Ev T md lo (.cond x a b) st r:=by obtain⟨N,h⟩:=h;exact .mk N λm n c e=>by simp_all[exec]
theorem Ev.aQ6 {x:Operand} (d:dS st.env x= .sc (.bool false)) (h:Ev T md lo b ⟨oC x st.env,st.o⟩ r):Ev T md lo (.cond x a b) st r:=by obtain⟨N,h⟩:=h;exact .mk N λm n c e=>by simp_all[exec]
theorem Ev.nE {x:Operand} {q:Bool} (g:dS st.env x= .sc (.bool q)) (e:q=true->Ev T md lo a st r) (d:q=false->Ev T md lo b st r):Ev T md lo (.nE x a b) st r:=by
 cases q with
 |true=>
  obtain⟨N,h⟩:=e rfl;exact .mk N λm n c f=>by simp_all[exec];|false=>
  obtain⟨N,h⟩:=d rfl;exact .mk N λm n c f=>by simp_all[exec]
def Out.inBlock (id:Nat):Out->Out
 | .exit a=>if a=id then .norm else .exit a
 |o=>o
theorem Ev.block {id:Nat} (h:Ev T md lo a st (out,st1)):Ev T md lo (.block id a) st (out.inBlock id,st1):=by obtain⟨N,h⟩:=h;exact .mk N λm n b c=>by simp only[exec,h m n b c];cases out<;>grind[exit,Out.inBlock]
theorem Ev.aQ7 (h:Ev T md lo a st (.norm,st1)) (k:Ev T md lo (.loop a) (trim st.o.length st1) r):Ev T md lo (.loop a) st r:=by obtain⟨N,h⟩:=h;obtain⟨M,k⟩:=k;exact .mk (N+M) λm n b c=>by simp only[exec,h m n (by omega) (by omega)];grind
theorem Ev.aQ8 (h:Ev T md lo a st (out,st1)) (b:out≠ .norm):Ev T md lo (.loop a) st (out,st1):=by obtain⟨N,h⟩:=h;exact .mk N λm n d c=>by simp_all[exec]
theorem Ev.goto {l:Nat}:Ev T md lo (.goto l) st (.goto l,st):=.mk 0 λ_ _ _ _=>by simp only[exec]
theorem Ev.aQ9 {l:Nat} (h:Ev T md lo a st (.goto l,st1)) (k:Ev T md lo (.turns (some l) a) (trim st.o.length st1) r):Ev T md lo (.turns (some l) a) st r:=by obtain⟨N,h⟩:=h;obtain⟨M,k⟩:=k;exact .mk (N+M) λm n b c=>by simp only[exec,h m n (by omega) (by omega),if_true];grind
theorem Ev.Pg {l:Option Nat} (h:Ev T md lo a st (out,st1)) (c:∀b,out≠ .goto b):Ev T md lo (.turns l a) st (out,st1):=by obtain⟨N,h⟩:=h;exact .mk N λm n e d=>by simp_all[exec]
theorem Ev.region {id k:Nat} {b:Bool} {f:List cM} {d:List (Nat×Nat)} {a:List Nat} {e c:List jf}
  (h:∃N,∀g m,N<=m->HH (md m) b (oV T g) k f d (e.foldl (λs h=>jK lo h s) st)=some st'):
  Ev T md lo (.region id b k f d a e c) st (.norm,c.foldl (λs h=>jK lo h s) ⟨e_ a st'.env,st'.o⟩):=by obtain⟨N,h⟩:=h;exact .mk N λm n i _=>by simp_all[exec]
theorem Y7 {P:Program} (i:j7 P T) {f:FuncId} {F:eL} (l:T.fn f=some F) {args:List AV} {o:a_} {own:Bool} (g:T.K f args o own=none) (d:args.length=F.params)
  (h:Ev T yc o.length F.body ⟨gK 0 args,o⟩ (out,st')) (c:out= .norm\/out= .ret) {b v:AV} {o':a_} (k:nv st' F.res=some b) (a:finish own o.length b st'.o=some (v,o')):
  gv P f=true/\j8 P f args o v o'/\(own=false->o'=[]):=by
 obtain⟨N,h⟩:=h;refine HO i N f args o own v o' ?_;unfold oV;rw[g];have h:=h N N (π _) (π _);have j:sD T (exec T .plain N) o.length F.body ⟨gK 0 args,o⟩=some (out,st'):=by
  unfold sD;split
  next e=>rw[e] at h;cases N<;>simp[exec] at h
  ·exact h
 grind
theorem Y6 {P:Program} (A:j7 P T) {f:FuncId} {F:eL} (z:T.fn f=some F) {g:FuncId} {a:List Operand} {d:Nat} {w u:IR} (e:F.body= .dfr g a d w u) {args:List AV} {o:a_} {own:Bool} (E:T.K f args o own=none) (k:args.length=F.params)
  {s0 s2 s3:St} {b:Out} {G:eL} (t:∃N,∀n,N<=n->qf (exec T .plain n o.length) w ⟨gK 0 args,o⟩=some s0) (s:Ev T yc s0.o.length u ⟨(d,.ud)::s0.env,s0.o⟩ (out,s2)) (l:qe out=true)
  (D:T.fn g=some G) (q:(a.map (dS s0.env)).length=G.params) (p:G.res.isEmpty=true) (r:Ev T yc s2.o.length G.body ⟨gK 0 (a.map (dS s0.env)),s2.o⟩ (b,s3)) (c:qe b=true)
  {x v:AV} {o':a_} (C:nv ⟨s2.env,s3.o⟩ F.res=some x) (m:finish own o.length x s3.o=some (v,o')):
  gv P f=true/\j8 P f args o v o'/\(own=false->o'=[]):=by obtain⟨h,t⟩:=t;obtain⟨j,s⟩:=s;obtain⟨i,r⟩:=r;refine HO A (h+j+i) f args o own v o' ?_;unfold oV;rw[E];simp only[z,if_pos k,e,sD,t _ (show h<=h+j+i by omega)];have y:=s (h+j+i) (h+j+i) (by omega) (by omega);have B:=r (h+j+i) (h+j+i) (by omega) (by omega);simp only[y,l,if_true,Ic,D,if_pos (γk q p),B,c,C,m]
end
section
variable {call call':cz}
def mN (call b:cz):Prop:=∀f a o c r,call f a o c=some r->b f a o c=some r
theorem mN.oV (T:jy) (b:Nat->IR->St->Option (Out×St)):mN T.K (oV T b):=by intro f a o c r h;grind[Go.Vi.oV]
theorem mN.gn (h:mN call call') {f:FuncId} {args:List AV} {o:a_} {own:Bool} {r:AV×a_} (a:gn call f args o own=some r):gn call' f args o own=some r:=by
 unfold Go.Vi.gn at a ⊢;split at a
 ·rename_i b;rw[if_pos b];unfold ir at a ⊢;simp only at a ⊢;split at a
  ·split at a
   next e d c=>rw[h _ _ _ _ _ c];exact a
   ·cases a
  ·cases a
 ·rename_i b;rw[if_neg b];split at a;·cases a
  ·split at a
   next c=>rw[h _ _ _ _ _ c];exact a
   ·cases a
theorem mN.qA (h:mN call call') {op:bT} {ρ:Operand->AV} {o:a_} {qE:Nat} {r:AV×a_} (hc:qA call op ρ o qE=some r):qA call' op ρ o qE=some r:=by
 cases op with
 |call f args own=>exact h.gn hc;|ale f args own=>
  simp only[θB,Ie,Q4] at hc ⊢;split at hc;·exact h.gn hc
  ·cases hc;|aov a x args=>
  simp only[θB,Ie,Q3] at hc ⊢;split at hc
  ·split at hc;·exact h.gn hc
   ·cases hc
  ·cases hc;|_=>exact hc
theorem mN.gM (h:mN call call') {base:Nat} {i:cM} {st st':St} (a:gM call base i st=some st'):gM call' base i st=some st':=by
 unfold Go.Vi.gM at a ⊢;split at a;·cases a
 ·exact a
 ·split at a
  next b=>rw[h.qA b];exact a
  ·cases a
theorem mN.dP (h:mN call call') {b:bT} {ρ:Operand->AV} {o:a_} {qE:Nat} {r:AV×a_} (d:θB call b ρ o qE=some r):Go.Vi.dP call' b ρ o qE=Go.Vi.dP call b ρ o qE:=by
 unfold Go.Vi.dP;split
 next f a=>have c:Go.Vi.gn call f (a.map ρ) o true=some r:=d;have e:=h.gn c;simp_all[Go.Vi.gn]
 ·rfl
theorem mN.fN (h:mN call call') {base:Nat}:∀{l:List cM} {st st':St},fN call base l st=some st'->fN call' base l st=some st'/\lX call' base l st=lX call base l st
 |[],_,_,b=>⟨b,rfl⟩
 |i::l,st,st',b=>by
  simp only[Go.Vi.fN] at b ⊢;split at b
  ·rename_i g a;obtain⟨j,c⟩:=h.fN b;have f:=h.gM a;refine⟨by simp_all,?_⟩;simp only[lX,a,f,c];congr 1;split
   ·rename_i e;unfold Go.Vi.gM at a;rw[e] at a;simp only at a;split at a
    next d=>rw[h.dP d]
    ·cases a
   ·rfl
  ·cases b
theorem mN.oD (h:mN call call') {k:Nat} {b:List cM} {a:List (Nat×Nat)} {st st':St} (c:oD call k b a st=some st'):oD call' k b a st=some st':=by
 unfold Go.Vi.oD at c ⊢;simp only at c ⊢;split at c
 next e d=>obtain⟨f,g⟩:=h.fN d;simp_all
 ·cases c
end
def VW (T:jy) (md:Nat->Md) (lo:Nat) (c:IR) (st:St) (Q:Out->St->Prop):Prop:=∃b a,Ev T md lo c st (b,a)/\Q b a
def RQ (x:Option St) (Q:St->Prop):Prop:=match x with|some a=>Q a|none=>False
section
variable {T:jy} {md:Nat->Md} {lo:Nat} {st:St} {a b:IR} {Q Q':Out->St->Prop}
theorem VW.mono (h:VW T md lo a st Q) (d:∀o s,Q o s->Q' o s):VW T md lo a st Q':=by obtain⟨o,s,b,c⟩:=h;exact⟨o,s,b,d o s c⟩
theorem VW.skip (h:Q .norm st):VW T md lo .skip st Q:=⟨_,_,.skip,h⟩
theorem VW.ret (h:Q .ret st):VW T md lo .ret st Q:=⟨_,_,.ret,h⟩
theorem VW.exit {id:Nat} (h:Q (.exit id) st):VW T md lo (.exit id) st Q:=⟨_,_,.exit,h⟩
theorem VW.seq (h:VW T md lo a st λout s=>if out= .norm then VW T md lo b s Q else Q out s):VW T md lo (.seq a b) st Q:=by
 obtain⟨o,s,e,c⟩:=h;by_cases d:o= .norm
 ·subst d;rw[if_pos rfl] at c;obtain⟨i,j,g,f⟩:=c;exact⟨i,j,e.seq g,f⟩
 ·rw[if_neg d] at c;exact⟨o,s,e.aQ4 d,c⟩
theorem VW.cond {x:Operand} {q:Bool} (e:dS st.env x= .sc (.bool q)) (h:if q=true then VW T md lo a ⟨oC x st.env,st.o⟩ Q else VW T md lo b ⟨oC x st.env,st.o⟩ Q):VW T md lo (.cond x a b) st Q:=by
 cases q with
 |true=>obtain⟨o,s,c,d⟩:=(by simpa using h:VW T md lo a ⟨oC x st.env,st.o⟩ Q);exact⟨o,s,.aQ5 e c,d⟩;|false=>obtain⟨o,s,c,d⟩:=(by simpa using h:VW T md lo b ⟨oC x st.env,st.o⟩ Q);exact⟨o,s,.aQ6 e c,d⟩
theorem VW.nE {x:Operand} {q:Bool} (e:dS st.env x= .sc (.bool q)) (h:if q=true then VW T md lo a st Q else VW T md lo b st Q):VW T md lo (.nE x a b) st Q:=by
 cases q with
 |true=>obtain⟨o,s,c,d⟩:=(by simpa using h:VW T md lo a st Q);exact⟨o,s,.nE e (λ_=>c) (λh=>by cases h),d⟩;|false=>obtain⟨o,s,c,d⟩:=(by simpa using h:VW T md lo b st Q);exact⟨o,s,.nE e (λh=>by cases h) (λ_=>c),d⟩
theorem VW.block {id:Nat} (h:VW T md lo a st λout s=>Q (out.inBlock id) s):VW T md lo (.block id a) st Q:=by obtain⟨o,s,b,c⟩:=h;exact⟨_,_,b.block,c⟩
theorem VW.region {id k:Nat} {d:Bool} {e:List cM} {c:List (Nat×Nat)} {b:List Nat} {f a:List jf}
  (h:RQ (oD T.K k e c (f.foldl (λs h=>jK lo h s) st)) λst'=>Q .norm (a.foldl (λs h=>jK lo h s) ⟨e_ b st'.env,st'.o⟩)):
  VW T md lo (.region id d k e c b f a) st Q:=by
 unfold RQ at h;split at h
 next st' g=>refine⟨_,_,Ev.region ⟨0,λi m _=>?_⟩,h⟩;have:=(mN.oV T i).oD g;exact this
 simp_all
theorem VW.loop (h:VW T md lo a st λout s=>if out= .norm then VW T md lo (.loop a) (trim st.o.length s) Q else Q out s):VW T md lo (.loop a) st Q:=by
 obtain⟨o,s,d,b⟩:=h;by_cases c:o= .norm
 ·subst c;rw[if_pos rfl] at b;obtain⟨g,i,f,e⟩:=b;exact⟨g,i,d.aQ7 f,e⟩
 ·rw[if_neg c] at b;exact⟨o,s,d.aQ8 c,b⟩
theorem VW.Y5 (I:Nat->St->Prop) (b:∀m s,I m s->VW T md lo a s λout s'=>if out= .norm then ∃c,c<m/\I c (trim s.o.length s') else Q out s'):
  ∀(m:Nat) (s:St),I m s->VW T md lo (.loop a) s Q:=by
 intro m;induction m using Nat.strongRecOn with
 |_ m e=>
  intro s d;refine VW.loop ((b m s d).mono λo s' h=>?_);grind
theorem VW.goto {l:Nat} (h:Q (.goto l) st):VW T md lo (.goto l) st Q:=⟨_,_,.goto,h⟩
theorem VW.Y4 {l:Option Nat} (h:VW T md lo a st λout s=>(∀e,out≠ .goto e)/\Q out s):VW T md lo (.turns l a) st Q:=by obtain⟨o,s,b,c,d⟩:=h;exact⟨o,s,b.Pg c,d⟩
theorem VW.Y3 {l:Nat} (I:Nat->St->Prop) (b:∀m s,I m s->VW T md lo a s λout s'=>(out= .goto l/\∃c,c<m/\I c (trim s.o.length s'))\/((∀h,out≠ .goto h)/\Q out s')):
  ∀(m:Nat) (s:St),I m s->VW T md lo (.turns (some l) a) s Q:=by
 intro m;induction m using Nat.strongRecOn with
 |_ m i=>
  intro s k;obtain⟨o,s',f,j⟩:=b m s k;rcases j with⟨rfl,c,d,e⟩|⟨d,e⟩
  ·obtain⟨p,q,n,g⟩:=i c d _ e;exact⟨p,q,f.aQ9 n,g⟩
  ·exact⟨o,s',f.Pg d,e⟩
theorem Bq {P:Program} (k:j7 P T) {f:FuncId} {F:eL} (g:T.fn f=some F) {args:List AV} {o:a_} {own:Bool} (j:T.K f args o own=none) (b:args.length=F.params) {v:AV} {o':a_}
  (h:VW T yc o.length F.body ⟨gK 0 args,o⟩ λout st'=>(out= .norm\/out= .ret)/\(nv st' F.res).bind (λc=>finish own o.length c st'.o)=some (v,o')):
  gv P f=true/\j8 P f args o v o'/\(own=false->o'=[]):=by obtain⟨out,st',e,i,d⟩:=h;obtain⟨c,l,a⟩:=Option.bind_eq_some_iff.1 d;grind[Y7]
end
open Classical in
noncomputable def y6 {α:Type} (enc:α->List AV) (dom:α->Prop) (spec:α->AV) (args:List AV):Option AV:=
 if h:∃a,args=enc a/\dom a then some (spec (δU h)) else none
theorem Y2 {e:Type} {enc:e->List AV} {d:e->Prop} {c:e->AV} (f:∀a b,enc a=enc b->a=b) {a:e} (g:d a):y6 enc d c (enc a)=some (c a):=by have h:∃b,enc a=enc b/\d b:=⟨a,rfl,g⟩;unfold y6;grind
theorem Y1 {d:Type} {enc:d->List AV} {c:d->Prop} {b:d->AV} {args:List AV} {v:AV} (h:y6 enc c b args=some v):∃a,args=enc a/\c a/\v=b a:=by unfold y6 at h;split at h<;>grind
structure oz where
 (a0 a1 a2 a3 a4 a5:Int)
 deriving DecidableEq
structure bA where
 Gz:Int
 bx:oz
 value:Int
 deriving DecidableEq
structure uL where
 aIr:Int
 least:Int
 deriving DecidableEq
structure nu where
 Gz:Int
 bx:oz
 deriving DecidableEq
structure dU where
 members:Int
 left:oz
 bs:oz
 deriving DecidableEq
def oz.zero:oz:=⟨0,0,0,0,0,0⟩
inductive cj where
 |i (k:IntKind)
 |b
 |bun
 |bu
 |need
 |key
 |sit
 |zi (s:cj)
 |pair (s t:cj)
 deriving DecidableEq
@[reducible] def cj.T:cj->Type
 | .i _=>Int
 | .b=>Bool
 | .bun=>oz
 | .bu=>bA
 | .need=>uL
 | .key=>nu
 | .sit=>dU
 | .zi s=>List s.T
 | .pair s t=>s.T×t.T
def cj.bw:(s:cj)->s.T
 | .i _=>(0:Int)
 | .b=>false
 | .bun=> .zero
 | .bu=>⟨0,.zero,0⟩
 | .need=>⟨0,0⟩
 | .key=>⟨0,.zero⟩
 | .sit=>⟨0,.zero,.zero⟩
 | .zi _=>[]
 | .pair s t=>(s.bw,t.bw)
def cj.sz:cj->Nat
 | .i _=>1
 | .b=>1
 | .bun=>6
 | .bu=>8
 | .need=>2
 | .key=>7
 | .sit=>13
 | .zi _=>1
 | .pair s t=>s.sz+t.sz
@[reducible] def cj.dec:(s:cj)->DecidableEq s.T
 | .i _=>inferInstanceAs (DecidableEq Int)
 | .b=>inferInstanceAs (DecidableEq Bool)
 | .bun=>inferInstanceAs (DecidableEq oz)
 | .bu=>inferInstanceAs (DecidableEq bA)
 | .need=>inferInstanceAs (DecidableEq uL)
 | .key=>inferInstanceAs (DecidableEq nu)
 | .sit=>inferInstanceAs (DecidableEq dU)
 | .zi s=>@instDecidableEqList _ s.dec
 | .pair s t=>@instDecidableEqProd _ _ s.dec t.dec
instance (s:cj):DecidableEq s.T:=s.dec
def cj.wO:cj->Bool
 | .i _| .b=>true
 |_=>false
def cj.flat:cj->Bool
 | .zi _=>false
 | .pair s t=>s.flat&&t.flat
 |_=>true
def iv (n:Int):Value:=.int .i64 n
def oz.vs (b:oz):List Value:=[iv b.a0,iv b.a1,iv b.a2,iv b.a3,iv b.a4,iv b.a5]
def cD:(s:cj)->s.T->List Value
 | .i k,n=>[.int k n]
 | .b,b=>[.bool b]
 | .bun,x=>[iv x.a0,iv x.a1,iv x.a2,iv x.a3,iv x.a4,iv x.a5]
 | .bu,x=>[iv x.Gz,iv x.bx.a0,iv x.bx.a1,iv x.bx.a2,iv x.bx.a3,iv x.bx.a4,iv x.bx.a5,iv x.value]
 | .need,x=>[iv x.aIr,iv x.least]
 | .key,x=>[iv x.Gz,iv x.bx.a0,iv x.bx.a1,iv x.bx.a2,iv x.bx.a3,iv x.bx.a4,iv x.bx.a5]
 | .sit,x=>[iv x.members,iv x.left.a0,iv x.left.a1,iv x.left.a2,iv x.left.a3,iv x.left.a4,iv x.left.a5,iv x.bs.a0,iv x.bs.a1,iv x.bs.a2,iv x.bs.a3,iv x.bs.a4,iv x.bs.a5]
 | .zi _,_=>[.bool false]
 | .pair s t,x=>cD s x.1++cD t x.2
def dh:(s:cj)->s.T->List AV
 | .zi s,l=>[.sl l.length (l.flatMap (dh s))]
 | .pair s t,x=>dh s x.1++dh t x.2
 | .i k,x=>(cD (.i k) x).map .sc
 | .b,x=>(cD .b x).map .sc
 | .bun,x=>(cD .bun x).map .sc
 | .bu,x=>(cD .bu x).map .sc
 | .need,x=>(cD .need x).map .sc
 | .key,x=>(cD .key x).map .sc
 | .sit,x=>(cD .sit x).map .sc
inductive SV where
 |ud
 |sc (v:Value)
 |il (k:IntKind) (n:Int)
 |si (k:IntKind) (n:Int)
 |bl (b:Bool)
 |sb (b:Bool)
 |agg (cs:List SV)
 |IL (cs:List SV)
 |row (s:cj) (l:List s.T)
 |ep (s:cj) (l:List s.T) (i bu:Nat)
 |ptr (id bu tot:Nat)
 |ap (id base sz len tot i:Nat)
 |rp (id i bu n sz:Nat)
 |ow (id n sz:Nat)
 |os (id bu len n sz:Nat)
 |oc (id bu len n sz:Nat)
 |mp (id:Nat)
 |fn (f:Fn) (first captured:List SV)
 |ia (t:TypeId) (cs:List SV)
 |ite (c:Bool) (a b:SV)
inductive iZ where
 |dead
 |cells (cs:List SV) (e:TypeId) (sz:Nat) (pu:Bool)
 |row (s:cj) (l:List s.T) (e:TypeId) (pu:Bool)
 |map (sk sv:cj) (ka:Bool) (es:List (sk.T×sv.T)) (kt:List Nat×Bool) (pu:Bool)
 |aoC (s:cj) (l:List s.T) (e:TypeId) (t:List SV)
def bO (s:cj) (l:List s.T):List AV:=l.flatMap (dh s)
def nX (s:cj) (a:Bool) (x:s.T):Value:=if a then .agg (cD s x).toArray else(cD s x).headD (.bool false)
def lV (s:cj) (x:s.T):AV:=.sc ((cD s x).headD (.bool false))
mutual
def SV.g:SV->AV
 | .ud=> .ud
 | .sc v=> .sc v
 | .il k n=> .sc (.int k n)
 | .si k n=> .sc (.int k n)
 | .bl b=> .sc (.bool b)
 | .sb b=> .sc (.bool b)
 | .agg m=> .agg (gL m)
 | .IL m=> .IL (gL m)
 | .row s l=> .sl l.length (bO s l)
 | .ep s l i d=> .ep (bO s l) (i*s.sz+d)
 | .ptr h d o=> .ptr h d o
 | .ap h p e _ o i=> .ptr h (p+i*e) o
 | .rp h i d n e=> .ptr h (i*e+d) (n*e)
 | .ow h n e=> .os h 0 n (n*e)
 | .os h d j n e=> .os h (d*e) j (n*e)
 | .oc h d j n e=> .os h (d*e+(n*e+e)) j (n*e)
 | .mp h=> .mp h
 | .fn f a b=> .fn f (gL a) (gL b)
 | .ia t m=> .ifc t (gL m)
 | .ite _ _ _=> .ud
def gL:List SV->List AV
 |[]=>[]
 |c::m=>c.g::gL m
end
theorem fJ:∀(l:List SV),gL l=l.map SV.g
 |[]=>rfl
 |c::a=>by simp[gL,fJ a]
def iZ.g:iZ->OL
 | .dead=> .dead
 | .cells c e i a=> .cells (gL c) e i a
 | .row s l e a=> .cells (bO s l) e s.sz a
 | .aoC s l e t=> .cells (bO s l++gL t) e s.sz false
 | .map f b j h d a=> .map (h.map λp=>(nX f j p.1,lV b p.2)) d a
def cd:(s:cj)->s.T->List SV
 | .i k,n=>[.si k n]
 | .b,b=>[.sb b]
 | .bun,x=>[.si .i64 x.a0,.si .i64 x.a1,.si .i64 x.a2,.si .i64 x.a3,.si .i64 x.a4,.si .i64 x.a5]
 | .bu,x=>[.si .i64 x.Gz,.si .i64 x.bx.a0,.si .i64 x.bx.a1,.si .i64 x.bx.a2,.si .i64 x.bx.a3,.si .i64 x.bx.a4,.si .i64 x.bx.a5,.si .i64 x.value]
 | .need,x=>[.si .i64 x.aIr,.si .i64 x.least]
 | .key,x=>[.si .i64 x.Gz,.si .i64 x.bx.a0,.si .i64 x.bx.a1,.si .i64 x.bx.a2,.si .i64 x.bx.a3,.si .i64 x.bx.a4,.si .i64 x.bx.a5]
 | .sit,x=>[.si .i64 x.members,.si .i64 x.left.a0,.si .i64 x.left.a1,.si .i64 x.left.a2,.si .i64 x.left.a3,.si .i64 x.left.a4,.si .i64 x.left.a5,.si .i64 x.bs.a0,.si .i64 x.bs.a1,.si .i64 x.bs.a2,.si .i64 x.bs.a3,.si .i64 x.bs.a4,.si .i64 x.bs.a5]
 | .zi s,l=>[.row s l]
 | .pair s t,x=>cd s x.1++cd t x.2
def gX (s s':cj) (l:List s.T):Option (List s'.T):=if h:s=s' then some (h▸l) else none
def fZ (s:cj):SV->Option (List s.T)
 | .row a l=>match gX a s l with
  |some l=>some l
  |none=>match l with
   |[]=>some []
   |_=>none
 |_=>none
def SV.qn:SV->SV
 | .sc (.slice none 0 0)=> .row (.i .i64) []
 |v=>v
def SV.int:IntKind->SV->Option Int
 |k,.si a n=>if a=k then some n else none
 |k,.il a n=>if a=k then some n else none
 |_,_=>none
def SV.pQ:SV->Option Bool
 | .sb b=>some b
 | .bl b=>some b
 |_=>none
def ints:List SV->Option (List Int)
 |[]=>some []
 |c::a=>match c.int .i64,ints a with
  |some n,some l=>some (n::l)
  |_,_=>none
def jx:(s:cj)->List SV->Option s.T
 | .i k,[c]=>c.int k
 | .b,[c]=>c.pQ
 | .bun,d=>match ints d with
  |some [f,e,l,h,g,j]=>some (⟨f,e,l,h,g,j⟩:oz)
  |_=>none
 | .bu,d=>match ints d with
  |some [b,f,e,l,h,g,j,v]=>some (⟨b,⟨f,e,l,h,g,j⟩,v⟩:bA)
  |_=>none
 | .need,d=>match ints d with
  |some [a,b]=>some (⟨a,b⟩:uL)
  |_=>none
 | .key,d=>match ints d with
  |some [b,f,e,l,h,g,j]=>some (⟨b,⟨f,e,l,h,g,j⟩⟩:nu)
  |_=>none
 | .sit,d=>match ints d with
  |some [m,f,e,l,h,g,j,p,u,n,q,r,o]=>some (⟨m,⟨f,e,l,h,g,j⟩,⟨p,u,n,q,r,o⟩⟩:dU)
  |_=>none
 | .zi s,[c]=>fZ s c
 | .pair s t,d=>match jx s (d.take s.sz),jx t (d.drop s.sz) with
  |some x,some y=>some (x,y)
  |_,_=>none
 |_,_=>none
theorem HN:(s:cj)->0<s.sz
 | .i _| .b| .bun| .bu| .need| .key| .sit| .zi _=>by simp[cj.sz];| .pair s t=>by have:=HN s;grind[cj.sz]
theorem so:(s:cj)->(x:s.T)->(cd s x).map SV.g=dh s x
 | .zi s,l=>by grind[cd,dh,SV.g,bO];| .pair s t,x=>by simp only[cd,dh,γb,so s x.1,so t x.2];| .i _,x| .b,x| .bun,x| .bu,x| .need,x| .key,x| .sit,x=>by simp[cd,dh,cD,SV.g,iv]
theorem HM:(s:cj)->(x:s.T)->(cD s x).length=s.sz
 | .pair s t,x=>by simp only[cD,γF,HM s x.1,HM t x.2,cj.sz];| .zi _,x| .i _,x| .b,x| .bun,x| .bu,x| .need,x| .key,x| .sit,x=>rfl
theorem lj:(s:cj)->(x:s.T)->(dh s x).length=s.sz
 | .pair s t,x=>by simp only[dh,γF,lj s x.1,lj t x.2,cj.sz];| .zi _,x| .i _,x| .b,x| .bun,x| .bu,x| .need,x| .key,x| .sit,x=>rfl
theorem Bp:(s:cj)->s.flat=true->(x:s.T)->dh s x=(cD s x).map .sc
 | .pair s t,h,x=>by simp only[cj.flat,ζ] at h;simp only[dh,cD,γb,Bp s h.1,Bp t h.2];| .zi _,h,x=>by grind[cj.flat];| .i _,_,x| .b,_,x| .bun,_,x| .bu,_,x| .need,_,x| .key,_,x| .sit,_,x=>rfl
theorem iq {k:IntKind} {c:SV} {n:Int} (h:c.int k=some n):c.g= .sc (.int k n):=by cases c<;>simp only[SV.int,reduceCtorEq] at h<;>grind[SV.int,reduceCtorEq,SV.g]
theorem uq {c:SV} {b:Bool} (h:c.pQ=some b):c.g= .sc (.bool b):=by cases c<;>simp[SV.pQ] at h<;>subst h<;>simp[SV.g]
theorem Bo:∀{cs:List SV} {l:List Int},ints cs=some l->cs.map SV.g=l.map λn=> .sc (iv n)
 |[],l,h=>by grind[ints];|c::cs,l,h=>by
  simp only[ints] at h;split at h
  next n d a b=>simp at h;subst h;simp[iq a,Bo b,iv]
  ·cases h
theorem lU {s s':cj} {l:List s.T} {a:List s'.T} (h:gX s s' l=some a):s=s'/\HEq l a:=by unfold gX at h;grind
theorem Y0 {s:cj} {v:SV} {l:List s.T} (h:fZ s v=some l):v.g= .sl l.length (bO s l):=by cases v<;>simp only[fZ,reduceCtorEq] at h;grind[lU,SV.g,bO]
theorem ns:{s:cj}->{cs:List SV}->{x:s.T}->(h:jx s cs=some x)->cs.map SV.g=dh s x
 | .i k,[c],_,h=>by grind[jx,dh,cD,iq];| .b,[c],_,h=>by grind[jx,dh,cD,uq];| .zi s,[c],_,h=>by grind[jx,Y0,dh,bO];| .pair s t,cs,_,h=>by
  simp only[jx] at h;split at h
  next x y a d=>simp only[γ] at h;subst h;have f:=ns a;have e:=ns d;simp only[dh,<-f,<-e];rw[<-γb,γS]
  ·cases h;| .bun,cs,_,h| .bu,cs,_,h| .need,cs,_,h| .key,cs,_,h| .sit,cs,_,h=>by
  simp only[jx] at h;split at h
  next a=>simp at h;subst h;rw[Bo a];simp[dh,cD]
  ·cases h
theorem YZ (v:SV):v.qn.g=v.g.qn:=by
 unfold SV.qn;split;·simp[SV.g,AV.qn,bO]
 next h=>cases v<;>grind[SV.g,AV.qn,δa]
theorem Bn:(s:cj)->(x:s.T)->∀v∈cD s x,v.oneCell'=true
 | .pair s t,x=>by
  intro v a;simp only[cD] at a;rcases γo.1 a with h|h;·exact Bn s _ v h
  ·exact Bn t _ v h;| .zi _,x| .i _,x| .b,x| .bun,x| .bu,x| .need,x| .key,x| .sit,x=>by simp[cD,iv,Value.oneCell']
def Plain (a:AV):Prop:=(∃v,a= .sc v/\v.oneCell'=true/\v≠ .slice none 0 0)\/∃n b,a= .sl n b/\cJ b=true
theorem Bm:∀{l:List AV},(∀a∈l,a.pure=true)->cJ l=true
 |[],_=>by simp[cJ];|a::l,h=>by simp[cJ,h a (by simp),Bm (l:=l) λb c=>h b (by simp[c])]
theorem HL {k:Nat}:∀{l:List AV},(∀a∈l,a.VJ k=true)->dK k l=true
 |[],_=>by simp[dK];|a::l,h=>by simp[dK,h a (by simp),HL (l:=l) λb c=>h b (by simp[c])]
theorem Plain.pure {a:AV} (h:Plain a):a.pure=true:=by rcases h with⟨v,rfl,_⟩|⟨n,b,rfl,h⟩<;>grind[ζ7]
theorem Plain.VJ {a:AV} (h:Plain a) (k:Nat):a.VJ k=true:=by rcases h with⟨v,rfl,_⟩|⟨n,b,rfl,h⟩<;>simp[AV.VJ]
theorem Plain.one {a:AV} (h:Plain a):a.one=true:=by rcases h with⟨v,rfl,h,_⟩|⟨n,b,rfl,h⟩<;>grind[AV.one]
theorem yb:(s:cj)->(x:s.T)->∀a∈dh s x,Plain a
 | .pair s t,x=>by
  intro a c;simp only[dh] at c;rcases γo.1 c with h|h;·exact yb s _ a h
  ·exact yb t _ a h;| .zi s,l=>by intro a c;simp only[dh,List.mem_singleton] at c;subst c;refine .inr ⟨_,_,rfl,Bm λb e=>?_⟩;obtain⟨y,_,f⟩:=List.mem_flatMap.1 e;exact(yb s y b f).pure;| .i _,x| .b,x| .bun,x| .bu,x| .need,x| .key,x| .sit,x=>by intro a c;simp only[dh] at c;obtain⟨v,d,rfl⟩:=Δ.1 c;refine .inl ⟨v,rfl,Bn _ _ v d,?_⟩;rintro rfl;simp[cD,iv] at d
theorem mH {s:cj} {l:List s.T} {a:AV} (h:a∈bO s l):Plain a:=by grind[bO,yb]
theorem nV (s:cj) (l:List s.T):cJ (bO s l)=true:=Bm λa h=>(mH h).pure
theorem Pf (k:Nat) (s:cj) (l:List s.T):dK k (bO s l)=true:=HL λa h=>(mH h).VJ k
theorem Bl (s:cj) (l:List s.T):dV (bO s l)=true:=by simp only[dV,τ];intro a h;exact(mH h).one
theorem eh (s:cj) (l:List s.T):(bO s l).length=l.length*s.sz:=by induction l<;>grind[bO,lj]
theorem Pe (s:cj) (l a:List s.T):bO s (l++a)=bO s l++bO s a:=by simp[bO]
theorem HK (s:cj):∀(l:List s.T) (i:Nat),(bO s l).drop (i*s.sz)=bO s (l.drop i)
 |l,0=>by simp;|[],i+1=>by simp[bO];|x::l,i+1=>by have h:=HK s l i;simp only[bO,δ2,List.drop_succ_cons] at h ⊢;rw[ζT,Nat.add_comm,List.drop_append,lj,ζK,h,List.drop_of_length_le (by grind[lj])];simp
theorem Pd (s:cj):∀(l:List s.T) (i:Nat),(bO s l).take (i*s.sz)=bO s (l.take i)
 |l,0=>by simp[bO];|[],i+1=>by simp[bO];|x::l,i+1=>by have h:=Pd s l i;simp only[bO,δ2,δv] at h ⊢;rw[ζT,Nat.add_comm,List.take_append,lj,ζK,h,γr (by grind[lj])]
def bN {a:Type} (l:List a) (i:Nat) (d:a):a:=(l[i]?).getD d
theorem bR {a:Type} {l:List a} {i:Nat} {d:a} (h:i<l.length):bN l i d=l[i]:=by simp[bN,h]
theorem Pc {s:cj} {l:List s.T} {i:Nat} (h:i<l.length):(bO s l).drop (i*s.sz)=dh s (bN l i s.bw)++bO s (l.drop (i+1)):=by rw[HK,δi h,bR h];grind[bO]
abbrev eI:=List (Nat×SV)
abbrev VI:=List iZ
structure bF where
 env:eI
 o:VI
def jw:eI->Nat->SV
 |[],_=> .ud
 |p::r,s=>bif δu p.1 s then p.2 else jw r s
def uo (env:eI) (a:Option Nat) (v:SV):eI:=
 match a with
 |none=>env
 |some d=>(d,v)::env
def SV.nU:Value->SV
 | .int k n=> .il k n
 | .bool b=> .bl b
 |v=> .sc v
def SV.uk:Value->SV
 | .agg a=>if a.toList.all (·.oneCell') then .agg (a.toList.map .nU) else .ud
 | .tuple _=> .ud
 | .int k n=> .il k n
 | .bool b=> .bl b
 |v=> .sc v
def i_ (env:eI):Operand->SV
 | .tmp t=>jw env t
 | .const v=> .uk v
 | .global _=> .ud
 | .func f=> .fn (.func f) [] []
def SV.cellsOf:SV->List SV
 | .agg a=>a
 |v=>[v]
def SV.one:SV->Bool
 | .agg _| .IL _| .ud| .ite _ _ _=>false
 | .sc v=>v.oneCell'
 |_=>true
def wN (l:List SV):Bool:=l.all (·.one)
mutual
def SV.pure:SV->Bool
 | .sc _| .il .. | .si .. | .bl _| .sb _| .row .. =>true
 |_=>false
def ya:List SV->Bool
 |[]=>true
 |c::a=>c.pure&&ya a
end
mutual
def SV.VJ (k:Nat):SV->Bool
 | .ud| .sc _| .il .. | .si .. | .bl _| .sb _| .row .. | .ep .. =>true
 | .agg e| .IL e=>qV k e
 | .ptr d .. | .ap d .. | .rp d .. | .ow d .. | .os d .. | .oc d .. | .mp d=>decide (d<k)
 | .fn _ a b=>qV k a&&qV k b
 | .ia _ _| .ite _ _ _=>true
def qV (k:Nat):List SV->Bool
 |[]=>true
 |c::e=>c.VJ k&&qV k e
end
def iZ.VJ (k:Nat):iZ->Bool
 | .cells b _ _ a=>a||qV k b
 | .aoC _ _ _ t=>qV k t
 |_=>true
mutual
def SV.kD:SV->Bool
 | .ud| .sc _| .il .. | .si .. | .bl _| .sb _=>true
 | .agg a| .IL a=>Bk a
 |_=>false
def Bk:List SV->Bool
 |[]=>true
 |c::a=>c.kD&&Bk a
end
def TP (k:IntKind) (n:Int):Prop:=
 match k with
 | .i64=> -9223372036854775808<=n/\n<=9223372036854775807
 |k=>k.wrap n=n
def um (k:IntKind) (n:Int) (K:Int->Prop):Prop:=
 match k with
 | .u32=>K (n % 4294967296)
 | .u64=>K (n % 18446744073709551616)
 |k=>TP k n/\K n
structure Pb where
 pure:FuncId->List SV->(SV->Prop)->Prop
 own:FuncId->List SV->VI->(SV->VI->Prop)->Prop
structure iI where
 C:Pb
 ty:TypeId->Option cj
 mt:List Nat×Bool->Option (cj×cj)
 sp:Nat->Option (Nat×Nat×Nat):=λ_=>none
 it:FuncId->Option eL:=λ_=>none
 ro:FuncId->Bool:=λ_=>false
def qU (cs:List SV) (a:Nat):Option Nat->Option SV
 |none=>cs[a]?
 |some n=>if a+n<=cs.length then some (.agg ((cs.drop a).take n)) else none
def sn (cs:List SV) (a:Nat):List SV->List SV
 |[]=>cs
 |v::b=>sn (cs.set a v) (a+1) b
def iH {b:Type} (x:Option b) (K:b->Prop):Prop:=match x with|some a=>K a|none=>False
def tA {b:Type} (f:SV->(b->Prop)->Prop):List SV->(List b->Prop)->Prop
 |[],K=>K []
 |v::c,K=>f v λa=>tA f c λd=>K (a::d)
def p6 (o:VI):Nat->SV->(SV->Prop)->Prop
 |_,.ud,K=>K .ud
 |_,.sc v,K=>match v with
  | .slice none 0 0=>K (.row (.i .i64) [])
  |v=>K (.sc v)
 |_,.il k n,K=>K (.il k n)
 |_,.si k n,K=>K (.si k n)
 |_,.bl b,K=>K (.bl b)
 |_,.sb b,K=>K (.sb b)
 |_,.row s l,K=>K (.row s l)
 |_,.ia t cs,K=>K (.ia t cs)
 |d+1,.agg cs,K=>tA (p6 o d) cs λc=>K (.agg c)
 |d+1,.IL cs,K=>tA (p6 o d) cs λc=>K (.IL c)
 |d+1,.fn f a b,K=>tA (p6 o d) a λg=>tA (p6 o d) b λe=>K (.fn f g e)
 |_+1,.ow id n sz,K=>match o[id]? with
  |some (.row s l _ _)=>if sz=s.sz then n=l.length/\K (.row s l) else False
  |_=>False
 |_+1,.os id bu len n sz,K=>match o[id]? with
  |some (.row s l _ _)=>if sz=s.sz then n=l.length/\bu+len<=n/\K (.row s ((l.drop bu).take len)) else False
  |_=>False
 |_,_,_=>False
def lT (o:VI) (a:SV) (n:Option Nat) (K:SV->Prop):Prop:=
 match a with
 | .ptr h b d=>match o[h]? with
  |some (.cells c _ _ _)=>if c.length=d then iH (qU c b n) K else False
  |_=>False
 | .ap h e g f d i=>match o[h]? with
  |some (.cells c _ _ _)=>if c.length=d/\e+g*f<=d then i<f/\awz ((c.drop e).take (g*f)) g i n K else False
  |_=>False
 | .ep s l i b=>i<l.length/\iH (qU (cd s (bN l i s.bw)) b n) K
 | .rp h i b m g=>match o[h]? with
  |some (.row s l _ _)=>if g=s.sz then m=l.length/\i<l.length/\iH (qU (cd s (bN l i s.bw)) b n) K else False
  |_=>False
 |_=>False
where
 awz (c:List SV) (g i:Nat) (n:Option Nat) (K:SV->Prop):Prop:=
  match n,g with
  |none,1=>match ints c with
   |some l=>K (.si .i64 (bN l i 0))
   |none=>match rowsOff c with
    |some l=>K (.row .bu (bN l i []))
    |none=>False
  |_,_=>False;rowsOff:List SV->Option (List (List bA))
  |[]=>some []
  | .row .bu l::c=>(rowsOff c).map (l::·)
  |_=>none
def qz (qE:Nat) (x:iZ) (o:VI) (K:VI->Prop):Prop:=
 match o[qE]? with
 |some .dead=>K (o.set qE x)
 |_=>False
def qT (a:List (Nat×Nat×SV)) (cs:List SV):Option (List SV):=
 match a with
 |[]=>some cs
 |(b,n,v)::c=>
  if v.cellsOf.length=n/\wN v.cellsOf=true/\b+n<=cs.length then qT c (sn cs b v.cellsOf) else none
def sm (s:cj):Nat->List SV->Option (List s.T)
 |0,[]=>some []
 |n+1,a=>match jx s (a.take s.sz),sm s n (a.drop s.sz) with
  |some x,some l=>some (x::l)
  |_,_=>none
 |_,_=>none
def tv (o:VI) (s:cj) (x:SV) (K:List s.T->Prop):Prop:=
 match x with
 | .row a l=>iH (gX a s l) K
 | .ow d n e=>match o[d]? with
  |some (.row a l _ _)=>if e=a.sz then n=l.length/\iH (gX a s l) K else False
  |_=>False
 | .os d c b n e=>match o[d]? with
  |some (.row a l _ _)=>if e=a.sz then n=l.length/\c+b<=n/\iH (gX a s ((l.drop c).take b)) K else False
  |_=>False
 | .sc (.slice none 0 0)=>K []
 |_=>False
def Pa (o:VI):SV->Option (List SV)
 | .ow j 1 a=>match o[j]? with
  |some (.aoC s [] _ t)=>if s.sz=a then some t else none
  |_=>none
 |_=>none
def SV.O_:SV->Bool
 | .ow .. =>true
 |_=>false
def yP:SV->Option Int
 | .si _ n=>some n
 | .il _ n=>some n
 |_=>none
def isNil:SV->Bool
 | .sc (.slice none 0 0)=>true
 |_=>false
def fm (e:BinOp) (x y:SV) (K:SV->Prop):Prop:=
 match x,y with
 | .il k a,.il d b=>match gz e (.int k a) (.int d b) with
  |some (.int k n)=>K (.il k n)
  |some (.bool c)=>K (.bl c)
  |_=>False
 | .si k a,.si d b=>go k a d b
 | .il k a,.si d b=>go k a d b
 | .si k a,.il d b=>go k a d b
 | .sc (.string a),.sc (.string b)=>match e with
  | .eql=>K (.sb (a.toList==b.toList))
  | .neq=>K (.sb (!(a.toList==b.toList)))
  |_=>False
 |_,_=>False
where
 go (k:IntKind) (a:Int) (d:IntKind) (b:Int):Prop:=
  match e with
  | .shl=>0<=b/\b<=k.bits/\um k (a*2^b.toNat) λn=>K (.si k n)
  | .shr=>0<=b/\b<=k.bits/\K (.si k (a / 2^b.toNat))
  | .add=>if k=d then um k (a+b) λn=>K (.si k n) else False
  | .sub=>if k=d then um k (a - b) λn=>K (.si k n) else False
  | .mul=>if k=d then um k (a*b) λn=>K (.si k n) else False
  | .quo=>if k=d then b≠0/\TP k (a.tdiv b)/\K (.si k (a.tdiv b)) else False
  | .rem=>if k=d then b≠0/\K (.si k (a.tmod b)) else False
  | .and=>if k=d then K (.si k (arT k a b)) else False
  | .or=>if k=d then K (.si k (orI k a b)) else False
  | .xor=>if k=d then K (.si k (aBW k a b)) else False
  | .andNot=>if k=d then K (.si k (arU k a b)) else False
  | .eql=>if k=d then K (.sb (decide (a=b))) else False
  | .neq=>if k=d then K (.sb (decide (a≠b))) else False
  | .lss=>if k=d then K (.sb (decide (a<b))) else False
  | .leq=>if k=d then K (.sb (decide (a<=b))) else False
  | .gtr=>if k=d then K (.sb (decide (b<a))) else False
  | .geq=>if k=d then K (.sb (decide (b<=a))) else False;arT (k:IntKind) (a b:Int):Int:=ei k (γq k.bits a &&&γq k.bits b).toNat;orI (k:IntKind) (a b:Int):Int:=ei k (γq k.bits a |||γq k.bits b).toNat;aBW (k:IntKind) (a b:Int):Int:=ei k (γq k.bits a ^^^γq k.bits b).toNat;arU (k:IntKind) (a b:Int):Int:=ei k (γq k.bits a &&&~~~(γq k.bits b)).toNat
def HJ:SV->SV->Option Bool
 | .si k a,y=>(y.int k).map λb=>decide (a=b)
 | .il k a,y=>(y.int k).map λb=>decide (a=b)
 | .sb a,y=>y.pQ.map λb=>a==b
 | .bl a,y=>y.pQ.map λb=>a==b
 |_,_=>none
def sj:List SV->List SV->Option Bool
 |[],[]=>some true
 |x::d,y::c=>match HJ x y,sj d c with
  |some a,some b=>some (a&&b)
  |_,_=>none
 |_,_=>none
def kL:List Nat->List SV->Bool
 |[],[]=>true
 |0::a,.si _ _::b=>kL a b
 |0::a,.il _ _::b=>kL a b
 |1::a,.sb _::b=>kL a b
 |1::a,.bl _::b=>kL a b
 |_,_=>false
def jH (a sv:cj) (x:a.T) (es:List (a.T×sv.T)):Option sv.T:=(es.find? λp=>decide (p.1=x)).map (·.2)
def mG (a sv:cj) (x:a.T) (v:sv.T):List (a.T×sv.T)->List (a.T×sv.T)
 |[]=>[(x,v)]
 |p::r=>if p.1=x then(x,v)::r else p::mG a sv x v r
def tu (a:Bool):SV->Bool
 | .agg _=>a
 |_=>!a
def cj.keyed:cj->Bool
 | .key| .sit| .i _=>true
 |_=>false
def nr (d:Nat):Option SV->(Nat->Prop)->Prop
 |none,K=>K d
 |some (.il _ n),K=>if 0<=n then K n.toNat else False
 |some (.si _ n),K=>0<=n/\K n.toNat
 |_,_=>False
def sh:List Int->Nat->Int->Nat->List Int
 |[],_,_,_=>[]
 |a::l,i,v,j=>(if i=j then v else a)::sh l i v (j+1)
def zD:SV->(SV->Prop)->Prop
 | .ite c a b,K=>(c=true->zD a K)/\(c=false->zD b K)
 |v,K=>K v
def SV.G:SV->AV
 | .ite c a b=>match c with
  |true=>a.G
  |false=>b.G
 |v=>v.g
def dX (p:iI) (op:bT) (ρ:Operand->SV) (o:VI) (qE:Nat) (K:SV->VI->Prop):Prop:=
 match op with
 | .mov x=>K (ρ x) o
 | .pick c a b=>match ρ c with
  | .bl true=>K (ρ a) o
  | .bl false=>K (ρ b) o
  | .sb c=>(c=true->K (ρ a) o)/\(c=false->K (ρ b) o)
  |_=>False
 | .alloc z e pu=>qz qE (.cells (z.map .nU) e z.length pu) o λo'=>K (.ptr qE 0 z.length) o'
 | .box e x=>if wN (ρ x).cellsOf then qz qE (.cells (ρ x).cellsOf e (ρ x).cellsOf.length false) o λo'=>K (.ptr qE 0 (ρ x).cellsOf.length) o' else False
 | .build z parts=>iH (qT (parts.map λq=>(q.1,q.2.1,ρ q.2.2)) (z.map .nU)) λcs=>K (.agg cs) o
 | .aoU z len parts e sz=>match p.ty e,qT (parts.map λq=>(q.1,sz,ρ q.2)) ((δ len (z.map SV.nU)).flatten) with
  |some s,some cs=>if s.sz=sz then(if cs.any SV.O_ then(if cs.length=len*sz then qz qE (.aoC s [] e cs) o λo'=>K (.ow qE len sz) o' else False) else iH (sm s len (cs.map SV.qn)) λl=>qz qE (.row s l e true) o λo'=>K (.ow qE len sz) o') else False
  |_,_=>False
 | .arx z len parts e sz=>match p.ty e,qT (parts.map λq=>(q.1,sz,ρ q.2)) ((δ len (z.map SV.nU)).flatten) with
  |some s,some cs=>if s.sz=sz then iH (sm s len (cs.map SV.qn)) λl=>K (.row s l) o else False
  |_,_=>False
 | .load n a=>lT o (ρ a) n λv=>K v o
 | .store n a x=>match ρ a with
  | .ptr id bu u=>match o[id]? with
   |some (.cells cs e sz pu)=>
    if cs.length=u/\(ρ x).cellsOf.length=n/\wN (ρ x).cellsOf=true/\bu+n<=cs.length/\(pu=false\/ya (ρ x).cellsOf=true) then K .ud (o.set id (.cells (sn cs bu (if pu then(ρ x).cellsOf.map SV.qn else(ρ x).cellsOf)) e sz pu)) else False
   |_=>False
  | .rp id i bu m sz=>match o[id]? with
   |some (.row s l e pu)=>
    if sz=s.sz/\(ρ x).cellsOf.length=n/\bu+n<=s.sz then m=l.length/\i<l.length/\iH (jx s (sn (cd s (bN l i s.bw)) bu (if pu then(ρ x).cellsOf.map SV.qn else(ρ x).cellsOf))) λv=>K .ud (o.set id (.row s (l.set i v) e pu)) else False
   |_=>False
  | .ap id base sz len u i=>match o[id]? with
   |some (.cells cs e h pu)=>match n,sz,(ρ x).int .i64 with
    |1,1,some v=>match ints ((cs.drop base).take len) with
     |some l=>if cs.length=u/\base+len<=u then i<len/\K .ud (o.set id (.cells (sn cs base ((sh l i v 0).map (SV.si .i64))) e h pu)) else False
     |none=>False
    |_,_,_=>False
   |_=>False
  |_=>False
 | .asJ x=>match ρ x with
  | .ptr a b c=>K (.ptr a b c) o
  | .rp a b c d e=>K (.rp a b c d e) o
  | .ep s l i f=>K (.ep s l i f) o
  |_=>False
 | .bin op x y=>fm op (ρ x) (ρ y) λv=>K v o
 | .beq neg x y=>match(ρ x).pQ,(ρ y).pQ with
  |some a,some b=>K (.sb (if neg then !(a==b) else a==b)) o
  |_,_=>False
 | .eqf neg E x y=>match ρ x,ρ y with
  | .agg a,.agg b=>if kL E a&&kL E b then iH (sj a b) λr=>K (.sb (if neg then !r else r)) o else False
  |_,_=>False
 | .arz neg x y=>match ρ x,ρ y with
  | .ptr _ _ _,.sc (.pointer none)=>K (.bl neg) o
  | .sc (.pointer none),.sc (.pointer none)=>K (.bl !neg) o
  |_,_=>False
 | .un op x=>match op,ρ x with
  | .not,.sb b=>K (.sb !b) o
  | .not,.bl b=>K (.bl !b) o
  | .neg,.si k n=>TP k (-n)/\K (.si k (-n)) o
  | .neg,.il k n=>K (.il k (ei k (0 - n))) o
  |_,_=>False
 | .conv k x=>match ρ x with
  | .il _ n=>K (.il k (ei k n)) o
  | .si .i64 n=>TP k n/\K (.si k n) o
  | .si _ n=>um k n λm=>K (.si k m) o
  |_=>False
 | .asK bu x=>match ρ x with
  | .ptr id b u=>K (.ptr id (b+bu) u) o
  | .ep s l i b=>K (.ep s l i (b+bu)) o
  | .rp id i b m sz=>K (.rp id i (b+bu) m sz) o
  |_=>False
 | .field bu n x=>match ρ x with
  | .agg cs=>iH (qU cs bu n) λv=>K v o
  |_=>False
 | .asL len sz x i=>match ρ i with
  | .il _ n=>if 0<=n/\n<len then(match ρ x with
   | .ptr id b u=>K (.ptr id (b+n.toNat*sz) u) o
   | .ep s l j b=>K (.ep s l j (b+n.toNat*sz)) o
   | .rp id j b m h=>K (.rp id j (b+n.toNat*sz) m h) o
   |_=>False) else False
  | .si _ n=>match ρ x with
   | .ptr id b u=>0<=n/\n<len/\K (.ap id b sz len u n.toNat) o
   |_=>False
  |_=>False
 | .aqK sz x i=>match yP (ρ i) with
  |some n=>match ρ x with
   | .row s l=>if sz=s.sz then 0<=n/\n<l.length/\K (.ep s l n.toNat 0) o else False
   | .ow id m h=>match o[id]? with
    |some (.row s l _ _)=>if sz=s.sz/\h=s.sz then m=l.length/\0<=n/\n<l.length/\K (.rp id n.toNat 0 m sz) o else False
    |_=>False
   | .os id bu len m h=>match o[id]? with
    |some (.row s l _ _)=>if sz=s.sz/\h=s.sz then m=l.length/\0<=n/\n<len/\bu+len<=m/\K (.rp id (bu+n.toNat) 0 m sz) o else False
    |_=>False
   | .oc id bu len m h=>match o[id]? with
    |some (.row s l _ _)=>if sz=s.sz/\h=s.sz then m=l.length/\0<=n/\n<len/\bu+len<=m/\K (.rp id (bu+n.toNat) 0 m sz) o else False
    |_=>False
   |_=>False
  |none=>False
 | .idx len sz n x i=>match ρ i,ρ x with
  | .il _ k,.agg cs=>if 0<=k/\k<len then iH (qU cs (k.toNat*sz) n) λv=>K v o else False
  | .si _ k,.agg cs=>match n,sz,ints cs with
   |none,1,some l=>if l.length=len then 0<=k/\k<len/\K (.si .i64 (bN l k.toNat 0)) o else False
   |_,_,_=>False
  |_,_=>False
 | .apq z e sz bytes l c pu=>match yP (ρ l),yP (ρ c),p.ty e with
  |some n,some m,some s=>if s.sz=sz then iH (jx s (if pu then(z.map SV.nU).map SV.qn else z.map .nU)) λx=>0<=n/\n<=m/\m*bytes<=140737488355328/\m<=1000000000000/\
    qz qE (.row s (δ n.toNat x) e pu) o λo'=>K (.ow qE n.toNat sz) o' else False
  |_,_,_=>False
 | .slice sz x lo hi=>match ρ x with
  | .row s l=>if sz=s.sz then nr 0 (lo.map ρ) λa=>nr l.length (hi.map ρ) λb=>a<=b/\b<=l.length/\K (.row s ((l.drop a).take (b - a))) o else False
  | .ow id m h=>match o[id]? with
   |some (.row s l _ _)=>if sz=s.sz/\h=s.sz then m=l.length/\nr 0 (lo.map ρ) λa=>nr m (hi.map ρ) λb=>a<=b/\b<=m/\K (.os id a (b - a) m sz) o else False
   |_=>False
  | .os id bu len m h=>match o[id]? with
   |some (.row s l _ _)=>if sz=s.sz/\h=s.sz then m=l.length/\nr 0 (lo.map ρ) λa=>nr len (hi.map ρ) λb=>a<=b/\b<=len/\K (.os id (bu+a) (b - a) m sz) o else False
   |_=>False
  |_=>False
 | .slice3 sz x lo hi mx=>match ρ x with
  | .row s l=>if sz=s.sz then nr 0 (lo.map ρ) λa=>nr l.length (some (ρ hi)) λb=>nr l.length (some (ρ mx)) λm=>a<=b/\b<=m/\m<=l.length/\K (.row s ((l.drop a).take (b - a))) o else False
  | .ow id n h=>match o[id]? with
   |some (.row s l _ _)=>if sz=s.sz/\h=s.sz then n=l.length/\nr 0 (lo.map ρ) λa=>nr n (some (ρ hi)) λb=>nr n (some (ρ mx)) λm=>a<=b/\b<=m/\m<=n/\K (.oc id a (b - a) n sz) o else False
   |_=>False
  |_=>False
 | .append e sz bytes s x pu=>match p.ty e,Pa o (ρ x) with
  |some t,some I=>match ρ s,ρ x with
   | .ow id n h,.ow _ _ M=>match o[id]? with
    |some (.row t' l J F)=>if J=e/\t'.sz=sz/\h=sz/\M=sz/\t.sz=sz/\F=false/\I.length=sz/\wN I=true then n=l.length/\(l.length+1)*bytes<=140737488355328/\l.length+1<=1000000000000/\
      K (.ow id (l.length+1) sz) (o.set id (.aoC t' l e I)) else False
    |_=>False
   |_,_=>False
  |some t,none=>if t.sz=sz then tv o t (ρ x) λnew=>match ρ s with
    | .sc (.slice none 0 0)=>(new.length=0->K (.sc y5) o)/\(new.length≠0->new.length*bytes<=140737488355328/\new.length<=1000000000000/\qz qE (.row t new e pu) o λo'=>K (.ow qE new.length sz) o')
    | .ow id n h=>match o[id]? with
     |some (.row t' l J F)=>if J=e/\t'.sz=sz/\h=sz then n=l.length/\(l.length+new.length)*bytes<=140737488355328/\l.length+new.length<=1000000000000/\
       iH (gX t' t l) λN=>K (.ow id (N++new).length sz) (o.set id (.row t (N++new) e F)) else False
     |_=>False
    | .row t' l=>new.length=0/\K (.row t' l) o
    |_=>False
   else False
  |none,_=>False
 | .len k x=>match k,ρ x with
  |0,.row _ l=>K (.si .i64 l.length) o
  |0,.ow _ n _=>K (.si .i64 n) o
  |0,.os _ _ len _ _=>K (.si .i64 len) o
  |0,.oc _ _ len _ _=>K (.si .i64 len) o
  |0,.sc (.slice none 0 0)=>K (.il .i64 0) o
  |1,.sc (.string s)=>K (.si .i64 s.size) o
  |2,.mp id=>match o[id]? with
   |some (.map _ _ _ es _ _)=>K (.si .i64 es.length) o
   |_=>False
  |_,_=>False
 | .asN n=>K (.il .i64 n) o
 | .mm mx x y=>match ρ x,ρ y with
  | .il k a,.il Q b=>if k=Q then K (.il k (if mx then(if b>a then b else a) else(if b<a then b else a))) o else False
  | .si k a,y=>iH (y.int k) λb=>K (.si k (if mx then max a b else min a b)) o
  | .il k a,y=>iH (y.int k) λb=>K (.si k (if mx then max a b else min a b)) o
  |_,_=>False
 | .call f args own=>awD p f (args.map ρ) o own K
 | .ale f args own=>match ρ f with
  | .fn (.func g) first captured=>awD p g (first++args.map ρ++captured) o own K
  |_=>False
 | .extract x i=>match ρ x with
  | .IL vs=>iH vs[i]? λv=>K v o
  |_=>False
 | .arA f first captured=>K (.fn f (first.map ρ) (captured.map ρ)) o
 | .asO t x=>match ρ x with
  | .agg cs=>if ya cs=true then K (.ia t cs) o else False
  |_=>False
 | .aov L x args=>match ρ x with
  | .ia t cs=>match ui L t with
   |some f=>awD p f (.agg cs::args.map ρ) o false K
   |none=>False
  |_=>False
 | .apr D pu=>match p.mt D with
  |some (w,sv)=>qz qE (.map w sv D.2 [] D pu) o λo'=>K (.mp qE) o'
  |none=>False
 | .lookup z agg E A x k ok=>match ρ x with
  | .mp id=>match o[id]? with
   |some (.map w sv B es D _)=>
    if D=(E,A)/\B=A/\w.keyed=true/\sv.wO=true/\agg=false/\(A=false->w.sz=1)/\kL E (ρ k).cellsOf=true/\tu A (ρ k)=true then
     iH (jx w (ρ k).cellsOf) λH=>iH (jx sv (z.map .nU)) λO=>
      let r:=(cd sv ((jH w sv H es).getD O)).headD .ud;K (if ok then .IL [r,.sb (jH w sv H es).isSome] else r) o
    else False
   |_=>False
  |_=>False
 | .ap9 E A x k v=>match ρ x with
  | .mp id=>match o[id]? with
   |some (.map w sv B es D pu)=>
    if D=(E,A)/\B=A/\w.keyed=true/\sv.wO=true/\(A=false->w.sz=1)/\kL E (ρ k).cellsOf=true/\tu A (ρ k)=true/\tu false (ρ v)=true then
     iH (jx w (ρ k).cellsOf) λH=>iH (jx sv (ρ v).cellsOf) λP=>K .ud (o.set id (.map w sv B (mG w sv H P es) D pu))
    else False
   |_=>False
  |_=>False
 |_=>False
where
 awD (p:iI) (f:FuncId) (args:List SV) (o:VI) (own:Bool) (K:SV->VI->Prop):Prop:=
  if own then p.C.own f args o K
  else tA (p6 o 6) args λG=>p.C.pure f G λr=>if(args.flatMap (λv=>eK (o.map iZ.g) 6 v.g)).isEmpty||r.kD then K r o else False
def wM:eI->Nat->SV->eI
 |[],_,_=>[]
 |p::r,s,v=>bif δu p.1 s then(p.1,v)::r else p::wM r s v
def HI (env:eI) (g:Option (Option Nat×Bool)) (K:eI->Bool->Prop):Prop:=
 match g with
 |none=>K env true
 |some (none,_)=>False
 |some (some s,b)=>match jw env s with
  | .bl c=>K env (c==b)
  | .sb c=>(c=true->K (wM env s (.bl true)) (true==b))/\(c=false->K (wM env s (.bl false)) (false==b))
  | .IL []=>K env false
  |_=>False
def SV.bi (v w:SV):Prop:=v.g=w.g
def SV.qS (v:SV):SV->Prop
 | .ite c a b=>(c=true->v.qS a)/\(c=false->v.qS b)
 |w=>v.bi w
def iZ.bi (x y:iZ):Prop:=x.g=y.g
def jG:VI->VI->Prop
 |[],[]=>True
 |x::o,y::a=>x.bi y/\jG o a
 |_,_=>False
def JL (p:iI) (a:bT) (o o':VI) (K:Bool->Prop):Prop:=
 match a with
 | .call f _ true=>if p.ro f=true then jG o o'/\K true else K false
 |_=>K false
def wL (p:iI) (base:Nat):List cM->bF->Trace->(bF->Trace->Prop)->Prop
 |[],b,c,K=>K b c
 |i::r,b,c,K=>HI b.env i.guard λa w=>
   if w then dX p i.op (i_ a) b.o (base+i.qE) λv d=>JL p i.op b.o d λe=>wL p base r ⟨uo a i.dst v,d⟩ ((i.idx,dj i.op (λx=>(i_ a x).g) (b.o.map iZ.g) (base+i.qE),if e then[] else fD i.op (λx=>(i_ a x).g) (b.o.map iZ.g) (base+i.qE))::c) K
   else wL p base r ⟨uo a i.dst (.IL []),b.o⟩ ((i.idx,[],[])::c) K
def iZ.mg:iZ->Bool
 | .dead=>true
 |_=>false
def Ib (base:Nat) (o:VI):VI:=if(o.drop base).all (·.mg) then o.take base else o
def Ia (p:iI) (k:Nat) (c:List cM) (b:List (Nat×Nat)) (st:bF) (K:bF->Prop):Prop:=
 wL p st.o.length c ⟨st.env,st.o++δ k .dead⟩ [] λa d=>
  if b.isEmpty||sE (st.o.length+k) d.reverse b then K ⟨a.env,if k=0 then a.o else Ib st.o.length a.o⟩ else False
mutual
def ji (id:Nat) (s:cj) (l:List s.T):SV->(SV->Prop)->Prop
 | .ow j n m,K=>if j=id then(if m=s.sz then n=l.length/\K (.row s l) else False) else K (.ow j n m)
 | .os j h g n m,K=>if j=id then(if m=s.sz then n=l.length/\h+g<=n/\K (.row s ((l.drop h).take g)) else False) else K (.os j h g n m)
 | .oc j h g n m,K=>if j=id then False else K (.oc j h g n m)
 | .rp j i f n m,K=>if j=id then False else K (.rp j i f n m)
 | .ptr j f t,K=>if j=id then False else K (.ptr j f t)
 | .ap j a b c d e,K=>if j=id then False else K (.ap j a b c d e)
 | .agg o,K=>p5 id s l o λk=>K (.agg k)
 | .IL o,K=>p5 id s l o λk=>K (.IL k)
 | .fn f a b,K=>p5 id s l a λp=>p5 id s l b λr=>K (.fn f p r)
 |v,K=>K v
def p5 (id:Nat) (s:cj) (l:List s.T):List SV->(List SV->Prop)->Prop
 |[],K=>K []
 |c::o,K=>ji id s l c λq=>p5 id s l o λk=>K (q::k)
end
def yO (id:Nat) (s:cj) (l:List s.T):eI->(eI->Prop)->Prop
 |[],K=>K []
 |(k,v)::r,K=>ji id s l v λa=>yO id s l r λb=>K ((k,a)::b)
def np (id:Nat) (s:cj) (l:List s.T):Nat->VI->(VI->Prop)->Prop
 |_,[],K=>K []
 |i,x::r,K=>match x with
  | .cells g e h b=>if b then(if i=id then False else np id s l (i+1) r λa=>K (.cells g e h b::a)) else p5 id s l g λd=>np id s l (i+1) r λa=>K (.cells d e h b::a)
  | .aoC c f e t=>if i=id then False else p5 id s l t λj=>match sm c 1 j with
   |some m=>np id s l (i+1) r λa=>K (.row c (f++m) e false::a)
   |none=>False
  | .row c f e b=>if i=id then(if b then np id s l (i+1) r λa=>K (.dead::a) else False) else np id s l (i+1) r λa=>K (.row c f e b::a)
  |x=>np id s l (i+1) r λa=>K (x::a)
def sg (p:iI) (lo:Nat) (h:jf) (st:bF) (K:bF->Prop):Prop:=
 if h.own then match h.bu with
  |none=>if isNil (jw st.env h.slot) then(match p.ty h.e with
    |some s=>if s.sz=h.sz then K ⟨(h.slot,.ow st.o.length 0 h.sz)::st.env,st.o++[.row s [] h.e h.pu]⟩ else False
    |none=>False) else if h.sz=0 then(match jw st.env h.slot with
     | .ow a _ _=>match st.o[a]? with
      |some (.row s l e true)=>K ⟨st.env,st.o.set a (.row s l e false)⟩
      |_=>False
     |_=>False) else K st
  |some k=>match jw st.env h.slot with
   | .ptr a b c=>match st.o[a]? with
    |some (.cells d e i f)=>if(d[b+k]?).any isNil then(if d.length=c/\f=false then(match p.ty h.e with
      |some s=>if s.sz=h.sz then K ⟨st.env,(st.o.set a (.cells (d.set (b+k) (.ow st.o.length 0 h.sz)) e i f))++[.row s [] h.e h.pu]⟩ else False
      |none=>False) else False) else K st
    |_=>False
   |_=>False
 else match aIA h st with
  |some (some a)=>if Nat.ble lo a then(match st.o[a]? with
   |some (.row s l e f)=>yO a s l st.env λg=>np a s l 0 (if f then st.o else st.o.set a (.row s l e true)) λo=>K ⟨g,o⟩
   |_=>False) else K st
  |some none=>K st
  |none=>False
where
 auH:SV->Option Nat
  | .ow a .. =>some a
  | .os a .. =>some a
  | .oc a .. =>some a
  |_=>none;aIA (h:jf) (st:bF):Option (Option Nat):=
  match h.bu with
  |none=>some (auH (jw st.env h.slot))
  |some k=>match jw st.env h.slot with
   | .ptr a b c=>match st.o[a]? with
    |some (.cells d _ _ _)=>if d.length=c then(d[b+k]?).map auH else none
    |_=>none
   |_=>none
def yN (p:iI) (lo:Nat):List jf->bF->(bF->Prop)->Prop
 |[],st,K=>K st
 |h::a,st,K=>sg p lo h st λst'=>yN p lo a st' K
def H_ (a:List Nat) (env:eI):eI:=a.map λs=>(s,jw env s)
def eY (k:Nat) (st:bF):bF:=
 if st.o.length<=k then st
 else if(st.env.all λp=>p.2.VJ k)&&((st.o.take k).all λx=>x.VJ k) then⟨st.env,st.o.take k⟩ else st
def wK:eI->eI->Prop
 |[],[]=>True
 |(k,v)::e,(b,c)::a=>if k=b then v.bi c/\wK e a else False
 |_,_=>False
def yM (s t:bF):Prop:=wK s.env t.env/\jG s.o t.o
def iS (s:bF) (k:Nat):Int:=match jw s.env k with
 | .si _ n=>n
 | .il _ n=>n
 |_=>0
def bS (s:bF) (k:Nat):Bool:=match jw s.env k with
 | .sb b=>b
 | .bl b=>b
 |_=>false
def rS (t:cj) (s:bF) (k:Nat):List t.T:=match jw s.env k with
 | .row a l=>match gX a t l with
  |some l=>l
  |none=>[]
 |_=>[]
def oS (t:cj) (s:bF) (id:Nat):List t.T:=match s.o[id]? with
 |some (.row a l _ _)=>match gX a t l with
  |some l=>l
  |none=>[]
 |_=>[]
def H9 (k v b a:cj) (es:List (k.T×v.T)):Option (List (b.T×a.T)):=if h:k=b/\v=a then some (h.1▸h.2▸es) else none
def gY (v:Int) (n:Nat) (K:Nat->Prop):Nat->Prop
 |0=>0<=v/\v<n
 |j+1=>(v=(n - (j+1):Nat)->K (n - (j+1)))/\gY v n K j
def mP (x:Option (Nat×Nat×Nat)) (st:bF) (K:bF->Prop):Prop:=
 match x with
 |none=>K st
 |some (b,a,n)=>match st.o[b]? with
  |some (.cells c e f d)=>match c[a]? with
   |some (.si k v)=>gY v n (λj=>K ⟨st.env,st.o.set b (.cells (c.set a (.il k j)) e f d)⟩) n
   |_=>False
  |_=>False
inductive bH where
 |aob (n:Nat)
 |look
 |inv (X:Type) (shape:X->bF) (next:bF->X) (J:X->Prop) (m:X->Nat) (inner:X->Nat->bH)
def uM (_:bF):Prop:=False
def tt:IR->Nat
 | .region c .. =>c
 | .seq .skip b=>tt b
 | .seq a _=>tt a
 | .block _ b=>tt b
 | .loop b=>tt b
 | .turns _ b=>tt b
 |_=>0
def H8 (W:bF->(Out->bF->Prop)->Prop) (Q:Out->bF->Prop):Nat->bF->Prop
 |0,_=>False
 |n+1,b=>W b λa s=>match a with
  | .norm=>H8 W Q n (eY b.o.length s)
  |o=>Q o s
def yL (t:Nat):eI->eI
 |[]=>[]
 |p::r=>bif δu p.1 t then yL t r else p::yL t r
def wJ (x:Operand) (env:eI):eI:=
 match x with
 | .tmp t=>yL t env
 |_=>env
def Bj (env:eI) (x:Operand) (v:SV):eI:=
 match x with
 | .tmp t=>wM env t v
 |_=>env
def wpS (p:iI) (lo:Nat):IR->(Nat->bH)->bF->(Out->bF->Prop)->Prop
 | .skip,_,st,Q=>Q .norm st
 | .region id draw k ops f live pre post,_,st,Q=>mP (p.sp id) st λe=>yN p lo pre e λst1=>Ia p k ops f st1 λst2=>yN p lo post ⟨H_ live st2.env,st2.o⟩ λd=>Q .norm d
 | .seq a b,Λ,st,Q=>wpS p lo a Λ st λout s=>match out with
  | .norm=>wpS p lo b Λ s Q
  |o=>Q o s
 | .cond x a b,Λ,st,Q=>match i_ st.env x with
  | .bl true=>wpS p lo a Λ ⟨wJ x st.env,st.o⟩ Q
  | .bl false=>wpS p lo b Λ ⟨wJ x st.env,st.o⟩ Q
  | .sb c=>(c=true->wpS p lo a Λ ⟨wJ x st.env,st.o⟩ Q)/\(c=false->wpS p lo b Λ ⟨wJ x st.env,st.o⟩ Q)
  |_=>False
 | .block id b,Λ,st,Q=>wpS p lo b Λ st λout s=>Q (out.inBlock id) s
 | .loop b,Λ,st,Q=>match Λ (tt b) with
  | .aob n=>H8 (wpS p lo b Λ) Q n st
  | .look=>uM st
  | .inv _ shape next J m inner=>(yM st (shape (next st))/\J (next st))/\∀x,J x->wpS p lo b (inner x) (shape x) λout s=>match out with
   | .norm=>yM (eY (shape x).o.length s) (shape (next (eY (shape x).o.length s)))/\J (next (eY (shape x).o.length s))/\m (next (eY (shape x).o.length s))<m x
   |o=>Q o s
 | .exit id,_,st,Q=>Q (.exit id) st
 | .ret,_,st,Q=>Q .ret st
 | .goto l,_,st,Q=>Q (.goto l) st
 | .nE x a b,Λ,st,Q=>match i_ st.env x with
  | .bl true=>wpS p lo a Λ st Q
  | .bl false=>wpS p lo b Λ st Q
  | .sb c=>(c=true->wpS p lo a Λ ⟨Bj st.env x (.bl true),st.o⟩ Q)/\(c=false->wpS p lo b Λ ⟨Bj st.env x (.bl false),st.o⟩ Q)
  |_=>False
 | .turns none b,Λ,st,Q=>wpS p lo b Λ st λout s=>match out with
  | .goto _=>False
  |o=>Q o s
 | .turns (some l) b,Λ,st,Q=>match Λ (tt b) with
  | .inv _ shape next J m inner=>(yM st (shape (next st))/\J (next st))/\∀x,J x->wpS p lo b (inner x) (shape x) λout s=>match out with
   | .goto g=>g=l/\yM (eY (shape x).o.length s) (shape (next (eY (shape x).o.length s)))/\J (next (eY (shape x).o.length s))/\m (next (eY (shape x).o.length s))<m x
   |o=>Q o s
  |_=>uM st
 | .dfr ..,_,_,_=>False
def mE:Nat->List SV->eI
 |_,[]=>[]
 |i,v::a=>(i,v)::mE (i+1) a
def nn (st:bF) (a:List mc) (K:SV->Prop):Prop:=
 goK a λl=>match l with
  |[v]=>K v
  |l=>K (.IL l)
where
 goK:List mc->(List SV->Prop)->Prop
  |[],K=>K []
  |r::a,K=>aIB r λv=>goK a λl=>K (v::l);aIB (r:mc) (K:SV->Prop):Prop:=match r.cell with
  |none=>K (jw st.env r.slot)
  |some n=>lT st.o (jw st.env r.slot) n K
def rH (p:iI) (Λ:Nat->bH) (F:eL) (args:List SV) (Q:SV->Prop):Prop:=
 wpS p 0 F.body Λ ⟨mE 0 args,[]⟩ λa b=>match a with
  | .exit _=>False
  | .goto _=>False
  |_=>nn b F.res λr=>p6 b.o 6 r Q
def wI (p:iI) (Λ:Nat->bH) (F:eL) (args:List SV) (o:VI) (Q:SV->VI->Prop):Prop:=
 wpS p o.length F.body Λ ⟨mE 0 args,o⟩ λb a=>match b with
  | .exit _=>False
  | .goto _=>False
  |_=>nn a F.res λr=>if r.VJ o.length&&a.o.all (λx=>x.VJ o.length)&&decide (o.length<=a.o.length) then Q r (a.o.take o.length) else False
def gE (env:eI):jk:=env.map λp=>(p.1,p.2.g)
def gO (o:VI):a_:=o.map iZ.g
def bF.g (st:bF):St:=⟨gE st.env,gO st.o⟩
theorem nl:∀(env:eI) (s:Nat),cX (gE env) s=(jw env s).g
 |[],_=>by simp[gE,cX,jw,SV.g];|p::r,s=>by have:=nl r s;grind[gE,cX,jw]
theorem PS (env:eI) (d:Option Nat) (v:SV):gE (uo env d v)=nG (gE env) d v.g:=by cases d<;>simp[uo,nG,gE]
theorem PR (v:Value):(SV.nU v).g= .sc v:=by cases v<;>simp[SV.nU,SV.g]
theorem H7 (l:List Value):(l.map SV.nU).map SV.g=l.map .sc:=by simp[PR]
theorem yK (env:eI) (x:Operand):dS (gE env) x=(i_ env x).g:=by
 cases x with
 |tmp t=>simp[dS,i_,nl];|const v=>
  cases v<;>simp[dS,i_,AV.uk,SV.uk,SV.g];split<;>simp[SV.g,fJ,PR];|global g=>simp[dS,i_,SV.g];|func f=>simp[dS,i_,SV.g,gL]
theorem PQ (env:eI):dS (gE env)=λx=>(i_ env x).g:=funext λx=>yK env x
theorem Bi (v:SV):v.g.cellsOf=gL v.cellsOf:=by cases v<;>simp[SV.g,AV.cellsOf,SV.cellsOf,gL]
theorem YY (v:SV):v.g.one=v.one:=by cases v<;>simp[SV.g,AV.one,SV.one,Value.oneCell']
theorem Bh (l:List SV):dV (gL l)=wN l:=by induction l<;>grind[gL,dV,wN,YY]
theorem H6:∀(l:List SV),ya l=true->cJ (gL l)=true
 |[],_=>by simp[gL,cJ];|v::l,h=>by simp only[ya,ζ] at h;simp only[gL,cJ,H6 l h.2,δI];have a:=h.1;cases v<;>simp[SV.pure] at a<;>simp[SV.g,ζ7,nV]
mutual
theorem yJ (k:Nat):∀(v:SV),v.g.VJ k=v.VJ k
 | .agg c=>by simp only[SV.g,AV.VJ,SV.VJ];exact tq k c;| .IL c=>by simp only[SV.g,AV.VJ,SV.VJ];exact tq k c;| .fn _ a b=>by simp only[SV.g,AV.VJ,SV.VJ,tq k a,tq k b];| .ud| .sc _| .il .. | .si .. | .bl _| .sb _| .row .. | .ep .. | .ptr .. | .ap .. | .rp .. | .ow .. | .os .. | .oc .. | .mp _| .ia _ _| .ite _ _ _=>by simp[SV.g,AV.VJ,SV.VJ]
theorem tq (k:Nat):∀(l:List SV),dK k (gL l)=qV k l
 |[]=>by simp[gL,dK,qV];|v::l=>by simp only[gL,dK,qV,yJ k v,tq k l]
end
theorem YX (k:Nat) {b sv:cj} (c:Bool) (es:List (b.T×sv.T)):dK k ((es.map λp=>(nX b c p.1,lV sv p.2)).map (·.2))=true:=
 HL λa h=>by simp only[γO,Δ,Function.comp] at h;grind[lV,AV.VJ]
theorem Bg (k:Nat) (x:iZ):x.g.VJ k=x.VJ k:=by
 cases x with
 |dead=>rfl;|cells n e m d=>simp[iZ.g,OL.VJ,iZ.VJ,tq];|row s l e d=>simp[iZ.g,OL.VJ,iZ.VJ,Pf];|aoC s l e t=>
  have c:∀a b:List AV,dK k (a++b)=(dK k a&&dK k b):=λa b=>by induction a<;>grind[dK]
  grind[iZ.g,OL.VJ,iZ.VJ,Pf,tq];|map i o f j h d=>simp only[iZ.g,OL.VJ,iZ.VJ,YX,Bool.or_true]
mutual
theorem PP:∀(v:SV),v.kD=true->v.g.kD=true
 | .agg a,h=>by simp only[SV.kD] at h;simp only[SV.g,AV.kD];exact H5 a h;| .IL a,h=>by simp only[SV.kD] at h;simp only[SV.g,AV.kD];exact H5 a h;| .ud,_| .sc _,_| .il ..,_| .si ..,_| .bl _,_| .sb _,_=>by simp[SV.g,AV.kD];| .row ..,h| .ep ..,h| .ptr ..,h| .ap ..,h| .rp ..,h| .ow ..,h| .os ..,h| .oc ..,h| .mp _,h| .fn ..,h| .ia _ _,h| .ite _ _ _,h=>by simp[SV.kD] at h
theorem H5:∀(l:List SV),Bk l=true->uj (gL l)=true
 |[],_=>by simp[gL,uj];|v::l,h=>by simp only[Bk,ζ] at h;simp only[gL,uj,PP v h.1,H5 l h.2,δI]
end
theorem jv (l:List SV):(gL l).length=l.length:=by simp[fJ]
theorem sf (l:List SV) (i:Nat):(gL l)[i]?=(l[i]?).map SV.g:=by simp[fJ]
theorem sO (a b:List SV):gL (a++b)=gL a++gL b:=by simp[fJ]
theorem Bf {cs:List SV} {a:Nat} {n:Option Nat} {v:SV} (h:qU cs a n=some v):gf (gL cs) a n=some v.g:=by
 cases n with
 |none=>grind[qU,gf,sf];|some m=>
  simp only[qU] at h;split at h
  next b=>simp only[γ] at h;subst h;simp_all[gf,SV.g,fJ]
  ·cases h
theorem yI:∀(vs cs:List SV) (a:Nat),gL (sn cs a vs)=fO (gL cs) a (gL vs)
 |[],cs,a=>by simp[sn,gL,fO];|v::vs,cs,a=>by simp only[sn,gL,fO];rw[yI vs];simp_all[fJ]
theorem H4 (cs:List SV):gL (cs.map SV.qn)=(gL cs).map AV.qn:=by simp_all[fJ,YZ]
theorem GO (pu:Bool) (cs:List SV):gL (if pu then cs.map SV.qn else cs)=el pu (gL cs):=by grind[el,H4]
theorem YW {c:AV} (h:Plain c.qn):c.one=true/\c.pure=true:=by
 by_cases a:c.qn=c
 ·rw[a] at h;exact⟨h.one,h.pure⟩
 ·unfold AV.qn at a;split at a;·exact⟨rfl,rfl⟩
  simp_all
theorem GN {pu:Bool} {cs:List AV} (h:∀c∈el pu cs,Plain c):dV cs=true/\cJ cs=true:=by
 have b:∀c∈cs,c.one=true/\c.pure=true:=by
  intro c a;unfold el at h;split at h;·grind[YW]
  ·exact⟨(h c a).one,(h c a).pure⟩
 grind[dV,Bm]
theorem GM:∀(vs a b c:List AV) (d:Nat),d+vs.length<=b.length->fO (a++b++c) (a.length+d) vs=a++fO b d vs++c
 |[],a,b,c,d,_=>rfl
 |v::vs,a,b,c,d,h=>by
  simp only[γC] at h;simp only[fO];have e:(a++b++c).set (a.length+d) v=a++b.set d v++c:=by grind
  rw[e,ε7,GM vs a (b.set d v) c (d+1) (by simp;omega)]
theorem PO {s:cj} {l:List s.T} {i:Nat} (h:i<l.length):bO s l=bO s (l.take i)++dh s (bN l i s.bw)++bO s (l.drop (i+1)):=by
 have a:l=l.take i++l[i]::l.drop (i+1):=by simp
 grind[bR,bO]
theorem pK {a:Type} {l:List a} {i:Nat} (h:i<l.length):(l.take i).length=i:=by simp;omega
theorem YV {s:cj} {l:List s.T} {i a:Nat} {v:s.T} {vs:List AV} (h:i<l.length) (e:a+vs.length<=s.sz) (c:fO (dh s (bN l i s.bw)) a vs=dh s v):
  fO (bO s l) (i*s.sz+a) vs=bO s (l.set i v):=by
 have d:(bO s (l.take i)).length=i*s.sz:=by rw[eh,pK h]
 rw[PO h,<-d,GM _ _ _ _ _ (by grind[lj]),c];have b:i<(l.set i v).length:=by simpa using h
 rw[PO b,bR b];simp[List.take_set_of_le,List.drop_set_of_lt]
theorem PN {s:cj} {l:List s.T} {i b:Nat} {n:Option Nat} {v:SV} (h:i<l.length) (e:qU (cd s (bN l i s.bw)) b n=some v):gf (bO s l) (i*s.sz+b) n=some v.g:=by
 have a:=Bf e;rw[fJ,so] at a;have c:=Pc (s:=s) h;have d:(bO s l).length=i*s.sz+(s.sz+(bO s (l.drop (i+1))).length):=by have:=congrArg γf c;grind[lj]
 cases n with
 |none=>
  simp only[gf] at a ⊢;rw[<-List.getElem?_drop,c,List.getElem?_append_left]<;>grind;|some m=>
  simp only[gf,lj] at a;split at a
  next f=>simp only[gf];rw[if_pos (by omega),<-δj,c,List.drop_append_of_le_length (by grind[lj]),List.take_append_of_le_length (by grind[lj])];exact a
  ·cases a
theorem iW {b:Type} {x:Option b} {K:b->Prop} (h:iH x K):∃a,x=some a/\K a:=by
 cases x with
 |none=>exact h.elim;|some a=>exact⟨a,rfl,h⟩
theorem GL (o:VI) (i:Nat):(gO o)[i]?=(o[i]?).map iZ.g:=by simp[gO]
theorem nj (o:VI):(gO o).length=o.length:=by simp[gO]
theorem pq (o:VI) (i:Nat) (x:iZ):gO (o.set i x)=(gO o).set i x.g:=by simp[gO]
theorem fk {o:VI} {i:Nat} {x:iZ} (h:o[i]?=some x):(gO o)[i]?=some x.g:=by grind[GL]
theorem PM:∀{cs:List SV} {l:List Int},ints cs=some l->cs.length=l.length/\∀i,i<l.length->(cs[i]?).map SV.g=some (.sc (.int .i64 (bN l i 0))):=by
 intro cs l h;have a:=Bo h;have c:cs.length=l.length:=by simpa using congrArg γf a
 refine⟨c,λi b=>?_⟩;have:=congrArg (λl=>l[i]?) a;simp only[List.getElem?_map] at this;rw[this,μ b,bR b];rfl
theorem PL:∀{cs:List SV} {l:List (List bA)},lT.rowsOff cs=some l->cs.length=l.length/\∀i,i<l.length->cs[i]?=some (.row .bu (bN l i []))
 |[],l,h=>by grind[lT.rowsOff];|c::cs,l,h=>by
  cases c with
  |row s x=>
   cases s<;>simp only[lT.rowsOff,reduceCtorEq] at h;obtain⟨e,a,rfl⟩:=ε.1 h;obtain⟨b,d⟩:=PL a;grind[bN];|_=>simp[lT.rowsOff] at h
theorem YU {cs:List SV} {sz i:Nat} {n:Option Nat} {K:SV->Prop} (h:lT.awz cs sz i n K) (d:i*sz<cs.length):∃v,gf (gL cs) (i*sz) n=some v.g/\K v:=by
 unfold lT.awz at h;split at h
 ·rw[Nat.mul_one] at d ⊢;split at h
  next l a=>obtain⟨b,c⟩:=PM a;grind[gf,sf,SV.g]
  ·split at h
   next l a=>obtain⟨b,c⟩:=PL a;grind[gf,sf]
   simp_all
 simp_all
theorem YT {cs:List AV} {base a m:Nat} {v:AV} (h:gf ((cs.drop base).take m) a none=some v):gf cs (base+a) none=some v:=by grind[gf]
theorem PK {o:VI} {a:SV} {n:Option Nat} {K:SV->Prop} (h:lT o a n K):∃cs b v,behind (gO o) a.g=some (cs,b)/\gf cs b n=some v.g/\K v:=by
 cases a with
 |ptr x b t=>
  simp only[lT] at h;split at h
  ·rename_i cs e f z y;split at h
   next D=>obtain⟨v,k,j⟩:=iW h;exact⟨gL cs,b,v,by simp_all[behind,SV.g,fk,iZ.g,jv],Bf k,j⟩
   simp_all
  simp_all;|ap x c f d t i=>
  simp only[lT] at h;split at h
  ·rename_i cs e A z y;split at h
   ·rename_i D;obtain⟨C,p⟩:=h;have w:(i+1)*f<=d*f:=γP _ C;rw[ζT] at w;have F:f*d=d*f:=Nat.mul_comm ..;by_cases E:f=0;·grind[lT.awz]
    ·have q:i*f<((cs.drop c).take (f*d)).length:=by grind
     obtain⟨v,k,j⟩:=YU p q;have B:n=none:=by grind[lT.awz]
     subst B;refine⟨gL cs,c+i*f,v,by simp_all[behind,SV.g,fk,iZ.g,jv],?_,j⟩;have:gL ((cs.drop c).take (f*d))=((gL cs).drop c).take (f*d):=by simp[fJ]
     grind[YT]
   simp_all
  simp_all;|ep s l i b=>
  simp only[lT] at h;obtain⟨u,p⟩:=h;obtain⟨v,k,j⟩:=iW p;exact⟨bO s l,i*s.sz+b,v,by simp[behind,SV.g],PN u k,j⟩;|rp x i b m f=>
  simp only[lT] at h;split at h
  ·rename_i s l e z y;split at h
   next r=>subst r;obtain⟨w,u,p⟩:=h;obtain⟨v,k,j⟩:=iW p;exact⟨bO s l,i*s.sz+b,v,by simp_all[behind,SV.g,fk,iZ.g,eh],PN u k,j⟩
   simp_all
  simp_all;|_=>simp only[lT] at h
theorem PJ (o:a_) (d:Nat) {v:Value} (h:v≠ .slice none 0 0):freeze o d (.sc v)=some (.sc v):=by grind[freeze]
theorem PI (o:a_) (d:Nat) {a:AV} (h:Plain a):freeze o d a=some a:=by rcases h with⟨v,rfl,_,h⟩|⟨n,b,rfl,_⟩<;>grind[PJ,freeze]
theorem GK {f:AV->Option AV}:∀{l:List AV},(∀a∈l,f a=some a)->l.mapM f=some l
 |[],_=>by simp;|a::l,h=>by simp[εY,h a (by simp),GK (l:=l) λb c=>h b (by simp[c])]
theorem wH {o:a_} {d:Nat} {f:SV->(SV->Prop)->Prop} (c:∀v K,f v K->∃b:SV,freeze o d v.g=some b.g/\K b):
  ∀{l:List SV} {K:List SV->Prop},tA f l K->∃a,(gL l).mapM (freeze o d)=some (gL a)/\K a
 |[],K,h=>⟨[],by simp[gL],h⟩
 |v::l,K,h=>by obtain⟨b,j,i⟩:=c v _ h;obtain⟨a,k,e⟩:=wH c i;exact⟨b::a,by simp_all[gL],e⟩
theorem yH {s:cj} {l:List s.T} {b a:Nat}:((bO s l).drop (b*s.sz)).take (a*s.sz)=bO s ((l.drop b).take a):=by rw[HK,Pd]
theorem GJ {o:VI}:∀{d:Nat} {v:SV} {K:SV->Prop},p6 o d v K->∃y,freeze (gO o) d v.g=some y.g/\K y:=by
 intro d;induction d with
 |zero=>
  intro v K h;cases v<;>simp only[p6] at h<;>grind[p6,SV.g,freeze,bO,PJ];|succ d p=>
  intro v K h;cases v<;>simp only[p6] at h;case sc v=>
   grind[SV.g,freeze,bO]
  case agg B=>
   obtain⟨A,z,r⟩:=wH (λv K m=>p m) h;grind[SV.g,freeze]
  case IL B=>
   obtain⟨A,z,r⟩:=wH (λv K m=>p m) h;grind[SV.g,freeze]
  case fn f a b=>
   obtain⟨I,z,r⟩:=wH (λv K m=>p m) h;obtain⟨J,L,H⟩:=wH (λv K m=>p m) r;grind[SV.g,freeze]
  case ow E n F=>
   split at h
   ·rename_i s l e G w;split at h
    ·rename_i k;obtain⟨rfl,t⟩:=h;subst k;refine⟨_,?_,t⟩;have i:(bO s l).mapM (freeze (gO o) d)=some (bO s l):=GK λa C=>by grind[PI,mH]
     have D:Ξ (l.length*s.sz) (bO s l)=bO s l:=γr (by grind[eh]);simp_all[SV.g,freeze,fk,iZ.g,eh,nV]
    simp_all
   simp_all
  case os E j c n F=>
   split at h
   ·rename_i s l e G w;split at h
    ·rename_i k;obtain⟨rfl,u,t⟩:=h;subst k;refine⟨_,?_,t⟩;have i:(bO s ((l.drop j).take c)).mapM (freeze (gO o) d)=some (bO s ((l.drop j).take c)):=GK λa C=>by grind[PI,mH]
     have x:(j+c)*s.sz<=l.length*s.sz:=γP _ u;rw[δX] at x;have q:((l.drop j).take c).length=c:=by simp;omega
     simp only[SV.g,freeze,fk w,iZ.g,eh,x,and_self,if_true,yH,i,nV,q];simp_all
    simp_all
   simp_all
  all_goals grind[SV.g,freeze]
theorem Be {k:IntKind} {n:Int} (h:TP k n):ei k n=n:=by cases k<;>simp only[TP,ei] at h ⊢<;>simp_all
theorem mD {c:Prop} [Decidable c] {A:Prop} (h:if c then A else False):c/\A:=by simp_all
theorem bas {b:Int} {k:Nat} (h:b<=k):min b.toNat k=b.toNat:=by omega
theorem YR (a b:Int):(a==b)=decide (a=b):=rfl
theorem YQ (a b:Int):(a !=b)=decide (a≠b):=by grind
theorem yG {k:IntKind} {n:Int} {K:Int->Prop} (h:um k n K):K (ei k n):=by
 have a:k= .u32->ei k n=n % 4294967296:=by grind[sy,IntKind.wrap,IntKind.bits,IntKind.signed]
 have b:k= .u64->ei k n=n % 18446744073709551616:=by grind[sy,IntKind.wrap,IntKind.bits,IntKind.signed]
 unfold um at h;grind[Be]
theorem jm {e:BinOp} {k i:IntKind} {a b:Int} {K:SV->Prop} (h:fm.go e K k a i b):∃v f:_,gz e (.int k a) (.int i b)=some v/\f.g= .sc v/\K f:=by
 cases e<;>simp only[fm.go] at h;case shl=>
  obtain⟨j,m,l⟩:=h;refine⟨.int k (ei k (a*2^b.toNat)),.si k (ei k (a*2^b.toNat)),?_,rfl,yG l⟩;simp_all[gz,HB]
 case shr=>
  obtain⟨j,m,n⟩:=h;refine⟨.int k (a / 2^b.toNat),_,?_,rfl,n⟩;have:a.fdiv (2^b.toNat)=a / 2^b.toNat:=Int.fdiv_eq_ediv_of_nonneg _ (by grind);simp_all[gz,HB]
 case add=>
  obtain⟨d,c⟩:=mD h;subst d;exact⟨.int k (ei k (a+b)),.si k (ei k (a+b)),by simp only[gz,if_true,kO],rfl,yG c⟩
 case sub=>
  obtain⟨d,c⟩:=mD h;subst d;exact⟨.int k (ei k (a - b)),.si k (ei k (a - b)),by simp only[gz,if_true,kO],rfl,yG c⟩
 case mul=>
  obtain⟨d,c⟩:=mD h;subst d;exact⟨.int k (ei k (a*b)),.si k (ei k (a*b)),by simp only[gz,if_true,kO],rfl,yG c⟩
 case quo=>
  obtain⟨d,c⟩:=mD h;subst d;exact⟨.int k (a.tdiv b),_,by simp_all[gz,kO,Be],rfl,c.2.2⟩
 case rem=>
  obtain⟨d,c⟩:=mD h;subst d;exact⟨.int k (a.tmod b),_,by simp_all[gz,kO],rfl,c.2⟩
 case and=>
  obtain⟨d,c⟩:=mD h;subst d;exact⟨.int k (fm.arT k a b),_,by simp only[gz,if_true,kO,fm.arT],rfl,c⟩
 case or=>
  obtain⟨d,c⟩:=mD h;subst d;exact⟨.int k (fm.orI k a b),_,by simp only[gz,if_true,kO,fm.orI],rfl,c⟩
 case xor=>
  obtain⟨d,c⟩:=mD h;subst d;exact⟨.int k (fm.aBW k a b),_,by simp only[gz,if_true,kO,fm.aBW],rfl,c⟩
 case andNot=>
  obtain⟨d,c⟩:=mD h;subst d;exact⟨.int k (fm.arU k a b),_,by simp only[gz,if_true,kO,fm.arU],rfl,c⟩
 case eql=>
  obtain⟨d,c⟩:=mD h;subst d;exact⟨.bool (decide (a=b)),_,by simp_all[gz,kO,YR],rfl,c⟩
 case neq=>
  obtain⟨d,c⟩:=mD h;subst d;exact⟨.bool (decide (a≠b)),_,by simp_all[gz,kO,YQ],rfl,c⟩
 case lss=>
  obtain⟨d,c⟩:=mD h;subst d;exact⟨.bool (decide (a<b)),_,by simp only[gz,if_true,kO],rfl,c⟩
 case leq=>
  obtain⟨d,c⟩:=mD h;subst d;exact⟨.bool (decide (a<=b)),_,by simp only[gz,if_true,kO],rfl,c⟩
 case gtr=>
  obtain⟨d,c⟩:=mD h;subst d;exact⟨.bool (decide (b<a)),_,by simp only[gz,if_true,kO],rfl,c⟩
 case geq=>
  obtain⟨d,c⟩:=mD h;subst d;exact⟨.bool (decide (b<=a)),_,by simp only[gz,if_true,kO],rfl,c⟩
theorem YP {j:BinOp} {x y:SV} {K:SV->Prop} (h:fm j x y K):∃a b v c,x.g= .sc a/\y.g= .sc b/\gz j a b=some v/\c.g= .sc v/\K c:=by
 unfold fm at h;split at h
 ·split at h;·rename_i i;exact⟨_,_,_,_,rfl,rfl,i,rfl,h⟩
  next i=>exact⟨_,_,_,_,rfl,rfl,i,rfl,h⟩
  simp_all
 ·obtain⟨v,c,d,e,f⟩:=jm h;exact⟨_,_,v,c,rfl,rfl,d,e,f⟩
 ·obtain⟨v,c,d,e,f⟩:=jm h;exact⟨_,_,v,c,rfl,rfl,d,e,f⟩
 ·obtain⟨v,c,d,e,f⟩:=jm h;exact⟨_,_,v,c,rfl,rfl,d,e,f⟩
 ·split at h;·exact⟨_,_,_,_,rfl,rfl,by grind[gz],rfl,h⟩
  ·exact⟨_,_,_,_,rfl,rfl,by grind[gz],rfl,h⟩
  simp_all
 simp_all
theorem yF {k:IntKind} {a b:Int}:seq1 (.int k a) (.int k b)=some (decide (a=b)):=by simp only[seq1,if_true,γ];rfl
theorem YN {x y:SV} {r:Bool} (h:HJ x y=some r):∃a b,x.g= .sc a/\y.g= .sc b/\seq1 a b=some r:=by
 cases x<;>simp only[HJ,reduceCtorEq] at h;all_goals
  obtain⟨b,c,rfl⟩:=ε.1 h;first
   |exact⟨_,_,rfl,iq c,yF⟩;|exact⟨_,_,rfl,uq c,by simp[seq1]⟩
theorem PH:∀{x y:List SV} {r:Bool},sj x y=some r->∃a b,gL x=a.map .sc/\gL y=b.map .sc/\ft a b=some r
 |[],[],r,h=>by simp[sj] at h;subst h;exact⟨[],[],rfl,rfl,rfl⟩;|[],_::_,r,h=>by grind[sj];|_::_,[],r,h=>by grind[sj];|x::l,y::n,r,h=>by
  simp only[sj] at h;split at h
  next a b e f=>simp only[γ] at h;subst h;obtain⟨u,v,g,j,k⟩:=YN e;obtain⟨d,c,i,o,m⟩:=PH f;exact⟨u::d,v::c,by grind[gL],by grind[gL],by grind[ft]⟩
  ·cases h
theorem GI:∀(l:List Value),qw (l.map .sc)=some l
 |[]=>rfl
 |v::l=>by simp[qw,GI l]
theorem sN:∀{a b:List Value},a.map δe=b.map δe->a=b
 |[],[],_=>rfl
 |[],_::_,h=>by simp at h;|_::_,[],h=>by simp at h;|x::a,y::b,h=>by simp only[ν,χ,δa] at h;rw[h.1,sN h.2]
theorem tp:∀{e:List Nat} {x:List SV} {a:List Value},kL e x=true->gL x=a.map .sc->dQ e a=true
 |[],[],a,_,h=>by
  cases a with
  |nil=>rfl;|cons a i=>simp[gL] at h
 |[],_::_,a,h,_=>by grind[kL];|_::_,[],a,h,_=>by grind[kL];|k::e,x::j,a,h,f=>by
  cases a with
  |nil=>grind[gL];|cons a i=>
   simp only[gL,ν,χ] at f;obtain⟨c,d⟩:=f;match k,x,h with
   |0,.si k n,h=>simp only[kL] at h;simp only[SV.g,δa] at c;subst c;simpa[dQ] using tp h d;|0,.il k n,h=>simp only[kL] at h;simp only[SV.g,δa] at c;subst c;simpa[dQ] using tp h d;|1,.sb b,h=>simp only[kL] at h;simp only[SV.g,δa] at c;subst c;simpa[dQ] using tp h d;|1,.bl b,h=>simp only[kL] at h;simp only[SV.g,δa] at c;subst c;simpa[dQ] using tp h d
theorem YM {c:List Nat} {a b:List SV} {r:Bool} (d:(kL c a&&kL c b)=true) (h:sj a b=some r):uP c (gL a) (gL b)=some r:=by obtain⟨u,v,f,e,g⟩:=PH h;simp only[ζ] at d;rw[f,e];simp only[uP,GI,tp d.1 f,tp d.2 e,Bool.and_self,if_true,g]
theorem YL {s s':cj} {l:List s.T} {a:List s'.T} (h:gX s s' l=some a):s=s'/\HEq l a:=by unfold gX at h;grind
theorem yE {s s':cj} {l:List s.T} {a:List s'.T} (h:gX s s' l=some a):s'=s/\bO s' a=bO s l/\a.length=l.length:=by grind[YL]
theorem GH:∀{a:List (Nat×Nat×SV)} {cs b:List SV},qT a cs=some b->kM (a.map λq=>(q.1,q.2.1,q.2.2.g)) (gL cs)=some (gL b)
 |[],cs,b,h=>by simp[qT] at h;subst h;rfl;|(d,n,v)::r,cs,b,h=>by
  simp only[qT] at h;split at h
  next c=>obtain⟨i,f,e⟩:=c;have:=GH h;simp_all[kM,Bi,jv,Bh,yI]
  ·cases h
theorem Bd {s:cj}:∀{n:Nat} {cs:List SV} {l:List s.T},sm s n cs=some l->gL cs=bO s l/\l.length=n
 |0,[],l,h=>by grind[sm,gL,bO];|0,_::_,l,h=>by simp[sm] at h;|n+1,cs,l,h=>by
  simp only[sm] at h;split at h
  ·rename_i x f a b;simp only[γ] at h;subst h;obtain⟨d,c⟩:=Bd b;have e:=ns a;refine⟨?_,by simp[c]⟩;rw[fJ] at d ⊢;conv=>lhs;rw[<-γS s.sz cs]
   grind[bO]
  ·cases h
theorem YK {o:VI} {s:cj} {x:SV} {K:List s.T->Prop} (h:tv o s x K):∃l,me (gO o) s.sz x.g=some (l.length,bO s l)/\K l:=by
 cases x with
 |row q l=>
  simp only[tv] at h;obtain⟨f,c,w⟩:=iW h;obtain⟨rfl,p,m⟩:=yE c;exact⟨f,by simp_all[SV.g,me,eh],w⟩;|ow y n u=>
  simp only[tv] at h;split at h
  ·rename_i q l e A B;split at h
   next b=>subst b;obtain⟨rfl,k⟩:=h;obtain⟨f,c,i⟩:=iW k;obtain⟨rfl,p,m⟩:=yE c;refine⟨f,?_,i⟩;have t:Ξ (l.length*s.sz) (bO s l)=bO s l:=γr (by grind[eh]);simp_all[SV.g,me,fk,iZ.g,eh]
   simp_all
  simp_all;|os y d a n u=>
  simp only[tv] at h;split at h
  ·rename_i q l e A B;split at h
   ·rename_i b;subst b;obtain⟨rfl,j,k⟩:=h;obtain⟨f,c,i⟩:=iW k;obtain⟨rfl,p,m⟩:=yE c;refine⟨f,?_,i⟩;have r:(d+a)*s.sz<=l.length*s.sz:=γP _ j;rw[δX] at r;have z:((l.drop d).take a).length=a:=by simp;omega
    simp_all[SV.g,me,fk,iZ.g,eh,yH]
   simp_all
  simp_all;|sc v=>
  grind[tv,SV.g,me,bO];|_=>simp only[tv] at h
theorem GG {v:SV} {n:Int} (h:yP v=some n):gP v.g=some n:=by cases v<;>simp[yP] at h<;>simp[SV.g,gP,h]
theorem oL {d:Nat} {x:Option SV} {K:Nat->Prop} (h:nr d x K):∃n,gN d (x.map SV.g)=some n/\K n:=by unfold nr at h;grind[SV.g,gN]
theorem tn {qE:Nat} {x:iZ} {o:VI} {K:VI->Prop} (h:qz qE x o K):∃o',kn qE x.g (gO o)=some (gO o')/\K o':=by grind[qz,kn,fk,iZ.g,pq]
theorem YJ {s:cj} (e:s.keyed=true) (x y:s.T):ft (cD s x) (cD s y)=some (decide (x=y)):=by
 cases s<;>simp only[cj.keyed,reduceCtorEq] at e;·grind[cD,ft,yF]
 ·obtain⟨b,⟨m,o,a,l,c,i⟩⟩:=x;obtain⟨g,⟨k,h,j,n,d,f⟩⟩:=y;simp_all[cD,iv,ft,yF]
 ·obtain⟨b,⟨m,o,a,l,c,i⟩,⟨C,t,B,A,D,w⟩⟩:=x;obtain⟨g,⟨k,h,j,n,d,f⟩,⟨p,z,r,u,v,q⟩⟩:=y;simp only[cD,iv,ft,yF,γ,δI];grind
theorem YI {s:cj} {a:Bool} (d:s.keyed=true) (b:a=false->s.sz=1) (x y:s.T):lF (nX s a x) (nX s a y)=some (decide (x=y)):=by
 cases a with
 |true=>grind[nX,lF,YJ];|false=>
  have c:=b rfl;cases s<;>simp only[cj.keyed,reduceCtorEq] at d<;>simp only[cj.sz,reduceCtorEq,Nat.reduceEqDiff] at c;simp_all[nX,cD,lF,yF]
theorem GF {a sv:cj} {c:Bool} (f:a.keyed=true) (e:c=false->a.sz=1) (x:a.T):∀(es:List (a.T×sv.T)) (i:Nat),
  ∃r,lZ (nX a c x) (es.map λp=>(nX a c p.1,lV sv p.2)) i=some r/\(match jH a sv x es with|some v=>∃j,r=some (i+j,lV sv v)/\(∃p,es[j]?=some p/\p.1=x)/\(∀g<j,∀p,es[g]?=some p->p.1≠x)|none=>r=none/\∀p∈es,p.1≠x)
 |[],i=>⟨none,by simp[lZ],by simp[jH]⟩
 |p::es,i=>by
  simp only[ν,lZ,YI f e];by_cases b:p.1=x
  ·refine⟨some (i,lV sv p.2),by simp[b],?_⟩;simp only[jH,List.find?_cons,b,decide_true,ξ];exact⟨0,by simp,⟨p,by simp,b⟩,by simp⟩
  ·obtain⟨r,m,k⟩:=GF f e x es (i+1);have d:¬x=p.1:=λh=>b h.symm;refine⟨r,by simp[d,m],?_⟩;have n:jH a sv x (p::es)=jH a sv x es:=by grind[jH]
   rw[n];split at k
   ·obtain⟨j,w,⟨q,t,l⟩,o⟩:=k;refine⟨j+1,by grind,⟨q,by simp_all,l⟩,λg u s y=>?_⟩;grind
   grind
theorem GE {a sv:cj} {x:a.T} {v:sv.T}:∀{es:List (a.T×sv.T)},(∀p∈es,p.1≠x)->mG a sv x v es=es++[(x,v)]
 |[],_=>rfl
 |p::es,h=>by simp only[mG,if_neg (h p (by simp)),γL];rw[GE λq b=>h q (by simp[b])]
theorem PG {a sv:cj} {x:a.T} {v:sv.T}:∀{es:List (a.T×sv.T)} {j:Nat},(∃p,es[j]?=some p/\p.1=x)->(∀b<j,∀p,es[b]?=some p->p.1≠x)->mG a sv x v es=es.modify j λ_=>(x,v)
 |[],j,⟨p,h,_⟩,_=>by simp at h;|p::es,0,⟨q,h,d⟩,_=>by grind[mG];|p::es,j+1,⟨q,h,d⟩,c=>by have g:=c 0 (by omega) p (by simp);simp only[mG,if_neg g,ζU];rw[PG (j:=j) ⟨q,by simpa using h,d⟩ λb i e f=>c (b+1) (by omega) e (by simp_all)]
theorem PF {f:List Nat} {d:Bool} {s:cj} {v:SV} {x:s.T} (e:kL f v.cellsOf=true) (o:tu d v=true) (p:s.flat=true) (n:jx s v.cellsOf=some x):oY f d v.g=some (nX s d x):=by
 have k:=ns n;have c:gL v.cellsOf=(cD s x).map .sc:=by grind[fJ,Bp]
 have i:=tp e c;by_cases l:∃h,v= .agg h
 ·obtain⟨h,rfl⟩:=l;simp_all[SV.cellsOf,tu,SV.g,oY,GI,nX]
 ·have b:d=false:=by simp_all[tu]
  subst b;have j:v.cellsOf=[v]:=by cases v<;>first|rfl|simp_all
  rw[j] at c;simp only[gL] at c;cases m:cD s x with
  |nil=>simp_all;|cons a r=>
   rw[m] at c i;simp only[ν,χ] at c;simp_all[oY,nX]
theorem PE {s:cj} (h:s.wO=true) (x:s.T):((cd s x).headD .ud).g=lV s x:=by cases s<;>simp[cj.wO] at h<;>simp[cd,lV,cD,SV.g]
theorem PD {s:cj} (h:s.wO=true) (x:s.T):dh s x=[lV s x]:=by cases s<;>simp[cj.wO] at h<;>simp[dh,lV,cD]
theorem PC {s:cj} (h:s.keyed=true):s.flat=true:=by cases s<;>simp[cj.keyed] at h<;>rfl
structure oK (call:cz) (C:Pb):Prop where
 pure:∀f args K,C.pure f args K->∃r:SV,call f (gL args) [] false=some (r.g,[])/\K r
 own:∀f args o K,C.own f args o K->∃(r:SV) (o':VI),ir call f (gL args) (gO o)=some (r.g,gO o')/\K r o'
section
variable {call:cz} {p:iI} {o:VI} {qE:Nat} {K:SV->VI->Prop}
theorem GD (j:oK call p.C) {f:FuncId} {args:List SV} {own:Bool} (h:dX.awD p f args o own K):
  ∃(v:SV) (o':VI),gn call f (gL args) (gO o) own=some (v.g,gO o')/\K v o':=by
 unfold dX.awD at h;split at h
 next c=>obtain⟨r,o',k,e⟩:=j.own _ _ _ _ h;exact⟨r,o',by simp_all[gn],e⟩
 ·rename_i c;have c:own=false:=by simp_all
  subst c;obtain⟨b,k,e⟩:=wH (o:=gO o) (d:=6) (λv K m=>GJ m) h;obtain⟨r,l,i⟩:=j.pure _ _ _ e;split at i
  ·rename_i a;refine⟨r,o,?_,i⟩;simp only[gn,ω,if_false,k,l];rw[if_pos];simp only[δd] at a ⊢;rcases a with a|a
   ·left;rw[fJ,List.flatMap_map];exact a
   grind[PP]
  simp_all
theorem Bc (ρ:Operand->SV) (l:List Operand):gL (l.map ρ)=l.map λx=>(ρ x).g:=by simp[fJ]
theorem YH {a:List (Nat×Nat×Operand)} {ρ:Operand->SV} {cs b:List SV} (h:qT (a.map λq=>(q.1,q.2.1,ρ q.2.2)) cs=some b):
  kM (a.map λq=>(q.1,q.2.1,(ρ q.2.2).g)) (gL cs)=some (gL b):=by have:=GH h;grind[δg]
theorem GC {a:List (Nat×Operand)} {sz:Nat} {ρ:Operand->SV} {cs b:List SV} (h:qT (a.map λq=>(q.1,sz,ρ q.2)) cs=some b):
  kM (a.map λq=>(q.1,sz,(ρ q.2).g)) (gL cs)=some (gL b):=by have:=GH h;grind[δg]
theorem GB (z:List Value):gL (z.map SV.nU)=z.map .sc:=by rw[fJ,H7]
theorem GA (a:Nat) (z:List Value):gL ((δ a (z.map SV.nU)).flatten)=(δ a (z.map δe)).flatten:=by rw[fJ,List.map_flatten,List.map_replicate,H7]
theorem Zv (s:cj) (x:s.T) (n:Nat):(δ n (dh s x)).flatten=bO s (δ n x):=by induction n<;>grind[bO]
theorem yD {ρ:Operand->SV} (l:Option Operand):(l.map ρ).map SV.g=l.map λx=>(ρ x).g:=by cases l<;>rfl
theorem Zu:∀{l:List Int} {i:Nat} {v:Int},i<l.length->fO (l.map λn=>δe (iv n)) 0 ((l.set i v).map λn=>δe (iv n))=(l.map λn=>δe (iv n)).set i (.sc (iv v)):=by
 intro l i v e;have d:∀(b a c:List AV),b.length=c.length->fO (a++c) a.length b=a++b:=by
  intro b;induction b with
  |nil=>grind[fO];|cons w b f=>
   intro a c h;cases c with
   |nil=>simp at h;|cons y c=>
    simp only[γC,ζC] at h;simp only[fO];have:(a++y::c).set a.length w=(a++[w])++c:=by simp_all
    grind
 have:=d ((l.set i v).map λn=>δe (iv n)) [] (l.map λn=>δe (iv n)) (by simp);simp_all
theorem PB {b c:Type} (f:b->c) (x:b):∀(l:List b) (j:Nat),(l.modify j λ_=>x).map f=(l.map f).modify j λ_=>f x
 |[],j=>by simp;|a::l,0=>by simp_all;|a::l,j+1=>by simp only[ζU,ν,PB f x l j]
theorem Zt (v:Value):(δe v).cellsOf=[.sc v]:=rfl
theorem PA:∀{l:List Int} {i j:Nat} {v:Int},sh l (i+j) v j=l.set i v
 |[],_,_,_=>rfl
 |a::l,0,j,v=>by
  have h:∀(l:List Int) (c:Nat),j<c->sh l j v c=l:=by
   intro l;induction l with
   |nil=>intro _ _;rfl;|cons b l d=>intro c e;simp only[sh,if_neg (show ¬j=c by omega),d (c+1) (by omega)]
  simp_all[sh];|a::l,i+1,j,v=>by simp only[sh,if_neg (show ¬i+1+j=j by omega),List.set_cons_succ];rw[show i+1+j=i+(j+1) from by omega,PA]
theorem Zs {ρ:Operand->SV} {n:Nat} {a x:Operand} (h:dX p (.store n a x) ρ o qE K):
  ∃(v:SV) (o':VI),M9 call (.store n a x) (λx=>(ρ x).g) (gO o) qE=some (v.g,gO o')/\K v o':=by
 simp only[dX] at h;split at h
 ·rename_i W b L B;split at h
  ·rename_i f e Y E z;split at h
   next D=>obtain⟨V,C,X,P,R⟩:=D;refine⟨.ud,_,?_,h⟩;simp only[M9,B,SV.g,fk z,iZ.g,Bi,jv,Bh];rw[if_pos ⟨V,C,X,P,R.imp (λq=>q) λhp=>H6 _ hp⟩,pq,iZ.g,yI,GO]
   simp_all
  simp_all
 ·rename_i W i b m Y B;split at h
  ·rename_i s l e E z;split at h
   ·rename_i D;obtain⟨rfl,C,X⟩:=D;obtain⟨rfl,N,P⟩:=h;obtain⟨v,hv,R⟩:=iW P;refine⟨.ud,_,?_,R⟩;have T:=ns hv;rw[<-fJ,yI,GO] at T;have O:gL (cd s (bN l i s.bw))=dh s (bN l i s.bw):=by rw[fJ,so]
    rw[O] at T;have y:(i+1)*s.sz<=l.length*s.sz:=γP _ N;rw[ζT] at y;have u:∀c∈el E (gL (ρ x).cellsOf),Plain c:=by
     intro c hc;obtain⟨j,hj⟩:=List.mem_iff_getElem?.1 hc;have U:=(θ.1 hj).1;rw[sB,jv,C] at U;have a1:(fO (dh s (bN l i s.bw)) b (el E (gL (ρ x).cellsOf)))[b+j]?=some c:=by
      have a0:∀(r f:List AV) (b j:Nat) (c:AV),r[j]?=some c->b+r.length<=f.length->(fO f b r)[b+j]?=some c:=by
       intro r;induction r with
       |nil=>simp_all;|cons w r ih=>
        intro f b j c h M;simp only[γC] at M;simp only[fO];cases j with
        |zero=>
         simp only[List.getElem?_cons_zero,γ] at h;subst h;have F:∀(r f:List AV) (Z k:Nat),k<Z->(fO f Z r)[k]?=f[k]?:=by intro r;induction r<;>grind[fO]
         grind;|succ j=>
         have:=ih (f.set b w) (b+1) j c (by simpa using h) (by simp;omega);grind
      grind[sB,jv,lj]
     grind[yb]
    obtain⟨G,Q⟩:=GN u;simp only[M9,B,SV.g,fk z,iZ.g,Bi,eh,jv];rw[if_pos ⟨trivial,C,G,by omega,.inr Q⟩,pq,iZ.g,YV N (by grind[sB,jv]) T]
   simp_all
  simp_all
 ·rename_i W d Y t L i B;split at h
  ·rename_i f e a3 E z;split at h
   ·rename_i v H;split at h
    ·rename_i l M;split at h
     ·rename_i D;obtain⟨V,C⟩:=D;rw[show sh l i v 0=l.set i v from PA (j:=0)] at h;obtain⟨N,hk⟩:=h;refine⟨.ud,_,?_,hk⟩;have S:(ρ x).cellsOf=[ρ x]:=by cases hr:ρ x<;>rw[hr] at H<;>simp[SV.int] at H<;>rfl
      have I:(ρ x).g= .sc (iv v):=iq H;have A:=Bo M;have a2:l.length=t:=by have:=congrArg γf A;grind
      have J:gL f=gL (f.take d)++(l.map λn=>δe (iv n))++gL (f.drop (d+t)):=by rw[<-A,fJ,fJ,fJ,<-γb,<-γb];congr 1;rw[<-δj,List.append_assoc,γS,γS]
      have a4:(gL (f.take d)).length=d:=by grind[jv]
      have hq:el E [δe (iv v)]=[δe (iv v)]:=by unfold el;split<;>rfl
      simp only[M9,B,SV.g,fk z,iZ.g,I,Zt,List.length_singleton,jv,hq];rw[if_pos ⟨V,trivial,by simp[dV,AV.one,iv,Value.oneCell'],by omega,.inr (by simp[cJ,ζ7])⟩,pq,iZ.g,yI];congr 4;have e1:gL ((l.set i v).map (SV.si .i64))=(l.set i v).map λn=>δe (iv n):=by rw[fJ,γO];rfl
      rw[e1,J];have hm:=GM ((l.set i v).map λn=>δe (iv n)) (gL (f.take d)) (l.map λn=>δe (iv n)) (gL (f.drop (d+t))) 0 (by simp);grind[Zu,fO]
     simp_all
    simp_all
   simp_all
  simp_all
 simp_all
theorem Zr {ρ:Operand->SV} {e:TypeId} {sz b:Nat} {s x:Operand} {pu:Bool} (h:dX p (.append e sz b s x pu) ρ o qE K):
  ∃(v:SV) (o':VI),M9 call (.append e sz b s x pu) (λx=>(ρ x).g) (gO o) qE=some (v.g,gO o')/\K v o':=by
 simp only[dX] at h;split at h
 ·rename_i t tl U a;split at h
  ·rename_i S n G j m R k M;split at h
   ·rename_i O l Z I H;split at h
    ·rename_i F;obtain⟨rfl,q,rfl,rfl,rfl,rfl,i,w⟩:=F;obtain⟨rfl,C,y,B⟩:=h;rw[M] at a;unfold Pa at a;split at a
     ·rename_i j' W Y;injection Y with e1 N e3;subst e1 N e3;split at a
      ·rename_i s2 N L D;split at a
       ·rename_i A;injection a with a;subst a;refine⟨_,_,?_,B⟩;have E:me (gO o) t.sz (.os j 0 1 (1*t.sz))=some (1,gL L):=by simp only[me,fk D,iZ.g,bO,ζO,δR,jv];rw[if_pos ⟨by omega,A,by omega⟩,εx,γr (by grind[jv])]
        have J:dV (gL L)=true:=by grind[Bh]
        simp only[M9,k,M,SV.g,o6];simp only[E,J,θb,if_false,fk H,iZ.g,eh,q];rw[if_pos ⟨trivial,trivial,trivial,trivial,C,y,.inl trivial⟩,pq,iZ.g];grind
       ·cases a
      ·cases a
     ·cases a
    simp_all
   simp_all
  simp_all
 ·rename_i t U _;split at h
  ·rename_i z;subst z;obtain⟨f,V,d⟩:=YK h;have r:dV (bO t f)=true:=Bl _ _;have c:cJ (bO t f)=true:=nV _ _;simp only[M9,o6,V,r,θb,if_false];split at d
   ·rename_i k;rw[k];simp only[SV.g];by_cases u:f.length=0;·exact⟨_,_,by simp only[u,if_true];rfl,d.1 u⟩
    ·obtain⟨q,i,w⟩:=d.2 u;obtain⟨o',P,Q⟩:=tn w;refine⟨_,o',?_,Q⟩;simp only[iZ.g] at P;rw[if_neg u,if_pos ⟨q,i,.inr c⟩,P];rfl
   ·rename_i S n G k;split at d
    ·rename_i O l Z I H;split at d
     next F=>obtain⟨rfl,q,rfl⟩:=F;obtain⟨rfl,i,w,C⟩:=d;obtain⟨l',y,B⟩:=iW C;obtain⟨rfl,T,X⟩:=yE y;refine⟨_,_,?_,B⟩;rw[k];simp only[SV.g,fk H,iZ.g,eh];rw[if_pos ⟨trivial,trivial,trivial,trivial,i,w,.inr c⟩,pq,iZ.g,Pe,T];grind
     simp_all
    simp_all
   next O l k=>obtain⟨q,i⟩:=d;refine⟨_,_,?_,i⟩;simp_all[SV.g]
   simp_all
  simp_all
 simp_all
theorem Pz {mx:Bool} {a b:Int}:(if mx then(if b>a then b else a) else(if b<a then b else a))=if mx then max a b else min a b:=by grind
theorem Zq (hC:oK call p.C) {op:bT} {ρ:Operand->SV} (h:dX p op ρ o qE K):
  ∃(v:SV) (o':VI),M9 call op (λx=>(ρ x).g) (gO o) qE=some (v.g,gO o')/\K v o':=by
 cases op with
 |mov x=>exact⟨_,_,rfl,h⟩;|pick c a b=>
  simp only[dX] at h;split at h;·rename_i hc;exact⟨_,_,by simp only[M9,hc,SV.g],h⟩
  next hc=>exact⟨_,_,by simp only[M9,hc,SV.g],h⟩
  ·rename_i c hc;cases c with
   |true=>exact⟨_,_,by simp only[M9,hc,SV.g],h.1 rfl⟩;|false=>exact⟨_,_,by simp only[M9,hc,SV.g],h.2 rfl⟩
  ·exact h.elim;|alloc z e pu=>
  obtain⟨o',hm,hk⟩:=tn h;simp only[iZ.g,GB] at hm;exact⟨_,o',by simp only[M9,hm,ξ,SV.g],hk⟩;|box e x=>
  simp only[dX] at h;split at h
  next h1=>obtain⟨o',hm,hk⟩:=tn h;simp only[iZ.g] at hm;exact⟨_,o',by simp only[M9,Bi,Bh,h1,if_true,jv,hm,ξ,SV.g],hk⟩
  ·exact h.elim;|build z parts=>
  simp only[dX] at h;obtain⟨cs,h1,u⟩:=iW h;have:=YH h1;rw[GB] at this;exact⟨_,_,by simp only[M9,this,ξ,SV.g],u⟩;|aoU z len parts e sz=>
  simp only[dX] at h;split at h
  ·rename_i s cs hs H;split at h
   ·rename_i A;split at h
    ·rename_i Q;split at h
     ·rename_i hlen;obtain⟨o',hm,hk⟩:=tn h;simp only[iZ.g,bO,ζO,δR] at hm;have E:=GC H;rw[GA] at E;refine⟨_,o',?_,hk⟩;subst A;have T:cJ (gL cs)=false:=by
       clear H E hm hlen h;induction cs with
       |nil=>simp at Q;|cons c cs ih=>
        simp only[List.any_cons,δd] at Q;simp only[gL,cJ];rcases Q with hc|hc
        ·have h9:c.g.pure=false:=by
          cases c with
          |ow a b d=>simp[SV.g,ζ7];|_=>simp[SV.O_] at hc
         rw[h9,Bool.false_and]
        ·have ih2:=ih hc;rw[ih2,Bool.and_false]
      simp only[M9,E,T,el,ω,if_false,hm,ξ,SV.g]
     ·exact h.elim
    obtain⟨l,h1,u⟩:=iW h;obtain⟨B,D⟩:=Bd h1;obtain⟨o',hm,hk⟩:=tn u;simp only[iZ.g] at hm;have E:=GC H;rw[GA] at E;refine⟨_,o',?_,hk⟩;subst A;rw[H4] at B;have T:cJ (gL cs)=true:=(GN (pu:=true) (cs:=gL cs) λc hc=>mH (s:=s) (l:=l) (by rw[<-B];exact hc)).2;have hq:el true (gL cs)=bO s l:=B;simp only[M9,E,T,hq,hm,ξ,SV.g]
   ·exact h.elim
  ·exact h.elim;|arx z len parts e sz=>
  simp only[dX] at h;split at h
  ·rename_i s cs hs H;split at h
   next A=>obtain⟨l,h1,u⟩:=iW h;obtain⟨B,D⟩:=Bd h1;have E:=GC H;rw[GA] at E;rw[H4] at B;have T:cJ (gL cs)=true:=(GN (pu:=true) (cs:=gL cs) λc hc=>mH (s:=s) (l:=l) (by rw[<-B];exact hc)).2;have hq:el true (gL cs)=bO s l:=B;exact⟨_,_,by simp only[M9,E,T,hq,if_true,SV.g,D],u⟩
   ·exact h.elim
  ·exact h.elim;|load n a=>
  simp only[dX] at h;obtain⟨cs,bu,v,h1,u,B⟩:=PK h;exact⟨v,o,by simp only[M9,h1,u,ξ],B⟩;|store n a x=>exact Zs h;|asJ x=>
  simp only[dX] at h;split at h;·rename_i q;exact⟨_,_,by simp only[M9,q,SV.g],h⟩
  next q=>exact⟨_,_,by simp only[M9,q,SV.g],h⟩
  next q=>exact⟨_,_,by simp only[M9,q,SV.g],h⟩
  ·exact h.elim;|bin op x y=>
  simp only[dX] at h;obtain⟨a,b,v,v',h1,u,B,D,J⟩:=YP h;exact⟨v',o,by simp only[M9,h1,u,B,ξ,D],J⟩;|beq neg x y=>
  simp only[dX] at h;split at h
  next a b h1 u=>exact⟨_,_,by simp only[M9,uq h1,uq u,SV.g],h⟩
  ·exact h.elim;|eqf neg ks x y=>
  simp only[dX] at h;split at h
  ·rename_i a b h1 u;split at h
   next hk=>obtain⟨r,hr,B⟩:=iW h;exact⟨_,_,by simp only[M9,h1,u,SV.g,YM hk hr,ξ],B⟩
   ·exact h.elim
  ·exact h.elim;|arz neg x y=>
  simp only[dX] at h;split at h
  next h1 u=>exact⟨_,_,by simp only[M9,h1,u,SV.g],h⟩
  next h1 u=>exact⟨_,_,by simp only[M9,h1,u,SV.g],h⟩
  ·exact h.elim;|un op x=>
  simp only[dX] at h;split at h;·rename_i q;exact⟨_,_,by simp only[M9,q,SV.g,rG,ξ],h⟩
  next q=>exact⟨_,_,by simp only[M9,q,SV.g,rG,ξ],h⟩
  ·rename_i k n q;refine⟨_,_,?_,h.2⟩;have:(0:Int) - n= -n:=by omega
   simp only[M9,q,SV.g,rG,ξ,this,Be h.1]
  next q=>exact⟨_,_,by simp only[M9,q,SV.g,rG,ξ],h⟩
  ·exact h.elim;|conv k x=>
  simp only[dX] at h;split at h;·rename_i q;exact⟨_,_,by simp only[M9,q,SV.g],h⟩
  next q=>exact⟨_,_,by simp only[M9,q,SV.g,Be h.1],h.2⟩
  next kk n _ q=>exact⟨.si k (ei k n),_,by simp only[M9,q,SV.g],yG h⟩
  ·exact h.elim;|asK bu x=>
  simp only[dX] at h;split at h;·rename_i q;exact⟨_,_,by simp only[M9,q,SV.g,mf,ξ],h⟩
  next q=>exact⟨_,_,by simp only[M9,q,SV.g,mf,ξ,ε7],h⟩
  next q=>exact⟨_,_,by simp only[M9,q,SV.g,mf,ξ,ε7],h⟩
  ·exact h.elim;|field bu n x=>
  simp only[dX] at h;split at h
  next cs q=>obtain⟨v,h1,u⟩:=iW h;exact⟨_,_,by simp only[M9,q,SV.g,Bf h1,ξ],u⟩
  ·exact h.elim;|asL len sz x i=>
  simp only[dX] at h;split at h
  ·rename_i k n hi;split at h
   ·rename_i U;split at h;·rename_i q;exact⟨_,_,by simp only[M9,hi,q,SV.g,gP,if_pos U,mf,ξ],h⟩
    next q=>exact⟨_,_,by simp only[M9,hi,q,SV.g,gP,if_pos U,mf,ξ,ε7],h⟩
    next q=>exact⟨_,_,by simp only[M9,hi,q,SV.g,gP,if_pos U,mf,ξ,ε7],h⟩
    ·exact h.elim
   ·exact h.elim
  ·rename_i k n hi;split at h;·rename_i q;exact⟨_,_,by simp only[M9,hi,q,SV.g,gP,if_pos (γk h.1 h.2.1),mf,ξ],h.2.2⟩
   ·exact h.elim
  ·exact h.elim;|aqK sz x i=>
  simp only[dX] at h;split at h
  ·rename_i n hi;have hi:=GG hi;split at h
   ·rename_i s l q;split at h
    next A=>subst A;obtain⟨h1,u,B⟩:=h;refine⟨_,_,?_,B⟩;simp only[M9,hi,q,SV.g,o7,eh];rw[if_pos ⟨h1,u,trivial⟩];simp
    ·exact h.elim
   ·rename_i id m M q;split at h
    ·rename_i s l e pu G;split at h
     next A=>obtain⟨rfl,rfl⟩:=A;obtain⟨rfl,h1,u,B⟩:=h;refine⟨_,_,?_,B⟩;simp only[M9,hi,q,SV.g,o7,fk G,iZ.g,eh];rw[oA (δ8 _),if_pos ⟨trivial,trivial,h1,u,by omega⟩];simp
     ·exact h.elim
    ·exact h.elim
   ·rename_i id bu len m M q;split at h
    ·rename_i s l e pu G;split at h
     next A=>obtain⟨rfl,rfl⟩:=A;obtain⟨rfl,h1,u,D,B⟩:=h;refine⟨_,_,?_,B⟩;have hm:(bu+len)*s.sz<=l.length*s.sz:=γP _ D;rw[δX] at hm;simp only[M9,hi,q,SV.g,o7,fk G,iZ.g,eh];rw[oA (by omega),if_pos ⟨trivial,trivial,h1,u,hm⟩];simp[δX]
     ·exact h.elim
    ·exact h.elim
   ·rename_i id bu len m M q;split at h
    ·rename_i s l e pu G;split at h
     next A=>obtain⟨rfl,rfl⟩:=A;obtain⟨rfl,h1,u,D,B⟩:=h;refine⟨_,_,?_,B⟩;have hm:(bu+len)*s.sz<=l.length*s.sz:=γP _ D;have T:=HN s;rw[δX] at hm;simp only[M9,hi,q,SV.g,o7,fk G,iZ.g,eh];rw[AX (by omega),show bu*s.sz+(l.length*s.sz+s.sz) - l.length*s.sz - s.sz=bu*s.sz by omega,if_pos ⟨trivial,trivial,h1,u,hm⟩];simp[δX]
     ·exact h.elim
    ·exact h.elim
   ·exact h.elim
  ·exact h.elim;|idx len sz n x i=>
  simp only[dX] at h;split at h
  ·rename_i k' k cs hi q;split at h
   next hk=>obtain⟨v,h1,u⟩:=iW h;exact⟨_,_,by simp only[M9,hi,q,SV.g,gP,if_pos hk,Bf h1,ξ],u⟩
   ·exact h.elim
  ·rename_i k' k cs hi q;split at h
   ·rename_i l _ _ hl;split at h
    next hll=>obtain⟨h1,u,B⟩:=h;refine⟨_,_,?_,B⟩;obtain⟨D,J⟩:=PM hl;have S:=J k.toNat (by omega);simp only[M9,hi,q,SV.g,gP,if_pos (γk h1 u),Nat.mul_one,gf,sf,S,ξ]
    ·exact h.elim
   ·exact h.elim
  ·exact h.elim;|aua x i=>simp only[dX] at h;|apq z e sz bytes l c pu=>
  simp only[dX] at h;split at h
  ·rename_i n m s U hm hs;have U:=GG U;have hm:=GG hm;split at h
   next A=>subst A;obtain⟨x,q,h1,u,B,D,J⟩:=iW h;obtain⟨o',hmk,hk⟩:=tn J;refine⟨_,o',?_,hk⟩;have L:=ns q;rw[<-fJ,GO,GB] at L;simp only[iZ.g] at hmk;simp only[M9,U,hm];rw[if_pos ⟨h1,u,B,D⟩,L,Zv,hmk];simp[SV.g]
   ·exact h.elim
  ·exact h.elim;|slice sz x lo hi=>
  simp only[dX] at h;split at h
  ·rename_i s l q;split at h
   ·rename_i A;subst A;obtain⟨a,I,h1⟩:=oL h;obtain⟨b,F,u,B,D⟩:=oL h1;refine⟨_,_,?_,D⟩;rw[yD] at I F;have hlen:((l.drop a).take (b - a)).length=b - a:=by simp;omega
    simp only[M9,q,SV.g,oZ,I,F,eh,and_true,if_pos (γk u B),ξ,yH,hlen]
   ·exact h.elim
  ·rename_i id m M q;split at h
   ·rename_i s l e pu G;split at h
    next A=>obtain⟨rfl,rfl⟩:=A;obtain⟨rfl,h⟩:=h;obtain⟨a,I,h1⟩:=oL h;obtain⟨b,F,u,B,D⟩:=oL h1;refine⟨_,_,?_,D⟩;rw[yD] at I F;simp only[M9,q,SV.g,oZ,I,F,fk G,iZ.g,eh];rw[if_pos ⟨u,B,trivial,trivial⟩];simp
    ·exact h.elim
   ·exact h.elim
  ·rename_i id bu len m M q;split at h
   ·rename_i s l e pu G;split at h
    next A=>obtain⟨rfl,rfl⟩:=A;obtain⟨rfl,h⟩:=h;obtain⟨a,I,h1⟩:=oL h;obtain⟨b,F,u,B,D⟩:=oL h1;refine⟨_,_,?_,D⟩;rw[yD] at I F;simp only[M9,q,SV.g,oZ,I,F,fk G,iZ.g,eh];rw[if_pos ⟨u,B,trivial,trivial⟩];simp[δX]
    ·exact h.elim
   ·exact h.elim
  ·exact h.elim;|slice3 sz x lo hi mx=>
  simp only[dX] at h;split at h
  ·rename_i s l q;split at h
   ·rename_i A;subst A;obtain⟨a,I,h1⟩:=oL h;obtain⟨b,F,u⟩:=oL h1;obtain⟨m,hm,B,D,J,S⟩:=oL u;refine⟨_,_,?_,S⟩;rw[yD] at I;simp only[ξ] at F hm;have hlen:((l.drop a).take (b - a)).length=b - a:=by simp;omega
    simp only[M9,q,SV.g,qZ,I,F,hm,eh,and_true,if_pos (γk B (γk D J)),ξ,yH,hlen]
   ·exact h.elim
  ·rename_i id n M q;split at h
   ·rename_i s l e pu G;split at h
    next A=>obtain⟨rfl,rfl⟩:=A;obtain⟨rfl,h⟩:=h;obtain⟨a,I,h1⟩:=oL h;obtain⟨b,F,u⟩:=oL h1;obtain⟨m,hm,B,D,J,S⟩:=oL u;refine⟨_,_,?_,S⟩;rw[yD] at I;simp only[ξ] at F hm;simp only[M9,q,SV.g,qZ,I,F,hm,fk G,iZ.g,eh];rw[if_pos ⟨B,D,J,trivial,trivial,by omega,HN _⟩];simp
    ·exact h.elim
   ·exact h.elim
  ·exact h.elim;|asM x lo hi=>simp only[dX] at h;|append e sz bytes s x pu=>exact Zr h;|len k x=>
  simp only[dX] at h;split at h;·rename_i q;exact⟨_,_,by simp only[M9,q,SV.g,kN,ξ],h⟩
  next q=>exact⟨_,_,by simp only[M9,q,SV.g,kN,ξ],h⟩
  next q=>exact⟨_,_,by simp only[M9,q,SV.g,kN,ξ],h⟩
  next q=>exact⟨_,_,by simp only[M9,q,SV.g,kN,ξ],h⟩
  next q=>exact⟨_,_,by simp only[M9,q,SV.g,kN,ξ];rfl,h⟩
  next q=>exact⟨_,_,by simp only[M9,q,SV.g,kN,ξ],h⟩
  ·rename_i id q;split at h
   next Z sv ka es kt pu G=>exact⟨_,_,by simp only[M9,q,SV.g,kN,fk G,iZ.g,List.length_map,ξ],h⟩
   ·exact h.elim
  ·exact h.elim;|asN n=>exact⟨_,_,rfl,h⟩;|mm mx x y=>
  simp only[dX] at h;split at h
  ·rename_i q hy;split at h
   next hk=>exact⟨_,_,by simp only[M9,q,hy,SV.g,if_pos hk],h⟩
   ·exact h.elim
  next k a q=>obtain⟨b,F,u⟩:=iW h;exact⟨_,_,by simp only[M9,q,iq F,SV.g,if_true,Pz],u⟩
  next k a q _=>obtain⟨b,F,u⟩:=iW h;exact⟨_,_,by simp only[M9,q,iq F,SV.g,if_true,Pz],u⟩
  ·exact h.elim;|call f args own=>
  simp only[dX] at h;obtain⟨v,o',h1,u⟩:=GD hC h;rw[Bc] at h1;exact⟨v,o',by simp only[M9,h1],u⟩;|ale f args own=>
  simp only[dX] at h;split at h
  next g first captured H=>obtain⟨v,o',h1,u⟩:=GD hC h;rw[sO,sO,Bc] at h1;exact⟨v,o',by simp only[M9,H,SV.g,h1],u⟩
  ·exact h.elim;|extract x i=>
  simp only[dX] at h;split at h
  next vs q=>obtain⟨v,h1,u⟩:=iW h;exact⟨_,_,by simp only[M9,q,SV.g,sf,h1,ξ],u⟩
  ·exact h.elim;|arA f first captured=>exact⟨_,_,by simp only[M9,SV.g,Bc],h⟩;|asO t x=>
  simp only[dX] at h;split at h
  ·rename_i cs q;split at h
   next T=>exact⟨_,_,by simp only[M9,q,SV.g,if_pos (H6 cs T)],h⟩
   ·exact h.elim
  ·exact h.elim;|aov tab x args=>
  simp only[dX] at h;split at h
  ·rename_i t cs q;split at h
   next f H=>obtain⟨v,o',h1,u⟩:=GD hC h;simp only[gL,SV.g,Bc] at h1;exact⟨v,o',by simp only[M9,q,SV.g,H,h1],u⟩
   ·exact h.elim
  ·exact h.elim;|apr kt pu=>
  simp only[dX] at h;split at h
  next Z sv hs=>obtain⟨o',hm,hk⟩:=tn h;simp only[iZ.g,γv] at hm;exact⟨_,o',by simp only[M9,hm,ξ,SV.g],hk⟩
  ·exact h.elim;|lookup z agg ks ka x k ok=>
  simp only[dX] at h;split at h
  ·rename_i id q;split at h
   ·rename_i Z sv ka' es kt pu G;split at h
    ·rename_i hh;obtain⟨rfl,rfl,h1,u,rfl,D,J,S⟩:=hh;obtain⟨kv,V,h7⟩:=iW h;obtain⟨zv,hzv,h8⟩:=iW h7;have N:=PF J S (PC h1) V;have hz:qi z false=some (lV sv zv):=by
      have L:=ns hzv;rw[H7,PD u] at L;cases z with
      |nil=>simp at L;|cons a r=>
       cases r with
       |nil=>simp only[ν,γv,χ,and_true] at L;simp[qi,L];|cons=>simp at L
     obtain⟨r,hr,hm⟩:=GF (sv:=sv) h1 D kv es 0;refine⟨_,_,?_,h8⟩;simp only[M9,q,SV.g,N,fk G,iZ.g,if_true,hr,hz];cases H:jH Z sv kv es with
     |some v=>
      rw[H] at hm;obtain⟨j,rfl,_⟩:=hm;simp only[Option.getD_some];cases ok<;>simp only[ω,if_false,if_true,SV.g,gL,PE u,θc,ζo];|none=>
      rw[H] at hm;obtain⟨rfl,_⟩:=hm;simp only[Option.getD_none];cases ok<;>simp only[ω,if_false,if_true,SV.g,gL,PE u,θc,ζo]
    ·exact h.elim
   ·exact h.elim
  ·exact h.elim;|ap9 ks ka x k v=>
  simp only[dX] at h;split at h
  ·rename_i id q;split at h
   ·rename_i Z sv ka' es kt pu G;split at h
    ·rename_i hh;obtain⟨rfl,rfl,h1,u,D,J,S,h9⟩:=hh;obtain⟨kv,V,h7⟩:=iW h;obtain⟨vv,hvv,h8⟩:=iW h7;have N:=PF J S (PC h1) V;have hv:(ρ v).g=lV sv vv:=by
      have L:=ns hvv;rw[PD u] at L;have hc:(ρ v).cellsOf=[ρ v]:=by revert h9;cases ρ v<;>simp[SV.cellsOf,tu]
      rw[hc] at L;simpa using L
     obtain⟨r,hr,hm⟩:=GF (sv:=sv) h1 D kv es 0;refine⟨_,_,?_,h8⟩;have Y:(lV sv vv).pure=true:=by simp[lV,ζ7]
     simp only[M9,q,SV.g,N,fk G,iZ.g,hv,Y,hr,pq];rw[if_neg (by simp)];cases H:jH Z sv kv es with
     |some w=>
      rw[H] at hm;obtain⟨j,rfl,W,h11⟩:=hm;rw[PG W h11];simp only[Nat.zero_add];rw[PB];|none=>
      rw[H] at hm;obtain⟨rfl,W⟩:=hm;rw[GE W];simp
    ·exact h.elim
   ·exact h.elim
  ·exact h.elim
end
mutual
theorem Gy {o:a_} {k:Nat}:∀{v:AV},v.VJ k=true->v.TL o (λi=>decide (k<=i))=some v
 | .os m d j e,h=>by simp_all[AV.VJ,AV.TL,if_neg];| .ptr m d e,h=>by simp_all[AV.VJ,AV.TL,if_neg];| .agg g,h=>by simp only[AV.VJ] at h;simp only[AV.TL,wG h,ξ];| .IL g,h=>by simp only[AV.VJ] at h;simp only[AV.TL,wG h,ξ];| .fn f a b,h=>by simp only[AV.VJ,ζ] at h;simp only[AV.TL,wG h.1,wG h.2];| .ud,_| .sc _,_| .sl _ _,_| .ep _ _,_| .mp _,_| .ifc _ _,_=>by simp only[AV.TL]
theorem wG {o:a_} {k:Nat}:∀{l:List AV},dK k l=true->gw o (λi=>decide (k<=i)) l=some l
 |[],_=>by simp[gw];|c::g,h=>by simp only[dK,ζ] at h;simp only[gw,Gy h.1,wG h.2]
end
theorem Py {o:a_} {k:Nat}:∀{l:List (Value×AV)},dK k (l.map (·.2))=true->oW o (λi=>decide (k<=i)) l=some l
 |[],_=>by simp[oW];|(q,c)::a,h=>by simp only[ν,dK,ζ] at h;simp only[oW,Gy h.1,Py h.2]
theorem Zp {o:a_} {k:Nat} {x:OL} (h:x.VJ k=true):x.TL o (λi=>decide (k<=i))=some x:=by
 cases x with
 |dead=>rfl;|cells b e f a=>
  cases a with
  |true=>simp only[OL.TL,if_true];|false=>simp_all[OL.VJ,OL.TL,wG]
 |map d c a=>
  cases a with
  |true=>simp only[OL.TL,if_true];|false=>simp_all[OL.VJ,OL.TL,Py]
theorem Px {o:a_} {k:Nat}:∀{r:a_},(∀x∈r,x.VJ k=true)->jj o (λi=>decide (k<=i)) r=some r
 |[],_=>rfl
 |x::r,h=>by simp only[jj,Zp (h x (by simp)),Px (r:=r) λy a=>h y (by simp[a])]
theorem Pw {k:Nat}:∀{o:a_} {i:Nat},(fo (λj=>decide (k<=j)) i o).take (k - i)=o.take (k - i)
 |[],i=>by simp[fo];|x::r,i=>by
  simp only[fo];by_cases a:i<k
  ·rw[show k - i=(k - (i+1))+1 from by omega,δv,δv,Pw];grind
  simp_all
theorem bat {k i:Nat} (h:i<k):(Γ k).contains i=true:=by simp[h]
theorem Pv {o:a_} {k:Nat}:∀{d:Nat} {vs:List AV},dK k vs=true->b_ o d vs (Γ k)=Γ k:=by
 intro d;induction d with
 |zero=>grind[b_];|succ d e=>
  intro vs h;cases vs with
  |nil=>simp[b_];|cons v vs=>
   simp only[dK,ζ] at h;have i:=h.1;simp only[b_];cases v with
   |agg g=>grind[AV.VJ];|IL g=>grind[AV.VJ];|fn f a b=>grind[AV.VJ];|ptr c _ _=>simp_all[AV.VJ];|os c _ _ _=>simp_all[AV.VJ];|mp c=>simp_all[AV.VJ];|_=>simp only[e h.2]
theorem P2:∀{n s i p:Nat},s<=i->i<s+n->idxOf (ζJ s n) i p=some (p+(i - s))
 |0,s,i,p,a,b=>by omega;|n+1,s,i,p,a,b=>by
  simp only[εC,idxOf];by_cases h:s=i;·subst h;simp
  ·have:(s==i)=false:=by simpa using h
   rw[this];simp only[ω,if_false];rw[P2 (by omega) (by omega)];grind
theorem Gx {k i:Nat} (h:i<k):idxOf (Γ k) i=some i:=by rw[δH,P2 (by omega) (by omega)];simp
mutual
theorem Bb {k:Nat}:∀{v:AV},v.VJ k=true->v.bJ (λj=>idxOf (Γ k) j)=some v
 | .os g d m e,h=>by simp_all[AV.VJ,δx,Gx];| .ptr g d e,h=>by simp_all[AV.VJ,δx,Gx];| .mp g,h=>by simp_all[AV.VJ,δx,Gx];| .agg i,h=>by simp only[AV.VJ] at h;simp only[δx,wF h,ξ];| .IL i,h=>by simp only[AV.VJ] at h;simp only[δx,wF h,ξ];| .fn f a b,h=>by simp only[AV.VJ,ζ] at h;simp only[δx,wF h.1,wF h.2];| .ud,_| .sc _,_| .sl _ _,_| .ep _ _,_| .ifc _ _,_=>by simp only[δx]
theorem wF {k:Nat}:∀{l:List AV},dK k l=true->iu (λj=>idxOf (Γ k) j) l=some l
 |[],_=>by simp[iu];|c::i,h=>by simp only[dK,ζ] at h;simp only[iu,Bb h.1,wF h.2]
end
theorem P1 {k:Nat}:∀{l:List (Value×AV)},dK k (l.map (·.2))=true->nD (λj=>idxOf (Γ k) j) l=some l
 |[],_=>by simp[nD];|(q,c)::a,h=>by simp only[ν,dK,ζ] at h;simp only[nD,Bb h.1,P1 h.2]
theorem Zo {k:Nat} {x:OL} (h:x.VJ k=true):x.bJ (λj=>idxOf (Γ k) j)=some x:=by
 cases x with
 |dead=>rfl;|cells b e f a=>
  cases a with
  |true=>simp only[OL.bJ,if_true];|false=>simp_all[OL.VJ,OL.bJ,wF]
 |map d c a=>
  cases a with
  |true=>simp only[OL.bJ,if_true];|false=>simp_all[OL.VJ,OL.bJ,P1]
theorem Gw {k:Nat} {o:a_} (a:∀x∈o.take k,x.VJ k=true) (c:k<=o.length):∀{n s:Nat},s+n=k->kE o (Γ k) (ζJ s n)=some ((o.take k).drop s)
 |0,s,h=>by
  grind[kE];|n+1,s,h=>by
  simp only[εC,kE];have d:s<o.length:=by omega
  have e:o[s]?=some o[s]:=μ d;rw[e,Gw a c (by omega)];have f:o[s]∈o.take k:=by rw[List.mem_take_iff_getElem];grind
  simp only[Zo (a _ f),ξ];congr 1;have b:s<(o.take k).length:=by simp;omega
  rw[δi b];simp
theorem nodup_range':∀{n s:Nat},ir.aoV (ζJ s n)=true
 |0,_=>by simp[ir.aoV];|n+1,s=>by simp only[εC,ir.aoV,nodup_range',δI,Bool.not_eq_true'];grind
theorem P0 {k:Nat}:∀{a b:List AV},dK k a=true->dK k b=true->dK k (a++b)=true
 |[],b,_,h=>h
 |x::a,b,h,c=>by simp only[dK,ζ] at h;simp only[γL,dK,h.1,P0 h.2 c,Bool.and_self]
theorem Gv {k:Nat}:∀{o:a_},(∀x∈o,x.VJ k=true)->dK k (o.flatMap lr.OL.avs)=true
 |[],_=>by simp[dK];|x::o,h=>by simp only[δ2];refine P0 ?_ (Gv λy a=>h y (by simp[a]));have b:=h x (by simp);cases x<;>grind[lr.OL.avs,dK,OL.VJ]
theorem PZ {k:Nat} {r:AV} {o:a_} (e:r.VJ k=true) (b:∀x∈o,x.VJ k=true) (j:k<=o.length):lr k r o=some (r,o.take k):=by
 unfold lr;rw[Gy e,Px b];simp only;have a:(fo (λi=>decide (k<=i)) 0 o).take k=o.take k:=by simpa using Pw (k:=k) (o:=o) (i:=0)
 have d:∀{o:a_} {i:Nat},(fo (λi=>decide (k<=i)) i o).length=o.length:=by
  intro o;induction o with
  |nil=>intro i;rfl;|cons x o l=>simp_all[fo]
 have h:∀x∈o.take k,x.VJ k=true:=λx g=>b x (List.mem_of_mem_take g);rw[a,Pv (by grind[dK,Gv])];have f:ir.aoV (Γ k)=true:=by rw[δH];exact nodup_range'
 rw[if_pos f,Bb e];have c:=Gw (k:=k) (o:=fo (λi=>decide (k<=i)) 0 o) (by simp_all) (by simp_all) (n:=k) (s:=0) (by omega);rw[<-δH,a,εx] at c;rw[c]
theorem Gu:∀{env:eI} {s:Nat} {v:SV},(jw env s).g=v.g->gE (wM env s v)=gE env
 |[],_,_,_=>rfl
 |p::r,s,v,h=>by
  simp only[wM,jw] at h ⊢;cases a:δu p.1 s with
  |true=>
   simp_all[gE];|false=>
   rw[a] at h;simp only[cond_false] at h ⊢;have:=Gu h;grind[gE]
theorem Zn {env:eI} {g:Option (Option Nat×Bool)} {K:eI->Bool->Prop} (h:HI env g K):∃a w,gE a=gE env/\lY (gE env) g=some w/\K a w:=by
 unfold HI at h;split at h;·exact⟨_,_,rfl,rfl,h⟩
 ·exact h.elim
 ·rename_i s b;split at h;·grind[lY,nl,SV.g]
  next c d=>cases c<;>grind[Gu,lY,nl,SV.g]
  all_goals grind[lY,nl,SV.g,gL]
section
variable {call:cz} {p:iI}
theorem PY:∀{a b:VI},jG a b->gO a=gO b
 |[],[],_=>rfl
 |x::a,y::b,h=>by obtain⟨c,d⟩:=h;have e:x.g=y.g:=c;simp only[gO,ν,e];congr 1;exact PY d
def tm:Trace->Trace->Prop
 |[],[]=>True
 |x::a,y::b=>(x.1=y.1/\x.2.1=y.2.1/\∀j∈x.2.2,j∈y.2.2)/\tm a b
 |_,_=>False
theorem tm.look:∀{a b:Trace} {i:Nat},tm a b->(oX a i).1=(oX b i).1/\∀j∈(oX a i).2,j∈(oX b i).2
 |[],[],_,_=>⟨rfl,λj h=>h⟩
 |(k,x)::a,(g,y)::b,i,h=>by
  obtain⟨⟨c,e,d⟩,f⟩:=h;simp only at c e d;subst c;simp only[oX];split;·exact⟨e,d⟩
  ·exact tm.look f
theorem Zm {a b d c:List Nat} (f:∀j∈a,j∈d) (e:∀j∈b,j∈c) (h:wq d c=true):wq a b=true:=by grind[wq]
theorem Zl {n:Nat} {a b:Trace} {c:List (Nat×Nat)} (h:tm a b) (d:sE n b c=true):sE n a c=true:=by unfold sE at d ⊢;rw[τ] at d ⊢;intro p e;have l:=d p e;obtain⟨g,k⟩:=h.look (i:=p.1);obtain⟨f,j⟩:=h.look (i:=p.2);grind[Zm]
theorem Gt (u:oK call p.C) {base:Nat}:∀{d:List cM} {st:bF} {l:Trace} {K:bF->Trace->Prop},wL p base d st l K->
  ∃st' T,fN call base d st.g=some st'.g/\tm (lX call base d st.g) T/\K st' (T.reverse++l)
 |[],st,l,K,h=>⟨st,[],rfl,trivial,h⟩
 |i::r,st,l,K,h=>by
  simp only[wL] at h;obtain⟨a,w,B,s,q⟩:=Zn h;have A:st.g=⟨gE a,gO st.o⟩:=by grind[bF.g]
  rw[<-B] at s;cases w with
  |true=>
   simp only[if_true] at q;obtain⟨v,y,E,c⟩:=Zq u q;have b:gM call base i st.g=some (bF.g ⟨uo a i.dst v,y⟩):=by grind[gM,PQ,y4,bF.g,PS]
   have k:∀W:List Nat,(∀j∈dP call i.op (λx=>(i_ a x).g) (gO st.o) (base+i.qE),j∈W)->
     wL p base r ⟨uo a i.dst v,y⟩ ((i.idx,dj i.op (λx=>(i_ a x).g) (st.o.map iZ.g) (base+i.qE),W)::l) K->
     ∃st' T,fN call base (i::r) st.g=some st'.g/\tm (lX call base (i::r) st.g) T/\K st' (T.reverse++l):=λW G c=>by
    obtain⟨st',T,D,z,F⟩:=Gt u c;refine⟨st',(i.idx,dj i.op (λx=>(i_ a x).g) (st.o.map iZ.g) (base+i.qE),W)::T,by grind[fN],?_,?_⟩
    ·simp only[lX,b];rw[A];simp only[s,PQ];exact⟨⟨rfl,rfl,G⟩,z⟩
    simp_all
   unfold JL at c;split at c
   ·rename_i f n t;split at c
    ·obtain⟨H,c⟩:=c;refine k [] (λj m=>?_) c;rw[t] at E m;have e:ir call f (n.map λx=>(i_ a x).g) (gO st.o)=some (v.g,gO y):=by simp_all[M9,gn]
     simp only[dP,e,List.mem_filter,decide_eq_true_eq] at m;grind[PY]
    ·exact k _ (λj m=>HW m) c
   ·exact k _ (λj m=>HW m) c;|false=>
   simp only[ω,if_false] at q;obtain⟨st',T,D,z,F⟩:=Gt u q;have b:gM call base i st.g=some (bF.g ⟨uo a i.dst (.IL []),st.o⟩):=by grind[gM,bF.g,PS,SV.g,gL]
   refine⟨st',(i.idx,[],[])::T,by grind[fN],?_,?_⟩
   ·simp only[lX,b];rw[A];simp only[s];exact⟨⟨rfl,rfl,λj h=>h⟩,z⟩
   simp_all
theorem Zk (k:Nat):gO (δ k .dead)=fK k:=by simp[gO,fK,iZ.g]
theorem PX (a b:VI):gO (a++b)=gO a++gO b:=by simp[gO]
theorem Zj (x:iZ):x.g.mg=x.mg:=by cases x<;>rfl
theorem Zi (base:Nat) (o:VI):gO (Ib base o)=qh base (gO o):=by
 unfold Ib qh;have:((gO o).drop base).all (·.mg)=(o.drop base).all (·.mg):=by simp only[gO,<-List.map_drop,θn];grind[Zj]
 rw[this];cases(o.drop base).all (·.mg);·rfl
 ·simp[gO]
theorem Zh (i:oK call p.C) {k:Nat} {b:List cM} {a:List (Nat×Nat)} {st:bF} {K:bF->Prop} (h:Ia p k b a st K):∃st',oD call k b a st.g=some st'.g/\K st':=by
 unfold Ia at h;obtain⟨st',T,f,j,d⟩:=Gt i h;rw[γ1,List.reverse_reverse] at d;have e:(bF.mk st.env (st.o++δ k .dead)).g=⟨st.g.env,st.g.o++fK k⟩:=by simp[bF.g,PX,Zk]
 rw[e] at f j;have c:st.g.o.length=st.o.length:=by simp[bF.g,nj]
 split at d
 next l=>refine⟨_,?_,d⟩;simp only[oD,c];rw[f];simp only;rw[if_pos (by grind[fK,Zl])];grind[bF.g,Zi]
 simp_all
end
theorem Ba {v:SV}:isNil v=true↔v.g= .sc (.slice none 0 0):=by
 constructor
 ·intro h;unfold isNil at h;split at h;·rfl
  ·cases h
 ·intro h;cases v<;>simp only[SV.g,reduceCtorEq,δa] at h;subst h;rfl
section
variable {o:VI} {id:Nat} {s:cj} {l:List s.T} {e:TypeId}
def pid (id:Nat):Nat->Bool:=λi=>i==id
mutual
theorem PW (r:o[id]?=some (.row s l e true)):∀{v:SV} {K:SV->Prop},ji id s l v K->∃E:SV,v.g.TL (gO o) (pid id)=some E.g/\K E
 | .ow j n A,K,h=>by
  simp only[ji] at h;split at h
  ·rename_i q;subst q;split at h
   next u=>subst u;obtain⟨rfl,D⟩:=h;refine⟨_,?_,D⟩;have I:Ξ (l.length*s.sz) (bO s l)=bO s l:=γr (by grind[eh]);simp_all[SV.g,AV.TL,pid,fk,iZ.g,eh]
   simp_all
  ·rename_i q;refine⟨_,?_,h⟩;simp_all[SV.g,AV.TL,pid];| .os j w p n A,K,h=>by
  simp only[ji] at h;split at h
  ·rename_i q;subst q;split at h
   ·rename_i u;subst u;obtain⟨rfl,C,D⟩:=h;refine⟨_,?_,D⟩;have F:(w+p)*s.sz<=l.length*s.sz:=γP _ C;rw[δX] at F;have B:((l.drop w).take p).length=p:=by simp;omega
    simp only[SV.g,AV.TL,pid,BEq.rfl,if_true,fk r,iZ.g,eh,F,and_self,yH,B]
   simp_all
  ·rename_i q;refine⟨_,?_,h⟩;simp_all[SV.g,AV.TL,pid];| .oc j w p n A,K,h=>by
  simp only[ji] at h;split at h;·exact h.elim
  ·rename_i q;exact⟨_,by simp_all[SV.g,AV.TL,pid],h⟩;| .rp j i f n A,K,h=>by
  simp only[ji] at h;split at h;·exact h.elim
  ·rename_i q;exact⟨_,by simp_all[SV.g,AV.TL,pid],h⟩;| .ptr j f t,K,h=>by
  simp only[ji] at h;split at h;·exact h.elim
  ·rename_i q;exact⟨_,by simp_all[SV.g,AV.TL,pid],h⟩;| .ap j a b c d i,K,h=>by
  simp only[ji] at h;split at h;·exact h.elim
  next q=>exact⟨_,by simp_all[SV.g,AV.TL,pid],h⟩;| .agg x,K,h=>by simp only[ji] at h;obtain⟨m,z,y⟩:=tk r h;grind[SV.g,AV.TL];| .IL x,K,h=>by simp only[ji] at h;obtain⟨m,z,y⟩:=tk r h;grind[SV.g,AV.TL];| .fn f a b,K,h=>by simp only[ji] at h;obtain⟨M,z,y⟩:=tk r h;obtain⟨L,G,H⟩:=tk r y;grind[SV.g,AV.TL];| .ud,K,h=>⟨.ud,by grind[SV.g,AV.TL],by grind[ji]⟩
 | .sc v,K,h=>⟨.sc v,by grind[SV.g,AV.TL],by grind[ji]⟩
 | .il k n,K,h=>⟨.il k n,by grind[SV.g,AV.TL],by grind[ji]⟩
 | .si k n,K,h=>⟨.si k n,by grind[SV.g,AV.TL],by grind[ji]⟩
 | .bl b,K,h=>⟨.bl b,by grind[SV.g,AV.TL],by grind[ji]⟩
 | .sb b,K,h=>⟨.sb b,by grind[SV.g,AV.TL],by grind[ji]⟩
 | .row s l,K,h=>⟨.row s l,by grind[SV.g,AV.TL],by grind[ji]⟩
 | .ep s l i f,K,h=>⟨.ep s l i f,by grind[SV.g,AV.TL],by grind[ji]⟩
 | .mp i,K,h=>⟨.mp i,by grind[SV.g,AV.TL],by grind[ji]⟩
 | .ia t x,K,h=>⟨.ia t x,by grind[SV.g,AV.TL],by grind[ji]⟩
 | .ite c a b,K,h=>⟨.ite c a b,by grind[SV.g,AV.TL],by grind[ji]⟩
theorem tk (r:o[id]?=some (.row s l e true)):∀{x:List SV} {K:List SV->Prop},p5 id s l x K->∃m:List SV,gw (gO o) (pid id) (gL x)=some (gL m)/\K m
 |[],K,h=>⟨[],by simp[gL,gw],by grind[p5]⟩
 |c::x,K,h=>by simp only[p5] at h;obtain⟨J,z,y⟩:=PW r h;obtain⟨m,G,H⟩:=tk r y;grind[gL,gw]
end
theorem Gs (b:o[id]?=some (.row s l e true)):∀{env:eI} {K:eI->Prop},yO id s l env K->∃a,uh (gO o) (pid id) (gE env)=some (gE a)/\K a
 |[],K,h=>⟨[],rfl,h⟩
 |(k,v)::r,K,h=>by simp only[yO] at h;obtain⟨f,d,c⟩:=PW b h;obtain⟨j,g,i⟩:=Gs b c;grind[gE,uh]
theorem BG {o:a_} {q:Nat->Bool}:∀{cs:List AV},(∀a∈cs,Plain a)->gw o q cs=some cs
 |[],_=>by simp[gw];|a::cs,h=>by have d:=BG (o:=o) (q:=q) (cs:=cs) λb c=>h b (by simp[c]);rcases h a (by simp) with⟨v,rfl,_⟩|⟨n,e,rfl,_⟩<;>simp only[gw,AV.TL,d]
theorem Gr {o:a_} {q:Nat->Bool}:∀{es:List (Value×AV)},(∀a∈es,∃v,a.2= .sc v)->oW o q es=some es
 |[],_=>by simp[oW];|(k,a)::es,h=>by obtain⟨v,b⟩:=h (k,a) (by simp);simp only at b;subst b;simp only[oW,AV.TL,Gr (es:=es) λa c=>h a (by simp[c])]
theorem qR (j:o[id]?=some (.row s l e true)):∀{i:Nat} {r:VI} {K:VI->Prop},np id s l i r K->∃Q mid,jj (gO o) (pid id) (gO r)=some mid/\fo (pid id) i mid=gO Q/\K Q
 |i,[],K,h=>⟨[],[],rfl,rfl,h⟩
 |i,x::r,K,h=>by
  cases x with
  |dead=>
   simp only[np] at h;obtain⟨Q,mid,w,n,f⟩:=qR j h;grind[gO,iZ.g,jj,OL.TL,fo];|cells N p F d=>
   simp only[np] at h;cases d with
   |true=>
    simp only[if_true] at h;split at h;·exact h.elim
    next B=>obtain⟨Q,mid,w,n,f⟩:=qR j h;refine⟨_,.cells (gL N) p F true::mid,?_,?_,f⟩;all_goals simp_all[gO,iZ.g,jj,OL.TL,fo,pid];|false=>
    simp only[ω,if_false] at h;obtain⟨A,z,k⟩:=tk j h;obtain⟨Q,mid,w,n,f⟩:=qR j k;refine⟨_,.cells (gL A) p F false::mid,?_,?_,f⟩;all_goals simp_all[gO,iZ.g,jj,OL.TL,fo]
  |aoC v u p t=>
   simp only[np] at h;split at h;·exact h.elim
   ·obtain⟨O,z,k⟩:=tk j h;split at k
    ·rename_i m M;obtain⟨L,_⟩:=Bd M;obtain⟨Q,mid,w,n,f⟩:=qR j k;refine⟨_,(iZ.row v (u++m) p false).g::mid,?_,?_,f⟩
     ·simp only[gO,ν,iZ.g] at w z ⊢;have G:∀(a b c:List AV),gw (γd iZ.g o) (pid id) a=some a->gw (γd iZ.g o) (pid id) b=some c->gw (γd iZ.g o) (pid id) (a++b)=some (a++c):=λa b c w n=>by induction a<;>grind[gw]
      have P:gw (γd iZ.g o) (pid id) (bO v u)=some (bO v u):=BG (λa C=>mH C);simp_all[jj,OL.TL,Pe]
     ·simp only[iZ.g,fo,n];rfl
    simp_all;|row v u p d=>
   simp only[np] at h;have y:(iZ.row v u p d).g.TL (gO o) (pid id)=some (iZ.row v u p d).g:=by
    cases d with
    |true=>simp only[iZ.g,OL.TL,if_true];|false=>
     simp only[iZ.g,OL.TL,ω,if_false];grind[BG,mH]
   split at h
   ·rename_i B;cases d with
    |false=>simp_all;|true=>
     simp only[if_true] at h;obtain⟨Q,mid,w,n,f⟩:=qR j h;refine⟨_,(iZ.row v u p true).g::mid,?_,?_,f⟩;all_goals simp_all[gO,jj,iZ.g,fo,pid]
   ·rename_i B;obtain⟨Q,mid,w,n,f⟩:=qR j h;refine⟨_,(iZ.row v u p d).g::mid,?_,?_,f⟩;·grind[gO,jj]
    ·cases d<;>simp only[iZ.g,fo,n,pid,beq_iff_eq,if_neg B]<;>rfl;|map H D I E J d=>
   simp only[np] at h;have y:(iZ.map H D I E J d).g.TL (gO o) (pid id)=some (iZ.map H D I E J d).g:=by
    cases d with
    |true=>simp only[iZ.g,OL.TL,if_true];|false=>
     simp only[iZ.g,OL.TL,ω,if_false];rw[Gr (λa C=>by obtain⟨q,_,rfl⟩:=Δ.1 C;exact⟨_,rfl⟩),ξ]
   obtain⟨Q,mid,w,n,f⟩:=qR j h;grind[gO,jj,iZ.g,fo]
end
theorem Zg {v:SV}:(∃id,sg.auH v=some id/\∃a b c,v.g= .os id a b c)\/(sg.auH v=none/\∀id a b c,v.g≠ .os id a b c):=by cases v<;>simp[sg.auH,SV.g]
theorem PV {p:iI} {lo:Nat} {h:jf} {st:bF} {K:bF->Prop} {v:SV} (t:h.own=false) (f:A9 h st.g=some v.g)
  (d:match sg.auH v with
   |some id=>if Nat.ble lo id then(match st.o[id]? with
    |some (.row s l e pu)=>yO id s l st.env λenv=>np id s l 0 (if pu then st.o else st.o.set id (.row s l e true)) λo=>K ⟨env,o⟩
    |_=>False) else K st
   |none=>K st):∃st',jK lo h st.g=st'.g/\K st':=by
 let _:=p;unfold jK;rw[if_neg (by simp[t]),f];rcases @Zg v with⟨id,w,a,b,c,x⟩|⟨w,x⟩
 ·rw[w] at d;rw[x];simp only at d ⊢;split at d
  ·rename_i q;rw[if_pos q];split at d
   ·rename_i s l e pu m;have D:(λi=>i==id)=pid id:=rfl;cases pu with
    |true=>
     simp only[if_true] at d;obtain⟨j,A,n⟩:=Gs m d;obtain⟨B,u,C,y,r⟩:=qR m n;refine⟨_,?_,r⟩;simp_all[y3,bF.g,fk,iZ.g,A6];|false=>
     simp only[ω,if_false] at d;have z:id<st.o.length:=(θ.1 m).1;have k:(st.o.set id (.row s l e true))[id]?=some (.row s l e true):=by simp_all
     obtain⟨j,A,n⟩:=Gs (o:=st.o.set id (.row s l e true)) k d;obtain⟨B,u,C,y,r⟩:=qR k n;refine⟨_,?_,r⟩;simp_all[y3,bF.g,fk,iZ.g,nV,pq,A6]
   simp_all
  grind
 grind
section
variable {p:iI} {lo:Nat}
theorem Zf {h:jf} {st:bF} {K:bF->Prop} (a:sg p lo h st K):∃st',jK lo h st.g=st'.g/\K st':=by
 unfold sg at a;split at a
 ·rename_i f;unfold jK;rw[if_pos f];unfold A7;split at a
  ·rename_i b;simp only[b];split at a
   ·rename_i r;have t:=Ba.1 r;rw[<-nl] at t;have B:cX st.g.env h.slot= .sc (.slice none 0 0):=t;rw[B];split at a
    ·rename_i s J;split at a
     next w=>refine⟨_,?_,a⟩;simp[bF.g,gE,gO,SV.g,iZ.g,bO,w]
     simp_all
    simp_all
   ·rename_i r;split at a
    ·rename_i z;split at a
     ·rename_i m G D d;have n:cX st.g.env h.slot= .os m 0 G (G*D):=by show cX (gE st.env) h.slot=_;rw[nl,d];rfl
      rw[n];split at a
      next s l e y=>refine⟨_,?_,a⟩;simp_all[A8,bF.g,fk,iZ.g,pq]
      simp_all
     simp_all
    ·rename_i z;refine⟨st,?_,a⟩;split
     next L=>have:cX (gE st.env) h.slot= .sc (.slice none 0 0):=L;grind[nl,Ba]
     all_goals simp_all
  ·rename_i k b;simp only[b];split at a
   ·rename_i m c j d;have n:cX st.g.env h.slot= .ptr m c j:=by show cX (gE st.env) h.slot=_;rw[nl,d];rfl
    rw[n];split at a
    ·rename_i i e F E y;have u:st.g.o[m]?=some (.cells (gL i) e F E):=fk y;simp only[u];split at a
     ·rename_i r;cases C:i[c+k]? with
      |none=>simp_all;|some v=>
       rw[C] at r;simp only[Option.any_some] at r;have M:=Ba.1 r;have A:(gL i)[c+k]?=some (.sc (.slice none 0 0)):=by grind[sf]
       simp only[A,jv];split at a
       ·rename_i I;rw[if_pos I];split at a
        ·rename_i s J;split at a
         ·rename_i w;refine⟨_,?_,a⟩;have N:gL (i.set (c+k) (.ow st.o.length 0 h.sz))=(gL i).set (c+k) (.os st.o.length 0 0 0):=by simp_all[fJ,SV.g]
          simp_all[bF.g,iZ.g,gO,bO]
         simp_all
        simp_all
       simp_all
     grind[sf,Ba]
    simp_all
   simp_all
 ·rename_i f;have f:h.own=false:=by simpa using f
  unfold sg.aIA at a;cases b:h.bu with
  |none=>
   rw[b] at a;simp only at a;refine PV (p:=p) (v:=jw st.env h.slot) f ?_ ?_;all_goals grind[A9,bF.g,nl];|some k=>
   rw[b] at a;simp only at a;cases q:jw st.env h.slot with
   |ptr m c j=>
    rw[q] at a;simp only at a;cases y:st.o[m]? with
    |none=>simp_all;|some x=>
     rw[y] at a;cases x with
     |cells i e F E=>
      simp only at a;by_cases H:i.length=j
      ·rw[if_pos H] at a;cases C:i[c+k]? with
       |none=>simp_all;|some v=>
        rw[C] at a;refine PV (p:=p) (v:=v) f ?_ ?_
        ·unfold A9;rw[b];have:cX st.g.env h.slot= .ptr m c j:=by show cX (gE st.env) h.slot=_;rw[nl,q];rfl
         have u:st.g.o[m]?=some (.cells (gL i) e F E):=fk y;simp_all[behind,jv,sf]
        grind
      simp_all;|_=>exact a.elim
   |_=>rw[q] at a;exact a.elim
theorem Gq:∀{a:List jf} {st:bF} {K:bF->Prop},yN p lo a st K->∃st',a.foldl (λs h=>jK lo h s) st.g=st'.g/\K st'
 |[],st,K,h=>⟨st,rfl,h⟩
 |h::a,st,K,hk=>by simp only[yN] at hk;obtain⟨st1,h1,d⟩:=Zf hk;obtain⟨st2,c,b⟩:=Gq d;exact⟨st2,by rw[List.foldl_cons,h1,c],b⟩
theorem Ze (a:List Nat) (env:eI):gE (H_ a env)=e_ a (gE env):=by simp[H_,e_,gE,<-nl]
theorem Gp (k:Nat) (st:bF):(eY k st).g=trim k st.g:=by
 unfold eY trim;have b:st.g.o.length=st.o.length:=by simp[bF.g,nj]
 have c:(st.g.env.all λp=>p.2.VJ k)=(st.env.all λp=>p.2.VJ k):=by simp only[bF.g,gE,θn];grind[yJ]
 have d:((st.g.o.take k).all λx=>x.VJ k)=((st.o.take k).all λx=>x.VJ k):=by simp only[bF.g,gO,<-List.map_take,θn];grind[Bg]
 rw[b,c,d];by_cases a:st.o.length<=k;·simp_all
 ·rw[if_neg a,if_neg a];split;·simp[bF.g,gO]
  ·rfl
variable {T:jy}
theorem PU {v:Int} {n:Nat} {K:Nat->Prop}:∀{j:Nat},j<=n->gY v n K j->(n - j:Nat)<=v->∃i:Nat,v=i/\K i
 |0,_,h,a=>by
  grind[gY];|j+1,c,h,a=>by
  simp only[gY] at h;by_cases b:v=(n - (j+1):Nat);·grind
  ·exact PU (by omega) h.2 (by omega)
theorem PT {v:Int} {n:Nat} {K:Nat->Prop}:∀{j:Nat},gY v n K j->0<=v
 |0,h=>h.1
 |j+1,h=>PT h.2
theorem Zd {x:Option (Nat×Nat×Nat)} {st:bF} {K:bF->Prop} (h:mP x st K):∃st',st'.g=st.g/\K st':=by
 unfold mP at h;split at h;·grind
 ·rename_i p a n;split at h
  ·rename_i c e q r b;split at h
   ·rename_i k v o;obtain⟨i,rfl,f⟩:=PU (π _) h (by have:=PT h;omega);refine⟨_,?_,f⟩;have l:gL (c.set a (.il k i))=gL c:=by rw[fJ,fJ,List.map_set];apply γ8;grind[SV.g]
    simp only[bF.g,pq,iZ.g,l,bF.mk.injEq,St.mk.injEq,true_and];apply γ8;intro j;rw[εr];split
    next d=>subst d;have m:=(θ.1 b).1;rw[if_pos (by grind[nj]),GL,b];rfl
    ·rfl
   simp_all
  simp_all
theorem Oz:∀{e a:eI},wK e a->gE e=gE a
 |[],[],_=>rfl
 |[],_::_,h=>by grind[wK];|_::_,[],h=>by grind[wK];|(k,v)::e,(d,c)::a,h=>by
  simp only[wK] at h;split at h
  next b=>subst b;have:=Oz h.2;simp only[gE,ν] at this ⊢;rw[this,show v.g=c.g from h.1]
  simp_all
theorem wE:∀{o o':VI},jG o o'->gO o=gO o'
 |[],[],_=>rfl
 |[],_::_,h=>by grind[jG];|_::_,[],h=>by grind[jG];|x::o,y::o',h=>by simp only[jG] at h;have:=wE h.2;simp only[gO,ν] at this ⊢;rw[this,show x.g=y.g from h.1]
theorem BF {s t:bF} (h:yM s t):s.g=t.g:=by simp only[bF.g,Oz h.1,wE h.2]
theorem bau (env:eI) (args:List Operand):args.map (dS (gE env))=gL (args.map (i_ env)):=by simp_all[fJ,yK]
theorem tj (R:oK T.K p.C) (W:∀f F,p.it f=some F->T.fn f=some F):∀{c:IR} {Λ:Nat->bH} {st:bF} {Q:Out->bF->Prop},wpS p lo c Λ st Q->VW T yc lo c st.g λout s=>∃ss,s=ss.g/\Q out ss:=by
 intro c;induction c with
 |skip=>intro Λ st Q h;exact VW.skip ⟨st,rfl,h⟩;|exit id=>intro Λ st Q h;exact VW.exit ⟨st,rfl,h⟩;|ret=>intro Λ st Q h;exact VW.ret ⟨st,rfl,h⟩;|goto l=>intro Λ st Q h;exact VW.goto ⟨st,rfl,h⟩;|nE x a b r q=>
  intro Λ st Q h;simp only[wpS] at h;have j:dS st.g.env x=(i_ st.env x).g:=yK _ _;split at h
  next he=>rw[he] at j;exact VW.nE j (by rw[if_pos rfl];exact r h)
  next he=>rw[he] at j;exact VW.nE j (by rw[if_neg (by simp)];exact q h)
  ·rename_i c he;rw[he] at j;have A:∀v:SV,(SV.sb c).g=v.g->(bF.mk (Bj st.env x v) st.o).g=st.g:=λv P=>by
    cases x with
    |tmp t=>
     have:jw st.env t= .sb c:=he;simp only[bF.g,Bj];rw[Gu (by rw[this];exact P)];|_=>rfl
   refine VW.nE j ?_;cases c with
   |true=>
    have:=r (h.1 rfl);rw[A (.bl true) rfl] at this;rw[if_pos rfl];exact this;|false=>
    have:=q (h.2 rfl);rw[A (.bl false) rfl] at this;rw[if_neg (by simp)];exact this
  ·exact h.elim;|turns l b y=>
  intro Λ st Q h;cases l with
  |none=>
   simp only[wpS] at h;refine VW.Y4 ((y h).mono ?_);rintro out s ⟨ss,rfl,i⟩;cases out with
   |norm=>exact⟨by simp,ss,rfl,i⟩;|exit id=>exact⟨by simp,ss,rfl,i⟩;|ret=>exact⟨by simp,ss,rfl,i⟩;|goto l=>exact i.elim
  |some l=>
   simp only[wpS] at h;split at h
   ·rename_i X shape next J m inner _;obtain⟨⟨H,j⟩,w⟩:=h;refine VW.Y3 (λk s=>∃x,s=(shape x).g/\J x/\m x=k) ?_ (m (next st)) _ ⟨next st,BF H,j,rfl⟩;rintro k s ⟨x,rfl,I,rfl⟩;refine(y (w x I)).mono ?_;rintro out s ⟨ss,rfl,i⟩;cases out with
    |goto V=>
     obtain⟨rfl,G,E,D⟩:=i;refine .inl ⟨rfl,_,D,_,?_,E,rfl⟩;have B:=BF G;rw[<-B,Gp,show(shape x).o.length=(shape x).g.o.length from by simp[bF.g,nj]];|norm=>exact .inr ⟨by simp,ss,rfl,i⟩;|exit id=>exact .inr ⟨by simp,ss,rfl,i⟩;|ret=>exact .inr ⟨by simp,ss,rfl,i⟩
   ·exact h.elim
 |region id draw k ops U live pre post=>
  intro Λ st Q h;simp only[wpS] at h;obtain⟨S,H,h⟩:=Zd h;obtain⟨st1,h1,i⟩:=Gq h;obtain⟨st2,G,E⟩:=Zh R i;obtain⟨L,D,B⟩:=Gq E;refine VW.region ?_;rw[<-H,h1,G];refine⟨L,?_,B⟩;rw[<-D];simp only[bF.g,Ze];|dfr g N d a b _ _=>intro Λ st Q h;exact h.elim;|seq a b r q=>
  intro Λ st Q h;simp only[wpS] at h;refine VW.seq ((r h).mono ?_);rintro out s ⟨ss,rfl,i⟩;cases out with
  |norm=>rw[if_pos rfl];exact q i;|exit id=>rw[if_neg (by simp)];exact⟨ss,rfl,i⟩;|ret=>rw[if_neg (by simp)];exact⟨ss,rfl,i⟩;|goto l=>rw[if_neg (by simp)];exact⟨ss,rfl,i⟩
 |cond x a b r q=>
  intro Λ st Q h;simp only[wpS] at h;have j:dS st.g.env x=(i_ st.env x).g:=yK _ _;have z:(bF.mk (wJ x st.env) st.o).g=⟨oC x st.g.env,st.g.o⟩:=by
   have:∀(t:Nat) (env:eI),(yL t env).map (λp=>(p.1,p.2.g))=qd t (env.map λp=>(p.1,p.2.g)):=by
    intro t env;induction env with
    |nil=>rfl;|cons p env y=>
     simp only[yL,qd,ν];cases δu p.1 t with
     |true=>simpa using y;|false=>simpa using y
   cases x with
   |tmp t=>simp only[bF.g,gE,wJ,oC];rw[this];|_=>rfl
  split at h
  next he=>rw[he] at j;exact VW.cond j (by rw[if_pos rfl,<-z];exact r h)
  next he=>rw[he] at j;exact VW.cond j (by rw[if_neg (by simp),<-z];exact q h)
  ·rename_i c he;rw[he] at j;refine VW.cond j ?_;cases c with
   |true=>rw[if_pos rfl,<-z];exact r (h.1 rfl);|false=>rw[if_neg (by simp),<-z];exact q (h.2 rfl)
  ·exact h.elim;|block id b y=>
  intro Λ st Q h;simp only[wpS] at h;exact VW.block ((y h).mono λout s ⟨ss,e,i⟩=>⟨ss,e,i⟩);|loop b y=>
  intro Λ st Q h;simp only[wpS] at h;split at h
  ·rename_i n O;clear O;induction n generalizing st with
   |zero=>exact h.elim;|succ n M=>
    simp only[H8] at h;refine VW.loop ((y h).mono ?_);rintro out s ⟨ss,rfl,i⟩;cases out with
    |norm=>
     rw[if_pos rfl];have:=M i;rwa [Gp,show st.o.length=st.g.o.length from by simp[bF.g,nj]] at this;|exit id=>rw[if_neg (by simp)];exact⟨ss,rfl,i⟩;|ret=>rw[if_neg (by simp)];exact⟨ss,rfl,i⟩;|goto l=>rw[if_neg (by simp)];exact⟨ss,rfl,i⟩
  ·exact h.elim
  ·rename_i X shape next J m inner _;obtain⟨⟨H,j⟩,w⟩:=h;refine VW.Y5 (λk s=>∃x,s=(shape x).g/\J x/\m x=k) ?_ (m (next st)) _ ⟨next st,BF H,j,rfl⟩;rintro k s ⟨x,rfl,I,rfl⟩;refine(y (w x I)).mono ?_;rintro out s ⟨ss,rfl,i⟩;cases out with
   |norm=>
    rw[if_pos rfl];obtain⟨G,E,D⟩:=i;refine⟨_,D,_,?_,E,rfl⟩;have B:=BF G;rw[<-B,Gp,show(shape x).o.length=(shape x).g.o.length from by simp[bF.g,nj]];|exit id=>rw[if_neg (by simp)];exact⟨ss,rfl,i⟩;|ret=>rw[if_neg (by simp)];exact⟨ss,rfl,i⟩;|goto l=>rw[if_neg (by simp)];exact⟨ss,rfl,i⟩
theorem Oy {st:bF}:∀{a:List mc} {K:List SV->Prop},nn.goK st a K->∃l,a.mapM (qg st.g)=some (gL l)/\K l
 |[],K,h=>⟨[],by simp[gL],h⟩
 |r::a,K,h=>by
  simp only[nn.goK] at h;have b:∃v,qg st.g r=some v.g/\nn.goK st a λl=>K (v::l):=by
   unfold nn.aIB at h;unfold qg;split at h
   next c=>rw[c];exact⟨_,by grind[bF.g,nl],h⟩
   grind[PK,bF.g,nl]
  obtain⟨v,i,d⟩:=b;obtain⟨l,f,e⟩:=Oy d;exact⟨v::l,by simp_all[gL],e⟩
theorem wD {st:bF} {b:List mc} {K:SV->Prop} (h:nn st b K):∃r,nv st.g b=some r.g/\K r:=by
 unfold nn at h;obtain⟨l,c,a⟩:=Oy h;unfold nv;rw[c];match l,a with
 |[],a=>exact⟨_,rfl,a⟩;|[v],a=>exact⟨v,rfl,a⟩;|v::w::l,a=>exact⟨_,rfl,a⟩
theorem ti:∀(i:Nat) (args:List SV),gE (mE i args)=gK i (gL args)
 |_,[]=>rfl
 |i,v::a=>by have:=ti (i+1) a;grind[gE,mE,gL,gK]
theorem Gn {Λ:Nat->bH} {P:Program} (m:j7 P T) (u:oK T.K p.C) (q:∀f F,p.it f=some F->T.fn f=some F) {f:FuncId} {F:eL} (t:T.fn f=some F) {args:List SV} {r:AV} (n:T.K f (gL args) [] false=none) (hlen:args.length=F.params)
  {Q:SV->Prop} (j:∀v,Q v->v.g=r) (h:rH p Λ F args Q):gv P f=true/\j8 P f (gL args) [] r []:=by
 unfold rH at h;have hw:=tj u q h;have i:(bF.mk (mE 0 args) []).g=⟨gK 0 (gL args),[]⟩:=by simp[bF.g,ti,gO]
 rw[i] at hw;obtain⟨h1,b,_⟩:=Bq m t (o:=[]) (own:=false) n (by rw[jv];exact hlen) (v:=r) (o':=[]) (hw.mono λout s k=>by
  obtain⟨ss,rfl,c⟩:=k;cases out with
  |exit id=>exact c.elim;|goto l=>exact c.elim;|norm=>
   obtain⟨a,h1,b⟩:=wD c;obtain⟨v,e,d⟩:=GJ b;refine⟨.inl rfl,?_⟩;rw[h1];show finish false 0 a.g ss.g.o=_;have:freeze ss.g.o 6 a.g=some v.g:=e;simp[finish,this,j _ d];|ret=>
   obtain⟨a,h1,b⟩:=wD c;obtain⟨v,e,d⟩:=GJ b;refine⟨.inr rfl,?_⟩;rw[h1];show finish false 0 a.g ss.g.o=_;have:freeze ss.g.o 6 a.g=some v.g:=e;simp[finish,this,j _ d]);exact⟨h1,b⟩
end
structure pH (α:Type) where
 put:α->SV
 dec:SV->Option α
 ok:∀v a,dec v=some a->v.g=(put a).g
 inj:∀a b,(put a).g=(put b).g->a=b
structure oJ (α:Type) where
 put:α->List SV
 dec:List SV->Option α
 ok:∀v a,dec v=some a->gL v=gL (put a)
 inj:∀a b,gL (put a)=gL (put b)->a=b
def oJ.one {d:Type} (c:pH d):oJ d where
 put a:=[c.put a];dec
  |[v]=>c.dec v
  |_=>none;ok v a h:=by
  match v,h with
  |[v],h=>simp only[gL,c.ok v a h]
 inj a b h:=by simp only[gL,χ,and_true] at h;exact c.inj a b h
def oJ.cons {f g:Type} (c:pH f) (d:oJ g):oJ (f×g) where
 put a:=c.put a.1::d.put a.2;dec
  |v::e=>match c.dec v,d.dec e with
   |some a,some b=>some (a,b)
   |_,_=>none
  |[]=>none;ok v a h:=by
  match v,h with
  |v::e,h=>
   simp only at h;split at h
   next x y j i=>simp only[γ] at h;subst h;simp only[gL,c.ok v x j,d.ok e y i]
   ·cases h
 inj a b h:=by simp only[gL,χ] at h;exact Prod.ext (c.inj _ _ h.1) (d.inj _ _ h.2)
def oJ.nil:oJ Unit where
 put _:=[];dec
  |[]=>some ()
  |_=>none;ok v a h:=by grind
 inj a b h:=rfl
structure NG where
 f:FuncId
 α:Type
 A:oJ α
 dom:α->Prop
 res:α->SV
def Holds (P:Program) (c:NG):Prop:=∀a,c.dom a->gv P c.f=true/\j8 P c.f (gL (c.A.put a)) [] (c.res a).G []
def oH (f:FuncId):List NG->Option NG
 |[]=>none
 |c::r=>bif δu c.f f then some c else oH f r
def th (L:List NG) (f:FuncId) (args:List SV) (K:SV->Prop):Prop:=
 match oH f L with
 |some c=>iH (c.A.dec args) λa=>c.dom a/\zD (c.res a) K
 |none=>False
structure mC where
 K:FuncId->List AV->a_->Option (AV×a_)
 C:FuncId->List SV->VI->(SV->VI->Prop)->Prop
def mC.none:mC:=⟨λ_ _ _=> .none,λ_ _ _ _=>False⟩
noncomputable def qQ (L:List NG) (W:mC):cz:=λf args o own=>
 if own then W.K f args o
 else match o with
  |[]=>match oH f L with
   |some c=>(y6 (λa=>gL (c.A.put a)) c.dom (λa=>(c.res a).G) args).map λv=>(v,[])
   |none=> .none
  |_=> .none
noncomputable def po (a:FuncId->Option eL) (L:List NG) (W:mC):jy:=⟨a,qQ L W⟩
structure pn (P:Program) (W:mC):Prop where
 K:∀f args o r o',W.K f args o=some (r,o')->gv P f=true/\j8 P f args o r o'
 C:∀(call:cz),(∀f args o,call f args o true=W.K f args o)->∀f args o K,W.C f args o K->∃(r:SV) (o':VI),ir call f (gL args) (gO o)=some (r.g,gO o')/\K r o'
theorem pn.none (P:Program):pn P mC.none where
 K:=λ_ _ _ _ _ h=>by cases h
 C:=λ_ _ _ _ _ _ h=>h.elim
theorem Ox:∀{L:List NG} {f:FuncId} {c:NG},oH f L=some c->c.f=f/\c∈L
 |[],_,_,h=>by cases h;|d::L,f,c,h=>by
  simp only[oH] at h;cases a:δu d.f f with
  |true=>
   simp_all;|false=>
   rw[a] at h;simp only[cond_false] at h;obtain⟨b,e⟩:=Ox h;simp_all
theorem Hc:∀{v:SV} {K:SV->Prop},zD v K->∃w:SV,w.g=v.G/\K w
 | .ite c a b,K,h=>by
  cases c with
  |true=>exact Hc (v:=a) (h.1 rfl);|false=>exact Hc (v:=b) (h.2 rfl)
 | .ud,_,h| .sc _,_,h| .il _ _,_,h| .si _ _,_,h| .bl _,_,h| .sb _,_,h| .agg _,_,h| .IL _,_,h| .row _ _,_,h| .ep _ _ _ _,_,h| .ptr _ _ _,_,h| .ap _ _ _ _ _ _,_,h| .rp _ _ _ _ _,_,h| .ow _ _ _,_,h| .os _ _ _ _ _,_,h| .oc _ _ _ _ _,_,h| .mp _,_,h| .fn _ _ _,_,h| .ia _ _,_,h=>⟨_,rfl,h⟩
theorem yC:∀{w v:SV},v.qS w->v.g=w.G
 | .ite c a b,v,h=>by
  cases c with
  |true=>exact yC (w:=a) (h.1 rfl);|false=>exact yC (w:=b) (h.2 rfl)
 | .ud,_,h| .sc _,_,h| .il _ _,_,h| .si _ _,_,h| .bl _,_,h| .sb _,_,h| .agg _,_,h| .IL _,_,h| .row _ _,_,h| .ep _ _ _ _,_,h| .ptr _ _ _,_,h| .ap _ _ _ _ _ _,_,h| .rp _ _ _ _ _,_,h| .ow _ _ _,_,h| .os _ _ _ _ _,_,h| .oc _ _ _ _ _,_,h| .mp _,_,h| .fn _ _ _,_,h| .ia _ _,_,h=>h
variable {P:Program} {L:List NG} {W:mC} {fn:FuncId->Option eL}
theorem tg (j:pn P W) (k:∀c∈L,Holds P c) (n:j7 P ⟨fn,λ_ _ _ _=>none⟩):j7 P (po fn L W) where
 fn:=n.fn;K:=λg e o b r q h=>by
  simp only[po,qQ] at h;cases b with
  |true=>
   simp only[if_true] at h;obtain⟨p,d⟩:=j.K _ _ _ _ _ h;simp_all;|false=>
   simp only[ω,if_false] at h;split at h
   ·split at h
    next c l=>obtain⟨rfl,f⟩:=Ox l;obtain⟨v,m,d⟩:=ε.1 h;simp only[ι] at d;obtain⟨rfl,rfl⟩:=d;obtain⟨a,rfl,i,rfl⟩:=Y1 m;obtain⟨t,s⟩:=k c f a i;simp_all
    ·cases h
   ·cases h
theorem tf (b:pn P W):oK (po fn L W).K ⟨th L,W.C⟩ where
 pure:=λf args K h=>by
  simp only[th] at h;split at h
  next c hc=>obtain⟨a,h1,i,g⟩:=iW h;obtain⟨r,e,d⟩:=Hc g;refine⟨r,?_,d⟩;have:=c.A.ok _ _ h1;simp only[po,qQ,ω,if_false,hc,this];rw[Y2 (enc:=λa=>gL (c.A.put a)) c.A.inj i,e];rfl
  ·exact h.elim
 own:=λf args o K h=>b.C _ (λf args o=>by simp[po,qQ]) f args o K h
theorem Hb {f:FuncId} {args:List AV} (h:oH f L=none):(po fn L W).K f args [] false=none:=by simp[po,qQ,h]
def mB (L:List NG) (W:mC) (a:TypeId->Option cj) (c:List Nat×Bool->Option (cj×cj)) (b:FuncId->Option eL):iI:=⟨⟨th L,W.C⟩,a,c,λ_=>none,b,λ_=>false⟩
theorem holds_of (c:NG) {F:eL} {ty:TypeId->Option cj} {mt:List Nat×Bool->Option (cj×cj)} {Λ:c.α->Nat->bH} (j:j7 P ⟨fn,λ_ _ _ _=>none⟩) (d:pn P W) (g:∀c∈L,Holds P c)
  (i:fn c.f=some F) (b:oH c.f L=none) (hlen:∀a,(c.A.put a).length=F.params)
  (h:∀a,c.dom a->rH (mB L W ty mt fn) (Λ a) F (c.A.put a) λv=>v.qS (c.res a)):Holds P c:=by intro a e;exact Gn (p:=mB L W ty mt fn) (Λ:=Λ a) (tg d g j) (tf d) (λ_ _ h=>h) i (Hb b) (hlen a) (λ_ h=>yC h) (h a e)
def Ha (L:List NG) (W:mC) (a:TypeId->Option cj) (c:List Nat×Bool->Option (cj×cj)) (b:FuncId->Option eL) (d:FuncId->Bool):iI:=⟨⟨th L,W.C⟩,a,c,λ_=>none,b,d⟩
theorem Zc (c:NG) {F:eL} {ty:TypeId->Option cj} {mt:List Nat×Bool->Option (cj×cj)} {ro:FuncId->Bool} {Λ:c.α->Nat->bH} (j:j7 P ⟨fn,λ_ _ _ _=>none⟩) (d:pn P W) (g:∀c∈L,Holds P c)
  (i:fn c.f=some F) (b:oH c.f L=none) (hlen:∀a,(c.A.put a).length=F.params)
  (h:∀a,c.dom a->rH (Ha L W ty mt fn ro) (Λ a) F (c.A.put a) λv=>v.qS (c.res a)):Holds P c:=by intro a e;exact Gn (p:=Ha L W ty mt fn ro) (Λ:=Λ a) (tg d g j) (tf d) (λ_ _ h=>h) i (Hb b) (hlen a) (λ_ h=>yC h) (h a e)
def dY (k:IntKind):pH Int where
 put n:=.si k n;dec v:=v.int k;ok v a h:=by rw[iq h];rfl
 inj a b h:=by grind[SV.g]
def Ow:pH Bool where
 put b:=.sb b;dec v:=v.pQ;ok v a h:=by rw[uq h];rfl
 inj a b h:=by grind[SV.g]
theorem pZ:(s:cj)->(x y:s.T)->cD s x=cD s y->(e:s.flat=true:=by rfl)->x=y
 | .i k,x,y,h,_=>by grind[cD];| .b,x,y,h,_=>by grind[cD];| .bun,⟨o,B,r,f,j,q⟩,⟨p,l,g,u,A,z⟩,h,_=>by simp_all[cD,iv];| .bu,⟨b,⟨o,B,r,f,j,q⟩,v⟩,⟨c,⟨p,l,g,u,A,z⟩,w⟩,h,_=>by simp_all[cD,iv];| .need,⟨a,b⟩,⟨c,d⟩,h,_=>by simp_all[cD,iv];| .key,⟨b,⟨o,B,r,f,j,q⟩⟩,⟨c,⟨p,l,g,u,A,z⟩⟩,h,_=>by simp_all[cD,iv];| .sit,⟨m,⟨o,B,r,f,j,q⟩,⟨K,F,G,N,L,P⟩⟩,⟨n,⟨p,l,g,u,A,z⟩,⟨O,J,M,I,H,E⟩⟩,h,_=>by simp_all[cD,iv];| .zi _,_,_,_,e=>by grind[cj.flat];| .pair s t,(a,b),(c,d),h,e=>by simp only[cj.flat,ζ] at e;simp only[cD] at h;obtain⟨D,C⟩:=εM h (by grind[HM]);rw[pZ s a c D e.1,pZ t b d C e.2]
theorem G_ {d i:Type} {n:Nat} {f:d->List i} (a:∀x,(f x).length=n) (c:∀x y,f x=f y->x=y):∀{l m:List d},l.length=m.length->l.flatMap f=m.flatMap f->l=m
 |[],[],_,_=>rfl
 |[],_::_,h,_=>by simp at h;|_::_,[],h,_=>by simp at h;|x::l,y::m,b,h=>by simp only[δ2] at h;obtain⟨e,g⟩:=εM h (by rw[a,a]);simp only[γC,ζC] at b;rw[c x y e,G_ a c b g]
theorem wC:(s:cj)->(x y:s.T)->(h:dh s x=dh s y)->x=y
 | .zi s,x,y,h=>by simp only[dh,χ,δ9,and_true] at h;exact G_ (lj s) (wC s) h.1 h.2;| .pair s t,(a,b),(c,d),h=>by simp only[dh] at h;obtain⟨e,f⟩:=εM h (by grind[lj]);rw[wC s a c e,wC t b d f];| .i k,x,y,h=>pZ (.i k) x y (sN h)
 | .b,x,y,h=>pZ .b x y (sN h)
 | .bun,x,y,h=>pZ .bun x y (sN h)
 | .bu,x,y,h=>pZ .bu x y (sN h)
 | .need,x,y,h=>pZ .need x y (sN h)
 | .key,x,y,h=>pZ .key x y (sN h)
 | .sit,x,y,h=>pZ .sit x y (sN h)
theorem kK (s:cj) {l m:List s.T} (a:l.length=m.length) (h:bO s l=bO s m):l=m:=
 G_ (lj s) (wC s) a h
def dg (s:cj):pH s.T where
 put x:=.agg (cd s x);dec
  | .agg c=>jx s c
  |_=>none;ok v a h:=by grind[SV.g,fJ,ns,so]
 inj a b h:=by grind[SV.g,fJ,so,wC]
theorem jF {s:cj} {v:SV} {l:List s.T} (h:fZ s v=some l):v.g=(SV.row s l).g:=by cases v<;>simp only[fZ,reduceCtorEq] at h;grind[yE,SV.g,bO]
def cP (s:cj):pH (List s.T) where
 put l:=.row s l;dec:=fZ s;ok v a h:=jF h;inj a b h:=by grind[SV.g,kK]
structure ew where
 bm:oz
 bs:oz
 bt:oz
 bk:List Int
 bj:List bA
structure bC where
 bn:List Int
 value:Int
def ew.ss (p:ew):List SV:=
 [.si .i64 p.bm.a0,.si .i64 p.bm.a1,.si .i64 p.bm.a2,.si .i64 p.bm.a3,.si .i64 p.bm.a4,.si .i64 p.bm.a5,
  .si .i64 p.bs.a0,.si .i64 p.bs.a1,.si .i64 p.bs.a2,.si .i64 p.bs.a3,.si .i64 p.bs.a4,.si .i64 p.bs.a5,
  .si .i64 p.bt.a0,.si .i64 p.bt.a1,.si .i64 p.bt.a2,.si .i64 p.bt.a3,.si .i64 p.bt.a4,.si .i64 p.bt.a5,
  .row (.i .i64) p.bk,.row .bu p.bj]
def sM:List SV->Option ew
 |[g,v,b,q,d,x,a,n,w,h,j,l,t,p,r,u,e,m,k,f]=>match jx .bun [g,v,b,q,d,x],jx .bun [a,n,w,h,j,l],jx .bun [t,p,r,u,e,m],fZ (.i .i64) k,fZ .bu f with
  |some s,some o,some c,some k,some f=>some ⟨s,o,c,k,f⟩
  |_,_,_,_,_=>none
 |_=>none
theorem wB {cs:List SV} {p:ew} (h:sM cs=some p):gL cs=gL p.ss:=by
 unfold sM at h;split at h
 ·split at h
  next s o c k f a i b e d=>simp only[γ] at h;subst h;have a:=ns a;have i:=ns i;have b:=ns b;have e:=jF e;have d:=jF d;simp_all[dh,cD,ew.ss,gL,SV.g,iv]
  ·cases h
 ·cases h
def cI:pH ew where
 put p:=.agg p.ss;dec
  | .agg c=>sM c
  |_=>none;ok v a h:=by grind[SV.g,wB]
 inj a b h:=by obtain⟨⟨a0,a1,a2,a3,M,o⟩,⟨A,l,e,b3,I,b5⟩,⟨H,V,Y,J,x,j⟩,k,f⟩:=a;obtain⟨⟨d,t,d2,Z,d4,X⟩,⟨N,R,u,y,S,e5⟩,⟨f0,E,f2,f3,O,q⟩,W,B⟩:=b;simp only[SV.g,ew.ss,gL,AV.agg.injEq,χ,and_true,δa,Value.int.injEq,true_and,δ9] at h;obtain⟨h0,h1,F,P,Q,z,C,L,g2,U,G,T,w,K,k2,r,D,k5,m,n⟩:=h;have s:=kK (.i .i64) m.1 m.2;have n2:=kK .bu n.1 n.2;simp_all
def mA:pH bC where
 put a:=.agg [.row (.i .i64) a.bn,.si .i64 a.value];dec
  | .agg [r,v]=>match fZ (.i .i64) r,v.int .i64 with
   |some c,some v=>some ⟨c,v⟩
   |_,_=>none
  |_=>none;ok v a h:=by grind[SV.g,gL,jF,iq]
 inj a b h:=by obtain⟨c,v⟩:=a;obtain⟨e,f⟩:=b;simp only[SV.g,gL,AV.agg.injEq,χ,and_true,δa,Value.int.injEq,true_and,δ9] at h;have d:=kK (.i .i64) h.1.1 h.1.2;rw[d,h.2]
def oQ:TypeId->Option cj
 |2=>some (.i .i64)
 |3=>some (.i .i64)
 |24=>some (.zi (.i .i64))
 |172=>some (.i .u32)
 |177=>some (.pair .b (.pair (.zi (.i .u32)) (.zi (.i .u32))))
 |40=>some (.pair (.zi (.i .i64)) (.i .i64))
 |106=>some (.zi (.pair .b (.pair (.zi (.i .u32)) (.zi (.i .u32)))))
 |249=>some (.pair (.zi (.pair .b (.pair (.zi (.i .u32)) (.zi (.i .u32))))) (.pair .b (.pair (.zi (.i .u32)) (.zi (.i .u32)))))
 |4=>some .b
 |108=>some (.pair (.i .i64) (.pair (.i .i64) (.pair (.i .i64) (.pair (.i .i64) (.zi (.pair .b (.pair (.zi (.i .u32)) (.zi (.i .u32)))))))))
 |65=>some .bu
 |23=>some .bun
 |159=>some (.pair (.i .i64) .b)
 |51=>some (.pair (.zi (.i .i64)) (.pair (.i .i64) (.zi (.pair (.i .i64) (.pair (.i .i64) (.pair (.i .i64) (.pair (.i .i64) (.zi (.pair .b (.pair (.zi (.i .u32)) (.zi (.i .u32))))))))))))
 |_=>none
def oR:List Nat×Bool->Option (cj×cj)
 |([0],false)=>some (.i .i64,.i .i64)
 |([0,0,0,0,0,0,0],true)=>some (.key,.b)
 |([0,0,0,0,0,0,0,0,0,0,0,0,0],true)=>some (.sit,.i .i64)
 |_=>none
mutual
def SV.bJ (m:Nat->Option Nat):SV->Option SV
 | .agg h=>(pY m h).map .agg
 | .IL h=>(pY m h).map .IL
 | .ptr g j q=>(m g).map λi=> .ptr i j q
 | .ap g a b c d e=>(m g).map λi=> .ap i a b c d e
 | .rp g a b c d=>(m g).map λi=> .rp i a b c d
 | .ow g n w=>(m g).map λi=> .ow i n w
 | .os g a b c d=>(m g).map λi=> .os i a b c d
 | .oc g a b c d=>(m g).map λi=> .oc i a b c d
 | .mp g=>(m g).map .mp
 | .fn f a b=>match pY m a,pY m b with
  |some r,some u=>some (.fn f r u)
  |_,_=>none
 | .ud=>some .ud
 | .sc v=>some (.sc v)
 | .il k n=>some (.il k n)
 | .si k n=>some (.si k n)
 | .bl b=>some (.bl b)
 | .sb b=>some (.sb b)
 | .row s l=>some (.row s l)
 | .ep s l i o=>some (.ep s l i o)
 | .ia t h=>some (.ia t h)
 | .ite c a b=>some (.ite c a b)
def pY (m:Nat->Option Nat):List SV->Option (List SV)
 |[]=>some []
 |c::h=>match c.bJ m,pY m h with
  |some x,some p=>some (x::p)
  |_,_=>none
end
mutual
theorem G9 {m:Nat->Option Nat}:∀{v d:SV},v.bJ m=some d->v.g.bJ m=some d.g
 | .agg p,d,h=>by
  simp only[SV.bJ] at h;obtain⟨k,e,rfl⟩:=ε.1 h;simp only[SV.g,δx,te e,ξ];| .IL p,d,h=>by
  simp only[SV.bJ] at h;obtain⟨k,e,rfl⟩:=ε.1 h;simp only[SV.g,δx,te e,ξ];| .fn f a b,d,h=>by
  simp only[SV.bJ] at h;split at h
  next r q e o=>simp only[γ] at h;subst h;simp only[SV.g,δx,te e,te o]
  ·cases h;| .ptr j _ _,d,h| .ap j _ _ _ _ _,d,h| .rp j _ _ _ _,d,h| .ow j _ _,d,h| .os j _ _ _ _,d,h| .oc j _ _ _ _,d,h| .mp j,d,h=>by simp only[SV.bJ] at h;obtain⟨i,e,rfl⟩:=ε.1 h;simp only[SV.g,δx,e,ξ];| .ud,d,h| .sc _,d,h| .il _ _,d,h| .si _ _,d,h| .bl _,d,h| .sb _,d,h| .row _ _,d,h| .ep _ _ _ _,d,h| .ia _ _,d,h| .ite _ _ _,d,h=>by simp only[SV.bJ,γ] at h;subst h;simp only[SV.g,δx]
theorem te {m:Nat->Option Nat}:∀{l n:List SV},pY m l=some n->iu m (gL l)=some (gL n)
 |[],n,h=>by grind[pY,gL,iu];|c::p,n,h=>by
  simp only[pY] at h;split at h
  next s k e o=>simp only[γ] at h;subst h;simp only[gL,iu,G9 e,te o]
  ·cases h
end
def iZ.bJ (m:Nat->Option Nat):iZ->Option iZ
 | .cells d e c a=>if a then some (.cells d e c a) else(pY m d).map λb=> .cells b e c a
 | .dead=>some .dead
 | .row s l e a=>some (.row s l e a)
 | .map j f g h i a=>some (.map j f g h i a)
 | .aoC .. =>none
theorem Ou {m:Nat->Option Nat}:∀{l:List AV},(∀a∈l,Plain a)->iu m l=some l
 |[],_=>by simp[iu];|a::e,h=>by have d:=Ou (m:=m) (l:=e) λb c=>h b (by simp[c]);rcases h a (by simp) with⟨v,rfl,_⟩|⟨n,f,rfl,_⟩<;>simp only[iu,δx,d]
theorem Ot {m:Nat->Option Nat}:∀{l:List (Value×AV)},(∀a∈l,∃v,a.2= .sc v)->nD m l=some l
 |[],_=>by simp[nD];|(k,c)::e,h=>by obtain⟨v,b⟩:=h (k,c) (by simp);simp only at b;subst b;simp only[nD,δx,Ot (l:=e) λa d=>h a (by simp[d])]
theorem G8 {b sv:cj} {d:Bool} {es:List (b.T×sv.T)}:∀a∈es.map (λp=>(nX b d p.1,lV sv p.2)),∃v,a.2= .sc v:=λa c=>by obtain⟨q,_,rfl⟩:=Δ.1 c;exact⟨_,rfl⟩
theorem Oo {m:Nat->Option Nat} {x y:iZ} (h:x.bJ m=some y):x.g.bJ m=some y.g:=by
 cases x with
 |dead=>simp[iZ.bJ] at h;subst h;rfl;|cells o e k a=>
  simp only[iZ.bJ] at h;cases a with
  |true=>simp only[if_true,γ] at h;subst h;simp only[iZ.g,OL.bJ,if_true];|false=>
   simp only[ω,if_false] at h;obtain⟨b,c,rfl⟩:=ε.1 h;simp_all[iZ.g,OL.bJ,te]
 |aoC s l e t=>grind[iZ.bJ];|row s l e a=>
  grind[iZ.bJ,iZ.g,OL.bJ,Ou,mH];|map f n i j d a=>
  simp only[iZ.bJ,γ] at h;subst h;simp only[iZ.g,OL.bJ,Ot G8,ξ];grind
def yB (m:Nat->Option Nat):VI->Option VI
 |[]=>some []
 |x::r=>match x.bJ m,yB m r with
  |some y,some l=>some (y::l)
  |_,_=>none
theorem On {m:Nat->Option Nat}:∀{o o':VI},yB m o=some o'->qY m (gO o)=some (gO o')
 |[],o',h=>by simp[yB] at h;subst h;rfl;|x::r,o',h=>by
  simp only[yB] at h;split at h
  next y l b a=>simp only[γ] at h;subst h;have:=On a;grind[gO,qY,Oo]
  ·cases h
def wA (o:VI) (a:List Nat):List Nat->Option VI
 |[]=>some []
 |i::r=>match o[i]?,wA o a r with
  |some x,some l=>match x.bJ (λj=>idxOf a j) with
   |some y=>some (y::l)
   |none=>none
  |_,_=>none
theorem G7 {o:VI} {a:List Nat}:∀{r:List Nat} {o':VI},wA o a r=some o'->kE (gO o) a r=some (gO o')
 |[],o',h=>by simp[wA] at h;subst h;rfl;|i::r,o',h=>by
  simp only[wA] at h;split at h
  ·rename_i x l d b;split at h
   next y c=>simp only[γ] at h;subst h;simp only[kE,fk d,G7 b,Oo c,ξ];rfl
   ·cases h
  ·cases h
def wz (o:VI):List Nat->VI->VI
 |[],_=>o
 |_,[]=>o
 |i::r,x::l=>wz (o.set i x) r l
theorem Om:∀{a:List Nat} {o l:VI},gO (wz o a l)=lu (gO o) a (gO l)
 |[],o,l=>by simp[wz,lu];|_::_,o,[]=>by simp[wz,lu,gO];|i::r,o,x::l=>by simp only[wz];rw[Om,pq];simp[gO,lu]
def oG (o:VI):Nat->List SV->List Nat->List Nat
 |0,_,c=>c
 |_,[],c=>c
 |d+1,v::i,c=>
  let f (e:Nat) (c:List Nat):List Nat:=
   if c.contains e then c else
   match o[e]? with
   |some (.cells g _ _ h)=>if h then c++[e] else oG o d g (c++[e])
   |_=>c++[e];oG o d i (match v with
   | .agg g| .IL g=>oG o d g c
   | .ptr e _ _| .ap e _ _ _ _ _| .rp e _ _ _ _| .ow e _ _| .os e _ _ _ _| .oc e _ _ _ _| .mp e=>f e c
   | .fn _ a b=>oG o d b (oG o d a c)
   |_=>c)
theorem yA {o:a_}:∀{d:Nat} {l:List AV} {acc:List Nat},(∀a∈l,Plain a)->b_ o d l acc=acc
 |0,_,_,_=>by grind[b_];|d+1,[],_,_=>by grind[b_];|d+1,a::l,acc,h=>by have e:=yA (o:=o) (d:=d) (l:=l) (acc:=acc) λb c=>h b (by simp[c]);rcases h a (by simp) with⟨v,rfl,_⟩|⟨n,f,rfl,_⟩<;>(grind[b_])
theorem Ol {o:a_}:∀{d:Nat} {l:List AV} {acc:List Nat},(∀a∈l,∃v,a= .sc v)->b_ o d l acc=acc
 |0,_,_,_=>by simp[b_];|d+1,[],_,_=>by simp[b_];|d+1,a::l,acc,h=>by obtain⟨v,rfl⟩:=h a (by simp);simp only[b_];exact Ol λa b=>h a (by simp[b])
theorem Zb {l:List (Value×AV)} (h:∀a∈l,∃v,a.2= .sc v):∀a∈l.map (·.2),∃v,a= .sc v:=λa b=>by grind
def iZ.BE:iZ->Bool
 | .aoC .. =>false
 |_=>true
theorem Oj {o:VI} (h:o.all iZ.BE=true):∀{d:Nat} {vs:List SV} {acc:List Nat},b_ (gO o) d (gL vs) acc=oG o d vs acc:=by
 intro d;induction d with
 |zero=>grind[b_,oG];|succ d k=>
  intro vs acc;cases vs with
  |nil=>simp[gL,b_,oG];|cons v vs=>
   have m:∀(b:Nat) (acc:List Nat),(if acc.contains b then acc else
     match(gO o)[b]? with
     |some (.cells f _ _ c)=>if c then acc++[b] else b_ (gO o) d f (acc++[b])
     |some (.map j _ c)=>if c then acc++[b] else b_ (gO o) d (j.map (·.2)) (acc++[b])
     |_=>acc++[b])=(if acc.contains b then acc else
     match o[b]? with
     |some (.cells f _ _ c)=>if c then acc++[b] else oG o d f (acc++[b])
     |_=>acc++[b]):=by
    intro b acc;rw[GL];cases i:o[b]? with
    |none=>rfl;|some x=>
     cases x with
     |aoC s l e t=>
      have:=τ.1 h _ (List.mem_of_getElem? i);grind[iZ.BE];|dead=>rfl;|cells f e r c=>grind[iZ.g];|row s l e c=>simp only[ξ,iZ.g,yA (λa n=>mH n),ite_self];|map p u q j w c=>simp only[ξ,iZ.g,Ol (Zb G8),ite_self]
   simp only[gL,b_,oG];rw[k];congr 1;cases v<;>simp only[SV.g,k]<;>exact m _ _
def G6 (C:FuncId->List SV->VI->(SV->VI->Prop)->Prop) (f:FuncId) (args:List SV) (o:VI) (K:SV->VI->Prop):Prop:=
 if o.all iZ.BE=false then False else
 let a:=oG o fp args [];match pY (λj=>idxOf a j) args,wA o a a with
 |some c,some d=>C f c d λr b=>
   if b.length<a.length\/ir.aoV a=false then False else
   match r.bJ (nC a o.length),yB (nC a o.length) b with
   |some g,some e=>K g (wz o a (e.take a.length)++e.drop a.length)
   |_,_=>False
 |_,_=>False
theorem Za {call:cz} {C:FuncId->List SV->VI->(SV->VI->Prop)->Prop}
  (n:∀f args o K,C f args o K->∃(r:SV) (o':VI),call f (gL args) (gO o) true=some (r.g,gO o')/\K r o')
  {f:FuncId} {args:List SV} {o:VI} {K:SV->VI->Prop} (h:G6 C f args o K):
  ∃(r:SV) (o':VI),ir call f (gL args) (gO o)=some (r.g,gO o')/\K r o':=by
 unfold G6 at h;split at h;·exact h.elim
 rename_i a;simp only[ζB] at a;simp only at h;split at h
 ·rename_i d e i l;obtain⟨r,c,j,b⟩:=n _ _ _ _ h;split at b;·exact b.elim
  ·rename_i p;split at b
   next k q m s=>refine⟨k,_,?_,b⟩;unfold ir;simp only[Oj a];rw[te i,G7 l];simp only[j,nj];rw[if_neg p,G9 m,On s];simp only[PX,Om];simp[gO]
   simp_all
 simp_all
section
variable {P:Program} {T:jy} {p:iI} {Λ:Nat->bH}
theorem Y_ (A:j7 P T) (y:oK T.K p.C) (w:∀f F,p.it f=some F->T.fn f=some F) {f:FuncId} {F:eL} (u:T.fn f=some F) {args:List SV} {o:VI} {r:AV} {o':a_} (G:T.K f (gL args) (gO o) true=none) (n:args.length=F.params)
  {Q:SV->VI->Prop} (m:∀v s,Q v s->v.g=r/\gO s=o') (h:wI p Λ F args o Q):gv P f=true/\j8 P f (gL args) (gO o) r o':=by
 unfold wI at h;have i:=tj y w h;have e:(bF.mk (mE 0 args) o).g=⟨gK 0 (gL args),gO o⟩:=by simp[bF.g,ti]
 rw[e] at i;have j:(gO o).length=o.length:=nj o;rw[<-j] at i;have E:∀(a:bF),(nn a F.res λv=>if v.VJ (gO o).length&&a.o.all (λx=>x.VJ (gO o).length)&&decide ((gO o).length<=a.o.length) then Q v (a.o.take (gO o).length) else False)->
   (nv a.g F.res).bind (λl=>finish true (gO o).length l a.g.o)=some (r,o'):=by
  intro a t;obtain⟨l,k,b⟩:=wD t;rw[k];simp only[δT,finish,if_true];split at b
  ·rename_i q;simp only[ζ,decide_eq_true_eq,τ] at q;obtain⟨⟨z,D⟩,B⟩:=q;have d:∀x∈a.g.o,x.VJ (gO o).length=true:=by grind[bF.g,gO,Bg]
   rw[PZ (by grind[yJ]) d (by grind[bF.g,nj])];rw[<-(m _ _ b).1,<-(m _ _ b).2];simp_all[bF.g,gO]
  ·exact b.elim
 obtain⟨k,b,_⟩:=Bq A u (o:=gO o) (own:=true) G (by grind[jv]) (v:=r) (o':=o') (i.mono λc s H=>by obtain⟨a,rfl,t⟩:=H;cases c<;>grind);simp_all
end
structure cC where
 f:FuncId
 α:Type
 put:α->List SV
 st:α->VI
 dec:List SV->VI->Option α
 ok:∀v o a,dec v o=some a->gL v=gL (put a)/\gO o=gO (st a)
 inj:∀a b,gL (put a)=gL (put b)->gO (st a)=gO (st b)->a=b
 dom:α->Prop
 res:α->SV
 out:α->VI
def dp (P:Program) (c:cC):Prop:=∀a,c.dom a->gv P c.f=true/\j8 P c.f (gL (c.put a)) (gO (c.st a)) (c.res a).g (gO (c.out a))
def lS (f:FuncId):List cC->Option cC
 |[]=>none
 |c::r=>bif δu c.f f then some c else lS f r
theorem Oi:∀{L:List cC} {f:FuncId} {c:cC},lS f L=some c->c.f=f/\c∈L
 |[],_,_,h=>by cases h;|d::L,f,c,h=>by
  simp only[lS] at h;cases a:δu d.f f with
  |true=>
   simp_all;|false=>
   rw[a] at h;simp only[cond_false] at h;obtain⟨b,e⟩:=Oi h;simp_all
def Oh (W:List cC) (f:FuncId) (args:List SV) (o:VI) (K:SV->VI->Prop):Prop:=
 match lS f W with
 |some c=>iH (c.dec args o) λa=>c.dom a/\K (c.res a) (c.out a)
 |none=>False
open Classical in
noncomputable def sL (W:List cC) (f:FuncId) (args:List AV) (o:a_):Option (AV×a_):=
 match lS f W with
 |some c=>if h:∃a,args=gL (c.put a)/\o=gO (c.st a)/\c.dom a then some ((c.res (δU h)).g,gO (c.out (δU h))) else none
 |none=>none
noncomputable def fH (W:List cC):mC:=⟨sL W,λf a o K=>G6 (Oh W) f a o K⟩
theorem j6 {P:Program} {W:List cC} (u:∀c∈W,dp P c):pn P (fH W) where
 K:=λf d o r w h=>by
  simp only[fH,sL] at h;split at h
  ·rename_i c k;obtain⟨rfl,v⟩:=Oi k;split at h
   next e=>simp only[γ,ι] at h;generalize t:δU e=b at h;have n:=εi e;rw[t] at n;obtain⟨p,s,l⟩:=n;obtain⟨j,m⟩:=u c v _ l;simp_all
   ·cases h
  ·cases h
 C:=λq g f d o K h=>by
  refine Za ?_ h;intro f d o K i;simp only[Oh] at i;split at i
  next c k=>obtain⟨a,p,s,l⟩:=iW i;refine⟨_,_,?_,l⟩;rw[g];obtain⟨j,m⟩:=c.ok _ _ _ p;have e:∃b,gL d=gL (c.put b)/\gO o=gO (c.st b)/\c.dom b:=⟨a,j,m,s⟩;simp only[fH,sL,k,dif_pos e];have:δU e=a:=c.inj _ _ ((εi e).1.symm.trans j) ((εi e).2.1.symm.trans m);rw[this]
  simp_all
theorem G5 {P:Program} {i:FuncId->Option eL} {L:List NG} {W:List cC} (c:cC) {F:eL} {m:TypeId->Option cj} {j:List Nat×Bool->Option (cj×cj)} {Λ:c.α->Nat->bH}
  (q:j7 P ⟨i,λ_ _ _ _=>none⟩) (k:∀c∈W,dp P c) (r:∀c∈L,Holds P c)
  (n:i c.f=some F) (e:∀a,(c.put a).length=F.params)
  (a:c.α) (o:∀d,lS c.f W=some d->∀b,gL (c.put a)=gL (d.put b)->gO (c.st a)=gO (d.st b)->¬d.dom b)
  (h:wI (mB L (fH W) m j i) (Λ a) F (c.put a) (c.st a) λv s=>v.bi (c.res a)/\jG s (c.out a)):
  gv P c.f=true/\j8 P c.f (gL (c.put a)) (gO (c.st a)) (c.res a).g (gO (c.out a)):=by
 refine Y_ (p:=mB L (fH W) m j i) (Λ:=Λ a) (Q:=λv s=>v.bi (c.res a)/\jG s (c.out a)) (tg (j6 k) r q) (tf (j6 k)) (λ_ _ h=>h) n ?_ (e a) (λv s l=>⟨l.1,wE l.2⟩) ?_
 ·simp only[po,qQ,if_true,fH,sL];grind
 ·exact h
mutual
def kB (o:VI) (k:Nat):SV->(SV->Prop)->Prop
 | .ow e n h,K=>if k<=e then(match o[e]? with
   |some (.row s l _ true)=>if h=s.sz then n=l.length/\K (.row s l) else False
   |some (.row _ _ _ false)=>K (.ow e n h)
   |_=>False) else K (.ow e n h)
 | .ptr e f t,K=>if k<=e then(match o[e]? with
   |some (.cells _ _ _ false)=>K (.ptr e f t)
   |_=>False) else K (.ptr e f t)
 | .agg g,K=>qP o k g λd=>K (.agg d)
 | .IL g,K=>qP o k g λd=>K (.IL d)
 | .ud,K=>K .ud
 | .sc v,K=>K (.sc v)
 | .il q n,K=>K (.il q n)
 | .si q n,K=>K (.si q n)
 | .bl b,K=>K (.bl b)
 | .sb b,K=>K (.sb b)
 | .row s l,K=>K (.row s l)
 | .mp i,K=>K (.mp i)
 | .ia t g,K=>K (.ia t g)
 | .fn f a b,K=>qP o k a λm=>qP o k b λj=>K (.fn f m j)
 |_,_=>False
def qP (o:VI) (k:Nat):List SV->(List SV->Prop)->Prop
 |[],K=>K []
 |c::g,K=>kB o k c λp=>qP o k g λd=>K (p::d)
end
section
variable {o:VI} {k:Nat}
mutual
theorem G4:∀{v:SV} {K:SV->Prop},kB o k v K->∃u:SV,v.g.TL (gO o) (λi=>decide (k<=i))=some u.g/\K u
 | .ow B n A,K,h=>by
  simp only[kB] at h;split at h
  ·rename_i q;split at h
   ·rename_i s l e w;split at h
    next r=>subst r;obtain⟨rfl,h⟩:=h;refine⟨_,?_,h⟩;have y:Ξ (l.length*s.sz) (bO s l)=bO s l:=γr (by grind[eh]);simp_all[SV.g,AV.TL,fk,iZ.g,eh]
    simp_all
   next s l e w=>refine⟨_,?_,h⟩;simp_all[SV.g,AV.TL,fk,iZ.g]
   simp_all
  ·rename_i q;refine⟨_,?_,h⟩;simp_all[SV.g,AV.TL,if_neg];| .ptr B f t,K,h=>by
  simp only[kB] at h;split at h
  ·rename_i q;split at h
   next j e A w=>refine⟨_,?_,h⟩;simp_all[SV.g,AV.TL,fk,iZ.g]
   simp_all
  next q=>refine⟨_,?_,h⟩;simp_all[SV.g,AV.TL,if_neg];| .agg j,K,h=>by simp only[kB] at h;obtain⟨d,p,m⟩:=wy h;grind[SV.g,AV.TL];| .IL j,K,h=>by simp only[kB] at h;obtain⟨d,p,m⟩:=wy h;grind[SV.g,AV.TL];| .ud,K,h=>⟨.ud,by grind[SV.g,AV.TL],by grind[kB]⟩
 | .sc v,K,h=>⟨.sc v,by grind[SV.g,AV.TL],by grind[kB]⟩
 | .il k n,K,h=>⟨.il k n,by grind[SV.g,AV.TL],by grind[kB]⟩
 | .si k n,K,h=>⟨.si k n,by grind[SV.g,AV.TL],by grind[kB]⟩
 | .bl b,K,h=>⟨.bl b,by grind[SV.g,AV.TL],by grind[kB]⟩
 | .sb b,K,h=>⟨.sb b,by grind[SV.g,AV.TL],by grind[kB]⟩
 | .row s l,K,h=>⟨.row s l,by grind[SV.g,AV.TL],by grind[kB]⟩
 | .mp i,K,h=>⟨.mp i,by grind[SV.g,AV.TL],by grind[kB]⟩
 | .ia t j,K,h=>⟨.ia t j,by grind[SV.g,AV.TL],by grind[kB]⟩
 | .fn f a b,K,h=>by simp only[kB] at h;obtain⟨D,p,m⟩:=wy h;obtain⟨C,z,x⟩:=wy m;grind[SV.g,AV.TL];| .ep ..,K,h| .ap ..,K,h| .rp ..,K,h| .os ..,K,h| .oc ..,K,h| .ite ..,K,h=>by simp only[kB] at h
theorem wy:∀{j:List SV} {K:List SV->Prop},qP o k j K->∃d:List SV,gw (gO o) (λi=>decide (k<=i)) (gL j)=some (gL d)/\K d
 |[],K,h=>⟨[],by simp[gL,gw],by grind[qP]⟩
 |c::j,K,h=>by simp only[qP] at h;obtain⟨E,p,m⟩:=G4 h;obtain⟨d,z,x⟩:=wy m;grind[gL,gw]
end
def nT (o:VI) (k:Nat):Nat->VI->(VI->Prop)->Prop
 |_,[],K=>K []
 |i,x::r,K=>match x with
  | .cells f e m false=>qP o k f λc=>nT o k (i+1) r λa=>K (.cells c e m false::a)
  | .row s l e b=>nT o k (i+1) r λa=>K ((if b&&decide (k<=i) then .dead else .row s l e b)::a)
  | .map g n d j h b=>nT o k (i+1) r λa=>K (.map g n d j h b::a)
  | .dead=>nT o k (i+1) r λa=>K (.dead::a)
  |_=>False
theorem wx:∀{i:Nat} {r:VI} {K:VI->Prop},nT o k i r K->∃B mid,jj (gO o) (λi=>decide (k<=i)) (gO r)=some mid/\fo (λi=>decide (k<=i)) i mid=gO B/\K B
 |i,[],K,h=>⟨[],[],rfl,rfl,h⟩
 |i,x::r,K,h=>by
  cases x with
  |dead=>
   simp only[nT] at h;obtain⟨B,mid,m,b,e⟩:=wx h;grind[gO,iZ.g,jj,OL.TL,fo];|cells A c z a=>
   cases a with
   |true=>grind[nT];|false=>
    simp only[nT] at h;obtain⟨j,y,f⟩:=wy h;obtain⟨B,mid,m,b,e⟩:=wx f;refine⟨_,.cells (gL j) c z false::mid,?_,?_,e⟩;all_goals simp_all[gO,iZ.g,jj,OL.TL,fo]
  |aoC s l c t=>grind[nT];|row s l c a=>
   simp only[nT] at h;obtain⟨B,mid,m,b,e⟩:=wx h;refine⟨_,(iZ.row s l c a).g::mid,?_,?_,e⟩
   ·have d:(iZ.row s l c a).g.TL (gO o) (λi=>decide (k<=i))=some (iZ.row s l c a).g:=by
     cases a with
     |true=>simp only[iZ.g,OL.TL,if_true];|false=>
      simp only[iZ.g,OL.TL,ω,if_false];grind[BG,mH]
    grind[gO,jj]
   ·cases a with
    |true=>
     simp only[iZ.g,fo,Bool.true_and];by_cases n:k<=i
     ·simp only[n,decide_true,if_true];rw[b];rfl
     ·simp only[n,decide_false,ω,if_false];rw[b];rfl;|false=>simp only[iZ.g,fo,Bool.false_and,ω,if_false];rw[b];rfl
  |map u p q w v a=>
   simp only[nT] at h;obtain⟨B,mid,m,b,e⟩:=wx h;have d:(iZ.map u p q w v a).g.TL (gO o) (λi=>decide (k<=i))=some (iZ.map u p q w v a).g:=by
    cases a with
    |true=>simp only[iZ.g,OL.TL,if_true];|false=>
     simp only[iZ.g,OL.TL,ω,if_false];rw[Gr G8,ξ]
   grind[gO,jj,iZ.g,fo]
end
def BD (r:SV) (o:VI) (K:SV->VI->Prop):Prop:=
 kB o 0 r λc=>nT o 0 0 o λb=>
  if b.all iZ.BE=false then False else
  let a:=oG b fp [c] [];if ir.aoV a then match c.bJ (λj=>idxOf a j),wA b a a with
   |some e,some d=>K e d
   |_,_=>False
  else False
theorem Y9 {r:SV} {o:VI} {K:SV->VI->Prop} (h:BD r o K):∃u o',lr 0 r.g (gO o)=some (u.g,gO o')/\K u o':=by
 unfold BD at h;obtain⟨m,n,k⟩:=G4 h;obtain⟨c,i,e,f,a⟩:=wx k;split at a;·exact a.elim
 rename_i b;simp only[ζB] at b;simp only at a;split at a
 ·rename_i t;split at a
  next j l p q=>refine⟨j,l,?_,a⟩;unfold lr;rw[n,e];simp only[f,List.take_zero,ζO,List.range_zero];have s:=Oj (o:=c) b (d:=fp) (vs:=[m]) (acc:=[]);simp_all[gL,G9,G7]
  simp_all
 simp_all
def G3 (p:iI) (Λ:Nat->bH) (F:eL) (args:List SV) (Q:SV->VI->Prop):Prop:=
 wpS p 0 F.body Λ ⟨mE 0 args,[]⟩ λa b=>match a with
  | .exit _=>False
  | .goto _=>False
  |_=>nn b F.res λr=>BD r b.o Q
theorem Y8 {P:Program} {T:jy} {p:iI} {Λ:Nat->bH} (y:j7 P T) (t:oK T.K p.C) (x:∀f F,p.it f=some F->T.fn f=some F) {f:FuncId} {F:eL} (m:T.fn f=some F) {args:List SV} {r:AV} {o':a_} (A:T.K f (gL args) [] true=none) (j:args.length=F.params)
  {Q:SV->VI->Prop} (D:∀v s,Q v s->v.g=r/\gO s=o') (h:G3 p Λ F args Q):gv P f=true/\j8 P f (gL args) [] r o':=by
 unfold G3 at h;have k:=tj t x h;have b:(bF.mk (mE 0 args) []).g=⟨gK 0 (gL args),[]⟩:=by simp[bF.g,ti,gO]
 rw[b] at k;have n:∀(a:bF),(nn a F.res λv=>BD v a.o Q)->(nv a.g F.res).bind (λc=>finish true 0 c a.g.o)=some (r,o'):=by intro a l;obtain⟨c,e,i⟩:=wD l;obtain⟨u,q,w,B⟩:=Y9 i;rw[e];simp only[δT,finish,if_true];have:lr 0 c.g a.g.o=some (u.g,gO q):=w;grind
 obtain⟨e,i,_⟩:=Bq y m (o:=[]) (own:=true) A (by grind[jv]) (v:=r) (o':=o') (k.mono λd s z=>by obtain⟨a,rfl,l⟩:=z;cases d<;>simp_all);simp_all
theorem ZF {W:List cC} {f:FuncId} {args:List AV} {o:a_} (h:lS f W=none):sL W f args o=none:=by grind[sL]
open Go.Proofs.YtbnhiekmnpikhaaGreat.Ir
open Go.Proofs
def BC (f:Nat):List (Nat×List RH)->Option (List RH)
 |[]=>none
 |e::r=>bif δu e.1 f then some e.2 else BC f r
noncomputable def ix (f:FuncId):Option eL:=
 match BC f Qq with
 |none=>none
 |some H=>match Tryz.prog.funcs[f]? with
  |none=>none
  |some g=>AY Tryz.prog H g
noncomputable def fG (f:FuncId):eL:=(ix f).getD ⟨0,0,.skip,[]⟩
theorem yz {f:FuncId} (h:(ix f).isSome=true):ix f=some (fG f):=by unfold fG;cases q:ix f<;>simp_all
theorem Og {f:Nat} {H:List RH} {p:Nat->Bool}:∀{l:List (Nat×List RH)},BC f l=some H->(l.all λe=>p e.1)=true->p f=true
 |[],h,_=>by cases h;|e::r,h,k=>by
  simp only[BC] at h;simp only[List.all_cons,ζ] at k;cases q:δu e.1 f with
  |true=>simp_all;|false=>rw[q] at h;exact Og h k.2
theorem ZE:(Qq.all λe=>gv Tryz.prog e.1)=true:=by kernel_rfl
theorem pX:j7 Tryz.prog ⟨ix,λ_ _ _ _=>none⟩ where
 fn:=λf F h=>by
  simp only[ix] at h;split at h;·cases h
  ·rename_i H q;split at h;·cases h
   next g r=>exact⟨g,H,r,h,Og (p:=gv Tryz.prog) q ZE⟩
 K:=λ_ _ _ _ _ _ h=>by cases h
def lk {a:Type}:a->Nat->bH:=λ_ _=> .look
structure Vc (A:Prop):Prop where
 out:A
theorem NI {A:Prop} (B:Prop) (h:B=A) (a:B):Vc A:=⟨h▸a⟩
theorem jY {L:List NG} {W:mC} (c:NG) (i:c.α->Nat->bH) (j:pn Tryz.prog W) (e:∀c∈L,Holds Tryz.prog c)
  
  (h:∀a,c.dom a->Vc (rH (mB L W oQ oR ix) (i a) (fG c.f) (c.A.put a) λv=>v.qS (c.res a))) (k:(ix c.f).isSome=true:=by kernel_rfl) (d:oH c.f L=none:=by kernel_rfl) (b:∀a,(c.A.put a).length=(fG c.f).params:=by intro _;kernel_rfl):Holds Tryz.prog c:=
 holds_of c pX j e (yz k) d b λa g=>(h a g).out
theorem bI {L:List NG} (c:NG) (e:c.α->Nat->bH) (g:∀c∈L,Holds Tryz.prog c) (h:∀a,c.dom a->Vc (rH (mB L mC.none oQ oR ix) (e a) (fG c.f) (c.A.put a) λv=>v.qS (c.res a)))
  (i:(ix c.f).isSome=true:=by kernel_rfl) (d:oH c.f L=none:=by kernel_rfl) (b:∀a,(c.A.put a).length=(fG c.f).params:=by intro _;kernel_rfl):Holds Tryz.prog c:=jY c e (pn.none _) g h i d b
theorem ZD {L:List NG} {W:mC} (c:NG) (l:FuncId->Bool) (i:c.α->Nat->bH) (j:pn Tryz.prog W) (e:∀c∈L,Holds Tryz.prog c)
  
  (h:∀a,c.dom a->Vc (rH (Ha L W oQ oR ix l) (i a) (fG c.f) (c.A.put a) λv=>v.qS (c.res a))) (k:(ix c.f).isSome=true:=by kernel_rfl) (d:oH c.f L=none:=by kernel_rfl) (b:∀a,(c.A.put a).length=(fG c.f).params:=by intro _;kernel_rfl):Holds Tryz.prog c:=
 Zc c pX j e (yz k) d b λa g=>(h a g).out
theorem jE {L:List NG} {W:List cC} (c:cC) (Λ:c.α->Nat->bH) (i:∀c∈W,dp Tryz.prog c) (e:∀c∈L,Holds Tryz.prog c)
  
  (h:∀a,c.dom a->Vc (wI (mB L (fH W) oQ oR ix) (Λ a) (fG c.f) (c.put a) (c.st a) λv s=>v.bi (c.res a)/\jG s (c.out a))) (g:(ix c.f).isSome=true:=by kernel_rfl) (b:∀a,(c.put a).length=(fG c.f).params:=by intro _;kernel_rfl) (k:lS c.f W=none:=by kernel_rfl):dp Tryz.prog c:=
 λa j=>G5 c pX i e (yz g) b a (λd l=>by simp_all) (h a j).out
theorem ZC {L:List NG} {W:List cC} (c:cC) (F:eL) (i:c.α->Nat->bH) (k:∀c∈W,dp Tryz.prog c) (e:∀c∈L,Holds Tryz.prog c)
  
  (h:∀a,c.dom a->Vc (wI (mB L (fH W) oQ oR ix) (i a) F (c.put a) (c.st a) λv s=>v.bi (c.res a)/\jG s (c.out a))) (g:ix c.f=some F:=by kernel_rfl) (b:∀a,(c.put a).length=F.params:=by intro _;kernel_rfl) (l:lS c.f W=none:=by kernel_rfl):dp Tryz.prog c:=
 λa j=>G5 c pX k e g b a (λd m=>by simp_all) (h a j).out
theorem BB {L:List NG} {W:List cC} (c:cC) (g:Nat->Option (Nat×Nat×Nat)) (Λ:c.α->Nat->bH) (i:∀c∈W,dp Tryz.prog c) (j:∀c∈L,Holds Tryz.prog c)
  
  (h:∀a,c.dom a->Vc (G3 ⟨⟨th L,(fH W).C⟩,oQ,oR,g,λ_=>none,λ_=>false⟩ (Λ a) (fG c.f) (c.put a) λv s=>v.bi (c.res a)/\jG s (c.out a))) (l:(ix c.f).isSome=true:=by kernel_rfl) (b:∀a,(c.put a).length=(fG c.f).params:=by intro _;kernel_rfl) (d:∀a,c.st a=[]:=by intro _;rfl) (k:lS c.f W=none:=by kernel_rfl):dp Tryz.prog c:=
 λa m=>by rw[d a];refine Y8 (p:=⟨⟨th L,(fH W).C⟩,oQ,oR,g,λ_=>none,λ_=>false⟩) (Λ:=Λ a) (Q:=λv s=>v.bi (c.res a)/\jG s (c.out a)) (tg (j6 i) j pX) (tf (j6 i)) (λ_ _ h=>by cases h) (yz l) ?_ (b a) (λv s e=>⟨e.1,wE e.2⟩) (h a m).out;simp_all[po,qQ,fH,ZF]
end Go.Vi
