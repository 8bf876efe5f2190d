import Derived.Test.YtbnhiekmnpikhaaGreatDW03
import Derived.Deep.Slices
import Derived.OpenShut
import Derived.ProofKit
import Derived.Test.YtbnhiekmnpikhaaGreatRows
set_option maxRecDepth 100000
set_option maxHeartbeats 4000000
set_option linter.all false
open And renaming intro->γk
open BitVec renaming ofInt->γq
open Bool renaming and_eq_true->ζ,eq_false_iff->δO,and_true->δI,or_eq_true->δd
open Classical renaming not_not->γa
open Go.Vi.SV renaming row->Ω,g->ε8,si->γc,bi->ε4,il->γu,sb->γA,bl->δb,ptr->γM,mp->θC,ow->γZ,agg->γG
open Int renaming pow_pos->δE,one_mul->εa,toNat_natCast->γg,le_trans->εj,pow_succ->γW,mul_add->εG,add_comm->ζW,emod_nonneg->δS,emod_lt_of_pos->δp,ediv_nonneg->δ3,mul_ediv_add_emod->εm,ediv_eq_zero_of_lt->εR,emod_eq_of_lt->δP,eq_ofNat_of_zero_le->δJ,tdiv_eq_ediv_of_nonneg->ζg,tmod_eq_emod_of_nonneg->ζh,mul_nonneg->γz,mul_le_mul->δL,mul_le_mul_of_nonneg_left->Ψ,le_of_lt->γi,mul_le_mul_of_nonneg_right->γX,mul_comm->δ7,sub_mul->ζ9,mul_assoc->δm,mul_sub->εU,mul_zero->δM,add_zero->εo,mul_one->ζb
open List renaming map_cons->ν,cons_append->γL,length_range->εT,range->Γ,getElem?_cons_zero->δo,getElem?_cons_succ->γR,getElem?_eq_getElem->μ,all_eq_true->τ,mem_range->γt,take->Ξ,mem_of_mem_take->γj,take_length->φ,forall_mem_cons->δr,not_mem_nil->δl,map->γd,drop->γ3,drop_length->δD,length_append->γF,length_singleton->ε2,append_nil->γ1,mem_cons->γl,map_nil->γv,foldl_cons->δQ,mem_filter->Θ,length_cons->γC,length_filter_le->γT,filter_append->δV,length_take->γx,mem_singleton->δy,mem_map->Δ,map_append->γb,mem_append->γo,nodup_cons->γQ,pairwise_cons->γp,filter_sublist->γn,map_map->γO,drop_of_length_le->εd,replicate->δ,range_succ->εl,take_of_length_le->γr,replicate_zero->ζa,mem_of_mem_drop->γY
open List.Nodup renaming sublist->θd
open List.cons renaming injEq->χ
open Nat renaming le_refl->π
open Option renaming map_eq_some_iff->ε,map->ζD,map_map->ζu,map_some->ξ,isSome_iff_exists->γE,getD_some->δB
open Option.some renaming injEq->γ
open Prod.mk renaming injEq->ι
namespace Go.Vi
open Go.ChangeShapes Go.WideShapes Go.RowKit
abbrev jX:c_:=⟨λ_=>False,0⟩
instance (s:cj):Inhabited s.T:=⟨s.bw⟩
theorem ZB (b:Nat):Fr jX [] b:=⟨by rintro⟨i,c,h⟩;simp at h,λh=>h⟩
theorem Of {A:c_} {w:World} {σ:TN} {o:a_}:∀{vs:List Value},(∀v∈vs,v.oneCell'=true)->Aq A w σ o (vs.map .sc) vs
 |[],_=>by simp[Aq];|v::vs,h=>by simp only[ν,Aq];exact⟨v,vs,rfl,by grind[nA],Of λu a=>h u (by simp[a])⟩
theorem Oe {A:c_} {w:World} {σ:TN} {o:a_}:∀{a b:List AV} {x:Option Addr} {j:Nat},cF A w σ o a x j->cF A w σ o b x (j+a.length)->cF A w σ o (a++b) x j
 |[],b,x,j,_,h=>by simpa using h;|c::a,b,x,j,h,k=>by simp only[γL,cF] at h ⊢;refine⟨h.1,Oe h.2 ?_⟩;grind
def Reads (P:Program) (t:TypeId) (s:cj):Prop:=
 ∀(H:Type) (e:TypeId×Value->H) (w:World) (d:Nat) (a:Nat->Bool) (c:Bool) (b:Nat) (f:List Value) (x:DataW H×List MemPlace),DataW.trod e P w d a c b t f=some x->∃y:s.T,f=cD s y
theorem ZA {P:Program} {t:TypeId} {k:IntKind} (a:P.underlying t=some (.int k)):Reads P t (.i k):=λ_ _ _ _ _ _ _ b _ h=>by obtain⟨n,rfl,_,_⟩:=DataW.trod_int a h;exact⟨n,rfl⟩
theorem Zz {w:World} {base n:Nat} {a:Addr} {cs:List Value} (h:w.cells? base a n=some cs):cs.length=n/\∀i v,cs[i]?=some v->w.cell? (a.add i)=some v:=by
 unfold World.cells? at h;split at h
 ·obtain⟨c,f⟩:=AN h;simp only[εT] at c;refine⟨c,λi v d=>?_⟩;have j:=(List.getElem?_eq_some_iff.1 d).1;obtain⟨b,g,e⟩:=f i i (by simp_all);simp_all
 ·cases h
def BA (P:Program) (t:TypeId) (s:cj):Prop:=
 ∀(H:Type) (d:TypeId×Value->H) (w:World) (a:Nat->Bool) (c:Bool) (b:Nat) (e:List Value) (x:DataW H×List MemPlace),DataW.trod d P w 0 a c b t e=some x->∃y:s.T,Aq jX w [] [] (dh s y) e
theorem Reads.g {P:Program} {t:TypeId} {s:cj} (h:Reads P t s) (i:s.flat=true:=by rfl):BA P t s:=λH d w a c b e x f=>by obtain⟨y,rfl⟩:=h H d w 0 a c b e x f;exact⟨y,by grind[Bp,Of,Bn]⟩
theorem Od {w:World} {a:Addr}:∀{cs:List AV} {vs:List Value} {j:Nat},Aq jX w [] [] cs vs->(∀i v,vs[i]?=some v->w.cell? (a.add (j+i))=some v)->cF jX w [] [] cs (some a) j
 |[],_,_,_,_=>by simp[cF];|c::cs,vs,j,b,d=>by simp only[Aq] at b;obtain⟨v,r,rfl,e,f⟩:=b;simp only[cF];refine⟨⟨a,v,rfl,ZB _,by simpa using d 0 v (by simp),e⟩,Od f λi u g=>?_⟩;have:=d (i+1) u (by simp_all);grind
theorem Oc {w:World} {a:Addr} {s:cj}:∀{l:List s.T} {i0:Nat},(∀i y,l[i]?=some y->∃cs,w.cells? 0 (a.add ((i0+i)*s.sz)) s.sz=some cs/\Aq jX w [] [] (dh s y) cs)->cF jX w [] [] (bO s l) (some a) (i0*s.sz)
 |[],_,_=>by simp[bO,cF];|y::l,i0,h=>by
  obtain⟨cs,b,c⟩:=h 0 y (by simp);rw[Nat.add_zero] at b;obtain⟨d,g⟩:=Zz b;have e:bO s (y::l)=dh s y++bO s l:=by simp[bO]
  rw[e];refine Oe (Od c λi v j=>?_) ?_;·grind[add_add]
  ·rw[lj,show i0*s.sz+s.sz=(i0+1)*s.sz from by grind];refine Oc λi z f=>?_;have:=h (i+1) z (by simp_all);grind
theorem Zy {P:Program} {t e:TypeId} {s:cj} (A:P.underlying t=some (.slice e)) (r:BA P e s) (I:P.cellsOf e=s.sz)
  {H:Type} {enc:TypeId×Value->H} {w:World} {c:Nat->Bool} {j:Bool} {d:Nat} {cs:List Value} {x:DataW H×List MemPlace} (h:DataW.trod enc P w 0 c j d t cs=some x):
  ∃(v:Value) (l:List s.T),cs=[v]/\nA jX w [] [] (Ω s l).g v:=by
 rcases Go.Deep.open_slice A h with⟨rfl,_⟩|⟨a,b,k,m,n,D,F,rfl,M,z,L,o,_,q⟩;·exact⟨_,[],rfl,by grind[ε8,nA,bO,cJ,cF]⟩
 ·have B:b<=m:=by grind
  have C:∀i,i<b->∃y:s.T,∃cs,w.cells? 0 (a.add (i*s.sz)) s.sz=some cs/\Aq jX w [] [] (dh s y) cs:=λi J=>by obtain⟨p,K,E⟩:=q i (by omega);obtain⟨y,u⟩:=r _ _ _ _ _ _ _ _ E;grind
  obtain⟨f,G⟩:=Go.Deep.choose_lt C;refine⟨_,(Γ b).map f,rfl,?_⟩;simp only[ε8,nA,List.length_map,εT];refine⟨some a,k,rfl,z,nV _ _,?_⟩;have:=Oc (w:=w) (a:=a) (s:=s) (l:=(Γ b).map f) (i0:=0) (λi y u=>by grind);simp_all
theorem Ob {P:Program} {t e:TypeId} {s:cj} (i:P.underlying t=some (.slice e)) (f:Reads P e s) (j:P.cellsOf e=s.sz)
  {H:Type} {enc:TypeId×Value->H} {w:World} {a:Nat->Bool} {c:Bool} {b:Nat} {cs:List Value} {x:DataW H×List MemPlace} (h:DataW.trod enc P w 0 a c b t cs=some x) (d:s.flat=true:=by rfl):
  ∃(v:Value) (l:List s.T),cs=[v]/\nA jX w [] [] (Ω s l).g v:=Zy i (f.g d) j h
theorem Zx {cs:List Value} {i:Nat} {v:Value} (h:(cs.drop i).take 1=[v]):cs[i]?=some v:=by
 have:((cs.drop i).take 1)[0]?=some v:=by rw[h];rfl
 grind
theorem Zw {P:Program} {t e:TypeId} (s:P.underlying t=some (.array 6 e)) (F:P.underlying e=some (.int .i64)) (H:P.cellsOf e=1) (l:P.cellsOf t=6):Reads P t .bun:=λ_ _ _ _ _ _ _ c _ h=>by
 obtain⟨z,m,_,_,b,v,D⟩:=DataW.trod_array s h;have a:∀i,i<6->∃n,c[i]?=some (.int .i64 n):=λi w=>by grind[DataW.trod_int,Zx]
 rw[l] at b;match c,b,a with
 |[C,A,I,G,B,E],_,a=>
  obtain⟨o,y⟩:=a 0 (by omega);obtain⟨x,d⟩:=a 1 (by omega);obtain⟨p,u⟩:=a 2 (by omega);obtain⟨j,r⟩:=a 3 (by omega);obtain⟨k,f⟩:=a 4 (by omega);obtain⟨q,g⟩:=a 5 (by omega);simp only[δo,γR,γ] at y d u r f g;exact⟨⟨o,x,p,j,k,q⟩,by grind[cD,iv]⟩
theorem Ya {P:Program} {t b i v:TypeId} {fs:Array Field} (w:P.underlying t=some (.struct fs)) (r:P.cellsOf t=8) (N:(fs[0]?).map (λf=>(f.type,f.offset))=some (i,0)) (O:(fs[1]?).map (λf=>(f.type,f.offset))=some (b,1)) (u:(fs[2]?).map (λf=>(f.type,f.offset))=some (v,7))
  (x:P.underlying i=some (.int .i64)) (e:P.cellsOf i=1) (q:P.underlying v=some (.int .i64)) (k:P.cellsOf v=1) (z:Reads P b .bun) (d:P.cellsOf b=6) (I:fs.size=3):Reads P t .bu:=λ_ _ _ _ _ _ _ B _ h=>by
 obtain⟨T,m,_,_,n,K,j⟩:=DataW.trod_struct w h;rw[r] at n;obtain⟨F,C,g⟩:=ε.1 N;obtain⟨s,D,c⟩:=ε.1 O;obtain⟨J,A,a⟩:=ε.1 u;simp only[ι] at g c a;have o:=j 0 F C;have l:=j 1 s D;have p:=j 2 J A;rw[g.1,g.2,e,μ (by omega)] at o;rw[c.1,c.2,d,μ (by omega)] at l;rw[a.1,a.2,k,μ (by omega)] at p;obtain⟨G,M,_⟩:=DataW.trod_int x o;obtain⟨y,E⟩:=z _ _ _ _ _ _ _ _ _ l;obtain⟨H,L,_⟩:=DataW.trod_int q p;match B,n with
 |[S,U,R,V,Y,X,Q,W],_=>
  simp[cD] at M E L;exact⟨⟨G,y,H⟩,by grind[cD,iv]⟩
theorem X_ {P:Program} {t b k o:TypeId} {fs:Array Field} (ht:P.underlying t=some (.struct fs)) (hn:P.cellsOf t=20) (a7:fs.size=5)
  (h0:(fs[0]?).map (λf=>(f.type,f.offset))=some (b,0)) (h1:(fs[1]?).map (λf=>(f.type,f.offset))=some (b,6)) (h2:(fs[2]?).map (λf=>(f.type,f.offset))=some (b,12))
  (U:(fs[3]?).map (λf=>(f.type,f.offset))=some (k,18)) (h4:(fs[4]?).map (λf=>(f.type,f.offset))=some (o,19))
  (s:Reads P b .bun) (d:P.cellsOf b=6) {e:TypeId} (hk:P.underlying k=some (.slice e)) (z:Reads P e (.i .i64)) (A:P.cellsOf e=1) (y:P.cellsOf k=1)
  {f:TypeId} (ho:P.underlying o=some (.slice f)) (F:Reads P f .bu) (u:P.cellsOf f=8) (v:P.cellsOf o=1)
  {H:Type} {enc:TypeId×Value->H} {w:World} {c:Nat->Bool} {q:Bool} {j:Nat} {cs:List Value} {x:DataW H×List MemPlace} (h:DataW.trod enc P w 0 c q j t cs=some x):
  ∃p:ew,Aq jX w [] [] (gL p.ss) cs:=by
 obtain⟨xs,m,_,_,O,a1,l⟩:=DataW.trod_struct ht h;rw[hn] at O;obtain⟨f0,e0,E⟩:=ε.1 h0;obtain⟨f1,e1,D⟩:=ε.1 h1;obtain⟨Z,e2,r⟩:=ε.1 h2;obtain⟨f3,T,B⟩:=ε.1 U;obtain⟨f4,e4,C⟩:=ε.1 h4;simp only[ι] at E D r B C;have S:=l 0 f0 e0;have I:=l 1 f1 e1;have R:=l 2 Z e2;have J:=l 3 f3 T;have M:=l 4 f4 e4;rw[E.1,E.2,d,μ (by omega)] at S;rw[D.1,D.2,d,μ (by omega)] at I;rw[r.1,r.2,d,μ (by omega)] at R;rw[B.1,B.2,y,μ (by omega)] at J;rw[C.1,C.2,v,μ (by omega)] at M;obtain⟨y0,K⟩:=s _ _ _ _ _ _ _ _ _ S;obtain⟨y1,Q⟩:=s _ _ _ _ _ _ _ _ _ I;obtain⟨y2,G⟩:=s _ _ _ _ _ _ _ _ _ R;obtain⟨v3,l3,L,r3⟩:=Ob hk z A J;obtain⟨v4,W,N,r4⟩:=Ob ho F u M;match cs,O with
 |[c0,c1,c2,c3,c4,c5,c6,c7,c8,c9,a0,a5,V,a6,a8,a2,a4,Y,a3,X],_=>
  simp[cD,iv] at K Q G L N;obtain⟨rfl,rfl,rfl,rfl,rfl,rfl⟩:=K;obtain⟨rfl,rfl,rfl,rfl,rfl,rfl⟩:=Q;obtain⟨rfl,rfl,rfl,rfl,rfl,rfl⟩:=G;subst L;subst N;refine⟨⟨y0,y1,y2,l3,W⟩,?_⟩;have a:∀n:Int,nA jX w [] [] (γc .i64 n).g (.int .i64 n):=λn=>by simp[ε8,nA,Value.oneCell']
  simp only[ew.ss,gL,Aq];exact⟨_,_,rfl,a _,_,_,rfl,a _,_,_,rfl,a _,_,_,rfl,a _,_,_,rfl,a _,_,_,rfl,a _,_,_,rfl,a _,_,_,rfl,a _,_,_,rfl,a _,_,_,rfl,a _,_,_,rfl,a _,_,_,rfl,a _,
   _,_,rfl,a _,_,_,rfl,a _,_,_,rfl,a _,_,_,rfl,a _,_,_,rfl,a _,_,_,rfl,a _,_,_,rfl,r3,_,_,rfl,r4,rfl⟩
theorem X9 {P:Program} {w:World} {r:Reach} {base:Nat} {t:TypeId} {v:Value} {fs:Array Field} (a:P.underlying t=some (.struct fs)) (h:Value.okWide P w r base t v):∃cs,v= .agg cs/\v.cells.toList=cs.toList:=by unfold Value.okWide at h;rw[a] at h;obtain⟨cs,rfl,_⟩:=h;exact⟨cs,rfl,rfl⟩
theorem Oa {H:Type} {enc:TypeId×Value->H} {P:Program} (j:laidOutB P=true) {W l:World} (n:Below W.heap.size W l) {m:Nat->Bool}:
  ∀{f:List TypeId} {vs:List Value} {i:List (DataW H)} {g:List MemPlace},DataW.TrodAll enc P W 0 (λ_=>true) true f vs i g->(∀t∈f,P.readableRec t=true/\t<P.types.size)->(∀p∈g,p.block<W.heap.size)->(∀p∈g,m p.block=true)->
   DataW.TrodAll enc P l 0 m true f vs i g
 |[],_,_,_,h,_,_,_=>by
  obtain⟨rfl,rfl,rfl⟩:=trodAll_nil h;exact rfl;|t::f,_,_,_,h,o,e,k=>by
  obtain⟨v,vs,d,i,a,b,rfl,rfl,rfl,r,s⟩:=trodAll_cons h;obtain⟨x,q⟩:=o t (by simp);exact⟨a,b,WideElems.Trod_stays j x q r (λp c=>n.same (e p (by simp[c]))) (λp c=>k p (by simp[c])),
   Oa j n s (λu w=>o u (by simp[w])) (λp c=>e p (by simp[c])) (λp c=>k p (by simp[c])),rfl⟩
theorem N_ {W b:World} {a:TN} {o':a_} (h:Ext W [] [] b a o'):Below W.heap.size W b:=
 ⟨h.os,h.tape,h.output,h.size,λk e=>(h.blk k e (by rintro⟨i,c,d⟩;simp at d)).1⟩
open Go.Proofs.YtbnhiekmnpikhaaGreat.Ir
open Go.Proofs
@[simp] theorem X8 {k c:IntKind} {a b:Int}:(γc k a).bi (.si c b)↔k=c/\a=b:=by simp[ε4,ε8]
@[simp] theorem X7 {k c:IntKind} {a b:Int}:(γu k a).bi (.si c b)↔k=c/\a=b:=by simp[ε4,ε8]
@[simp] theorem X6 {a b:Bool}:(γA a).bi (.sb b)↔a=b:=by simp[ε4,ε8]
@[simp] theorem X5 {a b:Bool}:(δb a).bi (.sb b)↔a=b:=by simp[ε4,ε8]
@[simp] theorem X4 {s:cj} {a b:List s.T}:(Ω s a).bi (.row s b)↔a=b:=by
 constructor;·intro h;simp only[ε4,ε8,AV.sl.injEq] at h;exact kK s h.1 h.2
 ·rintro rfl;rfl
@[simp] theorem X3 {k c:IntKind} {a b:Int}:(γc k a).bi (.il c b)↔k=c/\a=b:=by simp[ε4,ε8]
@[simp] theorem X2 {k c:IntKind} {a b:Int}:(γu k a).bi (.il c b)↔k=c/\a=b:=by simp[ε4,ε8]
theorem X1 {v:SV}:v.bi v↔True:=iff_true_intro rfl
theorem kA {v:iZ}:v.bi v↔True:=iff_true_intro rfl
theorem X0 {a b c d:SV}:(SV.IL [a,b]).bi (.IL [c,d])↔a.bi c/\b.bi d:=by simp[ε4,ε8,gL]
theorem XZ {a b c d e f:SV}:(SV.IL [a,b,c]).bi (.IL [d,e,f])↔a.bi d/\b.bi e/\c.bi f:=by simp[ε4,ε8,gL]
theorem G2 {s t:cj}:(Ω s []).bi (.row t [])↔True:=iff_true_intro (by simp[ε4,ε8,bO])
theorem N9 {s:cj} {l:List s.T}:(Ω (.i .i64) []).bi (.row s l)↔l=[]:=by
 constructor;·grind[ε4,ε8]
 ·rintro rfl;exact G2.2 trivial
theorem Bz {a b:oz}:a=b↔a.a0=b.a0/\a.a1=b.a1/\a.a2=b.a2/\a.a3=b.a3/\a.a4=b.a4/\a.a5=b.a5:=by obtain⟨k,c,n,f,d,l⟩:=a;obtain⟨g,i,e,h,m,j⟩:=b;simp_all
@[simp] theorem XY {n:Int}:TP .i64 n↔ -9223372036854775808<=n/\n<=9223372036854775807:=Iff.rfl
theorem vcs:(∀{p:Prop} [h:Decidable p],(decide p=true)=p)/\(∀{p:Prop} {x:Decidable p},decide p=false↔¬p)/\(∀{k g:IntKind} {a b:Int},(γu k a).bi (γc g b)↔k=g/\a=b)/\(∀{k g:IntKind} {a b:Int},(γc k a).bi (γc g b)↔k=g/\a=b)/\(∀{k g:IntKind} {a b:Int},(γc k a).bi (γu g b)↔k=g/\a=b)/\(∀{k g:IntKind} {a b:Int},(γu k a).bi (γu g b)↔k=g/\a=b)/\(∀{a b:Bool},(γA a).bi (γA b)↔a=b)/\(∀{a b:Bool},(δb a).bi (γA b)↔a=b)/\(∀{s:cj} {a b:List s.T},(Ω s a).bi (Ω s b)↔a=b)/\(∀{a b c d:SV},(SV.IL [a,b]).bi (SV.IL [c,d])↔a.bi c/\b.bi d)/\(∀{a b c d e f:SV},(SV.IL [a,b,c]).bi (SV.IL [d,e,f])↔a.bi d/\b.bi e/\c.bi f)/\(∀{s t:cj},(Ω s []).bi (Ω t [])↔True)/\(∀{s:cj} {l:List s.T},(Ω (cj.i IntKind.i64) []).bi (Ω s l)↔l=[])/\(∀{v:SV},v.bi v↔True)/\(∀{v:iZ},v.bi v↔True)/\(∀{n:Int},TP IntKind.i64 n↔ -9223372036854775808<=n/\n<=9223372036854775807)/\(∀p:Prop,(True/\p)=p)/\(∀p:Prop,(p/\True)=p)/\(∀a b:Bool,((a&&b)=true)=(a=true/\b=true))/\(∀b:Bool,((!b)=true)=(b=false))/\(∀b:Bool,((!b)=false)=(b=true)):=
 ⟨decide_eq_true_eq,decide_eq_false_iff_not,X7,X8,X3,X2,X6,X5,X4,X0,XZ,G2,N9,X1,kA,XY,true_and,and_true,ζ,Bool.not_eq_true',Bool.not_eq_false'⟩
def oz.ok (b:oz):Bool:=[b.a0,b.a1,b.a2,b.a3,b.a4,b.a5].all λn=>decide (0<=n)&&decide (n<=4)
theorem oz.fA {b:oz}:b.ok=true↔(0<=b.a0/\b.a0<=4)/\(0<=b.a1/\b.a1<=4)/\(0<=b.a2/\b.a2<=4)/\(0<=b.a3/\b.a3<=4)/\(0<=b.a4/\b.a4<=4)/\(0<=b.a5/\b.a5<=4):=by simp[oz.ok]
def G0:NG:=⟨65,oz,.one (dg .bun),λ_=>True,λb=> .si .i64 (if b.ok=true then 0 else 4)⟩
theorem Jx:Holds Tryz.prog G0:=by
 refine bI (L:=[]) G0 (λ_ _=> .aob 7) (by simp) ?_;intro b _;refine NI (let h:=γu .i64;let p:=(0:Int);let q:=(4:Int);let i:=decide (b.a0<p);let a:=γc .i64 (if oz.ok b=true then p else q);let l:=decide (q<b.a0);let k:=decide (b.a1<p);let m:=decide (q<b.a1);let o:=decide (b.a2<p);let j:=decide (q<b.a2);let n:=decide (b.a3<p);let f:=decide (q<b.a3);let g:=decide (b.a4<p);let d:=decide (q<b.a4);let c:=decide (b.a5<p);let e:=decide (q<b.a5);(i=true->(h 4).bi a)/\(i=false->(l=true->(h 4).bi a)/\(l=false->(k=true->(h 4).bi a)/\(k=false->(m=true->(h 4).bi a)/\(m=false->(o=true->(h 4).bi a)/\(o=false->(j=true->(h 4).bi a)/\(j=false->(n=true->(h 4).bi a)/\(n=false->(f=true->(h 4).bi a)/\(f=false->(g=true->(h 4).bi a)/\(g=false->(d=true->(h 4).bi a)/\(d=false->(c=true->(h 4).bi a)/\(c=false->(e=true->(h 4).bi a)/\(e=false->(h 0).bi a))))))))))))) (by kernel_rfl) ?_;conv=>zeta
 have p:=@oz.fA b;by_cases h:b.ok=true<;>simp_all
def oz.l (b:oz):List Int:=[b.a0,b.a1,b.a2,b.a3,b.a4,b.a5]
def cr (p:ew):Int:=p.bk.length+12
def cB (p:ew) (r:Int):Int:=
 if r - p.bk.length<0 then 1
 else if r - p.bk.length<6 then bN [p.bm.a0,p.bm.a1,p.bm.a2,p.bm.a3,p.bm.a4,p.bm.a5] (r - p.bk.length).toNat 0
 else bN [p.bs.a0,p.bs.a1,p.bs.a2,p.bs.a3,p.bs.a4,p.bs.a5] (r - p.bk.length - 6).toNat 0
def dE (p:ew) (r:Int) (o:bA):Int:=
 if r - p.bk.length<0 then(if o.Gz=r then 1 else 0)
 else if r - p.bk.length<6 then bN [o.bx.a0,o.bx.a1,o.bx.a2,o.bx.a3,o.bx.a4,o.bx.a5] (r - p.bk.length).toNat 0
 else if bN [p.bt.a0,p.bt.a1,p.bt.a2,p.bt.a3,p.bt.a4,p.bt.a5] (r - p.bk.length - 6).toNat 0=0\/bN [p.bt.a0,p.bt.a1,p.bt.a2,p.bt.a3,p.bt.a4,p.bt.a5] (r - p.bk.length - 6).toNat 0=bN p.bk o.Gz.toNat 0 then 0
 else bN [o.bx.a0,o.bx.a1,o.bx.a2,o.bx.a3,o.bx.a4,o.bx.a5] (r - p.bk.length - 6).toNat 0
def wv:NG:=⟨84,ew,.one cI,λp=>p.bk.length<=8,λp=> .si .i64 (cr p)⟩
def wu:NG:=⟨85,ew×Int,.cons cI (.one (dY .i64)),λa=>a.1.bk.length<=8/\0<=a.2/\a.2<cr a.1,λa=> .si .i64 (cB a.1 a.2)⟩
def wt:NG:=⟨83,ew×Int×bA,.cons cI (.cons (dY .i64) (.one (dg .bu))),λa=>a.1.bk.length<=8/\0<=a.2.1/\a.2.1<cr a.1/\0<=a.2.2.Gz/\a.2.2.Gz<a.1.bk.length,λa=> .si .i64 (dE a.1 a.2.1 a.2.2)⟩
theorem rr:Holds Tryz.prog wv:=by refine bI (L:=[]) wv (λ_ _=> .aob 7) (by simp) ?_;intro p (b:p.bk.length<=8);refine NI (let a:=(↑p.bk.length:Int)+(12:Int);TP .i64 a/\(γc .i64 a).bi (γc .i64 (cr p))) (by kernel_rfl) ?_;simp only[vcs,cr];omega
theorem rq:Holds Tryz.prog wu:=by refine bI (L:=[]) wu (λ_ _=> .aob 7) (by simp) ?_;rintro⟨p,r⟩ ⟨h,j,i⟩;simp only[cr] at h j i;refine NI (let h:=(6:Int);let i:=(0:Int);let d:=γc .i64 (cB p r);let c:=(↑p.bk.length:Int);let g:=decide (r - c<i);let e:=decide (r - c<h);let f:=λ(u b:Int) (a:oz) ↦i<=u - b/\u - b<h/\(u - b).toNat<6/\(γc .i64 (bN [a.a0,a.a1,a.a2,a.a3,a.a4,a.a5] (u - b).toNat i)).bi d;TP .i64 (r - c)/\(g=true->(γu .i64 1).bi d)/\(g=false->(e=true->f r c p.bm)/\(e=false->TP .i64 (r - c - h)/\f (r - c) h p.bs))) (by kernel_rfl) ?_;simp only[vcs];grind[cB]
theorem ry:Holds Tryz.prog wt:=by
 refine bI (L:=[]) wt (λ_ _=> .aob 7) (by simp) ?_;rintro⟨p,r,x⟩ ⟨m,q,n,l,o⟩;simp only[cr] at m q n l o;refine NI (let l:=(0:Int);let m:=(6:Int);let n:=γu .i64;let o:=γu .i64 0;let q:=γc .i64;let b:=(↑p.bk.length:Int);let e:=decide (r - b<l);let c:=q (dE p r x);let h:=decide (r - b<m);let k:=[x.bx.a0,x.bx.a1,x.bx.a2,x.bx.a3,x.bx.a4,x.bx.a5];let a:=r - b - m;let j:=bN [p.bt.a0,p.bt.a1,p.bt.a2,p.bt.a3,p.bt.a4,p.bt.a5] a.toNat l;let i:=decide (j=l);let g:=decide (j=bN p.bk x.Gz.toNat l);let d:=decide (x.Gz=r);let f:=(e=true->(n 0).bi c)/\(e=false->(h=true->l<=r - b/\r - b<m/\(r - b).toNat<6/\(q (bN k (r - b).toNat l)).bi c)/\(h=false->TP .i64 a/\l<=a/\a<m/\a.toNat<6/\(i=true->(n 0).bi c)/\(i=false->l<=a/\a<m/\a.toNat<6/\l<=x.Gz/\x.Gz<b/\x.Gz.toNat<p.bk.length/\(g=true->(n 0).bi c)/\(g=false->l<=a/\a<m/\a.toNat<6/\(q (bN k a.toNat l)).bi c))));TP .i64 (r - b)/\(e=true->(d=true->(n 1).bi c)/\(d=false->f))/\(e=false->f)) (by kernel_rfl) ?_;simp only[vcs];repeat' (first|refine γk ?_ ?_|intro _)
 all_goals first
  |trivial;|omega;|(simp only[dE];(repeat' split)<;>first|rfl|omega)
def L2:List NG:=[wt,wv,wu]
theorem JQ:∀c∈L2,Holds Tryz.prog c:=by simp_all[L2,ry,rr,rq]
def bZ (p:ew) (l:List bA) (r:Int):Int:=(l.map (dE p r)).sum
def fz (p:ew) (l:List bA):Bool:=(Γ (p.bk.length+12)).all λr=>decide (bZ p l r<=cB p r)
def By:NG:=⟨59,ew×List bA,.cons cI (.one (cP .bu)),λa=>a.1.bk.length<=8/\a.2.length<=1000/\(∀x∈a.2,0<=x.Gz/\x.Gz<a.1.bk.length/\x.bx.ok=true),λa=> .sb (fz a.1 a.2)⟩
def XX (a:ew×List bA):Nat->bH
 |3=> .inv Int (λi=>⟨[(1,.row .bu a.2),(2,.ptr 0 0 20),(5,.fn (.func 83) [] []),(11,.si .i64 (cr a.1)),(12,.si .i64 i)],[.cells a.1.ss 87 20 false]⟩) (λs=>iS s 12)
  (λi=>0<=i/\i<=cr a.1/\∀r:Nat,r<i->bZ a.1 a.2 r<=cB a.1 r) (λi=>(cr a.1 - i).toNat)
  λi=>λ
   |7=> .inv (Int×Int) (λx=>⟨[(1,.row .bu a.2),(2,.ptr 0 0 20),(5,.fn (.func 83) [] []),(6,.si .i64 i),(7,.si .i64 x.2),(11,.si .i64 (cr a.1)),(12,.si .i64 i),(15,.row .bu a.2),(16,.si .i64 a.2.length),(17,.si .i64 x.1)],[.cells a.1.ss 87 20 false]⟩)
    (λs=>(iS s 17,iS s 7))
    (λx=>0<=x.1/\x.1<=a.2.length/\x.2=bZ a.1 (a.2.take x.1.toNat) i) (λx=>(a.2.length - x.1).toNat) λ_ _=> .look
   |_=> .look
 |_=> .look
theorem GZ {b:oz} (h:b.ok=true) (k:Nat):0<=bN [b.a0,b.a1,b.a2,b.a3,b.a4,b.a5] k 0/\bN [b.a0,b.a1,b.a2,b.a3,b.a4,b.a5] k 0<=4:=by grind[oz.fA,bN]
theorem oF {p:ew} {r:Int} {o:bA} (h:o.bx.ok=true):0<=dE p r o/\dE p r o<=4:=by unfold dE;have a:=GZ h (r - p.bk.length).toNat;have b:=GZ h (r - p.bk.length - 6).toNat;omega
theorem qO {p:ew} {r:Int}:∀{l:List bA},(∀x∈l,x.bx.ok=true)->0<=bZ p l r/\bZ p l r<=4*l.length
 |[],_=>by simp[bZ];|x::l,h=>by have b:=@oF p r x (h x (by simp));have c:=@qO p r l λy a=>h y (by simp[a]);grind[bZ]
theorem cy {a:Type} {l:List a} {i:Nat} {d:a} (h:i<l.length):bN l i d∈l:=by grind[bR]
theorem iG {a:Type} {l:List a} {i:Int} {d:a} (b:0<=i) (h:i<l.length):l.take (i+1).toNat=l.take i.toNat++[bN l i.toNat d]:=by rw[show(i+1).toNat=i.toNat+1 from by omega,bR (by omega),List.take_succ_eq_append_getElem (by omega)]
theorem GY {p:ew} {r:Int} {l:List bA} {i:Int} {d:bA} (a:0<=i) (h:i<l.length):bZ p (l.take (i+1).toNat) r=bZ p (l.take i.toNat) r+dE p r (bN l i.toNat d):=by grind[iG,bZ]
theorem nS {p:ew} {l:List bA}:fz p l=true↔∀r:Nat,r<cr p->bZ p l r<=cB p r:=by simp only[fz,cr,τ,γt,decide_eq_true_eq];grind
theorem zn:Holds Tryz.prog By:=by
 refine bI (L:=L2) By XX JQ ?_;rintro⟨p,l⟩ ⟨E,N,G⟩;simp only at E N G;refine NI (let a:=γc .i64;let b:=(0:Int);let c:=Ω;let d:=γu .i64 0;let e:=γu .i64;let f:=TP .i64;let g:=γM 0 0 20;let h:=SV.fn (Fn.func 83) [] [];let i:=a (cr p);let j:=iZ.cells (ew.ss p) 87 20 false;let k:=(↑l.length:Int);let q:=a k;p.bk.length<=8/\((((c cj.bu l).bi (c cj.bu l)/\g.bi g/\h.bi h/\i.bi i/\(d).bi (a 0)/\True)/\j.bi j/\True)/\b<=b/\b<=cr p/\∀(r:Nat),(↑r:Int)<b->bZ p l (↑r:Int)<=cB p (↑r:Int))/\∀(x:Int),let u:=decide (x<cr p);let m:=x+(1:Int);let v:=a m;(b<=x/\x<=cr p/\∀(r:Nat),(↑r:Int)<x->bZ p l (↑r:Int)<=cB p (↑r:Int))->(u=true->((((c cj.bu l).bi (c cj.bu l)/\g.bi g/\h.bi h/\(a x).bi (a x)/\(d).bi (a 0)/\i.bi i/\(a x).bi (a x)/\(c cj.bu l).bi (c cj.bu l)/\(a (↑l.length:Int)).bi q/\(d).bi (a 0)/\True)/\j.bi j/\True)/\b<=b/\b<=k/\b=bZ p [] x)/\∀(B:Int×Int),let s:=bN l B.1.toNat cj.bu.bw;let t:=B.2+dE p x s;let n:=B.1+(1:Int);let o:=a x;let w:=a t;let y:=a n;let z:=decide (cB p x<B.2);b<=B.1/\B.1<=k/\B.2=bZ p (Ξ B.1.toNat l) x->(decide (B.1<k)=true->b<=B.1/\B.1<(↑l.length:Int)/\B.1.toNat<l.length/\(p.bk.length<=8/\b<=x/\x<cr p/\b<=s.Gz/\s.Gz<(↑p.bk.length:Int))/\f t/\f n/\(((c cj.bu l).bi (c cj.bu l)/\g.bi g/\h.bi h/\o.bi o/\w.bi w/\i.bi i/\o.bi o/\(c cj.bu l).bi (c cj.bu l)/\q.bi q/\y.bi y/\True)/\j.bi j/\True)/\(b<=n/\n<=k/\t=bZ p (Ξ n.toNat l) x)/\(k - n).toNat<(k - B.1).toNat)/\(decide (B.1<k)=false->(p.bk.length<=8/\b<=x/\x<cr p)/\(z=true->(δb false).bi (γA (fz p l)))/\(z=false->f m/\(((c cj.bu l).bi (c cj.bu l)/\g.bi g/\h.bi h/\i.bi i/\v.bi v/\True)/\j.bi j/\True)/\(b<=m/\m<=cr p/\∀(r:Nat),(↑r:Int)<m->bZ p l (↑r:Int)<=cB p (↑r:Int))/\(cr p - m).toNat<(cr p - x).toNat)))/\(u=false->(δb true).bi (γA (fz p l)))) (by kernel_rfl) ?_;simp only[vcs];have X:cr p=p.bk.length+12:=rfl;have K:∀x∈l,x.bx.ok=true:=λx F=>(G x F).2.2;refine⟨E,⟨by omega,by omega,λr hr=>by omega⟩,?_⟩;rintro i ⟨U,T,hi⟩;refine⟨λS=>⟨⟨by omega,by omega,by simp[bZ]⟩,?_⟩,?_⟩
 ·rintro⟨j,s⟩ ⟨D,I,J⟩;simp only at D I J ⊢;have R:=@qO p i (l.take j.toNat) λx F=>K x (γj F);have hlen:(l.take j.toNat).length<=l.length:=by simp;omega
  refine⟨λC=>?_,λC=>?_⟩
  ·have hm:=G _ (cy (d:=cj.bu.bw) (show j.toNat<l.length by omega));have hc:=@oF p i _ hm.2.2;have Q:=@GY p i l j cj.bu.bw D C;refine⟨by omega,by omega,by omega,⟨E,by omega,by omega,hm.1,hm.2.1⟩,by omega,by omega,⟨by omega,by omega⟩,by omega⟩
  ·have:j.toNat=l.length:=by omega
   rw[this,φ] at J;refine⟨⟨E,by omega⟩,λV=>?_,λhle=>⟨by omega,⟨by omega,by omega,λr hr=>?_⟩,by omega⟩⟩
   ·symm;rw[δO];intro P;have:=nS.1 P i.toNat (by omega);rw[show((i.toNat:Nat):Int)=i from by omega] at this;omega
   ·by_cases H:(r:Int)<i;·exact hi r H
    ·have:(r:Int)=i:=by omega
     rw[this];omega
 ·intro W;symm;exact nS.2 λr hr=>hi r (by omega)
def L3:List NG:=[By,G0,wt,wv,wu]
theorem CM:∀c∈L3,Holds Tryz.prog c:=by simp only[L3,δr,δl,false_implies,implies_true,and_true];grind[zn,Jx,ry,rr,rq]
def gW (p:ew) (k:Nat):Prop:=
 let c:=bN [p.bt.a0,p.bt.a1,p.bt.a2,p.bt.a3,p.bt.a4,p.bt.a5] k 0;let o:=bN [p.bs.a0,p.bs.a1,p.bs.a2,p.bs.a3,p.bs.a4,p.bs.a5] k 0;let s:=bN [p.bm.a0,p.bm.a1,p.bm.a2,p.bm.a3,p.bm.a4,p.bm.a5] k 0;0<=c/\c<=4/\0<=o/\o<=s/\(c≠0\/o=s)
instance (p:ew) (k:Nat):Decidable (gW p k):=by unfold gW;infer_instance
def Bx (p:ew):Bool:=(Γ 6).all λk=>decide (gW p k)
theorem ni {p:ew} {k:Nat}:gW p k↔(0<=bN [p.bt.a0,p.bt.a1,p.bt.a2,p.bt.a3,p.bt.a4,p.bt.a5] k 0/\bN [p.bt.a0,p.bt.a1,p.bt.a2,p.bt.a3,p.bt.a4,p.bt.a5] k 0<=4/\0<=bN [p.bs.a0,p.bs.a1,p.bs.a2,p.bs.a3,p.bs.a4,p.bs.a5] k 0/\
  bN [p.bs.a0,p.bs.a1,p.bs.a2,p.bs.a3,p.bs.a4,p.bs.a5] k 0<=bN [p.bm.a0,p.bm.a1,p.bm.a2,p.bm.a3,p.bm.a4,p.bm.a5] k 0/\
  (bN [p.bt.a0,p.bt.a1,p.bt.a2,p.bt.a3,p.bt.a4,p.bt.a5] k 0≠0\/bN [p.bs.a0,p.bs.a1,p.bs.a2,p.bs.a3,p.bs.a4,p.bs.a5] k 0=bN [p.bm.a0,p.bm.a1,p.bm.a2,p.bm.a3,p.bm.a4,p.bm.a5] k 0)):=Iff.rfl
attribute [irreducible] gW
theorem yx {p:ew}:Bx p=true↔∀k,k<6->gW p k:=by simp[Bx]
def im (p:ew):Int:=
 if p.bm.ok=false then 4
 else if Bx p=false then 4
 else if 8<p.bk.length\/160<p.bj.length then 3
 else if ¬∀c∈p.bk,0<=c/\c<=4 then 4
 else 0
def GX:NG:=⟨46,ew,.one cI,λp=>True,λp=> .si .i64 (im p)⟩
def XW (p:ew):Nat->bH
 |5=> .inv Int (λk=>⟨[(1,.ptr 0 0 20),(16,.si .i64 k)],[.cells p.ss 87 20 false]⟩) (λs=>iS s 16) (λk=>0<=k/\k<=6/\∀j:Nat,j<k->gW p j) (λk=>(6 - k).toNat) λ_ _=> .look
 |14=> .inv Int (λk=>⟨[(76,.row (.i .i64) p.bk),(77,.si .i64 p.bk.length),(78,.si .i64 k)],[.cells p.ss 87 20 false]⟩) (λs=>iS s 78)
  (λk=>0<=k/\k<=p.bk.length/\∀c∈p.bk.take k.toNat,0<=c/\c<=4) (λk=>(p.bk.length - k).toNat) λ_ _=> .look
 |_=> .look
theorem N8 {p:ew} (h:p.bm.ok=false):im p=4:=by simp[im,h]
theorem N7 {p:ew} (h:p.bm.ok=true) {k:Nat} (b:k<6) (a:¬gW p k):im p=4:=by grind[yx,im]
theorem Ab {p:ew} (h:p.bm.ok=true) (b:∀j:Nat,j<6->gW p j) (a:8<p.bk.length\/160<p.bj.length):im p=3:=by grind[im,yx]
theorem Aa {p:ew} (h:p.bm.ok=true) (f:∀j:Nat,j<6->gW p j) (e:¬(8<p.bk.length\/160<p.bj.length)) {c:Int} (b:c∈p.bk) (a:¬(0<=c/\c<=4)):im p=4:=by have:¬∀c∈p.bk,0<=c/\c<=4:=λd=>a (d c b);simp_all[im]
theorem GW {p:ew} (h:p.bm.ok=true) (b:∀j:Nat,j<6->gW p j) (d:¬(8<p.bk.length\/160<p.bj.length)) (a:∀c∈p.bk,0<=c/\c<=4):im p=0:=by simp_all[im,yx,if_neg]
theorem rj {p:ew} (h:im p=0):p.bm.ok=true/\(∀j:Nat,j<6->gW p j)/\p.bk.length<=8/\p.bj.length<=160/\∀c∈p.bk,0<=c/\c<=4:=by
 unfold im at h;split at h;·cases h
 ·split at h;·cases h
  ·split at h;all_goals simp_all[yx]
theorem N6 {l:List Int} {i:Int} {P:Int->Prop} (d:0<=i) (h:i<l.length) (a:∀c∈l.take i.toNat,P c) (b:P (bN l i.toNat 0)):∀c∈l.take (i+1).toNat,P c:=by grind[iG]
theorem JC:Holds Tryz.prog GX:=by
 refine bI (L:=L3) GX XW CM ?_;intro p _;refine NI (let a:=γc .i64;let b:=(0:Int);let d:=γu .i64;let e:=(6:Int);let f:=(4:Int);let y:=if p.bm.ok=true then b else f;let g:=a (im p);let q:=γM 0 0 20;let s:=d 0;let n:=Ω (cj.i .i64) p.bk;let h:=iZ.cells [a p.bm.a0,a p.bm.a1,a p.bm.a2,a p.bm.a3,a p.bm.a4,a p.bm.a5,a p.bs.a0,a p.bs.a1,a p.bs.a2,a p.bs.a3,a p.bs.a4,a p.bs.a5,a p.bt.a0,a p.bt.a1,a p.bt.a2,a p.bt.a3,a p.bt.a4,a p.bt.a5,n,Ω cj.bu p.bj] 87 20 false;let N:=[p.bt.a0,p.bt.a1,p.bt.a2,p.bt.a3,p.bt.a4,p.bt.a5];let O:=[p.bs.a0,p.bs.a1,p.bs.a2,p.bs.a3,p.bs.a4,p.bs.a5];let P:=[p.bm.a0,p.bm.a1,p.bm.a2,p.bm.a3,p.bm.a4,p.bm.a5];let t:=(↑p.bk.length:Int);let z:=decide ((8:Int)<t);let A:=decide ((160:Int)<(↑p.bj.length:Int));let k:=(↑p.bk.length:Int);let v:=a k;let B:=λ(u:Bool) ↦decide (y≠b)=u;True/\(B true->(a y).bi g)/\(B false->(((q.bi q/\s.bi (a 0)/\True)/\h.bi h/\True)/\b<=b/\b<=e/\∀(j:Nat),(↑j:Int)<b->gW p j)/\∀(x:Int),let l:=x+(1:Int);let C:=a l;let D:=decide (x<e);let w:=bN N x.toNat b;let E:=decide (w<b);let F:=decide (f<w);let o:=bN O x.toNat b;let G:=decide (o<b);let r:=bN P x.toNat b;let H:=decide (w=b);let I:=TP .i64 l/\((q.bi q/\C.bi C/\True)/\h.bi h/\True)/\(b<=l/\l<=e/\∀(j:Nat),(↑j:Int)<l->gW p j)/\(e - l).toNat<(e - x).toNat;(b<=x/\x<=e/\∀(j:Nat),(↑j:Int)<x->gW p j)->(D=true->b<=x/\x<e/\x.toNat<6/\b<=x/\x<e/\x.toNat<6/\(E=true->(d 4).bi g)/\(E=false->(F=true->(d 4).bi g)/\(F=false->(G=true->(d 4).bi g)/\(G=false->b<=x/\x<e/\x.toNat<6/\(decide (r<o)=true->(d 4).bi g)/\(decide (r<o)=false->(H=true->b<=x/\x<e/\x.toNat<6/\(decide (o≠r)=true->(d 4).bi g)/\(decide (o≠r)=false->I))/\(H=false->I))))))/\(D=false->(z=true->(d 3).bi g)/\(z=false->(A=true->(d 3).bi g)/\(A=false->(((n.bi n/\(a t).bi v/\s.bi (a 0)/\True)/\h.bi h/\True)/\b<=b/\b<=k/\∀(c:Int),c∈[]->b<=c/\c<=f)/\∀(x:Int),let J:=bN p.bk x.toNat b;let K:=decide (J<b);let L:=decide (f<J);let m:=x+(1:Int);let M:=a m;(b<=x/\x<=k/\∀(c:Int),c∈Ξ x.toNat p.bk->b<=c/\c<=f)->(decide (x<k)=true->b<=x/\x<t/\x.toNat<p.bk.length/\(K=true->(d 4).bi g)/\(K=false->(L=true->(d 4).bi g)/\(L=false->TP .i64 m/\((n.bi n/\v.bi v/\M.bi M/\True)/\h.bi h/\True)/\(b<=m/\m<=k/\∀(c:Int),c∈Ξ m.toNat p.bk->b<=c/\c<=f)/\(k - m).toNat<(k - x).toNat)))/\(decide (x<k)=false->s.bi g)))))) (by kernel_rfl) ?_;simp only[vcs];by_cases R:oz.ok p.bm=true
 ·simp only[R,if_true];refine⟨λh=>absurd rfl h,λ_=>⟨⟨by omega,by omega,λj Y=>by omega⟩,?_⟩⟩;rintro k ⟨hk0,hk1,hk⟩;refine⟨λT=>?_,λX=>?_⟩
  ·have bad:¬gW p k.toNat->(4:Int)=im p:=λh=>(N7 R (by omega) h).symm;have U:gW p k.toNat->∀(j:Nat),(j:Int)<k+1->gW p j:=λh j Y=>by
    by_cases V:(j:Int)<k;·exact hk j V
    ·rw[show j=k.toNat from by omega];exact h
   repeat' (first|refine γk ?_ ?_|intro _)
   all_goals first
    |omega;|exact bad λhh=>by have h2:=ni.1 hh;omega;|exact U (ni.2 (by omega)) _ (by assumption)
  ·have Q:∀j:Nat,j<6->gW p j:=λj Y=>hk j (by omega);refine⟨λh=>(Ab R Q (.inl (by omega))).symm,λh8=>⟨λh=>(Ab R Q (.inr (by omega))).symm,λZ=>⟨⟨by omega,by omega,by simp⟩,?_⟩⟩⟩;rintro i ⟨W,hi1,hi⟩;refine⟨λT=>?_,λX=>?_⟩
   ·have hm:=cy (d:=0) (show i.toNat<p.bk.length by omega);refine⟨by omega,by omega,by omega,λh=>(Aa R Q (by omega) hm (by omega)).symm,λh1=>⟨λh=>(Aa R Q (by omega) hm (by omega)).symm,λh2=>⟨by omega,⟨by omega,by omega,?_⟩,by omega⟩⟩⟩;exact N6 W T hi (by omega)
   ·rw[show i.toNat=p.bk.length from by omega,φ] at hi;exact(GW R Q (by omega) hi).symm
 ·have S:oz.ok p.bm=false:=by simpa using R
  simp only[S,Bool.false_eq_true,if_false];exact⟨λ_=>(N8 S).symm,λh=>absurd (by decide) h⟩
def j5 (n:Int) (o:bA):Int:=
 if o.Gz<0\/n<=o.Gz then 6 else if o.value<1\/1000000<o.value then 4 else if o.bx.ok then 0 else 4
def GV:NG:=⟨66,Int×bA,.cons (dY .i64) (.one (dg .bu)),λp=>True,λp=> .si .i64 (j5 p.1 p.2)⟩
theorem Jw:Holds Tryz.prog GV:=by refine bI (L:=L3) GV (λp=>λ_=> .look) CM ?_;rintro⟨n,x⟩ _;refine NI (let f:=γu .i64;let e:=decide (x.Gz<(0:Int));let a:=γc .i64 (j5 n x);let c:=decide (n<=x.Gz);let b:=decide (x.value<(1:Int));let d:=decide ((1000000:Int)<x.value);(e=true->(f 6).bi a)/\(e=false->(c=true->(f 6).bi a)/\(c=false->(b=true->(f 4).bi a)/\(b=false->(d=true->(f 4).bi a)/\(d=false->True/\(γc .i64 (if x.bx.ok=true then(0:Int) else(4:Int))).bi a))))) (by kernel_rfl) ?_;simp only[vcs];grind[j5]
def jD (p:ew) (o:bA):Int:=
 if j5 p.bk.length o≠0 then j5 p.bk.length o else if o.bx=oz.zero then 4 else if fz p [o]=false then 14 else 0
def GU:NG:=⟨47,ew×bA,.cons cI (.one (dg .bu)),λa=>a.1.bk.length<=8,λa=> .si .i64 (jD a.1 a.2)⟩
def L4:List NG:=GV::L3
theorem JP:∀c∈L4,Holds Tryz.prog c:=by grind[L4,Jw,CM]
theorem z_ {n:Int} {o:bA} (h:j5 n o=0):0<=o.Gz/\o.Gz<n/\1<=o.value/\o.value<=1000000/\o.bx.ok=true:=by grind[j5]
theorem JB:Holds Tryz.prog GU:=by
 refine bI (L:=L4) GU (λp=>λ_=> .look) JP ?_;rintro⟨p,x⟩ (i:p.bk.length<=8);refine NI (let f:=(0:Int);let g:=γu .i64;let c:=j5 (↑p.bk.length:Int) x;let e:=decide (c≠f);let b:=γc .i64 (jD p x);let d:=λ(u:Bool) ↦(decide (x.bx.a0=f)&&(decide (x.bx.a1=f)&&(decide (x.bx.a2=f)&&(decide (x.bx.a3=f)&&(decide (x.bx.a4=f)&&(decide (x.bx.a5=f)&&true))))))=u;True/\(e=true->(γc .i64 c).bi b)/\(e=false->(d true->(g 4).bi b)/\(d false->(p.bk.length<=8/\1<=1000/\∀(a:bA),a∈[x]->f<=a.Gz/\a.Gz<(↑p.bk.length:Int)/\a.bx.ok=true)/\((!fz p [x])=true->(g 14).bi b)/\((!fz p [x])=false->(g 0).bi b)))) (by kernel_rfl) ?_;conv=>zeta
 have g:(decide (x.bx.a0=0)&&(decide (x.bx.a1=0)&&(decide (x.bx.a2=0)&&(decide (x.bx.a3=0)&&(decide (x.bx.a4=0)&&decide (x.bx.a5=0))))))=decide (x.bx=oz.zero):=by simp_all[Bz,oz.zero]
 simp only[δI,g];simp only[vcs];refine⟨λh=>by simp_all[jD],λh=>?_⟩;have f:j5 p.bk.length x=0:=γa.1 h;have j:=z_ f;grind[jD]
def L5:List NG:=GX::GU::L4
theorem CL:∀c∈L5,Holds Tryz.prog c:=by grind[L5,JC,JB,JP]
def bA.key (o:bA):nu:=⟨o.Gz,o.bx⟩
def iF (p:ew) (a:List nu):List bA->Int
 |[]=>0
 |o::r=>if jD p o≠0 then jD p o else if o.key∈a then 7 else iF p (a++[o.key]) r
def nW (p:ew):Int:=if im p≠0 then im p else iF p [] p.bj
def nz:NG:=⟨28,ew,.one cI,λp=>True,λp=> .si .i64 (nW p)⟩
def XV (p:ew):Nat->bH
 |7=> .inv Int (λi=>⟨[(3,.ptr 1 0 20),(5,.mp 2),(19,.row .bu p.bj),(20,.si .i64 p.bj.length),(21,.si .i64 i)],
   [.cells p.ss 27 20 false,.cells p.ss 87 20 false,.map .key .b true ((p.bj.take i.toNat).map λo=>(o.key,true)) ([0,0,0,0,0,0,0],true) true]⟩) (λs=>iS s 21)
  (λi=>0<=i/\i<=p.bj.length/\iF p [] p.bj=iF p ((p.bj.take i.toNat).map bA.key) (p.bj.drop i.toNat)) (λi=>(p.bj.length - i).toNat) λ_ _=> .look
 |_=> .look
theorem ri {a:Type} {l:List a} {i:Int} {d:a} (b:0<=i) (h:i<l.length):l.drop i.toNat=bN l i.toNat d::l.drop (i+1).toNat:=by rw[show(i+1).toNat=i.toNat+1 from by omega,bR (by omega),List.drop_eq_getElem_cons (by omega)]
theorem z6 (k:nu):∀(l:List bA),(jH .key .b k (l.map λo=>(o.key,true))).getD false=decide (k∈l.map bA.key)
 |[]=>by simp[jH];|o::l=>by have:=z6 k l;grind[jH]
theorem XU {b sv:cj} {c:Bool} {es a:List (b.T×sv.T)} {d:List Nat×Bool} {pu:Bool} (h:es=a):(iZ.map b sv c es d pu).bi (.map b sv c a d pu):=by rw[h];rfl
theorem XT {k:nu} {l:List bA} (h:k∉l.map bA.key):mG .key .b k true (l.map λo=>(o.key,true))=(l.map λo=>(o.key,true))++[(k,true)]:=
 GE λp a=>by grind
theorem oT:Holds Tryz.prog nz:=by
 refine bI (L:=L5) nz XV CL ?_;intro p _;refine NI (let a:=γc .i64;let c:=(0:Int);let f:=Ω cj.bu p.bj;let q:=decide (im p≠c);let g:=a (nW p);let h:=γM 1 0 20;let r:=(↑p.bj.length:Int);let d:=(↑p.bj.length:Int);let m:=a d;let s:=γu .i64 0;let n:=([0,0,0,0,0,0,0],true);let t:=iZ.map cj.key cj.b true [] n true;let j:=iF p [] p.bj;let E:=cj.bu.bw;let k:=λ(u:Nat) ↦let v:=iZ.cells [a p.bm.a0,a p.bm.a1,a p.bm.a2,a p.bm.a3,a p.bm.a4,a p.bm.a5,a p.bs.a0,a p.bs.a1,a p.bs.a2,a p.bs.a3,a p.bs.a4,a p.bs.a5,a p.bt.a0,a p.bt.a1,a p.bt.a2,a p.bt.a3,a p.bt.a4,a p.bt.a5,Ω (cj.i .i64) p.bk,f] u 20 false;v.bi v;True/\(q=true->(a (im p)).bi g)/\(q=false->(((h.bi h/\(θC 2).bi (θC 2)/\f.bi f/\(a r).bi m/\s.bi (a 0)/\True)/\k 27/\k 87/\t.bi t/\True)/\c<=c/\c<=d/\j=j)/\∀(x:Int),let w:=Ξ x.toNat p.bj;let l:=bN p.bj x.toNat E;let y:=decide (jD p l≠c);let z:=nu.mk l.Gz l.bx;let A:=γd (λ(o:bA) ↦(o.key,true)) w;let B:=(jH cj.key cj.b z A).getD false;let e:=x+(1:Int);let C:=a e;let D:=Ξ e.toNat p.bj;c<=x/\x<=d/\j=iF p (γd bA.key w) (γ3 x.toNat p.bj)->(decide (x<d)=true->c<=x/\x<r/\x.toNat<p.bj.length/\p.bk.length<=8/\(y=true->(a (jD p l)).bi g)/\(y=false->(B=true->(γu .i64 7).bi g)/\(B=false->TP .i64 e/\((h.bi h/\(θC 2).bi (θC 2)/\f.bi f/\m.bi m/\C.bi C/\True)/\k 27/\k 87/\(iZ.map cj.key cj.b true (mG cj.key cj.b z true A) n true).bi (iZ.map cj.key cj.b true (γd (λ(o:bA) ↦(o.key,true)) D) n true)/\True)/\(c<=e/\e<=d/\j=iF p (γd bA.key D) (γ3 e.toNat p.bj))/\(d - e).toNat<(d - x).toNat)))/\(decide (x<d)=false->s.bi g))) (by kernel_rfl) ?_;simp only[vcs];refine⟨λh=>by simp[nW,h],λh=>?_⟩;have I:im p=0:=γa.1 h;obtain⟨f1,f2,f3,f4,f5⟩:=rj I;refine⟨⟨by omega,by omega⟩,?_⟩;rintro i ⟨H,K,hi⟩;refine⟨λG=>?_,λN=>?_⟩
 ·rw[ri (d:=cj.bu.bw) H G] at hi;generalize J:bN p.bj i.toNat cj.bu.bw=x at hi ⊢;refine⟨by omega,by omega,by omega,f3,λhe=>?_,λhe=>?_⟩
  ·simp only[iF,if_pos he] at hi;simp[nW,I,hi]
  ·simp only[iF,if_neg he] at hi;have hk:(⟨x.Gz,x.bx⟩:nu)=x.key:=rfl;simp only[hk];refine⟨λhm=>?_,λhm=>⟨by omega,?_,⟨by omega,by omega,?_⟩,by omega⟩⟩
   ·have F:=of_decide_eq_true ((z6 _ _).symm.trans hm);rw[if_pos F] at hi;simp[nW,I,hi]
   ·have F:=of_decide_eq_false ((z6 _ _).symm.trans hm);apply XU;rw[XT F,iG (d:=cj.bu.bw) H G,J];simp
   ·have F:=of_decide_eq_false ((z6 _ _).symm.trans hm);rw[if_neg F] at hi;rw[hi,iG (d:=cj.bu.bw) H G,J];simp
 ·rw[show i.toNat=p.bj.length from by omega,δD] at hi;simp only[iF] at hi;simp[nW,I,hi]
def dG (l:List bA) (a:Int):List Int->Option (List bA)
 |[]=>some []
 |i::r=>if i<=a\/l.length<=i then none else(dG l i r).map (bN l i.toNat cj.bu.bw::·)
def eT (p:ew) (c:List Int):Bool:=(dG p.bj (-1) c).isSome
def cK (p:ew) (c:List Int):List bA:=(dG p.bj (-1) c).getD []
def zZ:NG:=⟨58,ew×List Int,.cons cI (.one (cP (.i .i64))),λa=>a.2.length<=9223372036854775807/\a.1.bj.length<=1000,λa=> .IL [.row .bu (cK a.1 a.2),.sb (eT a.1 a.2)]⟩
def XS (a:ew×List Int):Nat->bH
 |4=> .inv (Int×Int×List bA) (λx=>⟨[(2,.ptr 0 0 20),(6,.ow 1 x.2.2.length 8),(7,.si .i64 x.2.1),(10,.row (.i .i64) a.2),(11,.si .i64 a.2.length),(12,.si .i64 x.1)],
   [.cells a.1.ss 27 20 false,.row .bu x.2.2 65 true]⟩) (λs=>(iS s 12,iS s 7,oS .bu s 1))
  (λx=>0<=x.1/\x.1<=a.2.length/\(x.2.2.length<=x.2.1+1/\x.2.1<1000)/\ -1<=x.2.1/\dG a.1.bj (-1) a.2=(dG a.1.bj x.2.1 (a.2.drop x.1.toNat)).map (x.2.2++·)) (λx=>(a.2.length - x.1).toNat) λ_ _=> .look
 |_=> .look
theorem zo:Holds Tryz.prog zZ:=by
 refine bI (L:=L5) zZ XS CL ?_;rintro⟨p,c⟩ ⟨hc,G⟩;have hc:c.length<=9223372036854775807:=hc;have G:p.bj.length<=1000:=G;refine NI (let a:=γc .i64;let b:=(0:Int);let d:=(-1:Int);let e:=Ω;let f:=(1000:Int);let g:=δb false;let h:=SV.IL;let j:=(1:Int);let q:=γM 0 0 20;let w:=γZ 1 0 8;let m:=cj.i .i64;let l:=(↑c.length:Int);let t:=a l;let r:=iZ.cells [a p.bm.a0,a p.bm.a1,a p.bm.a2,a p.bm.a3,a p.bm.a4,a p.bm.a5,a p.bs.a0,a p.bs.a1,a p.bs.a2,a p.bs.a3,a p.bs.a4,a p.bs.a5,a p.bt.a0,a p.bt.a1,a p.bt.a2,a p.bt.a3,a p.bt.a4,a p.bt.a5,e m p.bk,e cj.bu p.bj] 27 20 false;let y:=iZ.row cj.bu [] 65 true;let s:=dG p.bj d c;let u:=h [e cj.bu (cK p c),γA (eT p c)];let v:=(↑p.bj.length:Int);(((q.bi q/\w.bi w/\(γu .i64 d).bi (a d)/\(e m c).bi (e m c)/\(a (↑c.length:Int)).bi t/\(γu .i64 0).bi (a 0)/\True)/\r.bi r/\y.bi y/\True)/\b<=b/\b<=l/\(b<=b/\d<f)/\d<=d/\s=ζD (λx ↦(b,d,[]).2.2++x) s)/\∀(x:Int×Int×List bA),let k:=bN c x.1.toNat b;let z:=decide (k<=x.2.1);let A:=x.2.2.length+1;let n:=x.1+j;let o:=x.2.2++[bN p.bj k.toNat cj.bu.bw];let B:=a k;let C:=a n;let D:=iZ.row cj.bu o 65 true;b<=x.1/\x.1<=l/\((↑x.2.2.length:Int)<=x.2.1+j/\x.2.1<f)/\d<=x.2.1/\s=ζD (λI ↦x.2.2++I) (dG p.bj x.2.1 (γ3 x.1.toNat c))->(decide (x.1<l)=true->b<=x.1/\x.1<(↑c.length:Int)/\x.1.toNat<c.length/\(z=true->(h [e m [],g]).bi u)/\(z=false->(decide (v<=k)=true->(h [e m [],g]).bi u)/\(decide (v<=k)=false->b<=k/\k<v/\k.toNat<p.bj.length/\x.2.2.length=x.2.2.length/\A*64<=140737488355328/\A<=1000000000000/\TP .i64 n/\((q.bi q/\(γZ 1 o.length 8).bi (γZ 1 o.length 8)/\B.bi B/\(e m c).bi (e m c)/\t.bi t/\C.bi C/\True)/\r.bi r/\D.bi D/\True)/\(b<=n/\n<=l/\((↑o.length:Int)<=k+j/\k<f)/\d<=k/\s=ζD (λx ↦(n,k,o).2.2++x) (dG p.bj k (γ3 n.toNat c)))/\(l - n).toNat<(l - x.1).toNat)))/\(decide (x.1<l)=false->x.2.2.length=x.2.2.length/\(h [e cj.bu x.2.2,δb true]).bi u)) (by kernel_rfl) ?_;simp only[vcs];have E:∀{l:List bA},l=[]->(Ω (.i .i64) []).bi (Ω .bu l):=by rintro l rfl;exact G2.2 trivial
 refine⟨⟨by omega,by omega,by omega,by simp⟩,?_⟩;rintro⟨i,last,out⟩ ⟨H,N,hlen,K,hi⟩;simp only at H N hlen K hi ⊢;refine⟨λJ=>?_,λP=>?_⟩
 ·rw[ri (d:=0) H J] at hi;generalize Q:bN c i.toNat 0=x at hi ⊢;simp only[dG] at hi;refine⟨by omega,by omega,by omega,λh1=>?_,λh1=>⟨λO=>?_,λO=>?_⟩⟩
  ·rw[if_pos (.inl h1)] at hi;exact⟨E (by simp[cK,hi]),by simp[eT,hi]⟩
  ·rw[if_pos (.inr (by omega))] at hi;exact⟨E (by simp[cK,hi]),by simp[eT,hi]⟩
  ·rw[if_neg (by omega)] at hi;simp only[γF,ε2];refine⟨by omega,by omega,by omega,by omega,by omega,by omega,⟨by omega,by omega,by omega,by omega,?_⟩,by omega⟩;rw[hi,ζu];congr 1;funext r;simp
 ·rw[show i.toNat=c.length from by omega,δD] at hi;simp only[dG,ξ,γ1] at hi;exact⟨by simp[cK,hi],by simp[eT,hi]⟩
def L6:List NG:=nz::zZ::L5
theorem JO:∀c∈L6,Holds Tryz.prog c:=by grind[L6,oT,zo,CL]
def cq (p:ew) (c:List Int):Int:=if nW p≠0 then nW p else if eT p c=false then 4 else if fz p (cK p c)=false then 14 else 0
def td:NG:=⟨37,ew×List Int,.cons cI (.one (cP (.i .i64))),λa=>a.2.length<=9223372036854775807,λa=> .si .i64 (cq a.1 a.2)⟩
theorem N5 {p:ew}:∀{l:List bA} {a:List nu},iF p a l=0->∀x∈l,jD p x=0
 |[],_,_=>by simp;|o::r,a,h=>by
  simp only[iF] at h;split at h;·omega
  ·rename_i c;split at h;·cases h
   ·intro x b;rcases γl.1 b with rfl|b;·omega
    ·exact N5 h x b
theorem rh {p:ew} (h:nW p=0):im p=0/\∀x∈p.bj,jD p x=0:=by
 unfold nW at h;split at h;·omega
 next a=>exact⟨γa.1 a,N5 h⟩
theorem zY {p:ew} {o:bA} (h:jD p o=0):j5 p.bk.length o=0/\o.bx≠oz.zero/\fz p [o]=true:=by unfold jD at h;grind
theorem yw {l:List bA}:∀{c:List Int} {a:Int} {r:List bA}, -1<=a->dG l a c=some r->r.length+a+1<=l.length\/r=[]
 |[],a,r,_,h=>by grind[dG];|i::c,a,r,d,h=>by
  simp only[dG] at h;split at h;·cases h
  next e=>obtain⟨f,b,rfl⟩:=ε.1 h;have:=yw (by omega) b;grind
theorem zW {l:List bA}:∀{c:List Int} {a:Int} {r:List bA}, -1<=a->dG l a c=some r->∀x∈r,x∈l
 |[],a,r,_,h=>by grind[dG];|i::c,a,r,f,h=>by
  simp only[dG] at h;split at h;·cases h
  ·rename_i e;obtain⟨g,d,rfl⟩:=ε.1 h;intro x b;rcases γl.1 b with rfl|b;·grind[cy]
   ·exact zW (by omega) d x b
theorem pJ:Holds Tryz.prog td:=by
 refine bI (L:=L6) td (λp=>λ_=> .look) JO ?_;rintro⟨p,c⟩ (n:c.length<=9223372036854775807);refine NI (let a:=γu .i64;let e:=decide (nW p≠(0:Int));let d:=γc .i64 (cq p c);let f:=!fz p (cK p c);True/\(e=true->(γc .i64 (nW p)).bi d)/\(e=false->(c.length<=9223372036854775807/\p.bj.length<=1000)/\((!eT p c)=true->(a 4).bi d)/\((!eT p c)=false->(p.bk.length<=8/\(cK p c).length<=1000/\∀(x:bA),x∈cK p c->(0:Int)<=x.Gz/\x.Gz<(↑p.bk.length:Int)/\x.bx.ok=true)/\(f=true->(a 14).bi d)/\(f=false->(a 0).bi d)))) (by kernel_rfl) ?_;simp only[vcs];refine⟨λh=>by simp[cq,h],λh=>?_⟩;have g:nW p=0:=γa.1 h;obtain⟨m,j⟩:=rh g;obtain⟨s,o,l,q,t⟩:=rj m;refine⟨⟨n,by omega⟩,λa=>by grind[cq],λa=>⟨⟨l,?_,?_⟩,λk=>by grind[cq],λk=>by grind[cq]⟩⟩
 ·unfold eT at a;obtain⟨r,b⟩:=γE.1 a;have:=yw (by omega) b;grind[cK]
 ·unfold eT at a;obtain⟨r,b⟩:=γE.1 a;simp only[cK,b,δB];intro x i;have u:=z_ (zY (j x (zW (by omega) b x i))).1;simp_all
def L7:List NG:=td::L6
theorem JN:∀c∈L7,Holds Tryz.prog c:=by simp only[L7,δr];exact⟨pJ,JO⟩
def oz.sub (a b:oz):oz:=⟨a.a0 - b.a0,a.a1 - b.a1,a.a2 - b.a2,a.a3 - b.a3,a.a4 - b.a4,a.a5 - b.a5⟩
def oz.meet (a b:oz):oz:=⟨min a.a0 b.a0,min a.a1 b.a1,min a.a2 b.a2,min a.a3 b.a3,min a.a4 b.a4,min a.a5 b.a5⟩
def oz.le (a b:oz):Bool:=decide (a.a0<=b.a0)&&decide (a.a1<=b.a1)&&decide (a.a2<=b.a2)&&decide (a.a3<=b.a3)&&decide (a.a4<=b.a4)&&decide (a.a5<=b.a5)
theorem oz.le_iff {a b:oz}:a.le b=true↔a.a0<=b.a0/\a.a1<=b.a1/\a.a2<=b.a2/\a.a3<=b.a3/\a.a4<=b.a4/\a.a5<=b.a5:=by simp[oz.le,and_assoc]
theorem XR {x y:Int}:min x y=x↔x<=y:=by rw[Int.min_def];split<;>omega
theorem OZ {a b:List SV}:(γG a).bi (.agg b)↔gL a=gL b:=by simp[ε4,ε8]
def yv:NG:=⟨67,oz×oz,.cons (dg .bun) (.one (dg .bun)),λ_=>True,λa=> .agg (cd .bun (a.1.meet a.2))⟩
theorem uI:Holds Tryz.prog yv:=by refine bI (L:=[]) yv (λ_=>λ_=> .aob 7) (by simp) ?_;rintro⟨a,b⟩ _;refine NI (let c:=γc .i64;(γG [c (min a.a0 b.a0),c (min a.a1 b.a1),c (min a.a2 b.a2),c (min a.a3 b.a3),c (min a.a4 b.a4),c (min a.a5 b.a5)]).bi (γG [c (a.meet b).a0,c (a.meet b).a1,c (a.meet b).a2,c (a.meet b).a3,c (a.meet b).a4,c (a.meet b).a5])) (by kernel_rfl) ?_;simp only[vcs,OZ,gL,ε8,oz.meet,and_self]
def GT:NG:=⟨88,oz×oz,.cons (dg .bun) (.one (dg .bun)),λ_=>True,λa=> .sb (a.1.le a.2)⟩
theorem Jz:Holds Tryz.prog GT:=by refine bI (L:=[yv]) GT (λ_=>λ_=> .aob 7) (by simpa using uI) ?_;rintro⟨a,b⟩ _;refine NI (True/\(γA (decide ((a.meet b).a0=a.a0)&&(decide ((a.meet b).a1=a.a1)&&(decide ((a.meet b).a2=a.a2)&&(decide ((a.meet b).a3=a.a3)&&(decide ((a.meet b).a4=a.a4)&&(decide ((a.meet b).a5=a.a5)&&true))))))).bi (γA (a.le b))) (by kernel_rfl) ?_;simp only[vcs,oz.meet];rw[Bool.eq_iff_iff];simp only[ζ,decide_eq_true_eq,oz.le_iff,δI,XR]
def GS:NG:=⟨89,oz×oz,.cons (dg .bun) (.one (dg .bun)),λa=>a.1.ok=true/\a.2.ok=true,λa=> .agg (cd .bun (a.1.sub a.2))⟩
theorem Jy:Holds Tryz.prog GS:=by
 refine bI (L:=[]) GS (λ_=>λ_=> .aob 7) (by simp) ?_;rintro⟨a,b⟩ ⟨h1,e⟩;have h1:=oz.fA.1 h1;have e:=oz.fA.1 e;simp only at h1 e;refine NI (let c:=γc .i64;let d:=TP .i64;d (a.a0 - b.a0)/\d (a.a1 - b.a1)/\d (a.a2 - b.a2)/\d (a.a3 - b.a3)/\d (a.a4 - b.a4)/\d (a.a5 - b.a5)/\(γG [c (a.a0 - b.a0),c (a.a1 - b.a1),c (a.a2 - b.a2),c (a.a3 - b.a3),c (a.a4 - b.a4),c (a.a5 - b.a5)]).bi (γG [c (a.sub b).a0,c (a.sub b).a1,c (a.sub b).a2,c (a.sub b).a3,c (a.sub b).a4,c (a.sub b).a5])) (by kernel_rfl) ?_;simp only[vcs,OZ,gL,ε8,oz.sub,and_self];repeat' (first|refine γk ?_ ?_|intro _)
 all_goals first|trivial|omega
def kz (p:ew) (m:Int):Int:=if nW p≠0 then nW p else if m<0\/2^p.bk.length<=m then 4 else 0
def GR:NG:=⟨42,ew×Int,.cons cI (.one (dY .i64)),λ_=>True,λa=> .si .i64 (kz a.1 a.2)⟩
theorem JG:Holds Tryz.prog GR:=by
 refine bI (L:=L7) GR (λ_=>λ_=> .aob 7) JN ?_;rintro⟨p,m⟩ _;refine NI (let a:=γu .i64;let b:=(0:Int);let f:=decide (nW p≠b);let c:=γc .i64 (kz p m);let g:=decide (m<b);let d:=(↑p.bk.length:Int);let e:=(1:Int)*(2:Int)^d.toNat;True/\(f=true->(γc .i64 (nW p)).bi c)/\(f=false->(g=true->(a 4).bi c)/\(g=false->b<=d/\d<=(64:Int)/\TP .i64 e/\(decide (e<=m)=true->(a 4).bi c)/\(decide (e<=m)=false->(a 0).bi c)))) (by kernel_rfl) ?_;simp only[vcs];refine⟨λh=>by simp[kz,h],λh=>⟨λh1=>?_,λh1=>?_⟩⟩
 ·have i:=γa.1 h;simp[kz,i,h1]
 ·have i:nW p=0:=γa.1 h;obtain⟨f1,f2,f3,f4,f5⟩:=rj (rh i).1;have k:(1:Int)*2^((p.bk.length:Int)).toNat=2^p.bk.length:=by simp
  have n:(2:Int)^p.bk.length<=256:=by
   have:p.bk.length=0\/p.bk.length=1\/p.bk.length=2\/p.bk.length=3\/p.bk.length=4\/p.bk.length=5\/p.bk.length=6\/p.bk.length=7\/p.bk.length=8:=by omega
   rcases this with h|h|h|h|h|h|h|h|h<;>rw[h]<;>decide
  have l:(0:Int)<2^p.bk.length:=δE (by decide);rw[k];refine⟨by omega,by omega,⟨by omega,by omega⟩,λj=>?_,λj=>?_⟩;·simp only[kz,i,ne_eq,not_true,if_false,if_pos (show m<0\/2^p.bk.length<=m from .inr j)]
  ·simp only[kz,i,ne_eq,not_true,if_false,if_neg (show ¬(m<0\/2^p.bk.length<=m) by omega)]
structure L8 where
 (l0 l1 l2 l3 l4 l5 l6 l7:List bA)
structure ki where
 p:ew
 ls:L8
 es:List (dU×Int)
def iN (p:ew) (j:Int):List bA:=p.bj.filter λx=>decide (x.Gz=j)
def L8.of (p:ew):L8:=⟨iN p 0,iN p 1,iN p 2,iN p 3,iN p 4,iN p 5,iN p 6,iN p 7⟩
def ki.o (s:ki):VI:=
 [.cells [.si .i64 s.p.bm.a0,.si .i64 s.p.bm.a1,.si .i64 s.p.bm.a2,.si .i64 s.p.bm.a3,.si .i64 s.p.bm.a4,.si .i64 s.p.bm.a5,
  .si .i64 s.p.bs.a0,.si .i64 s.p.bs.a1,.si .i64 s.p.bs.a2,.si .i64 s.p.bs.a3,.si .i64 s.p.bs.a4,.si .i64 s.p.bs.a5,
  .si .i64 s.p.bt.a0,.si .i64 s.p.bt.a1,.si .i64 s.p.bt.a2,.si .i64 s.p.bt.a3,.si .i64 s.p.bt.a4,.si .i64 s.p.bt.a5,
  .row (.i .i64) s.p.bk,.row .bu s.p.bj,.row .bu s.ls.l0,.row .bu s.ls.l1,.row .bu s.ls.l2,.row .bu s.ls.l3,.row .bu s.ls.l4,.row .bu s.ls.l5,.row .bu s.ls.l6,.row .bu s.ls.l7,.mp 1] 114 29 false,
  .map .sit (.i .i64) true s.es ([0,0,0,0,0,0,0,0,0,0,0,0,0],true) true]
def GQ:VI->Option ki
 |[.cells [s0,s1,s2,s3,c,b,j,h,o2,g,e,d,o,c1,c2,n,m,l,k,f,l0,l1,l2,l3,l4,l5,l6,l7,.mp 1] 114 29 false,.map a sv true es ([0,0,0,0,0,0,0,0,0,0,0,0,0],true) true]=>
  match sM [s0,s1,s2,s3,c,b,j,h,o2,g,e,d,o,c1,c2,n,m,l,k,f],H9 a sv .sit (.i .i64) es with
  |some p,some es=>match fZ .bu l0,fZ .bu l1,fZ .bu l2,fZ .bu l3,fZ .bu l4,fZ .bu l5,fZ .bu l6,fZ .bu l7 with
   |some l0,some l1,some l2,some l3,some l4,some l5,some l6,some l7=>some ⟨p,⟨l0,l1,l2,l3,l4,l5,l6,l7⟩,es⟩
   |_,_,_,_,_,_,_,_=>none
  |_,_=>none
 |_=>none
theorem XQ {k v b v':cj} {es:List (k.T×v.T)} {a:List (b.T×v'.T)} (h:H9 k v b v' es=some a):k=b/\v=v'/\HEq es a:=by
 unfold H9 at h;split at h
 next c=>obtain⟨rfl,rfl⟩:=c;simp only[γ] at h;exact⟨rfl,rfl,heq_of_eq h⟩
 ·cases h
theorem XP {o:VI} {s:ki} (h:GQ o=some s):gO o=gO s.o:=by
 unfold GQ at h;split at h
 ·split at h
  ·rename_i p f h1 e;split at h
   next k0 k1 k2 k3 k4 d c b=>simp only[γ] at h;obtain⟨rfl,rfl,he⟩:=XQ e;cases he;have a:=wB h1;subst h;simp only[ew.ss,gL,χ,and_true] at a;simp only[ki.o,gO,ν,γv,iZ.g,gL,jF k0,jF k1,jF k2,jF k3,jF k4,jF d,jF c,jF b];simp only[a]
   ·cases h
  ·cases h
 ·cases h
theorem XO {s t:ki} (h:gO s.o=gO t.o):s=t:=by
 obtain⟨p,⟨l0,l1,l2,l3,l4,l5,l6,l7⟩,es⟩:=s;obtain⟨q,⟨m0,m1,m2,m3,m4,m5,m6,m7⟩,fs⟩:=t;simp only[ki.o,gO,ν,γv,iZ.g,gL,χ,OL.cells.injEq,OL.map.injEq,and_true,true_and] at h;obtain⟨h,he⟩:=h;have k:p=q:=by apply cI.inj;show(γG p.ss).g=(γG q.ss).g;simp only[ε8,ew.ss,gL,AV.agg.injEq,χ,and_true] at h ⊢;simp only[h,and_self]
 subst k;have hr:∀{a b:List bA},(Ω .bu a).g=(Ω .bu b).g->a=b:=λi=>(cP .bu).inj _ _ i;have e:=h.2.2.2.2.2.2.2.2.2.2.2.2.2.2.2.2.2.2.2.2;obtain⟨e,h1,c,d,u,r,n,m⟩:=e;have D:=hr e;have C:=hr h1;have B:=hr c;have A:=hr d;have z:=hr u;have y:=hr r;have x:=hr n;have w:=hr m;subst D C B A z y x w;have f:es=fs:=by
  revert fs;induction es with
  |nil=>intro fs he;cases fs with
   |nil=>rfl;|cons=>simp at he
  |cons a es j=>
   intro fs he;cases fs with
   |nil=>simp at he;|cons b fs=>
    simp only[ν,χ,ι] at he;obtain⟨⟨h1,c⟩,d⟩:=he;have l:=j fs d;obtain⟨a1,a2⟩:=a;obtain⟨E,F⟩:=b;simp only[nX,if_true,Value.agg.injEq,lV,cD,List.headD_cons,AV.sc.injEq,Value.int.injEq,true_and] at h1 c;have h1:=pZ .sit a1 E (by simpa[cD] using h1);rw[l,h1,c]
 rw[f]
def y7:List NG:=GR::GT::GS::yv::L7
theorem CK:∀c∈y7,Holds Tryz.prog c:=by simp only[y7,δr];exact⟨JG,Jz,Jy,uI,JN⟩
def zV (f:FuncId) (β:Type) (A:oJ β) (dom:ki×β->Prop) (res:ki×β->SV) (out:ki×β->ki):cC where
 f:=f;α:=ki×β;put a:=.ptr 0 0 29::A.put a.2;st a:=a.1.o;dec v o:=match v with
  | .ptr 0 0 29::r=>match GQ o,A.dec r with
   |some s,some b=>some (s,b)
   |_,_=>none
  |_=>none;ok v o a h:=by
  split at h
  ·split at h
   next h1 c=>simp only[γ] at h;subst h;exact⟨by simp only[gL,A.ok _ _ c],XP h1⟩
   ·cases h
  ·cases h
 inj a b h1 c:=by simp only[gL,χ,true_and] at h1;exact Prod.ext (XO c) (A.inj _ _ h1)
 dom:=dom;res:=res;out a:=(out a).o
def GP:cC:=zV 45 Int (.one (dY .i64)) (λ_=>True) (λa=> .agg (cd .sit ⟨a.2,a.1.p.bm,a.1.p.bs⟩)) (λa=>a.1)
theorem JE:dp Tryz.prog GP:=by refine jE (L:=[]) (W:=[]) GP lk (by simp) (by simp) ?_;rintro⟨s,m⟩ _;refine NI (let a:=γc .i64;let b:=Ω;let c:=a s.p.bm.a0;let d:=a s.p.bm.a1;let e:=a s.p.bm.a2;let f:=a s.p.bm.a3;let g:=a s.p.bm.a4;let h:=a s.p.bm.a5;let j:=a s.p.bs.a0;let k:=a s.p.bs.a1;let l:=a s.p.bs.a2;let n:=a s.p.bs.a3;let o:=a s.p.bs.a4;let q:=a s.p.bs.a5;let r:=γG [a m,c,d,e,f,g,h,j,k,l,n,o,q];let t:=iZ.cells [c,d,e,f,g,h,j,k,l,n,o,q,a s.p.bt.a0,a s.p.bt.a1,a s.p.bt.a2,a s.p.bt.a3,a s.p.bt.a4,a s.p.bt.a5,b (cj.i .i64) s.p.bk,b cj.bu s.p.bj,b cj.bu s.ls.l0,b cj.bu s.ls.l1,b cj.bu s.ls.l2,b cj.bu s.ls.l3,b cj.bu s.ls.l4,b cj.bu s.ls.l5,b cj.bu s.ls.l6,b cj.bu s.ls.l7,θC 1] 114 29 false;let u:=iZ.map cj.sit (cj.i .i64) true s.es ([0,0,0,0,0,0,0,0,0,0,0,0,0],true) true;r.bi r/\t.bi t/\u.bi u/\True) (by kernel_rfl) ?_;simp only[vcs]
def oc (c w a j k:Int):Int:=if j<k/\(c=0\/c=a) then 0 else w
def j4 (p:ew) (x:bA):Int:=bN p.bk x.Gz.toNat 0
def ed (p:ew) (x:bA) (k:Int):oz:=⟨oc p.bt.a0 x.bx.a0 (j4 p x) 0 k,oc p.bt.a1 x.bx.a1 (j4 p x) 1 k,oc p.bt.a2 x.bx.a2 (j4 p x) 2 k,oc p.bt.a3 x.bx.a3 (j4 p x) 3 k,oc p.bt.a4 x.bx.a4 (j4 p x) 4 k,oc p.bt.a5 x.bx.a5 (j4 p x) 5 k⟩
def dD (p:ew) (x:bA):oz:=ed p x 6
def Hm:cC:=zV 87 bA (.one (dg .bu)) (λa=>0<=a.2.Gz/\a.2.Gz<a.1.p.bk.length) (λa=> .agg (cd .bun (dD a.1.p a.2))) (λa=>a.1)
def XN (a:ki×bA):Nat->bH
 |3=> .inv Int (λk=>⟨[(0,.ptr 0 0 29),(3,.ptr 2 0 8),(4,.ptr 3 0 6),(5,.ptr 4 0 6),(9,.si .i64 k)],a.1.o++[.cells (cd .bu a.2) 65 8 false,.cells [.il .i64 0,.il .i64 0,.il .i64 0,.il .i64 0,.il .i64 0,.il .i64 0] 23 6 false,.cells (cd .bun (ed a.1.p a.2 k)) 23 6 false]⟩) (λs=>iS s 9)
  (λk=>0<=k/\k<=6) (λk=>(6 - k).toNat) λ_ _=> .look
 |_=> .look
theorem JA:dp Tryz.prog Hm:=by
 refine jE (L:=[]) (W:=[]) Hm XN (by simp) (by simp) ?_;rintro⟨s,x⟩ ⟨h1,h2⟩;simp only at h1 h2;refine NI (let a:=γc .i64;let b:=(0:Int);let c:=(6:Int);let d:=iZ.cells;let e:=Ω;let f:=γM;let m:=f 0 0 29;let n:=f 2 0 8;let o:=f 3 0 6;let q:=f 4 0 6;let l:=γu .i64 0;let j:=d [a s.p.bm.a0,a s.p.bm.a1,a s.p.bm.a2,a s.p.bm.a3,a s.p.bm.a4,a s.p.bm.a5,a s.p.bs.a0,a s.p.bs.a1,a s.p.bs.a2,a s.p.bs.a3,a s.p.bs.a4,a s.p.bs.a5,a s.p.bt.a0,a s.p.bt.a1,a s.p.bt.a2,a s.p.bt.a3,a s.p.bt.a4,a s.p.bt.a5,e (cj.i .i64) s.p.bk,e cj.bu s.p.bj,e cj.bu s.ls.l0,e cj.bu s.ls.l1,e cj.bu s.ls.l2,e cj.bu s.ls.l3,e cj.bu s.ls.l4,e cj.bu s.ls.l5,e cj.bu s.ls.l6,e cj.bu s.ls.l7,θC 1] 114 29 false;let k:=iZ.map cj.sit (cj.i .i64) true s.es ([0,0,0,0,0,0,0,0,0,0,0,0,0],true) true;let z:=a x.bx.a0;let A:=a x.bx.a1;let B:=a x.bx.a2;let C:=a x.bx.a3;let D:=a x.bx.a4;let E:=a x.bx.a5;let r:=d [a x.Gz,z,A,B,C,D,E,a x.value] 65 8 false;let t:=d [l,l,l,l,l,l] 23 6 false;let u:=ed s.p x b;let M:=[s.p.bt.a0,s.p.bt.a1,s.p.bt.a2,s.p.bt.a3,s.p.bt.a4,s.p.bt.a5];(((m.bi m/\n.bi n/\o.bi o/\q.bi q/\l.bi (a 0)/\True)/\j.bi j/\k.bi k/\r.bi r/\t.bi t/\(d [z,A,B,C,D,E] 23 6 false).bi (d [a u.a0,a u.a1,a u.a2,a u.a3,a u.a4,a u.a5] 23 6 false)/\True)/\b<=b/\b<=c)/\∀(N:Int),let h:=N+(1:Int);let y:=a h;let g:=ed s.p x N;let v:=ed s.p x h;let F:=d [a v.a0,a v.a1,a v.a2,a v.a3,a v.a4,a v.a5] 23 6 false;let G:=decide (N<c);let H:=bN M N.toNat b;let I:=decide (H=b);let J:=decide (H=bN s.p.bk x.Gz.toNat b);let K:=[a g.a0,a g.a1,a g.a2,a g.a3,a g.a4,a g.a5];let w:=dD s.p x;let L:=b<=N/\N<c/\N.toNat<6/\TP .i64 h/\((m.bi m/\n.bi n/\o.bi o/\q.bi q/\y.bi y/\True)/\j.bi j/\k.bi k/\r.bi r/\t.bi t/\(d [a (if N.toNat=0 then b else g.a0),a (if N.toNat=1 then b else g.a1),a (if N.toNat=2 then b else g.a2),a (if N.toNat=3 then b else g.a3),a (if N.toNat=4 then b else g.a4),a (if N.toNat=5 then b else g.a5)] 23 6 false).bi F/\True)/\(b<=h/\h<=c)/\(c - h).toNat<(c - N).toNat;b<=N/\N<=c->(G=true->b<=N/\N<c/\N.toNat<6/\(I=true->L)/\(I=false->b<=N/\N<c/\N.toNat<6/\b<=x.Gz/\x.Gz<(↑s.p.bk.length:Int)/\x.Gz.toNat<s.p.bk.length/\(J=true->L)/\(J=false->TP .i64 h/\((m.bi m/\n.bi n/\o.bi o/\q.bi q/\y.bi y/\True)/\j.bi j/\k.bi k/\r.bi r/\t.bi t/\(d K 23 6 false).bi F/\True)/\(b<=h/\h<=c)/\(c - h).toNat<(c - N).toNat)))/\(G=false->(γG K).bi (γG [a w.a0,a w.a1,a w.a2,a w.a3,a w.a4,a w.a5])/\j.bi j/\k.bi k/\True)) (by kernel_rfl) ?_;simp only[vcs];have hc:∀{a0 a1 a2 a3 a4 a5 b0 b1 b2 b3 Z Y:Int},a0=b0/\a1=b1/\a2=b2/\a3=b3/\a4=Z/\a5=Y->
   (iZ.cells [γc .i64 a0,γc .i64 a1,γc .i64 a2,γc .i64 a3,γc .i64 a4,γc .i64 a5] 23 6 false).bi (iZ.cells [γc .i64 b0,γc .i64 b1,γc .i64 b2,γc .i64 b3,γc .i64 Z,γc .i64 Y] 23 6 false):=by rintro _ _ _ _ _ _ _ _ _ _ _ _ ⟨rfl,rfl,rfl,rfl,rfl,rfl⟩;rfl
 have O:∀c w cl j:Int,0<=j->oc c w cl j 0=w:=λc w cl j hj=>by unfold oc;rw[if_neg (by omega)]
 have bav:∀c w cl j k:Int,j≠k->oc c w cl j (k+1)=oc c w cl j k:=λc w cl j k hj=>by
  unfold oc;by_cases h:j<k/\(c=0\/c=cl);·rw[if_pos h,if_pos ⟨by omega,h.2⟩]
  ·rw[if_neg h,if_neg (by omega)]
 have baw:∀c w cl k:Int,(c=0\/c=cl)->oc c w cl k (k+1)=0:=λc w cl k h=>by unfold oc;rw[if_pos ⟨by omega,h⟩]
 have bax:∀c w cl k:Int,¬(c=0\/c=cl)->oc c w cl k (k+1)=oc c w cl k k:=λc w cl k h=>by unfold oc;rw[if_neg (by omega),if_neg (by omega)]
 have R:∀k:Int,0<=k->k<6->(bN [s.p.bt.a0,s.p.bt.a1,s.p.bt.a2,s.p.bt.a3,s.p.bt.a4,s.p.bt.a5] k.toNat 0=0\/bN [s.p.bt.a0,s.p.bt.a1,s.p.bt.a2,s.p.bt.a3,s.p.bt.a4,s.p.bt.a5] k.toNat 0=j4 s.p x)->
   (if k.toNat=0 then 0 else(ed s.p x k).a0)=(ed s.p x (k+1)).a0/\(if k.toNat=1 then 0 else(ed s.p x k).a1)=(ed s.p x (k+1)).a1/\(if k.toNat=2 then 0 else(ed s.p x k).a2)=(ed s.p x (k+1)).a2/\
   (if k.toNat=3 then 0 else(ed s.p x k).a3)=(ed s.p x (k+1)).a3/\(if k.toNat=4 then 0 else(ed s.p x k).a4)=(ed s.p x (k+1)).a4/\(if k.toNat=5 then 0 else(ed s.p x k).a5)=(ed s.p x (k+1)).a5:=by
  intro k P U Q;have hk:k=0\/k=1\/k=2\/k=3\/k=4\/k=5:=by omega
  rcases hk with rfl|rfl|rfl|rfl|rfl|rfl<;>simp[bN] at Q<;>simp[ed,oc,Q]
 have T:∀k:Int,0<=k->k<6->¬(bN [s.p.bt.a0,s.p.bt.a1,s.p.bt.a2,s.p.bt.a3,s.p.bt.a4,s.p.bt.a5] k.toNat 0=0\/bN [s.p.bt.a0,s.p.bt.a1,s.p.bt.a2,s.p.bt.a3,s.p.bt.a4,s.p.bt.a5] k.toNat 0=j4 s.p x)->
   (ed s.p x k).a0=(ed s.p x (k+1)).a0/\(ed s.p x k).a1=(ed s.p x (k+1)).a1/\(ed s.p x k).a2=(ed s.p x (k+1)).a2/\
   (ed s.p x k).a3=(ed s.p x (k+1)).a3/\(ed s.p x k).a4=(ed s.p x (k+1)).a4/\(ed s.p x k).a5=(ed s.p x (k+1)).a5:=by
  intro k P U Q;have hk:k=0\/k=1\/k=2\/k=3\/k=4\/k=5:=by omega
  rcases hk with rfl|rfl|rfl|rfl|rfl|rfl<;>simp[bN] at Q<;>simp[ed,oc,Q]
 refine⟨⟨hc ⟨by simp[ed,O],by simp[ed,O],by simp[ed,O],by simp[ed,O],by simp[ed,O],by simp[ed,O]⟩,by omega⟩,?_⟩;rintro k ⟨P,U⟩;refine⟨λS=>⟨by omega,by omega,by omega,λX=>⟨by omega,by omega,by omega,by omega,hc (R k P S (.inl X)),by omega⟩,λX=>⟨by omega,by omega,by omega,by omega,by omega,by omega,
  λV=>⟨by omega,by omega,by omega,by omega,hc (R k P S (.inr V)),by omega⟩,λV=>⟨by omega,hc (T k P S (by rintro(h|h);exact X h;exact V h)),by omega⟩⟩⟩,λhge=>?_⟩;have:k=6:=by omega
 subst this;rfl
def dU.b (a:dU):Prop:=a.left.ok=true/\a.bs.ok=true
def cN (p:ew) (a:dU) (x:bA):Bool:=x.bx.le a.left&&(dD p x).le a.bs
def kJ (p:ew) (a:dU) (x:bA):dU:=⟨fm.arU .i64 a.members (2^x.Gz.toNat),a.left.sub x.bx,a.bs.sub (dD p x)⟩
def dU.zero:dU:=⟨0,oz.zero,oz.zero⟩
def rf (p:ew) (a:dU) (x:bA):dU:=if cN p a x=true then kJ p a x else dU.zero
theorem wX {c w cl j k:Int} (h:0<=w/\w<=4):0<=oc c w cl j k/\oc c w cl j k<=4:=by unfold oc;split<;>omega
theorem OY {p:ew} {x:bA} (h:x.bx.ok=true):(dD p x).ok=true:=by have h:=oz.fA.1 h;exact oz.fA.2 ⟨wX h.1,wX h.2.1,wX h.2.2.1,wX h.2.2.2.1,wX h.2.2.2.2.1,wX h.2.2.2.2.2⟩
def Hl:cC:=zV 64 (dU×bA) (.cons (dg .sit) (.one (dg .bu))) (λa=>a.1.p.bk.length<=8/\0<=a.2.2.Gz/\a.2.2.Gz<a.1.p.bk.length/\a.2.1.b/\a.2.2.bx.ok=true)
 (λa=> .IL [.agg (cd .sit (rf a.1.p a.2.1 a.2.2)),.sb (cN a.1.p a.2.1 a.2.2)]) (λa=>a.1)
theorem JD:dp Tryz.prog Hl:=by
 refine jE (L:=y7) (W:=[Hm]) Hl lk (by simpa using JA) CK ?_;rintro⟨s,a,x⟩ ⟨h1,D,B,y,w⟩;simp only at h1 D B y w;refine NI (let b:=γc .i64;let c:=Ω;let d:=γG;let e:=SV.IL;let f:=γu .i64 0;let g:=rf s.p a x;let h:=g.left;let n:=e [d [b g.members,b h.a0,b h.a1,b h.a2,b h.a3,b h.a4,b h.a5,b g.bs.a0,b g.bs.a1,b g.bs.a2,b g.bs.a3,b g.bs.a4,b g.bs.a5],γA (cN s.p a x)];let l:=iZ.cells [b s.p.bm.a0,b s.p.bm.a1,b s.p.bm.a2,b s.p.bm.a3,b s.p.bm.a4,b s.p.bm.a5,b s.p.bs.a0,b s.p.bs.a1,b s.p.bs.a2,b s.p.bs.a3,b s.p.bs.a4,b s.p.bs.a5,b s.p.bt.a0,b s.p.bt.a1,b s.p.bt.a2,b s.p.bt.a3,b s.p.bt.a4,b s.p.bt.a5,c (cj.i .i64) s.p.bk,c cj.bu s.p.bj,c cj.bu s.ls.l0,c cj.bu s.ls.l1,c cj.bu s.ls.l2,c cj.bu s.ls.l3,c cj.bu s.ls.l4,c cj.bu s.ls.l5,c cj.bu s.ls.l6,c cj.bu s.ls.l7,θC 1] 114 29 false;let m:=iZ.map cj.sit (cj.i .i64) true s.es ([0,0,0,0,0,0,0,0,0,0,0,0,0],true) true;let o:=!(dD s.p x).le a.bs;let q:=(1:Int)*(2:Int)^x.Gz.toNat;let j:=a.left.sub x.bx;let k:=a.bs.sub (dD s.p x);let r:=(e [d [f,f,f,f,f,f,f,f,f,f,f,f,f],δb false]).bi n/\l.bi l/\m.bi m/\True;((0:Int)<=x.Gz/\x.Gz<(↑s.p.bk.length:Int))/\True/\((!x.bx.le a.left)=true->r)/\((!x.bx.le a.left)=false->True/\(o=true->r)/\(o=false->(0:Int)<=x.Gz/\x.Gz<=(64:Int)/\TP .i64 q/\(a.left.ok=true/\x.bx.ok=true)/\(a.bs.ok=true/\(dD s.p x).ok=true)/\(e [d [b (fm.arU .i64 a.members q),b j.a0,b j.a1,b j.a2,b j.a3,b j.a4,b j.a5,b k.a0,b k.a1,b k.a2,b k.a3,b k.a4,b k.a5],δb true]).bi n/\l.bi l/\m.bi m/\True))) (by kernel_rfl) ?_;simp only[vcs];have z:∀b:dU,b=dU.zero->(γG [γu .i64 0,γu .i64 0,γu .i64 0,γu .i64 0,γu .i64 0,γu .i64 0,γu .i64 0,γu .i64 0,γu .i64 0,γu .i64 0,γu .i64 0,γu .i64 0,γu .i64 0]).bi
   (γG [γc .i64 b.members,γc .i64 b.left.a0,γc .i64 b.left.a1,γc .i64 b.left.a2,γc .i64 b.left.a3,γc .i64 b.left.a4,γc .i64 b.left.a5,γc .i64 b.bs.a0,γc .i64 b.bs.a1,γc .i64 b.bs.a2,γc .i64 b.bs.a3,γc .i64 b.bs.a4,γc .i64 b.bs.a5]):=by rintro b rfl;rfl
 have F:(1:Int)*2^x.Gz.toNat<=256/\0<(1:Int)*2^x.Gz.toNat:=by
  have:x.Gz.toNat=0\/x.Gz.toNat=1\/x.Gz.toNat=2\/x.Gz.toNat=3\/x.Gz.toNat=4\/x.Gz.toNat=5\/x.Gz.toNat=6\/x.Gz.toNat=7:=by omega
  rcases this with h|h|h|h|h|h|h|h<;>rw[h]<;>decide
 refine⟨⟨D,B⟩,λhw=>?_,λhw=>⟨λv=>?_,λv=>?_⟩⟩
 ·have t:cN s.p a x=false:=by simp[cN,hw]
  exact⟨z _ (by simp[rf,t]),t.symm⟩
 ·have t:cN s.p a x=false:=by simp[cN,v]
  exact⟨z _ (by simp[rf,t]),t.symm⟩
 ·have t:cN s.p a x=true:=by simp[cN,hw,v]
  have E:rf s.p a x=kJ s.p a x:=by simp[rf,t]
  refine⟨by omega,by omega,by omega,⟨y.1,w⟩,⟨y.2,OY w⟩,?_,t.symm⟩;rw[E];simp only[kJ,εa];rfl
end Go.Vi
namespace Go.Proofs.YtbnhiekmnpikhaaGreat
open Go.ChangeShapes Go.WideShapes Go.ChangeAt Go.RowKit Go.Vi
theorem Tryz.own:ownKnob Tryz.prog.godebug=none:=by kernel_rfl
theorem Tryz.laidOut:laidOutB Tryz.prog=true:=by kernel_rfl
theorem XM:Reads Tryz.prog 3 (.i .i64):=ZA Tryz.underlying3
theorem OX:Reads Tryz.prog 23 .bun:=Zw Tryz.underlying23 Tryz.underlying3 (by kernel_rfl) (by kernel_rfl)
theorem Yx:Reads Tryz.prog 65 .bu:=Ya Tryz.underlying65 (by kernel_rfl) rfl rfl rfl Tryz.underlying3 (by kernel_rfl) Tryz.underlying2 (by kernel_rfl) OX (by kernel_rfl) rfl
theorem Yw {H:Type} {enc:TypeId×Value->H} {w:World} {a:Nat->Bool} {c:Bool} {b:Nat} {cs:List Value} {x:DataW H×List MemPlace} (h:DataW.trod enc Tryz.prog w 0 a c b 27 cs=some x):
  ∃p:ew,Aq jX w [] [] (gL p.ss) cs:=
 X_ Tryz.underlying27 (by kernel_rfl) rfl rfl rfl rfl rfl rfl OX (by kernel_rfl) Tryz.underlying24 XM (by kernel_rfl) (by kernel_rfl) Tryz.underlying25 Yx (by kernel_rfl) (by kernel_rfl) h
theorem Yv {f:FuncId} {args:List SV} (h:j8 Tryz.prog f (gL args) [] (γA true).g []) {W:World} {vs:List Value} (d:Aq jX W [] [] (gL args) vs):
  Calls Tryz.prog f vs.toArray W λe c=>e= .returned (.bool true)/\Below W.heap.size W c:=by refine(h jX W [] vs (yn W (λb a=>a.elim)) d).mono ?_;grind[ε8,nA,N_]
end Go.Proofs.YtbnhiekmnpikhaaGreat
namespace Go.Vi
open Go.ChangeShapes Go.WideShapes Go.RowKit
def Yu (P:Program) (t:TypeId) (s:cj) (Q:s.T->Prop):Prop:=
 ∀(H:Type) (d:TypeId×Value->H) (w:World) (a:Nat->Bool) (c:Bool) (b:Nat) (e:List Value) (x:DataW H×List MemPlace),DataW.trod d P w 0 a c b t e=some x->∃y:s.T,Q y/\Aq jX w [] [] (dh s y) e
theorem BA.q {P:Program} {t:TypeId} {s:cj} (h:BA P t s):Yu P t s λ_=>True:=λH d w a c b e x f=>by obtain⟨y,g⟩:=h H d w a c b e x f;grind
end Go.Vi
namespace Go.Proofs.YtbnhiekmnpikhaaGreat
open Go.ChangeShapes Go.WideShapes Go.ChangeAt Go.RowKit Go.Vi
end Go.Proofs.YtbnhiekmnpikhaaGreat
namespace Go.Vi
open Go.Proofs.YtbnhiekmnpikhaaGreat.Ir
open Go.Proofs
def oE (m f:Int):Int:=fm.arT .i64 (m / 2^f.toNat) 1
def nQ (m f:Int):Int:=fm.arU .i64 m (2^f.toNat)
def gl (m:Int):List Int:=[0,1,2,3,4,5,6,7].filter λf=>decide (oE m f≠0)
def dL (m:Int):Nat:=(gl m).length
def OW:Bool:=(Γ 256).all λm=>decide (0<=oE m 0)&&[0,1,2,3,4,5,6,7].all λf=>(decide (oE m f=0)||decide (oE m f=1))&&(decide (oE m f=0)||(decide (0<=nQ m f)&&decide (nQ m f<256)&&decide (gl (nQ m f)=(gl m).filter λg=>decide (g≠f))))
theorem Yt:OW=true:=by kernel_rfl
theorem OV {m f:Int} (d:0<=m) (a:m<256) (b:0<=f) (c:f<8):(oE m f=0\/oE m f=1)/\(oE m f≠0->0<=nQ m f/\nQ m f<256/\gl (nQ m f)=(gl m).filter λg=>decide (g≠f)):=by
 have h:=Yt;simp only[OW,τ,γt] at h;have j:=h m.toNat (by omega);simp only[ζ,τ] at j
 have i:=j.2 f (by have:f=0\/f=1\/f=2\/f=3\/f=4\/f=5\/f=6\/f=7:=by omega
                   simp_all);rw[show((m.toNat:Nat):Int)=m from by omega] at i;simp only[ζ,δd,decide_eq_true_eq] at i;refine⟨i.1,λe=>?_⟩;simp_all
def de (m:Int):Int:=(gl m).headD 0
def OU:Bool:=(Γ 256).all λm=>decide (m=0)||(decide (0<=de m)&&decide (de m<8)&&decide (oE m (de m)≠0)&&decide (gl m=de m::gl (nQ m (de m)))&&
 [0,1,2,3,4,5,6,7].all λg=>decide (de m<=g)||decide (oE m g=0))
theorem Ys:OU=true:=by kernel_rfl
theorem zU {m:Int} (d:0<=m) (c:m<256) (h:m≠0):0<=de m/\de m<8/\oE m (de m)≠0/\gl m=de m::gl (nQ m (de m))/\∀g,0<=g->g<de m->oE m g=0:=by have b:=Ys;simp only[OU,τ,γt] at b;have a:=b m.toNat (by omega);rw[show((m.toNat:Nat):Int)=m from by omega] at a;simp only[δd,ζ,decide_eq_true_eq,τ] at a;rcases a with a|a<;>grind
abbrev mz:=List (dU×Int)
def j3 (s:L8) (f:Int):List bA:=bN [s.l0,s.l1,s.l2,s.l3,s.l4,s.l5,s.l6,s.l7] f.toNat []
def iV (a:dU):dU:=⟨nQ a.members (de a.members),a.left,a.bs⟩
def gk (p:ew):Nat->mz->dU->Int×mz
 |0,es,_=>(0,es)
 |n+1,es,a=>
  if a.members=0 then(0,es) else
  match jH .sit (.i .i64) a es with
  |some v=>(v,es)
  |none=>
   let r:=(j3 (L8.of p) (de a.members)).foldl (λr x=>if cN p a x=true then(max r.1 (x.value+(gk p n r.2 (kJ p a x)).1),(gk p n r.2 (kJ p a x)).2) else r) (gk p n es (iV a));(r.1,mG .sit (.i .i64) a r.1 r.2)
def fT (p:ew) (n:Nat) (a:dU) (r:Int×mz) (x:bA):Int×mz:=
 if cN p a x=true then(max r.1 (x.value+(gk p n r.2 (kJ p a x)).1),(gk p n r.2 (kJ p a x)).2) else r
def Good (p:ew):Prop:=p.bk.length<=8/\p.bj.length<=160/\p.bm.ok=true/\p.bs.ok=true/\∀x∈p.bj,0<=x.Gz/\x.Gz<p.bk.length/\x.bx.ok=true/\1<=x.value/\x.value<=1000000
def nP (a:dU):Prop:=0<=a.members/\a.members<256/\a.b
def gu (p:ew):List Int->oz->oz->Int
 |[],_,_=>0
 |f::a,l,o=>(iN p f).foldl (λv x=>if x.bx.le l&&(dD p x).le o then max v (x.value+gu p a (l.sub x.bx) (o.sub (dD p x))) else v) (gu p a l o)
def jZ (p:ew) (a:List Int) (l o:oz) (v:Int) (x:bA):Int:=if x.bx.le l&&(dD p x).le o then max v (x.value+gu p a (l.sub x.bx) (o.sub (dD p x))) else v
def ox (p:ew) (a:dU):Int:=gu p (gl a.members) a.left a.bs
def lR (p:ew) (es:mz):Prop:=∀e∈es,e.2=ox p e.1
theorem Hk {p:ew} {fs:List Int} {l o:oz} (c:Good p) (B:Int) (a:∀l o,0<=gu p fs l o/\gu p fs l o<=B):∀{xs:List bA} {v:Int},(∀x∈xs,x∈p.bj)->0<=v/\v<=B+1000000->0<=xs.foldl (jZ p fs l o) v/\xs.foldl (jZ p fs l o) v<=B+1000000
 |[],v,_,b=>b
 |x::xs,v,d,b=>by simp only[δQ];refine Hk c B a (λy e=>d y (by simp[e])) ?_;unfold jZ;have f:=a (l.sub x.bx) (o.sub (dD p x));have g:=c.2.2.2.2 x (d x (by simp));split<;>omega
theorem Hj {p:ew} (b:Good p):∀(fs:List Int) (l o:oz),0<=gu p fs l o/\gu p fs l o<=1000000*fs.length
 |[],_,_=>by simp[gu];|f::fs,l,o=>by have a:=Hj b fs;have h:=Hk (l:=l) (o:=o) b (1000000*fs.length) a (xs:=iN p f) (v:=gu p fs l o) (λx c=>(Θ.1 c).1) (by have:=a l o;omega);have e:gu p (f::fs) l o=(iN p f).foldl (jZ p fs l o) (gu p fs l o):=rfl;rw[e];simp only[γC];omega
theorem Hi {m:Int}:(gl m).length<=8:=γT _ _
theorem OT {p:ew} (b:Good p) (a:dU):0<=ox p a/\ox p a<=8000000:=by have h:=Hj b (gl a.members) a.left a.bs;have:=@Hi a.members;unfold ox;omega
theorem Yr {a:dU} {es:mz} {v:Int} (h:jH .sit (.i .i64) a es=some v):∃e∈es,e.1=a/\e.2=v:=by unfold jH at h;obtain⟨e,h1,rfl⟩:=ε.1 h;have b:=List.find?_some h1;exact⟨e,List.mem_of_find?_eq_some h1,by simpa using b,rfl⟩
theorem OS {p:ew} {a:dU} {v:Int} (b:v=ox p a):∀{es:mz},lR p es->lR p (mG .sit (.i .i64) a v es)
 |[],_=>by intro e he;simp[mG] at he;subst he;exact b;|q::es,h=>by
  unfold mG;split
  ·intro e he;rcases γl.1 he with rfl|he;·exact b
   ·exact h e (by simp[he])
  ·intro e he;rcases γl.1 he with rfl|he;·exact h e (by simp)
   ·exact OS b (λe he=>h e (by simp[he])) e he
theorem OR {a b:oz} (d:a.ok=true) (c:b.ok=true) (h:b.le a=true):(a.sub b).ok=true:=by have d:=oz.fA.1 d;have c:=oz.fA.1 c;have h:=oz.le_iff.1 h;refine oz.fA.2 ?_;simp only[oz.sub];omega
theorem OQ {p:ew} {f:Int} (a:0<=f) (h1:f<8):j3 (L8.of p) f=iN p f:=by
 have:f=0\/f=1\/f=2\/f=3\/f=4\/f=5\/f=6\/f=7:=by omega
 rcases this with rfl|rfl|rfl|rfl|rfl|rfl|rfl|rfl<;>rfl
theorem OP {p:ew} (h:Good p) {a:dU} (b:nP a) (g:a.members≠0) {x:bA} (j:x∈iN p (de a.members)) (c:cN p a x=true):
  nP (kJ p a x)/\gl a.members=de a.members::gl (kJ p a x).members/\(kJ p a x).members=nQ a.members (de a.members):=by
 obtain⟨d,e⟩:=Θ.1 j;have e:x.Gz=de a.members:=by simp_all
 have f:=h.2.2.2.2 x d;obtain⟨k,l,i,q,o⟩:=zU b.1 b.2.1 g;have n:=(OV b.1 b.2.1 k l).2 i;have m:(kJ p a x).members=nQ a.members (de a.members):=by grind[kJ,nQ]
 simp only[cN,ζ] at c;refine⟨⟨by omega,by omega,OR b.2.2.1 f.2.2.1 c.1,OR b.2.2.2 (OY f.2.2.1) c.2⟩,by grind,m⟩
theorem OO {a:dU} (b:nP a) (d:a.members≠0):nP (iV a)/\gl a.members=de a.members::gl (iV a).members:=by obtain⟨f0,f1,f2,f3,f4⟩:=zU b.1 b.2.1 d;have c:=(OV b.1 b.2.1 f0 f1).2 f2;exact⟨⟨c.1,c.2.1,b.2.2⟩,f3⟩
theorem Hh {p:ew} (g:Good p) {n:Nat} {a:dU} (j:nP a) (k:a.members≠0)
  (h:∀(es:mz) (b:dU),nP b->lR p es->dL b.members<n->(gk p n es b).1=ox p b/\lR p (gk p n es b).2) (q:dL a.members<n+1):
  ∀{xs:List bA} {r:Int×mz},(∀x∈xs,x∈iN p (de a.members))->lR p r.2->
   (xs.foldl (fT p n a) r).1=xs.foldl (jZ p (gl (iV a).members) a.left a.bs) r.1/\lR p (xs.foldl (fT p n a) r).2
 |[],r,_,f=>⟨rfl,f⟩
 |x::xs,r,i,f=>by
  simp only[δQ];have e:=i x (by simp);have v:(fT p n a r x).1=jZ p (gl (iV a).members) a.left a.bs r.1 x/\lR p (fT p n a r x).2:=by
   unfold fT jZ;by_cases d:cN p a x=true
   ·have c:(x.bx.le a.left&&(dD p x).le a.bs)=true:=d;rw[if_pos d,if_pos c];obtain⟨u,w,t⟩:=OP g j k e d;have o:dL (kJ p a x).members<n:=by grind[dL]
    obtain⟨m,l⟩:=h r.2 _ u f o;refine⟨?_,l⟩;simp only[m,ox,t];rfl
   ·have c:¬(x.bx.le a.left&&(dD p x).le a.bs)=true:=d;simp_all
  obtain⟨z,A⟩:=Hh g j k h q (xs:=xs) (λy s=>i y (by simp[s])) v.2;simp_all
theorem zT {p:ew} (i:Good p):∀(n:Nat) (es:mz) (a:dU),nP a->lR p es->dL a.members<n->(gk p n es a).1=ox p a/\lR p (gk p n es a).2
 |0,_,_,_,_,h=>absurd h (by omega)
 |n+1,es,a,f,g,q=>by
  unfold gk;by_cases d:a.members=0
  ·rw[if_pos d];refine⟨?_,g⟩;unfold ox;rw[d];rfl
  ·rw[if_neg d];split
   next v l=>obtain⟨e,k,j,A⟩:=Yr l;refine⟨?_,g⟩;rw[<-A,g e k,j]
   ·rename_i l;obtain⟨o,y⟩:=OO f d;obtain⟨w,x,_⟩:=zU f.1 f.2.1 d;have u:dL (iV a).members<n:=by grind[dL]
    obtain⟨B,t⟩:=zT i n es _ o g u;rw[OQ w x];obtain⟨z,m⟩:=Hh i f d (λes b s k j=>zT i n es b s k j) q (xs:=iN p (de a.members)) (r:=gk p n es (iV a)) (λ_ h=>h) t;have c:((iN p (de a.members)).foldl (fT p n a) (gk p n es (iV a))).1=ox p a:=by rw[z,B];unfold ox;rw[y];rfl
    exact⟨c,OS c m⟩
def pj (n:Nat):cC:=zV 44 dU (.one (dg .sit)) (λa=>(Good a.1.p/\a.1.ls=L8.of a.1.p/\nP a.2/\lR a.1.p a.1.es)/\dL a.2.members<n)
 (λa=> .si .i64 (gk a.1.p (dL a.2.members+1) a.1.es a.2).1) (λa=>⟨a.1.p,a.1.ls,(gk a.1.p (dL a.2.members+1) a.1.es a.2).2⟩)
def W9 (n:Nat):List cC:=[pj n,Hl]
def gJ (s:ki) (a:dU) (j:Int):Int×mz:=((j3 s.ls (de a.members)).take j.toNat).foldl (fT s.p (dL a.members) a) (gk s.p (dL a.members) s.es (iV a))
def ON (s:ki) (a:dU):Nat->bH
 |7=> .inv Int (λf=>⟨[(0,.ptr 0 0 29),(3,.ptr 2 0 13),(7,.si .i64 f)],s.o++[.cells (cd .sit a) 84 13 false]⟩) (λt=>iS t 7) (λf=>0<=f/\f<=de a.members) (λf=>(de a.members - f).toNat) λ_ _=> .look
 |13=> .inv Int (λj=>⟨[(0,.ptr 0 0 29),(3,.ptr 2 0 13),(9,.si .i64 (gJ s a j).1),(51,.row .bu (j3 s.ls (de a.members))),(52,.si .i64 (j3 s.ls (de a.members)).length),(53,.si .i64 j)],
   (ki.o ⟨s.p,s.ls,(gJ s a j).2⟩)++[.cells (cd .sit a) 84 13 false,.cells (cd .sit (iV a)) 84 13 false]⟩) (λt=>iS t 53)
  (λj=>0<=j/\j<=(j3 s.ls (de a.members)).length) (λj=>((j3 s.ls (de a.members)).length - j).toNat) λ_ _=> .look
 |_=> .look
theorem Yq {p:ew} {n:Nat} {es:mz} {a:dU} (h:a.members=0):gk p (n+1) es a=(0,es):=by unfold gk;rw[if_pos h]
theorem Yp {p:ew} {n:Nat} {es:mz} {a:dU} {v:Int} (h:a.members≠0) (b:jH .sit (.i .i64) a es=some v):gk p (n+1) es a=(v,es):=by unfold gk;rw[if_neg h,b]
theorem Yo {s:ki} {a:dU} (c:s.ls=L8.of s.p) (h:a.members≠0) (b:jH .sit (.i .i64) a s.es=none) {j:Int} (d:j=(j3 s.ls (de a.members)).length):
  gk s.p (dL a.members+1) s.es a=((gJ s a j).1,mG .sit (.i .i64) a (gJ s a j).1 (gJ s a j).2):=by unfold gk gJ;rw[if_neg h,b,show j.toNat=(j3 s.ls (de a.members)).length from by omega,φ,c];rfl
theorem Yn {s:ki} {a:dU} {j:Int} (b:0<=j) (h1:j<(j3 s.ls (de a.members)).length):gJ s a (j+1)=fT s.p (dL a.members) a (gJ s a j) (bN (j3 s.ls (de a.members)) j.toNat cj.bu.bw):=by unfold gJ;rw[iG (d:=cj.bu.bw) b h1,List.foldl_append];rfl
theorem Ym {es a:mz} {b:List Nat×Bool} (h:es=a):(iZ.map cj.sit (cj.i IntKind.i64) true es b true).bi (iZ.map cj.sit (cj.i IntKind.i64) true a b true):=by rw[h];rfl
theorem Yl (n:Nat) (s:ki) (a:dU) (hg:Good s.p) (hl:s.ls=L8.of s.p) (ha:nP a) (hm:lR s.p s.es) (hn:dL a.members<n+1):
  Vc (wI (mB y7 (fH (W9 n)) oQ oR ix) (ON s a) (fG 44) ((pj (n+1)).put (s,a)) ((pj (n+1)).st (s,a)) λv t=>v.bi ((pj (n+1)).res (s,a))/\jG t ((pj (n+1)).out (s,a))):=by
 refine NI (let c:=γc .i64;let d:=(0:Int);let e:=Ω;let f:=iZ.cells;let g:=TP .i64;let h:=(1:Int);let k:=cj.i .i64;let j:=f [c s.p.bm.a0,c s.p.bm.a1,c s.p.bm.a2,c s.p.bm.a3,c s.p.bm.a4,c s.p.bm.a5,c s.p.bs.a0,c s.p.bs.a1,c s.p.bs.a2,c s.p.bs.a3,c s.p.bs.a4,c s.p.bs.a5,c s.p.bt.a0,c s.p.bt.a1,c s.p.bt.a2,c s.p.bt.a3,c s.p.bt.a4,c s.p.bt.a5,e k s.p.bk,e cj.bu s.p.bj,e cj.bu s.ls.l0,e cj.bu s.ls.l1,e cj.bu s.ls.l2,e cj.bu s.ls.l3,e cj.bu s.ls.l4,e cj.bu s.ls.l5,e cj.bu s.ls.l6,e cj.bu s.ls.l7,θC 1] 114 29 false;let t:=([0,0,0,0,0,0,0,0,0,0,0,0,0],true);let A:=iZ.map cj.sit k true s.es t true;let O:=gk s.p (dL a.members+1) s.es a;let P:=iZ.map cj.sit k true O.2 t true;let Q:=decide (a.members=d);let G:=γu .i64 0;let H:=c O.1;let I:=jH cj.sit k a s.es;let l:=γM 0 0 29;let m:=γM 2 0 13;let R:=[c a.left.a0,c a.left.a1,c a.left.a2,c a.left.a3,c a.left.a4,c a.left.a5,c a.bs.a0,c a.bs.a1,c a.bs.a2,c a.bs.a3,c a.bs.a4,c a.bs.a5];let o:=f (c a.members::R) 84 13 false;let w:=de a.members;let B:=j3 s.ls w;let J:=e cj.bu B;let q:=(↑B.length:Int);let K:=c q;let y:=(iV a).left;let z:=(iV a).bs;let L:=f [c (iV a).members,c y.a0,c y.a1,c y.a2,c y.a3,c y.a4,c y.a5,c z.a0,c z.a1,c z.a2,c z.a3,c z.a4,c z.a5] 84 13 false;let S:=j.bi j/\A.bi P/\True;(Q=true->G.bi H/\S)/\(Q=false->(I.isSome=true->(c (I.getD d)).bi H/\S)/\(I.isSome=false->(((l.bi l/\m.bi m/\G.bi (c 0)/\True)/\j.bi j/\A.bi A/\o.bi o/\True)/\d<=d/\d<=w)/\∀(x:Int),let T:=decide (fm.arT .i64 (a.members / (2:Int)^x.toNat) h=d);let C:=x+h;let U:=c C;let V:=h*(2:Int)^x.toNat;let D:=fm.arU .i64 a.members V;let W:=dU.mk D a.left a.bs;let X:=gk s.p (dL D+1) s.es W;let Y:=bN [s.ls.l0,s.ls.l1,s.ls.l2,s.ls.l3,s.ls.l4,s.ls.l5,s.ls.l6,s.ls.l7] x.toNat [];d<=x/\x<=w->d<=x/\x<=(64:Int)/\(T=true->g C/\((l.bi l/\m.bi m/\U.bi U/\True)/\j.bi j/\A.bi A/\o.bi o/\True)/\(d<=C/\C<=w)/\(w - C).toNat<(w - x).toNat)/\(T=false->d<=x/\x<=(64:Int)/\g V/\((Good s.p/\s.ls=L8.of s.p/\nP W/\lR s.p s.es)/\dL D<n)/\d<=x/\x<(8:Int)/\x.toNat<8/\(((l.bi l/\m.bi m/\(c X.1).bi (c (gJ s a d).1)/\(e cj.bu Y).bi J/\(c (↑Y.length:Int)).bi K/\G.bi (c 0)/\True)/\j.bi j/\(iZ.map cj.sit k true X.2 t true).bi (iZ.map cj.sit k true (gJ s a d).2 t true)/\o.bi o/\(f (c D::R) 84 13 false).bi L/\True)/\d<=d/\d<=q)/\∀(x:Int),let v:=x+h;let Z:=c v;let r:=bN B x.toNat cj.bu.bw;let E:=rf s.p a r;let M:=(gJ s a x).2;let N:=gk s.p (dL E.members+1) M E;let F:=(gJ s a x).1;let a6:=λ(u:Int) (u_1:Int×mz) ↦g v/\((l.bi l/\m.bi m/\(c u).bi (c (gJ s a v).1)/\J.bi J/\K.bi K/\Z.bi Z/\True)/\j.bi j/\(iZ.map cj.sit k true u_1.2 t true).bi (iZ.map cj.sit k true (gJ s a v).2 t true)/\o.bi o/\L.bi L/\True)/\(d<=v/\v<=q)/\(q - v).toNat<(q - x).toNat;d<=x/\x<=q->(decide (x<q)=true->d<=x/\x<(↑B.length:Int)/\x.toNat<B.length/\(s.p.bk.length<=8/\d<=r.Gz/\r.Gz<(↑s.p.bk.length:Int)/\a.b/\r.bx.ok=true)/\(cN s.p a r=true->((Good s.p/\s.ls=L8.of s.p/\nP E/\lR s.p M)/\dL E.members<n)/\g (r.value+N.1)/\a6 (max F (r.value+N.1)) N)/\(cN s.p a r=false->a6 F (gJ s a x)))/\(decide (x<q)=false->(c F).bi H/\j.bi j/\(iZ.map cj.sit k true (mG cj.sit k a F M) t true).bi P/\True))))) (by kernel_rfl) ?_;simp only[vcs];refine⟨λh0=>?_,λh0=>⟨λhf=>?_,λhf=>?_⟩⟩
 ·rw[Yq h0];exact⟨rfl,rfl⟩
 ·obtain⟨v,hv⟩:=γE.1 hf;rw[Yp h0 hv,hv];exact⟨rfl,rfl⟩
 ·have hnone:jH .sit (.i .i64) a s.es=none:=by simpa using hf
  obtain⟨f0,f1,f2,f3,f4⟩:=zU ha.1 ha.2.1 h0;obtain⟨s1,s2⟩:=OO ha h0;have hcs:dL (iV a).members+1=dL a.members:=by unfold dL;rw[s2];simp
  have hle:j3 s.ls (de a.members)=iN s.p (de a.members):=by rw[hl];exact OQ f0 f1
  have hll:(j3 s.ls (de a.members)).length<=160:=by rw[hle];exact Nat.le_trans (γT _ _) hg.2.1
  have hb8:=zT hg (dL a.members);obtain⟨q1,q2⟩:=hb8 s.es _ s1 hm (by omega);have hrun:∀j:Int,0<=(gJ s a j).1/\(gJ s a j).1<=9000000/\lR s.p (gJ s a j).2:=by
   intro j;have hmem:∀x∈(j3 s.ls (de a.members)).take j.toNat,x∈iN s.p (de a.members):=λx hx=>by rw[hle] at hx;exact γj hx
   obtain⟨k1,k2⟩:=Hh hg ha h0 (n:=dL a.members) (λes b hb h1 h2=>hb8 es b hb h1 h2) (by omega) (xs:=(j3 s.ls (de a.members)).take j.toNat) (r:=gk s.p (dL a.members) s.es (iV a)) hmem q2;have hB:=Hk (l:=a.left) (o:=a.bs) (fs:=gl (iV a).members) hg 8000000 (λl o=>by have:=Hj hg (gl (iV a).members) l o;have:=@Hi (iV a).members;omega) (xs:=(j3 s.ls (de a.members)).take j.toNat) (v:=(gk s.p (dL a.members) s.es (iV a)).1) (λx hx=>(Θ.1 (hmem x hx)).1) (by rw[q1];have:=OT hg (iV a);omega);unfold gJ;rw[k1];exact⟨hB.1,hB.2,k2⟩
  refine⟨⟨by omega,f0⟩,?_⟩;rintro f ⟨g0,g1⟩;refine⟨g0,by omega,λhb=>⟨by omega,⟨by omega,?_⟩,?_⟩,λhb=>?_⟩
  ·have:f≠de a.members:=λe=>f2 (by rw[<-e];exact hb);omega
  ·have:f≠de a.members:=λe=>f2 (by rw[<-e];exact hb);omega
  ·have hfe:f=de a.members:=by
    by_cases hlt:f<de a.members;·exact absurd (f4 f g0 hlt) hb
    ·omega
   subst hfe;simp only[εa];have hp:(2:Int)^(de a.members).toNat<=256/\0<(2:Int)^(de a.members).toNat:=by
    have:(de a.members).toNat=0\/(de a.members).toNat=1\/(de a.members).toNat=2\/(de a.members).toNat=3\/(de a.members).toNat=4\/(de a.members).toNat=5\/(de a.members).toNat=6\/(de a.members).toNat=7:=by omega
    rcases this with h|h|h|h|h|h|h|h<;>rw[h]<;>decide
   have hsk:fm.arU .i64 a.members (2^(de a.members).toNat)=(iV a).members:=rfl;simp only[hsk];have hse:(⟨(iV a).members,a.left,a.bs⟩:dU)=iV a:=rfl;simp only[hse,hcs];have hr0:gJ s a 0=gk s.p (dL a.members) s.es (iV a):=rfl;refine⟨g0,by omega,⟨by omega,by omega⟩,⟨⟨hg,hl,s1,hm⟩,by omega⟩,g0,f1,by omega,⟨⟨⟨?_,rfl,rfl⟩,Ym (by rw[hr0]),rfl⟩,by omega⟩,?_⟩;·rw[hr0]
   rintro j ⟨j0,j1⟩;obtain⟨b1,b2,b3⟩:=hrun j;refine⟨λjlt=>?_,λjge=>?_⟩
   ·have hsucc:=Yn (s:=s) (a:=a) j0 jlt;have hxm:=cy (d:=cj.bu.bw) (show j.toNat<(j3 s.ls (de a.members)).length by omega);generalize bN (j3 s.ls (de a.members)) j.toNat cj.bu.bw=x at hsucc hxm ⊢;rw[hle] at hxm;have hxo:=(Θ.1 hxm).1;have hxv:=hg.2.2.2.2 x hxo;refine⟨j0,jlt,by omega,⟨hg.1,hxv.1,hxv.2.1,ha.2.2,hxv.2.2.1⟩,λhfit=>?_,λhfit=>?_⟩
    ·obtain⟨k1,k2,k3⟩:=OP hg ha h0 hxm hfit;have hcn:dL (kJ s.p a x).members+1=dL a.members:=by unfold dL;rw[k2];simp
     have haf:rf s.p a x=kJ s.p a x:=by unfold rf;rw[if_pos hfit]
     simp only[haf,hcn];obtain⟨e1,e2⟩:=hb8 (gJ s a j).2 _ k1 b3 (by omega);have hbd:=OT hg (kJ s.p a x);have hst:gJ s a (j+1)=(max (gJ s a j).1 (x.value+(gk s.p (dL a.members) (gJ s a j).2 (kJ s.p a x)).1),(gk s.p (dL a.members) (gJ s a j).2 (kJ s.p a x)).2):=by rw[hsucc];unfold fT;rw[if_pos hfit]
     rw[hst];refine⟨⟨⟨hg,hl,k1,b3⟩,by omega⟩,by rw[e1];omega,by omega,⟨rfl,rfl⟩,by omega⟩
    ·have hst:gJ s a (j+1)=gJ s a j:=by rw[hsucc];unfold fT;rw[if_neg (by simp[hfit])]
     rw[hst];refine⟨?_,⟨rfl,rfl⟩,?_,?_⟩<;>omega
   ·have hj:j=(j3 s.ls (de a.members)).length:=by omega
    rw[Yo hl h0 hnone hj];exact⟨rfl,rfl⟩
theorem Hf:∀n,dp Tryz.prog (pj n)
 |0=>by
  rintro⟨s,a⟩ ⟨_,h⟩;exact absurd h (Nat.not_lt_zero _);|n+1=>by
  rintro⟨s,a⟩ ⟨h1,m⟩;by_cases hc:dL a.members<n;·exact Hf n (s,a) ⟨h1,hc⟩
  ·refine G5 (pj (n+1)) (W:=W9 n) (Λ:=λx=>ON x.1 x.2) pX (by simp only[W9,δr,δl,false_implies,implies_true,and_true];exact⟨Hf n,JD⟩) CK
    (show ix 44=some (fG 44) by kernel_rfl) (λ_=>rfl) (s,a) ?_ (Yl n s a h1.1 h1.2.1 h1.2.2.1 h1.2.2.2 m).out;intro d j b i g f;have e:d=pj n:=by have:lS 44 (W9 n)=some (pj n):=rfl;have c:lS 44 (W9 n)=some d:=j;rw[this] at c;injection c with c;exact c.symm
   subst e;have k:(s,a)=b:=(pj n).inj (s,a) b i g;subst k;exact hc f.2
def He:cC where
 f:=43;α:=ew;put p:=[cI.put p];st _:=[];dec v o:=match v,o with
  |[v],[]=>cI.dec v
  |_,_=>none;ok v o a h:=by
  split at h;·exact⟨by simp only[gL,cI.ok _ _ h],rfl⟩
  ·cases h
 inj a b h _:=by simp only[gL,χ,and_true] at h;exact cI.inj _ _ h
 dom p:=Good p;res _:=.ptr 0 0 29;out p:=ki.o ⟨p,L8.of p,[]⟩
def Yk:Nat->Option (Nat×Nat×Nat)
 |5=>some (11,0,8)
 |_=>none
def cL (p:ew) (i:Int) (j:Int):List bA:=(p.bj.take i.toNat).filter λx=>decide (x.Gz=j)
def Yj (p:ew):Nat->bH
 |3=> .inv Int (λi=>⟨[(3,.ptr 2 0 29),(11,.row .bu p.bj),(12,.si .i64 p.bj.length),(13,.si .i64 i)],
  [.cells p.ss 27 20 false,.map .sit (.i .i64) true [] ([0,0,0,0,0,0,0,0,0,0,0,0,0],true) true,
   .cells [.si .i64 p.bm.a0,.si .i64 p.bm.a1,.si .i64 p.bm.a2,.si .i64 p.bm.a3,.si .i64 p.bm.a4,.si .i64 p.bm.a5,
    .si .i64 p.bs.a0,.si .i64 p.bs.a1,.si .i64 p.bs.a2,.si .i64 p.bs.a3,.si .i64 p.bs.a4,.si .i64 p.bs.a5,
    .si .i64 p.bt.a0,.si .i64 p.bt.a1,.si .i64 p.bt.a2,.si .i64 p.bt.a3,.si .i64 p.bt.a4,.si .i64 p.bt.a5,
    .row (.i .i64) p.bk,.row .bu p.bj,.ow 3 (cL p i 0).length 8,.ow 4 (cL p i 1).length 8,.ow 5 (cL p i 2).length 8,.ow 6 (cL p i 3).length 8,.ow 7 (cL p i 4).length 8,.ow 8 (cL p i 5).length 8,.ow 9 (cL p i 6).length 8,.ow 10 (cL p i 7).length 8,.mp 1] 114 29 false,
   .row .bu (cL p i 0) 65 true,.row .bu (cL p i 1) 65 true,.row .bu (cL p i 2) 65 true,.row .bu (cL p i 3) 65 true,.row .bu (cL p i 4) 65 true,.row .bu (cL p i 5) 65 true,.row .bu (cL p i 6) 65 true,.row .bu (cL p i 7) 65 true]⟩)
  (λs=>iS s 13) (λi=>0<=i/\i<=p.bj.length) (λi=>(p.bj.length - i).toNat) λ_ _=> .look
 |_=> .look
theorem sK {p:ew} {i:Int} {j:Int} (a:0<=i) (h1:i<p.bj.length) (h:(bN p.bj i.toNat cj.bu.bw).Gz=j):cL p (i+1) j=cL p i j++[bN p.bj i.toNat cj.bu.bw]:=by unfold cL;rw[iG (d:=cj.bu.bw) a h1,δV];simp[h]
theorem dn {p:ew} {i:Int} {j:Int} (a:0<=i) (h1:i<p.bj.length) (h:(bN p.bj i.toNat cj.bu.bw).Gz≠j):cL p (i+1) j=cL p i j:=by unfold cL;rw[iG (d:=cj.bu.bw) a h1,δV];simp[h]
theorem JF:dp Tryz.prog He:=by
 refine BB (L:=[]) (W:=[]) He Yk Yj (by simp) (by simp) ?_;intro(p:ew) (hp:Good p);refine NI (let a:=iZ.row;let b:=γc .i64;let c:=γZ;let d:=(0:Int);let e:=Ω;let f:=iZ.cells;let g:=(1:Int);let h:=(2:Int);let j:=(3:Int);let k:=(4:Int);let l:=(5:Int);let m:=(6:Int);let n:=(7:Int);let o:=TP .i64;let w:=b p.bm.a0;let y:=b p.bm.a1;let z:=b p.bm.a2;let A:=b p.bm.a3;let B:=b p.bm.a4;let C:=b p.bm.a5;let D:=b p.bs.a0;let E:=b p.bs.a1;let F:=b p.bs.a2;let G:=b p.bs.a3;let H:=b p.bs.a4;let I:=b p.bs.a5;let J:=b p.bt.a0;let K:=b p.bt.a1;let L:=b p.bt.a2;let M:=b p.bt.a3;let N:=b p.bt.a4;let O:=b p.bt.a5;let P:=e (cj.i .i64) p.bk;let r:=e cj.bu p.bj;let v:=γM 2 0 29;let aC:=(↑p.bj.length:Int);let s:=(↑p.bj.length:Int);let Q:=b s;let t:=iZ.map cj.sit (cj.i .i64) true [] ([0,0,0,0,0,0,0,0,0,0,0,0,0],true) true;let W:=[θC 1];let aD:=cL p d d;let aE:=cL p d g;let aF:=cL p d h;let aG:=cL p d j;let aH:=cL p d k;let aI:=cL p d l;let aJ:=cL p d m;let aK:=cL p d n;let R:=a cj.bu [] 65 true;let aL:=γM 0 0 29;let ab:=λ(u:List SV) (u_1 u_2:Nat) (u_3:List SV) ↦(f (w::y::z::A::B::C::D::E::F::G::H::I::J::K::L::M::N::O::P::r::u) u_1 u_2 false).bi (f (w::y::z::A::B::C::D::E::F::G::H::I::J::K::L::M::N::O::P::r::u_3) u_1 u_2 false);(((v.bi v/\r.bi r/\(b aC).bi Q/\(γu .i64 0).bi (b 0)/\True)/\ab [] 27 20 []/\t.bi t/\ab (c 3 0 8::c 4 0 8::c 5 0 8::c 6 0 8::c 7 0 8::c 8 0 8::c 9 0 8::c 10 0 8::W) 114 29 (c 3 aD.length 8::c 4 aE.length 8::c 5 aF.length 8::c 6 aG.length 8::c 7 aH.length 8::c 8 aI.length 8::c 9 aJ.length 8::c 10 aK.length 8::W)/\R.bi (a cj.bu aD 65 true)/\R.bi (a cj.bu aE 65 true)/\R.bi (a cj.bu aF 65 true)/\R.bi (a cj.bu aG 65 true)/\R.bi (a cj.bu aH 65 true)/\R.bi (a cj.bu aI 65 true)/\R.bi (a cj.bu aJ 65 true)/\R.bi (a cj.bu aK 65 true)/\True)/\d<=d/\d<=s)/\∀(x:Int),let X:=cL p x h;let ac:=a cj.bu X 65 true;let q:=x+g;let ad:=a cj.bu (cL p q h) 65 true;let Y:=cL p x j;let ae:=a cj.bu Y 65 true;let af:=a cj.bu (cL p q j) 65 true;let Z:=cL p x k;let ag:=a cj.bu Z 65 true;let ah:=a cj.bu (cL p q k) 65 true;let a6:=cL p x l;let ai:=a cj.bu a6 65 true;let aj:=a cj.bu (cL p q l) 65 true;let a7:=cL p x m;let ak:=a cj.bu a7 65 true;let al:=a cj.bu (cL p q m) 65 true;let a8:=cL p x n;let am:=a cj.bu a8 65 true;let an:=a cj.bu (cL p q n) 65 true;let S:=bN p.bj x.toNat cj.bu.bw;let T:=b q;let a9:=cL p x d;let av:=c 3 a9.length 8;let aa:=cL p x g;let aw:=c 4 aa.length 8;let ax:=c 5 X.length 8;let ay:=c 6 Y.length 8;let az:=c 7 Z.length 8;let aA:=c 8 a6.length 8;let ao:=f (w::y::z::A::B::C::D::E::F::G::H::I::J::K::L::M::N::O::P::r::c 3 (cL p q d).length 8::c 4 (cL p q g).length 8::c 5 (cL p q h).length 8::c 6 (cL p q j).length 8::c 7 (cL p q k).length 8::c 8 (cL p q l).length 8::c 9 (cL p q m).length 8::c 10 (cL p q n).length 8::W) 114 29 false;let ap:=a cj.bu a9 65 true;let aq:=a cj.bu (cL p q d) 65 true;let ar:=a cj.bu aa 65 true;let au:=a cj.bu (cL p q g) 65 true;let aB:=c 9 a7.length 8::c 10 a8.length 8::W;let U:=S.bx;let V:=S.value;let aM:=a9++[bA.mk d U V];let aN:=aa++[bA.mk g U V];let aO:=X++[bA.mk h U V];let aP:=Y++[bA.mk j U V];let aQ:=Z++[bA.mk k U V];let aR:=a6++[bA.mk l U V];let aS:=a7++[bA.mk m U V];let aT:=a8++[bA.mk n U V];let aY:=ac.bi ad/\ae.bi af/\ag.bi ah/\ai.bi aj/\ak.bi al/\am.bi an/\True;let aZ:=ag.bi ah/\ai.bi aj/\ak.bi al/\am.bi an/\True;let b0:=ak.bi al/\am.bi an/\True;let aU:=λ(u:Int) (u_1 u_2:Nat) (u_3 u_4:iZ) ↦let z89:Nat:=(cL p x u).length;S.Gz=u->1=1/\(cL p x u).length=z89/\(z89+1)*64<=140737488355328/\z89+1<=1000000000000/\o q/\((v.bi v/\r.bi r/\Q.bi Q/\T.bi T/\True)/\ab [] 27 20 []/\t.bi t/\(f (w::y::z::A::B::C::D::E::F::G::H::I::J::K::L::M::N::O::P::r::av::aw::ax::ay::az::aA::c 9 u_1 8::c 10 u_2 8::W) 114 29 false).bi ao/\ap.bi aq/\ar.bi au/\ac.bi ad/\ae.bi af/\ag.bi ah/\ai.bi aj/\u_3.bi al/\u_4.bi an/\True)/\(d<=q/\q<=s)/\(s - q).toNat<(s - x).toNat;let aV:=λ(u:Int) (u_1 u_2:Nat) (u_3 u_4:iZ) ↦let z90:Nat:=(cL p x u).length;S.Gz=u->1=1/\(cL p x u).length=z90/\(z90+1)*64<=140737488355328/\z90+1<=1000000000000/\o q/\((v.bi v/\r.bi r/\Q.bi Q/\T.bi T/\True)/\ab [] 27 20 []/\t.bi t/\(f (w::y::z::A::B::C::D::E::F::G::H::I::J::K::L::M::N::O::P::r::av::aw::ax::ay::c 7 u_1 8::c 8 u_2 8::aB) 114 29 false).bi ao/\ap.bi aq/\ar.bi au/\ac.bi ad/\ae.bi af/\u_3.bi ah/\u_4.bi aj/\b0)/\(d<=q/\q<=s)/\(s - q).toNat<(s - x).toNat;let aW:=λ(u:Int) (u_1 u_2:Nat) (u_3 u_4:iZ) ↦let z91:Nat:=(cL p x u).length;S.Gz=u->1=1/\(cL p x u).length=z91/\(z91+1)*64<=140737488355328/\z91+1<=1000000000000/\o q/\((v.bi v/\r.bi r/\Q.bi Q/\T.bi T/\True)/\ab [] 27 20 []/\t.bi t/\(f (w::y::z::A::B::C::D::E::F::G::H::I::J::K::L::M::N::O::P::r::av::aw::c 5 u_1 8::c 6 u_2 8::az::aA::aB) 114 29 false).bi ao/\ap.bi aq/\ar.bi au/\u_3.bi ad/\u_4.bi af/\aZ)/\(d<=q/\q<=s)/\(s - q).toNat<(s - x).toNat;let aX:=λ(u:Int) (u_1 u_2:Nat) (u_3 u_4:iZ) ↦let z92:Nat:=(cL p x u).length;S.Gz=u->1=1/\(cL p x u).length=z92/\(z92+1)*64<=140737488355328/\z92+1<=1000000000000/\o q/\((v.bi v/\r.bi r/\Q.bi Q/\T.bi T/\True)/\ab [] 27 20 []/\t.bi t/\(f (w::y::z::A::B::C::D::E::F::G::H::I::J::K::L::M::N::O::P::r::c 3 u_1 8::c 4 u_2 8::ax::ay::az::aA::aB) 114 29 false).bi ao/\u_3.bi aq/\u_4.bi au/\aY)/\(d<=q/\q<=s)/\(s - q).toNat<(s - x).toNat;d<=x/\x<=s->(decide (x<s)=true->d<=x/\x<aC/\x.toNat<p.bj.length/\aX d aM.length aa.length (a cj.bu aM 65 true) ar/\aX g a9.length aN.length ap (a cj.bu aN 65 true)/\aW h aO.length Y.length (a cj.bu aO 65 true) ae/\aW j X.length aP.length ac (a cj.bu aP 65 true)/\aV k aQ.length a6.length (a cj.bu aQ 65 true) ai/\aV l Z.length aR.length ag (a cj.bu aR 65 true)/\aU m aS.length a8.length (a cj.bu aS 65 true) am/\aU n a7.length aT.length ak (a cj.bu aT 65 true)/\d<=S.Gz/\S.Gz<(8:Int))/\(decide (x<s)=false->a9.length=a9.length/\aa.length=aa.length/\X.length=X.length/\Y.length=Y.length/\Z.length=Z.length/\a6.length=a6.length/\a7.length=a7.length/\a8.length=a8.length/\aL.bi aL/\(f (w::y::z::A::B::C::D::E::F::G::H::I::J::K::L::M::N::O::P::r::e cj.bu a9::e cj.bu aa::e cj.bu X::e cj.bu Y::e cj.bu Z::e cj.bu a6::e cj.bu a7::e cj.bu a8::W) 114 29 false).bi (f (w::y::z::A::B::C::D::E::F::G::H::I::J::K::L::M::N::O::P::r::e cj.bu (L8.of p).l0::e cj.bu (L8.of p).l1::e cj.bu (L8.of p).l2::e cj.bu (L8.of p).l3::e cj.bu (L8.of p).l4::e cj.bu (L8.of p).l5::e cj.bu (L8.of p).l6::e cj.bu (L8.of p).l7::W) 114 29 false)/\t.bi t/\True)) (by kernel_rfl) ?_;conv=>zeta
 try simp only[vcs]
 have hz:∀j,cL p 0 j=[]:=λj=>rfl;have hlen:∀i j,(cL p i j).length<=160:=λi j=>by have h1:=γT (λx:bA=>decide (x.Gz=j)) (p.bj.take i.toNat);have h2:=hp.2.1;simp only[γx] at h1;unfold cL;omega
 have h160:=hp.2.1;refine⟨⟨by simp only[hz];exact⟨rfl,rfl,rfl,rfl,rfl,rfl,rfl,rfl,rfl⟩,by omega⟩,?_⟩;rintro i ⟨hi0,hi1⟩;refine⟨λhlt=>⟨hi0,hlt,by omega,?c0,?c1,?c2,?c3,?c4,?c5,?c6,?c7,?cb⟩,λhge=>?ce⟩;case c0=>
  intro hb;have hx:(⟨0,(bN p.bj i.toNat cj.bu.bw).bx,(bN p.bj i.toNat cj.bu.bw).value⟩:bA)=bN p.bj i.toNat cj.bu.bw:=by rw[<-hb]
  simp only[hx];rw[sK (j:=0) hi0 hlt hb];rw[dn (j:=1) hi0 hlt (by rw[hb];decide)];rw[dn (j:=2) hi0 hlt (by rw[hb];decide)];rw[dn (j:=3) hi0 hlt (by rw[hb];decide)];rw[dn (j:=4) hi0 hlt (by rw[hb];decide)];rw[dn (j:=5) hi0 hlt (by rw[hb];decide)];rw[dn (j:=6) hi0 hlt (by rw[hb];decide)];rw[dn (j:=7) hi0 hlt (by rw[hb];decide)];have hl:=hlen i 0;refine⟨?_,?_,?_,⟨rfl,rfl,rfl,rfl,rfl,rfl,rfl,rfl,rfl⟩,?_,?_⟩<;>omega
 case c1=>
  intro hb;have hx:(⟨1,(bN p.bj i.toNat cj.bu.bw).bx,(bN p.bj i.toNat cj.bu.bw).value⟩:bA)=bN p.bj i.toNat cj.bu.bw:=by rw[<-hb]
  simp only[hx];rw[dn (j:=0) hi0 hlt (by rw[hb];decide)];rw[sK (j:=1) hi0 hlt hb];rw[dn (j:=2) hi0 hlt (by rw[hb];decide)];rw[dn (j:=3) hi0 hlt (by rw[hb];decide)];rw[dn (j:=4) hi0 hlt (by rw[hb];decide)];rw[dn (j:=5) hi0 hlt (by rw[hb];decide)];rw[dn (j:=6) hi0 hlt (by rw[hb];decide)];rw[dn (j:=7) hi0 hlt (by rw[hb];decide)];have hl:=hlen i 1;refine⟨?_,?_,?_,⟨rfl,rfl,rfl,rfl,rfl,rfl,rfl,rfl,rfl⟩,?_,?_⟩<;>omega
 case c2=>
  intro hb;have hx:(⟨2,(bN p.bj i.toNat cj.bu.bw).bx,(bN p.bj i.toNat cj.bu.bw).value⟩:bA)=bN p.bj i.toNat cj.bu.bw:=by rw[<-hb]
  simp only[hx];rw[dn (j:=0) hi0 hlt (by rw[hb];decide)];rw[dn (j:=1) hi0 hlt (by rw[hb];decide)];rw[sK (j:=2) hi0 hlt hb];rw[dn (j:=3) hi0 hlt (by rw[hb];decide)];rw[dn (j:=4) hi0 hlt (by rw[hb];decide)];rw[dn (j:=5) hi0 hlt (by rw[hb];decide)];rw[dn (j:=6) hi0 hlt (by rw[hb];decide)];rw[dn (j:=7) hi0 hlt (by rw[hb];decide)];have hl:=hlen i 2;refine⟨?_,?_,?_,⟨rfl,rfl,rfl,rfl,rfl,rfl,rfl,rfl,rfl⟩,?_,?_⟩<;>omega
 case c3=>
  intro hb;have hx:(⟨3,(bN p.bj i.toNat cj.bu.bw).bx,(bN p.bj i.toNat cj.bu.bw).value⟩:bA)=bN p.bj i.toNat cj.bu.bw:=by rw[<-hb]
  simp only[hx];rw[dn (j:=0) hi0 hlt (by rw[hb];decide)];rw[dn (j:=1) hi0 hlt (by rw[hb];decide)];rw[dn (j:=2) hi0 hlt (by rw[hb];decide)];rw[sK (j:=3) hi0 hlt hb];rw[dn (j:=4) hi0 hlt (by rw[hb];decide)];rw[dn (j:=5) hi0 hlt (by rw[hb];decide)];rw[dn (j:=6) hi0 hlt (by rw[hb];decide)];rw[dn (j:=7) hi0 hlt (by rw[hb];decide)];have hl:=hlen i 3;refine⟨?_,?_,?_,⟨rfl,rfl,rfl,rfl,rfl,rfl,rfl,rfl,rfl⟩,?_,?_⟩<;>omega
 case c4=>
  intro hb;have hx:(⟨4,(bN p.bj i.toNat cj.bu.bw).bx,(bN p.bj i.toNat cj.bu.bw).value⟩:bA)=bN p.bj i.toNat cj.bu.bw:=by rw[<-hb]
  simp only[hx];rw[dn (j:=0) hi0 hlt (by rw[hb];decide)];rw[dn (j:=1) hi0 hlt (by rw[hb];decide)];rw[dn (j:=2) hi0 hlt (by rw[hb];decide)];rw[dn (j:=3) hi0 hlt (by rw[hb];decide)];rw[sK (j:=4) hi0 hlt hb];rw[dn (j:=5) hi0 hlt (by rw[hb];decide)];rw[dn (j:=6) hi0 hlt (by rw[hb];decide)];rw[dn (j:=7) hi0 hlt (by rw[hb];decide)];have hl:=hlen i 4;refine⟨?_,?_,?_,⟨rfl,rfl,rfl,rfl,rfl,rfl,rfl,rfl,rfl⟩,?_,?_⟩<;>omega
 case c5=>
  intro hb;have hx:(⟨5,(bN p.bj i.toNat cj.bu.bw).bx,(bN p.bj i.toNat cj.bu.bw).value⟩:bA)=bN p.bj i.toNat cj.bu.bw:=by rw[<-hb]
  simp only[hx];rw[dn (j:=0) hi0 hlt (by rw[hb];decide)];rw[dn (j:=1) hi0 hlt (by rw[hb];decide)];rw[dn (j:=2) hi0 hlt (by rw[hb];decide)];rw[dn (j:=3) hi0 hlt (by rw[hb];decide)];rw[dn (j:=4) hi0 hlt (by rw[hb];decide)];rw[sK (j:=5) hi0 hlt hb];rw[dn (j:=6) hi0 hlt (by rw[hb];decide)];rw[dn (j:=7) hi0 hlt (by rw[hb];decide)];have hl:=hlen i 5;refine⟨?_,?_,?_,⟨rfl,rfl,rfl,rfl,rfl,rfl,rfl,rfl,rfl⟩,?_,?_⟩<;>omega
 case c6=>
  intro hb;have hx:(⟨6,(bN p.bj i.toNat cj.bu.bw).bx,(bN p.bj i.toNat cj.bu.bw).value⟩:bA)=bN p.bj i.toNat cj.bu.bw:=by rw[<-hb]
  simp only[hx];rw[dn (j:=0) hi0 hlt (by rw[hb];decide)];rw[dn (j:=1) hi0 hlt (by rw[hb];decide)];rw[dn (j:=2) hi0 hlt (by rw[hb];decide)];rw[dn (j:=3) hi0 hlt (by rw[hb];decide)];rw[dn (j:=4) hi0 hlt (by rw[hb];decide)];rw[dn (j:=5) hi0 hlt (by rw[hb];decide)];rw[sK (j:=6) hi0 hlt hb];rw[dn (j:=7) hi0 hlt (by rw[hb];decide)];have hl:=hlen i 6;refine⟨?_,?_,?_,⟨rfl,rfl,rfl,rfl,rfl,rfl,rfl,rfl,rfl⟩,?_,?_⟩<;>omega
 case c7=>
  intro hb;have hx:(⟨7,(bN p.bj i.toNat cj.bu.bw).bx,(bN p.bj i.toNat cj.bu.bw).value⟩:bA)=bN p.bj i.toNat cj.bu.bw:=by rw[<-hb]
  simp only[hx];rw[dn (j:=0) hi0 hlt (by rw[hb];decide)];rw[dn (j:=1) hi0 hlt (by rw[hb];decide)];rw[dn (j:=2) hi0 hlt (by rw[hb];decide)];rw[dn (j:=3) hi0 hlt (by rw[hb];decide)];rw[dn (j:=4) hi0 hlt (by rw[hb];decide)];rw[dn (j:=5) hi0 hlt (by rw[hb];decide)];rw[dn (j:=6) hi0 hlt (by rw[hb];decide)];rw[sK (j:=7) hi0 hlt hb];have hl:=hlen i 7;refine⟨?_,?_,?_,⟨rfl,rfl,rfl,rfl,rfl,rfl,rfl,rfl,rfl⟩,?_,?_⟩<;>omega
 case cb=>
  have hv:=hp.2.2.2.2 _ (cy (d:=cj.bu.bw) (show i.toNat<p.bj.length by omega));have:=hp.1;exact⟨hv.1,by omega⟩
 case ce=>
  have hb:∀j,cL p i j=iN p j:=λj=>by unfold cL iN;rw[show i.toNat=p.bj.length from by omega,φ]
  simp only[hb];rfl
theorem cT {p:ew} (h:nW p=0):Good p:=by
 obtain⟨e,k⟩:=rh h;obtain⟨b,a,m,g,q⟩:=rj e;refine⟨m,g,b,?_,λx o=>?_⟩
 ·have d:=oz.fA.1 b;have f:=ni.1 (a 0 (by omega));have c:=ni.1 (a 1 (by omega));have i:=ni.1 (a 2 (by omega));have l:=ni.1 (a 3 (by omega));have n:=ni.1 (a 4 (by omega));have j:=ni.1 (a 5 (by omega));simp[bN] at f c i l n j;grind[oz.fA]
 ·have d:=z_ (zY (k x o)).1;simp_all
theorem wW {n:Nat} (h:n<=8):(2:Int)^n<=256/\0<(2:Int)^n:=by
 have:n=0\/n=1\/n=2\/n=3\/n=4\/n=5\/n=6\/n=7\/n=8:=by omega
 grind
def lh (p:ew) (m:Int):Int:=if kz p m=0 then ox p ⟨m,p.bm,p.bs⟩ else 0
theorem Yi {p:ew} {m:Int} (h:kz p m=0):nW p=0/\0<=m/\m<2^p.bk.length:=by
 unfold kz at h;split at h;·rename_i h1;exact absurd h h1
 ·rename_i h1;split at h;·cases h
  next b=>exact⟨γa.1 h1,by omega⟩
def CB:NG:=⟨25,ew×Int,.cons cI (.one (dY .i64)),λ_=>True,λa=> .IL [.si .i64 (lh a.1 a.2),.si .i64 (kz a.1 a.2)]⟩
def WB:List cC:=[He,GP,pj 9]
theorem Rq:∀c∈WB,dp Tryz.prog c:=by simp only[WB,δr,δl,false_implies,implies_true,and_true];exact⟨JF,JE,Hf 9⟩
theorem Rs:Holds Tryz.prog CB:=by
 refine jY (L:=y7) (W:=fH WB) CB lk (j6 Rq) CK ?_;rintro⟨p,m⟩ _;refine NI (let a:=γc .i64;let b:=SV.IL;let c:=decide (kz p m≠(0:Int));let d:=γu .i64 0;let e:=[a (kz p m)];let f:=b (a (lh p m)::e);let g:=dU.mk m p.bm p.bs;True/\(c=true->(b (d::e)).bi f)/\(c=false->Good p/\True/\((Good p/\L8.of p=L8.of p/\nP g/\lR p [])/\dL m<9)/\(b [a (gk p (dL m+1) [] g).1,d]).bi f)) (by kernel_rfl) ?_;simp only[vcs];refine⟨λh=>by simp[lh,h],λh=>?_⟩;have j:kz p m=0:=γa.1 h;obtain⟨hc,h1,q⟩:=Yi j;have i:=cT hc;have o:=wW i.1;have k:nP ⟨m,p.bm,p.bs⟩:=⟨h1,by simp only;omega,i.2.2.1,i.2.2.2.1⟩;have hm:lR p []:=λe he=>by simp at he
 have l:dL m<9:=by have:=@Hi m;unfold dL;omega
 have n:=zT i (dL m+1) [] ⟨m,p.bm,p.bs⟩ k hm (by simp only;omega);refine⟨i,⟨⟨i,k,hm⟩,l⟩,?_,j.symm⟩;rw[n.1];simp[lh,j]
def allM (p:ew):Int:=2^p.bk.length - 1
def FS (p:ew) (s:Int) (i:Int):Int:=s+(bN p.bj i.toNat cj.bu.bw).value
def yu (p:ew) (c:List Int):Int:=c.foldl (FS p) 0
def OK (p:ew) (c:List Int):Int:=if cq p c≠0 then cq p c else if yu p c<lh p (allM p) then 13 else 0
def ew.zero:ew:=⟨oz.zero,oz.zero,oz.zero,[],[]⟩
theorem OJ {l:List bA}:∀{c:List Int} {a:Int} {r:List bA}, -1<=a->dG l a c=some r->r.length=c.length/\∀i∈c,0<=i/\i<l.length
 |[],a,r,_,h=>by grind[dG];|i::c,a,r,e,h=>by
  simp only[dG] at h;split at h;·cases h
  next d=>obtain⟨f,b,rfl⟩:=ε.1 h;obtain⟨g,j⟩:=OJ (by omega) b;grind
def CC:NG:=⟨40,oz,.one (dg .bun),λ_=>True,λb=> .sb b.ok⟩
theorem Rt:Holds Tryz.prog CC:=by
 refine bI (L:=[]) CC (λ_ _=> .aob 7) (by simp) ?_;intro b _;refine NI (let h:=δb false;let o:=γA;let p:=(0:Int);let q:=(4:Int);let i:=decide (b.a0<p);let d:=decide (q<b.a0);let k:=decide (b.a1<p);let e:=decide (q<b.a1);let l:=decide (b.a2<p);let f:=decide (q<b.a2);let j:=decide (b.a3<p);let m:=decide (q<b.a3);let n:=decide (b.a4<p);let g:=decide (q<b.a4);let a:=decide (b.a5<p);let c:=decide (q<b.a5);(i=true->(h).bi (o (oz.ok b)))/\(i=false->(d=true->(h).bi (o (oz.ok b)))/\(d=false->(k=true->(h).bi (o (oz.ok b)))/\(k=false->(e=true->(h).bi (o (oz.ok b)))/\(e=false->(l=true->(h).bi (o (oz.ok b)))/\(l=false->(f=true->(h).bi (o (oz.ok b)))/\(f=false->(j=true->(h).bi (o (oz.ok b)))/\(j=false->(m=true->(h).bi (o (oz.ok b)))/\(m=false->(n=true->(h).bi (o (oz.ok b)))/\(n=false->(g=true->(h).bi (o (oz.ok b)))/\(g=false->(a=true->(h).bi (o (oz.ok b)))/\(a=false->(c=true->(h).bi (o (oz.ok b)))/\(c=false->(δb true).bi (o (oz.ok b))))))))))))))) (by kernel_rfl) ?_;conv=>zeta
 have o:=@oz.fA b;by_cases h:b.ok=true<;>simp_all
def ph (p:ew) (r:Int) (o:bA):Int:=
 if r - p.bk.length<0 then(if o.Gz=r then 1 else 0)
 else if r - p.bk.length<6 then bN [o.bx.a0,o.bx.a1,o.bx.a2,o.bx.a3,o.bx.a4,o.bx.a5] (r - p.bk.length).toNat 0
 else if bN [p.bt.a0,p.bt.a1,p.bt.a2,p.bt.a3,p.bt.a4,p.bt.a5] (r - p.bk.length - 6).toNat 0=0\/p.bk.length<=o.Gz\/bN [p.bt.a0,p.bt.a1,p.bt.a2,p.bt.a3,p.bt.a4,p.bt.a5] (r - p.bk.length - 6).toNat 0=bN p.bk o.Gz.toNat 0 then 0
 else bN [o.bx.a0,o.bx.a1,o.bx.a2,o.bx.a3,o.bx.a4,o.bx.a5] (r - p.bk.length - 6).toNat 0
theorem Yh {p:ew} {r:Int} {o:bA} (h:o.Gz<p.bk.length):ph p r o=dE p r o:=by unfold ph dE;omega
def FQ:NG:=⟨63,ew×Int×bA,.cons cI (.cons (dY .i64) (.one (dg .bu))),λa=>a.1.bk.length<=8/\0<=a.2.1/\a.2.1<cr a.1/\0<=a.2.2.Gz,
 λa=> .IL [.si .i64 (ph a.1 a.2.1 a.2.2),.si .i64 (cB a.1 a.2.1)]⟩
theorem JH:Holds Tryz.prog FQ:=by
 refine bI (L:=[]) FQ (λ_ _=> .aob 7) (by simp) ?_;rintro⟨p,r,x⟩ ⟨D,z,B,A⟩;simp only[cr] at D z B A;refine NI (let h:=(0:Int);let j:=(6:Int);let v:=γc .i64;let w:=TP .i64;let y:=SV.IL;let b:=(↑p.bk.length:Int);let a:=r - b - j;let o:=γu .i64 0;let k:=y [v (ph p r x),v (cB p r)];let q:=bN [p.bt.a0,p.bt.a1,p.bt.a2,p.bt.a3,p.bt.a4,p.bt.a5] a.toNat h;let t:=decide (x.Gz=r);let e:=γu .i64 1;let g:=decide (r<b+j);let i:=decide (x.Gz<b);let l:=h<=a/\a<j/\a.toNat<6/\(y [o,v (bN [p.bs.a0,p.bs.a1,p.bs.a2,p.bs.a3,p.bs.a4,p.bs.a5] a.toNat h)]).bi k;let n:=λ(u f:Int) (c:oz) ↦let d:=(u - f).toNat;h<=u - f/\u - f<j/\d<6/\(y [v (bN [x.bx.a0,x.bx.a1,x.bx.a2,x.bx.a3,x.bx.a4,x.bx.a5] d h),v (bN [c.a0,c.a1,c.a2,c.a3,c.a4,c.a5] d h)]).bi k;let m:=λ(u:Bool) ↦decide (q≠bN p.bk x.Gz.toNat h)=u;let s:=λ(u:Bool) ↦decide (q≠h)=u;(decide (r<b)=true->(t=true->(y [e,e]).bi k)/\(t=false->(y [o,e]).bi k))/\(decide (r<b)=false->w (b+j)/\(g=true->w (r - b)/\h<=r - b/\r - b<j/\(r - b).toNat<6/\w (r - b)/\n r b p.bm)/\(g=false->w (r - b)/\w a/\h<=a/\a<j/\a.toNat<6/\(s true->(i=true->h<=a/\a<j/\a.toNat<6/\h<=x.Gz/\x.Gz<b/\x.Gz.toNat<p.bk.length/\(m true->h<=a/\a<j/\a.toNat<6/\n (r - b) j p.bs)/\(m false->l))/\(i=false->l))/\(s false->l)))) (by kernel_rfl) ?_;simp only[vcs];have G:r - p.bk.length<0->cB p r=1:=λh=>by simp_all[cB]
 have E:¬r - p.bk.length<0->r - p.bk.length<6->cB p r=bN [p.bm.a0,p.bm.a1,p.bm.a2,p.bm.a3,p.bm.a4,p.bm.a5] (r - p.bk.length).toNat 0:=λh j=>by simp_all[cB,if_neg]
 have v:¬r - p.bk.length<0->¬r - p.bk.length<6->cB p r=bN [p.bs.a0,p.bs.a1,p.bs.a2,p.bs.a3,p.bs.a4,p.bs.a5] (r - p.bk.length - 6).toNat 0:=λh j=>by simp_all[cB,if_neg]
 have F:r - p.bk.length<0->ph p r x=if x.Gz=r then 1 else 0:=λh=>by simp_all[ph]
 have H:¬r - p.bk.length<0->r - p.bk.length<6->ph p r x=bN [x.bx.a0,x.bx.a1,x.bx.a2,x.bx.a3,x.bx.a4,x.bx.a5] (r - p.bk.length).toNat 0:=λh j=>by simp_all[ph,if_neg]
 have y:=λ(h:¬r - p.bk.length<0) (j:¬r - p.bk.length<6)=>(show ph p r x=_ by unfold ph;rw[if_neg h,if_neg j]);refine⟨λw=>?_,λw=>⟨by omega,λC=>?_,λC=>?_⟩⟩;·grind
 ·grind
 ·rw[v (by omega) (by omega),y (by omega) (by omega)];omega
def M1:List NG:=[FQ,CC]
theorem xc:∀c∈M1,Holds Tryz.prog c:=by simp_all[M1,JH,Rt]
def zA:NG:=⟨41,ew×List bA,.cons cI (.one (cP .bu)),λa=>a.1.bk.length<=8/\a.2.length<=1000/\(∀x∈a.2,0<=x.Gz/\x.Gz<a.1.bk.length/\x.bx.ok=true),λa=> .sb (fz a.1 a.2)⟩
def Yg (a:ew×List bA):Nat->bH
 |2=> .inv Int (λi=>⟨[(1,.row .bu a.2),(2,.ptr 0 0 20),(5,.si .i64 i)],[.cells a.1.ss 27 20 false]⟩) (λs=>iS s 5)
  (λi=>0<=i/\i<=cr a.1/\∀r:Nat,r<i->bZ a.1 a.2 r<=cB a.1 r) (λi=>(cr a.1 - i).toNat)
  λi=>λ
   |6=> .inv (Int×Int) (λx=>⟨[(1,.row .bu a.2),(2,.ptr 0 0 20),(5,.si .i64 i),(6,.si .i64 x.2),(7,.si .i64 x.1)],[.cells a.1.ss 27 20 false]⟩)
    (λs=>(iS s 7,iS s 6))
    (λx=>0<=x.1/\x.1<=a.2.length/\x.2=bZ a.1 (a.2.take x.1.toNat) i) (λx=>(a.2.length - x.1).toNat) λ_ _=> .look
   |_=> .look
 |_=> .look
theorem JR:Holds Tryz.prog zA:=by
 refine bI (L:=M1) zA Yg xc ?_;rintro⟨p,l⟩ ⟨A,G,q⟩;simp only at A G q;refine NI (let d:=(0:Int);let i:=γc .i64;let j:=Ω;let o:=γu .i64 0;let q:=TP .i64;let s:=γu .i64;let b:=γM 0 0 20;let c:=iZ.cells (ew.ss p) 27 20 false;let v:=(↑p.bk.length:Int)+(12:Int);let k:=(↑l.length:Int);((((j cj.bu l).bi (j cj.bu l)/\b.bi b/\(o).bi (i 0)/\True)/\c.bi c/\True)/\d<=d/\d<=cr p/\∀(r:Nat),(↑r:Int)<d->bZ p l (↑r:Int)<=cB p (↑r:Int))/\∀(x:Int),let f:=x+(1:Int);let E:=i f;(d<=x/\x<=cr p/\∀(r:Nat),(↑r:Int)<x->bZ p l (↑r:Int)<=cB p (↑r:Int))->q v/\(decide (x<v)=true->((((j cj.bu l).bi (j cj.bu l)/\b.bi b/\(i x).bi (i x)/\(o).bi (i 0)/\(o).bi (i 0)/\True)/\c.bi c/\True)/\d<=d/\d<=k/\d=bZ p [] x)/\∀(a:Int×Int),let D:=decide (a.1<(↑l.length:Int));let C:=bN l a.1.toNat cj.bu.bw;let w:=a.2+ph p x C;let e:=a.1+(1:Int);let n:=i x;let h:=i w;let m:=i e;let g:=decide (cB p x<a.2);d<=a.1/\a.1<=k/\a.2=bZ p (Ξ a.1.toNat l) x->(D=true->d<=a.1/\a.1<(↑l.length:Int)/\a.1.toNat<l.length/\(p.bk.length<=8/\d<=x/\x<cr p/\d<=C.Gz)/\q w/\q e/\(((j cj.bu l).bi (j cj.bu l)/\b.bi b/\n.bi n/\h.bi h/\m.bi m/\True)/\c.bi c/\True)/\(d<=e/\e<=k/\w=bZ p (Ξ e.toNat l) x)/\(k - e).toNat<(k - a.1).toNat)/\(D=false->(p.bk.length<=8/\d<=x/\x<cr p/\d<=d)/\(g=true->(δb false).bi (γA (fz p l)))/\(g=false->q f/\(((j cj.bu l).bi (j cj.bu l)/\b.bi b/\E.bi E/\True)/\c.bi c/\True)/\(d<=f/\f<=cr p/\∀(r:Nat),(↑r:Int)<f->bZ p l (↑r:Int)<=cB p (↑r:Int))/\(cr p - f).toNat<(cr p - x).toNat)))/\(decide (x<v)=false->(δb true).bi (γA (fz p l)))) (by kernel_rfl) ?_;simp only[vcs];have T:cr p=p.bk.length+12:=rfl;have P:∀x∈l,x.bx.ok=true:=λx y=>(q x y).2.2;refine⟨⟨by omega,by omega,λr J=>by omega⟩,?_⟩;rintro i ⟨H,F,S⟩;refine⟨by omega,λN=>⟨⟨by omega,by omega,by simp[bZ]⟩,?_⟩,?_⟩
 ·rintro⟨j,s⟩ ⟨u,o,B⟩;simp only at u o B ⊢;have Q:=@qO p i (l.take j.toNat) λx y=>P x (γj y);have z:(l.take j.toNat).length<=l.length:=by simp;omega
  refine⟨λt=>?_,λt=>?_⟩
  ·have O:=q _ (cy (d:=cj.bu.bw) (show j.toNat<l.length by omega));have R:=@oF p i _ O.2.2;grind[GY,Yh]
  ·have:j.toNat=l.length:=by omega
   rw[this,φ] at B;refine⟨⟨A,by omega⟩,λK=>?_,λM=>⟨by omega,⟨by omega,by omega,λr J=>?_⟩,by omega⟩⟩
   ·symm;rw[δO];intro I;have:=nS.1 I i.toNat (by omega);grind
   grind
 grind[nS]
def xa:NG:=⟨23,ew,.one cI,λp=>True,λp=> .si .i64 (nW p)⟩
def Yf (p:ew):Nat->bH
 |11=> .inv Int (λk=>⟨[(1,.ptr 0 0 20),(4,.si .i64 k)],[.cells p.ss 27 20 false]⟩) (λs=>iS s 4) (λk=>0<=k/\k<=p.bk.length/\∀c∈p.bk.take k.toNat,0<=c/\c<=4) (λk=>(p.bk.length - k).toNat) λ_ _=> .look
 |16=> .inv Int (λi=>⟨[(1,.ptr 0 0 20),(5,.si .i64 i)],[.cells p.ss 27 20 false]⟩) (λs=>iS s 5)
  (λi=>0<=i/\i<=p.bj.length/\iF p [] p.bj=iF p ((p.bj.take i.toNat).map bA.key) (p.bj.drop i.toNat)) (λi=>(p.bj.length - i).toNat)
  λi=>λ
   |26=> .inv Int (λk=>⟨[(1,.ptr 0 0 20),(5,.si .i64 i),(6,.ptr 1 0 8),(7,.si .i64 k)],[.cells p.ss 27 20 false,.cells (cd .bu (bN p.bj i.toNat cj.bu.bw)) 65 8 false]⟩) (λs=>iS s 7)
    (λk=>0<=k/\k<=i/\∀j:Nat,j<k->(bN p.bj j cj.bu.bw).key≠(bN p.bj i.toNat cj.bu.bw).key) (λk=>(i - k).toNat) λ_ _=> .look
   |_=> .look
 |4=> .inv Int (λk=>⟨[(1,.ptr 0 0 20),(3,.si .i64 k)],[.cells p.ss 27 20 false]⟩) (λs=>iS s 3) (λk=>0<=k/\k<=6/\∀j:Nat,j<k->gW p j) (λk=>(6 - k).toNat) λ_ _=> .look
 |_=> .look
theorem Ye {b:oz}:(decide (b.a0=0)&&(decide (b.a1=0)&&(decide (b.a2=0)&&(decide (b.a3=0)&&(decide (b.a4=0)&&(decide (b.a5=0)&&true))))))=decide (b=oz.zero):=by simp_all[Bz,oz.zero]
theorem Yd {b c:oz}:(decide (b.a0=c.a0)&&(decide (b.a1=c.a1)&&(decide (b.a2=c.a2)&&(decide (b.a3=c.a3)&&(decide (b.a4=c.a4)&&(decide (b.a5=c.a5)&&true))))))=decide (b=c):=by grind[Bz]
theorem Yc {a:Type} {l:List a} {i:Int} {d x:a} (b:i<=l.length) (h:x∈l.take i.toNat):∃j:Nat,(j:Int)<i/\bN l j d=x:=by obtain⟨j,c,rfl⟩:=List.mem_iff_getElem.1 h;grind[bR]
theorem CO:Holds Tryz.prog xa:=by
 refine bI (L:=zA::M1) xa Yf (by simp only[δr];exact⟨JR,xc⟩) ?_;intro p _;refine NI (let a:=(0:Int);let b:=γc .i64;let d:=γu .i64;let e:=(6:Int);let f:=(1:Int);let g:=(4:Int);let h:=TP .i64;let k:=b (nW p);let l:=γM 0 0 20;let z:=d 0;let m:=iZ.cells (ew.ss p) 27 20 false;let af:=[p.bt.a0,p.bt.a1,p.bt.a2,p.bt.a3,p.bt.a4,p.bt.a5];let ag:=[p.bs.a0,p.bs.a1,p.bs.a2,p.bs.a3,p.bs.a4,p.bs.a5];let ah:=[p.bm.a0,p.bm.a1,p.bm.a2,p.bm.a3,p.bm.a4,p.bm.a5];let J:=p.bk.length;let o:=(↑J:Int);let L:=decide ((8:Int)<o);let E:=p.bj.length;let r:=(↑E:Int);let M:=decide ((160:Int)<r);let s:=(↑p.bk.length:Int);let A:=(↑p.bj.length:Int);let F:=iF p [] p.bj;let B:=cj.bu.bw;let G:=γM 1 0 8;True/\((!p.bm.ok)=true->(d 4).bi k)/\((!p.bm.ok)=false->(((l.bi l/\z.bi (b 0)/\True)/\m.bi m/\True)/\a<=a/\a<=e/\∀(j:Nat),(↑j:Int)<a->gW p j)/\∀(x:Int),let t:=x+f;let N:=b t;let O:=decide (x<e);let K:=bN af x.toNat a;let P:=decide (K<a);let Q:=decide (g<K);let C:=bN ag x.toNat a;let R:=decide (C<a);let H:=bN ah x.toNat a;let S:=decide (K=a);let T:=h t/\((l.bi l/\N.bi N/\True)/\m.bi m/\True)/\(a<=t/\t<=e/\∀(j:Nat),(↑j:Int)<t->gW p j)/\(e - t).toNat<(e - x).toNat;(a<=x/\x<=e/\∀(j:Nat),(↑j:Int)<x->gW p j)->(O=true->a<=x/\x<e/\x.toNat<6/\(P=true->(d 4).bi k)/\(P=false->a<=x/\x<e/\x.toNat<6/\(Q=true->(d 4).bi k)/\(Q=false->a<=x/\x<e/\x.toNat<6/\(R=true->(d 4).bi k)/\(R=false->a<=x/\x<e/\x.toNat<6/\a<=x/\x<e/\x.toNat<6/\(decide (H<C)=true->(d 4).bi k)/\(decide (H<C)=false->a<=x/\x<e/\x.toNat<6/\(S=true->a<=x/\x<e/\x.toNat<6/\a<=x/\x<e/\x.toNat<6/\(decide (C≠H)=true->(d 4).bi k)/\(decide (C≠H)=false->T))/\(S=false->T))))))/\(O=false->(L=true->(d 3).bi k)/\(L=false->(M=true->(d 3).bi k)/\(M=false->(((l.bi l/\z.bi (b 0)/\True)/\m.bi m/\True)/\a<=a/\a<=s/\∀(c:Int),c∈[]->a<=c/\c<=g)/\∀(x:Int),let U:=bN p.bk x.toNat a;let V:=decide (U<a);let W:=decide (g<U);let v:=x+f;let X:=b v;(a<=x/\x<=s/\∀(c:Int),c∈Ξ x.toNat p.bk->a<=c/\c<=g)->(decide (x<o)=true->a<=x/\x<o/\x.toNat<J/\(V=true->(d 4).bi k)/\(V=false->a<=x/\x<o/\x.toNat<J/\(W=true->(d 4).bi k)/\(W=false->h v/\((l.bi l/\X.bi X/\True)/\m.bi m/\True)/\(a<=v/\v<=s/\∀(c:Int),c∈Ξ v.toNat p.bk->a<=c/\c<=g)/\(s - v).toNat<(s - x).toNat)))/\(decide (x<o)=false->(((l.bi l/\z.bi (b 0)/\True)/\m.bi m/\True)/\a<=a/\a<=A/\F=F)/\∀(x:Int),let n:=bN p.bj x.toNat B;let i:=n.bx;let D:=n.Gz;let Y:=decide (D<a);let Z:=decide (n.value<f);let a6:=decide ((1000000:Int)<n.value);let I:=iZ.cells [b D,b i.a0,b i.a1,b i.a2,b i.a3,b i.a4,b i.a5,b n.value] 65 8 false;let q:=x+f;let a7:=b q;let a8:=λ(u:Bool) ↦(decide (i.a0=a)&&(decide (i.a1=a)&&(decide (i.a2=a)&&(decide (i.a3=a)&&(decide (i.a4=a)&&(decide (i.a5=a)&&true))))))=u;a<=x/\x<=A/\F=iF p (γd bA.key (Ξ x.toNat p.bj)) (γ3 x.toNat p.bj)->(decide (x<r)=true->a<=x/\x<r/\x.toNat<E/\(Y=true->(d 6).bi k)/\(Y=false->(decide (o<=D)=true->(d 6).bi k)/\(decide (o<=D)=false->(Z=true->(d 4).bi k)/\(Z=false->(a6=true->(d 4).bi k)/\(a6=false->True/\((!i.ok)=true->(d 4).bi k)/\((!i.ok)=false->(a8 true->(d 4).bi k)/\(a8 false->(p.bk.length<=8/\1<=1000/\∀(x:bA),x∈[n]->a<=x.Gz/\x.Gz<s/\x.bx.ok=true)/\((!fz p [n])=true->(d 14).bi k)/\((!fz p [n])=false->(((l.bi l/\(b x).bi (b x)/\G.bi G/\z.bi (b 0)/\True)/\m.bi m/\I.bi I/\True)/\a<=a/\a<=x/\∀(j:Nat),(↑j:Int)<a->(bN p.bj j B).key≠n.key)/\∀(x_1:Int),let w:=x_1+f;let a9:=b x;let aa:=b w;let ab:=bN p.bj x_1.toNat B;let y:=ab.bx;let ac:=decide (ab.Gz=D);let ad:=h w/\((l.bi l/\a9.bi a9/\G.bi G/\aa.bi aa/\True)/\m.bi m/\I.bi I/\True)/\(a<=w/\w<=x/\∀(j:Nat),(↑j:Int)<w->(bN p.bj j B).key≠n.key)/\(x - w).toNat<(x - x_1).toNat;let ae:=λ(u:Bool) ↦(decide (y.a0=i.a0)&&(decide (y.a1=i.a1)&&(decide (y.a2=i.a2)&&(decide (y.a3=i.a3)&&(decide (y.a4=i.a4)&&(decide (y.a5=i.a5)&&true))))))=u;(a<=x_1/\x_1<=x/\∀(j:Nat),(↑j:Int)<x_1->(bN p.bj j B).key≠n.key)->(decide (x_1<x)=true->a<=x_1/\x_1<r/\x_1.toNat<E/\(ac=true->a<=x_1/\x_1<r/\x_1.toNat<E/\(ae true->(d 7).bi k)/\(ae false->ad))/\(ac=false->ad))/\(decide (x_1<x)=false->h q/\((l.bi l/\a7.bi a7/\True)/\m.bi m/\True)/\(a<=q/\q<=A/\F=iF p (γd bA.key (Ξ q.toNat p.bj)) (γ3 q.toNat p.bj))/\(A - q).toNat<(A - x).toNat)))))))))/\(decide (x<r)=false->z.bi k))))))) (by kernel_rfl) ?_;simp only[Ye,Yd];simp only[vcs];have e4:im p=4->(4:Int)=nW p:=λh=>by simp[nW,h]
 have e3:im p=3->(3:Int)=nW p:=λh=>by simp[nW,h]
 refine⟨λhs=>e4 (N8 hs),λhs=>⟨⟨by omega,by omega,λj hj=>by omega⟩,?_⟩⟩;rintro k ⟨hk0,hk1,hk⟩;refine⟨λhlt=>?_,λhge=>?_⟩
 ·have bad:¬gW p k.toNat->(4:Int)=nW p:=λh=>e4 (N7 hs (by omega) h);have nxt:gW p k.toNat->∀(j:Nat),(j:Int)<k+1->gW p j:=λh j hj=>by
   by_cases hj2:(j:Int)<k;·exact hk j hj2
   ·rw[show j=k.toNat from by omega];exact h
  repeat' (first|refine γk ?_ ?_|intro _)
  all_goals first
   |omega;|exact bad λhh=>by have h2:=ni.1 hh;omega;|exact nxt (ni.2 (by omega)) _ (by assumption)
 ·have hall:∀j:Nat,j<6->gW p j:=λj hj=>hk j (by omega);refine⟨λh=>e3 (Ab hs hall (.inl (by omega))),λh8=>⟨λh=>e3 (Ab hs hall (.inr (by omega))),λh160=>⟨⟨by omega,by omega,by simp⟩,?_⟩⟩⟩;rintro i ⟨hi0,hi1,hi⟩;refine⟨λhlt=>?_,λhge=>?_⟩
  ·have hm:=cy (d:=0) (show i.toNat<p.bk.length by omega);refine⟨by omega,by omega,by omega,λh=>e4 (Aa hs hall (by omega) hm (by omega)),λh1=>⟨by omega,by omega,by omega,λh=>e4 (Aa hs hall (by omega) hm (by omega)),λh2=>⟨by omega,⟨by omega,by omega,?_⟩,by omega⟩⟩⟩;exact N6 hi0 hlt hi (by omega)
  ·rw[show i.toNat=p.bk.length from by omega,φ] at hi;have hz:im p=0:=GW hs hall (by omega) hi;have ce:nW p=iF p [] p.bj:=by simp[nW,hz]
   refine⟨⟨by omega,by omega⟩,?_⟩;rintro i ⟨hi0,hi1,hi⟩;refine⟨λhlt=>?_,λhge=>?_⟩
   ·rw[ri (d:=cj.bu.bw) hi0 hlt] at hi;generalize hx:bN p.bj i.toNat cj.bu.bw=x at hi ⊢;have oe:∀c:Int,c≠0->jD p x=c->c=nW p:=λc hc h=>by rw[ce,hi];simp only[iF,h];rw[if_pos hc]
    have se:∀c:Int,c≠0->j5 p.bk.length x=c->c=nW p:=λc hc h=>oe c hc (by unfold jD;rw[if_pos (by omega),h]);refine⟨by omega,by omega,by omega,λh1=>?_,λh1=>⟨λh2=>?_,λh2=>⟨λh3=>?_,λh3=>⟨λh4=>?_,λh4=>⟨λh5=>?_,λh5=>⟨λh6=>?_,λh6=>?_⟩⟩⟩⟩⟩⟩;·exact se 6 (by decide) (by unfold j5;rw[if_pos (by omega)])
    ·exact se 6 (by decide) (by unfold j5;rw[if_pos (by omega)])
    ·exact se 4 (by decide) (by unfold j5;rw[if_neg (by omega),if_pos (by omega)])
    ·exact se 4 (by decide) (by unfold j5;rw[if_neg (by omega),if_pos (by omega)])
    ·exact se 4 (by decide) (by unfold j5;rw[if_neg (by omega),if_neg (by omega),h5];rfl)
    ·have hs0:j5 p.bk.length x=0:=by unfold j5;rw[if_neg (by omega),if_neg (by omega),h5];rfl
     exact oe 4 (by decide) (by simp[jD,hs0,h6])
    ·have hs0:j5 p.bk.length x=0:=by unfold j5;rw[if_neg (by omega),if_neg (by omega),h5];rfl
     refine⟨⟨by omega,by omega,λy hy=>?_⟩,λh7=>?_,λh7=>⟨⟨by omega,by omega,λj hj=>by omega⟩,?_⟩⟩
     ·rw[δy.1 hy];exact⟨by omega,by omega,h5⟩
     ·exact oe 14 (by decide) (by simp[jD,hs0,h6,h7])
     ·have ho0:jD p x=0:=by simp[jD,hs0,h6,h7]
      rintro k ⟨hk0,hk1,hk⟩;have hnx:(bN p.bj k.toNat cj.bu.bw).key≠x.key->∀j:Nat,(j:Int)<k+1->(bN p.bj j cj.bu.bw).key≠x.key:=λh j hj=>by
       by_cases hj2:(j:Int)<k;·exact hk j hj2
       ·rw[show j=k.toNat from by omega];exact h
      refine⟨λhlt2=>⟨by omega,by omega,by omega,λh8=>⟨by omega,by omega,by omega,λh9=>?_,λh9=>⟨by omega,⟨by omega,by omega,?_⟩,by omega⟩⟩,λh8=>⟨by omega,⟨by omega,by omega,?_⟩,by omega⟩⟩,λazl=>⟨by omega,⟨by omega,by omega,?_⟩,by omega⟩⟩
      ·have hk9:(bN p.bj k.toNat cj.bu.bw).key=x.key:=by show nu.mk _ _=nu.mk _ _;rw[h8,h9]
       have hmem:x.key∈(p.bj.take i.toNat).map bA.key:=by rw[<-hk9];refine Δ.2 ⟨_,?_,rfl⟩;rw[bR (by omega)];exact List.mem_take_iff_getElem.2 ⟨k.toNat,by omega,rfl⟩
       rw[ce,hi];simp only[iF,ho0,ne_eq,not_true,if_false,if_pos hmem]
      ·refine hnx λe=>h9 ?_;injection e
      ·refine hnx λe=>h8 ?_;injection e
      ·have hnm:x.key∉(p.bj.take i.toNat).map bA.key:=by intro hmem;obtain⟨o,ho,he⟩:=Δ.1 hmem;obtain⟨j,hj,rfl⟩:=Yc (d:=cj.bu.bw) hi1 ho;exact hk j (by omega) he
       rw[hi,iG (d:=cj.bu.bw) hi0 hlt,hx];simp only[iF,ho0,ne_eq,not_true,if_false,if_neg hnm,γb,ν,γv]
   ·rw[show i.toNat=p.bj.length from by omega,δD] at hi;rw[ce,hi];rfl
def M2:List NG:=xa::zA::M1
theorem JM:∀c∈M2,Holds Tryz.prog c:=by grind[M2,CO,JR,xc]
def FP:NG:=⟨32,ew×List Int,.cons cI (.one (cP (.i .i64))),λa=>a.2.length<=9223372036854775807/\a.1.bj.length<=1000,λa=> .IL [.row .bu (cK a.1 a.2),.sb (eT a.1 a.2)]⟩
def jT (c:List Int) (i:Int):Int:=if i=0 then -1 else bN c (i - 1).toNat 0
def Yb (a:ew×List Int):Nat->bH
 |3=> .inv (Int×List bA) (λx=>⟨[(1,.row (.i .i64) a.2),(2,.ptr 0 0 20),(6,.ow 1 x.2.length 8),(7,.si .i64 x.1)],
   [.cells a.1.ss 27 20 false,.row .bu x.2 65 true]⟩) (λs=>(iS s 7,oS .bu s 1))
  (λx=>0<=x.1/\x.1<=a.2.length/\(x.2.length<=jT a.2 x.1+1/\jT a.2 x.1<1000)/\ -1<=jT a.2 x.1/\dG a.1.bj (-1) a.2=(dG a.1.bj (jT a.2 x.1) (a.2.drop x.1.toNat)).map (x.2++·)) (λx=>(a.2.length - x.1).toNat) λ_ _=> .look
 |_=> .look
theorem JI:Holds Tryz.prog FP:=by
 refine bI (L:=M2) FP Yb JM ?_;rintro⟨p,c⟩ ⟨hc,P⟩;have hc:c.length<=9223372036854775807:=hc;have P:p.bj.length<=1000:=P;refine NI (let a:=γc .i64;let b:=(0:Int);let d:=Ω;let e:=(1:Int);let f:=δb false;let g:=(-1:Int);let h:=(1000:Int);let j:=SV.IL;let k:=cj.i .i64;let s:=γM 0 0 20;let B:=γZ 1 0 8;let t:=iZ.cells [a p.bm.a0,a p.bm.a1,a p.bm.a2,a p.bm.a3,a p.bm.a4,a p.bm.a5,a p.bs.a0,a p.bs.a1,a p.bs.a2,a p.bs.a3,a p.bs.a4,a p.bs.a5,a p.bt.a0,a p.bt.a1,a p.bt.a2,a p.bt.a3,a p.bt.a4,a p.bt.a5,d k p.bk,d cj.bu p.bj] 27 20 false;let C:=iZ.row cj.bu [] 65 true;let o:=(↑c.length:Int);let u:=jT c b;let z:=dG p.bj g c;let n:=(↑c.length:Int);let v:=j [d cj.bu (cK p c),γA (eT p c)];let D:=p.bj.length;let A:=(↑D:Int);let L:=cj.bu.bw;((((d k c).bi (d k c)/\s.bi s/\B.bi B/\(γu .i64 0).bi (a 0)/\True)/\t.bi t/\C.bi C/\True)/\b<=b/\b<=o/\(b<=u+e/\u<h)/\g<=u/\z=ζD (λx ↦(b,[]).2++x) (dG p.bj u c))/\∀(x:Int×List bA),let l:=bN c x.1.toNat b;let E:=x.2.length+1;let m:=x.1+e;let q:=x.2++[bN p.bj l.toNat L];let F:=a m;let G:=iZ.row cj.bu q 65 true;let w:=jT c m;let y:=jT c x.1;let H:=decide (l<b);let I:=decide (b<x.1);let r:=x.1 - e;let J:=decide (l<=bN c r.toNat b);let K:=b<=x.1/\x.1<n/\x.1.toNat<c.length/\b<=l/\l<A/\l.toNat<D/\x.2.length=x.2.length/\E*64<=140737488355328/\E<=1000000000000/\TP .i64 m/\(((d k c).bi (d k c)/\s.bi s/\(γZ 1 q.length 8).bi (γZ 1 q.length 8)/\F.bi F/\True)/\t.bi t/\G.bi G/\True)/\(b<=m/\m<=o/\((↑q.length:Int)<=w+e/\w<h)/\g<=w/\z=ζD (λx ↦(m,q).2++x) (dG p.bj w (γ3 m.toNat c)))/\(o - m).toNat<(o - x.1).toNat;b<=x.1/\x.1<=o/\((↑x.2.length:Int)<=y+e/\y<h)/\g<=y/\z=ζD (λU ↦x.2++U) (dG p.bj y (γ3 x.1.toNat c))->(decide (x.1<n)=true->b<=x.1/\x.1<n/\x.1.toNat<c.length/\(H=true->(j [d k [],f]).bi v)/\(H=false->b<=x.1/\x.1<n/\x.1.toNat<c.length/\(decide (A<=l)=true->(j [d k [],f]).bi v)/\(decide (A<=l)=false->(I=true->b<=x.1/\x.1<n/\x.1.toNat<c.length/\TP .i64 r/\b<=r/\r<n/\r.toNat<c.length/\(J=true->(j [d k [],f]).bi v)/\(J=false->K))/\(I=false->K))))/\(decide (x.1<n)=false->x.2.length=x.2.length/\(j [d cj.bu x.2,δb true]).bi v)) (by kernel_rfl) ?_;simp only[vcs];have T:dG p.bj (-1) c=none->(Ω (.i .i64) []).bi (Ω .bu (cK p c))/\false=eT p c:=λh=>⟨N9.2 (by simp[cK,h]),by simp[eT,h]⟩;refine⟨⟨by omega,by omega,by simp[jT],by simp[jT]⟩,?_⟩;rintro⟨i,out⟩ ⟨R,Y,hlen,W,hi⟩;simp only at R Y hlen W hi ⊢;refine⟨λV=>?_,λhge=>?_⟩
 ·rw[ri (d:=0) R V] at hi;have O:jT c (i+1)=bN c i.toNat 0:=by unfold jT;rw[if_neg (by omega),show i+1 - 1=i by omega]
  have Q:i≠0->jT c i=bN c (i - 1).toNat 0:=λh=>by unfold jT;rw[if_neg h]
  have X:i=0->jT c i= -1:=λh=>by unfold jT;rw[if_pos h]
  generalize hx:bN c i.toNat 0=x at hi O ⊢;simp only[dG] at hi;have N:¬(x<=jT c i\/p.bj.length<=x)->dG p.bj (-1) c=(dG p.bj (jT c (i+1)) (c.drop (i+1).toNat)).map λr=>(out++[bN p.bj x.toNat cj.bu.bw])++r:=λh=>by rw[if_neg h] at hi;rw[hi,O,ζu];congr 1;funext r;simp
  have bad:(x<=jT c i\/p.bj.length<=x)->(Ω (.i .i64) []).bi (Ω .bu (cK p c))/\false=eT p c:=λh=>T (by rw[hi,if_pos h];rfl);have S:¬(x<=jT c i\/p.bj.length<=x)->((out++[bN p.bj x.toNat cj.bu.bw]).length:Int)<=jT c (i+1)+1/\jT c (i+1)<1000:=λh=>by rw[O];simp only[γF,ε2];omega
  refine⟨by omega,by omega,by omega,λh1=>bad (.inl (by omega)),λh1=>⟨by omega,by omega,by omega,λh2=>bad (.inr (by omega)),λh2=>⟨λh3=>⟨by omega,by omega,by omega,by omega,by omega,by omega,by omega,λh4=>bad (.inl (by rw[Q (by omega)];omega)),λh4=>?_⟩,λh3=>?_⟩⟩⟩
  ·have:=Q (by omega);refine⟨by omega,by omega,by omega,by omega,by omega,by omega,by omega,by omega,by omega,⟨by omega,by omega,S (by omega),by omega,N (by omega)⟩,by omega⟩
  ·have:=X (by omega);refine⟨by omega,by omega,by omega,by omega,by omega,by omega,by omega,by omega,by omega,⟨by omega,by omega,S (by omega),by omega,N (by omega)⟩,by omega⟩
 ·rw[show i.toNat=c.length from by omega,δD] at hi;simp only[dG,ξ,γ1] at hi;exact⟨by simp[cK,hi],by simp[eT,hi]⟩
def M3:List NG:=FP::M2
theorem CJ:∀c∈M3,Holds Tryz.prog c:=by grind[M3,JI,JM]
def CE:NG:=⟨24,ew×List Int,.cons cI (.one (cP (.i .i64))),λa=>a.2.length<=9223372036854775807,λa=> .si .i64 (cq a.1 a.2)⟩
theorem Rv:Holds Tryz.prog CE:=by
 refine bI (L:=M3) CE (λp=>λ_=> .look) CJ ?_;rintro⟨p,c⟩ (n:c.length<=9223372036854775807);refine NI (let a:=γu .i64;let e:=decide (nW p≠(0:Int));let d:=γc .i64 (cq p c);let f:=!fz p (cK p c);True/\(e=true->(γc .i64 (nW p)).bi d)/\(e=false->(c.length<=9223372036854775807/\p.bj.length<=1000)/\((!eT p c)=true->(a 4).bi d)/\((!eT p c)=false->(p.bk.length<=8/\(cK p c).length<=1000/\∀(x:bA),x∈cK p c->(0:Int)<=x.Gz/\x.Gz<(↑p.bk.length:Int)/\x.bx.ok=true)/\(f=true->(a 14).bi d)/\(f=false->(a 0).bi d)))) (by kernel_rfl) ?_;simp only[vcs];refine⟨λh=>by simp[cq,h],λh=>?_⟩;have g:nW p=0:=γa.1 h;obtain⟨m,j⟩:=rh g;obtain⟨s,o,l,q,t⟩:=rj m;refine⟨⟨n,by omega⟩,λa=>by grind[cq],λa=>⟨⟨l,?_,?_⟩,λk=>by grind[cq],λk=>by grind[cq]⟩⟩
 ·unfold eT at a;obtain⟨r,b⟩:=γE.1 a;have:=yw (by omega) b;grind[cK]
 ·unfold eT at a;obtain⟨r,b⟩:=γE.1 a;simp only[cK,b,δB];intro x i;have u:=z_ (zY (j x (zW (by omega) b x i))).1;simp_all
def bE:List bA->Int
 |[]=>0
 |x::l=>x.value+bE l
def dA (p:ew) (c:List Int):Int:=if nW p=0 then bE (cK p c) else 0
theorem nO:∀{l m:List bA},bE (l++m)=bE l+bE m
 |[],m=>by simp[bE];|x::l,m=>by simp only[γL,bE,@nO l m];omega
theorem OI {l:List bA} {i:Int} (a:0<=i) (h:i<l.length):bE (l.take (i+1).toNat)=bE (l.take i.toNat)+(bN l i.toNat cj.bu.bw).value:=by rw[iG (d:=cj.bu.bw) a h,nO];simp[bE]
def CD:NG:=⟨26,ew×List Int,.cons cI (.one (cP (.i .i64))),λa=>a.2.length<=9223372036854775807,λa=> .si .i64 (dA a.1 a.2)⟩
def YG (a:ew×List Int):Nat->bH
 |6=> .inv Int (λi=>⟨[(5,.row .bu (cK a.1 a.2)),(7,.si .i64 (bE ((cK a.1 a.2).take i.toNat))),(8,.si .i64 i)],[.cells a.1.ss 27 20 false]⟩) (λs=>iS s 8)
  (λi=>0<=i/\i<=(cK a.1 a.2).length) (λi=>((cK a.1 a.2).length - i).toNat) λ_ _=> .look
 |_=> .look
theorem OH {p:ew} {c:List Int} (h:nW p=0):(cK p c).length<=160/\∀x∈cK p c,x∈p.bj:=by
 have d:=cT h;unfold cK;cases a:dG p.bj (-1) c with
 |none=>simp;|some r=>
  refine⟨?_,λx b=>zW (by omega) a x b⟩;have e:=yw (by omega) a;have f:=d.2.1;grind
theorem pg {p:ew} (a:Good p):∀{l:List bA},(∀x∈l,x∈p.bj)->0<=bE l/\bE l<=1000000*l.length
 |[],_=>by simp[bE];|x::l,h=>by have c:=a.2.2.2.2 x (h x (by simp));have d:=@pg p a l λy b=>h y (by simp[b]);grind[bE]
theorem Ru:Holds Tryz.prog CD:=by
 refine bI (L:=M3) CD YG CJ ?_;rintro⟨p,c⟩ (A:c.length<=9223372036854775807);refine NI (let g:=γc .i64;let h:=(0:Int);let t:=decide (nW p≠h);let k:=γu .i64 0;let v:=g (dA p c);let e:=Ω cj.bu (cK p c);let f:=iZ.cells (ew.ss p) 27 20 false;let d:=(↑(cK p c).length:Int);let n:=(↑(cK p c).length:Int);True/\(t=true->k.bi v)/\(t=false->(c.length<=9223372036854775807/\p.bj.length<=1000)/\(((e.bi e/\k.bi (g (bE []))/\k.bi (g 0)/\True)/\f.bi f/\True)/\h<=h/\h<=d)/\∀(x:Int),let r:=bE (Ξ x.toNat (cK p c));let s:=r+(bN (cK p c) x.toNat cj.bu.bw).value;let a:=x+(1:Int);let b:=g a;h<=x/\x<=d->(decide (x<n)=true->h<=x/\x<n/\x.toNat<(cK p c).length/\TP .i64 s/\TP .i64 a/\((e.bi e/\(g s).bi (g (bE (Ξ a.toNat (cK p c))))/\b.bi b/\True)/\f.bi f/\True)/\(h<=a/\a<=d)/\(d - a).toNat<(d - x).toNat)/\(decide (x<n)=false->(g r).bi v))) (by kernel_rfl) ?_;simp only[vcs];refine⟨λh=>by simp[dA,h],λh=>⟨⟨A,by have:=(cT (γa.1 h)).2.1;omega⟩,⟨by simp[bE],by omega⟩,?_⟩⟩;have o:nW p=0:=γa.1 h;have u:=cT o;obtain⟨C,q⟩:=OH (c:=c) o;rintro i ⟨j,y⟩;refine⟨λm=>?_,λw=>?_⟩
 ·have B:=OI j m;have D:=pg u (l:=(cK p c).take i.toNat) λx g=>q x (γj g);have z:=pg u (l:=(cK p c).take (i+1).toNat) λx g=>q x (γj g);grind
 ·rw[show i.toNat=(cK p c).length from by omega,φ];grind[dA]
def bG:List Int->List Int->Int
 |[],[]=>0
 |[],_::_=> -1
 |_::_,[]=>1
 |a::l,b::m=>if a<b then -1 else if b<a then 1 else bG l m
def CF:NG:=⟨14,List Int×List Int,.cons (cP (.i .i64)) (.one (cP (.i .i64))),λa=>a.1.length<=1000000000000/\a.2.length<=1000000000000,λa=> .si .i64 (bG a.1 a.2)⟩
def YF (a:List Int×List Int):Nat->bH
 |2=> .inv Int (λi=>⟨[(0,.row (.i .i64) a.1),(1,.row (.i .i64) a.2),(5,.si .i64 i)],[]⟩) (λs=>iS s 5)
  (λi=>0<=i/\i<=a.1.length/\i<=a.2.length/\bG a.1 a.2=bG (a.1.drop i.toNat) (a.2.drop i.toNat)) (λi=>(a.1.length - i).toNat) λ_ _=> .look
 |_=> .look
theorem Rw:Holds Tryz.prog CF:=by
 refine bI (L:=[]) CF YF (by simp) ?_;rintro⟨a,b⟩ ⟨w,u⟩;refine NI (let d:=(0:Int);let h:=γu .i64;let j:=γc .i64;let k:=(-1:Int);let q:=Ω (cj.i .i64) a;let n:=Ω (cj.i .i64) b;let t:=h 0;let m:=(↑a.length:Int);let r:=(↑b.length:Int);let e:=(↑a.length:Int);let f:=(↑b.length:Int);let g:=j (bG a b);(((q.bi q/\n.bi n/\t.bi (j 0)/\True)/\True)/\d<=d/\d<=m/\d<=r/\bG a b=bG a b)/\∀(x:Int),let o:=bN a x.toNat d;let p:=bN b x.toNat d;let c:=x+(1:Int);let l:=j c;d<=x/\x<=m/\x<=r/\bG a b=bG (γ3 x.toNat a) (γ3 x.toNat b)->(decide (x<e)=true->(decide (x<f)=true->d<=x/\x<e/\x.toNat<a.length/\d<=x/\x<f/\x.toNat<b.length/\(decide (o<p)=true->(h k).bi g)/\(decide (o<p)=false->d<=x/\x<e/\x.toNat<a.length/\d<=x/\x<f/\x.toNat<b.length/\(decide (p<o)=true->(h 1).bi g)/\(decide (p<o)=false->TP .i64 c/\((q.bi q/\n.bi n/\l.bi l/\True)/\True)/\(d<=c/\c<=m/\c<=r/\bG a b=bG (γ3 c.toNat a) (γ3 c.toNat b))/\(m - c).toNat<(m - x).toNat)))/\(decide (x<f)=false->(decide (e<f)=true->(h k).bi g)/\(decide (e<f)=false->(decide (f<e)=true->(h 1).bi g)/\(decide (f<e)=false->t.bi g))))/\(decide (x<e)=false->(decide (e<f)=true->(h k).bi g)/\(decide (e<f)=false->(decide (f<e)=true->(h 1).bi g)/\(decide (f<e)=false->t.bi g)))) (by kernel_rfl) ?_;conv=>zeta
 simp only at w u;simp only[vcs];refine⟨⟨by omega,by omega⟩,?_⟩;rintro i ⟨j,v,z,h⟩;refine⟨λs=>⟨λk=>?_,λk=>?_⟩,λs=>?_⟩
 ·rw[ri (d:=0) j s,ri (d:=0) j k] at h;simp only[bG] at h;omega
 ·rw[ri (d:=0) j s,show i.toNat=b.length from by omega,δD] at h;grind[bG]
 ·rw[show i.toNat=a.length from by omega,δD] at h;refine⟨λk=>?_,λk=>⟨λy=>by omega,λy=>?_⟩⟩
  ·rw[<-γg a.length,ri (d:=0) (by omega) k] at h;exact h.symm
  ·rw[show a.length=b.length from by omega,δD] at h;exact h.symm
def dB (l:List oz):oz:=⟨(l.map oz.a0).sum,(l.map oz.a1).sum,(l.map oz.a2).sum,(l.map oz.a3).sum,(l.map oz.a4).sum,(l.map oz.a5).sum⟩
def VK (p:ew) (l:List Int):List bA:=l.map λi=>bN p.bj i.toNat cj.bu.bw
def fS (p:ew) (L:List bA):Prop:=(L.map bA.Gz).Nodup/\(dB (L.map bA.bx)).le p.bm=true/\(dB (L.map (dD p))).le p.bs=true
instance (p:ew) (L:List bA):Decidable (fS p L):=by unfold fS;infer_instance
def kI (p:ew) (l:List Int):Bool:=decide (fS p (VK p l))
def gV (a b:oz) (k:Int):oz:=⟨if 0<k then b.a0 else a.a0,if 1<k then b.a1 else a.a1,if 2<k then b.a2 else a.a2,if 3<k then b.a3 else a.a3,if 4<k then b.a4 else a.a4,if 5<k then b.a5 else a.a5⟩
def oz.add (a b:oz):oz:=⟨a.a0+b.a0,a.a1+b.a1,a.a2+b.a2,a.a3+b.a3,a.a4+b.a4,a.a5+b.a5⟩
theorem yY {l m:List oz}:dB (l++m)=(dB l).add (dB m):=by simp[dB,oz.add]
theorem yX {b:oz} {l:List oz}:dB (b::l)=b.add (dB l):=by simp[dB,oz.add]
def oz.bd (b:oz) (n:Int):Prop:=(0<=b.a0/\b.a0<=n)/\(0<=b.a1/\b.a1<=n)/\(0<=b.a2/\b.a2<=n)/\(0<=b.a3/\b.a3<=n)/\(0<=b.a4/\b.a4<=n)/\(0<=b.a5/\b.a5<=n)
theorem FO:∀{l:List oz},(∀b∈l,b.ok=true)->(dB l).bd (4*l.length)
 |[],_=>by simp[dB,oz.bd];|b::l,h=>by have e:=oz.fA.1 (h b (by simp));have d:=@FO l λc a=>h c (by simp[a]);rw[yX];simp only[oz.bd,oz.add,γC] at d ⊢;omega
theorem YE {p:ew} {x:bA} (h:x.bx.ok=true):(dD p x).ok=true:=by have a:=oz.fA.1 h;rw[oz.fA];simp only[dD,ed,oc];omega
theorem FN {p:ew} (b:Good p) {l:List Int} (h:∀i∈l,0<=i/\i<p.bj.length):∀x∈VK p l,x∈p.bj:=by intro x a;obtain⟨i,c,rfl⟩:=Δ.1 a;grind[cy]
def kH (p:ew) (i:Int):Int:=(bN p.bj i.toNat cj.bu.bw).value
def cW (a b:bC):bC:=if b.value<a.value\/a.value=b.value/\bG a.bn b.bn<0 then a else b
def kG (p:ew):Nat->Int->bC->bC->bC
 |0,_,_,b=>b
 |k+1,i,a,b=>kG p k (i+1) a (if kI p (a.bn++[i]) then kG p k (i+1) ⟨a.bn++[i],a.value+kH p i⟩ (cW ⟨a.bn++[i],a.value+kH p i⟩ b) else b)
def OG (p:ew) (i:Int):Nat:=(p.bj.length - i).toNat
def OF (p:ew) (a:bC) (f:Int) (b:bC):bC:=kG p (OG p f) f a (cW a b)
def Oq (p:ew):bC:=OF p ⟨[],0⟩ 0 ⟨[],0⟩
def hasB (m b:Int):Bool:=decide (fm.arT .i64 (m / 2^b.toNat) 1=1)
def zS (p:ew) (w:Int) (n:Nat):Int:=((Γ n).map λi:Nat=>if(i:Int)≠w then(2:Int)^i else 0).sum
def nN (p:ew) (m:Int):ew:={p with bj:=p.bj.filter λx=>hasB m x.Gz}
theorem FM {p:ew} (h:Good p) (m:Int):Good (nN p m):=by refine⟨h.1,?_,h.2.2.1,h.2.2.2.1,λx a=>h.2.2.2.2 x (Θ.1 a).1⟩;have:=γT (λx:bA=>hasB m x.Gz) p.bj;have:=h.2.1;grind[nN]
def tc (p:ew) (m:Int):Int:=(Oq (nN p m)).value
theorem FL {p:ew} {c:List Int} (e:cq p c=0):nW p=0/\eT p c=true/\Good p/\c.length<=160/\∀i∈c,0<=i/\i<p.bj.length:=by
 have b:nW p=0:=by unfold cq at e;omega
 have d:eT p c=true:=by unfold cq at e;grind
 have f:=cT b;obtain⟨r,g⟩:=γE.1 d;obtain⟨h,a⟩:=OJ (by omega) g;refine⟨b,d,f,?_,a⟩;have k:=yw (by omega) g;have j:=f.2.1;grind
def FK (p:ew):Int:=zS p (-1) p.bk.length
structure OE (p:ew) (fs:List Int) (l o:oz) (L:List bA):Prop where
 nd:(L.map bA.Gz).Nodup
 mem:∀x∈L,x∈p.bj/\x.Gz∈fs
 w:(dB (L.map bA.bx)).le l=true
 o:(dB (L.map (dD p))).le o=true
theorem OD {p:ew} {fs:List Int} {l o:oz}:∀{xs:List bA} {v:Int},v<=xs.foldl (jZ p fs l o) v/\∀x∈xs,x.bx.le l=true->(dD p x).le o=true->x.value+gu p fs (l.sub x.bx) (o.sub (dD p x))<=xs.foldl (jZ p fs l o) v
 |[],v=>by simp;|y::xs,v=>by
  obtain⟨b,e⟩:=@OD p fs l o xs (jZ p fs l o v y);have d:v<=jZ p fs l o v y:=by grind[jZ]
  refine⟨by grind,λx a c f=>?_⟩;simp only[δQ];rcases γl.1 a with rfl|a
  ·have:x.value+gu p fs (l.sub x.bx) (o.sub (dD p x))<=jZ p fs l o v x:=by unfold jZ;grind
   omega
  simp_all
theorem nx {p:ew} {fs:List Int} {l o:oz}:∀{xs:List bA} {v:Int},xs.foldl (jZ p fs l o) v=v\/∃x∈xs,x.bx.le l=true/\(dD p x).le o=true/\xs.foldl (jZ p fs l o) v=x.value+gu p fs (l.sub x.bx) (o.sub (dD p x))
 |[],v=>by simp;|y::xs,v=>by
  simp only[δQ];rcases @nx p fs l o xs (jZ p fs l o v y) with h|⟨x,d,a,c,b⟩
  ·rw[h];unfold jZ;split<;>grind
  grind
theorem YD {x:oz} {s t:List oz}:dB (s++x::t)=x.add (dB (s++t)):=by grind[yY,yX,oz.add]
theorem YC {x:bA} {s t:List bA}:bE (s++x::t)=x.value+bE (s++t):=by rw[nO,nO];grind[bE]
theorem OC {p:ew} (c:Good p) {L:List bA} (h:∀x∈L,x∈p.bj):(dB (L.map bA.bx)).bd (4*L.length)/\(dB (L.map (dD p))).bd (4*L.length):=by have e:∀x∈L,x.bx.ok=true:=λx d=>(c.2.2.2.2 x (h x d)).2.2.1;have a:=@FO (L.map bA.bx) (λb f=>by grind);grind[FO,YE]
theorem zR {p:ew} (e:Good p):∀{fs:List Int} {l o:oz} {L:List bA},OE p fs l o L->bE L<=gu p fs l o
 |[],l,o,L,h=>by
  have:L=[]:=by
   cases L with
   |nil=>rfl;|cons x L=>exact absurd (h.mem x (by simp)).2 (by simp)
  grind[bE,gu];|f::fs,l,o,L,h=>by
  obtain⟨D,B⟩:=@OD p fs l o (iN p f) (gu p fs l o);have b:gu p (f::fs) l o=(iN p f).foldl (jZ p fs l o) (gu p fs l o):=rfl;rw[b];by_cases d:∃x∈L,x.Gz=f
  ·obtain⟨x,d,m⟩:=d;obtain⟨s,t,rfl⟩:=List.append_of_mem d;obtain⟨u,c,w,j⟩:=h;have i:=c x d;have g:∀y∈s++t,y∈p.bj:=λy a=>(c y (by grind)).1;obtain⟨z,v⟩:=OC e g;rw[γb,ν,YD,oz.le_iff,<-γb] at w j;simp only[oz.add,oz.bd] at w j z v;have q:x.bx.le l=true:=by rw[oz.le_iff];omega
   have r:(dD p x).le o=true:=by rw[oz.le_iff];omega
   have A:=B x (Θ.2 ⟨i.1,by simp[m]⟩) q r;rw[γb,ν,List.nodup_append] at u;have n:∀y∈s++t,y.Gz≠f:=λy a=>by
    rw[<-m];rcases γo.1 a with a|a;·simp_all
    simp_all
   have k:bE (s++t)<=gu p fs (l.sub x.bx) (o.sub (dD p x)):=zR e
    {nd:=by grind
     mem:=λy a=>by grind
     w:=by grind[oz.le_iff,oz.sub]
     o:=by grind[oz.le_iff,oz.sub]};rw[YC];omega
  ·have:=zR e (fs:=fs) (l:=l) (o:=o) (L:=L) ⟨h.nd,λy a=>by have C:=h.mem y a;simp_all,h.w,h.o⟩;omega
theorem zQ {p:ew} (k:Good p):∀{fs:List Int} {l o:oz},fs.Nodup->oz.zero.le l=true->oz.zero.le o=true->∃L,OE p fs l o L/\bE L=gu p fs l o
 |[],l,o,_,g,e=>⟨[],⟨by simp,by simp,g,e⟩,rfl⟩
 |f::fs,l,o,r,g,e=>by
  have c:=γQ.1 r;have d:gu p (f::fs) l o=(iN p f).foldl (jZ p fs l o) (gu p fs l o):=rfl;rw[d];rcases @nx p fs l o (iN p f) (gu p fs l o) with h|⟨x,q,m,u,n⟩
  ·rw[h];obtain⟨L,a,j⟩:=zQ k (l:=l) (o:=o) c.2 g e;exact⟨L,⟨a.nd,λy b=>⟨(a.mem y b).1,by simp[(a.mem y b).2]⟩,a.w,a.o⟩,j⟩
  ·rw[n];have z:=oz.le_iff.1 m;have A:=oz.le_iff.1 u;obtain⟨L,a,j⟩:=zQ k (l:=l.sub x.bx) (o:=o.sub (dD p x)) c.2 (by grind[oz.le_iff,oz.zero,oz.sub]) (by grind[oz.le_iff,oz.zero,oz.sub]);have s:=Θ.1 q;have i:x.Gz=f:=by simp_all
   refine⟨x::L,⟨?_,?_,?_,?_⟩,by grind[bE]⟩
   ·rw[ν,γQ];refine⟨λt=>?_,a.nd⟩;obtain⟨y,b,v⟩:=Δ.1 t;exact c.1 (by rw[<-i,<-v];exact(a.mem y b).2)
   ·intro y b;rcases γl.1 b with rfl|b;·simp_all
    ·exact⟨(a.mem y b).1,by simp[(a.mem y b).2]⟩
   ·have:=oz.le_iff.1 a.w;grind[yX,oz.le_iff,oz.add,oz.sub]
   ·have:=oz.le_iff.1 a.o;grind[yX,oz.le_iff,oz.add,oz.sub]
theorem sJ {p:ew} {l m:List Int}:VK p (l++m)=VK p l++VK p m:=by simp[VK]
theorem re {p:ew} {i:Int} {l:List Int}:VK p (i::l)=bN p.bj i.toNat cj.bu.bw::VK p l:=rfl
def zP (p:ew) (l:List Int):Prop:=∀i∈l,0<=i/\i<p.bj.length
theorem zO {p:ew} (f:Good p) {L M:List bA} (c:∀x∈M,x∈p.bj) (h:fS p (L++M)):fS p L:=by obtain⟨e,d⟩:=OC f c;obtain⟨g,a,b⟩:=h;rw[γb,yY,oz.le_iff] at a b;simp only[oz.add,oz.bd] at a b e d;refine⟨?_,?_,?_⟩<;>grind[oz.le_iff]
theorem OB {p:ew} (a:Good p) {l m:List Int} (b:zP p m) (h:kI p (l++m)=true):kI p l=true:=by unfold kI at h ⊢;have h:=of_decide_eq_true h;rw[sJ] at h;exact decide_eq_true (zO a (FN a b) h)
def my (i:Int) (k:Nat) (t:List Int):Prop:=t.Pairwise (·<·)/\∀j∈t,i<=j/\j<i+k
theorem O9 {a b:bC}:a.value<=(cW a b).value/\b.value<=(cW a b).value:=by grind[cW]
theorem O8 {a b:bC}:cW a b=a\/cW a b=b:=by grind[cW]
theorem yW {p:ew}:∀{k:Nat} {i:Int} {a b:bC},b.value<=(kG p k i a b).value
 |0,_,_,b=>by simp[kG];|k+1,i,a,b=>by
  simp only[kG];refine εj ?_ yW;split;·exact εj O9.2 yW
  ·omega
theorem FJ {p:ew} (h:Good p):∀{k:Nat} {i:Int} {a b:bC} {t:List Int},0<=i->i+k<=p.bj.length->t≠[]->my i k t->kI p (a.bn++t)=true->a.value+bE (VK p t)<=(kG p k i a b).value
 |0,i,a,b,t,_,_,u,c,_=>by
  cases t with
  |nil=>simp_all;|cons j t=>
   have:=c.2 j (by simp);omega
 |k+1,i,a,b,t,w,x,u,c,s=>by
  cases t with
  |nil=>simp_all;|cons j t=>
   have v:=c.2 j (by simp);have q:=γp.1 c.1;simp only[kG];by_cases l:j=i
   ·subst l;have d:zP p t:=λm e=>by have:=c.2 m (by simp[e]);omega
    have f:kI p (a.bn++[j]++t)=true:=by simp_all
    have g:kI p (a.bn++[j])=true:=OB h d f;rw[if_pos g];refine εj ?_ yW;rw[re];simp only[bE];cases t with
    |nil=>
     refine εj ?_ yW;refine εj ?_ O9.1;simp[bE,VK,kH];|cons o n=>
     have:=FJ h (k:=k) (i:=j+1) (a:=⟨a.bn++[j],a.value+kH p j⟩) (b:=cW ⟨a.bn++[j],a.value+kH p j⟩ b) (t:=o::n) (by omega) (by omega) (by simp) ⟨q.2,λm e=>by have r:=c.2 m (List.mem_cons_of_mem _ e);grind⟩ f;grind[kH]
   ·exact FJ h (by omega) (by omega) (by simp) ⟨c.1,λm e=>by have r:=c.2 m e;grind⟩ s
theorem FI {p:ew} (g:Good p):∀{k:Nat} {i:Int} {a b:bC},kG p k i a b=b\/∃t,t≠[]/\my i k t/\kI p (a.bn++t)=true/\kG p k i a b=⟨a.bn++t,a.value+bE (VK p t)⟩
 |0,i,a,b=> .inl rfl
 |k+1,i,a,b=>by
  have l:∀{t:List Int},my (i+1) k t->my i (k+1) t:=λh=>⟨h.1,λj c=>by have:=h.2 j c;omega⟩;simp only[kG];rcases @FI p g k (i+1) a (if kI p (a.bn++[i]) then kG p k (i+1) ⟨a.bn++[i],a.value+kH p i⟩ (cW ⟨a.bn++[i],a.value+kH p i⟩ b) else b) with h|⟨t,m,d,n,o⟩
  ·rw[h];split
   ·rename_i q;have e:(⟨a.bn++[i],a.value+kH p i⟩:bC)=⟨a.bn++[i],a.value+bE (VK p [i])⟩:=by simp[bE,VK,kH]
    have f:my i (k+1) [i]:=⟨by simp,λj c=>by grind⟩;rcases @FI p g k (i+1) ⟨a.bn++[i],a.value+kH p i⟩ (cW ⟨a.bn++[i],a.value+kH p i⟩ b) with h|⟨t,m,d,n,o⟩;·grind[O8]
    ·refine .inr ⟨i::t,by simp,⟨γp.2 ⟨λj c=>by have:=d.2 j c;omega,d.1⟩,λj c=>?_⟩,by simp_all,?_⟩
     ·rcases γl.1 c with rfl|c;·omega
      ·have:=d.2 j c;omega
     grind[re,bE,kH]
   simp_all
  grind
theorem zM {p:ew}:∀{c:List Int} {s:Int},c.foldl (FS p) s=s+bE (VK p c)
 |[],s=>by simp[VK,bE];|i::c,s=>by rw[δQ,zM,re];grind[bE,FS]
theorem zL {p:ew}:∀{c:List Int} {a:Int} {r:List bA},dG p.bj a c=some r->r=VK p c
 |[],a,r,h=>by simp[dG] at h;subst h;rfl;|i::c,a,r,h=>by
  simp only[dG] at h;split at h;·cases h
  ·obtain⟨d,b,rfl⟩:=ε.1 h;rw[zL b,re]
theorem YB {p:ew} {c:List Int} (b:cq p c=0):dA p c=yu p c:=by obtain⟨a,d,g,f,e⟩:=FL b;obtain⟨r,h⟩:=γE.1 d;unfold dA yu;rw[if_pos a,zM];grind[cK,zL]
theorem O7 {p:ew} {x:bA} (b:0<=x.Gz) (a:x.Gz<p.bk.length):dE p x.Gz x=1:=by unfold dE;omega
theorem sum_cons {p:ew} {x:bA} {L:List bA} {r:Int}:bZ p (x::L) r=dE p r x+bZ p L r:=by simp[bZ]
theorem O6 {p:ew} {r:Int}:∀{L:List bA},(∀x∈L,x.bx.ok=true)->(∃x∈L,x.Gz=r/\0<=r/\r<p.bk.length)->1<=bZ p L r
 |[],_,h=>by simp_all;|y::L,a,⟨x,c,e,f,d⟩=>by
  have g:=@oF p r y (a y (by simp));have i:=@qO p r L λz b=>a z (by simp[b]);rw[sum_cons];rcases γl.1 c with rfl|c;·grind[O7]
  ·have:=@O6 p r L (λz b=>a z (by simp[b])) ⟨x,c,e,f,d⟩;omega
theorem O5 {p:ew}:∀{L:List bA},(∀x∈L,x.bx.ok=true/\0<=x.Gz/\x.Gz<p.bk.length)->(∀r:Int,0<=r->r<p.bk.length->bZ p L r<=1)->(L.map bA.Gz).Nodup
 |[],_,_=>by simp;|x::L,e,f=>by
  have a:=e x (by simp);rw[ν,γQ];have d:∀r:Int,0<=r->r<p.bk.length->bZ p L r<=1:=λr j b=>by have:=f r j b;have:=@oF p r x a.1;grind[sum_cons]
  refine⟨λg=>?_,O5 (λy c=>e y (by simp[c])) d⟩;obtain⟨y,c,h⟩:=Δ.1 g;have b:=f x.Gz a.2.1 a.2.2;have k:=@O6 p x.Gz L (λz i=>(e z (by simp[i])).1) ⟨y,c,h,a.2.1,a.2.2⟩;rw[sum_cons,O7 a.2.1 a.2.2] at b;omega
theorem YA {p:ew} {c:List Int} (e:cq p c=0):((VK p c).map bA.Gz).Nodup:=by
 obtain⟨j,f,a,m,h⟩:=FL e;obtain⟨r,l⟩:=γE.1 f;have n:cK p c=VK p c:=by grind[cK,zL]
 have d:fz p (VK p c)=true:=by simp_all[cq]
 refine O5 (p:=p) (λx g=>?_) λr o i=>?_
 ·have:=a.2.2.2.2 x (FN a h x g);simp_all
 ·have b:=nS.1 d r.toNat (by grind[cr]);rw[show((r.toNat:Nat):Int)=r by omega] at b;have k:cB p r=1:=by unfold cB;omega
  omega
theorem FH {p:ew}:Oq p=kG p p.bj.length 0 ⟨[],0⟩ ⟨[],0⟩:=by grind[OG,Oq,OF,O8]
theorem yV {p:ew} (f:Good p) {t:List Int} (e:my 0 p.bj.length t) (d:kI p t=true):bE (VK p t)<=(Oq p).value:=by
 rw[FH];by_cases c:t=[]
 ·subst c;exact yW
 ·have:=FJ f (k:=p.bj.length) (i:=0) (a:=⟨[],0⟩) (b:=⟨[],0⟩) (t:=t) (by omega) (by omega) c e d;simp_all
theorem O4 {p:ew} (a:Good p):kI p []=true:=by have b:=oz.fA.1 a.2.2.1;have c:=oz.fA.1 a.2.2.2.1;unfold kI;refine decide_eq_true ⟨by simp[VK],?_,?_⟩;all_goals simp_all[oz.le_iff,VK,dB]
theorem FG {p:ew} (a:Good p):∃t,my 0 p.bj.length t/\kI p t=true/\Oq p=⟨t,bE (VK p t)⟩:=by
 rw[FH];rcases @FI p a p.bj.length 0 ⟨[],0⟩ ⟨[],0⟩ with h|⟨t,b,e,c,d⟩;·exact⟨[],⟨by simp,by simp⟩,O4 a,by rw[h];rfl⟩
 grind
def O3:Bool:=(Γ 256).all λm=>[0,1,2,3,4,5,6,7].all λb:Int=>hasB m b==decide (b∈gl m)
theorem Yz:O3=true:=by kernel_rfl
theorem FF {m b:Int} (e:0<=m) (a:m<256) (c:0<=b) (d:b<8):hasB m b=decide (b∈gl m):=by
 have h:=Yz;simp only[O3,τ,γt] at h;have h:=h m.toNat (by omega) b (by
  have:b=0\/b=1\/b=2\/b=3\/b=4\/b=5\/b=6\/b=7:=by omega
  simp_all);grind
theorem Yy {p:ew} {t:List Int} (h:my 0 p.bj.length t):zP p t:=λj a=>by have:=h.2 j a;omega
theorem Xk {p:ew} (b:Good p) {m:Int} (j:0<=m) (e:m<256):tc p m<=gu p (gl m) p.bm p.bs:=by obtain⟨t,i,f,g⟩:=FG (FM b m);unfold tc;rw[g];have d:=of_decide_eq_true f;refine zR b ⟨d.1,λx h=>?_,d.2.1,d.2.2⟩;have c:=FN (FM b m) (Yy i) x h;have a:=Θ.1 c;have k:=b.2.2.2.2 x a.1;have l:=b.1;refine⟨a.1,?_⟩;have:=FF j e k.1 (by omega);simp_all
theorem O2 {L M:List bA} (h:L.Perm M):bE L=bE M:=by induction h<;>grind[bE,swap,trans]
theorem Xj {L M:List oz} (h:L.Perm M):dB L=dB M:=by induction h<;>grind[yX,swap,oz.add,oz.mk.injEq,trans]
theorem zK {p:ew} {L M:List bA} (h:L.Perm M) (b:fS p L):fS p M:=by obtain⟨a,c,d⟩:=b;refine⟨((h.map _).nodup_iff).1 a,?_,?_⟩<;>grind[Xj]
theorem FE (q:bA->Bool):∀(O a:List bA),∃t:List Int,t.Pairwise (·<·)/\(∀j∈t,(a.length:Int)<=j/\j<a.length+O.length)/\(t.map λj=>bN (a++O) j.toNat cj.bu.bw)=O.filter q
 |[],a=>⟨[],by simp,by simp,by simp⟩
 |x::O,a=>by
  obtain⟨t,c,g,d⟩:=FE q O (a++[x]);have e:a++[x]++O=a++x::O:=by simp
  rw[e] at d;have h:((a++[x]).length:Int)=a.length+1:=by simp
  have f:∀j∈t,(a.length:Int)+1<=j/\j<a.length+1+O.length:=λj b=>by simp_all
  by_cases i:q x=true
  ·refine⟨(a.length:Int)::t,γp.2 ⟨λj b=>by grind,c⟩,λj b=>?_,?_⟩;·grind
   simp_all[bR]
  grind
theorem zJ {p:ew}:∀{l:List bA} {a:List nu},iF p a l=0->(l.map bA.key).Nodup/\∀x∈l,x.key∉a
 |[],_,_=>by simp;|o::r,a,h=>by
  simp only[iF] at h;split at h;·omega
  ·split at h;·cases h
   next d b=>obtain⟨c,e⟩:=zJ h;simp_all
theorem zI {a b:Type} (f:a->b):∀{l:List a},(l.map f).Nodup->l.Nodup
 |[],_=>by simp;|x::l,h=>by rw[ν,γQ] at h;exact γQ.2 ⟨λc=>h.1 (List.mem_map_of_mem c),zI f h.2⟩
theorem O1 {p:ew} (h:nW p=0):p.bj.Nodup:=by
 unfold nW at h;split at h;·omega
 ·exact zI _ (zJ h).1
theorem O0 (m:Int):(gl m).Nodup:=by unfold gl;exact θd γn (by decide)
theorem Xi {p:ew} (f:nW p=0) {m:Int} (D:0<=m) (u:m<256):gu p (gl m) p.bm p.bs<=tc p m:=by
 have b:=cT f;have A:=oz.fA.1 b.2.2.1;have y:=oz.fA.1 b.2.2.2.1;obtain⟨L,c,h⟩:=zQ b (O0 m) (l:=p.bm) (o:=p.bs) (by grind[oz.le_iff,oz.zero]) (by grind[oz.le_iff,oz.zero]);obtain⟨t,n,B,g⟩:=FE (λx=>decide (x∈L)) (nN p m).bj [];have i:VK (nN p m) t=(nN p m).bj.filter λx=>decide (x∈L):=g;have q:∀x∈L,x∈(nN p m).bj:=λx s=>by have d:=c.mem x s;have C:=b.2.2.2.2 x d.1;have v:=b.1;refine Θ.2 ⟨d.1,?_⟩;grind[FF]
 have e:((nN p m).bj.filter λx=>decide (x∈L)).Nodup:=θd (List.Sublist.trans γn γn) (O1 f);have a:L.Perm (VK (nN p m) t):=by rw[i];refine(List.perm_ext_iff_of_nodup (zI _ c.nd) e).2 λx=>?_;simp_all
 have k:fS (nN p m) L:=⟨c.nd,c.w,c.o⟩;have r:kI (nN p m) t=true:=decide_eq_true (zK a k);have:=yV (FM b m) ⟨n,λj z=>by simp_all⟩ r;rw[<-O2 a,h] at this;exact this
theorem Xh {p:ew} (d:nW p=0) {m:Int} (e:0<=m) (c:m<256):tc p m=gu p (gl m) p.bm p.bs:=by have a:=Xk (cT d) e c;have b:=Xi d e c;omega
theorem Xg {p:ew} (a:nW p=0) {m:Int} (c:0<=m) (d:m<2^p.bk.length):lh p m=tc p m:=by
 have b:kz p m=0:=by simp_all[kz]
 have e:=wW (cT a).1;unfold lh;rw[if_pos b,Xh a c (by omega)];rfl
def Nx:Bool:=(Γ 9).all λn=>decide (zS ew.zero (-1) n=2^n - 1)&&(Γ n).all λb=>decide (zS ew.zero b n=nQ (2^n - 1) b)
theorem Xf:Nx=true:=by kernel_rfl
theorem Nw {p:ew} (h:p.bk.length<=8):zS p (-1) p.bk.length=allM p:=by have a:=Xf;simp only[Nx,τ,γt,ζ,decide_eq_true_eq] at a;exact(a p.bk.length (by omega)).1
theorem Xe {p:ew} (b:nW p=0):lh p (allM p)=tc p (FK p):=by have a:=cT b;have c:=wW a.1;unfold FK;rw[Nw a.1];grind[Xg,allM]
def oz.at (b:oz) (k:Nat):Int:=bN [b.a0,b.a1,b.a2,b.a3,b.a4,b.a5] k 0
theorem zH {a b:oz} (h:a.le b=true) (k:Nat):a.at k<=b.at k:=by grind[oz.le_iff,oz.at,bN]
theorem mw (k:Nat):∀(l:List oz),(dB l).at k=(l.map λb=>b.at k).sum:=by
 intro l;unfold oz.at dB;match k with
 |0|1|2|3|4|5=>simp only[bN,δo,γR,δB];|k+6=>
  simp only[bN,γR,List.getElem?_nil,Option.getD_none];induction l<;>grind
theorem Nv {p:ew} {x:bA} {k:Nat} (a:k<6):dE p (p.bk.length+k) x=x.bx.at k:=by unfold dE;rw[if_neg (by omega),if_pos (by omega),show((p.bk.length:Int)+k - p.bk.length).toNat=k by omega];rfl
theorem Nu {p:ew} {x:bA} {k:Nat} (a:k<6):dE p (p.bk.length+6+k) x=(dD p x).at k:=by
 unfold dE;rw[if_neg (by omega),if_neg (by omega),show((p.bk.length:Int)+6+k - p.bk.length - 6).toNat=k by omega];have:k=0\/k=1\/k=2\/k=3\/k=4\/k=5:=by omega
 rcases this with rfl|rfl|rfl|rfl|rfl|rfl<;>simp[dD,ed,oc,j4,oz.at,bN]
theorem Nt {p:ew} {k:Nat} (a:k<6):cB p (p.bk.length+k)=p.bm.at k:=by unfold cB;rw[if_neg (by omega),if_pos (by omega),show((p.bk.length:Int)+k - p.bk.length).toNat=k by omega];rfl
theorem Ns {p:ew} {k:Nat} (a:k<6):cB p (p.bk.length+6+k)=p.bs.at k:=by unfold cB;rw[if_neg (by omega),if_neg (by omega),show((p.bk.length:Int)+6+k - p.bk.length - 6).toNat=k by omega];rfl
theorem Nr {p:ew} {r:Int} (a:0<=r) (b:r<p.bk.length):∀{L:List bA},(L.map bA.Gz).Nodup->bZ p L r<=1/\(r∉L.map bA.Gz->bZ p L r=0)
 |[],_=>by simp[bZ];|x::L,h=>by
  rw[ν,γQ] at h;obtain⟨d,e⟩:=Nr a b h.2;have c:dE p r x=if x.Gz=r then 1 else 0:=by unfold dE;omega
  rw[sum_cons,c];grind
theorem Nq {p:ew} {L:List bA} (h:fS p L):fz p L=true:=by
 obtain⟨j,i,f⟩:=h;refine nS.2 λr g=>?_;unfold cr at g;by_cases l:r<p.bk.length
 ·have:=(Nr (p:=p) (r:=r) (by omega) (by omega) j).1;have d:cB p r=1:=by unfold cB;omega
  omega
 by_cases d:r<p.bk.length+6
 ·obtain⟨k,rfl⟩:∃k:Nat,r=p.bk.length+k:=⟨r - p.bk.length,by omega⟩;have c:k<6:=by omega
  have e:(((p.bk.length+k:Nat)):Int)=p.bk.length+k:=by omega
  rw[e,Nt c];have a:=zH i k;rw[mw,γO] at a;have:bZ p L (p.bk.length+k)=(L.map ((λb=>oz.at b k)∘bA.bx)).sum:=by unfold bZ;congr 1;simp_all[Nv]
  omega
 ·obtain⟨k,rfl⟩:∃k:Nat,r=p.bk.length+6+k:=⟨r - p.bk.length - 6,by omega⟩;have c:k<6:=by omega
  have e:(((p.bk.length+6+k:Nat)):Int)=p.bk.length+6+k:=by omega
  rw[e,Ns c];have a:=zH f k;rw[mw,γO] at a;have:bZ p L (p.bk.length+6+k)=(L.map ((λb=>oz.at b k)∘dD p)).sum:=by unfold bZ;congr 1;simp_all[Nu]
  omega
theorem Np {l:List bA}:∀{t:List Int} {a:Int},t.Pairwise (·<·)->(∀j∈t,a<j/\j<l.length)->dG l a t=some (t.map λi=>bN l i.toNat cj.bu.bw)
 |[],_,_,_=>rfl
 |i::t,a,h,d=>by have e:=d i (by simp);have c:=γp.1 h;unfold dG;rw[if_neg (by omega),Np c.2 λj b=>⟨c.1 j b,(d j (by simp[b])).2⟩];rfl
theorem No {p:ew} (e:nW p=0) {t:List Int} (a:my 0 p.bj.length t) (c:fS p (VK p t)):cq p t=0:=by
 have d:dG p.bj (-1) t=some (VK p t):=Np a.1 λj b=>by have:=a.2 j b;omega
 simp_all[cq,eT,cK,Nq]
def Nn:Bool:=(Γ 9).all λn=>(Γ n).all λb=>hasB (2^n - 1) b
theorem Xd:Nn=true:=by kernel_rfl
theorem Nm {p:ew} (a:Good p) {b:Int} (d:0<=b) (c:b<p.bk.length):hasB (allM p) b=true:=by have h:=Xd;simp only[Nn,τ,γt] at h;have:=h p.bk.length (by have:=a.1;omega) b.toNat (by omega);rwa [show((b.toNat:Nat):Int)=b by omega] at this
theorem Xc {p:ew} (a:Good p):nN p (allM p)=p:=by unfold nN;rw[List.filter_eq_self.2 λx b=>Nm a (a.2.2.2.2 x b).1 (a.2.2.2.2 x b).2.1]
theorem zG {p:ew} (b:nW p=0):lh p (allM p)=(Oq p).value:=by have a:=cT b;rw[Xe b];unfold FK tc;rw[Nw a.1,Xc a]
theorem Nl {p:ew} (a:nW p=0):OK p (Oq p).bn=0/\fS p (VK p (Oq p).bn)/\my 0 p.bj.length (Oq p).bn/\(Oq p).value=bE (VK p (Oq p).bn):=by have d:=cT a;obtain⟨t,b,e,h⟩:=FG d;have c:fS p (VK p t):=of_decide_eq_true e;have g:=No a b c;have f:=zG a;simp_all[OK,yu,zM]
theorem Xb {p:ew} (d:Good p) {x:Int} (a:0<=x) (c:x<p.bk.length):x∈gl (allM p):=by have e:=d.1;have f:=wW e;have:=FF (m:=allM p) (b:=x) (by grind[allM]) (by grind[allM]) a (by omega);simp_all[Nm]
theorem Nk {p:ew} (b:nW p=0) {m:Int} (c:0<=m) (a:m<2^p.bk.length):lh p m=gu p (gl m) p.bm p.bs:=by
 unfold lh;rw[if_pos];·rfl
 simp_all[kz]
theorem Nj:∀l:List Int,bG l l=0
 |[]=>rfl
 |a::l=>by simp only[bG,if_neg (Int.lt_irrefl a)];exact Nj l
theorem FD:∀{a b:List Int},bG a b=0->a=b
 |[],[],_=>rfl
 |[],_::_,h=>by grind[bG];|_::_,[],h=>by grind[bG];|x::a,y::b,h=>by
  simp only[bG] at h;split at h;·simp at h
  ·split at h;·simp at h
   ·rw[FD h,show x=y by omega]
theorem FC:∀{a b:List Int},bG a b<0↔0<bG b a
 |[],[]=>by simp[bG];|[],_::_=>by simp[bG];|_::_,[]=>by simp[bG];|x::a,y::b=>by
  simp only[bG];by_cases c:x<y;·omega
  ·by_cases d:y<x;·omega
   ·rw[if_neg c,if_neg d,if_neg d,if_neg c];exact FC
theorem Ni:∀{a b c:List Int},bG a b<0->bG b c<0->bG a c<0
 |[],[],_,h,_=>by omega;|_::_,[],_,h,_=>by grind[bG];|[],_::_,[],_,h=>by grind[bG];|[],_::_,_::_,_,_=>by simp[bG];|_::_,_::_,[],_,h=>by grind[bG];|x::a,y::b,z::c,h,k=>by
  simp only[bG] at h k ⊢;by_cases g:x<y;·omega
  ·rw[if_neg g] at h;by_cases e:y<x;·omega
   ·rw[if_neg e] at h;by_cases f:y<z;·omega
    ·rw[if_neg f] at k;by_cases d:z<y;·omega
     ·rw[if_neg d] at k;rw[if_neg (by omega),if_neg (by omega)];exact Ni h k
def lQ (a b:bC):Prop:=b.value<a.value\/a.value=b.value/\bG a.bn b.bn<0
theorem Nh {a b c:bC} (h:lQ a b) (k:lQ b c):lQ a c:=by
 rcases h with h|⟨g,e⟩
 ·rcases k with k|⟨f,_⟩;·left;omega
  ·left;omega
 ·rcases k with k|⟨f,d⟩;·left;omega
  ·exact .inr ⟨by omega,Ni e d⟩
theorem zF {a:bC}:¬lQ a a:=by rintro(h|⟨_,h⟩)<;>grind[Nj]
theorem Xa {a b:bC} (h:¬lQ a b) (k:¬lQ b a):a=b:=by
 obtain⟨l,v⟩:=a;obtain⟨m,w⟩:=b;simp only[lQ,not_or,not_and] at h k;have d:v=w:=by omega
 subst d;have e:=h.2 rfl;have c:=k.2 rfl;have:=mt FC.2 c;grind[FD]
def nh (a:List Int):Nat->Nat
 |0=>0
 |n+1=>if bN a n 0=0 then nh a n else n+1
def MO (a:List Int):List Int:=a.take (nh a a.length)
def pW:NG:=⟨168,List Int,.one (cP (.i .u32)),λa=>a.length<=1000000000000,λa=> .row (.i .u32) (MO a)⟩
def W_ (a:List Int):Nat->bH
 |2=> .inv Int (λn=>⟨[(0,.row (.i .u32) a),(3,.si .i64 n)],[]⟩) (λs=>iS s 3) (λn=>0<=n/\n<=a.length/\nh a n.toNat=nh a a.length) (λn=>n.toNat) λ_ _=> .look
 |_=> .look
theorem lB:Holds Tryz.prog pW:=by
 refine bI (L:=[]) pW W_ (by simp) ?_;intro(a:List Int) (h:a.length<=1000000000000);refine NI (let e:=(0:Int);let f:=Ω;let c:=cj.i .u32;let d:=(↑a.length:Int);let l:=γc .i64 d;let g:=(↑a.length:Int);let j:=nh a a.length;((((f c a).bi (f c a)/\l.bi l/\True)/\True)/\e<=d/\d<=g/\nh a d.toNat=j)/\∀(x:Int),let r:=decide (e<x);let b:=x - (1:Int);let o:=decide (bN a b.toNat e=e);let k:=γc .i64 b;e<=x/\x<=g/\nh a x.toNat=j->(r=true->TP .i64 b/\e<=b/\b<d/\b.toNat<a.length/\(o=true->TP .i64 b/\(((f c a).bi (f c a)/\k.bi k/\True)/\True)/\(e<=b/\b<=g/\nh a b.toNat=j)/\b.toNat<x.toNat)/\(o=false->e<=x/\e<=x/\0<=x.toNat/\x.toNat<=x.toNat/\x.toNat<=a.length/\(f c (Ξ (x.toNat - 0) a)).bi (f c (MO a))))/\(r=false->e<=x/\e<=x/\0<=x.toNat/\x.toNat<=x.toNat/\x.toNat<=a.length/\(f c (Ξ (x.toNat - 0) a)).bi (f c (MO a)))) (by kernel_rfl) ?_;simp only[vcs];refine⟨⟨by omega,by omega,by simp⟩,?_⟩;rintro n ⟨f,t,q⟩;have e:(n.toNat=0\/0<n.toNat/\¬bN a (n.toNat - 1) 0=0)->Ξ (n.toNat - 0) a=MO a:=λh=>by
  unfold MO;rw[<-q];congr 1;rcases h with h|h;·rw[h];rfl
  ·obtain⟨v,h⟩:=h;obtain⟨m,u⟩:∃m,n.toNat=m+1:=⟨n.toNat - 1,by omega⟩;simp_all[nh]
 refine⟨λs=>⟨by omega,by omega,by omega,by omega,λp=>⟨by omega,⟨by omega,by omega,?_⟩,by omega⟩,λp=>⟨f,f,by omega,by omega,by omega,?_⟩⟩,λs=>⟨f,f,by omega,by omega,by omega,e (.inl (by omega))⟩⟩
 ·rw[<-q,show n.toNat=(n - 1).toNat+1 by omega];rw[nh,if_pos p]
 simp_all
def bX:List Int->Int
 |[]=>0
 |d::l=>d+4294967296*bX l
def ou (a:List Int):Prop:=∀d∈a,0<=d/\d<4294967296
def fu:List Int->Prop
 |[]=>True
 |d::l=>(l=[]->d≠0)/\fu l
theorem iU {d:Int} {l:List Int}:ou (d::l)↔(0<=d/\d<4294967296)/\ou l:=by simp[ou]
theorem mv {a:List Int} (h:ou a) (n:Nat):ou (a.take n):=λd b=>h d (γj b)
theorem eD:∀{a:List Int},ou a->0<=bX a
 |[],_=>Int.le_refl _
 |d::l,h=>by obtain⟨c,b⟩:=iU.1 h;have:=eD b;grind[bX]
theorem val_zero:∀{a:List Int},ou a->fu a->bX a=0->a=[]
 |[],_,_,_=>rfl
 |d::l,h,b,f=>by obtain⟨g,c⟩:=iU.1 h;have:=eD c;simp only[bX] at f;have e:=val_zero c b.2 (by omega);have:=b.1 e;omega
theorem val_inj:∀{a b:List Int},ou a->ou b->fu a->fu b->bX a=bX b->a=b
 |[],b,_,i,_,c,h=>(val_zero i c h.symm).symm
 |d::l,[],f,_,g,_,h=>val_zero f g h
 |d::l,e::m,f,i,g,c,h=>by
  obtain⟨p,j⟩:=iU.1 f;obtain⟨s,k⟩:=iU.1 i;have r:=eD j;have q:=eD k;simp only[bX] at h;have n:d=e:=by omega
  have o:bX l=bX m:=by omega
  rw[n,val_inj j k g.2 c.2 o]
theorem wV:∀{a:List Int} {x:Int},bX (a++[x])=bX a+4294967296^a.length*x
 |[],x=>by simp[bX];|d::l,x=>by simp only[γL,bX,wV,γC,γW,εG];grind
theorem FB:∀{a:List Int} {x:Int},x≠0->fu (a++[x])
 |[],x,h=>⟨λ_=>h,trivial⟩
 |d::l,x,h=>⟨λb=>by simp at b,FB h⟩
theorem zE {a:List Int} {n:Nat} (h:n<a.length):a.take (n+1)=a.take n++[bN a n 0]:=by simp_all[bR]
theorem Ng {a:List Int}:∀{n:Nat},n<=a.length->bX (a.take (nh a n))=bX (a.take n)/\fu (a.take (nh a n))
 |0,_=>by simp[nh,fu];|n+1,h=>by obtain⟨d,b⟩:=@Ng a n (by omega);have c:=zE (show n<a.length by omega);unfold nh;grind[wV,FB]
theorem pV {a:List Int}:bX (MO a)=bX a/\fu (MO a):=by have:=@Ng a a.length (π _);rw[φ] at this;exact this
theorem rb {a:List Int} (h:ou a):ou (MO a):=mv h _
theorem sI {a:List Int}:(MO a).length<=a.length:=by grind[MO]
def tb:Nat->Int->List Int
 |0,_=>[]
 |k+1,n=>if n<=0 then[] else(n % 4294967296)::tb k (n / 4294967296)
def bU (n:Int):List Int:=tb n.toNat n
theorem Nf:∀{k:Nat} {n:Int},0<=n->n.toNat<=k->bX (tb k n)=n/\ou (tb k n)/\fu (tb k n)
 |0,n,b,h=>by
  have:n=0:=by omega
  subst this;exact⟨rfl,by simp[tb,ou],trivial⟩;|k+1,n,b,h=>by
  unfold tb;split
  ·have:n=0:=by omega
   subst this;exact⟨rfl,by simp[ou],trivial⟩
  ·obtain⟨d,a,c⟩:=@Nf k (n / 4294967296) (by omega) (by omega);refine⟨by grind[bX],iU.2 ⟨by omega,a⟩,λe f=>?_,c⟩;grind[bX]
theorem fR {n:Int} (h:0<=n):bX (bU n)=n/\ou (bU n)/\fu (bU n):=Nf h (π _)
theorem yU {a:List Int} (h:ou a) (b:fu a):bU (bX a)=a:=by grind[fR,eD,val_inj]
theorem pf {a:List Int} (h:ou a):MO a=bU (bX a):=by grind[pV,yU,rb]
theorem ng:∀{a:List Int},ou a->bX a<4294967296^a.length
 |[],_=>by simp[bX];|d::l,h=>by obtain⟨c,b⟩:=iU.1 h;have:=ng b;grind[bX]
theorem wU:∀{a b:List Int},ou a->ou b->fu b->a.length<b.length->bX a<bX b
 |[],b,_,c,f,h=>by have n:=eD c;grind[bX,val_zero];|d::l,[],_,_,_,h=>by simp at h;|d::l,e::m,g,c,f,h=>by obtain⟨k,j⟩:=iU.1 g;obtain⟨o,i⟩:=iU.1 c;simp only[γC] at h;have:=wU j i f.2 (by omega);grind[bX]
theorem FA:∀{k:Nat} {a b:List Int},ou a->ou b->k<a.length->k<b.length->a.drop (k+1)=b.drop (k+1)->bN a k 0<bN b k 0->bX a<bX b
 |_,[],_,_,_,h,_,_,_=>by simp at h;|_,_::_,[],_,_,_,h,_,_=>by simp at h;|0,d::l,e::m,f,g,_,_,h,c=>by grind[bN,bX];|k+1,d::l,e::m,f,g,n,q,h,c=>by obtain⟨p,j⟩:=iU.1 f;obtain⟨o,i⟩:=iU.1 g;simp only[List.drop_succ_cons] at h;simp only[bN,γR] at c;have:=FA (k:=k) j i (by simp_all) (by simp_all) h c;grind[bX]
theorem AB {a:List Int} {k:Nat} (h:k<a.length):a.drop k=bN a k 0::a.drop (k+1):=by simp_all[bR]
def lg (x y:Int):Int:=if x<y then -1 else if y<x then 1 else 0
def wT:NG:=⟨140,List Int×List Int,.cons (cP (.i .u32)) (.one (cP (.i .u32))),λa=>(ou a.1/\ou a.2)/\a.1.length<=1000000000000/\a.2.length<=1000000000000,λa=> .si .i64 (lg (bX a.1) (bX a.2))⟩
def W8 (a:List Int×List Int):Nat->bH
 |7=> .inv Int (λi=>⟨[(0,.row (.i .u32) (MO a.1)),(1,.row (.i .u32) (MO a.2)),(22,.si .i64 (MO a.1).length),(23,.si .i64 i)],[]⟩) (λs=>iS s 23)
  (λi=>0<=i/\i<=(MO a.1).length/\(MO a.1).drop ((MO a.1).length - i.toNat)=(MO a.2).drop ((MO a.1).length - i.toNat)) (λi=>((MO a.1).length - i).toNat) λ_ _=> .look
 |_=> .look
theorem rA:Holds Tryz.prog wT:=by
 refine bI (L:=[pW]) wT W8 (by grind[lB]) ?_;rintro⟨a,b⟩ ⟨⟨H,J⟩,r,q⟩;simp only at H J r q;refine NI (let h:=(0:Int);let m:=γc .i64;let q:=γu .i64;let r:=TP .i64;let E:Nat:=(MO a).length;let j:=(↑E:Int);let B:Nat:=(MO b).length;let n:=(↑B:Int);let u:=m (lg (bX a) (bX b));let y:=Ω (cj.i .u32) (MO a);let v:=Ω (cj.i .u32) (MO b);let l:Nat:=(MO a).length;let k:=(↑l:Int);let C:=m k;let o:=q 0;let c:=j - (1:Int);a.length<=1000000000000/\b.length<=1000000000000/\(decide (j≠n)=true->(decide (j<n)=true->(q (-1:Int)).bi u)/\(decide (j<n)=false->(q 1).bi u))/\(decide (j≠n)=false->(((y.bi y/\v.bi v/\(m j).bi C/\o.bi (m 0)/\True)/\True)/\h<=h/\h<=k/\γ3 (l - 0) (MO a)=γ3 (l - 0) (MO b))/\∀(x:Int),let e:=(c - x).toNat;let f:=bN (MO a) e h;let g:=bN (MO b) e h;let d:=x+(1:Int);let p:=m d;h<=x/\x<=k/\γ3 (l - x.toNat) (MO a)=γ3 (l - x.toNat) (MO b)->(decide (x<k)=true->r c/\r (c - x)/\h<=c - x/\c - x<j/\e<E/\h<=c - x/\c - x<n/\e<B/\(decide (f<g)=true->(q (-1:Int)).bi u)/\(decide (f<g)=false->h<=c - x/\c - x<j/\e<E/\h<=c - x/\c - x<n/\e<B/\(decide (g<f)=true->(q 1).bi u)/\(decide (g<f)=false->r d/\((y.bi y/\v.bi v/\C.bi C/\p.bi p/\True)/\True)/\(h<=d/\d<=k/\γ3 (l - d.toNat) (MO a)=γ3 (l - d.toNat) (MO b))/\(k - d).toNat<(k - x).toNat)))/\(decide (x<k)=false->o.bi u))) (by kernel_rfl) ?_;simp only[vcs];obtain⟨R,S⟩:=@pV a;obtain⟨O,N⟩:=@pV b;have z:=rb H;have w:=rb J;have W:=@sI a;rw[<-R,<-O];generalize MO a=s at*;generalize MO b=t at*;have G:bX s<bX t-> -1=lg (bX s) (bX t):=λh=>by simp_all[lg]
 have F:bX t<bX s->1=lg (bX s) (bX t):=λh=>by unfold lg;omega
 refine⟨r,q,λP=>⟨λh=>G (wU z w N (by omega)),λh=>F (wU w z S (by omega))⟩,λT=>⟨⟨by omega,by omega,?_⟩,?_⟩⟩;·rw[εd (by omega),εd (by omega)]
 rintro i ⟨U,X,A⟩;refine⟨λM=>?_,λQ=>?_⟩
 ·have K:((s.length:Int) - 1 - i).toNat=s.length - 1 - i.toNat:=by omega
  have D:s.length - i.toNat=s.length - 1 - i.toNat+1:=by omega
  rw[K];rw[D] at A;generalize V:s.length - 1 - i.toNat=m at*;refine⟨by omega,by omega,by omega,by omega,by omega,by omega,by omega,by omega,λh=>G (FA z w (by omega) (by omega) A h),λh=>⟨by omega,by omega,by omega,by omega,by omega,by omega,λI=>F (FA w z (by omega) (by omega) A.symm I),λI=>⟨by omega,⟨by omega,by omega,?_⟩,by omega⟩⟩⟩;rw[show s.length - (i+1).toNat=m by omega,AB (show m<s.length by omega),AB (show m<t.length by omega),A,show bN s m 0=bN t m 0 by omega]
 simp_all[lg]
def iJ (s t:List Int):Nat->Int
 |0=>0
 |i+1=>(bN s i 0+iJ s t i+bN t i 0) / 4294967296
def rk (s t:List Int) (i:Nat):Int:=(bN s i 0+iJ s t i+bN t i 0) % 4294967296
def nZ (s t:List Int) (i:Nat):List Int:=(Γ i).map (rk s t)++δ (s.length+1 - i) 0
def iP (a:List Int×List Int):List Int:=if a.1.length<a.2.length then a.2 else a.1
def kT (a:List Int×List Int):List Int:=if a.1.length<a.2.length then a.1 else a.2
def yT:NG:=⟨165,List Int×List Int,.cons (cP (.i .u32)) (.one (cP (.i .u32))),λa=>(ou a.1/\ou a.2)/\a.1.length<=100000000000/\a.2.length<=100000000000,λa=> .row (.i .u32) (bU (bX a.1+bX a.2))⟩
def W7 (a:List Int×List Int):Nat->bH
 |6=> .inv Int (λi=>⟨[(0,.row (.i .u32) (iP a)),(1,.row (.i .u32) (kT a)),(5,.ow 0 (nZ (iP a) (kT a) i.toNat).length 1),(6,.si .u64 (iJ (iP a) (kT a) i.toNat)),(21,.si .i64 (iP a).length),(22,.si .i64 i)],[.row (.i .u32) (nZ (iP a) (kT a) i.toNat) 172 true]⟩) (λs=>iS s 22)
  (λi=>0<=i/\i<=(iP a).length) (λi=>((iP a).length - i).toNat) λ_ _=> .look
 |_=> .look
theorem dH {a:List Int} (h:ou a) (i:Nat):0<=bN a i 0/\bN a i 0<4294967296:=by
 by_cases b:i<a.length;·rw[bR b];exact h _ (List.getElem_mem b)
 grind[bN]
theorem AA {a:List Int} {i:Nat} (h:a.length<=i):bN a i 0=0:=by grind[bN]
theorem Fz {s t:List Int} (b:ou s) (a:ou t):∀i,0<=iJ s t i/\iJ s t i<=1
 |0=>by simp[iJ];|i+1=>by have h:=Fz b a i;have c:=dH b i;have d:=dH a i;grind[iJ]
theorem wS {s t:List Int} {i:Nat} (h:i<=s.length):(nZ s t i).length=s.length+1:=by grind[nZ]
theorem Fy {s t:List Int} {i:Nat} {v:Int} (h:i<=s.length):(nZ s t i).set i v=(Γ i).map (rk s t)++v::δ (s.length - i) 0:=by
 unfold nZ;have a:s.length+1 - i=(s.length - i)+1:=by omega
 rw[a,List.replicate_succ];simp_all
theorem Nd {s t:List Int} {i:Nat} (h:i<s.length):nZ s t (i+1)=(nZ s t i).set i (rk s t i):=by rw[Fy (by omega)];unfold nZ;rw[εl,γb,List.append_assoc];simp_all
theorem lf {a:List Int} {i:Nat}:bX (a.take (i+1))=bX (a.take i)+4294967296^i*bN a i 0:=by
 by_cases h:i<a.length;·grind[zE,wV]
 ·rw[AA (by omega),γr (by omega),γr (by omega)];simp
theorem Fx {s t:List Int}:∀i,bX ((Γ i).map (rk s t))+4294967296^i*iJ s t i=bX (s.take i)+bX (t.take i)
 |0=>by simp[iJ,bX];|i+1=>by have a:=@Fx s t i;rw[εl,γb,ν,γv,wV,lf,lf,γW];grind[rk,iJ]
theorem uJ:Holds Tryz.prog yT:=by
 refine bI (L:=[pW]) yT W7 (by simpa using lB) ?_;rintro⟨a,b⟩ ⟨⟨ha,hb⟩,hla,hlb⟩;simp only at ha hb hla hlb;refine NI (let c:=(18446744073709551616:Int);let d:=(0:Int);let e:=(4294967296:Int);let f:=γc .i64;let g:=Ω;let h:=iZ.row;let j:=γZ;let m:=(↑(iP (a,b)).length:Int);let q:=(↑(iP (a,b)).length:Int);let r:=(↑(kT (a,b)).length:Int);let k:=cj.i .u32;let s:=g k (iP (a,b));let t:=g k (kT (a,b));let v:=f m;let z:=nZ (iP (a,b)) (kT (a,b)) 0;let G:=∀(x:Int),let l:=nZ (iP (a,b)) (kT (a,b)) x.toNat;let n:=l.length;let o:=x+(1:Int);let A:=nZ (iP (a,b)) (kT (a,b)) o.toNat;let B:=f o;let C:=bN (iP (a,b)) x.toNat d;let w:=iJ (iP (a,b)) (kT (a,b)) x.toNat;let y:=l.set q.toNat (w % e);let D:=λ(u J:Int) ↦let E:=(u % c+J) % c;d<=(32:Int)/\(32:Int)<=(64:Int)/\l.length=n/\d<=x/\x<(↑n:Int)/\l.length=n/\x.toNat<n/\TP .i64 o/\((s.bi s/\t.bi t/\(j 0 l.length 1).bi (j 0 A.length 1)/\(γc .u64 (E / e)).bi (γc .u64 (iJ (iP (a,b)) (kT (a,b)) o.toNat))/\v.bi v/\B.bi B/\True)/\(h k (l.set x.toNat (E % e)) 172 true).bi (h k A 172 true)/\True)/\(d<=o/\o<=m)/\(m - o).toNat<(m - x).toNat;d<=x/\x<=m->(decide (x<m)=true->d<=x/\x<q/\x.toNat<(iP (a,b)).length/\(decide (x<r)=true->d<=x/\x<r/\x.toNat<(kT (a,b)).length/\D (C % c+w) (bN (kT (a,b)) x.toNat d % c))/\(decide (x<r)=false->D C w))/\(decide (x<m)=false->l.length=n/\d<=q/\q<(↑n:Int)/\l.length=n/\q.toNat<n/\l.length=y.length/\y.length<=1000000000000/\(g k (MO y)).bi (g k (bU (bX a+bX b))));let F:=λ(u:Bool) (J u_2:List Int) ↦let p:=(↑J.length:Int)+(1:Int);decide ((↑a.length:Int)<(↑b.length:Int))=u->TP .i64 p/\d<=p/\p<=p/\p*(4:Int)<=(140737488355328:Int)/\p<=(1000000000000:Int)/\((((g k J).bi s/\(g k u_2).bi t/\(j 0 p.toNat 1).bi (j 0 z.length 1)/\(γu .u64 0).bi (γc .u64 (iJ (iP (a,b)) (kT (a,b)) 0))/\(f (↑J.length:Int)).bi v/\(γu .i64 0).bi (f 0)/\True)/\(h k (d::δ J.length d) 172 true).bi (h k z 172 true)/\True)/\d<=d/\d<=m)/\G;F true b a/\F false a b) (by kernel_rfl) ?_;simp only[vcs];have U:(a.length<b.length/\iP (a,b)=b/\kT (a,b)=a)\/(¬a.length<b.length/\iP (a,b)=a/\kT (a,b)=b):=by
  by_cases h:a.length<b.length;·exact .inl ⟨h,if_pos h,if_pos h⟩
  ·exact .inr ⟨h,if_neg h,if_neg h⟩
 generalize iP (a,b)=s at*;generalize kT (a,b)=t at*;have H:∀{u v:List Int},u=v->(iZ.row (.i .u32) u 172 true).bi (iZ.row (.i .u32) v 172 true):=by rintro _ _ rfl;rfl
 have K:∀{u v:Nat},u=v->(γZ 0 u 1).bi (γZ 0 v 1):=by rintro _ _ rfl;rfl
 have r0:∀u v:List Int,nZ u v 0=0::δ u.length 0:=λu v=>rfl;refine⟨λh=>?_,λh=>?_⟩
 ·obtain⟨h1,Y,X⟩:a.length<b.length/\s=b/\t=a:=by
   rcases U with O|O;·exact O
   ·exact absurd (by omega) O.1
  subst Y X;have T:ou s:=by assumption
  have S:ou t:=by assumption
  have Q:t.length<=s.length:=by omega
  have bd:=Fz T S;refine⟨⟨by omega,by omega⟩,by omega,by omega,by omega,by omega,⟨⟨⟨rfl,rfl,K (by rw[wS (by omega)];omega),rfl,rfl⟩,H (r0 s t).symm⟩,by omega⟩,?_⟩;rintro i ⟨i0,i1⟩;have l1:=@wS s t i.toNat (by omega);have b1:=bd i.toNat;have d1:=dH T i.toNat;have d2:=dH S i.toNat;refine⟨λP=>?_,λige=>?_⟩
  ·have l2:=@wS s t (i.toNat+1) (by omega);have e:(i+1).toNat=i.toNat+1:=by omega
   have N:=Nd (s:=s) (t:=t) (show i.toNat<s.length by omega);refine⟨i0,P,by omega,λR=>?_,λR=>?_⟩
   ·have I:(((bN s i.toNat 0 % 18446744073709551616+iJ s t i.toNat) % 18446744073709551616+bN t i.toNat 0 % 18446744073709551616) % 18446744073709551616)=bN s i.toNat 0+iJ s t i.toNat+bN t i.toNat 0:=by omega
    rw[I,e];exact⟨i0,R,by omega,by omega,by omega,i0,by omega,by omega,by omega,⟨⟨K (by omega),rfl⟩,H N.symm⟩,by omega⟩
   ·have hz:=AA (a:=t) (i:=i.toNat) (by omega);have I:((bN s i.toNat 0 % 18446744073709551616+iJ s t i.toNat) % 18446744073709551616)=bN s i.toNat 0+iJ s t i.toNat+bN t i.toNat 0:=by omega
    rw[I,e];exact⟨by omega,by omega,i0,by omega,by omega,by omega,⟨⟨K (by omega),rfl⟩,H N.symm⟩,by omega⟩
  ·have hi:i.toNat=s.length:=by omega
   have hc:iJ s t i.toNat % 4294967296=iJ s t i.toNat:=by omega
   rw[hc,γg,hi];rw[hi] at l1 b1;refine⟨by omega,by omega,by omega,by simp,by simp;omega,?_⟩;rw[Fy (π _),Nat.sub_self,ζa,pf ?_]
   ·rw[wV];have I:=@Fx s t s.length;rw[φ,γr Q] at I;have V:((Γ s.length).map (rk s t)).length=s.length:=by simp
    rw[V,I];try rw[ζW]
   ·intro d M;rcases γo.1 M with M|M
    ·obtain⟨j,_,rfl⟩:=Δ.1 M;unfold rk;omega
    ·rw[δy] at M;omega
 ·obtain⟨h1,Y,X⟩:¬a.length<b.length/\s=a/\t=b:=by
   rcases U with O|O;·exact absurd O.1 (by omega)
   ·exact O
  subst Y X;have T:ou s:=by assumption
  have S:ou t:=by assumption
  have Q:t.length<=s.length:=by omega
  have bd:=Fz T S;refine⟨⟨by omega,by omega⟩,by omega,by omega,by omega,by omega,⟨⟨⟨rfl,rfl,K (by rw[wS (by omega)];omega),rfl,rfl⟩,H (r0 s t).symm⟩,by omega⟩,?_⟩;rintro i ⟨i0,i1⟩;have l1:=@wS s t i.toNat (by omega);have b1:=bd i.toNat;have d1:=dH T i.toNat;have d2:=dH S i.toNat;refine⟨λP=>?_,λige=>?_⟩
  ·have l2:=@wS s t (i.toNat+1) (by omega);have e:(i+1).toNat=i.toNat+1:=by omega
   have N:=Nd (s:=s) (t:=t) (show i.toNat<s.length by omega);refine⟨i0,P,by omega,λR=>?_,λR=>?_⟩
   ·have I:(((bN s i.toNat 0 % 18446744073709551616+iJ s t i.toNat) % 18446744073709551616+bN t i.toNat 0 % 18446744073709551616) % 18446744073709551616)=bN s i.toNat 0+iJ s t i.toNat+bN t i.toNat 0:=by omega
    rw[I,e];exact⟨i0,R,by omega,by omega,by omega,i0,by omega,by omega,by omega,⟨⟨K (by omega),rfl⟩,H N.symm⟩,by omega⟩
   ·have hz:=AA (a:=t) (i:=i.toNat) (by omega);have I:((bN s i.toNat 0 % 18446744073709551616+iJ s t i.toNat) % 18446744073709551616)=bN s i.toNat 0+iJ s t i.toNat+bN t i.toNat 0:=by omega
    rw[I,e];exact⟨by omega,by omega,i0,by omega,by omega,by omega,⟨⟨K (by omega),rfl⟩,H N.symm⟩,by omega⟩
  ·have hi:i.toNat=s.length:=by omega
   have hc:iJ s t i.toNat % 4294967296=iJ s t i.toNat:=by omega
   rw[hc,γg,hi];rw[hi] at l1 b1;refine⟨by omega,by omega,by omega,by simp,by simp;omega,?_⟩;rw[Fy (π _),Nat.sub_self,ζa,pf ?_]
   ·rw[wV];have I:=@Fx s t s.length;rw[φ,γr Q] at I;have V:((Γ s.length).map (rk s t)).length=s.length:=by simp
    rw[V,I];try rw[ζW]
   ·intro d M;rcases γo.1 M with M|M
    ·obtain⟨j,_,rfl⟩:=Δ.1 M;unfold rk;omega
    ·rw[δy] at M;omega
def gp (d:Int):List Int->List Int×Int
 |[]=>([],0)
 |x::l=>(((gp d l).2*4294967296+x) / d::(gp d l).1,((gp d l).2*4294967296+x) % d)
theorem Nc {d:Int}:∀{a:List Int},(gp d a).1.length=a.length
 |[]=>rfl
 |x::l=>by simp[gp,Nc]
theorem Az {d:Int} (e:0<d) (k:d<4294967296):∀{a:List Int},ou a->ou (gp d a).1/\(0<=(gp d a).2/\(gp d a).2<d)/\bX (gp d a).1*d+(gp d a).2=bX a
 |[],_=>by grind[gp,bX];|x::l,h=>by
  obtain⟨n,g⟩:=iU.1 h;obtain⟨j,⟨p,s⟩,o⟩:=Az e k g;simp only[gp];generalize (gp d l).1=q at*;generalize (gp d l).2=r at*;have f:=δS (r*4294967296+x) (show d≠0 by omega);have i:=δp (r*4294967296+x) e;have c:0<=(r*4294967296+x) / d:=δ3 (by omega) (by omega);have b:(r*4294967296+x) / d<4294967296:=by refine Int.ediv_lt_of_lt_mul e ?_;omega
  refine⟨iU.2 ⟨⟨c,b⟩,j⟩,⟨f,i⟩,?_⟩;simp only[bX];have m:=εm (r*4294967296+x) d;grind
theorem W6 {d:Int} (i:0<d) (h:d<4294967296) {a:List Int} (g:ou a):MO (gp d a).1=bU (bX a / d)/\(gp d a).2=bX a % d:=by
 obtain⟨e,⟨c,b⟩,f⟩:=Az i h g;rw[pf e];have j:=eD e;have k:bX a / d=bX (gp d a).1:=by rw[<-f,ζW,Int.add_mul_ediv_right _ _ (by omega),εR c b,Int.zero_add]
 have l:bX a % d=(gp d a).2:=by rw[<-f,ζW,Int.add_mul_emod_self_right,δP c b]
 simp_all
theorem Gd {r x:Int} (d:0<=r) (g:r<4294967296) (a:0<=x) (e:x<4294967296):fm.orI .u64 (r*4294967296) x=r*4294967296+x:=by
 obtain⟨m,rfl⟩:=δJ d;obtain⟨k,rfl⟩:=δJ a;have b:(γq 64 ((m:Int)*4294967296)).toNat=2^32*m:=by grind[BitVec.toNat_ofInt]
 have c:(γq 64 (k:Int)).toNat=k:=by grind
 have f:(γq 64 ((m:Int)*4294967296) |||γq 64 (k:Int)).toNat=2^32*m+k:=by rw[BitVec.toNat_or,b,c,Nat.two_pow_add_eq_or_of_lt (by omega)]
 show ei .u64 ((γq 64 ((m:Int)*4294967296) |||γq 64 (k:Int)).toNat:Nat)=_;grind[sy,IntKind.wrap,IntKind.bits,IntKind.signed]
def Gc:NG:=⟨186,List Int×Int,.cons (cP (.i .u32)) (.one (dY .u32)),λa=>ou a.1/\a.1.length<=100000000000/\0<a.2/\a.2<4294967296,λa=> .IL [.row (.i .u32) (bU (bX a.1 / a.2)),.si .u32 (bX a.1 % a.2)]⟩
def kU (a:List Int) (d:Int) (i:Nat):List Int:=δ (a.length - i) 0++(gp d (a.drop (a.length - i))).1
def kF (a:List Int) (d:Int) (i:Nat):Int:=(gp d (a.drop (a.length - i))).2
def W5 (a:List Int×Int):Nat->bH
 |4=> .inv Int (λi=>⟨[(0,.row (.i .u32) a.1),(1,.si .u32 a.2),(6,.ow 0 (kU a.1 a.2 i.toNat).length 1),(7,.si .u64 (kF a.1 a.2 i.toNat)),(15,.si .i64 a.1.length),(16,.si .i64 i)],[.row (.i .u32) (kU a.1 a.2 i.toNat) 172 true]⟩) (λs=>iS s 16)
  (λi=>0<=i/\i<=a.1.length) (λi=>(a.1.length - i).toNat) λ_ _=> .look
 |_=> .look
theorem Gb {a:List Int} {d:Int} {i:Nat} (h:i<=a.length):(kU a d i).length=a.length:=by grind[kU,Nc]
theorem drop_cons {a:List Int} {k:Nat} (h:k<a.length):a.drop k=bN a k 0::a.drop (k+1):=AB h
theorem Nb {q:List Int} {y:Int}:∀k,(δ (k+1) 0++q).set k y=δ k 0++y::q
 |0=>by simp;|k+1=>by have:=@Nb q y k;grind
theorem u64_in {n:Int} (b:0<=n) (a:n<18446744073709551616):TP .u64 n:=by show IntKind.u64.wrap n=n;grind[IntKind.wrap,IntKind.bits,IntKind.signed]
theorem Ju:Holds Tryz.prog Gc:=by
 refine bI (L:=[pW]) Gc W5 (by simpa using lB) ?_;rintro⟨a,d⟩ ⟨B,T,d0,d1⟩;simp only at B T d0 d1;refine NI (let b:=(0:Int);let c:=(18446744073709551616:Int);let e:=(4294967296:Int);let f:=γc .i64;let g:=Ω;let h:=iZ.row;let j:=TP .i64;let k:=(1:Int);let l:=γZ;let n:=(↑a.length:Int);let o:=cj.i .u32;let q:=(↑a.length:Int);let t:=f q;let s:=d % c;b<=n/\n<=n/\n*(4:Int)<=(140737488355328:Int)/\n<=(1000000000000:Int)/\((((g o a).bi (g o a)/\(γc .u32 d).bi (γc .u32 d)/\(l 0 n.toNat 1).bi (l 0 (kU a d 0).length 1)/\(γu .u64 0).bi (γc .u64 (kF a d 0))/\(f n).bi t/\(γu .i64 0).bi (f 0)/\True)/\(h o (δ n.toNat b) 172 true).bi (h o (kU a d 0) 172 true)/\True)/\b<=b/\b<=q)/\∀(x:Int),let p:=n - k - x;let u:=fm.orI .u64 (kF a d x.toNat*e % c) (bN a p.toNat b % c);let m:=kU a d x.toNat;let r:=x+k;let v:=f r;b<=x/\x<=q->(decide (x<q)=true->j (n - k)/\j p/\b<=(32:Int)/\(32:Int)<=(64:Int)/\b<=p/\p<n/\p.toNat<a.length/\s≠b/\TP .u64 (u.tdiv s)/\s≠b/\m.length=m.length/\b<=p/\p<(↑m.length:Int)/\m.length=m.length/\p.toNat<m.length/\j r/\(((g o a).bi (g o a)/\(γc .u32 d).bi (γc .u32 d)/\(l 0 m.length 1).bi (l 0 (kU a d r.toNat).length 1)/\(γc .u64 (u.tmod s)).bi (γc .u64 (kF a d r.toNat))/\t.bi t/\v.bi v/\True)/\(h o (m.set p.toNat (u.tdiv s % e)) 172 true).bi (h o (kU a d r.toNat) 172 true)/\True)/\(b<=r/\r<=q)/\(q - r).toNat<(q - x).toNat)/\(decide (x<q)=false->m.length=m.length/\m.length<=1000000000000/\(SV.IL [g o (MO m),γc .u32 (kF a d x.toNat % e)]).bi (SV.IL [g o (bU (bX a / d)),γc .u32 (bX a % d)]))) (by kernel_rfl) ?_;simp only[vcs];have A:∀{u v:List Int},u=v->(iZ.row (.i .u32) u 172 true).bi (iZ.row (.i .u32) v 172 true):=by rintro _ _ rfl;rfl
 have E:∀{u v:Nat},u=v->(γZ 0 u 1).bi (γZ 0 v 1):=by rintro _ _ rfl;rfl
 have V:kU a d 0=δ a.length 0:=by simp[kU,gp]
 have z2:kF a d 0=0:=by simp[kF,gp]
 refine⟨by omega,by omega,by omega,by omega,⟨⟨⟨E (by rw[Gb (by omega)];omega),z2.symm⟩,A (by rw[V,γg])⟩,by omega⟩,?_⟩;rintro i ⟨i0,i1⟩;have l1:=@Gb a d i.toNat (by omega);have l2:=λh=>@Gb a d (i+1).toNat h;have dd:d % 18446744073709551616=d:=by omega
 refine⟨λilt=>?_,λige=>?_⟩
 ·have X:((a.length:Int) - 1 - i).toNat=a.length - 1 - i.toNat:=by omega
  have G:a.length - i.toNat=a.length - 1 - i.toNat+1:=by omega
  have F:a.length - (i+1).toNat=a.length - 1 - i.toNat:=by omega
  have N:kU a d i.toNat=δ (a.length - 1 - i.toNat+1) 0++(gp d (a.drop (a.length - 1 - i.toNat+1))).1:=by unfold kU;rw[G]
  have O:kF a d i.toNat=(gp d (a.drop (a.length - 1 - i.toNat+1))).2:=by unfold kF;rw[G]
  have w:kU a d (i+1).toNat=δ (a.length - 1 - i.toNat) 0++(gp d (a.drop (a.length - 1 - i.toNat))).1:=by unfold kU;rw[F]
  have y:kF a d (i+1).toNat=(gp d (a.drop (a.length - 1 - i.toNat))).2:=by unfold kF;rw[F]
  have R:a.length - 1 - i.toNat<a.length:=by omega
  rw[X];have l3:=l2 (by omega);generalize a.length - 1 - i.toNat=k at*;have U:=drop_cons R;have H:ou (a.drop k):=λz K=>B z (γY K);obtain⟨q1,W,q3⟩:=Az d0 d1 (a:=a.drop (k+1)) (λz K=>B z (γY K));obtain⟨I,J,p3⟩:=Az d0 d1 H;rw[U] at w y I J;simp only[gp] at w y I J;have C:=dH B k;rw[<-O] at w y I J W;have e1:kF a d i.toNat*4294967296 % 18446744073709551616=kF a d i.toNat*4294967296:=by omega
  have e2:bN a k 0 % 18446744073709551616=bN a k 0:=by omega
  rw[e1,e2,dd,Gd (by omega) (by omega) C.1 C.2];have D:0<=kF a d i.toNat*4294967296+bN a k 0:=by omega
  rw[ζg D,ζh D];have M:=(iU.1 I).1;have Q:(kF a d i.toNat*4294967296+bN a k 0) / d % 4294967296=(kF a d i.toNat*4294967296+bN a k 0) / d:=δP M.1 M.2;rw[Q];refine⟨by omega,by omega,by omega,by omega,by omega,by omega,by omega,by omega,u64_in M.1 (by omega),by omega,by omega,by omega,by omega,by omega,⟨⟨E (by omega),y.symm⟩,A ?_⟩,by omega⟩;rw[w,N,Nb]
 ·have hi:a.length - i.toNat=0:=by omega
  have N:kU a d i.toNat=(gp d a).1:=by unfold kU;rw[hi];simp
  have O:kF a d i.toNat=(gp d a).2:=by unfold kF;rw[hi];simp
  obtain⟨k1,k2⟩:=W6 d0 d1 B;have hm:=δS (bX a) (show d≠0 by omega);have hl:=δp (bX a) d0;refine⟨by omega,by rw[N,k1],?_⟩;rw[O,k2];omega
def gI:Nat->Int->List Int
 |0,_=>[]
 |k+1,x=>x % 4294967296::gI k (x / 4294967296)
theorem yS:∀{k:Nat} {x:Int},(gI k x).length=k
 |0,_=>rfl
 |k+1,x=>by simp[gI,yS]
theorem Ga:∀{k:Nat} {x:Int},ou (gI k x)
 |0,_=>by simp[gI,ou];|k+1,x=>iU.2 ⟨by omega,Ga⟩
theorem Na:∀{l:List Int},ou l->gI l.length (bX l)=l
 |[],_=>rfl
 |d::l,h=>by
  obtain⟨e,b⟩:=iU.1 h;simp only[γC,gI,bX];have c:(d+4294967296*bX l) % 4294967296=d:=by omega
  have a:(d+4294967296*bX l) / 4294967296=bX l:=by omega
  rw[c,a,Na b]
theorem F_ {l:List Int} {k:Nat} {x:Int} (h:ou l) (b:l.length=k) (a:bX l=x):l=gI k x:=by grind[Na]
theorem pow_pos (k:Nat):(0:Int)<4294967296^k:=δE (by decide)
theorem F9:∀{k:Nat} {x:Int},0<=x->x<4294967296^k->bX (gI k x)=x
 |0,x,b,a=>by grind[gI,bX];|k+1,x,b,a=>by rw[γW] at a;simp only[gI,bX];rw[F9 (k:=k) (x:=x / 4294967296) (by omega) (by omega)];omega
theorem F8:∀{a b:List Int},bX (a++b)=bX a+4294967296^a.length*bX b
 |[],b=>by simp[bX];|d::l,b=>by simp only[γL,bX,F8,γC,γW,εG];grind
theorem sH:∀{l:List Int} {j:Nat} {v:Int},j<l.length->bX (l.set j v)=bX l+4294967296^j*(v - bN l j 0)
 |[],_,_,h=>by simp at h;|d::l,0,v,_=>by grind[bX,bN];|d::l,j+1,v,h=>by have a:=@sH l j v (by simpa using h);grind[bN,bX]
theorem mu {l:List Int} {j:Nat} {v:Int} (h:ou l) (c:0<=v) (b:v<4294967296):ou (l.set j v):=by
 intro d a;rcases List.mem_or_eq_of_mem_set a with a|rfl;·exact h d a
 omega
theorem yR {a:List Int} (h:ou a) (n:Nat):ou (a.drop n):=λd b=>h d (γY b)
theorem M_ {a b:List Int} (e:ou a) (c:ou b):ou (a++b):=λd f=>by
 rcases γo.1 f with h|h;·exact e d h
 ·exact c d h
theorem ra {l:List Int} {j:Nat} {v:Int} (h:j<l.length):bN (l.set j v) j 0=v:=by grind[bN]
theorem ot {l:List Int} {i j:Nat} {v:Int} (h:i≠j):bN (l.set i v) j 0=bN l j 0:=by grind[bN]
theorem yQ:∀{l:List Int} {i j:Nat},ou l->bX l<4294967296^i->i<=j->bN l j 0=0
 |[],_,_,_,_,_=>by simp[bN];|d::l,0,j,h,a,c=>by
  obtain⟨e,b⟩:=iU.1 h;have:=eD b;simp only[bX,Int.pow_zero] at a;have f:d=0:=by omega
  have g:bX l=0:=by omega
  cases j with
  |zero=>simp[bN,f];|succ j=>
   have:=yQ (l:=l) (i:=0) (j:=j) b (by simp;omega) (by omega);grind[bN]
 |d::l,i+1,j,h,a,c=>by
  obtain⟨e,b⟩:=iU.1 h;cases j with
  |zero=>omega;|succ j=>
   rw[γW] at a;simp only[bX] at a;have:=yQ (l:=l) (i:=i) (j:=j) b (by omega) (by omega);grind[bN]
def gH (o b:List Int) (x:Int) (i:Nat):Nat->List Int×Int
 |0=>(o,0)
 |k+1=>((gH o b x i k).1.set (i+k) ((x*bN b k 0+bN (gH o b x i k).1 (i+k) 0+(gH o b x i k).2) % 4294967296),(x*bN b k 0+bN (gH o b x i k).1 (i+k) 0+(gH o b x i k).2) / 4294967296)
theorem M8 {o b:List Int} {x:Int} {i:Nat} (d:ou o) (g:ou b) (f:0<=x) (m:x<4294967296):∀{k:Nat},i+k<=o.length->
  ou (gH o b x i k).1/\(gH o b x i k).1.length=o.length/\(0<=(gH o b x i k).2/\(gH o b x i k).2<4294967296)/\(∀j,i+k<=j->bN (gH o b x i k).1 j 0=bN o j 0)/\
  bX (gH o b x i k).1+4294967296^(i+k)*(gH o b x i k).2=bX o+4294967296^i*(x*bX (b.take k))
 |0,h=>by simp[gH,d,bX];|k+1,h=>by obtain⟨l,t,⟨v,s⟩,u,r⟩:=@M8 o b x i d g f m k (by omega);simp only[gH];generalize (gH o b x i k).1=p at*;generalize (gH o b x i k).2=c at*;have a:=dH g k;have q:=dH l (i+k);have n:0<=x*bN b k 0:=γz f a.1;have e:x*bN b k 0<=4294967295*4294967295:=δL (by omega) (by omega) a.1 (by omega);grind[mu,sH,lf,bN]
def bM (U:List Int) (j k:Nat):List Int:=(U.drop j).take k
theorem M7 {U:List Int} {j k:Nat}:bN (U.drop j) k 0=bN U (j+k) 0:=by grind[bN]
theorem k_ {U:List Int} {j k:Nat}:bX (bM U j (k+1))=bX (bM U j k)+4294967296^k*bN U (j+k) 0:=by grind[bM,lf,M7]
theorem sG {U:List Int} {j k i:Nat} {d:Int} (h:k<=i):bM (U.set (j+i) d) j k=bM U j k:=by unfold bM;apply List.ext_getElem?;grind
theorem rW {U:List Int} (h:ou U) {j k:Nat}:ou (bM U j k):=mv (yR h j) k
theorem W4 {U:List Int} {j k:Nat} (h:j+k<=U.length):(bM U j k).length=k:=by grind[bM]
theorem ta {U:List Int} (h:ou U) {j k:Nat}:bX (bM U j k)<4294967296^k:=by
 have g:=ng (rW h (j:=j) (k:=k));have e:(bM U j k).length<=k:=by grind[bM]
 have i:(4294967296:Int)^(bM U j k).length<=4294967296^k:=by
  have d:∀{a b:Nat},a<=b->(4294967296:Int)^a<=4294967296^b:=λ{a b} c=>by obtain⟨m,rfl⟩:=Nat.exists_eq_add_of_le c;rw[Int.pow_add];have f:=pow_pos a;have l:=pow_pos m;have:=Ψ (show(1:Int)<=4294967296^m by omega) (γi f);omega
  exact d e
 omega
def iK (U:List Int) (j:Nat) (l:List Int):List Int:=U.take j++(l++U.drop (j+l.length))
theorem W3 {a b:List Int} (c:a.length=b.length) (h:∀m,bN a m 0=bN b m 0):a=b:=by apply List.ext_getElem c;intro m d e;have:=h m;grind[bR]
theorem NV {U l:List Int} {j:Nat} (h:j+l.length<=U.length):(iK U j l).length=U.length:=by grind[iK]
theorem W1 {U l:List Int} {j m:Nat} (h:j+l.length<=U.length):bN (iK U j l) m 0=if m<j then bN U m 0 else if m<j+l.length then bN l (m - j) 0 else bN U m 0:=by unfold iK bN;grind
theorem wR {U W:List Int} {j k:Nat} {x:Int} (d:ou W) (f:W.length=U.length) (g:j+k<=U.length) (e:∀m,(m<j\/j+k<=m)->bN W m 0=bN U m 0) (a:bX (bM W j k)=x):W=iK U j (gI k x):=by
 have b:bM W j k=gI k x:=F_ (rW d) (W4 (by omega)) a;have c:=@yS k x;apply W3;·grind[NV]
 ·intro m;rw[W1 (by omega),c];split;·simp_all
  ·split
   ·rw[<-b];unfold bM;have:bN ((W.drop j).take k) (m - j) 0=bN (W.drop j) (m - j) 0:=by unfold bN;grind
    grind[M7]
   simp_all
section
variable {P V X v1 v2 u2 top rv ru g r:Int}
theorem W0 (e:0<P) (n:V=rv+P*(v2+4294967296*v1)) (l:X=ru+P*(u2+4294967296*top)) (a:0<=rv) (f:ru<P) (d:X<4294967296*V) (b:0<=V)
  (c:0<=g) (j:g*v1+r=top) (h:4294967296<=g\/r*4294967296+u2<g*v2):X<g*V:=by
 rcases h with h|h;·exact Int.lt_of_lt_of_le d (γX h b)
 ·have k:g*V=g*rv+P*(g*v2+4294967296*(top - r)):=by grind
  have i:P*(u2+1+4294967296*top)<=P*(g*v2+4294967296*(top - r)):=Ψ (by omega) (γi e);have m:0<=g*rv:=γz c a;grind
theorem NU (c:0<P) (k:V=rv+P*(v2+4294967296*v1)) (n:X=ru+P*(u2+4294967296*top)) (a:0<=rv) (b:rv<P) (f:0<=ru) (e:2147483648<=v1) (j:0<=v2)
  (i:0<=g) (d:g<4294967296) (o:g*v1+r=top) (h:g*v2<=r*4294967296+u2):g*V<X+V:=by
 have m:g*V=g*rv+P*(g*v2+4294967296*(top - r)):=by grind
 have q:P*(g*v2+4294967296*(top - r))<=P*(u2+4294967296*top):=Ψ (by omega) (γi c);have p:g*rv<=4294967295*rv:=γX (by omega) a;have l:P*4294967296<=P*(v2+4294967296*v1):=Ψ (by omega) (γi c);omega
theorem WZ (c:0<P) (p:V=rv+P*(v2+4294967296*v1)) (k:X=ru+P*(u2+4294967296*top)) (b:0<=rv) (e:ru<P) (a:0<=v2) (f:u2<4294967296)
  (d:0<=g) (o:g*v1+r=top) (l:r<v1):X<(g+1)*V:=by
 have n:(g+1)*V=(g+1)*rv+((g+1)*(P*v2)+P*(4294967296*((g+1)*v1))):=by grind
 have j:0<=(g+1)*rv:=γz (by omega) b;have h:0<=(g+1)*(P*v2):=γz (by omega) (γz (γi c) a);have i:top+1<=(g+1)*v1:=by grind
 have m:P*(u2+1+4294967296*top)<=P*(4294967296*((g+1)*v1)):=Ψ (by omega) (γi c);grind
theorem WY {b a:Int} (c:0<P) (l:V=rv+P*(v2+4294967296*v1)) (k:X=ru+P*(u2+4294967296*(b+4294967296*a))) (d:rv<P) (f:0<=ru) (e:0<=u2) (i:0<=b) (j:v2<4294967296)
  (g:X<4294967296*V):a<=v1:=by
 by_cases h:a<=v1;·exact h
 ·exfalso;have m:P*(4294967296*(4294967296*(v1+1)))<=P*(u2+4294967296*(b+4294967296*a)):=Ψ (by omega) (γi c);have n:P*(v2+4294967296*v1)<=P*(4294967296*(v1+1) - 1):=Ψ (by omega) (γi c);grind
theorem s_ {X V q:Int} (e:q*V<=X) (c:X<(q+1)*V):X / V=q/\X % V=X - q*V:=by
 rw[Int.add_mul,εa] at c;have d:0<V:=by omega
 have b:X=(X - q*V)+V*q:=by grind
 have a:X / V=q:=by
  conv=>lhs;rw[b]
  rw[Int.add_mul_ediv_left _ _ (by omega),εR (by omega) (by omega),Int.zero_add]
 refine⟨a,?_⟩;rw[Int.emod_def,a,δ7]
end
theorem F7 {p:Int} (a:0<=p) (e:p<18446744073709551616):fm.arT .u64 p 4294967295=p % 4294967296:=by
 obtain⟨m,rfl⟩:=δJ a;have b:(γq 64 ((m:Nat):Int)).toNat=m:=by grind
 have c:(γq 64 4294967295).toNat=4294967295:=by simp_all
 have d:(γq 64 ((m:Nat):Int) &&&γq 64 4294967295).toNat=m % 4294967296:=by rw[BitVec.toNat_and,b,c];exact Nat.and_two_pow_sub_one_eq_mod m 32
 show ei .u64 ((γq 64 ((m:Nat):Int) &&&γq 64 4294967295).toNat:Nat)=_;grind[sy,IntKind.wrap,IntKind.bits]
theorem F6 {U W v:List Int} {j i:Nat} {g c b d e:Int} (n:ou W) (f:W.length=U.length) (o:ou v) (h:0<=g) (r:g<4294967296) (y:0<=c) (t:c<4294967296) (s:0<=b) (q:b<=1) (u:j+i<U.length)
  (l:∀m,(m<j\/j+i<=m)->bN W m 0=bN U m 0)
  (k:bX (bM W j i)=bX (bM U j i) - g*bX (v.take i)+4294967296^i*(c+b))
  (a:0<=d/\d<4294967296) (w:d - 4294967296*e=bN W (j+i) 0 - (g*bN v i 0+c) % 4294967296 - b):
  ou (W.set (j+i) d)/\(W.set (j+i) d).length=U.length/\(0<=(g*bN v i 0+c) / 4294967296/\(g*bN v i 0+c) / 4294967296<4294967296)/\
  (∀m,(m<j\/j+(i+1)<=m)->bN (W.set (j+i) d) m 0=bN U m 0)/\
  bX (bM (W.set (j+i) d) j (i+1))=bX (bM U j (i+1)) - g*bX (v.take (i+1))+4294967296^(i+1)*((g*bN v i 0+c) / 4294967296+e):=by have x:=dH o i;have z:0<=g*bN v i 0:=γz h x.1;have p:g*bN v i 0<=4294967295*4294967295:=δL (by omega) (by omega) x.1 (by omega);refine⟨mu n a.1 a.2,by simp[f],by omega,λm A=>by grind[ot],?_⟩;have B:=l (j+i) (.inr (π _));rw[k_,k_,sG (π _),ra (by omega),k,lf,γW];grind
theorem F5 {U W v:List Int} {j i:Nat} {c s:Int} (a:ou W) (d:W.length=U.length) (b:ou v) (n:0<=c) (l:c<=1) (h:j+i<U.length) (g:ou U)
  (e:∀m,(m<j\/j+i<=m)->bN W m 0=bN U m 0)
  (k:bX (bM W j i)+4294967296^i*c=bX (bM U j i)+bX (v.take i)) (o:s=bN W (j+i) 0+bN v i 0+c):
  ou (W.set (j+i) (s % 4294967296))/\(W.set (j+i) (s % 4294967296)).length=U.length/\(0<=s / 4294967296/\s / 4294967296<=1)/\
  (∀m,(m<j\/j+(i+1)<=m)->bN (W.set (j+i) (s % 4294967296)) m 0=bN U m 0)/\
  bX (bM (W.set (j+i) (s % 4294967296)) j (i+1))+4294967296^(i+1)*(s / 4294967296)=bX (bM U j (i+1))+bX (v.take (i+1)):=by have x:=dH b i;have y:=dH a (j+i);refine⟨mu a (by omega) (by omega),by simp[d],by omega,λm p=>by grind[ot],?_⟩;have f:=e (j+i) (.inr (π _));rw[k_,k_,sG (π _),ra (by omega),lf,γW];grind
theorem WX {v:List Int} {n:Nat} (a:2<=n) (b:v.length=n):bX v=bX (v.take (n - 2))+4294967296^(n - 2)*(bN v (n - 2) 0+4294967296*bN v (n - 1) 0):=by obtain⟨m,rfl⟩:∃m,n=m+2:=⟨n - 2,by omega⟩;grind[lf]
theorem WW {U:List Int} {j n:Nat} (a:2<=n):bX (bM U j (n+1))=bX (bM U j (n - 2))+4294967296^(n - 2)*(bN U (j+(n - 2)) 0+4294967296*(bN U (j+(n - 1)) 0+4294967296*bN U (j+n) 0)):=by obtain⟨m,rfl⟩:∃m,n=m+2:=⟨n - 2,by omega⟩;grind[k_]
structure mO where
 U:List Int
 j:Nat
 len:Nat
 n:Nat
 v:List Int
def mO.x (a:mO):Int:=bX (bM a.U a.j (a.v.length+1))
def mO.ok (a:mO):Prop:=(ou a.U/\ou a.v)/\(a.len=a.v.length+1/\a.n=a.U.length)/\(2<=a.v.length/\a.j+a.v.length+1<=a.U.length/\a.U.length<=200000000000)/\
 2147483648<=bN a.v (a.v.length - 1) 0/\a.x<4294967296*bX a.v
def mO.row (a:mO):List Int:=iK a.U a.j (gI (a.v.length+1) (a.x % bX a.v))
def F4:cC where
 f:=188;α:=mO;put a:=[.oc 0 a.j a.len a.n 1,.row (.i .u32) a.v];st a:=[.row (.i .u32) a.U 172 false];dec v o:=match v,o with
  |[.oc 0 j len n 1,v],[.row t l 172 false]=>match fZ (.i .u32) v,gX t (.i .u32) l with
   |some v,some l=>some ⟨l,j,len,n,v⟩
   |_,_=>none
  |_,_=>none;ok v o a h:=by
  split at h
  ·split at h
   next h1 c=>simp only[γ] at h;subst h;obtain⟨rfl,r⟩:=lU c;cases r;exact⟨by simp only[gL,jF h1],rfl⟩
   ·cases h
  ·cases h
 inj a b h1 c:=by
  obtain⟨U,j,len,n,v⟩:=a;obtain⟨u,p,e,y,v'⟩:=b;simp only[gL,χ,and_true] at h1;obtain⟨g1,g2⟩:=h1;have s:=(cP (.i .u32)).inj _ _ g2;simp only[ε8,AV.os.injEq,true_and,cj.sz,Nat.mul_one] at g1;simp only[gO,ν,γv,iZ.g,χ,OL.cells.injEq,and_true] at c;have q:U=u:=by have d:=congrArg List.length c;rw[eh,eh] at d;exact kK (.i .u32) (by simpa[cj.sz] using d) c
  obtain⟨w,m,k⟩:=g1;subst k;have:j=p:=by omega
  rw[s,q,m,this]
 dom:=mO.ok;res a:=.si .u32 (a.x / bX a.v);out a:=[.row (.i .u32) a.row 172 false]
def F3 (U:List Int):VI:=[.row (.i .u32) U 172 false]
def WV (a:mO):Nat->bH
 |4=> .inv (Int×Int) (λx=>⟨[(0,.oc 0 a.j a.len a.n 1),(1,.row (.i .u32) a.v),(5,.si .i64 a.v.length),(7,.si .u64 x.1),(8,.si .u64 x.2)],F3 a.U⟩) (λs=>(iS s 7,iS s 8))
  (λx=>(0<=x.1/\x.1<=4294967297)/\(0<=x.2/\x.2<4294967296)/\x.1*bN a.v (a.v.length - 1) 0+x.2=bN a.U (a.j+(a.v.length - 1)) 0+4294967296*bN a.U (a.j+a.v.length) 0/\a.x<(x.1+1)*bX a.v) (λx=>x.1.toNat) λ_ _=> .look
 |10=> .inv (Int×Int×Int×Int×List Int) (λx=>⟨[(0,.oc 0 a.j a.len a.n 1),(1,.row (.i .u32) a.v),(5,.si .i64 a.v.length),(7,.si .u64 x.2.1),(9,.si .u64 x.2.2.1),(10,.si .u64 x.2.2.2.1),(82,.si .i64 a.v.length),(83,.si .i64 x.1)],F3 x.2.2.2.2⟩)
  (λs=>(iS s 83,iS s 7,iS s 9,iS s 10,oS (.i .u32) s 0))
  (λx=>(0<=x.1/\x.1<=a.v.length)/\(0<=x.2.1/\x.2.1<4294967296)/\(a.x<(x.2.1+1)*bX a.v/\x.2.1*bX a.v<a.x+bX a.v)/\(0<=x.2.2.1/\x.2.2.1<4294967296)/\(0<=x.2.2.2.1/\x.2.2.2.1<=1)/\(ou x.2.2.2.2/\x.2.2.2.2.length=a.U.length)/\
   (∀m,(m<a.j\/a.j+x.1.toNat<=m)->bN x.2.2.2.2 m 0=bN a.U m 0)/\
   bX (bM x.2.2.2.2 a.j x.1.toNat)=bX (bM a.U a.j x.1.toNat) - x.2.1*bX (a.v.take x.1.toNat)+4294967296^x.1.toNat*(x.2.2.1+x.2.2.2.1)) (λx=>(a.v.length - x.1).toNat) λ_ _=> .look
 |23=> .inv (Int×Int×Int×List Int) (λx=>⟨[(0,.oc 0 a.j a.len a.n 1),(1,.row (.i .u32) a.v),(5,.si .i64 a.v.length),(7,.si .u64 x.2.1),(9,.si .u64 x.2.2.1),(134,.si .i64 a.v.length),(135,.si .i64 x.1)],F3 x.2.2.2⟩)
  (λs=>(iS s 135,iS s 7,iS s 9,oS (.i .u32) s 0))
  (λx=>(0<=x.1/\x.1<=a.v.length)/\(0<=x.2.1/\x.2.1<4294967296)/\(a.x<x.2.1*bX a.v/\x.2.1*bX a.v<a.x+bX a.v)/\(0<=x.2.2.1/\x.2.2.1<=1)/\(ou x.2.2.2/\x.2.2.2.length=a.U.length)/\
   ∃W,(ou W/\W.length=a.U.length)/\(∀m,(m<a.j\/a.j+(a.v.length+1)<=m)->bN W m 0=bN a.U m 0)/\bX (bM W a.j (a.v.length+1))=a.x - x.2.1*bX a.v+4294967296^(a.v.length+1)/\
    (∀m,(m<a.j\/a.j+x.1.toNat<=m)->bN x.2.2.2 m 0=bN W m 0)/\bX (bM x.2.2.2 a.j x.1.toNat)+4294967296^x.1.toNat*x.2.2.1=bX (bM W a.j x.1.toNat)+bX (a.v.take x.1.toNat))
  (λx=>(a.v.length - x.1).toNat) λ_ _=> .look
 |_=> .look
theorem Js:dp Tryz.prog F4:=by
 refine jE (L:=[]) (W:=[]) F4 WV (by simp) (by simp) ?_;rintro⟨U,j,len,n,v⟩ ⟨⟨hU,hv⟩,⟨e1,e2⟩,⟨hn,hj,hlU⟩,hv1,hx⟩;simp only at hU hv hn hj hlU hv1 hx e1 e2;subst e1 e2;refine NI (let a:=(18446744073709551616:Int);let b:=(0:Int);let c:=(4294967296:Int);let d:=(1:Int);let e:=Ω;let f:=γc .i64;let g:=(32:Int);let h:=TP .i64;let k:=(9223372036854775808:Int);let l:=(4294967297:Int);let n:=(64:Int);let o:=iZ.row;let p:=γu .i64 0;let q:=(63:Int);let r:=γu .i64;let D:=(↑v.length:Int);let y:=v.length+1;let F:=(↑y:Int);let B:=D - d;let Q:=bN v B.toNat b % a;let a7:=fm.orI .u64 (bN U (j+D.toNat) 0 % a*c % a) (bN U (j+B.toNat) 0 % a);let K:=a7.tdiv Q;let C:=SV.oc 0 j y U.length 1;let w:=cj.i .u32;let s:=(↑v.length:Int);let t:=f s;let a8:=γc .u64 K;let R:=a7.tmod Q;let a9:=γc .u64 R;let J:=o w U 172 false;let aa:=v.length - 1;let a3:=bN v aa b;let a4:=bN U (j+aa) 0+c*bN U (j+v.length) 0;let ab:=mO.mk U j y U.length v;let E:=ab.x;let L:=s - d;let aJ:=bN v L.toNat b % a;let M:=E+bX v;let S:=bX (bM U j 0);let I:=j+s.toNat;let ac:=γc .u32 (E / bX v);let ad:=o w ab.row 172 false;let ae:=c^y;let H:=s - (2:Int);U.length=U.length/\b<=D/\D<F/\j+y<=U.length/\U.length=U.length/\j+D.toNat<U.length/\b<=g/\g<=n/\h B/\U.length=U.length/\b<=B/\B<F/\j+y<=U.length/\U.length=U.length/\j+B.toNat<U.length/\h B/\b<=B/\B<D/\B.toNat<v.length/\Q≠b/\TP .u64 K/\h B/\b<=B/\B<D/\B.toNat<v.length/\Q≠b/\(((C.bi C/\(e w v).bi (e w v)/\(f D).bi t/\a8.bi a8/\a9.bi a9/\True)/\J.bi J/\True)/\(b<=K/\K<=l)/\(b<=R/\R<c)/\K*a3+R=a4/\E<(K+d)*bX v)/\∀(x:Int×Int),let N:=(x.2+aJ) % a;let af:=decide (c<=N);let G:=(x.1 - d) % a;let T:=γc .u64 G;let ag:=γc .u64 N;let ah:=decide (c<=x.1);let ai:=γc .u64 x.1;let aj:=∀(x:Int×Int×Int×Int×List Int),let V:=x.2.1*bX v;let z:=x.2.2.2.2;let X:=x.2.2.2.1;let Y:=x.2.2.1;let ak:=((bN z I b % a - Y) % a - X) % a;let O:=j+x.1.toNat;let Z:=x.1+d;let a0:=γc .u64 x.2.1;let al:=(x.2.1*(bN v x.1.toNat b % a) % a+Y) % a;let am:=al / c;let an:=γc .u64 am;let ao:=fm.arT .u64 al (4294967295:Int);let ap:=((bN z O b % a - ao) % a - X) % a;let aq:=ap / k;let ar:=γc .u64 aq;let au:=f Z;let P:=z.set I (ak % c);let av:=λ(u u_1 u_2:Int) (u_3:List Int) ↦(b<=u/\u<=s)/\(b<=x.2.1/\x.2.1<c)/\(E<(x.2.1+d)*bX v/\V<M)/\(b<=u_1/\u_1<c)/\(b<=u_2/\u_2<=d)/\(ou u_3/\u_3.length=U.length)/\(∀(m:Nat),m<j\/j+u.toNat<=m->bN u_3 m b=bN U m b)/\bX (bM u_3 j u.toNat)=bX (bM U j u.toNat) - x.2.1*bX (Ξ u.toNat v)+c^u.toNat*(u_1+u_2);let aw:=λ(u:Nat) (u_1:Int) ↦let ax:=o w (z.set u (((bN z u b % a - u_1) % a - X) % a % c)) 172 false;ax.bi ax/\True;let ay:=λ(u:Bool) ↦decide (ak / k=b)=u;av x.1 Y X z->(decide (x.1<s)=true->b<=x.1/\x.1<D/\x.1.toNat<v.length/\b<=g/\g<=n/\U.length=z.length/\b<=x.1/\x.1<F/\j+y<=U.length/\U.length=z.length/\O<z.length/\b<=q/\q<=n/\U.length=z.length/\b<=x.1/\x.1<F/\j+y<=U.length/\U.length=z.length/\O<z.length/\h Z/\((C.bi C/\(e w v).bi (e w v)/\t.bi t/\a0.bi a0/\an.bi an/\ar.bi ar/\t.bi t/\au.bi au/\True)/\aw O ao)/\av Z am aq (z.set O (ap % c))/\(s - Z).toNat<(s - x.1).toNat)/\(decide (x.1<s)=false->U.length=z.length/\b<=s/\s<F/\j+y<=U.length/\U.length=z.length/\I<z.length/\U.length=z.length/\b<=s/\s<F/\j+y<=U.length/\U.length=z.length/\I<z.length/\b<=q/\q<=n/\(ay true->(γc .u32 (x.2.1 % c)).bi ac/\(o w P 172 false).bi ad/\True)/\(ay false->(((C.bi C/\(e w v).bi (e w v)/\t.bi t/\a0.bi a0/\(γu .u64 0).bi (γc .u64 0)/\t.bi t/\(p).bi (f 0)/\True)/\aw I Y)/\(b<=b/\b<=s)/\(b<=x.2.1/\x.2.1<c)/\(E<V/\V<M)/\(b<=b/\b<=d)/\(ou P/\P.length=U.length)/\∃(W:List Int),(ou W/\W.length=U.length)/\(∀(m:Nat),m<j\/j+y<=m->bN W m b=bN U m b)/\bX (bM W j y)=E - V+ae/\(∀(m:Nat),m<j\/j+0<=m->bN P m b=bN W m b)/\bX (bM P j 0)+b=bX (bM W j 0)+bX [])/\∀(x:Int×Int×Int×List Int),let a5:=x.2.1*bX v;let a6:=x.2.2.1;let A:=x.2.2.2;let a1:=j+x.1.toNat;let a2:=x.1+d;let az:=γc .u64 x.2.1;let aA:=((bN A a1 b % a+bN v x.1.toNat b % a) % a+a6) % a;let aB:=aA / c;let aC:=γc .u64 aB;let aD:=f a2;let aE:=A.set a1 (aA % c);let aF:=o w aE 172 false;let aG:=λ(u u_1:Int) (u_2:List Int) ↦(b<=u/\u<=s)/\(b<=x.2.1/\x.2.1<c)/\(E<a5/\a5<M)/\(b<=u_1/\u_1<=d)/\(ou u_2/\u_2.length=U.length)/\∃(W:List Int),(ou W/\W.length=U.length)/\(∀(m:Nat),m<j\/j+y<=m->bN W m b=bN U m b)/\bX (bM W j y)=E - a5+ae/\(∀(m:Nat),m<j\/j+u.toNat<=m->bN u_2 m b=bN W m b)/\bX (bM u_2 j u.toNat)+c^u.toNat*u_1=bX (bM W j u.toNat)+bX (Ξ u.toNat v);aG x.1 a6 A->(decide (x.1<s)=true->U.length=A.length/\b<=x.1/\x.1<F/\j+y<=U.length/\U.length=A.length/\a1<A.length/\b<=x.1/\x.1<D/\x.1.toNat<v.length/\b<=g/\g<=n/\U.length=A.length/\b<=x.1/\x.1<F/\j+y<=U.length/\U.length=A.length/\a1<A.length/\h a2/\((C.bi C/\(e w v).bi (e w v)/\t.bi t/\az.bi az/\aC.bi aC/\t.bi t/\aD.bi aD/\True)/\aF.bi aF/\True)/\aG a2 aB aE/\(s - a2).toNat<(s - x.1).toNat)/\(decide (x.1<s)=false->U.length=A.length/\b<=s/\s<F/\j+y<=U.length/\U.length=A.length/\I<A.length/\U.length=A.length/\b<=s/\s<F/\j+y<=U.length/\U.length=A.length/\I<A.length/\(γc .u32 ((x.2.1 - d) % a % c)).bi ac/\(o w (A.set I ((bN A I b+a6 % c) % c)) 172 false).bi ad/\True)));let aH:=h L/\b<=L/\L<D/\L.toNat<v.length/\(af=true->(((C.bi C/\(e w v).bi (e w v)/\t.bi t/\T.bi T/\(γu .u64 0).bi (γc .u64 0)/\(γu .u64 0).bi (γc .u64 0)/\t.bi t/\(p).bi (f 0)/\True)/\J.bi J/\True)/\(b<=b/\b<=s)/\(b<=G/\G<c)/\(E<(G+d)*bX v/\G*bX v<M)/\(b<=b/\b<c)/\(b<=b/\b<=d)/\(ou U/\U.length=U.length)/\(∀(m:Nat),m<j\/j+0<=m->bN U m b=bN U m b)/\S=S - G*bX []+b)/\aj)/\(af=false->((C.bi C/\(e w v).bi (e w v)/\t.bi t/\T.bi T/\ag.bi ag/\True)/\J.bi J/\True)/\((b<=G/\G<=l)/\(b<=N/\N<c)/\G*a3+N=a4/\E<(G+d)*bX v)/\G.toNat<x.1.toNat);let aI:=λ(u:Bool) ↦decide (fm.orI .u64 (x.2*c % a) (bN U (j+H.toNat) 0 % a)<x.1*(bN v H.toNat b % a) % a)=u;(b<=x.1/\x.1<=l)/\(b<=x.2/\x.2<c)/\x.1*a3+x.2=a4/\E<(x.1+d)*bX v->(ah=true->aH)/\(ah=false->h H/\b<=H/\H<D/\H.toNat<v.length/\b<=g/\g<=n/\h H/\U.length=U.length/\b<=H/\H<F/\j+y<=U.length/\U.length=U.length/\j+H.toNat<U.length/\(aI true->aH)/\(aI false->(((C.bi C/\(e w v).bi (e w v)/\t.bi t/\ai.bi ai/\(γu .u64 0).bi (γc .u64 0)/\(γu .u64 0).bi (γc .u64 0)/\t.bi t/\(p).bi (f 0)/\True)/\J.bi J/\True)/\(b<=b/\b<=s)/\(b<=x.1/\x.1<c)/\(E<(x.1+d)*bX v/\x.1*bX v<M)/\(b<=b/\b<c)/\(b<=b/\b<=d)/\(ou U/\U.length=U.length)/\(∀(m:Nat),m<j\/j+0<=m->bN U m b=bN U m b)/\S=S - x.1*bX []+b)/\aj))) (by kernel_rfl) ?_;simp only[vcs];have t1:((v.length:Int) - 1).toNat=v.length - 1:=by omega
 have t2:((v.length:Int) - 2).toNat=v.length - 2:=by omega
 have t3:((v.length:Int)).toNat=v.length:=by omega
 have hVe:=WX hn rfl;have hXe:=@WW U j v.length hn;have dv1:=dH hv (v.length - 1);have dv2:=dH hv (v.length - 2);have du0:=dH hU (j+v.length);have du1:=dH hU (j+(v.length - 1));have du2:=dH hU (j+(v.length - 2));have m1:bN v (v.length - 1) 0 % 18446744073709551616=bN v (v.length - 1) 0:=by omega
 have m2:bN v (v.length - 2) 0 % 18446744073709551616=bN v (v.length - 2) 0:=by omega
 have m3:bN U (j+v.length) 0 % 18446744073709551616=bN U (j+v.length) 0:=by omega
 have m4:bN U (j+(v.length - 1)) 0 % 18446744073709551616=bN U (j+(v.length - 1)) 0:=by omega
 have m5:bN U (j+(v.length - 2)) 0 % 18446744073709551616=bN U (j+(v.length - 2)) 0:=by omega
 have m6:bN U (j+v.length) 0*4294967296 % 18446744073709551616=bN U (j+v.length) 0*4294967296:=by omega
 have hor:=Gd du0.1 du0.2 du1.1 du1.2;have htop:0<=bN U (j+v.length) 0*4294967296+bN U (j+(v.length - 1)) 0:=by omega
 have hx':bX (bM U j (v.length+1))<4294967296*bX v:=hx;have hP:=pow_pos (v.length - 2);have hrv:=eD (mv hv (v.length - 2));have aw9:=ng (mv hv (v.length - 2));rw[γx,Nat.min_eq_left (by omega)] at aw9;have hru:=eD (rW hU (j:=j) (k:=v.length - 2));have aDN:=ta hU (j:=j) (k:=v.length - 2);have hV0:=eD hv;have hX0:=eD (rW hU (j:=j) (k:=v.length+1));have htp:=WY hP hVe hXe aw9 hru du2.1 du1.1 dv2.2 hx';have hax:(mO.mk U j (v.length+1) U.length v).x=bX (bM U j (v.length+1)):=rfl;simp only[hax,t1,t2,t3,m1,m2,m3,m4,m5,m6,hor,ζg htop,ζh htop];generalize aTB:bN v (v.length - 1) 0=v1 at*;generalize aTC:bN v (v.length - 2) 0=v2 at*;generalize baB:bN U (j+v.length) 0=u0 at*;generalize aTD:bN U (j+(v.length - 1)) 0=u1 at*;generalize aTE:bN U (j+(v.length - 2)) 0=u2 at*;have hqr:=εm (u0*4294967296+u1) v1;have hr0:=δS (u0*4294967296+u1) (show v1≠0 by omega);have hr1:=δp (u0*4294967296+u1) (show 0<v1 by omega);have hg0:0<=(u0*4294967296+u1) / v1:=δ3 htop (by omega);generalize hge:(u0*4294967296+u1) / v1=g0 at*;generalize hre:(u0*4294967296+u1) % v1=r0 at*;have hg1:g0<=4294967297:=by
  by_cases h:g0<=4294967297;·exact h
  ·exfalso;have:=Ψ (show(4294967298:Int)<=g0 by omega) (show 0<=v1 by omega);omega
 have aKD:g0*v1+r0=u1+4294967296*u0:=by rw[δ7 g0];omega
 have hst:=WZ hP hVe hXe hrv aDN dv2.1 du2.2 hg0 aKD hr1;have hin:TP .u64 g0:=u64_in hg0 (by omega);repeat refine γk (by omega) ?_
 clear t1 t2 t3 m1 m2 m3 m4 m5 m6 hor htop hge hre hqr hr0 hr1 hg0 hg1 aKD hst hin aTB aTC aTD aTE hx;rintro⟨g,r⟩ ⟨⟨g0',g1'⟩,⟨r0',r1'⟩,hgr,hgx⟩;simp only at g0' g1' r0' r1' hgr hgx ⊢;have azE:0<g+1:=by omega
 have e1:(r+v1) % 18446744073709551616=r+v1:=by omega
 have e2:r*4294967296 % 18446744073709551616=r*4294967296:=by omega
 have gv0:0<=g*v2:=γz g0' dv2.1;have gv1:g*v2<=4294967297*4294967295:=δL (by omega) (by omega) dv2.1 (by omega);have e3:g*v2 % 18446744073709551616=g*v2:=by omega
 have hor2:=Gd r0' r1' du2.1 du2.2;have aDO:g*v1+r=u1+4294967296*u0:=hgr;have aKE:4294967296<=r+v1->g<=4294967296:=λh=>by
  by_cases hg:g<=4294967296;·exact hg
  ·have:g=4294967297:=by omega
   subst this;omega
 have dec:(4294967296<=g\/r*4294967296+u2<g*v2)->(bX (bM U j (v.length+1))<g*bX v/\(g - 1) % 18446744073709551616=g - 1/\0<=g - 1/\(g - 1)*v1+(r+v1)=u1+4294967296*u0):=λh=>by
  have h1:=W0 hP hVe hXe hrv aDN hx' hV0 g0' aDO h;have h2:g≠0:=by rintro rfl;omega
  refine⟨h1,by omega,by omega,?_⟩;rw[ζ9,εa];omega
 simp only[e1,e2,e3,hor2];have brk:(4294967296<=g\/r*4294967296+u2<g*v2)->4294967296<=r+v1->∃gg,gg=(g - 1) % 18446744073709551616/\(0<=gg/\gg<4294967296)/\bX (bM U j (v.length+1))<(gg+1)*bX v/\gg*bX v<bX (bM U j (v.length+1))+bX v:=λh hb=>by obtain⟨k1,k2,k3,k4⟩:=dec h;have k5:=aKE hb;rw[k2];refine⟨_,rfl,by omega,by rw[show g - 1+1=g by omega];exact k1,NU hP hVe hXe hrv aw9 hru hv1 dv2.1 k3 (by omega) k4 ?_⟩;have:=δL (show g - 1<=4294967295 by omega) (show v2<=4294967295 by omega) dv2.1 (by omega);omega
 have nbr:(4294967296<=g\/r*4294967296+u2<g*v2)->¬4294967296<=r+v1->(0<=(g - 1) % 18446744073709551616/\(g - 1) % 18446744073709551616<=4294967297)/\(g - 1) % 18446744073709551616*v1+(r+v1)=u1+4294967296*u0/\bX (bM U j (v.length+1))<((g - 1) % 18446744073709551616+1)*bX v/\((g - 1) % 18446744073709551616).toNat<g.toNat:=λh hb=>by obtain⟨k1,k2,k3,k4⟩:=dec h;rw[k2];exact⟨by omega,k4,by rw[show g - 1+1=g by omega];exact k1,by omega⟩
 have ext:¬4294967296<=g->¬r*4294967296+u2<g*v2->∃gg,gg=g/\(0<=gg/\gg<4294967296)/\bX (bM U j (v.length+1))<(gg+1)*bX v/\gg*bX v<bX (bM U j (v.length+1))+bX v:=λh h2=>
  ⟨_,rfl,by omega,hgx,NU hP hVe hXe hrv aw9 hru hv1 dv2.1 g0' (by omega) aDO (by omega)⟩;clear aDO azE e1 e2 e3 gv0 gv1 hor2 hVe hXe hrv aw9 hru aDN aKE dec htp;refine⟨λhB=>?_,λhB=>?_⟩
 ·refine⟨by omega,by omega,by omega,by omega,?_⟩;refine⟨λhb=>?_,λhb=>?_⟩
  ·obtain⟨gg,hgg,f0,f2,f3⟩:=brk (.inl hB) hb;rw[<-hgg];clear hB hb;clear hgg brk nbr ext hgx hgr;refine⟨?_,?_⟩
   ·repeat' refine γk ?_ ?_
    all_goals first|omega|exact hU|exact f2|exact f3|exact λ_ _=>trivial|(simp only[bX];omega)
   clear f0 f2 f3;rintro⟨i,ga,c,b,R⟩ ⟨⟨i0,i1⟩,⟨ga0,ga1⟩,⟨f2,f3⟩,⟨c0,c1⟩,⟨b0,b1⟩,⟨hR,hRl⟩,ho,he⟩;simp only at i0 i1 ga0 ga1 f2 f3 c0 c1 b0 b1 hR hRl ho he ⊢;refine⟨λilt=>?_,λige=>?_⟩
   ·have x:=dH hv i.toNat;have y:=dH hR (j+i.toNat);have gx0:0<=ga*bN v i.toNat 0:=γz ga0 x.1;have gx1:ga*bN v i.toNat 0<=4294967295*4294967295:=δL (by omega) (by omega) x.1 (by omega);have q1:bN v i.toNat 0 % 18446744073709551616=bN v i.toNat 0:=by omega
    have q2:bN R (j+i.toNat) 0 % 18446744073709551616=bN R (j+i.toNat) 0:=by omega
    have q3:(ga*bN v i.toNat 0 % 18446744073709551616+c) % 18446744073709551616=ga*bN v i.toNat 0+c:=by omega
    have hi1:(i+1).toNat=i.toNat+1:=by omega
    rw[q1,q2,q3,F7 (by omega) (by omega),hi1];generalize hq:((bN R (j+i.toNat) 0 - (ga*bN v i.toNat 0+c) % 4294967296) % 18446744073709551616 - b) % 18446744073709551616=q;obtain⟨k1,k2,k3,k4,k5⟩:=F6 (d:=q % 4294967296) (e:=q / 9223372036854775808) hR hRl hv ga0 ga1 c0 c1 b0 b1 (show j+i.toNat<U.length by omega) ho he (by omega) (by omega);repeat' refine γk ?_ ?_
    all_goals first|omega|exact k1|exact k2|exact k3|exact k4|exact k5|exact f2|exact f3
   ·have hi:i.toNat=v.length:=by omega
    rw[hi,φ] at he;rw[hi] at ho;have hun:=ho (j+v.length) (.inr (π _));have du:=dH hU (j+v.length);have q2:bN R (j+v.length) 0 % 18446744073709551616=bN R (j+v.length) 0:=by rw[hun];omega
    have hXs:=@k_ U j v.length;rw[q2];generalize hq:((bN R (j+v.length) 0 - c) % 18446744073709551616 - b) % 18446744073709551616=q;have alZ:ou (R.set (j+v.length) (q % 4294967296)):=mu hR (by omega) (by omega);have hlen:(R.set (j+v.length) (q % 4294967296)).length=U.length:=by simp[hRl]
    have hout:∀m,(m<j\/j+(v.length+1)<=m)->bN (R.set (j+v.length) (q % 4294967296)) m 0=bN U m 0:=λm hm=>by rw[ot (by omega)];exact ho m (by omega)
    have hval:bX (bM (R.set (j+v.length) (q % 4294967296)) j (v.length+1))=bX (bM U j (v.length+1)) - ga*bX v+4294967296^(v.length+1)*(q / 9223372036854775808):=by
     rw[k_,sG (π _),ra (by omega),he,hXs,γW];have hd:q % 4294967296 - 4294967296*(q / 9223372036854775808)=bN U (j+v.length) 0 - c - b:=by rw[hun] at hq;omega
     generalize (4294967296:Int)^v.length=B;have e:B*4294967296*(q / 9223372036854775808)=B*(q % 4294967296+c+b - bN U (j+v.length) 0):=by rw[δm];congr 1;omega
     rw[e];simp only[εG,εU];omega
    generalize hW:R.set (j+v.length) (q % 4294967296)=W at*;have hbd:=ta alZ (j:=j) (k:=v.length+1);have hnn:=eD (rW alZ (j:=j) (k:=v.length+1));have q3:0<=q/\q<18446744073709551616:=by omega
    clear hq hun du q2 he ho hR;repeat refine γk (by omega) ?_
    refine⟨λhz=>?_,λhz=>?_⟩
    ·rw[hz,δM,εo] at hval;obtain⟨w1,w2⟩:=s_ (q:=ga) (show ga*bX v<=bX (bM U j (v.length+1)) by omega) f2;refine⟨by rw[w1];omega,?_⟩;have hfin:W=iK U j (gI (v.length+1) (bX (bM U j (v.length+1)) % bX v)):=wR alZ hlen (by omega) hout (by rw[hval,w2]);rw[hfin];rfl
    ·have hq1:q / 9223372036854775808=1:=by omega
     rw[hq1,ζb] at hval;have f4:bX (bM U j (v.length+1))<ga*bX v:=by omega
     refine⟨?_,?_⟩
     ·repeat' refine γk ?_ ?_
      all_goals first|omega|exact alZ|exact hlen|exact⟨W,⟨alZ,hlen⟩,hout,hval,λ_ _=>rfl,by simp only[bX]⟩
     clear alZ hlen hout hval hW hbd hnn q3 hz hq1 f4 f2 f3 c0 c1 b0 b1 i0 i1 ga0 ga1;rintro⟨i2,gb,c2,R2⟩ ⟨⟨i0,i1⟩,⟨gb0,gb1⟩,⟨f5,f6⟩,⟨c0,c1⟩,⟨hR2,apQ⟩,W2,⟨hW2,asc⟩,ho2,hvW,ho3,he3⟩;simp only at i0 i1 gb0 gb1 f5 f6 c0 c1 hR2 apQ ho3 he3 ⊢;refine⟨λilt=>?_,λige=>?_⟩
     ·have x:=dH hv i2.toNat;have y:=dH hR2 (j+i2.toNat);have hi1:(i2+1).toNat=i2.toNat+1:=by omega
      rw[hi1];have hs:((bN R2 (j+i2.toNat) 0 % 18446744073709551616+bN v i2.toNat 0 % 18446744073709551616) % 18446744073709551616+c2) % 18446744073709551616=bN R2 (j+i2.toNat) 0+bN v i2.toNat 0+c2:=by omega
      rw[hs];obtain⟨k1,k2,k3,k4,k5⟩:=F5 hR2 (apQ.trans asc.symm) hv c0 c1 (show j+i2.toNat<W2.length by omega) hW2 ho3 he3 rfl;repeat' refine γk ?_ ?_
      all_goals first|omega|exact k1|exact f5|exact f6|exact⟨W2,⟨hW2,asc⟩,ho2,hvW,k4,k5⟩
     ·have hi2:i2.toNat=v.length:=by omega
      rw[hi2,φ] at he3;rw[hi2] at ho3;have hun:=ho3 (j+v.length) (.inr (π _));have du:=dH hW2 (j+v.length);have hXs:=@k_ W2 j v.length;have hc2:c2 % 4294967296=c2:=by omega
      rw[hc2,hun];have hF:ou (R2.set (j+v.length) ((bN W2 (j+v.length) 0+c2) % 4294967296)):=mu hR2 (by omega) (by omega);have hFl:(R2.set (j+v.length) ((bN W2 (j+v.length) 0+c2) % 4294967296)).length=U.length:=by simp[apQ]
      have hFo:∀m,(m<j\/j+(v.length+1)<=m)->bN (R2.set (j+v.length) ((bN W2 (j+v.length) 0+c2) % 4294967296)) m 0=bN U m 0:=λm hm=>by rw[ot (by omega),ho3 m (by omega)];exact ho2 m hm
      have hFv:bX (bM (R2.set (j+v.length) ((bN W2 (j+v.length) 0+c2) % 4294967296)) j (v.length+1))=bX (bM U j (v.length+1)) - gb*bX v+4294967296^(v.length+1)+bX v - 4294967296^(v.length+1)*((bN W2 (j+v.length) 0+c2) / 4294967296):=by
       rw[k_,sG (π _),ra (by omega),<-hvW,hXs,γW];generalize (4294967296:Int)^v.length=B at*;have e:B*4294967296*((bN W2 (j+v.length) 0+c2) / 4294967296)=B*(bN W2 (j+v.length) 0+c2 - (bN W2 (j+v.length) 0+c2) % 4294967296):=by rw[δm];congr 1;omega
       rw[e];simp only[εG,εU];omega
      have hbd:=ta hF (j:=j) (k:=v.length+1);have hk:(bN W2 (j+v.length) 0+c2) / 4294967296=1:=by
       by_cases h:(bN W2 (j+v.length) 0+c2) / 4294967296=1;·exact h
       ·have h0:(bN W2 (j+v.length) 0+c2) / 4294967296=0:=by omega
        rw[h0,δM] at hFv;omega
      rw[hk,ζb] at hFv;have e1:(gb - 1)*bX v=gb*bX v - bX v:=by rw[ζ9,εa]
      obtain⟨w1,w2⟩:=s_ (q:=gb - 1) (show(gb - 1)*bX v<=bX (bM U j (v.length+1)) by omega) (by rw[show gb - 1+1=gb by omega];exact f5);have azE:0<gb:=by
       by_cases h:0<gb;·exact h
       ·have:gb=0:=by omega
        subst this;omega
      have hfin:R2.set (j+v.length) ((bN W2 (j+v.length) 0+c2) % 4294967296)=iK U j (gI (v.length+1) (bX (bM U j (v.length+1)) % bX v)):=wR hF hFl (by omega) hFo (by rw[hFv,w2,e1];omega);repeat refine γk (by omega) ?_
      rw[hfin];rfl
  ·obtain⟨k1,k2,k3,k4⟩:=nbr (.inl hB) hb;repeat' refine γk ?_ ?_
   all_goals first|omega|exact k2|exact k3
 ·repeat refine γk (by omega) ?_
  refine⟨λhc=>?_,λhc=>?_⟩
  ·repeat refine γk (by omega) ?_
   refine⟨λhb=>?_,λhb=>?_⟩
   ·obtain⟨gg,hgg,f0,f2,f3⟩:=brk (.inr hc) hb;rw[<-hgg];clear hB hb hc;clear hgg brk nbr ext hgx hgr;refine⟨?_,?_⟩
    ·repeat' refine γk ?_ ?_
     all_goals first|omega|exact hU|exact f2|exact f3|exact λ_ _=>trivial|(simp only[bX];omega)
    clear f0 f2 f3;rintro⟨i,ga,c,b,R⟩ ⟨⟨i0,i1⟩,⟨ga0,ga1⟩,⟨f2,f3⟩,⟨c0,c1⟩,⟨b0,b1⟩,⟨hR,hRl⟩,ho,he⟩;simp only at i0 i1 ga0 ga1 f2 f3 c0 c1 b0 b1 hR hRl ho he ⊢;refine⟨λilt=>?_,λige=>?_⟩
    ·have x:=dH hv i.toNat;have y:=dH hR (j+i.toNat);have gx0:0<=ga*bN v i.toNat 0:=γz ga0 x.1;have gx1:ga*bN v i.toNat 0<=4294967295*4294967295:=δL (by omega) (by omega) x.1 (by omega);have q1:bN v i.toNat 0 % 18446744073709551616=bN v i.toNat 0:=by omega
     have q2:bN R (j+i.toNat) 0 % 18446744073709551616=bN R (j+i.toNat) 0:=by omega
     have q3:(ga*bN v i.toNat 0 % 18446744073709551616+c) % 18446744073709551616=ga*bN v i.toNat 0+c:=by omega
     have hi1:(i+1).toNat=i.toNat+1:=by omega
     rw[q1,q2,q3,F7 (by omega) (by omega),hi1];generalize hq:((bN R (j+i.toNat) 0 - (ga*bN v i.toNat 0+c) % 4294967296) % 18446744073709551616 - b) % 18446744073709551616=q;obtain⟨k1,k2,k3,k4,k5⟩:=F6 (d:=q % 4294967296) (e:=q / 9223372036854775808) hR hRl hv ga0 ga1 c0 c1 b0 b1 (show j+i.toNat<U.length by omega) ho he (by omega) (by omega);repeat' refine γk ?_ ?_
     all_goals first|omega|exact k1|exact k2|exact k3|exact k4|exact k5|exact f2|exact f3
    ·have hi:i.toNat=v.length:=by omega
     rw[hi,φ] at he;rw[hi] at ho;have hun:=ho (j+v.length) (.inr (π _));have du:=dH hU (j+v.length);have q2:bN R (j+v.length) 0 % 18446744073709551616=bN R (j+v.length) 0:=by rw[hun];omega
     have hXs:=@k_ U j v.length;rw[q2];generalize hq:((bN R (j+v.length) 0 - c) % 18446744073709551616 - b) % 18446744073709551616=q;have alZ:ou (R.set (j+v.length) (q % 4294967296)):=mu hR (by omega) (by omega);have hlen:(R.set (j+v.length) (q % 4294967296)).length=U.length:=by simp[hRl]
     have hout:∀m,(m<j\/j+(v.length+1)<=m)->bN (R.set (j+v.length) (q % 4294967296)) m 0=bN U m 0:=λm hm=>by rw[ot (by omega)];exact ho m (by omega)
     have hval:bX (bM (R.set (j+v.length) (q % 4294967296)) j (v.length+1))=bX (bM U j (v.length+1)) - ga*bX v+4294967296^(v.length+1)*(q / 9223372036854775808):=by
      rw[k_,sG (π _),ra (by omega),he,hXs,γW];have hd:q % 4294967296 - 4294967296*(q / 9223372036854775808)=bN U (j+v.length) 0 - c - b:=by rw[hun] at hq;omega
      generalize (4294967296:Int)^v.length=B;have e:B*4294967296*(q / 9223372036854775808)=B*(q % 4294967296+c+b - bN U (j+v.length) 0):=by rw[δm];congr 1;omega
      rw[e];simp only[εG,εU];omega
     generalize hW:R.set (j+v.length) (q % 4294967296)=W at*;have hbd:=ta alZ (j:=j) (k:=v.length+1);have hnn:=eD (rW alZ (j:=j) (k:=v.length+1));have q3:0<=q/\q<18446744073709551616:=by omega
     clear hq hun du q2 he ho hR;repeat refine γk (by omega) ?_
     refine⟨λhz=>?_,λhz=>?_⟩
     ·rw[hz,δM,εo] at hval;obtain⟨w1,w2⟩:=s_ (q:=ga) (show ga*bX v<=bX (bM U j (v.length+1)) by omega) f2;refine⟨by rw[w1];omega,?_⟩;have hfin:W=iK U j (gI (v.length+1) (bX (bM U j (v.length+1)) % bX v)):=wR alZ hlen (by omega) hout (by rw[hval,w2]);rw[hfin];rfl
     ·have hq1:q / 9223372036854775808=1:=by omega
      rw[hq1,ζb] at hval;have f4:bX (bM U j (v.length+1))<ga*bX v:=by omega
      refine⟨?_,?_⟩
      ·repeat' refine γk ?_ ?_
       all_goals first|omega|exact alZ|exact hlen|exact⟨W,⟨alZ,hlen⟩,hout,hval,λ_ _=>rfl,by simp only[bX]⟩
      clear alZ hlen hout hval hW hbd hnn q3 hz hq1 f4 f2 f3 c0 c1 b0 b1 i0 i1 ga0 ga1;rintro⟨i2,gb,c2,R2⟩ ⟨⟨i0,i1⟩,⟨gb0,gb1⟩,⟨f5,f6⟩,⟨c0,c1⟩,⟨hR2,apQ⟩,W2,⟨hW2,asc⟩,ho2,hvW,ho3,he3⟩;simp only at i0 i1 gb0 gb1 f5 f6 c0 c1 hR2 apQ ho3 he3 ⊢;refine⟨λilt=>?_,λige=>?_⟩
      ·have x:=dH hv i2.toNat;have y:=dH hR2 (j+i2.toNat);have hi1:(i2+1).toNat=i2.toNat+1:=by omega
       rw[hi1];have hs:((bN R2 (j+i2.toNat) 0 % 18446744073709551616+bN v i2.toNat 0 % 18446744073709551616) % 18446744073709551616+c2) % 18446744073709551616=bN R2 (j+i2.toNat) 0+bN v i2.toNat 0+c2:=by omega
       rw[hs];obtain⟨k1,k2,k3,k4,k5⟩:=F5 hR2 (apQ.trans asc.symm) hv c0 c1 (show j+i2.toNat<W2.length by omega) hW2 ho3 he3 rfl;repeat' refine γk ?_ ?_
       all_goals first|omega|exact k1|exact f5|exact f6|exact⟨W2,⟨hW2,asc⟩,ho2,hvW,k4,k5⟩
      ·have hi2:i2.toNat=v.length:=by omega
       rw[hi2,φ] at he3;rw[hi2] at ho3;have hun:=ho3 (j+v.length) (.inr (π _));have du:=dH hW2 (j+v.length);have hXs:=@k_ W2 j v.length;have hc2:c2 % 4294967296=c2:=by omega
       rw[hc2,hun];have hF:ou (R2.set (j+v.length) ((bN W2 (j+v.length) 0+c2) % 4294967296)):=mu hR2 (by omega) (by omega);have hFl:(R2.set (j+v.length) ((bN W2 (j+v.length) 0+c2) % 4294967296)).length=U.length:=by simp[apQ]
       have hFo:∀m,(m<j\/j+(v.length+1)<=m)->bN (R2.set (j+v.length) ((bN W2 (j+v.length) 0+c2) % 4294967296)) m 0=bN U m 0:=λm hm=>by rw[ot (by omega),ho3 m (by omega)];exact ho2 m hm
       have hFv:bX (bM (R2.set (j+v.length) ((bN W2 (j+v.length) 0+c2) % 4294967296)) j (v.length+1))=bX (bM U j (v.length+1)) - gb*bX v+4294967296^(v.length+1)+bX v - 4294967296^(v.length+1)*((bN W2 (j+v.length) 0+c2) / 4294967296):=by
        rw[k_,sG (π _),ra (by omega),<-hvW,hXs,γW];generalize (4294967296:Int)^v.length=B at*;have e:B*4294967296*((bN W2 (j+v.length) 0+c2) / 4294967296)=B*(bN W2 (j+v.length) 0+c2 - (bN W2 (j+v.length) 0+c2) % 4294967296):=by rw[δm];congr 1;omega
        rw[e];simp only[εG,εU];omega
       have hbd:=ta hF (j:=j) (k:=v.length+1);have hk:(bN W2 (j+v.length) 0+c2) / 4294967296=1:=by
        by_cases h:(bN W2 (j+v.length) 0+c2) / 4294967296=1;·exact h
        ·have h0:(bN W2 (j+v.length) 0+c2) / 4294967296=0:=by omega
         rw[h0,δM] at hFv;omega
       rw[hk,ζb] at hFv;have e1:(gb - 1)*bX v=gb*bX v - bX v:=by rw[ζ9,εa]
       obtain⟨w1,w2⟩:=s_ (q:=gb - 1) (show(gb - 1)*bX v<=bX (bM U j (v.length+1)) by omega) (by rw[show gb - 1+1=gb by omega];exact f5);have azE:0<gb:=by
        by_cases h:0<gb;·exact h
        ·have:gb=0:=by omega
         subst this;omega
       have hfin:R2.set (j+v.length) ((bN W2 (j+v.length) 0+c2) % 4294967296)=iK U j (gI (v.length+1) (bX (bM U j (v.length+1)) % bX v)):=wR hF hFl (by omega) hFo (by rw[hFv,w2,e1];omega);repeat refine γk (by omega) ?_
       rw[hfin];rfl
   ·obtain⟨k1,k2,k3,k4⟩:=nbr (.inr hc) hb;repeat' refine γk ?_ ?_
    all_goals first|omega|exact k2|exact k3
  ·obtain⟨gg,hgg,f0,f2,f3⟩:=ext hB hc;rw[<-hgg];clear hB hc;clear hgg brk nbr ext hgx hgr;refine⟨?_,?_⟩
   ·repeat' refine γk ?_ ?_
    all_goals first|omega|exact hU|exact f2|exact f3|exact λ_ _=>trivial|(simp only[bX];omega)
   clear f0 f2 f3;rintro⟨i,ga,c,b,R⟩ ⟨⟨i0,i1⟩,⟨ga0,ga1⟩,⟨f2,f3⟩,⟨c0,c1⟩,⟨b0,b1⟩,⟨hR,hRl⟩,ho,he⟩;simp only at i0 i1 ga0 ga1 f2 f3 c0 c1 b0 b1 hR hRl ho he ⊢;refine⟨λilt=>?_,λige=>?_⟩
   ·have x:=dH hv i.toNat;have y:=dH hR (j+i.toNat);have gx0:0<=ga*bN v i.toNat 0:=γz ga0 x.1;have gx1:ga*bN v i.toNat 0<=4294967295*4294967295:=δL (by omega) (by omega) x.1 (by omega);have q1:bN v i.toNat 0 % 18446744073709551616=bN v i.toNat 0:=by omega
    have q2:bN R (j+i.toNat) 0 % 18446744073709551616=bN R (j+i.toNat) 0:=by omega
    have q3:(ga*bN v i.toNat 0 % 18446744073709551616+c) % 18446744073709551616=ga*bN v i.toNat 0+c:=by omega
    have hi1:(i+1).toNat=i.toNat+1:=by omega
    rw[q1,q2,q3,F7 (by omega) (by omega),hi1];generalize hq:((bN R (j+i.toNat) 0 - (ga*bN v i.toNat 0+c) % 4294967296) % 18446744073709551616 - b) % 18446744073709551616=q;obtain⟨k1,k2,k3,k4,k5⟩:=F6 (d:=q % 4294967296) (e:=q / 9223372036854775808) hR hRl hv ga0 ga1 c0 c1 b0 b1 (show j+i.toNat<U.length by omega) ho he (by omega) (by omega);repeat' refine γk ?_ ?_
    all_goals first|omega|exact k1|exact k2|exact k3|exact k4|exact k5|exact f2|exact f3
   ·have hi:i.toNat=v.length:=by omega
    rw[hi,φ] at he;rw[hi] at ho;have hun:=ho (j+v.length) (.inr (π _));have du:=dH hU (j+v.length);have q2:bN R (j+v.length) 0 % 18446744073709551616=bN R (j+v.length) 0:=by rw[hun];omega
    have hXs:=@k_ U j v.length;rw[q2];generalize hq:((bN R (j+v.length) 0 - c) % 18446744073709551616 - b) % 18446744073709551616=q;have alZ:ou (R.set (j+v.length) (q % 4294967296)):=mu hR (by omega) (by omega);have hlen:(R.set (j+v.length) (q % 4294967296)).length=U.length:=by simp[hRl]
    have hout:∀m,(m<j\/j+(v.length+1)<=m)->bN (R.set (j+v.length) (q % 4294967296)) m 0=bN U m 0:=λm hm=>by rw[ot (by omega)];exact ho m (by omega)
    have hval:bX (bM (R.set (j+v.length) (q % 4294967296)) j (v.length+1))=bX (bM U j (v.length+1)) - ga*bX v+4294967296^(v.length+1)*(q / 9223372036854775808):=by
     rw[k_,sG (π _),ra (by omega),he,hXs,γW];have hd:q % 4294967296 - 4294967296*(q / 9223372036854775808)=bN U (j+v.length) 0 - c - b:=by rw[hun] at hq;omega
     generalize (4294967296:Int)^v.length=B;have e:B*4294967296*(q / 9223372036854775808)=B*(q % 4294967296+c+b - bN U (j+v.length) 0):=by rw[δm];congr 1;omega
     rw[e];simp only[εG,εU];omega
    generalize hW:R.set (j+v.length) (q % 4294967296)=W at*;have hbd:=ta alZ (j:=j) (k:=v.length+1);have hnn:=eD (rW alZ (j:=j) (k:=v.length+1));have q3:0<=q/\q<18446744073709551616:=by omega
    clear hq hun du q2 he ho hR;repeat refine γk (by omega) ?_
    refine⟨λhz=>?_,λhz=>?_⟩
    ·rw[hz,δM,εo] at hval;obtain⟨w1,w2⟩:=s_ (q:=ga) (show ga*bX v<=bX (bM U j (v.length+1)) by omega) f2;refine⟨by rw[w1];omega,?_⟩;have hfin:W=iK U j (gI (v.length+1) (bX (bM U j (v.length+1)) % bX v)):=wR alZ hlen (by omega) hout (by rw[hval,w2]);rw[hfin];rfl
    ·have hq1:q / 9223372036854775808=1:=by omega
     rw[hq1,ζb] at hval;have f4:bX (bM U j (v.length+1))<ga*bX v:=by omega
     refine⟨?_,?_⟩
     ·repeat' refine γk ?_ ?_
      all_goals first|omega|exact alZ|exact hlen|exact⟨W,⟨alZ,hlen⟩,hout,hval,λ_ _=>rfl,by simp only[bX]⟩
     clear alZ hlen hout hval hW hbd hnn q3 hz hq1 f4 f2 f3 c0 c1 b0 b1 i0 i1 ga0 ga1;rintro⟨i2,gb,c2,R2⟩ ⟨⟨i0,i1⟩,⟨gb0,gb1⟩,⟨f5,f6⟩,⟨c0,c1⟩,⟨hR2,apQ⟩,W2,⟨hW2,asc⟩,ho2,hvW,ho3,he3⟩;simp only at i0 i1 gb0 gb1 f5 f6 c0 c1 hR2 apQ ho3 he3 ⊢;refine⟨λilt=>?_,λige=>?_⟩
     ·have x:=dH hv i2.toNat;have y:=dH hR2 (j+i2.toNat);have hi1:(i2+1).toNat=i2.toNat+1:=by omega
      rw[hi1];have hs:((bN R2 (j+i2.toNat) 0 % 18446744073709551616+bN v i2.toNat 0 % 18446744073709551616) % 18446744073709551616+c2) % 18446744073709551616=bN R2 (j+i2.toNat) 0+bN v i2.toNat 0+c2:=by omega
      rw[hs];obtain⟨k1,k2,k3,k4,k5⟩:=F5 hR2 (apQ.trans asc.symm) hv c0 c1 (show j+i2.toNat<W2.length by omega) hW2 ho3 he3 rfl;repeat' refine γk ?_ ?_
      all_goals first|omega|exact k1|exact f5|exact f6|exact⟨W2,⟨hW2,asc⟩,ho2,hvW,k4,k5⟩
     ·have hi2:i2.toNat=v.length:=by omega
      rw[hi2,φ] at he3;rw[hi2] at ho3;have hun:=ho3 (j+v.length) (.inr (π _));have du:=dH hW2 (j+v.length);have hXs:=@k_ W2 j v.length;have hc2:c2 % 4294967296=c2:=by omega
      rw[hc2,hun];have hF:ou (R2.set (j+v.length) ((bN W2 (j+v.length) 0+c2) % 4294967296)):=mu hR2 (by omega) (by omega);have hFl:(R2.set (j+v.length) ((bN W2 (j+v.length) 0+c2) % 4294967296)).length=U.length:=by simp[apQ]
      have hFo:∀m,(m<j\/j+(v.length+1)<=m)->bN (R2.set (j+v.length) ((bN W2 (j+v.length) 0+c2) % 4294967296)) m 0=bN U m 0:=λm hm=>by rw[ot (by omega),ho3 m (by omega)];exact ho2 m hm
      have hFv:bX (bM (R2.set (j+v.length) ((bN W2 (j+v.length) 0+c2) % 4294967296)) j (v.length+1))=bX (bM U j (v.length+1)) - gb*bX v+4294967296^(v.length+1)+bX v - 4294967296^(v.length+1)*((bN W2 (j+v.length) 0+c2) / 4294967296):=by
       rw[k_,sG (π _),ra (by omega),<-hvW,hXs,γW];generalize (4294967296:Int)^v.length=B at*;have e:B*4294967296*((bN W2 (j+v.length) 0+c2) / 4294967296)=B*(bN W2 (j+v.length) 0+c2 - (bN W2 (j+v.length) 0+c2) % 4294967296):=by rw[δm];congr 1;omega
       rw[e];simp only[εG,εU];omega
      have hbd:=ta hF (j:=j) (k:=v.length+1);have hk:(bN W2 (j+v.length) 0+c2) / 4294967296=1:=by
       by_cases h:(bN W2 (j+v.length) 0+c2) / 4294967296=1;·exact h
       ·have h0:(bN W2 (j+v.length) 0+c2) / 4294967296=0:=by omega
        rw[h0,δM] at hFv;omega
      rw[hk,ζb] at hFv;have e1:(gb - 1)*bX v=gb*bX v - bX v:=by rw[ζ9,εa]
      obtain⟨w1,w2⟩:=s_ (q:=gb - 1) (show(gb - 1)*bX v<=bX (bM U j (v.length+1)) by omega) (by rw[show gb - 1+1=gb by omega];exact f5);have azE:0<gb:=by
       by_cases h:0<gb;·exact h
       ·have:gb=0:=by omega
        subst this;omega
      have hfin:R2.set (j+v.length) ((bN W2 (j+v.length) 0+c2) % 4294967296)=iK U j (gI (v.length+1) (bX (bM U j (v.length+1)) % bX v)):=wR hF hFl (by omega) hFo (by rw[hFv,w2,e1];omega);repeat refine γk (by omega) ?_
      rw[hfin];rfl
end Go.Vi
