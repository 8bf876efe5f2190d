/-
  Plain law: the first best list is found by looking, offer by offer, whether the rest can still reach the best value.
  Conditions: none.
-/
import Derived.Test.YtjcmncmajmoiiaaGreatVY06
import Derived.Test.YtjcmncmajmoiiaaGreatVY07
import Derived.Test.YtjcmncmajmoiiaaGreatVY08
import Derived.Test.YtjcmncmajmoiiaaGreatVY09
import Derived.Test.YtjcmncmajmoiiaaGreatVY10
import Derived.Test.YtjcmncmajmoiiaaGreatVY12
import Derived.Test.YtjcmncmajmoiiaaGreatVY13
import Derived.Test.YtjcmncmajmoiiaaGreatVY14
set_option maxRecDepth 100000
set_option maxHeartbeats 4000000
set_option linter.all false
open Bool renaming and_eq_true->ζ,not_eq_true'->δd
open Go.Vi.SV renaming si->Θ,sb->γD,row->Φ,bl->δo,ptr->γS,agg->γC,il->γp
open List renaming map_cons->ι,sum_cons->δh,mem_cons_of_mem->δK,mem_cons_self->ε7,mem_map->γg,map_nil->γt,nodup_append->γx,map_append->γd,pairwise_append->γY,mem_append->γc,length_set->γb,append_nil->γZ,mem_filter->γu,length_filter_le->γw,length_drop->γI,pairwise_cons->γv,append_assoc->γe,cons_append->γF,replicate->ε,filter_eq_nil_iff->εa,filter_congr->εI,filter_eq_self->δz,take_append_drop->Δ,append_of_mem->εC,mem_iff_getElem->εW,length_take->Ψ,filter_append->δa,take_length->ψ,length_append->κ,filter_cons->δu,length_pos_of_mem->ζs
open List.Perm renaming append_left->εU
open List.cons renaming injEq->ξ
open Nat renaming pow_le_pow_right->δt
open Option.some renaming injEq->γ
namespace Go.Vi
structure jf where
 left:bz
 opn:bz
 chosen:List Int
 value:Int
 won:List Bool
def nd (c w cl:Int):Int:=if c=0\/c≠cl then w else 0
def yW (p:bp) (x:Off):bz:=⟨nd p.cls.a0 x.want.a0 (gv p x),nd p.cls.a1 x.want.a1 (gv p x),nd p.cls.a2 x.want.a2 (gv p x),nd p.cls.a3 x.want.a3 (gv p x),nd p.cls.a4 x.want.a4 (gv p x),nd p.cls.a5 x.want.a5 (gv p x)⟩
def bz.pos (b:bz):Bool:=decide (0<=b.a0)&&decide (0<=b.a1)&&decide (0<=b.a2)&&decide (0<=b.a3)&&decide (0<=b.a4)&&decide (0<=b.a5)
def fY (p:bp) (u:jf) (x:Off):bz:=(u.opn.sub (yW p x)).meet (u.left.sub x.want)
def iL (p:bp) (u:jf) (x:Off):Bool:=!(bj u.won x.bD.toNat false)&&((u.left.sub x.want).pos&&(fY p u x).pos)
def eY (p:bp) (u:jf) (i:Int):jf:=⟨u.left.sub (oI p i).want,fY p u (oI p i),u.chosen++[i],u.value+(oI p i).value,u.won.set (oI p i).bD.toNat true⟩
def gJ (p:bp) (u:jf) (k:Nat):bp:=⟨u.left,u.opn,p.cls,p.classes,(p.offers.drop k).filter (iL p u)⟩
theorem MP {x:bz}:dR [x]=x:=by simp[dR]
theorem six {P:Nat->Prop} (h0:P 0) (h1:P 1) (h2:P 2) (h3:P 3) (h4:P 4) (h5:P 5):∀k,k<6->P k:=by
 intro k hk;rcases(show k=0\/k=1\/k=2\/k=3\/k=4\/k=5 by omega) with rfl|rfl|rfl|rfl|rfl|rfl;·exact h0
 ·exact h1
 ·exact h2
 ·exact h3
 ·exact h4
 ·exact h5
theorem By {a b:bz}:∀k,k<6->(a.sub b).at k=a.at k - b.at k:=six rfl rfl rfl rfl rfl rfl
theorem MQ {a b:bz}:∀k,k<6->(a.add b).at k=a.at k+b.at k:=six rfl rfl rfl rfl rfl rfl
theorem VS {a b:bz}:∀k,k<6->(a.meet b).at k=min (a.at k) (b.at k):=six rfl rfl rfl rfl rfl rfl
theorem MR {p:bp} {x:Off}:∀k,k<6->(yW p x).at k=nd (p.cls.at k) (x.want.at k) (gv p x):=six rfl rfl rfl rfl rfl rfl
theorem FQ {p:bp} {x:Off}:∀k,k<6->(dE p x).at k=if p.cls.at k=0\/p.cls.at k=gv p x then 0 else x.want.at k:=by
 refine six ?_ ?_ ?_ ?_ ?_ ?_<;>(show oc _ _ _ _ _=_;unfold oc;simp only[show((0:Int)<6)=True by simp,show((1:Int)<6)=True by simp,show((2:Int)<6)=True by simp,show((3:Int)<6)=True by simp,show((4:Int)<6)=True by simp,show((5:Int)<6)=True by simp,true_and];rfl)
theorem VT {b:bz}:b.pos=true↔∀k,k<6->0<=b.at k:=by
 unfold bz.pos;simp only[ζ,decide_eq_true_eq];constructor
 ·rintro⟨⟨⟨⟨⟨h0,h1⟩,h2⟩,h3⟩,h4⟩,h5⟩;exact six h0 h1 h2 h3 h4 h5
 ·intro h;exact⟨⟨⟨⟨⟨h 0 (by omega),h 1 (by omega)⟩,h 2 (by omega)⟩,h 3 (by omega)⟩,h 4 (by omega)⟩,h 5 (by omega)⟩
theorem yX {b:bz}:b.ok=true↔∀k,k<6->0<=b.at k/\b.at k<=4:=by
 rw[bz.eL];constructor
 ·rintro⟨h0,h1,h2,h3,h4,h5⟩;exact six h0 h1 h2 h3 h4 h5
 ·intro h;exact⟨h 0 (by omega),h 1 (by omega),h 2 (by omega),h 3 (by omega),h 4 (by omega),h 5 (by omega)⟩
theorem MS {p:bp} {k:Nat} (hk:k<6):∀L:List Off,(dR (L.map (yW p))).at k=if p.cls.at k=0 then(dR (L.map Off.want)).at k else(dR (L.map (dE p))).at k:=by
 intro L;rw[nE,nE,nE];induction L with
 |nil=>simp;|cons x L ih=>
  simp only[ι,δh];rw[ih,MR k hk,FQ k hk];unfold nd;by_cases h:p.cls.at k=0;·simp[h]
  ·simp only[h,false_or,if_false];by_cases h2:p.cls.at k=gv p x;·simp[h2]
   ·simp[h2]
theorem ahj {p:bp} {k:Nat} (hk:k<6) (h0:p.cls.at k=0):∀L:List Off,(dR (L.map (dE p))).at k=0:=by
 intro L;rw[nE];induction L with
 |nil=>simp;|cons x L ih=>
  simp only[ι,δh];rw[ih,FQ k hk,if_pos (.inl h0)];rfl
theorem FT {p:bp} (hg:Good p) {k:Nat} (hk:k<6):∀{L:List Off},(∀x∈L,x∈p.offers)->0<=(dR (L.map Off.want)).at k/\(dR (L.map (dE p))).at k<=(dR (L.map Off.want)).at k/\0<=(dR (L.map (dE p))).at k:=by
 intro L;rw[nE,nE];induction L with
 |nil=>intro _;simp;|cons x L ih=>
  intro h;have i1:=ih λy hy=>h y (δK _ hy);have hw:=(yX.1 (hg.2.2.2.2 x (h x (ε7 ..))).2.2.1 k hk);simp only[ι,δh];rw[FQ k hk];split<;>omega
theorem wC {p:bp} (hc:bC p=0) {k:Nat} (hk:k<6):0<=p.cls.at k/\p.cls.at k<=4/\0<=p.opn.at k/\p.opn.at k<=p.supply.at k/\(p.cls.at k=0->p.opn.at k=p.supply.at k):=by
 have h:=l9.1 ((qH (qI hc).1).2.1 k hk);exact⟨h.1,h.2.1,h.2.2.1,h.2.2.2.1,λh0=>by rcases h.2.2.2.2 with h1|h1;exact absurd h0 h1;exact h1⟩
theorem MU {a b:bz}:a.le b=true↔∀k,k<6->a.at k<=b.at k:=⟨λh k _=>DW h k,D6⟩
structure sd (p:bp) (u:jf):Prop where
 f:kh p u.chosen
 v:u.value=bZ (cj p u.chosen)
 l:∀k,k<6->u.left.at k=p.supply.at k - (dR ((cj p u.chosen).map Off.want)).at k
 o:∀k,k<6->u.opn.at k=min (p.opn.at k - (dR ((cj p u.chosen).map (yW p))).at k) (u.left.at k)
 wl:u.won.length=8
 w:∀b:Int,0<=b->b<8->bj u.won b.toNat false=decide (b∈(cj p u.chosen).map Off.bD)
theorem MV {p:bp} {t:List Int} (h:kJ 0 p.offers.length t):∀x∈cj p t,x∈p.offers:=λx hx=>by
 obtain⟨i,hi,rfl⟩:=γg.1 hx;have:=h.2 i hi;exact cK (by omega)
section
variable {p:bp} {u:jf}
theorem MW {L M:List Off}:gC p (L++M)↔((L.map Off.bD++M.map Off.bD).Nodup/\(∀k,k<6->(dR (L.map Off.want)).at k+(dR (M.map Off.want)).at k<=p.supply.at k)/\∀k,k<6->(dR (L.map (dE p))).at k+(dR (M.map (dE p))).at k<=p.opn.at k):=by
 simp_all[gC,xU,MU,MQ]
theorem FU (h:bC p=0) (c:sd p u) {x:Off} (m:x∈p.offers):iL p u x=true↔gC p (cj p u.chosen++[x]):=by
 have b:=dm h;have g:=b.2.2.2.2 x m;have r:=b.1;have q:=MV c.f.1;rw[MW];unfold iL;rw[ζ,ζ,VT,VT,δd,c.w _ g.1 (by omega),decide_eq_false_iff_not];simp only[ι,γt,MP];have d:∀k,k<6->((0<=(u.left.sub x.want).at k/\0<=(fY p u x).at k)↔((dR ((cj p u.chosen).map Off.want)).at k+x.want.at k<=p.supply.at k/\(dR ((cj p u.chosen).map (dE p))).at k+(dE p x).at k<=p.opn.at k)):=λk a=>by
  have A:=c.l k a;have t:=c.o k a;have v:=MS (p:=p) a (cj p u.chosen);have s:=@MR p x k a;have n:=@FQ p x k a;have B:=wC h a;have y:=yX.1 g.2.2.1 k a;have j:=FT b a q;unfold fY;rw[VS k a,By k a,By k a,s,n];unfold nd;grind
 constructor
 ·rintro⟨z,e,i⟩;refine⟨?_,λk a=>((d k a).1 ⟨e k a,i k a⟩).1,λk a=>((d k a).1 ⟨e k a,i k a⟩).2⟩;rw[γx];refine⟨c.f.2.1,by simp,?_⟩;simp_all
 grind
theorem sd.next (n:bC p=0) (c:sd p u) {i:Int} (D:∀j∈u.chosen,j<i) (C:0<=i/\i<p.offers.length) (s:iL p u (oI p i)=true):sd p (eY p u i):=by
 have m:oI p i∈p.offers:=cK (by omega);have B:=(FU n c m).1 s;have g:=dm n;have q:=g.2.2.2.2 _ m;have z:=g.1;have e:cj p (u.chosen++[i])=cj p u.chosen++[oI p i]:=by unfold cj;rw[γd];rfl
 refine⟨⟨⟨?_,?_⟩,?_⟩,?_,?_,?_,?_,?_⟩
 ·show(u.chosen++[i]).Pairwise _;rw[γY];exact⟨c.f.1.1,List.pairwise_singleton _ _,λa A b q=>by simp_all⟩
 ·intro j t;rcases γc.1 t with h|h;·exact c.f.1.2 j h
  simp_all
 ·show gC p (cj p (u.chosen++[i]));simp_all
 ·show u.value+_=bZ (cj p (u.chosen++[i]));rw[e,o8,c.v];simp[bZ]
 ·intro k d;show(u.left.sub _).at k=_ - (dR ((cj p (u.chosen++[i])).map Off.want)).at k;rw[e,γd,xU,MQ k d,By k d,c.l k d];grind[MP]
 ·intro k d;show(fY p u (oI p i)).at k=min (_ - (dR ((cj p (u.chosen++[i])).map (yW p))).at k) ((u.left.sub (oI p i).want).at k);unfold fY;rw[e,γd,xU,MQ k d,VS k d,By k d,By k d,c.o k d];grind[MP,MR,yX,nd]
 ·show(u.won.set _ true).length=8;rw[γb];exact c.wl
 ·intro b y x;show bj (u.won.set (oI p i).bD.toNat true) b.toNat false=decide (b∈(cj p (u.chosen++[i])).map Off.bD);have r:=c.wl;rw[e,γd,sZ (by omega)];simp only[ι,γt];by_cases h:b=(oI p i).bD;·simp_all
  ·rw[if_neg (by omega),c.w b y x];simp_all
theorem MX (s:bC p=0) (g:sd p u) {k:Nat} {M:List Off} (r:∀x∈M,x∈p.offers) (y:∀x∈M,iL p u x=true):gC (gJ p u k) M↔gC p (cj p u.chosen++M):=by
 have d:=dm s;have C:=d.1;have A:=MV g.f.1;rw[MW];unfold gC;rw[MU,MU];have D:∀x:Off,dE (gJ p u k) x=dE p x:=λx=>rfl;have n:M.map (dE (gJ p u k))=M.map (dE p):=rfl;rw[n];have h:∀j,j<6->(((dR (M.map Off.want)).at j<=(gJ p u k).supply.at j/\(dR (M.map (dE p))).at j<=(gJ p u k).opn.at j)↔((dR ((cj p u.chosen).map Off.want)).at j+(dR (M.map Off.want)).at j<=p.supply.at j/\(dR ((cj p u.chosen).map (dE p))).at j+(dR (M.map (dE p))).at j<=p.opn.at j)):=λj c=>by
  have H:=g.l j c;have F:=g.o j c;have G:=MS (p:=p) c (cj p u.chosen);have J:=wC s c;have I:=FT d c A;have K:=FT d c r;have L:(gJ p u k).supply.at j=u.left.at j:=rfl;have E:(gJ p u k).opn.at j=u.opn.at j:=rfl;omega
 constructor
 ·rintro⟨z,v,q⟩;refine⟨?_,λj c=>((h j c).1 ⟨v j c,q j c⟩).1,λj c=>((h j c).1 ⟨v j c,q j c⟩).2⟩;rw[γx];refine⟨g.f.2.1,z,?_⟩;intro a B b i e;subst e;obtain⟨x,t,rfl⟩:=γg.1 i;have m:=y x t;have i:=d.2.2.2.2 x (r x t);unfold iL at m;rw[ζ,δd,g.w _ i.1 (by omega),decide_eq_false_iff_not] at m;exact m.1 B
 grind
theorem aga {q:bp} (d:gV q=0) (h:∀x∈q.offers,iW q x=0) (b:(q.offers.map Off.key).Nodup):bC q=0:=by
 have a:∀(l:List Off) (s:List mO),(∀x∈l,iW q x=0)->(l.map Off.key).Nodup->(∀x∈l,x.key∉s)->fH q s l=0:=by
  intro l;induction l with
  |nil=>intro s _ _ _;rfl;|cons x l c=>
   simp_all[fH]
 simp_all[bC]
theorem FV (e:bC p=0) (g:sd p u) {k:Nat}:bC (gJ p u k)=0:=by
 have v:=dm e;have C:=MV g.f.1;have r:=(MW (p:=p) (L:=cj p u.chosen) (M:=[])).1 (by rw[γZ];exact g.f.2);obtain⟨d,q⟩:=qI e;obtain⟨J,H,P,R,N⟩:=qH d;have s:∀x∈(gJ p u k).offers,x∈p.offers/\iL p u x=true:=λx n=>by
  obtain⟨c,w⟩:=γu.1 n;grind
 have F:(dR (([]:List Off).map Off.want))=bz.zero:=rfl;have h:∀j,j<6->0<=u.left.at j/\u.left.at j<=4:=λj a=>by
  have B:=g.l j a;have O:=FT v a C;have w:=r.2.1 j a;have t:(dR (([]:List Off).map Off.want)).at j=0:=by rw[nE];rfl
  grind[yX]
 have i:∀j,j<6->0<=u.opn.at j/\u.opn.at j<=u.left.at j/\(p.cls.at j=0->u.opn.at j=u.left.at j):=λj a=>by
  have B:=g.l j a;have I:=g.o j a;have D:=MS (p:=p) a (cj p u.chosen);have m:=wC e a;have w:=r.2.1 j a;have E:=r.2.2 j a;have t:(dR (([]:List Off).map Off.want)).at j=0:=by rw[nE];rfl
  grind
 refine aga ?_ (λx n=>?_) ?_
 ·have Q:(gJ p u k).supply.ok=true:=yX.2 h;have G:Di (gJ p u k)=true:=zO.2 λj a=>l9.2 (by
   have m:=wC e a;have b:=i j a;refine⟨m.1,m.2.1,b.1,b.2.1,?_⟩;by_cases z:p.cls.at j=0;·exact .inr (b.2.2 z)
   ·exact .inl z);have K:(gJ p u k).offers.length<=p.offers.length:=by
   have c:=γw (iL p u) (p.offers.drop k);rw[γI] at c;show((p.offers.drop k).filter (iL p u)).length<=_;omega
  have y:(gJ p u k).classes=p.classes:=rfl;unfold gV;grind
 ·obtain⟨c,w⟩:=s x n;have b:=q x c;unfold iW at b ⊢;have y:(gJ p u k).classes=p.classes:=rfl;rw[y];split at b;·omega
  ·rename_i t;rw[if_neg t];split at b;·cases b
   ·rename_i A;rw[if_neg A];grind[MX,FU,I0]
 ·have c:=(IY (by
   have:=e;unfold bC at this;rw[if_neg (by rw[d];simp)] at this;exact this)).1;exact((List.filter_sublist.trans (List.drop_sublist k _)).map Off.key).nodup c
end
theorem FW {a b c:Alloc} (h:¬lJ a b) (k:¬lJ b c):¬lJ a c:=λhac=>by
 by_cases hba:lJ b a;·exact k (Rz hba hac)
 ·exact k (abz h hba▸hac)
theorem VU {a b:Alloc}:¬lJ a (better a b)/\¬lJ b (better a b):=by
 unfold better;split
 ·rename_i h;have h:lJ a b:=h;exact⟨Ae,λhb=>Ae (Rz h hb)⟩
 ·rename_i h;exact⟨h,Ae⟩
theorem Bz {p:bp}:∀{k:Nat} {i:Int} {a b:Alloc},¬lJ b (lH p k i a b)
 |0,_,_,b=>by simp only[lH];exact Ae;|k+1,i,a,b=>by
  simp only[lH];refine FW ?_ Bz;split;·exact FW VU.2 Bz
  ·exact Ae
theorem MY {p:bp} (o:Good p):∀{k:Nat} {i:Int} {a b:Alloc} {t:List Int},0<=i->i+k<=p.offers.length->t≠[]->kJ i k t->lF p (a.chosen++t)=true->¬lJ ⟨a.chosen++t,a.value+bZ (cj p t)⟩ (lH p k i a b)
 |0,i,a,b,t,_,_,r,c,_=>by
  cases t with
  |nil=>simp_all;|cons j t=>
   have:=c.2 j (by simp);omega
 |k+1,i,a,b,t,y,x,r,c,s=>by
  cases t with
  |nil=>simp_all;|cons j t=>
   have w:=c.2 j (by simp);have u:=γv.1 c.1;simp only[lH];by_cases n:j=i
   ·subst n;have g:vM p t:=λm l=>by
     have:=c.2 m (by simp[l]);omega
    have d:lF p (a.chosen++[j]++t)=true:=by simp_all
    have q:lF p (a.chosen++[j])=true:=QK o g d;rw[if_pos q];refine FW ?_ Bz;rw[pX];simp only[bZ];cases t with
    |nil=>
     grind[FW,Bz,VU,bZ,cj,lG];|cons h f=>
     have:=MY o (k:=k) (i:=j+1) (a:=⟨a.chosen++[j],a.value+lG p j⟩) (b:=better ⟨a.chosen++[j],a.value+lG p j⟩ b) (t:=h::f) (by omega) (by omega) (by simp) ⟨u.2,λm l=>by
      have v:=c.2 m (δK _ l);grind⟩ d;have e:(⟨a.chosen++j::h::f,a.value+((bj p.offers j.toNat bk.off.dflt).value+bZ (cj p (h::f)))⟩:Alloc)=⟨a.chosen++[j]++h::f,a.value+lG p j+bZ (cj p (h::f))⟩:=by
      simp only[Alloc.mk.injEq,γe,γF,List.nil_append,lG,true_and];omega
     simp_all
   ·exact MY o (by omega) (by omega) (by simp) ⟨c.1,λm l=>by
     have v:=c.2 m l;grind⟩ s
theorem agb {p:bp} (hg:Good p) {t:List Int} (ht:kh p t):¬lJ ⟨t,bZ (cj p t)⟩ (cz p):=by
 rw[IU];by_cases hn:t=[]
 ·subst hn;exact Bz
 ·have:=MY hg (k:=p.offers.length) (i:=0) (a:=⟨[],0⟩) (b:=⟨[],0⟩) (t:=t) (by omega) (by omega) hn ht.1 (by simpa[lF] using ht.2);simpa using this
theorem VX:∀{c a b:List Int},cmpL (c++a) (c++b)=cmpL a b
 |[],_,_=>rfl
 |x::c,a,b=>by
  simp only[γF,cmpL,Int.lt_irrefl,if_false];exact VX
noncomputable def rb (p:bp) (most:Int) (u:jf) (i:Int):jf:=
 if u.value=most then u else if iL p u (oI p i)=true then(if jU (gJ p (eY p u i) (i+1).toNat) (most - (eY p u i).value) 65536=true then eY p u i else u) else u
noncomputable def jV (p:bp) (most:Int):Nat->jf
 |0=>⟨p.supply,p.opn,[],0,ε 8 false⟩
 |n+1=>rb p most (jV p most n) n
theorem good_start {p:bp} (hc:bC p=0):sd p ⟨p.supply,p.opn,[],0,ε 8 false⟩:=by
 have hg:=dm hc;refine⟨Rr hg,rfl,λk hk=>?_,λk hk=>?_,rfl,λb h0 h1=>?_⟩
 ·show _=_ - (dR (([]:List Off).map Off.want)).at k;rw[nE];simp
 ·show _=min (_ - (dR (([]:List Off).map (yW p))).at k) _;rw[nE];have:=wC hc hk;simp only[γt,List.sum_nil];show p.opn.at k=min (p.opn.at k - 0) (p.supply.at k);omega
 ·show _=decide (b∈([]:List Int));rw[cM (by rw[List.length_replicate];omega),List.getElem_replicate];simp
theorem VY {i:Int}:∀{L:List Int},L.Pairwise (·<·)->L=L.filter (λj=>decide (j<i))++L.filter (λj=>!decide (j<i))
 |[],_=>rfl
 |x::L,h=>by
  have a:=γv.1 h;have c:=VY (i:=i) a.2;by_cases d:x<i;·grind
  ·have e:L.filter (λj=>decide (j<i))=[]:=εa.2 λj b=>by grind
   grind
theorem agc {i:Int} {L:List Int} (h:i∉L):L.filter (λj=>decide (j<i+1))=L.filter (λj=>decide (j<i)):=by
 refine εI λj hj=>?_;have:j≠i:=λe=>h (e▸hj);rw[Bool.eq_iff_iff,decide_eq_true_eq,decide_eq_true_eq];omega
theorem agd {i:Int} {L:List Int} (b:L.Pairwise (·<·)) (h:i∈L):L.filter (λj=>decide (j<i+1))=L.filter (λj=>decide (j<i))++[i]/\L=L.filter (λj=>decide (j<i))++i::L.filter (λj=>decide (i<j)):=by
 induction L with
 |nil=>cases h;|cons x L f=>
  have g:=γv.1 b;by_cases c:x=i
  ·subst c;have e:L.filter (λj=>decide (j<x))=[]:=εa.2 λj a=>by grind
   have k:L.filter (λj=>decide (j<x+1))=[]:=εa.2 λj a=>by grind
   have d:L.filter (λj=>decide (x<j))=L:=δz.2 λj a=>by simp_all
   grind
  grind
theorem agf {p:bp} (hg:Good p):∀{L:List Off},(∀x∈L,x∈p.offers)->L≠[]->0<bZ L
 |[],_,h=>absurd rfl h
 |x::L,h,_=>by
  have h1:=(hg.2.2.2.2 x (h x (ε7 ..))).2.2.2.1;have h2:=(sO hg (l:=L) λy hy=>h y (δK _ hy)).1;simp only[bZ];omega
theorem agh {p:bp} (i:bC p=0) {k:Nat} (d:k<=p.offers.length) {M:List Off} (g:∀x∈M,x∈p.offers.drop k) (c:M.Nodup):∃t:List Int,t.Pairwise (·<·)/\(∀j∈t,(k:Int)<=j/\j<p.offers.length)/\(cj p t).Perm M:=by
 obtain⟨t,b,h,a⟩:=DT (λx=>decide (x∈M)) (p.offers.drop k) (p.offers.take k);have e:(p.offers.take k).length=k:=by simp_all
 refine⟨t,b,λj f=>?_,?_⟩;·grind
 ·rw[Δ] at a;unfold cj;rw[a];refine(List.perm_ext_iff_of_nodup ?_ c).2 λx=>?_;·grind[vN]
  simp_all
theorem FX {p:bp} (hc:bC p=0):kh p (cz p).chosen/\(cz p).value=bZ (cj p (cz p).chosen):=by
 obtain⟨_,h1,h2,h3⟩:=x5 hc;exact⟨⟨h2,h1⟩,h3⟩
theorem MZ {p:bp} (m:bC p=0) (W:p.offers.length<=15):∀n:Nat,n<=p.offers.length->sd p (jV p (cz p).value n)/\(jV p (cz p).value n).chosen=(cz p).chosen.filter λ(j:Int)=>decide (j<(n:Int))
 |0,_=>⟨good_start m,by
   have h:=(FX m).1.1.2;exact(εa.2 λj g=>by simp_all).symm⟩
 |n+1,hn=>by
  obtain⟨G,P⟩:=MZ m W n (by omega);have o:=dm m;obtain⟨⟨⟨hs,hr⟩,hF⟩,hv⟩:=FX m;have a7:kh p (cz p).chosen:=⟨⟨hs,hr⟩,hF⟩;have I:∀j∈(jV p (cz p).value n).chosen,j<(n:Int):=λj g=>by
   simp_all
  have N:((n:Nat):Int)+1=((n+1:Nat):Int):=by omega
  have J:(0:Int)<=n/\(n:Int)<p.offers.length:=by omega
  have q:oI p n∈p.offers:=cK (by omega);have a4:=VY (i:=(n:Int)) hs;show sd p (rb p (cz p).value (jV p (cz p).value n) n)/\(rb p (cz p).value (jV p (cz p).value n) n).chosen=_;generalize jV p (cz p).value n=u at*;have C:∀{t:List Int},(∀j∈t,j∈(cz p).chosen)->∀x∈cj p t,x∈p.offers:=λht x q=>by
   obtain⟨j,g,rfl⟩:=γg.1 q;have:=hr j (ht j g);exact cK (by omega)
  by_cases e:u.value=(cz p).value
  ·unfold rb;rw[if_pos e];refine⟨G,?_⟩;have R:(cz p).chosen.filter (λj=>!decide (j<(n:Int)))=[]:=by
    refine Classical.byContradiction λU=>?_;have S:=agf o (L:=cj p ((cz p).chosen.filter (λj=>!decide (j<(n:Int))))) (C λj g=>(γu.1 g).1) (by unfold cj;simpa using U);rw[G.v,P,hv] at e;grind[rN,o8]
   have a1:∀j∈(cz p).chosen,j<(n:Int):=λj g=>by
    grind
   rw[P,δz.2 λj g=>by grind];exact(δz.2 λj g=>by grind).symm
  ·by_cases K:(n:Int)∈(cz p).chosen
   ·obtain⟨f1,f2⟩:=agd hs K;rw[<-P] at f1 f2;have A:gC p (cj p u.chosen++[oI p n]++cj p ((cz p).chosen.filter λj=>decide ((n:Int)<j))):=by
     have:cj p u.chosen++[oI p n]++cj p ((cz p).chosen.filter λj=>decide ((n:Int)<j))=cj p (cz p).chosen:=by
      conv=>rhs;rw[f2]
      rw[rN,pX,γe];rfl
     grind
    have B:=C (t:=(cz p).chosen.filter λj=>decide ((n:Int)<j)) λj g=>(γu.1 g).1;have Q:iL p u (oI p n)=true:=(FU m G q).2 (DO o B A);have c:=G.next m I J Q;have z:=FV (k:=((n:Int)+1).toNat) m c;have r:cj p (eY p u n).chosen=cj p u.chosen++[oI p n]:=by
     show cj p (u.chosen++[(n:Int)])=_;rw[rN];rfl
    have O:∀x∈cj p ((cz p).chosen.filter λj=>decide ((n:Int)<j)),iL p (eY p u n) x=true:=λx w=>by
     refine(FU m c (B x w)).2 ?_;rw[r];obtain⟨s,t,a0⟩:=εC w;have F:(cj p u.chosen++[oI p n]++cj p ((cz p).chosen.filter λj=>decide ((n:Int)<j))).Perm (cj p u.chosen++[oI p n]++[x]++(s++t)):=by
      rw[a0,γe (cj p u.chosen++[oI p n])];refine εU _ ?_;exact List.perm_middle
     refine DO o (M:=s++t) (λy hy=>B y ?_) (zU F A);grind
    have Y:=(MX (k:=((n:Int)+1).toNat) m c B O).2 (by grind);have Z:∀x∈cj p ((cz p).chosen.filter λj=>decide ((n:Int)<j)),x∈(gJ p (eY p u n) ((n:Int)+1).toNat).offers:=λx w=>by
     refine γu.2 ⟨?_,O x w⟩;obtain⟨j,g,rfl⟩:=γg.1 w;obtain⟨V,a8⟩:=γu.1 g;have h3:=hr j V;have h4:(n:Int)<j:=by grind
     rw[cM (by omega)];rw[εW];exact⟨j.toNat - ((n:Int)+1).toNat,by grind,by rw[List.getElem_drop];congr 1;omega⟩
    have H:=Ad z Y Z;rw[DX z] at H;have a2:(cz p).value=(eY p u n).value+bZ (cj p ((cz p).chosen.filter λj=>decide ((n:Int)<j))):=by
     rw[c.v,r,hv];conv=>lhs;rw[f2,rN,pX,o8]
     rw[o8];grind[bZ,oI]
    have T:(gJ p (eY p u n) ((n:Int)+1).toNat).offers.length<=15:=by
     have S:=γw (iL p (eY p u n)) (p.offers.drop ((n:Int)+1).toNat);rw[γI] at S;show((p.offers.drop _).filter _).length<=15;omega
    have l:iT (gJ p (eY p u n) ((n:Int)+1).toNat) ((cz p).value - (eY p u n).value) 65536=0:=MK z (by omega) (by
     have:2^((gJ p (eY p u n) ((n:Int)+1).toNat).offers.length+1)<=2^16:=δt (by omega) (by omega);omega);have E:jU (gJ p (eY p u n) ((n:Int)+1).toNat) ((cz p).value - (eY p u n).value) 65536=true:=(VP z l).2 (by omega);unfold rb;rw[if_neg e,if_pos Q,if_pos E];refine⟨c,?_⟩;rw[<-N,f1];rfl
   ·rw[<-N,agc K,<-P];unfold rb;rw[if_neg e];split
    ·rename_i Q;split
     ·rename_i E;exfalso;have c:=G.next m I J Q;have z:=FV (k:=((n:Int)+1).toNat) m c;have r:cj p (eY p u n).chosen=cj p u.chosen++[oI p n]:=by
       show cj p (u.chosen++[(n:Int)])=_;rw[rN];rfl
      have T:(gJ p (eY p u n) ((n:Int)+1).toNat).offers.length<=15:=by
       have S:=γw (iL p (eY p u n)) (p.offers.drop ((n:Int)+1).toNat);rw[γI] at S;show((p.offers.drop _).filter _).length<=15;omega
      have l:iT (gJ p (eY p u n) ((n:Int)+1).toNat) ((cz p).value - (eY p u n).value) 65536=0:=MK z (by omega) (by
       have:2^((gJ p (eY p u n) ((n:Int)+1).toNat).offers.length+1)<=2^16:=δt (by omega) (by omega);omega);have a6:=(VP z l).1 E;obtain⟨M,m1,m2,m3⟩:=D7 z;rw[DX z] at m3;have D:∀x∈M,x∈p.offers.drop ((n:Int)+1).toNat/\iL p (eY p u n) x=true:=λx q=>γu.1 (m2 x q);have A:=(MX m c (λx q=>List.mem_of_mem_drop (D x q).1) λx q=>(D x q).2).1 m1;obtain⟨t,t1,t2,t3⟩:=agh m (k:=((n:Int)+1).toNat) (by omega) (λx q=>(D x q).1) (zV Off.bD m1.1);have hT:kh p (u.chosen++(n:Int)::t):=by
       refine⟨⟨?_,?_⟩,?_⟩
       ·rw[γY];refine⟨G.f.1.1,γv.2 ⟨λj g=>by grind,t1⟩,λa ha b hb=>?_⟩;grind
       ·intro j g;rcases γc.1 g with h|h;·grind
        ·rcases List.mem_cons.1 h with rfl|h<;>grind
       ·rw[rN,pX];refine zU ?_ A;rw[r,γe];exact εU _ (List.Perm.cons _ t3.symm)
      have a3:bZ (cj p (u.chosen++(n:Int)::t))=(eY p u n).value+bZ M:=by
       rw[c.v,r,rN,pX,o8,o8,<-x4 t3];grind[bZ,oI]
      have H:=IV o hT.1 (decide_eq_true hT.2);refine agb o hT (.inr ⟨(show bZ (cj p (u.chosen++(n:Int)::t))=(cz p).value by omega),?_⟩);show cmpL (u.chosen++(n:Int)::t) (cz p).chosen<0;have R:(cz p).chosen=u.chosen++(cz p).chosen.filter (λj=>!decide (j<(n:Int))):=by grind
      have a5:(cz p).chosen.filter (λj=>!decide (j<(n:Int)))≠[]:=λh=>by
       rw[h,γZ] at R;refine e ?_;rw[G.v,<-R,hv]
      have X:∀j∈(cz p).chosen.filter (λj=>!decide (j<(n:Int))),(n:Int)<j:=λj g=>by
       grind
      rw[R];generalize (cz p).chosen.filter (λj=>!decide (j<(n:Int)))=d at*;cases d with
      |nil=>grind;|cons j d=>
       rw[VX];have:=X j (by simp);simp only[cmpL];omega
     grind
    grind
theorem VZ {p:bp} (hc:bC p=0) (h15:p.offers.length<=15):(jV p (cz p).value p.offers.length).chosen=(cz p).chosen:=by
 rw[(MZ hc h15 p.offers.length (Nat.le_refl _)).2];have h:=(FX hc).1.1.2;exact δz.2 λj hj=>by have:=h j hj;simp;omega
open Go.Proofs.YtjcmncmajmoiiaaGreat.Ir
open Go.Proofs
abbrev yY:=bz×(bz×(List Int×(Int×(Bool×(Bool×(Bool×(Bool×(Bool×(Bool×(Bool×Bool))))))))))
@[reducible] def sf:bk:=.pair .eD (.pair .eD (.pair (.bJ (.i .i64)) (.pair (.i .i64) (.pair .b (.pair .b (.pair .b (.pair .b (.pair .b (.pair .b (.pair .b .b))))))))))
def xP (d:yY):jf:=⟨d.1,d.2.1,d.2.2.1,d.2.2.2.1,[d.2.2.2.2.1,d.2.2.2.2.2.1,d.2.2.2.2.2.2.1,d.2.2.2.2.2.2.2.1,d.2.2.2.2.2.2.2.2.1,d.2.2.2.2.2.2.2.2.2.1,d.2.2.2.2.2.2.2.2.2.2.1,d.2.2.2.2.2.2.2.2.2.2.2]⟩
def fP (u:jf):yY:=(u.left,(u.opn,(u.chosen,(u.value,(bj u.won 0 false,(bj u.won 1 false,(bj u.won 2 false,(bj u.won 3 false,(bj u.won 4 false,(bj u.won 5 false,(bj u.won 6 false,bj u.won 7 false)))))))))))
theorem V0 {u:jf} (h:u.won.length=8):xP (fP u)=u:=by
 obtain⟨l,o,c,v,w⟩:=u;simp only at h;match w,h with
 |[a,b,c,d,e,f,g,i],_=>rfl
def zX:jf:=⟨bz.zero,bz.zero,[],0,ε 8 false⟩
def pk (k j:Int) (a b:Int):Bool:=decide (k<=j)||(decide (0<=a)&&decide (0<=b))
def jF (a b:bz) (k:Int):Bool:=pk k 0 a.a0 b.a0&&(pk k 1 a.a1 b.a1&&(pk k 2 a.a2 b.a2&&(pk k 3 a.a3 b.a3&&(pk k 4 a.a4 b.a4&&pk k 5 a.a5 b.a5))))
def M4:cZ where
 f:=131;α:=yY×bp×Off;put a:=[.ptr 0 0 22,cY.put a.2.1,(eG .off).put a.2.2];st a:=[.cells (encS sf a.1) 137 22 false];dec v o:=match v,o with
  |[.ptr 0 0 22,p,x],[.cells cs 137 22 false]=>match jH sf cs,cY.dec p,(eG .off).dec x with
   |some d,some p,some x=>some (d,p,x)
   |_,_,_=>none
  |_,_=>none;ok v o a h:=by
  split at h
  ·split at h
   ·rename_i h1 h2 h3;simp only[γ] at h;subst h;refine⟨by simp only[gL,cY.ok _ _ h2,(eG .off).ok _ _ h3],?_⟩;simp only[gO,ι,γt,bq.g,gi,nY h1,tV]
   ·cases h
  ·cases h
 inj a b h1 h2:=by
  obtain⟨d,p,x⟩:=a;obtain⟨d',p',x'⟩:=b;simp only[gL,ξ,and_true,true_and] at h1;simp only[gO,ι,γt,bq.g,ξ,bP.cells.injEq,and_true,gi,tV] at h2;rw[xy sf d d' h2,cY.inj p p' h1.1,(eG .off).inj x x' h1.2]
 dom a:=((∀k,k<6->(-1000<=a.1.1.at k/\a.1.1.at k<=1000)/\(-1000<=a.1.2.1.at k/\a.1.2.1.at k<=1000))/\a.2.2.want.ok=true)/\0<=a.2.2.bD/\a.2.2.bD<a.2.1.classes.length;res a:=.sb ((a.1.1.sub a.2.2.want).pos&&(fY a.2.1 (xP a.1) a.2.2).pos);out a:=[.cells (encS sf (a.1.1.sub a.2.2.want,(fY a.2.1 (xP a.1) a.2.2,a.1.2.2))) 137 22 false]
def agi (d:yY) (p:bp) (x:Off):Nat->cB
 |3=> .inv Int (λk=>⟨[(0,.ptr 0 0 22),(4,.ptr 1 0 20),(5,.ptr 2 0 8),(7,.sb (jF (d.1.sub x.want) (fY p (xP d) x) k)),(11,.agg (encS .eD x.want)),(12,.si .i64 k)],
   [.cells (encS sf (iy d.1 (d.1.sub x.want) k,(iy d.2.1 (fY p (xP d) x) k,d.2.2))) 137 22 false,.cells p.ss 27 20 false,.cells (encS .off x) 39 8 false]⟩)
   (λs=>iS s 12) (λk=>0<=k/\k<=6) (λk=>(6 - k).toNat) λ_ _=> .look
 |_=> .look
theorem h450:dK Tryz.prog M4:=by
 refine jm (L:=[]) (W:=[]) M4 (λa=>agi a.1 a.2.1 a.2.2) (by simp) (by simp) ?_;rintro⟨d,p,x⟩ ⟨⟨hb,hw⟩,e9,f1⟩;simp only at hb hw e9 f1;refine bN (let a:=Θ .i64;let g:=(0:Int);let h:=(6:Int);let j:=bq.cells;let k:=γD;let o:=bV .i64;let G:=Φ;let H:=δo false;let J:=γS;let N:=J 0 0 22;let M:=J 1 0 20;let K:=J 2 0 8;let y:=d.fst.sub x.want;let B:=fY p (xP d) x;let L:=a x.want.a0;let O:=a x.want.a1;let W:=a x.want.a2;let aa:=a x.want.a3;let ab:=a x.want.a4;let b7:=a x.want.a5;let n:=γC [L,O,W,aa,ab,b7];let a9:=bk.i .i64;let C:=d.snd.snd.snd.snd.snd;let e1:=C.snd.snd.snd.snd.snd;let w:=iy d.fst y g;let D:=iy d.snd.fst B g;let F:=d.snd.snd.snd.snd.snd;let c8:=F.snd.snd.snd.snd.snd;let t:=[G a9 d.snd.snd.fst,a d.snd.snd.snd.fst,k d.snd.snd.snd.snd.fst,k F.fst,k F.snd.fst,k F.snd.snd.fst,k F.snd.snd.snd.fst,k F.snd.snd.snd.snd.fst,k c8.fst,k c8.snd];let l:=j [a p.supply.a0,a p.supply.a1,a p.supply.a2,a p.supply.a3,a p.supply.a4,a p.supply.a5,a p.opn.a0,a p.opn.a1,a p.opn.a2,a p.opn.a3,a p.opn.a4,a p.opn.a5,a p.cls.a0,a p.cls.a1,a p.cls.a2,a p.cls.a3,a p.cls.a4,a p.cls.a5,G a9 p.classes,G bk.off p.offers] 27 20 false;let m:=j [a x.bD,L,O,W,aa,ab,b7,a x.value] 39 8 false;let e8:=[x.want.a0,x.want.a1,x.want.a2,x.want.a3,x.want.a4,x.want.a5];let e7:=[p.cls.a0,p.cls.a1,p.cls.a2,p.cls.a3,p.cls.a4,p.cls.a5];(((N.same N/\M.same M/\K.same K/\(δo true).same (k (jF y B g))/\n.same n/\(γp .i64 0).same (a 0)/\True)/\(j [a d.fst.a0,a d.fst.a1,a d.fst.a2,a d.fst.a3,a d.fst.a4,a d.fst.a5,a d.snd.fst.a0,a d.snd.fst.a1,a d.snd.fst.a2,a d.snd.fst.a3,a d.snd.fst.a4,a d.snd.fst.a5,G a9 d.snd.snd.fst,a d.snd.snd.snd.fst,k d.snd.snd.snd.snd.fst,k C.fst,k C.snd.fst,k C.snd.snd.fst,k C.snd.snd.snd.fst,k C.snd.snd.snd.snd.fst,k e1.fst,k e1.snd] 137 22 false).same (j (a w.a0::a w.a1::a w.a2::a w.a3::a w.a4::a w.a5::a D.a0::a D.a1::a D.a2::a D.a3::a D.a4::a D.a5::t) 137 22 false)/\l.same l/\m.same m/\True)/\g<=g/\g<=h)/\∀(b:Int),let I:=jF y B b;let f:=iy d.fst y b;let e0:=bj e8 b.toNat g;let r:=bj [f.a0,f.a1,f.a2,f.a3,f.a4,f.a5] b.toNat g - e0;let c6:=if b.toNat=0 then r else f.a0;let b9:=if b.toNat=1 then r else f.a1;let c0:=if b.toNat=2 then r else f.a2;let e3:=if b.toNat=3 then r else f.a3;let c7:=if b.toNat=4 then r else f.a4;let c5:=if b.toNat=5 then r else f.a5;let S:=bj [c6,b9,c0,e3,c7,c5] b.toNat g;let b4:=decide (g<=S);let e:=b+(1:Int);let c:=iy d.snd.fst B b;let c2:=bj [c.a0,c.a1,c.a2,c.a3,c.a4,c.a5] b.toNat g;let s:=c2 - e0;let c4:=if b.toNat=0 then s else c.a0;let d1:=if b.toNat=1 then s else c.a1;let b8:=if b.toNat=2 then s else c.a2;let d8:=if b.toNat=3 then s else c.a3;let d3:=if b.toNat=4 then s else c.a4;let b5:=if b.toNat=5 then s else c.a5;let E:=min (bj [c4,d1,b8,d8,d3,b5] b.toNat g) S;let b3:=if b.toNat=0 then E else c4;let T:=if b.toNat=1 then E else d1;let Y:=if b.toNat=2 then E else b8;let Z:=if b.toNat=3 then E else d8;let a8:=if b.toNat=4 then E else d3;let b0:=if b.toNat=5 then E else b5;let P:=k (jF y B e);let q:=a e;let X:=a c6;let a6:=a b9;let a7:=a c0;let R:=a e3;let Q:=a c7;let U:=a c5;let A:=iy d.fst y e;let v:=iy d.snd.fst B e;let V:=j (a A.a0::a A.a1::a A.a2::a A.a3::a A.a4::a A.a5::a v.a0::a v.a1::a v.a2::a v.a3::a v.a4::a v.a5::t) 137 22 false;let z:=min c2 S;let c1:=if b.toNat=0 then z else c.a0;let d4:=if b.toNat=1 then z else c.a1;let d0:=if b.toNat=2 then z else c.a2;let d6:=if b.toNat=3 then z else c.a3;let e4:=if b.toNat=4 then z else c.a4;let c3:=if b.toNat=5 then z else c.a5;let b6:=decide (b<h);let d7:=bj e7 b.toNat g;let d2:=decide (d7=g);let e5:=decide (d7≠bj p.classes x.bD.toNat g);let f0:=let d9:=o e/\((N.same N/\M.same M/\K.same K/\(H).same P/\n.same n/\q.same q/\True)/\(j (X::a6::a7::R::Q::U::a b3::a T::a Y::a Z::a a8::a b0::t) 137 22 false).same V/\l.same l/\m.same m/\True)/\(g<=e/\e<=h)/\(h - e).toNat<(h - b).toNat;b.toNat<6/\g<=b/\b<h/\b.toNat<6/\g<=b/\b<h/\b.toNat<6/\(I=true->g<=b/\b<h/\b.toNat<6/\(b4=true->g<=b/\b<h/\b.toNat<6/\o e/\((N.same N/\M.same M/\K.same K/\(k (decide (g<=bj [b3,T,Y,Z,a8,b0] b.toNat g))).same P/\n.same n/\q.same q/\True)/\(j (X::a6::a7::R::Q::U::a b3::a T::a Y::a Z::a a8::a b0::t) 137 22 false).same V/\l.same l/\m.same m/\True)/\(g<=e/\e<=h)/\(h - e).toNat<(h - b).toNat)/\(b4=false->d9))/\(I=false->d9);let c9:=(j (X::a6::a7::R::Q::U::a c1::a d4::a d0::a d6::a e4::a c3::t) 137 22 false).same V;let e6:=g<=b/\b<h/\b.toNat<6/\o s/\g<=b/\b<h/\b.toNat<6/\g<=b/\b<h/\f0;let d5:=o e/\((N.same N/\M.same M/\K.same K/\(H).same P/\n.same n/\q.same q/\True)/\c9/\l.same l/\m.same m/\True)/\(g<=e/\e<=h)/\(h - e).toNat<(h - b).toNat;let e2:=λ(u:Bool) ↦b4=u;g<=b/\b<=h->(b6=true->g<=b/\b<h/\g<=b/\b<h/\b.toNat<6/\o r/\g<=b/\b<h/\b.toNat<6/\g<=b/\b<h/\b.toNat<6/\(d2=true->e6)/\(d2=false->g<=b/\b<h/\b.toNat<6/\g<=x.bD/\x.bD<(↑p.classes.length:Int)/\x.bD.toNat<p.classes.length/\(e5=true->e6)/\(e5=false->g<=b/\b<h/\b.toNat<6/\g<=b/\b<h/\b.toNat<6/\g<=b/\b<h/\b.toNat<6/\(I=true->g<=b/\b<h/\b.toNat<6/\(e2 true->g<=b/\b<h/\b.toNat<6/\o e/\((N.same N/\M.same M/\K.same K/\(k (decide (g<=bj [c1,d4,d0,d6,e4,c3] b.toNat g))).same P/\n.same n/\q.same q/\True)/\c9/\l.same l/\m.same m/\True)/\(g<=e/\e<=h)/\(h - e).toNat<(h - b).toNat)/\(e2 false->d5))/\(I=false->d5))))/\(b6=false->(k I).same (k (y.pos&&B.pos))/\(j (a f.a0::a f.a1::a f.a2::a f.a3::a f.a4::a f.a5::a c.a0::a c.a1::a c.a2::a c.a3::a c.a4::a c.a5::t) 137 22 false).same (j (a y.a0::a y.a1::a y.a2::a y.a3::a y.a4::a y.a5::a B.a0::a B.a1::a B.a2::a B.a3::a B.a4::a B.a5::t) 137 22 false)/\True)) (by kernel_rfl) ?_;simp only[vcs];refine⟨⟨⟨rfl,rfl⟩,by omega,by omega⟩,?_⟩;rintro k ⟨k0,k6⟩;simp only[show bj p.classes x.bD.toNat 0=gv p x from rfl];generalize G:gv p x=H at*;constructor
 ·intro hk;rcases(show k=0\/k=1\/k=2\/k=3\/k=4\/k=5 by omega) with rfl|rfl|rfl|rfl|rfl|rfl
  ·have g:=hb 0 (by omega);have J:0<=x.want.a0/\x.want.a0<=4:=by grind[bz.eL]
   have b1: -1000<=d.1.a0/\d.1.a0<=1000:=g.1;have b2: -1000<=d.2.1.a0/\d.2.1.a0<=1000:=g.2;have h:(fY p (xP d) x).a0=min (d.2.1.a0 - nd p.cls.a0 x.want.a0 H) (d.1.a0 - x.want.a0):=by rw[<-G];rfl
   generalize fY p (xP d) x=O at*;by_cases j:p.cls.a0=0;·simp[iy,bj,bz.sub,jF,pk,h,nd,j,li];grind
   ·by_cases o:p.cls.a0=H
    ·subst o;simp[iy,bj,bz.sub,jF,pk,h,nd,j,li];grind
    ·simp[iy,bj,bz.sub,jF,pk,h,nd,j,o,li];grind
  ·have g:=hb 1 (by omega);have J:0<=x.want.a1/\x.want.a1<=4:=by have:=bz.eL.1 hw;omega
   have b1: -1000<=d.1.a1/\d.1.a1<=1000:=g.1;have b2: -1000<=d.2.1.a1/\d.2.1.a1<=1000:=g.2;have h:(fY p (xP d) x).a1=min (d.2.1.a1 - nd p.cls.a1 x.want.a1 H) (d.1.a1 - x.want.a1):=by rw[<-G];rfl
   generalize fY p (xP d) x=O at*;by_cases j:p.cls.a1=0;·simp[iy,bj,bz.sub,jF,pk,h,nd,j,li];grind
   ·by_cases o:p.cls.a1=H
    ·subst o;simp[iy,bj,bz.sub,jF,pk,h,nd,j,li];grind
    ·simp[iy,bj,bz.sub,jF,pk,h,nd,j,o,li];grind
  ·have g:=hb 2 (by omega);have J:0<=x.want.a2/\x.want.a2<=4:=by have:=bz.eL.1 hw;omega
   have b1: -1000<=d.1.a2/\d.1.a2<=1000:=g.1;have b2: -1000<=d.2.1.a2/\d.2.1.a2<=1000:=g.2;have h:(fY p (xP d) x).a2=min (d.2.1.a2 - nd p.cls.a2 x.want.a2 H) (d.1.a2 - x.want.a2):=by rw[<-G];rfl
   generalize fY p (xP d) x=O at*;by_cases j:p.cls.a2=0;·simp[iy,bj,bz.sub,jF,pk,h,nd,j,li];grind
   ·by_cases o:p.cls.a2=H
    ·subst o;simp[iy,bj,bz.sub,jF,pk,h,nd,j,li];grind
    ·simp[iy,bj,bz.sub,jF,pk,h,nd,j,o,li];grind
  ·have g:=hb 3 (by omega);have J:0<=x.want.a3/\x.want.a3<=4:=by have:=bz.eL.1 hw;omega
   have b1: -1000<=d.1.a3/\d.1.a3<=1000:=g.1;have b2: -1000<=d.2.1.a3/\d.2.1.a3<=1000:=g.2;have h:(fY p (xP d) x).a3=min (d.2.1.a3 - nd p.cls.a3 x.want.a3 H) (d.1.a3 - x.want.a3):=by rw[<-G];rfl
   generalize fY p (xP d) x=O at*;by_cases j:p.cls.a3=0;·simp[iy,bj,bz.sub,jF,pk,h,nd,j,li];grind
   ·by_cases o:p.cls.a3=H
    ·subst o;simp[iy,bj,bz.sub,jF,pk,h,nd,j,li];grind
    ·simp[iy,bj,bz.sub,jF,pk,h,nd,j,o,li];grind
  ·have g:=hb 4 (by omega);have J:0<=x.want.a4/\x.want.a4<=4:=by have:=bz.eL.1 hw;omega
   have b1: -1000<=d.1.a4/\d.1.a4<=1000:=g.1;have b2: -1000<=d.2.1.a4/\d.2.1.a4<=1000:=g.2;have h:(fY p (xP d) x).a4=min (d.2.1.a4 - nd p.cls.a4 x.want.a4 H) (d.1.a4 - x.want.a4):=by rw[<-G];rfl
   generalize fY p (xP d) x=O at*;by_cases j:p.cls.a4=0;·simp[iy,bj,bz.sub,jF,pk,h,nd,j,li];grind
   ·by_cases o:p.cls.a4=H
    ·subst o;simp[iy,bj,bz.sub,jF,pk,h,nd,j,li];grind
    ·simp[iy,bj,bz.sub,jF,pk,h,nd,j,o,li];grind
  ·have g:=hb 5 (by omega);have J:0<=x.want.a5/\x.want.a5<=4:=by have:=bz.eL.1 hw;omega
   have b1: -1000<=d.1.a5/\d.1.a5<=1000:=g.1;have b2: -1000<=d.2.1.a5/\d.2.1.a5<=1000:=g.2;have h:(fY p (xP d) x).a5=min (d.2.1.a5 - nd p.cls.a5 x.want.a5 H) (d.1.a5 - x.want.a5):=by rw[<-G];rfl
   generalize fY p (xP d) x=O at*;by_cases j:p.cls.a5=0;·simp[iy,bj,bz.sub,jF,pk,h,nd,j,li];grind
   ·by_cases o:p.cls.a5=H
    ·subst o;simp[iy,bj,bz.sub,jF,pk,h,nd,j,li];grind
    ·simp[iy,bj,bz.sub,jF,pk,h,nd,j,o,li];grind
 ·intro hk;have:k=6:=by omega
  subst this;simp[iy,bz.sub,jF,pk,bz.pos,Bool.and_assoc];exact⟨by ac_rfl,rfl⟩
noncomputable def FY (L:List bL) (W:mR) (sp:Nat->Option (Nat×Nat×Nat)):iM:=⟨⟨vG L,W.C⟩,oY,oZ,sp,gB,λ_=>false⟩
theorem ahk {L:List bL} {W:mR} (e:Nat->Option (Nat×Nat×Nat)) (c:bL) (g:c.α->Nat->cB) (i:pR Tryz.prog W) (k:∀c∈L,Holds Tryz.prog c)
  
  (h:∀a,c.dom a->Vc (sG (FY L W e) (g a) (fG c.f) (c.A.put a) λv=>v.rH (c.res a))) (l:(gB c.f).isSome=true:=by kernel_rfl) (d:oW c.f L=none:=by kernel_rfl) (b:∀a,(c.A.put a).length=(fG c.f).params:=by intro _;kernel_rfl):Holds Tryz.prog c:=
 λa j=>C5 (p:=FY L W e) (Λ:=g a) (ua i k pT) (ub i) (λ_ _ h=>h) (vJ l) (C6 d) (b a) (λ_ h=>xx h) (h a j).out
theorem agj {L:List bL} {W:mR} (sp:Nat->Option (Nat×Nat×Nat)) (c:bL) (F:fj) (Λ:c.α->Nat->cB) (hW:pR Tryz.prog W) (hL:∀c∈L,Holds Tryz.prog c)
  
  (h:∀a,c.dom a->Vc (sG (FY L W sp) (Λ a) F (c.A.put a) λv=>v.rH (c.res a))) (hF:gB c.f=some F:=by kernel_rfl) (hfr:oW c.f L=none:=by kernel_rfl) (hlen:∀a,(c.A.put a).length=F.params:=by intro _;kernel_rfl):Holds Tryz.prog c:=
 λa hd=>C5 (p:=FY L W sp) (Λ:=Λ a) (ua hW hL pT) (ub hW) (λ_ _ h=>h) hF (C6 hfr) (hlen a) (λ_ h=>xx h) (h a hd).out
def qk (p:bp) (u:jf) (i:Int):jf:=if iL p u (oI p i)=true then eY p u i else zX
def BA (u:jf):Prop:=(∀k,k<6->(-1000<=u.left.at k/\u.left.at k<=1000)/\(-1000<=u.opn.at k/\u.opn.at k<=1000))/\(0<=u.value/\u.value<=160000000)/\u.chosen.length<=1000
def FZ:bL:=⟨92,yY×bp×Int,.cons (eG sf) (.cons cY (.one (dV .i64))),λa=>bC a.2.1=0/\BA (xP a.1)/\0<=a.2.2/\a.2.2<a.2.1.offers.length,
 λa=> .bH [.agg (encS sf (fP (qk a.2.1 (xP a.1) a.2.2))),.sb (iL a.2.1 (xP a.1) (oI a.2.1 a.2.2))]⟩
def agk (n:Nat):Option (Nat×Nat×Nat):=if n=2 then some (3,0,8) else none
theorem h443:Holds Tryz.prog FZ:=by
 refine agj (L:=[]) (W:=fU [M4]) agk FZ (fG 92) lk (lg (by grind[h450])) (by simp) ?_;rintro⟨⟨l,o,c,v,Q,Y,Z,X,w4,w5,w6,w7⟩,p,i⟩ ⟨hc,hd,i0,i1⟩;simp only at hc hd i0 i1;refine bN (let b:=Θ .i64;let e:=γD;let h:=(-1000:Int);let r:=δo true;let w:=(1000:Int);let x:=(0:Int);let y:=γC;let L:=SV.bH;let W:=bV .i64;let aa:=(7:Int);let ab:=(1:Int);let ac:=(3:Int);let ad:=(2:Int);let ae:=(4:Int);let af:=(5:Int);let ag:=(6:Int);let ah:=Φ;let V:=γp .i64 0;let an:=bk.i .i64;let aj:=ah an [];let ak:=δo false;let S:=xP (l,o,c,v,Q,Y,Z,X,w4,w5,w6,w7);let al:=(fP (qk p S i)).fst;let ai:=(fP (qk p S i)).snd;let R:=ai.snd.snd.snd.snd.snd;let f:=L [y [b al.a0,b al.a1,b al.a2,b al.a3,b al.a4,b al.a5,b ai.fst.a0,b ai.fst.a1,b ai.fst.a2,b ai.fst.a3,b ai.fst.a4,b ai.fst.a5,ah an ai.snd.fst,b ai.snd.snd.fst,e ai.snd.snd.snd.fst,e ai.snd.snd.snd.snd.fst,e R.fst,e R.snd.fst,e R.snd.snd.fst,e R.snd.snd.snd.fst,e R.snd.snd.snd.snd.fst,e R.snd.snd.snd.snd.snd],e (iL p S (oI p i))];let b2:=bj p.offers i.toNat bk.off.dflt;let a:=b2.want;let P:=l.sub a;let q:=b P.a0;let t:=b P.a1;let n:=b P.a2;let m:=b P.a3;let s:=b P.a4;let j:=b P.a5;let d:=b2.value;let M:=b (v+d);let g:=[r];let c9:=[e w6,e w7];let a6:=e w4::e w5::c9;let C:=b2.bD;let N:=(↑p.classes.length:Int);let B:=P.pos;let e0:=!(B&&(fY p S (Off.mk x a d)).pos);let E:=ah an [i];let z:=c.length+1;let A:Nat:=(c++[i]).length;let I:=ah an (c++[i]);let G:=fY p S (Off.mk ab a d);let D:=fY p S (Off.mk ad a d);let b1:=b D.a0;let b7:=b D.a1;let d0:=b D.a2;let d8:=b D.a3;let c1:=b D.a4;let c8:=b D.a5;let c7:=M::e Q::e Y::r::e X::a6;let F:=fY p S (Off.mk ac a d);let J:=fY p S (Off.mk ae a d);let b5:=b J.a0;let b4:=b J.a1;let a7:=b J.a2;let c6:=b J.a3;let c2:=b J.a4;let b8:=b J.a5;let d7:=M::e Q::e Y::e Z::e X::r::e w5::c9;let K:=fY p S (Off.mk af a d);let b9:=b K.a0;let c4:=b K.a1;let a8:=b K.a2;let c0:=b K.a3;let d2:=b K.a4;let d4:=b K.a5;let b3:=M::e Q::e Y::e Z::e X::e w4::r::c9;let H:=fY p S (Off.mk ag a d);let d6:=b H.a0;let b0:=b H.a1;let b6:=b H.a2;let d9:=b H.a3;let a9:=b H.a4;let d5:=b H.a5;let d3:=[M,e Q,e Y,e Z,e X,e w4,e w5,r,e w7];let e1:=!(B&&(fY p S (Off.mk aa a d)).pos);let O:=(L [y [V,V,V,V,V,V,V,V,V,V,V,V,aj,V,ak,ak,ak,ak,ak,ak,ak,ak],ak]).same f;let am:=λ(u:Int) (d1 c3 c5:SV) ↦let U:=fY p S (Off.mk u a d);(L (y [q,t,n,m,s,j,b U.a0,b U.a1,b U.a2,b U.a3,b U.a4,b U.a5,d1,M,c3,e Y,e Z,e X,e w4,e w5,e w6,c5]::g)).same f;let ao:=λ(u:Nat) (d1:Int) (c3 c5 e2:SV) ↦let T:=fY p S (Off.mk d1 a d);u=u/\(L (y (q::t::n::m::s::j::b T.a0::b T.a1::b T.a2::b T.a3::b T.a4::b T.a5::c3::M::e Q::c5::e Z::e2::a6)::g)).same f;x<=i/\i<(↑p.offers.length:Int)/\i.toNat<p.offers.length/\(C=x->(Q=true->O)/\(Q=false->(((∀(k:Nat),k<6->(h<=l.at k/\l.at k<=w)/\h<=o.at k/\o.at k<=w)/\a.ok=true)/\x<=x/\x<N)/\(e0=true->O)/\(e0=false->W (v+d)/\(c.length=0->(1=0->am x aj (r) (e w7))/\(1≠0->8<=140737488355328/\1<=1000000000000/\1=1/\am x E (r) (e w7)))/\(c.length≠0->c.length*8<=140737488355328/\c.length<=1000000000000/\c.length=c.length/\z*8<=140737488355328/\z<=1000000000000/\A=A/\am x I (r) (e w7)))))/\(C=ab->(Y=true->O)/\(Y=false->(((∀(k:Nat),k<6->(h<=l.at k/\l.at k<=w)/\h<=o.at k/\o.at k<=w)/\a.ok=true)/\x<=ab/\ab<N)/\((!(B&&G.pos))=true->O)/\((!(B&&G.pos))=false->W (v+d)/\(c.length=0->(1=0->(L (y (q::t::n::m::s::j::b G.a0::b G.a1::b G.a2::b G.a3::b G.a4::b G.a5::aj::M::e Q::r::e Z::e X::a6)::g)).same f)/\(1≠0->8<=140737488355328/\1<=1000000000000/\ao 1 ab E (r) (e X)))/\(c.length≠0->c.length*8<=140737488355328/\c.length<=1000000000000/\c.length=c.length/\z*8<=140737488355328/\z<=1000000000000/\ao A ab I (r) (e X)))))/\(C=ad->(Z=true->O)/\(Z=false->(((∀(k:Nat),k<6->(h<=l.at k/\l.at k<=w)/\h<=o.at k/\o.at k<=w)/\a.ok=true)/\x<=ad/\ad<N)/\((!(B&&D.pos))=true->O)/\((!(B&&D.pos))=false->W (v+d)/\(c.length=0->(1=0->(L (y (q::t::n::m::s::j::b1::b7::d0::d8::c1::c8::aj::c7)::g)).same f)/\(1≠0->8<=140737488355328/\1<=1000000000000/\1=1/\(L (y (q::t::n::m::s::j::b1::b7::d0::d8::c1::c8::E::c7)::g)).same f))/\(c.length≠0->c.length*8<=140737488355328/\c.length<=1000000000000/\c.length=c.length/\z*8<=140737488355328/\z<=1000000000000/\A=A/\(L (y (q::t::n::m::s::j::b1::b7::d0::d8::c1::c8::I::c7)::g)).same f))))/\(C=ac->(X=true->O)/\(X=false->(((∀(k:Nat),k<6->(h<=l.at k/\l.at k<=w)/\h<=o.at k/\o.at k<=w)/\a.ok=true)/\x<=ac/\ac<N)/\((!(B&&F.pos))=true->O)/\((!(B&&F.pos))=false->W (v+d)/\(c.length=0->(1=0->(L (y (q::t::n::m::s::j::b F.a0::b F.a1::b F.a2::b F.a3::b F.a4::b F.a5::aj::M::e Q::e Y::e Z::r::a6)::g)).same f)/\(1≠0->8<=140737488355328/\1<=1000000000000/\ao 1 ac E (e Y) (r)))/\(c.length≠0->c.length*8<=140737488355328/\c.length<=1000000000000/\c.length=c.length/\z*8<=140737488355328/\z<=1000000000000/\ao A ac I (e Y) (r)))))/\(C=ae->(w4=true->O)/\(w4=false->(((∀(k:Nat),k<6->(h<=l.at k/\l.at k<=w)/\h<=o.at k/\o.at k<=w)/\a.ok=true)/\x<=ae/\ae<N)/\((!(B&&J.pos))=true->O)/\((!(B&&J.pos))=false->W (v+d)/\(c.length=0->(1=0->(L (y (q::t::n::m::s::j::b5::b4::a7::c6::c2::b8::aj::d7)::g)).same f)/\(1≠0->8<=140737488355328/\1<=1000000000000/\1=1/\(L (y (q::t::n::m::s::j::b5::b4::a7::c6::c2::b8::E::d7)::g)).same f))/\(c.length≠0->c.length*8<=140737488355328/\c.length<=1000000000000/\c.length=c.length/\z*8<=140737488355328/\z<=1000000000000/\A=A/\(L (y (q::t::n::m::s::j::b5::b4::a7::c6::c2::b8::I::d7)::g)).same f))))/\(C=af->(w5=true->O)/\(w5=false->(((∀(k:Nat),k<6->(h<=l.at k/\l.at k<=w)/\h<=o.at k/\o.at k<=w)/\a.ok=true)/\x<=af/\af<N)/\((!(B&&K.pos))=true->O)/\((!(B&&K.pos))=false->W (v+d)/\(c.length=0->(1=0->(L (y (q::t::n::m::s::j::b9::c4::a8::c0::d2::d4::aj::b3)::g)).same f)/\(1≠0->8<=140737488355328/\1<=1000000000000/\1=1/\(L (y (q::t::n::m::s::j::b9::c4::a8::c0::d2::d4::E::b3)::g)).same f))/\(c.length≠0->c.length*8<=140737488355328/\c.length<=1000000000000/\c.length=c.length/\z*8<=140737488355328/\z<=1000000000000/\A=A/\(L (y (q::t::n::m::s::j::b9::c4::a8::c0::d2::d4::I::b3)::g)).same f))))/\(C=ag->(w6=true->O)/\(w6=false->(((∀(k:Nat),k<6->(h<=l.at k/\l.at k<=w)/\h<=o.at k/\o.at k<=w)/\a.ok=true)/\x<=ag/\ag<N)/\((!(B&&H.pos))=true->O)/\((!(B&&H.pos))=false->W (v+d)/\(c.length=0->(1=0->(L (y (q::t::n::m::s::j::d6::b0::b6::d9::a9::d5::aj::d3)::g)).same f)/\(1≠0->8<=140737488355328/\1<=1000000000000/\1=1/\(L (y (q::t::n::m::s::j::d6::b0::b6::d9::a9::d5::E::d3)::g)).same f))/\(c.length≠0->c.length*8<=140737488355328/\c.length<=1000000000000/\c.length=c.length/\z*8<=140737488355328/\z<=1000000000000/\A=A/\(L (y (q::t::n::m::s::j::d6::b0::b6::d9::a9::d5::I::d3)::g)).same f))))/\(C=aa->(w7=true->O)/\(w7=false->(((∀(k:Nat),k<6->(h<=l.at k/\l.at k<=w)/\h<=o.at k/\o.at k<=w)/\a.ok=true)/\x<=aa/\aa<N)/\(e1=true->O)/\(e1=false->W (v+d)/\(c.length=0->(1=0->am aa aj (e Q) (r))/\(1≠0->8<=140737488355328/\1<=1000000000000/\1=1/\am aa E (e Q) (r)))/\(c.length≠0->c.length*8<=140737488355328/\c.length<=1000000000000/\c.length=c.length/\z*8<=140737488355328/\z<=1000000000000/\A=A/\am aa I (e Q) (r)))))/\x<=C/\C<(8:Int)) (by kernel_rfl) ?_;simp only[vcs];have hg:=(dm hc).2.2.2.2 (oI p i) (cK (by omega));have e6:=(dm hc).1;obtain⟨h1,h2,h3⟩:=hd;have e3:∀k,k<6->(-1000<=l.at k/\l.at k<=1000)/\(-1000<=o.at k/\o.at k<=1000):=h1;have e5:0<=v/\v<=160000000:=h2;have e4:c.length<=1000:=h3;refine⟨i0,i1,by omega,?_⟩;have eo:bj p.offers i.toNat bk.off.dflt=oI p i:=rfl;simp only[eo];generalize hr:fP (qk p (xP (l,o,c,v,Q,Y,Z,X,w4,w5,w6,w7)) i)=r;simp only[qk,eY] at hr;generalize hW:iL p (xP (l,o,c,v,Q,Y,Z,X,w4,w5,w6,w7)) (oI p i)=W at*;simp only[iL] at hW;generalize oI p i=x at*;obtain⟨b,w,y⟩:=x;simp only at hg hW hr ⊢;refine⟨?_,?_,?_,?_,?_,?_,?_,?_,?_⟩;case refine_9=>
  omega
 all_goals
  rintro rfl;refine⟨λhw=>?_,λhw=>⟨⟨⟨e3,hg.2.2.1⟩,by omega,by omega⟩,λhq=>?_,λhq=>⟨by omega,λhl=>⟨λh=>absurd h (by decide),λ_=>⟨by omega,by omega,?_⟩⟩,λhl=>⟨by omega,by omega,by omega,by omega,?_⟩⟩⟩⟩;all_goals subst hw
  ·have e:W=false:=hW.symm;subst e;subst hr;exact⟨rfl,rfl⟩
  ·have e:W=false:=hW.symm.trans hq;subst e;subst hr;exact⟨rfl,rfl⟩
  ·have e:W=true:=hW.symm.trans (by simp only[ζ];exact⟨rfl,hq⟩);subst e;subst hr;have:=List.eq_nil_of_length_eq_zero hl;subst this;exact⟨rfl,rfl⟩
  ·have e:W=true:=hW.symm.trans (by simp only[ζ];exact⟨rfl,hq⟩);subst e;subst hr;exact⟨rfl,rfl⟩
def M5:bL:=⟨94,yY×bp×Int,.cons (eG sf) (.cons cY (.one (dV .i64))),λa=>bC a.2.1=0/\BA (xP a.1)/\0<=a.2.2/\a.2.2<=a.2.1.offers.length,
 λa=> .agg (gJ a.2.1 (xP a.1) a.2.2.toNat).ss⟩
def pC (p:bp) (u:jf) (i k:Nat):List Off:=((p.offers.take k).drop i).filter (iL p u)
theorem agl {p:bp} {u:jf} {i:Nat}:pC p u i i=[]:=by
 unfold pC;rw[List.drop_eq_nil_of_le (by rw[Ψ];omega)];rfl
theorem agm {p:bp} {u:jf} {i k:Nat} (hi:i<=k) (hk:k<p.offers.length):pC p u i (k+1)=pC p u i k++if iL p u (oI p k)=true then[oI p k] else[]:=by
 unfold pC;have e:oI p k=p.offers[k]:=cM (by simpa using hk);rw[List.take_succ_eq_append_getElem hk,List.drop_append_of_le_length (by rw[Ψ];omega),δa,e];congr 1;by_cases h:iL p u p.offers[k]=true;·rw[if_pos h,List.filter_cons_of_pos h];rfl
 ·rw[if_neg h,List.filter_cons_of_neg h];rfl
theorem agn {p:bp} {u:jf} {i k:Nat}:(pC p u i k).length<=p.offers.length:=by
 unfold pC;refine Nat.le_trans (γw _ _) ?_;rw[γI,Ψ];omega
def agp (l o:bz) (c:List Int) (v:Int) (w0 w1 w2 w3 w4 w5 w6 w7:Bool) (p:bp) (i:Int):Nat->cB
 |3=> .inv Int (λk=>⟨[(3,.ptr 0 0 22),(4,.ptr 1 0 20),(6,.ptr 2 0 20),(7,.ptr 3 0 20),(8,.si .i64 k)],
   [.cells (encS sf (l,o,c,v,w0,w1,w2,w3,w4,w5,w6,w7)) 137 22 false,.cells p.ss 27 20 false,
    .cells [.il .i64 0,.il .i64 0,.il .i64 0,.il .i64 0,.il .i64 0,.il .i64 0,.il .i64 0,.il .i64 0,.il .i64 0,.il .i64 0,.il .i64 0,.il .i64 0,.il .i64 0,.il .i64 0,.il .i64 0,.il .i64 0,.il .i64 0,.il .i64 0,.sc (.slice none 0 0),.sc (.slice none 0 0)] 27 20 false,
    .cells [.si .i64 l.a0,.si .i64 l.a1,.si .i64 l.a2,.si .i64 l.a3,.si .i64 l.a4,.si .i64 l.a5,.si .i64 o.a0,.si .i64 o.a1,.si .i64 o.a2,.si .i64 o.a3,.si .i64 o.a4,.si .i64 o.a5,
     .si .i64 p.cls.a0,.si .i64 p.cls.a1,.si .i64 p.cls.a2,.si .i64 p.cls.a3,.si .i64 p.cls.a4,.si .i64 p.cls.a5,.row (.i .i64) p.classes,.ow 4 (pC p (xP (l,o,c,v,w0,w1,w2,w3,w4,w5,w6,w7)) i.toNat k.toNat).length 8] 27 20 false,
    .row .off (pC p (xP (l,o,c,v,w0,w1,w2,w3,w4,w5,w6,w7)) i.toNat k.toNat) 39 true]⟩)
   (λs=>iS s 8) (λk=>i<=k/\k<=p.offers.length) (λk=>(p.offers.length - k).toNat) λ_ _=> .look
 |_=> .look
theorem h444:Holds Tryz.prog M5:=by
 refine cF (L:=[FZ]) M5 (λa=>agp a.1.1 a.1.2.1 a.1.2.2.1 a.1.2.2.2.1 a.1.2.2.2.2.1 a.1.2.2.2.2.2.1 a.1.2.2.2.2.2.2.1 a.1.2.2.2.2.2.2.2.1 a.1.2.2.2.2.2.2.2.2.1 a.1.2.2.2.2.2.2.2.2.2.1 a.1.2.2.2.2.2.2.2.2.2.2.1 a.1.2.2.2.2.2.2.2.2.2.2.2 a.2.1 a.2.2) (by grind[h443]) ?_;rintro⟨⟨l,o,c,v,w0,w1,w2,w3,w4,w5,w6,w7⟩,p,i⟩ ⟨hc,hd,i0,i1⟩;simp only at hc hd i0 i1;refine bN (let a:=Θ .i64;let k:=bq.cells;let L:=bq.row;let aa:=γD;let ab:=Φ;let ac:=γS;let ad:=(0:Int);let ae:=SV.ow;let af:=a p.cls.a0;let ag:=a p.cls.a1;let V:=a p.cls.a2;let Z:=a p.cls.a3;let X:=a p.cls.a4;let S:=a p.cls.a5;let aj:=bk.i .i64;let ah:=ab aj p.classes;let ai:=ac 0 0 22;let B:=ac 1 0 20;let J:=ac 2 0 20;let t:=ac 3 0 20;let r:=a l.a0;let G:=a l.a1;let I:=a l.a2;let E:=a l.a3;let z:=a l.a4;let F:=a l.a5;let w:=a o.a0;let H:=a o.a1;let s:=a o.a2;let K:=a o.a3;let A:=a o.a4;let C:=a o.a5;let D:=k [r,G,I,E,z,F,w,H,s,K,A,C,ab aj c,a v,aa w0,aa w1,aa w2,aa w3,aa w4,aa w5,aa w6,aa w7] 137 22 false;let M:=ab bk.off p.offers;let b:=γp .i64 0;let b1:=SV.sc (Value.slice none 0 0);let y:=k [b,b,b,b,b,b,b,b,b,b,b,b,b,b,b,b,b,b,b1,b1] 27 20 false;let h:=xP (l,o,c,v,w0,w1,w2,w3,w4,w5,w6,w7);let b4:=pC p h i.toNat i.toNat;let n:=(↑p.offers.length:Int);let N:=(↑p.offers.length:Int);let q:=gJ p h i.toNat;let f:=q.supply;let j:=q.opn;let g:=q.cls;let ak:=λ(u e:bz) (b8 b9:SV) ↦let T:=a u.a0;let Q:=a u.a1;let b0:=a u.a2;let P:=a u.a3;let b6:=a u.a4;let b7:=a u.a5;let b5:=a e.a0;let O:=a e.a1;let Y:=a e.a2;let b2:=a e.a3;let W:=a e.a4;let a7:=a e.a5;(k [T,Q,b0,P,b6,b7,b5,O,Y,b2,W,a7,af,ag,V,Z,X,S,ah,b8] 27 20 false).same (k [T,Q,b0,P,b6,b7,b5,O,Y,b2,W,a7,af,ag,V,Z,X,S,ah,b9] 27 20 false);(((ai.same ai/\B.same B/\J.same J/\t.same t/\(a i).same (a i)/\True)/\D.same D/\ak p.supply p.opn M M/\y.same y/\ak l o (ae 4 0 8) (ae 4 b4.length 8)/\(L bk.off [] 39 true).same (L bk.off b4 39 true)/\True)/\i<=i/\i<=n)/\∀(x:Int),let m:=x+(1:Int);let a8:=a m;let R:=pC p h i.toNat m.toNat;let b3:=iL p h (oI p x);let d:=pC p h i.toNat x.toNat;let a9:=d.length+1;let U:=d++[bj p.offers x.toNat bk.off.dflt];let a6:=λ(u:Nat) (e:bq) ↦bV .i64 m/\((ai.same ai/\B.same B/\J.same J/\t.same t/\a8.same a8/\True)/\D.same D/\ak p.supply p.opn M M/\y.same y/\(k [r,G,I,E,z,F,w,H,s,K,A,C,af,ag,V,Z,X,S,ah,ae 4 u 8] 27 20 false).same (k [r,G,I,E,z,F,w,H,s,K,A,C,af,ag,V,Z,X,S,ah,ae 4 R.length 8] 27 20 false)/\e.same (L bk.off R 39 true)/\True)/\(i<=m/\m<=n)/\(n - m).toNat<(n - x).toNat;i<=x/\x<=n->(decide (x<N)=true->(bC p=ad/\BA h/\ad<=x/\x<n)/\(b3=true->ad<=x/\x<N/\x.toNat<p.offers.length/\1=1/\d.length=d.length/\a9*64<=140737488355328/\a9<=1000000000000/\a6 U.length (L bk.off U 39 true))/\(b3=false->a6 d.length (L bk.off d 39 true)))/\(decide (x<N)=false->d.length=d.length/\(γC [r,G,I,E,z,F,w,H,s,K,A,C,af,ag,V,Z,X,S,ah,ab bk.off d]).same (γC [a f.a0,a f.a1,a f.a2,a f.a3,a f.a4,a f.a5,a j.a0,a j.a1,a j.a2,a j.a3,a j.a4,a j.a5,a g.a0,a g.a1,a g.a2,a g.a3,a g.a4,a g.a5,ab aj q.classes,ab bk.off q.offers]))) (by kernel_rfl) ?_;simp only[vcs];have hl:p.offers.length<=160:=(dm hc).2.1;generalize hu:xP (l,o,c,v,w0,w1,w2,w3,w4,w5,w6,w7)=u at*;have e0:=@agl p u i.toNat;refine⟨⟨⟨by rw[e0];rfl,by rw[e0];rfl⟩,by omega,by omega⟩,?_⟩;rintro k ⟨k0,k1⟩;have c0:=@agn p u i.toNat k.toNat;refine⟨λhk=>?_,λhk=>?_⟩
 ·have eS:=@agm p u i.toNat k.toNat (by omega) (by omega);rw[show((k.toNat:Nat):Int)=k by omega] at eS;have eo:bj p.offers k.toNat bk.off.dflt=oI p k:=rfl;rw[show(k+1).toNat=k.toNat+1 by omega,eS,eo];refine⟨⟨hc,hd,by omega,by omega⟩,λhw=>?_,λhw=>?_⟩
  ·rw[if_pos hw];refine⟨?_,?_,?_,?_,?_,?_,⟨rfl,rfl⟩,?_,?_⟩<;>omega
  ·rw[if_neg (by rw[hw];simp),γZ];refine⟨?_,⟨rfl,rfl⟩,?_,?_⟩<;>omega
 ·rw[show k.toNat=p.offers.length by omega];subst hu;unfold pC;rw[ψ];rfl
noncomputable def M6:bL:=⟨55,bp×Int,.cons cY (.one (dV .i64)),λa=>(bC a.1=0/\a.1.offers.length<=15)/\a.2=(cz a.1).value,
 λa=> .bH [.row (.i .i64) (cz a.1).chosen,.si .i64 0]⟩
noncomputable def agq (p:bp) (m:Int):Nat->cB
 |3=> .inv Int (λk=>⟨[(1,.si .i64 m),(2,.ptr 0 0 20),(6,.ptr 1 0 22),(21,.si .i64 p.offers.length),(22,.si .i64 k)],
   [.cells p.ss 27 20 false,.cells (encS sf (fP (jV p m k.toNat))) 137 22 false,.dead]⟩)
   (λs=>iS s 22) (λk=>0<=k/\k<=p.offers.length) (λk=>(p.offers.length - k).toNat) λ_ _=> .look
 |_=> .look
theorem agr {α β:Type} (x:α×β):(x.1,x.2)=x:=rfl
theorem V1 {p:bp} {m:Int} {k:Nat} (h:(jV p m k).value=m):∀n,jV p m (k+n)=jV p m k
 |0=>rfl
 |n+1=>by
  have ih:=V1 h n;show rb p m (jV p m (k+n)) _=_;rw[ih];unfold rb;rw[if_pos h]
theorem ags {p:bp} {u:jf} {i:Int} (h:u.won.length=8):(qk p u i).won.length=8:=by
 unfold qk;split
 ·show(u.won.set _ true).length=8;rw[γb];exact h
 ·rfl
theorem V2 {p:bp} {u:jf} (hc:bC p=0) (hG:sd p u):BA u:=by
 have hq:=FV hc hG (k:=0);have h1:=yX.1 (qH (qI hq).1).1;have h2:∀k,k<6->0<=u.opn.at k/\u.opn.at k<=u.left.at k:=λk hk=>⟨(wC hq hk).2.2.1,(wC hq hk).2.2.2.1⟩;have hf:=(uo hc).2 hG.f;obtain⟨v0,v1,v2⟩:=wB hc hf;have hv:u.value=dH p u.chosen:=by rw[hG.v,sT hc hG.f]
 refine⟨λk hk=>?_,by omega,by omega⟩;have a:=h1 k hk;have b:=h2 k hk;have a':0<=u.left.at k/\u.left.at k<=4:=a;omega
theorem h436:Holds Tryz.prog M6:=by
 refine cF (L:=[FZ,M5,MO]) M6 (λa=>agq a.1 a.2) (by grind[h443,h444,h434]) ?_;rintro⟨p,m⟩ ⟨⟨H,b6⟩,hm⟩;simp only at H b6 hm;refine bN (let a:=Θ .i64;let e:=γD;let h:=(0:Int);let j:=bq.cells;let k:=Φ;let H:=bV .i64;let L:=(65536:Int);let O:=SV.bH;let R:=γS 0 0 20;let Q:=γS 1 0 22;let F:=(↑p.offers.length:Int);let W:=a F;let aa:=γp .i64 0;let ab:=a 0;let ac:=a p.supply.a0;let ad:=a p.supply.a1;let ae:=a p.supply.a2;let af:=a p.supply.a3;let b0:=a p.supply.a4;let a8:=a p.supply.a5;let T:=a p.opn.a0;let V:=a p.opn.a1;let c1:=a p.opn.a2;let b4:=a p.opn.a3;let b7:=a p.opn.a4;let Z:=a p.opn.a5;let f:=bk.i .i64;let B:=j [ac,ad,ae,af,b0,a8,T,V,c1,b4,b7,Z,a p.cls.a0,a p.cls.a1,a p.cls.a2,a p.cls.a3,a p.cls.a4,a p.cls.a5,k f p.classes,k bk.off p.offers] 27 20 false;let g:=δo false;let z:=fP (jV p m 0);let G:=z.fst;let v:=z.snd.fst;let y:=z.snd.snd.snd.snd.snd;let b5:=y.snd.snd.snd.snd.snd;let c7:=O [k f (cz p).chosen,ab];0=0/\((((a m).same (a m)/\R.same R/\Q.same Q/\(a (↑p.offers.length:Int)).same W/\aa.same ab/\True)/\B.same B/\(j [ac,ad,ae,af,b0,a8,T,V,c1,b4,b7,Z,k f [],aa,g,g,g,g,g,g,g,g] 137 22 false).same (j [a G.a0,a G.a1,a G.a2,a G.a3,a G.a4,a G.a5,a v.a0,a v.a1,a v.a2,a v.a3,a v.a4,a v.a5,k f z.snd.snd.fst,a z.snd.snd.snd.fst,e z.snd.snd.snd.snd.fst,e y.fst,e y.snd.fst,e y.snd.snd.fst,e y.snd.snd.snd.fst,e y.snd.snd.snd.snd.fst,e b5.fst,e b5.snd] 137 22 false)/\bq.dead.same bq.dead/\True)/\h<=h/\h<=F)/\∀(x:Int),let b:=x+(1:Int);let K:=a b;let o:=fP (jV p m x.toNat);let s:=o.fst;let n:=o.snd.fst;let S:=k f o.snd.snd.fst;let M:=o.snd.snd.snd.fst;let b3:=o.snd.snd.snd.snd.fst;let c:=o.snd.snd.snd.snd.snd;let b2:=c.snd.snd.snd.snd.fst;let J:=c.snd.snd.snd.snd.snd;let A:=fP (jV p m b.toNat);let E:=A.fst;let C:=A.snd.fst;let D:=A.snd.snd.snd.snd.snd;let a7:=D.snd.snd.snd.snd.snd;let b8:=j [a E.a0,a E.a1,a E.a2,a E.a3,a E.a4,a E.a5,a C.a0,a C.a1,a C.a2,a C.a3,a C.a4,a C.a5,k f A.snd.snd.fst,a A.snd.snd.snd.fst,e A.snd.snd.snd.snd.fst,e D.fst,e D.snd.fst,e D.snd.snd.fst,e D.snd.snd.snd.fst,e D.snd.snd.snd.snd.fst,e a7.fst,e a7.snd] 137 22 false;let I:=xP (s,n,o.snd.snd.fst,M,b3,c.fst,c.snd.fst,c.snd.snd.fst,c.snd.snd.snd.fst,b2,J.fst,J.snd);let t:=(fP (qk p I x)).fst;let l:=(fP (qk p I x)).snd;let q:=l.fst;let r:=l.snd.snd.fst;let c3:=l.snd.snd.snd.snd.fst;let d:=l.snd.snd.snd.snd.snd;let Y:=d.snd.snd.snd.snd.fst;let U:=d.snd.snd.snd.snd.snd;let N:=gJ p (xP (t,q,l.snd.fst,r,l.snd.snd.snd.fst,c3,d.fst,d.snd.fst,d.snd.snd.fst,d.snd.snd.snd.fst,Y,U)) b.toNat;let a9:=iT N (m - r) L;let a6:=H b/\(((a m).same (a m)/\R.same R/\Q.same Q/\W.same W/\K.same K/\True)/\B.same B/\(j [a s.a0,a s.a1,a s.a2,a s.a3,a s.a4,a s.a5,a n.a0,a n.a1,a n.a2,a n.a3,a n.a4,a n.a5,S,a M,e b3,e c.fst,e c.snd.fst,e c.snd.snd.fst,e c.snd.snd.snd.fst,e b2,e J.fst,e J.snd] 137 22 false).same b8/\bq.dead.same bq.dead/\True)/\(h<=b/\b<=F)/\(F - b).toNat<(F - x).toNat;let c4:=(O [S,aa]).same c7;let b1:=λ(u:Bool) ↦jU N (m - r) L=u;let c0:=λ(u:Bool) ↦decide (a9≠h)=u;let c5:=λ(u:jf) ↦let w:=(fP u).snd.snd.snd.snd;let P:=w.snd.snd.snd.snd.snd;BA (xP ((fP u).fst,(fP u).snd.fst,(fP u).snd.snd.fst,(fP u).snd.snd.snd.fst,w.fst,w.snd.fst,w.snd.snd.fst,w.snd.snd.snd.fst,w.snd.snd.snd.snd.fst,P.fst,P.snd.fst,P.snd.snd));let c6:=λ(u:Bool) ↦(!iL p I (oI p x))=u;let X:=λ(u:Bool) ↦decide (M=m)=u;h<=x/\x<=F->(decide (x<F)=true->(X true->c4)/\(X false->(bC p=h/\c5 (jV p m x.toNat)/\h<=x/\x<F)/\(c6 true->a6)/\(c6 false->H b/\(bC p=h/\c5 (qk p I x)/\h<=b/\b<=F)/\H (m - r)/\(N.offers.length<=40/\(-9223372036854775808:Int)<=m - r/\m - r<=(9223372036854775807:Int))/\(c0 true->(O [k f [],a a9]).same c7)/\(c0 false->(b1 true->H b/\(((a m).same (a m)/\R.same R/\Q.same Q/\W.same W/\K.same K/\True)/\B.same B/\(j [a t.a0,a t.a1,a t.a2,a t.a3,a t.a4,a t.a5,a q.a0,a q.a1,a q.a2,a q.a3,a q.a4,a q.a5,k f l.snd.fst,a r,e l.snd.snd.snd.fst,e c3,e d.fst,e d.snd.fst,e d.snd.snd.fst,e d.snd.snd.snd.fst,e Y,e U] 137 22 false).same b8/\bq.dead.same bq.dead/\True)/\(h<=b/\b<=F)/\(F - b).toNat<(F - x).toNat)/\(b1 false->a6)))))/\(decide (x<F)=false->c4)) (by kernel_rfl) ?_;simp only[vcs];simp only[agr];refine⟨⟨rfl,by omega,by omega⟩,?_⟩;rintro k ⟨k0,k1⟩;obtain⟨hG,hC⟩:=MZ H b6 k.toNat (by omega);rw[<-hm] at hG hC;generalize hu:jV p m k.toNat=u at*;have hW:=@ags p u k hG.wl;simp only[V0 hG.wl,V0 hW];have c9:jV p m (k+1).toNat=rb p m u k:=by
  rw[show(k+1).toNat=k.toNat+1 by omega];grind[jV]
 have hD:=V2 H hG;refine⟨λhk=>⟨λhv=>?_,λc2=>⟨⟨H,hD,by omega,by omega⟩,λhw=>?_,λhw=>?_⟩⟩,λhk=>?_⟩
 ·have h1:=@V1 p m k.toNat (by rw[hu];exact hv) (p.offers.length - k.toNat);rw[show k.toNat+(p.offers.length - k.toNat)=p.offers.length by omega,hu] at h1;show u.chosen=_;grind[VZ]
 ·have hv:¬u.value=m:=c2;have e:jV p m (k+1).toNat=u:=by simp_all[rb]
  rw[e];refine⟨?_,rfl,?_,?_⟩<;>omega
 ·have hv:¬u.value=m:=c2;have hy:qk p u k=eY p u k:=by simp_all[qk]
  rw[hy];have c8:∀j∈u.chosen,j<k:=λj hj=>by
   grind
  have b9:=hG.next H c8 ⟨by omega,by omega⟩ hw;have W:=V2 H b9;have hq:=FV H b9 (k:=(k+1).toNat);have d0:(gJ p (eY p u k) (k+1).toNat).offers.length<=15:=by
   have h1:=γw (iL p (eY p u k)) (p.offers.drop (k+1).toNat);rw[γI] at h1;show((p.offers.drop _).filter _).length<=15;omega
  have O:iT (gJ p (eY p u k) (k+1).toNat) (m - (eY p u k).value) 65536=0:=MK hq (by omega) (by
   have:2^((gJ p (eY p u k) (k+1).toNat).offers.length+1)<=2^16:=δt (by omega) (by omega);omega);have d1:0<=m/\m<=160000000:=by
   obtain⟨f1,f2⟩:=FX H;have:=wB H ((uo H).2 f1);grind[sT]
  have d2:0<=(eY p u k).value/\(eY p u k).value<=160000000:=W.2.1;have ev:(fP (eY p u k)).2.2.2.1=(eY p u k).value:=rfl;rw[ev,O];have er:jV p m (k+1).toNat=if jU (gJ p (eY p u k) (k+1).toNat) (m - (eY p u k).value) 65536=true then eY p u k else u:=by
   simp_all[rb]
  refine⟨by omega,⟨H,W,by omega,by omega⟩,by omega,⟨by omega,by omega,by omega⟩,λh=>absurd rfl h,λ_=>⟨λhb=>?_,λhb=>?_⟩⟩
  ·rw[er,if_pos hb];refine⟨?_,rfl,?_,?_⟩<;>omega
  ·rw[er,if_neg (by rw[hb];simp)];refine⟨?_,rfl,?_,?_⟩<;>omega
 ·show u.chosen=_;grind[VZ]
noncomputable def BD (p:bp):List ra:=(iF p (gx p (jP p)).chosen 65536).prf
noncomputable def M7:bL:=⟨22,bp,.one cY,λp=>bC p≠0\/p.offers.length<=15,
 λp=> .bH [.agg [.row (.i .i64) (if bC p=0 then(cz p).chosen else[]),.si .i64 (if bC p=0 then(cz p).value else 0),.row ek (if bC p=0 then BD p else[])],.si .i64 (bC p)]⟩
theorem h427:Holds Tryz.prog M7:=by
 refine cF (L:=[pU,A7,A8,MN,M6]) M7 lk (by grind[h79,h312,h315,h429,h436]) ?_;rintro(p:bp) (y:bC p≠0\/p.offers.length<=15);refine bN (let a:=(0:Int);let b:=Θ .i64;let d:=Φ;let h:=(65536:Int);let l:=SV.bH;let o:=γC;let k:=bk.i .i64;let w:=[b (bC p)];let m:=l (o [d k (if bC p=a then(cz p).chosen else[]),b (if bC p=a then(cz p).value else a),d ek (if bC p=a then BD p else[])]::w);let t:=γp .i64 0;let v:=o [d k [],t,d k []];let x:=decide (bC p≠a);let q:=(gx p (jP p)).chosen;let j:=kx p q h;let f:=decide (j≠a);let g:=iF p q h;let e:=if j=a then g.val else a;let B:=λ(u c:Bool) (n:List SV) ↦u=c->(l n).same m;let r:=λ(u:Bool) (c:Int) ↦u=true->(l [v,b c]).same m;True/\(x=true->(l (v::w)).same m)/\(x=false->p.offers.length<=40/\(jP p).length<=9223372036854775807/\(p.offers.length<=40/\q.length<=9223372036854775807)/\r f j/\(f=false->((bC p=a/\p.offers.length<=15)/\e=(cz p).value)/\r false a/\B false false [o [d k (cz p).chosen,b e,d ek (if j=a then g.prf else[])],t]))) (by kernel_rfl) ?_;simp only[vcs];by_cases a:bC p=0
 ·have l:p.offers.length<=15:=y.resolve_left λh=>h a;obtain⟨o,_⟩:=Bw a;have D:=MM a;have A:=(wB a o).2.2;have b:((1+2^(p.offers.length+1):Nat):Int)<=65536+2:=by
   have:2^(p.offers.length+1)<=2^16:=δt (by omega) (by omega);omega
  have d:kx p (gx p (jP p)).chosen 65536=0:=af5 a o (by omega) b;obtain⟨_,C,z⟩:=VN a o (most:=65536) (by omega);have s:=(C (z b)).2.1;simp only[d,a,if_true];refine⟨λh=>absurd rfl h,λ_=>⟨by omega,by omega,⟨by omega,by omega⟩,λh=>absurd rfl h,λ_=>⟨⟨⟨trivial,l⟩,s⟩,λh=>(by cases h),λ_=>⟨?_,trivial⟩⟩⟩⟩;rw[s];rfl
 ·refine⟨λ_=>?_,λh=>absurd a h⟩;rw[if_neg a,if_neg a,if_neg a];rfl
theorem M8 {p:bp} (hc:bC p=0):kh p (cz p).chosen/\dH p (cz p).chosen=(cz p).value/\(cz p).value=ez p:=by
 obtain⟨_,h2,h3,h4⟩:=x5 hc;have hF:kh p (cz p).chosen:=⟨h3,h2⟩;exact⟨hF,by rw[sT hc hF,h4],(DX hc).symm⟩
theorem agt {p:bp} (hc:bC p=0) {l:List Int} (h:kh p l):dH p l<=ez p:=by
 rw[sT hc h];exact Ad hc h.2 (vK (dm hc) (xZ h.1))
theorem agu {p:bp} (hc:bC p=0) {k:Int} (h0:0<=k) (h1:k<p.offers.length):kh p [k]:=by
 refine⟨⟨by simp,λj hj=>?_⟩,?_⟩;·obtain rfl:=List.mem_singleton.1 hj;omega
 have hx:bj p.offers k.toNat bk.off.dflt∈p.offers:=cK (by omega);exact Je (p:=p) (L:=[bj p.offers k.toNat bk.off.dflt]) (by simp) (xI ((qI hc).2 _ hx)).2.2
theorem agv {p:bp} (a:bC p=0) {k:Int} (d:0<=k) (b:k<p.offers.length):
  ez (eI p k)<=ez p/\oo p k+ez (jL p k)<=ez p/\
  (k∈(cz p).chosen->ez p=oo p k+ez (jL p k))/\(k∉(cz p).chosen->ez p=ez (eI p k)):=by
 obtain⟨g,h,o⟩:=M8 a;obtain⟨⟨s,q,f⟩,m,t,j⟩:=@D8 p k (pe p) (0,0);have e:=agu a d b;have r:dH p [k]=oo p k:=by grind[sT,cj,bZ,oo]
 have i:∀l∈pe p,dH p l<=ez p:=λl c=>agt a ((uq a).1 c);have n:=Aa p;grind[uq,abH,abM]
theorem V3 {b:Int}:∀{L:List Off} {s:Int×Int},(∀x∈L,x.bD≠b)->(L.foldl (Ab b) s).1=s.1
 |[],_,_=>rfl
 |x::L,s,h=>by
  rw[List.foldl_cons,V3 λy hy=>h y (by simp[hy])];unfold Ab;rw[if_neg (h x (by simp))]
theorem agw {b:Int} {d c:List Off} {x:Off} {s:Int×Int} (g:x.bD=b) (h:((d++x::c).map Off.bD).Nodup):((d++x::c).foldl (Ab b) s).1=x.value/\∀y∈d++c,y.bD≠b:=by
 rw[γd,γx] at h;obtain⟨_,f,j⟩:=h;rw[ι,List.nodup_cons] at f;have i:∀y∈c,y.bD≠b:=λy a e=>f.1 (by simp_all);refine⟨?_,λy a=>?_⟩;·simp_all[V3,Ab]
 ·rcases γc.1 a with a|a<;>simp_all
theorem agx {p:bp} (hc:bC p=0) {b:Int} (h0:0<=b) (h1:b<p.classes.length):
  mT (kH p (cz p).chosen) b=if(DK p (cz p).chosen b).1=0 then 0 else ez (qP p b) - (ez p - (DK p (cz p).chosen b).1):=by
 obtain⟨hF,hv,ht⟩:=M8 hc;obtain⟨ho,_,_,hs⟩:=x5 hc;have hd:=(QE ho).2.1;have hown:=abh (c:=(cz p).chosen) (dm hc) (xZ hF.1) h0 h1;have hsum:i6 p (cz p).chosen=ez p:=by unfold i6;rw[zW];omega
 rw[hd,abE hc h0 h1];unfold mT;simp only[hown,hsum]
theorem agy {p:bp} (a:bC p=0) {i:Int} (r:0<=i) (m:i<p.offers.length) (n:i∈(cz p).chosen)
  (z:∀j:Nat,j<p.offers.length->(bj p.offers j bk.off.dflt).bD=(bj p.offers i.toNat bk.off.dflt).bD->(j:Int)=i):
  mT (kH p (cz p).chosen) (bj p.offers i.toNat bk.off.dflt).bD=pY p i:=by
 have v:=dm a;obtain⟨u,g,A⟩:=M8 a;have t:=cK (d:=bk.off.dflt) (show i.toNat<p.offers.length by omega);have g:=v.2.2.2.2 _ t;have k:bj p.offers i.toNat bk.off.dflt∈cj p (cz p).chosen:=List.mem_map_of_mem (f:=λi:Int=>bj p.offers i.toNat bk.off.dflt) n;obtain⟨B,C,o⟩:=εC k;have b:=agw (s:=(0,0)) rfl (o▸u.2.1);rw[<-o,<-Ro] at b;change (DK p (cz p).chosen _).1=_/\_ at b;rw[agx a g.1 g.2.1,b.1,if_neg (by omega)];obtain⟨_,_,c,_⟩:=agv a r m;have l:=c n;have x:qP p (bj p.offers i.toNat bk.off.dflt).bD=eI p i:=by
  rw[RI (vN a) r m];unfold qP;congr 1;refine εI λy w=>?_;rw[decide_eq_decide];refine⟨λh e=>h (by rw[e]),λh e=>h ?_⟩;obtain⟨j,q,rfl⟩:=εW.1 w;have:=z j q (by grind[cM]);rw[<-this,Int.toNat_natCast,cM q]
 rw[x];unfold pY;change ez p=(bj p.offers i.toNat bk.off.dflt).value+_ at l;omega
def wE (c:List Int) (k:Int):Bool:=decide (k∈c)
def M9:bL:=⟨23,Alloc×Int,.cons lC (.one (dV .i64)),λa=>a.1.chosen.length<=1000000000000,λa=> .sb (wE a.1.chosen a.2)⟩
def agz (a:Alloc×Int):Nat->cB
 |2=> .inv Int (λi=>⟨[(1,.si .i64 a.2),(2,.ptr 0 0 2),(5,.si .i64 i)],[.cells [.row (.i .i64) a.1.chosen,.si .i64 a.1.value] 41 2 false]⟩) (λs=>iS s 5)
  (λi=>0<=i/\i<=a.1.chosen.length/\a.2∉a.1.chosen.take i.toNat) (λi=>(a.1.chosen.length - i).toNat) λ_ _=> .look
 |_=> .look
theorem h470:Holds Tryz.prog M9:=by
 refine cF (L:=[]) M9 agz (by simp) ?_;rintro⟨⟨c,v⟩,k⟩ (p:c.length<=1000000000000);refine bN (let f:=Θ .i64;let h:=(0:Int);let e:=γS 0 0 2;let d:=bq.cells [Φ (bk.i .i64) c,f v] 41 2 false;let b:=(↑c.length:Int);((((f k).same (f k)/\e.same e/\(γp .i64 0).same (f 0)/\True)/\d.same d/\True)/\h<=h/\h<=b/\(k∈[]->False))/\∀(x:Int),let g:=decide (x<(↑c.length:Int));let j:=decide (bj c x.toNat h=k);let a:=x+(1:Int);let l:=f a;h<=x/\x<=b/\(k∈List.take x.toNat c->False)->(g=true->h<=x/\x<(↑c.length:Int)/\x.toNat<c.length/\(j=true->(δo true).same (γD (wE c k)))/\(j=false->bV .i64 a/\(((f k).same (f k)/\e.same e/\l.same l/\True)/\d.same d/\True)/\(h<=a/\a<=b/\(k∈List.take a.toNat c->False))/\(b - a).toNat<(b - x).toNat))/\(g=false->(δo false).same (γD (wE c k)))) (by kernel_rfl) ?_;simp only[vcs];refine⟨⟨by omega,by omega,by simp⟩,?_⟩;rintro i ⟨m,q,n⟩;refine⟨λf=>⟨m,f,by omega,λh=>?_,λh=>⟨⟨by omega,by omega⟩,⟨by omega,by omega,?_⟩,by omega⟩⟩,λo=>?_⟩;·grind[cK,wE]
 ·grind[jo]
 ·rw[show i.toNat=c.length by omega,ψ] at n;grind[wE]
theorem agA {p:bp} (hc:bC p=0):(mU p (cz p).chosen).length=p.classes.length/\∀x:Int,0<=x->x<p.classes.length->bj (mU p (cz p).chosen) x.toNat 0=mT (kH p (cz p).chosen) x:=by
 have ho:=(x5 hc).1;have pl:(mU p (cz p).chosen).length=p.classes.length:=by simp[mU,ho,Ix]
 refine⟨pl,λx h0 h1=>?_⟩;rw[cM (by omega)];simp only[mU,ho,if_true,lj,List.getElem_map,List.getElem_range,Iu,show((x.toNat:Nat):Int)=x by omega]
theorem agB {p:bp} (hc:bC p=0):vM p (cz p).chosen/\(cz p).chosen.length<=160/\dc p (cz p).chosen=0:=by
 obtain⟨ho,_,ht,_⟩:=x5 hc;have hz:dc p (cz p).chosen=0:=aa4 (abf▸ho);exact⟨xZ ht,(xW hz).2.2.2.1,hz⟩
def pD (p:bp) (b:Int) (k:Nat):Int:=(((p.offers.take k).filter λx=>decide (x.bD=b)).length:Nat)
theorem agC (p:bp) (b:Int) (k:Nat):0<=pD p b k/\pD p b k<=p.offers.length:=by
 have h1:=γw (λx:Off=>decide (x.bD=b)) (p.offers.take k);simp only[Ψ] at h1;unfold pD;omega
theorem agD {p:bp} {b i:Int} (h0:0<=i) (h1:i<p.offers.length):pD p b (i+1).toNat=pD p b i.toNat+if(bj p.offers i.toNat bk.off.dflt).bD=b then 1 else 0:=by
 unfold pD;rw[jo (d:=bk.off.dflt) h0 h1,δa,κ];by_cases h:(bj p.offers i.toNat bk.off.dflt).bD=b;·rw[if_pos h,δu,if_pos (by simpa using h)];simp
 ·rw[if_neg h,δu,if_neg (by simpa using h)];simp
theorem V4 {f:Off->Bool} {l:List Off} {i j:Nat} (hij:i<j) (hj:j<l.length) (h1:f (l[i]'(by omega))=true) (h2:f l[j]=true):2<=(l.filter f).length:=by
 rw[<-Δ j l,δa,κ];have a:0<((l.take j).filter f).length:=ζs (a:=l[i]) (γu.2 ⟨List.mem_take_iff_getElem.2 ⟨i,by omega,rfl⟩,h1⟩);have b:0<((l.drop j).filter f).length:=ζs (a:=l[j]) (γu.2 ⟨List.mem_drop_iff_getElem.2 ⟨0,by omega,by simp⟩,h2⟩);omega
theorem agE {p:bp} {i:Int} (h:0<=i/\i<p.offers.length) (a:1=pD p (bj p.offers i.toNat bk.off.dflt).bD p.offers.length) (j:Nat) (d:j<p.offers.length) (c:(bj p.offers j bk.off.dflt).bD=(bj p.offers i.toNat bk.off.dflt).bD):(j:Int)=i:=by
 have b:i.toNat<p.offers.length:=by omega
 unfold pD at a;rw[ψ] at a;rw[cM d,cM b] at c;rw[cM b] at a;by_cases f:j<i.toNat;·grind[V4]
 ·by_cases e:i.toNat<j<;>grind[V4,decide]
noncomputable def V5 (p:bp):bW:=[.cells p.ss 27 20 false,.cells [.row (.i .i64) (cz p).chosen,.si .i64 (cz p).value,.row ek (BD p)] 45 3 false]
noncomputable def V6 (p:bp) (i:Int):eZ:=[(1,.ptr 0 0 20),(3,.ptr 1 0 3),(5,.row (.i .i64) (mU p (cz p).chosen)),(7,.row (.i .i64) (ju p p.offers.length)),(9,.si .i64 i)]
def Na:bL:=⟨12,bp,.one cY,λ_=>True,λ_=> .sb true⟩
noncomputable def agF (p:bp):Nat->cB
 |9=> .inv Int (λi=>⟨V6 p i,V5 p⟩) (λs=>iS s 9) (λi=>0<=i/\i<=p.offers.length) (λi=>(p.offers.length - i).toNat) λi=>λ
  |13=> .inv (Int×Int) (λx=>⟨V6 p i++[(10,.si .i64 x.2),(11,.si .i64 x.1)],V5 p⟩) (λs=>(iS s 11,iS s 10)) (λx=>0<=x.1/\x.1<=p.offers.length/\x.2=pD p (bj p.offers i.toNat bk.off.dflt).bD x.1.toNat)
   (λx=>(p.offers.length - x.1).toNat) λ_ _=> .look
  |_=> .look
 |_=> .look
theorem h466:Holds Tryz.prog Na:=by
 refine cF (L:=[Jn,IE,Ju,M7,Iy,D5,M9]) Na agF (by grind[h28,h24,h29,h427,h17,h37,h470]) ?_;intro(p:bp) _;refine bN (let b:=Θ .i64;let d:=(0:Int);let h:=δo false;let k:=Φ;let n:=γD;let v:=bV .i64;let w:=γp .i64 0;let F:=(1:Int);let L:=γp .i64;let N:=bq.cells;let y:=(cz p).chosen;let C:=if bC p=d then y else[];let A:=p.offers.length;let T:=!decide (p.classes.length<=8/\A<=9);let B:=decide (bC p≠d);let M:=p.offers.length;let z:=(↑M:Int);let U:=decide ((↑(rO p).length:Int)≠z);let f:=γS 0 0 20;let j:=γS 1 0 3;let r:=bk.i .i64;let l:=k r (mU p y);let o:=k r (ju p A);let g:=N [b p.supply.a0,b p.supply.a1,b p.supply.a2,b p.supply.a3,b p.supply.a4,b p.supply.a5,b p.opn.a0,b p.opn.a1,b p.opn.a2,b p.opn.a3,b p.opn.a4,b p.opn.a5,b p.cls.a0,b p.cls.a1,b p.cls.a2,b p.cls.a3,b p.cls.a4,b p.cls.a5,k r p.classes,k bk.off p.offers] 27 20 false;let m:=N [k r y,b (cz p).value,k ek (BD p)] 45 3 false;let a:=(↑A:Int);let I:=bk.off.dflt;let O:=λ(u:Bool) ↦decide ((↑(mU p C).length:Int)≠(↑p.classes.length:Int))=u;let W:=λ(u:Bool) ↦decide (j8 p C≠d)=u;True/\(T=true->True/\(n true).same (n true))/\(T=false->True/\(B=true->True/\(n true).same (n true))/\(B=false->(bC p≠d\/A<=15)/\C.length<=1000000000000/\True/\(B=true->(h).same (n true))/\(B=false->(W true->(h).same (n true))/\(W false->(B=true->(h).same (n true))/\(B=false->(O true->(h).same (n true))/\(O false->(U=true->(h).same (n true))/\(U=false->(((f.same f/\j.same j/\(k r (mU p C)).same l/\(k r (rO p)).same o/\(w).same (b 0)/\True)/\g.same g/\(N [k r C,b (if bC p=d then(cz p).value else d),k ek (if bC p=d then BD p else[])] 45 3 false).same m/\True)/\d<=d/\d<=a)/\∀(x:Int),let q:=(bj p.offers x.toNat I).bD;let G:=decide (bj (mU p y) q.toNat d≠bj (ju p A) x.toNat d);let e:=x+F;let t:=b e;d<=x/\x<=a->(decide (x<z)=true->(((f.same f/\j.same j/\l.same l/\o.same o/\(b x).same (b x)/\(w).same (b 0)/\(w).same (b 0)/\True)/\g.same g/\m.same m/\True)/\d<=d/\d<=a/\d=pD p q 0)/\∀(c:Int×Int),let s:=c.fst+F;let K:=b x;let J:=b s;let H:=decide ((bj p.offers c.fst.toNat I).bD=q);let E:=decide (c.snd=F);let D:=λ(u:Int) ↦v s/\((f.same f/\j.same j/\l.same l/\o.same o/\K.same K/\(b u).same (b u)/\J.same J/\True)/\g.same g/\m.same m/\True)/\(d<=s/\s<=a/\u=pD p q s.toNat)/\(a - s).toNat<(a - c.fst).toNat;d<=c.fst/\c.fst<=a/\c.snd=pD p q c.fst.toNat->(decide (c.fst<z)=true->d<=c.fst/\c.fst<z/\c.fst.toNat<M/\d<=x/\x<z/\x.toNat<M/\(H=true->v (c.snd+F)/\D (c.snd+F))/\(H=false->D c.snd))/\(decide (c.fst<z)=false->(E=true->y.length<=1000000000000/\(wE y x=true->d<=x/\x<z/\x.toNat<M/\d<=q/\q<(↑(mU p y).length:Int)/\q.toNat<(mU p y).length/\d<=x/\x<(↑(ju p A).length:Int)/\x.toNat<(ju p A).length/\(G=true->(h).same (n true))/\(G=false->v e/\((f.same f/\j.same j/\l.same l/\o.same o/\t.same t/\True)/\g.same g/\m.same m/\True)/\(d<=e/\e<=a)/\(a - e).toNat<(a - x).toNat))/\(wE y x=false->v e/\((f.same f/\j.same j/\l.same l/\o.same o/\t.same t/\True)/\g.same g/\m.same m/\True)/\(d<=e/\e<=a)/\(a - e).toNat<(a - x).toNat))/\(E=false->v e/\((f.same f/\j.same j/\l.same l/\o.same o/\t.same t/\True)/\g.same g/\m.same m/\True)/\(d<=e/\e<=a)/\(a - e).toNat<(a - x).toNat)))/\(decide (x<z)=false->True/\(n true).same (n true)))))))))) (by kernel_rfl) ?_;simp only[vcs];refine⟨λ_=>trivial,λc1=>⟨λ_=>trivial,λc2=>?_⟩⟩;have v:bC p=0:=Classical.not_not.1 c2;obtain⟨hi,N,hz⟩:=agB v;obtain⟨pl,pn⟩:=agA v;have ho:=(x5 v).1;have Y:=dm v;have Z:rO p=ju p p.offers.length:=by grind[rO]
 refine⟨.inr (by omega),by grind,λh=>absurd v h,λ_=>⟨λh=>absurd (by simp_all) h,λ_=>⟨λh=>absurd v h,λ_=>⟨λh=>absurd (by simp_all) h,λ_=>⟨λh=>absurd (by rw[Z,Rl]) h,λ_=>⟨⟨⟨⟨by rw[if_pos v],Z⟩,by rw[if_pos v,if_pos v,if_pos v];exact rfl⟩,by omega,by omega⟩,?_⟩⟩⟩⟩⟩⟩;rintro i ⟨P,i1⟩;refine⟨λF=>⟨⟨by omega,by omega,by simp[pD]⟩,?_⟩,λ_=>trivial⟩;rintro⟨k,n⟩ ⟨X,k1,V⟩;simp only at X k1 V ⊢;have O:=Y.2.2.2.2 _ (cK (d:=bk.off.dflt) (show i.toNat<p.offers.length by omega));have a7:=agC p (bj p.offers i.toNat bk.off.dflt).bD k.toNat;have a6:=Y.2.1;refine⟨λS=>?_,λS=>?_⟩
 ·have hs:=agD (b:=(bj p.offers i.toNat bk.off.dflt).bD) X S;omega
 ·have w:(-9223372036854775808<=i+1/\i+1<=9223372036854775807)/\(0<=i+1/\i+1<=p.offers.length)/\((p.offers.length:Int) - (i+1)).toNat<(p.offers.length - i).toNat:=⟨⟨by omega,by omega⟩,⟨by omega,by omega⟩,by omega⟩;refine⟨λh1=>⟨by omega,λha=>⟨P,F,by omega,O.1,by omega,by omega,P,by simp_all,by simp_all,λh=>?_,λ_=>w⟩,λ_=>w⟩,λ_=>w⟩;have R:i∈(cz p).chosen:=of_decide_eq_true ha;have Q:k.toNat=p.offers.length:=by omega
  rw[Q] at V;rw[pn _ O.1 O.2.1,agy v P F R (agE (by omega) (by omega)),cM (by simp_all)] at h;grind[ju]
end Go.Vi
