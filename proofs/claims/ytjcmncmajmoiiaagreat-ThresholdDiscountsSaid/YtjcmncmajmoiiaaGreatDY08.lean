/-
  Plain law: the bounds of Vickrey payments at the best allocation.
  Conditions: none.
-/
import Derived.KernelRfl
import Derived.Test.YtjcmncmajmoiiaaGreatDY06
import Derived.Test.YtjcmncmajmoiiaaGreatDY07
set_option maxRecDepth 100000
set_option maxHeartbeats 4000000
set_option linter.all false
open And renaming intro->γi
open BitVec renaming ofInt->γv
open Bool renaming and_eq_true->ζ
open Classical renaming not_not->ω
open Go.Vi.SV renaming si->Ξ,row->Ψ,agg->γG,sb->γI,bl->δw,ptr->γV,il->γr,ow->γ8
open Int renaming one_mul->δI,toNat_natCast->γt,lt_irrefl->ε1,pow_succ->γQ,mul_add->εz,add_comm->ζA,emod_nonneg->δR,emod_lt_of_pos->δs,emod_eq_of_lt->δQ,eq_ofNat_of_zero_le->δM
open List renaming getElem?_cons_succ->γP,map_cons->ι,nodup_cons->γC,map_map->δx,pairwise_cons->γx,range->τ,all_eq_true->Φ,mem_range->γL,filter_eq_self->δm,filter_cons->δy,mem_filter->γh,take->γd,drop->γ7,take_of_length_le->γk,eq_nil_of_length_eq_zero->ψ,length_filter_le->γF,filter_append->δq,append_nil->γZ,forall_mem_cons->γs,not_mem_nil->γ5,range_succ->δr,map_append->γb,map_nil->γp,mem_append->Γ,pairwise_append->γY,mem_cons->γq,mem_singleton->γw,mem_map->γg,mem_map_of_mem->γ3,take_length->Δ,append_assoc->γf,cons_append->γE,length_cons->γy,replicate->ε,replicate_zero->ε2,drop_of_length_le->εh,drop_zero->δN,mem_of_mem_drop->γK
open List.cons renaming injEq->π
open Nat renaming le_refl->φ
open Option.some renaming injEq->γ
namespace Go.Vi
open Go.Proofs
def bz.at (b:bz) (k:Nat):Int:=bj [b.a0,b.a1,b.a2,b.a3,b.a4,b.a5] k 0
theorem IY {a b:bz} (h:a.le b=true) (k:Nat):a.at k<=b.at k:=by
 grind[bz.le_iff,bz.at,bj]
theorem nB (k:Nat):∀(l:List bz),(dP l).at k=(l.map λb=>b.at k).sum:=by
 intro l;unfold bz.at dP;match k with
 |0|1|2|3|4|5=>simp only[bj,List.getElem?_cons_zero,γP,Option.getD_some];|k+6=>
  simp only[bj,γP,List.getElem?_nil,Option.getD_none];induction l<;>grind
theorem QW {p:bp} {x:Off} {k:Nat} (a:k<6):eT p (p.classes.length+k) x=x.want.at k:=by
 unfold eT;rw[if_neg (by omega),if_pos (by omega),show((p.classes.length:Int)+k - p.classes.length).toNat=k by omega];rfl
theorem QX {p:bp} {x:Off} {k:Nat} (a:k<6):eT p (p.classes.length+6+k) x=(dU p x).at k:=by
 unfold eT;rw[if_neg (by omega),if_neg (by omega),show((p.classes.length:Int)+6+k - p.classes.length - 6).toNat=k by omega];have:k=0\/k=1\/k=2\/k=3\/k=4\/k=5:=by omega
 rcases this with rfl|rfl|rfl|rfl|rfl|rfl<;>simp[dU,eM,oc,hZ,bz.at,bj]
theorem QY {p:bp} {k:Nat} (a:k<6):dD p (p.classes.length+k)=p.supply.at k:=by
 unfold dD;rw[if_neg (by omega),if_pos (by omega),show((p.classes.length:Int)+k - p.classes.length).toNat=k by omega];rfl
theorem QZ {p:bp} {k:Nat} (a:k<6):dD p (p.classes.length+6+k)=p.opn.at k:=by
 unfold dD;rw[if_neg (by omega),if_neg (by omega),show((p.classes.length:Int)+6+k - p.classes.length - 6).toNat=k by omega];rfl
theorem Q0 {p:bp} {r:Int} (a:0<=r) (b:r<p.classes.length):∀{L:List Off},(L.map Off.bE).Nodup->cT p L r<=1/\(r∉L.map Off.bE->cT p L r=0)
 |[],_=>by simp[cT];|x::L,h=>by
  rw[ι,γC] at h;obtain⟨d,e⟩:=Q0 a b h.2;have c:eT p r x=if x.bE=r then 1 else 0:=by unfold eT;omega
  rw[sum_cons,c];grind
theorem Q5 {p:bp} {L:List Off} (h:iJ p L):gd p L=true:=by
 obtain⟨j,i,f⟩:=h;refine o7.2 λr g=>?_;unfold dm at g;by_cases l:r<p.classes.length
 ·have:=(Q0 (p:=p) (r:=r) (by omega) (by omega) j).1;have d:dD p r=1:=by unfold dD;omega
  omega
 by_cases d:r<p.classes.length+6
 ·obtain⟨k,rfl⟩:∃k:Nat,r=p.classes.length+k:=⟨r - p.classes.length,by omega⟩;have c:k<6:=by omega
  have e:(((p.classes.length+k:Nat)):Int)=p.classes.length+k:=by omega
  rw[e,QY c];have a:=IY i k;rw[nB,δx] at a;have:cT p L (p.classes.length+k)=(L.map ((λb=>bz.at b k)∘Off.want)).sum:=by
   unfold cT;congr 1;simp_all[QW]
  omega
 ·obtain⟨k,rfl⟩:∃k:Nat,r=p.classes.length+6+k:=⟨r - p.classes.length - 6,by omega⟩;have c:k<6:=by omega
  have e:(((p.classes.length+6+k:Nat)):Int)=p.classes.length+6+k:=by omega
  rw[e,QZ c];have a:=IY f k;rw[nB,δx] at a;have:cT p L (p.classes.length+6+k)=(L.map ((λb=>bz.at b k)∘dU p)).sum:=by
   unfold cT;congr 1;simp_all[QX]
  omega
theorem Q7 {l:List Off}:∀{t:List Int} {a:Int},t.Pairwise (·<·)->(∀j∈t,a<j/\j<l.length)->fR l a t=some (t.map λi=>bj l i.toNat bn.off.dflt)
 |[],_,_,_=>rfl
 |i::t,a,h,d=>by
  have e:=d i (by simp);have c:=γx.1 h;unfold fR;rw[if_neg (by omega),Q7 c.2 λj b=>⟨c.1 j b,(d j (by simp[b])).2⟩];rfl
theorem Q8 {p:bp} (e:bC p=0) {t:List Int} (a:kG 0 p.offers.length t) (c:iJ p (ca p t)):dc p t=0:=by
 have d:fR p.offers (-1) t=some (ca p t):=Q7 a.1 λj b=>by have:=a.2 j b;omega
 simp_all[dc,jo,eE,Q5]
def Q9:Bool:=(τ 9).all λn=>(τ n).all λb=>hasB (2^n - 1) b
theorem aa5:Q9=true:=by kernel_rfl
theorem Rb {p:bp} (hg:Good p) {b:Int} (h0:0<=b) (h1:b<p.classes.length):hasB (allM p) b=true:=by
 have h:=aa5;simp only[Q9,Φ,γL] at h;have:=h p.classes.length (by have:=hg.1;omega) b.toNat (by omega);rwa [show((b.toNat:Nat):Int)=b by omega] at this
theorem aa6 {p:bp} (hg:Good p):pd p (allM p)=p:=by
 unfold pd;rw[δm.2 λx hx=>Rb hg (hg.2.2.2.2 x hx).1 (hg.2.2.2.2 x hx).2.1]
theorem Aa {p:bp} (hc:bC p=0):gR p (allM p)=(cu p).value:=by
 have hg:=dn hc;rw[QM hc];unfold DG rO;rw[QK hg.1,aa6 hg]
theorem x6 {p:bp} (hc:bC p=0):jK p (cu p).chosen=0/\iJ p (ca p (cu p).chosen)/\kG 0 p.offers.length (cu p).chosen/\(cu p).value=bV (ca p (cu p).chosen):=by
 have hg:=dn hc;obtain⟨t,ht,hr,he⟩:=IL hg;have hF:iJ p (ca p t):=of_decide_eq_true hr;have hz:=Q8 hc ht hF;have h1:=Aa hc;rw[he] at h1 ⊢;refine⟨?_,hF,ht,rfl⟩;unfold jK;have:ix p t=bV (ca p t):=by unfold ix;rw[x5];omega
 rw[if_neg (by simp[hz]),if_neg (show ¬ix p t<gR p (allM p) by simp only at h1;omega)]
theorem Re {p:bp} {b:Int}:∀{c:List Int} {s:Int×Int},(c.foldl (kF p b) s).2=s.2+bV ((ca p c).filter λx=>decide (x.bE≠b))
 |[],s=>by simp[ca,bV];|i::c,s=>by
  rw[List.foldl_cons,Re,oh,δy];unfold kF;by_cases hb:(bj p.offers i.toNat bn.off.dflt).bE=b;·rw[if_pos hb,if_neg (by simp[hb])]
  ·rw[if_neg hb,if_pos (by simp[hb])];simp only[bV];omega
def Rf:Bool:=(τ 9).all λn=>(τ n).all λb=>(τ 8).all λx=>decide ((x:Int)∈eO (iw (2^n - 1) b))==(decide (x<n)&&decide (x≠b))
theorem aa7:Rf=true:=by kernel_rfl
theorem aa8 {p:bp} (hg:Good p) {b x:Int} (h0:0<=b) (h1:b<p.classes.length) (hx0:0<=x) (hx1:x<p.classes.length) (hne:x≠b):x∈eO (iw (allM p) b):=by
 have h:=aa7;simp only[Rf,Φ,γL] at h;have h8:=hg.1;have:=h p.classes.length (by omega) b.toNat (by omega) x.toNat (by omega);rw[show((b.toNat:Nat):Int)=b by omega,show((x.toNat:Nat):Int)=x by omega] at this;have e1:decide (x.toNat<p.classes.length)=true:=decide_eq_true (by omega);have e2:decide (x.toNat≠b.toNat)=true:=decide_eq_true (by omega);rw[e1,e2] at this;simpa[allM] using this
theorem IZ {p:bp} (hg:Good p) {x:Int} (hx0:0<=x) (hx1:x<p.classes.length):x∈eO (allM p):=by
 have h8:=hg.1;have h2:=pY h8;have:=IP (m:=allM p) (b:=x) (by unfold allM;omega) (by unfold allM;omega) hx0 (by omega);rw[Rb hg hx0 hx1] at this;exact of_decide_eq_true this.symm
theorem Ab {p:bp} (hc:bC p=0) {m:Int} (h0:0<=m) (h1:m<2^p.classes.length):gR p m=gA p (eO m) p.supply p.opn:=by
 unfold gR;rw[if_pos];·rfl
 ·unfold fz;rw[if_neg (by simp[hc]),if_neg (by omega)]
theorem I0 {p:bp} (hg:Good p) {b:Int} (h0:0<=b) (h1:b<p.classes.length):0<=iw (allM p) b/\iw (allM p) b<2^p.classes.length:=by
 rw[<-QL hg.1 h0 h1];exact IA p b p.classes.length
theorem aa9 {p:bp} (hc:bC p=0) {L:List Off} (hL:iJ p L) (hm:∀x∈L,x∈p.offers) {b:Int} (h0:0<=b) (h1:b<p.classes.length):
  bV (L.filter λx=>decide (x.bE≠b))<=gR p (iw (allM p) b):=by
 have hg:=dn hc;obtain⟨d0,d1⟩:=I0 hg h0 h1;rw[Ab hc d0 d1];have hp:((L.filter λx=>decide (x.bE≠b))++L.filter λx=>!decide (x.bE≠b)).Perm L:=List.filter_append_perm _ _;have hF:=zY hg (L:=L.filter λx=>decide (x.bE≠b)) (M:=L.filter λx=>!decide (x.bE≠b)) (λx hx=>hm x (γh.1 hx).1) (DL hp.symm hL);refine vO hg ⟨hF.1,λx hx=>?_,hF.2.1,hF.2.2⟩;obtain⟨q1,q2⟩:=γh.1 hx;have hv:=hg.2.2.2.2 x (hm x q1);exact⟨hm x q1,aa8 hg h0 h1 hv.1 hv.2.1 (by simpa using q2)⟩
theorem abb {p:bp} (hc:bC p=0) {b:Int} (h0:0<=b) (h1:b<p.classes.length):gR p (iw (allM p) b)<=gR p (allM p):=by
 have hg:=dn hc;obtain⟨d0,d1⟩:=I0 hg h0 h1;have h2:=pY hg.1;rw[Ab hc d0 d1,Ab hc (m:=allM p) (by unfold allM;omega) (by unfold allM;omega)];have q1:=bz.eL.1 hg.2.2.1;have q2:=bz.eL.1 hg.2.2.2.1;obtain⟨L,hL,hv⟩:=xZ hg (DO (iw (allM p) b)) (l:=p.supply) (o:=p.opn) (by rw[bz.le_iff];simp only[bz.zero];omega) (by rw[bz.le_iff];simp only[bz.zero];omega);rw[<-hv];refine vO hg ⟨hL.nd,λx hx=>?_,hL.w,hL.o⟩;have hm:=(hL.mem x hx).1;have:=hg.2.2.2.2 x hm;exact⟨hm,IZ hg this.1 this.2.1⟩
theorem abd {p:bp} (hc:bC p=0) {b:Int} (h0:0<=b) (h1:b<p.classes.length):
  0<=nz (jr p (cu p).chosen) b/\nz (jr p (cu p).chosen) b<=(pZ p (cu p).chosen b).1/\
  sO (jr p (cu p).chosen) b=(cu p).value - rO p (o9 p b p.classes.length):=by
 have hg:=dn hc;obtain⟨ho,hF,ht,hv⟩:=x6 hc;have hi:=DJ ht;have hz:dc p (cu p).chosen=0:=QA (QP▸ho);have hd:=(Qv ho).2.1;have hown:=aa4 (c:=(cu p).chosen) hg hi h0 h1;have hsum:=aa3 (b:=b) hz;have hoth:=@Re p b (cu p).chosen (0,0);have hs:ix p (cu p).chosen=bV (ca p (cu p).chosen):=by unfold ix;rw[x5];omega
 have hle:=aa9 hc hF (xY hg hi) h0 h1;have hda:=abb hc h0 h1;rw[Aa hc] at hda;have hdel:=QN hc h0 h1;change (pZ p (cu p).chosen b).2=0+_ at hoth;have hw0:0<=(pZ p (cu p).chosen b).1:=by
  have hl:(cu p).chosen.length<=160:=(vN hz).2.2.2.1;exact(aaV hg b hi hl).1.1
 rw[hd];unfold sO nz;simp only[hown];rw[<-hdel];split<;>omega
open Go.Proofs.YtjcmncmajmoiiaaGreat.Ir
def Ac:bL:=⟨74,bp,.one cY,λp=>p.classes.length<=8,λp=> .si .i64 (allM p)⟩
theorem h76:Holds Tryz.prog Ac:=by
 refine cG (L:=[]) Ac lk (by simp) ?_;intro(p:bp) (hp:p.classes.length<=8);refine bO (let a:=(1:Int);let b:=(↑p.classes.length:Int);let c:=a*(2:Int)^b.toNat;(0:Int)<=b/\b<=(64:Int)/\bW .i64 c/\bW .i64 (c - a)/\(Ξ .i64 (c - a)).same (Ξ .i64 (allM p))) (by kernel_rfl) ?_;simp only[vcs];have:=pY hp;simp only[δI,γt,allM];repeat' (first|refine γi ?_ ?_|intro _)
 all_goals first|omega|trivial|rfl
def gj (p:bp) (k:Int):bp:={p with offers:=p.offers.take k.toNat++p.offers.drop (k+1).toNat}
def DT:bL:=⟨77,bp×Int,.cons cY (.one (dX .i64)),λa=>a.1.offers.length<=160/\0<=a.2/\a.2<a.1.offers.length,λa=>cY.put (gj a.1 a.2)⟩
theorem h74:Holds Tryz.prog DT:=by
 refine cG (L:=[]) DT lk (by simp) ?_;rintro⟨p,k⟩ ⟨hp,h0,h1⟩;simp only at hp h0 h1;refine bO (let a:=Ξ .i64;let b:=Ψ;let c:=(0:Int);let d:=γG;let r:=a p.supply.a0;let s:=a p.supply.a1;let t:=a p.supply.a2;let v:=a p.supply.a3;let w:=a p.supply.a4;let x:=a p.supply.a5;let y:=a p.opn.a0;let z:=a p.opn.a1;let A:=a p.opn.a2;let B:=a p.opn.a3;let C:=a p.opn.a4;let D:=a p.opn.a5;let E:=a p.cls.a0;let F:=a p.cls.a1;let G:=a p.cls.a2;let H:=a p.cls.a3;let I:=a p.cls.a4;let J:=a p.cls.a5;let o:=bn.i .i64;let K:=b o p.classes;let h:=(gj p k).supply;let j:=(gj p k).opn;let l:=(gj p k).cls;let L:=d [a h.a0,a h.a1,a h.a2,a h.a3,a h.a4,a h.a5,a j.a0,a j.a1,a j.a2,a j.a3,a j.a4,a j.a5,a l.a0,a l.a1,a l.a2,a l.a3,a l.a4,a l.a5,b o (gj p k).classes,b bn.off (gj p k).offers];let e:=p.offers.length;let q:=γd (k.toNat - 0) p.offers;let g:=q.length;let f:=k+(1:Int);let n:=γd (e - f.toNat) (γ7 f.toNat p.offers);let m:=n.length;let M:=λ(u u_1:Nat) (u_2:SV) ↦u*64<=140737488355328/\u<=1000000000000/\u_1=u_1/\(d [r,s,t,v,w,x,y,z,A,B,C,D,E,F,G,H,I,J,K,u_2]).same L;c<=k/\0<=k.toNat/\k.toNat<=e/\(g=0->bW .i64 f/\c<=f/\f.toNat<=e/\e<=e/\(m=0->(d [r,s,t,v,w,x,y,z,A,B,C,D,E,F,G,H,I,J,K,b o []]).same L)/\(m≠0->M m m (b bn.off n)))/\(g≠0->g*64<=140737488355328/\g<=1000000000000/\bW .i64 f/\c<=f/\f.toNat<=e/\e<=e/\g=g/\M (g+m) (q++n).length (b bn.off (q++n)))) (by kernel_rfl) ?_;simp only[vcs];have e1:γd (k.toNat - 0) p.offers=p.offers.take k.toNat:=rfl;have e2:γd (p.offers.length - (k+1).toNat) (γ7 (k+1).toNat p.offers)=p.offers.drop (k+1).toNat:=γk (by simp);have l1:(p.offers.take k.toNat).length=k.toNat:=by simp;omega
 have l2:(p.offers.drop (k+1).toNat).length=p.offers.length - (k+1).toNat:=by simp
 rw[e1,e2];have hag:∀{l:List Off} {s:SV},s.g=(Ψ .off l).g->l=p.offers.take k.toNat++p.offers.drop (k+1).toNat->
   (γG [Ξ .i64 p.supply.a0,Ξ .i64 p.supply.a1,Ξ .i64 p.supply.a2,Ξ .i64 p.supply.a3,Ξ .i64 p.supply.a4,Ξ .i64 p.supply.a5,Ξ .i64 p.opn.a0,Ξ .i64 p.opn.a1,Ξ .i64 p.opn.a2,Ξ .i64 p.opn.a3,Ξ .i64 p.opn.a4,Ξ .i64 p.opn.a5,Ξ .i64 p.cls.a0,Ξ .i64 p.cls.a1,Ξ .i64 p.cls.a2,Ξ .i64 p.cls.a3,Ξ .i64 p.cls.a4,Ξ .i64 p.cls.a5,Ψ (.i .i64) p.classes,s]).same (γG (gj p k).ss):=by
  intro l s hs hl;subst hl;simp only[SV.same,SV.g,bp.ss,gL,gj,hs]
 refine⟨h0,by omega,by omega,λhz=>⟨⟨by omega,by omega⟩,by omega,by omega,by omega,λhz2=>?_,λhz2=>⟨by omega,by omega,?_⟩⟩,λhz=>⟨by omega,by omega,⟨by omega,by omega⟩,by omega,by omega,by omega,by omega,by omega,?_⟩⟩;·exact hag (l:=[]) (by simp[SV.g,cE]) (by rw[ψ hz,ψ hz2];rfl)
 ·exact hag rfl (by rw[ψ hz];rfl)
 ·exact hag rfl rfl
def qL (p:bp) (b k:Int):Bool:=decide (p.cls.at k.toNat≠0/\p.cls.at k.toNat≠bj p.classes b.toNat 0)
def DU:bL:=⟨111,bp×Int×Int,.cons cY (.cons (dX .i64) (.one (dX .i64))),λa=>0<=a.2.1/\a.2.1<a.1.classes.length/\0<=a.2.2/\a.2.2<6,λa=> .sb (qL a.1 a.2.1 a.2.2)⟩
theorem h148:Holds Tryz.prog DU:=by
 refine cG (L:=[]) DU lk (by simp) ?_;rintro⟨p,b,k⟩ ⟨h0,h1,h2,h3⟩;simp only at h0 h1 h2 h3;refine bO (let a:=(0:Int);let c:=bj [p.cls.a0,p.cls.a1,p.cls.a2,p.cls.a3,p.cls.a4,p.cls.a5] k.toNat a;let d:=λ(u:Bool) ↦decide (c≠a)=u;a<=k/\k<(6:Int)/\k.toNat<6/\(d true->a<=k/\k<(6:Int)/\k.toNat<6/\a<=b/\b<(↑p.classes.length:Int)/\b.toNat<p.classes.length/\(γI (decide (c≠bj p.classes b.toNat a))).same (γI (qL p b k)))/\(d false->(δw false).same (γI (qL p b k)))) (by kernel_rfl) ?_;simp only[vcs];have e:bj [p.cls.a0,p.cls.a1,p.cls.a2,p.cls.a3,p.cls.a4,p.cls.a5] k.toNat 0=p.cls.at k.toNat:=rfl;rw[e];refine⟨h2,h3,by omega,λh=>⟨h2,h3,by omega,h0,h1,by omega,?_⟩,λh=>?_⟩;·simp[qL,h]
 ·have h:p.cls.at k.toNat=0:=ω.1 h;simp[qL,h]
def qM (p:bp) (x:Off) (k:Nat):Prop:=x.want.at k<=p.supply.at k/\(qL p x.bE k=true->x.want.at k<=p.opn.at k)
instance (p:bp) (x:Off) (k:Nat):Decidable (qM p x k):=by unfold qM;infer_instance
def om (p:bp) (x:Off):Bool:=(τ 6).all λk=>decide (qM p x k)
theorem Rh {p:bp} {x:Off}:om p x=true↔∀k,k<6->qM p x k:=by simp[om]
def I1:bL:=⟨112,bp×Off,.cons cY (.one (eG .off)),λa=>0<=a.2.bE/\a.2.bE<a.1.classes.length,λa=> .sb (om a.1 a.2)⟩
def abe (a:bp×Off):Nat->cC
 |2=> .inv Int (λk=>⟨[(2,.ptr 0 0 20),(3,.ptr 1 0 8),(6,.si .i64 k)],[.cells a.1.ss 81 20 false,.cells (encS .off a.2) 39 8 false]⟩) (λs=>iS s 6) (λk=>0<=k/\k<=6/\∀j:Nat,j<k->qM a.1 a.2 j) (λk=>(6 - k).toNat) λ_ _=> .look
 |_=> .look
theorem h149:Holds Tryz.prog I1:=by
 refine cG (L:=[DU]) I1 abe (by simpa using h148) ?_;rintro⟨p,x⟩ ⟨h0,h1⟩;simp only at h0 h1;refine bO (let a:=(0:Int);let b:=Ξ .i64;let c:=(6:Int);let d:=δw false;let f:=γV 0 0 20;let g:=γV 1 0 8;let h:=bq.cells (bp.ss p) 81 20 false;let i:=bq.cells [b x.bE,b x.want.a0,b x.want.a1,b x.want.a2,b x.want.a3,b x.want.a4,b x.want.a5,b x.value] 39 8 false;let r:=[x.want.a0,x.want.a1,x.want.a2,x.want.a3,x.want.a4,x.want.a5];(((f.same f/\g.same g/\(γr .i64 0).same (b 0)/\True)/\h.same h/\i.same i/\True)/\a<=a/\a<=c/\∀(j:Nat),(↑j:Int)<a->qM p x j)/\∀(x_1:Int),let e:=x_1+(1:Int);let k:=b e;let l:=bj r x_1.toNat a;let m:=decide (x_1<c);let n:=bW .i64 e/\((f.same f/\g.same g/\k.same k/\True)/\h.same h/\i.same i/\True)/\(a<=e/\e<=c/\∀(j:Nat),(↑j:Int)<e->qM p x j)/\(c - e).toNat<(c - x_1).toNat;let o:=λ(u:Bool) ↦decide (bj [p.supply.a0,p.supply.a1,p.supply.a2,p.supply.a3,p.supply.a4,p.supply.a5] x_1.toNat a<l)=u;let q:=λ(u:Bool) ↦decide (bj [p.opn.a0,p.opn.a1,p.opn.a2,p.opn.a3,p.opn.a4,p.opn.a5] x_1.toNat a<l)=u;(a<=x_1/\x_1<=c/\∀(j:Nat),(↑j:Int)<x_1->qM p x j)->(m=true->a<=x_1/\x_1<c/\x_1.toNat<6/\a<=x_1/\x_1<c/\x_1.toNat<6/\(o true->(d).same (γI (om p x)))/\(o false->(a<=x.bE/\x.bE<(↑p.classes.length:Int)/\a<=x_1/\x_1<c)/\(qL p x.bE x_1=true->a<=x_1/\x_1<c/\x_1.toNat<6/\a<=x_1/\x_1<c/\x_1.toNat<6/\(q true->(d).same (γI (om p x)))/\(q false->n))/\(qL p x.bE x_1=false->n)))/\(m=false->(δw true).same (γI (om p x)))) (by kernel_rfl) ?_;simp only[vcs];refine⟨⟨by omega,by omega,λj hj=>by omega⟩,?_⟩;rintro k ⟨k0,k1,hk⟩;have ew:bj [x.want.a0,x.want.a1,x.want.a2,x.want.a3,x.want.a4,x.want.a5] k.toNat 0=x.want.at k.toNat:=rfl;have es:bj [p.supply.a0,p.supply.a1,p.supply.a2,p.supply.a3,p.supply.a4,p.supply.a5] k.toNat 0=p.supply.at k.toNat:=rfl;have eo:bj [p.opn.a0,p.opn.a1,p.opn.a2,p.opn.a3,p.opn.a4,p.opn.a5] k.toNat 0=p.opn.at k.toNat:=rfl;rw[ew,es,eo];have hkk:((k.toNat:Nat):Int)=k:=by omega
 have hbad:k<6->¬qM p x k.toNat->false=om p x:=λh h2=>by
  symm;rw[Bool.eq_false_iff];exact λhh=>h2 (Rh.1 hh _ (by omega))
 have hnext:qM p x k.toNat->∀j:Nat,(j:Int)<k+1->qM p x j:=λh j hj=>by
  by_cases h2:(j:Int)<k;·exact hk j h2
  ·rw[show j=k.toNat by omega];exact h
 refine⟨λhlt=>⟨by omega,by omega,by omega,by omega,by omega,by omega,λh=>?_,λh=>⟨⟨h0,h1,k0,hlt⟩,λho=>⟨by omega,by omega,by omega,by omega,by omega,by omega,λh3=>?_,λh3=>⟨⟨by omega,by omega⟩,⟨by omega,by omega,?_⟩,by omega⟩⟩,λho=>⟨⟨by omega,by omega⟩,⟨by omega,by omega,?_⟩,by omega⟩⟩⟩,λhge=>?_⟩;·exact hbad hlt λhh=>by have:=hh.1;omega
 ·exact hbad hlt λhh=>by have:=hh.2 (by rw[hkk];exact ho);omega
 ·exact hnext ⟨by omega,λ_=>by omega⟩
 ·exact hnext ⟨by omega,λhh=>by rw[hkk,ho] at hh;cases hh⟩
 ·symm;exact Rh.2 λj hj=>hk j (by omega)
def uo (s w j k:Int):Int:=if j<k then s - w else s
def uq (c cl s o w j k:Int):Int:=if j<k then min (if c=0\/c≠0/\c≠cl then o - w else o) (s - w) else o
def pe (p:bp) (x:Off) (k:Int):bz:=⟨uo p.supply.a0 x.want.a0 0 k,uo p.supply.a1 x.want.a1 1 k,uo p.supply.a2 x.want.a2 2 k,uo p.supply.a3 x.want.a3 3 k,uo p.supply.a4 x.want.a4 4 k,uo p.supply.a5 x.want.a5 5 k⟩
def pg (p:bp) (x:Off) (k:Int):bz:=⟨uq p.cls.a0 (hZ p x) p.supply.a0 p.opn.a0 x.want.a0 0 k,uq p.cls.a1 (hZ p x) p.supply.a1 p.opn.a1 x.want.a1 1 k,uq p.cls.a2 (hZ p x) p.supply.a2 p.opn.a2 x.want.a2 2 k,
 uq p.cls.a3 (hZ p x) p.supply.a3 p.opn.a3 x.want.a3 3 k,uq p.cls.a4 (hZ p x) p.supply.a4 p.opn.a4 x.want.a4 4 k,uq p.cls.a5 (hZ p x) p.supply.a5 p.opn.a5 x.want.a5 5 k⟩
def vQ (p:bp) (x:Off):bp:=⟨pe p x 6,pg p x 6,p.cls,p.classes,[]⟩
def po (p:bp) (x:Off) (n:Nat):List Off:=(p.offers.take n).filter λy=>decide (y.bE≠x.bE)&&om (vQ p x) y
def qa (p:bp) (k:Int):bp:=let x:=bj p.offers k.toNat bn.off.dflt;{vQ p x with offers:=po p x p.offers.length}
def bss (a b c:bz):List SV:=[.si .i64 a.a0,.si .i64 a.a1,.si .i64 a.a2,.si .i64 a.a3,.si .i64 a.a4,.si .i64 a.a5,.si .i64 b.a0,.si .i64 b.a1,.si .i64 b.a2,.si .i64 b.a3,.si .i64 b.a4,.si .i64 b.a5,.si .i64 c.a0,.si .i64 c.a1,.si .i64 c.a2,.si .i64 c.a3,.si .i64 c.a4,.si .i64 c.a5]
def zss:List SV:=[.il .i64 0,.il .i64 0,.il .i64 0,.il .i64 0,.il .i64 0,.il .i64 0,.il .i64 0,.il .i64 0,.il .i64 0,.il .i64 0,.il .i64 0,.il .i64 0,.il .i64 0,.il .i64 0,.il .i64 0,.il .i64 0,.il .i64 0,.il .i64 0,.sc (.slice none 0 0),.sc (.slice none 0 0)]
def Ri (p:bp) (x:Off) (k:Int) (l:List Off):bX:=[.cells p.ss 81 20 false,.cells zss 81 20 false,.cells (encS .off x) 39 8 false,.cells (bss (pe p x k) (pg p x k) p.cls++[.row (.i .i64) p.classes,.ow 4 l.length 8]) 81 20 false,.row .off l 39 true]
def I2:bL:=⟨79,bp×Int,.cons cY (.one (dX .i64)),λa=>Good a.1/\0<=a.2/\a.2<a.1.offers.length,λa=>cY.put (qa a.1 a.2)⟩
def sQ (a:bp×Int):Off:=bj a.1.offers a.2.toNat bn.off.dflt
def abg (a:bp×Int):Nat->cC
 |5=> .inv Int (λj=>⟨[(2,.ptr 0 0 20),(4,.ptr 1 0 20),(5,.ptr 2 0 8),(6,.ptr 3 0 20),(21,.si .i64 j)],Ri a.1 (sQ a) j []⟩) (λs=>iS s 21) (λj=>0<=j/\j<=6) (λj=>(6 - j).toNat) λ_ _=> .look
 |13=> .inv Int (λi=>⟨[(4,.ptr 1 0 20),(5,.ptr 2 0 8),(6,.ptr 3 0 20),(81,.row .off a.1.offers),(82,.si .i64 a.1.offers.length),(83,.si .i64 i)],Ri a.1 (sQ a) 6 (po a.1 (sQ a) i.toNat)⟩) (λs=>iS s 83)
  (λi=>0<=i/\i<=a.1.offers.length) (λi=>(a.1.offers.length - i).toNat) λ_ _=> .look
 |_=> .look
theorem abh {α:Type} {a:α} {l:List α} {d:α}:bj (a::l) 0 d=a:=rfl
theorem abj {α:Type} {a:α} {l:List α} {n:Nat} {d:α}:bj (a::l) (n+1) d=bj l n d:=by simp[bj]
theorem h120:Holds Tryz.prog I2:=by
 refine cG (L:=[DU,I1]) I2 abg (by simpa using⟨h148,h149⟩) ?_;rintro⟨p,k⟩ ⟨hg,h0,h1⟩;simp only at hg h0 h1;refine bO (let a:=Ξ .i64;let b:=(0:Int);let c:=(6:Int);let d:=bq.cells;let e:=bW .i64;let f:=bq.row;let g:=Ψ;let h:=γ8;let j:=γV;let D:=a p.cls.a0;let E:=a p.cls.a1;let F:=a p.cls.a2;let G:=a p.cls.a3;let H:=a p.cls.a4;let I:=a p.cls.a5;let J:=g (bn.i .i64) p.classes;let a7:=p.offers.length;let Q:=j 0 0 20;let r:=j 1 0 20;let s:=j 2 0 8;let t:=j 3 0 20;let m:=γr .i64 0;let v:=g bn.off p.offers;let ap:=SV.sc (Value.slice none 0 0);let w:=d [m,m,m,m,m,m,m,m,m,m,m,m,m,m,m,m,m,m,ap,ap] 81 20 false;let aq:=bn.off.dflt;let ao:=bj p.offers k.toNat aq;let R:=ao.want;let o:=sQ (p,k);let S:=o.bE;let y:=o.want;let z:=d [a S,a y.a0,a y.a1,a y.a2,a y.a3,a y.a4,a y.a5,a o.value] 39 8 false;let ar:=h 4 0 8;let K:=f bn.off [] 39 true;let b3:=[y.a0,y.a1,y.a2,y.a3,y.a4,y.a5];let al:=[D,E,F,G,H,I,J,ar];let au:=(↑p.classes.length:Int);let A:=(↑p.offers.length:Int);let a8:=a A;let L:=pe p o c;let a9:=a L.a0;let aa:=a L.a1;let ab:=a L.a2;let ac:=a L.a3;let ad:=a L.a4;let ae:=a L.a5;let M:=pg p o c;let af:=a M.a0;let ag:=a M.a1;let ah:=a M.a2;let ai:=a M.a3;let aj:=a M.a4;let ak:=a M.a5;let av:=po p o 0;let T:=(qa p k).supply;let U:=(qa p k).opn;let V:=(qa p k).cls;let N:=λ(u:SV) (u_1 u_2:bz) ↦let aw:=[D,E,F,G,H,I,J,u];(d (a p.supply.a0::a p.supply.a1::a p.supply.a2::a p.supply.a3::a p.supply.a4::a p.supply.a5::a p.opn.a0::a p.opn.a1::a p.opn.a2::a p.opn.a3::a p.opn.a4::a p.opn.a5::aw) 81 20 false).same (d (a u_1.a0::a u_1.a1::a u_1.a2::a u_1.a3::a u_1.a4::a u_1.a5::a u_2.a0::a u_2.a1::a u_2.a2::a u_2.a3::a u_2.a4::a u_2.a5::aw) 81 20 false);b<=k/\k<(↑a7:Int)/\k.toNat<a7/\(((Q.same Q/\r.same r/\s.same s/\t.same t/\m.same (a 0)/\True)/\N v p.supply p.opn/\w.same w/\(d [a ao.bE,a R.a0,a R.a1,a R.a2,a R.a3,a R.a4,a R.a5,a ao.value] 39 8 false).same z/\N ar (pe p o b) (pg p o b)/\K.same K/\True)/\b<=b/\b<=c)/\∀(x:Int),let l:=pg p o x;let ax:=bj [l.a0,l.a1,l.a2,l.a3,l.a4,l.a5] x.toNat b;let ay:=bj b3 x.toNat b;let O:=ax - ay;let B:=x+(1:Int);let am:=a B;let n:=pe p o x;let P:=bj [n.a0,n.a1,n.a2,n.a3,n.a4,n.a5] x.toNat b - ay;let az:=if x.toNat=0 then P else n.a0;let aA:=a az;let aB:=if x.toNat=1 then P else n.a1;let aC:=a aB;let aD:=if x.toNat=2 then P else n.a2;let aE:=a aD;let aF:=if x.toNat=3 then P else n.a3;let aG:=a aF;let aH:=if x.toNat=4 then P else n.a4;let aI:=a aH;let aJ:=if x.toNat=5 then P else n.a5;let aK:=a aJ;let aL:=if x.toNat=0 then O else l.a0;let aM:=if x.toNat=1 then O else l.a1;let aN:=if x.toNat=2 then O else l.a2;let aO:=if x.toNat=3 then O else l.a3;let aP:=if x.toNat=4 then O else l.a4;let aQ:=if x.toNat=5 then O else l.a5;let aR:=bj [az,aB,aD,aF,aH,aJ] x.toNat b;let W:=min (bj [aL,aM,aN,aO,aP,aQ] x.toNat b) aR;let X:=pe p o B;let Y:=pg p o B;let aS:=d (a X.a0::a X.a1::a X.a2::a X.a3::a X.a4::a X.a5::a Y.a0::a Y.a1::a Y.a2::a Y.a3::a Y.a4::a Y.a5::al) 81 20 false;let aT:=decide (x<c);let Z:=min ax aR;let aU:=x<c/\x.toNat<6/\b<=x/\x<c/\x.toNat<6/\e O/\b<=x/\x<c/\x.toNat<6/\b<=x/\x<c/\x.toNat<6/\b<=x/\x<c/\x.toNat<6/\b<=x/\x<c/\x.toNat<6/\e B/\((Q.same Q/\r.same r/\s.same s/\t.same t/\am.same am/\True)/\N v p.supply p.opn/\w.same w/\z.same z/\(d (aA::aC::aE::aG::aI::aK::a (if x.toNat=0 then W else aL)::a (if x.toNat=1 then W else aM)::a (if x.toNat=2 then W else aN)::a (if x.toNat=3 then W else aO)::a (if x.toNat=4 then W else aP)::a (if x.toNat=5 then W else aQ)::al) 81 20 false).same aS/\K.same K/\True)/\(b<=B/\B<=c)/\(c - B).toNat<(c - x).toNat;let aV:=λ(u:Bool) ↦decide (bj [p.cls.a0,p.cls.a1,p.cls.a2,p.cls.a3,p.cls.a4,p.cls.a5] x.toNat b=b)=u;b<=x/\x<=c->(aT=true->b<=x/\x<c/\x.toNat<6/\b<=x/\x<c/\x.toNat<6/\e P/\b<=x/\x<c/\x.toNat<6/\b<=x/\x<c/\x.toNat<6/\(aV true->b<=x/\aU)/\(aV false->(b<=S/\S<au/\b<=x/\x<c)/\(qL p S x=true->b<=x/\aU)/\(qL p S x=false->b<=x/\x<c/\x.toNat<6/\b<=x/\x<c/\x.toNat<6/\b<=x/\x<c/\x.toNat<6/\e B/\((Q.same Q/\r.same r/\s.same s/\t.same t/\am.same am/\True)/\N v p.supply p.opn/\w.same w/\z.same z/\(d (aA::aC::aE::aG::aI::aK::a (if x.toNat=0 then Z else l.a0)::a (if x.toNat=1 then Z else l.a1)::a (if x.toNat=2 then Z else l.a2)::a (if x.toNat=3 then Z else l.a3)::a (if x.toNat=4 then Z else l.a4)::a (if x.toNat=5 then Z else l.a5)::al) 81 20 false).same aS/\K.same K/\True)/\(b<=B/\B<=c)/\(c - B).toNat<(c - x).toNat)))/\(aT=false->(((r.same r/\s.same s/\t.same t/\v.same v/\(a (↑a7:Int)).same a8/\m.same (a 0)/\True)/\N v p.supply p.opn/\w.same w/\z.same z/\(d (a n.a0::a n.a1::a n.a2::a n.a3::a n.a4::a n.a5::a l.a0::a l.a1::a l.a2::a l.a3::a l.a4::a l.a5::al) 81 20 false).same (d [a9,aa,ab,ac,ad,ae,af,ag,ah,ai,aj,ak,D,E,F,G,H,I,J,h 4 av.length 8] 81 20 false)/\K.same (f bn.off av 39 true)/\True)/\b<=b/\b<=A)/\∀(x:Int),let C:=x+(1:Int);let an:=a C;let q:=po p o x.toNat;let aW:=po p o C.toNat;let aX:=d [a9,aa,ab,ac,ad,ae,af,ag,ah,ai,aj,ak,D,E,F,G,H,I,J,h 4 aW.length 8] 81 20 false;let aY:=f bn.off aW 39 true;let a6:=bj p.offers x.toNat aq;let aZ:=decide (a6.bE≠S);let b0:=om (bp.mk L M p.cls p.classes q) a6;let b1:=q.length+1;let b2:=e C/\((r.same r/\s.same s/\t.same t/\v.same v/\a8.same a8/\an.same an/\True)/\N v p.supply p.opn/\w.same w/\z.same z/\(d [a9,aa,ab,ac,ad,ae,af,ag,ah,ai,aj,ak,D,E,F,G,H,I,J,h 4 q.length 8] 81 20 false).same aX/\(f bn.off q 39 true).same aY/\True)/\(b<=C/\C<=A)/\(A - C).toNat<(A - x).toNat;b<=x/\x<=A->(decide (x<A)=true->b<=x/\x<(↑a7:Int)/\x.toNat<a7/\(aZ=true->q.length=q.length/\(b<=a6.bE/\a6.bE<au)/\(b0=true->1=1/\q.length=q.length/\b1*64<=140737488355328/\b1<=1000000000000/\e C/\((r.same r/\s.same s/\t.same t/\v.same v/\a8.same a8/\an.same an/\True)/\N v p.supply p.opn/\w.same w/\z.same z/\(d [a9,aa,ab,ac,ad,ae,af,ag,ah,ai,aj,ak,D,E,F,G,H,I,J,h 4 (q++[a6]).length 8] 81 20 false).same aX/\(f bn.off (q++[a6]) 39 true).same aY/\True)/\(b<=C/\C<=A)/\(A - C).toNat<(A - x).toNat)/\(b0=false->b2))/\(aZ=false->b2))/\(decide (x<A)=false->q.length=q.length/\(γG [a9,aa,ab,ac,ad,ae,af,ag,ah,ai,aj,ak,D,E,F,G,H,I,J,g bn.off q]).same (γG [a T.a0,a T.a1,a T.a2,a T.a3,a T.a4,a T.a5,a U.a0,a U.a1,a U.a2,a U.a3,a U.a4,a U.a5,a V.a0,a V.a1,a V.a2,a V.a3,a V.a4,a V.a5,g (bn.i .i64) (qa p k).classes,g bn.off (qa p k).offers])))) (by kernel_rfl) ?_;conv=>zeta
 try simp only[vcs]
 have hx:bj p.offers k.toNat bn.off.dflt=sQ (p,k):=rfl;have hxm:sQ (p,k)∈p.offers:=cO (show k.toNat<p.offers.length by omega);rw[hx];have hv:=hg.2.2.2.2 _ hxm;have xW:qa p k={vQ p (sQ (p,k)) with offers:=po p (sQ (p,k)) p.offers.length}:=rfl;rw[xW];generalize sQ (p,k)=y at*;have b1:=bz.eL.1 hg.2.2.1;have b2:=bz.eL.1 hg.2.2.2.1;have b3:=bz.eL.1 hv.2.2.1;have h160:=hg.2.1;have I3:∀{A B:List SV},A=B->(bq.cells A 81 20 false).same (bq.cells B 81 20 false):=by rintro _ _ rfl;rfl
 have hoff:∀{x y:List Off},x=y->(bq.row .off x 39 true).same (bq.row .off y 39 true):=by rintro _ _ rfl;rfl
 refine⟨h0,h1,by omega,⟨⟨rfl,I3 ?_⟩,by omega,by omega⟩,?_⟩;·simp[pe,pg,uo,uq]
 rintro j ⟨j0,j6⟩;refine⟨λDy=>?_,λjge=>?_⟩
 ·have hj:j=0\/j=1\/j=2\/j=3\/j=4\/j=5:=by omega
  clear hx xW h0 h1 Dy j0 j6 hg;have hcl:bj p.classes y.bE.toNat 0=hZ p y:=rfl;have e0:(0:Int).toNat=0:=rfl;have e1:(1:Int).toNat=1:=rfl;have e2:(2:Int).toNat=2:=rfl;have e3:(3:Int).toNat=3:=rfl;have e4:(4:Int).toNat=4:=rfl;have e5:(5:Int).toNat=5:=rfl;rcases hj with rfl|rfl|rfl|rfl|rfl|rfl;all_goals
   simp only[abh,abj,hcl,e0,e1,e2,e3,e4,e5,pe,pg,uo,uq,qL,bz.at,Int.reduceLT,Int.reduceAdd,Nat.reduceEqDiff,if_true,if_false,reduceIte,decide_eq_true_eq,decide_eq_false_iff_not,ε1,Nat.zero_ne_one,Nat.one_ne_zero];repeat' (first|refine γi ?_ ?_|intro _)
   all_goals first
    |omega;|exact trivial;|exact rfl;|(apply I3;rename_i hh;simp[hh];done);|(apply I3;rename_i h1 h2 hh;simp[h1,h2,hh];done);|(rename_i h1 h2;have h3:=not_or.2 ⟨h1,h2⟩;simp only[if_neg h3];rfl)
 ·obtain rfl:j=6:=by omega
  have hr0:po p y 0=[]:=by simp[po]
  have hrl:∀n,(po p y n).length<=160:=λn=>by
   have h1:=γF (λz:Off=>decide (z.bE≠y.bE)&&om (vQ p y) z) (p.offers.take n);simp only[List.length_take] at h1;unfold po;omega
  have DV:∀{a b:Nat} {A:List SV},a=b->(bq.cells (A++[.row (.i .i64) p.classes,.ow 4 a 8]) 81 20 false).same (bq.cells (A++[.row (.i .i64) p.classes,.ow 4 b 8]) 81 20 false):=by rintro _ _ _ rfl;rfl
  refine⟨⟨⟨DV (A:=bss (pe p y 6) (pg p y 6) p.cls) (by simp[hr0]),hoff hr0.symm⟩,by omega,by omega⟩,?_⟩;rintro i ⟨i0,i1⟩;refine⟨λj8=>?_,λlW=>?_⟩
  ·have hm:=hg.2.2.2.2 _ (cO (d:=bn.off.dflt) (show i.toNat<p.offers.length by omega));have hl:=hrl i.toNat;have hal:∀l z,om ⟨pe p y 6,pg p y 6,p.cls,p.classes,l⟩ z=om (vQ p y) z:=λ_ _=>rfl;simp only[hal];have hs:po p y (i+1).toNat=po p y i.toNat++(if(bj p.offers i.toNat bn.off.dflt).bE≠y.bE/\om (vQ p y) (bj p.offers i.toNat bn.off.dflt)=true then[bj p.offers i.toNat bn.off.dflt] else[]):=by
    unfold po;rw[j4 (d:=bn.off.dflt) i0 j8,δq];congr 1;by_cases h:(bj p.offers i.toNat bn.off.dflt).bE≠y.bE/\om (vQ p y) (bj p.offers i.toNat bn.off.dflt)=true;·rw[if_pos h,δy,if_pos (by simp[h])];rfl
    ·rw[if_neg h,δy,if_neg (by simpa using h)];rfl
   refine⟨i0,j8,by omega,λhb=>⟨⟨hm.1,hm.2.1⟩,λha=>?_,λha=>?_⟩,λhb=>?_⟩
   ·rw[if_pos ⟨hb,ha⟩] at hs;rw[hs];refine⟨?_,?_,?_,⟨DV (A:=bss (pe p y 6) (pg p y 6) p.cls) rfl,hoff rfl⟩,?_,?_⟩<;>omega
   ·rw[if_neg (λh=>by rw[ha] at h;exact absurd h.2 (by simp)),γZ] at hs;rw[hs];refine⟨?_,⟨DV (A:=bss (pe p y 6) (pg p y 6) p.cls) rfl,hoff rfl⟩,?_,?_⟩<;>omega
   ·rw[if_neg (λh=>hb h.1),γZ] at hs;rw[hs];refine⟨?_,⟨DV (A:=bss (pe p y 6) (pg p y 6) p.cls) rfl,hoff rfl⟩,?_,?_⟩<;>omega
  ·rw[show i.toNat=p.offers.length by omega];exact rfl
def Q1:List bL:=[DT,Ac,I2,pV,zW]
theorem Rj:∀c∈Q1,Holds Tryz.prog c:=by
 simp only[Q1,γs,γ5,false_implies,implies_true,and_true];exact⟨h74,h76,h120,h79,h80⟩
def lX (p:bp):Int:=gR p (allM p)
def DW:bL:=⟨75,bp,.one cY,λp=>p.classes.length<=8,λp=> .si .i64 (lX p)⟩
theorem h81:Holds Tryz.prog DW:=by
 refine cG (L:=Q1) DW lk Rj ?_;intro(p:bp) (hp:p.classes.length<=8);refine bO (p.classes.length<=8/\True/\(Ξ .i64 (gR p (allM p))).same (Ξ .i64 (lX p))) (by kernel_rfl) ?_;simp only[vcs,lX];exact hp
def Q2:List bL:=DW::Q1
theorem I4:∀c∈Q2,Holds Tryz.prog c:=by
 simp only[Q2,γs];exact⟨h81,Rj⟩
def rQ (p:bp) (k:Int):Int:=lX (gj p k) - lX (qa p k)
theorem Rk (p:bp):0<=lX p/\lX p<=8000000:=If p _
def I5:bL:=⟨50,bp×Int,.cons cY (.one (dX .i64)),λa=>Good a.1/\0<=a.2/\a.2<a.1.offers.length,λa=> .si .i64 (rQ a.1 a.2)⟩
theorem h84:Holds Tryz.prog I5:=by
 refine cG (L:=Q2) I5 lk I4 ?_;rintro⟨p,k⟩ ⟨hg,h0,h1⟩;simp only at hg h0 h1;refine bO (let a:=lX (gj p k) - lX (qa p k);(p.offers.length<=160/\(0:Int)<=k/\k<(↑p.offers.length:Int))/\(gj p k).classes.length<=8/\(Good p/\(0:Int)<=k/\k<(↑p.offers.length:Int))/\(qa p k).classes.length<=8/\bW .i64 a/\(Ξ .i64 a).same (Ξ .i64 (rQ p k))) (by kernel_rfl) ?_;simp only[vcs,rQ];have a:=Rk (gj p k);have b:=Rk (qa p k);have h8:=hg.1;have h160:=hg.2.1;have l1:(gj p k).classes.length=p.classes.length:=rfl;have l2:(qa p k).classes.length=p.classes.length:=rfl;refine⟨⟨h160,h0,h1⟩,by omega,⟨hg,h0,h1⟩,by omega,by omega,by omega⟩
def lY (p:bp) (k:Int):Int:=if bC p≠0 then bC p else if k<0\/p.offers.length<=k then 4 else 0
def DX:bL:=⟨49,bp×Int,.cons cY (.one (dX .i64)),λ_=>True,λa=> .si .i64 (lY a.1 a.2)⟩
theorem h73:Holds Tryz.prog DX:=by
 refine cG (L:=Q2) DX lk I4 ?_;rintro⟨p,k⟩ _;refine bO (let a:=γr .i64;let c:=decide (bC p≠(0:Int));let b:=Ξ .i64 (lY p k);let d:=decide (k<(0:Int));let e:=decide ((↑p.offers.length:Int)<=k);True/\(c=true->(Ξ .i64 (bC p)).same b)/\(c=false->(d=true->(a 4).same b)/\(d=false->(e=true->(a 4).same b)/\(e=false->(a 0).same b)))) (by kernel_rfl) ?_;simp only[vcs];repeat' (first|refine γi ?_ ?_|intro _)
 all_goals (simp only[lY];(repeat' split)<;>first|rfl|omega|simp_all)
def Q3:List bL:=I5::DX::Q2
theorem I6:∀c∈Q3,Holds Tryz.prog c:=by
 simp only[Q3,γs];exact⟨h84,h73,I4⟩
theorem Rl {p:bp} {k:Int} (h:lY p k=0):bC p=0/\0<=k/\k<p.offers.length:=by
 unfold lY at h;split at h;·rename_i h1;exact absurd h h1
 ·rename_i h1;split at h;·cases h
  ·exact⟨ω.1 h1,by omega,by omega⟩
def I7:bL:=⟨21,bp×Int,.cons cY (.one (dX .i64)),λ_=>True,λa=> .bH [.si .i64 (if lY a.1 a.2=0 then rQ a.1 a.2 else 0),.si .i64 (lY a.1 a.2)]⟩
theorem h35:Holds Tryz.prog I7:=by
 refine cG (L:=Q3) I7 lk I6 ?_;rintro⟨p,k⟩ _;refine bO (let a:=Ξ .i64;let b:=(0:Int);let c:=SV.bH;let d:=decide (lY p k≠b);let e:=γr .i64 0;let f:=[a (lY p k)];let g:=c (a (if lY p k=b then rQ p k else b)::f);True/\(d=true->(c (e::f)).same g)/\(d=false->(Good p/\b<=k/\k<(↑p.offers.length:Int))/\(c [a (rQ p k),e]).same g)) (by kernel_rfl) ?_;simp only[vcs];refine⟨λh=>by simp[h],λh=>?_⟩;have hz:lY p k=0:=ω.1 h;obtain⟨hc,h0,h1⟩:=Rl hz;exact⟨⟨dn hc,h0,h1⟩,by simp[hz]⟩
def Rm:oV bp where
 put p:=.fn (.func 50) [cY.put p] [];dec
  | .fn (.func f) [d] []=>if f=50 then cY.dec d else none
  |_=>none;ok v a h:=by
  split at h
  ·split at h
   ·rename_i hf;simp only[SV.g,gL,cY.ok _ _ h,hf]
   ·cases h
  ·cases h
 inj a b h:=by
  simp only[SV.g,gL,AV.fn.injEq,π,and_true,true_and] at h;exact cY.inj _ _ h
def mM (p:bp) (n:Nat):List Int:=(τ n).map λi:Nat=>rQ p i
theorem abk {p:bp} {n:Nat}:(mM p n).length=n:=by simp[mM]
theorem Rn {p:bp} {i:Int} (h:0<=i):mM p (i+1).toNat=mM p i.toNat++[rQ p i]:=by
 unfold mM;rw[show(i+1).toNat=i.toNat+1 from by omega,δr,γb];simp only[ι,γp,show((i.toNat:Nat):Int)=i from by omega]
def I8:bL:=⟨71,Int×bp,.cons (dX .i64) (.one Rm),λa=>Good a.2/\a.1=a.2.offers.length,λa=> .row (.i .i64) (mM a.2 a.1.toNat)⟩
def abl (a:Int×bp):Nat->cC
 |3=> .inv Int (λi=>⟨[(1,Rm.put a.2),(5,.ow 0 (mM a.2 i.toNat).length 1),(7,.si .i64 a.1),(8,.si .i64 i)],[.row (.i .i64) (mM a.2 i.toNat) 2 true]⟩)
  (λs=>iS s 8) (λi=>0<=i/\i<=a.1) (λi=>(a.1 - i).toNat) λ_ _=> .look
 |_=> .look
theorem h85:Holds Tryz.prog I8:=by
 refine cG (L:=Q3) I8 abl I6 ?_;rintro⟨n,p⟩ ⟨hg,hn⟩;simp only at hg hn;refine bO (let a:=Ξ .i64;let b:=(0:Int);let c:=bq.row;let d:=Ψ;let e:=γ8;let g:=bn.i .i64;let j:=SV.fn (Fn.func 50) [γG [a p.supply.a0,a p.supply.a1,a p.supply.a2,a p.supply.a3,a p.supply.a4,a p.supply.a5,a p.opn.a0,a p.opn.a1,a p.opn.a2,a p.opn.a3,a p.opn.a4,a p.opn.a5,a p.cls.a0,a p.cls.a1,a p.cls.a2,a p.cls.a3,a p.cls.a4,a p.cls.a5,d g p.classes,d bn.off p.offers]] [];(((j.same j/\(e 0 0 1).same (e 0 (mM p 0).length 1)/\(a n).same (a n)/\(γr .i64 0).same (a 0)/\True)/\(c g [] 2 true).same (c g (mM p 0) 2 true)/\True)/\b<=b/\b<=n)/\∀(x:Int),let f:=mM p x.toNat;let k:=f.length+1;let h:=x+(1:Int);let l:=a h;b<=x/\x<=n->(decide (x<n)=true->(Good p/\b<=x/\x<(↑p.offers.length:Int))/\f.length=f.length/\k*8<=140737488355328/\k<=1000000000000/\bW .i64 h/\((j.same j/\(e 0 (f++[rQ p x]).length 1).same (e 0 (mM p h.toNat).length 1)/\(a n).same (a n)/\l.same l/\True)/\(c g (f++[rQ p x]) 2 true).same (c g (mM p h.toNat) 2 true)/\True)/\(b<=h/\h<=n)/\(n - h).toNat<(n - x).toNat)/\(decide (x<n)=false->f.length=f.length/\(d g f).same (d g (mM p n.toNat)))) (by kernel_rfl) ?_;simp only[vcs];have h160:=hg.2.1;have hrow:∀{x y:List Int},x=y->(bq.row (.i .i64) x 2 true).same (bq.row (.i .i64) y 2 true):=by rintro _ _ rfl;rfl
 have how:∀{x y:Nat},x=y->(γ8 0 x 1).same (γ8 0 y 1):=by rintro _ _ rfl;rfl
 refine⟨⟨⟨how rfl,hrow rfl⟩,by omega,by omega⟩,?_⟩;rintro i ⟨i0,i1⟩;have hL:=@abk p i.toNat;refine⟨λhlt=>⟨⟨hg,i0,by omega⟩,by omega,by omega,by omega,⟨how (by rw[Rn i0]),hrow (Rn i0).symm⟩,by omega,by omega⟩,λhge=>?_⟩;rw[show i.toNat=n.toNat by omega]
def Q4:List bL:=I8::I7::Q3
theorem hQ4:∀c∈Q4,Holds Tryz.prog c:=by
 simp only[Q4,γs];exact⟨h85,h35,I6⟩
def x7 (p:bp):List Int:=if bC p=0 then mM p p.offers.length else[]
def I9:bL:=⟨37,bp,.one cY,λ_=>True,λp=> .bH [.row (.i .i64) (x7 p),.si .i64 (bC p)]⟩
theorem h37:Holds Tryz.prog I9:=by
 refine cG (L:=Q4) I9 lk hQ4 ?_;intro(p:bp) _;refine bO (let a:=Ψ;let b:=SV.bH;let d:=decide (bC p≠(0:Int));let c:=bn.i .i64;let e:=[Ξ .i64 (bC p)];let f:=b (a c (x7 p)::e);let g:=(↑p.offers.length:Int);True/\(d=true->(b (a c []::e)).same f)/\(d=false->(Good p/\g=(↑p.offers.length:Int))/\(b [a c (mM p g.toNat),γr .i64 0]).same f)) (by kernel_rfl) ?_;simp only[vcs];refine⟨λh=>by simp[x7,h],λh=>?_⟩;have hz:bC p=0:=ω.1 h;exact⟨dn hz,by simp[x7,hz],hz.symm⟩
def uu (p:bp) (l:List Off):bp:={p with offers:=l}
theorem Ja {p:bp} {l0:List Off} {f:Off->Bool}:∀{l:List Off} {s t:List ni},gQ p s l=0->(∀k∈t,k∈s)->gQ (uu p l0) t (l.filter f)=0
 |[],_,_,_,_=>rfl
 |o::r,s,t,h,hs=>by
  simp only[gQ] at h;split at h;·rename_i h1;exact absurd h h1
  ·split at h;·cases h
   ·rename_i h1 h2;have hn:o.key∉t:=λhm=>h2 (hs _ hm);rw[δy];split
    ·unfold gQ;rw[if_neg (show ¬jJ (uu p l0) o≠0 from h1),if_neg hn];exact Ja h λk hk=>by
      rcases Γ.1 hk with hk|hk;·exact Γ.2 (.inl (hs k hk))
      ·exact Γ.2 (.inr hk)
    ·exact Ja h λk hk=>Γ.2 (.inl (hs k hk))
theorem abn {p:bp} {f:Off->Bool} (h:bC p=0):bC (uu p (p.offers.filter f))=0:=by
 have hg:=dn h;unfold bC at h;split at h;·rename_i h1;exact absurd h h1
 ·rename_i h1;have hf:hJ p=0:=ω.1 h1;obtain⟨f1,f2,f3,f4,f5⟩:=ui hf;have hl:=γF f p.offers;have hq:hJ (uu p (p.offers.filter f))=0:=HS (p:=uu p (p.offers.filter f)) f1 (λj hj=>by have h:=(od (p:=p) (k:=j)).1 (f2 j hj);exact od.2 h) (by simp only[uu];omega) f5;unfold bC;rw[if_neg (by simp[hq])];exact Ja h (by simp)
theorem Jb {a b:bz} (h:∀k,k<6->a.at k<=b.at k):a.le b=true:=by
 have i:=h 0 (by omega);have c:=h 1 (by omega);have d:=h 2 (by omega);have f:=h 3 (by omega);have g:=h 4 (by omega);have e:=h 5 (by omega);simp_all[bz.at,bj,bz.le_iff]
theorem abo {p:bp} {L:List Off} (d:(L.map Off.bE).Nodup) (c:gd p L=true):iJ p L:=by
 refine⟨d,Jb λk a=>?_,Jb λk a=>?_⟩
 ·have h:=o7.1 c (p.classes.length+k) (by grind[dm]);rw[show(((p.classes.length+k:Nat)):Int)=p.classes.length+k by omega,QY a] at h;rw[nB,δx];have:cT p L (p.classes.length+k)=(L.map ((λb=>bz.at b k)∘Off.want)).sum:=by
   unfold cT;congr 1;simp_all[QW]
  omega
 ·have h:=o7.1 c (p.classes.length+6+k) (by grind[dm]);rw[show(((p.classes.length+6+k:Nat)):Int)=p.classes.length+6+k by omega,QZ a] at h;rw[nB,δx];have:cT p L (p.classes.length+6+k)=(L.map ((λb=>bz.at b k)∘dU p)).sum:=by
   unfold cT;congr 1;simp_all[QX]
  omega
theorem Ro {l:List Off}:∀{t:List Int} {a:Int} {r:List Off}, -1<=a->fR l a t=some r->t.Pairwise (·<·)/\∀j∈t,a<j/\j<l.length
 |[],_,_,_,_=>by simp;|i::t,a,r,g,h=>by
  simp only[fR] at h;split at h;·cases h
  ·rename_i k;obtain⟨f,d,rfl⟩:=Option.map_eq_some_iff.1 h;obtain⟨e,c⟩:=Ro (by omega) d;refine⟨γx.2 ⟨λj b=>(c j b).1,e⟩,λj b=>?_⟩;grind
def lB (p:bp) (t:List Int):Prop:=kG 0 p.offers.length t/\iJ p (ca p t)
theorem uv {p:bp} (c:bC p=0) {t:List Int}:dc p t=0↔lB p t:=by
 refine⟨λh=>?_,λh=>Q8 c h.1 h.2⟩;have e:=QT h;obtain⟨i,a,l,m,o⟩:=vN h;obtain⟨r,d⟩:=Option.isSome_iff_exists.1 a;obtain⟨f,g⟩:=Ro (by omega) d;have n:eE p t=ca p t:=by grind[eE,DR]
 have b:gd p (ca p t)=true:=by
  simp_all[dc]
 exact⟨⟨f,λj k=>by simp_all⟩,abo e b⟩
theorem Rq {p:bp} (a:Good p):lB p []:=⟨⟨by simp,by simp⟩,of_decide_eq_true (QG a)⟩
theorem abp {p:bp} (c:Good p) {l m:List Int} (h:lB p (l++m)):lB p l:=by
 obtain⟨⟨b,d⟩,a⟩:=h;rw[rP] at a;refine⟨⟨(γY.1 b).1,λj e=>d j (by simp[e])⟩,zY c (λx f=>?_) a⟩;grind[xY]
theorem Jc {p:bp} (hc:bC p=0) {t:List Int} (h:lB p t):ez p t=bV (ca p t):=by
 have hz:=(uv hc).2 h;rw[QO hz];unfold ix;rw[x5];omega
def x8 (p:bp):Nat->Int->List Int->List (List Int)->List (List Int)
 |0,_,_,a=>a
 |k+1,i,c,a=>x8 p k (i+1) c (if dc p (c++[i])=0 then x8 p k (i+1) (c++[i]) (a++[c++[i]]) else a)
def Jd (p:bp):List (List Int):=x8 p p.offers.length 0 [] [[]]
theorem Ad {p:bp} (f:bC p=0):∀{k:Nat} {i:Int} {c:List Int} {out:List (List Int)} {x:List Int},x∈x8 p k i c out↔x∈out\/∃t,t≠[]/\kG i k t/\lB p (c++t)/\x=c++t
 |0,i,c,out,x=>by
  simp only[x8];refine⟨.inl,λh=>?_⟩;rcases h with h|⟨t,l,d,_⟩;·exact h
  ·cases t with
   |nil=>simp_all;|cons j t=>
    have:=d.2 j (by simp);omega
 |k+1,i,c,out,x=>by
  have w:=dn f;simp only[x8];rw[Ad f];have s:∀{t:List Int},kG (i+1) k t->kG i (k+1) t:=λh=>⟨h.1,λj e=>by have:=h.2 j e;omega⟩;have n:∀{t:List Int},kG (i+1) k t->kG i (k+1) (i::t):=λh=>⟨γx.2 ⟨λj e=>by have:=h.2 j e;omega,h.1⟩,λj e=>by
   rcases γq.1 e with rfl|e;·omega
   ·have:=h.2 j e;omega⟩;constructor
  ·rintro(h|⟨t,l,d,q,r⟩)
   ·split at h
    ·rename_i y;rw[Ad f] at h;rcases h with h|⟨t,l,d,q,r⟩
     ·rcases Γ.1 h with h|h;·exact .inl h
      ·rw[γw] at h;exact .inr ⟨[i],by simp,n (t:=[]) ⟨by simp,by simp⟩,(uv f).1 y,h⟩
     grind
    simp_all
   grind
  ·rintro(h|⟨t,l,d,q,r⟩)
   ·left;split;·rw[Ad f];left;simp[h]
    ·exact h
   ·cases t with
    |nil=>simp_all;|cons j t=>
     have e:=d.2 j (by simp);have u:=γx.1 d.1;by_cases o:j=i
     ·subst o;left;have v:lB p ((c++[j])++t):=by simp_all
      rw[if_pos ((uv f).2 (abp w v)),Ad f];by_cases z:t=[];·simp_all
      ·right;exact⟨t,z,⟨u.2,λm g=>by have a:=u.1 m g;have b:=d.2 m (by simp[g]);omega⟩,v,by simp_all⟩
     ·right;refine⟨j::t,by simp,⟨d.1,λm g=>?_⟩,q,r⟩;have b:=d.2 m g;grind
theorem Rr {p:bp} (b:bC p=0) {t:List Int}:t∈Jd p↔lB p t:=by
 unfold Jd;rw[Ad b];constructor;·grind[Rq,dn]
 ·intro h;by_cases a:t=[];·left;simp[a]
  ·right;exact⟨t,a,h.1,by simpa using h,by simp⟩
theorem abq {p:bp} (hc:bC p=0) {L:List Off} (hL:iJ p L) (hm:∀x∈L,x∈p.offers):bV L<=gR p (allM p):=by
 have hg:=dn hc;have h2:=pY hg.1;rw[Ab hc (m:=allM p) (by unfold allM;omega) (by unfold allM;omega)];refine vO hg ⟨hL.1,λx hx=>?_,hL.2.1,hL.2.2⟩;have:=hg.2.2.2.2 x (hm x hx);exact⟨hm x hx,IZ hg this.1 this.2.1⟩
theorem abr {p:bp} (hc:bC p=0):∃L,iJ p L/\(∀x∈L,x∈p.offers)/\bV L=gR p (allM p):=by
 have hg:=dn hc;have h2:=pY hg.1;rw[Ab hc (m:=allM p) (by unfold allM;omega) (by unfold allM;omega)];have q1:=bz.eL.1 hg.2.2.1;have q2:=bz.eL.1 hg.2.2.2.1;obtain⟨L,hL,hv⟩:=xZ hg (DO (allM p)) (l:=p.supply) (o:=p.opn) (by rw[bz.le_iff];simp only[bz.zero];omega) (by rw[bz.le_iff];simp only[bz.zero];omega);exact⟨L,⟨hL.nd,hL.w,hL.o⟩,λx hx=>(hL.mem x hx).1,hv⟩
theorem abt {p:bp} (hc:bC p=0) {l:List Int} (h:l∈Jd p):l.length<=160:=(vN ((uv hc).2 ((Rr hc).1 h))).2.2.2.1
structure x9 where
 at_:Sit
 rest:Int
 out:List Int
def qb (p:bp) (s:x9) (i:Nat):x9:=
 let x:=bj p.offers i bn.off.dflt;if j5 s.at_.members x.bE≠0/\fitsAt p s.at_ x=true/\x.value+gi p (eK p s.at_ x)=s.rest then⟨eK p s.at_ x,s.rest - x.value,s.out++[(i:Int)]⟩ else s
def pq (p:bp) (m:Int):x9:=⟨⟨m,p.supply,p.opn⟩,gi p ⟨m,p.supply,p.opn⟩,[]⟩
def dQ (p:bp) (m:Int) (n:Nat):x9:=(τ n).foldl (qb p) (pq p m)
def lh (p:bp) (m:Int):Alloc:=if fz p m=0 then⟨(dQ p m p.offers.length).out,gi p ⟨m,p.supply,p.opn⟩⟩ else⟨[],0⟩
def WK:List cZ:=[DC,Dt,Du,pX 9]
theorem hWK:∀c∈WK,dJ Tryz.prog c:=by
 simp only[WK,γs,γ5,false_implies,implies_true,and_true];exact⟨h113,h114,h116,Dz 9⟩
def Je:cZ where
 f:=78;α:=bp×Int;put a:=[cY.put a.1,.si .i64 a.2];st _:=[];dec v o:=match v,o with
  |[v,m],[]=>match cY.dec v,m.int .i64 with
   |some p,some m=>some (p,m)
   |_,_=>none
  |_,_=>none;ok v o a h:=by
  split at h
  ·split at h
   ·rename_i h1 h2;simp only[γ] at h;subst h;exact⟨by simp only[gL,cY.ok _ _ h1,gP h2];rfl,rfl⟩
   ·cases h
  ·cases h
 inj a b h _:=by
  simp only[gL,π,and_true] at h;have h2:=h.2;simp only[SV.g,AV.sc.injEq,Value.int.injEq,true_and] at h2;exact Prod.ext (cY.inj _ _ h.1) h2
 dom a:=fz a.1 a.2=0;res a:=.bH [.agg [.ow 0 (lh a.1 a.2).chosen.length 1,.si .i64 (lh a.1 a.2).value],.si .i64 0];out a:=[.row (.i .i64) (lh a.1 a.2).chosen 3 false]
def abv (p:bp) (v:Int) (s:x9) (es:ly):bX:=[.cells p.ss 27 20 false,.cells [.sc (.slice none 0 0),.il .i64 0] 41 2 false,
 .cells [.si .i64 p.supply.a0,.si .i64 p.supply.a1,.si .i64 p.supply.a2,.si .i64 p.supply.a3,.si .i64 p.supply.a4,.si .i64 p.supply.a5,
  .si .i64 p.opn.a0,.si .i64 p.opn.a1,.si .i64 p.opn.a2,.si .i64 p.opn.a3,.si .i64 p.opn.a4,.si .i64 p.opn.a5,
  .si .i64 p.cls.a0,.si .i64 p.cls.a1,.si .i64 p.cls.a2,.si .i64 p.cls.a3,.si .i64 p.cls.a4,.si .i64 p.cls.a5,
  .row (.i .i64) p.classes,.row .off p.offers,.row .off (L8.of p).l0,.row .off (L8.of p).l1,.row .off (L8.of p).l2,.row .off (L8.of p).l3,.row .off (L8.of p).l4,.row .off (L8.of p).l5,.row .off (L8.of p).l6,.row .off (L8.of p).l7,.mp 3] 214 29 false,
 .map .sit (.i .i64) true es ([0,0,0,0,0,0,0,0,0,0,0,0,0],true) true,
 .cells (encS .sit s.at_) 167 13 false,.cells [.ow 6 s.out.length 1,.si .i64 v] 41 2 false,.row (.i .i64) s.out 3 false]
def abw (a:bp×Int):Nat->cC
 |9=> .inv (Int×ly) (λx=>⟨[(4,.ptr 1 0 2),(7,.ptr 2 0 29),(8,.ptr 4 0 13),(9,.ptr 5 0 2),(10,.si .i64 (dQ a.1 a.2 x.1.toNat).rest),(34,.row .off a.1.offers),(35,.si .i64 a.1.offers.length),(36,.si .i64 x.1)],abv a.1 (pq a.1 a.2).rest (dQ a.1 a.2 x.1.toNat) x.2⟩)
  (λs=>(iS s 36,mS .sit (.i .i64) s 3)) (λx=>0<=x.1/\x.1<=a.1.offers.length/\i7 a.1 x.2) (λx=>(a.1.offers.length - x.1).toNat) λ_ _=> .look
 |_=> .look
theorem ya {p:bp} {m:Int} {n:Nat}:dQ p m (n+1)=qb p (dQ p m n) n:=by
 unfold dQ;rw[δr,List.foldl_append];rfl
theorem Jf {p:bp} (hg:Good p) {a:Sit} (ha:jq a) {x:Off} (hx:x∈p.offers) (hb:j5 a.members x.bE≠0) (hf:fitsAt p a x=true):jq (eK p a x):=by
 have hv:=hg.2.2.2.2 x hx;have h8:=hg.1;have hd:=(zV ha.1 ha.2.1 hv.1 (by omega)).2 hb;simp only[fitsAt,ζ] at hf;exact⟨hd.1,hd.2.1,Dx ha.2.2.1 hv.2.2.1 hf.1,Dx ha.2.2.2 (H7 hv.2.2.1) hf.2⟩
theorem vR {p:bp} (hg:Good p) {m:Int} (h0:0<=m) (h1:m<256):∀n,n<=p.offers.length->jq (dQ p m n).at_/\(dQ p m n).rest=gi p (dQ p m n).at_/\(dQ p m n).out.length<=n
 |0,_=>⟨⟨h0,h1,hg.2.2.1,hg.2.2.2.1⟩,rfl,φ _⟩
 |n+1,hn=>by
  obtain⟨k1,k2,k3⟩:=vR hg h0 h1 n (by omega);rw[ya];unfold qb;simp only;have hx:=cO (d:=bn.off.dflt) (show n<p.offers.length by omega);split
  ·rename_i hc;refine⟨Jf hg k1 hx hc.1 hc.2.1,?_,by simp;omega⟩;simp only;omega
  ·exact⟨k1,k2,by omega⟩
theorem h75:dJ Tryz.prog Je:=by
 refine zS (L:=[Dn]) (W:=WK) Je (λ_=>none) abw hWK (by simpa using h112) ?_;rintro⟨p,m⟩ (hz:fz p m=0);refine bO (let a:=Ξ .i64;let c:=bq.cells;let d:=(0:Int);let e:=Ψ;let f:=bq.row;let g:=γ8;let h:=bW .i64;let j:=γV;let k:=γG;let l:=SV.bH;let X:=a p.supply.a0;let Y:=a p.supply.a1;let Z:=a p.supply.a2;let a6:=a p.supply.a3;let a7:=a p.supply.a4;let a8:=a p.supply.a5;let a9:=a p.opn.a0;let aa:=a p.opn.a1;let ab:=a p.opn.a2;let ac:=a p.opn.a3;let ad:=a p.opn.a4;let ae:=a p.opn.a5;let o:=bn.i .i64;let v:=e bn.off p.offers;let af:=decide (fz p m≠d);let S:=γr .i64 0;let ag:=[SV.sc (Value.slice none 0 0),S];let ah:=a 0;let ai:=l [k [g 0 (lh p m).chosen.length 1,a (lh p m).value],ah];let aj:=Sit.mk m p.supply p.opn;let w:=j 1 0 2;let y:=j 2 0 29;let z:=j 4 0 13;let A:=j 5 0 2;let T:=gh p (cnt m+1) [] aj;let ak:=a T.fst;let B:=dQ p m 0;let al:=(↑p.offers.length:Int);let q:=(↑p.offers.length:Int);let L:=a q;let C:=c ag 41 2 false;let U:=[e bn.off (L8.of p).l0,e bn.off (L8.of p).l1,e bn.off (L8.of p).l2,e bn.off (L8.of p).l3,e bn.off (L8.of p).l4,e bn.off (L8.of p).l5,e bn.off (L8.of p).l6,e bn.off (L8.of p).l7,SV.mp 3];let V:=([0,0,0,0,0,0,0,0,0,0,0,0,0],true);let am:=bq.map bn.sit o true T.snd V true;let D:=B.at_.left;let E:=B.at_.opn;let M:=[a (pq p m).rest];let aD:=bn.off.dflt;let F:=λ(u:List SV) (u_1 u_2:Nat) ↦let an:=c (X::Y::Z::a6::a7::a8::a9::aa::ab::ac::ad::ae::a p.cls.a0::a p.cls.a1::a p.cls.a2::a p.cls.a3::a p.cls.a4::a p.cls.a5::e o p.classes::v::u) u_1 u_2 false;an.same an;True/\(af=true->(l [k ag,a (fz p m)]).same ai/\False)/\(af=false->Good p/\True/\((Good p/\L8.of p=L8.of p/\jq aj/\i7 p [])/\cnt m<9)/\(((w.same w/\y.same y/\z.same z/\A.same A/\ak.same (a B.rest)/\v.same v/\(a al).same L/\S.same ah/\True)/\F [] 27 20/\C.same C/\F U 214 29/\am.same am/\(c [a m,X,Y,Z,a6,a7,a8,a9,aa,ab,ac,ad,ae] 167 13 false).same (c [a B.at_.members,a D.a0,a D.a1,a D.a2,a D.a3,a D.a4,a D.a5,a E.a0,a E.a1,a E.a2,a E.a3,a E.a4,a E.a5] 167 13 false)/\(c [g 6 0 1,ak] 41 2 false).same (c (g 6 B.out.length 1::M) 41 2 false)/\(f o [] 3 false).same (f o B.out 3 false)/\True)/\d<=d/\d<=q/\i7 p T.snd)/\∀(x:Int×ly),let r:=x.fst+(1:Int);let n:=dQ p m x.fst.toNat;let G:=dQ p m r.toNat;let ao:=a G.rest;let P:=a r;let ap:=bq.map bn.sit o true x.snd V true;let s:=n.at_;let H:=s.left;let I:=s.opn;let J:=G.at_.left;let K:=G.at_.opn;let aq:=c [a G.at_.members,a J.a0,a J.a1,a J.a2,a J.a3,a J.a4,a J.a5,a K.a0,a K.a1,a K.a2,a K.a3,a K.a4,a K.a5] 167 13 false;let Q:=n.out.length;let ar:=c (g 6 G.out.length 1::M) 41 2 false;let W:=f o n.out 3 false;let au:=f o G.out 3 false;let t:=bj p.offers x.fst.toNat aD;let N:=pW p s t;let R:=gh p (cnt N.members+1) x.snd N;let av:=bq.map bn.sit o true R.snd V true;let O:=t.bE;let aw:=decide (x.fst<q);let ax:=n.out.length+1;let ay:=n.rest - t.value;let az:=h r/\((w.same w/\y.same y/\z.same z/\A.same A/\(a n.rest).same ao/\v.same v/\L.same L/\P.same P/\True)/\F [] 27 20/\C.same C/\F U 214 29/\ap.same ap/\(c [a s.members,a H.a0,a H.a1,a H.a2,a H.a3,a H.a4,a H.a5,a I.a0,a I.a1,a I.a2,a I.a3,a I.a4,a I.a5] 167 13 false).same aq/\(c (g 6 Q 1::M) 41 2 false).same ar/\W.same au/\True)/\(d<=r/\r<=q/\i7 p x.snd)/\(q - r).toNat<(q - x.fst).toNat;let aE:=(d<=r/\r<=q/\i7 p R.snd)/\(q - r).toNat<(q - x.fst).toNat;let aF:=av.same av;let aA:=λ(u:Int) (u_1:Sit) (u_2:Nat) (u_3:bq) ↦h r/\((w.same w/\y.same y/\z.same z/\A.same A/\(a u).same ao/\v.same v/\L.same L/\P.same P/\True)/\F [] 27 20/\C.same C/\F U 214 29/\aF/\(c [a u_1.members,a u_1.left.a0,a u_1.left.a1,a u_1.left.a2,a u_1.left.a3,a u_1.left.a4,a u_1.left.a5,a u_1.opn.a0,a u_1.opn.a1,a u_1.opn.a2,a u_1.opn.a3,a u_1.opn.a4,a u_1.opn.a5] 167 13 false).same aq/\(c (g 6 u_2 1::M) 41 2 false).same ar/\u_3.same au/\True)/\aE;let aB:=λ(u:Bool) ↦decide (t.value+R.fst=n.rest)=u;let aC:=λ(u:Bool) ↦decide (eI.rG .i64 (s.members / (2:Int)^O.toNat) (1:Int)=d)=u;d<=x.fst/\x.fst<=q/\i7 p x.snd->(aw=true->d<=x.fst/\x.fst<al/\x.fst.toNat<p.offers.length/\d<=O/\O<=(64:Int)/\(aC true->az)/\(aC false->(p.classes.length<=8/\d<=O/\O<(↑p.classes.length:Int)/\s.b/\t.want.ok=true)/\(fitsAt p s t=true->((Good p/\L8.of p=L8.of p/\jq N/\i7 p x.snd)/\cnt N.members<9)/\h (t.value+R.fst)/\(aB true->1=1/\Q=n.out.length/\ax*8<=140737488355328/\ax<=1000000000000/\h ay/\aA ay N (n.out++[x.fst]).length (f o (n.out++[x.fst]) 3 false))/\(aB false->aA n.rest s Q W))/\(fitsAt p s t=false->az)))/\(aw=false->(l [k (g 0 Q 1::M),S]).same ai/\W.same (f o (lh p m).chosen 3 false)/\True))) (by kernel_rfl) ?_;simp only[vcs];obtain⟨hc,m0,m1⟩:=Qm hz;have hg:=dn hc;have hp:=pY hg.1;have h160:=hg.2.1;have ha:jq ⟨m,p.supply,p.opn⟩:=⟨m0,by simp only;omega,hg.2.2.1,hg.2.2.2.1⟩;have hm0:i7 p []:=λe he=>by simp at he
 have cn:∀z,cnt z<9:=λz=>by have:=@Dw z;unfold cnt;omega
 obtain⟨e1,e2⟩:=xU hg (cnt m+1) [] ⟨m,p.supply,p.opn⟩ ha hm0 (by simp only;omega);have r0:dQ p m 0=pq p m:=rfl;have hst:(pq p m).rest=gi p ⟨m,p.supply,p.opn⟩:=rfl;rw[r0,e1,hst];refine⟨λh=>absurd hz h,λ_=>⟨hg,⟨⟨hg,ha,hm0⟩,cn m⟩,⟨⟨rfl,rfl,rfl,rfl⟩,by omega,by omega,e2⟩,?_⟩⟩;rintro⟨i,es⟩ ⟨i0,i1,hes⟩;simp only at i0 i1 hes ⊢;obtain⟨k1,k2,k3⟩:=vR hg m0 (show m<256 by omega) i.toNat (by omega);refine⟨λhlt=>?_,λhge=>?_⟩
 ·have hsu:dQ p m (i+1).toNat=qb p (dQ p m i.toNat) i.toNat:=by rw[show(i+1).toNat=i.toNat+1 by omega,ya]
  have hx:=cO (d:=bn.off.dflt) (show i.toNat<p.offers.length by omega);unfold qb at hsu;simp only at hsu;rw[show((i.toNat:Nat):Int)=i by omega] at hsu;generalize bj p.offers i.toNat bn.off.dflt=x at*;generalize dQ p m i.toNat=s at*;have hv:=hg.2.2.2.2 x hx;have hbd:=xT hg s.at_;have h8:=hg.1;have hbit:eI.rG .i64 (s.at_.members / 2^x.bE.toNat) 1=j5 s.at_.members x.bE:=rfl;rw[hbit];refine⟨i0,hlt,by omega,by omega,by omega,λhb=>?_,λhb=>⟨⟨by omega,by omega,by omega,k1.2.2,hv.2.2.1⟩,λhf=>?_,λhf=>?_⟩⟩
  ·rw[if_neg (λh=>h.1 hb)] at hsu;rw[hsu];refine⟨?_,⟨rfl,rfl,rfl,rfl⟩,⟨?_,?_,hes⟩,?_⟩<;>omega
  ·have xW:pW p s.at_ x=eK p s.at_ x:=by unfold pW;rw[if_pos hf]
   rw[xW];have hn:=Jf hg k1 hx hb hf;obtain⟨q1,q2⟩:=xU hg (cnt (eK p s.at_ x).members+1) es (eK p s.at_ x) hn hes (by omega);have hbn:=xT hg (eK p s.at_ x);rw[q1];refine⟨⟨⟨hg,hn,hes⟩,cn _⟩,⟨by omega,by omega⟩,λhe=>?_,λhe=>?_⟩
   ·rw[if_pos ⟨hb,hf,he⟩] at hsu;rw[hsu];refine⟨?_,?_,?_,?_,⟨rfl,rfl,rfl,rfl⟩,⟨?_,?_,q2⟩,?_⟩<;>omega
   ·rw[if_neg (λh=>he h.2.2)] at hsu;rw[hsu];refine⟨?_,⟨rfl,rfl,rfl,rfl⟩,⟨?_,?_,q2⟩,?_⟩<;>omega
  ·rw[if_neg (λh=>by rw[hf] at h;cases h.2.1)] at hsu;rw[hsu];refine⟨?_,⟨rfl,rfl,rfl,rfl⟩,⟨?_,?_,hes⟩,?_⟩<;>omega
 ·have hb:lh p m=⟨(dQ p m i.toNat).out,gi p ⟨m,p.supply,p.opn⟩⟩:=by unfold lh;rw[if_pos hz,show i.toNat=p.offers.length by omega]
  rw[hb];exact⟨rfl,rfl⟩
theorem Rt:∀l:List Int,cmpL l l=0
 |[]=>rfl
 |a::l=>by
  simp only[cmpL,if_neg (ε1 a)];exact Rt l
theorem Ru:∀{a b:List Int},cmpL a b=0->a=b
 |[],[],_=>rfl
 |[],_::_,h=>by simp[cmpL] at h;|_::_,[],h=>by simp[cmpL] at h;|x::a,y::b,h=>by
  simp only[cmpL] at h;split at h;·simp at h
  ·split at h;·simp at h
   ·rw[Ru h,show x=y by omega]
theorem Rw:∀{a b:List Int},cmpL a b<0↔0<cmpL b a
 |[],[]=>by simp[cmpL];|[],_::_=>by simp[cmpL];|_::_,[]=>by simp[cmpL];|x::a,y::b=>by
  simp only[cmpL];by_cases h1:x<y;·rw[if_pos h1,if_neg (by omega),if_pos h1];simp
  ·by_cases h2:y<x;·rw[if_neg h1,if_pos h2,if_pos h2];simp
   ·rw[if_neg h1,if_neg h2,if_neg h2,if_neg h1];exact Rw
theorem Rx:∀{a b c:List Int},cmpL a b<0->cmpL b c<0->cmpL a c<0
 |[],[],_,h,_=>by simp[cmpL] at h;|_::_,[],_,h,_=>by simp[cmpL] at h;|[],_::_,[],_,h=>by simp[cmpL] at h;|[],_::_,_::_,_,_=>by simp[cmpL];|_::_,_::_,[],_,h=>by simp[cmpL] at h;|x::a,y::b,z::c,h,k=>by
  simp only[cmpL] at h k ⊢;by_cases h1:x<y
  ·by_cases k1:y<z;·rw[if_pos (by omega)];omega
   ·rw[if_neg k1] at k;by_cases k2:z<y;·rw[if_pos k2] at k;simp at k
    ·rw[if_pos (by omega)];omega
  ·rw[if_neg h1] at h;by_cases h2:y<x;·rw[if_pos h2] at h;simp at h
   ·rw[if_neg h2] at h;by_cases k1:y<z;·rw[if_pos (by omega)];omega
    ·rw[if_neg k1] at k;by_cases k2:z<y;·rw[if_pos k2] at k;simp at k
     ·rw[if_neg k2] at k;rw[if_neg (by omega),if_neg (by omega)];exact Rx h k
def lC (a b:Alloc):Prop:=b.value<a.value\/a.value=b.value/\cmpL a.chosen b.chosen<0
theorem Ry {a b c:Alloc} (h:lC a b) (k:lC b c):lC a c:=by
 rcases h with h|⟨h1,h2⟩
 ·rcases k with k|⟨k1,_⟩;·left;omega
  ·left;omega
 ·rcases k with k|⟨k1,k2⟩;·left;omega
  ·exact .inr ⟨by omega,Rx h2 k2⟩
theorem yb {a:Alloc}:¬lC a a:=by
 rintro(h|⟨_,h⟩);·omega
 ·rw[Rt] at h;omega
theorem abx {a b:Alloc} (h:¬lC a b) (k:¬lC b a):a=b:=by
 obtain⟨l,v⟩:=a;obtain⟨m,w⟩:=b;simp only[lC,not_or,not_and] at h k;have hv:v=w:=by omega
 subst hv;have h2:=h.2 rfl;have k2:=k.2 rfl;have:=mt Rw.2 k2;rw[Ru (show cmpL l m=0 by omega)]
def mN (p:bp) (a:Sit) (L:List Off):Prop:=IC p (eO a.members) a.left a.opn L
theorem Rz {m b:Int}:b∈eO m↔(0<=b/\b<8)/\j5 m b≠0:=by
 unfold eO;rw[γh,decide_eq_true_eq];constructor
 ·rintro⟨h1,h2⟩;simp only[γq,γ5,or_false] at h1;exact⟨by omega,h2⟩
 ·rintro⟨h1,h2⟩;refine⟨?_,h2⟩;have:b=0\/b=1\/b=2\/b=3\/b=4\/b=5\/b=6\/b=7:=by omega
  rcases this with rfl|rfl|rfl|rfl|rfl|rfl|rfl|rfl<;>simp
theorem Jg {p:bp} (hg:Good p) {a:Sit} (ha:jq a) {x:Off} (hx:x∈p.offers) (hb:j5 a.members x.bE≠0) (hf:fitsAt p a x=true) {L:List Off} (h:mN p (eK p a x) L):mN p a (x::L):=by
 have hv:=hg.2.2.2.2 x hx;have h8:=hg.1;have hd:=(zV ha.1 ha.2.1 hv.1 (by omega)).2 hb;have hm:eO (eK p a x).members=(eO a.members).filter λg=>decide (g≠x.bE):=hd.2.2;obtain⟨n1,n2,n3,n4⟩:=h;rw[hm] at n2;simp only[fitsAt,ζ] at hf;have w1:=bz.le_iff.1 hf.1;have w2:=bz.le_iff.1 hf.2;refine⟨?_,λy hy=>?_,?_,?_⟩
 ·rw[ι,γC];refine⟨λhh=>?_,n1⟩;obtain⟨y,hy,he⟩:=γg.1 hh;have:=(γh.1 (n2 y hy).2).2;simp only[decide_eq_true_eq] at this;exact this he
 ·rcases γq.1 hy with rfl|hy;·exact⟨hx,Rz.2 ⟨⟨hv.1,by omega⟩,hb⟩⟩
  ·exact⟨(n2 y hy).1,(γh.1 (n2 y hy).2).1⟩
 ·have:=bz.le_iff.1 n3;rw[ι,rN,bz.le_iff];simp only[bz.add,bz.sub,eK] at this ⊢;omega
 ·have:=bz.le_iff.1 n4;rw[ι,rN,bz.le_iff];simp only[bz.add,bz.sub,eK] at this ⊢;omega
theorem RA {p:bp} (hg:Good p) {a:Sit} (ha:jq a) {x:Off} {L:List Off} (h:mN p a (x::L)):(j5 a.members x.bE≠0/\fitsAt p a x=true)/\mN p (eK p a x) L:=by
 obtain⟨n1,n2,n3,n4⟩:=h;have hx:=n2 x (by simp);have hb:=(Rz.1 hx.2);have hd:=(zV ha.1 ha.2.1 hb.1.1 hb.1.2).2 hb.2;have hm:eO (eK p a x).members=(eO a.members).filter λg=>decide (g≠x.bE):=hd.2.2;obtain⟨b1,b2⟩:=IE hg (L:=L) λy hy=>(n2 y (by simp[hy])).1;rw[ι,rN,bz.le_iff] at n3 n4;rw[ι,γC] at n1;simp only[bz.add,bz.bd] at n3 n4 b1 b2;refine⟨⟨hb.2,?_⟩,n1.2,λy hy=>⟨(n2 y (by simp[hy])).1,?_⟩,?_,?_⟩
 ·simp only[fitsAt,ζ,bz.le_iff];omega
 ·rw[hm,γh,decide_eq_true_eq];exact⟨(n2 y (by simp[hy])).2,λe=>n1.1 (e▸γ3 hy)⟩
 ·rw[bz.le_iff];simp only[bz.sub,eK];omega
 ·rw[bz.le_iff];simp only[bz.sub,eK];omega
theorem aby {p:bp} {a:Sit} {L M:List Off} (h:L.Perm M) (hL:mN p a L):mN p a M:=
 ⟨((h.map _).nodup_iff).1 hL.nd,λx hx=>hL.mem x (h.mem_iff.2 hx),by rw[<-DK (h.map _)];exact hL.w,by rw[<-DK (h.map _)];exact hL.o⟩
theorem Jh {p:bp} (hg:Good p) {a:Sit} {L:List Off} (h:mN p a L):bV L<=gi p a:=vO hg h
theorem RB {p:bp} (hg:Good p) {a:Sit} (ha:jq a):∃L,mN p a L/\bV L=gi p a:=by
 have q1:=bz.eL.1 ha.2.2.1;have q2:=bz.eL.1 ha.2.2.2;exact xZ hg (DO _) (by rw[bz.le_iff];simp only[bz.zero];omega) (by rw[bz.le_iff];simp only[bz.zero];omega)
theorem takes {p:bp} (hg:Good p) {a:Sit} (ha:jq a) {x:Off} {L:List Off} (h:mN p a (x::L)) (hv:x.value+bV L=gi p a):
  j5 a.members x.bE≠0/\fitsAt p a x=true/\x.value+gi p (eK p a x)=gi p a/\mN p (eK p a x) L/\bV L=gi p (eK p a x):=by
 obtain⟨⟨h1,h2⟩,h3⟩:=RA hg ha h;have hx:=(h.mem x (by simp)).1;have hn:=Jf hg ha hx h1 h2;have a1:=Jh hg h3;obtain⟨M,hM,hMv⟩:=RB hg hn;have a2:=Jh hg (Jg hg ha hx h1 h2 hM);simp only[bV] at a2;exact⟨h1,h2,by omega,h3,by omega⟩
theorem RD {p:bp} (hc:bC p=0) {m:Int} (h0:0<=m) (h1:m<256):∀n,n<=p.offers.length->∀L,mN p (dQ p m n).at_ L->bV L=(dQ p m n).rest->∀y∈L,y∉p.offers.take n
 |0,_,_,_,_,_,_=>by simp;|n+1,hn,L,hL,hv,y,hy=>by
  have hg:=dn hc;obtain⟨k1,k2,k3⟩:=vR hg h0 h1 n (by omega);have ih:=RD hc h0 h1 n (by omega);have hx:=cO (d:=bn.off.dflt) (show n<p.offers.length by omega);have htk:p.offers.take (n+1)=p.offers.take n++[bj p.offers n bn.off.dflt]:=by
   have:=j4 (l:=p.offers) (i:=(n:Int)) (d:=bn.off.dflt) (by omega) (by omega);simpa using this
  rw[htk];rw[ya] at hL hv;unfold qb at hL hv;simp only at hL hv;generalize bj p.offers n bn.off.dflt=x at*;generalize dQ p m n=s at*;split at hL
  ·rename_i hcond;rw[if_pos hcond] at hv;obtain⟨c1,c2,c3⟩:=hcond;have RE:=Jg hg k1 hx c1 c2 hL;have:=ih (x::L) RE (by simp only[bV] at hv ⊢;omega);intro hm;rcases Γ.1 hm with hm|hm;·exact this y (by simp[hy]) hm
   ·rw[γw] at hm;have hnd:=RE.nd;rw[ι,γC] at hnd;exact hnd.1 (hm▸γ3 hy)
  ·rename_i hcond;rw[if_neg hcond] at hv;intro hm;rcases Γ.1 hm with hm|hm;·exact ih L hL hv y hy hm
   ·rw[γw] at hm;subst hm;have hperm:=List.perm_cons_erase hy;have hv2:=IQ hperm;simp only[bV] at hv2;obtain⟨t1,t2,t3,_⟩:=takes hg k1 (aby hperm hL) (by omega);exact hcond ⟨t1,t2,by omega⟩
theorem taken {p:bp} (hg:Good p) {m:Int} (h0:0<=m) (h1:m<256):∀n,n<=p.offers.length->kG 0 n (dQ p m n).out/\bV (ca p (dQ p m n).out)+(dQ p m n).rest=(pq p m).rest/\
  ∀L,mN p (dQ p m n).at_ L->mN p (pq p m).at_ (ca p (dQ p m n).out++L)
 |0,_=>⟨⟨by simp[dQ,pq],by simp[dQ,pq]⟩,by simp[dQ,pq,ca,bV],λL h=>by simpa[dQ,pq,ca] using h⟩
 |n+1,hn=>by
  obtain⟨k1,k2,k3⟩:=vR hg h0 h1 n (by omega);obtain⟨i1,i2,i3⟩:=taken hg h0 h1 n (by omega);have hx:=cO (d:=bn.off.dflt) (show n<p.offers.length by omega);rw[ya];unfold qb;simp only;split
  ·rename_i hcond;obtain⟨c1,c2,c3⟩:=hcond;have ho:ca p ((dQ p m n).out++[(n:Int)])=ca p (dQ p m n).out++[bj p.offers n bn.off.dflt]:=by
    rw[rP];congr 1
   refine⟨⟨?_,λj hj=>?_⟩,?_,λL hL=>?_⟩
   ·rw[γY];refine⟨i1.1,by simp,λa ha b hb=>?_⟩;rw[γw] at hb;have:=i1.2 a ha;omega
   ·rcases Γ.1 hj with hj|hj;·have:=i1.2 j hj;omega
    ·rw[γw] at hj;omega
   ·simp only;rw[ho,o8];simp only[bV];omega
   ·have:=i3 _ (Jg hg k1 hx c1 c2 hL);rw[ho];simpa using this
  ·exact⟨⟨i1.1,λj hj=>by have:=i1.2 j hj;omega⟩,i2,i3⟩
theorem abz {p:bp} (hc:bC p=0) {m:Int} (h0:0<=m) (h1:m<256):(dQ p m p.offers.length).rest=0:=by
 have hg:=dn hc;obtain⟨k1,k2,k3⟩:=vR hg h0 h1 p.offers.length (φ _);obtain⟨L,hL,hv⟩:=RB hg k1;have:=RD hc h0 h1 p.offers.length (φ _) L hL (by omega);cases L with
 |nil=>rw[k2,<-hv];rfl;|cons x L=>
  have hx:=(hL.mem x (by simp)).1;exact absurd (by rw[Δ];exact hx) (this x (by simp))
def uw (p:bp):Nat->Nat->x9->List Int
 |0,_,_=>[]
 |k+1,n,s=>
  let x:=bj p.offers n bn.off.dflt;if j5 s.at_.members x.bE≠0/\fitsAt p s.at_ x=true/\x.value+gi p (eK p s.at_ x)=s.rest then(n:Int)::uw p k (n+1) (qb p s n) else uw p k (n+1) (qb p s n)
theorem RF {p:bp} {m:Int}:∀{k n:Nat},n+k=p.offers.length->(dQ p m p.offers.length).out=(dQ p m n).out++uw p k n (dQ p m n)
 |0,n,h=>by
  have:n=p.offers.length:=by omega
  subst this;simp[uw];|k+1,n,h=>by
  rw[RF (k:=k) (n:=n+1) (by omega)];simp only[uw];rw[ya];unfold qb;simp only;split
  ·rename_i hc;simp[γf]
  ·rfl
theorem Ji {p:bp} (hc:bC p=0) {m:Int} (h0:0<=m) (h1:m<256):∀{k n:Nat},n+k=p.offers.length->∀t:List Int,kG n k t->mN p (dQ p m n).at_ (ca p t)->bV (ca p t)=(dQ p m n).rest->
  ¬cmpL t (uw p k n (dQ p m n))<0
 |0,n,h,t,ht,_,_=>by
  cases t with
  |nil=>simp[uw,cmpL];|cons j t=>
   have:=ht.2 j (by simp);omega
 |k+1,n,h,t,ht,hF,hv=>by
  have hg:=dn hc;obtain⟨k1,k2,k3⟩:=vR hg h0 h1 n (by omega);have hx:=cO (d:=bn.off.dflt) (show n<p.offers.length by omega);have hxv:=hg.2.2.2.2 _ hx;have hs:=@ya p m n;simp only[uw];rw[<-hs];by_cases hcond:j5 (dQ p m n).at_.members (bj p.offers n bn.off.dflt).bE≠0/\fitsAt p (dQ p m n).at_ (bj p.offers n bn.off.dflt)=true/\(bj p.offers n bn.off.dflt).value+gi p (eK p (dQ p m n).at_ (bj p.offers n bn.off.dflt))=(dQ p m n).rest
  ·rw[if_pos hcond];have hb0:=(xT hg (eK p (dQ p m n).at_ (bj p.offers n bn.off.dflt))).1;cases t with
   |nil=>
    simp only[ca,γp,bV] at hv;omega;|cons j t=>
    have hj:=ht.2 j (by simp);have hp:=γx.1 ht.1;by_cases hjn:j=n
    ·subst hjn;have hst:dQ p m (n+1)=⟨eK p (dQ p m n).at_ (bj p.offers n bn.off.dflt),(dQ p m n).rest - (bj p.offers n bn.off.dflt).value,(dQ p m n).out++[(n:Int)]⟩:=by
      rw[hs];unfold qb;simp only;rw[if_pos hcond]
     rw[oh,γt] at hF hv;simp only[bV] at hv;have hun:=(RA hg k1 hF).2;have:=Ji hc h0 h1 (k:=k) (n:=n+1) (by omega) t ⟨hp.2,λi hi=>by have a:=hp.1 i hi;have b:=ht.2 i (by simp[hi]);omega⟩ (by rw[hst];exact hun) (by rw[hst];simp only;omega);simp only[cmpL];rw[if_neg (ε1 _),if_neg (ε1 _)];exact this
    ·simp only[cmpL];rw[if_neg (by omega),if_pos (by omega)];omega
  ·rw[if_neg hcond];have hst:dQ p m (n+1)=dQ p m n:=by rw[hs];unfold qb;simp only;rw[if_neg hcond]
   refine Ji hc h0 h1 (k:=k) (n:=n+1) (by omega) t ⟨ht.1,λi hi=>?_⟩ (by rw[hst];exact hF) (by rw[hst];exact hv);have b:=ht.2 i hi;have:i≠n:=by
    rintro rfl;cases t with
    |nil=>simp at hi;|cons j t=>
     have hj:=ht.2 j (by simp);have hp:=γx.1 ht.1;have hjn:j=n:=by
      rcases γq.1 hi with h|h;·exact h.symm
      ·have:=hp.1 _ h;omega
     subst hjn;rw[oh,γt] at hF hv;simp only[bV] at hv;obtain⟨t1,t2,t3,_⟩:=takes hg k1 hF (by omega);exact hcond ⟨t1,t2,by omega⟩
   omega
theorem RG {p:bp} (hg:Good p):(0<=allM p/\allM p<2^p.classes.length)/\allM p<256:=by
 have:=pY hg.1;unfold allM;omega
theorem abA {p:bp} (hc:bC p=0):(lh p (allM p)).value=lX p/\lB p (lh p (allM p)).chosen/\bV (ca p (lh p (allM p)).chosen)=lX p/\
  ∀t,lB p t->¬lC ⟨t,bV (ca p t)⟩ (lh p (allM p)):=by
 have hg:=dn hc;obtain⟨⟨m0,m1⟩,m2⟩:=RG hg;have hf:fz p (allM p)=0:=by unfold fz;rw[if_neg (by simp[hc]),if_neg (by omega)]
 have hb:lh p (allM p)=⟨(dQ p (allM p) p.offers.length).out,gi p ⟨allM p,p.supply,p.opn⟩⟩:=by unfold lh;rw[if_pos hf]
 have htop:lX p=gi p ⟨allM p,p.supply,p.opn⟩:=by unfold lX gR;rw[if_pos hf]
 obtain⟨i1,i2,i3⟩:=taken hg m0 m2 p.offers.length (φ _);obtain⟨k1,k2,k3⟩:=vR hg m0 m2 p.offers.length (φ _);have hz:=abz hc m0 m2;have hst:(pq p (allM p)).rest=gi p ⟨allM p,p.supply,p.opn⟩:=rfl;have q1:=bz.eL.1 k1.2.2.1;have q2:=bz.eL.1 k1.2.2.2;have hnil:mN p (dQ p (allM p) p.offers.length).at_ []:=⟨by simp,by simp,by rw[bz.le_iff];simp[dP];omega,by rw[bz.le_iff];simp[dP];omega⟩;have hall:=i3 [] hnil;rw[γZ] at hall;have hout:=@RF p (allM p) p.offers.length 0 (by omega);have h00:(dQ p (allM p) 0).out=[]:=rfl;rw[h00,List.nil_append] at hout;have hF:lB p (dQ p (allM p) p.offers.length).out:=⟨i1,hall.nd,hall.w,hall.o⟩;have hV:bV (ca p (dQ p (allM p) p.offers.length).out)=lX p:=by omega
 rw[hb];refine⟨htop.symm,hF,hV,λt ht=>?_⟩;have hfit:mN p (pq p (allM p)).at_ (ca p t):=⟨ht.2.1,λx hx=>by
  have hm:=xY hg (DJ ht.1) x hx;have hv:=hg.2.2.2.2 x hm;exact⟨hm,IZ hg hv.1 hv.2.1⟩,ht.2.2.1,ht.2.2.2⟩;have hle:=Jh hg hfit;rintro(h|⟨h1,h2⟩)
 ·have h:gi p ⟨allM p,p.supply,p.opn⟩<bV (ca p t):=h;have hle:bV (ca p t)<=gi p ⟨allM p,p.supply,p.opn⟩:=hle;omega
 ·have h1:bV (ca p t)=gi p ⟨allM p,p.supply,p.opn⟩:=h1;have h2:cmpL t (dQ p (allM p) p.offers.length).out<0:=h2;rw[hout] at h2;exact Ji hc m0 m2 (k:=p.offers.length) (n:=0) (by omega) t (by simpa using ht.1) hfit h1 h2
def phi (k j:Int):Int:=if k<=j then j+1 else j
def vS (p:bp) (k:Int):Alloc:=if lY p k=0 then⟨(lh (gj p k) (allM p)).chosen.map (phi k),(lh (gj p k) (allM p)).value⟩ else⟨[],0⟩
def pr (p:bp) (b:Int):Bool:=if bC p≠0 then false else if b<0\/(p.classes.length:Int)<=b then false else decide (gR p (iw (allM p) b)<lX p)
def qN (p:bp) (b:Int):Int:=if bC p≠0 then bC p else if b<0\/(p.classes.length:Int)<=b then 6 else 0
def DY:bL:=⟨39,bp×Int,.cons cY (.one (dX .i64)),λ_=>True,λa=> .bH [.sb (pr a.1 a.2),.si .i64 (qN a.1 a.2)]⟩
theorem h33:Holds Tryz.prog DY:=by
 refine cG (L:=[pV,Ac,zW,DW]) DY lk (by simpa using⟨h79,h76,h80,h81⟩) ?_;rintro⟨p,b⟩ _;refine bO (let a:=δw false;let c:=SV.bH;let d:=Ξ .i64;let e:=(0:Int);let h:=decide (bC p≠e);let f:=c [γI (pr p b),d (qN p b)];let i:=decide (b<e);let j:=decide ((↑p.classes.length:Int)<=b);let k:=(1:Int)*(2:Int)^b.toNat;let g:=eI.pO .i64 (allM p) k;let l:=decide (fz p g=e);let m:=[d (fz p g)];True/\(h=true->(c [a,d (bC p)]).same f)/\(h=false->(i=true->(c [a,γr .i64 6]).same f)/\(i=false->(j=true->(c [a,γr .i64 6]).same f)/\(j=false->p.classes.length<=8/\e<=b/\b<=(64:Int)/\bW .i64 k/\True/\(l=true->p.classes.length<=8/\(c (γI (decide (gR p g<lX p))::m)).same f)/\(l=false->(c (a::m)).same f))))) (by kernel_rfl) ?_;simp only[vcs];refine⟨λh=>by simp[pr,qN,h],λh=>⟨λhb=>by simp[pr,qN,h,hb],λhb=>⟨λhn=>by simp[pr,qN,h,hn],λhn=>?_⟩⟩⟩;have hc:bC p=0:=ω.1 h;have hg:=dn hc;have h8:=hg.1;have hd:eI.pO .i64 (allM p) (1*2^b.toNat)=iw (allM p) b:=by rw[δI];rfl
 obtain⟨d0,d1⟩:=I0 hg (show 0<=b by omega) (show b<p.classes.length by omega);have hf:fz p (iw (allM p) b)=0:=by unfold fz;rw[if_neg (by simp[hc]),if_neg (by omega)]
 have h2:(2:Int)^b.toNat<=2^8:=by
  have:=Nat.pow_le_pow_right (n:=2) (by decide) (show b.toNat<=8 by omega);exact_mod_cast this
 have h3:(0:Int)<2^b.toNat:=by exact_mod_cast Nat.two_pow_pos b.toNat
 rw[hd];refine⟨by omega,by omega,by omega,by omega,λhz=>⟨by omega,?_⟩,λhz=>absurd hf hz⟩;rw[hf];unfold pr qN;rw[if_neg (by simp[hc]),if_neg (by omega),if_neg (by simp[hc]),if_neg (by omega)];exact⟨rfl,rfl⟩
def Jj:bL:=⟨19,bp,.one cY,λ_=>True,λp=> .sb (decide (p.classes.length<=8/\p.offers.length<=9))⟩
theorem h28:Holds Tryz.prog Jj:=by
 refine cG (L:=[]) Jj lk (by simp) ?_;intro(p:bp) _;refine bO (let a:=decide ((↑p.classes.length:Int)<=(8:Int));let b:=γI (decide (p.classes.length<=8/\p.offers.length<=9));(a=true->(γI (decide ((↑p.offers.length:Int)<=(9:Int)))).same b)/\(a=false->(δw false).same b)) (by kernel_rfl) ?_;simp only[vcs];refine⟨λh=>?_,λh=>?_⟩;·rw[decide_eq_decide];omega
 ·symm;rw[decide_eq_false_iff_not];omega
theorem abB {x:Off} {a b:List Off} (h:(a++x::b).Nodup):(a++x::b).filter (λy=>decide (y≠x))=a++b:=by
 rw[List.nodup_append] at h;obtain⟨_,n2,n3⟩:=h;rw[δq,δy,if_neg (by simp)];rw[δm.2 λy hy=>by simpa using n3 y hy x (by simp)];rw[δm.2 λy hy=>by
  have:=(γC.1 n2).1;have:y≠x:=λe=>this (e▸hy);simpa using this]
theorem abC {p:bp} {k:Int} (hn:p.offers.Nodup) (h0:0<=k) (h1:k<p.offers.length):gj p k=uu p (p.offers.filter λx=>decide (x≠bj p.offers k.toNat bn.off.dflt)):=by
 have hsp:p.offers=p.offers.take k.toNat++bj p.offers k.toNat bn.off.dflt::p.offers.drop (k+1).toNat:=by
  rw[<-uj h0 h1,List.take_append_drop]
 have hf:=abB (hsp▸hn);rw[<-hsp] at hf;unfold gj uu;rw[hf]
theorem abD {p:bp} {k:Int} (hc:bC p=0) (h0:0<=k) (h1:k<p.offers.length):bC (gj p k)=0:=by
 rw[abC (IW hc) h0 h1];exact abn hc
def Jk:bL:=⟨48,bp×Int,.cons cY (.one (dX .i64)),λ_=>True,λa=> .bH [lV.put (vS a.1 a.2),.si .i64 (lY a.1 a.2)]⟩
def kH (a:bp×Int):Alloc:=lh (gj a.1 a.2) (allM (gj a.1 a.2))
def mO (a:bp×Int) (i:Nat):List Int:=((kH a).chosen.take i).map (phi a.2)++(kH a).chosen.drop i
def abE (a:bp×Int):Nat->cC
 |9=> .inv Int (λi=>⟨[(1,.si .i64 a.2),(4,.ptr 1 0 2),(8,.ptr 3 0 2),(36,.ow 4 (mO a i.toNat).length 1),(37,.si .i64 (kH a).chosen.length),(38,.si .i64 i)],
   [.cells a.1.ss 27 20 false,.cells [.sc (.slice none 0 0),.il .i64 0] 41 2 false,.cells (gj a.1 a.2).ss 81 20 false,.cells [.ow 4 (mO a i.toNat).length 1,.si .i64 (kH a).value] 41 2 false,.row (.i .i64) (mO a i.toNat) 3 false]⟩) (λs=>iS s 38)
  (λi=>0<=i/\i<=(kH a).chosen.length) (λi=>((kH a).chosen.length - i).toNat) λ_ _=> .look
 |_=> .look
theorem DZ {a:bp×Int} {i:Nat}:(mO a i).length=(kH a).chosen.length:=by simp[mO];omega
theorem abG {a:bp×Int}:mO a 0=(kH a).chosen:=by simp[mO]
theorem abH {a:bp×Int} {i:Nat} (h:i=(kH a).chosen.length):mO a i=(kH a).chosen.map (phi a.2):=by subst h;simp[mO]
theorem set_mid {α:Type} {a b:List α} {x y:α}:(a++x::b).set a.length y=a++y::b:=by simp
theorem set_self {l:List Int} {i:Nat} (h:i<l.length):l.set i (bj l i 0)=l:=by rw[cQ h];exact List.set_getElem_self h
theorem abI {a:bp×Int} {i:Nat} (h:i<(kH a).chosen.length):bj (mO a i) i 0=bj (kH a).chosen i 0/\
  mO a (i+1)=(mO a i).set i (phi a.2 (bj (kH a).chosen i 0)):=by
 unfold mO bj;generalize (kH a).chosen=c at*;have hl:((c.take i).map (phi a.2)).length=i:=by simp;omega
 have hd:c.drop i=c[i]::c.drop (i+1):=List.drop_eq_getElem_cons h;refine⟨?_,?_⟩
 ·rw[List.getElem?_append_right (by omega),hl,hd];simp[h]
 ·rw[hd];have h2:=set_mid (a:=(c.take i).map (phi a.2)) (b:=c.drop (i+1)) (x:=c[i]) (y:=phi a.2 (c[i]?.getD 0));rw[hl] at h2;rw[h2,List.take_succ_eq_append_getElem h,γb];simp[h]
theorem h30:Holds Tryz.prog Jk:=by
 refine con (L:=[DX,DT,Ac]) (W:=fQ [Je]) Jk abE (kZ (by simpa using h75)) (by simpa using⟨h73,h74,h76⟩) ?_;rintro⟨p,k⟩ _;refine bO (let a:=Ξ .i64;let b:=(0:Int);let c:=bq.cells;let d:=bq.row;let e:=Ψ;let f:=SV.bH;let g:=(1:Int);let h:=γ8;let j:=γG;let m:=bn.i .i64;let C:=decide (lY p k≠b);let q:=γr .i64 0;let D:=j [e m [],q];let E:=[a (lY p k)];let A:=f (j [e m (vS p k).chosen,a (vS p k).value]::E);let F:=a 0;let r:=γV 1 0 2;let s:=γV 3 0 2;let t:=lh (gj p k) (allM (gj p k));let G:=h 4 t.chosen.length 1;let H:=mO (p,k) 0;let I:=h 4 H.length 1;let n:=(↑(kH (p,k)).chosen.length:Int);let B:=a n;let v:=c [SV.sc (Value.slice none 0 0),q] 41 2 false;let w:=[a (kH (p,k)).value];let y:=λ(u:bp) (u_1:Nat) ↦let J:=c [a u.supply.a0,a u.supply.a1,a u.supply.a2,a u.supply.a3,a u.supply.a4,a u.supply.a5,a u.opn.a0,a u.opn.a1,a u.opn.a2,a u.opn.a3,a u.opn.a4,a u.opn.a5,a u.cls.a0,a u.cls.a1,a u.cls.a2,a u.cls.a3,a u.cls.a4,a u.cls.a5,e m u.classes,e bn.off u.offers] u_1 20 false;J.same J;True/\(C=true->(f (D::E)).same A)/\(C=false->(p.offers.length<=160/\b<=k/\k<(↑p.offers.length:Int))/\(gj p k).classes.length<=8/\fz (gj p k) (allM (gj p k))=b/\(false=true->(f [D,F]).same A)/\(false=false->((((a k).same (a k)/\r.same r/\s.same s/\G.same I/\(a (↑t.chosen.length:Int)).same B/\q.same F/\True)/\y p 27/\v.same v/\y (gj p k) 81/\(c [G,a t.value] 41 2 false).same (c (I::w) 41 2 false)/\(d m t.chosen 3 false).same (d m H 3 false)/\True)/\b<=b/\b<=n)/\∀(x:Int),let l:=mO (p,k) x.toNat;let K:=h 4 l.length 1;let o:=x+g;let L:=mO (p,k) o.toNat;let M:=h 4 L.length 1;let N:=a o;let z:=bj l x.toNat b;let P:=(a k).same (a k)/\r.same r/\s.same s/\K.same M/\B.same B/\N.same N/\True;let O:=λ(u:List Int) ↦bW .i64 o/\(P/\y p 27/\v.same v/\y (gj p k) 81/\(c (K::w) 41 2 false).same (c (M::w) 41 2 false)/\(d m u 3 false).same (d m L 3 false)/\True)/\(b<=o/\o<=n)/\(n - o).toNat<(n - x).toNat;b<=x/\x<=n->(decide (x<n)=true->l.length=l.length/\b<=x/\x<(↑l.length:Int)/\l.length=l.length/\x.toNat<l.length/\(decide (k<=z)=true->bW .i64 (z+g)/\l.length=l.length/\b<=x/\x<(↑l.length:Int)/\l.length=l.length/\x.toNat<l.length/\O (l.set x.toNat (z+g)))/\(decide (k<=z)=false->O l))/\(decide (x<n)=false->l.length=l.length/\(f [j (e m l::w),q]).same A)))) (by kernel_rfl) ?_;simp only[vcs];have zal:∀{a:Alloc},a=⟨[],0⟩->(γG [.row (.i .i64) [],.il .i64 0]).same (γG [.row (.i .i64) a.chosen,.si .i64 a.value]):=by rintro _ rfl;rfl
 refine⟨λh=>zal (by unfold vS;rw[if_neg h]),λh=>?_⟩;have hz:lY p k=0:=ω.1 h;obtain⟨hc,k0,k1⟩:=Rl hz;have hg:=dn hc;have h160:=hg.2.1;have h8:=hg.1;have hcq:=abD hc k0 k1;have Jl:=dn hcq;obtain⟨⟨m0,m1⟩,m2⟩:=RG Jl;have hf:fz (gj p k) (allM (gj p k))=0:=by unfold fz;rw[if_neg (by simp[hcq]),if_neg (by omega)]
 obtain⟨b1,b2,b3,b4⟩:=abA hcq;have hlen:=abt hcq ((Rr hcq).2 b2);have hb:lh (gj p k) (allM (gj p k))=kH (p,k):=rfl;rw[hb] at b1 b2 b3 b4 hlen ⊢;have agT:=Jl.2.1;have Jm:∀{a b:Nat} {v:Int},a=b->(bq.cells [.ow 4 a 1,.si .i64 v] 41 2 false).same (bq.cells [.ow 4 b 1,.si .i64 v] 41 2 false):=by rintro _ _ _ rfl;rfl
 have hrow:∀{a b:List Int},a=b->(bq.row (.i .i64) a 3 false).same (bq.row (.i .i64) b 3 false):=by rintro _ _ rfl;rfl
 have how:∀{a b:Nat},a=b->(γ8 4 a 1).same (γ8 4 b 1):=by rintro _ _ rfl;rfl
 refine⟨⟨h160,k0,k1⟩,Jl.1,hf,λh=>absurd h (by decide),λ_=>⟨⟨⟨⟨how DZ.symm,rfl⟩,Jm DZ.symm,hrow abG.symm⟩,by omega,by omega⟩,?_⟩⟩;rintro i ⟨i0,i1⟩;refine⟨λj8=>?_,λlW=>?_⟩
 ·obtain⟨n1,n2⟩:=abI (a:=(p,k)) (i:=i.toNat) (by omega);have hm:=b2.1.2 _ (cO (d:=(0:Int)) (show i.toNat<(kH (p,k)).chosen.length by omega));have hl:=@DZ (p,k) i.toNat;have hl2:=@DZ (p,k) (i+1).toNat;rw[show i.toNat+1=(i+1).toNat by omega] at n2;rw[n1];generalize bj (kH (p,k)).chosen i.toNat 0=x at*;refine⟨i0,by omega,by omega,λhx=>⟨by omega,i0,by omega,by omega,by omega,⟨how (by omega),Jm (by omega),hrow ?_⟩,by omega,by omega⟩,λhx=>⟨by omega,⟨how (by omega),Jm (by omega),hrow ?_⟩,by omega,by omega⟩⟩;·rw[n2];unfold phi;rw[if_pos hx]
  ·rw[n2];unfold phi;rw[if_neg hx,<-n1,set_self (by omega)]
 ·have hi:i.toNat=(kH (p,k)).chosen.length:=by omega
  rw[abH hi,hz];unfold vS;rw[if_pos hz];exact⟨rfl,rfl⟩
def Jn:bL:=⟨47,Unit,.nil,λ_=>True,λ_=>cY.put three⟩
theorem h72:Holds Tryz.prog Jn:=by
 refine cG (L:=[]) Jn lk (by simp) ?_;intro _ _;refine bO (let a:=Ξ .i64;let b:=(0:Int);let c:=(1:Int);let d:=Ψ;let g:=γr .i64 1;let e:=γr .i64 0;let f:=three.supply;(γG [g,g,e,e,e,e,g,g,e,e,e,e,e,e,e,e,e,e,d (bn.i .i64) [b,b,b],d bn.off [Off.mk b (bz.mk c c b b b b) (10:Int),Off.mk c (bz.mk c b b b b b) (6:Int),Off.mk (2:Int) (bz.mk b c b b b b) (6:Int)]]).same (γG [a f.a0,a f.a1,a f.a2,a f.a3,a f.a4,a f.a5,a three.opn.a0,a three.opn.a1,a three.opn.a2,a three.opn.a3,a three.opn.a4,a three.opn.a5,a three.cls.a0,a three.cls.a1,a three.cls.a2,a three.cls.a3,a three.cls.a4,a three.cls.a5,d (bn.i .i64) three.classes,d bn.off three.offers])) (by kernel_rfl) ?_;conv=>zeta
 rfl
def Q6:List bL:=[Jn,I9,Jk,DY,r32]
theorem hQ6:∀c∈Q6,Holds Tryz.prog c:=by
 simp only[Q6,γs,γ5,false_implies,implies_true,and_true];exact⟨h72,h37,h30,h33,h32⟩
def Jo:bL:=⟨20,Unit,.nil,λ_=>True,λ_=> .sb true⟩
theorem h29:Holds Tryz.prog Jo:=by
 refine cG (L:=Q6) Jo lk hQ6 ?_;intro _ _;refine bO (let a:=δw false;let b:=γI;let c:=(0:Int);let d:=(3:Int);let e:=(1:Int);let z0:Nat:=(x7 three).length;let f:=!pr three c;True/\True/\True/\True/\True/\True/\True/\True/\(true=true->(true=true->c<=c/\c<d/\0<z0/\(true=true->c<=e/\e<d/\1<z0/\(true=true->c<=(2:Int)/\(2:Int)<d/\2<z0/\(true=true->(true=true->(true=true->((vS three c).chosen.length<=1000000000000/\2<=1000000000000)/\(true=true->(true=true->(f=true->(true=true->(b (pr three e)).same (b true))/\(true=false->(a).same (b true)))/\(f=false->(a).same (b true)))/\(true=false->(a).same (b true)))/\(true=false->(a).same (b true)))/\(true=false->(a).same (b true)))/\(true=false->(a).same (b true)))/\(true=false->(a).same (b true)))/\(true=false->(a).same (b true)))/\(true=false->(a).same (b true)))/\(true=false->(a).same (b true)))/\(true=false->(a).same (b true))) (by kernel_rfl) ?_;simp only[vcs];have e1:x7 three=[12,4,4]:=by kernel_rfl
 have e2:vS three 0=⟨[1,2],12⟩:=by kernel_rfl
 have e3:bC three=0:=by kernel_rfl
 have e4:lY three 0=0:=by kernel_rfl
 have e5:pr three 0=false:=by kernel_rfl
 have e6:pr three 1=true:=by kernel_rfl
 have e7:qN three 0=0:=by kernel_rfl
 have e8:qN three 1=0:=by kernel_rfl
 simp[e1,e2,e3,e4,e5,e6,e7,e8]
def oo (a:List Int):Nat->Nat
 |0=>0
 |n+1=>if bj a n 0=0 then oo a n else n+1
def bI (a:List Int):List Int:=a.take (oo a a.length)
def rR:bL:=⟨195,List Int,.one (dV (.i .u32)),λa=>a.length<=1000000000000,λa=> .row (.i .u32) (bI a)⟩
def abL (a:List Int):Nat->cC
 |2=> .inv Int (λn=>⟨[(0,.row (.i .u32) a),(3,.si .i64 n)],[]⟩) (λs=>iS s 3) (λn=>0<=n/\n<=a.length/\oo a n.toNat=oo a a.length) (λn=>n.toNat) λ_ _=> .look
 |_=> .look
theorem h152:Holds Tryz.prog rR:=by
 refine cG (L:=[]) rR abL (by simp) ?_;intro(a:List Int) (h:a.length<=1000000000000);refine bO (let e:=(0:Int);let f:=Ψ;let c:=bn.i .u32;let d:=(↑a.length:Int);let l:=Ξ .i64 d;let g:=(↑a.length:Int);let j:=oo a a.length;((((f c a).same (f c a)/\l.same l/\True)/\True)/\e<=d/\d<=g/\oo a d.toNat=j)/\∀(x:Int),let r:=decide (e<x);let b:=x - (1:Int);let o:=decide (bj a b.toNat e=e);let k:=Ξ .i64 b;e<=x/\x<=g/\oo a x.toNat=j->(r=true->bW .i64 b/\e<=b/\b<d/\b.toNat<a.length/\(o=true->bW .i64 b/\(((f c a).same (f c a)/\k.same k/\True)/\True)/\(e<=b/\b<=g/\oo a b.toNat=j)/\b.toNat<x.toNat)/\(o=false->e<=x/\e<=x/\0<=x.toNat/\x.toNat<=x.toNat/\x.toNat<=a.length/\(f c (γd (x.toNat - 0) a)).same (f c (bI a))))/\(r=false->e<=x/\e<=x/\0<=x.toNat/\x.toNat<=x.toNat/\x.toNat<=a.length/\(f c (γd (x.toNat - 0) a)).same (f c (bI a)))) (by kernel_rfl) ?_;simp only[vcs];refine⟨⟨by omega,by omega,by simp⟩,?_⟩;rintro n ⟨f,t,q⟩;have e:(n.toNat=0\/0<n.toNat/\¬bj a (n.toNat - 1) 0=0)->γd (n.toNat - 0) a=bI a:=λh=>by
  unfold bI;rw[<-q];congr 1;rcases h with h|h;·rw[h];rfl
  ·obtain⟨v,h⟩:=h;obtain⟨m,u⟩:∃m,n.toNat=m+1:=⟨n.toNat - 1,by omega⟩;simp_all[oo]
 refine⟨λs=>⟨by omega,by omega,by omega,by omega,λp=>⟨by omega,⟨by omega,by omega,?_⟩,by omega⟩,λp=>⟨f,f,by omega,by omega,by omega,?_⟩⟩,λs=>⟨f,f,by omega,by omega,by omega,e (.inl (by omega))⟩⟩
 ·rw[<-q,show n.toNat=(n - 1).toNat+1 by omega];rw[oo,if_pos p]
 simp_all
def bk:List Int->Int
 |[]=>0
 |d::l=>d+4294967296*bk l
def bA (a:List Int):Prop:=∀d∈a,0<=d/\d<4294967296
def fF:List Int->Prop
 |[]=>True
 |d::l=>(l=[]->d≠0)/\fF l
theorem ja {d:Int} {l:List Int}:bA (d::l)↔(0<=d/\d<4294967296)/\bA l:=by simp[bA]
theorem nC {a:List Int} (h:bA a) (n:Nat):bA (a.take n):=λd b=>h d (List.mem_of_mem_take b)
theorem eZ:∀{a:List Int},bA a->0<=bk a
 |[],_=>Int.le_refl _
 |d::l,h=>by
  obtain⟨c,b⟩:=ja.1 h;have:=eZ b;grind[bk]
theorem val_zero:∀{a:List Int},bA a->fF a->bk a=0->a=[]
 |[],_,_,_=>rfl
 |d::l,h,b,f=>by
  obtain⟨g,c⟩:=ja.1 h;have:=eZ c;simp only[bk] at f;have e:=val_zero c b.2 (by omega);have:=b.1 e;omega
theorem val_inj:∀{a b:List Int},bA a->bA b->fF a->fF b->bk a=bk b->a=b
 |[],b,_,i,_,c,h=>(val_zero i c h.symm).symm
 |d::l,[],f,_,g,_,h=>val_zero f g h
 |d::l,e::m,f,i,g,c,h=>by
  obtain⟨p,j⟩:=ja.1 f;obtain⟨s,k⟩:=ja.1 i;have r:=eZ j;have q:=eZ k;simp only[bk] at h;have n:d=e:=by omega
  have o:bk l=bk m:=by omega
  rw[n,val_inj j k g.2 c.2 o]
theorem yc:∀{a:List Int} {x:Int},bk (a++[x])=bk a+4294967296^a.length*x
 |[],x=>by simp[bk];|d::l,x=>by
  simp only[γE,bk,yc,γy,γQ,εz];grind
theorem Jp:∀{a:List Int} {x:Int},x≠0->fF (a++[x])
 |[],x,h=>⟨λ_=>h,trivial⟩
 |d::l,x,h=>⟨λb=>by simp at b,Jp h⟩
theorem D1 {a:List Int} {n:Nat} (h:n<a.length):a.take (n+1)=a.take n++[bj a n 0]:=by
 simp_all[cQ]
theorem RI {a:List Int}:∀{n:Nat},n<=a.length->bk (a.take (oo a n))=bk (a.take n)/\fF (a.take (oo a n))
 |0,_=>by simp[oo,fF];|n+1,h=>by
  obtain⟨d,b⟩:=@RI a n (by omega);have c:=D1 (show n<a.length by omega);unfold oo;grind[yc,Jp]
theorem rT {a:List Int}:bk (bI a)=bk a/\fF (bI a):=by
 have:=@RI a a.length (φ _);rw[Δ] at this;exact this
theorem sS {a:List Int} (h:bA a):bA (bI a):=nC h _
theorem uy {a:List Int}:(bI a).length<=a.length:=by grind[bI]
def vT:Nat->Int->List Int
 |0,_=>[]
 |k+1,n=>if n<=0 then[] else(n % 4294967296)::vT k (n / 4294967296)
def cF (n:Int):List Int:=vT n.toNat n
theorem RJ:∀{k:Nat} {n:Int},0<=n->n.toNat<=k->bk (vT k n)=n/\bA (vT k n)/\fF (vT k n)
 |0,n,b,h=>by
  have:n=0:=by omega
  subst this;exact⟨rfl,by simp[vT,bA],trivial⟩;|k+1,n,b,h=>by
  unfold vT;split
  ·have:n=0:=by omega
   subst this;exact⟨rfl,by simp[bA],trivial⟩
  ·obtain⟨d,a,c⟩:=@RJ k (n / 4294967296) (by omega) (by omega);refine⟨by grind[bk],ja.2 ⟨by omega,a⟩,λe f=>?_,c⟩;grind[bk]
theorem gk {n:Int} (h:0<=n):bk (cF n)=n/\bA (cF n)/\fF (cF n):=RJ h (φ _)
theorem Ae {a:List Int} (h:bA a) (b:fF a):cF (bk a)=a:=by
 grind[gk,eZ,val_inj]
theorem qO {a:List Int} (h:bA a):bI a=cF (bk a):=by
 grind[rT,Ae,sS]
theorem oq:∀{a:List Int},bA a->bk a<4294967296^a.length
 |[],_=>by simp[bk];|d::l,h=>by
  obtain⟨c,b⟩:=ja.1 h;have:=oq b;grind[bk]
def iP (s t:List Int):Nat->Int
 |0=>0
 |i+1=>(bj s i 0+iP s t i+bj t i 0) / 4294967296
def sT (s t:List Int) (i:Nat):Int:=(bj s i 0+iP s t i+bj t i 0) % 4294967296
def pv (s t:List Int) (i:Nat):List Int:=(τ i).map (sT s t)++ε (s.length+1 - i) 0
def big (a:List Int×List Int):List Int:=if a.1.length<a.2.length then a.2 else a.1
def lZ (a:List Int×List Int):List Int:=if a.1.length<a.2.length then a.1 else a.2
def Af:bL:=⟨192,List Int×List Int,.cons (dV (.i .u32)) (.one (dV (.i .u32))),λa=>(bA a.1/\bA a.2)/\a.1.length<=100000000000/\a.2.length<=100000000000,λa=> .row (.i .u32) (cF (bk a.1+bk a.2))⟩
def abM (a:List Int×List Int):Nat->cC
 |6=> .inv Int (λi=>⟨[(0,.row (.i .u32) (big a)),(1,.row (.i .u32) (lZ a)),(5,.ow 0 (pv (big a) (lZ a) i.toNat).length 1),(6,.si .u64 (iP (big a) (lZ a) i.toNat)),(21,.si .i64 (big a).length),(22,.si .i64 i)],[.row (.i .u32) (pv (big a) (lZ a) i.toNat) 235 true]⟩) (λs=>iS s 22)
  (λi=>0<=i/\i<=(big a).length) (λi=>((big a).length - i).toNat) λ_ _=> .look
 |_=> .look
theorem dW {a:List Int} (h:bA a) (i:Nat):0<=bj a i 0/\bj a i 0<4294967296:=by
 by_cases b:i<a.length;·rw[cQ b];exact h _ (List.getElem_mem b)
 grind[bj]
theorem D2 {a:List Int} {i:Nat} (h:a.length<=i):bj a i 0=0:=by grind[bj]
theorem Jq {s t:List Int} (b:bA s) (a:bA t):∀i,0<=iP s t i/\iP s t i<=1
 |0=>by simp[iP];|i+1=>by
  have h:=Jq b a i;have c:=dW b i;have d:=dW a i;grind[iP]
theorem yd {s t:List Int} {i:Nat} (h:i<=s.length):(pv s t i).length=s.length+1:=by grind[pv]
theorem Jr {s t:List Int} {i:Nat} {v:Int} (h:i<=s.length):(pv s t i).set i v=(τ i).map (sT s t)++v::ε (s.length - i) 0:=by
 unfold pv;have a:s.length+1 - i=(s.length - i)+1:=by omega
 rw[a,List.replicate_succ];simp_all
theorem RL {s t:List Int} {i:Nat} (h:i<s.length):pv s t (i+1)=(pv s t i).set i (sT s t i):=by
 rw[Jr (by omega)];unfold pv;rw[δr,γb,γf];simp_all
theorem l8 {a:List Int} {i:Nat}:bk (a.take (i+1))=bk (a.take i)+4294967296^i*bj a i 0:=by
 by_cases h:i<a.length;·grind[D1,yc]
 ·rw[D2 (by omega),γk (by omega),γk (by omega)];simp
theorem Js {s t:List Int}:∀i,bk ((τ i).map (sT s t))+4294967296^i*iP s t i=bk (s.take i)+bk (t.take i)
 |0=>by simp[iP,bk];|i+1=>by
  have a:=@Js s t i;rw[δr,γb,ι,γp,yc,l8,l8,γQ];grind[sT,iP]
theorem h154:Holds Tryz.prog Af:=by
 refine cG (L:=[rR]) Af abM (by simpa using h152) ?_;rintro⟨a,b⟩ ⟨⟨ha,hb⟩,hla,hlb⟩;simp only at ha hb hla hlb;refine bO (let c:=(18446744073709551616:Int);let d:=(0:Int);let e:=(4294967296:Int);let f:=Ξ .i64;let g:=Ψ;let h:=bq.row;let j:=γ8;let m:=(↑(big (a,b)).length:Int);let q:=(↑(big (a,b)).length:Int);let r:=(↑(lZ (a,b)).length:Int);let k:=bn.i .u32;let s:=g k (big (a,b));let t:=g k (lZ (a,b));let v:=f m;let z:=pv (big (a,b)) (lZ (a,b)) 0;let G:=∀(x:Int),let l:=pv (big (a,b)) (lZ (a,b)) x.toNat;let n:=l.length;let o:=x+(1:Int);let A:=pv (big (a,b)) (lZ (a,b)) o.toNat;let B:=f o;let C:=bj (big (a,b)) x.toNat d;let w:=iP (big (a,b)) (lZ (a,b)) x.toNat;let y:=l.set q.toNat (w % e);let D:=λ(u u_1:Int) ↦let E:=(u % c+u_1) % c;d<=(32:Int)/\(32:Int)<=(64:Int)/\l.length=n/\d<=x/\x<(↑n:Int)/\l.length=n/\x.toNat<n/\bW .i64 o/\((s.same s/\t.same t/\(j 0 l.length 1).same (j 0 A.length 1)/\(Ξ .u64 (E / e)).same (Ξ .u64 (iP (big (a,b)) (lZ (a,b)) o.toNat))/\v.same v/\B.same B/\True)/\(h k (l.set x.toNat (E % e)) 235 true).same (h k A 235 true)/\True)/\(d<=o/\o<=m)/\(m - o).toNat<(m - x).toNat;d<=x/\x<=m->(decide (x<m)=true->d<=x/\x<q/\x.toNat<(big (a,b)).length/\(decide (x<r)=true->d<=x/\x<r/\x.toNat<(lZ (a,b)).length/\D (C % c+w) (bj (lZ (a,b)) x.toNat d % c))/\(decide (x<r)=false->D C w))/\(decide (x<m)=false->l.length=n/\d<=q/\q<(↑n:Int)/\l.length=n/\q.toNat<n/\l.length=y.length/\y.length<=1000000000000/\(g k (bI y)).same (g k (cF (bk a+bk b))));let F:=λ(u:Bool) (u_1 u_2:List Int) ↦let p:=(↑u_1.length:Int)+(1:Int);decide ((↑a.length:Int)<(↑b.length:Int))=u->bW .i64 p/\d<=p/\p<=p/\p*(4:Int)<=(140737488355328:Int)/\p<=(1000000000000:Int)/\((((g k u_1).same s/\(g k u_2).same t/\(j 0 p.toNat 1).same (j 0 z.length 1)/\(γr .u64 0).same (Ξ .u64 (iP (big (a,b)) (lZ (a,b)) 0))/\(f (↑u_1.length:Int)).same v/\(γr .i64 0).same (f 0)/\True)/\(h k (d::ε u_1.length d) 235 true).same (h k z 235 true)/\True)/\d<=d/\d<=m)/\G;F true b a/\F false a b) (by kernel_rfl) ?_;simp only[vcs];have hbs:(a.length<b.length/\big (a,b)=b/\lZ (a,b)=a)\/(¬a.length<b.length/\big (a,b)=a/\lZ (a,b)=b):=by
  by_cases h:a.length<b.length;·exact .inl ⟨h,if_pos h,if_pos h⟩
  ·exact .inr ⟨h,if_neg h,if_neg h⟩
 generalize big (a,b)=s at*;generalize lZ (a,b)=t at*;have hrow:∀{u v:List Int},u=v->(bq.row (.i .u32) u 235 true).same (bq.row (.i .u32) v 235 true):=by rintro _ _ rfl;rfl
 have how:∀{u v:Nat},u=v->(γ8 0 u 1).same (γ8 0 v 1):=by rintro _ _ rfl;rfl
 have r0:∀u v:List Int,pv u v 0=0::ε u.length 0:=λu v=>rfl;refine⟨λh=>?_,λh=>?_⟩
 ·obtain⟨h1,e1,e2⟩:a.length<b.length/\s=b/\t=a:=by
   rcases hbs with h2|h2;·exact h2
   ·exact absurd (by omega) h2.1
  subst e1 e2;have hS:bA s:=by assumption
  have hT:bA t:=by assumption
  have hts:t.length<=s.length:=by omega
  have bd:=Jq hS hT;refine⟨⟨by omega,by omega⟩,by omega,by omega,by omega,by omega,⟨⟨⟨rfl,rfl,how (by rw[yd (by omega)];omega),rfl,rfl⟩,hrow (r0 s t).symm⟩,by omega,by omega⟩,?_⟩;rintro i ⟨i0,i1⟩;have l1:=@yd s t i.toNat (by omega);have b1:=bd i.toNat;have d1:=dW hS i.toNat;have d2:=dW hT i.toNat;refine⟨λj8=>?_,λlW=>?_⟩
  ·have l2:=@yd s t (i.toNat+1) (by omega);have e:(i+1).toNat=i.toNat+1:=by omega
   have hst:=RL (s:=s) (t:=t) (show i.toNat<s.length by omega);refine⟨i0,j8,by omega,λht=>?_,λht=>?_⟩
   ·have hv:(((bj s i.toNat 0 % 18446744073709551616+iP s t i.toNat) % 18446744073709551616+bj t i.toNat 0 % 18446744073709551616) % 18446744073709551616)=bj s i.toNat 0+iP s t i.toNat+bj t i.toNat 0:=by omega
    rw[hv,e];exact⟨i0,ht,by omega,by omega,by omega,i0,by omega,by omega,by omega,⟨⟨how (by omega),rfl⟩,hrow hst.symm⟩,by omega,by omega⟩
   ·have hz:=D2 (a:=t) (i:=i.toNat) (by omega);have hv:((bj s i.toNat 0 % 18446744073709551616+iP s t i.toNat) % 18446744073709551616)=bj s i.toNat 0+iP s t i.toNat+bj t i.toNat 0:=by omega
    rw[hv,e];exact⟨by omega,by omega,i0,by omega,by omega,by omega,⟨⟨how (by omega),rfl⟩,hrow hst.symm⟩,by omega,by omega⟩
  ·have hi:i.toNat=s.length:=by omega
   have hc:iP s t i.toNat % 4294967296=iP s t i.toNat:=by omega
   rw[hc,γt,hi];rw[hi] at l1 b1;refine⟨by omega,by omega,by omega,by simp,by simp;omega,?_⟩;rw[Jr (φ _),Nat.sub_self,ε2,qO ?_]
   ·rw[yc];have hv:=@Js s t s.length;rw[Δ,γk hts] at hv;have hl:((τ s.length).map (sT s t)).length=s.length:=by simp
    rw[hl,hv];try rw[ζA]
   ·intro d hd;rcases Γ.1 hd with hd|hd
    ·obtain⟨j,_,rfl⟩:=γg.1 hd;unfold sT;omega
    ·rw[γw] at hd;omega
 ·obtain⟨h1,e1,e2⟩:¬a.length<b.length/\s=a/\t=b:=by
   rcases hbs with h2|h2;·exact absurd h2.1 (by omega)
   ·exact h2
  subst e1 e2;have hS:bA s:=by assumption
  have hT:bA t:=by assumption
  have hts:t.length<=s.length:=by omega
  have bd:=Jq hS hT;refine⟨⟨by omega,by omega⟩,by omega,by omega,by omega,by omega,⟨⟨⟨rfl,rfl,how (by rw[yd (by omega)];omega),rfl,rfl⟩,hrow (r0 s t).symm⟩,by omega,by omega⟩,?_⟩;rintro i ⟨i0,i1⟩;have l1:=@yd s t i.toNat (by omega);have b1:=bd i.toNat;have d1:=dW hS i.toNat;have d2:=dW hT i.toNat;refine⟨λj8=>?_,λlW=>?_⟩
  ·have l2:=@yd s t (i.toNat+1) (by omega);have e:(i+1).toNat=i.toNat+1:=by omega
   have hst:=RL (s:=s) (t:=t) (show i.toNat<s.length by omega);refine⟨i0,j8,by omega,λht=>?_,λht=>?_⟩
   ·have hv:(((bj s i.toNat 0 % 18446744073709551616+iP s t i.toNat) % 18446744073709551616+bj t i.toNat 0 % 18446744073709551616) % 18446744073709551616)=bj s i.toNat 0+iP s t i.toNat+bj t i.toNat 0:=by omega
    rw[hv,e];exact⟨i0,ht,by omega,by omega,by omega,i0,by omega,by omega,by omega,⟨⟨how (by omega),rfl⟩,hrow hst.symm⟩,by omega,by omega⟩
   ·have hz:=D2 (a:=t) (i:=i.toNat) (by omega);have hv:((bj s i.toNat 0 % 18446744073709551616+iP s t i.toNat) % 18446744073709551616)=bj s i.toNat 0+iP s t i.toNat+bj t i.toNat 0:=by omega
    rw[hv,e];exact⟨by omega,by omega,i0,by omega,by omega,by omega,⟨⟨how (by omega),rfl⟩,hrow hst.symm⟩,by omega,by omega⟩
  ·have hi:i.toNat=s.length:=by omega
   have hc:iP s t i.toNat % 4294967296=iP s t i.toNat:=by omega
   rw[hc,γt,hi];rw[hi] at l1 b1;refine⟨by omega,by omega,by omega,by simp,by simp;omega,?_⟩;rw[Jr (φ _),Nat.sub_self,ε2,qO ?_]
   ·rw[yc];have hv:=@Js s t s.length;rw[Δ,γk hts] at hv;have hl:((τ s.length).map (sT s t)).length=s.length:=by simp
    rw[hl,hv];try rw[ζA]
   ·intro d hd;rcases Γ.1 hd with hd|hd
    ·obtain⟨j,_,rfl⟩:=γg.1 hd;unfold sT;omega
    ·rw[γw] at hd;omega
theorem ye:∀{a b:List Int},bA a->bA b->fF b->a.length<b.length->bk a<bk b
 |[],b,_,c,f,h=>by
  have n:=eZ c;grind[bk,val_zero];|d::l,[],_,_,_,h=>by simp at h;|d::l,e::m,g,c,f,h=>by
  obtain⟨k,j⟩:=ja.1 g;obtain⟨o,i⟩:=ja.1 c;simp only[γy] at h;have:=ye j i f.2 (by omega);grind[bk]
theorem Jt:∀{k:Nat} {a b:List Int},bA a->bA b->k<a.length->k<b.length->a.drop (k+1)=b.drop (k+1)->bj a k 0<bj b k 0->bk a<bk b
 |_,[],_,_,_,h,_,_,_=>by simp at h;|_,_::_,[],_,_,_,h,_,_=>by simp at h;|0,d::l,e::m,f,g,_,_,h,c=>by
  grind[bj,bk];|k+1,d::l,e::m,f,g,n,q,h,c=>by
  obtain⟨p,j⟩:=ja.1 f;obtain⟨o,i⟩:=ja.1 g;simp only[List.drop_succ_cons] at h;simp only[bj,γP] at c;have:=Jt (k:=k) j i (by simp_all) (by simp_all) h c;grind[bk]
theorem D3 {a:List Int} {k:Nat} (h:k<a.length):a.drop k=bj a k 0::a.drop (k+1):=by simp_all[cQ]
def l9 (x y:Int):Int:=if x<y then -1 else if y<x then 1 else 0
def yf:bL:=⟨159,List Int×List Int,.cons (dV (.i .u32)) (.one (dV (.i .u32))),λa=>(bA a.1/\bA a.2)/\a.1.length<=1000000000000/\a.2.length<=1000000000000,λa=> .si .i64 (l9 (bk a.1) (bk a.2))⟩
def abN (a:List Int×List Int):Nat->cC
 |7=> .inv Int (λi=>⟨[(0,.row (.i .u32) (bI a.1)),(1,.row (.i .u32) (bI a.2)),(22,.si .i64 (bI a.1).length),(23,.si .i64 i)],[]⟩) (λs=>iS s 23)
  (λi=>0<=i/\i<=(bI a.1).length/\(bI a.1).drop ((bI a.1).length - i.toNat)=(bI a.2).drop ((bI a.1).length - i.toNat)) (λi=>((bI a.1).length - i).toNat) λ_ _=> .look
 |_=> .look
theorem h132:Holds Tryz.prog yf:=by
 refine cG (L:=[rR]) yf abN (by simpa using h152) ?_;rintro⟨a,b⟩ ⟨⟨ha,hb⟩,hla,hlb⟩;simp only at ha hb hla hlb;refine bO (let c:=(0:Int);let d:=Ξ .i64;let e:=γr .i64;let f:=bW .i64;let z0:Nat:=(bI a).length;let h:=(↑z0:Int);let z2:Nat:=(bI b).length;let l:=(↑z2:Int);let n:=d (l9 (bk a) (bk b));let o:=Ψ (bn.i .u32) (bI a);let p:=Ψ (bn.i .u32) (bI b);let z7:Nat:=(bI a).length;let j:=(↑z7:Int);let s:=d j;let t:=e 0;let g:=h - (1:Int);a.length<=1000000000000/\b.length<=1000000000000/\(decide (h≠l)=true->(decide (h<l)=true->(e (-1:Int)).same n)/\(decide (h<l)=false->(e 1).same n))/\(decide (h≠l)=false->(((o.same o/\p.same p/\(d h).same s/\t.same (d 0)/\True)/\True)/\c<=c/\c<=j/\γ7 (z7 - 0) (bI a)=γ7 (z7 - 0) (bI b))/\∀(x:Int),let m:=(g - x).toNat;let q:=bj (bI a) m c;let r:=bj (bI b) m c;let k:=x+(1:Int);let u:=d k;c<=x/\x<=j/\γ7 (z7 - x.toNat) (bI a)=γ7 (z7 - x.toNat) (bI b)->(decide (x<j)=true->f g/\f (g - x)/\c<=g - x/\g - x<h/\m<z0/\c<=g - x/\g - x<l/\m<z2/\(decide (q<r)=true->(e (-1:Int)).same n)/\(decide (q<r)=false->c<=g - x/\g - x<h/\m<z0/\c<=g - x/\g - x<l/\m<z2/\(decide (r<q)=true->(e 1).same n)/\(decide (r<q)=false->f k/\((o.same o/\p.same p/\s.same s/\u.same u/\True)/\True)/\(c<=k/\k<=j/\γ7 (z7 - k.toNat) (bI a)=γ7 (z7 - k.toNat) (bI b))/\(j - k).toNat<(j - x).toNat)))/\(decide (x<j)=false->t.same n))) (by kernel_rfl) ?_;simp only[vcs];obtain⟨va,na⟩:=@rT a;obtain⟨vb,nb⟩:=@rT b;have da:=sS ha;have db:=sS hb;have la:=@uy a;rw[<-va,<-vb];generalize bI a=s at*;generalize bI b=t at*;have lt:bk s<bk t-> -1=l9 (bk s) (bk t):=λh=>by unfold l9;rw[if_pos h]
 have gt:bk t<bk s->1=l9 (bk s) (bk t):=λh=>by unfold l9;rw[if_neg (by omega),if_pos h]
 refine⟨hla,hlb,λhne=>⟨λh=>lt (ye da db nb (by omega)),λh=>gt (ye db da na (by omega))⟩,λhe=>⟨⟨by omega,by omega,?_⟩,?_⟩⟩;·rw[εh (by omega),εh (by omega)]
 rintro i ⟨i0,i1,hd⟩;refine⟨λhlt=>?_,λhge=>?_⟩
 ·have hk:((s.length:Int) - 1 - i).toNat=s.length - 1 - i.toNat:=by omega
  have hk2:s.length - i.toNat=s.length - 1 - i.toNat+1:=by omega
  rw[hk];rw[hk2] at hd;generalize hm:s.length - 1 - i.toNat=m at*;refine⟨by omega,by omega,by omega,by omega,by omega,by omega,by omega,by omega,λh=>lt (Jt da db (by omega) (by omega) hd h),λh=>⟨by omega,by omega,by omega,by omega,by omega,by omega,λh2=>gt (Jt db da (by omega) (by omega) hd.symm h2),λh2=>⟨by omega,⟨by omega,by omega,?_⟩,by omega⟩⟩⟩;rw[show s.length - (i+1).toNat=m by omega,D3 (show m<s.length by omega),D3 (show m<t.length by omega),hd,show bj s m 0=bj t m 0 by omega]
 ·have hz:s.length - i.toNat=0:=by omega
  rw[hz,δN,δN] at hd;subst hd;unfold l9;rw[if_neg (by omega),if_neg (by omega)]
def gU (d:Int):List Int->List Int×Int
 |[]=>([],0)
 |x::l=>(((gU d l).2*4294967296+x) / d::(gU d l).1,((gU d l).2*4294967296+x) % d)
theorem RN {d:Int}:∀{a:List Int},(gU d a).1.length=a.length
 |[]=>rfl
 |x::l=>by simp[gU,RN]
theorem D4 {d:Int} (e:0<d) (k:d<4294967296):∀{a:List Int},bA a->bA (gU d a).1/\(0<=(gU d a).2/\(gU d a).2<d)/\bk (gU d a).1*d+(gU d a).2=bk a
 |[],_=>by grind[gU,bk];|x::l,h=>by
  obtain⟨n,g⟩:=ja.1 h;obtain⟨j,⟨p,s⟩,o⟩:=D4 e k g;simp only[gU];generalize (gU d l).1=q at*;generalize (gU d l).2=r at*;have f:=δR (r*4294967296+x) (show d≠0 by omega);have i:=δs (r*4294967296+x) e;have c:0<=(r*4294967296+x) / d:=Int.ediv_nonneg (by omega) (by omega);have b:(r*4294967296+x) / d<4294967296:=by
   refine Int.ediv_lt_of_lt_mul e ?_;omega
  refine⟨ja.2 ⟨⟨c,b⟩,j⟩,⟨f,i⟩,?_⟩;simp only[bk];have m:=Int.mul_ediv_add_emod (r*4294967296+x) d;grind
theorem abO {d:Int} (i:0<d) (h:d<4294967296) {a:List Int} (g:bA a):bI (gU d a).1=cF (bk a / d)/\(gU d a).2=bk a % d:=by
 obtain⟨e,⟨c,b⟩,f⟩:=D4 i h g;rw[qO e];have j:=eZ e;have k:bk a / d=bk (gU d a).1:=by
  rw[<-f,ζA,Int.add_mul_ediv_right _ _ (by omega),Int.ediv_eq_zero_of_lt c b,Int.zero_add]
 have l:bk a % d=(gU d a).2:=by
  rw[<-f,ζA,Int.add_mul_emod_self_right,δQ c b]
 simp_all
theorem Ju {r x:Int} (d:0<=r) (g:r<4294967296) (a:0<=x) (e:x<4294967296):eI.nW .u64 (r*4294967296) x=r*4294967296+x:=by
 obtain⟨m,rfl⟩:=δM d;obtain⟨k,rfl⟩:=δM a;have b:(γv 64 ((m:Int)*4294967296)).toNat=2^32*m:=by
  grind[BitVec.toNat_ofInt]
 have c:(γv 64 (k:Int)).toNat=k:=by
  grind
 have f:(γv 64 ((m:Int)*4294967296) |||γv 64 (k:Int)).toNat=2^32*m+k:=by
  rw[BitVec.toNat_or,b,c,Nat.two_pow_add_eq_or_of_lt (by omega)]
 show eQ .u64 ((γv 64 ((m:Int)*4294967296) |||γv 64 (k:Int)).toNat:Nat)=_;grind[tJ,IntKind.wrap,IntKind.bits,IntKind.signed]
def Jv:bL:=⟨233,List Int×Int,.cons (dV (.i .u32)) (.one (dX .u32)),λa=>bA a.1/\a.1.length<=100000000000/\0<a.2/\a.2<4294967296,λa=> .bH [.row (.i .u32) (cF (bk a.1 / a.2)),.si .u32 (bk a.1 % a.2)]⟩
def me (a:List Int) (d:Int) (i:Nat):List Int:=ε (a.length - i) 0++(gU d (a.drop (a.length - i))).1
def lD (a:List Int) (d:Int) (i:Nat):Int:=(gU d (a.drop (a.length - i))).2
def abP (a:List Int×Int):Nat->cC
 |4=> .inv Int (λi=>⟨[(0,.row (.i .u32) a.1),(1,.si .u32 a.2),(6,.ow 0 (me a.1 a.2 i.toNat).length 1),(7,.si .u64 (lD a.1 a.2 i.toNat)),(15,.si .i64 a.1.length),(16,.si .i64 i)],[.row (.i .u32) (me a.1 a.2 i.toNat) 235 true]⟩) (λs=>iS s 16)
  (λi=>0<=i/\i<=a.1.length) (λi=>(a.1.length - i).toNat) λ_ _=> .look
 |_=> .look
theorem Jw {a:List Int} {d:Int} {i:Nat} (h:i<=a.length):(me a d i).length=a.length:=by
 grind[me,RN]
theorem drop_cons {a:List Int} {k:Nat} (h:k<a.length):a.drop k=bj a k 0::a.drop (k+1):=D3 h
theorem RO {q:List Int} {y:Int}:∀k,(ε (k+1) 0++q).set k y=ε k 0++y::q
 |0=>by simp;|k+1=>by
  have:=@RO q y k;grind
theorem u64_in {n:Int} (b:0<=n) (a:n<18446744073709551616):bW .u64 n:=by
 show IntKind.u64.wrap n=n;grind[IntKind.wrap,IntKind.bits,IntKind.signed]
theorem h167:Holds Tryz.prog Jv:=by
 refine cG (L:=[rR]) Jv abP (by simpa using h152) ?_;rintro⟨a,d⟩ ⟨ha,hla,d0,d1⟩;simp only at ha hla d0 d1;refine bO (let b:=(0:Int);let c:=(18446744073709551616:Int);let e:=(4294967296:Int);let f:=Ξ .i64;let g:=Ψ;let h:=bq.row;let j:=bW .i64;let k:=(1:Int);let l:=γ8;let n:=(↑a.length:Int);let o:=bn.i .u32;let q:=(↑a.length:Int);let t:=f q;let s:=d % c;b<=n/\n<=n/\n*(4:Int)<=(140737488355328:Int)/\n<=(1000000000000:Int)/\((((g o a).same (g o a)/\(Ξ .u32 d).same (Ξ .u32 d)/\(l 0 n.toNat 1).same (l 0 (me a d 0).length 1)/\(γr .u64 0).same (Ξ .u64 (lD a d 0))/\(f n).same t/\(γr .i64 0).same (f 0)/\True)/\(h o (ε n.toNat b) 235 true).same (h o (me a d 0) 235 true)/\True)/\b<=b/\b<=q)/\∀(x:Int),let p:=n - k - x;let u:=eI.nW .u64 (lD a d x.toNat*e % c) (bj a p.toNat b % c);let m:=me a d x.toNat;let r:=x+k;let v:=f r;b<=x/\x<=q->(decide (x<q)=true->j (n - k)/\j p/\b<=(32:Int)/\(32:Int)<=(64:Int)/\b<=p/\p<n/\p.toNat<a.length/\s≠b/\bW .u64 (u.tdiv s)/\s≠b/\m.length=m.length/\b<=p/\p<(↑m.length:Int)/\m.length=m.length/\p.toNat<m.length/\j r/\(((g o a).same (g o a)/\(Ξ .u32 d).same (Ξ .u32 d)/\(l 0 m.length 1).same (l 0 (me a d r.toNat).length 1)/\(Ξ .u64 (u.tmod s)).same (Ξ .u64 (lD a d r.toNat))/\t.same t/\v.same v/\True)/\(h o (m.set p.toNat (u.tdiv s % e)) 235 true).same (h o (me a d r.toNat) 235 true)/\True)/\(b<=r/\r<=q)/\(q - r).toNat<(q - x).toNat)/\(decide (x<q)=false->m.length=m.length/\m.length<=1000000000000/\(SV.bH [g o (bI m),Ξ .u32 (lD a d x.toNat % e)]).same (SV.bH [g o (cF (bk a / d)),Ξ .u32 (bk a % d)]))) (by kernel_rfl) ?_;simp only[vcs];have hrow:∀{u v:List Int},u=v->(bq.row (.i .u32) u 235 true).same (bq.row (.i .u32) v 235 true):=by rintro _ _ rfl;rfl
 have how:∀{u v:Nat},u=v->(γ8 0 u 1).same (γ8 0 v 1):=by rintro _ _ rfl;rfl
 have z1:me a d 0=ε a.length 0:=by simp[me,gU]
 have z2:lD a d 0=0:=by simp[lD,gU]
 refine⟨by omega,by omega,by omega,by omega,⟨⟨⟨how (by rw[Jw (by omega)];omega),z2.symm⟩,hrow (by rw[z1,γt])⟩,by omega,by omega⟩,?_⟩;rintro i ⟨i0,i1⟩;have l1:=@Jw a d i.toNat (by omega);have l2:=λh=>@Jw a d (i+1).toNat h;have dd:d % 18446744073709551616=d:=by omega
 refine⟨λj8=>?_,λlW=>?_⟩
 ·have hx:((a.length:Int) - 1 - i).toNat=a.length - 1 - i.toNat:=by omega
  have hk1:a.length - i.toNat=a.length - 1 - i.toNat+1:=by omega
  have hk2:a.length - (i+1).toNat=a.length - 1 - i.toNat:=by omega
  have hR:me a d i.toNat=ε (a.length - 1 - i.toNat+1) 0++(gU d (a.drop (a.length - 1 - i.toNat+1))).1:=by unfold me;rw[hk1]
  have hC:lD a d i.toNat=(gU d (a.drop (a.length - 1 - i.toNat+1))).2:=by unfold lD;rw[hk1]
  have hR2:me a d (i+1).toNat=ε (a.length - 1 - i.toNat) 0++(gU d (a.drop (a.length - 1 - i.toNat))).1:=by unfold me;rw[hk2]
  have hC2:lD a d (i+1).toNat=(gU d (a.drop (a.length - 1 - i.toNat))).2:=by unfold lD;rw[hk2]
  have hlt:a.length - 1 - i.toNat<a.length:=by omega
  rw[hx];have l3:=l2 (by omega);generalize a.length - 1 - i.toNat=k at*;have hdr:=drop_cons hlt;have hdig:bA (a.drop k):=λz hz=>ha z (γK hz);obtain⟨q1,q2,q3⟩:=D4 d0 d1 (a:=a.drop (k+1)) (λz hz=>ha z (γK hz));obtain⟨p1,p2,p3⟩:=D4 d0 d1 hdig;rw[hdr] at hR2 hC2 p1 p2;simp only[gU] at hR2 hC2 p1 p2;have hxd:=dW ha k;rw[<-hC] at hR2 hC2 p1 p2 q2;have e1:lD a d i.toNat*4294967296 % 18446744073709551616=lD a d i.toNat*4294967296:=by omega
  have e2:bj a k 0 % 18446744073709551616=bj a k 0:=by omega
  rw[e1,e2,dd,Ju (by omega) (by omega) hxd.1 hxd.2];have hv0:0<=lD a d i.toNat*4294967296+bj a k 0:=by omega
  rw[Int.tdiv_eq_ediv_of_nonneg hv0,Int.tmod_eq_emod_of_nonneg hv0];have hq:=(ja.1 p1).1;have hqm:(lD a d i.toNat*4294967296+bj a k 0) / d % 4294967296=(lD a d i.toNat*4294967296+bj a k 0) / d:=δQ hq.1 hq.2;rw[hqm];refine⟨by omega,by omega,by omega,by omega,by omega,by omega,by omega,by omega,u64_in hq.1 (by omega),by omega,by omega,by omega,by omega,by omega,⟨⟨how (by omega),hC2.symm⟩,hrow ?_⟩,by omega,by omega⟩;rw[hR2,hR,RO]
 ·have hi:a.length - i.toNat=0:=by omega
  have hR:me a d i.toNat=(gU d a).1:=by unfold me;rw[hi];simp
  have hC:lD a d i.toNat=(gU d a).2:=by unfold lD;rw[hi];simp
  obtain⟨k1,k2⟩:=abO d0 d1 ha;have hm:=δR (bk a) (show d≠0 by omega);have hl:=δs (bk a) d0;refine⟨by omega,by rw[hR,k1],?_⟩;rw[hC,k2];omega
def ig:Nat->Int->List Int
 |0,_=>[]
 |k+1,x=>x % 4294967296::ig k (x / 4294967296)
theorem Ag:∀{k:Nat} {x:Int},(ig k x).length=k
 |0,_=>rfl
 |k+1,x=>by simp[ig,Ag]
theorem Jx:∀{k:Nat} {x:Int},bA (ig k x)
 |0,_=>by simp[ig,bA];|k+1,x=>ja.2 ⟨by omega,Jx⟩
theorem RP:∀{l:List Int},bA l->ig l.length (bk l)=l
 |[],_=>rfl
 |d::l,h=>by
  obtain⟨e,b⟩:=ja.1 h;simp only[γy,ig,bk];have c:(d+4294967296*bk l) % 4294967296=d:=by omega
  have a:(d+4294967296*bk l) / 4294967296=bk l:=by omega
  rw[c,a,RP b]
theorem Jy {l:List Int} {k:Nat} {x:Int} (h:bA l) (b:l.length=k) (a:bk l=x):l=ig k x:=by
 grind[RP]
theorem pow_pos (k:Nat):(0:Int)<4294967296^k:=Int.pow_pos (by decide)
theorem Jz:∀{k:Nat} {x:Int},0<=x->x<4294967296^k->bk (ig k x)=x
 |0,x,b,a=>by grind[ig,bk];|k+1,x,b,a=>by
  rw[γQ] at a;simp only[ig,bk];rw[Jz (k:=k) (x:=x / 4294967296) (by omega) (by omega)];omega
theorem JA:∀{a b:List Int},bk (a++b)=bk a+4294967296^a.length*bk b
 |[],b=>by simp[bk];|d::l,b=>by
  simp only[γE,bk,JA,γy,γQ,εz];grind
theorem uz:∀{l:List Int} {j:Nat} {v:Int},j<l.length->bk (l.set j v)=bk l+4294967296^j*(v - bj l j 0)
 |[],_,_,h=>by simp at h;|d::l,0,v,_=>by grind[bk,bj];|d::l,j+1,v,h=>by
  have a:=@uz l j v (by simpa using h);grind[bj,bk]
theorem nD {l:List Int} {j:Nat} {v:Int} (h:bA l) (c:0<=v) (b:v<4294967296):bA (l.set j v):=by
 intro d a;rcases List.mem_or_eq_of_mem_set a with a|rfl;·exact h d a
 omega
theorem Ah {a:List Int} (h:bA a) (n:Nat):bA (a.drop n):=λd b=>h d (γK b)
theorem RR {a b:List Int} (e:bA a) (c:bA b):bA (a++b):=λd f=>by
 rcases Γ.1 f with h|h;·exact e d h
 ·exact c d h
theorem sU {l:List Int} {j:Nat} {v:Int} (h:j<l.length):bj (l.set j v) j 0=v:=by
 grind[bj]
theorem qc {l:List Int} {i j:Nat} {v:Int} (h:i≠j):bj (l.set i v) j 0=bj l j 0:=by
 grind[bj]
theorem Ai:∀{l:List Int} {i j:Nat},bA l->bk l<4294967296^i->i<=j->bj l j 0=0
 |[],_,_,_,_,_=>by simp[bj];|d::l,0,j,h,a,c=>by
  obtain⟨e,b⟩:=ja.1 h;have:=eZ b;simp only[bk,Int.pow_zero] at a;have f:d=0:=by omega
  have g:bk l=0:=by omega
  cases j with
  |zero=>simp[bj,f];|succ j=>
   have:=Ai (l:=l) (i:=0) (j:=j) b (by simp;omega) (by omega);grind[bj]
 |d::l,i+1,j,h,a,c=>by
  obtain⟨e,b⟩:=ja.1 h;cases j with
  |zero=>omega;|succ j=>
   rw[γQ] at a;simp only[bk] at a;have:=Ai (l:=l) (i:=i) (j:=j) b (by omega) (by omega);grind[bj]
def ik (o b:List Int) (x:Int) (i:Nat):Nat->List Int×Int
 |0=>(o,0)
 |k+1=>((ik o b x i k).1.set (i+k) ((x*bj b k 0+bj (ik o b x i k).1 (i+k) 0+(ik o b x i k).2) % 4294967296),(x*bj b k 0+bj (ik o b x i k).1 (i+k) 0+(ik o b x i k).2) / 4294967296)
theorem RS {o b:List Int} {x:Int} {i:Nat} (d:bA o) (g:bA b) (f:0<=x) (m:x<4294967296):∀{k:Nat},i+k<=o.length->
  bA (ik o b x i k).1/\(ik o b x i k).1.length=o.length/\(0<=(ik o b x i k).2/\(ik o b x i k).2<4294967296)/\(∀j,i+k<=j->bj (ik o b x i k).1 j 0=bj o j 0)/\
  bk (ik o b x i k).1+4294967296^(i+k)*(ik o b x i k).2=bk o+4294967296^i*(x*bk (b.take k))
 |0,h=>by simp[ik,d,bk];|k+1,h=>by
  obtain⟨l,t,⟨v,s⟩,u,r⟩:=@RS o b x i d g f m k (by omega);simp only[ik];generalize (ik o b x i k).1=p at*;generalize (ik o b x i k).2=c at*;have a:=dW g k;have q:=dW l (i+k);have n:0<=x*bj b k 0:=Int.mul_nonneg f a.1;have e:x*bj b k 0<=4294967295*4294967295:=Int.mul_le_mul (by omega) (by omega) a.1 (by omega);grind[nD,uz,l8,bj]
end Go.Vi
