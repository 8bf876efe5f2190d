/-
  Plain law: what Search and Better come to.
  Conditions: none.
-/
import Derived.Test.YtbnhiekmnpikhaaGreatDF06
import Derived.Test.YtbnhiekmnpikhaaGreatDF07
import Derived.Test.YtbnhiekmnpikhaaGreatDF11
import Derived.Test.YtbnhiekmnpikhaaGreatDF10
import Derived.Test.YtbnhiekmnpikhaaGreatDF09
import Derived.Test.YtbnhiekmnpikhaaGreatDF08
set_option maxRecDepth 100000
set_option maxHeartbeats 4000000
set_option linter.all false
open Bool renaming eq_false_iff->δI,false_ne_true->ζh,and_eq_true->θ,not_eq_true'->δf
open Classical renaming not_not->γf
open Go.Vi.SV renaming si->γd,il->γB,row->Ω,agg->γR,sb->γA,bl->δh,ptr->γQ,ow->γZ,ia->θd
open Int renaming toNat_natCast->γn,toNat_of_nonneg->εA
open IntCast renaming intCast->κ
open List renaming replicate->δ,mem_map->Θ,take->Δ,mem_of_mem_take->γo,take_length->φ,length->γc,all_eq_true->τ,all_append->ε3,map_cons->ξ,map_nil->γv,map->γb,length_take->γy,length_map->Φ,append_nil->γ1,map_append->γa,length_set->Ψ,length_filter_le->γ6,mem_filter->γk,mem_cons_of_mem->γs,mem_cons_self->γS,nodup_append->γw,pairwise_append->δY,mem_append->γm,length_drop->εu,pairwise_cons->γu,append_assoc->γY,cons_append->γJ,filter_eq_nil_iff->δO,filter_eq_self->δ6
open List.Perm renaming append_left->ζP
open List.cons renaming injEq->Γ
open Nat renaming le_refl->π,pow_le_pow_right->δr
open Option.some renaming injEq->γ
namespace Go.Vi
theorem UB {p:bn} (a:bz p=0) {t:List Int} (h:cO p t=0):ek p t<=(cB p).value:=by
 have b:=(uQ a).1 h;obtain⟨_,d⟩:=uK h;have c:=Iq (dQ a) b.1 (decide_eq_true b.2);rw[yM a d];exact c
theorem UC {p:bn} (a:bz p=0):∃t,cO p t=0/\ek p t=(cB p).value:=by
 obtain⟨t,c,f,e⟩:=Is (dQ a);have b:cO p t=0:=(uQ a).2 ⟨c,of_decide_eq_true f⟩;obtain⟨_,d⟩:=uK b;refine⟨t,b,?_⟩;rw[yM a d,e];rfl
theorem afb {p:bn} {l:List Int} (h:dS p.offers.length l):EZ (iE p) l:=by
 have b:∀i:Int,0<=i/\i<p.offers.length->bj (iE p) i.toNat 0=0:=λi a=>by
  grind[iE,cT]
 refine⟨λi a=>by rw[b i (h.2 i a)];omega,λi a=>?_⟩;grind[kP,iE]
theorem UD {p:bn} {v:Int} {t:List dj} {a lo f:Nat} (b:bz p=0) (h:jh p v t a (iE p) lo f):(cB p).value<=v:=by
 obtain⟨l,d,e⟩:=UC b;obtain⟨_,c⟩:=uK d;rw[<-e,yM b c];exact h.sound (oJ b) c ((KF b c).1 d) (afb c)
theorem yR {en:Int->Bool} {G:List Int->Int->Bool->Prop} {p:bn} (h:∀c w b d w',G c w b->cO p d=0->ek p d=w'->w<w'->G d w' (b||en w')) {s:dc} {a:Alloc} (e:G s.ch s.val s.found) (f:cO p a.chosen=0) (g:ek p a.chosen=a.value):G (dX en s a).ch (dX en s a).val (dX en s a).found:=by
 grind[dX]
theorem yS {p:bn} (a:bz p=0):cO p (gB p (jY p)).chosen=0/\ek p (gB p (jY p)).chosen=(gB p (jY p)).value:=by
 simp_all[JY,Tq]
theorem KL {p:bn} (d:bz p=0) {c:List Int} (h:cO p c=0) {most:Int} {G:List Int->Int->Bool->Prop} (a:∀c w b e w',G c w b->cO p e=0->ek p e=w'->w<w'->G e w' (b||cz none w')) (i:G c (ek p c) false):G (iL p c most).ch (iL p c most).val (iL p c most).found:=by
 have f:=JY d h;have g:=yS d;exact Uy a (oJ d) (yR a (yR a i f.2.1 f.2.2.1) g.1 g.2)
theorem KN {p:bn} {c:List Int}:(kQ p c).prf=[zN]/\(kQ p c).err=0/\ek p c<=(kQ p c).val:=by
 grind[kQ,dX]
theorem KO {p:bn} (d:bz p=0) {c:List Int} (i:cO p c=0) {most:Int} (C:1<=most):
  ((iL p c most).err=0\/(iL p c most).err=12)/\((iL p c most).err=0->(cO p (iL p c most).ch=0/\ek p (iL p c most).ch=(iL p c most).val)/\(iL p c most).val=(cB p).value/\(iL p c most).prf.length<=most/\jh p (cB p).value (iL p c most).prf 0 (iE p) 1 (iL p c most).prf.length/\(ek p c=(cB p).value->(iL p c most).ch=c))/\
   (((1+2^(p.offers.length+1):Nat):Int)<=most+2->(iL p c most).err=0):=by
 obtain⟨y,l,A⟩:=@KN p c;have t:(kQ p c).prf.length=1:=by rw[y];rfl
 have q:=@rQ p (cz none) most p.offers.length (kQ p c) 0 (iE p) (oJ d);have j:(iL p c most).found=false:=by
  refine(KL d i (most:=most) (G:=λ_ _ b=>b=false) (λc w b g o h _ _ _=>?_) rfl);rw[h];rfl
 refine⟨?_,λx=>?_,λB=>?_⟩
 ·have:=q.2.2.2.2.2;rw[l] at this;exact this
 ·have v:=KL d i (most:=most) (G:=λc w _=>cO p c=0/\ek p c=w) (λc w b g o _ k m _=>⟨k,m⟩) ⟨i,rfl⟩;have u:=KL d i (most:=most) (G:=λg w _=>ek p c<=w/\(w=ek p c->g=c)) (λD w b g o h _ _ r=>⟨by omega,λe=>by omega⟩) ⟨Int.le_refl _,λ_=>rfl⟩;have z:=Ux (p:=p) (en:=cz none) (most:=most) (n:=p.offers.length) (s:=kQ p c) (a:=0) (oJ d) (by show nF (δ _ 0)<=_;grind[yQ]) (by rw[t];omega) x j;have k:=UD d z.1;have m:=UB d v.1;grind[iL]
 ·refine(Uz (p:=p) (en:=cz none) (most:=most) (n:=p.offers.length) (s:=kQ p c) (a:=0) (f:=iE p) (oJ d) ?_ l ?_).1;all_goals simp_all[yQ,iE]
theorem afc {p:bn} (i:bz p=0) {m most:Int}:((gd p m most).found=false->(gd p m most).ch=[]/\(gd p m most).val=m - 1)/\((gd p m most).found=true->cO p (gd p m most).ch=0/\ek p (gd p m most).ch=(gd p m most).val/\m<=(gd p m most).val):=by
 have j:=yS i;have g:∀(c:List Int) (w:Int) (b:Bool) (e:List Int) (d:Int),((m - 1<=w)/\(b=false->c=[]/\w=m - 1)/\(b=true->cO p c=0/\ek p c=w/\m<=w))->cO p e=0->ek p e=d->w<d->((m - 1<=d)/\((b||cz (some m) d)=false->e=[]/\d=m - 1)/\((b||cz (some m) d)=true->cO p e=0/\ek p e=d/\m<=d)):=by
  intro c w b e d h l q k;have o:cz (some m) d=true:=by
   show decide (m<=d)=true;grind
  grind
 have:=Uy (p:=p) (en:=cz (some m)) (most:=most) g (n:=p.offers.length) (s:=kR p m) (a:=0) (f:=iE p) (oJ i) (yR g (s:=⟨[],m - 1,false,[zN],0⟩) ⟨Int.le_refl _,λ_=>⟨rfl,rfl⟩,(λh=>by cases h)⟩ j.1 j.2);exact this.2
theorem KP {p:bn} {m:Int}:(kR p m).prf=[zN]/\(kR p m).err=0:=by
 grind[kR,EX]
theorem UE {p:bn} (b:bz p=0) {m most:Int}:
  ((gd p m most).err=0\/(gd p m most).err=12)/\((gd p m most).found=true->m<=(cB p).value)/\((gd p m most).found=false->(gd p m most).err=0->(cB p).value<m)/\
   (((1+2^(p.offers.length+1):Nat):Int)<=most+2->(gd p m most).err=0):=by
 obtain⟨i,d⟩:=@KP p m;have h:(kR p m).prf.length=1:=by rw[i];rfl
 have g:=@rQ p (cz (some m)) most p.offers.length (kR p m) 0 (iE p) (oJ b);obtain⟨r,l⟩:=@afc p b m most;refine⟨?_,λc=>?_,λc k=>?_,λo=>?_⟩
 ·have:=g.2.2.2.2.2;rw[d] at this;exact this
 ·obtain⟨e,q,t⟩:=l c;have:=UB b e;omega
 ·have j:=Ux (p:=p) (en:=cz (some m)) (most:=most) (n:=p.offers.length) (s:=kR p m) (a:=0) (oJ b) (by show nF (δ _ 0)<=_;grind[yQ]) (by rw[h];omega) k c;have e:(cB p).value<=(gd p m most).val:=UD b j.1;grind
 ·refine(Uz (p:=p) (en:=cz (some m)) (most:=most) (n:=p.offers.length) (s:=kR p m) (a:=0) (f:=iE p) (oJ b) ?_ d ?_).1;all_goals simp_all[yQ,iE]
open Go.Proofs.YtbnhiekmnpikhaaGreat.Ir
open Go.Proofs
theorem afd {p:bn} {c:List Int} {m:Int} (b:cO p c=0) (a:1<=m/\m<=65536):ky p c m=(iL p c m).err:=by
 simp_all[ky,if_neg]
theorem afe {p:bn} (d:bz p=0) {c:List Int} {m:Int} (b:cO p c=0) (e:m<=65536) (f:((1+2^(p.offers.length+1):Nat):Int)<=m+2):ky p c m=0:=by
 have a:=Nat.one_le_two_pow (n:=p.offers.length+1);grind[afd,KO]
theorem KQ {p:bn} (a:bz p=0) {m k:Int} (d:k<=65536) (b:((1+2^(p.offers.length+1):Nat):Int)<=k+2):ji p m k=0:=by
 have c:2<=2^(p.offers.length+1):=by grind
 unfold ji;rw[if_neg (by simp[a]),if_neg (by omega)];grind[UE]
theorem UF {p:bn} (a:bz p=0) {m k:Int} (b:ji p m k=0):j5 p m k=true↔m<=(cB p).value:=by
 have j:0<=(cB p).value:=by
  obtain⟨t,d,e⟩:=UC a;obtain⟨_,c⟩:=uK d;rw[<-e,yM a c];exact(sQ (dQ a) (l:=t.map (oI p)) λx g=>by
   obtain⟨i,f,rfl⟩:=Θ.1 g;have:=c.2 i f;exact dn (by omega)).1
 have h:=@UE p a m k;unfold j5;rw[b,decide_eq_true rfl,Bool.true_and,Bool.or_eq_true,decide_eq_true_eq];unfold ji at b;grind
theorem tg {p q:Rat}:iR p q<0↔p<q:=by
 unfold iR;grind
def E2:bM:=⟨38,bn×List Int,.cons dO (.one (dG (.i .i64))),λa=>bz a.1=0/\a.2.length<=9223372036854775807,λa=> .si .i64 (ek a.1 a.2)⟩
def aff (p:bn) (c:List Int):Nat->cG
 |6=> .inv Int (λi=>⟨[(7,.si .i64 (cM ((dU p c).take i.toNat))),(23,.row .off (dU p c)),(24,.si .i64 (dU p c).length),(25,.si .i64 i)],[.cells p.ss 27 20 false]⟩)
   (λs=>iS s 25) (λi=>0<=i/\i<=(dU p c).length) (λi=>((dU p c).length - i).toNat) λ_ _=> .look
 |_=> .look
theorem h437:Holds Tryz.prog E2:=by
 refine cH (L:=[Du,pe]) E2 (λa=>aff a.1 a.2) (by grind[h133,h79]) ?_;rintro⟨p,c⟩ ⟨f,A⟩;simp only at f A;refine bQ (let a:=γd .i64;let f:=(0:Int);let k:=γB .i64 0;let m:=a (ek p c);let z:=decide (bz p≠f);let j:=Ω bp.off (dU p c);let B:=(↑(dU p c).length:Int);let d:=(↑(dU p c).length:Int);let r:=a d;let g:=bq.cells (bn.ss p) 27 20 false;(c.length<=9223372036854775807/\p.offers.length<=1000)/\((!fE p c)=true->k.same m)/\((!fE p c)=false->True/\(z=true->k.same m)/\(z=false->(((k.same (a (cM []))/\j.same j/\(a B).same r/\k.same (a 0)/\True)/\g.same g/\True)/\f<=f/\f<=d)/\∀(x:Int),let w:=cM (Δ x.toNat (dU p c));let y:=w+(bj (dU p c) x.toNat bp.off.dflt).value;let b:=x+(1:Int);let e:=a b;f<=x/\x<=d->(decide (x<d)=true->f<=x/\x<B/\x.toNat<(dU p c).length/\cu .i64 y/\cu .i64 b/\(((a y).same (a (cM (Δ b.toNat (dU p c))))/\j.same j/\r.same r/\e.same e/\True)/\g.same g/\True)/\(f<=b/\b<=d)/\(d - b).toNat<(d - x).toNat)/\(decide (x<d)=false->(a w).same m)))) (by kernel_rfl) ?_;simp only[vcs];have t:=dQ f;obtain⟨G,v⟩:=aaZ (c:=c) f;have u:=t.2.1;have q:fE p c=false->0=ek p c:=λh=>by
  unfold ek;rw[if_pos f];unfold dU;unfold fE at h;rw[Option.isSome_eq_false_iff,Option.isNone_iff_eq_none] at h;rw[h];rfl
 refine⟨⟨A,by omega⟩,q,λ_=>⟨λh=>absurd f h,λ_=>⟨⟨by simp[cM],by omega,by omega⟩,?_⟩⟩⟩;rintro i ⟨n,D⟩;refine⟨λo=>?_,λE=>?_⟩
 ·have H:=aaY n o;have F:=sQ t (l:=(dU p c).take i.toNat) λx s=>v x (γo s);have C:=sQ t (l:=(dU p c).take (i+1).toNat) λx s=>v x (γo s);grind
 ·rw[show i.toNat=(dU p c).length from by omega,φ];grind[ek]
def KR:bM:=⟨143,Int×Int,.cons (eU .i64) (.one (eU .i64)),λa=>(-9223372036854775808<=a.1/\a.1<=9223372036854775807)/\0<a.2/\a.2<=9223372036854775807,λa=> .bI [pU (fU (decide (a.1<0)) (a.1.natAbs:Int) a.2),.si .i64 0]⟩
theorem h451:Holds Tryz.prog KR:=by
 refine cH (L:=[D7,AP]) KR lk (by grind[h127,h151]) ?_;rintro⟨n,d⟩ ⟨⟨u,w⟩,q,r⟩;simp only at u w q r;refine bQ (let e:=(-9223372036854775808:Int);let h:=(9223372036854775807:Int);let k:=(0:Int);let l:=Ω;let g:=cQ (↑n.natAbs:Int);let b:=cQ (↑d.natAbs:Int);let f:=bu (fU (!decide (n<k)==decide (d<k)) (bk g) (bk b));let a:=bp.i .u32;let j:=[γd .i64 0];let c:=bu (fU (decide (n<k)) (↑n.natAbs:Int) d);(e<=n/\n<=h)/\(e<=d/\d<=h)/\((bA g/\bA b)/\(g.length<=1000000000/\b.length<=1000000000)/\k<bk b)/\(SV.bI (γR [γA f.fst,l a f.snd.fst,l a f.snd.snd]::j)).same (SV.bI (γR [γA c.fst,l a c.snd.fst,l a c.snd.snd]::j))) (by kernel_rfl) ?_;simp only[vcs];obtain⟨v,s,t⟩:=gn (show(0:Int)<=(n.natAbs:Int) by omega);obtain⟨o,l,h⟩:=gn (show(0:Int)<=(d.natAbs:Int) by omega);have x:=mK (k:=2) (show(0:Int)<=(n.natAbs:Int) by omega) (by omega);have p:=mK (k:=2) (show(0:Int)<=(d.natAbs:Int) by omega) (by omega);have e:(d.natAbs:Int)=d:=by omega
 have m:(!(decide (n<0)==decide (d<0)))=decide (n<0):=by
  grind
 rw[m,v,o,e];rw[e] at l h p;repeat' refine And.intro ?_ ?_
 all_goals first|omega|exact s|exact l|exact t|exact h|rfl
def pA (x:List bL):Prop:=∃l,x=fL l/\x.length<=1000000/\∀q∈l,Sz 1000 q
theorem afg (q:Rat):q.den=1↔(bu q).2.2=[1]:=by
 have c:cQ 1=[1]:=by decide
 constructor
 ·intro h;show cQ (q.den:Int)=[1];simp_all
 ·intro h;have a:=(gn (show(0:Int)<=(q.den:Int) by omega)).1;have b:cQ (q.den:Int)=[1]:=h;grind[bk]
theorem E3 (q:Rat):okF (bu q)=true:=decide_eq_true (by rw[eD])
def KT:bM:=⟨103,List bL,.one (dG sF),pA,λx=> .sb (mT (vL x))⟩
def afh (x:List bL):Nat->cG
 |2=> .inv Int (λi=>⟨[(5,.row sF x),(6,.si .i64 x.length),(7,.si .i64 i)],[]⟩)
   (λs=>iS s 7) (λi=>(0<=i/\i<=x.length)/\mT ((vL x).take i.toNat)=true) (λi=>(x.length - i).toNat) λ_ _=> .look
 |_=> .look
theorem h445:Holds Tryz.prog KT:=by
 refine cH (L:=[uD]) KT afh (by grind[h407]) ?_;rintro(x:List bL) ⟨l,v,G,H⟩;refine bQ (let c:=(0:Int);let d:=γd .i64;let f:=δh false;let h:=Ω;let i:=(1:Int);let b:=(↑x.length:Int);let w:=d b;((((h sF x).same (h sF x)/\(d (↑x.length:Int)).same w/\(γB .i64 0).same (d 0)/\True)/\True)/\(c<=c/\c<=b)/\mT []=true)/\∀(a:Int),let p:=bj x a.toNat sF.dflt;let e:=p.snd.snd;let C:=(↑(γc e):Int);let r:=γA (mT (vL x));let g:=a+i;let o:=d g;let A:=λ(u:Bool) ↦decide (bj e 0 c≠i)=u;let D:=λ(u:Bool) ↦decide (C≠i)=u;let E:=λ(u:Bool) ↦(!okF (p.fst,p.snd.fst,e))=u;(c<=a/\a<=b)/\mT (Δ a.toNat (vL x))=true->(decide (a<b)=true->c<=a/\a<(↑x.length:Int)/\a.toNat<x.length/\((bA p.snd.fst/\bA e)/\γc p.snd.fst<=10000000/\γc e<=10000000)/\(E true->(f).same r)/\(E false->(D true->(f).same r)/\(D false->c<=c/\c<C/\0<γc e/\(A true->(f).same r)/\(A false->cu .i64 g/\(((h sF x).same (h sF x)/\w.same w/\o.same o/\True)/\True)/\((c<=g/\g<=b)/\mT (Δ g.toNat (vL x))=true)/\(b - g).toNat<(b - a).toNat))))/\(decide (a<b)=false->(δh true).same r)) (by kernel_rfl) ?_;simp only[vcs];subst v;rw[fF] at G ⊢;rw[kM];have s:∀k:Nat,((k:Nat):Int).toNat=k:=λk=>γn k;refine⟨⟨⟨by omega,by omega⟩,rfl⟩,?_⟩;rintro i ⟨⟨z,T⟩,c⟩;refine⟨λy=>?_,λy=>?_⟩
 ·have J:bj (fL l) i.toNat sF.dflt=bu (bj l i.toNat 0):=jw (by omega);have B:=dn (d:=0) (show i.toNat<l.length by omega);have N:=H _ B;have K:=jq (d:=0) z y;rw[J];generalize bj l i.toNat 0=q at*;obtain⟨_,⟨I,U,V⟩,⟨M,P,W⟩⟩:=l9 q;obtain⟨R,S⟩:=pq N;have m:=afg q;have j:q.den≠1->false=mT l:=λQ=>by
   refine(δI.2 λf=>?_).symm;have:=τ.1 f _ B;simp_all
  have t:=E3 q;refine⟨z,y,by omega,⟨⟨I,M⟩,by omega,by omega⟩,λh=>absurd t (by simp_all),λ_=>⟨λh=>j λf=>h ?_,λh=>⟨by omega,by omega,by omega,λf=>j λO=>f ?_,λf=>⟨by omega,⟨by omega,?_⟩,by omega⟩⟩⟩⟩;·simp_all
  ·rw[(m.1 O)];rfl
  ·rw[K];unfold mT at c ⊢;rw[ε3,c];have:q.den=1:=m.2 (by
    have n:(bu q).2.2.length=1:=by omega
    have F:bj (bu q).2.2 0 0=1:=γf.1 f;match v:(bu q).2.2,n with
    |[x],_=>
     rw[v] at F;have:x=1:=F;rw[this]);simp[this]
 grind
def KU (f:FuncId) (j:bn->List Int->Prop) (e:bn->List Int->SV):dH where
 f:=f;α:=bn×Nat×List Int;put a:=[dO.put a.1,.ow 0 a.2.1 1];st a:=[.row (.i .i64) a.2.2 3 true];dec v o:=match v,o with
  |[p,.ow 0 n 1],[.row s l 3 true]=>match dO.dec p,iH s (.i .i64) l with
   |some p,some l=>some (p,n,l)
   |_,_=>none
  |_,_=>none;ok v o a h:=by
  split at h
  ·split at h
   ·rename_i c d;simp only[γ] at h;subst h;obtain⟨rfl,k⟩:=mH d;cases k;exact⟨by simp only[gL,dO.ok _ _ c],rfl⟩
   ·cases h
  ·cases h
 inj a b c d:=by
  obtain⟨p,n,l⟩:=a;obtain⟨m,q,r⟩:=b;simp only[gL,Γ,and_true,SV.g,AV.os.injEq,true_and] at c;simp only[gO,ξ,γv,bq.g,Γ,bR.cells.injEq,and_true] at d;rw[dO.inj p m c.1,pv (s:=.i .i64) d,c.2.1]
 dom a:=a.2.1=a.2.2.length/\j a.1 a.2.2;res a:=e a.1 a.2.2;out a:=[.row (.i .i64) a.2.2 3 true]
theorem Bt {L:List bM} {W:List dH} (c:dH) (Λ:c.α->Nat->cG) (i:∀c∈W,ef Tryz.prog c) (e:∀c∈L,Holds Tryz.prog c)
  
  (h:∀a,c.dom a->Vc (Ep (om L (gP W) rD rE jK) (Λ a) (fG c.f) (c.put a) (c.st a) λv s=>v.same (c.res a)/\kH s (c.out a))) (j:(jK c.f).isSome=true:=by kernel_rfl) (b:∀a,(c.put a).length=(fG c.f).params:=by intro _;kernel_rfl) (d:oo c.f W=none:=by kernel_rfl):ef Tryz.prog c:=
 λa g=>acL c sN i e (Af j) b a d (h a g).out
noncomputable def KV:dH:=KU 135 (λp f=>bz p=0/\f.length=p.offers.length) λp f=>pU (κ (gC p f))
def afi (p:bn) (f:List Int):Nat->cG
 |3=> .inv Int (λi=>⟨[(2,.ptr 1 0 20),(4,.ptr 2 0 3),(5,.si .i64 (gC p (f.take i.toNat))),(8,.ow 0 f.length 1),(9,.si .i64 f.length),(10,.si .i64 i)],[.row (.i .i64) f 3 true,.cells p.ss 27 20 false,.cells [.bl false,.sc (.slice none 0 0),.sc (.slice none 0 0)] 177 3 false]⟩)
   (λs=>iS s 10) (λi=>0<=i/\i<=f.length) (λi=>(f.length - i).toNat) λ_ _=> .look
 |_=> .look
theorem h396w:ef Tryz.prog KV:=by
 refine Bt (L:=[oz]) (W:=[]) KV (λa=>afi a.1 a.2.2) (by simp) (by simpa using h94) ?_;rintro⟨p,n,f⟩ ⟨hn,⟨hc,hl⟩⟩;simp only at hn;subst hn;simp only at hc hl;refine bQ (let a:=γd .i64;let b:=(0:Int);let c:=Ω;let j:=γQ 1 0 20;let k:=γQ 2 0 3;let t:=γB .i64 0;let l:=γZ 0 f.length 1;let d:=(↑f.length:Int);let m:=a d;let e:=bq.row (bp.i .i64) f 3 true;let n:=bq.cells (bn.ss p) 27 20 false;let v:=SV.sc (Value.slice none 0 0);let o:=bq.cells [δh false,v,v] 177 3 false;let q:=bp.i .u32;let r:=bu (κ (gC p f));(((j.same j/\k.same k/\t.same (a (gC p []))/\l.same l/\m.same m/\t.same (a 0)/\True)/\e.same e/\n.same n/\o.same o/\True)/\b<=b/\b<=d)/\∀(x:Int),let g:=x+(1:Int);let w:=a g;let y:=decide (bj f x.toNat b=(1:Int));let h:=gC p (Δ x.toNat f);let z:=h+(bj p.offers x.toNat bp.off.dflt).value;let s:=bu (κ h);let A:=λ(u:Int) ↦cu .i64 g/\((j.same j/\k.same k/\(a u).same (a (gC p (Δ g.toNat f)))/\l.same l/\m.same m/\w.same w/\True)/\e.same e/\n.same n/\o.same o/\True)/\(b<=g/\g<=d)/\(d - g).toNat<(d - x).toNat;b<=x/\x<=d->(decide (x<d)=true->f.length=f.length/\b<=x/\x<(↑f.length:Int)/\f.length=f.length/\x.toNat<f.length/\(y=true->b<=x/\x<(↑p.offers.length:Int)/\x.toNat<p.offers.length/\cu .i64 z/\A z)/\(y=false->A h))/\(decide (x<d)=false->((-9223372036854775808:Int)<=h/\h<=(9223372036854775807:Int))/\(γR [γA s.fst,c q s.snd.fst,c q s.snd.snd]).same (γR [γA r.fst,c q r.snd.fst,c q r.snd.snd])/\e.same e/\True)) (by kernel_rfl) ?_;simp only[vcs];have h160:=(dQ hc).2.1;refine⟨⟨by simp[gC,bE,df,cM],by omega,by omega⟩,?_⟩;rintro i ⟨i0,i1⟩;have hb:=@Bo p hc f i.toNat hl;refine⟨λhi=>?_,λhi=>?_⟩
 ·have hs:=@Ub p f i i0 hi;have ho:=kr hc (i:=i) ⟨i0,by omega⟩;have hv:(bj p.offers i.toNat bp.off.dflt).value=(oI p i).value:=rfl;rw[hv];refine⟨i0,hi,by omega,λh1=>?_,λh1=>?_⟩
  ·rw[if_pos h1] at hs;refine⟨i0,?_,?_,?_,?_,?_,?_,?_⟩<;>omega
  ·rw[if_neg h1] at hs;refine⟨?_,?_,?_,?_⟩<;>omega
 ·rw[show f.take i.toNat=f by rw[show i.toNat=f.length by omega,φ]] at hb ⊢;exact⟨by omega,rfl⟩
noncomputable def KW:dH:=KU 132 (λp f=>(bz p=0/\f.length=p.offers.length)/\jN f=true) λp f=> .bI [.agg [.row sF (mR p f).1,.row sR (mR p f).2.1],.row (.i .i64) (mR p f).2.2,.si .i64 (if hJ p f=true then 0 else 14)]
def UG (p:bn) (f:List Int) (l:List Int) (m:List Off):cj:=[.row (.i .i64) f 3 true,.cells p.ss 27 20 false,.cells [.sc (.slice none 0 0),.sc (.slice none 0 0)] 217 2 false,.row (.i .i64) l 3 true,.row .off m 65 true]
def E4 (p:bn) (f:List Int) (l:List Int) (m:List Off) (k0 k1:Nat) (rs:List (List bL×bL)) (g:List bL):cj:=UG p f l m++[.cells p.ss 87 20 false,.cells [.ow 8 k0 3,.ow 7 k1 4] 217 2 false,.row sR rs 249 false,.row sF g 177 false]
def afj (p:bn) (f:List Int):Nat->cG
 |9=> .inv Int (λi=>⟨[(2,.ptr 1 0 20),(4,.ptr 2 0 2),(8,.ow 3 (bE (f.take i.toNat) 0).length 1),(9,.ow 4 (bE (f.take i.toNat) 1).length 8),(36,.ow 0 f.length 1),(37,.si .i64 f.length),(38,.si .i64 i)],UG p f (bE (f.take i.toNat) 0) ((bE (f.take i.toNat) 1).map (oI p))⟩)
   (λs=>iS s 38) (λi=>0<=i/\i<=f.length) (λi=>(f.length - i).toNat) λ_ _=> .look
 |24=> .inv Int (λj=>⟨[(2,.ptr 1 0 20),(4,.ptr 2 0 2),(8,.ow 3 (bE f 0).length 1),(9,.ow 4 (bE f 1).length 8),(12,.ptr 5 0 20),(13,.ptr 6 0 2),(71,.ow 3 (bE f 0).length 1),(72,.si .i64 (bE f 0).length),(73,.si .i64 j)],E4 p f (bE f 0) ((bE f 1).map (oI p)) j.toNat 0 [] (mj p f j.toNat)⟩)
   (λs=>iS s 73) (λj=>0<=j/\j<=(bE f 0).length) (λj=>((bE f 0).length - j).toNat) λ_ _=> .look
 |29=> .inv Int (λr=>⟨[(2,.ptr 1 0 20),(4,.ptr 2 0 2),(8,.ow 3 (bE f 0).length 1),(9,.ow 4 (bE f 1).length 8),(12,.ptr 5 0 20),(13,.ptr 6 0 2),(91,.si .i64 (dh p)),(92,.si .i64 r)],E4 p f (bE f 0) ((bE f 1).map (oI p)) (bE f 0).length r.toNat (nQ p f r.toNat) (mj p f (bE f 0).length)⟩)
   (λs=>iS s 92) (λr=>0<=r/\r<=dh p) (λr=>(dh p - r).toNat) λr k=>match k with
   |33=> .inv Int (λj=>⟨[(2,.ptr 1 0 20),(4,.ptr 2 0 2),(8,.ow 3 (bE f 0).length 1),(9,.ow 4 (bE f 1).length 8),(12,.ptr 5 0 20),(13,.ptr 6 0 2),(16,.si .i64 r),(17,.si .i64 (dm p r - cZ p (((bE f 1).map (oI p)).take j.toNat) r)),(91,.si .i64 (dh p)),(92,.si .i64 r),(98,.ow 4 (bE f 1).length 8),(99,.si .i64 (bE f 1).length),(100,.si .i64 j)],E4 p f (bE f 0) ((bE f 1).map (oI p)) (bE f 0).length r.toNat (nQ p f r.toNat) (mj p f (bE f 0).length)⟩)
     (λs=>iS s 100) (λj=>0<=j/\j<=(bE f 1).length) (λj=>((bE f 1).length - j).toNat) λ_ _=> .look
   |39=> .inv Int (λj=>⟨[(2,.ptr 1 0 20),(4,.ptr 2 0 2),(8,.ow 3 (bE f 0).length 1),(9,.ow 4 (bE f 1).length 8),(12,.ptr 5 0 20),(13,.ptr 6 0 2),(16,.si .i64 r),(20,.ptr 9 0 4),(91,.si .i64 (dh p)),(92,.si .i64 r),(114,.ow 3 (bE f 0).length 1),(115,.si .i64 (bE f 0).length),(116,.si .i64 j)],E4 p f (bE f 0) ((bE f 1).map (oI p)) (bE f 0).length r.toNat (nQ p f r.toNat) (mj p f (bE f 0).length)++[.cells [.ow 10 j.toNat 3,.sb (bu ((dm p r - cZ p ((bE f 1).map (oI p)) r:Int):Rat)).1,.row (.i .u32) (bu ((dm p r - cZ p ((bE f 1).map (oI p)) r:Int):Rat)).2.1,.row (.i .u32) (bu ((dm p r - cZ p ((bE f 1).map (oI p)) r:Int):Rat)).2.2] 249 4 false,.row sF (nP p f r j.toNat) 177 false]⟩)
     (λs=>iS s 116) (λj=>0<=j/\j<=(bE f 0).length) (λj=>((bE f 0).length - j).toNat) λ_ _=> .look
   |_=> .look
 |_=> .look
theorem h394w:ef Tryz.prog KW:=by
 refine Bt (L:=[pe,oz,Dl,xU,xR,xT]) (W:=[]) KW (λa=>afj a.1 a.2.2) (by simp) (by simpa using⟨h79,h94,h134,h156,h157,h158⟩) ?_;rintro⟨p,n,f⟩ ⟨hn,⟨⟨hc,hl⟩,hr⟩⟩;simp only at hn;subst hn;simp only at hc hl hr;refine bQ (let a:=γd .i64;let c:=(0:Int);let d:=bq.row;let e:=bq.cells;let g:=γZ;let h:=(-9223372036854775808:Int);let j:=Ω;let k:=(1:Int);let l:=(9223372036854775807:Int);let m:=cu .i64;let n:=γB .i64;let o:=γQ;let q:=γR;let r:=SV.bI;let R:=SV.sc (Value.slice none 0 0);let L:=bp.i .i64;let ah:=r [q [j sF (mR p f).fst,j sR (mR p f).snd.fst],j L (mR p f).snd.snd,a (if hJ p f=true then c else(14:Int))];let s:=d L f 3 true;let I:=(↑f.length:Int);let ai:=p.offers.length;let ae:=(↑ai:Int);let t:=o 1 0 20;let v:=o 2 0 2;let Z:=g 0 f.length 1;let a6:=a I;let a7:=n 0;let aM:=[a p.supply.a0,a p.supply.a1,a p.supply.a2,a p.supply.a3,a p.supply.a4,a p.supply.a5,a p.opn.a0,a p.opn.a1,a p.opn.a2,a p.opn.a3,a p.opn.a4,a p.opn.a5,a p.cls.a0,a p.cls.a1,a p.cls.a2,a p.cls.a3,a p.cls.a4,a p.cls.a5,j L p.classes,j bp.off p.offers];let w:=e aM 27 20 false;let y:=e [R,R] 217 2 false;let aN:=d bp.off [] 65 true;let aj:=bp.off.dflt;let ay:=(↑p.classes.length:Int);let a8:=bp.i .u32;let a9:=bp.b.pair (a8.bB.pair a8.bB);let az:=a9.bB.pair a9;let H:=bE f c;let N:=H.length;let z:=g 3 N 1;let z25:Nat:=(bE f k).length;let A:=g 4 z25 8;let B:=o 5 0 20;let C:=o 6 0 2;let E:=(↑N:Int);let V:=a E;let F:=d L H 3 true;let P:=γb (oI p) (bE f k);let G:=d bp.off P 65 true;let D:=e aM 87 20 false;let af:=[g 7 0 4];let aO:=e (g 8 0 3::af) 217 2 false;let ak:=d sR [] 249 false;let aP:=d a9 [] 177 false;let J:=a (dh p);let al:=g 8 N 3;let aA:=mj p f N;let M:=d sF aA 177 false;let S:=(↑z25:Int);let am:=a S;let an:=o 9 0 4;let aQ:=g 10 0 3;let aR:=λ(u u_1:Int) (u_2:SV) ↦decide (u≠u_1)=true->(r [q [R,R],R,u_2]).same ah/\s.same s/\True;True/\aR (bz p) c (a (bz p))/\(decide (bz p≠c)=false->aR I ae (n 3)/\(decide (I≠ae)=false->(((t.same t/\v.same v/\(g 3 0 1).same (g 3 (bE [] c).length 1)/\(g 4 0 8).same (g 4 (bE [] k).length 8)/\Z.same Z/\a6.same a6/\a7.same (a 0)/\True)/\s.same s/\w.same w/\y.same y/\(d L [] 3 true).same (d L (bE [] c) 3 true)/\aN.same aN/\True)/\c<=c/\c<=I)/\∀(x:Int),let ao:=bE (Δ x.toNat f) k;let aS:=g 4 ao.length 8;let O:=x+k;let ap:=Δ O.toNat f;let aT:=g 4 (bE ap k).length 8;let aq:=a O;let aU:=g 3 (bE ap c).length 1;let aV:=d L (bE ap c) 3 true;let Q:=γb (oI p) ao;let aW:=d bp.off Q 65 true;let aX:=d bp.off (γb (oI p) (bE ap k)) 65 true;let aB:=bj f x.toNat c;let aY:=decide (aB=(-1:Int));let aa:=bE (Δ x.toNat f) c;let ar:=aa.length;let aC:=d L aa 3 true;let aZ:=decide (aB=c);let b0:=aa.length+1;let b1:=decide (aB=k);let b2:=Q.length+1;let aD:=g 3 ar 1;let b3:=Q++[bj p.offers x.toNat aj];let bh:=aS.same aT/\Z.same Z/\a6.same a6/\aq.same aq/\True;let b4:=λ(u:Nat) (u_1:bq) ↦m O/\((t.same t/\v.same v/\(g 3 u 1).same aU/\bh)/\s.same s/\w.same w/\y.same y/\u_1.same aV/\aW.same aX/\True)/\(c<=O/\O<=I)/\(I - O).toNat<(I - x).toNat;c<=x/\x<=I->(decide (x<I)=true->f.length=f.length/\c<=x/\x<(↑f.length:Int)/\f.length=f.length/\x.toNat<f.length/\(aY=true->b4 ar aC)/\(aY=false->(aZ=true->ar=aa.length/\b0*8<=140737488355328/\b0<=1000000000000/\b4 (aa++[x]).length (d L (aa++[x]) 3 true))/\(aZ=false->(b1=true->c<=x/\x<ae/\x.toNat<ai/\ao.length=Q.length/\b2*64<=140737488355328/\b2<=1000000000000/\m O/\((t.same t/\v.same v/\aD.same aU/\(g 4 b3.length 8).same aT/\Z.same Z/\a6.same a6/\aq.same aq/\True)/\s.same s/\w.same w/\y.same y/\aC.same aV/\(d bp.off b3 65 true).same aX/\True)/\(c<=O/\O<=I)/\(I - O).toNat<(I - x).toNat)/\(b1=false->(r [q [R,R],R,n 4]).same ah/\s.same s/\True))))/\(decide (x<I)=false->ao.length=Q.length/\(p.classes.length<=8/\Q.length<=1000/\∀(x:Off),x∈Q->c<=x.bX/\x.bX<ay/\x.want.ok=true)/\((!fZ p Q)=true->0=0/\0=0/\0=0/\(r [q [j a9 [],j az []],j L [],n 14]).same ah/\s.same s/\True)/\((!fZ p Q)=false->(((t.same t/\v.same v/\aD.same z/\aS.same A/\B.same B/\C.same C/\aD.same z/\(a (↑ar:Int)).same V/\a7.same (a 0)/\True)/\s.same s/\w.same w/\y.same y/\aC.same F/\aW.same G/\D.same D/\aO.same aO/\(d az [] 249 false).same ak/\aP.same (d sF (mj p f 0) 177 false)/\True)/\c<=c/\c<=E)/\∀(x:Int),let au:=bj H x.toNat c;let aE:=(bj p.offers au.toNat aj).value;let av:=mj p f x.toNat;let b5:=av.length+1;let W:=x+k;let b6:=a W;let aF:=bu (κ aE);let b7:=av++[(aF.fst,aF.snd.fst,aF.snd.snd)];c<=x/\x<=E->(decide (x<E)=true->N=H.length/\c<=x/\x<(↑H.length:Int)/\N=H.length/\x.toNat<H.length/\c<=au/\au<ae/\au.toNat<ai/\(h<=aE/\aE<=l)/\1=1/\x.toNat=av.length/\b5*56<=140737488355328/\b5<=1000000000000/\m W/\((t.same t/\v.same v/\z.same z/\A.same A/\B.same B/\C.same C/\z.same z/\V.same V/\b6.same b6/\True)/\s.same s/\w.same w/\y.same y/\F.same F/\G.same G/\D.same D/\(e (g 8 b7.length 3::af) 217 2 false).same (e (g 8 W.toNat 3::af) 217 2 false)/\ak.same ak/\(d a9 b7 177 false).same (d sF (mj p f W.toNat) 177 false)/\True)/\(c<=W/\W<=E)/\(E - W).toNat<(E - x).toNat)/\(decide (x<E)=false->p.classes.length<=8/\(((t.same t/\v.same v/\z.same z/\A.same A/\B.same B/\C.same C/\J.same J/\a7.same (a 0)/\True)/\s.same s/\w.same w/\y.same y/\F.same F/\G.same G/\D.same D/\(e (g 8 x.toNat 3::af) 217 2 false).same (e (al::af) 217 2 false)/\ak.same (d sR (nQ p f 0) 249 false)/\(d sF av 177 false).same M/\True)/\c<=c/\c<=dh p)/\∀(x:Int),let b8:=decide (x<dh p);let T:=e [al,g 7 x.toNat 4] 217 2 false;let ab:=nQ p f x.toNat;let U:=d sR ab 249 false;let ac:=bu (κ (dm p x - cZ p P x));let aG:=[γA ac.fst,j a8 ac.snd.fst,j a8 ac.snd.snd];let b9:=ab.length+1;let X:=x+k;let ba:=a X;c<=x/\x<=dh p->(b8=true->(p.classes.length<=8/\c<=x/\x<dh p)/\(((t.same t/\v.same v/\z.same z/\A.same A/\B.same B/\C.same C/\(a x).same (a x)/\(a (dm p x)).same (a (dm p x - cZ p [] x))/\J.same J/\(a x).same (a x)/\A.same A/\am.same am/\a7.same (a 0)/\True)/\s.same s/\w.same w/\y.same y/\F.same F/\G.same G/\D.same D/\T.same T/\U.same U/\M.same M/\True)/\c<=c/\c<=S)/\∀(x_1:Int),let aH:=bj P x_1.toNat aj;let aw:=dm p x - cZ p (Δ x_1.toNat P) x;let bb:=aw - dY p x aH;let ad:=x_1+k;let K:=a x;let bc:=a ad;let aI:=bu (κ aw);c<=x_1/\x_1<=S->(decide (x_1<S)=true->z25=P.length/\c<=x_1/\x_1<(↑P.length:Int)/\z25=P.length/\x_1.toNat<P.length/\(p.classes.length<=8/\c<=x/\x<dh p/\c<=aH.bX/\aH.bX<ay)/\m bb/\m ad/\((t.same t/\v.same v/\z.same z/\A.same A/\B.same B/\C.same C/\K.same K/\(a bb).same (a (dm p x - cZ p (Δ ad.toNat P) x))/\J.same J/\K.same K/\A.same A/\am.same am/\bc.same bc/\True)/\s.same s/\w.same w/\y.same y/\F.same F/\G.same G/\D.same D/\T.same T/\U.same U/\M.same M/\True)/\(c<=ad/\ad<=S)/\(S - ad).toNat<(S - x_1).toNat)/\(decide (x_1<S)=false->(h<=aw/\aw<=l)/\(((t.same t/\v.same v/\z.same z/\A.same A/\B.same B/\C.same C/\K.same K/\an.same an/\J.same J/\K.same K/\z.same z/\V.same V/\a7.same (a 0)/\True)/\s.same s/\w.same w/\y.same y/\F.same F/\G.same G/\D.same D/\T.same T/\U.same U/\M.same M/\(e [aQ,γA aI.fst,j a8 aI.snd.fst,j a8 aI.snd.snd] 249 4 false).same (e (aQ::aG) 249 4 false)/\aP.same (d sF (nP p f x 0) 177 false)/\True)/\c<=c/\c<=E)/\∀(x_2:Int),let ax:=bj H x_2.toNat c;let aJ:=bj p.offers ax.toNat aj;let aK:=dY p x aJ;let ag:=nP p f x x_2.toNat;let bd:=ag.length+1;let Y:=x_2+k;let be:=a Y;let aL:=bu (κ aK);let bf:=ag++[(aL.fst,aL.snd.fst,aL.snd.snd)];let bg:=ab++[(ag,ac.fst,ac.snd.fst,ac.snd.snd)];c<=x_2/\x_2<=E->(decide (x_2<E)=true->N=H.length/\c<=x_2/\x_2<(↑H.length:Int)/\N=H.length/\x_2.toNat<H.length/\c<=ax/\ax<ae/\ax.toNat<ai/\(p.classes.length<=8/\c<=x/\x<dh p/\c<=aJ.bX/\aJ.bX<ay)/\(h<=aK/\aK<=l)/\1=1/\x_2.toNat=ag.length/\bd*56<=140737488355328/\bd<=1000000000000/\m Y/\((t.same t/\v.same v/\z.same z/\A.same A/\B.same B/\C.same C/\K.same K/\an.same an/\J.same J/\K.same K/\z.same z/\V.same V/\be.same be/\True)/\s.same s/\w.same w/\y.same y/\F.same F/\G.same G/\D.same D/\T.same T/\U.same U/\M.same M/\(e (g 10 bf.length 3::aG) 249 4 false).same (e (g 10 Y.toNat 3::aG) 249 4 false)/\(d a9 bf 177 false).same (d sF (nP p f x Y.toNat) 177 false)/\True)/\(c<=Y/\Y<=E)/\(E - Y).toNat<(E - x_2).toNat)/\(decide (x_2<E)=false->x_2.toNat=ag.length/\1=1/\x.toNat=ab.length/\b9*80<=140737488355328/\b9<=1000000000000/\m X/\((t.same t/\v.same v/\z.same z/\A.same A/\B.same B/\C.same C/\J.same J/\ba.same ba/\True)/\s.same s/\w.same w/\y.same y/\F.same F/\G.same G/\D.same D/\(e [al,g 7 bg.length 4] 217 2 false).same (e [al,g 7 X.toNat 4] 217 2 false)/\(d az bg 249 false).same (d sR (nQ p f X.toNat) 249 false)/\M.same M/\True)/\(c<=X/\X<=dh p)/\(dh p - X).toNat<(dh p - x).toNat)))/\(b8=false->N=aA.length/\x.toNat=ab.length/\N=H.length/\(r [q [j sF aA,j sR ab],j L H,a7]).same ah/\s.same s/\True))))))) (by kernel_rfl) ?_;simp only[vcs];obtain⟨g1,g2,g3,g4,g5⟩:=dQ hc;have hoi:∀k:Nat,∀o:Int,o=k->(bj p.offers k bp.off.dflt)=oI p o:=λk o h=>by subst h;rfl
 have hw2:∀{a b:Nat},a=b->(γZ 3 a 1).same (γZ 3 b 1):=by rintro _ _ rfl;rfl
 have hw3:∀{a b:Nat},a=b->(γZ 4 a 8).same (γZ 4 b 8):=by rintro _ _ rfl;rfl
 have lI:∀{x y:List Int},x=y->(bq.row (.i .i64) x 3 true).same (bq.row (.i .i64) y 3 true):=by rintro _ _ rfl;rfl
 have yT:∀{x y:List Off},x=y->(bq.row .off x 65 true).same (bq.row .off y 65 true):=by rintro _ _ rfl;rfl
 refine⟨λh=>absurd hc h,λ_=>⟨λh=>absurd (by rw[hl]) h,λ_=>⟨⟨⟨⟨hw2 rfl,hw3 rfl⟩,lI rfl⟩,by omega,by omega⟩,?_⟩⟩⟩;rintro i ⟨i0,i1⟩;have htl:(f.take i.toNat).length<=160:=by rw[γy];omega
 have hd0:=@uO (f.take i.toNat) 0;have hd1:=@uO (f.take i.toNat) 1;have hm1:(γb (oI p) (bE (f.take i.toNat) 1)).length=(bE (f.take i.toNat) 1).length:=Φ _;refine⟨λhi=>?_,λhi=>?_⟩
 ·have hs0:=@Bn f 0 i i0 hi;have hs1:=@Bn f 1 i i0 hi;have aiQ: -1<=bj f i.toNat 0/\bj f i.toNat 0<=1:=by
   have:=τ.1 hr _ (dn (d:=0) (show i.toNat<f.length by omega));simpa using this
  refine⟨i0,hi,by omega,λh1=>?_,λh1=>⟨λh2=>?_,λh2=>⟨λh3=>?_,λh3=>by omega⟩⟩⟩
  ·rw[if_neg (by omega),γ1] at hs0 hs1;rw[hs0,hs1];refine⟨?_,⟨⟨hw2 rfl,hw3 rfl⟩,lI rfl,yT rfl⟩,?_,?_⟩<;>omega
  ·rw[if_pos (by omega)] at hs0;rw[if_neg (by omega),γ1] at hs1;rw[hs0,hs1];refine⟨?_,?_,?_,⟨⟨hw2 rfl,hw3 rfl⟩,lI rfl,yT rfl⟩,?_,?_⟩<;>omega
  ·rw[if_neg (by omega),γ1] at hs0;rw[if_pos (by omega)] at hs1;rw[hs0,hs1,hoi i.toNat i (by omega),hm1];have e:γb (oI p) (bE (f.take i.toNat) 1)++[oI p i]=γb (oI p) (bE (f.take i.toNat) 1++[i]):=by rw[γa];rfl
   rw[e,Φ];refine⟨i0,?_,?_,rfl,?_,?_,?_,⟨⟨hw2 rfl,hw3 rfl⟩,lI rfl,yT rfl⟩,?_,?_⟩<;>omega
 ·have htk:f.take i.toNat=f:=by rw[show i.toNat=f.length by omega,φ]
  rw[htk] at hd0 hd1 hm1 ⊢;have hdl:∀d,(bE f d).length<=160:=λd=>by have:=@uO f d;omega
  refine⟨hm1.symm,⟨g1,by omega,λx hx=>?_⟩,λhb=>?_,λhb=>?_⟩
  ·obtain⟨k,hk,rfl⟩:=Θ.1 hx;have h1:=(kP.1 hk).1;have:=kr hc (i:=k) (by omega);exact⟨this.1,this.2.1,this.2.2.1⟩
  ·have hb2:hJ p f=false:=hb;unfold mR;simp only[hb2];exact⟨rfl,rfl,rfl⟩
  ·have hb2:hJ p f=true:=hb;have hG:mR p f=((iK (jO p f)).1,((iK (jO p f)).2,bE f 0)):=by unfold mR;rw[if_pos hb2]
   simp only[hb2,if_true,hG];have hfx:eZ p f:=⟨hc,hl,hb⟩;have Bv:∀{x y:List bL},x=y->(bq.row sF x 177 false).same (bq.row sF y 177 false):=by rintro _ _ rfl;rfl
   have UH:∀{x y:List (List bL×bL)},x=y->(bq.row sR x 249 false).same (bq.row sR y 249 false):=by rintro _ _ rfl;rfl
   have KX:∀{a b c d:Nat},a=b->c=d->(bq.cells [.ow 8 a 3,.ow 7 c 4] 217 2 false).same (bq.cells [.ow 8 b 3,.ow 7 d 4] 217 2 false):=by rintro _ _ _ _ rfl rfl;rfl
   have hc8:∀{a b:Nat} {q q':Rat},a=b->q=q'->(bq.cells [.ow 10 a 3,.sb (bu q).1,.row (.i .u32) (bu q).2.1,.row (.i .u32) (bu q).2.2] 249 4 false).same (bq.cells [.ow 10 b 3,.sb (bu q').1,.row (.i .u32) (bu q').2.1,.row (.i .u32) (bu q').2.2] 249 4 false):=by rintro _ _ _ _ rfl rfl;rfl
   have hn0:=hdl 0;have hn1:=hdl 1;have hfree:∀j:Int,0<=j->j<(bE f 0).length->(0<=bj (bE f 0) j.toNat 0/\bj (bE f 0) j.toNat 0<p.offers.length):=λj h0 h1=>by
    have:=(kP.1 (dn (d:=0) (show j.toNat<(bE f 0).length by omega))).1;omega
   refine⟨⟨⟨⟨hw2 rfl,hw3 rfl,hw2 rfl,trivial⟩,lI rfl,yT rfl,Bv rfl⟩,by omega,by omega⟩,?_⟩;rintro j ⟨j0,j1⟩;have hgl:=@Kt p f j.toNat (by omega);refine⟨λhj=>?_,λhj=>?_⟩
   ·have hk:=hfree j j0 hj;have ho:=kr hc hk;have hs:=@aeB p f j j0 hj;have afk:=@Kt p f (j+1).toNat (by omega);rw[hoi _ (bj (bE f 0) j.toNat 0) (by omega)];simp only[jM];have e:mj p f j.toNat++[bu (κ (oI p (bj (bE f 0) j.toNat 0)).value)]=mj p f (j+1).toNat:=hs.symm;rw[e];refine⟨j0,hj,?_,hk.1,hk.2,?_,?_,?_,?_,?_,?_,⟨KX afk rfl,Bv rfl⟩,?_,?_⟩<;>omega
   ·rw[show j.toNat=(bE f 0).length by omega];have hnr:dh p=p.classes.length+12:=rfl;refine⟨g1,⟨⟨KX rfl rfl,UH rfl,Bv rfl⟩,by omega,by omega⟩,?_⟩;rintro r ⟨r0,r1⟩;have hrl:=@Uf p f r.toNat;refine⟨λhr2=>⟨⟨g1,r0,hr2⟩,⟨by simp[cZ],by omega,by omega⟩,?_⟩,λhr2=>?_⟩
    ·rintro k ⟨k0,k1⟩;have hok:∀x∈(γb (oI p) (bE f 1)).take k.toNat,x.want.ok=true:=λx hx=>(EF hfx x (γo hx)).2.2.1;have hsb:=@sO p r ((γb (oI p) (bE f 1)).take k.toNat) hok;have afl:((γb (oI p) (bE f 1)).take k.toNat).length<=160:=by rw[γy];omega
     have hbb:=@Bf p hc r;refine⟨λhk=>?_,λhk=>?_⟩
     ·have hx:=EF hfx _ (dn (d:=bp.off.dflt) (show k.toNat<(γb (oI p) (bE f 1)).length by omega));have hst:=@H3 p r (γb (oI p) (bE f 1)) k bp.off.dflt k0 (by omega);have hcb:=@pR p r _ hx.2.2.1;refine⟨?_,k0,?_,?_,?_,⟨g1,r0,hr2,hx.1,hx.2.1⟩,?_,?_,?_,?_,?_⟩<;>omega
     ·have e:(γb (oI p) (bE f 1)).take k.toNat=γb (oI p) (bE f 1):=List.take_of_length_le (by omega);rw[e] at hsb afl ⊢;refine⟨by omega,⟨⟨hc8 rfl rfl,Bv rfl⟩,by omega,by omega⟩,?_⟩;rintro l ⟨l0,l1⟩;have hcl:=@Ue p f r l.toNat (by omega);refine⟨λhl2=>?_,λhl2=>?_⟩
      ·have hk:=hfree l l0 hl2;have ho:=kr hc hk;have hs:=@aeC p f r l l0 hl2;have afm:=@Ue p f r (l+1).toNat (by omega);have hcb:=@pR p r _ ho.2.2.1;rw[hoi _ (bj (bE f 0) l.toNat 0) (by omega)];simp only[jM];have e:nP p f r l.toNat++[bu (κ (dY p r (oI p (bj (bE f 0) l.toNat 0))))]=nP p f r (l+1).toNat:=hs.symm;rw[e];refine⟨l0,hl2,?_,hk.1,hk.2,?_,⟨g1,r0,hr2,ho.1,ho.2.1⟩,?_,?_,?_,?_,?_,⟨hc8 afm rfl,Bv rfl⟩,?_,?_⟩<;>omega
      ·rw[show l.toNat=(bE f 0).length by omega] at hcl ⊢;have hs:=@aeD p f r r0;have hrl2:=@Uf p f (r+1).toNat;simp only[jM];have e:nQ p f r.toNat++[(nP p f r (bE f 0).length,bu (κ (dm p r - cZ p (γb (oI p) (bE f 1)) r)))]=nQ p f (r+1).toNat:=hs.symm;rw[e];refine⟨hcl.symm,hrl.symm,?_,?_,?_,⟨KX rfl hrl2,UH rfl⟩,?_,?_⟩<;>omega
    ·have e:r.toNat=mF p:=by
      show r.toNat=p.classes.length+12;omega
     rw[e] at hrl ⊢;rw[Uc,Ud];refine⟨?_,hrl.symm.trans (by rw[Ud]),rfl,trivial,trivial⟩;rw[<-Uc];exact(Kt (π _)).symm
noncomputable def KY:dH:=KU 100 (λp f=>f.length<=1000000000000) λp f=> .bI [aeJ p f,.si .i64 (jf p f)]
noncomputable def UI (p:bn) (f:List Int) (x:List bL):cj:=
 [.row (.i .i64) f 3 true,.cells p.ss 27 20 false,.cells [.bl false,.bl false,.sc (.slice none 0 0),.sc (.slice none 0 0),.sc (.slice none 0 0),.sc (.slice none 0 0)] 179 6 false,.cells [.row sF (mR p f).1,.row sR (mR p f).2.1] 217 2 false,
  .cells [.si .i64 1,.sb (bu (dx p f).value).1,.row (.i .u32) (bu (dx p f).value).2.1,.row (.i .u32) (bu (dx p f).value).2.2,.row sF (fL (gq (dx p f) (nF f) (mF p))),.row sF (fL (iD p f)),.row sF []] 221 7 false,.row sF x 177 true]
noncomputable def afn (p:bn) (f:List Int):Nat->cG
 |12=> .inv Int (λi=>⟨[(1,.ow 0 f.length 1),(2,.ptr 1 0 20),(4,.ptr 2 0 6),(8,.row (.i .i64) (bE f 0)),(10,.ptr 4 0 7),(11,.ow 5 f.length 3),(45,.ow 0 f.length 1),(46,.si .i64 f.length),(47,.si .i64 i)],UI p f (eX (fL (jZ p f 0)) i.toNat (false,([],[])))⟩)
   (λs=>iS s 47) (λi=>0<=i/\i<=f.length) (λi=>(f.length - i).toNat) λ_ _=> .look
 |19=> .inv Int (λk=>⟨[(1,.ow 0 f.length 1),(2,.ptr 1 0 20),(4,.ptr 2 0 6),(10,.ptr 4 0 7),(11,.ow 5 f.length 3),(63,.row (.i .i64) (bE f 0)),(64,.si .i64 (bE f 0).length),(65,.si .i64 k)],UI p f (fL (jZ p f k.toNat))⟩)
   (λs=>iS s 65) (λk=>0<=k/\k<=(bE f 0).length) (λk=>((bE f 0).length - k).toNat) λ_ _=> .look
 |_=> .look
theorem h390w:ef Tryz.prog KY:=by
 refine Bt (L:=[EO,Kr,oz,wi]) (W:=[KW,KV]) KY (λa=>afn a.1 a.2.2) (by simpa using⟨h394w,h396w⟩) (by simpa using⟨h393,h395,h94,h129⟩) ?_;rintro⟨p,n,f⟩ ⟨hn,hl:f.length<=1000000000000⟩;simp only at hn;subst hn;refine bQ (let c:=γd .i64;let d:=(0:Int);let e:=Ω;let g:=bq.row;let h:=(-9223372036854775808:Int);let j:=(9223372036854775807:Int);let k:=bq.cells;let l:=(1:Int);let m:=γA;let n:=SV.bI;let o:=γQ;let q:=γR;let Q:=δh false;let v:=bp.i .u32;let a6:=bp.b.pair (v.bB.pair v.bB);let ah:=q [Q,Q,e v [],e v [],e a6 [],e a6 []];let ai:=[c (jf p f)];let a7:=n (q [m (j3 p f),m (ku p f).fst,e v (ku p f).snd.fst,e v (ku p f).snd.snd,e sF (qT p f),e sF (kx p f)]::ai);let R:=bp.i .i64;let t:=g R f 3 true;let aj:=decide (jf p f≠d);let ak:=decide ((if hJ p f=true then d else(14:Int))≠d);let S:=γB .i64 0;let T:=(mR p f).fst;let a8:=(mR p f).snd.fst;let a9:=c 0;let s:=(↑f.length:Int);let w:=γZ 0 f.length 1;let y:=o 1 0 20;let z:=o 2 0 6;let J:=bE f d;let G:=e R J;let A:=o 4 0 7;let H:=γZ 5 f.length 3;let U:=c s;let B:=k [c p.supply.a0,c p.supply.a1,c p.supply.a2,c p.supply.a3,c p.supply.a4,c p.supply.a5,c p.opn.a0,c p.opn.a1,c p.opn.a2,c p.opn.a3,c p.opn.a4,c p.opn.a5,c p.cls.a0,c p.cls.a1,c p.cls.a2,c p.cls.a3,c p.cls.a4,c p.cls.a5,e R p.classes,e bp.off p.offers] 27 20 false;let V:=SV.sc (Value.slice none 0 0);let C:=k [Q,Q,V,V,V,V] 179 6 false;let D:=k [e sF T,e sR a8] 217 2 false;let al:=c 1;let aa:=γb (λ(r:List bL×bL) ↦(vL r.fst,bV r.snd)) a8;let P:=nO (vL T,aa);let z31:Nat:=(vL T).length;let K:=bu (dx p f).value;let W:=fL (gq (dx p f) (nF f) (mF p));let am:=e sF (fL (iD p f));let I:=k [al,m K.fst,e v K.snd.fst,e v K.snd.snd,e sF W,am,e sF []] 221 7 false;let X:=(false,[],[]);let Y:=fL (jZ p f 0);let ab:=bu (κ d);let ac:=bu (κ l);let E:=(↑J.length:Int);let ad:=c E;let ae:=bu (κ (gC p f));let an:=(ae.fst,ae.snd.fst,ae.snd.snd);let ao:=(K.fst,K.snd.fst,K.snd.snd);let af:=bu (bV an+bV ao);let ap:=λ(u:Bool) (u_1:SV) ↦u=true->0=0/\0=0/\0=0/\0=0/\(n [ah,u_1]).same a7/\t.same t/\True;f.length=f.length/\f.length<=1000000000000/\(aj=true->0=0/\0=0/\0=0/\0=0/\(n (ah::ai)).same a7/\t.same t/\True)/\(aj=false->(f.length=f.length/\(bz p=d/\f.length=p.offers.length)/\jN f=true)/\ap ak S/\(ak=false->(∃(a:Lp),(T,a8)=iK a/\Bm a)/\ap false a9/\(false=false->d<=s/\s<=s/\s*(56:Int)<=(140737488355328:Int)/\s<=(1000000000000:Int)/\(((w.same w/\y.same y/\z.same z/\(e R (mR p f).snd.snd).same G/\A.same A/\(γZ 5 s.toNat 3).same H/\w.same w/\U.same U/\S.same a9/\True)/\t.same t/\B.same B/\C.same C/\D.same D/\(k [al,m (bu P.value).fst,e v (bu P.value).snd.fst,e v (bu P.value).snd.snd,e sF (fL (gq P z31 aa.length)),e sF (fL (jy P z31 aa.length z31)),e sF []] 221 7 false).same I/\(g a6 (δ s.toNat X) 177 true).same (g sF (eX Y 0 X) 177 true)/\True)/\d<=d/\d<=s)/\∀(x:Int),let L:=x+l;let aq:=c L;let M:=eX Y x.toNat X;let ar:=decide (bj f x.toNat d=l);let N:=M.set x.toNat (ab.fst,ab.snd.fst,ab.snd.snd);let au:=λ(u:List (Bool×List Int×List Int)) ↦cu .i64 L/\((w.same w/\y.same y/\z.same z/\G.same G/\A.same A/\H.same H/\w.same w/\U.same U/\aq.same aq/\True)/\t.same t/\B.same B/\C.same C/\D.same D/\I.same I/\(g sF u 177 true).same (g sF (eX Y L.toNat X) 177 true)/\True)/\(d<=L/\L<=s)/\(s - L).toNat<(s - x).toNat;d<=x/\x<=s->(decide (x<s)=true->f.length=f.length/\d<=x/\x<(↑f.length:Int)/\f.length=f.length/\x.toNat<f.length/\(h<=d/\d<=j)/\f.length=M.length/\d<=x/\x<(↑M.length:Int)/\f.length=M.length/\x.toNat<M.length/\(ar=true->(h<=l/\l<=j)/\f.length=N.length/\d<=x/\x<(↑N.length:Int)/\f.length=N.length/\x.toNat<N.length/\au (N.set x.toNat (ac.fst,ac.snd.fst,ac.snd.snd)))/\(ar=false->au N))/\(decide (x<s)=false->(((w.same w/\y.same y/\z.same z/\A.same A/\H.same H/\G.same G/\(c (↑J.length:Int)).same ad/\S.same a9/\True)/\t.same t/\B.same B/\C.same C/\D.same D/\I.same I/\(g sF M 177 true).same (g sF Y 177 true)/\True)/\d<=d/\d<=E)/\∀(x:Int),let F:=fL (jZ p f x.toNat);let Z:=bj J x.toNat d;let O:=x+l;let av:=c O;let ag:=bj W x.toNat sF.dflt;d<=x/\x<=E->(decide (x<E)=true->d<=x/\x<(↑J.length:Int)/\x.toNat<J.length/\d<=x/\x<(↑W.length:Int)/\x.toNat<W.length/\f.length=F.length/\d<=Z/\Z<(↑F.length:Int)/\f.length=F.length/\Z.toNat<F.length/\cu .i64 O/\((w.same w/\y.same y/\z.same z/\A.same A/\H.same H/\G.same G/\ad.same ad/\av.same av/\True)/\t.same t/\B.same B/\C.same C/\D.same D/\I.same I/\(g sF (F.set Z.toNat (ag.fst,ag.snd.fst,ag.snd.snd)) 177 true).same (g sF (fL (jZ p f O.toNat)) 177 true)/\True)/\(d<=O/\O<=E)/\(E - O).toNat<(E - x).toNat)/\(decide (x<E)=false->(f.length=f.length/\bz p=d/\f.length=p.offers.length)/\(cE an/\cE ao)/\f.length=F.length/\f.length=F.length/\(n [q [δh true,m af.fst,e v af.snd.fst,e v af.snd.snd,am,e sF F],S]).same a7/\t.same t/\True)))))) (by kernel_rfl) ?_;simp only[vcs];have hz:j3 p f=false->(γR [δh false,δh false,Ω (bp.i IntKind.i64) [],Ω (bp.i IntKind.i64) [],Ω (bp.i IntKind.i64) [],Ω (bp.i IntKind.i64) []]).same
   (γR [γA (j3 p f),γA (ku p f).fst,Ω (bp.i IntKind.u32) (ku p f).snd.fst,Ω (bp.i IntKind.u32) (ku p f).snd.snd,Ω sF (qT p f),Ω sF (kx p f)]):=λh=>by
  unfold ku qT kx;simp only[h];rfl
 refine⟨hl,λh=>hz (by unfold j3;rw[decide_eq_false h];rfl),λh=>?_⟩;have hx0:jf p f=0:=γf.1 h;have hcl:bz p=0/\f.length=p.offers.length/\jN f=true:=by
  unfold jf at hx0;split at hx0;·rename_i h1;exact absurd hx0 h1
  ·rename_i h1;split at hx0;·cases hx0
   ·rename_i h2;split at hx0;·rename_i h3;exact⟨γf.1 h1,γf.1 h2,h3⟩
    ·cases hx0
 obtain⟨hc,hln,hr⟩:=hcl;refine⟨⟨⟨hc,hln⟩,hr⟩,λh1=>⟨hz ?_,hx0.symm⟩,λh1=>?_⟩
 ·have hb:hJ p f=false:=by
   cases hb:hJ p f with
   |false=>rfl;|true=>rw[hb] at h1;exact absurd rfl h1
  unfold j3;rw[hb,Bool.and_false]
 ·have hb:hJ p f=true:=by
   cases hb:hJ p f with
   |true=>rfl;|false=>rw[hb] at h1;exact absurd (by simp) h1
  have hfx:eZ p f:=⟨hc,hln,hb⟩;have hG:mR p f=((iK (jO p f)).1,((iK (jO p f)).2,bE f 0)):=by unfold mR;rw[if_pos hb]
  have hok:j3 p f=true:=by unfold j3;rw[hb,decide_eq_true hx0];rfl
  have h0:(κ 0:Rat)=0:=rfl;have h1':(κ 1:Rat)=1:=rfl;simp only[hG,T8,T9,h0,h1',jM];have e1:(jO p f).1.length=nF f:=by
   show((bE f 0).map _).length=_;rw[Φ]
  have e2:(jO p f).2.length=mF p:=by
   show((df (mF p)).map _).length=_;rw[Φ,iz]
  have Ks:((jO p f).1,(jO p f).2)=jO p f:=rfl;simp only[Ks,aeF,e1,e2];have uP:∀{x y:List bL},x=y->(bq.row sF x 177 true).same (bq.row sF y 177 true):=by rintro _ _ rfl;rfl
  have hs0:=@yK p f 0;have hf0:=@fF (jZ p f 0);have hpt:=@EK (dx p f) (nF f) (mF p);have hfp:=@fF (gq (dx p f) (nF f) (mF p));have hcast:∀k:Nat,((k:Nat):Int).toNat=k:=λk=>γn k;have hnf:nF f=(bE f 0).length:=rfl;have hdl0:=@uO f 0;refine⟨⟨jO p f,rfl,aeE hfx⟩,λh=>(by cases h),λ_=>⟨by omega,by omega,by omega,by omega,⟨⟨⟨trivial,by rw[hcast];rfl⟩,rfl,uP (by rw[yF,hf0,hs0,hcast])⟩,by omega,by omega⟩,?_⟩⟩;rintro i ⟨i0,i1⟩;have oZ:=@yE (fL (jZ p f 0)) i.toNat (false,([],[])) (by omega);refine⟨λhi=>?_,λhi=>?_⟩
  ·have hv:bj (fL (jZ p f 0)) i.toNat (false,([],[]))=bu (if bj f i.toNat 0=1 then 1 else 0):=by rw[jw (by omega),aeI (by omega)]
   have hset:∀x:bL,x=bu (if bj f i.toNat 0=1 then 1 else 0)->(eX (fL (jZ p f 0)) i.toNat (false,([],[]))).set i.toNat x=eX (fL (jZ p f 0)) (i+1).toNat (false,([],[])):=λx hx=>by
    have:=yH (d:=fL (jZ p f 0)) (j:=i.toNat) (z:=(false,([],[]))) (x:=x) (by omega) (hx.trans hv.symm);rw[show(i+1).toNat=i.toNat+1 by omega];exact this
   rw[Ψ];refine⟨i0,hi,by omega,by omega,by omega,i0,by omega,by omega,by omega,λh1=>⟨by omega,by omega,i0,by omega,by omega,by omega,by omega,uP ?_,by omega,by omega⟩,λh1=>⟨by omega,uP ?_,by omega,by omega⟩⟩
   ·rw[List.set_set];exact hset _ (by rw[if_pos h1])
   ·exact hset _ (by rw[if_neg h1])
  ·have hi2:i.toNat=(fL (jZ p f 0)).length:=by omega
   rw[hi2,yG];refine⟨⟨uP rfl,by omega,by omega⟩,?_⟩;rintro k ⟨k0,k1⟩;have hsk:=@yK p f k.toNat;have hfk:=@fF (jZ p f k.toNat);refine⟨λhk=>?_,λhk=>?_⟩
   ·have hm:=(kP.1 (dn (d:=0) (show k.toNat<(bE f 0).length by omega))).1;have hv:bj (fL (gq (dx p f) (nF f) (mF p))) k.toNat sF.dflt=bu (bj (gq (dx p f) (nF f) (mF p)) k.toNat 0):=jw (by omega);have hst:=@aeH p f k.toNat (by omega);rw[hv];refine⟨k0,hk,by omega,k0,by omega,by omega,by omega,hm.1,by omega,by omega,by omega,by omega,uP ?_,by omega,by omega⟩;rw[yI,show(k+1).toNat=k.toNat+1 by omega,hst]
   ·have hk2:k.toNat=nF f:=by omega
    rw[hk2] at hsk hfk ⊢;have hab:=@Bo p hc f f.length hln;rw[φ] at hab;have hsa:Sz 1 ((gC p f:Int):Rat):=by
     unfold Sz;rw[Rat.num_intCast,Rat.den_intCast];omega
    have hsv:Sz 1000000 (dx p f).value:=by
     have:=(EG hfx).wu (oH hfx).1;exact this.2.2.2
    refine⟨⟨hc,hln⟩,⟨dN hsa (by omega),dN hsv (by omega)⟩,by omega,by omega,?_,hx0.symm⟩;unfold ku qT kx;simp only[hok,if_true,eD];rfl
def KZ:dH:=E0 104 (List bL) (.one (dG sF)) (λx a=>ft x/\pA a/\a.length=x.p.offers.length) (λx a=>nA.put ⟨eI (vL a),cM ((eI (vL a)).map (oI x.p))⟩) λx _=>x
def kz (x:List Rat) (k:Nat):List Int:=(df k).filter λi=>decide (0<bj x i.toNat 0)
def lJ (p:bn) (l:List Int):Int:=cM (l.map (oI p))
def afp (x:dJ) (a:List bL):Nat->cG
 |3=>match x.en with
  |none=> .inv Int (λi=>⟨[(0,.ptr 0 0 28),(4,.ptr 3 0 2),(5,.ptr 5 0 2),(10,.row sF a),(11,.si .i64 a.length),(12,.si .i64 i)],
    x.yN++[.cells [.sc (.slice none 0 0),.si .i64 0] 40 2 false,.row (.i .i64) (kz (vL a) i.toNat) 3 true,.cells [.ow 4 (kz (vL a) i.toNat).length 1,.si .i64 (lJ x.p (kz (vL a) i.toNat))] 40 2 false]⟩)
    (λs=>iS s 12) (λi=>0<=i/\i<=a.length) (λi=>(a.length - i).toNat) λ_ _=> .look
  |some m=> .inv Int (λi=>⟨[(0,.ptr 0 0 28),(4,.ptr 4 0 2),(5,.ptr 6 0 2),(10,.row sF a),(11,.si .i64 a.length),(12,.si .i64 i)],
    x.yO m++[.cells [.sc (.slice none 0 0),.si .i64 0] 40 2 false,.row (.i .i64) (kz (vL a) i.toNat) 3 true,.cells [.ow 5 (kz (vL a) i.toNat).length 1,.si .i64 (lJ x.p (kz (vL a) i.toNat))] 40 2 false]⟩)
    (λs=>iS s 12) (λi=>0<=i/\i<=a.length) (λi=>(a.length - i).toNat) λ_ _=> .look
 |_=> .look
theorem UJ {x:List Rat} {i:Int} (i0:0<=i):kz x (i+1).toNat=if 0<bj x i.toNat 0 then kz x i.toNat++[i] else kz x i.toNat:=by
 unfold kz;rw[show(i+1).toNat=i.toNat+1 by omega,qQ,List.filter_append,εA i0];grind
theorem UK {p:bn} {x:List Rat} {k:Nat} (a:bz p=0) (g:k<=p.offers.length):(kz x k).length<=160/\0<=lJ p (kz x k)/\lJ p (kz x k)<=160000000:=by
 have e:(kz x k).length<=k:=by
  have:=γ6 (λi:Int=>decide (0<bj x i.toNat 0)) (df k);rw[iz] at this;exact this
 have c:=sQ (dQ a) (l:=(kz x k).map (oI p)) λy b=>by
  obtain⟨i,d,rfl⟩:=Θ.1 b;have:=iV.1 (γk.1 d).1;exact dn (by omega)
 rw[Φ] at c;have f:=(dQ a).2.1;grind[lJ]
theorem UL {p:bn} {l:List Int} {i:Int}:lJ p (l++[i])=lJ p l+(oI p i).value:=by
 simp_all[lJ,pS,cM]
theorem h446:ef Tryz.prog KZ:=by
 refine Bt (L:=[sX]) (W:=[]) KZ (λa=>afp a.1 a.2) (by simp) (by simpa using h99) ?_;rintro⟨⟨p,ch,val,found,en,k1,k2,most,err,prf,fx⟩,a⟩ ⟨hok,⟨l,hx,hla,hz⟩,hl⟩;simp only at hok hx hla hl;subst hx;have hc:bz p=0:=hok.f.c;have h160:=(dQ hc).2.1;have hll:=@fF l;have hl:(fL l).length=p.offers.length:=hl;cases en with
 |none=>
  refine bQ (let a:=γd .i64;let b:=bq.cells;let c:=bq.row;let d:=(0:Int);let e:=Ω;let f:=γZ;let g:=γQ;let r:=g 0 0 28;let s:=g 3 0 2;let t:=g 5 0 2;let C:=(↑(fL l).length:Int);let k:=(↑(fL l).length:Int);let v:=a k;let w:=γB .i64 0;let D:=a 0;let j:=bp.i .i64;let m:=b [a p.supply.a0,a p.supply.a1,a p.supply.a2,a p.supply.a3,a p.supply.a4,a p.supply.a5,a p.opn.a0,a p.opn.a1,a p.opn.a2,a p.opn.a3,a p.opn.a4,a p.opn.a5,a p.cls.a0,a p.cls.a1,a p.cls.a2,a p.cls.a3,a p.cls.a4,a p.cls.a5,e j p.classes,e bp.off p.offers,e j ch,a val,γA found,SV.fn (Fn.func 70) [] [],f 1 k1 5,f 2 k2 1,a most,a err] 126 28 false;let n:=c bF prf 108 true;let o:=c j fx 3 true;let E:=SV.sc (Value.slice none 0 0);let y:=b [E,D] 40 2 false;let z:=kz (vL (fL l)) 0;(((r.same r/\s.same s/\t.same t/\(e sF (fL l)).same (e sF (fL l))/\(a C).same v/\w.same D/\True)/\m.same m/\n.same n/\o.same o/\(b [E,w] 40 2 false).same y/\(c j [] 3 true).same (c j z 3 true)/\(b [f 4 0 1,w] 40 2 false).same (b [f 4 z.length 1,a (lJ p z)] 40 2 false)/\True)/\d<=d/\d<=k)/\∀(x:Int),let q:=x+(1:Int);let F:=a q;let A:=kz (vL (fL l)) q.toNat;let B:=bj (fL l) x.toNat sF.dflt;let G:=(B.fst,B.snd.fst,B.snd.snd);let h:=kz (vL (fL l)) x.toNat;let H:=h.length+1;let I:=lJ p h+(bj p.offers x.toNat bp.off.dflt).value;let J:=λ(u:bq) (u_1:Nat) (u_2:Int) ↦cu .i64 q/\((r.same r/\s.same s/\t.same t/\(e sF (fL l)).same (e sF (fL l))/\v.same v/\F.same F/\True)/\m.same m/\n.same n/\o.same o/\y.same y/\u.same (c j A 3 true)/\(b [f 4 u_1 1,a u_2] 40 2 false).same (b [f 4 A.length 1,a (lJ p A)] 40 2 false)/\True)/\(d<=q/\q<=k)/\(k - q).toNat<(k - x).toNat;let K:=λ(u:Bool) ↦decide (d<jL (bV G))=u;d<=x/\x<=k->(decide (x<k)=true->d<=x/\x<C/\x.toNat<(fL l).length/\cE G/\(K true->1=1/\h.length=h.length/\H*8<=140737488355328/\H<=1000000000000/\d<=x/\x<(↑p.offers.length:Int)/\x.toNat<p.offers.length/\cu .i64 I/\J (c j (h++[x]) 3 true) (h++[x]).length I)/\(K false->J (c j h 3 true) h.length (lJ p h)))/\(decide (x<k)=false->h.length=h.length/\h.length=h.length/\h.length=h.length/\(γR [e j h,a (lJ p h)]).same (γR [e j (eI (vL (fL l))),a (cM (γb (oI p) (eI (vL (fL l)))))])/\m.same m/\n.same n/\o.same o/\True)) (by kernel_rfl) ?_;simp only[vcs];have lI:∀{x y:List Int},x=y->(bq.row (.i .i64) x 3 true).same (bq.row (.i .i64) y 3 true):=by rintro _ _ rfl;rfl
  have hcI:∀{x y:List Int} {v w:Int},x=y->v=w->(bq.cells [.ow 4 x.length 1,.si .i64 v] 40 2 false).same (bq.cells [.ow 4 y.length 1,.si .i64 w] 40 2 false):=by rintro _ _ _ _ rfl rfl;rfl
  refine⟨⟨⟨rfl,lI rfl,rfl⟩,by omega,by omega⟩,?_⟩;rintro i ⟨i0,i1⟩;have hb:=@UK p (vL (fL l)) i.toNat hc (by omega);refine⟨λhi=>?_,λhi=>?_⟩
  ·have hv:bj (fL l) i.toNat sF.dflt=bu (bj l i.toNat 0):=jw (by omega);have hq:=hz _ (dn (d:=0) (show i.toNat<l.length by omega));have ho:=(kr hc (i:=i) (by omega)).2.2.2;have hval:(bj p.offers i.toNat bp.off.dflt).value=(oI p i).value:=rfl;have hs:=@UJ (vL (fL l)) i i0;rw[hv,hval];rw[kM] at hs hb ⊢;simp only[jM,eD,uH];refine⟨i0,hi,by omega,dN hq (by omega),λh=>?_,λh=>?_⟩
   ·rw[if_pos h] at hs;rw[hs,UL];refine⟨?_,?_,i0,?_,?_,?_,?_,⟨lI rfl,hcI rfl rfl⟩,?_,?_⟩<;>omega
   ·rw[if_neg h] at hs;rw[hs];refine⟨?_,⟨lI rfl,hcI rfl rfl⟩,?_,?_⟩<;>omega
  ·rw[show i.toNat=(vL (fL l)).length by rw[kM];omega];rfl;|some m=>
  refine bQ (let a:=γd .i64;let b:=bq.cells;let c:=bq.row;let d:=(0:Int);let e:=Ω;let f:=γZ;let g:=γQ;let t:=g 0 0 28;let v:=g 4 0 2;let w:=g 6 0 2;let E:=(↑(fL l).length:Int);let k:=(↑(fL l).length:Int);let y:=a k;let z:=γB .i64 0;let F:=a 0;let j:=bp.i .i64;let n:=b [a p.supply.a0,a p.supply.a1,a p.supply.a2,a p.supply.a3,a p.supply.a4,a p.supply.a5,a p.opn.a0,a p.opn.a1,a p.opn.a2,a p.opn.a3,a p.opn.a4,a p.opn.a5,a p.cls.a0,a p.cls.a1,a p.cls.a2,a p.cls.a3,a p.cls.a4,a p.cls.a5,e j p.classes,e bp.off p.offers,e j ch,a val,γA found,SV.fn (Fn.func 116) [] [g 1 0 1],f 2 k1 5,f 3 k2 1,a most,a err] 126 28 false;let o:=b [a m] 2 1 false;let q:=c bF prf 108 true;let r:=c j fx 3 true;let G:=SV.sc (Value.slice none 0 0);let A:=b [G,F] 40 2 false;let B:=kz (vL (fL l)) 0;(((t.same t/\v.same v/\w.same w/\(e sF (fL l)).same (e sF (fL l))/\(a E).same y/\z.same F/\True)/\n.same n/\o.same o/\q.same q/\r.same r/\(b [G,z] 40 2 false).same A/\(c j [] 3 true).same (c j B 3 true)/\(b [f 5 0 1,z] 40 2 false).same (b [f 5 B.length 1,a (lJ p B)] 40 2 false)/\True)/\d<=d/\d<=k)/\∀(x:Int),let s:=x+(1:Int);let H:=a s;let C:=kz (vL (fL l)) s.toNat;let D:=bj (fL l) x.toNat sF.dflt;let I:=(D.fst,D.snd.fst,D.snd.snd);let h:=kz (vL (fL l)) x.toNat;let J:=h.length+1;let K:=lJ p h+(bj p.offers x.toNat bp.off.dflt).value;let L:=λ(u:bq) (u_1:Nat) (u_2:Int) ↦cu .i64 s/\((t.same t/\v.same v/\w.same w/\(e sF (fL l)).same (e sF (fL l))/\y.same y/\H.same H/\True)/\n.same n/\o.same o/\q.same q/\r.same r/\A.same A/\u.same (c j C 3 true)/\(b [f 5 u_1 1,a u_2] 40 2 false).same (b [f 5 C.length 1,a (lJ p C)] 40 2 false)/\True)/\(d<=s/\s<=k)/\(k - s).toNat<(k - x).toNat;let M:=λ(u:Bool) ↦decide (d<jL (bV I))=u;d<=x/\x<=k->(decide (x<k)=true->d<=x/\x<E/\x.toNat<(fL l).length/\cE I/\(M true->1=1/\h.length=h.length/\J*8<=140737488355328/\J<=1000000000000/\d<=x/\x<(↑p.offers.length:Int)/\x.toNat<p.offers.length/\cu .i64 K/\L (c j (h++[x]) 3 true) (h++[x]).length K)/\(M false->L (c j h 3 true) h.length (lJ p h)))/\(decide (x<k)=false->h.length=h.length/\h.length=h.length/\h.length=h.length/\(γR [e j h,a (lJ p h)]).same (γR [e j (eI (vL (fL l))),a (cM (γb (oI p) (eI (vL (fL l)))))])/\n.same n/\o.same o/\q.same q/\r.same r/\True)) (by kernel_rfl) ?_;simp only[vcs];have lI:∀{x y:List Int},x=y->(bq.row (.i .i64) x 3 true).same (bq.row (.i .i64) y 3 true):=by rintro _ _ rfl;rfl
  have hcI:∀{x y:List Int} {v w:Int},x=y->v=w->(bq.cells [.ow 5 x.length 1,.si .i64 v] 40 2 false).same (bq.cells [.ow 5 y.length 1,.si .i64 w] 40 2 false):=by rintro _ _ _ _ rfl rfl;rfl
  refine⟨⟨⟨rfl,lI rfl,rfl⟩,by omega,by omega⟩,?_⟩;rintro i ⟨i0,i1⟩;have hb:=@UK p (vL (fL l)) i.toNat hc (by omega);refine⟨λhi=>?_,λhi=>?_⟩
  ·have hv:bj (fL l) i.toNat sF.dflt=bu (bj l i.toNat 0):=jw (by omega);have hq:=hz _ (dn (d:=0) (show i.toNat<l.length by omega));have ho:=(kr hc (i:=i) (by omega)).2.2.2;have hval:(bj p.offers i.toNat bp.off.dflt).value=(oI p i).value:=rfl;have hs:=@UJ (vL (fL l)) i i0;rw[hv,hval];rw[kM] at hs hb ⊢;simp only[jM,eD,uH];refine⟨i0,hi,by omega,dN hq (by omega),λh=>?_,λh=>?_⟩
   ·rw[if_pos h] at hs;rw[hs,UL];refine⟨?_,?_,i0,?_,?_,?_,?_,⟨lI rfl,hcI rfl rfl⟩,?_,?_⟩<;>omega
   ·rw[if_neg h] at hs;rw[hs];refine⟨?_,⟨lI rfl,hcI rfl rfl⟩,?_,?_⟩<;>omega
  ·rw[show i.toNat=(vL (fL l)).length by rw[kM];omega];rfl
def K0:bM:=⟨105,List bL,.one (dG sF),pA,λx=> .bI [.si .i64 ((jP (vL x)).getD 0),.sb (jP (vL x)).isSome]⟩
def kA:Option (Int×Rat)->bL
 |none=>(false,([],[]))
 |some (_,q)=>bu q
def wI:Option (Int×Rat)->Int
 |none=>0
 |some (i,_)=>i
def afq (x:List bL):Nat->cG
 |6=> .inv Int (λi=>⟨[(4,.ptr 0 0 3),(6,.ptr 1 0 3),(7,.ptr 2 0 2),(8,.ptr 3 0 3),(17,.row sF x),(18,.si .i64 x.length),(19,.si .i64 i)],
   [.cells [.sb (bu (fU false 1 2)).1,.row (.i .u32) (bu (fU false 1 2)).2.1,.row (.i .u32) (bu (fU false 1 2)).2.2] 177 3 false,
    .cells [.sb (bu ((1:Int):Rat)).1,.row (.i .u32) (bu ((1:Int):Rat)).2.1,.row (.i .u32) (bu ((1:Int):Rat)).2.2] 177 3 false,
    .cells [.sb (jz (vL x) i.toNat).isSome,.si .i64 (wI (jz (vL x) i.toNat))] 237 2 false,
    .cells [.sb (kA (jz (vL x) i.toNat)).1,.row (.i .u32) (kA (jz (vL x) i.toNat)).2.1,.row (.i .u32) (kA (jz (vL x) i.toNat)).2.2] 177 3 false,.dead,.dead]⟩)
   (λs=>iS s 19) (λi=>0<=i/\i<=x.length) (λi=>(x.length - i).toNat) λ_ _=> .look
 |_=> .look
theorem afr {q:Rat} {k:Nat} (h:Sz k q):Sz k (mU q):=by
 grind[mU,AL]
theorem UM:mkRat 1 2=(1 / 2:Rat):=by
 grind[Rat.mkRat_eq_div]
theorem UN:Sz 1 (1 / 2:Rat):=by
 grind[UM,AI]
theorem K1 {q:Rat} (h:Sz 1000 q):Sz 1002 (q - 1 / 2):=by
 rw[Rat.sub_eq_add_neg];exact AK h (j:=1) (AL UN)
theorem h447:Holds Tryz.prog K0:=by
 refine cH (L:=[KR,oz,uD,sX,yk,AQ,yj]) K0 afq (by simpa using⟨h451,h94,h407,h99,h97,h95,h130⟩) ?_;rintro(x:List bL) ⟨l,hx,hl,hz⟩;refine bQ (let a:=bq.cells;let b:=Ω;let c:=(0:Int);let d:=γd .i64;let e:=(9223372036854775807:Int);let f:=γA;let g:=(-9223372036854775808:Int);let h:=(1:Int);let j:=cu .i64;let k:=γQ;let l:=δh false;let m:=(2:Int);let n:=bp.i .u32;let r:=k 0 0 3;let s:=k 1 0 3;let t:=k 2 0 2;let v:=k 3 0 3;let o:=(↑x.length:Int);let w:=d o;let R:=γB .i64 0;let y:=fU false h m;let z:=κ h;let F:=jz (vL x) 0;let B:=a [f (bu y).fst,b n (bu y).snd.fst,b n (bu y).snd.snd] 177 3 false;let C:=a [f (bu z).fst,b n (bu z).snd.fst,b n (bu z).snd.snd] 177 3 false;let S:=((bu z).fst,(bu z).snd.fst,(bu z).snd.snd);let T:=((bu y).fst,(bu y).snd.fst,(bu y).snd.snd);let U:=λ(u:Rat) ↦(a [f (bu u).fst,b n (bu u).snd.fst,b n (bu u).snd.snd] 177 3 false).same (a [f (bu u).fst,b n (bu u).snd.fst,b n (bu u).snd.snd] 177 3 false);((g<=h/\h<=e)/\c<m/\m<=e)/\(g<=h/\h<=e)/\0=0/\0=0/\(((r.same r/\s.same s/\t.same t/\v.same v/\(b sF x).same (b sF x)/\(d (↑x.length:Int)).same w/\R.same (d 0)/\True)/\U y/\U z/\(a [l,R] 237 2 false).same (a [f F.isSome,d (wI F)] 237 2 false)/\(a [l,b n [],b n []] 177 3 false).same (a [f (kA F).fst,b n (kA F).snd.fst,b n (kA F).snd.snd] 177 3 false)/\bq.dead.same bq.dead/\bq.dead.same bq.dead/\True)/\c<=c/\c<=o)/\∀(x_1:Int),let p:=x_1+h;let D:=d p;let G:=jz (vL x) p.toNat;let N:=a [f G.isSome,d (wI G)] 237 2 false;let A:=bj x x_1.toNat sF.dflt;let H:=(A.fst,A.snd.fst,A.snd.snd);let E:=bu (bV H - bV T);let I:=(E.fst,E.snd.fst,E.snd.snd);let V:=(bu (-bV I)).fst;let K:=(bu (-bV I)).snd;let O:=a [f (kA G).fst,b n (kA G).snd.fst,b n (kA G).snd.snd] 177 3 false;let q:=jz (vL x) x_1.toNat;let W:=d (wI q);let X:=(V,K.fst,K.snd);let L:=((kA q).fst,(kA q).snd.fst,(kA q).snd.snd);let M:=q.isSome==false&&(decide (wI q=c)&&true);let Y:=j p/\((r.same r/\s.same s/\t.same t/\v.same v/\(b sF x).same (b sF x)/\w.same w/\D.same D/\True)/\B.same B/\C.same C/\(a [δh true,d x_1] 237 2 false).same N/\(a [f V,b n K.fst,b n K.snd] 177 3 false).same O/\bq.dead.same bq.dead/\bq.dead.same bq.dead/\True)/\(c<=p/\p<=o)/\(o - p).toNat<(o - x_1).toNat;let Z:=j p/\((r.same r/\s.same s/\t.same t/\v.same v/\(b sF x).same (b sF x)/\w.same w/\D.same D/\True)/\B.same B/\C.same C/\(a [δh true,d x_1] 237 2 false).same N/\(a [f E.fst,b n E.snd.fst,b n E.snd.snd] 177 3 false).same O/\bq.dead.same bq.dead/\bq.dead.same bq.dead/\True)/\(c<=p/\p<=o)/\(o - p).toNat<(o - x_1).toNat;let J:=j p/\((r.same r/\s.same s/\t.same t/\v.same v/\(b sF x).same (b sF x)/\w.same w/\D.same D/\True)/\B.same B/\C.same C/\(a [f q.isSome,W] 237 2 false).same N/\(a [f (kA q).fst,b n (kA q).snd.fst,b n (kA q).snd.snd] 177 3 false).same O/\bq.dead.same bq.dead/\bq.dead.same bq.dead/\True)/\(c<=p/\p<=o)/\(o - p).toNat<(o - x_1).toNat;let P:=cE I;let Q:=cE H;let a0:=λ(u:Bool) ↦decide (iR (bV X) (bV L)<c)=u;let a1:=λ(u:Bool) ↦decide (iR (bV I) (bV L)<c)=u;let a2:=λ(u:Bool) ↦decide (jL (bV I)<c)=u;let a3:=λ(u:Bool) ↦decide (c<=iR (bV H) (bV S))=u;let a4:=λ(u:Bool) ↦decide (jL (bV H)<=c)=u;let a5:=λ(u:Bool) ↦(!okF H)=u;c<=x_1/\x_1<=o->(decide (x_1<o)=true->c<=x_1/\x_1<(↑x.length:Int)/\x_1.toNat<x.length/\((bA A.snd.fst/\bA A.snd.snd)/\γc A.snd.fst<=10000000/\γc A.snd.snd<=10000000)/\(a5 true->J)/\(a5 false->Q/\(a4 true->J)/\(a4 false->(Q/\cE S)/\(a3 true->J)/\(a3 false->(Q/\cE T)/\P/\(a2 true->P/\(M=true->Y)/\(M=false->(cE X/\cE L)/\(a0 true->Y)/\(a0 false->J)))/\(a2 false->(M=true->Z)/\(M=false->(P/\cE L)/\(a1 true->Z)/\(a1 false->J)))))))/\(decide (x_1<o)=false->(SV.bI [W,f q.isSome]).same (SV.bI [d ((jP (vL x)).getD c),f (jP (vL x)).isSome]))) (by kernel_rfl) ?_;simp only[vcs];subst hx;rw[fF] at hl;have hh:fU false 1 2=1 / 2:=UM;simp only[kM,fF,hh];have hbr:∀{b c:Option (Int×Rat)},b=c->(bq.cells [.sb b.isSome,.si .i64 (wI b)] 237 2 false).same (bq.cells [.sb c.isSome,.si .i64 (wI c)] 237 2 false):=by rintro _ _ rfl;rfl
 have hbd:∀{b c:Option (Int×Rat)},b=c->(bq.cells [.sb (kA b).1,.row (.i .u32) (kA b).2.1,.row (.i .u32) (kA b).2.2] 177 3 false).same (bq.cells [.sb (kA c).1,.row (.i .u32) (kA c).2.1,.row (.i .u32) (kA c).2.2] 177 3 false):=by rintro _ _ rfl;rfl
 have f1:cE (bu (κ 1)):=dN (k:=1) (by unfold Sz;decide) (by omega);have f2:cE (bu (1 / 2)):=dN UN (by omega);refine⟨⟨⟨by omega,by omega⟩,by omega,by omega⟩,⟨by omega,by omega⟩,⟨⟨rfl,rfl⟩,by omega,by omega⟩,?_⟩;rintro i ⟨i0,i1⟩;refine⟨λhi=>?_,λhi=>?_⟩
 ·have hv:bj (fL l) i.toNat sF.dflt=bu (bj l i.toNat 0):=jw (by omega);have hq:=hz _ (dn (d:=0) (show i.toNat<l.length by omega));have hs:jz l (i+1).toNat=if 0<bj l i.toNat 0/\bj l i.toNat 0<1 then(match jz l i.toNat with
   |none=>some (i,mU (bj l i.toNat 0 - 1 / 2))
   |some (j,d)=>if mU (bj l i.toNat 0 - 1 / 2)<d then some (i,mU (bj l i.toNat 0 - 1 / 2)) else some (j,d)) else jz l i.toNat:=by
   rw[show(i+1).toNat=i.toNat+1 by omega];conv=>lhs;unfold jz
   rw[εA i0];cases jz l i.toNat<;>rfl
  have hbs:∀j d,jz l i.toNat=some (j,d)->cE (bu d):=λj d h=>by
   obtain⟨h1,h2,h3⟩:=KE h;rw[h3];exact dN (afr (K1 (hz _ (dn (by omega))))) (by omega)
  rw[hv,hs];generalize bj l i.toNat 0=q at*;generalize jz l i.toNat=B at*;simp only[jM,eD];obtain⟨_,⟨u1,u2,u3⟩,⟨u4,u5,u6⟩⟩:=l9 q;obtain⟨m1,m2⟩:=pq hq;have hok:=E3 q;have fq:cE (bu q):=dN hq (by omega);have fd:cE (bu (q - 1 / 2)):=dN (K1 hq) (by omega);have fn:cE (bu (-(q - 1 / 2))):=dN (AL (K1 hq)) (by omega);refine⟨i0,hi,by omega,⟨⟨u1,u4⟩,by omega,by omega⟩,λh=>absurd hok (by rw[show okF (bu q)=false from h];simp),λ_=>⟨fq,λh1=>?_,λh1=>⟨⟨fq,f1⟩,λh2=>?_,λh2=>?_⟩⟩⟩
  ·rw[if_neg (λh=>by have:=uH.2 h.1;omega)];exact⟨by omega,⟨hbr rfl,hbd rfl⟩,by omega⟩
  ·rw[if_neg (λh=>by have:=tg.2 h.2;have e:iR q (κ 1)=iR q 1:=rfl;omega)];exact⟨by omega,⟨hbr rfl,hbd rfl⟩,by omega⟩
  ·have hp:0<q/\q<1:=⟨uH.1 (by omega),tg.1 (by have e:iR q (κ 1)=iR q 1:=rfl;omega)⟩;rw[if_pos hp];refine⟨⟨fq,f2⟩,fd,λh3=>?_,λh3=>?_⟩
   ·have ha:mU (q - 1 / 2)= -(q - 1 / 2):=by unfold mU;rw[if_pos (A1.1 h3)]
    rw[ha];cases B with
    |none=>exact⟨fd,λ_=>⟨by omega,⟨rfl,rfl⟩,by omega⟩,λh=>absurd h (by decide)⟩;|some b=>
     obtain⟨j,d⟩:=b;dsimp only;refine⟨fd,λh=>absurd h.1 ζh,λ_=>⟨⟨fn,hbs j d rfl⟩,λh5=>?_,λh5=>?_⟩⟩
     ·rw[if_pos (tg.1 (by rw[<-eD d];exact h5))];exact⟨by omega,⟨rfl,rfl⟩,by omega⟩
     ·rw[if_neg (λh=>h5 (by rw[<-eD d] at h;exact tg.2 h))];exact⟨by omega,⟨hbr rfl,hbd rfl⟩,by omega⟩
   ·have ha:mU (q - 1 / 2)=q - 1 / 2:=by unfold mU;rw[if_neg (λh=>h3 (A1.2 h))]
    rw[ha];cases B with
    |none=>exact⟨λ_=>⟨by omega,⟨rfl,rfl⟩,by omega⟩,λh=>absurd h (by decide)⟩;|some b=>
     obtain⟨j,d⟩:=b;dsimp only;refine⟨λh=>absurd h.1 ζh,λ_=>⟨⟨fd,hbs j d rfl⟩,λh5=>?_,λh5=>?_⟩⟩
     ·rw[if_pos (tg.1 (by rw[<-eD d];exact h5))];exact⟨by omega,⟨rfl,rfl⟩,by omega⟩
     ·rw[if_neg (λh=>h5 (by rw[<-eD d] at h;exact tg.2 h))];exact⟨by omega,⟨hbr rfl,hbd rfl⟩,by omega⟩
 ·rw[show i.toNat=l.length by omega];unfold jP;cases jz l l.length<;>exact⟨rfl,rfl⟩
noncomputable def wJ (n:Nat):dH:=E0 72 Int (.one (eU .i64)) (λx a=>ft x/\(0<=a/\a<x.prf.length)/\nF x.fx<n) (λ_ _=> .bI []) λx a=>x.upd (dF x.p (cz x.en) x.most (nF x.fx) x.s a x.fx)
noncomputable def E5 (n:Nat):dH:=E0 106 (Int×Int×Int) (.cons (eU .i64) (.cons (eU .i64) (.one (eU .i64)))) (λx a=>ft x/\(0<=a.1/\a.1<x.prf.length)/\(0<=a.2.1/\a.2.1<x.fx.length)/\bj x.fx a.2.1.toNat 0=0/\(a.2.2=1\/a.2.2= -1)/\nF (x.fx.set a.2.1.toNat a.2.2)<n) (λ_ _=> .bI []) λx a=>x.upd (dF x.p (cz x.en) x.most (nF (x.fx.set a.2.1.toNat a.2.2)) x.s a.1 (x.fx.set a.2.1.toNat a.2.2))
theorem afs {L:List bM} {W:List dH} (c:dH) (F:fz) (Λ:c.α->Nat->cG) (i:∀c∈W,ef Tryz.prog c) (e:∀c∈L,Holds Tryz.prog c)
  
  (h:∀a,c.dom a->Vc (En (om L (gP W) rD rE jK) (Λ a) F (c.put a) (c.st a) λv s=>v.same (c.res a)/\kH s (c.out a))) (j:jK c.f=some F:=by kernel_rfl) (b:∀a,(c.put a).length=F.params:=by intro _;kernel_rfl) (d:oo c.f W=none:=by kernel_rfl):ef Tryz.prog c:=
 λa g=>acH c sN i e j b a d (h a g).out
theorem ft.set {x:dJ} (h:ft x) {k:Nat} {d:Int} (a:d=1\/d= -1):ft ⟨x.p,x.ch,x.val,x.found,x.en,x.k1,x.k2,x.most,x.err,x.prf,x.fx.set k d⟩:=
 ⟨⟨h.f.c,by rw[Ψ];exact h.f.l,Ut h.f.r (by omega)⟩,h.k1,by rw[Ψ];exact h.k2,h.v0,h.v1,h.m0,h.m1,h.l,h.c⟩
theorem aft {f:List Int} {k:Nat} {d:Int} (b:k<f.length) (a:bj f k 0=0):(f.set k d).set k 0=f:=by
 rw[cT b] at a;rw[List.set_set,<-a,List.set_getElem_self]
theorem afu {n:Nat} (hV:ef Tryz.prog (wJ n)):ef Tryz.prog (E5 n):=by
 refine afs (L:=[]) (W:=[wJ n]) (E5 n) (fG 106) lk (by simpa using hV) (by simp) ?_;rintro⟨⟨p,ch,val,found,en,k1,k2,most,err,prf,fx⟩,a,k,d⟩ ⟨hok,ha,hk,h0,hd,hn⟩;simp only at hok ha hk h0 hd hn;have e2:k2=fx.length:=hok.k2;have hb:=aft (d:=d) (show k.toNat<fx.length by omega) h0;have hr:∀{x y:List Int},x=y->(bq.row (.i .i64) x 3 true).same (bq.row (.i .i64) y 3 true):=by rintro _ _ rfl;rfl
 cases en with
 |none=>
  have hs:=hok.set (k:=k.toNat) hd;refine bQ (let b:=γd .i64;let c:=(0:Int);let e:=bq.row;let f:=Ω;let g:=fx.set k.toNat d;let j:=bp.i .i64;let h:=dF p (cz none) most (nF g) (dc.mk ch val found prf err) a g;let l:=bq.cells [b p.supply.a0,b p.supply.a1,b p.supply.a2,b p.supply.a3,b p.supply.a4,b p.supply.a5,b p.opn.a0,b p.opn.a1,b p.opn.a2,b p.opn.a3,b p.opn.a4,b p.opn.a5,b p.cls.a0,b p.cls.a1,b p.cls.a2,b p.cls.a3,b p.cls.a4,b p.cls.a5,f j p.classes,f bp.off p.offers,f j h.ch,b h.val,γA h.found,SV.fn (Fn.func 70) [] [],γZ 1 h.prf.length 5,γZ 2 k2 1,b most,b h.err] 126 28 false;let m:=e bF h.prf 108 true;k2=fx.length/\c<=k/\k<(↑fx.length:Int)/\k2=fx.length/\k.toNat<fx.length/\(ft (dJ.mk p ch val found none k1 k2 most err prf g)/\(c<=a/\a<(↑prf.length:Int))/\nF g<n)/\k2=g.length/\c<=k/\k<(↑g.length:Int)/\k2=g.length/\k.toNat<g.length/\(SV.bI []).same (SV.bI [])/\l.same l/\m.same m/\(e j (g.set k.toNat c) 3 true).same (e j fx 3 true)/\True) (by kernel_rfl) ?_;conv=>zeta
  rw[Ψ];exact⟨e2,hk.1,hk.2,e2,by omega,⟨hs,ha,hn⟩,e2,hk.1,hk.2,e2,by omega,rfl,rfl,rfl,hr hb,trivial⟩;|some m=>
  have hs:=hok.set (k:=k.toNat) hd;refine bQ (let b:=γd .i64;let c:=(0:Int);let e:=bq.row;let f:=Ω;let g:=fx.set k.toNat d;let j:=bp.i .i64;let h:=dF p (cz (some m)) most (nF g) (dc.mk ch val found prf err) a g;let l:=bq.cells [b p.supply.a0,b p.supply.a1,b p.supply.a2,b p.supply.a3,b p.supply.a4,b p.supply.a5,b p.opn.a0,b p.opn.a1,b p.opn.a2,b p.opn.a3,b p.opn.a4,b p.opn.a5,b p.cls.a0,b p.cls.a1,b p.cls.a2,b p.cls.a3,b p.cls.a4,b p.cls.a5,f j p.classes,f bp.off p.offers,f j h.ch,b h.val,γA h.found,SV.fn (Fn.func 116) [] [γQ 1 0 1],γZ 2 h.prf.length 5,γZ 3 k2 1,b most,b h.err] 126 28 false;let o:=bq.cells [b m] 2 1 false;let q:=e bF h.prf 108 true;k2=fx.length/\c<=k/\k<(↑fx.length:Int)/\k2=fx.length/\k.toNat<fx.length/\(ft (dJ.mk p ch val found (some m) k1 k2 most err prf g)/\(c<=a/\a<(↑prf.length:Int))/\nF g<n)/\k2=g.length/\c<=k/\k<(↑g.length:Int)/\k2=g.length/\k.toNat<g.length/\(SV.bI []).same (SV.bI [])/\l.same l/\o.same o/\q.same q/\(e j (g.set k.toNat c) 3 true).same (e j fx 3 true)/\True) (by kernel_rfl) ?_;conv=>zeta
  rw[Ψ];exact⟨e2,hk.1,hk.2,e2,by omega,⟨hs,ha,hn⟩,e2,hk.1,hk.2,e2,by omega,rfl,rfl,rfl,rfl,hr hb,trivial⟩
theorem UO {p:bn} {en:Int->Bool} {most:Int} {f:List Int} (j:eL p f) {c b:dc->Int->List Int->dc} {s:dc} {a:Int}
  (h:∀k d:Int,(0<=k/\k<f.length)->bj f k.toNat 0=0->(d=1\/d= -1)->∀s a,c s a (f.set k.toNat d)=b s a (f.set k.toNat d)):fJ p en most c s a f=fJ p en most b s a f:=by
 unfold fJ;split;·rfl
 split;·rfl
 rename_i o;have l:hJ p f=true:=by simp_all
 split;·rfl
 split;·rfl
 rename_i k n;split;·rfl
 obtain⟨e,i,g⟩:=td n;rw[rP] at e;have m:bj f k.toNat 0=0:=tc (j.ok l) j.r (by omega) i g;simp_all
theorem Bw {p:bn} {en:Int->Bool} {most:Int} {f:List Int} (e:eL p f) {s:dc} {a:Int}:dF p en most (nF f) s a f=fJ p en most (λs a g=>dF p en most (nF g) s a g) s a f:=by
 have j:∀k d:Int,(0<=k/\k<f.length)->bj f k.toNat 0=0->(d=1\/d= -1)->nF f=nF (f.set k.toNat d)+1:=λk d c b i=>mq c b (by omega);cases h:nF f with
 |zero=>exact UO e λk d c b i=>by grind;|succ n=>
  refine UO e λk d c b i s a=>?_;grind
section
variable {p:bn} {en:Int->Bool} {most:Int} {f:List Int} {s O:dc} {a k:Int}
theorem By (b:eL p f) (h:s.err≠0\/s.found=true):dF p en most (nF f) s a f=s:=by
 simp_all[Bw,fJ]
theorem UP (c:eL p f) (h:¬(s.err≠0\/s.found=true)) (b:hJ p f=false):dF p en most (nF f) s a f={s with prf:=s.prf.set a.toNat EW}:=by
 simp_all[Bw,fJ]
theorem yU (c:eL p f) (h:¬(s.err≠0\/s.found=true)) (b:hJ p f=true) (d:dq p en s f=O) (e:jg p f<((O.val+1:Int):Rat)):dF p en most (nF f) s a f={O with prf:=O.prf.set a.toNat (qU p f)}:=by
 simp_all[Bw,fJ]
theorem pZ (b:eL p f) (h:¬(s.err≠0\/s.found=true)) (d:hJ p f=true) (c:dq p en s f=O) (g:¬jg p f<((O.val+1:Int):Rat)) (e:jP (dD p f)=none\/most<(O.prf.length:Int)+2):dF p en most (nF f) s a f={O with err:=12}:=by
 subst c;rw[Bw b];unfold fJ;grind
theorem yV (d:eL p f) (h:¬(s.err≠0\/s.found=true)) (b:hJ p f=true) (g:dq p en s f=O) (i:¬jg p f<((O.val+1:Int):Rat)) (c:jP (dD p f)=some k) (e:¬most<(O.prf.length:Int)+2):
  dF p en most (nF f) s a f=dF p en most (nF (f.set k.toNat (-1))) (dF p en most (nF (f.set k.toNat 1)) (gG O a k) (O.prf.length+1) (f.set k.toNat 1)) O.prf.length (f.set k.toNat (-1)):=by
 simp_all[Bw,fJ,if_neg]
end
theorem ft.UQ {x:dJ} (h:ft x):ft (x.upd (dq x.p (cz x.en) x.s x.fx)):=by
 obtain⟨d,i,b,a,g⟩:=@EY x.p (cz x.en) x.s x.fx;obtain⟨m,j,k⟩:=Uu h.f;have b:x.val<=(dq x.p (cz x.en) x.s x.fx).val:=b;have a:(dq x.p (cz x.en) x.s x.fx).val=x.val\/(dq x.p (cz x.en) x.s x.fx).val=(pz x.p x.fx).value:=a;have n:=h.v0;have o:=h.v1;refine⟨h.f,rfl,h.k2,?_,?_,h.m0,h.m1,?_,?_⟩
 ·show 0<=(dq x.p (cz x.en) x.s x.fx).val;omega
 ·show(dq x.p (cz x.en) x.s x.fx).val<=_;omega
 ·show(dq x.p (cz x.en) x.s x.fx).prf.length<=_;rw[d];exact h.l
 ·show(dq x.p (cz x.en) x.s x.fx).ch.length<=_;rcases g with e|e;·rw[e];exact h.c
  ·rw[e];omega
theorem ft.vis {x:dJ} (h:ft x) {f:List Int} (i:eL x.p f) {n:Nat} {a:Int}:ft (x.upd (dF x.p (cz x.en) x.most n x.s a f)):=by
 obtain⟨m,g,b,d,k,q⟩:=@rQ x.p (cz x.en) x.most n x.s a f i;have b:x.val<=(dF x.p (cz x.en) x.most n x.s a f).val:=b;have d:(dF x.p (cz x.en) x.most n x.s a f).val=x.val\/(dF x.p (cz x.en) x.most n x.s a f).val<=160000000:=d;have r:=h.v0;have t:=h.v1;have o:=h.m1;have j:=h.l;refine⟨h.f,rfl,h.k2,?_,?_,h.m0,h.m1,?_,?_⟩
 ·show 0<=(dF x.p (cz x.en) x.most n x.s a f).val;omega
 ·show(dF x.p (cz x.en) x.most n x.s a f).val<=_;omega
 ·show(dF x.p (cz x.en) x.most n x.s a f).prf.length<=_;rcases g with e|e;·omega
  ·rw[e];exact j
 ·show(dF x.p (cz x.en) x.most n x.s a f).ch.length<=_;rcases k with e|e;·rw[e];exact h.c
  ·omega
theorem ft.spl {x:dJ} (h:ft x) (b:¬x.most<(x.prf.length:Int)+2) {k:Nat} {l:List dj} (a:k=l.length) (d:l.length=x.prf.length+2):ft ⟨x.p,x.ch,x.val,x.found,x.en,k,x.k2,x.most,x.err,l,x.fx⟩:=
 ⟨h.f,a,h.k2,h.v0,h.v1,h.m0,h.m1,by have:=h.m1;grind,h.c⟩
structure jA where
 left:bC
 opn:bC
 chosen:List Int
 value:Int
 won:List Bool
def nd (c w a:Int):Int:=if c=0\/c≠a then w else 0
def yW (p:bn) (x:Off):bC:=⟨nd p.cls.a0 x.want.a0 (lA p x),nd p.cls.a1 x.want.a1 (lA p x),nd p.cls.a2 x.want.a2 (lA p x),nd p.cls.a3 x.want.a3 (lA p x),nd p.cls.a4 x.want.a4 (lA p x),nd p.cls.a5 x.want.a5 (lA p x)⟩
def bC.pos (b:bC):Bool:=decide (0<=b.a0)&&decide (0<=b.a1)&&decide (0<=b.a2)&&decide (0<=b.a3)&&decide (0<=b.a4)&&decide (0<=b.a5)
def gI (p:bn) (u:jA) (x:Off):bC:=(u.opn.sub (yW p x)).meet (u.left.sub x.want)
def jj (p:bn) (u:jA) (x:Off):Bool:=!(bj u.won x.bX.toNat false)&&((u.left.sub x.want).pos&&(gI p u x).pos)
def fh (p:bn) (u:jA) (i:Int):jA:=⟨u.left.sub (oI p i).want,gI p u (oI p i),u.chosen++[i],u.value+(oI p i).value,u.won.set (oI p i).bX.toNat true⟩
def gU (p:bn) (u:jA) (k:Nat):bn:=⟨u.left,u.opn,p.cls,p.classes,(p.offers.drop k).filter (jj p u)⟩
theorem K2 {x:bC}:dW [x]=x:=by simp[dW]
theorem six {P:Nat->Prop} (f:P 0) (a:P 1) (b:P 2) (d:P 3) (e:P 4) (c:P 5):∀k,k<6->P k:=by
 grind
theorem Bz {a b:bC}:∀k,k<6->(a.sub b).at k=a.at k - b.at k:=six rfl rfl rfl rfl rfl rfl
theorem K3 {a b:bC}:∀k,k<6->(a.add b).at k=a.at k+b.at k:=six rfl rfl rfl rfl rfl rfl
theorem UR {a b:bC}:∀k,k<6->(a.meet b).at k=min (a.at k) (b.at k):=six rfl rfl rfl rfl rfl rfl
theorem K4 {p:bn} {x:Off}:∀k,k<6->(yW p x).at k=nd (p.cls.at k) (x.want.at k) (lA p x):=six rfl rfl rfl rfl rfl rfl
theorem E6 {p:bn} {x:Off}:∀k,k<6->(eV p x).at k=if p.cls.at k=0\/p.cls.at k=lA p x then 0 else x.want.at k:=by
 refine six ?_ ?_ ?_ ?_ ?_ ?_<;>(show oc _ _ _ _ _=_;unfold oc;simp only[show((0:Int)<6)=True by simp,show((1:Int)<6)=True by simp,show((2:Int)<6)=True by simp,show((3:Int)<6)=True by simp,show((4:Int)<6)=True by simp,show((5:Int)<6)=True by simp,true_and];rfl)
theorem US {b:bC}:b.pos=true↔∀k,k<6->0<=b.at k:=by
 unfold bC.pos;simp only[θ,decide_eq_true_eq];constructor
 ·rintro⟨⟨⟨⟨⟨g,a⟩,c⟩,e⟩,f⟩,d⟩;exact six g a c e f d
 ·intro h;exact⟨⟨⟨⟨⟨h 0 (by omega),h 1 (by omega)⟩,h 2 (by omega)⟩,h 3 (by omega)⟩,h 4 (by omega)⟩,h 5 (by omega)⟩
theorem yX {b:bC}:b.ok=true↔∀k,k<6->0<=b.at k/\b.at k<=4:=by
 rw[bC.iP];constructor
 ·rintro⟨g,a,c,e,f,d⟩;exact six g a c e f d
 ·intro h;exact⟨h 0 (by omega),h 1 (by omega),h 2 (by omega),h 3 (by omega),h 4 (by omega),h 5 (by omega)⟩
theorem K5 {p:bn} {k:Nat} (a:k<6):∀L:List Off,(dW (L.map (yW p))).at k=if p.cls.at k=0 then(dW (L.map Off.want)).at k else(dW (L.map (eV p))).at k:=by
 intro L;rw[nB,nB,nB];induction L with
 |nil=>simp;|cons x L b=>
  simp only[ξ,List.sum_cons];rw[b,K4 k a,E6 k a];unfold nd;omega
theorem aiR {p:bn} {k:Nat} (c:k<6) (a:p.cls.at k=0):∀L:List Off,(dW (L.map (eV p))).at k=0:=by
 intro L;rw[nB];induction L with
 |nil=>simp;|cons x L b=>
  simp_all[E6]
theorem E7 {p:bn} (c:Good p) {k:Nat} (d:k<6):∀{L:List Off},(∀x∈L,x∈p.offers)->0<=(dW (L.map Off.want)).at k/\(dW (L.map (eV p))).at k<=(dW (L.map Off.want)).at k/\0<=(dW (L.map (eV p))).at k:=by
 intro L;rw[nB,nB];induction L with
 |nil=>intro _;simp;|cons x L b=>
  intro h;have e:=b λy a=>h y (γs _ a);have f:=(yX.1 (c.2.2.2.2 x (h x (γS ..))).2.2.1 k d);grind[E6]
theorem tj {p:bn} (c:bz p=0) {k:Nat} (b:k<6):0<=p.cls.at k/\p.cls.at k<=4/\0<=p.opn.at k/\p.opn.at k<=p.supply.at k/\(p.cls.at k=0->p.opn.at k=p.supply.at k):=by
 have h:=oq.1 ((uo (uq c).1).2.1 k b);exact⟨h.1,h.2.1,h.2.2.1,h.2.2.2.1,λd=>by rcases h.2.2.2.2 with a|a;exact absurd d a;exact a⟩
theorem K6 {a b:bC}:a.le b=true↔∀k,k<6->a.at k<=b.at k:=⟨λh k _=>DT h k,E1⟩
structure rT (p:bn) (u:jA):Prop where
 f:rR p u.chosen
 v:u.value=cM (cC p u.chosen)
 l:∀k,k<6->u.left.at k=p.supply.at k - (dW ((cC p u.chosen).map Off.want)).at k
 o:∀k,k<6->u.opn.at k=min (p.opn.at k - (dW ((cC p u.chosen).map (yW p))).at k) (u.left.at k)
 wl:u.won.length=8
 w:∀b:Int,0<=b->b<8->bj u.won b.toNat false=decide (b∈(cC p u.chosen).map Off.bX)
theorem K7 {p:bn} {t:List Int} (h:mJ 0 p.offers.length t):∀x∈cC p t,x∈p.offers:=λx a=>by
 obtain⟨i,b,rfl⟩:=Θ.1 a;have:=h.2 i b;grind[dn]
section
variable {p:bn} {u:jA}
theorem K8 {L M:List Off}:gA p (L++M)↔((L.map Off.bX++M.map Off.bX).Nodup/\(∀k,k<6->(dW (L.map Off.want)).at k+(dW (M.map Off.want)).at k<=p.supply.at k)/\∀k,k<6->(dW (L.map (eV p))).at k+(dW (M.map (eV p))).at k<=p.opn.at k):=by
 simp_all[gA,Am,K6,K3]
theorem E8 (h:bz p=0) (c:rT p u) {x:Off} (m:x∈p.offers):jj p u x=true↔gA p (cC p u.chosen++[x]):=by
 have b:=dQ h;have g:=b.2.2.2.2 x m;have r:=b.1;have q:=K7 c.f.1;rw[K8];unfold jj;rw[θ,θ,US,US,δf,c.w _ g.1 (by omega),decide_eq_false_iff_not];simp only[ξ,γv,K2];have d:∀k,k<6->((0<=(u.left.sub x.want).at k/\0<=(gI p u x).at k)↔((dW ((cC p u.chosen).map Off.want)).at k+x.want.at k<=p.supply.at k/\(dW ((cC p u.chosen).map (eV p))).at k+(eV p x).at k<=p.opn.at k)):=λk a=>by
  have A:=c.l k a;have t:=c.o k a;have v:=K5 (p:=p) a (cC p u.chosen);have s:=@K4 p x k a;have n:=@E6 p x k a;have B:=tj h a;have y:=yX.1 g.2.2.1 k a;have j:=E7 b a q;unfold gI;rw[UR k a,Bz k a,Bz k a,s,n];unfold nd;grind
 constructor
 ·rintro⟨z,e,i⟩;refine⟨?_,λk a=>((d k a).1 ⟨e k a,i k a⟩).1,λk a=>((d k a).1 ⟨e k a,i k a⟩).2⟩;rw[γw];refine⟨c.f.2.1,by simp,?_⟩;simp_all
 grind
theorem rT.next (n:bz p=0) (c:rT p u) {i:Int} (D:∀j∈u.chosen,j<i) (C:0<=i/\i<p.offers.length) (s:jj p u (oI p i)=true):rT p (fh p u i):=by
 have m:oI p i∈p.offers:=dn (by omega);have B:=(E8 n c m).1 s;have g:=dQ n;have q:=g.2.2.2.2 _ m;have z:=g.1;have e:cC p (u.chosen++[i])=cC p u.chosen++[oI p i]:=by unfold cC;rw[γa];rfl
 refine⟨⟨⟨?_,?_⟩,?_⟩,?_,?_,?_,?_,?_⟩
 ·show(u.chosen++[i]).Pairwise _;rw[δY];exact⟨c.f.1.1,List.pairwise_singleton _ _,λa A b q=>by simp_all⟩
 ·intro j t;rcases γm.1 t with h|h;·exact c.f.1.2 j h
  simp_all
 ·show gA p (cC p (u.chosen++[i]));simp_all
 ·show u.value+_=cM (cC p (u.chosen++[i]));rw[e,pS,c.v];simp[cM]
 ·intro k d;show(u.left.sub _).at k=_ - (dW ((cC p (u.chosen++[i])).map Off.want)).at k;rw[e,γa,Am,K3 k d,Bz k d,c.l k d];grind[K2]
 ·intro k d;show(gI p u (oI p i)).at k=min (_ - (dW ((cC p (u.chosen++[i])).map (yW p))).at k) ((u.left.sub (oI p i).want).at k);unfold gI;rw[e,γa,Am,K3 k d,UR k d,Bz k d,Bz k d,c.o k d];grind[K2,K4,yX,nd]
 ·show(u.won.set _ true).length=8;rw[Ψ];exact c.wl
 ·intro b y x;show bj (u.won.set (oI p i).bX.toNat true) b.toNat false=decide (b∈(cC p (u.chosen++[i])).map Off.bX);have r:=c.wl;rw[e,γa,iU (by omega)];simp only[ξ,γv];by_cases h:b=(oI p i).bX;·simp_all
  ·rw[if_neg (by omega),c.w b y x];simp_all
theorem K9 (s:bz p=0) (g:rT p u) {k:Nat} {M:List Off} (r:∀x∈M,x∈p.offers) (y:∀x∈M,jj p u x=true):gA (gU p u k) M↔gA p (cC p u.chosen++M):=by
 have d:=dQ s;have C:=d.1;have A:=K7 g.f.1;rw[K8];unfold gA;rw[K6,K6];have D:∀x:Off,eV (gU p u k) x=eV p x:=λx=>rfl;have n:M.map (eV (gU p u k))=M.map (eV p):=rfl;rw[n];have h:∀j,j<6->(((dW (M.map Off.want)).at j<=(gU p u k).supply.at j/\(dW (M.map (eV p))).at j<=(gU p u k).opn.at j)↔((dW ((cC p u.chosen).map Off.want)).at j+(dW (M.map Off.want)).at j<=p.supply.at j/\(dW ((cC p u.chosen).map (eV p))).at j+(dW (M.map (eV p))).at j<=p.opn.at j)):=λj c=>by
  have H:=g.l j c;have F:=g.o j c;have G:=K5 (p:=p) c (cC p u.chosen);have J:=tj s c;have I:=E7 d c A;have K:=E7 d c r;have L:(gU p u k).supply.at j=u.left.at j:=rfl;have E:(gU p u k).opn.at j=u.opn.at j:=rfl;omega
 constructor
 ·rintro⟨z,v,q⟩;refine⟨?_,λj c=>((h j c).1 ⟨v j c,q j c⟩).1,λj c=>((h j c).1 ⟨v j c,q j c⟩).2⟩;rw[γw];refine⟨g.f.2.1,z,?_⟩;intro a B b i e;subst e;obtain⟨x,t,rfl⟩:=Θ.1 i;have m:=y x t;have i:=d.2.2.2.2 x (r x t);unfold jj at m;rw[θ,δf,g.w _ i.1 (by omega),decide_eq_false_iff_not] at m;exact m.1 B
 grind
theorem UT {q:bn} (d:iQ q=0) (h:∀x∈q.offers,ki q x=0) (b:(q.offers.map Off.key).Nodup):bz q=0:=by
 have a:∀(l:List Off) (s:List nW),(∀x∈l,ki q x=0)->(l.map Off.key).Nodup->(∀x∈l,x.key∉s)->jc q s l=0:=by
  intro l;induction l with
  |nil=>intro s _ _ _;rfl;|cons x l c=>
   simp_all[jc]
 simp_all[bz]
theorem E9 (e:bz p=0) (g:rT p u) {k:Nat}:bz (gU p u k)=0:=by
 have v:=dQ e;have C:=K7 g.f.1;have r:=(K8 (p:=p) (L:=cC p u.chosen) (M:=[])).1 (by rw[γ1];exact g.f.2);obtain⟨d,q⟩:=uq e;obtain⟨J,H,P,R,N⟩:=uo d;have s:∀x∈(gU p u k).offers,x∈p.offers/\jj p u x=true:=λx n=>by
  obtain⟨c,w⟩:=γk.1 n;grind
 have F:(dW (([]:List Off).map Off.want))=bC.zero:=rfl;have h:∀j,j<6->0<=u.left.at j/\u.left.at j<=4:=λj a=>by
  have B:=g.l j a;have O:=E7 v a C;have w:=r.2.1 j a;have t:(dW (([]:List Off).map Off.want)).at j=0:=by rw[nB];rfl
  grind[yX]
 have i:∀j,j<6->0<=u.opn.at j/\u.opn.at j<=u.left.at j/\(p.cls.at j=0->u.opn.at j=u.left.at j):=λj a=>by
  have B:=g.l j a;have I:=g.o j a;have D:=K5 (p:=p) a (cC p u.chosen);have m:=tj e a;have w:=r.2.1 j a;have E:=r.2.2 j a;have t:(dW (([]:List Off).map Off.want)).at j=0:=by rw[nB];rfl
  grind
 refine UT ?_ (λx n=>?_) ?_
 ·have Q:(gU p u k).supply.ok=true:=yX.2 h;have G:Dm (gU p u k)=true:=Ag.2 λj a=>oq.2 (by
   have m:=tj e a;have b:=i j a;refine⟨m.1,m.2.1,b.1,b.2.1,?_⟩;by_cases z:p.cls.at j=0;·exact .inr (b.2.2 z)
   ·exact .inl z);have K:(gU p u k).offers.length<=p.offers.length:=by
   have c:=γ6 (jj p u) (p.offers.drop k);rw[εu] at c;show((p.offers.drop k).filter (jj p u)).length<=_;omega
  have y:(gU p u k).classes=p.classes:=rfl;unfold iQ;grind
 ·obtain⟨c,w⟩:=s x n;have b:=q x c;unfold ki at b ⊢;have y:(gU p u k).classes=p.classes:=rfl;rw[y];split at b;·omega
  ·rename_i t;rw[if_neg t];split at b;·cases b
   ·rename_i A;rw[if_neg A];grind[K9,E8,QN]
 ·have c:=(DL (by
   have:=e;unfold bz at this;rw[if_neg (by rw[d];simp)] at this;exact this)).1;exact((List.filter_sublist.trans (List.drop_sublist k _)).map Off.key).nodup c
end
theorem Fa {a b c:Alloc} (h:¬mL a b) (k:¬mL b c):¬mL a c:=λd=>by
 grind[RI,acd]
theorem UU {a b:Alloc}:¬mL a (better a b)/\¬mL b (better a b):=by
 unfold better;split
 ·rename_i h;have h:mL a b:=h;grind[Ec,RI]
 ·rename_i h;exact⟨h,Ec⟩
theorem BA {p:bn}:∀{k:Nat} {i:Int} {a b:Alloc},¬mL b (lD p k i a b)
 |0,_,_,b=>by grind[lD,Ec];|k+1,i,a,b=>by
  simp only[lD];refine Fa ?_ BA;split;·exact Fa UU.2 BA
  ·exact Ec
theorem La {p:bn} (o:Good p):∀{k:Nat} {i:Int} {a b:Alloc} {t:List Int},0<=i->i+k<=p.offers.length->t≠[]->mJ i k t->lB p (a.chosen++t)=true->¬mL ⟨a.chosen++t,a.value+cM (cC p t)⟩ (lD p k i a b)
 |0,i,a,b,t,_,_,r,c,_=>by
  cases t with
  |nil=>simp_all;|cons j t=>
   have:=c.2 j (by simp);omega
 |k+1,i,a,b,t,y,x,r,c,s=>by
  cases t with
  |nil=>simp_all;|cons j t=>
   have w:=c.2 j (by simp);have u:=γu.1 c.1;simp only[lD];by_cases n:j=i
   ·subst n;have g:DI p t:=λm l=>by
     have:=c.2 m (by simp[l]);omega
    have d:lB p (a.chosen++[j]++t)=true:=by simp_all
    have q:lB p (a.chosen++[j])=true:=Qu o g d;rw[if_pos q];refine Fa ?_ BA;rw[sS];simp only[cM];cases t with
    |nil=>
     grind[Fa,BA,UU,cM,cC,lC];|cons h f=>
     have:=La o (k:=k) (i:=j+1) (a:=⟨a.chosen++[j],a.value+lC p j⟩) (b:=better ⟨a.chosen++[j],a.value+lC p j⟩ b) (t:=h::f) (by omega) (by omega) (by simp) ⟨u.2,λm l=>by
      have v:=c.2 m (γs _ l);grind⟩ d;have e:(⟨a.chosen++j::h::f,a.value+((bj p.offers j.toNat bp.off.dflt).value+cM (cC p (h::f)))⟩:Alloc)=⟨a.chosen++[j]++h::f,a.value+lC p j+cM (cC p (h::f))⟩:=by
      simp only[Alloc.mk.injEq,γY,γJ,List.nil_append,lC,true_and];omega
     simp_all
   ·exact La o (by omega) (by omega) (by simp) ⟨c.1,λm l=>by
     have v:=c.2 m l;grind⟩ s
theorem afv {p:bn} (e:Good p) {t:List Int} (d:rR p t):¬mL ⟨t,cM (cC p t)⟩ (cB p):=by
 rw[Ip];by_cases c:t=[]
 ·subst c;exact BA
 ·have:=La e (k:=p.offers.length) (i:=0) (a:=⟨[],0⟩) (b:=⟨[],0⟩) (t:=t) (by omega) (by omega) c d.1 (by simpa[lB] using d.2);simp_all
theorem UW:∀{c a b:List Int},cmpL (c++a) (c++b)=cmpL a b
 |[],_,_=>rfl
 |x::c,a,b=>by
  simp only[γJ,cmpL,Int.lt_irrefl,if_false];exact UW
noncomputable def qV (p:bn) (a:Int) (u:jA) (i:Int):jA:=
 if u.value=a then u else if jj p u (oI p i)=true then(if j5 (gU p (fh p u i) (i+1).toNat) (a - (fh p u i).value) 65536=true then fh p u i else u) else u
noncomputable def j6 (p:bn) (a:Int):Nat->jA
 |0=>⟨p.supply,p.opn,[],0,δ 8 false⟩
 |n+1=>qV p a (j6 p a n) n
theorem good_start {p:bn} (d:bz p=0):rT p ⟨p.supply,p.opn,[],0,δ 8 false⟩:=by
 have a:=dQ d;refine⟨ae8 a,rfl,λk c=>?_,λk c=>?_,rfl,λb f e=>?_⟩
 ·show _=_ - (dW (([]:List Off).map Off.want)).at k;grind[nB]
 ·show _=min (_ - (dW (([]:List Off).map (yW p))).at k) _;simp_all[nB,tj,min]
 ·show _=decide (b∈([]:List Int));grind[cT]
theorem UX {i:Int}:∀{L:List Int},L.Pairwise (·<·)->L=L.filter (λj=>decide (j<i))++L.filter (λj=>!decide (j<i))
 |[],_=>rfl
 |x::L,h=>by
  have a:=γu.1 h;have c:=UX (i:=i) a.2;by_cases d:x<i;·grind
  ·have e:L.filter (λj=>decide (j<i))=[]:=δO.2 λj b=>by grind
   grind
theorem afw {i:Int} {L:List Int} (h:i∉L):L.filter (λj=>decide (j<i+1))=L.filter (λj=>decide (j<i)):=by
 refine List.filter_congr λj a=>?_;grind
theorem afx {i:Int} {L:List Int} (b:L.Pairwise (·<·)) (h:i∈L):L.filter (λj=>decide (j<i+1))=L.filter (λj=>decide (j<i))++[i]/\L=L.filter (λj=>decide (j<i))++i::L.filter (λj=>decide (i<j)):=by
 induction L with
 |nil=>cases h;|cons x L f=>
  have g:=γu.1 b;by_cases c:x=i
  ·subst c;have e:L.filter (λj=>decide (j<x))=[]:=δO.2 λj a=>by grind
   have k:L.filter (λj=>decide (j<x+1))=[]:=δO.2 λj a=>by grind
   have d:L.filter (λj=>decide (x<j))=L:=δ6.2 λj a=>by simp_all
   grind
  grind
theorem afy {p:bn} (a:Good p):∀{L:List Off},(∀x∈L,x∈p.offers)->L≠[]->0<cM L
 |[],_,h=>absurd rfl h
 |x::L,h,_=>by
  have c:=(a.2.2.2.2 x (h x (γS ..))).2.2.2.1;have d:=(sQ a (l:=L) λy b=>h y (γs _ b)).1;grind[cM]
theorem afz {p:bn} (i:bz p=0) {k:Nat} (d:k<=p.offers.length) {M:List Off} (g:∀x∈M,x∈p.offers.drop k) (c:M.Nodup):∃t:List Int,t.Pairwise (·<·)/\(∀j∈t,(k:Int)<=j/\j<p.offers.length)/\(cC p t).Perm M:=by
 obtain⟨t,b,h,a⟩:=Iw (λx=>decide (x∈M)) (p.offers.drop k) (p.offers.take k);have e:(p.offers.take k).length=k:=by simp_all
 refine⟨t,b,λj f=>?_,?_⟩;·grind
 ·rw[List.take_append_drop] at a;unfold cC;rw[a];refine(List.perm_ext_iff_of_nodup ?_ c).2 λx=>?_;·grind[QA]
  simp_all
theorem BD {p:bn} (d:bz p=0):rR p (cB p).chosen/\(cB p).value=cM (cC p (cB p).chosen):=by
 obtain⟨_,a,b,c⟩:=QS d;exact⟨⟨b,a⟩,c⟩
theorem Lc {p:bn} (m:bz p=0) (W:p.offers.length<=15):∀n:Nat,n<=p.offers.length->rT p (j6 p (cB p).value n)/\(j6 p (cB p).value n).chosen=(cB p).chosen.filter λ(j:Int)=>decide (j<(n:Int))
 |0,_=>⟨good_start m,by
   have h:=(BD m).1.1.2;exact(δO.2 λj g=>by simp_all).symm⟩
 |n+1,hn=>by
  obtain⟨G,P⟩:=Lc m W n (by omega);have o:=dQ m;obtain⟨⟨⟨hs,hr⟩,hF⟩,hv⟩:=BD m;have a7:rR p (cB p).chosen:=⟨⟨hs,hr⟩,hF⟩;have I:∀j∈(j6 p (cB p).value n).chosen,j<(n:Int):=λj g=>by
   simp_all
  have N:((n:Nat):Int)+1=((n+1:Nat):Int):=by omega
  have J:(0:Int)<=n/\(n:Int)<p.offers.length:=by omega
  have q:oI p n∈p.offers:=dn (by omega);have a4:=UX (i:=(n:Int)) hs;show rT p (qV p (cB p).value (j6 p (cB p).value n) n)/\(qV p (cB p).value (j6 p (cB p).value n) n).chosen=_;generalize j6 p (cB p).value n=u at*;have C:∀{t:List Int},(∀j∈t,j∈(cB p).chosen)->∀x∈cC p t,x∈p.offers:=λht x q=>by
   obtain⟨j,g,rfl⟩:=Θ.1 q;have:=hr j (ht j g);exact dn (by omega)
  by_cases e:u.value=(cB p).value
  ·unfold qV;rw[if_pos e];refine⟨G,?_⟩;have R:(cB p).chosen.filter (λj=>!decide (j<(n:Int)))=[]:=by
    refine Classical.byContradiction λU=>?_;have S:=afy o (L:=cC p ((cB p).chosen.filter (λj=>!decide (j<(n:Int))))) (C λj g=>(γk.1 g).1) (by unfold cC;simpa using U);rw[G.v,P,hv] at e;grind[uu,pS]
   have a1:∀j∈(cB p).chosen,j<(n:Int):=λj g=>by
    grind
   rw[P,δ6.2 λj g=>by grind];exact(δ6.2 λj g=>by grind).symm
  ·by_cases K:(n:Int)∈(cB p).chosen
   ·obtain⟨f1,f2⟩:=afx hs K;rw[<-P] at f1 f2;have A:gA p (cC p u.chosen++[oI p n]++cC p ((cB p).chosen.filter λj=>decide ((n:Int)<j))):=by
     have:cC p u.chosen++[oI p n]++cC p ((cB p).chosen.filter λj=>decide ((n:Int)<j))=cC p (cB p).chosen:=by
      conv=>rhs;rw[f2]
      rw[uu,sS,γY];rfl
     grind
    have B:=C (t:=(cB p).chosen.filter λj=>decide ((n:Int)<j)) λj g=>(γk.1 g).1;have Q:jj p u (oI p n)=true:=(E8 m G q).2 (DJ o B A);have c:=G.next m I J Q;have z:=E9 (k:=((n:Int)+1).toNat) m c;have r:cC p (fh p u n).chosen=cC p u.chosen++[oI p n]:=by
     show cC p (u.chosen++[(n:Int)])=_;rw[uu];rfl
    have O:∀x∈cC p ((cB p).chosen.filter λj=>decide ((n:Int)<j)),jj p (fh p u n) x=true:=λx w=>by
     refine(E8 m c (B x w)).2 ?_;rw[r];obtain⟨s,t,a0⟩:=List.append_of_mem w;have F:(cC p u.chosen++[oI p n]++cC p ((cB p).chosen.filter λj=>decide ((n:Int)<j))).Perm (cC p u.chosen++[oI p n]++[x]++(s++t)):=by
      rw[a0,γY (cC p u.chosen++[oI p n])];refine ζP _ ?_;exact List.perm_middle
     refine DJ o (M:=s++t) (λy hy=>B y ?_) (DK F A);grind
    have Y:=(K9 (k:=((n:Int)+1).toNat) m c B O).2 (by grind);have Z:∀x∈cC p ((cB p).chosen.filter λj=>decide ((n:Int)<j)),x∈(gU p (fh p u n) ((n:Int)+1).toNat).offers:=λx w=>by
     refine γk.2 ⟨?_,O x w⟩;obtain⟨j,g,rfl⟩:=Θ.1 w;obtain⟨V,a8⟩:=γk.1 g;have h3:=hr j V;have h4:(n:Int)<j:=by grind
     rw[cT (by omega)];rw[List.mem_iff_getElem];exact⟨j.toNat - ((n:Int)+1).toNat,by grind,by rw[List.getElem_drop];congr 1;omega⟩
    have H:=ae9 z Y Z;rw[DU z] at H;have a2:(cB p).value=(fh p u n).value+cM (cC p ((cB p).chosen.filter λj=>decide ((n:Int)<j))):=by
     rw[c.v,r,hv];conv=>lhs;rw[f2,uu,sS,pS]
     rw[pS];grind[cM,oI]
    have T:(gU p (fh p u n) ((n:Int)+1).toNat).offers.length<=15:=by
     have S:=γ6 (jj p (fh p u n)) (p.offers.drop ((n:Int)+1).toNat);rw[εu] at S;show((p.offers.drop _).filter _).length<=15;omega
    have l:ji (gU p (fh p u n) ((n:Int)+1).toNat) ((cB p).value - (fh p u n).value) 65536=0:=KQ z (by omega) (by
     have:2^((gU p (fh p u n) ((n:Int)+1).toNat).offers.length+1)<=2^16:=δr (by omega) (by omega);omega);have E:j5 (gU p (fh p u n) ((n:Int)+1).toNat) ((cB p).value - (fh p u n).value) 65536=true:=(UF z l).2 (by omega);unfold qV;rw[if_neg e,if_pos Q,if_pos E];refine⟨c,?_⟩;rw[<-N,f1];rfl
   ·rw[<-N,afw K,<-P];unfold qV;rw[if_neg e];split
    ·rename_i Q;split
     ·rename_i E;exfalso;have c:=G.next m I J Q;have z:=E9 (k:=((n:Int)+1).toNat) m c;have r:cC p (fh p u n).chosen=cC p u.chosen++[oI p n]:=by
       show cC p (u.chosen++[(n:Int)])=_;rw[uu];rfl
      have T:(gU p (fh p u n) ((n:Int)+1).toNat).offers.length<=15:=by
       have S:=γ6 (jj p (fh p u n)) (p.offers.drop ((n:Int)+1).toNat);rw[εu] at S;show((p.offers.drop _).filter _).length<=15;omega
      have l:ji (gU p (fh p u n) ((n:Int)+1).toNat) ((cB p).value - (fh p u n).value) 65536=0:=KQ z (by omega) (by
       have:2^((gU p (fh p u n) ((n:Int)+1).toNat).offers.length+1)<=2^16:=δr (by omega) (by omega);omega);have a6:=(UF z l).1 E;obtain⟨M,m1,m2,m3⟩:=afa z;rw[DU z] at m3;have D:∀x∈M,x∈p.offers.drop ((n:Int)+1).toNat/\jj p (fh p u n) x=true:=λx q=>γk.1 (m2 x q);have A:=(K9 m c (λx q=>List.mem_of_mem_drop (D x q).1) λx q=>(D x q).2).1 m1;obtain⟨t,t1,t2,t3⟩:=afz m (k:=((n:Int)+1).toNat) (by omega) (λx q=>(D x q).1) (DN Off.bX m1.1);have hT:rR p (u.chosen++(n:Int)::t):=by
       refine⟨⟨?_,?_⟩,?_⟩
       ·rw[δY];refine⟨G.f.1.1,γu.2 ⟨λj g=>by grind,t1⟩,λa ha b hb=>?_⟩;grind
       ·intro j g;rcases γm.1 g with h|h;·grind
        ·rcases List.mem_cons.1 h with rfl|h<;>grind
       ·rw[uu,sS];refine DK ?_ A;rw[r,γY];exact ζP _ (List.Perm.cons _ t3.symm)
      have a3:cM (cC p (u.chosen++(n:Int)::t))=(fh p u n).value+cM M:=by
       rw[c.v,r,uu,sS,pS,pS,<-Qz t3];grind[cM,oI]
      have H:=Iq o hT.1 (decide_eq_true hT.2);refine afv o hT (.inr ⟨(show cM (cC p (u.chosen++(n:Int)::t))=(cB p).value by omega),?_⟩);show cmpL (u.chosen++(n:Int)::t) (cB p).chosen<0;have R:(cB p).chosen=u.chosen++(cB p).chosen.filter (λj=>!decide (j<(n:Int))):=by grind
      have a5:(cB p).chosen.filter (λj=>!decide (j<(n:Int)))≠[]:=λh=>by
       rw[h,γ1] at R;refine e ?_;rw[G.v,<-R,hv]
      have X:∀j∈(cB p).chosen.filter (λj=>!decide (j<(n:Int))),(n:Int)<j:=λj g=>by
       grind
      rw[R];generalize (cB p).chosen.filter (λj=>!decide (j<(n:Int)))=d at*;cases d with
      |nil=>grind;|cons j d=>
       rw[UW];have:=X j (by simp);simp only[cmpL];omega
     grind
    grind
theorem UY {p:bn} (b:bz p=0) (a:p.offers.length<=15):(j6 p (cB p).value p.offers.length).chosen=(cB p).chosen:=by
 rw[(Lc b a p.offers.length (π _)).2];have h:=(BD b).1.1.2;simp_all
def afA (p:bn):Int:=rH p (allM p)
theorem afB {p:bn} (a:bz p=0):rR p (cB p).chosen/\ek p (cB p).chosen=(cB p).value/\(cB p).value=afA p:=by
 obtain⟨_,d,b,e⟩:=QS a;have c:rR p (cB p).chosen:=⟨b,d⟩;exact⟨c,by grind[KJ],(DU a).symm⟩
def ofV (n:dj):SV:=.ite (decide (n.1=1)) (.ia 204 (encS bF n)) (.ite (decide (n.1=2)) (.ia 205 (encS bF n)) (.ite (decide (n.1=3)) (.ia 206 (encS bF n)) (.ia 208 [])))
def Fb:bM:=⟨86,dj,.one (ei bF),λ_=>True,ofV⟩
theorem h485:Holds Tryz.prog Fb:=by
 refine cH (L:=[]) Fb lk (by simp) ?_;rintro⟨k,o,a,b,y⟩ _;refine bQ (let c:=γd .i64;let d:=(1:Int);let e:=(2:Int);let f:=(3:Int);let i:=decide (k=d);let g:=[c k,c o,c a,c b,Ω sF y];let n:=θd 204 g;let j:=decide (k=e);let p:=θd 205 g;let l:=decide (k=f);let q:=θd 206 g;let h:=θd 208 [];let m:=λ(u:Int) (u_1:Nat) ↦decide (k=u)=true->(i=true->(θd u_1 g).same n)/\(i=false->(j=true->(θd u_1 g).same p)/\(j=false->(l=true->(θd u_1 g).same q)/\(l=false->(θd u_1 g).same h)));m d 204/\(decide (k=d)=false->m e 205/\(decide (k=e)=false->m f 206/\(decide (k=f)=false->(i=true->h.same n)/\(i=false->(j=true->h.same p)/\(j=false->(l=true->h.same q)/\(l=false->h.same h))))))) (by kernel_rfl) ?_;simp only[vcs];repeat' (first|refine And.intro ?_ ?_|intro _)
 all_goals first|trivial|omega
def rU (n:dj):Bool:=decide (n.2.1=0)&&decide (n.2.2.1=0)&&decide (n.2.2.2.1=0)
def Fe:bM:=⟨211,dj,.one (ei bF),λ_=>True,λn=> .sb (rU n)⟩
theorem h495:Holds Tryz.prog Fe:=by
 refine cH (L:=[]) Fe lk (by simp) ?_;rintro⟨k,o,a,b,y⟩ _;refine bQ (let f:=δh false;let g:=(0:Int);let e:=decide (o=g);let d:=decide (a=g);let c:=γA (rU (k,o,a,b,y));(e=true->(d=true->(γA (decide (b=g))).same c)/\(d=false->(f).same c))/\(e=false->(f).same c)) (by kernel_rfl) ?_;simp_all[rU]
def wf1 (n:dj):Bool:=rU n&&decide (n.2.2.2.2.length<=40)&&n.2.2.2.2.all okF
def Ld:bM:=⟨209,dj,.one (ei bF),λn=>∀x∈n.2.2.2.2,iZ x,λn=> .sb (wf1 n)⟩
def afD (n:dj):Nat->cG
 |4=> .inv Int (λi=>⟨[(18,.row sF n.2.2.2.2),(19,.si .i64 n.2.2.2.2.length),(20,.si .i64 i)],[.cells (encS bF n) 204 5 false]⟩) (λs=>iS s 20)
  (λi=>0<=i/\i<=n.2.2.2.2.length/\(n.2.2.2.2.take i.toNat).all okF=true) (λi=>(n.2.2.2.2.length - i).toNat) λ_ _=> .look
 |_=> .look
theorem h493:Holds Tryz.prog Ld:=by
 refine cH (L:=[Fe,uD]) Ld afD (by simpa using⟨h495,h407⟩) ?_;rintro⟨k,o,a,b,y⟩ hy;have hy:∀x∈y,iZ x:=hy;refine bQ (let c:=γd .i64;let d:=(0:Int);let e:=δh false;let f:=Ω;let p:=!rU (k,o,a,b,y);let j:=γA (wf1 (k,o,a,b,y));let m:=(↑y.length:Int);let q:=decide ((40:Int)<m);let g:=(↑y.length:Int);let n:=c g;let l:=bq.cells [c k,c o,c a,c b,f sF y] 204 5 false;True/\(p=true->(e).same j)/\(p=false->(q=true->(e).same j)/\(q=false->((((f sF y).same (f sF y)/\(c m).same n/\(γB .i64 0).same (c 0)/\True)/\l.same l/\True)/\d<=d/\d<=g/\true=true)/\∀(x:Int),let h:=bj y x.toNat sF.dflt;let i:=x+(1:Int);let r:=c i;let s:=λ(u:Bool) ↦(!okF (h.fst,h.snd.fst,h.snd.snd))=u;d<=x/\x<=g/\(Δ x.toNat y).all okF=true->(decide (x<g)=true->d<=x/\x<m/\x.toNat<y.length/\((bA h.snd.fst/\bA h.snd.snd)/\γc h.snd.fst<=10000000/\γc h.snd.snd<=10000000)/\(s true->(e).same j)/\(s false->cu .i64 i/\(((f sF y).same (f sF y)/\n.same n/\r.same r/\True)/\l.same l/\True)/\(d<=i/\i<=g/\(Δ i.toNat y).all okF=true)/\(g - i).toNat<(g - x).toNat))/\(decide (x<g)=false->(δh true).same j)))) (by kernel_rfl) ?_;simp only[vcs];refine⟨λh=>by simp[wf1,h],λhp=>⟨λh40=>?_,λh40=>⟨⟨by omega,by omega⟩,?_⟩⟩⟩
 ·have:¬y.length<=40:=by omega
  simp[wf1,this]
 rintro i ⟨i0,i1,hi⟩;refine⟨λhlt=>?_,λhge=>?_⟩
 ·have hm:=dn (d:=sF.dflt) (show i.toNat<y.length by omega);have et:=jq (d:=sF.dflt) i0 hlt;refine⟨i0,hlt,by omega,hy _ hm,λh=>?_,λh=>⟨⟨by omega,by omega⟩,⟨by omega,by omega,?_⟩,by omega⟩⟩
  ·have h:okF (bj y i.toNat sF.dflt)=false:=h;have:y.all okF=false:=by
    rw[δI];intro ha;have:=τ.1 ha _ hm;rw[h] at this;cases this
   simp[wf1,this]
  ·have h:okF (bj y i.toNat sF.dflt)=true:=h;rw[et,ε3,hi];simp[h]
 ·rw[show i.toNat=y.length by omega,φ] at hi;have:y.length<=40:=by omega
  simp[wf1,hp,hi,this]
def oL (k:Int):Bool:=decide (0<=k)&&decide (k<=65536)
def wf2 (n:dj):Bool:=oL n.2.1&&oL n.2.2.1&&oL n.2.2.2.1&&decide (n.2.2.2.2=[])
def Le:bM:=⟨215,dj,.one (ei bF),λ_=>True,λn=> .sb (wf2 n)⟩
theorem h499:Holds Tryz.prog Le:=by
 refine cH (L:=[]) Le (λ_ _=> .qy 4) (by simp) ?_;rintro⟨k,o,a,b,y⟩ _;refine bQ (let r:=(0:Int);let s:=δh false;let t:=(65536:Int);let u:=(3:Int);let v:=γA;let j:=bj [o,a,b] 0 r;let g:=decide (j<r);let c:=v (wf2 (k,o,a,b,y));let m:=decide (t<j);let n:=bj [o,a,b] 1 r;let q:=decide (n<r);let i:=decide (t<n);let p:=bj [o,a,b] 2 r;let l:=decide (p<r);let h:=decide (t<p);let f:=bj [o,a,b] 3 r;let d:=decide (f<r);let e:=decide (t<f);(true=true->r<=r/\r<u/\0<3/\(g=true->(s).same c)/\(g=false->(m=true->(s).same c)/\(m=false->(true=true->r<=(1:Int)/\(1:Int)<u/\1<3/\(q=true->(s).same c)/\(q=false->(i=true->(s).same c)/\(i=false->(true=true->r<=(2:Int)/\(2:Int)<u/\2<3/\(l=true->(s).same c)/\(l=false->(h=true->(s).same c)/\(h=false->(false=true->r<=u/\u<u/\3<3/\(d=true->(s).same c)/\(d=false->(e=true->(s).same c)/\(e=false->False)))/\(false=false->(v (decide ((↑y.length:Int)=r))).same c))))/\(true=false->(v (decide ((↑y.length:Int)=r))).same c))))/\(true=false->(v (decide ((↑y.length:Int)=r))).same c))))/\(true=false->(v (decide ((↑y.length:Int)=r))).same c)) (by kernel_rfl) ?_;simp_all[bj,oL,decide_eq_false,wf2]
def uR (n:dj):Bool:=rU n&&decide (n.2.2.2.2=[])
def Lh:bM:=⟨219,dj,.one (ei bF),λ_=>True,λn=> .sb (uR n)⟩
theorem h503:Holds Tryz.prog Lh:=by
 refine cH (L:=[Fe]) Lh lk (by grind[h495]) ?_;rintro⟨k,o,a,b,y⟩ _;refine bQ (let d:=rU (k,o,a,b,y);let c:=γA (uR (k,o,a,b,y));True/\(d=true->(γA (decide ((↑y.length:Int)=(0:Int)))).same c)/\(d=false->(δh false).same c)) (by kernel_rfl) ?_;simp_all[uR]
def Lj:qB Unit where
 put _:=.agg [];dec
  | .agg []=>some ()
  |_=>none;ok v a h:=by
  grind
 inj a b h:=rfl
def Ll:bM:=⟨223,Unit,.one Lj,λ_=>True,λ_=> .sb false⟩
theorem h507:Holds Tryz.prog Ll:=by
 refine cH (L:=[]) Ll lk (by simp) ?_;rintro _ _;refine bQ ((δh false).same (γA false)) (by kernel_rfl) ?_;rfl
def Lm:bM:=⟨207,dj,.one (ei bF),λ_=>True,λ_=> .row (.i .i64) []⟩
theorem h491:Holds Tryz.prog Lm:=by
 refine cH (L:=[]) Lm lk (by simp) ?_;rintro⟨k,o,a,b,y⟩ _;refine bQ (let c:=Ω (bp.i .i64) [];c.same c) (by kernel_rfl) ?_;simp_all
def Ln:bM:=⟨213,dj,.one (ei bF),λ_=>True,λn=> .row (.i .i64) [n.2.2.1,n.2.2.2.1]⟩
theorem h497:Holds Tryz.prog Ln:=by
 refine cH (L:=[]) Ln lk (by simp) ?_;rintro⟨k,o,a,b,y⟩ _;refine bQ (let c:=Ω (bp.i .i64) [a,b];c.same c) (by kernel_rfl) ?_;simp_all
def Lq:bM:=⟨217,dj,.one (ei bF),λ_=>True,λ_=> .row (.i .i64) []⟩
theorem h501:Holds Tryz.prog Lq:=by
 refine cH (L:=[]) Lq lk (by simp) ?_;rintro⟨k,o,a,b,y⟩ _;refine bQ (let c:=Ω (bp.i .i64) [];c.same c) (by kernel_rfl) ?_;simp_all
def r505:bM:=⟨221,Unit,.one Lj,λ_=>True,λ_=> .row (.i .i64) []⟩
theorem h505:Holds Tryz.prog r505:=by
 refine cH (L:=[]) r505 lk (by simp) ?_;rintro _ _;refine bQ (let a:=Ω (bp.i .i64) [];a.same a) (by kernel_rfl) ?_;simp_all
end Go.Vi
