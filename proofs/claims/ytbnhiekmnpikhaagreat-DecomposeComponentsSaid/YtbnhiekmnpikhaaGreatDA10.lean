/-
  Contracts: fractions: Mul, Div, Valid.
  Conditions: none.
-/
import Derived.Test.YtbnhiekmnpikhaaGreatDA06
import Derived.Test.YtbnhiekmnpikhaaGreatDA09
import Derived.Test.YtbnhiekmnpikhaaGreatDA07
import Derived.Test.YtbnhiekmnpikhaaGreatDA08
set_option maxRecDepth 100000
set_option maxHeartbeats 4000000
set_option linter.all false
open Classical renaming choose->δQ
open Go.Vi.AV.sl renaming injEq->δ5
open Go.Vi.SV renaming row->Ω,agg->γQ,sb->γx,si->γg,bl->δf,ow->γZ,ptr->γP,il->γA
open Int renaming mul_nonneg->γu,mul_pos->εD,le_of_lt->γe,natAbs_mul->εt,toNat_of_nonneg->εE,toNat_natCast->γl
open IntCast renaming intCast->κ
open List renaming length->γc,length_take->γw,range->ω,length_append->γi,map_map->γ3,map_congr_left->γY,length_map->Ξ,map_cons->π,map_nil->γr,nodup_append->γs,mem_map->Ψ,all_eq_true->φ,mem_range->γp,replicate->δ,ext_getElem->γ8,length_replicate->γC,getElem_set->εZ,getElem_map->δB,getElem_range->εK,take->Δ
open List.cons renaming injEq->Γ
open Nat renaming mul_le_mul->ζm
open Option renaming isNone_iff_eq_none->γN
open Option.some renaming injEq->γ
open Rat renaming mkRat_eq_div->δC,mkRat_self->δW,intCast_natCast->ε8,mul_nonneg->δv
namespace Go.Vi
open Go.Proofs.YtbnhiekmnpikhaaGreat.Ir
open Go.Proofs
theorem Tm (p q:Rat):(if(!(decide (p<0)==decide (q<0)))=true then -((p.num.natAbs:Int)*(q.num.natAbs:Int)) else(p.num.natAbs:Int)*(q.num.natAbs:Int))=p.num*q.num:=by
 have a:=wC p;have b:=wC q;grind
theorem Tn (p q:Rat):fY (!(decide (p<0)==decide (q<0))) ((p.num.natAbs:Int)*(q.num.natAbs:Int)) ((p.den:Int)*(q.den:Int))=p*q:=by
 unfold fY;rw[Tm,show((p.den:Int)*(q.den:Int)).toNat=p.den*q.den by omega,δC];have a:(p.num:Rat) / (p.den:Rat)=p:=by rw[<-δC,δW]
 have b:(q.num:Rat) / (q.den:Rat)=q:=by rw[<-δC,δW]
 grind
theorem Tq {p q:Rat} (a:q≠0):fY (!(decide (p<0)==decide (q<0))) ((p.num.natAbs:Int)*(q.den:Int)) ((p.den:Int)*(q.num.natAbs:Int))=p / q:=by
 unfold fY;rw[show((p.den:Int)*(q.num.natAbs:Int)).toNat=p.den*q.num.natAbs by omega,δC];have k:(p.num:Rat) / (p.den:Rat)=p:=by rw[<-δC,δW]
 have d:(q.num:Rat) / (q.den:Rat)=q:=by rw[<-δC,δW]
 have m:(p.den:Rat)≠0:=by have:=p.den_nz;simp_all
 have o:(q.den:Rat)≠0:=by grind
 have e:=wC p;have g:=wC q;have n:(q.num:Rat)≠0:=λh=>a (by grind);rw[Rat.natCast_mul];conv=>rhs;rw[<-k,<-d]
 have f:((p.num.natAbs:Int):Rat)=(p.num.natAbs:Rat):=ε8 _;have c:((q.num.natAbs:Int):Rat)=(q.num.natAbs:Rat):=ε8 _;have i:((q.den:Int):Rat)=(q.den:Rat):=ε8 _;have j:(p.num:Rat)=if decide (p<0)=true then -(p.num.natAbs:Rat) else(p.num.natAbs:Rat):=by
  rw[<-f];conv=>lhs;rw[e]
  split<;>grind
 have b:(q.num:Rat)=if decide (q<0)=true then -(q.num.natAbs:Rat) else(q.num.natAbs:Rat):=by
  rw[<-c];conv=>lhs;rw[g]
  split<;>grind
 have l:((if(!(decide (p<0)==decide (q<0)))=true then -((p.num.natAbs:Int)*(q.den:Int)) else(p.num.natAbs:Int)*(q.den:Int):Int):Rat)=if(!(decide (p<0)==decide (q<0)))=true then -((p.num.natAbs:Rat)*(q.den:Rat)) else(p.num.natAbs:Rat)*(q.den:Rat):=by
  split<;>grind
 grind
def Bm:bM:=⟨178,bL×bL,.cons (dY sF) (.one (dY sF)),λa=>cE a.1/\cE a.2,λa=>qa (bW a.1*bW a.2)⟩
theorem h410:Holds Tryz.prog Bm:=by
 refine cH (L:=[yw,yA]) Bm lk (by grind[h153,h126]) ?_;rintro⟨x,y⟩ ⟨⟨p,i,n,f,M⟩,⟨q,j,o,l,G⟩⟩;simp only at n o;subst n o;refine bQ (let f:=Ω;let c:=(bu p).snd.fst;let k:=(bu q).snd.fst;let g:=(bu p).snd.snd;let h:=(bu q).snd.snd;let m:=cO (bk c*bk k);let b:=cO (bk g*bk h);let d:=bu (fY (!(bu p).fst==(bu q).fst) (bk m) (bk b));let a:=bp.i .u32;let e:=bu (bW (bu p)*bW (bu q));((bA c/\bA k)/\γc c<=100000000000/\γc k<=100000000000)/\((bA g/\bA h)/\γc g<=100000000000/\γc h<=100000000000)/\((bA m/\bA b)/\(m.length<=1000000000/\b.length<=1000000000)/\(0:Int)<bk b)/\(γQ [γx d.fst,f a d.snd.fst,f a d.snd.snd]).same (γQ [γx e.fst,f a e.snd.fst,f a e.snd.snd])) (by kernel_rfl) ?_;conv=>zeta
 obtain⟨t,⟨P,_,s⟩,⟨E,_,v⟩⟩:=mq p;obtain⟨u,⟨J,_,z⟩,⟨I,_,A⟩⟩:=mq q;obtain⟨D,F⟩:=pz f;obtain⟨O,N⟩:=pz l;have C:=p.den_pos;have K:=q.den_pos;rw[s,v,z,A,t,u,ez,ez];have r:0<=(p.num.natAbs:Int)*(q.num.natAbs:Int):=γu (by omega) (by omega);have w:0<(p.den:Int)*(q.den:Int):=εD (by omega) (by omega);have H:=mR r (qP (by omega) f.1 l.1);have B:=mR (γe w) (qP (by omega) f.2 l.2);grind[gn,Ep,Tn]
def Et:bM:=⟨184,bL×bL,.cons (dY sF) (.one (dY sF)),λa=>(cE a.1/\cE a.2)/\bW a.2≠0,λa=> .bI [qa (bW a.1 / bW a.2),.si .i64 0]⟩
theorem h416:Holds Tryz.prog Et:=by
 refine cH (L:=[yw,Bj]) Et lk (by grind[h153,h151]) ?_;rintro⟨x,y⟩ ⟨⟨⟨p,i,v,f,X⟩,⟨q,j,u,m,Q⟩⟩,a⟩;simp only at v u a;subst v u;refine bQ (let a:=Ω;let g:=(bu p).snd.fst;let d:=(bu q).snd.snd;let r:=(bu p).snd.snd;let e:=(bu q).snd.fst;let k:=cO (bk g*bk d);let c:=cO (bk r*bk e);let l:=bu (fY (!(bu p).fst==(bu q).fst) (bk k) (bk c));let b:=bp.i .u32;let t:=[γg .i64 0];let o:=bu (bW (bu p) / bW (bu q));((bA g/\bA d)/\γc g<=100000000000/\γc d<=100000000000)/\((bA r/\bA e)/\γc r<=100000000000/\γc e<=100000000000)/\((bA k/\bA c)/\(k.length<=1000000000/\c.length<=1000000000)/\(0:Int)<bk c)/\(SV.bI (γQ [γx l.fst,a b l.snd.fst,a b l.snd.snd]::t)).same (SV.bI (γQ [γx o.fst,a b o.snd.fst,a b o.snd.snd]::t))) (by kernel_rfl) ?_;conv=>zeta
 rw[ez] at a;obtain⟨E,⟨C,_,M⟩,⟨K,_,I⟩⟩:=mq p;obtain⟨B,⟨z,_,J⟩,⟨F,_,A⟩⟩:=mq q;obtain⟨V,O⟩:=pz f;obtain⟨S,W⟩:=pz m;have T:=p.den_pos;have Z:=q.den_pos;have R:q.num≠0:=λh=>a (Rat.num_eq_zero.1 h);rw[M,I,J,A,E,B,ez,ez];have s:0<=(p.num.natAbs:Int)*(q.den:Int):=γu (by omega) (by omega);have n:0<(p.den:Int)*(q.num.natAbs:Int):=εD (by omega) (by omega);have Y:=mR s (qP (by omega) f.1 m.2);have N:=mR (γe n) (qP (by omega) f.2 m.1);obtain⟨G,H,P⟩:=gn s;obtain⟨w,D,U⟩:=gn (γe n);rw[G,w,Tq a];refine⟨⟨⟨C,F⟩,?_,?_⟩,⟨⟨K,z⟩,?_,?_⟩,⟨⟨H,D⟩,⟨?_,?_⟩,n⟩,rfl⟩<;>omega
def JO:bM:=⟨169,List Int,.one (dL (.i .u32)),λa=>bA (show List Int from a)/\(show List Int from a).length<=1000000000,λa=> .sb (tc a)⟩
theorem h414:Holds Tryz.prog JO:=by
 refine cH (L:=[rJ]) JO lk (by grind[h152]) ?_;rintro(a:List Int) h;refine bQ (a.length<=1000000000000/\(γx (decide ((↑(bJ a).length:Int)=(↑a.length:Int)))).same (γx (tc a))) (by kernel_rfl) ?_;simp only[vcs];obtain⟨f,d⟩:bA a/\a.length<=1000000000:=h;refine⟨by omega,?_⟩;cases c:tc a with
 |true=>
  grind[qG,Au,uH];|false=>
  refine decide_eq_false λb=>?_;have e:bJ a=a:=by
   unfold bJ at b ⊢;rw[γw] at b;exact List.take_of_length_le (by omega)
  grind[rK,uH]
def JP:bM:=⟨170,bL,.one (dY sF),λx=>x.2.1.length<=1000000000,λx=> .agg [.sb x.1,.sb (decide (x.2.1=[]))]⟩
theorem h415:Holds Tryz.prog JP:=by
 refine cH (L:=[]) JP lk (by simp) ?_;rintro⟨s,n,d⟩ h;refine bQ (let a:=γx;(γQ [a s,a (decide ((↑n.length:Int)=(0:Int)))]).same (γQ [a s,a (decide (n=[]))])) (by kernel_rfl) ?_;have e:decide ((n.length:Int)=0)=decide (n=[]):=by
  simp_all
 rw[e];rfl
def uI:bM:=⟨141,bL,.one (dY sF),λx=>(bA x.2.1/\bA x.2.2)/\x.2.1.length<=10000000/\x.2.2.length<=10000000,λx=> .sb (okF x)⟩
theorem h407:Holds Tryz.prog uI:=by
 refine cH (L:=[JO,JP,Em,yx,yd]) uI lk (by grind[h414,h415,h165g,h128,h132]) ?_;rintro⟨s,n,d⟩ ⟨⟨m,f⟩,j,k⟩;refine bQ (let a:=δf false;let b:=(0:Int);let c:=(1:Int);let l:=γx (okF (s,n,d));let w:=decide ((↑d.length:Int)=b);let x:=s==true&&(decide (n=[])==true&&true);let p:=cO (ey (bk n) (bk d));let t:=cO c;(bA n/\n.length<=1000000000)/\((!tc n)=true->(a).same l)/\((!tc n)=false->(bA d/\d.length<=1000000000)/\((!tc d)=true->(a).same l)/\((!tc d)=false->(w=true->(a).same l)/\(w=false->n.length<=1000000000/\(x=true->(a).same l)/\(x=false->((bA n/\bA d)/\n.length<=1000000000/\d.length<=1000000000)/\(b<=c/\c<(18446744073709551616:Int))/\((bA p/\bA t)/\p.length<=1000000000000/\t.length<=1000000000000)/\(γx (decide (lW (bk p) (bk t)=b))).same l))))) (by kernel_rfl) ?_;simp only[vcs];have m:bA n:=m;have f:bA d:=f;have j:n.length<=10000000:=j;have k:d.length<=10000000:=k;have c:¬(fS n/\fS d/\d≠[])->false=okF (s,n,d):=λh=>by
  grind[adl]
 have e:∀{a:List Int},((a.length:Nat):Int)=0->a=[]:=λh=>List.eq_nil_of_length_eq_zero (by omega);have b:∀{a:List Int},¬((a.length:Nat):Int)=0->a≠[]:=λh i=>h (by rw[i];rfl);refine⟨⟨m,by omega⟩,λu=>c λh=>?_,λu=>⟨⟨f,by omega⟩,λi=>c λh=>?_,λi=>⟨λo=>c λh=>h.2.2 (e o),λo=>⟨by omega,λC=>?_,λC=>?_⟩⟩⟩⟩;·grind[uH]
 ·grind[uH]
 all_goals
  have E:=okF_eq (s:=s) m f (uH.1 u) (uH.1 i) (b o);have D:=JM f (uH.1 i) (b o);have J:=@Tj (bk n) (bk d) D;obtain⟨H,v,A⟩:=gn (show 0<=ey (bk n) (bk d) by omega);obtain⟨B,G,I⟩:=gn (show(0:Int)<=1 by omega);have y:ey (bk n) (bk d)<=bk d:=by
   unfold ey;have:=Nat.gcd_le_right (bk n).toNat (show 0<(bk d).toNat by omega);omega
  rw[E]
 ·simp_all
 ·have F:=JL v f A (by omega);refine⟨⟨⟨m,f⟩,by omega,by omega⟩,by omega,⟨⟨v,G⟩,by omega,by decide⟩,?_⟩;rw[H,B];have r:(lW (ey (bk n) (bk d)) 1=0)=(ey (bk n) (bk d)=1):=by
   grind[lW]
  simp only[r];by_cases g:n=[]
  ·rw[if_pos g];have z:s=false:=by
    simp_all
   have q:ey (bk n) (bk d)=bk d:=by
    rw[g];unfold ey;simp[bk];omega
   rw[q,z,Bool.not_false,Bool.true_and,decide_eq_decide];constructor
   ·intro h;rw[<-Au f (uH.1 i),h];rfl
   ·intro h;rw[h];rfl
  ·rw[if_neg g]
theorem uJ {p q:Rat} {i j:Nat} (b:Sz i p) (a:Sz j q):Sz (i+j) (p*q):=by
 rw[<-Tn];unfold fY;rw[Tm];have c:=p.den_pos;have d:=q.den_pos;have e:0<(p.den:Int)*(q.den:Int):=εD (by omega) (by omega);refine Bf (by omega) ?_ ?_
 ·rw[εt,Int.natCast_mul];exact qP (by omega) b.1 a.1
 ·rw[εE (by omega)];exact qP (by omega) b.2 a.2
theorem JQ {p q:Rat} {i j:Nat} (c:Sz i p) (b:Sz j q) (d:q≠0):Sz (i+j) (p / q):=by
 rw[<-Tq d];unfold fY;have e:=p.den_pos;have f:=q.den_pos;have l:q.num≠0:=λh=>d (Rat.num_eq_zero.1 h);have k:0<(p.den:Int)*(q.num.natAbs:Int):=εD (by omega) (by omega);have g:=qP (a:=(p.num.natAbs:Int)) (by omega) c.1 b.2;refine Bf (by omega) ?_ ?_;·grind
 ·rw[εE (by omega)];exact qP (by omega) c.2 b.1
theorem ado {p q:Rat}:0<iU p q↔q<p:=by
 grind[iU]
theorem adp {p q:Rat}:iU p q=0↔p=q:=by
 grind[iU]
def eA (t:Tb):Nat->Int
 |0=> -1
 |k+1=>if 0<t.cs k/\(eA t k<0\/t.fv k<t.fv (eA t k).toNat) then(k:Int) else eA t k
def dS (t:Tb) (c:Nat):Nat->Int
 |0=> -1
 |k+1=>if t.cf k c<=0 then dS t c k
  else if 0<=dS t c k/\(t.bd (dS t c k).toNat / t.cf (dS t c k).toNat c<t.bd k / t.cf k c\/(t.bd k / t.cf k c=t.bd (dS t c k).toNat / t.cf (dS t c k).toNat c/\t.bv (dS t c k).toNat<t.bv k)) then dS t c k
  else(k:Int)
section
variable {n m:Nat} {t t0:Tb} {r c:Nat}
theorem uK:∀{k:Nat},(eA t k= -1/\∀j,j<k->¬0<t.cs j)\/(∃b:Nat,eA t k=b/\b<k/\0<t.cs b/\∀j,j<k->0<t.cs j->t.fv b<=t.fv j)
 |0=> .inl ⟨rfl,λj h=>by omega⟩
 |k+1=>by
  unfold eA;rcases @uK k with⟨a,c⟩|⟨b,a,c,d,e⟩;·grind
  ·have f:(eA t k).toNat=b:=by omega
   grind
theorem wF {c:Nat}:∀{k:Nat},(dS t c k= -1/\∀j,j<k->t.cf j c<=0)\/(∃b:Nat,dS t c k=b/\b<k/\0<t.cf b c/\∀j,j<k->0<t.cf j c->t.bd b / t.cf b c<t.bd j / t.cf j c\/(t.bd b / t.cf b c=t.bd j / t.cf j c/\t.bv b<=t.bv j))
 |0=> .inl ⟨rfl,λj h=>by omega⟩
 |k+1=>by
  unfold dS;by_cases e:t.cf k c<=0
  ·rw[if_pos e];rcases @wF c k with⟨f,a⟩|⟨b,f,a,o,n⟩<;>grind
  ·rw[if_neg e];have g:0<t.cf k c:=Rat.not_le.1 e;rcases @wF c k with⟨f,a⟩|⟨b,f,a,o,n⟩;·grind
   ·have i:(dS t c k).toNat=b:=by omega
    rw[i];by_cases d:0<=dS t c k/\(t.bd b / t.cf b c<t.bd k / t.cf k c\/(t.bd k / t.cf k c=t.bd b / t.cf b c/\t.bv b<t.bv k));·grind
    ·rw[if_neg d];have l:¬t.bd b / t.cf b c<t.bd k / t.cf k c:=λh=>d ⟨by omega,.inl h⟩;have m:t.bd k / t.cf k c=t.bd b / t.cf b c->¬t.bv b<t.bv k:=λh a=>d ⟨by omega,.inr ⟨h,a⟩⟩;refine .inr ⟨k,rfl,by omega,g,λj p q=>?_⟩;grind
end
def stepT (n m:Nat) (t:Tb):Option Tb:=
 if eA t n<0 then none
 else if dS t (eA t n).toNat m<0 then none
 else some (fV t (dS t (eA t n).toNat m).toNat (eA t n).toNat)
def fj (n m:Nat):Nat->Tb->Bool
 |0,t=>(stepT n m t).isNone
 |k+1,t=>match stepT n m t with
  |none=>true
  |some a=>fj n m k a
def runT (n m:Nat):Nat->Tb->Tb
 |0,t=>t
 |k+1,t=>match stepT n m t with
  |none=>t
  |some a=>runT n m k a
def yD (n m N:Nat) (t:Tb):Nat:=((ω N).filter λk=>!fj n m k t).length
section
variable {n m:Nat} {t t0 t':Tb}
theorem Tt (h:stepT n m t=some t'):∃r c,qO n m t r c/\t'=fV t r c/\eA t n=(c:Int)/\dS t c m=(r:Int):=by
 unfold stepT at h;split at h;·cases h
 ·rename_i p;split at h;·cases h
  ·rename_i o;injection h with h;rcases @uK t n with⟨b,_⟩|⟨c,b,d,e,k⟩;·omega
   ·have f:(eA t n).toNat=c:=by omega
    rw[f] at h o;rcases @wF t c m with⟨a,_⟩|⟨r,a,i,j,l⟩;·omega
    ·have g:(dS t c m).toNat=r:=by omega
     rw[g] at h;exact⟨r,c,⟨i,d,e,k,j,l⟩,h.symm,b,a⟩
theorem JR (b:Run n m t0 t) (d:kq m t) (h:stepT n m t=some t'):Run n m t0 t'/\kq m t':=by
 obtain⟨r,c,a,rfl,_⟩:=Tt h;exact⟨b.piv a.hr a.hc (by have:=a.pos;grind),a.yt b.wf d⟩
theorem JS:∀{k:Nat} {t:Tb},fj n m k t=true->fj n m (k+1) t=true
 |0,t,h=>by
  grind[fj];|k+1,t,h=>by
  unfold fj at h ⊢;split;·rfl
  ·rename_i b a;rw[a] at h;exact JS h
theorem left_step {N:Nat} (b:fj n m N t=true) (h:stepT n m t=some t'):yD n m N t'<yD n m N t:=by
 unfold yD;have e:∀k,fj n m k t'=fj n m (k+1) t:=λk=>by grind[fj]
 have c:fj n m 0 t=false:=by simp[fj,h]
 simp only[e];cases N with
 |zero=>simp_all;|succ N=>
  have a:∀f:Nat->Bool,((ω (N+1)).filter f).length=(if f 0 then 1 else 0)+((ω N).filter λk=>f (k+1)).length:=λf=>by
   rw[List.range_succ_eq_map,List.filter_cons,List.filter_map,];grind[Function.comp_def]
  rw[a (λk=>!fj n m k t),c];rw[List.range_succ,List.filter_append,γi];simp[b]
theorem Tv {N:Nat} (a:fj n m N t=true) (h:stepT n m t=some t'):fj n m N t'=true:=by
 cases N<;>grind[fj,JS]
theorem JU (D:Run n m t0 t) (o:kq m t):∃N,fj n m N t=true:=by
 apply Classical.byContradiction;intro u;have e:∀N,fj n m N t=false:=λN=>by
  simp_all
 let T:Nat->Tb:=λk=>Nat.rec t (λ_ s=>(stepT n m s).getD s) k;have d:∀k,T (k+1)=(stepT n m (T k)).getD (T k):=λk=>rfl;have A:∀k N,fj n m N (T k)=false:=by
  intro k;induction k with
  |zero=>exact e;|succ k l=>
   intro N;rw[d];cases z:stepT n m (T k) with
   |none=>simp_all;|some q=>
    have:=l (N+1);grind[fj]
 have w:∀k,stepT n m (T k)=some (T (k+1)):=λk=>by
  rw[d];cases z:stepT n m (T k) with
  |none=>have:=A k 0;grind[fj];|some q=>rfl
 have a:∀k,Run n m t0 (T k)/\kq m (T k):=by
  intro k;induction k with
  |zero=>exact⟨D,o⟩;|succ k l=>grind[JR]
 have b:∀k,∃p:Nat×Nat,qO n m (T k) p.1 p.2/\T (k+1)=fV (T k) p.1 p.2:=λk=>by
  obtain⟨r,c,f,E,_⟩:=Tt (w k);exact⟨(r,c),f,E⟩
 let p:Nat->Nat×Nat:=λk=>δQ (b k);have h:∀k,qO n m (T k) (p k).1 (p k).2/\T (k+1)=fV (T k) (p k).1 (p k).2:=λk=>Classical.choose_spec (b k);obtain⟨i,j,g,B⟩:=JC (Ba (t0.basic++t0.free) (m+n)) (λk=>(T k).basic++(T k).free) λk=>by
  have f:=@SR (t0.basic++t0.free) ((T k).basic++(T k).free) λv C=>(a k).1.perm.mem_iff.1 C;rwa [γi,(a k).1.wf.basic,(a k).1.wf.free] at f
 obtain⟨y,x⟩:=List.append_inj B (by rw[(a i).1.wf.basic,(a j).1.wf.basic]);exact acS (λk=>(a k).1) (λk=>(a k).2) (λk=>(h k).1) (λk=>(h k).2) g y x
end
def fL (l:List Rat):List bL:=l.map bu
def fM (l:List (List Rat)):List (List bL):=l.map fL
def vL (l:List bL):List Rat:=l.map bW
theorem kO (l:List Rat):vL (fL l)=l:=by
 unfold vL fL;rw[γ3];conv=>rhs;rw[<-List.map_id l]
 exact γY λq _=>ez q
theorem jO (x:bL):(x.1,x.2.1,x.2.2)=x:=rfl
theorem fF {l:List Rat}:(fL l).length=l.length:=Ξ _
theorem JV {l:List (List Rat)}:(fM l).length=l.length:=Ξ _
theorem jz {l:List Rat} {i:Nat} (h:i<l.length) {d:bL}:bj (fL l) i d=bu (bj l i 0):=by
 grind[cV,fL]
theorem JW {l:List (List Rat)} {i:Nat} (h:i<l.length) {d:List bL}:bj (fM l) i d=fL (bj l i []):=by
 grind[cV,fM]
structure nM where
 n:Int
 m:Int
 k0:Nat
 k1:Nat
 k3:Nat
 k4:Nat
 cj:List (List bL)
 bound:List bL
 cost:List bL
 v:bL
 basic:List Int
 free:List Int
def nM.gR (x:nM):bZ:=
 [.cells [.si .i64 x.n,.si .i64 x.m,.ow 1 x.k0 1,.ow 2 x.k1 3,.row sF x.cost,.sb x.v.1,.row (.i .u32) x.v.2.1,.row (.i .u32) x.v.2.2,.ow 3 x.k3 1,.ow 4 x.k4 1] 261 10 false,
  .row (.bD sF) x.cj 106 false,.row sF x.bound 177 false,.row (.i .i64) x.basic 3 false,.row (.i .i64) x.free 3 false]
def Eu:bZ->Option nM
 |[.cells [a,b,.ow 1 k0 1,.ow 2 k1 3,c,v0,v1,v2,.ow 3 k3 1,.ow 4 k4 1] 261 10 false,.row s1 l1 106 false,.row s2 l2 177 false,.row s3 l3 3 false,.row s4 l4 3 false]=>
  match a.int .i64,b.int .i64,jJ sF c,jW sF [v0,v1,v2] with
  |some a,some b,some c,some v=>match iH s1 (.bD sF) l1,iH s2 sF l2,iH s3 (.i .i64) l3,iH s4 (.i .i64) l4 with
   |some l1,some l2,some l3,some l4=>some ⟨a,b,k0,k1,k3,k4,l1,l2,c,v,l3,l4⟩
   |_,_,_,_=>none
  |_,_,_,_=>none
 |_=>none
theorem adq {o:bZ} {x:nM} (h:Eu o=some x):gO o=gO x.gR:=by
 unfold Eu at h;split at h
 ·split at h
  ·rename_i p l c e;split at h
   ·rename_i n j k m;simp only[γ] at h;subst h;obtain⟨rfl,f⟩:=mJ n;obtain⟨rfl,b⟩:=mJ j;obtain⟨rfl,d⟩:=mJ k;obtain⟨rfl,i⟩:=mJ m;cases f;cases b;cases d;cases i;have a:=nY e;simp only[π,γr,dP,dy,Γ,and_true,List.nil_append,List.cons_append] at a;simp only[nM.gR,gO,π,γr,bq.g,gL,iP p,iP l,pe c,SV.g];simp only[a];rfl
   ·cases h
  ·cases h
 ·cases h
theorem pA {s:bp} {a b:List s.T} (h:cF s a=cF s b):a=b:=by
 by_cases d:s.sz=0;·exact absurd d (by
   have:∀s:bp,0<s.sz:=λs=>by
    induction s<;>simp only[bp.sz]<;>omega
   grind)
 ·have c:=congrArg γc h;rw[eY,eY] at c;exact lA s (Nat.eq_of_mul_eq_mul_right (by omega) c) h
theorem adr {x y:nM} (h:gO x.gR=gO y.gR):x=y:=by
 obtain⟨n,m,B,M,G,J,c,b,g,⟨I,K,F⟩,D,C⟩:=x;obtain⟨H,L,a,p,r,l,N,E,A,⟨k,w,q⟩,j,u⟩:=y;simp only[nM.gR,gO,π,γr,bq.g,gL,SV.g,Γ,bR.cells.injEq,and_true,true_and,AV.sc.injEq,Value.int.injEq,Value.bool.injEq,AV.os.injEq,δ5] at h;obtain⟨⟨rfl,rfl,⟨rfl,_⟩,⟨rfl,_⟩,⟨_,d⟩,rfl,⟨_,v⟩,⟨_,e⟩,⟨rfl,_⟩,⟨rfl,_⟩⟩,f,t,o,z⟩:=h;rw[pA (s:=sF) d,pA (s:=.i .u32) v,pA (s:=.i .u32) e,pA (s:=.bD sF) f,pA (s:=sF) t,pA (s:=.i .i64) o,pA (s:=.i .i64) z]
abbrev bH (n m:Int) (t:Tb):nM:=⟨n,m,t.cj.length,t.bound.length,t.basic.length,t.free.length,fM t.cj,fL t.bound,fL t.cost,bu t.value,t.basic,t.free⟩
def nM.t (x:nM):Tb:=⟨x.cj.map vL,vL x.bound,vL x.cost,bW x.v,x.basic,x.free⟩
theorem td {n m:Int} {t:Tb}:(bH n m t).t=t:=by
 have e:(fM t.cj).map vL=t.cj:=by
  unfold fM;rw[γ3];conv=>rhs;rw[<-List.map_id t.cj]
  exact γY λq _=>kO q
 simp_all[nM.t,kO,ez]
theorem ads (x:nM):(⟨x.n,x.m,x.k0,x.k1,x.k3,x.k4,x.cj,x.bound,x.cost,(x.v.1,x.v.2.1,x.v.2.2),x.basic,x.free⟩:nM)=x:=rfl
theorem Tz {n m:Int} {t:Tb}:(bH n m t).n=n:=rfl
theorem TA {n m:Int} {t:Tb}:(bH n m t).m=m:=rfl
def wG (k:Nat) (t:Tb):Prop:=(∀l∈t.cj,∀q∈l,Sz k q)/\(∀q∈t.bound,Sz k q)/\(∀q∈t.cost,Sz k q)/\Sz k t.value
def kP (n m:Int) (t:Tb):Prop:=((0<=n/\n<=1000)/\(0<=m/\m<=1000))/\t.WF n.toNat m.toNat/\wG 1000000 t
def uL (f:FuncId) (c:Type) (A:qC c) (i:Int->Int->Tb->c->Prop) (e:Int->Int->Tb->c->SV) (out:Int->Int->Tb->c->Tb):dG where
 f:=f;α:=nM×c;put a:=.ptr 0 0 10::A.put a.2;st a:=a.1.gR;dec v o:=match v with
  | .ptr 0 0 10::r=>match Eu o,A.dec r with
   |some s,some b=>some (s,b)
   |_,_=>none
  |_=>none;ok v o a h:=by
  split at h
  ·split at h
   ·rename_i d g;simp only[γ] at h;subst h;exact⟨by simp only[gL,A.ok _ _ g],adq d⟩
   ·cases h
  ·cases h
 inj a b d g:=by
  simp only[gL,Γ,true_and] at d;exact Prod.ext (adr g) (A.inj _ _ d)
 dom a:=∃n m t,a.1=bH n m t/\kP n m t/\i n m t a.2;res a:=e a.1.n a.1.m a.1.t a.2;out a:=(bH a.1.n a.1.m (out a.1.n a.1.m a.1.t a.2)).gR
theorem dN {q:Rat} {k:Nat} (h:Sz k q) (a:k<=100000000):cE (bu q):=⟨q,k,rfl,h,a⟩
section
variable {n m:Int} {t:Tb}
theorem kP.cf (h:kP n m t) {i j:Nat} (a:i<m.toNat) (c:j<n.toNat):Sz 1000000 (t.cf i j):=by
 have b:=dq (l:=t.cj) (d:=[]) (show i<t.cj.length by rw[h.2.1.cj];exact a);exact h.2.2.1 _ b _ (dq (by rw[h.2.1.row i a];exact c))
theorem kP.bd (h:kP n m t) {i:Nat} (a:i<m.toNat):Sz 1000000 (t.bd i):=h.2.2.2.1 _ (dq (by rw[h.2.1.bound];exact a))
theorem kP.cs (h:kP n m t) {j:Nat} (a:j<n.toNat):Sz 1000000 (t.cs j):=h.2.2.2.2.1 _ (dq (by rw[h.2.1.cost];exact a))
end
theorem uM {q:Rat}:0<jN q↔0<q:=by
 grind[jN]
theorem JX {q:Rat}:jN q=0↔q=0:=by
 grind[jN]
theorem Bn {q:Rat}:jN q<0↔q<0:=by
 grind[jN]
def JY:dG:=uL 179 Unit .nil (λ_ _ _ _=>True) (λn _ t _=> .si .i64 (eA t n.toNat)) (λ_ _ t _=>t)
def adt (n m:Int) (t:Tb):Nat->cC
 |3=> .inv Int (λj=>⟨[(0,.ptr 0 0 10),(3,.si .i64 (eA t j.toNat)),(9,.ow 4 t.free.length 1),(10,.si .i64 t.free.length),(11,.si .i64 j)],(bH n m t).gR⟩)
   (λs=>iS s 11) (λj=>0<=j/\j<=n) (λj=>(n - j).toNat) λ_ _=> .look
 |_=> .look
theorem h411:ec Tryz.prog JY:=by
 refine lB (L:=[s9]) (W:=[]) JY (λa=>adt a.1.n a.1.m a.1.t) (by simp) (by simpa using h99) ?_;rintro⟨x,u⟩ ⟨n,m,t,hx,hok, -⟩;simp only at hx;subst hx;refine bQ (let a:=γg .i64;let b:=(0:Int);let c:=bq.row;let d:=γZ;let e:=Ω;let r:=γP 0 0 10;let s:=(bH n m t).t;let F:=d 4 (bH n m t).k4 1;let y:=s.free.length;let z:=d 4 y 1;let A:=a (↑y:Int);let g:=(bH n m t).n;let B:=bp.i .u32;let f:=bH g (bH n m t).m s;let k:=bq.cells [a f.n,a f.m,d 1 f.k0 1,d 2 f.k1 3,e sF f.cost,γx f.v.fst,e B f.v.snd.fst,e B f.v.snd.snd,d 3 f.k3 1,d 4 f.k4 1] 261 10 false;let l:=c sF.bD f.cj 106 false;let o:=c sF f.bound 177 false;let C:=bp.i .i64;let p:=c C f.basic 3 false;let q:=c C f.free 3 false;let j:=f.free.length;(((r.same r/\(γA .i64 (-1:Int)).same (a (eA s 0))/\F.same z/\(a (↑(bH n m t).k4:Int)).same A/\(γA .i64 0).same (a 0)/\True)/\(bq.cells [a g,a (bH n m t).m,d 1 (bH n m t).k0 1,d 2 (bH n m t).k1 3,e sF (bH n m t).cost,γx (bH n m t).v.fst,e B (bH n m t).v.snd.fst,e B (bH n m t).v.snd.snd,d 3 (bH n m t).k3 1,F] 261 10 false).same k/\(c sF.bD (bH n m t).cj 106 false).same l/\(c sF (bH n m t).bound 177 false).same o/\(c C (bH n m t).basic 3 false).same p/\(c C (bH n m t).free 3 false).same q/\True)/\b<=b/\b<=g)/\∀(x:Int),let h:=x+(1:Int);let w:=eA s x.toNat;let G:=a w;let H:=a (eA s h.toNat);let D:=a h;let E:=bj f.cost x.toNat sF.dflt;let I:=(E.fst,E.snd.fst,E.snd.snd);let J:=decide (x<(↑y:Int));let K:=decide (w<b);let L:=decide (bj f.free x.toNat b<bj f.free w.toNat b);let M:=cq .i64 h/\((r.same r/\G.same H/\z.same z/\A.same A/\D.same D/\True)/\k.same k/\l.same l/\o.same o/\p.same p/\q.same q/\True)/\(b<=h/\h<=g)/\(g - h).toNat<(g - x).toNat;let N:=cq .i64 h/\((r.same r/\(a x).same H/\z.same z/\A.same A/\D.same D/\True)/\k.same k/\l.same l/\o.same o/\p.same p/\q.same q/\True)/\(b<=h/\h<=g)/\(g - h).toNat<(g - x).toNat;let O:=λ(u:Bool) ↦decide (b<jN (bW I))=u;b<=x/\x<=g->(J=true->y=j/\b<=x/\x<(↑j:Int)/\y=j/\x.toNat<j/\b<=x/\x<(↑f.cost.length:Int)/\x.toNat<f.cost.length/\cE I/\(O true->(K=true->N)/\(K=false->f.k4=j/\b<=w/\w<(↑j:Int)/\f.k4=j/\w.toNat<j/\(L=true->N)/\(L=false->M)))/\(O false->M))/\(J=false->G.same (a (eA s g.toNat))/\k.same k/\l.same l/\o.same o/\p.same p/\q.same q/\True)) (by kernel_rfl) ?_;simp only[td];try simp only[bH]
 simp only[vcs];obtain⟨⟨⟨n0,n1⟩,m0,m1⟩,hw,hz⟩:=id hok;have hfl:=hw.free;have hcl:=hw.cost;have hfc:=@fF t.cost;refine⟨⟨rfl,by omega,by omega⟩,?_⟩;rintro j ⟨j0,j1⟩;have hs:eA t (j+1).toNat=if 0<t.cs j.toNat/\(eA t j.toNat<0\/t.fv j.toNat<t.fv (eA t j.toNat).toNat) then(j.toNat:Int) else eA t j.toNat:=by
  rw[show(j+1).toNat=j.toNat+1 by omega];rfl
 have hb:eA t j.toNat<j.toNat:=by
  rcases @uK t j.toNat with⟨h,_⟩|⟨b,h,hlt,_⟩<;>omega
 refine⟨λhj=>?_,λhj=>by rw[show j.toNat=n.toNat by omega]⟩;have hc:bj (fL t.cost) j.toNat sF.dflt=bu (t.cs j.toNat):=jz (by omega);simp only[hc,jO,ez,decide_eq_true_eq,decide_eq_false_iff_not,uM];have Ew:∀k:Nat,bj t.free k 0=t.fv k:=λk=>rfl;rw[Ew,Ew,hs];refine⟨j0,hj,by omega,j0,by omega,by omega,dN (hok.cs (by omega)) (by omega),λhp=>⟨λhn=>?_,λhn=>⟨by omega,by omega,by omega,λhl=>?_,λhl=>?_⟩⟩,λhp=>?_⟩
 ·rw[if_pos ⟨hp,.inl hn⟩];omega
 ·rw[if_pos ⟨hp,.inr hl⟩];omega
 ·rw[if_neg λh=>h.2.elim hn hl];omega
 ·rw[if_neg λh=>hp h.1];omega
def nN (t:Tb) (c k:Nat):bL:=if dS t c k<0 then(false,([],[])) else bu (t.bd (dS t c k).toNat / t.cf (dS t c k).toNat c)
def JZ:dG:=uL 180 Int (.one (eZ .i64)) (λn _ _ c=>0<=c/\c<n) (λ_ m t c=> .si .i64 (dS t c.toNat m.toNat)) (λ_ _ t _=>t)
def adu (n m:Int) (t:Tb) (c:Int):Nat->cC
 |4=> .inv Int (λi=>⟨[(0,.ptr 0 0 10),(1,.si .i64 c),(5,.si .i64 (dS t c.toNat i.toNat)),(6,.ptr 5 0 3),(15,.ow 1 t.cj.length 1),(16,.si .i64 t.cj.length),(17,.si .i64 i)],(bH n m t).gR++[.cells [.sb (nN t c.toNat i.toNat).1,.row (.i .u32) (nN t c.toNat i.toNat).2.1,.row (.i .u32) (nN t c.toNat i.toNat).2.2] 177 3 false,.dead,.dead]⟩)
   (λs=>iS s 17) (λi=>0<=i/\i<=m) (λi=>(m - i).toNat) λ_ _=> .look
 |_=> .look
theorem h412:ec Tryz.prog JZ:=by
 refine lB (L:=[s9,yC,Et]) (W:=[]) JZ (λa=>adu a.1.n a.1.m a.1.t a.2) (by simp) (by simpa using⟨h99,h97,h416⟩) ?_;rintro⟨x,c⟩ ⟨n,m,t,hx,hok,hd⟩;simp only at hx hd;subst hx;refine bQ (let a:=γg .i64;let b:=(0:Int);let d:=Ω;let e:=bq.cells;let f:=bq.row;let g:=γZ;let h:=γx;let A:=γP 0 0 10;let p:=(bH n m t).t;let B:=γP 5 0 3;let U:=g 1 (bH n m t).k0 1;let H:=p.cj.length;let I:=g 1 H 1;let J:=a (↑H:Int);let l:=(bH n m t).m;let k:=bp.i .u32;let j:=bH (bH n m t).n l p;let r:=e [a j.n,a j.m,g 1 j.k0 1,g 2 j.k1 3,d sF j.cost,h j.v.fst,d k j.v.snd.fst,d k j.v.snd.snd,g 3 j.k3 1,g 4 j.k4 1] 261 10 false;let C:=j.cj;let s:=f sF.bD C 106 false;let D:=j.bound;let w:=f sF D 177 false;let L:=bp.i .i64;let y:=f L j.basic 3 false;let z:=f L j.free 3 false;let O:=nN p c.toNat 0;let a9:=sF.bD.dflt;let q:=j.basic.length;0=0/\0=0/\(((A.same A/\(a c).same (a c)/\(γA .i64 (-1:Int)).same (a (dS p c.toNat 0))/\B.same B/\U.same I/\(a (↑(bH n m t).k0:Int)).same J/\(γA .i64 0).same (a 0)/\True)/\(e [a (bH n m t).n,a l,U,g 2 (bH n m t).k1 3,d sF (bH n m t).cost,h (bH n m t).v.fst,d k (bH n m t).v.snd.fst,d k (bH n m t).v.snd.snd,g 3 (bH n m t).k3 1,g 4 (bH n m t).k4 1] 261 10 false).same r/\(f sF.bD (bH n m t).cj 106 false).same s/\(f sF (bH n m t).bound 177 false).same w/\(f L (bH n m t).basic 3 false).same y/\(f L (bH n m t).free 3 false).same z/\(e [δf false,d k [],d k []] 177 3 false).same (e [h O.fst,d k O.snd.fst,d k O.snd.snd] 177 3 false)/\bq.dead.same bq.dead/\bq.dead.same bq.dead/\True)/\b<=b/\b<=l)/\∀(x:Int),let o:=x+(1:Int);let V:=a (dS p c.toNat o.toNat);let M:=a o;let P:=bj D x.toNat sF.dflt;let W:=(P.fst,P.snd.fst,P.snd.snd);let K:=bj C x.toNat a9;let Q:=bj K c.toNat sF.dflt;let N:=(Q.fst,Q.snd.fst,Q.snd.snd);let E:=bu (bW W / bW N);let R:=nN p c.toNat o.toNat;let X:=e [h R.fst,d k R.snd.fst,d k R.snd.snd] 177 3 false;let F:=dS p c.toNat x.toNat;let Y:=a F;let G:=nN p c.toNat x.toNat;let Z:=(E.fst,E.snd.fst,E.snd.snd);let a0:=(G.fst,G.snd.fst,G.snd.snd);let a1:=iU (bW Z) (bW a0);let a2:=decide (x<(↑H:Int));let a3:=decide (b<=F);let a4:=decide (bj j.basic F.toNat b<bj j.basic x.toNat b);let S:=cq .i64 o/\((A.same A/\(a c).same (a c)/\(a x).same V/\B.same B/\I.same I/\J.same J/\M.same M/\True)/\r.same r/\s.same s/\w.same w/\y.same y/\z.same z/\(e [h E.fst,d k E.snd.fst,d k E.snd.snd] 177 3 false).same X/\bq.dead.same bq.dead/\bq.dead.same bq.dead/\True)/\(b<=o/\o<=l)/\(l - o).toNat<(l - x).toNat;let T:=cq .i64 o/\((A.same A/\(a c).same (a c)/\Y.same V/\B.same B/\I.same I/\J.same J/\M.same M/\True)/\r.same r/\s.same s/\w.same w/\y.same y/\z.same z/\(e [h G.fst,d k G.snd.fst,d k G.snd.snd] 177 3 false).same X/\bq.dead.same bq.dead/\bq.dead.same bq.dead/\True)/\(b<=o/\o<=l)/\(l - o).toNat<(l - x).toNat;let a5:=cE N;let a6:=λ(u:Bool) ↦decide (b<a1)=u;let a7:=λ(u:Bool) ↦decide (a1=b)=u;let a8:=λ(u:Bool) ↦decide (jN (bW N)<=b)=u;b<=x/\x<=l->(a2=true->H=C.length/\b<=x/\x<(↑C.length:Int)/\H=C.length/\x.toNat<C.length/\b<=c/\c<(↑K.length:Int)/\c.toNat<K.length/\a5/\(a8 true->T)/\(a8 false->j.k1=D.length/\b<=x/\x<(↑D.length:Int)/\j.k1=D.length/\x.toNat<D.length/\b<=c/\c<(↑K.length:Int)/\c.toNat<K.length/\((cE W/\a5)/\bW N≠(0:Rat))/\(a3=true->(cE Z/\cE a0)/\(a6 true->T)/\(a6 false->(a7 true->j.k3=q/\b<=x/\x<(↑q:Int)/\j.k3=q/\x.toNat<q/\j.k3=q/\b<=F/\F<(↑q:Int)/\j.k3=q/\F.toNat<q/\(a4=true->T)/\(a4=false->S))/\(a7 false->S)))/\(a3=false->S)))/\(a2=false->Y.same (a (dS p c.toNat l.toNat))/\r.same r/\s.same s/\w.same w/\y.same y/\z.same z/\True)) (by kernel_rfl) ?_;simp only[td];try simp only[bH]
 simp only[vcs];obtain⟨⟨⟨n0,n1⟩,m0,m1⟩,hw,hz⟩:=id hok;have hkl:=hw.cj;have hbl:=hw.bound;have hbb:=hw.basic;have hfm:=@JV t.cj;have J0:=@fF t.bound;have hcell:∀{x y:bL},x=y->(bq.cells [γx x.1,Ω (bp.i IntKind.u32) x.2.1,Ω (bp.i IntKind.u32) x.2.2] 177 3 false).same (bq.cells [γx y.1,Ω (bp.i IntKind.u32) y.2.1,Ω (bp.i IntKind.u32) y.2.2] 177 3 false):=by rintro _ _ rfl;rfl
 have hl0:nN t c.toNat 0=(false,([],[])):=rfl;refine⟨⟨⟨rfl,by rw[hl0];rfl⟩,by omega,by omega⟩,?_⟩;rintro i ⟨i0,i1⟩;refine⟨λhi=>?_,λhi=>by rw[show i.toNat=m.toNat by omega]⟩;have him:i.toNat<m.toNat:=by omega
 have hrow:bj (fM t.cj) i.toNat sF.bD.dflt=fL (bj t.cj i.toNat []):=JW (by omega);have hrl:=hw.row i.toNat him;have hfr:=@fF (bj t.cj i.toNat []);have hA:bj (fL (bj t.cj i.toNat [])) c.toNat sF.dflt=bu (t.cf i.toNat c.toNat):=jz (by omega);have hB:bj (fL t.bound) i.toNat sF.dflt=bu (t.bd i.toNat):=jz (by omega);have hbv:∀k:Nat,bj t.basic k 0=t.bv k:=λk=>rfl;have hsA:=hok.cf (i:=i.toNat) (j:=c.toNat) him (by omega);have hsB:=hok.bd (i:=i.toNat) him;have hs:dS t c.toNat (i+1).toNat=if t.cf i.toNat c.toNat<=0 then dS t c.toNat i.toNat
  else if 0<=dS t c.toNat i.toNat/\(t.bd (dS t c.toNat i.toNat).toNat / t.cf (dS t c.toNat i.toNat).toNat c.toNat<t.bd i.toNat / t.cf i.toNat c.toNat\/(t.bd i.toNat / t.cf i.toNat c.toNat=t.bd (dS t c.toNat i.toNat).toNat / t.cf (dS t c.toNat i.toNat).toNat c.toNat/\t.bv (dS t c.toNat i.toNat).toNat<t.bv i.toNat)) then dS t c.toNat i.toNat
  else(i.toNat:Int):=by
  rw[show(i+1).toNat=i.toNat+1 by omega];rfl
 have hlb:dS t c.toNat i.toNat<i.toNat:=by
  rcases @wF t c.toNat i.toNat with⟨h,_⟩|⟨b,h,hlt,_⟩<;>omega
 have hlp:0<=dS t c.toNat i.toNat->0<t.cf (dS t c.toNat i.toNat).toNat c.toNat:=λh=>by
  rcases @wF t c.toNat i.toNat with⟨h2,_⟩|⟨b,h2,hlt,hp,_⟩;·omega
  ·rw[h2,γl];exact hp
 have adv:∀q:Rat,jN q<=0↔q<=0:=λq=>by
  have:=@uM q;constructor;·intro h;exact Rat.not_lt.1 λh2=>by have:=this.2 h2;omega
  ·intro h;exact Int.not_lt.1 λh2=>Rat.not_lt.2 h (this.1 h2)
 simp only[hrow,hA,hB,jO,ez,hbv,adv,ado,adp];have adw:0<=dS t c.toNat i.toNat->nN t c.toNat i.toNat=bu (t.bd (dS t c.toNat i.toNat).toNat / t.cf (dS t c.toNat i.toNat).toNat c.toNat):=λh=>by
  unfold nN;rw[if_neg (by omega)]
 have tail:(0<=i+1/\i+1<=m)/\(m - (i+1)).toNat<(m - i).toNat:=by omega
 have keep:dS t c.toNat (i+1).toNat=dS t c.toNat i.toNat->nN t c.toNat i.toNat=nN t c.toNat (i+1).toNat:=λh=>by
  unfold nN;rw[h]
 have new:dS t c.toNat (i+1).toNat=(i.toNat:Int)->bu (t.bd i.toNat / t.cf i.toNat c.toNat)=nN t c.toNat (i+1).toNat:=λh=>by
  unfold nN;rw[h,if_neg (by omega),γl]
 have hnz:0<t.cf i.toNat c.toNat->t.cf i.toNat c.toNat≠0:=λh=>by grind
 refine⟨by omega,i0,by omega,by omega,by omega,hd.1,by omega,by omega,dN hsA (by omega),λhle=>?_,λhgt=>?_⟩
 ·have e:dS t c.toNat (i+1).toNat=dS t c.toNat i.toNat:=by rw[hs,if_pos hle]
  exact⟨by omega,⟨e.symm,hcell (keep e)⟩,tail⟩
 ·have hp:0<t.cf i.toNat c.toNat:=Rat.not_le.1 hgt;rw[if_neg hgt] at hs;have adx:=JQ hsB hsA (hnz hp);refine⟨by omega,i0,by omega,by omega,by omega,hd.1,by omega,by omega,⟨⟨dN hsB (by omega),dN hsA (by omega)⟩,hnz hp⟩,λh0=>?_,λh0=>?_⟩
  ·have hl:=adw h0;have hsl:=JQ (hok.bd (i:=(dS t c.toNat i.toNat).toNat) (by omega)) (hok.cf (i:=(dS t c.toNat i.toNat).toNat) (j:=c.toNat) (by omega) (by omega)) (by have:=hlp h0;grind);have hvl:bW (nN t c.toNat i.toNat)=t.bd (dS t c.toNat i.toNat).toNat / t.cf (dS t c.toNat i.toNat).toNat c.toNat:=by rw[hl,ez]
   simp only[hvl];refine⟨⟨dN adx (by omega),by rw[hl];exact dN hsl (by omega)⟩,λhlt=>?_,λhlt=>⟨λheq=>⟨i0,by omega,by omega,h0,by omega,by omega,λhbl=>?_,λhbl=>?_⟩,λheq=>?_⟩⟩
   ·rw[if_pos ⟨h0,.inl hlt⟩] at hs;exact⟨by omega,⟨hs.symm,hcell (keep hs)⟩,tail⟩
   ·rw[if_pos ⟨h0,.inr ⟨heq,hbl⟩⟩] at hs;exact⟨by omega,⟨hs.symm,hcell (keep hs)⟩,tail⟩
   ·rw[if_neg λh=>h.2.elim hlt λh2=>hbl h2.2] at hs;exact⟨by omega,⟨by omega,hcell (new hs)⟩,tail⟩
   ·rw[if_neg λh=>h.2.elim hlt λh2=>heq h2.1] at hs;exact⟨by omega,⟨by omega,hcell (new hs)⟩,tail⟩
  ·rw[if_neg λh=>h0 h.1] at hs;exact⟨by omega,⟨by omega,hcell (new hs)⟩,tail⟩
def ei (a:Tb) (v:Int):Rat:=if v∈a.free then a.cs (a.free.idxOf v) else 0
section
variable {n m:Nat} {t t0:Tb}
theorem Run.goal (h:Run n m t0 t) {x:Int->Rat} {z:Rat} (d:t.holds n m x z):z=t0.value+(bO m (λk=>ei t0 (t.bv k)*x (t.bv k))+bO n (λj=>ei t0 (t.fv j)*x (t.fv j))):=by
 have a:∀t:Tb,t.WF n m->mh (λv=>ei t0 v*x v) (t.basic++t.free)=bO m (λk=>ei t0 (t.bv k)*x (t.bv k))+bO n (λj=>ei t0 (t.fv j)*x (t.fv j)):=λt c=>by
  rw[A7,qN,qN,c.basic,c.free];rfl
 rw[<-a t h.wf,JA h.perm,a t0 h.oG];rw[dJ (n:=m) (g:=λ_=>0) λk e=>by
  unfold ei;rw[if_neg (JB h.oG h.nd e)];grind,iT];rw[dJ (n:=n) (g:=λj=>t0.cs j*x (t0.fv j)) λj b=>by
  have i:j<t0.free.length:=by rw[h.oG.free];exact b
  unfold ei;rw[if_pos (wy h.oG b),show t0.free.idxOf (t0.fv j)=j from py (γs.1 h.nd).2.1 i]];have f:=(((h.mQ _ _).1 d).2);rw[f];grind
theorem Run.val (h:Run n m t0 t):t.value=t0.value+bO m λk=>ei t0 (t.bv k)*t.bd k:=by
 have a:=h.goal (asg_holds h.wf h.gp (y:=λ_=>0));rw[dJ (n:=n) (f:=λj=>t.cs j*(λ_=>(0:Rat)) j) (g:=λ_=>0) λj _=>by grind,iT] at a;rw[dJ (n:=n) (f:=λj=>ei t0 (t.fv j)*jw n t (λ_=>0) (t.fv j)) (g:=λ_=>0) λj c=>by rw[mP h.wf h.gp c];grind,iT] at a;rw[dJ (n:=m) (g:=λk=>ei t0 (t.bv k)*t.bd k) λk b=>by
  rw[nL h.wf h.gp b,dJ (g:=λ_=>0) λj _=>by grind,iT];grind] at a;grind
theorem uN {n c:Nat} {q:Rat} (d:c<n):bO n (λj=>if j=c then q else 0)=q:=by
 induction n with
 |zero=>omega;|succ n b=>
  unfold bO;by_cases h:c=n
  ·subst h;rw[if_pos rfl,dJ (g:=λ_=>0) λj a=>by grind,iT];grind
  grind
theorem J1 {f g:Nat->Rat}:∀{n:Nat},bO n (λj=>f j - g j)=bO n f - bO n g
 |0=>by grind[bO];|n+1=>by simp only[bO,@J1 f g n];grind
theorem Run.ady (h:Run n m t0 t) {c:Nat} (b:c<n):t.cs c=ei t0 (t.fv c) - bO m λk=>ei t0 (t.bv k)*t.cf k c:=by
 have a:=h.goal (asg_holds h.wf h.gp (y:=λj=>if j=c then 1 else 0));rw[dJ (n:=n) (f:=λj=>t.cs j*(if j=c then(1:Rat) else 0)) (g:=λj=>if j=c then t.cs c else 0) λj _=>by
  grind,uN b] at a;rw[dJ (n:=n) (f:=λj=>ei t0 (t.fv j)*jw n t (λj=>if j=c then 1 else 0) (t.fv j)) (g:=λj=>if j=c then ei t0 (t.fv c) else 0) λj e=>by
  rw[mP h.wf h.gp e];grind,uN b] at a;rw[dJ (n:=m) (g:=λk=>ei t0 (t.bv k)*t.bd k - ei t0 (t.bv k)*t.cf k c) λk d=>by
  rw[nL h.wf h.gp d,dJ (g:=λj=>if j=c then t.cf k c else 0) λj _=>by
   grind,uN b];grind,J1,h.val] at a;grind
end
theorem J2 {M K:Nat} {p q:Rat} (e:fc M p) (f:fc K q):fc (M*K) (p*q):=by
 obtain⟨a,rfl,d⟩:=e;obtain⟨b,rfl,c⟩:=f;exact⟨a*b,by simp_all,by rw[εt];exact ζm d c⟩
theorem TB {M K:Nat} {p q:Rat} (d:fc M p) (c:fc K q):fc (M+K) (p+q):=by
 obtain⟨a,rfl,f⟩:=d;obtain⟨b,rfl,e⟩:=c;exact⟨a+b,by simp_all,by omega⟩
theorem adz {M:Nat} {p:Rat} (b:fc M p):fc M (-p):=by
 obtain⟨a,rfl,c⟩:=b;exact⟨-a,by simp_all,by omega⟩
theorem TC {M:Nat}:fc M 0:=⟨0,rfl,by simp⟩
theorem fc.le {M K:Nat} {p:Rat} (b:fc M p) (h:M<=K):fc K p:=by
 obtain⟨a,rfl,c⟩:=b;exact⟨a,rfl,by omega⟩
theorem J3 {M:Nat} {f:Nat->Rat}:∀{n:Nat},(∀k,k<n->fc M (f k))->fc (n*M) (bO n f)
 |0,_=>by grind[bO,TC];|n+1,h=>by
  have a:=TB (@J3 M f n λk b=>h k (by omega)) (h n (by omega));grind[bO]
theorem J4 {f:Nat->Rat} {d:Rat}:∀{n:Nat},bO n f*d=bO n λk=>f k*d
 |0=>by grind[bO];|n+1=>by
  have:=@J4 f d n;grind[bO]
theorem adA {X k:Nat} {q D:Rat} (f:fc X (q*D)) (c:fc X D) (g:D≠0) (o:X<4294967296^k):Sz k q:=by
 obtain⟨a,p,l⟩:=f;obtain⟨d,rfl,m⟩:=c;have b:d≠0:=λh=>g (by subst h;rfl);have n:((4294967296^k:Nat):Int)=(4294967296:Int)^k:=by
  simp_all
 have i:(X:Int)<4294967296^k:=by
  omega
 have e:q=mkRat (a*d.sign) d.natAbs:=by
  have f:mkRat (a*d.sign) d.natAbs=((a*d.sign:Int):Rat) / ((d.natAbs:Int):Rat):=by
   rw[δC];rfl
  have c:((d.natAbs:Int):Rat)=(d:Rat)*(d.sign:Rat):=by
   rw[<-Rat.intCast_mul];simp_all
  have j:(d.sign:Rat)*(d.sign:Rat)=1:=by
   rw[<-Rat.intCast_mul];rcases Int.lt_or_lt_of_ne b with h|h;·rw[Int.sign_eq_neg_one_of_neg h];rfl
   grind
  grind
 rw[e];refine Bf (by omega) ?_ (by omega);grind
structure Small (n m M G:Nat) (t0:Tb):Prop where
 wf:t0.WF n m
 nd:(t0.basic++t0.free).Nodup
 cf:∀i j,i<m->j<n->fc M (t0.cf i j)
 bd:∀i,i<m->fc M (t0.bd i)
 cs:∀j,j<n->fc G (t0.cs j)
 v:t0.value=0
 M1:1<=M
 G1:M<=G
 X:(m+2)*(G*nK M m)<4294967296^1000
theorem adB {a b c:Nat} (h:1<=a) (d:1<=b):c<=a*(b*c):=by
 have e:1*(1*c)<=a*(b*c):=ζm h (ζm d (Nat.le_refl _));omega
theorem Small.goal {n m M G:Nat} {t0:Tb} (h:Small n m M G t0) {v:Int}:fc G (ei t0 v):=by
 unfold ei;split
 ·rename_i a;exact h.cs _ (by rw[<-h.wf.free];grind)
 ·exact TC
theorem Small.TD {n m M G:Nat} {t0 t:Tb} (h:Small n m M G t0) (a:Run n m t0 t):(∀i,i<m->Sz 1000 (t.bd i))/\(∀j,j<n->Sz 1000 (t.cs j))/\Sz 1000 t.value/\∀i j,i<m->j<n->Sz 1000 (t.cf i j):=by
 have y:=a.acM h.M1 h.cf;have A:=h.X;have B:1<=G:=Nat.le_trans h.M1 h.G1;have u:nK M m<=(m+2)*(G*nK M m):=adB (by omega) B;have l:∀{q:Rat},fc ((m+2)*(G*nK M m)) (q*jy m t0 t)->Sz 1000 q:=λz=>adA z (y.le u) a.dt A;have d:∀r c,r<m->c<n->fc (nK M m) (t.cf r c*jy m t0 t):=λr c o d=>a.cfZ h.M1 h.cf o d;have x:∀r,r<m->fc (nK M m) (t.bd r*jy m t0 t):=λr o=>a.bdZ h.M1 h.cf h.bd o;refine⟨λi w=>l ((x i w).le u),λj b=>l ?_,l ?_,λi j w b=>l ((d i j w b).le u)⟩
 ·have e:=a.ady b;have p:t.cs j*jy m t0 t=ei t0 (t.fv j)*jy m t0 t+ -(bO m λk=>ei t0 (t.bv k)*(t.cf k j*jy m t0 t)):=by
   rw[e,dJ (f:=λk=>ei t0 (t.bv k)*(t.cf k j*jy m t0 t)) (g:=λk=>(ei t0 (t.bv k)*t.cf k j)*jy m t0 t) λk _=>by grind,<-J4];grind
  rw[p];refine(TB (J2 h.goal y) (adz (J3 λk s=>J2 h.goal (d k j s b)))).le ?_;grind
 ·have p:t.value*jy m t0 t=bO m λk=>ei t0 (t.bv k)*(t.bd k*jy m t0 t):=by
   rw[a.val,h.v,dJ (f:=λk=>ei t0 (t.bv k)*(t.bd k*jy m t0 t)) (g:=λk=>(ei t0 (t.bv k)*t.bd k)*jy m t0 t) λk _=>by grind,<-J4];grind
  rw[p];refine(J3 λk s=>J2 h.goal (x k s)).le ?_;grind
theorem Small.wG {n m M G:Nat} {t0 t:Tb} (h:Small n m M G t0) (b:Run n m t0 t):wG 1000000 t:=by
 obtain⟨g,r,k,o⟩:=h.TD b;have e:∀{f:Type} {l:List f} {P:f->Prop} {d:f},(∀i,i<l.length->P (bj l i d))->∀q∈l,P q:=λh q p=>by
  obtain⟨i,a,rfl⟩:=List.getElem_of_mem p;grind[cV]
 refine⟨e (d:=[]) λi a=>?_,e (d:=0) λi a=>?_,e (d:=0) λj c=>?_,k.mono (by omega)⟩
 ·rw[b.wf.cj] at a;refine e (d:=0) λj c=>?_;rw[b.wf.row i a] at c;exact(o i j a c).mono (by omega)
 ·rw[b.wf.bound] at a;exact(g i a).mono (by omega)
 ·rw[b.wf.cost] at c;exact(r j c).mono (by omega)
theorem TE {n m:Int} {M G:Nat} {t0 t:Tb} (h:Small n.toNat m.toNat M G t0) (a:Run n.toNat m.toNat t0 t) (c:0<=n/\n<=1000) (b:0<=m/\m<=1000):kP n m t:=⟨⟨c,b⟩,a.wf,h.wG a⟩
section
variable {n m:Nat} {t t0:Tb}
theorem TF:∀{N:Nat} {t:Tb},Run n m t0 t->kq m t->Run n m t0 (runT n m N t)/\kq m (runT n m N t)
 |0,t,b,a=>⟨b,a⟩
 |N+1,t,b,a=>by
  unfold runT;split;·simp_all
  ·rename_i d c;have:=JR b a c;exact TF this.1 this.2
theorem run_end:∀{N:Nat} {t:Tb},fj n m N t=true->stepT n m (runT n m N t)=none
 |0,t,h=>γN.1 h
 |N+1,t,h=>by
  unfold fj at h;unfold runT;split;·assumption
  ·rename_i b a;rw[a] at h;exact run_end h
theorem TG:∀{N K:Nat} {t:Tb},fj n m N t=true->N<=K->runT n m K t=runT n m N t
 |0,K,t,h,b=>by
  have d:=γN.1 h;cases K<;>grind[runT];|N+1,K,t,h,b=>by
  obtain⟨K,rfl⟩:∃k,K=k+1:=⟨K - 1,by omega⟩;unfold fj at h;unfold runT;split;·rfl
  ·rename_i c a;rw[a] at h;exact TG h (by omega)
theorem TI {f:Nat->Rat}:∀{n:Nat},(∀k,k<n->f k<=0)->bO n f<=0
 |0,_=>by grind[bO];|n+1,h=>by
  have a:=@TI f n λk b=>h k (by omega);grind[bO]
theorem TJ {a b:Rat} (d:a<=0) (c:0<=b):a*b<=0:=by
 have:=δv (a:= -a) (b:=b) (by grind) c;grind
theorem Run.best (h:Run n m t0 t) (d:eA t n<0) {x:Int->Rat} {z:Rat} (a:t0.holds n m x z) (b:∀j,j<n->0<=x (t.fv j)):z<=t.value:=by
 have c:=(((h.mQ _ _).2 a).2);grind[uK,TI,TJ]
theorem Run.bnd (h:Run n m t0 t) (q:kq m t) {B:Rat} (F:∀x z,t0.holds n m x z->(∀v∈t0.basic++t0.free,0<=x v)->z<=B) {c:Nat} (I:eA t n=(c:Int)) (H:dS t c m<0):False:=by
 rcases @uK t n with⟨C,d⟩|⟨a,C,d,f,G⟩;·omega
 ·have A:a=c:=by omega
  subst A;rcases @wF t a m with⟨D,w⟩|⟨r,D,_⟩;·
   have k:∀s:Rat,0<=s->t.value+s*t.cs a<=B:=λs o=>by
    have p:=asg_holds h.wf h.gp (y:=λj=>if j=a then s else 0);have e:bO n (λj=>t.cs j*(λj=>if j=a then s else 0) j)=s*t.cs a:=by
     rw[dJ (g:=λj=>if j=a then s*t.cs a else 0) λj _=>by
      grind,uN d]
    rw[e] at p;refine F _ _ ((h.mQ _ _).1 p) λv b=>?_;rw[<-h.perm.mem_iff,List.mem_append] at b;rcases b with b|b
    ·obtain⟨i,l,rfl⟩:=yu h.wf b;rw[nL h.wf h.gp l];have f:bO n (λj=>t.cf i j*(if j=a then s else 0))=t.cf i a*s:=by
      rw[dJ (g:=λj=>if j=a then t.cf i a*s else 0) λj _=>by
       grind,uN d]
     rw[f];have:=TJ (w i l) o;have:=q i l;grind
    ·obtain⟨j,E,rfl⟩:=wz h.wf b;rw[mP h.wf h.gp E];grind
   have u:=k 0 (by grind);have o:0<=(B - t.value+1) / t.cs a:=SQ (by grind) f;grind[div_mul]
  ·omega
end
open Classical in
noncomputable def uO (n m:Nat) (t:Tb):Nat:=if h:∃N,fj n m N t=true then δQ h else 0
noncomputable def lastT (n m:Nat) (t:Tb):Tb:=runT n m (uO n m t) t
section
variable {n m:Nat} {t t0 t':Tb}
theorem Ey {N:Nat} (h:fj n m N t=true):lastT n m t=runT n m N t:=by
 have a:∃N,fj n m N t=true:=⟨N,h⟩;have b:fj n m (uO n m t) t=true:=by
  unfold uO;grind
 grind[lastT,TG]
theorem TK (h:stepT n m t=none):lastT n m t=t:=by
 have a:fj n m 0 t=true:=by simp[fj,h]
 rw[Ey a];rfl
theorem adE (a:∃N,fj n m N t=true) (h:stepT n m t=some t'):lastT n m t'=lastT n m t:=by
 obtain⟨N,a⟩:=a;have b:=Tv a h;rw[Ey b,Ey (JS a)];grind[runT]
theorem J5 (b:Run n m t0 t) (c:kq m t):Run n m t0 (lastT n m t)/\kq m (lastT n m t)/\stepT n m (lastT n m t)=none:=by
 obtain⟨N,a⟩:=JU b c;rw[Ey a];grind[TF,run_end]
theorem TL (i:Run n m t0 t) (e:kq m t) {B:Rat} (h:∀x z,t0.holds n m x z->(∀v∈t0.basic++t0.free,0<=x v)->z<=B):eA (lastT n m t) n<0:=by
 obtain⟨j,g,a⟩:=J5 i e;rcases @uK (lastT n m t) n with⟨b,d⟩|⟨c,b,d,l,k⟩;·omega
 ·exfalso;unfold stepT at a;rw[if_neg (by omega),show(eA (lastT n m t) n).toNat=c by omega] at a;split at a
  ·rename_i f;exact j.bnd g h b f
  ·cases a
end
def bE (f:List Int) (d:Int):List Int:=(cG f.length).filter λi=>decide (bj f i.toNat 0=d)
theorem kQ {f:List Int} {d x:Int}:x∈bE f d↔(0<=x/\x<f.length)/\bj f x.toNat 0=d:=by
 simp_all[bE,jv]
theorem uP {f:List Int} {d:Int}:(bE f d).Pairwise (·<·):=rM.sublist List.filter_sublist
theorem uQ {f:List Int} {d:Int}:(bE f d).length<=f.length:=by
 have:=List.length_filter_le (λi:Int=>decide (bj f i.toNat 0=d)) (cG f.length);rw[fU] at this;exact this
theorem J6 {a b:Type} {g:a->b} {l:List a} {i:Nat} {d:b} {e:a} (h:i<l.length):bj (l.map g) i d=g (bj l i e):=by
 grind[cV]
theorem J7 {n j:Nat} {d:Int} (h:j<n):bj (cG n) j d=j:=by
 grind[cG,qM]
def cK (p:bn) (f:List Int):Tb where
 cj:=(ω (p.classes.length+12)).map λr:Nat=>(bE f 0).map λi=>((dW p r (oI p i):Int):Rat);bound:=(ω (p.classes.length+12)).map λr:Nat=>((dm p r - cY p ((bE f 1).map (oI p)) r:Int):Rat);cost:=(bE f 0).map λi=>(((oI p i).value:Int):Rat);value:=0;basic:=(ω (p.classes.length+12)).map λi:Nat=>(((bE f 0).length+i:Nat):Int);free:=cG (bE f 0).length
def eV (p:bn) (f:List Int):Prop:=bz p=0/\f.length=p.offers.length/\gl p ((bE f 1).map (oI p))=true
abbrev nF (f:List Int):Nat:=(bE f 0).length
abbrev mF (p:bn):Nat:=p.classes.length+12
section
variable {p:bn} {f:List Int}
theorem lI:(cK p f).WF (nF f) (mF p) where
 cj:=by simp[cK]
 row i a:=by
  grind[cK,qM]
 bound:=by simp[cK]
 cost:=by simp[cK]
 basic:=by simp[cK]
 free:=by simp[cK,fU]
theorem yE {i j:Nat} (b:i<mF p) (a:j<nF f):(cK p f).cf i j=((dW p i (oI p (bj (bE f 0) j 0)):Int):Rat):=by
 grind[Tb.cf,cK,qM,J6]
theorem yF {i:Nat} (a:i<mF p):(cK p f).bd i=((dm p i - cY p ((bE f 1).map (oI p)) i:Int):Rat):=by
 grind[Tb.bd,cK,qM]
theorem Bo {j:Nat} (a:j<nF f):(cK p f).cs j=(((oI p (bj (bE f 0) j 0)).value:Int):Rat):=by
 grind[Tb.cs,cK,J6]
theorem Ez {i:Nat} (a:i<mF p):(cK p f).bv i=(((nF f)+i:Nat):Int):=by
 grind[Tb.bv,cK,qM]
theorem wH {j:Nat} (a:j<nF f):(cK p f).fv j=j:=by
 grind[Tb.fv,cK,J7]
theorem qQ:((cK p f).basic++(cK p f).free).Nodup:=by
 rw[γs];refine⟨?_,rM.imp λh=>by omega,?_⟩
 ·simp only[cK];refine List.Pairwise.map _ (λa b h=>?_) List.nodup_range;omega
 grind[cK,jv]
theorem yG (h:eV p f) {j:Nat} (a:j<nF f):(0<=bj (bE f 0) j 0/\bj (bE f 0) j 0<p.offers.length)/\bj f (bj (bE f 0) j 0).toNat 0=0:=by
 have:=kQ.1 (dq (d:=0) a);rw[h.2.1] at this;exact this
theorem kR (a:bz p=0) {i:Int} (h:0<=i/\i<p.offers.length):0<=(oI p i).bT/\(oI p i).bT<p.classes.length/\(oI p i).want.ok=true/\1<=(oI p i).value/\(oI p i).value<=1000000:=(dQ a).2.2.2.2 _ (dq (show i.toNat<p.offers.length by omega))
theorem EA (h:eV p f) {d:Int}:∀x∈(bE f d).map (oI p),0<=x.bT/\x.bT<p.classes.length/\x.want.ok=true/\1<=x.value/\x.value<=1000000:=λx a=>by
 obtain⟨i,b,rfl⟩:=Ψ.1 a;have:=(kQ.1 b).1;rw[h.2.1] at this;exact kR h.1 this
theorem J8 {z:Int} {M:Nat} (h:z.natAbs<=M):fc M (z:Rat):=⟨z,rfl,h⟩
theorem TM (h:eV p f) {i:Nat} (b:i<mF p):0<=dm p i - cY p ((bE f 1).map (oI p)) i/\dm p i - cY p ((bE f 1).map (oI p)) i<=4:=by
 have c:i<p.classes.length+12:=b;have d:=pn.1 h.2.2 i (by grind[df]);have g:=@A1 p h.1 i;have e:=@sS p i ((bE f 1).map (oI p)) λx a=>(EA h x a).2.2.1;omega
theorem adF:∀m:Nat,m<=20->(m+2)*(1000000*nK 4 m)<4294967296^1000:=by
 have h:((ω 21).all λm=>Nat.blt ((m+2)*(1000000*nK 4 m)) (4294967296^1000))=true:=by decide+kernel
 intro m a;have:=φ.1 h m (γp.2 (by omega));rw[Nat.blt_eq] at this;exact this
theorem EB (h:eV p f):Small (nF f) (mF p) 4 1000000 (cK p f) where
 wf:=lI;nd:=qQ;cf i j b a:=by
  rw[yE b a];have:=(kR h.1 (yG h a).1).2.2.1;grind[pT,J8]
 bd i b:=by
  rw[yF b];have:=TM h b;exact J8 (by omega)
 cs j a:=by
  rw[Bo a];have:=kR h.1 (yG h a).1;grind[J8]
 v:=rfl;M1:=by omega
 G1:=by omega
 X:=adF _ (by have:=(dQ h.1).1;grind)
theorem EC {z:Int} (h:0<=z):(0:Rat)<=(z:Rat):=by exact_mod_cast h
theorem J9 (h:eV p f):kq (mF p) (cK p f):=λi a=>by
 rw[yF a];exact EC (TM h a).1
theorem TN {g:Nat->Rat}:∀{n:Nat},(∀k,k<n->0<=g k)->0<=bO n g
 |0,_=>by grind[bO];|n+1,h=>by
  have a:=@TN g n λk b=>h k (by omega);grind[bO]
theorem TP {g k:Nat->Rat}:∀{n:Nat},(∀i,i<n->g i<=k i)->bO n g<=bO n k
 |0,_=>by grind[bO];|n+1,h=>by
  have a:=@TP g k n λk b=>h k (by omega);grind[bO]
theorem adG {g:Nat->Rat} {n j:Nat} (h:∀k,k<n->0<=g k) (a:j<n):g j<=bO n g:=by
 rw[Ec a];grind[TN]
theorem TQ (h:eV p f) {x:Int->Rat} {z:Rat} (d:(cK p f).holds (nF f) (mF p) x z) (e:∀v∈(cK p f).basic++(cK p f).free,0<=x v) {j:Nat} (b:j<nF f):x ((cK p f).fv j)<=1:=by
 obtain⟨l,_⟩:=yG h b;have r:=kR h.1 l;have a:(oI p (bj (bE f 0) j 0)).bT.toNat<mF p:=by grind
 have s:=d.1 _ a;have n:=e _ (List.mem_append_left _ (Bc lI a));have i:(cK p f).cf (oI p (bj (bE f 0) j 0)).bT.toNat j=1:=by
  rw[yE a b];unfold dW;rw[if_pos (by omega),if_pos (by omega)];rfl
 have m:=@adG (λk=>(cK p f).cf (oI p (bj (bE f 0) j 0)).bT.toNat k*x ((cK p f).fv k)) (nF f) j (λk c=>by
  refine δv ?_ (e _ (List.mem_append_right _ (wy lI c)));rw[yE a c];exact EC (pT (kR h.1 (yG h c).1).2.2.1).1) b;simp only[i] at m;have t:(cK p f).bd (oI p (bj (bE f 0) j 0)).bT.toNat<=1:=by
  rw[yF a];have o:dm p (oI p (bj (bE f 0) j 0)).bT.toNat=1:=by
   unfold dm;omega
  have q:=@sS p (oI p (bj (bE f 0) j 0)).bT.toNat ((bE f 1).map (oI p)) λx d=>(EA h x d).2.2.1;have g:dm p (oI p (bj (bE f 0) j 0)).bT.toNat - cY p ((bE f 1).map (oI p)) (oI p (bj (bE f 0) j 0)).bT.toNat<=1:=by omega
  exact_mod_cast g
 grind
theorem TR (h:eV p f) {x:Int->Rat} {z:Rat} (c:(cK p f).holds (nF f) (mF p) x z) (e:∀v∈(cK p f).basic++(cK p f).free,0<=x v):z<=bO (nF f) (cK p f).cs:=by
 have g:=c.2;have k:(cK p f).value=0:=rfl;have:=@TP (λj=>(cK p f).cs j*x ((cK p f).fv j)) (cK p f).cs (nF f) λj a=>by
  have i:=TQ h c e a;have d:0<=(cK p f).cs j:=by
   rw[Bo a];exact EC (by have:=kR h.1 (yG h a).1;omega)
  have:=δv d (b:=1 - x ((cK p f).fv j)) (by grind);grind
 grind
noncomputable def dx (p:bn) (f:List Int):Tb:=lastT (nF f) (mF p) (cK p f)
theorem oJ (h:eV p f):Run (nF f) (mF p) (cK p f) (dx p f)/\kq (mF p) (dx p f)/\eA (dx p f) (nF f)<0:=by
 have a:=Run.refl (n:=nF f) (m:=mF p) (t0:=cK p f) lI qQ;have:=J5 a (J9 h);exact⟨this.1,this.2.1,TL a (J9 h) λx z c b=>TR h c b⟩
end
def eT (d:List bL) (j:Nat) (z:bL):List bL:=d.take j++δ (d.length - j) z
theorem yH {d:List bL} {j:Nat} {z:bL} (h:j<=d.length):(eT d j z).length=d.length:=by
 grind[eT]
theorem yI {d:List bL} {z:bL}:eT d 0 z=δ d.length z:=by simp[eT]
theorem yJ {d:List bL} {z:bL}:eT d d.length z=d:=by simp[eT]
theorem yK {d:List bL} {j:Nat} {z x:bL} (h:j<d.length) (b:x=bj d j z):(eT d j z).set j x=eT d (j+1) z:=by
 unfold eT;have a:d.length - j=(d.length - (j+1))+1:=by omega
 rw[a,List.replicate_succ,List.set_append_right _ _ (by grind),γw,show j - min j d.length=0 by omega,List.set_cons_zero,List.take_succ_eq_append_getElem h,List.append_assoc,b,cV h];rfl
theorem yL {l:List Rat} {i:Nat} {q:Rat}:(fL l).set i (bu q)=fL (l.set i q):=by
 simp_all[fL]
theorem elim_none {l p:List Rat} {c:Nat} (h:bj l c 0=0) (d:c<l.length):kp l c p=l:=by
 refine γ8 Ed λi b a=>?_;have e:=@Ee c l p i a;grind[cV]
def r413:dG where
 f:=181;α:=Int;put a:=[.si .i64 a];st _:=[];dec v o:=match v,o with
  |[v],[]=>v.int .i64
  |_,_=>none;ok v o a h:=by
  split at h;·exact⟨by simp only[gL,iP h];rfl,rfl⟩
  ·cases h
 inj a b h _:=by simpa[gL,SV.g] using h
 dom n:=0<=n/\n<=1000;res n:=.ow 0 n.toNat 3;out n:=[.row sF (fL (δ n.toNat 0)) 177 false]
def adH (n:Int):Nat->cC
 |3=> .inv Int (λj=>⟨[(3,.ow 0 n.toNat 3),(8,.si .i64 n.toNat),(9,.si .i64 j)],[.row sF (eT (fL (δ n.toNat 0)) j.toNat (false,([],[]))) 177 true]⟩)
   (λs=>iS s 9) (λj=>0<=j/\j<=n) (λj=>(n - j).toNat) λ_ _=> .look
 |_=> .look
theorem h413:ec Tryz.prog r413:=by
 refine HO (L:=[oH]) (W:=[]) r413 (λ_=>none) adH (by simp) (by simpa using h94) ?_;rintro(n:Int) ⟨n0,n1⟩;refine bQ (let a:=(0:Int);let c:=bq.row;let d:=γg .i64;let e:=γZ 0 n.toNat 3;let h:=d (↑n.toNat:Int);let m:=(bp.i .u32).bD;let j:=(false,[],[]);let k:=fL (δ n.toNat (0:Rat));let l:=bu (κ a);a<=n/\n<=n/\n*(56:Int)<=(140737488355328:Int)/\n<=(1000000000000:Int)/\(((e.same e/\h.same h/\(γA .i64 0).same (d 0)/\True)/\(c (bp.b.pair (m.pair m)) (δ n.toNat j) 177 true).same (c sF (eT k 0 j) 177 true)/\True)/\a<=a/\a<=n)/\∀(x:Int),let o:=decide (x<(↑n.toNat:Int));let f:=eT k x.toNat j;let g:=x+(1:Int);let p:=d g;a<=x/\x<=n->(o=true->((-9223372036854775808:Int)<=a/\a<=(9223372036854775807:Int))/\n.toNat=f.length/\a<=x/\x<(↑f.length:Int)/\n.toNat=f.length/\x.toNat<f.length/\cq .i64 g/\((e.same e/\h.same h/\p.same p/\True)/\(c sF (f.set x.toNat (l.fst,l.snd.fst,l.snd.snd)) 177 true).same (c sF (eT k g.toNat j) 177 true)/\True)/\(a<=g/\g<=n)/\(n - g).toNat<(n - x).toNat)/\(o=false->e.same e/\(c sF f 177 false).same (c sF k 177 false)/\True)) (by kernel_rfl) ?_;conv=>zeta
 try simp only[vcs]
 have hcast:∀k:Nat,((k:Nat):Int).toNat=k:=λk=>γl k;have hl:(fL (δ n.toNat 0)).length=n.toNat:=by rw[fF,γC]
 have hrow:∀{x y:List bL},x=y->(bq.row sF x 177 true).same (bq.row sF y 177 true):=by rintro _ _ rfl;rfl
 refine⟨n0,by omega,by omega,by omega,⟨hrow (by rw[yI,hl]),by omega,by omega⟩,?_⟩;rintro j ⟨j0,j1⟩;have o7:=@yH (fL (δ n.toNat 0)) j.toNat (false,([],[])) (by omega);refine⟨λhj=>?_,λhj=>?_⟩
 ·have hE:bj (fL (δ n.toNat 0)) j.toNat (false,([],[]))=bu 0:=by
   rw[jz (by rw[γC];omega),cV (by rw[γC];omega),List.getElem_replicate]
  have h0:(κ 0:Rat)=0:=rfl;simp only[h0,jO];exact⟨by omega,by omega,j0,by omega,by omega,by omega,by omega,hrow (by rw[yK (by omega) hE.symm,show(j+1).toNat=j.toNat+1 by omega]),by omega,by omega⟩
 ·rw[show j.toNat=(fL (δ n.toNat 0)).length by omega,yJ];rfl
def r417:bM:=⟨185,List bL×bL×Int×List bL×bL,.cons (dL sF) (.cons (dY sF) (.cons (eZ .i64) (.cons (dL sF) (.one (dY sF))))),
 λa=>∃l b p c,(a.1=fL l/\a.2.1=bu b/\a.2.2.2.1=fL p/\a.2.2.2.2=bu c)/\(l.length=p.length/\l.length<=1000)/\(0<=a.2.2.1/\a.2.2.1<l.length)/\(∀q∈l,Sz 10000000 q)/\(∀q∈p,Sz 10000000 q)/\Sz 10000000 b/\Sz 10000000 c,
 λa=> .bI [.row sF (fL (kp (vL a.1) a.2.2.1.toNat (vL a.2.2.2.1))),qa (bW a.2.1 - bj (vL a.1) a.2.2.1.toNat 0*bW a.2.2.2.2)]⟩
def adI (l:List Rat) (b:Rat) (c:Int) (p:List Rat) (pb:Rat):Nat->cC
 |6=> .inv Int (λj=>⟨[(2,.si .i64 c),(3,.row sF (fL p)),(6,.ptr 0 0 3),(9,.ptr 1 0 3),(11,.ptr 2 0 3),(12,.ptr 3 0 3),(13,.ow 4 l.length 3),(28,.row sF (fL l)),(29,.si .i64 l.length),(30,.si .i64 j)],
   [.cells [.sb (bu b).1,.row (.i .u32) (bu b).2.1,.row (.i .u32) (bu b).2.2] 177 3 false,.cells [.sb (bu pb).1,.row (.i .u32) (bu pb).2.1,.row (.i .u32) (bu pb).2.2] 177 3 false,
    .cells [.bl false,.sc (.slice none 0 0),.sc (.slice none 0 0)] 177 3 false,.cells [.sb (bu (bj l c.toNat 0)).1,.row (.i .u32) (bu (bj l c.toNat 0)).2.1,.row (.i .u32) (bu (bj l c.toNat 0)).2.2] 177 3 false,
    .row sF (eT (fL (kp l c.toNat p)) j.toNat (false,([],[]))) 177 true]⟩)
   (λs=>iS s 30) (λj=>0<=j/\j<=l.length) (λj=>(l.length - j).toNat) λ_ _=> .look
 |_=> .look
theorem h417:Holds Tryz.prog r417:=by
 refine cH (L:=[s9,Bm,yB,Bl]) r417 (λa=>adI (vL a.1) (bW a.2.1) a.2.2.1 (vL a.2.2.2.1) (bW a.2.2.2.2)) (by simpa using⟨h99,h410,h130,h95⟩) ?_;rintro⟨l',b',c,p',pb'⟩ ⟨l,b,p,pb,⟨e1,e2,e3,e4⟩,⟨g1,g2⟩,⟨c0,c1⟩,hl,hp,hb,hpb⟩;simp only at e1 e2 e3 e4 c0 c1;subst e1 e2 e3 e4;refine bQ (let a:=Ω;let d:=(0:Int);let e:=γg .i64;let f:=bq.cells;let g:=bq.row;let h:=γx;let j:=sF.dflt;let k:=γP;let m:=γQ;let n:=SV.bI;let F:=bj (fL l) c.toNat j;let a2:=(F.fst,F.snd.fst,F.snd.snd);let o:=bp.i .u32;let t:=(↑(fL l).length:Int);let L:=fL (kp (vL (fL l)) c.toNat (vL (fL p)));let v:=bW (bu b);let w:=bj (vL (fL l)) c.toNat (0:Rat);let y:=bW (bu pb);let a3:=(bu (v - w*y)).snd;let a4:=n [a sF L,m [h (bu (v - w*y)).fst,a o a3.fst,a o a3.snd]];let z:=fL (vL (fL p));let G:=a sF z;let A:=k 0 0 3;let B:=k 1 0 3;let C:=k 2 0 3;let D:=k 3 0 3;let wI:Nat:=(vL (fL l)).length;let H:=γZ 4 wI 3;let I:=fL (vL (fL l));let J:=a sF I;let r:=(↑wI:Int);let K:=e r;let a5:=SV.sc (Value.slice none 0 0);let E:=f [δf false,a5,a5] 177 3 false;let M:=(false,[],[]);let N:=((bu w).fst,(bu w).snd.fst,(bu w).snd.snd);let O:=f [h (bu v).fst,a o (bu v).snd.fst,a o (bu v).snd.snd] 177 3 false;let P:=f [h (bu y).fst,a o (bu y).snd.fst,a o (bu y).snd.snd] 177 3 false;let Q:=f [h (bu w).fst,a o (bu w).snd.fst,a o (bu w).snd.snd] 177 3 false;let a6:=((bu y).fst,(bu y).snd.fst,(bu y).snd.snd);let a7:=((bu v).fst,(bu v).snd.fst,(bu v).snd.snd);let S:=bu (bW N*bW a6);let a8:=(S.fst,S.snd.fst,S.snd.snd);let U:=bu (bW a7 - bW a8);let a9:=λ(u:Bool) ↦decide (jN (bW a2)=d)=u;let V:=λ(u:bp.b.T) (u_1:(o.bD.pair o.bD).T) (u_2:Rat) ↦(f [h u,a o u_1.fst,a o u_1.snd] 177 3 false).same (f [h (bu u_2).fst,a o (bu u_2).snd.fst,a o (bu u_2).snd.snd] 177 3 false);d<=c/\c<t/\c.toNat<(fL l).length/\cE a2/\(a9 true->(n [a sF (fL l),m [h (bu b).fst,a o (bu b).snd.fst,a o (bu b).snd.snd]]).same a4)/\(a9 false->d<=t/\t<=t/\t*(56:Int)<=(140737488355328:Int)/\t<=(1000000000000:Int)/\((((e c).same (e c)/\(a sF (fL p)).same G/\A.same A/\B.same B/\C.same C/\D.same D/\(γZ 4 t.toNat 3).same H/\(a sF (fL l)).same J/\(e t).same K/\(γA .i64 0).same (e 0)/\True)/\V (bu b).fst (bu b).snd v/\V (bu pb).fst (bu pb).snd y/\E.same E/\V F.fst F.snd w/\(g (bp.b.pair (o.bD.pair o.bD)) (δ t.toNat M) 177 true).same (g sF (eT L 0 M) 177 true)/\True)/\d<=d/\d<=r)/\∀(x:Int),let W:=bj z x.toNat j;let X:=(W.fst,W.snd.fst,W.snd.snd);let Y:=bu (bW N*bW X);let Z:=(Y.fst,Y.snd.fst,Y.snd.snd);let q:=eT L x.toNat M;let s:=x+(1:Int);let R:=e s;let aa:=g sF (eT L s.toNat M) 177 true;let a0:=bj I x.toNat j;let ab:=(a0.fst,a0.snd.fst,a0.snd.snd);let ac:=cE Z;let ad:=cE N/\cE X;let ae:=λ(u:Rat) ↦wI=q.length/\d<=x/\x<(↑q.length:Int)/\wI=q.length/\x.toNat<q.length/\cq .i64 s/\(((e c).same (e c)/\G.same G/\A.same A/\B.same B/\C.same C/\D.same D/\H.same H/\J.same J/\K.same K/\R.same R/\True)/\O.same O/\P.same P/\E.same E/\Q.same Q/\(g sF (q.set x.toNat ((bu u).fst,(bu u).snd.fst,(bu u).snd.snd)) 177 true).same aa/\True)/\(d<=s/\s<=r)/\(r - s).toNat<(r - x).toNat;let af:=λ(u:Bool) ↦decide (jN (bW X)=d)=u;let ag:=λ(u:List bL) ↦let a1:=bj u x.toNat j;cE (a1.fst,a1.snd.fst,a1.snd.snd);d<=x/\x<=r->(decide (x<r)=true->d<=x/\x<(↑I.length:Int)/\x.toNat<I.length/\(decide (x=c)=true->d<=x/\x<(↑z.length:Int)/\x.toNat<z.length/\ad/\ac/\ae (-bW Z))/\(decide (x=c)=false->d<=x/\x<(↑z.length:Int)/\x.toNat<z.length/\ag z/\(af true->wI=q.length/\d<=x/\x<(↑q.length:Int)/\wI=q.length/\x.toNat<q.length/\cq .i64 s/\(((e c).same (e c)/\G.same G/\A.same A/\B.same B/\C.same C/\D.same D/\H.same H/\J.same J/\K.same K/\R.same R/\True)/\O.same O/\P.same P/\E.same E/\Q.same Q/\(g sF (q.set x.toNat ab) 177 true).same aa/\True)/\(d<=s/\s<=r)/\(r - s).toNat<(r - x).toNat)/\(af false->d<=x/\x<(↑z.length:Int)/\x.toNat<z.length/\ad/\(ag I/\ac)/\ae (bW ab - bW Z))))/\(decide (x<r)=false->(cE N/\cE a6)/\(cE a7/\cE a8)/\wI=q.length/\(n [a sF q,m [h U.fst,a o U.snd.fst,a o U.snd.snd]]).same a4))) (by kernel_rfl) ?_;simp only[kO,ez];try simp only[vcs]
 have hfl:=@fF l;have hfp:=@fF p;have hel:(kp l c.toNat p).length=l.length:=Ed;have hfe:=@fF (kp l c.toNat p);have hA:bj (fL l) c.toNat sF.dflt=bu (bj l c.toNat 0):=jz (by omega);have hzc:=hl _ (dq (d:=0) (show c.toNat<l.length by omega));have hcast:∀k:Nat,((k:Nat):Int).toNat=k:=λk=>γl k;have hag:∀{x y:Rat},x=y->(γQ [γx (bu x).1,Ω (bp.i IntKind.u32) (bu x).2.1,Ω (bp.i IntKind.u32) (bu x).2.2]).same (γQ [γx (bu y).1,Ω (bp.i IntKind.u32) (bu y).2.1,Ω (bp.i IntKind.u32) (bu y).2.2]):=by rintro _ _ rfl;rfl
 have hrow:∀{x y:List bL},x=y->(bq.row sF x 177 true).same (bq.row sF y 177 true):=by rintro _ _ rfl;rfl
 simp only[hA,jO,ez,JX,hcast];refine⟨c0,by omega,by omega,dN hzc (by omega),λhz=>⟨by rw[elim_none hz (by omega)],hag (by rw[hz];grind)⟩,λhz=>⟨by omega,by omega,by omega,by omega,⟨⟨⟨by rw[hfl];rfl,by omega⟩,rfl,hrow (by rw[yI,hfe,hel,hfl])⟩,by omega,by omega⟩,?_⟩⟩;rintro j ⟨j0,j1⟩;have o7:=@yH (fL (kp l c.toNat p)) j.toNat (false,([],[])) (by omega);refine⟨λhj=>?_,λhj=>?_⟩
 ·have hP:bj (fL p) j.toNat sF.dflt=bu (bj p j.toNat 0):=jz (by omega);have hL:bj (fL l) j.toNat sF.dflt=bu (bj l j.toNat 0):=jz (by omega);have ED:=hp _ (dq (d:=0) (show j.toNat<p.length by omega));have hzl:=hl _ (dq (d:=0) (show j.toNat<l.length by omega));have hE:bj (fL (kp l c.toNat p)) j.toNat (false,([],[]))=bu (if j.toNat=c.toNat then -(bj l c.toNat 0*bj p j.toNat 0) else bj l j.toNat 0 - bj l c.toNat 0*bj p j.toNat 0):=by
   rw[jz (by omega),Ee (by omega)]
  have hm:=uJ hzc ED;have tail:(0<=j+1/\j+1<=(l.length:Int))/\((l.length:Int) - (j+1)).toNat<((l.length:Int) - j).toNat:=by omega
  have step:∀{x:bL},x=bj (fL (kp l c.toNat p)) j.toNat (false,([],[]))->(bq.row sF ((eT (fL (kp l c.toNat p)) j.toNat (false,([],[]))).set j.toNat x) 177 true).same (bq.row sF (eT (fL (kp l c.toNat p)) (j+1).toNat (false,([],[]))) 177 true):=λh=>hrow (by
   rw[yK (by omega) h,show(j+1).toNat=j.toNat+1 by omega]);simp only[hP,hL,jO,ez,JX];refine⟨j0,by omega,by omega,λhjc=>⟨j0,by omega,by omega,⟨dN hzc (by omega),dN ED (by omega)⟩,dN hm (by omega),by omega,j0,by omega,by omega,by omega,by omega,step ?_,tail⟩,λhjc=>⟨j0,by omega,by omega,dN ED (by omega),λhpz=>⟨by omega,j0,by omega,by omega,by omega,by omega,step ?_,tail⟩,λhpz=>⟨j0,by omega,by omega,⟨dN hzc (by omega),dN ED (by omega)⟩,⟨dN hzl (by omega),dN hm (by omega)⟩,by omega,j0,by omega,by omega,by omega,by omega,step ?_,tail⟩⟩⟩;·rw[hE,if_pos (by omega)]
  ·rw[hE,if_neg (by omega),hpz];congr 1;grind
  ·rw[hE,if_neg (by omega)]
 ·rw[show j.toNat=(fL (kp l c.toNat p)).length by omega,yJ];exact⟨⟨dN hzc (by omega),dN hpb (by omega)⟩,⟨dN hb (by omega),dN (uJ hzc hpb) (by omega)⟩,by omega,rfl,rfl⟩
def r408:dG:=uL 176 (Int×Int) (.cons (eZ .i64) (.one (eZ .i64))) (λn m t a=>(0<=a.1/\a.1<m)/\(0<=a.2/\a.2<n)/\t.cf a.1.toNat a.2.toNat≠0) (λ_ _ _ _=> .bI []) (λ_ _ t a=>fV t a.1.toNat a.2.toNat)
def pB (l:List Rat) (q:Rat):List Rat:=l.map λx=>x*q
def fC (q:Rat):bq:=.cells [.sb (bu q).1,.row (.i .u32) (bu q).2.1,.row (.i .u32) (bu q).2.2] 177 3 false
def iV {a:Type} (f g:Nat->a) (n r i:Nat):List a:=(ω n).map λk=>if k<i/\k≠r then g k else f k
theorem wJ {a:Type} {f g:Nat->a} {n r i:Nat}:(iV f g n r i).length=n:=by simp[iV]
theorem TS {a:Type} {l:List a} {g:Nat->a} {r:Nat} {d:a}:iV (λk=>bj l k d) g l.length r 0=l:=by
 refine γ8 wJ λi b c=>?_;grind[iV,bj]
theorem TT {a:Type} {f g:Nat->a} {n r i:Nat} {d:a} (h:i<n):bj (iV f g n r i) i d=f i:=by
 simp_all[iV,qM]
theorem TU {a:Type} {f g:Nat->a} {n r i:Nat} (h:i<n) (d:i≠r):(iV f g n r i).set i (g i)=iV f g n r (i+1):=by
 refine γ8 (by simp[iV]) λk b c=>?_;have e:k<n:=by grind[iV]
 rw[εZ];simp only[iV,δB,εK];grind
theorem TV {a:Type} {f g:Nat->a} {n r:Nat}:iV f g n r (r+1)=iV f g n r r:=by
 unfold iV;grind
theorem TW {a:Type} {f g:Nat->a} {n r:Nat} {x:a} (h:r<n):(iV f g n r n).set r x=(ω n).map λk=>if k=r then x else g k:=by
 refine γ8 (by simp[iV]) λk b c=>?_;have d:k<n:=by simp_all
 rw[εZ];simp only[iV,δB,εK];grind
theorem TX {l:List (List Rat)} {i:Nat} {x:List Rat}:(fM l).set i (fL x)=fM (l.set i x):=by
 simp_all[fM]
theorem adJ {l:List Rat} {c:Nat} (h:c<l.length):(fL (pB l (1 / bj l c 0))).set c (bu (1 / bj l c 0))=fL (kN l c):=by
 rw[yL];congr 1;refine γ8 (by simp[pB,kN]) λk d e=>?_;have b:k<l.length:=by grind[kN]
 rw[εZ];simp only[pB,kN,δB,εK];by_cases a:c=k;·simp_all
 ·rw[if_neg a,if_neg λh=>a h.symm,cV (i:=k) b]
def lp (t:Tb) (r c i:Nat):Tb:={t with
 cj:=iV (λk=>bj t.cj k []) (λk=>kp (bj t.cj k []) c (kN (bj t.cj r []) c)) t.cj.length r i
 bound:=iV t.bd (λk=>t.bd k - t.cf k c*(t.bd r*(1 / t.cf r c))) t.bound.length r i}
theorem adK {t:Tb} {r c:Nat}:lp t r c 0=t:=by
 unfold lp;have b:=@TS (List Rat) t.cj (λk=>kp (bj t.cj k []) c (kN (bj t.cj r []) c)) r [];have d:=@TS Rat t.bound (λk=>t.bd k - t.cf k c*(t.bd r*(1 / t.cf r c))) r 0;have a:iV t.bd (λk=>t.bd k - t.cf k c*(t.bd r*(1 / t.cf r c))) t.bound.length r 0=t.bound:=d;rw[b,a]
def adL (n m:Int) (t:Tb) (r c:Int):Nat->cC
 |3=> .inv Int (λj=>⟨[(0,.ptr 0 0 10),(1,.si .i64 r),(2,.si .i64 c),(6,.ptr 5 0 3),(8,.ow 6 n.toNat 3),(41,.row sF (fL (bj t.cj r.toNat []))),(42,.si .i64 n),(43,.si .i64 j)],
   (bH n m t).gR++[fC (1 / t.cf r.toNat c.toNat),.row sF (eT (fL (pB (bj t.cj r.toNat []) (1 / t.cf r.toNat c.toNat))) j.toNat (false,([],[]))) 177 true]⟩)
   (λs=>iS s 43) (λj=>0<=j/\j<=n) (λj=>(n - j).toNat) λ_ _=> .look
 |10=> .inv Int (λi=>⟨[(0,.ptr 0 0 10),(1,.si .i64 r),(2,.si .i64 c),(8,.row sF (fL (kN (bj t.cj r.toNat []) c.toNat))),(11,.ptr 7 0 3),(72,.si .i64 m),(73,.si .i64 i)],
   (bH n m (lp t r.toNat c.toNat i.toNat)).gR++[fC (1 / t.cf r.toNat c.toNat),.dead,fC (t.bd r.toNat*(1 / t.cf r.toNat c.toNat))]⟩)
   (λs=>iS s 73) (λj=>0<=j/\j<=m) (λj=>(m - j).toNat) λ_ _=> .look
 |_=> .look
theorem h408:ec Tryz.prog r408:=by
 refine lB (L:=[oH,Et,Bm,r417,wE]) (W:=[]) r408 (λa=>adL a.1.n a.1.m a.1.t a.2.1 a.2.2) (by simp) (by simpa using⟨h94,h416,h410,h417,h129⟩) ?_;rintro⟨x,r,c⟩ ⟨n,m,t,hx,hok,⟨r0,r1⟩,⟨c0,c1⟩,ha⟩;simp only at hx r0 r1 c0 c1 ha;subst hx;refine bQ (let a:=γg .i64;let d:=bq.row;let e:=(0:Int);let f:=Ω;let g:=γZ;let h:=bq.cells;let j:=γx;let k:=(1:Int);let o:=sF.dflt;let s:=γA .i64 0;let w:=γP;let K:=(bH n m t).cj;let a0:=bj K r.toNat sF.bD.dflt;let af:=bu (κ k);let aB:=(af.fst,af.snd.fst,af.snd.snd);let ag:=bj a0 c.toNat o;let ah:=(ag.fst,ag.snd.fst,ag.snd.snd);let Q:=(↑(bH n m t).k4:Int);let L:=w 0 0 10;let a3:=w 5 0 3;let A:=(bH n m t).n;let ai:=g 6 A.toNat 3;let M:=(bH n m t).t;let S:=bj M.cj r.toNat [];let aj:=f sF (fL S);let a4:=a A;let G:=(bH n m t).m;let a5:=a G;let z:=bp.i .u32;let B:=bH A G M;let a6:=h [a B.n,a B.m,g 1 B.k0 1,g 2 B.k1 3,f sF B.cost,j B.v.fst,f z B.v.snd.fst,f z B.v.snd.snd,g 3 B.k3 1,g 4 B.k4 1] 261 10 false;let a7:=d sF.bD B.cj 106 false;let a8:=d sF B.bound 177 false;let C:=bp.i .i64;let a9:=d C B.basic 3 false;let aa:=d C B.free 3 false;let ak:=bu (bW aB / bW ah);let N:=(1:Rat) / M.cf r.toNat c.toNat;let R:=h [j (bu N).fst,f z (bu N).snd.fst,f z (bu N).snd.snd] 177 3 false;let ab:=(false,[],[]);let al:=fL (pB S N);let T:=((bu N).fst,(bu N).snd.fst,(bu N).snd.snd);let ac:=B.bound.length;let am:=bj B.bound r.toNat o;let aC:=(am.fst,am.snd.fst,am.snd.snd);let U:=fL (kN S c.toNat);let an:=f sF U;let ad:=w 7 0 3;let D:=bH A G (lp M r.toNat c.toNat 0);let ao:=bu (bW aC*bW T);let V:=bu (M.bd r.toNat*N);let ap:=h [j V.fst,f z V.snd.fst,f z V.snd.snd] 177 3 false;let W:=(V.fst,V.snd.fst,V.snd.snd);let E:=bH A G (fV M r.toNat c.toNat);((-9223372036854775808:Int)<=k/\k<=(9223372036854775807:Int))/\(bH n m t).k0=K.length/\e<=r/\r<(↑K.length:Int)/\(bH n m t).k0=K.length/\r.toNat<K.length/\e<=c/\c<(↑a0.length:Int)/\c.toNat<a0.length/\((cE aB/\cE ah)/\bW ah≠(0:Rat))/\e<=Q/\Q<=Q/\Q*(56:Int)<=(140737488355328:Int)/\Q<=(1000000000000:Int)/\(bH n m t).k0=K.length/\e<=r/\r<(↑K.length:Int)/\(bH n m t).k0=K.length/\r.toNat<K.length/\(((L.same L/\(a r).same (a r)/\(a c).same (a c)/\a3.same a3/\(g 6 Q.toNat 3).same ai/\(f sF a0).same aj/\(a (↑a0.length:Int)).same a4/\(s).same (a 0)/\True)/\(h [a4,a5,g 1 (bH n m t).k0 1,g 2 (bH n m t).k1 3,f sF (bH n m t).cost,j (bH n m t).v.fst,f z (bH n m t).v.snd.fst,f z (bH n m t).v.snd.snd,g 3 (bH n m t).k3 1,g 4 (bH n m t).k4 1] 261 10 false).same a6/\(d sF.bD K 106 false).same a7/\(d sF (bH n m t).bound 177 false).same a8/\(d C (bH n m t).basic 3 false).same a9/\(d C (bH n m t).free 3 false).same aa/\(h [j ak.fst,f z ak.snd.fst,f z ak.snd.snd] 177 3 false).same R/\(d (bp.b.pair (z.bD.pair z.bD)) (δ Q.toNat ab) 177 true).same (d sF (eT al 0 ab) 177 true)/\True)/\e<=e/\e<=A)/\∀(x:Int),let aq:=bj (fL S) x.toNat o;let aD:=(aq.fst,aq.snd.fst,aq.snd.snd);let ae:=eT al x.toNat ab;let O:=ae.length;let X:=x+k;let aE:=a X;let ar:=bu (bW aD*bW T);e<=x/\x<=A->(decide (x<A)=true->e<=x/\x<(↑(fL S).length:Int)/\x.toNat<(fL S).length/\(cE aD/\cE T)/\A.toNat=O/\e<=x/\x<(↑O:Int)/\A.toNat=O/\x.toNat<O/\cq .i64 X/\((L.same L/\(a r).same (a r)/\(a c).same (a c)/\a3.same a3/\ai.same ai/\aj.same aj/\a4.same a4/\aE.same aE/\True)/\a6.same a6/\a7.same a7/\a8.same a8/\a9.same a9/\aa.same aa/\R.same R/\(d sF (ae.set x.toNat (ar.fst,ar.snd.fst,ar.snd.snd)) 177 true).same (d sF (eT al X.toNat ab) 177 true)/\True)/\(e<=X/\X<=A)/\(A - X).toNat<(A - x).toNat)/\(decide (x<A)=false->A.toNat=O/\e<=c/\c<(↑O:Int)/\A.toNat=O/\c.toNat<O/\B.k1=ac/\e<=r/\r<(↑ac:Int)/\B.k1=ac/\r.toNat<ac/\(cE aC/\cE T)/\A.toNat=(ae.set c.toNat T).length/\(((L.same L/\(a r).same (a r)/\(a c).same (a c)/\(f sF (ae.set c.toNat T)).same an/\ad.same ad/\(a (↑B.k0:Int)).same a5/\(s).same (a 0)/\True)/\a6.same (h [a D.n,a D.m,g 1 D.k0 1,g 2 D.k1 3,f sF D.cost,j D.v.fst,f z D.v.snd.fst,f z D.v.snd.snd,g 3 D.k3 1,g 4 D.k4 1] 261 10 false)/\a7.same (d sF.bD D.cj 106 false)/\a8.same (d sF D.bound 177 false)/\a9.same (d C D.basic 3 false)/\aa.same (d C D.free 3 false)/\R.same R/\bq.dead.same bq.dead/\(h [j ao.fst,f z ao.snd.fst,f z ao.snd.snd] 177 3 false).same ap/\True)/\e<=e/\e<=G)/\∀(x:Int),let y:=bH A G (lp M r.toNat c.toNat x.toNat);let aF:=a y.n;let aG:=a y.m;let aH:=g 1 y.k0 1;let aI:=g 2 y.k1 3;let Y:=y.cost;let aJ:=[g 3 y.k3 1,g 4 y.k4 1];let Z:=x+k;let F:=bH A G (lp M r.toNat c.toNat Z.toNat);let J:=y.basic;let aK:=a Z;let a1:=y.cj;let H:=a1.length;let a2:=y.bound;let I:=a2.length;let au:=bj a1 x.toNat sF.bD.dflt;let av:=bj a2 x.toNat o;let aL:=(av.fst,av.snd.fst,av.snd.snd);let aw:=bu (bW aL - bj (vL au) c.toNat (0:Rat)*bW W);let ax:=(y.v.fst,y.v.snd.fst,y.v.snd.snd);let ay:=bj Y c.toNat o;let aM:=(ay.fst,ay.snd.fst,ay.snd.snd);let az:=bu (bW aM*bW W);let aN:=(az.fst,az.snd.fst,az.snd.snd);let P:=y.free.length;let aA:=bu (bW ax+bW aN);let aP:=(h (aF::aG::aH::aI::f sF Y::j y.v.fst::f z y.v.snd.fst::f z y.v.snd.snd::aJ) 261 10 false).same (h [a F.n,a F.m,g 1 F.k0 1,g 2 F.k1 3,f sF F.cost,j F.v.fst,f z F.v.snd.fst,f z F.v.snd.snd,g 3 F.k3 1,g 4 F.k4 1] 261 10 false);let aQ:=(d C J 3 false).same (d C F.basic 3 false)/\(d C y.free 3 false).same (d C F.free 3 false)/\R.same R/\bq.dead.same bq.dead/\ap.same ap/\True;let aO:=λ(u u_1:bq) ↦cq .i64 Z/\((L.same L/\(a r).same (a r)/\(a c).same (a c)/\an.same an/\ad.same ad/\a5.same a5/\aK.same aK/\True)/\aP/\u.same (d sF.bD F.cj 106 false)/\u_1.same (d sF F.bound 177 false)/\aQ)/\(e<=Z/\Z<=G)/\(G - Z).toNat<(G - x).toNat;e<=x/\x<=G->(decide (x<G)=true->(decide (x≠r)=true->y.k0=H/\e<=x/\x<(↑H:Int)/\y.k0=H/\x.toNat<H/\y.k1=I/\e<=x/\x<(↑I:Int)/\y.k1=I/\x.toNat<I/\(∃(l:List Rat),∃(b:Rat),∃(p:List Rat),∃(pb:Rat),(au=fL l/\aL=bu b/\U=fL p/\W=bu pb)/\(l.length=p.length/\l.length<=1000)/\(e<=c/\c<(↑l.length:Int))/\(∀(q:Rat),q∈l->Sz 10000000 q)/\(∀(q:Rat),q∈p->Sz 10000000 q)/\Sz 10000000 b/\Sz 10000000 pb)/\y.k0=H/\e<=x/\x<(↑H:Int)/\y.k0=H/\x.toNat<H/\y.k1=I/\e<=x/\x<(↑I:Int)/\y.k1=I/\x.toNat<I/\aO (d sF.bD (a1.set x.toNat (fL (kp (vL au) c.toNat (vL U)))) 106 false) (d sF (a2.set x.toNat (aw.fst,aw.snd.fst,aw.snd.snd)) 177 false))/\(decide (x≠r)=false->aO (d sF.bD a1 106 false) (d sF a2 177 false)))/\(decide (x<G)=false->e<=c/\c<(↑Y.length:Int)/\c.toNat<Y.length/\(∃(l:List Rat),∃(b:Rat),∃(p:List Rat),∃(pb:Rat),(Y=fL l/\ax=bu b/\U=fL p/\W=bu pb)/\(l.length=p.length/\l.length<=1000)/\(e<=c/\c<(↑l.length:Int))/\(∀(q:Rat),q∈l->Sz 10000000 q)/\(∀(q:Rat),q∈p->Sz 10000000 q)/\Sz 10000000 b/\Sz 10000000 pb)/\(cE aM/\cE W)/\(cE ax/\cE aN)/\y.k0=H/\e<=r/\r<(↑H:Int)/\y.k0=H/\r.toNat<H/\y.k1=I/\e<=r/\r<(↑I:Int)/\y.k1=I/\r.toNat<I/\y.k4=P/\e<=c/\c<(↑P:Int)/\y.k4=P/\c.toNat<P/\y.k3=J.length/\e<=r/\r<(↑J.length:Int)/\y.k3=J.length/\r.toNat<J.length/\y.k3=J.length/\e<=r/\r<(↑J.length:Int)/\y.k3=J.length/\r.toNat<J.length/\y.k4=P/\e<=c/\c<(↑P:Int)/\y.k4=P/\c.toNat<P/\(SV.bI []).same (SV.bI [])/\(h (aF::aG::aH::aI::f sF (fL (kp (vL Y) c.toNat (vL U)))::j aA.fst::f z aA.snd.fst::f z aA.snd.snd::aJ) 261 10 false).same (h [a E.n,a E.m,g 1 E.k0 1,g 2 E.k1 3,f sF E.cost,j E.v.fst,f z E.v.snd.fst,f z E.v.snd.snd,g 3 E.k3 1,g 4 E.k4 1] 261 10 false)/\(d sF.bD (a1.set r.toNat U) 106 false).same (d sF.bD E.cj 106 false)/\(d sF (a2.set r.toNat W) 177 false).same (d sF E.bound 177 false)/\(d C (J.set r.toNat (bj y.free c.toNat e)) 3 false).same (d C E.basic 3 false)/\(d C (y.free.set c.toNat (bj J r.toNat e)) 3 false).same (d C E.free 3 false)/\True))) (by kernel_rfl) ?_;conv=>zeta
 try simp only[td]
 try simp only[bH]
 try simp only[vcs]
 obtain⟨⟨⟨n0,n1⟩,m0,m1⟩,hw,hz⟩:=id hok;have hkl:=hw.cj;have hbl:=hw.bound;have hbb:=hw.basic;have hfl:=hw.free;have hcl:=hw.cost;have hfm:=@JV t.cj;have J0:=@fF t.bound;have hrl:=hw.row r.toNat (by omega);have hcast:∀k:Nat,((k:Nat):Int).toNat=k:=λk=>γl k;have h1:(κ 1:Rat)=1:=rfl;have hR:bj (fM t.cj) r.toNat sF.bD.dflt=fL (bj t.cj r.toNat []):=JW (by omega);have hA:bj (fL (bj t.cj r.toNat [])) c.toNat sF.dflt=bu (t.cf r.toNat c.toNat):=jz (by omega);have hB:bj (fL t.bound) r.toNat sF.dflt=bu (t.bd r.toNat):=jz (by omega);simp only[hR,hA,hB,jO,ez,hcast,h1];have hsA:=hok.cf (i:=r.toNat) (j:=c.toNat) (by omega) (by omega);have hsB:=hok.bd (i:=r.toNat) (by omega);have s1:Sz 1 (1:Rat):=by unfold Sz;decide
 have hsI:=JQ s1 hsA ha;have hsP:=uJ hsB hsI;have hfr:=@fF (bj t.cj r.toNat []);have hsl:(pB (bj t.cj r.toNat []) (1 / t.cf r.toNat c.toNat)).length=n.toNat:=by unfold pB;rw[Ξ];exact hrl
 have hfs:=@fF (pB (bj t.cj r.toNat []) (1 / t.cf r.toNat c.toNat));have hrow:∀{x y:List bL},x=y->(bq.row sF x 177 true).same (bq.row sF y 177 true):=by rintro _ _ rfl;rfl
 refine⟨by omega,by omega,r0,by omega,by omega,by omega,c0,by omega,by omega,⟨⟨dN s1 (by omega),dN hsA (by omega)⟩,ha⟩,by omega,by omega,by omega,by omega,by omega,r0,by omega,by omega,by omega,⟨⟨⟨by rw[hfl];rfl,trivial,by omega⟩,rfl,hrow (by rw[yI,hfs,hsl,hfl])⟩,by omega,by omega⟩,?_⟩;rintro j ⟨j0,j1⟩;have o7:=@yH (fL (pB (bj t.cj r.toNat []) (1 / t.cf r.toNat c.toNat))) j.toNat (false,([],[])) (by omega);refine⟨λhj=>?_,λhj=>?_⟩
 ·have hL:bj (fL (bj t.cj r.toNat [])) j.toNat sF.dflt=bu (t.cf r.toNat j.toNat):=jz (by omega);have hS:bj (fL (pB (bj t.cj r.toNat []) (1 / t.cf r.toNat c.toNat))) j.toNat (false,([],[]))=bu (t.cf r.toNat j.toNat*(1 / t.cf r.toNat c.toNat)):=by
   rw[jz (by omega),cV (by omega)];unfold pB Tb.cf;rw[δB,cV (l:=bj t.cj r.toNat []) (i:=j.toNat) (by omega)]
  simp only[hL,ez];refine⟨j0,by omega,by omega,⟨dN (hok.cf (by omega) (by omega)) (by omega),dN hsI (by omega)⟩,by omega,j0,by omega,by omega,by omega,by omega,hrow ?_,by omega,by omega⟩;rw[yK (by omega) hS.symm,show(j+1).toNat=j.toNat+1 by omega]
 ·have hset:(eT (fL (pB (bj t.cj r.toNat []) (1 / t.cf r.toNat c.toNat))) j.toNat (false,([],[]))).set c.toNat (bu (1 / t.cf r.toNat c.toNat))=fL (kN (bj t.cj r.toNat []) c.toNat):=by
   rw[show j.toNat=(fL (pB (bj t.cj r.toNat []) (1 / t.cf r.toNat c.toNat))).length by omega,yJ];exact adJ (by omega)
  have hpl:(kN (bj t.cj r.toNat []) c.toNat).length=n.toNat:=by rw[SH];exact hrl
  have hfp:=@fF (kN (bj t.cj r.toNat []) c.toNat);simp only[hset,adK];have TY:∀q∈kN (bj t.cj r.toNat []) c.toNat,Sz 10000000 q:=λq hq=>by
   obtain⟨k,hk,rfl⟩:=Ψ.1 hq;rw[γp] at hk;split;·exact hsI.mono (by omega)
   ·exact(uJ (hok.cf (i:=r.toNat) (j:=k) (by omega) (by omega)) hsI).mono (by omega)
  refine⟨by omega,c0,by omega,by omega,by omega,by omega,r0,by omega,by omega,by omega,⟨dN hsB (by omega),dN hsI (by omega)⟩,by omega,⟨⟨⟨trivial,by omega⟩,rfl,rfl,rfl,rfl,rfl,rfl⟩,by omega,by omega⟩,?_⟩;rintro i ⟨i0,i1⟩;have ekl:(lp t r.toNat c.toNat i.toNat).cj.length=m.toNat:=by show(iV _ _ _ _ _).length=_;rw[wJ];exact hkl
  have ebl:(lp t r.toNat c.toNat i.toNat).bound.length=m.toNat:=by show(iV _ _ _ _ _).length=_;rw[wJ];exact hbl
  have efm:=@JV (lp t r.toNat c.toNat i.toNat).cj;have efb:=@fF (lp t r.toNat c.toNat i.toNat).bound;have hfc:=@fF t.cost;have adO:∀{a b:Tb},a.cj.length=b.cj.length->a.bound.length=b.bound.length->a.cost=b.cost->a.value=b.value->a.basic.length=b.basic.length->a.free.length=b.free.length->
    (bq.cells [.si .i64 n,.si .i64 m,.ow 1 a.cj.length 1,.ow 2 a.bound.length 3,.row sF (fL a.cost),.sb (bu a.value).1,.row (.i .u32) (bu a.value).2.1,.row (.i .u32) (bu a.value).2.2,.ow 3 a.basic.length 1,.ow 4 a.free.length 1] 261 10 false).same
    (bq.cells [.si .i64 n,.si .i64 m,.ow 1 b.cj.length 1,.ow 2 b.bound.length 3,.row sF (fL b.cost),.sb (bu b.value).1,.row (.i .u32) (bu b.value).2.1,.row (.i .u32) (bu b.value).2.2,.ow 3 b.basic.length 1,.ow 4 b.free.length 1] 261 10 false):=λh1 h2 h3 h4 h5 h6=>by
   rw[h1,h2,h3,h4,h5,h6];rfl
  have T0:∀{x y:List (List bL)},x=y->(bq.row sF.bD x 106 false).same (bq.row sF.bD y 106 false):=by rintro _ _ rfl;rfl
  have T8:∀{x y:List bL},x=y->(bq.row sF x 177 false).same (bq.row sF y 177 false):=by rintro _ _ rfl;rfl
  have T9:∀{x y:List Int},x=y->(bq.row (.i .i64) x 3 false).same (bq.row (.i .i64) y 3 false):=by rintro _ _ rfl;rfl
  refine⟨λhi=>⟨λhir=>?_,λhir=>?_⟩,λhi=>?_⟩
  ·have hRi:bj (fM (lp t r.toNat c.toNat i.toNat).cj) i.toNat sF.bD.dflt=fL (bj t.cj i.toNat []):=by
    rw[JW (by omega)];congr 1;exact TT (by omega)
   have hBi:bj (fL (lp t r.toNat c.toNat i.toNat).bound) i.toNat sF.dflt=bu (t.bd i.toNat):=by
    rw[jz (by omega)];congr 1;exact TT (by omega)
   have hli:=hw.row i.toNat (by omega);simp only[hRi,hBi,kO,ez];refine⟨by omega,i0,by omega,by omega,by omega,by omega,i0,by omega,by omega,by omega,⟨bj t.cj i.toNat [],t.bd i.toNat,kN (bj t.cj r.toNat []) c.toNat,t.bd r.toNat*(1 / t.cf r.toNat c.toNat),⟨rfl,rfl,rfl,rfl⟩,⟨by omega,by omega⟩,⟨c0,by omega⟩,λq hq=>?_,TY,(hok.bd (by omega)).mono (by omega),hsP.mono (by omega)⟩,by omega,i0,by omega,by omega,by omega,by omega,i0,by omega,by omega,by omega,by omega,⟨adO ?_ ?_ rfl rfl rfl rfl,T0 ?_,T8 ?_,rfl,rfl⟩,by omega,by omega⟩;·exact(hz.1 _ (dq (d:=[]) (by omega)) q hq).mono (by omega)
   ·show(iV _ _ _ _ _).length=(iV _ _ _ _ _).length;rw[wJ,wJ]
   ·show(iV _ _ _ _ _).length=(iV _ _ _ _ _).length;rw[wJ,wJ]
   ·rw[TX,show(i+1).toNat=i.toNat+1 by omega];congr 1;exact TU (by omega) (by omega)
   ·rw[yL,show(i+1).toNat=i.toNat+1 by omega];congr 1;exact TU (f:=t.bd) (g:=λk=>t.bd k - t.cf k c.toNat*(t.bd r.toNat*(1 / t.cf r.toNat c.toNat))) (by omega) (by omega)
  ·have e:lp t r.toNat c.toNat (i+1).toNat=lp t r.toNat c.toNat i.toNat:=by
    rw[show(i+1).toNat=r.toNat+1 by omega,show i.toNat=r.toNat by omega];unfold lp;rw[TV,TV]
   rw[e];refine⟨?_,⟨rfl,rfl,rfl,rfl,rfl⟩,?_,?_⟩<;>omega
  ·have Ua:=hok.cs (j:=c.toNat) (by omega);have hC:bj (fL t.cost) c.toNat sF.dflt=bu (t.cs c.toNat):=jz (by omega);have hcc:(lp t r.toNat c.toNat i.toNat).cost=t.cost:=rfl;have hvv:(lp t r.toNat c.toNat i.toNat).value=t.value:=rfl;have hff:(lp t r.toNat c.toNat i.toNat).free=t.free:=rfl;have hbs:(lp t r.toNat c.toNat i.toNat).basic=t.basic:=rfl;simp only[hC,hcc,hvv,hff,hbs,kO,ez];refine⟨c0,by omega,by omega,⟨t.cost,t.value,kN (bj t.cj r.toNat []) c.toNat,t.bd r.toNat*(1 / t.cf r.toNat c.toNat),⟨rfl,rfl,rfl,rfl⟩,⟨by omega,by omega⟩,⟨c0,by omega⟩,λq hq=>(hz.2.2.1 q hq).mono (by omega),TY,hz.2.2.2.mono (by omega),hsP.mono (by omega)⟩,⟨dN Ua (by omega),dN hsP (by omega)⟩,⟨dN hz.2.2.2 (by omega),dN (uJ Ua hsP) (by omega)⟩,
    by omega,r0,by omega,by omega,by omega,by omega,r0,by omega,by omega,by omega,c0,by omega,by omega,r0,by omega,by omega,r0,by omega,by omega,c0,by omega,by omega,?_,T0 ?_,T8 ?_,T9 rfl,T9 rfl⟩
   ·have hpw:=SI (r:=r.toNat) (c:=c.toNat) hw;rw[ekl,ebl,hbb,hfl,hpw.cj,hpw.bound,hpw.basic,hpw.free];rfl
   ·rw[TX,show i.toNat=t.cj.length by omega];congr 1;exact TW (by omega)
   ·rw[yL,show i.toNat=t.bound.length by omega];congr 1;exact TW (by omega)
def okO (n m:Nat) (t:Tb):Prop:=∃a M G,Small n m M G a/\Run n m a t/\kq m t
theorem adT {n m:Nat} {t:Tb} (h:okO n m t):fj n m (uO n m t) t=true:=by
 obtain⟨e,M,G,c,b,a⟩:=h;have d:=JU b a;unfold uO;grind
noncomputable def Ko:dG:=uL 160 Unit .nil (λn m t _=>okO n.toNat m.toNat t) (λn m t _=> .bI [.si .i64 (if eA (lastT n.toNat m.toNat t) n.toNat<0 then 0 else eA (lastT n.toNat m.toNat t) n.toNat),.sb (decide (eA (lastT n.toNat m.toNat t) n.toNat<0))]) (λn m t _=>lastT n.toNat m.toNat t)
def tS (t:Tb) (s:cu):Tb:=match Eu s.o with
 |some x=>x.t
 |none=>t
noncomputable def adU (n m:Int) (t:Tb):Nat->cC
 |1=> .inv Tb (λx=>⟨[(0,.ptr 0 0 10)],(bH n m x).gR⟩) (tS t) (λx=>okO n.toNat m.toNat x/\lastT n.toNat m.toNat x=lastT n.toNat m.toNat t/\fj n.toNat m.toNat (uO n.toNat m.toNat t) x=true) (λx=>yD n.toNat m.toNat (uO n.toNat m.toNat t) x) λ_ _=> .look
 |_=> .look
theorem adV {n m:Int} {t:Tb} (h:okO n.toNat m.toNat t) (e:0<=n/\n<=1000) (f:0<=m/\m<=1000):kP n m t:=by
 obtain⟨c,M,G,a,b,d⟩:=h;grind[TE]
theorem h402:ec Tryz.prog Ko:=by
 refine lB (L:=[]) (W:=[JY,JZ,r408]) Ko (λa=>adU a.1.n a.1.m a.1.t) (by simpa using⟨h411,h412,h408⟩) (by simp) ?_;rintro⟨x,u⟩ ⟨n,m,t,hx,hok,hd⟩;simp only at hx hd;subst hx;refine bQ (let a:=bq.row;let b:=γg .i64;let c:=γZ;let d:=Ω;let e:=bq.cells;let f:=(0:Int);let g:=γx;let h:=SV.bI;let I:=γP 0 0 10;let D:=(bH n m t).n;let E:=(bH n m t).m;let r:=bp.i .u32;let F:=(bH n m t).t;let l:=bH D E F;let o:=bp.i .i64;let k:=D.toNat;let s:=E.toNat;let B:=lastT k s F;let G:=uO k s F;let K:=h [b (if eA B k<f then f else eA B k),g (decide (eA B k<f))];let p:=bH D E B;let L:=e [b p.n,b p.m,c 1 p.k0 1,c 2 p.k1 3,d sF p.cost,g p.v.fst,d r p.v.snd.fst,d r p.v.snd.snd,c 3 p.k3 1,c 4 p.k4 1] 261 10 false;let M:=a sF.bD p.cj 106 false;let N:=a sF p.bound 177 false;let O:=a o p.basic 3 false;let P:=a o p.free 3 false;(((I.same I/\True)/\(e [b D,b E,c 1 (bH n m t).k0 1,c 2 (bH n m t).k1 3,d sF (bH n m t).cost,g (bH n m t).v.fst,d r (bH n m t).v.snd.fst,d r (bH n m t).v.snd.snd,c 3 (bH n m t).k3 1,c 4 (bH n m t).k4 1] 261 10 false).same (e [b l.n,b l.m,c 1 l.k0 1,c 2 l.k1 3,d sF l.cost,g l.v.fst,d r l.v.snd.fst,d r l.v.snd.snd,c 3 l.k3 1,c 4 l.k4 1] 261 10 false)/\(a sF.bD (bH n m t).cj 106 false).same (a sF.bD l.cj 106 false)/\(a sF (bH n m t).bound 177 false).same (a sF l.bound 177 false)/\(a o (bH n m t).basic 3 false).same (a o l.basic 3 false)/\(a o (bH n m t).free 3 false).same (a o l.free 3 false)/\True)/\okO k s F/\B=B/\fj k s G F=true)/\∀(x:Tb),let y:=bH D E x;let z:=eA y.t y.n.toNat;let Q:=decide (z<f);let j:=bH y.n y.m y.t;let H:=dS j.t z.toNat j.m.toNat;let R:=decide (H<f);let C:=bH j.n j.m j.t;let S:=fV C.t H.toNat z.toNat;let A:=bH C.n C.m S;let q:=bH D E A.t;let T:=λ(u u_1:Int) (u_2 u_3:Tb) (u_4:bq) ↦let J:=bH u u_1 u_2;let U:=bH J.n J.m J.t;let w:=bH U.n U.m u_3;(e [b w.n,b w.m,c 1 w.k0 1,c 2 w.k1 3,d sF w.cost,g w.v.fst,d r w.v.snd.fst,d r w.v.snd.snd,c 3 w.k3 1,c 4 w.k4 1] 261 10 false).same u_4;okO k s x/\lastT k s x=B/\fj k s G x=true->(∃(n:Int),∃(m:Int),∃(t:Tb),y=bH n m t/\kP n m t/\True)/\(Q=true->(h [γA .i64 0,δf true]).same K/\(e [b j.n,b j.m,c 1 j.k0 1,c 2 j.k1 3,d sF j.cost,g j.v.fst,d r j.v.snd.fst,d r j.v.snd.snd,c 3 j.k3 1,c 4 j.k4 1] 261 10 false).same L/\(a sF.bD j.cj 106 false).same M/\(a sF j.bound 177 false).same N/\(a o j.basic 3 false).same O/\(a o j.free 3 false).same P/\True)/\(Q=false->(∃(n:Int),∃(m:Int),∃(t:Tb),j=bH n m t/\kP n m t/\f<=z/\z<n)/\(R=true->(h [b z,δf false]).same K/\T D E x j.t L/\(a sF.bD C.cj 106 false).same M/\(a sF C.bound 177 false).same N/\(a o C.basic 3 false).same O/\(a o C.free 3 false).same P/\True)/\(R=false->(∃(n:Int),∃(m:Int),∃(t:Tb),C=bH n m t/\kP n m t/\(f<=H/\H<m)/\(f<=z/\z<n)/\t.cf H.toNat z.toNat≠(0:Rat))/\0=0/\((I.same I/\True)/\T y.n y.m y.t S (e [b q.n,b q.m,c 1 q.k0 1,c 2 q.k1 3,d sF q.cost,g q.v.fst,d r q.v.snd.fst,d r q.v.snd.snd,c 3 q.k3 1,c 4 q.k4 1] 261 10 false)/\(a sF.bD A.cj 106 false).same (a sF.bD q.cj 106 false)/\(a sF A.bound 177 false).same (a sF q.bound 177 false)/\(a o A.basic 3 false).same (a o q.basic 3 false)/\(a o A.free 3 false).same (a o q.free 3 false)/\True)/\(okO k s A.t/\lastT k s A.t=B/\fj k s G A.t=true)/\yD k s G A.t<yD k s G x))) (by kernel_rfl) ?_;simp only[ads,td,Tz,TA];try simp only[vcs]
 obtain⟨⟨hn,hm⟩,hw,hz⟩:=id hok;refine⟨⟨hd,adT hd⟩,?_⟩;rintro x ⟨hx,hl,he⟩;have EE:=adV hx hn hm;have hs:stepT n.toNat m.toNat x=if eA x n.toNat<0 then none else if dS x (eA x n.toNat).toNat m.toNat<0 then none else some (fV x (dS x (eA x n.toNat).toNat m.toNat).toNat (eA x n.toNat).toNat):=rfl;have hwx:=EE.2.1;have fin:∀{y:Tb},y=lastT n.toNat m.toNat t->bH n m y=bH n m (lastT n.toNat m.toNat t):=by rintro _ rfl;rfl
 refine⟨⟨n,m,x,rfl,EE⟩,λh0=>?_,λh0=>?_⟩
 ·rw[if_pos h0] at hs;have e:=TK hs;rw[hl] at e;rw[<-e] at h0 ⊢;rw[if_pos h0,decide_eq_true h0];exact⟨⟨rfl,rfl⟩,rfl,rfl,rfl,rfl,rfl⟩
 ·have h0':¬eA x n.toNat<0:=h0;rw[if_neg h0'] at hs;rcases @uK x n.toNat with⟨e1,e2⟩|⟨c,e1,e2,e3,e4⟩;·omega
  ·refine⟨⟨n,m,x,rfl,EE,by omega,by omega⟩,λh1=>?_,λh1=>?_⟩
   ·rw[if_pos h1] at hs;have e:=TK hs;rw[hl] at e;rw[e,if_neg h0',decide_eq_false h0'];exact⟨⟨rfl,rfl⟩,rfl,rfl,rfl,rfl,rfl⟩
   ·have h1':¬dS x (eA x n.toNat).toNat m.toNat<0:=h1;rw[if_neg h1'] at hs;rcases @wF x (eA x n.toNat).toNat m.toNat with⟨l1,l2⟩|⟨r,l1,l2,l3,l4⟩;·omega
    ·refine⟨⟨n,m,x,rfl,EE,⟨by omega,by omega⟩,⟨by omega,by omega⟩,?_⟩,?_⟩;·rw[l1,γl];grind
     ·obtain⟨t0,M,G,g1,g2,g3⟩:=hx;have hsr:=JR g2 g3 hs;have adW:=JU g2 g3;refine⟨⟨⟨t0,M,G,g1,hsr.1,hsr.2⟩,?_,Tv he hs⟩,left_step he hs⟩;rw[adE adW hs,hl]
def gq (t:Tb) (n:Nat):Nat->List Rat
 |0=>δ n 0
 |k+1=>if t.bv k<n then(gq t n k).set (t.bv k).toNat (t.bd k) else gq t n k
def jA (t:Tb) (n m:Nat):Nat->List Rat
 |0=>δ m 0
 |k+1=>if(n:Int)<=t.fv k/\t.fv k<n+m then(jA t n m k).set (t.fv k - n).toNat (-(t.cs k)) else jA t n m k
theorem EF {t:Tb} {n:Nat}:∀{k:Nat},(gq t n k).length=n
 |0=>by simp[gq];|k+1=>by
  have:=@EF t n k;grind[gq]
theorem EG {t:Tb} {n m:Nat}:∀{k:Nat},(jA t n m k).length=m
 |0=>by simp[jA];|k+1=>by
  have:=@EG t n m k;grind[jA]
def EH:dG:=uL 161 Unit .nil (λ_ _ t _=>∀v∈t.basic,0<=v) (λn m t _=> .row sF (fL (gq t n.toNat m.toNat))) (λ_ _ t _=>t)
def adX (n m:Int) (t:Tb):Nat->cC
 |3=> .inv Int (λi=>⟨[(0,.ptr 0 0 10),(3,.ow 5 n.toNat 3),(14,.ow 3 t.basic.length 1),(15,.si .i64 t.basic.length),(16,.si .i64 i)],(bH n m t).gR++[.row sF (fL (gq t n.toNat i.toNat)) 177 false]⟩)
   (λs=>iS s 16) (λi=>0<=i/\i<=m) (λi=>(m - i).toNat) λ_ _=> .look
 |_=> .look
theorem h403:ec Tryz.prog EH:=by
 refine lB (L:=[]) (W:=[r413]) EH (λa=>adX a.1.n a.1.m a.1.t) (by simpa using h413) (by simp) ?_;rintro⟨x,u⟩ ⟨n,m,t,hx,hok,hd⟩;simp only at hx hd;subst hx;refine bQ (let a:=bq.row;let b:=γg .i64;let c:=(0:Int);let d:=Ω;let e:=γZ;let p:=(bH n m t).n;let B:=γP 0 0 10;let g:=p.toNat;let C:=e 5 g 3;let J:=e 3 (bH n m t).k3 1;let k:=(bH n m t).t;let q:=k.basic.length;let G:=e 3 q 1;let H:=b (↑q:Int);let h:=(bH n m t).m;let D:=bp.i .u32;let f:=bH p h k;let r:=bq.cells [b f.n,b f.m,e 1 f.k0 1,e 2 f.k1 3,d sF f.cost,γx f.v.fst,d D f.v.snd.fst,d D f.v.snd.snd,e 3 f.k3 1,e 4 f.k4 1] 261 10 false;let s:=a sF.bD f.cj 106 false;let w:=a sF f.bound 177 false;let E:=bp.i .i64;let l:=f.basic;let y:=a E l 3 false;let z:=a E f.free 3 false;let F:=f.bound.length;(c<=p/\p<=(1000:Int))/\(((B.same B/\C.same C/\J.same G/\(b (↑(bH n m t).k3:Int)).same H/\(γA .i64 0).same (b 0)/\True)/\(bq.cells [b p,b h,e 1 (bH n m t).k0 1,e 2 (bH n m t).k1 3,d sF (bH n m t).cost,γx (bH n m t).v.fst,d D (bH n m t).v.snd.fst,d D (bH n m t).v.snd.snd,J,e 4 (bH n m t).k4 1] 261 10 false).same r/\(a sF.bD (bH n m t).cj 106 false).same s/\(a sF (bH n m t).bound 177 false).same w/\(a E (bH n m t).basic 3 false).same y/\(a E (bH n m t).free 3 false).same z/\(a sF (fL (δ g (0:Rat))) 177 false).same (a sF (fL (gq k g 0)) 177 false)/\True)/\c<=c/\c<=h)/\∀(x:Int),let o:=x+(1:Int);let K:=b o;let L:=decide (x<(↑q:Int));let A:=bj l x.toNat c;let M:=decide (A<f.n);let j:=fL (gq k g x.toNat);let I:=bj f.bound x.toNat sF.dflt;let N:=λ(u:bq) ↦cq .i64 o/\((B.same B/\C.same C/\G.same G/\H.same H/\K.same K/\True)/\r.same r/\s.same s/\w.same w/\y.same y/\z.same z/\u.same (a sF (fL (gq k g o.toNat)) 177 false)/\True)/\(c<=o/\o<=h)/\(h - o).toNat<(h - x).toNat;c<=x/\x<=h->(L=true->q=l.length/\c<=x/\x<(↑l.length:Int)/\q=l.length/\x.toNat<l.length/\(M=true->f.k1=F/\c<=x/\x<(↑F:Int)/\f.k1=F/\x.toNat<F/\g=j.length/\c<=A/\A<(↑j.length:Int)/\g=j.length/\A.toNat<j.length/\N (a sF (j.set A.toNat (I.fst,I.snd.fst,I.snd.snd)) 177 false))/\(M=false->N (a sF j 177 false)))/\(L=false->g=j.length/\(d sF j).same (d sF (fL (gq k g h.toNat)))/\r.same r/\s.same s/\w.same w/\y.same y/\z.same z/\True)) (by kernel_rfl) ?_;simp only[td];try simp only[bH]
 simp only[vcs];obtain⟨⟨⟨n0,n1⟩,m0,m1⟩,hw,hz⟩:=id hok;have hbb:=hw.basic;have hbl:=hw.bound;have J0:=@fF t.bound;have hbv:∀k:Nat,bj t.basic k 0=t.bv k:=λk=>rfl;have hrow:∀{x y:List bL},x=y->(bq.row sF x 177 false).same (bq.row sF y 177 false):=by rintro _ _ rfl;rfl
 refine⟨⟨n0,n1⟩,⟨hrow rfl,by omega,by omega⟩,?_⟩;rintro i ⟨i0,i1⟩;have hpl:=@EF t n.toNat i.toNat;have hfp:=@fF (gq t n.toNat i.toNat);refine⟨λhi=>?_,λhi=>⟨by omega,by rw[show i.toNat=m.toNat by omega]⟩⟩;have hv:=hd _ (Bc hw (show i.toNat<m.toNat by omega));have hB:bj (fL t.bound) i.toNat sF.dflt=bu (t.bd i.toNat):=jz (by omega);have hs:gq t n.toNat (i+1).toNat=if t.bv i.toNat<n.toNat then(gq t n.toNat i.toNat).set (t.bv i.toNat).toNat (t.bd i.toNat) else gq t n.toNat i.toNat:=by
  rw[show(i+1).toNat=i.toNat+1 by omega];rfl
 simp only[hbv,hB,jO,hs];refine⟨i0,hi,by omega,λhlt=>⟨by omega,i0,by omega,by omega,by omega,by omega,hv,by omega,by omega,by omega,by omega,hrow ?_,by omega,by omega⟩,λhlt=>⟨by omega,hrow ?_,by omega,by omega⟩⟩;·rw[yL,if_pos (by omega)]
 ·rw[if_neg (by omega)]
def EI:dG:=uL 163 Unit .nil (λ_ _ t _=>True) (λn m t _=> .row sF (fL (jA t n.toNat m.toNat n.toNat))) (λ_ _ t _=>t)
def adY (n m:Int) (t:Tb):Nat->cC
 |3=> .inv Int (λi=>⟨[(0,.ptr 0 0 10),(3,.ow 5 m.toNat 3),(14,.ow 4 t.free.length 1),(15,.si .i64 t.free.length),(16,.si .i64 i)],(bH n m t).gR++[.row sF (fL (jA t n.toNat m.toNat i.toNat)) 177 false]⟩)
   (λs=>iS s 16) (λi=>0<=i/\i<=n) (λi=>(n - i).toNat) λ_ _=> .look
 |_=> .look
theorem h405:ec Tryz.prog EI:=by
 refine lB (L:=[yB]) (W:=[r413]) EI (λa=>adY a.1.n a.1.m a.1.t) (by simpa using h413) (by simpa using h130) ?_;rintro⟨x,u⟩ ⟨n,m,t,hx,hok,hd⟩;simp only at hx hd;subst hx;refine bQ (let a:=bq.row;let b:=γg .i64;let c:=(0:Int);let d:=Ω;let e:=γZ;let f:=cq .i64;let A:=(bH n m t).m;let u:=γP 0 0 10;let k:=A.toNat;let w:=e 5 k 3;let M:=e 4 (bH n m t).k4 1;let y:=(bH n m t).t;let B:=y.free.length;let C:=e 4 B 1;let D:=b (↑B:Int);let h:=(bH n m t).n;let G:=bp.i .u32;let g:=bH h A y;let o:=bq.cells [b g.n,b g.m,e 1 g.k0 1,e 2 g.k1 3,d sF g.cost,γx g.v.fst,d G g.v.snd.fst,d G g.v.snd.snd,e 3 g.k3 1,e 4 g.k4 1] 261 10 false;let p:=a sF.bD g.cj 106 false;let q:=a sF g.bound 177 false;let H:=bp.i .i64;let r:=a H g.basic 3 false;let z:=g.free;let s:=a H z 3 false;let E:=h.toNat;(c<=A/\A<=(1000:Int))/\(((u.same u/\w.same w/\M.same C/\(b (↑(bH n m t).k4:Int)).same D/\(γA .i64 0).same (b 0)/\True)/\(bq.cells [b h,b A,e 1 (bH n m t).k0 1,e 2 (bH n m t).k1 3,d sF (bH n m t).cost,γx (bH n m t).v.fst,d G (bH n m t).v.snd.fst,d G (bH n m t).v.snd.snd,e 3 (bH n m t).k3 1,M] 261 10 false).same o/\(a sF.bD (bH n m t).cj 106 false).same p/\(a sF (bH n m t).bound 177 false).same q/\(a H (bH n m t).basic 3 false).same r/\(a H (bH n m t).free 3 false).same s/\(a sF (fL (δ k (0:Rat))) 177 false).same (a sF (fL (jA y E k 0)) 177 false)/\True)/\c<=c/\c<=h)/\∀(x:Int),let j:=x+(1:Int);let I:=b j;let l:=fL (jA y E k x.toNat);let N:=a sF (fL (jA y E k j.toNat)) 177 false;let O:=decide (x<(↑B:Int));let J:=bj z x.toNat c;let P:=decide (g.n<=J);let Q:=decide (J<g.n+g.m);let F:=J - g.n;let K:=bj g.cost x.toNat sF.dflt;let L:=(K.fst,K.snd.fst,K.snd.snd);let R:=(bu (-bW L)).snd;let S:=f j/\((u.same u/\w.same w/\C.same C/\D.same D/\I.same I/\True)/\o.same o/\p.same p/\q.same q/\r.same r/\s.same s/\(a sF l 177 false).same N/\True)/\(c<=j/\j<=h)/\(h - j).toNat<(h - x).toNat;c<=x/\x<=h->(O=true->B=z.length/\c<=x/\x<(↑z.length:Int)/\B=z.length/\x.toNat<z.length/\(P=true->f (g.n+g.m)/\(Q=true->f F/\c<=x/\x<(↑g.cost.length:Int)/\x.toNat<g.cost.length/\cE L/\k=l.length/\c<=F/\F<(↑l.length:Int)/\k=l.length/\F.toNat<l.length/\f j/\((u.same u/\w.same w/\C.same C/\D.same D/\I.same I/\True)/\o.same o/\p.same p/\q.same q/\r.same r/\s.same s/\(a sF (l.set F.toNat ((bu (-bW L)).fst,R.fst,R.snd)) 177 false).same N/\True)/\(c<=j/\j<=h)/\(h - j).toNat<(h - x).toNat)/\(Q=false->S))/\(P=false->S))/\(O=false->k=l.length/\(d sF l).same (d sF (fL (jA y E k E)))/\o.same o/\p.same p/\q.same q/\r.same r/\s.same s/\True)) (by kernel_rfl) ?_;simp only[td];try simp only[bH]
 simp only[vcs];obtain⟨⟨⟨n0,n1⟩,m0,m1⟩,hw,hz⟩:=id hok;have hfl:=hw.free;have hcl:=hw.cost;have hfc:=@fF t.cost;have Ew:∀k:Nat,bj t.free k 0=t.fv k:=λk=>rfl;have hrow:∀{x y:List bL},x=y->(bq.row sF x 177 false).same (bq.row sF y 177 false):=by rintro _ _ rfl;rfl
 refine⟨⟨m0,m1⟩,⟨hrow rfl,by omega,by omega⟩,?_⟩;rintro i ⟨i0,i1⟩;have hpl:=@EG t n.toNat m.toNat i.toNat;have hfp:=@fF (jA t n.toNat m.toNat i.toNat);refine⟨λhi=>?_,λhi=>⟨by omega,by rw[show i.toNat=n.toNat by omega]⟩⟩;have hC:bj (fL t.cost) i.toNat sF.dflt=bu (t.cs i.toNat):=jz (by omega);have hs:jA t n.toNat m.toNat (i+1).toNat=if(n.toNat:Int)<=t.fv i.toNat/\t.fv i.toNat<n.toNat+m.toNat then(jA t n.toNat m.toNat i.toNat).set (t.fv i.toNat - n.toNat).toNat (-(t.cs i.toNat)) else jA t n.toNat m.toNat i.toNat:=by
  rw[show(i+1).toNat=i.toNat+1 by omega];rfl
 simp only[Ew,hC,jO,hs,ez];refine⟨i0,hi,by omega,λh1=>⟨by omega,λh2=>⟨by omega,i0,by omega,by omega,dN (hok.cs (by omega)) (by omega),by omega,by omega,by omega,by omega,by omega,by omega,hrow ?_,by omega,by omega⟩,λh2=>⟨by omega,hrow ?_,by omega,by omega⟩⟩,λh1=>⟨by omega,hrow ?_,by omega,by omega⟩⟩;·rw[yL,if_pos (by omega),show(n.toNat:Int)=n by omega]
 ·rw[if_neg (by omega)]
 ·rw[if_neg (by omega)]
@[reducible] def sR:bp:=.pair (.bD sF) sF
abbrev tf:=List bL×List (List bL×bL)
def yM:qB tf where
 put a:=.agg [.row sF a.1,.row sR a.2];dec
  | .agg [r,v]=>match jJ sF r,jJ sR v with
   |some c,some v=>some (c,v)
   |_,_=>none
  |_=>none;ok v a h:=by
  grind[SV.g,gL,pe]
 inj a b h:=by
  obtain⟨c,v⟩:=a;obtain⟨f,i⟩:=b;simp only[SV.g,gL,AV.agg.injEq,Γ,and_true,δ5] at h;have e:=lA sF h.1.1 h.1.2;have d:=lA sR h.2.1 h.2.2;rw[e,d]
def iW (x:bL):Prop:=(bA x.2.1/\bA x.2.2)/\x.2.1.length<=10000000/\x.2.2.length<=10000000
def Kp:bM:=⟨175,List bL,.one (dL sF),λl=>(show List bL from l).length<=1000/\∀x∈(show List bL from l),iW x,λl=> .sb ((show List bL from l).all okF)⟩
def adZ (l:List bL):Nat->cC
 |2=> .inv Int (λi=>⟨[(5,.row sF l),(6,.si .i64 l.length),(7,.si .i64 i)],[]⟩)
   (λs=>iS s 7) (λi=>(0<=i/\i<=l.length)/\(l.take i.toNat).all okF=true) (λi=>(l.length - i).toNat) λ_ _=> .look
 |_=> .look
theorem h406:Holds Tryz.prog Kp:=by
 refine cH (L:=[uI]) Kp adZ (by grind[h407]) ?_;rintro(l:List bL) ⟨(q:l.length<=1000),(n:∀x∈l,iW x)⟩;refine bQ (let d:=(0:Int);let e:=γg .i64;let g:=Ω;let a:=(↑l.length:Int);let f:=e a;((((g sF l).same (g sF l)/\(e (↑l.length:Int)).same f/\(γA .i64 0).same (e 0)/\True)/\True)/\(d<=d/\d<=a)/\true=true)/\∀(x:Int),let b:=bj l x.toNat sF.dflt;let c:=x+(1:Int);let k:=e c;let m:=λ(u:Bool) ↦(!okF (b.fst,b.snd.fst,b.snd.snd))=u;(d<=x/\x<=a)/\(Δ x.toNat l).all okF=true->(decide (x<a)=true->d<=x/\x<(↑l.length:Int)/\x.toNat<l.length/\((bA b.snd.fst/\bA b.snd.snd)/\γc b.snd.fst<=10000000/\γc b.snd.snd<=10000000)/\(m true->(δf false).same (γx (l.all okF)))/\(m false->cq .i64 c/\(((g sF l).same (g sF l)/\f.same f/\k.same k/\True)/\True)/\((d<=c/\c<=a)/\(Δ c.toNat l).all okF=true)/\(a - c).toNat<(a - x).toNat))/\(decide (x<a)=false->(δf true).same (γx (l.all okF)))) (by kernel_rfl) ?_;simp only[vcs];refine⟨⟨by omega,by omega⟩,?_⟩;rintro i ⟨⟨j,t⟩,e⟩;refine⟨λh=>?_,λh=>?_⟩
 ·have p:=dq (d:=sF.dflt) (show i.toNat<l.length by omega);have r:=jZ (d:=sF.dflt) j h;have g:=n _ p;have o:okF ((bj l i.toNat sF.dflt).1,(bj l i.toNat sF.dflt).2.1,(bj l i.toNat sF.dflt).2.2)=okF (bj l i.toNat sF.dflt):=rfl;rw[o];refine⟨j,h,by omega,⟨g.1,g.2.1,g.2.2⟩,λs=>?_,λv=>⟨by omega,⟨⟨by omega,by omega⟩,?_⟩,by omega⟩⟩;all_goals grind
 ·rw[show i.toNat=l.length by omega,List.take_length] at e;simp_all
def Kq:bM:=⟨156,tf,.one yM,λa=>(a.1.length<=160/\a.2.length<=40)/\(∀x∈a.1,iW x/\okF x=true)/\∀r∈a.2,r.1.length=a.1.length/\(∀x∈r.1,iW x/\okF x=true)/\iW r.2/\okF r.2=true,λ_=> .si .i64 0⟩
def ad1 (a:tf):Nat->cC
 |6=> .inv Int (λi=>⟨[(1,.ptr 0 0 2),(20,.row sR a.2),(21,.si .i64 a.2.length),(22,.si .i64 i)],[.cells [.row sF a.1,.row sR a.2] 217 2 false]⟩)
   (λs=>iS s 22) (λi=>0<=i/\i<=a.2.length) (λi=>(a.2.length - i).toNat) λ_ _=> .look
 |_=> .look
theorem h398:Holds Tryz.prog Kq:=by
 refine cH (L:=[Kp,uI]) Kq ad1 (by simpa using⟨h406,h407⟩) ?_;rintro⟨g,rs⟩ ⟨⟨hl1,hl2⟩,hg,hr⟩;simp only at hl1 hl2 hg hr;refine bQ (let a:=γA .i64;let b:=(0:Int);let c:=γg .i64;let d:=γA .i64 0;let q:=decide ((160:Int)<(↑g.length:Int));let e:=c 0;let m:=(↑rs.length:Int);let r:=decide ((40:Int)<m);let k:=γP 0 0 2;let i:=Ω sR rs;let f:=(↑rs.length:Int);let n:=c f;let l:=bq.cells [Ω sF g,i] 217 2 false;(q=true->(a 3).same e)/\(q=false->(r=true->(a 3).same e)/\(r=false->(g.length<=1000/\∀(x:bL),x∈g->iW x)/\((!g.all okF)=true->(a 2).same e)/\((!g.all okF)=false->(((k.same k/\i.same i/\(c m).same n/\(a 0).same e/\True)/\l.same l/\True)/\b<=b/\b<=f)/\∀(x:Int),let h:=bj rs x.toNat sR.dflt;let o:=h.snd.snd.fst;let p:=h.snd.snd.snd;let s:=!List.all h.fst okF;let j:=x+(1:Int);let t:=c j;let v:=λ(u:Bool) ↦(!okF (h.snd.fst,o,p))=u;let w:=λ(u:Bool) ↦decide ((↑(γc h.fst):Int)≠(↑g.length:Int))=u;b<=x/\x<=f->(decide (x<f)=true->b<=x/\x<m/\x.toNat<rs.length/\(w true->(a 2).same e)/\(w false->(γc h.fst<=1000/\∀(x:bL),x∈h.fst->iW x)/\(s=true->(a 2).same e)/\(s=false->((bA o/\bA p)/\γc o<=10000000/\γc p<=10000000)/\(v true->(a 2).same e)/\(v false->cq .i64 j/\((k.same k/\i.same i/\n.same n/\t.same t/\True)/\l.same l/\True)/\(b<=j/\j<=f)/\(f - j).toNat<(f - x).toNat))))/\(decide (x<f)=false->(a 0).same e))))) (by kernel_rfl) ?_;simp only[vcs];have hall:∀{l:List bL},(∀x∈l,iW x/\okF x=true)->l.all okF=true:=λh=>φ.2 λx hx=>(h x hx).2;refine⟨λh=>by omega,λ_=>⟨λh=>by omega,λ_=>⟨⟨by omega,λx hx=>(hg x hx).1⟩,λh=>(by rw[hall hg] at h;cases h),λ_=>⟨⟨by omega,by omega⟩,?_⟩⟩⟩⟩;rintro i ⟨i0,i1⟩;refine⟨λhi=>?_,λ_=>trivial⟩;have hm:=hr _ (dq (d:=sR.dflt) (show i.toNat<rs.length by omega));have h2:okF ((bj rs i.toNat sR.dflt).2.1,(bj rs i.toNat sR.dflt).2.2.1,(bj rs i.toNat sR.dflt).2.2.2)=okF (bj rs i.toNat sR.dflt).2:=rfl;rw[h2];refine⟨i0,hi,by omega,λh=>absurd (by rw[hm.1]) h,λ_=>⟨⟨by have:=hm.1;omega,λx hx=>(hm.2.1 x hx).1⟩,λh=>?_,λ_=>⟨⟨hm.2.2.1.1,hm.2.2.1.2.1,hm.2.2.1.2.2⟩,λh=>?_,λ_=>⟨by omega,⟨by omega,by omega⟩,by omega⟩⟩⟩⟩
 ·have:=hall hm.2.1;rw[show List.all (bj rs i.toNat sR.dflt).1 okF=true from this] at h;cases h
 ·rw[hm.2.2.2] at h;cases h
end Go.Vi
