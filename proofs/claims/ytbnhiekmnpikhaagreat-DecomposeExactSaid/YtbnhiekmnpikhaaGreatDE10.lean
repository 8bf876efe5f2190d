import Derived.Test.YtbnhiekmnpikhaaGreatDE09
set_option maxRecDepth 100000
set_option maxHeartbeats 4000000
set_option linter.all false
open Classical renaming choose->δU
open Go.Vi.AV.sl renaming injEq->δ7
open Go.Vi.SV renaming row->γa,agg->γN,sb->γB,si->γj,bl->δj,ow->γ1,ptr->γV,il->γC
open Int renaming mul_nonneg->γy,mul_pos->εB,le_of_lt->γg,natAbs_mul->εs,toNat_of_nonneg->εC,toNat_natCast->γk
open IntCast renaming intCast->κ
open List renaming length->γd,length_take->γz,range->ω,length_append->γh,map_map->γP,map_congr_left->γI,length_map->Ξ,map_cons->ξ,map_nil->γw,nodup_append->γx,mem_map->Γ,all_eq_true->ψ,mem_range->γD,replicate->δ,ext_getElem->γ9,length_replicate->γE,getElem_set->εY,getElem_map->δF,getElem_range->εI,take->Δ
open List.cons renaming injEq->Θ
open Nat renaming mul_le_mul->ζn
open Option renaming isNone_iff_eq_none->γU
open Option.some renaming injEq->γ
open Rat renaming mkRat_eq_div->δG,mkRat_self->δY,intCast_natCast->ε6,mul_nonneg->δx
namespace Go.Vi
open Go.Proofs.YtbnhiekmnpikhaaGreat.Ir
open Go.Proofs
theorem LJ (p q:Rat):(if(!(decide (p<0)==decide (q<0)))=true then -((p.num.natAbs:Int)*(q.num.natAbs:Int)) else(p.num.natAbs:Int)*(q.num.natAbs:Int))=p.num*q.num:=by
 have a:=sI p;have b:=sI q;grind
theorem LI (p q:Rat):eM (!(decide (p<0)==decide (q<0))) ((p.num.natAbs:Int)*(q.num.natAbs:Int)) ((p.den:Int)*(q.den:Int))=p*q:=by
 unfold eM;rw[LJ,show((p.den:Int)*(q.den:Int)).toNat=p.den*q.den by omega,δG];have a:(p.num:Rat) / (p.den:Rat)=p:=by rw[<-δG,δY]
 have b:(q.num:Rat) / (q.den:Rat)=q:=by rw[<-δG,δY]
 grind
theorem LH {p q:Rat} (a:q≠0):eM (!(decide (p<0)==decide (q<0))) ((p.num.natAbs:Int)*(q.den:Int)) ((p.den:Int)*(q.num.natAbs:Int))=p / q:=by
 unfold eM;rw[show((p.den:Int)*(q.num.natAbs:Int)).toNat=p.den*q.num.natAbs by omega,δG];have k:(p.num:Rat) / (p.den:Rat)=p:=by rw[<-δG,δY]
 have d:(q.num:Rat) / (q.den:Rat)=q:=by rw[<-δG,δY]
 have m:(p.den:Rat)≠0:=by have:=p.den_nz;simp_all
 have o:(q.den:Rat)≠0:=by grind
 have e:=sI p;have g:=sI q;have n:(q.num:Rat)≠0:=λh=>a (by grind);rw[Rat.natCast_mul];conv=>rhs;rw[<-k,<-d]
 have f:((p.num.natAbs:Int):Rat)=(p.num.natAbs:Rat):=ε6 _;have c:((q.num.natAbs:Int):Rat)=(q.num.natAbs:Rat):=ε6 _;have i:((q.den:Int):Rat)=(q.den:Rat):=ε6 _;have j:(p.num:Rat)=if decide (p<0)=true then -(p.num.natAbs:Rat) else(p.num.natAbs:Rat):=by
  rw[<-f];conv=>lhs;rw[e]
  split<;>grind
 have b:(q.num:Rat)=if decide (q<0)=true then -(q.num.natAbs:Rat) else(q.num.natAbs:Rat):=by
  rw[<-c];conv=>lhs;rw[g]
  split<;>grind
 have l:((if(!(decide (p<0)==decide (q<0)))=true then -((p.num.natAbs:Int)*(q.den:Int)) else(p.num.natAbs:Int)*(q.den:Int):Int):Rat)=if(!(decide (p<0)==decide (q<0)))=true then -((p.num.natAbs:Rat)*(q.den:Rat)) else(p.num.natAbs:Rat)*(q.den:Rat):=by
  split<;>grind
 grind
def wV:NG:=⟨178,NH×NH,.cons (dD sF) (.one (dD sF)),λa=>bL a.1/\bL a.2,λa=>nH (TL a.1*TL a.2)⟩
theorem tZ:Holds Tryz.prog wV:=by
 refine bM (L:=[vu,vZ]) wV lk (by grind[qU,qY]) ?_;rintro⟨x,y⟩ ⟨⟨p,i,n,f,M⟩,⟨q,j,o,l,G⟩⟩;simp only at n o;subst n o;refine NI (let f:=γa;let c:=(nf p).2.1;let k:=(nf q).2.1;let g:=(nf p).2.2;let h:=(nf q).2.2;let m:=bU (bX c*bX k);let b:=bU (bX g*bX h);let d:=nf (eM (!(nf p).1==(nf q).1) (bX m) (bX b));let a:=ew.i .u32;let e:=nf (TL (nf p)*TL (nf q));((ou c/\ou k)/\γd c<=100000000000/\γd k<=100000000000)/\((ou g/\ou h)/\γd g<=100000000000/\γd h<=100000000000)/\((ou m/\ou b)/\(m.length<=1000000000/\b.length<=1000000000)/\(0:Int)<bX b)/\(γN [γB d.1,f a d.2.1,f a d.2.2]).bi (γN [γB e.1,f a e.2.1,f a e.2.2])) (by kernel_rfl) ?_;conv=>zeta
 obtain⟨t,⟨P,_,s⟩,⟨E,_,v⟩⟩:=kN p;obtain⟨u,⟨J,_,z⟩,⟨I,_,A⟩⟩:=kN q;obtain⟨D,F⟩:=mZ f;obtain⟨O,N⟩:=mZ l;have C:=p.den_pos;have K:=q.den_pos;rw[s,v,z,A,t,u,dJ,dJ];have r:0<=(p.num.natAbs:Int)*(q.num.natAbs:Int):=γy (by omega) (by omega);have w:0<(p.den:Int)*(q.den:Int):=εB (by omega) (by omega);have H:=lB r (oY (by omega) f.1 l.1);have B:=lB (γg w) (oY (by omega) f.2 l.2);grind[fo,zW,LI]
def zU:NG:=⟨184,NH×NH,.cons (dD sF) (.one (dD sF)),λa=>(bL a.1/\bL a.2)/\TL a.2≠0,λa=> .Gz [nH (TL a.1 / TL a.2),.si .i64 0]⟩
theorem yM:Holds Tryz.prog zU:=by
 refine bM (L:=[vu,wW]) zU lk (by grind[qU,uc]) ?_;rintro⟨x,y⟩ ⟨⟨⟨p,i,v,f,X⟩,⟨q,j,u,m,Q⟩⟩,a⟩;simp only at v u a;subst v u;refine NI (let a:=γa;let g:=(nf p).2.1;let d:=(nf q).2.2;let r:=(nf p).2.2;let e:=(nf q).2.1;let k:=bU (bX g*bX d);let c:=bU (bX r*bX e);let l:=nf (eM (!(nf p).1==(nf q).1) (bX k) (bX c));let b:=ew.i .u32;let t:=[γj .i64 0];let o:=nf (TL (nf p) / TL (nf q));((ou g/\ou d)/\γd g<=100000000000/\γd d<=100000000000)/\((ou r/\ou e)/\γd r<=100000000000/\γd e<=100000000000)/\((ou k/\ou c)/\(k.length<=1000000000/\c.length<=1000000000)/\(0:Int)<bX c)/\(SV.Gz (γN [γB l.1,a b l.2.1,a b l.2.2]::t)).bi (SV.Gz (γN [γB o.1,a b o.2.1,a b o.2.2]::t))) (by kernel_rfl) ?_;conv=>zeta
 rw[dJ] at a;obtain⟨E,⟨C,_,M⟩,⟨K,_,I⟩⟩:=kN p;obtain⟨B,⟨z,_,J⟩,⟨F,_,A⟩⟩:=kN q;obtain⟨V,O⟩:=mZ f;obtain⟨S,W⟩:=mZ m;have T:=p.den_pos;have Z:=q.den_pos;have R:q.num≠0:=λh=>a (Rat.num_eq_zero.1 h);rw[M,I,J,A,E,B,dJ,dJ];have s:0<=(p.num.natAbs:Int)*(q.den:Int):=γy (by omega) (by omega);have n:0<(p.den:Int)*(q.num.natAbs:Int):=εB (by omega) (by omega);have Y:=lB s (oY (by omega) f.1 m.2);have N:=lB (γg n) (oY (by omega) f.2 m.1);obtain⟨G,H,P⟩:=fo s;obtain⟨w,D,U⟩:=fo (γg n);rw[G,w,LH a];refine⟨⟨⟨C,F⟩,?_,?_⟩,⟨⟨K,z⟩,?_,?_⟩,⟨⟨H,D⟩,⟨?_,?_⟩,n⟩,rfl⟩<;>omega
def EI:NG:=⟨169,List Int,.one (cO (.i .u32)),λa=>ou (show List Int from a)/\(show List Int from a).length<=1000000000,λa=> .sb (qj a)⟩
theorem Ib:Holds Tryz.prog EI:=by
 refine bM (L:=[pH]) EI lk (by grind[kX]) ?_;rintro(a:List Int) h;refine NI (a.length<=1000000000000/\(γB (decide ((↑(IL a).length:Int)=(↑a.length:Int)))).bi (γB (qj a))) (by kernel_rfl) ?_;simp only[vcs];obtain⟨f,d⟩:ou a/\a.length<=1000000000:=h;refine⟨by omega,?_⟩;cases c:qj a with
 |true=>
  grind[oq,xR,sj];|false=>
  refine decide_eq_false λb=>?_;have e:IL a=a:=by
   unfold IL at b ⊢;rw[γz] at b;exact List.take_of_length_le (by omega)
  grind[pG,sj]
def EH:NG:=⟨170,NH,.one (dD sF),λx=>x.2.1.length<=1000000000,λx=> .agg [.sb x.1,.sb (decide (x.2.1=[]))]⟩
theorem Ia:Holds Tryz.prog EH:=by
 refine bM (L:=[]) EH lk (by simp) ?_;rintro⟨s,n,d⟩ h;refine NI (let a:=γB;(γN [a s,a (decide ((↑n.length:Int)=(0:Int)))]).bi (γN [a s,a (decide (n=[]))])) (by kernel_rfl) ?_;have e:decide ((n.length:Int)=0)=decide (n=[]):=by
  simp_all
 rw[e];rfl
def sh:NG:=⟨141,NH,.one (dD sF),λx=>(ou x.2.1/\ou x.2.2)/\x.2.1.length<=10000000/\x.2.2.length<=10000000,λx=> .sb (okF x)⟩
theorem nD:Holds Tryz.prog sh:=by
 refine bM (L:=[EI,EH,z6,vt,vN]) sh lk (by grind[Ib,Ia,su,qX,qV]) ?_;rintro⟨s,n,d⟩ ⟨⟨m,f⟩,j,k⟩;refine NI (let a:=δj false;let b:=(0:Int);let c:=(1:Int);let l:=γB (okF (s,n,d));let w:=decide ((↑d.length:Int)=b);let x:=s==true&&(decide (n=[])==true&&true);let p:=bU (dK (bX n) (bX d));let t:=bU c;(ou n/\n.length<=1000000000)/\((!qj n)=true->(a).bi l)/\((!qj n)=false->(ou d/\d.length<=1000000000)/\((!qj d)=true->(a).bi l)/\((!qj d)=false->(w=true->(a).bi l)/\(w=false->n.length<=1000000000/\(x=true->(a).bi l)/\(x=false->((ou n/\ou d)/\n.length<=1000000000/\d.length<=1000000000)/\(b<=c/\c<(18446744073709551616:Int))/\((ou p/\ou t)/\p.length<=1000000000000/\t.length<=1000000000000)/\(γB (decide (kV (bX p) (bX t)=b))).bi l))))) (by kernel_rfl) ?_;simp only[vcs];have m:ou n:=m;have f:ou d:=f;have j:n.length<=10000000:=j;have k:d.length<=10000000:=k;have c:¬(fe n/\fe d/\d≠[])->false=okF (s,n,d):=λh=>by
  grind[Vj]
 have e:∀{a:List Int},((a.length:Nat):Int)=0->a=[]:=λh=>List.eq_nil_of_length_eq_zero (by omega);have b:∀{a:List Int},¬((a.length:Nat):Int)=0->a≠[]:=λh i=>h (by rw[i];rfl);refine⟨⟨m,by omega⟩,λu=>c λh=>?_,λu=>⟨⟨f,by omega⟩,λi=>c λh=>?_,λi=>⟨λo=>c λh=>h.2.2 (e o),λo=>⟨by omega,λC=>?_,λC=>?_⟩⟩⟩⟩;·grind[sj]
 ·grind[sj]
 all_goals
  have E:=okF_eq (s:=s) m f (sj.1 u) (sj.1 i) (b o);have D:=EJ f (sj.1 i) (b o);have J:=@LK (bX n) (bX d) D;obtain⟨H,v,A⟩:=fo (show 0<=dK (bX n) (bX d) by omega);obtain⟨B,G,I⟩:=fo (show(0:Int)<=1 by omega);have y:dK (bX n) (bX d)<=bX d:=by
   unfold dK;have:=Nat.gcd_le_right (bX n).toNat (show 0<(bX d).toNat by omega);omega
  rw[E]
 ·simp_all
 ·have F:=EK v f A (by omega);refine⟨⟨⟨m,f⟩,by omega,by omega⟩,by omega,⟨⟨v,G⟩,by omega,by decide⟩,?_⟩;rw[H,B];have r:(kV (dK (bX n) (bX d)) 1=0)=(dK (bX n) (bX d)=1):=by
   grind[kV]
  simp only[r];by_cases g:n=[]
  ·rw[if_pos g];have z:s=false:=by
    simp_all
   have q:dK (bX n) (bX d)=bX d:=by
    rw[g];unfold dK;simp[bX];omega
   rw[q,z,Bool.not_false,Bool.true_and,decide_eq_decide];constructor
   ·intro h;rw[<-xR f (sj.1 i),h];rfl
   ·intro h;rw[h];rfl
  ·rw[if_neg g]
theorem sg {p q:Rat} {i j:Nat} (b:Sz i p) (a:Sz j q):Sz (i+j) (p*q):=by
 rw[<-LI];unfold eM;rw[LJ];have c:=p.den_pos;have d:=q.den_pos;have e:0<(p.den:Int)*(q.den:Int):=εB (by omega) (by omega);refine wZ (by omega) ?_ ?_
 ·rw[εs,Int.natCast_mul];exact oY (by omega) b.1 a.1
 ·rw[εC (by omega)];exact oY (by omega) b.2 a.2
theorem EG {p q:Rat} {i j:Nat} (c:Sz i p) (b:Sz j q) (d:q≠0):Sz (i+j) (p / q):=by
 rw[<-LH d];unfold eM;have e:=p.den_pos;have f:=q.den_pos;have l:q.num≠0:=λh=>d (Rat.num_eq_zero.1 h);have k:0<(p.den:Int)*(q.num.natAbs:Int):=εB (by omega) (by omega);have g:=oY (a:=(p.num.natAbs:Int)) (by omega) c.1 b.2;refine wZ (by omega) ?_ ?_;·grind
 ·rw[εC (by omega)];exact oY (by omega) c.2 b.1
theorem Vg {p q:Rat}:0<gK p q↔q<p:=by
 grind[gK]
theorem Vf {p q:Rat}:gK p q=0↔p=q:=by
 grind[gK]
def dI (t:Tb):Nat->Int
 |0=> -1
 |k+1=>if 0<t.cs k/\(dI t k<0\/t.fv k<t.fv (dI t k).toNat) then(k:Int) else dI t k
def dn (t:Tb) (c:Nat):Nat->Int
 |0=> -1
 |k+1=>if t.cf k c<=0 then dn t c k
  else if 0<=dn t c k/\(t.bd (dn t c k).toNat / t.cf (dn t c k).toNat c<t.bd k / t.cf k c\/(t.bd k / t.cf k c=t.bd (dn t c k).toNat / t.cf (dn t c k).toNat c/\t.bv (dn t c k).toNat<t.bv k)) then dn t c k
  else(k:Int)
section
variable {n m:Nat} {t t0:Tb} {r c:Nat}
theorem sf:∀{k:Nat},(dI t k= -1/\∀j,j<k->¬0<t.cs j)\/(∃b:Nat,dI t k=b/\b<k/\0<t.cs b/\∀j,j<k->0<t.cs j->t.fv b<=t.fv j)
 |0=> .inl ⟨rfl,λj h=>by omega⟩
 |k+1=>by
  unfold dI;rcases @sf k with⟨a,c⟩|⟨b,a,c,d,e⟩;·grind
  ·have f:(dI t k).toNat=b:=by omega
   grind
theorem sG {c:Nat}:∀{k:Nat},(dn t c k= -1/\∀j,j<k->t.cf j c<=0)\/(∃b:Nat,dn t c k=b/\b<k/\0<t.cf b c/\∀j,j<k->0<t.cf j c->t.bd b / t.cf b c<t.bd j / t.cf j c\/(t.bd b / t.cf b c=t.bd j / t.cf j c/\t.bv b<=t.bv j))
 |0=> .inl ⟨rfl,λj h=>by omega⟩
 |k+1=>by
  unfold dn;by_cases e:t.cf k c<=0
  ·rw[if_pos e];rcases @sG c k with⟨f,a⟩|⟨b,f,a,o,n⟩<;>grind
  ·rw[if_neg e];have g:0<t.cf k c:=Rat.not_le.1 e;rcases @sG c k with⟨f,a⟩|⟨b,f,a,o,n⟩;·grind
   ·have i:(dn t c k).toNat=b:=by omega
    rw[i];by_cases d:0<=dn t c k/\(t.bd b / t.cf b c<t.bd k / t.cf k c\/(t.bd k / t.cf k c=t.bd b / t.cf b c/\t.bv b<t.bv k));·grind
    ·rw[if_neg d];have l:¬t.bd b / t.cf b c<t.bd k / t.cf k c:=λh=>d ⟨by omega,.inl h⟩;have m:t.bd k / t.cf k c=t.bd b / t.cf b c->¬t.bv b<t.bv k:=λh a=>d ⟨by omega,.inr ⟨h,a⟩⟩;refine .inr ⟨k,rfl,by omega,g,λj p q=>?_⟩;grind
end
def stepT (n m:Nat) (t:Tb):Option Tb:=
 if dI t n<0 then none
 else if dn t (dI t n).toNat m<0 then none
 else some (eX t (dn t (dI t n).toNat m).toNat (dI t n).toNat)
def ei (n m:Nat):Nat->Tb->Bool
 |0,t=>(stepT n m t).isNone
 |k+1,t=>match stepT n m t with
  |none=>true
  |some a=>ei n m k a
def runT (n m:Nat):Nat->Tb->Tb
 |0,t=>t
 |k+1,t=>match stepT n m t with
  |none=>t
  |some a=>runT n m k a
def vX (n m N:Nat) (t:Tb):Nat:=((ω N).filter λk=>!ei n m k t).length
section
variable {n m:Nat} {t t0 t':Tb}
theorem LG (h:stepT n m t=some t'):∃r c,o7 n m t r c/\t'=eX t r c/\dI t n=(c:Int)/\dn t c m=(r:Int):=by
 unfold stepT at h;split at h;·cases h
 ·rename_i p;split at h;·cases h
  ·rename_i o;injection h with h;rcases @sf t n with⟨b,_⟩|⟨c,b,d,e,k⟩;·omega
   ·have f:(dI t n).toNat=c:=by omega
    rw[f] at h o;rcases @sG t c m with⟨a,_⟩|⟨r,a,i,j,l⟩;·omega
    ·have g:(dn t c m).toNat=r:=by omega
     rw[g] at h;exact⟨r,c,⟨i,d,e,k,j,l⟩,h.symm,b,a⟩
theorem EF (b:dq n m t0 t) (d:jt m t) (h:stepT n m t=some t'):dq n m t0 t'/\jt m t':=by
 obtain⟨r,c,a,rfl,_⟩:=LG h;exact⟨b.Qj a.hr a.hc (by have:=a.pos;grind),a.vz b.wf d⟩
theorem EE:∀{k:Nat} {t:Tb},ei n m k t=true->ei n m (k+1) t=true
 |0,t,h=>by
  grind[ei];|k+1,t,h=>by
  unfold ei at h ⊢;split;·rfl
  ·rename_i b a;rw[a] at h;exact EE h
theorem nE {N:Nat} (b:ei n m N t=true) (h:stepT n m t=some t'):vX n m N t'<vX n m N t:=by
 unfold vX;have e:∀k,ei n m k t'=ei n m (k+1) t:=λk=>by grind[ei]
 have c:ei n m 0 t=false:=by simp[ei,h]
 simp only[e];cases N with
 |zero=>simp_all;|succ N=>
  have a:∀f:Nat->Bool,((ω (N+1)).filter f).length=(if f 0 then 1 else 0)+((ω N).filter λk=>f (k+1)).length:=λf=>by
   rw[List.range_succ_eq_map,List.filter_cons,List.filter_map,];grind[Function.comp_def]
  rw[a (λk=>!ei n m k t),c];rw[List.range_succ,List.filter_append,γh];simp[b]
theorem LF {N:Nat} (a:ei n m N t=true) (h:stepT n m t=some t'):ei n m N t'=true:=by
 cases N<;>grind[ei,EE]
theorem Fc (D:dq n m t0 t) (o:jt m t):∃N,ei n m N t=true:=by
 apply Classical.byContradiction;intro u;have e:∀N,ei n m N t=false:=λN=>by
  simp_all
 let T:Nat->Tb:=λk=>Nat.rec t (λ_ s=>(stepT n m s).getD s) k;have d:∀k,T (k+1)=(stepT n m (T k)).getD (T k):=λk=>rfl;have A:∀k N,ei n m N (T k)=false:=by
  intro k;induction k with
  |zero=>exact e;|succ k l=>
   intro N;rw[d];cases z:stepT n m (T k) with
   |none=>simp_all;|some q=>
    have:=l (N+1);grind[ei]
 have w:∀k,stepT n m (T k)=some (T (k+1)):=λk=>by
  rw[d];cases z:stepT n m (T k) with
  |none=>have:=A k 0;grind[ei];|some q=>rfl
 have a:∀k,dq n m t0 (T k)/\jt m (T k):=by
  intro k;induction k with
  |zero=>exact⟨D,o⟩;|succ k l=>grind[EF]
 have b:∀k,∃p:Nat×Nat,o7 n m (T k) p.1 p.2/\T (k+1)=eX (T k) p.1 p.2:=λk=>by
  obtain⟨r,c,f,E,_⟩:=LG (w k);exact⟨(r,c),f,E⟩
 let p:Nat->Nat×Nat:=λk=>δU (b k);have h:∀k,o7 n m (T k) (p k).1 (p k).2/\T (k+1)=eX (T k) (p k).1 (p k).2:=λk=>Classical.choose_spec (b k);obtain⟨i,j,g,B⟩:=EU (xY (t0.basic++t0.free) (m+n)) (λk=>(T k).basic++(T k).free) λk=>by
  have f:=@Lc (t0.basic++t0.free) ((T k).basic++(T k).free) λv C=>(a k).1.perm.mem_iff.1 C;rwa [γh,(a k).1.wf.basic,(a k).1.wf.free] at f
 obtain⟨y,x⟩:=List.append_inj B (by rw[(a i).1.wf.basic,(a j).1.wf.basic]);exact Va (λk=>(a k).1) (λk=>(a k).2) (λk=>(h k).1) (λk=>(h k).2) g y x
end
def fL (l:List Rat):List NH:=l.map nf
def fM (l:List (List Rat)):List (List NH):=l.map fL
def vL (l:List NH):List Rat:=l.map TL
theorem jP (l:List Rat):vL (fL l)=l:=by
 unfold vL fL;rw[γP];conv=>rhs;rw[<-List.map_id l]
 exact γI λq _=>dJ q
theorem iO (x:NH):(x.1,x.2.1,x.2.2)=x:=rfl
theorem ez {l:List Rat}:(fL l).length=l.length:=Ξ _
theorem Fb {l:List (List Rat)}:(fM l).length=l.length:=Ξ _
theorem iD {l:List Rat} {i:Nat} (h:i<l.length) {d:NH}:bN (fL l) i d=nf (bN l i 0):=by
 grind[bV,fL]
theorem Fa {l:List (List Rat)} {i:Nat} (h:i<l.length) {d:List NH}:bN (fM l) i d=fL (bN l i []):=by
 grind[bV,fM]
structure l_ where
 n:Int
 m:Int
 k0:Nat
 k1:Nat
 k3:Nat
 k4:Nat
 VK:List (List NH)
 bound:List NH
 cost:List NH
 v:NH
 basic:List Int
 free:List Int
def l_.fO (x:l_):TP:=
 [.cells [.si .i64 x.n,.si .i64 x.m,.ow 1 x.k0 1,.ow 2 x.k1 3,.row sF x.cost,.sb x.v.1,.row (.i .u32) x.v.2.1,.row (.i .u32) x.v.2.2,.ow 3 x.k3 1,.ow 4 x.k4 1] 261 10 false,
  .row (.Ap sF) x.VK 106 false,.row sF x.bound 177 false,.row (.i .i64) x.basic 3 false,.row (.i .i64) x.free 3 false]
def zT:TP->Option l_
 |[.cells [a,b,.ow 1 k0 1,.ow 2 k1 3,c,v0,v1,v2,.ow 3 k3 1,.ow 4 k4 1] 261 10 false,.row s1 l1 106 false,.row s2 l2 177 false,.row s3 l3 3 false,.row s4 l4 3 false]=>
  match a.int .i64,b.int .i64,iH sF c,jl sF [v0,v1,v2] with
  |some a,some b,some c,some v=>match gF s1 (.Ap sF) l1,gF s2 sF l2,gF s3 (.i .i64) l3,gF s4 (.i .i64) l4 with
   |some l1,some l2,some l3,some l4=>some ⟨a,b,k0,k1,k3,k4,l1,l2,c,v,l3,l4⟩
   |_,_,_,_=>none
  |_,_,_,_=>none
 |_=>none
theorem TX {o:TP} {x:l_} (h:zT o=some x):gO o=gO x.fO:=by
 unfold zT at h;split at h
 ·split at h
  ·rename_i p l c e;split at h
   ·rename_i n j k m;simp only[γ] at h;subst h;obtain⟨rfl,f⟩:=ln n;obtain⟨rfl,b⟩:=ln j;obtain⟨rfl,d⟩:=ln k;obtain⟨rfl,i⟩:=ln m;cases f;cases b;cases d;cases i;have a:=mH e;simp only[ξ,γw,df,cI,Θ,and_true,List.nil_append,List.cons_append] at a;simp only[l_.fO,gO,ξ,γw,iZ.g,gL,gT p,gT l,nl c,SV.g];simp only[a];rfl
   ·cases h
  ·cases h
 ·cases h
theorem mY {s:ew} {a b:List s.T} (h:bP s a=bP s b):a=b:=by
 by_cases d:s.sz=0;·exact absurd d (by
   have:∀s:ew,0<s.sz:=λs=>by
    induction s<;>simp only[ew.sz]<;>omega
   grind)
 ·have c:=congrArg γd h;rw[ec,ec] at c;exact kq s (Nat.eq_of_mul_eq_mul_right (by omega) c) h
theorem TW {x y:l_} (h:gO x.fO=gO y.fO):x=y:=by
 obtain⟨n,m,B,M,G,J,c,b,g,⟨I,K,F⟩,D,C⟩:=x;obtain⟨H,L,a,p,r,l,N,E,A,⟨k,w,q⟩,j,u⟩:=y;simp only[l_.fO,gO,ξ,γw,iZ.g,gL,SV.g,Θ,OL.cells.injEq,and_true,true_and,AV.sc.injEq,Value.int.injEq,Value.bool.injEq,AV.os.injEq,δ7] at h;obtain⟨⟨rfl,rfl,⟨rfl,_⟩,⟨rfl,_⟩,⟨_,d⟩,rfl,⟨_,v⟩,⟨_,e⟩,⟨rfl,_⟩,⟨rfl,_⟩⟩,f,t,o,z⟩:=h;rw[mY (s:=sF) d,mY (s:=.i .u32) v,mY (s:=.i .u32) e,mY (s:=.Ap sF) f,mY (s:=sF) t,mY (s:=.i .i64) o,mY (s:=.i .i64) z]
abbrev FV (n m:Int) (t:Tb):l_:=⟨n,m,t.VK.length,t.bound.length,t.basic.length,t.free.length,fM t.VK,fL t.bound,fL t.cost,nf t.value,t.basic,t.free⟩
def l_.t (x:l_):Tb:=⟨x.VK.map vL,vL x.bound,vL x.cost,TL x.v,x.basic,x.free⟩
theorem qi {n m:Int} {t:Tb}:(FV n m t).t=t:=by
 have e:(fM t.VK).map vL=t.VK:=by
  unfold fM;rw[γP];conv=>rhs;rw[<-List.map_id t.VK]
  exact γI λq _=>jP q
 simp_all[l_.t,jP,dJ]
theorem TV (x:l_):(⟨x.n,x.m,x.k0,x.k1,x.k3,x.k4,x.VK,x.bound,x.cost,(x.v.1,x.v.2.1,x.v.2.2),x.basic,x.free⟩:l_)=x:=rfl
theorem LD {n m:Int} {t:Tb}:(FV n m t).n=n:=rfl
theorem LC {n m:Int} {t:Tb}:(FV n m t).m=m:=rfl
def sw (k:Nat) (t:Tb):Prop:=(∀l∈t.VK,∀q∈l,Sz k q)/\(∀q∈t.bound,Sz k q)/\(∀q∈t.cost,Sz k q)/\Sz k t.value
def jJ (n m:Int) (t:Tb):Prop:=((0<=n/\n<=1000)/\(0<=m/\m<=1000))/\t.WF n.toNat m.toNat/\sw 1000000 t
def sd (f:FuncId) (c:Type) (A:oA c) (i:Int->Int->Tb->c->Prop) (e:Int->Int->Tb->c->SV) (out:Int->Int->Tb->c->Tb):cU where
 f:=f;α:=l_×c;put a:=.ptr 0 0 10::A.put a.2;st a:=a.1.fO;dec v o:=match v with
  | .ptr 0 0 10::r=>match zT o,A.dec r with
   |some s,some b=>some (s,b)
   |_,_=>none
  |_=>none;ok v o a h:=by
  split at h
  ·split at h
   ·rename_i d g;simp only[γ] at h;subst h;exact⟨by simp only[gL,A.ok _ _ g],TX d⟩
   ·cases h
  ·cases h
 inj a b d g:=by
  simp only[gL,Θ,true_and] at d;exact Prod.ext (TW g) (A.inj _ _ d)
 dom a:=∃n m t,a.1=FV n m t/\jJ n m t/\i n m t a.2;res a:=e a.1.n a.1.m a.1.t a.2;out a:=(FV a.1.n a.1.m (out a.1.n a.1.m a.1.t a.2)).fO
theorem dc {q:Rat} {k:Nat} (h:Sz k q) (a:k<=100000000):bL (nf q):=⟨q,k,rfl,h,a⟩
section
variable {n m:Int} {t:Tb}
theorem jJ.cf (h:jJ n m t) {i j:Nat} (a:i<m.toNat) (c:j<n.toNat):Sz 1000000 (t.cf i j):=by
 have b:=cA (l:=t.VK) (d:=[]) (show i<t.VK.length by rw[h.2.1.VK];exact a);exact h.2.2.1 _ b _ (cA (by rw[h.2.1.row i a];exact c))
theorem jJ.bd (h:jJ n m t) {i:Nat} (a:i<m.toNat):Sz 1000000 (t.bd i):=h.2.2.2.1 _ (cA (by rw[h.2.1.bound];exact a))
theorem jJ.cs (h:jJ n m t) {j:Nat} (a:j<n.toNat):Sz 1000000 (t.cs j):=h.2.2.2.2.1 _ (cA (by rw[h.2.1.cost];exact a))
end
theorem sa {q:Rat}:0<iP q↔0<q:=by
 grind[iP]
theorem E_ {q:Rat}:iP q=0↔q=0:=by
 grind[iP]
theorem wU {q:Rat}:iP q<0↔q<0:=by
 grind[iP]
def E9:cU:=sd 179 Unit .nil (λ_ _ _ _=>True) (λn _ t _=> .si .i64 (dI t n.toNat)) (λ_ _ t _=>t)
def TU (n m:Int) (t:Tb):Nat->bJ
 |3=> .inv Int (λj=>⟨[(0,.ptr 0 0 10),(3,.si .i64 (dI t j.toNat)),(9,.ow 4 t.free.length 1),(10,.si .i64 t.free.length),(11,.si .i64 j)],(FV n m t).fO⟩)
   (λs=>iS s 11) (λj=>0<=j/\j<=n) (λj=>(n - j).toNat) λ_ _=> .look
 |_=> .look
theorem Ie:dB Tryz.prog E9:=by
 refine ko (L:=[p_]) (W:=[]) E9 (λa=>TU a.1.n a.1.m a.1.t) (by simp) (by simpa using sA) ?_;rintro⟨x,u⟩ ⟨n,m,t,hx,hok, -⟩;simp only at hx;subst hx;refine NI (let a:=γj .i64;let b:=(0:Int);let c:=iZ.row;let d:=γ1;let e:=γa;let r:=γV 0 0 10;let s:=(FV n m t).t;let F:=d 4 (FV n m t).k4 1;let y:=s.free.length;let z:=d 4 y 1;let A:=a (↑y:Int);let g:=(FV n m t).n;let B:=ew.i .u32;let f:=FV g (FV n m t).m s;let k:=iZ.cells [a f.n,a f.m,d 1 f.k0 1,d 2 f.k1 3,e sF f.cost,γB f.v.1,e B f.v.2.1,e B f.v.2.2,d 3 f.k3 1,d 4 f.k4 1] 261 10 false;let l:=c sF.Ap f.VK 106 false;let o:=c sF f.bound 177 false;let C:=ew.i .i64;let p:=c C f.basic 3 false;let q:=c C f.free 3 false;let j:=f.free.length;(((r.bi r/\(γC .i64 (-1:Int)).bi (a (dI s 0))/\F.bi z/\(a (↑(FV n m t).k4:Int)).bi A/\(γC .i64 0).bi (a 0)/\True)/\(iZ.cells [a g,a (FV n m t).m,d 1 (FV n m t).k0 1,d 2 (FV n m t).k1 3,e sF (FV n m t).cost,γB (FV n m t).v.1,e B (FV n m t).v.2.1,e B (FV n m t).v.2.2,d 3 (FV n m t).k3 1,F] 261 10 false).bi k/\(c sF.Ap (FV n m t).VK 106 false).bi l/\(c sF (FV n m t).bound 177 false).bi o/\(c C (FV n m t).basic 3 false).bi p/\(c C (FV n m t).free 3 false).bi q/\True)/\b<=b/\b<=g)/\∀(x:Int),let h:=x+(1:Int);let w:=dI s x.toNat;let G:=a w;let H:=a (dI s h.toNat);let D:=a h;let E:=bN f.cost x.toNat sF.bw;let I:=(E.1,E.2.1,E.2.2);let J:=decide (x<(↑y:Int));let K:=decide (w<b);let L:=decide (bN f.free x.toNat b<bN f.free w.toNat b);let M:=VL .i64 h/\((r.bi r/\G.bi H/\z.bi z/\A.bi A/\D.bi D/\True)/\k.bi k/\l.bi l/\o.bi o/\p.bi p/\q.bi q/\True)/\(b<=h/\h<=g)/\(g - h).toNat<(g - x).toNat;let N:=VL .i64 h/\((r.bi r/\(a x).bi H/\z.bi z/\A.bi A/\D.bi D/\True)/\k.bi k/\l.bi l/\o.bi o/\p.bi p/\q.bi q/\True)/\(b<=h/\h<=g)/\(g - h).toNat<(g - x).toNat;let O:=λ(u:Bool) ↦decide (b<iP (TL I))=u;b<=x/\x<=g->(J=true->y=j/\b<=x/\x<(↑j:Int)/\y=j/\x.toNat<j/\b<=x/\x<(↑f.cost.length:Int)/\x.toNat<f.cost.length/\bL I/\(O true->(K=true->N)/\(K=false->f.k4=j/\b<=w/\w<(↑j:Int)/\f.k4=j/\w.toNat<j/\(L=true->N)/\(L=false->M)))/\(O false->M))/\(J=false->G.bi (a (dI s g.toNat))/\k.bi k/\l.bi l/\o.bi o/\p.bi p/\q.bi q/\True)) (by kernel_rfl) ?_;simp only[qi];try simp only[FV]
 simp only[vcs];obtain⟨⟨⟨n0,n1⟩,m0,m1⟩,hw,hz⟩:=id hok;have hfl:=hw.free;have hcl:=hw.cost;have hfc:=@ez t.cost;refine⟨⟨rfl,by omega,by omega⟩,?_⟩;rintro j ⟨j0,j1⟩;have hs:dI t (j+1).toNat=if 0<t.cs j.toNat/\(dI t j.toNat<0\/t.fv j.toNat<t.fv (dI t j.toNat).toNat) then(j.toNat:Int) else dI t j.toNat:=by
  rw[show(j+1).toNat=j.toNat+1 by omega];rfl
 have hb:dI t j.toNat<j.toNat:=by
  rcases @sf t j.toNat with⟨h,_⟩|⟨b,h,hlt,_⟩<;>omega
 refine⟨λhj=>?_,λhj=>by rw[show j.toNat=n.toNat by omega]⟩;have hc:bN (fL t.cost) j.toNat sF.bw=nf (t.cs j.toNat):=iD (by omega);simp only[hc,iO,dJ,decide_eq_true_eq,decide_eq_false_iff_not,sa];have hfv:∀k:Nat,bN t.free k 0=t.fv k:=λk=>rfl;rw[hfv,hfv,hs];refine⟨j0,hj,by omega,j0,by omega,by omega,dc (hok.cs (by omega)) (by omega),λhp=>⟨λhn=>?_,λhn=>⟨by omega,by omega,by omega,λhl=>?_,λhl=>?_⟩⟩,λhp=>?_⟩
 ·rw[if_pos ⟨hp,.inl hn⟩];omega
 ·rw[if_pos ⟨hp,.inr hl⟩];omega
 ·rw[if_neg λh=>h.2.elim hn hl];omega
 ·rw[if_neg λh=>hp h.1];omega
def l9 (t:Tb) (c k:Nat):NH:=if dn t c k<0 then(false,([],[])) else nf (t.bd (dn t c k).toNat / t.cf (dn t c k).toNat c)
def E8:cU:=sd 180 Int (.one (dX .i64)) (λn _ _ c=>0<=c/\c<n) (λ_ m t c=> .si .i64 (dn t c.toNat m.toNat)) (λ_ _ t _=>t)
def TT (n m:Int) (t:Tb) (c:Int):Nat->bJ
 |4=> .inv Int (λi=>⟨[(0,.ptr 0 0 10),(1,.si .i64 c),(5,.si .i64 (dn t c.toNat i.toNat)),(6,.ptr 5 0 3),(15,.ow 1 t.VK.length 1),(16,.si .i64 t.VK.length),(17,.si .i64 i)],(FV n m t).fO++[.cells [.sb (l9 t c.toNat i.toNat).1,.row (.i .u32) (l9 t c.toNat i.toNat).2.1,.row (.i .u32) (l9 t c.toNat i.toNat).2.2] 177 3 false,.dead,.dead]⟩)
   (λs=>iS s 17) (λi=>0<=i/\i<=m) (λi=>(m - i).toNat) λ_ _=> .look
 |_=> .look
theorem Ic:dB Tryz.prog E8:=by
 refine ko (L:=[p_,uj,zU]) (W:=[]) E8 (λa=>TT a.1.n a.1.m a.1.t a.2) (by simp) (by simpa using⟨sA,zb,yM⟩) ?_;rintro⟨x,c⟩ ⟨n,m,t,hx,hok,hd⟩;simp only at hx hd;subst hx;refine NI (let a:=γj .i64;let b:=(0:Int);let d:=γa;let e:=iZ.cells;let f:=iZ.row;let g:=γ1;let h:=γB;let A:=γV 0 0 10;let p:=(FV n m t).t;let B:=γV 5 0 3;let U:=g 1 (FV n m t).k0 1;let H:=p.VK.length;let I:=g 1 H 1;let J:=a (↑H:Int);let l:=(FV n m t).m;let k:=ew.i .u32;let j:=FV (FV n m t).n l p;let r:=e [a j.n,a j.m,g 1 j.k0 1,g 2 j.k1 3,d sF j.cost,h j.v.1,d k j.v.2.1,d k j.v.2.2,g 3 j.k3 1,g 4 j.k4 1] 261 10 false;let C:=j.VK;let s:=f sF.Ap C 106 false;let D:=j.bound;let w:=f sF D 177 false;let L:=ew.i .i64;let y:=f L j.basic 3 false;let z:=f L j.free 3 false;let O:=l9 p c.toNat 0;let a9:=sF.Ap.bw;let q:=j.basic.length;0=0/\0=0/\(((A.bi A/\(a c).bi (a c)/\(γC .i64 (-1:Int)).bi (a (dn p c.toNat 0))/\B.bi B/\U.bi I/\(a (↑(FV n m t).k0:Int)).bi J/\(γC .i64 0).bi (a 0)/\True)/\(e [a (FV n m t).n,a l,U,g 2 (FV n m t).k1 3,d sF (FV n m t).cost,h (FV n m t).v.1,d k (FV n m t).v.2.1,d k (FV n m t).v.2.2,g 3 (FV n m t).k3 1,g 4 (FV n m t).k4 1] 261 10 false).bi r/\(f sF.Ap (FV n m t).VK 106 false).bi s/\(f sF (FV n m t).bound 177 false).bi w/\(f L (FV n m t).basic 3 false).bi y/\(f L (FV n m t).free 3 false).bi z/\(e [δj false,d k [],d k []] 177 3 false).bi (e [h O.1,d k O.2.1,d k O.2.2] 177 3 false)/\iZ.dead.bi iZ.dead/\iZ.dead.bi iZ.dead/\True)/\b<=b/\b<=l)/\∀(x:Int),let o:=x+(1:Int);let V:=a (dn p c.toNat o.toNat);let M:=a o;let P:=bN D x.toNat sF.bw;let W:=(P.1,P.2.1,P.2.2);let K:=bN C x.toNat a9;let Q:=bN K c.toNat sF.bw;let N:=(Q.1,Q.2.1,Q.2.2);let E:=nf (TL W / TL N);let R:=l9 p c.toNat o.toNat;let X:=e [h R.1,d k R.2.1,d k R.2.2] 177 3 false;let F:=dn p c.toNat x.toNat;let Y:=a F;let G:=l9 p c.toNat x.toNat;let Z:=(E.1,E.2.1,E.2.2);let a0:=(G.1,G.2.1,G.2.2);let a1:=gK (TL Z) (TL a0);let a2:=decide (x<(↑H:Int));let a3:=decide (b<=F);let a4:=decide (bN j.basic F.toNat b<bN j.basic x.toNat b);let S:=VL .i64 o/\((A.bi A/\(a c).bi (a c)/\(a x).bi V/\B.bi B/\I.bi I/\J.bi J/\M.bi M/\True)/\r.bi r/\s.bi s/\w.bi w/\y.bi y/\z.bi z/\(e [h E.1,d k E.2.1,d k E.2.2] 177 3 false).bi X/\iZ.dead.bi iZ.dead/\iZ.dead.bi iZ.dead/\True)/\(b<=o/\o<=l)/\(l - o).toNat<(l - x).toNat;let T:=VL .i64 o/\((A.bi A/\(a c).bi (a c)/\Y.bi V/\B.bi B/\I.bi I/\J.bi J/\M.bi M/\True)/\r.bi r/\s.bi s/\w.bi w/\y.bi y/\z.bi z/\(e [h G.1,d k G.2.1,d k G.2.2] 177 3 false).bi X/\iZ.dead.bi iZ.dead/\iZ.dead.bi iZ.dead/\True)/\(b<=o/\o<=l)/\(l - o).toNat<(l - x).toNat;let a5:=bL N;let a6:=λ(u:Bool) ↦decide (b<a1)=u;let a7:=λ(u:Bool) ↦decide (a1=b)=u;let a8:=λ(u:Bool) ↦decide (iP (TL N)<=b)=u;b<=x/\x<=l->(a2=true->H=C.length/\b<=x/\x<(↑C.length:Int)/\H=C.length/\x.toNat<C.length/\b<=c/\c<(↑K.length:Int)/\c.toNat<K.length/\a5/\(a8 true->T)/\(a8 false->j.k1=D.length/\b<=x/\x<(↑D.length:Int)/\j.k1=D.length/\x.toNat<D.length/\b<=c/\c<(↑K.length:Int)/\c.toNat<K.length/\((bL W/\a5)/\TL N≠(0:Rat))/\(a3=true->(bL Z/\bL a0)/\(a6 true->T)/\(a6 false->(a7 true->j.k3=q/\b<=x/\x<(↑q:Int)/\j.k3=q/\x.toNat<q/\j.k3=q/\b<=F/\F<(↑q:Int)/\j.k3=q/\F.toNat<q/\(a4=true->T)/\(a4=false->S))/\(a7 false->S)))/\(a3=false->S)))/\(a2=false->Y.bi (a (dn p c.toNat l.toNat))/\r.bi r/\s.bi s/\w.bi w/\y.bi y/\z.bi z/\True)) (by kernel_rfl) ?_;simp only[qi];try simp only[FV]
 simp only[vcs];obtain⟨⟨⟨n0,n1⟩,m0,m1⟩,hw,hz⟩:=id hok;have hkl:=hw.VK;have hbl:=hw.bound;have hbb:=hw.basic;have hfm:=@Fb t.VK;have hfb:=@ez t.bound;have hcell:∀{x y:NH},x=y->(iZ.cells [γB x.1,γa (ew.i IntKind.u32) x.2.1,γa (ew.i IntKind.u32) x.2.2] 177 3 false).bi (iZ.cells [γB y.1,γa (ew.i IntKind.u32) y.2.1,γa (ew.i IntKind.u32) y.2.2] 177 3 false):=by rintro _ _ rfl;rfl
 have hl0:l9 t c.toNat 0=(false,([],[])):=rfl;refine⟨⟨⟨rfl,by rw[hl0];rfl⟩,by omega,by omega⟩,?_⟩;rintro i ⟨i0,i1⟩;refine⟨λhi=>?_,λhi=>by rw[show i.toNat=m.toNat by omega]⟩;have him:i.toNat<m.toNat:=by omega
 have hrow:bN (fM t.VK) i.toNat sF.Ap.bw=fL (bN t.VK i.toNat []):=Fa (by omega);have hrl:=hw.row i.toNat him;have hfr:=@ez (bN t.VK i.toNat []);have hA:bN (fL (bN t.VK i.toNat [])) c.toNat sF.bw=nf (t.cf i.toNat c.toNat):=iD (by omega);have hB:bN (fL t.bound) i.toNat sF.bw=nf (t.bd i.toNat):=iD (by omega);have hbv:∀k:Nat,bN t.basic k 0=t.bv k:=λk=>rfl;have hsA:=hok.cf (i:=i.toNat) (j:=c.toNat) him (by omega);have hsB:=hok.bd (i:=i.toNat) him;have hs:dn t c.toNat (i+1).toNat=if t.cf i.toNat c.toNat<=0 then dn t c.toNat i.toNat
  else if 0<=dn t c.toNat i.toNat/\(t.bd (dn t c.toNat i.toNat).toNat / t.cf (dn t c.toNat i.toNat).toNat c.toNat<t.bd i.toNat / t.cf i.toNat c.toNat\/(t.bd i.toNat / t.cf i.toNat c.toNat=t.bd (dn t c.toNat i.toNat).toNat / t.cf (dn t c.toNat i.toNat).toNat c.toNat/\t.bv (dn t c.toNat i.toNat).toNat<t.bv i.toNat)) then dn t c.toNat i.toNat
  else(i.toNat:Int):=by
  rw[show(i+1).toNat=i.toNat+1 by omega];rfl
 have hlb:dn t c.toNat i.toNat<i.toNat:=by
  rcases @sG t c.toNat i.toNat with⟨h,_⟩|⟨b,h,hlt,_⟩<;>omega
 have hlp:0<=dn t c.toNat i.toNat->0<t.cf (dn t c.toNat i.toNat).toNat c.toNat:=λh=>by
  rcases @sG t c.toNat i.toNat with⟨h2,_⟩|⟨b,h2,hlt,hp,_⟩;·omega
  ·rw[h2,γk];exact hp
 have aUf:∀q:Rat,iP q<=0↔q<=0:=λq=>by
  have:=@sa q;constructor;·intro h;exact Rat.not_lt.1 λh2=>by have:=this.2 h2;omega
  ·intro h;exact Int.not_lt.1 λh2=>Rat.not_lt.2 h (this.1 h2)
 simp only[hrow,hA,hB,iO,dJ,hbv,aUf,Vg,Vf];have aUg:0<=dn t c.toNat i.toNat->l9 t c.toNat i.toNat=nf (t.bd (dn t c.toNat i.toNat).toNat / t.cf (dn t c.toNat i.toNat).toNat c.toNat):=λh=>by
  unfold l9;rw[if_neg (by omega)]
 have tail:(0<=i+1/\i+1<=m)/\(m - (i+1)).toNat<(m - i).toNat:=by omega
 have keep:dn t c.toNat (i+1).toNat=dn t c.toNat i.toNat->l9 t c.toNat i.toNat=l9 t c.toNat (i+1).toNat:=λh=>by
  unfold l9;rw[h]
 have new:dn t c.toNat (i+1).toNat=(i.toNat:Int)->nf (t.bd i.toNat / t.cf i.toNat c.toNat)=l9 t c.toNat (i+1).toNat:=λh=>by
  unfold l9;rw[h,if_neg (by omega),γk]
 have hnz:0<t.cf i.toNat c.toNat->t.cf i.toNat c.toNat≠0:=λh=>by grind
 refine⟨by omega,i0,by omega,by omega,by omega,hd.1,by omega,by omega,dc hsA (by omega),λhle=>?_,λhgt=>?_⟩
 ·have e:dn t c.toNat (i+1).toNat=dn t c.toNat i.toNat:=by rw[hs,if_pos hle]
  exact⟨by omega,⟨e.symm,hcell (keep e)⟩,tail⟩
 ·have hp:0<t.cf i.toNat c.toNat:=Rat.not_le.1 hgt;rw[if_neg hgt] at hs;have aUh:=EG hsB hsA (hnz hp);refine⟨by omega,i0,by omega,by omega,by omega,hd.1,by omega,by omega,⟨⟨dc hsB (by omega),dc hsA (by omega)⟩,hnz hp⟩,λh0=>?_,λh0=>?_⟩
  ·have hl:=aUg h0;have hsl:=EG (hok.bd (i:=(dn t c.toNat i.toNat).toNat) (by omega)) (hok.cf (i:=(dn t c.toNat i.toNat).toNat) (j:=c.toNat) (by omega) (by omega)) (by have:=hlp h0;grind);have hvl:TL (l9 t c.toNat i.toNat)=t.bd (dn t c.toNat i.toNat).toNat / t.cf (dn t c.toNat i.toNat).toNat c.toNat:=by rw[hl,dJ]
   simp only[hvl];refine⟨⟨dc aUh (by omega),by rw[hl];exact dc hsl (by omega)⟩,λhlt=>?_,λhlt=>⟨λheq=>⟨i0,by omega,by omega,h0,by omega,by omega,λhbl=>?_,λhbl=>?_⟩,λheq=>?_⟩⟩
   ·rw[if_pos ⟨h0,.inl hlt⟩] at hs;exact⟨by omega,⟨hs.symm,hcell (keep hs)⟩,tail⟩
   ·rw[if_pos ⟨h0,.inr ⟨heq,hbl⟩⟩] at hs;exact⟨by omega,⟨hs.symm,hcell (keep hs)⟩,tail⟩
   ·rw[if_neg λh=>h.2.elim hlt λh2=>hbl h2.2] at hs;exact⟨by omega,⟨by omega,hcell (new hs)⟩,tail⟩
   ·rw[if_neg λh=>h.2.elim hlt λh2=>heq h2.1] at hs;exact⟨by omega,⟨by omega,hcell (new hs)⟩,tail⟩
  ·rw[if_neg λh=>h0 h.1] at hs;exact⟨by omega,⟨by omega,hcell (new hs)⟩,tail⟩
def dF (a:Tb) (v:Int):Rat:=if v∈a.free then a.cs (a.free.idxOf v) else 0
section
variable {n m:Nat} {t t0:Tb}
theorem dq.goal (h:dq n m t0 t) {x:Int->Rat} {z:Rat} (d:t.holds n m x z):z=t0.value+(Ov m (λk=>dF t0 (t.bv k)*x (t.bv k))+Ov n (λj=>dF t0 (t.fv j)*x (t.fv j))):=by
 have a:∀t:Tb,t.WF n m->kP (λv=>dF t0 v*x v) (t.basic++t.free)=Ov m (λk=>dF t0 (t.bv k)*x (t.bv k))+Ov n (λj=>dF t0 (t.fv j)*x (t.fv j)):=λt c=>by
  rw[x_,oZ,oZ,c.basic,c.free];rfl
 rw[<-a t h.wf,EW h.perm,a t0 h.wf0];rw[cX (n:=m) (g:=λ_=>0) λk e=>by
  unfold dF;rw[if_neg (EV h.wf0 h.nd e)];grind,gN];rw[cX (n:=n) (g:=λj=>t0.cs j*x (t0.fv j)) λj b=>by
  have i:j<t0.free.length:=by rw[h.wf0.free];exact b
  unfold dF;rw[if_pos (sM h.wf0 b),show t0.free.idxOf (t0.fv j)=j from m_ (γx.1 h.nd).2.1 i]];have f:=(((h.sol _ _).1 d).2);rw[f];grind
theorem dq.val (h:dq n m t0 t):t.value=t0.value+Ov m λk=>dF t0 (t.bv k)*t.bd k:=by
 have a:=h.goal (asg_holds h.wf h.fm (y:=λ_=>0));rw[cX (n:=n) (f:=λj=>t.cs j*(λ_=>(0:Rat)) j) (g:=λ_=>0) λj _=>by grind,gN] at a;rw[cX (n:=n) (f:=λj=>dF t0 (t.fv j)*iB n t (λ_=>0) (t.fv j)) (g:=λ_=>0) λj c=>by rw[lC h.wf h.fm c];grind,gN] at a;rw[cX (n:=m) (g:=λk=>dF t0 (t.bv k)*t.bd k) λk b=>by
  rw[mc h.wf h.fm b,cX (g:=λ_=>0) λj _=>by grind,gN];grind] at a;grind
theorem r_ {n c:Nat} {q:Rat} (d:c<n):Ov n (λj=>if j=c then q else 0)=q:=by
 induction n with
 |zero=>omega;|succ n b=>
  unfold Ov;by_cases h:c=n
  ·subst h;rw[if_pos rfl,cX (g:=λ_=>0) λj a=>by grind,gN];grind
  grind
theorem E7 {f g:Nat->Rat}:∀{n:Nat},Ov n (λj=>f j - g j)=Ov n f - Ov n g
 |0=>by grind[Ov];|n+1=>by simp only[Ov,@E7 f g n];grind
theorem dq.TS (h:dq n m t0 t) {c:Nat} (b:c<n):t.cs c=dF t0 (t.fv c) - Ov m λk=>dF t0 (t.bv k)*t.cf k c:=by
 have a:=h.goal (asg_holds h.wf h.fm (y:=λj=>if j=c then 1 else 0));rw[cX (n:=n) (f:=λj=>t.cs j*(if j=c then(1:Rat) else 0)) (g:=λj=>if j=c then t.cs c else 0) λj _=>by
  grind,r_ b] at a;rw[cX (n:=n) (f:=λj=>dF t0 (t.fv j)*iB n t (λj=>if j=c then 1 else 0) (t.fv j)) (g:=λj=>if j=c then dF t0 (t.fv c) else 0) λj e=>by
  rw[lC h.wf h.fm e];grind,r_ b] at a;rw[cX (n:=m) (g:=λk=>dF t0 (t.bv k)*t.bd k - dF t0 (t.bv k)*t.cf k c) λk d=>by
  rw[mc h.wf h.fm d,cX (g:=λj=>if j=c then t.cf k c else 0) λj _=>by
   grind,r_ b];grind,E7,h.val] at a;grind
end
theorem E6 {M K:Nat} {p q:Rat} (e:dY M p) (f:dY K q):dY (M*K) (p*q):=by
 obtain⟨a,rfl,d⟩:=e;obtain⟨b,rfl,c⟩:=f;exact⟨a*b,by simp_all,by rw[εs];exact ζn d c⟩
theorem LB {M K:Nat} {p q:Rat} (d:dY M p) (c:dY K q):dY (M+K) (p+q):=by
 obtain⟨a,rfl,f⟩:=d;obtain⟨b,rfl,e⟩:=c;exact⟨a+b,by simp_all,by omega⟩
theorem TR {M:Nat} {p:Rat} (b:dY M p):dY M (-p):=by
 obtain⟨a,rfl,c⟩:=b;exact⟨-a,by simp_all,by omega⟩
theorem LA {M:Nat}:dY M 0:=⟨0,rfl,by simp⟩
theorem dY.le {M K:Nat} {p:Rat} (b:dY M p) (h:M<=K):dY K p:=by
 obtain⟨a,rfl,c⟩:=b;exact⟨a,rfl,by omega⟩
theorem E5 {M:Nat} {f:Nat->Rat}:∀{n:Nat},(∀k,k<n->dY M (f k))->dY (n*M) (Ov n f)
 |0,_=>by grind[Ov,LA];|n+1,h=>by
  have a:=LB (@E5 M f n λk b=>h k (by omega)) (h n (by omega));grind[Ov]
theorem DH {f:Nat->Rat} {d:Rat}:∀{n:Nat},Ov n f*d=Ov n λk=>f k*d
 |0=>by grind[Ov];|n+1=>by
  have:=@DH f d n;grind[Ov]
theorem TQ {X k:Nat} {q D:Rat} (f:dY X (q*D)) (c:dY X D) (g:D≠0) (o:X<4294967296^k):Sz k q:=by
 obtain⟨a,p,l⟩:=f;obtain⟨d,rfl,m⟩:=c;have b:d≠0:=λh=>g (by subst h;rfl);have n:((4294967296^k:Nat):Int)=(4294967296:Int)^k:=by
  simp_all
 have i:(X:Int)<4294967296^k:=by
  omega
 have e:q=mkRat (a*d.sign) d.natAbs:=by
  have f:mkRat (a*d.sign) d.natAbs=((a*d.sign:Int):Rat) / ((d.natAbs:Int):Rat):=by
   rw[δG];rfl
  have c:((d.natAbs:Int):Rat)=(d:Rat)*(d.sign:Rat):=by
   rw[<-Rat.intCast_mul];simp_all
  have j:(d.sign:Rat)*(d.sign:Rat)=1:=by
   rw[<-Rat.intCast_mul];rcases Int.lt_or_lt_of_ne b with h|h;·rw[Int.sign_eq_neg_one_of_neg h];rfl
   grind
  grind
 rw[e];refine wZ (by omega) ?_ (by omega);grind
structure Small (n m M G:Nat) (t0:Tb):Prop where
 wf:t0.WF n m
 nd:(t0.basic++t0.free).Nodup
 cf:∀i j,i<m->j<n->dY M (t0.cf i j)
 bd:∀i,i<m->dY M (t0.bd i)
 cs:∀j,j<n->dY G (t0.cs j)
 v:t0.value=0
 M1:1<=M
 G1:M<=G
 X:(m+2)*(G*lI M m)<4294967296^1000
theorem TO {a b c:Nat} (h:1<=a) (d:1<=b):c<=a*(b*c):=by
 have e:1*(1*c)<=a*(b*c):=ζn h (ζn d (Nat.le_refl _));omega
theorem Small.goal {n m M G:Nat} {t0:Tb} (h:Small n m M G t0) {v:Int}:dY G (dF t0 v):=by
 unfold dF;split
 ·rename_i a;exact h.cs _ (by rw[<-h.wf.free];grind)
 ·exact LA
theorem Small.IU {n m M G:Nat} {t0 t:Tb} (h:Small n m M G t0) (a:dq n m t0 t):(∀i,i<m->Sz 1000 (t.bd i))/\(∀j,j<n->Sz 1000 (t.cs j))/\Sz 1000 t.value/\∀i j,i<m->j<n->Sz 1000 (t.cf i j):=by
 have y:=a.Uv h.M1 h.cf;have A:=h.X;have B:1<=G:=Nat.le_trans h.M1 h.G1;have u:lI M m<=(m+2)*(G*lI M m):=TO (by omega) B;have l:∀{q:Rat},dY ((m+2)*(G*lI M m)) (q*iE m t0 t)->Sz 1000 q:=λz=>TQ z (y.le u) a.dt A;have d:∀r c,r<m->c<n->dY (lI M m) (t.cf r c*iE m t0 t):=λr c o d=>a.Qs h.M1 h.cf o d;have x:∀r,r<m->dY (lI M m) (t.bd r*iE m t0 t):=λr o=>a.Qt h.M1 h.cf h.bd o;refine⟨λi w=>l ((x i w).le u),λj b=>l ?_,l ?_,λi j w b=>l ((d i j w b).le u)⟩
 ·have e:=a.TS b;have p:t.cs j*iE m t0 t=dF t0 (t.fv j)*iE m t0 t+ -(Ov m λk=>dF t0 (t.bv k)*(t.cf k j*iE m t0 t)):=by
   rw[e,cX (f:=λk=>dF t0 (t.bv k)*(t.cf k j*iE m t0 t)) (g:=λk=>(dF t0 (t.bv k)*t.cf k j)*iE m t0 t) λk _=>by grind,<-DH];grind
  rw[p];refine(LB (E6 h.goal y) (TR (E5 λk s=>E6 h.goal (d k j s b)))).le ?_;grind
 ·have p:t.value*iE m t0 t=Ov m λk=>dF t0 (t.bv k)*(t.bd k*iE m t0 t):=by
   rw[a.val,h.v,cX (f:=λk=>dF t0 (t.bv k)*(t.bd k*iE m t0 t)) (g:=λk=>(dF t0 (t.bv k)*t.bd k)*iE m t0 t) λk _=>by grind,<-DH];grind
  rw[p];refine(E5 λk s=>E6 h.goal (x k s)).le ?_;grind
theorem Small.sw {n m M G:Nat} {t0 t:Tb} (h:Small n m M G t0) (b:dq n m t0 t):sw 1000000 t:=by
 obtain⟨g,r,k,o⟩:=h.IU b;have e:∀{f:Type} {l:List f} {P:f->Prop} {d:f},(∀i,i<l.length->P (bN l i d))->∀q∈l,P q:=λh q p=>by
  obtain⟨i,a,rfl⟩:=List.getElem_of_mem p;grind[bV]
 refine⟨e (d:=[]) λi a=>?_,e (d:=0) λi a=>?_,e (d:=0) λj c=>?_,k.mono (by omega)⟩
 ·rw[b.wf.VK] at a;refine e (d:=0) λj c=>?_;rw[b.wf.row i a] at c;exact(o i j a c).mono (by omega)
 ·rw[b.wf.bound] at a;exact(g i a).mono (by omega)
 ·rw[b.wf.cost] at c;exact(r j c).mono (by omega)
theorem Mg {n m:Int} {M G:Nat} {t0 t:Tb} (h:Small n.toNat m.toNat M G t0) (a:dq n.toNat m.toNat t0 t) (c:0<=n/\n<=1000) (b:0<=m/\m<=1000):jJ n m t:=⟨⟨c,b⟩,a.wf,h.sw a⟩
section
variable {n m:Nat} {t t0:Tb}
theorem Mf:∀{N:Nat} {t:Tb},dq n m t0 t->jt m t->dq n m t0 (runT n m N t)/\jt m (runT n m N t)
 |0,t,b,a=>⟨b,a⟩
 |N+1,t,b,a=>by
  unfold runT;split;·simp_all
  ·rename_i d c;have:=EF b a c;exact Mf this.1 this.2
theorem mR:∀{N:Nat} {t:Tb},ei n m N t=true->stepT n m (runT n m N t)=none
 |0,t,h=>γU.1 h
 |N+1,t,h=>by
  unfold ei at h;unfold runT;split;·assumption
  ·rename_i b a;rw[a] at h;exact mR h
theorem Me:∀{N K:Nat} {t:Tb},ei n m N t=true->N<=K->runT n m K t=runT n m N t
 |0,K,t,h,b=>by
  have d:=γU.1 h;cases K<;>grind[runT];|N+1,K,t,h,b=>by
  obtain⟨K,rfl⟩:∃k,K=k+1:=⟨K - 1,by omega⟩;unfold ei at h;unfold runT;split;·rfl
  ·rename_i c a;rw[a] at h;exact Me h (by omega)
theorem Mc {f:Nat->Rat}:∀{n:Nat},(∀k,k<n->f k<=0)->Ov n f<=0
 |0,_=>by grind[Ov];|n+1,h=>by
  have a:=@Mc f n λk b=>h k (by omega);grind[Ov]
theorem Mb {a b:Rat} (d:a<=0) (c:0<=b):a*b<=0:=by
 have:=δx (a:= -a) (b:=b) (by grind) c;grind
theorem dq.IT (h:dq n m t0 t) (d:dI t n<0) {x:Int->Rat} {z:Rat} (a:t0.holds n m x z) (b:∀j,j<n->0<=x (t.fv j)):z<=t.value:=by
 have c:=(((h.sol _ _).2 a).2);grind[sf,Mc,Mb]
theorem dq.dZ (h:dq n m t0 t) (q:jt m t) {B:Rat} (F:∀x z,t0.holds n m x z->(∀v∈t0.basic++t0.free,0<=x v)->z<=B) {c:Nat} (I:dI t n=(c:Int)) (H:dn t c m<0):False:=by
 rcases @sf t n with⟨C,d⟩|⟨a,C,d,f,G⟩;·omega
 ·have A:a=c:=by omega
  subst A;rcases @sG t a m with⟨D,w⟩|⟨r,D,_⟩;·
   have k:∀s:Rat,0<=s->t.value+s*t.cs a<=B:=λs o=>by
    have p:=asg_holds h.wf h.fm (y:=λj=>if j=a then s else 0);have e:Ov n (λj=>t.cs j*(λj=>if j=a then s else 0) j)=s*t.cs a:=by
     rw[cX (g:=λj=>if j=a then s*t.cs a else 0) λj _=>by
      grind,r_ d]
    rw[e] at p;refine F _ _ ((h.sol _ _).1 p) λv b=>?_;rw[<-h.perm.mem_iff,List.mem_append] at b;rcases b with b|b
    ·obtain⟨i,l,rfl⟩:=vy h.wf b;rw[mc h.wf h.fm l];have f:Ov n (λj=>t.cf i j*(if j=a then s else 0))=t.cf i a*s:=by
      rw[cX (g:=λj=>if j=a then t.cf i a*s else 0) λj _=>by
       grind,r_ d]
     rw[f];have:=Mb (w i l) o;have:=q i l;grind
    ·obtain⟨j,E,rfl⟩:=sL h.wf b;rw[lC h.wf h.fm E];grind
   have u:=k 0 (by grind);have o:0<=(B - t.value+1) / t.cs a:=Ld (by grind) f;grind[div_mul]
  ·omega
end
open Classical in
noncomputable def rZ (n m:Nat) (t:Tb):Nat:=if h:∃N,ei n m N t=true then δU h else 0
noncomputable def cr (n m:Nat) (t:Tb):Tb:=runT n m (rZ n m t) t
section
variable {n m:Nat} {t t0 t':Tb}
theorem zS {N:Nat} (h:ei n m N t=true):cr n m t=runT n m N t:=by
 have a:∃N,ei n m N t=true:=⟨N,h⟩;have b:ei n m (rZ n m t) t=true:=by
  unfold rZ;grind
 grind[cr,Me]
theorem Ma (h:stepT n m t=none):cr n m t=t:=by
 have a:ei n m 0 t=true:=by simp[ei,h]
 rw[zS a];rfl
theorem TK (a:∃N,ei n m N t=true) (h:stepT n m t=some t'):cr n m t'=cr n m t:=by
 obtain⟨N,a⟩:=a;have b:=LF a h;rw[zS b,zS (EE a)];grind[runT]
theorem DG (b:dq n m t0 t) (c:jt m t):dq n m t0 (cr n m t)/\jt m (cr n m t)/\stepT n m (cr n m t)=none:=by
 obtain⟨N,a⟩:=Fc b c;rw[zS a];grind[Mf,mR]
theorem L_ (i:dq n m t0 t) (e:jt m t) {B:Rat} (h:∀x z,t0.holds n m x z->(∀v∈t0.basic++t0.free,0<=x v)->z<=B):dI (cr n m t) n<0:=by
 obtain⟨j,g,a⟩:=DG i e;rcases @sf (cr n m t) n with⟨b,d⟩|⟨c,b,d,l,k⟩;·omega
 ·exfalso;unfold stepT at a;rw[if_neg (by omega),show(dI (cr n m t) n).toNat=c by omega] at a;split at a
  ·rename_i f;exact j.dZ g h b f
  ·cases a
end
def zi (f:List Int) (d:Int):List Int:=(cz f.length).filter λi=>decide (bN f i.toNat 0=d)
theorem jO {f:List Int} {d x:Int}:x∈zi f d↔(0<=x/\x<f.length)/\bN f x.toNat 0=d:=by
 simp_all[zi,jh]
theorem rY {f:List Int} {d:Int}:(zi f d).Pairwise (·<·):=nL.sublist List.filter_sublist
theorem ri {f:List Int} {d:Int}:(zi f d).length<=f.length:=by
 have:=List.length_filter_le (λi:Int=>decide (bN f i.toNat 0=d)) (cz f.length);rw[gQ] at this;exact this
theorem DF {a b:Type} {g:a->b} {l:List a} {i:Nat} {d:b} {e:a} (h:i<l.length):bN (l.map g) i d=g (bN l i e):=by
 grind[bV]
theorem DE {n j:Nat} {d:Int} (h:j<n):bN (cz n) j d=j:=by
 grind[cz,oo]
def bQ (p:cj) (f:List Int):Tb where
 VK:=(ω (p.bk.length+12)).map λr:Nat=>(zi f 0).map λi=>((dz p r (oI p i):Int):Rat);bound:=(ω (p.bk.length+12)).map λr:Nat=>((cC p r - bZ p ((zi f 1).map (oI p)) r:Int):Rat);cost:=(zi f 0).map λi=>(((oI p i).value:Int):Rat);value:=0;basic:=(ω (p.bk.length+12)).map λi:Nat=>(((zi f 0).length+i:Nat):Int);free:=cz (zi f 0).length
def dW (p:cj) (f:List Int):Prop:=nW p=0/\f.length=p.bj.length/\fi p ((zi f 1).map (oI p))=true
abbrev nF (f:List Int):Nat:=(zi f 0).length
abbrev mF (p:cj):Nat:=p.bk.length+12
section
variable {p:cj} {f:List Int}
theorem kj:(bQ p f).WF (nF f) (mF p) where
 VK:=by simp[bQ]
 row i a:=by
  grind[bQ,oo]
 bound:=by simp[bQ]
 cost:=by simp[bQ]
 basic:=by simp[bQ]
 free:=by simp[bQ,gQ]
theorem vW {i j:Nat} (b:i<mF p) (a:j<nF f):(bQ p f).cf i j=((dz p i (oI p (bN (zi f 0) j 0)):Int):Rat):=by
 grind[Tb.cf,bQ,oo,DF]
theorem vV {i:Nat} (a:i<mF p):(bQ p f).bd i=((cC p i - bZ p ((zi f 1).map (oI p)) i:Int):Rat):=by
 grind[Tb.bd,bQ,oo]
theorem wT {j:Nat} (a:j<nF f):(bQ p f).cs j=(((oI p (bN (zi f 0) j 0)).value:Int):Rat):=by
 grind[Tb.cs,bQ,DF]
theorem zR {i:Nat} (a:i<mF p):(bQ p f).bv i=(((nF f)+i:Nat):Int):=by
 grind[Tb.bv,bQ,oo]
theorem sE {j:Nat} (a:j<nF f):(bQ p f).fv j=j:=by
 grind[Tb.fv,bQ,DE]
theorem oX:((bQ p f).basic++(bQ p f).free).Nodup:=by
 rw[γx];refine⟨?_,nL.imp λh=>by omega,?_⟩
 ·simp only[bQ];refine List.Pairwise.map _ (λa b h=>?_) List.nodup_range;omega
 grind[bQ,jh]
theorem vU (h:dW p f) {j:Nat} (a:j<nF f):(0<=bN (zi f 0) j 0/\bN (zi f 0) j 0<p.bj.length)/\bN f (bN (zi f 0) j 0).toNat 0=0:=by
 have:=jO.1 (cA (d:=0) a);rw[h.2.1] at this;exact this
theorem js (a:nW p=0) {i:Int} (h:0<=i/\i<p.bj.length):0<=(oI p i).TM/\(oI p i).TM<p.bk.length/\(oI p i).bx.ok=true/\1<=(oI p i).value/\(oI p i).value<=1000000:=(cL a).2.2.2.2 _ (cA (show i.toNat<p.bj.length by omega))
theorem zQ (h:dW p f) {d:Int}:∀x∈(zi f d).map (oI p),0<=x.TM/\x.TM<p.bk.length/\x.bx.ok=true/\1<=x.value/\x.value<=1000000:=λx a=>by
 obtain⟨i,b,rfl⟩:=Γ.1 a;have:=(jO.1 b).1;rw[h.2.1] at this;exact js h.1 this
theorem DD {z:Int} {M:Nat} (h:z.natAbs<=M):dY M (z:Rat):=⟨z,rfl,h⟩
theorem L9 (h:dW p f) {i:Nat} (b:i<mF p):0<=cC p i - bZ p ((zi f 1).map (oI p)) i/\cC p i - bZ p ((zi f 1).map (oI p)) i<=4:=by
 have c:i<p.bk.length+12:=b;have d:=ni.1 h.2.2 i (by grind[cq]);have g:=@yd p h.1 i;have e:=@qv p i ((zi f 1).map (oI p)) λx a=>(zQ h x a).2.2.1;omega
theorem TJ:∀m:Nat,m<=20->(m+2)*(1000000*lI 4 m)<4294967296^1000:=by
 have h:((ω 21).all λm=>Nat.blt ((m+2)*(1000000*lI 4 m)) (4294967296^1000))=true:=by decide+kernel
 intro m a;have:=ψ.1 h m (γD.2 (by omega));rw[Nat.blt_eq] at this;exact this
theorem zP (h:dW p f):Small (nF f) (mF p) 4 1000000 (bQ p f) where
 wf:=kj;nd:=oX;cf i j b a:=by
  rw[vW b a];have:=(js h.1 (vU h a).1).2.2.1;grind[nO,DD]
 bd i b:=by
  rw[vV b];have:=L9 h b;exact DD (by omega)
 cs j a:=by
  rw[wT a];have:=js h.1 (vU h a).1;grind[DD]
 v:=rfl;M1:=by omega
 G1:=by omega
 X:=TJ _ (by have:=(cL h.1).1;grind)
theorem zO {z:Int} (h:0<=z):(0:Rat)<=(z:Rat):=by exact_mod_cast h
theorem DC (h:dW p f):jt (mF p) (bQ p f):=λi a=>by
 rw[vV a];exact zO (L9 h a).1
theorem L1 {g:Nat->Rat}:∀{n:Nat},(∀k,k<n->0<=g k)->0<=Ov n g
 |0,_=>by grind[Ov];|n+1,h=>by
  have a:=@L1 g n λk b=>h k (by omega);grind[Ov]
theorem L0 {g k:Nat->Rat}:∀{n:Nat},(∀i,i<n->g i<=k i)->Ov n g<=Ov n k
 |0,_=>by grind[Ov];|n+1,h=>by
  have a:=@L0 g k n λk b=>h k (by omega);grind[Ov]
theorem TI {g:Nat->Rat} {n j:Nat} (h:∀k,k<n->0<=g k) (a:j<n):g j<=Ov n g:=by
 rw[zl a];grind[L1]
theorem KB (h:dW p f) {x:Int->Rat} {z:Rat} (d:(bQ p f).holds (nF f) (mF p) x z) (e:∀v∈(bQ p f).basic++(bQ p f).free,0<=x v) {j:Nat} (b:j<nF f):x ((bQ p f).fv j)<=1:=by
 obtain⟨l,_⟩:=vU h b;have r:=js h.1 l;have a:(oI p (bN (zi f 0) j 0)).TM.toNat<mF p:=by grind
 have s:=d.1 _ a;have n:=e _ (List.mem_append_left _ (w9 kj a));have i:(bQ p f).cf (oI p (bN (zi f 0) j 0)).TM.toNat j=1:=by
  rw[vW a b];unfold dz;rw[if_pos (by omega),if_pos (by omega)];rfl
 have m:=@TI (λk=>(bQ p f).cf (oI p (bN (zi f 0) j 0)).TM.toNat k*x ((bQ p f).fv k)) (nF f) j (λk c=>by
  refine δx ?_ (e _ (List.mem_append_right _ (sM kj c)));rw[vW a c];exact zO (nO (js h.1 (vU h c).1).2.2.1).1) b;simp only[i] at m;have t:(bQ p f).bd (oI p (bN (zi f 0) j 0)).TM.toNat<=1:=by
  rw[vV a];have o:cC p (oI p (bN (zi f 0) j 0)).TM.toNat=1:=by
   unfold cC;omega
  have q:=@qv p (oI p (bN (zi f 0) j 0)).TM.toNat ((zi f 1).map (oI p)) λx d=>(zQ h x d).2.2.1;have g:cC p (oI p (bN (zi f 0) j 0)).TM.toNat - bZ p ((zi f 1).map (oI p)) (oI p (bN (zi f 0) j 0)).TM.toNat<=1:=by omega
  exact_mod_cast g
 grind
theorem KA (h:dW p f) {x:Int->Rat} {z:Rat} (c:(bQ p f).holds (nF f) (mF p) x z) (e:∀v∈(bQ p f).basic++(bQ p f).free,0<=x v):z<=Ov (nF f) (bQ p f).cs:=by
 have g:=c.2;have k:(bQ p f).value=0:=rfl;have:=@L0 (λj=>(bQ p f).cs j*x ((bQ p f).fv j)) (bQ p f).cs (nF f) λj a=>by
  have i:=KB h c e a;have d:0<=(bQ p f).cs j:=by
   rw[wT a];exact zO (by have:=js h.1 (vU h a).1;omega)
  have:=δx d (b:=1 - x ((bQ p f).fv j)) (by grind);grind
 grind
noncomputable def cE (p:cj) (f:List Int):Tb:=cr (nF f) (mF p) (bQ p f)
theorem mO (h:dW p f):dq (nF f) (mF p) (bQ p f) (cE p f)/\jt (mF p) (cE p f)/\dI (cE p f) (nF f)<0:=by
 have a:=dq.refl (n:=nF f) (m:=mF p) (t0:=bQ p f) kj oX;have:=DG a (DC h);exact⟨this.1,this.2.1,L_ a (DC h) λx z c b=>KA h c b⟩
end
def dU (d:List NH) (j:Nat) (z:NH):List NH:=d.take j++δ (d.length - j) z
theorem vT {d:List NH} {j:Nat} {z:NH} (h:j<=d.length):(dU d j z).length=d.length:=by
 grind[dU]
theorem vS {d:List NH} {z:NH}:dU d 0 z=δ d.length z:=by simp[dU]
theorem vR {d:List NH} {z:NH}:dU d d.length z=d:=by simp[dU]
theorem uM {d:List NH} {j:Nat} {z x:NH} (h:j<d.length) (b:x=bN d j z):(dU d j z).set j x=dU d (j+1) z:=by
 unfold dU;have a:d.length - j=(d.length - (j+1))+1:=by omega
 rw[a,List.replicate_succ,List.set_append_right _ _ (by grind),γz,show j - min j d.length=0 by omega,List.set_cons_zero,List.take_succ_eq_append_getElem h,List.append_assoc,b,bV h];rfl
theorem uL {l:List Rat} {i:Nat} {q:Rat}:(fL l).set i (nf q)=fL (l.set i q):=by
 simp_all[fL]
theorem elim_none {l p:List Rat} {c:Nat} (h:bN l c 0=0) (d:c<l.length):ju l c p=l:=by
 refine γ9 zk λi b a=>?_;have e:=@zj c l p i a;grind[bV]
def r413:cU where
 f:=181;α:=Int;put a:=[.si .i64 a];st _:=[];dec v o:=match v,o with
  |[v],[]=>v.int .i64
  |_,_=>none;ok v o a h:=by
  split at h;·exact⟨by simp only[gL,gT h];rfl,rfl⟩
  ·cases h
 inj a b h _:=by simpa[gL,SV.g] using h
 dom n:=0<=n/\n<=1000;res n:=.ow 0 n.toNat 3;out n:=[.row sF (fL (δ n.toNat 0)) 177 false]
def TH (n:Int):Nat->bJ
 |3=> .inv Int (λj=>⟨[(3,.ow 0 n.toNat 3),(8,.si .i64 n.toNat),(9,.si .i64 j)],[.row sF (dU (fL (δ n.toNat 0)) j.toNat (false,([],[]))) 177 true]⟩)
   (λs=>iS s 9) (λj=>0<=j/\j<=n) (λj=>(n - j).toNat) λ_ _=> .look
 |_=> .look
theorem yN:dB Tryz.prog r413:=by
 refine Ft (L:=[mj]) (W:=[]) r413 (λ_=>none) TH (by simp) (by simpa using nG) ?_;rintro(n:Int) ⟨n0,n1⟩;refine NI (let a:=(0:Int);let c:=iZ.row;let d:=γj .i64;let e:=γ1 0 n.toNat 3;let h:=d (↑n.toNat:Int);let m:=(ew.i .u32).Ap;let j:=(false,[],[]);let k:=fL (δ n.toNat (0:Rat));let l:=nf (κ a);a<=n/\n<=n/\n*(56:Int)<=(140737488355328:Int)/\n<=(1000000000000:Int)/\(((e.bi e/\h.bi h/\(γC .i64 0).bi (d 0)/\True)/\(c (ew.b.pair (m.pair m)) (δ n.toNat j) 177 true).bi (c sF (dU k 0 j) 177 true)/\True)/\a<=a/\a<=n)/\∀(x:Int),let o:=decide (x<(↑n.toNat:Int));let f:=dU k x.toNat j;let g:=x+(1:Int);let p:=d g;a<=x/\x<=n->(o=true->((-9223372036854775808:Int)<=a/\a<=(9223372036854775807:Int))/\n.toNat=f.length/\a<=x/\x<(↑f.length:Int)/\n.toNat=f.length/\x.toNat<f.length/\VL .i64 g/\((e.bi e/\h.bi h/\p.bi p/\True)/\(c sF (f.set x.toNat (l.1,l.2.1,l.2.2)) 177 true).bi (c sF (dU k g.toNat j) 177 true)/\True)/\(a<=g/\g<=n)/\(n - g).toNat<(n - x).toNat)/\(o=false->e.bi e/\(c sF f 177 false).bi (c sF k 177 false)/\True)) (by kernel_rfl) ?_;conv=>zeta
 try simp only[vcs]
 have hcast:∀k:Nat,((k:Nat):Int).toNat=k:=λk=>γk k;have hl:(fL (δ n.toNat 0)).length=n.toNat:=by rw[ez,γE]
 have hrow:∀{x y:List NH},x=y->(iZ.row sF x 177 true).bi (iZ.row sF y 177 true):=by rintro _ _ rfl;rfl
 refine⟨n0,by omega,by omega,by omega,⟨hrow (by rw[vS,hl]),by omega,by omega⟩,?_⟩;rintro j ⟨j0,j1⟩;have hru:=@vT (fL (δ n.toNat 0)) j.toNat (false,([],[])) (by omega);refine⟨λhj=>?_,λhj=>?_⟩
 ·have hE:bN (fL (δ n.toNat 0)) j.toNat (false,([],[]))=nf 0:=by
   rw[iD (by rw[γE];omega),bV (by rw[γE];omega),List.getElem_replicate]
  have h0:(κ 0:Rat)=0:=rfl;simp only[h0,iO];exact⟨by omega,by omega,j0,by omega,by omega,by omega,by omega,hrow (by rw[uM (by omega) hE.symm,show(j+1).toNat=j.toNat+1 by omega]),by omega,by omega⟩
 ·rw[show j.toNat=(fL (δ n.toNat 0)).length by omega,vR];rfl
def r417:NG:=⟨185,List NH×NH×Int×List NH×NH,.cons (cO sF) (.cons (dD sF) (.cons (dX .i64) (.cons (cO sF) (.one (dD sF))))),
 λa=>∃l b p c,(a.1=fL l/\a.2.1=nf b/\a.2.2.2.1=fL p/\a.2.2.2.2=nf c)/\(l.length=p.length/\l.length<=1000)/\(0<=a.2.2.1/\a.2.2.1<l.length)/\(∀q∈l,Sz 10000000 q)/\(∀q∈p,Sz 10000000 q)/\Sz 10000000 b/\Sz 10000000 c,
 λa=> .Gz [.row sF (fL (ju (vL a.1) a.2.2.1.toNat (vL a.2.2.2.1))),nH (TL a.2.1 - bN (vL a.1) a.2.2.1.toNat 0*TL a.2.2.2.2)]⟩
def TG (l:List Rat) (b:Rat) (c:Int) (p:List Rat) (pb:Rat):Nat->bJ
 |6=> .inv Int (λj=>⟨[(2,.si .i64 c),(3,.row sF (fL p)),(6,.ptr 0 0 3),(9,.ptr 1 0 3),(11,.ptr 2 0 3),(12,.ptr 3 0 3),(13,.ow 4 l.length 3),(28,.row sF (fL l)),(29,.si .i64 l.length),(30,.si .i64 j)],
   [.cells [.sb (nf b).1,.row (.i .u32) (nf b).2.1,.row (.i .u32) (nf b).2.2] 177 3 false,.cells [.sb (nf pb).1,.row (.i .u32) (nf pb).2.1,.row (.i .u32) (nf pb).2.2] 177 3 false,
    .cells [.bl false,.sc (.slice none 0 0),.sc (.slice none 0 0)] 177 3 false,.cells [.sb (nf (bN l c.toNat 0)).1,.row (.i .u32) (nf (bN l c.toNat 0)).2.1,.row (.i .u32) (nf (bN l c.toNat 0)).2.2] 177 3 false,
    .row sF (dU (fL (ju l c.toNat p)) j.toNat (false,([],[]))) 177 true]⟩)
   (λs=>iS s 30) (λj=>0<=j/\j<=l.length) (λj=>(l.length - j).toNat) λ_ _=> .look
 |_=> .look
theorem H_:Holds Tryz.prog r417:=by
 refine bM (L:=[p_,wV,vY,wE]) r417 (λa=>TG (vL a.1) (TL a.2.1) a.2.2.1 (vL a.2.2.2.1) (TL a.2.2.2.2)) (by simpa using⟨sA,tZ,qW,Cj⟩) ?_;rintro⟨l',b',c,p',pb'⟩ ⟨l,b,p,pb,⟨e1,e2,e3,e4⟩,⟨g1,g2⟩,⟨c0,c1⟩,hl,hp,hb,hpb⟩;simp only at e1 e2 e3 e4 c0 c1;subst e1 e2 e3 e4;refine NI (let a:=γa;let d:=(0:Int);let e:=γj .i64;let f:=iZ.cells;let g:=iZ.row;let h:=γB;let j:=sF.bw;let k:=γV;let m:=γN;let n:=SV.Gz;let F:=bN (fL l) c.toNat j;let a2:=(F.1,F.2.1,F.2.2);let o:=ew.i .u32;let t:=(↑(fL l).length:Int);let L:=fL (ju (vL (fL l)) c.toNat (vL (fL p)));let v:=TL (nf b);let w:=bN (vL (fL l)) c.toNat (0:Rat);let y:=TL (nf pb);let a3:=(nf (v - w*y)).2;let a4:=n [a sF L,m [h (nf (v - w*y)).1,a o a3.1,a o a3.2]];let z:=fL (vL (fL p));let G:=a sF z;let A:=k 0 0 3;let B:=k 1 0 3;let C:=k 2 0 3;let D:=k 3 0 3;let z18:Nat:=(vL (fL l)).length;let H:=γ1 4 z18 3;let I:=fL (vL (fL l));let J:=a sF I;let r:=(↑z18:Int);let K:=e r;let a5:=SV.sc (Value.slice none 0 0);let E:=f [δj false,a5,a5] 177 3 false;let M:=(false,[],[]);let N:=((nf w).1,(nf w).2.1,(nf w).2.2);let O:=f [h (nf v).1,a o (nf v).2.1,a o (nf v).2.2] 177 3 false;let P:=f [h (nf y).1,a o (nf y).2.1,a o (nf y).2.2] 177 3 false;let Q:=f [h (nf w).1,a o (nf w).2.1,a o (nf w).2.2] 177 3 false;let a6:=((nf y).1,(nf y).2.1,(nf y).2.2);let a7:=((nf v).1,(nf v).2.1,(nf v).2.2);let S:=nf (TL N*TL a6);let a8:=(S.1,S.2.1,S.2.2);let U:=nf (TL a7 - TL a8);let a9:=λ(u:Bool) ↦decide (iP (TL a2)=d)=u;let V:=λ(u:ew.b.T) (u_1:(o.Ap.pair o.Ap).T) (u_2:Rat) ↦(f [h u,a o u_1.1,a o u_1.2] 177 3 false).bi (f [h (nf u_2).1,a o (nf u_2).2.1,a o (nf u_2).2.2] 177 3 false);d<=c/\c<t/\c.toNat<(fL l).length/\bL a2/\(a9 true->(n [a sF (fL l),m [h (nf b).1,a o (nf b).2.1,a o (nf b).2.2]]).bi a4)/\(a9 false->d<=t/\t<=t/\t*(56:Int)<=(140737488355328:Int)/\t<=(1000000000000:Int)/\((((e c).bi (e c)/\(a sF (fL p)).bi G/\A.bi A/\B.bi B/\C.bi C/\D.bi D/\(γ1 4 t.toNat 3).bi H/\(a sF (fL l)).bi J/\(e t).bi K/\(γC .i64 0).bi (e 0)/\True)/\V (nf b).1 (nf b).2 v/\V (nf pb).1 (nf pb).2 y/\E.bi E/\V F.1 F.2 w/\(g (ew.b.pair (o.Ap.pair o.Ap)) (δ t.toNat M) 177 true).bi (g sF (dU L 0 M) 177 true)/\True)/\d<=d/\d<=r)/\∀(x:Int),let W:=bN z x.toNat j;let X:=(W.1,W.2.1,W.2.2);let Y:=nf (TL N*TL X);let Z:=(Y.1,Y.2.1,Y.2.2);let q:=dU L x.toNat M;let s:=x+(1:Int);let R:=e s;let aa:=g sF (dU L s.toNat M) 177 true;let a0:=bN I x.toNat j;let ab:=(a0.1,a0.2.1,a0.2.2);let ac:=bL Z;let ad:=bL N/\bL X;let ae:=λ(u:Rat) ↦z18=q.length/\d<=x/\x<(↑q.length:Int)/\z18=q.length/\x.toNat<q.length/\VL .i64 s/\(((e c).bi (e c)/\G.bi G/\A.bi A/\B.bi B/\C.bi C/\D.bi D/\H.bi H/\J.bi J/\K.bi K/\R.bi R/\True)/\O.bi O/\P.bi P/\E.bi E/\Q.bi Q/\(g sF (q.set x.toNat ((nf u).1,(nf u).2.1,(nf u).2.2)) 177 true).bi aa/\True)/\(d<=s/\s<=r)/\(r - s).toNat<(r - x).toNat;let af:=λ(u:Bool) ↦decide (iP (TL X)=d)=u;let ag:=λ(u:List NH) ↦let a1:=bN u x.toNat j;bL (a1.1,a1.2.1,a1.2.2);d<=x/\x<=r->(decide (x<r)=true->d<=x/\x<(↑I.length:Int)/\x.toNat<I.length/\(decide (x=c)=true->d<=x/\x<(↑z.length:Int)/\x.toNat<z.length/\ad/\ac/\ae (-TL Z))/\(decide (x=c)=false->d<=x/\x<(↑z.length:Int)/\x.toNat<z.length/\ag z/\(af true->z18=q.length/\d<=x/\x<(↑q.length:Int)/\z18=q.length/\x.toNat<q.length/\VL .i64 s/\(((e c).bi (e c)/\G.bi G/\A.bi A/\B.bi B/\C.bi C/\D.bi D/\H.bi H/\J.bi J/\K.bi K/\R.bi R/\True)/\O.bi O/\P.bi P/\E.bi E/\Q.bi Q/\(g sF (q.set x.toNat ab) 177 true).bi aa/\True)/\(d<=s/\s<=r)/\(r - s).toNat<(r - x).toNat)/\(af false->d<=x/\x<(↑z.length:Int)/\x.toNat<z.length/\ad/\(ag I/\ac)/\ae (TL ab - TL Z))))/\(decide (x<r)=false->(bL N/\bL a6)/\(bL a7/\bL a8)/\z18=q.length/\(n [a sF q,m [h U.1,a o U.2.1,a o U.2.2]]).bi a4))) (by kernel_rfl) ?_;simp only[jP,dJ];try simp only[vcs]
 have hfl:=@ez l;have hfp:=@ez p;have hel:(ju l c.toNat p).length=l.length:=zk;have hfe:=@ez (ju l c.toNat p);have hA:bN (fL l) c.toNat sF.bw=nf (bN l c.toNat 0):=iD (by omega);have hzc:=hl _ (cA (d:=0) (show c.toNat<l.length by omega));have hcast:∀k:Nat,((k:Nat):Int).toNat=k:=λk=>γk k;have hag:∀{x y:Rat},x=y->(γN [γB (nf x).1,γa (ew.i IntKind.u32) (nf x).2.1,γa (ew.i IntKind.u32) (nf x).2.2]).bi (γN [γB (nf y).1,γa (ew.i IntKind.u32) (nf y).2.1,γa (ew.i IntKind.u32) (nf y).2.2]):=by rintro _ _ rfl;rfl
 have hrow:∀{x y:List NH},x=y->(iZ.row sF x 177 true).bi (iZ.row sF y 177 true):=by rintro _ _ rfl;rfl
 simp only[hA,iO,dJ,E_,hcast];refine⟨c0,by omega,by omega,dc hzc (by omega),λhz=>⟨by rw[elim_none hz (by omega)],hag (by rw[hz];grind)⟩,λhz=>⟨by omega,by omega,by omega,by omega,⟨⟨⟨by rw[hfl];rfl,by omega⟩,rfl,hrow (by rw[vS,hfe,hel,hfl])⟩,by omega,by omega⟩,?_⟩⟩;rintro j ⟨j0,j1⟩;have hru:=@vT (fL (ju l c.toNat p)) j.toNat (false,([],[])) (by omega);refine⟨λhj=>?_,λhj=>?_⟩
 ·have hP:bN (fL p) j.toNat sF.bw=nf (bN p j.toNat 0):=iD (by omega);have hL:bN (fL l) j.toNat sF.bw=nf (bN l j.toNat 0):=iD (by omega);have hzp:=hp _ (cA (d:=0) (show j.toNat<p.length by omega));have hzl:=hl _ (cA (d:=0) (show j.toNat<l.length by omega));have hE:bN (fL (ju l c.toNat p)) j.toNat (false,([],[]))=nf (if j.toNat=c.toNat then -(bN l c.toNat 0*bN p j.toNat 0) else bN l j.toNat 0 - bN l c.toNat 0*bN p j.toNat 0):=by
   rw[iD (by omega),zj (by omega)]
  have hm:=sg hzc hzp;have tail:(0<=j+1/\j+1<=(l.length:Int))/\((l.length:Int) - (j+1)).toNat<((l.length:Int) - j).toNat:=by omega
  have step:∀{x:NH},x=bN (fL (ju l c.toNat p)) j.toNat (false,([],[]))->(iZ.row sF ((dU (fL (ju l c.toNat p)) j.toNat (false,([],[]))).set j.toNat x) 177 true).bi (iZ.row sF (dU (fL (ju l c.toNat p)) (j+1).toNat (false,([],[]))) 177 true):=λh=>hrow (by
   rw[uM (by omega) h,show(j+1).toNat=j.toNat+1 by omega]);simp only[hP,hL,iO,dJ,E_];refine⟨j0,by omega,by omega,λhjc=>⟨j0,by omega,by omega,⟨dc hzc (by omega),dc hzp (by omega)⟩,dc hm (by omega),by omega,j0,by omega,by omega,by omega,by omega,step ?_,tail⟩,λhjc=>⟨j0,by omega,by omega,dc hzp (by omega),λhpz=>⟨by omega,j0,by omega,by omega,by omega,by omega,step ?_,tail⟩,λhpz=>⟨j0,by omega,by omega,⟨dc hzc (by omega),dc hzp (by omega)⟩,⟨dc hzl (by omega),dc hm (by omega)⟩,by omega,j0,by omega,by omega,by omega,by omega,step ?_,tail⟩⟩⟩;·rw[hE,if_pos (by omega)]
  ·rw[hE,if_neg (by omega),hpz];congr 1;grind
  ·rw[hE,if_neg (by omega)]
 ·rw[show j.toNat=(fL (ju l c.toNat p)).length by omega,vR];exact⟨⟨dc hzc (by omega),dc hpb (by omega)⟩,⟨dc hb (by omega),dc (sg hzc hpb) (by omega)⟩,by omega,rfl,rfl⟩
def r408:cU:=sd 176 (Int×Int) (.cons (dX .i64) (.one (dX .i64))) (λn m t a=>(0<=a.1/\a.1<m)/\(0<=a.2/\a.2<n)/\t.cf a.1.toNat a.2.toNat≠0) (λ_ _ _ _=> .Gz []) (λ_ _ t a=>eX t a.1.toNat a.2.toNat)
def mX (l:List Rat) (q:Rat):List Rat:=l.map λx=>x*q
def fC (q:Rat):iZ:=.cells [.sb (nf q).1,.row (.i .u32) (nf q).2.1,.row (.i .u32) (nf q).2.2] 177 3 false
def gJ {a:Type} (f g:Nat->a) (n r i:Nat):List a:=(ω n).map λk=>if k<i/\k≠r then g k else f k
theorem sD {a:Type} {f g:Nat->a} {n r i:Nat}:(gJ f g n r i).length=n:=by simp[gJ]
theorem Kz {a:Type} {l:List a} {g:Nat->a} {r:Nat} {d:a}:gJ (λk=>bN l k d) g l.length r 0=l:=by
 refine γ9 sD λi b c=>?_;grind[gJ,bN]
theorem Ky {a:Type} {f g:Nat->a} {n r i:Nat} {d:a} (h:i<n):bN (gJ f g n r i) i d=f i:=by
 simp_all[gJ,oo]
theorem Kx {a:Type} {f g:Nat->a} {n r i:Nat} (h:i<n) (d:i≠r):(gJ f g n r i).set i (g i)=gJ f g n r (i+1):=by
 refine γ9 (by simp[gJ]) λk b c=>?_;have e:k<n:=by grind[gJ]
 rw[εY];simp only[gJ,δF,εI];grind
theorem Kw {a:Type} {f g:Nat->a} {n r:Nat}:gJ f g n r (r+1)=gJ f g n r r:=by
 unfold gJ;grind
theorem Kv {a:Type} {f g:Nat->a} {n r:Nat} {x:a} (h:r<n):(gJ f g n r n).set r x=(ω n).map λk=>if k=r then x else g k:=by
 refine γ9 (by simp[gJ]) λk b c=>?_;have d:k<n:=by simp_all
 rw[εY];simp only[gJ,δF,εI];grind
theorem Ku {l:List (List Rat)} {i:Nat} {x:List Rat}:(fM l).set i (fL x)=fM (l.set i x):=by
 simp_all[fM]
theorem TF {l:List Rat} {c:Nat} (h:c<l.length):(fL (mX l (1 / bN l c 0))).set c (nf (1 / bN l c 0))=fL (jQ l c):=by
 rw[uL];congr 1;refine γ9 (by simp[mX,jQ]) λk d e=>?_;have b:k<l.length:=by grind[jQ]
 rw[εY];simp only[mX,jQ,δF,εI];by_cases a:c=k;·simp_all
 ·rw[if_neg a,if_neg λh=>a h.symm,bV (i:=k) b]
def j5 (t:Tb) (r c i:Nat):Tb:={t with
 VK:=gJ (λk=>bN t.VK k []) (λk=>ju (bN t.VK k []) c (jQ (bN t.VK r []) c)) t.VK.length r i
 bound:=gJ t.bd (λk=>t.bd k - t.cf k c*(t.bd r*(1 / t.cf r c))) t.bound.length r i}
theorem TE {t:Tb} {r c:Nat}:j5 t r c 0=t:=by
 unfold j5;have b:=@Kz (List Rat) t.VK (λk=>ju (bN t.VK k []) c (jQ (bN t.VK r []) c)) r [];have d:=@Kz Rat t.bound (λk=>t.bd k - t.cf k c*(t.bd r*(1 / t.cf r c))) r 0;have a:gJ t.bd (λk=>t.bd k - t.cf k c*(t.bd r*(1 / t.cf r c))) t.bound.length r 0=t.bound:=d;rw[b,a]
def TD (n m:Int) (t:Tb) (r c:Int):Nat->bJ
 |3=> .inv Int (λj=>⟨[(0,.ptr 0 0 10),(1,.si .i64 r),(2,.si .i64 c),(6,.ptr 5 0 3),(8,.ow 6 n.toNat 3),(41,.row sF (fL (bN t.VK r.toNat []))),(42,.si .i64 n),(43,.si .i64 j)],
   (FV n m t).fO++[fC (1 / t.cf r.toNat c.toNat),.row sF (dU (fL (mX (bN t.VK r.toNat []) (1 / t.cf r.toNat c.toNat))) j.toNat (false,([],[]))) 177 true]⟩)
   (λs=>iS s 43) (λj=>0<=j/\j<=n) (λj=>(n - j).toNat) λ_ _=> .look
 |10=> .inv Int (λi=>⟨[(0,.ptr 0 0 10),(1,.si .i64 r),(2,.si .i64 c),(8,.row sF (fL (jQ (bN t.VK r.toNat []) c.toNat))),(11,.ptr 7 0 3),(72,.si .i64 m),(73,.si .i64 i)],
   (FV n m (j5 t r.toNat c.toNat i.toNat)).fO++[fC (1 / t.cf r.toNat c.toNat),.dead,fC (t.bd r.toNat*(1 / t.cf r.toNat c.toNat))]⟩)
   (λs=>iS s 73) (λj=>0<=j/\j<=m) (λj=>(m - j).toNat) λ_ _=> .look
 |_=> .look
theorem If:dB Tryz.prog r408:=by
 refine ko (L:=[mj,zU,wV,r417,sH]) (W:=[]) r408 (λa=>TD a.1.n a.1.m a.1.t a.2.1 a.2.2) (by simp) (by simpa using⟨nG,yM,tZ,H_,o9⟩) ?_;rintro⟨x,r,c⟩ ⟨n,m,t,hx,hok,⟨r0,r1⟩,⟨c0,c1⟩,ha⟩;simp only at hx r0 r1 c0 c1 ha;subst hx;refine NI (let a:=γj .i64;let d:=iZ.row;let e:=(0:Int);let f:=γa;let g:=γ1;let h:=iZ.cells;let j:=γB;let k:=(1:Int);let o:=sF.bw;let s:=γC .i64 0;let w:=γV;let K:=(FV n m t).VK;let a0:=bN K r.toNat sF.Ap.bw;let af:=nf (κ k);let aB:=(af.1,af.2.1,af.2.2);let ag:=bN a0 c.toNat o;let ah:=(ag.1,ag.2.1,ag.2.2);let Q:=(↑(FV n m t).k4:Int);let L:=w 0 0 10;let a3:=w 5 0 3;let A:=(FV n m t).n;let ai:=g 6 A.toNat 3;let M:=(FV n m t).t;let S:=bN M.VK r.toNat [];let aj:=f sF (fL S);let a4:=a A;let G:=(FV n m t).m;let a5:=a G;let z:=ew.i .u32;let B:=FV A G M;let a6:=h [a B.n,a B.m,g 1 B.k0 1,g 2 B.k1 3,f sF B.cost,j B.v.1,f z B.v.2.1,f z B.v.2.2,g 3 B.k3 1,g 4 B.k4 1] 261 10 false;let a7:=d sF.Ap B.VK 106 false;let a8:=d sF B.bound 177 false;let C:=ew.i .i64;let a9:=d C B.basic 3 false;let aa:=d C B.free 3 false;let ak:=nf (TL aB / TL ah);let N:=(1:Rat) / M.cf r.toNat c.toNat;let R:=h [j (nf N).1,f z (nf N).2.1,f z (nf N).2.2] 177 3 false;let ab:=(false,[],[]);let al:=fL (mX S N);let T:=((nf N).1,(nf N).2.1,(nf N).2.2);let ac:=B.bound.length;let am:=bN B.bound r.toNat o;let aC:=(am.1,am.2.1,am.2.2);let U:=fL (jQ S c.toNat);let an:=f sF U;let ad:=w 7 0 3;let D:=FV A G (j5 M r.toNat c.toNat 0);let ao:=nf (TL aC*TL T);let V:=nf (M.bd r.toNat*N);let ap:=h [j V.1,f z V.2.1,f z V.2.2] 177 3 false;let W:=(V.1,V.2.1,V.2.2);let E:=FV A G (eX M r.toNat c.toNat);((-9223372036854775808:Int)<=k/\k<=(9223372036854775807:Int))/\(FV n m t).k0=K.length/\e<=r/\r<(↑K.length:Int)/\(FV n m t).k0=K.length/\r.toNat<K.length/\e<=c/\c<(↑a0.length:Int)/\c.toNat<a0.length/\((bL aB/\bL ah)/\TL ah≠(0:Rat))/\e<=Q/\Q<=Q/\Q*(56:Int)<=(140737488355328:Int)/\Q<=(1000000000000:Int)/\(FV n m t).k0=K.length/\e<=r/\r<(↑K.length:Int)/\(FV n m t).k0=K.length/\r.toNat<K.length/\(((L.bi L/\(a r).bi (a r)/\(a c).bi (a c)/\a3.bi a3/\(g 6 Q.toNat 3).bi ai/\(f sF a0).bi aj/\(a (↑a0.length:Int)).bi a4/\(s).bi (a 0)/\True)/\(h [a4,a5,g 1 (FV n m t).k0 1,g 2 (FV n m t).k1 3,f sF (FV n m t).cost,j (FV n m t).v.1,f z (FV n m t).v.2.1,f z (FV n m t).v.2.2,g 3 (FV n m t).k3 1,g 4 (FV n m t).k4 1] 261 10 false).bi a6/\(d sF.Ap K 106 false).bi a7/\(d sF (FV n m t).bound 177 false).bi a8/\(d C (FV n m t).basic 3 false).bi a9/\(d C (FV n m t).free 3 false).bi aa/\(h [j ak.1,f z ak.2.1,f z ak.2.2] 177 3 false).bi R/\(d (ew.b.pair (z.Ap.pair z.Ap)) (δ Q.toNat ab) 177 true).bi (d sF (dU al 0 ab) 177 true)/\True)/\e<=e/\e<=A)/\∀(x:Int),let aq:=bN (fL S) x.toNat o;let aD:=(aq.1,aq.2.1,aq.2.2);let ae:=dU al x.toNat ab;let O:=ae.length;let X:=x+k;let aE:=a X;let ar:=nf (TL aD*TL T);e<=x/\x<=A->(decide (x<A)=true->e<=x/\x<(↑(fL S).length:Int)/\x.toNat<(fL S).length/\(bL aD/\bL T)/\A.toNat=O/\e<=x/\x<(↑O:Int)/\A.toNat=O/\x.toNat<O/\VL .i64 X/\((L.bi L/\(a r).bi (a r)/\(a c).bi (a c)/\a3.bi a3/\ai.bi ai/\aj.bi aj/\a4.bi a4/\aE.bi aE/\True)/\a6.bi a6/\a7.bi a7/\a8.bi a8/\a9.bi a9/\aa.bi aa/\R.bi R/\(d sF (ae.set x.toNat (ar.1,ar.2.1,ar.2.2)) 177 true).bi (d sF (dU al X.toNat ab) 177 true)/\True)/\(e<=X/\X<=A)/\(A - X).toNat<(A - x).toNat)/\(decide (x<A)=false->A.toNat=O/\e<=c/\c<(↑O:Int)/\A.toNat=O/\c.toNat<O/\B.k1=ac/\e<=r/\r<(↑ac:Int)/\B.k1=ac/\r.toNat<ac/\(bL aC/\bL T)/\A.toNat=(ae.set c.toNat T).length/\(((L.bi L/\(a r).bi (a r)/\(a c).bi (a c)/\(f sF (ae.set c.toNat T)).bi an/\ad.bi ad/\(a (↑B.k0:Int)).bi a5/\(s).bi (a 0)/\True)/\a6.bi (h [a D.n,a D.m,g 1 D.k0 1,g 2 D.k1 3,f sF D.cost,j D.v.1,f z D.v.2.1,f z D.v.2.2,g 3 D.k3 1,g 4 D.k4 1] 261 10 false)/\a7.bi (d sF.Ap D.VK 106 false)/\a8.bi (d sF D.bound 177 false)/\a9.bi (d C D.basic 3 false)/\aa.bi (d C D.free 3 false)/\R.bi R/\iZ.dead.bi iZ.dead/\(h [j ao.1,f z ao.2.1,f z ao.2.2] 177 3 false).bi ap/\True)/\e<=e/\e<=G)/\∀(x:Int),let y:=FV A G (j5 M r.toNat c.toNat x.toNat);let aF:=a y.n;let aG:=a y.m;let aH:=g 1 y.k0 1;let aI:=g 2 y.k1 3;let Y:=y.cost;let aJ:=[g 3 y.k3 1,g 4 y.k4 1];let Z:=x+k;let F:=FV A G (j5 M r.toNat c.toNat Z.toNat);let J:=y.basic;let aK:=a Z;let a1:=y.VK;let H:=a1.length;let a2:=y.bound;let I:=a2.length;let au:=bN a1 x.toNat sF.Ap.bw;let av:=bN a2 x.toNat o;let aL:=(av.1,av.2.1,av.2.2);let aw:=nf (TL aL - bN (vL au) c.toNat (0:Rat)*TL W);let ax:=(y.v.1,y.v.2.1,y.v.2.2);let ay:=bN Y c.toNat o;let aM:=(ay.1,ay.2.1,ay.2.2);let az:=nf (TL aM*TL W);let aN:=(az.1,az.2.1,az.2.2);let P:=y.free.length;let aA:=nf (TL ax+TL aN);let aP:=(h (aF::aG::aH::aI::f sF Y::j y.v.1::f z y.v.2.1::f z y.v.2.2::aJ) 261 10 false).bi (h [a F.n,a F.m,g 1 F.k0 1,g 2 F.k1 3,f sF F.cost,j F.v.1,f z F.v.2.1,f z F.v.2.2,g 3 F.k3 1,g 4 F.k4 1] 261 10 false);let aQ:=(d C J 3 false).bi (d C F.basic 3 false)/\(d C y.free 3 false).bi (d C F.free 3 false)/\R.bi R/\iZ.dead.bi iZ.dead/\ap.bi ap/\True;let aO:=λ(u u_1:iZ) ↦VL .i64 Z/\((L.bi L/\(a r).bi (a r)/\(a c).bi (a c)/\an.bi an/\ad.bi ad/\a5.bi a5/\aK.bi aK/\True)/\aP/\u.bi (d sF.Ap F.VK 106 false)/\u_1.bi (d sF F.bound 177 false)/\aQ)/\(e<=Z/\Z<=G)/\(G - Z).toNat<(G - x).toNat;e<=x/\x<=G->(decide (x<G)=true->(decide (x≠r)=true->y.k0=H/\e<=x/\x<(↑H:Int)/\y.k0=H/\x.toNat<H/\y.k1=I/\e<=x/\x<(↑I:Int)/\y.k1=I/\x.toNat<I/\(∃(l:List Rat),∃(b:Rat),∃(p:List Rat),∃(pb:Rat),(au=fL l/\aL=nf b/\U=fL p/\W=nf pb)/\(l.length=p.length/\l.length<=1000)/\(e<=c/\c<(↑l.length:Int))/\(∀(q:Rat),q∈l->Sz 10000000 q)/\(∀(q:Rat),q∈p->Sz 10000000 q)/\Sz 10000000 b/\Sz 10000000 pb)/\y.k0=H/\e<=x/\x<(↑H:Int)/\y.k0=H/\x.toNat<H/\y.k1=I/\e<=x/\x<(↑I:Int)/\y.k1=I/\x.toNat<I/\aO (d sF.Ap (a1.set x.toNat (fL (ju (vL au) c.toNat (vL U)))) 106 false) (d sF (a2.set x.toNat (aw.1,aw.2.1,aw.2.2)) 177 false))/\(decide (x≠r)=false->aO (d sF.Ap a1 106 false) (d sF a2 177 false)))/\(decide (x<G)=false->e<=c/\c<(↑Y.length:Int)/\c.toNat<Y.length/\(∃(l:List Rat),∃(b:Rat),∃(p:List Rat),∃(pb:Rat),(Y=fL l/\ax=nf b/\U=fL p/\W=nf pb)/\(l.length=p.length/\l.length<=1000)/\(e<=c/\c<(↑l.length:Int))/\(∀(q:Rat),q∈l->Sz 10000000 q)/\(∀(q:Rat),q∈p->Sz 10000000 q)/\Sz 10000000 b/\Sz 10000000 pb)/\(bL aM/\bL W)/\(bL ax/\bL aN)/\y.k0=H/\e<=r/\r<(↑H:Int)/\y.k0=H/\r.toNat<H/\y.k1=I/\e<=r/\r<(↑I:Int)/\y.k1=I/\r.toNat<I/\y.k4=P/\e<=c/\c<(↑P:Int)/\y.k4=P/\c.toNat<P/\y.k3=J.length/\e<=r/\r<(↑J.length:Int)/\y.k3=J.length/\r.toNat<J.length/\y.k3=J.length/\e<=r/\r<(↑J.length:Int)/\y.k3=J.length/\r.toNat<J.length/\y.k4=P/\e<=c/\c<(↑P:Int)/\y.k4=P/\c.toNat<P/\(SV.Gz []).bi (SV.Gz [])/\(h (aF::aG::aH::aI::f sF (fL (ju (vL Y) c.toNat (vL U)))::j aA.1::f z aA.2.1::f z aA.2.2::aJ) 261 10 false).bi (h [a E.n,a E.m,g 1 E.k0 1,g 2 E.k1 3,f sF E.cost,j E.v.1,f z E.v.2.1,f z E.v.2.2,g 3 E.k3 1,g 4 E.k4 1] 261 10 false)/\(d sF.Ap (a1.set r.toNat U) 106 false).bi (d sF.Ap E.VK 106 false)/\(d sF (a2.set r.toNat W) 177 false).bi (d sF E.bound 177 false)/\(d C (J.set r.toNat (bN y.free c.toNat e)) 3 false).bi (d C E.basic 3 false)/\(d C (y.free.set c.toNat (bN J r.toNat e)) 3 false).bi (d C E.free 3 false)/\True))) (by kernel_rfl) ?_;conv=>zeta
 try simp only[qi]
 try simp only[FV]
 try simp only[vcs]
 obtain⟨⟨⟨n0,n1⟩,m0,m1⟩,hw,hz⟩:=id hok;have hkl:=hw.VK;have hbl:=hw.bound;have hbb:=hw.basic;have hfl:=hw.free;have hcl:=hw.cost;have hfm:=@Fb t.VK;have hfb:=@ez t.bound;have hrl:=hw.row r.toNat (by omega);have hcast:∀k:Nat,((k:Nat):Int).toNat=k:=λk=>γk k;have h1:(κ 1:Rat)=1:=rfl;have hR:bN (fM t.VK) r.toNat sF.Ap.bw=fL (bN t.VK r.toNat []):=Fa (by omega);have hA:bN (fL (bN t.VK r.toNat [])) c.toNat sF.bw=nf (t.cf r.toNat c.toNat):=iD (by omega);have hB:bN (fL t.bound) r.toNat sF.bw=nf (t.bd r.toNat):=iD (by omega);simp only[hR,hA,hB,iO,dJ,hcast,h1];have hsA:=hok.cf (i:=r.toNat) (j:=c.toNat) (by omega) (by omega);have hsB:=hok.bd (i:=r.toNat) (by omega);have s1:Sz 1 (1:Rat):=by unfold Sz;decide
 have hsI:=EG s1 hsA ha;have hsP:=sg hsB hsI;have hfr:=@ez (bN t.VK r.toNat []);have hsl:(mX (bN t.VK r.toNat []) (1 / t.cf r.toNat c.toNat)).length=n.toNat:=by unfold mX;rw[Ξ];exact hrl
 have hfs:=@ez (mX (bN t.VK r.toNat []) (1 / t.cf r.toNat c.toNat));have hrow:∀{x y:List NH},x=y->(iZ.row sF x 177 true).bi (iZ.row sF y 177 true):=by rintro _ _ rfl;rfl
 refine⟨by omega,by omega,r0,by omega,by omega,by omega,c0,by omega,by omega,⟨⟨dc s1 (by omega),dc hsA (by omega)⟩,ha⟩,by omega,by omega,by omega,by omega,by omega,r0,by omega,by omega,by omega,⟨⟨⟨by rw[hfl];rfl,trivial,by omega⟩,rfl,hrow (by rw[vS,hfs,hsl,hfl])⟩,by omega,by omega⟩,?_⟩;rintro j ⟨j0,j1⟩;have hru:=@vT (fL (mX (bN t.VK r.toNat []) (1 / t.cf r.toNat c.toNat))) j.toNat (false,([],[])) (by omega);refine⟨λhj=>?_,λhj=>?_⟩
 ·have hL:bN (fL (bN t.VK r.toNat [])) j.toNat sF.bw=nf (t.cf r.toNat j.toNat):=iD (by omega);have hS:bN (fL (mX (bN t.VK r.toNat []) (1 / t.cf r.toNat c.toNat))) j.toNat (false,([],[]))=nf (t.cf r.toNat j.toNat*(1 / t.cf r.toNat c.toNat)):=by
   rw[iD (by omega),bV (by omega)];unfold mX Tb.cf;rw[δF,bV (l:=bN t.VK r.toNat []) (i:=j.toNat) (by omega)]
  simp only[hL,dJ];refine⟨j0,by omega,by omega,⟨dc (hok.cf (by omega) (by omega)) (by omega),dc hsI (by omega)⟩,by omega,j0,by omega,by omega,by omega,by omega,hrow ?_,by omega,by omega⟩;rw[uM (by omega) hS.symm,show(j+1).toNat=j.toNat+1 by omega]
 ·have hset:(dU (fL (mX (bN t.VK r.toNat []) (1 / t.cf r.toNat c.toNat))) j.toNat (false,([],[]))).set c.toNat (nf (1 / t.cf r.toNat c.toNat))=fL (jQ (bN t.VK r.toNat []) c.toNat):=by
   rw[show j.toNat=(fL (mX (bN t.VK r.toNat []) (1 / t.cf r.toNat c.toNat))).length by omega,vR];exact TF (by omega)
  have hpl:(jQ (bN t.VK r.toNat []) c.toNat).length=n.toNat:=by rw[Lk];exact hrl
  have hfp:=@ez (jQ (bN t.VK r.toNat []) c.toNat);simp only[hset,TE];have aLi:∀q∈jQ (bN t.VK r.toNat []) c.toNat,Sz 10000000 q:=λq hq=>by
   obtain⟨k,hk,rfl⟩:=Γ.1 hq;rw[γD] at hk;split;·exact hsI.mono (by omega)
   ·exact(sg (hok.cf (i:=r.toNat) (j:=k) (by omega) (by omega)) hsI).mono (by omega)
  refine⟨by omega,c0,by omega,by omega,by omega,by omega,r0,by omega,by omega,by omega,⟨dc hsB (by omega),dc hsI (by omega)⟩,by omega,⟨⟨⟨trivial,by omega⟩,rfl,rfl,rfl,rfl,rfl,rfl⟩,by omega,by omega⟩,?_⟩;rintro i ⟨i0,i1⟩;have ekl:(j5 t r.toNat c.toNat i.toNat).VK.length=m.toNat:=by show(gJ _ _ _ _ _).length=_;rw[sD];exact hkl
  have ebl:(j5 t r.toNat c.toNat i.toNat).bound.length=m.toNat:=by show(gJ _ _ _ _ _).length=_;rw[sD];exact hbl
  have efm:=@Fb (j5 t r.toNat c.toNat i.toNat).VK;have efb:=@ez (j5 t r.toNat c.toNat i.toNat).bound;have hfc:=@ez t.cost;have aUw:∀{a b:Tb},a.VK.length=b.VK.length->a.bound.length=b.bound.length->a.cost=b.cost->a.value=b.value->a.basic.length=b.basic.length->a.free.length=b.free.length->
    (iZ.cells [.si .i64 n,.si .i64 m,.ow 1 a.VK.length 1,.ow 2 a.bound.length 3,.row sF (fL a.cost),.sb (nf a.value).1,.row (.i .u32) (nf a.value).2.1,.row (.i .u32) (nf a.value).2.2,.ow 3 a.basic.length 1,.ow 4 a.free.length 1] 261 10 false).bi
    (iZ.cells [.si .i64 n,.si .i64 m,.ow 1 b.VK.length 1,.ow 2 b.bound.length 3,.row sF (fL b.cost),.sb (nf b.value).1,.row (.i .u32) (nf b.value).2.1,.row (.i .u32) (nf b.value).2.2,.ow 3 b.basic.length 1,.ow 4 b.free.length 1] 261 10 false):=λh1 h2 h3 h4 h5 h6=>by
   rw[h1,h2,h3,h4,h5,h6];rfl
  have aLj:∀{x y:List (List NH)},x=y->(iZ.row sF.Ap x 106 false).bi (iZ.row sF.Ap y 106 false):=by rintro _ _ rfl;rfl
  have aLk:∀{x y:List NH},x=y->(iZ.row sF x 177 false).bi (iZ.row sF y 177 false):=by rintro _ _ rfl;rfl
  have aLl:∀{x y:List Int},x=y->(iZ.row (.i .i64) x 3 false).bi (iZ.row (.i .i64) y 3 false):=by rintro _ _ rfl;rfl
  refine⟨λhi=>⟨λhir=>?_,λhir=>?_⟩,λhi=>?_⟩
  ·have hRi:bN (fM (j5 t r.toNat c.toNat i.toNat).VK) i.toNat sF.Ap.bw=fL (bN t.VK i.toNat []):=by
    rw[Fa (by omega)];congr 1;exact Ky (by omega)
   have hBi:bN (fL (j5 t r.toNat c.toNat i.toNat).bound) i.toNat sF.bw=nf (t.bd i.toNat):=by
    rw[iD (by omega)];congr 1;exact Ky (by omega)
   have hli:=hw.row i.toNat (by omega);simp only[hRi,hBi,jP,dJ];refine⟨by omega,i0,by omega,by omega,by omega,by omega,i0,by omega,by omega,by omega,⟨bN t.VK i.toNat [],t.bd i.toNat,jQ (bN t.VK r.toNat []) c.toNat,t.bd r.toNat*(1 / t.cf r.toNat c.toNat),⟨rfl,rfl,rfl,rfl⟩,⟨by omega,by omega⟩,⟨c0,by omega⟩,λq hq=>?_,aLi,(hok.bd (by omega)).mono (by omega),hsP.mono (by omega)⟩,by omega,i0,by omega,by omega,by omega,by omega,i0,by omega,by omega,by omega,by omega,⟨aUw ?_ ?_ rfl rfl rfl rfl,aLj ?_,aLk ?_,rfl,rfl⟩,by omega,by omega⟩;·exact(hz.1 _ (cA (d:=[]) (by omega)) q hq).mono (by omega)
   ·show(gJ _ _ _ _ _).length=(gJ _ _ _ _ _).length;rw[sD,sD]
   ·show(gJ _ _ _ _ _).length=(gJ _ _ _ _ _).length;rw[sD,sD]
   ·rw[Ku,show(i+1).toNat=i.toNat+1 by omega];congr 1;exact Kx (by omega) (by omega)
   ·rw[uL,show(i+1).toNat=i.toNat+1 by omega];congr 1;exact Kx (f:=t.bd) (g:=λk=>t.bd k - t.cf k c.toNat*(t.bd r.toNat*(1 / t.cf r.toNat c.toNat))) (by omega) (by omega)
  ·have e:j5 t r.toNat c.toNat (i+1).toNat=j5 t r.toNat c.toNat i.toNat:=by
    rw[show(i+1).toNat=r.toNat+1 by omega,show i.toNat=r.toNat by omega];unfold j5;rw[Kw,Kw]
   rw[e];refine⟨?_,⟨rfl,rfl,rfl,rfl,rfl⟩,?_,?_⟩<;>omega
  ·have hsC:=hok.cs (j:=c.toNat) (by omega);have hC:bN (fL t.cost) c.toNat sF.bw=nf (t.cs c.toNat):=iD (by omega);have hcc:(j5 t r.toNat c.toNat i.toNat).cost=t.cost:=rfl;have hvv:(j5 t r.toNat c.toNat i.toNat).value=t.value:=rfl;have hff:(j5 t r.toNat c.toNat i.toNat).free=t.free:=rfl;have hbs:(j5 t r.toNat c.toNat i.toNat).basic=t.basic:=rfl;simp only[hC,hcc,hvv,hff,hbs,jP,dJ];refine⟨c0,by omega,by omega,⟨t.cost,t.value,jQ (bN t.VK r.toNat []) c.toNat,t.bd r.toNat*(1 / t.cf r.toNat c.toNat),⟨rfl,rfl,rfl,rfl⟩,⟨by omega,by omega⟩,⟨c0,by omega⟩,λq hq=>(hz.2.2.1 q hq).mono (by omega),aLi,hz.2.2.2.mono (by omega),hsP.mono (by omega)⟩,⟨dc hsC (by omega),dc hsP (by omega)⟩,⟨dc hz.2.2.2 (by omega),dc (sg hsC hsP) (by omega)⟩,
    by omega,r0,by omega,by omega,by omega,by omega,r0,by omega,by omega,by omega,c0,by omega,by omega,r0,by omega,by omega,r0,by omega,by omega,c0,by omega,by omega,?_,aLj ?_,aLk ?_,aLl rfl,aLl rfl⟩
   ·have hpw:=Lj (r:=r.toNat) (c:=c.toNat) hw;rw[ekl,ebl,hbb,hfl,hpw.VK,hpw.bound,hpw.basic,hpw.free];rfl
   ·rw[Ku,show i.toNat=t.VK.length by omega];congr 1;exact Kv (by omega)
   ·rw[uL,show i.toNat=t.bound.length by omega];congr 1;exact Kv (by omega)
def qa (n m:Nat) (t:Tb):Prop:=∃a M G,Small n m M G a/\dq n m a t/\jt m t
theorem Uk {n m:Nat} {t:Tb} (h:qa n m t):ei n m (rZ n m t) t=true:=by
 obtain⟨e,M,G,c,b,a⟩:=h;have d:=Fc b a;unfold rZ;grind
noncomputable def DB:cU:=sd 160 Unit .nil (λn m t _=>qa n.toNat m.toNat t) (λn m t _=> .Gz [.si .i64 (if dI (cr n.toNat m.toNat t) n.toNat<0 then 0 else dI (cr n.toNat m.toNat t) n.toNat),.sb (decide (dI (cr n.toNat m.toNat t) n.toNat<0))]) (λn m t _=>cr n.toNat m.toNat t)
def tS (t:Tb) (s:bE):Tb:=match zT s.o with
 |some x=>x.t
 |none=>t
noncomputable def Uj (n m:Int) (t:Tb):Nat->bJ
 |1=> .inv Tb (λx=>⟨[(0,.ptr 0 0 10)],(FV n m x).fO⟩) (tS t) (λx=>qa n.toNat m.toNat x/\cr n.toNat m.toNat x=cr n.toNat m.toNat t/\ei n.toNat m.toNat (rZ n.toNat m.toNat t) x=true) (λx=>vX n.toNat m.toNat (rZ n.toNat m.toNat t) x) λ_ _=> .look
 |_=> .look
theorem Ui {n m:Int} {t:Tb} (h:qa n.toNat m.toNat t) (e:0<=n/\n<=1000) (f:0<=m/\m<=1000):jJ n m t:=by
 obtain⟨c,M,G,a,b,d⟩:=h;grind[Mg]
theorem Ij:dB Tryz.prog DB:=by
 refine ko (L:=[]) (W:=[E9,E8,r408]) DB (λa=>Uj a.1.n a.1.m a.1.t) (by simpa using⟨Ie,Ic,If⟩) (by simp) ?_;rintro⟨x,u⟩ ⟨n,m,t,hx,hok,hd⟩;simp only at hx hd;subst hx;refine NI (let a:=iZ.row;let b:=γj .i64;let c:=γ1;let d:=γa;let e:=iZ.cells;let f:=(0:Int);let g:=γB;let h:=SV.Gz;let I:=γV 0 0 10;let D:=(FV n m t).n;let E:=(FV n m t).m;let r:=ew.i .u32;let F:=(FV n m t).t;let l:=FV D E F;let o:=ew.i .i64;let k:=D.toNat;let s:=E.toNat;let B:=cr k s F;let G:=rZ k s F;let K:=h [b (if dI B k<f then f else dI B k),g (decide (dI B k<f))];let p:=FV D E B;let L:=e [b p.n,b p.m,c 1 p.k0 1,c 2 p.k1 3,d sF p.cost,g p.v.1,d r p.v.2.1,d r p.v.2.2,c 3 p.k3 1,c 4 p.k4 1] 261 10 false;let M:=a sF.Ap p.VK 106 false;let N:=a sF p.bound 177 false;let O:=a o p.basic 3 false;let P:=a o p.free 3 false;(((I.bi I/\True)/\(e [b D,b E,c 1 (FV n m t).k0 1,c 2 (FV n m t).k1 3,d sF (FV n m t).cost,g (FV n m t).v.1,d r (FV n m t).v.2.1,d r (FV n m t).v.2.2,c 3 (FV n m t).k3 1,c 4 (FV n m t).k4 1] 261 10 false).bi (e [b l.n,b l.m,c 1 l.k0 1,c 2 l.k1 3,d sF l.cost,g l.v.1,d r l.v.2.1,d r l.v.2.2,c 3 l.k3 1,c 4 l.k4 1] 261 10 false)/\(a sF.Ap (FV n m t).VK 106 false).bi (a sF.Ap l.VK 106 false)/\(a sF (FV n m t).bound 177 false).bi (a sF l.bound 177 false)/\(a o (FV n m t).basic 3 false).bi (a o l.basic 3 false)/\(a o (FV n m t).free 3 false).bi (a o l.free 3 false)/\True)/\qa k s F/\B=B/\ei k s G F=true)/\∀(x:Tb),let y:=FV D E x;let z:=dI y.t y.n.toNat;let Q:=decide (z<f);let j:=FV y.n y.m y.t;let H:=dn j.t z.toNat j.m.toNat;let R:=decide (H<f);let C:=FV j.n j.m j.t;let S:=eX C.t H.toNat z.toNat;let A:=FV C.n C.m S;let q:=FV D E A.t;let T:=λ(u u_1:Int) (u_2 u_3:Tb) (u_4:iZ) ↦let J:=FV u u_1 u_2;let U:=FV J.n J.m J.t;let w:=FV U.n U.m u_3;(e [b w.n,b w.m,c 1 w.k0 1,c 2 w.k1 3,d sF w.cost,g w.v.1,d r w.v.2.1,d r w.v.2.2,c 3 w.k3 1,c 4 w.k4 1] 261 10 false).bi u_4;qa k s x/\cr k s x=B/\ei k s G x=true->(∃(n:Int),∃(m:Int),∃(t:Tb),y=FV n m t/\jJ n m t/\True)/\(Q=true->(h [γC .i64 0,δj true]).bi K/\(e [b j.n,b j.m,c 1 j.k0 1,c 2 j.k1 3,d sF j.cost,g j.v.1,d r j.v.2.1,d r j.v.2.2,c 3 j.k3 1,c 4 j.k4 1] 261 10 false).bi L/\(a sF.Ap j.VK 106 false).bi M/\(a sF j.bound 177 false).bi N/\(a o j.basic 3 false).bi O/\(a o j.free 3 false).bi P/\True)/\(Q=false->(∃(n:Int),∃(m:Int),∃(t:Tb),j=FV n m t/\jJ n m t/\f<=z/\z<n)/\(R=true->(h [b z,δj false]).bi K/\T D E x j.t L/\(a sF.Ap C.VK 106 false).bi M/\(a sF C.bound 177 false).bi N/\(a o C.basic 3 false).bi O/\(a o C.free 3 false).bi P/\True)/\(R=false->(∃(n:Int),∃(m:Int),∃(t:Tb),C=FV n m t/\jJ n m t/\(f<=H/\H<m)/\(f<=z/\z<n)/\t.cf H.toNat z.toNat≠(0:Rat))/\0=0/\((I.bi I/\True)/\T y.n y.m y.t S (e [b q.n,b q.m,c 1 q.k0 1,c 2 q.k1 3,d sF q.cost,g q.v.1,d r q.v.2.1,d r q.v.2.2,c 3 q.k3 1,c 4 q.k4 1] 261 10 false)/\(a sF.Ap A.VK 106 false).bi (a sF.Ap q.VK 106 false)/\(a sF A.bound 177 false).bi (a sF q.bound 177 false)/\(a o A.basic 3 false).bi (a o q.basic 3 false)/\(a o A.free 3 false).bi (a o q.free 3 false)/\True)/\(qa k s A.t/\cr k s A.t=B/\ei k s G A.t=true)/\vX k s G A.t<vX k s G x))) (by kernel_rfl) ?_;simp only[TV,qi,LD,LC];try simp only[vcs]
 obtain⟨⟨hn,hm⟩,hw,hz⟩:=id hok;refine⟨⟨hd,Uk hd⟩,?_⟩;rintro x ⟨hx,hl,he⟩;have azQ:=Ui hx hn hm;have hs:stepT n.toNat m.toNat x=if dI x n.toNat<0 then none else if dn x (dI x n.toNat).toNat m.toNat<0 then none else some (eX x (dn x (dI x n.toNat).toNat m.toNat).toNat (dI x n.toNat).toNat):=rfl;have hwx:=azQ.2.1;have fin:∀{y:Tb},y=cr n.toNat m.toNat t->FV n m y=FV n m (cr n.toNat m.toNat t):=by rintro _ rfl;rfl
 refine⟨⟨n,m,x,rfl,azQ⟩,λh0=>?_,λh0=>?_⟩
 ·rw[if_pos h0] at hs;have e:=Ma hs;rw[hl] at e;rw[<-e] at h0 ⊢;rw[if_pos h0,decide_eq_true h0];exact⟨⟨rfl,rfl⟩,rfl,rfl,rfl,rfl,rfl⟩
 ·have h0':¬dI x n.toNat<0:=h0;rw[if_neg h0'] at hs;rcases @sf x n.toNat with⟨e1,e2⟩|⟨c,e1,e2,e3,e4⟩;·omega
  ·refine⟨⟨n,m,x,rfl,azQ,by omega,by omega⟩,λh1=>?_,λh1=>?_⟩
   ·rw[if_pos h1] at hs;have e:=Ma hs;rw[hl] at e;rw[e,if_neg h0',decide_eq_false h0'];exact⟨⟨rfl,rfl⟩,rfl,rfl,rfl,rfl,rfl⟩
   ·have h1':¬dn x (dI x n.toNat).toNat m.toNat<0:=h1;rw[if_neg h1'] at hs;rcases @sG x (dI x n.toNat).toNat m.toNat with⟨l1,l2⟩|⟨r,l1,l2,l3,l4⟩;·omega
    ·refine⟨⟨n,m,x,rfl,azQ,⟨by omega,by omega⟩,⟨by omega,by omega⟩,?_⟩,?_⟩;·rw[l1,γk];grind
     ·obtain⟨t0,M,G,g1,g2,g3⟩:=hx;have hsr:=EF g2 g3 hs;have aUD:=Fc g2 g3;refine⟨⟨⟨t0,M,G,g1,hsr.1,hsr.2⟩,?_,LF he hs⟩,nE he hs⟩;rw[TK aUD hs,hl]
def fk (t:Tb) (n:Nat):Nat->List Rat
 |0=>δ n 0
 |k+1=>if t.bv k<n then(fk t n k).set (t.bv k).toNat (t.bd k) else fk t n k
def ix (t:Tb) (n m:Nat):Nat->List Rat
 |0=>δ m 0
 |k+1=>if(n:Int)<=t.fv k/\t.fv k<n+m then(ix t n m k).set (t.fv k - n).toNat (-(t.cs k)) else ix t n m k
theorem zM {t:Tb} {n:Nat}:∀{k:Nat},(fk t n k).length=n
 |0=>by simp[fk];|k+1=>by
  have:=@zM t n k;grind[fk]
theorem zL {t:Tb} {n m:Nat}:∀{k:Nat},(ix t n m k).length=m
 |0=>by simp[ix];|k+1=>by
  have:=@zL t n m k;grind[ix]
def zK:cU:=sd 161 Unit .nil (λ_ _ t _=>∀v∈t.basic,0<=v) (λn m t _=> .row sF (fL (fk t n.toNat m.toNat))) (λ_ _ t _=>t)
def Uh (n m:Int) (t:Tb):Nat->bJ
 |3=> .inv Int (λi=>⟨[(0,.ptr 0 0 10),(3,.ow 5 n.toNat 3),(14,.ow 3 t.basic.length 1),(15,.si .i64 t.basic.length),(16,.si .i64 i)],(FV n m t).fO++[.row sF (fL (fk t n.toNat i.toNat)) 177 false]⟩)
   (λs=>iS s 16) (λi=>0<=i/\i<=m) (λi=>(m - i).toNat) λ_ _=> .look
 |_=> .look
theorem Ii:dB Tryz.prog zK:=by
 refine ko (L:=[]) (W:=[r413]) zK (λa=>Uh a.1.n a.1.m a.1.t) (by simpa using yN) (by simp) ?_;rintro⟨x,u⟩ ⟨n,m,t,hx,hok,hd⟩;simp only at hx hd;subst hx;refine NI (let a:=iZ.row;let b:=γj .i64;let c:=(0:Int);let d:=γa;let e:=γ1;let p:=(FV n m t).n;let B:=γV 0 0 10;let g:=p.toNat;let C:=e 5 g 3;let J:=e 3 (FV n m t).k3 1;let k:=(FV n m t).t;let q:=k.basic.length;let G:=e 3 q 1;let H:=b (↑q:Int);let h:=(FV n m t).m;let D:=ew.i .u32;let f:=FV p h k;let r:=iZ.cells [b f.n,b f.m,e 1 f.k0 1,e 2 f.k1 3,d sF f.cost,γB f.v.1,d D f.v.2.1,d D f.v.2.2,e 3 f.k3 1,e 4 f.k4 1] 261 10 false;let s:=a sF.Ap f.VK 106 false;let w:=a sF f.bound 177 false;let E:=ew.i .i64;let l:=f.basic;let y:=a E l 3 false;let z:=a E f.free 3 false;let F:=f.bound.length;(c<=p/\p<=(1000:Int))/\(((B.bi B/\C.bi C/\J.bi G/\(b (↑(FV n m t).k3:Int)).bi H/\(γC .i64 0).bi (b 0)/\True)/\(iZ.cells [b p,b h,e 1 (FV n m t).k0 1,e 2 (FV n m t).k1 3,d sF (FV n m t).cost,γB (FV n m t).v.1,d D (FV n m t).v.2.1,d D (FV n m t).v.2.2,J,e 4 (FV n m t).k4 1] 261 10 false).bi r/\(a sF.Ap (FV n m t).VK 106 false).bi s/\(a sF (FV n m t).bound 177 false).bi w/\(a E (FV n m t).basic 3 false).bi y/\(a E (FV n m t).free 3 false).bi z/\(a sF (fL (δ g (0:Rat))) 177 false).bi (a sF (fL (fk k g 0)) 177 false)/\True)/\c<=c/\c<=h)/\∀(x:Int),let o:=x+(1:Int);let K:=b o;let L:=decide (x<(↑q:Int));let A:=bN l x.toNat c;let M:=decide (A<f.n);let j:=fL (fk k g x.toNat);let I:=bN f.bound x.toNat sF.bw;let N:=λ(u:iZ) ↦VL .i64 o/\((B.bi B/\C.bi C/\G.bi G/\H.bi H/\K.bi K/\True)/\r.bi r/\s.bi s/\w.bi w/\y.bi y/\z.bi z/\u.bi (a sF (fL (fk k g o.toNat)) 177 false)/\True)/\(c<=o/\o<=h)/\(h - o).toNat<(h - x).toNat;c<=x/\x<=h->(L=true->q=l.length/\c<=x/\x<(↑l.length:Int)/\q=l.length/\x.toNat<l.length/\(M=true->f.k1=F/\c<=x/\x<(↑F:Int)/\f.k1=F/\x.toNat<F/\g=j.length/\c<=A/\A<(↑j.length:Int)/\g=j.length/\A.toNat<j.length/\N (a sF (j.set A.toNat (I.1,I.2.1,I.2.2)) 177 false))/\(M=false->N (a sF j 177 false)))/\(L=false->g=j.length/\(d sF j).bi (d sF (fL (fk k g h.toNat)))/\r.bi r/\s.bi s/\w.bi w/\y.bi y/\z.bi z/\True)) (by kernel_rfl) ?_;simp only[qi];try simp only[FV]
 simp only[vcs];obtain⟨⟨⟨n0,n1⟩,m0,m1⟩,hw,hz⟩:=id hok;have hbb:=hw.basic;have hbl:=hw.bound;have hfb:=@ez t.bound;have hbv:∀k:Nat,bN t.basic k 0=t.bv k:=λk=>rfl;have hrow:∀{x y:List NH},x=y->(iZ.row sF x 177 false).bi (iZ.row sF y 177 false):=by rintro _ _ rfl;rfl
 refine⟨⟨n0,n1⟩,⟨hrow rfl,by omega,by omega⟩,?_⟩;rintro i ⟨i0,i1⟩;have hpl:=@zM t n.toNat i.toNat;have hfp:=@ez (fk t n.toNat i.toNat);refine⟨λhi=>?_,λhi=>⟨by omega,by rw[show i.toNat=m.toNat by omega]⟩⟩;have hv:=hd _ (w9 hw (show i.toNat<m.toNat by omega));have hB:bN (fL t.bound) i.toNat sF.bw=nf (t.bd i.toNat):=iD (by omega);have hs:fk t n.toNat (i+1).toNat=if t.bv i.toNat<n.toNat then(fk t n.toNat i.toNat).set (t.bv i.toNat).toNat (t.bd i.toNat) else fk t n.toNat i.toNat:=by
  rw[show(i+1).toNat=i.toNat+1 by omega];rfl
 simp only[hbv,hB,iO,hs];refine⟨i0,hi,by omega,λhlt=>⟨by omega,i0,by omega,by omega,by omega,by omega,hv,by omega,by omega,by omega,by omega,hrow ?_,by omega,by omega⟩,λhlt=>⟨by omega,hrow ?_,by omega,by omega⟩⟩;·rw[uL,if_pos (by omega)]
 ·rw[if_neg (by omega)]
def zJ:cU:=sd 163 Unit .nil (λ_ _ t _=>True) (λn m t _=> .row sF (fL (ix t n.toNat m.toNat n.toNat))) (λ_ _ t _=>t)
def Ug (n m:Int) (t:Tb):Nat->bJ
 |3=> .inv Int (λi=>⟨[(0,.ptr 0 0 10),(3,.ow 5 m.toNat 3),(14,.ow 4 t.free.length 1),(15,.si .i64 t.free.length),(16,.si .i64 i)],(FV n m t).fO++[.row sF (fL (ix t n.toNat m.toNat i.toNat)) 177 false]⟩)
   (λs=>iS s 16) (λi=>0<=i/\i<=n) (λi=>(n - i).toNat) λ_ _=> .look
 |_=> .look
theorem Ih:dB Tryz.prog zJ:=by
 refine ko (L:=[vY]) (W:=[r413]) zJ (λa=>Ug a.1.n a.1.m a.1.t) (by simpa using yN) (by simpa using qW) ?_;rintro⟨x,u⟩ ⟨n,m,t,hx,hok,hd⟩;simp only at hx hd;subst hx;refine NI (let a:=iZ.row;let b:=γj .i64;let c:=(0:Int);let d:=γa;let e:=γ1;let f:=VL .i64;let A:=(FV n m t).m;let u:=γV 0 0 10;let k:=A.toNat;let w:=e 5 k 3;let M:=e 4 (FV n m t).k4 1;let y:=(FV n m t).t;let B:=y.free.length;let C:=e 4 B 1;let D:=b (↑B:Int);let h:=(FV n m t).n;let G:=ew.i .u32;let g:=FV h A y;let o:=iZ.cells [b g.n,b g.m,e 1 g.k0 1,e 2 g.k1 3,d sF g.cost,γB g.v.1,d G g.v.2.1,d G g.v.2.2,e 3 g.k3 1,e 4 g.k4 1] 261 10 false;let p:=a sF.Ap g.VK 106 false;let q:=a sF g.bound 177 false;let H:=ew.i .i64;let r:=a H g.basic 3 false;let z:=g.free;let s:=a H z 3 false;let E:=h.toNat;(c<=A/\A<=(1000:Int))/\(((u.bi u/\w.bi w/\M.bi C/\(b (↑(FV n m t).k4:Int)).bi D/\(γC .i64 0).bi (b 0)/\True)/\(iZ.cells [b h,b A,e 1 (FV n m t).k0 1,e 2 (FV n m t).k1 3,d sF (FV n m t).cost,γB (FV n m t).v.1,d G (FV n m t).v.2.1,d G (FV n m t).v.2.2,e 3 (FV n m t).k3 1,M] 261 10 false).bi o/\(a sF.Ap (FV n m t).VK 106 false).bi p/\(a sF (FV n m t).bound 177 false).bi q/\(a H (FV n m t).basic 3 false).bi r/\(a H (FV n m t).free 3 false).bi s/\(a sF (fL (δ k (0:Rat))) 177 false).bi (a sF (fL (ix y E k 0)) 177 false)/\True)/\c<=c/\c<=h)/\∀(x:Int),let j:=x+(1:Int);let I:=b j;let l:=fL (ix y E k x.toNat);let N:=a sF (fL (ix y E k j.toNat)) 177 false;let O:=decide (x<(↑B:Int));let J:=bN z x.toNat c;let P:=decide (g.n<=J);let Q:=decide (J<g.n+g.m);let F:=J - g.n;let K:=bN g.cost x.toNat sF.bw;let L:=(K.1,K.2.1,K.2.2);let R:=(nf (-TL L)).2;let S:=f j/\((u.bi u/\w.bi w/\C.bi C/\D.bi D/\I.bi I/\True)/\o.bi o/\p.bi p/\q.bi q/\r.bi r/\s.bi s/\(a sF l 177 false).bi N/\True)/\(c<=j/\j<=h)/\(h - j).toNat<(h - x).toNat;c<=x/\x<=h->(O=true->B=z.length/\c<=x/\x<(↑z.length:Int)/\B=z.length/\x.toNat<z.length/\(P=true->f (g.n+g.m)/\(Q=true->f F/\c<=x/\x<(↑g.cost.length:Int)/\x.toNat<g.cost.length/\bL L/\k=l.length/\c<=F/\F<(↑l.length:Int)/\k=l.length/\F.toNat<l.length/\f j/\((u.bi u/\w.bi w/\C.bi C/\D.bi D/\I.bi I/\True)/\o.bi o/\p.bi p/\q.bi q/\r.bi r/\s.bi s/\(a sF (l.set F.toNat ((nf (-TL L)).1,R.1,R.2)) 177 false).bi N/\True)/\(c<=j/\j<=h)/\(h - j).toNat<(h - x).toNat)/\(Q=false->S))/\(P=false->S))/\(O=false->k=l.length/\(d sF l).bi (d sF (fL (ix y E k E)))/\o.bi o/\p.bi p/\q.bi q/\r.bi r/\s.bi s/\True)) (by kernel_rfl) ?_;simp only[qi];try simp only[FV]
 simp only[vcs];obtain⟨⟨⟨n0,n1⟩,m0,m1⟩,hw,hz⟩:=id hok;have hfl:=hw.free;have hcl:=hw.cost;have hfc:=@ez t.cost;have hfv:∀k:Nat,bN t.free k 0=t.fv k:=λk=>rfl;have hrow:∀{x y:List NH},x=y->(iZ.row sF x 177 false).bi (iZ.row sF y 177 false):=by rintro _ _ rfl;rfl
 refine⟨⟨m0,m1⟩,⟨hrow rfl,by omega,by omega⟩,?_⟩;rintro i ⟨i0,i1⟩;have hpl:=@zL t n.toNat m.toNat i.toNat;have hfp:=@ez (ix t n.toNat m.toNat i.toNat);refine⟨λhi=>?_,λhi=>⟨by omega,by rw[show i.toNat=n.toNat by omega]⟩⟩;have hC:bN (fL t.cost) i.toNat sF.bw=nf (t.cs i.toNat):=iD (by omega);have hs:ix t n.toNat m.toNat (i+1).toNat=if(n.toNat:Int)<=t.fv i.toNat/\t.fv i.toNat<n.toNat+m.toNat then(ix t n.toNat m.toNat i.toNat).set (t.fv i.toNat - n.toNat).toNat (-(t.cs i.toNat)) else ix t n.toNat m.toNat i.toNat:=by
  rw[show(i+1).toNat=i.toNat+1 by omega];rfl
 simp only[hfv,hC,iO,hs,dJ];refine⟨i0,hi,by omega,λh1=>⟨by omega,λh2=>⟨by omega,i0,by omega,by omega,dc (hok.cs (by omega)) (by omega),by omega,by omega,by omega,by omega,by omega,by omega,hrow ?_,by omega,by omega⟩,λh2=>⟨by omega,hrow ?_,by omega,by omega⟩⟩,λh1=>⟨by omega,hrow ?_,by omega,by omega⟩⟩;·rw[uL,if_pos (by omega),show(n.toNat:Int)=n by omega]
 ·rw[if_neg (by omega)]
 ·rw[if_neg (by omega)]
@[reducible] def sR:ew:=.pair (.Ap sF) sF
abbrev qO:=List NH×List (List NH×NH)
def uK:o8 qO where
 put a:=.agg [.row sF a.1,.row sR a.2];dec
  | .agg [r,v]=>match iH sF r,iH sR v with
   |some c,some v=>some (c,v)
   |_,_=>none
  |_=>none;ok v a h:=by
  grind[SV.g,gL,nl]
 inj a b h:=by
  obtain⟨c,v⟩:=a;obtain⟨f,i⟩:=b;simp only[SV.g,gL,AV.agg.injEq,Θ,and_true,δ7] at h;have e:=kq sF h.1.1 h.1.2;have d:=kq sR h.2.1 h.2.2;rw[e,d]
def gI (x:NH):Prop:=(ou x.2.1/\ou x.2.2)/\x.2.1.length<=10000000/\x.2.2.length<=10000000
def DA:NG:=⟨175,List NH,.one (cO sF),λl=>(show List NH from l).length<=1000/\∀x∈(show List NH from l),gI x,λl=> .sb ((show List NH from l).all okF)⟩
def Uf (l:List NH):Nat->bJ
 |2=> .inv Int (λi=>⟨[(5,.row sF l),(6,.si .i64 l.length),(7,.si .i64 i)],[]⟩)
   (λs=>iS s 7) (λi=>(0<=i/\i<=l.length)/\(l.take i.toNat).all okF=true) (λi=>(l.length - i).toNat) λ_ _=> .look
 |_=> .look
theorem Ig:Holds Tryz.prog DA:=by
 refine bM (L:=[sh]) DA Uf (by grind[nD]) ?_;rintro(l:List NH) ⟨(q:l.length<=1000),(n:∀x∈l,gI x)⟩;refine NI (let d:=(0:Int);let e:=γj .i64;let g:=γa;let a:=(↑l.length:Int);let f:=e a;((((g sF l).bi (g sF l)/\(e (↑l.length:Int)).bi f/\(γC .i64 0).bi (e 0)/\True)/\True)/\(d<=d/\d<=a)/\true=true)/\∀(x:Int),let b:=bN l x.toNat sF.bw;let c:=x+(1:Int);let k:=e c;let m:=λ(u:Bool) ↦(!okF (b.1,b.2.1,b.2.2))=u;(d<=x/\x<=a)/\(Δ x.toNat l).all okF=true->(decide (x<a)=true->d<=x/\x<(↑l.length:Int)/\x.toNat<l.length/\((ou b.2.1/\ou b.2.2)/\γd b.2.1<=10000000/\γd b.2.2<=10000000)/\(m true->(δj false).bi (γB (l.all okF)))/\(m false->VL .i64 c/\(((g sF l).bi (g sF l)/\f.bi f/\k.bi k/\True)/\True)/\((d<=c/\c<=a)/\(Δ c.toNat l).all okF=true)/\(a - c).toNat<(a - x).toNat))/\(decide (x<a)=false->(δj true).bi (γB (l.all okF)))) (by kernel_rfl) ?_;simp only[vcs];refine⟨⟨by omega,by omega⟩,?_⟩;rintro i ⟨⟨j,t⟩,e⟩;refine⟨λh=>?_,λh=>?_⟩
 ·have p:=cA (d:=sF.bw) (show i.toNat<l.length by omega);have r:=ji (d:=sF.bw) j h;have g:=n _ p;have o:okF ((bN l i.toNat sF.bw).1,(bN l i.toNat sF.bw).2.1,(bN l i.toNat sF.bw).2.2)=okF (bN l i.toNat sF.bw):=rfl;rw[o];refine⟨j,h,by omega,⟨g.1,g.2.1,g.2.2⟩,λs=>?_,λv=>⟨by omega,⟨⟨by omega,by omega⟩,?_⟩,by omega⟩⟩;all_goals grind
 ·rw[show i.toNat=l.length by omega,List.take_length] at e;simp_all
def Dz:NG:=⟨156,qO,.one uK,λa=>(a.1.length<=160/\a.2.length<=40)/\(∀x∈a.1,gI x/\okF x=true)/\∀r∈a.2,r.1.length=a.1.length/\(∀x∈r.1,gI x/\okF x=true)/\gI r.2/\okF r.2=true,λ_=> .si .i64 0⟩
def Ue (a:qO):Nat->bJ
 |6=> .inv Int (λi=>⟨[(1,.ptr 0 0 2),(20,.row sR a.2),(21,.si .i64 a.2.length),(22,.si .i64 i)],[.cells [.row sF a.1,.row sR a.2] 217 2 false]⟩)
   (λs=>iS s 22) (λi=>0<=i/\i<=a.2.length) (λi=>(a.2.length - i).toNat) λ_ _=> .look
 |_=> .look
theorem Io:Holds Tryz.prog Dz:=by
 refine bM (L:=[DA,sh]) Dz Ue (by simpa using⟨Ig,nD⟩) ?_;rintro⟨g,rs⟩ ⟨⟨hl1,hl2⟩,hg,hr⟩;simp only at hl1 hl2 hg hr;refine NI (let a:=γC .i64;let b:=(0:Int);let c:=γj .i64;let d:=γC .i64 0;let q:=decide ((160:Int)<(↑g.length:Int));let e:=c 0;let m:=(↑rs.length:Int);let r:=decide ((40:Int)<m);let k:=γV 0 0 2;let i:=γa sR rs;let f:=(↑rs.length:Int);let n:=c f;let l:=iZ.cells [γa sF g,i] 217 2 false;(q=true->(a 3).bi e)/\(q=false->(r=true->(a 3).bi e)/\(r=false->(g.length<=1000/\∀(x:NH),x∈g->gI x)/\((!g.all okF)=true->(a 2).bi e)/\((!g.all okF)=false->(((k.bi k/\i.bi i/\(c m).bi n/\(a 0).bi e/\True)/\l.bi l/\True)/\b<=b/\b<=f)/\∀(x:Int),let h:=bN rs x.toNat sR.bw;let o:=h.2.2.1;let p:=h.2.2.2;let s:=!List.all h.1 okF;let j:=x+(1:Int);let t:=c j;let v:=λ(u:Bool) ↦(!okF (h.2.1,o,p))=u;let w:=λ(u:Bool) ↦decide ((↑(γd h.1):Int)≠(↑g.length:Int))=u;b<=x/\x<=f->(decide (x<f)=true->b<=x/\x<m/\x.toNat<rs.length/\(w true->(a 2).bi e)/\(w false->(γd h.1<=1000/\∀(x:NH),x∈h.1->gI x)/\(s=true->(a 2).bi e)/\(s=false->((ou o/\ou p)/\γd o<=10000000/\γd p<=10000000)/\(v true->(a 2).bi e)/\(v false->VL .i64 j/\((k.bi k/\i.bi i/\n.bi n/\t.bi t/\True)/\l.bi l/\True)/\(b<=j/\j<=f)/\(f - j).toNat<(f - x).toNat))))/\(decide (x<f)=false->(a 0).bi e))))) (by kernel_rfl) ?_;simp only[vcs];have hall:∀{l:List NH},(∀x∈l,gI x/\okF x=true)->l.all okF=true:=λh=>ψ.2 λx hx=>(h x hx).2;refine⟨λh=>by omega,λ_=>⟨λh=>by omega,λ_=>⟨⟨by omega,λx hx=>(hg x hx).1⟩,λh=>(by rw[hall hg] at h;cases h),λ_=>⟨⟨by omega,by omega⟩,?_⟩⟩⟩⟩;rintro i ⟨i0,i1⟩;refine⟨λhi=>?_,λ_=>trivial⟩;have hm:=hr _ (cA (d:=sR.bw) (show i.toNat<rs.length by omega));have h2:okF ((bN rs i.toNat sR.bw).2.1,(bN rs i.toNat sR.bw).2.2.1,(bN rs i.toNat sR.bw).2.2.2)=okF (bN rs i.toNat sR.bw).2:=rfl;rw[h2];refine⟨i0,hi,by omega,λh=>absurd (by rw[hm.1]) h,λ_=>⟨⟨by have:=hm.1;omega,λx hx=>(hm.2.1 x hx).1⟩,λh=>?_,λ_=>⟨⟨hm.2.2.1.1,hm.2.2.1.2.1,hm.2.2.1.2.2⟩,λh=>?_,λ_=>⟨by omega,⟨by omega,by omega⟩,by omega⟩⟩⟩⟩
 ·have:=hall hm.2.1;rw[show List.all (bN rs i.toNat sR.bw).1 okF=true from this] at h;cases h
 ·rw[hm.2.2.2] at h;cases h
end Go.Vi
