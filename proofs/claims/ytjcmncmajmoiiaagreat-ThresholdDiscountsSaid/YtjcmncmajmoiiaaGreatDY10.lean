/-
  Contracts: fractions: Neg, Cmp, Add, Sub.
  Conditions: none.
-/
import Derived.Test.YtjcmncmajmoiiaaGreatDY06
import Derived.Test.YtjcmncmajmoiiaaGreatDY08
import Derived.Test.YtjcmncmajmoiiaaGreatDY09
import Derived.Test.YtjcmncmajmoiiaaGreatDY04
import Derived.Test.YtjcmncmajmoiiaaGreatDY07
set_option maxRecDepth 100000
set_option maxHeartbeats 4000000
set_option linter.all false
open And renaming intro->γi
open Classical renaming byContradiction->δ1
open Go.Vi.AV.os renaming injEq->εP
open Go.Vi.AV.sc renaming injEq->γX
open Go.Vi.SV renaming agg->γG,row->Ψ,sb->γI,si->Ξ,il->γr,ptr->γV
open Int renaming le_of_lt->γl,mul_lt_mul_of_pos_right->γ0,mul_nonneg->γD,mul_pos->εA,mul_neg_of_neg_of_pos->εw,natAbs_mul->εv,toNat_of_nonneg->εB,toNat_natCast->γt
open List renaming length->γn,eq_nil_of_length_eq_zero->ψ,foldr_cons->ε6,foldr->ζX,length_cons->γy,map_cons->ι,set_eq_take_append_cons_drop->εJ,getElem_cons_drop->ζw,take_append_drop->γc,drop_drop->γW,range->τ,cons_append->γE,nodup_append->γz,ext_getElem->δi,length_map->γB,mem_map->γg,getElem_of_mem->δc,mem_append->Γ,length_append->ν,map_map->δx,map_congr_left->γ2,map_nil->γp,pairwise_append->γY,length_set->γe,drop->γ7
open List.Perm renaming refl->ζE
open List.cons renaming injEq->π
open Option.some renaming injEq->γ
open Prod renaming ext->εb
open Rat renaming mkRat_self->δ0,mkRat_eq_div->δJ,intCast_natCast->ε5,not_le->ζN,mul_nonneg->δC
namespace Go.Vi
open Go.Proofs.YtjcmncmajmoiiaaGreat.Ir
open Go.Proofs
theorem Ef {p q:Rat} (h:p=q):(γG [.sb (bu p).1,.row (.i .u32) (bu p).2.1,.row (.i .u32) (bu p).2.2]).same (.agg [.sb (bu q).1,.row (.i .u32) (bu q).2.1,.row (.i .u32) (bu q).2.2]):=by subst h;rfl
theorem v7 (q:Rat):q.num=if decide (q<0) then -(q.num.natAbs:Int) else(q.num.natAbs:Int):=by
 have a:=@Rat.num_nonneg q;grind
theorem nG (q:Rat):(bu q).1=decide (q<0)/\(bA (bu q).2.1/\fF (bu q).2.1/\bk (bu q).2.1=(q.num.natAbs:Int))/\(bA (bu q).2.2/\fF (bu q).2.2/\bk (bu q).2.2=(q.den:Int)):=by
 obtain⟨f,e,d⟩:=gk (show(0:Int)<=(q.num.natAbs:Int) by omega);obtain⟨b,c,a⟩:=gk (show(0:Int)<=(q.den:Int) by omega);exact⟨rfl,⟨e,d,f⟩,⟨c,a,b⟩⟩
theorem qX {q:Rat} {k:Nat} (h:Sz k q):(bu q).2.1.length<=k/\(bu q).2.2.length<=k:=
 ⟨mP (by omega) h.1,mP (by omega) h.2⟩
theorem acB (q:Rat):fH (!decide (q<0)) (q.num.natAbs:Int) (q.den:Int)= -q:=by
 unfold fH;have h:=v7 q;have e:(if(!decide (q<0))=true then -(q.num.natAbs:Int) else(q.num.natAbs:Int))= -q.num:=by
  grind
 grind[δ0,Rat.neg_mkRat]
def yn:bL:=⟨164,bP,.one (eG sF),de,λx=>qV (-(ck x))⟩
theorem h130:Holds Tryz.prog yn:=by
 refine cG (L:=[ym]) yn lk (by grind[h126]) ?_;intro(x:bP) h;obtain⟨q,k,rfl,f,g⟩:de x:=h;refine bO (let f:=Ψ;let c:=(bu q).snd.fst;let a:=(bu q).snd.snd;let d:=bu (fH (!(bu q).fst) (bk c) (bk a));let b:=bn.i .u32;let e:=(bu (-ck (bu q))).snd;((bA c/\bA a)/\(γn c<=1000000000/\γn a<=1000000000)/\(0:Int)<bk a)/\(γG [γI d.fst,f b d.snd.fst,f b d.snd.snd]).same (γG [γI (bu (-ck (bu q))).fst,f b e.fst,f b e.snd])) (by kernel_rfl) ?_;conv=>zeta
 obtain⟨s,⟨r,p,u⟩,⟨o,l,n⟩⟩:=nG q;obtain⟨j,m⟩:=qX f;have t:=q.den_pos;grind[Ef,fa,acB]
theorem qY {a b:Int} {i j:Nat} (e:0<=a) (c:a<4294967296^i) (d:b<4294967296^j):a*b<4294967296^(i+j):=by
 rw[Int.pow_add];exact Int.lt_of_le_of_lt (Int.mul_le_mul_of_nonneg_left (γl d) e) (γ0 c (pow_pos _))
theorem SH {p q:Rat} {i j:Nat} (c:Sz i p) (b:Sz j q):∃X Y D:Int,bk (bu p).2.1*bk (bu q).2.2=X/\bk (bu q).2.1*bk (bu p).2.2=Y/\bk (bu p).2.2*bk (bu q).2.2=D/\0<=X/\0<=Y/\0<D/\
  (cF X).length<=i+j/\(cF Y).length<=i+j/\(cF (X+Y)).length<=i+j+1/\(cF (X - Y)).length<=i+j/\(cF (Y - X)).length<=i+j/\(cF D).length<=i+j/\p.num*q.den=(if decide (p<0) then -X else X)/\q.num*p.den=(if decide (q<0) then -Y else Y)/\((p.den*q.den:Nat):Int)=D:=by
 obtain⟨_,⟨_,_,l⟩,⟨_,_,r⟩⟩:=nG p;obtain⟨_,⟨_,_,n⟩,⟨_,_,m⟩⟩:=nG q;rw[l,r,n,m];have s:=p.den_pos;have t:=q.den_pos;have k:=qY (a:=(p.num.natAbs:Int)) (by omega) c.1 b.2;have d:=qY (a:=(q.num.natAbs:Int)) (by omega) b.1 c.2;rw[Nat.add_comm j i] at d;have o:=qY (a:=(p.den:Int)) (by omega) c.2 b.2;have f:0<=(p.num.natAbs:Int)*q.den:=γD (by omega) (by omega);have e:0<=(q.num.natAbs:Int)*p.den:=γD (by omega) (by omega);have g:0<(p.den:Int)*q.den:=εA (by omega) (by omega);have v:=v7 p;have u:=v7 q;refine⟨_,_,_,rfl,rfl,rfl,f,e,g,mP f k,mP e d,mP (by omega) ?_,?_,?_,mP (by omega) o,?_,?_,by push_cast;rfl⟩;·omega
 ·by_cases h:(p.num.natAbs:Int)*q.den - (q.num.natAbs:Int)*p.den<=0;·grind[JJ]
  ·exact mP (by omega) (by omega)
 ·by_cases h:(q.num.natAbs:Int)*p.den - (p.num.natAbs:Int)*q.den<=0;·grind[JJ]
  ·exact mP (by omega) (by omega)
 all_goals grind
theorem acC {p q:Rat} {s:Bool} {n D:Int} (a:((p.den*q.den:Nat):Int)=D) (h:p.num*q.den+q.num*p.den=if s then -n else n):fH s n D=p+q:=by
 rw[SE];grind[fH]
theorem Eg {p:Rat} {k:Nat} (h:Sz k p) (c:k<=100000000):vZ (bu p):=by
 obtain⟨_,⟨a,_,_⟩,⟨b,_,_⟩⟩:=nG p;have:=qX h;exact⟨⟨a,b⟩,by omega,by omega⟩
def jc (p q:Rat):Int:=if p<q then -1 else if q<p then 1 else 0
def Aw:bL:=⟨117,bP×bP,.cons (eG sF) (.one (eG sF)),λa=>de a.1/\de a.2,λa=> .si .i64 (jc (ck a.1) (ck a.2))⟩
theorem h97:Holds Tryz.prog Aw:=by
 refine cG (L:=[Ee,yf]) Aw lk (by grind[h131,h132]) ?_;rintro⟨x,y⟩ ⟨⟨p,i,t,w,S⟩,⟨q,j,r,o,T⟩⟩;simp only at t r;subst t r;refine bO (let a:=(bu p).fst;let g:=Ξ .i64 (jc (ck (bu p)) (ck (bu q)));let s:=λ(u:Bool) (c b:Rat) ↦let k:=cF (bk (bu c).snd.fst*bk (bu b).snd.snd);let l:=cF (bk (bu b).snd.fst*bk (bu c).snd.snd);a=u->((bA k/\bA l)/\k.length<=1000000000000/\l.length<=1000000000000)/\(Ξ .i64 (l9 (bk k) (bk l))).same g;((!a==(bu q).fst)=true->(a=true->(γr .i64 (-1:Int)).same g)/\(a=false->(γr .i64 1).same g))/\((!a==(bu q).fst)=false->(vZ (a,(bu p).snd.fst,(bu p).snd.snd)/\vZ ((bu q).fst,(bu q).snd.fst,(bu q).snd.snd))/\s true q p/\s false p q)) (by kernel_rfl) ?_;conv=>zeta
 obtain⟨C,_,_⟩:=nG p;obtain⟨P,_,_⟩:=nG q;obtain⟨X,Y,D,E,M,hD,G,N,U,l1,l2,l3,l4,Z,V,B,A,W⟩:=SH w o;obtain⟨J,v,c3⟩:=gk G;obtain⟨K,n,c6⟩:=gk N;simp only[fa,E,M,J,K,C,P];simp only[vcs];have hl:p<q↔p.num*q.den<q.num*p.den:=Rat.lt_iff p q;have R:q<p↔q.num*p.den<p.num*q.den:=Rat.lt_iff q p;have O:=@Rat.num_nonneg p;have H:=@Rat.num_nonneg q;have m:∀{z:Int},(z=if p.num*q.den<q.num*p.den then -1 else if q.num*p.den<p.num*q.den then 1 else 0)->z=jc p q:=λh=>by
  grind[jc]
 have Q:p<0->0<X:=λh=>by
  rw[if_pos (by simpa using h)] at B;have f:p.num<0:=by grind
  have:=εw f (show(0:Int)<q.den by grind);omega
 have F:q<0->0<Y:=λh=>by
  rw[if_pos (by simpa using h)] at A;have f:q.num<0:=by grind
  have:=εw f (show(0:Int)<p.den by grind);omega
 rw[B,A] at m;refine⟨λI=>⟨λd=>?_,λd=>?_⟩,λhe=>⟨⟨Eg w S,Eg o T⟩,λd=>⟨⟨⟨n,v⟩,by omega,by omega⟩,?_⟩,λd=>⟨⟨⟨v,n⟩,by omega,by omega⟩,?_⟩⟩⟩;·grind
 ·grind
 ·apply m;have e:q<0:=by
   grind
  simp only[decide_eq_true_eq,d,e,if_true,if_false];simp only[Int.neg_lt_neg_iff];rfl
 ·apply m;have e:¬q<0:=λe=>by grind
  simp only[decide_eq_true_eq,d,e,if_true,if_false];rfl
def Ax:bL:=⟨153,bP×bP,.cons (eG sF) (.one (eG sF)),λa=>de a.1/\de a.2,λa=>qV (ck a.1+ck a.2)⟩
theorem h129:Holds Tryz.prog Ax:=by
 refine cG (L:=[Ee,yk,Af,JK,ym]) Ax lk (by grind[h131,h153,h154,h155,h126]) ?_;rintro⟨x,y⟩ ⟨⟨p,i,J,w,S⟩,⟨q,j,E,B,hj⟩⟩;simp only at J E;subst J E;refine bO (let h:=Ψ;let j:=γG;let m:=(bu q).snd.snd;let f:=cF (bk (bu p).snd.fst*bk m);let t:=(bu p).snd.snd;let k:=cF (bk (bu q).snd.fst*bk t);let a:=cF (bk t*bk m);let g:=bn.i .u32;let z:=bu (ck (bu p)+ck (bu q));let o:=j [γI z.fst,h g z.snd.fst,h g z.snd.snd];let v:=(bu p).fst==(bu q).fst;let c:=cF (bk f+bk k);let d:=bu (fH (bu p).fst (bk c) (bk a));let I:=(bA f/\bA k)/\f.length<=100000000000/\k.length<=100000000000;let K:=λ(u r:Rat) ↦let e:=cF (bk (cF (bk (bu u).snd.fst*bk (bu r).snd.snd)) - bk (cF (bk (bu r).snd.fst*bk (bu u).snd.snd)));let b:=bu (fH (bu u).fst (bk e) (bk a));((bA e/\bA a)/\(e.length<=1000000000/\a.length<=1000000000)/\(0:Int)<bk a)/\(j [γI b.fst,h g b.snd.fst,h g b.snd.snd]).same o;let F:=λ(u:Bool) ↦decide (bk k<=bk f)=u;(vZ ((bu p).fst,(bu p).snd.fst,t)/\vZ ((bu q).fst,(bu q).snd.fst,m))/\((bA t/\bA m)/\γn t<=100000000000/\γn m<=100000000000)/\(v=true->I/\((bA c/\bA a)/\(c.length<=1000000000/\a.length<=1000000000)/\(0:Int)<bk a)/\(j [γI d.fst,h g d.snd.fst,h g d.snd.snd]).same o)/\(v=false->I/\(F true->K p q)/\(F false->((bA k/\bA f)/\k.length<=100000000000/\f.length<=100000000000)/\K q p))) (by kernel_rfl) ?_;conv=>zeta
 obtain⟨O,⟨u1,_,_⟩,⟨u2,_,_⟩⟩:=nG p;obtain⟨W,⟨u3,_,_⟩,⟨P,_,_⟩⟩:=nG q;obtain⟨m1,m2⟩:=qX w;obtain⟨m3,m4⟩:=qX B;obtain⟨X,Y,D,T,Q,hD,U,R,C,l1,l2,l3,l4,l5,l6,n1,n2,n3⟩:=SH w B;obtain⟨N,H,c3⟩:=gk U;obtain⟨c4,G,c6⟩:=gk R;obtain⟨c7,V,c9⟩:=gk (γl C);obtain⟨s1,M,s3⟩:=gk (show 0<=X+Y by omega);simp only[fa,T,Q,hD,N,c4,c7,s1,O,W];simp only[vcs];have l:∀{s:Bool} {n:Int},(p.num*q.den+q.num*p.den=if s then -n else n)->(γG [.sb (bu (fH s n D)).1,.row (.i .u32) (bu (fH s n D)).2.1,.row (.i .u32) (bu (fH s n D)).2.2]).same (.agg [.sb (bu (p+q)).1,.row (.i .u32) (bu (p+q)).2.1,.row (.i .u32) (bu (p+q)).2.2]):=
  λh=>Ef (acC n3 h);rw[n1,n2] at l;refine⟨⟨Eg w S,Eg B hj⟩,⟨⟨u2,P⟩,by omega,by omega⟩,λZ=>⟨⟨⟨H,G⟩,by omega,by omega⟩,⟨⟨M,V⟩,⟨by omega,by omega⟩,C⟩,l ?_⟩,λZ=>⟨⟨⟨H,G⟩,by omega,by omega⟩,λA=>?_,λA=>?_⟩⟩;all_goals grind[gk]
def Eh:bL:=⟨163,bP×bP,.cons (eG sF) (.one (eG sF)),λa=>de a.1/\de a.2,λa=>qV (ck a.1 - ck a.2)⟩
theorem h95:Holds Tryz.prog Eh:=by
 refine cG (L:=[yn,Ax]) Eh lk (by grind[h130,h129]) ?_;rintro⟨x,y⟩ ⟨⟨p,i,k,m,n⟩,⟨q,j,g,l,o⟩⟩;simp only at k g;subst k g;refine bO (let g:=Ψ;let b:=((bu q).fst,(bu q).snd.fst,(bu q).snd.snd);let e:=((bu p).fst,(bu p).snd.fst,(bu p).snd.snd);let h:=(bu (-ck b)).snd;let f:=((bu (-ck b)).fst,h.fst,h.snd);let d:=bu (ck e+ck f);let a:=bn.i .u32;let c:=bu (ck (bu p) - ck (bu q));de b/\(de e/\de f)/\(γG [γI d.fst,g a d.snd.fst,g a d.snd.snd]).same (γG [γI c.fst,g a c.snd.fst,g a c.snd.snd])) (by kernel_rfl) ?_;grind[de,D9,Ef,fa]
theorem JR {a:List Int} (h:bA a) (c:fF a) (b:a≠[]):0<bk a:=by
 have:=eZ h;grind[val_zero]
def okF (x:bP):Bool:=decide (bu (ck x)=x)
theorem SI {n d:Int} (h:0<d):0<ef n d:=by
 simp_all[ef]
theorem acD {s:Bool} {n d:List Int} (h:okF (s,(n,d))=true):fF n/\fF d/\d≠[]:=by
 have h:=of_decide_eq_true h;have b:=gk (show(0:Int)<=((ck (s,(n,d))).num.natAbs:Int) by omega);have a:=gk (show(0:Int)<=((ck (s,(n,d))).den:Int) by omega);have e:cF ((ck (s,(n,d))).num.natAbs:Int)=n:=congrArg (λx=>x.2.1) h;have c:cF ((ck (s,(n,d))).den:Int)=d:=congrArg (λx=>x.2.2) h;rw[e] at b;rw[c] at a;refine⟨b.2.2,a.2.2,λf=>?_⟩;have g:=a.1;rw[f] at g;have:=(ck (s,(n,d))).den_pos;grind[bk]
theorem okF_eq {s:Bool} {n d:List Int} (e:bA n) (m:bA d) (l:fF n) (p:fF d) (b:d≠[]):
  okF (s,(n,d))=if n=[] then !s&&decide (d=[1]) else decide (ef (bk n) (bk d)=1):=by
 have c:=JR m p b;have r:=eZ e;have j:ck (s,(n,d))=mkRat (if s then -bk n else bk n) (bk d).toNat:=rfl;have o:=@SD s (bk n) (bk d) r c;have u:=@SI (bk n) (bk d) c;unfold okF;rw[j,o];by_cases a:n=[]
 ·rw[if_pos a,a];have i:ef (bk []) (bk d)=bk d:=by unfold ef;simp[bk];omega
  have k:cF (bk d / ef (bk []) (bk d))=[1]:=by rw[i,Int.ediv_self (by omega)];rfl
  have f:cF (bk [] / ef (bk []) (bk d))=[]:=by
   have:bk []=0:=rfl;rw[this,Int.zero_ediv];rfl
  rw[k,f];have v:decide (0<bk [])=false:=rfl;grind
 ·rw[if_neg a];have q:=JR e l a;rw[decide_eq_true (show 0<bk n from q),Bool.and_true];rw[Bool.eq_iff_iff,decide_eq_true_eq,decide_eq_true_eq];constructor
  ·intro h;injection h with h1 h2;injection h2 with h2 h3;have g:=(gk (show 0<=bk d / ef (bk n) (bk d) from Int.ediv_nonneg (by omega) (by omega))).1;rw[h3] at g;by_cases t:ef (bk n) (bk d)=1;·exact t
   ·have:=Int.ediv_lt_self_of_pos_of_ne_one c (by omega:ef (bk n) (bk d)≠1);omega
  grind[Ae]
theorem acE {l:List Int} (h:l.length=0\/bj l (l.length - 1) 0≠0):fF l:=by
 rcases h with h|h;·rw[ψ h];trivial
 ·by_cases b:l.length=0;·rw[ψ b];trivial
  ·have c:=D1 (a:=l) (n:=l.length - 1) (by omega);grind[Jp]
def sW (a:List Int):Bool:=decide (a.length=0)||decide (bj a (a.length - 1) 0≠0)
theorem uF {a:List Int}:sW a=true↔fF a:=by
 unfold sW;rw[Bool.or_eq_true,decide_eq_true_eq,decide_eq_true_eq];constructor;·exact acE
 ·intro h;by_cases e:a.length=0;·exact .inl e
  ·right;have b:=D1 (a:=a) (n:=a.length - 1) (by omega);rw[show a.length - 1+1=a.length by omega,List.take_length] at b;have:∀{l:List Int} {x:Int},fF (l++[x])->x≠0:=by
    intro l x;induction l with
    |nil=>intro h;exact h.1 rfl;|cons d l c=>intro h;exact c h.2
   grind
theorem SJ (p q:Rat):(if(!(decide (p<0)==decide (q<0)))=true then -((p.num.natAbs:Int)*(q.num.natAbs:Int)) else(p.num.natAbs:Int)*(q.num.natAbs:Int))=p.num*q.num:=by
 have a:=v7 p;have b:=v7 q;grind
theorem SK (p q:Rat):fH (!(decide (p<0)==decide (q<0))) ((p.num.natAbs:Int)*(q.num.natAbs:Int)) ((p.den:Int)*(q.den:Int))=p*q:=by
 unfold fH;rw[SJ,show((p.den:Int)*(q.den:Int)).toNat=p.den*q.den by omega,δJ];have a:(p.num:Rat) / (p.den:Rat)=p:=by rw[<-δJ,δ0]
 have b:(q.num:Rat) / (q.den:Rat)=q:=by rw[<-δJ,δ0]
 grind
theorem SL {p q:Rat} (a:q≠0):fH (!(decide (p<0)==decide (q<0))) ((p.num.natAbs:Int)*(q.den:Int)) ((p.den:Int)*(q.num.natAbs:Int))=p / q:=by
 unfold fH;rw[show((p.den:Int)*(q.num.natAbs:Int)).toNat=p.den*q.num.natAbs by omega,δJ];have k:(p.num:Rat) / (p.den:Rat)=p:=by rw[<-δJ,δ0]
 have d:(q.num:Rat) / (q.den:Rat)=q:=by rw[<-δJ,δ0]
 have m:(p.den:Rat)≠0:=by have:=p.den_nz;simp_all
 have o:(q.den:Rat)≠0:=by grind
 have e:=v7 p;have g:=v7 q;have n:(q.num:Rat)≠0:=λh=>a (by grind);rw[Rat.natCast_mul];conv=>rhs;rw[<-k,<-d]
 have f:((p.num.natAbs:Int):Rat)=(p.num.natAbs:Rat):=ε5 _;have c:((q.num.natAbs:Int):Rat)=(q.num.natAbs:Rat):=ε5 _;have i:((q.den:Int):Rat)=(q.den:Rat):=ε5 _;have j:(p.num:Rat)=if decide (p<0)=true then -(p.num.natAbs:Rat) else(p.num.natAbs:Rat):=by
  rw[<-f];conv=>lhs;rw[e]
  split<;>grind
 have b:(q.num:Rat)=if decide (q<0)=true then -(q.num.natAbs:Rat) else(q.num.natAbs:Rat):=by
  rw[<-c];conv=>lhs;rw[g]
  split<;>grind
 have l:((if(!(decide (p<0)==decide (q<0)))=true then -((p.num.natAbs:Int)*(q.den:Int)) else(p.num.natAbs:Int)*(q.den:Int):Int):Rat)=if(!(decide (p<0)==decide (q<0)))=true then -((p.num.natAbs:Rat)*(q.den:Rat)) else(p.num.natAbs:Rat)*(q.den:Rat):=by
  split<;>grind
 grind
def Ei:bL:=⟨219,bP×bP,.cons (eG sF) (.one (eG sF)),λa=>de a.1/\de a.2,λa=>qV (ck a.1*ck a.2)⟩
theorem h410:Holds Tryz.prog Ei:=by
 refine cG (L:=[yk,ym]) Ei lk (by grind[h153,h126]) ?_;rintro⟨x,y⟩ ⟨⟨p,i,n,f,M⟩,⟨q,j,o,l,G⟩⟩;simp only at n o;subst n o;refine bO (let f:=Ψ;let c:=(bu p).snd.fst;let k:=(bu q).snd.fst;let g:=(bu p).snd.snd;let h:=(bu q).snd.snd;let m:=cF (bk c*bk k);let b:=cF (bk g*bk h);let d:=bu (fH (!(bu p).fst==(bu q).fst) (bk m) (bk b));let a:=bn.i .u32;let e:=bu (ck (bu p)*ck (bu q));((bA c/\bA k)/\γn c<=100000000000/\γn k<=100000000000)/\((bA g/\bA h)/\γn g<=100000000000/\γn h<=100000000000)/\((bA m/\bA b)/\(m.length<=1000000000/\b.length<=1000000000)/\(0:Int)<bk b)/\(γG [γI d.fst,f a d.snd.fst,f a d.snd.snd]).same (γG [γI e.fst,f a e.snd.fst,f a e.snd.snd])) (by kernel_rfl) ?_;conv=>zeta
 obtain⟨t,⟨P,_,s⟩,⟨E,_,v⟩⟩:=nG p;obtain⟨u,⟨J,_,z⟩,⟨I,_,A⟩⟩:=nG q;obtain⟨D,F⟩:=qX f;obtain⟨O,N⟩:=qX l;have C:=p.den_pos;have K:=q.den_pos;rw[s,v,z,A,t,u,fa,fa];have r:0<=(p.num.natAbs:Int)*(q.num.natAbs:Int):=γD (by omega) (by omega);have w:0<(p.den:Int)*(q.den:Int):=εA (by omega) (by omega);have H:=mP r (qY (by omega) f.1 l.1);have B:=mP (γl w) (qY (by omega) f.2 l.2);grind[gk,Ef,SK]
def Ej:bL:=⟨231,bP×bP,.cons (eG sF) (.one (eG sF)),λa=>(de a.1/\de a.2)/\ck a.2≠0,λa=> .bH [qV (ck a.1 / ck a.2),.si .i64 0]⟩
theorem h416:Holds Tryz.prog Ej:=by
 refine cG (L:=[yk,Av]) Ej lk (by grind[h153,h151]) ?_;rintro⟨x,y⟩ ⟨⟨⟨p,i,v,f,X⟩,⟨q,j,u,m,Q⟩⟩,a⟩;simp only at v u a;subst v u;refine bO (let a:=Ψ;let g:=(bu p).snd.fst;let d:=(bu q).snd.snd;let r:=(bu p).snd.snd;let e:=(bu q).snd.fst;let k:=cF (bk g*bk d);let c:=cF (bk r*bk e);let l:=bu (fH (!(bu p).fst==(bu q).fst) (bk k) (bk c));let b:=bn.i .u32;let t:=[Ξ .i64 0];let o:=bu (ck (bu p) / ck (bu q));((bA g/\bA d)/\γn g<=100000000000/\γn d<=100000000000)/\((bA r/\bA e)/\γn r<=100000000000/\γn e<=100000000000)/\((bA k/\bA c)/\(k.length<=1000000000/\c.length<=1000000000)/\(0:Int)<bk c)/\(SV.bH (γG [γI l.fst,a b l.snd.fst,a b l.snd.snd]::t)).same (SV.bH (γG [γI o.fst,a b o.snd.fst,a b o.snd.snd]::t))) (by kernel_rfl) ?_;conv=>zeta
 rw[fa] at a;obtain⟨E,⟨C,_,M⟩,⟨K,_,I⟩⟩:=nG p;obtain⟨B,⟨z,_,J⟩,⟨F,_,A⟩⟩:=nG q;obtain⟨V,O⟩:=qX f;obtain⟨S,W⟩:=qX m;have T:=p.den_pos;have Z:=q.den_pos;have R:q.num≠0:=λh=>a (Rat.num_eq_zero.1 h);rw[M,I,J,A,E,B,fa,fa];have s:0<=(p.num.natAbs:Int)*(q.den:Int):=γD (by omega) (by omega);have n:0<(p.den:Int)*(q.num.natAbs:Int):=εA (by omega) (by omega);have Y:=mP s (qY (by omega) f.1 m.2);have N:=mP (γl n) (qY (by omega) f.2 m.1);obtain⟨G,H,P⟩:=gk s;obtain⟨w,D,U⟩:=gk (γl n);rw[G,w,SL a];refine⟨⟨⟨C,F⟩,?_,?_⟩,⟨⟨K,z⟩,?_,?_⟩,⟨⟨H,D⟩,⟨?_,?_⟩,n⟩,rfl⟩<;>omega
def JS:bL:=⟨196,List Int,.one (dV (.i .u32)),λa=>bA (show List Int from a)/\(show List Int from a).length<=1000000000,λa=> .sb (sW a)⟩
theorem h414:Holds Tryz.prog JS:=by
 refine cG (L:=[rR]) JS lk (by grind[h152]) ?_;rintro(a:List Int) h;refine bO (a.length<=1000000000000/\(γI (decide ((↑(bI a).length:Int)=(↑a.length:Int)))).same (γI (sW a))) (by kernel_rfl) ?_;simp only[vcs];obtain⟨f,d⟩:bA a/\a.length<=1000000000:=h;refine⟨by omega,?_⟩;cases c:sW a with
 |true=>
  grind[qO,Ae,uF];|false=>
  refine decide_eq_false λb=>?_;have e:bI a=a:=by
   unfold bI at b ⊢;rw[List.length_take] at b;exact List.take_of_length_le (by omega)
  grind[rT,uF]
def JU:bL:=⟨197,bP,.one (eG sF),λx=>x.2.1.length<=1000000000,λx=> .agg [.sb x.1,.sb (decide (x.2.1=[]))]⟩
theorem h415:Holds Tryz.prog JU:=by
 refine cG (L:=[]) JU lk (by simp) ?_;rintro⟨s,n,d⟩ h;refine bO (let a:=γI;(γG [a s,a (decide ((↑n.length:Int)=(0:Int)))]).same (γG [a s,a (decide (n=[]))])) (by kernel_rfl) ?_;have e:decide ((n.length:Int)=0)=decide (n=[]):=by
  simp_all
 rw[e];rfl
def yo:bL:=⟨160,bP,.one (eG sF),λx=>(bA x.2.1/\bA x.2.2)/\x.2.1.length<=1000000/\x.2.2.length<=1000000,λx=> .sb (okF x)⟩
theorem h407:Holds Tryz.prog yo:=by
 refine cG (L:=[JS,JU,Ec,yl,yf]) yo lk (by grind[h414,h415,h165g,h128,h132]) ?_;rintro⟨s,n,d⟩ ⟨⟨m,f⟩,j,k⟩;refine bO (let a:=SV.bl false;let b:=(0:Int);let c:=(1:Int);let l:=γI (okF (s,n,d));let w:=decide ((↑d.length:Int)=b);let x:=s==true&&(decide (n=[])==true&&true);let p:=cF (ef (bk n) (bk d));let t:=cF c;(bA n/\n.length<=1000000000)/\((!sW n)=true->(a).same l)/\((!sW n)=false->(bA d/\d.length<=1000000000)/\((!sW d)=true->(a).same l)/\((!sW d)=false->(w=true->(a).same l)/\(w=false->n.length<=1000000000/\(x=true->(a).same l)/\(x=false->((bA n/\bA d)/\n.length<=1000000000/\d.length<=1000000000)/\(b<=c/\c<(18446744073709551616:Int))/\((bA p/\bA t)/\p.length<=1000000000000/\t.length<=1000000000000)/\(γI (decide (l9 (bk p) (bk t)=b))).same l))))) (by kernel_rfl) ?_;simp only[vcs];have m:bA n:=m;have f:bA d:=f;have j:n.length<=1000000:=j;have k:d.length<=1000000:=k;have c:¬(fF n/\fF d/\d≠[])->false=okF (s,n,d):=λh=>by
  grind[acD]
 have e:∀{a:List Int},((a.length:Nat):Int)=0->a=[]:=λh=>ψ (by omega);have b:∀{a:List Int},¬((a.length:Nat):Int)=0->a≠[]:=λh i=>h (by rw[i];rfl);refine⟨⟨m,by omega⟩,λu=>c λh=>?_,λu=>⟨⟨f,by omega⟩,λi=>c λh=>?_,λi=>⟨λo=>c λh=>h.2.2 (e o),λo=>⟨by omega,λC=>?_,λC=>?_⟩⟩⟩⟩;·grind[uF]
 ·grind[uF]
 all_goals
  have E:=okF_eq (s:=s) m f (uF.1 u) (uF.1 i) (b o);have D:=JR f (uF.1 i) (b o);have J:=@SI (bk n) (bk d) D;obtain⟨H,v,A⟩:=gk (show 0<=ef (bk n) (bk d) by omega);obtain⟨B,G,I⟩:=gk (show(0:Int)<=1 by omega);have y:ef (bk n) (bk d)<=bk d:=by
   unfold ef;have:=Nat.gcd_le_right (bk n).toNat (show 0<(bk d).toNat by omega);omega
  rw[E]
 ·simp_all
 ·have F:=JQ v f A (by omega);refine⟨⟨⟨m,f⟩,by omega,by omega⟩,by omega,⟨⟨v,G⟩,by omega,by decide⟩,?_⟩;rw[H,B];have r:(l9 (ef (bk n) (bk d)) 1=0)=(ef (bk n) (bk d)=1):=by
   grind[l9]
  simp only[r];by_cases g:n=[]
  ·rw[if_pos g];have z:s=false:=by
    simp_all
   have q:ef (bk n) (bk d)=bk d:=by
    rw[g];unfold ef;simp[bk];omega
   rw[q,z,Bool.not_false,Bool.true_and,decide_eq_decide];constructor
   ·intro h;rw[<-Ae f (uF.1 i),h];rfl
   ·intro h;rw[h];rfl
  ·rw[if_neg g]
theorem Az {p q:Rat} {i j:Nat} (b:Sz i p) (a:Sz j q):Sz (i+j) (p*q):=by
 rw[<-SK];unfold fH;rw[SJ];have c:=p.den_pos;have d:=q.den_pos;have e:0<(p.den:Int)*(q.den:Int):=εA (by omega) (by omega);refine As (by omega) ?_ ?_
 ·rw[εv,Int.natCast_mul];exact qY (by omega) b.1 a.1
 ·rw[εB (by omega)];exact qY (by omega) b.2 a.2
theorem JV {p q:Rat} {i j:Nat} (c:Sz i p) (b:Sz j q) (d:q≠0):Sz (i+j) (p / q):=by
 rw[<-SL d];unfold fH;have e:=p.den_pos;have f:=q.den_pos;have l:q.num≠0:=λh=>d (Rat.num_eq_zero.1 h);have k:0<(p.den:Int)*(q.num.natAbs:Int):=εA (by omega) (by omega);have g:=qY (a:=(p.num.natAbs:Int)) (by omega) c.1 b.2;refine As (by omega) ?_ ?_;·grind
 ·rw[εB (by omega)];exact qY (by omega) c.2 b.1
theorem acF {p q:Rat}:0<jc p q↔q<p:=by
 grind[jc]
theorem acG {p q:Rat}:jc p q=0↔p=q:=by
 grind[jc]
def wed (c:Nat->Rat):(List Nat->Rat)->List Nat->Rat
 |_,[]=>0
 |f,i::R=>c i*f R - wed c (λl=>f (i::l)) R
theorem JW {c:Nat->Rat}:∀{R:List Nat},wed c (λ_=>0) R=0
 |[]=>rfl
 |i::R=>by simp only[wed,JW];grind
theorem JX {c:Nat->Rat} {p q:Rat}:∀{R:List Nat} {f g:List Nat->Rat},wed c (λl=>p*f l+q*g l) R=p*wed c f R+q*wed c g R
 |[],_,_=>by grind[wed];|i::R,f,g=>by
  simp only[wed,@JX c p q R];grind
theorem SN {c d:Nat->Rat} {p q:Rat}:∀{R:List Nat} {f:List Nat->Rat},wed (λi=>p*c i+q*d i) f R=p*wed c f R+q*wed d f R
 |[],_=>by grind[wed];|i::R,f=>by
  simp only[wed,@SN c d p q R];grind
theorem SO {c:Nat->Rat} {p:Rat} {R:List Nat} {f g:List Nat->Rat}:wed c (λl=>p*f l - g l) R=p*wed c f R - wed c g R:=by
 have:=@JX c p (-1) R f g;grind
theorem JY {a b:Nat->Rat}:∀{R:List Nat} {f:List Nat->Rat},wed a (wed b f) R= - wed b (wed a f) R
 |[],_=>by grind[wed];|i::R,f=>by
  have d:wed a (λl=>wed b f (i::l)) R=b i*wed a f R - wed a (wed b λl=>f (i::l)) R:=SO;have c:wed b (λl=>wed a f (i::l)) R=a i*wed b f R - wed b (wed a λl=>f (i::l)) R:=SO;have h:=@JY a b R λl=>f (i::l);grind[wed]
theorem acH {a:Nat->Rat} {f:List Nat->Rat}:wed a (wed a f)=λ_=>0:=by
 grind[JY]
def yp (R:List Nat):Rat:=if R=[] then 1 else 0
def jL (cs:List (Nat->Rat)):List Nat->Rat:=cs.foldr wed yp
theorem SQ {c:Nat->Rat} {cs:List (Nat->Rat)}:jL (c::cs)=wed c (jL cs):=rfl
theorem SR {a:Nat->Rat}:∀{cs:List (Nat->Rat)} {f:List Nat->Rat},wed a (cs.foldr wed (wed a f))=λ_=>0
 |[],f=>acH
 |c::cs,f=>by
  funext R;simp only[ε6];rw[JY,@SR a cs f,JW];rfl
theorem fold_zero:∀{cs:List (Nat->Rat)},cs.foldr wed (λ_=>0)=λ_=>0
 |[]=>rfl
 |c::cs=>by
  rw[ε6,fold_zero];grind[JW]
theorem SS {a:Nat->Rat} {p m q:List (Nat->Rat)}:jL (p++a::(m++a::q))=λ_=>0:=by
 grind[jL,SR,fold_zero]
theorem SU {p q:Rat}:∀{cs:List (Nat->Rat)} {f g:List Nat->Rat} {R:List Nat},cs.foldr wed (λl=>p*f l+q*g l) R=p*cs.foldr wed f R+q*cs.foldr wed g R
 |[],_,_,_=>rfl
 |c::cs,f,g,R=>by
  simp only[ε6];rw[<-JX];congr 1;funext l;exact SU
theorem SX {c d:Nat->Rat} {p q:Rat} {a b:List (Nat->Rat)} {R:List Nat}:jL (a++(λi=>p*c i+q*d i)::b) R=p*jL (a++c::b) R+q*jL (a++d::b) R:=by
 unfold jL;simp only[List.foldr_append,ε6];rw[<-SU];have e:wed (λi=>p*c i+q*d i) (ζX wed yp b)=λl=>p*wed c (ζX wed yp b) l+q*wed d (ζX wed yp b) l:=by
  grind[SN]
 rw[e]
def eU (M:Nat) (q:Rat):Prop:=∃z:Int,q=(z:Rat)/\z.natAbs<=M
theorem SY {c:Nat->Rat} {M K:Nat}:∀{R:List Nat} {f:List Nat->Rat},(∀i∈R,eU M (c i))->(∀l,l.length+1=R.length->(∀i∈l,i∈R)->eU K (f l))->eU (R.length*(M*K)) (wed c f R)
 |[],_,_,_=>⟨0,by simp[wed],by simp⟩
 |i::R,f,e,g=>by
  simp only[wed,γy];obtain⟨y,q,h⟩:=@SY c M K R (λl=>f (i::l)) (λj a=>e j (by simp[a])) λl n p=>g _ (by simp_all) λj a=>by
   grind
  obtain⟨u,o,b⟩:=e i (by simp);obtain⟨v,k,d⟩:=g R (by simp) λj a=>by simp[a]
  refine⟨u*v - y,?_,?_⟩;·simp_all
  ·have m:(u*v).natAbs<=M*K:=by
    rw[εv];exact Nat.mul_le_mul b d
   grind
def nH (M:Nat):Nat->Nat
 |0=>1
 |n+1=>(n+1)*(M*nH M n)
theorem Ek {M:Nat}:∀{cs:List (Nat->Rat)} {R:List Nat},cs.length=R.length->(∀c∈cs,∀i∈R,eU M (c i))->eU (nH M R.length) (jL cs R)
 |[],R,b,_=>by
  have:R=[]:=ψ (by simp_all);subst this;exact⟨1,by simp[jL,yp],by simp[nH]⟩;|c::cs,R,b,e=>by
  rw[SQ];cases R with
  |nil=>simp at b;|cons i R=>
   simp only[γy,nH];refine SY (e c (by simp)) λl a g=>?_;simp only[γy] at b a;rw[show R.length=l.length by omega];exact Ek (by omega) λd f j h=>e d (by simp[f]) j (g j h)
def yq (k:Nat):Nat->Rat:=λi=>if i=k then 1 else 0
theorem SZ {c:Nat->Rat}:∀{R:List Nat} {f:List Nat->Rat},(∀i∈R,c i=0)->wed c f R=0
 |[],_,_=>rfl
 |i::R,f,h=>by
  simp only[wed];rw[h i (by simp),SZ λj a=>h j (by simp[a])];grind
theorem S0:∀{R:List Nat},R.Nodup->jL (R.map yq) R=1
 |[],_=>by simp[jL,yp];|i::R,h=>by
  rw[List.nodup_cons] at h;rw[ι,SQ];simp only[wed];rw[SZ (c:=yq i) (R:=R) λj a=>by
   unfold yq;grind];rw[S0 h.2];unfold yq;grind
def cz (n:Nat) (f:Nat->Rat):Rat:=match n with
 |0=>0
 |n+1=>cz n f+f n
theorem dY:∀{n:Nat} {f g:Nat->Rat},(∀i,i<n->f i=g i)->cz n f=cz n g
 |0,_,_,_=>rfl
 |n+1,f,g,h=>by simp only[cz];rw[dY λi a=>h i (by omega),h n (by omega)]
theorem AA:∀{n:Nat} {f g:Nat->Rat},cz n (λi=>f i+g i)=cz n f+cz n g
 |0,_,_=>by grind[cz];|n+1,f,g=>by simp only[cz];rw[AA];grind
theorem AB {c:Rat}:∀{n:Nat} {f:Nat->Rat},cz n (λi=>c*f i)=c*cz n f
 |0,_=>by grind[cz];|n+1,f=>by simp only[cz];rw[AB];grind
theorem kL:∀{n:Nat},cz n (λ_=>0)=0
 |0=>rfl
 |n+1=>by simp only[cz];rw[kL];grind
theorem v8 {k:Nat} {x:Rat}:∀{n:Nat},cz n (λi=>if i=k then x else 0)=if k<n then x else 0
 |0=>by simp[cz];|n+1=>by
  simp only[cz];rw[v8];grind
theorem Em {n k:Nat} {f:Nat->Rat} (h:k<n):cz n f=f k+cz n λi=>if i=k then 0 else f i:=by
 have a:=@v8 k (f k) n;rw[if_pos h] at a;rw[<-a,<-AA];grind[dY]
theorem S1 {a b:List (Nat->Rat)} {R:List Nat} {y:Nat->Rat} {T:Nat->Nat->Rat}:∀{n:Nat},jL (a++(λi=>cz n λk=>y k*T k i)::b) R=cz n λk=>y k*jL (a++T k::b) R
 |0=>by
  have e:(λi:Nat=>cz 0 λk=>y k*T k i)=λi=>(0:Rat)*(λ_=>0) i+0*(λ_=>0) i:=by grind[cz]
  rw[e,SX];grind[cz];|n+1=>by
  have e:(λi:Nat=>cz (n+1) λk=>y k*T k i)=λi=>(1:Rat)*(λi=>cz n λk=>y k*T k i) i+y n*T n i:=by
   grind[cz]
  rw[e,SX,S1];grind[cz]
theorem acI {C:List (Nat->Rat)} {R:List Nat} {y:Nat->Rat} {r:Nat} (f:r<C.length):jL (C.set r (λi=>cz C.length λk=>y k*(C.getD k (λ_=>0)) i)) R=y r*jL C R:=by
 have a:∀c:Nat->Rat,C.set r c=C.take r++c::C.drop (r+1):=λc=>by rw[εJ,if_pos f]
 rw[a,S1,Em f];have m:∀k,k<C.length->(if k=r then(0:Rat) else y k*jL (C.take r++C.getD k (λ_=>0)::C.drop (r+1)) R)=0:=by
  intro k g;split;·rfl
  ·rename_i e;have o:jL (C.take r++C.getD k (λ_=>0)::C.drop (r+1)) R=0:=by
    have n:C.getD k (λ_=>0)=C[k]:=by simp_all
    rw[n];rcases Nat.lt_or_gt_of_ne e with h|h
    ·have j:C.take r=C.take k++C[k]::(C.drop (k+1)).take (r - (k+1)):=by
      have b:C[k]::C.drop (k+1)=C.drop k:=ζw g;obtain⟨d,rfl⟩:∃d,r=k+(d+1):=⟨r - (k+1),by omega⟩;rw[List.take_add,<-b,List.take_succ_cons,show k+(d+1) - (k+1)=d by omega]
     grind[SS]
    ·have j:C.drop (r+1)=(C.drop (r+1)).take (k - (r+1))++C[k]::C.drop (k+1):=by
      have b:C[k]::C.drop (k+1)=C.drop k:=ζw g;rw[b];have l:=γc (k - (r+1)) (C.drop (r+1));rw[γW,show r+1+(k - (r+1))=k by omega] at l;exact l.symm
     rw[j,SS]
   simp_all
 rw[dY m,kL];have b:C.take r++C.getD r (λ_=>0)::C.drop (r+1)=C:=by
  simp_all
 rw[b];grind
structure Tb where
 cj:List (List Rat)
 bound:List Rat
 cost:List Rat
 value:Rat
 basic:List Int
 free:List Int
namespace Tb
def cf (t:Tb) (i j:Nat):Rat:=bj (bj t.cj i []) j 0
def bd (t:Tb) (i:Nat):Rat:=bj t.bound i 0
def cs (t:Tb) (j:Nat):Rat:=bj t.cost j 0
def bv (t:Tb) (i:Nat):Int:=bj t.basic i 0
def fv (t:Tb) (j:Nat):Int:=bj t.free j 0
structure WF (n m:Nat) (t:Tb):Prop where
 cj:t.cj.length=m
 row:∀i,i<m->(bj t.cj i []).length=n
 bound:t.bound.length=m
 cost:t.cost.length=n
 basic:t.basic.length=m
 free:t.free.length=n
def holds (n m:Nat) (t:Tb) (x:Int->Rat) (z:Rat):Prop:=
 (∀i,i<m->x (t.bv i)+cz n (λj=>t.cf i j*x (t.fv j))=t.bd i)/\z=t.value+cz n λj=>t.cs j*x (t.fv j)
end Tb
def j9 (l:List Rat) (c:Nat) (p:List Rat):List Rat:=(τ l.length).map λj=>if j=c then -(bj l c 0*bj p j 0) else bj l j 0 - bj l c 0*bj p j 0
def kM (l:List Rat) (c:Nat):List Rat:=(τ l.length).map λj=>if j=c then 1 / bj l c 0 else bj l j 0*(1 / bj l c 0)
def fJ (t:Tb) (r c:Nat):Tb where
 cj:=(τ t.cj.length).map λi=>if i=r then kM (bj t.cj r []) c else j9 (bj t.cj i []) c (kM (bj t.cj r []) c);bound:=(τ t.bound.length).map λi=>if i=r then t.bd r*(1 / t.cf r c) else t.bd i - t.cf i c*(t.bd r*(1 / t.cf r c));cost:=j9 t.cost c (kM (bj t.cj r []) c);value:=t.value+t.cs c*(t.bd r*(1 / t.cf r c));basic:=t.basic.set r (t.fv c);free:=t.free.set c (t.bv r)
theorem qZ {a:Type} {f:Nat->a} {n i:Nat} {d:a} (h:i<n):bj ((τ n).map f) i d=f i:=by
 grind[cQ]
theorem sX {a:Type} {l:List a} {r i:Nat} {x d:a} (h:r<l.length):bj (l.set r x) i d=if i=r then x else bj l i d:=by
 unfold bj;grind
section
variable {n m:Nat} {t:Tb} {r c:Nat}
theorem S3 {l:List Rat}:(kM l c).length=l.length:=by simp[kM]
theorem En {l p:List Rat}:(j9 l c p).length=l.length:=by simp[j9]
theorem JZ {l:List Rat} {j:Nat} (h:j<l.length):bj (kM l c) j 0=if j=c then 1 / bj l c 0 else bj l j 0*(1 / bj l c 0):=qZ h
theorem Eo {l p:List Rat} {j:Nat} (h:j<l.length):bj (j9 l c p) j 0=if j=c then -(bj l c 0*bj p j 0) else bj l j 0 - bj l c 0*bj p j 0:=qZ h
theorem S4 (h:t.WF n m):(fJ t r c).WF n m where
 cj:=by simp[fJ,h.cj]
 row i a:=by
  simp only[fJ];rw[qZ (by rw[h.cj];exact a)];split;·rename_i e;subst e;rw[S3,h.row _ a]
  ·rw[En,h.row _ a]
 bound:=by simp[fJ,h.bound]
 cost:=by simp only[fJ];rw[En,h.cost]
 basic:=by simp[fJ,h.basic]
 free:=by simp[fJ,h.free]
theorem AE (h:t.WF n m) (b:r<m) (e:c<n) {i j:Nat} (d:i<m) (a:j<n):(fJ t r c).cf i j=
  if i=r then(if j=c then 1 / t.cf r c else t.cf r j*(1 / t.cf r c)) else if j=c then -(t.cf i c*(1 / t.cf r c)) else t.cf i j - t.cf i c*(t.cf r j*(1 / t.cf r c)):=by
 unfold Tb.cf;simp only[fJ];rw[qZ (by rw[h.cj];exact d)];split;·rw[JZ (by rw[h.row _ b];exact a)]
 ·rw[Eo (by rw[h.row _ d];exact a)];rw[JZ (by rw[h.row _ b];exact a)];simp_all
theorem Ep (h:t.WF n m) {i:Nat} (a:i<m):(fJ t r c).bd i=if i=r then t.bd r*(1 / t.cf r c) else t.bd i - t.cf i c*(t.bd r*(1 / t.cf r c)):=by
 show bj _ i 0=_;simp only[fJ];rw[qZ (by rw[h.bound];exact a)]
theorem S5 (h:t.WF n m) (b:r<m) {j:Nat} (a:j<n):(fJ t r c).cs j=if j=c then -(t.cs c*(1 / t.cf r c)) else t.cs j - t.cs c*(t.cf r j*(1 / t.cf r c)):=by
 show bj _ j 0=_;simp only[fJ];rw[Eo (by rw[h.cost];exact a),JZ (by rw[h.row _ b];exact a)];split;·rfl
 ·rfl
theorem J0 (h:t.WF n m) (a:r<m) {i:Nat}:(fJ t r c).bv i=if i=r then t.fv c else t.bv i:=sX (by rw[h.basic];exact a)
theorem J1 (h:t.WF n m) (a:c<n) {j:Nat}:(fJ t r c).fv j=if j=c then t.bv r else t.fv j:=sX (by rw[h.free];exact a)
theorem piv_holds (h:t.WF n m) (b:r<m) (k:c<n) (K:t.cf r c≠0) {x:Int->Rat} {z:Rat}:(fJ t r c).holds n m x z↔t.holds n m x z:=by
 have d:∀f:Nat->Rat,cz n (λj=>f j*x (t.fv j))=f c*x (t.fv c)+cz n (λj=>if j=c then 0 else f j*x (t.fv j)):=λf=>Em k;have e:∀f:Nat->Rat,cz n (λj=>f j*x ((fJ t r c).fv j))=f c*x (t.bv r)+cz n (λj=>if j=c then 0 else f j*x (t.fv j)):=λf=>by
  rw[Em k,J1 h k,if_pos rfl];congr 1;refine dY λj _=>?_;split;·rfl
  ·rename_i p;rw[J1 h k,if_neg p]
 have I:cz n (λj=>if j=c then 0 else(fJ t r c).cf r j*x (t.fv j))=(1 / t.cf r c)*cz n (λj=>if j=c then 0 else t.cf r j*x (t.fv j)):=by
  rw[<-AB];refine dY λj p=>?_;split;·grind
  ·rename_i l;rw[AE h b k b p,if_pos rfl,if_neg l];grind
 have E:∀f g:Nat->Rat,∀q:Rat,(∀j,j<n->j≠c->g j=f j - q*(t.cf r j*(1 / t.cf r c)))->cz n (λj=>if j=c then 0 else g j*x (t.fv j))=cz n (λj=>if j=c then 0 else f j*x (t.fv j))+(-(q*(1 / t.cf r c)))*cz n (λj=>if j=c then 0 else t.cf r j*x (t.fv j)):=λf g q L=>by
  rw[<-AB,<-AA];refine dY λj p=>?_;grind
 have J:∀j,j<n->j≠c->(fJ t r c).cs j=t.cs j - t.cs c*(t.cf r j*(1 / t.cf r c)):=λj p l=>by rw[S5 h b p,if_neg l]
 have B:∀i,i<m->i≠r->∀j,j<n->j≠c->(fJ t r c).cf i j=t.cf i j - t.cf i c*(t.cf r j*(1 / t.cf r c)):=λi o a j p l=>by rw[AE h b k o p,if_neg a,if_neg l]
 have G:=E t.cs _ _ J;have v:=S5 (c:=c) h b k;rw[if_pos rfl] at v;have s:=AE h b k b k;rw[if_pos rfl,if_pos rfl] at s;have w:=Ep (r:=r) (c:=c) h b;rw[if_pos rfl] at w;have u:=J0 (c:=c) (i:=r) h b;rw[if_pos rfl] at u;have H:(fJ t r c).value=t.value+t.cs c*(t.bd r*(1 / t.cf r c)):=rfl;unfold Tb.holds;constructor
 ·rintro⟨A,F⟩;have C:=A r b;rw[e,I,s,u,w] at C;refine⟨λi o=>?_,?_⟩
  ·by_cases a:i=r
   ·subst a;rw[d];grind
   ·have D:=A i o;have y:=AE h b k o k;rw[if_neg a,if_pos rfl] at y;rw[e,E _ _ _ (B i o a),J0 h b,if_neg a,Ep h o,if_neg a,y] at D;rw[d];grind
  ·rw[e,G,v,H] at F;rw[d];grind
 ·rintro⟨A,F⟩;have C:=A r b;rw[d] at C;refine⟨λi o=>?_,?_⟩
  ·by_cases a:i=r
   ·subst a;rw[e,I,s,u,w];grind
   ·have D:=A i o;have y:=AE h b k o k;rw[if_neg a,if_pos rfl] at y;rw[e,E _ _ _ (B i o a),J0 h b,if_neg a,Ep h o,if_neg a,y];rw[d] at D;grind
  ·rw[e,G,v,H];rw[d] at F;grind
end
def nI (f:Int->Rat):List Int->Rat
 |[]=>0
 |x::l=>f x+nI f l
theorem J2 {f:Int->Rat}:∀{l k:List Int},nI f (l++k)=nI f l+nI f k
 |[],k=>by grind[nI];|x::l,k=>by simp only[γE,nI,@J2 f l k];grind
theorem S7 {f:Int->Rat} {l k:List Int} (h:l.Perm k):nI f l=nI f k:=by
 induction h<;>grind[nI,swap,trans]
theorem S8:∀{n:Nat} {f:Nat->Rat},cz (n+1) f=f 0+cz n λi=>f (i+1)
 |0,f=>by grind[cz];|n+1,f=>by
  rw[cz,S8];grind[cz]
theorem wa {f:Int->Rat}:∀{l:List Int},nI f l=cz l.length λk=>f (bj l k 0)
 |[]=>rfl
 |x::l=>by
  rw[γy,S8,nI,wa];rfl
def jM (n:Nat) (t:Tb) (y:Nat->Rat) (v:Int):Rat:=if v∈t.free then y (t.free.idxOf v) else t.bd (t.basic.idxOf v) - cz n λj=>t.cf (t.basic.idxOf v) j*y j
section
variable {n m:Nat} {t t0:Tb} {r c:Nat}
theorem qd {l:List Int} {i:Nat} (h:l.Nodup) (a:i<l.length):l.idxOf (bj l i 0)=i:=by
 grind[cQ]
theorem ou (h:t.WF n m) (c:(t.basic++t.free).Nodup) {y:Nat->Rat} {j:Nat} (a:j<n):jM n t y (t.fv j)=y j:=by
 have b:j<t.free.length:=by rw[h.free];exact a
 unfold jM Tb.fv;rw[if_pos (by grind[cQ]),qd (γz.1 c).2.1 b]
theorem S9 (h:t.WF n m) (b:(t.basic++t.free).Nodup) {i:Nat} (a:i<m):t.bv i∉t.free:=λc=>by
 have d:i<t.basic.length:=by rw[h.basic];exact a
 grind[Tb.bv,cQ]
theorem px (h:t.WF n m) (a:(t.basic++t.free).Nodup) {y:Nat->Rat} {i:Nat} (c:i<m):jM n t y (t.bv i)=t.bd i - cz n λj=>t.cf i j*y j:=by
 have b:i<t.basic.length:=by rw[h.basic];exact c
 have e:t.basic.idxOf (t.bv i)=i:=qd (γz.1 a).1 b;unfold jM;grind
theorem asg_holds (h:t.WF n m) (a:(t.basic++t.free).Nodup) {y:Nat->Rat}:t.holds n m (jM n t y) (t.value+cz n λj=>t.cs j*y j):=by
 have e:∀f:Nat->Rat,cz n (λj=>f j*jM n t y (t.fv j))=cz n λj=>f j*y j:=λf=>dY λj c=>by grind[ou]
 refine⟨λi b=>?_,?_⟩
 ·rw[px h a b,e];grind
 ·rw[e]
def fK (m:Nat) (t0:Tb) (v:Int) (i:Nat):Rat:=if i<m then(if v∈t0.free then t0.cf i (t0.free.idxOf v) else if t0.basic.idxOf v=i then 1 else 0) else 0
def yr (m:Nat) (t0:Tb) (i:Nat):Rat:=if i<m then t0.bd i else 0
def jd (m:Nat) (t0 t:Tb):Rat:=jL (t.basic.map (fK m t0)) (τ m)
structure Run (n m:Nat) (t0 t:Tb):Prop where
 ov:t0.WF n m
 wf:t.WF n m
 nd:(t0.basic++t0.free).Nodup
 perm:(t.basic++t.free).Perm (t0.basic++t0.free)
 nJ:∀x z,t.holds n m x z↔t0.holds n m x z
 dt:jd m t0 t≠0
theorem Run.gV (h:Run n m t0 t):(t.basic++t.free).Nodup:=h.perm.symm.nodup h.nd
theorem Run.refl (h:t0.WF n m) (a:(t0.basic++t0.free).Nodup):Run n m t0 t0:=by
 refine⟨h,h,a,ζE _,λ_ _=>Iff.rfl,?_⟩;have e:t0.basic.map (fK m t0)=(τ m).map yq:=by
  refine δi (by simp[h.basic]) λi g d=>?_;simp only[List.getElem_map,List.getElem_range];have f:i<m:=by simp_all
  have b:t0.basic[i]'(by simp_all)=t0.bv i:=by grind[Tb.bv,cQ]
  rw[b];funext k;have c:t0.basic.idxOf (t0.bv i)=i:=qd (γz.1 a).1 (by grind);unfold fK yq;grind
 grind[jd,S0]
theorem Run.rows (h:Run n m t0 t) {x:Int->Rat} {z:Rat} (l:t.holds n m x z) {i:Nat}:cz m (λk=>fK m t0 (t.bv k) i*x (t.bv k))+cz n (λj=>fK m t0 (t.fv j) i*x (t.fv j))=yr m t0 i:=by
 have b:∀t:Tb,t.WF n m->nI (λv=>fK m t0 v i*x v) (t.basic++t.free)=cz m (λk=>fK m t0 (t.bv k) i*x (t.bv k))+cz n (λj=>fK m t0 (t.fv j) i*x (t.fv j)):=λt f=>by
  rw[J2,wa,wa,f.basic,f.free];rfl
 rw[<-b t h.wf,S7 h.perm,b t0 h.ov];have p:=(h.nJ x z).1 l;unfold yr;by_cases a:i<m
 ·rw[if_pos a,<-p.1 i a];congr 1
  ·have e:cz m (λk=>fK m t0 (t0.bv k) i*x (t0.bv k))=cz m λk=>if k=i then x (t0.bv i) else 0:=dY λk d=>by
    have c:t0.basic.idxOf (t0.bv k)=k:=qd (γz.1 h.nd).1 (by rw[h.ov.basic];exact d);unfold fK;rw[if_pos a,if_neg (S9 h.ov h.nd d),c];grind
   rw[e,v8,if_pos a]
  ·refine dY λj g=>?_;have o:j<t0.free.length:=by rw[h.ov.free];exact g
   unfold fK;rw[if_pos a,if_pos (by grind[Tb.fv,cQ])];have c:t0.free.idxOf (t0.fv j)=j:=qd (γz.1 h.nd).2.1 o;rw[c]
 ·rw[if_neg a];have e:∀v,fK m t0 v i=0:=λv=>by simp_all[fK,if_neg]
  simp only[e];grind[kL]
theorem Run.Ta (h:Run n m t0 t):yr m t0=λi=>cz m λk=>t.bd k*fK m t0 (t.bv k) i:=by
 funext i;have a:=h.rows (i:=i) (asg_holds h.wf h.gV (y:=λ_=>0));rw[<-a,dY (n:=n) (g:=λ_=>0) λj c=>by rw[ou h.wf h.gV c];grind,kL,dY (n:=m) (g:=λk=>t.bd k*fK m t0 (t.bv k) i) λk b=>by
  rw[px h.wf h.gV b,dY (g:=λ_=>0) λj _=>by grind,kL];grind];grind
theorem Run.acJ (h:Run n m t0 t) {c:Nat} (a:c<n):fK m t0 (t.fv c)=λi=>cz m λk=>t.cf k c*fK m t0 (t.bv k) i:=by
 funext i;have f:=congrFun h.Ta i;have b:=h.rows (i:=i) (asg_holds h.wf h.gV (y:=λj=>if j=c then 1 else 0));rw[dY (n:=n) (g:=λj=>if j=c then fK m t0 (t.fv c) i else 0) λj e=>by
  rw[ou h.wf h.gV e];grind,v8,if_pos a,dY (n:=m) (g:=λk=>t.bd k*fK m t0 (t.bv k) i+(-1)*(t.cf k c*fK m t0 (t.bv k) i)) λk d=>by
   rw[px h.wf h.gV d,dY (g:=λj=>if j=c then t.cf k c else 0) λj _=>by
    grind,v8,if_pos a];grind,AA,AB] at b;grind
theorem getD_map {l:List Int} {f:Int->Nat->Rat} {k:Nat} (h:k<l.length):(l.map f).getD k (λ_=>0)=f (bj l k 0):=by
 grind[cQ]
theorem Run.Tc (h:Run n m t0 t) {y:Nat->Rat} {r:Nat} (d:r<m):jL ((t.basic.map (fK m t0)).set r λi=>cz m λk=>y k*fK m t0 (t.bv k) i) (τ m)=y r*jd m t0 t:=by
 have b:(t.basic.map (fK m t0)).length=m:=by rw[γB,h.wf.basic]
 have a:=@acI (t.basic.map (fK m t0)) (τ m) y r (by omega);unfold jd;rw[<-a,b];congr 2;funext i;refine dY λk c=>?_;rw[getD_map (by simp_all)];rfl
theorem Run.Td (h:Run n m t0 t) {r c:Nat} (a:r<m) (b:c<n):jL ((t.basic.map (fK m t0)).set r (fK m t0 (t.fv c))) (τ m)=t.cf r c*jd m t0 t:=by
 rw[h.acJ b];exact h.Tc (y:=λk=>t.cf k c) a
theorem Run.acK (h:Run n m t0 t) {r:Nat} (a:r<m):jL ((t.basic.map (fK m t0)).set r (yr m t0)) (τ m)=t.bd r*jd m t0 t:=by
 rw[h.Ta];exact h.Tc (y:=t.bd) a
theorem set_perm {l:List Int} {r:Nat} {x:Int} (a:r<l.length):(l.set r x).Perm (x::(l.take r++l.drop (r+1))):=by
 rw[εJ,if_pos a];simp_all
theorem acL {l:List Int} {r:Nat} (a:r<l.length):(l[r]::(l.take r++l.drop (r+1))).Perm l:=by
 have h:=@set_perm l r l[r] a;grind
theorem swap_perm {l k:List Int} {r c:Nat} (a:r<l.length) (b:c<k.length):(l.set r (bj k c 0)++k.set c (bj l r 0)).Perm (l++k):=by
 grind[cQ]
theorem Run.piv (h:Run n m t0 t) {r c:Nat} (a:r<m) (b:c<n) (d:t.cf r c≠0):Run n m t0 (fJ t r c) where
 ov:=h.ov;wf:=S4 h.wf;nd:=h.nd;perm:=(swap_perm (by rw[h.wf.basic];exact a) (by rw[h.wf.free];exact b)).trans h.perm;nJ x z:=(piv_holds h.wf a b d).trans (h.nJ x z);dt:=by
  have e:jd m t0 (fJ t r c)=t.cf r c*jd m t0 t:=by
   rw[<-h.Td a b];unfold jd;congr 1;show(t.basic.set r (t.fv c)).map (fK m t0)=_;simp_all
  rw[e];have:=h.dt;grind
theorem Es {M:Nat} (d:1<=M) (c:∀i j,i<m->j<n->eU M (t0.cf i j)) (a:t0.WF n m) {v:Int} {i:Nat}:eU M (fK m t0 v i):=by
 unfold fK;split
 ·split
  ·rename_i b e;exact c _ _ b (by rw[<-a.free];grind)
  ·split;·exact⟨1,by simp,by omega⟩
   ·exact⟨0,by simp,by simp⟩
 ·exact⟨0,by simp,by simp⟩
theorem mem_set {C:List (Nat->Rat)} {r:Nat} {c d:Nat->Rat} (h:d∈C.set r c):d∈C\/d=c:=List.mem_or_eq_of_mem_set h
theorem Run.acM (h:Run n m t0 t) {M:Nat} (a:1<=M) (c:∀i j,i<m->j<n->eU M (t0.cf i j)):eU (nH M m) (jd m t0 t):=by
 have:=@Ek M (t.basic.map (fK m t0)) (τ m) (by simp[h.wf.basic]) λd b i _=>by
  obtain⟨v,_,rfl⟩:=γg.1 b;exact Es a c h.ov
 rwa [List.length_range] at this
theorem Run.cfZ (h:Run n m t0 t) {M:Nat} (e:1<=M) (b:∀i j,i<m->j<n->eU M (t0.cf i j)) {r c:Nat} (f:r<m) (g:c<n):eU (nH M m) (t.cf r c*jd m t0 t):=by
 rw[<-h.Td f g];have:=@Ek M ((t.basic.map (fK m t0)).set r (fK m t0 (t.fv c))) (τ m) (by simp[h.wf.basic]) λd a i _=>by
  rcases mem_set a with a|rfl
  ·obtain⟨v,_,rfl⟩:=γg.1 a;exact Es e b h.ov
  ·exact Es e b h.ov
 simp_all
theorem Run.bdZ (h:Run n m t0 t) {M:Nat} (b:1<=M) (c:∀i j,i<m->j<n->eU M (t0.cf i j)) (f:∀i,i<m->eU M (t0.bd i)) {r:Nat} (e:r<m):eU (nH M m) (t.bd r*jd m t0 t):=by
 rw[<-h.acK e];have:=@Ek M ((t.basic.map (fK m t0)).set r (yr m t0)) (τ m) (by simp[h.wf.basic]) λd a i g=>by
  rcases mem_set a with a|rfl
  ·obtain⟨v,_,rfl⟩:=γg.1 a;exact Es b c h.ov
  simp_all[yr]
 simp_all
end
structure q0 (n m:Nat) (t:Tb) (r c:Nat):Prop where
 hr:r<m
 hc:c<n
 cost:0<t.cs c
 least:∀j,j<n->0<t.cs j->t.fv c<=t.fv j
 pos:0<t.cf r c
 ratio:∀i,i<m->0<t.cf i c->t.bd r / t.cf r c<t.bd i / t.cf i c\/(t.bd r / t.cf r c=t.bd i / t.cf i c/\t.bv r<=t.bv i)
def kg (m:Nat) (t:Tb):Prop:=∀i,i<m->0<=t.bd i
section
variable {n m:Nat} {t t0:Tb} {r c:Nat}
theorem AG (a b:Rat):a<=b\/b<a:=(Classical.em (a<=b)).imp id ζN.1
theorem div_mul {a b:Rat} (h:0<b):a / b*b=a:=by
 grind
theorem inv_pos {b:Rat} (h:0<b):0<1 / b:=by
 have c:(1 / b)*b=1:=div_mul h;rcases AG (1 / b) 0 with a|a
 ·exfalso;have d:0<=(-(1 / b))*b:=δC (by grind) (by grind);grind
 ·exact a
theorem Tf {a b:Rat} (c:0<=a) (h:0<b):0<=a / b:=by
 grind[δC,inv_pos]
theorem q0.ge (h:q0 n m t r c) (a:kg m t):0<=t.bd r / t.cf r c:=Tf (a r h.hr) h.pos
theorem q0.yt (h:q0 n m t r c) (k:t.WF n m) (d:kg m t):kg m (fJ t r c):=by
 intro i a;have f:=h.ge d;have e:t.bd r*(1 / t.cf r c)=t.bd r / t.cf r c:=by grind
 rw[Ep k a,e];split;·exact f
 ·rcases AG (t.cf i c) 0 with b|b
  ·have j:0<=(-(t.cf i c))*(t.bd r / t.cf r c):=δC (by grind) f;have:=d i a;grind
  ·have j:t.bd r / t.cf r c<=t.bd i / t.cf i c:=by
    rcases h.ratio i a b with g|g<;>grind
   have g:0<=t.cf i c*(t.bd i / t.cf i c - t.bd r / t.cf r c):=δC (by grind) (by grind);grind[div_mul]
theorem q0.value:(fJ t r c).value=t.value+t.cs c*(t.bd r / t.cf r c):=by
 show t.value+t.cs c*(t.bd r*(1 / t.cf r c))=_;grind
theorem J3 {b:Type}:∀(L:List b) (f:Nat->b),(∀k,f k∈L)->∃i j,i<j/\f i=f j
 |[],f,h=>by simp_all;|a::L,f,h=>by
  by_cases c:∃i,f i=a
  ·obtain⟨i,g⟩:=c;by_cases e:∃j,i<j/\f j=a;·grind
   ·obtain⟨x,y,d,l⟩:=J3 L (λk=>f (k+i+1)) λk=>by
     grind
    grind
  ·exact J3 L f λk=>by
    simp_all
def AH (V:List Int):Nat->List (List Int)
 |0=>[[]]
 |k+1=>(AH V k).flatMap λl=>V.map λv=>v::l
theorem Ti {V:List Int}:∀{l:List Int},(∀v∈l,v∈V)->l∈AH V l.length
 |[],_=>by simp[AH];|x::l,h=>by
  simp only[γy,AH,List.mem_flatMap,γg];exact⟨l,Ti λv a=>h v (by simp[a]),x,h x (by simp),rfl⟩
theorem acP {l:List Int} {r:Nat} {x v:Int} (a:r<l.length) (b:l.Nodup):v∈l.set r x↔v=x\/(v∈l/\v≠bj l r 0):=by
 grind[set_perm,cQ,acL]
theorem Tj {f:Nat->Int} {i:Nat}:∀{d:Nat},∃k,(i<=k/\k<=i+d)/\∀x,i<=x->x<=i+d->f x<=f k
 |0=>⟨i,by omega,λx a b=>by grind⟩
 |d+1=>by
  obtain⟨k,a,b⟩:=@Tj f i d;by_cases h:f k<=f (i+(d+1))
  ·refine⟨i+(d+1),by omega,λx c e=>?_⟩;grind
  ·refine⟨k,by omega,λx c e=>?_⟩;grind
theorem Tm:∀{n:Nat} {f:Nat->Rat},0<cz n f->∃j,j<n/\0<f j
 |0,f,h=>by grind[cz];|n+1,f,h=>by
  rcases AG (f n) 0 with a|a
  ·obtain⟨j,c,b⟩:=@Tm n f (by grind[cz]);grind
  grind
theorem yu (h:t.WF n m) {j:Nat} (a:j<n):t.fv j∈t.free:=by
 have b:j<t.free.length:=by rw[h.free];exact a
 grind[Tb.fv,cQ]
theorem AI (h:t.WF n m) {j:Nat} (a:j<m):t.bv j∈t.basic:=by
 have b:j<t.basic.length:=by rw[h.basic];exact a
 grind[Tb.bv,cQ]
theorem yv (h:t.WF n m) {v:Int} (b:v∈t.free):∃j,j<n/\t.fv j=v:=by
 obtain⟨j,a,rfl⟩:=δc b;exact⟨j,by rw[<-h.free];exact a,by grind[Tb.fv,cQ]⟩
theorem yw (h:t.WF n m) {v:Int} (b:v∈t.basic):∃j,j<m/\t.bv j=v:=by
 obtain⟨j,a,rfl⟩:=δc b;exact⟨j,by rw[<-h.basic];exact a,by grind[Tb.bv,cQ]⟩
theorem J4 (c:(t.basic++t.free).Nodup) {v:Int} (a:v∈t.basic) (b:v∈t.free):False:=(γz.1 c).2.2 _ a _ b rfl
theorem acQ (h:t.WF n m) (c:(t.basic++t.free).Nodup) {i j:Nat} (f:i<m) (d:j<m) (e:t.bv i=t.bv j):i=j:=by
 have a:=qd (γz.1 c).1 (show i<t.basic.length by rw[h.basic];exact f);have b:=qd (γz.1 c).1 (show j<t.basic.length by rw[h.basic];exact d);grind[Tb.bv]
theorem acR (h:t.WF n m) (c:(t.basic++t.free).Nodup) {i j:Nat} (f:i<n) (d:j<n) (e:t.fv i=t.fv j):i=j:=by
 have a:=qd (γz.1 c).2.1 (show i<t.free.length by rw[h.free];exact f);have b:=qd (γz.1 c).2.1 (show j<t.free.length by rw[h.free];exact d);grind[Tb.fv]
theorem acS {T:Nat->Tb} {r c:Nat->Nat} (p:∀k,Run n m t0 (T k)) (hF:∀k,kg m (T k)) (B:∀k,q0 n m (T k) (r k) (c k)) (hT:∀k,T (k+1)=fJ (T k) (r k) (c k)) {i j:Nat} (b8:i<j) (hb:(T i).basic=(T j).basic) (hf:(T i).free=(T j).free):False:=by
 have b7:(T i).value=(T j).value:=by
  have t:=((p j).nJ _ _).2 (((p i).nJ _ _).1 (asg_holds (p i).wf (p i).gV (y:=λ_=>0)));have e1:cz n (λk=>(T i).cs k*(λ_=>(0:Rat)) k)=0:=by grind[kL]
  have e2:cz n (λk=>(T j).cs k*jM n (T i) (λ_=>0) ((T j).fv k))=0:=by
   rw[dY (g:=λ_=>0) λk hk=>by
    have:(T j).fv k=(T i).fv k:=by grind[Tb.fv]
    rw[this,ou (p i).wf (p i).gV hk];grind,kL]
  have K:=t.2;grind
 have L:∀k,(T k).value<=(T (k+1)).value:=λk=>by
  rw[hT k,q0.value];have:=δC (a:=(T k).cs (c k)) (by have:=(B k).cost;grind) ((B k).ge (hF k));grind
 have S:∀d a,(T a).value<=(T (a+d)).value:=λd=>by
  induction d<;>grind
 have H:∀k,i<=k->k<j->(T k).bd (r k)=0:=λk t K=>by
  have a1:=S (k - i) i;have a2:=S (j - (k+1)) (k+1);rw[show i+(k - i)=k by omega] at a1;rw[show k+1+(j - (k+1))=j by omega] at a2;have a3:=L k;rw[hT k] at a2 a3;rw[q0.value] at a2 a3;have h3:=(B k).ge (hF k);have hc:=(B k).cost;have h4:=@div_mul ((T k).bd (r k)) _ (B k).pos;grind[Rat.mul_eq_zero]
 have b6:∀k,i<=k->k<j->∀v,v∈(T k).basic++(T k).free->jM n (T (k+1)) (λ_=>0) v=jM n (T k) (λ_=>0) v:=λk t K v O=>by
  have hw:=(p k).wf;have G:=(p (k+1)).wf;have hx:=((p (k+1)).nJ _ _).2 (((p k).nJ _ _).1 (asg_holds hw (p k).gV (y:=λ_=>0)));have hz:∀q,q<n->jM n (T k) (λ_=>0) ((T (k+1)).fv q)=0:=λq s=>by
   rw[hT k,J1 hw (B k).hc];split
   ·rw[px hw (p k).gV (B k).hr,H k t K,dY (g:=λ_=>0) λj _=>by grind,kL];grind
   ·rw[ou hw (p k).gV s]
  have A:v∈(T (k+1)).basic++(T (k+1)).free:=((p (k+1)).perm.trans (p k).perm.symm).mem_iff.2 O;rcases Γ.1 A with A|A
  ·obtain⟨q,s,rfl⟩:=yw G A;have:=hx.1 q s;rw[dY (g:=λ_=>0) λj hj=>by simp_all,kL] at this;rw[px G (p (k+1)).gV s,dY (g:=λ_=>0) λj _=>by grind,kL];grind
  ·obtain⟨q,s,rfl⟩:=yv G A;rw[hz q s,ou G (p (k+1)).gV s]
 have w:∀a b v,v∈(T a).basic++(T a).free->v∈(T b).basic++(T b).free:=λa b v O=>((p b).perm.trans (p a).perm.symm).mem_iff.2 O;have W:∀d a,i<=a->a+d<=j->∀v,v∈(T a).basic++(T a).free->jM n (T (a+d)) (λ_=>0) v=jM n (T a) (λ_=>0) v:=λd=>by
  induction d<;>grind
 have hA:∀a b,i<=a->a<=j->i<=b->b<=j->∀v,v∈(T a).basic++(T a).free->jM n (T a) (λ_=>0) v=jM n (T b) (λ_=>0) v:=λa b t K h3 h4 v O=>by
  have e1:=W (a - i) i (by omega) (by omega) v (w _ _ v O);have e2:=W (b - i) i (by omega) (by omega) v (w _ _ v O);simp_all
 have P:∀k v,v∈(T (k+1)).basic↔v=(T k).fv (c k)\/(v∈(T k).basic/\v≠(T k).bv (r k)):=λk v=>by
  rw[hT k];exact acP (by rw[(p k).wf.basic];exact(B k).hr) (γz.1 (p k).gV).1
 have U:∀v a b,i<=a->a<=j->i<=b->b<=j->v∈(T a).basic->v∉(T b).basic->∃k,i<=k/\k<j/\(T k).fv (c k)=v:=λv a b a1 a2 b1 b2 ha a9=>by
  apply δ1;intro Y;have I:∀d x,i<=x->x+d<=j->v∈(T (x+d)).basic->v∈(T x).basic:=λd=>by
   induction d<;>grind
  have t:=I (a - i) i (by omega) (by omega) (by simp_all);rw[hb] at t;exact a9 (I (j - b) b (by omega) (by omega) (by simp_all))
 obtain⟨l,⟨a6,b9⟩,a0⟩:=@Tj (λk=>(T k).fv (c k)) i (j - 1 - i);have J:∀x,i<=x->x<j->(T x).fv (c x)<=(T l).fv (c l):=λx t K=>a0 x t (by omega);have c2:l<j:=by omega
 have a7:(T l).fv (c l)∈(T l).free:=yu (p l).wf (B l).hc;have c0:(T l).fv (c l)∉(T l).basic:=λh=>J4 (p l).gV h a7;obtain⟨o,F,Q,hl⟩:∃o,i<=o/\o<j/\(T o).bv (r o)=(T l).fv (c l):=by
  apply δ1;intro Y;have up:∀d x,i<=x->x+d<=j->(T l).fv (c l)∈(T x).basic->(T l).fv (c l)∈(T (x+d)).basic:=λd=>by
   induction d with
   |zero=>intro x _ _ h;exact h;|succ d ih=>
    intro x t K h;exact(P (x+d) _).2 (.inr ⟨ih x t (by omega) h,λe=>Y ⟨x+d,by omega,by omega,e.symm⟩⟩)
  have t:=up (j - (l+1)) (l+1) (by omega) (by omega) ((P l _).2 (.inl rfl));rw[show l+1+(j - (l+1))=j by omega,<-hb] at t;have K:=up (l - i) i (by omega) (by omega) t;simp_all
 have w1:=(p l).wf;have C:=(p o).wf;have n1:=(p l).gV;have E:=(p o).gV;have p1:=B l;have N:=B o;have x1:=(((p l).nJ _ _).2 (((p o).nJ _ _).1 (asg_holds C E (y:=λq=>if q=c o then 1 else 0)))).2;have x0:=(((p l).nJ _ _).2 (((p o).nJ _ _).1 (asg_holds C E (y:=λ_=>0)))).2;rw[dY (f:=λq=>(T o).cs q*(λq=>if q=c o then(1:Rat) else 0) q) (g:=λq=>if q=c o then(T o).cs (c o) else 0) λq _=>by
  by_cases s:q=c o<;>grind,v8,if_pos N.hc] at x1;rw[dY (f:=λq=>(T o).cs q*(λ_=>(0:Rat)) q) (g:=λ_=>0) λq _=>by grind,kL] at x0;have hd:0<cz n λq=>(T l).cs q*(jM n (T o) (λq=>if q=c o then 1 else 0) ((T l).fv q) - jM n (T o) (λ_=>0) ((T l).fv q)):=by
  rw[dY (g:=λq=>(T l).cs q*jM n (T o) (λq=>if q=c o then 1 else 0) ((T l).fv q)+(-1)*((T l).cs q*jM n (T o) (λ_=>0) ((T l).fv q))) λq _=>by grind,AA,AB];have:=N.cost;grind
 obtain⟨q,s,u⟩:=Tm hd;have a5:(T l).fv q∈(T l).free:=yu w1 s;have Z:=w l o _ (List.mem_append_right _ a5);rcases Γ.1 Z with a4|X
 ·obtain⟨D,z,e⟩:=yw C a4;rw[<-e,px C E z,px C E z,dY (f:=λj=>(T o).cf D j*(λq=>if q=c o then(1:Rat) else 0) j) (g:=λj=>if j=c o then(T o).cf D (c o) else 0) (λj _=>by
   by_cases hj:j=c o<;>grind),v8,if_pos N.hc,dY (f:=λj=>(T o).cf D j*(λ_=>(0:Rat)) j) (g:=λ_=>0) (λj _=>by grind),kL] at u;have M:0<(T l).cs q*(-(T o).cf D (c o)):=by grind
  obtain⟨k3,b3,b5,h3⟩:=U _ o l F (by omega) a6 (by omega) a4 (λh=>J4 n1 h a5);have b0:(T l).fv q<=(T l).fv (c l):=by grind
  rcases AG ((T l).cs q) 0 with hs|hs
  ·have a8:0<(T o).cf D (c o):=by
    rcases AG ((T o).cf D (c o)) 0 with h4|h4
    ·exfalso;have:=δC (a:= -(T l).cs q) (b:= -(T o).cf D (c o)) (by grind) (by grind);grind
    ·exact h4
   have b4:(T o).bd D=0:=by
    have V:=hA o l F (by omega) a6 (by omega) ((T l).fv q) Z;rw[ou w1 n1 s,<-e,px C E z,dY (g:=λ_=>0) λj _=>by grind,kL] at V;grind
   have c1:=H o F Q;have hz:∀b:Rat,(0:Rat) / b=0:=λb=>by grind
   rcases N.ratio D z a8 with h6|h6;·simp_all
   ·have h7:(T l).fv (c l)<=(T l).fv q:=by omega
    have h8:=acR w1 n1 s p1.hc (by omega);rw[h8] at hs;have:=p1.cost;grind
  ·have h7:=p1.least q s hs;have h8:D=r o:=acQ C E z N.hr (by omega);rw[h8] at M;have:=δC (a:=(T l).cs q) (b:=(T o).cf (r o) (c o)) (by grind) (by have:=N.pos;grind);grind
 ·obtain⟨q2,R,e⟩:=yv C X;rw[<-e,ou C E R,ou C E R] at u;by_cases V:q2=c o
  ·rw[if_pos V] at u;have h6:=p1.least q s (by grind);have h7:=J o F Q;rw[V] at e;have h8:(T l).fv (c l)=(T o).fv (c o):=by omega
   exact J4 E (AI C N.hr) (by grind)
  ·rw[if_neg V] at u;grind
end
def eh (t:Tb):Nat->Int
 |0=> -1
 |k+1=>if 0<t.cs k/\(eh t k<0\/t.fv k<t.fv (eh t k).toNat) then(k:Int) else eh t k
def dR (t:Tb) (c:Nat):Nat->Int
 |0=> -1
 |k+1=>if t.cf k c<=0 then dR t c k
  else if 0<=dR t c k/\(t.bd (dR t c k).toNat / t.cf (dR t c k).toNat c<t.bd k / t.cf k c\/(t.bd k / t.cf k c=t.bd (dR t c k).toNat / t.cf (dR t c k).toNat c/\t.bv (dR t c k).toNat<t.bv k)) then dR t c k
  else(k:Int)
section
variable {n m:Nat} {t t0:Tb} {r c:Nat}
theorem wb:∀{k:Nat},(eh t k= -1/\∀j,j<k->¬0<t.cs j)\/(∃b:Nat,eh t k=b/\b<k/\0<t.cs b/\∀j,j<k->0<t.cs j->t.fv b<=t.fv j)
 |0=> .inl ⟨rfl,λj h=>by omega⟩
 |k+1=>by
  unfold eh;rcases @wb k with⟨a,c⟩|⟨b,a,c,d,e⟩;·grind
  ·have f:(eh t k).toNat=b:=by omega
   grind
theorem wh {c:Nat}:∀{k:Nat},(dR t c k= -1/\∀j,j<k->t.cf j c<=0)\/(∃b:Nat,dR t c k=b/\b<k/\0<t.cf b c/\∀j,j<k->0<t.cf j c->t.bd b / t.cf b c<t.bd j / t.cf j c\/(t.bd b / t.cf b c=t.bd j / t.cf j c/\t.bv b<=t.bv j))
 |0=> .inl ⟨rfl,λj h=>by omega⟩
 |k+1=>by
  unfold dR;by_cases e:t.cf k c<=0
  ·rw[if_pos e];rcases @wh c k with⟨f,a⟩|⟨b,f,a,o,n⟩<;>grind
  ·rw[if_neg e];have g:0<t.cf k c:=ζN.1 e;rcases @wh c k with⟨f,a⟩|⟨b,f,a,o,n⟩;·grind
   ·have i:(dR t c k).toNat=b:=by omega
    rw[i];by_cases d:0<=dR t c k/\(t.bd b / t.cf b c<t.bd k / t.cf k c\/(t.bd k / t.cf k c=t.bd b / t.cf b c/\t.bv b<t.bv k));·grind
    ·rw[if_neg d];have l:¬t.bd b / t.cf b c<t.bd k / t.cf k c:=λh=>d ⟨by omega,.inl h⟩;have m:t.bd k / t.cf k c=t.bd b / t.cf b c->¬t.bv b<t.bv k:=λh a=>d ⟨by omega,.inr ⟨h,a⟩⟩;refine .inr ⟨k,rfl,by omega,g,λj p q=>?_⟩;grind
end
def stepT (n m:Nat) (t:Tb):Option Tb:=
 if eh t n<0 then none
 else if dR t (eh t n).toNat m<0 then none
 else some (fJ t (dR t (eh t n).toNat m).toNat (eh t n).toNat)
def fb (n m:Nat):Nat->Tb->Bool
 |0,t=>(stepT n m t).isNone
 |k+1,t=>match stepT n m t with
  |none=>true
  |some a=>fb n m k a
def runT (n m:Nat):Nat->Tb->Tb
 |0,t=>t
 |k+1,t=>match stepT n m t with
  |none=>t
  |some a=>runT n m k a
def yx (n m N:Nat) (t:Tb):Nat:=((τ N).filter λk=>!fb n m k t).length
section
variable {n m:Nat} {t t0 t':Tb}
theorem Tn (h:stepT n m t=some t'):∃r c,q0 n m t r c/\t'=fJ t r c/\eh t n=(c:Int)/\dR t c m=(r:Int):=by
 unfold stepT at h;split at h;·cases h
 ·rename_i p;split at h;·cases h
  ·rename_i o;injection h with h;rcases @wb t n with⟨b,_⟩|⟨c,b,d,e,k⟩;·omega
   ·have f:(eh t n).toNat=c:=by omega
    rw[f] at h o;rcases @wh t c m with⟨a,_⟩|⟨r,a,i,j,l⟩;·omega
    ·have g:(dR t c m).toNat=r:=by omega
     rw[g] at h;exact⟨r,c,⟨i,d,e,k,j,l⟩,h.symm,b,a⟩
theorem J5 (b:Run n m t0 t) (d:kg m t) (h:stepT n m t=some t'):Run n m t0 t'/\kg m t':=by
 obtain⟨r,c,a,rfl,_⟩:=Tn h;exact⟨b.piv a.hr a.hc (by have:=a.pos;grind),a.yt b.wf d⟩
theorem J6:∀{k:Nat} {t:Tb},fb n m k t=true->fb n m (k+1) t=true
 |0,t,h=>by
  grind[fb];|k+1,t,h=>by
  unfold fb at h ⊢;split;·rfl
  ·rename_i b a;rw[a] at h;exact J6 h
theorem left_step {N:Nat} (b:fb n m N t=true) (h:stepT n m t=some t'):yx n m N t'<yx n m N t:=by
 unfold yx;have e:∀k,fb n m k t'=fb n m (k+1) t:=λk=>by grind[fb]
 have c:fb n m 0 t=false:=by simp[fb,h]
 simp only[e];cases N with
 |zero=>simp_all;|succ N=>
  have a:∀f:Nat->Bool,((τ (N+1)).filter f).length=(if f 0 then 1 else 0)+((τ N).filter λk=>f (k+1)).length:=λf=>by
   rw[List.range_succ_eq_map,List.filter_cons,List.filter_map,];grind[Function.comp_def]
  rw[a (λk=>!fb n m k t),c];rw[List.range_succ,List.filter_append,ν];simp[b]
theorem Tq {N:Nat} (a:fb n m N t=true) (h:stepT n m t=some t'):fb n m N t'=true:=by
 cases N<;>grind[fb,J6]
theorem J7 (D:Run n m t0 t) (o:kg m t):∃N,fb n m N t=true:=by
 apply δ1;intro u;have e:∀N,fb n m N t=false:=λN=>by
  simp_all
 let T:Nat->Tb:=λk=>Nat.rec t (λ_ s=>(stepT n m s).getD s) k;have d:∀k,T (k+1)=(stepT n m (T k)).getD (T k):=λk=>rfl;have A:∀k N,fb n m N (T k)=false:=by
  intro k;induction k with
  |zero=>exact e;|succ k l=>
   intro N;rw[d];cases z:stepT n m (T k) with
   |none=>simp_all;|some q=>
    have:=l (N+1);grind[fb]
 have w:∀k,stepT n m (T k)=some (T (k+1)):=λk=>by
  rw[d];cases z:stepT n m (T k) with
  |none=>have:=A k 0;grind[fb];|some q=>rfl
 have a:∀k,Run n m t0 (T k)/\kg m (T k):=by
  intro k;induction k with
  |zero=>exact⟨D,o⟩;|succ k l=>grind[J5]
 have b:∀k,∃p:Nat×Nat,q0 n m (T k) p.1 p.2/\T (k+1)=fJ (T k) p.1 p.2:=λk=>by
  obtain⟨r,c,f,E,_⟩:=Tn (w k);exact⟨(r,c),f,E⟩
 let p:Nat->Nat×Nat:=λk=>Classical.choose (b k);have h:∀k,q0 n m (T k) (p k).1 (p k).2/\T (k+1)=fJ (T k) (p k).1 (p k).2:=λk=>Classical.choose_spec (b k);obtain⟨i,j,g,B⟩:=J3 (AH (t0.basic++t0.free) (m+n)) (λk=>(T k).basic++(T k).free) λk=>by
  have f:=@Ti (t0.basic++t0.free) ((T k).basic++(T k).free) λv C=>(a k).1.perm.mem_iff.1 C;rwa [ν,(a k).1.wf.basic,(a k).1.wf.free] at f
 obtain⟨y,x⟩:=List.append_inj B (by rw[(a i).1.wf.basic,(a j).1.wf.basic]);exact acS (λk=>(a k).1) (λk=>(a k).2) (λk=>(h k).1) (λk=>(h k).2) g y x
end
open Go.Proofs.YtjcmncmajmoiiaaGreat.Ir
open Go.Proofs
def fL (l:List Rat):List bP:=l.map bu
def fM (l:List (List Rat)):List (List bP):=l.map fL
def vL (l:List bP):List Rat:=l.map ck
theorem mh (l:List Rat):vL (fL l)=l:=by
 unfold vL fL;rw[δx];conv=>rhs;rw[<-List.map_id l]
 exact γ2 λq _=>fa q
theorem kN (x:bP):(x.1,x.2.1,x.2.2)=x:=rfl
theorem fN {l:List Rat}:(fL l).length=l.length:=γB _
theorem J8 {l:List (List Rat)}:(fM l).length=l.length:=γB _
theorem js {l:List Rat} {i:Nat} (h:i<l.length) {d:bP}:bj (fL l) i d=bu (bj l i 0):=by
 grind[cQ,fL]
theorem J9 {l:List (List Rat)} {i:Nat} (h:i<l.length) {d:List bP}:bj (fM l) i d=fL (bj l i []):=by
 grind[cQ,fM]
structure nK where
 n:Int
 m:Int
 k0:Nat
 k1:Nat
 k3:Nat
 k4:Nat
 cj:List (List bP)
 bound:List bP
 cost:List bP
 v:bP
 basic:List Int
 free:List Int
def nK.gB (x:nK):bX:=
 [.cells [.si .i64 x.n,.si .i64 x.m,.ow 1 x.k0 1,.ow 2 x.k1 3,.row sF x.cost,.sb x.v.1,.row (.i .u32) x.v.2.1,.row (.i .u32) x.v.2.2,.ow 3 x.k3 1,.ow 4 x.k4 1] 267 10 false,
  .row (.bK sF) x.cj 91 false,.row sF x.bound 157 false,.row (.i .i64) x.basic 3 false,.row (.i .i64) x.free 3 false]
def Et:bX->Option nK
 |[.cells [a,b,.ow 1 k0 1,.ow 2 k1 3,c,v0,v1,v2,.ow 3 k3 1,.ow 4 k4 1] 267 10 false,.row s1 l1 91 false,.row s2 l2 157 false,.row s3 l3 3 false,.row s4 l4 3 false]=>
  match a.int .i64,b.int .i64,fZ sF c,jF sF [v0,v1,v2] with
  |some a,some b,some c,some v=>match iI s1 (.bK sF) l1,iI s2 sF l2,iI s3 (.i .i64) l3,iI s4 (.i .i64) l4 with
   |some l1,some l2,some l3,some l4=>some ⟨a,b,k0,k1,k3,k4,l1,l2,c,v,l3,l4⟩
   |_,_,_,_=>none
  |_,_,_,_=>none
 |_=>none
theorem acT {o:bX} {x:nK} (h:Et o=some x):gO o=gO x.gB:=by
 unfold Et at h;split at h
 ·split at h
  ·rename_i p l c e;split at h
   ·rename_i n j k m;simp only[γ] at h;subst h;obtain⟨rfl,f⟩:=nj n;obtain⟨rfl,b⟩:=nj j;obtain⟨rfl,d⟩:=nj k;obtain⟨rfl,i⟩:=nj m;cases f;cases b;cases d;cases i;have a:=nV e;simp only[ι,γp,dM,dI,π,and_true,List.nil_append,γE] at a;simp only[nK.gB,gO,ι,γp,bq.g,gL,gP p,gP l,jI c,SV.g];simp only[a];rfl
   ·cases h
  ·cases h
 ·cases h
theorem py {s:bn} {a b:List s.T} (h:cE s a=cE s b):a=b:=by
 by_cases d:s.sz=0;·exact absurd d (by
   have:∀s:bn,0<s.sz:=λs=>by
    induction s<;>simp only[bn.sz]<;>omega
   grind)
 ·have c:=congrArg γn h;rw[fj,fj] at c;exact lU s (Nat.eq_of_mul_eq_mul_right (by omega) c) h
theorem acU {x y:nK} (h:gO x.gB=gO y.gB):x=y:=by
 obtain⟨n,m,B,M,G,J,c,b,g,⟨I,K,F⟩,D,C⟩:=x;obtain⟨H,L,a,p,r,l,N,E,A,⟨k,w,q⟩,j,u⟩:=y;simp only[nK.gB,gO,ι,γp,bq.g,gL,SV.g,π,bQ.cells.injEq,and_true,true_and,γX,Value.int.injEq,Value.bool.injEq,εP,AV.sl.injEq] at h;obtain⟨⟨rfl,rfl,⟨rfl,_⟩,⟨rfl,_⟩,⟨_,d⟩,rfl,⟨_,v⟩,⟨_,e⟩,⟨rfl,_⟩,⟨rfl,_⟩⟩,f,t,o,z⟩:=h;rw[py (s:=sF) d,py (s:=.i .u32) v,py (s:=.i .u32) e,py (s:=.bK sF) f,py (s:=sF) t,py (s:=.i .i64) o,py (s:=.i .i64) z]
abbrev bG (n m:Int) (t:Tb):nK:=⟨n,m,t.cj.length,t.bound.length,t.basic.length,t.free.length,fM t.cj,fL t.bound,fL t.cost,bu t.value,t.basic,t.free⟩
def nK.t (x:nK):Tb:=⟨x.cj.map vL,vL x.bound,vL x.cost,ck x.v,x.basic,x.free⟩
theorem sY {n m:Int} {t:Tb}:(bG n m t).t=t:=by
 have e:(fM t.cj).map vL=t.cj:=by
  unfold fM;rw[δx];conv=>rhs;rw[<-List.map_id t.cj]
  exact γ2 λq _=>mh q
 simp_all[nK.t,mh,fa]
theorem acV (x:nK):(⟨x.n,x.m,x.k0,x.k1,x.k3,x.k4,x.cj,x.bound,x.cost,(x.v.1,x.v.2.1,x.v.2.2),x.basic,x.free⟩:nK)=x:=rfl
theorem Tt {n m:Int} {t:Tb}:(bG n m t).n=n:=rfl
theorem Tv {n m:Int} {t:Tb}:(bG n m t).m=m:=rfl
def wi (k:Nat) (t:Tb):Prop:=(∀l∈t.cj,∀q∈l,Sz k q)/\(∀q∈t.bound,Sz k q)/\(∀q∈t.cost,Sz k q)/\Sz k t.value
def kO (n m:Int) (t:Tb):Prop:=((0<=n/\n<=1000)/\(0<=m/\m<=1000))/\t.WF n.toNat m.toNat/\wi 1000000 t
def uG (f:FuncId) (c:Type) (A:qI c) (i:Int->Int->Tb->c->Prop) (e:Int->Int->Tb->c->SV) (out:Int->Int->Tb->c->Tb):cZ where
 f:=f;α:=nK×c;put a:=.ptr 0 0 10::A.put a.2;st a:=a.1.gB;dec v o:=match v with
  | .ptr 0 0 10::r=>match Et o,A.dec r with
   |some s,some b=>some (s,b)
   |_,_=>none
  |_=>none;ok v o a h:=by
  split at h
  ·split at h
   ·rename_i d g;simp only[γ] at h;subst h;exact⟨by simp only[gL,A.ok _ _ g],acT d⟩
   ·cases h
  ·cases h
 inj a b d g:=by
  simp only[gL,π,true_and] at d;exact εb (acU g) (A.inj _ _ d)
 dom a:=∃n m t,a.1=bG n m t/\kO n m t/\i n m t a.2;res a:=e a.1.n a.1.m a.1.t a.2;out a:=(bG a.1.n a.1.m (out a.1.n a.1.m a.1.t a.2)).gB
theorem ei {q:Rat} {k:Nat} (h:Sz k q) (a:k<=100000000):de (bu q):=⟨q,k,rfl,h,a⟩
section
variable {n m:Int} {t:Tb}
theorem kO.cf (h:kO n m t) {i j:Nat} (a:i<m.toNat) (c:j<n.toNat):Sz 1000000 (t.cf i j):=by
 have b:=cO (l:=t.cj) (d:=[]) (show i<t.cj.length by rw[h.2.1.cj];exact a);exact h.2.2.1 _ b _ (cO (by rw[h.2.1.row i a];exact c))
theorem kO.bd (h:kO n m t) {i:Nat} (a:i<m.toNat):Sz 1000000 (t.bd i):=h.2.2.2.1 _ (cO (by rw[h.2.1.bound];exact a))
theorem kO.cs (h:kO n m t) {j:Nat} (a:j<n.toNat):Sz 1000000 (t.cs j):=h.2.2.2.2.1 _ (cO (by rw[h.2.1.cost];exact a))
end
theorem yy {q:Rat}:0<kK q↔0<q:=by
 grind[kK]
theorem Tz {q:Rat}:kK q=0↔q=0:=by
 grind[kK]
theorem Ko {q:Rat}:kK q<0↔q<0:=by
 grind[kK]
def Kp:cZ:=uG 220 Unit .nil (λ_ _ _ _=>True) (λn _ t _=> .si .i64 (eh t n.toNat)) (λ_ _ t _=>t)
def acW (n m:Int) (t:Tb):Nat->cC
 |3=> .inv Int (λj=>⟨[(0,.ptr 0 0 10),(3,.si .i64 (eh t j.toNat)),(9,.ow 4 t.free.length 1),(10,.si .i64 t.free.length),(11,.si .i64 j)],(bG n m t).gB⟩)
   (λs=>iS s 11) (λj=>0<=j/\j<=n) (λj=>(n - j).toNat) λ_ _=> .look
 |_=> .look
theorem h411:dJ Tryz.prog Kp:=by
 refine jm (L:=[uE]) (W:=[]) Kp (λa=>acW a.1.n a.1.m a.1.t) (by simp) (by simpa using h99) ?_;rintro⟨x,u⟩ ⟨n,m,t,hx,hok, -⟩;simp only at hx;subst hx;refine bO (let a:=Ξ .i64;let b:=(0:Int);let c:=bq.row;let d:=SV.ow;let e:=Ψ;let r:=γV 0 0 10;let s:=(bG n m t).t;let F:=d 4 (bG n m t).k4 1;let y:=s.free.length;let z:=d 4 y 1;let A:=a (↑y:Int);let g:=(bG n m t).n;let B:=bn.i .u32;let f:=bG g (bG n m t).m s;let k:=bq.cells [a f.n,a f.m,d 1 f.k0 1,d 2 f.k1 3,e sF f.cost,γI f.v.fst,e B f.v.snd.fst,e B f.v.snd.snd,d 3 f.k3 1,d 4 f.k4 1] 267 10 false;let l:=c sF.bK f.cj 91 false;let o:=c sF f.bound 157 false;let C:=bn.i .i64;let p:=c C f.basic 3 false;let q:=c C f.free 3 false;let j:=f.free.length;(((r.same r/\(γr .i64 (-1:Int)).same (a (eh s 0))/\F.same z/\(a (↑(bG n m t).k4:Int)).same A/\(γr .i64 0).same (a 0)/\True)/\(bq.cells [a g,a (bG n m t).m,d 1 (bG n m t).k0 1,d 2 (bG n m t).k1 3,e sF (bG n m t).cost,γI (bG n m t).v.fst,e B (bG n m t).v.snd.fst,e B (bG n m t).v.snd.snd,d 3 (bG n m t).k3 1,F] 267 10 false).same k/\(c sF.bK (bG n m t).cj 91 false).same l/\(c sF (bG n m t).bound 157 false).same o/\(c C (bG n m t).basic 3 false).same p/\(c C (bG n m t).free 3 false).same q/\True)/\b<=b/\b<=g)/\∀(x:Int),let h:=x+(1:Int);let w:=eh s x.toNat;let G:=a w;let H:=a (eh s h.toNat);let D:=a h;let E:=bj f.cost x.toNat sF.dflt;let I:=(E.fst,E.snd.fst,E.snd.snd);let J:=decide (x<(↑y:Int));let K:=decide (w<b);let L:=decide (bj f.free x.toNat b<bj f.free w.toNat b);let M:=bW .i64 h/\((r.same r/\G.same H/\z.same z/\A.same A/\D.same D/\True)/\k.same k/\l.same l/\o.same o/\p.same p/\q.same q/\True)/\(b<=h/\h<=g)/\(g - h).toNat<(g - x).toNat;let N:=bW .i64 h/\((r.same r/\(a x).same H/\z.same z/\A.same A/\D.same D/\True)/\k.same k/\l.same l/\o.same o/\p.same p/\q.same q/\True)/\(b<=h/\h<=g)/\(g - h).toNat<(g - x).toNat;let O:=λ(u:Bool) ↦decide (b<kK (ck I))=u;b<=x/\x<=g->(J=true->y=j/\b<=x/\x<(↑j:Int)/\y=j/\x.toNat<j/\b<=x/\x<(↑f.cost.length:Int)/\x.toNat<f.cost.length/\de I/\(O true->(K=true->N)/\(K=false->f.k4=j/\b<=w/\w<(↑j:Int)/\f.k4=j/\w.toNat<j/\(L=true->N)/\(L=false->M)))/\(O false->M))/\(J=false->G.same (a (eh s g.toNat))/\k.same k/\l.same l/\o.same o/\p.same p/\q.same q/\True)) (by kernel_rfl) ?_;simp only[sY];try simp only[bG]
 simp only[vcs];obtain⟨⟨⟨n0,n1⟩,m0,m1⟩,hw,hz⟩:=id hok;have hfl:=hw.free;have hcl:=hw.cost;have hfc:=@fN t.cost;refine⟨⟨rfl,by omega,by omega⟩,?_⟩;rintro j ⟨j0,j1⟩;have hs:eh t (j+1).toNat=if 0<t.cs j.toNat/\(eh t j.toNat<0\/t.fv j.toNat<t.fv (eh t j.toNat).toNat) then(j.toNat:Int) else eh t j.toNat:=by
  rw[show(j+1).toNat=j.toNat+1 by omega];rfl
 have hb:eh t j.toNat<j.toNat:=by
  rcases @wb t j.toNat with⟨h,_⟩|⟨b,h,hlt,_⟩<;>omega
 refine⟨λhj=>?_,λhj=>by rw[show j.toNat=n.toNat by omega]⟩;have hc:bj (fL t.cost) j.toNat sF.dflt=bu (t.cs j.toNat):=js (by omega);simp only[hc,kN,fa,decide_eq_true_eq,decide_eq_false_iff_not,yy];have Eu:∀k:Nat,bj t.free k 0=t.fv k:=λk=>rfl;rw[Eu,Eu,hs];refine⟨j0,hj,by omega,j0,by omega,by omega,ei (hok.cs (by omega)) (by omega),λhp=>⟨λhn=>?_,λhn=>⟨by omega,by omega,by omega,λhl=>?_,λhl=>?_⟩⟩,λhp=>?_⟩
 ·rw[if_pos ⟨hp,.inl hn⟩];omega
 ·rw[if_pos ⟨hp,.inr hl⟩];omega
 ·rw[if_neg λh=>h.2.elim hn hl];omega
 ·rw[if_neg λh=>hp h.1];omega
def nL (t:Tb) (c k:Nat):bP:=if dR t c k<0 then(false,([],[])) else bu (t.bd (dR t c k).toNat / t.cf (dR t c k).toNat c)
def Kq:cZ:=uG 221 Int (.one (dX .i64)) (λn _ _ c=>0<=c/\c<n) (λ_ m t c=> .si .i64 (dR t c.toNat m.toNat)) (λ_ _ t _=>t)
def acX (n m:Int) (t:Tb) (c:Int):Nat->cC
 |4=> .inv Int (λi=>⟨[(0,.ptr 0 0 10),(1,.si .i64 c),(5,.si .i64 (dR t c.toNat i.toNat)),(6,.ptr 5 0 3),(15,.ow 1 t.cj.length 1),(16,.si .i64 t.cj.length),(17,.si .i64 i)],(bG n m t).gB++[.cells [.sb (nL t c.toNat i.toNat).1,.row (.i .u32) (nL t c.toNat i.toNat).2.1,.row (.i .u32) (nL t c.toNat i.toNat).2.2] 157 3 false,.dead,.dead]⟩)
   (λs=>iS s 17) (λi=>0<=i/\i<=m) (λi=>(m - i).toNat) λ_ _=> .look
 |_=> .look
theorem h412:dJ Tryz.prog Kq:=by
 refine jm (L:=[uE,Aw,Ej]) (W:=[]) Kq (λa=>acX a.1.n a.1.m a.1.t a.2) (by simp) (by simpa using⟨h99,h97,h416⟩) ?_;rintro⟨x,c⟩ ⟨n,m,t,hx,hok,hd⟩;simp only at hx hd;subst hx;refine bO (let a:=Ξ .i64;let b:=(0:Int);let d:=Ψ;let e:=bq.cells;let f:=bq.row;let g:=SV.ow;let h:=γI;let A:=γV 0 0 10;let p:=(bG n m t).t;let B:=γV 5 0 3;let U:=g 1 (bG n m t).k0 1;let H:=p.cj.length;let I:=g 1 H 1;let J:=a (↑H:Int);let l:=(bG n m t).m;let k:=bn.i .u32;let j:=bG (bG n m t).n l p;let r:=e [a j.n,a j.m,g 1 j.k0 1,g 2 j.k1 3,d sF j.cost,h j.v.fst,d k j.v.snd.fst,d k j.v.snd.snd,g 3 j.k3 1,g 4 j.k4 1] 267 10 false;let C:=j.cj;let s:=f sF.bK C 91 false;let D:=j.bound;let w:=f sF D 157 false;let L:=bn.i .i64;let y:=f L j.basic 3 false;let z:=f L j.free 3 false;let O:=nL p c.toNat 0;let a9:=sF.bK.dflt;let q:=j.basic.length;0=0/\0=0/\(((A.same A/\(a c).same (a c)/\(γr .i64 (-1:Int)).same (a (dR p c.toNat 0))/\B.same B/\U.same I/\(a (↑(bG n m t).k0:Int)).same J/\(γr .i64 0).same (a 0)/\True)/\(e [a (bG n m t).n,a l,U,g 2 (bG n m t).k1 3,d sF (bG n m t).cost,h (bG n m t).v.fst,d k (bG n m t).v.snd.fst,d k (bG n m t).v.snd.snd,g 3 (bG n m t).k3 1,g 4 (bG n m t).k4 1] 267 10 false).same r/\(f sF.bK (bG n m t).cj 91 false).same s/\(f sF (bG n m t).bound 157 false).same w/\(f L (bG n m t).basic 3 false).same y/\(f L (bG n m t).free 3 false).same z/\(e [SV.bl false,d k [],d k []] 157 3 false).same (e [h O.fst,d k O.snd.fst,d k O.snd.snd] 157 3 false)/\bq.dead.same bq.dead/\bq.dead.same bq.dead/\True)/\b<=b/\b<=l)/\∀(x:Int),let o:=x+(1:Int);let V:=a (dR p c.toNat o.toNat);let M:=a o;let P:=bj D x.toNat sF.dflt;let W:=(P.fst,P.snd.fst,P.snd.snd);let K:=bj C x.toNat a9;let Q:=bj K c.toNat sF.dflt;let N:=(Q.fst,Q.snd.fst,Q.snd.snd);let E:=bu (ck W / ck N);let R:=nL p c.toNat o.toNat;let X:=e [h R.fst,d k R.snd.fst,d k R.snd.snd] 157 3 false;let F:=dR p c.toNat x.toNat;let Y:=a F;let G:=nL p c.toNat x.toNat;let Z:=(E.fst,E.snd.fst,E.snd.snd);let a0:=(G.fst,G.snd.fst,G.snd.snd);let a1:=jc (ck Z) (ck a0);let a2:=decide (x<(↑H:Int));let a3:=decide (b<=F);let a4:=decide (bj j.basic F.toNat b<bj j.basic x.toNat b);let S:=bW .i64 o/\((A.same A/\(a c).same (a c)/\(a x).same V/\B.same B/\I.same I/\J.same J/\M.same M/\True)/\r.same r/\s.same s/\w.same w/\y.same y/\z.same z/\(e [h E.fst,d k E.snd.fst,d k E.snd.snd] 157 3 false).same X/\bq.dead.same bq.dead/\bq.dead.same bq.dead/\True)/\(b<=o/\o<=l)/\(l - o).toNat<(l - x).toNat;let T:=bW .i64 o/\((A.same A/\(a c).same (a c)/\Y.same V/\B.same B/\I.same I/\J.same J/\M.same M/\True)/\r.same r/\s.same s/\w.same w/\y.same y/\z.same z/\(e [h G.fst,d k G.snd.fst,d k G.snd.snd] 157 3 false).same X/\bq.dead.same bq.dead/\bq.dead.same bq.dead/\True)/\(b<=o/\o<=l)/\(l - o).toNat<(l - x).toNat;let a5:=de N;let a6:=λ(u:Bool) ↦decide (b<a1)=u;let a7:=λ(u:Bool) ↦decide (a1=b)=u;let a8:=λ(u:Bool) ↦decide (kK (ck N)<=b)=u;b<=x/\x<=l->(a2=true->H=C.length/\b<=x/\x<(↑C.length:Int)/\H=C.length/\x.toNat<C.length/\b<=c/\c<(↑K.length:Int)/\c.toNat<K.length/\a5/\(a8 true->T)/\(a8 false->j.k1=D.length/\b<=x/\x<(↑D.length:Int)/\j.k1=D.length/\x.toNat<D.length/\b<=c/\c<(↑K.length:Int)/\c.toNat<K.length/\((de W/\a5)/\ck N≠(0:Rat))/\(a3=true->(de Z/\de a0)/\(a6 true->T)/\(a6 false->(a7 true->j.k3=q/\b<=x/\x<(↑q:Int)/\j.k3=q/\x.toNat<q/\j.k3=q/\b<=F/\F<(↑q:Int)/\j.k3=q/\F.toNat<q/\(a4=true->T)/\(a4=false->S))/\(a7 false->S)))/\(a3=false->S)))/\(a2=false->Y.same (a (dR p c.toNat l.toNat))/\r.same r/\s.same s/\w.same w/\y.same y/\z.same z/\True)) (by kernel_rfl) ?_;simp only[sY];try simp only[bG]
 simp only[vcs];obtain⟨⟨⟨n0,n1⟩,m0,m1⟩,hw,hz⟩:=id hok;have hkl:=hw.cj;have hbl:=hw.bound;have hbb:=hw.basic;have hfm:=@J8 t.cj;have zj:=@fN t.bound;have hcell:∀{x y:bP},x=y->(bq.cells [γI x.1,Ψ (bn.i IntKind.u32) x.2.1,Ψ (bn.i IntKind.u32) x.2.2] 157 3 false).same (bq.cells [γI y.1,Ψ (bn.i IntKind.u32) y.2.1,Ψ (bn.i IntKind.u32) y.2.2] 157 3 false):=by rintro _ _ rfl;rfl
 have hl0:nL t c.toNat 0=(false,([],[])):=rfl;refine⟨⟨⟨rfl,by rw[hl0];rfl⟩,by omega,by omega⟩,?_⟩;rintro i ⟨i0,i1⟩;refine⟨λhi=>?_,λhi=>by rw[show i.toNat=m.toNat by omega]⟩;have him:i.toNat<m.toNat:=by omega
 have hrow:bj (fM t.cj) i.toNat sF.bK.dflt=fL (bj t.cj i.toNat []):=J9 (by omega);have hrl:=hw.row i.toNat him;have hfr:=@fN (bj t.cj i.toNat []);have hA:bj (fL (bj t.cj i.toNat [])) c.toNat sF.dflt=bu (t.cf i.toNat c.toNat):=js (by omega);have hB:bj (fL t.bound) i.toNat sF.dflt=bu (t.bd i.toNat):=js (by omega);have hbv:∀k:Nat,bj t.basic k 0=t.bv k:=λk=>rfl;have hsA:=hok.cf (i:=i.toNat) (j:=c.toNat) him (by omega);have hsB:=hok.bd (i:=i.toNat) him;have hs:dR t c.toNat (i+1).toNat=if t.cf i.toNat c.toNat<=0 then dR t c.toNat i.toNat
  else if 0<=dR t c.toNat i.toNat/\(t.bd (dR t c.toNat i.toNat).toNat / t.cf (dR t c.toNat i.toNat).toNat c.toNat<t.bd i.toNat / t.cf i.toNat c.toNat\/(t.bd i.toNat / t.cf i.toNat c.toNat=t.bd (dR t c.toNat i.toNat).toNat / t.cf (dR t c.toNat i.toNat).toNat c.toNat/\t.bv (dR t c.toNat i.toNat).toNat<t.bv i.toNat)) then dR t c.toNat i.toNat
  else(i.toNat:Int):=by
  rw[show(i+1).toNat=i.toNat+1 by omega];rfl
 have hlb:dR t c.toNat i.toNat<i.toNat:=by
  rcases @wh t c.toNat i.toNat with⟨h,_⟩|⟨b,h,hlt,_⟩<;>omega
 have hlp:0<=dR t c.toNat i.toNat->0<t.cf (dR t c.toNat i.toNat).toNat c.toNat:=λh=>by
  rcases @wh t c.toNat i.toNat with⟨h2,_⟩|⟨b,h2,hlt,hp,_⟩;·omega
  ·rw[h2,γt];exact hp
 have acY:∀q:Rat,kK q<=0↔q<=0:=λq=>by
  have:=@yy q;constructor;·intro h;exact Rat.not_lt.1 λh2=>by have:=this.2 h2;omega
  ·intro h;exact Int.not_lt.1 λh2=>Rat.not_lt.2 h (this.1 h2)
 simp only[hrow,hA,hB,kN,fa,hbv,acY,acF,acG];have acZ:0<=dR t c.toNat i.toNat->nL t c.toNat i.toNat=bu (t.bd (dR t c.toNat i.toNat).toNat / t.cf (dR t c.toNat i.toNat).toNat c.toNat):=λh=>by
  unfold nL;rw[if_neg (by omega)]
 have tail:(0<=i+1/\i+1<=m)/\(m - (i+1)).toNat<(m - i).toNat:=by omega
 have keep:dR t c.toNat (i+1).toNat=dR t c.toNat i.toNat->nL t c.toNat i.toNat=nL t c.toNat (i+1).toNat:=λh=>by
  unfold nL;rw[h]
 have new:dR t c.toNat (i+1).toNat=(i.toNat:Int)->bu (t.bd i.toNat / t.cf i.toNat c.toNat)=nL t c.toNat (i+1).toNat:=λh=>by
  unfold nL;rw[h,if_neg (by omega),γt]
 have hnz:0<t.cf i.toNat c.toNat->t.cf i.toNat c.toNat≠0:=λh=>by grind
 refine⟨by omega,i0,by omega,by omega,by omega,hd.1,by omega,by omega,ei hsA (by omega),λhle=>?_,λhgt=>?_⟩
 ·have e:dR t c.toNat (i+1).toNat=dR t c.toNat i.toNat:=by rw[hs,if_pos hle]
  exact⟨by omega,⟨e.symm,hcell (keep e)⟩,tail⟩
 ·have hp:0<t.cf i.toNat c.toNat:=ζN.1 hgt;rw[if_neg hgt] at hs;have ac0:=JV hsB hsA (hnz hp);refine⟨by omega,i0,by omega,by omega,by omega,hd.1,by omega,by omega,⟨⟨ei hsB (by omega),ei hsA (by omega)⟩,hnz hp⟩,λh0=>?_,λh0=>?_⟩
  ·have hl:=acZ h0;have hsl:=JV (hok.bd (i:=(dR t c.toNat i.toNat).toNat) (by omega)) (hok.cf (i:=(dR t c.toNat i.toNat).toNat) (j:=c.toNat) (by omega) (by omega)) (by have:=hlp h0;grind);have hvl:ck (nL t c.toNat i.toNat)=t.bd (dR t c.toNat i.toNat).toNat / t.cf (dR t c.toNat i.toNat).toNat c.toNat:=by rw[hl,fa]
   simp only[hvl];refine⟨⟨ei ac0 (by omega),by rw[hl];exact ei hsl (by omega)⟩,λhlt=>?_,λhlt=>⟨λheq=>⟨i0,by omega,by omega,h0,by omega,by omega,λhbl=>?_,λhbl=>?_⟩,λheq=>?_⟩⟩
   ·rw[if_pos ⟨h0,.inl hlt⟩] at hs;exact⟨by omega,⟨hs.symm,hcell (keep hs)⟩,tail⟩
   ·rw[if_pos ⟨h0,.inr ⟨heq,hbl⟩⟩] at hs;exact⟨by omega,⟨hs.symm,hcell (keep hs)⟩,tail⟩
   ·rw[if_neg λh=>h.2.elim hlt λh2=>hbl h2.2] at hs;exact⟨by omega,⟨by omega,hcell (new hs)⟩,tail⟩
   ·rw[if_neg λh=>h.2.elim hlt λh2=>heq h2.1] at hs;exact⟨by omega,⟨by omega,hcell (new hs)⟩,tail⟩
  ·rw[if_neg λh=>h0 h.1] at hs;exact⟨by omega,⟨by omega,hcell (new hs)⟩,tail⟩
def Kr:bL:=⟨169,Int,.one (dX .i64),λ_=>True,λ_=> .sb false⟩
theorem h334:Holds Tryz.prog Kr:=by
 refine cG (L:=[]) Kr lk (by simp) ?_;rintro(x:Int) -;refine bO ((γI (decide (x≠x))).same (γI false)) (by kernel_rfl) ?_;simp_all
def yz (x y:Int):Int:=if x<y then -1 else if y<x then 1 else 0
def Ks:bL:=⟨128,Int×Int,.cons (dX .i64) (.one (dX .i64)),λ_=>True,λa=> .si .i64 (yz a.1 a.2)⟩
theorem h321:Holds Tryz.prog Ks:=by
 refine cG (L:=[Kr]) Ks lk (by grind[h334]) ?_;rintro⟨x,y⟩ -;refine bO (let b:=γr .i64;let c:=γr .i64 0;let a:=Ξ .i64 (yz x y);True/\True/\(false=true->(false=true->(b 0).same a)/\(false=false->(b (-1:Int)).same a))/\(false=false->(false=true->(b 1).same a)/\(false=false->(decide (x<y)=true->(b (-1:Int)).same a)/\(decide (x<y)=false->(decide (y<x)=true->(b 1).same a)/\(decide (y<x)=false->(b 0).same a))))) (by kernel_rfl) ?_;simp_all[yz,if_neg]
def wj (b:bz):Int:=b.a0+b.a1+b.a2+b.a3+b.a4+b.a5
def Kt:bL:=⟨129,bz,.one (eG .eD),λb=>b.ok=true,λb=> .si .i64 (wj b)⟩
theorem h322:Holds Tryz.prog Kt:=by
 refine cG (L:=[]) Kt (λ_ _=> .pP 7) (by simp) ?_;rintro(b:bz) (h:b.ok=true);have h:=bz.eL.1 h;refine bO (let d:=bW .i64;let a:=(0:Int)+b.a0+b.a1;let c:=a+b.a2+b.a3+b.a4;d ((0:Int)+b.a0)/\d a/\d (a+b.a2)/\d (a+b.a2+b.a3)/\d c/\d (c+b.a5)/\(Ξ .i64 (c+b.a5)).same (Ξ .i64 (wj b))) (by kernel_rfl) ?_;simp only[vcs];unfold wj;omega
def oI (p:bp) (i:Int):Off:=bj p.offers i.toNat bn.off.dflt
def rU (p:bp) (i:Int):Int:=(oI p i).value
def qe (p:bp) (i:Int):Int:=wj (oI p i).want
def bM (p:bp) (i:Int):Int:=rU p i*(5354228880 / qe p i)
def iz (p:bp) (i:Int):Prop:=0<=i/\i<p.offers.length
theorem AK {p:bp} (b:bC p=0) {i:Int} (h:iz p i):(1<=rU p i/\rU p i<=1000000)/\(1<=qe p i/\qe p i<=24)/\(oI p i).want.ok=true:=by
 obtain⟨j,k⟩:=h;have c:=cO (d:=bn.off.dflt) (show i.toNat<p.offers.length by omega);have a:=(dn b).2.2.2.2 _ c;have g:=(HY ((vK b).2 _ c)).2.1;have e:=bz.eL.1 a.2.2.1;have f:¬((oI p i).want.a0=0/\(oI p i).want.a1=0/\(oI p i).want.a2=0/\(oI p i).want.a3=0/\(oI p i).want.a4=0/\(oI p i).want.a5=0):=λh=>g (Dc.2 h);have e:(0<=(oI p i).want.a0/\(oI p i).want.a0<=4)/\(0<=(oI p i).want.a1/\(oI p i).want.a1<=4)/\(0<=(oI p i).want.a2/\(oI p i).want.a2<=4)/\(0<=(oI p i).want.a3/\(oI p i).want.a3<=4)/\(0<=(oI p i).want.a4/\(oI p i).want.a4<=4)/\(0<=(oI p i).want.a5/\(oI p i).want.a5<=4):=e;refine⟨⟨a.2.2.2.1,a.2.2.2.2⟩,?_,a.2.2.1⟩;unfold qe wj;omega
theorem TA {t:Int} (a:1<=t) (b:t<=24):t*(5354228880 / t)=5354228880/\1<=5354228880 / t:=by
 have:t=1\/t=2\/t=3\/t=4\/t=5\/t=6\/t=7\/t=8\/t=9\/t=10\/t=11\/t=12\/t=13\/t=14\/t=15\/t=16\/t=17\/t=18\/t=19\/t=20\/t=21\/t=22\/t=23\/t=24:=by omega
 rcases this with rfl|rfl|rfl|rfl|rfl|rfl|rfl|rfl|rfl|rfl|rfl|rfl|rfl|rfl|rfl|rfl|rfl|rfl|rfl|rfl|rfl|rfl|rfl|rfl<;>decide
theorem ac1 {p:bp} (g:bC p=0) {x y:Int} (j:iz p x) (i:iz p y):bM p x<bM p y↔rU p x*qe p y<rU p y*qe p x:=by
 obtain⟨m,e,_⟩:=AK g j;obtain⟨u,f,_⟩:=AK g i;obtain⟨v,q⟩:=TA e.1 e.2;obtain⟨o,r⟩:=TA f.1 f.2;unfold bM;generalize 5354228880 / qe p x=d at*;generalize 5354228880 / qe p y=c at*;generalize rU p x=a at*;generalize rU p y=b at*;generalize qe p x=s at*;generalize qe p y=t at*;have k:0<d*c:=εA (by omega) (by omega);have l:(a*t)*(d*c)=(a*d)*5354228880:=by grind
 have n:(b*s)*(d*c)=(b*c)*5354228880:=by grind
 constructor
 ·intro h;have:(a*t)*(d*c)<(b*s)*(d*c):=by omega
  exact Int.lt_of_mul_lt_mul_right this (by omega)
 ·intro h;have:(a*t)*(d*c)<(b*s)*(d*c):=γ0 h k;omega
def sZ (p:bp) (x y:Int):Int:=yz (rU p y*qe p x) (rU p x*qe p y)
theorem TB {p:bp} (a:bC p=0) {x y:Int} (c:iz p x) (b:iz p y):sZ p x y<0↔bM p y<bM p x:=by
 rw[ac1 a b c];grind[sZ,yz]
def Ew:cZ where
 f:=127;α:=Int×Int×bp;put a:=[.si .i64 a.1,.si .i64 a.2.1,.ptr 0 0 20];st a:=[.cells a.2.2.ss 27 20 false];dec v o:=match v,o with
  |[x,y,.ptr 0 0 20],[.cells cs 27 20 false]=>match x.int .i64,y.int .i64,sL cs with
   |some x,some y,some p=>some (x,y,p)
   |_,_,_=>none
  |_,_=>none;ok v o a h:=by
  split at h
  ·split at h
   ·rename_i h1 h2 h3;simp only[γ] at h;subst h;refine⟨by simp only[gL,gP h1,gP h2];rfl,?_⟩;simp only[gO,ι,γp,bq.g,vH h3]
   ·cases h
  ·cases h
 inj a b h1 h2:=by
  simp only[gL,π,and_true,SV.g,γX,Value.int.injEq,true_and] at h1;simp only[gO,ι,γp,bq.g,π,bQ.cells.injEq,and_true] at h2;have h3:=cY.inj a.2.2 b.2.2 (by simp only[cY,SV.g,h2]);exact εb h1.1 (εb h1.2 h3)
 dom a:=bC a.2.2=0/\iz a.2.2 a.1/\iz a.2.2 a.2.1;res a:=.si .i64 (sZ a.2.2 a.1 a.2.1);out a:=[.cells a.2.2.ss 27 20 false]
theorem h320:dJ Tryz.prog Ew:=by
 refine jm (L:=[Kt,Ks]) (W:=[]) Ew lk (by simp) (by grind[h322,h321]) ?_;rintro⟨x,y,p⟩ ⟨f,e,c⟩;refine bO (let a:=bn.off.dflt;let d:=p.offers.length;let g:=bj p.offers x.toNat a;let h:=bj p.offers y.toNat a;let k:=h.value*wj g.want;let l:=g.value*wj h.want;let j:=bq.cells (bp.ss p) 27 20 false;(0:Int)<=x/\x<(↑d:Int)/\x.toNat<d/\(0:Int)<=y/\y<(↑d:Int)/\y.toNat<d/\g.want.ok=true/\bW .i64 k/\h.want.ok=true/\bW .i64 l/\True/\(Ξ .i64 (yz k l)).same (Ξ .i64 (sZ p x y))/\j.same j/\True) (by kernel_rfl) ?_;simp only[vcs];have f:bC p=0:=f;have e:iz p x:=e;have c:iz p y:=c;obtain⟨s,w,q⟩:=AK f e;obtain⟨m,A,z⟩:=AK f c;obtain⟨o,n⟩:=e;obtain⟨B,r⟩:=c;have i:∀{v t:Int},1<=v/\v<=1000000->1<=t/\t<=24-> -9223372036854775808<=v*t/\v*t<=9223372036854775807:=λ{v t} C u=>by
  have a:=γD (show 0<=v by omega) (show 0<=t by omega);have b:=Int.mul_le_mul C.2 u.2 (by omega) (show(0:Int)<=1000000 by omega);omega
 exact⟨o,n,by omega,B,r,by omega,q,i m w,z,i s A,rfl⟩
def gq (D:Int->Int) (x y:Int):Bool:=decide (D y<D x)||(decide (D x=D y)&&decide (x<=y))
theorem pz {D:Int->Int} {x y:Int}:gq D x y=true↔D y<D x\/(D x=D y/\x<=y):=by grind[gq]
theorem TC {D:Int->Int} (a b c:Int) (d:gq D a b=true) (e:gq D b c=true):gq D a c=true:=by
 grind[pz]
theorem ac2 {D:Int->Int} (a b:Int):(gq D a b||gq D b a)=true:=by
 grind[pz]
theorem ac3 {D:Int->Int} {a b:Int} (c:gq D a b=true) (d:gq D b a=true):a=b:=by
 grind[pz]
abbrev iK (D:Int->Int) (l:List Int):Prop:=l.Pairwise λa b=>gq D a b=true
def df (D:Int->Int) (l:List Int):List Int:=l.mergeSort (gq D)
theorem rV {D:Int->Int} {l:List Int}:(df D l).Perm l:=List.mergeSort_perm _ _
theorem wm {D:Int->Int} {l:List Int}:iK D (df D l):=List.pairwise_mergeSort TC ac2 l
theorem ox {D:Int->Int} {l:List Int}:(df D l).length=l.length:=rV.length_eq
theorem yA {D:Int->Int} {l:List Int} {x:Int}:x∈df D l↔x∈l:=rV.mem_iff
theorem AL {D:Int->Int} {l m:List Int} (e:m.Perm l) (f:iK D m):m=df D l:=
 List.Perm.eq_of_pairwise (λa b _ _ c d=>ac3 c d) f wm (e.trans rV.symm)
theorem Ku {D:Int->Int} {l:List Int} (h:iK D l):df D l=l:=(AL (ζE _) h).symm
def seg (l:List Int) (a b:Nat):List Int:=(l.drop a).take (b - a)
def di (D:Int->Int) (l:List Int) (a b:Nat):List Int:=l.take a++df D (seg l a b)++l.drop b
theorem kP {l:List Int} {a b:Nat} (c:a<=b) (d:b<=l.length):(seg l a b).length=b - a:=by
 grind[seg]
theorem Kv {l:List Int} {a b:Nat} (c:a<=b) (d:b<l.length):seg l a (b+1)=seg l a b++[bj l b 0]:=by
 unfold seg;rw[show b+1 - a=(b - a)+1 by omega,List.take_succ_eq_append_getElem (by grind),List.getElem_drop];grind[cQ]
theorem AO {l:List Int} {a:Nat}:seg l a a=[]:=by grind[seg]
theorem yB {D:Int->Int} {l:List Int} {a b:Nat} (c:a<=b) (d:b<=l.length):(di D l a b).length=l.length:=by
 grind[di,ox,kP]
theorem Ey {l:List Int} {i:Nat} (h:i<l.length):l.drop i=bj l i 0::l.drop (i+1):=by
 simp_all[cQ]
theorem Kw {D:Int->Int} {l:List Int} {a:Nat}:di D l a a=l:=by
 simp_all[di,AO,df]
theorem ac4 {D:Int->Int} {l:List Int} {a:Nat} (h:a<l.length):di D l a (a+1)=l:=by
 have e:seg l a (a+1)=[bj l a 0]:=by grind[Kv,AO]
 unfold di;rw[e,Ku (by simp),List.append_assoc];simp only[List.singleton_append];rw[<-Ey h,γc]
def ju (D:Int->Int) (l:List Int) (a i j:Nat):List Int:=l.take a++((df D (seg l a i)).take (j - a)++bj l i 0::(df D (seg l a i)).drop (j - a))++l.drop (i+1)
theorem TD {D:Int->Int} {l:List Int} {a i j:Nat} (b:a<=i) (c:i<l.length):(ju D l a i j).length=l.length:=by
 grind[ox,kP,ju]
theorem TE {D:Int->Int} {l:List Int} {a i:Nat} (b:a<=i) (c:i<l.length):ju D l a i i=di D l a i:=by
 grind[ox,kP,ju,di,Ey]
theorem ac5 {A B:List Int} {y x:Int}:((A++y::x::B).set (A.length+1) y).set A.length x=A++x::y::B:=by
 simp_all
theorem TF {A B:List Int} {y:Int}:bj (A++y::B) A.length 0=y:=by grind[bj]
theorem TG {A B:List Int} {y x:Int}:bj (A++y::x::B) (A.length+1) 0=x:=by grind[bj]
theorem ac6 {D:Int->Int} {l:List Int} {a i k:Nat} (c:a+k+1<=i) (d:i<l.length):
  ju D l a i (a+k+1)=(l.take a++(df D (seg l a i)).take k)++bj (df D (seg l a i)) k 0::bj l i 0::((df D (seg l a i)).drop (k+1)++l.drop (i+1))/\
  ju D l a i (a+k)=(l.take a++(df D (seg l a i)).take k)++bj l i 0::bj (df D (seg l a i)) k 0::((df D (seg l a i)).drop (k+1)++l.drop (i+1))/\
  (l.take a++(df D (seg l a i)).take k).length=a+k:=by
 have b:=@ox D (seg l a i);rw[kP (by omega) (by omega)] at b;have e:k<(df D (seg l a i)).length:=by omega
 have g:(df D (seg l a i)).take (k+1)=(df D (seg l a i)).take k++[bj (df D (seg l a i)) k 0]:=by simp_all[cQ]
 have f:(df D (seg l a i)).drop k=bj (df D (seg l a i)) k 0::(df D (seg l a i)).drop (k+1):=by simp_all[cQ]
 grind[ju]
theorem TI {D:Int->Int} {l:List Int} {a i j:Nat} (g:a<j) (f:j<=i) (d:i<l.length):
  bj (ju D l a i j) j 0=bj l i 0/\bj (ju D l a i j) (j - 1) 0=bj (df D (seg l a i)) (j - 1 - a) 0/\
  ((ju D l a i j).set j (bj (df D (seg l a i)) (j - 1 - a) 0)).set (j - 1) (bj l i 0)=ju D l a i (j - 1):=by
 obtain⟨b,c,e⟩:=@ac6 D l a i (j - 1 - a) (by omega) d;rw[show a+(j - 1 - a)+1=j by omega] at b;rw[show a+(j - 1 - a)=j - 1 by omega] at c e;rw[b,c];generalize l.take a++(df D (seg l a i)).take (j - 1 - a)=A at*;generalize bj (df D (seg l a i)) (j - 1 - a) 0=y at*;generalize bj l i 0=x at*;grind[TG,TF,ac5]
theorem TJ {D:Int->Int} {S:List Int} {x:Int} {k:Nat} (n:iK D S) (d:∀s∈S.drop k,gq D x s=true) (b:k=0\/(k<=S.length/\gq D (bj S (k - 1) 0) x=true)):iK D (S.take k++x::S.drop k):=by
 have a:iK D (S.take k++S.drop k):=by simp_all
 obtain⟨g,f,i⟩:=γY.1 a;have j:∀s∈S.take k,gq D s x=true:=by
  rcases b with rfl|⟨h,b⟩;·simp
  ·intro s l;by_cases m:k=0;·simp_all
   have c:k - 1<S.length:=by omega
   have e:S.take k=S.take (k - 1)++[bj S (k - 1) 0]:=by
    conv=>lhs;rw[show k=(k - 1)+1 by omega]
    simp_all[cQ]
   grind[TC]
 rw[iK,γY];simp_all
theorem ac7 {S:List Int} {x:Int} {k:Nat}:(S.take k++x::S.drop k).Perm (S++[x]):=by
 refine(List.perm_middle).trans ?_;rw[γc];grind
theorem TK {D:Int->Int} {l:List Int} {a i j:Nat} (k:a<=j) (f:j<=i) (e:i<l.length) (b:∀s∈(df D (seg l a i)).drop (j - a),gq D (bj l i 0) s=true) (g:j=a\/gq D (bj (df D (seg l a i)) (j - 1 - a) 0) (bj l i 0)=true):
  ju D l a i j=di D l a (i+1):=by
 have c:=@ox D (seg l a i);rw[kP (by omega) (by omega)] at c;have d:iK D ((df D (seg l a i)).take (j - a)++bj l i 0::(df D (seg l a i)).drop (j - a)):=by
  refine TJ wm b ?_;grind
 have h:((df D (seg l a i)).take (j - a)++bj l i 0::(df D (seg l a i)).drop (j - a)).Perm (seg l a (i+1)):=by
  rw[Kv (by omega) e];exact ac7.trans (List.Perm.append rV (ζE _))
 grind[ju,di,AL]
def jv (l:List Int) (a b n:Nat):List Int:=(τ l.length).map λk=>if a<=k/\k<a+n then bj l (k - a+b) 0 else if b<=k/\k<b+n then bj l (k - b+a) 0 else bj l k 0
theorem uH {l:List Int} {a b n:Nat}:(jv l a b n).length=l.length:=by simp[jv]
theorem yC {l:List Int} {a b n k:Nat} (h:k<l.length):bj (jv l a b n) k 0=if a<=k/\k<a+n then bj l (k - a+b) 0 else if b<=k/\k<b+n then bj l (k - b+a) 0 else bj l k 0:=by
 show(((τ l.length).map _)[k]?).getD 0=_;simp_all
theorem ac8 {l:List Int} {a b:Nat}:jv l a b 0=l:=by
 apply δi uH;intro k d c;have:=@yC l a b 0 k c;simp_all[cQ,if_neg]
theorem TL {l m:List Int} (a:l.length=m.length) (h:∀k,k<l.length->bj l k 0=bj m k 0):l=m:=
 δi a λk b c=>by
  grind[cQ]
theorem TM {l:List Int} {i k:Nat} {v:Int} (h:k<l.length):bj (l.set i v) k 0=if i=k then v else bj l k 0:=by
 grind[bj]
theorem ac9 {l:List Int} {a b n:Nat} (g:a+n<b) (f:b+n<l.length):
  ((jv l a b n).set (a+n) (bj (jv l a b n) (b+n) 0)).set (b+n) (bj (jv l a b n) (a+n) 0)=jv l a b (n+1):=by
 have e:bj (jv l a b n) (a+n) 0=bj l (a+n) 0:=by rw[yC (by omega),if_neg (by omega),if_neg (by omega)]
 have d:bj (jv l a b n) (b+n) 0=bj l (b+n) 0:=by rw[yC (by omega),if_neg (by omega),if_neg (by omega)]
 rw[e,d];refine TL (by simp[uH]) λk c=>?_;simp only[γe,uH] at c;rw[TM (by grind[uH]),TM (by grind[uH]),yC c,yC c];grind
theorem ada {A B:List Int} {k:Nat}:bj (A++B) k 0=if k<A.length then bj A k 0 else bj B (k - A.length) 0:=by
 grind[bj]
theorem Kx {A X M Y B:List Int} (h:X.length=Y.length):jv (A++(X++(M++(Y++B)))) A.length (A.length+X.length+M.length) X.length=A++(Y++(M++(X++B))):=by
 refine TL (by simp[uH];omega) λk a=>?_;rw[uH] at a;rw[yC a];simp only[ada];grind
def rotR (l:List Int) (a m b:Nat):List Int:=l.take a++(seg l m b++(seg l a m++l.drop b))
theorem TN {l:List Int} {a m b:Nat} (g:a<=m) (f:m<=b) (e:b<=l.length):l=l.take a++(seg l a m++(seg l m b++l.drop b)):=by
 have d:l.drop a=seg l a m++l.drop m:=by
  have:=γc (m - a) (l.drop a);rw[γW,show a+(m - a)=m by omega] at this;exact this.symm
 have c:l.drop m=seg l m b++l.drop b:=by
  have:=γc (b - m) (l.drop m);rw[γW,show m+(b - m)=b by omega] at this;exact this.symm
 rw[<-c,<-d,γc]
def yD:Nat->List SV->Option (List Int)
 |0,[.fn (.func 127) [] [.ptr 1 0 20]]=>some []
 |k+1,x::r=>match x.int .i64,yD k r with
  |some n,some l=>some (n::l)
  |_,_=>none
 |_,_=>none
theorem TP:∀{k:Nat} {r:List SV} {l:List Int},yD k r=some l->gL r=gL (l.map (Ξ .i64)++[.fn (.func 127) [] [.ptr 1 0 20]])
 |0,r,l,h=>by
  unfold yD at h;split at h;·simp only[γ] at h;subst h;rfl
  ·rename_i h0;cases h0
  ·cases h;|k+1,[],l,h=>by simp[yD] at h;|k+1,x::r,l,h=>by
  simp only[yD] at h;split at h
  ·rename_i n l' h1 h2;simp only[γ] at h;subst h;simp only[gL,ι,γE,TP h2,gP h1];rfl
  ·cases h
theorem TQ:∀{l m:List Int} {z:List SV},l.length=m.length->gL (l.map (Ξ .i64)++z)=gL (m.map (Ξ .i64)++z)->l=m
 |[],[],_,_,_=>rfl
 |[],_::_,_,h,_=>by simp at h;|_::_,[],_,h,_=>by simp at h;|x::l,y::m,z,hl,h=>by
  simp only[ι,γE,gL,π,SV.g,γX,Value.int.injEq,true_and] at h;rw[h.1,TQ (by simpa using hl) h.2]
def yE (f:FuncId) (k:Nat) (β:Type) (AP:β->List Int) (TR:List Int->Option β) (h0:∀b,(AP b).length=k) (h1:∀l b,TR l=some b->l=AP b) (h2:∀b c,AP b=AP c->b=c) (dom:(Nat×List Int×bp)×β->Prop) (out:(Nat×List Int×bp)×β->List Int):cZ where
 f:=f;α:=(Nat×List Int×bp)×β;put a:=.ow 0 a.1.1 1::((AP a.2).map (Ξ .i64)++[.fn (.func 127) [] [.ptr 1 0 20]]);st a:=[.row (.i .i64) a.1.2.1 3 true,.cells a.1.2.2.ss 27 20 false];dec v o:=match v,o with
  | .ow 0 n 1::r,[.row t l 3 true,.cells cs 27 20 false]=>match yD k r,iI t (.i .i64) l,sL cs with
   |some xs,some l,some p=>match TR xs with
    |some b=>some ((n,l,p),b)
    |none=>none
   |_,_,_=>none
  |_,_=>none;ok v o a h:=by
  split at h
  ·split at h
   ·rename_i h3 h4 h5;split at h
    ·rename_i b hb;simp only[γ] at h;subst h;obtain⟨rfl,hh⟩:=nj h4;cases hh;have:=h1 _ _ hb;subst this;refine⟨by simp only[gL,TP h3],?_⟩;simp only[gO,ι,γp,bq.g,vH h5]
    ·cases h
   ·cases h
  ·cases h
 inj a b e1 e2:=by
  obtain⟨⟨n,l,p⟩,x⟩:=a;obtain⟨⟨n',l',p'⟩,x'⟩:=b;simp only[gL,π,SV.g,εP,true_and] at e1;simp only[gO,ι,γp,bq.g,π,bQ.cells.injEq,and_true,true_and] at e2;have h3:p=p':=cY.inj p p' (by simp only[cY,SV.g,e2.2]);have h4:l=l':=by
   have hf:=congrArg γn e2.1;rw[fj,fj] at hf;exact lU (.i .i64) (by simpa[bn.sz] using hf) e2.1
  have h5:x=x':=h2 _ _ (TQ (by rw[h0,h0]) e1.2);rw[e1.1.1,h3,h4,h5]
 dom:=dom;res _:=.bH [];out a:=[.row (.i .i64) (out a) 3 true,.cells a.1.2.2.ss 27 20 false]
abbrev Ky:=Nat×List Int×bp
def AQ (b:Int×Int):List Int:=[b.1,b.2]
def Kz:List Int->Option (Int×Int)
 |[a,b]=>some (a,b)
 |_=>none
theorem adb:∀l b,Kz l=some b->l=AQ b:=λl b h=>by
 unfold Kz at h;split at h;·simp only[γ] at h;subst h;rfl
 ·cases h
theorem ade:∀b c,AQ b=AQ c->b=c:=λb c h=>by
 unfold AQ at h;simp only[π,and_true] at h;exact εb h.1 h.2
def wo (b:Int×Int×Int):List Int:=[b.1,b.2.1,b.2.2]
def AS:List Int->Option (Int×Int×Int)
 |[a,b,c]=>some (a,b,c)
 |_=>none
theorem KA:∀l b,AS l=some b->l=wo b:=λl b h=>by
 unfold AS at h;split at h;·simp only[γ] at h;subst h;rfl
 ·cases h
theorem KB:∀b c,wo b=wo c->b=c:=λb c h=>by
 unfold wo at h;simp only[π,and_true] at h;exact εb h.1 (εb h.2.1 h.2.2)
def uI (a:Ky):Prop:=(bC a.2.2=0/\a.1=a.2.1.length)/\a.2.1.length<=1000/\∀x∈a.2.1,iz a.2.2 x
def KC (l:List Int) (a b:Int):Prop:=0<=a/\a<=b/\b<=l.length
theorem s6 {l m:List Int} (h:l=m):(bq.row (.i .i64) l 3 true).same (bq.row (.i .i64) m 3 true):=by subst h;rfl
def KD:cZ:=yE 236 3 (Int×Int×Int) wo AS (λ_=>rfl) KA KB (λa=>a.1.1=a.1.2.1.length/\a.1.2.1.length<=1000/\0<=a.2.1/\0<=a.2.2.2/\a.2.1+a.2.2.2<=a.2.2.1/\a.2.2.1+a.2.2.2<=a.1.2.1.length) λa=>jv a.1.2.1 a.2.1.toNat a.2.2.1.toNat a.2.2.2.toNat
def adf (n:Nat) (l:List Int) (p:bp) (a b k:Int):Nat->cC
 |1=> .inv (Int×List Int) (λx=>⟨[(0,.ow 0 n 1),(1,.si .i64 a),(2,.si .i64 b),(3,.si .i64 k),(10,.si .i64 x.1)],[.row (.i .i64) x.2 3 true,.cells p.ss 27 20 false]⟩) (λs=>(iS s 10,oS (.i .i64) s 0))
   (λx=>(0<=x.1/\x.1<=k)/\x.2=jv l a.toNat b.toNat x.1.toNat) (λx=>(k - x.1).toNat) λ_ _=> .look
 |_=> .look
theorem h363:dJ Tryz.prog KD:=by
 refine jm (L:=[]) (W:=[]) KD (λa=>adf a.1.1 a.1.2.1 a.1.2.2 a.2.1 a.2.2.1 a.2.2.2) (by simp) (by simp) ?_;rintro⟨⟨n,l,p⟩,a,b,k⟩ ⟨hn,hl,a0,k0,h1,h2⟩;refine bO (let c:=Ξ .i64;let d:=(0:Int);let e:=bW .i64;let f:=bq.row;let q:=SV.ow 0 n 1;let m:=bn.i .i64;let t:=f m l 3 true;let h:=bq.cells [c p.supply.a0,c p.supply.a1,c p.supply.a2,c p.supply.a3,c p.supply.a4,c p.supply.a5,c p.opn.a0,c p.opn.a1,c p.opn.a2,c p.opn.a3,c p.opn.a4,c p.opn.a5,c p.cls.a0,c p.cls.a1,c p.cls.a2,c p.cls.a3,c p.cls.a4,c p.cls.a5,Ψ m p.classes,Ψ bn.off p.offers] 27 20 false;(((q.same q/\(c a).same (c a)/\(c b).same (c b)/\(c k).same (c k)/\(γr .i64 0).same (c 0)/\True)/\t.same t/\h.same h/\True)/\(d<=d/\d<=k)/\l=jv l a.toNat b.toNat 0)/\∀(x:Int×List Int),let g:=x.snd.length;let r:=(b+x.fst).toNat;let s:=(a+x.fst).toNat;let o:=x.snd.set s (bj x.snd r d);let j:=x.fst+(1:Int);let u:=c j;let v:=o.set r (bj x.snd s d);let w:=f m v 3 true;(d<=x.fst/\x.fst<=k)/\x.snd=jv l a.toNat b.toNat x.fst.toNat->(decide (x.fst<k)=true->e (a+x.fst)/\e (b+x.fst)/\e (b+x.fst)/\n=g/\d<=b+x.fst/\b+x.fst<(↑g:Int)/\n=g/\r<g/\e (a+x.fst)/\n=g/\d<=a+x.fst/\a+x.fst<(↑g:Int)/\n=g/\s<g/\n=g/\d<=a+x.fst/\a+x.fst<(↑g:Int)/\n=g/\s<g/\n=o.length/\d<=b+x.fst/\b+x.fst<(↑o.length:Int)/\n=o.length/\r<o.length/\e j/\((q.same q/\(c a).same (c a)/\(c b).same (c b)/\(c k).same (c k)/\u.same u/\True)/\w.same w/\h.same h/\True)/\((d<=j/\j<=k)/\v=jv l a.toNat b.toNat j.toNat)/\(k - j).toNat<(k - x.fst).toNat)/\(decide (x.fst<k)=false->(SV.bH []).same (SV.bH [])/\(f m x.snd 3 true).same (f m (jv l a.toNat b.toNat k.toNat) 3 true)/\h.same h/\True)) (by kernel_rfl) ?_;simp only[vcs];have hn:n=l.length:=hn;have hl:l.length<=1000:=hl;have a0:0<=a:=a0;have k0:0<=k:=k0;have h1:a+k<=b:=h1;have h2:b+k<=l.length:=h2;refine⟨⟨⟨by omega,by omega⟩,ac8.symm⟩,?_⟩;rintro⟨i,m⟩ ⟨⟨i0,i1⟩,hm⟩;simp only at i0 i1 hm ⊢;have hml:m.length=l.length:=by rw[hm,uH]
 have e:(i+1).toNat=i.toNat+1:=by omega
 have ea:(a+i).toNat=a.toNat+i.toNat:=by omega
 have eb:(b+i).toNat=b.toNat+i.toNat:=by omega
 simp only[γe,hml];refine⟨λhi=>?_,λhi=>s6 ?_⟩
 ·have hs:=@ac9 l a.toNat b.toNat i.toNat (by omega) (by omega);rw[<-hm] at hs;rw[e,ea,eb,hs];repeat' refine γi ?_ ?_
  all_goals first|omega|rfl
 ·rw[hm,show i=k by omega]
def KE:cZ:=yE 199 2 (Int×Int) AQ Kz (λ_=>rfl) adb ade (λa=>uI a.1/\KC a.1.2.1 a.2.1 a.2.2/\(seg a.1.2.1 a.2.1.toNat a.2.2.toNat).Pairwise (·<·)) λa=>di (bM a.1.2.2) a.1.2.1 a.2.1.toNat a.2.2.toNat
def adg (n:Nat) (l:List Int) (p:bp) (a b:Int):Nat->cC
 |1=> .inv (Int×List Int) (λx=>⟨[(0,.ow 0 n 1),(1,.si .i64 a),(2,.si .i64 b),(3,.fn (.func 127) [] [.ptr 1 0 20]),(8,.si .i64 x.1)],[.row (.i .i64) x.2 3 true,.cells p.ss 27 20 false]⟩) (λs=>(iS s 8,oS (.i .i64) s 0))
   (λx=>(a<x.1/\(x.1<=b\/x.1=a+1))/\x.2=di (bM p) l a.toNat (if a<b then x.1 else a).toNat) (λx=>(b - x.1).toNat) λx k=>match k with
    |4=> .inv (Int×List Int) (λy=>⟨[(0,.ow 0 n 1),(1,.si .i64 a),(2,.si .i64 b),(3,.fn (.func 127) [] [.ptr 1 0 20]),(8,.si .i64 x.1),(9,.si .i64 y.1)],[.row (.i .i64) y.2 3 true,.cells p.ss 27 20 false]⟩) (λs=>(iS s 9,oS (.i .i64) s 0))
      (λy=>(a<=y.1/\y.1<=x.1)/\y.2=ju (bM p) l a.toNat x.1.toNat y.1.toNat/\∀s∈(df (bM p) (seg l a.toNat x.1.toNat)).drop (y.1 - a).toNat,gq (bM p) (bj l x.1.toNat 0) s=true) (λy=>(y.1 - a).toNat) λ_ _=> .look
    |_=> .look
 |_=> .look
theorem h343:dJ Tryz.prog KE:=by
 refine jm (L:=[]) (W:=[Ew]) KE (λa=>adg a.1.1 a.1.2.1 a.1.2.2 a.2.1 a.2.2) (by simpa using h320) (by simp) ?_;rintro⟨⟨n,l,p⟩,a,b⟩ ⟨⟨⟨hc,hn⟩,hl,ho⟩,⟨a0,a1,a2⟩,hi⟩;refine bO (let c:=Ξ .i64;let d:=(0:Int);let e:=bW .i64;let f:=bq.row;let g:=(1:Int);let m:=a+g;let o:=SV.ow 0 n 1;let q:=SV.fn (Fn.func 127) [] [γV 1 0 20];let E:=c m;let w:=bn.i .i64;let F:=f w l 3 true;let k:=bq.cells [c p.supply.a0,c p.supply.a1,c p.supply.a2,c p.supply.a3,c p.supply.a4,c p.supply.a5,c p.opn.a0,c p.opn.a1,c p.opn.a2,c p.opn.a3,c p.opn.a4,c p.opn.a5,c p.cls.a0,c p.cls.a1,c p.cls.a2,c p.cls.a3,c p.cls.a4,c p.cls.a5,Ψ w p.classes,Ψ bn.off p.offers] 27 20 false;e m/\(((o.same o/\(c a).same (c a)/\(c b).same (c b)/\q.same q/\E.same E/\True)/\F.same F/\k.same k/\True)/\(a<m/\(m<=b\/m=m))/\l=di (bM p) l a.toNat (if a<b then m else a).toNat)/\∀(x:Int×List Int),let y:=c x.fst;let B:=f w x.snd 3 true;let r:=x.fst.toNat;let C:=df (bM p) (seg l a.toNat r);let t:=x.fst+g;let G:=c t;let N:=di (bM p) l a.toNat (if a<b then t else a).toNat;(a<x.fst/\(x.fst<=b\/x.fst=m))/\x.snd=di (bM p) l a.toNat (if a<b then x.fst else a).toNat->(decide (x.fst<b)=true->(((o.same o/\(c a).same (c a)/\(c b).same (c b)/\q.same q/\y.same y/\y.same y/\True)/\B.same B/\k.same k/\True)/\(a<=x.fst/\x.fst<=x.fst)/\x.snd=ju (bM p) l a.toNat r r/\∀(s:Int),s∈γ7 (x.fst - a).toNat C->gq (bM p) (bj l r d) s=true)/\∀(x_1:Int×List Int),let H:=f w x_1.snd 3 true;let v:=x_1.fst.toNat;let D:=bj x_1.snd v d;let j:=x_1.fst - g;let z:=j.toNat;let A:=bj x_1.snd z d;let h:=x_1.snd.length;let z23:Nat:=(x_1.snd.set v A).length;let I:=c j;let J:=(x_1.snd.set v A).set z D;let K:=f w J 3 true;let L:=e t/\((o.same o/\(c a).same (c a)/\(c b).same (c b)/\q.same q/\G.same G/\True)/\H.same H/\k.same k/\True)/\((a<t/\(t<=b\/t=m))/\x_1.snd=N)/\(b - t).toNat<(b - x.fst).toNat;let M:=λ(u:Bool) ↦decide (sZ p D A<d)=u;((a<=x_1.fst/\x_1.fst<=x.fst)/\x_1.snd=ju (bM p) l a.toNat r v/\∀(s:Int),s∈γ7 (x_1.fst - a).toNat C->gq (bM p) (bj l r d) s=true)->(decide (a<x_1.fst)=true->n=h/\d<=x_1.fst/\x_1.fst<(↑h:Int)/\n=h/\v<h/\e j/\n=h/\d<=j/\j<(↑h:Int)/\n=h/\z<h/\(bC p=d/\iz p D/\iz p A)/\(M true->e j/\e j/\n=h/\d<=j/\j<(↑h:Int)/\n=h/\z<h/\n=h/\d<=x_1.fst/\x_1.fst<(↑h:Int)/\n=h/\v<h/\n=h/\d<=x_1.fst/\x_1.fst<(↑h:Int)/\n=h/\v<h/\n=z23/\d<=j/\j<(↑z23:Int)/\n=z23/\z<z23/\e j/\((o.same o/\(c a).same (c a)/\(c b).same (c b)/\q.same q/\y.same y/\I.same I/\True)/\K.same K/\k.same k/\True)/\((a<=j/\j<=x.fst)/\J=ju (bM p) l a.toNat r z/\∀(s:Int),s∈γ7 (j - a).toNat C->gq (bM p) (bj l r d) s=true)/\(j - a).toNat<(x_1.fst - a).toNat)/\(M false->L))/\(decide (a<x_1.fst)=false->L))/\(decide (x.fst<b)=false->(SV.bH []).same (SV.bH [])/\B.same (f w (di (bM p) l a.toNat b.toNat) 3 true)/\k.same k/\True)) (by kernel_rfl) ?_;simp only[vcs];have hc:bC p=0:=hc;have hn:n=l.length:=hn;have hl:l.length<=1000:=hl;have ho:∀x∈l,iz p x:=ho;have a0:0<=a:=a0;have a1:a<=b:=a1;have a2:b<=l.length:=a2;have hi:(seg l a.toNat b.toNat).Pairwise (·<·):=hi;generalize hD:bM p=D at*;have sl:∀{i:Int},a<=i->i<=b->(di D l a.toNat i.toNat).length=l.length:=λh1 h2=>yB (by omega) (by omega);refine⟨by omega,⟨⟨by omega,.inr trivial⟩,?_⟩,?_⟩
 ·by_cases hab:a<b;·rw[if_pos hab,show(a+1).toNat=a.toNat+1 by omega,ac4 (by omega)]
  ·rw[if_neg hab,Kw]
 rintro⟨i,m⟩ ⟨⟨i0,i1⟩,hm⟩;simp only at i0 i1 hm ⊢;refine⟨λhib=>?_,λhib=>s6 ?_⟩
 ·rw[if_pos (by omega)] at hm;have hx:=ho _ (cO (d:=(0:Int)) (show i.toNat<l.length by omega));have hS:∀s∈df D (seg l a.toNat i.toNat),s<bj l i.toNat 0/\iz p s:=λs hs=>by
   have h1:=yA.1 hs;have h2:(seg l a.toNat (i.toNat+1)).Pairwise (·<·):=by
    refine hi.sublist ?_;unfold seg;exact List.take_sublist_take_left (by omega)
   rw[Kv (by omega) (by omega)] at h2;refine⟨(γY.1 h2).2.2 s h1 _ (by simp),ho s ?_⟩;unfold seg at h1;exact List.mem_of_mem_drop (List.mem_of_mem_take h1)
  have hSl:(df D (seg l a.toNat i.toNat)).length=i.toNat - a.toNat:=by rw[ox,kP (by omega) (by omega)]
  have il:∀{j:Nat},(ju D l a.toNat i.toNat j).length=l.length:=λ{j}=>TD (by omega) (by omega);refine⟨⟨⟨by omega,by omega⟩,?_,?_⟩,?_⟩;·rw[hm,TE (by omega) (by omega)]
  ·intro s hs;rw[List.drop_of_length_le (by omega)] at hs;simp at hs
  rintro⟨j,m2⟩ ⟨⟨j0,j1⟩,hm2,hle⟩;simp only at j0 j1 hm2 hle ⊢;subst hm2;simp only[γe,il];have fin:(j=a\/gq D (bj (df D (seg l a.toNat i.toNat)) (j.toNat - 1 - a.toNat) 0) (bj l i.toNat 0)=true)->ju D l a.toNat i.toNat j.toNat=di D l a.toNat (if a<b then i+1 else a).toNat:=λh=>by
   rw[if_pos (by omega),show(i+1).toNat=i.toNat+1 by omega];refine TK (by omega) (by omega) (by omega) ?_ ?_;·rw[show j.toNat - a.toNat=(j - a).toNat by omega];exact hle
   ·rcases h with h|h;·exact .inl (by omega)
    ·exact .inr h
  refine⟨λhj=>?_,λhj=>?_⟩
  ·obtain⟨k1,k2,k3⟩:=@TI D l a.toNat i.toNat j.toNat (by omega) (by omega) (by omega);have ej:(j - 1).toNat=j.toNat - 1:=by omega
   rw[ej,k1,k2,k3];have hs:=cO (d:=(0:Int)) (show j.toNat - 1 - a.toNat<(df D (seg l a.toNat i.toNat)).length by omega);obtain⟨s1,s2⟩:=hS _ hs;have hcmp:=TB hc hx s2;rw[hD] at hcmp;rw[hcmp];refine⟨by omega,by omega,by omega,by omega,by omega,by omega,by omega,by omega,by omega,by omega,by omega,⟨hc,hx,s2⟩,λh1=>?_,λh1=>?_⟩
   ·repeat' refine γi ?_ ?_
    all_goals first|omega|rfl|skip
    intro s hs2;rw[show(j - 1 - a).toNat=j.toNat - 1 - a.toNat by omega,List.drop_eq_getElem_cons (show j.toNat - 1 - a.toNat<(df D (seg l a.toNat i.toNat)).length by omega)] at hs2;rcases List.mem_cons.1 hs2 with rfl|hs2
    ·rw[<-cQ (d:=(0:Int))];exact pz.2 (.inl h1)
    ·refine hle s ?_;rw[show(j - a).toNat=j.toNat - 1 - a.toNat+1 by omega];exact hs2
   ·have:=fin (.inr (pz.2 (by omega)));repeat' refine γi ?_ ?_
    all_goals first|omega|exact this|rfl
  ·have:=fin (.inl (by omega));repeat' refine γi ?_ ?_
   all_goals first|omega|exact this|rfl
 ·rw[hm];by_cases hab:a<b;·rw[if_pos hab,show i=b by omega]
  ·rw[if_neg hab,show a=b by omega]
end Go.Vi
