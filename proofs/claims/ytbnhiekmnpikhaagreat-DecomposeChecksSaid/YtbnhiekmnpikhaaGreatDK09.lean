/-
  Contracts: the reference's natural numbers: trim, digit, Cmp, Add, Sub, FromUint.
  Conditions: none.
-/
import Derived.Test.YtbnhiekmnpikhaaGreatDK06
import Derived.Test.YtbnhiekmnpikhaaGreatDK07
import Derived.Test.YtbnhiekmnpikhaaGreatDK08
import Derived.Test.YtbnhiekmnpikhaaGreatDK04
set_option maxRecDepth 100000
set_option maxHeartbeats 4000000
set_option linter.all false
open And renaming intro->γh
open Bool renaming and_eq_true->θ
open Classical renaming byContradiction->δu
open Go.Vi.AV.os renaming injEq->εz
open Go.Vi.AV.sc renaming injEq->δb
open Go.Vi.SV renaming row->Ω,agg->γN,sb->γw,si->γi,ow->γ1,ptr->γT,il->γy
open Int renaming mul_nonneg->γu,mul_pos->εA,le_of_lt->γe,natAbs_mul->εs,toNat_of_nonneg->εB,toNat_natCast->γl
open List renaming eq_nil_of_length_eq_zero->τ,length->γc,foldr_cons->ε5,foldr->θa,length_cons->γE,map_cons->π,set_eq_take_append_cons_drop->εI,getElem_cons_drop->ζC,take_append_drop->γL,drop_drop->δi,range->Γ,cons_append->γG,nodup_append->γs,length_map->Δ,mem_map->Ψ,getElem_of_mem->γI,mem_append->γk,range_succ->εf,length_append->γg,map_map->γ3,map_congr_left->γZ,map_nil->γr,nil_append->δK,all_eq_true->φ,mem_of_mem_take->γm,range_eq_range'->δD,append_assoc->γV,pairwise_append->δX,drop->γU,mem_of_mem_drop->γR,Pairwise->ζz,replicate->δ
open List.Perm renaming refl->ζP
open List.cons renaming injEq->Θ
open Option.some renaming injEq->γ
open Prod renaming ext->εE
open Rat renaming mkRat_eq_div->δB,mkRat_self->δV,intCast_natCast->ε4,not_le->ζX,mul_nonneg->δt
namespace Go.Vi
open Go.Proofs.YtbnhiekmnpikhaaGreat.Ir
open Go.Proofs
theorem abK {l:List Int} (h:l.length=0\/bj l (l.length - 1) 0≠0):fS l:=by
 rcases h with h|h;·rw[τ h];trivial
 ·by_cases b:l.length=0;·rw[τ b];trivial
  ·have c:=DJ (a:=l) (n:=l.length - 1) (by omega);grind[Io]
def sV (a:List Int):Bool:=decide (a.length=0)||decide (bj a (a.length - 1) 0≠0)
theorem uz {a:List Int}:sV a=true↔fS a:=by
 unfold sV;rw[Bool.or_eq_true,decide_eq_true_eq,decide_eq_true_eq];constructor;·exact abK
 ·intro h;by_cases e:a.length=0;·exact .inl e
  ·right;have b:=DJ (a:=a) (n:=a.length - 1) (by omega);rw[show a.length - 1+1=a.length by omega,List.take_length] at b;have:∀{l:List Int} {x:Int},fS (l++[x])->x≠0:=by
    intro l x;induction l with
    |nil=>intro h;exact h.1 rfl;|cons d l c=>intro h;exact c h.2
   grind
theorem Ro (p q:Rat):(if(!(decide (p<0)==decide (q<0)))=true then -((p.num.natAbs:Int)*(q.num.natAbs:Int)) else(p.num.natAbs:Int)*(q.num.natAbs:Int))=p.num*q.num:=by
 have a:=v7 p;have b:=v7 q;grind
theorem Rq (p q:Rat):fU (!(decide (p<0)==decide (q<0))) ((p.num.natAbs:Int)*(q.num.natAbs:Int)) ((p.den:Int)*(q.den:Int))=p*q:=by
 unfold fU;rw[Ro,show((p.den:Int)*(q.den:Int)).toNat=p.den*q.den by omega,δB];have a:(p.num:Rat) / (p.den:Rat)=p:=by rw[<-δB,δV]
 have b:(q.num:Rat) / (q.den:Rat)=q:=by rw[<-δB,δV]
 grind
theorem Rr {p q:Rat} (a:q≠0):fU (!(decide (p<0)==decide (q<0))) ((p.num.natAbs:Int)*(q.den:Int)) ((p.den:Int)*(q.num.natAbs:Int))=p / q:=by
 unfold fU;rw[show((p.den:Int)*(q.num.natAbs:Int)).toNat=p.den*q.num.natAbs by omega,δB];have k:(p.num:Rat) / (p.den:Rat)=p:=by rw[<-δB,δV]
 have d:(q.num:Rat) / (q.den:Rat)=q:=by rw[<-δB,δV]
 have m:(p.den:Rat)≠0:=by have:=p.den_nz;simp_all
 have o:(q.den:Rat)≠0:=by grind
 have e:=v7 p;have g:=v7 q;have n:(q.num:Rat)≠0:=λh=>a (by grind);rw[Rat.natCast_mul];conv=>rhs;rw[<-k,<-d]
 have f:((p.num.natAbs:Int):Rat)=(p.num.natAbs:Rat):=ε4 _;have c:((q.num.natAbs:Int):Rat)=(q.num.natAbs:Rat):=ε4 _;have i:((q.den:Int):Rat)=(q.den:Rat):=ε4 _;have j:(p.num:Rat)=if decide (p<0)=true then -(p.num.natAbs:Rat) else(p.num.natAbs:Rat):=by
  rw[<-f];conv=>lhs;rw[e]
  split<;>grind
 have b:(q.num:Rat)=if decide (q<0)=true then -(q.num.natAbs:Rat) else(q.num.natAbs:Rat):=by
  rw[<-c];conv=>lhs;rw[g]
  split<;>grind
 have l:((if(!(decide (p<0)==decide (q<0)))=true then -((p.num.natAbs:Int)*(q.den:Int)) else(p.num.natAbs:Int)*(q.den:Int):Int):Rat)=if(!(decide (p<0)==decide (q<0)))=true then -((p.num.natAbs:Rat)*(q.den:Rat)) else(p.num.natAbs:Rat)*(q.den:Rat):=by
  split<;>grind
 grind
def AI:bM:=⟨178,bL×bL,.cons (eh sF) (.one (eh sF)),λa=>cC a.1/\cC a.2,λa=>pR (bV a.1*bV a.2)⟩
theorem h410:Holds Tryz.prog AI:=by
 refine cH (L:=[yd,yg]) AI lk (by grind[h153,h126]) ?_;rintro⟨x,y⟩ ⟨⟨p,i,n,f,M⟩,⟨q,j,o,l,G⟩⟩;simp only at n o;subst n o;refine bR (let f:=Ω;let c:=(bu p).snd.fst;let k:=(bu q).snd.fst;let g:=(bu p).snd.snd;let h:=(bu q).snd.snd;let m:=cM (bk c*bk k);let b:=cM (bk g*bk h);let d:=bu (fU (!(bu p).fst==(bu q).fst) (bk m) (bk b));let a:=bp.i .u32;let e:=bu (bV (bu p)*bV (bu q));((bA c/\bA k)/\γc c<=100000000000/\γc k<=100000000000)/\((bA g/\bA h)/\γc g<=100000000000/\γc h<=100000000000)/\((bA m/\bA b)/\(m.length<=1000000000/\b.length<=1000000000)/\(0:Int)<bk b)/\(γN [γw d.fst,f a d.snd.fst,f a d.snd.snd]).same (γN [γw e.fst,f a e.snd.fst,f a e.snd.snd])) (by kernel_rfl) ?_;conv=>zeta
 obtain⟨t,⟨P,_,s⟩,⟨E,_,v⟩⟩:=l9 p;obtain⟨u,⟨J,_,z⟩,⟨I,_,A⟩⟩:=l9 q;obtain⟨D,F⟩:=pn f;obtain⟨O,N⟩:=pn l;have C:=p.den_pos;have K:=q.den_pos;rw[s,v,z,A,t,u,eD,eD];have r:0<=(p.num.natAbs:Int)*(q.num.natAbs:Int):=γu (by omega) (by omega);have w:0<(p.den:Int)*(q.den:Int):=εA (by omega) (by omega);have H:=mH r (qJ (by omega) f.1 l.1);have B:=mH (γe w) (qJ (by omega) f.2 l.2);grind[gl,D1,Rq]
def D3:bM:=⟨184,bL×bL,.cons (eh sF) (.one (eh sF)),λa=>(cC a.1/\cC a.2)/\bV a.2≠0,λa=> .bI [pR (bV a.1 / bV a.2),.si .i64 0]⟩
theorem h416:Holds Tryz.prog D3:=by
 refine cH (L:=[yd,AG]) D3 lk (by grind[h153,h151]) ?_;rintro⟨x,y⟩ ⟨⟨⟨p,i,v,f,X⟩,⟨q,j,u,m,Q⟩⟩,a⟩;simp only at v u a;subst v u;refine bR (let a:=Ω;let g:=(bu p).snd.fst;let d:=(bu q).snd.snd;let r:=(bu p).snd.snd;let e:=(bu q).snd.fst;let k:=cM (bk g*bk d);let c:=cM (bk r*bk e);let l:=bu (fU (!(bu p).fst==(bu q).fst) (bk k) (bk c));let b:=bp.i .u32;let t:=[γi .i64 0];let o:=bu (bV (bu p) / bV (bu q));((bA g/\bA d)/\γc g<=100000000000/\γc d<=100000000000)/\((bA r/\bA e)/\γc r<=100000000000/\γc e<=100000000000)/\((bA k/\bA c)/\(k.length<=1000000000/\c.length<=1000000000)/\(0:Int)<bk c)/\(SV.bI (γN [γw l.fst,a b l.snd.fst,a b l.snd.snd]::t)).same (SV.bI (γN [γw o.fst,a b o.snd.fst,a b o.snd.snd]::t))) (by kernel_rfl) ?_;conv=>zeta
 rw[eD] at a;obtain⟨E,⟨C,_,M⟩,⟨K,_,I⟩⟩:=l9 p;obtain⟨B,⟨z,_,J⟩,⟨F,_,A⟩⟩:=l9 q;obtain⟨V,O⟩:=pn f;obtain⟨S,W⟩:=pn m;have T:=p.den_pos;have Z:=q.den_pos;have R:q.num≠0:=λh=>a (Rat.num_eq_zero.1 h);rw[M,I,J,A,E,B,eD,eD];have s:0<=(p.num.natAbs:Int)*(q.den:Int):=γu (by omega) (by omega);have n:0<(p.den:Int)*(q.num.natAbs:Int):=εA (by omega) (by omega);have Y:=mH s (qJ (by omega) f.1 m.2);have N:=mH (γe n) (qJ (by omega) f.2 m.1);obtain⟨G,H,P⟩:=gl s;obtain⟨w,D,U⟩:=gl (γe n);rw[G,w,Rr a];refine⟨⟨⟨C,F⟩,?_,?_⟩,⟨⟨K,z⟩,?_,?_⟩,⟨⟨H,D⟩,⟨?_,?_⟩,n⟩,rfl⟩<;>omega
def I2:bM:=⟨169,List Int,.one (dM (.i .u32)),λa=>bA (show List Int from a)/\(show List Int from a).length<=1000000000,λa=> .sb (sV a)⟩
theorem h414:Holds Tryz.prog I2:=by
 refine cH (L:=[rF]) I2 lk (by grind[h152]) ?_;rintro(a:List Int) h;refine bR (a.length<=1000000000000/\(γw (decide ((↑(bJ a).length:Int)=(↑a.length:Int)))).same (γw (sV a))) (by kernel_rfl) ?_;simp only[vcs];obtain⟨f,d⟩:bA a/\a.length<=1000000000:=h;refine⟨by omega,?_⟩;cases c:sV a with
 |true=>
  grind[qD,Ai,uz];|false=>
  refine decide_eq_false λb=>?_;have e:bJ a=a:=by
   unfold bJ at b ⊢;rw[List.length_take] at b;exact List.take_of_length_le (by omega)
  grind[rG,uz]
def I3:bM:=⟨170,bL,.one (eh sF),λx=>x.2.1.length<=1000000000,λx=> .agg [.sb x.1,.sb (decide (x.2.1=[]))]⟩
theorem h415:Holds Tryz.prog I3:=by
 refine cH (L:=[]) I3 lk (by simp) ?_;rintro⟨s,n,d⟩ h;refine bR (let a:=γw;(γN [a s,a (decide ((↑n.length:Int)=(0:Int)))]).same (γN [a s,a (decide (n=[]))])) (by kernel_rfl) ?_;have e:decide ((n.length:Int)=0)=decide (n=[]):=by
  simp_all
 rw[e];rfl
def uA:bM:=⟨141,bL,.one (eh sF),λx=>(bA x.2.1/\bA x.2.2)/\x.2.1.length<=10000000/\x.2.2.length<=10000000,λx=> .sb (okF x)⟩
theorem h407:Holds Tryz.prog uA:=by
 refine cH (L:=[I2,I3,DX,ye,xY]) uA lk (by grind[h414,h415,h165g,h128,h132]) ?_;rintro⟨s,n,d⟩ ⟨⟨m,f⟩,j,k⟩;refine bR (let a:=SV.bl false;let b:=(0:Int);let c:=(1:Int);let l:=γw (okF (s,n,d));let w:=decide ((↑d.length:Int)=b);let x:=s==true&&(decide (n=[])==true&&true);let p:=cM (eC (bk n) (bk d));let t:=cM c;(bA n/\n.length<=1000000000)/\((!sV n)=true->(a).same l)/\((!sV n)=false->(bA d/\d.length<=1000000000)/\((!sV d)=true->(a).same l)/\((!sV d)=false->(w=true->(a).same l)/\(w=false->n.length<=1000000000/\(x=true->(a).same l)/\(x=false->((bA n/\bA d)/\n.length<=1000000000/\d.length<=1000000000)/\(b<=c/\c<(18446744073709551616:Int))/\((bA p/\bA t)/\p.length<=1000000000000/\t.length<=1000000000000)/\(γw (decide (lX (bk p) (bk t)=b))).same l))))) (by kernel_rfl) ?_;simp only[vcs];have m:bA n:=m;have f:bA d:=f;have j:n.length<=10000000:=j;have k:d.length<=10000000:=k;have c:¬(fS n/\fS d/\d≠[])->false=okF (s,n,d):=λh=>by
  grind[abJ]
 have e:∀{a:List Int},((a.length:Nat):Int)=0->a=[]:=λh=>τ (by omega);have b:∀{a:List Int},¬((a.length:Nat):Int)=0->a≠[]:=λh i=>h (by rw[i];rfl);refine⟨⟨m,by omega⟩,λu=>c λh=>?_,λu=>⟨⟨f,by omega⟩,λi=>c λh=>?_,λi=>⟨λo=>c λh=>h.2.2 (e o),λo=>⟨by omega,λC=>?_,λC=>?_⟩⟩⟩⟩;·grind[uz]
 ·grind[uz]
 all_goals
  have E:=okF_eq (s:=s) m f (uz.1 u) (uz.1 i) (b o);have D:=I1 f (uz.1 i) (b o);have J:=@Rn (bk n) (bk d) D;obtain⟨H,v,A⟩:=gl (show 0<=eC (bk n) (bk d) by omega);obtain⟨B,G,I⟩:=gl (show(0:Int)<=1 by omega);have y:eC (bk n) (bk d)<=bk d:=by
   unfold eC;have:=Nat.gcd_le_right (bk n).toNat (show 0<(bk d).toNat by omega);omega
  rw[E]
 ·simp_all
 ·have F:=I0 v f A (by omega);refine⟨⟨⟨m,f⟩,by omega,by omega⟩,by omega,⟨⟨v,G⟩,by omega,by decide⟩,?_⟩;rw[H,B];have r:(lX (eC (bk n) (bk d)) 1=0)=(eC (bk n) (bk d)=1):=by
   grind[lX]
  simp only[r];by_cases g:n=[]
  ·rw[if_pos g];have z:s=false:=by
    simp_all
   have q:eC (bk n) (bk d)=bk d:=by
    rw[g];unfold eC;simp[bk];omega
   rw[q,z,Bool.not_false,Bool.true_and,decide_eq_decide];constructor
   ·intro h;rw[<-Ai f (uz.1 i),h];rfl
   ·intro h;rw[h];rfl
  ·rw[if_neg g]
theorem uB {p q:Rat} {i j:Nat} (b:Sz i p) (a:Sz j q):Sz (i+j) (p*q):=by
 rw[<-Rq];unfold fU;rw[Ro];have c:=p.den_pos;have d:=q.den_pos;have e:0<(p.den:Int)*(q.den:Int):=εA (by omega) (by omega);refine Az (by omega) ?_ ?_
 ·rw[εs,Int.natCast_mul];exact qJ (by omega) b.1 a.1
 ·rw[εB (by omega)];exact qJ (by omega) b.2 a.2
theorem I4 {p q:Rat} {i j:Nat} (c:Sz i p) (b:Sz j q) (d:q≠0):Sz (i+j) (p / q):=by
 rw[<-Rr d];unfold fU;have e:=p.den_pos;have f:=q.den_pos;have l:q.num≠0:=λh=>d (Rat.num_eq_zero.1 h);have k:0<(p.den:Int)*(q.num.natAbs:Int):=εA (by omega) (by omega);have g:=qJ (a:=(p.num.natAbs:Int)) (by omega) c.1 b.2;refine Az (by omega) ?_ ?_;·grind
 ·rw[εB (by omega)];exact qJ (by omega) c.2 b.1
theorem abL {p q:Rat}:0<iP p q↔q<p:=by
 grind[iP]
theorem abM {p q:Rat}:iP p q=0↔p=q:=by
 grind[iP]
theorem Rt:∀l:List Int,cmpL l l=0
 |[]=>rfl
 |a::l=>by
  simp only[cmpL,if_neg (Int.lt_irrefl a)];exact Rt l
theorem Ru:∀{a b:List Int},cmpL a b=0->a=b
 |[],[],_=>rfl
 |[],_::_,h=>by grind[cmpL];|_::_,[],h=>by grind[cmpL];|x::a,y::b,h=>by
  simp only[cmpL] at h;split at h;·simp at h
  ·split at h;·simp at h
   ·rw[Ru h,show x=y by omega]
theorem Rw:∀{a b:List Int},cmpL a b<0↔0<cmpL b a
 |[],[]=>by simp[cmpL];|[],_::_=>by simp[cmpL];|_::_,[]=>by simp[cmpL];|x::a,y::b=>by
  simp only[cmpL];by_cases c:x<y;·omega
  ·by_cases d:y<x;·omega
   ·rw[if_neg c,if_neg d,if_neg d,if_neg c];exact Rw
theorem Rx:∀{a b c:List Int},cmpL a b<0->cmpL b c<0->cmpL a c<0
 |[],[],_,h,_=>by omega;|_::_,[],_,h,_=>by grind[cmpL];|[],_::_,[],_,h=>by grind[cmpL];|[],_::_,_::_,_,_=>by simp[cmpL];|_::_,_::_,[],_,h=>by grind[cmpL];|x::a,y::b,z::c,h,k=>by
  simp only[cmpL] at h k ⊢;by_cases g:x<y;·omega
  ·rw[if_neg g] at h;by_cases e:y<x;·omega
   ·rw[if_neg e] at h;by_cases f:y<z;·omega
    ·rw[if_neg f] at k;by_cases d:z<y;·omega
     ·rw[if_neg d] at k;rw[if_neg (by omega),if_neg (by omega)];exact Rx h k
def mI (a b:Alloc):Prop:=b.value<a.value\/a.value=b.value/\cmpL a.chosen b.chosen<0
theorem Ry {a b c:Alloc} (h:mI a b) (k:mI b c):mI a c:=by
 rcases h with h|⟨g,e⟩
 ·rcases k with k|⟨f,_⟩;·left;omega
  ·left;omega
 ·rcases k with k|⟨f,d⟩;·left;omega
  ·exact .inr ⟨by omega,Rx e d⟩
theorem D4 {a:Alloc}:¬mI a a:=by
 rintro(h|⟨_,h⟩)<;>grind[Rt]
theorem abN {a b:Alloc} (h:¬mI a b) (k:¬mI b a):a=b:=by
 obtain⟨l,v⟩:=a;obtain⟨m,w⟩:=b;simp only[mI,not_or,not_and] at h k;have d:v=w:=by omega
 subst d;have e:=h.2 rfl;have c:=k.2 rfl;have:=mt Rw.2 c;grind[Ru]
def wed (c:Nat->Rat):(List Nat->Rat)->List Nat->Rat
 |_,[]=>0
 |f,i::R=>c i*f R - wed c (λl=>f (i::l)) R
theorem I5 {c:Nat->Rat}:∀{R:List Nat},wed c (λ_=>0) R=0
 |[]=>rfl
 |i::R=>by simp only[wed,I5];grind
theorem I6 {c:Nat->Rat} {p q:Rat}:∀{R:List Nat} {f g:List Nat->Rat},wed c (λl=>p*f l+q*g l) R=p*wed c f R+q*wed c g R
 |[],_,_=>by grind[wed];|i::R,f,g=>by
  simp only[wed,@I6 c p q R];grind
theorem Rz {c d:Nat->Rat} {p q:Rat}:∀{R:List Nat} {f:List Nat->Rat},wed (λi=>p*c i+q*d i) f R=p*wed c f R+q*wed d f R
 |[],_=>by grind[wed];|i::R,f=>by
  simp only[wed,@Rz c d p q R];grind
theorem RA {c:Nat->Rat} {p:Rat} {R:List Nat} {f g:List Nat->Rat}:wed c (λl=>p*f l - g l) R=p*wed c f R - wed c g R:=by
 have:=@I6 c p (-1) R f g;grind
theorem I7 {a b:Nat->Rat}:∀{R:List Nat} {f:List Nat->Rat},wed a (wed b f) R= - wed b (wed a f) R
 |[],_=>by grind[wed];|i::R,f=>by
  have d:wed a (λl=>wed b f (i::l)) R=b i*wed a f R - wed a (wed b λl=>f (i::l)) R:=RA;have c:wed b (λl=>wed a f (i::l)) R=a i*wed b f R - wed b (wed a λl=>f (i::l)) R:=RA;have h:=@I7 a b R λl=>f (i::l);grind[wed]
theorem abO {a:Nat->Rat} {f:List Nat->Rat}:wed a (wed a f)=λ_=>0:=by
 grind[I7]
def yj (R:List Nat):Rat:=if R=[] then 1 else 0
def jY (a:List (Nat->Rat)):List Nat->Rat:=a.foldr wed yj
theorem RB {c:Nat->Rat} {a:List (Nat->Rat)}:jY (c::a)=wed c (jY a):=rfl
theorem RD {a:Nat->Rat}:∀{b:List (Nat->Rat)} {f:List Nat->Rat},wed a (b.foldr wed (wed a f))=λ_=>0
 |[],f=>abO
 |c::b,f=>by
  funext R;simp only[ε5];rw[I7,@RD a b f,I5];rfl
theorem fold_zero:∀{cs:List (Nat->Rat)},cs.foldr wed (λ_=>0)=λ_=>0
 |[]=>rfl
 |c::cs=>by
  rw[ε5,fold_zero];grind[I5]
theorem RE {a:Nat->Rat} {p m q:List (Nat->Rat)}:jY (p++a::(m++a::q))=λ_=>0:=by
 grind[jY,RD,fold_zero]
theorem RF {p q:Rat}:∀{a:List (Nat->Rat)} {f g:List Nat->Rat} {R:List Nat},a.foldr wed (λl=>p*f l+q*g l) R=p*a.foldr wed f R+q*a.foldr wed g R
 |[],_,_,_=>rfl
 |c::a,f,g,R=>by
  simp only[ε5];rw[<-I6];congr 1;funext l;exact RF
theorem RG {c d:Nat->Rat} {p q:Rat} {a b:List (Nat->Rat)} {R:List Nat}:jY (a++(λi=>p*c i+q*d i)::b) R=p*jY (a++c::b) R+q*jY (a++d::b) R:=by
 unfold jY;simp only[List.foldr_append,ε5];rw[<-RF];have e:wed (λi=>p*c i+q*d i) (θa wed yj b)=λl=>p*wed c (θa wed yj b) l+q*wed d (θa wed yj b) l:=by
  grind[Rz]
 rw[e]
def ff (M:Nat) (q:Rat):Prop:=∃z:Int,q=(z:Rat)/\z.natAbs<=M
theorem RI {c:Nat->Rat} {M K:Nat}:∀{R:List Nat} {f:List Nat->Rat},(∀i∈R,ff M (c i))->(∀l,l.length+1=R.length->(∀i∈l,i∈R)->ff K (f l))->ff (R.length*(M*K)) (wed c f R)
 |[],_,_,_=>⟨0,by simp[wed],by simp⟩
 |i::R,f,e,g=>by
  simp only[wed,γE];obtain⟨y,q,h⟩:=@RI c M K R (λl=>f (i::l)) (λj a=>e j (by simp[a])) λl n p=>g _ (by simp_all) λj a=>by
   grind
  obtain⟨u,o,b⟩:=e i (by simp);obtain⟨v,k,d⟩:=g R (by simp) λj a=>by simp[a]
  refine⟨u*v - y,?_,?_⟩;·simp_all
  ·have m:(u*v).natAbs<=M*K:=by
    rw[εs];exact Nat.mul_le_mul b d
   grind
def nD (M:Nat):Nat->Nat
 |0=>1
 |n+1=>(n+1)*(M*nD M n)
theorem D5 {M:Nat}:∀{cs:List (Nat->Rat)} {R:List Nat},cs.length=R.length->(∀c∈cs,∀i∈R,ff M (c i))->ff (nD M R.length) (jY cs R)
 |[],R,b,_=>by
  have:R=[]:=τ (by simp_all);subst this;exact⟨1,by simp[jY,yj],by simp[nD]⟩;|c::cs,R,b,e=>by
  rw[RB];cases R with
  |nil=>simp at b;|cons i R=>
   simp only[γE,nD];refine RI (e c (by simp)) λl a g=>?_;simp only[γE] at b a;rw[show R.length=l.length by omega];exact D5 (by omega) λd f j h=>e d (by simp[f]) j (g j h)
def yk (k:Nat):Nat->Rat:=λi=>if i=k then 1 else 0
theorem RJ {c:Nat->Rat}:∀{R:List Nat} {f:List Nat->Rat},(∀i∈R,c i=0)->wed c f R=0
 |[],_,_=>rfl
 |i::R,f,h=>by
  simp only[wed];rw[h i (by simp),RJ λj a=>h j (by simp[a])];grind
theorem RL:∀{R:List Nat},R.Nodup->jY (R.map yk) R=1
 |[],_=>by simp[jY,yj];|i::R,h=>by
  rw[List.nodup_cons] at h;rw[π,RB];simp only[wed];rw[RJ (c:=yk i) (R:=R) λj a=>by
   unfold yk;grind];rw[RL h.2];unfold yk;grind
def bO (n:Nat) (f:Nat->Rat):Rat:=match n with
 |0=>0
 |n+1=>bO n f+f n
theorem dK:∀{n:Nat} {f g:Nat->Rat},(∀i,i<n->f i=g i)->bO n f=bO n g
 |0,_,_,_=>rfl
 |n+1,f,g,h=>by simp only[bO];rw[dK λi a=>h i (by omega),h n (by omega)]
theorem yl:∀{n:Nat} {f g:Nat->Rat},bO n (λi=>f i+g i)=bO n f+bO n g
 |0,_,_=>by grind[bO];|n+1,f,g=>by simp only[bO];rw[yl];grind
theorem wb {c:Rat}:∀{n:Nat} {f:Nat->Rat},bO n (λi=>c*f i)=c*bO n f
 |0,_=>by grind[bO];|n+1,f=>by simp only[bO];rw[wb];grind
theorem iQ:∀{n:Nat},bO n (λ_=>0)=0
 |0=>rfl
 |n+1=>by simp only[bO];rw[iQ];grind
theorem wh {k:Nat} {x:Rat}:∀{n:Nat},bO n (λi=>if i=k then x else 0)=if k<n then x else 0
 |0=>by simp[bO];|n+1=>by
  simp only[bO];rw[wh];grind
theorem D6 {n k:Nat} {f:Nat->Rat} (h:k<n):bO n f=f k+bO n λi=>if i=k then 0 else f i:=by
 have a:=@wh k (f k) n;rw[if_pos h] at a;rw[<-a,<-yl];grind[dK]
theorem RN {a b:List (Nat->Rat)} {R:List Nat} {y:Nat->Rat} {T:Nat->Nat->Rat}:∀{n:Nat},jY (a++(λi=>bO n λk=>y k*T k i)::b) R=bO n λk=>y k*jY (a++T k::b) R
 |0=>by
  have e:(λi:Nat=>bO 0 λk=>y k*T k i)=λi=>(0:Rat)*(λ_=>0) i+0*(λ_=>0) i:=by grind[bO]
  rw[e,RG];grind[bO];|n+1=>by
  have e:(λi:Nat=>bO (n+1) λk=>y k*T k i)=λi=>(1:Rat)*(λi=>bO n λk=>y k*T k i) i+y n*T n i:=by
   grind[bO]
  rw[e,RG,RN];grind[bO]
theorem abP {C:List (Nat->Rat)} {R:List Nat} {y:Nat->Rat} {r:Nat} (f:r<C.length):jY (C.set r (λi=>bO C.length λk=>y k*(C.getD k (λ_=>0)) i)) R=y r*jY C R:=by
 have a:∀c:Nat->Rat,C.set r c=C.take r++c::C.drop (r+1):=λc=>by rw[εI,if_pos f]
 rw[a,RN,D6 f];have m:∀k,k<C.length->(if k=r then(0:Rat) else y k*jY (C.take r++C.getD k (λ_=>0)::C.drop (r+1)) R)=0:=by
  intro k g;split;·rfl
  ·rename_i e;have o:jY (C.take r++C.getD k (λ_=>0)::C.drop (r+1)) R=0:=by
    have n:C.getD k (λ_=>0)=C[k]:=by simp_all
    rw[n];rcases Nat.lt_or_gt_of_ne e with h|h
    ·have j:C.take r=C.take k++C[k]::(C.drop (k+1)).take (r - (k+1)):=by
      have b:C[k]::C.drop (k+1)=C.drop k:=ζC g;obtain⟨d,rfl⟩:∃d,r=k+(d+1):=⟨r - (k+1),by omega⟩;rw[List.take_add,<-b,List.take_succ_cons,show k+(d+1) - (k+1)=d by omega]
     grind[RE]
    ·have j:C.drop (r+1)=(C.drop (r+1)).take (k - (r+1))++C[k]::C.drop (k+1):=by
      have b:C[k]::C.drop (k+1)=C.drop k:=ζC g;rw[b];have l:=γL (k - (r+1)) (C.drop (r+1));rw[δi,show r+1+(k - (r+1))=k by omega] at l;exact l.symm
     rw[j,RE]
   simp_all
 rw[dK m,iQ];have b:C.take r++C.getD r (λ_=>0)::C.drop (r+1)=C:=by
  simp_all
 rw[b];grind
structure Tb where
 cj:List (List Rat)
 bound:List Rat
 cost:List Rat
 value:Rat
 basic:List Int
 free:List Int
namespace Tb
def cf (t:Tb) (i j:Nat):Rat:=bj (bj t.cj i []) j 0
def bd (t:Tb) (i:Nat):Rat:=bj t.bound i 0
def cs (t:Tb) (j:Nat):Rat:=bj t.cost j 0
def bv (t:Tb) (i:Nat):Int:=bj t.basic i 0
def fv (t:Tb) (j:Nat):Int:=bj t.free j 0
structure WF (n m:Nat) (t:Tb):Prop where
 cj:t.cj.length=m
 row:∀i,i<m->(bj t.cj i []).length=n
 bound:t.bound.length=m
 cost:t.cost.length=n
 basic:t.basic.length=m
 free:t.free.length=n
def holds (n m:Nat) (t:Tb) (x:Int->Rat) (z:Rat):Prop:=
 (∀i,i<m->x (t.bv i)+bO n (λj=>t.cf i j*x (t.fv j))=t.bd i)/\z=t.value+bO n λj=>t.cs j*x (t.fv j)
end Tb
def kj (l:List Rat) (c:Nat) (p:List Rat):List Rat:=(Γ l.length).map λj=>if j=c then -(bj l c 0*bj p j 0) else bj l j 0 - bj l c 0*bj p j 0
def kH (l:List Rat) (c:Nat):List Rat:=(Γ l.length).map λj=>if j=c then 1 / bj l c 0 else bj l j 0*(1 / bj l c 0)
def fV (t:Tb) (r c:Nat):Tb where
 cj:=(Γ t.cj.length).map λi=>if i=r then kH (bj t.cj r []) c else kj (bj t.cj i []) c (kH (bj t.cj r []) c);bound:=(Γ t.bound.length).map λi=>if i=r then t.bd r*(1 / t.cf r c) else t.bd i - t.cf i c*(t.bd r*(1 / t.cf r c));cost:=kj t.cost c (kH (bj t.cj r []) c);value:=t.value+t.cs c*(t.bd r*(1 / t.cf r c));basic:=t.basic.set r (t.fv c);free:=t.free.set c (t.bv r)
theorem qK {a:Type} {f:Nat->a} {n i:Nat} {d:a} (h:i<n):bj ((Γ n).map f) i d=f i:=by
 grind[cQ]
theorem iR {a:Type} {l:List a} {r i:Nat} {x d:a} (h:r<l.length):bj (l.set r x) i d=if i=r then x else bj l i d:=by
 unfold bj;grind
section
variable {n m:Nat} {t:Tb} {r c:Nat}
theorem RO {l:List Rat}:(kH l c).length=l.length:=by simp[kH]
theorem D7 {l p:List Rat}:(kj l c p).length=l.length:=by simp[kj]
theorem I8 {l:List Rat} {j:Nat} (h:j<l.length):bj (kH l c) j 0=if j=c then 1 / bj l c 0 else bj l j 0*(1 / bj l c 0):=qK h
theorem D8 {l p:List Rat} {j:Nat} (h:j<l.length):bj (kj l c p) j 0=if j=c then -(bj l c 0*bj p j 0) else bj l j 0 - bj l c 0*bj p j 0:=qK h
theorem RP (h:t.WF n m):(fV t r c).WF n m where
 cj:=by simp[fV,h.cj]
 row i a:=by
  simp only[fV];rw[qK (by rw[h.cj];exact a)];split;·rename_i e;subst e;rw[RO,h.row _ a]
  ·rw[D7,h.row _ a]
 bound:=by simp[fV,h.bound]
 cost:=by simp only[fV];rw[D7,h.cost]
 basic:=by simp[fV,h.basic]
 free:=by simp[fV,h.free]
theorem AK (h:t.WF n m) (b:r<m) (e:c<n) {i j:Nat} (d:i<m) (a:j<n):(fV t r c).cf i j=
  if i=r then(if j=c then 1 / t.cf r c else t.cf r j*(1 / t.cf r c)) else if j=c then -(t.cf i c*(1 / t.cf r c)) else t.cf i j - t.cf i c*(t.cf r j*(1 / t.cf r c)):=by
 unfold Tb.cf;simp only[fV];rw[qK (by rw[h.cj];exact d)];split;·rw[I8 (by rw[h.row _ b];exact a)]
 ·rw[D8 (by rw[h.row _ d];exact a)];rw[I8 (by rw[h.row _ b];exact a)];simp_all
theorem D9 (h:t.WF n m) {i:Nat} (a:i<m):(fV t r c).bd i=if i=r then t.bd r*(1 / t.cf r c) else t.bd i - t.cf i c*(t.bd r*(1 / t.cf r c)):=by
 show bj _ i 0=_;simp only[fV];rw[qK (by rw[h.bound];exact a)]
theorem RR (h:t.WF n m) (b:r<m) {j:Nat} (a:j<n):(fV t r c).cs j=if j=c then -(t.cs c*(1 / t.cf r c)) else t.cs j - t.cs c*(t.cf r j*(1 / t.cf r c)):=by
 show bj _ j 0=_;simp only[fV];rw[D8 (by rw[h.cost];exact a),I8 (by rw[h.row _ b];exact a)];split;·rfl
 ·rfl
theorem I9 (h:t.WF n m) (a:r<m) {i:Nat}:(fV t r c).bv i=if i=r then t.fv c else t.bv i:=iR (by rw[h.basic];exact a)
theorem Ja (h:t.WF n m) (a:c<n) {j:Nat}:(fV t r c).fv j=if j=c then t.bv r else t.fv j:=iR (by rw[h.free];exact a)
theorem piv_holds (h:t.WF n m) (b:r<m) (k:c<n) (K:t.cf r c≠0) {x:Int->Rat} {z:Rat}:(fV t r c).holds n m x z↔t.holds n m x z:=by
 have d:∀f:Nat->Rat,bO n (λj=>f j*x (t.fv j))=f c*x (t.fv c)+bO n (λj=>if j=c then 0 else f j*x (t.fv j)):=λf=>D6 k;have e:∀f:Nat->Rat,bO n (λj=>f j*x ((fV t r c).fv j))=f c*x (t.bv r)+bO n (λj=>if j=c then 0 else f j*x (t.fv j)):=λf=>by
  rw[D6 k,Ja h k,if_pos rfl];congr 1;refine dK λj _=>?_;split;·rfl
  ·rename_i p;rw[Ja h k,if_neg p]
 have I:bO n (λj=>if j=c then 0 else(fV t r c).cf r j*x (t.fv j))=(1 / t.cf r c)*bO n (λj=>if j=c then 0 else t.cf r j*x (t.fv j)):=by
  rw[<-wb];refine dK λj p=>?_;split;·grind
  ·rename_i l;rw[AK h b k b p,if_pos rfl,if_neg l];grind
 have E:∀f g:Nat->Rat,∀q:Rat,(∀j,j<n->j≠c->g j=f j - q*(t.cf r j*(1 / t.cf r c)))->bO n (λj=>if j=c then 0 else g j*x (t.fv j))=bO n (λj=>if j=c then 0 else f j*x (t.fv j))+(-(q*(1 / t.cf r c)))*bO n (λj=>if j=c then 0 else t.cf r j*x (t.fv j)):=λf g q L=>by
  rw[<-wb,<-yl];refine dK λj p=>?_;grind
 have J:∀j,j<n->j≠c->(fV t r c).cs j=t.cs j - t.cs c*(t.cf r j*(1 / t.cf r c)):=λj p l=>by rw[RR h b p,if_neg l]
 have B:∀i,i<m->i≠r->∀j,j<n->j≠c->(fV t r c).cf i j=t.cf i j - t.cf i c*(t.cf r j*(1 / t.cf r c)):=λi o a j p l=>by rw[AK h b k o p,if_neg a,if_neg l]
 have G:=E t.cs _ _ J;have v:=RR (c:=c) h b k;rw[if_pos rfl] at v;have s:=AK h b k b k;rw[if_pos rfl,if_pos rfl] at s;have w:=D9 (r:=r) (c:=c) h b;rw[if_pos rfl] at w;have u:=I9 (c:=c) (i:=r) h b;rw[if_pos rfl] at u;have H:(fV t r c).value=t.value+t.cs c*(t.bd r*(1 / t.cf r c)):=rfl;unfold Tb.holds;constructor
 ·rintro⟨A,F⟩;have C:=A r b;rw[e,I,s,u,w] at C;refine⟨λi o=>?_,?_⟩
  ·by_cases a:i=r
   ·subst a;rw[d];grind
   ·have D:=A i o;have y:=AK h b k o k;rw[if_neg a,if_pos rfl] at y;rw[e,E _ _ _ (B i o a),I9 h b,if_neg a,D9 h o,if_neg a,y] at D;rw[d];grind
  ·rw[e,G,v,H] at F;rw[d];grind
 ·rintro⟨A,F⟩;have C:=A r b;rw[d] at C;refine⟨λi o=>?_,?_⟩
  ·by_cases a:i=r
   ·subst a;rw[e,I,s,u,w];grind
   ·have D:=A i o;have y:=AK h b k o k;rw[if_neg a,if_pos rfl] at y;rw[e,E _ _ _ (B i o a),I9 h b,if_neg a,D9 h o,if_neg a,y];rw[d] at D;grind
  ·rw[e,G,v,H];rw[d] at F;grind
end
def me (f:Int->Rat):List Int->Rat
 |[]=>0
 |x::l=>f x+me f l
theorem AL {f:Int->Rat}:∀{l k:List Int},me f (l++k)=me f l+me f k
 |[],k=>by grind[me];|x::l,k=>by simp only[γG,me,@AL f l k];grind
theorem Jb {f:Int->Rat} {l k:List Int} (h:l.Perm k):me f l=me f k:=by
 induction h<;>grind[me,swap,trans]
theorem RS:∀{n:Nat} {f:Nat->Rat},bO (n+1) f=f 0+bO n λi=>f (i+1)
 |0,f=>by grind[bO];|n+1,f=>by
  rw[bO,RS];grind[bO]
theorem qL {f:Int->Rat}:∀{l:List Int},me f l=bO l.length λk=>f (bj l k 0)
 |[]=>rfl
 |x::l=>by
  rw[γE,RS,me,qL];rfl
def ju (n:Nat) (t:Tb) (y:Nat->Rat) (v:Int):Rat:=if v∈t.free then y (t.free.idxOf v) else t.bd (t.basic.idxOf v) - bO n λj=>t.cf (t.basic.idxOf v) j*y j
section
variable {n m:Nat} {t t0:Tb} {r c:Nat}
theorem po {l:List Int} {i:Nat} (h:l.Nodup) (a:i<l.length):l.idxOf (bj l i 0)=i:=by
 grind[cQ]
theorem mJ (h:t.WF n m) (c:(t.basic++t.free).Nodup) {y:Nat->Rat} {j:Nat} (a:j<n):ju n t y (t.fv j)=y j:=by
 have b:j<t.free.length:=by rw[h.free];exact a
 unfold ju Tb.fv;rw[if_pos (by grind[cQ]),po (γs.1 c).2.1 b]
theorem Jc (h:t.WF n m) (b:(t.basic++t.free).Nodup) {i:Nat} (a:i<m):t.bv i∉t.free:=λc=>by
 have d:i<t.basic.length:=by rw[h.basic];exact a
 grind[Tb.bv,cQ]
theorem nE (h:t.WF n m) (a:(t.basic++t.free).Nodup) {y:Nat->Rat} {i:Nat} (c:i<m):ju n t y (t.bv i)=t.bd i - bO n λj=>t.cf i j*y j:=by
 have b:i<t.basic.length:=by rw[h.basic];exact c
 have e:t.basic.idxOf (t.bv i)=i:=po (γs.1 a).1 b;unfold ju;grind
theorem asg_holds (h:t.WF n m) (a:(t.basic++t.free).Nodup) {y:Nat->Rat}:t.holds n m (ju n t y) (t.value+bO n λj=>t.cs j*y j):=by
 have e:∀f:Nat->Rat,bO n (λj=>f j*ju n t y (t.fv j))=bO n λj=>f j*y j:=λf=>dK λj c=>by grind[mJ]
 refine⟨λi b=>?_,?_⟩
 ·rw[nE h a b,e];grind
 ·rw[e]
def fW (m:Nat) (a:Tb) (v:Int) (i:Nat):Rat:=if i<m then(if v∈a.free then a.cf i (a.free.idxOf v) else if a.basic.idxOf v=i then 1 else 0) else 0
def ym (m:Nat) (a:Tb) (i:Nat):Rat:=if i<m then a.bd i else 0
def jv (m:Nat) (a t:Tb):Rat:=jY (t.basic.map (fW m a)) (Γ m)
structure Run (n m:Nat) (t0 t:Tb):Prop where
 oz:t0.WF n m
 wf:t.WF n m
 nd:(t0.basic++t0.free).Nodup
 perm:(t.basic++t.free).Perm (t0.basic++t0.free)
 mK:∀x z,t.holds n m x z↔t0.holds n m x z
 dt:jv m t0 t≠0
theorem Run.gn (h:Run n m t0 t):(t.basic++t.free).Nodup:=h.perm.symm.nodup h.nd
theorem Run.refl (h:t0.WF n m) (a:(t0.basic++t0.free).Nodup):Run n m t0 t0:=by
 refine⟨h,h,a,ζP _,λ_ _=>Iff.rfl,?_⟩;have e:t0.basic.map (fW m t0)=(Γ m).map yk:=by
  refine List.ext_getElem (by simp[h.basic]) λi g d=>?_;simp only[List.getElem_map,List.getElem_range];have f:i<m:=by simp_all
  have b:t0.basic[i]'(by simp_all)=t0.bv i:=by grind[Tb.bv,cQ]
  rw[b];funext k;have c:t0.basic.idxOf (t0.bv i)=i:=po (γs.1 a).1 (by grind);unfold fW yk;grind
 grind[jv,RL]
theorem Run.rows (h:Run n m t0 t) {x:Int->Rat} {z:Rat} (l:t.holds n m x z) {i:Nat}:bO m (λk=>fW m t0 (t.bv k) i*x (t.bv k))+bO n (λj=>fW m t0 (t.fv j) i*x (t.fv j))=ym m t0 i:=by
 have b:∀t:Tb,t.WF n m->me (λv=>fW m t0 v i*x v) (t.basic++t.free)=bO m (λk=>fW m t0 (t.bv k) i*x (t.bv k))+bO n (λj=>fW m t0 (t.fv j) i*x (t.fv j)):=λt f=>by
  rw[AL,qL,qL,f.basic,f.free];rfl
 rw[<-b t h.wf,Jb h.perm,b t0 h.oz];have p:=(h.mK x z).1 l;unfold ym;by_cases a:i<m
 ·rw[if_pos a,<-p.1 i a];congr 1
  ·have e:bO m (λk=>fW m t0 (t0.bv k) i*x (t0.bv k))=bO m λk=>if k=i then x (t0.bv i) else 0:=dK λk d=>by
    have c:t0.basic.idxOf (t0.bv k)=k:=po (γs.1 h.nd).1 (by rw[h.oz.basic];exact d);unfold fW;rw[if_pos a,if_neg (Jc h.oz h.nd d),c];grind
   rw[e,wh,if_pos a]
  ·refine dK λj g=>?_;have o:j<t0.free.length:=by rw[h.oz.free];exact g
   unfold fW;rw[if_pos a,if_pos (by grind[Tb.fv,cQ])];have c:t0.free.idxOf (t0.fv j)=j:=po (γs.1 h.nd).2.1 o;rw[c]
 ·rw[if_neg a];have e:∀v,fW m t0 v i=0:=λv=>by simp_all[fW,if_neg]
  simp only[e];grind[iQ]
theorem Run.RU (h:Run n m t0 t):ym m t0=λi=>bO m λk=>t.bd k*fW m t0 (t.bv k) i:=by
 funext i;have a:=h.rows (i:=i) (asg_holds h.wf h.gn (y:=λ_=>0));rw[<-a,dK (n:=n) (g:=λ_=>0) λj c=>by rw[mJ h.wf h.gn c];grind,iQ,dK (n:=m) (g:=λk=>t.bd k*fW m t0 (t.bv k) i) λk b=>by
  rw[nE h.wf h.gn b,dK (g:=λ_=>0) λj _=>by grind,iQ];grind];grind
theorem Run.abQ (h:Run n m t0 t) {c:Nat} (a:c<n):fW m t0 (t.fv c)=λi=>bO m λk=>t.cf k c*fW m t0 (t.bv k) i:=by
 funext i;have f:=congrFun h.RU i;have b:=h.rows (i:=i) (asg_holds h.wf h.gn (y:=λj=>if j=c then 1 else 0));rw[dK (n:=n) (g:=λj=>if j=c then fW m t0 (t.fv c) i else 0) λj e=>by
  rw[mJ h.wf h.gn e];grind,wh,if_pos a,dK (n:=m) (g:=λk=>t.bd k*fW m t0 (t.bv k) i+(-1)*(t.cf k c*fW m t0 (t.bv k) i)) λk d=>by
   rw[nE h.wf h.gn d,dK (g:=λj=>if j=c then t.cf k c else 0) λj _=>by
    grind,wh,if_pos a];grind,yl,wb] at b;grind
theorem getD_map {l:List Int} {f:Int->Nat->Rat} {k:Nat} (h:k<l.length):(l.map f).getD k (λ_=>0)=f (bj l k 0):=by
 grind[cQ]
theorem Run.RV (h:Run n m t0 t) {y:Nat->Rat} {r:Nat} (d:r<m):jY ((t.basic.map (fW m t0)).set r λi=>bO m λk=>y k*fW m t0 (t.bv k) i) (Γ m)=y r*jv m t0 t:=by
 have b:(t.basic.map (fW m t0)).length=m:=by rw[Δ,h.wf.basic]
 have a:=@abP (t.basic.map (fW m t0)) (Γ m) y r (by omega);unfold jv;rw[<-a,b];congr 2;funext i;refine dK λk c=>?_;rw[getD_map (by simp_all)];rfl
theorem Run.RX (h:Run n m t0 t) {r c:Nat} (a:r<m) (b:c<n):jY ((t.basic.map (fW m t0)).set r (fW m t0 (t.fv c))) (Γ m)=t.cf r c*jv m t0 t:=by
 rw[h.abQ b];exact h.RV (y:=λk=>t.cf k c) a
theorem Run.abR (h:Run n m t0 t) {r:Nat} (a:r<m):jY ((t.basic.map (fW m t0)).set r (ym m t0)) (Γ m)=t.bd r*jv m t0 t:=by
 rw[h.RU];exact h.RV (y:=t.bd) a
theorem set_perm {l:List Int} {r:Nat} {x:Int} (a:r<l.length):(l.set r x).Perm (x::(l.take r++l.drop (r+1))):=by
 rw[εI,if_pos a];simp_all
theorem abS {l:List Int} {r:Nat} (a:r<l.length):(l[r]::(l.take r++l.drop (r+1))).Perm l:=by
 have h:=@set_perm l r l[r] a;grind
theorem swap_perm {l k:List Int} {r c:Nat} (a:r<l.length) (b:c<k.length):(l.set r (bj k c 0)++k.set c (bj l r 0)).Perm (l++k):=by
 grind[cQ]
theorem Run.piv (h:Run n m t0 t) {r c:Nat} (a:r<m) (b:c<n) (d:t.cf r c≠0):Run n m t0 (fV t r c) where
 oz:=h.oz;wf:=RP h.wf;nd:=h.nd;perm:=(swap_perm (by rw[h.wf.basic];exact a) (by rw[h.wf.free];exact b)).trans h.perm;mK x z:=(piv_holds h.wf a b d).trans (h.mK x z);dt:=by
  have e:jv m t0 (fV t r c)=t.cf r c*jv m t0 t:=by
   rw[<-h.RX a b];unfold jv;congr 1;show(t.basic.set r (t.fv c)).map (fW m t0)=_;simp_all
  rw[e];have:=h.dt;grind
theorem Ea {M:Nat} (d:1<=M) (c:∀i j,i<m->j<n->ff M (t0.cf i j)) (a:t0.WF n m) {v:Int} {i:Nat}:ff M (fW m t0 v i):=by
 unfold fW;split
 ·split
  ·rename_i b e;exact c _ _ b (by rw[<-a.free];grind)
  ·split;·exact⟨1,by simp,by omega⟩
   ·exact⟨0,by simp,by simp⟩
 ·exact⟨0,by simp,by simp⟩
theorem mem_set {C:List (Nat->Rat)} {r:Nat} {c d:Nat->Rat} (h:d∈C.set r c):d∈C\/d=c:=List.mem_or_eq_of_mem_set h
theorem Run.abT (h:Run n m t0 t) {M:Nat} (a:1<=M) (c:∀i j,i<m->j<n->ff M (t0.cf i j)):ff (nD M m) (jv m t0 t):=by
 have:=@D5 M (t.basic.map (fW m t0)) (Γ m) (by simp[h.wf.basic]) λd b i _=>by
  obtain⟨v,_,rfl⟩:=Ψ.1 b;exact Ea a c h.oz
 rwa [List.length_range] at this
theorem Run.cfZ (h:Run n m t0 t) {M:Nat} (e:1<=M) (b:∀i j,i<m->j<n->ff M (t0.cf i j)) {r c:Nat} (f:r<m) (g:c<n):ff (nD M m) (t.cf r c*jv m t0 t):=by
 rw[<-h.RX f g];have:=@D5 M ((t.basic.map (fW m t0)).set r (fW m t0 (t.fv c))) (Γ m) (by simp[h.wf.basic]) λd a i _=>by
  rcases mem_set a with a|rfl
  ·obtain⟨v,_,rfl⟩:=Ψ.1 a;exact Ea e b h.oz
  ·exact Ea e b h.oz
 simp_all
theorem Run.bdZ (h:Run n m t0 t) {M:Nat} (b:1<=M) (c:∀i j,i<m->j<n->ff M (t0.cf i j)) (f:∀i,i<m->ff M (t0.bd i)) {r:Nat} (e:r<m):ff (nD M m) (t.bd r*jv m t0 t):=by
 rw[<-h.abR e];have:=@D5 M ((t.basic.map (fW m t0)).set r (ym m t0)) (Γ m) (by simp[h.wf.basic]) λd a i g=>by
  rcases mem_set a with a|rfl
  ·obtain⟨v,_,rfl⟩:=Ψ.1 a;exact Ea b c h.oz
  simp_all[ym]
 simp_all
end
structure qM (n m:Nat) (t:Tb) (r c:Nat):Prop where
 hr:r<m
 hc:c<n
 cost:0<t.cs c
 least:∀j,j<n->0<t.cs j->t.fv c<=t.fv j
 pos:0<t.cf r c
 ratio:∀i,i<m->0<t.cf i c->t.bd r / t.cf r c<t.bd i / t.cf i c\/(t.bd r / t.cf r c=t.bd i / t.cf i c/\t.bv r<=t.bv i)
def km (m:Nat) (t:Tb):Prop:=∀i,i<m->0<=t.bd i
section
variable {n m:Nat} {t t0:Tb} {r c:Nat}
theorem AO (a b:Rat):a<=b\/b<a:=(Classical.em (a<=b)).imp id ζX.1
theorem div_mul {a b:Rat} (h:0<b):a / b*b=a:=by
 grind
theorem inv_pos {b:Rat} (h:0<b):0<1 / b:=by
 have c:(1 / b)*b=1:=div_mul h;rcases AO (1 / b) 0 with a|a
 ·exfalso;have d:0<=(-(1 / b))*b:=δt (by grind) (by grind);grind
 ·exact a
theorem RY {a b:Rat} (c:0<=a) (h:0<b):0<=a / b:=by
 grind[δt,inv_pos]
theorem qM.ge (h:qM n m t r c) (a:km m t):0<=t.bd r / t.cf r c:=RY (a r h.hr) h.pos
theorem qM.yn (h:qM n m t r c) (k:t.WF n m) (d:km m t):km m (fV t r c):=by
 intro i a;have f:=h.ge d;have e:t.bd r*(1 / t.cf r c)=t.bd r / t.cf r c:=by grind
 rw[D9 k a,e];split;·exact f
 ·rcases AO (t.cf i c) 0 with b|b
  ·have j:0<=(-(t.cf i c))*(t.bd r / t.cf r c):=δt (by grind) f;have:=d i a;grind
  ·have j:t.bd r / t.cf r c<=t.bd i / t.cf i c:=by
    rcases h.ratio i a b with g|g<;>grind
   have g:0<=t.cf i c*(t.bd i / t.cf i c - t.bd r / t.cf r c):=δt (by grind) (by grind);grind[div_mul]
theorem qM.value:(fV t r c).value=t.value+t.cs c*(t.bd r / t.cf r c):=by
 show t.value+t.cs c*(t.bd r*(1 / t.cf r c))=_;grind
theorem Jd {b:Type}:∀(L:List b) (f:Nat->b),(∀k,f k∈L)->∃i j,i<j/\f i=f j
 |[],f,h=>by simp_all;|a::L,f,h=>by
  by_cases c:∃i,f i=a
  ·obtain⟨i,g⟩:=c;by_cases e:∃j,i<j/\f j=a;·grind
   ·obtain⟨x,y,d,l⟩:=Jd L (λk=>f (k+i+1)) λk=>by
     grind
    grind
  ·exact Jd L f λk=>by
    simp_all
def AP (V:List Int):Nat->List (List Int)
 |0=>[[]]
 |k+1=>(AP V k).flatMap λl=>V.map λv=>v::l
theorem RZ {V:List Int}:∀{l:List Int},(∀v∈l,v∈V)->l∈AP V l.length
 |[],_=>by simp[AP];|x::l,h=>by
  simp only[γE,AP,List.mem_flatMap,Ψ];exact⟨l,RZ λv a=>h v (by simp[a]),x,h x (by simp),rfl⟩
theorem abW {l:List Int} {r:Nat} {x v:Int} (a:r<l.length) (b:l.Nodup):v∈l.set r x↔v=x\/(v∈l/\v≠bj l r 0):=by
 grind[set_perm,cQ,abS]
theorem R1 {f:Nat->Int} {i:Nat}:∀{d:Nat},∃k,(i<=k/\k<=i+d)/\∀x,i<=x->x<=i+d->f x<=f k
 |0=>⟨i,by omega,λx a b=>by grind⟩
 |d+1=>by
  obtain⟨k,a,b⟩:=@R1 f i d;by_cases h:f k<=f (i+(d+1))
  ·refine⟨i+(d+1),by omega,λx c e=>?_⟩;grind
  ·refine⟨k,by omega,λx c e=>?_⟩;grind
theorem R7:∀{n:Nat} {f:Nat->Rat},0<bO n f->∃j,j<n/\0<f j
 |0,f,h=>by grind[bO];|n+1,f,h=>by
  rcases AO (f n) 0 with a|a
  ·obtain⟨j,c,b⟩:=@R7 n f (by grind[bO]);grind
  grind
theorem wi (h:t.WF n m) {j:Nat} (a:j<n):t.fv j∈t.free:=by
 have b:j<t.free.length:=by rw[h.free];exact a
 grind[Tb.fv,cQ]
theorem AQ (h:t.WF n m) {j:Nat} (a:j<m):t.bv j∈t.basic:=by
 have b:j<t.basic.length:=by rw[h.basic];exact a
 grind[Tb.bv,cQ]
theorem wj (h:t.WF n m) {v:Int} (b:v∈t.free):∃j,j<n/\t.fv j=v:=by
 obtain⟨j,a,rfl⟩:=γI b;exact⟨j,by rw[<-h.free];exact a,by grind[Tb.fv,cQ]⟩
theorem yo (h:t.WF n m) {v:Int} (b:v∈t.basic):∃j,j<m/\t.bv j=v:=by
 obtain⟨j,a,rfl⟩:=γI b;exact⟨j,by rw[<-h.basic];exact a,by grind[Tb.bv,cQ]⟩
theorem Je (c:(t.basic++t.free).Nodup) {v:Int} (a:v∈t.basic) (b:v∈t.free):False:=(γs.1 c).2.2 _ a _ b rfl
theorem abX (h:t.WF n m) (c:(t.basic++t.free).Nodup) {i j:Nat} (f:i<m) (d:j<m) (e:t.bv i=t.bv j):i=j:=by
 have a:=po (γs.1 c).1 (show i<t.basic.length by rw[h.basic];exact f);have b:=po (γs.1 c).1 (show j<t.basic.length by rw[h.basic];exact d);grind[Tb.bv]
theorem abY (h:t.WF n m) (c:(t.basic++t.free).Nodup) {i j:Nat} (f:i<n) (d:j<n) (e:t.fv i=t.fv j):i=j:=by
 have a:=po (γs.1 c).2.1 (show i<t.free.length by rw[h.free];exact f);have b:=po (γs.1 c).2.1 (show j<t.free.length by rw[h.free];exact d);grind[Tb.fv]
theorem abZ {T:Nat->Tb} {r c:Nat->Nat} (p:∀k,Run n m t0 (T k)) (hF:∀k,km m (T k)) (B:∀k,qM n m (T k) (r k) (c k)) (hT:∀k,T (k+1)=fV (T k) (r k) (c k)) {i j:Nat} (b8:i<j) (hb:(T i).basic=(T j).basic) (hf:(T i).free=(T j).free):False:=by
 have b7:(T i).value=(T j).value:=by
  have t:=((p j).mK _ _).2 (((p i).mK _ _).1 (asg_holds (p i).wf (p i).gn (y:=λ_=>0)));have e1:bO n (λk=>(T i).cs k*(λ_=>(0:Rat)) k)=0:=by grind[iQ]
  have e2:bO n (λk=>(T j).cs k*ju n (T i) (λ_=>0) ((T j).fv k))=0:=by
   rw[dK (g:=λ_=>0) λk hk=>by
    have:(T j).fv k=(T i).fv k:=by grind[Tb.fv]
    rw[this,mJ (p i).wf (p i).gn hk];grind,iQ]
  have K:=t.2;grind
 have L:∀k,(T k).value<=(T (k+1)).value:=λk=>by
  rw[hT k,qM.value];have:=δt (a:=(T k).cs (c k)) (by have:=(B k).cost;grind) ((B k).ge (hF k));grind
 have S:∀d a,(T a).value<=(T (a+d)).value:=λd=>by
  induction d<;>grind
 have H:∀k,i<=k->k<j->(T k).bd (r k)=0:=λk t K=>by
  have a1:=S (k - i) i;have a2:=S (j - (k+1)) (k+1);rw[show i+(k - i)=k by omega] at a1;rw[show k+1+(j - (k+1))=j by omega] at a2;have a3:=L k;rw[hT k] at a2 a3;rw[qM.value] at a2 a3;have h3:=(B k).ge (hF k);have hc:=(B k).cost;have h4:=@div_mul ((T k).bd (r k)) _ (B k).pos;grind[Rat.mul_eq_zero]
 have b6:∀k,i<=k->k<j->∀v,v∈(T k).basic++(T k).free->ju n (T (k+1)) (λ_=>0) v=ju n (T k) (λ_=>0) v:=λk t K v O=>by
  have hw:=(p k).wf;have G:=(p (k+1)).wf;have hx:=((p (k+1)).mK _ _).2 (((p k).mK _ _).1 (asg_holds hw (p k).gn (y:=λ_=>0)));have hz:∀q,q<n->ju n (T k) (λ_=>0) ((T (k+1)).fv q)=0:=λq s=>by
   rw[hT k,Ja hw (B k).hc];split
   ·rw[nE hw (p k).gn (B k).hr,H k t K,dK (g:=λ_=>0) λj _=>by grind,iQ];grind
   ·rw[mJ hw (p k).gn s]
  have A:v∈(T (k+1)).basic++(T (k+1)).free:=((p (k+1)).perm.trans (p k).perm.symm).mem_iff.2 O;rcases γk.1 A with A|A
  ·obtain⟨q,s,rfl⟩:=yo G A;have:=hx.1 q s;rw[dK (g:=λ_=>0) λj hj=>by simp_all,iQ] at this;rw[nE G (p (k+1)).gn s,dK (g:=λ_=>0) λj _=>by grind,iQ];grind
  ·obtain⟨q,s,rfl⟩:=wj G A;rw[hz q s,mJ G (p (k+1)).gn s]
 have w:∀a b v,v∈(T a).basic++(T a).free->v∈(T b).basic++(T b).free:=λa b v O=>((p b).perm.trans (p a).perm.symm).mem_iff.2 O;have W:∀d a,i<=a->a+d<=j->∀v,v∈(T a).basic++(T a).free->ju n (T (a+d)) (λ_=>0) v=ju n (T a) (λ_=>0) v:=λd=>by
  induction d<;>grind
 have hA:∀a b,i<=a->a<=j->i<=b->b<=j->∀v,v∈(T a).basic++(T a).free->ju n (T a) (λ_=>0) v=ju n (T b) (λ_=>0) v:=λa b t K h3 h4 v O=>by
  have e1:=W (a - i) i (by omega) (by omega) v (w _ _ v O);have e2:=W (b - i) i (by omega) (by omega) v (w _ _ v O);simp_all
 have P:∀k v,v∈(T (k+1)).basic↔v=(T k).fv (c k)\/(v∈(T k).basic/\v≠(T k).bv (r k)):=λk v=>by
  rw[hT k];exact abW (by rw[(p k).wf.basic];exact(B k).hr) (γs.1 (p k).gn).1
 have U:∀v a b,i<=a->a<=j->i<=b->b<=j->v∈(T a).basic->v∉(T b).basic->∃k,i<=k/\k<j/\(T k).fv (c k)=v:=λv a b a1 a2 b1 b2 ha a9=>by
  apply δu;intro Y;have I:∀d x,i<=x->x+d<=j->v∈(T (x+d)).basic->v∈(T x).basic:=λd=>by
   induction d<;>grind
  have t:=I (a - i) i (by omega) (by omega) (by simp_all);rw[hb] at t;exact a9 (I (j - b) b (by omega) (by omega) (by simp_all))
 obtain⟨l,⟨a6,b9⟩,a0⟩:=@R1 (λk=>(T k).fv (c k)) i (j - 1 - i);have J:∀x,i<=x->x<j->(T x).fv (c x)<=(T l).fv (c l):=λx t K=>a0 x t (by omega);have c2:l<j:=by omega
 have a7:(T l).fv (c l)∈(T l).free:=wi (p l).wf (B l).hc;have c0:(T l).fv (c l)∉(T l).basic:=λh=>Je (p l).gn h a7;obtain⟨o,F,Q,hl⟩:∃o,i<=o/\o<j/\(T o).bv (r o)=(T l).fv (c l):=by
  apply δu;intro Y;have up:∀d x,i<=x->x+d<=j->(T l).fv (c l)∈(T x).basic->(T l).fv (c l)∈(T (x+d)).basic:=λd=>by
   induction d with
   |zero=>intro x _ _ h;exact h;|succ d ih=>
    intro x t K h;exact(P (x+d) _).2 (.inr ⟨ih x t (by omega) h,λe=>Y ⟨x+d,by omega,by omega,e.symm⟩⟩)
  have t:=up (j - (l+1)) (l+1) (by omega) (by omega) ((P l _).2 (.inl rfl));rw[show l+1+(j - (l+1))=j by omega,<-hb] at t;have K:=up (l - i) i (by omega) (by omega) t;simp_all
 have w1:=(p l).wf;have C:=(p o).wf;have n1:=(p l).gn;have E:=(p o).gn;have p1:=B l;have N:=B o;have x1:=(((p l).mK _ _).2 (((p o).mK _ _).1 (asg_holds C E (y:=λq=>if q=c o then 1 else 0)))).2;have x0:=(((p l).mK _ _).2 (((p o).mK _ _).1 (asg_holds C E (y:=λ_=>0)))).2;rw[dK (f:=λq=>(T o).cs q*(λq=>if q=c o then(1:Rat) else 0) q) (g:=λq=>if q=c o then(T o).cs (c o) else 0) λq _=>by
  by_cases s:q=c o<;>grind,wh,if_pos N.hc] at x1;rw[dK (f:=λq=>(T o).cs q*(λ_=>(0:Rat)) q) (g:=λ_=>0) λq _=>by grind,iQ] at x0;have hd:0<bO n λq=>(T l).cs q*(ju n (T o) (λq=>if q=c o then 1 else 0) ((T l).fv q) - ju n (T o) (λ_=>0) ((T l).fv q)):=by
  rw[dK (g:=λq=>(T l).cs q*ju n (T o) (λq=>if q=c o then 1 else 0) ((T l).fv q)+(-1)*((T l).cs q*ju n (T o) (λ_=>0) ((T l).fv q))) λq _=>by grind,yl,wb];have:=N.cost;grind
 obtain⟨q,s,u⟩:=R7 hd;have a5:(T l).fv q∈(T l).free:=wi w1 s;have Z:=w l o _ (List.mem_append_right _ a5);rcases γk.1 Z with a4|X
 ·obtain⟨D,z,e⟩:=yo C a4;rw[<-e,nE C E z,nE C E z,dK (f:=λj=>(T o).cf D j*(λq=>if q=c o then(1:Rat) else 0) j) (g:=λj=>if j=c o then(T o).cf D (c o) else 0) (λj _=>by
   by_cases hj:j=c o<;>grind),wh,if_pos N.hc,dK (f:=λj=>(T o).cf D j*(λ_=>(0:Rat)) j) (g:=λ_=>0) (λj _=>by grind),iQ] at u;have M:0<(T l).cs q*(-(T o).cf D (c o)):=by grind
  obtain⟨k3,b3,b5,h3⟩:=U _ o l F (by omega) a6 (by omega) a4 (λh=>Je n1 h a5);have b0:(T l).fv q<=(T l).fv (c l):=by grind
  rcases AO ((T l).cs q) 0 with hs|hs
  ·have a8:0<(T o).cf D (c o):=by
    rcases AO ((T o).cf D (c o)) 0 with h4|h4
    ·exfalso;have:=δt (a:= -(T l).cs q) (b:= -(T o).cf D (c o)) (by grind) (by grind);grind
    ·exact h4
   have b4:(T o).bd D=0:=by
    have V:=hA o l F (by omega) a6 (by omega) ((T l).fv q) Z;rw[mJ w1 n1 s,<-e,nE C E z,dK (g:=λ_=>0) λj _=>by grind,iQ] at V;grind
   have c1:=H o F Q;have hz:∀b:Rat,(0:Rat) / b=0:=λb=>by grind
   rcases N.ratio D z a8 with h6|h6;·simp_all
   ·have h7:(T l).fv (c l)<=(T l).fv q:=by omega
    have h8:=abY w1 n1 s p1.hc (by omega);rw[h8] at hs;have:=p1.cost;grind
  ·have h7:=p1.least q s hs;have h8:D=r o:=abX C E z N.hr (by omega);rw[h8] at M;have:=δt (a:=(T l).cs q) (b:=(T o).cf (r o) (c o)) (by grind) (by have:=N.pos;grind);grind
 ·obtain⟨q2,R,e⟩:=wj C X;rw[<-e,mJ C E R,mJ C E R] at u;by_cases V:q2=c o
  ·rw[if_pos V] at u;have h6:=p1.least q s (by grind);have h7:=J o F Q;rw[V] at e;have h8:(T l).fv (c l)=(T o).fv (c o):=by omega
   exact Je E (AQ C N.hr) (by grind)
  ·rw[if_neg V] at u;grind
end
def eE (t:Tb):Nat->Int
 |0=> -1
 |k+1=>if 0<t.cs k/\(eE t k<0\/t.fv k<t.fv (eE t k).toNat) then(k:Int) else eE t k
def dT (t:Tb) (c:Nat):Nat->Int
 |0=> -1
 |k+1=>if t.cf k c<=0 then dT t c k
  else if 0<=dT t c k/\(t.bd (dT t c k).toNat / t.cf (dT t c k).toNat c<t.bd k / t.cf k c\/(t.bd k / t.cf k c=t.bd (dT t c k).toNat / t.cf (dT t c k).toNat c/\t.bv (dT t c k).toNat<t.bv k)) then dT t c k
  else(k:Int)
section
variable {n m:Nat} {t t0:Tb} {r c:Nat}
theorem uC:∀{k:Nat},(eE t k= -1/\∀j,j<k->¬0<t.cs j)\/(∃b:Nat,eE t k=b/\b<k/\0<t.cs b/\∀j,j<k->0<t.cs j->t.fv b<=t.fv j)
 |0=> .inl ⟨rfl,λj h=>by omega⟩
 |k+1=>by
  unfold eE;rcases @uC k with⟨a,c⟩|⟨b,a,c,d,e⟩;·grind
  ·have f:(eE t k).toNat=b:=by omega
   grind
theorem wm {c:Nat}:∀{k:Nat},(dT t c k= -1/\∀j,j<k->t.cf j c<=0)\/(∃b:Nat,dT t c k=b/\b<k/\0<t.cf b c/\∀j,j<k->0<t.cf j c->t.bd b / t.cf b c<t.bd j / t.cf j c\/(t.bd b / t.cf b c=t.bd j / t.cf j c/\t.bv b<=t.bv j))
 |0=> .inl ⟨rfl,λj h=>by omega⟩
 |k+1=>by
  unfold dT;by_cases e:t.cf k c<=0
  ·rw[if_pos e];rcases @wm c k with⟨f,a⟩|⟨b,f,a,o,n⟩<;>grind
  ·rw[if_neg e];have g:0<t.cf k c:=ζX.1 e;rcases @wm c k with⟨f,a⟩|⟨b,f,a,o,n⟩;·grind
   ·have i:(dT t c k).toNat=b:=by omega
    rw[i];by_cases d:0<=dT t c k/\(t.bd b / t.cf b c<t.bd k / t.cf k c\/(t.bd k / t.cf k c=t.bd b / t.cf b c/\t.bv b<t.bv k));·grind
    ·rw[if_neg d];have l:¬t.bd b / t.cf b c<t.bd k / t.cf k c:=λh=>d ⟨by omega,.inl h⟩;have m:t.bd k / t.cf k c=t.bd b / t.cf b c->¬t.bv b<t.bv k:=λh a=>d ⟨by omega,.inr ⟨h,a⟩⟩;refine .inr ⟨k,rfl,by omega,g,λj p q=>?_⟩;grind
end
def stepT (n m:Nat) (t:Tb):Option Tb:=
 if eE t n<0 then none
 else if dT t (eE t n).toNat m<0 then none
 else some (fV t (dT t (eE t n).toNat m).toNat (eE t n).toNat)
def ft (n m:Nat):Nat->Tb->Bool
 |0,t=>(stepT n m t).isNone
 |k+1,t=>match stepT n m t with
  |none=>true
  |some a=>ft n m k a
def runT (n m:Nat):Nat->Tb->Tb
 |0,t=>t
 |k+1,t=>match stepT n m t with
  |none=>t
  |some a=>runT n m k a
def yp (n m N:Nat) (t:Tb):Nat:=((Γ N).filter λk=>!ft n m k t).length
section
variable {n m:Nat} {t t0 t':Tb}
theorem R9 (h:stepT n m t=some t'):∃r c,qM n m t r c/\t'=fV t r c/\eE t n=(c:Int)/\dT t c m=(r:Int):=by
 unfold stepT at h;split at h;·cases h
 ·rename_i p;split at h;·cases h
  ·rename_i o;injection h with h;rcases @uC t n with⟨b,_⟩|⟨c,b,d,e,k⟩;·omega
   ·have f:(eE t n).toNat=c:=by omega
    rw[f] at h o;rcases @wm t c m with⟨a,_⟩|⟨r,a,i,j,l⟩;·omega
    ·have g:(dT t c m).toNat=r:=by omega
     rw[g] at h;exact⟨r,c,⟨i,d,e,k,j,l⟩,h.symm,b,a⟩
theorem Jf (b:Run n m t0 t) (d:km m t) (h:stepT n m t=some t'):Run n m t0 t'/\km m t':=by
 obtain⟨r,c,a,rfl,_⟩:=R9 h;exact⟨b.piv a.hr a.hc (by have:=a.pos;grind),a.yn b.wf d⟩
theorem Jg:∀{k:Nat} {t:Tb},ft n m k t=true->ft n m (k+1) t=true
 |0,t,h=>by
  grind[ft];|k+1,t,h=>by
  unfold ft at h ⊢;split;·rfl
  ·rename_i b a;rw[a] at h;exact Jg h
theorem left_step {N:Nat} (b:ft n m N t=true) (h:stepT n m t=some t'):yp n m N t'<yp n m N t:=by
 unfold yp;have e:∀k,ft n m k t'=ft n m (k+1) t:=λk=>by grind[ft]
 have c:ft n m 0 t=false:=by simp[ft,h]
 simp only[e];cases N with
 |zero=>simp_all;|succ N=>
  have a:∀f:Nat->Bool,((Γ (N+1)).filter f).length=(if f 0 then 1 else 0)+((Γ N).filter λk=>f (k+1)).length:=λf=>by
   rw[List.range_succ_eq_map,List.filter_cons,List.filter_map,];grind[Function.comp_def]
  rw[a (λk=>!ft n m k t),c];rw[εf,List.filter_append,γg];simp[b]
theorem Si {N:Nat} (a:ft n m N t=true) (h:stepT n m t=some t'):ft n m N t'=true:=by
 cases N<;>grind[ft,Jg]
theorem Jh (D:Run n m t0 t) (o:km m t):∃N,ft n m N t=true:=by
 apply δu;intro u;have e:∀N,ft n m N t=false:=λN=>by
  simp_all
 let T:Nat->Tb:=λk=>Nat.rec t (λ_ s=>(stepT n m s).getD s) k;have d:∀k,T (k+1)=(stepT n m (T k)).getD (T k):=λk=>rfl;have A:∀k N,ft n m N (T k)=false:=by
  intro k;induction k with
  |zero=>exact e;|succ k l=>
   intro N;rw[d];cases z:stepT n m (T k) with
   |none=>simp_all;|some q=>
    have:=l (N+1);grind[ft]
 have w:∀k,stepT n m (T k)=some (T (k+1)):=λk=>by
  rw[d];cases z:stepT n m (T k) with
  |none=>have:=A k 0;grind[ft];|some q=>rfl
 have a:∀k,Run n m t0 (T k)/\km m (T k):=by
  intro k;induction k with
  |zero=>exact⟨D,o⟩;|succ k l=>grind[Jf]
 have b:∀k,∃p:Nat×Nat,qM n m (T k) p.1 p.2/\T (k+1)=fV (T k) p.1 p.2:=λk=>by
  obtain⟨r,c,f,E,_⟩:=R9 (w k);exact⟨(r,c),f,E⟩
 let p:Nat->Nat×Nat:=λk=>Classical.choose (b k);have h:∀k,qM n m (T k) (p k).1 (p k).2/\T (k+1)=fV (T k) (p k).1 (p k).2:=λk=>Classical.choose_spec (b k);obtain⟨i,j,g,B⟩:=Jd (AP (t0.basic++t0.free) (m+n)) (λk=>(T k).basic++(T k).free) λk=>by
  have f:=@RZ (t0.basic++t0.free) ((T k).basic++(T k).free) λv C=>(a k).1.perm.mem_iff.1 C;rwa [γg,(a k).1.wf.basic,(a k).1.wf.free] at f
 obtain⟨y,x⟩:=List.append_inj B (by rw[(a i).1.wf.basic,(a j).1.wf.basic]);exact abZ (λk=>(a k).1) (λk=>(a k).2) (λk=>(h k).1) (λk=>(h k).2) g y x
end
open Go.Proofs.YtbnhiekmnpikhaaGreat.Ir
open Go.Proofs
def fL (l:List Rat):List bL:=l.map bu
def fM (l:List (List Rat)):List (List bL):=l.map fL
def vL (l:List bL):List Rat:=l.map bV
theorem kJ (l:List Rat):vL (fL l)=l:=by
 unfold vL fL;rw[γ3];conv=>rhs;rw[<-List.map_id l]
 exact γZ λq _=>eD q
theorem jM (x:bL):(x.1,x.2.1,x.2.2)=x:=rfl
theorem fF {l:List Rat}:(fL l).length=l.length:=Δ _
theorem Ji {l:List (List Rat)}:(fM l).length=l.length:=Δ _
theorem jw {l:List Rat} {i:Nat} (h:i<l.length) {d:bL}:bj (fL l) i d=bu (bj l i 0):=by
 grind[cQ,fL]
theorem Jj {l:List (List Rat)} {i:Nat} (h:i<l.length) {d:List bL}:bj (fM l) i d=fL (bj l i []):=by
 grind[cQ,fM]
structure nG where
 n:Int
 m:Int
 k0:Nat
 k1:Nat
 k3:Nat
 k4:Nat
 cj:List (List bL)
 bound:List bL
 cost:List bL
 v:bL
 basic:List Int
 free:List Int
def nG.gP (x:nG):bZ:=
 [.cells [.si .i64 x.n,.si .i64 x.m,.ow 1 x.k0 1,.ow 2 x.k1 3,.row sF x.cost,.sb x.v.1,.row (.i .u32) x.v.2.1,.row (.i .u32) x.v.2.2,.ow 3 x.k3 1,.ow 4 x.k4 1] 261 10 false,
  .row (.bE sF) x.cj 106 false,.row sF x.bound 177 false,.row (.i .i64) x.basic 3 false,.row (.i .i64) x.free 3 false]
def Eb:bZ->Option nG
 |[.cells [a,b,.ow 1 k0 1,.ow 2 k1 3,c,v0,v1,v2,.ow 3 k3 1,.ow 4 k4 1] 261 10 false,.row s1 l1 106 false,.row s2 l2 177 false,.row s3 l3 3 false,.row s4 l4 3 false]=>
  match a.int .i64,b.int .i64,jH sF c,jS sF [v0,v1,v2] with
  |some a,some b,some c,some v=>match iG s1 (.bE sF) l1,iG s2 sF l2,iG s3 (.i .i64) l3,iG s4 (.i .i64) l4 with
   |some l1,some l2,some l3,some l4=>some ⟨a,b,k0,k1,k3,k4,l1,l2,c,v,l3,l4⟩
   |_,_,_,_=>none
  |_,_,_,_=>none
 |_=>none
theorem ab0 {o:bZ} {x:nG} (h:Eb o=some x):gO o=gO x.gP:=by
 unfold Eb at h;split at h
 ·split at h
  ·rename_i p l c e;split at h
   ·rename_i n j k m;simp only[γ] at h;subst h;obtain⟨rfl,f⟩:=mE n;obtain⟨rfl,b⟩:=mE j;obtain⟨rfl,d⟩:=mE k;obtain⟨rfl,i⟩:=mE m;cases f;cases b;cases d;cases i;have a:=nV e;simp only[π,γr,dP,dB,Θ,and_true,δK,γG] at a;simp only[nG.gP,gO,π,γr,bq.g,gL,iN p,iN l,o6 c,SV.g];simp only[a];rfl
   ·cases h
  ·cases h
 ·cases h
theorem pq {s:bp} {a b:List s.T} (h:cE s a=cE s b):a=b:=by
 by_cases d:s.sz=0;·exact absurd d (by
   have:∀s:bp,0<s.sz:=λs=>by
    induction s<;>simp only[bp.sz]<;>omega
   grind)
 ·have c:=congrArg γc h;rw[fe,fe] at c;exact ly s (Nat.eq_of_mul_eq_mul_right (by omega) c) h
theorem ab1 {x y:nG} (h:gO x.gP=gO y.gP):x=y:=by
 obtain⟨n,m,B,M,G,J,c,b,g,⟨I,K,F⟩,D,C⟩:=x;obtain⟨H,L,a,p,r,l,N,E,A,⟨k,w,q⟩,j,u⟩:=y;simp only[nG.gP,gO,π,γr,bq.g,gL,SV.g,Θ,bQ.cells.injEq,and_true,true_and,δb,Value.int.injEq,Value.bool.injEq,εz,AV.sl.injEq] at h;obtain⟨⟨rfl,rfl,⟨rfl,_⟩,⟨rfl,_⟩,⟨_,d⟩,rfl,⟨_,v⟩,⟨_,e⟩,⟨rfl,_⟩,⟨rfl,_⟩⟩,f,t,o,z⟩:=h;rw[pq (s:=sF) d,pq (s:=.i .u32) v,pq (s:=.i .u32) e,pq (s:=.bE sF) f,pq (s:=sF) t,pq (s:=.i .i64) o,pq (s:=.i .i64) z]
abbrev bH (n m:Int) (t:Tb):nG:=⟨n,m,t.cj.length,t.bound.length,t.basic.length,t.free.length,fM t.cj,fL t.bound,fL t.cost,bu t.value,t.basic,t.free⟩
def nG.t (x:nG):Tb:=⟨x.cj.map vL,vL x.bound,vL x.cost,bV x.v,x.basic,x.free⟩
theorem sW {n m:Int} {t:Tb}:(bH n m t).t=t:=by
 have e:(fM t.cj).map vL=t.cj:=by
  unfold fM;rw[γ3];conv=>rhs;rw[<-List.map_id t.cj]
  exact γZ λq _=>kJ q
 simp_all[nG.t,kJ,eD]
theorem ab2 (x:nG):(⟨x.n,x.m,x.k0,x.k1,x.k3,x.k4,x.cj,x.bound,x.cost,(x.v.1,x.v.2.1,x.v.2.2),x.basic,x.free⟩:nG)=x:=rfl
theorem Sj {n m:Int} {t:Tb}:(bH n m t).n=n:=rfl
theorem Sl {n m:Int} {t:Tb}:(bH n m t).m=m:=rfl
def wo (k:Nat) (t:Tb):Prop:=(∀l∈t.cj,∀q∈l,Sz k q)/\(∀q∈t.bound,Sz k q)/\(∀q∈t.cost,Sz k q)/\Sz k t.value
def kK (n m:Int) (t:Tb):Prop:=((0<=n/\n<=1000)/\(0<=m/\m<=1000))/\t.WF n.toNat m.toNat/\wo 1000000 t
def uD (f:FuncId) (c:Type) (A:qy c) (i:Int->Int->Tb->c->Prop) (e:Int->Int->Tb->c->SV) (out:Int->Int->Tb->c->Tb):dH where
 f:=f;α:=nG×c;put a:=.ptr 0 0 10::A.put a.2;st a:=a.1.gP;dec v o:=match v with
  | .ptr 0 0 10::r=>match Eb o,A.dec r with
   |some s,some b=>some (s,b)
   |_,_=>none
  |_=>none;ok v o a h:=by
  split at h
  ·split at h
   ·rename_i d g;simp only[γ] at h;subst h;exact⟨by simp only[gL,A.ok _ _ g],ab0 d⟩
   ·cases h
  ·cases h
 inj a b d g:=by
  simp only[gL,Θ,true_and] at d;exact εE (ab1 g) (A.inj _ _ d)
 dom a:=∃n m t,a.1=bH n m t/\kK n m t/\i n m t a.2;res a:=e a.1.n a.1.m a.1.t a.2;out a:=(bH a.1.n a.1.m (out a.1.n a.1.m a.1.t a.2)).gP
theorem dO {q:Rat} {k:Nat} (h:Sz k q) (a:k<=100000000):cC (bu q):=⟨q,k,rfl,h,a⟩
section
variable {n m:Int} {t:Tb}
theorem kK.cf (h:kK n m t) {i j:Nat} (a:i<m.toNat) (c:j<n.toNat):Sz 1000000 (t.cf i j):=by
 have b:=dr (l:=t.cj) (d:=[]) (show i<t.cj.length by rw[h.2.1.cj];exact a);exact h.2.2.1 _ b _ (dr (by rw[h.2.1.row i a];exact c))
theorem kK.bd (h:kK n m t) {i:Nat} (a:i<m.toNat):Sz 1000000 (t.bd i):=h.2.2.2.1 _ (dr (by rw[h.2.1.bound];exact a))
theorem kK.cs (h:kK n m t) {j:Nat} (a:j<n.toNat):Sz 1000000 (t.cs j):=h.2.2.2.2.1 _ (dr (by rw[h.2.1.cost];exact a))
end
theorem uE {q:Rat}:0<jL q↔0<q:=by
 grind[jL]
theorem Jk {q:Rat}:jL q=0↔q=0:=by
 grind[jL]
theorem AS {q:Rat}:jL q<0↔q<0:=by
 grind[jL]
def Jl:dH:=uD 179 Unit .nil (λ_ _ _ _=>True) (λn _ t _=> .si .i64 (eE t n.toNat)) (λ_ _ t _=>t)
def ab3 (n m:Int) (t:Tb):Nat->cF
 |3=> .inv Int (λj=>⟨[(0,.ptr 0 0 10),(3,.si .i64 (eE t j.toNat)),(9,.ow 4 t.free.length 1),(10,.si .i64 t.free.length),(11,.si .i64 j)],(bH n m t).gP⟩)
   (λs=>iS s 11) (λj=>0<=j/\j<=n) (λj=>(n - j).toNat) λ_ _=> .look
 |_=> .look
theorem h411:ec Tryz.prog Jl:=by
 refine lz (L:=[sU]) (W:=[]) Jl (λa=>ab3 a.1.n a.1.m a.1.t) (by simp) (by simpa using h99) ?_;rintro⟨x,u⟩ ⟨n,m,t,hx,hok, -⟩;simp only at hx;subst hx;refine bR (let a:=γi .i64;let b:=(0:Int);let c:=bq.row;let d:=γ1;let e:=Ω;let r:=γT 0 0 10;let s:=(bH n m t).t;let F:=d 4 (bH n m t).k4 1;let y:=s.free.length;let z:=d 4 y 1;let A:=a (↑y:Int);let g:=(bH n m t).n;let B:=bp.i .u32;let f:=bH g (bH n m t).m s;let k:=bq.cells [a f.n,a f.m,d 1 f.k0 1,d 2 f.k1 3,e sF f.cost,γw f.v.fst,e B f.v.snd.fst,e B f.v.snd.snd,d 3 f.k3 1,d 4 f.k4 1] 261 10 false;let l:=c sF.bE f.cj 106 false;let o:=c sF f.bound 177 false;let C:=bp.i .i64;let p:=c C f.basic 3 false;let q:=c C f.free 3 false;let j:=f.free.length;(((r.same r/\(γy .i64 (-1:Int)).same (a (eE s 0))/\F.same z/\(a (↑(bH n m t).k4:Int)).same A/\(γy .i64 0).same (a 0)/\True)/\(bq.cells [a g,a (bH n m t).m,d 1 (bH n m t).k0 1,d 2 (bH n m t).k1 3,e sF (bH n m t).cost,γw (bH n m t).v.fst,e B (bH n m t).v.snd.fst,e B (bH n m t).v.snd.snd,d 3 (bH n m t).k3 1,F] 261 10 false).same k/\(c sF.bE (bH n m t).cj 106 false).same l/\(c sF (bH n m t).bound 177 false).same o/\(c C (bH n m t).basic 3 false).same p/\(c C (bH n m t).free 3 false).same q/\True)/\b<=b/\b<=g)/\∀(x:Int),let h:=x+(1:Int);let w:=eE s x.toNat;let G:=a w;let H:=a (eE s h.toNat);let D:=a h;let E:=bj f.cost x.toNat sF.dflt;let I:=(E.fst,E.snd.fst,E.snd.snd);let J:=decide (x<(↑y:Int));let K:=decide (w<b);let L:=decide (bj f.free x.toNat b<bj f.free w.toNat b);let M:=cu .i64 h/\((r.same r/\G.same H/\z.same z/\A.same A/\D.same D/\True)/\k.same k/\l.same l/\o.same o/\p.same p/\q.same q/\True)/\(b<=h/\h<=g)/\(g - h).toNat<(g - x).toNat;let N:=cu .i64 h/\((r.same r/\(a x).same H/\z.same z/\A.same A/\D.same D/\True)/\k.same k/\l.same l/\o.same o/\p.same p/\q.same q/\True)/\(b<=h/\h<=g)/\(g - h).toNat<(g - x).toNat;let O:=λ(u:Bool) ↦decide (b<jL (bV I))=u;b<=x/\x<=g->(J=true->y=j/\b<=x/\x<(↑j:Int)/\y=j/\x.toNat<j/\b<=x/\x<(↑f.cost.length:Int)/\x.toNat<f.cost.length/\cC I/\(O true->(K=true->N)/\(K=false->f.k4=j/\b<=w/\w<(↑j:Int)/\f.k4=j/\w.toNat<j/\(L=true->N)/\(L=false->M)))/\(O false->M))/\(J=false->G.same (a (eE s g.toNat))/\k.same k/\l.same l/\o.same o/\p.same p/\q.same q/\True)) (by kernel_rfl) ?_;simp only[sW];try simp only[bH]
 simp only[vcs];obtain⟨⟨⟨n0,n1⟩,m0,m1⟩,hw,hz⟩:=id hok;have hfl:=hw.free;have hcl:=hw.cost;have hfc:=@fF t.cost;refine⟨⟨rfl,by omega,by omega⟩,?_⟩;rintro j ⟨j0,j1⟩;have hs:eE t (j+1).toNat=if 0<t.cs j.toNat/\(eE t j.toNat<0\/t.fv j.toNat<t.fv (eE t j.toNat).toNat) then(j.toNat:Int) else eE t j.toNat:=by
  rw[show(j+1).toNat=j.toNat+1 by omega];rfl
 have hb:eE t j.toNat<j.toNat:=by
  rcases @uC t j.toNat with⟨h,_⟩|⟨b,h,hlt,_⟩<;>omega
 refine⟨λhj=>?_,λhj=>by rw[show j.toNat=n.toNat by omega]⟩;have hc:bj (fL t.cost) j.toNat sF.dflt=bu (t.cs j.toNat):=jw (by omega);simp only[hc,jM,eD,decide_eq_true_eq,decide_eq_false_iff_not,uE];have Ec:∀k:Nat,bj t.free k 0=t.fv k:=λk=>rfl;rw[Ec,Ec,hs];refine⟨j0,hj,by omega,j0,by omega,by omega,dO (hok.cs (by omega)) (by omega),λhp=>⟨λhn=>?_,λhn=>⟨by omega,by omega,by omega,λhl=>?_,λhl=>?_⟩⟩,λhp=>?_⟩
 ·rw[if_pos ⟨hp,.inl hn⟩];omega
 ·rw[if_pos ⟨hp,.inr hl⟩];omega
 ·rw[if_neg λh=>h.2.elim hn hl];omega
 ·rw[if_neg λh=>hp h.1];omega
def nH (t:Tb) (c k:Nat):bL:=if dT t c k<0 then(false,([],[])) else bu (t.bd (dT t c k).toNat / t.cf (dT t c k).toNat c)
def Jm:dH:=uD 180 Int (.one (eA .i64)) (λn _ _ c=>0<=c/\c<n) (λ_ m t c=> .si .i64 (dT t c.toNat m.toNat)) (λ_ _ t _=>t)
def ab4 (n m:Int) (t:Tb) (c:Int):Nat->cF
 |4=> .inv Int (λi=>⟨[(0,.ptr 0 0 10),(1,.si .i64 c),(5,.si .i64 (dT t c.toNat i.toNat)),(6,.ptr 5 0 3),(15,.ow 1 t.cj.length 1),(16,.si .i64 t.cj.length),(17,.si .i64 i)],(bH n m t).gP++[.cells [.sb (nH t c.toNat i.toNat).1,.row (.i .u32) (nH t c.toNat i.toNat).2.1,.row (.i .u32) (nH t c.toNat i.toNat).2.2] 177 3 false,.dead,.dead]⟩)
   (λs=>iS s 17) (λi=>0<=i/\i<=m) (λi=>(m - i).toNat) λ_ _=> .look
 |_=> .look
theorem h412:ec Tryz.prog Jm:=by
 refine lz (L:=[sU,yi,D3]) (W:=[]) Jm (λa=>ab4 a.1.n a.1.m a.1.t a.2) (by simp) (by simpa using⟨h99,h97,h416⟩) ?_;rintro⟨x,c⟩ ⟨n,m,t,hx,hok,hd⟩;simp only at hx hd;subst hx;refine bR (let a:=γi .i64;let b:=(0:Int);let d:=Ω;let e:=bq.cells;let f:=bq.row;let g:=γ1;let h:=γw;let A:=γT 0 0 10;let p:=(bH n m t).t;let B:=γT 5 0 3;let U:=g 1 (bH n m t).k0 1;let H:=p.cj.length;let I:=g 1 H 1;let J:=a (↑H:Int);let l:=(bH n m t).m;let k:=bp.i .u32;let j:=bH (bH n m t).n l p;let r:=e [a j.n,a j.m,g 1 j.k0 1,g 2 j.k1 3,d sF j.cost,h j.v.fst,d k j.v.snd.fst,d k j.v.snd.snd,g 3 j.k3 1,g 4 j.k4 1] 261 10 false;let C:=j.cj;let s:=f sF.bE C 106 false;let D:=j.bound;let w:=f sF D 177 false;let L:=bp.i .i64;let y:=f L j.basic 3 false;let z:=f L j.free 3 false;let O:=nH p c.toNat 0;let a9:=sF.bE.dflt;let q:=j.basic.length;0=0/\0=0/\(((A.same A/\(a c).same (a c)/\(γy .i64 (-1:Int)).same (a (dT p c.toNat 0))/\B.same B/\U.same I/\(a (↑(bH n m t).k0:Int)).same J/\(γy .i64 0).same (a 0)/\True)/\(e [a (bH n m t).n,a l,U,g 2 (bH n m t).k1 3,d sF (bH n m t).cost,h (bH n m t).v.fst,d k (bH n m t).v.snd.fst,d k (bH n m t).v.snd.snd,g 3 (bH n m t).k3 1,g 4 (bH n m t).k4 1] 261 10 false).same r/\(f sF.bE (bH n m t).cj 106 false).same s/\(f sF (bH n m t).bound 177 false).same w/\(f L (bH n m t).basic 3 false).same y/\(f L (bH n m t).free 3 false).same z/\(e [SV.bl false,d k [],d k []] 177 3 false).same (e [h O.fst,d k O.snd.fst,d k O.snd.snd] 177 3 false)/\bq.dead.same bq.dead/\bq.dead.same bq.dead/\True)/\b<=b/\b<=l)/\∀(x:Int),let o:=x+(1:Int);let V:=a (dT p c.toNat o.toNat);let M:=a o;let P:=bj D x.toNat sF.dflt;let W:=(P.fst,P.snd.fst,P.snd.snd);let K:=bj C x.toNat a9;let Q:=bj K c.toNat sF.dflt;let N:=(Q.fst,Q.snd.fst,Q.snd.snd);let E:=bu (bV W / bV N);let R:=nH p c.toNat o.toNat;let X:=e [h R.fst,d k R.snd.fst,d k R.snd.snd] 177 3 false;let F:=dT p c.toNat x.toNat;let Y:=a F;let G:=nH p c.toNat x.toNat;let Z:=(E.fst,E.snd.fst,E.snd.snd);let a0:=(G.fst,G.snd.fst,G.snd.snd);let a1:=iP (bV Z) (bV a0);let a2:=decide (x<(↑H:Int));let a3:=decide (b<=F);let a4:=decide (bj j.basic F.toNat b<bj j.basic x.toNat b);let S:=cu .i64 o/\((A.same A/\(a c).same (a c)/\(a x).same V/\B.same B/\I.same I/\J.same J/\M.same M/\True)/\r.same r/\s.same s/\w.same w/\y.same y/\z.same z/\(e [h E.fst,d k E.snd.fst,d k E.snd.snd] 177 3 false).same X/\bq.dead.same bq.dead/\bq.dead.same bq.dead/\True)/\(b<=o/\o<=l)/\(l - o).toNat<(l - x).toNat;let T:=cu .i64 o/\((A.same A/\(a c).same (a c)/\Y.same V/\B.same B/\I.same I/\J.same J/\M.same M/\True)/\r.same r/\s.same s/\w.same w/\y.same y/\z.same z/\(e [h G.fst,d k G.snd.fst,d k G.snd.snd] 177 3 false).same X/\bq.dead.same bq.dead/\bq.dead.same bq.dead/\True)/\(b<=o/\o<=l)/\(l - o).toNat<(l - x).toNat;let a5:=cC N;let a6:=λ(u:Bool) ↦decide (b<a1)=u;let a7:=λ(u:Bool) ↦decide (a1=b)=u;let a8:=λ(u:Bool) ↦decide (jL (bV N)<=b)=u;b<=x/\x<=l->(a2=true->H=C.length/\b<=x/\x<(↑C.length:Int)/\H=C.length/\x.toNat<C.length/\b<=c/\c<(↑K.length:Int)/\c.toNat<K.length/\a5/\(a8 true->T)/\(a8 false->j.k1=D.length/\b<=x/\x<(↑D.length:Int)/\j.k1=D.length/\x.toNat<D.length/\b<=c/\c<(↑K.length:Int)/\c.toNat<K.length/\((cC W/\a5)/\bV N≠(0:Rat))/\(a3=true->(cC Z/\cC a0)/\(a6 true->T)/\(a6 false->(a7 true->j.k3=q/\b<=x/\x<(↑q:Int)/\j.k3=q/\x.toNat<q/\j.k3=q/\b<=F/\F<(↑q:Int)/\j.k3=q/\F.toNat<q/\(a4=true->T)/\(a4=false->S))/\(a7 false->S)))/\(a3=false->S)))/\(a2=false->Y.same (a (dT p c.toNat l.toNat))/\r.same r/\s.same s/\w.same w/\y.same y/\z.same z/\True)) (by kernel_rfl) ?_;simp only[sW];try simp only[bH]
 simp only[vcs];obtain⟨⟨⟨n0,n1⟩,m0,m1⟩,hw,hz⟩:=id hok;have hkl:=hw.cj;have hbl:=hw.bound;have hbb:=hw.basic;have hfm:=@Ji t.cj;have Jn:=@fF t.bound;have hcell:∀{x y:bL},x=y->(bq.cells [γw x.1,Ω (bp.i IntKind.u32) x.2.1,Ω (bp.i IntKind.u32) x.2.2] 177 3 false).same (bq.cells [γw y.1,Ω (bp.i IntKind.u32) y.2.1,Ω (bp.i IntKind.u32) y.2.2] 177 3 false):=by rintro _ _ rfl;rfl
 have hl0:nH t c.toNat 0=(false,([],[])):=rfl;refine⟨⟨⟨rfl,by rw[hl0];rfl⟩,by omega,by omega⟩,?_⟩;rintro i ⟨i0,i1⟩;refine⟨λhi=>?_,λhi=>by rw[show i.toNat=m.toNat by omega]⟩;have him:i.toNat<m.toNat:=by omega
 have hrow:bj (fM t.cj) i.toNat sF.bE.dflt=fL (bj t.cj i.toNat []):=Jj (by omega);have hrl:=hw.row i.toNat him;have hfr:=@fF (bj t.cj i.toNat []);have hA:bj (fL (bj t.cj i.toNat [])) c.toNat sF.dflt=bu (t.cf i.toNat c.toNat):=jw (by omega);have hB:bj (fL t.bound) i.toNat sF.dflt=bu (t.bd i.toNat):=jw (by omega);have hbv:∀k:Nat,bj t.basic k 0=t.bv k:=λk=>rfl;have hsA:=hok.cf (i:=i.toNat) (j:=c.toNat) him (by omega);have hsB:=hok.bd (i:=i.toNat) him;have hs:dT t c.toNat (i+1).toNat=if t.cf i.toNat c.toNat<=0 then dT t c.toNat i.toNat
  else if 0<=dT t c.toNat i.toNat/\(t.bd (dT t c.toNat i.toNat).toNat / t.cf (dT t c.toNat i.toNat).toNat c.toNat<t.bd i.toNat / t.cf i.toNat c.toNat\/(t.bd i.toNat / t.cf i.toNat c.toNat=t.bd (dT t c.toNat i.toNat).toNat / t.cf (dT t c.toNat i.toNat).toNat c.toNat/\t.bv (dT t c.toNat i.toNat).toNat<t.bv i.toNat)) then dT t c.toNat i.toNat
  else(i.toNat:Int):=by
  rw[show(i+1).toNat=i.toNat+1 by omega];rfl
 have hlb:dT t c.toNat i.toNat<i.toNat:=by
  rcases @wm t c.toNat i.toNat with⟨h,_⟩|⟨b,h,hlt,_⟩<;>omega
 have hlp:0<=dT t c.toNat i.toNat->0<t.cf (dT t c.toNat i.toNat).toNat c.toNat:=λh=>by
  rcases @wm t c.toNat i.toNat with⟨h2,_⟩|⟨b,h2,hlt,hp,_⟩;·omega
  ·rw[h2,γl];exact hp
 have ab5:∀q:Rat,jL q<=0↔q<=0:=λq=>by
  have:=@uE q;constructor;·intro h;exact Rat.not_lt.1 λh2=>by have:=this.2 h2;omega
  ·intro h;exact Int.not_lt.1 λh2=>Rat.not_lt.2 h (this.1 h2)
 simp only[hrow,hA,hB,jM,eD,hbv,ab5,abL,abM];have ab6:0<=dT t c.toNat i.toNat->nH t c.toNat i.toNat=bu (t.bd (dT t c.toNat i.toNat).toNat / t.cf (dT t c.toNat i.toNat).toNat c.toNat):=λh=>by
  unfold nH;rw[if_neg (by omega)]
 have tail:(0<=i+1/\i+1<=m)/\(m - (i+1)).toNat<(m - i).toNat:=by omega
 have keep:dT t c.toNat (i+1).toNat=dT t c.toNat i.toNat->nH t c.toNat i.toNat=nH t c.toNat (i+1).toNat:=λh=>by
  unfold nH;rw[h]
 have new:dT t c.toNat (i+1).toNat=(i.toNat:Int)->bu (t.bd i.toNat / t.cf i.toNat c.toNat)=nH t c.toNat (i+1).toNat:=λh=>by
  unfold nH;rw[h,if_neg (by omega),γl]
 have hnz:0<t.cf i.toNat c.toNat->t.cf i.toNat c.toNat≠0:=λh=>by grind
 refine⟨by omega,i0,by omega,by omega,by omega,hd.1,by omega,by omega,dO hsA (by omega),λhle=>?_,λhgt=>?_⟩
 ·have e:dT t c.toNat (i+1).toNat=dT t c.toNat i.toNat:=by rw[hs,if_pos hle]
  exact⟨by omega,⟨e.symm,hcell (keep e)⟩,tail⟩
 ·have hp:0<t.cf i.toNat c.toNat:=ζX.1 hgt;rw[if_neg hgt] at hs;have ab7:=I4 hsB hsA (hnz hp);refine⟨by omega,i0,by omega,by omega,by omega,hd.1,by omega,by omega,⟨⟨dO hsB (by omega),dO hsA (by omega)⟩,hnz hp⟩,λh0=>?_,λh0=>?_⟩
  ·have hl:=ab6 h0;have hsl:=I4 (hok.bd (i:=(dT t c.toNat i.toNat).toNat) (by omega)) (hok.cf (i:=(dT t c.toNat i.toNat).toNat) (j:=c.toNat) (by omega) (by omega)) (by have:=hlp h0;grind);have hvl:bV (nH t c.toNat i.toNat)=t.bd (dT t c.toNat i.toNat).toNat / t.cf (dT t c.toNat i.toNat).toNat c.toNat:=by rw[hl,eD]
   simp only[hvl];refine⟨⟨dO ab7 (by omega),by rw[hl];exact dO hsl (by omega)⟩,λhlt=>?_,λhlt=>⟨λheq=>⟨i0,by omega,by omega,h0,by omega,by omega,λhbl=>?_,λhbl=>?_⟩,λheq=>?_⟩⟩
   ·rw[if_pos ⟨h0,.inl hlt⟩] at hs;exact⟨by omega,⟨hs.symm,hcell (keep hs)⟩,tail⟩
   ·rw[if_pos ⟨h0,.inr ⟨heq,hbl⟩⟩] at hs;exact⟨by omega,⟨hs.symm,hcell (keep hs)⟩,tail⟩
   ·rw[if_neg λh=>h.2.elim hlt λh2=>hbl h2.2] at hs;exact⟨by omega,⟨by omega,hcell (new hs)⟩,tail⟩
   ·rw[if_neg λh=>h.2.elim hlt λh2=>heq h2.1] at hs;exact⟨by omega,⟨by omega,hcell (new hs)⟩,tail⟩
  ·rw[if_neg λh=>h0 h.1] at hs;exact⟨by omega,⟨by omega,hcell (new hs)⟩,tail⟩
def Ed (p:i6) (lo:Nat) (Λ:Nat->cF):IR->cy->(cy->Prop)->Prop
 | .skip,b,K=>K b
 | .seq x y,b,K=>wpS p lo x Λ b λc a=>match c with
  | .norm=>Ed p lo Λ y a K
  |_=>False
 |_,_,_=>False
def Ee (p:i6) (Λ:Nat->cF) (F:fA) (args:List SV) (o:bZ) (Q:SV->bZ->Prop):Prop:=
 match F.body with
 | .tC g c d a b=>Ed p o.length Λ a ⟨nj 0 args,o⟩ λe=>wpS p e.o.length b Λ ⟨(d,.ud)::e.env,e.o⟩ λi j=>if rb i=true then
   (match p.it g with
    |some G=>if(c.map (jI e.env)).length=G.params/\G.res.isEmpty=true then wpS p j.o.length G.body (λn=>Λ (1000+n)) ⟨nj 0 (c.map (jI e.env)),j.o⟩ λf h=>if rb f=true then
      oa ⟨j.env,h.o⟩ F.res λr=>if r.bY o.length&&h.o.all (λx=>x.bY o.length)&&decide (o.length<=h.o.length) then Q r (h.o.take o.length) else False
     else False else False
    |none=>False) else False
 |_=>False
section
variable {P:Program} {T:Tab} {p:i6} {Λ:Nat->cF}
theorem ab8 (i:pL T.K p.C) (j:∀f F,p.it f=some F->T.fn f=some F) {lo:Nat}:∀{a:IR} {st:cy} {K:cy->Prop},Ed p lo Λ a st K->∃s0:cy,(∃N,∀n,N<=n->ra (exec T .plain n lo) a st.g=some s0.g)/\K s0:=by
 intro a;induction a with
 |skip=>intro st K h;exact⟨st,⟨0,λ_ _=>rfl⟩,h⟩;|seq x y _ d=>
  intro st K h;simp only[Ed] at h;obtain⟨c,s,⟨N,e⟩,r,rfl,b⟩:=vJ i j h;cases c with
  |norm=>
   obtain⟨s0,⟨M,m⟩,k⟩:=d b;refine⟨s0,⟨N+M,λn o=>?_⟩,k⟩;simp only[ra,e n n (by omega) (by omega)];grind;|exit q=>exact b.elim;|ret=>exact b.elim;|goto l=>exact b.elim
 |_=>intro st K h;exact h.elim
theorem ab9 (J:kD P T) (u:pL T.K p.C) (n:∀f F,p.it f=some F->T.fn f=some F) {f:FuncId} {F:fA} (S:T.fn f=some F) {args:List SV} {o:bZ} {r:AV} {o':Store} (V:T.K f (gL args) (gO o) true=none) (B:args.length=F.params)
  {Q:SV->bZ->Prop} (A:∀v s,Q v s->v.g=r/\gO s=o') (h:Ee p Λ F args o Q):gW P f=true/\kC P f (gL args) (gO o) r o':=by
 unfold Ee at h;split at h
 ·rename_i g a d ia ib Z;obtain⟨b,h1,h⟩:=ab8 u n h;obtain⟨O,U,h2,c,rfl,h⟩:=vJ u n h;split at h
  ·rename_i k;split at h
   ·rename_i G hG;split at h
    ·rename_i Y;obtain⟨D,I,h3,i,rfl,h⟩:=vJ u n h;split at h
     ·rename_i j;obtain⟨t,k1,m⟩:=xH h;split at m
      ·rename_i y;simp only[θ,decide_eq_true_eq,φ] at y;obtain⟨⟨a2,L⟩,N⟩:=y;have R:(cy.mk (nj 0 args) o).g=⟨iw 0 (gL args),gO o⟩:=by simp[cy.g,vK]
       have w:(gO o).length=o.length:=od o;have a1:b.g.o.length=b.o.length:=od b.o;have a0:c.g.o.length=c.o.length:=od c.o;have H:a.map (eJ b.g.env)=gL (a.map (jI b.env)):=by
        rw[gj,γ3];refine γZ λx _=>?_;show eJ (gE b.env) x=_;grind[zM]
       have z:(cy.mk ((d,.ud)::b.env) b.o).g=⟨(d,.ud)::b.g.env,b.g.o⟩:=by simp[cy.g,gE,SV.g]
       have E:(cy.mk (nj 0 (a.map (jI b.env))) c.o).g=⟨iw 0 (gL (a.map (jI b.env))),c.g.o⟩:=by simp[cy.g,vK]
       have W:(cy.mk c.env i.o).g=⟨c.g.env,i.g.o⟩:=rfl;have q:∀x∈gO i.o,x.bY o.length=true:=by
        grind[gO,C0]
       have l:finish true (gO o).length t.g i.g.o=some (r,o'):=by
        simp only[finish,if_true,w];have e:lL o.length t.g i.g.o=some (t.g,(i.g.o).take o.length):=Po (by grind[zO]) q (by show o.length<=(gO i.o).length;grind[od]);rw[e,<-(A _ _ m).1,<-(A _ _ m).2];simp_all[cy.g,gO]
       obtain⟨X,M,_⟩:=YY J S Z (own:=true) V (by grind[jU]) (s0:=b.g) (s2:=c.g) (s3:=i.g) (by simp_all) (by simp_all) k (n g G hG) (by grind) Y.2 (by simp_all) j (by simp_all) l;exact⟨X,M⟩
      ·exact m.elim
     ·exact h.elim
    ·exact h.elim
   simp_all
  ·exact h.elim
 simp_all
end
theorem acd {P:Program} {d:FuncId->Option fA} {L:List bM} {W:List dH} (c:dH) {F:fA} {k:TypeId->Option bp} {e:List Nat×Bool->Option (bp×bp)} {Λ:c.α->Nat->cF}
  (n:kD P ⟨d,λ_ _ _ _=>none⟩) (i:∀c∈W,ec P c) (o:∀c∈L,Holds P c)
  (l:d c.f=some F) (b:∀a,(c.put a).length=F.params)
  (a:c.α) (m:oh c.f W=none)
  (h:Ee (og L (gK W) k e d) (Λ a) F (c.put a) (c.st a) λv s=>v.same (c.res a)/\kE s (c.out a)):
  gW P c.f=true/\kC P c.f (gL (c.put a)) (gO (c.st a)) (c.res a).g (gO (c.out a)):=by
 refine ab9 (p:=og L (gK W) k e d) (Λ:=Λ a) (Q:=λv s=>v.same (c.res a)/\kE s (c.out a)) (vN (kY i) o n) (vO (kY i)) (λ_ _ h=>h) l ?_ (b a) (λv s j=>⟨j.1,xG j.2⟩) h;simp_all[qA,sH,gK,uj]
theorem ace {k:Nat} {r a:AV} {o mid o2:Store} (c:r.bU o (λi=>decide (k<=i))=some a) (g:jE o (λi=>decide (k<=i)) o=some mid) (e:fQ (λi=>decide (k<=i)) 0 mid=o2) (f:a.bY k=true) (d:∀x∈o2,x.bY k=true) (l:k<=o2.length):lL k r o=some (a,o2.take k):=by
 unfold lL;rw[c,g];simp only[e];have m:∀x∈o2.take k,x.bY k=true:=λx h=>d x (γm h);rw[Ph (by grind[ey,Hl])];have j:iM.pB (Γ k)=true:=by rw[δD];exact nodup_range'
 rw[if_pos j,C7 f];have b:=Hk (k:=k) (o:=o2) m l (n:=k) (s:=0) (by omega);rw[<-δD,List.drop_zero] at b;rw[b]
def Ef (k:Nat) (r:SV) (o:bZ) (K:SV->bZ->Prop):Prop:=
 kZ o k r λb=>o7 o k 0 o λa=>if b.bY k&&a.all (λx=>x.bY k)&&decide (k<=a.length) then K b (a.take k) else False
theorem acf {k:Nat} {r:SV} {o:bZ} {K:SV->bZ->Prop} (h:Ef k r o K):∃r' o',lL k r.g (gO o)=some (r'.g,gO o')/\K r' o':=by
 unfold Ef at h;obtain⟨l,p,f⟩:=HE h;obtain⟨c,i,n,m,a⟩:=xN f;split at a
 ·rename_i b;simp only[θ,decide_eq_true_eq,φ] at b;obtain⟨⟨d,j⟩,e⟩:=b;refine⟨l,c.take k,?_,a⟩;simp_all[ace,zO,gO,C0]
 simp_all
def Eg (p:i6) (Λ:Nat->cF) (F:fA) (args:List SV) (o:bZ) (Q:SV->bZ->Prop):Prop:=
 wpS p o.length F.body Λ ⟨nj 0 args,o⟩ λa b=>match a with
  | .exit _=>False
  | .goto _=>False
  |_=>oa b F.res λr=>Ef o.length r b.o Q
theorem acg {P:Program} {T:Tab} {p:i6} {Λ:Nat->cF} (A:kD P T) (t:pL T.K p.C) (y:∀f F,p.it f=some F->T.fn f=some F) {f:FuncId} {F:fA} (n:T.fn f=some F) {args:List SV} {o:bZ} {r:AV} {o':Store} (z:T.K f (gL args) (gO o) true=none) (j:args.length=F.params)
  {Q:SV->bZ->Prop} (D:∀v s,Q v s->v.g=r/\gO s=o') (h:Eg p Λ F args o Q):gW P f=true/\kC P f (gL args) (gO o) r o':=by
 unfold Eg at h;have e:=vJ t y h;have d:(cy.mk (nj 0 args) o).g=⟨iw 0 (gL args),gO o⟩:=by simp[cy.g,vK]
 rw[d] at e;have i:(gO o).length=o.length:=od o;rw[<-i] at e;have x:∀(a:cy),(oa a F.res λv=>Ef (gO o).length v a.o Q)->(nS a.g F.res).bind (λc=>finish true (gO o).length c a.g.o)=some (r,o'):=by
  intro a m;obtain⟨c,k,l⟩:=xH m;obtain⟨u,q,w,E⟩:=acf l;rw[k];simp only[Option.bind_some,finish,if_true];have:lL (gO o).length c.g a.g.o=some (u.g,gO q):=w;grind
 obtain⟨k,l,_⟩:=CL A n (o:=gO o) (own:=true) z (by grind[jU]) (v:=r) (o':=o') (e.mono λb s B=>by
  obtain⟨a,rfl,m⟩:=B;cases b<;>simp_all);simp_all
theorem ach {P:Program} {d:FuncId->Option fA} {L:List bM} {W:List dH} (c:dH) {F:fA} {k:TypeId->Option bp} {e:List Nat×Bool->Option (bp×bp)} {Λ:c.α->Nat->cF}
  (n:kD P ⟨d,λ_ _ _ _=>none⟩) (i:∀c∈W,ec P c) (o:∀c∈L,Holds P c)
  (l:d c.f=some F) (b:∀a,(c.put a).length=F.params)
  (a:c.α) (m:oh c.f W=none)
  (h:Eg (og L (gK W) k e d) (Λ a) F (c.put a) (c.st a) λv s=>v.same (c.res a)/\kE s (c.out a)):
  gW P c.f=true/\kC P c.f (gL (c.put a)) (gO (c.st a)) (c.res a).g (gO (c.out a)):=by
 refine acg (p:=og L (gK W) k e d) (Λ:=Λ a) (Q:=λv s=>v.same (c.res a)/\kE s (c.out a)) (vN (kY i) o n) (vO (kY i)) (λ_ _ h=>h) l ?_ (b a) (λv s j=>⟨j.1,xG j.2⟩) h;simp_all[qA,sH,gK,uj]
def Jo:bM:=⟨150,Int,.one (eA .i64),λ_=>True,λ_=> .sb false⟩
theorem h334:Holds Tryz.prog Jo:=by
 refine cH (L:=[]) Jo lk (by simp) ?_;rintro(x:Int) -;refine bR ((γw (decide (x≠x))).same (γw false)) (by kernel_rfl) ?_;simp_all
def yq (x y:Int):Int:=if x<y then -1 else if y<x then 1 else 0
def Jp:bM:=⟨113,Int×Int,.cons (eA .i64) (.one (eA .i64)),λ_=>True,λa=> .si .i64 (yq a.1 a.2)⟩
theorem h321:Holds Tryz.prog Jp:=by
 refine cH (L:=[Jo]) Jp lk (by grind[h334]) ?_;rintro⟨x,y⟩ -;refine bR (let b:=γy .i64;let c:=γy .i64 0;let a:=γi .i64 (yq x y);True/\True/\(false=true->(false=true->(b 0).same a)/\(false=false->(b (-1:Int)).same a))/\(false=false->(false=true->(b 1).same a)/\(false=false->(decide (x<y)=true->(b (-1:Int)).same a)/\(decide (x<y)=false->(decide (y<x)=true->(b 1).same a)/\(decide (y<x)=false->(b 0).same a))))) (by kernel_rfl) ?_;simp_all[yq,if_neg]
def wq (b:bC):Int:=b.a0+b.a1+b.a2+b.a3+b.a4+b.a5
def Jq:bM:=⟨114,bC,.one (eh .fi),λb=>b.ok=true,λb=> .si .i64 (wq b)⟩
theorem h322:Holds Tryz.prog Jq:=by
 refine cH (L:=[]) Jq (λ_ _=> .qu 7) (by simp) ?_;rintro(b:bC) (h:b.ok=true);have h:=bC.ja.1 h;refine bR (let d:=cu .i64;let a:=(0:Int)+b.a0+b.a1;let c:=a+b.a2+b.a3+b.a4;d ((0:Int)+b.a0)/\d a/\d (a+b.a2)/\d (a+b.a2+b.a3)/\d c/\d (c+b.a5)/\(γi .i64 (c+b.a5)).same (γi .i64 (wq b))) (by kernel_rfl) ?_;simp only[vcs];unfold wq;omega
def oI (p:bn) (i:Int):Off:=bj p.offers i.toNat bp.off.dflt
def rH (p:bn) (i:Int):Int:=(oI p i).value
def pS (p:bn) (i:Int):Int:=wq (oI p i).want
def fH (p:bn) (i:Int):Int:=rH p i*(5354228880 / pS p i)
def mL (p:bn) (i:Int):Prop:=0<=i/\i<p.offers.length
theorem AW {p:bn} (b:bz p=0) {i:Int} (h:mL p i):(1<=rH p i/\rH p i<=1000000)/\(1<=pS p i/\pS p i<=24)/\(oI p i).want.ok=true:=by
 obtain⟨j,k⟩:=h;have c:=dr (d:=bp.off.dflt) (show i.toNat<p.offers.length by omega);have a:=(dR b).2.2.2.2 _ c;have g:=(HU ((vS b).2 _ c)).2.1;have e:=bC.ja.1 a.2.2.1;have f:¬((oI p i).want.a0=0/\(oI p i).want.a1=0/\(oI p i).want.a2=0/\(oI p i).want.a3=0/\(oI p i).want.a4=0/\(oI p i).want.a5=0):=λh=>g (Dj.2 h);have e:(0<=(oI p i).want.a0/\(oI p i).want.a0<=4)/\(0<=(oI p i).want.a1/\(oI p i).want.a1<=4)/\(0<=(oI p i).want.a2/\(oI p i).want.a2<=4)/\(0<=(oI p i).want.a3/\(oI p i).want.a3<=4)/\(0<=(oI p i).want.a4/\(oI p i).want.a4<=4)/\(0<=(oI p i).want.a5/\(oI p i).want.a5<=4):=e;refine⟨⟨a.2.2.2.1,a.2.2.2.2⟩,?_,a.2.2.1⟩;unfold pS wq;omega
theorem Sm {t:Int} (a:1<=t) (b:t<=24):t*(5354228880 / t)=5354228880/\1<=5354228880 / t:=by
 have:t=1\/t=2\/t=3\/t=4\/t=5\/t=6\/t=7\/t=8\/t=9\/t=10\/t=11\/t=12\/t=13\/t=14\/t=15\/t=16\/t=17\/t=18\/t=19\/t=20\/t=21\/t=22\/t=23\/t=24:=by omega
 rcases this with rfl|rfl|rfl|rfl|rfl|rfl|rfl|rfl|rfl|rfl|rfl|rfl|rfl|rfl|rfl|rfl|rfl|rfl|rfl|rfl|rfl|rfl|rfl|rfl<;>decide
theorem aci {p:bn} (g:bz p=0) {x y:Int} (j:mL p x) (i:mL p y):fH p x<fH p y↔rH p x*pS p y<rH p y*pS p x:=by
 obtain⟨m,e,_⟩:=AW g j;obtain⟨u,f,_⟩:=AW g i;obtain⟨v,q⟩:=Sm e.1 e.2;obtain⟨o,r⟩:=Sm f.1 f.2;unfold fH;generalize 5354228880 / pS p x=d at*;generalize 5354228880 / pS p y=c at*;generalize rH p x=a at*;generalize rH p y=b at*;generalize pS p x=s at*;generalize pS p y=t at*;have k:0<d*c:=εA (by omega) (by omega);have l:(a*t)*(d*c)=(a*d)*5354228880:=by grind
 have n:(b*s)*(d*c)=(b*c)*5354228880:=by grind
 constructor
 ·intro h;have:(a*t)*(d*c)<(b*s)*(d*c):=by omega
  exact Int.lt_of_mul_lt_mul_right this (by omega)
 ·intro h;have:(a*t)*(d*c)<(b*s)*(d*c):=Int.mul_lt_mul_of_pos_right h k;omega
def AX (p:bn) (x y:Int):Int:=yq (rH p y*pS p x) (rH p x*pS p y)
theorem acj {p:bn} (a:bz p=0) {x y:Int} (c:mL p x) (b:mL p y):AX p x y<0↔fH p y<fH p x:=by
 rw[aci a b c];grind[AX,yq]
def Jr:dH where
 f:=112;α:=Int×Int×bn;put a:=[.si .i64 a.1,.si .i64 a.2.1,.ptr 0 0 20];st a:=[.cells a.2.2.ss 27 20 false];dec v o:=match v,o with
  |[x,y,.ptr 0 0 20],[.cells cs 27 20 false]=>match x.int .i64,y.int .i64,vP cs with
   |some x,some y,some p=>some (x,y,p)
   |_,_,_=>none
  |_,_=>none;ok v o a h:=by
  split at h
  ·split at h
   ·rename_i h1 h2 h3;simp only[γ] at h;subst h;refine⟨by simp only[gL,iN h1,iN h2];rfl,?_⟩;simp only[gO,π,γr,bq.g,zW h3]
   ·cases h
  ·cases h
 inj a b h1 h2:=by
  simp only[gL,Θ,and_true,SV.g,δb,Value.int.injEq,true_and] at h1;simp only[gO,π,γr,bq.g,Θ,bQ.cells.injEq,and_true] at h2;have h3:=dQ.inj a.2.2 b.2.2 (by simp only[dQ,SV.g,h2]);exact εE h1.1 (εE h1.2 h3)
 dom a:=bz a.2.2=0/\mL a.2.2 a.1/\mL a.2.2 a.2.1;res a:=.si .i64 (AX a.2.2 a.1 a.2.1);out a:=[.cells a.2.2.ss 27 20 false]
theorem h320:ec Tryz.prog Jr:=by
 refine lz (L:=[Jq,Jp]) (W:=[]) Jr lk (by simp) (by grind[h322,h321]) ?_;rintro⟨x,y,p⟩ ⟨f,e,c⟩;refine bR (let a:=bp.off.dflt;let d:=p.offers.length;let g:=bj p.offers x.toNat a;let h:=bj p.offers y.toNat a;let k:=h.value*wq g.want;let l:=g.value*wq h.want;let j:=bq.cells (bn.ss p) 27 20 false;(0:Int)<=x/\x<(↑d:Int)/\x.toNat<d/\(0:Int)<=y/\y<(↑d:Int)/\y.toNat<d/\g.want.ok=true/\cu .i64 k/\h.want.ok=true/\cu .i64 l/\True/\(γi .i64 (yq k l)).same (γi .i64 (AX p x y))/\j.same j/\True) (by kernel_rfl) ?_;simp only[vcs];have f:bz p=0:=f;have e:mL p x:=e;have c:mL p y:=c;obtain⟨s,w,q⟩:=AW f e;obtain⟨m,A,z⟩:=AW f c;obtain⟨o,n⟩:=e;obtain⟨B,r⟩:=c;have i:∀{v t:Int},1<=v/\v<=1000000->1<=t/\t<=24-> -9223372036854775808<=v*t/\v*t<=9223372036854775807:=λ{v t} C u=>by
  have a:=γu (show 0<=v by omega) (show 0<=t by omega);have b:=Int.mul_le_mul C.2 u.2 (by omega) (show(0:Int)<=1000000 by omega);omega
 exact⟨o,n,by omega,B,r,by omega,q,i m w,z,i s A,rfl⟩
def p3:bn:=⟨⟨1,1,0,0,0,0⟩,⟨1,1,0,0,0,0⟩,⟨0,0,0,0,0,0⟩,[0,0,0],[⟨0,⟨1,1,0,0,0,0⟩,10⟩,⟨1,⟨1,0,0,0,0,0⟩,6⟩,⟨2,⟨0,1,0,0,0,0⟩,6⟩]⟩
def kn (D:Int->Int) (x y:Int):Bool:=decide (D y<D x)||(decide (D x=D y)&&decide (x<=y))
theorem AY {D:Int->Int} {x y:Int}:kn D x y=true↔D y<D x\/(D x=D y/\x<=y):=by grind[kn]
theorem Sr {D:Int->Int} (a b c:Int) (d:kn D a b=true) (e:kn D b c=true):kn D a c=true:=by
 grind[AY]
theorem acn {D:Int->Int} (a b:Int):(kn D a b||kn D b a)=true:=by
 grind[AY]
theorem aco {D:Int->Int} {a b:Int} (c:kn D a b=true) (d:kn D b a=true):a=b:=by
 grind[AY]
abbrev uF (D:Int->Int) (l:List Int):Prop:=l.Pairwise λa b=>kn D a b=true
def dY (D:Int->Int) (l:List Int):List Int:=l.mergeSort (kn D)
theorem AZ {D:Int->Int} {l:List Int}:(dY D l).Perm l:=List.mergeSort_perm _ _
theorem Ss {D:Int->Int} {l:List Int}:uF D (dY D l):=List.pairwise_mergeSort Sr acn l
theorem sX {D:Int->Int} {l:List Int}:(dY D l).length=l.length:=AZ.length_eq
theorem Js {D:Int->Int} {l:List Int} {x:Int}:x∈dY D l↔x∈l:=AZ.mem_iff
theorem Sv {D:Int->Int} {l m:List Int} (e:m.Perm l) (f:uF D m):m=dY D l:=
 List.Perm.eq_of_pairwise (λa b _ _ c d=>aco c d) f Ss (e.trans AZ.symm)
theorem acp {D:Int->Int} {l:List Int} (h:uF D l):dY D l=l:=(Sv (ζP _) h).symm
def seg (l:List Int) (a b:Nat):List Int:=(l.drop a).take (b - a)
def gZ (D:Int->Int) (l:List Int) (a b:Nat):List Int:=l.take a++dY D (seg l a b)++l.drop b
theorem wt {l:List Int} {a b:Nat} (c:a<=b) (d:b<=l.length):(seg l a b).length=b - a:=by
 grind[seg]
theorem Jt {l:List Int} {a b:Nat} (c:a<=b) (d:b<l.length):seg l a (b+1)=seg l a b++[bj l b 0]:=by
 unfold seg;rw[show b+1 - a=(b - a)+1 by omega,List.take_succ_eq_append_getElem (by grind),List.getElem_drop];grind[cQ]
theorem SA {l:List Int} {a:Nat}:seg l a a=[]:=by grind[seg]
theorem SB {D:Int->Int} {l:List Int} {a b:Nat} (c:a<=b) (d:b<=l.length):(gZ D l a b).length=l.length:=by
 grind[gZ,sX,wt]
theorem SC {l:List Int} {i:Nat} (h:i<l.length):l.drop i=bj l i 0::l.drop (i+1):=by
 simp_all[cQ]
theorem SD {D:Int->Int} {l:List Int} {a:Nat}:gZ D l a a=l:=by
 simp_all[gZ,SA,dY]
theorem acr {D:Int->Int} {l:List Int} {a:Nat} (h:a<l.length):gZ D l a (a+1)=l:=by
 have e:seg l a (a+1)=[bj l a 0]:=by grind[Jt,SA]
 unfold gZ;rw[e,acp (by simp),γV];simp only[List.singleton_append];rw[<-SC h,γL]
def lg (D:Int->Int) (l:List Int) (a i j:Nat):List Int:=l.take a++((dY D (seg l a i)).take (j - a)++bj l i 0::(dY D (seg l a i)).drop (j - a))++l.drop (i+1)
theorem acs {D:Int->Int} {l:List Int} {a i j:Nat} (b:a<=i) (c:i<l.length):(lg D l a i j).length=l.length:=by
 grind[sX,wt,lg]
theorem acu {D:Int->Int} {l:List Int} {a i:Nat} (b:a<=i) (c:i<l.length):lg D l a i i=gZ D l a i:=by
 grind[sX,wt,lg,gZ,SC]
theorem acv {A B:List Int} {y x:Int}:((A++y::x::B).set (A.length+1) y).set A.length x=A++x::y::B:=by
 simp_all
theorem acw {A B:List Int} {y:Int}:bj (A++y::B) A.length 0=y:=by grind[bj]
theorem acy {A B:List Int} {y x:Int}:bj (A++y::x::B) (A.length+1) 0=x:=by grind[bj]
theorem acz {D:Int->Int} {l:List Int} {a i k:Nat} (c:a+k+1<=i) (d:i<l.length):
  lg D l a i (a+k+1)=(l.take a++(dY D (seg l a i)).take k)++bj (dY D (seg l a i)) k 0::bj l i 0::((dY D (seg l a i)).drop (k+1)++l.drop (i+1))/\
  lg D l a i (a+k)=(l.take a++(dY D (seg l a i)).take k)++bj l i 0::bj (dY D (seg l a i)) k 0::((dY D (seg l a i)).drop (k+1)++l.drop (i+1))/\
  (l.take a++(dY D (seg l a i)).take k).length=a+k:=by
 have b:=@sX D (seg l a i);rw[wt (by omega) (by omega)] at b;have e:k<(dY D (seg l a i)).length:=by omega
 have g:(dY D (seg l a i)).take (k+1)=(dY D (seg l a i)).take k++[bj (dY D (seg l a i)) k 0]:=by simp_all[cQ]
 have f:(dY D (seg l a i)).drop k=bj (dY D (seg l a i)) k 0::(dY D (seg l a i)).drop (k+1):=by simp_all[cQ]
 grind[lg]
theorem acA {D:Int->Int} {l:List Int} {a i j:Nat} (g:a<j) (f:j<=i) (d:i<l.length):
  bj (lg D l a i j) j 0=bj l i 0/\bj (lg D l a i j) (j - 1) 0=bj (dY D (seg l a i)) (j - 1 - a) 0/\
  ((lg D l a i j).set j (bj (dY D (seg l a i)) (j - 1 - a) 0)).set (j - 1) (bj l i 0)=lg D l a i (j - 1):=by
 obtain⟨b,c,e⟩:=@acz D l a i (j - 1 - a) (by omega) d;rw[show a+(j - 1 - a)+1=j by omega] at b;rw[show a+(j - 1 - a)=j - 1 by omega] at c e;rw[b,c];generalize l.take a++(dY D (seg l a i)).take (j - 1 - a)=A at*;generalize bj (dY D (seg l a i)) (j - 1 - a) 0=y at*;generalize bj l i 0=x at*;grind[acy,acw,acv]
theorem acB {D:Int->Int} {S:List Int} {x:Int} {k:Nat} (n:uF D S) (d:∀s∈S.drop k,kn D x s=true) (b:k=0\/(k<=S.length/\kn D (bj S (k - 1) 0) x=true)):uF D (S.take k++x::S.drop k):=by
 have a:uF D (S.take k++S.drop k):=by simp_all
 obtain⟨g,f,i⟩:=δX.1 a;have j:∀s∈S.take k,kn D s x=true:=by
  rcases b with rfl|⟨h,b⟩;·simp
  ·intro s l;by_cases m:k=0;·simp_all
   have c:k - 1<S.length:=by omega
   have e:S.take k=S.take (k - 1)++[bj S (k - 1) 0]:=by
    conv=>lhs;rw[show k=(k - 1)+1 by omega]
    simp_all[cQ]
   grind[Sr]
 rw[uF,δX];simp_all
theorem acC {S:List Int} {x:Int} {k:Nat}:(S.take k++x::S.drop k).Perm (S++[x]):=by
 refine(List.perm_middle).trans ?_;rw[γL];grind
theorem acD {D:Int->Int} {l:List Int} {a i j:Nat} (k:a<=j) (f:j<=i) (e:i<l.length) (b:∀s∈(dY D (seg l a i)).drop (j - a),kn D (bj l i 0) s=true) (g:j=a\/kn D (bj (dY D (seg l a i)) (j - 1 - a) 0) (bj l i 0)=true):
  lg D l a i j=gZ D l a (i+1):=by
 have c:=@sX D (seg l a i);rw[wt (by omega) (by omega)] at c;have d:uF D ((dY D (seg l a i)).take (j - a)++bj l i 0::(dY D (seg l a i)).drop (j - a)):=by
  refine acB Ss b ?_;grind
 have h:((dY D (seg l a i)).take (j - a)++bj l i 0::(dY D (seg l a i)).drop (j - a)).Perm (seg l a (i+1)):=by
  rw[Jt (by omega) e];exact acC.trans (List.Perm.append AZ (ζP _))
 grind[lg,gZ,Sv]
def yr:Nat->List SV->Option (List Int)
 |0,[.fn (.func 112) [] [.ptr 1 0 20]]=>some []
 |k+1,x::r=>match x.int .i64,yr k r with
  |some n,some l=>some (n::l)
  |_,_=>none
 |_,_=>none
theorem SE:∀{k:Nat} {r:List SV} {l:List Int},yr k r=some l->gL r=gL (l.map (γi .i64)++[.fn (.func 112) [] [.ptr 1 0 20]])
 |0,r,l,h=>by
  unfold yr at h;split at h;·simp only[γ] at h;subst h;rfl
  ·rename_i h0;cases h0
  ·cases h;|k+1,[],l,h=>by simp[yr] at h;|k+1,x::r,l,h=>by
  simp only[yr] at h;split at h
  ·rename_i n l' h1 h2;simp only[γ] at h;subst h;simp only[gL,π,γG,SE h2,iN h1];rfl
  ·cases h
theorem SG:∀{l m:List Int} {z:List SV},l.length=m.length->gL (l.map (γi .i64)++z)=gL (m.map (γi .i64)++z)->l=m
 |[],[],_,_,_=>rfl
 |[],_::_,_,h,_=>by simp at h;|_::_,[],_,h,_=>by simp at h;|x::l,y::m,z,hl,h=>by
  simp only[π,γG,gL,Θ,SV.g,δb,Value.int.injEq,true_and] at h;rw[h.1,SG (by simpa using hl) h.2]
def Ju (f:FuncId) (k:Nat) (β:Type) (A0:β->List Int) (SH:List Int->Option β) (h0:∀b,(A0 b).length=k) (h1:∀l b,SH l=some b->l=A0 b) (h2:∀b c,A0 b=A0 c->b=c) (dom:(Nat×List Int×bn)×β->Prop) (out:(Nat×List Int×bn)×β->List Int):dH where
 f:=f;α:=(Nat×List Int×bn)×β;put a:=.ow 0 a.1.1 1::((A0 a.2).map (γi .i64)++[.fn (.func 112) [] [.ptr 1 0 20]]);st a:=[.row (.i .i64) a.1.2.1 3 true,.cells a.1.2.2.ss 27 20 false];dec v o:=match v,o with
  | .ow 0 n 1::r,[.row t l 3 true,.cells cs 27 20 false]=>match yr k r,iG t (.i .i64) l,vP cs with
   |some xs,some l,some p=>match SH xs with
    |some b=>some ((n,l,p),b)
    |none=>none
   |_,_,_=>none
  |_,_=>none;ok v o a h:=by
  split at h
  ·split at h
   ·rename_i h3 h4 h5;split at h
    ·rename_i b hb;simp only[γ] at h;subst h;obtain⟨rfl,hh⟩:=mE h4;cases hh;have:=h1 _ _ hb;subst this;refine⟨by simp only[gL,SE h3],?_⟩;simp only[gO,π,γr,bq.g,zW h5]
    ·cases h
   ·cases h
  ·cases h
 inj a b e1 e2:=by
  obtain⟨⟨n,l,p⟩,x⟩:=a;obtain⟨⟨n',l',p'⟩,x'⟩:=b;simp only[gL,Θ,SV.g,εz,true_and] at e1;simp only[gO,π,γr,bq.g,Θ,bQ.cells.injEq,and_true,true_and] at e2;have h3:p=p':=dQ.inj p p' (by simp only[dQ,SV.g,e2.2]);have h4:l=l':=by
   have hf:=congrArg γc e2.1;rw[fe,fe] at hf;exact ly (.i .i64) (by simpa[bp.sz] using hf) e2.1
  have h5:x=x':=h2 _ _ (SG (by rw[h0,h0]) e1.2);rw[e1.1.1,h3,h4,h5]
 dom:=dom;res _:=.bI [];out a:=[.row (.i .i64) (out a) 3 true,.cells a.1.2.2.ss 27 20 false]
abbrev Srg:=Nat×List Int×bn
def A1 (b:Int×Int):List Int:=[b.1,b.2]
def Jv:List Int->Option (Int×Int)
 |[a,b]=>some (a,b)
 |_=>none
theorem acF:∀l b,Jv l=some b->l=A1 b:=λl b h=>by
 unfold Jv at h;split at h;·simp only[γ] at h;subst h;rfl
 ·cases h
theorem acG:∀b c,A1 b=A1 c->b=c:=λb c h=>by
 unfold A1 at h;simp only[Θ,and_true] at h;exact εE h.1 h.2
def wu (a:Srg):Prop:=(bz a.2.2=0/\a.1=a.2.1.length)/\a.2.1.length<=1000/\∀x∈a.2.1,mL a.2.2 x
def Jw (l:List Int) (a b:Int):Prop:=0<=a/\a<=b/\b<=l.length
theorem SI {l m:List Int} (h:l=m):(bq.row (.i .i64) l 3 true).same (bq.row (.i .i64) m 3 true):=by subst h;rfl
def Jx:dH:=Ju 172 2 (Int×Int) A1 Jv (λ_=>rfl) acF acG (λa=>wu a.1/\Jw a.1.2.1 a.2.1 a.2.2/\(seg a.1.2.1 a.2.1.toNat a.2.2.toNat).Pairwise (·<·)) λa=>gZ (fH a.1.2.2) a.1.2.1 a.2.1.toNat a.2.2.toNat
def acH (n:Nat) (l:List Int) (p:bn) (a b:Int):Nat->cF
 |1=> .inv (Int×List Int) (λx=>⟨[(0,.ow 0 n 1),(1,.si .i64 a),(2,.si .i64 b),(3,.fn (.func 112) [] [.ptr 1 0 20]),(8,.si .i64 x.1)],[.row (.i .i64) x.2 3 true,.cells p.ss 27 20 false]⟩) (λs=>(iS s 8,oS (.i .i64) s 0))
   (λx=>(a<x.1/\(x.1<=b\/x.1=a+1))/\x.2=gZ (fH p) l a.toNat (if a<b then x.1 else a).toNat) (λx=>(b - x.1).toNat) λx k=>match k with
    |4=> .inv (Int×List Int) (λy=>⟨[(0,.ow 0 n 1),(1,.si .i64 a),(2,.si .i64 b),(3,.fn (.func 112) [] [.ptr 1 0 20]),(8,.si .i64 x.1),(9,.si .i64 y.1)],[.row (.i .i64) y.2 3 true,.cells p.ss 27 20 false]⟩) (λs=>(iS s 9,oS (.i .i64) s 0))
      (λy=>(a<=y.1/\y.1<=x.1)/\y.2=lg (fH p) l a.toNat x.1.toNat y.1.toNat/\∀s∈(dY (fH p) (seg l a.toNat x.1.toNat)).drop (y.1 - a).toNat,kn (fH p) (bj l x.1.toNat 0) s=true) (λy=>(y.1 - a).toNat) λ_ _=> .look
    |_=> .look
 |_=> .look
theorem h343:ec Tryz.prog Jx:=by
 refine lz (L:=[]) (W:=[Jr]) Jx (λa=>acH a.1.1 a.1.2.1 a.1.2.2 a.2.1 a.2.2) (by simpa using h320) (by simp) ?_;rintro⟨⟨n,l,p⟩,a,b⟩ ⟨⟨⟨hc,hn⟩,hl,ho⟩,⟨a0,a1,a2⟩,hi⟩;refine bR (let c:=γi .i64;let d:=(0:Int);let e:=cu .i64;let f:=bq.row;let g:=(1:Int);let m:=a+g;let o:=γ1 0 n 1;let q:=SV.fn (Fn.func 112) [] [γT 1 0 20];let E:=c m;let w:=bp.i .i64;let F:=f w l 3 true;let k:=bq.cells [c p.supply.a0,c p.supply.a1,c p.supply.a2,c p.supply.a3,c p.supply.a4,c p.supply.a5,c p.opn.a0,c p.opn.a1,c p.opn.a2,c p.opn.a3,c p.opn.a4,c p.opn.a5,c p.cls.a0,c p.cls.a1,c p.cls.a2,c p.cls.a3,c p.cls.a4,c p.cls.a5,Ω w p.classes,Ω bp.off p.offers] 27 20 false;e m/\(((o.same o/\(c a).same (c a)/\(c b).same (c b)/\q.same q/\E.same E/\True)/\F.same F/\k.same k/\True)/\(a<m/\(m<=b\/m=m))/\l=gZ (fH p) l a.toNat (if a<b then m else a).toNat)/\∀(x:Int×List Int),let y:=c x.fst;let B:=f w x.snd 3 true;let r:=x.fst.toNat;let C:=dY (fH p) (seg l a.toNat r);let t:=x.fst+g;let G:=c t;let N:=gZ (fH p) l a.toNat (if a<b then t else a).toNat;(a<x.fst/\(x.fst<=b\/x.fst=m))/\x.snd=gZ (fH p) l a.toNat (if a<b then x.fst else a).toNat->(decide (x.fst<b)=true->(((o.same o/\(c a).same (c a)/\(c b).same (c b)/\q.same q/\y.same y/\y.same y/\True)/\B.same B/\k.same k/\True)/\(a<=x.fst/\x.fst<=x.fst)/\x.snd=lg (fH p) l a.toNat r r/\∀(s:Int),s∈γU (x.fst - a).toNat C->kn (fH p) (bj l r d) s=true)/\∀(x_1:Int×List Int),let H:=f w x_1.snd 3 true;let v:=x_1.fst.toNat;let D:=bj x_1.snd v d;let j:=x_1.fst - g;let z:=j.toNat;let A:=bj x_1.snd z d;let h:=x_1.snd.length;let z23:Nat:=(x_1.snd.set v A).length;let I:=c j;let J:=(x_1.snd.set v A).set z D;let K:=f w J 3 true;let L:=e t/\((o.same o/\(c a).same (c a)/\(c b).same (c b)/\q.same q/\G.same G/\True)/\H.same H/\k.same k/\True)/\((a<t/\(t<=b\/t=m))/\x_1.snd=N)/\(b - t).toNat<(b - x.fst).toNat;let M:=λ(u:Bool) ↦decide (AX p D A<d)=u;((a<=x_1.fst/\x_1.fst<=x.fst)/\x_1.snd=lg (fH p) l a.toNat r v/\∀(s:Int),s∈γU (x_1.fst - a).toNat C->kn (fH p) (bj l r d) s=true)->(decide (a<x_1.fst)=true->n=h/\d<=x_1.fst/\x_1.fst<(↑h:Int)/\n=h/\v<h/\e j/\n=h/\d<=j/\j<(↑h:Int)/\n=h/\z<h/\(bz p=d/\mL p D/\mL p A)/\(M true->e j/\e j/\n=h/\d<=j/\j<(↑h:Int)/\n=h/\z<h/\n=h/\d<=x_1.fst/\x_1.fst<(↑h:Int)/\n=h/\v<h/\n=h/\d<=x_1.fst/\x_1.fst<(↑h:Int)/\n=h/\v<h/\n=z23/\d<=j/\j<(↑z23:Int)/\n=z23/\z<z23/\e j/\((o.same o/\(c a).same (c a)/\(c b).same (c b)/\q.same q/\y.same y/\I.same I/\True)/\K.same K/\k.same k/\True)/\((a<=j/\j<=x.fst)/\J=lg (fH p) l a.toNat r z/\∀(s:Int),s∈γU (j - a).toNat C->kn (fH p) (bj l r d) s=true)/\(j - a).toNat<(x_1.fst - a).toNat)/\(M false->L))/\(decide (a<x_1.fst)=false->L))/\(decide (x.fst<b)=false->(SV.bI []).same (SV.bI [])/\B.same (f w (gZ (fH p) l a.toNat b.toNat) 3 true)/\k.same k/\True)) (by kernel_rfl) ?_;simp only[vcs];have hc:bz p=0:=hc;have hn:n=l.length:=hn;have hl:l.length<=1000:=hl;have ho:∀x∈l,mL p x:=ho;have a0:0<=a:=a0;have a1:a<=b:=a1;have a2:b<=l.length:=a2;have hi:(seg l a.toNat b.toNat).Pairwise (·<·):=hi;generalize hD:fH p=D at*;have sl:∀{i:Int},a<=i->i<=b->(gZ D l a.toNat i.toNat).length=l.length:=λh1 h2=>SB (by omega) (by omega);refine⟨by omega,⟨⟨by omega,.inr trivial⟩,?_⟩,?_⟩
 ·by_cases hab:a<b;·rw[if_pos hab,show(a+1).toNat=a.toNat+1 by omega,acr (by omega)]
  ·rw[if_neg hab,SD]
 rintro⟨i,m⟩ ⟨⟨i0,i1⟩,hm⟩;simp only at i0 i1 hm ⊢;refine⟨λhib=>?_,λhib=>SI ?_⟩
 ·rw[if_pos (by omega)] at hm;have hx:=ho _ (dr (d:=(0:Int)) (show i.toNat<l.length by omega));have hS:∀s∈dY D (seg l a.toNat i.toNat),s<bj l i.toNat 0/\mL p s:=λs hs=>by
   have h1:=Js.1 hs;have h2:(seg l a.toNat (i.toNat+1)).Pairwise (·<·):=by
    refine hi.sublist ?_;unfold seg;exact List.take_sublist_take_left (by omega)
   rw[Jt (by omega) (by omega)] at h2;refine⟨(δX.1 h2).2.2 s h1 _ (by simp),ho s ?_⟩;unfold seg at h1;exact γR (γm h1)
  have hSl:(dY D (seg l a.toNat i.toNat)).length=i.toNat - a.toNat:=by rw[sX,wt (by omega) (by omega)]
  have il:∀{j:Nat},(lg D l a.toNat i.toNat j).length=l.length:=λ{j}=>acs (by omega) (by omega);refine⟨⟨⟨by omega,by omega⟩,?_,?_⟩,?_⟩;·rw[hm,acu (by omega) (by omega)]
  ·intro s hs;rw[List.drop_of_length_le (by omega)] at hs;simp at hs
  rintro⟨j,m2⟩ ⟨⟨j0,j1⟩,hm2,hle⟩;simp only at j0 j1 hm2 hle ⊢;subst hm2;simp only[List.length_set,il];have fin:(j=a\/kn D (bj (dY D (seg l a.toNat i.toNat)) (j.toNat - 1 - a.toNat) 0) (bj l i.toNat 0)=true)->lg D l a.toNat i.toNat j.toNat=gZ D l a.toNat (if a<b then i+1 else a).toNat:=λh=>by
   rw[if_pos (by omega),show(i+1).toNat=i.toNat+1 by omega];refine acD (by omega) (by omega) (by omega) ?_ ?_;·rw[show j.toNat - a.toNat=(j - a).toNat by omega];exact hle
   ·rcases h with h|h;·exact .inl (by omega)
    ·exact .inr h
  refine⟨λhj=>?_,λhj=>?_⟩
  ·obtain⟨k1,k2,k3⟩:=@acA D l a.toNat i.toNat j.toNat (by omega) (by omega) (by omega);have ej:(j - 1).toNat=j.toNat - 1:=by omega
   rw[ej,k1,k2,k3];have hs:=dr (d:=(0:Int)) (show j.toNat - 1 - a.toNat<(dY D (seg l a.toNat i.toNat)).length by omega);obtain⟨s1,s2⟩:=hS _ hs;have hcmp:=acj hc hx s2;rw[hD] at hcmp;rw[hcmp];refine⟨by omega,by omega,by omega,by omega,by omega,by omega,by omega,by omega,by omega,by omega,by omega,⟨hc,hx,s2⟩,λh1=>?_,λh1=>?_⟩
   ·repeat' refine γh ?_ ?_
    all_goals first|omega|rfl|skip
    intro s hs2;rw[show(j - 1 - a).toNat=j.toNat - 1 - a.toNat by omega,List.drop_eq_getElem_cons (show j.toNat - 1 - a.toNat<(dY D (seg l a.toNat i.toNat)).length by omega)] at hs2;rcases List.mem_cons.1 hs2 with rfl|hs2
    ·rw[<-cQ (d:=(0:Int))];exact AY.2 (.inl h1)
    ·refine hle s ?_;rw[show(j - a).toNat=j.toNat - 1 - a.toNat+1 by omega];exact hs2
   ·have:=fin (.inr (AY.2 (by omega)));repeat' refine γh ?_ ?_
    all_goals first|omega|exact this|rfl
  ·have:=fin (.inl (by omega));repeat' refine γh ?_ ?_
   all_goals first|omega|exact this|rfl
 ·rw[hm];by_cases hab:a<b;·rw[if_pos hab,show i=b by omega]
  ·rw[if_neg hab,show a=b by omega]
theorem acI {l:List Int} {a b:Nat} {x:Int} (h:x∈seg l a b):x∈l:=by
 unfold seg at h;exact γR (γm h)
theorem acJ {D:Int->Int} {l:List Int} {a b:Nat} {x:Int} (h:x∈gZ D l a b):x∈l:=by
 unfold gZ at h;simp only[γk] at h;rcases h with(h|h)|h;·exact γm h
 ·exact acI (Js.1 h)
 ·exact γR h
def A2 (b:Int):List Int:=[b]
def Jy:List Int->Option Int
 |[a]=>some a
 |_=>none
theorem acK:∀l b,Jy l=some b->l=A2 b:=λl b h=>by
 unfold Jy at h;split at h;·simp only[γ] at h;subst h;rfl
 ·cases h
theorem acL:∀b c,A2 b=A2 c->b=c:=λb c h=>by
 simp_all[A2]
def Eh (_:Unit):List Int:=[]
def Jz:List Int->Option Unit
 |[]=>some ()
 |_=>none
theorem acM:∀l b,Jz l=some b->l=Eh b:=λl b h=>by
 unfold Jz at h;split at h;·rfl
 ·cases h
theorem acN:∀b c,Eh b=Eh c->b=c:=λ_ _ _=>rfl
theorem SJ {D:Int->Int} {l:List Int} {n:Nat} (h:n=l.length):gZ D l 0 n=dY D l:=by
 grind[gZ,seg]
theorem acO {D:Int->Int} {l:List Int} {b c d:Nat} (h:b<=c) (e:b<=l.length):seg (gZ D l 0 b) c d=seg l c d:=by
 have a:(dY D (seg l 0 b)).length=b:=by grind[sX,wt]
 unfold gZ;have:(l.take 0++dY D (seg l 0 b)++l.drop b).drop c=l.drop c:=by
  rw[List.take_zero,δK,List.drop_append,List.drop_eq_nil_of_le (by omega),δK,δi,a,show b+(c - b)=c by omega]
 grind[seg]
def JA:dH:=Ju 149 1 Int A2 Jy (λ_=>rfl) acK acL (λa=>(wu a.1/\a.1.2.1.Pairwise (·<·))/\a.2=a.1.2.1.length/\a.1.2.1.length<=20) λa=>dY (fH a.1.2.2) a.1.2.1
def acP (n:Nat) (l:List Int) (p:bn):Nat->cF
 |2=> .inv (Int×Int×List Int) (λx=>⟨[(0,.ow 0 n 1),(1,.si .i64 l.length),(2,.fn (.func 112) [] [.ptr 1 0 20]),(6,.si .i64 20),(7,.si .i64 x.1),(8,.si .i64 x.2.1)],[.row (.i .i64) x.2.2 3 true,.cells p.ss 27 20 false]⟩) (λs=>(iS s 7,iS s 8,oS (.i .i64) s 0))
   (λx=>x.2.1=x.1+20/\(x.1=0/\x.2.2=l\/x.1=20/\l.length=20/\x.2.2=gZ (fH p) l 0 20)) (λx=>(1000 - x.1).toNat) λ_ _=> .look
 |7=> .inv (Int×List Int) (λx=>⟨[(0,.ow 0 n 1),(1,.si .i64 l.length),(2,.fn (.func 112) [] [.ptr 1 0 20]),(6,.si .i64 x.1)],[.row (.i .i64) x.2 3 true,.cells p.ss 27 20 false]⟩) (λs=>(iS s 6,oS (.i .i64) s 0))
   (λx=>x.1=20/\x.2=dY (fH p) l) (λx=>(1000 - x.1).toNat) λ_ _=> .look
 |_=> .look
theorem h333:ec Tryz.prog JA:=by
 refine lz (L:=[]) (W:=[Jx]) JA (λa=>acP a.1.1 a.1.2.1 a.1.2.2) (by simpa using h343) (by simp) ?_;rintro⟨⟨n,l,p⟩,N⟩ ⟨⟨⟨⟨hc,hn⟩,hl,ho⟩,hi⟩,hN,h20⟩;simp only at hc hn hl ho hi hN h20;subst hN;refine bR (let a:=γi .i64;let b:=(20:Int);let c:=bq.row;let d:=(0:Int);let e:=γy .i64;let g:=γ1 0 n 1;let h:=(↑l.length:Int);let j:=a h;let k:=SV.fn (Fn.func 112) [] [γT 1 0 20];let m:=a 20;let v:=e 0;let o:=bp.i .i64;let w:=c o l 3 true;let f:=bq.cells [a p.supply.a0,a p.supply.a1,a p.supply.a2,a p.supply.a3,a p.supply.a4,a p.supply.a5,a p.opn.a0,a p.opn.a1,a p.opn.a2,a p.opn.a3,a p.opn.a4,a p.opn.a5,a p.cls.a0,a p.cls.a1,a p.cls.a2,a p.cls.a3,a p.cls.a4,a p.cls.a5,Ω o p.classes,Ω bp.off p.offers] 27 20 false;let s:=gZ (fH p) l 0 20;let t:=dY (fH p) l;(((g.same g/\j.same j/\k.same k/\(e 20).same m/\v.same (a 0)/\(e 20).same m/\True)/\w.same w/\f.same f/\True)/\b=b/\(d=d/\l=l\/d=b/\l.length=20/\l=s))/\∀(x:Int×Int×List Int),let y:=decide (x.snd.fst<=h);let q:=x.fst.toNat;let r:=x.snd.fst+b;let z:=a x.snd.fst;let A:=a r;let u:=gZ (fH p) x.snd.snd q x.snd.fst.toNat;let B:=c o u 3 true;let C:=gZ (fH p) x.snd.snd q h.toNat;let D:=c o C 3 true;x.snd.fst=x.fst+b/\(x.fst=d/\x.snd.snd=l\/x.fst=b/\l.length=20/\x.snd.snd=s)->(y=true->(wu (n,x.snd.snd,p)/\Jw x.snd.snd x.fst x.snd.fst/\ζz (λx1 x2 ↦x1<x2) (seg x.snd.snd q x.snd.fst.toNat))/\cu .i64 r/\((g.same g/\j.same j/\k.same k/\m.same m/\z.same z/\A.same A/\True)/\B.same B/\f.same f/\True)/\(r=r/\(x.snd.fst=d/\u=l\/x.snd.fst=b/\l.length=20/\u=s))/\((1000:Int) - x.snd.fst).toNat<((1000:Int) - x.fst).toNat)/\(y=false->(wu (n,x.snd.snd,p)/\Jw x.snd.snd x.fst h/\ζz (λx1 x2 ↦x1<x2) (seg x.snd.snd q h.toNat))/\(((g.same g/\j.same j/\k.same k/\m.same m/\True)/\D.same D/\f.same f/\True)/\b=b/\C=t)/\∀(x:Int×List Int),let E:=c o x.snd 3 true;x.fst=b/\x.snd=t->(decide (x.fst<h)=true->cu .i64 ((2:Int)*x.fst)/\Look (cy.mk [(0,g),(1,j),(2,k),(6,a x.fst),(7,v),(8,a ((2:Int)*x.fst))] [E,f]))/\(decide (x.fst<h)=false->(SV.bI []).same (SV.bI [])/\E.same (c o t 3 true)/\f.same f/\True))) (by kernel_rfl) ?_;simp only[vcs];have pw:∀a b,(seg l a b).Pairwise (·<·):=λa b=>List.Pairwise.sublist ((List.take_sublist _ _).trans (List.drop_sublist _ _)) hi;have e0:((l.length:Int)).toNat=l.length:=by omega
 rw[e0];refine⟨.inl trivial,?_⟩;rintro⟨a,b,w⟩ ⟨hb,hw⟩;simp only at hb hw ⊢;subst hb;refine⟨λh=>?_,λh=>?_⟩
 ·rcases hw with⟨rfl,rfl⟩|⟨rfl,h2,rfl⟩;·refine⟨⟨⟨⟨hc,hn⟩,hl,ho⟩,⟨?_,?_,?_⟩,pw _ _⟩,?_,.inr ⟨?_,?_,rfl⟩,?_⟩<;>omega
  ·omega
 ·refine⟨?_,?_,?_⟩
  ·rcases hw with⟨rfl,rfl⟩|⟨rfl,h2,rfl⟩;·refine⟨⟨⟨hc,hn⟩,hl,ho⟩,⟨?_,?_,?_⟩,pw _ _⟩<;>omega
   ·have hw:=@SB (fH p) l 0 20 (by omega) (by omega);exact⟨⟨⟨hc,by simp only[hw];exact hn⟩,by simp only[hw];exact hl,λx hx=>ho x (acJ hx)⟩,⟨by omega,by omega,by rw[hw];omega⟩,by rw[acO (by omega) (by omega)];exact pw _ _⟩
  ·rcases hw with⟨rfl,rfl⟩|⟨rfl,h2,rfl⟩;·exact SJ rfl
   ·rw[h2];show gZ _ _ 20 20=_;rw[SD];exact SJ h2.symm
  ·rintro⟨s,w⟩ hw;simp only at hw ⊢;exact⟨λh=>by omega,λh=>SI hw.2⟩
def JB:dH:=Ju 111 0 Unit Eh Jz (λ_=>rfl) acM acN (λa=>(wu a.1/\a.1.2.1.Pairwise (·<·))/\a.1.2.1.length<=20) λa=>dY (fH a.1.2.2) a.1.2.1
theorem h319:ec Tryz.prog JB:=by
 refine lz (L:=[]) (W:=[JA]) JB lk (by simpa using h333) (by simp) ?_;rintro⟨⟨n,l,p⟩,u⟩ ⟨⟨⟨⟨hc,hn⟩,hl,ho⟩,hi⟩,h20⟩;simp only at hc hn hl ho hi h20;refine bR (let a:=bq.row (bp.i .i64) (dY (fH p) l) 3 true;let b:=bq.cells (bn.ss p) 27 20 false;((wu (n,l,p)/\ζz (λx1 x2 ↦x1<x2) l)/\(↑n:Int)=(↑l.length:Int)/\l.length<=20)/\(SV.bI []).same (SV.bI [])/\a.same a/\b.same b/\True) (by kernel_rfl) ?_;simp only[vcs];exact⟨⟨⟨⟨hc,hn⟩,hl,ho⟩,hi⟩,by omega,h20⟩
def dp (n:Nat):List Int:=(Γ n).map λi:Nat=>(i:Int)
theorem iT {n:Nat}:(dp n).length=n:=by simp[dp]
theorem sY {n:Nat}:dp (n+1)=dp n++[(n:Int)]:=by simp[dp,εf]
theorem rI {n:Nat}:(dp n).Pairwise (·<·):=by
 unfold dp;rw[List.pairwise_map];exact List.pairwise_lt_range.imp λh=>by omega
theorem kL {n:Nat} {x:Int}:x∈dp n↔0<=x/\x<n:=by
 unfold dp;rw[Ψ];constructor;·grind
 ·rintro⟨b,a⟩;exact⟨x.toNat,List.mem_range.2 (by omega),by omega⟩
def mM (n i:Nat):List Int:=dp i++δ (n - i) 0
theorem SK {n i:Nat} (h:i<=n):(mM n i).length=n:=by grind[mM,iT]
theorem acQ {n:Nat}:mM n 0=δ n 0:=by simp[mM,dp]
theorem acR {n:Nat}:mM n n=dp n:=by simp[mM]
theorem acS {n i:Nat} (h:i<n):(mM n i).set i (i:Int)=mM n (i+1):=by
 unfold mM;rw[List.set_append_right _ _ (by grind[iT]),iT,Nat.sub_self,show n - i=(n - (i+1))+1 by omega,List.replicate_succ,List.set_cons_zero,sY,γV];rfl
def wv (p:bn):List Int:=dY (fH p) (dp p.offers.length)
def JC:bM:=⟨76,bn,.one dQ,λp=>p.offers.length<=20,λp=> .row (.i .i64) (if bz p=0 then wv p else[])⟩
def acT (p:bn):Nat->cF
 |5=> .inv Int (λi=>⟨[(1,.ptr 0 0 20),(3,.ow 1 (mM p.offers.length i.toNat).length 1),(13,.si .i64 p.offers.length),(14,.si .i64 i)],[.cells p.ss 27 20 false,.row (.i .i64) (mM p.offers.length i.toNat) 3 true]⟩)
   (λs=>iS s 14) (λi=>0<=i/\i<=p.offers.length) (λi=>(p.offers.length - i).toNat) λ_ _=> .look
 |_=> .look
theorem h308:Holds Tryz.prog JC:=by
 refine con (L:=[o9]) (W:=gK [JB]) JC acT (kY (by simpa using h319)) (by simpa using h79) ?_;intro(p:bn) (hp:p.offers.length<=20);refine bR (let a:=γi .i64;let b:=(0:Int);let c:=bq.row;let d:=Ω;let e:=γ1;let r:=decide (bz p≠b);let g:=bp.i .i64;let s:=d g (if bz p=b then wv p else[]);let h:=(↑p.offers.length:Int);let n:=γT 0 0 20;let l:=p.offers.length;let j:=(↑l:Int);let q:=a j;let o:=bq.cells [a p.supply.a0,a p.supply.a1,a p.supply.a2,a p.supply.a3,a p.supply.a4,a p.supply.a5,a p.opn.a0,a p.opn.a1,a p.opn.a2,a p.opn.a3,a p.opn.a4,a p.opn.a5,a p.cls.a0,a p.cls.a1,a p.cls.a2,a p.cls.a3,a p.cls.a4,a p.cls.a5,d g p.classes,d bp.off p.offers] 27 20 false;True/\(r=true->(d g []).same s)/\(r=false->b<=h/\h<=h/\h*(8:Int)<=(140737488355328:Int)/\h<=(1000000000000:Int)/\(((n.same n/\(e 1 h.toNat 1).same (e 1 (mM l 0).length 1)/\(a (↑h.toNat:Int)).same q/\(γy .i64 0).same (a 0)/\True)/\o.same o/\(c g (δ h.toNat b) 3 true).same (c g (mM l 0) 3 true)/\True)/\b<=b/\b<=j)/\∀(x:Int),let f:=mM l x.toNat;let m:=f.length;let k:=x+(1:Int);let t:=a k;b<=x/\x<=j->(decide (x<j)=true->m=f.length/\b<=x/\x<(↑f.length:Int)/\m=f.length/\x.toNat<f.length/\cu .i64 k/\((n.same n/\(e 1 m 1).same (e 1 (mM l k.toNat).length 1)/\q.same q/\t.same t/\True)/\o.same o/\(c g (f.set x.toNat x) 3 true).same (c g (mM l k.toNat) 3 true)/\True)/\(b<=k/\k<=j)/\(j - k).toNat<(j - x).toNat)/\(decide (x<j)=false->((wu (m,f,p)/\ζz (λx1 x2 ↦x1<x2) f)/\m<=20)/\m=(dY (fH p) f).length/\(d g (dY (fH p) f)).same s))) (by kernel_rfl) ?_;simp only[vcs];refine⟨λh=>by rw[if_neg h],λh=>?_⟩;have hc:bz p=0:=Classical.not_not.1 h;rw[if_pos hc];have e0:((p.offers.length:Int)).toNat=p.offers.length:=by omega
 have how:∀{x y:Nat},x=y->(γ1 1 x 1).same (γ1 1 y 1):=by rintro _ _ rfl;rfl
 rw[e0,acQ];refine⟨by omega,by omega,by omega,by omega,⟨⟨⟨how (by simp),rfl⟩,rfl⟩,by omega,by omega⟩,?_⟩;rintro i ⟨i0,i1⟩;have hL:=@SK p.offers.length i.toNat (by omega);refine⟨λhi=>?_,λhi=>?_⟩
 ·have hs:=@acS p.offers.length i.toNat (by omega);rw[show((i.toNat:Nat):Int)=i by omega] at hs;have hL2:=@SK p.offers.length (i.toNat+1) (by omega);rw[show(i+1).toNat=i.toNat+1 by omega,hs];exact⟨i0,by omega,by omega,by omega,⟨how (by omega),rfl⟩,by omega,by omega⟩
 ·rw[show i.toNat=p.offers.length by omega,acR];refine⟨⟨⟨⟨⟨hc,rfl⟩,by simp only[iT];omega,λx hx=>by have:=kL.1 hx;exact this⟩,rI⟩,by simp only[iT];omega⟩,by rw[sX],rfl⟩
end Go.Vi
