/-
  Contracts: the reference's natural numbers: trim, digit, Cmp, Add, Sub, FromUint.
  Conditions: none.
-/
import Derived.Test.YtjcmncmajmoiiaaGreatEX06
import Derived.Test.YtjcmncmajmoiiaaGreatEX07
import Derived.Test.YtjcmncmajmoiiaaGreatEX08
import Derived.Test.YtjcmncmajmoiiaaGreatEX09
import Derived.Test.YtjcmncmajmoiiaaGreatEX04
set_option maxRecDepth 100000
set_option maxHeartbeats 4000000
set_option linter.all false
open And renaming intro->γj
open Classical renaming byContradiction->δ4
open Go.Vi.AV.os renaming injEq->εP
open Go.Vi.AV.sc renaming injEq->γ4
open Go.Vi.SV renaming row->γc,agg->γK,sb->γG,si->γb,ptr->γV,il->γy
open Int renaming mul_nonneg->γD,mul_pos->εB,le_of_lt->γm,natAbs_mul->εx,toNat_of_nonneg->εC,toNat_natCast->γq
open List renaming eq_nil_of_length_eq_zero->Γ,length->γp,length_take->Ω,take_of_length_le->γl,foldr_cons->ε6,foldr->ζ2,length_cons->γz,map_cons->θ,set_eq_take_append_cons_drop->εL,getElem_cons_drop->ζA,take_append_drop->Ψ,drop_drop->γW,range->χ,cons_append->γE,nodup_append->γt,ext_getElem->δn,length_map->γC,mem_map->γf,getElem_of_mem->δf,mem_append->π,length_append->ν,map_map->δr,map_congr_left->γX,map_nil->γo,nil_append->δk,take_succ_eq_append_getElem->γY,getElem_drop->δ9,append_assoc->γg,pairwise_append->γZ,perm_middle->ζy,length_set->Ξ,drop->γ8,mem_of_mem_drop->γH,mem_of_mem_take->γn,drop_eq_getElem_cons->γ9,length_drop->γJ,getElem_take->εR,append_cancel_right->δK,sublist_append_right->ζh,set_append_right->εr
open List.Perm renaming refl->ζJ,append->ζW
open List.cons renaming injEq->τ
open Option.some renaming injEq->γ
open Prod renaming ext->εd
open Rat renaming mkRat_eq_div->δM,mkRat_self->δ3,intCast_natCast->ε5,not_le->ζR,mul_nonneg->δF
namespace Go.Vi
open Go.Proofs.YtjcmncmajmoiiaaGreat.Ir
open Go.Proofs
theorem acy {l:List Int} (h:l.length=0\/bj l (l.length - 1) 0≠0):fN l:=by
 rcases h with h|h;·rw[Γ h];trivial
 ·by_cases b:l.length=0;·rw[Γ b];trivial
  ·have c:=D5 (a:=l) (n:=l.length - 1) (by omega);grind[Jh]
def sP (a:List Int):Bool:=decide (a.length=0)||decide (bj a (a.length - 1) 0≠0)
theorem uA {a:List Int}:sP a=true↔fN a:=by
 unfold sP;rw[Bool.or_eq_true,decide_eq_true_eq,decide_eq_true_eq];constructor;·exact acy
 ·intro h;by_cases e:a.length=0;·exact .inl e
  ·right;have b:=D5 (a:=a) (n:=a.length - 1) (by omega);rw[show a.length - 1+1=a.length by omega,List.take_length] at b;have:∀{l:List Int} {x:Int},fN (l++[x])->x≠0:=by
    intro l x;induction l with
    |nil=>intro h;exact h.1 rfl;|cons d l c=>intro h;exact c h.2
   grind
theorem Sm (p q:Rat):(if(!(decide (p<0)==decide (q<0)))=true then -((p.num.natAbs:Int)*(q.num.natAbs:Int)) else(p.num.natAbs:Int)*(q.num.natAbs:Int))=p.num*q.num:=by
 have a:=vT p;have b:=vT q;grind
theorem Sr (p q:Rat):fO (!(decide (p<0)==decide (q<0))) ((p.num.natAbs:Int)*(q.num.natAbs:Int)) ((p.den:Int)*(q.den:Int))=p*q:=by
 unfold fO;rw[Sm,show((p.den:Int)*(q.den:Int)).toNat=p.den*q.den by omega,δM];have a:(p.num:Rat) / (p.den:Rat)=p:=by rw[<-δM,δ3]
 have b:(q.num:Rat) / (q.den:Rat)=q:=by rw[<-δM,δ3]
 grind
theorem Ss {p q:Rat} (a:q≠0):fO (!(decide (p<0)==decide (q<0))) ((p.num.natAbs:Int)*(q.den:Int)) ((p.den:Int)*(q.num.natAbs:Int))=p / q:=by
 unfold fO;rw[show((p.den:Int)*(q.num.natAbs:Int)).toNat=p.den*q.num.natAbs by omega,δM];have k:(p.num:Rat) / (p.den:Rat)=p:=by rw[<-δM,δ3]
 have d:(q.num:Rat) / (q.den:Rat)=q:=by rw[<-δM,δ3]
 have m:(p.den:Rat)≠0:=by have:=p.den_nz;simp_all
 have o:(q.den:Rat)≠0:=by grind
 have e:=vT p;have g:=vT q;have n:(q.num:Rat)≠0:=λh=>a (by grind);rw[Rat.natCast_mul];conv=>rhs;rw[<-k,<-d]
 have f:((p.num.natAbs:Int):Rat)=(p.num.natAbs:Rat):=ε5 _;have c:((q.num.natAbs:Int):Rat)=(q.num.natAbs:Rat):=ε5 _;have i:((q.den:Int):Rat)=(q.den:Rat):=ε5 _;have j:(p.num:Rat)=if decide (p<0)=true then -(p.num.natAbs:Rat) else(p.num.natAbs:Rat):=by
  rw[<-f];conv=>lhs;rw[e]
  split<;>grind
 have b:(q.num:Rat)=if decide (q<0)=true then -(q.num.natAbs:Rat) else(q.num.natAbs:Rat):=by
  rw[<-c];conv=>lhs;rw[g]
  split<;>grind
 have l:((if(!(decide (p<0)==decide (q<0)))=true then -((p.num.natAbs:Int)*(q.den:Int)) else(p.num.natAbs:Int)*(q.den:Int):Int):Rat)=if(!(decide (p<0)==decide (q<0)))=true then -((p.num.natAbs:Rat)*(q.den:Rat)) else(p.num.natAbs:Rat)*(q.den:Rat):=by
  split<;>grind
 grind
def En:bM:=⟨219,bO×bO,.cons (eG sF) (.one (eG sF)),λa=>dc a.1/\dc a.2,λa=>qN (ck a.1*ck a.2)⟩
theorem h410:Holds Tryz.prog En:=by
 refine cJ (L:=[yb,yd]) En lk (by grind[h153,h126]) ?_;rintro⟨x,y⟩ ⟨⟨p,i,n,f,M⟩,⟨q,j,o,l,G⟩⟩;simp only at n o;subst n o;refine bQ (let f:=γc;let c:=(bu p).snd.fst;let k:=(bu q).snd.fst;let g:=(bu p).snd.snd;let h:=(bu q).snd.snd;let m:=cF (bk c*bk k);let b:=cF (bk g*bk h);let d:=bu (fO (!(bu p).fst==(bu q).fst) (bk m) (bk b));let a:=bn.i .u32;let e:=bu (ck (bu p)*ck (bu q));((bA c/\bA k)/\γp c<=100000000000/\γp k<=100000000000)/\((bA g/\bA h)/\γp g<=100000000000/\γp h<=100000000000)/\((bA m/\bA b)/\(m.length<=1000000000/\b.length<=1000000000)/\(0:Int)<bk b)/\(γK [γG d.fst,f a d.snd.fst,f a d.snd.snd]).same (γK [γG e.fst,f a e.snd.fst,f a e.snd.snd])) (by kernel_rfl) ?_;conv=>zeta
 obtain⟨t,⟨P,_,s⟩,⟨E,_,v⟩⟩:=nJ p;obtain⟨u,⟨J,_,z⟩,⟨I,_,A⟩⟩:=nJ q;obtain⟨D,F⟩:=qQ f;obtain⟨O,N⟩:=qQ l;have C:=p.den_pos;have K:=q.den_pos;rw[s,v,z,A,t,u,fe,fe];have r:0<=(p.num.natAbs:Int)*(q.num.natAbs:Int):=γD (by omega) (by omega);have w:0<(p.den:Int)*(q.den:Int):=εB (by omega) (by omega);have H:=mY r (qR (by omega) f.1 l.1);have B:=mY (γm w) (qR (by omega) f.2 l.2);grind[gl,Ej,Sr]
def Eo:bM:=⟨231,bO×bO,.cons (eG sF) (.one (eG sF)),λa=>(dc a.1/\dc a.2)/\ck a.2≠0,λa=> .bH [qN (ck a.1 / ck a.2),.si .i64 0]⟩
theorem h416:Holds Tryz.prog Eo:=by
 refine cJ (L:=[yb,Au]) Eo lk (by grind[h153,h151]) ?_;rintro⟨x,y⟩ ⟨⟨⟨p,i,v,f,X⟩,⟨q,j,u,m,Q⟩⟩,a⟩;simp only at v u a;subst v u;refine bQ (let a:=γc;let g:=(bu p).snd.fst;let d:=(bu q).snd.snd;let r:=(bu p).snd.snd;let e:=(bu q).snd.fst;let k:=cF (bk g*bk d);let c:=cF (bk r*bk e);let l:=bu (fO (!(bu p).fst==(bu q).fst) (bk k) (bk c));let b:=bn.i .u32;let t:=[γb .i64 0];let o:=bu (ck (bu p) / ck (bu q));((bA g/\bA d)/\γp g<=100000000000/\γp d<=100000000000)/\((bA r/\bA e)/\γp r<=100000000000/\γp e<=100000000000)/\((bA k/\bA c)/\(k.length<=1000000000/\c.length<=1000000000)/\(0:Int)<bk c)/\(SV.bH (γK [γG l.fst,a b l.snd.fst,a b l.snd.snd]::t)).same (SV.bH (γK [γG o.fst,a b o.snd.fst,a b o.snd.snd]::t))) (by kernel_rfl) ?_;conv=>zeta
 rw[fe] at a;obtain⟨E,⟨C,_,M⟩,⟨K,_,I⟩⟩:=nJ p;obtain⟨B,⟨z,_,J⟩,⟨F,_,A⟩⟩:=nJ q;obtain⟨V,O⟩:=qQ f;obtain⟨S,W⟩:=qQ m;have T:=p.den_pos;have Z:=q.den_pos;have R:q.num≠0:=λh=>a (Rat.num_eq_zero.1 h);rw[M,I,J,A,E,B,fe,fe];have s:0<=(p.num.natAbs:Int)*(q.den:Int):=γD (by omega) (by omega);have n:0<(p.den:Int)*(q.num.natAbs:Int):=εB (by omega) (by omega);have Y:=mY s (qR (by omega) f.1 m.2);have N:=mY (γm n) (qR (by omega) f.2 m.1);obtain⟨G,H,P⟩:=gl s;obtain⟨w,D,U⟩:=gl (γm n);rw[G,w,Ss a];refine⟨⟨⟨C,F⟩,?_,?_⟩,⟨⟨K,z⟩,?_,?_⟩,⟨⟨H,D⟩,⟨?_,?_⟩,n⟩,rfl⟩<;>omega
def JJ:bM:=⟨196,List Int,.one (dY (.i .u32)),λa=>bA (show List Int from a)/\(show List Int from a).length<=1000000000,λa=> .sb (sP a)⟩
theorem h414:Holds Tryz.prog JJ:=by
 refine cJ (L:=[rJ]) JJ lk (by grind[h152]) ?_;rintro(a:List Int) h;refine bQ (a.length<=1000000000000/\(γG (decide ((↑(bI a).length:Int)=(↑a.length:Int)))).same (γG (sP a))) (by kernel_rfl) ?_;simp only[vcs];obtain⟨f,d⟩:bA a/\a.length<=1000000000:=h;refine⟨by omega,?_⟩;cases c:sP a with
 |true=>
  grind[qH,Ad,uA];|false=>
  refine decide_eq_false λb=>?_;have e:bI a=a:=by
   unfold bI at b ⊢;rw[Ω] at b;exact γl (by omega)
  grind[rK,uA]
def JK:bM:=⟨197,bO,.one (eG sF),λx=>x.2.1.length<=1000000000,λx=> .agg [.sb x.1,.sb (decide (x.2.1=[]))]⟩
theorem h415:Holds Tryz.prog JK:=by
 refine cJ (L:=[]) JK lk (by simp) ?_;rintro⟨s,n,d⟩ h;refine bQ (let a:=γG;(γK [a s,a (decide ((↑n.length:Int)=(0:Int)))]).same (γK [a s,a (decide (n=[]))])) (by kernel_rfl) ?_;have e:decide ((n.length:Int)=0)=decide (n=[]):=by
  simp_all
 rw[e];rfl
def yf:bM:=⟨160,bO,.one (eG sF),λx=>(bA x.2.1/\bA x.2.2)/\x.2.1.length<=1000000/\x.2.2.length<=1000000,λx=> .sb (okF x)⟩
theorem h407:Holds Tryz.prog yf:=by
 refine cJ (L:=[JJ,JK,Eg,yc,x6]) yf lk (by grind[h414,h415,h165g,h128,h132]) ?_;rintro⟨s,n,d⟩ ⟨⟨m,f⟩,j,k⟩;refine bQ (let a:=SV.bl false;let b:=(0:Int);let c:=(1:Int);let l:=γG (okF (s,n,d));let w:=decide ((↑d.length:Int)=b);let x:=s==true&&(decide (n=[])==true&&true);let p:=cF (eh (bk n) (bk d));let t:=cF c;(bA n/\n.length<=1000000000)/\((!sP n)=true->(a).same l)/\((!sP n)=false->(bA d/\d.length<=1000000000)/\((!sP d)=true->(a).same l)/\((!sP d)=false->(w=true->(a).same l)/\(w=false->n.length<=1000000000/\(x=true->(a).same l)/\(x=false->((bA n/\bA d)/\n.length<=1000000000/\d.length<=1000000000)/\(b<=c/\c<(18446744073709551616:Int))/\((bA p/\bA t)/\p.length<=1000000000000/\t.length<=1000000000000)/\(γG (decide (mq (bk p) (bk t)=b))).same l))))) (by kernel_rfl) ?_;simp only[vcs];have m:bA n:=m;have f:bA d:=f;have j:n.length<=1000000:=j;have k:d.length<=1000000:=k;have c:¬(fN n/\fN d/\d≠[])->false=okF (s,n,d):=λh=>by
  grind[acw]
 have e:∀{a:List Int},((a.length:Nat):Int)=0->a=[]:=λh=>Γ (by omega);have b:∀{a:List Int},¬((a.length:Nat):Int)=0->a≠[]:=λh i=>h (by rw[i];rfl);refine⟨⟨m,by omega⟩,λu=>c λh=>?_,λu=>⟨⟨f,by omega⟩,λi=>c λh=>?_,λi=>⟨λo=>c λh=>h.2.2 (e o),λo=>⟨by omega,λC=>?_,λC=>?_⟩⟩⟩⟩;·grind[uA]
 ·grind[uA]
 all_goals
  have E:=okF_eq (s:=s) m f (uA.1 u) (uA.1 i) (b o);have D:=JI f (uA.1 i) (b o);have J:=@Sl (bk n) (bk d) D;obtain⟨H,v,A⟩:=gl (show 0<=eh (bk n) (bk d) by omega);obtain⟨B,G,I⟩:=gl (show(0:Int)<=1 by omega);have y:eh (bk n) (bk d)<=bk d:=by
   unfold eh;have:=Nat.gcd_le_right (bk n).toNat (show 0<(bk d).toNat by omega);omega
  rw[E]
 ·simp_all
 ·have F:=JH v f A (by omega);refine⟨⟨⟨m,f⟩,by omega,by omega⟩,by omega,⟨⟨v,G⟩,by omega,by decide⟩,?_⟩;rw[H,B];have r:(mq (eh (bk n) (bk d)) 1=0)=(eh (bk n) (bk d)=1):=by
   grind[mq]
  simp only[r];by_cases g:n=[]
  ·rw[if_pos g];have z:s=false:=by
    simp_all
   have q:eh (bk n) (bk d)=bk d:=by
    rw[g];unfold eh;simp[bk];omega
   rw[q,z,Bool.not_false,Bool.true_and,decide_eq_decide];constructor
   ·intro h;rw[<-Ad f (uA.1 i),h];rfl
   ·intro h;rw[h];rfl
  ·rw[if_neg g]
theorem Ax {p q:Rat} {i j:Nat} (b:Sz i p) (a:Sz j q):Sz (i+j) (p*q):=by
 rw[<-Sr];unfold fO;rw[Sm];have c:=p.den_pos;have d:=q.den_pos;have e:0<(p.den:Int)*(q.den:Int):=εB (by omega) (by omega);refine Ar (by omega) ?_ ?_
 ·rw[εx,Int.natCast_mul];exact qR (by omega) b.1 a.1
 ·rw[εC (by omega)];exact qR (by omega) b.2 a.2
theorem JL {p q:Rat} {i j:Nat} (c:Sz i p) (b:Sz j q) (d:q≠0):Sz (i+j) (p / q):=by
 rw[<-Ss d];unfold fO;have e:=p.den_pos;have f:=q.den_pos;have l:q.num≠0:=λh=>d (Rat.num_eq_zero.1 h);have k:0<(p.den:Int)*(q.num.natAbs:Int):=εB (by omega) (by omega);have g:=qR (a:=(p.num.natAbs:Int)) (by omega) c.1 b.2;refine Ar (by omega) ?_ ?_;·grind
 ·rw[εC (by omega)];exact qR (by omega) c.2 b.1
theorem acz {p q:Rat}:0<jf p q↔q<p:=by
 grind[jf]
theorem acA {p q:Rat}:jf p q=0↔p=q:=by
 grind[jf]
def wed (c:Nat->Rat):(List Nat->Rat)->List Nat->Rat
 |_,[]=>0
 |f,i::R=>c i*f R - wed c (λl=>f (i::l)) R
theorem JM {c:Nat->Rat}:∀{R:List Nat},wed c (λ_=>0) R=0
 |[]=>rfl
 |i::R=>by simp only[wed,JM];grind
theorem JO {c:Nat->Rat} {p q:Rat}:∀{R:List Nat} {f g:List Nat->Rat},wed c (λl=>p*f l+q*g l) R=p*wed c f R+q*wed c g R
 |[],_,_=>by grind[wed];|i::R,f,g=>by
  simp only[wed,@JO c p q R];grind
theorem Sv {c d:Nat->Rat} {p q:Rat}:∀{R:List Nat} {f:List Nat->Rat},wed (λi=>p*c i+q*d i) f R=p*wed c f R+q*wed d f R
 |[],_=>by grind[wed];|i::R,f=>by
  simp only[wed,@Sv c d p q R];grind
theorem SA {c:Nat->Rat} {p:Rat} {R:List Nat} {f g:List Nat->Rat}:wed c (λl=>p*f l - g l) R=p*wed c f R - wed c g R:=by
 have:=@JO c p (-1) R f g;grind
theorem JP {a b:Nat->Rat}:∀{R:List Nat} {f:List Nat->Rat},wed a (wed b f) R= - wed b (wed a f) R
 |[],_=>by grind[wed];|i::R,f=>by
  have d:wed a (λl=>wed b f (i::l)) R=b i*wed a f R - wed a (wed b λl=>f (i::l)) R:=SA;have c:wed b (λl=>wed a f (i::l)) R=a i*wed b f R - wed b (wed a λl=>f (i::l)) R:=SA;have h:=@JP a b R λl=>f (i::l);grind[wed]
theorem acB {a:Nat->Rat} {f:List Nat->Rat}:wed a (wed a f)=λ_=>0:=by
 grind[JP]
def yg (R:List Nat):Rat:=if R=[] then 1 else 0
def jN (cs:List (Nat->Rat)):List Nat->Rat:=cs.foldr wed yg
theorem SB {c:Nat->Rat} {cs:List (Nat->Rat)}:jN (c::cs)=wed c (jN cs):=rfl
theorem SC {a:Nat->Rat}:∀{cs:List (Nat->Rat)} {f:List Nat->Rat},wed a (cs.foldr wed (wed a f))=λ_=>0
 |[],f=>acB
 |c::cs,f=>by
  funext R;simp only[ε6];rw[JP,@SC a cs f,JM];rfl
theorem fold_zero:∀{cs:List (Nat->Rat)},cs.foldr wed (λ_=>0)=λ_=>0
 |[]=>rfl
 |c::cs=>by
  rw[ε6,fold_zero];grind[JM]
theorem SD {a:Nat->Rat} {p m q:List (Nat->Rat)}:jN (p++a::(m++a::q))=λ_=>0:=by
 grind[jN,SC,fold_zero]
theorem SE {p q:Rat}:∀{cs:List (Nat->Rat)} {f g:List Nat->Rat} {R:List Nat},cs.foldr wed (λl=>p*f l+q*g l) R=p*cs.foldr wed f R+q*cs.foldr wed g R
 |[],_,_,_=>rfl
 |c::cs,f,g,R=>by
  simp only[ε6];rw[<-JO];congr 1;funext l;exact SE
theorem SG {c d:Nat->Rat} {p q:Rat} {a b:List (Nat->Rat)} {R:List Nat}:jN (a++(λi=>p*c i+q*d i)::b) R=p*jN (a++c::b) R+q*jN (a++d::b) R:=by
 unfold jN;simp only[List.foldr_append,ε6];rw[<-SE];have e:wed (λi=>p*c i+q*d i) (ζ2 wed yg b)=λl=>p*wed c (ζ2 wed yg b) l+q*wed d (ζ2 wed yg b) l:=by
  grind[Sv]
 rw[e]
def eW (M:Nat) (q:Rat):Prop:=∃z:Int,q=(z:Rat)/\z.natAbs<=M
theorem SH {c:Nat->Rat} {M K:Nat}:∀{R:List Nat} {f:List Nat->Rat},(∀i∈R,eW M (c i))->(∀l,l.length+1=R.length->(∀i∈l,i∈R)->eW K (f l))->eW (R.length*(M*K)) (wed c f R)
 |[],_,_,_=>⟨0,by simp[wed],by simp⟩
 |i::R,f,e,g=>by
  simp only[wed,γz];obtain⟨y,q,h⟩:=@SH c M K R (λl=>f (i::l)) (λj a=>e j (by simp[a])) λl n p=>g _ (by simp_all) λj a=>by
   grind
  obtain⟨u,o,b⟩:=e i (by simp);obtain⟨v,k,d⟩:=g R (by simp) λj a=>by simp[a]
  refine⟨u*v - y,?_,?_⟩;·simp_all
  ·have m:(u*v).natAbs<=M*K:=by
    rw[εx];exact Nat.mul_le_mul b d
   grind
def nK (M:Nat):Nat->Nat
 |0=>1
 |n+1=>(n+1)*(M*nK M n)
theorem Ep {M:Nat}:∀{cs:List (Nat->Rat)} {R:List Nat},cs.length=R.length->(∀c∈cs,∀i∈R,eW M (c i))->eW (nK M R.length) (jN cs R)
 |[],R,b,_=>by
  have:R=[]:=Γ (by simp_all);subst this;exact⟨1,by simp[jN,yg],by simp[nK]⟩;|c::cs,R,b,e=>by
  rw[SB];cases R with
  |nil=>simp at b;|cons i R=>
   simp only[γz,nK];refine SH (e c (by simp)) λl a g=>?_;simp only[γz] at b a;rw[show R.length=l.length by omega];exact Ep (by omega) λd f j h=>e d (by simp[f]) j (g j h)
def yh (k:Nat):Nat->Rat:=λi=>if i=k then 1 else 0
theorem SI {c:Nat->Rat}:∀{R:List Nat} {f:List Nat->Rat},(∀i∈R,c i=0)->wed c f R=0
 |[],_,_=>rfl
 |i::R,f,h=>by
  simp only[wed];rw[h i (by simp),SI λj a=>h j (by simp[a])];grind
theorem SJ:∀{R:List Nat},R.Nodup->jN (R.map yh) R=1
 |[],_=>by simp[jN,yg];|i::R,h=>by
  rw[List.nodup_cons] at h;rw[θ,SB];simp only[wed];rw[SI (c:=yh i) (R:=R) λj a=>by
   unfold yh;grind];rw[SJ h.2];unfold yh;grind
def cy (n:Nat) (f:Nat->Rat):Rat:=match n with
 |0=>0
 |n+1=>cy n f+f n
theorem dZ:∀{n:Nat} {f g:Nat->Rat},(∀i,i<n->f i=g i)->cy n f=cy n g
 |0,_,_,_=>rfl
 |n+1,f,g,h=>by simp only[cy];rw[dZ λi a=>h i (by omega),h n (by omega)]
theorem Az:∀{n:Nat} {f g:Nat->Rat},cy n (λi=>f i+g i)=cy n f+cy n g
 |0,_,_=>by grind[cy];|n+1,f,g=>by simp only[cy];rw[Az];grind
theorem AA {c:Rat}:∀{n:Nat} {f:Nat->Rat},cy n (λi=>c*f i)=c*cy n f
 |0,_=>by grind[cy];|n+1,f=>by simp only[cy];rw[AA];grind
theorem kN:∀{n:Nat},cy n (λ_=>0)=0
 |0=>rfl
 |n+1=>by simp only[cy];rw[kN];grind
theorem vU {k:Nat} {x:Rat}:∀{n:Nat},cy n (λi=>if i=k then x else 0)=if k<n then x else 0
 |0=>by simp[cy];|n+1=>by
  simp only[cy];rw[vU];grind
theorem Es {n k:Nat} {f:Nat->Rat} (h:k<n):cy n f=f k+cy n λi=>if i=k then 0 else f i:=by
 have a:=@vU k (f k) n;rw[if_pos h] at a;rw[<-a,<-Az];grind[dZ]
theorem SK {a b:List (Nat->Rat)} {R:List Nat} {y:Nat->Rat} {T:Nat->Nat->Rat}:∀{n:Nat},jN (a++(λi=>cy n λk=>y k*T k i)::b) R=cy n λk=>y k*jN (a++T k::b) R
 |0=>by
  have e:(λi:Nat=>cy 0 λk=>y k*T k i)=λi=>(0:Rat)*(λ_=>0) i+0*(λ_=>0) i:=by grind[cy]
  rw[e,SG];grind[cy];|n+1=>by
  have e:(λi:Nat=>cy (n+1) λk=>y k*T k i)=λi=>(1:Rat)*(λi=>cy n λk=>y k*T k i) i+y n*T n i:=by
   grind[cy]
  rw[e,SG,SK];grind[cy]
theorem acC {C:List (Nat->Rat)} {R:List Nat} {y:Nat->Rat} {r:Nat} (f:r<C.length):jN (C.set r (λi=>cy C.length λk=>y k*(C.getD k (λ_=>0)) i)) R=y r*jN C R:=by
 have a:∀c:Nat->Rat,C.set r c=C.take r++c::C.drop (r+1):=λc=>by rw[εL,if_pos f]
 rw[a,SK,Es f];have m:∀k,k<C.length->(if k=r then(0:Rat) else y k*jN (C.take r++C.getD k (λ_=>0)::C.drop (r+1)) R)=0:=by
  intro k g;split;·rfl
  ·rename_i e;have o:jN (C.take r++C.getD k (λ_=>0)::C.drop (r+1)) R=0:=by
    have n:C.getD k (λ_=>0)=C[k]:=by simp_all
    rw[n];rcases Nat.lt_or_gt_of_ne e with h|h
    ·have j:C.take r=C.take k++C[k]::(C.drop (k+1)).take (r - (k+1)):=by
      have b:C[k]::C.drop (k+1)=C.drop k:=ζA g;obtain⟨d,rfl⟩:∃d,r=k+(d+1):=⟨r - (k+1),by omega⟩;rw[List.take_add,<-b,List.take_succ_cons,show k+(d+1) - (k+1)=d by omega]
     grind[SD]
    ·have j:C.drop (r+1)=(C.drop (r+1)).take (k - (r+1))++C[k]::C.drop (k+1):=by
      have b:C[k]::C.drop (k+1)=C.drop k:=ζA g;rw[b];have l:=Ψ (k - (r+1)) (C.drop (r+1));rw[γW,show r+1+(k - (r+1))=k by omega] at l;exact l.symm
     rw[j,SD]
   simp_all
 rw[dZ m,kN];have b:C.take r++C.getD r (λ_=>0)::C.drop (r+1)=C:=by
  simp_all
 rw[b];grind
structure Tb where
 cj:List (List Rat)
 bound:List Rat
 cost:List Rat
 value:Rat
 basic:List Int
 free:List Int
namespace Tb
def cf (t:Tb) (i j:Nat):Rat:=bj (bj t.cj i []) j 0
def bd (t:Tb) (i:Nat):Rat:=bj t.bound i 0
def cs (t:Tb) (j:Nat):Rat:=bj t.cost j 0
def bv (t:Tb) (i:Nat):Int:=bj t.basic i 0
def fv (t:Tb) (j:Nat):Int:=bj t.free j 0
structure WF (n m:Nat) (t:Tb):Prop where
 cj:t.cj.length=m
 row:∀i,i<m->(bj t.cj i []).length=n
 bound:t.bound.length=m
 cost:t.cost.length=n
 basic:t.basic.length=m
 free:t.free.length=n
def holds (n m:Nat) (t:Tb) (x:Int->Rat) (z:Rat):Prop:=
 (∀i,i<m->x (t.bv i)+cy n (λj=>t.cf i j*x (t.fv j))=t.bd i)/\z=t.value+cy n λj=>t.cs j*x (t.fv j)
end Tb
def kn (l:List Rat) (c:Nat) (p:List Rat):List Rat:=(χ l.length).map λj=>if j=c then -(bj l c 0*bj p j 0) else bj l j 0 - bj l c 0*bj p j 0
def kO (l:List Rat) (c:Nat):List Rat:=(χ l.length).map λj=>if j=c then 1 / bj l c 0 else bj l j 0*(1 / bj l c 0)
def fQ (t:Tb) (r c:Nat):Tb where
 cj:=(χ t.cj.length).map λi=>if i=r then kO (bj t.cj r []) c else kn (bj t.cj i []) c (kO (bj t.cj r []) c);bound:=(χ t.bound.length).map λi=>if i=r then t.bd r*(1 / t.cf r c) else t.bd i - t.cf i c*(t.bd r*(1 / t.cf r c));cost:=kn t.cost c (kO (bj t.cj r []) c);value:=t.value+t.cs c*(t.bd r*(1 / t.cf r c));basic:=t.basic.set r (t.fv c);free:=t.free.set c (t.bv r)
theorem qS {a:Type} {f:Nat->a} {n i:Nat} {d:a} (h:i<n):bj ((χ n).map f) i d=f i:=by
 grind[cO]
theorem sQ {a:Type} {l:List a} {r i:Nat} {x d:a} (h:r<l.length):bj (l.set r x) i d=if i=r then x else bj l i d:=by
 unfold bj;grind
section
variable {n m:Nat} {t:Tb} {r c:Nat}
theorem SL {l:List Rat}:(kO l c).length=l.length:=by simp[kO]
theorem Et {l p:List Rat}:(kn l c p).length=l.length:=by simp[kn]
theorem JQ {l:List Rat} {j:Nat} (h:j<l.length):bj (kO l c) j 0=if j=c then 1 / bj l c 0 else bj l j 0*(1 / bj l c 0):=qS h
theorem Eu {l p:List Rat} {j:Nat} (h:j<l.length):bj (kn l c p) j 0=if j=c then -(bj l c 0*bj p j 0) else bj l j 0 - bj l c 0*bj p j 0:=qS h
theorem SN (h:t.WF n m):(fQ t r c).WF n m where
 cj:=by simp[fQ,h.cj]
 row i a:=by
  simp only[fQ];rw[qS (by rw[h.cj];exact a)];split;·rename_i e;subst e;rw[SL,h.row _ a]
  ·rw[Et,h.row _ a]
 bound:=by simp[fQ,h.bound]
 cost:=by simp only[fQ];rw[Et,h.cost]
 basic:=by simp[fQ,h.basic]
 free:=by simp[fQ,h.free]
theorem AB (h:t.WF n m) (b:r<m) (e:c<n) {i j:Nat} (d:i<m) (a:j<n):(fQ t r c).cf i j=
  if i=r then(if j=c then 1 / t.cf r c else t.cf r j*(1 / t.cf r c)) else if j=c then -(t.cf i c*(1 / t.cf r c)) else t.cf i j - t.cf i c*(t.cf r j*(1 / t.cf r c)):=by
 unfold Tb.cf;simp only[fQ];rw[qS (by rw[h.cj];exact d)];split;·rw[JQ (by rw[h.row _ b];exact a)]
 ·rw[Eu (by rw[h.row _ d];exact a)];rw[JQ (by rw[h.row _ b];exact a)];simp_all
theorem Ew (h:t.WF n m) {i:Nat} (a:i<m):(fQ t r c).bd i=if i=r then t.bd r*(1 / t.cf r c) else t.bd i - t.cf i c*(t.bd r*(1 / t.cf r c)):=by
 show bj _ i 0=_;simp only[fQ];rw[qS (by rw[h.bound];exact a)]
theorem SO (h:t.WF n m) (b:r<m) {j:Nat} (a:j<n):(fQ t r c).cs j=if j=c then -(t.cs c*(1 / t.cf r c)) else t.cs j - t.cs c*(t.cf r j*(1 / t.cf r c)):=by
 show bj _ j 0=_;simp only[fQ];rw[Eu (by rw[h.cost];exact a),JQ (by rw[h.row _ b];exact a)];split;·rfl
 ·rfl
theorem JR (h:t.WF n m) (a:r<m) {i:Nat}:(fQ t r c).bv i=if i=r then t.fv c else t.bv i:=sQ (by rw[h.basic];exact a)
theorem JS (h:t.WF n m) (a:c<n) {j:Nat}:(fQ t r c).fv j=if j=c then t.bv r else t.fv j:=sQ (by rw[h.free];exact a)
theorem piv_holds (h:t.WF n m) (b:r<m) (k:c<n) (K:t.cf r c≠0) {x:Int->Rat} {z:Rat}:(fQ t r c).holds n m x z↔t.holds n m x z:=by
 have d:∀f:Nat->Rat,cy n (λj=>f j*x (t.fv j))=f c*x (t.fv c)+cy n (λj=>if j=c then 0 else f j*x (t.fv j)):=λf=>Es k;have e:∀f:Nat->Rat,cy n (λj=>f j*x ((fQ t r c).fv j))=f c*x (t.bv r)+cy n (λj=>if j=c then 0 else f j*x (t.fv j)):=λf=>by
  rw[Es k,JS h k,if_pos rfl];congr 1;refine dZ λj _=>?_;split;·rfl
  ·rename_i p;rw[JS h k,if_neg p]
 have I:cy n (λj=>if j=c then 0 else(fQ t r c).cf r j*x (t.fv j))=(1 / t.cf r c)*cy n (λj=>if j=c then 0 else t.cf r j*x (t.fv j)):=by
  rw[<-AA];refine dZ λj p=>?_;split;·grind
  ·rename_i l;rw[AB h b k b p,if_pos rfl,if_neg l];grind
 have E:∀f g:Nat->Rat,∀q:Rat,(∀j,j<n->j≠c->g j=f j - q*(t.cf r j*(1 / t.cf r c)))->cy n (λj=>if j=c then 0 else g j*x (t.fv j))=cy n (λj=>if j=c then 0 else f j*x (t.fv j))+(-(q*(1 / t.cf r c)))*cy n (λj=>if j=c then 0 else t.cf r j*x (t.fv j)):=λf g q L=>by
  rw[<-AA,<-Az];refine dZ λj p=>?_;grind
 have J:∀j,j<n->j≠c->(fQ t r c).cs j=t.cs j - t.cs c*(t.cf r j*(1 / t.cf r c)):=λj p l=>by rw[SO h b p,if_neg l]
 have B:∀i,i<m->i≠r->∀j,j<n->j≠c->(fQ t r c).cf i j=t.cf i j - t.cf i c*(t.cf r j*(1 / t.cf r c)):=λi o a j p l=>by rw[AB h b k o p,if_neg a,if_neg l]
 have G:=E t.cs _ _ J;have v:=SO (c:=c) h b k;rw[if_pos rfl] at v;have s:=AB h b k b k;rw[if_pos rfl,if_pos rfl] at s;have w:=Ew (r:=r) (c:=c) h b;rw[if_pos rfl] at w;have u:=JR (c:=c) (i:=r) h b;rw[if_pos rfl] at u;have H:(fQ t r c).value=t.value+t.cs c*(t.bd r*(1 / t.cf r c)):=rfl;unfold Tb.holds;constructor
 ·rintro⟨A,F⟩;have C:=A r b;rw[e,I,s,u,w] at C;refine⟨λi o=>?_,?_⟩
  ·by_cases a:i=r
   ·subst a;rw[d];grind
   ·have D:=A i o;have y:=AB h b k o k;rw[if_neg a,if_pos rfl] at y;rw[e,E _ _ _ (B i o a),JR h b,if_neg a,Ew h o,if_neg a,y] at D;rw[d];grind
  ·rw[e,G,v,H] at F;rw[d];grind
 ·rintro⟨A,F⟩;have C:=A r b;rw[d] at C;refine⟨λi o=>?_,?_⟩
  ·by_cases a:i=r
   ·subst a;rw[e,I,s,u,w];grind
   ·have D:=A i o;have y:=AB h b k o k;rw[if_neg a,if_pos rfl] at y;rw[e,E _ _ _ (B i o a),JR h b,if_neg a,Ew h o,if_neg a,y];rw[d] at D;grind
  ·rw[e,G,v,H];rw[d] at F;grind
end
def nL (f:Int->Rat):List Int->Rat
 |[]=>0
 |x::l=>f x+nL f l
theorem JU {f:Int->Rat}:∀{l k:List Int},nL f (l++k)=nL f l+nL f k
 |[],k=>by grind[nL];|x::l,k=>by simp only[γE,nL,@JU f l k];grind
theorem SQ {f:Int->Rat} {l k:List Int} (h:l.Perm k):nL f l=nL f k:=by
 induction h<;>grind[nL,swap,trans]
theorem SR:∀{n:Nat} {f:Nat->Rat},cy (n+1) f=f 0+cy n λi=>f (i+1)
 |0,f=>by grind[cy];|n+1,f=>by
  rw[cy,SR];grind[cy]
theorem vV {f:Int->Rat}:∀{l:List Int},nL f l=cy l.length λk=>f (bj l k 0)
 |[]=>rfl
 |x::l=>by
  rw[γz,SR,nL,vV];rfl
def jO (n:Nat) (t:Tb) (y:Nat->Rat) (v:Int):Rat:=if v∈t.free then y (t.free.idxOf v) else t.bd (t.basic.idxOf v) - cy n λj=>t.cf (t.basic.idxOf v) j*y j
section
variable {n m:Nat} {t t0:Tb} {r c:Nat}
theorem pV {l:List Int} {i:Nat} (h:l.Nodup) (a:i<l.length):l.idxOf (bj l i 0)=i:=by
 grind[cO]
theorem ou (h:t.WF n m) (c:(t.basic++t.free).Nodup) {y:Nat->Rat} {j:Nat} (a:j<n):jO n t y (t.fv j)=y j:=by
 have b:j<t.free.length:=by rw[h.free];exact a
 unfold jO Tb.fv;rw[if_pos (by grind[cO]),pV (γt.1 c).2.1 b]
theorem SS (h:t.WF n m) (b:(t.basic++t.free).Nodup) {i:Nat} (a:i<m):t.bv i∉t.free:=λc=>by
 have d:i<t.basic.length:=by rw[h.basic];exact a
 grind[Tb.bv,cO]
theorem pg (h:t.WF n m) (a:(t.basic++t.free).Nodup) {y:Nat->Rat} {i:Nat} (c:i<m):jO n t y (t.bv i)=t.bd i - cy n λj=>t.cf i j*y j:=by
 have b:i<t.basic.length:=by rw[h.basic];exact c
 have e:t.basic.idxOf (t.bv i)=i:=pV (γt.1 a).1 b;unfold jO;grind
theorem asg_holds (h:t.WF n m) (a:(t.basic++t.free).Nodup) {y:Nat->Rat}:t.holds n m (jO n t y) (t.value+cy n λj=>t.cs j*y j):=by
 have e:∀f:Nat->Rat,cy n (λj=>f j*jO n t y (t.fv j))=cy n λj=>f j*y j:=λf=>dZ λj c=>by grind[ou]
 refine⟨λi b=>?_,?_⟩
 ·rw[pg h a b,e];grind
 ·rw[e]
def fR (m:Nat) (t0:Tb) (v:Int) (i:Nat):Rat:=if i<m then(if v∈t0.free then t0.cf i (t0.free.idxOf v) else if t0.basic.idxOf v=i then 1 else 0) else 0
def yi (m:Nat) (t0:Tb) (i:Nat):Rat:=if i<m then t0.bd i else 0
def jg (m:Nat) (t0 t:Tb):Rat:=jN (t.basic.map (fR m t0)) (χ m)
structure Run (n m:Nat) (t0 t:Tb):Prop where
 ov:t0.WF n m
 wf:t.WF n m
 nd:(t0.basic++t0.free).Nodup
 perm:(t.basic++t.free).Perm (t0.basic++t0.free)
 nM:∀x z,t.holds n m x z↔t0.holds n m x z
 dt:jg m t0 t≠0
theorem Run.gY (h:Run n m t0 t):(t.basic++t.free).Nodup:=h.perm.symm.nodup h.nd
theorem Run.refl (h:t0.WF n m) (a:(t0.basic++t0.free).Nodup):Run n m t0 t0:=by
 refine⟨h,h,a,ζJ _,λ_ _=>Iff.rfl,?_⟩;have e:t0.basic.map (fR m t0)=(χ m).map yh:=by
  refine δn (by simp[h.basic]) λi g d=>?_;simp only[List.getElem_map,List.getElem_range];have f:i<m:=by simp_all
  have b:t0.basic[i]'(by simp_all)=t0.bv i:=by grind[Tb.bv,cO]
  rw[b];funext k;have c:t0.basic.idxOf (t0.bv i)=i:=pV (γt.1 a).1 (by grind);unfold fR yh;grind
 grind[jg,SJ]
theorem Run.rows (h:Run n m t0 t) {x:Int->Rat} {z:Rat} (l:t.holds n m x z) {i:Nat}:cy m (λk=>fR m t0 (t.bv k) i*x (t.bv k))+cy n (λj=>fR m t0 (t.fv j) i*x (t.fv j))=yi m t0 i:=by
 have b:∀t:Tb,t.WF n m->nL (λv=>fR m t0 v i*x v) (t.basic++t.free)=cy m (λk=>fR m t0 (t.bv k) i*x (t.bv k))+cy n (λj=>fR m t0 (t.fv j) i*x (t.fv j)):=λt f=>by
  rw[JU,vV,vV,f.basic,f.free];rfl
 rw[<-b t h.wf,SQ h.perm,b t0 h.ov];have p:=(h.nM x z).1 l;unfold yi;by_cases a:i<m
 ·rw[if_pos a,<-p.1 i a];congr 1
  ·have e:cy m (λk=>fR m t0 (t0.bv k) i*x (t0.bv k))=cy m λk=>if k=i then x (t0.bv i) else 0:=dZ λk d=>by
    have c:t0.basic.idxOf (t0.bv k)=k:=pV (γt.1 h.nd).1 (by rw[h.ov.basic];exact d);unfold fR;rw[if_pos a,if_neg (SS h.ov h.nd d),c];grind
   rw[e,vU,if_pos a]
  ·refine dZ λj g=>?_;have o:j<t0.free.length:=by rw[h.ov.free];exact g
   unfold fR;rw[if_pos a,if_pos (by grind[Tb.fv,cO])];have c:t0.free.idxOf (t0.fv j)=j:=pV (γt.1 h.nd).2.1 o;rw[c]
 ·rw[if_neg a];have e:∀v,fR m t0 v i=0:=λv=>by simp_all[fR,if_neg]
  simp only[e];grind[kN]
theorem Run.SU (h:Run n m t0 t):yi m t0=λi=>cy m λk=>t.bd k*fR m t0 (t.bv k) i:=by
 funext i;have a:=h.rows (i:=i) (asg_holds h.wf h.gY (y:=λ_=>0));rw[<-a,dZ (n:=n) (g:=λ_=>0) λj c=>by rw[ou h.wf h.gY c];grind,kN,dZ (n:=m) (g:=λk=>t.bd k*fR m t0 (t.bv k) i) λk b=>by
  rw[pg h.wf h.gY b,dZ (g:=λ_=>0) λj _=>by grind,kN];grind];grind
theorem Run.acD (h:Run n m t0 t) {c:Nat} (a:c<n):fR m t0 (t.fv c)=λi=>cy m λk=>t.cf k c*fR m t0 (t.bv k) i:=by
 funext i;have f:=congrFun h.SU i;have b:=h.rows (i:=i) (asg_holds h.wf h.gY (y:=λj=>if j=c then 1 else 0));rw[dZ (n:=n) (g:=λj=>if j=c then fR m t0 (t.fv c) i else 0) λj e=>by
  rw[ou h.wf h.gY e];grind,vU,if_pos a,dZ (n:=m) (g:=λk=>t.bd k*fR m t0 (t.bv k) i+(-1)*(t.cf k c*fR m t0 (t.bv k) i)) λk d=>by
   rw[pg h.wf h.gY d,dZ (g:=λj=>if j=c then t.cf k c else 0) λj _=>by
    grind,vU,if_pos a];grind,Az,AA] at b;grind
theorem getD_map {l:List Int} {f:Int->Nat->Rat} {k:Nat} (h:k<l.length):(l.map f).getD k (λ_=>0)=f (bj l k 0):=by
 grind[cO]
theorem Run.SX (h:Run n m t0 t) {y:Nat->Rat} {r:Nat} (d:r<m):jN ((t.basic.map (fR m t0)).set r λi=>cy m λk=>y k*fR m t0 (t.bv k) i) (χ m)=y r*jg m t0 t:=by
 have b:(t.basic.map (fR m t0)).length=m:=by rw[γC,h.wf.basic]
 have a:=@acC (t.basic.map (fR m t0)) (χ m) y r (by omega);unfold jg;rw[<-a,b];congr 2;funext i;refine dZ λk c=>?_;rw[getD_map (by simp_all)];rfl
theorem Run.SY (h:Run n m t0 t) {r c:Nat} (a:r<m) (b:c<n):jN ((t.basic.map (fR m t0)).set r (fR m t0 (t.fv c))) (χ m)=t.cf r c*jg m t0 t:=by
 rw[h.acD b];exact h.SX (y:=λk=>t.cf k c) a
theorem Run.acE (h:Run n m t0 t) {r:Nat} (a:r<m):jN ((t.basic.map (fR m t0)).set r (yi m t0)) (χ m)=t.bd r*jg m t0 t:=by
 rw[h.SU];exact h.SX (y:=t.bd) a
theorem set_perm {l:List Int} {r:Nat} {x:Int} (a:r<l.length):(l.set r x).Perm (x::(l.take r++l.drop (r+1))):=by
 rw[εL,if_pos a];simp_all
theorem acF {l:List Int} {r:Nat} (a:r<l.length):(l[r]::(l.take r++l.drop (r+1))).Perm l:=by
 have h:=@set_perm l r l[r] a;grind
theorem swap_perm {l k:List Int} {r c:Nat} (a:r<l.length) (b:c<k.length):(l.set r (bj k c 0)++k.set c (bj l r 0)).Perm (l++k):=by
 grind[cO]
theorem Run.piv (h:Run n m t0 t) {r c:Nat} (a:r<m) (b:c<n) (d:t.cf r c≠0):Run n m t0 (fQ t r c) where
 ov:=h.ov;wf:=SN h.wf;nd:=h.nd;perm:=(swap_perm (by rw[h.wf.basic];exact a) (by rw[h.wf.free];exact b)).trans h.perm;nM x z:=(piv_holds h.wf a b d).trans (h.nM x z);dt:=by
  have e:jg m t0 (fQ t r c)=t.cf r c*jg m t0 t:=by
   rw[<-h.SY a b];unfold jg;congr 1;show(t.basic.set r (t.fv c)).map (fR m t0)=_;simp_all
  rw[e];have:=h.dt;grind
theorem Ey {M:Nat} (d:1<=M) (c:∀i j,i<m->j<n->eW M (t0.cf i j)) (a:t0.WF n m) {v:Int} {i:Nat}:eW M (fR m t0 v i):=by
 unfold fR;split
 ·split
  ·rename_i b e;exact c _ _ b (by rw[<-a.free];grind)
  ·split;·exact⟨1,by simp,by omega⟩
   ·exact⟨0,by simp,by simp⟩
 ·exact⟨0,by simp,by simp⟩
theorem mem_set {C:List (Nat->Rat)} {r:Nat} {c d:Nat->Rat} (h:d∈C.set r c):d∈C\/d=c:=List.mem_or_eq_of_mem_set h
theorem Run.acG (h:Run n m t0 t) {M:Nat} (a:1<=M) (c:∀i j,i<m->j<n->eW M (t0.cf i j)):eW (nK M m) (jg m t0 t):=by
 have:=@Ep M (t.basic.map (fR m t0)) (χ m) (by simp[h.wf.basic]) λd b i _=>by
  obtain⟨v,_,rfl⟩:=γf.1 b;exact Ey a c h.ov
 rwa [List.length_range] at this
theorem Run.cfZ (h:Run n m t0 t) {M:Nat} (e:1<=M) (b:∀i j,i<m->j<n->eW M (t0.cf i j)) {r c:Nat} (f:r<m) (g:c<n):eW (nK M m) (t.cf r c*jg m t0 t):=by
 rw[<-h.SY f g];have:=@Ep M ((t.basic.map (fR m t0)).set r (fR m t0 (t.fv c))) (χ m) (by simp[h.wf.basic]) λd a i _=>by
  rcases mem_set a with a|rfl
  ·obtain⟨v,_,rfl⟩:=γf.1 a;exact Ey e b h.ov
  ·exact Ey e b h.ov
 simp_all
theorem Run.bdZ (h:Run n m t0 t) {M:Nat} (b:1<=M) (c:∀i j,i<m->j<n->eW M (t0.cf i j)) (f:∀i,i<m->eW M (t0.bd i)) {r:Nat} (e:r<m):eW (nK M m) (t.bd r*jg m t0 t):=by
 rw[<-h.acE e];have:=@Ep M ((t.basic.map (fR m t0)).set r (yi m t0)) (χ m) (by simp[h.wf.basic]) λd a i g=>by
  rcases mem_set a with a|rfl
  ·obtain⟨v,_,rfl⟩:=γf.1 a;exact Ey b c h.ov
  simp_all[yi]
 simp_all
end
structure qT (n m:Nat) (t:Tb) (r c:Nat):Prop where
 hr:r<m
 hc:c<n
 cost:0<t.cs c
 least:∀j,j<n->0<t.cs j->t.fv c<=t.fv j
 pos:0<t.cf r c
 ratio:∀i,i<m->0<t.cf i c->t.bd r / t.cf r c<t.bd i / t.cf i c\/(t.bd r / t.cf r c=t.bd i / t.cf i c/\t.bv r<=t.bv i)
def ko (m:Nat) (t:Tb):Prop:=∀i,i<m->0<=t.bd i
section
variable {n m:Nat} {t t0:Tb} {r c:Nat}
theorem AE (a b:Rat):a<=b\/b<a:=(Classical.em (a<=b)).imp id ζR.1
theorem div_mul {a b:Rat} (h:0<b):a / b*b=a:=by
 grind
theorem inv_pos {b:Rat} (h:0<b):0<1 / b:=by
 have c:(1 / b)*b=1:=div_mul h;rcases AE (1 / b) 0 with a|a
 ·exfalso;have d:0<=(-(1 / b))*b:=δF (by grind) (by grind);grind
 ·exact a
theorem SZ {a b:Rat} (c:0<=a) (h:0<b):0<=a / b:=by
 grind[δF,inv_pos]
theorem qT.ge (h:qT n m t r c) (a:ko m t):0<=t.bd r / t.cf r c:=SZ (a r h.hr) h.pos
theorem qT.yj (h:qT n m t r c) (k:t.WF n m) (d:ko m t):ko m (fQ t r c):=by
 intro i a;have f:=h.ge d;have e:t.bd r*(1 / t.cf r c)=t.bd r / t.cf r c:=by grind
 rw[Ew k a,e];split;·exact f
 ·rcases AE (t.cf i c) 0 with b|b
  ·have j:0<=(-(t.cf i c))*(t.bd r / t.cf r c):=δF (by grind) f;have:=d i a;grind
  ·have j:t.bd r / t.cf r c<=t.bd i / t.cf i c:=by
    rcases h.ratio i a b with g|g<;>grind
   have g:0<=t.cf i c*(t.bd i / t.cf i c - t.bd r / t.cf r c):=δF (by grind) (by grind);grind[div_mul]
theorem qT.value:(fQ t r c).value=t.value+t.cs c*(t.bd r / t.cf r c):=by
 show t.value+t.cs c*(t.bd r*(1 / t.cf r c))=_;grind
theorem JV {b:Type}:∀(L:List b) (f:Nat->b),(∀k,f k∈L)->∃i j,i<j/\f i=f j
 |[],f,h=>by simp_all;|a::L,f,h=>by
  by_cases c:∃i,f i=a
  ·obtain⟨i,g⟩:=c;by_cases e:∃j,i<j/\f j=a;·grind
   ·obtain⟨x,y,d,l⟩:=JV L (λk=>f (k+i+1)) λk=>by
     grind
    grind
  ·exact JV L f λk=>by
    simp_all
def AG (V:List Int):Nat->List (List Int)
 |0=>[[]]
 |k+1=>(AG V k).flatMap λl=>V.map λv=>v::l
theorem S0 {V:List Int}:∀{l:List Int},(∀v∈l,v∈V)->l∈AG V l.length
 |[],_=>by simp[AG];|x::l,h=>by
  simp only[γz,AG,List.mem_flatMap,γf];exact⟨l,S0 λv a=>h v (by simp[a]),x,h x (by simp),rfl⟩
theorem acJ {l:List Int} {r:Nat} {x v:Int} (a:r<l.length) (b:l.Nodup):v∈l.set r x↔v=x\/(v∈l/\v≠bj l r 0):=by
 grind[set_perm,cO,acF]
theorem S1 {f:Nat->Int} {i:Nat}:∀{d:Nat},∃k,(i<=k/\k<=i+d)/\∀x,i<=x->x<=i+d->f x<=f k
 |0=>⟨i,by omega,λx a b=>by grind⟩
 |d+1=>by
  obtain⟨k,a,b⟩:=@S1 f i d;by_cases h:f k<=f (i+(d+1))
  ·refine⟨i+(d+1),by omega,λx c e=>?_⟩;grind
  ·refine⟨k,by omega,λx c e=>?_⟩;grind
theorem S3:∀{n:Nat} {f:Nat->Rat},0<cy n f->∃j,j<n/\0<f j
 |0,f,h=>by grind[cy];|n+1,f,h=>by
  rcases AE (f n) 0 with a|a
  ·obtain⟨j,c,b⟩:=@S3 n f (by grind[cy]);grind
  grind
theorem yk (h:t.WF n m) {j:Nat} (a:j<n):t.fv j∈t.free:=by
 have b:j<t.free.length:=by rw[h.free];exact a
 grind[Tb.fv,cO]
theorem AH (h:t.WF n m) {j:Nat} (a:j<m):t.bv j∈t.basic:=by
 have b:j<t.basic.length:=by rw[h.basic];exact a
 grind[Tb.bv,cO]
theorem yl (h:t.WF n m) {v:Int} (b:v∈t.free):∃j,j<n/\t.fv j=v:=by
 obtain⟨j,a,rfl⟩:=δf b;exact⟨j,by rw[<-h.free];exact a,by grind[Tb.fv,cO]⟩
theorem ym (h:t.WF n m) {v:Int} (b:v∈t.basic):∃j,j<m/\t.bv j=v:=by
 obtain⟨j,a,rfl⟩:=δf b;exact⟨j,by rw[<-h.basic];exact a,by grind[Tb.bv,cO]⟩
theorem JW (c:(t.basic++t.free).Nodup) {v:Int} (a:v∈t.basic) (b:v∈t.free):False:=(γt.1 c).2.2 _ a _ b rfl
theorem acK (h:t.WF n m) (c:(t.basic++t.free).Nodup) {i j:Nat} (f:i<m) (d:j<m) (e:t.bv i=t.bv j):i=j:=by
 have a:=pV (γt.1 c).1 (show i<t.basic.length by rw[h.basic];exact f);have b:=pV (γt.1 c).1 (show j<t.basic.length by rw[h.basic];exact d);grind[Tb.bv]
theorem acL (h:t.WF n m) (c:(t.basic++t.free).Nodup) {i j:Nat} (f:i<n) (d:j<n) (e:t.fv i=t.fv j):i=j:=by
 have a:=pV (γt.1 c).2.1 (show i<t.free.length by rw[h.free];exact f);have b:=pV (γt.1 c).2.1 (show j<t.free.length by rw[h.free];exact d);grind[Tb.fv]
theorem acM {T:Nat->Tb} {r c:Nat->Nat} (p:∀k,Run n m t0 (T k)) (hF:∀k,ko m (T k)) (B:∀k,qT n m (T k) (r k) (c k)) (hT:∀k,T (k+1)=fQ (T k) (r k) (c k)) {i j:Nat} (b8:i<j) (hb:(T i).basic=(T j).basic) (hf:(T i).free=(T j).free):False:=by
 have b7:(T i).value=(T j).value:=by
  have t:=((p j).nM _ _).2 (((p i).nM _ _).1 (asg_holds (p i).wf (p i).gY (y:=λ_=>0)));have e1:cy n (λk=>(T i).cs k*(λ_=>(0:Rat)) k)=0:=by grind[kN]
  have e2:cy n (λk=>(T j).cs k*jO n (T i) (λ_=>0) ((T j).fv k))=0:=by
   rw[dZ (g:=λ_=>0) λk hk=>by
    have:(T j).fv k=(T i).fv k:=by grind[Tb.fv]
    rw[this,ou (p i).wf (p i).gY hk];grind,kN]
  have K:=t.2;grind
 have L:∀k,(T k).value<=(T (k+1)).value:=λk=>by
  rw[hT k,qT.value];have:=δF (a:=(T k).cs (c k)) (by have:=(B k).cost;grind) ((B k).ge (hF k));grind
 have S:∀d a,(T a).value<=(T (a+d)).value:=λd=>by
  induction d<;>grind
 have H:∀k,i<=k->k<j->(T k).bd (r k)=0:=λk t K=>by
  have a1:=S (k - i) i;have a2:=S (j - (k+1)) (k+1);rw[show i+(k - i)=k by omega] at a1;rw[show k+1+(j - (k+1))=j by omega] at a2;have a3:=L k;rw[hT k] at a2 a3;rw[qT.value] at a2 a3;have h3:=(B k).ge (hF k);have hc:=(B k).cost;have h4:=@div_mul ((T k).bd (r k)) _ (B k).pos;grind[Rat.mul_eq_zero]
 have b6:∀k,i<=k->k<j->∀v,v∈(T k).basic++(T k).free->jO n (T (k+1)) (λ_=>0) v=jO n (T k) (λ_=>0) v:=λk t K v O=>by
  have hw:=(p k).wf;have G:=(p (k+1)).wf;have hx:=((p (k+1)).nM _ _).2 (((p k).nM _ _).1 (asg_holds hw (p k).gY (y:=λ_=>0)));have hz:∀q,q<n->jO n (T k) (λ_=>0) ((T (k+1)).fv q)=0:=λq s=>by
   rw[hT k,JS hw (B k).hc];split
   ·rw[pg hw (p k).gY (B k).hr,H k t K,dZ (g:=λ_=>0) λj _=>by grind,kN];grind
   ·rw[ou hw (p k).gY s]
  have A:v∈(T (k+1)).basic++(T (k+1)).free:=((p (k+1)).perm.trans (p k).perm.symm).mem_iff.2 O;rcases π.1 A with A|A
  ·obtain⟨q,s,rfl⟩:=ym G A;have:=hx.1 q s;rw[dZ (g:=λ_=>0) λj hj=>by simp_all,kN] at this;rw[pg G (p (k+1)).gY s,dZ (g:=λ_=>0) λj _=>by grind,kN];grind
  ·obtain⟨q,s,rfl⟩:=yl G A;rw[hz q s,ou G (p (k+1)).gY s]
 have w:∀a b v,v∈(T a).basic++(T a).free->v∈(T b).basic++(T b).free:=λa b v O=>((p b).perm.trans (p a).perm.symm).mem_iff.2 O;have W:∀d a,i<=a->a+d<=j->∀v,v∈(T a).basic++(T a).free->jO n (T (a+d)) (λ_=>0) v=jO n (T a) (λ_=>0) v:=λd=>by
  induction d<;>grind
 have hA:∀a b,i<=a->a<=j->i<=b->b<=j->∀v,v∈(T a).basic++(T a).free->jO n (T a) (λ_=>0) v=jO n (T b) (λ_=>0) v:=λa b t K h3 h4 v O=>by
  have e1:=W (a - i) i (by omega) (by omega) v (w _ _ v O);have e2:=W (b - i) i (by omega) (by omega) v (w _ _ v O);simp_all
 have P:∀k v,v∈(T (k+1)).basic↔v=(T k).fv (c k)\/(v∈(T k).basic/\v≠(T k).bv (r k)):=λk v=>by
  rw[hT k];exact acJ (by rw[(p k).wf.basic];exact(B k).hr) (γt.1 (p k).gY).1
 have U:∀v a b,i<=a->a<=j->i<=b->b<=j->v∈(T a).basic->v∉(T b).basic->∃k,i<=k/\k<j/\(T k).fv (c k)=v:=λv a b a1 a2 b1 b2 ha a9=>by
  apply δ4;intro Y;have I:∀d x,i<=x->x+d<=j->v∈(T (x+d)).basic->v∈(T x).basic:=λd=>by
   induction d<;>grind
  have t:=I (a - i) i (by omega) (by omega) (by simp_all);rw[hb] at t;exact a9 (I (j - b) b (by omega) (by omega) (by simp_all))
 obtain⟨l,⟨a6,b9⟩,a0⟩:=@S1 (λk=>(T k).fv (c k)) i (j - 1 - i);have J:∀x,i<=x->x<j->(T x).fv (c x)<=(T l).fv (c l):=λx t K=>a0 x t (by omega);have c2:l<j:=by omega
 have a7:(T l).fv (c l)∈(T l).free:=yk (p l).wf (B l).hc;have c0:(T l).fv (c l)∉(T l).basic:=λh=>JW (p l).gY h a7;obtain⟨o,F,Q,hl⟩:∃o,i<=o/\o<j/\(T o).bv (r o)=(T l).fv (c l):=by
  apply δ4;intro Y;have up:∀d x,i<=x->x+d<=j->(T l).fv (c l)∈(T x).basic->(T l).fv (c l)∈(T (x+d)).basic:=λd=>by
   induction d with
   |zero=>intro x _ _ h;exact h;|succ d ih=>
    intro x t K h;exact(P (x+d) _).2 (.inr ⟨ih x t (by omega) h,λe=>Y ⟨x+d,by omega,by omega,e.symm⟩⟩)
  have t:=up (j - (l+1)) (l+1) (by omega) (by omega) ((P l _).2 (.inl rfl));rw[show l+1+(j - (l+1))=j by omega,<-hb] at t;have K:=up (l - i) i (by omega) (by omega) t;simp_all
 have w1:=(p l).wf;have C:=(p o).wf;have n1:=(p l).gY;have E:=(p o).gY;have p1:=B l;have N:=B o;have x1:=(((p l).nM _ _).2 (((p o).nM _ _).1 (asg_holds C E (y:=λq=>if q=c o then 1 else 0)))).2;have x0:=(((p l).nM _ _).2 (((p o).nM _ _).1 (asg_holds C E (y:=λ_=>0)))).2;rw[dZ (f:=λq=>(T o).cs q*(λq=>if q=c o then(1:Rat) else 0) q) (g:=λq=>if q=c o then(T o).cs (c o) else 0) λq _=>by
  by_cases s:q=c o<;>grind,vU,if_pos N.hc] at x1;rw[dZ (f:=λq=>(T o).cs q*(λ_=>(0:Rat)) q) (g:=λ_=>0) λq _=>by grind,kN] at x0;have hd:0<cy n λq=>(T l).cs q*(jO n (T o) (λq=>if q=c o then 1 else 0) ((T l).fv q) - jO n (T o) (λ_=>0) ((T l).fv q)):=by
  rw[dZ (g:=λq=>(T l).cs q*jO n (T o) (λq=>if q=c o then 1 else 0) ((T l).fv q)+(-1)*((T l).cs q*jO n (T o) (λ_=>0) ((T l).fv q))) λq _=>by grind,Az,AA];have:=N.cost;grind
 obtain⟨q,s,u⟩:=S3 hd;have a5:(T l).fv q∈(T l).free:=yk w1 s;have Z:=w l o _ (List.mem_append_right _ a5);rcases π.1 Z with a4|X
 ·obtain⟨D,z,e⟩:=ym C a4;rw[<-e,pg C E z,pg C E z,dZ (f:=λj=>(T o).cf D j*(λq=>if q=c o then(1:Rat) else 0) j) (g:=λj=>if j=c o then(T o).cf D (c o) else 0) (λj _=>by
   by_cases hj:j=c o<;>grind),vU,if_pos N.hc,dZ (f:=λj=>(T o).cf D j*(λ_=>(0:Rat)) j) (g:=λ_=>0) (λj _=>by grind),kN] at u;have M:0<(T l).cs q*(-(T o).cf D (c o)):=by grind
  obtain⟨k3,b3,b5,h3⟩:=U _ o l F (by omega) a6 (by omega) a4 (λh=>JW n1 h a5);have b0:(T l).fv q<=(T l).fv (c l):=by grind
  rcases AE ((T l).cs q) 0 with hs|hs
  ·have a8:0<(T o).cf D (c o):=by
    rcases AE ((T o).cf D (c o)) 0 with h4|h4
    ·exfalso;have:=δF (a:= -(T l).cs q) (b:= -(T o).cf D (c o)) (by grind) (by grind);grind
    ·exact h4
   have b4:(T o).bd D=0:=by
    have V:=hA o l F (by omega) a6 (by omega) ((T l).fv q) Z;rw[ou w1 n1 s,<-e,pg C E z,dZ (g:=λ_=>0) λj _=>by grind,kN] at V;grind
   have c1:=H o F Q;have hz:∀b:Rat,(0:Rat) / b=0:=λb=>by grind
   rcases N.ratio D z a8 with h6|h6;·simp_all
   ·have h7:(T l).fv (c l)<=(T l).fv q:=by omega
    have h8:=acL w1 n1 s p1.hc (by omega);rw[h8] at hs;have:=p1.cost;grind
  ·have h7:=p1.least q s hs;have h8:D=r o:=acK C E z N.hr (by omega);rw[h8] at M;have:=δF (a:=(T l).cs q) (b:=(T o).cf (r o) (c o)) (by grind) (by have:=N.pos;grind);grind
 ·obtain⟨q2,R,e⟩:=yl C X;rw[<-e,ou C E R,ou C E R] at u;by_cases V:q2=c o
  ·rw[if_pos V] at u;have h6:=p1.least q s (by grind);have h7:=J o F Q;rw[V] at e;have h8:(T l).fv (c l)=(T o).fv (c o):=by omega
   exact JW E (AH C N.hr) (by grind)
  ·rw[if_neg V] at u;grind
end
def ei (t:Tb):Nat->Int
 |0=> -1
 |k+1=>if 0<t.cs k/\(ei t k<0\/t.fv k<t.fv (ei t k).toNat) then(k:Int) else ei t k
def dT (t:Tb) (c:Nat):Nat->Int
 |0=> -1
 |k+1=>if t.cf k c<=0 then dT t c k
  else if 0<=dT t c k/\(t.bd (dT t c k).toNat / t.cf (dT t c k).toNat c<t.bd k / t.cf k c\/(t.bd k / t.cf k c=t.bd (dT t c k).toNat / t.cf (dT t c k).toNat c/\t.bv (dT t c k).toNat<t.bv k)) then dT t c k
  else(k:Int)
section
variable {n m:Nat} {t t0:Tb} {r c:Nat}
theorem vW:∀{k:Nat},(ei t k= -1/\∀j,j<k->¬0<t.cs j)\/(∃b:Nat,ei t k=b/\b<k/\0<t.cs b/\∀j,j<k->0<t.cs j->t.fv b<=t.fv j)
 |0=> .inl ⟨rfl,λj h=>by omega⟩
 |k+1=>by
  unfold ei;rcases @vW k with⟨a,c⟩|⟨b,a,c,d,e⟩;·grind
  ·have f:(ei t k).toNat=b:=by omega
   grind
theorem vX {c:Nat}:∀{k:Nat},(dT t c k= -1/\∀j,j<k->t.cf j c<=0)\/(∃b:Nat,dT t c k=b/\b<k/\0<t.cf b c/\∀j,j<k->0<t.cf j c->t.bd b / t.cf b c<t.bd j / t.cf j c\/(t.bd b / t.cf b c=t.bd j / t.cf j c/\t.bv b<=t.bv j))
 |0=> .inl ⟨rfl,λj h=>by omega⟩
 |k+1=>by
  unfold dT;by_cases e:t.cf k c<=0
  ·rw[if_pos e];rcases @vX c k with⟨f,a⟩|⟨b,f,a,o,n⟩<;>grind
  ·rw[if_neg e];have g:0<t.cf k c:=ζR.1 e;rcases @vX c k with⟨f,a⟩|⟨b,f,a,o,n⟩;·grind
   ·have i:(dT t c k).toNat=b:=by omega
    rw[i];by_cases d:0<=dT t c k/\(t.bd b / t.cf b c<t.bd k / t.cf k c\/(t.bd k / t.cf k c=t.bd b / t.cf b c/\t.bv b<t.bv k));·grind
    ·rw[if_neg d];have l:¬t.bd b / t.cf b c<t.bd k / t.cf k c:=λh=>d ⟨by omega,.inl h⟩;have m:t.bd k / t.cf k c=t.bd b / t.cf b c->¬t.bv b<t.bv k:=λh a=>d ⟨by omega,.inr ⟨h,a⟩⟩;refine .inr ⟨k,rfl,by omega,g,λj p q=>?_⟩;grind
end
def stepT (n m:Nat) (t:Tb):Option Tb:=
 if ei t n<0 then none
 else if dT t (ei t n).toNat m<0 then none
 else some (fQ t (dT t (ei t n).toNat m).toNat (ei t n).toNat)
def ff (n m:Nat):Nat->Tb->Bool
 |0,t=>(stepT n m t).isNone
 |k+1,t=>match stepT n m t with
  |none=>true
  |some a=>ff n m k a
def runT (n m:Nat):Nat->Tb->Tb
 |0,t=>t
 |k+1,t=>match stepT n m t with
  |none=>t
  |some a=>runT n m k a
def yn (n m N:Nat) (t:Tb):Nat:=((χ N).filter λk=>!ff n m k t).length
section
variable {n m:Nat} {t t0 t':Tb}
theorem S4 (h:stepT n m t=some t'):∃r c,qT n m t r c/\t'=fQ t r c/\ei t n=(c:Int)/\dT t c m=(r:Int):=by
 unfold stepT at h;split at h;·cases h
 ·rename_i p;split at h;·cases h
  ·rename_i o;injection h with h;rcases @vW t n with⟨b,_⟩|⟨c,b,d,e,k⟩;·omega
   ·have f:(ei t n).toNat=c:=by omega
    rw[f] at h o;rcases @vX t c m with⟨a,_⟩|⟨r,a,i,j,l⟩;·omega
    ·have g:(dT t c m).toNat=r:=by omega
     rw[g] at h;exact⟨r,c,⟨i,d,e,k,j,l⟩,h.symm,b,a⟩
theorem JX (b:Run n m t0 t) (d:ko m t) (h:stepT n m t=some t'):Run n m t0 t'/\ko m t':=by
 obtain⟨r,c,a,rfl,_⟩:=S4 h;exact⟨b.piv a.hr a.hc (by have:=a.pos;grind),a.yj b.wf d⟩
theorem JY:∀{k:Nat} {t:Tb},ff n m k t=true->ff n m (k+1) t=true
 |0,t,h=>by
  grind[ff];|k+1,t,h=>by
  unfold ff at h ⊢;split;·rfl
  ·rename_i b a;rw[a] at h;exact JY h
theorem left_step {N:Nat} (b:ff n m N t=true) (h:stepT n m t=some t'):yn n m N t'<yn n m N t:=by
 unfold yn;have e:∀k,ff n m k t'=ff n m (k+1) t:=λk=>by grind[ff]
 have c:ff n m 0 t=false:=by simp[ff,h]
 simp only[e];cases N with
 |zero=>simp_all;|succ N=>
  have a:∀f:Nat->Bool,((χ (N+1)).filter f).length=(if f 0 then 1 else 0)+((χ N).filter λk=>f (k+1)).length:=λf=>by
   rw[List.range_succ_eq_map,List.filter_cons,List.filter_map,];grind[Function.comp_def]
  rw[a (λk=>!ff n m k t),c];rw[List.range_succ,List.filter_append,ν];simp[b]
theorem S5 {N:Nat} (a:ff n m N t=true) (h:stepT n m t=some t'):ff n m N t'=true:=by
 cases N<;>grind[ff,JY]
theorem JZ (D:Run n m t0 t) (o:ko m t):∃N,ff n m N t=true:=by
 apply δ4;intro u;have e:∀N,ff n m N t=false:=λN=>by
  simp_all
 let T:Nat->Tb:=λk=>Nat.rec t (λ_ s=>(stepT n m s).getD s) k;have d:∀k,T (k+1)=(stepT n m (T k)).getD (T k):=λk=>rfl;have A:∀k N,ff n m N (T k)=false:=by
  intro k;induction k with
  |zero=>exact e;|succ k l=>
   intro N;rw[d];cases z:stepT n m (T k) with
   |none=>simp_all;|some q=>
    have:=l (N+1);grind[ff]
 have w:∀k,stepT n m (T k)=some (T (k+1)):=λk=>by
  rw[d];cases z:stepT n m (T k) with
  |none=>have:=A k 0;grind[ff];|some q=>rfl
 have a:∀k,Run n m t0 (T k)/\ko m (T k):=by
  intro k;induction k with
  |zero=>exact⟨D,o⟩;|succ k l=>grind[JX]
 have b:∀k,∃p:Nat×Nat,qT n m (T k) p.1 p.2/\T (k+1)=fQ (T k) p.1 p.2:=λk=>by
  obtain⟨r,c,f,E,_⟩:=S4 (w k);exact⟨(r,c),f,E⟩
 let p:Nat->Nat×Nat:=λk=>Classical.choose (b k);have h:∀k,qT n m (T k) (p k).1 (p k).2/\T (k+1)=fQ (T k) (p k).1 (p k).2:=λk=>Classical.choose_spec (b k);obtain⟨i,j,g,B⟩:=JV (AG (t0.basic++t0.free) (m+n)) (λk=>(T k).basic++(T k).free) λk=>by
  have f:=@S0 (t0.basic++t0.free) ((T k).basic++(T k).free) λv C=>(a k).1.perm.mem_iff.1 C;rwa [ν,(a k).1.wf.basic,(a k).1.wf.free] at f
 obtain⟨y,x⟩:=List.append_inj B (by rw[(a i).1.wf.basic,(a j).1.wf.basic]);exact acM (λk=>(a k).1) (λk=>(a k).2) (λk=>(h k).1) (λk=>(h k).2) g y x
end
open Go.Proofs.YtjcmncmajmoiiaaGreat.Ir
open Go.Proofs
def fL (l:List Rat):List bO:=l.map bu
def fM (l:List (List Rat)):List (List bO):=l.map fL
def vL (l:List bO):List Rat:=l.map ck
theorem mB (l:List Rat):vL (fL l)=l:=by
 unfold vL fL;rw[δr];conv=>rhs;rw[<-List.map_id l]
 exact γX λq _=>fe q
theorem kP (x:bO):(x.1,x.2.1,x.2.2)=x:=rfl
theorem fS {l:List Rat}:(fL l).length=l.length:=γC _
theorem J0 {l:List (List Rat)}:(fM l).length=l.length:=γC _
theorem jw {l:List Rat} {i:Nat} (h:i<l.length) {d:bO}:bj (fL l) i d=bu (bj l i 0):=by
 grind[cO,fL]
theorem J1 {l:List (List Rat)} {i:Nat} (h:i<l.length) {d:List bO}:bj (fM l) i d=fL (bj l i []):=by
 grind[cO,fM]
structure nN where
 n:Int
 m:Int
 k0:Nat
 k1:Nat
 k3:Nat
 k4:Nat
 cj:List (List bO)
 bound:List bO
 cost:List bO
 v:bO
 basic:List Int
 free:List Int
def nN.gK (x:nN):bX:=
 [.cells [.si .i64 x.n,.si .i64 x.m,.ow 1 x.k0 1,.ow 2 x.k1 3,.row sF x.cost,.sb x.v.1,.row (.i .u32) x.v.2.1,.row (.i .u32) x.v.2.2,.ow 3 x.k3 1,.ow 4 x.k4 1] 267 10 false,
  .row (.bK sF) x.cj 91 false,.row sF x.bound 157 false,.row (.i .i64) x.basic 3 false,.row (.i .i64) x.free 3 false]
def Ez:bX->Option nN
 |[.cells [a,b,.ow 1 k0 1,.ow 2 k1 3,c,v0,v1,v2,.ow 3 k3 1,.ow 4 k4 1] 267 10 false,.row s1 l1 91 false,.row s2 l2 157 false,.row s3 l3 3 false,.row s4 l4 3 false]=>
  match a.int .i64,b.int .i64,gu sF c,jJ sF [v0,v1,v2] with
  |some a,some b,some c,some v=>match iI s1 (.bK sF) l1,iI s2 sF l2,iI s3 (.i .i64) l3,iI s4 (.i .i64) l4 with
   |some l1,some l2,some l3,some l4=>some ⟨a,b,k0,k1,k3,k4,l1,l2,c,v,l3,l4⟩
   |_,_,_,_=>none
  |_,_,_,_=>none
 |_=>none
theorem acN {o:bX} {x:nN} (h:Ez o=some x):gO o=gO x.gK:=by
 unfold Ez at h;split at h
 ·split at h
  ·rename_i p l c e;split at h
   ·rename_i n j k m;simp only[γ] at h;subst h;obtain⟨rfl,f⟩:=nz n;obtain⟨rfl,b⟩:=nz j;obtain⟨rfl,d⟩:=nz k;obtain⟨rfl,i⟩:=nz m;cases f;cases b;cases d;cases i;have a:=nY e;simp only[θ,γo,dO,dK,τ,and_true,δk,γE] at a;simp only[nN.gK,gO,θ,γo,bq.g,gL,iw p,iw l,j7 c,SV.g];simp only[a];rfl
   ·cases h
  ·cases h
 ·cases h
theorem pn {s:bn} {a b:List s.T} (h:cC s a=cC s b):a=b:=by
 by_cases d:s.sz=0;·exact absurd d (by
   have:∀s:bn,0<s.sz:=λs=>by
    induction s<;>simp only[bn.sz]<;>omega
   grind)
 ·have c:=congrArg γp h;rw[fu,fu] at c;exact l9 s (Nat.eq_of_mul_eq_mul_right (by omega) c) h
theorem acO {x y:nN} (h:gO x.gK=gO y.gK):x=y:=by
 obtain⟨n,m,B,M,G,J,c,b,g,⟨I,K,F⟩,D,C⟩:=x;obtain⟨H,L,a,p,r,l,N,E,A,⟨k,w,q⟩,j,u⟩:=y;simp only[nN.gK,gO,θ,γo,bq.g,gL,SV.g,τ,bP.cells.injEq,and_true,true_and,γ4,Value.int.injEq,Value.bool.injEq,εP,AV.sl.injEq] at h;obtain⟨⟨rfl,rfl,⟨rfl,_⟩,⟨rfl,_⟩,⟨_,d⟩,rfl,⟨_,v⟩,⟨_,e⟩,⟨rfl,_⟩,⟨rfl,_⟩⟩,f,t,o,z⟩:=h;rw[pn (s:=sF) d,pn (s:=.i .u32) v,pn (s:=.i .u32) e,pn (s:=.bK sF) f,pn (s:=sF) t,pn (s:=.i .i64) o,pn (s:=.i .i64) z]
abbrev bG (n m:Int) (t:Tb):nN:=⟨n,m,t.cj.length,t.bound.length,t.basic.length,t.free.length,fM t.cj,fL t.bound,fL t.cost,bu t.value,t.basic,t.free⟩
def nN.t (x:nN):Tb:=⟨x.cj.map vL,vL x.bound,vL x.cost,ck x.v,x.basic,x.free⟩
theorem sS {n m:Int} {t:Tb}:(bG n m t).t=t:=by
 have e:(fM t.cj).map vL=t.cj:=by
  unfold fM;rw[δr];conv=>rhs;rw[<-List.map_id t.cj]
  exact γX λq _=>mB q
 simp_all[nN.t,mB,fe]
theorem acP (x:nN):(⟨x.n,x.m,x.k0,x.k1,x.k3,x.k4,x.cj,x.bound,x.cost,(x.v.1,x.v.2.1,x.v.2.2),x.basic,x.free⟩:nN)=x:=rfl
theorem S7 {n m:Int} {t:Tb}:(bG n m t).n=n:=rfl
theorem S8 {n m:Int} {t:Tb}:(bG n m t).m=m:=rfl
def vY (k:Nat) (t:Tb):Prop:=(∀l∈t.cj,∀q∈l,Sz k q)/\(∀q∈t.bound,Sz k q)/\(∀q∈t.cost,Sz k q)/\Sz k t.value
def kQ (n m:Int) (t:Tb):Prop:=((0<=n/\n<=1000)/\(0<=m/\m<=1000))/\t.WF n.toNat m.toNat/\vY 1000000 t
def uB (f:FuncId) (c:Type) (A:qB c) (i:Int->Int->Tb->c->Prop) (e:Int->Int->Tb->c->SV) (out:Int->Int->Tb->c->Tb):cY where
 f:=f;α:=nN×c;put a:=.ptr 0 0 10::A.put a.2;st a:=a.1.gK;dec v o:=match v with
  | .ptr 0 0 10::r=>match Ez o,A.dec r with
   |some s,some b=>some (s,b)
   |_,_=>none
  |_=>none;ok v o a h:=by
  split at h
  ·split at h
   ·rename_i d g;simp only[γ] at h;subst h;exact⟨by simp only[gL,A.ok _ _ g],acN d⟩
   ·cases h
  ·cases h
 inj a b d g:=by
  simp only[gL,τ,true_and] at d;exact εd (acO g) (A.inj _ _ d)
 dom a:=∃n m t,a.1=bG n m t/\kQ n m t/\i n m t a.2;res a:=e a.1.n a.1.m a.1.t a.2;out a:=(bG a.1.n a.1.m (out a.1.n a.1.m a.1.t a.2)).gK
theorem ek {q:Rat} {k:Nat} (h:Sz k q) (a:k<=100000000):dc (bu q):=⟨q,k,rfl,h,a⟩
section
variable {n m:Int} {t:Tb}
theorem kQ.cf (h:kQ n m t) {i j:Nat} (a:i<m.toNat) (c:j<n.toNat):Sz 1000000 (t.cf i j):=by
 have b:=cT (l:=t.cj) (d:=[]) (show i<t.cj.length by rw[h.2.1.cj];exact a);exact h.2.2.1 _ b _ (cT (by rw[h.2.1.row i a];exact c))
theorem kQ.bd (h:kQ n m t) {i:Nat} (a:i<m.toNat):Sz 1000000 (t.bd i):=h.2.2.2.1 _ (cT (by rw[h.2.1.bound];exact a))
theorem kQ.cs (h:kQ n m t) {j:Nat} (a:j<n.toNat):Sz 1000000 (t.cs j):=h.2.2.2.2.1 _ (cT (by rw[h.2.1.cost];exact a))
end
theorem yo {q:Rat}:0<kM q↔0<q:=by
 grind[kM]
theorem S9 {q:Rat}:kM q=0↔q=0:=by
 grind[kM]
theorem J2 {q:Rat}:kM q<0↔q<0:=by
 grind[kM]
def J3:cY:=uB 220 Unit .nil (λ_ _ _ _=>True) (λn _ t _=> .si .i64 (ei t n.toNat)) (λ_ _ t _=>t)
def acQ (n m:Int) (t:Tb):Nat->cB
 |3=> .inv Int (λj=>⟨[(0,.ptr 0 0 10),(3,.si .i64 (ei t j.toNat)),(9,.ow 4 t.free.length 1),(10,.si .i64 t.free.length),(11,.si .i64 j)],(bG n m t).gK⟩)
   (λs=>iS s 11) (λj=>0<=j/\j<=n) (λj=>(n - j).toNat) λ_ _=> .look
 |_=> .look
theorem h411:dL Tryz.prog J3:=by
 refine jr (L:=[uz]) (W:=[]) J3 (λa=>acQ a.1.n a.1.m a.1.t) (by simp) (by simpa using h99) ?_;rintro⟨x,u⟩ ⟨n,m,t,hx,hok, -⟩;simp only at hx;subst hx;refine bQ (let a:=γb .i64;let b:=(0:Int);let c:=bq.row;let d:=SV.ow;let e:=γc;let r:=γV 0 0 10;let s:=(bG n m t).t;let F:=d 4 (bG n m t).k4 1;let y:=s.free.length;let z:=d 4 y 1;let A:=a (↑y:Int);let g:=(bG n m t).n;let B:=bn.i .u32;let f:=bG g (bG n m t).m s;let k:=bq.cells [a f.n,a f.m,d 1 f.k0 1,d 2 f.k1 3,e sF f.cost,γG f.v.fst,e B f.v.snd.fst,e B f.v.snd.snd,d 3 f.k3 1,d 4 f.k4 1] 267 10 false;let l:=c sF.bK f.cj 91 false;let o:=c sF f.bound 157 false;let C:=bn.i .i64;let p:=c C f.basic 3 false;let q:=c C f.free 3 false;let j:=f.free.length;(((r.same r/\(γy .i64 (-1:Int)).same (a (ei s 0))/\F.same z/\(a (↑(bG n m t).k4:Int)).same A/\(γy .i64 0).same (a 0)/\True)/\(bq.cells [a g,a (bG n m t).m,d 1 (bG n m t).k0 1,d 2 (bG n m t).k1 3,e sF (bG n m t).cost,γG (bG n m t).v.fst,e B (bG n m t).v.snd.fst,e B (bG n m t).v.snd.snd,d 3 (bG n m t).k3 1,F] 267 10 false).same k/\(c sF.bK (bG n m t).cj 91 false).same l/\(c sF (bG n m t).bound 157 false).same o/\(c C (bG n m t).basic 3 false).same p/\(c C (bG n m t).free 3 false).same q/\True)/\b<=b/\b<=g)/\∀(x:Int),let h:=x+(1:Int);let w:=ei s x.toNat;let G:=a w;let H:=a (ei s h.toNat);let D:=a h;let E:=bj f.cost x.toNat sF.dflt;let I:=(E.fst,E.snd.fst,E.snd.snd);let J:=decide (x<(↑y:Int));let K:=decide (w<b);let L:=decide (bj f.free x.toNat b<bj f.free w.toNat b);let M:=bY .i64 h/\((r.same r/\G.same H/\z.same z/\A.same A/\D.same D/\True)/\k.same k/\l.same l/\o.same o/\p.same p/\q.same q/\True)/\(b<=h/\h<=g)/\(g - h).toNat<(g - x).toNat;let N:=bY .i64 h/\((r.same r/\(a x).same H/\z.same z/\A.same A/\D.same D/\True)/\k.same k/\l.same l/\o.same o/\p.same p/\q.same q/\True)/\(b<=h/\h<=g)/\(g - h).toNat<(g - x).toNat;let O:=λ(u:Bool) ↦decide (b<kM (ck I))=u;b<=x/\x<=g->(J=true->y=j/\b<=x/\x<(↑j:Int)/\y=j/\x.toNat<j/\b<=x/\x<(↑f.cost.length:Int)/\x.toNat<f.cost.length/\dc I/\(O true->(K=true->N)/\(K=false->f.k4=j/\b<=w/\w<(↑j:Int)/\f.k4=j/\w.toNat<j/\(L=true->N)/\(L=false->M)))/\(O false->M))/\(J=false->G.same (a (ei s g.toNat))/\k.same k/\l.same l/\o.same o/\p.same p/\q.same q/\True)) (by kernel_rfl) ?_;simp only[sS];try simp only[bG]
 simp only[vcs];obtain⟨⟨⟨n0,n1⟩,m0,m1⟩,hw,hz⟩:=id hok;have hfl:=hw.free;have hcl:=hw.cost;have hfc:=@fS t.cost;refine⟨⟨rfl,by omega,by omega⟩,?_⟩;rintro j ⟨j0,j1⟩;have hs:ei t (j+1).toNat=if 0<t.cs j.toNat/\(ei t j.toNat<0\/t.fv j.toNat<t.fv (ei t j.toNat).toNat) then(j.toNat:Int) else ei t j.toNat:=by
  rw[show(j+1).toNat=j.toNat+1 by omega];rfl
 have hb:ei t j.toNat<j.toNat:=by
  rcases @vW t j.toNat with⟨h,_⟩|⟨b,h,hlt,_⟩<;>omega
 refine⟨λhj=>?_,λhj=>by rw[show j.toNat=n.toNat by omega]⟩;have hc:bj (fL t.cost) j.toNat sF.dflt=bu (t.cs j.toNat):=jw (by omega);simp only[hc,kP,fe,decide_eq_true_eq,decide_eq_false_iff_not,yo];have EA:∀k:Nat,bj t.free k 0=t.fv k:=λk=>rfl;rw[EA,EA,hs];refine⟨j0,hj,by omega,j0,by omega,by omega,ek (hok.cs (by omega)) (by omega),λhp=>⟨λhn=>?_,λhn=>⟨by omega,by omega,by omega,λhl=>?_,λhl=>?_⟩⟩,λhp=>?_⟩
 ·rw[if_pos ⟨hp,.inl hn⟩];omega
 ·rw[if_pos ⟨hp,.inr hl⟩];omega
 ·rw[if_neg λh=>h.2.elim hn hl];omega
 ·rw[if_neg λh=>hp h.1];omega
def nO (t:Tb) (c k:Nat):bO:=if dT t c k<0 then(false,([],[])) else bu (t.bd (dT t c k).toNat / t.cf (dT t c k).toNat c)
def J4:cY:=uB 221 Int (.one (dU .i64)) (λn _ _ c=>0<=c/\c<n) (λ_ m t c=> .si .i64 (dT t c.toNat m.toNat)) (λ_ _ t _=>t)
def acR (n m:Int) (t:Tb) (c:Int):Nat->cB
 |4=> .inv Int (λi=>⟨[(0,.ptr 0 0 10),(1,.si .i64 c),(5,.si .i64 (dT t c.toNat i.toNat)),(6,.ptr 5 0 3),(15,.ow 1 t.cj.length 1),(16,.si .i64 t.cj.length),(17,.si .i64 i)],(bG n m t).gK++[.cells [.sb (nO t c.toNat i.toNat).1,.row (.i .u32) (nO t c.toNat i.toNat).2.1,.row (.i .u32) (nO t c.toNat i.toNat).2.2] 157 3 false,.dead,.dead]⟩)
   (λs=>iS s 17) (λi=>0<=i/\i<=m) (λi=>(m - i).toNat) λ_ _=> .look
 |_=> .look
theorem h412:dL Tryz.prog J4:=by
 refine jr (L:=[uz,Av,Eo]) (W:=[]) J4 (λa=>acR a.1.n a.1.m a.1.t a.2) (by simp) (by simpa using⟨h99,h97,h416⟩) ?_;rintro⟨x,c⟩ ⟨n,m,t,hx,hok,hd⟩;simp only at hx hd;subst hx;refine bQ (let a:=γb .i64;let b:=(0:Int);let d:=γc;let e:=bq.cells;let f:=bq.row;let g:=SV.ow;let h:=γG;let A:=γV 0 0 10;let p:=(bG n m t).t;let B:=γV 5 0 3;let U:=g 1 (bG n m t).k0 1;let H:=p.cj.length;let I:=g 1 H 1;let J:=a (↑H:Int);let l:=(bG n m t).m;let k:=bn.i .u32;let j:=bG (bG n m t).n l p;let r:=e [a j.n,a j.m,g 1 j.k0 1,g 2 j.k1 3,d sF j.cost,h j.v.fst,d k j.v.snd.fst,d k j.v.snd.snd,g 3 j.k3 1,g 4 j.k4 1] 267 10 false;let C:=j.cj;let s:=f sF.bK C 91 false;let D:=j.bound;let w:=f sF D 157 false;let L:=bn.i .i64;let y:=f L j.basic 3 false;let z:=f L j.free 3 false;let O:=nO p c.toNat 0;let a9:=sF.bK.dflt;let q:=j.basic.length;0=0/\0=0/\(((A.same A/\(a c).same (a c)/\(γy .i64 (-1:Int)).same (a (dT p c.toNat 0))/\B.same B/\U.same I/\(a (↑(bG n m t).k0:Int)).same J/\(γy .i64 0).same (a 0)/\True)/\(e [a (bG n m t).n,a l,U,g 2 (bG n m t).k1 3,d sF (bG n m t).cost,h (bG n m t).v.fst,d k (bG n m t).v.snd.fst,d k (bG n m t).v.snd.snd,g 3 (bG n m t).k3 1,g 4 (bG n m t).k4 1] 267 10 false).same r/\(f sF.bK (bG n m t).cj 91 false).same s/\(f sF (bG n m t).bound 157 false).same w/\(f L (bG n m t).basic 3 false).same y/\(f L (bG n m t).free 3 false).same z/\(e [SV.bl false,d k [],d k []] 157 3 false).same (e [h O.fst,d k O.snd.fst,d k O.snd.snd] 157 3 false)/\bq.dead.same bq.dead/\bq.dead.same bq.dead/\True)/\b<=b/\b<=l)/\∀(x:Int),let o:=x+(1:Int);let V:=a (dT p c.toNat o.toNat);let M:=a o;let P:=bj D x.toNat sF.dflt;let W:=(P.fst,P.snd.fst,P.snd.snd);let K:=bj C x.toNat a9;let Q:=bj K c.toNat sF.dflt;let N:=(Q.fst,Q.snd.fst,Q.snd.snd);let E:=bu (ck W / ck N);let R:=nO p c.toNat o.toNat;let X:=e [h R.fst,d k R.snd.fst,d k R.snd.snd] 157 3 false;let F:=dT p c.toNat x.toNat;let Y:=a F;let G:=nO p c.toNat x.toNat;let Z:=(E.fst,E.snd.fst,E.snd.snd);let a0:=(G.fst,G.snd.fst,G.snd.snd);let a1:=jf (ck Z) (ck a0);let a2:=decide (x<(↑H:Int));let a3:=decide (b<=F);let a4:=decide (bj j.basic F.toNat b<bj j.basic x.toNat b);let S:=bY .i64 o/\((A.same A/\(a c).same (a c)/\(a x).same V/\B.same B/\I.same I/\J.same J/\M.same M/\True)/\r.same r/\s.same s/\w.same w/\y.same y/\z.same z/\(e [h E.fst,d k E.snd.fst,d k E.snd.snd] 157 3 false).same X/\bq.dead.same bq.dead/\bq.dead.same bq.dead/\True)/\(b<=o/\o<=l)/\(l - o).toNat<(l - x).toNat;let T:=bY .i64 o/\((A.same A/\(a c).same (a c)/\Y.same V/\B.same B/\I.same I/\J.same J/\M.same M/\True)/\r.same r/\s.same s/\w.same w/\y.same y/\z.same z/\(e [h G.fst,d k G.snd.fst,d k G.snd.snd] 157 3 false).same X/\bq.dead.same bq.dead/\bq.dead.same bq.dead/\True)/\(b<=o/\o<=l)/\(l - o).toNat<(l - x).toNat;let a5:=dc N;let a6:=λ(u:Bool) ↦decide (b<a1)=u;let a7:=λ(u:Bool) ↦decide (a1=b)=u;let a8:=λ(u:Bool) ↦decide (kM (ck N)<=b)=u;b<=x/\x<=l->(a2=true->H=C.length/\b<=x/\x<(↑C.length:Int)/\H=C.length/\x.toNat<C.length/\b<=c/\c<(↑K.length:Int)/\c.toNat<K.length/\a5/\(a8 true->T)/\(a8 false->j.k1=D.length/\b<=x/\x<(↑D.length:Int)/\j.k1=D.length/\x.toNat<D.length/\b<=c/\c<(↑K.length:Int)/\c.toNat<K.length/\((dc W/\a5)/\ck N≠(0:Rat))/\(a3=true->(dc Z/\dc a0)/\(a6 true->T)/\(a6 false->(a7 true->j.k3=q/\b<=x/\x<(↑q:Int)/\j.k3=q/\x.toNat<q/\j.k3=q/\b<=F/\F<(↑q:Int)/\j.k3=q/\F.toNat<q/\(a4=true->T)/\(a4=false->S))/\(a7 false->S)))/\(a3=false->S)))/\(a2=false->Y.same (a (dT p c.toNat l.toNat))/\r.same r/\s.same s/\w.same w/\y.same y/\z.same z/\True)) (by kernel_rfl) ?_;simp only[sS];try simp only[bG]
 simp only[vcs];obtain⟨⟨⟨n0,n1⟩,m0,m1⟩,hw,hz⟩:=id hok;have hkl:=hw.cj;have hbl:=hw.bound;have hbb:=hw.basic;have hfm:=@J0 t.cj;have za:=@fS t.bound;have hcell:∀{x y:bO},x=y->(bq.cells [γG x.1,γc (bn.i IntKind.u32) x.2.1,γc (bn.i IntKind.u32) x.2.2] 157 3 false).same (bq.cells [γG y.1,γc (bn.i IntKind.u32) y.2.1,γc (bn.i IntKind.u32) y.2.2] 157 3 false):=by rintro _ _ rfl;rfl
 have hl0:nO t c.toNat 0=(false,([],[])):=rfl;refine⟨⟨⟨rfl,by rw[hl0];rfl⟩,by omega,by omega⟩,?_⟩;rintro i ⟨i0,i1⟩;refine⟨λhi=>?_,λhi=>by rw[show i.toNat=m.toNat by omega]⟩;have him:i.toNat<m.toNat:=by omega
 have hrow:bj (fM t.cj) i.toNat sF.bK.dflt=fL (bj t.cj i.toNat []):=J1 (by omega);have hrl:=hw.row i.toNat him;have hfr:=@fS (bj t.cj i.toNat []);have hA:bj (fL (bj t.cj i.toNat [])) c.toNat sF.dflt=bu (t.cf i.toNat c.toNat):=jw (by omega);have hB:bj (fL t.bound) i.toNat sF.dflt=bu (t.bd i.toNat):=jw (by omega);have hbv:∀k:Nat,bj t.basic k 0=t.bv k:=λk=>rfl;have hsA:=hok.cf (i:=i.toNat) (j:=c.toNat) him (by omega);have hsB:=hok.bd (i:=i.toNat) him;have hs:dT t c.toNat (i+1).toNat=if t.cf i.toNat c.toNat<=0 then dT t c.toNat i.toNat
  else if 0<=dT t c.toNat i.toNat/\(t.bd (dT t c.toNat i.toNat).toNat / t.cf (dT t c.toNat i.toNat).toNat c.toNat<t.bd i.toNat / t.cf i.toNat c.toNat\/(t.bd i.toNat / t.cf i.toNat c.toNat=t.bd (dT t c.toNat i.toNat).toNat / t.cf (dT t c.toNat i.toNat).toNat c.toNat/\t.bv (dT t c.toNat i.toNat).toNat<t.bv i.toNat)) then dT t c.toNat i.toNat
  else(i.toNat:Int):=by
  rw[show(i+1).toNat=i.toNat+1 by omega];rfl
 have hlb:dT t c.toNat i.toNat<i.toNat:=by
  rcases @vX t c.toNat i.toNat with⟨h,_⟩|⟨b,h,hlt,_⟩<;>omega
 have hlp:0<=dT t c.toNat i.toNat->0<t.cf (dT t c.toNat i.toNat).toNat c.toNat:=λh=>by
  rcases @vX t c.toNat i.toNat with⟨h2,_⟩|⟨b,h2,hlt,hp,_⟩;·omega
  ·rw[h2,γq];exact hp
 have acS:∀q:Rat,kM q<=0↔q<=0:=λq=>by
  have:=@yo q;constructor;·intro h;exact Rat.not_lt.1 λh2=>by have:=this.2 h2;omega
  ·intro h;exact Int.not_lt.1 λh2=>Rat.not_lt.2 h (this.1 h2)
 simp only[hrow,hA,hB,kP,fe,hbv,acS,acz,acA];have acT:0<=dT t c.toNat i.toNat->nO t c.toNat i.toNat=bu (t.bd (dT t c.toNat i.toNat).toNat / t.cf (dT t c.toNat i.toNat).toNat c.toNat):=λh=>by
  unfold nO;rw[if_neg (by omega)]
 have tail:(0<=i+1/\i+1<=m)/\(m - (i+1)).toNat<(m - i).toNat:=by omega
 have keep:dT t c.toNat (i+1).toNat=dT t c.toNat i.toNat->nO t c.toNat i.toNat=nO t c.toNat (i+1).toNat:=λh=>by
  unfold nO;rw[h]
 have new:dT t c.toNat (i+1).toNat=(i.toNat:Int)->bu (t.bd i.toNat / t.cf i.toNat c.toNat)=nO t c.toNat (i+1).toNat:=λh=>by
  unfold nO;rw[h,if_neg (by omega),γq]
 have hnz:0<t.cf i.toNat c.toNat->t.cf i.toNat c.toNat≠0:=λh=>by grind
 refine⟨by omega,i0,by omega,by omega,by omega,hd.1,by omega,by omega,ek hsA (by omega),λhle=>?_,λhgt=>?_⟩
 ·have e:dT t c.toNat (i+1).toNat=dT t c.toNat i.toNat:=by rw[hs,if_pos hle]
  exact⟨by omega,⟨e.symm,hcell (keep e)⟩,tail⟩
 ·have hp:0<t.cf i.toNat c.toNat:=ζR.1 hgt;rw[if_neg hgt] at hs;have acU:=JL hsB hsA (hnz hp);refine⟨by omega,i0,by omega,by omega,by omega,hd.1,by omega,by omega,⟨⟨ek hsB (by omega),ek hsA (by omega)⟩,hnz hp⟩,λh0=>?_,λh0=>?_⟩
  ·have hl:=acT h0;have hsl:=JL (hok.bd (i:=(dT t c.toNat i.toNat).toNat) (by omega)) (hok.cf (i:=(dT t c.toNat i.toNat).toNat) (j:=c.toNat) (by omega) (by omega)) (by have:=hlp h0;grind);have hvl:ck (nO t c.toNat i.toNat)=t.bd (dT t c.toNat i.toNat).toNat / t.cf (dT t c.toNat i.toNat).toNat c.toNat:=by rw[hl,fe]
   simp only[hvl];refine⟨⟨ek acU (by omega),by rw[hl];exact ek hsl (by omega)⟩,λhlt=>?_,λhlt=>⟨λheq=>⟨i0,by omega,by omega,h0,by omega,by omega,λhbl=>?_,λhbl=>?_⟩,λheq=>?_⟩⟩
   ·rw[if_pos ⟨h0,.inl hlt⟩] at hs;exact⟨by omega,⟨hs.symm,hcell (keep hs)⟩,tail⟩
   ·rw[if_pos ⟨h0,.inr ⟨heq,hbl⟩⟩] at hs;exact⟨by omega,⟨hs.symm,hcell (keep hs)⟩,tail⟩
   ·rw[if_neg λh=>h.2.elim hlt λh2=>hbl h2.2] at hs;exact⟨by omega,⟨by omega,hcell (new hs)⟩,tail⟩
   ·rw[if_neg λh=>h.2.elim hlt λh2=>heq h2.1] at hs;exact⟨by omega,⟨by omega,hcell (new hs)⟩,tail⟩
  ·rw[if_neg λh=>h0 h.1] at hs;exact⟨by omega,⟨by omega,hcell (new hs)⟩,tail⟩
def J5:bM:=⟨169,Int,.one (dU .i64),λ_=>True,λ_=> .sb false⟩
theorem h334:Holds Tryz.prog J5:=by
 refine cJ (L:=[]) J5 lk (by simp) ?_;rintro(x:Int) -;refine bQ ((γG (decide (x≠x))).same (γG false)) (by kernel_rfl) ?_;simp_all
def yp (x y:Int):Int:=if x<y then -1 else if y<x then 1 else 0
def J6:bM:=⟨128,Int×Int,.cons (dU .i64) (.one (dU .i64)),λ_=>True,λa=> .si .i64 (yp a.1 a.2)⟩
theorem h321:Holds Tryz.prog J6:=by
 refine cJ (L:=[J5]) J6 lk (by grind[h334]) ?_;rintro⟨x,y⟩ -;refine bQ (let b:=γy .i64;let c:=γy .i64 0;let a:=γb .i64 (yp x y);True/\True/\(false=true->(false=true->(b 0).same a)/\(false=false->(b (-1:Int)).same a))/\(false=false->(false=true->(b 1).same a)/\(false=false->(decide (x<y)=true->(b (-1:Int)).same a)/\(decide (x<y)=false->(decide (y<x)=true->(b 1).same a)/\(decide (y<x)=false->(b 0).same a))))) (by kernel_rfl) ?_;simp_all[yp,if_neg]
def vZ (b:bz):Int:=b.a0+b.a1+b.a2+b.a3+b.a4+b.a5
def J7:bM:=⟨129,bz,.one (eG .eD),λb=>b.ok=true,λb=> .si .i64 (vZ b)⟩
theorem h322:Holds Tryz.prog J7:=by
 refine cJ (L:=[]) J7 (λ_ _=> .pI 7) (by simp) ?_;rintro(b:bz) (h:b.ok=true);have h:=bz.eT.1 h;refine bQ (let d:=bY .i64;let a:=(0:Int)+b.a0+b.a1;let c:=a+b.a2+b.a3+b.a4;d ((0:Int)+b.a0)/\d a/\d (a+b.a2)/\d (a+b.a2+b.a3)/\d c/\d (c+b.a5)/\(γb .i64 (c+b.a5)).same (γb .i64 (vZ b))) (by kernel_rfl) ?_;simp only[vcs];unfold vZ;omega
def oI (p:bp) (i:Int):Off:=bj p.offers i.toNat bn.off.dflt
def rL (p:bp) (i:Int):Int:=(oI p i).value
def pW (p:bp) (i:Int):Int:=vZ (oI p i).want
def bL (p:bp) (i:Int):Int:=rL p i*(5354228880 / pW p i)
def iz (p:bp) (i:Int):Prop:=0<=i/\i<p.offers.length
theorem AI {p:bp} (b:bC p=0) {i:Int} (h:iz p i):(1<=rL p i/\rL p i<=1000000)/\(1<=pW p i/\pW p i<=24)/\(oI p i).want.ok=true:=by
 obtain⟨j,k⟩:=h;have c:=cT (d:=bn.off.dflt) (show i.toNat<p.offers.length by omega);have a:=(dF b).2.2.2.2 _ c;have g:=(vE ((pQ b).2 _ c)).2.1;have e:=bz.eT.1 a.2.2.1;have f:¬((oI p i).want.a0=0/\(oI p i).want.a1=0/\(oI p i).want.a2=0/\(oI p i).want.a3=0/\(oI p i).want.a4=0/\(oI p i).want.a5=0):=λh=>g (Da.2 h);have e:(0<=(oI p i).want.a0/\(oI p i).want.a0<=4)/\(0<=(oI p i).want.a1/\(oI p i).want.a1<=4)/\(0<=(oI p i).want.a2/\(oI p i).want.a2<=4)/\(0<=(oI p i).want.a3/\(oI p i).want.a3<=4)/\(0<=(oI p i).want.a4/\(oI p i).want.a4<=4)/\(0<=(oI p i).want.a5/\(oI p i).want.a5<=4):=e;refine⟨⟨a.2.2.2.1,a.2.2.2.2⟩,?_,a.2.2.1⟩;unfold pW vZ;omega
theorem Ta {t:Int} (a:1<=t) (b:t<=24):t*(5354228880 / t)=5354228880/\1<=5354228880 / t:=by
 have:t=1\/t=2\/t=3\/t=4\/t=5\/t=6\/t=7\/t=8\/t=9\/t=10\/t=11\/t=12\/t=13\/t=14\/t=15\/t=16\/t=17\/t=18\/t=19\/t=20\/t=21\/t=22\/t=23\/t=24:=by omega
 rcases this with rfl|rfl|rfl|rfl|rfl|rfl|rfl|rfl|rfl|rfl|rfl|rfl|rfl|rfl|rfl|rfl|rfl|rfl|rfl|rfl|rfl|rfl|rfl|rfl<;>decide
theorem acV {p:bp} (g:bC p=0) {x y:Int} (j:iz p x) (i:iz p y):bL p x<bL p y↔rL p x*pW p y<rL p y*pW p x:=by
 obtain⟨m,e,_⟩:=AI g j;obtain⟨u,f,_⟩:=AI g i;obtain⟨v,q⟩:=Ta e.1 e.2;obtain⟨o,r⟩:=Ta f.1 f.2;unfold bL;generalize 5354228880 / pW p x=d at*;generalize 5354228880 / pW p y=c at*;generalize rL p x=a at*;generalize rL p y=b at*;generalize pW p x=s at*;generalize pW p y=t at*;have k:0<d*c:=εB (by omega) (by omega);have l:(a*t)*(d*c)=(a*d)*5354228880:=by grind
 have n:(b*s)*(d*c)=(b*c)*5354228880:=by grind
 constructor
 ·intro h;have:(a*t)*(d*c)<(b*s)*(d*c):=by omega
  exact Int.lt_of_mul_lt_mul_right this (by omega)
 ·intro h;have:(a*t)*(d*c)<(b*s)*(d*c):=Int.mul_lt_mul_of_pos_right h k;omega
def sT (p:bp) (x y:Int):Int:=yp (rL p y*pW p x) (rL p x*pW p y)
theorem Tc {p:bp} (a:bC p=0) {x y:Int} (c:iz p x) (b:iz p y):sT p x y<0↔bL p y<bL p x:=by
 rw[acV a b c];grind[sT,yp]
def EB:cY where
 f:=127;α:=Int×Int×bp;put a:=[.si .i64 a.1,.si .i64 a.2.1,.ptr 0 0 20];st a:=[.cells a.2.2.ss 27 20 false];dec v o:=match v,o with
  |[x,y,.ptr 0 0 20],[.cells cs 27 20 false]=>match x.int .i64,y.int .i64,t7 cs with
   |some x,some y,some p=>some (x,y,p)
   |_,_,_=>none
  |_,_=>none;ok v o a h:=by
  split at h
  ·split at h
   ·rename_i h1 h2 h3;simp only[γ] at h;subst h;refine⟨by simp only[gL,iw h1,iw h2];rfl,?_⟩;simp only[gO,θ,γo,bq.g,xw h3]
   ·cases h
  ·cases h
 inj a b h1 h2:=by
  simp only[gL,τ,and_true,SV.g,γ4,Value.int.injEq,true_and] at h1;simp only[gO,θ,γo,bq.g,τ,bP.cells.injEq,and_true] at h2;have h3:=cZ.inj a.2.2 b.2.2 (by simp only[cZ,SV.g,h2]);exact εd h1.1 (εd h1.2 h3)
 dom a:=bC a.2.2=0/\iz a.2.2 a.1/\iz a.2.2 a.2.1;res a:=.si .i64 (sT a.2.2 a.1 a.2.1);out a:=[.cells a.2.2.ss 27 20 false]
theorem h320:dL Tryz.prog EB:=by
 refine jr (L:=[J7,J6]) (W:=[]) EB lk (by simp) (by grind[h322,h321]) ?_;rintro⟨x,y,p⟩ ⟨f,e,c⟩;refine bQ (let a:=bn.off.dflt;let d:=p.offers.length;let g:=bj p.offers x.toNat a;let h:=bj p.offers y.toNat a;let k:=h.value*vZ g.want;let l:=g.value*vZ h.want;let j:=bq.cells (bp.ss p) 27 20 false;(0:Int)<=x/\x<(↑d:Int)/\x.toNat<d/\(0:Int)<=y/\y<(↑d:Int)/\y.toNat<d/\g.want.ok=true/\bY .i64 k/\h.want.ok=true/\bY .i64 l/\True/\(γb .i64 (yp k l)).same (γb .i64 (sT p x y))/\j.same j/\True) (by kernel_rfl) ?_;simp only[vcs];have f:bC p=0:=f;have e:iz p x:=e;have c:iz p y:=c;obtain⟨s,w,q⟩:=AI f e;obtain⟨m,A,z⟩:=AI f c;obtain⟨o,n⟩:=e;obtain⟨B,r⟩:=c;have i:∀{v t:Int},1<=v/\v<=1000000->1<=t/\t<=24-> -9223372036854775808<=v*t/\v*t<=9223372036854775807:=λ{v t} C u=>by
  have a:=γD (show 0<=v by omega) (show 0<=t by omega);have b:=Int.mul_le_mul C.2 u.2 (by omega) (show(0:Int)<=1000000 by omega);omega
 exact⟨o,n,by omega,B,r,by omega,q,i m w,z,i s A,rfl⟩
def gx (D:Int->Int) (x y:Int):Bool:=decide (D y<D x)||(decide (D x=D y)&&decide (x<=y))
theorem po {D:Int->Int} {x y:Int}:gx D x y=true↔D y<D x\/(D x=D y/\x<=y):=by grind[gx]
theorem Td {D:Int->Int} (a b c:Int) (d:gx D a b=true) (e:gx D b c=true):gx D a c=true:=by
 grind[po]
theorem acW {D:Int->Int} (a b:Int):(gx D a b||gx D b a)=true:=by
 grind[po]
theorem acX {D:Int->Int} {a b:Int} (c:gx D a b=true) (d:gx D b a=true):a=b:=by
 grind[po]
abbrev iK (D:Int->Int) (l:List Int):Prop:=l.Pairwise λa b=>gx D a b=true
def de (D:Int->Int) (l:List Int):List Int:=l.mergeSort (gx D)
theorem rM {D:Int->Int} {l:List Int}:(de D l).Perm l:=List.mergeSort_perm _ _
theorem v7 {D:Int->Int} {l:List Int}:iK D (de D l):=List.pairwise_mergeSort Td acW l
theorem ox {D:Int->Int} {l:List Int}:(de D l).length=l.length:=rM.length_eq
theorem yq {D:Int->Int} {l:List Int} {x:Int}:x∈de D l↔x∈l:=rM.mem_iff
theorem AK {D:Int->Int} {l m:List Int} (e:m.Perm l) (f:iK D m):m=de D l:=
 List.Perm.eq_of_pairwise (λa b _ _ c d=>acX c d) f v7 (e.trans rM.symm)
theorem J8 {D:Int->Int} {l:List Int} (h:iK D l):de D l=l:=(AK (ζJ _) h).symm
def seg (l:List Int) (a b:Nat):List Int:=(l.drop a).take (b - a)
def dh (D:Int->Int) (l:List Int) (a b:Nat):List Int:=l.take a++de D (seg l a b)++l.drop b
theorem kR {l:List Int} {a b:Nat} (c:a<=b) (d:b<=l.length):(seg l a b).length=b - a:=by
 grind[seg]
theorem J9 {l:List Int} {a b:Nat} (c:a<=b) (d:b<l.length):seg l a (b+1)=seg l a b++[bj l b 0]:=by
 unfold seg;rw[show b+1 - a=(b - a)+1 by omega,γY (by grind),δ9];grind[cO]
theorem AL {l:List Int} {a:Nat}:seg l a a=[]:=by grind[seg]
theorem yr {D:Int->Int} {l:List Int} {a b:Nat} (c:a<=b) (d:b<=l.length):(dh D l a b).length=l.length:=by
 grind[dh,ox,kR]
theorem EC {l:List Int} {i:Nat} (h:i<l.length):l.drop i=bj l i 0::l.drop (i+1):=by
 simp_all[cO]
theorem Ko {D:Int->Int} {l:List Int} {a:Nat}:dh D l a a=l:=by
 simp_all[dh,AL,de]
theorem acY {D:Int->Int} {l:List Int} {a:Nat} (h:a<l.length):dh D l a (a+1)=l:=by
 have e:seg l a (a+1)=[bj l a 0]:=by grind[J9,AL]
 unfold dh;rw[e,J8 (by simp),γg];simp only[List.singleton_append];rw[<-EC h,Ψ]
def jy (D:Int->Int) (l:List Int) (a i j:Nat):List Int:=l.take a++((de D (seg l a i)).take (j - a)++bj l i 0::(de D (seg l a i)).drop (j - a))++l.drop (i+1)
theorem Tf {D:Int->Int} {l:List Int} {a i j:Nat} (b:a<=i) (c:i<l.length):(jy D l a i j).length=l.length:=by
 grind[ox,kR,jy]
theorem Ti {D:Int->Int} {l:List Int} {a i:Nat} (b:a<=i) (c:i<l.length):jy D l a i i=dh D l a i:=by
 grind[ox,kR,jy,dh,EC]
theorem acZ {A B:List Int} {y x:Int}:((A++y::x::B).set (A.length+1) y).set A.length x=A++x::y::B:=by
 simp_all
theorem Tj {A B:List Int} {y:Int}:bj (A++y::B) A.length 0=y:=by grind[bj]
theorem Tm {A B:List Int} {y x:Int}:bj (A++y::x::B) (A.length+1) 0=x:=by grind[bj]
theorem ac0 {D:Int->Int} {l:List Int} {a i k:Nat} (c:a+k+1<=i) (d:i<l.length):
  jy D l a i (a+k+1)=(l.take a++(de D (seg l a i)).take k)++bj (de D (seg l a i)) k 0::bj l i 0::((de D (seg l a i)).drop (k+1)++l.drop (i+1))/\
  jy D l a i (a+k)=(l.take a++(de D (seg l a i)).take k)++bj l i 0::bj (de D (seg l a i)) k 0::((de D (seg l a i)).drop (k+1)++l.drop (i+1))/\
  (l.take a++(de D (seg l a i)).take k).length=a+k:=by
 have b:=@ox D (seg l a i);rw[kR (by omega) (by omega)] at b;have e:k<(de D (seg l a i)).length:=by omega
 have g:(de D (seg l a i)).take (k+1)=(de D (seg l a i)).take k++[bj (de D (seg l a i)) k 0]:=by simp_all[cO]
 have f:(de D (seg l a i)).drop k=bj (de D (seg l a i)) k 0::(de D (seg l a i)).drop (k+1):=by simp_all[cO]
 grind[jy]
theorem Tn {D:Int->Int} {l:List Int} {a i j:Nat} (g:a<j) (f:j<=i) (d:i<l.length):
  bj (jy D l a i j) j 0=bj l i 0/\bj (jy D l a i j) (j - 1) 0=bj (de D (seg l a i)) (j - 1 - a) 0/\
  ((jy D l a i j).set j (bj (de D (seg l a i)) (j - 1 - a) 0)).set (j - 1) (bj l i 0)=jy D l a i (j - 1):=by
 obtain⟨b,c,e⟩:=@ac0 D l a i (j - 1 - a) (by omega) d;rw[show a+(j - 1 - a)+1=j by omega] at b;rw[show a+(j - 1 - a)=j - 1 by omega] at c e;rw[b,c];generalize l.take a++(de D (seg l a i)).take (j - 1 - a)=A at*;generalize bj (de D (seg l a i)) (j - 1 - a) 0=y at*;generalize bj l i 0=x at*;grind[Tm,Tj,acZ]
theorem Tq {D:Int->Int} {S:List Int} {x:Int} {k:Nat} (n:iK D S) (d:∀s∈S.drop k,gx D x s=true) (b:k=0\/(k<=S.length/\gx D (bj S (k - 1) 0) x=true)):iK D (S.take k++x::S.drop k):=by
 have a:iK D (S.take k++S.drop k):=by simp_all
 obtain⟨g,f,i⟩:=γZ.1 a;have j:∀s∈S.take k,gx D s x=true:=by
  rcases b with rfl|⟨h,b⟩;·simp
  ·intro s l;by_cases m:k=0;·simp_all
   have c:k - 1<S.length:=by omega
   have e:S.take k=S.take (k - 1)++[bj S (k - 1) 0]:=by
    conv=>lhs;rw[show k=(k - 1)+1 by omega]
    simp_all[cO]
   grind[Td]
 rw[iK,γZ];simp_all
theorem ac1 {S:List Int} {x:Int} {k:Nat}:(S.take k++x::S.drop k).Perm (S++[x]):=by
 refine(ζy).trans ?_;rw[Ψ];grind
theorem Tt {D:Int->Int} {l:List Int} {a i j:Nat} (k:a<=j) (f:j<=i) (e:i<l.length) (b:∀s∈(de D (seg l a i)).drop (j - a),gx D (bj l i 0) s=true) (g:j=a\/gx D (bj (de D (seg l a i)) (j - 1 - a) 0) (bj l i 0)=true):
  jy D l a i j=dh D l a (i+1):=by
 have c:=@ox D (seg l a i);rw[kR (by omega) (by omega)] at c;have d:iK D ((de D (seg l a i)).take (j - a)++bj l i 0::(de D (seg l a i)).drop (j - a)):=by
  refine Tq v7 b ?_;grind
 have h:((de D (seg l a i)).take (j - a)++bj l i 0::(de D (seg l a i)).drop (j - a)).Perm (seg l a (i+1)):=by
  rw[J9 (by omega) e];exact ac1.trans (ζW rM (ζJ _))
 grind[jy,dh,AK]
def jz (l:List Int) (a b n:Nat):List Int:=(χ l.length).map λk=>if a<=k/\k<a+n then bj l (k - a+b) 0 else if b<=k/\k<b+n then bj l (k - b+a) 0 else bj l k 0
theorem uC {l:List Int} {a b n:Nat}:(jz l a b n).length=l.length:=by simp[jz]
theorem yt {l:List Int} {a b n k:Nat} (h:k<l.length):bj (jz l a b n) k 0=if a<=k/\k<a+n then bj l (k - a+b) 0 else if b<=k/\k<b+n then bj l (k - b+a) 0 else bj l k 0:=by
 show(((χ l.length).map _)[k]?).getD 0=_;simp_all
theorem ac2 {l:List Int} {a b:Nat}:jz l a b 0=l:=by
 apply δn uC;intro k d c;have:=@yt l a b 0 k c;simp_all[cO,if_neg]
theorem Tv {l m:List Int} (a:l.length=m.length) (h:∀k,k<l.length->bj l k 0=bj m k 0):l=m:=
 δn a λk b c=>by
  grind[cO]
theorem Tz {l:List Int} {i k:Nat} {v:Int} (h:k<l.length):bj (l.set i v) k 0=if i=k then v else bj l k 0:=by
 grind[bj]
theorem ac3 {l:List Int} {a b n:Nat} (g:a+n<b) (f:b+n<l.length):
  ((jz l a b n).set (a+n) (bj (jz l a b n) (b+n) 0)).set (b+n) (bj (jz l a b n) (a+n) 0)=jz l a b (n+1):=by
 have e:bj (jz l a b n) (a+n) 0=bj l (a+n) 0:=by rw[yt (by omega),if_neg (by omega),if_neg (by omega)]
 have d:bj (jz l a b n) (b+n) 0=bj l (b+n) 0:=by rw[yt (by omega),if_neg (by omega),if_neg (by omega)]
 rw[e,d];refine Tv (by simp[uC]) λk c=>?_;simp only[Ξ,uC] at c;rw[Tz (by grind[uC]),Tz (by grind[uC]),yt c,yt c];grind
theorem ac4 {A B:List Int} {k:Nat}:bj (A++B) k 0=if k<A.length then bj A k 0 else bj B (k - A.length) 0:=by
 grind[bj]
theorem Kp {A X M Y B:List Int} (h:X.length=Y.length):jz (A++(X++(M++(Y++B)))) A.length (A.length+X.length+M.length) X.length=A++(Y++(M++(X++B))):=by
 refine Tv (by simp[uC];omega) λk a=>?_;rw[uC] at a;rw[yt a];simp only[ac4];grind
def rotR (l:List Int) (a m b:Nat):List Int:=l.take a++(seg l m b++(seg l a m++l.drop b))
theorem TA {l:List Int} {a m b:Nat} (g:a<=m) (f:m<=b) (e:b<=l.length):l=l.take a++(seg l a m++(seg l m b++l.drop b)):=by
 have d:l.drop a=seg l a m++l.drop m:=by
  have:=Ψ (m - a) (l.drop a);rw[γW,show a+(m - a)=m by omega] at this;exact this.symm
 have c:l.drop m=seg l m b++l.drop b:=by
  have:=Ψ (b - m) (l.drop m);rw[γW,show m+(b - m)=b by omega] at this;exact this.symm
 rw[<-c,<-d,Ψ]
def yu:Nat->List SV->Option (List Int)
 |0,[.fn (.func 127) [] [.ptr 1 0 20]]=>some []
 |k+1,x::r=>match x.int .i64,yu k r with
  |some n,some l=>some (n::l)
  |_,_=>none
 |_,_=>none
theorem TB:∀{k:Nat} {r:List SV} {l:List Int},yu k r=some l->gL r=gL (l.map (γb .i64)++[.fn (.func 127) [] [.ptr 1 0 20]])
 |0,r,l,h=>by
  unfold yu at h;split at h;·simp only[γ] at h;subst h;rfl
  ·rename_i h0;cases h0
  ·cases h;|k+1,[],l,h=>by simp[yu] at h;|k+1,x::r,l,h=>by
  simp only[yu] at h;split at h
  ·rename_i n l' h1 h2;simp only[γ] at h;subst h;simp only[gL,θ,γE,TB h2,iw h1];rfl
  ·cases h
theorem TC:∀{l m:List Int} {z:List SV},l.length=m.length->gL (l.map (γb .i64)++z)=gL (m.map (γb .i64)++z)->l=m
 |[],[],_,_,_=>rfl
 |[],_::_,_,h,_=>by simp at h;|_::_,[],_,h,_=>by simp at h;|x::l,y::m,z,hl,h=>by
  simp only[θ,γE,gL,τ,SV.g,γ4,Value.int.injEq,true_and] at h;rw[h.1,TC (by simpa using hl) h.2]
def yv (f:FuncId) (k:Nat) (β:Type) (AO:β->List Int) (TD:List Int->Option β) (h0:∀b,(AO b).length=k) (h1:∀l b,TD l=some b->l=AO b) (h2:∀b c,AO b=AO c->b=c) (dom:(Nat×List Int×bp)×β->Prop) (out:(Nat×List Int×bp)×β->List Int):cY where
 f:=f;α:=(Nat×List Int×bp)×β;put a:=.ow 0 a.1.1 1::((AO a.2).map (γb .i64)++[.fn (.func 127) [] [.ptr 1 0 20]]);st a:=[.row (.i .i64) a.1.2.1 3 true,.cells a.1.2.2.ss 27 20 false];dec v o:=match v,o with
  | .ow 0 n 1::r,[.row t l 3 true,.cells cs 27 20 false]=>match yu k r,iI t (.i .i64) l,t7 cs with
   |some xs,some l,some p=>match TD xs with
    |some b=>some ((n,l,p),b)
    |none=>none
   |_,_,_=>none
  |_,_=>none;ok v o a h:=by
  split at h
  ·split at h
   ·rename_i h3 h4 h5;split at h
    ·rename_i b hb;simp only[γ] at h;subst h;obtain⟨rfl,hh⟩:=nz h4;cases hh;have:=h1 _ _ hb;subst this;refine⟨by simp only[gL,TB h3],?_⟩;simp only[gO,θ,γo,bq.g,xw h5]
    ·cases h
   ·cases h
  ·cases h
 inj a b e1 e2:=by
  obtain⟨⟨n,l,p⟩,x⟩:=a;obtain⟨⟨n',l',p'⟩,x'⟩:=b;simp only[gL,τ,SV.g,εP,true_and] at e1;simp only[gO,θ,γo,bq.g,τ,bP.cells.injEq,and_true,true_and] at e2;have h3:p=p':=cZ.inj p p' (by simp only[cZ,SV.g,e2.2]);have h4:l=l':=by
   have hf:=congrArg γp e2.1;rw[fu,fu] at hf;exact l9 (.i .i64) (by simpa[bn.sz] using hf) e2.1
  have h5:x=x':=h2 _ _ (TC (by rw[h0,h0]) e1.2);rw[e1.1.1,h3,h4,h5]
 dom:=dom;res _:=.bH [];out a:=[.row (.i .i64) (out a) 3 true,.cells a.1.2.2.ss 27 20 false]
abbrev Kq:=Nat×List Int×bp
def AP (b:Int×Int):List Int:=[b.1,b.2]
def Kr:List Int->Option (Int×Int)
 |[a,b]=>some (a,b)
 |_=>none
theorem ac5:∀l b,Kr l=some b->l=AP b:=λl b h=>by
 unfold Kr at h;split at h;·simp only[γ] at h;subst h;rfl
 ·cases h
theorem ac6:∀b c,AP b=AP c->b=c:=λb c h=>by
 unfold AP at h;simp only[τ,and_true] at h;exact εd h.1 h.2
def v8 (b:Int×Int×Int):List Int:=[b.1,b.2.1,b.2.2]
def AQ:List Int->Option (Int×Int×Int)
 |[a,b,c]=>some (a,b,c)
 |_=>none
theorem Ks:∀l b,AQ l=some b->l=v8 b:=λl b h=>by
 unfold AQ at h;split at h;·simp only[γ] at h;subst h;rfl
 ·cases h
theorem Kt:∀b c,v8 b=v8 c->b=c:=λb c h=>by
 unfold v8 at h;simp only[τ,and_true] at h;exact εd h.1 (εd h.2.1 h.2.2)
def uD (a:Kq):Prop:=(bC a.2.2=0/\a.1=a.2.1.length)/\a.2.1.length<=1000/\∀x∈a.2.1,iz a.2.2 x
def Ku (l:List Int) (a b:Int):Prop:=0<=a/\a<=b/\b<=l.length
theorem sU {l m:List Int} (h:l=m):(bq.row (.i .i64) l 3 true).same (bq.row (.i .i64) m 3 true):=by subst h;rfl
def Kv:cY:=yv 236 3 (Int×Int×Int) v8 AQ (λ_=>rfl) Ks Kt (λa=>a.1.1=a.1.2.1.length/\a.1.2.1.length<=1000/\0<=a.2.1/\0<=a.2.2.2/\a.2.1+a.2.2.2<=a.2.2.1/\a.2.2.1+a.2.2.2<=a.1.2.1.length) λa=>jz a.1.2.1 a.2.1.toNat a.2.2.1.toNat a.2.2.2.toNat
def ac7 (n:Nat) (l:List Int) (p:bp) (a b k:Int):Nat->cB
 |1=> .inv (Int×List Int) (λx=>⟨[(0,.ow 0 n 1),(1,.si .i64 a),(2,.si .i64 b),(3,.si .i64 k),(10,.si .i64 x.1)],[.row (.i .i64) x.2 3 true,.cells p.ss 27 20 false]⟩) (λs=>(iS s 10,oS (.i .i64) s 0))
   (λx=>(0<=x.1/\x.1<=k)/\x.2=jz l a.toNat b.toNat x.1.toNat) (λx=>(k - x.1).toNat) λ_ _=> .look
 |_=> .look
theorem h363:dL Tryz.prog Kv:=by
 refine jr (L:=[]) (W:=[]) Kv (λa=>ac7 a.1.1 a.1.2.1 a.1.2.2 a.2.1 a.2.2.1 a.2.2.2) (by simp) (by simp) ?_;rintro⟨⟨n,l,p⟩,a,b,k⟩ ⟨hn,hl,a0,k0,h1,h2⟩;refine bQ (let c:=γb .i64;let d:=(0:Int);let e:=bY .i64;let f:=bq.row;let q:=SV.ow 0 n 1;let m:=bn.i .i64;let t:=f m l 3 true;let h:=bq.cells [c p.supply.a0,c p.supply.a1,c p.supply.a2,c p.supply.a3,c p.supply.a4,c p.supply.a5,c p.opn.a0,c p.opn.a1,c p.opn.a2,c p.opn.a3,c p.opn.a4,c p.opn.a5,c p.cls.a0,c p.cls.a1,c p.cls.a2,c p.cls.a3,c p.cls.a4,c p.cls.a5,γc m p.classes,γc bn.off p.offers] 27 20 false;(((q.same q/\(c a).same (c a)/\(c b).same (c b)/\(c k).same (c k)/\(γy .i64 0).same (c 0)/\True)/\t.same t/\h.same h/\True)/\(d<=d/\d<=k)/\l=jz l a.toNat b.toNat 0)/\∀(x:Int×List Int),let g:=x.snd.length;let r:=(b+x.fst).toNat;let s:=(a+x.fst).toNat;let o:=x.snd.set s (bj x.snd r d);let j:=x.fst+(1:Int);let u:=c j;let v:=o.set r (bj x.snd s d);let w:=f m v 3 true;(d<=x.fst/\x.fst<=k)/\x.snd=jz l a.toNat b.toNat x.fst.toNat->(decide (x.fst<k)=true->e (a+x.fst)/\e (b+x.fst)/\e (b+x.fst)/\n=g/\d<=b+x.fst/\b+x.fst<(↑g:Int)/\n=g/\r<g/\e (a+x.fst)/\n=g/\d<=a+x.fst/\a+x.fst<(↑g:Int)/\n=g/\s<g/\n=g/\d<=a+x.fst/\a+x.fst<(↑g:Int)/\n=g/\s<g/\n=o.length/\d<=b+x.fst/\b+x.fst<(↑o.length:Int)/\n=o.length/\r<o.length/\e j/\((q.same q/\(c a).same (c a)/\(c b).same (c b)/\(c k).same (c k)/\u.same u/\True)/\w.same w/\h.same h/\True)/\((d<=j/\j<=k)/\v=jz l a.toNat b.toNat j.toNat)/\(k - j).toNat<(k - x.fst).toNat)/\(decide (x.fst<k)=false->(SV.bH []).same (SV.bH [])/\(f m x.snd 3 true).same (f m (jz l a.toNat b.toNat k.toNat) 3 true)/\h.same h/\True)) (by kernel_rfl) ?_;simp only[vcs];have hn:n=l.length:=hn;have hl:l.length<=1000:=hl;have a0:0<=a:=a0;have k0:0<=k:=k0;have h1:a+k<=b:=h1;have h2:b+k<=l.length:=h2;refine⟨⟨⟨by omega,by omega⟩,ac2.symm⟩,?_⟩;rintro⟨i,m⟩ ⟨⟨i0,i1⟩,hm⟩;simp only at i0 i1 hm ⊢;have hml:m.length=l.length:=by rw[hm,uC]
 have e:(i+1).toNat=i.toNat+1:=by omega
 have ea:(a+i).toNat=a.toNat+i.toNat:=by omega
 have eb:(b+i).toNat=b.toNat+i.toNat:=by omega
 simp only[Ξ,hml];refine⟨λhi=>?_,λhi=>sU ?_⟩
 ·have hs:=@ac3 l a.toNat b.toNat i.toNat (by omega) (by omega);rw[<-hm] at hs;rw[e,ea,eb,hs];repeat' refine γj ?_ ?_
  all_goals first|omega|rfl
 ·rw[hm,show i=k by omega]
def Kw:cY:=yv 199 2 (Int×Int) AP Kr (λ_=>rfl) ac5 ac6 (λa=>uD a.1/\Ku a.1.2.1 a.2.1 a.2.2/\(seg a.1.2.1 a.2.1.toNat a.2.2.toNat).Pairwise (·<·)) λa=>dh (bL a.1.2.2) a.1.2.1 a.2.1.toNat a.2.2.toNat
def ac8 (n:Nat) (l:List Int) (p:bp) (a b:Int):Nat->cB
 |1=> .inv (Int×List Int) (λx=>⟨[(0,.ow 0 n 1),(1,.si .i64 a),(2,.si .i64 b),(3,.fn (.func 127) [] [.ptr 1 0 20]),(8,.si .i64 x.1)],[.row (.i .i64) x.2 3 true,.cells p.ss 27 20 false]⟩) (λs=>(iS s 8,oS (.i .i64) s 0))
   (λx=>(a<x.1/\(x.1<=b\/x.1=a+1))/\x.2=dh (bL p) l a.toNat (if a<b then x.1 else a).toNat) (λx=>(b - x.1).toNat) λx k=>match k with
    |4=> .inv (Int×List Int) (λy=>⟨[(0,.ow 0 n 1),(1,.si .i64 a),(2,.si .i64 b),(3,.fn (.func 127) [] [.ptr 1 0 20]),(8,.si .i64 x.1),(9,.si .i64 y.1)],[.row (.i .i64) y.2 3 true,.cells p.ss 27 20 false]⟩) (λs=>(iS s 9,oS (.i .i64) s 0))
      (λy=>(a<=y.1/\y.1<=x.1)/\y.2=jy (bL p) l a.toNat x.1.toNat y.1.toNat/\∀s∈(de (bL p) (seg l a.toNat x.1.toNat)).drop (y.1 - a).toNat,gx (bL p) (bj l x.1.toNat 0) s=true) (λy=>(y.1 - a).toNat) λ_ _=> .look
    |_=> .look
 |_=> .look
theorem h343:dL Tryz.prog Kw:=by
 refine jr (L:=[]) (W:=[EB]) Kw (λa=>ac8 a.1.1 a.1.2.1 a.1.2.2 a.2.1 a.2.2) (by simpa using h320) (by simp) ?_;rintro⟨⟨n,l,p⟩,a,b⟩ ⟨⟨⟨hc,hn⟩,hl,ho⟩,⟨a0,a1,a2⟩,hi⟩;refine bQ (let c:=γb .i64;let d:=(0:Int);let e:=bY .i64;let f:=bq.row;let g:=(1:Int);let m:=a+g;let o:=SV.ow 0 n 1;let q:=SV.fn (Fn.func 127) [] [γV 1 0 20];let E:=c m;let w:=bn.i .i64;let F:=f w l 3 true;let k:=bq.cells [c p.supply.a0,c p.supply.a1,c p.supply.a2,c p.supply.a3,c p.supply.a4,c p.supply.a5,c p.opn.a0,c p.opn.a1,c p.opn.a2,c p.opn.a3,c p.opn.a4,c p.opn.a5,c p.cls.a0,c p.cls.a1,c p.cls.a2,c p.cls.a3,c p.cls.a4,c p.cls.a5,γc w p.classes,γc bn.off p.offers] 27 20 false;e m/\(((o.same o/\(c a).same (c a)/\(c b).same (c b)/\q.same q/\E.same E/\True)/\F.same F/\k.same k/\True)/\(a<m/\(m<=b\/m=m))/\l=dh (bL p) l a.toNat (if a<b then m else a).toNat)/\∀(x:Int×List Int),let y:=c x.fst;let B:=f w x.snd 3 true;let r:=x.fst.toNat;let C:=de (bL p) (seg l a.toNat r);let t:=x.fst+g;let G:=c t;let N:=dh (bL p) l a.toNat (if a<b then t else a).toNat;(a<x.fst/\(x.fst<=b\/x.fst=m))/\x.snd=dh (bL p) l a.toNat (if a<b then x.fst else a).toNat->(decide (x.fst<b)=true->(((o.same o/\(c a).same (c a)/\(c b).same (c b)/\q.same q/\y.same y/\y.same y/\True)/\B.same B/\k.same k/\True)/\(a<=x.fst/\x.fst<=x.fst)/\x.snd=jy (bL p) l a.toNat r r/\∀(s:Int),s∈γ8 (x.fst - a).toNat C->gx (bL p) (bj l r d) s=true)/\∀(x_1:Int×List Int),let H:=f w x_1.snd 3 true;let v:=x_1.fst.toNat;let D:=bj x_1.snd v d;let j:=x_1.fst - g;let z:=j.toNat;let A:=bj x_1.snd z d;let h:=x_1.snd.length;let z23:Nat:=(x_1.snd.set v A).length;let I:=c j;let J:=(x_1.snd.set v A).set z D;let K:=f w J 3 true;let L:=e t/\((o.same o/\(c a).same (c a)/\(c b).same (c b)/\q.same q/\G.same G/\True)/\H.same H/\k.same k/\True)/\((a<t/\(t<=b\/t=m))/\x_1.snd=N)/\(b - t).toNat<(b - x.fst).toNat;let M:=λ(u:Bool) ↦decide (sT p D A<d)=u;((a<=x_1.fst/\x_1.fst<=x.fst)/\x_1.snd=jy (bL p) l a.toNat r v/\∀(s:Int),s∈γ8 (x_1.fst - a).toNat C->gx (bL p) (bj l r d) s=true)->(decide (a<x_1.fst)=true->n=h/\d<=x_1.fst/\x_1.fst<(↑h:Int)/\n=h/\v<h/\e j/\n=h/\d<=j/\j<(↑h:Int)/\n=h/\z<h/\(bC p=d/\iz p D/\iz p A)/\(M true->e j/\e j/\n=h/\d<=j/\j<(↑h:Int)/\n=h/\z<h/\n=h/\d<=x_1.fst/\x_1.fst<(↑h:Int)/\n=h/\v<h/\n=h/\d<=x_1.fst/\x_1.fst<(↑h:Int)/\n=h/\v<h/\n=z23/\d<=j/\j<(↑z23:Int)/\n=z23/\z<z23/\e j/\((o.same o/\(c a).same (c a)/\(c b).same (c b)/\q.same q/\y.same y/\I.same I/\True)/\K.same K/\k.same k/\True)/\((a<=j/\j<=x.fst)/\J=jy (bL p) l a.toNat r z/\∀(s:Int),s∈γ8 (j - a).toNat C->gx (bL p) (bj l r d) s=true)/\(j - a).toNat<(x_1.fst - a).toNat)/\(M false->L))/\(decide (a<x_1.fst)=false->L))/\(decide (x.fst<b)=false->(SV.bH []).same (SV.bH [])/\B.same (f w (dh (bL p) l a.toNat b.toNat) 3 true)/\k.same k/\True)) (by kernel_rfl) ?_;simp only[vcs];have hc:bC p=0:=hc;have hn:n=l.length:=hn;have hl:l.length<=1000:=hl;have ho:∀x∈l,iz p x:=ho;have a0:0<=a:=a0;have a1:a<=b:=a1;have a2:b<=l.length:=a2;have hi:(seg l a.toNat b.toNat).Pairwise (·<·):=hi;generalize hD:bL p=D at*;have sl:∀{i:Int},a<=i->i<=b->(dh D l a.toNat i.toNat).length=l.length:=λh1 h2=>yr (by omega) (by omega);refine⟨by omega,⟨⟨by omega,.inr trivial⟩,?_⟩,?_⟩
 ·by_cases hab:a<b;·rw[if_pos hab,show(a+1).toNat=a.toNat+1 by omega,acY (by omega)]
  ·rw[if_neg hab,Ko]
 rintro⟨i,m⟩ ⟨⟨i0,i1⟩,hm⟩;simp only at i0 i1 hm ⊢;refine⟨λhib=>?_,λhib=>sU ?_⟩
 ·rw[if_pos (by omega)] at hm;have hx:=ho _ (cT (d:=(0:Int)) (show i.toNat<l.length by omega));have hS:∀s∈de D (seg l a.toNat i.toNat),s<bj l i.toNat 0/\iz p s:=λs hs=>by
   have h1:=yq.1 hs;have h2:(seg l a.toNat (i.toNat+1)).Pairwise (·<·):=by
    refine hi.sublist ?_;unfold seg;exact List.take_sublist_take_left (by omega)
   rw[J9 (by omega) (by omega)] at h2;refine⟨(γZ.1 h2).2.2 s h1 _ (by simp),ho s ?_⟩;unfold seg at h1;exact γH (γn h1)
  have hSl:(de D (seg l a.toNat i.toNat)).length=i.toNat - a.toNat:=by rw[ox,kR (by omega) (by omega)]
  have il:∀{j:Nat},(jy D l a.toNat i.toNat j).length=l.length:=λ{j}=>Tf (by omega) (by omega);refine⟨⟨⟨by omega,by omega⟩,?_,?_⟩,?_⟩;·rw[hm,Ti (by omega) (by omega)]
  ·intro s hs;rw[List.drop_of_length_le (by omega)] at hs;simp at hs
  rintro⟨j,m2⟩ ⟨⟨j0,j1⟩,hm2,hle⟩;simp only at j0 j1 hm2 hle ⊢;subst hm2;simp only[Ξ,il];have fin:(j=a\/gx D (bj (de D (seg l a.toNat i.toNat)) (j.toNat - 1 - a.toNat) 0) (bj l i.toNat 0)=true)->jy D l a.toNat i.toNat j.toNat=dh D l a.toNat (if a<b then i+1 else a).toNat:=λh=>by
   rw[if_pos (by omega),show(i+1).toNat=i.toNat+1 by omega];refine Tt (by omega) (by omega) (by omega) ?_ ?_;·rw[show j.toNat - a.toNat=(j - a).toNat by omega];exact hle
   ·rcases h with h|h;·exact .inl (by omega)
    ·exact .inr h
  refine⟨λhj=>?_,λhj=>?_⟩
  ·obtain⟨k1,k2,k3⟩:=@Tn D l a.toNat i.toNat j.toNat (by omega) (by omega) (by omega);have ej:(j - 1).toNat=j.toNat - 1:=by omega
   rw[ej,k1,k2,k3];have hs:=cT (d:=(0:Int)) (show j.toNat - 1 - a.toNat<(de D (seg l a.toNat i.toNat)).length by omega);obtain⟨s1,s2⟩:=hS _ hs;have hcmp:=Tc hc hx s2;rw[hD] at hcmp;rw[hcmp];refine⟨by omega,by omega,by omega,by omega,by omega,by omega,by omega,by omega,by omega,by omega,by omega,⟨hc,hx,s2⟩,λh1=>?_,λh1=>?_⟩
   ·repeat' refine γj ?_ ?_
    all_goals first|omega|rfl|skip
    intro s hs2;rw[show(j - 1 - a).toNat=j.toNat - 1 - a.toNat by omega,γ9 (show j.toNat - 1 - a.toNat<(de D (seg l a.toNat i.toNat)).length by omega)] at hs2;rcases List.mem_cons.1 hs2 with rfl|hs2
    ·rw[<-cO (d:=(0:Int))];exact po.2 (.inl h1)
    ·refine hle s ?_;rw[show(j - a).toNat=j.toNat - 1 - a.toNat+1 by omega];exact hs2
   ·have:=fin (.inr (po.2 (by omega)));repeat' refine γj ?_ ?_
    all_goals first|omega|exact this|rfl
  ·have:=fin (.inl (by omega));repeat' refine γj ?_ ?_
   all_goals first|omega|exact this|rfl
 ·rw[hm];by_cases hab:a<b;·rw[if_pos hab,show i=b by omega]
  ·rw[if_neg hab,show a=b by omega]
theorem jA {l:List Int} {a b:Nat} (h1:a<=b):l.drop a=seg l a b++l.drop b:=by
 have:=Ψ (b - a) (l.drop a);rw[γW,show a+(b - a)=b by omega] at this;exact this.symm
theorem sV {P Q R:List Int} {a b:Nat} (ha:a=P.length) (hb:b=P.length+Q.length):seg (P++(Q++R)) a b=Q:=by
 subst ha;subst hb;unfold seg;rw[List.drop_left,show P.length+Q.length - P.length=Q.length by omega,List.take_left]
theorem Kx {D:Int->Int} {P Q R:List Int} {a b:Nat} (ha:a=P.length) (hb:b=P.length+Q.length):dh D (P++(Q++R)) a b=P++(de D Q++R):=by
 have h:=@sV P Q R a b ha hb;unfold dh;rw[h,ha,hb,List.take_left];have:(P++(Q++R)).drop (P.length+Q.length)=R:=by rw[<-γg,<-ν,List.drop_left]
 rw[this];simp
theorem yw {l:List Int} {a b:Nat} {x:Int}:x∈seg l a b↔∃k,a<=k/\k<b/\k<l.length/\bj l k 0=x:=by
 unfold seg;constructor
 ·intro h;obtain⟨j,hj,rfl⟩:=δf h;simp only[Ω,γJ] at hj;refine⟨a+j,by omega,by omega,by omega,?_⟩;rw[εR,δ9,cO (show a+j<l.length by omega)]
 ·rintro⟨k,h1,h2,h3,rfl⟩;have hj:k - a<((l.drop a).take (b - a)).length:=by simp only[Ω,γJ];omega
  have:((l.drop a).take (b - a))[k - a]=bj l k 0:=by
   rw[εR,δ9,cO h3];congr 1;omega
  rw[<-this];exact List.getElem_mem hj
theorem ac9 {D:Int->Int} {l:List Int} {a b:Nat} (h:iK D (seg l a b)) {i j:Nat} (h1:a<=i) (h2:i<j) (h3:j<b) (h4:b<=l.length):gx D (bj l i 0) (bj l j 0)=true:=by
 have hl:=kR (l:=l) (show a<=b by omega) h4;have:=List.pairwise_iff_getElem.1 h (i - a) (j - a) (by omega) (by omega) (by omega);have e1:(seg l a b)[i - a]'(by omega)=bj l i 0:=by
  unfold seg;rw[εR,δ9,cO (show i<l.length by omega)];congr 1;omega
 have e2:(seg l a b)[j - a]'(by omega)=bj l j 0:=by
  unfold seg;rw[εR,δ9,cO (show j<l.length by omega)];congr 1;omega
 rwa [e1,e2] at this
theorem ED {D:Int->Int} {x y:Int} (h:gx D x y=true):D y<=D x:=by rw[po] at h;omega
theorem ada {D:Int->Int} {x:Int}:gx D x x=true:=po.2 (by omega)
theorem EE {D:Int->Int} {l:List Int} {a b:Nat} (h:iK D (seg l a b)) {i j:Nat} (h1:a<=i) (h2:i<=j) (h3:j<b) (h4:b<=l.length):gx D (bj l i 0) (bj l j 0)=true:=by
 by_cases hij:i=j;·subst hij;exact ada
 ·exact ac9 h h1 (by omega) h3 h4
theorem uE {l:List Int} {a b c d:Nat} (h1:a<=c) (h2:d<=b):(seg l c d).Sublist (seg l a b):=by
 by_cases hcd:c<=d
 ·by_cases hb:d<=l.length
  ·have e:seg l a b=seg l a c++(seg l c d++(seg (l.take b) d b)):=by
    apply δK (bs:=l.drop b);have e1:=jA (l:=l) (show a<=b by omega);have e2:=jA (l:=l) (show a<=c by omega);have e3:=jA (l:=l) hcd;have e4:=jA (l:=l) (show d<=b by omega);have e5:seg (l.take b) d b=seg l d b:=by
     unfold seg;rw[List.drop_take,List.take_take];congr 1;omega
    rw[<-e1,e2,e3,e4,e5];simp
   rw[e];exact(List.sublist_append_left _ _).trans (ζh _ _)
  ·have e:seg l c d=l.drop c:=by unfold seg;exact γl (by rw[γJ];omega)
   have e2:seg l a b=l.drop a:=by unfold seg;exact γl (by rw[γJ];omega)
   rw[e,e2,jA (l:=l) h1];exact ζh _ _
 ·have:seg l c d=[]:=by unfold seg;rw[show d - c=0 by omega];simp
  rw[this];exact List.nil_sublist _
theorem TE {l:List Int} {a m b:Nat} (h1:a<=m) (h2:m<=b) (h3:b<=l.length):(rotR l a m b).length=l.length:=by
 unfold rotR;simp only[ν,Ω,γJ,kR h1 (show m<=l.length by omega),kR h2 h3];omega
theorem Ky {l:List Int} {a b:Nat} {x:Int} (h:x∈seg l a b):x∈l:=by
 unfold seg at h;exact γH (γn h)
theorem adb {l:List Int} {a m b:Nat} {x:Int} (h:x∈rotR l a m b):x∈l:=by
 unfold rotR at h;simp only[π] at h;rcases h with h|h|h|h;·exact γn h
 ·exact Ky h
 ·exact Ky h
 ·exact γH h
theorem AS {D:Int->Int} {l:List Int} {a b:Nat} {x:Int} (h:x∈dh D l a b):x∈l:=by
 unfold dh at h;simp only[π] at h;rcases h with(h|h)|h;·exact γn h
 ·exact Ky (yq.1 h)
 ·exact γH h
theorem ade {l:List Int} {a m b:Nat} (h1:a<=m) (h2:m<=b) (h3:b<=l.length) (h:a=m\/m=b):rotR l a m b=l:=by
 have:=TA h1 h2 h3;conv=>rhs;rw[this]
 unfold rotR;rcases h with rfl|rfl;·rw[AL];simp
 ·rw[AL];simp
theorem Kz {D:Int->Int} {l:List Int} {a b:Nat} (h1:a<=b) (h:iK D (seg l a b)):dh D l a b=l:=by
 unfold dh;rw[J8 h,γg,<-jA h1,Ψ]
theorem adf {D:Int->Int} {l:List Int} {a s m e b mid:Nat} (h1:a<=s) (h2:s<=m) (h3:m<=e) (h4:e<=b) (h5:b<=l.length) (hmid:mid=s+(e - m)) (hL:iK D (seg l a m)) (hR:iK D (seg l m b))
  (H1:∀x∈seg l a s,∀y∈seg l e b,gx D x y=true) (H2:∀x∈seg l m e,∀y∈seg l s m,gx D x y=true):
  (seg (rotR l s m e) a s=seg l a s/\seg (rotR l s m e) s mid=seg l m e/\seg (rotR l s m e) a mid=seg l a s++seg l m e)/\
  (seg (dh D (rotR l s m e) a mid) mid e=seg l s m/\seg (dh D (rotR l s m e) a mid) e b=seg l e b/\seg (dh D (rotR l s m e) a mid) mid b=seg l s m++seg l e b)/\
  dh D (dh D (rotR l s m e) a mid) mid b=dh D l a b:=by
 have la:(l.take a).length=a:=by rw[Ω];omega
 have l1:=kR (l:=l) h1 (show s<=l.length by omega);have l2:=kR (l:=l) h2 (show m<=l.length by omega);have l3:=kR (l:=l) h3 (show e<=l.length by omega);have l4:=kR (l:=l) h4 h5;have hsp:l=l.take a++(seg l a s++(seg l s m++(seg l m e++(seg l e b++l.drop b)))):=by
  rw[<-jA h4,<-jA h3,<-jA h2,<-jA h1,Ψ]
 have hts:l.take s=l.take a++seg l a s:=by
  conv=>lhs;rw[hsp]
  rw[<-γg];exact List.take_left' (by rw[ν,la,l1];omega)
 have adg:rotR l s m e=l.take a++(seg l a s++(seg l m e++(seg l s m++(seg l e b++l.drop b)))):=by
  unfold rotR;rw[hts,jA h4];simp
 have TF:seg l a m=seg l a s++seg l s m:=by
  have:=jA (l:=l) (show a<=m by omega);rw[jA h1,jA h2,<-γg] at this;exact(δK this).symm
 have hRR:seg l m b=seg l m e++seg l e b:=by
  have:=jA (l:=l) (show m<=b by omega);rw[jA h3,jA h4,<-γg] at this;exact(δK this).symm
 have hWh:seg l a b=seg l a s++(seg l s m++(seg l m e++seg l e b)):=by
  have:=jA (l:=l) (show a<=b by omega);rw[jA (show a<=m by omega),jA (show m<=b by omega),<-γg] at this;rw[<-δK this,TF,hRR];simp
 have hsr:dh D l a b=l.take a++de D (seg l a b)++l.drop b:=rfl;rw[adg,hsr,hWh];rw[TF,iK,γZ] at hL;rw[hRR,iK,γZ] at hR;generalize l.take a=A at*;generalize seg l a s=X1 at*;generalize seg l s m=X2 at*;generalize seg l m e=Y1 at*;generalize seg l e b=Y2 at*;generalize l.drop b=Z at*;have hs1:A++(X1++(Y1++(X2++(Y2++Z))))=A++((X1++Y1)++(X2++(Y2++Z))):=by simp
 have g1:dh D (A++(X1++(Y1++(X2++(Y2++Z))))) a mid=A++(de D (X1++Y1)++(X2++(Y2++Z))):=by
  rw[hs1];exact Kx (by omega) (by rw[ν];omega)
 have hs2:A++(de D (X1++Y1)++(X2++(Y2++Z)))=(A++de D (X1++Y1))++((X2++Y2)++Z):=by simp
 have lS:(de D (X1++Y1)).length=X1.length+Y1.length:=by rw[ox,ν]
 refine⟨⟨sV (by omega) (by omega),?_,?_⟩,⟨?_,?_,?_⟩,?_⟩
 ·rw[<-γg];exact sV (by rw[ν];omega) (by rw[ν];omega)
 ·rw[hs1];exact sV (by omega) (by rw[ν];omega)
 ·rw[g1,<-γg];exact sV (by rw[ν,lS];omega) (by rw[ν,lS];omega)
 ·rw[g1,<-γg,<-γg];exact sV (by rw[ν,ν,lS];omega) (by rw[ν,ν,lS];omega)
 ·rw[g1,hs2];exact sV (by rw[ν,lS];omega) (by rw[ν,ν,lS];omega)
 ·rw[g1,hs2,Kx (by rw[ν,lS];omega) (by rw[ν,ν,lS];omega)];have:de D (X1++Y1)++de D (X2++Y2)=de D (X1++(X2++(Y1++Y2))):=by
   refine AK ?_ ?_
   ·refine(ζW rM rM).trans ?_;rw[γg];refine List.Perm.append_left X1 ?_;rw[<-γg,<-γg];exact List.Perm.append_right Y2 List.perm_append_comm
   ·rw[iK,γZ];refine⟨v7,v7,λx hx y hy=>?_⟩;have hx:=yq.1 hx;have hy:=yq.1 hy;rcases π.1 hx with hx|hx
    ·rcases π.1 hy with hy|hy;·exact hL.2.2 x hx y hy
     ·exact H1 x hx y hy
    ·rcases π.1 hy with hy|hy;·exact H2 x hx y hy
     ·exact hR.2.2 x hx y hy
  rw[<-this];simp
theorem adh {A X Y B:List Int} {i j:Nat} (hi:X.length=i) (hj:Y.length=j) (h:j<i) {m:Nat} (hm:A.length+i=m):
  jz (A++(X++(Y++B))) (m - i) m j=(A++Y)++(X.drop j++(X.take j++B)):=by
 have e:A++(X++(Y++B))=A++(X.take j++(X.drop j++(Y++B))):=by
  rw[<-γg (X.take j),Ψ]
 have lt:(X.take j).length=j:=by rw[Ω];omega
 have ld:(X.drop j).length=i - j:=by rw[γJ];omega
 have hs:=@Kp A (X.take j) (X.drop j) Y B (by omega);rw[lt,ld,show A.length+j+(i - j)=m by omega] at hs;rw[e,show m - i=A.length by omega,hs];simp
theorem adi {A X Y B:List Int} {i j:Nat} (hi:X.length=i) (hj:Y.length=j) (h:i<j) {m:Nat} (hm:A.length+i=m):
  jz (A++(X++(Y++B))) (m - i) (m+j - i) i=A++(Y.drop (j - i)++(Y.take (j - i)++(X++B))):=by
 have e:A++(X++(Y++B))=A++(X++(Y.take (j - i)++(Y.drop (j - i)++B))):=by
  rw[<-γg (Y.take (j - i)),Ψ]
 have lt:(Y.take (j - i)).length=j - i:=by rw[Ω];omega
 have ld:(Y.drop (j - i)).length=i:=by rw[γJ];omega
 have hs:=@Kp A X (Y.take (j - i)) (Y.drop (j - i)) B (by omega);rw[hi,lt,show A.length+i+(j - i)=m+j - i by omega] at hs;rw[e,show m - i=A.length by omega,hs]
theorem adj {A X Y B:List Int} {i:Nat} (hi:X.length=i) (hj:Y.length=i) {m:Nat} (hm:A.length+i=m):
  jz (A++(X++(Y++B))) (m - i) m i=A++(Y++(X++B)):=by
 have hs:=@Kp A X [] Y B (by omega);simp only[δk,List.length_nil,Nat.add_zero] at hs;rw[hi,hm] at hs;rw[show m - i=A.length by omega,hs]
theorem KA {l:List Int} {a b k:Nat} (h:k<(seg l a b).length):(seg l a b)[k]=bj l (a+k) 0:=by
 have h2:bj (seg l a b) k 0=bj l (a+k) 0:=by
  have h3:k<b - a:=by
   unfold seg at h;rw[Ω] at h;omega
  unfold seg bj;rw[List.getElem?_take,if_pos h3,List.getElem?_drop]
 rwa [cO h] at h2
def mC (l:List Int) (a b c:Nat):List Int:=l.take a++((seg l (a+1) b).take c++bj l a 0::((seg l (a+1) b).drop c++l.drop b))
theorem adk {l:List Int} {a b:Nat} (h1:a<b) (h2:b<=l.length):mC l a b 0=l:=by
 unfold mC;rw[List.take_zero,List.drop_zero,δk,<-jA (by omega),<-EC (by omega),Ψ]
theorem adl {l:List Int} {a b c:Nat} (h1:a<b) (h2:b<=l.length):(mC l a b c).length=l.length:=by
 have:=kR (l:=l) (show a+1<=b by omega) h2;unfold mC;simp only[ν,γz,Ω,γJ,this];omega
theorem adn {l:List Int} {a b c:Nat} (h1:a+1+c<b) (h2:b<=l.length):
  bj (mC l a b c) (a+c) 0=bj l a 0/\bj (mC l a b c) (a+c+1) 0=bj l (a+1+c) 0/\((mC l a b c).set (a+c) (bj l (a+1+c) 0)).set (a+c+1) (bj l a 0)=mC l a b (c+1):=by
 have hl:=kR (l:=l) (show a+1<=b by omega) h2;have hc:c<(seg l (a+1) b).length:=by omega
 have hy:(seg l (a+1) b)[c]=bj l (a+1+c) 0:=KA hc;have t1:(seg l (a+1) b).take (c+1)=(seg l (a+1) b).take c++[bj l (a+1+c) 0]:=by rw[γY hc,hy]
 have t2:(seg l (a+1) b).drop c=bj l (a+1+c) 0::(seg l (a+1) b).drop (c+1):=by rw[γ9 hc,hy]
 have f1:mC l a b c=(l.take a++(seg l (a+1) b).take c)++bj l a 0::bj l (a+1+c) 0::((seg l (a+1) b).drop (c+1)++l.drop b):=by
  unfold mC;rw[t2];simp
 have f2:mC l a b (c+1)=(l.take a++(seg l (a+1) b).take c)++bj l (a+1+c) 0::bj l a 0::((seg l (a+1) b).drop (c+1)++l.drop b):=by
  unfold mC;rw[t1];simp
 have f3:(l.take a++(seg l (a+1) b).take c).length=a+c:=by
  rw[ν,Ω,Ω];omega
 rw[f1,f2];generalize l.take a++(seg l (a+1) b).take c=A at*;generalize (seg l (a+1) b).drop (c+1)++l.drop b=B at*;generalize bj l a 0=x at*;generalize bj l (a+1+c) 0=y at*;rw[<-f3];refine⟨Tj,Tm,?_⟩;rw[εr _ _ (by omega),εr _ _ (by omega)];simp
theorem ado {D:Int->Int} {l:List Int} {a b c:Nat} (h1:a+1+c<=b) (h2:b<=l.length) (hT:iK D (seg l (a+1) b)) (h3:∀s∈(seg l (a+1) b).drop c,gx D (bj l a 0) s=true) (h4:c=0\/gx D (bj l (a+c) 0) (bj l a 0)=true):mC l a b c=dh D l a b:=by
 have hl:=kR (l:=l) (show a+1<=b by omega) h2;have key:iK D ((seg l (a+1) b).take c++bj l a 0::(seg l (a+1) b).drop c):=by
  refine Tq hT h3 ?_;rcases h4 with rfl|h4;·exact .inl rfl
  ·by_cases hc:c=0;·exact .inl hc
   ·refine .inr ⟨by omega,?_⟩;have:bj (seg l (a+1) b) (c - 1) 0=bj l (a+c) 0:=by
     rw[cO (show c - 1<(seg l (a+1) b).length by omega),KA];congr 1;omega
    rw[this];exact h4
 have hs:seg l a b=bj l a 0::seg l (a+1) b:=by
  have e1:=jA (l:=l) (show a<=b by omega);rw[EC (show a<l.length by omega),jA (show a+1<=b by omega),<-γE] at e1;exact(δK e1).symm
 have hp:((seg l (a+1) b).take c++bj l a 0::(seg l (a+1) b).drop c).Perm (seg l a b):=by
  rw[hs];refine ζy.trans ?_;rw[Ψ]
 unfold mC dh;rw[<-AK hp key];simp
end Go.Vi
