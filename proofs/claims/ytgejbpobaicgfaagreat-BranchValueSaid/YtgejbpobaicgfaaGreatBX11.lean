/-
  Contracts: fractions: Mul, Div, Valid.
  Conditions: none.
-/
import Derived.Test.YtgejbpobaicgfaaGreatBX06
import Derived.Test.YtgejbpobaicgfaaGreatBX10
import Derived.Test.YtgejbpobaicgfaaGreatBX07
import Derived.Test.YtgejbpobaicgfaaGreatBX09
import Derived.Test.YtgejbpobaicgfaaGreatBX08
import Derived.Test.YtgejbpobaicgfaaGreatBX04
set_option maxRecDepth 100000
set_option maxHeartbeats 4000000
set_option linter.all false
open Classical renaming byContradiction->δ0,choose->δT
open Go.Vi.SV renaming row->Ξ,agg->γL,sb->γv,ptr->γ5,il->γu
open Int renaming mul_nonneg->γh,mul_pos->εl,le_of_lt->φ,natAbs_mul->εu,toNat_of_nonneg->εA,toNat_natCast->γm
open List renaming length->γb,length_take->γd,eq_nil_of_length_eq_zero->π,foldr_cons->ε4,foldr->ζ4,length_cons->γz,nodup_cons->δx,map_cons->ψ,set_eq_take_append_cons_drop->εN,getElem_cons_drop->ζz,range->Φ,cons_append->γJ,nodup_append->γF,ext_getElem->γ2,length_map->γs,mem_map->γk,getElem_of_mem->δb,mem_append->γt,mem_append_right->εU,length_append->θ,map_map->δq,map_congr_left->γ0,map_nil->γy,all_eq_true->γf,mem_range->δh,replicate->δ
open List.Pairwise renaming nil->δM
open List.cons renaming injEq->Δ
open Nat renaming mul_le_mul->ζh,le_refl->Θ
open Option renaming isNone_iff_eq_none->γM
open Option.some renaming injEq->γ
open Rat renaming mkRat_eq_div->δE,mkRat_self->δZ,intCast_natCast->ε3,num_eq_zero->ε2,not_le->ζS,mul_nonneg->δu
namespace Go.Vi
open Go.Proofs.YtgejbpobaicgfaaGreat.Ir
open Go.Proofs
theorem aw7 (p q:Rat):(if(!(decide (p<0)==decide (q<0)))=true then -((p.num.natAbs:Int)*(q.num.natAbs:Int)) else(p.num.natAbs:Int)*(q.num.natAbs:Int))=p.num*q.num:=by
 have a:=agy p
 have b:=agy q
 grind
theorem aqP (p q:Rat):sY (!(decide (p<0)==decide (q<0))) ((p.num.natAbs:Int)*(q.num.natAbs:Int)) ((p.den:Int)*(q.den:Int))=p*q:=by
 unfold sY
 rw[aw7,show((p.den:Int)*(q.den:Int)).toNat=p.den*q.den by omega,δE]
 have a:(p.num:Rat) / (p.den:Rat)=p:=by rw[<-δE,δZ]
 have b:(q.num:Rat) / (q.den:Rat)=q:=by rw[<-δE,δZ]
 grind
theorem aw8 {p q:Rat} (a:q≠0):sY (!(decide (p<0)==decide (q<0))) ((p.num.natAbs:Int)*(q.den:Int)) ((p.den:Int)*(q.num.natAbs:Int))=p / q:=by
 unfold sY
 rw[show((p.den:Int)*(q.num.natAbs:Int)).toNat=p.den*q.num.natAbs by omega,δE]
 have k:(p.num:Rat) / (p.den:Rat)=p:=by rw[<-δE,δZ]
 have d:(q.num:Rat) / (q.den:Rat)=q:=by rw[<-δE,δZ]
 have m:(p.den:Rat)≠0:=by have:=p.den_nz;simp_all
 have o:(q.den:Rat)≠0:=by grind
 have e:=agy p
 have g:=agy q
 have n:(q.num:Rat)≠0:=λh=>a (by grind)
 rw[Rat.natCast_mul]
 conv=>rhs;rw[<-k,<-d]
 have f:((p.num.natAbs:Int):Rat)=(p.num.natAbs:Rat):=ε3 _
 have c:((q.num.natAbs:Int):Rat)=(q.num.natAbs:Rat):=ε3 _
 have i:((q.den:Int):Rat)=(q.den:Rat):=ε3 _
 have j:(p.num:Rat)=if decide (p<0)=true then -(p.num.natAbs:Rat) else(p.num.natAbs:Rat):=by
  rw[<-f];conv=>lhs;rw[e]
  split<;>grind
 have b:(q.num:Rat)=if decide (q<0)=true then -(q.num.natAbs:Rat) else(q.num.natAbs:Rat):=by
  rw[<-c];conv=>lhs;rw[g]
  split<;>grind
 have l:((if(!(decide (p<0)==decide (q<0)))=true then -((p.num.natAbs:Int)*(q.den:Int)) else(p.num.natAbs:Int)*(q.den:Int):Int):Rat)=if(!(decide (p<0)==decide (q<0)))=true then -((p.num.natAbs:Rat)*(q.den:Rat)) else(p.num.natAbs:Rat)*(q.den:Rat):=by
  split<;>grind
 grind
def amM:fN:=⟨145,fi×fi,.cons (Ac sF) (.one (Ac sF)),λa=>lT a.1/\lT a.2,λa=>XA (fa a.1*fa a.2)⟩
theorem h410:Holds Tryz.prog amM:=by
 refine kh (L:=[ah1,ah7]) amM lk (by grind[h153,h126]) ?_
 rintro⟨x,y⟩ ⟨⟨p,i,n,f,M⟩,⟨q,j,o,l,G⟩⟩
 simp only at n o
 subst n o
 refine gp (let f:=Ξ;let c:=(cC p).snd.fst;let k:=(cC q).snd.fst;let g:=(cC p).snd.snd;let h:=(cC q).snd.snd;let m:=ey (bD c*bD k);let b:=ey (bD g*bD h);let d:=cC (sY (!(cC p).fst==(cC q).fst) (bD m) (bD b));let a:=cn.i .u32;let e:=cC (fa (cC p)*fa (cC q));((cQ c/\cQ k)/\γb c<=100000000000/\γb k<=100000000000)/\((cQ g/\cQ h)/\γb g<=100000000000/\γb h<=100000000000)/\((cQ m/\cQ b)/\(m.length<=1000000000/\b.length<=1000000000)/\(0:Int)<bD b)/\(γL [γv d.fst,f a d.snd.fst,f a d.snd.snd]).same (γL [γv e.fst,f a e.snd.fst,f a e.snd.snd])) (by kernel_rfl) ?_
 conv=>zeta
 obtain⟨t,⟨P,_,s⟩,⟨E,_,v⟩⟩:=QY p
 obtain⟨u,⟨J,_,z⟩,⟨I,_,A⟩⟩:=QY q
 obtain⟨D,F⟩:=aaD f
 obtain⟨O,N⟩:=aaD l
 have C:=p.den_pos
 have K:=q.den_pos
 rw[s,v,z,A,t,u,sy,sy]
 have r:0<=(p.num.natAbs:Int)*(q.num.natAbs:Int):=γh (by omega) (by omega)
 have w:0<(p.den:Int)*(q.den:Int):=εl (by omega) (by omega)
 have H:=Lq r (aa8 (by omega) f.1 l.1)
 have B:=Lq (φ w) (aa8 (by omega) f.2 l.2)
 grind[ri,afo,aqP]
def amN:fN:=⟨169,fi×fi,.cons (Ac sF) (.one (Ac sF)),λa=>(lT a.1/\lT a.2)/\fa a.2≠0,λa=> .eW [XA (fa a.1 / fa a.2),.si .i64 0]⟩
theorem h416:Holds Tryz.prog amN:=by
 refine kh (L:=[ah1,ajQ]) amN lk (by grind[h153,h151]) ?_
 rintro⟨x,y⟩ ⟨⟨⟨p,i,v,f,X⟩,⟨q,j,u,m,Q⟩⟩,a⟩
 simp only at v u a
 subst v u
 refine gp (let a:=Ξ;let g:=(cC p).snd.fst;let d:=(cC q).snd.snd;let r:=(cC p).snd.snd;let e:=(cC q).snd.fst;let k:=ey (bD g*bD d);let c:=ey (bD r*bD e);let l:=cC (sY (!(cC p).fst==(cC q).fst) (bD k) (bD c));let b:=cn.i .u32;let t:=[SV.si .i64 0];let o:=cC (fa (cC p) / fa (cC q));((cQ g/\cQ d)/\γb g<=100000000000/\γb d<=100000000000)/\((cQ r/\cQ e)/\γb r<=100000000000/\γb e<=100000000000)/\((cQ k/\cQ c)/\(k.length<=1000000000/\c.length<=1000000000)/\(0:Int)<bD c)/\(SV.eW (γL [γv l.fst,a b l.snd.fst,a b l.snd.snd]::t)).same (SV.eW (γL [γv o.fst,a b o.snd.fst,a b o.snd.snd]::t))) (by kernel_rfl) ?_
 conv=>zeta
 rw[sy] at a
 obtain⟨E,⟨C,_,M⟩,⟨K,_,I⟩⟩:=QY p
 obtain⟨B,⟨z,_,J⟩,⟨F,_,A⟩⟩:=QY q
 obtain⟨V,O⟩:=aaD f
 obtain⟨S,W⟩:=aaD m
 have T:=p.den_pos
 have Z:=q.den_pos
 have R:q.num≠0:=λh=>a (ε2.1 h)
 rw[M,I,J,A,E,B,sy,sy]
 have s:0<=(p.num.natAbs:Int)*(q.den:Int):=γh (by omega) (by omega)
 have n:0<(p.den:Int)*(q.num.natAbs:Int):=εl (by omega) (by omega)
 have Y:=Lq s (aa8 (by omega) f.1 m.2)
 have N:=Lq (φ n) (aa8 (by omega) f.2 m.1)
 obtain⟨G,H,P⟩:=ri s
 obtain⟨w,D,U⟩:=ri (φ n)
 rw[G,w,aw8 a]
 refine⟨⟨⟨C,F⟩,?_,?_⟩,⟨⟨K,z⟩,?_,?_⟩,⟨⟨H,D⟩,⟨?_,?_⟩,n⟩,rfl⟩<;>omega
def aqQ:fN:=⟨161,List Int,.one (mA (.i .u32)),λa=>cQ (show List Int from a)/\(show List Int from a).length<=1000000000,λa=> .sb (ZX a)⟩
theorem h414:Holds Tryz.prog aqQ:=by
 refine kh (L:=[adH]) aqQ lk (by grind[h152]) ?_
 rintro(a:List Int) h
 refine gp (a.length<=1000000000000/\(γv (decide ((↑(eZ a).length:Int)=(↑a.length:Int)))).same (γv (ZX a))) (by kernel_rfl) ?_
 simp only[vcs]
 obtain⟨f,d⟩:cQ a/\a.length<=1000000000:=h
 refine⟨by omega,?_⟩
 cases c:ZX a with
 |true=>
  grind[acZ,aek,abG]
 |false=>
  refine decide_eq_false λb=>?_
  have e:eZ a=a:=by
   unfold eZ at b ⊢;rw[γd] at b
   exact List.take_of_length_le (by omega)
  grind[adJ,abG]
def aqR:fN:=⟨162,fi,.one (Ac sF),λx=>x.2.1.length<=1000000000,λx=> .agg [.sb x.1,.sb (decide (x.2.1=[]))]⟩
theorem h415:Holds Tryz.prog aqR:=by
 refine kh (L:=[]) aqR lk (by simp) ?_
 rintro⟨s,n,d⟩ h
 refine gp (let a:=γv;(γL [a s,a (decide ((↑n.length:Int)=(0:Int)))]).same (γL [a s,a (decide (n=[]))])) (by kernel_rfl) ?_
 have e:decide ((n.length:Int)=0)=decide (n=[]):=by
  simp_all
 rw[e];rfl
def aia:fN:=⟨125,fi,.one (Ac sF),λx=>(cQ x.2.1/\cQ x.2.2)/\x.2.1.length<=1000000/\x.2.2.length<=1000000,λx=> .sb (okF x)⟩
theorem h407:Holds Tryz.prog aia:=by
 refine kh (L:=[aqQ,aqR,ams,ah6,ahO]) aia lk (by grind[h414,h415,h165g,h128,h132]) ?_
 rintro⟨s,n,d⟩ ⟨⟨m,f⟩,j,k⟩
 refine gp (let a:=SV.bl false;let b:=(0:Int);let c:=(1:Int);let l:=γv (okF (s,n,d));let w:=decide ((↑d.length:Int)=b);let x:=s==true&&(decide (n=[])==true&&true);let p:=ey (q9 (bD n) (bD d));let t:=ey c;(cQ n/\n.length<=1000000000)/\((!ZX n)=true->(a).same l)/\((!ZX n)=false->(cQ d/\d.length<=1000000000)/\((!ZX d)=true->(a).same l)/\((!ZX d)=false->(w=true->(a).same l)/\(w=false->n.length<=1000000000/\(x=true->(a).same l)/\(x=false->((cQ n/\cQ d)/\n.length<=1000000000/\d.length<=1000000000)/\(b<=c/\c<(18446744073709551616:Int))/\((cQ p/\cQ t)/\p.length<=1000000000000/\t.length<=1000000000000)/\(γv (decide (Ig (bD p) (bD t)=b))).same l))))) (by kernel_rfl) ?_
 simp only[vcs]
 have m:cQ n:=m
 have f:cQ d:=f
 have j:n.length<=1000000:=j
 have k:d.length<=1000000:=k
 have c:¬(qH n/\qH d/\d≠[])->false=okF (s,n,d):=λh=>by
  grind[aw6]
 have e:∀{a:List Int},((a.length:Nat):Int)=0->a=[]:=λh=>π (by omega)
 have b:∀{a:List Int},¬((a.length:Nat):Int)=0->a≠[]:=λh i=>h (by rw[i];rfl)
 refine⟨⟨m,by omega⟩,λu=>c λh=>?_,λu=>⟨⟨f,by omega⟩,λi=>c λh=>?_,λi=>⟨λo=>c λh=>h.2.2 (e o),λo=>⟨by omega,λC=>?_,λC=>?_⟩⟩⟩⟩
 ·grind[abG]
 ·grind[abG]
 all_goals
  have E:=okF_eq (s:=s) m f (abG.1 u) (abG.1 i) (b o)
  have D:=amL f (abG.1 i) (b o)
  have J:=@aqN (bD n) (bD d) D
  obtain⟨H,v,A⟩:=ri (show 0<=q9 (bD n) (bD d) by omega)
  obtain⟨B,G,I⟩:=ri (show(0:Int)<=1 by omega)
  have y:q9 (bD n) (bD d)<=bD d:=by
   unfold q9
   have:=Nat.gcd_le_right (bD n).toNat (show 0<(bD d).toNat by omega)
   omega
  rw[E]
 ·simp_all
 ·have F:=agw v f A (by omega)
  refine⟨⟨⟨m,f⟩,by omega,by omega⟩,by omega,⟨⟨v,G⟩,by omega,by decide⟩,?_⟩
  rw[H,B]
  have r:(Ig (q9 (bD n) (bD d)) 1=0)=(q9 (bD n) (bD d)=1):=by
   grind[Ig]
  simp only[r]
  by_cases g:n=[]
  ·rw[if_pos g]
   have z:s=false:=by
    simp_all
   have q:q9 (bD n) (bD d)=bD d:=by
    rw[g];unfold q9;simp[bD];omega
   rw[q,z,Bool.not_false,Bool.true_and,decide_eq_decide]
   constructor
   ·intro h
    rw[<-aek f (abG.1 i),h];rfl
   ·intro h
    rw[h];rfl
  ·rw[if_neg g]
theorem aev {p q:Rat} {i j:Nat} (b:Sz i p) (a:Sz j q):Sz (i+j) (p*q):=by
 rw[<-aqP];unfold sY;rw[aw7]
 have c:=p.den_pos
 have d:=q.den_pos
 have e:0<(p.den:Int)*(q.den:Int):=εl (by omega) (by omega)
 refine ajJ (by omega) ?_ ?_
 ·rw[εu,Int.natCast_mul]
  exact aa8 (by omega) b.1 a.1
 ·rw[εA (by omega)]
  exact aa8 (by omega) b.2 a.2
theorem aqS {p q:Rat} {i j:Nat} (c:Sz i p) (b:Sz j q) (d:q≠0):Sz (i+j) (p / q):=by
 rw[<-aw8 d];unfold sY
 have e:=p.den_pos
 have f:=q.den_pos
 have l:q.num≠0:=λh=>d (ε2.1 h)
 have k:0<(p.den:Int)*(q.num.natAbs:Int):=εl (by omega) (by omega)
 have g:=aa8 (a:=(p.num.natAbs:Int)) (by omega) c.1 b.2
 refine ajJ (by omega) ?_ ?_
 ·grind
 ·rw[εA (by omega)]
  exact aa8 (by omega) c.2 b.1
theorem aFq {p q:Rat}:0<Kr p q↔q<p:=by
 grind[Kr]
theorem aFr {p q:Rat}:Kr p q=0↔p=q:=by
 grind[Kr]
def wed (c:Nat->Rat):(List Nat->Rat)->List Nat->Rat
 |_,[]=>0
 |f,i::R=>c i*f R - wed c (λl=>f (i::l)) R
theorem aqT {c:Nat->Rat}:∀{R:List Nat},wed c (λ_=>0) R=0
 |[]=>rfl
 |i::R=>by simp only[wed,aqT];grind
theorem aqU {c:Nat->Rat} {p q:Rat}:∀{R:List Nat} {f g:List Nat->Rat},wed c (λl=>p*f l+q*g l) R=p*wed c f R+q*wed c g R
 |[],_,_=>by grind[wed]
 |i::R,f,g=>by
  simp only[wed,@aqU c p q R]
  grind
theorem aw9 {c d:Nat->Rat} {p q:Rat}:∀{R:List Nat} {f:List Nat->Rat},wed (λi=>p*c i+q*d i) f R=p*wed c f R+q*wed d f R
 |[],_=>by grind[wed]
 |i::R,f=>by
  simp only[wed,@aw9 c d p q R]
  grind
theorem axa {c:Nat->Rat} {p:Rat} {R:List Nat} {f g:List Nat->Rat}:wed c (λl=>p*f l - g l) R=p*wed c f R - wed c g R:=by
 have:=@aqU c p (-1) R f g
 grind
theorem aqV {a b:Nat->Rat}:∀{R:List Nat} {f:List Nat->Rat},wed a (wed b f) R= - wed b (wed a f) R
 |[],_=>by grind[wed]
 |i::R,f=>by
  have d:wed a (λl=>wed b f (i::l)) R=b i*wed a f R - wed a (wed b λl=>f (i::l)) R:=axa
  have c:wed b (λl=>wed a f (i::l)) R=a i*wed b f R - wed b (wed a λl=>f (i::l)) R:=axa
  have h:=@aqV a b R λl=>f (i::l)
  grind[wed]
theorem aFs {a:Nat->Rat} {f:List Nat->Rat}:wed a (wed a f)=λ_=>0:=by
 grind[aqV]
def aib (R:List Nat):Rat:=if R=[] then 1 else 0
def QZ (cs:List (Nat->Rat)):List Nat->Rat:=cs.foldr wed aib
theorem axb {c:Nat->Rat} {cs:List (Nat->Rat)}:QZ (c::cs)=wed c (QZ cs):=rfl
theorem axc {a:Nat->Rat}:∀{cs:List (Nat->Rat)} {f:List Nat->Rat},wed a (cs.foldr wed (wed a f))=λ_=>0
 |[],f=>aFs
 |c::cs,f=>by
  funext R
  simp only[ε4];rw[aqV,@axc a cs f,aqT];rfl
theorem fold_zero:∀{cs:List (Nat->Rat)},cs.foldr wed (λ_=>0)=λ_=>0
 |[]=>rfl
 |c::cs=>by
  rw[ε4,fold_zero]
  grind[aqT]
theorem axd {a:Nat->Rat} {p m q:List (Nat->Rat)}:QZ (p++a::(m++a::q))=λ_=>0:=by
 grind[QZ,axc,fold_zero]
theorem axe {p q:Rat}:∀{cs:List (Nat->Rat)} {f g:List Nat->Rat} {R:List Nat},cs.foldr wed (λl=>p*f l+q*g l) R=p*cs.foldr wed f R+q*cs.foldr wed g R
 |[],_,_,_=>rfl
 |c::cs,f,g,R=>by
  simp only[ε4];rw[<-aqU]
  congr 1
  funext l
  exact axe
theorem axf {c d:Nat->Rat} {p q:Rat} {a b:List (Nat->Rat)} {R:List Nat}:QZ (a++(λi=>p*c i+q*d i)::b) R=p*QZ (a++c::b) R+q*QZ (a++d::b) R:=by
 unfold QZ;simp only[List.foldr_append,ε4];rw[<-axe]
 have e:wed (λi=>p*c i+q*d i) (ζ4 wed aib b)=λl=>p*wed c (ζ4 wed aib b) l+q*wed d (ζ4 wed aib b) l:=by
  grind[aw9]
 rw[e]
def yx (M:Nat) (q:Rat):Prop:=∃z:Int,q=(z:Rat)/\z.natAbs<=M
theorem axg {c:Nat->Rat} {M K:Nat}:∀{R:List Nat} {f:List Nat->Rat},(∀i∈R,yx M (c i))->(∀l,l.length+1=R.length->(∀i∈l,i∈R)->yx K (f l))->yx (R.length*(M*K)) (wed c f R)
 |[],_,_,_=>⟨0,by simp[wed],by simp⟩
 |i::R,f,e,g=>by
  simp only[wed,γz]
  obtain⟨y,q,h⟩:=@axg c M K R (λl=>f (i::l)) (λj a=>e j (by simp[a])) λl n p=>g _ (by simp_all) λj a=>by
   grind
  obtain⟨u,o,b⟩:=e i (by simp)
  obtain⟨v,k,d⟩:=g R (by simp) λj a=>by simp[a]
  refine⟨u*v - y,?_,?_⟩
  ·simp_all
  ·have m:(u*v).natAbs<=M*K:=by
    rw[εu]
    exact ζh b d
   grind
def aa9 (M:Nat):Nat->Nat
 |0=>1
 |n+1=>(n+1)*(M*aa9 M n)
theorem amO {M:Nat}:∀{cs:List (Nat->Rat)} {R:List Nat},cs.length=R.length->(∀c∈cs,∀i∈R,yx M (c i))->yx (aa9 M R.length) (QZ cs R)
 |[],R,b,_=>by
  have:R=[]:=π (by simp_all)
  subst this
  exact⟨1,by simp[QZ,aib],by simp[aa9]⟩
 |c::cs,R,b,e=>by
  rw[axb]
  cases R with
  |nil=>simp at b
  |cons i R=>
   simp only[γz,aa9]
   refine axg (e c (by simp)) λl a g=>?_
   simp only[γz] at b a
   rw[show R.length=l.length by omega]
   exact amO (by omega) λd f j h=>e d (by simp[f]) j (g j h)
def aic (k:Nat):Nat->Rat:=λi=>if i=k then 1 else 0
theorem axh {c:Nat->Rat}:∀{R:List Nat} {f:List Nat->Rat},(∀i∈R,c i=0)->wed c f R=0
 |[],_,_=>rfl
 |i::R,f,h=>by
  simp only[wed]
  rw[h i (by simp),axh λj a=>h j (by simp[a])]
  grind
theorem axi:∀{R:List Nat},R.Nodup->QZ (R.map aic) R=1
 |[],_=>by simp[QZ,aib]
 |i::R,h=>by
  rw[δx] at h;rw[ψ,axb];simp only[wed]
  rw[axh (c:=aic i) (R:=R) λj a=>by
   unfold aic
   grind]
  rw[axi h.2];unfold aic
  grind
def jd (n:Nat) (f:Nat->Rat):Rat:=match n with
 |0=>0
 |n+1=>jd n f+f n
theorem q0:∀{n:Nat} {f g:Nat->Rat},(∀i,i<n->f i=g i)->jd n f=jd n g
 |0,_,_,_=>rfl
 |n+1,f,g,h=>by simp only[jd];rw[q0 λi a=>h i (by omega),h n (by omega)]
theorem ajV:∀{n:Nat} {f g:Nat->Rat},jd n (λi=>f i+g i)=jd n f+jd n g
 |0,_,_=>by grind[jd]
 |n+1,f,g=>by simp only[jd];rw[ajV];grind
theorem aie {c:Rat}:∀{n:Nat} {f:Nat->Rat},jd n (λi=>c*f i)=c*jd n f
 |0,_=>by grind[jd]
 |n+1,f=>by simp only[jd];rw[aie];grind
theorem Ls:∀{n:Nat},jd n (λ_=>0)=0
 |0=>rfl
 |n+1=>by simp only[jd];rw[Ls];grind
theorem agA {k:Nat} {x:Rat}:∀{n:Nat},jd n (λi=>if i=k then x else 0)=if k<n then x else 0
 |0=>by simp[jd]
 |n+1=>by
  simp only[jd];rw[agA]
  grind
theorem amP {n k:Nat} {f:Nat->Rat} (h:k<n):jd n f=f k+jd n λi=>if i=k then 0 else f i:=by
 have a:=@agA k (f k) n
 rw[if_pos h] at a;rw[<-a,<-ajV]
 grind[q0]
theorem axj {a b:List (Nat->Rat)} {R:List Nat} {y:Nat->Rat} {T:Nat->Nat->Rat}:∀{n:Nat},QZ (a++(λi=>jd n λk=>y k*T k i)::b) R=jd n λk=>y k*QZ (a++T k::b) R
 |0=>by
  have e:(λi:Nat=>jd 0 λk=>y k*T k i)=λi=>(0:Rat)*(λ_=>0) i+0*(λ_=>0) i:=by grind[jd]
  rw[e,axf]
  grind[jd]
 |n+1=>by
  have e:(λi:Nat=>jd (n+1) λk=>y k*T k i)=λi=>(1:Rat)*(λi=>jd n λk=>y k*T k i) i+y n*T n i:=by
   grind[jd]
  rw[e,axf,axj]
  grind[jd]
theorem aFt {C:List (Nat->Rat)} {R:List Nat} {y:Nat->Rat} {r:Nat} (f:r<C.length):QZ (C.set r (λi=>jd C.length λk=>y k*(C.getD k (λ_=>0)) i)) R=y r*QZ C R:=by
 have a:∀c:Nat->Rat,C.set r c=C.take r++c::C.drop (r+1):=λc=>by rw[εN,if_pos f]
 rw[a,axj,amP f]
 have m:∀k,k<C.length->(if k=r then(0:Rat) else y k*QZ (C.take r++C.getD k (λ_=>0)::C.drop (r+1)) R)=0:=by
  intro k g;split
  ·rfl
  ·rename_i e
   have o:QZ (C.take r++C.getD k (λ_=>0)::C.drop (r+1)) R=0:=by
    have n:C.getD k (λ_=>0)=C[k]:=by simp_all
    rw[n]
    rcases Nat.lt_or_gt_of_ne e with h|h
    ·have j:C.take r=C.take k++C[k]::(C.drop (k+1)).take (r - (k+1)):=by
      have b:C[k]::C.drop (k+1)=C.drop k:=ζz g
      obtain⟨d,rfl⟩:∃d,r=k+(d+1):=⟨r - (k+1),by omega⟩
      rw[List.take_add,<-b,List.take_succ_cons,show k+(d+1) - (k+1)=d by omega]
     grind[axd]
    ·have j:C.drop (r+1)=(C.drop (r+1)).take (k - (r+1))++C[k]::C.drop (k+1):=by
      have b:C[k]::C.drop (k+1)=C.drop k:=ζz g
      rw[b]
      have l:=List.take_append_drop (k - (r+1)) (C.drop (r+1))
      rw[List.drop_drop,show r+1+(k - (r+1))=k by omega] at l
      exact l.symm
     rw[j,axd]
   simp_all
 rw[q0 m,Ls]
 have b:C.take r++C.getD r (λ_=>0)::C.drop (r+1)=C:=by
  simp_all
 rw[b]
 grind
structure Tb where
 jA:List (List Rat)
 bound:List Rat
 cost:List Rat
 value:Rat
 basic:List Int
 free:List Int
namespace Tb
def cf (t:Tb) (i j:Nat):Rat:=bC (bC t.jA i []) j 0
def bd (t:Tb) (i:Nat):Rat:=bC t.bound i 0
def cs (t:Tb) (j:Nat):Rat:=bC t.cost j 0
def bv (t:Tb) (i:Nat):Int:=bC t.basic i 0
def fv (t:Tb) (j:Nat):Int:=bC t.free j 0
structure WF (n m:Nat) (t:Tb):Prop where
 jA:t.jA.length=m
 row:∀i,i<m->(bC t.jA i []).length=n
 bound:t.bound.length=m
 cost:t.cost.length=n
 basic:t.basic.length=m
 free:t.free.length=n
def holds (n m:Nat) (t:Tb) (x:Int->Rat) (z:Rat):Prop:=
 (∀i,i<m->x (t.bv i)+jd n (λj=>t.cf i j*x (t.fv j))=t.bd i)/\z=t.value+jd n λj=>t.cs j*x (t.fv j)
end Tb
def Sv (l:List Rat) (c:Nat) (p:List Rat):List Rat:=(Φ l.length).map λj=>if j=c then -(bC l c 0*bC p j 0) else bC l j 0 - bC l c 0*bC p j 0
def Uc (l:List Rat) (c:Nat):List Rat:=(Φ l.length).map λj=>if j=c then 1 / bC l c 0 else bC l j 0*(1 / bC l c 0)
def A7 (t:Tb) (r c:Nat):Tb where
 jA:=(Φ t.jA.length).map λi=>if i=r then Uc (bC t.jA r []) c else Sv (bC t.jA i []) c (Uc (bC t.jA r []) c)
 bound:=(Φ t.bound.length).map λi=>if i=r then t.bd r*(1 / t.cf r c) else t.bd i - t.cf i c*(t.bd r*(1 / t.cf r c))
 cost:=Sv t.cost c (Uc (bC t.jA r []) c)
 value:=t.value+t.cs c*(t.bd r*(1 / t.cf r c))
 basic:=t.basic.set r (t.fv c)
 free:=t.free.set c (t.bv r)
theorem ac7 {a:Type} {f:Nat->a} {n i:Nat} {d:a} (h:i<n):bC ((Φ n).map f) i d=f i:=by
 grind[my]
theorem ab4 {a:Type} {l:List a} {r i:Nat} {x d:a} (h:r<l.length):bC (l.set r x) i d=if i=r then x else bC l i d:=by
 unfold bC
 grind
section
variable {n m:Nat} {t:Tb} {r c:Nat}
theorem axk {l:List Rat}:(Uc l c).length=l.length:=by simp[Uc]
theorem amQ {l p:List Rat}:(Sv l c p).length=l.length:=by simp[Sv]
theorem aqW {l:List Rat} {j:Nat} (h:j<l.length):bC (Uc l c) j 0=if j=c then 1 / bC l c 0 else bC l j 0*(1 / bC l c 0):=ac7 h
theorem amR {l p:List Rat} {j:Nat} (h:j<l.length):bC (Sv l c p) j 0=if j=c then -(bC l c 0*bC p j 0) else bC l j 0 - bC l c 0*bC p j 0:=ac7 h
theorem axl (h:t.WF n m):(A7 t r c).WF n m where
 jA:=by simp[A7,h.jA]
 row i a:=by
  simp only[A7]
  rw[ac7 (by rw[h.jA];exact a)]
  split
  ·rename_i e;subst e;rw[axk,h.row _ a]
  ·rw[amQ,h.row _ a]
 bound:=by simp[A7,h.bound]
 cost:=by simp only[A7];rw[amQ,h.cost]
 basic:=by simp[A7,h.basic]
 free:=by simp[A7,h.free]
theorem ajW (h:t.WF n m) (b:r<m) (e:c<n) {i j:Nat} (d:i<m) (a:j<n):(A7 t r c).cf i j=
  if i=r then(if j=c then 1 / t.cf r c else t.cf r j*(1 / t.cf r c)) else if j=c then -(t.cf i c*(1 / t.cf r c)) else t.cf i j - t.cf i c*(t.cf r j*(1 / t.cf r c)):=by
 unfold Tb.cf;simp only[A7]
 rw[ac7 (by rw[h.jA];exact d)]
 split
 ·rw[aqW (by rw[h.row _ b];exact a)]
 ·rw[amR (by rw[h.row _ d];exact a)]
  rw[aqW (by rw[h.row _ b];exact a)]
  simp_all
theorem amS (h:t.WF n m) {i:Nat} (a:i<m):(A7 t r c).bd i=if i=r then t.bd r*(1 / t.cf r c) else t.bd i - t.cf i c*(t.bd r*(1 / t.cf r c)):=by
 show bC _ i 0=_
 simp only[A7]
 rw[ac7 (by rw[h.bound];exact a)]
theorem axm (h:t.WF n m) (b:r<m) {j:Nat} (a:j<n):(A7 t r c).cs j=if j=c then -(t.cs c*(1 / t.cf r c)) else t.cs j - t.cs c*(t.cf r j*(1 / t.cf r c)):=by
 show bC _ j 0=_
 simp only[A7]
 rw[amR (by rw[h.cost];exact a),aqW (by rw[h.row _ b];exact a)]
 split
 ·rfl
 ·rfl
theorem aqX (h:t.WF n m) (a:r<m) {i:Nat}:(A7 t r c).bv i=if i=r then t.fv c else t.bv i:=ab4 (by rw[h.basic];exact a)
theorem aqY (h:t.WF n m) (a:c<n) {j:Nat}:(A7 t r c).fv j=if j=c then t.bv r else t.fv j:=ab4 (by rw[h.free];exact a)
theorem piv_holds (h:t.WF n m) (b:r<m) (k:c<n) (K:t.cf r c≠0) {x:Int->Rat} {z:Rat}:(A7 t r c).holds n m x z↔t.holds n m x z:=by
 have d:∀f:Nat->Rat,jd n (λj=>f j*x (t.fv j))=f c*x (t.fv c)+jd n (λj=>if j=c then 0 else f j*x (t.fv j)):=λf=>amP k
 have e:∀f:Nat->Rat,jd n (λj=>f j*x ((A7 t r c).fv j))=f c*x (t.bv r)+jd n (λj=>if j=c then 0 else f j*x (t.fv j)):=λf=>by
  rw[amP k,aqY h k,if_pos rfl]
  congr 1
  refine q0 λj _=>?_
  split
  ·rfl
  ·rename_i p;rw[aqY h k,if_neg p]
 have I:jd n (λj=>if j=c then 0 else(A7 t r c).cf r j*x (t.fv j))=(1 / t.cf r c)*jd n (λj=>if j=c then 0 else t.cf r j*x (t.fv j)):=by
  rw[<-aie]
  refine q0 λj p=>?_
  split
  ·grind
  ·rename_i l
   rw[ajW h b k b p,if_pos rfl,if_neg l]
   grind
 have E:∀f g:Nat->Rat,∀q:Rat,(∀j,j<n->j≠c->g j=f j - q*(t.cf r j*(1 / t.cf r c)))->jd n (λj=>if j=c then 0 else g j*x (t.fv j))=jd n (λj=>if j=c then 0 else f j*x (t.fv j))+(-(q*(1 / t.cf r c)))*jd n (λj=>if j=c then 0 else t.cf r j*x (t.fv j)):=λf g q L=>by
  rw[<-aie,<-ajV]
  refine q0 λj p=>?_
  grind
 have J:∀j,j<n->j≠c->(A7 t r c).cs j=t.cs j - t.cs c*(t.cf r j*(1 / t.cf r c)):=λj p l=>by rw[axm h b p,if_neg l]
 have B:∀i,i<m->i≠r->∀j,j<n->j≠c->(A7 t r c).cf i j=t.cf i j - t.cf i c*(t.cf r j*(1 / t.cf r c)):=λi o a j p l=>by rw[ajW h b k o p,if_neg a,if_neg l]
 have G:=E t.cs _ _ J
 have v:=axm (c:=c) h b k
 rw[if_pos rfl] at v
 have s:=ajW h b k b k
 rw[if_pos rfl,if_pos rfl] at s
 have w:=amS (r:=r) (c:=c) h b
 rw[if_pos rfl] at w
 have u:=aqX (c:=c) (i:=r) h b
 rw[if_pos rfl] at u
 have H:(A7 t r c).value=t.value+t.cs c*(t.bd r*(1 / t.cf r c)):=rfl
 unfold Tb.holds
 constructor
 ·rintro⟨A,F⟩
  have C:=A r b
  rw[e,I,s,u,w] at C
  refine⟨λi o=>?_,?_⟩
  ·by_cases a:i=r
   ·subst a
    rw[d]
    grind
   ·have D:=A i o
    have y:=ajW h b k o k
    rw[if_neg a,if_pos rfl] at y;rw[e,E _ _ _ (B i o a),aqX h b,if_neg a,amS h o,if_neg a,y] at D;rw[d]
    grind
  ·rw[e,G,v,H] at F
   rw[d]
   grind
 ·rintro⟨A,F⟩
  have C:=A r b
  rw[d] at C
  refine⟨λi o=>?_,?_⟩
  ·by_cases a:i=r
   ·subst a
    rw[e,I,s,u,w]
    grind
   ·have D:=A i o
    have y:=ajW h b k o k
    rw[if_neg a,if_pos rfl] at y;rw[e,E _ _ _ (B i o a),aqX h b,if_neg a,amS h o,if_neg a,y];rw[d] at D
    grind
  ·rw[e,G,v,H]
   rw[d] at F
   grind
end
def ZZ (f:Int->Rat):List Int->Rat
 |[]=>0
 |x::l=>f x+ZZ f l
theorem ajX {f:Int->Rat}:∀{l k:List Int},ZZ f (l++k)=ZZ f l+ZZ f k
 |[],k=>by grind[ZZ]
 |x::l,k=>by simp only[γJ,ZZ,@ajX f l k];grind
theorem aqZ {f:Int->Rat} {l k:List Int} (h:l.Perm k):ZZ f l=ZZ f k:=by
 induction h<;>grind[ZZ,swap,trans]
theorem axn:∀{n:Nat} {f:Nat->Rat},jd (n+1) f=f 0+jd n λi=>f (i+1)
 |0,f=>by grind[jd]
 |n+1,f=>by
  rw[jd,axn]
  grind[jd]
theorem ac8 {f:Int->Rat}:∀{l:List Int},ZZ f l=jd l.length λk=>f (bC l k 0)
 |[]=>rfl
 |x::l=>by
  rw[γz,axn,ZZ,ac8];rfl
def Lt (n:Nat) (t:Tb) (y:Nat->Rat) (v:Int):Rat:=if v∈t.free then y (t.free.idxOf v) else t.bd (t.basic.idxOf v) - jd n λj=>t.cf (t.basic.idxOf v) j*y j
section
variable {n m:Nat} {t t0:Tb} {r c:Nat}
theorem ab5 {l:List Int} {i:Nat} (h:l.Nodup) (a:i<l.length):l.idxOf (bC l i 0)=i:=by
 grind[my]
theorem aaE (h:t.WF n m) (c:(t.basic++t.free).Nodup) {y:Nat->Rat} {j:Nat} (a:j<n):Lt n t y (t.fv j)=y j:=by
 have b:j<t.free.length:=by rw[h.free];exact a
 unfold Lt Tb.fv
 rw[if_pos (by grind[my]),ab5 (γF.1 c).2.1 b]
theorem aq0 (h:t.WF n m) (b:(t.basic++t.free).Nodup) {i:Nat} (a:i<m):t.bv i∉t.free:=λc=>by
 have d:i<t.basic.length:=by rw[h.basic];exact a
 grind[Tb.bv,my]
theorem abb (h:t.WF n m) (a:(t.basic++t.free).Nodup) {y:Nat->Rat} {i:Nat} (c:i<m):Lt n t y (t.bv i)=t.bd i - jd n λj=>t.cf i j*y j:=by
 have b:i<t.basic.length:=by rw[h.basic];exact c
 have e:t.basic.idxOf (t.bv i)=i:=ab5 (γF.1 a).1 b
 unfold Lt
 grind
theorem asg_holds (h:t.WF n m) (a:(t.basic++t.free).Nodup) {y:Nat->Rat}:t.holds n m (Lt n t y) (t.value+jd n λj=>t.cs j*y j):=by
 have e:∀f:Nat->Rat,jd n (λj=>f j*Lt n t y (t.fv j))=jd n λj=>f j*y j:=λf=>q0 λj c=>by grind[aaE]
 refine⟨λi b=>?_,?_⟩
 ·rw[abb h a b,e]
  grind
 ·rw[e]
def Bd (m:Nat) (t0:Tb) (v:Int) (i:Nat):Rat:=if i<m then(if v∈t0.free then t0.cf i (t0.free.idxOf v) else if t0.basic.idxOf v=i then 1 else 0) else 0
def aif (m:Nat) (t0:Tb) (i:Nat):Rat:=if i<m then t0.bd i else 0
def Ly (m:Nat) (t0 t:Tb):Rat:=QZ (t.basic.map (Bd m t0)) (Φ m)
structure Run (n m:Nat) (t0 t:Tb):Prop where
 wf0:t0.WF n m
 wf:t.WF n m
 nd:(t0.basic++t0.free).Nodup
 perm:(t.basic++t.free).Perm (t0.basic++t0.free)
 sol:∀x z,t.holds n m x z↔t0.holds n m x z
 dt:Ly m t0 t≠0
theorem Run.DJ (h:Run n m t0 t):(t.basic++t.free).Nodup:=h.perm.symm.nodup h.nd
theorem Run.refl (h:t0.WF n m) (a:(t0.basic++t0.free).Nodup):Run n m t0 t0:=by
 refine⟨h,h,a,List.Perm.refl _,λ_ _=>Iff.rfl,?_⟩
 have e:t0.basic.map (Bd m t0)=(Φ m).map aic:=by
  refine γ2 (by simp[h.basic]) λi g d=>?_
  simp only[List.getElem_map,List.getElem_range]
  have f:i<m:=by simp_all
  have b:t0.basic[i]'(by simp_all)=t0.bv i:=by grind[Tb.bv,my]
  rw[b]
  funext k
  have c:t0.basic.idxOf (t0.bv i)=i:=ab5 (γF.1 a).1 (by grind)
  unfold Bd aic
  grind
 grind[Ly,axi]
theorem Run.rows (h:Run n m t0 t) {x:Int->Rat} {z:Rat} (l:t.holds n m x z) {i:Nat}:jd m (λk=>Bd m t0 (t.bv k) i*x (t.bv k))+jd n (λj=>Bd m t0 (t.fv j) i*x (t.fv j))=aif m t0 i:=by
 have b:∀t:Tb,t.WF n m->ZZ (λv=>Bd m t0 v i*x v) (t.basic++t.free)=jd m (λk=>Bd m t0 (t.bv k) i*x (t.bv k))+jd n (λj=>Bd m t0 (t.fv j) i*x (t.fv j)):=λt f=>by
  rw[ajX,ac8,ac8,f.basic,f.free];rfl
 rw[<-b t h.wf,aqZ h.perm,b t0 h.wf0]
 have p:=(h.sol x z).1 l
 unfold aif
 by_cases a:i<m
 ·rw[if_pos a,<-p.1 i a]
  congr 1
  ·have e:jd m (λk=>Bd m t0 (t0.bv k) i*x (t0.bv k))=jd m λk=>if k=i then x (t0.bv i) else 0:=q0 λk d=>by
    have c:t0.basic.idxOf (t0.bv k)=k:=ab5 (γF.1 h.nd).1 (by rw[h.wf0.basic];exact d)
    unfold Bd;rw[if_pos a,if_neg (aq0 h.wf0 h.nd d),c]
    grind
   rw[e,agA,if_pos a]
  ·refine q0 λj g=>?_
   have o:j<t0.free.length:=by rw[h.wf0.free];exact g
   unfold Bd
   rw[if_pos a,if_pos (by grind[Tb.fv,my])]
   have c:t0.free.idxOf (t0.fv j)=j:=ab5 (γF.1 h.nd).2.1 o
   rw[c]
 ·rw[if_neg a]
  have e:∀v,Bd m t0 v i=0:=λv=>by simp_all[Bd,if_neg]
  simp only[e]
  grind[Ls]
theorem Run.axo (h:Run n m t0 t):aif m t0=λi=>jd m λk=>t.bd k*Bd m t0 (t.bv k) i:=by
 funext i
 have a:=h.rows (i:=i) (asg_holds h.wf h.DJ (y:=λ_=>0))
 rw[<-a,q0 (n:=n) (g:=λ_=>0) λj c=>by rw[aaE h.wf h.DJ c];grind,Ls,q0 (n:=m) (g:=λk=>t.bd k*Bd m t0 (t.bv k) i) λk b=>by
  rw[abb h.wf h.DJ b,q0 (g:=λ_=>0) λj _=>by grind,Ls]
  grind]
 grind
theorem Run.aFu (h:Run n m t0 t) {c:Nat} (a:c<n):Bd m t0 (t.fv c)=λi=>jd m λk=>t.cf k c*Bd m t0 (t.bv k) i:=by
 funext i
 have f:=congrFun h.axo i
 have b:=h.rows (i:=i) (asg_holds h.wf h.DJ (y:=λj=>if j=c then 1 else 0))
 rw[q0 (n:=n) (g:=λj=>if j=c then Bd m t0 (t.fv c) i else 0) λj e=>by
  rw[aaE h.wf h.DJ e]
  grind,agA,if_pos a,q0 (n:=m) (g:=λk=>t.bd k*Bd m t0 (t.bv k) i+(-1)*(t.cf k c*Bd m t0 (t.bv k) i)) λk d=>by
   rw[abb h.wf h.DJ d,q0 (g:=λj=>if j=c then t.cf k c else 0) λj _=>by
    grind,agA,if_pos a]
   grind,ajV,aie] at b
 grind
theorem getD_map {l:List Int} {f:Int->Nat->Rat} {k:Nat} (h:k<l.length):(l.map f).getD k (λ_=>0)=f (bC l k 0):=by
 grind[my]
theorem Run.axp (h:Run n m t0 t) {y:Nat->Rat} {r:Nat} (d:r<m):QZ ((t.basic.map (Bd m t0)).set r λi=>jd m λk=>y k*Bd m t0 (t.bv k) i) (Φ m)=y r*Ly m t0 t:=by
 have b:(t.basic.map (Bd m t0)).length=m:=by rw[γs,h.wf.basic]
 have a:=@aFt (t.basic.map (Bd m t0)) (Φ m) y r (by omega)
 unfold Ly;rw[<-a,b]
 congr 2
 funext i
 refine q0 λk c=>?_
 rw[getD_map (by simp_all)]
 rfl
theorem Run.axq (h:Run n m t0 t) {r c:Nat} (a:r<m) (b:c<n):QZ ((t.basic.map (Bd m t0)).set r (Bd m t0 (t.fv c))) (Φ m)=t.cf r c*Ly m t0 t:=by
 rw[h.aFu b]
 exact h.axp (y:=λk=>t.cf k c) a
theorem Run.aFv (h:Run n m t0 t) {r:Nat} (a:r<m):QZ ((t.basic.map (Bd m t0)).set r (aif m t0)) (Φ m)=t.bd r*Ly m t0 t:=by
 rw[h.axo]
 exact h.axp (y:=t.bd) a
theorem set_perm {l:List Int} {r:Nat} {x:Int} (a:r<l.length):(l.set r x).Perm (x::(l.take r++l.drop (r+1))):=by
 rw[εN,if_pos a]
 simp_all
theorem aFw {l:List Int} {r:Nat} (a:r<l.length):(l[r]::(l.take r++l.drop (r+1))).Perm l:=by
 have h:=@set_perm l r l[r] a
 grind
theorem swap_perm {l k:List Int} {r c:Nat} (a:r<l.length) (b:c<k.length):(l.set r (bC k c 0)++k.set c (bC l r 0)).Perm (l++k):=by
 grind[my]
theorem Run.piv (h:Run n m t0 t) {r c:Nat} (a:r<m) (b:c<n) (d:t.cf r c≠0):Run n m t0 (A7 t r c) where
 wf0:=h.wf0
 wf:=axl h.wf
 nd:=h.nd
 perm:=(swap_perm (by rw[h.wf.basic];exact a) (by rw[h.wf.free];exact b)).trans h.perm
 sol x z:=(piv_holds h.wf a b d).trans (h.sol x z)
 dt:=by
  have e:Ly m t0 (A7 t r c)=t.cf r c*Ly m t0 t:=by
   rw[<-h.axq a b];unfold Ly
   congr 1
   show(t.basic.set r (t.fv c)).map (Bd m t0)=_
   simp_all
  rw[e]
  have:=h.dt
  grind
theorem amT {M:Nat} (d:1<=M) (c:∀i j,i<m->j<n->yx M (t0.cf i j)) (a:t0.WF n m) {v:Int} {i:Nat}:yx M (Bd m t0 v i):=by
 unfold Bd;split
 ·split
  ·rename_i b e
   exact c _ _ b (by rw[<-a.free];grind)
  ·split
   ·exact⟨1,by simp,by omega⟩
   ·exact⟨0,by simp,by simp⟩
 ·exact⟨0,by simp,by simp⟩
theorem mem_set {C:List (Nat->Rat)} {r:Nat} {c d:Nat->Rat} (h:d∈C.set r c):d∈C\/d=c:=List.mem_or_eq_of_mem_set h
theorem Run.aFx (h:Run n m t0 t) {M:Nat} (a:1<=M) (c:∀i j,i<m->j<n->yx M (t0.cf i j)):yx (aa9 M m) (Ly m t0 t):=by
 have:=@amO M (t.basic.map (Bd m t0)) (Φ m) (by simp[h.wf.basic]) λd b i _=>by
  obtain⟨v,_,rfl⟩:=γk.1 b
  exact amT a c h.wf0
 rwa [List.length_range] at this
theorem Run.cfZ (h:Run n m t0 t) {M:Nat} (e:1<=M) (b:∀i j,i<m->j<n->yx M (t0.cf i j)) {r c:Nat} (f:r<m) (g:c<n):yx (aa9 M m) (t.cf r c*Ly m t0 t):=by
 rw[<-h.axq f g]
 have:=@amO M ((t.basic.map (Bd m t0)).set r (Bd m t0 (t.fv c))) (Φ m) (by simp[h.wf.basic]) λd a i _=>by
  rcases mem_set a with a|rfl
  ·obtain⟨v,_,rfl⟩:=γk.1 a
   exact amT e b h.wf0
  ·exact amT e b h.wf0
 simp_all
theorem Run.bdZ (h:Run n m t0 t) {M:Nat} (b:1<=M) (c:∀i j,i<m->j<n->yx M (t0.cf i j)) (f:∀i,i<m->yx M (t0.bd i)) {r:Nat} (e:r<m):yx (aa9 M m) (t.bd r*Ly m t0 t):=by
 rw[<-h.aFv e]
 have:=@amO M ((t.basic.map (Bd m t0)).set r (aif m t0)) (Φ m) (by simp[h.wf.basic]) λd a i g=>by
  rcases mem_set a with a|rfl
  ·obtain⟨v,_,rfl⟩:=γk.1 a
   exact amT b c h.wf0
  simp_all[aif]
 simp_all
end
structure Piv (n m:Nat) (t:Tb) (r c:Nat):Prop where
 hr:r<m
 hc:c<n
 cost:0<t.cs c
 least:∀j,j<n->0<t.cs j->t.fv c<=t.fv j
 pos:0<t.cf r c
 ratio:∀i,i<m->0<t.cf i c->t.bd r / t.cf r c<t.bd i / t.cf i c\/(t.bd r / t.cf r c=t.bd i / t.cf i c/\t.bv r<=t.bv i)
def SC (m:Nat) (t:Tb):Prop:=∀i,i<m->0<=t.bd i
section
variable {n m:Nat} {t t0:Tb} {r c:Nat}
theorem ajY (a b:Rat):a<=b\/b<a:=(Classical.em (a<=b)).imp id ζS.1
theorem div_mul {a b:Rat} (h:0<b):a / b*b=a:=by
 grind
theorem inv_pos {b:Rat} (h:0<b):0<1 / b:=by
 have c:(1 / b)*b=1:=div_mul h
 rcases ajY (1 / b) 0 with a|a
 ·exfalso
  have d:0<=(-(1 / b))*b:=δu (by grind) (by grind)
  grind
 ·exact a
theorem axr {a b:Rat} (c:0<=a) (h:0<b):0<=a / b:=by
 grind[δu,inv_pos]
theorem Piv.ge (h:Piv n m t r c) (a:SC m t):0<=t.bd r / t.cf r c:=axr (a r h.hr) h.pos
theorem Piv.aii (h:Piv n m t r c) (k:t.WF n m) (d:SC m t):SC m (A7 t r c):=by
 intro i a
 have f:=h.ge d
 have e:t.bd r*(1 / t.cf r c)=t.bd r / t.cf r c:=by grind
 rw[amS k a,e];split
 ·exact f
 ·rcases ajY (t.cf i c) 0 with b|b
  ·have j:0<=(-(t.cf i c))*(t.bd r / t.cf r c):=δu (by grind) f
   have:=d i a
   grind
  ·have j:t.bd r / t.cf r c<=t.bd i / t.cf i c:=by
    rcases h.ratio i a b with g|g<;>grind
   have g:0<=t.cf i c*(t.bd i / t.cf i c - t.bd r / t.cf r c):=δu (by grind) (by grind)
   grind[div_mul]
theorem Piv.value:(A7 t r c).value=t.value+t.cs c*(t.bd r / t.cf r c):=by
 show t.value+t.cs c*(t.bd r*(1 / t.cf r c))=_
 grind
theorem aq1 {b:Type}:∀(L:List b) (f:Nat->b),(∀k,f k∈L)->∃i j,i<j/\f i=f j
 |[],f,h=>by simp_all
 |a::L,f,h=>by
  by_cases c:∃i,f i=a
  ·obtain⟨i,g⟩:=c
   by_cases e:∃j,i<j/\f j=a
   ·grind
   ·obtain⟨x,y,d,l⟩:=aq1 L (λk=>f (k+i+1)) λk=>by
     grind
    grind
  ·exact aq1 L f λk=>by
    simp_all
def ajZ (V:List Int):Nat->List (List Int)
 |0=>[[]]
 |k+1=>(ajZ V k).flatMap λl=>V.map λv=>v::l
theorem axt {V:List Int}:∀{l:List Int},(∀v∈l,v∈V)->l∈ajZ V l.length
 |[],_=>by simp[ajZ]
 |x::l,h=>by
  simp only[γz,ajZ,List.mem_flatMap,γk]
  exact⟨l,axt λv a=>h v (by simp[a]),x,h x (by simp),rfl⟩
theorem aFA {l:List Int} {r:Nat} {x v:Int} (a:r<l.length) (b:l.Nodup):v∈l.set r x↔v=x\/(v∈l/\v≠bC l r 0):=by
 grind[set_perm,my,aFw]
theorem axu {f:Nat->Int} {i:Nat}:∀{d:Nat},∃k,(i<=k/\k<=i+d)/\∀x,i<=x->x<=i+d->f x<=f k
 |0=>⟨i,by omega,λx a b=>by grind⟩
 |d+1=>by
  obtain⟨k,a,b⟩:=@axu f i d
  by_cases h:f k<=f (i+(d+1))
  ·refine⟨i+(d+1),by omega,λx c e=>?_⟩
   grind
  ·refine⟨k,by omega,λx c e=>?_⟩
   grind
theorem axv:∀{n:Nat} {f:Nat->Rat},0<jd n f->∃j,j<n/\0<f j
 |0,f,h=>by grind[jd]
 |n+1,f,h=>by
  rcases ajY (f n) 0 with a|a
  ·obtain⟨j,c,b⟩:=@axv n f (by grind[jd])
   grind
  grind
theorem agB (h:t.WF n m) {j:Nat} (a:j<n):t.fv j∈t.free:=by
 have b:j<t.free.length:=by rw[h.free];exact a
 grind[Tb.fv,my]
theorem aj0 (h:t.WF n m) {j:Nat} (a:j<m):t.bv j∈t.basic:=by
 have b:j<t.basic.length:=by rw[h.basic];exact a
 grind[Tb.bv,my]
theorem agC (h:t.WF n m) {v:Int} (b:v∈t.free):∃j,j<n/\t.fv j=v:=by
 obtain⟨j,a,rfl⟩:=δb b
 exact⟨j,by rw[<-h.free];exact a,by grind[Tb.fv,my]⟩
theorem aij (h:t.WF n m) {v:Int} (b:v∈t.basic):∃j,j<m/\t.bv j=v:=by
 obtain⟨j,a,rfl⟩:=δb b
 exact⟨j,by rw[<-h.basic];exact a,by grind[Tb.bv,my]⟩
theorem aq2 (c:(t.basic++t.free).Nodup) {v:Int} (a:v∈t.basic) (b:v∈t.free):False:=(γF.1 c).2.2 _ a _ b rfl
theorem aFB (h:t.WF n m) (c:(t.basic++t.free).Nodup) {i j:Nat} (f:i<m) (d:j<m) (e:t.bv i=t.bv j):i=j:=by
 have a:=ab5 (γF.1 c).1 (show i<t.basic.length by rw[h.basic];exact f)
 have b:=ab5 (γF.1 c).1 (show j<t.basic.length by rw[h.basic];exact d)
 grind[Tb.bv]
theorem aFC (h:t.WF n m) (c:(t.basic++t.free).Nodup) {i j:Nat} (f:i<n) (d:j<n) (e:t.fv i=t.fv j):i=j:=by
 have a:=ab5 (γF.1 c).2.1 (show i<t.free.length by rw[h.free];exact f)
 have b:=ab5 (γF.1 c).2.1 (show j<t.free.length by rw[h.free];exact d)
 grind[Tb.fv]
theorem aFD {T:Nat->Tb} {r c:Nat->Nat} (p:∀k,Run n m t0 (T k)) (hF:∀k,SC m (T k)) (B:∀k,Piv n m (T k) (r k) (c k)) (hT:∀k,T (k+1)=A7 (T k) (r k) (c k)) {i j:Nat} (b8:i<j) (hb:(T i).basic=(T j).basic) (hf:(T i).free=(T j).free):False:=by
 have b7:(T i).value=(T j).value:=by
  have t:=((p j).sol _ _).2 (((p i).sol _ _).1 (asg_holds (p i).wf (p i).DJ (y:=λ_=>0)))
  have e1:jd n (λk=>(T i).cs k*(λ_=>(0:Rat)) k)=0:=by grind[Ls]
  have e2:jd n (λk=>(T j).cs k*Lt n (T i) (λ_=>0) ((T j).fv k))=0:=by
   rw[q0 (g:=λ_=>0) λk hk=>by
    have:(T j).fv k=(T i).fv k:=by grind[Tb.fv]
    rw[this,aaE (p i).wf (p i).DJ hk]
    grind,Ls]
  have K:=t.2
  grind
 have L:∀k,(T k).value<=(T (k+1)).value:=λk=>by
  rw[hT k,Piv.value]
  have:=δu (a:=(T k).cs (c k)) (by have:=(B k).cost;grind) ((B k).ge (hF k))
  grind
 have S:∀d a,(T a).value<=(T (a+d)).value:=λd=>by
  induction d<;>grind
 have H:∀k,i<=k->k<j->(T k).bd (r k)=0:=λk t K=>by
  have a1:=S (k - i) i
  have a2:=S (j - (k+1)) (k+1)
  rw[show i+(k - i)=k by omega] at a1
  rw[show k+1+(j - (k+1))=j by omega] at a2
  have a3:=L k
  rw[hT k] at a2 a3;rw[Piv.value] at a2 a3
  have h3:=(B k).ge (hF k)
  have hc:=(B k).cost
  have h4:=@div_mul ((T k).bd (r k)) _ (B k).pos
  grind[Rat.mul_eq_zero]
 have b6:∀k,i<=k->k<j->∀v,v∈(T k).basic++(T k).free->Lt n (T (k+1)) (λ_=>0) v=Lt n (T k) (λ_=>0) v:=λk t K v O=>by
  have hw:=(p k).wf
  have G:=(p (k+1)).wf
  have hx:=((p (k+1)).sol _ _).2 (((p k).sol _ _).1 (asg_holds hw (p k).DJ (y:=λ_=>0)))
  have hz:∀q,q<n->Lt n (T k) (λ_=>0) ((T (k+1)).fv q)=0:=λq s=>by
   rw[hT k,aqY hw (B k).hc];split
   ·rw[abb hw (p k).DJ (B k).hr,H k t K,q0 (g:=λ_=>0) λj _=>by grind,Ls]
    grind
   ·rw[aaE hw (p k).DJ s]
  have A:v∈(T (k+1)).basic++(T (k+1)).free:=((p (k+1)).perm.trans (p k).perm.symm).mem_iff.2 O
  rcases γt.1 A with A|A
  ·obtain⟨q,s,rfl⟩:=aij G A
   have:=hx.1 q s
   rw[q0 (g:=λ_=>0) λj hj=>by simp_all,Ls] at this
   rw[abb G (p (k+1)).DJ s,q0 (g:=λ_=>0) λj _=>by grind,Ls]
   grind
  ·obtain⟨q,s,rfl⟩:=agC G A
   rw[hz q s,aaE G (p (k+1)).DJ s]
 have w:∀a b v,v∈(T a).basic++(T a).free->v∈(T b).basic++(T b).free:=λa b v O=>((p b).perm.trans (p a).perm.symm).mem_iff.2 O
 have W:∀d a,i<=a->a+d<=j->∀v,v∈(T a).basic++(T a).free->Lt n (T (a+d)) (λ_=>0) v=Lt n (T a) (λ_=>0) v:=λd=>by
  induction d<;>grind
 have hA:∀a b,i<=a->a<=j->i<=b->b<=j->∀v,v∈(T a).basic++(T a).free->Lt n (T a) (λ_=>0) v=Lt n (T b) (λ_=>0) v:=λa b t K h3 h4 v O=>by
  have e1:=W (a - i) i (by omega) (by omega) v (w _ _ v O)
  have e2:=W (b - i) i (by omega) (by omega) v (w _ _ v O)
  simp_all
 have P:∀k v,v∈(T (k+1)).basic↔v=(T k).fv (c k)\/(v∈(T k).basic/\v≠(T k).bv (r k)):=λk v=>by
  rw[hT k]
  exact aFA (by rw[(p k).wf.basic];exact(B k).hr) (γF.1 (p k).DJ).1
 have U:∀v a b,i<=a->a<=j->i<=b->b<=j->v∈(T a).basic->v∉(T b).basic->∃k,i<=k/\k<j/\(T k).fv (c k)=v:=λv a b a1 a2 b1 b2 ha a9=>by
  apply δ0
  intro Y
  have I:∀d x,i<=x->x+d<=j->v∈(T (x+d)).basic->v∈(T x).basic:=λd=>by
   induction d<;>grind
  have t:=I (a - i) i (by omega) (by omega) (by simp_all)
  rw[hb] at t
  exact a9 (I (j - b) b (by omega) (by omega) (by simp_all))
 obtain⟨l,⟨a6,b9⟩,a0⟩:=@axu (λk=>(T k).fv (c k)) i (j - 1 - i)
 have J:∀x,i<=x->x<j->(T x).fv (c x)<=(T l).fv (c l):=λx t K=>a0 x t (by omega)
 have c2:l<j:=by omega
 have a7:(T l).fv (c l)∈(T l).free:=agB (p l).wf (B l).hc
 have c0:(T l).fv (c l)∉(T l).basic:=λh=>aq2 (p l).DJ h a7
 obtain⟨o,F,Q,hl⟩:∃o,i<=o/\o<j/\(T o).bv (r o)=(T l).fv (c l):=by
  apply δ0
  intro Y
  have up:∀d x,i<=x->x+d<=j->(T l).fv (c l)∈(T x).basic->(T l).fv (c l)∈(T (x+d)).basic:=λd=>by
   induction d with
   |zero=>intro x _ _ h;exact h
   |succ d ih=>
    intro x t K h
    exact(P (x+d) _).2 (.inr ⟨ih x t (by omega) h,λe=>Y ⟨x+d,by omega,by omega,e.symm⟩⟩)
  have t:=up (j - (l+1)) (l+1) (by omega) (by omega) ((P l _).2 (.inl rfl))
  rw[show l+1+(j - (l+1))=j by omega,<-hb] at t
  have K:=up (l - i) i (by omega) (by omega) t
  simp_all
 have w1:=(p l).wf
 have C:=(p o).wf
 have n1:=(p l).DJ
 have E:=(p o).DJ
 have p1:=B l
 have N:=B o
 have x1:=(((p l).sol _ _).2 (((p o).sol _ _).1 (asg_holds C E (y:=λq=>if q=c o then 1 else 0)))).2
 have x0:=(((p l).sol _ _).2 (((p o).sol _ _).1 (asg_holds C E (y:=λ_=>0)))).2
 rw[q0 (f:=λq=>(T o).cs q*(λq=>if q=c o then(1:Rat) else 0) q) (g:=λq=>if q=c o then(T o).cs (c o) else 0) λq _=>by
  by_cases s:q=c o<;>grind,agA,if_pos N.hc] at x1
 rw[q0 (f:=λq=>(T o).cs q*(λ_=>(0:Rat)) q) (g:=λ_=>0) λq _=>by grind,Ls] at x0
 have hd:0<jd n λq=>(T l).cs q*(Lt n (T o) (λq=>if q=c o then 1 else 0) ((T l).fv q) - Lt n (T o) (λ_=>0) ((T l).fv q)):=by
  rw[q0 (g:=λq=>(T l).cs q*Lt n (T o) (λq=>if q=c o then 1 else 0) ((T l).fv q)+(-1)*((T l).cs q*Lt n (T o) (λ_=>0) ((T l).fv q))) λq _=>by grind,ajV,aie]
  have:=N.cost
  grind
 obtain⟨q,s,u⟩:=axv hd
 have a5:(T l).fv q∈(T l).free:=agB w1 s
 have Z:=w l o _ (εU _ a5)
 rcases γt.1 Z with a4|X
 ·obtain⟨D,z,e⟩:=aij C a4
  rw[<-e,abb C E z,abb C E z,q0 (f:=λj=>(T o).cf D j*(λq=>if q=c o then(1:Rat) else 0) j) (g:=λj=>if j=c o then(T o).cf D (c o) else 0) (λj _=>by
   by_cases hj:j=c o<;>grind),agA,if_pos N.hc,q0 (f:=λj=>(T o).cf D j*(λ_=>(0:Rat)) j) (g:=λ_=>0) (λj _=>by grind),Ls] at u
  have M:0<(T l).cs q*(-(T o).cf D (c o)):=by grind
  obtain⟨k3,b3,b5,h3⟩:=U _ o l F (by omega) a6 (by omega) a4 (λh=>aq2 n1 h a5)
  have b0:(T l).fv q<=(T l).fv (c l):=by grind
  rcases ajY ((T l).cs q) 0 with hs|hs
  ·have a8:0<(T o).cf D (c o):=by
    rcases ajY ((T o).cf D (c o)) 0 with h4|h4
    ·exfalso
     have:=δu (a:= -(T l).cs q) (b:= -(T o).cf D (c o)) (by grind) (by grind)
     grind
    ·exact h4
   have b4:(T o).bd D=0:=by
    have V:=hA o l F (by omega) a6 (by omega) ((T l).fv q) Z
    rw[aaE w1 n1 s,<-e,abb C E z,q0 (g:=λ_=>0) λj _=>by grind,Ls] at V
    grind
   have c1:=H o F Q
   have hz:∀b:Rat,(0:Rat) / b=0:=λb=>by grind
   rcases N.ratio D z a8 with h6|h6
   ·simp_all
   ·have h7:(T l).fv (c l)<=(T l).fv q:=by omega
    have h8:=aFC w1 n1 s p1.hc (by omega)
    rw[h8] at hs
    have:=p1.cost
    grind
  ·have h7:=p1.least q s hs
   have h8:D=r o:=aFB C E z N.hr (by omega)
   rw[h8] at M
   have:=δu (a:=(T l).cs q) (b:=(T o).cf (r o) (c o)) (by grind) (by have:=N.pos;grind)
   grind
 ·obtain⟨q2,R,e⟩:=agC C X
  rw[<-e,aaE C E R,aaE C E R] at u
  by_cases V:q2=c o
  ·rw[if_pos V] at u
   have h6:=p1.least q s (by grind)
   have h7:=J o F Q
   rw[V] at e
   have h8:(T l).fv (c l)=(T o).fv (c o):=by omega
   exact aq2 E (aj0 C N.hr) (by grind)
  ·rw[if_neg V] at u
   grind
end
def um (t:Tb):Nat->Int
 |0=> -1
 |k+1=>if 0<t.cs k/\(um t k<0\/t.fv k<t.fv (um t k).toNat) then(k:Int) else um t k
def sj (t:Tb) (c:Nat):Nat->Int
 |0=> -1
 |k+1=>if t.cf k c<=0 then sj t c k
  else if 0<=sj t c k/\(t.bd (sj t c k).toNat / t.cf (sj t c k).toNat c<t.bd k / t.cf k c\/(t.bd k / t.cf k c=t.bd (sj t c k).toNat / t.cf (sj t c k).toNat c/\t.bv (sj t c k).toNat<t.bv k)) then sj t c k
  else(k:Int)
section
variable {n m:Nat} {t t0:Tb} {r c:Nat}
theorem afr:∀{k:Nat},(um t k= -1/\∀j,j<k->¬0<t.cs j)\/(∃b:Nat,um t k=b/\b<k/\0<t.cs b/\∀j,j<k->0<t.cs j->t.fv b<=t.fv j)
 |0=> .inl ⟨rfl,λj h=>by omega⟩
 |k+1=>by
  unfold um
  rcases @afr k with⟨a,c⟩|⟨b,a,c,d,e⟩
  ·grind
  ·have f:(um t k).toNat=b:=by omega
   grind
theorem agD {c:Nat}:∀{k:Nat},(sj t c k= -1/\∀j,j<k->t.cf j c<=0)\/(∃b:Nat,sj t c k=b/\b<k/\0<t.cf b c/\∀j,j<k->0<t.cf j c->t.bd b / t.cf b c<t.bd j / t.cf j c\/(t.bd b / t.cf b c=t.bd j / t.cf j c/\t.bv b<=t.bv j))
 |0=> .inl ⟨rfl,λj h=>by omega⟩
 |k+1=>by
  unfold sj
  by_cases e:t.cf k c<=0
  ·rw[if_pos e]
   rcases @agD c k with⟨f,a⟩|⟨b,f,a,o,n⟩<;>grind
  ·rw[if_neg e]
   have g:0<t.cf k c:=ζS.1 e
   rcases @agD c k with⟨f,a⟩|⟨b,f,a,o,n⟩
   ·grind
   ·have i:(sj t c k).toNat=b:=by omega
    rw[i]
    by_cases d:0<=sj t c k/\(t.bd b / t.cf b c<t.bd k / t.cf k c\/(t.bd k / t.cf k c=t.bd b / t.cf b c/\t.bv b<t.bv k))
    ·grind
    ·rw[if_neg d]
     have l:¬t.bd b / t.cf b c<t.bd k / t.cf k c:=λh=>d ⟨by omega,.inl h⟩
     have m:t.bd k / t.cf k c=t.bd b / t.cf b c->¬t.bv b<t.bv k:=λh a=>d ⟨by omega,.inr ⟨h,a⟩⟩
     refine .inr ⟨k,rfl,by omega,g,λj p q=>?_⟩
     grind
end
def stepT (n m:Nat) (t:Tb):Option Tb:=
 if um t n<0 then none
 else if sj t (um t n).toNat m<0 then none
 else some (A7 t (sj t (um t n).toNat m).toNat (um t n).toNat)
def zd (n m:Nat):Nat->Tb->Bool
 |0,t=>(stepT n m t).isNone
 |k+1,t=>match stepT n m t with
  |none=>true
  |some a=>zd n m k a
def runT (n m:Nat):Nat->Tb->Tb
 |0,t=>t
 |k+1,t=>match stepT n m t with
  |none=>t
  |some a=>runT n m k a
def aik (n m N:Nat) (t:Tb):Nat:=((Φ N).filter λk=>!zd n m k t).length
section
variable {n m:Nat} {t t0 t':Tb}
theorem axw (h:stepT n m t=some t'):∃r c,Piv n m t r c/\t'=A7 t r c/\um t n=(c:Int)/\sj t c m=(r:Int):=by
 unfold stepT at h;split at h
 ·cases h
 ·rename_i p
  split at h
  ·cases h
  ·rename_i o
   injection h with h
   rcases @afr t n with⟨b,_⟩|⟨c,b,d,e,k⟩
   ·omega
   ·have f:(um t n).toNat=c:=by omega
    rw[f] at h o
    rcases @agD t c m with⟨a,_⟩|⟨r,a,i,j,l⟩
    ·omega
    ·have g:(sj t c m).toNat=r:=by omega
     rw[g] at h
     exact⟨r,c,⟨i,d,e,k,j,l⟩,h.symm,b,a⟩
theorem aq3 (b:Run n m t0 t) (d:SC m t) (h:stepT n m t=some t'):Run n m t0 t'/\SC m t':=by
 obtain⟨r,c,a,rfl,_⟩:=axw h
 exact⟨b.piv a.hr a.hc (by have:=a.pos;grind),a.aii b.wf d⟩
theorem aq4:∀{k:Nat} {t:Tb},zd n m k t=true->zd n m (k+1) t=true
 |0,t,h=>by
  grind[zd]
 |k+1,t,h=>by
  unfold zd at h ⊢;split
  ·rfl
  ·rename_i b a
   rw[a] at h
   exact aq4 h
theorem left_step {N:Nat} (b:zd n m N t=true) (h:stepT n m t=some t'):aik n m N t'<aik n m N t:=by
 unfold aik
 have e:∀k,zd n m k t'=zd n m (k+1) t:=λk=>by grind[zd]
 have c:zd n m 0 t=false:=by simp[zd,h]
 simp only[e]
 cases N with
 |zero=>simp_all
 |succ N=>
  have a:∀f:Nat->Bool,((Φ (N+1)).filter f).length=(if f 0 then 1 else 0)+((Φ N).filter λk=>f (k+1)).length:=λf=>by
   rw[List.range_succ_eq_map,List.filter_cons,List.filter_map,]
   grind[Function.comp_def]
  rw[a (λk=>!zd n m k t),c];rw[List.range_succ,List.filter_append,θ]
  simp[b]
theorem axx {N:Nat} (a:zd n m N t=true) (h:stepT n m t=some t'):zd n m N t'=true:=by
 cases N<;>grind[zd,aq4]
theorem aq5 (D:Run n m t0 t) (o:SC m t):∃N,zd n m N t=true:=by
 apply δ0
 intro u
 have e:∀N,zd n m N t=false:=λN=>by
  simp_all
 let T:Nat->Tb:=λk=>Nat.rec t (λ_ s=>(stepT n m s).getD s) k
 have d:∀k,T (k+1)=(stepT n m (T k)).getD (T k):=λk=>rfl
 have A:∀k N,zd n m N (T k)=false:=by
  intro k
  induction k with
  |zero=>exact e
  |succ k l=>
   intro N;rw[d]
   cases z:stepT n m (T k) with
   |none=>simp_all
   |some q=>
    have:=l (N+1)
    grind[zd]
 have w:∀k,stepT n m (T k)=some (T (k+1)):=λk=>by
  rw[d]
  cases z:stepT n m (T k) with
  |none=>have:=A k 0;grind[zd]
  |some q=>rfl
 have a:∀k,Run n m t0 (T k)/\SC m (T k):=by
  intro k
  induction k with
  |zero=>exact⟨D,o⟩
  |succ k l=>grind[aq3]
 have b:∀k,∃p:Nat×Nat,Piv n m (T k) p.1 p.2/\T (k+1)=A7 (T k) p.1 p.2:=λk=>by
  obtain⟨r,c,f,E,_⟩:=axw (w k)
  exact⟨(r,c),f,E⟩
 let p:Nat->Nat×Nat:=λk=>δT (b k)
 have h:∀k,Piv n m (T k) (p k).1 (p k).2/\T (k+1)=A7 (T k) (p k).1 (p k).2:=λk=>Classical.choose_spec (b k)
 obtain⟨i,j,g,B⟩:=aq1 (ajZ (t0.basic++t0.free) (m+n)) (λk=>(T k).basic++(T k).free) λk=>by
  have f:=@axt (t0.basic++t0.free) ((T k).basic++(T k).free) λv C=>(a k).1.perm.mem_iff.1 C
  rwa [θ,(a k).1.wf.basic,(a k).1.wf.free] at f
 obtain⟨y,x⟩:=List.append_inj B (by rw[(a i).1.wf.basic,(a j).1.wf.basic])
 exact aFD (λk=>(a k).1) (λk=>(a k).2) (λk=>(h k).1) (λk=>(h k).2) g y x
end
open Go.Proofs.YtgejbpobaicgfaaGreat.Ir
open Go.Proofs
def fL (l:List Rat):List fi:=l.map cC
def fM (l:List (List Rat)):List (List fi):=l.map fL
def vL (l:List fi):List Rat:=l.map fa
theorem YB (l:List Rat):vL (fL l)=l:=by
 unfold vL fL;rw[δq]
 conv=>rhs;rw[<-List.map_id l]
 exact γ0 λq _=>sy q
theorem SD (x:fi):(x.1,x.2.1,x.2.2)=x:=rfl
theorem AX {l:List Rat}:(fL l).length=l.length:=γs _
theorem aq6 {l:List (List Rat)}:(fM l).length=l.length:=γs _
theorem MB {l:List Rat} {i:Nat} (h:i<l.length) {d:fi}:bC (fL l) i d=cC (bC l i 0):=by
 grind[my,fL]
theorem aq7 {l:List (List Rat)} {i:Nat} (h:i<l.length) {d:List fi}:bC (fM l) i d=fL (bC l i []):=by
 grind[my,fM]
structure abd where
 n:Int
 m:Int
 k0:Nat
 k1:Nat
 k3:Nat
 k4:Nat
 jA:List (List fi)
 bound:List fi
 cost:List fi
 v:fi
 basic:List Int
 free:List Int
def abd.Gu (x:abd):jr:=
 [.cells [.si .i64 x.n,.si .i64 x.m,.ow 1 x.k0 1,.ow 2 x.k1 3,.row sF x.cost,.sb x.v.1,.row (.i .u32) x.v.2.1,.row (.i .u32) x.v.2.2,.ow 3 x.k3 1,.ow 4 x.k4 1] 179 10 false,
  .row (.fK sF) x.jA 72 false,.row sF x.bound 70 false,.row (.i .i64) x.basic 3 false,.row (.i .i64) x.free 3 false]
def amU:jr->Option abd
 |[.cells [a,b,.ow 1 k 1,.ow 2 r 3,c,m,h,p,.ow 3 s 1,.ow 4 n 1] 179 10 false,.row q g 72 false,.row j e 70 false,.row o d 3 false,.row l f 3 false]=>
  match a.int .i64,b.int .i64,Kz sF c,RS sF [m,h,p] with
  |some a,some b,some c,some v=>match AW q (.fK sF) g,AW j sF e,AW o (.i .i64) d,AW l (.i .i64) f with
   |some g,some e,some d,some f=>some ⟨a,b,k,r,s,n,g,e,c,v,d,f⟩
   |_,_,_,_=>none
  |_,_,_,_=>none
 |_=>none
theorem aFE {o:jr} {x:abd} (h:amU o=some x):gO o=gO x.Gu:=by
 unfold amU at h;split at h
 ·split at h
  ·rename_i p l c e
   split at h
   ·rename_i n j k m
    simp only[γ] at h;subst h
    obtain⟨rfl,f⟩:=KA n
    obtain⟨rfl,b⟩:=KA j
    obtain⟨rfl,d⟩:=KA k
    obtain⟨rfl,i⟩:=KA m
    cases f;cases b;cases d;cases i
    have a:=abU e
    simp only[ψ,γy,qq,pF,Δ,and_true,List.nil_append,γJ] at a;simp only[abd.Gu,gO,ψ,γy,cJ.g,gL,F2 p,F2 l,aaW c,SV.g];simp only[a];rfl
   ·cases h
  ·cases h
 ·cases h
theorem aaG {s:cn} {a b:List s.T} (h:kD s a=kD s b):a=b:=by
 by_cases d:s.sz=0
 ·exact absurd d (by
   have:∀s:cn,0<s.sz:=λs=>by
    induction s<;>simp only[cn.sz]<;>omega
   grind)
 ·have c:=congrArg γb h
  rw[x7,x7] at c
  exact XV s (Nat.eq_of_mul_eq_mul_right (by omega) c) h
theorem aFF {x y:abd} (h:gO x.Gu=gO y.Gu):x=y:=by
 obtain⟨n,m,B,M,G,J,c,b,g,⟨I,K,F⟩,D,C⟩:=x
 obtain⟨H,L,a,p,r,l,N,E,A,⟨k,w,q⟩,j,u⟩:=y
 simp only[abd.Gu,gO,ψ,γy,cJ.g,gL,SV.g,Δ,ig.cells.injEq,and_true,true_and,AV.sc.injEq,Value.int.injEq,Value.bool.injEq,AV.os.injEq,AV.sl.injEq] at h
 obtain⟨⟨rfl,rfl,⟨rfl,_⟩,⟨rfl,_⟩,⟨_,d⟩,rfl,⟨_,v⟩,⟨_,e⟩,⟨rfl,_⟩,⟨rfl,_⟩⟩,f,t,o,z⟩:=h
 rw[aaG (s:=sF) d,aaG (s:=.i .u32) v,aaG (s:=.i .u32) e,aaG (s:=.fK sF) f,aaG (s:=sF) t,aaG (s:=.i .i64) o,aaG (s:=.i .i64) z]
abbrev ek (n m:Int) (t:Tb):abd:=⟨n,m,t.jA.length,t.bound.length,t.basic.length,t.free.length,fM t.jA,fL t.bound,fL t.cost,cC t.value,t.basic,t.free⟩
def abd.t (x:abd):Tb:=⟨x.jA.map vL,vL x.bound,vL x.cost,fa x.v,x.basic,x.free⟩
theorem aew {n m:Int} {t:Tb}:(ek n m t).t=t:=by
 have e:(fM t.jA).map vL=t.jA:=by
  unfold fM;rw[δq]
  conv=>rhs;rw[<-List.map_id t.jA]
  exact γ0 λq _=>YB q
 simp_all[abd.t,YB,sy]
theorem aFG (x:abd):(⟨x.n,x.m,x.k0,x.k1,x.k3,x.k4,x.jA,x.bound,x.cost,(x.v.1,x.v.2.1,x.v.2.2),x.basic,x.free⟩:abd)=x:=rfl
theorem axy {n m:Int} {t:Tb}:(ek n m t).n=n:=rfl
theorem axz {n m:Int} {t:Tb}:(ek n m t).m=m:=rfl
def szT (k:Nat) (t:Tb):Prop:=(∀l∈t.jA,∀q∈l,Sz k q)/\(∀q∈t.bound,Sz k q)/\(∀q∈t.cost,Sz k q)/\Sz k t.value
def Ug (n m:Int) (t:Tb):Prop:=((0<=n/\n<=1000)/\(0<=m/\m<=1000))/\t.WF n.toNat m.toNat/\szT 1000000 t
def afs (f:FuncId) (c:Type) (A:acX c) (i:Int->Int->Tb->c->Prop) (e:Int->Int->Tb->c->SV) (out:Int->Int->Tb->c->Tb):og where
 f:=f
 α:=abd×c
 put a:=.ptr 0 0 10::A.put a.2
 st a:=a.1.Gu
 dec v o:=match v with
  | .ptr 0 0 10::r=>match amU o,A.dec r with
   |some s,some b=>some (s,b)
   |_,_=>none
  |_=>none
 ok v o a h:=by
  split at h
  ·split at h
   ·rename_i d g
    simp only[γ] at h;subst h
    exact⟨by simp only[gL,A.ok _ _ g],aFE d⟩
   ·cases h
  ·cases h
 inj a b d g:=by
  simp only[gL,Δ,true_and] at d
  exact Prod.ext (aFF g) (A.inj _ _ d)
 dom a:=∃n m t,a.1=ek n m t/\Ug n m t/\i n m t a.2
 res a:=e a.1.n a.1.m a.1.t a.2
 out a:=(ek a.1.n a.1.m (out a.1.n a.1.m a.1.t a.2)).Gu
theorem uf {q:Rat} {k:Nat} (h:Sz k q) (a:k<=100000000):lT (cC q):=⟨q,k,rfl,h,a⟩
section
variable {n m:Int} {t:Tb}
theorem Ug.cf (h:Ug n m t) {i j:Nat} (a:i<m.toNat) (c:j<n.toNat):Sz 1000000 (t.cf i j):=by
 have b:=pz (l:=t.jA) (d:=[]) (show i<t.jA.length by rw[h.2.1.jA];exact a)
 exact h.2.2.1 _ b _ (pz (by rw[h.2.1.row i a];exact c))
theorem Ug.bd (h:Ug n m t) {i:Nat} (a:i<m.toNat):Sz 1000000 (t.bd i):=h.2.2.2.1 _ (pz (by rw[h.2.1.bound];exact a))
theorem Ug.cs (h:Ug n m t) {j:Nat} (a:j<n.toNat):Sz 1000000 (t.cs j):=h.2.2.2.2.1 _ (pz (by rw[h.2.1.cost];exact a))
end
theorem agF {q:Rat}:0<HW q↔0<q:=by
 grind[HW]
theorem axA {q:Rat}:HW q=0↔q=0:=by
 grind[HW]
theorem aq8 {q:Rat}:HW q<0↔q<0:=by
 grind[HW]
def aq9:og:=afs 146 Unit .nil (λ_ _ _ _=>True) (λn _ t _=> .si .i64 (um t n.toNat)) (λ_ _ t _=>t)
def aFH (n m:Int) (t:Tb):Nat->jY
 |3=> .inv Int (λj=>⟨[(0,.ptr 0 0 10),(3,.si .i64 (um t j.toNat)),(9,.ow 4 t.free.length 1),(10,.si .i64 t.free.length),(11,.si .i64 j)],(ek n m t).Gu⟩)
   (λs=>iS s 11) (λj=>0<=j/\j<=n) (λj=>(n - j).toNat) λ_ _=> .look
 |_=> .look
theorem h411:sd Tryz.prog aq9:=by
 refine Sj (L:=[r99]) (W:=[]) aq9 (λa=>aFH a.1.n a.1.m a.1.t) (by simp) (by grind[h99]) ?_
 rintro⟨x,u⟩ ⟨n,m,t,T,B, -⟩
 simp only at T
 subst T
 refine gp (let a:=SV.si .i64;let j:=(0:Int);let k:=cJ.row;let B:=SV.ow;let K:=Ξ;let w:=γ5 0 0 10;let y:=(ek n m t).t;let S:=B 4 (ek n m t).k4 1;let D:=y.free.length;let F:=B 4 D 1;let z:=a (↑D:Int);let o:=(ek n m t).n;let O:=cn.i .u32;let b:=ek o (ek n m t).m y;let s:=cJ.cells [a b.n,a b.m,B 1 b.k0 1,B 2 b.k1 3,K sF b.cost,γv b.v.fst,K O b.v.snd.fst,K O b.v.snd.snd,B 3 b.k3 1,B 4 b.k4 1] 179 10 false;let g:=k sF.fK b.jA 72 false;let h:=k sF b.bound 70 false;let q:=cn.i .i64;let f:=k q b.basic 3 false;let e:=k q b.free 3 false;let d:=b.free.length;(((w.same w/\(γu .i64 (-1:Int)).same (a (um y 0))/\S.same F/\(a (↑(ek n m t).k4:Int)).same z/\(γu .i64 0).same (a 0)/\True)/\(cJ.cells [a o,a (ek n m t).m,B 1 (ek n m t).k0 1,B 2 (ek n m t).k1 3,K sF (ek n m t).cost,γv (ek n m t).v.fst,K O (ek n m t).v.snd.fst,K O (ek n m t).v.snd.snd,B 3 (ek n m t).k3 1,S] 179 10 false).same s/\(k sF.fK (ek n m t).jA 72 false).same g/\(k sF (ek n m t).bound 70 false).same h/\(k q (ek n m t).basic 3 false).same f/\(k q (ek n m t).free 3 false).same e/\True)/\j<=j/\j<=o)/\∀(x:Int),let c:=x+(1:Int);let l:=um y x.toNat;let M:=a l;let N:=a (um y c.toNat);let p:=a c;let r:=bC b.cost x.toNat sF.dflt;let I:=(r.fst,r.snd.fst,r.snd.snd);let G:=decide (x<(↑D:Int));let E:=decide (l<j);let H:=decide (bC b.free x.toNat j<bC b.free l.toNat j);let A:=ie .i64 c/\((w.same w/\M.same N/\F.same F/\z.same z/\p.same p/\True)/\s.same s/\g.same g/\h.same h/\f.same f/\e.same e/\True)/\(j<=c/\c<=o)/\(o - c).toNat<(o - x).toNat;let C:=ie .i64 c/\((w.same w/\(a x).same N/\F.same F/\z.same z/\p.same p/\True)/\s.same s/\g.same g/\h.same h/\f.same f/\e.same e/\True)/\(j<=c/\c<=o)/\(o - c).toNat<(o - x).toNat;let J:=λ(u:Bool) ↦decide (j<HW (fa I))=u;j<=x/\x<=o->(G=true->D=d/\j<=x/\x<(↑d:Int)/\D=d/\x.toNat<d/\j<=x/\x<(↑b.cost.length:Int)/\x.toNat<b.cost.length/\lT I/\(J true->(E=true->C)/\(E=false->b.k4=d/\j<=l/\l<(↑d:Int)/\b.k4=d/\l.toNat<d/\(H=true->C)/\(H=false->A)))/\(J false->A))/\(G=false->M.same (a (um y o.toNat))/\s.same s/\g.same g/\h.same h/\f.same f/\e.same e/\True)) (by kernel_rfl) ?_
 simp only[aew]
 try simp only[ek]
 simp only[vcs]
 obtain⟨⟨⟨n0,n1⟩,m0,m1⟩,P,hz⟩:=id B
 have Z:=P.free
 have a0:=P.cost
 have V:=@AX t.cost
 refine⟨⟨rfl,by omega,by omega⟩,?_⟩
 rintro j ⟨Q,j1⟩
 have U:um t (j+1).toNat=if 0<t.cs j.toNat/\(um t j.toNat<0\/t.fv j.toNat<t.fv (um t j.toNat).toNat) then(j.toNat:Int) else um t j.toNat:=by
  rw[show(j+1).toNat=j.toNat+1 by omega]
  rfl
 have hb:um t j.toNat<j.toNat:=by
  grind[afr]
 refine⟨λR=>?_,λR=>by grind⟩
 have hc:bC (fL t.cost) j.toNat sF.dflt=cC (t.cs j.toNat):=MB (by omega)
 simp only[hc,SD,sy,decide_eq_true_eq,decide_eq_false_iff_not,agF]
 have K:∀k:Nat,bC t.free k 0=t.fv k:=λk=>rfl
 rw[K,K,U]
 refine⟨Q,R,by omega,Q,by omega,by omega,uf (B.cs (by omega)) (by omega),λhp=>⟨λY=>?_,λY=>⟨by omega,by omega,by omega,λX=>?_,λX=>?_⟩⟩,λhp=>?_⟩
 all_goals grind
def abe (t:Tb) (c k:Nat):fi:=if sj t c k<0 then(false,([],[])) else cC (t.bd (sj t c k).toNat / t.cf (sj t c k).toNat c)
def ara:og:=afs 147 Int (.one (sx .i64)) (λn _ _ c=>0<=c/\c<n) (λ_ m t c=> .si .i64 (sj t c.toNat m.toNat)) (λ_ _ t _=>t)
def aFI (n m:Int) (t:Tb) (c:Int):Nat->jY
 |4=> .inv Int (λi=>⟨[(0,.ptr 0 0 10),(1,.si .i64 c),(5,.si .i64 (sj t c.toNat i.toNat)),(6,.ptr 5 0 3),(15,.ow 1 t.jA.length 1),(16,.si .i64 t.jA.length),(17,.si .i64 i)],(ek n m t).Gu++[.cells [.sb (abe t c.toNat i.toNat).1,.row (.i .u32) (abe t c.toNat i.toNat).2.1,.row (.i .u32) (abe t c.toNat i.toNat).2.2] 70 3 false,.dead,.dead]⟩)
   (λs=>iS s 17) (λi=>0<=i/\i<=m) (λi=>(m - i).toNat) λ_ _=> .look
 |_=> .look
theorem h412:sd Tryz.prog ara:=by
 refine Sj (L:=[r99,r97,amN]) (W:=[]) ara (λa=>aFI a.1.n a.1.m a.1.t a.2) (by simp) (by grind[h99,h97,h416]) ?_
 rintro⟨x,c⟩ ⟨n,m,t,hx,D,hd⟩
 simp only at hx hd
 subst hx
 refine gp (let a:=SV.si .i64;let b:=(0:Int);let h:=Ξ;let j:=cJ.cells;let k:=cJ.row;let q:=SV.ow;let y:=γv;let V:=γ5 0 0 10;let G:=(ek n m t).t;let X:=γ5 5 0 3;let M:=q 1 (ek n m t).k0 1;let D:=G.jA.length;let J:=q 1 D 1;let L:=a (↑D:Int);let E:=(ek n m t).m;let s:=cn.i .u32;let d:=ek (ek n m t).n E G;let o:=j [a d.n,a d.m,q 1 d.k0 1,q 2 d.k1 3,h sF d.cost,y d.v.fst,h s d.v.snd.fst,h s d.v.snd.snd,q 3 d.k3 1,q 4 d.k4 1] 179 10 false;let B:=d.jA;let g:=k sF.fK B 72 false;let C:=d.bound;let r:=k sF C 70 false;let H:=cn.i .i64;let l:=k H d.basic 3 false;let p:=k H d.free 3 false;let N:=abe G c.toNat 0;let c4:=sF.fK.dflt;let f:=d.basic.length;0=0/\0=0/\(((V.same V/\(a c).same (a c)/\(γu .i64 (-1:Int)).same (a (sj G c.toNat 0))/\X.same X/\M.same J/\(a (↑(ek n m t).k0:Int)).same L/\(γu .i64 0).same (a 0)/\True)/\(j [a (ek n m t).n,a E,M,q 2 (ek n m t).k1 3,h sF (ek n m t).cost,y (ek n m t).v.fst,h s (ek n m t).v.snd.fst,h s (ek n m t).v.snd.snd,q 3 (ek n m t).k3 1,q 4 (ek n m t).k4 1] 179 10 false).same o/\(k sF.fK (ek n m t).jA 72 false).same g/\(k sF (ek n m t).bound 70 false).same r/\(k H (ek n m t).basic 3 false).same l/\(k H (ek n m t).free 3 false).same p/\(j [SV.bl false,h s [],h s []] 70 3 false).same (j [y N.fst,h s N.snd.fst,h s N.snd.snd] 70 3 false)/\cJ.dead.same cJ.dead/\cJ.dead.same cJ.dead/\True)/\b<=b/\b<=E)/\∀(x:Int),let e:=x+(1:Int);let b6:=a (sj G c.toNat e.toNat);let I:=a e;let O:=bC C x.toNat sF.dflt;let b5:=(O.fst,O.snd.fst,O.snd.snd);let F:=bC B x.toNat c4;let U:=bC F c.toNat sF.dflt;let K:=(U.fst,U.snd.fst,U.snd.snd);let w:=cC (fa b5 / fa K);let T:=abe G c.toNat e.toNat;let Z:=j [y T.fst,h s T.snd.fst,h s T.snd.snd] 70 3 false;let z:=sj G c.toNat x.toNat;let a3:=a z;let A:=abe G c.toNat x.toNat;let a5:=(w.fst,w.snd.fst,w.snd.snd);let b1:=(A.fst,A.snd.fst,A.snd.snd);let b2:=Kr (fa a5) (fa b1);let a2:=decide (x<(↑D:Int));let a7:=decide (b<=z);let b8:=decide (bC d.basic z.toNat b<bC d.basic x.toNat b);let P:=ie .i64 e/\((V.same V/\(a c).same (a c)/\(a x).same b6/\X.same X/\J.same J/\L.same L/\I.same I/\True)/\o.same o/\g.same g/\r.same r/\l.same l/\p.same p/\(j [y w.fst,h s w.snd.fst,h s w.snd.snd] 70 3 false).same Z/\cJ.dead.same cJ.dead/\cJ.dead.same cJ.dead/\True)/\(b<=e/\e<=E)/\(E - e).toNat<(E - x).toNat;let S:=ie .i64 e/\((V.same V/\(a c).same (a c)/\a3.same b6/\X.same X/\J.same J/\L.same L/\I.same I/\True)/\o.same o/\g.same g/\r.same r/\l.same l/\p.same p/\(j [y A.fst,h s A.snd.fst,h s A.snd.snd] 70 3 false).same Z/\cJ.dead.same cJ.dead/\cJ.dead.same cJ.dead/\True)/\(b<=e/\e<=E)/\(E - e).toNat<(E - x).toNat;let a4:=lT K;let b4:=λ(u:Bool) ↦decide (b<b2)=u;let b0:=λ(u:Bool) ↦decide (b2=b)=u;let Y:=λ(u:Bool) ↦decide (HW (fa K)<=b)=u;b<=x/\x<=E->(a2=true->D=B.length/\b<=x/\x<(↑B.length:Int)/\D=B.length/\x.toNat<B.length/\b<=c/\c<(↑F.length:Int)/\c.toNat<F.length/\a4/\(Y true->S)/\(Y false->d.k1=C.length/\b<=x/\x<(↑C.length:Int)/\d.k1=C.length/\x.toNat<C.length/\b<=c/\c<(↑F.length:Int)/\c.toNat<F.length/\((lT b5/\a4)/\fa K≠(0:Rat))/\(a7=true->(lT a5/\lT b1)/\(b4 true->S)/\(b4 false->(b0 true->d.k3=f/\b<=x/\x<(↑f:Int)/\d.k3=f/\x.toNat<f/\d.k3=f/\b<=z/\z<(↑f:Int)/\d.k3=f/\z.toNat<f/\(b8=true->S)/\(b8=false->P))/\(b0 false->P)))/\(a7=false->P)))/\(a2=false->a3.same (a (sj G c.toNat E.toNat))/\o.same o/\g.same g/\r.same r/\l.same l/\p.same p/\True)) (by kernel_rfl) ?_
 simp only[aew]
 try simp only[ek]
 simp only[vcs]
 obtain⟨⟨⟨n0,n1⟩,m0,m1⟩,hw,hz⟩:=id D
 have c9:=hw.jA
 have a0:=hw.bound
 have d2:=hw.basic
 have c8:=@aq6 t.jA
 have d7:=@AX t.bound
 have c0:∀{x y:fi},x=y->(cJ.cells [γv x.1,Ξ (cn.i IntKind.u32) x.2.1,Ξ (cn.i IntKind.u32) x.2.2] 70 3 false).same (cJ.cells [γv y.1,Ξ (cn.i IntKind.u32) y.2.1,Ξ (cn.i IntKind.u32) y.2.2] 70 3 false):=by rintro _ _ rfl;rfl
 have c1:abe t c.toNat 0=(false,([],[])):=rfl
 refine⟨⟨⟨rfl,by rw[c1];rfl⟩,by omega,by omega⟩,?_⟩
 rintro i ⟨i0,i1⟩
 refine⟨λhi=>?_,λhi=>by grind⟩
 have R:i.toNat<m.toNat:=by omega
 have a8:bC (fM t.jA) i.toNat sF.fK.dflt=fL (bC t.jA i.toNat []):=aq7 (by omega)
 have d6:=hw.row i.toNat R
 have d1:=@AX (bC t.jA i.toNat [])
 have hA:bC (fL (bC t.jA i.toNat [])) c.toNat sF.dflt=cC (t.cf i.toNat c.toNat):=MB (by omega)
 have hB:bC (fL t.bound) i.toNat sF.dflt=cC (t.bd i.toNat):=MB (by omega)
 have c3:∀k:Nat,bC t.basic k 0=t.bv k:=λk=>rfl
 have Q:=D.cf (i:=i.toNat) (j:=c.toNat) R (by omega)
 have b3:=D.bd (i:=i.toNat) R
 have hs:sj t c.toNat (i+1).toNat=if t.cf i.toNat c.toNat<=0 then sj t c.toNat i.toNat
  else if 0<=sj t c.toNat i.toNat/\(t.bd (sj t c.toNat i.toNat).toNat / t.cf (sj t c.toNat i.toNat).toNat c.toNat<t.bd i.toNat / t.cf i.toNat c.toNat\/(t.bd i.toNat / t.cf i.toNat c.toNat=t.bd (sj t c.toNat i.toNat).toNat / t.cf (sj t c.toNat i.toNat).toNat c.toNat/\t.bv (sj t c.toNat i.toNat).toNat<t.bv i.toNat)) then sj t c.toNat i.toNat
  else(i.toNat:Int):=by
  rw[show(i+1).toNat=i.toNat+1 by omega]
  rfl
 have d5:sj t c.toNat i.toNat<i.toNat:=by
  grind[agD]
 have d4:0<=sj t c.toNat i.toNat->0<t.cf (sj t c.toNat i.toNat).toNat c.toNat:=λh=>by
  rcases @agD t c.toNat i.toNat with⟨h2,_⟩|⟨b,h2,a1,hp,_⟩<;>simp_all
 have M:∀q:Rat,HW q<=0↔q<=0:=λq=>by
  have:=@agF q
  grind
 simp only[a8,hA,hB,SD,sy,c3,M,aFq,aFr]
 have a6:0<=sj t c.toNat i.toNat->abe t c.toNat i.toNat=cC (t.bd (sj t c.toNat i.toNat).toNat / t.cf (sj t c.toNat i.toNat).toNat c.toNat):=λh=>by
  simp_all[abe,if_neg]
 have c6:(0<=i+1/\i+1<=m)/\(m - (i+1)).toNat<(m - i).toNat:=by omega
 have c5:sj t c.toNat (i+1).toNat=sj t c.toNat i.toNat->abe t c.toNat i.toNat=abe t c.toNat (i+1).toNat:=λh=>by
  unfold abe;rw[h]
 have c7:sj t c.toNat (i+1).toNat=(i.toNat:Int)->cC (t.bd i.toNat / t.cf i.toNat c.toNat)=abe t c.toNat (i+1).toNat:=λh=>by
  unfold abe
  grind
 have a9:0<t.cf i.toNat c.toNat->t.cf i.toNat c.toNat≠0:=λh=>by grind
 refine⟨by omega,i0,by omega,by omega,by omega,hd.1,by omega,by omega,uf Q (by omega),λd0=>?_,λb7=>?_⟩
 ·grind
 ·have hp:0<t.cf i.toNat c.toNat:=ζS.1 b7
  rw[if_neg b7] at hs
  have J:=aqS b3 Q (a9 hp)
  refine⟨by omega,i0,by omega,by omega,by omega,hd.1,by omega,by omega,⟨⟨uf b3 (by omega),uf Q (by omega)⟩,a9 hp⟩,λh0=>?_,λh0=>?_⟩
  ·have hl:=a6 h0
   have d3:=aqS (D.bd (i:=(sj t c.toNat i.toNat).toNat) (by omega)) (D.cf (i:=(sj t c.toNat i.toNat).toNat) (j:=c.toNat) (by omega) (by omega)) (by grind)
   have b9:fa (abe t c.toNat i.toNat)=t.bd (sj t c.toNat i.toNat).toNat / t.cf (sj t c.toNat i.toNat).toNat c.toNat:=by rw[hl,sy]
   simp only[b9]
   refine⟨⟨uf J (by omega),by grind[uf]⟩,λa1=>?_,λa1=>⟨λc2=>⟨i0,by omega,by omega,h0,by omega,by omega,λa0=>?_,λa0=>?_⟩,λc2=>?_⟩⟩
   ·grind
   all_goals grind
  grind
theorem axB {l:List Off}:∀{c:List Int} {a:Int}, -1<=a->c.Pairwise (·<·)->(∀x∈c,a<x/\x<l.length)->uv l a c=some (c.map λx=>bC l x.toNat cn.off.dflt)
 |[],_,_,_,_=>rfl
 |i::c,a,f,h,d=>by
  rw[List.pairwise_cons] at h
  have e:=d i (by simp)
  simp only[uv]
  rw[if_neg (by omega),@axB l c i (by omega) h.2 λx b=>⟨h.1 x b,(d x (by simp[b])).2⟩]
  rfl
theorem amV {p:dd} {c:List Int} (h:zc p.offers.length c):uv p.offers (-1) c=some (c.map (oI p)):=axB (by omega) h.1 λx a=>by have:=h.2 x a;omega
theorem arb {p:dd} (l:fO p=0) {c:List Int} (h:zc p.offers.length c):lj p c=0↔Xz (lF p) c=true:=by
 have k:=amV h
 have n:EH p c=true:=by grind[EH]
 have i:oC p c=c.map (oI p):=by grind[oC]
 have m:By p (c.map (oI p))=Xz (lF p) c:=by
  have f:nR p=p.classes.length+12:=by simp_all[nR]
  have g:(lF p).bounds.length=p.classes.length+12:=by show(Ss p (nR p)).length=_;rw[al5,f]
  unfold By Xz;rw[g]
  have d:∀r:Nat,r<p.classes.length+12->bC (lF p).bounds r 0=nn p r/\Zp (lF p) c r=li p (c.map (oI p)) r:=λr j=>by
   refine⟨?_,?_⟩
   ·show bC (Ss p (nR p)) r 0=_
    grind[my,Ss]
   ·have a:bC (lF p).rows r []=uD p r p.offers.length:=by
     show bC (Zo p (nR p)) r []=_
     grind[my,Zo]
    unfold Zp li;rw[a,δq]
    congr 1
    refine γ0 λx b=>?_
    have:=h.2 x b
    have e:x.toNat<p.offers.length:=by omega
    show bC (uD p r p.offers.length) x.toNat 0=sV p r (bC p.offers x.toNat cn.off.dflt)
    grind[my,uD]
  grind
 simp_all[lj]
theorem aFJ {p:dd} (d:fO p=0) {c:List Int} (h:zc p.offers.length c):qX p c=pI (lF p) c:=by
 have a:oC p c=c.map (oI p):=by grind[oC,amV]
 unfold qX;rw[if_pos d,a]
 clear h a
 induction c with
 |nil=>rfl
 |cons x c b=>
  have e:pI (lF p) (x::c)=(oI p x).value+pI (lF p) c:=by simp[pI];rfl
  rw[e,<-b];rfl
theorem axC {g:Game} {n:Nat}:∀{l c:List Int},zc n c->l.Nodup->(∀x∈l,x∉c/\0<=x/\x<n)->zc n (l.foldl (stepG g) c)
 |[],c,b,_,_=>b
 |x::l,c,b,e,d=>by
  rw[δx] at e
  have i:=d x (by simp)
  have f:zc n (stepG g c x):=by
   unfold stepG;split
   ·refine aqv ?_ λy a=>?_
    ·grind[amm]
    ·rw[γt] at a
     rcases a with a|a
     ·exact b.2 y a
     simp_all
   ·exact b
  show zc n (l.foldl (stepG g) (stepG g c x))
  refine axC f e.2 λy a=>⟨λh=>?_,(d y (by simp[a])).2⟩
  grind[awQ]
theorem aFK {p:dd}:(Gj p).Nodup:=by
 unfold Gj;split
 ·exact(adM (D:=gB p) (l:=rb p.offers.length)).symm.nodup (ajN.imp λh=>by omega)
 simp_all
theorem aFL {p:dd} {k:Nat}:zc p.offers.length (abD (lF p) ((Gj p).take k)):=
 axC ⟨δM,by simp⟩ (aFK.sublist (List.take_sublist _ _)) λx a=>⟨by simp,(aqp (List.mem_of_mem_take a)).2⟩
theorem axD {l m:List Int} (h:l.Perm m):l.sum=m.sum:=by
 induction h<;>grind
theorem axE {g:Game}:∀{l c:List Int},Xz g c=true->Xz g (l.foldl (stepG g) c)=true
 |[],c,h=>h
 |x::l,c,h=>by
  show Xz g (l.foldl (stepG g) (stepG g c x))=true
  refine axE ?_
  grind[stepG]
theorem aFM {p:dd} (d:fO p=0):Xz (lF p) []=true:=by
 unfold Xz;rw[γf];intro r b
 have a:r<(lF p).bounds.length:=δh.1 b
 have c:bC (lF p).bounds r 0=nn p r:=by
  show bC (Ss p (nR p)) r 0=_
  rw[my (by exact a)]
  simp[Ss]
 simp_all[ajO,Zp]
theorem aFN {p:dd}:zc p.offers.length (YA p):=by
 have h:=@aFL p (Gj p).length
 rw[List.take_length] at h;exact h
theorem axF {p:dd} (a:fO p=0):lj p (YA p)=0:=(arb a aFN).2 (axE (aFM a))
theorem aFO {g:Game} (i:afm g):∀{n:Nat} {c:List Int},zc g.offers.length c->Xz g c=true->zc g.offers.length (ZW g n c)/\Xz g (ZW g n c)=true/\pI g c<=pI g (ZW g n c)/\((1000000000 - pI g c).toNat<=n->Lr g (ZW g n c)=none):=by
 intro n
 induction n with
 |zero=>
  intro c a j
  refine⟨a,j,Int.le_refl _,λh=>?_⟩
  show Lr g c=none
  cases f:Lr g c with
  |none=>rfl
  |some t=>
   obtain⟨d,b⟩:=ah5 f a
   have k:=adQ i b
   unfold aa5 at d
   grind
 |succ n l=>
  intro c a j
  cases f:Lr g c with
  |none=>
   grind[ZW]
  |some t=>
   have e:ZW g (n+1) c=ZW g n t:=by grind[ZW]
   rw[e]
   obtain⟨d,b⟩:=ah5 f a
   have k:=adQ i b
   unfold aa5 at d
   grind
theorem ard {p:dd} (a:fO p=0) {c:List Int} (b:lj p c=0):zc p.offers.length (HU p c).chosen/\lj p (HU p c).chosen=0/\qX p (HU p c).chosen=(HU p c).value/\qX p c<=(HU p c).value/\HU p (HU p c).chosen=HU p c:=by
 obtain⟨_,d⟩:=aa7 b
 have h:=awX a
 obtain⟨i,j,l,g⟩:=aFO h (n:=(1000000000 - pI (lF p) c).toNat) (c:=c) d ((arb a d).1 b)
 have e:HU p c=⟨TR (lF p) c,pI (lF p) (TR (lF p) c)⟩:=by simp_all[HU]
 have f:lj p (TR (lF p) c)=0:=(arb a i).2 j
 have k:TR (lF p) (TR (lF p) c)=TR (lF p) c:=awW (g (Θ _))
 simp_all[aFJ,HU,TR,lF]
def s4 (t0:Tb) (v:Int):Rat:=if v∈t0.free then t0.cs (t0.free.idxOf v) else 0
section
variable {n m:Nat} {t t0:Tb}
theorem Run.goal (h:Run n m t0 t) {x:Int->Rat} {z:Rat} (d:t.holds n m x z):z=t0.value+(jd m (λk=>s4 t0 (t.bv k)*x (t.bv k))+jd n (λj=>s4 t0 (t.fv j)*x (t.fv j))):=by
 have a:∀t:Tb,t.WF n m->ZZ (λv=>s4 t0 v*x v) (t.basic++t.free)=jd m (λk=>s4 t0 (t.bv k)*x (t.bv k))+jd n (λj=>s4 t0 (t.fv j)*x (t.fv j)):=λt c=>by
  rw[ajX,ac8,ac8,c.basic,c.free];rfl
 rw[<-a t h.wf,aqZ h.perm,a t0 h.wf0]
 rw[q0 (n:=m) (g:=λ_=>0) λk e=>by
  unfold s4;rw[if_neg (aq0 h.wf0 h.nd e)]
  grind,Ls]
 rw[q0 (n:=n) (g:=λj=>t0.cs j*x (t0.fv j)) λj b=>by
  have i:j<t0.free.length:=by rw[h.wf0.free];exact b
  unfold s4;rw[if_pos (agB h.wf0 b),show t0.free.idxOf (t0.fv j)=j from ab5 (γF.1 h.nd).2.1 i]]
 have f:=(((h.sol _ _).1 d).2)
 rw[f]
 grind
theorem Run.val (h:Run n m t0 t):t.value=t0.value+jd m λk=>s4 t0 (t.bv k)*t.bd k:=by
 have a:=h.goal (asg_holds h.wf h.DJ (y:=λ_=>0))
 rw[q0 (n:=n) (f:=λj=>t.cs j*(λ_=>(0:Rat)) j) (g:=λ_=>0) λj _=>by grind,Ls] at a
 rw[q0 (n:=n) (f:=λj=>s4 t0 (t.fv j)*Lt n t (λ_=>0) (t.fv j)) (g:=λ_=>0) λj c=>by rw[aaE h.wf h.DJ c];grind,Ls] at a
 rw[q0 (n:=m) (g:=λk=>s4 t0 (t.bv k)*t.bd k) λk b=>by
  rw[abb h.wf h.DJ b,q0 (g:=λ_=>0) λj _=>by grind,Ls]
  grind] at a
 grind
theorem aft {n c:Nat} {q:Rat} (d:c<n):jd n (λj=>if j=c then q else 0)=q:=by
 induction n with
 |zero=>omega
 |succ n b=>
  unfold jd
  by_cases h:c=n
  ·subst h
   rw[if_pos rfl,q0 (g:=λ_=>0) λj a=>by grind,Ls]
   grind
  grind
theorem arf {f g:Nat->Rat}:∀{n:Nat},jd n (λj=>f j - g j)=jd n f - jd n g
 |0=>by grind[jd]
 |n+1=>by simp only[jd,@arf f g n];grind
theorem Run.aFP (h:Run n m t0 t) {c:Nat} (b:c<n):t.cs c=s4 t0 (t.fv c) - jd m λk=>s4 t0 (t.bv k)*t.cf k c:=by
 have a:=h.goal (asg_holds h.wf h.DJ (y:=λj=>if j=c then 1 else 0))
 rw[q0 (n:=n) (f:=λj=>t.cs j*(if j=c then(1:Rat) else 0)) (g:=λj=>if j=c then t.cs c else 0) λj _=>by
  grind,aft b] at a
 rw[q0 (n:=n) (f:=λj=>s4 t0 (t.fv j)*Lt n t (λj=>if j=c then 1 else 0) (t.fv j)) (g:=λj=>if j=c then s4 t0 (t.fv c) else 0) λj e=>by
  rw[aaE h.wf h.DJ e]
  grind,aft b] at a
 rw[q0 (n:=m) (g:=λk=>s4 t0 (t.bv k)*t.bd k - s4 t0 (t.bv k)*t.cf k c) λk d=>by
  rw[abb h.wf h.DJ d,q0 (g:=λj=>if j=c then t.cf k c else 0) λj _=>by
   grind,aft b]
  grind,arf,h.val] at a
 grind
end
theorem arh {M K:Nat} {p q:Rat} (e:yx M p) (f:yx K q):yx (M*K) (p*q):=by
 obtain⟨a,rfl,d⟩:=e
 obtain⟨b,rfl,c⟩:=f
 exact⟨a*b,by simp_all,by rw[εu];exact ζh d c⟩
theorem axG {M K:Nat} {p q:Rat} (d:yx M p) (c:yx K q):yx (M+K) (p+q):=by
 obtain⟨a,rfl,f⟩:=d
 obtain⟨b,rfl,e⟩:=c
 exact⟨a+b,by simp_all,by omega⟩
theorem aFQ {M:Nat} {p:Rat} (b:yx M p):yx M (-p):=by
 obtain⟨a,rfl,c⟩:=b
 exact⟨-a,by simp_all,by omega⟩
theorem axH {M:Nat}:yx M 0:=⟨0,rfl,by simp⟩
theorem yx.le {M K:Nat} {p:Rat} (b:yx M p) (h:M<=K):yx K p:=by
 obtain⟨a,rfl,c⟩:=b
 exact⟨a,rfl,by omega⟩
theorem ari {M:Nat} {f:Nat->Rat}:∀{n:Nat},(∀k,k<n->yx M (f k))->yx (n*M) (jd n f)
 |0,_=>by grind[jd,axH]
 |n+1,h=>by
  have a:=axG (@ari M f n λk b=>h k (by omega)) (h n (by omega))
  grind[jd]
theorem arj {f:Nat->Rat} {d:Rat}:∀{n:Nat},jd n f*d=jd n λk=>f k*d
 |0=>by grind[jd]
 |n+1=>by
  have:=@arj f d n
  grind[jd]
theorem aFR {X k:Nat} {q D:Rat} (f:yx X (q*D)) (c:yx X D) (g:D≠0) (o:X<4294967296^k):Sz k q:=by
 obtain⟨a,p,l⟩:=f
 obtain⟨d,rfl,m⟩:=c
 have b:d≠0:=λh=>g (by subst h;rfl)
 have n:((4294967296^k:Nat):Int)=(4294967296:Int)^k:=by
  simp_all
 have i:(X:Int)<4294967296^k:=by
  omega
 have e:q=mkRat (a*d.sign) d.natAbs:=by
  have f:mkRat (a*d.sign) d.natAbs=((a*d.sign:Int):Rat) / ((d.natAbs:Int):Rat):=by
   rw[δE];rfl
  have c:((d.natAbs:Int):Rat)=(d:Rat)*(d.sign:Rat):=by
   rw[<-Rat.intCast_mul]
   simp_all
  have j:(d.sign:Rat)*(d.sign:Rat)=1:=by
   rw[<-Rat.intCast_mul]
   rcases Int.lt_or_lt_of_ne b with h|h
   ·rw[Int.sign_eq_neg_one_of_neg h];rfl
   grind
  grind
 rw[e]
 refine ajJ (by omega) ?_ (by omega)
 grind
structure Small (n m M G:Nat) (t0:Tb):Prop where
 wf:t0.WF n m
 nd:(t0.basic++t0.free).Nodup
 cf:∀i j,i<m->j<n->yx M (t0.cf i j)
 bd:∀i,i<m->yx M (t0.bd i)
 cs:∀j,j<n->yx G (t0.cs j)
 v:t0.value=0
 M1:1<=M
 G1:M<=G
 X:(m+2)*(G*aa9 M m)<4294967296^1000
theorem aFS {a b c:Nat} (h:1<=a) (d:1<=b):c<=a*(b*c):=by
 have e:1*(1*c)<=a*(b*c):=ζh h (ζh d (Θ _))
 omega
theorem Small.goal {n m M G:Nat} {t0:Tb} (h:Small n m M G t0) {v:Int}:yx G (s4 t0 v):=by
 unfold s4;split
 ·rename_i a
  exact h.cs _ (by rw[<-h.wf.free];grind)
 ·exact axH
theorem Small.sz1 {n m M G:Nat} {t0 t:Tb} (h:Small n m M G t0) (a:Run n m t0 t):(∀i,i<m->Sz 1000 (t.bd i))/\(∀j,j<n->Sz 1000 (t.cs j))/\Sz 1000 t.value/\∀i j,i<m->j<n->Sz 1000 (t.cf i j):=by
 have y:=a.aFx h.M1 h.cf
 have A:=h.X
 have B:1<=G:=Nat.le_trans h.M1 h.G1
 have u:aa9 M m<=(m+2)*(G*aa9 M m):=aFS (by omega) B
 have l:∀{q:Rat},yx ((m+2)*(G*aa9 M m)) (q*Ly m t0 t)->Sz 1000 q:=λz=>aFR z (y.le u) a.dt A
 have d:∀r c,r<m->c<n->yx (aa9 M m) (t.cf r c*Ly m t0 t):=λr c o d=>a.cfZ h.M1 h.cf o d
 have x:∀r,r<m->yx (aa9 M m) (t.bd r*Ly m t0 t):=λr o=>a.bdZ h.M1 h.cf h.bd o
 refine⟨λi w=>l ((x i w).le u),λj b=>l ?_,l ?_,λi j w b=>l ((d i j w b).le u)⟩
 ·have e:=a.aFP b
  have p:t.cs j*Ly m t0 t=s4 t0 (t.fv j)*Ly m t0 t+ -(jd m λk=>s4 t0 (t.bv k)*(t.cf k j*Ly m t0 t)):=by
   rw[e,q0 (f:=λk=>s4 t0 (t.bv k)*(t.cf k j*Ly m t0 t)) (g:=λk=>(s4 t0 (t.bv k)*t.cf k j)*Ly m t0 t) λk _=>by grind,<-arj]
   grind
  rw[p]
  refine(axG (arh h.goal y) (aFQ (ari λk s=>arh h.goal (d k j s b)))).le ?_
  grind
 ·have p:t.value*Ly m t0 t=jd m λk=>s4 t0 (t.bv k)*(t.bd k*Ly m t0 t):=by
   rw[a.val,h.v,q0 (f:=λk=>s4 t0 (t.bv k)*(t.bd k*Ly m t0 t)) (g:=λk=>(s4 t0 (t.bv k)*t.bd k)*Ly m t0 t) λk _=>by grind,<-arj]
   grind
  rw[p]
  refine(ari λk s=>arh h.goal (x k s)).le ?_
  grind
theorem Small.szT {n m M G:Nat} {t0 t:Tb} (h:Small n m M G t0) (b:Run n m t0 t):szT 1000000 t:=by
 obtain⟨g,r,k,o⟩:=h.sz1 b
 have e:∀{f:Type} {l:List f} {P:f->Prop} {d:f},(∀i,i<l.length->P (bC l i d))->∀q∈l,P q:=λh q p=>by
  obtain⟨i,a,rfl⟩:=δb p
  grind[my]
 refine⟨e (d:=[]) λi a=>?_,e (d:=0) λi a=>?_,e (d:=0) λj c=>?_,k.mono (by omega)⟩
 ·rw[b.wf.jA] at a
  refine e (d:=0) λj c=>?_
  rw[b.wf.row i a] at c
  exact(o i j a c).mono (by omega)
 ·rw[b.wf.bound] at a
  exact(g i a).mono (by omega)
 ·rw[b.wf.cost] at c
  exact(r j c).mono (by omega)
theorem axJ {n m:Int} {M G:Nat} {t0 t:Tb} (h:Small n.toNat m.toNat M G t0) (a:Run n.toNat m.toNat t0 t) (c:0<=n/\n<=1000) (b:0<=m/\m<=1000):Ug n m t:=⟨⟨c,b⟩,a.wf,h.szT a⟩
section
variable {n m:Nat} {t t0:Tb}
theorem axK:∀{N:Nat} {t:Tb},Run n m t0 t->SC m t->Run n m t0 (runT n m N t)/\SC m (runT n m N t)
 |0,t,b,a=>⟨b,a⟩
 |N+1,t,b,a=>by
  unfold runT;split
  ·simp_all
  ·rename_i d c
   have:=aq3 b a c
   exact axK this.1 this.2
theorem run_end:∀{N:Nat} {t:Tb},zd n m N t=true->stepT n m (runT n m N t)=none
 |0,t,h=>γM.1 h
 |N+1,t,h=>by
  unfold zd at h;unfold runT;split
  ·assumption
  ·rename_i b a
   rw[a] at h
   exact run_end h
theorem axL:∀{N K:Nat} {t:Tb},zd n m N t=true->N<=K->runT n m K t=runT n m N t
 |0,K,t,h,b=>by
  have d:=γM.1 h
  cases K<;>grind[runT]
 |N+1,K,t,h,b=>by
  obtain⟨K,rfl⟩:∃k,K=k+1:=⟨K - 1,by omega⟩
  unfold zd at h;unfold runT;split
  ·rfl
  ·rename_i c a
   rw[a] at h
   exact axL h (by omega)
theorem axM {f:Nat->Rat}:∀{n:Nat},(∀k,k<n->f k<=0)->jd n f<=0
 |0,_=>by grind[jd]
 |n+1,h=>by
  have a:=@axM f n λk b=>h k (by omega)
  grind[jd]
theorem axN {a b:Rat} (d:a<=0) (c:0<=b):a*b<=0:=by
 have:=δu (a:= -a) (b:=b) (by grind) c
 grind
theorem Run.best (h:Run n m t0 t) (d:um t n<0) {x:Int->Rat} {z:Rat} (a:t0.holds n m x z) (b:∀j,j<n->0<=x (t.fv j)):z<=t.value:=by
 have c:=(((h.sol _ _).2 a).2)
 grind[afr,axM,axN]
theorem Run.bnd (h:Run n m t0 t) (q:SC m t) {B:Rat} (F:∀x z,t0.holds n m x z->(∀v∈t0.basic++t0.free,0<=x v)->z<=B) {c:Nat} (I:um t n=(c:Int)) (H:sj t c m<0):False:=by
 rcases @afr t n with⟨C,d⟩|⟨a,C,d,f,G⟩
 ·omega
 ·have A:a=c:=by omega
  subst A
  rcases @agD t a m with⟨D,w⟩|⟨r,D,_⟩
  ·
   have k:∀s:Rat,0<=s->t.value+s*t.cs a<=B:=λs o=>by
    have p:=asg_holds h.wf h.DJ (y:=λj=>if j=a then s else 0)
    have e:jd n (λj=>t.cs j*(λj=>if j=a then s else 0) j)=s*t.cs a:=by
     rw[q0 (g:=λj=>if j=a then s*t.cs a else 0) λj _=>by
      grind,aft d]
    rw[e] at p
    refine F _ _ ((h.sol _ _).1 p) λv b=>?_
    rw[<-h.perm.mem_iff,γt] at b
    rcases b with b|b
    ·obtain⟨i,l,rfl⟩:=aij h.wf b
     rw[abb h.wf h.DJ l]
     have f:jd n (λj=>t.cf i j*(if j=a then s else 0))=t.cf i a*s:=by
      rw[q0 (g:=λj=>if j=a then t.cf i a*s else 0) λj _=>by
       grind,aft d]
     rw[f]
     have:=axN (w i l) o
     have:=q i l
     grind
    ·obtain⟨j,E,rfl⟩:=agC h.wf b
     rw[aaE h.wf h.DJ E]
     grind
   have u:=k 0 (by grind)
   have o:0<=(B - t.value+1) / t.cs a:=axr (by grind) f
   grind[div_mul]
  ·omega
end
open Classical in
noncomputable def afu (n m:Nat) (t:Tb):Nat:=if h:∃N,zd n m N t=true then δT h else 0
noncomputable def lastT (n m:Nat) (t:Tb):Tb:=runT n m (afu n m t) t
section
variable {n m:Nat} {t t0 t':Tb}
theorem amW {N:Nat} (h:zd n m N t=true):lastT n m t=runT n m N t:=by
 have a:∃N,zd n m N t=true:=⟨N,h⟩
 have b:zd n m (afu n m t) t=true:=by
  unfold afu
  grind
 grind[lastT,axL]
theorem axO (h:stepT n m t=none):lastT n m t=t:=by
 have a:zd n m 0 t=true:=by simp[zd,h]
 rw[amW a];rfl
theorem aFT (a:∃N,zd n m N t=true) (h:stepT n m t=some t'):lastT n m t'=lastT n m t:=by
 obtain⟨N,a⟩:=a
 have b:=axx a h
 rw[amW b,amW (aq4 a)]
 grind[runT]
theorem ark (b:Run n m t0 t) (c:SC m t):Run n m t0 (lastT n m t)/\SC m (lastT n m t)/\stepT n m (lastT n m t)=none:=by
 obtain⟨N,a⟩:=aq5 b c
 rw[amW a]
 grind[axK,run_end]
theorem axP (i:Run n m t0 t) (e:SC m t) {B:Rat} (h:∀x z,t0.holds n m x z->(∀v∈t0.basic++t0.free,0<=x v)->z<=B):um (lastT n m t) n<0:=by
 obtain⟨j,g,a⟩:=ark i e
 rcases @afr (lastT n m t) n with⟨b,d⟩|⟨c,b,d,l,k⟩
 ·omega
 ·exfalso
  unfold stepT at a
  rw[if_neg (by omega),show(um (lastT n m t) n).toNat=c by omega] at a
  split at a
  ·rename_i f
   exact j.bnd g h b f
  ·cases a
end
def dV (f:List Int) (d:Int):List Int:=(rb f.length).filter λi=>decide (bC f i.toNat 0=d)
theorem Ui {f:List Int} {d x:Int}:x∈dV f d↔(0<=x/\x<f.length)/\bC f x.toNat 0=d:=by
 simp_all[dV,adO]
theorem afv {f:List Int} {d:Int}:(dV f d).Pairwise (·<·):=ajN.sublist List.filter_sublist
theorem afw {f:List Int} {d:Int}:(dV f d).length<=f.length:=by
 have:=List.length_filter_le (λi:Int=>decide (bC f i.toNat 0=d)) (rb f.length)
 rw[Qk] at this;exact this
theorem arl {a b:Type} {g:a->b} {l:List a} {i:Nat} {d:b} {e:a} (h:i<l.length):bC (l.map g) i d=g (bC l i e):=by
 grind[my]
theorem arn {n j:Nat} {d:Int} (h:j<n):bC (rb n) j d=j:=by
 grind[rb,ac7]
def kz (p:dd) (f:List Int):Tb where
 jA:=(Φ (p.classes.length+12)).map λr:Nat=>(dV f 0).map λi=>((sV p r (oI p i):Int):Rat)
 bound:=(Φ (p.classes.length+12)).map λr:Nat=>((nn p r - li p ((dV f 1).map (oI p)) r:Int):Rat)
 cost:=(dV f 0).map λi=>(((oI p i).value:Int):Rat)
 value:=0
 basic:=(Φ (p.classes.length+12)).map λi:Nat=>(((dV f 0).length+i:Nat):Int)
 free:=rb (dV f 0).length
def xJ (p:dd) (f:List Int):Prop:=fO p=0/\f.length=p.offers.length/\By p ((dV f 1).map (oI p))=true
abbrev nF (f:List Int):Nat:=(dV f 0).length
abbrev mF (p:dd):Nat:=p.classes.length+12
section
variable {p:dd} {f:List Int}
theorem YC:(kz p f).WF (nF f) (mF p) where
 jA:=by simp[kz]
 row i a:=by
  grind[kz,ac7]
 bound:=by simp[kz]
 cost:=by simp[kz]
 basic:=by simp[kz]
 free:=by simp[kz,Qk]
theorem ail {i j:Nat} (b:i<mF p) (a:j<nF f):(kz p f).cf i j=((sV p i (oI p (bC (dV f 0) j 0)):Int):Rat):=by
 grind[Tb.cf,kz,ac7,arl]
theorem ain {i:Nat} (a:i<mF p):(kz p f).bd i=((nn p i - li p ((dV f 1).map (oI p)) i:Int):Rat):=by
 grind[Tb.bd,kz,ac7]
theorem aj1 {j:Nat} (a:j<nF f):(kz p f).cs j=(((oI p (bC (dV f 0) j 0)).value:Int):Rat):=by
 grind[Tb.cs,kz,arl]
theorem amX {i:Nat} (a:i<mF p):(kz p f).bv i=(((nF f)+i:Nat):Int):=by
 grind[Tb.bv,kz,ac7]
theorem agG {j:Nat} (a:j<nF f):(kz p f).fv j=j:=by
 grind[Tb.fv,kz,arn]
theorem ada:((kz p f).basic++(kz p f).free).Nodup:=by
 rw[γF]
 refine⟨?_,ajN.imp λh=>by omega,?_⟩
 ·simp only[kz]
  refine List.Pairwise.map _ (λa b h=>?_) List.nodup_range
  omega
 grind[kz,adO]
theorem aio (h:xJ p f) {j:Nat} (a:j<nF f):(0<=bC (dV f 0) j 0/\bC (dV f 0) j 0<p.offers.length)/\bC f (bC (dV f 0) j 0).toNat 0=0:=by
 have:=Ui.1 (pz (d:=0) a)
 rw[h.2.1] at this;exact this
theorem aaf (a:fO p=0) {i:Int} (h:0<=i/\i<p.offers.length):0<=(oI p i).jV/\(oI p i).jV<p.classes.length/\(oI p i).want.ok=true/\1<=(oI p i).value/\(oI p i).value<=1000000:=(uw a).2.2.2.2 _ (pz (show i.toNat<p.offers.length by omega))
theorem amY (h:xJ p f) {d:Int}:∀x∈(dV f d).map (oI p),0<=x.jV/\x.jV<p.classes.length/\x.want.ok=true/\1<=x.value/\x.value<=1000000:=λx a=>by
 obtain⟨i,b,rfl⟩:=γk.1 a
 have:=(Ui.1 b).1
 rw[h.2.1] at this
 exact aaf h.1 this
theorem aro {z:Int} {M:Nat} (h:z.natAbs<=M):yx M (z:Rat):=⟨z,rfl,h⟩
theorem axQ (h:xJ p f) {i:Nat} (b:i<mF p):0<=nn p i - li p ((dV f 1).map (oI p)) i/\nn p i - li p ((dV f 1).map (oI p)) i<=4:=by
 have c:i<p.classes.length+12:=b
 have d:=abY.1 h.2.2 i (by grind[ki])
 have g:=@ajO p h.1 i
 have e:=@aeg p i ((dV f 1).map (oI p)) λx a=>(amY h x a).2.2.1
 omega
theorem aFU:∀m:Nat,m<=20->(m+2)*(1000000*aa9 4 m)<4294967296^1000:=by
 have h:((Φ 21).all λm=>Nat.blt ((m+2)*(1000000*aa9 4 m)) (4294967296^1000))=true:=by decide+kernel
 intro m a
 have:=γf.1 h m (δh.2 (by omega))
 rw[Nat.blt_eq] at this
 exact this
theorem amZ (h:xJ p f):Small (nF f) (mF p) 4 1000000 (kz p f) where
 wf:=YC
 nd:=ada
 cf i j b a:=by
  rw[ail b a]
  have:=(aaf h.1 (aio h a).1).2.2.1
  grind[acA,aro]
 bd i b:=by
  rw[ain b]
  have:=axQ h b
  exact aro (by omega)
 cs j a:=by
  rw[aj1 a]
  have:=aaf h.1 (aio h a).1
  grind[aro]
 v:=rfl
 M1:=by omega
 G1:=by omega
 X:=aFU _ (by have:=(uw h.1).1;grind)
theorem am0 {z:Int} (h:0<=z):(0:Rat)<=(z:Rat):=by exact_mod_cast h
theorem arp (h:xJ p f):SC (mF p) (kz p f):=λi a=>by
 rw[ain a]
 exact am0 (axQ h a).1
theorem axR {g:Nat->Rat}:∀{n:Nat},(∀k,k<n->0<=g k)->0<=jd n g
 |0,_=>by grind[jd]
 |n+1,h=>by
  have a:=@axR g n λk b=>h k (by omega)
  grind[jd]
theorem axS {g k:Nat->Rat}:∀{n:Nat},(∀i,i<n->g i<=k i)->jd n g<=jd n k
 |0,_=>by grind[jd]
 |n+1,h=>by
  have a:=@axS g k n λk b=>h k (by omega)
  grind[jd]
theorem aFV {g:Nat->Rat} {n j:Nat} (h:∀k,k<n->0<=g k) (a:j<n):g j<=jd n g:=by
 rw[amP a]
 grind[axR]
theorem axT (h:xJ p f) {x:Int->Rat} {z:Rat} (d:(kz p f).holds (nF f) (mF p) x z) (e:∀v∈(kz p f).basic++(kz p f).free,0<=x v) {j:Nat} (b:j<nF f):x ((kz p f).fv j)<=1:=by
 obtain⟨l,_⟩:=aio h b
 have r:=aaf h.1 l
 have a:(oI p (bC (dV f 0) j 0)).jV.toNat<mF p:=by grind
 have s:=d.1 _ a
 have n:=e _ (List.mem_append_left _ (aj0 YC a))
 have i:(kz p f).cf (oI p (bC (dV f 0) j 0)).jV.toNat j=1:=by
  rw[ail a b];unfold sV
  rw[if_pos (by omega),if_pos (by omega)]
  rfl
 have m:=@aFV (λk=>(kz p f).cf (oI p (bC (dV f 0) j 0)).jV.toNat k*x ((kz p f).fv k)) (nF f) j (λk c=>by
  refine δu ?_ (e _ (εU _ (agB YC c)))
  rw[ail a c]
  exact am0 (acA (aaf h.1 (aio h c).1).2.2.1).1) b
 simp only[i] at m
 have t:(kz p f).bd (oI p (bC (dV f 0) j 0)).jV.toNat<=1:=by
  rw[ain a]
  have o:nn p (oI p (bC (dV f 0) j 0)).jV.toNat=1:=by
   unfold nn;omega
  have q:=@aeg p (oI p (bC (dV f 0) j 0)).jV.toNat ((dV f 1).map (oI p)) λx d=>(amY h x d).2.2.1
  have g:nn p (oI p (bC (dV f 0) j 0)).jV.toNat - li p ((dV f 1).map (oI p)) (oI p (bC (dV f 0) j 0)).jV.toNat<=1:=by omega
  exact_mod_cast g
 grind
theorem axU (h:xJ p f) {x:Int->Rat} {z:Rat} (c:(kz p f).holds (nF f) (mF p) x z) (e:∀v∈(kz p f).basic++(kz p f).free,0<=x v):z<=jd (nF f) (kz p f).cs:=by
 have g:=c.2
 have k:(kz p f).value=0:=rfl
 have:=@axS (λj=>(kz p f).cs j*x ((kz p f).fv j)) (kz p f).cs (nF f) λj a=>by
  have i:=axT h c e a
  have d:0<=(kz p f).cs j:=by
   rw[aj1 a]
   exact am0 (by have:=aaf h.1 (aio h a).1;omega)
  have:=δu d (b:=1 - x ((kz p f).fv j)) (by grind)
  grind
 grind
noncomputable def om (p:dd) (f:List Int):Tb:=lastT (nF f) (mF p) (kz p f)
theorem abI (h:xJ p f):Run (nF f) (mF p) (kz p f) (om p f)/\SC (mF p) (om p f)/\um (om p f) (nF f)<0:=by
 have a:=Run.refl (n:=nF f) (m:=mF p) (t0:=kz p f) YC ada
 have:=ark a (arp h)
 exact⟨this.1,this.2.1,axP a (arp h) λx z c b=>axU h c b⟩
end
def Ai (d:List fi) (j:Nat) (z:fi):List fi:=d.take j++δ (d.length - j) z
theorem aj2 {d:List fi} {j:Nat} {z:fi} (h:j<=d.length):(Ai d j z).length=d.length:=by
 grind[Ai]
theorem aj3 {d:List fi} {z:fi}:Ai d 0 z=δ d.length z:=by simp[Ai]
theorem aj6 {d:List fi} {z:fi}:Ai d d.length z=d:=by simp[Ai]
theorem aj7 {d:List fi} {j:Nat} {z x:fi} (h:j<d.length) (b:x=bC d j z):(Ai d j z).set j x=Ai d (j+1) z:=by
 unfold Ai
 have a:d.length - j=(d.length - (j+1))+1:=by omega
 rw[a,List.replicate_succ,List.set_append_right _ _ (by grind),γd,show j - min j d.length=0 by omega,List.set_cons_zero,List.take_succ_eq_append_getElem h,List.append_assoc,b,my h]
 rfl
theorem aip {l:List Rat} {i:Nat} {q:Rat}:(fL l).set i (cC q)=fL (l.set i q):=by
 simp_all[fL]
theorem elim_none {l p:List Rat} {c:Nat} (h:bC l c 0=0) (d:c<l.length):Sv l c p=l:=by
 refine γ2 amQ λi b a=>?_
 have e:=@amR c l p i a
 grind[my]
def r413:og where
 f:=148
 α:=Int
 put a:=[.si .i64 a]
 st _:=[]
 dec v o:=match v,o with
  |[v],[]=>v.int .i64
  |_,_=>none
 ok v o a h:=by
  split at h
  ·exact⟨by simp only[gL,F2 h];rfl,rfl⟩
  ·cases h
 inj a b h _:=by grind[gL,SV.g]
 dom n:=0<=n/\n<=1000
 res n:=.ow 0 n.toNat 3
 out n:=[.row sF (fL (δ n.toNat 0)) 70 false]
def aFW (n:Int):Nat->jY
 |3=> .inv Int (λj=>⟨[(3,.ow 0 n.toNat 3),(8,.si .i64 n.toNat),(9,.si .i64 j)],[.row sF (Ai (fL (δ n.toNat 0)) j.toNat (false,([],[]))) 70 true]⟩)
   (λs=>iS s 9) (λj=>0<=j/\j<=n) (λj=>(n - j).toNat) λ_ _=> .look
 |_=> .look
theorem h413:sd Tryz.prog r413:=by
 refine ao2 (L:=[r94]) (W:=[]) r413 (λ_=>none) aFW (by simp) (by grind[h94]) ?_
 rintro(n:Int) ⟨r,v⟩
 refine gp (let e:=(0:Int);let j:=cJ.row;let k:=SV.si .i64;let a:=SV.ow 0 n.toNat 3;let f:=k (↑n.toNat:Int);let o:=(cn.i .u32).fK;let h:=(false,[],[]);let g:=fL (δ n.toNat (0:Rat));let m:=cC (IntCast.intCast e);e<=n/\n<=n/\n*(56:Int)<=(140737488355328:Int)/\n<=(1000000000000:Int)/\(((a.same a/\f.same f/\(γu .i64 0).same (k 0)/\True)/\(j (cn.b.pair (o.pair o)) (δ n.toNat h) 70 true).same (j sF (Ai g 0 h) 70 true)/\True)/\e<=e/\e<=n)/\∀(x:Int),let p:=decide (x<(↑n.toNat:Int));let c:=Ai g x.toNat h;let d:=x+(1:Int);let q:=k d;e<=x/\x<=n->(p=true->((-9223372036854775808:Int)<=e/\e<=(9223372036854775807:Int))/\n.toNat=c.length/\e<=x/\x<(↑c.length:Int)/\n.toNat=c.length/\x.toNat<c.length/\ie .i64 d/\((a.same a/\f.same f/\q.same q/\True)/\(j sF (c.set x.toNat (m.fst,m.snd.fst,m.snd.snd)) 70 true).same (j sF (Ai g d.toNat h) 70 true)/\True)/\(e<=d/\d<=n)/\(n - d).toNat<(n - x).toNat)/\(p=false->a.same a/\(j sF c 70 false).same (j sF g 70 false)/\True)) (by kernel_rfl) ?_
 conv=>zeta
 try simp only[vcs]
 have l:∀k:Nat,((k:Nat):Int).toNat=k:=λk=>γm k
 have t:(fL (δ n.toNat 0)).length=n.toNat:=by grind[AX]
 have e:∀{x y:List fi},x=y->(cJ.row sF x 70 true).same (cJ.row sF y 70 true):=by rintro _ _ rfl;rfl
 refine⟨r,by omega,by omega,by omega,⟨e (by rw[aj3,t]),by omega,by omega⟩,?_⟩
 rintro j ⟨A,z⟩
 have u:=@aj2 (fL (δ n.toNat 0)) j.toNat (false,([],[])) (by omega)
 refine⟨λs=>?_,λs=>?_⟩
 ·have w:bC (fL (δ n.toNat 0)) j.toNat (false,([],[]))=cC 0:=by
   grind[MB,my]
  grind[aj7]
 ·rw[show j.toNat=(fL (δ n.toNat 0)).length by omega,aj6]
  rfl
def r417:fN:=⟨170,List fi×fi×Int×List fi×fi,.cons (mA sF) (.cons (Ac sF) (.cons (sx .i64) (.cons (mA sF) (.one (Ac sF))))),
 λa=>∃l b p c,(a.1=fL l/\a.2.1=cC b/\a.2.2.2.1=fL p/\a.2.2.2.2=cC c)/\(l.length=p.length/\l.length<=1000)/\(0<=a.2.2.1/\a.2.2.1<l.length)/\(∀q∈l,Sz 10000000 q)/\(∀q∈p,Sz 10000000 q)/\Sz 10000000 b/\Sz 10000000 c,
 λa=> .eW [.row sF (fL (Sv (vL a.1) a.2.2.1.toNat (vL a.2.2.2.1))),XA (fa a.2.1 - bC (vL a.1) a.2.2.1.toNat 0*fa a.2.2.2.2)]⟩
def aFX (l:List Rat) (b:Rat) (c:Int) (p:List Rat) (a:Rat):Nat->jY
 |6=> .inv Int (λj=>⟨[(2,.si .i64 c),(3,.row sF (fL p)),(6,.ptr 0 0 3),(9,.ptr 1 0 3),(11,.ptr 2 0 3),(12,.ptr 3 0 3),(13,.ow 4 l.length 3),(28,.row sF (fL l)),(29,.si .i64 l.length),(30,.si .i64 j)],
   [.cells [.sb (cC b).1,.row (.i .u32) (cC b).2.1,.row (.i .u32) (cC b).2.2] 70 3 false,.cells [.sb (cC a).1,.row (.i .u32) (cC a).2.1,.row (.i .u32) (cC a).2.2] 70 3 false,
    .cells [.bl false,.sc (.slice none 0 0),.sc (.slice none 0 0)] 70 3 false,.cells [.sb (cC (bC l c.toNat 0)).1,.row (.i .u32) (cC (bC l c.toNat 0)).2.1,.row (.i .u32) (cC (bC l c.toNat 0)).2.2] 70 3 false,
    .row sF (Ai (fL (Sv l c.toNat p)) j.toNat (false,([],[]))) 70 true]⟩)
   (λs=>iS s 30) (λj=>0<=j/\j<=l.length) (λj=>(l.length - j).toNat) λ_ _=> .look
 |_=> .look
theorem h417:Holds Tryz.prog r417:=by
 refine kh (L:=[r99,amM,ah8,r95]) r417 (λa=>aFX (vL a.1) (fa a.2.1) a.2.2.1 (vL a.2.2.2.1) (fa a.2.2.2.2)) (by simpa using⟨h99,h410,h130,h95⟩) ?_
 rintro⟨l',b',c,p',pb'⟩ ⟨l,b,p,pb,⟨e1,e2,e3,e4⟩,⟨g1,g2⟩,⟨c0,c1⟩,hl,hp,hb,hpb⟩
 simp only at e1 e2 e3 e4 c0 c1
 subst e1 e2 e3 e4
 refine gp (let a:=Ξ;let d:=(0:Int);let e:=SV.si .i64;let f:=cJ.cells;let g:=cJ.row;let h:=γv;let j:=sF.dflt;let k:=γ5;let m:=γL;let n:=SV.eW;let F:=bC (fL l) c.toNat j;let a2:=(F.fst,F.snd.fst,F.snd.snd);let o:=cn.i .u32;let t:=(↑(fL l).length:Int);let L:=fL (Sv (vL (fL l)) c.toNat (vL (fL p)));let v:=fa (cC b);let w:=bC (vL (fL l)) c.toNat (0:Rat);let y:=fa (cC pb);let a3:=(cC (v - w*y)).snd;let a4:=n [a sF L,m [h (cC (v - w*y)).fst,a o a3.fst,a o a3.snd]];let z:=fL (vL (fL p));let G:=a sF z;let A:=k 0 0 3;let B:=k 1 0 3;let C:=k 2 0 3;let D:=k 3 0 3;let z18:Nat:=(vL (fL l)).length;let H:=SV.ow 4 z18 3;let I:=fL (vL (fL l));let J:=a sF I;let r:=(↑z18:Int);let K:=e r;let a5:=SV.sc (Value.slice none 0 0);let E:=f [SV.bl false,a5,a5] 70 3 false;let M:=(false,[],[]);let N:=((cC w).fst,(cC w).snd.fst,(cC w).snd.snd);let O:=f [h (cC v).fst,a o (cC v).snd.fst,a o (cC v).snd.snd] 70 3 false;let P:=f [h (cC y).fst,a o (cC y).snd.fst,a o (cC y).snd.snd] 70 3 false;let Q:=f [h (cC w).fst,a o (cC w).snd.fst,a o (cC w).snd.snd] 70 3 false;let a6:=((cC y).fst,(cC y).snd.fst,(cC y).snd.snd);let a7:=((cC v).fst,(cC v).snd.fst,(cC v).snd.snd);let S:=cC (fa N*fa a6);let a8:=(S.fst,S.snd.fst,S.snd.snd);let U:=cC (fa a7 - fa a8);let a9:=λ(u:Bool) ↦decide (HW (fa a2)=d)=u;let V:=λ(u:cn.b.T) (u_1:(o.fK.pair o.fK).T) (u_2:Rat) ↦(f [h u,a o u_1.fst,a o u_1.snd] 70 3 false).same (f [h (cC u_2).fst,a o (cC u_2).snd.fst,a o (cC u_2).snd.snd] 70 3 false);d<=c/\c<t/\c.toNat<(fL l).length/\lT a2/\(a9 true->(n [a sF (fL l),m [h (cC b).fst,a o (cC b).snd.fst,a o (cC b).snd.snd]]).same a4)/\(a9 false->d<=t/\t<=t/\t*(56:Int)<=(140737488355328:Int)/\t<=(1000000000000:Int)/\((((e c).same (e c)/\(a sF (fL p)).same G/\A.same A/\B.same B/\C.same C/\D.same D/\(SV.ow 4 t.toNat 3).same H/\(a sF (fL l)).same J/\(e t).same K/\(γu .i64 0).same (e 0)/\True)/\V (cC b).fst (cC b).snd v/\V (cC pb).fst (cC pb).snd y/\E.same E/\V F.fst F.snd w/\(g (cn.b.pair (o.fK.pair o.fK)) (δ t.toNat M) 70 true).same (g sF (Ai L 0 M) 70 true)/\True)/\d<=d/\d<=r)/\∀(x:Int),let W:=bC z x.toNat j;let X:=(W.fst,W.snd.fst,W.snd.snd);let Y:=cC (fa N*fa X);let Z:=(Y.fst,Y.snd.fst,Y.snd.snd);let q:=Ai L x.toNat M;let s:=x+(1:Int);let R:=e s;let aa:=g sF (Ai L s.toNat M) 70 true;let a0:=bC I x.toNat j;let ab:=(a0.fst,a0.snd.fst,a0.snd.snd);let ac:=lT Z;let ad:=lT N/\lT X;let ae:=λ(u:Rat) ↦z18=q.length/\d<=x/\x<(↑q.length:Int)/\z18=q.length/\x.toNat<q.length/\ie .i64 s/\(((e c).same (e c)/\G.same G/\A.same A/\B.same B/\C.same C/\D.same D/\H.same H/\J.same J/\K.same K/\R.same R/\True)/\O.same O/\P.same P/\E.same E/\Q.same Q/\(g sF (q.set x.toNat ((cC u).fst,(cC u).snd.fst,(cC u).snd.snd)) 70 true).same aa/\True)/\(d<=s/\s<=r)/\(r - s).toNat<(r - x).toNat;let af:=λ(u:Bool) ↦decide (HW (fa X)=d)=u;let ag:=λ(u:List fi) ↦let a1:=bC u x.toNat j;lT (a1.fst,a1.snd.fst,a1.snd.snd);d<=x/\x<=r->(decide (x<r)=true->d<=x/\x<(↑I.length:Int)/\x.toNat<I.length/\(decide (x=c)=true->d<=x/\x<(↑z.length:Int)/\x.toNat<z.length/\ad/\ac/\ae (-fa Z))/\(decide (x=c)=false->d<=x/\x<(↑z.length:Int)/\x.toNat<z.length/\ag z/\(af true->z18=q.length/\d<=x/\x<(↑q.length:Int)/\z18=q.length/\x.toNat<q.length/\ie .i64 s/\(((e c).same (e c)/\G.same G/\A.same A/\B.same B/\C.same C/\D.same D/\H.same H/\J.same J/\K.same K/\R.same R/\True)/\O.same O/\P.same P/\E.same E/\Q.same Q/\(g sF (q.set x.toNat ab) 70 true).same aa/\True)/\(d<=s/\s<=r)/\(r - s).toNat<(r - x).toNat)/\(af false->d<=x/\x<(↑z.length:Int)/\x.toNat<z.length/\ad/\(ag I/\ac)/\ae (fa ab - fa Z))))/\(decide (x<r)=false->(lT N/\lT a6)/\(lT a7/\lT a8)/\z18=q.length/\(n [a sF q,m [h U.fst,a o U.snd.fst,a o U.snd.snd]]).same a4))) (by kernel_rfl) ?_
 simp only[YB,sy]
 try simp only[vcs]
 have hfl:=@AX l
 have hfp:=@AX p
 have hel:(Sv l c.toNat p).length=l.length:=amQ
 have hfe:=@AX (Sv l c.toNat p)
 have hA:bC (fL l) c.toNat sF.dflt=cC (bC l c.toNat 0):=MB (by omega)
 have hzc:=hl _ (pz (d:=0) (show c.toNat<l.length by omega))
 have hcast:∀k:Nat,((k:Nat):Int).toNat=k:=λk=>γm k
 have hag:∀{x y:Rat},x=y->(γL [γv (cC x).1,Ξ (cn.i IntKind.u32) (cC x).2.1,Ξ (cn.i IntKind.u32) (cC x).2.2]).same (γL [γv (cC y).1,Ξ (cn.i IntKind.u32) (cC y).2.1,Ξ (cn.i IntKind.u32) (cC y).2.2]):=by rintro _ _ rfl;rfl
 have hrow:∀{x y:List fi},x=y->(cJ.row sF x 70 true).same (cJ.row sF y 70 true):=by rintro _ _ rfl;rfl
 simp only[hA,SD,sy,axA,hcast]
 refine⟨c0,by omega,by omega,uf hzc (by omega),λhz=>⟨by rw[elim_none hz (by omega)],hag (by rw[hz];grind)⟩,λhz=>⟨by omega,by omega,by omega,by omega,⟨⟨⟨by rw[hfl];rfl,by omega⟩,rfl,hrow (by rw[aj3,hfe,hel,hfl])⟩,by omega,by omega⟩,?_⟩⟩
 rintro j ⟨j0,j1⟩
 have hru:=@aj2 (fL (Sv l c.toNat p)) j.toNat (false,([],[])) (by omega)
 refine⟨λhj=>?_,λhj=>?_⟩
 ·have hP:bC (fL p) j.toNat sF.dflt=cC (bC p j.toNat 0):=MB (by omega)
  have hL:bC (fL l) j.toNat sF.dflt=cC (bC l j.toNat 0):=MB (by omega)
  have hzp:=hp _ (pz (d:=0) (show j.toNat<p.length by omega))
  have hzl:=hl _ (pz (d:=0) (show j.toNat<l.length by omega))
  have hE:bC (fL (Sv l c.toNat p)) j.toNat (false,([],[]))=cC (if j.toNat=c.toNat then -(bC l c.toNat 0*bC p j.toNat 0) else bC l j.toNat 0 - bC l c.toNat 0*bC p j.toNat 0):=by
   rw[MB (by omega),amR (by omega)]
  have hm:=aev hzc hzp
  have tail:(0<=j+1/\j+1<=(l.length:Int))/\((l.length:Int) - (j+1)).toNat<((l.length:Int) - j).toNat:=by omega
  have step:∀{x:fi},x=bC (fL (Sv l c.toNat p)) j.toNat (false,([],[]))->(cJ.row sF ((Ai (fL (Sv l c.toNat p)) j.toNat (false,([],[]))).set j.toNat x) 70 true).same (cJ.row sF (Ai (fL (Sv l c.toNat p)) (j+1).toNat (false,([],[]))) 70 true):=λh=>hrow (by
   rw[aj7 (by omega) h,show(j+1).toNat=j.toNat+1 by omega])
  simp only[hP,hL,SD,sy,axA]
  refine⟨j0,by omega,by omega,λhjc=>⟨j0,by omega,by omega,⟨uf hzc (by omega),uf hzp (by omega)⟩,uf hm (by omega),by omega,j0,by omega,by omega,by omega,by omega,step ?_,tail⟩,λhjc=>⟨j0,by omega,by omega,uf hzp (by omega),λhpz=>⟨by omega,j0,by omega,by omega,by omega,by omega,step ?_,tail⟩,λhpz=>⟨j0,by omega,by omega,⟨uf hzc (by omega),uf hzp (by omega)⟩,⟨uf hzl (by omega),uf hm (by omega)⟩,by omega,j0,by omega,by omega,by omega,by omega,step ?_,tail⟩⟩⟩
  ·rw[hE,if_pos (by omega)]
  ·rw[hE,if_neg (by omega),hpz]
   congr 1
   grind
  ·rw[hE,if_neg (by omega)]
 ·rw[show j.toNat=(fL (Sv l c.toNat p)).length by omega,aj6]
  exact⟨⟨uf hzc (by omega),uf hpb (by omega)⟩,⟨uf hb (by omega),uf (aev hzc hpb) (by omega)⟩,by omega,rfl,rfl⟩
end Go.Vi
