/-
  Contracts: fractions: size, Make, made, FromInt, Sign, cross, Cmp, Neg, Add, Sub.
  Conditions: none.
-/
import Derived.Test.YtjcmncmajmoiiaaGreatVY06
import Derived.Test.YtjcmncmajmoiiaaGreatVY07
import Derived.Test.YtjcmncmajmoiiaaGreatVY08
import Derived.Test.YtjcmncmajmoiiaaGreatVY09
import Derived.Test.YtjcmncmajmoiiaaGreatVY04
set_option maxRecDepth 100000
set_option maxHeartbeats 4000000
set_option linter.all false
open Classical renaming byContradiction->δX
open Go.Vi.AV.sc renaming injEq->γX
open Go.Vi.SV renaming row->Φ,il->γp,agg->γC,sb->γD,si->Θ
open Int renaming le_of_lt->γi,ediv_nonneg->δ0,mul_pos->εu,mul_lt_mul_of_pos_right->γ0,mul_nonneg->γz,mul_neg_of_neg_of_pos->εp,natAbs_mul->εo,toNat_of_nonneg->εv,toNat_natCast->γk
open IntCast renaming intCast->Ω
open List renaming eq_nil_of_length_eq_zero->φ,length->γn,foldr_cons->ε1,foldr->ζW,length_cons->γB,map_cons->ι,set_eq_take_append_cons_drop->εG,getElem_cons_drop->ζr,take_append_drop->Δ,drop_drop->γV,range->π,cons_append->γF,nodup_append->γx,ext_getElem->δi,length_map->γA,mem_map->γg,getElem_of_mem->δb,mem_append->γc,length_append->κ,map_map->δn,map_congr_left->γW,map_nil->γt,pairwise_append->γY
open List.Perm renaming refl->ζD
open List.cons renaming injEq->ξ
open Nat renaming gcd_le_right->ζQ
open Option.some renaming injEq->γ
open Prod renaming ext->δ5
open Rat renaming num_eq_zero->ζy,mkRat_self->δW,mkRat_eq_div->δH,intCast_natCast->ε0,not_le->ζM,mul_nonneg->δA
namespace Go.Vi
open Go.Proofs.YtjcmncmajmoiiaaGreat.Ir
open Go.Proofs
def qU (q:Rat):SV:=.agg (encS sF (bu q))
def de (x:bO):Prop:=∃q k,x=bu q/\Sz k q/\k<=100000000
def fK (s:Bool) (n d:Int):Rat:=mkRat (if s then -n else n) d.toNat
def Es:bL:=⟨156,Int,.one (dV .i64),λn=> -9223372036854775808<=(show Int from n)/\(show Int from n)<=9223372036854775807,λn=> .row (.i .u32) (cG ((show Int from n).natAbs:Int))⟩
theorem h127:Holds Tryz.prog Es:=by
 refine cF (L:=[yi]) Es lk (by grind[h128]) ?_;intro(n:Int) h;obtain⟨e,f⟩: -9223372036854775808<=n/\n<=9223372036854775807:=h;refine bN (let e:=(18446744073709551616:Int);let f:=(1:Int);let g:=(0:Int);let h:=Φ;let d:=decide (n<g);let a:=(-(n+f)+f) % e;let b:=bk.i .u32;let c:=h b (cG (↑n.natAbs:Int));(d=true->bV .i64 (n+f)/\bV .i64 (-(n+f))/\bV .u64 (-(n+f))/\(g<=a/\a<e)/\(h b (cG a)).same c)/\(d=false->bV .u64 n/\(g<=n/\n<e)/\(h b (cG n)).same c)) (by kernel_rfl) ?_;simp only[vcs];grind[u64_in]
def Az:bL:=⟨194,Bool×(List Int×List Int),.cons PX (.cons (dW (.i .u32)) (.one (dW (.i .u32)))),λa=>(bA a.2.1/\bA a.2.2)/\(a.2.1.length<=1000000000/\a.2.2.length<=1000000000)/\0<bn a.2.2,
 λa=> .bH [qU (fK a.1 (bn a.2.1) (bn a.2.2)),.si .i64 0]⟩
theorem h151:Holds Tryz.prog Az:=by
 refine cF (L:=[Ep,Em]) Az lk (by grind[h165g,h166g]) ?_;rintro⟨s,n,d⟩ ⟨⟨c,f⟩,⟨t,p⟩,j⟩;simp only at c f t p j;refine bN (let b:=SV.bl false;let c:=γp .i64;let e:=Φ;let f:=(0:Int);let g:=γC;let h:=SV.bH;let k:=e (bk.i .i64) [];let w:=bu (fK s (bn n) (bn d));let l:=bk.i .u32;let y:=h [g [γD w.fst,e l w.snd.fst,e l w.snd.snd],Θ .i64 0];let a:=cG (ef (bn n) (bn d));let C:=cG (bn n / bn a);let B:=decide ((↑d.length:Int)=f);let F:=false=true->(h [g [b,k,k],c 8]).same y;let E:=λ(u:Bool) (v:SV) ↦s=u->(h [g [v,e l C,e l (cG (bn d / bn a))],c 0]).same y;(B=true->(h [g [b,k,k],c 8]).same y)/\(B=false->((bA n/\bA d)/\n.length<=1000000000/\d.length<=1000000000)/\((bA n/\bA a)/\(n.length<=10000000000/\a.length<=10000000000)/\f<bn a)/\((bA d/\bA a)/\(d.length<=10000000000/\a.length<=10000000000)/\f<bn a)/\F/\(false=false->F/\(false=false->E true (γD (decide (f<(↑C.length:Int))))/\E false (b))))) (by kernel_rfl) ?_;simp only[vcs];have D:=fa c;have b:0<ef (bn n) (bn d):=by
  simp_all[ef]
 have K:ef (bn n) (bn d)<=bn d:=by
  unfold ef;have:=ζQ (bn n).toNat (show 0<(bn d).toNat by omega);omega
 have o:ef (bn n) (bn d)∣bn n:=by
  unfold ef;have:=Nat.gcd_dvd_left (bn n).toNat (bn d).toNat;have S:=Int.natCast_dvd_natCast.2 this;grind
 obtain⟨R,q,Q⟩:=gm (γi b);have I:=JX q (sU f) Q (by grind[rR]);have P:=@uy d;have A:0<=bn n / ef (bn n) (bn d):=δ0 D (γi b);obtain⟨N,H,M⟩:=gm A;have G:(0<((cG (bn n / ef (bn n) (bn d))).length:Int))↔0<bn n:=by
  obtain⟨m,e⟩:=o;have r:bn n / ef (bn n) (bn d)=m:=by
   conv=>lhs;arg 1;rw[e]
   rw[Int.mul_ediv_cancel_left _ (by omega)]
  rw[r] at N H M ⊢;have z:0<bn n↔0<m:=by
   generalize ef (bn n) (bn d)=g at*;rw[e];constructor;·grind
   ·intro h;exact εu b h
  rw[z];constructor
  ·intro h;by_cases e:m=0;·rw[e] at h;exact absurd h (by decide)
   ·omega
  ·intro h;by_cases T:(cG m).length=0<;>grind[cG,bn]
 have O:d.length≠0:=by
  intro h;rw[φ h] at j;exact absurd j (by decide)
 unfold fK;rw[SO D j,R];simp only;refine⟨λh=>absurd h (by omega),λ_=>⟨⟨⟨c,f⟩,by omega,by omega⟩,⟨⟨c,q⟩,by omega,b⟩,⟨⟨f,q⟩,by omega,b⟩,?_⟩⟩;have J:decide (0<((cG (bn n / ef (bn n) (bn d))).length:Int))=decide (0<bn n):=by
  simp_all
 refine⟨λh=>absurd h (by decide),λ_=>⟨λh=>absurd h (by decide),λ_=>⟨λx=>?_,λx=>?_⟩⟩⟩
 ·rw[x,J];rfl
 ·rw[x];rfl
def yj:bL:=⟨155,Bool×(List Int×List Int),.cons PX (.cons (dW (.i .u32)) (.one (dW (.i .u32)))),λa=>(bA a.2.1/\bA a.2.2)/\(a.2.1.length<=1000000000/\a.2.2.length<=1000000000)/\0<bn a.2.2,
 λa=>qU (fK a.1 (bn a.2.1) (bn a.2.2))⟩
theorem h126:Holds Tryz.prog yj:=by
 refine cF (L:=[Az]) yj lk (by grind[h151]) ?_;rintro⟨s,n,d⟩ ⟨⟨h,g⟩,⟨a,c⟩,f⟩;simp only at h g a c f;refine bN (let b:=bu (fK s (bn n) (bn d));let e:=γC [γD b.fst,Φ (bk.i .u32) b.snd.fst,Φ (bk.i .u32) b.snd.snd];((bA n/\bA d)/\(n.length<=1000000000/\d.length<=1000000000)/\(0:Int)<bn d)/\e.same e) (by kernel_rfl) ?_;simp_all[vcs]
def qV:bL:=⟨116,Int,.one (dV .i64),λn=> -9223372036854775808<=(show Int from n)/\(show Int from n)<=9223372036854775807,λn=>qU ((show Int from n):Rat)⟩
theorem h94:Holds Tryz.prog qV:=by
 refine cF (L:=[Es,yi,yj]) qV lk (by grind[h127,h128,h126]) ?_;intro(n:Int) h;obtain⟨o,p⟩: -9223372036854775808<=n/\n<=9223372036854775807:=h;refine bN (let e:=Φ;let g:=(1:Int);let h:=(0:Int);let c:=cG (↑n.natAbs:Int);let b:=cG g;let f:=bu (fK (decide (n<h)) (bn c) (bn b));let a:=bk.i .u32;let d:=bu (Ω n);((-9223372036854775808:Int)<=n/\n<=(9223372036854775807:Int))/\(h<=g/\g<(18446744073709551616:Int))/\((bA c/\bA b)/\(c.length<=1000000000/\b.length<=1000000000)/\h<bn b)/\(γC [γD f.fst,e a f.snd.fst,e a f.snd.snd]).same (γC [γD d.fst,e a d.snd.fst,e a d.snd.snd])) (by kernel_rfl) ?_;conv=>zeta
 obtain⟨j,g,t⟩:=gm (show(0:Int)<=(n.natAbs:Int) by omega);obtain⟨l,m,s⟩:=gm (show(0:Int)<=1 by omega);have u:=mX (k:=2) (show(0:Int)<=(n.natAbs:Int) by omega) (by omega);have q:=mX (k:=1) (show(0:Int)<=1 by omega) (by decide);refine⟨⟨o,p⟩,⟨by omega,by omega⟩,⟨⟨g,m⟩,⟨by omega,by omega⟩,by omega⟩,?_⟩;have e:fK (decide (n<0)) (bn (cG (n.natAbs:Int))) (bn (cG 1))=Ω n:=by
  rw[j,l];unfold fK;have r:(if decide (n<0)=true then -(n.natAbs:Int) else(n.natAbs:Int))=n:=by
   grind
  grind[Rat.mkRat_one]
 rw[e];rfl
def kN (q:Rat):Int:=if q<0 then -1 else if 0<q then 1 else 0
def uE:bL:=⟨161,bO,.one (eG sF),de,λx=> .si .i64 (kN (ck x))⟩
theorem h99:Holds Tryz.prog uE:=by
 refine cF (L:=[]) uE lk (by simp) ?_;intro(x:bO) h;obtain⟨q,k,rfl,m,f⟩:de x:=h;refine bN (let c:=γp .i64;let b:=decide ((↑(γn (bu q).snd.fst):Int)=(0:Int));let a:=Θ .i64 (kN (ck (bu q)));(b=true->(c 0).same a)/\(b=false->((bu q).fst=true->(c (-1:Int)).same a)/\((bu q).fst=false->(c 1).same a))) (by kernel_rfl) ?_;simp only[vcs];rw[fb];have e:((bu q).2.1.length:Int)=0↔q.num=0:=by
  unfold bu;simp only;obtain⟨d,j,i⟩:=gm (show(0:Int)<=(q.num.natAbs:Int) by omega);constructor
  ·intro h;rw[φ (by omega:(cG (q.num.natAbs:Int)).length=0)] at d;grind[bn]
  ·intro h;rw[h];rfl
 have c:(bu q).1=decide (q<0):=rfl;have n:=@Rat.num_nonneg q;have l:q<0↔q.num<0:=by
  grind
 have g:0<q↔0<q.num:=by
  grind[ζy]
 rw[e,c];simp only[decide_eq_true_eq,decide_eq_false_iff_not];unfold kN;grind
def vW (x:bO):Prop:=(bA x.2.1/\bA x.2.2)/\x.2.1.length<=100000000/\x.2.2.length<=100000000
def Et:bL:=⟨158,bO×bO,.cons (eG sF) (.one (eG sF)),λa=>vW a.1/\vW a.2,λa=> .bH [.row (.i .u32) (cG (bn a.1.2.1*bn a.2.2.2)),.row (.i .u32) (cG (bn a.2.2.1*bn a.1.2.2))]⟩
theorem h131:Holds Tryz.prog Et:=by
 refine cF (L:=[yh]) Et lk (by grind[h153]) ?_;rintro⟨⟨s,n,d⟩,⟨o,b,a⟩⟩ ⟨⟨⟨e,j⟩,g,f⟩,⟨⟨k,h⟩,l,m⟩⟩;simp only at e j g f k h l m;refine bN (let c:=SV.bH [Φ (bk.i .u32) (cG (bn n*bn a)),Φ (bk.i .u32) (cG (bn b*bn d))];((bA n/\bA a)/\n.length<=100000000000/\a.length<=100000000000)/\((bA b/\bA d)/\b.length<=100000000000/\d.length<=100000000000)/\c.same c) (by kernel_rfl) ?_;simp only[vcs];grind
theorem Eu {p q:Rat} (h:p=q):(γC [.sb (bu p).1,.row (.i .u32) (bu p).2.1,.row (.i .u32) (bu p).2.2]).same (.agg [.sb (bu q).1,.row (.i .u32) (bu q).2.1,.row (.i .u32) (bu q).2.2]):=by subst h;rfl
theorem vX (q:Rat):q.num=if decide (q<0) then -(q.num.natAbs:Int) else(q.num.natAbs:Int):=by
 have a:=@Rat.num_nonneg q;grind
theorem nJ (q:Rat):(bu q).1=decide (q<0)/\(bA (bu q).2.1/\fJ (bu q).2.1/\bn (bu q).2.1=(q.num.natAbs:Int))/\(bA (bu q).2.2/\fJ (bu q).2.2/\bn (bu q).2.2=(q.den:Int)):=by
 obtain⟨f,e,d⟩:=gm (show(0:Int)<=(q.num.natAbs:Int) by omega);obtain⟨b,c,a⟩:=gm (show(0:Int)<=(q.den:Int) by omega);exact⟨rfl,⟨e,d,f⟩,⟨c,a,b⟩⟩
theorem qW {q:Rat} {k:Nat} (h:Sz k q):(bu q).2.1.length<=k/\(bu q).2.2.length<=k:=
 ⟨mX (by omega) h.1,mX (by omega) h.2⟩
theorem acJ (q:Rat):fK (!decide (q<0)) (q.num.natAbs:Int) (q.den:Int)= -q:=by
 unfold fK;have h:=vX q;have e:(if(!decide (q<0))=true then -(q.num.natAbs:Int) else(q.num.natAbs:Int))= -q.num:=by
  grind
 grind[δW,Rat.neg_mkRat]
def yk:bL:=⟨164,bO,.one (eG sF),de,λx=>qU (-(ck x))⟩
theorem h130:Holds Tryz.prog yk:=by
 refine cF (L:=[yj]) yk lk (by grind[h126]) ?_;intro(x:bO) h;obtain⟨q,k,rfl,f,g⟩:de x:=h;refine bN (let f:=Φ;let c:=(bu q).snd.fst;let a:=(bu q).snd.snd;let d:=bu (fK (!(bu q).fst) (bn c) (bn a));let b:=bk.i .u32;let e:=(bu (-ck (bu q))).snd;((bA c/\bA a)/\(γn c<=1000000000/\γn a<=1000000000)/\(0:Int)<bn a)/\(γC [γD d.fst,f b d.snd.fst,f b d.snd.snd]).same (γC [γD (bu (-ck (bu q))).fst,f b e.fst,f b e.snd])) (by kernel_rfl) ?_;conv=>zeta
 obtain⟨s,⟨r,p,u⟩,⟨o,l,n⟩⟩:=nJ q;obtain⟨j,m⟩:=qW f;have t:=q.den_pos;grind[Eu,fb,acJ]
theorem qX {a b:Int} {i j:Nat} (e:0<=a) (c:a<4294967296^i) (d:b<4294967296^j):a*b<4294967296^(i+j):=by
 rw[Int.pow_add];exact Int.lt_of_le_of_lt (Int.mul_le_mul_of_nonneg_left (γi d) e) (γ0 c (pow_pos _))
theorem SS {p q:Rat} {i j:Nat} (c:Sz i p) (b:Sz j q):∃X Y D:Int,bn (bu p).2.1*bn (bu q).2.2=X/\bn (bu q).2.1*bn (bu p).2.2=Y/\bn (bu p).2.2*bn (bu q).2.2=D/\0<=X/\0<=Y/\0<D/\
  (cG X).length<=i+j/\(cG Y).length<=i+j/\(cG (X+Y)).length<=i+j+1/\(cG (X - Y)).length<=i+j/\(cG (Y - X)).length<=i+j/\(cG D).length<=i+j/\p.num*q.den=(if decide (p<0) then -X else X)/\q.num*p.den=(if decide (q<0) then -Y else Y)/\((p.den*q.den:Nat):Int)=D:=by
 obtain⟨_,⟨_,_,l⟩,⟨_,_,r⟩⟩:=nJ p;obtain⟨_,⟨_,_,n⟩,⟨_,_,m⟩⟩:=nJ q;rw[l,r,n,m];have s:=p.den_pos;have t:=q.den_pos;have k:=qX (a:=(p.num.natAbs:Int)) (by omega) c.1 b.2;have d:=qX (a:=(q.num.natAbs:Int)) (by omega) b.1 c.2;rw[Nat.add_comm j i] at d;have o:=qX (a:=(p.den:Int)) (by omega) c.2 b.2;have f:0<=(p.num.natAbs:Int)*q.den:=γz (by omega) (by omega);have e:0<=(q.num.natAbs:Int)*p.den:=γz (by omega) (by omega);have g:0<(p.den:Int)*q.den:=εu (by omega) (by omega);have v:=vX p;have u:=vX q;refine⟨_,_,_,rfl,rfl,rfl,f,e,g,mX f k,mX e d,mX (by omega) ?_,?_,?_,mX (by omega) o,?_,?_,by push_cast;rfl⟩;·omega
 ·by_cases h:(p.num.natAbs:Int)*q.den - (q.num.natAbs:Int)*p.den<=0;·grind[JQ]
  ·exact mX (by omega) (by omega)
 ·by_cases h:(q.num.natAbs:Int)*p.den - (p.num.natAbs:Int)*q.den<=0;·grind[JQ]
  ·exact mX (by omega) (by omega)
 all_goals grind
theorem acK {p q:Rat} {s:Bool} {n D:Int} (a:((p.den*q.den:Nat):Int)=D) (h:p.num*q.den+q.num*p.den=if s then -n else n):fK s n D=p+q:=by
 rw[SQ];grind[fK]
theorem Ew {p:Rat} {k:Nat} (h:Sz k p) (c:k<=100000000):vW (bu p):=by
 obtain⟨_,⟨a,_,_⟩,⟨b,_,_⟩⟩:=nJ p;have:=qW h;exact⟨⟨a,b⟩,by omega,by omega⟩
def jc (p q:Rat):Int:=if p<q then -1 else if q<p then 1 else 0
def AA:bL:=⟨117,bO×bO,.cons (eG sF) (.one (eG sF)),λa=>de a.1/\de a.2,λa=> .si .i64 (jc (ck a.1) (ck a.2))⟩
theorem h97:Holds Tryz.prog AA:=by
 refine cF (L:=[Et,yc]) AA lk (by grind[h131,h132]) ?_;rintro⟨x,y⟩ ⟨⟨p,i,t,w,S⟩,⟨q,j,r,o,T⟩⟩;simp only at t r;subst t r;refine bN (let a:=(bu p).fst;let g:=Θ .i64 (jc (ck (bu p)) (ck (bu q)));let s:=λ(u:Bool) (c b:Rat) ↦let k:=cG (bn (bu c).snd.fst*bn (bu b).snd.snd);let l:=cG (bn (bu b).snd.fst*bn (bu c).snd.snd);a=u->((bA k/\bA l)/\k.length<=1000000000000/\l.length<=1000000000000)/\(Θ .i64 (mj (bn k) (bn l))).same g;((!a==(bu q).fst)=true->(a=true->(γp .i64 (-1:Int)).same g)/\(a=false->(γp .i64 1).same g))/\((!a==(bu q).fst)=false->(vW (a,(bu p).snd.fst,(bu p).snd.snd)/\vW ((bu q).fst,(bu q).snd.fst,(bu q).snd.snd))/\s true q p/\s false p q)) (by kernel_rfl) ?_;conv=>zeta
 obtain⟨C,_,_⟩:=nJ p;obtain⟨P,_,_⟩:=nJ q;obtain⟨X,Y,D,E,M,hD,G,N,U,l1,l2,l3,l4,Z,V,B,A,W⟩:=SS w o;obtain⟨J,v,c3⟩:=gm G;obtain⟨K,n,c6⟩:=gm N;simp only[fb,E,M,J,K,C,P];simp only[vcs];have hl:p<q↔p.num*q.den<q.num*p.den:=Rat.lt_iff p q;have R:q<p↔q.num*p.den<p.num*q.den:=Rat.lt_iff q p;have O:=@Rat.num_nonneg p;have H:=@Rat.num_nonneg q;have m:∀{z:Int},(z=if p.num*q.den<q.num*p.den then -1 else if q.num*p.den<p.num*q.den then 1 else 0)->z=jc p q:=λh=>by
  grind[jc]
 have Q:p<0->0<X:=λh=>by
  rw[if_pos (by simpa using h)] at B;have f:p.num<0:=by grind
  have:=εp f (show(0:Int)<q.den by grind);omega
 have F:q<0->0<Y:=λh=>by
  rw[if_pos (by simpa using h)] at A;have f:q.num<0:=by grind
  have:=εp f (show(0:Int)<p.den by grind);omega
 rw[B,A] at m;refine⟨λI=>⟨λd=>?_,λd=>?_⟩,λhe=>⟨⟨Ew w S,Ew o T⟩,λd=>⟨⟨⟨n,v⟩,by omega,by omega⟩,?_⟩,λd=>⟨⟨⟨v,n⟩,by omega,by omega⟩,?_⟩⟩⟩;·grind
 ·grind
 ·apply m;have e:q<0:=by
   grind
  simp only[decide_eq_true_eq,d,e,if_true,if_false];simp only[Int.neg_lt_neg_iff];rfl
 ·apply m;have e:¬q<0:=λe=>by grind
  simp only[decide_eq_true_eq,d,e,if_true,if_false];rfl
def AB:bL:=⟨153,bO×bO,.cons (eG sF) (.one (eG sF)),λa=>de a.1/\de a.2,λa=>qU (ck a.1+ck a.2)⟩
theorem h129:Holds Tryz.prog AB:=by
 refine cF (L:=[Et,yh,Ah,JR,yj]) AB lk (by grind[h131,h153,h154,h155,h126]) ?_;rintro⟨x,y⟩ ⟨⟨p,i,J,w,S⟩,⟨q,j,E,B,hj⟩⟩;simp only at J E;subst J E;refine bN (let h:=Φ;let j:=γC;let m:=(bu q).snd.snd;let f:=cG (bn (bu p).snd.fst*bn m);let t:=(bu p).snd.snd;let k:=cG (bn (bu q).snd.fst*bn t);let a:=cG (bn t*bn m);let g:=bk.i .u32;let z:=bu (ck (bu p)+ck (bu q));let o:=j [γD z.fst,h g z.snd.fst,h g z.snd.snd];let v:=(bu p).fst==(bu q).fst;let c:=cG (bn f+bn k);let d:=bu (fK (bu p).fst (bn c) (bn a));let I:=(bA f/\bA k)/\f.length<=100000000000/\k.length<=100000000000;let K:=λ(u r:Rat) ↦let e:=cG (bn (cG (bn (bu u).snd.fst*bn (bu r).snd.snd)) - bn (cG (bn (bu r).snd.fst*bn (bu u).snd.snd)));let b:=bu (fK (bu u).fst (bn e) (bn a));((bA e/\bA a)/\(e.length<=1000000000/\a.length<=1000000000)/\(0:Int)<bn a)/\(j [γD b.fst,h g b.snd.fst,h g b.snd.snd]).same o;let F:=λ(u:Bool) ↦decide (bn k<=bn f)=u;(vW ((bu p).fst,(bu p).snd.fst,t)/\vW ((bu q).fst,(bu q).snd.fst,m))/\((bA t/\bA m)/\γn t<=100000000000/\γn m<=100000000000)/\(v=true->I/\((bA c/\bA a)/\(c.length<=1000000000/\a.length<=1000000000)/\(0:Int)<bn a)/\(j [γD d.fst,h g d.snd.fst,h g d.snd.snd]).same o)/\(v=false->I/\(F true->K p q)/\(F false->((bA k/\bA f)/\k.length<=100000000000/\f.length<=100000000000)/\K q p))) (by kernel_rfl) ?_;conv=>zeta
 obtain⟨O,⟨u1,_,_⟩,⟨u2,_,_⟩⟩:=nJ p;obtain⟨W,⟨u3,_,_⟩,⟨P,_,_⟩⟩:=nJ q;obtain⟨m1,m2⟩:=qW w;obtain⟨m3,m4⟩:=qW B;obtain⟨X,Y,D,T,Q,hD,U,R,C,l1,l2,l3,l4,l5,l6,n1,n2,n3⟩:=SS w B;obtain⟨N,H,c3⟩:=gm U;obtain⟨c4,G,c6⟩:=gm R;obtain⟨c7,V,c9⟩:=gm (γi C);obtain⟨s1,M,s3⟩:=gm (show 0<=X+Y by omega);simp only[fb,T,Q,hD,N,c4,c7,s1,O,W];simp only[vcs];have l:∀{s:Bool} {n:Int},(p.num*q.den+q.num*p.den=if s then -n else n)->(γC [.sb (bu (fK s n D)).1,.row (.i .u32) (bu (fK s n D)).2.1,.row (.i .u32) (bu (fK s n D)).2.2]).same (.agg [.sb (bu (p+q)).1,.row (.i .u32) (bu (p+q)).2.1,.row (.i .u32) (bu (p+q)).2.2]):=
  λh=>Eu (acK n3 h);rw[n1,n2] at l;refine⟨⟨Ew w S,Ew B hj⟩,⟨⟨u2,P⟩,by omega,by omega⟩,λZ=>⟨⟨⟨H,G⟩,by omega,by omega⟩,⟨⟨M,V⟩,⟨by omega,by omega⟩,C⟩,l ?_⟩,λZ=>⟨⟨⟨H,G⟩,by omega,by omega⟩,λA=>?_,λA=>?_⟩⟩;all_goals grind[gm]
def Ey:bL:=⟨163,bO×bO,.cons (eG sF) (.one (eG sF)),λa=>de a.1/\de a.2,λa=>qU (ck a.1 - ck a.2)⟩
theorem h95:Holds Tryz.prog Ey:=by
 refine cF (L:=[yk,AB]) Ey lk (by grind[h130,h129]) ?_;rintro⟨x,y⟩ ⟨⟨p,i,k,m,n⟩,⟨q,j,g,l,o⟩⟩;simp only at k g;subst k g;refine bN (let g:=Φ;let b:=((bu q).fst,(bu q).snd.fst,(bu q).snd.snd);let e:=((bu p).fst,(bu p).snd.fst,(bu p).snd.snd);let h:=(bu (-ck b)).snd;let f:=((bu (-ck b)).fst,h.fst,h.snd);let d:=bu (ck e+ck f);let a:=bk.i .u32;let c:=bu (ck (bu p) - ck (bu q));de b/\(de e/\de f)/\(γC [γD d.fst,g a d.snd.fst,g a d.snd.snd]).same (γC [γD c.fst,g a c.snd.fst,g a c.snd.snd])) (by kernel_rfl) ?_;grind[de,Ek,Eu,fb]
theorem JY {a:List Int} (h:bA a) (c:fJ a) (b:a≠[]):0<bn a:=by
 have:=fa h;grind[val_zero]
def okF (x:bO):Bool:=decide (bu (ck x)=x)
theorem SU {n d:Int} (h:0<d):0<ef n d:=by
 simp_all[ef]
theorem acL {s:Bool} {n d:List Int} (h:okF (s,(n,d))=true):fJ n/\fJ d/\d≠[]:=by
 have h:=of_decide_eq_true h;have b:=gm (show(0:Int)<=((ck (s,(n,d))).num.natAbs:Int) by omega);have a:=gm (show(0:Int)<=((ck (s,(n,d))).den:Int) by omega);have e:cG ((ck (s,(n,d))).num.natAbs:Int)=n:=congrArg (λx=>x.2.1) h;have c:cG ((ck (s,(n,d))).den:Int)=d:=congrArg (λx=>x.2.2) h;rw[e] at b;rw[c] at a;refine⟨b.2.2,a.2.2,λf=>?_⟩;have g:=a.1;rw[f] at g;have:=(ck (s,(n,d))).den_pos;grind[bn]
theorem okF_eq {s:Bool} {n d:List Int} (e:bA n) (m:bA d) (l:fJ n) (p:fJ d) (b:d≠[]):
  okF (s,(n,d))=if n=[] then !s&&decide (d=[1]) else decide (ef (bn n) (bn d)=1):=by
 have c:=JY m p b;have r:=fa e;have j:ck (s,(n,d))=mkRat (if s then -bn n else bn n) (bn d).toNat:=rfl;have o:=@SO s (bn n) (bn d) r c;have u:=@SU (bn n) (bn d) c;unfold okF;rw[j,o];by_cases a:n=[]
 ·rw[if_pos a,a];have i:ef (bn []) (bn d)=bn d:=by unfold ef;simp[bn];omega
  have k:cG (bn d / ef (bn []) (bn d))=[1]:=by rw[i,Int.ediv_self (by omega)];rfl
  have f:cG (bn [] / ef (bn []) (bn d))=[]:=by
   have:bn []=0:=rfl;rw[this,Int.zero_ediv];rfl
  rw[k,f];have v:decide (0<bn [])=false:=rfl;grind
 ·rw[if_neg a];have q:=JY e l a;rw[decide_eq_true (show 0<bn n from q),Bool.and_true];rw[Bool.eq_iff_iff,decide_eq_true_eq,decide_eq_true_eq];constructor
  ·intro h;injection h with h1 h2;injection h2 with h2 h3;have g:=(gm (show 0<=bn d / ef (bn n) (bn d) from δ0 (by omega) (by omega))).1;rw[h3] at g;by_cases t:ef (bn n) (bn d)=1;·exact t
   ·have:=Int.ediv_lt_self_of_pos_of_ne_one c (by omega:ef (bn n) (bn d)≠1);omega
  grind[Ag]
theorem acM {l:List Int} (h:l.length=0\/bj l (l.length - 1) 0≠0):fJ l:=by
 rcases h with h|h;·rw[φ h];trivial
 ·by_cases b:l.length=0;·rw[φ b];trivial
  ·have c:=Ec (a:=l) (n:=l.length - 1) (by omega);grind[Jv]
def sY (a:List Int):Bool:=decide (a.length=0)||decide (bj a (a.length - 1) 0≠0)
theorem uF {a:List Int}:sY a=true↔fJ a:=by
 unfold sY;rw[Bool.or_eq_true,decide_eq_true_eq,decide_eq_true_eq];constructor;·exact acM
 ·intro h;by_cases e:a.length=0;·exact .inl e
  ·right;have b:=Ec (a:=a) (n:=a.length - 1) (by omega);rw[show a.length - 1+1=a.length by omega,List.take_length] at b;have:∀{l:List Int} {x:Int},fJ (l++[x])->x≠0:=by
    intro l x;induction l with
    |nil=>intro h;exact h.1 rfl;|cons d l c=>intro h;exact c h.2
   grind
theorem SX (p q:Rat):(if(!(decide (p<0)==decide (q<0)))=true then -((p.num.natAbs:Int)*(q.num.natAbs:Int)) else(p.num.natAbs:Int)*(q.num.natAbs:Int))=p.num*q.num:=by
 have a:=vX p;have b:=vX q;grind
theorem SY (p q:Rat):fK (!(decide (p<0)==decide (q<0))) ((p.num.natAbs:Int)*(q.num.natAbs:Int)) ((p.den:Int)*(q.den:Int))=p*q:=by
 unfold fK;rw[SX,show((p.den:Int)*(q.den:Int)).toNat=p.den*q.den by omega,δH];have a:(p.num:Rat) / (p.den:Rat)=p:=by rw[<-δH,δW]
 have b:(q.num:Rat) / (q.den:Rat)=q:=by rw[<-δH,δW]
 grind
theorem SZ {p q:Rat} (a:q≠0):fK (!(decide (p<0)==decide (q<0))) ((p.num.natAbs:Int)*(q.den:Int)) ((p.den:Int)*(q.num.natAbs:Int))=p / q:=by
 unfold fK;rw[show((p.den:Int)*(q.num.natAbs:Int)).toNat=p.den*q.num.natAbs by omega,δH];have k:(p.num:Rat) / (p.den:Rat)=p:=by rw[<-δH,δW]
 have d:(q.num:Rat) / (q.den:Rat)=q:=by rw[<-δH,δW]
 have m:(p.den:Rat)≠0:=by have:=p.den_nz;simp_all
 have o:(q.den:Rat)≠0:=by grind
 have e:=vX p;have g:=vX q;have n:(q.num:Rat)≠0:=λh=>a (by grind);rw[Rat.natCast_mul];conv=>rhs;rw[<-k,<-d]
 have f:((p.num.natAbs:Int):Rat)=(p.num.natAbs:Rat):=ε0 _;have c:((q.num.natAbs:Int):Rat)=(q.num.natAbs:Rat):=ε0 _;have i:((q.den:Int):Rat)=(q.den:Rat):=ε0 _;have j:(p.num:Rat)=if decide (p<0)=true then -(p.num.natAbs:Rat) else(p.num.natAbs:Rat):=by
  rw[<-f];conv=>lhs;rw[e]
  split<;>grind
 have b:(q.num:Rat)=if decide (q<0)=true then -(q.num.natAbs:Rat) else(q.num.natAbs:Rat):=by
  rw[<-c];conv=>lhs;rw[g]
  split<;>grind
 have l:((if(!(decide (p<0)==decide (q<0)))=true then -((p.num.natAbs:Int)*(q.den:Int)) else(p.num.natAbs:Int)*(q.den:Int):Int):Rat)=if(!(decide (p<0)==decide (q<0)))=true then -((p.num.natAbs:Rat)*(q.den:Rat)) else(p.num.natAbs:Rat)*(q.den:Rat):=by
  split<;>grind
 grind
def Ez:bL:=⟨219,bO×bO,.cons (eG sF) (.one (eG sF)),λa=>de a.1/\de a.2,λa=>qU (ck a.1*ck a.2)⟩
theorem h410:Holds Tryz.prog Ez:=by
 refine cF (L:=[yh,yj]) Ez lk (by grind[h153,h126]) ?_;rintro⟨x,y⟩ ⟨⟨p,i,n,f,M⟩,⟨q,j,o,l,G⟩⟩;simp only at n o;subst n o;refine bN (let f:=Φ;let c:=(bu p).snd.fst;let k:=(bu q).snd.fst;let g:=(bu p).snd.snd;let h:=(bu q).snd.snd;let m:=cG (bn c*bn k);let b:=cG (bn g*bn h);let d:=bu (fK (!(bu p).fst==(bu q).fst) (bn m) (bn b));let a:=bk.i .u32;let e:=bu (ck (bu p)*ck (bu q));((bA c/\bA k)/\γn c<=100000000000/\γn k<=100000000000)/\((bA g/\bA h)/\γn g<=100000000000/\γn h<=100000000000)/\((bA m/\bA b)/\(m.length<=1000000000/\b.length<=1000000000)/\(0:Int)<bn b)/\(γC [γD d.fst,f a d.snd.fst,f a d.snd.snd]).same (γC [γD e.fst,f a e.snd.fst,f a e.snd.snd])) (by kernel_rfl) ?_;conv=>zeta
 obtain⟨t,⟨P,_,s⟩,⟨E,_,v⟩⟩:=nJ p;obtain⟨u,⟨J,_,z⟩,⟨I,_,A⟩⟩:=nJ q;obtain⟨D,F⟩:=qW f;obtain⟨O,N⟩:=qW l;have C:=p.den_pos;have K:=q.den_pos;rw[s,v,z,A,t,u,fb,fb];have r:0<=(p.num.natAbs:Int)*(q.num.natAbs:Int):=γz (by omega) (by omega);have w:0<(p.den:Int)*(q.den:Int):=εu (by omega) (by omega);have H:=mX r (qX (by omega) f.1 l.1);have B:=mX (γi w) (qX (by omega) f.2 l.2);grind[gm,Eu,SY]
def EA:bL:=⟨231,bO×bO,.cons (eG sF) (.one (eG sF)),λa=>(de a.1/\de a.2)/\ck a.2≠0,λa=> .bH [qU (ck a.1 / ck a.2),.si .i64 0]⟩
theorem h416:Holds Tryz.prog EA:=by
 refine cF (L:=[yh,Az]) EA lk (by grind[h153,h151]) ?_;rintro⟨x,y⟩ ⟨⟨⟨p,i,v,f,X⟩,⟨q,j,u,m,Q⟩⟩,a⟩;simp only at v u a;subst v u;refine bN (let a:=Φ;let g:=(bu p).snd.fst;let d:=(bu q).snd.snd;let r:=(bu p).snd.snd;let e:=(bu q).snd.fst;let k:=cG (bn g*bn d);let c:=cG (bn r*bn e);let l:=bu (fK (!(bu p).fst==(bu q).fst) (bn k) (bn c));let b:=bk.i .u32;let t:=[Θ .i64 0];let o:=bu (ck (bu p) / ck (bu q));((bA g/\bA d)/\γn g<=100000000000/\γn d<=100000000000)/\((bA r/\bA e)/\γn r<=100000000000/\γn e<=100000000000)/\((bA k/\bA c)/\(k.length<=1000000000/\c.length<=1000000000)/\(0:Int)<bn c)/\(SV.bH (γC [γD l.fst,a b l.snd.fst,a b l.snd.snd]::t)).same (SV.bH (γC [γD o.fst,a b o.snd.fst,a b o.snd.snd]::t))) (by kernel_rfl) ?_;conv=>zeta
 rw[fb] at a;obtain⟨E,⟨C,_,M⟩,⟨K,_,I⟩⟩:=nJ p;obtain⟨B,⟨z,_,J⟩,⟨F,_,A⟩⟩:=nJ q;obtain⟨V,O⟩:=qW f;obtain⟨S,W⟩:=qW m;have T:=p.den_pos;have Z:=q.den_pos;have R:q.num≠0:=λh=>a (ζy.1 h);rw[M,I,J,A,E,B,fb,fb];have s:0<=(p.num.natAbs:Int)*(q.den:Int):=γz (by omega) (by omega);have n:0<(p.den:Int)*(q.num.natAbs:Int):=εu (by omega) (by omega);have Y:=mX s (qX (by omega) f.1 m.2);have N:=mX (γi n) (qX (by omega) f.2 m.1);obtain⟨G,H,P⟩:=gm s;obtain⟨w,D,U⟩:=gm (γi n);rw[G,w,SZ a];refine⟨⟨⟨C,F⟩,?_,?_⟩,⟨⟨K,z⟩,?_,?_⟩,⟨⟨H,D⟩,⟨?_,?_⟩,n⟩,rfl⟩<;>omega
def JZ:bL:=⟨196,List Int,.one (dW (.i .u32)),λa=>bA (show List Int from a)/\(show List Int from a).length<=1000000000,λa=> .sb (sY a)⟩
theorem h414:Holds Tryz.prog JZ:=by
 refine cF (L:=[rQ]) JZ lk (by grind[h152]) ?_;rintro(a:List Int) h;refine bN (a.length<=1000000000000/\(γD (decide ((↑(bI a).length:Int)=(↑a.length:Int)))).same (γD (sY a))) (by kernel_rfl) ?_;simp only[vcs];obtain⟨f,d⟩:bA a/\a.length<=1000000000:=h;refine⟨by omega,?_⟩;cases c:sY a with
 |true=>
  grind[qN,Ag,uF];|false=>
  refine decide_eq_false λb=>?_;have e:bI a=a:=by
   unfold bI at b ⊢;rw[List.length_take] at b;exact List.take_of_length_le (by omega)
  grind[rR,uF]
def J0:bL:=⟨197,bO,.one (eG sF),λx=>x.2.1.length<=1000000000,λx=> .agg [.sb x.1,.sb (decide (x.2.1=[]))]⟩
theorem h415:Holds Tryz.prog J0:=by
 refine cF (L:=[]) J0 lk (by simp) ?_;rintro⟨s,n,d⟩ h;refine bN (let a:=γD;(γC [a s,a (decide ((↑n.length:Int)=(0:Int)))]).same (γC [a s,a (decide (n=[]))])) (by kernel_rfl) ?_;have e:decide ((n.length:Int)=0)=decide (n=[]):=by
  simp_all
 rw[e];rfl
def yl:bL:=⟨160,bO,.one (eG sF),λx=>(bA x.2.1/\bA x.2.2)/\x.2.1.length<=1000000/\x.2.2.length<=1000000,λx=> .sb (okF x)⟩
theorem h407:Holds Tryz.prog yl:=by
 refine cF (L:=[JZ,J0,Ep,yi,yc]) yl lk (by grind[h414,h415,h165g,h128,h132]) ?_;rintro⟨s,n,d⟩ ⟨⟨m,f⟩,j,k⟩;refine bN (let a:=SV.bl false;let b:=(0:Int);let c:=(1:Int);let l:=γD (okF (s,n,d));let w:=decide ((↑d.length:Int)=b);let x:=s==true&&(decide (n=[])==true&&true);let p:=cG (ef (bn n) (bn d));let t:=cG c;(bA n/\n.length<=1000000000)/\((!sY n)=true->(a).same l)/\((!sY n)=false->(bA d/\d.length<=1000000000)/\((!sY d)=true->(a).same l)/\((!sY d)=false->(w=true->(a).same l)/\(w=false->n.length<=1000000000/\(x=true->(a).same l)/\(x=false->((bA n/\bA d)/\n.length<=1000000000/\d.length<=1000000000)/\(b<=c/\c<(18446744073709551616:Int))/\((bA p/\bA t)/\p.length<=1000000000000/\t.length<=1000000000000)/\(γD (decide (mj (bn p) (bn t)=b))).same l))))) (by kernel_rfl) ?_;simp only[vcs];have m:bA n:=m;have f:bA d:=f;have j:n.length<=1000000:=j;have k:d.length<=1000000:=k;have c:¬(fJ n/\fJ d/\d≠[])->false=okF (s,n,d):=λh=>by
  grind[acL]
 have e:∀{a:List Int},((a.length:Nat):Int)=0->a=[]:=λh=>φ (by omega);have b:∀{a:List Int},¬((a.length:Nat):Int)=0->a≠[]:=λh i=>h (by rw[i];rfl);refine⟨⟨m,by omega⟩,λu=>c λh=>?_,λu=>⟨⟨f,by omega⟩,λi=>c λh=>?_,λi=>⟨λo=>c λh=>h.2.2 (e o),λo=>⟨by omega,λC=>?_,λC=>?_⟩⟩⟩⟩;·grind[uF]
 ·grind[uF]
 all_goals
  have E:=okF_eq (s:=s) m f (uF.1 u) (uF.1 i) (b o);have D:=JY f (uF.1 i) (b o);have J:=@SU (bn n) (bn d) D;obtain⟨H,v,A⟩:=gm (show 0<=ef (bn n) (bn d) by omega);obtain⟨B,G,I⟩:=gm (show(0:Int)<=1 by omega);have y:ef (bn n) (bn d)<=bn d:=by
   unfold ef;have:=ζQ (bn n).toNat (show 0<(bn d).toNat by omega);omega
  rw[E]
 ·simp_all
 ·have F:=JX v f A (by omega);refine⟨⟨⟨m,f⟩,by omega,by omega⟩,by omega,⟨⟨v,G⟩,by omega,by decide⟩,?_⟩;rw[H,B];have r:(mj (ef (bn n) (bn d)) 1=0)=(ef (bn n) (bn d)=1):=by
   grind[mj]
  simp only[r];by_cases g:n=[]
  ·rw[if_pos g];have z:s=false:=by
    simp_all
   have q:ef (bn n) (bn d)=bn d:=by
    rw[g];unfold ef;simp[bn];omega
   rw[q,z,Bool.not_false,Bool.true_and,decide_eq_decide];constructor
   ·intro h;rw[<-Ag f (uF.1 i),h];rfl
   ·intro h;rw[h];rfl
  ·rw[if_neg g]
theorem AE {p q:Rat} {i j:Nat} (b:Sz i p) (a:Sz j q):Sz (i+j) (p*q):=by
 rw[<-SY];unfold fK;rw[SX];have c:=p.den_pos;have d:=q.den_pos;have e:0<(p.den:Int)*(q.den:Int):=εu (by omega) (by omega);refine Aw (by omega) ?_ ?_
 ·rw[εo,Int.natCast_mul];exact qX (by omega) b.1 a.1
 ·rw[εv (by omega)];exact qX (by omega) b.2 a.2
theorem J1 {p q:Rat} {i j:Nat} (c:Sz i p) (b:Sz j q) (d:q≠0):Sz (i+j) (p / q):=by
 rw[<-SZ d];unfold fK;have e:=p.den_pos;have f:=q.den_pos;have l:q.num≠0:=λh=>d (ζy.1 h);have k:0<(p.den:Int)*(q.num.natAbs:Int):=εu (by omega) (by omega);have g:=qX (a:=(p.num.natAbs:Int)) (by omega) c.1 b.2;refine Aw (by omega) ?_ ?_;·grind
 ·rw[εv (by omega)];exact qX (by omega) c.2 b.1
theorem acN {p q:Rat}:0<jc p q↔q<p:=by
 grind[jc]
theorem acO {p q:Rat}:jc p q=0↔p=q:=by
 grind[jc]
def wed (c:Nat->Rat):(List Nat->Rat)->List Nat->Rat
 |_,[]=>0
 |f,i::R=>c i*f R - wed c (λl=>f (i::l)) R
theorem J2 {c:Nat->Rat}:∀{R:List Nat},wed c (λ_=>0) R=0
 |[]=>rfl
 |i::R=>by simp only[wed,J2];grind
theorem J3 {c:Nat->Rat} {p q:Rat}:∀{R:List Nat} {f g:List Nat->Rat},wed c (λl=>p*f l+q*g l) R=p*wed c f R+q*wed c g R
 |[],_,_=>by grind[wed];|i::R,f,g=>by
  simp only[wed,@J3 c p q R];grind
theorem S0 {c d:Nat->Rat} {p q:Rat}:∀{R:List Nat} {f:List Nat->Rat},wed (λi=>p*c i+q*d i) f R=p*wed c f R+q*wed d f R
 |[],_=>by grind[wed];|i::R,f=>by
  simp only[wed,@S0 c d p q R];grind
theorem S1 {c:Nat->Rat} {p:Rat} {R:List Nat} {f g:List Nat->Rat}:wed c (λl=>p*f l - g l) R=p*wed c f R - wed c g R:=by
 have:=@J3 c p (-1) R f g;grind
theorem J4 {a b:Nat->Rat}:∀{R:List Nat} {f:List Nat->Rat},wed a (wed b f) R= - wed b (wed a f) R
 |[],_=>by grind[wed];|i::R,f=>by
  have d:wed a (λl=>wed b f (i::l)) R=b i*wed a f R - wed a (wed b λl=>f (i::l)) R:=S1;have c:wed b (λl=>wed a f (i::l)) R=a i*wed b f R - wed b (wed a λl=>f (i::l)) R:=S1;have h:=@J4 a b R λl=>f (i::l);grind[wed]
theorem acP {a:Nat->Rat} {f:List Nat->Rat}:wed a (wed a f)=λ_=>0:=by
 grind[J4]
def ym (R:List Nat):Rat:=if R=[] then 1 else 0
def jM (cs:List (Nat->Rat)):List Nat->Rat:=cs.foldr wed ym
theorem S3 {c:Nat->Rat} {cs:List (Nat->Rat)}:jM (c::cs)=wed c (jM cs):=rfl
theorem S4 {a:Nat->Rat}:∀{cs:List (Nat->Rat)} {f:List Nat->Rat},wed a (cs.foldr wed (wed a f))=λ_=>0
 |[],f=>acP
 |c::cs,f=>by
  funext R;simp only[ε1];rw[J4,@S4 a cs f,J2];rfl
theorem fold_zero:∀{cs:List (Nat->Rat)},cs.foldr wed (λ_=>0)=λ_=>0
 |[]=>rfl
 |c::cs=>by
  rw[ε1,fold_zero];grind[J2]
theorem S5 {a:Nat->Rat} {p m q:List (Nat->Rat)}:jM (p++a::(m++a::q))=λ_=>0:=by
 grind[jM,S4,fold_zero]
theorem S7 {p q:Rat}:∀{cs:List (Nat->Rat)} {f g:List Nat->Rat} {R:List Nat},cs.foldr wed (λl=>p*f l+q*g l) R=p*cs.foldr wed f R+q*cs.foldr wed g R
 |[],_,_,_=>rfl
 |c::cs,f,g,R=>by
  simp only[ε1];rw[<-J3];congr 1;funext l;exact S7
theorem S8 {c d:Nat->Rat} {p q:Rat} {a b:List (Nat->Rat)} {R:List Nat}:jM (a++(λi=>p*c i+q*d i)::b) R=p*jM (a++c::b) R+q*jM (a++d::b) R:=by
 unfold jM;simp only[List.foldr_append,ε1];rw[<-S7];have e:wed (λi=>p*c i+q*d i) (ζW wed ym b)=λl=>p*wed c (ζW wed ym b) l+q*wed d (ζW wed ym b) l:=by
  grind[S0]
 rw[e]
def eV (M:Nat) (q:Rat):Prop:=∃z:Int,q=(z:Rat)/\z.natAbs<=M
theorem S9 {c:Nat->Rat} {M K:Nat}:∀{R:List Nat} {f:List Nat->Rat},(∀i∈R,eV M (c i))->(∀l,l.length+1=R.length->(∀i∈l,i∈R)->eV K (f l))->eV (R.length*(M*K)) (wed c f R)
 |[],_,_,_=>⟨0,by simp[wed],by simp⟩
 |i::R,f,e,g=>by
  simp only[wed,γB];obtain⟨y,q,h⟩:=@S9 c M K R (λl=>f (i::l)) (λj a=>e j (by simp[a])) λl n p=>g _ (by simp_all) λj a=>by
   grind
  obtain⟨u,o,b⟩:=e i (by simp);obtain⟨v,k,d⟩:=g R (by simp) λj a=>by simp[a]
  refine⟨u*v - y,?_,?_⟩;·simp_all
  ·have m:(u*v).natAbs<=M*K:=by
    rw[εo];exact Nat.mul_le_mul b d
   grind
def nK (M:Nat):Nat->Nat
 |0=>1
 |n+1=>(n+1)*(M*nK M n)
theorem EB {M:Nat}:∀{cs:List (Nat->Rat)} {R:List Nat},cs.length=R.length->(∀c∈cs,∀i∈R,eV M (c i))->eV (nK M R.length) (jM cs R)
 |[],R,b,_=>by
  have:R=[]:=φ (by simp_all);subst this;exact⟨1,by simp[jM,ym],by simp[nK]⟩;|c::cs,R,b,e=>by
  rw[S3];cases R with
  |nil=>simp at b;|cons i R=>
   simp only[γB,nK];refine S9 (e c (by simp)) λl a g=>?_;simp only[γB] at b a;rw[show R.length=l.length by omega];exact EB (by omega) λd f j h=>e d (by simp[f]) j (g j h)
def yn (k:Nat):Nat->Rat:=λi=>if i=k then 1 else 0
theorem Ta {c:Nat->Rat}:∀{R:List Nat} {f:List Nat->Rat},(∀i∈R,c i=0)->wed c f R=0
 |[],_,_=>rfl
 |i::R,f,h=>by
  simp only[wed];rw[h i (by simp),Ta λj a=>h j (by simp[a])];grind
theorem Tc:∀{R:List Nat},R.Nodup->jM (R.map yn) R=1
 |[],_=>by simp[jM,ym];|i::R,h=>by
  rw[List.nodup_cons] at h;rw[ι,S3];simp only[wed];rw[Ta (c:=yn i) (R:=R) λj a=>by
   unfold yn;grind];rw[Tc h.2];unfold yn;grind
def cy (n:Nat) (f:Nat->Rat):Rat:=match n with
 |0=>0
 |n+1=>cy n f+f n
theorem dY:∀{n:Nat} {f g:Nat->Rat},(∀i,i<n->f i=g i)->cy n f=cy n g
 |0,_,_,_=>rfl
 |n+1,f,g,h=>by simp only[cy];rw[dY λi a=>h i (by omega),h n (by omega)]
theorem AG:∀{n:Nat} {f g:Nat->Rat},cy n (λi=>f i+g i)=cy n f+cy n g
 |0,_,_=>by grind[cy];|n+1,f,g=>by simp only[cy];rw[AG];grind
theorem AH {c:Rat}:∀{n:Nat} {f:Nat->Rat},cy n (λi=>c*f i)=c*cy n f
 |0,_=>by grind[cy];|n+1,f=>by simp only[cy];rw[AH];grind
theorem kO:∀{n:Nat},cy n (λ_=>0)=0
 |0=>rfl
 |n+1=>by simp only[cy];rw[kO];grind
theorem vY {k:Nat} {x:Rat}:∀{n:Nat},cy n (λi=>if i=k then x else 0)=if k<n then x else 0
 |0=>by simp[cy];|n+1=>by
  simp only[cy];rw[vY];grind
theorem EC {n k:Nat} {f:Nat->Rat} (h:k<n):cy n f=f k+cy n λi=>if i=k then 0 else f i:=by
 have a:=@vY k (f k) n;rw[if_pos h] at a;rw[<-a,<-AG];grind[dY]
theorem Td {a b:List (Nat->Rat)} {R:List Nat} {y:Nat->Rat} {T:Nat->Nat->Rat}:∀{n:Nat},jM (a++(λi=>cy n λk=>y k*T k i)::b) R=cy n λk=>y k*jM (a++T k::b) R
 |0=>by
  have e:(λi:Nat=>cy 0 λk=>y k*T k i)=λi=>(0:Rat)*(λ_=>0) i+0*(λ_=>0) i:=by grind[cy]
  rw[e,S8];grind[cy];|n+1=>by
  have e:(λi:Nat=>cy (n+1) λk=>y k*T k i)=λi=>(1:Rat)*(λi=>cy n λk=>y k*T k i) i+y n*T n i:=by
   grind[cy]
  rw[e,S8,Td];grind[cy]
theorem acQ {C:List (Nat->Rat)} {R:List Nat} {y:Nat->Rat} {r:Nat} (f:r<C.length):jM (C.set r (λi=>cy C.length λk=>y k*(C.getD k (λ_=>0)) i)) R=y r*jM C R:=by
 have a:∀c:Nat->Rat,C.set r c=C.take r++c::C.drop (r+1):=λc=>by rw[εG,if_pos f]
 rw[a,Td,EC f];have m:∀k,k<C.length->(if k=r then(0:Rat) else y k*jM (C.take r++C.getD k (λ_=>0)::C.drop (r+1)) R)=0:=by
  intro k g;split;·rfl
  ·rename_i e;have o:jM (C.take r++C.getD k (λ_=>0)::C.drop (r+1)) R=0:=by
    have n:C.getD k (λ_=>0)=C[k]:=by simp_all
    rw[n];rcases Nat.lt_or_gt_of_ne e with h|h
    ·have j:C.take r=C.take k++C[k]::(C.drop (k+1)).take (r - (k+1)):=by
      have b:C[k]::C.drop (k+1)=C.drop k:=ζr g;obtain⟨d,rfl⟩:∃d,r=k+(d+1):=⟨r - (k+1),by omega⟩;rw[List.take_add,<-b,List.take_succ_cons,show k+(d+1) - (k+1)=d by omega]
     grind[S5]
    ·have j:C.drop (r+1)=(C.drop (r+1)).take (k - (r+1))++C[k]::C.drop (k+1):=by
      have b:C[k]::C.drop (k+1)=C.drop k:=ζr g;rw[b];have l:=Δ (k - (r+1)) (C.drop (r+1));rw[γV,show r+1+(k - (r+1))=k by omega] at l;exact l.symm
     rw[j,S5]
   simp_all
 rw[dY m,kO];have b:C.take r++C.getD r (λ_=>0)::C.drop (r+1)=C:=by
  simp_all
 rw[b];grind
structure Tb where
 ca:List (List Rat)
 bound:List Rat
 cost:List Rat
 value:Rat
 basic:List Int
 free:List Int
namespace Tb
def cf (t:Tb) (i j:Nat):Rat:=bj (bj t.ca i []) j 0
def bd (t:Tb) (i:Nat):Rat:=bj t.bound i 0
def cs (t:Tb) (j:Nat):Rat:=bj t.cost j 0
def bv (t:Tb) (i:Nat):Int:=bj t.basic i 0
def fv (t:Tb) (j:Nat):Int:=bj t.free j 0
structure WF (n m:Nat) (t:Tb):Prop where
 ca:t.ca.length=m
 row:∀i,i<m->(bj t.ca i []).length=n
 bound:t.bound.length=m
 cost:t.cost.length=n
 basic:t.basic.length=m
 free:t.free.length=n
def holds (n m:Nat) (t:Tb) (x:Int->Rat) (z:Rat):Prop:=
 (∀i,i<m->x (t.bv i)+cy n (λj=>t.cf i j*x (t.fv j))=t.bd i)/\z=t.value+cy n λj=>t.cs j*x (t.fv j)
end Tb
def kj (l:List Rat) (c:Nat) (p:List Rat):List Rat:=(π l.length).map λj=>if j=c then -(bj l c 0*bj p j 0) else bj l j 0 - bj l c 0*bj p j 0
def kP (l:List Rat) (c:Nat):List Rat:=(π l.length).map λj=>if j=c then 1 / bj l c 0 else bj l j 0*(1 / bj l c 0)
def fN (t:Tb) (r c:Nat):Tb where
 ca:=(π t.ca.length).map λi=>if i=r then kP (bj t.ca r []) c else kj (bj t.ca i []) c (kP (bj t.ca r []) c);bound:=(π t.bound.length).map λi=>if i=r then t.bd r*(1 / t.cf r c) else t.bd i - t.cf i c*(t.bd r*(1 / t.cf r c));cost:=kj t.cost c (kP (bj t.ca r []) c);value:=t.value+t.cs c*(t.bd r*(1 / t.cf r c));basic:=t.basic.set r (t.fv c);free:=t.free.set c (t.bv r)
theorem qY {a:Type} {f:Nat->a} {n i:Nat} {d:a} (h:i<n):bj ((π n).map f) i d=f i:=by
 grind[cM]
theorem sZ {a:Type} {l:List a} {r i:Nat} {x d:a} (h:r<l.length):bj (l.set r x) i d=if i=r then x else bj l i d:=by
 unfold bj;grind
section
variable {n m:Nat} {t:Tb} {r c:Nat}
theorem Tf {l:List Rat}:(kP l c).length=l.length:=by simp[kP]
theorem ED {l p:List Rat}:(kj l c p).length=l.length:=by simp[kj]
theorem J5 {l:List Rat} {j:Nat} (h:j<l.length):bj (kP l c) j 0=if j=c then 1 / bj l c 0 else bj l j 0*(1 / bj l c 0):=qY h
theorem EE {l p:List Rat} {j:Nat} (h:j<l.length):bj (kj l c p) j 0=if j=c then -(bj l c 0*bj p j 0) else bj l j 0 - bj l c 0*bj p j 0:=qY h
theorem Ti (h:t.WF n m):(fN t r c).WF n m where
 ca:=by simp[fN,h.ca]
 row i a:=by
  simp only[fN];rw[qY (by rw[h.ca];exact a)];split;·rename_i e;subst e;rw[Tf,h.row _ a]
  ·rw[ED,h.row _ a]
 bound:=by simp[fN,h.bound]
 cost:=by simp only[fN];rw[ED,h.cost]
 basic:=by simp[fN,h.basic]
 free:=by simp[fN,h.free]
theorem AI (h:t.WF n m) (b:r<m) (e:c<n) {i j:Nat} (d:i<m) (a:j<n):(fN t r c).cf i j=
  if i=r then(if j=c then 1 / t.cf r c else t.cf r j*(1 / t.cf r c)) else if j=c then -(t.cf i c*(1 / t.cf r c)) else t.cf i j - t.cf i c*(t.cf r j*(1 / t.cf r c)):=by
 unfold Tb.cf;simp only[fN];rw[qY (by rw[h.ca];exact d)];split;·rw[J5 (by rw[h.row _ b];exact a)]
 ·rw[EE (by rw[h.row _ d];exact a)];rw[J5 (by rw[h.row _ b];exact a)];simp_all
theorem EF (h:t.WF n m) {i:Nat} (a:i<m):(fN t r c).bd i=if i=r then t.bd r*(1 / t.cf r c) else t.bd i - t.cf i c*(t.bd r*(1 / t.cf r c)):=by
 show bj _ i 0=_;simp only[fN];rw[qY (by rw[h.bound];exact a)]
theorem Tj (h:t.WF n m) (b:r<m) {j:Nat} (a:j<n):(fN t r c).cs j=if j=c then -(t.cs c*(1 / t.cf r c)) else t.cs j - t.cs c*(t.cf r j*(1 / t.cf r c)):=by
 show bj _ j 0=_;simp only[fN];rw[EE (by rw[h.cost];exact a),J5 (by rw[h.row _ b];exact a)];split;·rfl
 ·rfl
theorem J6 (h:t.WF n m) (a:r<m) {i:Nat}:(fN t r c).bv i=if i=r then t.fv c else t.bv i:=sZ (by rw[h.basic];exact a)
theorem J7 (h:t.WF n m) (a:c<n) {j:Nat}:(fN t r c).fv j=if j=c then t.bv r else t.fv j:=sZ (by rw[h.free];exact a)
theorem piv_holds (h:t.WF n m) (b:r<m) (k:c<n) (K:t.cf r c≠0) {x:Int->Rat} {z:Rat}:(fN t r c).holds n m x z↔t.holds n m x z:=by
 have d:∀f:Nat->Rat,cy n (λj=>f j*x (t.fv j))=f c*x (t.fv c)+cy n (λj=>if j=c then 0 else f j*x (t.fv j)):=λf=>EC k;have e:∀f:Nat->Rat,cy n (λj=>f j*x ((fN t r c).fv j))=f c*x (t.bv r)+cy n (λj=>if j=c then 0 else f j*x (t.fv j)):=λf=>by
  rw[EC k,J7 h k,if_pos rfl];congr 1;refine dY λj _=>?_;split;·rfl
  ·rename_i p;rw[J7 h k,if_neg p]
 have I:cy n (λj=>if j=c then 0 else(fN t r c).cf r j*x (t.fv j))=(1 / t.cf r c)*cy n (λj=>if j=c then 0 else t.cf r j*x (t.fv j)):=by
  rw[<-AH];refine dY λj p=>?_;split;·grind
  ·rename_i l;rw[AI h b k b p,if_pos rfl,if_neg l];grind
 have E:∀f g:Nat->Rat,∀q:Rat,(∀j,j<n->j≠c->g j=f j - q*(t.cf r j*(1 / t.cf r c)))->cy n (λj=>if j=c then 0 else g j*x (t.fv j))=cy n (λj=>if j=c then 0 else f j*x (t.fv j))+(-(q*(1 / t.cf r c)))*cy n (λj=>if j=c then 0 else t.cf r j*x (t.fv j)):=λf g q L=>by
  rw[<-AH,<-AG];refine dY λj p=>?_;grind
 have J:∀j,j<n->j≠c->(fN t r c).cs j=t.cs j - t.cs c*(t.cf r j*(1 / t.cf r c)):=λj p l=>by rw[Tj h b p,if_neg l]
 have B:∀i,i<m->i≠r->∀j,j<n->j≠c->(fN t r c).cf i j=t.cf i j - t.cf i c*(t.cf r j*(1 / t.cf r c)):=λi o a j p l=>by rw[AI h b k o p,if_neg a,if_neg l]
 have G:=E t.cs _ _ J;have v:=Tj (c:=c) h b k;rw[if_pos rfl] at v;have s:=AI h b k b k;rw[if_pos rfl,if_pos rfl] at s;have w:=EF (r:=r) (c:=c) h b;rw[if_pos rfl] at w;have u:=J6 (c:=c) (i:=r) h b;rw[if_pos rfl] at u;have H:(fN t r c).value=t.value+t.cs c*(t.bd r*(1 / t.cf r c)):=rfl;unfold Tb.holds;constructor
 ·rintro⟨A,F⟩;have C:=A r b;rw[e,I,s,u,w] at C;refine⟨λi o=>?_,?_⟩
  ·by_cases a:i=r
   ·subst a;rw[d];grind
   ·have D:=A i o;have y:=AI h b k o k;rw[if_neg a,if_pos rfl] at y;rw[e,E _ _ _ (B i o a),J6 h b,if_neg a,EF h o,if_neg a,y] at D;rw[d];grind
  ·rw[e,G,v,H] at F;rw[d];grind
 ·rintro⟨A,F⟩;have C:=A r b;rw[d] at C;refine⟨λi o=>?_,?_⟩
  ·by_cases a:i=r
   ·subst a;rw[e,I,s,u,w];grind
   ·have D:=A i o;have y:=AI h b k o k;rw[if_neg a,if_pos rfl] at y;rw[e,E _ _ _ (B i o a),J6 h b,if_neg a,EF h o,if_neg a,y];rw[d] at D;grind
  ·rw[e,G,v,H];rw[d] at F;grind
end
def nL (f:Int->Rat):List Int->Rat
 |[]=>0
 |x::l=>f x+nL f l
theorem J8 {f:Int->Rat}:∀{l k:List Int},nL f (l++k)=nL f l+nL f k
 |[],k=>by grind[nL];|x::l,k=>by simp only[γF,nL,@J8 f l k];grind
theorem Tm {f:Int->Rat} {l k:List Int} (h:l.Perm k):nL f l=nL f k:=by
 induction h<;>grind[nL,swap,trans]
theorem Tn:∀{n:Nat} {f:Nat->Rat},cy (n+1) f=f 0+cy n λi=>f (i+1)
 |0,f=>by grind[cy];|n+1,f=>by
  rw[cy,Tn];grind[cy]
theorem vZ {f:Int->Rat}:∀{l:List Int},nL f l=cy l.length λk=>f (bj l k 0)
 |[]=>rfl
 |x::l=>by
  rw[γB,Tn,nL,vZ];rfl
def jN (n:Nat) (t:Tb) (y:Nat->Rat) (v:Int):Rat:=if v∈t.free then y (t.free.idxOf v) else t.bd (t.basic.idxOf v) - cy n λj=>t.cf (t.basic.idxOf v) j*y j
section
variable {n m:Nat} {t t0:Tb} {r c:Nat}
theorem qb {l:List Int} {i:Nat} (h:l.Nodup) (a:i<l.length):l.idxOf (bj l i 0)=i:=by
 grind[cM]
theorem ov (h:t.WF n m) (c:(t.basic++t.free).Nodup) {y:Nat->Rat} {j:Nat} (a:j<n):jN n t y (t.fv j)=y j:=by
 have b:j<t.free.length:=by rw[h.free];exact a
 unfold jN Tb.fv;rw[if_pos (by grind[cM]),qb (γx.1 c).2.1 b]
theorem Tq (h:t.WF n m) (b:(t.basic++t.free).Nodup) {i:Nat} (a:i<m):t.bv i∉t.free:=λc=>by
 have d:i<t.basic.length:=by rw[h.basic];exact a
 grind[Tb.bv,cM]
theorem pq (h:t.WF n m) (a:(t.basic++t.free).Nodup) {y:Nat->Rat} {i:Nat} (c:i<m):jN n t y (t.bv i)=t.bd i - cy n λj=>t.cf i j*y j:=by
 have b:i<t.basic.length:=by rw[h.basic];exact c
 have e:t.basic.idxOf (t.bv i)=i:=qb (γx.1 a).1 b;unfold jN;grind
theorem asg_holds (h:t.WF n m) (a:(t.basic++t.free).Nodup) {y:Nat->Rat}:t.holds n m (jN n t y) (t.value+cy n λj=>t.cs j*y j):=by
 have e:∀f:Nat->Rat,cy n (λj=>f j*jN n t y (t.fv j))=cy n λj=>f j*y j:=λf=>dY λj c=>by grind[ov]
 refine⟨λi b=>?_,?_⟩
 ·rw[pq h a b,e];grind
 ·rw[e]
def fO (m:Nat) (t0:Tb) (v:Int) (i:Nat):Rat:=if i<m then(if v∈t0.free then t0.cf i (t0.free.idxOf v) else if t0.basic.idxOf v=i then 1 else 0) else 0
def yo (m:Nat) (t0:Tb) (i:Nat):Rat:=if i<m then t0.bd i else 0
def jd (m:Nat) (t0 t:Tb):Rat:=jM (t.basic.map (fO m t0)) (π m)
structure Run (n m:Nat) (t0 t:Tb):Prop where
 ox:t0.WF n m
 wf:t.WF n m
 nd:(t0.basic++t0.free).Nodup
 perm:(t.basic++t.free).Perm (t0.basic++t0.free)
 nM:∀x z,t.holds n m x z↔t0.holds n m x z
 dt:jd m t0 t≠0
theorem Run.gY (h:Run n m t0 t):(t.basic++t.free).Nodup:=h.perm.symm.nodup h.nd
theorem Run.refl (h:t0.WF n m) (a:(t0.basic++t0.free).Nodup):Run n m t0 t0:=by
 refine⟨h,h,a,ζD _,λ_ _=>Iff.rfl,?_⟩;have e:t0.basic.map (fO m t0)=(π m).map yn:=by
  refine δi (by simp[h.basic]) λi g d=>?_;simp only[List.getElem_map,List.getElem_range];have f:i<m:=by simp_all
  have b:t0.basic[i]'(by simp_all)=t0.bv i:=by grind[Tb.bv,cM]
  rw[b];funext k;have c:t0.basic.idxOf (t0.bv i)=i:=qb (γx.1 a).1 (by grind);unfold fO yn;grind
 grind[jd,Tc]
theorem Run.rows (h:Run n m t0 t) {x:Int->Rat} {z:Rat} (l:t.holds n m x z) {i:Nat}:cy m (λk=>fO m t0 (t.bv k) i*x (t.bv k))+cy n (λj=>fO m t0 (t.fv j) i*x (t.fv j))=yo m t0 i:=by
 have b:∀t:Tb,t.WF n m->nL (λv=>fO m t0 v i*x v) (t.basic++t.free)=cy m (λk=>fO m t0 (t.bv k) i*x (t.bv k))+cy n (λj=>fO m t0 (t.fv j) i*x (t.fv j)):=λt f=>by
  rw[J8,vZ,vZ,f.basic,f.free];rfl
 rw[<-b t h.wf,Tm h.perm,b t0 h.ox];have p:=(h.nM x z).1 l;unfold yo;by_cases a:i<m
 ·rw[if_pos a,<-p.1 i a];congr 1
  ·have e:cy m (λk=>fO m t0 (t0.bv k) i*x (t0.bv k))=cy m λk=>if k=i then x (t0.bv i) else 0:=dY λk d=>by
    have c:t0.basic.idxOf (t0.bv k)=k:=qb (γx.1 h.nd).1 (by rw[h.ox.basic];exact d);unfold fO;rw[if_pos a,if_neg (Tq h.ox h.nd d),c];grind
   rw[e,vY,if_pos a]
  ·refine dY λj g=>?_;have o:j<t0.free.length:=by rw[h.ox.free];exact g
   unfold fO;rw[if_pos a,if_pos (by grind[Tb.fv,cM])];have c:t0.free.idxOf (t0.fv j)=j:=qb (γx.1 h.nd).2.1 o;rw[c]
 ·rw[if_neg a];have e:∀v,fO m t0 v i=0:=λv=>by simp_all[fO,if_neg]
  simp only[e];grind[kO]
theorem Run.Tt (h:Run n m t0 t):yo m t0=λi=>cy m λk=>t.bd k*fO m t0 (t.bv k) i:=by
 funext i;have a:=h.rows (i:=i) (asg_holds h.wf h.gY (y:=λ_=>0));rw[<-a,dY (n:=n) (g:=λ_=>0) λj c=>by rw[ov h.wf h.gY c];grind,kO,dY (n:=m) (g:=λk=>t.bd k*fO m t0 (t.bv k) i) λk b=>by
  rw[pq h.wf h.gY b,dY (g:=λ_=>0) λj _=>by grind,kO];grind];grind
theorem Run.acR (h:Run n m t0 t) {c:Nat} (a:c<n):fO m t0 (t.fv c)=λi=>cy m λk=>t.cf k c*fO m t0 (t.bv k) i:=by
 funext i;have f:=congrFun h.Tt i;have b:=h.rows (i:=i) (asg_holds h.wf h.gY (y:=λj=>if j=c then 1 else 0));rw[dY (n:=n) (g:=λj=>if j=c then fO m t0 (t.fv c) i else 0) λj e=>by
  rw[ov h.wf h.gY e];grind,vY,if_pos a,dY (n:=m) (g:=λk=>t.bd k*fO m t0 (t.bv k) i+(-1)*(t.cf k c*fO m t0 (t.bv k) i)) λk d=>by
   rw[pq h.wf h.gY d,dY (g:=λj=>if j=c then t.cf k c else 0) λj _=>by
    grind,vY,if_pos a];grind,AG,AH] at b;grind
theorem getD_map {l:List Int} {f:Int->Nat->Rat} {k:Nat} (h:k<l.length):(l.map f).getD k (λ_=>0)=f (bj l k 0):=by
 grind[cM]
theorem Run.Tv (h:Run n m t0 t) {y:Nat->Rat} {r:Nat} (d:r<m):jM ((t.basic.map (fO m t0)).set r λi=>cy m λk=>y k*fO m t0 (t.bv k) i) (π m)=y r*jd m t0 t:=by
 have b:(t.basic.map (fO m t0)).length=m:=by rw[γA,h.wf.basic]
 have a:=@acQ (t.basic.map (fO m t0)) (π m) y r (by omega);unfold jd;rw[<-a,b];congr 2;funext i;refine dY λk c=>?_;rw[getD_map (by simp_all)];rfl
theorem Run.Tz (h:Run n m t0 t) {r c:Nat} (a:r<m) (b:c<n):jM ((t.basic.map (fO m t0)).set r (fO m t0 (t.fv c))) (π m)=t.cf r c*jd m t0 t:=by
 rw[h.acR b];exact h.Tv (y:=λk=>t.cf k c) a
theorem Run.acS (h:Run n m t0 t) {r:Nat} (a:r<m):jM ((t.basic.map (fO m t0)).set r (yo m t0)) (π m)=t.bd r*jd m t0 t:=by
 rw[h.Tt];exact h.Tv (y:=t.bd) a
theorem set_perm {l:List Int} {r:Nat} {x:Int} (a:r<l.length):(l.set r x).Perm (x::(l.take r++l.drop (r+1))):=by
 rw[εG,if_pos a];simp_all
theorem acT {l:List Int} {r:Nat} (a:r<l.length):(l[r]::(l.take r++l.drop (r+1))).Perm l:=by
 have h:=@set_perm l r l[r] a;grind
theorem swap_perm {l k:List Int} {r c:Nat} (a:r<l.length) (b:c<k.length):(l.set r (bj k c 0)++k.set c (bj l r 0)).Perm (l++k):=by
 grind[cM]
theorem Run.piv (h:Run n m t0 t) {r c:Nat} (a:r<m) (b:c<n) (d:t.cf r c≠0):Run n m t0 (fN t r c) where
 ox:=h.ox;wf:=Ti h.wf;nd:=h.nd;perm:=(swap_perm (by rw[h.wf.basic];exact a) (by rw[h.wf.free];exact b)).trans h.perm;nM x z:=(piv_holds h.wf a b d).trans (h.nM x z);dt:=by
  have e:jd m t0 (fN t r c)=t.cf r c*jd m t0 t:=by
   rw[<-h.Tz a b];unfold jd;congr 1;show(t.basic.set r (t.fv c)).map (fO m t0)=_;simp_all
  rw[e];have:=h.dt;grind
theorem EG {M:Nat} (d:1<=M) (c:∀i j,i<m->j<n->eV M (t0.cf i j)) (a:t0.WF n m) {v:Int} {i:Nat}:eV M (fO m t0 v i):=by
 unfold fO;split
 ·split
  ·rename_i b e;exact c _ _ b (by rw[<-a.free];grind)
  ·split;·exact⟨1,by simp,by omega⟩
   ·exact⟨0,by simp,by simp⟩
 ·exact⟨0,by simp,by simp⟩
theorem mem_set {C:List (Nat->Rat)} {r:Nat} {c d:Nat->Rat} (h:d∈C.set r c):d∈C\/d=c:=List.mem_or_eq_of_mem_set h
theorem Run.acU (h:Run n m t0 t) {M:Nat} (a:1<=M) (c:∀i j,i<m->j<n->eV M (t0.cf i j)):eV (nK M m) (jd m t0 t):=by
 have:=@EB M (t.basic.map (fO m t0)) (π m) (by simp[h.wf.basic]) λd b i _=>by
  obtain⟨v,_,rfl⟩:=γg.1 b;exact EG a c h.ox
 rwa [List.length_range] at this
theorem Run.cfZ (h:Run n m t0 t) {M:Nat} (e:1<=M) (b:∀i j,i<m->j<n->eV M (t0.cf i j)) {r c:Nat} (f:r<m) (g:c<n):eV (nK M m) (t.cf r c*jd m t0 t):=by
 rw[<-h.Tz f g];have:=@EB M ((t.basic.map (fO m t0)).set r (fO m t0 (t.fv c))) (π m) (by simp[h.wf.basic]) λd a i _=>by
  rcases mem_set a with a|rfl
  ·obtain⟨v,_,rfl⟩:=γg.1 a;exact EG e b h.ox
  ·exact EG e b h.ox
 simp_all
theorem Run.bdZ (h:Run n m t0 t) {M:Nat} (b:1<=M) (c:∀i j,i<m->j<n->eV M (t0.cf i j)) (f:∀i,i<m->eV M (t0.bd i)) {r:Nat} (e:r<m):eV (nK M m) (t.bd r*jd m t0 t):=by
 rw[<-h.acS e];have:=@EB M ((t.basic.map (fO m t0)).set r (yo m t0)) (π m) (by simp[h.wf.basic]) λd a i g=>by
  rcases mem_set a with a|rfl
  ·obtain⟨v,_,rfl⟩:=γg.1 a;exact EG b c h.ox
  simp_all[yo]
 simp_all
end
structure qZ (n m:Nat) (t:Tb) (r c:Nat):Prop where
 hr:r<m
 hc:c<n
 cost:0<t.cs c
 least:∀j,j<n->0<t.cs j->t.fv c<=t.fv j
 pos:0<t.cf r c
 ratio:∀i,i<m->0<t.cf i c->t.bd r / t.cf r c<t.bd i / t.cf i c\/(t.bd r / t.cf r c=t.bd i / t.cf i c/\t.bv r<=t.bv i)
def km (m:Nat) (t:Tb):Prop:=∀i,i<m->0<=t.bd i
section
variable {n m:Nat} {t t0:Tb} {r c:Nat}
theorem AK (a b:Rat):a<=b\/b<a:=(Classical.em (a<=b)).imp id ζM.1
theorem div_mul {a b:Rat} (h:0<b):a / b*b=a:=by
 grind
theorem inv_pos {b:Rat} (h:0<b):0<1 / b:=by
 have c:(1 / b)*b=1:=div_mul h;rcases AK (1 / b) 0 with a|a
 ·exfalso;have d:0<=(-(1 / b))*b:=δA (by grind) (by grind);grind
 ·exact a
theorem TA {a b:Rat} (c:0<=a) (h:0<b):0<=a / b:=by
 grind[δA,inv_pos]
theorem qZ.ge (h:qZ n m t r c) (a:km m t):0<=t.bd r / t.cf r c:=TA (a r h.hr) h.pos
theorem qZ.yp (h:qZ n m t r c) (k:t.WF n m) (d:km m t):km m (fN t r c):=by
 intro i a;have f:=h.ge d;have e:t.bd r*(1 / t.cf r c)=t.bd r / t.cf r c:=by grind
 rw[EF k a,e];split;·exact f
 ·rcases AK (t.cf i c) 0 with b|b
  ·have j:0<=(-(t.cf i c))*(t.bd r / t.cf r c):=δA (by grind) f;have:=d i a;grind
  ·have j:t.bd r / t.cf r c<=t.bd i / t.cf i c:=by
    rcases h.ratio i a b with g|g<;>grind
   have g:0<=t.cf i c*(t.bd i / t.cf i c - t.bd r / t.cf r c):=δA (by grind) (by grind);grind[div_mul]
theorem qZ.value:(fN t r c).value=t.value+t.cs c*(t.bd r / t.cf r c):=by
 show t.value+t.cs c*(t.bd r*(1 / t.cf r c))=_;grind
theorem J9 {b:Type}:∀(L:List b) (f:Nat->b),(∀k,f k∈L)->∃i j,i<j/\f i=f j
 |[],f,h=>by simp_all;|a::L,f,h=>by
  by_cases c:∃i,f i=a
  ·obtain⟨i,g⟩:=c;by_cases e:∃j,i<j/\f j=a;·grind
   ·obtain⟨x,y,d,l⟩:=J9 L (λk=>f (k+i+1)) λk=>by
     grind
    grind
  ·exact J9 L f λk=>by
    simp_all
def AL (V:List Int):Nat->List (List Int)
 |0=>[[]]
 |k+1=>(AL V k).flatMap λl=>V.map λv=>v::l
theorem TB {V:List Int}:∀{l:List Int},(∀v∈l,v∈V)->l∈AL V l.length
 |[],_=>by simp[AL];|x::l,h=>by
  simp only[γB,AL,List.mem_flatMap,γg];exact⟨l,TB λv a=>h v (by simp[a]),x,h x (by simp),rfl⟩
theorem acX {l:List Int} {r:Nat} {x v:Int} (a:r<l.length) (b:l.Nodup):v∈l.set r x↔v=x\/(v∈l/\v≠bj l r 0):=by
 grind[set_perm,cM,acT]
theorem TC {f:Nat->Int} {i:Nat}:∀{d:Nat},∃k,(i<=k/\k<=i+d)/\∀x,i<=x->x<=i+d->f x<=f k
 |0=>⟨i,by omega,λx a b=>by grind⟩
 |d+1=>by
  obtain⟨k,a,b⟩:=@TC f i d;by_cases h:f k<=f (i+(d+1))
  ·refine⟨i+(d+1),by omega,λx c e=>?_⟩;grind
  ·refine⟨k,by omega,λx c e=>?_⟩;grind
theorem TD:∀{n:Nat} {f:Nat->Rat},0<cy n f->∃j,j<n/\0<f j
 |0,f,h=>by grind[cy];|n+1,f,h=>by
  rcases AK (f n) 0 with a|a
  ·obtain⟨j,c,b⟩:=@TD n f (by grind[cy]);grind
  grind
theorem yq (h:t.WF n m) {j:Nat} (a:j<n):t.fv j∈t.free:=by
 have b:j<t.free.length:=by rw[h.free];exact a
 grind[Tb.fv,cM]
theorem AO (h:t.WF n m) {j:Nat} (a:j<m):t.bv j∈t.basic:=by
 have b:j<t.basic.length:=by rw[h.basic];exact a
 grind[Tb.bv,cM]
theorem yr (h:t.WF n m) {v:Int} (b:v∈t.free):∃j,j<n/\t.fv j=v:=by
 obtain⟨j,a,rfl⟩:=δb b;exact⟨j,by rw[<-h.free];exact a,by grind[Tb.fv,cM]⟩
theorem yt (h:t.WF n m) {v:Int} (b:v∈t.basic):∃j,j<m/\t.bv j=v:=by
 obtain⟨j,a,rfl⟩:=δb b;exact⟨j,by rw[<-h.basic];exact a,by grind[Tb.bv,cM]⟩
theorem Ko (c:(t.basic++t.free).Nodup) {v:Int} (a:v∈t.basic) (b:v∈t.free):False:=(γx.1 c).2.2 _ a _ b rfl
theorem acY (h:t.WF n m) (c:(t.basic++t.free).Nodup) {i j:Nat} (f:i<m) (d:j<m) (e:t.bv i=t.bv j):i=j:=by
 have a:=qb (γx.1 c).1 (show i<t.basic.length by rw[h.basic];exact f);have b:=qb (γx.1 c).1 (show j<t.basic.length by rw[h.basic];exact d);grind[Tb.bv]
theorem acZ (h:t.WF n m) (c:(t.basic++t.free).Nodup) {i j:Nat} (f:i<n) (d:j<n) (e:t.fv i=t.fv j):i=j:=by
 have a:=qb (γx.1 c).2.1 (show i<t.free.length by rw[h.free];exact f);have b:=qb (γx.1 c).2.1 (show j<t.free.length by rw[h.free];exact d);grind[Tb.fv]
theorem ac0 {T:Nat->Tb} {r c:Nat->Nat} (p:∀k,Run n m t0 (T k)) (hF:∀k,km m (T k)) (B:∀k,qZ n m (T k) (r k) (c k)) (hT:∀k,T (k+1)=fN (T k) (r k) (c k)) {i j:Nat} (b8:i<j) (hb:(T i).basic=(T j).basic) (hf:(T i).free=(T j).free):False:=by
 have b7:(T i).value=(T j).value:=by
  have t:=((p j).nM _ _).2 (((p i).nM _ _).1 (asg_holds (p i).wf (p i).gY (y:=λ_=>0)));have e1:cy n (λk=>(T i).cs k*(λ_=>(0:Rat)) k)=0:=by grind[kO]
  have e2:cy n (λk=>(T j).cs k*jN n (T i) (λ_=>0) ((T j).fv k))=0:=by
   rw[dY (g:=λ_=>0) λk hk=>by
    have:(T j).fv k=(T i).fv k:=by grind[Tb.fv]
    rw[this,ov (p i).wf (p i).gY hk];grind,kO]
  have K:=t.2;grind
 have L:∀k,(T k).value<=(T (k+1)).value:=λk=>by
  rw[hT k,qZ.value];have:=δA (a:=(T k).cs (c k)) (by have:=(B k).cost;grind) ((B k).ge (hF k));grind
 have S:∀d a,(T a).value<=(T (a+d)).value:=λd=>by
  induction d<;>grind
 have H:∀k,i<=k->k<j->(T k).bd (r k)=0:=λk t K=>by
  have a1:=S (k - i) i;have a2:=S (j - (k+1)) (k+1);rw[show i+(k - i)=k by omega] at a1;rw[show k+1+(j - (k+1))=j by omega] at a2;have a3:=L k;rw[hT k] at a2 a3;rw[qZ.value] at a2 a3;have h3:=(B k).ge (hF k);have hc:=(B k).cost;have h4:=@div_mul ((T k).bd (r k)) _ (B k).pos;grind[Rat.mul_eq_zero]
 have b6:∀k,i<=k->k<j->∀v,v∈(T k).basic++(T k).free->jN n (T (k+1)) (λ_=>0) v=jN n (T k) (λ_=>0) v:=λk t K v O=>by
  have hw:=(p k).wf;have G:=(p (k+1)).wf;have hx:=((p (k+1)).nM _ _).2 (((p k).nM _ _).1 (asg_holds hw (p k).gY (y:=λ_=>0)));have hz:∀q,q<n->jN n (T k) (λ_=>0) ((T (k+1)).fv q)=0:=λq s=>by
   rw[hT k,J7 hw (B k).hc];split
   ·rw[pq hw (p k).gY (B k).hr,H k t K,dY (g:=λ_=>0) λj _=>by grind,kO];grind
   ·rw[ov hw (p k).gY s]
  have A:v∈(T (k+1)).basic++(T (k+1)).free:=((p (k+1)).perm.trans (p k).perm.symm).mem_iff.2 O;rcases γc.1 A with A|A
  ·obtain⟨q,s,rfl⟩:=yt G A;have:=hx.1 q s;rw[dY (g:=λ_=>0) λj hj=>by simp_all,kO] at this;rw[pq G (p (k+1)).gY s,dY (g:=λ_=>0) λj _=>by grind,kO];grind
  ·obtain⟨q,s,rfl⟩:=yr G A;rw[hz q s,ov G (p (k+1)).gY s]
 have w:∀a b v,v∈(T a).basic++(T a).free->v∈(T b).basic++(T b).free:=λa b v O=>((p b).perm.trans (p a).perm.symm).mem_iff.2 O;have W:∀d a,i<=a->a+d<=j->∀v,v∈(T a).basic++(T a).free->jN n (T (a+d)) (λ_=>0) v=jN n (T a) (λ_=>0) v:=λd=>by
  induction d<;>grind
 have hA:∀a b,i<=a->a<=j->i<=b->b<=j->∀v,v∈(T a).basic++(T a).free->jN n (T a) (λ_=>0) v=jN n (T b) (λ_=>0) v:=λa b t K h3 h4 v O=>by
  have e1:=W (a - i) i (by omega) (by omega) v (w _ _ v O);have e2:=W (b - i) i (by omega) (by omega) v (w _ _ v O);simp_all
 have P:∀k v,v∈(T (k+1)).basic↔v=(T k).fv (c k)\/(v∈(T k).basic/\v≠(T k).bv (r k)):=λk v=>by
  rw[hT k];exact acX (by rw[(p k).wf.basic];exact(B k).hr) (γx.1 (p k).gY).1
 have U:∀v a b,i<=a->a<=j->i<=b->b<=j->v∈(T a).basic->v∉(T b).basic->∃k,i<=k/\k<j/\(T k).fv (c k)=v:=λv a b a1 a2 b1 b2 ha a9=>by
  apply δX;intro Y;have I:∀d x,i<=x->x+d<=j->v∈(T (x+d)).basic->v∈(T x).basic:=λd=>by
   induction d<;>grind
  have t:=I (a - i) i (by omega) (by omega) (by simp_all);rw[hb] at t;exact a9 (I (j - b) b (by omega) (by omega) (by simp_all))
 obtain⟨l,⟨a6,b9⟩,a0⟩:=@TC (λk=>(T k).fv (c k)) i (j - 1 - i);have J:∀x,i<=x->x<j->(T x).fv (c x)<=(T l).fv (c l):=λx t K=>a0 x t (by omega);have c2:l<j:=by omega
 have a7:(T l).fv (c l)∈(T l).free:=yq (p l).wf (B l).hc;have c0:(T l).fv (c l)∉(T l).basic:=λh=>Ko (p l).gY h a7;obtain⟨o,F,Q,hl⟩:∃o,i<=o/\o<j/\(T o).bv (r o)=(T l).fv (c l):=by
  apply δX;intro Y;have up:∀d x,i<=x->x+d<=j->(T l).fv (c l)∈(T x).basic->(T l).fv (c l)∈(T (x+d)).basic:=λd=>by
   induction d with
   |zero=>intro x _ _ h;exact h;|succ d ih=>
    intro x t K h;exact(P (x+d) _).2 (.inr ⟨ih x t (by omega) h,λe=>Y ⟨x+d,by omega,by omega,e.symm⟩⟩)
  have t:=up (j - (l+1)) (l+1) (by omega) (by omega) ((P l _).2 (.inl rfl));rw[show l+1+(j - (l+1))=j by omega,<-hb] at t;have K:=up (l - i) i (by omega) (by omega) t;simp_all
 have w1:=(p l).wf;have C:=(p o).wf;have n1:=(p l).gY;have E:=(p o).gY;have p1:=B l;have N:=B o;have x1:=(((p l).nM _ _).2 (((p o).nM _ _).1 (asg_holds C E (y:=λq=>if q=c o then 1 else 0)))).2;have x0:=(((p l).nM _ _).2 (((p o).nM _ _).1 (asg_holds C E (y:=λ_=>0)))).2;rw[dY (f:=λq=>(T o).cs q*(λq=>if q=c o then(1:Rat) else 0) q) (g:=λq=>if q=c o then(T o).cs (c o) else 0) λq _=>by
  by_cases s:q=c o<;>grind,vY,if_pos N.hc] at x1;rw[dY (f:=λq=>(T o).cs q*(λ_=>(0:Rat)) q) (g:=λ_=>0) λq _=>by grind,kO] at x0;have hd:0<cy n λq=>(T l).cs q*(jN n (T o) (λq=>if q=c o then 1 else 0) ((T l).fv q) - jN n (T o) (λ_=>0) ((T l).fv q)):=by
  rw[dY (g:=λq=>(T l).cs q*jN n (T o) (λq=>if q=c o then 1 else 0) ((T l).fv q)+(-1)*((T l).cs q*jN n (T o) (λ_=>0) ((T l).fv q))) λq _=>by grind,AG,AH];have:=N.cost;grind
 obtain⟨q,s,u⟩:=TD hd;have a5:(T l).fv q∈(T l).free:=yq w1 s;have Z:=w l o _ (List.mem_append_right _ a5);rcases γc.1 Z with a4|X
 ·obtain⟨D,z,e⟩:=yt C a4;rw[<-e,pq C E z,pq C E z,dY (f:=λj=>(T o).cf D j*(λq=>if q=c o then(1:Rat) else 0) j) (g:=λj=>if j=c o then(T o).cf D (c o) else 0) (λj _=>by
   by_cases hj:j=c o<;>grind),vY,if_pos N.hc,dY (f:=λj=>(T o).cf D j*(λ_=>(0:Rat)) j) (g:=λ_=>0) (λj _=>by grind),kO] at u;have M:0<(T l).cs q*(-(T o).cf D (c o)):=by grind
  obtain⟨k3,b3,b5,h3⟩:=U _ o l F (by omega) a6 (by omega) a4 (λh=>Ko n1 h a5);have b0:(T l).fv q<=(T l).fv (c l):=by grind
  rcases AK ((T l).cs q) 0 with hs|hs
  ·have a8:0<(T o).cf D (c o):=by
    rcases AK ((T o).cf D (c o)) 0 with h4|h4
    ·exfalso;have:=δA (a:= -(T l).cs q) (b:= -(T o).cf D (c o)) (by grind) (by grind);grind
    ·exact h4
   have b4:(T o).bd D=0:=by
    have V:=hA o l F (by omega) a6 (by omega) ((T l).fv q) Z;rw[ov w1 n1 s,<-e,pq C E z,dY (g:=λ_=>0) λj _=>by grind,kO] at V;grind
   have c1:=H o F Q;have hz:∀b:Rat,(0:Rat) / b=0:=λb=>by grind
   rcases N.ratio D z a8 with h6|h6;·simp_all
   ·have h7:(T l).fv (c l)<=(T l).fv q:=by omega
    have h8:=acZ w1 n1 s p1.hc (by omega);rw[h8] at hs;have:=p1.cost;grind
  ·have h7:=p1.least q s hs;have h8:D=r o:=acY C E z N.hr (by omega);rw[h8] at M;have:=δA (a:=(T l).cs q) (b:=(T o).cf (r o) (c o)) (by grind) (by have:=N.pos;grind);grind
 ·obtain⟨q2,R,e⟩:=yr C X;rw[<-e,ov C E R,ov C E R] at u;by_cases V:q2=c o
  ·rw[if_pos V] at u;have h6:=p1.least q s (by grind);have h7:=J o F Q;rw[V] at e;have h8:(T l).fv (c l)=(T o).fv (c o):=by omega
   exact Ko E (AO C N.hr) (by grind)
  ·rw[if_neg V] at u;grind
end
def eh (t:Tb):Nat->Int
 |0=> -1
 |k+1=>if 0<t.cs k/\(eh t k<0\/t.fv k<t.fv (eh t k).toNat) then(k:Int) else eh t k
def dS (t:Tb) (c:Nat):Nat->Int
 |0=> -1
 |k+1=>if t.cf k c<=0 then dS t c k
  else if 0<=dS t c k/\(t.bd (dS t c k).toNat / t.cf (dS t c k).toNat c<t.bd k / t.cf k c\/(t.bd k / t.cf k c=t.bd (dS t c k).toNat / t.cf (dS t c k).toNat c/\t.bv (dS t c k).toNat<t.bv k)) then dS t c k
  else(k:Int)
section
variable {n m:Nat} {t t0:Tb} {r c:Nat}
theorem v7:∀{k:Nat},(eh t k= -1/\∀j,j<k->¬0<t.cs j)\/(∃b:Nat,eh t k=b/\b<k/\0<t.cs b/\∀j,j<k->0<t.cs j->t.fv b<=t.fv j)
 |0=> .inl ⟨rfl,λj h=>by omega⟩
 |k+1=>by
  unfold eh;rcases @v7 k with⟨a,c⟩|⟨b,a,c,d,e⟩;·grind
  ·have f:(eh t k).toNat=b:=by omega
   grind
theorem v8 {c:Nat}:∀{k:Nat},(dS t c k= -1/\∀j,j<k->t.cf j c<=0)\/(∃b:Nat,dS t c k=b/\b<k/\0<t.cf b c/\∀j,j<k->0<t.cf j c->t.bd b / t.cf b c<t.bd j / t.cf j c\/(t.bd b / t.cf b c=t.bd j / t.cf j c/\t.bv b<=t.bv j))
 |0=> .inl ⟨rfl,λj h=>by omega⟩
 |k+1=>by
  unfold dS;by_cases e:t.cf k c<=0
  ·rw[if_pos e];rcases @v8 c k with⟨f,a⟩|⟨b,f,a,o,n⟩<;>grind
  ·rw[if_neg e];have g:0<t.cf k c:=ζM.1 e;rcases @v8 c k with⟨f,a⟩|⟨b,f,a,o,n⟩;·grind
   ·have i:(dS t c k).toNat=b:=by omega
    rw[i];by_cases d:0<=dS t c k/\(t.bd b / t.cf b c<t.bd k / t.cf k c\/(t.bd k / t.cf k c=t.bd b / t.cf b c/\t.bv b<t.bv k));·grind
    ·rw[if_neg d];have l:¬t.bd b / t.cf b c<t.bd k / t.cf k c:=λh=>d ⟨by omega,.inl h⟩;have m:t.bd k / t.cf k c=t.bd b / t.cf b c->¬t.bv b<t.bv k:=λh a=>d ⟨by omega,.inr ⟨h,a⟩⟩;refine .inr ⟨k,rfl,by omega,g,λj p q=>?_⟩;grind
end
def stepT (n m:Nat) (t:Tb):Option Tb:=
 if eh t n<0 then none
 else if dS t (eh t n).toNat m<0 then none
 else some (fN t (dS t (eh t n).toNat m).toNat (eh t n).toNat)
def fc (n m:Nat):Nat->Tb->Bool
 |0,t=>(stepT n m t).isNone
 |k+1,t=>match stepT n m t with
  |none=>true
  |some a=>fc n m k a
def runT (n m:Nat):Nat->Tb->Tb
 |0,t=>t
 |k+1,t=>match stepT n m t with
  |none=>t
  |some a=>runT n m k a
def yu (n m N:Nat) (t:Tb):Nat:=((π N).filter λk=>!fc n m k t).length
section
variable {n m:Nat} {t t0 t':Tb}
theorem TE (h:stepT n m t=some t'):∃r c,qZ n m t r c/\t'=fN t r c/\eh t n=(c:Int)/\dS t c m=(r:Int):=by
 unfold stepT at h;split at h;·cases h
 ·rename_i p;split at h;·cases h
  ·rename_i o;injection h with h;rcases @v7 t n with⟨b,_⟩|⟨c,b,d,e,k⟩;·omega
   ·have f:(eh t n).toNat=c:=by omega
    rw[f] at h o;rcases @v8 t c m with⟨a,_⟩|⟨r,a,i,j,l⟩;·omega
    ·have g:(dS t c m).toNat=r:=by omega
     rw[g] at h;exact⟨r,c,⟨i,d,e,k,j,l⟩,h.symm,b,a⟩
theorem Kp (b:Run n m t0 t) (d:km m t) (h:stepT n m t=some t'):Run n m t0 t'/\km m t':=by
 obtain⟨r,c,a,rfl,_⟩:=TE h;exact⟨b.piv a.hr a.hc (by have:=a.pos;grind),a.yp b.wf d⟩
theorem Kq:∀{k:Nat} {t:Tb},fc n m k t=true->fc n m (k+1) t=true
 |0,t,h=>by
  grind[fc];|k+1,t,h=>by
  unfold fc at h ⊢;split;·rfl
  ·rename_i b a;rw[a] at h;exact Kq h
theorem left_step {N:Nat} (b:fc n m N t=true) (h:stepT n m t=some t'):yu n m N t'<yu n m N t:=by
 unfold yu;have e:∀k,fc n m k t'=fc n m (k+1) t:=λk=>by grind[fc]
 have c:fc n m 0 t=false:=by simp[fc,h]
 simp only[e];cases N with
 |zero=>simp_all;|succ N=>
  have a:∀f:Nat->Bool,((π (N+1)).filter f).length=(if f 0 then 1 else 0)+((π N).filter λk=>f (k+1)).length:=λf=>by
   rw[List.range_succ_eq_map,List.filter_cons,List.filter_map,];grind[Function.comp_def]
  rw[a (λk=>!fc n m k t),c];rw[List.range_succ,List.filter_append,κ];simp[b]
theorem TF {N:Nat} (a:fc n m N t=true) (h:stepT n m t=some t'):fc n m N t'=true:=by
 cases N<;>grind[fc,Kq]
theorem Kr (D:Run n m t0 t) (o:km m t):∃N,fc n m N t=true:=by
 apply δX;intro u;have e:∀N,fc n m N t=false:=λN=>by
  simp_all
 let T:Nat->Tb:=λk=>Nat.rec t (λ_ s=>(stepT n m s).getD s) k;have d:∀k,T (k+1)=(stepT n m (T k)).getD (T k):=λk=>rfl;have A:∀k N,fc n m N (T k)=false:=by
  intro k;induction k with
  |zero=>exact e;|succ k l=>
   intro N;rw[d];cases z:stepT n m (T k) with
   |none=>simp_all;|some q=>
    have:=l (N+1);grind[fc]
 have w:∀k,stepT n m (T k)=some (T (k+1)):=λk=>by
  rw[d];cases z:stepT n m (T k) with
  |none=>have:=A k 0;grind[fc];|some q=>rfl
 have a:∀k,Run n m t0 (T k)/\km m (T k):=by
  intro k;induction k with
  |zero=>exact⟨D,o⟩;|succ k l=>grind[Kp]
 have b:∀k,∃p:Nat×Nat,qZ n m (T k) p.1 p.2/\T (k+1)=fN (T k) p.1 p.2:=λk=>by
  obtain⟨r,c,f,E,_⟩:=TE (w k);exact⟨(r,c),f,E⟩
 let p:Nat->Nat×Nat:=λk=>Classical.choose (b k);have h:∀k,qZ n m (T k) (p k).1 (p k).2/\T (k+1)=fN (T k) (p k).1 (p k).2:=λk=>Classical.choose_spec (b k);obtain⟨i,j,g,B⟩:=J9 (AL (t0.basic++t0.free) (m+n)) (λk=>(T k).basic++(T k).free) λk=>by
  have f:=@TB (t0.basic++t0.free) ((T k).basic++(T k).free) λv C=>(a k).1.perm.mem_iff.1 C;rwa [κ,(a k).1.wf.basic,(a k).1.wf.free] at f
 obtain⟨y,x⟩:=List.append_inj B (by rw[(a i).1.wf.basic,(a j).1.wf.basic]);exact ac0 (λk=>(a k).1) (λk=>(a k).2) (λk=>(h k).1) (λk=>(h k).2) g y x
end
open Go.Proofs.YtjcmncmajmoiiaaGreat.Ir
open Go.Proofs
def fL (l:List Rat):List bO:=l.map bu
def fM (l:List (List Rat)):List (List bO):=l.map fL
def vL (l:List bO):List Rat:=l.map ck
theorem mA (l:List Rat):vL (fL l)=l:=by
 unfold vL fL;rw[δn];conv=>rhs;rw[<-List.map_id l]
 exact γW λq _=>fb q
theorem kQ (x:bO):(x.1,x.2.1,x.2.2)=x:=rfl
theorem fQ {l:List Rat}:(fL l).length=l.length:=γA _
theorem Ks {l:List (List Rat)}:(fM l).length=l.length:=γA _
theorem jv {l:List Rat} {i:Nat} (h:i<l.length) {d:bO}:bj (fL l) i d=bu (bj l i 0):=by
 grind[cM,fL]
theorem Kt {l:List (List Rat)} {i:Nat} (h:i<l.length) {d:List bO}:bj (fM l) i d=fL (bj l i []):=by
 grind[cM,fM]
structure nN where
 n:Int
 m:Int
 k0:Nat
 k1:Nat
 k3:Nat
 k4:Nat
 ca:List (List bO)
 bound:List bO
 cost:List bO
 v:bO
 basic:List Int
 free:List Int
def nN.gG (x:nN):bW:=
 [.cells [.si .i64 x.n,.si .i64 x.m,.ow 1 x.k0 1,.ow 2 x.k1 3,.row sF x.cost,.sb x.v.1,.row (.i .u32) x.v.2.1,.row (.i .u32) x.v.2.2,.ow 3 x.k3 1,.ow 4 x.k4 1] 267 10 false,
  .row (.bJ sF) x.ca 91 false,.row sF x.bound 157 false,.row (.i .i64) x.basic 3 false,.row (.i .i64) x.free 3 false]
def EH:bW->Option nN
 |[.cells [a,b,.ow 1 k0 1,.ow 2 k1 3,c,v0,v1,v2,.ow 3 k3 1,.ow 4 k4 1] 267 10 false,.row s1 l1 91 false,.row s2 l2 157 false,.row s3 l3 3 false,.row s4 l4 3 false]=>
  match a.int .i64,b.int .i64,gj sF c,jH sF [v0,v1,v2] with
  |some a,some b,some c,some v=>match iI s1 (.bJ sF) l1,iI s2 sF l2,iI s3 (.i .i64) l3,iI s4 (.i .i64) l4 with
   |some l1,some l2,some l3,some l4=>some ⟨a,b,k0,k1,k3,k4,l1,l2,c,v,l3,l4⟩
   |_,_,_,_=>none
  |_,_,_,_=>none
 |_=>none
theorem ac1 {o:bW} {x:nN} (h:EH o=some x):gO o=gO x.gG:=by
 unfold EH at h;split at h
 ·split at h
  ·rename_i p l c e;split at h
   ·rename_i n j k m;simp only[γ] at h;subst h;obtain⟨rfl,f⟩:=nu n;obtain⟨rfl,b⟩:=nu j;obtain⟨rfl,d⟩:=nu k;obtain⟨rfl,i⟩:=nu m;cases f;cases b;cases d;cases i;have a:=nY e;simp only[ι,γt,dN,dJ,ξ,and_true,List.nil_append,γF] at a;simp only[nN.gG,gO,ι,γt,bq.g,gL,gU p,gU l,jK c,SV.g];simp only[a];rfl
   ·cases h
  ·cases h
 ·cases h
theorem pr {s:bk} {a b:List s.T} (h:cC s a=cC s b):a=b:=by
 by_cases d:s.sz=0;·exact absurd d (by
   have:∀s:bk,0<s.sz:=λs=>by
    induction s<;>simp only[bk.sz]<;>omega
   grind)
 ·have c:=congrArg γn h;rw[ft,ft] at c;exact l8 s (Nat.eq_of_mul_eq_mul_right (by omega) c) h
theorem ac2 {x y:nN} (h:gO x.gG=gO y.gG):x=y:=by
 obtain⟨n,m,B,M,G,J,c,b,g,⟨I,K,F⟩,D,C⟩:=x;obtain⟨H,L,a,p,r,l,N,E,A,⟨k,w,q⟩,j,u⟩:=y;simp only[nN.gG,gO,ι,γt,bq.g,gL,SV.g,ξ,bP.cells.injEq,and_true,true_and,γX,Value.int.injEq,Value.bool.injEq,AV.os.injEq,AV.sl.injEq] at h;obtain⟨⟨rfl,rfl,⟨rfl,_⟩,⟨rfl,_⟩,⟨_,d⟩,rfl,⟨_,v⟩,⟨_,e⟩,⟨rfl,_⟩,⟨rfl,_⟩⟩,f,t,o,z⟩:=h;rw[pr (s:=sF) d,pr (s:=.i .u32) v,pr (s:=.i .u32) e,pr (s:=.bJ sF) f,pr (s:=sF) t,pr (s:=.i .i64) o,pr (s:=.i .i64) z]
abbrev bG (n m:Int) (t:Tb):nN:=⟨n,m,t.ca.length,t.bound.length,t.basic.length,t.free.length,fM t.ca,fL t.bound,fL t.cost,bu t.value,t.basic,t.free⟩
def nN.t (x:nN):Tb:=⟨x.ca.map vL,vL x.bound,vL x.cost,ck x.v,x.basic,x.free⟩
theorem s6 {n m:Int} {t:Tb}:(bG n m t).t=t:=by
 have e:(fM t.ca).map vL=t.ca:=by
  unfold fM;rw[δn];conv=>rhs;rw[<-List.map_id t.ca]
  exact γW λq _=>mA q
 simp_all[nN.t,mA,fb]
theorem ac3 (x:nN):(⟨x.n,x.m,x.k0,x.k1,x.k3,x.k4,x.ca,x.bound,x.cost,(x.v.1,x.v.2.1,x.v.2.2),x.basic,x.free⟩:nN)=x:=rfl
theorem TG {n m:Int} {t:Tb}:(bG n m t).n=n:=rfl
theorem TI {n m:Int} {t:Tb}:(bG n m t).m=m:=rfl
def wa (k:Nat) (t:Tb):Prop:=(∀l∈t.ca,∀q∈l,Sz k q)/\(∀q∈t.bound,Sz k q)/\(∀q∈t.cost,Sz k q)/\Sz k t.value
def kR (n m:Int) (t:Tb):Prop:=((0<=n/\n<=1000)/\(0<=m/\m<=1000))/\t.WF n.toNat m.toNat/\wa 1000000 t
def uG (f:FuncId) (c:Type) (A:qF c) (i:Int->Int->Tb->c->Prop) (e:Int->Int->Tb->c->SV) (out:Int->Int->Tb->c->Tb):cZ where
 f:=f;α:=nN×c;put a:=.ptr 0 0 10::A.put a.2;st a:=a.1.gG;dec v o:=match v with
  | .ptr 0 0 10::r=>match EH o,A.dec r with
   |some s,some b=>some (s,b)
   |_,_=>none
  |_=>none;ok v o a h:=by
  split at h
  ·split at h
   ·rename_i d g;simp only[γ] at h;subst h;exact⟨by simp only[gL,A.ok _ _ g],ac1 d⟩
   ·cases h
  ·cases h
 inj a b d g:=by
  simp only[gL,ξ,true_and] at d;exact δ5 (ac2 g) (A.inj _ _ d)
 dom a:=∃n m t,a.1=bG n m t/\kR n m t/\i n m t a.2;res a:=e a.1.n a.1.m a.1.t a.2;out a:=(bG a.1.n a.1.m (out a.1.n a.1.m a.1.t a.2)).gG
theorem ei {q:Rat} {k:Nat} (h:Sz k q) (a:k<=100000000):de (bu q):=⟨q,k,rfl,h,a⟩
section
variable {n m:Int} {t:Tb}
theorem kR.cf (h:kR n m t) {i j:Nat} (a:i<m.toNat) (c:j<n.toNat):Sz 1000000 (t.cf i j):=by
 have b:=cK (l:=t.ca) (d:=[]) (show i<t.ca.length by rw[h.2.1.ca];exact a);exact h.2.2.1 _ b _ (cK (by rw[h.2.1.row i a];exact c))
theorem kR.bd (h:kR n m t) {i:Nat} (a:i<m.toNat):Sz 1000000 (t.bd i):=h.2.2.2.1 _ (cK (by rw[h.2.1.bound];exact a))
theorem kR.cs (h:kR n m t) {j:Nat} (a:j<n.toNat):Sz 1000000 (t.cs j):=h.2.2.2.2.1 _ (cK (by rw[h.2.1.cost];exact a))
end
theorem yv {q:Rat}:0<kN q↔0<q:=by
 grind[kN]
theorem TJ {q:Rat}:kN q=0↔q=0:=by
 grind[kN]
theorem Ku {q:Rat}:kN q<0↔q<0:=by
 grind[kN]
def Kv:cZ:=uG 220 Unit .nil (λ_ _ _ _=>True) (λn _ t _=> .si .i64 (eh t n.toNat)) (λ_ _ t _=>t)
def ac4 (n m:Int) (t:Tb):Nat->cB
 |3=> .inv Int (λj=>⟨[(0,.ptr 0 0 10),(3,.si .i64 (eh t j.toNat)),(9,.ow 4 t.free.length 1),(10,.si .i64 t.free.length),(11,.si .i64 j)],(bG n m t).gG⟩)
   (λs=>iS s 11) (λj=>0<=j/\j<=n) (λj=>(n - j).toNat) λ_ _=> .look
 |_=> .look
theorem h411:dK Tryz.prog Kv:=by
 refine jm (L:=[uE]) (W:=[]) Kv (λa=>ac4 a.1.n a.1.m a.1.t) (by simp) (by simpa using h99) ?_;rintro⟨x,u⟩ ⟨n,m,t,hx,hok, -⟩;simp only at hx;subst hx;refine bN (let a:=Θ .i64;let b:=(0:Int);let c:=bq.row;let d:=SV.ow;let e:=Φ;let r:=SV.ptr 0 0 10;let s:=(bG n m t).t;let F:=d 4 (bG n m t).k4 1;let y:=s.free.length;let z:=d 4 y 1;let A:=a (↑y:Int);let g:=(bG n m t).n;let B:=bk.i .u32;let f:=bG g (bG n m t).m s;let k:=bq.cells [a f.n,a f.m,d 1 f.k0 1,d 2 f.k1 3,e sF f.cost,γD f.v.fst,e B f.v.snd.fst,e B f.v.snd.snd,d 3 f.k3 1,d 4 f.k4 1] 267 10 false;let l:=c sF.bJ f.ca 91 false;let o:=c sF f.bound 157 false;let C:=bk.i .i64;let p:=c C f.basic 3 false;let q:=c C f.free 3 false;let j:=f.free.length;(((r.same r/\(γp .i64 (-1:Int)).same (a (eh s 0))/\F.same z/\(a (↑(bG n m t).k4:Int)).same A/\(γp .i64 0).same (a 0)/\True)/\(bq.cells [a g,a (bG n m t).m,d 1 (bG n m t).k0 1,d 2 (bG n m t).k1 3,e sF (bG n m t).cost,γD (bG n m t).v.fst,e B (bG n m t).v.snd.fst,e B (bG n m t).v.snd.snd,d 3 (bG n m t).k3 1,F] 267 10 false).same k/\(c sF.bJ (bG n m t).ca 91 false).same l/\(c sF (bG n m t).bound 157 false).same o/\(c C (bG n m t).basic 3 false).same p/\(c C (bG n m t).free 3 false).same q/\True)/\b<=b/\b<=g)/\∀(x:Int),let h:=x+(1:Int);let w:=eh s x.toNat;let G:=a w;let H:=a (eh s h.toNat);let D:=a h;let E:=bj f.cost x.toNat sF.dflt;let I:=(E.fst,E.snd.fst,E.snd.snd);let J:=decide (x<(↑y:Int));let K:=decide (w<b);let L:=decide (bj f.free x.toNat b<bj f.free w.toNat b);let M:=bV .i64 h/\((r.same r/\G.same H/\z.same z/\A.same A/\D.same D/\True)/\k.same k/\l.same l/\o.same o/\p.same p/\q.same q/\True)/\(b<=h/\h<=g)/\(g - h).toNat<(g - x).toNat;let N:=bV .i64 h/\((r.same r/\(a x).same H/\z.same z/\A.same A/\D.same D/\True)/\k.same k/\l.same l/\o.same o/\p.same p/\q.same q/\True)/\(b<=h/\h<=g)/\(g - h).toNat<(g - x).toNat;let O:=λ(u:Bool) ↦decide (b<kN (ck I))=u;b<=x/\x<=g->(J=true->y=j/\b<=x/\x<(↑j:Int)/\y=j/\x.toNat<j/\b<=x/\x<(↑f.cost.length:Int)/\x.toNat<f.cost.length/\de I/\(O true->(K=true->N)/\(K=false->f.k4=j/\b<=w/\w<(↑j:Int)/\f.k4=j/\w.toNat<j/\(L=true->N)/\(L=false->M)))/\(O false->M))/\(J=false->G.same (a (eh s g.toNat))/\k.same k/\l.same l/\o.same o/\p.same p/\q.same q/\True)) (by kernel_rfl) ?_;simp only[s6];try simp only[bG]
 simp only[vcs];obtain⟨⟨⟨n0,n1⟩,m0,m1⟩,hw,hz⟩:=id hok;have hfl:=hw.free;have hcl:=hw.cost;have hfc:=@fQ t.cost;refine⟨⟨rfl,by omega,by omega⟩,?_⟩;rintro j ⟨j0,j1⟩;have hs:eh t (j+1).toNat=if 0<t.cs j.toNat/\(eh t j.toNat<0\/t.fv j.toNat<t.fv (eh t j.toNat).toNat) then(j.toNat:Int) else eh t j.toNat:=by
  rw[show(j+1).toNat=j.toNat+1 by omega];rfl
 have hb:eh t j.toNat<j.toNat:=by
  rcases @v7 t j.toNat with⟨h,_⟩|⟨b,h,hlt,_⟩<;>omega
 refine⟨λhj=>?_,λhj=>by rw[show j.toNat=n.toNat by omega]⟩;have hc:bj (fL t.cost) j.toNat sF.dflt=bu (t.cs j.toNat):=jv (by omega);simp only[hc,kQ,fb,decide_eq_true_eq,decide_eq_false_iff_not,yv];have EI:∀k:Nat,bj t.free k 0=t.fv k:=λk=>rfl;rw[EI,EI,hs];refine⟨j0,hj,by omega,j0,by omega,by omega,ei (hok.cs (by omega)) (by omega),λhp=>⟨λhn=>?_,λhn=>⟨by omega,by omega,by omega,λhl=>?_,λhl=>?_⟩⟩,λhp=>?_⟩
 ·rw[if_pos ⟨hp,.inl hn⟩];omega
 ·rw[if_pos ⟨hp,.inr hl⟩];omega
 ·rw[if_neg λh=>h.2.elim hn hl];omega
 ·rw[if_neg λh=>hp h.1];omega
def nO (t:Tb) (c k:Nat):bO:=if dS t c k<0 then(false,([],[])) else bu (t.bd (dS t c k).toNat / t.cf (dS t c k).toNat c)
def Kw:cZ:=uG 221 Int (.one (dV .i64)) (λn _ _ c=>0<=c/\c<n) (λ_ m t c=> .si .i64 (dS t c.toNat m.toNat)) (λ_ _ t _=>t)
def ac5 (n m:Int) (t:Tb) (c:Int):Nat->cB
 |4=> .inv Int (λi=>⟨[(0,.ptr 0 0 10),(1,.si .i64 c),(5,.si .i64 (dS t c.toNat i.toNat)),(6,.ptr 5 0 3),(15,.ow 1 t.ca.length 1),(16,.si .i64 t.ca.length),(17,.si .i64 i)],(bG n m t).gG++[.cells [.sb (nO t c.toNat i.toNat).1,.row (.i .u32) (nO t c.toNat i.toNat).2.1,.row (.i .u32) (nO t c.toNat i.toNat).2.2] 157 3 false,.dead,.dead]⟩)
   (λs=>iS s 17) (λi=>0<=i/\i<=m) (λi=>(m - i).toNat) λ_ _=> .look
 |_=> .look
theorem h412:dK Tryz.prog Kw:=by
 refine jm (L:=[uE,AA,EA]) (W:=[]) Kw (λa=>ac5 a.1.n a.1.m a.1.t a.2) (by simp) (by simpa using⟨h99,h97,h416⟩) ?_;rintro⟨x,c⟩ ⟨n,m,t,hx,hok,hd⟩;simp only at hx hd;subst hx;refine bN (let a:=Θ .i64;let b:=(0:Int);let d:=Φ;let e:=bq.cells;let f:=bq.row;let g:=SV.ow;let h:=γD;let A:=SV.ptr 0 0 10;let p:=(bG n m t).t;let B:=SV.ptr 5 0 3;let U:=g 1 (bG n m t).k0 1;let H:=p.ca.length;let I:=g 1 H 1;let J:=a (↑H:Int);let l:=(bG n m t).m;let k:=bk.i .u32;let j:=bG (bG n m t).n l p;let r:=e [a j.n,a j.m,g 1 j.k0 1,g 2 j.k1 3,d sF j.cost,h j.v.fst,d k j.v.snd.fst,d k j.v.snd.snd,g 3 j.k3 1,g 4 j.k4 1] 267 10 false;let C:=j.ca;let s:=f sF.bJ C 91 false;let D:=j.bound;let w:=f sF D 157 false;let L:=bk.i .i64;let y:=f L j.basic 3 false;let z:=f L j.free 3 false;let O:=nO p c.toNat 0;let a9:=sF.bJ.dflt;let q:=j.basic.length;0=0/\0=0/\(((A.same A/\(a c).same (a c)/\(γp .i64 (-1:Int)).same (a (dS p c.toNat 0))/\B.same B/\U.same I/\(a (↑(bG n m t).k0:Int)).same J/\(γp .i64 0).same (a 0)/\True)/\(e [a (bG n m t).n,a l,U,g 2 (bG n m t).k1 3,d sF (bG n m t).cost,h (bG n m t).v.fst,d k (bG n m t).v.snd.fst,d k (bG n m t).v.snd.snd,g 3 (bG n m t).k3 1,g 4 (bG n m t).k4 1] 267 10 false).same r/\(f sF.bJ (bG n m t).ca 91 false).same s/\(f sF (bG n m t).bound 157 false).same w/\(f L (bG n m t).basic 3 false).same y/\(f L (bG n m t).free 3 false).same z/\(e [SV.bl false,d k [],d k []] 157 3 false).same (e [h O.fst,d k O.snd.fst,d k O.snd.snd] 157 3 false)/\bq.dead.same bq.dead/\bq.dead.same bq.dead/\True)/\b<=b/\b<=l)/\∀(x:Int),let o:=x+(1:Int);let V:=a (dS p c.toNat o.toNat);let M:=a o;let P:=bj D x.toNat sF.dflt;let W:=(P.fst,P.snd.fst,P.snd.snd);let K:=bj C x.toNat a9;let Q:=bj K c.toNat sF.dflt;let N:=(Q.fst,Q.snd.fst,Q.snd.snd);let E:=bu (ck W / ck N);let R:=nO p c.toNat o.toNat;let X:=e [h R.fst,d k R.snd.fst,d k R.snd.snd] 157 3 false;let F:=dS p c.toNat x.toNat;let Y:=a F;let G:=nO p c.toNat x.toNat;let Z:=(E.fst,E.snd.fst,E.snd.snd);let a0:=(G.fst,G.snd.fst,G.snd.snd);let a1:=jc (ck Z) (ck a0);let a2:=decide (x<(↑H:Int));let a3:=decide (b<=F);let a4:=decide (bj j.basic F.toNat b<bj j.basic x.toNat b);let S:=bV .i64 o/\((A.same A/\(a c).same (a c)/\(a x).same V/\B.same B/\I.same I/\J.same J/\M.same M/\True)/\r.same r/\s.same s/\w.same w/\y.same y/\z.same z/\(e [h E.fst,d k E.snd.fst,d k E.snd.snd] 157 3 false).same X/\bq.dead.same bq.dead/\bq.dead.same bq.dead/\True)/\(b<=o/\o<=l)/\(l - o).toNat<(l - x).toNat;let T:=bV .i64 o/\((A.same A/\(a c).same (a c)/\Y.same V/\B.same B/\I.same I/\J.same J/\M.same M/\True)/\r.same r/\s.same s/\w.same w/\y.same y/\z.same z/\(e [h G.fst,d k G.snd.fst,d k G.snd.snd] 157 3 false).same X/\bq.dead.same bq.dead/\bq.dead.same bq.dead/\True)/\(b<=o/\o<=l)/\(l - o).toNat<(l - x).toNat;let a5:=de N;let a6:=λ(u:Bool) ↦decide (b<a1)=u;let a7:=λ(u:Bool) ↦decide (a1=b)=u;let a8:=λ(u:Bool) ↦decide (kN (ck N)<=b)=u;b<=x/\x<=l->(a2=true->H=C.length/\b<=x/\x<(↑C.length:Int)/\H=C.length/\x.toNat<C.length/\b<=c/\c<(↑K.length:Int)/\c.toNat<K.length/\a5/\(a8 true->T)/\(a8 false->j.k1=D.length/\b<=x/\x<(↑D.length:Int)/\j.k1=D.length/\x.toNat<D.length/\b<=c/\c<(↑K.length:Int)/\c.toNat<K.length/\((de W/\a5)/\ck N≠(0:Rat))/\(a3=true->(de Z/\de a0)/\(a6 true->T)/\(a6 false->(a7 true->j.k3=q/\b<=x/\x<(↑q:Int)/\j.k3=q/\x.toNat<q/\j.k3=q/\b<=F/\F<(↑q:Int)/\j.k3=q/\F.toNat<q/\(a4=true->T)/\(a4=false->S))/\(a7 false->S)))/\(a3=false->S)))/\(a2=false->Y.same (a (dS p c.toNat l.toNat))/\r.same r/\s.same s/\w.same w/\y.same y/\z.same z/\True)) (by kernel_rfl) ?_;simp only[s6];try simp only[bG]
 simp only[vcs];obtain⟨⟨⟨n0,n1⟩,m0,m1⟩,hw,hz⟩:=id hok;have hkl:=hw.ca;have hbl:=hw.bound;have hbb:=hw.basic;have hfm:=@Ks t.ca;have Kx:=@fQ t.bound;have hcell:∀{x y:bO},x=y->(bq.cells [γD x.1,Φ (bk.i IntKind.u32) x.2.1,Φ (bk.i IntKind.u32) x.2.2] 157 3 false).same (bq.cells [γD y.1,Φ (bk.i IntKind.u32) y.2.1,Φ (bk.i IntKind.u32) y.2.2] 157 3 false):=by rintro _ _ rfl;rfl
 have hl0:nO t c.toNat 0=(false,([],[])):=rfl;refine⟨⟨⟨rfl,by rw[hl0];rfl⟩,by omega,by omega⟩,?_⟩;rintro i ⟨i0,i1⟩;refine⟨λhi=>?_,λhi=>by rw[show i.toNat=m.toNat by omega]⟩;have him:i.toNat<m.toNat:=by omega
 have hrow:bj (fM t.ca) i.toNat sF.bJ.dflt=fL (bj t.ca i.toNat []):=Kt (by omega);have hrl:=hw.row i.toNat him;have hfr:=@fQ (bj t.ca i.toNat []);have hA:bj (fL (bj t.ca i.toNat [])) c.toNat sF.dflt=bu (t.cf i.toNat c.toNat):=jv (by omega);have hB:bj (fL t.bound) i.toNat sF.dflt=bu (t.bd i.toNat):=jv (by omega);have hbv:∀k:Nat,bj t.basic k 0=t.bv k:=λk=>rfl;have hsA:=hok.cf (i:=i.toNat) (j:=c.toNat) him (by omega);have hsB:=hok.bd (i:=i.toNat) him;have hs:dS t c.toNat (i+1).toNat=if t.cf i.toNat c.toNat<=0 then dS t c.toNat i.toNat
  else if 0<=dS t c.toNat i.toNat/\(t.bd (dS t c.toNat i.toNat).toNat / t.cf (dS t c.toNat i.toNat).toNat c.toNat<t.bd i.toNat / t.cf i.toNat c.toNat\/(t.bd i.toNat / t.cf i.toNat c.toNat=t.bd (dS t c.toNat i.toNat).toNat / t.cf (dS t c.toNat i.toNat).toNat c.toNat/\t.bv (dS t c.toNat i.toNat).toNat<t.bv i.toNat)) then dS t c.toNat i.toNat
  else(i.toNat:Int):=by
  rw[show(i+1).toNat=i.toNat+1 by omega];rfl
 have hlb:dS t c.toNat i.toNat<i.toNat:=by
  rcases @v8 t c.toNat i.toNat with⟨h,_⟩|⟨b,h,hlt,_⟩<;>omega
 have hlp:0<=dS t c.toNat i.toNat->0<t.cf (dS t c.toNat i.toNat).toNat c.toNat:=λh=>by
  rcases @v8 t c.toNat i.toNat with⟨h2,_⟩|⟨b,h2,hlt,hp,_⟩;·omega
  ·rw[h2,γk];exact hp
 have ac6:∀q:Rat,kN q<=0↔q<=0:=λq=>by
  have:=@yv q;constructor;·intro h;exact Rat.not_lt.1 λh2=>by have:=this.2 h2;omega
  ·intro h;exact Int.not_lt.1 λh2=>Rat.not_lt.2 h (this.1 h2)
 simp only[hrow,hA,hB,kQ,fb,hbv,ac6,acN,acO];have ac7:0<=dS t c.toNat i.toNat->nO t c.toNat i.toNat=bu (t.bd (dS t c.toNat i.toNat).toNat / t.cf (dS t c.toNat i.toNat).toNat c.toNat):=λh=>by
  unfold nO;rw[if_neg (by omega)]
 have tail:(0<=i+1/\i+1<=m)/\(m - (i+1)).toNat<(m - i).toNat:=by omega
 have keep:dS t c.toNat (i+1).toNat=dS t c.toNat i.toNat->nO t c.toNat i.toNat=nO t c.toNat (i+1).toNat:=λh=>by
  unfold nO;rw[h]
 have new:dS t c.toNat (i+1).toNat=(i.toNat:Int)->bu (t.bd i.toNat / t.cf i.toNat c.toNat)=nO t c.toNat (i+1).toNat:=λh=>by
  unfold nO;rw[h,if_neg (by omega),γk]
 have hnz:0<t.cf i.toNat c.toNat->t.cf i.toNat c.toNat≠0:=λh=>by grind
 refine⟨by omega,i0,by omega,by omega,by omega,hd.1,by omega,by omega,ei hsA (by omega),λhle=>?_,λhgt=>?_⟩
 ·have e:dS t c.toNat (i+1).toNat=dS t c.toNat i.toNat:=by rw[hs,if_pos hle]
  exact⟨by omega,⟨e.symm,hcell (keep e)⟩,tail⟩
 ·have hp:0<t.cf i.toNat c.toNat:=ζM.1 hgt;rw[if_neg hgt] at hs;have ac8:=J1 hsB hsA (hnz hp);refine⟨by omega,i0,by omega,by omega,by omega,hd.1,by omega,by omega,⟨⟨ei hsB (by omega),ei hsA (by omega)⟩,hnz hp⟩,λh0=>?_,λh0=>?_⟩
  ·have hl:=ac7 h0;have hsl:=J1 (hok.bd (i:=(dS t c.toNat i.toNat).toNat) (by omega)) (hok.cf (i:=(dS t c.toNat i.toNat).toNat) (j:=c.toNat) (by omega) (by omega)) (by have:=hlp h0;grind);have hvl:ck (nO t c.toNat i.toNat)=t.bd (dS t c.toNat i.toNat).toNat / t.cf (dS t c.toNat i.toNat).toNat c.toNat:=by rw[hl,fb]
   simp only[hvl];refine⟨⟨ei ac8 (by omega),by rw[hl];exact ei hsl (by omega)⟩,λhlt=>?_,λhlt=>⟨λheq=>⟨i0,by omega,by omega,h0,by omega,by omega,λhbl=>?_,λhbl=>?_⟩,λheq=>?_⟩⟩
   ·rw[if_pos ⟨h0,.inl hlt⟩] at hs;exact⟨by omega,⟨hs.symm,hcell (keep hs)⟩,tail⟩
   ·rw[if_pos ⟨h0,.inr ⟨heq,hbl⟩⟩] at hs;exact⟨by omega,⟨hs.symm,hcell (keep hs)⟩,tail⟩
   ·rw[if_neg λh=>h.2.elim hlt λh2=>hbl h2.2] at hs;exact⟨by omega,⟨by omega,hcell (new hs)⟩,tail⟩
   ·rw[if_neg λh=>h.2.elim hlt λh2=>heq h2.1] at hs;exact⟨by omega,⟨by omega,hcell (new hs)⟩,tail⟩
  ·rw[if_neg λh=>h0 h.1] at hs;exact⟨by omega,⟨by omega,hcell (new hs)⟩,tail⟩
def Ky:bL:=⟨169,Int,.one (dV .i64),λ_=>True,λ_=> .sb false⟩
theorem h334:Holds Tryz.prog Ky:=by
 refine cF (L:=[]) Ky lk (by simp) ?_;rintro(x:Int) -;refine bN ((γD (decide (x≠x))).same (γD false)) (by kernel_rfl) ?_;simp_all
def yw (x y:Int):Int:=if x<y then -1 else if y<x then 1 else 0
def Kz:bL:=⟨128,Int×Int,.cons (dV .i64) (.one (dV .i64)),λ_=>True,λa=> .si .i64 (yw a.1 a.2)⟩
theorem h321:Holds Tryz.prog Kz:=by
 refine cF (L:=[Ky]) Kz lk (by grind[h334]) ?_;rintro⟨x,y⟩ -;refine bN (let b:=γp .i64;let c:=γp .i64 0;let a:=Θ .i64 (yw x y);True/\True/\(false=true->(false=true->(b 0).same a)/\(false=false->(b (-1:Int)).same a))/\(false=false->(false=true->(b 1).same a)/\(false=false->(decide (x<y)=true->(b (-1:Int)).same a)/\(decide (x<y)=false->(decide (y<x)=true->(b 1).same a)/\(decide (y<x)=false->(b 0).same a))))) (by kernel_rfl) ?_;simp_all[yw,if_neg]
def wb (b:bz):Int:=b.a0+b.a1+b.a2+b.a3+b.a4+b.a5
def KA:bL:=⟨129,bz,.one (eG .eD),λb=>b.ok=true,λb=> .si .i64 (wb b)⟩
theorem h322:Holds Tryz.prog KA:=by
 refine cF (L:=[]) KA (λ_ _=> .pO 7) (by simp) ?_;rintro(b:bz) (h:b.ok=true);have h:=bz.eL.1 h;refine bN (let d:=bV .i64;let a:=(0:Int)+b.a0+b.a1;let c:=a+b.a2+b.a3+b.a4;d ((0:Int)+b.a0)/\d a/\d (a+b.a2)/\d (a+b.a2+b.a3)/\d c/\d (c+b.a5)/\(Θ .i64 (c+b.a5)).same (Θ .i64 (wb b))) (by kernel_rfl) ?_;simp only[vcs];unfold wb;omega
def oI (p:bp) (i:Int):Off:=bj p.offers i.toNat bk.off.dflt
def rT (p:bp) (i:Int):Int:=(oI p i).value
def qc (p:bp) (i:Int):Int:=wb (oI p i).want
def bM (p:bp) (i:Int):Int:=rT p i*(5354228880 / qc p i)
def iz (p:bp) (i:Int):Prop:=0<=i/\i<p.offers.length
theorem AP {p:bp} (b:bC p=0) {i:Int} (h:iz p i):(1<=rT p i/\rT p i<=1000000)/\(1<=qc p i/\qc p i<=24)/\(oI p i).want.ok=true:=by
 obtain⟨j,k⟩:=h;have c:=cK (d:=bk.off.dflt) (show i.toNat<p.offers.length by omega);have a:=(dm b).2.2.2.2 _ c;have g:=(xI ((qI b).2 _ c)).2.1;have e:=bz.eL.1 a.2.2.1;have f:¬((oI p i).want.a0=0/\(oI p i).want.a1=0/\(oI p i).want.a2=0/\(oI p i).want.a3=0/\(oI p i).want.a4=0/\(oI p i).want.a5=0):=λh=>g (Df.2 h);have e:(0<=(oI p i).want.a0/\(oI p i).want.a0<=4)/\(0<=(oI p i).want.a1/\(oI p i).want.a1<=4)/\(0<=(oI p i).want.a2/\(oI p i).want.a2<=4)/\(0<=(oI p i).want.a3/\(oI p i).want.a3<=4)/\(0<=(oI p i).want.a4/\(oI p i).want.a4<=4)/\(0<=(oI p i).want.a5/\(oI p i).want.a5<=4):=e;refine⟨⟨a.2.2.2.1,a.2.2.2.2⟩,?_,a.2.2.1⟩;unfold qc wb;omega
theorem TK {t:Int} (a:1<=t) (b:t<=24):t*(5354228880 / t)=5354228880/\1<=5354228880 / t:=by
 have:t=1\/t=2\/t=3\/t=4\/t=5\/t=6\/t=7\/t=8\/t=9\/t=10\/t=11\/t=12\/t=13\/t=14\/t=15\/t=16\/t=17\/t=18\/t=19\/t=20\/t=21\/t=22\/t=23\/t=24:=by omega
 rcases this with rfl|rfl|rfl|rfl|rfl|rfl|rfl|rfl|rfl|rfl|rfl|rfl|rfl|rfl|rfl|rfl|rfl|rfl|rfl|rfl|rfl|rfl|rfl|rfl<;>decide
theorem ac9 {p:bp} (g:bC p=0) {x y:Int} (j:iz p x) (i:iz p y):bM p x<bM p y↔rT p x*qc p y<rT p y*qc p x:=by
 obtain⟨m,e,_⟩:=AP g j;obtain⟨u,f,_⟩:=AP g i;obtain⟨v,q⟩:=TK e.1 e.2;obtain⟨o,r⟩:=TK f.1 f.2;unfold bM;generalize 5354228880 / qc p x=d at*;generalize 5354228880 / qc p y=c at*;generalize rT p x=a at*;generalize rT p y=b at*;generalize qc p x=s at*;generalize qc p y=t at*;have k:0<d*c:=εu (by omega) (by omega);have l:(a*t)*(d*c)=(a*d)*5354228880:=by grind
 have n:(b*s)*(d*c)=(b*c)*5354228880:=by grind
 constructor
 ·intro h;have:(a*t)*(d*c)<(b*s)*(d*c):=by omega
  exact Int.lt_of_mul_lt_mul_right this (by omega)
 ·intro h;have:(a*t)*(d*c)<(b*s)*(d*c):=γ0 h k;omega
def s7 (p:bp) (x y:Int):Int:=yw (rT p y*qc p x) (rT p x*qc p y)
theorem TL {p:bp} (a:bC p=0) {x y:Int} (c:iz p x) (b:iz p y):s7 p x y<0↔bM p y<bM p x:=by
 rw[ac9 a b c];grind[s7,yw]
def EJ:cZ where
 f:=127;α:=Int×Int×bp;put a:=[.si .i64 a.1,.si .i64 a.2.1,.ptr 0 0 20];st a:=[.cells a.2.2.ss 27 20 false];dec v o:=match v,o with
  |[x,y,.ptr 0 0 20],[.cells cs 27 20 false]=>match x.int .i64,y.int .i64,sK cs with
   |some x,some y,some p=>some (x,y,p)
   |_,_,_=>none
  |_,_=>none;ok v o a h:=by
  split at h
  ·split at h
   ·rename_i h1 h2 h3;simp only[γ] at h;subst h;refine⟨by simp only[gL,gU h1,gU h2];rfl,?_⟩;simp only[gO,ι,γt,bq.g,vH h3]
   ·cases h
  ·cases h
 inj a b h1 h2:=by
  simp only[gL,ξ,and_true,SV.g,γX,Value.int.injEq,true_and] at h1;simp only[gO,ι,γt,bq.g,ξ,bP.cells.injEq,and_true] at h2;have h3:=cY.inj a.2.2 b.2.2 (by simp only[cY,SV.g,h2]);exact δ5 h1.1 (δ5 h1.2 h3)
 dom a:=bC a.2.2=0/\iz a.2.2 a.1/\iz a.2.2 a.2.1;res a:=.si .i64 (s7 a.2.2 a.1 a.2.1);out a:=[.cells a.2.2.ss 27 20 false]
theorem h320:dK Tryz.prog EJ:=by
 refine jm (L:=[KA,Kz]) (W:=[]) EJ lk (by simp) (by grind[h322,h321]) ?_;rintro⟨x,y,p⟩ ⟨f,e,c⟩;refine bN (let a:=bk.off.dflt;let d:=p.offers.length;let g:=bj p.offers x.toNat a;let h:=bj p.offers y.toNat a;let k:=h.value*wb g.want;let l:=g.value*wb h.want;let j:=bq.cells (bp.ss p) 27 20 false;(0:Int)<=x/\x<(↑d:Int)/\x.toNat<d/\(0:Int)<=y/\y<(↑d:Int)/\y.toNat<d/\g.want.ok=true/\bV .i64 k/\h.want.ok=true/\bV .i64 l/\True/\(Θ .i64 (yw k l)).same (Θ .i64 (s7 p x y))/\j.same j/\True) (by kernel_rfl) ?_;simp only[vcs];have f:bC p=0:=f;have e:iz p x:=e;have c:iz p y:=c;obtain⟨s,w,q⟩:=AP f e;obtain⟨m,A,z⟩:=AP f c;obtain⟨o,n⟩:=e;obtain⟨B,r⟩:=c;have i:∀{v t:Int},1<=v/\v<=1000000->1<=t/\t<=24-> -9223372036854775808<=v*t/\v*t<=9223372036854775807:=λ{v t} C u=>by
  have a:=γz (show 0<=v by omega) (show 0<=t by omega);have b:=Int.mul_le_mul C.2 u.2 (by omega) (show(0:Int)<=1000000 by omega);omega
 exact⟨o,n,by omega,B,r,by omega,q,i m w,z,i s A,rfl⟩
def gw (D:Int->Int) (x y:Int):Bool:=decide (D y<D x)||(decide (D x=D y)&&decide (x<=y))
theorem pv {D:Int->Int} {x y:Int}:gw D x y=true↔D y<D x\/(D x=D y/\x<=y):=by grind[gw]
theorem TM {D:Int->Int} (a b c:Int) (d:gw D a b=true) (e:gw D b c=true):gw D a c=true:=by
 grind[pv]
theorem ada {D:Int->Int} (a b:Int):(gw D a b||gw D b a)=true:=by
 grind[pv]
theorem adb {D:Int->Int} {a b:Int} (c:gw D a b=true) (d:gw D b a=true):a=b:=by
 grind[pv]
abbrev iJ (D:Int->Int) (l:List Int):Prop:=l.Pairwise λa b=>gw D a b=true
def df (D:Int->Int) (l:List Int):List Int:=l.mergeSort (gw D)
theorem rU {D:Int->Int} {l:List Int}:(df D l).Perm l:=List.mergeSort_perm _ _
theorem wh {D:Int->Int} {l:List Int}:iJ D (df D l):=List.pairwise_mergeSort TM ada l
theorem oz {D:Int->Int} {l:List Int}:(df D l).length=l.length:=rU.length_eq
theorem yx {D:Int->Int} {l:List Int} {x:Int}:x∈df D l↔x∈l:=rU.mem_iff
theorem AQ {D:Int->Int} {l m:List Int} (e:m.Perm l) (f:iJ D m):m=df D l:=
 List.Perm.eq_of_pairwise (λa b _ _ c d=>adb c d) f wh (e.trans rU.symm)
theorem KB {D:Int->Int} {l:List Int} (h:iJ D l):df D l=l:=(AQ (ζD _) h).symm
def seg (l:List Int) (a b:Nat):List Int:=(l.drop a).take (b - a)
def di (D:Int->Int) (l:List Int) (a b:Nat):List Int:=l.take a++df D (seg l a b)++l.drop b
theorem kS {l:List Int} {a b:Nat} (c:a<=b) (d:b<=l.length):(seg l a b).length=b - a:=by
 grind[seg]
theorem KC {l:List Int} {a b:Nat} (c:a<=b) (d:b<l.length):seg l a (b+1)=seg l a b++[bj l b 0]:=by
 unfold seg;rw[show b+1 - a=(b - a)+1 by omega,List.take_succ_eq_append_getElem (by grind),List.getElem_drop];grind[cM]
theorem AS {l:List Int} {a:Nat}:seg l a a=[]:=by grind[seg]
theorem yy {D:Int->Int} {l:List Int} {a b:Nat} (c:a<=b) (d:b<=l.length):(di D l a b).length=l.length:=by
 grind[di,oz,kS]
theorem EK {l:List Int} {i:Nat} (h:i<l.length):l.drop i=bj l i 0::l.drop (i+1):=by
 simp_all[cM]
theorem KD {D:Int->Int} {l:List Int} {a:Nat}:di D l a a=l:=by
 simp_all[di,AS,df]
theorem ade {D:Int->Int} {l:List Int} {a:Nat} (h:a<l.length):di D l a (a+1)=l:=by
 have e:seg l a (a+1)=[bj l a 0]:=by grind[KC,AS]
 unfold di;rw[e,KB (by simp),List.append_assoc];simp only[List.singleton_append];rw[<-EK h,Δ]
def jw (D:Int->Int) (l:List Int) (a i j:Nat):List Int:=l.take a++((df D (seg l a i)).take (j - a)++bj l i 0::(df D (seg l a i)).drop (j - a))++l.drop (i+1)
theorem TN {D:Int->Int} {l:List Int} {a i j:Nat} (b:a<=i) (c:i<l.length):(jw D l a i j).length=l.length:=by
 grind[oz,kS,jw]
theorem TP {D:Int->Int} {l:List Int} {a i:Nat} (b:a<=i) (c:i<l.length):jw D l a i i=di D l a i:=by
 grind[oz,kS,jw,di,EK]
theorem adf {A B:List Int} {y x:Int}:((A++y::x::B).set (A.length+1) y).set A.length x=A++x::y::B:=by
 simp_all
theorem TQ {A B:List Int} {y:Int}:bj (A++y::B) A.length 0=y:=by grind[bj]
theorem TR {A B:List Int} {y x:Int}:bj (A++y::x::B) (A.length+1) 0=x:=by grind[bj]
theorem adg {D:Int->Int} {l:List Int} {a i k:Nat} (c:a+k+1<=i) (d:i<l.length):
  jw D l a i (a+k+1)=(l.take a++(df D (seg l a i)).take k)++bj (df D (seg l a i)) k 0::bj l i 0::((df D (seg l a i)).drop (k+1)++l.drop (i+1))/\
  jw D l a i (a+k)=(l.take a++(df D (seg l a i)).take k)++bj l i 0::bj (df D (seg l a i)) k 0::((df D (seg l a i)).drop (k+1)++l.drop (i+1))/\
  (l.take a++(df D (seg l a i)).take k).length=a+k:=by
 have b:=@oz D (seg l a i);rw[kS (by omega) (by omega)] at b;have e:k<(df D (seg l a i)).length:=by omega
 have g:(df D (seg l a i)).take (k+1)=(df D (seg l a i)).take k++[bj (df D (seg l a i)) k 0]:=by simp_all[cM]
 have f:(df D (seg l a i)).drop k=bj (df D (seg l a i)) k 0::(df D (seg l a i)).drop (k+1):=by simp_all[cM]
 grind[jw]
theorem TS {D:Int->Int} {l:List Int} {a i j:Nat} (g:a<j) (f:j<=i) (d:i<l.length):
  bj (jw D l a i j) j 0=bj l i 0/\bj (jw D l a i j) (j - 1) 0=bj (df D (seg l a i)) (j - 1 - a) 0/\
  ((jw D l a i j).set j (bj (df D (seg l a i)) (j - 1 - a) 0)).set (j - 1) (bj l i 0)=jw D l a i (j - 1):=by
 obtain⟨b,c,e⟩:=@adg D l a i (j - 1 - a) (by omega) d;rw[show a+(j - 1 - a)+1=j by omega] at b;rw[show a+(j - 1 - a)=j - 1 by omega] at c e;rw[b,c];generalize l.take a++(df D (seg l a i)).take (j - 1 - a)=A at*;generalize bj (df D (seg l a i)) (j - 1 - a) 0=y at*;generalize bj l i 0=x at*;grind[TR,TQ,adf]
theorem TT {D:Int->Int} {S:List Int} {x:Int} {k:Nat} (n:iJ D S) (d:∀s∈S.drop k,gw D x s=true) (b:k=0\/(k<=S.length/\gw D (bj S (k - 1) 0) x=true)):iJ D (S.take k++x::S.drop k):=by
 have a:iJ D (S.take k++S.drop k):=by simp_all
 obtain⟨g,f,i⟩:=γY.1 a;have j:∀s∈S.take k,gw D s x=true:=by
  rcases b with rfl|⟨h,b⟩;·simp
  ·intro s l;by_cases m:k=0;·simp_all
   have c:k - 1<S.length:=by omega
   have e:S.take k=S.take (k - 1)++[bj S (k - 1) 0]:=by
    conv=>lhs;rw[show k=(k - 1)+1 by omega]
    simp_all[cM]
   grind[TM]
 rw[iJ,γY];simp_all
theorem adh {S:List Int} {x:Int} {k:Nat}:(S.take k++x::S.drop k).Perm (S++[x]):=by
 refine(List.perm_middle).trans ?_;rw[Δ];grind
theorem TU {D:Int->Int} {l:List Int} {a i j:Nat} (k:a<=j) (f:j<=i) (e:i<l.length) (b:∀s∈(df D (seg l a i)).drop (j - a),gw D (bj l i 0) s=true) (g:j=a\/gw D (bj (df D (seg l a i)) (j - 1 - a) 0) (bj l i 0)=true):
  jw D l a i j=di D l a (i+1):=by
 have c:=@oz D (seg l a i);rw[kS (by omega) (by omega)] at c;have d:iJ D ((df D (seg l a i)).take (j - a)++bj l i 0::(df D (seg l a i)).drop (j - a)):=by
  refine TT wh b ?_;grind
 have h:((df D (seg l a i)).take (j - a)++bj l i 0::(df D (seg l a i)).drop (j - a)).Perm (seg l a (i+1)):=by
  rw[KC (by omega) e];exact adh.trans (List.Perm.append rU (ζD _))
 grind[jw,di,AQ]
def jy (l:List Int) (a b n:Nat):List Int:=(π l.length).map λk=>if a<=k/\k<a+n then bj l (k - a+b) 0 else if b<=k/\k<b+n then bj l (k - b+a) 0 else bj l k 0
theorem uH {l:List Int} {a b n:Nat}:(jy l a b n).length=l.length:=by simp[jy]
theorem yz {l:List Int} {a b n k:Nat} (h:k<l.length):bj (jy l a b n) k 0=if a<=k/\k<a+n then bj l (k - a+b) 0 else if b<=k/\k<b+n then bj l (k - b+a) 0 else bj l k 0:=by
 show(((π l.length).map _)[k]?).getD 0=_;simp_all
theorem adi {l:List Int} {a b:Nat}:jy l a b 0=l:=by
 apply δi uH;intro k d c;have:=@yz l a b 0 k c;simp_all[cM,if_neg]
theorem TV {l m:List Int} (a:l.length=m.length) (h:∀k,k<l.length->bj l k 0=bj m k 0):l=m:=
 δi a λk b c=>by
  grind[cM]
theorem TW {l:List Int} {i k:Nat} {v:Int} (h:k<l.length):bj (l.set i v) k 0=if i=k then v else bj l k 0:=by
 grind[bj]
theorem adj {l:List Int} {a b n:Nat} (g:a+n<b) (f:b+n<l.length):
  ((jy l a b n).set (a+n) (bj (jy l a b n) (b+n) 0)).set (b+n) (bj (jy l a b n) (a+n) 0)=jy l a b (n+1):=by
 have e:bj (jy l a b n) (a+n) 0=bj l (a+n) 0:=by rw[yz (by omega),if_neg (by omega),if_neg (by omega)]
 have d:bj (jy l a b n) (b+n) 0=bj l (b+n) 0:=by rw[yz (by omega),if_neg (by omega),if_neg (by omega)]
 rw[e,d];refine TV (by simp[uH]) λk c=>?_;simp only[List.length_set,uH] at c;rw[TW (by grind[uH]),TW (by grind[uH]),yz c,yz c];grind
theorem adk {A B:List Int} {k:Nat}:bj (A++B) k 0=if k<A.length then bj A k 0 else bj B (k - A.length) 0:=by
 grind[bj]
theorem KE {A X M Y B:List Int} (h:X.length=Y.length):jy (A++(X++(M++(Y++B)))) A.length (A.length+X.length+M.length) X.length=A++(Y++(M++(X++B))):=by
 refine TV (by simp[uH];omega) λk a=>?_;rw[uH] at a;rw[yz a];simp only[adk];grind
def rotR (l:List Int) (a m b:Nat):List Int:=l.take a++(seg l m b++(seg l a m++l.drop b))
theorem TX {l:List Int} {a m b:Nat} (g:a<=m) (f:m<=b) (e:b<=l.length):l=l.take a++(seg l a m++(seg l m b++l.drop b)):=by
 have d:l.drop a=seg l a m++l.drop m:=by
  have:=Δ (m - a) (l.drop a);rw[γV,show a+(m - a)=m by omega] at this;exact this.symm
 have c:l.drop m=seg l m b++l.drop b:=by
  have:=Δ (b - m) (l.drop m);rw[γV,show m+(b - m)=b by omega] at this;exact this.symm
 rw[<-c,<-d,Δ]
end Go.Vi
