/-
  Contracts: fractions: Mul, Div, Valid.
  Conditions: none.
-/
import Derived.Test.YtlphnffeeefcdaaGreatWC06
import Derived.Test.YtlphnffeeefcdaaGreatWC09
import Derived.Test.YtlphnffeeefcdaaGreatWC07
import Derived.Test.YtlphnffeeefcdaaGreatWC08
import Derived.Test.YtlphnffeeefcdaaGreatWC10
set_option maxRecDepth 100000
set_option maxHeartbeats 4000000
set_option linter.all false
open Go.Vi.AV.sl renaming injEq->δ4
open Go.Vi.SV renaming row->Δ,agg->γF,sb->γn,si->Ω,bl->γ0,ow->γz,ptr->γU,il->γo
open Int renaming mul_nonneg->γh,mul_pos->εh,le_of_lt->ω,natAbs_mul->εq,toNat_of_nonneg->δ6,toNat_natCast->γb
open IntCast renaming intCast->ζ
open List renaming length->Φ,length_take->γG,map_map->δn,map_congr_left->γV,length_map->γT,map_cons->φ,map_nil->γv,nodup_append->γt,range->Θ,mem_map->γf,all_eq_true->ξ,mem_range->γp,replicate->δ,ext_getElem->δc,getElem_set->εQ,getElem_map->εt,getElem_range->εH,take->τ,take_length->χ,map->γd,length_replicate->δq
open List.cons renaming injEq->Ξ
open Nat renaming mul_le_mul->ε8
open Option renaming isNone_iff_eq_none->γL
open Option.some renaming injEq->γ
open Rat renaming mkRat_eq_div->δE,mkRat_self->δY,intCast_natCast->εW,mul_nonneg->δz
namespace Go.Vi
open Go.Proofs.YtlphnffeeefcdaaGreat.Ir
open Go.Proofs
theorem TF (p q:Rat):(if(!(decide (p<0)==decide (q<0)))=true then -((p.num.natAbs:Int)*(q.num.natAbs:Int)) else(p.num.natAbs:Int)*(q.num.natAbs:Int))=p.num*q.num:=by
 have a:=vT p;have b:=vT q;grind
theorem J5 (p q:Rat):ey (!(decide (p<0)==decide (q<0))) ((p.num.natAbs:Int)*(q.num.natAbs:Int)) ((p.den:Int)*(q.den:Int))=p*q:=by
 unfold ey;rw[TF,show((p.den:Int)*(q.den:Int)).toNat=p.den*q.den by omega,δE];have a:(p.num:Rat) / (p.den:Rat)=p:=by rw[<-δE,δY]
 have b:(q.num:Rat) / (q.den:Rat)=q:=by rw[<-δE,δY]
 grind
theorem TG {p q:Rat} (a:q≠0):ey (!(decide (p<0)==decide (q<0))) ((p.num.natAbs:Int)*(q.den:Int)) ((p.den:Int)*(q.num.natAbs:Int))=p / q:=by
 unfold ey;rw[show((p.den:Int)*(q.num.natAbs:Int)).toNat=p.den*q.num.natAbs by omega,δE];have k:(p.num:Rat) / (p.den:Rat)=p:=by rw[<-δE,δY]
 have d:(q.num:Rat) / (q.den:Rat)=q:=by rw[<-δE,δY]
 have m:(p.den:Rat)≠0:=by have:=p.den_nz;simp_all
 have o:(q.den:Rat)≠0:=by grind
 have e:=vT p;have g:=vT q;have n:(q.num:Rat)≠0:=λh=>a (by grind);rw[Rat.natCast_mul];conv=>rhs;rw[<-k,<-d]
 have f:((p.num.natAbs:Int):Rat)=(p.num.natAbs:Rat):=εW _;have c:((q.num.natAbs:Int):Rat)=(q.num.natAbs:Rat):=εW _;have i:((q.den:Int):Rat)=(q.den:Rat):=εW _;have j:(p.num:Rat)=if decide (p<0)=true then -(p.num.natAbs:Rat) else(p.num.natAbs:Rat):=by
  rw[<-f];conv=>lhs;rw[e]
  split<;>grind
 have b:(q.num:Rat)=if decide (q<0)=true then -(q.num.natAbs:Rat) else(q.num.natAbs:Rat):=by
  rw[<-c];conv=>lhs;rw[g]
  split<;>grind
 have l:((if(!(decide (p<0)==decide (q<0)))=true then -((p.num.natAbs:Int)*(q.den:Int)) else(p.num.natAbs:Int)*(q.den:Int):Int):Rat)=if(!(decide (p<0)==decide (q<0)))=true then -((p.num.natAbs:Rat)*(q.den:Rat)) else(p.num.natAbs:Rat)*(q.den:Rat):=by
  split<;>grind
 grind
def A6:bL:=⟨172,bM×bM,.cons (dZ sF) (.one (dZ sF)),λa=>cF a.1/\cF a.2,λa=>lr (bK a.1*bK a.2)⟩
theorem h410:Holds Tryz.prog A6:=by
 refine cq (L:=[x7,yc]) A6 lk (by grind[h153,h126]) ?_;rintro⟨x,y⟩ ⟨⟨p,i,n,f,M⟩,⟨q,j,o,l,G⟩⟩;simp only at n o;subst n o;refine bQ (let f:=Δ;let c:=(bu p).snd.fst;let k:=(bu q).snd.fst;let g:=(bu p).snd.snd;let h:=(bu q).snd.snd;let m:=bO (bq c*bq k);let b:=bO (bq g*bq h);let d:=bu (ey (!(bu p).fst==(bu q).fst) (bq m) (bq b));let a:=bw.i .u32;let e:=bu (bK (bu p)*bK (bu q));((bB c/\bB k)/\Φ c<=100000000000/\Φ k<=100000000000)/\((bB g/\bB h)/\Φ g<=100000000000/\Φ h<=100000000000)/\((bB m/\bB b)/\(m.length<=1000000000/\b.length<=1000000000)/\(0:Int)<bq b)/\(γF [γn d.fst,f a d.snd.fst,f a d.snd.snd]).same (γF [γn e.fst,f a e.snd.fst,f a e.snd.snd])) (by kernel_rfl) ?_;conv=>zeta
 obtain⟨t,⟨P,_,s⟩,⟨E,_,v⟩⟩:=jg p;obtain⟨u,⟨J,_,z⟩,⟨I,_,A⟩⟩:=jg q;obtain⟨D,F⟩:=lM f;obtain⟨O,N⟩:=lM l;have C:=p.den_pos;have K:=q.den_pos;rw[s,v,z,A,t,u,dU,dU];have r:0<=(p.num.natAbs:Int)*(q.num.natAbs:Int):=γh (by omega) (by omega);have w:0<(p.den:Int)*(q.den:Int):=εh (by omega) (by omega);have H:=jv r (nB (by omega) f.1 l.1);have B:=jv (ω w) (nB (by omega) f.2 l.2);grind[ec,uy,J5]
def EE:bL:=⟨184,bM×bM,.cons (dZ sF) (.one (dZ sF)),λa=>(cF a.1/\cF a.2)/\bK a.2≠0,λa=> .bN [lr (bK a.1 / bK a.2),.si .i64 0]⟩
theorem h416:Holds Tryz.prog EE:=by
 refine cq (L:=[x7,Au]) EE lk (by grind[h153,h151]) ?_;rintro⟨x,y⟩ ⟨⟨⟨p,i,v,f,X⟩,⟨q,j,u,m,Q⟩⟩,a⟩;simp only at v u a;subst v u;refine bQ (let a:=Δ;let g:=(bu p).snd.fst;let d:=(bu q).snd.snd;let r:=(bu p).snd.snd;let e:=(bu q).snd.fst;let k:=bO (bq g*bq d);let c:=bO (bq r*bq e);let l:=bu (ey (!(bu p).fst==(bu q).fst) (bq k) (bq c));let b:=bw.i .u32;let t:=[Ω .i64 0];let o:=bu (bK (bu p) / bK (bu q));((bB g/\bB d)/\Φ g<=100000000000/\Φ d<=100000000000)/\((bB r/\bB e)/\Φ r<=100000000000/\Φ e<=100000000000)/\((bB k/\bB c)/\(k.length<=1000000000/\c.length<=1000000000)/\(0:Int)<bq c)/\(SV.bN (γF [γn l.fst,a b l.snd.fst,a b l.snd.snd]::t)).same (SV.bN (γF [γn o.fst,a b o.snd.fst,a b o.snd.snd]::t))) (by kernel_rfl) ?_;conv=>zeta
 rw[dU] at a;obtain⟨E,⟨C,_,M⟩,⟨K,_,I⟩⟩:=jg p;obtain⟨B,⟨z,_,J⟩,⟨F,_,A⟩⟩:=jg q;obtain⟨V,O⟩:=lM f;obtain⟨S,W⟩:=lM m;have T:=p.den_pos;have Z:=q.den_pos;have R:q.num≠0:=λh=>a (Rat.num_eq_zero.1 h);rw[M,I,J,A,E,B,dU,dU];have s:0<=(p.num.natAbs:Int)*(q.den:Int):=γh (by omega) (by omega);have n:0<(p.den:Int)*(q.num.natAbs:Int):=εh (by omega) (by omega);have Y:=jv s (nB (by omega) f.1 m.2);have N:=jv (ω n) (nB (by omega) f.2 m.1);obtain⟨G,H,P⟩:=ec s;obtain⟨w,D,U⟩:=ec (ω n);rw[G,w,TG a];refine⟨⟨⟨C,F⟩,?_,?_⟩,⟨⟨K,z⟩,?_,?_⟩,⟨⟨H,D⟩,⟨?_,?_⟩,n⟩,rfl⟩<;>omega
def J6:bL:=⟨149,List Int,.one (cV (.i .u32)),λa=>bB (show List Int from a)/\(show List Int from a).length<=1000000000,λa=> .sb (mq a)⟩
theorem h414:Holds Tryz.prog J6:=by
 refine cq (L:=[rF]) J6 lk (by grind[h152]) ?_;rintro(a:List Int) h;refine bQ (a.length<=1000000000000/\(γn (decide ((↑(bR a).length:Int)=(↑a.length:Int)))).same (γn (mq a))) (by kernel_rfl) ?_;simp only[vcs];obtain⟨f,d⟩:bB a/\a.length<=1000000000:=h;refine⟨by omega,?_⟩;cases c:mq a with
 |true=>
  grind[qH,sO,ot];|false=>
  refine decide_eq_false λb=>?_;have e:bR a=a:=by
   unfold bR at b ⊢;rw[γG] at b;exact List.take_of_length_le (by omega)
  grind[rH,ot]
def J7:bL:=⟨150,bM,.one (dZ sF),λx=>x.2.1.length<=1000000000,λx=> .agg [.sb x.1,.sb (decide (x.2.1=[]))]⟩
theorem h415:Holds Tryz.prog J7:=by
 refine cq (L:=[]) J7 lk (by simp) ?_;rintro⟨s,n,d⟩ h;refine bQ (let a:=γn;(γF [a s,a (decide ((↑n.length:Int)=(0:Int)))]).same (γF [a s,a (decide (n=[]))])) (by kernel_rfl) ?_;have e:decide ((n.length:Int)=0)=decide (n=[]):=by
  simp_all
 rw[e];rfl
def uE:bL:=⟨114,bM,.one (dZ sF),λx=>(bB x.2.1/\bB x.2.2)/\x.2.1.length<=10000000/\x.2.2.length<=10000000,λx=> .sb (okF x)⟩
theorem h407:Holds Tryz.prog uE:=by
 refine cq (L:=[J6,J7,DY,xY,xX]) uE lk (by grind[h414,h415,h165g,h128,h132]) ?_;rintro⟨s,n,d⟩ ⟨⟨m,f⟩,j,k⟩;refine bQ (let a:=γ0 false;let b:=(0:Int);let c:=(1:Int);let l:=γn (okF (s,n,d));let w:=decide ((↑d.length:Int)=b);let x:=s==true&&(decide (n=[])==true&&true);let p:=bO (dV (bq n) (bq d));let t:=bO c;(bB n/\n.length<=1000000000)/\((!mq n)=true->(a).same l)/\((!mq n)=false->(bB d/\d.length<=1000000000)/\((!mq d)=true->(a).same l)/\((!mq d)=false->(w=true->(a).same l)/\(w=false->n.length<=1000000000/\(x=true->(a).same l)/\(x=false->((bB n/\bB d)/\n.length<=1000000000/\d.length<=1000000000)/\(b<=c/\c<(18446744073709551616:Int))/\((bB p/\bB t)/\p.length<=1000000000000/\t.length<=1000000000000)/\(γn (decide (iI (bq p) (bq t)=b))).same l))))) (by kernel_rfl) ?_;simp only[vcs];have m:bB n:=m;have f:bB d:=f;have j:n.length<=10000000:=j;have k:d.length<=10000000:=k;have c:¬(dS n/\dS d/\d≠[])->false=okF (s,n,d):=λh=>by
  grind[RY]
 have e:∀{a:List Int},((a.length:Nat):Int)=0->a=[]:=λh=>List.eq_nil_of_length_eq_zero (by omega);have b:∀{a:List Int},¬((a.length:Nat):Int)=0->a≠[]:=λh i=>h (by rw[i];rfl);refine⟨⟨m,by omega⟩,λu=>c λh=>?_,λu=>⟨⟨f,by omega⟩,λi=>c λh=>?_,λi=>⟨λo=>c λh=>h.2.2 (e o),λo=>⟨by omega,λC=>?_,λC=>?_⟩⟩⟩⟩;·grind[ot]
 ·grind[ot]
 all_goals
  have E:=okF_eq (s:=s) m f (ot.1 u) (ot.1 i) (b o);have D:=Eg f (ot.1 i) (b o);have J:=@Jm (bq n) (bq d) D;obtain⟨H,v,A⟩:=ec (show 0<=dV (bq n) (bq d) by omega);obtain⟨B,G,I⟩:=ec (show(0:Int)<=1 by omega);have y:dV (bq n) (bq d)<=bq d:=by
   unfold dV;have:=Nat.gcd_le_right (bq n).toNat (show 0<(bq d).toNat by omega);omega
  rw[E]
 ·simp_all
 ·have F:=vP v f A (by omega);refine⟨⟨⟨m,f⟩,by omega,by omega⟩,by omega,⟨⟨v,G⟩,by omega,by decide⟩,?_⟩;rw[H,B];have r:(iI (dV (bq n) (bq d)) 1=0)=(dV (bq n) (bq d)=1):=by
   grind[iI]
  simp only[r];by_cases g:n=[]
  ·rw[if_pos g];have z:s=false:=by
    simp_all
   have q:dV (bq n) (bq d)=bq d:=by
    rw[g];unfold dV;simp[bq];omega
   rw[q,z,Bool.not_false,Bool.true_and,decide_eq_decide];constructor
   ·intro h;rw[<-sO f (ot.1 i),h];rfl
   ·intro h;rw[h];rfl
  ·rw[if_neg g]
theorem rO {p q:Rat} {i j:Nat} (b:Sz i p) (a:Sz j q):Sz (i+j) (p*q):=by
 rw[<-J5];unfold ey;rw[TF];have c:=p.den_pos;have d:=q.den_pos;have e:0<(p.den:Int)*(q.den:Int):=εh (by omega) (by omega);refine As (by omega) ?_ ?_
 ·rw[εq,Int.natCast_mul];exact nB (by omega) b.1 a.1
 ·rw[δ6 (by omega)];exact nB (by omega) b.2 a.2
theorem J8 {p q:Rat} {i j:Nat} (c:Sz i p) (b:Sz j q) (d:q≠0):Sz (i+j) (p / q):=by
 rw[<-TG d];unfold ey;have e:=p.den_pos;have f:=q.den_pos;have l:q.num≠0:=λh=>d (Rat.num_eq_zero.1 h);have k:0<(p.den:Int)*(q.num.natAbs:Int):=εh (by omega) (by omega);have g:=nB (a:=(p.num.natAbs:Int)) (by omega) c.1 b.2;refine As (by omega) ?_ ?_;·grind
 ·rw[δ6 (by omega)];exact nB (by omega) c.2 b.1
theorem adb {p q:Rat}:0<gI p q↔q<p:=by
 grind[gI]
theorem ade {p q:Rat}:gI p q=0↔p=q:=by
 grind[gI]
def fL (l:List Rat):List bM:=l.map bu
def fM (l:List (List Rat)):List (List bM):=l.map fL
def vL (l:List bM):List Rat:=l.map bK
theorem jY (l:List Rat):vL (fL l)=l:=by
 unfold vL fL;rw[δn];conv=>rhs;rw[<-List.map_id l]
 exact γV λq _=>dU q
theorem ji (x:bM):(x.1,x.2.1,x.2.2)=x:=rfl
theorem fy {l:List Rat}:(fL l).length=l.length:=γT _
theorem J9 {l:List (List Rat)}:(fM l).length=l.length:=γT _
theorem jj {l:List Rat} {i:Nat} (h:i<l.length) {d:bM}:bp (fL l) i d=bu (bp l i 0):=by
 grind[dj,fL]
theorem Ko {l:List (List Rat)} {i:Nat} (h:i<l.length) {d:List bM}:bp (fM l) i d=fL (bp l i []):=by
 grind[dj,fM]
structure nI where
 n:Int
 m:Int
 k0:Nat
 k1:Nat
 k3:Nat
 k4:Nat
 cz:List (List bM)
 bound:List bM
 cost:List bM
 v:bM
 basic:List Int
 free:List Int
def nI.gW (x:nI):cu:=
 [.cells [.si .i64 x.n,.si .i64 x.m,.ow 1 x.k0 1,.ow 2 x.k1 3,.row sF x.cost,.sb x.v.1,.row (.i .u32) x.v.2.1,.row (.i .u32) x.v.2.2,.ow 3 x.k3 1,.ow 4 x.k4 1] 219 10 false,
  .row (.bP sF) x.cz 66 false,.row sF x.bound 126 false,.row (.i .i64) x.basic 3 false,.row (.i .i64) x.free 3 false]
def EF:cu->Option nI
 |[.cells [a,b,.ow 1 k 1,.ow 2 r 3,c,m,h,p,.ow 3 s 1,.ow 4 n 1] 219 10 false,.row q g 66 false,.row j e 126 false,.row o d 3 false,.row l f 3 false]=>
  match a.int .i64,b.int .i64,jH sF c,jU sF [m,h,p] with
  |some a,some b,some c,some v=>match iF q (.bP sF) g,iF j sF e,iF o (.i .i64) d,iF l (.i .i64) f with
   |some g,some e,some d,some f=>some ⟨a,b,k,r,s,n,g,e,c,v,d,f⟩
   |_,_,_,_=>none
  |_,_,_,_=>none
 |_=>none
theorem adf {o:cu} {x:nI} (h:EF o=some x):gO o=gO x.gW:=by
 unfold EF at h;split at h
 ·split at h
  ·rename_i p l c e;split at h
   ·rename_i n j k m;simp only[γ] at h;subst h;obtain⟨rfl,f⟩:=mM n;obtain⟨rfl,b⟩:=mM j;obtain⟨rfl,d⟩:=mM k;obtain⟨rfl,i⟩:=mM m;cases f;cases b;cases d;cases i;have a:=nU e;simp only[φ,γv,dC,dI,Ξ,and_true,List.nil_append,List.cons_append] at a;simp only[nI.gW,gO,φ,γv,bA.g,gL,iP p,iP l,oZ c,SV.g];simp only[a];rfl
   ·cases h
  ·cases h
 ·cases h
theorem pr {s:bw} {a b:List s.T} (h:cM s a=cM s b):a=b:=by
 by_cases d:s.sz=0;·exact absurd d (by
   have:∀s:bw,0<s.sz:=λs=>by
    induction s<;>simp only[bw.sz]<;>omega
   grind)
 ·have c:=congrArg Φ h;rw[ff,ff] at c;exact lG s (Nat.eq_of_mul_eq_mul_right (by omega) c) h
theorem adg {x y:nI} (h:gO x.gW=gO y.gW):x=y:=by
 obtain⟨n,m,B,M,G,J,c,b,g,⟨I,K,F⟩,D,C⟩:=x;obtain⟨H,L,a,p,r,l,N,E,A,⟨k,w,q⟩,j,u⟩:=y;simp only[nI.gW,gO,φ,γv,bA.g,gL,SV.g,Ξ,bW.cells.injEq,and_true,true_and,AV.sc.injEq,Value.int.injEq,Value.bool.injEq,AV.os.injEq,δ4] at h;obtain⟨⟨rfl,rfl,⟨rfl,_⟩,⟨rfl,_⟩,⟨_,d⟩,rfl,⟨_,v⟩,⟨_,e⟩,⟨rfl,_⟩,⟨rfl,_⟩⟩,f,t,o,z⟩:=h;rw[pr (s:=sF) d,pr (s:=.i .u32) v,pr (s:=.i .u32) e,pr (s:=.bP sF) f,pr (s:=sF) t,pr (s:=.i .i64) o,pr (s:=.i .i64) z]
abbrev bJ (n m:Int) (t:Tb):nI:=⟨n,m,t.cz.length,t.bound.length,t.basic.length,t.free.length,fM t.cz,fL t.bound,fL t.cost,bu t.value,t.basic,t.free⟩
def nI.t (x:nI):Tb:=⟨x.cz.map vL,vL x.bound,vL x.cost,bK x.v,x.basic,x.free⟩
theorem sX {n m:Int} {t:Tb}:(bJ n m t).t=t:=by
 have e:(fM t.cz).map vL=t.cz:=by
  unfold fM;rw[δn];conv=>rhs;rw[<-List.map_id t.cz]
  exact γV λq _=>jY q
 simp_all[nI.t,jY,dU]
theorem adh (x:nI):(⟨x.n,x.m,x.k0,x.k1,x.k3,x.k4,x.cz,x.bound,x.cost,(x.v.1,x.v.2.1,x.v.2.2),x.basic,x.free⟩:nI)=x:=rfl
theorem TI {n m:Int} {t:Tb}:(bJ n m t).n=n:=rfl
theorem TJ {n m:Int} {t:Tb}:(bJ n m t).m=m:=rfl
def wq (k:Nat) (t:Tb):Prop:=(∀l∈t.cz,∀q∈l,Sz k q)/\(∀q∈t.bound,Sz k q)/\(∀q∈t.cost,Sz k q)/\Sz k t.value
def kV (n m:Int) (t:Tb):Prop:=((0<=n/\n<=1000)/\(0<=m/\m<=1000))/\t.WF n.toNat m.toNat/\wq 1000000 t
def uF (f:FuncId) (c:Type) (A:qB c) (i:Int->Int->Tb->c->Prop) (e:Int->Int->Tb->c->SV) (out:Int->Int->Tb->c->Tb):dD where
 f:=f;α:=nI×c;put a:=.ptr 0 0 10::A.put a.2;st a:=a.1.gW;dec v o:=match v with
  | .ptr 0 0 10::r=>match EF o,A.dec r with
   |some s,some b=>some (s,b)
   |_,_=>none
  |_=>none;ok v o a h:=by
  split at h
  ·split at h
   ·rename_i d g;simp only[γ] at h;subst h;exact⟨by simp only[gL,A.ok _ _ g],adf d⟩
   ·cases h
  ·cases h
 inj a b d g:=by
  simp only[gL,Ξ,true_and] at d;exact Prod.ext (adg g) (A.inj _ _ d)
 dom a:=∃n m t,a.1=bJ n m t/\kV n m t/\i n m t a.2;res a:=e a.1.n a.1.m a.1.t a.2;out a:=(bJ a.1.n a.1.m (out a.1.n a.1.m a.1.t a.2)).gW
theorem dP {q:Rat} {k:Nat} (h:Sz k q) (a:k<=100000000):cF (bu q):=⟨q,k,rfl,h,a⟩
section
variable {n m:Int} {t:Tb}
theorem kV.cf (h:kV n m t) {i j:Nat} (a:i<m.toNat) (c:j<n.toNat):Sz 1000000 (t.cf i j):=by
 have b:=dn (l:=t.cz) (d:=[]) (show i<t.cz.length by rw[h.2.1.cz];exact a);exact h.2.2.1 _ b _ (dn (by rw[h.2.1.row i a];exact c))
theorem kV.bd (h:kV n m t) {i:Nat} (a:i<m.toNat):Sz 1000000 (t.bd i):=h.2.2.2.1 _ (dn (by rw[h.2.1.bound];exact a))
theorem kV.cs (h:kV n m t) {j:Nat} (a:j<n.toNat):Sz 1000000 (t.cs j):=h.2.2.2.2.1 _ (dn (by rw[h.2.1.cost];exact a))
end
theorem rP {q:Rat}:0<gG q↔0<q:=by
 grind[gG]
theorem Kp {q:Rat}:gG q=0↔q=0:=by
 grind[gG]
theorem A7 {q:Rat}:gG q<0↔q<0:=by
 grind[gG]
def Kq:dD:=uF 173 Unit .nil (λ_ _ _ _=>True) (λn _ t _=> .si .i64 (eG t n.toNat)) (λ_ _ t _=>t)
def adi (n m:Int) (t:Tb):Nat->cC
 |3=> .inv Int (λj=>⟨[(0,.ptr 0 0 10),(3,.si .i64 (eG t j.toNat)),(9,.ow 4 t.free.length 1),(10,.si .i64 t.free.length),(11,.si .i64 j)],(bJ n m t).gW⟩)
   (λs=>iS s 11) (λj=>0<=j/\j<=n) (λj=>(n - j).toNat) λ_ _=> .look
 |_=> .look
theorem h411:eu Tryz.prog Kq:=by
 refine lp (L:=[sQ]) (W:=[]) Kq (λa=>adi a.1.n a.1.m a.1.t) (by simp) (by grind[h99]) ?_;rintro⟨x,u⟩ ⟨n,m,t,T,B, -⟩;simp only at T;subst T;refine bQ (let a:=Ω .i64;let j:=(0:Int);let k:=bA.row;let B:=γz;let K:=Δ;let w:=γU 0 0 10;let y:=(bJ n m t).t;let S:=B 4 (bJ n m t).k4 1;let D:=y.free.length;let F:=B 4 D 1;let z:=a (↑D:Int);let o:=(bJ n m t).n;let O:=bw.i .u32;let b:=bJ o (bJ n m t).m y;let s:=bA.cells [a b.n,a b.m,B 1 b.k0 1,B 2 b.k1 3,K sF b.cost,γn b.v.fst,K O b.v.snd.fst,K O b.v.snd.snd,B 3 b.k3 1,B 4 b.k4 1] 219 10 false;let g:=k sF.bP b.cz 66 false;let h:=k sF b.bound 126 false;let q:=bw.i .i64;let f:=k q b.basic 3 false;let e:=k q b.free 3 false;let d:=b.free.length;(((w.same w/\(γo .i64 (-1:Int)).same (a (eG y 0))/\S.same F/\(a (↑(bJ n m t).k4:Int)).same z/\(γo .i64 0).same (a 0)/\True)/\(bA.cells [a o,a (bJ n m t).m,B 1 (bJ n m t).k0 1,B 2 (bJ n m t).k1 3,K sF (bJ n m t).cost,γn (bJ n m t).v.fst,K O (bJ n m t).v.snd.fst,K O (bJ n m t).v.snd.snd,B 3 (bJ n m t).k3 1,S] 219 10 false).same s/\(k sF.bP (bJ n m t).cz 66 false).same g/\(k sF (bJ n m t).bound 126 false).same h/\(k q (bJ n m t).basic 3 false).same f/\(k q (bJ n m t).free 3 false).same e/\True)/\j<=j/\j<=o)/\∀(x:Int),let c:=x+(1:Int);let l:=eG y x.toNat;let M:=a l;let N:=a (eG y c.toNat);let p:=a c;let r:=bp b.cost x.toNat sF.dflt;let I:=(r.fst,r.snd.fst,r.snd.snd);let G:=decide (x<(↑D:Int));let E:=decide (l<j);let H:=decide (bp b.free x.toNat j<bp b.free l.toNat j);let A:=bU .i64 c/\((w.same w/\M.same N/\F.same F/\z.same z/\p.same p/\True)/\s.same s/\g.same g/\h.same h/\f.same f/\e.same e/\True)/\(j<=c/\c<=o)/\(o - c).toNat<(o - x).toNat;let C:=bU .i64 c/\((w.same w/\(a x).same N/\F.same F/\z.same z/\p.same p/\True)/\s.same s/\g.same g/\h.same h/\f.same f/\e.same e/\True)/\(j<=c/\c<=o)/\(o - c).toNat<(o - x).toNat;let J:=λ(u:Bool) ↦decide (j<gG (bK I))=u;j<=x/\x<=o->(G=true->D=d/\j<=x/\x<(↑d:Int)/\D=d/\x.toNat<d/\j<=x/\x<(↑b.cost.length:Int)/\x.toNat<b.cost.length/\cF I/\(J true->(E=true->C)/\(E=false->b.k4=d/\j<=l/\l<(↑d:Int)/\b.k4=d/\l.toNat<d/\(H=true->C)/\(H=false->A)))/\(J false->A))/\(G=false->M.same (a (eG y o.toNat))/\s.same s/\g.same g/\h.same h/\f.same f/\e.same e/\True)) (by kernel_rfl) ?_;simp only[sX];try simp only[bJ]
 simp only[vcs];obtain⟨⟨⟨n0,n1⟩,m0,m1⟩,P,hz⟩:=id B;have Z:=P.free;have a0:=P.cost;have V:=@fy t.cost;refine⟨⟨rfl,by omega,by omega⟩,?_⟩;rintro j ⟨Q,j1⟩;have U:eG t (j+1).toNat=if 0<t.cs j.toNat/\(eG t j.toNat<0\/t.fv j.toNat<t.fv (eG t j.toNat).toNat) then(j.toNat:Int) else eG t j.toNat:=by
  rw[show(j+1).toNat=j.toNat+1 by omega];rfl
 have hb:eG t j.toNat<j.toNat:=by
  grind[uD]
 refine⟨λR=>?_,λR=>by grind⟩;have hc:bp (fL t.cost) j.toNat sF.dflt=bu (t.cs j.toNat):=jj (by omega);simp only[hc,ji,dU,decide_eq_true_eq,decide_eq_false_iff_not,rP];have K:∀k:Nat,bp t.free k 0=t.fv k:=λk=>rfl;rw[K,K,U];refine⟨Q,R,by omega,Q,by omega,by omega,dP (B.cs (by omega)) (by omega),λhp=>⟨λY=>?_,λY=>⟨by omega,by omega,by omega,λX=>?_,λX=>?_⟩⟩,λhp=>?_⟩;all_goals grind
def nJ (t:Tb) (c k:Nat):bM:=if ei t c k<0 then(false,([],[])) else bu (t.bd (ei t c k).toNat / t.cf (ei t c k).toNat c)
def Kr:dD:=uF 174 Int (.one (ef .i64)) (λn _ _ c=>0<=c/\c<n) (λ_ m t c=> .si .i64 (ei t c.toNat m.toNat)) (λ_ _ t _=>t)
def adj (n m:Int) (t:Tb) (c:Int):Nat->cC
 |4=> .inv Int (λi=>⟨[(0,.ptr 0 0 10),(1,.si .i64 c),(5,.si .i64 (ei t c.toNat i.toNat)),(6,.ptr 5 0 3),(15,.ow 1 t.cz.length 1),(16,.si .i64 t.cz.length),(17,.si .i64 i)],(bJ n m t).gW++[.cells [.sb (nJ t c.toNat i.toNat).1,.row (.i .u32) (nJ t c.toNat i.toNat).2.1,.row (.i .u32) (nJ t c.toNat i.toNat).2.2] 126 3 false,.dead,.dead]⟩)
   (λs=>iS s 17) (λi=>0<=i/\i<=m) (λi=>(m - i).toNat) λ_ _=> .look
 |_=> .look
theorem h412:eu Tryz.prog Kr:=by
 refine lp (L:=[sQ,ye,EE]) (W:=[]) Kr (λa=>adj a.1.n a.1.m a.1.t a.2) (by simp) (by grind[h99,h97,h416]) ?_;rintro⟨x,c⟩ ⟨n,m,t,hx,H,hd⟩;simp only at hx hd;subst hx;refine bQ (let a:=Ω .i64;let b:=(0:Int);let h:=Δ;let j:=bA.cells;let k:=bA.row;let p:=γz;let q:=γn;let y:=γU 0 0 10;let J:=(bJ n m t).t;let E:=γU 5 0 3;let O:=p 1 (bJ n m t).k0 1;let H:=J.cz.length;let L:=p 1 H 1;let N:=a (↑H:Int);let G:=(bJ n m t).m;let w:=bw.i .u32;let d:=bJ (bJ n m t).n G J;let l:=j [a d.n,a d.m,p 1 d.k0 1,p 2 d.k1 3,h sF d.cost,q d.v.fst,h w d.v.snd.fst,h w d.v.snd.snd,p 3 d.k3 1,p 4 d.k4 1] 219 10 false;let D:=d.cz;let g:=k sF.bP D 66 false;let A:=d.bound;let s:=k sF A 126 false;let K:=bw.i .i64;let o:=k K d.basic 3 false;let r:=k K d.free 3 false;let T:=nJ J c.toNat 0;let c2:=sF.bP.dflt;let f:=d.basic.length;0=0/\0=0/\(((y.same y/\(a c).same (a c)/\(γo .i64 (-1:Int)).same (a (ei J c.toNat 0))/\E.same E/\O.same L/\(a (↑(bJ n m t).k0:Int)).same N/\(γo .i64 0).same (a 0)/\True)/\(j [a (bJ n m t).n,a G,O,p 2 (bJ n m t).k1 3,h sF (bJ n m t).cost,q (bJ n m t).v.fst,h w (bJ n m t).v.snd.fst,h w (bJ n m t).v.snd.snd,p 3 (bJ n m t).k3 1,p 4 (bJ n m t).k4 1] 219 10 false).same l/\(k sF.bP (bJ n m t).cz 66 false).same g/\(k sF (bJ n m t).bound 126 false).same s/\(k K (bJ n m t).basic 3 false).same o/\(k K (bJ n m t).free 3 false).same r/\(j [γ0 false,h w [],h w []] 126 3 false).same (j [q T.fst,h w T.snd.fst,h w T.snd.snd] 126 3 false)/\bA.dead.same bA.dead/\bA.dead.same bA.dead/\True)/\b<=b/\b<=G)/\∀(x:Int),let e:=x+(1:Int);let b8:=a (ei J c.toNat e.toNat);let M:=a e;let Z:=bp A x.toNat sF.dflt;let c0:=(Z.fst,Z.snd.fst,Z.snd.snd);let F:=bp D x.toNat c2;let a0:=bp F c.toNat sF.dflt;let I:=(a0.fst,a0.snd.fst,a0.snd.snd);let C:=bu (bK c0 / bK I);let V:=nJ J c.toNat e.toNat;let b0:=j [q V.fst,h w V.snd.fst,h w V.snd.snd] 126 3 false;let B:=ei J c.toNat x.toNat;let b9:=a B;let z:=nJ J c.toNat x.toNat;let b6:=(C.fst,C.snd.fst,C.snd.snd);let a3:=(z.fst,z.snd.fst,z.snd.snd);let b5:=gI (bK b6) (bK a3);let c1:=decide (x<(↑H:Int));let a8:=decide (b<=B);let a6:=decide (bp d.basic B.toNat b<bp d.basic x.toNat b);let Y:=bU .i64 e/\((y.same y/\(a c).same (a c)/\(a x).same b8/\E.same E/\L.same L/\N.same N/\M.same M/\True)/\l.same l/\g.same g/\s.same s/\o.same o/\r.same r/\(j [q C.fst,h w C.snd.fst,h w C.snd.snd] 126 3 false).same b0/\bA.dead.same bA.dead/\bA.dead.same bA.dead/\True)/\(b<=e/\e<=G)/\(G - e).toNat<(G - x).toNat;let a1:=bU .i64 e/\((y.same y/\(a c).same (a c)/\b9.same b8/\E.same E/\L.same L/\N.same N/\M.same M/\True)/\l.same l/\g.same g/\s.same s/\o.same o/\r.same r/\(j [q z.fst,h w z.snd.fst,h w z.snd.snd] 126 3 false).same b0/\bA.dead.same bA.dead/\bA.dead.same bA.dead/\True)/\(b<=e/\e<=G)/\(G - e).toNat<(G - x).toNat;let a5:=cF I;let b7:=λ(u:Bool) ↦decide (b<b5)=u;let b4:=λ(u:Bool) ↦decide (b5=b)=u;let a2:=λ(u:Bool) ↦decide (gG (bK I)<=b)=u;b<=x/\x<=G->(c1=true->H=D.length/\b<=x/\x<(↑D.length:Int)/\H=D.length/\x.toNat<D.length/\b<=c/\c<(↑F.length:Int)/\c.toNat<F.length/\a5/\(a2 true->a1)/\(a2 false->d.k1=A.length/\b<=x/\x<(↑A.length:Int)/\d.k1=A.length/\x.toNat<A.length/\b<=c/\c<(↑F.length:Int)/\c.toNat<F.length/\((cF c0/\a5)/\bK I≠(0:Rat))/\(a8=true->(cF b6/\cF a3)/\(b7 true->a1)/\(b7 false->(b4 true->d.k3=f/\b<=x/\x<(↑f:Int)/\d.k3=f/\x.toNat<f/\d.k3=f/\b<=B/\B<(↑f:Int)/\d.k3=f/\B.toNat<f/\(a6=true->a1)/\(a6=false->Y))/\(b4 false->Y)))/\(a8=false->Y)))/\(c1=false->b9.same (a (ei J c.toNat G.toNat))/\l.same l/\g.same g/\s.same s/\o.same o/\r.same r/\True)) (by kernel_rfl) ?_;simp only[sX];try simp only[bJ]
 simp only[vcs];obtain⟨⟨⟨n0,n1⟩,m0,m1⟩,hw,hz⟩:=id H;have d2:=hw.cz;have R:=hw.bound;have d6:=hw.basic;have c9:=@J9 t.cz;have d5:=@fy t.bound;have p:∀{x y:bM},x=y->(bA.cells [γn x.1,Δ (bw.i IntKind.u32) x.2.1,Δ (bw.i IntKind.u32) x.2.2] 126 3 false).same (bA.cells [γn y.1,Δ (bw.i IntKind.u32) y.2.1,Δ (bw.i IntKind.u32) y.2.2] 126 3 false):=by rintro _ _ rfl;rfl
 have c5:nJ t c.toNat 0=(false,([],[])):=rfl;refine⟨⟨⟨rfl,by rw[c5];rfl⟩,by omega,by omega⟩,?_⟩;rintro i ⟨i0,i1⟩;refine⟨λhi=>?_,λhi=>by grind⟩;have X:i.toNat<m.toNat:=by omega
 have a9:bp (fM t.cz) i.toNat sF.bP.dflt=fL (bp t.cz i.toNat []):=Ko (by omega);have d0:=hw.row i.toNat X;have d3:=@fy (bp t.cz i.toNat []);have hA:bp (fL (bp t.cz i.toNat [])) c.toNat sF.dflt=bu (t.cf i.toNat c.toNat):=jj (by omega);have hB:bp (fL t.bound) i.toNat sF.dflt=bu (t.bd i.toNat):=jj (by omega);have c7:∀k:Nat,bp t.basic k 0=t.bv k:=λk=>rfl;have U:=H.cf (i:=i.toNat) (j:=c.toNat) X (by omega);have b3:=H.bd (i:=i.toNat) X;have N:ei t c.toNat (i+1).toNat=if t.cf i.toNat c.toNat<=0 then ei t c.toNat i.toNat
  else if 0<=ei t c.toNat i.toNat/\(t.bd (ei t c.toNat i.toNat).toNat / t.cf (ei t c.toNat i.toNat).toNat c.toNat<t.bd i.toNat / t.cf i.toNat c.toNat\/(t.bd i.toNat / t.cf i.toNat c.toNat=t.bd (ei t c.toNat i.toNat).toNat / t.cf (ei t c.toNat i.toNat).toNat c.toNat/\t.bv (ei t c.toNat i.toNat).toNat<t.bv i.toNat)) then ei t c.toNat i.toNat
  else(i.toNat:Int):=by
  rw[show(i+1).toNat=i.toNat+1 by omega];rfl
 have d4:ei t c.toNat i.toNat<i.toNat:=by
  grind[wo]
 have c8:0<=ei t c.toNat i.toNat->0<t.cf (ei t c.toNat i.toNat).toNat c.toNat:=λh=>by
  rcases @wo t c.toNat i.toNat with⟨h2,_⟩|⟨b,h2,P,hp,_⟩<;>simp_all
 have Q:∀q:Rat,gG q<=0↔q<=0:=λq=>by
  have:=@rP q;grind
 simp only[a9,hA,hB,ji,dU,c7,Q,adb,ade];have a7:0<=ei t c.toNat i.toNat->nJ t c.toNat i.toNat=bu (t.bd (ei t c.toNat i.toNat).toNat / t.cf (ei t c.toNat i.toNat).toNat c.toNat):=λh=>by
  simp_all[nJ,if_neg]
 have E:(0<=i+1/\i+1<=m)/\(m - (i+1)).toNat<(m - i).toNat:=by omega
 have S:ei t c.toNat (i+1).toNat=ei t c.toNat i.toNat->nJ t c.toNat i.toNat=nJ t c.toNat (i+1).toNat:=λh=>by
  unfold nJ;rw[h]
 have c3:ei t c.toNat (i+1).toNat=(i.toNat:Int)->bu (t.bd i.toNat / t.cf i.toNat c.toNat)=nJ t c.toNat (i+1).toNat:=λh=>by
  unfold nJ;grind
 have b2:0<t.cf i.toNat c.toNat->t.cf i.toNat c.toNat≠0:=λh=>by grind
 refine⟨by omega,i0,by omega,by omega,by omega,hd.1,by omega,by omega,dP U (by omega),λd1=>?_,λa4=>?_⟩;·grind
 ·have hp:0<t.cf i.toNat c.toNat:=Rat.not_le.1 a4;rw[if_neg a4] at N;have O:=J8 b3 U (b2 hp);refine⟨by omega,i0,by omega,by omega,by omega,hd.1,by omega,by omega,⟨⟨dP b3 (by omega),dP U (by omega)⟩,b2 hp⟩,λh0=>?_,λh0=>?_⟩
  ·have hl:=a7 h0;have c6:=J8 (H.bd (i:=(ei t c.toNat i.toNat).toNat) (by omega)) (H.cf (i:=(ei t c.toNat i.toNat).toNat) (j:=c.toNat) (by omega) (by omega)) (by have:=c8 h0;grind);have c4:bK (nJ t c.toNat i.toNat)=t.bd (ei t c.toNat i.toNat).toNat / t.cf (ei t c.toNat i.toNat).toNat c.toNat:=by rw[hl,dU]
   simp only[c4];refine⟨⟨dP O (by omega),by rw[hl];exact dP c6 (by omega)⟩,λP=>?_,λP=>⟨λb1=>⟨i0,by omega,by omega,h0,by omega,by omega,λR=>?_,λR=>?_⟩,λb1=>?_⟩⟩
   ·rw[if_pos ⟨h0,.inl P⟩] at N;exact⟨by omega,⟨N.symm,p (S N)⟩,E⟩
   ·rw[if_pos ⟨h0,.inr ⟨b1,R⟩⟩] at N;exact⟨by omega,⟨N.symm,p (S N)⟩,E⟩
   ·rw[if_neg λh=>h.2.elim P λh2=>R h2.2] at N;exact⟨by omega,⟨by omega,p (c3 N)⟩,E⟩
   grind
  grind
def ez (a:Tb) (v:Int):Rat:=if v∈a.free then a.cs (a.free.idxOf v) else 0
section
variable {n m:Nat} {t t0:Tb}
theorem Run.goal (h:Run n m t0 t) {x:Int->Rat} {z:Rat} (d:t.holds n m x z):z=t0.value+(bV m (λk=>ez t0 (t.bv k)*x (t.bv k))+bV n (λj=>ez t0 (t.fv j)*x (t.fv j))):=by
 have a:∀t:Tb,t.WF n m->mB (λv=>ez t0 v*x v) (t.basic++t.free)=bV m (λk=>ez t0 (t.bv k)*x (t.bv k))+bV n (λj=>ez t0 (t.fv j)*x (t.fv j)):=λt c=>by
  rw[AY,qO,qO,c.basic,c.free];rfl
 rw[<-a t h.wf,JY h.perm,a t0 h.ox];rw[dM (n:=m) (g:=λ_=>0) λk e=>by
  unfold ez;rw[if_neg (JZ h.ox h.nd e)];grind,iU];rw[dM (n:=n) (g:=λj=>t0.cs j*x (t0.fv j)) λj b=>by
  have i:j<t0.free.length:=by rw[h.ox.free];exact b
  unfold ez;rw[if_pos (wj h.ox b),show t0.free.idxOf (t0.fv j)=j from po (γt.1 h.nd).2.1 i]];have f:=(((h.mU _ _).1 d).2);rw[f];grind
theorem Run.val (h:Run n m t0 t):t.value=t0.value+bV m λk=>ez t0 (t.bv k)*t.bd k:=by
 have a:=h.goal (asg_holds h.wf h.gq (y:=λ_=>0));rw[dM (n:=n) (f:=λj=>t.cs j*(λ_=>(0:Rat)) j) (g:=λ_=>0) λj _=>by grind,iU] at a;rw[dM (n:=n) (f:=λj=>ez t0 (t.fv j)*jz n t (λ_=>0) (t.fv j)) (g:=λ_=>0) λj c=>by rw[mT h.wf h.gq c];grind,iU] at a;rw[dM (n:=m) (g:=λk=>ez t0 (t.bv k)*t.bd k) λk b=>by
  rw[nH h.wf h.gq b,dM (g:=λ_=>0) λj _=>by grind,iU];grind] at a;grind
theorem uG {n c:Nat} {q:Rat} (d:c<n):bV n (λj=>if j=c then q else 0)=q:=by
 induction n with
 |zero=>omega;|succ n b=>
  unfold bV;by_cases h:c=n
  ·subst h;rw[if_pos rfl,dM (g:=λ_=>0) λj a=>by grind,iU];grind
  grind
theorem Ks {f g:Nat->Rat}:∀{n:Nat},bV n (λj=>f j - g j)=bV n f - bV n g
 |0=>by grind[bV];|n+1=>by simp only[bV,@Ks f g n];grind
theorem Run.adk (h:Run n m t0 t) {c:Nat} (b:c<n):t.cs c=ez t0 (t.fv c) - bV m λk=>ez t0 (t.bv k)*t.cf k c:=by
 have a:=h.goal (asg_holds h.wf h.gq (y:=λj=>if j=c then 1 else 0));rw[dM (n:=n) (f:=λj=>t.cs j*(if j=c then(1:Rat) else 0)) (g:=λj=>if j=c then t.cs c else 0) λj _=>by
  grind,uG b] at a;rw[dM (n:=n) (f:=λj=>ez t0 (t.fv j)*jz n t (λj=>if j=c then 1 else 0) (t.fv j)) (g:=λj=>if j=c then ez t0 (t.fv c) else 0) λj e=>by
  rw[mT h.wf h.gq e];grind,uG b] at a;rw[dM (n:=m) (g:=λk=>ez t0 (t.bv k)*t.bd k - ez t0 (t.bv k)*t.cf k c) λk d=>by
  rw[nH h.wf h.gq d,dM (g:=λj=>if j=c then t.cf k c else 0) λj _=>by
   grind,uG b];grind,Ks,h.val] at a;grind
end
theorem Kt {M K:Nat} {p q:Rat} (e:fi M p) (f:fi K q):fi (M*K) (p*q):=by
 obtain⟨a,rfl,d⟩:=e;obtain⟨b,rfl,c⟩:=f;exact⟨a*b,by simp_all,by rw[εq];exact ε8 d c⟩
theorem TK {M K:Nat} {p q:Rat} (d:fi M p) (c:fi K q):fi (M+K) (p+q):=by
 obtain⟨a,rfl,f⟩:=d;obtain⟨b,rfl,e⟩:=c;exact⟨a+b,by simp_all,by omega⟩
theorem adl {M:Nat} {p:Rat} (b:fi M p):fi M (-p):=by
 obtain⟨a,rfl,c⟩:=b;exact⟨-a,by simp_all,by omega⟩
theorem TL {M:Nat}:fi M 0:=⟨0,rfl,by simp⟩
theorem fi.le {M K:Nat} {p:Rat} (b:fi M p) (h:M<=K):fi K p:=by
 obtain⟨a,rfl,c⟩:=b;exact⟨a,rfl,by omega⟩
theorem Ku {M:Nat} {f:Nat->Rat}:∀{n:Nat},(∀k,k<n->fi M (f k))->fi (n*M) (bV n f)
 |0,_=>by grind[bV,TL];|n+1,h=>by
  have a:=TK (@Ku M f n λk b=>h k (by omega)) (h n (by omega));grind[bV]
theorem Kv {f:Nat->Rat} {d:Rat}:∀{n:Nat},bV n f*d=bV n λk=>f k*d
 |0=>by grind[bV];|n+1=>by
  have:=@Kv f d n;grind[bV]
theorem adn {X k:Nat} {q D:Rat} (f:fi X (q*D)) (c:fi X D) (g:D≠0) (o:X<4294967296^k):Sz k q:=by
 obtain⟨a,p,l⟩:=f;obtain⟨d,rfl,m⟩:=c;have b:d≠0:=λh=>g (by subst h;rfl);have n:((4294967296^k:Nat):Int)=(4294967296:Int)^k:=by
  simp_all
 have i:(X:Int)<4294967296^k:=by
  omega
 have e:q=mkRat (a*d.sign) d.natAbs:=by
  have f:mkRat (a*d.sign) d.natAbs=((a*d.sign:Int):Rat) / ((d.natAbs:Int):Rat):=by
   rw[δE];rfl
  have c:((d.natAbs:Int):Rat)=(d:Rat)*(d.sign:Rat):=by
   rw[<-Rat.intCast_mul];simp_all
  have j:(d.sign:Rat)*(d.sign:Rat)=1:=by
   rw[<-Rat.intCast_mul];rcases Int.lt_or_lt_of_ne b with h|h;·rw[Int.sign_eq_neg_one_of_neg h];rfl
   grind
  grind
 rw[e];refine As (by omega) ?_ (by omega);grind
structure Small (n m M G:Nat) (t0:Tb):Prop where
 wf:t0.WF n m
 nd:(t0.basic++t0.free).Nodup
 cf:∀i j,i<m->j<n->fi M (t0.cf i j)
 bd:∀i,i<m->fi M (t0.bd i)
 cs:∀j,j<n->fi G (t0.cs j)
 v:t0.value=0
 M1:1<=M
 G1:M<=G
 X:(m+2)*(G*nG M m)<4294967296^1000
theorem ado {a b c:Nat} (h:1<=a) (d:1<=b):c<=a*(b*c):=by
 have e:1*(1*c)<=a*(b*c):=ε8 h (ε8 d (Nat.le_refl _));omega
theorem Small.goal {n m M G:Nat} {t0:Tb} (h:Small n m M G t0) {v:Int}:fi G (ez t0 v):=by
 unfold ez;split
 ·rename_i a;exact h.cs _ (by rw[<-h.wf.free];grind)
 ·exact TL
theorem Small.TM {n m M G:Nat} {t0 t:Tb} (h:Small n m M G t0) (a:Run n m t0 t):(∀i,i<m->Sz 1000 (t.bd i))/\(∀j,j<n->Sz 1000 (t.cs j))/\Sz 1000 t.value/\∀i j,i<m->j<n->Sz 1000 (t.cf i j):=by
 have y:=a.ac4 h.M1 h.cf;have A:=h.X;have B:1<=G:=Nat.le_trans h.M1 h.G1;have u:nG M m<=(m+2)*(G*nG M m):=ado (by omega) B;have l:∀{q:Rat},fi ((m+2)*(G*nG M m)) (q*jA m t0 t)->Sz 1000 q:=λz=>adn z (y.le u) a.dt A;have d:∀r c,r<m->c<n->fi (nG M m) (t.cf r c*jA m t0 t):=λr c o d=>a.cfZ h.M1 h.cf o d;have x:∀r,r<m->fi (nG M m) (t.bd r*jA m t0 t):=λr o=>a.bdZ h.M1 h.cf h.bd o;refine⟨λi w=>l ((x i w).le u),λj b=>l ?_,l ?_,λi j w b=>l ((d i j w b).le u)⟩
 ·have e:=a.adk b;have p:t.cs j*jA m t0 t=ez t0 (t.fv j)*jA m t0 t+ -(bV m λk=>ez t0 (t.bv k)*(t.cf k j*jA m t0 t)):=by
   rw[e,dM (f:=λk=>ez t0 (t.bv k)*(t.cf k j*jA m t0 t)) (g:=λk=>(ez t0 (t.bv k)*t.cf k j)*jA m t0 t) λk _=>by grind,<-Kv];grind
  rw[p];refine(TK (Kt h.goal y) (adl (Ku λk s=>Kt h.goal (d k j s b)))).le ?_;grind
 ·have p:t.value*jA m t0 t=bV m λk=>ez t0 (t.bv k)*(t.bd k*jA m t0 t):=by
   rw[a.val,h.v,dM (f:=λk=>ez t0 (t.bv k)*(t.bd k*jA m t0 t)) (g:=λk=>(ez t0 (t.bv k)*t.bd k)*jA m t0 t) λk _=>by grind,<-Kv];grind
  rw[p];refine(Ku λk s=>Kt h.goal (x k s)).le ?_;grind
theorem Small.wq {n m M G:Nat} {t0 t:Tb} (h:Small n m M G t0) (b:Run n m t0 t):wq 1000000 t:=by
 obtain⟨g,r,k,o⟩:=h.TM b;have e:∀{f:Type} {l:List f} {P:f->Prop} {d:f},(∀i,i<l.length->P (bp l i d))->∀q∈l,P q:=λh q p=>by
  obtain⟨i,a,rfl⟩:=List.getElem_of_mem p;grind[dj]
 refine⟨e (d:=[]) λi a=>?_,e (d:=0) λi a=>?_,e (d:=0) λj c=>?_,k.mono (by omega)⟩
 ·rw[b.wf.cz] at a;refine e (d:=0) λj c=>?_;rw[b.wf.row i a] at c;exact(o i j a c).mono (by omega)
 ·rw[b.wf.bound] at a;exact(g i a).mono (by omega)
 ·rw[b.wf.cost] at c;exact(r j c).mono (by omega)
theorem TN {n m:Int} {M G:Nat} {t0 t:Tb} (h:Small n.toNat m.toNat M G t0) (a:Run n.toNat m.toNat t0 t) (c:0<=n/\n<=1000) (b:0<=m/\m<=1000):kV n m t:=⟨⟨c,b⟩,a.wf,h.wq a⟩
section
variable {n m:Nat} {t t0:Tb}
theorem TP:∀{N:Nat} {t:Tb},Run n m t0 t->kB m t->Run n m t0 (runT n m N t)/\kB m (runT n m N t)
 |0,t,b,a=>⟨b,a⟩
 |N+1,t,b,a=>by
  unfold runT;split;·simp_all
  ·rename_i d c;have:=J2 b a c;exact TP this.1 this.2
theorem run_end:∀{N:Nat} {t:Tb},fw n m N t=true->stepT n m (runT n m N t)=none
 |0,t,h=>γL.1 h
 |N+1,t,h=>by
  unfold fw at h;unfold runT;split;·assumption
  ·rename_i b a;rw[a] at h;exact run_end h
theorem TQ:∀{N K:Nat} {t:Tb},fw n m N t=true->N<=K->runT n m K t=runT n m N t
 |0,K,t,h,b=>by
  have d:=γL.1 h;cases K<;>grind[runT];|N+1,K,t,h,b=>by
  obtain⟨K,rfl⟩:∃k,K=k+1:=⟨K - 1,by omega⟩;unfold fw at h;unfold runT;split;·rfl
  ·rename_i c a;rw[a] at h;exact TQ h (by omega)
theorem TR {f:Nat->Rat}:∀{n:Nat},(∀k,k<n->f k<=0)->bV n f<=0
 |0,_=>by grind[bV];|n+1,h=>by
  have a:=@TR f n λk b=>h k (by omega);grind[bV]
theorem TS {a b:Rat} (d:a<=0) (c:0<=b):a*b<=0:=by
 have:=δz (a:= -a) (b:=b) (by grind) c;grind
theorem Run.best (h:Run n m t0 t) (d:eG t n<0) {x:Int->Rat} {z:Rat} (a:t0.holds n m x z) (b:∀j,j<n->0<=x (t.fv j)):z<=t.value:=by
 have c:=(((h.mU _ _).2 a).2);grind[uD,TR,TS]
theorem Run.bnd (h:Run n m t0 t) (q:kB m t) {B:Rat} (F:∀x z,t0.holds n m x z->(∀v∈t0.basic++t0.free,0<=x v)->z<=B) {c:Nat} (I:eG t n=(c:Int)) (H:ei t c m<0):False:=by
 rcases @uD t n with⟨C,d⟩|⟨a,C,d,f,G⟩;·omega
 ·have A:a=c:=by omega
  subst A;rcases @wo t a m with⟨D,w⟩|⟨r,D,_⟩;·
   have k:∀s:Rat,0<=s->t.value+s*t.cs a<=B:=λs o=>by
    have p:=asg_holds h.wf h.gq (y:=λj=>if j=a then s else 0);have e:bV n (λj=>t.cs j*(λj=>if j=a then s else 0) j)=s*t.cs a:=by
     rw[dM (g:=λj=>if j=a then s*t.cs a else 0) λj _=>by
      grind,uG d]
    rw[e] at p;refine F _ _ ((h.mU _ _).1 p) λv b=>?_;rw[<-h.perm.mem_iff,List.mem_append] at b;rcases b with b|b
    ·obtain⟨i,l,rfl⟩:=yu h.wf b;rw[nH h.wf h.gq l];have f:bV n (λj=>t.cf i j*(if j=a then s else 0))=t.cf i a*s:=by
      rw[dM (g:=λj=>if j=a then t.cf i a*s else 0) λj _=>by
       grind,uG d]
     rw[f];have:=TS (w i l) o;have:=q i l;grind
    ·obtain⟨j,E,rfl⟩:=wm h.wf b;rw[mT h.wf h.gq E];grind
   have u:=k 0 (by grind);have o:0<=(B - t.value+1) / t.cs a:=Tz (by grind) f;grind[div_mul]
  ·omega
end
open Classical in
noncomputable def uH (n m:Nat) (t:Tb):Nat:=if h:∃N,fw n m N t=true then Classical.choose h else 0
noncomputable def lastT (n m:Nat) (t:Tb):Tb:=runT n m (uH n m t) t
section
variable {n m:Nat} {t t0 t':Tb}
theorem EG {N:Nat} (h:fw n m N t=true):lastT n m t=runT n m N t:=by
 have a:∃N,fw n m N t=true:=⟨N,h⟩;have b:fw n m (uH n m t) t=true:=by
  unfold uH;grind
 grind[lastT,TQ]
theorem TT (h:stepT n m t=none):lastT n m t=t:=by
 have a:fw n m 0 t=true:=by simp[fw,h]
 rw[EG a];rfl
theorem adp (a:∃N,fw n m N t=true) (h:stepT n m t=some t'):lastT n m t'=lastT n m t:=by
 obtain⟨N,a⟩:=a;have b:=TE a h;rw[EG b,EG (J3 a)];grind[runT]
theorem Kw (b:Run n m t0 t) (c:kB m t):Run n m t0 (lastT n m t)/\kB m (lastT n m t)/\stepT n m (lastT n m t)=none:=by
 obtain⟨N,a⟩:=J4 b c;rw[EG a];grind[TP,run_end]
theorem TU (i:Run n m t0 t) (e:kB m t) {B:Rat} (h:∀x z,t0.holds n m x z->(∀v∈t0.basic++t0.free,0<=x v)->z<=B):eG (lastT n m t) n<0:=by
 obtain⟨j,g,a⟩:=Kw i e;rcases @uD (lastT n m t) n with⟨b,d⟩|⟨c,b,d,l,k⟩;·omega
 ·exfalso;unfold stepT at a;rw[if_neg (by omega),show(eG (lastT n m t) n).toNat=c by omega] at a;split at a
  ·rename_i f;exact j.bnd g h b f
  ·cases a
end
def bE (f:List Int) (d:Int):List Int:=(dL f.length).filter λi=>decide (bp f i.toNat 0=d)
theorem kW {f:List Int} {d x:Int}:x∈bE f d↔(0<=x/\x<f.length)/\bp f x.toNat 0=d:=by
 simp_all[bE,rL]
theorem uI {f:List Int} {d:Int}:(bE f d).Pairwise (·<·):=AL.sublist List.filter_sublist
theorem rQ {f:List Int} {d:Int}:(bE f d).length<=f.length:=by
 have:=List.length_filter_le (λi:Int=>decide (bp f i.toNat 0=d)) (dL f.length);rw[jw] at this;exact this
theorem Kx {a b:Type} {g:a->b} {l:List a} {i:Nat} {d:b} {e:a} (h:i<l.length):bp (l.map g) i d=g (bp l i e):=by
 grind[dj]
theorem Ky {n j:Nat} {d:Int} (h:j<n):bp (dL n) j d=j:=by
 grind[dL,qN]
def cQ (p:bz) (f:List Int):Tb where
 cz:=(Θ (p.classes.length+12)).map λr:Nat=>(bE f 0).map λi=>((dW p r (oI p i):Int):Rat);bound:=(Θ (p.classes.length+12)).map λr:Nat=>((di p r - cT p ((bE f 1).map (oI p)) r:Int):Rat);cost:=(bE f 0).map λi=>(((oI p i).value:Int):Rat);value:=0;basic:=(Θ (p.classes.length+12)).map λi:Nat=>(((bE f 0).length+i:Nat):Int);free:=dL (bE f 0).length
def fb (p:bz) (f:List Int):Prop:=bH p=0/\f.length=p.offers.length/\gd p ((bE f 1).map (oI p))=true
abbrev nF (f:List Int):Nat:=(bE f 0).length
abbrev mF (p:bz):Nat:=p.classes.length+12
section
variable {p:bz} {f:List Int}
theorem lQ:(cQ p f).WF (nF f) (mF p) where
 cz:=by simp[cQ]
 row i a:=by
  grind[cQ,qN]
 bound:=by simp[cQ]
 cost:=by simp[cQ]
 basic:=by simp[cQ]
 free:=by simp[cQ,jw]
theorem yw {i j:Nat} (b:i<mF p) (a:j<nF f):(cQ p f).cf i j=((dW p i (oI p (bp (bE f 0) j 0)):Int):Rat):=by
 grind[Tb.cf,cQ,qN,Kx]
theorem yx {i:Nat} (a:i<mF p):(cQ p f).bd i=((di p i - cT p ((bE f 1).map (oI p)) i:Int):Rat):=by
 grind[Tb.bd,cQ,qN]
theorem A8 {j:Nat} (a:j<nF f):(cQ p f).cs j=(((oI p (bp (bE f 0) j 0)).value:Int):Rat):=by
 grind[Tb.cs,cQ,Kx]
theorem EH {i:Nat} (a:i<mF p):(cQ p f).bv i=(((nF f)+i:Nat):Int):=by
 grind[Tb.bv,cQ,qN]
theorem wt {j:Nat} (a:j<nF f):(cQ p f).fv j=j:=by
 grind[Tb.fv,cQ,Ky]
theorem qQ:((cQ p f).basic++(cQ p f).free).Nodup:=by
 rw[γt];refine⟨?_,AL.imp λh=>by omega,?_⟩
 ·simp only[cQ];refine List.Pairwise.map _ (λa b h=>?_) List.nodup_range;omega
 grind[cQ,rL]
theorem yy (h:fb p f) {j:Nat} (a:j<nF f):(0<=bp (bE f 0) j 0/\bp (bE f 0) j 0<p.offers.length)/\bp f (bp (bE f 0) j 0).toNat 0=0:=by
 have:=kW.1 (dn (d:=0) a);rw[h.2.1] at this;exact this
theorem kC (a:bH p=0) {i:Int} (h:0<=i/\i<p.offers.length):0<=(oI p i).ck/\(oI p i).ck<p.classes.length/\(oI p i).want.ok=true/\1<=(oI p i).value/\(oI p i).value<=1000000:=(dR a).2.2.2.2 _ (dn (show i.toNat<p.offers.length by omega))
theorem EI (h:fb p f) {d:Int}:∀x∈(bE f d).map (oI p),0<=x.ck/\x.ck<p.classes.length/\x.want.ok=true/\1<=x.value/\x.value<=1000000:=λx a=>by
 obtain⟨i,b,rfl⟩:=γf.1 a;have:=(kW.1 b).1;rw[h.2.1] at this;exact kC h.1 this
theorem Kz {z:Int} {M:Nat} (h:z.natAbs<=M):fi M (z:Rat):=⟨z,rfl,h⟩
theorem TV (h:fb p f) {i:Nat} (b:i<mF p):0<=di p i - cT p ((bE f 1).map (oI p)) i/\di p i - cT p ((bE f 1).map (oI p)) i<=4:=by
 have c:i<p.classes.length+12:=b;have d:=o7.1 h.2.2 i (by grind[cE]);have g:=@AQ p h.1 i;have e:=@sL p i ((bE f 1).map (oI p)) λx a=>(EI h x a).2.2.1;omega
theorem adq:∀m:Nat,m<=20->(m+2)*(1000000*nG 4 m)<4294967296^1000:=by
 have h:((Θ 21).all λm=>Nat.blt ((m+2)*(1000000*nG 4 m)) (4294967296^1000))=true:=by decide+kernel
 intro m a;have:=ξ.1 h m (γp.2 (by omega));rw[Nat.blt_eq] at this;exact this
theorem EJ (h:fb p f):Small (nF f) (mF p) 4 1000000 (cQ p f) where
 wf:=lQ;nd:=qQ;cf i j b a:=by
  rw[yw b a];have:=(kC h.1 (yy h a).1).2.2.1;grind[o6,Kz]
 bd i b:=by
  rw[yx b];have:=TV h b;exact Kz (by omega)
 cs j a:=by
  rw[A8 a];have:=kC h.1 (yy h a).1;grind[Kz]
 v:=rfl;M1:=by omega
 G1:=by omega
 X:=adq _ (by have:=(dR h.1).1;grind)
theorem EK {z:Int} (h:0<=z):(0:Rat)<=(z:Rat):=by exact_mod_cast h
theorem KA (h:fb p f):kB (mF p) (cQ p f):=λi a=>by
 rw[yx a];exact EK (TV h a).1
theorem TW {g:Nat->Rat}:∀{n:Nat},(∀k,k<n->0<=g k)->0<=bV n g
 |0,_=>by grind[bV];|n+1,h=>by
  have a:=@TW g n λk b=>h k (by omega);grind[bV]
theorem TX {g k:Nat->Rat}:∀{n:Nat},(∀i,i<n->g i<=k i)->bV n g<=bV n k
 |0,_=>by grind[bV];|n+1,h=>by
  have a:=@TX g k n λk b=>h k (by omega);grind[bV]
theorem adr {g:Nat->Rat} {n j:Nat} (h:∀k,k<n->0<=g k) (a:j<n):g j<=bV n g:=by
 rw[Ez a];grind[TW]
theorem TY (h:fb p f) {x:Int->Rat} {z:Rat} (d:(cQ p f).holds (nF f) (mF p) x z) (e:∀v∈(cQ p f).basic++(cQ p f).free,0<=x v) {j:Nat} (b:j<nF f):x ((cQ p f).fv j)<=1:=by
 obtain⟨l,_⟩:=yy h b;have r:=kC h.1 l;have a:(oI p (bp (bE f 0) j 0)).ck.toNat<mF p:=by grind
 have s:=d.1 _ a;have n:=e _ (List.mem_append_left _ (A5 lQ a));have i:(cQ p f).cf (oI p (bp (bE f 0) j 0)).ck.toNat j=1:=by
  rw[yw a b];unfold dW;rw[if_pos (by omega),if_pos (by omega)];rfl
 have m:=@adr (λk=>(cQ p f).cf (oI p (bp (bE f 0) j 0)).ck.toNat k*x ((cQ p f).fv k)) (nF f) j (λk c=>by
  refine δz ?_ (e _ (List.mem_append_right _ (wj lQ c)));rw[yw a c];exact EK (o6 (kC h.1 (yy h c).1).2.2.1).1) b;simp only[i] at m;have t:(cQ p f).bd (oI p (bp (bE f 0) j 0)).ck.toNat<=1:=by
  rw[yx a];have o:di p (oI p (bp (bE f 0) j 0)).ck.toNat=1:=by
   unfold di;omega
  have q:=@sL p (oI p (bp (bE f 0) j 0)).ck.toNat ((bE f 1).map (oI p)) λx d=>(EI h x d).2.2.1;have g:di p (oI p (bp (bE f 0) j 0)).ck.toNat - cT p ((bE f 1).map (oI p)) (oI p (bp (bE f 0) j 0)).ck.toNat<=1:=by omega
  exact_mod_cast g
 grind
theorem T0 (h:fb p f) {x:Int->Rat} {z:Rat} (c:(cQ p f).holds (nF f) (mF p) x z) (e:∀v∈(cQ p f).basic++(cQ p f).free,0<=x v):z<=bV (nF f) (cQ p f).cs:=by
 have g:=c.2;have k:(cQ p f).value=0:=rfl;have:=@TX (λj=>(cQ p f).cs j*x ((cQ p f).fv j)) (cQ p f).cs (nF f) λj a=>by
  have i:=TY h c e a;have d:0<=(cQ p f).cs j:=by
   rw[A8 a];exact EK (by have:=kC h.1 (yy h a).1;omega)
  have:=δz d (b:=1 - x ((cQ p f).fv j)) (by grind);grind
 grind
noncomputable def dr (p:bz) (f:List Int):Tb:=lastT (nF f) (mF p) (cQ p f)
theorem oz (h:fb p f):Run (nF f) (mF p) (cQ p f) (dr p f)/\kB (mF p) (dr p f)/\eG (dr p f) (nF f)<0:=by
 have a:=Run.refl (n:=nF f) (m:=mF p) (t0:=cQ p f) lQ qQ;have:=Kw a (KA h);exact⟨this.1,this.2.1,TU a (KA h) λx z c b=>T0 h c b⟩
end
def eY (d:List bM) (j:Nat) (z:bM):List bM:=d.take j++δ (d.length - j) z
theorem yz {d:List bM} {j:Nat} {z:bM} (h:j<=d.length):(eY d j z).length=d.length:=by
 grind[eY]
theorem yA {d:List bM} {z:bM}:eY d 0 z=δ d.length z:=by simp[eY]
theorem yB {d:List bM} {z:bM}:eY d d.length z=d:=by simp[eY]
theorem yC {d:List bM} {j:Nat} {z x:bM} (h:j<d.length) (b:x=bp d j z):(eY d j z).set j x=eY d (j+1) z:=by
 unfold eY;have a:d.length - j=(d.length - (j+1))+1:=by omega
 rw[a,List.replicate_succ,List.set_append_right _ _ (by grind),γG,show j - min j d.length=0 by omega,List.set_cons_zero,List.take_succ_eq_append_getElem h,List.append_assoc,b,dj h];rfl
theorem yD {l:List Rat} {i:Nat} {q:Rat}:(fL l).set i (bu q)=fL (l.set i q):=by
 simp_all[fL]
theorem elim_none {l p:List Rat} {c:Nat} (h:bp l c 0=0) (d:c<l.length):kA l c p=l:=by
 refine δc EA λi b a=>?_;have e:=@EB c l p i a;grind[dj]
def r413:dD where
 f:=175;α:=Int;put a:=[.si .i64 a];st _:=[];dec v o:=match v,o with
  |[v],[]=>v.int .i64
  |_,_=>none;ok v o a h:=by
  split at h;·exact⟨by simp only[gL,iP h];rfl,rfl⟩
  ·cases h
 inj a b h _:=by grind[gL,SV.g]
 dom n:=0<=n/\n<=1000;res n:=.ow 0 n.toNat 3;out n:=[.row sF (fL (δ n.toNat 0)) 126 false]
def ads (n:Int):Nat->cC
 |3=> .inv Int (λj=>⟨[(3,.ow 0 n.toNat 3),(8,.si .i64 n.toNat),(9,.si .i64 j)],[.row sF (eY (fL (δ n.toNat 0)) j.toNat (false,([],[]))) 126 true]⟩)
   (λs=>iS s 9) (λj=>0<=j/\j<=n) (λj=>(n - j).toNat) λ_ _=> .look
 |_=> .look
theorem h413:eu Tryz.prog r413:=by
 refine HO (L:=[oo]) (W:=[]) r413 (λ_=>none) ads (by simp) (by grind[h94]) ?_;rintro(n:Int) ⟨r,v⟩;refine bQ (let e:=(0:Int);let j:=bA.row;let k:=Ω .i64;let a:=γz 0 n.toNat 3;let f:=k (↑n.toNat:Int);let o:=(bw.i .u32).bP;let h:=(false,[],[]);let g:=fL (δ n.toNat (0:Rat));let m:=bu (ζ e);e<=n/\n<=n/\n*(56:Int)<=(140737488355328:Int)/\n<=(1000000000000:Int)/\(((a.same a/\f.same f/\(γo .i64 0).same (k 0)/\True)/\(j (bw.b.pair (o.pair o)) (δ n.toNat h) 126 true).same (j sF (eY g 0 h) 126 true)/\True)/\e<=e/\e<=n)/\∀(x:Int),let p:=decide (x<(↑n.toNat:Int));let c:=eY g x.toNat h;let d:=x+(1:Int);let q:=k d;e<=x/\x<=n->(p=true->((-9223372036854775808:Int)<=e/\e<=(9223372036854775807:Int))/\n.toNat=c.length/\e<=x/\x<(↑c.length:Int)/\n.toNat=c.length/\x.toNat<c.length/\bU .i64 d/\((a.same a/\f.same f/\q.same q/\True)/\(j sF (c.set x.toNat (m.fst,m.snd.fst,m.snd.snd)) 126 true).same (j sF (eY g d.toNat h) 126 true)/\True)/\(e<=d/\d<=n)/\(n - d).toNat<(n - x).toNat)/\(p=false->a.same a/\(j sF c 126 false).same (j sF g 126 false)/\True)) (by kernel_rfl) ?_;conv=>zeta
 try simp only[vcs]
 have l:∀k:Nat,((k:Nat):Int).toNat=k:=λk=>γb k;have t:(fL (δ n.toNat 0)).length=n.toNat:=by grind[fy]
 have e:∀{x y:List bM},x=y->(bA.row sF x 126 true).same (bA.row sF y 126 true):=by rintro _ _ rfl;rfl
 refine⟨r,by omega,by omega,by omega,⟨e (by rw[yA,t]),by omega,by omega⟩,?_⟩;rintro j ⟨A,z⟩;have u:=@yz (fL (δ n.toNat 0)) j.toNat (false,([],[])) (by omega);refine⟨λs=>?_,λs=>?_⟩
 ·have w:bp (fL (δ n.toNat 0)) j.toNat (false,([],[]))=bu 0:=by
   grind[jj,dj]
  grind[yC]
 ·rw[show j.toNat=(fL (δ n.toNat 0)).length by omega,yB];rfl
def r417:bL:=⟨185,List bM×bM×Int×List bM×bM,.cons (cV sF) (.cons (dZ sF) (.cons (ef .i64) (.cons (cV sF) (.one (dZ sF))))),
 λa=>∃l b p c,(a.1=fL l/\a.2.1=bu b/\a.2.2.2.1=fL p/\a.2.2.2.2=bu c)/\(l.length=p.length/\l.length<=1000)/\(0<=a.2.2.1/\a.2.2.1<l.length)/\(∀q∈l,Sz 10000000 q)/\(∀q∈p,Sz 10000000 q)/\Sz 10000000 b/\Sz 10000000 c,
 λa=> .bN [.row sF (fL (kA (vL a.1) a.2.2.1.toNat (vL a.2.2.2.1))),lr (bK a.2.1 - bp (vL a.1) a.2.2.1.toNat 0*bK a.2.2.2.2)]⟩
def adt (l:List Rat) (b:Rat) (c:Int) (p:List Rat) (a:Rat):Nat->cC
 |6=> .inv Int (λj=>⟨[(2,.si .i64 c),(3,.row sF (fL p)),(6,.ptr 0 0 3),(9,.ptr 1 0 3),(11,.ptr 2 0 3),(12,.ptr 3 0 3),(13,.ow 4 l.length 3),(28,.row sF (fL l)),(29,.si .i64 l.length),(30,.si .i64 j)],
   [.cells [.sb (bu b).1,.row (.i .u32) (bu b).2.1,.row (.i .u32) (bu b).2.2] 126 3 false,.cells [.sb (bu a).1,.row (.i .u32) (bu a).2.1,.row (.i .u32) (bu a).2.2] 126 3 false,
    .cells [.bl false,.sc (.slice none 0 0),.sc (.slice none 0 0)] 126 3 false,.cells [.sb (bu (bp l c.toNat 0)).1,.row (.i .u32) (bu (bp l c.toNat 0)).2.1,.row (.i .u32) (bu (bp l c.toNat 0)).2.2] 126 3 false,
    .row sF (eY (fL (kA l c.toNat p)) j.toNat (false,([],[]))) 126 true]⟩)
   (λs=>iS s 30) (λj=>0<=j/\j<=l.length) (λj=>(l.length - j).toNat) λ_ _=> .look
 |_=> .look
theorem h417:Holds Tryz.prog r417:=by
 refine cq (L:=[sQ,A6,yd,Av]) r417 (λa=>adt (vL a.1) (bK a.2.1) a.2.2.1 (vL a.2.2.2.1) (bK a.2.2.2.2)) (by grind[h99,h410,h130,h95]) ?_;rintro⟨l',b',c,p',c9⟩ ⟨l,b,p,pb,⟨e1,e2,e3,e4⟩,⟨g1,g2⟩,⟨c0,c1⟩,hl,hp,hb,a7⟩;simp only at e1 e2 e3 e4 c0 c1;subst e1 e2 e3 e4;refine bQ (let a:=Δ;let d:=(0:Int);let h:=Ω .i64;let j:=bA.cells;let k:=bA.row;let w:=γn;let y:=sF.dflt;let A:=γU;let D:=γF;let L:=SV.bN;let R:=bp (fL l) c.toNat y;let a2:=(R.fst,R.snd.fst,R.snd.snd);let m:=bw.i .u32;let I:=(↑(fL l).length:Int);let S:=fL (kA (vL (fL l)) c.toNat (vL (fL p)));let J:=bK (bu b);let M:=bp (vL (fL l)) c.toNat (0:Rat);let N:=bK (bu pb);let a8:=(bu (J - M*N)).snd;let a6:=L [a sF S,D [w (bu (J - M*N)).fst,a m a8.fst,a m a8.snd]];let n:=fL (vL (fL p));let z:=a sF n;let v:=A 0 0 3;let q:=A 1 0 3;let r:=A 2 0 3;let s:=A 3 0 3;let o:Nat:=(vL (fL l)).length;let E:=γz 4 o 3;let F:=fL (vL (fL l));let B:=a sF F;let f:=(↑o:Int);let C:=h f;let b5:=SV.sc (Value.slice none 0 0);let t:=j [γ0 false,b5,b5] 126 3 false;let G:=(false,[],[]);let K:=((bu M).fst,(bu M).snd.fst,(bu M).snd.snd);let Q:=j [w (bu J).fst,a m (bu J).snd.fst,a m (bu J).snd.snd] 126 3 false;let P:=j [w (bu N).fst,a m (bu N).snd.fst,a m (bu N).snd.snd] 126 3 false;let O:=j [w (bu M).fst,a m (bu M).snd.fst,a m (bu M).snd.snd] 126 3 false;let b9:=((bu N).fst,(bu N).snd.fst,(bu N).snd.snd);let b2:=((bu J).fst,(bu J).snd.fst,(bu J).snd.snd);let U:=bu (bK K*bK b9);let b1:=(U.fst,U.snd.fst,U.snd.snd);let X:=bu (bK b2 - bK b1);let a7:=λ(u:Bool) ↦decide (gG (bK a2)=d)=u;let V:=λ(u:bw.b.T) (a5:(m.bP.pair m.bP).T) (Y:Rat) ↦(j [w u,a m a5.fst,a m a5.snd] 126 3 false).same (j [w (bu Y).fst,a m (bu Y).snd.fst,a m (bu Y).snd.snd] 126 3 false);d<=c/\c<I/\c.toNat<(fL l).length/\cF a2/\(a7 true->(L [a sF (fL l),D [w (bu b).fst,a m (bu b).snd.fst,a m (bu b).snd.snd]]).same a6)/\(a7 false->d<=I/\I<=I/\I*(56:Int)<=(140737488355328:Int)/\I<=(1000000000000:Int)/\((((h c).same (h c)/\(a sF (fL p)).same z/\v.same v/\q.same q/\r.same r/\s.same s/\(γz 4 I.toNat 3).same E/\(a sF (fL l)).same B/\(h I).same C/\(γo .i64 0).same (h 0)/\True)/\V (bu b).fst (bu b).snd J/\V (bu pb).fst (bu pb).snd N/\t.same t/\V R.fst R.snd M/\(k (bw.b.pair (m.bP.pair m.bP)) (δ I.toNat G) 126 true).same (k sF (eY S 0 G) 126 true)/\True)/\d<=d/\d<=f)/\∀(x:Int),let a3:=bp n x.toNat y;let a0:=(a3.fst,a3.snd.fst,a3.snd.snd);let a1:=bu (bK K*bK a0);let a4:=(a1.fst,a1.snd.fst,a1.snd.snd);let e:=eY S x.toNat G;let g:=x+(1:Int);let H:=h g;let b3:=k sF (eY S g.toNat G) 126 true;let Z:=bp F x.toNat y;let b7:=(Z.fst,Z.snd.fst,Z.snd.snd);let b0:=cF a4;let b6:=cF K/\cF a0;let b4:=λ(u:Rat) ↦o=e.length/\d<=x/\x<(↑e.length:Int)/\o=e.length/\x.toNat<e.length/\bU .i64 g/\(((h c).same (h c)/\z.same z/\v.same v/\q.same q/\r.same r/\s.same s/\E.same E/\B.same B/\C.same C/\H.same H/\True)/\Q.same Q/\P.same P/\t.same t/\O.same O/\(k sF (e.set x.toNat ((bu u).fst,(bu u).snd.fst,(bu u).snd.snd)) 126 true).same b3/\True)/\(d<=g/\g<=f)/\(f - g).toNat<(f - x).toNat;let a9:=λ(u:Bool) ↦decide (gG (bK a0)=d)=u;let b8:=λ(u:List bM) ↦let W:=bp u x.toNat y;cF (W.fst,W.snd.fst,W.snd.snd);d<=x/\x<=f->(decide (x<f)=true->d<=x/\x<(↑F.length:Int)/\x.toNat<F.length/\(decide (x=c)=true->d<=x/\x<(↑n.length:Int)/\x.toNat<n.length/\b6/\b0/\b4 (-bK a4))/\(decide (x=c)=false->d<=x/\x<(↑n.length:Int)/\x.toNat<n.length/\b8 n/\(a9 true->o=e.length/\d<=x/\x<(↑e.length:Int)/\o=e.length/\x.toNat<e.length/\bU .i64 g/\(((h c).same (h c)/\z.same z/\v.same v/\q.same q/\r.same r/\s.same s/\E.same E/\B.same B/\C.same C/\H.same H/\True)/\Q.same Q/\P.same P/\t.same t/\O.same O/\(k sF (e.set x.toNat b7) 126 true).same b3/\True)/\(d<=g/\g<=f)/\(f - g).toNat<(f - x).toNat)/\(a9 false->d<=x/\x<(↑n.length:Int)/\x.toNat<n.length/\b6/\(b8 F/\b0)/\b4 (bK b7 - bK a4))))/\(decide (x<f)=false->(cF K/\cF b9)/\(cF b2/\cF b1)/\o=e.length/\(L [a sF e,D [w X.fst,a m X.snd.fst,a m X.snd.snd]]).same a6))) (by kernel_rfl) ?_;simp only[jY,dU];try simp only[vcs]
 have c6:=@fy l;have d1:=@fy p;have d0:(kA l c.toNat p).length=l.length:=EA;have c7:=@fy (kA l c.toNat p);have hA:bp (fL l) c.toNat sF.dflt=bu (bp l c.toNat 0):=jj (by omega);have w:=hl _ (dn (d:=0) (show c.toNat<l.length by omega));have a2:∀k:Nat,((k:Nat):Int).toNat=k:=λk=>γb k;have c4:∀{x y:Rat},x=y->(γF [γn (bu x).1,Δ (bw.i IntKind.u32) (bu x).2.1,Δ (bw.i IntKind.u32) (bu x).2.2]).same (γF [γn (bu y).1,Δ (bw.i IntKind.u32) (bu y).2.1,Δ (bw.i IntKind.u32) (bu y).2.2]):=by rintro _ _ rfl;rfl
 have S:∀{x y:List bM},x=y->(bA.row sF x 126 true).same (bA.row sF y 126 true):=by rintro _ _ rfl;rfl
 simp only[hA,ji,dU,Kp,a2];refine⟨c0,by omega,by omega,dP w (by omega),λhz=>⟨by grind[elim_none],c4 (by rw[hz];grind)⟩,λhz=>⟨by omega,by omega,by omega,by omega,⟨⟨⟨by rw[c6];rfl,by omega⟩,rfl,S (by grind[yA])⟩,by omega,by omega⟩,?_⟩⟩;rintro j ⟨V,j1⟩;have c8:=@yz (fL (kA l c.toNat p)) j.toNat (false,([],[])) (by omega);refine⟨λhj=>?_,λhj=>?_⟩
 ·have hP:bp (fL p) j.toNat sF.dflt=bu (bp p j.toNat 0):=jj (by omega);have hL:bp (fL l) j.toNat sF.dflt=bu (bp l j.toNat 0):=jj (by omega);have R:=hp _ (dn (d:=0) (show j.toNat<p.length by omega));have c2:=hl _ (dn (d:=0) (show j.toNat<l.length by omega));have hE:bp (fL (kA l c.toNat p)) j.toNat (false,([],[]))=bu (if j.toNat=c.toNat then -(bp l c.toNat 0*bp p j.toNat 0) else bp l j.toNat 0 - bp l c.toNat 0*bp p j.toNat 0):=by
   grind[jj,EB]
  have hm:=rO w R;have A:(0<=j+1/\j+1<=(l.length:Int))/\((l.length:Int) - (j+1)).toNat<((l.length:Int) - j).toNat:=by omega
  have D:∀{x:bM},x=bp (fL (kA l c.toNat p)) j.toNat (false,([],[]))->(bA.row sF ((eY (fL (kA l c.toNat p)) j.toNat (false,([],[]))).set j.toNat x) 126 true).same (bA.row sF (eY (fL (kA l c.toNat p)) (j+1).toNat (false,([],[]))) 126 true):=λh=>S (by
   grind[yC]);simp only[hP,hL,ji,dU,Kp];refine⟨V,by omega,by omega,λc3=>⟨V,by omega,by omega,⟨dP w (by omega),dP R (by omega)⟩,dP hm (by omega),by omega,V,by omega,by omega,by omega,by omega,D ?_,A⟩,λc3=>⟨V,by omega,by omega,dP R (by omega),λc5=>⟨by omega,V,by omega,by omega,by omega,by omega,D ?_,A⟩,λc5=>⟨V,by omega,by omega,⟨dP w (by omega),dP R (by omega)⟩,⟨dP c2 (by omega),dP hm (by omega)⟩,by omega,V,by omega,by omega,by omega,by omega,D ?_,A⟩⟩⟩;all_goals grind
 ·rw[show j.toNat=(fL (kA l c.toNat p)).length by omega,yB];exact⟨⟨dP w (by omega),dP a7 (by omega)⟩,⟨dP hb (by omega),dP (rO w a7) (by omega)⟩,by omega,rfl,rfl⟩
def r408:dD:=uF 170 (Int×Int) (.cons (ef .i64) (.one (ef .i64))) (λn m t a=>(0<=a.1/\a.1<m)/\(0<=a.2/\a.2<n)/\t.cf a.1.toNat a.2.toNat≠0) (λ_ _ _ _=> .bN []) (λ_ _ t a=>fV t a.1.toNat a.2.toNat)
def pv (l:List Rat) (q:Rat):List Rat:=l.map λx=>x*q
def fC (q:Rat):bA:=.cells [.sb (bu q).1,.row (.i .u32) (bu q).2.1,.row (.i .u32) (bu q).2.2] 126 3 false
def iW {a:Type} (f g:Nat->a) (n r i:Nat):List a:=(Θ n).map λk=>if k<i/\k≠r then g k else f k
theorem wu {a:Type} {f g:Nat->a} {n r i:Nat}:(iW f g n r i).length=n:=by simp[iW]
theorem T8 {a:Type} {l:List a} {g:Nat->a} {r:Nat} {d:a}:iW (λk=>bp l k d) g l.length r 0=l:=by
 refine δc wu λi b c=>?_;grind[iW,bp]
theorem T9 {a:Type} {f g:Nat->a} {n r i:Nat} {d:a} (h:i<n):bp (iW f g n r i) i d=f i:=by
 simp_all[iW,qN]
theorem Ua {a:Type} {f g:Nat->a} {n r i:Nat} (h:i<n) (d:i≠r):(iW f g n r i).set i (g i)=iW f g n r (i+1):=by
 refine δc (by simp[iW]) λk b c=>?_;have e:k<n:=by grind[iW]
 rw[εQ];simp only[iW,εt,εH];grind
theorem Ub {a:Type} {f g:Nat->a} {n r:Nat}:iW f g n r (r+1)=iW f g n r r:=by
 unfold iW;grind
theorem Uc {a:Type} {f g:Nat->a} {n r:Nat} {x:a} (h:r<n):(iW f g n r n).set r x=(Θ n).map λk=>if k=r then x else g k:=by
 refine δc (by simp[iW]) λk b c=>?_;have d:k<n:=by simp_all
 rw[εQ];simp only[iW,εt,εH];grind
theorem Ud {l:List (List Rat)} {i:Nat} {x:List Rat}:(fM l).set i (fL x)=fM (l.set i x):=by
 simp_all[fM]
theorem adu {l:List Rat} {c:Nat} (h:c<l.length):(fL (pv l (1 / bp l c 0))).set c (bu (1 / bp l c 0))=fL (kU l c):=by
 rw[yD];congr 1;refine δc (by simp[pv,kU]) λk d e=>?_;have b:k<l.length:=by grind[kU]
 rw[εQ];simp only[pv,kU,εt,εH];by_cases a:c=k;·simp_all
 ·rw[if_neg a,if_neg λh=>a h.symm,dj (i:=k) b]
def lx (t:Tb) (r c i:Nat):Tb:={t with
 cz:=iW (λk=>bp t.cz k []) (λk=>kA (bp t.cz k []) c (kU (bp t.cz r []) c)) t.cz.length r i
 bound:=iW t.bd (λk=>t.bd k - t.cf k c*(t.bd r*(1 / t.cf r c))) t.bound.length r i}
theorem adv {t:Tb} {r c:Nat}:lx t r c 0=t:=by
 unfold lx;have b:=@T8 (List Rat) t.cz (λk=>kA (bp t.cz k []) c (kU (bp t.cz r []) c)) r [];have d:=@T8 Rat t.bound (λk=>t.bd k - t.cf k c*(t.bd r*(1 / t.cf r c))) r 0;have a:iW t.bd (λk=>t.bd k - t.cf k c*(t.bd r*(1 / t.cf r c))) t.bound.length r 0=t.bound:=d;rw[b,a]
def adw (n m:Int) (t:Tb) (r c:Int):Nat->cC
 |3=> .inv Int (λj=>⟨[(0,.ptr 0 0 10),(1,.si .i64 r),(2,.si .i64 c),(6,.ptr 5 0 3),(8,.ow 6 n.toNat 3),(41,.row sF (fL (bp t.cz r.toNat []))),(42,.si .i64 n),(43,.si .i64 j)],
   (bJ n m t).gW++[fC (1 / t.cf r.toNat c.toNat),.row sF (eY (fL (pv (bp t.cz r.toNat []) (1 / t.cf r.toNat c.toNat))) j.toNat (false,([],[]))) 126 true]⟩)
   (λs=>iS s 43) (λj=>0<=j/\j<=n) (λj=>(n - j).toNat) λ_ _=> .look
 |10=> .inv Int (λi=>⟨[(0,.ptr 0 0 10),(1,.si .i64 r),(2,.si .i64 c),(8,.row sF (fL (kU (bp t.cz r.toNat []) c.toNat))),(11,.ptr 7 0 3),(72,.si .i64 m),(73,.si .i64 i)],
   (bJ n m (lx t r.toNat c.toNat i.toNat)).gW++[fC (1 / t.cf r.toNat c.toNat),.dead,fC (t.bd r.toNat*(1 / t.cf r.toNat c.toNat))]⟩)
   (λs=>iS s 73) (λj=>0<=j/\j<=m) (λj=>(m - j).toNat) λ_ _=> .look
 |_=> .look
theorem h408:eu Tryz.prog r408:=by
 refine lp (L:=[oo,EE,A6,r417,vU]) (W:=[]) r408 (λa=>adw a.1.n a.1.m a.1.t a.2.1 a.2.2) (by simp) (by simpa using⟨h94,h416,h410,h417,h129⟩) ?_;rintro⟨x,r,c⟩ ⟨n,m,t,hx,M,⟨r0,r1⟩,⟨c0,c1⟩,ha⟩;simp only at hx r0 r1 c0 c1 ha;subst hx;refine bQ (let a:=Ω .i64;let d:=bA.row;let e:=(0:Int);let f:=Δ;let g:=γz;let j:=bA.cells;let k:=γn;let y:=(1:Int);let L:=sF.dflt;let M:=γo .i64 0;let W:=γU;let X:=(bJ n m t).cz;let a1:=bp X r.toNat sF.bP.dflt;let a4:=bu (ζ y);let ac:=(a4.fst,a4.snd.fst,a4.snd.snd);let aa:=bp a1 c.toNat L;let ab:=(aa.fst,aa.snd.fst,aa.snd.snd);let a0:=(↑(bJ n m t).k4:Int);let Y:=W 0 0 10;let a3:=W 5 0 3;let G:=(bJ n m t).n;let c2:=g 6 G.toNat 3;let H:=(bJ n m t).t;let S:=bp H.cz r.toNat [];let c5:=f sF (fL S);let b3:=a G;let C:=(bJ n m t).m;let a8:=a C;let o:=bw.i .u32;let s:=bJ G C H;let a6:=j [a s.n,a s.m,g 1 s.k0 1,g 2 s.k1 3,f sF s.cost,k s.v.fst,f o s.v.snd.fst,f o s.v.snd.snd,g 3 s.k3 1,g 4 s.k4 1] 219 10 false;let a5:=d sF.bP s.cz 66 false;let b4:=d sF s.bound 126 false;let A:=bw.i .i64;let a9:=d A s.basic 3 false;let b2:=d A s.free 3 false;let d7:=bu (bK ac / bK ab);let J:=(1:Rat) / H.cf r.toNat c.toNat;let N:=j [k (bu J).fst,f o (bu J).snd.fst,f o (bu J).snd.snd] 126 3 false;let b0:=(false,[],[]);let d1:=fL (pv S J);let T:=((bu J).fst,(bu J).snd.fst,(bu J).snd.snd);let b5:=s.bound.length;let d8:=bp s.bound r.toNat L;let f4:=(d8.fst,d8.snd.fst,d8.snd.snd);let V:=fL (kU S c.toNat);let c6:=f sF V;let b1:=W 7 0 3;let z:=bJ G C (lx H r.toNat c.toNat 0);let d5:=bu (bK f4*bK T);let O:=bu (H.bd r.toNat*J);let d6:=j [k O.fst,f o O.snd.fst,f o O.snd.snd] 126 3 false;let U:=(O.fst,O.snd.fst,O.snd.snd);let B:=bJ G C (fV H r.toNat c.toNat);((-9223372036854775808:Int)<=y/\y<=(9223372036854775807:Int))/\(bJ n m t).k0=X.length/\e<=r/\r<(↑X.length:Int)/\(bJ n m t).k0=X.length/\r.toNat<X.length/\e<=c/\c<(↑a1.length:Int)/\c.toNat<a1.length/\((cF ac/\cF ab)/\bK ab≠(0:Rat))/\e<=a0/\a0<=a0/\a0*(56:Int)<=(140737488355328:Int)/\a0<=(1000000000000:Int)/\(bJ n m t).k0=X.length/\e<=r/\r<(↑X.length:Int)/\(bJ n m t).k0=X.length/\r.toNat<X.length/\(((Y.same Y/\(a r).same (a r)/\(a c).same (a c)/\a3.same a3/\(g 6 a0.toNat 3).same c2/\(f sF a1).same c5/\(a (↑a1.length:Int)).same b3/\(M).same (a 0)/\True)/\(j [b3,a8,g 1 (bJ n m t).k0 1,g 2 (bJ n m t).k1 3,f sF (bJ n m t).cost,k (bJ n m t).v.fst,f o (bJ n m t).v.snd.fst,f o (bJ n m t).v.snd.snd,g 3 (bJ n m t).k3 1,g 4 (bJ n m t).k4 1] 219 10 false).same a6/\(d sF.bP X 66 false).same a5/\(d sF (bJ n m t).bound 126 false).same b4/\(d A (bJ n m t).basic 3 false).same a9/\(d A (bJ n m t).free 3 false).same b2/\(j [k d7.fst,f o d7.snd.fst,f o d7.snd.snd] 126 3 false).same N/\(d (bw.b.pair (o.bP.pair o.bP)) (δ a0.toNat b0) 126 true).same (d sF (eY d1 0 b0) 126 true)/\True)/\e<=e/\e<=G)/\∀(x:Int),let d4:=bp (fL S) x.toNat L;let f6:=(d4.fst,d4.snd.fst,d4.snd.snd);let a7:=eY d1 x.toNat b0;let I:=a7.length;let R:=x+y;let e2:=a R;let c9:=bu (bK f6*bK T);e<=x/\x<=G->(decide (x<G)=true->e<=x/\x<(↑(fL S).length:Int)/\x.toNat<(fL S).length/\(cF f6/\cF T)/\G.toNat=I/\e<=x/\x<(↑I:Int)/\G.toNat=I/\x.toNat<I/\bU .i64 R/\((Y.same Y/\(a r).same (a r)/\(a c).same (a c)/\a3.same a3/\c2.same c2/\c5.same c5/\b3.same b3/\e2.same e2/\True)/\a6.same a6/\a5.same a5/\b4.same b4/\a9.same a9/\b2.same b2/\N.same N/\(d sF (a7.set x.toNat (c9.fst,c9.snd.fst,c9.snd.snd)) 126 true).same (d sF (eY d1 R.toNat b0) 126 true)/\True)/\(e<=R/\R<=G)/\(G - R).toNat<(G - x).toNat)/\(decide (x<G)=false->G.toNat=I/\e<=c/\c<(↑I:Int)/\G.toNat=I/\c.toNat<I/\s.k1=b5/\e<=r/\r<(↑b5:Int)/\s.k1=b5/\r.toNat<b5/\(cF f4/\cF T)/\G.toNat=(a7.set c.toNat T).length/\(((Y.same Y/\(a r).same (a r)/\(a c).same (a c)/\(f sF (a7.set c.toNat T)).same c6/\b1.same b1/\(a (↑s.k0:Int)).same a8/\(M).same (a 0)/\True)/\a6.same (j [a z.n,a z.m,g 1 z.k0 1,g 2 z.k1 3,f sF z.cost,k z.v.fst,f o z.v.snd.fst,f o z.v.snd.snd,g 3 z.k3 1,g 4 z.k4 1] 219 10 false)/\a5.same (d sF.bP z.cz 66 false)/\b4.same (d sF z.bound 126 false)/\a9.same (d A z.basic 3 false)/\b2.same (d A z.free 3 false)/\N.same N/\bA.dead.same bA.dead/\(j [k d5.fst,f o d5.snd.fst,f o d5.snd.snd] 126 3 false).same d6/\True)/\e<=e/\e<=C)/\∀(x:Int),let h:=bJ G C (lx H r.toNat c.toNat x.toNat);let e7:=a h.n;let f2:=a h.m;let f1:=g 1 h.k0 1;let e9:=g 2 h.k1 3;let P:=h.cost;let e0:=[g 3 h.k3 1,g 4 h.k4 1];let Q:=x+y;let w:=bJ G C (lx H r.toNat c.toNat Q.toNat);let F:=h.basic;let e5:=a Q;let a2:=h.cz;let E:=a2.length;let Z:=h.bound;let D:=Z.length;let d3:=bp a2 x.toNat sF.bP.dflt;let c8:=bp Z x.toNat L;let e3:=(c8.fst,c8.snd.fst,c8.snd.snd);let d0:=bu (bK e3 - bp (vL d3) c.toNat (0:Rat)*bK U);let d9:=(h.v.fst,h.v.snd.fst,h.v.snd.snd);let d2:=bp P c.toNat L;let f0:=(d2.fst,d2.snd.fst,d2.snd.snd);let c7:=bu (bK f0*bK U);let e6:=(c7.fst,c7.snd.fst,c7.snd.snd);let K:=h.free.length;let c4:=bu (bK d9+bK e6);let g9:=(j (e7::f2::f1::e9::f sF P::k h.v.fst::f o h.v.snd.fst::f o h.v.snd.snd::e0) 219 10 false).same (j [a w.n,a w.m,g 1 w.k0 1,g 2 w.k1 3,f sF w.cost,k w.v.fst,f o w.v.snd.fst,f o w.v.snd.snd,g 3 w.k3 1,g 4 w.k4 1] 219 10 false);let g4:=(d A F 3 false).same (d A w.basic 3 false)/\(d A h.free 3 false).same (d A w.free 3 false)/\N.same N/\bA.dead.same bA.dead/\d6.same d6/\True;let f3:=λ(u i2:bA) ↦bU .i64 Q/\((Y.same Y/\(a r).same (a r)/\(a c).same (a c)/\c6.same c6/\b1.same b1/\a8.same a8/\e5.same e5/\True)/\g9/\u.same (d sF.bP w.cz 66 false)/\i2.same (d sF w.bound 126 false)/\g4)/\(e<=Q/\Q<=C)/\(C - Q).toNat<(C - x).toNat;e<=x/\x<=C->(decide (x<C)=true->(decide (x≠r)=true->h.k0=E/\e<=x/\x<(↑E:Int)/\h.k0=E/\x.toNat<E/\h.k1=D/\e<=x/\x<(↑D:Int)/\h.k1=D/\x.toNat<D/\(∃(l:List Rat),∃(b:Rat),∃(p:List Rat),∃(pb:Rat),(d3=fL l/\e3=bu b/\V=fL p/\U=bu pb)/\(l.length=p.length/\l.length<=1000)/\(e<=c/\c<(↑l.length:Int))/\(∀(q:Rat),q∈l->Sz 10000000 q)/\(∀(q:Rat),q∈p->Sz 10000000 q)/\Sz 10000000 b/\Sz 10000000 pb)/\h.k0=E/\e<=x/\x<(↑E:Int)/\h.k0=E/\x.toNat<E/\h.k1=D/\e<=x/\x<(↑D:Int)/\h.k1=D/\x.toNat<D/\f3 (d sF.bP (a2.set x.toNat (fL (kA (vL d3) c.toNat (vL V)))) 66 false) (d sF (Z.set x.toNat (d0.fst,d0.snd.fst,d0.snd.snd)) 126 false))/\(decide (x≠r)=false->f3 (d sF.bP a2 66 false) (d sF Z 126 false)))/\(decide (x<C)=false->e<=c/\c<(↑P.length:Int)/\c.toNat<P.length/\(∃(l:List Rat),∃(b:Rat),∃(p:List Rat),∃(pb:Rat),(P=fL l/\d9=bu b/\V=fL p/\U=bu pb)/\(l.length=p.length/\l.length<=1000)/\(e<=c/\c<(↑l.length:Int))/\(∀(q:Rat),q∈l->Sz 10000000 q)/\(∀(q:Rat),q∈p->Sz 10000000 q)/\Sz 10000000 b/\Sz 10000000 pb)/\(cF f0/\cF U)/\(cF d9/\cF e6)/\h.k0=E/\e<=r/\r<(↑E:Int)/\h.k0=E/\r.toNat<E/\h.k1=D/\e<=r/\r<(↑D:Int)/\h.k1=D/\r.toNat<D/\h.k4=K/\e<=c/\c<(↑K:Int)/\h.k4=K/\c.toNat<K/\h.k3=F.length/\e<=r/\r<(↑F.length:Int)/\h.k3=F.length/\r.toNat<F.length/\h.k3=F.length/\e<=r/\r<(↑F.length:Int)/\h.k3=F.length/\r.toNat<F.length/\h.k4=K/\e<=c/\c<(↑K:Int)/\h.k4=K/\c.toNat<K/\(SV.bN []).same (SV.bN [])/\(j (e7::f2::f1::e9::f sF (fL (kA (vL P) c.toNat (vL V)))::k c4.fst::f o c4.snd.fst::f o c4.snd.snd::e0) 219 10 false).same (j [a B.n,a B.m,g 1 B.k0 1,g 2 B.k1 3,f sF B.cost,k B.v.fst,f o B.v.snd.fst,f o B.v.snd.snd,g 3 B.k3 1,g 4 B.k4 1] 219 10 false)/\(d sF.bP (a2.set r.toNat V) 66 false).same (d sF.bP B.cz 66 false)/\(d sF (Z.set r.toNat U) 126 false).same (d sF B.bound 126 false)/\(d A (F.set r.toNat (bp h.free c.toNat e)) 3 false).same (d A B.basic 3 false)/\(d A (h.free.set c.toNat (bp F r.toNat e)) 3 false).same (d A B.free 3 false)/\True))) (by kernel_rfl) ?_;conv=>zeta
 try simp only[sX]
 try simp only[bJ]
 try simp only[vcs]
 obtain⟨⟨⟨n0,n1⟩,m0,m1⟩,hw,hz⟩:=id M;have g7:=hw.cz;have g0:=hw.bound;have g2:=hw.basic;have b9:=hw.free;have i8:=hw.cost;have j3:=@J9 t.cz;have i4:=@fy t.bound;have e1:=hw.row r.toNat (by omega);have c3:∀k:Nat,((k:Nat):Int).toNat=k:=λk=>γb k;have h1:(ζ 1:Rat)=1:=rfl;have hR:bp (fM t.cz) r.toNat sF.bP.dflt=fL (bp t.cz r.toNat []):=Ko (by omega);have hA:bp (fL (bp t.cz r.toNat [])) c.toNat sF.dflt=bu (t.cf r.toNat c.toNat):=jj (by omega);have hB:bp (fL t.bound) r.toNat sF.dflt=bu (t.bd r.toNat):=jj (by omega);simp only[hR,hA,hB,ji,dU,c3,h1];have f7:=M.cf (i:=r.toNat) (j:=c.toNat) (by omega) (by omega);have e8:=M.bd (i:=r.toNat) (by omega);have s1:Sz 1 (1:Rat):=by unfold Sz;decide
 have a1:=J8 s1 f7 ha;have a3:=rO e8 a1;have j4:=@fy (bp t.cz r.toNat []);have f8:(pv (bp t.cz r.toNat []) (1 / t.cf r.toNat c.toNat)).length=n.toNat:=by unfold pv;rw[γT];exact e1
 have g3:=@fy (pv (bp t.cz r.toNat []) (1 / t.cf r.toNat c.toNat));have b8:∀{x y:List bM},x=y->(bA.row sF x 126 true).same (bA.row sF y 126 true):=by rintro _ _ rfl;rfl
 refine⟨by omega,by omega,r0,by omega,by omega,by omega,c0,by omega,by omega,⟨⟨dP s1 (by omega),dP f7 (by omega)⟩,ha⟩,by omega,by omega,by omega,by omega,by omega,r0,by omega,by omega,by omega,⟨⟨⟨by rw[b9];rfl,trivial,by omega⟩,rfl,b8 (by rw[yA,g3,f8,b9])⟩,by omega,by omega⟩,?_⟩;rintro j ⟨j0,j1⟩;have i9:=@yz (fL (pv (bp t.cz r.toNat []) (1 / t.cf r.toNat c.toNat))) j.toNat (false,([],[])) (by omega);refine⟨λhj=>?_,λhj=>?_⟩
 ·have hL:bp (fL (bp t.cz r.toNat [])) j.toNat sF.dflt=bu (t.cf r.toNat j.toNat):=jj (by omega);have hS:bp (fL (pv (bp t.cz r.toNat []) (1 / t.cf r.toNat c.toNat))) j.toNat (false,([],[]))=bu (t.cf r.toNat j.toNat*(1 / t.cf r.toNat c.toNat)):=by
   rw[jj (by omega),dj (by omega)];unfold pv Tb.cf;rw[εt,dj (l:=bp t.cz r.toNat []) (i:=j.toNat) (by omega)]
  simp only[hL,dU];refine⟨j0,by omega,by omega,⟨dP (M.cf (by omega) (by omega)) (by omega),dP a1 (by omega)⟩,by omega,j0,by omega,by omega,by omega,by omega,b8 ?_,by omega,by omega⟩;rw[yC (by omega) hS.symm,show(j+1).toNat=j.toNat+1 by omega]
 ·have e4:(eY (fL (pv (bp t.cz r.toNat []) (1 / t.cf r.toNat c.toNat))) j.toNat (false,([],[]))).set c.toNat (bu (1 / t.cf r.toNat c.toNat))=fL (kU (bp t.cz r.toNat []) c.toNat):=by
   rw[show j.toNat=(fL (pv (bp t.cz r.toNat []) (1 / t.cf r.toNat c.toNat))).length by omega,yB];exact adu (by omega)
  have i7:(kU (bp t.cz r.toNat []) c.toNat).length=n.toNat:=by rw[Ti];exact e1
  have i5:=@fy (kU (bp t.cz r.toNat []) c.toNat);simp only[e4,adv];have b7:∀q∈kU (bp t.cz r.toNat []) c.toNat,Sz 10000000 q:=λq hq=>by
   obtain⟨k,hk,rfl⟩:=γf.1 hq;rw[γp] at hk;split;·exact a1.mono (by omega)
   ·exact(rO (M.cf (i:=r.toNat) (j:=k) (by omega) (by omega)) a1).mono (by omega)
  refine⟨by omega,c0,by omega,by omega,by omega,by omega,r0,by omega,by omega,by omega,⟨dP e8 (by omega),dP a1 (by omega)⟩,by omega,⟨⟨⟨trivial,by omega⟩,rfl,rfl,rfl,rfl,rfl,rfl⟩,by omega,by omega⟩,?_⟩;rintro i ⟨i0,i1⟩;have h0:(lx t r.toNat c.toNat i.toNat).cz.length=m.toNat:=by show(iW _ _ _ _ _).length=_;rw[wu];exact g7
  have h9:(lx t r.toNat c.toNat i.toNat).bound.length=m.toNat:=by show(iW _ _ _ _ _).length=_;rw[wu];exact g0
  have j2:=@J9 (lx t r.toNat c.toNat i.toNat).cz;have i3:=@fy (lx t r.toNat c.toNat i.toNat).bound;have i6:=@fy t.cost;have a4:∀{a b:Tb},a.cz.length=b.cz.length->a.bound.length=b.bound.length->a.cost=b.cost->a.value=b.value->a.basic.length=b.basic.length->a.free.length=b.free.length->
    (bA.cells [.si .i64 n,.si .i64 m,.ow 1 a.cz.length 1,.ow 2 a.bound.length 3,.row sF (fL a.cost),.sb (bu a.value).1,.row (.i .u32) (bu a.value).2.1,.row (.i .u32) (bu a.value).2.2,.ow 3 a.basic.length 1,.ow 4 a.free.length 1] 219 10 false).same
    (bA.cells [.si .i64 n,.si .i64 m,.ow 1 b.cz.length 1,.ow 2 b.bound.length 3,.row sF (fL b.cost),.sb (bu b.value).1,.row (.i .u32) (bu b.value).2.1,.row (.i .u32) (bu b.value).2.2,.ow 3 b.basic.length 1,.ow 4 b.free.length 1] 219 10 false):=λh1 h2 h3 h4 h5 h6=>by
   rw[h1,h2,h3,h4,h5,h6];rfl
  have a0:∀{x y:List (List bM)},x=y->(bA.row sF.bP x 66 false).same (bA.row sF.bP y 66 false):=by rintro _ _ rfl;rfl
  have Y:∀{x y:List bM},x=y->(bA.row sF x 126 false).same (bA.row sF y 126 false):=by rintro _ _ rfl;rfl
  have X:∀{x y:List Int},x=y->(bA.row (.i .i64) x 3 false).same (bA.row (.i .i64) y 3 false):=by rintro _ _ rfl;rfl
  refine⟨λhi=>⟨λg5=>?_,λg5=>?_⟩,λhi=>?_⟩
  ·have g1:bp (fM (lx t r.toNat c.toNat i.toNat).cz) i.toNat sF.bP.dflt=fL (bp t.cz i.toNat []):=by
    rw[Ko (by omega)];congr 1;exact T9 (by omega)
   have g8:bp (fL (lx t r.toNat c.toNat i.toNat).bound) i.toNat sF.dflt=bu (t.bd i.toNat):=by
    rw[jj (by omega)];congr 1;exact T9 (by omega)
   have j5:=hw.row i.toNat (by omega);simp only[g1,g8,jY,dU];refine⟨by omega,i0,by omega,by omega,by omega,by omega,i0,by omega,by omega,by omega,⟨bp t.cz i.toNat [],t.bd i.toNat,kU (bp t.cz r.toNat []) c.toNat,t.bd r.toNat*(1 / t.cf r.toNat c.toNat),⟨rfl,rfl,rfl,rfl⟩,⟨by omega,by omega⟩,⟨c0,by omega⟩,λq hq=>?_,b7,(M.bd (by omega)).mono (by omega),a3.mono (by omega)⟩,by omega,i0,by omega,by omega,by omega,by omega,i0,by omega,by omega,by omega,by omega,⟨a4 ?_ ?_ rfl rfl rfl rfl,a0 ?_,Y ?_,rfl,rfl⟩,by omega,by omega⟩;·exact(hz.1 _ (dn (d:=[]) (by omega)) q hq).mono (by omega)
   ·show(iW _ _ _ _ _).length=(iW _ _ _ _ _).length;rw[wu,wu]
   ·show(iW _ _ _ _ _).length=(iW _ _ _ _ _).length;rw[wu,wu]
   ·rw[Ud,show(i+1).toNat=i.toNat+1 by omega];congr 1;exact Ua (by omega) (by omega)
   ·rw[yD,show(i+1).toNat=i.toNat+1 by omega];congr 1;exact Ua (f:=t.bd) (g:=λk=>t.bd k - t.cf k c.toNat*(t.bd r.toNat*(1 / t.cf r.toNat c.toNat))) (by omega) (by omega)
  ·have e:lx t r.toNat c.toNat (i+1).toNat=lx t r.toNat c.toNat i.toNat:=by
    rw[show(i+1).toNat=r.toNat+1 by omega,show i.toNat=r.toNat by omega];unfold lx;rw[Ub,Ub]
   rw[e];refine⟨?_,⟨rfl,rfl,rfl,rfl,rfl⟩,?_,?_⟩<;>omega
  ·have f5:=M.cs (j:=c.toNat) (by omega);have hC:bp (fL t.cost) c.toNat sF.dflt=bu (t.cs c.toNat):=jj (by omega);have h8:(lx t r.toNat c.toNat i.toNat).cost=t.cost:=rfl;have g6:(lx t r.toNat c.toNat i.toNat).value=t.value:=rfl;have f9:(lx t r.toNat c.toNat i.toNat).free=t.free:=rfl;have h7:(lx t r.toNat c.toNat i.toNat).basic=t.basic:=rfl;simp only[hC,h8,g6,f9,h7,jY,dU];refine⟨c0,by omega,by omega,⟨t.cost,t.value,kU (bp t.cz r.toNat []) c.toNat,t.bd r.toNat*(1 / t.cf r.toNat c.toNat),⟨rfl,rfl,rfl,rfl⟩,⟨by omega,by omega⟩,⟨c0,by omega⟩,λq hq=>(hz.2.2.1 q hq).mono (by omega),b7,hz.2.2.2.mono (by omega),a3.mono (by omega)⟩,⟨dP f5 (by omega),dP a3 (by omega)⟩,⟨dP hz.2.2.2 (by omega),dP (rO f5 a3) (by omega)⟩,
    by omega,r0,by omega,by omega,by omega,by omega,r0,by omega,by omega,by omega,c0,by omega,by omega,r0,by omega,by omega,r0,by omega,by omega,c0,by omega,by omega,?_,a0 ?_,Y ?_,X rfl,X rfl⟩
   ·have b6:=Tj (r:=r.toNat) (c:=c.toNat) hw;rw[h0,h9,g2,b9,b6.cz,b6.bound,b6.basic,b6.free];rfl
   ·rw[Ud,show i.toNat=t.cz.length by omega];congr 1;exact Uc (by omega)
   ·rw[yD,show i.toNat=t.bound.length by omega];congr 1;exact Uc (by omega)
def okO (n m:Nat) (t:Tb):Prop:=∃a M G,Small n m M G a/\Run n m a t/\kB m t
theorem adx {n m:Nat} {t:Tb} (h:okO n m t):fw n m (uH n m t) t=true:=by
 obtain⟨e,M,G,c,b,a⟩:=h;have d:=J4 b a;unfold uH;grind
noncomputable def KB:dD:=uF 140 Unit .nil (λn m t _=>okO n.toNat m.toNat t) (λn m t _=> .bN [.si .i64 (if eG (lastT n.toNat m.toNat t) n.toNat<0 then 0 else eG (lastT n.toNat m.toNat t) n.toNat),.sb (decide (eG (lastT n.toNat m.toNat t) n.toNat<0))]) (λn m t _=>lastT n.toNat m.toNat t)
def tS (t:Tb) (s:cG):Tb:=match EF s.o with
 |some x=>x.t
 |none=>t
noncomputable def ady (n m:Int) (t:Tb):Nat->cC
 |1=> .inv Tb (λx=>⟨[(0,.ptr 0 0 10)],(bJ n m x).gW⟩) (tS t) (λx=>okO n.toNat m.toNat x/\lastT n.toNat m.toNat x=lastT n.toNat m.toNat t/\fw n.toNat m.toNat (uH n.toNat m.toNat t) x=true) (λx=>yv n.toNat m.toNat (uH n.toNat m.toNat t) x) λ_ _=> .look
 |_=> .look
theorem adz {n m:Int} {t:Tb} (h:okO n.toNat m.toNat t) (e:0<=n/\n<=1000) (f:0<=m/\m<=1000):kV n m t:=by
 obtain⟨c,M,G,a,b,d⟩:=h;grind[TN]
theorem h402:eu Tryz.prog KB:=by
 refine lp (L:=[]) (W:=[Kq,Kr,r408]) KB (λa=>ady a.1.n a.1.m a.1.t) (by grind[h411,h412,h408]) (by simp) ?_;rintro⟨x,u⟩ ⟨n,m,t,U,a6,hd⟩;simp only at U hd;subst U;refine bQ (let a:=bA.row;let c:=Ω .i64;let e:=γz;let p:=Δ;let r:=bA.cells;let y:=(0:Int);let C:=γn;let G:=SV.bN;let I:=γU 0 0 10;let H:=(bJ n m t).n;let F:=(bJ n m t).m;let z:=bw.i .u32;let S:=(bJ n m t).t;let q:=bJ H F S;let s:=bw.i .i64;let o:=H.toNat;let w:=F.toNat;let D:=lastT o w S;let B:=uH o w S;let V:=G [c (if eG D o<y then y else eG D o),C (decide (eG D o<y))];let d:=bJ H F D;let N:=r [c d.n,c d.m,e 1 d.k0 1,e 2 d.k1 3,p sF d.cost,C d.v.fst,p z d.v.snd.fst,p z d.v.snd.snd,e 3 d.k3 1,e 4 d.k4 1] 219 10 false;let Z:=a sF.bP d.cz 66 false;let Y:=a sF d.bound 126 false;let O:=a s d.basic 3 false;let T:=a s d.free 3 false;(((I.same I/\True)/\(r [c H,c F,e 1 (bJ n m t).k0 1,e 2 (bJ n m t).k1 3,p sF (bJ n m t).cost,C (bJ n m t).v.fst,p z (bJ n m t).v.snd.fst,p z (bJ n m t).v.snd.snd,e 3 (bJ n m t).k3 1,e 4 (bJ n m t).k4 1] 219 10 false).same (r [c q.n,c q.m,e 1 q.k0 1,e 2 q.k1 3,p sF q.cost,C q.v.fst,p z q.v.snd.fst,p z q.v.snd.snd,e 3 q.k3 1,e 4 q.k4 1] 219 10 false)/\(a sF.bP (bJ n m t).cz 66 false).same (a sF.bP q.cz 66 false)/\(a sF (bJ n m t).bound 126 false).same (a sF q.bound 126 false)/\(a s (bJ n m t).basic 3 false).same (a s q.basic 3 false)/\(a s (bJ n m t).free 3 false).same (a s q.free 3 false)/\True)/\okO o w S/\D=D/\fw o w B S=true)/\∀(x:Tb),let k:=bJ H F x;let j:=eG k.t k.n.toNat;let K:=decide (j<y);let b:=bJ k.n k.m k.t;let A:=ei b.t j.toNat b.m.toNat;let Q:=decide (A<y);let l:=bJ b.n b.m b.t;let a0:=fV l.t A.toNat j.toNat;let h:=bJ l.n l.m a0;let f:=bJ H F h.t;let X:=λ(u a1:Int) (a4 a5:Tb) (a3:bA) ↦let E:=bJ u a1 a4;let R:=bJ E.n E.m E.t;let g:=bJ R.n R.m a5;(r [c g.n,c g.m,e 1 g.k0 1,e 2 g.k1 3,p sF g.cost,C g.v.fst,p z g.v.snd.fst,p z g.v.snd.snd,e 3 g.k3 1,e 4 g.k4 1] 219 10 false).same a3;okO o w x/\lastT o w x=D/\fw o w B x=true->(∃(n:Int),∃(m:Int),∃(t:Tb),k=bJ n m t/\kV n m t/\True)/\(K=true->(G [γo .i64 0,γ0 true]).same V/\(r [c b.n,c b.m,e 1 b.k0 1,e 2 b.k1 3,p sF b.cost,C b.v.fst,p z b.v.snd.fst,p z b.v.snd.snd,e 3 b.k3 1,e 4 b.k4 1] 219 10 false).same N/\(a sF.bP b.cz 66 false).same Z/\(a sF b.bound 126 false).same Y/\(a s b.basic 3 false).same O/\(a s b.free 3 false).same T/\True)/\(K=false->(∃(n:Int),∃(m:Int),∃(t:Tb),b=bJ n m t/\kV n m t/\y<=j/\j<n)/\(Q=true->(G [c j,γ0 false]).same V/\X H F x b.t N/\(a sF.bP l.cz 66 false).same Z/\(a sF l.bound 126 false).same Y/\(a s l.basic 3 false).same O/\(a s l.free 3 false).same T/\True)/\(Q=false->(∃(n:Int),∃(m:Int),∃(t:Tb),l=bJ n m t/\kV n m t/\(y<=A/\A<m)/\(y<=j/\j<n)/\t.cf A.toNat j.toNat≠(0:Rat))/\0=0/\((I.same I/\True)/\X k.n k.m k.t a0 (r [c f.n,c f.m,e 1 f.k0 1,e 2 f.k1 3,p sF f.cost,C f.v.fst,p z f.v.snd.fst,p z f.v.snd.snd,e 3 f.k3 1,e 4 f.k4 1] 219 10 false)/\(a sF.bP h.cz 66 false).same (a sF.bP f.cz 66 false)/\(a sF h.bound 126 false).same (a sF f.bound 126 false)/\(a s h.basic 3 false).same (a s f.basic 3 false)/\(a s h.free 3 false).same (a s f.free 3 false)/\True)/\(okO o w h.t/\lastT o w h.t=D/\fw o w B h.t=true)/\yv o w B h.t<yv o w B x))) (by kernel_rfl) ?_;simp only[adh,sX,TI,TJ];try simp only[vcs]
 obtain⟨⟨hn,hm⟩,hw,hz⟩:=id a6;refine⟨⟨hd,adx hd⟩,?_⟩;rintro x ⟨U,hl,he⟩;have p:=adz U hn hm;have C:stepT n.toNat m.toNat x=if eG x n.toNat<0 then none else if ei x (eG x n.toNat).toNat m.toNat<0 then none else some (fV x (ei x (eG x n.toNat).toNat m.toNat).toNat (eG x n.toNat).toNat):=rfl;have a8:=p.2.1;have a9:∀{y:Tb},y=lastT n.toNat m.toNat t->bJ n m y=bJ n m (lastT n.toNat m.toNat t):=by simp_all
 refine⟨⟨n,m,x,rfl,p⟩,λJ=>?_,λJ=>?_⟩
 ·rw[if_pos J] at C;have e:=TT C;rw[hl] at e;rw[<-e] at J ⊢;rw[if_pos J,decide_eq_true J];exact⟨⟨rfl,rfl⟩,rfl,rfl,rfl,rfl,rfl⟩
 ·have I:¬eG x n.toNat<0:=J;rw[if_neg I] at C;rcases @uD x n.toNat with⟨e1,e2⟩|⟨c,e1,e2,e3,e4⟩;·omega
  ·refine⟨⟨n,m,x,rfl,p,by omega,by omega⟩,λh1=>?_,λh1=>?_⟩
   ·rw[if_pos h1] at C;have e:=TT C;rw[hl] at e;rw[e,if_neg I,decide_eq_false I];exact⟨⟨rfl,rfl⟩,rfl,rfl,rfl,rfl,rfl⟩
   ·have a7:¬ei x (eG x n.toNat).toNat m.toNat<0:=h1;rw[if_neg a7] at C;rcases @wo x (eG x n.toNat).toNat m.toNat with⟨l1,l2⟩|⟨r,l1,l2,l3,l4⟩;·omega
    ·refine⟨⟨n,m,x,rfl,p,⟨by omega,by omega⟩,⟨by omega,by omega⟩,?_⟩,?_⟩;·grind
     ·obtain⟨t0,M,G,g1,g2,g3⟩:=U;have P:=J2 g2 g3 C;have a2:=J4 g2 g3;refine⟨⟨⟨t0,M,G,g1,P.1,P.2⟩,?_,TE he C⟩,left_step he C⟩;grind[adp]
def gu (t:Tb) (n:Nat):Nat->List Rat
 |0=>δ n 0
 |k+1=>if t.bv k<n then(gu t n k).set (t.bv k).toNat (t.bd k) else gu t n k
def jB (t:Tb) (n m:Nat):Nat->List Rat
 |0=>δ m 0
 |k+1=>if(n:Int)<=t.fv k/\t.fv k<n+m then(jB t n m k).set (t.fv k - n).toNat (-(t.cs k)) else jB t n m k
theorem EL {t:Tb} {n:Nat}:∀{k:Nat},(gu t n k).length=n
 |0=>by simp[gu];|k+1=>by
  have:=@EL t n k;grind[gu]
theorem EM {t:Tb} {n m:Nat}:∀{k:Nat},(jB t n m k).length=m
 |0=>by simp[jB];|k+1=>by
  have:=@EM t n m k;grind[jB]
def EN:dD:=uF 141 Unit .nil (λ_ _ t _=>∀v∈t.basic,0<=v) (λn m t _=> .row sF (fL (gu t n.toNat m.toNat))) (λ_ _ t _=>t)
def adA (n m:Int) (t:Tb):Nat->cC
 |3=> .inv Int (λi=>⟨[(0,.ptr 0 0 10),(3,.ow 5 n.toNat 3),(14,.ow 3 t.basic.length 1),(15,.si .i64 t.basic.length),(16,.si .i64 i)],(bJ n m t).gW++[.row sF (fL (gu t n.toNat i.toNat)) 126 false]⟩)
   (λs=>iS s 16) (λi=>0<=i/\i<=m) (λi=>(m - i).toNat) λ_ _=> .look
 |_=> .look
theorem h403:eu Tryz.prog EN:=by
 refine lp (L:=[]) (W:=[r413]) EN (λa=>adA a.1.n a.1.m a.1.t) (by grind[h413]) (by simp) ?_;rintro⟨x,u⟩ ⟨n,m,t,U,O,V⟩;simp only at U V;subst U;refine bQ (let a:=bA.row;let h:=Ω .i64;let k:=(0:Int);let y:=Δ;let K:=γz;let F:=(bJ n m t).n;let J:=γU 0 0 10;let r:=F.toNat;let I:=K 5 r 3;let S:=K 3 (bJ n m t).k3 1;let B:=(bJ n m t).t;let D:=B.basic.length;let M:=K 3 D 1;let Q:=h (↑D:Int);let z:=(bJ n m t).m;let s:=bw.i .u32;let b:=bJ F z B;let p:=bA.cells [h b.n,h b.m,K 1 b.k0 1,K 2 b.k1 3,y sF b.cost,γn b.v.fst,y s b.v.snd.fst,y s b.v.snd.snd,K 3 b.k3 1,K 4 b.k4 1] 219 10 false;let f:=a sF.bP b.cz 66 false;let g:=a sF b.bound 126 false;let w:=bw.i .i64;let d:=b.basic;let j:=a w d 3 false;let o:=a w b.free 3 false;let q:=b.bound.length;(k<=F/\F<=(1000:Int))/\(((J.same J/\I.same I/\S.same M/\(h (↑(bJ n m t).k3:Int)).same Q/\(γo .i64 0).same (h 0)/\True)/\(bA.cells [h F,h z,K 1 (bJ n m t).k0 1,K 2 (bJ n m t).k1 3,y sF (bJ n m t).cost,γn (bJ n m t).v.fst,y s (bJ n m t).v.snd.fst,y s (bJ n m t).v.snd.snd,S,K 4 (bJ n m t).k4 1] 219 10 false).same p/\(a sF.bP (bJ n m t).cz 66 false).same f/\(a sF (bJ n m t).bound 126 false).same g/\(a w (bJ n m t).basic 3 false).same j/\(a w (bJ n m t).free 3 false).same o/\(a sF (fL (δ r (0:Rat))) 126 false).same (a sF (fL (gu B r 0)) 126 false)/\True)/\k<=k/\k<=z)/\∀(x:Int),let e:=x+(1:Int);let H:=h e;let C:=decide (x<(↑D:Int));let l:=bp d x.toNat k;let E:=decide (l<b.n);let c:=fL (gu B r x.toNat);let A:=bp b.bound x.toNat sF.dflt;let G:=λ(u:bA) ↦bU .i64 e/\((J.same J/\I.same I/\M.same M/\Q.same Q/\H.same H/\True)/\p.same p/\f.same f/\g.same g/\j.same j/\o.same o/\u.same (a sF (fL (gu B r e.toNat)) 126 false)/\True)/\(k<=e/\e<=z)/\(z - e).toNat<(z - x).toNat;k<=x/\x<=z->(C=true->D=d.length/\k<=x/\x<(↑d.length:Int)/\D=d.length/\x.toNat<d.length/\(E=true->b.k1=q/\k<=x/\x<(↑q:Int)/\b.k1=q/\x.toNat<q/\r=c.length/\k<=l/\l<(↑c.length:Int)/\r=c.length/\l.toNat<c.length/\G (a sF (c.set l.toNat (A.fst,A.snd.fst,A.snd.snd)) 126 false))/\(E=false->G (a sF c 126 false)))/\(C=false->r=c.length/\(y sF c).same (y sF (fL (gu B r z.toNat)))/\p.same p/\f.same f/\g.same g/\j.same j/\o.same o/\True)) (by kernel_rfl) ?_;simp only[sX];try simp only[bJ]
 simp only[vcs];obtain⟨⟨⟨Z,n1⟩,m0,m1⟩,N,hz⟩:=id O;have a1:=N.basic;have Y:=N.bound;have a0:=@fy t.bound;have K:∀k:Nat,bp t.basic k 0=t.bv k:=λk=>rfl;have h:∀{x y:List bM},x=y->(bA.row sF x 126 false).same (bA.row sF y 126 false):=by rintro _ _ rfl;rfl
 refine⟨⟨Z,n1⟩,⟨h rfl,by omega,by omega⟩,?_⟩;rintro i ⟨T,i1⟩;have a2:=@EL t n.toNat i.toNat;have a3:=@fy (gu t n.toNat i.toNat);refine⟨λR=>?_,λR=>⟨by omega,by grind⟩⟩;have hv:=V _ (A5 N (show i.toNat<m.toNat by omega));have X:bp (fL t.bound) i.toNat sF.dflt=bu (t.bd i.toNat):=jj (by omega);have hs:gu t n.toNat (i+1).toNat=if t.bv i.toNat<n.toNat then(gu t n.toNat i.toNat).set (t.bv i.toNat).toNat (t.bd i.toNat) else gu t n.toNat i.toNat:=by
  rw[show(i+1).toNat=i.toNat+1 by omega];rfl
 simp only[K,X,ji,hs];refine⟨T,R,by omega,λP=>⟨by omega,T,by omega,by omega,by omega,by omega,hv,by omega,by omega,by omega,by omega,h ?_,by omega,by omega⟩,λP=>⟨by omega,h ?_,by omega,by omega⟩⟩;·rw[yD,if_pos (by omega)]
 grind
def EO:dD:=uF 143 Unit .nil (λ_ _ t _=>True) (λn m t _=> .row sF (fL (jB t n.toNat m.toNat n.toNat))) (λ_ _ t _=>t)
def adB (n m:Int) (t:Tb):Nat->cC
 |3=> .inv Int (λi=>⟨[(0,.ptr 0 0 10),(3,.ow 5 m.toNat 3),(14,.ow 4 t.free.length 1),(15,.si .i64 t.free.length),(16,.si .i64 i)],(bJ n m t).gW++[.row sF (fL (jB t n.toNat m.toNat i.toNat)) 126 false]⟩)
   (λs=>iS s 16) (λi=>0<=i/\i<=n) (λi=>(n - i).toNat) λ_ _=> .look
 |_=> .look
theorem h405:eu Tryz.prog EO:=by
 refine lp (L:=[yd]) (W:=[r413]) EO (λa=>adB a.1.n a.1.m a.1.t) (by grind[h413]) (by grind[h130]) ?_;rintro⟨x,u⟩ ⟨n,m,t,Z,I,hd⟩;simp only at Z hd;subst Z;refine bQ (let a:=bA.row;let k:=Ω .i64;let l:=(0:Int);let u:=Δ;let y:=γz;let I:=bU .i64;let H:=(bJ n m t).m;let G:=γU 0 0 10;let s:=H.toNat;let F:=y 5 s 3;let V:=y 4 (bJ n m t).k4 1;let E:=(bJ n m t).t;let M:=E.free.length;let P:=y 4 M 1;let O:=k (↑M:Int);let q:=(bJ n m t).n;let z:=bw.i .u32;let b:=bJ q H E;let j:=bA.cells [k b.n,k b.m,y 1 b.k0 1,y 2 b.k1 3,u sF b.cost,γn b.v.fst,u z b.v.snd.fst,u z b.v.snd.snd,y 3 b.k3 1,y 4 b.k4 1] 219 10 false;let e:=a sF.bP b.cz 66 false;let g:=a sF b.bound 126 false;let A:=bw.i .i64;let h:=a A b.basic 3 false;let o:=b.free;let f:=a A o 3 false;let r:=q.toNat;(l<=H/\H<=(1000:Int))/\(((G.same G/\F.same F/\V.same P/\(k (↑(bJ n m t).k4:Int)).same O/\(γo .i64 0).same (k 0)/\True)/\(bA.cells [k q,k H,y 1 (bJ n m t).k0 1,y 2 (bJ n m t).k1 3,u sF (bJ n m t).cost,γn (bJ n m t).v.fst,u z (bJ n m t).v.snd.fst,u z (bJ n m t).v.snd.snd,y 3 (bJ n m t).k3 1,V] 219 10 false).same j/\(a sF.bP (bJ n m t).cz 66 false).same e/\(a sF (bJ n m t).bound 126 false).same g/\(a A (bJ n m t).basic 3 false).same h/\(a A (bJ n m t).free 3 false).same f/\(a sF (fL (δ s (0:Rat))) 126 false).same (a sF (fL (jB E r s 0)) 126 false)/\True)/\l<=l/\l<=q)/\∀(x:Int),let c:=x+(1:Int);let w:=k c;let d:=fL (jB E r s x.toNat);let K:=a sF (fL (jB E r s c.toNat)) 126 false;let N:=decide (x<(↑M:Int));let C:=bp o x.toNat l;let S:=decide (b.n<=C);let R:=decide (C<b.n+b.m);let p:=C - b.n;let B:=bp b.cost x.toNat sF.dflt;let D:=(B.fst,B.snd.fst,B.snd.snd);let J:=(bu (-bK D)).snd;let Q:=I c/\((G.same G/\F.same F/\P.same P/\O.same O/\w.same w/\True)/\j.same j/\e.same e/\g.same g/\h.same h/\f.same f/\(a sF d 126 false).same K/\True)/\(l<=c/\c<=q)/\(q - c).toNat<(q - x).toNat;l<=x/\x<=q->(N=true->M=o.length/\l<=x/\x<(↑o.length:Int)/\M=o.length/\x.toNat<o.length/\(S=true->I (b.n+b.m)/\(R=true->I p/\l<=x/\x<(↑b.cost.length:Int)/\x.toNat<b.cost.length/\cF D/\s=d.length/\l<=p/\p<(↑d.length:Int)/\s=d.length/\p.toNat<d.length/\I c/\((G.same G/\F.same F/\P.same P/\O.same O/\w.same w/\True)/\j.same j/\e.same e/\g.same g/\h.same h/\f.same f/\(a sF (d.set p.toNat ((bu (-bK D)).fst,J.fst,J.snd)) 126 false).same K/\True)/\(l<=c/\c<=q)/\(q - c).toNat<(q - x).toNat)/\(R=false->Q))/\(S=false->Q))/\(N=false->s=d.length/\(u sF d).same (u sF (fL (jB E r s r)))/\j.same j/\e.same e/\g.same g/\h.same h/\f.same f/\True)) (by kernel_rfl) ?_;simp only[sX];try simp only[bJ]
 simp only[vcs];obtain⟨⟨⟨n0,n1⟩,m0,m1⟩,X,hz⟩:=id I;have a0:=X.free;have a4:=X.cost;have a1:=@fy t.cost;have T:∀k:Nat,bp t.free k 0=t.fv k:=λk=>rfl;have l:∀{x y:List bM},x=y->(bA.row sF x 126 false).same (bA.row sF y 126 false):=by rintro _ _ rfl;rfl
 refine⟨⟨m0,m1⟩,⟨l rfl,by omega,by omega⟩,?_⟩;rintro i ⟨Y,i1⟩;have a3:=@EM t n.toNat m.toNat i.toNat;have a2:=@fy (jB t n.toNat m.toNat i.toNat);refine⟨λU=>?_,λU=>⟨by omega,by grind⟩⟩;have hC:bp (fL t.cost) i.toNat sF.dflt=bu (t.cs i.toNat):=jj (by omega);have hs:jB t n.toNat m.toNat (i+1).toNat=if(n.toNat:Int)<=t.fv i.toNat/\t.fv i.toNat<n.toNat+m.toNat then(jB t n.toNat m.toNat i.toNat).set (t.fv i.toNat - n.toNat).toNat (-(t.cs i.toNat)) else jB t n.toNat m.toNat i.toNat:=by
  rw[show(i+1).toNat=i.toNat+1 by omega];rfl
 simp only[T,hC,ji,hs,dU];refine⟨Y,U,by omega,λh1=>⟨by omega,λh2=>⟨by omega,Y,by omega,by omega,dP (I.cs (by omega)) (by omega),by omega,by omega,by omega,by omega,by omega,by omega,l ?_,by omega,by omega⟩,λh2=>⟨by omega,l ?_,by omega,by omega⟩⟩,λh1=>⟨by omega,l ?_,by omega,by omega⟩⟩;·rw[yD,if_pos (by omega),show(n.toNat:Int)=n by omega]
 all_goals grind
@[reducible] def sR:bw:=.pair (.bP sF) sF
abbrev sY:=List bM×List (List bM×bM)
def yE:qA sY where
 put a:=.agg [.row sF a.1,.row sR a.2];dec
  | .agg [r,v]=>match jH sF r,jH sR v with
   |some c,some v=>some (c,v)
   |_,_=>none
  |_=>none;ok v a h:=by
  grind[SV.g,gL,oZ]
 inj a b h:=by
  obtain⟨c,v⟩:=a;obtain⟨f,i⟩:=b;simp only[SV.g,gL,AV.agg.injEq,Ξ,and_true,δ4] at h;have e:=lG sF h.1.1 h.1.2;have d:=lG sR h.2.1 h.2.2;rw[e,d]
def gK (x:bM):Prop:=(bB x.2.1/\bB x.2.2)/\x.2.1.length<=10000000/\x.2.2.length<=10000000
def KC:bL:=⟨169,List bM,.one (cV sF),λl=>(show List bM from l).length<=1000/\∀x∈(show List bM from l),gK x,λl=> .sb ((show List bM from l).all okF)⟩
def adE (l:List bM):Nat->cC
 |2=> .inv Int (λi=>⟨[(5,.row sF l),(6,.si .i64 l.length),(7,.si .i64 i)],[]⟩)
   (λs=>iS s 7) (λi=>(0<=i/\i<=l.length)/\(l.take i.toNat).all okF=true) (λi=>(l.length - i).toNat) λ_ _=> .look
 |_=> .look
theorem h406:Holds Tryz.prog KC:=by
 refine cq (L:=[uE]) KC adE (by grind[h407]) ?_;rintro(l:List bM) ⟨(q:l.length<=1000),(n:∀x∈l,gK x)⟩;refine bQ (let d:=(0:Int);let e:=Ω .i64;let g:=Δ;let a:=(↑l.length:Int);let f:=e a;((((g sF l).same (g sF l)/\(e (↑l.length:Int)).same f/\(γo .i64 0).same (e 0)/\True)/\True)/\(d<=d/\d<=a)/\true=true)/\∀(x:Int),let b:=bp l x.toNat sF.dflt;let c:=x+(1:Int);let k:=e c;let m:=λ(u:Bool) ↦(!okF (b.fst,b.snd.fst,b.snd.snd))=u;(d<=x/\x<=a)/\(τ x.toNat l).all okF=true->(decide (x<a)=true->d<=x/\x<(↑l.length:Int)/\x.toNat<l.length/\((bB b.snd.fst/\bB b.snd.snd)/\Φ b.snd.fst<=10000000/\Φ b.snd.snd<=10000000)/\(m true->(γ0 false).same (γn (l.all okF)))/\(m false->bU .i64 c/\(((g sF l).same (g sF l)/\f.same f/\k.same k/\True)/\True)/\((d<=c/\c<=a)/\(τ c.toNat l).all okF=true)/\(a - c).toNat<(a - x).toNat))/\(decide (x<a)=false->(γ0 true).same (γn (l.all okF)))) (by kernel_rfl) ?_;simp only[vcs];refine⟨⟨by omega,by omega⟩,?_⟩;rintro i ⟨⟨j,t⟩,e⟩;refine⟨λh=>?_,λh=>?_⟩
 ·have p:=dn (d:=sF.dflt) (show i.toNat<l.length by omega);have r:=jN (d:=sF.dflt) j h;have g:=n _ p;have o:okF ((bp l i.toNat sF.dflt).1,(bp l i.toNat sF.dflt).2.1,(bp l i.toNat sF.dflt).2.2)=okF (bp l i.toNat sF.dflt):=rfl;rw[o];refine⟨j,h,by omega,⟨g.1,g.2.1,g.2.2⟩,λs=>?_,λv=>⟨by omega,⟨⟨by omega,by omega⟩,?_⟩,by omega⟩⟩;all_goals grind
 ·rw[show i.toNat=l.length by omega,χ] at e;simp_all
def KD:bL:=⟨136,sY,.one yE,λa=>(a.1.length<=160/\a.2.length<=40)/\(∀x∈a.1,gK x/\okF x=true)/\∀r∈a.2,r.1.length=a.1.length/\(∀x∈r.1,gK x/\okF x=true)/\gK r.2/\okF r.2=true,λ_=> .si .i64 0⟩
def adF (a:sY):Nat->cC
 |6=> .inv Int (λi=>⟨[(1,.ptr 0 0 2),(20,.row sR a.2),(21,.si .i64 a.2.length),(22,.si .i64 i)],[.cells [.row sF a.1,.row sR a.2] 172 2 false]⟩)
   (λs=>iS s 22) (λi=>0<=i/\i<=a.2.length) (λi=>(a.2.length - i).toNat) λ_ _=> .look
 |_=> .look
theorem h398:Holds Tryz.prog KD:=by
 refine cq (L:=[KC,uE]) KD adF (by grind[h406,h407]) ?_;rintro⟨g,c⟩ ⟨⟨y,w⟩,E,B⟩;simp only at y w E B;refine bQ (let d:=γo .i64;let h:=(0:Int);let i:=Ω .i64;let l:=γo .i64 0;let F:=decide ((160:Int)<(↑g.length:Int));let e:=i 0;let v:=(↑c.length:Int);let C:=decide ((40:Int)<v);let t:=γU 0 0 2;let r:=Δ sR c;let f:=(↑c.length:Int);let z:=i f;let s:=bA.cells [Δ sF g,r] 172 2 false;(F=true->(d 3).same e)/\(F=false->(C=true->(d 3).same e)/\(C=false->(g.length<=1000/\∀(x:bM),x∈g->gK x)/\((!g.all okF)=true->(d 2).same e)/\((!g.all okF)=false->(((t.same t/\r.same r/\(i v).same z/\(d 0).same e/\True)/\s.same s/\True)/\h<=h/\h<=f)/\∀(x:Int),let a:=bp c x.toNat sR.dflt;let j:=a.snd.snd.fst;let k:=a.snd.snd.snd;let n:=!List.all a.fst okF;let b:=x+(1:Int);let q:=i b;let A:=λ(u:Bool) ↦(!okF (a.snd.fst,j,k))=u;let m:=λ(u:Bool) ↦decide ((↑(Φ a.fst):Int)≠(↑g.length:Int))=u;h<=x/\x<=f->(decide (x<f)=true->h<=x/\x<v/\x.toNat<c.length/\(m true->(d 2).same e)/\(m false->(Φ a.fst<=1000/\∀(x:bM),x∈a.fst->gK x)/\(n=true->(d 2).same e)/\(n=false->((bB j/\bB k)/\Φ j<=10000000/\Φ k<=10000000)/\(A true->(d 2).same e)/\(A false->bU .i64 b/\((t.same t/\r.same r/\z.same z/\q.same q/\True)/\s.same s/\True)/\(h<=b/\b<=f)/\(f - b).toNat<(f - x).toNat))))/\(decide (x<f)=false->(d 0).same e))))) (by kernel_rfl) ?_;simp only[vcs];have D:∀{l:List bM},(∀x∈l,gK x/\okF x=true)->l.all okF=true:=λh=>ξ.2 λx o=>(h x o).2;refine⟨λh=>by omega,λ_=>⟨λh=>by omega,λ_=>⟨⟨by omega,λx o=>(E x o).1⟩,λh=>(by grind),λ_=>⟨⟨by omega,by omega⟩,?_⟩⟩⟩⟩;rintro i ⟨I,J⟩;refine⟨λG=>?_,λ_=>trivial⟩;have p:=B _ (dn (d:=sR.dflt) (show i.toNat<c.length by omega));have H:okF ((bp c i.toNat sR.dflt).2.1,(bp c i.toNat sR.dflt).2.2.1,(bp c i.toNat sR.dflt).2.2.2)=okF (bp c i.toNat sR.dflt).2:=rfl;rw[H];refine⟨I,G,by omega,λh=>absurd (by rw[p.1]) h,λ_=>⟨⟨by omega,λx o=>(p.2.1 x o).1⟩,λh=>?_,λ_=>⟨⟨p.2.2.1.1,p.2.2.1.2.1,p.2.2.1.2.2⟩,λh=>?_,λ_=>⟨by omega,⟨by omega,by omega⟩,by omega⟩⟩⟩⟩;all_goals grind
def Ba (a:sY):nI:=⟨a.1.length,a.2.length,a.2.length,a.2.length,a.2.length,a.1.length,a.2.map (·.1),a.2.map (·.2),δ a.1.length (bu 0),bu 0,(dL a.2.length).map λi=>a.1.length+i,dL a.1.length⟩
def KE:dD where
 f:=137;α:=sY;put a:=[yE.put a];st _:=[];dec v o:=match v,o with
  |[v],[]=>yE.dec v
  |_,_=>none;ok v o a h:=by
  split at h;·exact⟨by simp only[gL,yE.ok _ _ h],rfl⟩
  ·cases h
 inj a b h _:=yE.inj a b (by grind[gL]);dom a:=a.1.length<=1000/\a.2.length<=1000/\∀r∈a.2,r.1.length<=1000;res a:=.ptr 0 0 10;out a:=(Ba a).gW
def Ue (a:sY) (d f b g k:Nat) (h:List (List bM)) (c e:List bM) (l j:List Int):cu:=
 [.cells [.row sF a.1,.row sR a.2] 172 2 false,.cells [.si .i64 a.1.length,.si .i64 a.2.length,.ow 2 d 1,.ow 3 f 3,.ow 4 b 3,.sb (bu 0).1,.row (.i .u32) (bu 0).2.1,.row (.i .u32) (bu 0).2.2,.ow 5 g 1,.ow 6 k 1] 219 10 false,
  .row (.bP sF) h 66 false,.row sF c 126 false,.row sF e 126 true,.row (.i .i64) l 3 false,.row (.i .i64) j 3 false]
def adG (a:sY):Nat->cC
 |3=> .inv Int (λj=>⟨[(1,.ptr 0 0 2),(3,.ptr 1 0 10),(18,.si .i64 a.1.length),(19,.si .i64 j)],Ue a 0 0 j.toNat 0 j.toNat [] [] (δ j.toNat (bu 0)) [] (dL j.toNat)⟩)
   (λs=>iS s 19) (λj=>0<=j/\j<=a.1.length) (λj=>(a.1.length - j).toNat) λ_ _=> .look
 |9=> .inv Int (λi=>⟨[(3,.ptr 1 0 10),(44,.row sR a.2),(45,.si .i64 a.2.length),(46,.si .i64 i)],Ue a i.toNat i.toNat a.1.length i.toNat a.1.length ((a.2.take i.toNat).map (·.1)) ((a.2.take i.toNat).map (·.2)) (δ a.1.length (bu 0)) ((dL i.toNat).map λi=>a.1.length+i) (dL a.1.length)⟩)
   (λs=>iS s 46) (λi=>0<=i/\i<=a.2.length) (λi=>(a.2.length - i).toNat) λ_ _=> .look
 |_=> .look
theorem h399:eu Tryz.prog KE:=by
 refine HO (L:=[oo]) (W:=[]) KE (λ_=>none) adG (by simp) (by grind[h94]) ?_;rintro⟨g,h⟩ ⟨hg,hr,a8⟩;simp only at hg hr a8;refine bQ (let a:=bA.row;let c:=γz;let d:=bA.cells;let e:=(0:Int);let j:=Ω .i64;let k:=(-9223372036854775808:Int);let y:=Δ;let G:=(9223372036854775807:Int);let L:=γo .i64 0;let W:=bU .i64;let Z:=γU;let ab:=Z 0 0 2;let U:=Z 1 0 10;let ac:=j (↑g.length:Int);let H:=(↑g.length:Int);let I:=j H;let aa:=y sR h;let V:=d [y sF g,aa] 172 2 false;let ad:=j (↑h.length:Int);let a2:=c 2 0 1;let a8:=c 3 0 3;let b3:=c 4 0 3;let D:=bu (ζ e);let p:=bw.i .u32;let E:=c 5 0 1;let b6:=[E,c 6 0 1];let r:=(↑h.length:Int);let o:=j r;let z:=bu (0:Rat);let t:=γn z.fst;let q:=y p z.snd.fst;let s:=y p z.snd.snd;let M:=bw.b.pair (p.bP.pair p.bP);let O:=a sF.bP [] 66 false;let K:=a sF [] 126 false;let l:=bw.i .i64;let w:=a l [] 3 false;let X:=c 4 g.length 3;let a0:=[c 6 g.length 1];let a3:=δ g.length z;let a1:=a sF a3 126 true;let T:=a l (dL g.length) 3 false;let b7:=Z 0 0 10;let f:=Ba (g,h);(k<=e/\e<=G)/\(((ab.same ab/\U.same U/\ac.same I/\(L).same (j 0)/\True)/\V.same V/\(d (ac::ad::a2::a8::b3::γn D.fst::y p D.snd.fst::y p D.snd.snd::b6) 219 10 false).same (d (I::o::a2::a8::b3::t::q::s::b6) 219 10 false)/\(a M.bP [] 66 false).same O/\(a M [] 126 false).same K/\(a M [] 126 true).same (a sF [] 126 true)/\w.same w/\w.same (a l (dL 0) 3 false)/\True)/\e<=e/\e<=H)/\∀(x:Int),let J:=dL x.toNat;let a4:=J.length+1;let P:=δ x.toNat z;let a6:=P.length+1;let B:=x+(1:Int);let b4:=j B;let a7:=P++[(D.fst,D.snd.fst,D.snd.snd)];let R:=B.toNat;e<=x/\x<=H->(decide (x<H)=true->1=1/\x.toNat=J.length/\a4*8<=140737488355328/\a4<=1000000000000/\(k<=e/\e<=G)/\1=1/\x.toNat=P.length/\a6*56<=140737488355328/\a6<=1000000000000/\W B/\((ab.same ab/\U.same U/\I.same I/\b4.same b4/\True)/\V.same V/\(d [I,o,a2,a8,c 4 a7.length 3,t,q,s,E,c 6 (J++[x]).length 1] 219 10 false).same (d [I,o,a2,a8,c 4 R 3,t,q,s,E,c 6 R 1] 219 10 false)/\O.same O/\K.same K/\(a M a7 126 true).same (a sF (δ R z) 126 true)/\w.same w/\(a l (J++[x]) 3 false).same (a l (dL R) 3 false)/\True)/\(e<=B/\B<=H)/\(H - B).toNat<(H - x).toNat)/\(decide (x<H)=false->(((U.same U/\aa.same aa/\ad.same o/\(L).same (j 0)/\True)/\V.same V/\(d [I,o,a2,a8,c 4 x.toNat 3,t,q,s,E,c 6 x.toNat 1] 219 10 false).same (d (I::o::a2::a8::X::t::q::s::E::a0) 219 10 false)/\O.same O/\K.same K/\(a sF P 126 true).same a1/\w.same w/\(a l J 3 false).same T/\True)/\e<=e/\e<=r)/\∀(x:Int),let F:=bp h x.toNat sR.dflt;let u:=Φ F.fst;let a5:=τ x.toNat h;let Q:=γd (λx ↦x.fst) a5;let Y:=Q.length+1;let S:=γd (λx ↦x.snd) a5;let a9:=S.length+1;let N:=γd (λi ↦(↑(g,h).fst.length:Int)+i) (dL x.toNat);let b1:=N.length+1;let A:=x+(1:Int);let b0:=j A;let b5:=S++[(F.snd.fst,F.snd.snd.fst,F.snd.snd.snd)];let C:=A.toNat;e<=x/\x<=r->(decide (x<r)=true->e<=x/\x<(↑h.length:Int)/\x.toNat<h.length/\0=0/\(0+u)*56<=140737488355328/\0+u<=1000000000000/\x.toNat=Q.length/\Y*24<=140737488355328/\Y<=1000000000000/\u=u/\u=u/\u=u/\1=1/\x.toNat=S.length/\a9*56<=140737488355328/\a9<=1000000000000/\W (H+x)/\1=1/\x.toNat=N.length/\b1*8<=140737488355328/\b1<=1000000000000/\W A/\((U.same U/\aa.same aa/\o.same o/\b0.same b0/\True)/\V.same V/\(d (I::o::c 2 Y 1::c 3 b5.length 3::X::t::q::s::c 5 (N++[H+x]).length 1::a0) 219 10 false).same (d (I::o::c 2 C 1::c 3 C 3::X::t::q::s::c 5 C 1::a0) 219 10 false)/\(a sF.bP (Q++[F.fst]) 66 false).same (a sF.bP (γd (λx ↦x.fst) (τ C h)) 66 false)/\(a M b5 126 false).same (a sF (γd (λx ↦x.snd) (τ C h)) 126 false)/\a1.same a1/\(a l (N++[H+x]) 3 false).same (a l (γd (λi ↦(↑(g,h).fst.length:Int)+i) (dL C)) 3 false)/\T.same T/\True)/\(e<=A/\A<=r)/\(r - A).toNat<(r - x).toNat)/\(decide (x<r)=false->g.length=a3.length/\b7.same b7/\(d [I,o,c 1 x.toNat 1,c 2 x.toNat 3,y sF a3,t,q,s,c 3 x.toNat 1,c 4 g.length 1] 219 10 false).same (d [j f.n,j f.m,c 1 f.k0 1,c 2 f.k1 3,y sF f.cost,γn f.v.fst,y p f.v.snd.fst,y p f.v.snd.snd,c 3 f.k3 1,c 4 f.k4 1] 219 10 false)/\(a sF.bP Q 66 false).same (a sF.bP f.cz 66 false)/\(a sF S 126 false).same (a sF f.bound 126 false)/\(a l N 3 false).same (a l f.basic 3 false)/\T.same (a l f.free 3 false)/\True))) (by kernel_rfl) ?_;simp only[vcs];have h0:(ζ 0:Rat)=0:=rfl;simp only[h0,ji];have G:∀{a b a' b' c d e a2 b2 c2 d2 e2:Nat},a=a2->b=b2->c=c2->d=d2->e=e2->(bA.cells [.si .i64 a',.si .i64 b',.ow 2 a 1,.ow 3 b 3,.ow 4 c 3,.sb (bu 0).1,.row (.i .u32) (bu 0).2.1,.row (.i .u32) (bu 0).2.2,.ow 5 d 1,.ow 6 e 1] 219 10 false).same
   (bA.cells [.si .i64 a',.si .i64 b',.ow 2 a2 1,.ow 3 b2 3,.ow 4 c2 3,.sb (bu 0).1,.row (.i .u32) (bu 0).2.1,.row (.i .u32) (bu 0).2.2,.ow 5 d2 1,.ow 6 e2 1] 219 10 false):=by
  rintro _ _ _ _ _ _ _ _ _ _ _ _ rfl rfl rfl rfl rfl;rfl
 have c1:∀{x y:List bM},x=y->(bA.row sF x 126 false).same (bA.row sF y 126 false):=by rintro _ _ rfl;rfl
 have b8:∀{x y:List bM},x=y->(bA.row sF x 126 true).same (bA.row sF y 126 true):=by rintro _ _ rfl;rfl
 have b9:∀{x y:List (List bM)},x=y->(bA.row (.bP sF) x 66 false).same (bA.row (.bP sF) y 66 false):=by rintro _ _ rfl;rfl
 have Z:∀{x y:List Int},x=y->(bA.row (.i .i64) x 3 false).same (bA.row (.i .i64) y 3 false):=by rintro _ _ rfl;rfl
 have c0:∀k:Nat,((k:Nat):Int).toNat=k:=λk=>γb k;refine⟨by omega,⟨⟨rfl,Z rfl⟩,by omega,by omega⟩,?_⟩;rintro j ⟨j0,j1⟩;have l1:=@jw j.toNat;have l2:(δ j.toNat (bu 0)).length=j.toNat:=δq;refine⟨λhj=>?_,λhj=>?_⟩
 ·have e1:dL j.toNat++[j]=dL (j+1).toNat:=by
   rw[show(j+1).toNat=j.toNat+1 by omega,vZ,show((j.toNat:Nat):Int)=j by omega]
  have e2:δ j.toNat (bu 0)++[bu 0]=δ (j+1).toNat (bu 0):=by
   rw[show(j+1).toNat=j.toNat+1 by omega,List.replicate_succ']
  grind
 ·rw[show j.toNat=g.length by omega];refine⟨⟨⟨G rfl rfl rfl rfl rfl,b8 rfl,Z rfl⟩,by omega,by omega⟩,?_⟩;rintro i ⟨i0,i1⟩;have l3:(γd (λx:List bM×bM=>x.1) (τ i.toNat h)).length=i.toNat:=by simp_all
  have l4:(γd (λx:List bM×bM=>x.2) (τ i.toNat h)).length=i.toNat:=by simp_all
  have l5:(γd (λi:Int=>(g.length:Int)+i) (dL i.toNat)).length=i.toNat:=by grind[jw]
  refine⟨λhi=>?_,λhi=>?_⟩
  ·have hm:=a8 _ (dn (d:=sR.dflt) (show i.toNat<h.length by omega));have et:=jN (d:=sR.dflt) i0 hi;have e1:γd (λx:List bM×bM=>x.1) (τ i.toNat h)++[(bp h i.toNat sR.dflt).1]=γd (λx:List bM×bM=>x.1) (τ (i+1).toNat h):=by simp_all
   have e2:γd (λx:List bM×bM=>x.2) (τ i.toNat h)++[(bp h i.toNat sR.dflt).2]=γd (λx:List bM×bM=>x.2) (τ (i+1).toNat h):=by simp_all
   have e3:γd (λi:Int=>(g.length:Int)+i) (dL i.toNat)++[(g.length:Int)+i]=γd (λi:Int=>(g.length:Int)+i) (dL (i+1).toNat):=by
    rw[show(i+1).toNat=i.toNat+1 by omega,vZ,List.map_append,show((i.toNat:Nat):Int)=i by omega];rfl
   have l6:(γd (λx:List bM×bM=>x.2) (τ (i+1).toNat h)).length=(i+1).toNat:=by grind
   have l7:(γd (λi:Int=>(g.length:Int)+i) (dL (i+1).toNat)).length=(i+1).toNat:=by grind
   refine⟨i0,hi,by omega,by omega,by omega,l3.symm,by omega,by omega,l4.symm,by omega,by omega,by omega,l5.symm,by omega,by omega,by omega,⟨G ?_ ?_ rfl ?_ rfl,b9 e1,c1 e2,Z e3⟩,by omega,by omega⟩;all_goals grind
  ·have e:i.toNat=h.length:=by omega
   rw[e,χ];exact⟨δq.symm,rfl,rfl,rfl,rfl,rfl⟩
def r400:dD:=uF 138 Unit .nil (λ_ m t _=>kB m.toNat t) (λ_ _ _ _=> .bN [.sc (.slice none 0 0),.sb true]) (λ_ _ t _=>t)
def adH (n m:Int) (t:Tb):Nat->cC
 |3=> .inv Int (λi=>⟨[(0,.ptr 0 0 10),(4,.si .i64 (-1)),(12,.ow 2 t.bound.length 3),(13,.si .i64 t.bound.length),(14,.si .i64 i)],(bJ n m t).gW⟩)
   (λs=>iS s 14) (λi=>0<=i/\i<=m) (λi=>(m - i).toNat) λ_ _=> .look
 |_=> .look
theorem h400:eu Tryz.prog r400:=by
 refine lp (L:=[sQ]) (W:=[]) r400 (λa=>adH a.1.n a.1.m a.1.t) (by simp) (by grind[h99]) ?_;rintro⟨x,u⟩ ⟨n,m,t,M,s,J⟩;simp only at M J;subst M;refine bQ (let a:=Ω .i64;let h:=bA.row;let q:=(0:Int);let s:=γz;let I:=Δ;let J:=(-1:Int);let E:=γU 0 0 10;let G:=a J;let K:=s 2 (bJ n m t).k1 3;let y:=(bJ n m t).t.bound.length;let H:=s 2 y 3;let F:=a (↑y:Int);let o:=(bJ n m t).m;let D:=bw.i .u32;let b:=bJ (bJ n m t).n o (bJ n m t).t;let A:=bA.cells [a b.n,a b.m,s 1 b.k0 1,s 2 b.k1 3,I sF b.cost,γn b.v.fst,I D b.v.snd.fst,I D b.v.snd.snd,s 3 b.k3 1,s 4 b.k4 1] 219 10 false;let d:=h sF.bP b.cz 66 false;let g:=h sF b.bound 126 false;let k:=bw.i .i64;let j:=h k b.basic 3 false;let f:=h k b.free 3 false;let c:=b.bound.length;let r:=SV.sc (Value.slice none 0 0);(((E.same E/\(γo .i64 J).same G/\K.same H/\(a (↑(bJ n m t).k1:Int)).same F/\(γo .i64 0).same (a 0)/\True)/\(bA.cells [a (bJ n m t).n,a o,s 1 (bJ n m t).k0 1,K,I sF (bJ n m t).cost,γn (bJ n m t).v.fst,I D (bJ n m t).v.snd.fst,I D (bJ n m t).v.snd.snd,s 3 (bJ n m t).k3 1,s 4 (bJ n m t).k4 1] 219 10 false).same A/\(h sF.bP (bJ n m t).cz 66 false).same d/\(h sF (bJ n m t).bound 126 false).same g/\(h k (bJ n m t).basic 3 false).same j/\(h k (bJ n m t).free 3 false).same f/\True)/\q<=q/\q<=o)/\∀(x:Int),let l:=bp b.bound x.toNat sF.dflt;let z:=(l.fst,l.snd.fst,l.snd.snd);let e:=x+(1:Int);let C:=a e;let p:=decide (x<(↑y:Int));let w:=λ(u:Bool) ↦decide (gG (bK z)<q)=u;let B:=λ(u:SV) ↦bU .i64 e/\((E.same E/\u.same G/\H.same H/\F.same F/\C.same C/\True)/\A.same A/\d.same d/\g.same g/\j.same j/\f.same f/\True)/\(q<=e/\e<=o)/\(o - e).toNat<(o - x).toNat;q<=x/\x<=o->(p=true->y=c/\q<=x/\x<(↑c:Int)/\y=c/\x.toNat<c/\cF z/\(w true->(true=true->B (a x))/\(true=false->b.k1=c/\q<=J/\J<(↑c:Int)/\b.k1=c/\0<c/\False))/\(w false->B G))/\(p=false->(true=true->(SV.bN [r,γ0 true]).same (SV.bN [r,γn true])/\A.same A/\d.same d/\g.same g/\j.same j/\f.same f/\True)/\(true=false->False))) (by kernel_rfl) ?_;simp only[sX];try simp only[bJ]
 simp only[vcs];obtain⟨⟨⟨Y,Z⟩,U,V⟩,N,X⟩:=id s;have R:=N.bound;have S:=@fy t.bound;refine⟨⟨by omega,by omega⟩,?_⟩;rintro i ⟨P,T⟩;refine⟨λQ=>?_,λQ=>⟨λ_=>trivial,λh=>by cases h⟩⟩;have O:bp (fL t.bound) i.toNat sF.dflt=bu (t.bd i.toNat):=jj (by omega);have I:=J i.toNat (by omega);have q:¬gG (t.bd i.toNat)<0:=λh=>by grind[A7]
 simp only[O,ji,dU];exact⟨by omega,P,by omega,by omega,by omega,dP (s.bd (by omega)) (by omega),λh=>absurd h q,λ_=>⟨by omega,by omega,by omega⟩⟩
def KF:dD:=uF 139 (List bM) (.one (cV sF)) (λn m t a=>∃g:List Rat,a=fL g/\g.length=n.toNat/\t.free=dL n.toNat/\∀v∈t.basic,n<=v) (λ_ _ _ _=> .bN []) (λ_ _ t a=>{t with cost:=vL a,value:=0})
def adI (n m:Int) (t:Tb) (a:List bM):Nat->cC
 |3=> .inv Int (λj=>⟨[(0,.ptr 0 0 10),(1,.row sF a),(4,.ow 5 n.toNat 3),(24,.ow 4 t.free.length 1),(25,.si .i64 t.free.length),(26,.si .i64 j)],(bJ n m {t with value:=0}).gW++[.row sF (eY a j.toNat (false,([],[]))) 126 true]⟩)
   (λs=>iS s 26) (λi=>0<=i/\i<=n) (λi=>(n - i).toNat) λ_ _=> .look
 |10=> .inv Int (λi=>⟨[(0,.ptr 0 0 10),(1,.row sF a),(4,.ow 5 n.toNat 3),(52,.ow 3 t.basic.length 1),(53,.si .i64 t.basic.length),(54,.si .i64 i)],(bJ n m {t with value:=0}).gW++[.row sF a 126 true]⟩)
   (λs=>iS s 54) (λi=>0<=i/\i<=m) (λi=>(m - i).toNat) λ_ _=> .look
 |_=> .look
theorem h401:eu Tryz.prog KF:=by
 refine lp (L:=[oo]) (W:=[]) KF (λa=>adI a.1.n a.1.m a.1.t a.2) (by simp) (by grind[h94]) ?_;rintro⟨x,a⟩ ⟨n,m,t,hx,b3,g,ha,b6,b8,b4⟩;simp only at hx ha;subst hx ha;refine bQ (let a:=(0:Int);let d:=Ω .i64;let e:=bA.row;let h:=γz;let j:=(-9223372036854775808:Int);let y:=Δ;let z:=(9223372036854775807:Int);let L:=bA.cells;let W:=γo .i64 0;let Q:=(↑(bJ n m t).k4:Int);let R:=γU 0 0 10;let P:=y sF (fL g);let w:=(bJ n m t).n;let T:=h 5 w.toNat 3;let ac:=h 4 (bJ n m t).k4 1;let J:=(bJ n m t).t;let a4:=J.free.length;let aa:=h 4 a4 1;let ab:=d (↑a4:Int);let o:=(bJ n m t).m;let E:=bu (ζ a);let l:=bw.i .u32;let c:=bJ w o (Tb.mk J.cz J.bound J.cost (0:Rat) J.basic J.free);let a5:=d c.n;let b0:=d c.m;let a0:=h 1 c.k0 1;let a7:=h 2 c.k1 3;let a8:=h 3 c.k3 1;let Z:=[γn c.v.fst,y l c.v.snd.fst,y l c.v.snd.snd,a8,h 4 c.k4 1];let s:=L (a5::b0::a0::a7::y sF c.cost::Z) 219 10 false;let q:=e sF.bP c.cz 66 false;let p:=e sF c.bound 126 false;let F:=bw.i .i64;let B:=c.basic;let k:=e F B 3 false;let r:=e F c.free 3 false;let N:=(false,[],[]);let O:=c.free.length;let K:Nat:=(fL g).length;let I:=J.basic.length;let S:=h 3 I 1;let X:=d (↑I:Int);let V:=e sF (fL g) 126 true;let f:=bJ w o (Tb.mk J.cz J.bound (vL (fL g)) (0:Rat) J.basic J.free);(j<=a/\a<=z)/\a<=Q/\Q<=Q/\Q*(56:Int)<=(140737488355328:Int)/\Q<=(1000000000000:Int)/\(((R.same R/\P.same P/\(h 5 Q.toNat 3).same T/\ac.same aa/\(d Q).same ab/\(W).same (d 0)/\True)/\(L [d w,d o,h 1 (bJ n m t).k0 1,h 2 (bJ n m t).k1 3,y sF (bJ n m t).cost,γn E.fst,y l E.snd.fst,y l E.snd.snd,h 3 (bJ n m t).k3 1,ac] 219 10 false).same s/\(e sF.bP (bJ n m t).cz 66 false).same q/\(e sF (bJ n m t).bound 126 false).same p/\(e F (bJ n m t).basic 3 false).same k/\(e F (bJ n m t).free 3 false).same r/\(e (bw.b.pair (l.bP.pair l.bP)) (δ Q.toNat N) 126 true).same (e sF (eY (fL g) 0 N) 126 true)/\True)/\a<=a/\a<=w)/\∀(x:Int),let C:=x+(1:Int);let a6:=d C;let b1:=decide (x<(↑a4:Int));let D:=eY (fL g) x.toNat N;let H:=bp c.free x.toNat a;let a3:=decide (H<c.n);let A:=D.set x.toNat (E.fst,E.snd.fst,E.snd.snd);let U:=bp (fL g) H.toNat sF.dflt;let Y:=λ(u:List (Bool×List Int×List Int)) ↦bU .i64 C/\((R.same R/\P.same P/\T.same T/\aa.same aa/\ab.same ab/\a6.same a6/\True)/\s.same s/\q.same q/\p.same p/\k.same k/\r.same r/\(e sF u 126 true).same (e sF (eY (fL g) C.toNat N) 126 true)/\True)/\(a<=C/\C<=w)/\(w - C).toNat<(w - x).toNat;a<=x/\x<=w->(b1=true->a4=O/\a<=x/\x<(↑O:Int)/\a4=O/\x.toNat<O/\(j<=a/\a<=z)/\w.toNat=D.length/\a<=x/\x<(↑D.length:Int)/\w.toNat=D.length/\x.toNat<D.length/\(a3=true->a<=H/\H<(↑K:Int)/\H.toNat<K/\w.toNat=A.length/\a<=x/\x<(↑A.length:Int)/\w.toNat=A.length/\x.toNat<A.length/\Y (A.set x.toNat (U.fst,U.snd.fst,U.snd.snd)))/\(a3=false->Y A))/\(b1=false->(((R.same R/\P.same P/\T.same T/\a8.same S/\(d (↑c.k3:Int)).same X/\(W).same (d 0)/\True)/\s.same s/\q.same q/\p.same p/\k.same k/\r.same r/\(e sF D 126 true).same V/\True)/\a<=a/\a<=o)/\∀(x:Int),let a9:=decide (x<(↑I:Int));let M:=bp B x.toNat a;let a2:=decide (c.n<=M);let G:=x+(1:Int);let a1:=d G;a<=x/\x<=o->(a9=true->I=B.length/\a<=x/\x<(↑B.length:Int)/\I=B.length/\x.toNat<B.length/\(a2=true->bU .i64 G/\((R.same R/\P.same P/\T.same T/\S.same S/\X.same X/\a1.same a1/\True)/\s.same s/\q.same q/\p.same p/\k.same k/\r.same r/\V.same V/\True)/\(a<=G/\G<=o)/\(o - G).toNat<(o - x).toNat)/\(a2=false->a<=M/\M<(↑K:Int)/\M.toNat<K/\False))/\(a9=false->w.toNat=K/\(SV.bN []).same (SV.bN [])/\(L (a5::b0::a0::a7::P::Z) 219 10 false).same (L [d f.n,d f.m,h 1 f.k0 1,h 2 f.k1 3,y sF f.cost,γn f.v.fst,y l f.v.snd.fst,y l f.v.snd.snd,h 3 f.k3 1,h 4 f.k4 1] 219 10 false)/\q.same (e sF.bP f.cz 66 false)/\p.same (e sF f.bound 126 false)/\k.same (e F f.basic 3 false)/\r.same (e F f.free 3 false)/\True))) (by kernel_rfl) ?_;simp only[sX];try simp only[bJ]
 simp only[vcs];obtain⟨⟨⟨n0,n1⟩,m0,m1⟩,hw,hz⟩:=id b3;have c0:=hw.basic;have b2:=hw.free;have b9:=@fy g;have h0:(ζ 0:Rat)=0:=rfl;have a4:∀{x y:List bM},x=y->(bA.row sF x 126 true).same (bA.row sF y 126 true):=by rintro _ _ rfl;rfl
 simp only[h0,ji];refine⟨by omega,by omega,by omega,by omega,by omega,⟨⟨?_,?_,?_⟩,by omega,by omega⟩,?_⟩;·rw[b2];rfl
 ·rfl
 ·grind[yA]
 rintro j ⟨j0,j1⟩;have b7:=@yz (fL g) j.toNat (false,([],[])) (by omega);refine⟨λhj=>?_,λhj=>?_⟩
 ·have hv:bp t.free j.toNat 0=j:=by grind[Ky]
  rw[hv];have b5:((eY (fL g) j.toNat (false,([],[]))).set j.toNat (bu 0)).set j.toNat (bp (fL g) j.toNat sF.dflt)=eY (fL g) (j+1).toNat (false,([],[])):=by
   have e:=yC (d:=fL g) (j:=j.toNat) (z:=(false,([],[]))) (x:=bp (fL g) j.toNat sF.dflt) (by omega) rfl;rw[List.set_set,show(j+1).toNat=j.toNat+1 by omega];exact e
  grind
 ·have e:j.toNat=(fL g).length:=by omega
  rw[e,yB];refine⟨⟨a4 rfl,by omega,by omega⟩,?_⟩;rintro i ⟨i0,i1⟩;refine⟨λhi=>⟨i0,hi,by omega,λ_=>⟨by omega,by omega,by omega⟩,λh=>absurd (b4 _ (dn (by omega))) h⟩,λhi=>⟨by omega,?_⟩⟩;rw[jY];rfl
end Go.Vi
