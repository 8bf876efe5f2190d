import Derived.Test.YtbnhiekmnpikhaaGreatDE13
import Derived.Maps.OwnRows
import Derived.Maps.Ext
set_option maxRecDepth 100000
set_option maxHeartbeats 4000000
set_option linter.all false
open Bool renaming and_eq_true->θ
open Classical renaming not_not->γe,byContradiction->δc
open Go.Vi.SV renaming si->γj,row->γa,agg->γN,il->γC,bl->δj,ptr->γV
open Int renaming toNat_natCast->γk
open List renaming mem_map->Γ,length_replicate->γE,replicate->δ,map_cons->ξ,map_nil->γw,eq_nil_of_length_eq_zero->χ,take_length->φ,mem_filter->Ψ,set_eq_of_length_le->ζz,mem_cons->γq,all_eq_true->ψ,mem_range->γD,mem_append->γi,mem_cons_self->γv,getElem_of_mem->γJ,not_mem_nil->δD,length_map->Ξ,filter_sublist->γo,map_map->γP,getElem_map->δF,nodup_cons->γR,mem_cons_of_mem->γp,pairwise_map->εO,pairwise_cons->γr,any_eq_true->θb,sum_cons->εl,map_append->γb,pairwise_iff_getElem->ζo,idxOf_lt_length_of_mem->γ6,getElem_idxOf->ζl,map_congr_left->γI,mergeSort_perm->δp,pairwise_mergeSort->δK,perm_ext_iff_of_nodup->γ7,map->γc,take->Δ,rel_of_pairwise_cons->ζp
open List.cons renaming injEq->Θ
open Nat renaming pow_le_pow_right->δt,le_refl->π
open Option.some renaming injEq->γ
open Prod renaming fst->εm
namespace Go.Vi
open Go.Proofs.YtbnhiekmnpikhaaGreat.Ir
open Go.Proofs
theorem rb {p:cj} (a:nW p=0) {c:List Int} (f:bT p c=0):0<=cB p c/\cB p c<=160000000/\c.length<=160:=by
 obtain⟨_,b⟩:=rB f;have d:=(cL a).2.1;have j:c.length<=p.bj.length:=qk b;have h:=ot (cL a) (l:=c.map (oI p)) λx g=>by
  obtain⟨i,e,rfl⟩:=Γ.1 g;have:=b.2 i e;exact cA (by omega)
 grind[uH]
theorem C8 {p:cj} (a:nW p=0):(jg p).length<=160:=(rb a (LM a)).2.2
theorem Su {p:cj} {c:List Int} {a:Int} {k:Nat} (e:nW p=0) (h:bT p c=0) (l:1<=a) (m:a<=65536) (i:k=p.bj.length):eh ⟨p,(jN p c).ch,(jN p c).val,(jN p c).bp,none,(jN p c).bq.length,k,a,(jN p c).err,(jN p c).bq,gi p⟩:=by
 have b:=EL e h;have d:=uB e;have f:bT p (jN p c).ch=0/\cB p (jN p c).ch=(jN p c).val:=
  uC (G:=λc w _=>bT p c=0/\cB p c=w) (λ_ _ _ _ _ _ b d _=>⟨b,d⟩) (uC (G:=λc w _=>bT p c=0/\cB p c=w) (λ_ _ _ _ _ _ b d _=>⟨b,d⟩) (s:=⟨c,cB p c,false,[zN],0⟩) ⟨h,rfl⟩ b.2.1 b.2.2.1) d.1 d.2;obtain⟨g,j,n⟩:=rb e f.1;obtain⟨o,_,_⟩:=@D3 p c;rw[f.2] at g j;exact⟨mN e,rfl,by rw[i];exact(γE).symm,g,by grind,l,m,by simp_all,by grind⟩
theorem Ss {p:cj} {m a:Int} {k:Nat} (b:nW p=0) (q:0<m/\m<=9223372036854775807) (h:1<=a) (i:a<=65536) (g:k=p.bj.length):eh ⟨p,(jM p m).ch,(jM p m).val,(jM p m).bp,some m,(jM p m).bq.length,k,a,(jM p m).err,(jM p m).bq,gi p⟩:=by
 have d:=uB b;have e:(0<=(jM p m).val/\(jM p m).val<=9223372036854775806)/\(jM p m).ch.length<=160:=
  uC (G:=λc w _=>(0<=w/\w<=9223372036854775806)/\c.length<=160) (λ_ _ _ t l _ f d _=>by
   obtain⟨j,n,o⟩:=rb b f;omega) (s:=⟨[],m - 1,false,[zN],0⟩) ⟨⟨by grind,by grind⟩,by simp_all⟩ d.1 d.2;obtain⟨r,_⟩:=@D1 p m;exact⟨mN b,rfl,by rw[g];exact(γE).symm,e.1.1,e.1.2,h,i,by simp_all,by grind⟩
noncomputable def C7:NG:=⟨53,cj×bB×Int,.cons cV (.cons kp (.one (dX .i64))),λa=>a.1.bj.length<=20/\a.2.1.bn.length<=9223372036854775807,
 λa=> .Gz [.agg [.row (.i .i64) (if jH a.1 a.2.1.bn a.2.2=0 then(gA a.1 a.2.1.bn a.2.2).ch else[]),.si .i64 (if jH a.1 a.2.1.bn a.2.2=0 then(gA a.1 a.2.1.bn a.2.2).val else 0)],.row Ao (if jH a.1 a.2.1.bn a.2.2=0 then(gA a.1 a.2.1.bn a.2.2).bq else[]),.si .i64 (jH a.1 a.2.1.bn a.2.2)]⟩
theorem H7:Holds Tryz.prog C7:=by
 refine j6 (L:=[vQ,BX,yb,yc]) (W:=fT [wM,s8 161]) C7 lk (kd (by grind[tY,C9])) (by grind[qZ,yL,t_,ua]) ?_;rintro⟨p,⟨c,v⟩,a⟩ ⟨o,f⟩;simp only at o f;refine NI (let e:=(0:Int);let f:=γj .i64;let h:=(140737488355328:Int);let k:=(1000000000000:Int);let o:=(1:Int);let v:=γa;let w:=γN;let z:=SV.Gz;let D:=ew.i .i64;let s:=v D [];let t:=γC .i64 0;let A:=gA p c a;let E:=z [w [v D (if jH p c a=e then A.ch else[]),f (if jH p c a=e then A.val else e)],v Ao (if jH p c a=e then A.bq else[]),f (jH p c a)];let g:=(↑p.bj.length:Int);let r:=δ g.toNat e;let j:=dv (bH none) (cd.mk c (cB p c) false [(e,e,e,e,[])] e) (fA p c);let b:=dv (bH none) j (fA p (jg p));let d:=cP p (bH none) a (nF r) b e r;let m:=decide (bT p c≠e);let n:=decide (a<o);let q:=decide ((65536:Int)<a);let l:=0+c.length;let G:=(z [w [s,t],s,γC .i64 4]).bi E;let x:=λ(u:List Int) (y B C:SV) ↦(z [w [v D u,y],B,C]).bi E;let F:=λ(u:Bool) ↦decide (d.err≠e)=u;c.length<=9223372036854775807/\(m=true->x [] t s (f (bT p c)))/\(m=false->(n=true->G)/\(n=false->(q=true->G)/\(q=false->0=0/\l*8<=140737488355328/\l<=1000000000000/\(nW p=e/\c.length<=9223372036854775807)/\e<=o/\o<=o/\(56:Int)<=h/\o<=k/\e<=g/\g<=g/\g*(8:Int)<=h/\g<=k/\c.length=c.length/\c.length=c.length/\c.length<=9223372036854775807/\1=1/\p.bj.length<=20/\(jg p).length<=9223372036854775807/\j.bq.length=j.bq.length/\(eh (cW.mk p b.ch b.val b.bp none b.bq.length g.toNat a b.err b.bq r)/\(e<=e/\e<(↑b.bq.length:Int))/\nF r<161)/\(F true->x [] t s (f d.err))/\(F false->d.bq.length=d.bq.length/\x d.ch (f d.val) (v Ao d.bq) t))))) (by kernel_rfl) ?_;simp only[vcs];have M:(δ ((p.bj.length:Int)).toNat 0:List Int)=gi p:=by grind[gi]
 have P:dv (bH none) (dv (bH none) ⟨c,cB p c,false,[(0,(0,(0,(0,[]))))],0⟩ (fA p c)) (fA p (jg p))=jN p c:=rfl;have J:nF (gi p)=p.bj.length:=uD;simp only[M,P,J];refine⟨f,λh=>?_,λh=>⟨λH=>?_,λH=>⟨λN=>?_,λN=>?_⟩⟩⟩
 ·have e:jH p c a=bT p c:=by simp_all[jH]
  rw[e,if_neg h,if_neg h,if_neg h];exact⟨rfl,rfl,rfl⟩
 ·have e:jH p c a=4:=by simp_all[jH]
  rw[e];exact⟨rfl,rfl,rfl⟩
 ·have e:jH p c a=4:=by simp_all[jH]
  rw[e];exact⟨rfl,rfl,rfl⟩
 ·have z:bT p c=0:=γe.1 h;have w:nW p=0:=(rB z).1;obtain⟨Q,T,U⟩:=rb w z;obtain⟨I,R,S⟩:=@D3 p c;have e:jH p c a=(gA p c a).err:=by simp_all[jH,if_neg]
  have O:cP p (bH none) a p.bj.length (jN p c) 0 (gi p)=gA p c a:=rfl;have K:=C8 w;rw[O,e];refine⟨by omega,by omega,⟨w,f⟩,by omega,by omega,by omega,by omega,by omega,by omega,by omega,by omega,f,o,by omega,⟨Su w z (by omega) (by omega) (by omega),⟨by omega,by rw[I];decide⟩,by omega⟩,λk=>?_,λk=>?_⟩
  ·rw[if_neg k,if_neg k,if_neg k];exact⟨rfl,rfl,rfl⟩
  ·rw[γe] at k;rw[k];exact⟨rfl,rfl,rfl⟩
noncomputable def C6:NG:=⟨80,cj×Int×Int,.cons cV (.cons (dX .i64) (.one (dX .i64))),λa=>a.1.bj.length<=20/\ -9223372036854775808<=a.2.1/\a.2.1<=9223372036854775807,
 λa=> .Gz [.agg [.row (.i .i64) (mM a.1 a.2.1 a.2.2).bn,.si .i64 (mM a.1 a.2.1 a.2.2).value],.sb (jd a.1 a.2.1 a.2.2),.si .i64 (iq a.1 a.2.1 a.2.2)]⟩
theorem H6:Holds Tryz.prog C6:=by
 refine j6 (L:=[mV,yb,yc]) (W:=fT [wM,s8 161]) C6 lk (kd (by grind[tY,C9])) (by grind[oi,t_,ua]) ?_;rintro⟨p,m,b⟩ ⟨x,H,G⟩;simp only at x H G;refine NI (let a:=(0:Int);let c:=γj .i64;let e:=(1:Int);let f:=(140737488355328:Int);let h:=SV.Gz;let l:=(1000000000000:Int);let v:=γC .i64;let x:=γa;let y:=γN;let w:=ew.i .i64;let t:=[v 0];let k:=h [y [x w (mM p m b).bn,c (mM p m b).value],SV.sb (jd p m b),c (iq p m b)];let n:=y (x w []::t);let s:=δj false;let g:=dv (bH (some m)) (cd.mk [] (m - e) false [(a,a,a,a,[])] a) (fA p (jg p));let A:=decide (nW p≠a);let C:=decide (b<e);let r:=decide ((65536:Int)<b);let q:=decide (m<=a);let d:=(↑p.bj.length:Int);let j:=δ d.toNat a;let z:=λ(u:cd) ↦let o:=decide (u.err≠a);(u.bp=true->(h (y [x w u.ch,c u.val]::δj true::t)).bi k)/\(u.bp=false->(o=true->(h [n,s,c u.err]).bi k)/\(o=false->(h (n::s::t)).bi k));let B:=λ(u:Bool) ↦(!g.bp)=u;True/\(A=true->(h [n,s,c (nW p)]).bi k)/\(A=false->(C=true->(h [n,s,v 4]).bi k)/\(C=false->(r=true->(h [n,s,v 4]).bi k)/\(r=false->(q=true->(h (n::δj true::t)).bi k)/\(q=false->VL .i64 (m - e)/\a<=e/\e<=e/\(56:Int)<=f/\e<=l/\a<=d/\d<=d/\d*(8:Int)<=f/\d<=l/\0=0/\p.bj.length<=20/\(jg p).length<=9223372036854775807/\1=1/\(B true->(eh (cW.mk p g.ch g.val g.bp (some m) g.bq.length d.toNat b g.err g.bq j)/\(a<=a/\a<(↑g.bq.length:Int))/\nF j<161)/\z (cP p (bH (some m)) b (nF j) g a j))/\(B false->z g)))))) (by kernel_rfl) ?_;simp only[vcs];have P:(δ ((p.bj.length:Int)).toNat 0:List Int)=gi p:=by grind[gi]
 have O:dv (bH (some m)) ⟨[],m - 1,false,[(0,(0,(0,(0,[]))))],0⟩ (fA p (jg p))=jM p m:=rfl;have K:nF (gi p)=p.bj.length:=uD;simp only[P,O,K];have I:∀e:Int,iq p m b=e->jd p m b=(decide (e=0)&&(decide (m<=0)||(fh p m b).bp)):=λe h=>by grind[jd]
 have c:jd p m b=false\/m<=0->mM p m b=⟨[],0⟩:=λh=>by
  unfold mM;grind
 refine⟨λh=>?_,λh=>⟨λM=>?_,λM=>⟨λN=>?_,λN=>⟨λE=>?_,λE=>?_⟩⟩⟩⟩
 ·have e:iq p m b=nW p:=by simp_all[iq]
  have f:jd p m b=false:=by simp_all
  rw[e,f,c (.inl f)];exact⟨rfl,rfl,rfl⟩
 ·have e:iq p m b=4:=by simp_all[iq]
  have f:jd p m b=false:=by simp_all
  rw[e,f,c (.inl f)];exact⟨rfl,rfl,rfl⟩
 ·have e:iq p m b=4:=by simp_all[iq]
  have f:jd p m b=false:=by simp_all
  rw[e,f,c (.inl f)];exact⟨rfl,rfl,rfl⟩
 ·have e:iq p m b=0:=by simp_all[iq]
  have f:jd p m b=true:=by simp_all
  rw[e,f,c (.inr E)];exact⟨rfl,rfl,rfl⟩
 ·have J:nW p=0:=γe.1 h;obtain⟨R,Q⟩:=@D1 p m;have S:cP p (bH (some m)) b p.bj.length (jM p m) 0 (gi p)=fh p m b:=rfl;have F:=C8 J;have l:iq p m b=if(fh p m b).bp=true then 0 else(fh p m b).err:=by simp_all[iq,if_neg]
  have y:((fh p m b).bp=true->(γN [γa (ew.i .i64) (fh p m b).ch,γj .i64 (fh p m b).val]).bi (γN [γa (ew.i .i64) (mM p m b).bn,γj .i64 (mM p m b).value])/\true=jd p m b/\0=iq p m b)/\
    ((fh p m b).bp=false->((fh p m b).err≠0->(γN [γa (ew.i .i64) [],γC .i64 0]).bi (γN [γa (ew.i .i64) (mM p m b).bn,γj .i64 (mM p m b).value])/\false=jd p m b/\(fh p m b).err=iq p m b)/\
     (¬(fh p m b).err≠0->(γN [γa (ew.i .i64) [],γC .i64 0]).bi (γN [γa (ew.i .i64) (mM p m b).bn,γj .i64 (mM p m b).value])/\false=jd p m b/\0=iq p m b)):=by
   refine⟨λv=>?_,λv=>⟨λD=>?_,λD=>?_⟩⟩
   ·rw[if_pos v] at l;have f:jd p m b=true:=by simp_all
    have a:mM p m b=⟨(fh p m b).ch,(fh p m b).val⟩:=by simp_all[mM]
    rw[l,f,a];exact⟨rfl,rfl,rfl⟩
   ·rw[if_neg (by rw[v];simp)] at l;have f:jd p m b=false:=by simp_all
    rw[l,f,c (.inl f)];exact⟨rfl,rfl,rfl⟩
   ·rw[if_neg (by rw[v];simp),γe.1 D] at l;have f:jd p m b=false:=by simp_all
    rw[l,f,c (.inl f)];exact⟨rfl,rfl,rfl⟩
  grind[Ss,wJ,mN]
abbrev wA:=oz×(oz×(List Int×(Int×(Bool×(Bool×(Bool×(Bool×(Bool×(Bool×(Bool×Bool))))))))))
@[reducible] def pq:ew:=.pair .bun (.pair .bun (.pair (.Ap (.i .i64)) (.pair (.i .i64) (.pair .b (.pair .b (.pair .b (.pair .b (.pair .b (.pair .b (.pair .b .b))))))))))
def xP (d:wA):iI:=⟨d.1,d.2.1,d.2.2.1,d.2.2.2.1,[d.2.2.2.2.1,d.2.2.2.2.2.1,d.2.2.2.2.2.2.1,d.2.2.2.2.2.2.2.1,d.2.2.2.2.2.2.2.2.1,d.2.2.2.2.2.2.2.2.2.1,d.2.2.2.2.2.2.2.2.2.2.1,d.2.2.2.2.2.2.2.2.2.2.2]⟩
def fP (u:iI):wA:=(u.left,(u.bs,(u.bn,(u.value,(bN u.won 0 false,(bN u.won 1 false,(bN u.won 2 false,(bN u.won 3 false,(bN u.won 4 false,(bN u.won 5 false,(bN u.won 6 false,bN u.won 7 false)))))))))))
theorem J7 {u:iI} (h:u.won.length=8):xP (fP u)=u:=by
 obtain⟨l,o,c,v,w⟩:=u;simp only at h;match w,h with
 |[a,b,c,d,e,f,g,i],_=>rfl
def zX:iI:=⟨oz.zero,oz.zero,[],0,δ 8 false⟩
def pk (k j:Int) (a b:Int):Bool:=decide (k<=j)||(decide (0<=a)&&decide (0<=b))
def iV (a b:oz) (k:Int):Bool:=pk k 0 a.a0 b.a0&&(pk k 1 a.a1 b.a1&&(pk k 2 a.a2 b.a2&&(pk k 3 a.a3 b.a3&&(pk k 4 a.a4 b.a4&&pk k 5 a.a5 b.a5))))
def C5:cU where
 f:=115;α:=wA×cj×bC;put a:=[.ptr 0 0 22,cV.put a.2.1,(dD .bu).put a.2.2];st a:=[.cells (cR pq a.1) 142 22 false];dec v o:=match v,o with
  |[.ptr 0 0 22,p,x],[.cells cs 142 22 false]=>match jl pq cs,cV.dec p,(dD .bu).dec x with
   |some d,some p,some x=>some (d,p,x)
   |_,_,_=>none
  |_,_=>none;ok v o a h:=by
  split at h
  ·split at h
   ·rename_i h1 h2 h3;simp only[γ] at h;subst h;refine⟨by simp only[gL,cV.ok _ _ h2,(dD .bu).ok _ _ h3],?_⟩;simp only[gO,ξ,γw,iZ.g,ft,mH h1,rW]
   ·cases h
  ·cases h
 inj a b h1 h2:=by
  obtain⟨d,p,x⟩:=a;obtain⟨d',p',x'⟩:=b;simp only[gL,Θ,and_true,true_and] at h1;simp only[gO,ξ,γw,iZ.g,Θ,OL.cells.injEq,and_true,ft,rW] at h2;rw[vc pq d d' h2,cV.inj p p' h1.1,(dD .bu).inj x x' h1.2]
 dom a:=((∀k,k<6->(-1000<=a.1.1.at k/\a.1.1.at k<=1000)/\(-1000<=a.1.2.1.at k/\a.1.2.1.at k<=1000))/\a.2.2.bx.ok=true)/\0<=a.2.2.TM/\a.2.2.TM<a.2.1.bk.length;res a:=.sb ((a.1.1.sub a.2.2.bx).pos&&(fJ a.2.1 (xP a.1) a.2.2).pos);out a:=[.cells (cR pq (a.1.1.sub a.2.2.bx,(fJ a.2.1 (xP a.1) a.2.2,a.1.2.2))) 142 22 false]
def Sr (d:wA) (p:cj) (x:bC):Nat->bJ
 |3=> .inv Int (λk=>⟨[(0,.ptr 0 0 22),(4,.ptr 1 0 20),(5,.ptr 2 0 8),(7,.sb (iV (d.1.sub x.bx) (fJ p (xP d) x) k)),(11,.agg (cR .bun x.bx)),(12,.si .i64 k)],
   [.cells (cR pq (gC d.1 (d.1.sub x.bx) k,(gC d.2.1 (fJ p (xP d) x) k,d.2.2))) 142 22 false,.cells p.ss 27 20 false,.cells (cR .bu x) 65 8 false]⟩)
   (λs=>iS s 12) (λk=>0<=k/\k<=6) (λk=>(6 - k).toNat) λ_ _=> .look
 |_=> .look
theorem HY:dB Tryz.prog C5:=by
 refine ko (L:=[]) (W:=[]) C5 (λa=>Sr a.1 a.2.1 a.2.2) (by simp) (by simp) ?_;rintro⟨d,p,x⟩ ⟨⟨hb,hw⟩,hx0,hx1⟩;simp only at hb hw hx0 hx1;refine NI (let a:=γj .i64;let b:=(0:Int);let c:=(6:Int);let e:=iZ.cells;let f:=SV.sb;let g:=VL .i64;let h:=γa;let j:=δj false;let k:=γV;let r:=k 0 0 22;let s:=k 1 0 20;let t:=k 2 0 8;let o:=d.1.sub x.bx;let q:=fJ p (xP d) x;let a9:=a x.bx.a0;let aa:=a x.bx.a1;let ab:=a x.bx.a2;let ac:=a x.bx.a3;let ad:=a x.bx.a4;let ae:=a x.bx.a5;let v:=γN [a9,aa,ab,ac,ad,ae];let N:=ew.i .i64;let D:=d.2.2.2.2.2;let af:=D.2.2.2.2.2;let E:=gC d.1 o b;let F:=gC d.2.1 q b;let G:=d.2.2.2.2.2;let ag:=G.2.2.2.2.2;let A:=[h N d.2.2.1,a d.2.2.2.1,f d.2.2.2.2.1,f G.1,f G.2.1,f G.2.2.1,f G.2.2.2.1,f G.2.2.2.2.1,f ag.1,f ag.2];let w:=e [a p.bm.a0,a p.bm.a1,a p.bm.a2,a p.bm.a3,a p.bm.a4,a p.bm.a5,a p.bs.a0,a p.bs.a1,a p.bs.a2,a p.bs.a3,a p.bs.a4,a p.bs.a5,a p.bt.a0,a p.bt.a1,a p.bt.a2,a p.bt.a3,a p.bt.a4,a p.bt.a5,h N p.bk,h ew.bu p.bj] 27 20 false;let y:=e [a x.TM,a9,aa,ab,ac,ad,ae,a x.value] 65 8 false;let aM:=[x.bx.a0,x.bx.a1,x.bx.a2,x.bx.a3,x.bx.a4,x.bx.a5];let aN:=[p.bt.a0,p.bt.a1,p.bt.a2,p.bt.a3,p.bt.a4,p.bt.a5];(((r.bi r/\s.bi s/\t.bi t/\(δj true).bi (f (iV o q b))/\v.bi v/\(γC .i64 0).bi (a 0)/\True)/\(e [a d.1.a0,a d.1.a1,a d.1.a2,a d.1.a3,a d.1.a4,a d.1.a5,a d.2.1.a0,a d.2.1.a1,a d.2.1.a2,a d.2.1.a3,a d.2.1.a4,a d.2.1.a5,h N d.2.2.1,a d.2.2.2.1,f d.2.2.2.2.1,f D.1,f D.2.1,f D.2.2.1,f D.2.2.2.1,f D.2.2.2.2.1,f af.1,f af.2] 142 22 false).bi (e (a E.a0::a E.a1::a E.a2::a E.a3::a E.a4::a E.a5::a F.a0::a F.a1::a F.a2::a F.a3::a F.a4::a F.a5::A) 142 22 false)/\w.bi w/\y.bi y/\True)/\b<=b/\b<=c)/\∀(x_1:Int),let L:=iV o q x_1;let n:=gC d.1 o x_1;let ah:=bN aM x_1.toNat b;let B:=bN [n.a0,n.a1,n.a2,n.a3,n.a4,n.a5] x_1.toNat b - ah;let ai:=if x_1.toNat=0 then B else n.a0;let aj:=if x_1.toNat=1 then B else n.a1;let ak:=if x_1.toNat=2 then B else n.a2;let al:=if x_1.toNat=3 then B else n.a3;let am:=if x_1.toNat=4 then B else n.a4;let an:=if x_1.toNat=5 then B else n.a5;let O:=bN [ai,aj,ak,al,am,an] x_1.toNat b;let P:=decide (b<=O);let m:=x_1+(1:Int);let l:=gC d.2.1 q x_1;let ao:=bN [l.a0,l.a1,l.a2,l.a3,l.a4,l.a5] x_1.toNat b;let C:=ao - ah;let ap:=if x_1.toNat=0 then C else l.a0;let aq:=if x_1.toNat=1 then C else l.a1;let ar:=if x_1.toNat=2 then C else l.a2;let au:=if x_1.toNat=3 then C else l.a3;let av:=if x_1.toNat=4 then C else l.a4;let aw:=if x_1.toNat=5 then C else l.a5;let H:=min (bN [ap,aq,ar,au,av,aw] x_1.toNat b) O;let Q:=if x_1.toNat=0 then H else ap;let R:=if x_1.toNat=1 then H else aq;let S:=if x_1.toNat=2 then H else ar;let T:=if x_1.toNat=3 then H else au;let U:=if x_1.toNat=4 then H else av;let V:=if x_1.toNat=5 then H else aw;let M:=f (iV o q m);let z:=a m;let W:=a ai;let X:=a aj;let Y:=a ak;let Z:=a al;let a6:=a am;let a7:=a an;let I:=gC d.1 o m;let J:=gC d.2.1 q m;let a8:=e (a I.a0::a I.a1::a I.a2::a I.a3::a I.a4::a I.a5::a J.a0::a J.a1::a J.a2::a J.a3::a J.a4::a J.a5::A) 142 22 false;let K:=min ao O;let ax:=if x_1.toNat=0 then K else l.a0;let ay:=if x_1.toNat=1 then K else l.a1;let az:=if x_1.toNat=2 then K else l.a2;let aA:=if x_1.toNat=3 then K else l.a3;let aB:=if x_1.toNat=4 then K else l.a4;let aC:=if x_1.toNat=5 then K else l.a5;let aD:=decide (x_1<c);let aE:=bN aN x_1.toNat b;let aF:=decide (aE=b);let aG:=decide (aE≠bN p.bk x.TM.toNat b);let aO:=let aH:=g m/\((r.bi r/\s.bi s/\t.bi t/\(j).bi M/\v.bi v/\z.bi z/\True)/\(e (W::X::Y::Z::a6::a7::a Q::a R::a S::a T::a U::a V::A) 142 22 false).bi a8/\w.bi w/\y.bi y/\True)/\(b<=m/\m<=c)/\(c - m).toNat<(c - x_1).toNat;x_1.toNat<6/\b<=x_1/\x_1<c/\x_1.toNat<6/\b<=x_1/\x_1<c/\x_1.toNat<6/\(L=true->b<=x_1/\x_1<c/\x_1.toNat<6/\(P=true->b<=x_1/\x_1<c/\x_1.toNat<6/\g m/\((r.bi r/\s.bi s/\t.bi t/\(f (decide (b<=bN [Q,R,S,T,U,V] x_1.toNat b))).bi M/\v.bi v/\z.bi z/\True)/\(e (W::X::Y::Z::a6::a7::a Q::a R::a S::a T::a U::a V::A) 142 22 false).bi a8/\w.bi w/\y.bi y/\True)/\(b<=m/\m<=c)/\(c - m).toNat<(c - x_1).toNat)/\(P=false->aH))/\(L=false->aH);let aI:=(e (W::X::Y::Z::a6::a7::a ax::a ay::a az::a aA::a aB::a aC::A) 142 22 false).bi a8;let aJ:=b<=x_1/\x_1<c/\x_1.toNat<6/\g C/\b<=x_1/\x_1<c/\x_1.toNat<6/\b<=x_1/\x_1<c/\aO;let aK:=g m/\((r.bi r/\s.bi s/\t.bi t/\(j).bi M/\v.bi v/\z.bi z/\True)/\aI/\w.bi w/\y.bi y/\True)/\(b<=m/\m<=c)/\(c - m).toNat<(c - x_1).toNat;let aL:=λ(u:Bool) ↦P=u;b<=x_1/\x_1<=c->(aD=true->b<=x_1/\x_1<c/\b<=x_1/\x_1<c/\x_1.toNat<6/\g B/\b<=x_1/\x_1<c/\x_1.toNat<6/\b<=x_1/\x_1<c/\x_1.toNat<6/\(aF=true->aJ)/\(aF=false->b<=x_1/\x_1<c/\x_1.toNat<6/\b<=x.TM/\x.TM<(↑p.bk.length:Int)/\x.TM.toNat<p.bk.length/\(aG=true->aJ)/\(aG=false->b<=x_1/\x_1<c/\x_1.toNat<6/\b<=x_1/\x_1<c/\x_1.toNat<6/\b<=x_1/\x_1<c/\x_1.toNat<6/\(L=true->b<=x_1/\x_1<c/\x_1.toNat<6/\(aL true->b<=x_1/\x_1<c/\x_1.toNat<6/\g m/\((r.bi r/\s.bi s/\t.bi t/\(f (decide (b<=bN [ax,ay,az,aA,aB,aC] x_1.toNat b))).bi M/\v.bi v/\z.bi z/\True)/\aI/\w.bi w/\y.bi y/\True)/\(b<=m/\m<=c)/\(c - m).toNat<(c - x_1).toNat)/\(aL false->aK))/\(L=false->aK))))/\(aD=false->(f L).bi (f (o.pos&&q.pos))/\(e (a n.a0::a n.a1::a n.a2::a n.a3::a n.a4::a n.a5::a l.a0::a l.a1::a l.a2::a l.a3::a l.a4::a l.a5::A) 142 22 false).bi (e (a o.a0::a o.a1::a o.a2::a o.a3::a o.a4::a o.a5::a q.a0::a q.a1::a q.a2::a q.a3::a q.a4::a q.a5::A) 142 22 false)/\True)) (by kernel_rfl) ?_;simp only[vcs];refine⟨⟨⟨rfl,rfl⟩,by omega,by omega⟩,?_⟩;rintro k ⟨k0,k6⟩;simp only[show bN p.bk x.TM.toNat 0=kn p x from rfl];generalize hcl:kn p x=cl at*;constructor
 ·intro hk;rcases(show k=0\/k=1\/k=2\/k=3\/k=4\/k=5 by omega) with rfl|rfl|rfl|rfl|rfl|rfl
  ·have hb0:=hb 0 (by omega);have hw0:0<=x.bx.a0/\x.bx.a0<=4:=by have:=oz.gS.1 hw;omega
   have b1: -1000<=d.1.a0/\d.1.a0<=1000:=hb0.1;have b2: -1000<=d.2.1.a0/\d.2.1.a0<=1000:=hb0.2;have eo:(fJ p (xP d) x).a0=min (d.2.1.a0 - nd p.bt.a0 x.bx.a0 cl) (d.1.a0 - x.bx.a0):=by rw[<-hcl];rfl
   generalize fJ p (xP d) x=O at*;by_cases h1:p.bt.a0=0;·simp[gC,bN,oz.sub,iV,pk,eo,nd,h1,kb];grind
   ·by_cases h2:p.bt.a0=cl
    ·subst h2;simp[gC,bN,oz.sub,iV,pk,eo,nd,h1,kb];grind
    ·simp[gC,bN,oz.sub,iV,pk,eo,nd,h1,h2,kb];grind
  ·have hb0:=hb 1 (by omega);have hw0:0<=x.bx.a1/\x.bx.a1<=4:=by have:=oz.gS.1 hw;omega
   have b1: -1000<=d.1.a1/\d.1.a1<=1000:=hb0.1;have b2: -1000<=d.2.1.a1/\d.2.1.a1<=1000:=hb0.2;have eo:(fJ p (xP d) x).a1=min (d.2.1.a1 - nd p.bt.a1 x.bx.a1 cl) (d.1.a1 - x.bx.a1):=by rw[<-hcl];rfl
   generalize fJ p (xP d) x=O at*;by_cases h1:p.bt.a1=0;·simp[gC,bN,oz.sub,iV,pk,eo,nd,h1,kb];grind
   ·by_cases h2:p.bt.a1=cl
    ·subst h2;simp[gC,bN,oz.sub,iV,pk,eo,nd,h1,kb];grind
    ·simp[gC,bN,oz.sub,iV,pk,eo,nd,h1,h2,kb];grind
  ·have hb0:=hb 2 (by omega);have hw0:0<=x.bx.a2/\x.bx.a2<=4:=by have:=oz.gS.1 hw;omega
   have b1: -1000<=d.1.a2/\d.1.a2<=1000:=hb0.1;have b2: -1000<=d.2.1.a2/\d.2.1.a2<=1000:=hb0.2;have eo:(fJ p (xP d) x).a2=min (d.2.1.a2 - nd p.bt.a2 x.bx.a2 cl) (d.1.a2 - x.bx.a2):=by rw[<-hcl];rfl
   generalize fJ p (xP d) x=O at*;by_cases h1:p.bt.a2=0;·simp[gC,bN,oz.sub,iV,pk,eo,nd,h1,kb];grind
   ·by_cases h2:p.bt.a2=cl
    ·subst h2;simp[gC,bN,oz.sub,iV,pk,eo,nd,h1,kb];grind
    ·simp[gC,bN,oz.sub,iV,pk,eo,nd,h1,h2,kb];grind
  ·have hb0:=hb 3 (by omega);have hw0:0<=x.bx.a3/\x.bx.a3<=4:=by have:=oz.gS.1 hw;omega
   have b1: -1000<=d.1.a3/\d.1.a3<=1000:=hb0.1;have b2: -1000<=d.2.1.a3/\d.2.1.a3<=1000:=hb0.2;have eo:(fJ p (xP d) x).a3=min (d.2.1.a3 - nd p.bt.a3 x.bx.a3 cl) (d.1.a3 - x.bx.a3):=by rw[<-hcl];rfl
   generalize fJ p (xP d) x=O at*;by_cases h1:p.bt.a3=0;·simp[gC,bN,oz.sub,iV,pk,eo,nd,h1,kb];grind
   ·by_cases h2:p.bt.a3=cl
    ·subst h2;simp[gC,bN,oz.sub,iV,pk,eo,nd,h1,kb];grind
    ·simp[gC,bN,oz.sub,iV,pk,eo,nd,h1,h2,kb];grind
  ·have hb0:=hb 4 (by omega);have hw0:0<=x.bx.a4/\x.bx.a4<=4:=by have:=oz.gS.1 hw;omega
   have b1: -1000<=d.1.a4/\d.1.a4<=1000:=hb0.1;have b2: -1000<=d.2.1.a4/\d.2.1.a4<=1000:=hb0.2;have eo:(fJ p (xP d) x).a4=min (d.2.1.a4 - nd p.bt.a4 x.bx.a4 cl) (d.1.a4 - x.bx.a4):=by rw[<-hcl];rfl
   generalize fJ p (xP d) x=O at*;by_cases h1:p.bt.a4=0;·simp[gC,bN,oz.sub,iV,pk,eo,nd,h1,kb];grind
   ·by_cases h2:p.bt.a4=cl
    ·subst h2;simp[gC,bN,oz.sub,iV,pk,eo,nd,h1,kb];grind
    ·simp[gC,bN,oz.sub,iV,pk,eo,nd,h1,h2,kb];grind
  ·have hb0:=hb 5 (by omega);have hw0:0<=x.bx.a5/\x.bx.a5<=4:=by have:=oz.gS.1 hw;omega
   have b1: -1000<=d.1.a5/\d.1.a5<=1000:=hb0.1;have b2: -1000<=d.2.1.a5/\d.2.1.a5<=1000:=hb0.2;have eo:(fJ p (xP d) x).a5=min (d.2.1.a5 - nd p.bt.a5 x.bx.a5 cl) (d.1.a5 - x.bx.a5):=by rw[<-hcl];rfl
   generalize fJ p (xP d) x=O at*;by_cases h1:p.bt.a5=0;·simp[gC,bN,oz.sub,iV,pk,eo,nd,h1,kb];grind
   ·by_cases h2:p.bt.a5=cl
    ·subst h2;simp[gC,bN,oz.sub,iV,pk,eo,nd,h1,kb];grind
    ·simp[gC,bN,oz.sub,iV,pk,eo,nd,h1,h2,kb];grind
 ·intro hk;have:k=6:=by omega
  subst this;simp[gC,oz.sub,iV,pk,oz.pos,Bool.and_assoc];exact⟨by ac_rfl,rfl⟩
noncomputable def J6 (L:List NG) (W:ku) (a:Nat->Option (Nat×Nat×Nat)):ig:=⟨⟨tL L,W.C⟩,mi,ml,a,fQ,λ_=>false⟩
theorem Sq {L:List NG} {W:ku} (e:Nat->Option (Nat×Nat×Nat)) (c:NG) (F:el) (g:c.α->Nat->bJ) (i:mz Tryz.prog W) (k:∀c∈L,Holds Tryz.prog c)
  
  (h:∀a,c.dom a->Vc (oj (J6 L W e) (g a) F (c.A.put a) λv=>v.pY (c.res a))) (l:fQ c.f=some F:=by kernel_rfl) (d:lj c.f L=none:=by kernel_rfl) (b:∀a,(c.A.put a).length=F.params:=by intro _;kernel_rfl):Holds Tryz.prog c:=
 λa j=>A0 (p:=J6 L W e) (Λ:=g a) (rM i k pU) (rL i) (λ_ _ h=>h) l (FC d) (b a) (λ_ h=>vd h) (h a j).out
def oa (p:cj) (u:iI) (i:Int):iI:=if im p u (oI p i)=true then d_ p u i else zX
def xi (u:iI):Prop:=(∀k,k<6->(-1000<=u.left.at k/\u.left.at k<=1000)/\(-1000<=u.bs.at k/\u.bs.at k<=1000))/\(0<=u.value/\u.value<=160000000)/\u.bn.length<=1000
def BJ:NG:=⟨79,wA×cj×Int,.cons (dD pq) (.cons cV (.one (dX .i64))),λa=>nW a.2.1=0/\xi (xP a.1)/\0<=a.2.2/\a.2.2<a.2.1.bj.length,
 λa=> .Gz [.agg (cR pq (fP (oa a.2.1 (xP a.1) a.2.2))),.sb (im a.2.1 (xP a.1) (oI a.2.1 a.2.2))]⟩
def Sp (n:Nat):Option (Nat×Nat×Nat):=if n=2 then some (3,0,8) else none
theorem yK:Holds Tryz.prog BJ:=by
 refine Sq (L:=[]) (W:=fT [C5]) Sp BJ (fG 79) lk (kd (by simpa using HY)) (by simp) ?_;rintro⟨⟨l,o,c,v,w0,w1,w2,w3,w4,w5,w6,w7⟩,p,i⟩ ⟨hc,hd,i0,i1⟩;simp only at hc hd i0 i1;refine NI (let a:=γj .i64;let b:=SV.sb;let d:=(-1000:Int);let e:=(1000:Int);let f:=γN;let g:=SV.Gz;let h:=(0:Int);let j:=δj true;let m:=VL .i64;let n:=(1:Int);let q:=(2:Int);let r:=(3:Int);let s:=(4:Int);let t:=(5:Int);let u:=(6:Int);let w:=(7:Int);let x:=γa;let L:=γC .i64 0;let ac:=ew.i .i64;let P:=x ac [];let Q:=δj false;let M:=xP (l,o,c,v,w0,w1,w2,w3,w4,w5,w6,w7);let aa:=(fP (oa p M i)).1;let N:=(fP (oa p M i)).2;let ab:=N.2.2.2.2.2;let y:=g [f [a aa.a0,a aa.a1,a aa.a2,a aa.a3,a aa.a4,a aa.a5,a N.1.a0,a N.1.a1,a N.1.a2,a N.1.a3,a N.1.a4,a N.1.a5,x ac N.2.1,a N.2.2.1,b N.2.2.2.1,b N.2.2.2.2.1,b ab.1,b ab.2.1,b ab.2.2.1,b ab.2.2.2.1,b ab.2.2.2.2.1,b ab.2.2.2.2.2],b (im p M (oI p i))];let ad:=bN p.bj i.toNat ew.bu.bw;let O:=ad.TM;let G:=ad.bx;let R:=(↑p.bk.length:Int);let a9:=l.sub G;let I:=a9.pos;let H:=ad.value;let S:=fJ p M (bC.mk h G H);let A:=a a9.a0;let B:=a a9.a1;let C:=a a9.a2;let D:=a a9.a3;let E:=a a9.a4;let F:=a a9.a5;let ae:=a S.a0;let af:=a S.a1;let ag:=a S.a2;let ah:=a S.a3;let ai:=a S.a4;let aj:=a S.a5;let T:=a (v+H);let ak:=[b w6,b w7];let al:=b w4::b w5::ak;let bc:=b w2::b w3::al;let am:=T::j::b w1::bc;let z:=[j];let U:=x ac [i];let J:=c.length+1;let V:=x ac (c++[i]);let W:=fJ p M (bC.mk n G H);let an:=a W.a0;let ao:=a W.a1;let ap:=a W.a2;let aq:=a W.a3;let ar:=a W.a4;let au:=a W.a5;let av:=T::b w0::j::bc;let X:=fJ p M (bC.mk q G H);let aw:=a X.a0;let ax:=a X.a1;let ay:=a X.a2;let az:=a X.a3;let aA:=a X.a4;let aB:=a X.a5;let aC:=T::b w0::b w1::j::b w3::al;let Y:=fJ p M (bC.mk r G H);let aD:=a Y.a0;let aE:=a Y.a1;let aF:=a Y.a2;let aG:=a Y.a3;let aH:=a Y.a4;let aI:=a Y.a5;let aJ:=T::b w0::b w1::b w2::j::al;let Z:=fJ p M (bC.mk s G H);let aK:=a Z.a0;let aL:=a Z.a1;let aM:=a Z.a2;let aN:=a Z.a3;let aO:=a Z.a4;let aP:=a Z.a5;let aQ:=T::b w0::b w1::b w2::b w3::j::b w5::ak;let a6:=fJ p M (bC.mk t G H);let aR:=a a6.a0;let aS:=a a6.a1;let aT:=a a6.a2;let aU:=a a6.a3;let aV:=a a6.a4;let aW:=a a6.a5;let aX:=T::b w0::b w1::b w2::b w3::b w4::j::ak;let a7:=fJ p M (bC.mk u G H);let aY:=a a7.a0;let aZ:=a a7.a1;let b0:=a a7.a2;let b1:=a a7.a3;let b2:=a a7.a4;let b3:=a a7.a5;let b4:=[T,b w0,b w1,b w2,b w3,b w4,b w5,j,b w7];let a8:=fJ p M (bC.mk w G H);let b5:=a a8.a0;let b6:=a a8.a1;let b7:=a a8.a2;let b8:=a a8.a3;let b9:=a a8.a4;let ba:=a a8.a5;let bb:=T::b w0::b w1::b w2::b w3::b w4::b w5::b w6::z;let K:=(g [f [L,L,L,L,L,L,L,L,L,L,L,L,P,L,Q,Q,Q,Q,Q,Q,Q,Q],Q]).bi y;h<=i/\i<(↑p.bj.length:Int)/\i.toNat<p.bj.length/\(O=h->(w0=true->K)/\(w0=false->(((∀(k:Nat),k<6->(d<=l.at k/\l.at k<=e)/\d<=o.at k/\o.at k<=e)/\G.ok=true)/\h<=h/\h<R)/\((!(I&&S.pos))=true->K)/\((!(I&&S.pos))=false->m (v+H)/\(c.length=0->(1=0->(g (f (A::B::C::D::E::F::ae::af::ag::ah::ai::aj::P::am)::z)).bi y)/\(1≠0->8<=140737488355328/\1<=1000000000000/\1=1/\(g (f (A::B::C::D::E::F::ae::af::ag::ah::ai::aj::U::am)::z)).bi y))/\(c.length≠0->c.length*8<=140737488355328/\c.length<=1000000000000/\c.length=c.length/\J*8<=140737488355328/\J<=1000000000000/\(c++[i]).length=(c++[i]).length/\(g (f (A::B::C::D::E::F::ae::af::ag::ah::ai::aj::V::am)::z)).bi y))))/\(O=n->(w1=true->K)/\(w1=false->(((∀(k:Nat),k<6->(d<=l.at k/\l.at k<=e)/\d<=o.at k/\o.at k<=e)/\G.ok=true)/\h<=n/\n<R)/\((!(I&&W.pos))=true->K)/\((!(I&&W.pos))=false->m (v+H)/\(c.length=0->(1=0->(g (f (A::B::C::D::E::F::an::ao::ap::aq::ar::au::P::av)::z)).bi y)/\(1≠0->8<=140737488355328/\1<=1000000000000/\1=1/\(g (f (A::B::C::D::E::F::an::ao::ap::aq::ar::au::U::av)::z)).bi y))/\(c.length≠0->c.length*8<=140737488355328/\c.length<=1000000000000/\c.length=c.length/\J*8<=140737488355328/\J<=1000000000000/\(c++[i]).length=(c++[i]).length/\(g (f (A::B::C::D::E::F::an::ao::ap::aq::ar::au::V::av)::z)).bi y))))/\(O=q->(w2=true->K)/\(w2=false->(((∀(k:Nat),k<6->(d<=l.at k/\l.at k<=e)/\d<=o.at k/\o.at k<=e)/\G.ok=true)/\h<=q/\q<R)/\((!(I&&X.pos))=true->K)/\((!(I&&X.pos))=false->m (v+H)/\(c.length=0->(1=0->(g (f (A::B::C::D::E::F::aw::ax::ay::az::aA::aB::P::aC)::z)).bi y)/\(1≠0->8<=140737488355328/\1<=1000000000000/\1=1/\(g (f (A::B::C::D::E::F::aw::ax::ay::az::aA::aB::U::aC)::z)).bi y))/\(c.length≠0->c.length*8<=140737488355328/\c.length<=1000000000000/\c.length=c.length/\J*8<=140737488355328/\J<=1000000000000/\(c++[i]).length=(c++[i]).length/\(g (f (A::B::C::D::E::F::aw::ax::ay::az::aA::aB::V::aC)::z)).bi y))))/\(O=r->(w3=true->K)/\(w3=false->(((∀(k:Nat),k<6->(d<=l.at k/\l.at k<=e)/\d<=o.at k/\o.at k<=e)/\G.ok=true)/\h<=r/\r<R)/\((!(I&&Y.pos))=true->K)/\((!(I&&Y.pos))=false->m (v+H)/\(c.length=0->(1=0->(g (f (A::B::C::D::E::F::aD::aE::aF::aG::aH::aI::P::aJ)::z)).bi y)/\(1≠0->8<=140737488355328/\1<=1000000000000/\1=1/\(g (f (A::B::C::D::E::F::aD::aE::aF::aG::aH::aI::U::aJ)::z)).bi y))/\(c.length≠0->c.length*8<=140737488355328/\c.length<=1000000000000/\c.length=c.length/\J*8<=140737488355328/\J<=1000000000000/\(c++[i]).length=(c++[i]).length/\(g (f (A::B::C::D::E::F::aD::aE::aF::aG::aH::aI::V::aJ)::z)).bi y))))/\(O=s->(w4=true->K)/\(w4=false->(((∀(k:Nat),k<6->(d<=l.at k/\l.at k<=e)/\d<=o.at k/\o.at k<=e)/\G.ok=true)/\h<=s/\s<R)/\((!(I&&Z.pos))=true->K)/\((!(I&&Z.pos))=false->m (v+H)/\(c.length=0->(1=0->(g (f (A::B::C::D::E::F::aK::aL::aM::aN::aO::aP::P::aQ)::z)).bi y)/\(1≠0->8<=140737488355328/\1<=1000000000000/\1=1/\(g (f (A::B::C::D::E::F::aK::aL::aM::aN::aO::aP::U::aQ)::z)).bi y))/\(c.length≠0->c.length*8<=140737488355328/\c.length<=1000000000000/\c.length=c.length/\J*8<=140737488355328/\J<=1000000000000/\(c++[i]).length=(c++[i]).length/\(g (f (A::B::C::D::E::F::aK::aL::aM::aN::aO::aP::V::aQ)::z)).bi y))))/\(O=t->(w5=true->K)/\(w5=false->(((∀(k:Nat),k<6->(d<=l.at k/\l.at k<=e)/\d<=o.at k/\o.at k<=e)/\G.ok=true)/\h<=t/\t<R)/\((!(I&&a6.pos))=true->K)/\((!(I&&a6.pos))=false->m (v+H)/\(c.length=0->(1=0->(g (f (A::B::C::D::E::F::aR::aS::aT::aU::aV::aW::P::aX)::z)).bi y)/\(1≠0->8<=140737488355328/\1<=1000000000000/\1=1/\(g (f (A::B::C::D::E::F::aR::aS::aT::aU::aV::aW::U::aX)::z)).bi y))/\(c.length≠0->c.length*8<=140737488355328/\c.length<=1000000000000/\c.length=c.length/\J*8<=140737488355328/\J<=1000000000000/\(c++[i]).length=(c++[i]).length/\(g (f (A::B::C::D::E::F::aR::aS::aT::aU::aV::aW::V::aX)::z)).bi y))))/\(O=u->(w6=true->K)/\(w6=false->(((∀(k:Nat),k<6->(d<=l.at k/\l.at k<=e)/\d<=o.at k/\o.at k<=e)/\G.ok=true)/\h<=u/\u<R)/\((!(I&&a7.pos))=true->K)/\((!(I&&a7.pos))=false->m (v+H)/\(c.length=0->(1=0->(g (f (A::B::C::D::E::F::aY::aZ::b0::b1::b2::b3::P::b4)::z)).bi y)/\(1≠0->8<=140737488355328/\1<=1000000000000/\1=1/\(g (f (A::B::C::D::E::F::aY::aZ::b0::b1::b2::b3::U::b4)::z)).bi y))/\(c.length≠0->c.length*8<=140737488355328/\c.length<=1000000000000/\c.length=c.length/\J*8<=140737488355328/\J<=1000000000000/\(c++[i]).length=(c++[i]).length/\(g (f (A::B::C::D::E::F::aY::aZ::b0::b1::b2::b3::V::b4)::z)).bi y))))/\(O=w->(w7=true->K)/\(w7=false->(((∀(k:Nat),k<6->(d<=l.at k/\l.at k<=e)/\d<=o.at k/\o.at k<=e)/\G.ok=true)/\h<=w/\w<R)/\((!(I&&a8.pos))=true->K)/\((!(I&&a8.pos))=false->m (v+H)/\(c.length=0->(1=0->(g (f (A::B::C::D::E::F::b5::b6::b7::b8::b9::ba::P::bb)::z)).bi y)/\(1≠0->8<=140737488355328/\1<=1000000000000/\1=1/\(g (f (A::B::C::D::E::F::b5::b6::b7::b8::b9::ba::U::bb)::z)).bi y))/\(c.length≠0->c.length*8<=140737488355328/\c.length<=1000000000000/\c.length=c.length/\J*8<=140737488355328/\J<=1000000000000/\(c++[i]).length=(c++[i]).length/\(g (f (A::B::C::D::E::F::b5::b6::b7::b8::b9::ba::V::bb)::z)).bi y))))/\h<=O/\O<(8:Int)) (by kernel_rfl) ?_;simp only[vcs];have hg:=(cL hc).2.2.2.2 (oI p i) (cA (by omega));have hc8:=(cL hc).1;obtain⟨h1,h2,h3⟩:=hd;have h1':∀k,k<6->(-1000<=l.at k/\l.at k<=1000)/\(-1000<=o.at k/\o.at k<=1000):=h1;have h2':0<=v/\v<=160000000:=h2;have h3':c.length<=1000:=h3;refine⟨i0,i1,by omega,?_⟩;have eo:bN p.bj i.toNat ew.bu.bw=oI p i:=rfl;simp only[eo];generalize hr:fP (oa p (xP (l,o,c,v,w0,w1,w2,w3,w4,w5,w6,w7)) i)=r;simp only[oa,d_] at hr;generalize hW:im p (xP (l,o,c,v,w0,w1,w2,w3,w4,w5,w6,w7)) (oI p i)=W at*;simp only[im] at hW;generalize oI p i=x at*;obtain⟨b,w,y⟩:=x;simp only at hg hW hr ⊢;refine⟨?_,?_,?_,?_,?_,?_,?_,?_,?_⟩;case refine_9=>
  exact⟨hg.1,by omega⟩
 all_goals
  rintro rfl;refine⟨λhw=>?_,λhw=>⟨⟨⟨h1',hg.2.2.1⟩,by omega,by omega⟩,λhq=>?_,λhq=>⟨by omega,λhl=>⟨λh=>absurd h (by decide),λ_=>⟨by omega,by omega,?_⟩⟩,λhl=>⟨by omega,by omega,by omega,by omega,?_⟩⟩⟩⟩;all_goals subst hw
  ·have e:W=false:=hW.symm;subst e;subst hr;exact⟨rfl,rfl⟩
  ·have e:W=false:=hW.symm.trans hq;subst e;subst hr;exact⟨rfl,rfl⟩
  ·have e:W=true:=hW.symm.trans (by simp only[θ];exact⟨rfl,hq⟩);subst e;subst hr;have:=χ hl;subst this;exact⟨rfl,rfl⟩
  ·have e:W=true:=hW.symm.trans (by simp only[θ];exact⟨rfl,hq⟩);subst e;subst hr;exact⟨rfl,rfl⟩
def C4:NG:=⟨81,wA×cj×Int,.cons (dD pq) (.cons cV (.one (dX .i64))),λa=>nW a.2.1=0/\xi (xP a.1)/\0<=a.2.2/\a.2.2<=a.2.1.bj.length,
 λa=> .agg (fR a.2.1 (xP a.1) a.2.2.toNat).ss⟩
def nz (p:cj) (u:iI) (i k:Nat):List bC:=((p.bj.take k).drop i).filter (im p u)
theorem So {p:cj} {u:iI} {i:Nat}:nz p u i i=[]:=by
 grind[nz]
theorem Sn {p:cj} {u:iI} {i k:Nat} (b:i<=k) (a:k<p.bj.length):nz p u i (k+1)=nz p u i k++if im p u (oI p k)=true then[oI p k] else[]:=by
 unfold nz;have e:oI p k=p.bj[k]:=bV (by omega);rw[List.take_succ_eq_append_getElem a,List.drop_append_of_le_length (by grind),List.filter_append,e];grind
theorem Sm {p:cj} {u:iI} {i k:Nat}:(nz p u i k).length<=p.bj.length:=by
 grind[nz]
def Sl (l o:oz) (c:List Int) (v:Int) (w0 w1 w2 w3 w4 w5 w6 w7:Bool) (p:cj) (i:Int):Nat->bJ
 |3=> .inv Int (λk=>⟨[(3,.ptr 0 0 22),(4,.ptr 1 0 20),(6,.ptr 2 0 20),(7,.ptr 3 0 20),(8,.si .i64 k)],
   [.cells (cR pq (l,o,c,v,w0,w1,w2,w3,w4,w5,w6,w7)) 142 22 false,.cells p.ss 27 20 false,
    .cells [.il .i64 0,.il .i64 0,.il .i64 0,.il .i64 0,.il .i64 0,.il .i64 0,.il .i64 0,.il .i64 0,.il .i64 0,.il .i64 0,.il .i64 0,.il .i64 0,.il .i64 0,.il .i64 0,.il .i64 0,.il .i64 0,.il .i64 0,.il .i64 0,.sc (.slice none 0 0),.sc (.slice none 0 0)] 27 20 false,
    .cells [.si .i64 l.a0,.si .i64 l.a1,.si .i64 l.a2,.si .i64 l.a3,.si .i64 l.a4,.si .i64 l.a5,.si .i64 o.a0,.si .i64 o.a1,.si .i64 o.a2,.si .i64 o.a3,.si .i64 o.a4,.si .i64 o.a5,
     .si .i64 p.bt.a0,.si .i64 p.bt.a1,.si .i64 p.bt.a2,.si .i64 p.bt.a3,.si .i64 p.bt.a4,.si .i64 p.bt.a5,.row (.i .i64) p.bk,.ow 4 (nz p (xP (l,o,c,v,w0,w1,w2,w3,w4,w5,w6,w7)) i.toNat k.toNat).length 8] 27 20 false,
    .row .bu (nz p (xP (l,o,c,v,w0,w1,w2,w3,w4,w5,w6,w7)) i.toNat k.toNat) 65 true]⟩)
   (λs=>iS s 8) (λk=>i<=k/\k<=p.bj.length) (λk=>(p.bj.length - k).toNat) λ_ _=> .look
 |_=> .look
theorem H2:Holds Tryz.prog C4:=by
 refine bM (L:=[BJ]) C4 (λa=>Sl a.1.1 a.1.2.1 a.1.2.2.1 a.1.2.2.2.1 a.1.2.2.2.2.1 a.1.2.2.2.2.2.1 a.1.2.2.2.2.2.2.1 a.1.2.2.2.2.2.2.2.1 a.1.2.2.2.2.2.2.2.2.1 a.1.2.2.2.2.2.2.2.2.2.1 a.1.2.2.2.2.2.2.2.2.2.2.1 a.1.2.2.2.2.2.2.2.2.2.2.2 a.2.1 a.2.2) (by simpa using yK) ?_;rintro⟨⟨l,o,c,v,w0,w1,w2,w3,w4,w5,w6,w7⟩,p,i⟩ ⟨hc,hd,i0,i1⟩;simp only at hc hd i0 i1;refine NI (let a:=γj .i64;let b:=iZ.cells;let d:=iZ.row;let e:=SV.sb;let f:=γa;let g:=γV;let h:=(0:Int);let j:=SV.ow;let y:=a p.bt.a0;let z:=a p.bt.a1;let A:=a p.bt.a2;let B:=a p.bt.a3;let C:=a p.bt.a4;let D:=a p.bt.a5;let Z:=ew.i .i64;let E:=f Z p.bk;let G:=g 0 0 22;let H:=g 1 0 20;let I:=g 2 0 20;let J:=g 3 0 20;let K:=a l.a0;let L:=a l.a1;let M:=a l.a2;let N:=a l.a3;let O:=a l.a4;let P:=a l.a5;let Q:=a o.a0;let R:=a o.a1;let S:=a o.a2;let T:=a o.a3;let U:=a o.a4;let V:=a o.a5;let W:=b [K,L,M,N,O,P,Q,R,S,T,U,V,f Z c,a v,e w0,e w1,e w2,e w3,e w4,e w5,e w6,e w7] 142 22 false;let X:=f ew.bu p.bj;let k:=γC .i64 0;let a8:=SV.sc (Value.slice none 0 0);let Y:=b [k,k,k,k,k,k,k,k,k,k,k,k,k,k,k,k,k,k,a8,a8] 27 20 false;let n:=xP (l,o,c,v,w0,w1,w2,w3,w4,w5,w6,w7);let a9:=nz p n i.toNat i.toNat;let q:=(↑p.bj.length:Int);let a6:=(↑p.bj.length:Int);let F:=fR p n i.toNat;let r:=F.bm;let s:=F.bs;let t:=F.bt;let a7:=λ(u u_1:oz) (u_2 u_3:SV) ↦let aa:=a u.a0;let ab:=a u.a1;let ac:=a u.a2;let ad:=a u.a3;let ae:=a u.a4;let af:=a u.a5;let ag:=a u_1.a0;let ah:=a u_1.a1;let ai:=a u_1.a2;let aj:=a u_1.a3;let ak:=a u_1.a4;let al:=a u_1.a5;(b [aa,ab,ac,ad,ae,af,ag,ah,ai,aj,ak,al,y,z,A,B,C,D,E,u_2] 27 20 false).bi (b [aa,ab,ac,ad,ae,af,ag,ah,ai,aj,ak,al,y,z,A,B,C,D,E,u_3] 27 20 false);(((G.bi G/\H.bi H/\I.bi I/\J.bi J/\(a i).bi (a i)/\True)/\W.bi W/\a7 p.bm p.bs X X/\Y.bi Y/\a7 l o (j 4 0 8) (j 4 a9.length 8)/\(d ew.bu [] 65 true).bi (d ew.bu a9 65 true)/\True)/\i<=i/\i<=q)/\∀(x:Int),let w:=x+(1:Int);let am:=a w;let an:=nz p n i.toNat w.toNat;let ao:=im p n (oI p x);let m:=nz p n i.toNat x.toNat;let ap:=m.length+1;let aq:=m++[bN p.bj x.toNat ew.bu.bw];let ar:=λ(u:Nat) (u_1:iZ) ↦VL .i64 w/\((G.bi G/\H.bi H/\I.bi I/\J.bi J/\am.bi am/\True)/\W.bi W/\a7 p.bm p.bs X X/\Y.bi Y/\(b [K,L,M,N,O,P,Q,R,S,T,U,V,y,z,A,B,C,D,E,j 4 u 8] 27 20 false).bi (b [K,L,M,N,O,P,Q,R,S,T,U,V,y,z,A,B,C,D,E,j 4 an.length 8] 27 20 false)/\u_1.bi (d ew.bu an 65 true)/\True)/\(i<=w/\w<=q)/\(q - w).toNat<(q - x).toNat;i<=x/\x<=q->(decide (x<a6)=true->(nW p=h/\xi n/\h<=x/\x<q)/\(ao=true->h<=x/\x<a6/\x.toNat<p.bj.length/\1=1/\m.length=m.length/\ap*64<=140737488355328/\ap<=1000000000000/\ar aq.length (d ew.bu aq 65 true))/\(ao=false->ar m.length (d ew.bu m 65 true)))/\(decide (x<a6)=false->m.length=m.length/\(γN [K,L,M,N,O,P,Q,R,S,T,U,V,y,z,A,B,C,D,E,f ew.bu m]).bi (γN [a r.a0,a r.a1,a r.a2,a r.a3,a r.a4,a r.a5,a s.a0,a s.a1,a s.a2,a s.a3,a s.a4,a s.a5,a t.a0,a t.a1,a t.a2,a t.a3,a t.a4,a t.a5,f Z F.bk,f ew.bu F.bj]))) (by kernel_rfl) ?_;simp only[vcs];have hl:p.bj.length<=160:=(cL hc).2.1;generalize hu:xP (l,o,c,v,w0,w1,w2,w3,w4,w5,w6,w7)=u at*;have e0:=@So p u i.toNat;refine⟨⟨⟨by rw[e0];rfl,by rw[e0];rfl⟩,by omega,by omega⟩,?_⟩;rintro k ⟨k0,k1⟩;have hlen:=@Sm p u i.toNat k.toNat;refine⟨λhk=>?_,λhk=>?_⟩
 ·have eS:=@Sn p u i.toNat k.toNat (by omega) (by omega);rw[show((k.toNat:Nat):Int)=k by omega] at eS;have eo:bN p.bj k.toNat ew.bu.bw=oI p k:=rfl;rw[show(k+1).toNat=k.toNat+1 by omega,eS,eo];refine⟨⟨hc,hd,by omega,by omega⟩,λhw=>?_,λhw=>?_⟩
  ·rw[if_pos hw];refine⟨?_,?_,?_,?_,?_,?_,⟨rfl,rfl⟩,?_,?_⟩<;>omega
  ·rw[if_neg (by rw[hw];simp),List.append_nil];refine⟨?_,⟨rfl,rfl⟩,?_,?_⟩<;>omega
 ·rw[show k.toNat=p.bj.length by omega];subst hu;unfold nz;rw[φ];rfl
noncomputable def C3:NG:=⟨56,cj×Int,.cons cV (.one (dX .i64)),λa=>(nW a.1=0/\a.1.bj.length<=15)/\a.2=(M9 a.1).value,
 λa=> .Gz [.row (.i .i64) (M9 a.1).bn,.si .i64 0]⟩
noncomputable def Sk (p:cj) (m:Int):Nat->bJ
 |3=> .inv Int (λk=>⟨[(1,.si .i64 m),(2,.ptr 0 0 20),(6,.ptr 1 0 22),(21,.si .i64 p.bj.length),(22,.si .i64 k)],
   [.cells p.ss 27 20 false,.cells (cR pq (fP (jc p m k.toNat))) 142 22 false,.dead]⟩)
   (λs=>iS s 22) (λk=>0<=k/\k<=p.bj.length) (λk=>(p.bj.length - k).toNat) λ_ _=> .look
 |_=> .look
theorem Sj {b a:Type} (x:b×a):(x.1,x.2)=x:=rfl
theorem J5 {p:cj} {m:Int} {k:Nat} (h:(jc p m k).value=m):∀n,jc p m (k+n)=jc p m k
 |0=>rfl
 |n+1=>by
  have a:=J5 h n;simp_all[oT,jc]
theorem Si {p:cj} {u:iI} {i:Int} (h:u.won.length=8):(oa p u i).won.length=8:=by
 unfold oa;split
 ·show(u.won.set _ true).length=8;simp_all
 ·rfl
theorem J4 {p:cj} {u:iI} (e:nW p=0) (d:pz p u):xi u:=by
 have g:=BQ e d (k:=0);have j:=ux.1 (rJ (rI g).1).1;have i:∀k,k<6->0<=u.bs.at k/\u.bs.at k<=u.left.at k:=λk c=>⟨(qJ g c).2.2.1,(qJ g c).2.2.2.1⟩;have h:=(oU e).2 d.f;obtain⟨m,q,n⟩:=rb e h;have o:u.value=cB p u.bn:=by rw[d.v,uE e d.f]
 refine⟨λk c=>?_,by omega,by omega⟩;have a:=j k c;have b:=i k c;have l:0<=u.left.at k/\u.left.at k<=4:=a;omega
theorem H5:Holds Tryz.prog C3:=by
 refine bM (L:=[BJ,C4,C6]) C3 (λa=>Sk a.1 a.2) (by simpa using⟨yK,H2,H6⟩) ?_;rintro⟨p,m⟩ ⟨⟨hc,h15⟩,hm⟩;simp only at hc h15 hm;refine NI (let a:=γj .i64;let b:=SV.sb;let c:=(0:Int);let d:=iZ.cells;let e:=γa;let f:=VL .i64;let g:=(65536:Int);let h:=SV.Gz;let A:=γV 0 0 20;let B:=γV 1 0 22;let k:=(↑p.bj.length:Int);let M:=a k;let Q:=γC .i64 0;let U:=a 0;let V:=a p.bm.a0;let W:=a p.bm.a1;let X:=a p.bm.a2;let Y:=a p.bm.a3;let Z:=a p.bm.a4;let a6:=a p.bm.a5;let a7:=a p.bs.a0;let a8:=a p.bs.a1;let a9:=a p.bs.a2;let aa:=a p.bs.a3;let ab:=a p.bs.a4;let ac:=a p.bs.a5;let o:=ew.i .i64;let C:=d [V,W,X,Y,Z,a6,a7,a8,a9,aa,ab,ac,a p.bt.a0,a p.bt.a1,a p.bt.a2,a p.bt.a3,a p.bt.a4,a p.bt.a5,e o p.bk,e ew.bu p.bj] 27 20 false;let q:=δj false;let D:=fP (jc p m 0);let E:=D.1;let F:=D.2.1;let G:=D.2.2.2.2.2;let ad:=G.2.2.2.2.2;let ae:=h [e o (M9 p).bn,U];0=0/\((((a m).bi (a m)/\A.bi A/\B.bi B/\(a (↑p.bj.length:Int)).bi M/\Q.bi U/\True)/\C.bi C/\(d [V,W,X,Y,Z,a6,a7,a8,a9,aa,ab,ac,e o [],Q,q,q,q,q,q,q,q,q] 142 22 false).bi (d [a E.a0,a E.a1,a E.a2,a E.a3,a E.a4,a E.a5,a F.a0,a F.a1,a F.a2,a F.a3,a F.a4,a F.a5,e o D.2.2.1,a D.2.2.2.1,b D.2.2.2.2.1,b G.1,b G.2.1,b G.2.2.1,b G.2.2.2.1,b G.2.2.2.2.1,b ad.1,b ad.2] 142 22 false)/\iZ.dead.bi iZ.dead/\True)/\c<=c/\c<=k)/\∀(x:Int),let j:=x+(1:Int);let N:=a j;let s:=fP (jc p m x.toNat);let t:=s.1;let v:=s.2.1;let af:=e o s.2.2.1;let R:=s.2.2.2.1;let ag:=s.2.2.2.2.1;let l:=s.2.2.2.2.2;let ah:=l.2.2.2.2.1;let O:=l.2.2.2.2.2;let H:=fP (jc p m j.toNat);let I:=H.1;let J:=H.2.1;let K:=H.2.2.2.2.2;let ai:=K.2.2.2.2.2;let aj:=d [a I.a0,a I.a1,a I.a2,a I.a3,a I.a4,a I.a5,a J.a0,a J.a1,a J.a2,a J.a3,a J.a4,a J.a5,e o H.2.2.1,a H.2.2.2.1,b H.2.2.2.2.1,b K.1,b K.2.1,b K.2.2.1,b K.2.2.2.1,b K.2.2.2.2.1,b ai.1,b ai.2] 142 22 false;let P:=xP (t,v,s.2.2.1,R,ag,l.1,l.2.1,l.2.2.1,l.2.2.2.1,ah,O.1,O.2);let w:=(fP (oa p P x)).1;let r:=(fP (oa p P x)).2;let y:=r.1;let z:=r.2.2.1;let ak:=r.2.2.2.2.1;let n:=r.2.2.2.2.2;let al:=n.2.2.2.2.1;let am:=n.2.2.2.2.2;let S:=fR p (xP (w,y,r.2.1,z,r.2.2.2.1,ak,n.1,n.2.1,n.2.2.1,n.2.2.2.1,al,am)) j.toNat;let an:=iq S (m - z) g;let ao:=f j/\(((a m).bi (a m)/\A.bi A/\B.bi B/\M.bi M/\N.bi N/\True)/\C.bi C/\(d [a t.a0,a t.a1,a t.a2,a t.a3,a t.a4,a t.a5,a v.a0,a v.a1,a v.a2,a v.a3,a v.a4,a v.a5,af,a R,b ag,b l.1,b l.2.1,b l.2.2.1,b l.2.2.2.1,b ah,b O.1,b O.2] 142 22 false).bi aj/\iZ.dead.bi iZ.dead/\True)/\(c<=j/\j<=k)/\(k - j).toNat<(k - x).toNat;let ap:=(h [af,Q]).bi ae;let aq:=λ(u:Bool) ↦jd S (m - z) g=u;let ar:=λ(u:Bool) ↦decide (an≠c)=u;let au:=λ(u:iI) ↦let L:=(fP u).2.2.2.2;let T:=L.2.2.2.2.2;xi (xP ((fP u).1,(fP u).2.1,(fP u).2.2.1,(fP u).2.2.2.1,L.1,L.2.1,L.2.2.1,L.2.2.2.1,L.2.2.2.2.1,T.1,T.2.1,T.2.2));let av:=λ(u:Bool) ↦(!im p P (oI p x))=u;let aw:=λ(u:Bool) ↦decide (R=m)=u;c<=x/\x<=k->(decide (x<k)=true->(aw true->ap)/\(aw false->(nW p=c/\au (jc p m x.toNat)/\c<=x/\x<k)/\(av true->ao)/\(av false->f j/\(nW p=c/\au (oa p P x)/\c<=j/\j<=k)/\f (m - z)/\(S.bj.length<=20/\(-9223372036854775808:Int)<=m - z/\m - z<=(9223372036854775807:Int))/\(ar true->(h [e o [],a an]).bi ae)/\(ar false->(aq true->f j/\(((a m).bi (a m)/\A.bi A/\B.bi B/\M.bi M/\N.bi N/\True)/\C.bi C/\(d [a w.a0,a w.a1,a w.a2,a w.a3,a w.a4,a w.a5,a y.a0,a y.a1,a y.a2,a y.a3,a y.a4,a y.a5,e o r.2.1,a z,b r.2.2.2.1,b ak,b n.1,b n.2.1,b n.2.2.1,b n.2.2.2.1,b al,b am] 142 22 false).bi aj/\iZ.dead.bi iZ.dead/\True)/\(c<=j/\j<=k)/\(k - j).toNat<(k - x).toNat)/\(aq false->ao)))))/\(decide (x<k)=false->ap)) (by kernel_rfl) ?_;simp only[vcs];simp only[Sj];refine⟨⟨rfl,by omega,by omega⟩,?_⟩;rintro k ⟨k0,k1⟩;obtain⟨hG,hC⟩:=Ed hc h15 k.toNat (by omega);rw[<-hm] at hG hC;generalize hu:jc p m k.toNat=u at*;have hW:=@Si p u k hG.wl;simp only[J7 hG.wl,J7 hW];have hrun:jc p m (k+1).toNat=oT p m u k:=by
  rw[show(k+1).toNat=k.toNat+1 by omega];show oT p m (jc p m k.toNat) _=_;rw[hu,show((k.toNat:Nat):Int)=k by omega]
 have hD:=J4 hc hG;refine⟨λhk=>⟨λhv=>?_,λhv0=>⟨⟨hc,hD,by omega,by omega⟩,λhw=>?_,λhw=>?_⟩⟩,λhk=>?_⟩
 ·have h1:=@J5 p m k.toNat (by rw[hu];exact hv) (p.bj.length - k.toNat);rw[show k.toNat+(p.bj.length - k.toNat)=p.bj.length by omega,hu] at h1;show u.bn=_;rw[<-h1,hm,JI hc h15]
 ·have hv:¬u.value=m:=hv0;have e:jc p m (k+1).toNat=u:=by rw[hrun];unfold oT;rw[if_neg hv,if_neg (by rw[hw];simp)]
  rw[e];refine⟨?_,rfl,?_,?_⟩<;>omega
 ·have hv:¬u.value=m:=hv0;have hy:oa p u k=d_ p u k:=by unfold oa;rw[if_pos hw]
  rw[hy];have hlt:∀j∈u.bn,j<k:=λj hj=>by
   rw[hC] at hj;have:=of_decide_eq_true (Ψ.1 hj).2;omega
  have hG2:=hG.next hc hlt ⟨by omega,by omega⟩ hw;have hD2:=J4 hc hG2;have hq:=BQ hc hG2 (k:=(k+1).toNat);have hql:(fR p (d_ p u k) (k+1).toNat).bj.length<=15:=by
   have h1:=List.length_filter_le (im p (d_ p u k)) (p.bj.drop (k+1).toNat);rw[List.length_drop] at h1;show((p.bj.drop _).filter _).length<=15;omega
  have hroom:iq (fR p (d_ p u k) (k+1).toNat) (m - (d_ p u k).value) 65536=0:=D0 hq (by omega) (by
   have:2^((fR p (d_ p u k) (k+1).toNat).bj.length+1)<=2^16:=δt (by omega) (by omega);have h16:(2:Nat)^16=65536:=rfl;omega);have hmb:0<=m/\m<=160000000:=by
   obtain⟨f1,f2⟩:=oR hc;have:=rb hc ((oU hc).2 f1);rw[uE hc f1] at this;omega
  have hv2:0<=(d_ p u k).value/\(d_ p u k).value<=160000000:=hD2.2.1;have ev:(fP (d_ p u k)).2.2.2.1=(d_ p u k).value:=rfl;rw[ev,hroom];have er:jc p m (k+1).toNat=if jd (fR p (d_ p u k) (k+1).toNat) (m - (d_ p u k).value) 65536=true then d_ p u k else u:=by
   rw[hrun];unfold oT;rw[if_neg hv,if_pos hw]
  refine⟨by omega,⟨hc,hD2,by omega,by omega⟩,by omega,⟨by omega,by omega,by omega⟩,λh=>absurd rfl h,λ_=>⟨λhb=>?_,λhb=>?_⟩⟩
  ·rw[er,if_pos hb];refine⟨?_,rfl,?_,?_⟩<;>omega
  ·rw[er,if_neg (by rw[hb];simp)];refine⟨?_,rfl,?_,?_⟩<;>omega
 ·show u.bn=_;rw[<-hu,hm,show k.toNat=p.bj.length by omega,JI hc h15]
noncomputable def oQ (p:cj):List cy:=(gA p (fA p (jg p)).bn 65536).bq
noncomputable def C2:NG:=⟨33,cj,.one cV,λp=>nW p≠0\/p.bj.length<=15,
 λp=> .Gz [.agg [.row (.i .i64) (if nW p=0 then(M9 p).bn else[]),.si .i64 (if nW p=0 then(M9 p).value else 0),.row Ao (if nW p=0 then oQ p else[])],.si .i64 (nW p)]⟩
theorem H8:Holds Tryz.prog C2:=by
 refine bM (L:=[mV,yc,yb,C7,C3]) C2 lk (by grind[oi,ua,t_,H7,H5]) ?_;rintro(p:cj) (y:nW p≠0\/p.bj.length<=15);refine NI (let a:=(0:Int);let b:=γj .i64;let d:=γa;let h:=(65536:Int);let l:=SV.Gz;let o:=γN;let k:=ew.i .i64;let w:=[b (nW p)];let m:=l (o [d k (if nW p=a then(M9 p).bn else[]),b (if nW p=a then(M9 p).value else a),d Ao (if nW p=a then oQ p else[])]::w);let t:=γC .i64 0;let v:=o [d k [],t,d k []];let x:=decide (nW p≠a);let q:=(fA p (jg p)).bn;let j:=jH p q h;let f:=decide (j≠a);let g:=gA p q h;let e:=if j=a then g.val else a;let B:=λ(u c:Bool) (n:List SV) ↦u=c->(l n).bi m;let r:=λ(u:Bool) (c:Int) ↦u=true->(l [v,b c]).bi m;True/\(x=true->(l (v::w)).bi m)/\(x=false->p.bj.length<=20/\(jg p).length<=9223372036854775807/\(p.bj.length<=20/\q.length<=9223372036854775807)/\r f j/\(f=false->((nW p=a/\p.bj.length<=15)/\e=(M9 p).value)/\r false a/\B false false [o [d k (M9 p).bn,b e,d Ao (if j=a then g.bq else[])],t]))) (by kernel_rfl) ?_;simp only[vcs];by_cases a:nW p=0
 ·have l:p.bj.length<=15:=y.resolve_left λh=>h a;obtain⟨o,_⟩:=uB a;have D:=C8 a;have A:=(rb a o).2.2;have b:((1+2^(p.bj.length+1):Nat):Int)<=65536+2:=by
   have:2^(p.bj.length+1)<=2^16:=δt (by omega) (by omega);omega
  have d:jH p (fA p (jg p)).bn 65536=0:=To a o (by omega) b;obtain⟨_,C,z⟩:=D2 a o (bz:=65536) (by omega);have s:=(C (z b)).2.1;simp only[d,a,if_true];refine⟨λh=>absurd rfl h,λ_=>⟨by omega,by omega,⟨by omega,by omega⟩,λh=>absurd rfl h,λ_=>⟨⟨⟨trivial,l⟩,s⟩,λh=>(by cases h),λ_=>⟨?_,trivial⟩⟩⟩⟩;rw[s];rfl
 ·refine⟨λ_=>?_,λh=>absurd a h⟩;rw[if_neg a,if_neg a,if_neg a];rfl
theorem Sh {t:List cy} {u:List (Int×Bool)} {k:Int} {f g h:List Int} (c:f.length=g.length) (a:∀i,bN f i 0=if bN g i 0≠0 then bN g i 0 else bN h i 0):
  ∀i,bN (mn t u k f) i 0=if bN (mn t u k g) i 0≠0 then bN (mn t u k g) i 0 else bN h i 0:=λi=>by
 unfold mn;rw[c];generalize (bN t (bN u k.toNat (0,false)).1.toNat Ao.bw).2.1=o;generalize (bN u k.toNat (0,false)).2=b;split
 ·by_cases d:o.toNat<g.length
  ·rw[gM (by omega),gM d];grind
  ·rw[ζz (by omega),ζz (by omega)];exact a i
 ·exact a i
theorem J3 {t:List cy} {u:List (Int×Bool)} {h:List Int}:∀{m:Nat} {k:Int} {f g:List Int},f.length=g.length->(∀i,bN f i 0=if bN g i 0≠0 then bN g i 0 else bN h i 0)->
  ∀i,bN (gj t u m k f) i 0=if bN (gj t u m k g) i 0≠0 then bN (gj t u m k g) i 0 else bN h i 0
 |0,_,_,_,_,a=>a
 |m+1,k,f,g,b,a=>by
  unfold gj;split;·exact J3 (by grind[Jo]) (Sh b a)
  ·exact a
theorem J2 {t:List cy} {u a:List (Int×Bool)}:∀{m:Nat} {k:Int} {f:List Int},(∀x:Nat,(x:Int)<=k->bN u x (0,false)=bN a x (0,false))->(∀x:Nat,(x:Int)<=k->0<x->0<=(bN u x (0,false)).1/\(bN u x (0,false)).1<x)->gj t u m k f=gj t a m k f
 |0,_,_,_,_=>rfl
 |m+1,k,f,b,c=>by
  unfold gj;split
  ·rename_i j;have e:=b k.toNat (by omega);have d:=c k.toNat (by omega) (by omega);have i:mn t u k f=mn t a k f:=by unfold mn;rw[e]
   rw[i,<-e];exact J2 (λx g=>b x (by omega)) λx g h=>c x (by omega) h
  ·rfl
theorem J1 {n:Nat} {i:Int}:∀{l c:List Int},rh n i c l=true->∀x∈l,(i<x/\x<n)/\x∉c
 |[],_,_,x,a=>by cases a;|y::l,c,h,x,a=>by
  simp only[rh,θ,decide_eq_true_eq] at h;rcases γq.1 a with rfl|a;·simp_all
  ·have:=J1 h.2 x a;simp_all
theorem BI {t:List cy} (h:dr t=true) {i:Nat} (b:i<t.length):∀x∈iC (bN t i Ao.bw),((i:Int)<x/\x<t.length)/\x∉fY t i:=by
 unfold dr at h;simp only[θ,ψ,γD] at h;have a:=h.2.1 i b;unfold jL at a;simp only[θ] at a;exact J1 a.2
theorem BH {t:List cy} {x:Int}:∀{i:Nat},i<=t.length->(x∈fY t i↔∃q,q<i/\x∈iC (bN t q Ao.bw))
 |0,_=>by simp[fY];|i+1,b=>by
  have a:=@JF t i (by omega) (by omega);rw[show((i:Int)+1).toNat=i+1 by omega,γk] at a;rw[a,γi,BH (by omega)];grind
theorem J0 {t:List cy} (b:dr t=true) {i:Nat}:∀{j:Nat},i<=j->j<=t.length->∀x,x<=i->bN (dR t j) x (0,false)=bN (dR t i) x (0,false)
 |0,c,_,_,_=>by simp_all;|j+1,c,g,x,d=>by
  by_cases e:i=j+1;·rw[e]
  ·rw[<-J0 b (j:=j) (by omega) (by omega) x d];conv=>lhs;unfold dR
   split
   ·rename_i f;have a:∀y∈[(bN t j Ao.bw).2.2.1,(bN t j Ao.bw).2.2.2.1],((j:Int)<y/\y<t.length)/\y∉fY t j:=by
     have:=BI b (i:=j) (by omega);simp_all[iC]
    have h:=(a _ (γv ..)).1;have k:=(a (bN t j Ao.bw).2.2.2.1 (by simp)).1;have l:=@qI t j;rw[gM (by grind),if_neg (by omega),gM (by omega),if_neg (by omega)]
   ·rfl
theorem C1 {t:List cy} (b:dr t=true) {q:Nat} (k:q<t.length) (f:(bN t q Ao.bw).1=2):∀{j:Nat},q<j->j<=t.length->
  bN (dR t j) (bN t q Ao.bw).2.2.1.toNat (0,false)=((q:Int),false)/\bN (dR t j) (bN t q Ao.bw).2.2.2.1.toNat (0,false)=((q:Int),true)
 |0,h,_=>by omega;|j+1,h,C=>by
  have u:iC (bN t q Ao.bw)=[(bN t q Ao.bw).2.2.1,(bN t q Ao.bw).2.2.2.1]:=if_pos f;have g:=BI b k;rw[u] at g;have D:=(g _ (γv ..)).1;have F:=(g (bN t q Ao.bw).2.2.2.1 (by simp)).1;have A:(bN t q Ao.bw).2.2.1≠(bN t q Ao.bw).2.2.2.1:=by
   unfold dr at b;simp only[θ,ψ,γD] at b;have d:=b.2.1 q k;unfold jL at d;rw[u] at d;simp only[rh,θ,decide_eq_true_eq] at d;grind
  have l:=@qI t j;by_cases e:q=j
  ·subst e;unfold dR;rw[if_pos f];have B:((dR t q).set (bN t q Ao.bw).2.2.1.toNat ((q:Int),false)).length=t.length:=by simp_all
   rw[gM (by omega),gM (by omega),if_neg (by omega),gM (by omega),if_pos rfl,if_pos rfl];simp_all
  ·have r:=C1 b k f (j:=j) (by omega) (by omega);unfold dR;split
   ·rename_i w;have a:=BI b (i:=j) (by omega);unfold iC at a;rw[if_pos w] at a;have s:=a _ (γv ..);have n:=a (bN t j Ao.bw).2.2.2.1 (by simp);have o:∀x∈[(bN t q Ao.bw).2.2.1,(bN t q Ao.bw).2.2.2.1],x∈fY t j:=λx v=>(BH (by omega)).2 ⟨q,by omega,by simp_all⟩;have m:=o _ (γv ..);have p:=o (bN t q Ao.bw).2.2.2.1 (by simp);have c:∀x y:Int,x∈fY t j->y∉fY t j->x≠y:=λx y v z e=>z (e▸v);have G:=c _ _ m s.2;have H:=c _ _ m n.2;have I:=c _ _ p s.2;have E:=c _ _ p n.2;have B:((dR t j).set (bN t j Ao.bw).2.2.1.toNat ((j:Int),false)).length=t.length:=by rw[List.length_set,l]
    rw[gM (by omega),if_neg (by omega),gM (by omega),if_neg (by omega),gM (by omega),if_neg (by omega),gM (by omega),if_neg (by omega)];exact r
   ·exact r
theorem JZ {n i:Nat}:bN (δ n (0:Int)) i 0=0:=by
 grind[bN]
theorem JY {p:cj} {t:List cy} {i:Nat}:(gH p t i).length=p.bj.length:=by
 grind[gH,Jn]
theorem Sg {p:cj} {t:List cy} (a:dr t=true) {q:Nat} (g:q<t.length) (f:(bN t q Ao.bw).1=2) (y:0<=(bN t q Ao.bw).2.1/\(bN t q Ao.bw).2.1<p.bj.length) (B:bN (gH p t q) (bN t q Ao.bw).2.1.toNat 0=0):
  gH p t (bN t q Ao.bw).2.2.1.toNat=(gH p t q).set (bN t q Ao.bw).2.1.toNat (-1)/\gH p t (bN t q Ao.bw).2.2.2.1.toNat=(gH p t q).set (bN t q Ao.bw).2.1.toNat 1:=by
 have e:=BI a g;unfold iC at e;rw[if_pos f] at e;have w:=(e _ (γv ..)).1;have z:=(e (bN t q Ao.bw).2.2.2.1 (by simp)).1;have r:∀(c:Int) (b:Bool),((q:Int)<c/\c<t.length)->bN (dR t c.toNat) c.toNat (0,false)=((q:Int),b)->gH p t c.toNat=(gH p t q).set (bN t q Ao.bw).2.1.toNat (if b then 1 else -1):=λc b D l=>by
  have k:=Cw a (i:=c.toNat) (by omega);have h:=@J9 t (dR t c.toNat) k c (δ p.bj.length 0) (by omega) (by omega);rw[l] at h;simp only[γk] at h;have m:gH p t c.toNat=gj t (dR t c.toNat) c.toNat c (δ p.bj.length 0):=by
   grind[gH]
  have u:mn t (dR t c.toNat) c (δ p.bj.length 0)=(δ p.bj.length 0).set (bN t q Ao.bw).2.1.toNat (if b then 1 else -1):=by
   simp_all[mn]
  have o:gj t (dR t c.toNat) q q ((δ p.bj.length 0).set (bN t q Ao.bw).2.1.toNat (if b then 1 else -1))=gj t (dR t q) q q ((δ p.bj.length 0).set (bN t q Ao.bw).2.1.toNat (if b then 1 else -1)):=
   J2 (λx s=>J0 a (by omega) (by omega) x (by omega)) λx s v=>⟨(k.2 x (by omega)).1,(k.2 x (by omega)).2 v⟩;rw[m,h,u,o];have n:gj t (dR t q) q q (δ p.bj.length 0)=gH p t q:=rfl;have d:=@J3 t (dR t q) ((δ p.bj.length 0).set (bN t q Ao.bw).2.1.toNat (if b then 1 else -1)) q q ((δ p.bj.length 0).set (bN t q Ao.bw).2.1.toNat (if b then 1 else -1)) (δ p.bj.length 0) (by simp_all) (λi=>by grind[JZ]);rw[n] at d;refine CL 0 (by grind[JY]) λi _=>?_;rw[d i,gM (by simp_all),gM (by rw[JY];omega),JZ];grind
 have A:=(C1 a g f (j:=(bN t q Ao.bw).2.2.1.toNat) (by omega) (by omega)).1;have C:=(C1 a g f (j:=(bN t q Ao.bw).2.2.2.1.toNat) (by omega) (by omega)).2;simp_all
def iy (a b c j:Nat):Prop:=j=a\/(b<=j/\j<c)
section
variable {p:cj} {v:Int} {t:List cy} {a lo hi:Nat} {f:List Int}
theorem Sf (h:dW p f) (a:dP p f):sy p f (fL (gv p f)):=
 ⟨⟨a.c,a.l,a.r⟩,gv p f,rfl,Ag,λ_=>1000,λk b=>(Dn h b).2,by
  have:∀n,px n (λ_=>1000)=n*1000:=λn=>by
   induction n<;>grind[px]
  have d:=BL a.c;grind⟩
theorem Se (h:dW p f):dh (fL (gv p f))=true:=by
 unfold dh fL;rw[ψ];intro x b;obtain⟨q,a,rfl⟩:=Γ.1 b;obtain⟨i,d,rfl⟩:=γJ a;have c:=(Dn h (r:=i) (by grind[Ag])).1;grind[bV,nf]
theorem Sd {l:List Rat} {K:Nat} (s:K<=1000000) (h:∀k,k<l.length->Sz K (bN l k 0)):∀x∈fL l,gI x:=λx b=>by
 unfold fL at b;obtain⟨q,e,rfl⟩:=Γ.1 b;obtain⟨i,a,rfl⟩:=γJ e;have c:=h i a;rw[bV a] at c;obtain⟨m,⟨f,p,n⟩,⟨d,g,j⟩⟩:=kN l[i];obtain⟨o,r⟩:=mZ c;exact⟨⟨f,d⟩,by omega,by omega⟩
theorem Sc (a:dP p f) (b:fZ p f=true):p8 (oV p f)=true/\kK p (oV p f)=true/\(∀x∈(oV p f).2.2.2.2,gI x)/\iC (oV p f)=[]:=by
 have h:mF p<=20:=by have:=(cL a.c).1;grind
 have d:(fL (gv p f)).length=mF p:=by rw[ez,Ag]
 refine⟨?_,?_,Sd (K:=1000) (by omega) λk g=>(Dn (a.ok b) (by grind[Ag])).2,rfl⟩
 ·show mU (oV p f)=true;have e:(oV p f).2.2.2.2=fL (gv p f):=rfl;unfold mU;rw[e,d,decide_eq_true (show mF p<=40 by omega)];grind[py,oV,fL,BW]
 simp_all[oV,kK,cq]
theorem Sb (h:gZ p v t a f lo hi) (hf:dP p f) (hl:t.length<=65536):
  (∀j,iy a lo hi j->j<t.length/\p8 (bN t j Ao.bw)=true/\kK p (bN t j Ao.bw)=true/\(∀x∈(bN t j Ao.bw).2.2.2.2,gI x)/\(iC (bN t j Ao.bw)=[]\/∃x:Nat,iC (bN t j Ao.bw)=[(x:Int),((x+1:Nat):Int)]/\j<x/\lo<=x/\x+1<hi))
  /\(∀q r (x:Int),iy a lo hi q->iy a lo hi r->x∈iC (bN t q Ao.bw)->x∈iC (bN t r Ao.bw)->q=r)
  /\(∀x:Nat,lo<=x->x<hi->∃q,iy a lo hi q/\(x:Int)∈iC (bN t q Ao.bw)):=by
 induction h with
 |@dZ a f lo h1 h2 h3=>
  grind[uU,Sc,iy];|@j6 a f lo h1 h2=>
  obtain⟨e1,e2⟩:=uU (d:=Ao.bw) h1;have hj:∀j,iy a lo lo j->j=a:=λj h=>by grind[iy]
  refine⟨λj h=>?_,λq r x hq hr _ _=>by grind,λx h0 h1=>by omega⟩;rw[hj j h,e1];exact⟨e2,by decide,rfl,(λx hx=>by cases hx),.inl rfl⟩;|@bra a f lo mid hi k h1 h2 h3 h4 h5 h6 i1 i2=>
  obtain⟨e1,e2⟩:=uU (d:=Ao.bw) h1;have l1:=h5.le;have l2:=h6.le;have auZ:=(gZ.bra h1 h2 h3 h4 h5 h6).top.2 (by omega);have h160:=(cL hf.c).2.1;have hfl:=hf.l;obtain⟨f1,g1,c1⟩:=i1 (hf.set (by omega));obtain⟨f2,g2,c2⟩:=i2 (hf.set (by omega));have hk:iC (bN t a Ao.bw)=[(lo:Int),((lo+1:Nat):Int)]:=by rw[e1];rfl
  have hin:∀j,iy a lo hi j->j=a\/iy (lo+1) (lo+2) mid j\/iy lo mid hi j:=λj h=>by unfold iy at h ⊢;omega
  have s1:∀j (x:Int),iy (lo+1) (lo+2) mid j->x∈iC (bN t j Ao.bw)->(lo:Int)+2<=x/\x<mid:=λj x hj hx=>by
   rcases(f1 j hj).2.2.2.2 with h|⟨y,h,_,_,_⟩;·rw[h] at hx;cases hx
   ·rw[h] at hx;simp only[γq,δD,or_false] at hx;omega
  have s2:∀j (x:Int),iy lo mid hi j->x∈iC (bN t j Ao.bw)->(mid:Int)<=x/\x<hi:=λj x hj hx=>by
   rcases(f2 j hj).2.2.2.2 with h|⟨y,h,_,_,_⟩;·rw[h] at hx;cases hx
   ·rw[h] at hx;simp only[γq,δD,or_false] at hx;omega
  have s0:∀x:Int,x∈iC (bN t a Ao.bw)->(lo:Int)<=x/\x<lo+2:=λx hx=>by
   grind
  refine⟨λj h=>?_,λq r x hq hr xq xr=>?_,λx h0 h1=>?_⟩
  ·rcases hin j h with rfl|h|h
   ·refine⟨e2,?_,?_,?_,.inr ⟨lo,hk,h2,π _,by omega⟩⟩
    ·rw[e1];show pf (je k lo)=true;have r1:mK k=true:=by grind[mK]
     have r2:mK (lo:Int)=true:=by grind[mK]
     have r3:mK ((lo:Int)+1)=true:=by grind[mK]
     show(mK k&&mK (lo:Int)&&mK ((lo:Int)+1)&&decide (([]:List NH)=[]))=true;rw[r1,r2,r3];rfl
    ·rw[e1];rfl
    ·rw[e1];intro x hx;cases hx
   ·grind
   grind
  ·grind
  ·by_cases q1:x<lo+2
   ·refine⟨a,.inl rfl,?_⟩;rw[hk];simp only[γq,δD,or_false];omega
   grind[iy]
theorem Sa (h:gZ p v t 0 f 1 t.length) (m:dP p f) (s:1<=t.length) (d:t.length<=65536):dr t=true/\t.all (kK p)=true/\∀n∈t,∀x∈n.2.2.2.2,gI x:=by
 obtain⟨l,B,o⟩:=Sb h m d;have b:∀j,j<t.length->iy 0 1 t.length j:=λj c=>by unfold iy;omega
 refine⟨?_,ψ.2 λn a=>?_,λn a=>?_⟩
 ·unfold dr;simp only[θ,decide_eq_true_eq,ψ,γD];refine⟨⟨s,d⟩,λi g=>?_,λk z=>?_⟩
  ·obtain⟨D,r,_,_,e⟩:=l i (b i g);unfold jL;rw[r,Bool.true_and];rcases e with w|⟨x,w,A,E,J⟩;·rw[w];rfl
   ·have a:∀y:Int,y∈iC (bN t i Ao.bw)->y∉fY t i:=λy I C=>by
     grind[BH]
    rw[w] at a ⊢;have F:=a (x:Int) (by simp);have G:=a ((x+1:Nat):Int) (by simp);simp only[rh,θ,decide_eq_true_eq,Bool.and_true];grind
  ·obtain⟨q,H,u⟩:=o (k+1) (by omega) (by omega);grind[BH]
 ·obtain⟨j,c,rfl⟩:=γJ a;grind[bV]
 ·obtain⟨j,c,rfl⟩:=γJ a;grind[bV]
theorem R_ (h:dW p f):gW p f (vL (fL (gv p f))) f.length=g_ p f:=by
 have a:f.length=p.bj.length:=h.2.1;unfold gW;rw[jP,R1 h];have:Ov f.length (λk=>if bN f k 0=0/\0<gX p (gv p f) (mF p) k then gX p (gv p f) (mF p) k else 0)=0:=by
  rw[cX (g:=λ_=>0) λk b=>?_,gN];simp_all[if_neg,R3,Rat.not_lt]
 grind
theorem R9 (h:gZ p v t a f lo hi) (z:dr t=true) (e:dP p f) (o:gH p t a=f):∀j,iy a lo hi j->pt p v (gH p t j) (bN t j Ao.bw)=true/\((bN t j Ao.bw).1=1->sy p (gH p t j) (bN t j Ao.bw).2.2.2.2):=by
 induction h with
 |@dZ a f lo n i B=>
  obtain⟨b,s⟩:=uU (d:=Ao.bw) n;intro j g;have:j=a:=by grind[iy]
  rw[this,o,b];refine⟨?_,λ_=>Sf (e.ok i) e⟩;show(dh (fL (gv p f))&&decide (gW p f (vL (fL (gv p f))) f.length<IntCast.intCast v+1))=true;rw[R_ (e.ok i),Se (e.ok i),Bool.true_and,decide_eq_true_eq];simp_all;|@j6 a f lo n i=>
  obtain⟨b,s⟩:=uU (d:=Ao.bw) n;intro j g;have:j=a:=by grind[iy]
  rw[this,o,b];have A:bT p (zi f 1)≠0:=λh=>by
   have:=(Dl e.c (Sx e.l)).1 h;grind[fZ]
  refine⟨?_,λh=>?_⟩
  ·show decide (bT p (zi f 1)≠0)=true;simp_all
  ·have:(3:Int)=1:=h;omega;|@bra a f lo m hi k n i B F G D C y=>
  obtain⟨b,s⟩:=uU (d:=Ao.bw) n;have u:(bN t a Ao.bw).1=2:=by rw[b];rfl
  have x:(bN t a Ao.bw).2.1=k:=by rw[b];rfl
  have q:(bN t a Ao.bw).2.2.1=lo:=by rw[b];rfl
  have r:(bN t a Ao.bw).2.2.2.1=(lo:Int)+1:=by rw[b];rfl
  have E:=e.l;have w:=Sg (p:=p) z s u (by rw[x];omega) (by simp_all);rw[x,q,r,o,γk,show((lo:Int)+1).toNat=lo+1 by omega] at w;intro j g;rcases(show j=a\/iy (lo+1) (lo+2) m j\/iy lo m hi j by grind[iy]) with rfl|g|g
  ·rw[o,b];refine⟨?_,λh=>?_⟩
   ·show(decide (k<f.length)&&decide (bN f k.toNat 0=0))=true;simp_all
   simp_all
  ·exact C (e.set (by omega)) w.2 j g
  ·exact y (e.set (by omega)) w.1 j g
theorem SH (h:gZ p v t 0 (gi p) 1 t.length) (a:nW p=0) (m:1<=t.length) (k:t.length<=65536):(∀w, -9223372036854775808<=w/\w<=9223372036854775807->s7 p w t)/\rf p v t=0:=by
 obtain⟨d,o,g⟩:=Sa h (mN a) m k;have c:=R9 h d (mN a) rfl;have b:∀j,j<t.length->iy 0 1 t.length j:=λj n=>by grind[iy]
 refine⟨λw f=>⟨g,by omega,λ_ _ _=>⟨⟨a,d⟩,f,λi l e=>(c i (b i l)).2 e⟩⟩,?_⟩
 ·have q:pr p v t=true:=by
   grind[pr]
  unfold rf;grind
end
theorem SG {p:cj} (hc:nW p=0) (h15:p.bj.length<=15):gZ p (M9 p).value (oQ p) 0 (gi p) 1 (oQ p).length/\((oQ p).length:Int)<=65536:=by
 obtain⟨i1,_⟩:=uB hc;have aW2:((1+2^(p.bj.length+1):Nat):Int)<=65536+2:=by
  have:2^(p.bj.length+1)<=2^16:=δt (by omega) (by omega);have h16:(2:Nat)^16=65536:=rfl;omega
 obtain⟨_,s2,s3⟩:=D2 hc i1 (bz:=65536) (by omega);obtain⟨_,_,s4,s5,_⟩:=s2 (s3 aW2);exact⟨s5,s4⟩
theorem JX {p:cj} (hc:nW p=0) (h15:p.bj.length<=15):(∀w, -9223372036854775808<=w/\w<=9223372036854775807->s7 p w (oQ p))/\rf p (M9 p).value (oQ p)=0:=by
 obtain⟨s5,s4⟩:=SG hc h15;have s6:=s5.top.1;exact SH s5 hc (by omega) (by omega)
theorem xh {p:cj} (a:nW p=0):bT p (M9 p).bn=0/\cB p (M9 p).bn=(M9 p).value/\(0<=(M9 p).value/\(M9 p).value<=160000000)/\(M9 p).bn.length<=160:=by
 obtain⟨b,d,_⟩:=Tz a;have c:=(oU a).2 b;have:=rb a c;omega
theorem SF {p:cj} (b:nW p=0) (a:p.bj.length<=15):re p ((M9 p).bn,(M9 p).value,oQ p)=0:=by
 simp_all[xh,re,JX]
def jb (a b:bC):Bool:=decide (a.TM=b.TM)||([0,1,2,3,4,5].any λk=>decide (0<a.bx.at k)&&decide (0<b.bx.at k))
theorem JW {a b:bC}:jb a b=jb b a:=by
 unfold jb;grind
inductive Cn (p:cj):Nat->Nat->Prop
 |refl {i:Nat}:i<p.bj.length->Cn p i i
 |step {i j k:Nat}:Cn p i j->k<p.bj.length->jb (oI p j) (oI p k)=true->Cn p i k
section
variable {p:cj} {i j k:Nat}
theorem C0 (h:Cn p i j):i<p.bj.length/\j<p.bj.length:=by
 induction h<;>omega
theorem xg (h:Cn p i j) (g:Cn p j k):Cn p i k:=by
 induction g with
 |refl _=>exact h;|step _ a b c=>exact .step c a b
theorem BG (b:i<p.bj.length) (a:j<p.bj.length) (h:jb (oI p i) (oI p j)=true):Cn p i j:=.step (.refl b) a h
theorem SE (h:Cn p i j):Cn p j i:=by
 induction h with
 |refl h=>exact .refl h;|@step j k a b c d=>grind[xg,BG,C0,JW]
end
def oP (l:List Int) (a b:Int):List Int:=l.map λx=>if x=a then b else x
def k8 (p:cj) (i:Nat) (l:List Int):Nat->List Int
 |0=>l
 |k+1=>if jb (oI p i) (oI p k)=true then oP (k8 p i l k) (bN (k8 p i l k) k 0) (bN (k8 p i l k) i 0) else k8 p i l k
def lF (p:cj):Nat->List Int
 |0=>δ p.bj.length 0
 |i+1=>k8 p i ((lF p i).set i (i:Int)) i
theorem JV {l:List Int} {a b:Int}:(oP l a b).length=l.length:=Ξ _
theorem SD {l:List Int} {a b:Int} {k:Nat} (h:k<l.length):bN (oP l a b) k 0=if bN l k 0=a then b else bN l k 0:=by
 grind[oP,bV]
def CZ (p:cj) (i:Nat) (m:List Int):Prop:=m.length=p.bj.length/\(∀a,a<i->0<=bN m a 0/\bN m a 0<i)/\(∀a b,a<i->b<i->jb (oI p a) (oI p b)=true->bN m a 0=bN m b 0)/\∀a b,a<i->b<i->bN m a 0=bN m b 0->Cn p a b
def SC (p:cj) (i k:Nat) (m:List Int):Prop:=m.length=p.bj.length/\(∀a,a<=i->0<=bN m a 0/\bN m a 0<=i)/\(∀a b,a<i->b<i->jb (oI p a) (oI p b)=true->bN m a 0=bN m b 0)/\(∀j,j<k->jb (oI p i) (oI p j)=true->bN m i 0=bN m j 0)/\∀a b,a<=i->b<=i->bN m a 0=bN m b 0->Cn p a b
theorem JU {p:cj} {i:Nat} {m:List Int} (v:i<p.bj.length) (h:CZ p i m):∀{k:Nat},k<=i->SC p i k (k8 p i (m.set i (i:Int)) k)
 |0,_=>by
  obtain⟨s,y,u,t⟩:=h;have e:∀a,bN (m.set i (i:Int)) a 0=if a=i then(i:Int) else bN m a 0:=λa=>gM (by omega);refine⟨by show(m.set i (i:Int)).length=_;simp_all,λa d=>?_,λa b d g r=>?_,λj w=>by omega,λa b d g c=>?_⟩
  ·show 0<=bN (m.set i (i:Int)) a 0/\bN (m.set i (i:Int)) a 0<=i;grind
  ·show bN (m.set i (i:Int)) a 0=bN (m.set i (i:Int)) b 0;grind
  ·have c:bN (m.set i (i:Int)) a 0=bN (m.set i (i:Int)) b 0:=c;rw[e,e] at c;by_cases o:a=i
   ·by_cases l:b=i;·rw[o,l];exact .refl v
    grind
   grind;|k+1,B=>by
  have z:=JU v h (k:=k) (by omega);unfold k8;generalize k8 p i (m.set i (i:Int)) k=q at z ⊢;obtain⟨s,y,u,t,n⟩:=z;split
  ·rename_i r;have e:∀a,a<=i->bN (oP q (bN q k 0) (bN q i 0)) a 0=if bN q a 0=bN q k 0 then bN q i 0 else bN q a 0:=λa d=>SD (by omega);have x:Cn p i k:=BG v (by omega) r;refine⟨by rw[JV,s],λa d=>?_,λa b d g c=>?_,λj w f=>?_,λa b d g c=>?_⟩
   ·rw[e a d];grind
   ·rw[e a (by omega),e b (by omega),u a b d g c]
   ·rw[e i (π _),e j (by omega)];by_cases A:j=k;·simp_all
    ·rw[t j (by omega) f]
   ·rw[e a d,e b g] at c;by_cases o:bN q a 0=bN q k 0
    ·by_cases l:bN q b 0=bN q k 0;·exact n a b d g (by rw[o,l])
     ·rw[if_pos o,if_neg l] at c;exact xg (n a k d (by omega) o) (xg (SE x) (n i b (π _) g c))
    ·by_cases l:bN q b 0=bN q k 0
     ·rw[if_neg o,if_pos l] at c;exact xg (n a i d (π _) c) (xg x (n k b (by omega) g l.symm))
     ·rw[if_neg o,if_neg l] at c;exact n a b d g c
  ·rename_i r;refine⟨s,y,u,λj w f=>?_,n⟩;by_cases A:j=k;·subst A;exact absurd f r
   ·exact t j (by omega) f
theorem JT {p:cj}:∀{i:Nat},i<=p.bj.length->CZ p i (lF p i)
 |0,_=>⟨γE,λa h=>by omega,λa b h=>by omega,λa b h=>by omega⟩
 |i+1,r=>by
  obtain⟨j,n,f,o,e⟩:=JU (by omega) (JT (p:=p) (i:=i) (by omega)) (k:=i) (π _);show CZ p (i+1) (k8 p i ((lF p i).set i (i:Int)) i);generalize k8 p i ((lF p i).set i (i:Int)) i=q at*;refine⟨j,λa d=>by grind,λa b d l g=>?_,λa b d l c=>e a b (by omega) (by omega) c⟩;by_cases s:a=i;·grind
  ·by_cases m:b=i;·grind[JW]
   ·exact f a b (by omega) (by omega) g
def qb (p:cj):List Int:=lF p p.bj.length
def lg (p:cj) (i:Int):Int:=bN (qb p) i.toNat 0
theorem SB {p:cj} {a b:Nat} (m:a<p.bj.length) (f:b<p.bj.length):bN (qb p) a 0=bN (qb p) b 0↔Cn p a b:=by
 obtain⟨_,_,g,i⟩:=JT (p:=p) (π _);refine⟨i a b m f,λh=>?_⟩;induction h with
 |refl _=>rfl;|@step j k c d e l=>exact(l (C0 c).2).trans (g j k (C0 c).2 d e)
def ny (p:cj) (f:Int):List Int:=(cz p.bj.length).filter λi=>decide (lg p i=lg p f)
def n_ (p:cj) (f:Int):Bool:=(cz f.toNat).all λj=>decide (lg p j≠lg p f)
def bG (p:cj):List (List Int):=((cz p.bj.length).filter (n_ p)).map (ny p)
theorem ra {p:cj} {f i:Int}:i∈ny p f↔(0<=i/\i<p.bj.length)/\lg p i=lg p f:=by
 simp_all[ny,jh]
theorem SA {p:cj} {f:Int}:dj p.bj.length (ny p f):=⟨nL.sublist γo,λx a=>(ra.1 a).1⟩
theorem uT {p:cj} {f:Int} (c:0<=f):n_ p f=true↔∀j,0<=j->j<f->lg p j≠lg p f:=by
 unfold n_;rw[ψ];exact⟨λh j a b=>of_decide_eq_true (h j (jh.2 ⟨a,by omega⟩)),λh j d=>by
  grind[jh]⟩
theorem JS {p:cj}:∀(n:Nat) {i:Int},0<=i->i<n->i<p.bj.length->∃f,(0<=f/\f<=i)/\n_ p f=true/\lg p f=lg p i
 |0,i,h0,h1,_=>by omega;|n+1,i,h0,h1,h2=>by
  by_cases h:n_ p i=true;·exact⟨i,⟨h0,Int.le_refl _⟩,h,rfl⟩
  ·rw[uT h0] at h;have:∃j,0<=j/\j<i/\lg p j=lg p i:=δc λhn=>h λj a b c=>hn ⟨j,a,b,c⟩;obtain⟨j,a,b,c⟩:=this;obtain⟨f,f1,f2,f3⟩:=JS (p:=p) n (i:=j) a (by omega) (by omega);exact⟨f,by omega,f2,f3.trans c⟩
theorem xf {p:cj} {c:List Int}:c∈bG p↔∃f:Int,((0<=f/\f<p.bj.length)/\n_ p f=true)/\ny p f=c:=by
 grind[bG,jh]
theorem JR {p:cj} {i j:Int} (b:0<=i/\i<p.bj.length) (a:0<=j/\j<p.bj.length):lg p i=lg p j↔Cn p i.toNat j.toNat:=SB (by omega) (by omega)
def BF (p:cj) (l:List bC):cj:={p with bj:=l}
theorem CY {α:Type} {a:α} {l:List α} {d:α}:bN (a::l) 0 d=a:=rfl
theorem CX {α:Type} {a:α} {l:List α} {n:Nat} {d:α}:bN (a::l) (n+1) d=bN l n d:=by simp[bN]
theorem Sy {b:oz}:b.ok=true↔∀j,j<6->0<=b.at j/\b.at j<=4:=by
 rw[oz.gS];constructor
 ·intro h j g;have:j=0\/j=1\/j=2\/j=3\/j=4\/j=5:=by omega
  grind[oz.at,CY,CX]
 ·intro h;have i:=h 0 (by omega);have a:=h 1 (by omega);have c:=h 2 (by omega);have e:=h 3 (by omega);have f:=h 4 (by omega);have d:=h 5 (by omega);grind[oz.at,CY,CX]
theorem Rf {c w cl j:Int} (h:j<6):oc c w cl j 6=if c=0\/c=cl then 0 else w:=by
 unfold oc;by_cases hh:c=0\/c=cl;·rw[if_pos ⟨h,hh⟩,if_pos hh]
 ·rw[if_neg λq=>hh q.2,if_neg hh]
theorem Re {p:cj} {x:bC} {j:Nat} (hj:j<6):(dT p x).at j=if p.bt.at j=0\/p.bt.at j=kn p x then 0 else x.bx.at j:=by
 have:j=0\/j=1\/j=2\/j=3\/j=4\/j=5:=by omega
 rcases this with rfl|rfl|rfl|rfl|rfl|rfl<;>exact Rf (by decide)
theorem JQ {a b:oz}:a.le b=true↔∀j,j<6->a.at j<=b.at j:=⟨λh j _=>A7 h j,BY⟩
theorem BE {p:cj} {L:List bC}:fp p L↔(L.map bC.TM).Nodup/\(∀j,j<6->(L.map λy=>y.bx.at j).sum<=p.bm.at j)/\∀j,j<6->(L.map λy=>(dT p y).at j).sum<=p.bs.at j:=by
 unfold fp;rw[JQ,JQ];simp only[lN,γP,Function.comp_def]
theorem Rc {p:cj} (h:nW p=0):(p.bj.map bC.key).Nodup:=by
 unfold nW at h;split at h;·rename_i h1;exact absurd h h1
 ·exact(A9 h).1
theorem Rb {p:cj} (hc:nW p=0) {L:List bC} (hl:L.length<=p.bj.length) (hm:∀x∈L,x∈p.bj) (hn:(L.map bC.key).Nodup):nW (BF p L)=0:=by
 have hz:=rI hc;refine K2 ?_ (λx hx=>?_) hn
 ·obtain⟨f1,f2,f3,f4,f5⟩:=rJ hz.1;exact Fl (p:=BF p L) f1 (λj hj=>by have h:=(mw (p:=p) (k:=j)).1 (f2 j hj);exact mw.2 h) (by simp only[BF];omega) f5
 ·exact hz.2 x (hm x hx)
theorem Ra {p:cj} (hc:nW p=0) {i j:Int} (hi:0<=i/\i<p.bj.length) (hj:0<=j/\j<p.bj.length) (h:(oI p i).key=(oI p j).key):i=j:=by
 have hn:=Rc hc;have h1:i.toNat<(p.bj.map bC.key).length:=by rw[Ξ];omega
 have h2:j.toNat<(p.bj.map bC.key).length:=by rw[Ξ];omega
 have e:(p.bj.map bC.key)[i.toNat]=(p.bj.map bC.key)[j.toNat]:=by
  rw[δF,δF];unfold oI at h;rwa [bV (by omega),bV (by omega)] at h
 have:=(List.getElem_inj hn).1 e;omega
theorem BD {α β:Type} {f:α->β}:∀{l:List α},l.Nodup->(∀x∈l,∀y∈l,f x=f y->x=y)->(l.map f).Nodup
 |[],_,_=>by simp;|x::l,h,hi=>by
  rw[γR] at h;rw[ξ,γR];refine⟨λhm=>?_,BD h.2 λa ha b hb=>hi a (γp _ ha) b (γp _ hb)⟩;obtain⟨y,hy,he⟩:=Γ.1 hm;exact h.1 (hi x (γv ..) y (γp _ hy) he.symm▸hy)
def cH (p:cj) (c:List Int):cj:=BF p (c.map (oI p))
def fz (c t:List Int):List Int:=t.map λk=>bN c k.toNat 0
theorem JP {p:cj} {t:List Int}:VJ p t=t.map (oI p):=rfl
theorem uS {p:cj} {c:List Int}:(cH p c).bj.length=c.length:=Ξ _
theorem Q_ {p:cj} {c:List Int} {k:Int} (h:0<=k/\k<c.length):oI (cH p c) k=oI p (bN c k.toNat 0):=by
 show bN (c.map (oI p)) k.toNat ew.bu.bw=_;grind[bV]
theorem CW {p:cj} {c t:List Int} (h:∀k∈t,0<=k/\k<c.length):VJ (cH p c) t=VJ p (fz c t):=by
 show t.map (oI (cH p c))=(t.map λk=>bN c k.toNat 0).map (oI p);simp_all[Q_]
theorem BC {p:cj} (b:nW p=0) {c:List Int} (h:dj p.bj.length c):nW (cH p c)=0:=by
 refine Rb b (by simp_all[qk]) (λx f=>?_) ?_
 ·obtain⟨i,a,rfl⟩:=Γ.1 f;have:=h.2 i a;exact cA (by omega)
 ·rw[γP];exact BD (vF h) λi a j d e=>Ra b (h.2 i a) (h.2 j d) e
theorem CV {p:cj}:(bG p).Pairwise λc d=>∀i∈c,i∉d:=by
 unfold bG;rw[εO];refine(nL.sublist γo).imp_of_mem λ{f g} e j a i h b=>?_;grind[jh,uT,ra]
theorem uR {p:cj} {c:List Int} (h:c∈bG p):dj p.bj.length c:=by
 grind[xf,SA]
theorem B8 {p:cj} {i:Int} (h:0<=i/\i<p.bj.length):∃c∈bG p,i∈c:=by
 obtain⟨f,d,a,b⟩:=JS (p:=p) (i.toNat+1) (i:=i) h.1 (by omega) h.2;exact⟨ny p f,xf.2 ⟨f,⟨by omega,a⟩,rfl⟩,ra.2 ⟨h,b.symm⟩⟩
theorem JO {p:cj} {c:List Int} (h:c∈bG p) {i j:Int} (b:i∈c) (a:0<=j/\j<p.bj.length) (d:jb (oI p i) (oI p j)=true):j∈c:=by
 grind[xf,ra,JR,BG]
def gz (c:List Int) (i:Int):Bool:=decide (i∈c)
theorem JN {g:Int->Int} {P Q:Int->Bool}:∀{l:List Int},(∀i∈l,P i=true->Q i=true->False)->((l.filter λi=>P i||Q i).map g).sum=((l.filter P).map g).sum+((l.filter Q).map g).sum
 |[],_=>rfl
 |x::l,h=>by
  have b:=JN (g:=g) (l:=l) λi a=>h i (γp _ a);grind
theorem JM {g:Int->Int} {l:List Int}:∀{a:List (List Int)},a.Pairwise (λc d=>∀i∈c,i∉d)->((l.filter λi=>a.any λc=>gz c i).map g).sum=(a.map λc=>((l.filter (gz c)).map g).sum).sum
 |[],_=>by
  have e:l.filter (λi=>([]:List (List Int)).any λc=>gz c i)=[]:=List.filter_eq_nil_iff.2 λi _=>by simp
  grind;|c::a,h=>by
  have b:=γr.1 h;have e:(l.filter λi=>(c::a).any λc=>gz c i)=l.filter λi=>gz c i||a.any λc=>gz c i:=rfl;rw[e,JN,JM b.2];·rfl
  ·intro i _ f k;obtain⟨d,j,m⟩:=θb.1 k;exact b.1 d j i (of_decide_eq_true f) (of_decide_eq_true m)
theorem Q9 {p:cj} {g:Int->Int} {l:List Int} (h:∀i∈l,0<=i/\i<p.bj.length):(l.map g).sum=((bG p).map λc=>((l.filter (gz c)).map g).sum).sum:=by
 rw[<-JM CV];congr 2;refine(List.filter_eq_self.2 λi hi=>?_).symm;obtain⟨c,hc,hi⟩:=B8 (h i hi);exact θb.2 ⟨c,hc,decide_eq_true hi⟩
theorem JL {g:Int->Int}:∀{l:List Int},(∀i∈l,g i=0)->(l.map g).sum=0
 |[],_=>rfl
 |x::l,h=>by rw[ξ,εl,h x (γv ..),JL λi a=>h i (γp _ a)];rfl
theorem JK {g:Int->Int} {P:Int->Bool}:∀{l:List Int},(∀i∈l,P i=false->g i=0)->(l.map g).sum=((l.filter P).map g).sum
 |[],_=>rfl
 |x::l,h=>by
  have b:=JK (g:=g) (P:=P) (l:=l) λi a=>h i (γp _ a);grind
theorem Kg {c d:Type} {f:c->d}:∀{l:List c},(l.map f).Nodup->∀{x y:c},x∈l->y∈l->f x=f y->x=y
 |z::l,h,x,y,a,b,e=>by
  rw[ξ,γR] at h;rcases γq.1 a with g|a;·grind
  ·rcases γq.1 b with i|b;·simp_all
   ·exact Kg h.2 a b e
theorem CU {p:cj} (b:nW p=0) {l:List Int} (d:dj p.bj.length l) {P:Int->Bool} (h:fp p (VJ p l)):fp p (VJ p (l.filter P)):=by
 have c:(l.filter P++l.filter λi=>!P i).Perm l:=List.filter_append_perm P l;have a:=A_ ((c.map (oI p)).symm) h;rw[γb] at a;refine Bc (cL b) (λx f=>?_) a;obtain⟨i,e,rfl⟩:=Γ.1 f;have:=d.2 i (Ψ.1 e).1;exact cA (by omega)
theorem Kf {a b:bC} (h:a.TM=b.TM):jb a b=true:=by grind[jb]
theorem Q8 {a b:bC} {k:Nat} (e:k<6) (d:0<a.bx.at k) (c:0<b.bx.at k):jb a b=true:=by
 grind[jb]
theorem Q7 {p:cj} (hc:nW p=0) {l:List Int} (hl:dj p.bj.length l):fp p (VJ p l)↔∀c∈bG p,fp p (VJ p (l.filter (gz c))):=by
 refine⟨λh c _=>CU hc hl h,λh=>?_⟩;have hg:=cL hc;have hw:∀i∈l,∀k,k<6->0<=(oI p i).bx.at k:=λi hi k hk=>(Sy.1 (js hc (hl.2 i hi)).2.2.1 k hk).1;have sup:∀(g:bC->Int) (B:Int) (k:Nat),k<6->0<=B->(∀i∈l,g (oI p i)≠0->0<(oI p i).bx.at k)->(∀c∈bG p,((VJ p (l.filter (gz c))).map g).sum<=B)->((VJ p l).map g).sum<=B:=λg B k hk hB hz hle=>by
  have e:∀m:List Int,((VJ p m).map g).sum=(m.map λi=>g (oI p i)).sum:=λm=>by rw[JP,γP];rfl
  simp only[e] at hle ⊢;by_cases ex:∃i∈l,g (oI p i)≠0
  ·obtain⟨i,hi,hn⟩:=ex;obtain⟨c,hcc,hic⟩:=B8 (hl.2 i hi);rw[JK (P:=gz c) λj hj hP=>δc λhg0=>?_];·exact hle c hcc
   ·exact of_decide_eq_false hP (JO hcc hic (hl.2 j hj) (Q8 hk (hz i hi hn) (hz j hj hg0)))
  ·rw[JL λi hi=>δc λhn=>ex ⟨i,hi,hn⟩];exact hB
 refine BE.2 ⟨?_,λk hk=>?_,λk hk=>?_⟩
 ·show((l.map (oI p)).map bC.TM).Nodup;rw[γP];refine BD (vF hl) λi hi j hj e=>?_;obtain⟨c,hcc,hic⟩:=B8 (hl.2 i hi);have hjc:=JO hcc hic (hl.2 j hj) (Kf e);have hn:=(BE.1 (h c hcc)).1;rw[JP,γP] at hn;exact Kg hn (Ψ.2 ⟨hi,decide_eq_true hic⟩) (Ψ.2 ⟨hj,decide_eq_true hjc⟩) e
 ·exact sup (λy=>y.bx.at k) _ k hk (by have:=qJ hc hk;omega) (λi hi hn=>by have:=hw i hi k hk;omega) λc hcc=>(BE.1 (h c hcc)).2.1 k hk
 ·exact sup (λy=>(dT p y).at k) _ k hk (qJ hc hk).2.2.1 (λi hi hn=>by
   have h1:=hw i hi k hk;have h2:=@Re p (oI p i) k hk;have hn:(dT p (oI p i)).at k≠0:=hn;split at h2<;>omega) λc hcc=>(BE.1 (h c hcc)).2.2 k hk
theorem Ke {l:List Int} (h:l.Pairwise (·<·)) (d:Int):l=(l.filter λj=>decide (j<d))++l.filter λj=>!decide (j<d):=Ee h
theorem Q6 {n:Nat} {a b:List Int} {d:Int} (ha:dj n a) (hb:dj n b) (h1:d∈a) (h2:d∉b) (h3:∀i,i<d->(i∈a↔i∈b)) (h4:∃y∈b,d<y):bD a b<0:=by
 have ea:=Ke ha.1 d;have eb:=Ke hb.1 d;have e:(a.filter λj=>decide (j<d))=b.filter λj=>decide (j<d):=wO (ha.1.sublist γo) (hb.1.sublist γo) λx=>by
  rw[Ψ,Ψ,decide_eq_true_eq];exact⟨λh=>⟨(h3 x h.2).1 h.1,h.2⟩,λh=>⟨(h3 x h.2).2 h.1,h.2⟩⟩
 rw[ea,eb,e,uw];have ma:∀x∈a.filter (λj=>!decide (j<d)),d<=x:=λx hx=>by
  have:=(Ψ.1 hx).2;simp at this;exact this
 have mb:∀x∈b.filter (λj=>!decide (j<d)),d<x:=λx hx=>by
  obtain⟨q1,q2⟩:=Ψ.1 hx;simp at q2;have:x≠d:=λe=>h2 (e▸q1);omega
 have pa:=ha.1.sublist (γo (p:=λj=>!decide (j<d)) (l:=a));have da:d∈a.filter (λj=>!decide (j<d)):=Ψ.2 ⟨h1,by simp⟩;obtain⟨y,hy,hyd⟩:=h4;have nb:y∈b.filter (λj=>!decide (j<d)):=Ψ.2 ⟨hy,by simp;omega⟩;generalize a.filter (λj=>!decide (j<d))=X at*;generalize b.filter (λj=>!decide (j<d))=Y at*;cases X with
 |nil=>cases da;|cons x X=>
  have hx:x=d:=by
   rcases γq.1 da with h|h;·exact h.symm
   ·have h5:=(γr.1 pa).1 d h;have:=ma x (γv ..);omega
  cases Y with
  |nil=>cases nb;|cons z Y=>
   have:=mb z (γv ..);simp only[bD];rw[if_pos (by omega)];decide
theorem Kd:∀{a b:List Int},a.Pairwise (·<·)->b.Pairwise (·<·)->bD a b<0->(∃d∈a,d∉b/\(∀i,i<d->(i∈a↔i∈b))/\∃y∈b,d<y)\/∃s,s≠[]/\b=a++s
 |[],[],_,_,h=>by grind[bD];|[],y::b,_,_,_=> .inr ⟨y::b,by simp,rfl⟩
 |_::_,[],_,_,h=>by grind[bD];|x::a,y::b,k,p,h=>by
  obtain⟨r,m⟩:=γr.1 k;obtain⟨v,j⟩:=γr.1 p;simp only[bD] at h;by_cases f:x<y
  ·refine .inl ⟨x,γv ..,λc=>?_,λi q=>⟨λc=>?_,λc=>?_⟩,y,γv ..,f⟩;all_goals grind
  ·rw[if_neg f] at h;by_cases n:y<x;·omega
   ·rw[if_neg n] at h;have e:x=y:=by omega
    subst e;rcases Kd m j h with⟨d,g,w,A,z,l,o⟩|⟨s,t,B⟩
    ·have u:=r d g;refine .inl ⟨d,γp _ g,λc=>?_,λi q=>?_,z,γp _ l,o⟩<;>grind
    simp_all
theorem sZ {c:List Int} {n:Nat} (h:dj n c) {i j:Int} (d:0<=i/\i<c.length) (b:0<=j/\j<c.length) (a:i<j):bN c i.toNat 0<bN c j.toNat 0:=by
 rw[bV (by omega),bV (by omega)];exact ζo.1 h.1 _ _ (by omega) (by omega) (by omega)
theorem Q4 {c t:List Int} {n:Nat} (h:dj n c) (a:dj c.length t):dj n (fz c t)/\∀x∈fz c t,x∈c:=by
 have e:∀x∈fz c t,x∈c:=λx d=>by
  obtain⟨k,f,rfl⟩:=Γ.1 d;exact cA (by have:=a.2 k f;omega)
 refine⟨⟨?_,λx d=>h.2 x (e x d)⟩,e⟩;unfold fz;rw[εO];exact a.1.imp_of_mem λ{i j} l g b=>sZ h (a.2 i l) (a.2 j g) b
theorem Q3 {c v:List Int} {n:Nat} (h:dj n c) (hv:v.Pairwise (·<·)) (hm:∀x∈v,x∈c):∃t,dj c.length t/\fz c t=v:=by
 refine⟨v.map λx=>(c.idxOf x:Int),⟨?_,λk hk=>?_⟩,?_⟩
 ·rw[εO];refine hv.imp_of_mem λ{x y} hx hy hxy=>?_;have lx:=γ6 (hm x hx);have ly:=γ6 (hm y hy);have ex:c[c.idxOf x]=x:=ζl lx;have ey:c[c.idxOf y]=y:=ζl ly;by_cases hlt:c.idxOf x<c.idxOf y;·omega
  ·by_cases he:c.idxOf x=c.idxOf y
   ·have:x=y:=by rw[<-ex,<-ey];congr 1
    omega
   ·have:=ζo.1 h.1 _ _ ly lx (by omega);rw[ex,ey] at this;omega
 ·obtain⟨x,hx,rfl⟩:=Γ.1 hk;have lx:=γ6 (hm x hx);omega
 ·unfold fz;rw[γP];conv=>rhs;rw[<-List.map_id v]
  refine γI λx hx=>?_;have lx:=γ6 (hm x hx);show bN c ((c.idxOf x:Int)).toNat 0=x;rw[γk,bV lx];exact ζl lx
def oO (n:Nat) (c w u:List Int):List Int:=(cz n).filter λi=>if i∈c then decide (i∈w) else decide (i∈u)
theorem uQ {n:Nat} {c w u:List Int} {i:Int}:i∈oO n c w u↔(0<=i/\i<n)/\(if i∈c then i∈w else i∈u):=by
 simp_all[oO,jh]
theorem CT {n:Nat} {c w u:List Int}:dj n (oO n c w u):=⟨nL.sublist γo,λx a=>(uQ.1 a).1⟩
theorem Q2 {p:cj} {c w u:List Int} (k:c∈bG p) (f:dj p.bj.length w) (a:∀x∈w,x∈c) (g:dj p.bj.length u) {d:List Int} (l:d∈bG p):
  (oO p.bj.length c w u).filter (gz d)=if d=c then w else u.filter (gz d):=by
 split
 ·rename_i e;subst e;refine wO (CT.1.sublist γo) f.1 λx=>?_;rw[Ψ,uQ];unfold gz;rw[decide_eq_true_eq];exact⟨λh=>by grind,λh=>⟨⟨f.2 x h,by simp_all⟩,a x h⟩⟩
 ·rename_i b;have i:∀x∈d,x∉c:=λx m j=>b ?_
  ·refine wO (CT.1.sublist γo) (g.1.sublist γo) λx=>?_;rw[Ψ,Ψ,uQ];unfold gz;rw[decide_eq_true_eq];exact⟨λh=>⟨by grind,h.2⟩,λh=>⟨⟨g.2 x h.1,by simp_all⟩,h.2⟩⟩
  grind[xf,ny]
theorem CS {p:cj} {l:List Int} (a:dj p.bj.length l):bF (VJ p l)=((bG p).map λc=>bF (VJ p (l.filter (gz c)))).sum:=by
 have e:∀m:List Int,bF (VJ p m)=(m.map λi=>(oI p i).value).sum:=λm=>zF;rw[e,Q9 (p:=p) a.2];simp only[e]
theorem Kc {j:Type} [DecidableEq j] {f g:j->Int} {c:j}:∀{a:List j},a.Nodup->c∈a->(∀d∈a,d≠c->f d=g d)->(a.map f).sum=(a.map g).sum - g c+f c
 |[],_,h,_=>by cases h;|x::a,i,h,k=>by
  rw[γR] at i;simp only[ξ,εl];rcases γq.1 h with rfl|h
  ·have:a.map f=a.map g:=γI λd b=>k d (γp _ b) λe=>i.1 (e▸b);grind
  ·rw[Kc i.2 h λd b=>k d (γp _ b),k x (γv ..) λe=>i.1 (e▸h)];omega
theorem Q1 {p:cj} {c:List Int} (h:c∈bG p):c≠[]:=by
 obtain⟨f,a,rfl⟩:=xf.1 h;exact List.ne_nil_of_mem (ra.2 ⟨a.1,rfl⟩)
theorem Q0 {p:cj}:(bG p).Nodup:=by
 refine CV.imp_of_mem λ{c d} b a h e=>?_;subst e;cases c with
 |nil=>grind[Q1];|cons x c=>exact h x (γv ..) (γv ..)
theorem qg {n:Nat} {t:List Int}:kW 0 n t↔dj n t:=by
 grind[kW,dj]
theorem uP {p:cj} (hc:nW p=0) {c:List Int} (hcc:c∈bG p):(M9 p).bn.filter (gz c)=fz c (M9 (cH p c)).bn/\bF (VJ p ((M9 p).bn.filter (gz c)))=(M9 (cH p c)).value:=by
 have hg:=cL hc;have hca:=uR hcc;have hqc:=BC hc hca;have hgq:=cL hqc;obtain⟨hF,hv⟩:=oR hc;obtain⟨hFq,hvq⟩:=oR hqc;have ha:=qg.1 hF.1;have hb:=qg.1 hFq.1;rw[uS] at hb;obtain⟨hwa,hwc⟩:=Q4 hca hb;have hwv:bF (VJ p (fz c (M9 (cH p c)).bn))=(M9 (cH p c)).value:=by rw[<-CW hb.2,hvq]
 have hwF:fp p (VJ p (fz c (M9 (cH p c)).bn)):=by rw[<-CW hb.2];exact hFq.2
 have hva:((M9 p).bn.filter (gz c)).Pairwise (·<·):=ha.1.sublist γo;have hvc:∀x∈(M9 p).bn.filter (gz c),x∈c:=λx hx=>of_decide_eq_true (Ψ.1 hx).2;have hvF:fp p (VJ p ((M9 p).bn.filter (gz c))):=CU hc ha hF.2;obtain⟨t,ht,hlt⟩:=Q3 hca hva hvc;have hto:=CW (p:=p) ht.2;rw[hlt] at hto;have hFt:og (cH p c) t:=⟨qg.2 (by rw[uS];exact ht),by rw[hto];exact hvF⟩;have hvt:bF (VJ (cH p c) t)=bF (VJ p ((M9 p).bn.filter (gz c))):=by rw[hto]
 have le1:=xS hgq hFt.1 (decide_eq_true hFt.2);rw[hvt] at le1;have hra:=@CT p.bj.length c (fz c (M9 (cH p c)).bn) (M9 p).bn;have hri:=λ{d:List Int} (hd:d∈bG p)=>Q2 hcc hwa hwc ha hd;have hrF:og p (oO p.bj.length c (fz c (M9 (cH p c)).bn) (M9 p).bn):=⟨qg.2 hra,(Q7 hc hra).2 λd hd=>by
  rw[hri hd];split;·exact hwF
  ·exact CU hc ha hF.2⟩;have hrv:bF (VJ p (oO p.bj.length c (fz c (M9 (cH p c)).bn) (M9 p).bn))=(M9 p).value - bF (VJ p ((M9 p).bn.filter (gz c)))+(M9 (cH p c)).value:=by
  rw[CS hra,hv,CS ha];have:=Kc (f:=λd=>bF (VJ p ((oO p.bj.length c (fz c (M9 (cH p c)).bn) (M9 p).bn).filter (gz d)))) (g:=λd=>bF (VJ p ((M9 p).bn.filter (gz d)))) (c:=c) Q0 hcc λd hd hne=>by
   show bF (VJ p ((oO _ _ _ _).filter (gz d)))=_;rw[hri hd,if_neg hne]
  rw[this];show _ - _+bF (VJ p ((oO _ _ _ _).filter (gz c)))=_;rw[hri hcc,if_pos rfl,hwv]
 have le2:=xS hg hrF.1 (decide_eq_true hrF.2);have le2:bF (VJ p (oO p.bj.length c (fz c (M9 (cH p c)).bn) (M9 p).bn))<=(M9 p).value:=le2;rw[hrv] at le2;have eqv:bF (VJ p ((M9 p).bn.filter (gz c)))=(M9 (cH p c)).value:=by omega
 refine⟨?_,eqv⟩;have n1:¬bD t (M9 (cH p c)).bn<0:=λh=>DI hgq hFt (.inr ⟨by show bF (VJ (cH p c) t)=_;rw[hvt,eqv],h⟩);have n2:¬bD (M9 (cH p c)).bn t<0:=λh=>by
  have pos:∀(s:List Int),s≠[]->t=(M9 (cH p c)).bn++s->False:=λs hs e=>by
   have h5:=hvt;rw[e] at h5;have e2:VJ (cH p c) ((M9 (cH p c)).bn++s)=VJ (cH p c) (M9 (cH p c)).bn++VJ (cH p c) s:=γb;rw[e2,mv,<-hvq,eqv] at h5;have h6:=JJ hgq (L:=VJ (cH p c) s) (λx hx=>by
    obtain⟨k,hk,rfl⟩:=Γ.1 hx;have:=ht.2 k (by rw[e];exact List.mem_append_right _ hk);exact cA (by rw[uS];omega)) (by
    cases s with
    |nil=>exact absurd rfl hs;|cons x s=>exact List.cons_ne_nil _ _);omega
  rcases Kd hb.1 ht.1 h with⟨d,d1,d2,d3,y,y1,y2⟩|⟨s,s1,s2⟩
  ·have hd:=hb.2 d d1;have hy:=ht.2 y y1;have tin:∀k:Int,(0<=k/\k<c.length)->(bN c k.toNat 0∈(M9 p).bn↔k∈t):=λk hk=>by
    constructor
    ·intro hm;have hm2:bN c k.toNat 0∈fz c t:=by rw[hlt];exact Ψ.2 ⟨hm,decide_eq_true (cA (by omega))⟩
     obtain⟨j,hj,e⟩:=Γ.1 hm2;have hjb:=ht.2 j hj;by_cases h1:j<k;·have:=sZ hca hjb hk h1;omega
     ·by_cases h2:k<j;·have:=sZ hca hk hjb h2;omega
      ·rw[show k=j by omega];exact hj
    ·intro hk2;have:bN c k.toNat 0∈fz c t:=Γ.2 ⟨k,hk2,rfl⟩;rw[hlt] at this;exact(Ψ.1 this).1
   have bin:∀k:Int,(0<=k/\k<c.length)->(bN c k.toNat 0∈fz c (M9 (cH p c)).bn↔k∈(M9 (cH p c)).bn):=λk hk=>by
    constructor
    ·intro hm;obtain⟨j,hj,e⟩:=Γ.1 hm;have hjb:=hb.2 j hj;by_cases h1:j<k;·have:=sZ hca hjb hk h1;omega
     ·by_cases h2:k<j;·have:=sZ hca hk hjb h2;omega
      ·rw[show k=j by omega];exact hj
    ·intro hk2;exact Γ.2 ⟨k,hk2,rfl⟩
   have hdc:bN c d.toNat 0∈c:=cA (by omega);have hcmp:bD (oO p.bj.length c (fz c (M9 (cH p c)).bn) (M9 p).bn) (M9 p).bn<0:=by
    refine Q6 (d:=bN c d.toNat 0) hra ha ?_ ?_ (λi hi=>?_) ⟨bN c y.toNat 0,(tin y hy).2 y1,sZ hca hd hy y2⟩;·exact uQ.2 ⟨hca.2 _ hdc,by rw[if_pos hdc];exact(bin d hd).2 d1⟩
    ·exact λhm=>d2 ((tin d hd).1 hm)
    ·by_cases hic:i∈c
     ·obtain⟨k,hk,rfl⟩:∃k:Int,(0<=k/\k<c.length)/\bN c k.toNat 0=i:=by
       obtain⟨j,hj,e⟩:=γJ hic;exact⟨j,by omega,by rw[γk,bV hj,e]⟩
      have hkd:k<d:=by
       by_cases h1:k<d;·exact h1
       ·by_cases h2:d<k;·have:=sZ hca hd hk h2;omega
        ·rw[show k=d by omega] at hi;omega
      rw[uQ,if_pos hic,bin k hk,tin k hk,d3 k hkd];exact⟨λh=>h.2,λh=>⟨hca.2 _ hic,h⟩⟩
     ·rw[uQ,if_neg hic];exact⟨λh=>h.2,λh=>⟨ha.2 _ h,h⟩⟩
   refine DI hg hrF (.inr ⟨?_,hcmp⟩);show bF (VJ p _)=_;rw[hrv,eqv];omega
  ·exact pos s s1 s2
 have n3:bD t (M9 (cH p c)).bn=0:=by
  have:¬0<bD t (M9 (cH p c)).bn:=λh=>n2 (FN.2 h);omega
 rw[<-hlt,FO n3]
theorem QZ {p:cj} (hc:nW p=0):(M9 p).value=((bG p).map λc=>(M9 (cH p c)).value).sum:=by
 obtain⟨hF,hv⟩:=oR hc;rw[hv,CS (qg.1 hF.1)];congr 1;exact γI λc hcc=>(uP hc hcc).2
def qf (p:cj):List Int:=(bG p).flatMap λc=>fz c (M9 (cH p c)).bn
theorem QY {p:cj} (e:nW p=0) {i:Int}:i∈qf p↔i∈(M9 p).bn:=by
 unfold qf;rw[List.mem_flatMap];have f:=qg.1 (oR e).1.1;constructor
 ·rintro⟨c,a,b⟩;rw[<-(uP e a).1] at b;simp_all
 ·intro b;obtain⟨c,a,d⟩:=B8 (f.2 i b);exact⟨c,a,by rw[<-(uP e a).1];exact Ψ.2 ⟨b,decide_eq_true d⟩⟩
theorem QX {p:cj} (b:nW p=0):(qf p).Nodup:=by
 unfold qf List.Nodup;rw[List.pairwise_flatMap];have j:=qg.1 (oR b).1.1;refine⟨λc a=>?_,CV.imp_of_mem λ{c d} a i h x g y f e=>?_⟩
 ·rw[<-(uP b a).1];exact(j.1.sublist γo).imp λh=>by omega
 ·rw[<-(uP b a).1] at g;rw[<-(uP b i).1] at f;exact h x (of_decide_eq_true (Ψ.1 g).2) (e▸of_decide_eq_true (Ψ.1 f).2)
theorem QW {p:cj} (hc:nW p=0):dp (qf p)=(M9 p).bn:=by
 have ha:=qg.1 (oR hc).1.1;have hp:(dp (qf p)).Perm (qf p):=δp _ _;have hs:(dp (qf p)).Pairwise λa b=>decide (a<=b)=true:=δK (λa b c h1 h2=>by simp at h1 h2 ⊢;omega) (λa b=>by simp;omega) _;have hn:(dp (qf p)).Nodup:=hp.nodup_iff.2 (QX hc);refine wO ((hs.and hn).imp λ{a b} h=>?_) ha.1 λx=>?_
 ·have h1:=of_decide_eq_true h.1;have h2:a≠b:=h.2;omega
 ·rw[hp.mem_iff,QY hc]
theorem QV {l:List Int} {m:Nat} (a:l.Nodup) (h:∀x∈l,0<=x/\x<m):l.length<=m:=by
 have b:l.Perm ((cz m).filter λx=>decide (x∈l)):=by
  refine(γ7 a ((nL.sublist γo).imp λh=>by omega)).2 λx=>?_;simp_all[jh]
 rw[b.length_eq];grind[gQ]
theorem Di {p:cj} (hc:nW p=0):(bG p).length<=p.bk.length:=by
 have hl:(bG p).length=((cz p.bj.length).filter (n_ p)).length:=by unfold bG;rw[Ξ]
 rw[hl];have e:((cz p.bj.length).filter (n_ p)).length=(((cz p.bj.length).filter (n_ p)).map λf=>(oI p f).TM).length:=by rw[Ξ]
 rw[e];refine QV (BD ((nL.sublist γo).imp λh=>by omega) λi hi j hj hb=>?_) λx hx=>?_
 ·obtain⟨i1,i2⟩:=Ψ.1 hi;obtain⟨j1,j2⟩:=Ψ.1 hj;have i1:=jh.1 i1;have j1:=jh.1 j1;have hn:lg p i=lg p j:=(JR i1 j1).2 (BG (by omega) (by omega) (by
   rw[show((i.toNat:Nat):Int)=i by omega,show((j.toNat:Nat):Int)=j by omega];exact Kf hb));by_cases h1:i<j;·exact absurd hn ((uT j1.1).1 j2 i i1.1 h1)
  ·by_cases h2:j<i;·exact absurd hn.symm ((uT i1.1).1 i2 j j1.1 h2)
   ·omega
 ·obtain⟨f,hf,rfl⟩:=Γ.1 hx;have:=js hc (jh.1 (Ψ.1 hf).1);exact⟨this.1,this.2.1⟩
def Dh:cj:=⟨.zero,.zero,.zero,[],[]⟩
theorem QU:jB Tryz.prog 57 [.os 0 0 0 0] [.cells [] 3 1 true] (.Gz []) [.cells [] 3 1 true]:=
 (Gf pU 60 57 [.os 0 0 0 0] [.cells [] 3 1 true] true (.Gz []) [.cells [] 3 1 true] (by kernel_rfl)).2.1
def Kb:cU where
 f:=57;α:=Nat×List Int;put a:=[.ow 0 a.1 1];st a:=[.row (.i .i64) a.2 3 true];dec v o:=match v,o with
  |[.ow 0 n 1],[.row t l 3 true]=>match gF t (.i .i64) l with
   |some l=>some (n,l)
   |_=>none
  |_,_=>none;ok v o a h:=by
  grind[ln]
 inj a b e1 e2:=by
  obtain⟨n,l⟩:=a;obtain⟨n',l'⟩:=b;simp only[gL,Θ,SV.g,AV.os.injEq,true_and] at e1;simp only[gO,ξ,γw,iZ.g,Θ,OL.cells.injEq,and_true,true_and] at e2;have h4:l=l':=by
   have hf:=congrArg List.length e2;rw[ec,ec] at hf;exact kq (.i .i64) (by grind[ew.sz]) e2
  simp_all
 dom a:=a.1=a.2.length/\a.2.length<=1000000;res _:=.Gz [];out a:=[.row (.i .i64) (dp a.2) 3 true]
theorem y6:dB Tryz.prog Kb:=by
 rintro⟨n,l⟩ ⟨a,b⟩;simp only at a b;by_cases c:1<=l.length;·exact yP (n,l) ⟨a,c,b⟩
 ·have:l=[]:=χ (by omega);subst this;subst a;refine⟨by kernel_rfl,?_⟩;have e:dp []=[]:=by simp[dp]
  show jB Tryz.prog 57 [.os 0 0 0 0] [.cells [] 3 1 true] (.Gz []) (gO [.row (.i .i64) (dp []) 3 true]);rw[e];exact QU
def xe:NG:=⟨31,cj×List Int,.cons cV (.one (cO (.i .i64))),λa=>(∀i∈a.2,0<=i/\i<a.1.bj.length)/\a.2.length<=1000/\a.1.bk.length<=1000,λa=>cV.put (cH a.1 a.2)⟩
def Dg (p:cj) (v:SV):iZ:=.cells [.si .i64 p.bm.a0,.si .i64 p.bm.a1,.si .i64 p.bm.a2,.si .i64 p.bm.a3,.si .i64 p.bm.a4,.si .i64 p.bm.a5,
  .si .i64 p.bs.a0,.si .i64 p.bs.a1,.si .i64 p.bs.a2,.si .i64 p.bs.a3,.si .i64 p.bs.a4,.si .i64 p.bs.a5,
  .si .i64 p.bt.a0,.si .i64 p.bt.a1,.si .i64 p.bt.a2,.si .i64 p.bt.a3,.si .i64 p.bt.a4,.si .i64 p.bt.a5,
  .row (.i .i64) p.bk,v] 27 20 false
def Ka:iZ:=.cells [.il .i64 0,.il .i64 0,.il .i64 0,.il .i64 0,.il .i64 0,.il .i64 0,.il .i64 0,.il .i64 0,.il .i64 0,.il .i64 0,.il .i64 0,.il .i64 0,.il .i64 0,.il .i64 0,.il .i64 0,.il .i64 0,.il .i64 0,.il .i64 0,.sc (.slice none 0 0),.sc (.slice none 0 0)] 27 20 false
def QT (p:cj) (c:List Int):Nat->bJ
 |5=> .inv Int (λi=>⟨[(2,.ptr 0 0 20),(4,.ptr 1 0 20),(5,.ptr 2 0 20),(14,.row (.i .i64) c),(15,.si .i64 c.length),(16,.si .i64 i)],[.cells p.ss 27 20 false,Ka,Dg p (.ow 3 (c.take i.toNat).length 8),.row .bu ((c.take i.toNat).map (oI p)) 65 true]⟩)
   (λs=>iS s 16) (λi=>0<=i/\i<=c.length) (λi=>(c.length - i).toNat) λ_ _=> .look
 |_=> .look
theorem tW:Holds Tryz.prog xe:=by
 refine bM (L:=[yf]) xe (λa=>QT a.1 a.2) (by grind[yR]) ?_;rintro⟨p,c⟩ ⟨Z,h2,h3⟩;simp only at Z h2 h3;refine NI (let a:=γj .i64;let b:=(0:Int);let d:=iZ.cells;let y:=γa;let I:=iZ.row;let L:=γV;let Y:=L 0 0 20;let W:=L 1 0 20;let X:=L 2 0 20;let J:=ew.i .i64;let H:=(↑c.length:Int);let N:=a H;let e:=γC .i64 0;let O:=a p.bm.a0;let M:=a p.bm.a1;let S:=a p.bm.a2;let q:=a p.bm.a3;let B:=a p.bm.a4;let A:=a p.bm.a5;let r:=a p.bs.a0;let v:=a p.bs.a1;let D:=a p.bs.a2;let u:=a p.bs.a3;let o:=a p.bs.a4;let w:=a p.bs.a5;let l:=a p.bt.a0;let n:=a p.bt.a1;let z:=a p.bt.a2;let C:=a p.bt.a3;let t:=a p.bt.a4;let s:=a p.bt.a5;let k:=y J p.bk;let F:=d [O,M,S,q,B,A,r,v,D,u,o,w,l,n,z,C,t,s,k,y ew.bu p.bj] 27 20 false;let T:=SV.sc (Value.slice none 0 0);let E:=d [e,e,e,e,e,e,e,e,e,e,e,e,e,e,e,e,e,e,T,T] 27 20 false;let K:=d [O,M,S,q,B,A,r,v,D,u,o,w,l,n,z,C,t,s,k,SV.ow 3 0 8] 27 20 false;let U:=I ew.bu [] 65 true;let h:=(cH p c).bm;let f:=(cH p c).bs;let j:=(cH p c).bt;p.bk.length<=1000000/\(((Y.bi Y/\W.bi W/\X.bi X/\(y J c).bi (y J c)/\(a (↑c.length:Int)).bi N/\e.bi (a 0)/\True)/\F.bi F/\E.bi E/\K.bi K/\U.bi U/\True)/\b<=b/\b<=H)/\∀(x:Int),let G:=bN c x.toNat b;let m:=γc (oI p) (Δ x.toNat c);let Q:=m.length+1;let g:=x+(1:Int);let R:=a g;let V:=m++[bN p.bj G.toNat ew.bu.bw];let P:=Δ g.toNat c;b<=x/\x<=H->(decide (x<H)=true->b<=x/\x<(↑c.length:Int)/\x.toNat<c.length/\b<=G/\G<(↑p.bj.length:Int)/\G.toNat<p.bj.length/\1=1/\(Δ x.toNat c).length=m.length/\Q*64<=140737488355328/\Q<=1000000000000/\VL .i64 g/\((Y.bi Y/\W.bi W/\X.bi X/\(y J c).bi (y J c)/\N.bi N/\R.bi R/\True)/\F.bi F/\E.bi E/\(d [O,M,S,q,B,A,r,v,D,u,o,w,l,n,z,C,t,s,k,SV.ow 3 V.length 8] 27 20 false).bi (d [O,M,S,q,B,A,r,v,D,u,o,w,l,n,z,C,t,s,k,SV.ow 3 P.length 8] 27 20 false)/\(I ew.bu V 65 true).bi (I ew.bu (γc (oI p) P) 65 true)/\True)/\(b<=g/\g<=H)/\(H - g).toNat<(H - x).toNat)/\(decide (x<H)=false->(Δ x.toNat c).length=m.length/\(γN [O,M,S,q,B,A,r,v,D,u,o,w,l,n,z,C,t,s,k,y ew.bu m]).bi (γN [a h.a0,a h.a1,a h.a2,a h.a3,a h.a4,a h.a5,a f.a0,a f.a1,a f.a2,a f.a3,a f.a4,a f.a5,a j.a0,a j.a1,a j.a2,a j.a3,a j.a4,a j.a5,y J (cH p c).bk,y ew.bu (cH p c).bj]))) (by kernel_rfl) ?_;simp only[vcs];have I:∀{a b:Nat},a=b->(Dg p (.ow 3 a 8)).bi (Dg p (.ow 3 b 8)):=by rintro _ _ rfl;rfl
 have a7:∀{x y:List bC},x=y->(iZ.row .bu x 65 true).bi (iZ.row .bu y 65 true):=by rintro _ _ rfl;rfl
 have a6:∀x:Int,0<=x->x<c.length->γc (oI p) (Δ x.toNat c)++[bN p.bj (bN c x.toNat 0).toNat ew.bu.bw]=γc (oI p) (Δ (x+1).toNat c):=λx h0 Z=>by
  rw[ji (d:=0) h0 Z,γb];rfl
 refine⟨by omega,by omega,?_⟩;rintro x ⟨x0,x1⟩;refine⟨λN=>?_,λa8=>?_⟩
 ·have hb:=Z (bN c x.toNat 0) (cA (by omega));have a9:(γc (oI p) (Δ x.toNat c)).length=x.toNat:=by simp_all
  rw[a6 x x0 N];refine⟨x0,N,by omega,hb.1,hb.2,by omega,(Ξ _).symm,by omega,by omega,by omega,⟨I (Ξ _),a7 rfl⟩,by omega,by omega⟩
 ·rw[show x.toNat=c.length by omega,φ];exact⟨(Ξ _).symm,rfl⟩
def oN (p:cj) (l:List Int):Int:=if nW p≠0 then nW p else if eG p l=true then 0 else 4
def mr (p:cj) (l:List Int):cj:=if oN p l=0 then cH p l else Dh
def Df:NG:=⟨15,cj×List Int,.cons cV (.one (cO (.i .i64))),λa=>a.2.length<=1000000000000,λa=> .Gz [.agg (mr a.1 a.2).ss,.si .i64 (oN a.1 a.2)]⟩
def RF (p:cj) (l:List Int):Nat->bJ
 |6=> .inv (Int×Int) (λx=>⟨[(1,.row (.i .i64) l),(2,.ptr 0 0 20),(4,.ptr 1 0 20),(7,.si .i64 x.2),(16,.row (.i .i64) l),(17,.si .i64 l.length),(18,.si .i64 x.1)],[.cells p.ss 27 20 false,Ka]⟩)
   (λs=>(iS s 18,iS s 7)) (λx=>(0<=x.1/\x.1<=l.length)/\(-1<=x.2/\x.2<1000)/\(dA p.bj (-1) l).isSome=(dA p.bj x.2 (l.drop x.1.toNat)).isSome) (λx=>(l.length - x.1).toNat) λ_ _=> .look
 |_=> .look
theorem HD:Holds Tryz.prog Df:=by
 refine bM (L:=[mV,xe]) Df (λa=>RF a.1 a.2) (by grind[oi,tW]) ?_;rintro⟨p,l⟩ (hl:l.length<=1000000000000);refine NI (let a:=γj .i64;let d:=γa;let e:=(-1:Int);let h:=(0:Int);let n:=γC .i64;let q:=(1000:Int);let A:=SV.Gz;let E:=γN;let T:=decide (nW p≠h);let b:=n 0;let m:=ew.i .i64;let M:=E [b,b,b,b,b,b,b,b,b,b,b,b,b,b,b,b,b,b,d m [],d m []];let y:=(mr p l).bm;let w:=(mr p l).bs;let v:=(mr p l).bt;let J:=A [E [a y.a0,a y.a1,a y.a2,a y.a3,a y.a4,a y.a5,a w.a0,a w.a1,a w.a2,a w.a3,a w.a4,a w.a5,a v.a0,a v.a1,a v.a2,a v.a3,a v.a4,a v.a5,d m (mr p l).bk,d ew.bu (mr p l).bj],a (oN p l)];let K:=γV 0 0 20;let I:=γV 1 0 20;let c:=(↑l.length:Int);let u:=a c;let r:=iZ.cells [a p.bm.a0,a p.bm.a1,a p.bm.a2,a p.bm.a3,a p.bm.a4,a p.bm.a5,a p.bs.a0,a p.bs.a1,a p.bs.a2,a p.bs.a3,a p.bs.a4,a p.bs.a5,a p.bt.a0,a p.bt.a1,a p.bt.a2,a p.bt.a3,a p.bt.a4,a p.bt.a5,d m p.bk,d ew.bu p.bj] 27 20 false;let z:=SV.sc (Value.slice none 0 0);let s:=iZ.cells [b,b,b,b,b,b,b,b,b,b,b,b,b,b,b,b,b,b,z,z] 27 20 false;let t:=(dA p.bj e l).isSome;let f:=(cH p l).bm;let k:=(cH p l).bs;let o:=(cH p l).bt;True/\(T=true->(A [M,a (nW p)]).bi J)/\(T=false->((((d m l).bi (d m l)/\K.bi K/\I.bi I/\(n e).bi (a e)/\(d m l).bi (d m l)/\(a (↑l.length:Int)).bi u/\b.bi (a 0)/\True)/\r.bi r/\s.bi s/\True)/\(h<=h/\h<=c)/\(e<=e/\e<q)/\t=t)/\∀(x:Int×Int),let G:=decide (x.1<c);let j:=bN l x.1.toNat h;let H:=decide (j<=x.2);let D:=decide ((↑p.bj.length:Int)<=j);let g:=x.1+(1:Int);let B:=a j;let C:=a g;(h<=x.1/\x.1<=c)/\(e<=x.2/\x.2<q)/\t=(dA p.bj x.2 (List.drop x.1.toNat l)).isSome->(G=true->h<=x.1/\x.1<(↑l.length:Int)/\x.1.toNat<l.length/\(H=true->(A [M,n 4]).bi J)/\(H=false->(D=true->(A [M,n 4]).bi J)/\(D=false->VL .i64 g/\(((d m l).bi (d m l)/\K.bi K/\I.bi I/\B.bi B/\(d m l).bi (d m l)/\u.bi u/\C.bi C/\True)/\r.bi r/\s.bi s/\True)/\((h<=g/\g<=c)/\(e<=j/\j<q)/\t=(dA p.bj j (List.drop g.toNat l)).isSome)/\(c - g).toNat<(c - x.1).toNat)))/\(G=false->((∀(i:Int),i∈l->h<=i/\i<(↑p.bj.length:Int))/\l.length<=1000/\p.bk.length<=1000)/\(A [E [a f.a0,a f.a1,a f.a2,a f.a3,a f.a4,a f.a5,a k.a0,a k.a1,a k.a2,a k.a3,a k.a4,a k.a5,a o.a0,a o.a1,a o.a2,a o.a3,a o.a4,a o.a5,d m (cH p l).bk,d ew.bu (cH p l).bj],b]).bi J))) (by kernel_rfl) ?_;simp only[vcs];have Z:oN p l≠0->mr p l=Dh:=λh=>by simp_all[mr]
 refine⟨λh=>?_,λh=>?_⟩
 ·have e:oN p l=nW p:=by simp_all[oN]
  rw[Z (by omega),e];exact⟨rfl,rfl⟩
 ·have hc:nW p=0:=γe.1 h;have P:=cL hc;have e:oN p l=if eG p l=true then 0 else 4:=by simp_all[oN]
  refine⟨⟨by omega,by omega,by simp⟩,?_⟩;rintro⟨i,U⟩ ⟨⟨N,i1⟩,⟨Y,V⟩,q⟩;simp only at N i1 Y V q ⊢;have F:eG p l=false->oN p l=4/\mr p l=Dh:=λhb=>by
   simp_all
  refine⟨λA=>?_,λa6=>?_⟩
  ·rw[qu (d:=0) N A] at q;generalize S:bN l i.toNat 0=x at q ⊢;simp only[dA] at q;refine⟨N,A,by omega,λR=>?_,λR=>⟨λh2=>?_,λh2=>?_⟩⟩
   ·rw[if_pos (.inl R)] at q;obtain⟨O,Q⟩:=F q;rw[Q,O];exact⟨rfl,rfl⟩
   ·rw[if_pos (.inr (by omega))] at q;obtain⟨O,Q⟩:=F q;rw[Q,O];exact⟨rfl,rfl⟩
   ·rw[if_neg (by omega),Option.isSome_map] at q;have:=P.2.1;grind
  ·rw[show i.toNat=l.length from by omega,List.drop_length] at q;have E:eG p l=true:=q;rw[E] at e;have e0:oN p l=0:=e;have X:mr p l=cH p l:=by simp_all[mr]
   have ha:=E4 (by omega) E;rw[X,e0];have W:=Eg (n:=p.bj.length) (a:=0) (by omega) ha.1 (λx S=>by grind);exact⟨⟨λx S=>by grind,by have:=P.2.1;omega,by have:=P.1;omega⟩,rfl,rfl⟩
open Go.Maps Go.RowKit Go.Proofs Go.ChangeShapes
def fH (l:List Int) (k:Nat) (x:Int):List Int:=(cz k).filter λi=>decide (bN l i.toNat 0=x)
theorem RE {l:List Int} {k:Nat} {x:Int}:fH l (k+1) x=if bN l k 0=x then fH l k x++[(k:Int)] else fH l k x:=by
 grind[fH,qm]
def lY (H:Type) (l:List Int):Nat->DataW H
 |0=> .map []
 |k+1=>(lY H l k).put (.int .i64 (bN l k 0)) (.slice (lits .i64 (fH l k (bN l k 0)++[(k:Int)])) [])
theorem J_ {H:Type} {l:List Int}:∀{k:Nat},Go.Maps.IsMap (lY H l k)
 |0=>isMap_empty
 |k+1=>J_.put _ _
theorem B7 {H:Type} {l:List Int} {x:Int}:∀{k:Nat} (z:DataW H),(lY H l k).atKey (.int .i64 x) z=if fH l k x=[] then z else .slice (lits .i64 (fH l k x)) []
 |0,z=>by grind[lY,fH,cz,DataW.atKey];|k+1,z=>by
  rw[lY,RE];by_cases h:bN l k 0=x
  ·subst h;rw[atKey_put_same J_ (by simp[WideAt.IsKeyLit]),if_pos rfl,if_neg (by simp)]
  ·rw[atKey_put_other (by grind),if_neg h];exact B7 z
theorem Jm {H:Type} {l:List Int} {x:Int} {k:Nat}:Go.Maps.has (lY H l k) (.int .i64 x)=decide (fH l k x≠[]):=by
 by_cases h:fH l k x=[];all_goals simp_all[has_false_of_atKey,B7,has_true_of_atKey]
theorem RD {H:Type} {w:World} {base:Nat} {e:TypeId} {v:Value} {zs l:List Int} {k:Nat} (ho:w.ownsInts base e .i64 v zs)
  (hat:(lY H l k).atKey (.int .i64 (bN l k 0)) .nil=rowDatum .i64 v zs):zs=fH l k (bN l k 0):=by
 rw[B7] at hat;rcases ho.datum (H:=H) with⟨h1,rfl⟩|h1<;>rw[h1] at hat
 ·split at hat;·rename_i h;exact h.symm
  ·cases hat
 ·split at hat;·cases hat
  ·injection hat with hat;have hinj:∀{a b:List Int},lits (H:=H) .i64 a=lits .i64 b->a=b:=by
    intro a;induction a with
    |nil=>intro b h;cases b with|nil=>rfl|cons y b=>simp[lits] at h
    |cons x a ih=>
     intro b h;cases b with
     |nil=>simp[lits] at h;|cons y b=>
      simp[lits] at h ih;rw[h.1,ih h.2]
   exact(hinj hat).symm
theorem Jl {l:List Int} {n:Nat} {x i:Int}:i∈fH l n x↔(0<=i/\i<n)/\bN l i.toNat 0=x:=by
 unfold fH cz;grind
theorem RC {l:List Int} {n:Nat} {x:Int}:(fH l n x).Pairwise (·<·):=nL.sublist γo
def dV (l:List Int) (n:Nat):List Int:=(cz n).filter λf=>decide ((fH l n (bN l f.toNat 0)).head?=some f)
theorem De {l:List Int} {n:Nat}:(dV l n).Pairwise (·<·):=nL.sublist γo
theorem B6 {l:List Int} {n:Nat} {f:Int}:f∈dV l n↔(fH l n (bN l f.toNat 0)).head?=some f:=by
 unfold dV;rw[Ψ];constructor;·simp_all
 ·intro h;refine⟨?_,decide_eq_true h⟩;have:=(Jl.1 (List.mem_of_mem_head? h)).1;grind[cz]
theorem RB {l:List Int} {n:Nat} {x:Int} (h:fH l n x≠[]):∃f t,fH l n x=f::t/\f∈dV l n/\bN l f.toNat 0=x:=by
 cases e:fH l n x with
 |nil=>exact absurd e h;|cons f t=>
  have hf:=(Jl.1 (show f∈fH l n x by rw[e];exact γv)).2;exact⟨f,t,rfl,B6.2 (by rw[hf,e];rfl),hf⟩
theorem RA {l:List Int} {n:Nat} {f g:Int} (b:f∈dV l n) (a:g∈dV l n) (h:bN l f.toNat 0=bN l g.toNat 0):f=g:=by
 grind[B6]
theorem Rz {hs l:List Int} (hn:hs.Nodup) (hl:l.Pairwise (·<·)) (hm:∀x,x∈hs↔x∈l):(hs.mergeSort λx y=>decide (x<=y))=l:=by
 have hp:hs.Perm l:=(γ7 hn (hl.imp λh=>Int.ne_of_lt h)).2 hm;have h1:=δK (le:=λx y:Int=>decide (x<=y)) (λa b c=>by simp;omega) (λa b=>by simp;omega) hs;exact List.Perm.eq_of_pairwise (le:=λx y:Int=>x<=y) (λa b _ _ h h'=>by omega) (h1.imp λh=>by simpa using h) (hl.imp λh=>Int.le_of_lt h) ((δp _ _).trans hp)
theorem Ry {p:cj}:bG p=(dV (qb p) p.bj.length).map λf=>fH (qb p) p.bj.length (bN (qb p) f.toNat 0):=by
 unfold bG;have e:∀f,ny p f=fH (qb p) p.bj.length (bN (qb p) f.toNat 0):=λf=>rfl;have h:(cz p.bj.length).filter (n_ p)=dV (qb p) p.bj.length:=by
  unfold dV;refine List.filter_congr λf hf=>?_;obtain⟨h0,h1⟩:=jh.1 hf;rw[<-e f];have hin:f∈ny p f:=ra.2 ⟨⟨h0,h1⟩,rfl⟩;have hasc:(ny p f).Pairwise (·<·):=RC;cases hc:ny p f with
  |nil=>rw[hc] at hin;cases hin;|cons g t=>
   rw[hc] at hasc;have hg:=ra.1 (show g∈ny p f by rw[hc];exact γv);by_cases hfg:g=f
   ·subst hfg;rw[List.head?_cons];have:n_ p g=true:=(uT h0).2 λj a b c=>by
     have hj:j∈ny p g:=ra.2 ⟨⟨a,by omega⟩,c⟩;rw[hc] at hj;rcases γq.1 hj with rfl|hj;·omega
     ·have:=ζp hasc hj;omega
    simp[this]
   ·have hlt:g<f:=by
     rw[hc] at hin;rcases γq.1 hin with rfl|hj;·exact absurd rfl hfg
     ·exact ζp hasc hj
    have:¬n_ p f=true:=λhb=>(uT h0).1 hb g hg.1.1 hlt hg.2;simp only[Bool.not_eq_true] at this;simp[this,hfg]
 rw[h];exact γI λf _=>e f
open Go.Maps Go.RowKit Go.Proofs Go.ChangeShapes
theorem Rx {l:List Int} {n:Nat} {f:Int} (h:f∈dV l n):0<=f/\f<n:=by
 grind[dV,jh]
structure uO (O:Value->List Int->Prop) (l:List Int) (n:Nat) (D:DataW Unit) (left:Lit->Bool) (cnt:Nat) (hs:List (Int×Value)):Prop where
 d:(hs.map εm).Nodup
 i:∀h∈hs,h.1∈dV l n/\O h.2 (fH l n (bN l h.1.toNat 0))/\left (.int .i64 (bN l h.1.toNat 0))=false
 a:∀f∈dV l n,left (.int .i64 (bN l f.toNat 0))=false->∃h∈hs,h.1=f
 c:hs.length+cnt<=n
 h:∀kl,left kl=true->Go.Maps.has D kl=true
theorem Jk (a b:Int):(Lit.int .i64 a).sameKey (.int .i64 b)=decide (a=b):=by simp[Lit.sameKey]
theorem uO.step {O:Value->List Int->Prop} {l:List Int} {n:Nat} {D:DataW Unit} {e:Lit->Bool} {o:Nat} {x:List (Int×Value)} (h:uO O l n D e o x) {f:Int} {v:Value} (A:f∈dV l n)
  (I:O v (fH l n (bN l f.toNat 0))) (s:e (.int .i64 (bN l f.toNat 0))=true) {k:Nat} (J:k<o):
  uO O l n D (λz=>e z&&!z.sameKey (.int .i64 (bN l f.toNat 0))) k (x++[(f,v)]):=by
 refine⟨?_,?_,?_,?_,?_⟩
 ·rw[γb,List.nodup_append];refine⟨h.d,by simp,?_⟩;intro a B b u p;simp at u;subst u;subst p;obtain⟨q,E,rfl⟩:=Γ.1 B;rw[(h.i _ E).2.2] at s;cases s
 ·intro y m;rcases γi.1 m with m|m
  ·obtain⟨K,H,G⟩:=h.i y m;simp_all
  grind[Jk]
 ·intro g w j;rw[Jk] at j;by_cases t:bN l g.toNat 0=bN l f.toNat 0;·exact⟨(f,v),by simp,(RA w A t).symm⟩
  ·rw[decide_eq_false t] at j;simp at j;obtain⟨y,m,F⟩:=h.a g w j;grind
 ·have:=h.c;grind
 ·intro C r;simp only[θ] at r;exact h.h C r.1
def kZ (hs:List (Int×Value)) (f:Int):Value:=((hs.find? λh=>decide (h.1=f)).map Prod.snd).getD (.slice none 0 0)
theorem Jj {a:List (Int×Value)} (b:(a.map εm).Nodup) {q:Int×Value} (c:q∈a):kZ a q.1=q.2:=by
 unfold kZ;induction a<;>grind
theorem Rw {a:List (Int×Value)} (b:(a.map εm).Nodup):(a.map εm).map (kZ a)=a.map Prod.snd:=by
 simp_all[Jj]
theorem uO.done {O:Value->List Int->Prop} {l:List Int} {n:Nat} {D:DataW Unit} {b:Lit->Bool} {j:Nat} {e:List (Int×Value)} (h:uO O l n D b j e) (m:∀o,b o=false):
  (∀f,f∈e.map εm↔f∈dV l n)/\(∀f∈dV l n,O (kZ e f) (fH l n (bN l f.toNat 0)))/\((e.map εm).mergeSort λx y=>decide (x<=y))=dV l n:=by
 have k:∀f,f∈e.map εm↔f∈dV l n:=λf=>by
  constructor
  ·intro c;obtain⟨q,g,rfl⟩:=Γ.1 c;exact(h.i q g).1
  ·intro c;obtain⟨q,g,rfl⟩:=h.a f c (m _);grind
 refine⟨k,λf c=>?_,Rz h.d De k⟩;obtain⟨q,g,rfl⟩:=Γ.1 ((k f).2 c);rw[Jj h.d g];exact(h.i q g).2.1
theorem Rv {H:Type} {w:World} {base:Nat} {e:TypeId} {v:Value} {zs l:List Int} {k:Nat} {x:Int} (ho:w.ownsInts base e .i64 v zs)
  (hat:(lY H l k).atKey (.int .i64 x) .nil=rowDatum .i64 v zs):zs=fH l k x:=by
 rw[B7] at hat;rcases ho.datum (H:=H) with⟨h1,rfl⟩|h1<;>rw[h1] at hat
 ·split at hat;·rename_i h;exact h.symm
  ·cases hat
 ·split at hat;·cases hat
  ·injection hat with hat;have hinj:∀{a b:List Int},lits (H:=H) .i64 a=lits .i64 b->a=b:=by
    intro a;induction a with
    |nil=>intro b h;cases b with|nil=>rfl|cons y b=>simp[lits] at h
    |cons x a ih=>
     intro b h;cases b with
     |nil=>simp[lits] at h;|cons y b=>
      simp[lits] at h ih;rw[h.1,ih h.2]
   exact(hinj hat).symm
end Go.Vi
