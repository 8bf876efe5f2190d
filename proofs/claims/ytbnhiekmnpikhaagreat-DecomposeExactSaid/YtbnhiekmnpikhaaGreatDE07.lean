import Derived.Test.YtbnhiekmnpikhaaGreatDE06
set_option maxRecDepth 100000
set_option maxHeartbeats 4000000
set_option linter.all false
open And renaming intro->γm
open BitVec renaming ofInt->γt
open Classical renaming not_not->γe
open Go.Vi.SV renaming si->γj,row->γa,ow->γ1,il->γC
open Int renaming toNat_natCast->γk,le_trans->ζh,pow_succ->γW,mul_add->εy,add_comm->ζO,emod_nonneg->δQ,emod_lt_of_pos->δr,ediv_nonneg->δ1,mul_ediv_add_emod->εg,ediv_eq_zero_of_lt->εK,emod_eq_of_lt->δO,eq_ofNat_of_zero_le->δJ,tdiv_eq_ediv_of_nonneg->ε9,tmod_eq_emod_of_nonneg->ζa,mul_nonneg->γy,mul_le_mul->δL,mul_le_mul_of_nonneg_left->Φ,le_of_lt->γg,mul_le_mul_of_nonneg_right->γX,one_mul->εz,mul_comm->δ5,sub_mul->ζX,mul_assoc->δn,mul_sub->εN,mul_zero->δM,add_zero->εi,mul_one->ε4
open List renaming drop->γ4,drop_length->δE,cons_append->γM,take->Δ,mem_of_mem_take->γn,take_length->φ,length_cons->γK,mem_map->Γ,range->ω,mem_filter->Ψ,foldl_cons->εb,mem_cons->γq,map_append->γb,map_cons->ξ,mem_append->γi,nodup_cons->γR,pairwise_cons->γr,all_eq_true->ψ,mem_range->γD,filter_sublist->γo,getElem?_cons_succ->γS,map_map->γP,drop_of_length_le->εa,replicate->δ,range_succ->εf,take_of_length_le->γu,map_nil->γw,replicate_zero->ε3,mem_singleton->δd,mem_of_mem_drop->γY
open List.Nodup renaming sublist->ζ0
open List.cons renaming injEq->Θ
open Nat renaming le_refl->π
open Option renaming map->ζw,isSome_iff_exists->γs,getD_some->γ3
open Option.some renaming injEq->γ
namespace Go.Vi
open Go.Proofs.YtbnhiekmnpikhaaGreat.Ir
open Go.Proofs
def M2:List NG:=za::y9::M1
theorem IX:∀c∈M2,Holds Tryz.prog c:=by
 grind[M2,I2,I0,wG]
def Fe:NG:=⟨32,cj×List Int,.cons cV (.one (cO (.i .i64))),λa=>a.2.length<=9223372036854775807/\a.1.bj.length<=1000,λa=> .Gz [.row .bu (cK a.1 a.2),.sb (eG a.1 a.2)]⟩
def jx (c:List Int) (i:Int):Int:=if i=0 then -1 else bN c (i - 1).toNat 0
def WU (a:cj×List Int):Nat->bJ
 |3=> .inv (Int×List bC) (λx=>⟨[(1,.row (.i .i64) a.2),(2,.ptr 0 0 20),(6,.ow 1 x.2.length 8),(7,.si .i64 x.1)],
   [.cells a.1.ss 27 20 false,.row .bu x.2 65 true]⟩) (λs=>(iS s 7,oS .bu s 1))
  (λx=>0<=x.1/\x.1<=a.2.length/\(x.2.length<=jx a.2 x.1+1/\jx a.2 x.1<1000)/\ -1<=jx a.2 x.1/\dA a.1.bj (-1) a.2=(dA a.1.bj (jx a.2 x.1) (a.2.drop x.1.toNat)).map (x.2++·)) (λx=>(a.2.length - x.1).toNat) λ_ _=> .look
 |_=> .look
theorem IS:Holds Tryz.prog Fe:=by
 refine bM (L:=M2) Fe WU IX ?_;rintro⟨p,c⟩ ⟨hc,hof⟩;have hc:c.length<=9223372036854775807:=hc;have hof:p.bj.length<=1000:=hof;refine NI (let a:=γj .i64;let b:=(0:Int);let d:=γa;let e:=(1:Int);let f:=SV.bl false;let g:=(-1:Int);let h:=(1000:Int);let j:=SV.Gz;let k:=ew.i .i64;let s:=SV.ptr 0 0 20;let B:=γ1 1 0 8;let t:=iZ.cells [a p.bm.a0,a p.bm.a1,a p.bm.a2,a p.bm.a3,a p.bm.a4,a p.bm.a5,a p.bs.a0,a p.bs.a1,a p.bs.a2,a p.bs.a3,a p.bs.a4,a p.bs.a5,a p.bt.a0,a p.bt.a1,a p.bt.a2,a p.bt.a3,a p.bt.a4,a p.bt.a5,d k p.bk,d ew.bu p.bj] 27 20 false;let C:=iZ.row ew.bu [] 65 true;let o:=(↑c.length:Int);let u:=jx c b;let z:=dA p.bj g c;let n:=(↑c.length:Int);let v:=j [d ew.bu (cK p c),SV.sb (eG p c)];let D:=p.bj.length;let A:=(↑D:Int);let L:=ew.bu.bw;((((d k c).bi (d k c)/\s.bi s/\B.bi B/\(γC .i64 0).bi (a 0)/\True)/\t.bi t/\C.bi C/\True)/\b<=b/\b<=o/\(b<=u+e/\u<h)/\g<=u/\z=ζw (λx ↦(b,[]).2++x) (dA p.bj u c))/\∀(x:Int×List bC),let l:=bN c x.1.toNat b;let E:=x.2.length+1;let m:=x.1+e;let q:=x.2++[bN p.bj l.toNat L];let F:=a m;let G:=iZ.row ew.bu q 65 true;let w:=jx c m;let y:=jx c x.1;let H:=decide (l<b);let I:=decide (b<x.1);let r:=x.1 - e;let J:=decide (l<=bN c r.toNat b);let K:=b<=x.1/\x.1<n/\x.1.toNat<c.length/\b<=l/\l<A/\l.toNat<D/\x.2.length=x.2.length/\E*64<=140737488355328/\E<=1000000000000/\VL .i64 m/\(((d k c).bi (d k c)/\s.bi s/\(γ1 1 q.length 8).bi (γ1 1 q.length 8)/\F.bi F/\True)/\t.bi t/\G.bi G/\True)/\(b<=m/\m<=o/\((↑q.length:Int)<=w+e/\w<h)/\g<=w/\z=ζw (λx ↦(m,q).2++x) (dA p.bj w (γ4 m.toNat c)))/\(o - m).toNat<(o - x.1).toNat;b<=x.1/\x.1<=o/\((↑x.2.length:Int)<=y+e/\y<h)/\g<=y/\z=ζw (λx_1 ↦x.2++x_1) (dA p.bj y (γ4 x.1.toNat c))->(decide (x.1<n)=true->b<=x.1/\x.1<n/\x.1.toNat<c.length/\(H=true->(j [d k [],f]).bi v)/\(H=false->b<=x.1/\x.1<n/\x.1.toNat<c.length/\(decide (A<=l)=true->(j [d k [],f]).bi v)/\(decide (A<=l)=false->(I=true->b<=x.1/\x.1<n/\x.1.toNat<c.length/\VL .i64 r/\b<=r/\r<n/\r.toNat<c.length/\(J=true->(j [d k [],f]).bi v)/\(J=false->K))/\(I=false->K))))/\(decide (x.1<n)=false->x.2.length=x.2.length/\(j [d ew.bu x.2,SV.bl true]).bi v)) (by kernel_rfl) ?_;simp only[vcs];have hbad:dA p.bj (-1) c=none->(γa (.i .i64) []).bi (γa .bu (cK p c))/\false=eG p c:=λh=>⟨NV.2 (by simp[cK,h]),by simp[eG,h]⟩;refine⟨⟨by omega,by omega,by simp[jx],by simp[jx]⟩,?_⟩;rintro⟨i,out⟩ ⟨hi0,hi1,hlen,hla,hi⟩;simp only at hi0 hi1 hlen hla hi ⊢;refine⟨λhlt=>?_,λhge=>?_⟩
 ·rw[qu (d:=0) hi0 hlt] at hi;have hl1:jx c (i+1)=bN c i.toNat 0:=by unfold jx;rw[if_neg (by omega),show i+1 - 1=i by omega]
  have hl2:i≠0->jx c i=bN c (i - 1).toNat 0:=λh=>by unfold jx;rw[if_neg h]
  have hl3:i=0->jx c i= -1:=λh=>by unfold jx;rw[if_pos h]
  generalize hx:bN c i.toNat 0=x at hi hl1 ⊢;simp only[dA] at hi;have hgood:¬(x<=jx c i\/p.bj.length<=x)->dA p.bj (-1) c=(dA p.bj (jx c (i+1)) (c.drop (i+1).toNat)).map λr=>(out++[bN p.bj x.toNat ew.bu.bw])++r:=λh=>by
   rw[if_neg h] at hi;rw[hi,hl1,Option.map_map];congr 1;funext r;simp
  have bad:(x<=jx c i\/p.bj.length<=x)->(γa (.i .i64) []).bi (γa .bu (cK p c))/\false=eG p c:=λh=>hbad (by rw[hi,if_pos h];rfl);have aIV:¬(x<=jx c i\/p.bj.length<=x)->((out++[bN p.bj x.toNat ew.bu.bw]).length:Int)<=jx c (i+1)+1/\jx c (i+1)<1000:=λh=>by
   rw[hl1];simp only[List.length_append,List.length_singleton];omega
  refine⟨by omega,by omega,by omega,λh1=>bad (.inl (by omega)),λh1=>⟨by omega,by omega,by omega,λh2=>bad (.inr (by omega)),λh2=>⟨λh3=>⟨by omega,by omega,by omega,by omega,by omega,by omega,by omega,λh4=>bad (.inl (by rw[hl2 (by omega)];omega)),λh4=>?_⟩,λh3=>?_⟩⟩⟩
  ·have:=hl2 (by omega);refine⟨by omega,by omega,by omega,by omega,by omega,by omega,by omega,by omega,by omega,⟨by omega,by omega,aIV (by omega),by omega,hgood (by omega)⟩,by omega⟩
  ·have:=hl3 (by omega);refine⟨by omega,by omega,by omega,by omega,by omega,by omega,by omega,by omega,by omega,⟨by omega,by omega,aIV (by omega),by omega,hgood (by omega)⟩,by omega⟩
 ·rw[show i.toNat=c.length from by omega,δE] at hi;simp only[dA,Option.map_some,List.append_nil] at hi;exact⟨by simp[cK,hi],by simp[eG,hi]⟩
def M3:List NG:=Fe::M2
theorem Cg:∀c∈M3,Holds Tryz.prog c:=by
 grind[M3,IS,IX]
def Cc:NG:=⟨24,cj×List Int,.cons cV (.one (cO (.i .i64))),λa=>a.2.length<=9223372036854775807,λa=> .si .i64 (bT a.1 a.2)⟩
theorem Qq:Holds Tryz.prog Cc:=by
 refine bM (L:=M3) Cc (λp=>λ_=> .look) Cg ?_;rintro⟨p,c⟩ (n:c.length<=9223372036854775807);refine NI (let a:=γC .i64;let e:=decide (nW p≠(0:Int));let d:=γj .i64 (bT p c);let f:=!fi p (cK p c);True/\(e=true->(γj .i64 (nW p)).bi d)/\(e=false->(c.length<=9223372036854775807/\p.bj.length<=1000)/\((!eG p c)=true->(a 4).bi d)/\((!eG p c)=false->(p.bk.length<=8/\(cK p c).length<=1000/\∀(x:bC),x∈cK p c->(0:Int)<=x.TM/\x.TM<(↑p.bk.length:Int)/\x.bx.ok=true)/\(f=true->(a 14).bi d)/\(f=false->(a 0).bi d)))) (by kernel_rfl) ?_;simp only[vcs];refine⟨λh=>by simp[bT,h],λh=>?_⟩;have g:nW p=0:=γe.1 h;obtain⟨m,j⟩:=rI g;obtain⟨s,o,l,q,t⟩:=rJ m;refine⟨⟨n,by omega⟩,λa=>by grind[bT],λa=>⟨⟨l,?_,?_⟩,λk=>by grind[bT],λk=>by grind[bT]⟩⟩
 ·unfold eG at a;obtain⟨r,b⟩:=γs.1 a;have:=xk (by omega) b;grind[cK]
 ·unfold eG at a;obtain⟨r,b⟩:=γs.1 a;simp only[cK,b,γ3];intro x i;have u:=AP (AM (j x (AL (by omega) b x i))).1;simp_all
def bF:List bC->Int
 |[]=>0
 |x::l=>x.value+bF l
def cB (p:cj) (c:List Int):Int:=if nW p=0 then bF (cK p c) else 0
theorem mv:∀{l m:List bC},bF (l++m)=bF l+bF m
 |[],m=>by simp[bF];|x::l,m=>by simp only[γM,bF,@mv l m];omega
theorem NN {l:List bC} {i:Int} (a:0<=i) (h:i<l.length):bF (l.take (i+1).toNat)=bF (l.take i.toNat)+(bN l i.toNat ew.bu.bw).value:=by
 rw[ji (d:=ew.bu.bw) a h,mv];simp[bF]
def Cb:NG:=⟨26,cj×List Int,.cons cV (.one (cO (.i .i64))),λa=>a.2.length<=9223372036854775807,λa=> .si .i64 (cB a.1 a.2)⟩
def WT (a:cj×List Int):Nat->bJ
 |6=> .inv Int (λi=>⟨[(5,.row .bu (cK a.1 a.2)),(7,.si .i64 (bF ((cK a.1 a.2).take i.toNat))),(8,.si .i64 i)],[.cells a.1.ss 27 20 false]⟩) (λs=>iS s 8)
  (λi=>0<=i/\i<=(cK a.1 a.2).length) (λi=>((cK a.1 a.2).length - i).toNat) λ_ _=> .look
 |_=> .look
theorem NM {p:cj} {c:List Int} (h:nW p=0):(cK p c).length<=160/\∀x∈cK p c,x∈p.bj:=by
 have d:=cL h;unfold cK;cases a:dA p.bj (-1) c with
 |none=>simp;|some r=>
  refine⟨?_,λx b=>AL (by omega) a x b⟩;have e:=xk (by omega) a;have f:=d.2.1;grind
theorem ot {p:cj} (a:Good p):∀{l:List bC},(∀x∈l,x∈p.bj)->0<=bF l/\bF l<=1000000*l.length
 |[],_=>by simp[bF];|x::l,h=>by
  have c:=a.2.2.2.2 x (h x (by simp));have d:=@ot p a l λy b=>h y (by simp[b]);grind[bF]
theorem Qp:Holds Tryz.prog Cb:=by
 refine bM (L:=M3) Cb WT Cg ?_;rintro⟨p,c⟩ (A:c.length<=9223372036854775807);refine NI (let g:=γj .i64;let h:=(0:Int);let t:=decide (nW p≠h);let k:=γC .i64 0;let v:=g (cB p c);let e:=γa ew.bu (cK p c);let f:=iZ.cells (cj.ss p) 27 20 false;let d:=(↑(cK p c).length:Int);let n:=(↑(cK p c).length:Int);True/\(t=true->k.bi v)/\(t=false->(c.length<=9223372036854775807/\p.bj.length<=1000)/\(((e.bi e/\k.bi (g (bF []))/\k.bi (g 0)/\True)/\f.bi f/\True)/\h<=h/\h<=d)/\∀(x:Int),let r:=bF (Δ x.toNat (cK p c));let s:=r+(bN (cK p c) x.toNat ew.bu.bw).value;let a:=x+(1:Int);let b:=g a;h<=x/\x<=d->(decide (x<n)=true->h<=x/\x<n/\x.toNat<(cK p c).length/\VL .i64 s/\VL .i64 a/\((e.bi e/\(g s).bi (g (bF (Δ a.toNat (cK p c))))/\b.bi b/\True)/\f.bi f/\True)/\(h<=a/\a<=d)/\(d - a).toNat<(d - x).toNat)/\(decide (x<n)=false->(g r).bi v))) (by kernel_rfl) ?_;simp only[vcs];refine⟨λh=>by simp[cB,h],λh=>⟨⟨A,by have:=(cL (γe.1 h)).2.1;omega⟩,⟨by simp[bF],by omega⟩,?_⟩⟩;have o:nW p=0:=γe.1 h;have u:=cL o;obtain⟨C,q⟩:=NM (c:=c) o;rintro i ⟨j,y⟩;refine⟨λm=>?_,λw=>?_⟩
 ·have B:=NN j m;have D:=ot u (l:=(cK p c).take i.toNat) λx g=>q x (γn g);have z:=ot u (l:=(cK p c).take (i+1).toNat) λx g=>q x (γn g);grind
 ·rw[show i.toNat=(cK p c).length from by omega,φ];grind[cB]
def bD:List Int->List Int->Int
 |[],[]=>0
 |[],_::_=> -1
 |_::_,[]=>1
 |a::l,b::m=>if a<b then -1 else if b<a then 1 else bD l m
def y_:NG:=⟨14,List Int×List Int,.cons (cO (.i .i64)) (.one (cO (.i .i64))),λa=>a.1.length<=1000000000000/\a.2.length<=1000000000000,λa=> .si .i64 (bD a.1 a.2)⟩
def WS (a:List Int×List Int):Nat->bJ
 |2=> .inv Int (λi=>⟨[(0,.row (.i .i64) a.1),(1,.row (.i .i64) a.2),(5,.si .i64 i)],[]⟩) (λs=>iS s 5)
  (λi=>0<=i/\i<=a.1.length/\i<=a.2.length/\bD a.1 a.2=bD (a.1.drop i.toNat) (a.2.drop i.toNat)) (λi=>(a.1.length - i).toNat) λ_ _=> .look
 |_=> .look
theorem I1:Holds Tryz.prog y_:=by
 refine bM (L:=[]) y_ WS (by simp) ?_;rintro⟨a,b⟩ ⟨w,u⟩;refine NI (let d:=(0:Int);let h:=γC .i64;let j:=γj .i64;let k:=(-1:Int);let q:=γa (ew.i .i64) a;let n:=γa (ew.i .i64) b;let t:=h 0;let m:=(↑a.length:Int);let r:=(↑b.length:Int);let e:=(↑a.length:Int);let f:=(↑b.length:Int);let g:=j (bD a b);(((q.bi q/\n.bi n/\t.bi (j 0)/\True)/\True)/\d<=d/\d<=m/\d<=r/\bD a b=bD a b)/\∀(x:Int),let o:=bN a x.toNat d;let p:=bN b x.toNat d;let c:=x+(1:Int);let l:=j c;d<=x/\x<=m/\x<=r/\bD a b=bD (γ4 x.toNat a) (γ4 x.toNat b)->(decide (x<e)=true->(decide (x<f)=true->d<=x/\x<e/\x.toNat<a.length/\d<=x/\x<f/\x.toNat<b.length/\(decide (o<p)=true->(h k).bi g)/\(decide (o<p)=false->d<=x/\x<e/\x.toNat<a.length/\d<=x/\x<f/\x.toNat<b.length/\(decide (p<o)=true->(h 1).bi g)/\(decide (p<o)=false->VL .i64 c/\((q.bi q/\n.bi n/\l.bi l/\True)/\True)/\(d<=c/\c<=m/\c<=r/\bD a b=bD (γ4 c.toNat a) (γ4 c.toNat b))/\(m - c).toNat<(m - x).toNat)))/\(decide (x<f)=false->(decide (e<f)=true->(h k).bi g)/\(decide (e<f)=false->(decide (f<e)=true->(h 1).bi g)/\(decide (f<e)=false->t.bi g))))/\(decide (x<e)=false->(decide (e<f)=true->(h k).bi g)/\(decide (e<f)=false->(decide (f<e)=true->(h 1).bi g)/\(decide (f<e)=false->t.bi g)))) (by kernel_rfl) ?_;conv=>zeta
 simp only at w u;simp only[vcs];refine⟨⟨by omega,by omega,by omega⟩,?_⟩;rintro i ⟨j,v,z,h⟩;refine⟨λs=>⟨λk=>?_,λk=>?_⟩,λs=>?_⟩
 ·rw[qu (d:=0) j s,qu (d:=0) j k] at h;simp only[bD] at h;omega
 ·rw[qu (d:=0) j s,show i.toNat=b.length from by omega,δE] at h;grind[bD]
 ·rw[show i.toNat=a.length from by omega,δE] at h;refine⟨λk=>?_,λk=>⟨λy=>by omega,λy=>?_⟩⟩
  ·rw[<-γk a.length,qu (d:=0) (by omega) k] at h;exact h.symm
  ·rw[show a.length=b.length from by omega,δE] at h;exact h.symm
def dx (l:List oz):oz:=⟨(l.map oz.a0).sum,(l.map oz.a1).sum,(l.map oz.a2).sum,(l.map oz.a3).sum,(l.map oz.a4).sum,(l.map oz.a5).sum⟩
def VJ (p:cj) (l:List Int):List bC:=l.map λi=>bN p.bj i.toNat ew.bu.bw
def fp (p:cj) (L:List bC):Prop:=(L.map bC.TM).Nodup/\(dx (L.map bC.bx)).le p.bm=true/\(dx (L.map (dT p))).le p.bs=true
instance (p:cj) (L:List bC):Decidable (fp p L):=by unfold fp;infer_instance
def jT (p:cj) (l:List Int):Bool:=decide (fp p (VJ p l))
def gC (a b:oz) (k:Int):oz:=⟨if 0<k then b.a0 else a.a0,if 1<k then b.a1 else a.a1,if 2<k then b.a2 else a.a2,if 3<k then b.a3 else a.a3,if 4<k then b.a4 else a.a4,if 5<k then b.a5 else a.a5⟩
def oz.add (a b:oz):oz:=⟨a.a0+b.a0,a.a1+b.a1,a.a2+b.a2,a.a3+b.a3,a.a4+b.a4,a.a5+b.a5⟩
theorem xV {l m:List oz}:dx (l++m)=(dx l).add (dx m):=by simp[dx,oz.add]
theorem xU {b:oz} {l:List oz}:dx (b::l)=b.add (dx l):=by simp[dx,oz.add]
def oz.bd (b:oz) (n:Int):Prop:=(0<=b.a0/\b.a0<=n)/\(0<=b.a1/\b.a1<=n)/\(0<=b.a2/\b.a2<=n)/\(0<=b.a3/\b.a3<=n)/\(0<=b.a4/\b.a4<=n)/\(0<=b.a5/\b.a5<=n)
theorem F3:∀{l:List oz},(∀b∈l,b.ok=true)->(dx l).bd (4*l.length)
 |[],_=>by simp[dx,oz.bd];|b::l,h=>by
  have e:=oz.gS.1 (h b (by simp));have d:=@F3 l λc a=>h c (by simp[a]);rw[xU];simp only[oz.bd,oz.add,γK] at d ⊢;omega
theorem WR {p:cj} {x:bC} (h:x.bx.ok=true):(dT p x).ok=true:=by
 have a:=oz.gS.1 h;rw[oz.gS];simp only[dT,Fh,oc];omega
theorem F2 {p:cj} (b:Good p) {l:List Int} (h:∀i∈l,0<=i/\i<p.bj.length):∀x∈VJ p l,x∈p.bj:=by
 intro x a;obtain⟨i,c,rfl⟩:=Γ.1 a;grind[cA]
def jS (p:cj) (i:Int):Int:=(bN p.bj i.toNat ew.bu.bw).value
def cu (a b:bB):bB:=if b.value<a.value\/a.value=b.value/\bD a.bn b.bn<0 then a else b
def jw (p:cj):Nat->Int->bB->bB->bB
 |0,_,_,b=>b
 |k+1,i,a,b=>jw p k (i+1) a (if jT p (a.bn++[i]) then jw p k (i+1) ⟨a.bn++[i],a.value+jS p i⟩ (cu ⟨a.bn++[i],a.value+jS p i⟩ b) else b)
def dg (p:cj) (i:Int):Nat:=(p.bj.length - i).toNat
def F1 (p:cj) (a:bB) (f:Int) (b:bB):bB:=jw p (dg p f) f a (cu a b)
def aS (s:bE) (id:Nat):bB:=match s.o[id]? with
 |some (.cells [r,v] _ _ _)=>⟨(iH (.i .i64) r).getD [],(v.int .i64).getD 0⟩
 |_=>⟨[],0⟩
theorem NL {L:List NG} {W:ku} (c:NG) (F:el) (Λ:Nat->bJ) (hW:mz Tryz.prog W) (hL:∀c∈L,Holds Tryz.prog c)
  (hF:fQ c.f=some F) (a:c.α) (hlen:(c.A.put a).length=F.params) (hfr:∀d,lj c.f L=some d->∀b,gL (c.A.put a)=gL (d.A.put b)->¬d.dom b)
  (h:Vc (oj (kr L W mi ml fQ) Λ F (c.A.put a) λv=>v.pY (c.res a))):fU Tryz.prog c.f=true/\jB Tryz.prog c.f (gL (c.A.put a)) [] (c.res a).G []:=by
 refine A0 (p:=kr L W mi ml fQ) (Λ:=Λ) (rM hW hL pU) (rL hW) (λ_ _ h=>h) hF ?_ hlen (λ_ h=>vd h) h.out;simp only[nQ,pW,Bool.false_eq_true,if_false];split
 ·rename_i d hd;have:tR (λa=>gL (d.A.put a)) d.dom (λa=>(d.res a).G) (gL (c.A.put a))=none:=by
   unfold tR;rw[dif_neg];rintro⟨b,h1,h2⟩;exact hfr d hd b h1 h2
  rw[this];rfl
 ·rfl
def M9 (p:cj):bB:=F1 p ⟨[],0⟩ 0 ⟨[],0⟩
def hasB (m b:Int):Bool:=decide (gd.asV .i64 (m / 2^b.toNat) 1=1)
def AJ (p:cj) (w:Int) (n:Nat):Int:=((ω n).map λi:Nat=>if(i:Int)≠w then(2:Int)^i else 0).sum
def ng (p:cj) (m:Int):cj:={p with bj:=p.bj.filter λx=>hasB m x.TM}
theorem F0 {p:cj} (h:Good p) (m:Int):Good (ng p m):=by
 refine⟨h.1,?_,h.2.2.1,h.2.2.2.1,λx a=>h.2.2.2.2 x (Ψ.1 a).1⟩;have:=List.length_filter_le (λx:bC=>hasB m x.TM) p.bj;have:=h.2.1;grind[ng]
def tI (p:cj) (m:Int):Int:=(M9 (ng p m)).value
theorem FZ {p:cj} {c:List Int} (e:bT p c=0):nW p=0/\eG p c=true/\Good p/\c.length<=160/\∀i∈c,0<=i/\i<p.bj.length:=by
 have b:nW p=0:=by
  unfold bT at e;omega
 have d:eG p c=true:=by
  unfold bT at e;grind
 have f:=cL b;obtain⟨r,g⟩:=γs.1 d;obtain⟨h,a⟩:=NO (by omega) g;refine⟨b,d,f,?_,a⟩;have k:=xk (by omega) g;have j:=f.2.1;grind
def FY (p:cj):Int:=AJ p (-1) p.bk.length
structure NK (p:cj) (fs:List Int) (l o:oz) (L:List bC):Prop where
 nd:(L.map bC.TM).Nodup
 mem:∀x∈L,x∈p.bj/\x.TM∈fs
 w:(dx (L.map bC.bx)).le l=true
 o:(dx (L.map (dT p))).le o=true
theorem Og {p:cj} {fs:List Int} {l o:oz}:∀{xs:List bC} {v:Int},v<=xs.foldl (nh p fs l o) v/\∀x∈xs,x.bx.le l=true->(dT p x).le o=true->x.value+jy p fs (l.sub x.bx) (o.sub (dT p x))<=xs.foldl (nh p fs l o) v
 |[],v=>by simp;|y::xs,v=>by
  obtain⟨b,e⟩:=@Og p fs l o xs (nh p fs l o v y);have d:v<=nh p fs l o v y:=by
   grind[nh]
  refine⟨by grind,λx a c f=>?_⟩;simp only[εb];rcases γq.1 a with rfl|a
  ·have:x.value+jy p fs (l.sub x.bx) (o.sub (dT p x))<=nh p fs l o v x:=by
    unfold nh;grind
   omega
  simp_all
theorem mT {p:cj} {fs:List Int} {l o:oz}:∀{xs:List bC} {v:Int},xs.foldl (nh p fs l o) v=v\/∃x∈xs,x.bx.le l=true/\(dT p x).le o=true/\xs.foldl (nh p fs l o) v=x.value+jy p fs (l.sub x.bx) (o.sub (dT p x))
 |[],v=>by simp;|y::xs,v=>by
  simp only[εb];rcases @mT p fs l o xs (nh p fs l o v y) with h|⟨x,d,a,c,b⟩
  ·rw[h];unfold nh;split<;>grind
  grind
theorem WQ {x:oz} {s t:List oz}:dx (s++x::t)=x.add (dx (s++t)):=by
 grind[xV,xU,oz.add]
theorem WO {x:bC} {s t:List bC}:bF (s++x::t)=x.value+bF (s++t):=by
 rw[mv,mv];grind[bF]
theorem Of {p:cj} (c:Good p) {L:List bC} (h:∀x∈L,x∈p.bj):(dx (L.map bC.bx)).bd (4*L.length)/\(dx (L.map (dT p))).bd (4*L.length):=by
 have e:∀x∈L,x.bx.ok=true:=λx d=>(c.2.2.2.2 x (h x d)).2.2.1;have a:=@F3 (L.map bC.bx) (λb f=>by grind);grind[F3,WR]
theorem Bf {p:cj} (e:Good p):∀{fs:List Int} {l o:oz} {L:List bC},NK p fs l o L->bF L<=jy p fs l o
 |[],l,o,L,h=>by
  have:L=[]:=by
   cases L with
   |nil=>rfl;|cons x L=>exact absurd (h.mem x (by simp)).2 (by simp)
  grind[bF,jy];|f::fs,l,o,L,h=>by
  obtain⟨D,B⟩:=@Og p fs l o (wH p f) (jy p fs l o);have b:jy p (f::fs) l o=(wH p f).foldl (nh p fs l o) (jy p fs l o):=rfl;rw[b];by_cases d:∃x∈L,x.TM=f
  ·obtain⟨x,d,m⟩:=d;obtain⟨s,t,rfl⟩:=List.append_of_mem d;obtain⟨u,c,w,j⟩:=h;have i:=c x d;have g:∀y∈s++t,y∈p.bj:=λy a=>(c y (by grind)).1;obtain⟨z,v⟩:=Of e g;rw[γb,ξ,WQ,oz.le_iff,<-γb] at w j;simp only[oz.add,oz.bd] at w j z v;have q:x.bx.le l=true:=by rw[oz.le_iff];omega
   have r:(dT p x).le o=true:=by rw[oz.le_iff];omega
   have A:=B x (Ψ.2 ⟨i.1,by simp[m]⟩) q r;rw[γb,ξ,List.nodup_append] at u;have n:∀y∈s++t,y.TM≠f:=λy a=>by
    rw[<-m];rcases γi.1 a with a|a;·simp_all
    simp_all
   have k:bF (s++t)<=jy p fs (l.sub x.bx) (o.sub (dT p x)):=Bf e
    {nd:=by
      grind
     mem:=λy a=>by
      grind
     w:=by grind[oz.le_iff,oz.sub]
     o:=by grind[oz.le_iff,oz.sub]};rw[WO];omega
  ·have:=Bf e (fs:=fs) (l:=l) (o:=o) (L:=L) ⟨h.nd,λy a=>by
    have C:=h.mem y a;simp_all,h.w,h.o⟩;omega
theorem Be {p:cj} (k:Good p):∀{fs:List Int} {l o:oz},fs.Nodup->oz.zero.le l=true->oz.zero.le o=true->∃L,NK p fs l o L/\bF L=jy p fs l o
 |[],l,o,_,g,e=>⟨[],⟨by simp,by simp,g,e⟩,rfl⟩
 |f::fs,l,o,r,g,e=>by
  have c:=γR.1 r;have d:jy p (f::fs) l o=(wH p f).foldl (nh p fs l o) (jy p fs l o):=rfl;rw[d];rcases @mT p fs l o (wH p f) (jy p fs l o) with h|⟨x,q,m,u,n⟩
  ·rw[h];obtain⟨L,a,j⟩:=Be k (l:=l) (o:=o) c.2 g e;exact⟨L,⟨a.nd,λy b=>⟨(a.mem y b).1,by simp[(a.mem y b).2]⟩,a.w,a.o⟩,j⟩
  ·rw[n];have z:=oz.le_iff.1 m;have A:=oz.le_iff.1 u;obtain⟨L,a,j⟩:=Be k (l:=l.sub x.bx) (o:=o.sub (dT p x)) c.2 (by grind[oz.le_iff,oz.zero,oz.sub]) (by grind[oz.le_iff,oz.zero,oz.sub]);have s:=Ψ.1 q;have i:x.TM=f:=by simp_all
   refine⟨x::L,⟨?_,?_,?_,?_⟩,by grind[bF]⟩
   ·rw[ξ,γR];refine⟨λt=>?_,a.nd⟩;obtain⟨y,b,v⟩:=Γ.1 t;exact c.1 (by rw[<-i,<-v];exact(a.mem y b).2)
   ·intro y b;rcases γq.1 b with rfl|b;·simp_all
    ·exact⟨(a.mem y b).1,by simp[(a.mem y b).2]⟩
   ·have:=oz.le_iff.1 a.w;grind[xU,oz.le_iff,oz.add,oz.sub]
   ·have:=oz.le_iff.1 a.o;grind[xU,oz.le_iff,oz.add,oz.sub]
theorem rH {p:cj} {l m:List Int}:VJ p (l++m)=VJ p l++VJ p m:=by simp[VJ]
theorem qt {p:cj} {i:Int} {l:List Int}:VJ p (i::l)=bN p.bj i.toNat ew.bu.bw::VJ p l:=rfl
def Bd (p:cj) (l:List Int):Prop:=∀i∈l,0<=i/\i<p.bj.length
theorem Bc {p:cj} (f:Good p) {L M:List bC} (c:∀x∈M,x∈p.bj) (h:fp p (L++M)):fp p L:=by
 obtain⟨e,d⟩:=Of f c;obtain⟨g,a,b⟩:=h;rw[γb,xV,oz.le_iff] at a b;simp only[oz.add,oz.bd] at a b e d;refine⟨?_,?_,?_⟩<;>grind[oz.le_iff]
theorem Oe {p:cj} (a:Good p) {l m:List Int} (b:Bd p m) (h:jT p (l++m)=true):jT p l=true:=by
 unfold jT at h ⊢;have h:=of_decide_eq_true h;rw[rH] at h;exact decide_eq_true (Bc a (F2 a b) h)
def kW (i:Int) (k:Nat) (t:List Int):Prop:=t.Pairwise (·<·)/\∀j∈t,i<=j/\j<i+k
theorem Od {a b:bB}:a.value<=(cu a b).value/\b.value<=(cu a b).value:=by
 grind[cu]
theorem Oc {a b:bB}:cu a b=a\/cu a b=b:=by
 grind[cu]
theorem xT {p:cj}:∀{k:Nat} {i:Int} {a b:bB},b.value<=(jw p k i a b).value
 |0,_,_,b=>by simp[jw];|k+1,i,a,b=>by
  simp only[jw];refine ζh ?_ xT;split;·exact ζh Od.2 xT
  ·omega
theorem FX {p:cj} (h:Good p):∀{k:Nat} {i:Int} {a b:bB} {t:List Int},0<=i->i+k<=p.bj.length->t≠[]->kW i k t->jT p (a.bn++t)=true->a.value+bF (VJ p t)<=(jw p k i a b).value
 |0,i,a,b,t,_,_,u,c,_=>by
  cases t with
  |nil=>simp_all;|cons j t=>
   have:=c.2 j (by simp);omega
 |k+1,i,a,b,t,w,x,u,c,s=>by
  cases t with
  |nil=>simp_all;|cons j t=>
   have v:=c.2 j (by simp);have q:=γr.1 c.1;simp only[jw];by_cases l:j=i
   ·subst l;have d:Bd p t:=λm e=>by
     have:=c.2 m (by simp[e]);omega
    have f:jT p (a.bn++[j]++t)=true:=by simp_all
    have g:jT p (a.bn++[j])=true:=Oe h d f;rw[if_pos g];refine ζh ?_ xT;rw[qt];simp only[bF];cases t with
    |nil=>
     refine ζh ?_ xT;refine ζh ?_ Od.1;simp[bF,VJ,jS];|cons o n=>
     have:=FX h (k:=k) (i:=j+1) (a:=⟨a.bn++[j],a.value+jS p j⟩) (b:=cu ⟨a.bn++[j],a.value+jS p j⟩ b) (t:=o::n) (by omega) (by omega) (by simp) ⟨q.2,λm e=>by
      have r:=c.2 m (List.mem_cons_of_mem _ e);grind⟩ f;grind[jS]
   ·exact FX h (by omega) (by omega) (by simp) ⟨c.1,λm e=>by
     have r:=c.2 m e;grind⟩ s
theorem FW {p:cj} (g:Good p):∀{k:Nat} {i:Int} {a b:bB},jw p k i a b=b\/∃t,t≠[]/\kW i k t/\jT p (a.bn++t)=true/\jw p k i a b=⟨a.bn++t,a.value+bF (VJ p t)⟩
 |0,i,a,b=> .inl rfl
 |k+1,i,a,b=>by
  have l:∀{t:List Int},kW (i+1) k t->kW i (k+1) t:=λh=>⟨h.1,λj c=>by have:=h.2 j c;omega⟩;simp only[jw];rcases @FW p g k (i+1) a (if jT p (a.bn++[i]) then jw p k (i+1) ⟨a.bn++[i],a.value+jS p i⟩ (cu ⟨a.bn++[i],a.value+jS p i⟩ b) else b) with h|⟨t,m,d,n,o⟩
  ·rw[h];split
   ·rename_i q;have e:(⟨a.bn++[i],a.value+jS p i⟩:bB)=⟨a.bn++[i],a.value+bF (VJ p [i])⟩:=by simp[bF,VJ,jS]
    have f:kW i (k+1) [i]:=⟨by simp,λj c=>by grind⟩;rcases @FW p g k (i+1) ⟨a.bn++[i],a.value+jS p i⟩ (cu ⟨a.bn++[i],a.value+jS p i⟩ b) with h|⟨t,m,d,n,o⟩;·grind[Oc]
    ·refine .inr ⟨i::t,by simp,⟨γr.2 ⟨λj c=>by have:=d.2 j c;omega,d.1⟩,λj c=>?_⟩,by simp_all,?_⟩
     ·rcases γq.1 c with rfl|c;·omega
      ·have:=d.2 j c;omega
     grind[qt,bF,jS]
   simp_all
  grind
theorem Bb {p:cj}:∀{c:List Int} {s:Int},c.foldl (Fg p) s=s+bF (VJ p c)
 |[],s=>by simp[VJ,bF];|i::c,s=>by
  rw[εb,Bb,qt];grind[bF,Fg]
theorem Ba {p:cj}:∀{c:List Int} {a:Int} {r:List bC},dA p.bj a c=some r->r=VJ p c
 |[],a,r,h=>by simp[dA] at h;subst h;rfl;|i::c,a,r,h=>by
  simp only[dA] at h;split at h;·cases h
  ·obtain⟨d,b,rfl⟩:=Option.map_eq_some_iff.1 h;rw[Ba b,qt]
theorem WN {p:cj} {c:List Int} (b:bT p c=0):cB p c=xW p c:=by
 obtain⟨a,d,g,f,e⟩:=FZ b;obtain⟨r,h⟩:=γs.1 d;unfold cB xW;rw[if_pos a,Bb];grind[cK,Ba]
theorem Ob {p:cj} {x:bC} (b:0<=x.TM) (a:x.TM<p.bk.length):dz p x.TM x=1:=by
 unfold dz;omega
theorem sum_cons {p:cj} {x:bC} {L:List bC} {r:Int}:bZ p (x::L) r=dz p r x+bZ p L r:=by simp[bZ]
theorem Oa {p:cj} {r:Int}:∀{L:List bC},(∀x∈L,x.bx.ok=true)->(∃x∈L,x.TM=r/\0<=r/\r<p.bk.length)->1<=bZ p L r
 |[],_,h=>by simp_all;|y::L,a,⟨x,c,e,f,d⟩=>by
  have g:=@nO p r y (a y (by simp));have i:=@qv p r L λz b=>a z (by simp[b]);rw[sum_cons];rcases γq.1 c with rfl|c;·grind[Ob]
  ·have:=@Oa p r L (λz b=>a z (by simp[b])) ⟨x,c,e,f,d⟩;omega
theorem N_ {p:cj}:∀{L:List bC},(∀x∈L,x.bx.ok=true/\0<=x.TM/\x.TM<p.bk.length)->(∀r:Int,0<=r->r<p.bk.length->bZ p L r<=1)->(L.map bC.TM).Nodup
 |[],_,_=>by simp;|x::L,e,f=>by
  have a:=e x (by simp);rw[ξ,γR];have d:∀r:Int,0<=r->r<p.bk.length->bZ p L r<=1:=λr j b=>by
   have:=f r j b;have:=@nO p r x a.1;grind[sum_cons]
  refine⟨λg=>?_,N_ (λy c=>e y (by simp[c])) d⟩;obtain⟨y,c,h⟩:=Γ.1 g;have b:=f x.TM a.2.1 a.2.2;have k:=@Oa p x.TM L (λz i=>(e z (by simp[i])).1) ⟨y,c,h,a.2.1,a.2.2⟩;rw[sum_cons,Ob a.2.1 a.2.2] at b;omega
theorem WM {p:cj} {c:List Int} (e:bT p c=0):((VJ p c).map bC.TM).Nodup:=by
 obtain⟨j,f,a,m,h⟩:=FZ e;obtain⟨r,l⟩:=γs.1 f;have n:cK p c=VJ p c:=by grind[cK,Ba]
 have d:fi p (VJ p c)=true:=by
  simp_all[bT]
 refine N_ (p:=p) (λx g=>?_) λr o i=>?_
 ·have:=a.2.2.2.2 x (F2 a h x g);simp_all
 ·have b:=ni.1 d r.toNat (by grind[cq]);rw[show((r.toNat:Nat):Int)=r by omega] at b;have k:cC p r=1:=by unfold cC;omega
  omega
theorem FU {p:cj}:M9 p=jw p p.bj.length 0 ⟨[],0⟩ ⟨[],0⟩:=by
 grind[dg,M9,F1,Oc]
theorem xS {p:cj} (f:Good p) {t:List Int} (e:kW 0 p.bj.length t) (d:jT p t=true):bF (VJ p t)<=(M9 p).value:=by
 rw[FU];by_cases c:t=[]
 ·subst c;exact xT
 ·have:=FX f (k:=p.bj.length) (i:=0) (a:=⟨[],0⟩) (b:=⟨[],0⟩) (t:=t) (by omega) (by omega) c e d;simp_all
theorem N9 {p:cj} (a:Good p):jT p []=true:=by
 have b:=oz.gS.1 a.2.2.1;have c:=oz.gS.1 a.2.2.2.1;unfold jT;refine decide_eq_true ⟨by simp[VJ],?_,?_⟩;all_goals simp_all[oz.le_iff,VJ,dx]
theorem FT {p:cj} (a:Good p):∃t,kW 0 p.bj.length t/\jT p t=true/\M9 p=⟨t,bF (VJ p t)⟩:=by
 rw[FU];rcases @FW p a p.bj.length 0 ⟨[],0⟩ ⟨[],0⟩ with h|⟨t,b,e,c,d⟩;·exact⟨[],⟨by simp,by simp⟩,N9 a,by rw[h];rfl⟩
 grind
def N8:Bool:=(ω 256).all λm=>[0,1,2,3,4,5,6,7].all λb:Int=>hasB m b==decide (b∈pT m)
theorem WL:N8=true:=by kernel_rfl
theorem FS {m b:Int} (e:0<=m) (a:m<256) (c:0<=b) (d:b<8):hasB m b=decide (b∈pT m):=by
 have h:=WL;simp only[N8,ψ,γD] at h;have h:=h m.toNat (by omega) b (by
  have:b=0\/b=1\/b=2\/b=3\/b=4\/b=5\/b=6\/b=7:=by omega
  simp_all);grind
theorem WK {p:cj} {t:List Int} (h:kW 0 p.bj.length t):Bd p t:=λj a=>by
 have:=h.2 j a;omega
theorem WJ {p:cj} (b:Good p) {m:Int} (j:0<=m) (e:m<256):tI p m<=jy p (pT m) p.bm p.bs:=by
 obtain⟨t,i,f,g⟩:=FT (F0 b m);unfold tI;rw[g];have d:=of_decide_eq_true f;refine Bf b ⟨d.1,λx h=>?_,d.2.1,d.2.2⟩;have c:=F2 (F0 b m) (WK i) x h;have a:=Ψ.1 c;have k:=b.2.2.2.2 x a.1;have l:=b.1;refine⟨a.1,?_⟩;have:=FS j e k.1 (by omega);simp_all
theorem MG {L M:List bC} (h:L.Perm M):bF L=bF M:=by
 induction h<;>grind[bF,swap,trans]
theorem Xj {L M:List oz} (h:L.Perm M):dx L=dx M:=by
 induction h<;>grind[xU,swap,oz.add,oz.mk.injEq,trans]
theorem A_ {p:cj} {L M:List bC} (h:L.Perm M) (b:fp p L):fp p M:=by
 obtain⟨a,c,d⟩:=b;refine⟨((h.map _).nodup_iff).1 a,?_,?_⟩<;>grind[Xj]
theorem FQ (q:bC->Bool):∀(O a:List bC),∃t:List Int,t.Pairwise (·<·)/\(∀j∈t,(a.length:Int)<=j/\j<a.length+O.length)/\(t.map λj=>bN (a++O) j.toNat ew.bu.bw)=O.filter q
 |[],a=>⟨[],by simp,by simp,by simp⟩
 |x::O,a=>by
  obtain⟨t,c,g,d⟩:=FQ q O (a++[x]);have e:a++[x]++O=a++x::O:=by simp
  rw[e] at d;have h:((a++[x]).length:Int)=a.length+1:=by simp
  have f:∀j∈t,(a.length:Int)+1<=j/\j<a.length+1+O.length:=λj b=>by
   simp_all
  by_cases i:q x=true
  ·refine⟨(a.length:Int)::t,γr.2 ⟨λj b=>by grind,c⟩,λj b=>?_,?_⟩;·grind
   simp_all[bV]
  grind
theorem A9 {p:cj}:∀{l:List bC} {a:List mI},h_ p a l=0->(l.map bC.key).Nodup/\∀x∈l,x.key∉a
 |[],_,_=>by simp;|o::r,a,h=>by
  simp only[h_] at h;split at h;·omega
  ·split at h;·cases h
   ·rename_i d b;obtain⟨c,e⟩:=A9 h;simp_all
theorem A8 {a b:Type} (f:a->b):∀{l:List a},(l.map f).Nodup->l.Nodup
 |[],_=>by simp;|x::l,h=>by
  rw[ξ,γR] at h;exact γR.2 ⟨λc=>h.1 (List.mem_map_of_mem c),A8 f h.2⟩
theorem MF {p:cj} (h:nW p=0):p.bj.Nodup:=by
 unfold nW at h;split at h;·omega
 ·exact A8 _ (A9 h).1
theorem ME (m:Int):(pT m).Nodup:=by
 unfold pT;exact ζ0 γo (by decide)
theorem Xi {p:cj} (f:nW p=0) {m:Int} (D:0<=m) (u:m<256):jy p (pT m) p.bm p.bs<=tI p m:=by
 have b:=cL f;have A:=oz.gS.1 b.2.2.1;have y:=oz.gS.1 b.2.2.2.1;obtain⟨L,c,h⟩:=Be b (ME m) (l:=p.bm) (o:=p.bs) (by grind[oz.le_iff,oz.zero]) (by grind[oz.le_iff,oz.zero]);obtain⟨t,n,B,g⟩:=FQ (λx=>decide (x∈L)) (ng p m).bj [];have i:VJ (ng p m) t=(ng p m).bj.filter λx=>decide (x∈L):=g;have q:∀x∈L,x∈(ng p m).bj:=λx s=>by
  have d:=c.mem x s;have C:=b.2.2.2.2 x d.1;have v:=b.1;refine Ψ.2 ⟨d.1,?_⟩;grind[FS]
 have e:((ng p m).bj.filter λx=>decide (x∈L)).Nodup:=ζ0 (List.Sublist.trans γo γo) (MF f);have a:L.Perm (VJ (ng p m) t):=by
  rw[i];refine(List.perm_ext_iff_of_nodup (A8 _ c.nd) e).2 λx=>?_;simp_all
 have k:fp (ng p m) L:=⟨c.nd,c.w,c.o⟩;have r:jT (ng p m) t=true:=decide_eq_true (A_ a k);have:=xS (F0 b m) ⟨n,λj z=>by simp_all⟩ r;rw[<-MG a,h] at this;exact this
theorem Xh {p:cj} (d:nW p=0) {m:Int} (e:0<=m) (c:m<256):tI p m=jy p (pT m) p.bm p.bs:=by
 have a:=WJ (cL d) e c;have b:=Xi d e c;omega
theorem Xg {p:cj} (a:nW p=0) {m:Int} (c:0<=m) (d:m<2^p.bk.length):pI p m=tI p m:=by
 have b:AK p m=0:=by
  simp_all[AK]
 have e:=xX (cL a).1;unfold pI;rw[if_pos b,Xh a c (by omega)];rfl
def MD:Bool:=(ω 9).all λn=>decide (AJ cj.zero (-1) n=2^n - 1)&&(ω n).all λb=>decide (AJ cj.zero b n=W3 (2^n - 1) b)
theorem Xf:MD=true:=by kernel_rfl
theorem MC {p:cj} (h:p.bk.length<=8):AJ p (-1) p.bk.length=allM p:=by
 have a:=Xf;simp only[MD,ψ,γD,Bool.and_eq_true,decide_eq_true_eq] at a;exact(a p.bk.length (by omega)).1
theorem Xe {p:cj} (b:nW p=0):pI p (allM p)=tI p (FY p):=by
 have a:=cL b;have c:=xX a.1;unfold FY;rw[MC a.1];grind[Xg,allM]
def oz.at (b:oz) (k:Nat):Int:=bN [b.a0,b.a1,b.a2,b.a3,b.a4,b.a5] k 0
theorem A7 {a b:oz} (h:a.le b=true) (k:Nat):a.at k<=b.at k:=by
 grind[oz.le_iff,oz.at,bN]
theorem lN (k:Nat):∀(l:List oz),(dx l).at k=(l.map λb=>b.at k).sum:=by
 intro l;unfold oz.at dx;match k with
 |0|1|2|3|4|5=>simp only[bN,List.getElem?_cons_zero,γS,γ3];|k+6=>
  simp only[bN,γS,List.getElem?_nil,Option.getD_none];induction l<;>grind
theorem MB {p:cj} {x:bC} {k:Nat} (a:k<6):dz p (p.bk.length+k) x=x.bx.at k:=by
 unfold dz;rw[if_neg (by omega),if_pos (by omega),show((p.bk.length:Int)+k - p.bk.length).toNat=k by omega];rfl
theorem MA {p:cj} {x:bC} {k:Nat} (a:k<6):dz p (p.bk.length+6+k) x=(dT p x).at k:=by
 unfold dz;rw[if_neg (by omega),if_neg (by omega),show((p.bk.length:Int)+6+k - p.bk.length - 6).toNat=k by omega];have:k=0\/k=1\/k=2\/k=3\/k=4\/k=5:=by omega
 rcases this with rfl|rfl|rfl|rfl|rfl|rfl<;>simp[dT,Fh,oc,kn,oz.at,bN]
theorem Mz {p:cj} {k:Nat} (a:k<6):cC p (p.bk.length+k)=p.bm.at k:=by
 unfold cC;rw[if_neg (by omega),if_pos (by omega),show((p.bk.length:Int)+k - p.bk.length).toNat=k by omega];rfl
theorem My {p:cj} {k:Nat} (a:k<6):cC p (p.bk.length+6+k)=p.bs.at k:=by
 unfold cC;rw[if_neg (by omega),if_neg (by omega),show((p.bk.length:Int)+6+k - p.bk.length - 6).toNat=k by omega];rfl
theorem Mx {p:cj} {r:Int} (a:0<=r) (b:r<p.bk.length):∀{L:List bC},(L.map bC.TM).Nodup->bZ p L r<=1/\(r∉L.map bC.TM->bZ p L r=0)
 |[],_=>by simp[bZ];|x::L,h=>by
  rw[ξ,γR] at h;obtain⟨d,e⟩:=Mx a b h.2;have c:dz p r x=if x.TM=r then 1 else 0:=by unfold dz;omega
  rw[sum_cons,c];grind
theorem Mw {p:cj} {L:List bC} (h:fp p L):fi p L=true:=by
 obtain⟨j,i,f⟩:=h;refine ni.2 λr g=>?_;unfold cq at g;by_cases l:r<p.bk.length
 ·have:=(Mx (p:=p) (r:=r) (by omega) (by omega) j).1;have d:cC p r=1:=by unfold cC;omega
  omega
 by_cases d:r<p.bk.length+6
 ·obtain⟨k,rfl⟩:∃k:Nat,r=p.bk.length+k:=⟨r - p.bk.length,by omega⟩;have c:k<6:=by omega
  have e:(((p.bk.length+k:Nat)):Int)=p.bk.length+k:=by omega
  rw[e,Mz c];have a:=A7 i k;rw[lN,γP] at a;have:bZ p L (p.bk.length+k)=(L.map ((λb=>oz.at b k)∘bC.bx)).sum:=by
   unfold bZ;congr 1;simp_all[MB]
  omega
 ·obtain⟨k,rfl⟩:∃k:Nat,r=p.bk.length+6+k:=⟨r - p.bk.length - 6,by omega⟩;have c:k<6:=by omega
  have e:(((p.bk.length+6+k:Nat)):Int)=p.bk.length+6+k:=by omega
  rw[e,My c];have a:=A7 f k;rw[lN,γP] at a;have:bZ p L (p.bk.length+6+k)=(L.map ((λb=>oz.at b k)∘dT p)).sum:=by
   unfold bZ;congr 1;simp_all[MA]
  omega
theorem Mv {l:List bC}:∀{t:List Int} {a:Int},t.Pairwise (·<·)->(∀j∈t,a<j/\j<l.length)->dA l a t=some (t.map λi=>bN l i.toNat ew.bu.bw)
 |[],_,_,_=>rfl
 |i::t,a,h,d=>by
  have e:=d i (by simp);have c:=γr.1 h;unfold dA;rw[if_neg (by omega),Mv c.2 λj b=>⟨c.1 j b,(d j (by simp[b])).2⟩];rfl
theorem Mu {p:cj} (e:nW p=0) {t:List Int} (a:kW 0 p.bj.length t) (c:fp p (VJ p t)):bT p t=0:=by
 have d:dA p.bj (-1) t=some (VJ p t):=Mv a.1 λj b=>by have:=a.2 j b;omega
 simp_all[bT,eG,cK,Mw]
def Mt:Bool:=(ω 9).all λn=>(ω n).all λb=>hasB (2^n - 1) b
theorem Xd:Mt=true:=by kernel_rfl
theorem Ms {p:cj} (a:Good p) {b:Int} (d:0<=b) (c:b<p.bk.length):hasB (allM p) b=true:=by
 have h:=Xd;simp only[Mt,ψ,γD] at h;have:=h p.bk.length (by have:=a.1;omega) b.toNat (by omega);rwa [show((b.toNat:Nat):Int)=b by omega] at this
theorem Xc {p:cj} (a:Good p):ng p (allM p)=p:=by
 unfold ng;rw[List.filter_eq_self.2 λx b=>Ms a (a.2.2.2.2 x b).1 (a.2.2.2.2 x b).2.1]
theorem zD {p:cj} (b:nW p=0):pI p (allM p)=(M9 p).value:=by
 have a:=cL b;rw[Xe b];unfold FY tI;rw[MC a.1,Xc a]
theorem Mr {p:cj} (a:nW p=0):NP p (M9 p).bn=0/\fp p (VJ p (M9 p).bn)/\kW 0 p.bj.length (M9 p).bn/\(M9 p).value=bF (VJ p (M9 p).bn):=by
 have d:=cL a;obtain⟨t,b,e,h⟩:=FT d;have c:fp p (VJ p t):=of_decide_eq_true e;have g:=Mu a b c;have f:=zD a;simp_all[NP,xW,Bb]
theorem Xb {p:cj} (d:Good p) {x:Int} (a:0<=x) (c:x<p.bk.length):x∈pT (allM p):=by
 have e:=d.1;have f:=xX e;have:=FS (m:=allM p) (b:=x) (by grind[allM]) (by grind[allM]) a (by omega);simp_all[Ms]
theorem Mq {p:cj} (b:nW p=0) {m:Int} (c:0<=m) (a:m<2^p.bk.length):pI p m=jy p (pT m) p.bm p.bs:=by
 unfold pI;rw[if_pos];·rfl
 simp_all[AK]
theorem FP:∀l:List Int,bD l l=0
 |[]=>rfl
 |a::l=>by
  simp only[bD,if_neg (Int.lt_irrefl a)];exact FP l
theorem FO:∀{a b:List Int},bD a b=0->a=b
 |[],[],_=>rfl
 |[],_::_,h=>by grind[bD];|_::_,[],h=>by grind[bD];|x::a,y::b,h=>by
  simp only[bD] at h;split at h;·simp at h
  ·split at h;·simp at h
   ·rw[FO h,show x=y by omega]
theorem FN:∀{a b:List Int},bD a b<0↔0<bD b a
 |[],[]=>by simp[bD];|[],_::_=>by simp[bD];|_::_,[]=>by simp[bD];|x::a,y::b=>by
  simp only[bD];by_cases c:x<y;·omega
  ·by_cases d:y<x;·omega
   ·rw[if_neg c,if_neg d,if_neg d,if_neg c];exact FN
theorem Mp:∀{a b c:List Int},bD a b<0->bD b c<0->bD a c<0
 |[],[],_,h,_=>by omega;|_::_,[],_,h,_=>by grind[bD];|[],_::_,[],_,h=>by grind[bD];|[],_::_,_::_,_,_=>by simp[bD];|_::_,_::_,[],_,h=>by grind[bD];|x::a,y::b,z::c,h,k=>by
  simp only[bD] at h k ⊢;by_cases g:x<y;·omega
  ·rw[if_neg g] at h;by_cases e:y<x;·omega
   ·rw[if_neg e] at h;by_cases f:y<z;·omega
    ·rw[if_neg f] at k;by_cases d:z<y;·omega
     ·rw[if_neg d] at k;rw[if_neg (by omega),if_neg (by omega)];exact Mp h k
def lh (a b:bB):Prop:=b.value<a.value\/a.value=b.value/\bD a.bn b.bn<0
theorem Mo {a b c:bB} (h:lh a b) (k:lh b c):lh a c:=by
 rcases h with h|⟨g,e⟩
 ·rcases k with k|⟨f,_⟩;·left;omega
  ·left;omega
 ·rcases k with k|⟨f,d⟩;·left;omega
  ·exact .inr ⟨by omega,Mp e d⟩
theorem zC {a:bB}:¬lh a a:=by
 rintro(h|⟨_,h⟩)<;>grind[FP]
theorem Xa {a b:bB} (h:¬lh a b) (k:¬lh b a):a=b:=by
 obtain⟨l,v⟩:=a;obtain⟨m,w⟩:=b;simp only[lh,not_or,not_and] at h k;have d:v=w:=by omega
 subst d;have e:=h.2 rfl;have c:=k.2 rfl;have:=mt FN.2 c;grind[FO]
def mu (a:List Int):Nat->Nat
 |0=>0
 |n+1=>if bN a n 0=0 then mu a n else n+1
def IL (a:List Int):List Int:=a.take (mu a a.length)
def pH:NG:=⟨168,List Int,.one (cO (.i .u32)),λa=>a.length<=1000000000000,λa=> .row (.i .u32) (IL a)⟩
def VD (a:List Int):Nat->bJ
 |2=> .inv Int (λn=>⟨[(0,.row (.i .u32) a),(3,.si .i64 n)],[]⟩) (λs=>iS s 3) (λn=>0<=n/\n<=a.length/\mu a n.toNat=mu a a.length) (λn=>n.toNat) λ_ _=> .look
 |_=> .look
theorem kX:Holds Tryz.prog pH:=by
 refine bM (L:=[]) pH VD (by simp) ?_;intro(a:List Int) (h:a.length<=1000000000000);refine NI (let e:=(0:Int);let f:=γa;let c:=ew.i .u32;let d:=(↑a.length:Int);let l:=γj .i64 d;let g:=(↑a.length:Int);let j:=mu a a.length;((((f c a).bi (f c a)/\l.bi l/\True)/\True)/\e<=d/\d<=g/\mu a d.toNat=j)/\∀(x:Int),let r:=decide (e<x);let b:=x - (1:Int);let o:=decide (bN a b.toNat e=e);let k:=γj .i64 b;e<=x/\x<=g/\mu a x.toNat=j->(r=true->VL .i64 b/\e<=b/\b<d/\b.toNat<a.length/\(o=true->VL .i64 b/\(((f c a).bi (f c a)/\k.bi k/\True)/\True)/\(e<=b/\b<=g/\mu a b.toNat=j)/\b.toNat<x.toNat)/\(o=false->e<=x/\e<=x/\0<=x.toNat/\x.toNat<=x.toNat/\x.toNat<=a.length/\(f c (Δ (x.toNat - 0) a)).bi (f c (IL a))))/\(r=false->e<=x/\e<=x/\0<=x.toNat/\x.toNat<=x.toNat/\x.toNat<=a.length/\(f c (Δ (x.toNat - 0) a)).bi (f c (IL a)))) (by kernel_rfl) ?_;simp only[vcs];refine⟨⟨by omega,by omega,by simp⟩,?_⟩;rintro n ⟨f,t,q⟩;have e:(n.toNat=0\/0<n.toNat/\¬bN a (n.toNat - 1) 0=0)->Δ (n.toNat - 0) a=IL a:=λh=>by
  unfold IL;rw[<-q];congr 1;rcases h with h|h;·rw[h];rfl
  ·obtain⟨v,h⟩:=h;obtain⟨m,u⟩:∃m,n.toNat=m+1:=⟨n.toNat - 1,by omega⟩;simp_all[mu]
 refine⟨λs=>⟨by omega,by omega,by omega,by omega,λp=>⟨by omega,⟨by omega,by omega,?_⟩,by omega⟩,λp=>⟨f,f,by omega,by omega,by omega,?_⟩⟩,λs=>⟨f,f,by omega,by omega,by omega,e (.inl (by omega))⟩⟩
 ·rw[<-q,show n.toNat=(n - 1).toNat+1 by omega];rw[mu,if_pos p]
 simp_all
def bX:List Int->Int
 |[]=>0
 |d::l=>d+4294967296*bX l
def ou (a:List Int):Prop:=∀d∈a,0<=d/\d<4294967296
def fe:List Int->Prop
 |[]=>True
 |d::l=>(l=[]->d≠0)/\fe l
theorem iF {d:Int} {l:List Int}:ou (d::l)↔(0<=d/\d<4294967296)/\ou l:=by simp[ou]
theorem lM {a:List Int} (h:ou a) (n:Nat):ou (a.take n):=λd b=>h d (γn b)
theorem ek:∀{a:List Int},ou a->0<=bX a
 |[],_=>Int.le_refl _
 |d::l,h=>by
  obtain⟨c,b⟩:=iF.1 h;have:=ek b;grind[bX]
theorem val_zero:∀{a:List Int},ou a->fe a->bX a=0->a=[]
 |[],_,_,_=>rfl
 |d::l,h,b,f=>by
  obtain⟨g,c⟩:=iF.1 h;have:=ek c;simp only[bX] at f;have e:=val_zero c b.2 (by omega);have:=b.1 e;omega
theorem val_inj:∀{a b:List Int},ou a->ou b->fe a->fe b->bX a=bX b->a=b
 |[],b,_,i,_,c,h=>(val_zero i c h.symm).symm
 |d::l,[],f,_,g,_,h=>val_zero f g h
 |d::l,e::m,f,i,g,c,h=>by
  obtain⟨p,j⟩:=iF.1 f;obtain⟨s,k⟩:=iF.1 i;have r:=ek j;have q:=ek k;simp only[bX] at h;have n:d=e:=by omega
  have o:bX l=bX m:=by omega
  rw[n,val_inj j k g.2 c.2 o]
theorem vP:∀{a:List Int} {x:Int},bX (a++[x])=bX a+4294967296^a.length*x
 |[],x=>by simp[bX];|d::l,x=>by
  simp only[γM,bX,vP,γK,γW,εy];grind
theorem FM:∀{a:List Int} {x:Int},x≠0->fe (a++[x])
 |[],x,h=>⟨λ_=>h,trivial⟩
 |d::l,x,h=>⟨λb=>by simp at b,FM h⟩
theorem zB {a:List Int} {n:Nat} (h:n<a.length):a.take (n+1)=a.take n++[bN a n 0]:=by
 simp_all[bV]
theorem Mn {a:List Int}:∀{n:Nat},n<=a.length->bX (a.take (mu a n))=bX (a.take n)/\fe (a.take (mu a n))
 |0,_=>by simp[mu,fe];|n+1,h=>by
  obtain⟨d,b⟩:=@Mn a n (by omega);have c:=zB (show n<a.length by omega);unfold mu;grind[vP,FM]
theorem pG {a:List Int}:bX (IL a)=bX a/\fe (IL a):=by
 have:=@Mn a a.length (π _);rw[φ] at this;exact this
theorem qs {a:List Int} (h:ou a):ou (IL a):=lM h _
theorem rG {a:List Int}:(IL a).length<=a.length:=by grind[IL]
def tH:Nat->Int->List Int
 |0,_=>[]
 |k+1,n=>if n<=0 then[] else(n % 4294967296)::tH k (n / 4294967296)
def bU (n:Int):List Int:=tH n.toNat n
theorem Mm:∀{k:Nat} {n:Int},0<=n->n.toNat<=k->bX (tH k n)=n/\ou (tH k n)/\fe (tH k n)
 |0,n,b,h=>by
  have:n=0:=by omega
  subst this;exact⟨rfl,by simp[tH,ou],trivial⟩;|k+1,n,b,h=>by
  unfold tH;split
  ·have:n=0:=by omega
   subst this;exact⟨rfl,by simp[ou],trivial⟩
  ·obtain⟨d,a,c⟩:=@Mm k (n / 4294967296) (by omega) (by omega);refine⟨by grind[bX],iF.2 ⟨by omega,a⟩,λe f=>?_,c⟩;grind[bX]
theorem fo {n:Int} (h:0<=n):bX (bU n)=n/\ou (bU n)/\fe (bU n):=Mm h (π _)
theorem xR {a:List Int} (h:ou a) (b:fe a):bU (bX a)=a:=by
 grind[fo,ek,val_inj]
theorem oq {a:List Int} (h:ou a):IL a=bU (bX a):=by
 grind[pG,xR,qs]
theorem mQ:∀{a:List Int},ou a->bX a<4294967296^a.length
 |[],_=>by simp[bX];|d::l,h=>by
  obtain⟨c,b⟩:=iF.1 h;have:=mQ b;grind[bX]
theorem vO:∀{a b:List Int},ou a->ou b->fe b->a.length<b.length->bX a<bX b
 |[],b,_,c,f,h=>by
  have n:=ek c;grind[bX,val_zero];|d::l,[],_,_,_,h=>by simp at h;|d::l,e::m,g,c,f,h=>by
  obtain⟨k,j⟩:=iF.1 g;obtain⟨o,i⟩:=iF.1 c;simp only[γK] at h;have:=vO j i f.2 (by omega);grind[bX]
theorem FL:∀{k:Nat} {a b:List Int},ou a->ou b->k<a.length->k<b.length->a.drop (k+1)=b.drop (k+1)->bN a k 0<bN b k 0->bX a<bX b
 |_,[],_,_,_,h,_,_,_=>by simp at h;|_,_::_,[],_,_,_,h,_,_=>by simp at h;|0,d::l,e::m,f,g,_,_,h,c=>by
  grind[bN,bX];|k+1,d::l,e::m,f,g,n,q,h,c=>by
  obtain⟨p,j⟩:=iF.1 f;obtain⟨o,i⟩:=iF.1 g;simp only[List.drop_succ_cons] at h;simp only[bN,γS] at c;have:=FL (k:=k) j i (by simp_all) (by simp_all) h c;grind[bX]
theorem zA {a:List Int} {k:Nat} (h:k<a.length):a.drop k=bN a k 0::a.drop (k+1):=by simp_all[bV]
def kV (x y:Int):Int:=if x<y then -1 else if y<x then 1 else 0
def vN:NG:=⟨140,List Int×List Int,.cons (cO (.i .u32)) (.one (cO (.i .u32))),λa=>(ou a.1/\ou a.2)/\a.1.length<=1000000000000/\a.2.length<=1000000000000,λa=> .si .i64 (kV (bX a.1) (bX a.2))⟩
def VC (a:List Int×List Int):Nat->bJ
 |7=> .inv Int (λi=>⟨[(0,.row (.i .u32) (IL a.1)),(1,.row (.i .u32) (IL a.2)),(22,.si .i64 (IL a.1).length),(23,.si .i64 i)],[]⟩) (λs=>iS s 23)
  (λi=>0<=i/\i<=(IL a.1).length/\(IL a.1).drop ((IL a.1).length - i.toNat)=(IL a.2).drop ((IL a.1).length - i.toNat)) (λi=>((IL a.1).length - i).toNat) λ_ _=> .look
 |_=> .look
theorem qV:Holds Tryz.prog vN:=by
 refine bM (L:=[pH]) vN VC (by grind[kX]) ?_;rintro⟨a,b⟩ ⟨⟨H,J⟩,r,q⟩;simp only at H J r q;refine NI (let h:=(0:Int);let m:=γj .i64;let q:=γC .i64;let r:=VL .i64;let E:Nat:=(IL a).length;let j:=(↑E:Int);let B:Nat:=(IL b).length;let n:=(↑B:Int);let u:=m (kV (bX a) (bX b));let y:=γa (ew.i .u32) (IL a);let v:=γa (ew.i .u32) (IL b);let l:Nat:=(IL a).length;let k:=(↑l:Int);let C:=m k;let o:=q 0;let c:=j - (1:Int);a.length<=1000000000000/\b.length<=1000000000000/\(decide (j≠n)=true->(decide (j<n)=true->(q (-1:Int)).bi u)/\(decide (j<n)=false->(q 1).bi u))/\(decide (j≠n)=false->(((y.bi y/\v.bi v/\(m j).bi C/\o.bi (m 0)/\True)/\True)/\h<=h/\h<=k/\γ4 (l - 0) (IL a)=γ4 (l - 0) (IL b))/\∀(x:Int),let e:=(c - x).toNat;let f:=bN (IL a) e h;let g:=bN (IL b) e h;let d:=x+(1:Int);let p:=m d;h<=x/\x<=k/\γ4 (l - x.toNat) (IL a)=γ4 (l - x.toNat) (IL b)->(decide (x<k)=true->r c/\r (c - x)/\h<=c - x/\c - x<j/\e<E/\h<=c - x/\c - x<n/\e<B/\(decide (f<g)=true->(q (-1:Int)).bi u)/\(decide (f<g)=false->h<=c - x/\c - x<j/\e<E/\h<=c - x/\c - x<n/\e<B/\(decide (g<f)=true->(q 1).bi u)/\(decide (g<f)=false->r d/\((y.bi y/\v.bi v/\C.bi C/\p.bi p/\True)/\True)/\(h<=d/\d<=k/\γ4 (l - d.toNat) (IL a)=γ4 (l - d.toNat) (IL b))/\(k - d).toNat<(k - x).toNat)))/\(decide (x<k)=false->o.bi u))) (by kernel_rfl) ?_;simp only[vcs];obtain⟨R,S⟩:=@pG a;obtain⟨O,N⟩:=@pG b;have z:=qs H;have w:=qs J;have W:=@rG a;rw[<-R,<-O];generalize IL a=s at*;generalize IL b=t at*;have G:bX s<bX t-> -1=kV (bX s) (bX t):=λh=>by simp_all[kV]
 have F:bX t<bX s->1=kV (bX s) (bX t):=λh=>by unfold kV;omega
 refine⟨r,q,λP=>⟨λh=>G (vO z w N (by omega)),λh=>F (vO w z S (by omega))⟩,λT=>⟨⟨by omega,by omega,?_⟩,?_⟩⟩;·rw[εa (by omega),εa (by omega)]
 rintro i ⟨U,X,A⟩;refine⟨λM=>?_,λQ=>?_⟩
 ·have K:((s.length:Int) - 1 - i).toNat=s.length - 1 - i.toNat:=by omega
  have D:s.length - i.toNat=s.length - 1 - i.toNat+1:=by omega
  rw[K];rw[D] at A;generalize V:s.length - 1 - i.toNat=m at*;refine⟨by omega,by omega,by omega,by omega,by omega,by omega,by omega,by omega,λh=>G (FL z w (by omega) (by omega) A h),λh=>⟨by omega,by omega,by omega,by omega,by omega,by omega,λI=>F (FL w z (by omega) (by omega) A.symm I),λI=>⟨by omega,⟨by omega,by omega,?_⟩,by omega⟩⟩⟩;rw[show s.length - (i+1).toNat=m by omega,zA (show m<s.length by omega),zA (show m<t.length by omega),A,show bN s m 0=bN t m 0 by omega]
 simp_all[kV]
def ir (s t:List Int):Nat->Int
 |0=>0
 |i+1=>(bN s i 0+ir s t i+bN t i 0) / 4294967296
def qN (s t:List Int) (i:Nat):Int:=(bN s i 0+ir s t i+bN t i 0) % 4294967296
def nC (s t:List Int) (i:Nat):List Int:=(ω i).map (qN s t)++δ (s.length+1 - i) 0
def iA (a:List Int×List Int):List Int:=if a.1.length<a.2.length then a.2 else a.1
def kB (a:List Int×List Int):List Int:=if a.1.length<a.2.length then a.1 else a.2
def xQ:NG:=⟨165,List Int×List Int,.cons (cO (.i .u32)) (.one (cO (.i .u32))),λa=>(ou a.1/\ou a.2)/\a.1.length<=100000000000/\a.2.length<=100000000000,λa=> .row (.i .u32) (bU (bX a.1+bX a.2))⟩
def VB (a:List Int×List Int):Nat->bJ
 |6=> .inv Int (λi=>⟨[(0,.row (.i .u32) (iA a)),(1,.row (.i .u32) (kB a)),(5,.ow 0 (nC (iA a) (kB a) i.toNat).length 1),(6,.si .u64 (ir (iA a) (kB a) i.toNat)),(21,.si .i64 (iA a).length),(22,.si .i64 i)],[.row (.i .u32) (nC (iA a) (kB a) i.toNat) 172 true]⟩) (λs=>iS s 22)
  (λi=>0<=i/\i<=(iA a).length) (λi=>((iA a).length - i).toNat) λ_ _=> .look
 |_=> .look
theorem dC {a:List Int} (h:ou a) (i:Nat):0<=bN a i 0/\bN a i 0<4294967296:=by
 by_cases b:i<a.length;·rw[bV b];exact h _ (List.getElem_mem b)
 grind[bN]
theorem zz {a:List Int} {i:Nat} (h:a.length<=i):bN a i 0=0:=by grind[bN]
theorem FK {s t:List Int} (b:ou s) (a:ou t):∀i,0<=ir s t i/\ir s t i<=1
 |0=>by simp[ir];|i+1=>by
  have h:=FK b a i;have c:=dC b i;have d:=dC a i;grind[ir]
theorem vM {s t:List Int} {i:Nat} (h:i<=s.length):(nC s t i).length=s.length+1:=by grind[nC]
theorem FJ {s t:List Int} {i:Nat} {v:Int} (h:i<=s.length):(nC s t i).set i v=(ω i).map (qN s t)++v::δ (s.length - i) 0:=by
 unfold nC;have a:s.length+1 - i=(s.length - i)+1:=by omega
 rw[a,List.replicate_succ];simp_all
theorem Ml {s t:List Int} {i:Nat} (h:i<s.length):nC s t (i+1)=(nC s t i).set i (qN s t i):=by
 rw[FJ (by omega)];unfold nC;rw[εf,γb,List.append_assoc];simp_all
theorem kU {a:List Int} {i:Nat}:bX (a.take (i+1))=bX (a.take i)+4294967296^i*bN a i 0:=by
 by_cases h:i<a.length;·grind[zB,vP]
 ·rw[zz (by omega),γu (by omega),γu (by omega)];simp
theorem FI {s t:List Int}:∀i,bX ((ω i).map (qN s t))+4294967296^i*ir s t i=bX (s.take i)+bX (t.take i)
 |0=>by simp[ir,bX];|i+1=>by
  have a:=@FI s t i;rw[εf,γb,ξ,γw,vP,kU,kU,γW];grind[qN,ir]
theorem ub:Holds Tryz.prog xQ:=by
 refine bM (L:=[pH]) xQ VB (by simpa using kX) ?_;rintro⟨a,b⟩ ⟨⟨ha,hb⟩,hla,hlb⟩;simp only at ha hb hla hlb;refine NI (let c:=(18446744073709551616:Int);let d:=(0:Int);let e:=(4294967296:Int);let f:=γj .i64;let g:=γa;let h:=iZ.row;let j:=γ1;let m:=(↑(iA (a,b)).length:Int);let q:=(↑(iA (a,b)).length:Int);let r:=(↑(kB (a,b)).length:Int);let k:=ew.i .u32;let s:=g k (iA (a,b));let t:=g k (kB (a,b));let v:=f m;let z:=nC (iA (a,b)) (kB (a,b)) 0;let G:=∀(x:Int),let l:=nC (iA (a,b)) (kB (a,b)) x.toNat;let n:=l.length;let o:=x+(1:Int);let A:=nC (iA (a,b)) (kB (a,b)) o.toNat;let B:=f o;let C:=bN (iA (a,b)) x.toNat d;let w:=ir (iA (a,b)) (kB (a,b)) x.toNat;let y:=l.set q.toNat (w % e);let D:=λ(u u_1:Int) ↦let E:=(u % c+u_1) % c;d<=(32:Int)/\(32:Int)<=(64:Int)/\l.length=n/\d<=x/\x<(↑n:Int)/\l.length=n/\x.toNat<n/\VL .i64 o/\((s.bi s/\t.bi t/\(j 0 l.length 1).bi (j 0 A.length 1)/\(γj .u64 (E / e)).bi (γj .u64 (ir (iA (a,b)) (kB (a,b)) o.toNat))/\v.bi v/\B.bi B/\True)/\(h k (l.set x.toNat (E % e)) 172 true).bi (h k A 172 true)/\True)/\(d<=o/\o<=m)/\(m - o).toNat<(m - x).toNat;d<=x/\x<=m->(decide (x<m)=true->d<=x/\x<q/\x.toNat<(iA (a,b)).length/\(decide (x<r)=true->d<=x/\x<r/\x.toNat<(kB (a,b)).length/\D (C % c+w) (bN (kB (a,b)) x.toNat d % c))/\(decide (x<r)=false->D C w))/\(decide (x<m)=false->l.length=n/\d<=q/\q<(↑n:Int)/\l.length=n/\q.toNat<n/\l.length=y.length/\y.length<=1000000000000/\(g k (IL y)).bi (g k (bU (bX a+bX b))));let F:=λ(u:Bool) (u_1 u_2:List Int) ↦let p:=(↑u_1.length:Int)+(1:Int);decide ((↑a.length:Int)<(↑b.length:Int))=u->VL .i64 p/\d<=p/\p<=p/\p*(4:Int)<=(140737488355328:Int)/\p<=(1000000000000:Int)/\((((g k u_1).bi s/\(g k u_2).bi t/\(j 0 p.toNat 1).bi (j 0 z.length 1)/\(γC .u64 0).bi (γj .u64 (ir (iA (a,b)) (kB (a,b)) 0))/\(f (↑u_1.length:Int)).bi v/\(γC .i64 0).bi (f 0)/\True)/\(h k (d::δ u_1.length d) 172 true).bi (h k z 172 true)/\True)/\d<=d/\d<=m)/\G;F true b a/\F false a b) (by kernel_rfl) ?_;simp only[vcs];have hbs:(a.length<b.length/\iA (a,b)=b/\kB (a,b)=a)\/(¬a.length<b.length/\iA (a,b)=a/\kB (a,b)=b):=by
  by_cases h:a.length<b.length;·exact .inl ⟨h,if_pos h,if_pos h⟩
  ·exact .inr ⟨h,if_neg h,if_neg h⟩
 generalize iA (a,b)=s at*;generalize kB (a,b)=t at*;have hrow:∀{u v:List Int},u=v->(iZ.row (.i .u32) u 172 true).bi (iZ.row (.i .u32) v 172 true):=by rintro _ _ rfl;rfl
 have how:∀{u v:Nat},u=v->(γ1 0 u 1).bi (γ1 0 v 1):=by rintro _ _ rfl;rfl
 have r0:∀u v:List Int,nC u v 0=0::δ u.length 0:=λu v=>rfl;refine⟨λh=>?_,λh=>?_⟩
 ·obtain⟨h1,e1,e2⟩:a.length<b.length/\s=b/\t=a:=by
   rcases hbs with h2|h2;·exact h2
   ·exact absurd (by omega) h2.1
  subst e1 e2;have hS:ou s:=by assumption
  have hT:ou t:=by assumption
  have hts:t.length<=s.length:=by omega
  have bd:=FK hS hT;refine⟨⟨by omega,by omega⟩,by omega,by omega,by omega,by omega,⟨⟨⟨rfl,rfl,how (by rw[vM (by omega)];omega),rfl,rfl⟩,hrow (r0 s t).symm⟩,by omega,by omega⟩,?_⟩;rintro i ⟨i0,i1⟩;have l1:=@vM s t i.toNat (by omega);have b1:=bd i.toNat;have d1:=dC hS i.toNat;have d2:=dC hT i.toNat;refine⟨λilt=>?_,λige=>?_⟩
  ·have l2:=@vM s t (i.toNat+1) (by omega);have e:(i+1).toNat=i.toNat+1:=by omega
   have hst:=Ml (s:=s) (t:=t) (show i.toNat<s.length by omega);refine⟨i0,ilt,by omega,λht=>?_,λht=>?_⟩
   ·have hv:(((bN s i.toNat 0 % 18446744073709551616+ir s t i.toNat) % 18446744073709551616+bN t i.toNat 0 % 18446744073709551616) % 18446744073709551616)=bN s i.toNat 0+ir s t i.toNat+bN t i.toNat 0:=by omega
    rw[hv,e];exact⟨i0,ht,by omega,by omega,by omega,i0,by omega,by omega,by omega,⟨⟨how (by omega),rfl⟩,hrow hst.symm⟩,by omega,by omega⟩
   ·have hz:=zz (a:=t) (i:=i.toNat) (by omega);have hv:((bN s i.toNat 0 % 18446744073709551616+ir s t i.toNat) % 18446744073709551616)=bN s i.toNat 0+ir s t i.toNat+bN t i.toNat 0:=by omega
    rw[hv,e];exact⟨by omega,by omega,i0,by omega,by omega,by omega,⟨⟨how (by omega),rfl⟩,hrow hst.symm⟩,by omega,by omega⟩
  ·have hi:i.toNat=s.length:=by omega
   have hc:ir s t i.toNat % 4294967296=ir s t i.toNat:=by omega
   rw[hc,γk,hi];rw[hi] at l1 b1;refine⟨by omega,by omega,by omega,by simp,by simp;omega,?_⟩;rw[FJ (π _),Nat.sub_self,ε3,oq ?_]
   ·rw[vP];have hv:=@FI s t s.length;rw[φ,γu hts] at hv;have hl:((ω s.length).map (qN s t)).length=s.length:=by simp
    rw[hl,hv];try rw[ζO]
   ·intro d hd;rcases γi.1 hd with hd|hd
    ·obtain⟨j,_,rfl⟩:=Γ.1 hd;unfold qN;omega
    ·rw[δd] at hd;omega
 ·obtain⟨h1,e1,e2⟩:¬a.length<b.length/\s=a/\t=b:=by
   rcases hbs with h2|h2;·exact absurd h2.1 (by omega)
   ·exact h2
  subst e1 e2;have hS:ou s:=by assumption
  have hT:ou t:=by assumption
  have hts:t.length<=s.length:=by omega
  have bd:=FK hS hT;refine⟨⟨by omega,by omega⟩,by omega,by omega,by omega,by omega,⟨⟨⟨rfl,rfl,how (by rw[vM (by omega)];omega),rfl,rfl⟩,hrow (r0 s t).symm⟩,by omega,by omega⟩,?_⟩;rintro i ⟨i0,i1⟩;have l1:=@vM s t i.toNat (by omega);have b1:=bd i.toNat;have d1:=dC hS i.toNat;have d2:=dC hT i.toNat;refine⟨λilt=>?_,λige=>?_⟩
  ·have l2:=@vM s t (i.toNat+1) (by omega);have e:(i+1).toNat=i.toNat+1:=by omega
   have hst:=Ml (s:=s) (t:=t) (show i.toNat<s.length by omega);refine⟨i0,ilt,by omega,λht=>?_,λht=>?_⟩
   ·have hv:(((bN s i.toNat 0 % 18446744073709551616+ir s t i.toNat) % 18446744073709551616+bN t i.toNat 0 % 18446744073709551616) % 18446744073709551616)=bN s i.toNat 0+ir s t i.toNat+bN t i.toNat 0:=by omega
    rw[hv,e];exact⟨i0,ht,by omega,by omega,by omega,i0,by omega,by omega,by omega,⟨⟨how (by omega),rfl⟩,hrow hst.symm⟩,by omega,by omega⟩
   ·have hz:=zz (a:=t) (i:=i.toNat) (by omega);have hv:((bN s i.toNat 0 % 18446744073709551616+ir s t i.toNat) % 18446744073709551616)=bN s i.toNat 0+ir s t i.toNat+bN t i.toNat 0:=by omega
    rw[hv,e];exact⟨by omega,by omega,i0,by omega,by omega,by omega,⟨⟨how (by omega),rfl⟩,hrow hst.symm⟩,by omega,by omega⟩
  ·have hi:i.toNat=s.length:=by omega
   have hc:ir s t i.toNat % 4294967296=ir s t i.toNat:=by omega
   rw[hc,γk,hi];rw[hi] at l1 b1;refine⟨by omega,by omega,by omega,by simp,by simp;omega,?_⟩;rw[FJ (π _),Nat.sub_self,ε3,oq ?_]
   ·rw[vP];have hv:=@FI s t s.length;rw[φ,γu hts] at hv;have hl:((ω s.length).map (qN s t)).length=s.length:=by simp
    rw[hl,hv];try rw[ζO]
   ·intro d hd;rcases γi.1 hd with hd|hd
    ·obtain⟨j,_,rfl⟩:=Γ.1 hd;unfold qN;omega
    ·rw[δd] at hd;omega
def fW (d:Int):List Int->List Int×Int
 |[]=>([],0)
 |x::l=>(((fW d l).2*4294967296+x) / d::(fW d l).1,((fW d l).2*4294967296+x) % d)
theorem Mk {d:Int}:∀{a:List Int},(fW d a).1.length=a.length
 |[]=>rfl
 |x::l=>by simp[fW,Mk]
theorem zy {d:Int} (e:0<d) (k:d<4294967296):∀{a:List Int},ou a->ou (fW d a).1/\(0<=(fW d a).2/\(fW d a).2<d)/\bX (fW d a).1*d+(fW d a).2=bX a
 |[],_=>by grind[fW,bX];|x::l,h=>by
  obtain⟨n,g⟩:=iF.1 h;obtain⟨j,⟨p,s⟩,o⟩:=zy e k g;simp only[fW];generalize (fW d l).1=q at*;generalize (fW d l).2=r at*;have f:=δQ (r*4294967296+x) (show d≠0 by omega);have i:=δr (r*4294967296+x) e;have c:0<=(r*4294967296+x) / d:=δ1 (by omega) (by omega);have b:(r*4294967296+x) / d<4294967296:=by
   refine Int.ediv_lt_of_lt_mul e ?_;omega
  refine⟨iF.2 ⟨⟨c,b⟩,j⟩,⟨f,i⟩,?_⟩;simp only[bX];have m:=εg (r*4294967296+x) d;grind
theorem VA {d:Int} (i:0<d) (h:d<4294967296) {a:List Int} (g:ou a):IL (fW d a).1=bU (bX a / d)/\(fW d a).2=bX a % d:=by
 obtain⟨e,⟨c,b⟩,f⟩:=zy i h g;rw[oq e];have j:=ek e;have k:bX a / d=bX (fW d a).1:=by
  rw[<-f,ζO,Int.add_mul_ediv_right _ _ (by omega),εK c b,Int.zero_add]
 have l:bX a % d=(fW d a).2:=by
  rw[<-f,ζO,Int.add_mul_emod_self_right,δO c b]
 simp_all
theorem FH {r x:Int} (d:0<=r) (g:r<4294967296) (a:0<=x) (e:x<4294967296):gd.orI .u64 (r*4294967296) x=r*4294967296+x:=by
 obtain⟨m,rfl⟩:=δJ d;obtain⟨k,rfl⟩:=δJ a;have b:(γt 64 ((m:Int)*4294967296)).toNat=2^32*m:=by
  grind[BitVec.toNat_ofInt]
 have c:(γt 64 (k:Int)).toNat=k:=by
  grind
 have f:(γt 64 ((m:Int)*4294967296) |||γt 64 (k:Int)).toNat=2^32*m+k:=by
  rw[BitVec.toNat_or,b,c,Nat.two_pow_add_eq_or_of_lt (by omega)]
 show ed .u64 ((γt 64 ((m:Int)*4294967296) |||γt 64 (k:Int)).toNat:Nat)=_;grind[rn,IntKind.wrap,IntKind.bits,IntKind.signed]
def FG:NG:=⟨186,List Int×Int,.cons (cO (.i .u32)) (.one (dX .u32)),λa=>ou a.1/\a.1.length<=100000000000/\0<a.2/\a.2<4294967296,λa=> .Gz [.row (.i .u32) (bU (bX a.1 / a.2)),.si .u32 (bX a.1 % a.2)]⟩
def kC (a:List Int) (d:Int) (i:Nat):List Int:=δ (a.length - i) 0++(fW d (a.drop (a.length - i))).1
def kg (a:List Int) (d:Int) (i:Nat):Int:=(fW d (a.drop (a.length - i))).2
def Vz (a:List Int×Int):Nat->bJ
 |4=> .inv Int (λi=>⟨[(0,.row (.i .u32) a.1),(1,.si .u32 a.2),(6,.ow 0 (kC a.1 a.2 i.toNat).length 1),(7,.si .u64 (kg a.1 a.2 i.toNat)),(15,.si .i64 a.1.length),(16,.si .i64 i)],[.row (.i .u32) (kC a.1 a.2 i.toNat) 172 true]⟩) (λs=>iS s 16)
  (λi=>0<=i/\i<=a.1.length) (λi=>(a.1.length - i).toNat) λ_ _=> .look
 |_=> .look
theorem FF {a:List Int} {d:Int} {i:Nat} (h:i<=a.length):(kC a d i).length=a.length:=by
 grind[kC,Mk]
theorem drop_cons {a:List Int} {k:Nat} (h:k<a.length):a.drop k=bN a k 0::a.drop (k+1):=zA h
theorem Mj {q:List Int} {y:Int}:∀k,(δ (k+1) 0++q).set k y=δ k 0++y::q
 |0=>by simp;|k+1=>by
  have:=@Mj q y k;grind
theorem u64_in {n:Int} (b:0<=n) (a:n<18446744073709551616):VL .u64 n:=by
 show IntKind.u64.wrap n=n;grind[IntKind.wrap,IntKind.bits,IntKind.signed]
theorem IH:Holds Tryz.prog FG:=by
 refine bM (L:=[pH]) FG Vz (by simpa using kX) ?_;rintro⟨a,d⟩ ⟨ha,hla,d0,d1⟩;simp only at ha hla d0 d1;refine NI (let b:=(0:Int);let c:=(18446744073709551616:Int);let e:=(4294967296:Int);let f:=γj .i64;let g:=γa;let h:=iZ.row;let j:=VL .i64;let k:=(1:Int);let l:=γ1;let n:=(↑a.length:Int);let o:=ew.i .u32;let q:=(↑a.length:Int);let t:=f q;let s:=d % c;b<=n/\n<=n/\n*(4:Int)<=(140737488355328:Int)/\n<=(1000000000000:Int)/\((((g o a).bi (g o a)/\(γj .u32 d).bi (γj .u32 d)/\(l 0 n.toNat 1).bi (l 0 (kC a d 0).length 1)/\(γC .u64 0).bi (γj .u64 (kg a d 0))/\(f n).bi t/\(γC .i64 0).bi (f 0)/\True)/\(h o (δ n.toNat b) 172 true).bi (h o (kC a d 0) 172 true)/\True)/\b<=b/\b<=q)/\∀(x:Int),let p:=n - k - x;let u:=gd.orI .u64 (kg a d x.toNat*e % c) (bN a p.toNat b % c);let m:=kC a d x.toNat;let r:=x+k;let v:=f r;b<=x/\x<=q->(decide (x<q)=true->j (n - k)/\j p/\b<=(32:Int)/\(32:Int)<=(64:Int)/\b<=p/\p<n/\p.toNat<a.length/\s≠b/\VL .u64 (u.tdiv s)/\s≠b/\m.length=m.length/\b<=p/\p<(↑m.length:Int)/\m.length=m.length/\p.toNat<m.length/\j r/\(((g o a).bi (g o a)/\(γj .u32 d).bi (γj .u32 d)/\(l 0 m.length 1).bi (l 0 (kC a d r.toNat).length 1)/\(γj .u64 (u.tmod s)).bi (γj .u64 (kg a d r.toNat))/\t.bi t/\v.bi v/\True)/\(h o (m.set p.toNat (u.tdiv s % e)) 172 true).bi (h o (kC a d r.toNat) 172 true)/\True)/\(b<=r/\r<=q)/\(q - r).toNat<(q - x).toNat)/\(decide (x<q)=false->m.length=m.length/\m.length<=1000000000000/\(SV.Gz [g o (IL m),γj .u32 (kg a d x.toNat % e)]).bi (SV.Gz [g o (bU (bX a / d)),γj .u32 (bX a % d)]))) (by kernel_rfl) ?_;simp only[vcs];have hrow:∀{u v:List Int},u=v->(iZ.row (.i .u32) u 172 true).bi (iZ.row (.i .u32) v 172 true):=by rintro _ _ rfl;rfl
 have how:∀{u v:Nat},u=v->(γ1 0 u 1).bi (γ1 0 v 1):=by rintro _ _ rfl;rfl
 have z1:kC a d 0=δ a.length 0:=by simp[kC,fW]
 have z2:kg a d 0=0:=by simp[kg,fW]
 refine⟨by omega,by omega,by omega,by omega,⟨⟨⟨how (by rw[FF (by omega)];omega),z2.symm⟩,hrow (by rw[z1,γk])⟩,by omega,by omega⟩,?_⟩;rintro i ⟨i0,i1⟩;have l1:=@FF a d i.toNat (by omega);have l2:=λh=>@FF a d (i+1).toNat h;have dd:d % 18446744073709551616=d:=by omega
 refine⟨λilt=>?_,λige=>?_⟩
 ·have hx:((a.length:Int) - 1 - i).toNat=a.length - 1 - i.toNat:=by omega
  have hk1:a.length - i.toNat=a.length - 1 - i.toNat+1:=by omega
  have hk2:a.length - (i+1).toNat=a.length - 1 - i.toNat:=by omega
  have hR:kC a d i.toNat=δ (a.length - 1 - i.toNat+1) 0++(fW d (a.drop (a.length - 1 - i.toNat+1))).1:=by unfold kC;rw[hk1]
  have hC:kg a d i.toNat=(fW d (a.drop (a.length - 1 - i.toNat+1))).2:=by unfold kg;rw[hk1]
  have hR2:kC a d (i+1).toNat=δ (a.length - 1 - i.toNat) 0++(fW d (a.drop (a.length - 1 - i.toNat))).1:=by unfold kC;rw[hk2]
  have hC2:kg a d (i+1).toNat=(fW d (a.drop (a.length - 1 - i.toNat))).2:=by unfold kg;rw[hk2]
  have hlt:a.length - 1 - i.toNat<a.length:=by omega
  rw[hx];have l3:=l2 (by omega);generalize a.length - 1 - i.toNat=k at*;have hdr:=drop_cons hlt;have hdig:ou (a.drop k):=λz hz=>ha z (γY hz);obtain⟨q1,q2,q3⟩:=zy d0 d1 (a:=a.drop (k+1)) (λz hz=>ha z (γY hz));obtain⟨p1,p2,p3⟩:=zy d0 d1 hdig;rw[hdr] at hR2 hC2 p1 p2;simp only[fW] at hR2 hC2 p1 p2;have hxd:=dC ha k;rw[<-hC] at hR2 hC2 p1 p2 q2;have e1:kg a d i.toNat*4294967296 % 18446744073709551616=kg a d i.toNat*4294967296:=by omega
  have e2:bN a k 0 % 18446744073709551616=bN a k 0:=by omega
  rw[e1,e2,dd,FH (by omega) (by omega) hxd.1 hxd.2];have hv0:0<=kg a d i.toNat*4294967296+bN a k 0:=by omega
  rw[ε9 hv0,ζa hv0];have hq:=(iF.1 p1).1;have hqm:(kg a d i.toNat*4294967296+bN a k 0) / d % 4294967296=(kg a d i.toNat*4294967296+bN a k 0) / d:=δO hq.1 hq.2;rw[hqm];refine⟨by omega,by omega,by omega,by omega,by omega,by omega,by omega,by omega,u64_in hq.1 (by omega),by omega,by omega,by omega,by omega,by omega,⟨⟨how (by omega),hC2.symm⟩,hrow ?_⟩,by omega,by omega⟩;rw[hR2,hR,Mj]
 ·have hi:a.length - i.toNat=0:=by omega
  have hR:kC a d i.toNat=(fW d a).1:=by unfold kC;rw[hi];simp
  have hC:kg a d i.toNat=(fW d a).2:=by unfold kg;rw[hi];simp
  obtain⟨k1,k2⟩:=VA d0 d1 ha;have hm:=δQ (bX a) (show d≠0 by omega);have hl:=δr (bX a) d0;refine⟨by omega,by rw[hR,k1],?_⟩;rw[hC,k2];omega
def gl:Nat->Int->List Int
 |0,_=>[]
 |k+1,x=>x % 4294967296::gl k (x / 4294967296)
theorem xO:∀{k:Nat} {x:Int},(gl k x).length=k
 |0,_=>rfl
 |k+1,x=>by simp[gl,xO]
theorem FE:∀{k:Nat} {x:Int},ou (gl k x)
 |0,_=>by simp[gl,ou];|k+1,x=>iF.2 ⟨by omega,FE⟩
theorem Mi:∀{l:List Int},ou l->gl l.length (bX l)=l
 |[],_=>rfl
 |d::l,h=>by
  obtain⟨e,b⟩:=iF.1 h;simp only[γK,gl,bX];have c:(d+4294967296*bX l) % 4294967296=d:=by omega
  have a:(d+4294967296*bX l) / 4294967296=bX l:=by omega
  rw[c,a,Mi b]
theorem FD {l:List Int} {k:Nat} {x:Int} (h:ou l) (b:l.length=k) (a:bX l=x):l=gl k x:=by
 grind[Mi]
theorem pow_pos (k:Nat):(0:Int)<4294967296^k:=Int.pow_pos (by decide)
theorem F_:∀{k:Nat} {x:Int},0<=x->x<4294967296^k->bX (gl k x)=x
 |0,x,b,a=>by grind[gl,bX];|k+1,x,b,a=>by
  rw[γW] at a;simp only[gl,bX];rw[F_ (k:=k) (x:=x / 4294967296) (by omega) (by omega)];omega
theorem F9:∀{a b:List Int},bX (a++b)=bX a+4294967296^a.length*bX b
 |[],b=>by simp[bX];|d::l,b=>by
  simp only[γM,bX,F9,γK,γW,εy];grind
theorem rF:∀{l:List Int} {j:Nat} {v:Int},j<l.length->bX (l.set j v)=bX l+4294967296^j*(v - bN l j 0)
 |[],_,_,h=>by simp at h;|d::l,0,v,_=>by grind[bX,bN];|d::l,j+1,v,h=>by
  have a:=@rF l j v (by simpa using h);grind[bN,bX]
theorem lL {l:List Int} {j:Nat} {v:Int} (h:ou l) (c:0<=v) (b:v<4294967296):ou (l.set j v):=by
 intro d a;rcases List.mem_or_eq_of_mem_set a with a|rfl;·exact h d a
 omega
theorem xN {a:List Int} (h:ou a) (n:Nat):ou (a.drop n):=λd b=>h d (γY b)
theorem Mh {a b:List Int} (e:ou a) (c:ou b):ou (a++b):=λd f=>by
 rcases γi.1 f with h|h;·exact e d h
 ·exact c d h
theorem qp {l:List Int} {j:Nat} {v:Int} (h:j<l.length):bN (l.set j v) j 0=v:=by
 grind[bN]
theorem nN {l:List Int} {i j:Nat} {v:Int} (h:i≠j):bN (l.set i v) j 0=bN l j 0:=by
 grind[bN]
theorem xM:∀{l:List Int} {i j:Nat},ou l->bX l<4294967296^i->i<=j->bN l j 0=0
 |[],_,_,_,_,_=>by simp[bN];|d::l,0,j,h,a,c=>by
  obtain⟨e,b⟩:=iF.1 h;have:=ek b;simp only[bX,Int.pow_zero] at a;have f:d=0:=by omega
  have g:bX l=0:=by omega
  cases j with
  |zero=>simp[bN,f];|succ j=>
   have:=xM (l:=l) (i:=0) (j:=j) b (by simp;omega) (by omega);grind[bN]
 |d::l,i+1,j,h,a,c=>by
  obtain⟨e,b⟩:=iF.1 h;cases j with
  |zero=>omega;|succ j=>
   rw[γW] at a;simp only[bX] at a;have:=xM (l:=l) (i:=i) (j:=j) b (by omega) (by omega);grind[bN]
def gk (o b:List Int) (x:Int) (i:Nat):Nat->List Int×Int
 |0=>(o,0)
 |k+1=>((gk o b x i k).1.set (i+k) ((x*bN b k 0+bN (gk o b x i k).1 (i+k) 0+(gk o b x i k).2) % 4294967296),(x*bN b k 0+bN (gk o b x i k).1 (i+k) 0+(gk o b x i k).2) / 4294967296)
theorem M4 {o b:List Int} {x:Int} {i:Nat} (d:ou o) (g:ou b) (f:0<=x) (m:x<4294967296):∀{k:Nat},i+k<=o.length->
  ou (gk o b x i k).1/\(gk o b x i k).1.length=o.length/\(0<=(gk o b x i k).2/\(gk o b x i k).2<4294967296)/\(∀j,i+k<=j->bN (gk o b x i k).1 j 0=bN o j 0)/\
  bX (gk o b x i k).1+4294967296^(i+k)*(gk o b x i k).2=bX o+4294967296^i*(x*bX (b.take k))
 |0,h=>by simp[gk,d,bX];|k+1,h=>by
  obtain⟨l,t,⟨v,s⟩,u,r⟩:=@M4 o b x i d g f m k (by omega);simp only[gk];generalize (gk o b x i k).1=p at*;generalize (gk o b x i k).2=c at*;have a:=dC g k;have q:=dC l (i+k);have n:0<=x*bN b k 0:=γy f a.1;have e:x*bN b k 0<=4294967295*4294967295:=δL (by omega) (by omega) a.1 (by omega);grind[lL,rF,kU,bN]
def bO (U:List Int) (j k:Nat):List Int:=(U.drop j).take k
theorem M0 {U:List Int} {j k:Nat}:bN (U.drop j) k 0=bN U (j+k) 0:=by
 grind[bN]
theorem kT {U:List Int} {j k:Nat}:bX (bO U j (k+1))=bX (bO U j k)+4294967296^k*bN U (j+k) 0:=by
 grind[bO,kU,M0]
theorem rE {U:List Int} {j k i:Nat} {d:Int} (h:k<=i):bO (U.set (j+i) d) j k=bO U j k:=by
 unfold bO;apply List.ext_getElem?;grind
theorem rD {U:List Int} (h:ou U) {j k:Nat}:ou (bO U j k):=lM (xN h j) k
theorem Vy {U:List Int} {j k:Nat} (h:j+k<=U.length):(bO U j k).length=k:=by
 grind[bO]
theorem sX {U:List Int} (h:ou U) {j k:Nat}:bX (bO U j k)<4294967296^k:=by
 have g:=mQ (rD h (j:=j) (k:=k));have e:(bO U j k).length<=k:=by grind[bO]
 have i:(4294967296:Int)^(bO U j k).length<=4294967296^k:=by
  have d:∀{a b:Nat},a<=b->(4294967296:Int)^a<=4294967296^b:=λ{a b} c=>by
   obtain⟨m,rfl⟩:=Nat.exists_eq_add_of_le c;rw[Int.pow_add];have f:=pow_pos a;have l:=pow_pos m;have:=Φ (show(1:Int)<=4294967296^m by omega) (γg f);omega
  exact d e
 omega
def iu (U:List Int) (j:Nat) (l:List Int):List Int:=U.take j++(l++U.drop (j+l.length))
theorem Vx {a b:List Int} (c:a.length=b.length) (h:∀m,bN a m 0=bN b m 0):a=b:=by
 apply List.ext_getElem c;intro m d e;have:=h m;grind[bV]
theorem MZ {U l:List Int} {j:Nat} (h:j+l.length<=U.length):(iu U j l).length=U.length:=by
 grind[iu]
theorem Vw {U l:List Int} {j m:Nat} (h:j+l.length<=U.length):bN (iu U j l) m 0=if m<j then bN U m 0 else if m<j+l.length then bN l (m - j) 0 else bN U m 0:=by
 unfold iu bN;grind
theorem vK {U W:List Int} {j k:Nat} {x:Int} (d:ou W) (f:W.length=U.length) (g:j+k<=U.length) (e:∀m,(m<j\/j+k<=m)->bN W m 0=bN U m 0) (a:bX (bO W j k)=x):W=iu U j (gl k x):=by
 have b:bO W j k=gl k x:=FD (rD d) (Vy (by omega)) a;have c:=@xO k x;apply Vx;·grind[MZ]
 ·intro m;rw[Vw (by omega),c];split;·simp_all
  ·split
   ·rw[<-b];unfold bO;have:bN ((W.drop j).take k) (m - j) 0=bN (W.drop j) (m - j) 0:=by
     unfold bN;grind
    grind[M0]
   simp_all
section
variable {P V X v1 v2 u2 top rv ru g r:Int}
theorem Vv (e:0<P) (n:V=rv+P*(v2+4294967296*v1)) (l:X=ru+P*(u2+4294967296*top)) (a:0<=rv) (f:ru<P) (d:X<4294967296*V) (b:0<=V)
  (c:0<=g) (j:g*v1+r=top) (h:4294967296<=g\/r*4294967296+u2<g*v2):X<g*V:=by
 rcases h with h|h;·exact Int.lt_of_lt_of_le d (γX h b)
 ·have k:g*V=g*rv+P*(g*v2+4294967296*(top - r)):=by
   grind
  have i:P*(u2+1+4294967296*top)<=P*(g*v2+4294967296*(top - r)):=Φ (by omega) (γg e);have m:0<=g*rv:=γy c a;grind
theorem MY (c:0<P) (k:V=rv+P*(v2+4294967296*v1)) (n:X=ru+P*(u2+4294967296*top)) (a:0<=rv) (b:rv<P) (f:0<=ru) (e:2147483648<=v1) (j:0<=v2)
  (i:0<=g) (d:g<4294967296) (o:g*v1+r=top) (h:g*v2<=r*4294967296+u2):g*V<X+V:=by
 have m:g*V=g*rv+P*(g*v2+4294967296*(top - r)):=by
  grind
 have q:P*(g*v2+4294967296*(top - r))<=P*(u2+4294967296*top):=Φ (by omega) (γg c);have p:g*rv<=4294967295*rv:=γX (by omega) a;have l:P*4294967296<=P*(v2+4294967296*v1):=Φ (by omega) (γg c);omega
theorem Vu (c:0<P) (p:V=rv+P*(v2+4294967296*v1)) (k:X=ru+P*(u2+4294967296*top)) (b:0<=rv) (e:ru<P) (a:0<=v2) (f:u2<4294967296)
  (d:0<=g) (o:g*v1+r=top) (l:r<v1):X<(g+1)*V:=by
 have n:(g+1)*V=(g+1)*rv+((g+1)*(P*v2)+P*(4294967296*((g+1)*v1))):=by
  grind
 have j:0<=(g+1)*rv:=γy (by omega) b;have h:0<=(g+1)*(P*v2):=γy (by omega) (γy (γg c) a);have i:top+1<=(g+1)*v1:=by grind
 have m:P*(u2+1+4294967296*top)<=P*(4294967296*((g+1)*v1)):=Φ (by omega) (γg c);grind
theorem Vt {b a:Int} (c:0<P) (l:V=rv+P*(v2+4294967296*v1)) (k:X=ru+P*(u2+4294967296*(b+4294967296*a))) (d:rv<P) (f:0<=ru) (e:0<=u2) (i:0<=b) (j:v2<4294967296)
  (g:X<4294967296*V):a<=v1:=by
 by_cases h:a<=v1;·exact h
 ·exfalso;have m:P*(4294967296*(4294967296*(v1+1)))<=P*(u2+4294967296*(b+4294967296*a)):=Φ (by omega) (γg c);have n:P*(v2+4294967296*v1)<=P*(4294967296*(v1+1) - 1):=Φ (by omega) (γg c);grind
theorem sW {X V q:Int} (e:q*V<=X) (c:X<(q+1)*V):X / V=q/\X % V=X - q*V:=by
 rw[Int.add_mul,εz] at c;have d:0<V:=by omega
 have b:X=(X - q*V)+V*q:=by grind
 have a:X / V=q:=by
  conv=>lhs;rw[b]
  rw[Int.add_mul_ediv_left _ _ (by omega),εK (by omega) (by omega),Int.zero_add]
 refine⟨a,?_⟩;rw[Int.emod_def,a,δ5]
end
theorem F8 {p:Int} (a:0<=p) (e:p<18446744073709551616):gd.asV .u64 p 4294967295=p % 4294967296:=by
 obtain⟨m,rfl⟩:=δJ a;have b:(γt 64 ((m:Nat):Int)).toNat=m:=by grind
 have c:(γt 64 4294967295).toNat=4294967295:=by simp_all
 have d:(γt 64 ((m:Nat):Int) &&&γt 64 4294967295).toNat=m % 4294967296:=by
  rw[BitVec.toNat_and,b,c];exact Nat.and_two_pow_sub_one_eq_mod m 32
 show ed .u64 ((γt 64 ((m:Nat):Int) &&&γt 64 4294967295).toNat:Nat)=_;grind[rn,IntKind.wrap,IntKind.bits]
theorem F7 {U W v:List Int} {j i:Nat} {g c b d e:Int} (n:ou W) (f:W.length=U.length) (o:ou v) (h:0<=g) (r:g<4294967296) (y:0<=c) (t:c<4294967296) (s:0<=b) (q:b<=1) (u:j+i<U.length)
  (l:∀m,(m<j\/j+i<=m)->bN W m 0=bN U m 0)
  (k:bX (bO W j i)=bX (bO U j i) - g*bX (v.take i)+4294967296^i*(c+b))
  (a:0<=d/\d<4294967296) (w:d - 4294967296*e=bN W (j+i) 0 - (g*bN v i 0+c) % 4294967296 - b):
  ou (W.set (j+i) d)/\(W.set (j+i) d).length=U.length/\(0<=(g*bN v i 0+c) / 4294967296/\(g*bN v i 0+c) / 4294967296<4294967296)/\
  (∀m,(m<j\/j+(i+1)<=m)->bN (W.set (j+i) d) m 0=bN U m 0)/\
  bX (bO (W.set (j+i) d) j (i+1))=bX (bO U j (i+1)) - g*bX (v.take (i+1))+4294967296^(i+1)*((g*bN v i 0+c) / 4294967296+e):=by
 have x:=dC o i;have z:0<=g*bN v i 0:=γy h x.1;have p:g*bN v i 0<=4294967295*4294967295:=δL (by omega) (by omega) x.1 (by omega);refine⟨lL n a.1 a.2,by simp[f],by omega,λm A=>by grind[nN],?_⟩;have B:=l (j+i) (.inr (π _));rw[kT,kT,rE (π _),qp (by omega),k,kU,γW];grind
theorem F6 {U W v:List Int} {j i:Nat} {c s:Int} (a:ou W) (d:W.length=U.length) (b:ou v) (n:0<=c) (l:c<=1) (h:j+i<U.length) (g:ou U)
  (e:∀m,(m<j\/j+i<=m)->bN W m 0=bN U m 0)
  (k:bX (bO W j i)+4294967296^i*c=bX (bO U j i)+bX (v.take i)) (o:s=bN W (j+i) 0+bN v i 0+c):
  ou (W.set (j+i) (s % 4294967296))/\(W.set (j+i) (s % 4294967296)).length=U.length/\(0<=s / 4294967296/\s / 4294967296<=1)/\
  (∀m,(m<j\/j+(i+1)<=m)->bN (W.set (j+i) (s % 4294967296)) m 0=bN U m 0)/\
  bX (bO (W.set (j+i) (s % 4294967296)) j (i+1))+4294967296^(i+1)*(s / 4294967296)=bX (bO U j (i+1))+bX (v.take (i+1)):=by
 have x:=dC b i;have y:=dC a (j+i);refine⟨lL a (by omega) (by omega),by simp[d],by omega,λm p=>by grind[nN],?_⟩;have f:=e (j+i) (.inr (π _));rw[kT,kT,rE (π _),qp (by omega),kU,γW];grind
theorem Vs {v:List Int} {n:Nat} (a:2<=n) (b:v.length=n):bX v=bX (v.take (n - 2))+4294967296^(n - 2)*(bN v (n - 2) 0+4294967296*bN v (n - 1) 0):=by
 obtain⟨m,rfl⟩:∃m,n=m+2:=⟨n - 2,by omega⟩;grind[kU]
theorem Vr {U:List Int} {j n:Nat} (a:2<=n):bX (bO U j (n+1))=bX (bO U j (n - 2))+4294967296^(n - 2)*(bN U (j+(n - 2)) 0+4294967296*(bN U (j+(n - 1)) 0+4294967296*bN U (j+n) 0)):=by
 obtain⟨m,rfl⟩:∃m,n=m+2:=⟨n - 2,by omega⟩;grind[kT]
structure mf where
 U:List Int
 j:Nat
 len:Nat
 n:Nat
 v:List Int
def mf.x (a:mf):Int:=bX (bO a.U a.j (a.v.length+1))
def mf.ok (a:mf):Prop:=(ou a.U/\ou a.v)/\(a.len=a.v.length+1/\a.n=a.U.length)/\(2<=a.v.length/\a.j+a.v.length+1<=a.U.length/\a.U.length<=200000000000)/\
 2147483648<=bN a.v (a.v.length - 1) 0/\a.x<4294967296*bX a.v
def mf.row (a:mf):List Int:=iu a.U a.j (gl (a.v.length+1) (a.x % bX a.v))
def F5:cU where
 f:=188;α:=mf;put a:=[.oc 0 a.j a.len a.n 1,.row (.i .u32) a.v];st a:=[.row (.i .u32) a.U 172 false];dec v o:=match v,o with
  |[.oc 0 j len n 1,v],[.row t l 172 false]=>match iH (.i .u32) v,gF t (.i .u32) l with
   |some v,some l=>some ⟨l,j,len,n,v⟩
   |_,_=>none
  |_,_=>none;ok v o a h:=by
  split at h
  ·split at h
   ·rename_i h1 h2;simp only[γ] at h;subst h;obtain⟨rfl,hh⟩:=ln h2;cases hh;exact⟨by simp only[gL,nl h1],rfl⟩
   ·cases h
  ·cases h
 inj a b h1 h2:=by
  obtain⟨U,j,len,n,v⟩:=a;obtain⟨U',j',len',n',v'⟩:=b;simp only[gL,Θ,and_true] at h1;obtain⟨g1,g2⟩:=h1;have e2:=(cO (.i .u32)).inj _ _ g2;simp only[SV.g,AV.os.injEq,true_and,ew.sz,Nat.mul_one] at g1;simp only[gO,ξ,γw,iZ.g,Θ,OL.cells.injEq,and_true] at h2;have hl:U=U':=by
   have hf:=congrArg List.length h2;rw[ec,ec] at hf;exact kq (.i .u32) (by simpa[ew.sz] using hf) h2
  obtain⟨q1,q2,q3⟩:=g1;subst q3;have:j=j':=by omega
  rw[e2,hl,q2,this]
 dom:=mf.ok;res a:=.si .u32 (a.x / bX a.v);out a:=[.row (.i .u32) a.row 172 false]
def F4 (U:List Int):TP:=[.row (.i .u32) U 172 false]
def Vq (a:mf):Nat->bJ
 |4=> .inv (Int×Int) (λx=>⟨[(0,.oc 0 a.j a.len a.n 1),(1,.row (.i .u32) a.v),(5,.si .i64 a.v.length),(7,.si .u64 x.1),(8,.si .u64 x.2)],F4 a.U⟩) (λs=>(iS s 7,iS s 8))
  (λx=>(0<=x.1/\x.1<=4294967297)/\(0<=x.2/\x.2<4294967296)/\x.1*bN a.v (a.v.length - 1) 0+x.2=bN a.U (a.j+(a.v.length - 1)) 0+4294967296*bN a.U (a.j+a.v.length) 0/\a.x<(x.1+1)*bX a.v) (λx=>x.1.toNat) λ_ _=> .look
 |10=> .inv (Int×Int×Int×Int×List Int) (λx=>⟨[(0,.oc 0 a.j a.len a.n 1),(1,.row (.i .u32) a.v),(5,.si .i64 a.v.length),(7,.si .u64 x.2.1),(9,.si .u64 x.2.2.1),(10,.si .u64 x.2.2.2.1),(82,.si .i64 a.v.length),(83,.si .i64 x.1)],F4 x.2.2.2.2⟩)
  (λs=>(iS s 83,iS s 7,iS s 9,iS s 10,oS (.i .u32) s 0))
  (λx=>(0<=x.1/\x.1<=a.v.length)/\(0<=x.2.1/\x.2.1<4294967296)/\(a.x<(x.2.1+1)*bX a.v/\x.2.1*bX a.v<a.x+bX a.v)/\(0<=x.2.2.1/\x.2.2.1<4294967296)/\(0<=x.2.2.2.1/\x.2.2.2.1<=1)/\(ou x.2.2.2.2/\x.2.2.2.2.length=a.U.length)/\
   (∀m,(m<a.j\/a.j+x.1.toNat<=m)->bN x.2.2.2.2 m 0=bN a.U m 0)/\
   bX (bO x.2.2.2.2 a.j x.1.toNat)=bX (bO a.U a.j x.1.toNat) - x.2.1*bX (a.v.take x.1.toNat)+4294967296^x.1.toNat*(x.2.2.1+x.2.2.2.1)) (λx=>(a.v.length - x.1).toNat) λ_ _=> .look
 |23=> .inv (Int×Int×Int×List Int) (λx=>⟨[(0,.oc 0 a.j a.len a.n 1),(1,.row (.i .u32) a.v),(5,.si .i64 a.v.length),(7,.si .u64 x.2.1),(9,.si .u64 x.2.2.1),(134,.si .i64 a.v.length),(135,.si .i64 x.1)],F4 x.2.2.2⟩)
  (λs=>(iS s 135,iS s 7,iS s 9,oS (.i .u32) s 0))
  (λx=>(0<=x.1/\x.1<=a.v.length)/\(0<=x.2.1/\x.2.1<4294967296)/\(a.x<x.2.1*bX a.v/\x.2.1*bX a.v<a.x+bX a.v)/\(0<=x.2.2.1/\x.2.2.1<=1)/\(ou x.2.2.2/\x.2.2.2.length=a.U.length)/\
   ∃W,(ou W/\W.length=a.U.length)/\(∀m,(m<a.j\/a.j+(a.v.length+1)<=m)->bN W m 0=bN a.U m 0)/\bX (bO W a.j (a.v.length+1))=a.x - x.2.1*bX a.v+4294967296^(a.v.length+1)/\
    (∀m,(m<a.j\/a.j+x.1.toNat<=m)->bN x.2.2.2 m 0=bN W m 0)/\bX (bO x.2.2.2 a.j x.1.toNat)+4294967296^x.1.toNat*x.2.2.1=bX (bO W a.j x.1.toNat)+bX (a.v.take x.1.toNat))
  (λx=>(a.v.length - x.1).toNat) λ_ _=> .look
 |_=> .look
theorem IF:dB Tryz.prog F5:=by
 refine ko (L:=[]) (W:=[]) F5 Vq (by simp) (by simp) ?_;rintro⟨U,j,len,n,v⟩ ⟨⟨hU,hv⟩,⟨e1,e2⟩,⟨hn,hj,hlU⟩,hv1,hx⟩;simp only at hU hv hn hj hlU hv1 hx e1 e2;subst e1 e2;refine NI (let a:=(18446744073709551616:Int);let b:=(0:Int);let c:=(4294967296:Int);let d:=(1:Int);let e:=γa;let f:=γj .i64;let g:=(32:Int);let h:=VL .i64;let k:=(9223372036854775808:Int);let l:=(4294967297:Int);let n:=(64:Int);let o:=iZ.row;let p:=γC .i64 0;let q:=(63:Int);let r:=γC .i64;let D:=(↑v.length:Int);let y:=v.length+1;let F:=(↑y:Int);let B:=D - d;let Q:=bN v B.toNat b % a;let a7:=gd.orI .u64 (bN U (j+D.toNat) 0 % a*c % a) (bN U (j+B.toNat) 0 % a);let K:=a7.tdiv Q;let C:=SV.oc 0 j y U.length 1;let w:=ew.i .u32;let s:=(↑v.length:Int);let t:=f s;let a8:=γj .u64 K;let R:=a7.tmod Q;let a9:=γj .u64 R;let J:=o w U 172 false;let aa:=v.length - 1;let a3:=bN v aa b;let a4:=bN U (j+aa) 0+c*bN U (j+v.length) 0;let ab:=mf.mk U j y U.length v;let E:=ab.x;let L:=s - d;let aJ:=bN v L.toNat b % a;let M:=E+bX v;let S:=bX (bO U j 0);let I:=j+s.toNat;let ac:=γj .u32 (E / bX v);let ad:=o w ab.row 172 false;let ae:=c^y;let H:=s - (2:Int);U.length=U.length/\b<=D/\D<F/\j+y<=U.length/\U.length=U.length/\j+D.toNat<U.length/\b<=g/\g<=n/\h B/\U.length=U.length/\b<=B/\B<F/\j+y<=U.length/\U.length=U.length/\j+B.toNat<U.length/\h B/\b<=B/\B<D/\B.toNat<v.length/\Q≠b/\VL .u64 K/\h B/\b<=B/\B<D/\B.toNat<v.length/\Q≠b/\(((C.bi C/\(e w v).bi (e w v)/\(f D).bi t/\a8.bi a8/\a9.bi a9/\True)/\J.bi J/\True)/\(b<=K/\K<=l)/\(b<=R/\R<c)/\K*a3+R=a4/\E<(K+d)*bX v)/\∀(x:Int×Int),let N:=(x.2+aJ) % a;let af:=decide (c<=N);let G:=(x.1 - d) % a;let T:=γj .u64 G;let ag:=γj .u64 N;let ah:=decide (c<=x.1);let ai:=γj .u64 x.1;let aj:=∀(x:Int×Int×Int×Int×List Int),let V:=x.2.1*bX v;let z:=x.2.2.2.2;let X:=x.2.2.2.1;let Y:=x.2.2.1;let ak:=((bN z I b % a - Y) % a - X) % a;let O:=j+x.1.toNat;let Z:=x.1+d;let a0:=γj .u64 x.2.1;let al:=(x.2.1*(bN v x.1.toNat b % a) % a+Y) % a;let am:=al / c;let an:=γj .u64 am;let ao:=gd.asV .u64 al (4294967295:Int);let ap:=((bN z O b % a - ao) % a - X) % a;let aq:=ap / k;let ar:=γj .u64 aq;let au:=f Z;let P:=z.set I (ak % c);let av:=λ(u u_1 u_2:Int) (u_3:List Int) ↦(b<=u/\u<=s)/\(b<=x.2.1/\x.2.1<c)/\(E<(x.2.1+d)*bX v/\V<M)/\(b<=u_1/\u_1<c)/\(b<=u_2/\u_2<=d)/\(ou u_3/\u_3.length=U.length)/\(∀(m:Nat),m<j\/j+u.toNat<=m->bN u_3 m b=bN U m b)/\bX (bO u_3 j u.toNat)=bX (bO U j u.toNat) - x.2.1*bX (Δ u.toNat v)+c^u.toNat*(u_1+u_2);let aw:=λ(u:Nat) (u_1:Int) ↦let ax:=o w (z.set u (((bN z u b % a - u_1) % a - X) % a % c)) 172 false;ax.bi ax/\True;let ay:=λ(u:Bool) ↦decide (ak / k=b)=u;av x.1 Y X z->(decide (x.1<s)=true->b<=x.1/\x.1<D/\x.1.toNat<v.length/\b<=g/\g<=n/\U.length=z.length/\b<=x.1/\x.1<F/\j+y<=U.length/\U.length=z.length/\O<z.length/\b<=q/\q<=n/\U.length=z.length/\b<=x.1/\x.1<F/\j+y<=U.length/\U.length=z.length/\O<z.length/\h Z/\((C.bi C/\(e w v).bi (e w v)/\t.bi t/\a0.bi a0/\an.bi an/\ar.bi ar/\t.bi t/\au.bi au/\True)/\aw O ao)/\av Z am aq (z.set O (ap % c))/\(s - Z).toNat<(s - x.1).toNat)/\(decide (x.1<s)=false->U.length=z.length/\b<=s/\s<F/\j+y<=U.length/\U.length=z.length/\I<z.length/\U.length=z.length/\b<=s/\s<F/\j+y<=U.length/\U.length=z.length/\I<z.length/\b<=q/\q<=n/\(ay true->(γj .u32 (x.2.1 % c)).bi ac/\(o w P 172 false).bi ad/\True)/\(ay false->(((C.bi C/\(e w v).bi (e w v)/\t.bi t/\a0.bi a0/\(γC .u64 0).bi (γj .u64 0)/\t.bi t/\(p).bi (f 0)/\True)/\aw I Y)/\(b<=b/\b<=s)/\(b<=x.2.1/\x.2.1<c)/\(E<V/\V<M)/\(b<=b/\b<=d)/\(ou P/\P.length=U.length)/\∃(W:List Int),(ou W/\W.length=U.length)/\(∀(m:Nat),m<j\/j+y<=m->bN W m b=bN U m b)/\bX (bO W j y)=E - V+ae/\(∀(m:Nat),m<j\/j+0<=m->bN P m b=bN W m b)/\bX (bO P j 0)+b=bX (bO W j 0)+bX [])/\∀(x:Int×Int×Int×List Int),let a5:=x.2.1*bX v;let a6:=x.2.2.1;let A:=x.2.2.2;let a1:=j+x.1.toNat;let a2:=x.1+d;let az:=γj .u64 x.2.1;let aA:=((bN A a1 b % a+bN v x.1.toNat b % a) % a+a6) % a;let aB:=aA / c;let aC:=γj .u64 aB;let aD:=f a2;let aE:=A.set a1 (aA % c);let aF:=o w aE 172 false;let aG:=λ(u u_1:Int) (u_2:List Int) ↦(b<=u/\u<=s)/\(b<=x.2.1/\x.2.1<c)/\(E<a5/\a5<M)/\(b<=u_1/\u_1<=d)/\(ou u_2/\u_2.length=U.length)/\∃(W:List Int),(ou W/\W.length=U.length)/\(∀(m:Nat),m<j\/j+y<=m->bN W m b=bN U m b)/\bX (bO W j y)=E - a5+ae/\(∀(m:Nat),m<j\/j+u.toNat<=m->bN u_2 m b=bN W m b)/\bX (bO u_2 j u.toNat)+c^u.toNat*u_1=bX (bO W j u.toNat)+bX (Δ u.toNat v);aG x.1 a6 A->(decide (x.1<s)=true->U.length=A.length/\b<=x.1/\x.1<F/\j+y<=U.length/\U.length=A.length/\a1<A.length/\b<=x.1/\x.1<D/\x.1.toNat<v.length/\b<=g/\g<=n/\U.length=A.length/\b<=x.1/\x.1<F/\j+y<=U.length/\U.length=A.length/\a1<A.length/\h a2/\((C.bi C/\(e w v).bi (e w v)/\t.bi t/\az.bi az/\aC.bi aC/\t.bi t/\aD.bi aD/\True)/\aF.bi aF/\True)/\aG a2 aB aE/\(s - a2).toNat<(s - x.1).toNat)/\(decide (x.1<s)=false->U.length=A.length/\b<=s/\s<F/\j+y<=U.length/\U.length=A.length/\I<A.length/\U.length=A.length/\b<=s/\s<F/\j+y<=U.length/\U.length=A.length/\I<A.length/\(γj .u32 ((x.2.1 - d) % a % c)).bi ac/\(o w (A.set I ((bN A I b+a6 % c) % c)) 172 false).bi ad/\True)));let aH:=h L/\b<=L/\L<D/\L.toNat<v.length/\(af=true->(((C.bi C/\(e w v).bi (e w v)/\t.bi t/\T.bi T/\(γC .u64 0).bi (γj .u64 0)/\(γC .u64 0).bi (γj .u64 0)/\t.bi t/\(p).bi (f 0)/\True)/\J.bi J/\True)/\(b<=b/\b<=s)/\(b<=G/\G<c)/\(E<(G+d)*bX v/\G*bX v<M)/\(b<=b/\b<c)/\(b<=b/\b<=d)/\(ou U/\U.length=U.length)/\(∀(m:Nat),m<j\/j+0<=m->bN U m b=bN U m b)/\S=S - G*bX []+b)/\aj)/\(af=false->((C.bi C/\(e w v).bi (e w v)/\t.bi t/\T.bi T/\ag.bi ag/\True)/\J.bi J/\True)/\((b<=G/\G<=l)/\(b<=N/\N<c)/\G*a3+N=a4/\E<(G+d)*bX v)/\G.toNat<x.1.toNat);let aI:=λ(u:Bool) ↦decide (gd.orI .u64 (x.2*c % a) (bN U (j+H.toNat) 0 % a)<x.1*(bN v H.toNat b % a) % a)=u;(b<=x.1/\x.1<=l)/\(b<=x.2/\x.2<c)/\x.1*a3+x.2=a4/\E<(x.1+d)*bX v->(ah=true->aH)/\(ah=false->h H/\b<=H/\H<D/\H.toNat<v.length/\b<=g/\g<=n/\h H/\U.length=U.length/\b<=H/\H<F/\j+y<=U.length/\U.length=U.length/\j+H.toNat<U.length/\(aI true->aH)/\(aI false->(((C.bi C/\(e w v).bi (e w v)/\t.bi t/\ai.bi ai/\(γC .u64 0).bi (γj .u64 0)/\(γC .u64 0).bi (γj .u64 0)/\t.bi t/\(p).bi (f 0)/\True)/\J.bi J/\True)/\(b<=b/\b<=s)/\(b<=x.1/\x.1<c)/\(E<(x.1+d)*bX v/\x.1*bX v<M)/\(b<=b/\b<c)/\(b<=b/\b<=d)/\(ou U/\U.length=U.length)/\(∀(m:Nat),m<j\/j+0<=m->bN U m b=bN U m b)/\S=S - x.1*bX []+b)/\aj))) (by kernel_rfl) ?_;simp only[vcs];have t1:((v.length:Int) - 1).toNat=v.length - 1:=by omega
 have t2:((v.length:Int) - 2).toNat=v.length - 2:=by omega
 have t3:((v.length:Int)).toNat=v.length:=by omega
 have hVe:=Vs hn rfl;have hXe:=@Vr U j v.length hn;have dv1:=dC hv (v.length - 1);have dv2:=dC hv (v.length - 2);have du0:=dC hU (j+v.length);have du1:=dC hU (j+(v.length - 1));have du2:=dC hU (j+(v.length - 2));have m1:bN v (v.length - 1) 0 % 18446744073709551616=bN v (v.length - 1) 0:=by omega
 have m2:bN v (v.length - 2) 0 % 18446744073709551616=bN v (v.length - 2) 0:=by omega
 have m3:bN U (j+v.length) 0 % 18446744073709551616=bN U (j+v.length) 0:=by omega
 have m4:bN U (j+(v.length - 1)) 0 % 18446744073709551616=bN U (j+(v.length - 1)) 0:=by omega
 have m5:bN U (j+(v.length - 2)) 0 % 18446744073709551616=bN U (j+(v.length - 2)) 0:=by omega
 have m6:bN U (j+v.length) 0*4294967296 % 18446744073709551616=bN U (j+v.length) 0*4294967296:=by omega
 have hor:=FH du0.1 du0.2 du1.1 du1.2;have htop:0<=bN U (j+v.length) 0*4294967296+bN U (j+(v.length - 1)) 0:=by omega
 have hx':bX (bO U j (v.length+1))<4294967296*bX v:=hx;have hP:=pow_pos (v.length - 2);have hrv:=ek (lM hv (v.length - 2));have awN:=mQ (lM hv (v.length - 2));rw[List.length_take,Nat.min_eq_left (by omega)] at awN;have hru:=ek (rD hU (j:=j) (k:=v.length - 2));have aC8:=sX hU (j:=j) (k:=v.length - 2);have hV0:=ek hv;have hX0:=ek (rD hU (j:=j) (k:=v.length+1));have htp:=Vt hP hVe hXe awN hru du2.1 du1.1 dv2.2 hx';have hax:(mf.mk U j (v.length+1) U.length v).x=bX (bO U j (v.length+1)):=rfl;simp only[hax,t1,t2,t3,m1,m2,m3,m4,m5,m6,hor,ε9 htop,ζa htop];generalize aSq:bN v (v.length - 1) 0=v1 at*;generalize aSr:bN v (v.length - 2) 0=v2 at*;generalize aY2:bN U (j+v.length) 0=u0 at*;generalize aSs:bN U (j+(v.length - 1)) 0=u1 at*;generalize aSt:bN U (j+(v.length - 2)) 0=u2 at*;have hqr:=εg (u0*4294967296+u1) v1;have hr0:=δQ (u0*4294967296+u1) (show v1≠0 by omega);have hr1:=δr (u0*4294967296+u1) (show 0<v1 by omega);have hg0:0<=(u0*4294967296+u1) / v1:=δ1 htop (by omega);generalize hge:(u0*4294967296+u1) / v1=g0 at*;generalize hre:(u0*4294967296+u1) % v1=r0 at*;have hg1:g0<=4294967297:=by
  by_cases h:g0<=4294967297;·exact h
  ·exfalso;have:=Φ (show(4294967298:Int)<=g0 by omega) (show 0<=v1 by omega);omega
 have aJF:g0*v1+r0=u1+4294967296*u0:=by rw[δ5 g0];omega
 have hst:=Vu hP hVe hXe hrv aC8 dv2.1 du2.2 hg0 aJF hr1;have hin:VL .u64 g0:=u64_in hg0 (by omega);repeat refine γm (by omega) ?_
 clear t1 t2 t3 m1 m2 m3 m4 m5 m6 hor htop hge hre hqr hr0 hr1 hg0 hg1 aJF hst hin aSq aSr aSs aSt hx;rintro⟨g,r⟩ ⟨⟨g0',g1'⟩,⟨r0',r1'⟩,hgr,hgx⟩;simp only at g0' g1' r0' r1' hgr hgx ⊢;have azh:0<g+1:=by omega
 have e1:(r+v1) % 18446744073709551616=r+v1:=by omega
 have e2:r*4294967296 % 18446744073709551616=r*4294967296:=by omega
 have gv0:0<=g*v2:=γy g0' dv2.1;have gv1:g*v2<=4294967297*4294967295:=δL (by omega) (by omega) dv2.1 (by omega);have e3:g*v2 % 18446744073709551616=g*v2:=by omega
 have hor2:=FH r0' r1' du2.1 du2.2;have aC9:g*v1+r=u1+4294967296*u0:=hgr;have aJG:4294967296<=r+v1->g<=4294967296:=λh=>by
  by_cases hg:g<=4294967296;·exact hg
  ·have:g=4294967297:=by omega
   subst this;omega
 have dec:(4294967296<=g\/r*4294967296+u2<g*v2)->(bX (bO U j (v.length+1))<g*bX v/\(g - 1) % 18446744073709551616=g - 1/\0<=g - 1/\(g - 1)*v1+(r+v1)=u1+4294967296*u0):=λh=>by
  have h1:=Vv hP hVe hXe hrv aC8 hx' hV0 g0' aC9 h;have h2:g≠0:=by
   rintro rfl;omega
  refine⟨h1,by omega,by omega,?_⟩;rw[ζX,εz];omega
 simp only[e1,e2,e3,hor2];have brk:(4294967296<=g\/r*4294967296+u2<g*v2)->4294967296<=r+v1->∃gg,gg=(g - 1) % 18446744073709551616/\(0<=gg/\gg<4294967296)/\bX (bO U j (v.length+1))<(gg+1)*bX v/\gg*bX v<bX (bO U j (v.length+1))+bX v:=λh hb=>by
  obtain⟨k1,k2,k3,k4⟩:=dec h;have k5:=aJG hb;rw[k2];refine⟨_,rfl,by omega,by rw[show g - 1+1=g by omega];exact k1,MY hP hVe hXe hrv awN hru hv1 dv2.1 k3 (by omega) k4 ?_⟩;have:=δL (show g - 1<=4294967295 by omega) (show v2<=4294967295 by omega) dv2.1 (by omega);omega
 have nbr:(4294967296<=g\/r*4294967296+u2<g*v2)->¬4294967296<=r+v1->(0<=(g - 1) % 18446744073709551616/\(g - 1) % 18446744073709551616<=4294967297)/\(g - 1) % 18446744073709551616*v1+(r+v1)=u1+4294967296*u0/\bX (bO U j (v.length+1))<((g - 1) % 18446744073709551616+1)*bX v/\((g - 1) % 18446744073709551616).toNat<g.toNat:=λh hb=>by
  obtain⟨k1,k2,k3,k4⟩:=dec h;rw[k2];exact⟨by omega,k4,by rw[show g - 1+1=g by omega];exact k1,by omega⟩
 have ext:¬4294967296<=g->¬r*4294967296+u2<g*v2->∃gg,gg=g/\(0<=gg/\gg<4294967296)/\bX (bO U j (v.length+1))<(gg+1)*bX v/\gg*bX v<bX (bO U j (v.length+1))+bX v:=λh h2=>
  ⟨_,rfl,by omega,hgx,MY hP hVe hXe hrv awN hru hv1 dv2.1 g0' (by omega) aC9 (by omega)⟩;clear aC9 azh e1 e2 e3 gv0 gv1 hor2 hVe hXe hrv awN hru aC8 aJG dec htp;refine⟨λhB=>?_,λhB=>?_⟩
 ·refine⟨by omega,by omega,by omega,by omega,?_⟩;refine⟨λhb=>?_,λhb=>?_⟩
  ·obtain⟨gg,hgg,f0,f2,f3⟩:=brk (.inl hB) hb;rw[<-hgg];clear hB hb;clear hgg brk nbr ext hgx hgr;refine⟨?_,?_⟩
   ·repeat' refine γm ?_ ?_
    all_goals first|omega|exact hU|exact f2|exact f3|exact λ_ _=>trivial|(simp only[bX];omega)
   clear f0 f2 f3;rintro⟨i,ga,c,b,R⟩ ⟨⟨i0,i1⟩,⟨ga0,ga1⟩,⟨f2,f3⟩,⟨c0,c1⟩,⟨b0,b1⟩,⟨hR,hRl⟩,ho,he⟩;simp only at i0 i1 ga0 ga1 f2 f3 c0 c1 b0 b1 hR hRl ho he ⊢;refine⟨λilt=>?_,λige=>?_⟩
   ·have x:=dC hv i.toNat;have y:=dC hR (j+i.toNat);have gx0:0<=ga*bN v i.toNat 0:=γy ga0 x.1;have gx1:ga*bN v i.toNat 0<=4294967295*4294967295:=δL (by omega) (by omega) x.1 (by omega);have q1:bN v i.toNat 0 % 18446744073709551616=bN v i.toNat 0:=by omega
    have q2:bN R (j+i.toNat) 0 % 18446744073709551616=bN R (j+i.toNat) 0:=by omega
    have q3:(ga*bN v i.toNat 0 % 18446744073709551616+c) % 18446744073709551616=ga*bN v i.toNat 0+c:=by omega
    have hi1:(i+1).toNat=i.toNat+1:=by omega
    rw[q1,q2,q3,F8 (by omega) (by omega),hi1];generalize hq:((bN R (j+i.toNat) 0 - (ga*bN v i.toNat 0+c) % 4294967296) % 18446744073709551616 - b) % 18446744073709551616=q;obtain⟨k1,k2,k3,k4,k5⟩:=F7 (d:=q % 4294967296) (e:=q / 9223372036854775808) hR hRl hv ga0 ga1 c0 c1 b0 b1 (show j+i.toNat<U.length by omega) ho he (by omega) (by omega);repeat' refine γm ?_ ?_
    all_goals first|omega|exact k1|exact k2|exact k3|exact k4|exact k5|exact f2|exact f3
   ·have hi:i.toNat=v.length:=by omega
    rw[hi,φ] at he;rw[hi] at ho;have hun:=ho (j+v.length) (.inr (π _));have du:=dC hU (j+v.length);have q2:bN R (j+v.length) 0 % 18446744073709551616=bN R (j+v.length) 0:=by rw[hun];omega
    have hXs:=@kT U j v.length;rw[q2];generalize hq:((bN R (j+v.length) 0 - c) % 18446744073709551616 - b) % 18446744073709551616=q;have alO:ou (R.set (j+v.length) (q % 4294967296)):=lL hR (by omega) (by omega);have hlen:(R.set (j+v.length) (q % 4294967296)).length=U.length:=by simp[hRl]
    have hout:∀m,(m<j\/j+(v.length+1)<=m)->bN (R.set (j+v.length) (q % 4294967296)) m 0=bN U m 0:=λm hm=>by rw[nN (by omega)];exact ho m (by omega)
    have hval:bX (bO (R.set (j+v.length) (q % 4294967296)) j (v.length+1))=bX (bO U j (v.length+1)) - ga*bX v+4294967296^(v.length+1)*(q / 9223372036854775808):=by
     rw[kT,rE (π _),qp (by omega),he,hXs,γW];have hd:q % 4294967296 - 4294967296*(q / 9223372036854775808)=bN U (j+v.length) 0 - c - b:=by rw[hun] at hq;omega
     generalize (4294967296:Int)^v.length=B;have e:B*4294967296*(q / 9223372036854775808)=B*(q % 4294967296+c+b - bN U (j+v.length) 0):=by rw[δn];congr 1;omega
     rw[e];simp only[εy,εN];omega
    generalize hW:R.set (j+v.length) (q % 4294967296)=W at*;have hbd:=sX alO (j:=j) (k:=v.length+1);have hnn:=ek (rD alO (j:=j) (k:=v.length+1));have q3:0<=q/\q<18446744073709551616:=by omega
    clear hq hun du q2 he ho hR;repeat refine γm (by omega) ?_
    refine⟨λhz=>?_,λhz=>?_⟩
    ·rw[hz,δM,εi] at hval;obtain⟨w1,w2⟩:=sW (q:=ga) (show ga*bX v<=bX (bO U j (v.length+1)) by omega) f2;refine⟨by rw[w1];omega,?_⟩;have hfin:W=iu U j (gl (v.length+1) (bX (bO U j (v.length+1)) % bX v)):=vK alO hlen (by omega) hout (by rw[hval,w2]);rw[hfin];rfl
    ·have hq1:q / 9223372036854775808=1:=by omega
     rw[hq1,ε4] at hval;have f4:bX (bO U j (v.length+1))<ga*bX v:=by omega
     refine⟨?_,?_⟩
     ·repeat' refine γm ?_ ?_
      all_goals first|omega|exact alO|exact hlen|exact⟨W,⟨alO,hlen⟩,hout,hval,λ_ _=>rfl,by simp only[bX]⟩
     clear alO hlen hout hval hW hbd hnn q3 hz hq1 f4 f2 f3 c0 c1 b0 b1 i0 i1 ga0 ga1;rintro⟨i2,gb,c2,R2⟩ ⟨⟨i0,i1⟩,⟨gb0,gb1⟩,⟨f5,f6⟩,⟨c0,c1⟩,⟨hR2,apw⟩,W2,⟨hW2,arV⟩,ho2,hvW,ho3,he3⟩;simp only at i0 i1 gb0 gb1 f5 f6 c0 c1 hR2 apw ho3 he3 ⊢;refine⟨λilt=>?_,λige=>?_⟩
     ·have x:=dC hv i2.toNat;have y:=dC hR2 (j+i2.toNat);have hi1:(i2+1).toNat=i2.toNat+1:=by omega
      rw[hi1];have hs:((bN R2 (j+i2.toNat) 0 % 18446744073709551616+bN v i2.toNat 0 % 18446744073709551616) % 18446744073709551616+c2) % 18446744073709551616=bN R2 (j+i2.toNat) 0+bN v i2.toNat 0+c2:=by omega
      rw[hs];obtain⟨k1,k2,k3,k4,k5⟩:=F6 hR2 (apw.trans arV.symm) hv c0 c1 (show j+i2.toNat<W2.length by omega) hW2 ho3 he3 rfl;repeat' refine γm ?_ ?_
      all_goals first|omega|exact k1|exact f5|exact f6|exact⟨W2,⟨hW2,arV⟩,ho2,hvW,k4,k5⟩
     ·have hi2:i2.toNat=v.length:=by omega
      rw[hi2,φ] at he3;rw[hi2] at ho3;have hun:=ho3 (j+v.length) (.inr (π _));have du:=dC hW2 (j+v.length);have hXs:=@kT W2 j v.length;have hc2:c2 % 4294967296=c2:=by omega
      rw[hc2,hun];have hF:ou (R2.set (j+v.length) ((bN W2 (j+v.length) 0+c2) % 4294967296)):=lL hR2 (by omega) (by omega);have hFl:(R2.set (j+v.length) ((bN W2 (j+v.length) 0+c2) % 4294967296)).length=U.length:=by simp[apw]
      have hFo:∀m,(m<j\/j+(v.length+1)<=m)->bN (R2.set (j+v.length) ((bN W2 (j+v.length) 0+c2) % 4294967296)) m 0=bN U m 0:=λm hm=>by rw[nN (by omega),ho3 m (by omega)];exact ho2 m hm
      have hFv:bX (bO (R2.set (j+v.length) ((bN W2 (j+v.length) 0+c2) % 4294967296)) j (v.length+1))=bX (bO U j (v.length+1)) - gb*bX v+4294967296^(v.length+1)+bX v - 4294967296^(v.length+1)*((bN W2 (j+v.length) 0+c2) / 4294967296):=by
       rw[kT,rE (π _),qp (by omega),<-hvW,hXs,γW];generalize (4294967296:Int)^v.length=B at*;have e:B*4294967296*((bN W2 (j+v.length) 0+c2) / 4294967296)=B*(bN W2 (j+v.length) 0+c2 - (bN W2 (j+v.length) 0+c2) % 4294967296):=by rw[δn];congr 1;omega
       rw[e];simp only[εy,εN];omega
      have hbd:=sX hF (j:=j) (k:=v.length+1);have hk:(bN W2 (j+v.length) 0+c2) / 4294967296=1:=by
       by_cases h:(bN W2 (j+v.length) 0+c2) / 4294967296=1;·exact h
       ·have h0:(bN W2 (j+v.length) 0+c2) / 4294967296=0:=by omega
        rw[h0,δM] at hFv;omega
      rw[hk,ε4] at hFv;have e1:(gb - 1)*bX v=gb*bX v - bX v:=by rw[ζX,εz]
      obtain⟨w1,w2⟩:=sW (q:=gb - 1) (show(gb - 1)*bX v<=bX (bO U j (v.length+1)) by omega) (by rw[show gb - 1+1=gb by omega];exact f5);have azh:0<gb:=by
       by_cases h:0<gb;·exact h
       ·have:gb=0:=by omega
        subst this;omega
      have hfin:R2.set (j+v.length) ((bN W2 (j+v.length) 0+c2) % 4294967296)=iu U j (gl (v.length+1) (bX (bO U j (v.length+1)) % bX v)):=vK hF hFl (by omega) hFo (by rw[hFv,w2,e1];omega);repeat refine γm (by omega) ?_
      rw[hfin];rfl
  ·obtain⟨k1,k2,k3,k4⟩:=nbr (.inl hB) hb;repeat' refine γm ?_ ?_
   all_goals first|omega|exact k2|exact k3
 ·repeat refine γm (by omega) ?_
  refine⟨λhc=>?_,λhc=>?_⟩
  ·repeat refine γm (by omega) ?_
   refine⟨λhb=>?_,λhb=>?_⟩
   ·obtain⟨gg,hgg,f0,f2,f3⟩:=brk (.inr hc) hb;rw[<-hgg];clear hB hb hc;clear hgg brk nbr ext hgx hgr;refine⟨?_,?_⟩
    ·repeat' refine γm ?_ ?_
     all_goals first|omega|exact hU|exact f2|exact f3|exact λ_ _=>trivial|(simp only[bX];omega)
    clear f0 f2 f3;rintro⟨i,ga,c,b,R⟩ ⟨⟨i0,i1⟩,⟨ga0,ga1⟩,⟨f2,f3⟩,⟨c0,c1⟩,⟨b0,b1⟩,⟨hR,hRl⟩,ho,he⟩;simp only at i0 i1 ga0 ga1 f2 f3 c0 c1 b0 b1 hR hRl ho he ⊢;refine⟨λilt=>?_,λige=>?_⟩
    ·have x:=dC hv i.toNat;have y:=dC hR (j+i.toNat);have gx0:0<=ga*bN v i.toNat 0:=γy ga0 x.1;have gx1:ga*bN v i.toNat 0<=4294967295*4294967295:=δL (by omega) (by omega) x.1 (by omega);have q1:bN v i.toNat 0 % 18446744073709551616=bN v i.toNat 0:=by omega
     have q2:bN R (j+i.toNat) 0 % 18446744073709551616=bN R (j+i.toNat) 0:=by omega
     have q3:(ga*bN v i.toNat 0 % 18446744073709551616+c) % 18446744073709551616=ga*bN v i.toNat 0+c:=by omega
     have hi1:(i+1).toNat=i.toNat+1:=by omega
     rw[q1,q2,q3,F8 (by omega) (by omega),hi1];generalize hq:((bN R (j+i.toNat) 0 - (ga*bN v i.toNat 0+c) % 4294967296) % 18446744073709551616 - b) % 18446744073709551616=q;obtain⟨k1,k2,k3,k4,k5⟩:=F7 (d:=q % 4294967296) (e:=q / 9223372036854775808) hR hRl hv ga0 ga1 c0 c1 b0 b1 (show j+i.toNat<U.length by omega) ho he (by omega) (by omega);repeat' refine γm ?_ ?_
     all_goals first|omega|exact k1|exact k2|exact k3|exact k4|exact k5|exact f2|exact f3
    ·have hi:i.toNat=v.length:=by omega
     rw[hi,φ] at he;rw[hi] at ho;have hun:=ho (j+v.length) (.inr (π _));have du:=dC hU (j+v.length);have q2:bN R (j+v.length) 0 % 18446744073709551616=bN R (j+v.length) 0:=by rw[hun];omega
     have hXs:=@kT U j v.length;rw[q2];generalize hq:((bN R (j+v.length) 0 - c) % 18446744073709551616 - b) % 18446744073709551616=q;have alO:ou (R.set (j+v.length) (q % 4294967296)):=lL hR (by omega) (by omega);have hlen:(R.set (j+v.length) (q % 4294967296)).length=U.length:=by simp[hRl]
     have hout:∀m,(m<j\/j+(v.length+1)<=m)->bN (R.set (j+v.length) (q % 4294967296)) m 0=bN U m 0:=λm hm=>by rw[nN (by omega)];exact ho m (by omega)
     have hval:bX (bO (R.set (j+v.length) (q % 4294967296)) j (v.length+1))=bX (bO U j (v.length+1)) - ga*bX v+4294967296^(v.length+1)*(q / 9223372036854775808):=by
      rw[kT,rE (π _),qp (by omega),he,hXs,γW];have hd:q % 4294967296 - 4294967296*(q / 9223372036854775808)=bN U (j+v.length) 0 - c - b:=by rw[hun] at hq;omega
      generalize (4294967296:Int)^v.length=B;have e:B*4294967296*(q / 9223372036854775808)=B*(q % 4294967296+c+b - bN U (j+v.length) 0):=by rw[δn];congr 1;omega
      rw[e];simp only[εy,εN];omega
     generalize hW:R.set (j+v.length) (q % 4294967296)=W at*;have hbd:=sX alO (j:=j) (k:=v.length+1);have hnn:=ek (rD alO (j:=j) (k:=v.length+1));have q3:0<=q/\q<18446744073709551616:=by omega
     clear hq hun du q2 he ho hR;repeat refine γm (by omega) ?_
     refine⟨λhz=>?_,λhz=>?_⟩
     ·rw[hz,δM,εi] at hval;obtain⟨w1,w2⟩:=sW (q:=ga) (show ga*bX v<=bX (bO U j (v.length+1)) by omega) f2;refine⟨by rw[w1];omega,?_⟩;have hfin:W=iu U j (gl (v.length+1) (bX (bO U j (v.length+1)) % bX v)):=vK alO hlen (by omega) hout (by rw[hval,w2]);rw[hfin];rfl
     ·have hq1:q / 9223372036854775808=1:=by omega
      rw[hq1,ε4] at hval;have f4:bX (bO U j (v.length+1))<ga*bX v:=by omega
      refine⟨?_,?_⟩
      ·repeat' refine γm ?_ ?_
       all_goals first|omega|exact alO|exact hlen|exact⟨W,⟨alO,hlen⟩,hout,hval,λ_ _=>rfl,by simp only[bX]⟩
      clear alO hlen hout hval hW hbd hnn q3 hz hq1 f4 f2 f3 c0 c1 b0 b1 i0 i1 ga0 ga1;rintro⟨i2,gb,c2,R2⟩ ⟨⟨i0,i1⟩,⟨gb0,gb1⟩,⟨f5,f6⟩,⟨c0,c1⟩,⟨hR2,apw⟩,W2,⟨hW2,arV⟩,ho2,hvW,ho3,he3⟩;simp only at i0 i1 gb0 gb1 f5 f6 c0 c1 hR2 apw ho3 he3 ⊢;refine⟨λilt=>?_,λige=>?_⟩
      ·have x:=dC hv i2.toNat;have y:=dC hR2 (j+i2.toNat);have hi1:(i2+1).toNat=i2.toNat+1:=by omega
       rw[hi1];have hs:((bN R2 (j+i2.toNat) 0 % 18446744073709551616+bN v i2.toNat 0 % 18446744073709551616) % 18446744073709551616+c2) % 18446744073709551616=bN R2 (j+i2.toNat) 0+bN v i2.toNat 0+c2:=by omega
       rw[hs];obtain⟨k1,k2,k3,k4,k5⟩:=F6 hR2 (apw.trans arV.symm) hv c0 c1 (show j+i2.toNat<W2.length by omega) hW2 ho3 he3 rfl;repeat' refine γm ?_ ?_
       all_goals first|omega|exact k1|exact f5|exact f6|exact⟨W2,⟨hW2,arV⟩,ho2,hvW,k4,k5⟩
      ·have hi2:i2.toNat=v.length:=by omega
       rw[hi2,φ] at he3;rw[hi2] at ho3;have hun:=ho3 (j+v.length) (.inr (π _));have du:=dC hW2 (j+v.length);have hXs:=@kT W2 j v.length;have hc2:c2 % 4294967296=c2:=by omega
       rw[hc2,hun];have hF:ou (R2.set (j+v.length) ((bN W2 (j+v.length) 0+c2) % 4294967296)):=lL hR2 (by omega) (by omega);have hFl:(R2.set (j+v.length) ((bN W2 (j+v.length) 0+c2) % 4294967296)).length=U.length:=by simp[apw]
       have hFo:∀m,(m<j\/j+(v.length+1)<=m)->bN (R2.set (j+v.length) ((bN W2 (j+v.length) 0+c2) % 4294967296)) m 0=bN U m 0:=λm hm=>by rw[nN (by omega),ho3 m (by omega)];exact ho2 m hm
       have hFv:bX (bO (R2.set (j+v.length) ((bN W2 (j+v.length) 0+c2) % 4294967296)) j (v.length+1))=bX (bO U j (v.length+1)) - gb*bX v+4294967296^(v.length+1)+bX v - 4294967296^(v.length+1)*((bN W2 (j+v.length) 0+c2) / 4294967296):=by
        rw[kT,rE (π _),qp (by omega),<-hvW,hXs,γW];generalize (4294967296:Int)^v.length=B at*;have e:B*4294967296*((bN W2 (j+v.length) 0+c2) / 4294967296)=B*(bN W2 (j+v.length) 0+c2 - (bN W2 (j+v.length) 0+c2) % 4294967296):=by rw[δn];congr 1;omega
        rw[e];simp only[εy,εN];omega
       have hbd:=sX hF (j:=j) (k:=v.length+1);have hk:(bN W2 (j+v.length) 0+c2) / 4294967296=1:=by
        by_cases h:(bN W2 (j+v.length) 0+c2) / 4294967296=1;·exact h
        ·have h0:(bN W2 (j+v.length) 0+c2) / 4294967296=0:=by omega
         rw[h0,δM] at hFv;omega
       rw[hk,ε4] at hFv;have e1:(gb - 1)*bX v=gb*bX v - bX v:=by rw[ζX,εz]
       obtain⟨w1,w2⟩:=sW (q:=gb - 1) (show(gb - 1)*bX v<=bX (bO U j (v.length+1)) by omega) (by rw[show gb - 1+1=gb by omega];exact f5);have azh:0<gb:=by
        by_cases h:0<gb;·exact h
        ·have:gb=0:=by omega
         subst this;omega
       have hfin:R2.set (j+v.length) ((bN W2 (j+v.length) 0+c2) % 4294967296)=iu U j (gl (v.length+1) (bX (bO U j (v.length+1)) % bX v)):=vK hF hFl (by omega) hFo (by rw[hFv,w2,e1];omega);repeat refine γm (by omega) ?_
       rw[hfin];rfl
   ·obtain⟨k1,k2,k3,k4⟩:=nbr (.inr hc) hb;repeat' refine γm ?_ ?_
    all_goals first|omega|exact k2|exact k3
  ·obtain⟨gg,hgg,f0,f2,f3⟩:=ext hB hc;rw[<-hgg];clear hB hc;clear hgg brk nbr ext hgx hgr;refine⟨?_,?_⟩
   ·repeat' refine γm ?_ ?_
    all_goals first|omega|exact hU|exact f2|exact f3|exact λ_ _=>trivial|(simp only[bX];omega)
   clear f0 f2 f3;rintro⟨i,ga,c,b,R⟩ ⟨⟨i0,i1⟩,⟨ga0,ga1⟩,⟨f2,f3⟩,⟨c0,c1⟩,⟨b0,b1⟩,⟨hR,hRl⟩,ho,he⟩;simp only at i0 i1 ga0 ga1 f2 f3 c0 c1 b0 b1 hR hRl ho he ⊢;refine⟨λilt=>?_,λige=>?_⟩
   ·have x:=dC hv i.toNat;have y:=dC hR (j+i.toNat);have gx0:0<=ga*bN v i.toNat 0:=γy ga0 x.1;have gx1:ga*bN v i.toNat 0<=4294967295*4294967295:=δL (by omega) (by omega) x.1 (by omega);have q1:bN v i.toNat 0 % 18446744073709551616=bN v i.toNat 0:=by omega
    have q2:bN R (j+i.toNat) 0 % 18446744073709551616=bN R (j+i.toNat) 0:=by omega
    have q3:(ga*bN v i.toNat 0 % 18446744073709551616+c) % 18446744073709551616=ga*bN v i.toNat 0+c:=by omega
    have hi1:(i+1).toNat=i.toNat+1:=by omega
    rw[q1,q2,q3,F8 (by omega) (by omega),hi1];generalize hq:((bN R (j+i.toNat) 0 - (ga*bN v i.toNat 0+c) % 4294967296) % 18446744073709551616 - b) % 18446744073709551616=q;obtain⟨k1,k2,k3,k4,k5⟩:=F7 (d:=q % 4294967296) (e:=q / 9223372036854775808) hR hRl hv ga0 ga1 c0 c1 b0 b1 (show j+i.toNat<U.length by omega) ho he (by omega) (by omega);repeat' refine γm ?_ ?_
    all_goals first|omega|exact k1|exact k2|exact k3|exact k4|exact k5|exact f2|exact f3
   ·have hi:i.toNat=v.length:=by omega
    rw[hi,φ] at he;rw[hi] at ho;have hun:=ho (j+v.length) (.inr (π _));have du:=dC hU (j+v.length);have q2:bN R (j+v.length) 0 % 18446744073709551616=bN R (j+v.length) 0:=by rw[hun];omega
    have hXs:=@kT U j v.length;rw[q2];generalize hq:((bN R (j+v.length) 0 - c) % 18446744073709551616 - b) % 18446744073709551616=q;have alO:ou (R.set (j+v.length) (q % 4294967296)):=lL hR (by omega) (by omega);have hlen:(R.set (j+v.length) (q % 4294967296)).length=U.length:=by simp[hRl]
    have hout:∀m,(m<j\/j+(v.length+1)<=m)->bN (R.set (j+v.length) (q % 4294967296)) m 0=bN U m 0:=λm hm=>by rw[nN (by omega)];exact ho m (by omega)
    have hval:bX (bO (R.set (j+v.length) (q % 4294967296)) j (v.length+1))=bX (bO U j (v.length+1)) - ga*bX v+4294967296^(v.length+1)*(q / 9223372036854775808):=by
     rw[kT,rE (π _),qp (by omega),he,hXs,γW];have hd:q % 4294967296 - 4294967296*(q / 9223372036854775808)=bN U (j+v.length) 0 - c - b:=by rw[hun] at hq;omega
     generalize (4294967296:Int)^v.length=B;have e:B*4294967296*(q / 9223372036854775808)=B*(q % 4294967296+c+b - bN U (j+v.length) 0):=by rw[δn];congr 1;omega
     rw[e];simp only[εy,εN];omega
    generalize hW:R.set (j+v.length) (q % 4294967296)=W at*;have hbd:=sX alO (j:=j) (k:=v.length+1);have hnn:=ek (rD alO (j:=j) (k:=v.length+1));have q3:0<=q/\q<18446744073709551616:=by omega
    clear hq hun du q2 he ho hR;repeat refine γm (by omega) ?_
    refine⟨λhz=>?_,λhz=>?_⟩
    ·rw[hz,δM,εi] at hval;obtain⟨w1,w2⟩:=sW (q:=ga) (show ga*bX v<=bX (bO U j (v.length+1)) by omega) f2;refine⟨by rw[w1];omega,?_⟩;have hfin:W=iu U j (gl (v.length+1) (bX (bO U j (v.length+1)) % bX v)):=vK alO hlen (by omega) hout (by rw[hval,w2]);rw[hfin];rfl
    ·have hq1:q / 9223372036854775808=1:=by omega
     rw[hq1,ε4] at hval;have f4:bX (bO U j (v.length+1))<ga*bX v:=by omega
     refine⟨?_,?_⟩
     ·repeat' refine γm ?_ ?_
      all_goals first|omega|exact alO|exact hlen|exact⟨W,⟨alO,hlen⟩,hout,hval,λ_ _=>rfl,by simp only[bX]⟩
     clear alO hlen hout hval hW hbd hnn q3 hz hq1 f4 f2 f3 c0 c1 b0 b1 i0 i1 ga0 ga1;rintro⟨i2,gb,c2,R2⟩ ⟨⟨i0,i1⟩,⟨gb0,gb1⟩,⟨f5,f6⟩,⟨c0,c1⟩,⟨hR2,apw⟩,W2,⟨hW2,arV⟩,ho2,hvW,ho3,he3⟩;simp only at i0 i1 gb0 gb1 f5 f6 c0 c1 hR2 apw ho3 he3 ⊢;refine⟨λilt=>?_,λige=>?_⟩
     ·have x:=dC hv i2.toNat;have y:=dC hR2 (j+i2.toNat);have hi1:(i2+1).toNat=i2.toNat+1:=by omega
      rw[hi1];have hs:((bN R2 (j+i2.toNat) 0 % 18446744073709551616+bN v i2.toNat 0 % 18446744073709551616) % 18446744073709551616+c2) % 18446744073709551616=bN R2 (j+i2.toNat) 0+bN v i2.toNat 0+c2:=by omega
      rw[hs];obtain⟨k1,k2,k3,k4,k5⟩:=F6 hR2 (apw.trans arV.symm) hv c0 c1 (show j+i2.toNat<W2.length by omega) hW2 ho3 he3 rfl;repeat' refine γm ?_ ?_
      all_goals first|omega|exact k1|exact f5|exact f6|exact⟨W2,⟨hW2,arV⟩,ho2,hvW,k4,k5⟩
     ·have hi2:i2.toNat=v.length:=by omega
      rw[hi2,φ] at he3;rw[hi2] at ho3;have hun:=ho3 (j+v.length) (.inr (π _));have du:=dC hW2 (j+v.length);have hXs:=@kT W2 j v.length;have hc2:c2 % 4294967296=c2:=by omega
      rw[hc2,hun];have hF:ou (R2.set (j+v.length) ((bN W2 (j+v.length) 0+c2) % 4294967296)):=lL hR2 (by omega) (by omega);have hFl:(R2.set (j+v.length) ((bN W2 (j+v.length) 0+c2) % 4294967296)).length=U.length:=by simp[apw]
      have hFo:∀m,(m<j\/j+(v.length+1)<=m)->bN (R2.set (j+v.length) ((bN W2 (j+v.length) 0+c2) % 4294967296)) m 0=bN U m 0:=λm hm=>by rw[nN (by omega),ho3 m (by omega)];exact ho2 m hm
      have hFv:bX (bO (R2.set (j+v.length) ((bN W2 (j+v.length) 0+c2) % 4294967296)) j (v.length+1))=bX (bO U j (v.length+1)) - gb*bX v+4294967296^(v.length+1)+bX v - 4294967296^(v.length+1)*((bN W2 (j+v.length) 0+c2) / 4294967296):=by
       rw[kT,rE (π _),qp (by omega),<-hvW,hXs,γW];generalize (4294967296:Int)^v.length=B at*;have e:B*4294967296*((bN W2 (j+v.length) 0+c2) / 4294967296)=B*(bN W2 (j+v.length) 0+c2 - (bN W2 (j+v.length) 0+c2) % 4294967296):=by rw[δn];congr 1;omega
       rw[e];simp only[εy,εN];omega
      have hbd:=sX hF (j:=j) (k:=v.length+1);have hk:(bN W2 (j+v.length) 0+c2) / 4294967296=1:=by
       by_cases h:(bN W2 (j+v.length) 0+c2) / 4294967296=1;·exact h
       ·have h0:(bN W2 (j+v.length) 0+c2) / 4294967296=0:=by omega
        rw[h0,δM] at hFv;omega
      rw[hk,ε4] at hFv;have e1:(gb - 1)*bX v=gb*bX v - bX v:=by rw[ζX,εz]
      obtain⟨w1,w2⟩:=sW (q:=gb - 1) (show(gb - 1)*bX v<=bX (bO U j (v.length+1)) by omega) (by rw[show gb - 1+1=gb by omega];exact f5);have azh:0<gb:=by
       by_cases h:0<gb;·exact h
       ·have:gb=0:=by omega
        subst this;omega
      have hfin:R2.set (j+v.length) ((bN W2 (j+v.length) 0+c2) % 4294967296)=iu U j (gl (v.length+1) (bX (bO U j (v.length+1)) % bX v)):=vK hF hFl (by omega) hFo (by rw[hFv,w2,e1];omega);repeat refine γm (by omega) ?_
      rw[hfin];rfl
end Go.Vi
