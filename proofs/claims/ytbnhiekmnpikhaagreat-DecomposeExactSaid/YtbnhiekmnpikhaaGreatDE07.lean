import Derived.Test.YtbnhiekmnpikhaaGreatDE06
set_option maxRecDepth 100000
set_option maxHeartbeats 4000000
set_option linter.all false
open And renaming intro->γm
open BitVec renaming ofInt->γt
open Classical renaming not_not->γe
open Go.Vi.SV renaming si->γj,row->γa,ow->γ1,il->γC
open Int renaming toNat_natCast->γk,le_trans->ζh,pow_succ->γW,mul_add->εy,add_comm->ζO,emod_nonneg->δQ,emod_lt_of_pos->δr,ediv_nonneg->δ1,mul_ediv_add_emod->εg,ediv_eq_zero_of_lt->εK,emod_eq_of_lt->δO,eq_ofNat_of_zero_le->δJ,tdiv_eq_ediv_of_nonneg->ε9,tmod_eq_emod_of_nonneg->ζa,mul_nonneg->γy,mul_le_mul->δL,mul_le_mul_of_nonneg_left->Φ,le_of_lt->γg,mul_le_mul_of_nonneg_right->γX,one_mul->εz,mul_comm->δ5,sub_mul->ζX,mul_assoc->δn,mul_sub->εN,mul_zero->δM,add_zero->εi,mul_one->ε4
open List renaming drop->γ4,drop_length->δE,cons_append->γM,take->Δ,mem_of_mem_take->γn,take_length->φ,length_cons->γK,mem_map->Γ,range->ω,mem_filter->Ψ,foldl_cons->εb,mem_cons->γq,map_append->γb,map_cons->ξ,mem_append->γi,nodup_cons->γR,pairwise_cons->γr,all_eq_true->ψ,mem_range->γD,filter_sublist->γo,getElem?_cons_succ->γS,map_map->γP,drop_of_length_le->εa,replicate->δ,range_succ->εf,take_of_length_le->γu,map_nil->γw,replicate_zero->ε3,mem_singleton->δd,mem_of_mem_drop->γY
open List.Nodup renaming sublist->ζ0
open List.cons renaming injEq->Θ
open Nat renaming le_refl->π
open Option renaming map->ζw,isSome_iff_exists->γs,getD_some->γ3
open Option.some renaming injEq->γ
namespace Go.Vi
open Go.Proofs.YtbnhiekmnpikhaaGreat.Ir
open Go.Proofs
def M2:List NG:=zc::za::M1
theorem IZ:∀c∈M2,Holds Tryz.prog c:=by
 grind[M2,I4,I2,wH]
def Fg:NG:=⟨32,cj×List Int,.cons cX (.one (cQ (.i .i64))),λa=>a.2.length<=9223372036854775807/\a.1.bi.length<=1000,λa=> .Gz [.row .bt (cM a.1 a.2),.sb (fY a.1 a.2)]⟩
def jy (c:List Int) (i:Int):Int:=if i=0 then -1 else bN c (i - 1).toNat 0
def WW (a:cj×List Int):Nat->bK
 |3=> .inv (Int×List bD) (λx=>⟨[(1,.row (.i .i64) a.2),(2,.ptr 0 0 20),(6,.ow 1 x.2.length 8),(7,.si .i64 x.1)],
   [.cells a.1.ss 27 20 false,.row .bt x.2 65 true]⟩) (λs=>(iS s 7,oS .bt s 1))
  (λx=>0<=x.1/\x.1<=a.2.length/\(x.2.length<=jy a.2 x.1+1/\jy a.2 x.1<1000)/\ -1<=jy a.2 x.1/\dC a.1.bi (-1) a.2=(dC a.1.bi (jy a.2 x.1) (a.2.drop x.1.toNat)).map (x.2++·)) (λx=>(a.2.length - x.1).toNat) λ_ _=> .bz
 |_=> .bz
theorem IU:Holds Tryz.prog Fg:=by
 refine bO (L:=M2) Fg WW IZ ?_;rintro⟨p,c⟩ ⟨hc,hof⟩;have hc:c.length<=9223372036854775807:=hc;have hof:p.bi.length<=1000:=hof;refine NI (let a:=γj .i64;let b:=(0:Int);let d:=γa;let e:=(1:Int);let f:=SV.bl false;let g:=(-1:Int);let h:=(1000:Int);let j:=SV.Gz;let k:=ew.i .i64;let s:=SV.ptr 0 0 20;let B:=γ1 1 0 8;let t:=iZ.cells [a p.bk.a0,a p.bk.a1,a p.bk.a2,a p.bk.a3,a p.bk.a4,a p.bk.a5,a p.bq.a0,a p.bq.a1,a p.bq.a2,a p.bq.a3,a p.bq.a4,a p.bq.a5,a p.bs.a0,a p.bs.a1,a p.bs.a2,a p.bs.a3,a p.bs.a4,a p.bs.a5,d k p.bj,d ew.bt p.bi] 27 20 false;let C:=iZ.row ew.bt [] 65 true;let o:=(↑c.length:Int);let u:=jy c b;let z:=dC p.bi g c;let n:=(↑c.length:Int);let v:=j [d ew.bt (cM p c),SV.sb (fY p c)];let D:=p.bi.length;let A:=(↑D:Int);let L:=ew.bt.bu;((((d k c).as (d k c)/\s.as s/\B.as B/\(γC .i64 0).as (a 0)/\True)/\t.as t/\C.as C/\True)/\b<=b/\b<=o/\(b<=u+e/\u<h)/\g<=u/\z=ζw (λx ↦(b,[]).2++x) (dC p.bi u c))/\∀(x:Int×List bD),let l:=bN c x.1.toNat b;let E:=x.2.length+1;let m:=x.1+e;let q:=x.2++[bN p.bi l.toNat L];let F:=a m;let G:=iZ.row ew.bt q 65 true;let w:=jy c m;let y:=jy c x.1;let H:=decide (l<b);let I:=decide (b<x.1);let r:=x.1 - e;let J:=decide (l<=bN c r.toNat b);let K:=b<=x.1/\x.1<n/\x.1.toNat<c.length/\b<=l/\l<A/\l.toNat<D/\x.2.length=x.2.length/\E*64<=140737488355328/\E<=1000000000000/\VL .i64 m/\(((d k c).as (d k c)/\s.as s/\(γ1 1 q.length 8).as (γ1 1 q.length 8)/\F.as F/\True)/\t.as t/\G.as G/\True)/\(b<=m/\m<=o/\((↑q.length:Int)<=w+e/\w<h)/\g<=w/\z=ζw (λx ↦(m,q).2++x) (dC p.bi w (γ4 m.toNat c)))/\(o - m).toNat<(o - x.1).toNat;b<=x.1/\x.1<=o/\((↑x.2.length:Int)<=y+e/\y<h)/\g<=y/\z=ζw (λx_1 ↦x.2++x_1) (dC p.bi y (γ4 x.1.toNat c))->(decide (x.1<n)=true->b<=x.1/\x.1<n/\x.1.toNat<c.length/\(H=true->(j [d k [],f]).as v)/\(H=false->b<=x.1/\x.1<n/\x.1.toNat<c.length/\(decide (A<=l)=true->(j [d k [],f]).as v)/\(decide (A<=l)=false->(I=true->b<=x.1/\x.1<n/\x.1.toNat<c.length/\VL .i64 r/\b<=r/\r<n/\r.toNat<c.length/\(J=true->(j [d k [],f]).as v)/\(J=false->K))/\(I=false->K))))/\(decide (x.1<n)=false->x.2.length=x.2.length/\(j [d ew.bt x.2,SV.bl true]).as v)) (by kernel_rfl) ?_;simp only[vcs];have hbad:dC p.bi (-1) c=none->(γa (.i .i64) []).as (γa .bt (cM p c))/\false=fY p c:=λh=>⟨NX.2 (by simp[cM,h]),by simp[fY,h]⟩;refine⟨⟨by omega,by omega,by simp[jy],by simp[jy]⟩,?_⟩;rintro⟨i,out⟩ ⟨hi0,hi1,hlen,hla,hi⟩;simp only at hi0 hi1 hlen hla hi ⊢;refine⟨λhlt=>?_,λhge=>?_⟩
 ·rw[qt (d:=0) hi0 hlt] at hi;have hl1:jy c (i+1)=bN c i.toNat 0:=by unfold jy;rw[if_neg (by omega),show i+1 - 1=i by omega]
  have hl2:i≠0->jy c i=bN c (i - 1).toNat 0:=λh=>by unfold jy;rw[if_neg h]
  have hl3:i=0->jy c i= -1:=λh=>by unfold jy;rw[if_pos h]
  generalize hx:bN c i.toNat 0=x at hi hl1 ⊢;simp only[dC] at hi;have hgood:¬(x<=jy c i\/p.bi.length<=x)->dC p.bi (-1) c=(dC p.bi (jy c (i+1)) (c.drop (i+1).toNat)).map λr=>(out++[bN p.bi x.toNat ew.bt.bu])++r:=λh=>by
   rw[if_neg h] at hi;rw[hi,hl1,Option.map_map];congr 1;funext r;simp
  have bad:(x<=jy c i\/p.bi.length<=x)->(γa (.i .i64) []).as (γa .bt (cM p c))/\false=fY p c:=λh=>hbad (by rw[hi,if_pos h];rfl);have aIV:¬(x<=jy c i\/p.bi.length<=x)->((out++[bN p.bi x.toNat ew.bt.bu]).length:Int)<=jy c (i+1)+1/\jy c (i+1)<1000:=λh=>by
   rw[hl1];simp only[List.length_append,List.length_singleton];omega
  refine⟨by omega,by omega,by omega,λh1=>bad (.inl (by omega)),λh1=>⟨by omega,by omega,by omega,λh2=>bad (.inr (by omega)),λh2=>⟨λh3=>⟨by omega,by omega,by omega,by omega,by omega,by omega,by omega,λh4=>bad (.inl (by rw[hl2 (by omega)];omega)),λh4=>?_⟩,λh3=>?_⟩⟩⟩
  ·have:=hl2 (by omega);refine⟨by omega,by omega,by omega,by omega,by omega,by omega,by omega,by omega,by omega,⟨by omega,by omega,aIV (by omega),by omega,hgood (by omega)⟩,by omega⟩
  ·have:=hl3 (by omega);refine⟨by omega,by omega,by omega,by omega,by omega,by omega,by omega,by omega,by omega,⟨by omega,by omega,aIV (by omega),by omega,hgood (by omega)⟩,by omega⟩
 ·rw[show i.toNat=c.length from by omega,δE] at hi;simp only[dC,Option.map_some,List.append_nil] at hi;exact⟨by simp[cM,hi],by simp[fY,hi]⟩
def M3:List NG:=Fg::M2
theorem Ci:∀c∈M3,Holds Tryz.prog c:=by
 grind[M3,IU,IZ]
def Ce:NG:=⟨24,cj×List Int,.cons cX (.one (cQ (.i .i64))),λa=>a.2.length<=9223372036854775807,λa=> .si .i64 (bU a.1 a.2)⟩
theorem Qs:Holds Tryz.prog Ce:=by
 refine bO (L:=M3) Ce (λp=>λ_=> .bz) Ci ?_;rintro⟨p,c⟩ (n:c.length<=9223372036854775807);refine NI (let a:=γC .i64;let e:=decide (nW p≠(0:Int));let d:=γj .i64 (bU p c);let f:=!ajl p (cM p c);True/\(e=true->(γj .i64 (nW p)).as d)/\(e=false->(c.length<=9223372036854775807/\p.bi.length<=1000)/\((!ajc p c)=true->(a 4).as d)/\((!ajc p c)=false->(p.bj.length<=8/\(cM p c).length<=1000/\∀(x:bD),x∈cM p c->(0:Int)<=x.TM/\x.TM<(↑p.bj.length:Int)/\x.bw.ok=true)/\(f=true->(a 14).as d)/\(f=false->(a 0).as d)))) (by kernel_rfl) ?_;simp only[vcs];refine⟨λh=>by simp[bU,h],λh=>?_⟩;have g:nW p=0:=γe.1 h;obtain⟨m,j⟩:=rH g;obtain⟨s,o,l,q,t⟩:=rI m;refine⟨⟨n,by omega⟩,λa=>by grind[bU],λa=>⟨⟨l,?_,?_⟩,λk=>by grind[bU],λk=>by grind[bU]⟩⟩
 ·unfold fY at a;obtain⟨r,b⟩:=γs.1 a;have:=xl (by omega) b;grind[cM]
 ·unfold fY at a;obtain⟨r,b⟩:=γs.1 a;simp only[cM,b,γ3];intro x i;have u:=AR (AO (j x (AN (by omega) b x i))).1;simp_all
def bG:List bD->Int
 |[]=>0
 |x::l=>x.value+bG l
def cC (p:cj) (c:List Int):Int:=if nW p=0 then bG (cM p c) else 0
theorem my:∀{l m:List bD},bG (l++m)=bG l+bG m
 |[],m=>by simp[bG];|x::l,m=>by simp only[γM,bG,@my l m];omega
theorem NP {l:List bD} {i:Int} (a:0<=i) (h:i<l.length):bG (l.take (i+1).toNat)=bG (l.take i.toNat)+(bN l i.toNat ew.bt.bu).value:=by
 rw[jj (d:=ew.bt.bu) a h,my];simp[bG]
def Cd:NG:=⟨26,cj×List Int,.cons cX (.one (cQ (.i .i64))),λa=>a.2.length<=9223372036854775807,λa=> .si .i64 (cC a.1 a.2)⟩
def WV (a:cj×List Int):Nat->bK
 |6=> .inv Int (λi=>⟨[(5,.row .bt (cM a.1 a.2)),(7,.si .i64 (bG ((cM a.1 a.2).take i.toNat))),(8,.si .i64 i)],[.cells a.1.ss 27 20 false]⟩) (λs=>iS s 8)
  (λi=>0<=i/\i<=(cM a.1 a.2).length) (λi=>((cM a.1 a.2).length - i).toNat) λ_ _=> .bz
 |_=> .bz
theorem NO {p:cj} {c:List Int} (h:nW p=0):(cM p c).length<=160/\∀x∈cM p c,x∈p.bi:=by
 have d:=cN h;unfold cM;cases a:dC p.bi (-1) c with
 |none=>simp;|some r=>
  refine⟨?_,λx b=>AN (by omega) a x b⟩;have e:=xl (by omega) a;have f:=d.2.1;grind
theorem oA {p:cj} (a:Good p):∀{l:List bD},(∀x∈l,x∈p.bi)->0<=bG l/\bG l<=1000000*l.length
 |[],_=>by simp[bG];|x::l,h=>by
  have c:=a.2.2.2.2 x (h x (by simp));have d:=@oA p a l λy b=>h y (by simp[b]);grind[bG]
theorem Qr:Holds Tryz.prog Cd:=by
 refine bO (L:=M3) Cd WV Ci ?_;rintro⟨p,c⟩ (A:c.length<=9223372036854775807);refine NI (let g:=γj .i64;let h:=(0:Int);let t:=decide (nW p≠h);let k:=γC .i64 0;let v:=g (cC p c);let e:=γa ew.bt (cM p c);let f:=iZ.cells (cj.ss p) 27 20 false;let d:=(↑(cM p c).length:Int);let n:=(↑(cM p c).length:Int);True/\(t=true->k.as v)/\(t=false->(c.length<=9223372036854775807/\p.bi.length<=1000)/\(((e.as e/\k.as (g (bG []))/\k.as (g 0)/\True)/\f.as f/\True)/\h<=h/\h<=d)/\∀(x:Int),let r:=bG (Δ x.toNat (cM p c));let s:=r+(bN (cM p c) x.toNat ew.bt.bu).value;let a:=x+(1:Int);let b:=g a;h<=x/\x<=d->(decide (x<n)=true->h<=x/\x<n/\x.toNat<(cM p c).length/\VL .i64 s/\VL .i64 a/\((e.as e/\(g s).as (g (bG (Δ a.toNat (cM p c))))/\b.as b/\True)/\f.as f/\True)/\(h<=a/\a<=d)/\(d - a).toNat<(d - x).toNat)/\(decide (x<n)=false->(g r).as v))) (by kernel_rfl) ?_;simp only[vcs];refine⟨λh=>by simp[cC,h],λh=>⟨⟨A,by have:=(cN (γe.1 h)).2.1;omega⟩,⟨by simp[bG],by omega⟩,?_⟩⟩;have o:nW p=0:=γe.1 h;have u:=cN o;obtain⟨C,q⟩:=NO (c:=c) o;rintro i ⟨j,y⟩;refine⟨λm=>?_,λw=>?_⟩
 ·have B:=NP j m;have D:=oA u (l:=(cM p c).take i.toNat) λx g=>q x (γn g);have z:=oA u (l:=(cM p c).take (i+1).toNat) λx g=>q x (γn g);grind
 ·rw[show i.toNat=(cM p c).length from by omega,φ];grind[cC]
def bE:List Int->List Int->Int
 |[],[]=>0
 |[],_::_=> -1
 |_::_,[]=>1
 |a::l,b::m=>if a<b then -1 else if b<a then 1 else bE l m
def zb:NG:=⟨14,List Int×List Int,.cons (cQ (.i .i64)) (.one (cQ (.i .i64))),λa=>a.1.length<=1000000000000/\a.2.length<=1000000000000,λa=> .si .i64 (bE a.1 a.2)⟩
def WU (a:List Int×List Int):Nat->bK
 |2=> .inv Int (λi=>⟨[(0,.row (.i .i64) a.1),(1,.row (.i .i64) a.2),(5,.si .i64 i)],[]⟩) (λs=>iS s 5)
  (λi=>0<=i/\i<=a.1.length/\i<=a.2.length/\bE a.1 a.2=bE (a.1.drop i.toNat) (a.2.drop i.toNat)) (λi=>(a.1.length - i).toNat) λ_ _=> .bz
 |_=> .bz
theorem I3:Holds Tryz.prog zb:=by
 refine bO (L:=[]) zb WU (by simp) ?_;rintro⟨a,b⟩ ⟨w,u⟩;refine NI (let d:=(0:Int);let h:=γC .i64;let j:=γj .i64;let k:=(-1:Int);let q:=γa (ew.i .i64) a;let n:=γa (ew.i .i64) b;let t:=h 0;let m:=(↑a.length:Int);let r:=(↑b.length:Int);let e:=(↑a.length:Int);let f:=(↑b.length:Int);let g:=j (bE a b);(((q.as q/\n.as n/\t.as (j 0)/\True)/\True)/\d<=d/\d<=m/\d<=r/\bE a b=bE a b)/\∀(x:Int),let o:=bN a x.toNat d;let p:=bN b x.toNat d;let c:=x+(1:Int);let l:=j c;d<=x/\x<=m/\x<=r/\bE a b=bE (γ4 x.toNat a) (γ4 x.toNat b)->(decide (x<e)=true->(decide (x<f)=true->d<=x/\x<e/\x.toNat<a.length/\d<=x/\x<f/\x.toNat<b.length/\(decide (o<p)=true->(h k).as g)/\(decide (o<p)=false->d<=x/\x<e/\x.toNat<a.length/\d<=x/\x<f/\x.toNat<b.length/\(decide (p<o)=true->(h 1).as g)/\(decide (p<o)=false->VL .i64 c/\((q.as q/\n.as n/\l.as l/\True)/\True)/\(d<=c/\c<=m/\c<=r/\bE a b=bE (γ4 c.toNat a) (γ4 c.toNat b))/\(m - c).toNat<(m - x).toNat)))/\(decide (x<f)=false->(decide (e<f)=true->(h k).as g)/\(decide (e<f)=false->(decide (f<e)=true->(h 1).as g)/\(decide (f<e)=false->t.as g))))/\(decide (x<e)=false->(decide (e<f)=true->(h k).as g)/\(decide (e<f)=false->(decide (f<e)=true->(h 1).as g)/\(decide (f<e)=false->t.as g)))) (by kernel_rfl) ?_;conv=>zeta
 simp only at w u;simp only[vcs];refine⟨⟨by omega,by omega,by omega⟩,?_⟩;rintro i ⟨j,v,z,h⟩;refine⟨λs=>⟨λk=>?_,λk=>?_⟩,λs=>?_⟩
 ·rw[qt (d:=0) j s,qt (d:=0) j k] at h;simp only[bE] at h;omega
 ·rw[qt (d:=0) j s,show i.toNat=b.length from by omega,δE] at h;grind[bE]
 ·rw[show i.toNat=a.length from by omega,δE] at h;refine⟨λk=>?_,λk=>⟨λy=>by omega,λy=>?_⟩⟩
  ·rw[<-γk a.length,qt (d:=0) (by omega) k] at h;exact h.symm
  ·rw[show a.length=b.length from by omega,δE] at h;exact h.symm
def dy (l:List oz):oz:=⟨(l.map oz.a0).sum,(l.map oz.a1).sum,(l.map oz.a2).sum,(l.map oz.a3).sum,(l.map oz.a4).sum,(l.map oz.a5).sum⟩
def VJ (p:cj) (l:List Int):List bD:=l.map λi=>bN p.bi i.toNat ew.bt.bu
def fp (p:cj) (L:List bD):Prop:=(L.map bD.TM).Nodup/\(dy (L.map bD.bw)).le p.bk=true/\(dy (L.map (dV p))).le p.bq=true
instance (p:cj) (L:List bD):Decidable (fp p L):=by unfold fp;infer_instance
def jU (p:cj) (l:List Int):Bool:=decide (fp p (VJ p l))
def gD (a b:oz) (k:Int):oz:=⟨if 0<k then b.a0 else a.a0,if 1<k then b.a1 else a.a1,if 2<k then b.a2 else a.a2,if 3<k then b.a3 else a.a3,if 4<k then b.a4 else a.a4,if 5<k then b.a5 else a.a5⟩
def oz.add (a b:oz):oz:=⟨a.a0+b.a0,a.a1+b.a1,a.a2+b.a2,a.a3+b.a3,a.a4+b.a4,a.a5+b.a5⟩
theorem xW {l m:List oz}:dy (l++m)=(dy l).add (dy m):=by simp[dy,oz.add]
theorem xV {b:oz} {l:List oz}:dy (b::l)=b.add (dy l):=by simp[dy,oz.add]
def oz.bd (b:oz) (n:Int):Prop:=(0<=b.a0/\b.a0<=n)/\(0<=b.a1/\b.a1<=n)/\(0<=b.a2/\b.a2<=n)/\(0<=b.a3/\b.a3<=n)/\(0<=b.a4/\b.a4<=n)/\(0<=b.a5/\b.a5<=n)
theorem F5:∀{l:List oz},(∀b∈l,b.ok=true)->(dy l).bd (4*l.length)
 |[],_=>by simp[dy,oz.bd];|b::l,h=>by
  have e:=oz.gT.1 (h b (by simp));have d:=@F5 l λc a=>h c (by simp[a]);rw[xV];simp only[oz.bd,oz.add,γK] at d ⊢;omega
theorem WT {p:cj} {x:bD} (h:x.bw.ok=true):(dV p x).ok=true:=by
 have a:=oz.gT.1 h;rw[oz.gT];simp only[dV,Fj,oc];omega
theorem F4 {p:cj} (b:Good p) {l:List Int} (h:∀i∈l,0<=i/\i<p.bi.length):∀x∈VJ p l,x∈p.bi:=by
 intro x a;obtain⟨i,c,rfl⟩:=Γ.1 a;grind[cB]
def jT (p:cj) (i:Int):Int:=(bN p.bi i.toNat ew.bt.bu).value
def cw (a b:bC):bC:=if b.value<a.value\/a.value=b.value/\bE a.bm b.bm<0 then a else b
def jx (p:cj):Nat->Int->bC->bC->bC
 |0,_,_,b=>b
 |k+1,i,a,b=>jx p k (i+1) a (if jU p (a.bm++[i]) then jx p k (i+1) ⟨a.bm++[i],a.value+jT p i⟩ (cw ⟨a.bm++[i],a.value+jT p i⟩ b) else b)
def di (p:cj) (i:Int):Nat:=(p.bi.length - i).toNat
def F3 (p:cj) (a:bC) (f:Int) (b:bC):bC:=jx p (di p f) f a (cw a b)
def aS (s:bF) (id:Nat):bC:=match s.o[id]? with
 |some (.cells [r,v] _ _ _)=>⟨(iI (.i .i64) r).getD [],(v.int .i64).getD 0⟩
 |_=>⟨[],0⟩
theorem NN {L:List NG} {W:ky} (c:NG) (F:eu) (Λ:Nat->bK) (hW:mB Tryz.prog W) (hL:∀c∈L,Holds Tryz.prog c)
  (hF:fQ c.f=some F) (a:c.α) (hlen:(c.A.put a).length=F.params) (hfr:∀d,ln c.f L=some d->∀b,gL (c.A.put a)=gL (d.A.put b)->¬d.dom b)
  (h:Vc (oo (kx L W ml mq fQ) Λ F (c.A.put a) λv=>v.pX (c.res a))):fU Tryz.prog c.f=true/\jD Tryz.prog c.f (gL (c.A.put a)) [] (c.res a).G []:=by
 refine A2 (p:=kx L W ml mq fQ) (Λ:=Λ) (rL hW hL pT) (rK hW) (λ_ _ h=>h) hF ?_ hlen (λ_ h=>ve h) h.out;simp only[nS,pV,Bool.false_eq_true,if_false];split
 ·rename_i d hd;have:tR (λa=>gL (d.A.put a)) d.dom (λa=>(d.res a).G) (gL (c.A.put a))=none:=by
   unfold tR;rw[dif_neg];rintro⟨b,h1,h2⟩;exact hfr d hd b h1 h2
  rw[this];rfl
 ·rfl
def M9 (p:cj):bC:=F3 p ⟨[],0⟩ 0 ⟨[],0⟩
def hasB (m b:Int):Bool:=decide (gf.asV .i64 (m / 2^b.toNat) 1=1)
def AL (p:cj) (w:Int) (n:Nat):Int:=((ω n).map λi:Nat=>if(i:Int)≠w then(2:Int)^i else 0).sum
def nh (p:cj) (m:Int):cj:={p with bi:=p.bi.filter λx=>hasB m x.TM}
theorem F2 {p:cj} (h:Good p) (m:Int):Good (nh p m):=by
 refine⟨h.1,?_,h.2.2.1,h.2.2.2.1,λx a=>h.2.2.2.2 x (Ψ.1 a).1⟩;have:=List.length_filter_le (λx:bD=>hasB m x.TM) p.bi;have:=h.2.1;grind[nh]
def tI (p:cj) (m:Int):Int:=(M9 (nh p m)).value
theorem F1 {p:cj} {c:List Int} (e:bU p c=0):nW p=0/\fY p c=true/\Good p/\c.length<=160/\∀i∈c,0<=i/\i<p.bi.length:=by
 have b:nW p=0:=by
  unfold bU at e;omega
 have d:fY p c=true:=by
  unfold bU at e;grind
 have f:=cN b;obtain⟨r,g⟩:=γs.1 d;obtain⟨h,a⟩:=NQ (by omega) g;refine⟨b,d,f,?_,a⟩;have k:=xl (by omega) g;have j:=f.2.1;grind
def F0 (p:cj):Int:=AL p (-1) p.bj.length
structure NM (p:cj) (fs:List Int) (l o:oz) (L:List bD):Prop where
 nd:(L.map bD.TM).Nodup
 mem:∀x∈L,x∈p.bi/\x.TM∈fs
 w:(dy (L.map bD.bw)).le l=true
 o:(dy (L.map (dV p))).le o=true
theorem Oi {p:cj} {fs:List Int} {l o:oz}:∀{xs:List bD} {v:Int},v<=xs.foldl (ni p fs l o) v/\∀x∈xs,x.bw.le l=true->(dV p x).le o=true->x.value+jz p fs (l.sub x.bw) (o.sub (dV p x))<=xs.foldl (ni p fs l o) v
 |[],v=>by simp;|y::xs,v=>by
  obtain⟨b,e⟩:=@Oi p fs l o xs (ni p fs l o v y);have d:v<=ni p fs l o v y:=by
   grind[ni]
  refine⟨by grind,λx a c f=>?_⟩;simp only[εb];rcases γq.1 a with rfl|a
  ·have:x.value+jz p fs (l.sub x.bw) (o.sub (dV p x))<=ni p fs l o v x:=by
    unfold ni;grind
   omega
  simp_all
theorem mV {p:cj} {fs:List Int} {l o:oz}:∀{xs:List bD} {v:Int},xs.foldl (ni p fs l o) v=v\/∃x∈xs,x.bw.le l=true/\(dV p x).le o=true/\xs.foldl (ni p fs l o) v=x.value+jz p fs (l.sub x.bw) (o.sub (dV p x))
 |[],v=>by simp;|y::xs,v=>by
  simp only[εb];rcases @mV p fs l o xs (ni p fs l o v y) with h|⟨x,d,a,c,b⟩
  ·rw[h];unfold ni;split<;>grind
  grind
theorem WS {x:oz} {s t:List oz}:dy (s++x::t)=x.add (dy (s++t)):=by
 grind[xW,xV,oz.add]
theorem WR {x:bD} {s t:List bD}:bG (s++x::t)=x.value+bG (s++t):=by
 rw[my,my];grind[bG]
theorem Oh {p:cj} (c:Good p) {L:List bD} (h:∀x∈L,x∈p.bi):(dy (L.map bD.bw)).bd (4*L.length)/\(dy (L.map (dV p))).bd (4*L.length):=by
 have e:∀x∈L,x.bw.ok=true:=λx d=>(c.2.2.2.2 x (h x d)).2.2.1;have a:=@F5 (L.map bD.bw) (λb f=>by grind);grind[F5,WT]
theorem Bh {p:cj} (e:Good p):∀{fs:List Int} {l o:oz} {L:List bD},NM p fs l o L->bG L<=jz p fs l o
 |[],l,o,L,h=>by
  have:L=[]:=by
   cases L with
   |nil=>rfl;|cons x L=>exact absurd (h.mem x (by simp)).2 (by simp)
  grind[bG,jz];|f::fs,l,o,L,h=>by
  obtain⟨D,B⟩:=@Oi p fs l o (wI p f) (jz p fs l o);have b:jz p (f::fs) l o=(wI p f).foldl (ni p fs l o) (jz p fs l o):=rfl;rw[b];by_cases d:∃x∈L,x.TM=f
  ·obtain⟨x,d,m⟩:=d;obtain⟨s,t,rfl⟩:=List.append_of_mem d;obtain⟨u,c,w,j⟩:=h;have i:=c x d;have g:∀y∈s++t,y∈p.bi:=λy a=>(c y (by grind)).1;obtain⟨z,v⟩:=Oh e g;rw[γb,ξ,WS,oz.le_iff,<-γb] at w j;simp only[oz.add,oz.bd] at w j z v;have q:x.bw.le l=true:=by rw[oz.le_iff];omega
   have r:(dV p x).le o=true:=by rw[oz.le_iff];omega
   have A:=B x (Ψ.2 ⟨i.1,by simp[m]⟩) q r;rw[γb,ξ,List.nodup_append] at u;have n:∀y∈s++t,y.TM≠f:=λy a=>by
    rw[<-m];rcases γi.1 a with a|a;·simp_all
    simp_all
   have k:bG (s++t)<=jz p fs (l.sub x.bw) (o.sub (dV p x)):=Bh e
    {nd:=by
      grind
     mem:=λy a=>by
      grind
     w:=by grind[oz.le_iff,oz.sub]
     o:=by grind[oz.le_iff,oz.sub]};rw[WR];omega
  ·have:=Bh e (fs:=fs) (l:=l) (o:=o) (L:=L) ⟨h.nd,λy a=>by
    have C:=h.mem y a;simp_all,h.w,h.o⟩;omega
theorem Bg {p:cj} (k:Good p):∀{fs:List Int} {l o:oz},fs.Nodup->oz.zero.le l=true->oz.zero.le o=true->∃L,NM p fs l o L/\bG L=jz p fs l o
 |[],l,o,_,g,e=>⟨[],⟨by simp,by simp,g,e⟩,rfl⟩
 |f::fs,l,o,r,g,e=>by
  have c:=γR.1 r;have d:jz p (f::fs) l o=(wI p f).foldl (ni p fs l o) (jz p fs l o):=rfl;rw[d];rcases @mV p fs l o (wI p f) (jz p fs l o) with h|⟨x,q,m,u,n⟩
  ·rw[h];obtain⟨L,a,j⟩:=Bg k (l:=l) (o:=o) c.2 g e;exact⟨L,⟨a.nd,λy b=>⟨(a.mem y b).1,by simp[(a.mem y b).2]⟩,a.w,a.o⟩,j⟩
  ·rw[n];have z:=oz.le_iff.1 m;have A:=oz.le_iff.1 u;obtain⟨L,a,j⟩:=Bg k (l:=l.sub x.bw) (o:=o.sub (dV p x)) c.2 (by grind[oz.le_iff,oz.zero,oz.sub]) (by grind[oz.le_iff,oz.zero,oz.sub]);have s:=Ψ.1 q;have i:x.TM=f:=by simp_all
   refine⟨x::L,⟨?_,?_,?_,?_⟩,by grind[bG]⟩
   ·rw[ξ,γR];refine⟨λt=>?_,a.nd⟩;obtain⟨y,b,v⟩:=Γ.1 t;exact c.1 (by rw[<-i,<-v];exact(a.mem y b).2)
   ·intro y b;rcases γq.1 b with rfl|b;·simp_all
    ·exact⟨(a.mem y b).1,by simp[(a.mem y b).2]⟩
   ·have:=oz.le_iff.1 a.w;grind[xV,oz.le_iff,oz.add,oz.sub]
   ·have:=oz.le_iff.1 a.o;grind[xV,oz.le_iff,oz.add,oz.sub]
theorem rG {p:cj} {l m:List Int}:VJ p (l++m)=VJ p l++VJ p m:=by simp[VJ]
theorem qs {p:cj} {i:Int} {l:List Int}:VJ p (i::l)=bN p.bi i.toNat ew.bt.bu::VJ p l:=rfl
def Bf (p:cj) (l:List Int):Prop:=∀i∈l,0<=i/\i<p.bi.length
theorem Be {p:cj} (f:Good p) {L M:List bD} (c:∀x∈M,x∈p.bi) (h:fp p (L++M)):fp p L:=by
 obtain⟨e,d⟩:=Oh f c;obtain⟨g,a,b⟩:=h;rw[γb,xW,oz.le_iff] at a b;simp only[oz.add,oz.bd] at a b e d;refine⟨?_,?_,?_⟩<;>grind[oz.le_iff]
theorem Og {p:cj} (a:Good p) {l m:List Int} (b:Bf p m) (h:jU p (l++m)=true):jU p l=true:=by
 unfold jU at h ⊢;have h:=of_decide_eq_true h;rw[rG] at h;exact decide_eq_true (Be a (F4 a b) h)
def kY (i:Int) (k:Nat) (t:List Int):Prop:=t.Pairwise (·<·)/\∀j∈t,i<=j/\j<i+k
theorem Of {a b:bC}:a.value<=(cw a b).value/\b.value<=(cw a b).value:=by
 grind[cw]
theorem Oe {a b:bC}:cw a b=a\/cw a b=b:=by
 grind[cw]
theorem xU {p:cj}:∀{k:Nat} {i:Int} {a b:bC},b.value<=(jx p k i a b).value
 |0,_,_,b=>by simp[jx];|k+1,i,a,b=>by
  simp only[jx];refine ζh ?_ xU;split;·exact ζh Of.2 xU
  ·omega
theorem FZ {p:cj} (h:Good p):∀{k:Nat} {i:Int} {a b:bC} {t:List Int},0<=i->i+k<=p.bi.length->t≠[]->kY i k t->jU p (a.bm++t)=true->a.value+bG (VJ p t)<=(jx p k i a b).value
 |0,i,a,b,t,_,_,u,c,_=>by
  cases t with
  |nil=>simp_all;|cons j t=>
   have:=c.2 j (by simp);omega
 |k+1,i,a,b,t,w,x,u,c,s=>by
  cases t with
  |nil=>simp_all;|cons j t=>
   have v:=c.2 j (by simp);have q:=γr.1 c.1;simp only[jx];by_cases l:j=i
   ·subst l;have d:Bf p t:=λm e=>by
     have:=c.2 m (by simp[e]);omega
    have f:jU p (a.bm++[j]++t)=true:=by simp_all
    have g:jU p (a.bm++[j])=true:=Og h d f;rw[if_pos g];refine ζh ?_ xU;rw[qs];simp only[bG];cases t with
    |nil=>
     refine ζh ?_ xU;refine ζh ?_ Of.1;simp[bG,VJ,jT];|cons o n=>
     have:=FZ h (k:=k) (i:=j+1) (a:=⟨a.bm++[j],a.value+jT p j⟩) (b:=cw ⟨a.bm++[j],a.value+jT p j⟩ b) (t:=o::n) (by omega) (by omega) (by simp) ⟨q.2,λm e=>by
      have r:=c.2 m (List.mem_cons_of_mem _ e);grind⟩ f;grind[jT]
   ·exact FZ h (by omega) (by omega) (by simp) ⟨c.1,λm e=>by
     have r:=c.2 m e;grind⟩ s
theorem FY {p:cj} (g:Good p):∀{k:Nat} {i:Int} {a b:bC},jx p k i a b=b\/∃t,t≠[]/\kY i k t/\jU p (a.bm++t)=true/\jx p k i a b=⟨a.bm++t,a.value+bG (VJ p t)⟩
 |0,i,a,b=> .inl rfl
 |k+1,i,a,b=>by
  have l:∀{t:List Int},kY (i+1) k t->kY i (k+1) t:=λh=>⟨h.1,λj c=>by have:=h.2 j c;omega⟩;simp only[jx];rcases @FY p g k (i+1) a (if jU p (a.bm++[i]) then jx p k (i+1) ⟨a.bm++[i],a.value+jT p i⟩ (cw ⟨a.bm++[i],a.value+jT p i⟩ b) else b) with h|⟨t,m,d,n,o⟩
  ·rw[h];split
   ·rename_i q;have e:(⟨a.bm++[i],a.value+jT p i⟩:bC)=⟨a.bm++[i],a.value+bG (VJ p [i])⟩:=by simp[bG,VJ,jT]
    have f:kY i (k+1) [i]:=⟨by simp,λj c=>by grind⟩;rcases @FY p g k (i+1) ⟨a.bm++[i],a.value+jT p i⟩ (cw ⟨a.bm++[i],a.value+jT p i⟩ b) with h|⟨t,m,d,n,o⟩;·grind[Oe]
    ·refine .inr ⟨i::t,by simp,⟨γr.2 ⟨λj c=>by have:=d.2 j c;omega,d.1⟩,λj c=>?_⟩,by simp_all,?_⟩
     ·rcases γq.1 c with rfl|c;·omega
      ·have:=d.2 j c;omega
     grind[qs,bG,jT]
   simp_all
  grind
theorem Bd {p:cj}:∀{c:List Int} {s:Int},c.foldl (Fi p) s=s+bG (VJ p c)
 |[],s=>by simp[VJ,bG];|i::c,s=>by
  rw[εb,Bd,qs];grind[bG,Fi]
theorem Bc {p:cj}:∀{c:List Int} {a:Int} {r:List bD},dC p.bi a c=some r->r=VJ p c
 |[],a,r,h=>by simp[dC] at h;subst h;rfl;|i::c,a,r,h=>by
  simp only[dC] at h;split at h;·cases h
  ·obtain⟨d,b,rfl⟩:=Option.map_eq_some_iff.1 h;rw[Bc b,qs]
theorem WQ {p:cj} {c:List Int} (b:bU p c=0):cC p c=xX p c:=by
 obtain⟨a,d,g,f,e⟩:=F1 b;obtain⟨r,h⟩:=γs.1 d;unfold cC xX;rw[if_pos a,Bd];grind[cM,Bc]
theorem Od {p:cj} {x:bD} (b:0<=x.TM) (a:x.TM<p.bj.length):dA p x.TM x=1:=by
 unfold dA;omega
theorem sum_cons {p:cj} {x:bD} {L:List bD} {r:Int}:b_ p (x::L) r=dA p r x+b_ p L r:=by simp[b_]
theorem Oc {p:cj} {r:Int}:∀{L:List bD},(∀x∈L,x.bw.ok=true)->(∃x∈L,x.TM=r/\0<=r/\r<p.bj.length)->1<=b_ p L r
 |[],_,h=>by simp_all;|y::L,a,⟨x,c,e,f,d⟩=>by
  have g:=@nP p r y (a y (by simp));have i:=@qu p r L λz b=>a z (by simp[b]);rw[sum_cons];rcases γq.1 c with rfl|c;·grind[Od]
  ·have:=@Oc p r L (λz b=>a z (by simp[b])) ⟨x,c,e,f,d⟩;omega
theorem Ob {p:cj}:∀{L:List bD},(∀x∈L,x.bw.ok=true/\0<=x.TM/\x.TM<p.bj.length)->(∀r:Int,0<=r->r<p.bj.length->b_ p L r<=1)->(L.map bD.TM).Nodup
 |[],_,_=>by simp;|x::L,e,f=>by
  have a:=e x (by simp);rw[ξ,γR];have d:∀r:Int,0<=r->r<p.bj.length->b_ p L r<=1:=λr j b=>by
   have:=f r j b;have:=@nP p r x a.1;grind[sum_cons]
  refine⟨λg=>?_,Ob (λy c=>e y (by simp[c])) d⟩;obtain⟨y,c,h⟩:=Γ.1 g;have b:=f x.TM a.2.1 a.2.2;have k:=@Oc p x.TM L (λz i=>(e z (by simp[i])).1) ⟨y,c,h,a.2.1,a.2.2⟩;rw[sum_cons,Od a.2.1 a.2.2] at b;omega
theorem WO {p:cj} {c:List Int} (e:bU p c=0):((VJ p c).map bD.TM).Nodup:=by
 obtain⟨j,f,a,m,h⟩:=F1 e;obtain⟨r,l⟩:=γs.1 f;have n:cM p c=VJ p c:=by grind[cM,Bc]
 have d:ir p (VJ p c)=true:=by
  simp_all[bU]
 refine Ob (p:=p) (λx g=>?_) λr o i=>?_
 ·have:=a.2.2.2.2 x (F4 a h x g);simp_all
 ·have b:=nj.1 d r.toNat (by grind[cr]);rw[show((r.toNat:Nat):Int)=r by omega] at b;have k:cD p r=1:=by unfold cD;omega
  omega
theorem FX {p:cj}:M9 p=jx p p.bi.length 0 ⟨[],0⟩ ⟨[],0⟩:=by
 grind[di,M9,F3,Oe]
theorem xT {p:cj} (f:Good p) {t:List Int} (e:kY 0 p.bi.length t) (d:jU p t=true):bG (VJ p t)<=(M9 p).value:=by
 rw[FX];by_cases c:t=[]
 ·subst c;exact xU
 ·have:=FZ f (k:=p.bi.length) (i:=0) (a:=⟨[],0⟩) (b:=⟨[],0⟩) (t:=t) (by omega) (by omega) c e d;simp_all
theorem Oa {p:cj} (a:Good p):jU p []=true:=by
 have b:=oz.gT.1 a.2.2.1;have c:=oz.gT.1 a.2.2.2.1;unfold jU;refine decide_eq_true ⟨by simp[VJ],?_,?_⟩;all_goals simp_all[oz.le_iff,VJ,dy]
theorem FW {p:cj} (a:Good p):∃t,kY 0 p.bi.length t/\jU p t=true/\M9 p=⟨t,bG (VJ p t)⟩:=by
 rw[FX];rcases @FY p a p.bi.length 0 ⟨[],0⟩ ⟨[],0⟩ with h|⟨t,b,e,c,d⟩;·exact⟨[],⟨by simp,by simp⟩,Oa a,by rw[h];rfl⟩
 grind
def N_:Bool:=(ω 256).all λm=>[0,1,2,3,4,5,6,7].all λb:Int=>hasB m b==decide (b∈pS m)
theorem WN:N_=true:=by kernel_rfl
theorem FU {m b:Int} (e:0<=m) (a:m<256) (c:0<=b) (d:b<8):hasB m b=decide (b∈pS m):=by
 have h:=WN;simp only[N_,ψ,γD] at h;have h:=h m.toNat (by omega) b (by
  have:b=0\/b=1\/b=2\/b=3\/b=4\/b=5\/b=6\/b=7:=by omega
  simp_all);grind
theorem WM {p:cj} {t:List Int} (h:kY 0 p.bi.length t):Bf p t:=λj a=>by
 have:=h.2 j a;omega
theorem WL {p:cj} (b:Good p) {m:Int} (j:0<=m) (e:m<256):tI p m<=jz p (pS m) p.bk p.bq:=by
 obtain⟨t,i,f,g⟩:=FW (F2 b m);unfold tI;rw[g];have d:=of_decide_eq_true f;refine Bh b ⟨d.1,λx h=>?_,d.2.1,d.2.2⟩;have c:=F4 (F2 b m) (WM i) x h;have a:=Ψ.1 c;have k:=b.2.2.2.2 x a.1;have l:=b.1;refine⟨a.1,?_⟩;have:=FU j e k.1 (by omega);simp_all
theorem MI {L M:List bD} (h:L.Perm M):bG L=bG M:=by
 induction h<;>grind[bG,swap,trans]
theorem Xl {L M:List oz} (h:L.Perm M):dy L=dy M:=by
 induction h<;>grind[xV,swap,oz.add,oz.mk.injEq,trans]
theorem Bb {p:cj} {L M:List bD} (h:L.Perm M) (b:fp p L):fp p M:=by
 obtain⟨a,c,d⟩:=b;refine⟨((h.map _).nodup_iff).1 a,?_,?_⟩<;>grind[Xl]
theorem FT (q:bD->Bool):∀(O a:List bD),∃t:List Int,t.Pairwise (·<·)/\(∀j∈t,(a.length:Int)<=j/\j<a.length+O.length)/\(t.map λj=>bN (a++O) j.toNat ew.bt.bu)=O.filter q
 |[],a=>⟨[],by simp,by simp,by simp⟩
 |x::O,a=>by
  obtain⟨t,c,g,d⟩:=FT q O (a++[x]);have e:a++[x]++O=a++x::O:=by simp
  rw[e] at d;have h:((a++[x]).length:Int)=a.length+1:=by simp
  have f:∀j∈t,(a.length:Int)+1<=j/\j<a.length+1+O.length:=λj b=>by
   simp_all
  by_cases i:q x=true
  ·refine⟨(a.length:Int)::t,γr.2 ⟨λj b=>by grind,c⟩,λj b=>?_,?_⟩;·grind
   simp_all[bW]
  grind
theorem Ba {p:cj}:∀{l:List bD} {a:List mK},ic p a l=0->(l.map bD.key).Nodup/\∀x∈l,x.key∉a
 |[],_,_=>by simp;|o::r,a,h=>by
  simp only[ic] at h;split at h;·omega
  ·split at h;·cases h
   ·rename_i d b;obtain⟨c,e⟩:=Ba h;simp_all
theorem A_ {a b:Type} (f:a->b):∀{l:List a},(l.map f).Nodup->l.Nodup
 |[],_=>by simp;|x::l,h=>by
  rw[ξ,γR] at h;exact γR.2 ⟨λc=>h.1 (List.mem_map_of_mem c),A_ f h.2⟩
theorem MH {p:cj} (h:nW p=0):p.bi.Nodup:=by
 unfold nW at h;split at h;·omega
 ·exact A_ _ (Ba h).1
theorem MG (m:Int):(pS m).Nodup:=by
 unfold pS;exact ζ0 γo (by decide)
theorem Xk {p:cj} (f:nW p=0) {m:Int} (D:0<=m) (u:m<256):jz p (pS m) p.bk p.bq<=tI p m:=by
 have b:=cN f;have A:=oz.gT.1 b.2.2.1;have y:=oz.gT.1 b.2.2.2.1;obtain⟨L,c,h⟩:=Bg b (MG m) (l:=p.bk) (o:=p.bq) (by grind[oz.le_iff,oz.zero]) (by grind[oz.le_iff,oz.zero]);obtain⟨t,n,B,g⟩:=FT (λx=>decide (x∈L)) (nh p m).bi [];have i:VJ (nh p m) t=(nh p m).bi.filter λx=>decide (x∈L):=g;have q:∀x∈L,x∈(nh p m).bi:=λx s=>by
  have d:=c.mem x s;have C:=b.2.2.2.2 x d.1;have v:=b.1;refine Ψ.2 ⟨d.1,?_⟩;grind[FU]
 have e:((nh p m).bi.filter λx=>decide (x∈L)).Nodup:=ζ0 (List.Sublist.trans γo γo) (MH f);have a:L.Perm (VJ (nh p m) t):=by
  rw[i];refine(List.perm_ext_iff_of_nodup (A_ _ c.nd) e).2 λx=>?_;simp_all
 have k:fp (nh p m) L:=⟨c.nd,c.w,c.o⟩;have r:jU (nh p m) t=true:=decide_eq_true (Bb a k);have:=xT (F2 b m) ⟨n,λj z=>by simp_all⟩ r;rw[<-MI a,h] at this;exact this
theorem Xj {p:cj} (d:nW p=0) {m:Int} (e:0<=m) (c:m<256):tI p m=jz p (pS m) p.bk p.bq:=by
 have a:=WL (cN d) e c;have b:=Xk d e c;omega
theorem Xi {p:cj} (a:nW p=0) {m:Int} (c:0<=m) (d:m<2^p.bj.length):pH p m=tI p m:=by
 have b:AM p m=0:=by
  simp_all[AM]
 have e:=xY (cN a).1;unfold pH;rw[if_pos b,Xj a c (by omega)];rfl
def MF:Bool:=(ω 9).all λn=>decide (AL cj.zero (-1) n=2^n - 1)&&(ω n).all λb=>decide (AL cj.zero b n=W5 (2^n - 1) b)
theorem Xh:MF=true:=by kernel_rfl
theorem ME {p:cj} (h:p.bj.length<=8):AL p (-1) p.bj.length=allM p:=by
 have a:=Xh;simp only[MF,ψ,γD,Bool.and_eq_true,decide_eq_true_eq] at a;exact(a p.bj.length (by omega)).1
theorem Xg {p:cj} (b:nW p=0):pH p (allM p)=tI p (F0 p):=by
 have a:=cN b;have c:=xY a.1;unfold F0;rw[ME a.1];grind[Xi,allM]
def oz.at (b:oz) (k:Nat):Int:=bN [b.a0,b.a1,b.a2,b.a3,b.a4,b.a5] k 0
theorem A9 {a b:oz} (h:a.le b=true) (k:Nat):a.at k<=b.at k:=by
 grind[oz.le_iff,oz.at,bN]
theorem lP (k:Nat):∀(l:List oz),(dy l).at k=(l.map λb=>b.at k).sum:=by
 intro l;unfold oz.at dy;match k with
 |0|1|2|3|4|5=>simp only[bN,List.getElem?_cons_zero,γS,γ3];|k+6=>
  simp only[bN,γS,List.getElem?_nil,Option.getD_none];induction l<;>grind
theorem MD {p:cj} {x:bD} {k:Nat} (a:k<6):dA p (p.bj.length+k) x=x.bw.at k:=by
 unfold dA;rw[if_neg (by omega),if_pos (by omega),show((p.bj.length:Int)+k - p.bj.length).toNat=k by omega];rfl
theorem MC {p:cj} {x:bD} {k:Nat} (a:k<6):dA p (p.bj.length+6+k) x=(dV p x).at k:=by
 unfold dA;rw[if_neg (by omega),if_neg (by omega),show((p.bj.length:Int)+6+k - p.bj.length - 6).toNat=k by omega];have:k=0\/k=1\/k=2\/k=3\/k=4\/k=5:=by omega
 rcases this with rfl|rfl|rfl|rfl|rfl|rfl<;>simp[dV,Fj,oc,kp,oz.at,bN]
theorem MB {p:cj} {k:Nat} (a:k<6):cD p (p.bj.length+k)=p.bk.at k:=by
 unfold cD;rw[if_neg (by omega),if_pos (by omega),show((p.bj.length:Int)+k - p.bj.length).toNat=k by omega];rfl
theorem MA {p:cj} {k:Nat} (a:k<6):cD p (p.bj.length+6+k)=p.bq.at k:=by
 unfold cD;rw[if_neg (by omega),if_neg (by omega),show((p.bj.length:Int)+6+k - p.bj.length - 6).toNat=k by omega];rfl
theorem Mz {p:cj} {r:Int} (a:0<=r) (b:r<p.bj.length):∀{L:List bD},(L.map bD.TM).Nodup->b_ p L r<=1/\(r∉L.map bD.TM->b_ p L r=0)
 |[],_=>by simp[b_];|x::L,h=>by
  rw[ξ,γR] at h;obtain⟨d,e⟩:=Mz a b h.2;have c:dA p r x=if x.TM=r then 1 else 0:=by unfold dA;omega
  rw[sum_cons,c];grind
theorem My {p:cj} {L:List bD} (h:fp p L):ir p L=true:=by
 obtain⟨j,i,f⟩:=h;refine nj.2 λr g=>?_;unfold cr at g;by_cases l:r<p.bj.length
 ·have:=(Mz (p:=p) (r:=r) (by omega) (by omega) j).1;have d:cD p r=1:=by unfold cD;omega
  omega
 by_cases d:r<p.bj.length+6
 ·obtain⟨k,rfl⟩:∃k:Nat,r=p.bj.length+k:=⟨r - p.bj.length,by omega⟩;have c:k<6:=by omega
  have e:(((p.bj.length+k:Nat)):Int)=p.bj.length+k:=by omega
  rw[e,MB c];have a:=A9 i k;rw[lP,γP] at a;have:b_ p L (p.bj.length+k)=(L.map ((λb=>oz.at b k)∘bD.bw)).sum:=by
   unfold b_;congr 1;simp_all[MD]
  omega
 ·obtain⟨k,rfl⟩:∃k:Nat,r=p.bj.length+6+k:=⟨r - p.bj.length - 6,by omega⟩;have c:k<6:=by omega
  have e:(((p.bj.length+6+k:Nat)):Int)=p.bj.length+6+k:=by omega
  rw[e,MA c];have a:=A9 f k;rw[lP,γP] at a;have:b_ p L (p.bj.length+6+k)=(L.map ((λb=>oz.at b k)∘dV p)).sum:=by
   unfold b_;congr 1;simp_all[MC]
  omega
theorem Mx {l:List bD}:∀{t:List Int} {a:Int},t.Pairwise (·<·)->(∀j∈t,a<j/\j<l.length)->dC l a t=some (t.map λi=>bN l i.toNat ew.bt.bu)
 |[],_,_,_=>rfl
 |i::t,a,h,d=>by
  have e:=d i (by simp);have c:=γr.1 h;unfold dC;rw[if_neg (by omega),Mx c.2 λj b=>⟨c.1 j b,(d j (by simp[b])).2⟩];rfl
theorem Mw {p:cj} (e:nW p=0) {t:List Int} (a:kY 0 p.bi.length t) (c:fp p (VJ p t)):bU p t=0:=by
 have d:dC p.bi (-1) t=some (VJ p t):=Mx a.1 λj b=>by have:=a.2 j b;omega
 simp_all[bU,fY,cM,My]
def Mv:Bool:=(ω 9).all λn=>(ω n).all λb=>hasB (2^n - 1) b
theorem Xf:Mv=true:=by kernel_rfl
theorem Mu {p:cj} (a:Good p) {b:Int} (d:0<=b) (c:b<p.bj.length):hasB (allM p) b=true:=by
 have h:=Xf;simp only[Mv,ψ,γD] at h;have:=h p.bj.length (by have:=a.1;omega) b.toNat (by omega);rwa [show((b.toNat:Nat):Int)=b by omega] at this
theorem Xe {p:cj} (a:Good p):nh p (allM p)=p:=by
 unfold nh;rw[List.filter_eq_self.2 λx b=>Mu a (a.2.2.2.2 x b).1 (a.2.2.2.2 x b).2.1]
theorem zF {p:cj} (b:nW p=0):pH p (allM p)=(M9 p).value:=by
 have a:=cN b;rw[Xg b];unfold F0 tI;rw[ME a.1,Xe a]
theorem Mt {p:cj} (a:nW p=0):NR p (M9 p).bm=0/\fp p (VJ p (M9 p).bm)/\kY 0 p.bi.length (M9 p).bm/\(M9 p).value=bG (VJ p (M9 p).bm):=by
 have d:=cN a;obtain⟨t,b,e,h⟩:=FW d;have c:fp p (VJ p t):=of_decide_eq_true e;have g:=Mw a b c;have f:=zF a;simp_all[NR,xX,Bd]
theorem Xd {p:cj} (d:Good p) {x:Int} (a:0<=x) (c:x<p.bj.length):x∈pS (allM p):=by
 have e:=d.1;have f:=xY e;have:=FU (m:=allM p) (b:=x) (by grind[allM]) (by grind[allM]) a (by omega);simp_all[Mu]
theorem Ms {p:cj} (b:nW p=0) {m:Int} (c:0<=m) (a:m<2^p.bj.length):pH p m=jz p (pS m) p.bk p.bq:=by
 unfold pH;rw[if_pos];·rfl
 simp_all[AM]
theorem FS:∀l:List Int,bE l l=0
 |[]=>rfl
 |a::l=>by
  simp only[bE,if_neg (Int.lt_irrefl a)];exact FS l
theorem FQ:∀{a b:List Int},bE a b=0->a=b
 |[],[],_=>rfl
 |[],_::_,h=>by grind[bE];|_::_,[],h=>by grind[bE];|x::a,y::b,h=>by
  simp only[bE] at h;split at h;·simp at h
  ·split at h;·simp at h
   ·rw[FQ h,show x=y by omega]
theorem FP:∀{a b:List Int},bE a b<0↔0<bE b a
 |[],[]=>by simp[bE];|[],_::_=>by simp[bE];|_::_,[]=>by simp[bE];|x::a,y::b=>by
  simp only[bE];by_cases c:x<y;·omega
  ·by_cases d:y<x;·omega
   ·rw[if_neg c,if_neg d,if_neg d,if_neg c];exact FP
theorem Mr:∀{a b c:List Int},bE a b<0->bE b c<0->bE a c<0
 |[],[],_,h,_=>by omega;|_::_,[],_,h,_=>by grind[bE];|[],_::_,[],_,h=>by grind[bE];|[],_::_,_::_,_,_=>by simp[bE];|_::_,_::_,[],_,h=>by grind[bE];|x::a,y::b,z::c,h,k=>by
  simp only[bE] at h k ⊢;by_cases g:x<y;·omega
  ·rw[if_neg g] at h;by_cases e:y<x;·omega
   ·rw[if_neg e] at h;by_cases f:y<z;·omega
    ·rw[if_neg f] at k;by_cases d:z<y;·omega
     ·rw[if_neg d] at k;rw[if_neg (by omega),if_neg (by omega)];exact Mr h k
def ll (a b:bC):Prop:=b.value<a.value\/a.value=b.value/\bE a.bm b.bm<0
theorem Mq {a b c:bC} (h:ll a b) (k:ll b c):ll a c:=by
 rcases h with h|⟨g,e⟩
 ·rcases k with k|⟨f,_⟩;·left;omega
  ·left;omega
 ·rcases k with k|⟨f,d⟩;·left;omega
  ·exact .inr ⟨by omega,Mr e d⟩
theorem zE {a:bC}:¬ll a a:=by
 rintro(h|⟨_,h⟩)<;>grind[FS]
theorem Xc {a b:bC} (h:¬ll a b) (k:¬ll b a):a=b:=by
 obtain⟨l,v⟩:=a;obtain⟨m,w⟩:=b;simp only[ll,not_or,not_and] at h k;have d:v=w:=by omega
 subst d;have e:=h.2 rfl;have c:=k.2 rfl;have:=mt FP.2 c;grind[FQ]
def mw (a:List Int):Nat->Nat
 |0=>0
 |n+1=>if bN a n 0=0 then mw a n else n+1
def IL (a:List Int):List Int:=a.take (mw a a.length)
def pG:NG:=⟨168,List Int,.one (cQ (.i .u32)),λa=>a.length<=1000000000000,λa=> .row (.i .u32) (IL a)⟩
def VF (a:List Int):Nat->bK
 |2=> .inv Int (λn=>⟨[(0,.row (.i .u32) a),(3,.si .i64 n)],[]⟩) (λs=>iS s 3) (λn=>0<=n/\n<=a.length/\mw a n.toNat=mw a a.length) (λn=>n.toNat) λ_ _=> .bz
 |_=> .bz
theorem kZ:Holds Tryz.prog pG:=by
 refine bO (L:=[]) pG VF (by simp) ?_;intro(a:List Int) (h:a.length<=1000000000000);refine NI (let e:=(0:Int);let f:=γa;let c:=ew.i .u32;let d:=(↑a.length:Int);let l:=γj .i64 d;let g:=(↑a.length:Int);let j:=mw a a.length;((((f c a).as (f c a)/\l.as l/\True)/\True)/\e<=d/\d<=g/\mw a d.toNat=j)/\∀(x:Int),let r:=decide (e<x);let b:=x - (1:Int);let o:=decide (bN a b.toNat e=e);let k:=γj .i64 b;e<=x/\x<=g/\mw a x.toNat=j->(r=true->VL .i64 b/\e<=b/\b<d/\b.toNat<a.length/\(o=true->VL .i64 b/\(((f c a).as (f c a)/\k.as k/\True)/\True)/\(e<=b/\b<=g/\mw a b.toNat=j)/\b.toNat<x.toNat)/\(o=false->e<=x/\e<=x/\0<=x.toNat/\x.toNat<=x.toNat/\x.toNat<=a.length/\(f c (Δ (x.toNat - 0) a)).as (f c (IL a))))/\(r=false->e<=x/\e<=x/\0<=x.toNat/\x.toNat<=x.toNat/\x.toNat<=a.length/\(f c (Δ (x.toNat - 0) a)).as (f c (IL a)))) (by kernel_rfl) ?_;simp only[vcs];refine⟨⟨by omega,by omega,by simp⟩,?_⟩;rintro n ⟨f,t,q⟩;have e:(n.toNat=0\/0<n.toNat/\¬bN a (n.toNat - 1) 0=0)->Δ (n.toNat - 0) a=IL a:=λh=>by
  unfold IL;rw[<-q];congr 1;rcases h with h|h;·rw[h];rfl
  ·obtain⟨v,h⟩:=h;obtain⟨m,u⟩:∃m,n.toNat=m+1:=⟨n.toNat - 1,by omega⟩;simp_all[mw]
 refine⟨λs=>⟨by omega,by omega,by omega,by omega,λp=>⟨by omega,⟨by omega,by omega,?_⟩,by omega⟩,λp=>⟨f,f,by omega,by omega,by omega,?_⟩⟩,λs=>⟨f,f,by omega,by omega,by omega,e (.inl (by omega))⟩⟩
 ·rw[<-q,show n.toNat=(n - 1).toNat+1 by omega];rw[mw,if_pos p]
 simp_all
def bX:List Int->Int
 |[]=>0
 |d::l=>d+4294967296*bX l
def ou (a:List Int):Prop:=∀d∈a,0<=d/\d<4294967296
def ff:List Int->Prop
 |[]=>True
 |d::l=>(l=[]->d≠0)/\ff l
theorem iG {d:Int} {l:List Int}:ou (d::l)↔(0<=d/\d<4294967296)/\ou l:=by simp[ou]
theorem lO {a:List Int} (h:ou a) (n:Nat):ou (a.take n):=λd b=>h d (γn b)
theorem el:∀{a:List Int},ou a->0<=bX a
 |[],_=>Int.le_refl _
 |d::l,h=>by
  obtain⟨c,b⟩:=iG.1 h;have:=el b;grind[bX]
theorem val_zero:∀{a:List Int},ou a->ff a->bX a=0->a=[]
 |[],_,_,_=>rfl
 |d::l,h,b,f=>by
  obtain⟨g,c⟩:=iG.1 h;have:=el c;simp only[bX] at f;have e:=val_zero c b.2 (by omega);have:=b.1 e;omega
theorem val_inj:∀{a b:List Int},ou a->ou b->ff a->ff b->bX a=bX b->a=b
 |[],b,_,i,_,c,h=>(val_zero i c h.symm).symm
 |d::l,[],f,_,g,_,h=>val_zero f g h
 |d::l,e::m,f,i,g,c,h=>by
  obtain⟨p,j⟩:=iG.1 f;obtain⟨s,k⟩:=iG.1 i;have r:=el j;have q:=el k;simp only[bX] at h;have n:d=e:=by omega
  have o:bX l=bX m:=by omega
  rw[n,val_inj j k g.2 c.2 o]
theorem vQ:∀{a:List Int} {x:Int},bX (a++[x])=bX a+4294967296^a.length*x
 |[],x=>by simp[bX];|d::l,x=>by
  simp only[γM,bX,vQ,γK,γW,εy];grind
theorem FO:∀{a:List Int} {x:Int},x≠0->ff (a++[x])
 |[],x,h=>⟨λ_=>h,trivial⟩
 |d::l,x,h=>⟨λb=>by simp at b,FO h⟩
theorem zD {a:List Int} {n:Nat} (h:n<a.length):a.take (n+1)=a.take n++[bN a n 0]:=by
 simp_all[bW]
theorem Mp {a:List Int}:∀{n:Nat},n<=a.length->bX (a.take (mw a n))=bX (a.take n)/\ff (a.take (mw a n))
 |0,_=>by simp[mw,ff];|n+1,h=>by
  obtain⟨d,b⟩:=@Mp a n (by omega);have c:=zD (show n<a.length by omega);unfold mw;grind[vQ,FO]
theorem pF {a:List Int}:bX (IL a)=bX a/\ff (IL a):=by
 have:=@Mp a a.length (π _);rw[φ] at this;exact this
theorem qp {a:List Int} (h:ou a):ou (IL a):=lO h _
theorem rF {a:List Int}:(IL a).length<=a.length:=by grind[IL]
def tH:Nat->Int->List Int
 |0,_=>[]
 |k+1,n=>if n<=0 then[] else(n % 4294967296)::tH k (n / 4294967296)
def bV (n:Int):List Int:=tH n.toNat n
theorem Mo:∀{k:Nat} {n:Int},0<=n->n.toNat<=k->bX (tH k n)=n/\ou (tH k n)/\ff (tH k n)
 |0,n,b,h=>by
  have:n=0:=by omega
  subst this;exact⟨rfl,by simp[tH,ou],trivial⟩;|k+1,n,b,h=>by
  unfold tH;split
  ·have:n=0:=by omega
   subst this;exact⟨rfl,by simp[ou],trivial⟩
  ·obtain⟨d,a,c⟩:=@Mo k (n / 4294967296) (by omega) (by omega);refine⟨by grind[bX],iG.2 ⟨by omega,a⟩,λe f=>?_,c⟩;grind[bX]
theorem fo {n:Int} (h:0<=n):bX (bV n)=n/\ou (bV n)/\ff (bV n):=Mo h (π _)
theorem xS {a:List Int} (h:ou a) (b:ff a):bV (bX a)=a:=by
 grind[fo,el,val_inj]
theorem ox {a:List Int} (h:ou a):IL a=bV (bX a):=by
 grind[pF,xS,qp]
theorem mT:∀{a:List Int},ou a->bX a<4294967296^a.length
 |[],_=>by simp[bX];|d::l,h=>by
  obtain⟨c,b⟩:=iG.1 h;have:=mT b;grind[bX]
theorem vP:∀{a b:List Int},ou a->ou b->ff b->a.length<b.length->bX a<bX b
 |[],b,_,c,f,h=>by
  have n:=el c;grind[bX,val_zero];|d::l,[],_,_,_,h=>by simp at h;|d::l,e::m,g,c,f,h=>by
  obtain⟨k,j⟩:=iG.1 g;obtain⟨o,i⟩:=iG.1 c;simp only[γK] at h;have:=vP j i f.2 (by omega);grind[bX]
theorem FN:∀{k:Nat} {a b:List Int},ou a->ou b->k<a.length->k<b.length->a.drop (k+1)=b.drop (k+1)->bN a k 0<bN b k 0->bX a<bX b
 |_,[],_,_,_,h,_,_,_=>by simp at h;|_,_::_,[],_,_,_,h,_,_=>by simp at h;|0,d::l,e::m,f,g,_,_,h,c=>by
  grind[bN,bX];|k+1,d::l,e::m,f,g,n,q,h,c=>by
  obtain⟨p,j⟩:=iG.1 f;obtain⟨o,i⟩:=iG.1 g;simp only[List.drop_succ_cons] at h;simp only[bN,γS] at c;have:=FN (k:=k) j i (by simp_all) (by simp_all) h c;grind[bX]
theorem zC {a:List Int} {k:Nat} (h:k<a.length):a.drop k=bN a k 0::a.drop (k+1):=by simp_all[bW]
def kX (x y:Int):Int:=if x<y then -1 else if y<x then 1 else 0
def vO:NG:=⟨140,List Int×List Int,.cons (cQ (.i .u32)) (.one (cQ (.i .u32))),λa=>(ou a.1/\ou a.2)/\a.1.length<=1000000000000/\a.2.length<=1000000000000,λa=> .si .i64 (kX (bX a.1) (bX a.2))⟩
def VE (a:List Int×List Int):Nat->bK
 |7=> .inv Int (λi=>⟨[(0,.row (.i .u32) (IL a.1)),(1,.row (.i .u32) (IL a.2)),(22,.si .i64 (IL a.1).length),(23,.si .i64 i)],[]⟩) (λs=>iS s 23)
  (λi=>0<=i/\i<=(IL a.1).length/\(IL a.1).drop ((IL a.1).length - i.toNat)=(IL a.2).drop ((IL a.1).length - i.toNat)) (λi=>((IL a.1).length - i).toNat) λ_ _=> .bz
 |_=> .bz
theorem qU:Holds Tryz.prog vO:=by
 refine bO (L:=[pG]) vO VE (by grind[kZ]) ?_;rintro⟨a,b⟩ ⟨⟨H,J⟩,r,q⟩;simp only at H J r q;refine NI (let h:=(0:Int);let m:=γj .i64;let q:=γC .i64;let r:=VL .i64;let E:Nat:=(IL a).length;let j:=(↑E:Int);let B:Nat:=(IL b).length;let n:=(↑B:Int);let u:=m (kX (bX a) (bX b));let y:=γa (ew.i .u32) (IL a);let v:=γa (ew.i .u32) (IL b);let l:Nat:=(IL a).length;let k:=(↑l:Int);let C:=m k;let o:=q 0;let c:=j - (1:Int);a.length<=1000000000000/\b.length<=1000000000000/\(decide (j≠n)=true->(decide (j<n)=true->(q (-1:Int)).as u)/\(decide (j<n)=false->(q 1).as u))/\(decide (j≠n)=false->(((y.as y/\v.as v/\(m j).as C/\o.as (m 0)/\True)/\True)/\h<=h/\h<=k/\γ4 (l - 0) (IL a)=γ4 (l - 0) (IL b))/\∀(x:Int),let e:=(c - x).toNat;let f:=bN (IL a) e h;let g:=bN (IL b) e h;let d:=x+(1:Int);let p:=m d;h<=x/\x<=k/\γ4 (l - x.toNat) (IL a)=γ4 (l - x.toNat) (IL b)->(decide (x<k)=true->r c/\r (c - x)/\h<=c - x/\c - x<j/\e<E/\h<=c - x/\c - x<n/\e<B/\(decide (f<g)=true->(q (-1:Int)).as u)/\(decide (f<g)=false->h<=c - x/\c - x<j/\e<E/\h<=c - x/\c - x<n/\e<B/\(decide (g<f)=true->(q 1).as u)/\(decide (g<f)=false->r d/\((y.as y/\v.as v/\C.as C/\p.as p/\True)/\True)/\(h<=d/\d<=k/\γ4 (l - d.toNat) (IL a)=γ4 (l - d.toNat) (IL b))/\(k - d).toNat<(k - x).toNat)))/\(decide (x<k)=false->o.as u))) (by kernel_rfl) ?_;simp only[vcs];obtain⟨R,S⟩:=@pF a;obtain⟨O,N⟩:=@pF b;have z:=qp H;have w:=qp J;have W:=@rF a;rw[<-R,<-O];generalize IL a=s at*;generalize IL b=t at*;have G:bX s<bX t-> -1=kX (bX s) (bX t):=λh=>by simp_all[kX]
 have F:bX t<bX s->1=kX (bX s) (bX t):=λh=>by unfold kX;omega
 refine⟨r,q,λP=>⟨λh=>G (vP z w N (by omega)),λh=>F (vP w z S (by omega))⟩,λT=>⟨⟨by omega,by omega,?_⟩,?_⟩⟩;·rw[εa (by omega),εa (by omega)]
 rintro i ⟨U,X,A⟩;refine⟨λM=>?_,λQ=>?_⟩
 ·have K:((s.length:Int) - 1 - i).toNat=s.length - 1 - i.toNat:=by omega
  have D:s.length - i.toNat=s.length - 1 - i.toNat+1:=by omega
  rw[K];rw[D] at A;generalize V:s.length - 1 - i.toNat=m at*;refine⟨by omega,by omega,by omega,by omega,by omega,by omega,by omega,by omega,λh=>G (FN z w (by omega) (by omega) A h),λh=>⟨by omega,by omega,by omega,by omega,by omega,by omega,λI=>F (FN w z (by omega) (by omega) A.symm I),λI=>⟨by omega,⟨by omega,by omega,?_⟩,by omega⟩⟩⟩;rw[show s.length - (i+1).toNat=m by omega,zC (show m<s.length by omega),zC (show m<t.length by omega),A,show bN s m 0=bN t m 0 by omega]
 simp_all[kX]
def iu (s t:List Int):Nat->Int
 |0=>0
 |i+1=>(bN s i 0+iu s t i+bN t i 0) / 4294967296
def qM (s t:List Int) (i:Nat):Int:=(bN s i 0+iu s t i+bN t i 0) % 4294967296
def nD (s t:List Int) (i:Nat):List Int:=(ω i).map (qM s t)++δ (s.length+1 - i) 0
def iB (a:List Int×List Int):List Int:=if a.1.length<a.2.length then a.2 else a.1
def kD (a:List Int×List Int):List Int:=if a.1.length<a.2.length then a.1 else a.2
def xR:NG:=⟨165,List Int×List Int,.cons (cQ (.i .u32)) (.one (cQ (.i .u32))),λa=>(ou a.1/\ou a.2)/\a.1.length<=100000000000/\a.2.length<=100000000000,λa=> .row (.i .u32) (bV (bX a.1+bX a.2))⟩
def VD (a:List Int×List Int):Nat->bK
 |6=> .inv Int (λi=>⟨[(0,.row (.i .u32) (iB a)),(1,.row (.i .u32) (kD a)),(5,.ow 0 (nD (iB a) (kD a) i.toNat).length 1),(6,.si .u64 (iu (iB a) (kD a) i.toNat)),(21,.si .i64 (iB a).length),(22,.si .i64 i)],[.row (.i .u32) (nD (iB a) (kD a) i.toNat) 172 true]⟩) (λs=>iS s 22)
  (λi=>0<=i/\i<=(iB a).length) (λi=>((iB a).length - i).toNat) λ_ _=> .bz
 |_=> .bz
theorem dE {a:List Int} (h:ou a) (i:Nat):0<=bN a i 0/\bN a i 0<4294967296:=by
 by_cases b:i<a.length;·rw[bW b];exact h _ (List.getElem_mem b)
 grind[bN]
theorem zB {a:List Int} {i:Nat} (h:a.length<=i):bN a i 0=0:=by grind[bN]
theorem FM {s t:List Int} (b:ou s) (a:ou t):∀i,0<=iu s t i/\iu s t i<=1
 |0=>by simp[iu];|i+1=>by
  have h:=FM b a i;have c:=dE b i;have d:=dE a i;grind[iu]
theorem vN {s t:List Int} {i:Nat} (h:i<=s.length):(nD s t i).length=s.length+1:=by grind[nD]
theorem FL {s t:List Int} {i:Nat} {v:Int} (h:i<=s.length):(nD s t i).set i v=(ω i).map (qM s t)++v::δ (s.length - i) 0:=by
 unfold nD;have a:s.length+1 - i=(s.length - i)+1:=by omega
 rw[a,List.replicate_succ];simp_all
theorem Mn {s t:List Int} {i:Nat} (h:i<s.length):nD s t (i+1)=(nD s t i).set i (qM s t i):=by
 rw[FL (by omega)];unfold nD;rw[εf,γb,List.append_assoc];simp_all
theorem kW {a:List Int} {i:Nat}:bX (a.take (i+1))=bX (a.take i)+4294967296^i*bN a i 0:=by
 by_cases h:i<a.length;·grind[zD,vQ]
 ·rw[zB (by omega),γu (by omega),γu (by omega)];simp
theorem FK {s t:List Int}:∀i,bX ((ω i).map (qM s t))+4294967296^i*iu s t i=bX (s.take i)+bX (t.take i)
 |0=>by simp[iu,bX];|i+1=>by
  have a:=@FK s t i;rw[εf,γb,ξ,γw,vQ,kW,kW,γW];grind[qM,iu]
theorem ub:Holds Tryz.prog xR:=by
 refine bO (L:=[pG]) xR VD (by simpa using kZ) ?_;rintro⟨a,b⟩ ⟨⟨ha,hb⟩,hla,hlb⟩;simp only at ha hb hla hlb;refine NI (let c:=(18446744073709551616:Int);let d:=(0:Int);let e:=(4294967296:Int);let f:=γj .i64;let g:=γa;let h:=iZ.row;let j:=γ1;let m:=(↑(iB (a,b)).length:Int);let q:=(↑(iB (a,b)).length:Int);let r:=(↑(kD (a,b)).length:Int);let k:=ew.i .u32;let s:=g k (iB (a,b));let t:=g k (kD (a,b));let v:=f m;let z:=nD (iB (a,b)) (kD (a,b)) 0;let G:=∀(x:Int),let l:=nD (iB (a,b)) (kD (a,b)) x.toNat;let n:=l.length;let o:=x+(1:Int);let A:=nD (iB (a,b)) (kD (a,b)) o.toNat;let B:=f o;let C:=bN (iB (a,b)) x.toNat d;let w:=iu (iB (a,b)) (kD (a,b)) x.toNat;let y:=l.set q.toNat (w % e);let D:=λ(u u_1:Int) ↦let E:=(u % c+u_1) % c;d<=(32:Int)/\(32:Int)<=(64:Int)/\l.length=n/\d<=x/\x<(↑n:Int)/\l.length=n/\x.toNat<n/\VL .i64 o/\((s.as s/\t.as t/\(j 0 l.length 1).as (j 0 A.length 1)/\(γj .u64 (E / e)).as (γj .u64 (iu (iB (a,b)) (kD (a,b)) o.toNat))/\v.as v/\B.as B/\True)/\(h k (l.set x.toNat (E % e)) 172 true).as (h k A 172 true)/\True)/\(d<=o/\o<=m)/\(m - o).toNat<(m - x).toNat;d<=x/\x<=m->(decide (x<m)=true->d<=x/\x<q/\x.toNat<(iB (a,b)).length/\(decide (x<r)=true->d<=x/\x<r/\x.toNat<(kD (a,b)).length/\D (C % c+w) (bN (kD (a,b)) x.toNat d % c))/\(decide (x<r)=false->D C w))/\(decide (x<m)=false->l.length=n/\d<=q/\q<(↑n:Int)/\l.length=n/\q.toNat<n/\l.length=y.length/\y.length<=1000000000000/\(g k (IL y)).as (g k (bV (bX a+bX b))));let F:=λ(u:Bool) (u_1 u_2:List Int) ↦let p:=(↑u_1.length:Int)+(1:Int);decide ((↑a.length:Int)<(↑b.length:Int))=u->VL .i64 p/\d<=p/\p<=p/\p*(4:Int)<=(140737488355328:Int)/\p<=(1000000000000:Int)/\((((g k u_1).as s/\(g k u_2).as t/\(j 0 p.toNat 1).as (j 0 z.length 1)/\(γC .u64 0).as (γj .u64 (iu (iB (a,b)) (kD (a,b)) 0))/\(f (↑u_1.length:Int)).as v/\(γC .i64 0).as (f 0)/\True)/\(h k (d::δ u_1.length d) 172 true).as (h k z 172 true)/\True)/\d<=d/\d<=m)/\G;F true b a/\F false a b) (by kernel_rfl) ?_;simp only[vcs];have hbs:(a.length<b.length/\iB (a,b)=b/\kD (a,b)=a)\/(¬a.length<b.length/\iB (a,b)=a/\kD (a,b)=b):=by
  by_cases h:a.length<b.length;·exact .inl ⟨h,if_pos h,if_pos h⟩
  ·exact .inr ⟨h,if_neg h,if_neg h⟩
 generalize iB (a,b)=s at*;generalize kD (a,b)=t at*;have hrow:∀{u v:List Int},u=v->(iZ.row (.i .u32) u 172 true).as (iZ.row (.i .u32) v 172 true):=by rintro _ _ rfl;rfl
 have how:∀{u v:Nat},u=v->(γ1 0 u 1).as (γ1 0 v 1):=by rintro _ _ rfl;rfl
 have r0:∀u v:List Int,nD u v 0=0::δ u.length 0:=λu v=>rfl;refine⟨λh=>?_,λh=>?_⟩
 ·obtain⟨h1,e1,e2⟩:a.length<b.length/\s=b/\t=a:=by
   rcases hbs with h2|h2;·exact h2
   ·exact absurd (by omega) h2.1
  subst e1 e2;have hS:ou s:=by assumption
  have hT:ou t:=by assumption
  have hts:t.length<=s.length:=by omega
  have bd:=FM hS hT;refine⟨⟨by omega,by omega⟩,by omega,by omega,by omega,by omega,⟨⟨⟨rfl,rfl,how (by rw[vN (by omega)];omega),rfl,rfl⟩,hrow (r0 s t).symm⟩,by omega,by omega⟩,?_⟩;rintro i ⟨i0,i1⟩;have l1:=@vN s t i.toNat (by omega);have b1:=bd i.toNat;have d1:=dE hS i.toNat;have d2:=dE hT i.toNat;refine⟨λilt=>?_,λige=>?_⟩
  ·have l2:=@vN s t (i.toNat+1) (by omega);have e:(i+1).toNat=i.toNat+1:=by omega
   have hst:=Mn (s:=s) (t:=t) (show i.toNat<s.length by omega);refine⟨i0,ilt,by omega,λht=>?_,λht=>?_⟩
   ·have hv:(((bN s i.toNat 0 % 18446744073709551616+iu s t i.toNat) % 18446744073709551616+bN t i.toNat 0 % 18446744073709551616) % 18446744073709551616)=bN s i.toNat 0+iu s t i.toNat+bN t i.toNat 0:=by omega
    rw[hv,e];exact⟨i0,ht,by omega,by omega,by omega,i0,by omega,by omega,by omega,⟨⟨how (by omega),rfl⟩,hrow hst.symm⟩,by omega,by omega⟩
   ·have hz:=zB (a:=t) (i:=i.toNat) (by omega);have hv:((bN s i.toNat 0 % 18446744073709551616+iu s t i.toNat) % 18446744073709551616)=bN s i.toNat 0+iu s t i.toNat+bN t i.toNat 0:=by omega
    rw[hv,e];exact⟨by omega,by omega,i0,by omega,by omega,by omega,⟨⟨how (by omega),rfl⟩,hrow hst.symm⟩,by omega,by omega⟩
  ·have hi:i.toNat=s.length:=by omega
   have hc:iu s t i.toNat % 4294967296=iu s t i.toNat:=by omega
   rw[hc,γk,hi];rw[hi] at l1 b1;refine⟨by omega,by omega,by omega,by simp,by simp;omega,?_⟩;rw[FL (π _),Nat.sub_self,ε3,ox ?_]
   ·rw[vQ];have hv:=@FK s t s.length;rw[φ,γu hts] at hv;have hl:((ω s.length).map (qM s t)).length=s.length:=by simp
    rw[hl,hv];try rw[ζO]
   ·intro d hd;rcases γi.1 hd with hd|hd
    ·obtain⟨j,_,rfl⟩:=Γ.1 hd;unfold qM;omega
    ·rw[δd] at hd;omega
 ·obtain⟨h1,e1,e2⟩:¬a.length<b.length/\s=a/\t=b:=by
   rcases hbs with h2|h2;·exact absurd h2.1 (by omega)
   ·exact h2
  subst e1 e2;have hS:ou s:=by assumption
  have hT:ou t:=by assumption
  have hts:t.length<=s.length:=by omega
  have bd:=FM hS hT;refine⟨⟨by omega,by omega⟩,by omega,by omega,by omega,by omega,⟨⟨⟨rfl,rfl,how (by rw[vN (by omega)];omega),rfl,rfl⟩,hrow (r0 s t).symm⟩,by omega,by omega⟩,?_⟩;rintro i ⟨i0,i1⟩;have l1:=@vN s t i.toNat (by omega);have b1:=bd i.toNat;have d1:=dE hS i.toNat;have d2:=dE hT i.toNat;refine⟨λilt=>?_,λige=>?_⟩
  ·have l2:=@vN s t (i.toNat+1) (by omega);have e:(i+1).toNat=i.toNat+1:=by omega
   have hst:=Mn (s:=s) (t:=t) (show i.toNat<s.length by omega);refine⟨i0,ilt,by omega,λht=>?_,λht=>?_⟩
   ·have hv:(((bN s i.toNat 0 % 18446744073709551616+iu s t i.toNat) % 18446744073709551616+bN t i.toNat 0 % 18446744073709551616) % 18446744073709551616)=bN s i.toNat 0+iu s t i.toNat+bN t i.toNat 0:=by omega
    rw[hv,e];exact⟨i0,ht,by omega,by omega,by omega,i0,by omega,by omega,by omega,⟨⟨how (by omega),rfl⟩,hrow hst.symm⟩,by omega,by omega⟩
   ·have hz:=zB (a:=t) (i:=i.toNat) (by omega);have hv:((bN s i.toNat 0 % 18446744073709551616+iu s t i.toNat) % 18446744073709551616)=bN s i.toNat 0+iu s t i.toNat+bN t i.toNat 0:=by omega
    rw[hv,e];exact⟨by omega,by omega,i0,by omega,by omega,by omega,⟨⟨how (by omega),rfl⟩,hrow hst.symm⟩,by omega,by omega⟩
  ·have hi:i.toNat=s.length:=by omega
   have hc:iu s t i.toNat % 4294967296=iu s t i.toNat:=by omega
   rw[hc,γk,hi];rw[hi] at l1 b1;refine⟨by omega,by omega,by omega,by simp,by simp;omega,?_⟩;rw[FL (π _),Nat.sub_self,ε3,ox ?_]
   ·rw[vQ];have hv:=@FK s t s.length;rw[φ,γu hts] at hv;have hl:((ω s.length).map (qM s t)).length=s.length:=by simp
    rw[hl,hv];try rw[ζO]
   ·intro d hd;rcases γi.1 hd with hd|hd
    ·obtain⟨j,_,rfl⟩:=Γ.1 hd;unfold qM;omega
    ·rw[δd] at hd;omega
def fW (d:Int):List Int->List Int×Int
 |[]=>([],0)
 |x::l=>(((fW d l).2*4294967296+x) / d::(fW d l).1,((fW d l).2*4294967296+x) % d)
theorem Mm {d:Int}:∀{a:List Int},(fW d a).1.length=a.length
 |[]=>rfl
 |x::l=>by simp[fW,Mm]
theorem zA {d:Int} (e:0<d) (k:d<4294967296):∀{a:List Int},ou a->ou (fW d a).1/\(0<=(fW d a).2/\(fW d a).2<d)/\bX (fW d a).1*d+(fW d a).2=bX a
 |[],_=>by grind[fW,bX];|x::l,h=>by
  obtain⟨n,g⟩:=iG.1 h;obtain⟨j,⟨p,s⟩,o⟩:=zA e k g;simp only[fW];generalize (fW d l).1=q at*;generalize (fW d l).2=r at*;have f:=δQ (r*4294967296+x) (show d≠0 by omega);have i:=δr (r*4294967296+x) e;have c:0<=(r*4294967296+x) / d:=δ1 (by omega) (by omega);have b:(r*4294967296+x) / d<4294967296:=by
   refine Int.ediv_lt_of_lt_mul e ?_;omega
  refine⟨iG.2 ⟨⟨c,b⟩,j⟩,⟨f,i⟩,?_⟩;simp only[bX];have m:=εg (r*4294967296+x) d;grind
theorem VC {d:Int} (i:0<d) (h:d<4294967296) {a:List Int} (g:ou a):IL (fW d a).1=bV (bX a / d)/\(fW d a).2=bX a % d:=by
 obtain⟨e,⟨c,b⟩,f⟩:=zA i h g;rw[ox e];have j:=el e;have k:bX a / d=bX (fW d a).1:=by
  rw[<-f,ζO,Int.add_mul_ediv_right _ _ (by omega),εK c b,Int.zero_add]
 have l:bX a % d=(fW d a).2:=by
  rw[<-f,ζO,Int.add_mul_emod_self_right,δO c b]
 simp_all
theorem FJ {r x:Int} (d:0<=r) (g:r<4294967296) (a:0<=x) (e:x<4294967296):gf.orI .u64 (r*4294967296) x=r*4294967296+x:=by
 obtain⟨m,rfl⟩:=δJ d;obtain⟨k,rfl⟩:=δJ a;have b:(γt 64 ((m:Int)*4294967296)).toNat=2^32*m:=by
  grind[BitVec.toNat_ofInt]
 have c:(γt 64 (k:Int)).toNat=k:=by
  grind
 have f:(γt 64 ((m:Int)*4294967296) |||γt 64 (k:Int)).toNat=2^32*m+k:=by
  rw[BitVec.toNat_or,b,c,Nat.two_pow_add_eq_or_of_lt (by omega)]
 show ef .u64 ((γt 64 ((m:Int)*4294967296) |||γt 64 (k:Int)).toNat:Nat)=_;grind[rm,IntKind.wrap,IntKind.bits,IntKind.signed]
def FI:NG:=⟨186,List Int×Int,.cons (cQ (.i .u32)) (.one (dZ .u32)),λa=>ou a.1/\a.1.length<=100000000000/\0<a.2/\a.2<4294967296,λa=> .Gz [.row (.i .u32) (bV (bX a.1 / a.2)),.si .u32 (bX a.1 % a.2)]⟩
def kE (a:List Int) (d:Int) (i:Nat):List Int:=δ (a.length - i) 0++(fW d (a.drop (a.length - i))).1
def kh (a:List Int) (d:Int) (i:Nat):Int:=(fW d (a.drop (a.length - i))).2
def VB (a:List Int×Int):Nat->bK
 |4=> .inv Int (λi=>⟨[(0,.row (.i .u32) a.1),(1,.si .u32 a.2),(6,.ow 0 (kE a.1 a.2 i.toNat).length 1),(7,.si .u64 (kh a.1 a.2 i.toNat)),(15,.si .i64 a.1.length),(16,.si .i64 i)],[.row (.i .u32) (kE a.1 a.2 i.toNat) 172 true]⟩) (λs=>iS s 16)
  (λi=>0<=i/\i<=a.1.length) (λi=>(a.1.length - i).toNat) λ_ _=> .bz
 |_=> .bz
theorem FH {a:List Int} {d:Int} {i:Nat} (h:i<=a.length):(kE a d i).length=a.length:=by
 grind[kE,Mm]
theorem drop_cons {a:List Int} {k:Nat} (h:k<a.length):a.drop k=bN a k 0::a.drop (k+1):=zC h
theorem Ml {q:List Int} {y:Int}:∀k,(δ (k+1) 0++q).set k y=δ k 0++y::q
 |0=>by simp;|k+1=>by
  have:=@Ml q y k;grind
theorem u64_in {n:Int} (b:0<=n) (a:n<18446744073709551616):VL .u64 n:=by
 show IntKind.u64.wrap n=n;grind[IntKind.wrap,IntKind.bits,IntKind.signed]
theorem IJ:Holds Tryz.prog FI:=by
 refine bO (L:=[pG]) FI VB (by simpa using kZ) ?_;rintro⟨a,d⟩ ⟨ha,hla,d0,d1⟩;simp only at ha hla d0 d1;refine NI (let b:=(0:Int);let c:=(18446744073709551616:Int);let e:=(4294967296:Int);let f:=γj .i64;let g:=γa;let h:=iZ.row;let j:=VL .i64;let k:=(1:Int);let l:=γ1;let n:=(↑a.length:Int);let o:=ew.i .u32;let q:=(↑a.length:Int);let t:=f q;let s:=d % c;b<=n/\n<=n/\n*(4:Int)<=(140737488355328:Int)/\n<=(1000000000000:Int)/\((((g o a).as (g o a)/\(γj .u32 d).as (γj .u32 d)/\(l 0 n.toNat 1).as (l 0 (kE a d 0).length 1)/\(γC .u64 0).as (γj .u64 (kh a d 0))/\(f n).as t/\(γC .i64 0).as (f 0)/\True)/\(h o (δ n.toNat b) 172 true).as (h o (kE a d 0) 172 true)/\True)/\b<=b/\b<=q)/\∀(x:Int),let p:=n - k - x;let u:=gf.orI .u64 (kh a d x.toNat*e % c) (bN a p.toNat b % c);let m:=kE a d x.toNat;let r:=x+k;let v:=f r;b<=x/\x<=q->(decide (x<q)=true->j (n - k)/\j p/\b<=(32:Int)/\(32:Int)<=(64:Int)/\b<=p/\p<n/\p.toNat<a.length/\s≠b/\VL .u64 (u.tdiv s)/\s≠b/\m.length=m.length/\b<=p/\p<(↑m.length:Int)/\m.length=m.length/\p.toNat<m.length/\j r/\(((g o a).as (g o a)/\(γj .u32 d).as (γj .u32 d)/\(l 0 m.length 1).as (l 0 (kE a d r.toNat).length 1)/\(γj .u64 (u.tmod s)).as (γj .u64 (kh a d r.toNat))/\t.as t/\v.as v/\True)/\(h o (m.set p.toNat (u.tdiv s % e)) 172 true).as (h o (kE a d r.toNat) 172 true)/\True)/\(b<=r/\r<=q)/\(q - r).toNat<(q - x).toNat)/\(decide (x<q)=false->m.length=m.length/\m.length<=1000000000000/\(SV.Gz [g o (IL m),γj .u32 (kh a d x.toNat % e)]).as (SV.Gz [g o (bV (bX a / d)),γj .u32 (bX a % d)]))) (by kernel_rfl) ?_;simp only[vcs];have hrow:∀{u v:List Int},u=v->(iZ.row (.i .u32) u 172 true).as (iZ.row (.i .u32) v 172 true):=by rintro _ _ rfl;rfl
 have how:∀{u v:Nat},u=v->(γ1 0 u 1).as (γ1 0 v 1):=by rintro _ _ rfl;rfl
 have z1:kE a d 0=δ a.length 0:=by simp[kE,fW]
 have z2:kh a d 0=0:=by simp[kh,fW]
 refine⟨by omega,by omega,by omega,by omega,⟨⟨⟨how (by rw[FH (by omega)];omega),z2.symm⟩,hrow (by rw[z1,γk])⟩,by omega,by omega⟩,?_⟩;rintro i ⟨i0,i1⟩;have l1:=@FH a d i.toNat (by omega);have l2:=λh=>@FH a d (i+1).toNat h;have dd:d % 18446744073709551616=d:=by omega
 refine⟨λilt=>?_,λige=>?_⟩
 ·have hx:((a.length:Int) - 1 - i).toNat=a.length - 1 - i.toNat:=by omega
  have hk1:a.length - i.toNat=a.length - 1 - i.toNat+1:=by omega
  have hk2:a.length - (i+1).toNat=a.length - 1 - i.toNat:=by omega
  have hR:kE a d i.toNat=δ (a.length - 1 - i.toNat+1) 0++(fW d (a.drop (a.length - 1 - i.toNat+1))).1:=by unfold kE;rw[hk1]
  have hC:kh a d i.toNat=(fW d (a.drop (a.length - 1 - i.toNat+1))).2:=by unfold kh;rw[hk1]
  have hR2:kE a d (i+1).toNat=δ (a.length - 1 - i.toNat) 0++(fW d (a.drop (a.length - 1 - i.toNat))).1:=by unfold kE;rw[hk2]
  have hC2:kh a d (i+1).toNat=(fW d (a.drop (a.length - 1 - i.toNat))).2:=by unfold kh;rw[hk2]
  have hlt:a.length - 1 - i.toNat<a.length:=by omega
  rw[hx];have l3:=l2 (by omega);generalize a.length - 1 - i.toNat=k at*;have hdr:=drop_cons hlt;have hdig:ou (a.drop k):=λz hz=>ha z (γY hz);obtain⟨q1,q2,q3⟩:=zA d0 d1 (a:=a.drop (k+1)) (λz hz=>ha z (γY hz));obtain⟨p1,p2,p3⟩:=zA d0 d1 hdig;rw[hdr] at hR2 hC2 p1 p2;simp only[fW] at hR2 hC2 p1 p2;have hxd:=dE ha k;rw[<-hC] at hR2 hC2 p1 p2 q2;have e1:kh a d i.toNat*4294967296 % 18446744073709551616=kh a d i.toNat*4294967296:=by omega
  have e2:bN a k 0 % 18446744073709551616=bN a k 0:=by omega
  rw[e1,e2,dd,FJ (by omega) (by omega) hxd.1 hxd.2];have hv0:0<=kh a d i.toNat*4294967296+bN a k 0:=by omega
  rw[ε9 hv0,ζa hv0];have hq:=(iG.1 p1).1;have hqm:(kh a d i.toNat*4294967296+bN a k 0) / d % 4294967296=(kh a d i.toNat*4294967296+bN a k 0) / d:=δO hq.1 hq.2;rw[hqm];refine⟨by omega,by omega,by omega,by omega,by omega,by omega,by omega,by omega,u64_in hq.1 (by omega),by omega,by omega,by omega,by omega,by omega,⟨⟨how (by omega),hC2.symm⟩,hrow ?_⟩,by omega,by omega⟩;rw[hR2,hR,Ml]
 ·have hi:a.length - i.toNat=0:=by omega
  have hR:kE a d i.toNat=(fW d a).1:=by unfold kE;rw[hi];simp
  have hC:kh a d i.toNat=(fW d a).2:=by unfold kh;rw[hi];simp
  obtain⟨k1,k2⟩:=VC d0 d1 ha;have hm:=δQ (bX a) (show d≠0 by omega);have hl:=δr (bX a) d0;refine⟨by omega,by rw[hR,k1],?_⟩;rw[hC,k2];omega
def gn:Nat->Int->List Int
 |0,_=>[]
 |k+1,x=>x % 4294967296::gn k (x / 4294967296)
theorem xQ:∀{k:Nat} {x:Int},(gn k x).length=k
 |0,_=>rfl
 |k+1,x=>by simp[gn,xQ]
theorem FG:∀{k:Nat} {x:Int},ou (gn k x)
 |0,_=>by simp[gn,ou];|k+1,x=>iG.2 ⟨by omega,FG⟩
theorem Mk:∀{l:List Int},ou l->gn l.length (bX l)=l
 |[],_=>rfl
 |d::l,h=>by
  obtain⟨e,b⟩:=iG.1 h;simp only[γK,gn,bX];have c:(d+4294967296*bX l) % 4294967296=d:=by omega
  have a:(d+4294967296*bX l) / 4294967296=bX l:=by omega
  rw[c,a,Mk b]
theorem FF {l:List Int} {k:Nat} {x:Int} (h:ou l) (b:l.length=k) (a:bX l=x):l=gn k x:=by
 grind[Mk]
theorem pow_pos (k:Nat):(0:Int)<4294967296^k:=Int.pow_pos (by decide)
theorem Gb:∀{k:Nat} {x:Int},0<=x->x<4294967296^k->bX (gn k x)=x
 |0,x,b,a=>by grind[gn,bX];|k+1,x,b,a=>by
  rw[γW] at a;simp only[gn,bX];rw[Gb (k:=k) (x:=x / 4294967296) (by omega) (by omega)];omega
theorem Ga:∀{a b:List Int},bX (a++b)=bX a+4294967296^a.length*bX b
 |[],b=>by simp[bX];|d::l,b=>by
  simp only[γM,bX,Ga,γK,γW,εy];grind
theorem rE:∀{l:List Int} {j:Nat} {v:Int},j<l.length->bX (l.set j v)=bX l+4294967296^j*(v - bN l j 0)
 |[],_,_,h=>by simp at h;|d::l,0,v,_=>by grind[bX,bN];|d::l,j+1,v,h=>by
  have a:=@rE l j v (by simpa using h);grind[bN,bX]
theorem lN {l:List Int} {j:Nat} {v:Int} (h:ou l) (c:0<=v) (b:v<4294967296):ou (l.set j v):=by
 intro d a;rcases List.mem_or_eq_of_mem_set a with a|rfl;·exact h d a
 omega
theorem xO {a:List Int} (h:ou a) (n:Nat):ou (a.drop n):=λd b=>h d (γY b)
theorem Mj {a b:List Int} (e:ou a) (c:ou b):ou (a++b):=λd f=>by
 rcases γi.1 f with h|h;·exact e d h
 ·exact c d h
theorem qo {l:List Int} {j:Nat} {v:Int} (h:j<l.length):bN (l.set j v) j 0=v:=by
 grind[bN]
theorem nO {l:List Int} {i j:Nat} {v:Int} (h:i≠j):bN (l.set i v) j 0=bN l j 0:=by
 grind[bN]
theorem xN:∀{l:List Int} {i j:Nat},ou l->bX l<4294967296^i->i<=j->bN l j 0=0
 |[],_,_,_,_,_=>by simp[bN];|d::l,0,j,h,a,c=>by
  obtain⟨e,b⟩:=iG.1 h;have:=el b;simp only[bX,Int.pow_zero] at a;have f:d=0:=by omega
  have g:bX l=0:=by omega
  cases j with
  |zero=>simp[bN,f];|succ j=>
   have:=xN (l:=l) (i:=0) (j:=j) b (by simp;omega) (by omega);grind[bN]
 |d::l,i+1,j,h,a,c=>by
  obtain⟨e,b⟩:=iG.1 h;cases j with
  |zero=>omega;|succ j=>
   rw[γW] at a;simp only[bX] at a;have:=xN (l:=l) (i:=i) (j:=j) b (by omega) (by omega);grind[bN]
def gl (o b:List Int) (x:Int) (i:Nat):Nat->List Int×Int
 |0=>(o,0)
 |k+1=>((gl o b x i k).1.set (i+k) ((x*bN b k 0+bN (gl o b x i k).1 (i+k) 0+(gl o b x i k).2) % 4294967296),(x*bN b k 0+bN (gl o b x i k).1 (i+k) 0+(gl o b x i k).2) / 4294967296)
theorem M7 {o b:List Int} {x:Int} {i:Nat} (d:ou o) (g:ou b) (f:0<=x) (m:x<4294967296):∀{k:Nat},i+k<=o.length->
  ou (gl o b x i k).1/\(gl o b x i k).1.length=o.length/\(0<=(gl o b x i k).2/\(gl o b x i k).2<4294967296)/\(∀j,i+k<=j->bN (gl o b x i k).1 j 0=bN o j 0)/\
  bX (gl o b x i k).1+4294967296^(i+k)*(gl o b x i k).2=bX o+4294967296^i*(x*bX (b.take k))
 |0,h=>by simp[gl,d,bX];|k+1,h=>by
  obtain⟨l,t,⟨v,s⟩,u,r⟩:=@M7 o b x i d g f m k (by omega);simp only[gl];generalize (gl o b x i k).1=p at*;generalize (gl o b x i k).2=c at*;have a:=dE g k;have q:=dE l (i+k);have n:0<=x*bN b k 0:=γy f a.1;have e:x*bN b k 0<=4294967295*4294967295:=δL (by omega) (by omega) a.1 (by omega);grind[lN,rE,kW,bN]
def bP (U:List Int) (j k:Nat):List Int:=(U.drop j).take k
theorem M5 {U:List Int} {j k:Nat}:bN (U.drop j) k 0=bN U (j+k) 0:=by
 grind[bN]
theorem kV {U:List Int} {j k:Nat}:bX (bP U j (k+1))=bX (bP U j k)+4294967296^k*bN U (j+k) 0:=by
 grind[bP,kW,M5]
theorem rD {U:List Int} {j k i:Nat} {d:Int} (h:k<=i):bP (U.set (j+i) d) j k=bP U j k:=by
 unfold bP;apply List.ext_getElem?;grind
theorem rC {U:List Int} (h:ou U) {j k:Nat}:ou (bP U j k):=lO (xO h j) k
theorem VA {U:List Int} {j k:Nat} (h:j+k<=U.length):(bP U j k).length=k:=by
 grind[bP]
theorem sX {U:List Int} (h:ou U) {j k:Nat}:bX (bP U j k)<4294967296^k:=by
 have g:=mT (rC h (j:=j) (k:=k));have e:(bP U j k).length<=k:=by grind[bP]
 have i:(4294967296:Int)^(bP U j k).length<=4294967296^k:=by
  have d:∀{a b:Nat},a<=b->(4294967296:Int)^a<=4294967296^b:=λ{a b} c=>by
   obtain⟨m,rfl⟩:=Nat.exists_eq_add_of_le c;rw[Int.pow_add];have f:=pow_pos a;have l:=pow_pos m;have:=Φ (show(1:Int)<=4294967296^m by omega) (γg f);omega
  exact d e
 omega
def iw (U:List Int) (j:Nat) (l:List Int):List Int:=U.take j++(l++U.drop (j+l.length))
theorem Vz {a b:List Int} (c:a.length=b.length) (h:∀m,bN a m 0=bN b m 0):a=b:=by
 apply List.ext_getElem c;intro m d e;have:=h m;grind[bW]
theorem M4 {U l:List Int} {j:Nat} (h:j+l.length<=U.length):(iw U j l).length=U.length:=by
 grind[iw]
theorem Vy {U l:List Int} {j m:Nat} (h:j+l.length<=U.length):bN (iw U j l) m 0=if m<j then bN U m 0 else if m<j+l.length then bN l (m - j) 0 else bN U m 0:=by
 unfold iw bN;grind
theorem vM {U W:List Int} {j k:Nat} {x:Int} (d:ou W) (f:W.length=U.length) (g:j+k<=U.length) (e:∀m,(m<j\/j+k<=m)->bN W m 0=bN U m 0) (a:bX (bP W j k)=x):W=iw U j (gn k x):=by
 have b:bP W j k=gn k x:=FF (rC d) (VA (by omega)) a;have c:=@xQ k x;apply Vz;·grind[M4]
 ·intro m;rw[Vy (by omega),c];split;·simp_all
  ·split
   ·rw[<-b];unfold bP;have:bN ((W.drop j).take k) (m - j) 0=bN (W.drop j) (m - j) 0:=by
     unfold bN;grind
    grind[M5]
   simp_all
section
variable {P V X v1 v2 u2 top rv ru g r:Int}
theorem Vx (e:0<P) (n:V=rv+P*(v2+4294967296*v1)) (l:X=ru+P*(u2+4294967296*top)) (a:0<=rv) (f:ru<P) (d:X<4294967296*V) (b:0<=V)
  (c:0<=g) (j:g*v1+r=top) (h:4294967296<=g\/r*4294967296+u2<g*v2):X<g*V:=by
 rcases h with h|h;·exact Int.lt_of_lt_of_le d (γX h b)
 ·have k:g*V=g*rv+P*(g*v2+4294967296*(top - r)):=by
   grind
  have i:P*(u2+1+4294967296*top)<=P*(g*v2+4294967296*(top - r)):=Φ (by omega) (γg e);have m:0<=g*rv:=γy c a;grind
theorem M0 (c:0<P) (k:V=rv+P*(v2+4294967296*v1)) (n:X=ru+P*(u2+4294967296*top)) (a:0<=rv) (b:rv<P) (f:0<=ru) (e:2147483648<=v1) (j:0<=v2)
  (i:0<=g) (d:g<4294967296) (o:g*v1+r=top) (h:g*v2<=r*4294967296+u2):g*V<X+V:=by
 have m:g*V=g*rv+P*(g*v2+4294967296*(top - r)):=by
  grind
 have q:P*(g*v2+4294967296*(top - r))<=P*(u2+4294967296*top):=Φ (by omega) (γg c);have p:g*rv<=4294967295*rv:=γX (by omega) a;have l:P*4294967296<=P*(v2+4294967296*v1):=Φ (by omega) (γg c);omega
theorem Vw (c:0<P) (p:V=rv+P*(v2+4294967296*v1)) (k:X=ru+P*(u2+4294967296*top)) (b:0<=rv) (e:ru<P) (a:0<=v2) (f:u2<4294967296)
  (d:0<=g) (o:g*v1+r=top) (l:r<v1):X<(g+1)*V:=by
 have n:(g+1)*V=(g+1)*rv+((g+1)*(P*v2)+P*(4294967296*((g+1)*v1))):=by
  grind
 have j:0<=(g+1)*rv:=γy (by omega) b;have h:0<=(g+1)*(P*v2):=γy (by omega) (γy (γg c) a);have i:top+1<=(g+1)*v1:=by grind
 have m:P*(u2+1+4294967296*top)<=P*(4294967296*((g+1)*v1)):=Φ (by omega) (γg c);grind
theorem Vv {b a:Int} (c:0<P) (l:V=rv+P*(v2+4294967296*v1)) (k:X=ru+P*(u2+4294967296*(b+4294967296*a))) (d:rv<P) (f:0<=ru) (e:0<=u2) (i:0<=b) (j:v2<4294967296)
  (g:X<4294967296*V):a<=v1:=by
 by_cases h:a<=v1;·exact h
 ·exfalso;have m:P*(4294967296*(4294967296*(v1+1)))<=P*(u2+4294967296*(b+4294967296*a)):=Φ (by omega) (γg c);have n:P*(v2+4294967296*v1)<=P*(4294967296*(v1+1) - 1):=Φ (by omega) (γg c);grind
theorem sW {X V q:Int} (e:q*V<=X) (c:X<(q+1)*V):X / V=q/\X % V=X - q*V:=by
 rw[Int.add_mul,εz] at c;have d:0<V:=by omega
 have b:X=(X - q*V)+V*q:=by grind
 have a:X / V=q:=by
  conv=>lhs;rw[b]
  rw[Int.add_mul_ediv_left _ _ (by omega),εK (by omega) (by omega),Int.zero_add]
 refine⟨a,?_⟩;rw[Int.emod_def,a,δ5]
end
theorem F_ {p:Int} (a:0<=p) (e:p<18446744073709551616):gf.asV .u64 p 4294967295=p % 4294967296:=by
 obtain⟨m,rfl⟩:=δJ a;have b:(γt 64 ((m:Nat):Int)).toNat=m:=by grind
 have c:(γt 64 4294967295).toNat=4294967295:=by simp_all
 have d:(γt 64 ((m:Nat):Int) &&&γt 64 4294967295).toNat=m % 4294967296:=by
  rw[BitVec.toNat_and,b,c];exact Nat.and_two_pow_sub_one_eq_mod m 32
 show ef .u64 ((γt 64 ((m:Nat):Int) &&&γt 64 4294967295).toNat:Nat)=_;grind[rm,IntKind.wrap,IntKind.bits]
theorem F9 {U W v:List Int} {j i:Nat} {g c b d e:Int} (n:ou W) (f:W.length=U.length) (o:ou v) (h:0<=g) (r:g<4294967296) (y:0<=c) (t:c<4294967296) (s:0<=b) (q:b<=1) (u:j+i<U.length)
  (l:∀m,(m<j\/j+i<=m)->bN W m 0=bN U m 0)
  (k:bX (bP W j i)=bX (bP U j i) - g*bX (v.take i)+4294967296^i*(c+b))
  (a:0<=d/\d<4294967296) (w:d - 4294967296*e=bN W (j+i) 0 - (g*bN v i 0+c) % 4294967296 - b):
  ou (W.set (j+i) d)/\(W.set (j+i) d).length=U.length/\(0<=(g*bN v i 0+c) / 4294967296/\(g*bN v i 0+c) / 4294967296<4294967296)/\
  (∀m,(m<j\/j+(i+1)<=m)->bN (W.set (j+i) d) m 0=bN U m 0)/\
  bX (bP (W.set (j+i) d) j (i+1))=bX (bP U j (i+1)) - g*bX (v.take (i+1))+4294967296^(i+1)*((g*bN v i 0+c) / 4294967296+e):=by
 have x:=dE o i;have z:0<=g*bN v i 0:=γy h x.1;have p:g*bN v i 0<=4294967295*4294967295:=δL (by omega) (by omega) x.1 (by omega);refine⟨lN n a.1 a.2,by simp[f],by omega,λm A=>by grind[nO],?_⟩;have B:=l (j+i) (.inr (π _));rw[kV,kV,rD (π _),qo (by omega),k,kW,γW];grind
theorem F8 {U W v:List Int} {j i:Nat} {c s:Int} (a:ou W) (d:W.length=U.length) (b:ou v) (n:0<=c) (l:c<=1) (h:j+i<U.length) (g:ou U)
  (e:∀m,(m<j\/j+i<=m)->bN W m 0=bN U m 0)
  (k:bX (bP W j i)+4294967296^i*c=bX (bP U j i)+bX (v.take i)) (o:s=bN W (j+i) 0+bN v i 0+c):
  ou (W.set (j+i) (s % 4294967296))/\(W.set (j+i) (s % 4294967296)).length=U.length/\(0<=s / 4294967296/\s / 4294967296<=1)/\
  (∀m,(m<j\/j+(i+1)<=m)->bN (W.set (j+i) (s % 4294967296)) m 0=bN U m 0)/\
  bX (bP (W.set (j+i) (s % 4294967296)) j (i+1))+4294967296^(i+1)*(s / 4294967296)=bX (bP U j (i+1))+bX (v.take (i+1)):=by
 have x:=dE b i;have y:=dE a (j+i);refine⟨lN a (by omega) (by omega),by simp[d],by omega,λm p=>by grind[nO],?_⟩;have f:=e (j+i) (.inr (π _));rw[kV,kV,rD (π _),qo (by omega),kW,γW];grind
theorem Vu {v:List Int} {n:Nat} (a:2<=n) (b:v.length=n):bX v=bX (v.take (n - 2))+4294967296^(n - 2)*(bN v (n - 2) 0+4294967296*bN v (n - 1) 0):=by
 obtain⟨m,rfl⟩:∃m,n=m+2:=⟨n - 2,by omega⟩;grind[kW]
theorem Vt {U:List Int} {j n:Nat} (a:2<=n):bX (bP U j (n+1))=bX (bP U j (n - 2))+4294967296^(n - 2)*(bN U (j+(n - 2)) 0+4294967296*(bN U (j+(n - 1)) 0+4294967296*bN U (j+n) 0)):=by
 obtain⟨m,rfl⟩:∃m,n=m+2:=⟨n - 2,by omega⟩;grind[kV]
structure mh where
 U:List Int
 j:Nat
 len:Nat
 n:Nat
 v:List Int
def mh.x (a:mh):Int:=bX (bP a.U a.j (a.v.length+1))
def mh.ok (a:mh):Prop:=(ou a.U/\ou a.v)/\(a.len=a.v.length+1/\a.n=a.U.length)/\(2<=a.v.length/\a.j+a.v.length+1<=a.U.length/\a.U.length<=200000000000)/\
 2147483648<=bN a.v (a.v.length - 1) 0/\a.x<4294967296*bX a.v
def mh.row (a:mh):List Int:=iw a.U a.j (gn (a.v.length+1) (a.x % bX a.v))
def F7:cW where
 f:=188;α:=mh;put a:=[.oc 0 a.j a.len a.n 1,.row (.i .u32) a.v];st a:=[.row (.i .u32) a.U 172 false];dec v o:=match v,o with
  |[.oc 0 j len n 1,v],[.row t l 172 false]=>match iI (.i .u32) v,gG t (.i .u32) l with
   |some v,some l=>some ⟨l,j,len,n,v⟩
   |_,_=>none
  |_,_=>none;ok v o a h:=by
  split at h
  ·split at h
   ·rename_i h1 h2;simp only[γ] at h;subst h;obtain⟨rfl,hh⟩:=lq h2;cases hh;exact⟨by simp only[gL,nn h1],rfl⟩
   ·cases h
  ·cases h
 inj a b h1 h2:=by
  obtain⟨U,j,len,n,v⟩:=a;obtain⟨U',j',len',n',v'⟩:=b;simp only[gL,Θ,and_true] at h1;obtain⟨g1,g2⟩:=h1;have e2:=(cQ (.i .u32)).inj _ _ g2;simp only[SV.g,AV.os.injEq,true_and,ew.sz,Nat.mul_one] at g1;simp only[gO,ξ,γw,iZ.g,Θ,OL.cells.injEq,and_true] at h2;have hl:U=U':=by
   have hf:=congrArg List.length h2;rw[ee,ee] at hf;exact ku (.i .u32) (by simpa[ew.sz] using hf) h2
  obtain⟨q1,q2,q3⟩:=g1;subst q3;have:j=j':=by omega
  rw[e2,hl,q2,this]
 dom:=mh.ok;res a:=.si .u32 (a.x / bX a.v);out a:=[.row (.i .u32) a.row 172 false]
def F6 (U:List Int):TP:=[.row (.i .u32) U 172 false]
def Vs (a:mh):Nat->bK
 |4=> .inv (Int×Int) (λx=>⟨[(0,.oc 0 a.j a.len a.n 1),(1,.row (.i .u32) a.v),(5,.si .i64 a.v.length),(7,.si .u64 x.1),(8,.si .u64 x.2)],F6 a.U⟩) (λs=>(iS s 7,iS s 8))
  (λx=>(0<=x.1/\x.1<=4294967297)/\(0<=x.2/\x.2<4294967296)/\x.1*bN a.v (a.v.length - 1) 0+x.2=bN a.U (a.j+(a.v.length - 1)) 0+4294967296*bN a.U (a.j+a.v.length) 0/\a.x<(x.1+1)*bX a.v) (λx=>x.1.toNat) λ_ _=> .bz
 |10=> .inv (Int×Int×Int×Int×List Int) (λx=>⟨[(0,.oc 0 a.j a.len a.n 1),(1,.row (.i .u32) a.v),(5,.si .i64 a.v.length),(7,.si .u64 x.2.1),(9,.si .u64 x.2.2.1),(10,.si .u64 x.2.2.2.1),(82,.si .i64 a.v.length),(83,.si .i64 x.1)],F6 x.2.2.2.2⟩)
  (λs=>(iS s 83,iS s 7,iS s 9,iS s 10,oS (.i .u32) s 0))
  (λx=>(0<=x.1/\x.1<=a.v.length)/\(0<=x.2.1/\x.2.1<4294967296)/\(a.x<(x.2.1+1)*bX a.v/\x.2.1*bX a.v<a.x+bX a.v)/\(0<=x.2.2.1/\x.2.2.1<4294967296)/\(0<=x.2.2.2.1/\x.2.2.2.1<=1)/\(ou x.2.2.2.2/\x.2.2.2.2.length=a.U.length)/\
   (∀m,(m<a.j\/a.j+x.1.toNat<=m)->bN x.2.2.2.2 m 0=bN a.U m 0)/\
   bX (bP x.2.2.2.2 a.j x.1.toNat)=bX (bP a.U a.j x.1.toNat) - x.2.1*bX (a.v.take x.1.toNat)+4294967296^x.1.toNat*(x.2.2.1+x.2.2.2.1)) (λx=>(a.v.length - x.1).toNat) λ_ _=> .bz
 |23=> .inv (Int×Int×Int×List Int) (λx=>⟨[(0,.oc 0 a.j a.len a.n 1),(1,.row (.i .u32) a.v),(5,.si .i64 a.v.length),(7,.si .u64 x.2.1),(9,.si .u64 x.2.2.1),(134,.si .i64 a.v.length),(135,.si .i64 x.1)],F6 x.2.2.2⟩)
  (λs=>(iS s 135,iS s 7,iS s 9,oS (.i .u32) s 0))
  (λx=>(0<=x.1/\x.1<=a.v.length)/\(0<=x.2.1/\x.2.1<4294967296)/\(a.x<x.2.1*bX a.v/\x.2.1*bX a.v<a.x+bX a.v)/\(0<=x.2.2.1/\x.2.2.1<=1)/\(ou x.2.2.2/\x.2.2.2.length=a.U.length)/\
   ∃W,(ou W/\W.length=a.U.length)/\(∀m,(m<a.j\/a.j+(a.v.length+1)<=m)->bN W m 0=bN a.U m 0)/\bX (bP W a.j (a.v.length+1))=a.x - x.2.1*bX a.v+4294967296^(a.v.length+1)/\
    (∀m,(m<a.j\/a.j+x.1.toNat<=m)->bN x.2.2.2 m 0=bN W m 0)/\bX (bP x.2.2.2 a.j x.1.toNat)+4294967296^x.1.toNat*x.2.2.1=bX (bP W a.j x.1.toNat)+bX (a.v.take x.1.toNat))
  (λx=>(a.v.length - x.1).toNat) λ_ _=> .bz
 |_=> .bz
theorem IH:dD Tryz.prog F7:=by
 refine kq (L:=[]) (W:=[]) F7 Vs (by simp) (by simp) ?_;rintro⟨U,j,len,n,v⟩ ⟨⟨hU,hv⟩,⟨e1,e2⟩,⟨hn,hj,hlU⟩,hv1,hx⟩;simp only at hU hv hn hj hlU hv1 hx e1 e2;subst e1 e2;refine NI (let a:=(18446744073709551616:Int);let b:=(0:Int);let c:=(4294967296:Int);let d:=(1:Int);let e:=γa;let f:=γj .i64;let g:=(32:Int);let h:=VL .i64;let k:=(9223372036854775808:Int);let l:=(4294967297:Int);let n:=(64:Int);let o:=iZ.row;let p:=γC .i64 0;let q:=(63:Int);let r:=γC .i64;let D:=(↑v.length:Int);let y:=v.length+1;let F:=(↑y:Int);let B:=D - d;let Q:=bN v B.toNat b % a;let a7:=gf.orI .u64 (bN U (j+D.toNat) 0 % a*c % a) (bN U (j+B.toNat) 0 % a);let K:=a7.tdiv Q;let C:=SV.oc 0 j y U.length 1;let w:=ew.i .u32;let s:=(↑v.length:Int);let t:=f s;let a8:=γj .u64 K;let R:=a7.tmod Q;let a9:=γj .u64 R;let J:=o w U 172 false;let aa:=v.length - 1;let a3:=bN v aa b;let a4:=bN U (j+aa) 0+c*bN U (j+v.length) 0;let ab:=mh.mk U j y U.length v;let E:=ab.x;let L:=s - d;let aJ:=bN v L.toNat b % a;let M:=E+bX v;let S:=bX (bP U j 0);let I:=j+s.toNat;let ac:=γj .u32 (E / bX v);let ad:=o w ab.row 172 false;let ae:=c^y;let H:=s - (2:Int);U.length=U.length/\b<=D/\D<F/\j+y<=U.length/\U.length=U.length/\j+D.toNat<U.length/\b<=g/\g<=n/\h B/\U.length=U.length/\b<=B/\B<F/\j+y<=U.length/\U.length=U.length/\j+B.toNat<U.length/\h B/\b<=B/\B<D/\B.toNat<v.length/\Q≠b/\VL .u64 K/\h B/\b<=B/\B<D/\B.toNat<v.length/\Q≠b/\(((C.as C/\(e w v).as (e w v)/\(f D).as t/\a8.as a8/\a9.as a9/\True)/\J.as J/\True)/\(b<=K/\K<=l)/\(b<=R/\R<c)/\K*a3+R=a4/\E<(K+d)*bX v)/\∀(x:Int×Int),let N:=(x.2+aJ) % a;let af:=decide (c<=N);let G:=(x.1 - d) % a;let T:=γj .u64 G;let ag:=γj .u64 N;let ah:=decide (c<=x.1);let ai:=γj .u64 x.1;let aj:=∀(x:Int×Int×Int×Int×List Int),let V:=x.2.1*bX v;let z:=x.2.2.2.2;let X:=x.2.2.2.1;let Y:=x.2.2.1;let ak:=((bN z I b % a - Y) % a - X) % a;let O:=j+x.1.toNat;let Z:=x.1+d;let a0:=γj .u64 x.2.1;let al:=(x.2.1*(bN v x.1.toNat b % a) % a+Y) % a;let am:=al / c;let an:=γj .u64 am;let ao:=gf.asV .u64 al (4294967295:Int);let ap:=((bN z O b % a - ao) % a - X) % a;let aq:=ap / k;let ar:=γj .u64 aq;let au:=f Z;let P:=z.set I (ak % c);let av:=λ(u u_1 u_2:Int) (u_3:List Int) ↦(b<=u/\u<=s)/\(b<=x.2.1/\x.2.1<c)/\(E<(x.2.1+d)*bX v/\V<M)/\(b<=u_1/\u_1<c)/\(b<=u_2/\u_2<=d)/\(ou u_3/\u_3.length=U.length)/\(∀(m:Nat),m<j\/j+u.toNat<=m->bN u_3 m b=bN U m b)/\bX (bP u_3 j u.toNat)=bX (bP U j u.toNat) - x.2.1*bX (Δ u.toNat v)+c^u.toNat*(u_1+u_2);let aw:=λ(u:Nat) (u_1:Int) ↦let ax:=o w (z.set u (((bN z u b % a - u_1) % a - X) % a % c)) 172 false;ax.as ax/\True;let ay:=λ(u:Bool) ↦decide (ak / k=b)=u;av x.1 Y X z->(decide (x.1<s)=true->b<=x.1/\x.1<D/\x.1.toNat<v.length/\b<=g/\g<=n/\U.length=z.length/\b<=x.1/\x.1<F/\j+y<=U.length/\U.length=z.length/\O<z.length/\b<=q/\q<=n/\U.length=z.length/\b<=x.1/\x.1<F/\j+y<=U.length/\U.length=z.length/\O<z.length/\h Z/\((C.as C/\(e w v).as (e w v)/\t.as t/\a0.as a0/\an.as an/\ar.as ar/\t.as t/\au.as au/\True)/\aw O ao)/\av Z am aq (z.set O (ap % c))/\(s - Z).toNat<(s - x.1).toNat)/\(decide (x.1<s)=false->U.length=z.length/\b<=s/\s<F/\j+y<=U.length/\U.length=z.length/\I<z.length/\U.length=z.length/\b<=s/\s<F/\j+y<=U.length/\U.length=z.length/\I<z.length/\b<=q/\q<=n/\(ay true->(γj .u32 (x.2.1 % c)).as ac/\(o w P 172 false).as ad/\True)/\(ay false->(((C.as C/\(e w v).as (e w v)/\t.as t/\a0.as a0/\(γC .u64 0).as (γj .u64 0)/\t.as t/\(p).as (f 0)/\True)/\aw I Y)/\(b<=b/\b<=s)/\(b<=x.2.1/\x.2.1<c)/\(E<V/\V<M)/\(b<=b/\b<=d)/\(ou P/\P.length=U.length)/\∃(W:List Int),(ou W/\W.length=U.length)/\(∀(m:Nat),m<j\/j+y<=m->bN W m b=bN U m b)/\bX (bP W j y)=E - V+ae/\(∀(m:Nat),m<j\/j+0<=m->bN P m b=bN W m b)/\bX (bP P j 0)+b=bX (bP W j 0)+bX [])/\∀(x:Int×Int×Int×List Int),let a5:=x.2.1*bX v;let a6:=x.2.2.1;let A:=x.2.2.2;let a1:=j+x.1.toNat;let a2:=x.1+d;let az:=γj .u64 x.2.1;let aA:=((bN A a1 b % a+bN v x.1.toNat b % a) % a+a6) % a;let aB:=aA / c;let aC:=γj .u64 aB;let aD:=f a2;let aE:=A.set a1 (aA % c);let aF:=o w aE 172 false;let aG:=λ(u u_1:Int) (u_2:List Int) ↦(b<=u/\u<=s)/\(b<=x.2.1/\x.2.1<c)/\(E<a5/\a5<M)/\(b<=u_1/\u_1<=d)/\(ou u_2/\u_2.length=U.length)/\∃(W:List Int),(ou W/\W.length=U.length)/\(∀(m:Nat),m<j\/j+y<=m->bN W m b=bN U m b)/\bX (bP W j y)=E - a5+ae/\(∀(m:Nat),m<j\/j+u.toNat<=m->bN u_2 m b=bN W m b)/\bX (bP u_2 j u.toNat)+c^u.toNat*u_1=bX (bP W j u.toNat)+bX (Δ u.toNat v);aG x.1 a6 A->(decide (x.1<s)=true->U.length=A.length/\b<=x.1/\x.1<F/\j+y<=U.length/\U.length=A.length/\a1<A.length/\b<=x.1/\x.1<D/\x.1.toNat<v.length/\b<=g/\g<=n/\U.length=A.length/\b<=x.1/\x.1<F/\j+y<=U.length/\U.length=A.length/\a1<A.length/\h a2/\((C.as C/\(e w v).as (e w v)/\t.as t/\az.as az/\aC.as aC/\t.as t/\aD.as aD/\True)/\aF.as aF/\True)/\aG a2 aB aE/\(s - a2).toNat<(s - x.1).toNat)/\(decide (x.1<s)=false->U.length=A.length/\b<=s/\s<F/\j+y<=U.length/\U.length=A.length/\I<A.length/\U.length=A.length/\b<=s/\s<F/\j+y<=U.length/\U.length=A.length/\I<A.length/\(γj .u32 ((x.2.1 - d) % a % c)).as ac/\(o w (A.set I ((bN A I b+a6 % c) % c)) 172 false).as ad/\True)));let aH:=h L/\b<=L/\L<D/\L.toNat<v.length/\(af=true->(((C.as C/\(e w v).as (e w v)/\t.as t/\T.as T/\(γC .u64 0).as (γj .u64 0)/\(γC .u64 0).as (γj .u64 0)/\t.as t/\(p).as (f 0)/\True)/\J.as J/\True)/\(b<=b/\b<=s)/\(b<=G/\G<c)/\(E<(G+d)*bX v/\G*bX v<M)/\(b<=b/\b<c)/\(b<=b/\b<=d)/\(ou U/\U.length=U.length)/\(∀(m:Nat),m<j\/j+0<=m->bN U m b=bN U m b)/\S=S - G*bX []+b)/\aj)/\(af=false->((C.as C/\(e w v).as (e w v)/\t.as t/\T.as T/\ag.as ag/\True)/\J.as J/\True)/\((b<=G/\G<=l)/\(b<=N/\N<c)/\G*a3+N=a4/\E<(G+d)*bX v)/\G.toNat<x.1.toNat);let aI:=λ(u:Bool) ↦decide (gf.orI .u64 (x.2*c % a) (bN U (j+H.toNat) 0 % a)<x.1*(bN v H.toNat b % a) % a)=u;(b<=x.1/\x.1<=l)/\(b<=x.2/\x.2<c)/\x.1*a3+x.2=a4/\E<(x.1+d)*bX v->(ah=true->aH)/\(ah=false->h H/\b<=H/\H<D/\H.toNat<v.length/\b<=g/\g<=n/\h H/\U.length=U.length/\b<=H/\H<F/\j+y<=U.length/\U.length=U.length/\j+H.toNat<U.length/\(aI true->aH)/\(aI false->(((C.as C/\(e w v).as (e w v)/\t.as t/\ai.as ai/\(γC .u64 0).as (γj .u64 0)/\(γC .u64 0).as (γj .u64 0)/\t.as t/\(p).as (f 0)/\True)/\J.as J/\True)/\(b<=b/\b<=s)/\(b<=x.1/\x.1<c)/\(E<(x.1+d)*bX v/\x.1*bX v<M)/\(b<=b/\b<c)/\(b<=b/\b<=d)/\(ou U/\U.length=U.length)/\(∀(m:Nat),m<j\/j+0<=m->bN U m b=bN U m b)/\S=S - x.1*bX []+b)/\aj))) (by kernel_rfl) ?_;simp only[vcs];have t1:((v.length:Int) - 1).toNat=v.length - 1:=by omega
 have t2:((v.length:Int) - 2).toNat=v.length - 2:=by omega
 have t3:((v.length:Int)).toNat=v.length:=by omega
 have hVe:=Vu hn rfl;have hXe:=@Vt U j v.length hn;have dv1:=dE hv (v.length - 1);have dv2:=dE hv (v.length - 2);have du0:=dE hU (j+v.length);have du1:=dE hU (j+(v.length - 1));have du2:=dE hU (j+(v.length - 2));have m1:bN v (v.length - 1) 0 % 18446744073709551616=bN v (v.length - 1) 0:=by omega
 have m2:bN v (v.length - 2) 0 % 18446744073709551616=bN v (v.length - 2) 0:=by omega
 have m3:bN U (j+v.length) 0 % 18446744073709551616=bN U (j+v.length) 0:=by omega
 have m4:bN U (j+(v.length - 1)) 0 % 18446744073709551616=bN U (j+(v.length - 1)) 0:=by omega
 have m5:bN U (j+(v.length - 2)) 0 % 18446744073709551616=bN U (j+(v.length - 2)) 0:=by omega
 have m6:bN U (j+v.length) 0*4294967296 % 18446744073709551616=bN U (j+v.length) 0*4294967296:=by omega
 have hor:=FJ du0.1 du0.2 du1.1 du1.2;have htop:0<=bN U (j+v.length) 0*4294967296+bN U (j+(v.length - 1)) 0:=by omega
 have hx':bX (bP U j (v.length+1))<4294967296*bX v:=hx;have hP:=pow_pos (v.length - 2);have hrv:=el (lO hv (v.length - 2));have awN:=mT (lO hv (v.length - 2));rw[List.length_take,Nat.min_eq_left (by omega)] at awN;have hru:=el (rC hU (j:=j) (k:=v.length - 2));have aC8:=sX hU (j:=j) (k:=v.length - 2);have hV0:=el hv;have hX0:=el (rC hU (j:=j) (k:=v.length+1));have htp:=Vv hP hVe hXe awN hru du2.1 du1.1 dv2.2 hx';have hax:(mh.mk U j (v.length+1) U.length v).x=bX (bP U j (v.length+1)):=rfl;simp only[hax,t1,t2,t3,m1,m2,m3,m4,m5,m6,hor,ε9 htop,ζa htop];generalize aSq:bN v (v.length - 1) 0=v1 at*;generalize aSr:bN v (v.length - 2) 0=v2 at*;generalize aY2:bN U (j+v.length) 0=u0 at*;generalize aSs:bN U (j+(v.length - 1)) 0=u1 at*;generalize aSt:bN U (j+(v.length - 2)) 0=u2 at*;have hqr:=εg (u0*4294967296+u1) v1;have hr0:=δQ (u0*4294967296+u1) (show v1≠0 by omega);have hr1:=δr (u0*4294967296+u1) (show 0<v1 by omega);have hg0:0<=(u0*4294967296+u1) / v1:=δ1 htop (by omega);generalize hge:(u0*4294967296+u1) / v1=g0 at*;generalize hre:(u0*4294967296+u1) % v1=r0 at*;have hg1:g0<=4294967297:=by
  by_cases h:g0<=4294967297;·exact h
  ·exfalso;have:=Φ (show(4294967298:Int)<=g0 by omega) (show 0<=v1 by omega);omega
 have aJF:g0*v1+r0=u1+4294967296*u0:=by rw[δ5 g0];omega
 have hst:=Vw hP hVe hXe hrv aC8 dv2.1 du2.2 hg0 aJF hr1;have hin:VL .u64 g0:=u64_in hg0 (by omega);repeat refine γm (by omega) ?_
 clear t1 t2 t3 m1 m2 m3 m4 m5 m6 hor htop hge hre hqr hr0 hr1 hg0 hg1 aJF hst hin aSq aSr aSs aSt hx;rintro⟨g,r⟩ ⟨⟨g0',g1'⟩,⟨r0',r1'⟩,hgr,hgx⟩;simp only at g0' g1' r0' r1' hgr hgx ⊢;have azh:0<g+1:=by omega
 have e1:(r+v1) % 18446744073709551616=r+v1:=by omega
 have e2:r*4294967296 % 18446744073709551616=r*4294967296:=by omega
 have gv0:0<=g*v2:=γy g0' dv2.1;have gv1:g*v2<=4294967297*4294967295:=δL (by omega) (by omega) dv2.1 (by omega);have e3:g*v2 % 18446744073709551616=g*v2:=by omega
 have hor2:=FJ r0' r1' du2.1 du2.2;have aC9:g*v1+r=u1+4294967296*u0:=hgr;have aJG:4294967296<=r+v1->g<=4294967296:=λh=>by
  by_cases hg:g<=4294967296;·exact hg
  ·have:g=4294967297:=by omega
   subst this;omega
 have dec:(4294967296<=g\/r*4294967296+u2<g*v2)->(bX (bP U j (v.length+1))<g*bX v/\(g - 1) % 18446744073709551616=g - 1/\0<=g - 1/\(g - 1)*v1+(r+v1)=u1+4294967296*u0):=λh=>by
  have h1:=Vx hP hVe hXe hrv aC8 hx' hV0 g0' aC9 h;have h2:g≠0:=by
   rintro rfl;omega
  refine⟨h1,by omega,by omega,?_⟩;rw[ζX,εz];omega
 simp only[e1,e2,e3,hor2];have brk:(4294967296<=g\/r*4294967296+u2<g*v2)->4294967296<=r+v1->∃gg,gg=(g - 1) % 18446744073709551616/\(0<=gg/\gg<4294967296)/\bX (bP U j (v.length+1))<(gg+1)*bX v/\gg*bX v<bX (bP U j (v.length+1))+bX v:=λh hb=>by
  obtain⟨k1,k2,k3,k4⟩:=dec h;have k5:=aJG hb;rw[k2];refine⟨_,rfl,by omega,by rw[show g - 1+1=g by omega];exact k1,M0 hP hVe hXe hrv awN hru hv1 dv2.1 k3 (by omega) k4 ?_⟩;have:=δL (show g - 1<=4294967295 by omega) (show v2<=4294967295 by omega) dv2.1 (by omega);omega
 have nbr:(4294967296<=g\/r*4294967296+u2<g*v2)->¬4294967296<=r+v1->(0<=(g - 1) % 18446744073709551616/\(g - 1) % 18446744073709551616<=4294967297)/\(g - 1) % 18446744073709551616*v1+(r+v1)=u1+4294967296*u0/\bX (bP U j (v.length+1))<((g - 1) % 18446744073709551616+1)*bX v/\((g - 1) % 18446744073709551616).toNat<g.toNat:=λh hb=>by
  obtain⟨k1,k2,k3,k4⟩:=dec h;rw[k2];exact⟨by omega,k4,by rw[show g - 1+1=g by omega];exact k1,by omega⟩
 have ext:¬4294967296<=g->¬r*4294967296+u2<g*v2->∃gg,gg=g/\(0<=gg/\gg<4294967296)/\bX (bP U j (v.length+1))<(gg+1)*bX v/\gg*bX v<bX (bP U j (v.length+1))+bX v:=λh h2=>
  ⟨_,rfl,by omega,hgx,M0 hP hVe hXe hrv awN hru hv1 dv2.1 g0' (by omega) aC9 (by omega)⟩;clear aC9 azh e1 e2 e3 gv0 gv1 hor2 hVe hXe hrv awN hru aC8 aJG dec htp;refine⟨λhB=>?_,λhB=>?_⟩
 ·refine⟨by omega,by omega,by omega,by omega,?_⟩;refine⟨λhb=>?_,λhb=>?_⟩
  ·obtain⟨gg,hgg,f0,f2,f3⟩:=brk (.inl hB) hb;rw[<-hgg];clear hB hb;clear hgg brk nbr ext hgx hgr;refine⟨?_,?_⟩
   ·repeat' refine γm ?_ ?_
    all_goals first|omega|exact hU|exact f2|exact f3|exact λ_ _=>trivial|(simp only[bX];omega)
   clear f0 f2 f3;rintro⟨i,ga,c,b,R⟩ ⟨⟨i0,i1⟩,⟨ga0,ga1⟩,⟨f2,f3⟩,⟨c0,c1⟩,⟨b0,b1⟩,⟨hR,hRl⟩,ho,he⟩;simp only at i0 i1 ga0 ga1 f2 f3 c0 c1 b0 b1 hR hRl ho he ⊢;refine⟨λilt=>?_,λige=>?_⟩
   ·have x:=dE hv i.toNat;have y:=dE hR (j+i.toNat);have gx0:0<=ga*bN v i.toNat 0:=γy ga0 x.1;have gx1:ga*bN v i.toNat 0<=4294967295*4294967295:=δL (by omega) (by omega) x.1 (by omega);have q1:bN v i.toNat 0 % 18446744073709551616=bN v i.toNat 0:=by omega
    have q2:bN R (j+i.toNat) 0 % 18446744073709551616=bN R (j+i.toNat) 0:=by omega
    have q3:(ga*bN v i.toNat 0 % 18446744073709551616+c) % 18446744073709551616=ga*bN v i.toNat 0+c:=by omega
    have hi1:(i+1).toNat=i.toNat+1:=by omega
    rw[q1,q2,q3,F_ (by omega) (by omega),hi1];generalize hq:((bN R (j+i.toNat) 0 - (ga*bN v i.toNat 0+c) % 4294967296) % 18446744073709551616 - b) % 18446744073709551616=q;obtain⟨k1,k2,k3,k4,k5⟩:=F9 (d:=q % 4294967296) (e:=q / 9223372036854775808) hR hRl hv ga0 ga1 c0 c1 b0 b1 (show j+i.toNat<U.length by omega) ho he (by omega) (by omega);repeat' refine γm ?_ ?_
    all_goals first|omega|exact k1|exact k2|exact k3|exact k4|exact k5|exact f2|exact f3
   ·have hi:i.toNat=v.length:=by omega
    rw[hi,φ] at he;rw[hi] at ho;have hun:=ho (j+v.length) (.inr (π _));have du:=dE hU (j+v.length);have q2:bN R (j+v.length) 0 % 18446744073709551616=bN R (j+v.length) 0:=by rw[hun];omega
    have hXs:=@kV U j v.length;rw[q2];generalize hq:((bN R (j+v.length) 0 - c) % 18446744073709551616 - b) % 18446744073709551616=q;have alO:ou (R.set (j+v.length) (q % 4294967296)):=lN hR (by omega) (by omega);have hlen:(R.set (j+v.length) (q % 4294967296)).length=U.length:=by simp[hRl]
    have hout:∀m,(m<j\/j+(v.length+1)<=m)->bN (R.set (j+v.length) (q % 4294967296)) m 0=bN U m 0:=λm hm=>by rw[nO (by omega)];exact ho m (by omega)
    have hval:bX (bP (R.set (j+v.length) (q % 4294967296)) j (v.length+1))=bX (bP U j (v.length+1)) - ga*bX v+4294967296^(v.length+1)*(q / 9223372036854775808):=by
     rw[kV,rD (π _),qo (by omega),he,hXs,γW];have hd:q % 4294967296 - 4294967296*(q / 9223372036854775808)=bN U (j+v.length) 0 - c - b:=by rw[hun] at hq;omega
     generalize (4294967296:Int)^v.length=B;have e:B*4294967296*(q / 9223372036854775808)=B*(q % 4294967296+c+b - bN U (j+v.length) 0):=by rw[δn];congr 1;omega
     rw[e];simp only[εy,εN];omega
    generalize hW:R.set (j+v.length) (q % 4294967296)=W at*;have hbd:=sX alO (j:=j) (k:=v.length+1);have hnn:=el (rC alO (j:=j) (k:=v.length+1));have q3:0<=q/\q<18446744073709551616:=by omega
    clear hq hun du q2 he ho hR;repeat refine γm (by omega) ?_
    refine⟨λhz=>?_,λhz=>?_⟩
    ·rw[hz,δM,εi] at hval;obtain⟨w1,w2⟩:=sW (q:=ga) (show ga*bX v<=bX (bP U j (v.length+1)) by omega) f2;refine⟨by rw[w1];omega,?_⟩;have hfin:W=iw U j (gn (v.length+1) (bX (bP U j (v.length+1)) % bX v)):=vM alO hlen (by omega) hout (by rw[hval,w2]);rw[hfin];rfl
    ·have hq1:q / 9223372036854775808=1:=by omega
     rw[hq1,ε4] at hval;have f4:bX (bP U j (v.length+1))<ga*bX v:=by omega
     refine⟨?_,?_⟩
     ·repeat' refine γm ?_ ?_
      all_goals first|omega|exact alO|exact hlen|exact⟨W,⟨alO,hlen⟩,hout,hval,λ_ _=>rfl,by simp only[bX]⟩
     clear alO hlen hout hval hW hbd hnn q3 hz hq1 f4 f2 f3 c0 c1 b0 b1 i0 i1 ga0 ga1;rintro⟨i2,gb,c2,R2⟩ ⟨⟨i0,i1⟩,⟨gb0,gb1⟩,⟨f5,f6⟩,⟨c0,c1⟩,⟨hR2,apw⟩,W2,⟨hW2,arV⟩,ho2,hvW,ho3,he3⟩;simp only at i0 i1 gb0 gb1 f5 f6 c0 c1 hR2 apw ho3 he3 ⊢;refine⟨λilt=>?_,λige=>?_⟩
     ·have x:=dE hv i2.toNat;have y:=dE hR2 (j+i2.toNat);have hi1:(i2+1).toNat=i2.toNat+1:=by omega
      rw[hi1];have hs:((bN R2 (j+i2.toNat) 0 % 18446744073709551616+bN v i2.toNat 0 % 18446744073709551616) % 18446744073709551616+c2) % 18446744073709551616=bN R2 (j+i2.toNat) 0+bN v i2.toNat 0+c2:=by omega
      rw[hs];obtain⟨k1,k2,k3,k4,k5⟩:=F8 hR2 (apw.trans arV.symm) hv c0 c1 (show j+i2.toNat<W2.length by omega) hW2 ho3 he3 rfl;repeat' refine γm ?_ ?_
      all_goals first|omega|exact k1|exact f5|exact f6|exact⟨W2,⟨hW2,arV⟩,ho2,hvW,k4,k5⟩
     ·have hi2:i2.toNat=v.length:=by omega
      rw[hi2,φ] at he3;rw[hi2] at ho3;have hun:=ho3 (j+v.length) (.inr (π _));have du:=dE hW2 (j+v.length);have hXs:=@kV W2 j v.length;have hc2:c2 % 4294967296=c2:=by omega
      rw[hc2,hun];have hF:ou (R2.set (j+v.length) ((bN W2 (j+v.length) 0+c2) % 4294967296)):=lN hR2 (by omega) (by omega);have hFl:(R2.set (j+v.length) ((bN W2 (j+v.length) 0+c2) % 4294967296)).length=U.length:=by simp[apw]
      have hFo:∀m,(m<j\/j+(v.length+1)<=m)->bN (R2.set (j+v.length) ((bN W2 (j+v.length) 0+c2) % 4294967296)) m 0=bN U m 0:=λm hm=>by rw[nO (by omega),ho3 m (by omega)];exact ho2 m hm
      have hFv:bX (bP (R2.set (j+v.length) ((bN W2 (j+v.length) 0+c2) % 4294967296)) j (v.length+1))=bX (bP U j (v.length+1)) - gb*bX v+4294967296^(v.length+1)+bX v - 4294967296^(v.length+1)*((bN W2 (j+v.length) 0+c2) / 4294967296):=by
       rw[kV,rD (π _),qo (by omega),<-hvW,hXs,γW];generalize (4294967296:Int)^v.length=B at*;have e:B*4294967296*((bN W2 (j+v.length) 0+c2) / 4294967296)=B*(bN W2 (j+v.length) 0+c2 - (bN W2 (j+v.length) 0+c2) % 4294967296):=by rw[δn];congr 1;omega
       rw[e];simp only[εy,εN];omega
      have hbd:=sX hF (j:=j) (k:=v.length+1);have hk:(bN W2 (j+v.length) 0+c2) / 4294967296=1:=by
       by_cases h:(bN W2 (j+v.length) 0+c2) / 4294967296=1;·exact h
       ·have h0:(bN W2 (j+v.length) 0+c2) / 4294967296=0:=by omega
        rw[h0,δM] at hFv;omega
      rw[hk,ε4] at hFv;have e1:(gb - 1)*bX v=gb*bX v - bX v:=by rw[ζX,εz]
      obtain⟨w1,w2⟩:=sW (q:=gb - 1) (show(gb - 1)*bX v<=bX (bP U j (v.length+1)) by omega) (by rw[show gb - 1+1=gb by omega];exact f5);have azh:0<gb:=by
       by_cases h:0<gb;·exact h
       ·have:gb=0:=by omega
        subst this;omega
      have hfin:R2.set (j+v.length) ((bN W2 (j+v.length) 0+c2) % 4294967296)=iw U j (gn (v.length+1) (bX (bP U j (v.length+1)) % bX v)):=vM hF hFl (by omega) hFo (by rw[hFv,w2,e1];omega);repeat refine γm (by omega) ?_
      rw[hfin];rfl
  ·obtain⟨k1,k2,k3,k4⟩:=nbr (.inl hB) hb;repeat' refine γm ?_ ?_
   all_goals first|omega|exact k2|exact k3
 ·repeat refine γm (by omega) ?_
  refine⟨λhc=>?_,λhc=>?_⟩
  ·repeat refine γm (by omega) ?_
   refine⟨λhb=>?_,λhb=>?_⟩
   ·obtain⟨gg,hgg,f0,f2,f3⟩:=brk (.inr hc) hb;rw[<-hgg];clear hB hb hc;clear hgg brk nbr ext hgx hgr;refine⟨?_,?_⟩
    ·repeat' refine γm ?_ ?_
     all_goals first|omega|exact hU|exact f2|exact f3|exact λ_ _=>trivial|(simp only[bX];omega)
    clear f0 f2 f3;rintro⟨i,ga,c,b,R⟩ ⟨⟨i0,i1⟩,⟨ga0,ga1⟩,⟨f2,f3⟩,⟨c0,c1⟩,⟨b0,b1⟩,⟨hR,hRl⟩,ho,he⟩;simp only at i0 i1 ga0 ga1 f2 f3 c0 c1 b0 b1 hR hRl ho he ⊢;refine⟨λilt=>?_,λige=>?_⟩
    ·have x:=dE hv i.toNat;have y:=dE hR (j+i.toNat);have gx0:0<=ga*bN v i.toNat 0:=γy ga0 x.1;have gx1:ga*bN v i.toNat 0<=4294967295*4294967295:=δL (by omega) (by omega) x.1 (by omega);have q1:bN v i.toNat 0 % 18446744073709551616=bN v i.toNat 0:=by omega
     have q2:bN R (j+i.toNat) 0 % 18446744073709551616=bN R (j+i.toNat) 0:=by omega
     have q3:(ga*bN v i.toNat 0 % 18446744073709551616+c) % 18446744073709551616=ga*bN v i.toNat 0+c:=by omega
     have hi1:(i+1).toNat=i.toNat+1:=by omega
     rw[q1,q2,q3,F_ (by omega) (by omega),hi1];generalize hq:((bN R (j+i.toNat) 0 - (ga*bN v i.toNat 0+c) % 4294967296) % 18446744073709551616 - b) % 18446744073709551616=q;obtain⟨k1,k2,k3,k4,k5⟩:=F9 (d:=q % 4294967296) (e:=q / 9223372036854775808) hR hRl hv ga0 ga1 c0 c1 b0 b1 (show j+i.toNat<U.length by omega) ho he (by omega) (by omega);repeat' refine γm ?_ ?_
     all_goals first|omega|exact k1|exact k2|exact k3|exact k4|exact k5|exact f2|exact f3
    ·have hi:i.toNat=v.length:=by omega
     rw[hi,φ] at he;rw[hi] at ho;have hun:=ho (j+v.length) (.inr (π _));have du:=dE hU (j+v.length);have q2:bN R (j+v.length) 0 % 18446744073709551616=bN R (j+v.length) 0:=by rw[hun];omega
     have hXs:=@kV U j v.length;rw[q2];generalize hq:((bN R (j+v.length) 0 - c) % 18446744073709551616 - b) % 18446744073709551616=q;have alO:ou (R.set (j+v.length) (q % 4294967296)):=lN hR (by omega) (by omega);have hlen:(R.set (j+v.length) (q % 4294967296)).length=U.length:=by simp[hRl]
     have hout:∀m,(m<j\/j+(v.length+1)<=m)->bN (R.set (j+v.length) (q % 4294967296)) m 0=bN U m 0:=λm hm=>by rw[nO (by omega)];exact ho m (by omega)
     have hval:bX (bP (R.set (j+v.length) (q % 4294967296)) j (v.length+1))=bX (bP U j (v.length+1)) - ga*bX v+4294967296^(v.length+1)*(q / 9223372036854775808):=by
      rw[kV,rD (π _),qo (by omega),he,hXs,γW];have hd:q % 4294967296 - 4294967296*(q / 9223372036854775808)=bN U (j+v.length) 0 - c - b:=by rw[hun] at hq;omega
      generalize (4294967296:Int)^v.length=B;have e:B*4294967296*(q / 9223372036854775808)=B*(q % 4294967296+c+b - bN U (j+v.length) 0):=by rw[δn];congr 1;omega
      rw[e];simp only[εy,εN];omega
     generalize hW:R.set (j+v.length) (q % 4294967296)=W at*;have hbd:=sX alO (j:=j) (k:=v.length+1);have hnn:=el (rC alO (j:=j) (k:=v.length+1));have q3:0<=q/\q<18446744073709551616:=by omega
     clear hq hun du q2 he ho hR;repeat refine γm (by omega) ?_
     refine⟨λhz=>?_,λhz=>?_⟩
     ·rw[hz,δM,εi] at hval;obtain⟨w1,w2⟩:=sW (q:=ga) (show ga*bX v<=bX (bP U j (v.length+1)) by omega) f2;refine⟨by rw[w1];omega,?_⟩;have hfin:W=iw U j (gn (v.length+1) (bX (bP U j (v.length+1)) % bX v)):=vM alO hlen (by omega) hout (by rw[hval,w2]);rw[hfin];rfl
     ·have hq1:q / 9223372036854775808=1:=by omega
      rw[hq1,ε4] at hval;have f4:bX (bP U j (v.length+1))<ga*bX v:=by omega
      refine⟨?_,?_⟩
      ·repeat' refine γm ?_ ?_
       all_goals first|omega|exact alO|exact hlen|exact⟨W,⟨alO,hlen⟩,hout,hval,λ_ _=>rfl,by simp only[bX]⟩
      clear alO hlen hout hval hW hbd hnn q3 hz hq1 f4 f2 f3 c0 c1 b0 b1 i0 i1 ga0 ga1;rintro⟨i2,gb,c2,R2⟩ ⟨⟨i0,i1⟩,⟨gb0,gb1⟩,⟨f5,f6⟩,⟨c0,c1⟩,⟨hR2,apw⟩,W2,⟨hW2,arV⟩,ho2,hvW,ho3,he3⟩;simp only at i0 i1 gb0 gb1 f5 f6 c0 c1 hR2 apw ho3 he3 ⊢;refine⟨λilt=>?_,λige=>?_⟩
      ·have x:=dE hv i2.toNat;have y:=dE hR2 (j+i2.toNat);have hi1:(i2+1).toNat=i2.toNat+1:=by omega
       rw[hi1];have hs:((bN R2 (j+i2.toNat) 0 % 18446744073709551616+bN v i2.toNat 0 % 18446744073709551616) % 18446744073709551616+c2) % 18446744073709551616=bN R2 (j+i2.toNat) 0+bN v i2.toNat 0+c2:=by omega
       rw[hs];obtain⟨k1,k2,k3,k4,k5⟩:=F8 hR2 (apw.trans arV.symm) hv c0 c1 (show j+i2.toNat<W2.length by omega) hW2 ho3 he3 rfl;repeat' refine γm ?_ ?_
       all_goals first|omega|exact k1|exact f5|exact f6|exact⟨W2,⟨hW2,arV⟩,ho2,hvW,k4,k5⟩
      ·have hi2:i2.toNat=v.length:=by omega
       rw[hi2,φ] at he3;rw[hi2] at ho3;have hun:=ho3 (j+v.length) (.inr (π _));have du:=dE hW2 (j+v.length);have hXs:=@kV W2 j v.length;have hc2:c2 % 4294967296=c2:=by omega
       rw[hc2,hun];have hF:ou (R2.set (j+v.length) ((bN W2 (j+v.length) 0+c2) % 4294967296)):=lN hR2 (by omega) (by omega);have hFl:(R2.set (j+v.length) ((bN W2 (j+v.length) 0+c2) % 4294967296)).length=U.length:=by simp[apw]
       have hFo:∀m,(m<j\/j+(v.length+1)<=m)->bN (R2.set (j+v.length) ((bN W2 (j+v.length) 0+c2) % 4294967296)) m 0=bN U m 0:=λm hm=>by rw[nO (by omega),ho3 m (by omega)];exact ho2 m hm
       have hFv:bX (bP (R2.set (j+v.length) ((bN W2 (j+v.length) 0+c2) % 4294967296)) j (v.length+1))=bX (bP U j (v.length+1)) - gb*bX v+4294967296^(v.length+1)+bX v - 4294967296^(v.length+1)*((bN W2 (j+v.length) 0+c2) / 4294967296):=by
        rw[kV,rD (π _),qo (by omega),<-hvW,hXs,γW];generalize (4294967296:Int)^v.length=B at*;have e:B*4294967296*((bN W2 (j+v.length) 0+c2) / 4294967296)=B*(bN W2 (j+v.length) 0+c2 - (bN W2 (j+v.length) 0+c2) % 4294967296):=by rw[δn];congr 1;omega
        rw[e];simp only[εy,εN];omega
       have hbd:=sX hF (j:=j) (k:=v.length+1);have hk:(bN W2 (j+v.length) 0+c2) / 4294967296=1:=by
        by_cases h:(bN W2 (j+v.length) 0+c2) / 4294967296=1;·exact h
        ·have h0:(bN W2 (j+v.length) 0+c2) / 4294967296=0:=by omega
         rw[h0,δM] at hFv;omega
       rw[hk,ε4] at hFv;have e1:(gb - 1)*bX v=gb*bX v - bX v:=by rw[ζX,εz]
       obtain⟨w1,w2⟩:=sW (q:=gb - 1) (show(gb - 1)*bX v<=bX (bP U j (v.length+1)) by omega) (by rw[show gb - 1+1=gb by omega];exact f5);have azh:0<gb:=by
        by_cases h:0<gb;·exact h
        ·have:gb=0:=by omega
         subst this;omega
       have hfin:R2.set (j+v.length) ((bN W2 (j+v.length) 0+c2) % 4294967296)=iw U j (gn (v.length+1) (bX (bP U j (v.length+1)) % bX v)):=vM hF hFl (by omega) hFo (by rw[hFv,w2,e1];omega);repeat refine γm (by omega) ?_
       rw[hfin];rfl
   ·obtain⟨k1,k2,k3,k4⟩:=nbr (.inr hc) hb;repeat' refine γm ?_ ?_
    all_goals first|omega|exact k2|exact k3
  ·obtain⟨gg,hgg,f0,f2,f3⟩:=ext hB hc;rw[<-hgg];clear hB hc;clear hgg brk nbr ext hgx hgr;refine⟨?_,?_⟩
   ·repeat' refine γm ?_ ?_
    all_goals first|omega|exact hU|exact f2|exact f3|exact λ_ _=>trivial|(simp only[bX];omega)
   clear f0 f2 f3;rintro⟨i,ga,c,b,R⟩ ⟨⟨i0,i1⟩,⟨ga0,ga1⟩,⟨f2,f3⟩,⟨c0,c1⟩,⟨b0,b1⟩,⟨hR,hRl⟩,ho,he⟩;simp only at i0 i1 ga0 ga1 f2 f3 c0 c1 b0 b1 hR hRl ho he ⊢;refine⟨λilt=>?_,λige=>?_⟩
   ·have x:=dE hv i.toNat;have y:=dE hR (j+i.toNat);have gx0:0<=ga*bN v i.toNat 0:=γy ga0 x.1;have gx1:ga*bN v i.toNat 0<=4294967295*4294967295:=δL (by omega) (by omega) x.1 (by omega);have q1:bN v i.toNat 0 % 18446744073709551616=bN v i.toNat 0:=by omega
    have q2:bN R (j+i.toNat) 0 % 18446744073709551616=bN R (j+i.toNat) 0:=by omega
    have q3:(ga*bN v i.toNat 0 % 18446744073709551616+c) % 18446744073709551616=ga*bN v i.toNat 0+c:=by omega
    have hi1:(i+1).toNat=i.toNat+1:=by omega
    rw[q1,q2,q3,F_ (by omega) (by omega),hi1];generalize hq:((bN R (j+i.toNat) 0 - (ga*bN v i.toNat 0+c) % 4294967296) % 18446744073709551616 - b) % 18446744073709551616=q;obtain⟨k1,k2,k3,k4,k5⟩:=F9 (d:=q % 4294967296) (e:=q / 9223372036854775808) hR hRl hv ga0 ga1 c0 c1 b0 b1 (show j+i.toNat<U.length by omega) ho he (by omega) (by omega);repeat' refine γm ?_ ?_
    all_goals first|omega|exact k1|exact k2|exact k3|exact k4|exact k5|exact f2|exact f3
   ·have hi:i.toNat=v.length:=by omega
    rw[hi,φ] at he;rw[hi] at ho;have hun:=ho (j+v.length) (.inr (π _));have du:=dE hU (j+v.length);have q2:bN R (j+v.length) 0 % 18446744073709551616=bN R (j+v.length) 0:=by rw[hun];omega
    have hXs:=@kV U j v.length;rw[q2];generalize hq:((bN R (j+v.length) 0 - c) % 18446744073709551616 - b) % 18446744073709551616=q;have alO:ou (R.set (j+v.length) (q % 4294967296)):=lN hR (by omega) (by omega);have hlen:(R.set (j+v.length) (q % 4294967296)).length=U.length:=by simp[hRl]
    have hout:∀m,(m<j\/j+(v.length+1)<=m)->bN (R.set (j+v.length) (q % 4294967296)) m 0=bN U m 0:=λm hm=>by rw[nO (by omega)];exact ho m (by omega)
    have hval:bX (bP (R.set (j+v.length) (q % 4294967296)) j (v.length+1))=bX (bP U j (v.length+1)) - ga*bX v+4294967296^(v.length+1)*(q / 9223372036854775808):=by
     rw[kV,rD (π _),qo (by omega),he,hXs,γW];have hd:q % 4294967296 - 4294967296*(q / 9223372036854775808)=bN U (j+v.length) 0 - c - b:=by rw[hun] at hq;omega
     generalize (4294967296:Int)^v.length=B;have e:B*4294967296*(q / 9223372036854775808)=B*(q % 4294967296+c+b - bN U (j+v.length) 0):=by rw[δn];congr 1;omega
     rw[e];simp only[εy,εN];omega
    generalize hW:R.set (j+v.length) (q % 4294967296)=W at*;have hbd:=sX alO (j:=j) (k:=v.length+1);have hnn:=el (rC alO (j:=j) (k:=v.length+1));have q3:0<=q/\q<18446744073709551616:=by omega
    clear hq hun du q2 he ho hR;repeat refine γm (by omega) ?_
    refine⟨λhz=>?_,λhz=>?_⟩
    ·rw[hz,δM,εi] at hval;obtain⟨w1,w2⟩:=sW (q:=ga) (show ga*bX v<=bX (bP U j (v.length+1)) by omega) f2;refine⟨by rw[w1];omega,?_⟩;have hfin:W=iw U j (gn (v.length+1) (bX (bP U j (v.length+1)) % bX v)):=vM alO hlen (by omega) hout (by rw[hval,w2]);rw[hfin];rfl
    ·have hq1:q / 9223372036854775808=1:=by omega
     rw[hq1,ε4] at hval;have f4:bX (bP U j (v.length+1))<ga*bX v:=by omega
     refine⟨?_,?_⟩
     ·repeat' refine γm ?_ ?_
      all_goals first|omega|exact alO|exact hlen|exact⟨W,⟨alO,hlen⟩,hout,hval,λ_ _=>rfl,by simp only[bX]⟩
     clear alO hlen hout hval hW hbd hnn q3 hz hq1 f4 f2 f3 c0 c1 b0 b1 i0 i1 ga0 ga1;rintro⟨i2,gb,c2,R2⟩ ⟨⟨i0,i1⟩,⟨gb0,gb1⟩,⟨f5,f6⟩,⟨c0,c1⟩,⟨hR2,apw⟩,W2,⟨hW2,arV⟩,ho2,hvW,ho3,he3⟩;simp only at i0 i1 gb0 gb1 f5 f6 c0 c1 hR2 apw ho3 he3 ⊢;refine⟨λilt=>?_,λige=>?_⟩
     ·have x:=dE hv i2.toNat;have y:=dE hR2 (j+i2.toNat);have hi1:(i2+1).toNat=i2.toNat+1:=by omega
      rw[hi1];have hs:((bN R2 (j+i2.toNat) 0 % 18446744073709551616+bN v i2.toNat 0 % 18446744073709551616) % 18446744073709551616+c2) % 18446744073709551616=bN R2 (j+i2.toNat) 0+bN v i2.toNat 0+c2:=by omega
      rw[hs];obtain⟨k1,k2,k3,k4,k5⟩:=F8 hR2 (apw.trans arV.symm) hv c0 c1 (show j+i2.toNat<W2.length by omega) hW2 ho3 he3 rfl;repeat' refine γm ?_ ?_
      all_goals first|omega|exact k1|exact f5|exact f6|exact⟨W2,⟨hW2,arV⟩,ho2,hvW,k4,k5⟩
     ·have hi2:i2.toNat=v.length:=by omega
      rw[hi2,φ] at he3;rw[hi2] at ho3;have hun:=ho3 (j+v.length) (.inr (π _));have du:=dE hW2 (j+v.length);have hXs:=@kV W2 j v.length;have hc2:c2 % 4294967296=c2:=by omega
      rw[hc2,hun];have hF:ou (R2.set (j+v.length) ((bN W2 (j+v.length) 0+c2) % 4294967296)):=lN hR2 (by omega) (by omega);have hFl:(R2.set (j+v.length) ((bN W2 (j+v.length) 0+c2) % 4294967296)).length=U.length:=by simp[apw]
      have hFo:∀m,(m<j\/j+(v.length+1)<=m)->bN (R2.set (j+v.length) ((bN W2 (j+v.length) 0+c2) % 4294967296)) m 0=bN U m 0:=λm hm=>by rw[nO (by omega),ho3 m (by omega)];exact ho2 m hm
      have hFv:bX (bP (R2.set (j+v.length) ((bN W2 (j+v.length) 0+c2) % 4294967296)) j (v.length+1))=bX (bP U j (v.length+1)) - gb*bX v+4294967296^(v.length+1)+bX v - 4294967296^(v.length+1)*((bN W2 (j+v.length) 0+c2) / 4294967296):=by
       rw[kV,rD (π _),qo (by omega),<-hvW,hXs,γW];generalize (4294967296:Int)^v.length=B at*;have e:B*4294967296*((bN W2 (j+v.length) 0+c2) / 4294967296)=B*(bN W2 (j+v.length) 0+c2 - (bN W2 (j+v.length) 0+c2) % 4294967296):=by rw[δn];congr 1;omega
       rw[e];simp only[εy,εN];omega
      have hbd:=sX hF (j:=j) (k:=v.length+1);have hk:(bN W2 (j+v.length) 0+c2) / 4294967296=1:=by
       by_cases h:(bN W2 (j+v.length) 0+c2) / 4294967296=1;·exact h
       ·have h0:(bN W2 (j+v.length) 0+c2) / 4294967296=0:=by omega
        rw[h0,δM] at hFv;omega
      rw[hk,ε4] at hFv;have e1:(gb - 1)*bX v=gb*bX v - bX v:=by rw[ζX,εz]
      obtain⟨w1,w2⟩:=sW (q:=gb - 1) (show(gb - 1)*bX v<=bX (bP U j (v.length+1)) by omega) (by rw[show gb - 1+1=gb by omega];exact f5);have azh:0<gb:=by
       by_cases h:0<gb;·exact h
       ·have:gb=0:=by omega
        subst this;omega
      have hfin:R2.set (j+v.length) ((bN W2 (j+v.length) 0+c2) % 4294967296)=iw U j (gn (v.length+1) (bX (bP U j (v.length+1)) % bX v)):=vM hF hFl (by omega) hFo (by rw[hFv,w2,e1];omega);repeat refine γm (by omega) ?_
      rw[hfin];rfl
end Go.Vi
