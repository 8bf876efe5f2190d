/-
  Contracts: the reference's feasible lists.
  Conditions: none.
-/
import Derived.Test.YtbnhiekmnpikhaaGreatDF06
import Derived.KernelRfl
set_option maxRecDepth 100000
set_option maxHeartbeats 4000000
set_option linter.all false
open And renaming intro->γl
open BitVec renaming ofInt->γi
open Go.Vi.SV renaming si->γd,row->Ω,ow->γZ,il->γB
open Int renaming toNat_natCast->γn,le_trans->ζe,pow_succ->γV,mul_add->εw,add_comm->ζJ,emod_nonneg->δL,emod_lt_of_pos->δo,ediv_nonneg->δM,mul_ediv_add_emod->εf,ediv_eq_zero_of_lt->εI,emod_eq_of_lt->δJ,eq_ofNat_of_zero_le->δp,tdiv_eq_ediv_of_nonneg->ε6,tmod_eq_emod_of_nonneg->ε7,mul_nonneg->γx,mul_le_mul->δF,mul_le_mul_of_nonneg_left->Ξ,le_of_lt->γg,mul_le_mul_of_nonneg_right->γW,one_mul->εx,mul_comm->δ3,sub_mul->ζU,mul_assoc->δl,mul_sub->εK,mul_zero->δG,add_zero->εh,mul_one->ε0
open List renaming drop->γ4,drop_length->δB,cons_append->γJ,length_cons->γD,mem_map->Θ,range->ω,mem_filter->γk,foldl_cons->εa,mem_cons->γr,map_append->γa,map_cons->ξ,mem_append->γm,nodup_cons->γT,pairwise_cons->γu,all_eq_true->τ,mem_range->γC,filter_sublist->γt,getElem?_cons_succ->γN,map_map->γO,take->Δ,take_length->φ,replicate->δ,range_succ->εe,take_of_length_le->γq,map_nil->γv,replicate_zero->εZ,mem_singleton->δy,drop_of_length_le->δ9,mem_of_mem_drop->γX
open List.Nodup renaming sublist->ζX
open List.cons renaming injEq->Γ
open Nat renaming le_refl->π
open Option renaming map->ζr,isSome_iff_exists->γp,getD_some->γ3
open Option.some renaming injEq->γ
namespace Go.Vi
open Go.Proofs.YtbnhiekmnpikhaaGreat.Ir
open Go.Proofs
def M2:List bM:=Dz::Dy::M1
theorem hM2:∀c∈M2,Holds Tryz.prog c:=by
 grind[M2,h24,h69,hM1]
def If:bM:=⟨32,bn×List Int,.cons dO (.one (dG (.i .i64))),λa=>a.2.length<=9223372036854775807/\a.1.offers.length<=1000,λa=> .bI [.row .off (dU a.1 a.2),.sb (fE a.1 a.2)]⟩
def km (c:List Int) (i:Int):Int:=if i=0 then -1 else bj c (i - 1).toNat 0
def aaX (a:bn×List Int):Nat->cG
 |3=> .inv (Int×List Off) (λx=>⟨[(1,.row (.i .i64) a.2),(2,.ptr 0 0 20),(6,.ow 1 x.2.length 8),(7,.si .i64 x.1)],
   [.cells a.1.ss 27 20 false,.row .off x.2 65 true]⟩) (λs=>(iS s 7,oS .off s 1))
  (λx=>0<=x.1/\x.1<=a.2.length/\(x.2.length<=km a.2 x.1+1/\km a.2 x.1<1000)/\ -1<=km a.2 x.1/\eh a.1.offers (-1) a.2=(eh a.1.offers (km a.2 x.1) (a.2.drop x.1.toNat)).map (x.2++·)) (λx=>(a.2.length - x.1).toNat) λ_ _=> .look
 |_=> .look
theorem h109:Holds Tryz.prog If:=by
 refine cH (L:=M2) If aaX hM2 ?_;rintro⟨p,c⟩ ⟨hc,hof⟩;have hc:c.length<=9223372036854775807:=hc;have hof:p.offers.length<=1000:=hof;refine bQ (let a:=γd .i64;let b:=(0:Int);let d:=Ω;let e:=(1:Int);let f:=SV.bl false;let g:=(-1:Int);let h:=(1000:Int);let j:=SV.bI;let k:=bp.i .i64;let s:=SV.ptr 0 0 20;let B:=γZ 1 0 8;let t:=bq.cells [a p.supply.a0,a p.supply.a1,a p.supply.a2,a p.supply.a3,a p.supply.a4,a p.supply.a5,a p.opn.a0,a p.opn.a1,a p.opn.a2,a p.opn.a3,a p.opn.a4,a p.opn.a5,a p.cls.a0,a p.cls.a1,a p.cls.a2,a p.cls.a3,a p.cls.a4,a p.cls.a5,d k p.classes,d bp.off p.offers] 27 20 false;let C:=bq.row bp.off [] 65 true;let o:=(↑c.length:Int);let u:=km c b;let z:=eh p.offers g c;let n:=(↑c.length:Int);let v:=j [d bp.off (dU p c),SV.sb (fE p c)];let D:=p.offers.length;let A:=(↑D:Int);let L:=bp.off.dflt;((((d k c).same (d k c)/\s.same s/\B.same B/\(γB .i64 0).same (a 0)/\True)/\t.same t/\C.same C/\True)/\b<=b/\b<=o/\(b<=u+e/\u<h)/\g<=u/\z=ζr (λx ↦(b,[]).snd++x) (eh p.offers u c))/\∀(x:Int×List Off),let l:=bj c x.fst.toNat b;let E:=x.snd.length+1;let m:=x.fst+e;let q:=x.snd++[bj p.offers l.toNat L];let F:=a m;let G:=bq.row bp.off q 65 true;let w:=km c m;let y:=km c x.fst;let H:=decide (l<b);let I:=decide (b<x.fst);let r:=x.fst - e;let J:=decide (l<=bj c r.toNat b);let K:=b<=x.fst/\x.fst<n/\x.fst.toNat<c.length/\b<=l/\l<A/\l.toNat<D/\x.snd.length=x.snd.length/\E*64<=140737488355328/\E<=1000000000000/\cu .i64 m/\(((d k c).same (d k c)/\s.same s/\(γZ 1 q.length 8).same (γZ 1 q.length 8)/\F.same F/\True)/\t.same t/\G.same G/\True)/\(b<=m/\m<=o/\((↑q.length:Int)<=w+e/\w<h)/\g<=w/\z=ζr (λx ↦(m,q).snd++x) (eh p.offers w (γ4 m.toNat c)))/\(o - m).toNat<(o - x.fst).toNat;b<=x.fst/\x.fst<=o/\((↑x.snd.length:Int)<=y+e/\y<h)/\g<=y/\z=ζr (λx_1 ↦x.snd++x_1) (eh p.offers y (γ4 x.fst.toNat c))->(decide (x.fst<n)=true->b<=x.fst/\x.fst<n/\x.fst.toNat<c.length/\(H=true->(j [d k [],f]).same v)/\(H=false->b<=x.fst/\x.fst<n/\x.fst.toNat<c.length/\(decide (A<=l)=true->(j [d k [],f]).same v)/\(decide (A<=l)=false->(I=true->b<=x.fst/\x.fst<n/\x.fst.toNat<c.length/\cu .i64 r/\b<=r/\r<n/\r.toNat<c.length/\(J=true->(j [d k [],f]).same v)/\(J=false->K))/\(I=false->K))))/\(decide (x.fst<n)=false->x.snd.length=x.snd.length/\(j [d bp.off x.snd,SV.bl true]).same v)) (by kernel_rfl) ?_;simp only[vcs];have hbad:eh p.offers (-1) c=none->(Ω (.i .i64) []).same (Ω .off (dU p c))/\false=fE p c:=λh=>⟨Qe.2 (by simp[dU,h]),by simp[fE,h]⟩;refine⟨⟨by omega,by omega,by simp[km],by simp[km]⟩,?_⟩;rintro⟨i,out⟩ ⟨hi0,hi1,hlen,hla,hi⟩;simp only at hi0 hi1 hlen hla hi ⊢;refine⟨λhlt=>?_,λhge=>?_⟩
 ·rw[sP (d:=0) hi0 hlt] at hi;have hl1:km c (i+1)=bj c i.toNat 0:=by unfold km;rw[if_neg (by omega),show i+1 - 1=i by omega]
  have hl2:i≠0->km c i=bj c (i - 1).toNat 0:=λh=>by unfold km;rw[if_neg h]
  have hl3:i=0->km c i= -1:=λh=>by unfold km;rw[if_pos h]
  generalize hx:bj c i.toNat 0=x at hi hl1 ⊢;simp only[eh] at hi;have hgood:¬(x<=km c i\/p.offers.length<=x)->eh p.offers (-1) c=(eh p.offers (km c (i+1)) (c.drop (i+1).toNat)).map λr=>(out++[bj p.offers x.toNat bp.off.dflt])++r:=λh=>by
   rw[if_neg h] at hi;rw[hi,hl1,Option.map_map];congr 1;funext r;simp
  have bad:(x<=km c i\/p.offers.length<=x)->(Ω (.i .i64) []).same (Ω .off (dU p c))/\false=fE p c:=λh=>hbad (by rw[hi,if_pos h];rfl);have Qn:¬(x<=km c i\/p.offers.length<=x)->((out++[bj p.offers x.toNat bp.off.dflt]).length:Int)<=km c (i+1)+1/\km c (i+1)<1000:=λh=>by
   rw[hl1];simp only[List.length_append,List.length_singleton];omega
  refine⟨by omega,by omega,by omega,λh1=>bad (.inl (by omega)),λh1=>⟨by omega,by omega,by omega,λh2=>bad (.inr (by omega)),λh2=>⟨λh3=>⟨by omega,by omega,by omega,by omega,by omega,by omega,by omega,λh4=>bad (.inl (by rw[hl2 (by omega)];omega)),λh4=>?_⟩,λh3=>?_⟩⟩⟩
  ·have:=hl2 (by omega);refine⟨by omega,by omega,by omega,by omega,by omega,by omega,by omega,by omega,by omega,⟨by omega,by omega,Qn (by omega),by omega,hgood (by omega)⟩,by omega⟩
  ·have:=hl3 (by omega);refine⟨by omega,by omega,by omega,by omega,by omega,by omega,by omega,by omega,by omega,⟨by omega,by omega,Qn (by omega),by omega,hgood (by omega)⟩,by omega⟩
 ·rw[show i.toNat=c.length from by omega,δB] at hi;simp only[eh,Option.map_some,List.append_nil] at hi;exact⟨by simp[dU,hi],by simp[fE,hi]⟩
def M3:List bM:=If::M2
theorem OE:∀c∈M3,Holds Tryz.prog c:=by
 grind[M3,h109,hM2]
def Ig:bM:=⟨24,bn×List Int,.cons dO (.one (dG (.i .i64))),λa=>a.2.length<=9223372036854775807,λa=> .si .i64 (cO a.1 a.2)⟩
theorem h55:Holds Tryz.prog Ig:=by
 refine cH (L:=M3) Ig (λp=>λ_=> .look) OE ?_;rintro⟨p,c⟩ (n:c.length<=9223372036854775807);refine bQ (let a:=γB .i64;let e:=decide (bz p≠(0:Int));let d:=γd .i64 (cO p c);let f:=!fZ p (dU p c);True/\(e=true->(γd .i64 (bz p)).same d)/\(e=false->(c.length<=9223372036854775807/\p.offers.length<=1000)/\((!fE p c)=true->(a 4).same d)/\((!fE p c)=false->(p.classes.length<=8/\(dU p c).length<=1000/\∀(x:Off),x∈dU p c->(0:Int)<=x.bX/\x.bX<(↑p.classes.length:Int)/\x.want.ok=true)/\(f=true->(a 14).same d)/\(f=false->(a 0).same d)))) (by kernel_rfl) ?_;simp only[vcs];refine⟨λh=>by simp[cO,h],λh=>?_⟩;have g:bz p=0:=Classical.not_not.1 h;obtain⟨m,j⟩:=uq g;obtain⟨s,o,l,q,t⟩:=uo m;refine⟨⟨n,by omega⟩,λa=>by grind[cO],λa=>⟨⟨l,?_,?_⟩,λk=>by grind[cO],λk=>by grind[cO]⟩⟩
 ·unfold fE at a;obtain⟨r,b⟩:=γp.1 a;have:=Ah (by omega) b;grind[dU]
 ·unfold fE at a;obtain⟨r,b⟩:=γp.1 a;simp only[dU,b,γ3];intro x i;have u:=Dq (Dv (j x (Dw (by omega) b x i))).1;simp_all
def cM:List Off->Int
 |[]=>0
 |x::l=>x.value+cM l
def ek (p:bn) (c:List Int):Int:=if bz p=0 then cM (dU p c) else 0
theorem pS:∀{l m:List Off},cM (l++m)=cM l+cM m
 |[],m=>by simp[cM];|x::l,m=>by simp only[γJ,cM,@pS l m];omega
theorem aaY {l:List Off} {i:Int} (a:0<=i) (h:i<l.length):cM (l.take (i+1).toNat)=cM (l.take i.toNat)+(bj l i.toNat bp.off.dflt).value:=by
 rw[jq (d:=bp.off.dflt) a h,pS];simp[cM]
theorem aaZ {p:bn} {c:List Int} (h:bz p=0):(dU p c).length<=160/\∀x∈dU p c,x∈p.offers:=by
 have d:=dQ h;unfold dU;cases a:eh p.offers (-1) c with
 |none=>simp;|some r=>
  refine⟨?_,λx b=>Dw (by omega) a x b⟩;have e:=Ah (by omega) a;have f:=d.2.1;grind
theorem sQ {p:bn} (a:Good p):∀{l:List Off},(∀x∈l,x∈p.offers)->0<=cM l/\cM l<=1000000*l.length
 |[],_=>by simp[cM];|x::l,h=>by
  have c:=a.2.2.2.2 x (h x (by simp));have d:=@sQ p a l λy b=>h y (by simp[b]);grind[cM]
def cmpL:List Int->List Int->Int
 |[],[]=>0
 |[],_::_=> -1
 |_::_,[]=>1
 |a::l,b::m=>if a<b then -1 else if b<a then 1 else cmpL l m
def r32:bM:=⟨14,List Int×List Int,.cons (dG (.i .i64)) (.one (dG (.i .i64))),λa=>a.1.length<=1000000000000/\a.2.length<=1000000000000,λa=> .si .i64 (cmpL a.1 a.2)⟩
def aa0 (a:List Int×List Int):Nat->cG
 |2=> .inv Int (λi=>⟨[(0,.row (.i .i64) a.1),(1,.row (.i .i64) a.2),(5,.si .i64 i)],[]⟩) (λs=>iS s 5)
  (λi=>0<=i/\i<=a.1.length/\i<=a.2.length/\cmpL a.1 a.2=cmpL (a.1.drop i.toNat) (a.2.drop i.toNat)) (λi=>(a.1.length - i).toNat) λ_ _=> .look
 |_=> .look
theorem h32:Holds Tryz.prog r32:=by
 refine cH (L:=[]) r32 aa0 (by simp) ?_;rintro⟨a,b⟩ ⟨w,u⟩;refine bQ (let d:=(0:Int);let h:=γB .i64;let j:=γd .i64;let k:=(-1:Int);let q:=Ω (bp.i .i64) a;let n:=Ω (bp.i .i64) b;let t:=h 0;let m:=(↑a.length:Int);let r:=(↑b.length:Int);let e:=(↑a.length:Int);let f:=(↑b.length:Int);let g:=j (cmpL a b);(((q.same q/\n.same n/\t.same (j 0)/\True)/\True)/\d<=d/\d<=m/\d<=r/\cmpL a b=cmpL a b)/\∀(x:Int),let o:=bj a x.toNat d;let p:=bj b x.toNat d;let c:=x+(1:Int);let l:=j c;d<=x/\x<=m/\x<=r/\cmpL a b=cmpL (γ4 x.toNat a) (γ4 x.toNat b)->(decide (x<e)=true->(decide (x<f)=true->d<=x/\x<e/\x.toNat<a.length/\d<=x/\x<f/\x.toNat<b.length/\(decide (o<p)=true->(h k).same g)/\(decide (o<p)=false->d<=x/\x<e/\x.toNat<a.length/\d<=x/\x<f/\x.toNat<b.length/\(decide (p<o)=true->(h 1).same g)/\(decide (p<o)=false->cu .i64 c/\((q.same q/\n.same n/\l.same l/\True)/\True)/\(d<=c/\c<=m/\c<=r/\cmpL a b=cmpL (γ4 c.toNat a) (γ4 c.toNat b))/\(m - c).toNat<(m - x).toNat)))/\(decide (x<f)=false->(decide (e<f)=true->(h k).same g)/\(decide (e<f)=false->(decide (f<e)=true->(h 1).same g)/\(decide (f<e)=false->t.same g))))/\(decide (x<e)=false->(decide (e<f)=true->(h k).same g)/\(decide (e<f)=false->(decide (f<e)=true->(h 1).same g)/\(decide (f<e)=false->t.same g)))) (by kernel_rfl) ?_;conv=>zeta
 simp only at w u;simp only[vcs];refine⟨⟨by omega,by omega,by omega⟩,?_⟩;rintro i ⟨j,v,z,h⟩;refine⟨λs=>⟨λk=>?_,λk=>?_⟩,λs=>?_⟩
 ·rw[sP (d:=0) j s,sP (d:=0) j k] at h;simp only[cmpL] at h;omega
 ·rw[sP (d:=0) j s,show i.toNat=b.length from by omega,δB] at h;grind[cmpL]
 ·rw[show i.toNat=a.length from by omega,δB] at h;refine⟨λk=>?_,λk=>⟨λy=>by omega,λy=>?_⟩⟩
  ·rw[<-γn a.length,sP (d:=0) (by omega) k] at h;exact h.symm
  ·rw[show a.length=b.length from by omega,δB] at h;exact h.symm
def dW (l:List bC):bC:=⟨(l.map bC.a0).sum,(l.map bC.a1).sum,(l.map bC.a2).sum,(l.map bC.a3).sum,(l.map bC.a4).sum,(l.map bC.a5).sum⟩
def cC (p:bn) (l:List Int):List Off:=l.map λi=>bj p.offers i.toNat bp.off.dflt
def gA (p:bn) (L:List Off):Prop:=(L.map Off.bX).Nodup/\(dW (L.map Off.want)).le p.supply=true/\(dW (L.map (eV p))).le p.opn=true
instance (p:bn) (L:List Off):Decidable (gA p L):=by unfold gA;infer_instance
def lB (p:bn) (l:List Int):Bool:=decide (gA p (cC p l))
def iJ (a b:bC) (k:Int):bC:=⟨if 0<k then b.a0 else a.a0,if 1<k then b.a1 else a.a1,if 2<k then b.a2 else a.a2,if 3<k then b.a3 else a.a3,if 4<k then b.a4 else a.a4,if 5<k then b.a5 else a.a5⟩
def bC.add (a b:bC):bC:=⟨a.a0+b.a0,a.a1+b.a1,a.a2+b.a2,a.a3+b.a3,a.a4+b.a4,a.a5+b.a5⟩
theorem Am {l m:List bC}:dW (l++m)=(dW l).add (dW m):=by simp[dW,bC.add]
theorem An {b:bC} {l:List bC}:dW (b::l)=b.add (dW l):=by simp[dW,bC.add]
def bC.bd (b:bC) (n:Int):Prop:=(0<=b.a0/\b.a0<=n)/\(0<=b.a1/\b.a1<=n)/\(0<=b.a2/\b.a2<=n)/\(0<=b.a3/\b.a3<=n)/\(0<=b.a4/\b.a4<=n)/\(0<=b.a5/\b.a5<=n)
theorem Ih:∀{l:List bC},(∀b∈l,b.ok=true)->(dW l).bd (4*l.length)
 |[],_=>by simp[dW,bC.bd];|b::l,h=>by
  have e:=bC.iP.1 (h b (by simp));have d:=@Ih l λc a=>h c (by simp[a]);rw[An];simp only[bC.bd,bC.add,γD] at d ⊢;omega
theorem aa1 {p:bn} {x:Off} (h:x.want.ok=true):(eV p x).ok=true:=by
 have a:=bC.iP.1 h;rw[bC.iP];simp only[eV,Ia,oc];omega
theorem Ii {p:bn} (b:Good p) {l:List Int} (h:∀i∈l,0<=i/\i<p.offers.length):∀x∈cC p l,x∈p.offers:=by
 intro x a;obtain⟨i,c,rfl⟩:=Θ.1 a;grind[dn]
def lC (p:bn) (i:Int):Int:=(bj p.offers i.toNat bp.off.dflt).value
def better (a b:Alloc):Alloc:=if b.value<a.value\/a.value=b.value/\cmpL a.chosen b.chosen<0 then a else b
def lD (p:bn):Nat->Int->Alloc->Alloc->Alloc
 |0,_,_,b=>b
 |k+1,i,a,b=>lD p k (i+1) a (if lB p (a.chosen++[i]) then lD p k (i+1) ⟨a.chosen++[i],a.value+lC p i⟩ (better ⟨a.chosen++[i],a.value+lC p i⟩ b) else b)
def Qo (p:bn) (i:Int):Nat:=(p.offers.length - i).toNat
def Qp (p:bn) (a:Alloc) (f:Int) (b:Alloc):Alloc:=lD p (Qo p f) f a (better a b)
def cB (p:bn):Alloc:=Qp p ⟨[],0⟩ 0 ⟨[],0⟩
def hasB (m b:Int):Bool:=decide (fY.qx .i64 (m / 2^b.toNat) 1=1)
def DD (p:bn) (w:Int) (n:Nat):Int:=((ω n).map λi:Nat=>if(i:Int)≠w then(2:Int)^i else 0).sum
def pn (p:bn) (m:Int):bn:={p with offers:=p.offers.filter λx=>hasB m x.bX}
theorem Ij {p:bn} (h:Good p) (m:Int):Good (pn p m):=by
 refine⟨h.1,?_,h.2.2.1,h.2.2.2.1,λx a=>h.2.2.2.2 x (γk.1 a).1⟩;have:=List.length_filter_le (λx:Off=>hasB m x.bX) p.offers;have:=h.2.1;grind[pn]
def vW (p:bn) (m:Int):Int:=(cB (pn p m)).value
theorem Ik {p:bn} {c:List Int} (e:cO p c=0):bz p=0/\fE p c=true/\Good p/\c.length<=160/\∀i∈c,0<=i/\i<p.offers.length:=by
 have b:bz p=0:=by
  unfold cO at e;omega
 have d:fE p c=true:=by
  unfold cO at e;grind
 have f:=dQ b;obtain⟨r,g⟩:=γp.1 d;obtain⟨h,a⟩:=Qm (by omega) g;refine⟨b,d,f,?_,a⟩;have k:=Ah (by omega) g;have j:=f.2.1;grind
def Il (p:bn):Int:=DD p (-1) p.classes.length
structure Qq (p:bn) (fs:List Int) (l o:bC) (L:List Off):Prop where
 nd:(L.map Off.bX).Nodup
 mem:∀x∈L,x∈p.offers/\x.bX∈fs
 w:(dW (L.map Off.want)).le l=true
 o:(dW (L.map (eV p))).le o=true
theorem Qr {p:bn} {fs:List Int} {l o:bC}:∀{xs:List Off} {v:Int},v<=xs.foldl (pg p fs l o) v/\∀x∈xs,x.want.le l=true->(eV p x).le o=true->x.value+kj p fs (l.sub x.want) (o.sub (eV p x))<=xs.foldl (pg p fs l o) v
 |[],v=>by simp;|y::xs,v=>by
  obtain⟨b,e⟩:=@Qr p fs l o xs (pg p fs l o v y);have d:v<=pg p fs l o v y:=by
   grind[pg]
  refine⟨by grind,λx a c f=>?_⟩;simp only[εa];rcases γr.1 a with rfl|a
  ·have:x.value+kj p fs (l.sub x.want) (o.sub (eV p x))<=pg p fs l o v x:=by
    unfold pg;grind
   omega
  simp_all
theorem fold_at {p:bn} {fs:List Int} {l o:bC}:∀{xs:List Off} {v:Int},xs.foldl (pg p fs l o) v=v\/∃x∈xs,x.want.le l=true/\(eV p x).le o=true/\xs.foldl (pg p fs l o) v=x.value+kj p fs (l.sub x.want) (o.sub (eV p x))
 |[],v=>by simp;|y::xs,v=>by
  simp only[εa];rcases @fold_at p fs l o xs (pg p fs l o v y) with h|⟨x,d,a,c,b⟩
  ·rw[h];unfold pg;split<;>grind
  grind
theorem aa2 {x:bC} {s t:List bC}:dW (s++x::t)=x.add (dW (s++t)):=by
 grind[Am,An,bC.add]
theorem aa3 {x:Off} {s t:List Off}:cM (s++x::t)=x.value+cM (s++t):=by
 rw[pS,pS];grind[cM]
theorem Qs {p:bn} (c:Good p) {L:List Off} (h:∀x∈L,x∈p.offers):(dW (L.map Off.want)).bd (4*L.length)/\(dW (L.map (eV p))).bd (4*L.length):=by
 have e:∀x∈L,x.want.ok=true:=λx d=>(c.2.2.2.2 x (h x d)).2.2.1;have a:=@Ih (L.map Off.want) (λb f=>by grind);grind[Ih,aa1]
theorem DF {p:bn} (e:Good p):∀{fs:List Int} {l o:bC} {L:List Off},Qq p fs l o L->cM L<=kj p fs l o
 |[],l,o,L,h=>by
  have:L=[]:=by
   cases L with
   |nil=>rfl;|cons x L=>exact absurd (h.mem x (by simp)).2 (by simp)
  grind[cM,kj];|f::fs,l,o,L,h=>by
  obtain⟨D,B⟩:=@Qr p fs l o (Ai p f) (kj p fs l o);have b:kj p (f::fs) l o=(Ai p f).foldl (pg p fs l o) (kj p fs l o):=rfl;rw[b];by_cases d:∃x∈L,x.bX=f
  ·obtain⟨x,d,m⟩:=d;obtain⟨s,t,rfl⟩:=List.append_of_mem d;obtain⟨u,c,w,j⟩:=h;have i:=c x d;have g:∀y∈s++t,y∈p.offers:=λy a=>(c y (by grind)).1;obtain⟨z,v⟩:=Qs e g;rw[γa,ξ,aa2,bC.le_iff,<-γa] at w j;simp only[bC.add,bC.bd] at w j z v;have q:x.want.le l=true:=by rw[bC.le_iff];omega
   have r:(eV p x).le o=true:=by rw[bC.le_iff];omega
   have A:=B x (γk.2 ⟨i.1,by simp[m]⟩) q r;rw[γa,ξ,List.nodup_append] at u;have n:∀y∈s++t,y.bX≠f:=λy a=>by
    rw[<-m];rcases γm.1 a with a|a;·simp_all
    simp_all
   have k:cM (s++t)<=kj p fs (l.sub x.want) (o.sub (eV p x)):=DF e
    {nd:=by
      grind
     mem:=λy a=>by
      grind
     w:=by grind[bC.le_iff,bC.sub]
     o:=by grind[bC.le_iff,bC.sub]};rw[aa3];omega
  ·have:=DF e (fs:=fs) (l:=l) (o:=o) (L:=L) ⟨h.nd,λy a=>by
    have C:=h.mem y a;simp_all,h.w,h.o⟩;omega
theorem DG {p:bn} (k:Good p):∀{fs:List Int} {l o:bC},fs.Nodup->bC.zero.le l=true->bC.zero.le o=true->∃L,Qq p fs l o L/\cM L=kj p fs l o
 |[],l,o,_,g,e=>⟨[],⟨by simp,by simp,g,e⟩,rfl⟩
 |f::fs,l,o,r,g,e=>by
  have c:=γT.1 r;have d:kj p (f::fs) l o=(Ai p f).foldl (pg p fs l o) (kj p fs l o):=rfl;rw[d];rcases @fold_at p fs l o (Ai p f) (kj p fs l o) with h|⟨x,q,m,u,n⟩
  ·rw[h];obtain⟨L,a,j⟩:=DG k (l:=l) (o:=o) c.2 g e;exact⟨L,⟨a.nd,λy b=>⟨(a.mem y b).1,by simp[(a.mem y b).2]⟩,a.w,a.o⟩,j⟩
  ·rw[n];have z:=bC.le_iff.1 m;have A:=bC.le_iff.1 u;obtain⟨L,a,j⟩:=DG k (l:=l.sub x.want) (o:=o.sub (eV p x)) c.2 (by grind[bC.le_iff,bC.zero,bC.sub]) (by grind[bC.le_iff,bC.zero,bC.sub]);have s:=γk.1 q;have i:x.bX=f:=by simp_all
   refine⟨x::L,⟨?_,?_,?_,?_⟩,by grind[cM]⟩
   ·rw[ξ,γT];refine⟨λt=>?_,a.nd⟩;obtain⟨y,b,v⟩:=Θ.1 t;exact c.1 (by rw[<-i,<-v];exact(a.mem y b).2)
   ·intro y b;rcases γr.1 b with rfl|b;·simp_all
    ·exact⟨(a.mem y b).1,by simp[(a.mem y b).2]⟩
   ·have:=bC.le_iff.1 a.w;grind[An,bC.le_iff,bC.add,bC.sub]
   ·have:=bC.le_iff.1 a.o;grind[An,bC.le_iff,bC.add,bC.sub]
theorem uu {p:bn} {l m:List Int}:cC p (l++m)=cC p l++cC p m:=by simp[cC]
theorem sS {p:bn} {i:Int} {l:List Int}:cC p (i::l)=bj p.offers i.toNat bp.off.dflt::cC p l:=rfl
def DI (p:bn) (l:List Int):Prop:=∀i∈l,0<=i/\i<p.offers.length
theorem DJ {p:bn} (f:Good p) {L M:List Off} (c:∀x∈M,x∈p.offers) (h:gA p (L++M)):gA p L:=by
 obtain⟨e,d⟩:=Qs f c;obtain⟨g,a,b⟩:=h;rw[γa,Am,bC.le_iff] at a b;simp only[bC.add,bC.bd] at a b e d;refine⟨?_,?_,?_⟩<;>grind[bC.le_iff]
theorem Qu {p:bn} (a:Good p) {l m:List Int} (b:DI p m) (h:lB p (l++m)=true):lB p l=true:=by
 unfold lB at h ⊢;have h:=of_decide_eq_true h;rw[uu] at h;exact decide_eq_true (DJ a (Ii a b) h)
def mJ (i:Int) (k:Nat) (t:List Int):Prop:=t.Pairwise (·<·)/\∀j∈t,i<=j/\j<i+k
theorem Qv {a b:Alloc}:a.value<=(better a b).value/\b.value<=(better a b).value:=by
 grind[better]
theorem Qw {a b:Alloc}:better a b=a\/better a b=b:=by
 grind[better]
theorem Ao {p:bn}:∀{k:Nat} {i:Int} {a b:Alloc},b.value<=(lD p k i a b).value
 |0,_,_,b=>by simp[lD];|k+1,i,a,b=>by
  simp only[lD];refine ζe ?_ Ao;split;·exact ζe Qv.2 Ao
  ·omega
theorem Im {p:bn} (h:Good p):∀{k:Nat} {i:Int} {a b:Alloc} {t:List Int},0<=i->i+k<=p.offers.length->t≠[]->mJ i k t->lB p (a.chosen++t)=true->a.value+cM (cC p t)<=(lD p k i a b).value
 |0,i,a,b,t,_,_,u,c,_=>by
  cases t with
  |nil=>simp_all;|cons j t=>
   have:=c.2 j (by simp);omega
 |k+1,i,a,b,t,w,x,u,c,s=>by
  cases t with
  |nil=>simp_all;|cons j t=>
   have v:=c.2 j (by simp);have q:=γu.1 c.1;simp only[lD];by_cases l:j=i
   ·subst l;have d:DI p t:=λm e=>by
     have:=c.2 m (by simp[e]);omega
    have f:lB p (a.chosen++[j]++t)=true:=by simp_all
    have g:lB p (a.chosen++[j])=true:=Qu h d f;rw[if_pos g];refine ζe ?_ Ao;rw[sS];simp only[cM];cases t with
    |nil=>
     refine ζe ?_ Ao;refine ζe ?_ Qv.1;simp[cM,cC,lC];|cons o n=>
     have:=Im h (k:=k) (i:=j+1) (a:=⟨a.chosen++[j],a.value+lC p j⟩) (b:=better ⟨a.chosen++[j],a.value+lC p j⟩ b) (t:=o::n) (by omega) (by omega) (by simp) ⟨q.2,λm e=>by
      have r:=c.2 m (List.mem_cons_of_mem _ e);grind⟩ f;grind[lC]
   ·exact Im h (by omega) (by omega) (by simp) ⟨c.1,λm e=>by
     have r:=c.2 m e;grind⟩ s
theorem Io {p:bn} (g:Good p):∀{k:Nat} {i:Int} {a b:Alloc},lD p k i a b=b\/∃t,t≠[]/\mJ i k t/\lB p (a.chosen++t)=true/\lD p k i a b=⟨a.chosen++t,a.value+cM (cC p t)⟩
 |0,i,a,b=> .inl rfl
 |k+1,i,a,b=>by
  have l:∀{t:List Int},mJ (i+1) k t->mJ i (k+1) t:=λh=>⟨h.1,λj c=>by have:=h.2 j c;omega⟩;simp only[lD];rcases @Io p g k (i+1) a (if lB p (a.chosen++[i]) then lD p k (i+1) ⟨a.chosen++[i],a.value+lC p i⟩ (better ⟨a.chosen++[i],a.value+lC p i⟩ b) else b) with h|⟨t,m,d,n,o⟩
  ·rw[h];split
   ·rename_i q;have e:(⟨a.chosen++[i],a.value+lC p i⟩:Alloc)=⟨a.chosen++[i],a.value+cM (cC p [i])⟩:=by simp[cM,cC,lC]
    have f:mJ i (k+1) [i]:=⟨by simp,λj c=>by grind⟩;rcases @Io p g k (i+1) ⟨a.chosen++[i],a.value+lC p i⟩ (better ⟨a.chosen++[i],a.value+lC p i⟩ b) with h|⟨t,m,d,n,o⟩;·grind[Qw]
    ·refine .inr ⟨i::t,by simp,⟨γu.2 ⟨λj c=>by have:=d.2 j c;omega,d.1⟩,λj c=>?_⟩,by simp_all,?_⟩
     ·rcases γr.1 c with rfl|c;·omega
      ·have:=d.2 j c;omega
     grind[sS,cM,lC]
   simp_all
  grind
theorem Ip {p:bn}:cB p=lD p p.offers.length 0 ⟨[],0⟩ ⟨[],0⟩:=by
 grind[Qo,cB,Qp,Qw]
theorem Iq {p:bn} (f:Good p) {t:List Int} (e:mJ 0 p.offers.length t) (d:lB p t=true):cM (cC p t)<=(cB p).value:=by
 rw[Ip];by_cases c:t=[]
 ·subst c;exact Ao
 ·have:=Im f (k:=p.offers.length) (i:=0) (a:=⟨[],0⟩) (b:=⟨[],0⟩) (t:=t) (by omega) (by omega) c e d;simp_all
theorem Qx {p:bn} (a:Good p):lB p []=true:=by
 have b:=bC.iP.1 a.2.2.1;have c:=bC.iP.1 a.2.2.2.1;unfold lB;refine decide_eq_true ⟨by simp[cC],?_,?_⟩;all_goals simp_all[bC.le_iff,cC,dW]
theorem Is {p:bn} (a:Good p):∃t,mJ 0 p.offers.length t/\lB p t=true/\cB p=⟨t,cM (cC p t)⟩:=by
 rw[Ip];rcases @Io p a p.offers.length 0 ⟨[],0⟩ ⟨[],0⟩ with h|⟨t,b,e,c,d⟩;·exact⟨[],⟨by simp,by simp⟩,Qx a,by rw[h];rfl⟩
 grind
def Qy:Bool:=(ω 256).all λm=>[0,1,2,3,4,5,6,7].all λb:Int=>hasB m b==decide (b∈rG m)
theorem aa4:Qy=true:=by kernel_rfl
theorem Iu {m b:Int} (e:0<=m) (a:m<256) (c:0<=b) (d:b<8):hasB m b=decide (b∈rG m):=by
 have h:=aa4;simp only[Qy,τ,γC] at h;have h:=h m.toNat (by omega) b (by
  have:b=0\/b=1\/b=2\/b=3\/b=4\/b=5\/b=6\/b=7:=by omega
  simp_all);grind
theorem aa5 {p:bn} {t:List Int} (h:mJ 0 p.offers.length t):DI p t:=λj a=>by
 have:=h.2 j a;omega
theorem aa6 {p:bn} (b:Good p) {m:Int} (j:0<=m) (e:m<256):vW p m<=kj p (rG m) p.supply p.opn:=by
 obtain⟨t,i,f,g⟩:=Is (Ij b m);unfold vW;rw[g];have d:=of_decide_eq_true f;refine DF b ⟨d.1,λx h=>?_,d.2.1,d.2.2⟩;have c:=Ii (Ij b m) (aa5 i) x h;have a:=γk.1 c;have k:=b.2.2.2.2 x a.1;have l:=b.1;refine⟨a.1,?_⟩;have:=Iu j e k.1 (by omega);simp_all
theorem Qz {L M:List Off} (h:L.Perm M):cM L=cM M:=by
 induction h<;>grind[cM,swap,trans]
theorem aa7 {L M:List bC} (h:L.Perm M):dW L=dW M:=by
 induction h<;>grind[An,swap,bC.add,bC.mk.injEq,trans]
theorem DK {p:bn} {L M:List Off} (h:L.Perm M) (b:gA p L):gA p M:=by
 obtain⟨a,c,d⟩:=b;refine⟨((h.map _).nodup_iff).1 a,?_,?_⟩<;>grind[aa7]
theorem Iw (q:Off->Bool):∀(O a:List Off),∃t:List Int,t.Pairwise (·<·)/\(∀j∈t,(a.length:Int)<=j/\j<a.length+O.length)/\(t.map λj=>bj (a++O) j.toNat bp.off.dflt)=O.filter q
 |[],a=>⟨[],by simp,by simp,by simp⟩
 |x::O,a=>by
  obtain⟨t,c,g,d⟩:=Iw q O (a++[x]);have e:a++[x]++O=a++x::O:=by simp
  rw[e] at d;have h:((a++[x]).length:Int)=a.length+1:=by simp
  have f:∀j∈t,(a.length:Int)+1<=j/\j<a.length+1+O.length:=λj b=>by
   simp_all
  by_cases i:q x=true
  ·refine⟨(a.length:Int)::t,γu.2 ⟨λj b=>by grind,c⟩,λj b=>?_,?_⟩;·grind
   simp_all[cT]
  grind
theorem DL {p:bn}:∀{l:List Off} {a:List nW},jc p a l=0->(l.map Off.key).Nodup/\∀x∈l,x.key∉a
 |[],_,_=>by simp;|o::r,a,h=>by
  simp only[jc] at h;split at h;·omega
  ·split at h;·cases h
   ·rename_i d b;obtain⟨c,e⟩:=DL h;simp_all
theorem DN {a b:Type} (f:a->b):∀{l:List a},(l.map f).Nodup->l.Nodup
 |[],_=>by simp;|x::l,h=>by
  rw[ξ,γT] at h;exact γT.2 ⟨λc=>h.1 (List.mem_map_of_mem c),DN f h.2⟩
theorem QA {p:bn} (h:bz p=0):p.offers.Nodup:=by
 unfold bz at h;split at h;·omega
 ·exact DN _ (DL h).1
theorem QB (m:Int):(rG m).Nodup:=by
 unfold rG;exact ζX γt (by decide)
theorem aa8 {p:bn} (f:bz p=0) {m:Int} (D:0<=m) (u:m<256):kj p (rG m) p.supply p.opn<=vW p m:=by
 have b:=dQ f;have A:=bC.iP.1 b.2.2.1;have y:=bC.iP.1 b.2.2.2.1;obtain⟨L,c,h⟩:=DG b (QB m) (l:=p.supply) (o:=p.opn) (by grind[bC.le_iff,bC.zero]) (by grind[bC.le_iff,bC.zero]);obtain⟨t,n,B,g⟩:=Iw (λx=>decide (x∈L)) (pn p m).offers [];have i:cC (pn p m) t=(pn p m).offers.filter λx=>decide (x∈L):=g;have q:∀x∈L,x∈(pn p m).offers:=λx s=>by
  have d:=c.mem x s;have C:=b.2.2.2.2 x d.1;have v:=b.1;refine γk.2 ⟨d.1,?_⟩;grind[Iu]
 have e:((pn p m).offers.filter λx=>decide (x∈L)).Nodup:=ζX (List.Sublist.trans γt γt) (QA f);have a:L.Perm (cC (pn p m) t):=by
  rw[i];refine(List.perm_ext_iff_of_nodup (DN _ c.nd) e).2 λx=>?_;simp_all
 have k:gA (pn p m) L:=⟨c.nd,c.w,c.o⟩;have r:lB (pn p m) t=true:=decide_eq_true (DK a k);have:=Iq (Ij b m) ⟨n,λj z=>by simp_all⟩ r;rw[<-Qz a,h] at this;exact this
theorem aa9 {p:bn} (d:bz p=0) {m:Int} (e:0<=m) (c:m<256):vW p m=kj p (rG m) p.supply p.opn:=by
 have a:=aa6 (dQ d) e c;have b:=aa8 d e c;omega
theorem abb {p:bn} (a:bz p=0) {m:Int} (c:0<=m) (d:m<2^p.classes.length):rH p m=vW p m:=by
 have b:Dx p m=0:=by
  simp_all[Dx]
 have e:=Aj (dQ a).1;unfold rH;rw[if_pos b,aa9 a c (by omega)];rfl
def QC:Bool:=(ω 9).all λn=>decide (DD bn.zero (-1) n=2^n - 1)&&(ω n).all λb=>decide (DD bn.zero b n=aaO (2^n - 1) b)
theorem abd:QC=true:=by kernel_rfl
theorem QE {p:bn} (h:p.classes.length<=8):DD p (-1) p.classes.length=allM p:=by
 have a:=abd;simp only[QC,τ,γC,Bool.and_eq_true,decide_eq_true_eq] at a;exact(a p.classes.length (by omega)).1
theorem abe {p:bn} (b:bz p=0):rH p (allM p)=vW p (Il p):=by
 have a:=dQ b;have c:=Aj a.1;unfold Il;rw[QE a.1];grind[abb,allM]
theorem DO {p:bn}:∀{c:List Int} {s:Int},c.foldl (Ib p) s=s+cM (cC p c)
 |[],s=>by simp[cC,cM];|i::c,s=>by
  rw[εa,DO,sS];grind[cM,Ib]
theorem DR {p:bn}:∀{c:List Int} {a:Int} {r:List Off},eh p.offers a c=some r->r=cC p c
 |[],a,r,h=>by simp[eh] at h;subst h;rfl;|i::c,a,r,h=>by
  simp only[eh] at h;split at h;·cases h
  ·obtain⟨d,b,rfl⟩:=Option.map_eq_some_iff.1 h;rw[DR b,sS]
theorem abf {p:bn} {c:List Int} (b:cO p c=0):ek p c=Ak p c:=by
 obtain⟨a,d,g,f,e⟩:=Ik b;obtain⟨r,h⟩:=γp.1 d;unfold ek Ak;rw[if_pos a,DO];grind[dU,DR]
theorem QF {p:bn} {x:Off} (b:0<=x.bX) (a:x.bX<p.classes.length):dY p x.bX x=1:=by
 unfold dY;omega
theorem sum_cons {p:bn} {x:Off} {L:List Off} {r:Int}:cZ p (x::L) r=dY p r x+cZ p L r:=by simp[cZ]
theorem QG {p:bn} {r:Int}:∀{L:List Off},(∀x∈L,x.want.ok=true)->(∃x∈L,x.bX=r/\0<=r/\r<p.classes.length)->1<=cZ p L r
 |[],_,h=>by simp_all;|y::L,a,⟨x,c,e,f,d⟩=>by
  have g:=@pR p r y (a y (by simp));have i:=@sO p r L λz b=>a z (by simp[b]);rw[sum_cons];rcases γr.1 c with rfl|c;·grind[QF]
  ·have:=@QG p r L (λz b=>a z (by simp[b])) ⟨x,c,e,f,d⟩;omega
theorem QH {p:bn}:∀{L:List Off},(∀x∈L,x.want.ok=true/\0<=x.bX/\x.bX<p.classes.length)->(∀r:Int,0<=r->r<p.classes.length->cZ p L r<=1)->(L.map Off.bX).Nodup
 |[],_,_=>by simp;|x::L,e,f=>by
  have a:=e x (by simp);rw[ξ,γT];have d:∀r:Int,0<=r->r<p.classes.length->cZ p L r<=1:=λr j b=>by
   have:=f r j b;have:=@pR p r x a.1;grind[sum_cons]
  refine⟨λg=>?_,QH (λy c=>e y (by simp[c])) d⟩;obtain⟨y,c,h⟩:=Θ.1 g;have b:=f x.bX a.2.1 a.2.2;have k:=@QG p x.bX L (λz i=>(e z (by simp[i])).1) ⟨y,c,h,a.2.1,a.2.2⟩;rw[sum_cons,QF a.2.1 a.2.2] at b;omega
theorem abg {p:bn} {c:List Int} (e:cO p c=0):((cC p c).map Off.bX).Nodup:=by
 obtain⟨j,f,a,m,h⟩:=Ik e;obtain⟨r,l⟩:=γp.1 f;have n:dU p c=cC p c:=by grind[dU,DR]
 have d:fZ p (cC p c)=true:=by
  simp_all[cO]
 refine QH (p:=p) (λx g=>?_) λr o i=>?_
 ·have:=a.2.2.2.2 x (Ii a h x g);simp_all
 ·have b:=pd.1 d r.toNat (by grind[dh]);rw[show((r.toNat:Nat):Int)=r by omega] at b;have k:dm p r=1:=by unfold dm;omega
  omega
def bC.at (b:bC) (k:Nat):Int:=bj [b.a0,b.a1,b.a2,b.a3,b.a4,b.a5] k 0
theorem DT {a b:bC} (h:a.le b=true) (k:Nat):a.at k<=b.at k:=by
 grind[bC.le_iff,bC.at,bj]
theorem nB (k:Nat):∀(l:List bC),(dW l).at k=(l.map λb=>b.at k).sum:=by
 intro l;unfold bC.at dW;match k with
 |0|1|2|3|4|5=>simp only[bj,List.getElem?_cons_zero,γN,γ3];|k+6=>
  simp only[bj,γN,List.getElem?_nil,Option.getD_none];induction l<;>grind
theorem QI {p:bn} {x:Off} {k:Nat} (a:k<6):dY p (p.classes.length+k) x=x.want.at k:=by
 unfold dY;rw[if_neg (by omega),if_pos (by omega),show((p.classes.length:Int)+k - p.classes.length).toNat=k by omega];rfl
theorem QJ {p:bn} {x:Off} {k:Nat} (a:k<6):dY p (p.classes.length+6+k) x=(eV p x).at k:=by
 unfold dY;rw[if_neg (by omega),if_neg (by omega),show((p.classes.length:Int)+6+k - p.classes.length - 6).toNat=k by omega];have:k=0\/k=1\/k=2\/k=3\/k=4\/k=5:=by omega
 rcases this with rfl|rfl|rfl|rfl|rfl|rfl<;>simp[eV,Ia,oc,lA,bC.at,bj]
theorem QK {p:bn} {k:Nat} (a:k<6):dm p (p.classes.length+k)=p.supply.at k:=by
 unfold dm;rw[if_neg (by omega),if_pos (by omega),show((p.classes.length:Int)+k - p.classes.length).toNat=k by omega];rfl
theorem QL {p:bn} {k:Nat} (a:k<6):dm p (p.classes.length+6+k)=p.opn.at k:=by
 unfold dm;rw[if_neg (by omega),if_neg (by omega),show((p.classes.length:Int)+6+k - p.classes.length - 6).toNat=k by omega];rfl
theorem QM {p:bn} {r:Int} (a:0<=r) (b:r<p.classes.length):∀{L:List Off},(L.map Off.bX).Nodup->cZ p L r<=1/\(r∉L.map Off.bX->cZ p L r=0)
 |[],_=>by simp[cZ];|x::L,h=>by
  rw[ξ,γT] at h;obtain⟨d,e⟩:=QM a b h.2;have c:dY p r x=if x.bX=r then 1 else 0:=by unfold dY;omega
  rw[sum_cons,c];grind
theorem QN {p:bn} {L:List Off} (h:gA p L):fZ p L=true:=by
 obtain⟨j,i,f⟩:=h;refine pd.2 λr g=>?_;unfold dh at g;by_cases l:r<p.classes.length
 ·have:=(QM (p:=p) (r:=r) (by omega) (by omega) j).1;have d:dm p r=1:=by unfold dm;omega
  omega
 by_cases d:r<p.classes.length+6
 ·obtain⟨k,rfl⟩:∃k:Nat,r=p.classes.length+k:=⟨r - p.classes.length,by omega⟩;have c:k<6:=by omega
  have e:(((p.classes.length+k:Nat)):Int)=p.classes.length+k:=by omega
  rw[e,QK c];have a:=DT i k;rw[nB,γO] at a;have:cZ p L (p.classes.length+k)=(L.map ((λb=>bC.at b k)∘Off.want)).sum:=by
   unfold cZ;congr 1;simp_all[QI]
  omega
 ·obtain⟨k,rfl⟩:∃k:Nat,r=p.classes.length+6+k:=⟨r - p.classes.length - 6,by omega⟩;have c:k<6:=by omega
  have e:(((p.classes.length+6+k:Nat)):Int)=p.classes.length+6+k:=by omega
  rw[e,QL c];have a:=DT f k;rw[nB,γO] at a;have:cZ p L (p.classes.length+6+k)=(L.map ((λb=>bC.at b k)∘eV p)).sum:=by
   unfold cZ;congr 1;simp_all[QJ]
  omega
theorem QO {l:List Off}:∀{t:List Int} {a:Int},t.Pairwise (·<·)->(∀j∈t,a<j/\j<l.length)->eh l a t=some (t.map λi=>bj l i.toNat bp.off.dflt)
 |[],_,_,_=>rfl
 |i::t,a,h,d=>by
  have e:=d i (by simp);have c:=γu.1 h;unfold eh;rw[if_neg (by omega),QO c.2 λj b=>⟨c.1 j b,(d j (by simp[b])).2⟩];rfl
theorem QP {p:bn} (e:bz p=0) {t:List Int} (a:mJ 0 p.offers.length t) (c:gA p (cC p t)):cO p t=0:=by
 have d:eh p.offers (-1) t=some (cC p t):=QO a.1 λj b=>by have:=a.2 j b;omega
 simp_all[cO,fE,dU,QN]
def QQ:Bool:=(ω 9).all λn=>(ω n).all λb=>hasB (2^n - 1) b
theorem abh:QQ=true:=by kernel_rfl
theorem QR {p:bn} (a:Good p) {b:Int} (d:0<=b) (c:b<p.classes.length):hasB (allM p) b=true:=by
 have h:=abh;simp only[QQ,τ,γC] at h;have:=h p.classes.length (by have:=a.1;omega) b.toNat (by omega);rwa [show((b.toNat:Nat):Int)=b by omega] at this
theorem abj {p:bn} (a:Good p):pn p (allM p)=p:=by
 unfold pn;rw[List.filter_eq_self.2 λx b=>QR a (a.2.2.2.2 x b).1 (a.2.2.2.2 x b).2.1]
theorem DU {p:bn} (b:bz p=0):rH p (allM p)=(cB p).value:=by
 have a:=dQ b;rw[abe b];unfold Il vW;rw[QE a.1,abj a]
theorem QS {p:bn} (a:bz p=0):Ql p (cB p).chosen=0/\gA p (cC p (cB p).chosen)/\mJ 0 p.offers.length (cB p).chosen/\(cB p).value=cM (cC p (cB p).chosen):=by
 have d:=dQ a;obtain⟨t,b,e,h⟩:=Is d;have c:gA p (cC p t):=of_decide_eq_true e;have g:=QP a b c;have f:=DU a;simp_all[Ql,Ak,DO]
theorem abk {p:bn} (d:Good p) {x:Int} (a:0<=x) (c:x<p.classes.length):x∈rG (allM p):=by
 have e:=d.1;have f:=Aj e;have:=Iu (m:=allM p) (b:=x) (by grind[allM]) (by grind[allM]) a (by omega);simp_all[QR]
theorem QT {p:bn} (b:bz p=0) {m:Int} (c:0<=m) (a:m<2^p.classes.length):rH p m=kj p (rG m) p.supply p.opn:=by
 unfold rH;rw[if_pos];·rfl
 simp_all[Dx]
def ot (a:List Int):Nat->Nat
 |0=>0
 |n+1=>if bj a n 0=0 then ot a n else n+1
def bJ (a:List Int):List Int:=a.take (ot a a.length)
def rI:bM:=⟨168,List Int,.one (dG (.i .u32)),λa=>a.length<=1000000000000,λa=> .row (.i .u32) (bJ a)⟩
def abl (a:List Int):Nat->cG
 |2=> .inv Int (λn=>⟨[(0,.row (.i .u32) a),(3,.si .i64 n)],[]⟩) (λs=>iS s 3) (λn=>0<=n/\n<=a.length/\ot a n.toNat=ot a a.length) (λn=>n.toNat) λ_ _=> .look
 |_=> .look
theorem h152:Holds Tryz.prog rI:=by
 refine cH (L:=[]) rI abl (by simp) ?_;intro(a:List Int) (h:a.length<=1000000000000);refine bQ (let e:=(0:Int);let f:=Ω;let c:=bp.i .u32;let d:=(↑a.length:Int);let l:=γd .i64 d;let g:=(↑a.length:Int);let j:=ot a a.length;((((f c a).same (f c a)/\l.same l/\True)/\True)/\e<=d/\d<=g/\ot a d.toNat=j)/\∀(x:Int),let r:=decide (e<x);let b:=x - (1:Int);let o:=decide (bj a b.toNat e=e);let k:=γd .i64 b;e<=x/\x<=g/\ot a x.toNat=j->(r=true->cu .i64 b/\e<=b/\b<d/\b.toNat<a.length/\(o=true->cu .i64 b/\(((f c a).same (f c a)/\k.same k/\True)/\True)/\(e<=b/\b<=g/\ot a b.toNat=j)/\b.toNat<x.toNat)/\(o=false->e<=x/\e<=x/\0<=x.toNat/\x.toNat<=x.toNat/\x.toNat<=a.length/\(f c (Δ (x.toNat - 0) a)).same (f c (bJ a))))/\(r=false->e<=x/\e<=x/\0<=x.toNat/\x.toNat<=x.toNat/\x.toNat<=a.length/\(f c (Δ (x.toNat - 0) a)).same (f c (bJ a)))) (by kernel_rfl) ?_;simp only[vcs];refine⟨⟨by omega,by omega,by simp⟩,?_⟩;rintro n ⟨f,t,q⟩;have e:(n.toNat=0\/0<n.toNat/\¬bj a (n.toNat - 1) 0=0)->Δ (n.toNat - 0) a=bJ a:=λh=>by
  unfold bJ;rw[<-q];congr 1;rcases h with h|h;·rw[h];rfl
  ·obtain⟨v,h⟩:=h;obtain⟨m,u⟩:∃m,n.toNat=m+1:=⟨n.toNat - 1,by omega⟩;simp_all[ot]
 refine⟨λs=>⟨by omega,by omega,by omega,by omega,λp=>⟨by omega,⟨by omega,by omega,?_⟩,by omega⟩,λp=>⟨f,f,by omega,by omega,by omega,?_⟩⟩,λs=>⟨f,f,by omega,by omega,by omega,e (.inl (by omega))⟩⟩
 ·rw[<-q,show n.toNat=(n - 1).toNat+1 by omega];rw[ot,if_pos p]
 simp_all
def bk:List Int->Int
 |[]=>0
 |d::l=>d+4294967296*bk l
def bA (a:List Int):Prop:=∀d∈a,0<=d/\d<4294967296
def fS:List Int->Prop
 |[]=>True
 |d::l=>(l=[]->d≠0)/\fS l
theorem jr {d:Int} {l:List Int}:bA (d::l)↔(0<=d/\d<4294967296)/\bA l:=by simp[bA]
theorem nC {a:List Int} (h:bA a) (n:Nat):bA (a.take n):=λd b=>h d (List.mem_of_mem_take b)
theorem fj:∀{a:List Int},bA a->0<=bk a
 |[],_=>Int.le_refl _
 |d::l,h=>by
  obtain⟨c,b⟩:=jr.1 h;have:=fj b;grind[bk]
theorem val_zero:∀{a:List Int},bA a->fS a->bk a=0->a=[]
 |[],_,_,_=>rfl
 |d::l,h,b,f=>by
  obtain⟨g,c⟩:=jr.1 h;have:=fj c;simp only[bk] at f;have e:=val_zero c b.2 (by omega);have:=b.1 e;omega
theorem val_inj:∀{a b:List Int},bA a->bA b->fS a->fS b->bk a=bk b->a=b
 |[],b,_,i,_,c,h=>(val_zero i c h.symm).symm
 |d::l,[],f,_,g,_,h=>val_zero f g h
 |d::l,e::m,f,i,g,c,h=>by
  obtain⟨p,j⟩:=jr.1 f;obtain⟨s,k⟩:=jr.1 i;have r:=fj j;have q:=fj k;simp only[bk] at h;have n:d=e:=by omega
  have o:bk l=bk m:=by omega
  rw[n,val_inj j k g.2 c.2 o]
theorem xX:∀{a:List Int} {x:Int},bk (a++[x])=bk a+4294967296^a.length*x
 |[],x=>by simp[bk];|d::l,x=>by
  simp only[γJ,bk,xX,γD,γV,εw];grind
theorem Ix:∀{a:List Int} {x:Int},x≠0->fS (a++[x])
 |[],x,h=>⟨λ_=>h,trivial⟩
 |d::l,x,h=>⟨λb=>by simp at b,Ix h⟩
theorem DV {a:List Int} {n:Nat} (h:n<a.length):a.take (n+1)=a.take n++[bj a n 0]:=by
 simp_all[cT]
theorem QU {a:List Int}:∀{n:Nat},n<=a.length->bk (a.take (ot a n))=bk (a.take n)/\fS (a.take (ot a n))
 |0,_=>by simp[ot,fS];|n+1,h=>by
  obtain⟨d,b⟩:=@QU a n (by omega);have c:=DV (show n<a.length by omega);unfold ot;grind[xX,Ix]
theorem rJ {a:List Int}:bk (bJ a)=bk a/\fS (bJ a):=by
 have:=@QU a a.length (π _);rw[φ] at this;exact this
theorem sT {a:List Int} (h:bA a):bA (bJ a):=nC h _
theorem uv {a:List Int}:(bJ a).length<=a.length:=by grind[bJ]
def vX:Nat->Int->List Int
 |0,_=>[]
 |k+1,n=>if n<=0 then[] else(n % 4294967296)::vX k (n / 4294967296)
def cQ (n:Int):List Int:=vX n.toNat n
theorem QV:∀{k:Nat} {n:Int},0<=n->n.toNat<=k->bk (vX k n)=n/\bA (vX k n)/\fS (vX k n)
 |0,n,b,h=>by
  have:n=0:=by omega
  subst this;exact⟨rfl,by simp[vX,bA],trivial⟩;|k+1,n,b,h=>by
  unfold vX;split
  ·have:n=0:=by omega
   subst this;exact⟨rfl,by simp[bA],trivial⟩
  ·obtain⟨d,a,c⟩:=@QV k (n / 4294967296) (by omega) (by omega);refine⟨by grind[bk],jr.2 ⟨by omega,a⟩,λe f=>?_,c⟩;grind[bk]
theorem gn {n:Int} (h:0<=n):bk (cQ n)=n/\bA (cQ n)/\fS (cQ n):=QV h (π _)
theorem Ap {a:List Int} (h:bA a) (b:fS a):cQ (bk a)=a:=by
 grind[gn,fj,val_inj]
theorem qG {a:List Int} (h:bA a):bJ a=cQ (bk a):=by
 grind[rJ,Ap,sT]
theorem ou:∀{a:List Int},bA a->bk a<4294967296^a.length
 |[],_=>by simp[bk];|d::l,h=>by
  obtain⟨c,b⟩:=jr.1 h;have:=ou b;grind[bk]
def jd (s t:List Int):Nat->Int
 |0=>0
 |i+1=>(bj s i 0+jd s t i+bj t i 0) / 4294967296
def sU (s t:List Int) (i:Nat):Int:=(bj s i 0+jd s t i+bj t i 0) % 4294967296
def po (s t:List Int) (i:Nat):List Int:=(ω i).map (sU s t)++δ (s.length+1 - i) 0
def big (a:List Int×List Int):List Int:=if a.1.length<a.2.length then a.2 else a.1
def lU (a:List Int×List Int):List Int:=if a.1.length<a.2.length then a.1 else a.2
def Aq:bM:=⟨165,List Int×List Int,.cons (dG (.i .u32)) (.one (dG (.i .u32))),λa=>(bA a.1/\bA a.2)/\a.1.length<=100000000000/\a.2.length<=100000000000,λa=> .row (.i .u32) (cQ (bk a.1+bk a.2))⟩
def abm (a:List Int×List Int):Nat->cG
 |6=> .inv Int (λi=>⟨[(0,.row (.i .u32) (big a)),(1,.row (.i .u32) (lU a)),(5,.ow 0 (po (big a) (lU a) i.toNat).length 1),(6,.si .u64 (jd (big a) (lU a) i.toNat)),(21,.si .i64 (big a).length),(22,.si .i64 i)],[.row (.i .u32) (po (big a) (lU a) i.toNat) 172 true]⟩) (λs=>iS s 22)
  (λi=>0<=i/\i<=(big a).length) (λi=>((big a).length - i).toNat) λ_ _=> .look
 |_=> .look
theorem eu {a:List Int} (h:bA a) (i:Nat):0<=bj a i 0/\bj a i 0<4294967296:=by
 by_cases b:i<a.length;·rw[cT b];exact h _ (List.getElem_mem b)
 grind[bj]
theorem DW {a:List Int} {i:Nat} (h:a.length<=i):bj a i 0=0:=by grind[bj]
theorem Iy {s t:List Int} (b:bA s) (a:bA t):∀i,0<=jd s t i/\jd s t i<=1
 |0=>by simp[jd];|i+1=>by
  have h:=Iy b a i;have c:=eu b i;have d:=eu a i;grind[jd]
theorem xY {s t:List Int} {i:Nat} (h:i<=s.length):(po s t i).length=s.length+1:=by grind[po]
theorem Iz {s t:List Int} {i:Nat} {v:Int} (h:i<=s.length):(po s t i).set i v=(ω i).map (sU s t)++v::δ (s.length - i) 0:=by
 unfold po;have a:s.length+1 - i=(s.length - i)+1:=by omega
 rw[a,List.replicate_succ];simp_all
theorem QW {s t:List Int} {i:Nat} (h:i<s.length):po s t (i+1)=(po s t i).set i (sU s t i):=by
 rw[Iz (by omega)];unfold po;rw[εe,γa,List.append_assoc];simp_all
theorem lV {a:List Int} {i:Nat}:bk (a.take (i+1))=bk (a.take i)+4294967296^i*bj a i 0:=by
 by_cases h:i<a.length;·grind[DV,xX]
 ·rw[DW (by omega),γq (by omega),γq (by omega)];simp
theorem IA {s t:List Int}:∀i,bk ((ω i).map (sU s t))+4294967296^i*jd s t i=bk (s.take i)+bk (t.take i)
 |0=>by simp[jd,bk];|i+1=>by
  have a:=@IA s t i;rw[εe,γa,ξ,γv,xX,lV,lV,γV];grind[sU,jd]
theorem h154:Holds Tryz.prog Aq:=by
 refine cH (L:=[rI]) Aq abm (by simpa using h152) ?_;rintro⟨a,b⟩ ⟨⟨ha,hb⟩,hla,hlb⟩;simp only at ha hb hla hlb;refine bQ (let c:=(18446744073709551616:Int);let d:=(0:Int);let e:=(4294967296:Int);let f:=γd .i64;let g:=Ω;let h:=bq.row;let j:=γZ;let m:=(↑(big (a,b)).length:Int);let q:=(↑(big (a,b)).length:Int);let r:=(↑(lU (a,b)).length:Int);let k:=bp.i .u32;let s:=g k (big (a,b));let t:=g k (lU (a,b));let v:=f m;let z:=po (big (a,b)) (lU (a,b)) 0;let G:=∀(x:Int),let l:=po (big (a,b)) (lU (a,b)) x.toNat;let n:=l.length;let o:=x+(1:Int);let A:=po (big (a,b)) (lU (a,b)) o.toNat;let B:=f o;let C:=bj (big (a,b)) x.toNat d;let w:=jd (big (a,b)) (lU (a,b)) x.toNat;let y:=l.set q.toNat (w % e);let D:=λ(u u_1:Int) ↦let E:=(u % c+u_1) % c;d<=(32:Int)/\(32:Int)<=(64:Int)/\l.length=n/\d<=x/\x<(↑n:Int)/\l.length=n/\x.toNat<n/\cu .i64 o/\((s.same s/\t.same t/\(j 0 l.length 1).same (j 0 A.length 1)/\(γd .u64 (E / e)).same (γd .u64 (jd (big (a,b)) (lU (a,b)) o.toNat))/\v.same v/\B.same B/\True)/\(h k (l.set x.toNat (E % e)) 172 true).same (h k A 172 true)/\True)/\(d<=o/\o<=m)/\(m - o).toNat<(m - x).toNat;d<=x/\x<=m->(decide (x<m)=true->d<=x/\x<q/\x.toNat<(big (a,b)).length/\(decide (x<r)=true->d<=x/\x<r/\x.toNat<(lU (a,b)).length/\D (C % c+w) (bj (lU (a,b)) x.toNat d % c))/\(decide (x<r)=false->D C w))/\(decide (x<m)=false->l.length=n/\d<=q/\q<(↑n:Int)/\l.length=n/\q.toNat<n/\l.length=y.length/\y.length<=1000000000000/\(g k (bJ y)).same (g k (cQ (bk a+bk b))));let F:=λ(u:Bool) (u_1 u_2:List Int) ↦let p:=(↑u_1.length:Int)+(1:Int);decide ((↑a.length:Int)<(↑b.length:Int))=u->cu .i64 p/\d<=p/\p<=p/\p*(4:Int)<=(140737488355328:Int)/\p<=(1000000000000:Int)/\((((g k u_1).same s/\(g k u_2).same t/\(j 0 p.toNat 1).same (j 0 z.length 1)/\(γB .u64 0).same (γd .u64 (jd (big (a,b)) (lU (a,b)) 0))/\(f (↑u_1.length:Int)).same v/\(γB .i64 0).same (f 0)/\True)/\(h k (d::δ u_1.length d) 172 true).same (h k z 172 true)/\True)/\d<=d/\d<=m)/\G;F true b a/\F false a b) (by kernel_rfl) ?_;simp only[vcs];have hbs:(a.length<b.length/\big (a,b)=b/\lU (a,b)=a)\/(¬a.length<b.length/\big (a,b)=a/\lU (a,b)=b):=by
  by_cases h:a.length<b.length;·exact .inl ⟨h,if_pos h,if_pos h⟩
  ·exact .inr ⟨h,if_neg h,if_neg h⟩
 generalize big (a,b)=s at*;generalize lU (a,b)=t at*;have hrow:∀{u v:List Int},u=v->(bq.row (.i .u32) u 172 true).same (bq.row (.i .u32) v 172 true):=by rintro _ _ rfl;rfl
 have how:∀{u v:Nat},u=v->(γZ 0 u 1).same (γZ 0 v 1):=by rintro _ _ rfl;rfl
 have r0:∀u v:List Int,po u v 0=0::δ u.length 0:=λu v=>rfl;refine⟨λh=>?_,λh=>?_⟩
 ·obtain⟨h1,e1,e2⟩:a.length<b.length/\s=b/\t=a:=by
   rcases hbs with h2|h2;·exact h2
   ·exact absurd (by omega) h2.1
  subst e1 e2;have hS:bA s:=by assumption
  have hT:bA t:=by assumption
  have hts:t.length<=s.length:=by omega
  have bd:=Iy hS hT;refine⟨⟨by omega,by omega⟩,by omega,by omega,by omega,by omega,⟨⟨⟨rfl,rfl,how (by rw[xY (by omega)];omega),rfl,rfl⟩,hrow (r0 s t).symm⟩,by omega,by omega⟩,?_⟩;rintro i ⟨i0,i1⟩;have l1:=@xY s t i.toNat (by omega);have b1:=bd i.toNat;have d1:=eu hS i.toNat;have d2:=eu hT i.toNat;refine⟨λlW=>?_,λnD=>?_⟩
  ·have l2:=@xY s t (i.toNat+1) (by omega);have e:(i+1).toNat=i.toNat+1:=by omega
   have hst:=QW (s:=s) (t:=t) (show i.toNat<s.length by omega);refine⟨i0,lW,by omega,λht=>?_,λht=>?_⟩
   ·have hv:(((bj s i.toNat 0 % 18446744073709551616+jd s t i.toNat) % 18446744073709551616+bj t i.toNat 0 % 18446744073709551616) % 18446744073709551616)=bj s i.toNat 0+jd s t i.toNat+bj t i.toNat 0:=by omega
    rw[hv,e];exact⟨i0,ht,by omega,by omega,by omega,i0,by omega,by omega,by omega,⟨⟨how (by omega),rfl⟩,hrow hst.symm⟩,by omega,by omega⟩
   ·have hz:=DW (a:=t) (i:=i.toNat) (by omega);have hv:((bj s i.toNat 0 % 18446744073709551616+jd s t i.toNat) % 18446744073709551616)=bj s i.toNat 0+jd s t i.toNat+bj t i.toNat 0:=by omega
    rw[hv,e];exact⟨by omega,by omega,i0,by omega,by omega,by omega,⟨⟨how (by omega),rfl⟩,hrow hst.symm⟩,by omega,by omega⟩
  ·have hi:i.toNat=s.length:=by omega
   have hc:jd s t i.toNat % 4294967296=jd s t i.toNat:=by omega
   rw[hc,γn,hi];rw[hi] at l1 b1;refine⟨by omega,by omega,by omega,by simp,by simp;omega,?_⟩;rw[Iz (π _),Nat.sub_self,εZ,qG ?_]
   ·rw[xX];have hv:=@IA s t s.length;rw[φ,γq hts] at hv;have hl:((ω s.length).map (sU s t)).length=s.length:=by simp
    rw[hl,hv];try rw[ζJ]
   ·intro d hd;rcases γm.1 hd with hd|hd
    ·obtain⟨j,_,rfl⟩:=Θ.1 hd;unfold sU;omega
    ·rw[δy] at hd;omega
 ·obtain⟨h1,e1,e2⟩:¬a.length<b.length/\s=a/\t=b:=by
   rcases hbs with h2|h2;·exact absurd h2.1 (by omega)
   ·exact h2
  subst e1 e2;have hS:bA s:=by assumption
  have hT:bA t:=by assumption
  have hts:t.length<=s.length:=by omega
  have bd:=Iy hS hT;refine⟨⟨by omega,by omega⟩,by omega,by omega,by omega,by omega,⟨⟨⟨rfl,rfl,how (by rw[xY (by omega)];omega),rfl,rfl⟩,hrow (r0 s t).symm⟩,by omega,by omega⟩,?_⟩;rintro i ⟨i0,i1⟩;have l1:=@xY s t i.toNat (by omega);have b1:=bd i.toNat;have d1:=eu hS i.toNat;have d2:=eu hT i.toNat;refine⟨λlW=>?_,λnD=>?_⟩
  ·have l2:=@xY s t (i.toNat+1) (by omega);have e:(i+1).toNat=i.toNat+1:=by omega
   have hst:=QW (s:=s) (t:=t) (show i.toNat<s.length by omega);refine⟨i0,lW,by omega,λht=>?_,λht=>?_⟩
   ·have hv:(((bj s i.toNat 0 % 18446744073709551616+jd s t i.toNat) % 18446744073709551616+bj t i.toNat 0 % 18446744073709551616) % 18446744073709551616)=bj s i.toNat 0+jd s t i.toNat+bj t i.toNat 0:=by omega
    rw[hv,e];exact⟨i0,ht,by omega,by omega,by omega,i0,by omega,by omega,by omega,⟨⟨how (by omega),rfl⟩,hrow hst.symm⟩,by omega,by omega⟩
   ·have hz:=DW (a:=t) (i:=i.toNat) (by omega);have hv:((bj s i.toNat 0 % 18446744073709551616+jd s t i.toNat) % 18446744073709551616)=bj s i.toNat 0+jd s t i.toNat+bj t i.toNat 0:=by omega
    rw[hv,e];exact⟨by omega,by omega,i0,by omega,by omega,by omega,⟨⟨how (by omega),rfl⟩,hrow hst.symm⟩,by omega,by omega⟩
  ·have hi:i.toNat=s.length:=by omega
   have hc:jd s t i.toNat % 4294967296=jd s t i.toNat:=by omega
   rw[hc,γn,hi];rw[hi] at l1 b1;refine⟨by omega,by omega,by omega,by simp,by simp;omega,?_⟩;rw[Iz (π _),Nat.sub_self,εZ,qG ?_]
   ·rw[xX];have hv:=@IA s t s.length;rw[φ,γq hts] at hv;have hl:((ω s.length).map (sU s t)).length=s.length:=by simp
    rw[hl,hv];try rw[ζJ]
   ·intro d hd;rcases γm.1 hd with hd|hd
    ·obtain⟨j,_,rfl⟩:=Θ.1 hd;unfold sU;omega
    ·rw[δy] at hd;omega
theorem xZ:∀{a b:List Int},bA a->bA b->fS b->a.length<b.length->bk a<bk b
 |[],b,_,c,f,h=>by
  have n:=fj c;grind[bk,val_zero];|d::l,[],_,_,_,h=>by simp at h;|d::l,e::m,g,c,f,h=>by
  obtain⟨k,j⟩:=jr.1 g;obtain⟨o,i⟩:=jr.1 c;simp only[γD] at h;have:=xZ j i f.2 (by omega);grind[bk]
theorem IB:∀{k:Nat} {a b:List Int},bA a->bA b->k<a.length->k<b.length->a.drop (k+1)=b.drop (k+1)->bj a k 0<bj b k 0->bk a<bk b
 |_,[],_,_,_,h,_,_,_=>by simp at h;|_,_::_,[],_,_,_,h,_,_=>by simp at h;|0,d::l,e::m,f,g,_,_,h,c=>by
  grind[bj,bk];|k+1,d::l,e::m,f,g,n,q,h,c=>by
  obtain⟨p,j⟩:=jr.1 f;obtain⟨o,i⟩:=jr.1 g;simp only[List.drop_succ_cons] at h;simp only[bj,γN] at c;have:=IB (k:=k) j i (by simp_all) (by simp_all) h c;grind[bk]
theorem DX {a:List Int} {k:Nat} (h:k<a.length):a.drop k=bj a k 0::a.drop (k+1):=by simp_all[cT]
def lX (x y:Int):Int:=if x<y then -1 else if y<x then 1 else 0
def ya:bM:=⟨140,List Int×List Int,.cons (dG (.i .u32)) (.one (dG (.i .u32))),λa=>(bA a.1/\bA a.2)/\a.1.length<=1000000000000/\a.2.length<=1000000000000,λa=> .si .i64 (lX (bk a.1) (bk a.2))⟩
def abn (a:List Int×List Int):Nat->cG
 |7=> .inv Int (λi=>⟨[(0,.row (.i .u32) (bJ a.1)),(1,.row (.i .u32) (bJ a.2)),(22,.si .i64 (bJ a.1).length),(23,.si .i64 i)],[]⟩) (λs=>iS s 23)
  (λi=>0<=i/\i<=(bJ a.1).length/\(bJ a.1).drop ((bJ a.1).length - i.toNat)=(bJ a.2).drop ((bJ a.1).length - i.toNat)) (λi=>((bJ a.1).length - i).toNat) λ_ _=> .look
 |_=> .look
theorem h132:Holds Tryz.prog ya:=by
 refine cH (L:=[rI]) ya abn (by grind[h152]) ?_;rintro⟨a,b⟩ ⟨⟨H,J⟩,r,q⟩;simp only at H J r q;refine bQ (let h:=(0:Int);let m:=γd .i64;let q:=γB .i64;let r:=cu .i64;let E:Nat:=(bJ a).length;let j:=(↑E:Int);let B:Nat:=(bJ b).length;let n:=(↑B:Int);let u:=m (lX (bk a) (bk b));let y:=Ω (bp.i .u32) (bJ a);let v:=Ω (bp.i .u32) (bJ b);let l:Nat:=(bJ a).length;let k:=(↑l:Int);let C:=m k;let o:=q 0;let c:=j - (1:Int);a.length<=1000000000000/\b.length<=1000000000000/\(decide (j≠n)=true->(decide (j<n)=true->(q (-1:Int)).same u)/\(decide (j<n)=false->(q 1).same u))/\(decide (j≠n)=false->(((y.same y/\v.same v/\(m j).same C/\o.same (m 0)/\True)/\True)/\h<=h/\h<=k/\γ4 (l - 0) (bJ a)=γ4 (l - 0) (bJ b))/\∀(x:Int),let e:=(c - x).toNat;let f:=bj (bJ a) e h;let g:=bj (bJ b) e h;let d:=x+(1:Int);let p:=m d;h<=x/\x<=k/\γ4 (l - x.toNat) (bJ a)=γ4 (l - x.toNat) (bJ b)->(decide (x<k)=true->r c/\r (c - x)/\h<=c - x/\c - x<j/\e<E/\h<=c - x/\c - x<n/\e<B/\(decide (f<g)=true->(q (-1:Int)).same u)/\(decide (f<g)=false->h<=c - x/\c - x<j/\e<E/\h<=c - x/\c - x<n/\e<B/\(decide (g<f)=true->(q 1).same u)/\(decide (g<f)=false->r d/\((y.same y/\v.same v/\C.same C/\p.same p/\True)/\True)/\(h<=d/\d<=k/\γ4 (l - d.toNat) (bJ a)=γ4 (l - d.toNat) (bJ b))/\(k - d).toNat<(k - x).toNat)))/\(decide (x<k)=false->o.same u))) (by kernel_rfl) ?_;simp only[vcs];obtain⟨R,S⟩:=@rJ a;obtain⟨O,N⟩:=@rJ b;have z:=sT H;have w:=sT J;have W:=@uv a;rw[<-R,<-O];generalize bJ a=s at*;generalize bJ b=t at*;have G:bk s<bk t-> -1=lX (bk s) (bk t):=λh=>by simp_all[lX]
 have F:bk t<bk s->1=lX (bk s) (bk t):=λh=>by unfold lX;omega
 refine⟨r,q,λP=>⟨λh=>G (xZ z w N (by omega)),λh=>F (xZ w z S (by omega))⟩,λT=>⟨⟨by omega,by omega,?_⟩,?_⟩⟩;·rw[δ9 (by omega),δ9 (by omega)]
 rintro i ⟨U,X,A⟩;refine⟨λM=>?_,λQ=>?_⟩
 ·have K:((s.length:Int) - 1 - i).toNat=s.length - 1 - i.toNat:=by omega
  have D:s.length - i.toNat=s.length - 1 - i.toNat+1:=by omega
  rw[K];rw[D] at A;generalize V:s.length - 1 - i.toNat=m at*;refine⟨by omega,by omega,by omega,by omega,by omega,by omega,by omega,by omega,λh=>G (IB z w (by omega) (by omega) A h),λh=>⟨by omega,by omega,by omega,by omega,by omega,by omega,λI=>F (IB w z (by omega) (by omega) A.symm I),λI=>⟨by omega,⟨by omega,by omega,?_⟩,by omega⟩⟩⟩;rw[show s.length - (i+1).toNat=m by omega,DX (show m<s.length by omega),DX (show m<t.length by omega),A,show bj s m 0=bj t m 0 by omega]
 simp_all[lX]
def gY (d:Int):List Int->List Int×Int
 |[]=>([],0)
 |x::l=>(((gY d l).2*4294967296+x) / d::(gY d l).1,((gY d l).2*4294967296+x) % d)
theorem QX {d:Int}:∀{a:List Int},(gY d a).1.length=a.length
 |[]=>rfl
 |x::l=>by simp[gY,QX]
theorem DY {d:Int} (e:0<d) (k:d<4294967296):∀{a:List Int},bA a->bA (gY d a).1/\(0<=(gY d a).2/\(gY d a).2<d)/\bk (gY d a).1*d+(gY d a).2=bk a
 |[],_=>by grind[gY,bk];|x::l,h=>by
  obtain⟨n,g⟩:=jr.1 h;obtain⟨j,⟨p,s⟩,o⟩:=DY e k g;simp only[gY];generalize (gY d l).1=q at*;generalize (gY d l).2=r at*;have f:=δL (r*4294967296+x) (show d≠0 by omega);have i:=δo (r*4294967296+x) e;have c:0<=(r*4294967296+x) / d:=δM (by omega) (by omega);have b:(r*4294967296+x) / d<4294967296:=by
   refine Int.ediv_lt_of_lt_mul e ?_;omega
  refine⟨jr.2 ⟨⟨c,b⟩,j⟩,⟨f,i⟩,?_⟩;simp only[bk];have m:=εf (r*4294967296+x) d;grind
theorem abo {d:Int} (i:0<d) (h:d<4294967296) {a:List Int} (g:bA a):bJ (gY d a).1=cQ (bk a / d)/\(gY d a).2=bk a % d:=by
 obtain⟨e,⟨c,b⟩,f⟩:=DY i h g;rw[qG e];have j:=fj e;have k:bk a / d=bk (gY d a).1:=by
  rw[<-f,ζJ,Int.add_mul_ediv_right _ _ (by omega),εI c b,Int.zero_add]
 have l:bk a % d=(gY d a).2:=by
  rw[<-f,ζJ,Int.add_mul_emod_self_right,δJ c b]
 simp_all
theorem IC {r x:Int} (d:0<=r) (g:r<4294967296) (a:0<=x) (e:x<4294967296):fY.nY .u64 (r*4294967296) x=r*4294967296+x:=by
 obtain⟨m,rfl⟩:=δp d;obtain⟨k,rfl⟩:=δp a;have b:(γi 64 ((m:Int)*4294967296)).toNat=2^32*m:=by
  grind[BitVec.toNat_ofInt]
 have c:(γi 64 (k:Int)).toNat=k:=by
  grind
 have f:(γi 64 ((m:Int)*4294967296) |||γi 64 (k:Int)).toNat=2^32*m+k:=by
  rw[BitVec.toNat_or,b,c,Nat.two_pow_add_eq_or_of_lt (by omega)]
 show eY .u64 ((γi 64 ((m:Int)*4294967296) |||γi 64 (k:Int)).toNat:Nat)=_;grind[sy,IntKind.wrap,IntKind.bits,IntKind.signed]
def IE:bM:=⟨186,List Int×Int,.cons (dG (.i .u32)) (.one (eU .u32)),λa=>bA a.1/\a.1.length<=100000000000/\0<a.2/\a.2<4294967296,λa=> .bI [.row (.i .u32) (cQ (bk a.1 / a.2)),.si .u32 (bk a.1 % a.2)]⟩
def lY (a:List Int) (d:Int) (i:Nat):List Int:=δ (a.length - i) 0++(gY d (a.drop (a.length - i))).1
def lF (a:List Int) (d:Int) (i:Nat):Int:=(gY d (a.drop (a.length - i))).2
def abp (a:List Int×Int):Nat->cG
 |4=> .inv Int (λi=>⟨[(0,.row (.i .u32) a.1),(1,.si .u32 a.2),(6,.ow 0 (lY a.1 a.2 i.toNat).length 1),(7,.si .u64 (lF a.1 a.2 i.toNat)),(15,.si .i64 a.1.length),(16,.si .i64 i)],[.row (.i .u32) (lY a.1 a.2 i.toNat) 172 true]⟩) (λs=>iS s 16)
  (λi=>0<=i/\i<=a.1.length) (λi=>(a.1.length - i).toNat) λ_ _=> .look
 |_=> .look
theorem IG {a:List Int} {d:Int} {i:Nat} (h:i<=a.length):(lY a d i).length=a.length:=by
 grind[lY,QX]
theorem drop_cons {a:List Int} {k:Nat} (h:k<a.length):a.drop k=bj a k 0::a.drop (k+1):=DX h
theorem QY {q:List Int} {y:Int}:∀k,(δ (k+1) 0++q).set k y=δ k 0++y::q
 |0=>by simp;|k+1=>by
  have:=@QY q y k;grind
theorem u64_in {n:Int} (b:0<=n) (a:n<18446744073709551616):cu .u64 n:=by
 show IntKind.u64.wrap n=n;grind[IntKind.wrap,IntKind.bits,IntKind.signed]
theorem h167:Holds Tryz.prog IE:=by
 refine cH (L:=[rI]) IE abp (by simpa using h152) ?_;rintro⟨a,d⟩ ⟨ha,hla,d0,d1⟩;simp only at ha hla d0 d1;refine bQ (let b:=(0:Int);let c:=(18446744073709551616:Int);let e:=(4294967296:Int);let f:=γd .i64;let g:=Ω;let h:=bq.row;let j:=cu .i64;let k:=(1:Int);let l:=γZ;let n:=(↑a.length:Int);let o:=bp.i .u32;let q:=(↑a.length:Int);let t:=f q;let s:=d % c;b<=n/\n<=n/\n*(4:Int)<=(140737488355328:Int)/\n<=(1000000000000:Int)/\((((g o a).same (g o a)/\(γd .u32 d).same (γd .u32 d)/\(l 0 n.toNat 1).same (l 0 (lY a d 0).length 1)/\(γB .u64 0).same (γd .u64 (lF a d 0))/\(f n).same t/\(γB .i64 0).same (f 0)/\True)/\(h o (δ n.toNat b) 172 true).same (h o (lY a d 0) 172 true)/\True)/\b<=b/\b<=q)/\∀(x:Int),let p:=n - k - x;let u:=fY.nY .u64 (lF a d x.toNat*e % c) (bj a p.toNat b % c);let m:=lY a d x.toNat;let r:=x+k;let v:=f r;b<=x/\x<=q->(decide (x<q)=true->j (n - k)/\j p/\b<=(32:Int)/\(32:Int)<=(64:Int)/\b<=p/\p<n/\p.toNat<a.length/\s≠b/\cu .u64 (u.tdiv s)/\s≠b/\m.length=m.length/\b<=p/\p<(↑m.length:Int)/\m.length=m.length/\p.toNat<m.length/\j r/\(((g o a).same (g o a)/\(γd .u32 d).same (γd .u32 d)/\(l 0 m.length 1).same (l 0 (lY a d r.toNat).length 1)/\(γd .u64 (u.tmod s)).same (γd .u64 (lF a d r.toNat))/\t.same t/\v.same v/\True)/\(h o (m.set p.toNat (u.tdiv s % e)) 172 true).same (h o (lY a d r.toNat) 172 true)/\True)/\(b<=r/\r<=q)/\(q - r).toNat<(q - x).toNat)/\(decide (x<q)=false->m.length=m.length/\m.length<=1000000000000/\(SV.bI [g o (bJ m),γd .u32 (lF a d x.toNat % e)]).same (SV.bI [g o (cQ (bk a / d)),γd .u32 (bk a % d)]))) (by kernel_rfl) ?_;simp only[vcs];have hrow:∀{u v:List Int},u=v->(bq.row (.i .u32) u 172 true).same (bq.row (.i .u32) v 172 true):=by rintro _ _ rfl;rfl
 have how:∀{u v:Nat},u=v->(γZ 0 u 1).same (γZ 0 v 1):=by rintro _ _ rfl;rfl
 have z1:lY a d 0=δ a.length 0:=by simp[lY,gY]
 have z2:lF a d 0=0:=by simp[lF,gY]
 refine⟨by omega,by omega,by omega,by omega,⟨⟨⟨how (by rw[IG (by omega)];omega),z2.symm⟩,hrow (by rw[z1,γn])⟩,by omega,by omega⟩,?_⟩;rintro i ⟨i0,i1⟩;have l1:=@IG a d i.toNat (by omega);have l2:=λh=>@IG a d (i+1).toNat h;have dd:d % 18446744073709551616=d:=by omega
 refine⟨λlW=>?_,λnD=>?_⟩
 ·have hx:((a.length:Int) - 1 - i).toNat=a.length - 1 - i.toNat:=by omega
  have hk1:a.length - i.toNat=a.length - 1 - i.toNat+1:=by omega
  have hk2:a.length - (i+1).toNat=a.length - 1 - i.toNat:=by omega
  have hR:lY a d i.toNat=δ (a.length - 1 - i.toNat+1) 0++(gY d (a.drop (a.length - 1 - i.toNat+1))).1:=by unfold lY;rw[hk1]
  have hC:lF a d i.toNat=(gY d (a.drop (a.length - 1 - i.toNat+1))).2:=by unfold lF;rw[hk1]
  have hR2:lY a d (i+1).toNat=δ (a.length - 1 - i.toNat) 0++(gY d (a.drop (a.length - 1 - i.toNat))).1:=by unfold lY;rw[hk2]
  have hC2:lF a d (i+1).toNat=(gY d (a.drop (a.length - 1 - i.toNat))).2:=by unfold lF;rw[hk2]
  have hlt:a.length - 1 - i.toNat<a.length:=by omega
  rw[hx];have l3:=l2 (by omega);generalize a.length - 1 - i.toNat=k at*;have hdr:=drop_cons hlt;have hdig:bA (a.drop k):=λz hz=>ha z (γX hz);obtain⟨q1,q2,q3⟩:=DY d0 d1 (a:=a.drop (k+1)) (λz hz=>ha z (γX hz));obtain⟨p1,p2,p3⟩:=DY d0 d1 hdig;rw[hdr] at hR2 hC2 p1 p2;simp only[gY] at hR2 hC2 p1 p2;have hxd:=eu ha k;rw[<-hC] at hR2 hC2 p1 p2 q2;have e1:lF a d i.toNat*4294967296 % 18446744073709551616=lF a d i.toNat*4294967296:=by omega
  have e2:bj a k 0 % 18446744073709551616=bj a k 0:=by omega
  rw[e1,e2,dd,IC (by omega) (by omega) hxd.1 hxd.2];have hv0:0<=lF a d i.toNat*4294967296+bj a k 0:=by omega
  rw[ε6 hv0,ε7 hv0];have hq:=(jr.1 p1).1;have hqm:(lF a d i.toNat*4294967296+bj a k 0) / d % 4294967296=(lF a d i.toNat*4294967296+bj a k 0) / d:=δJ hq.1 hq.2;rw[hqm];refine⟨by omega,by omega,by omega,by omega,by omega,by omega,by omega,by omega,u64_in hq.1 (by omega),by omega,by omega,by omega,by omega,by omega,⟨⟨how (by omega),hC2.symm⟩,hrow ?_⟩,by omega,by omega⟩;rw[hR2,hR,QY]
 ·have hi:a.length - i.toNat=0:=by omega
  have hR:lY a d i.toNat=(gY d a).1:=by unfold lY;rw[hi];simp
  have hC:lF a d i.toNat=(gY d a).2:=by unfold lF;rw[hi];simp
  obtain⟨k1,k2⟩:=abo d0 d1 ha;have hm:=δL (bk a) (show d≠0 by omega);have hl:=δo (bk a) d0;refine⟨by omega,by rw[hR,k1],?_⟩;rw[hC,k2];omega
def ix:Nat->Int->List Int
 |0,_=>[]
 |k+1,x=>x % 4294967296::ix k (x / 4294967296)
theorem Ar:∀{k:Nat} {x:Int},(ix k x).length=k
 |0,_=>rfl
 |k+1,x=>by simp[ix,Ar]
theorem II:∀{k:Nat} {x:Int},bA (ix k x)
 |0,_=>by simp[ix,bA];|k+1,x=>jr.2 ⟨by omega,II⟩
theorem QZ:∀{l:List Int},bA l->ix l.length (bk l)=l
 |[],_=>rfl
 |d::l,h=>by
  obtain⟨e,b⟩:=jr.1 h;simp only[γD,ix,bk];have c:(d+4294967296*bk l) % 4294967296=d:=by omega
  have a:(d+4294967296*bk l) / 4294967296=bk l:=by omega
  rw[c,a,QZ b]
theorem IJ {l:List Int} {k:Nat} {x:Int} (h:bA l) (b:l.length=k) (a:bk l=x):l=ix k x:=by
 grind[QZ]
theorem pow_pos (k:Nat):(0:Int)<4294967296^k:=Int.pow_pos (by decide)
theorem IK:∀{k:Nat} {x:Int},0<=x->x<4294967296^k->bk (ix k x)=x
 |0,x,b,a=>by grind[ix,bk];|k+1,x,b,a=>by
  rw[γV] at a;simp only[ix,bk];rw[IK (k:=k) (x:=x / 4294967296) (by omega) (by omega)];omega
theorem IL:∀{a b:List Int},bk (a++b)=bk a+4294967296^a.length*bk b
 |[],b=>by simp[bk];|d::l,b=>by
  simp only[γJ,bk,IL,γD,γV,εw];grind
theorem uw:∀{l:List Int} {j:Nat} {v:Int},j<l.length->bk (l.set j v)=bk l+4294967296^j*(v - bj l j 0)
 |[],_,_,h=>by simp at h;|d::l,0,v,_=>by grind[bk,bj];|d::l,j+1,v,h=>by
  have a:=@uw l j v (by simpa using h);grind[bj,bk]
theorem nE {l:List Int} {j:Nat} {v:Int} (h:bA l) (c:0<=v) (b:v<4294967296):bA (l.set j v):=by
 intro d a;rcases List.mem_or_eq_of_mem_set a with a|rfl;·exact h d a
 omega
theorem As {a:List Int} (h:bA a) (n:Nat):bA (a.drop n):=λd b=>h d (γX b)
theorem Q0 {a b:List Int} (e:bA a) (c:bA b):bA (a++b):=λd f=>by
 rcases γm.1 f with h|h;·exact e d h
 ·exact c d h
theorem sV {l:List Int} {j:Nat} {v:Int} (h:j<l.length):bj (l.set j v) j 0=v:=by
 grind[bj]
theorem pT {l:List Int} {i j:Nat} {v:Int} (h:i≠j):bj (l.set i v) j 0=bj l j 0:=by
 grind[bj]
theorem Au:∀{l:List Int} {i j:Nat},bA l->bk l<4294967296^i->i<=j->bj l j 0=0
 |[],_,_,_,_,_=>by simp[bj];|d::l,0,j,h,a,c=>by
  obtain⟨e,b⟩:=jr.1 h;have:=fj b;simp only[bk,Int.pow_zero] at a;have f:d=0:=by omega
  have g:bk l=0:=by omega
  cases j with
  |zero=>simp[bj,f];|succ j=>
   have:=Au (l:=l) (i:=0) (j:=j) b (by simp;omega) (by omega);grind[bj]
 |d::l,i+1,j,h,a,c=>by
  obtain⟨e,b⟩:=jr.1 h;cases j with
  |zero=>omega;|succ j=>
   rw[γV] at a;simp only[bk] at a;have:=Au (l:=l) (i:=i) (j:=j) b (by omega) (by omega);grind[bj]
def iy (o b:List Int) (x:Int) (i:Nat):Nat->List Int×Int
 |0=>(o,0)
 |k+1=>((iy o b x i k).1.set (i+k) ((x*bj b k 0+bj (iy o b x i k).1 (i+k) 0+(iy o b x i k).2) % 4294967296),(x*bj b k 0+bj (iy o b x i k).1 (i+k) 0+(iy o b x i k).2) / 4294967296)
theorem Q5 {o b:List Int} {x:Int} {i:Nat} (d:bA o) (g:bA b) (f:0<=x) (m:x<4294967296):∀{k:Nat},i+k<=o.length->
  bA (iy o b x i k).1/\(iy o b x i k).1.length=o.length/\(0<=(iy o b x i k).2/\(iy o b x i k).2<4294967296)/\(∀j,i+k<=j->bj (iy o b x i k).1 j 0=bj o j 0)/\
  bk (iy o b x i k).1+4294967296^(i+k)*(iy o b x i k).2=bk o+4294967296^i*(x*bk (b.take k))
 |0,h=>by simp[iy,d,bk];|k+1,h=>by
  obtain⟨l,t,⟨v,s⟩,u,r⟩:=@Q5 o b x i d g f m k (by omega);simp only[iy];generalize (iy o b x i k).1=p at*;generalize (iy o b x i k).2=c at*;have a:=eu g k;have q:=eu l (i+k);have n:0<=x*bj b k 0:=γx f a.1;have e:x*bj b k 0<=4294967295*4294967295:=δF (by omega) (by omega) a.1 (by omega);grind[nE,uw,lV,bj]
def prt (U:List Int) (j k:Nat):List Int:=(U.drop j).take k
theorem Q6 {U:List Int} {j k:Nat}:bj (U.drop j) k 0=bj U (j+k) 0:=by
 grind[bj]
theorem lZ {U:List Int} {j k:Nat}:bk (prt U j (k+1))=bk (prt U j k)+4294967296^k*bj U (j+k) 0:=by
 grind[prt,lV,Q6]
theorem uy {U:List Int} {j k i:Nat} {d:Int} (h:k<=i):prt (U.set (j+i) d) j k=prt U j k:=by
 unfold prt;apply List.ext_getElem?;grind
theorem uz {U:List Int} (h:bA U) {j k:Nat}:bA (prt U j k):=nC (As h j) k
theorem abq {U:List Int} {j k:Nat} (h:j+k<=U.length):(prt U j k).length=k:=by
 grind[prt]
theorem vY {U:List Int} (h:bA U) {j k:Nat}:bk (prt U j k)<4294967296^k:=by
 have g:=ou (uz h (j:=j) (k:=k));have e:(prt U j k).length<=k:=by grind[prt]
 have i:(4294967296:Int)^(prt U j k).length<=4294967296^k:=by
  have d:∀{a b:Nat},a<=b->(4294967296:Int)^a<=4294967296^b:=λ{a b} c=>by
   obtain⟨m,rfl⟩:=Nat.exists_eq_add_of_le c;rw[Int.pow_add];have f:=pow_pos a;have l:=pow_pos m;have:=Ξ (show(1:Int)<=4294967296^m by omega) (γg f);omega
  exact d e
 omega
def js (U:List Int) (j:Nat) (l:List Int):List Int:=U.take j++(l++U.drop (j+l.length))
theorem abr {a b:List Int} (c:a.length=b.length) (h:∀m,bj a m 0=bj b m 0):a=b:=by
 apply List.ext_getElem c;intro m d e;have:=h m;grind[cT]
theorem Q7 {U l:List Int} {j:Nat} (h:j+l.length<=U.length):(js U j l).length=U.length:=by
 grind[js]
theorem abt {U l:List Int} {j m:Nat} (h:j+l.length<=U.length):bj (js U j l) m 0=if m<j then bj U m 0 else if m<j+l.length then bj l (m - j) 0 else bj U m 0:=by
 unfold js bj;grind
theorem yb {U W:List Int} {j k:Nat} {x:Int} (d:bA W) (f:W.length=U.length) (g:j+k<=U.length) (e:∀m,(m<j\/j+k<=m)->bj W m 0=bj U m 0) (a:bk (prt W j k)=x):W=js U j (ix k x):=by
 have b:prt W j k=ix k x:=IJ (uz d) (abq (by omega)) a;have c:=@Ar k x;apply abr;·grind[Q7]
 ·intro m;rw[abt (by omega),c];split;·simp_all
  ·split
   ·rw[<-b];unfold prt;have:bj ((W.drop j).take k) (m - j) 0=bj (W.drop j) (m - j) 0:=by
     unfold bj;grind
    grind[Q6]
   simp_all
section
variable {P V X v1 v2 u2 top rv ru g r:Int}
theorem abu (e:0<P) (n:V=rv+P*(v2+4294967296*v1)) (l:X=ru+P*(u2+4294967296*top)) (a:0<=rv) (f:ru<P) (d:X<4294967296*V) (b:0<=V)
  (c:0<=g) (j:g*v1+r=top) (h:4294967296<=g\/r*4294967296+u2<g*v2):X<g*V:=by
 rcases h with h|h;·exact Int.lt_of_lt_of_le d (γW h b)
 ·have k:g*V=g*rv+P*(g*v2+4294967296*(top - r)):=by
   grind
  have i:P*(u2+1+4294967296*top)<=P*(g*v2+4294967296*(top - r)):=Ξ (by omega) (γg e);have m:0<=g*rv:=γx c a;grind
theorem Q8 (c:0<P) (k:V=rv+P*(v2+4294967296*v1)) (n:X=ru+P*(u2+4294967296*top)) (a:0<=rv) (b:rv<P) (f:0<=ru) (e:2147483648<=v1) (j:0<=v2)
  (i:0<=g) (d:g<4294967296) (o:g*v1+r=top) (h:g*v2<=r*4294967296+u2):g*V<X+V:=by
 have m:g*V=g*rv+P*(g*v2+4294967296*(top - r)):=by
  grind
 have q:P*(g*v2+4294967296*(top - r))<=P*(u2+4294967296*top):=Ξ (by omega) (γg c);have p:g*rv<=4294967295*rv:=γW (by omega) a;have l:P*4294967296<=P*(v2+4294967296*v1):=Ξ (by omega) (γg c);omega
theorem abv (c:0<P) (p:V=rv+P*(v2+4294967296*v1)) (k:X=ru+P*(u2+4294967296*top)) (b:0<=rv) (e:ru<P) (a:0<=v2) (f:u2<4294967296)
  (d:0<=g) (o:g*v1+r=top) (l:r<v1):X<(g+1)*V:=by
 have n:(g+1)*V=(g+1)*rv+((g+1)*(P*v2)+P*(4294967296*((g+1)*v1))):=by
  grind
 have j:0<=(g+1)*rv:=γx (by omega) b;have h:0<=(g+1)*(P*v2):=γx (by omega) (γx (γg c) a);have i:top+1<=(g+1)*v1:=by grind
 have m:P*(u2+1+4294967296*top)<=P*(4294967296*((g+1)*v1)):=Ξ (by omega) (γg c);grind
theorem abw {b a:Int} (c:0<P) (l:V=rv+P*(v2+4294967296*v1)) (k:X=ru+P*(u2+4294967296*(b+4294967296*a))) (d:rv<P) (f:0<=ru) (e:0<=u2) (i:0<=b) (j:v2<4294967296)
  (g:X<4294967296*V):a<=v1:=by
 by_cases h:a<=v1;·exact h
 ·exfalso;have m:P*(4294967296*(4294967296*(v1+1)))<=P*(u2+4294967296*(b+4294967296*a)):=Ξ (by omega) (γg c);have n:P*(v2+4294967296*v1)<=P*(4294967296*(v1+1) - 1):=Ξ (by omega) (γg c);grind
theorem vZ {X V q:Int} (e:q*V<=X) (c:X<(q+1)*V):X / V=q/\X % V=X - q*V:=by
 rw[Int.add_mul,εx] at c;have d:0<V:=by omega
 have b:X=(X - q*V)+V*q:=by grind
 have a:X / V=q:=by
  conv=>lhs;rw[b]
  rw[Int.add_mul_ediv_left _ _ (by omega),εI (by omega) (by omega),Int.zero_add]
 refine⟨a,?_⟩;rw[Int.emod_def,a,δ3]
end
theorem IP {p:Int} (a:0<=p) (e:p<18446744073709551616):fY.qx .u64 p 4294967295=p % 4294967296:=by
 obtain⟨m,rfl⟩:=δp a;have b:(γi 64 ((m:Nat):Int)).toNat=m:=by grind
 have c:(γi 64 4294967295).toNat=4294967295:=by simp_all
 have d:(γi 64 ((m:Nat):Int) &&&γi 64 4294967295).toNat=m % 4294967296:=by
  rw[BitVec.toNat_and,b,c];exact Nat.and_two_pow_sub_one_eq_mod m 32
 show eY .u64 ((γi 64 ((m:Nat):Int) &&&γi 64 4294967295).toNat:Nat)=_;grind[sy,IntKind.wrap,IntKind.bits]
theorem IQ {U W v:List Int} {j i:Nat} {g c b d e:Int} (n:bA W) (f:W.length=U.length) (o:bA v) (h:0<=g) (r:g<4294967296) (y:0<=c) (t:c<4294967296) (s:0<=b) (q:b<=1) (u:j+i<U.length)
  (l:∀m,(m<j\/j+i<=m)->bj W m 0=bj U m 0)
  (k:bk (prt W j i)=bk (prt U j i) - g*bk (v.take i)+4294967296^i*(c+b))
  (a:0<=d/\d<4294967296) (w:d - 4294967296*e=bj W (j+i) 0 - (g*bj v i 0+c) % 4294967296 - b):
  bA (W.set (j+i) d)/\(W.set (j+i) d).length=U.length/\(0<=(g*bj v i 0+c) / 4294967296/\(g*bj v i 0+c) / 4294967296<4294967296)/\
  (∀m,(m<j\/j+(i+1)<=m)->bj (W.set (j+i) d) m 0=bj U m 0)/\
  bk (prt (W.set (j+i) d) j (i+1))=bk (prt U j (i+1)) - g*bk (v.take (i+1))+4294967296^(i+1)*((g*bj v i 0+c) / 4294967296+e):=by
 have x:=eu o i;have z:0<=g*bj v i 0:=γx h x.1;have p:g*bj v i 0<=4294967295*4294967295:=δF (by omega) (by omega) x.1 (by omega);refine⟨nE n a.1 a.2,by simp[f],by omega,λm A=>by grind[pT],?_⟩;have B:=l (j+i) (.inr (π _));rw[lZ,lZ,uy (π _),sV (by omega),k,lV,γV];grind
theorem IU {U W v:List Int} {j i:Nat} {c s:Int} (a:bA W) (d:W.length=U.length) (b:bA v) (n:0<=c) (l:c<=1) (h:j+i<U.length) (g:bA U)
  (e:∀m,(m<j\/j+i<=m)->bj W m 0=bj U m 0)
  (k:bk (prt W j i)+4294967296^i*c=bk (prt U j i)+bk (v.take i)) (o:s=bj W (j+i) 0+bj v i 0+c):
  bA (W.set (j+i) (s % 4294967296))/\(W.set (j+i) (s % 4294967296)).length=U.length/\(0<=s / 4294967296/\s / 4294967296<=1)/\
  (∀m,(m<j\/j+(i+1)<=m)->bj (W.set (j+i) (s % 4294967296)) m 0=bj U m 0)/\
  bk (prt (W.set (j+i) (s % 4294967296)) j (i+1))+4294967296^(i+1)*(s / 4294967296)=bk (prt U j (i+1))+bk (v.take (i+1)):=by
 have x:=eu b i;have y:=eu a (j+i);refine⟨nE a (by omega) (by omega),by simp[d],by omega,λm p=>by grind[pT],?_⟩;have f:=e (j+i) (.inr (π _));rw[lZ,lZ,uy (π _),sV (by omega),lV,γV];grind
theorem abx {v:List Int} {n:Nat} (a:2<=n) (b:v.length=n):bk v=bk (v.take (n - 2))+4294967296^(n - 2)*(bj v (n - 2) 0+4294967296*bj v (n - 1) 0):=by
 obtain⟨m,rfl⟩:∃m,n=m+2:=⟨n - 2,by omega⟩;grind[lV]
theorem aby {U:List Int} {j n:Nat} (a:2<=n):bk (prt U j (n+1))=bk (prt U j (n - 2))+4294967296^(n - 2)*(bj U (j+(n - 2)) 0+4294967296*(bj U (j+(n - 1)) 0+4294967296*bj U (j+n) 0)):=by
 obtain⟨m,rfl⟩:∃m,n=m+2:=⟨n - 2,by omega⟩;grind[lZ]
structure nG where
 U:List Int
 j:Nat
 len:Nat
 n:Nat
 v:List Int
def nG.x (a:nG):Int:=bk (prt a.U a.j (a.v.length+1))
def nG.ok (a:nG):Prop:=(bA a.U/\bA a.v)/\(a.len=a.v.length+1/\a.n=a.U.length)/\(2<=a.v.length/\a.j+a.v.length+1<=a.U.length/\a.U.length<=200000000000)/\
 2147483648<=bj a.v (a.v.length - 1) 0/\a.x<4294967296*bk a.v
def nG.row (a:nG):List Int:=js a.U a.j (ix (a.v.length+1) (a.x % bk a.v))
def IV:dH where
 f:=188;α:=nG;put a:=[.oc 0 a.j a.len a.n 1,.row (.i .u32) a.v];st a:=[.row (.i .u32) a.U 172 false];dec v o:=match v,o with
  |[.oc 0 j len n 1,v],[.row t l 172 false]=>match jH (.i .u32) v,iH t (.i .u32) l with
   |some v,some l=>some ⟨l,j,len,n,v⟩
   |_,_=>none
  |_,_=>none;ok v o a h:=by
  split at h
  ·split at h
   ·rename_i h1 h2;simp only[γ] at h;subst h;obtain⟨rfl,hh⟩:=mH h2;cases hh;exact⟨by simp only[gL,o8 h1],rfl⟩
   ·cases h
  ·cases h
 inj a b h1 h2:=by
  obtain⟨U,j,len,n,v⟩:=a;obtain⟨U',j',len',n',v'⟩:=b;simp only[gL,Γ,and_true] at h1;obtain⟨g1,g2⟩:=h1;have e2:=(dG (.i .u32)).inj _ _ g2;simp only[SV.g,AV.os.injEq,true_and,bp.sz,Nat.mul_one] at g1;simp only[gO,ξ,γv,bq.g,Γ,bR.cells.injEq,and_true] at h2;have hl:U=U':=by
   have hf:=congrArg List.length h2;rw[fe,fe] at hf;exact ly (.i .u32) (by simpa[bp.sz] using hf) h2
  obtain⟨q1,q2,q3⟩:=g1;subst q3;have:j=j':=by omega
  rw[e2,hl,q2,this]
 dom:=nG.ok;res a:=.si .u32 (a.x / bk a.v);out a:=[.row (.i .u32) a.row 172 false]
def IW (U:List Int):cj:=[.row (.i .u32) U 172 false]
def abz (a:nG):Nat->cG
 |4=> .inv (Int×Int) (λx=>⟨[(0,.oc 0 a.j a.len a.n 1),(1,.row (.i .u32) a.v),(5,.si .i64 a.v.length),(7,.si .u64 x.1),(8,.si .u64 x.2)],IW a.U⟩) (λs=>(iS s 7,iS s 8))
  (λx=>(0<=x.1/\x.1<=4294967297)/\(0<=x.2/\x.2<4294967296)/\x.1*bj a.v (a.v.length - 1) 0+x.2=bj a.U (a.j+(a.v.length - 1)) 0+4294967296*bj a.U (a.j+a.v.length) 0/\a.x<(x.1+1)*bk a.v) (λx=>x.1.toNat) λ_ _=> .look
 |10=> .inv (Int×Int×Int×Int×List Int) (λx=>⟨[(0,.oc 0 a.j a.len a.n 1),(1,.row (.i .u32) a.v),(5,.si .i64 a.v.length),(7,.si .u64 x.2.1),(9,.si .u64 x.2.2.1),(10,.si .u64 x.2.2.2.1),(82,.si .i64 a.v.length),(83,.si .i64 x.1)],IW x.2.2.2.2⟩)
  (λs=>(iS s 83,iS s 7,iS s 9,iS s 10,oS (.i .u32) s 0))
  (λx=>(0<=x.1/\x.1<=a.v.length)/\(0<=x.2.1/\x.2.1<4294967296)/\(a.x<(x.2.1+1)*bk a.v/\x.2.1*bk a.v<a.x+bk a.v)/\(0<=x.2.2.1/\x.2.2.1<4294967296)/\(0<=x.2.2.2.1/\x.2.2.2.1<=1)/\(bA x.2.2.2.2/\x.2.2.2.2.length=a.U.length)/\
   (∀m,(m<a.j\/a.j+x.1.toNat<=m)->bj x.2.2.2.2 m 0=bj a.U m 0)/\
   bk (prt x.2.2.2.2 a.j x.1.toNat)=bk (prt a.U a.j x.1.toNat) - x.2.1*bk (a.v.take x.1.toNat)+4294967296^x.1.toNat*(x.2.2.1+x.2.2.2.1)) (λx=>(a.v.length - x.1).toNat) λ_ _=> .look
 |23=> .inv (Int×Int×Int×List Int) (λx=>⟨[(0,.oc 0 a.j a.len a.n 1),(1,.row (.i .u32) a.v),(5,.si .i64 a.v.length),(7,.si .u64 x.2.1),(9,.si .u64 x.2.2.1),(134,.si .i64 a.v.length),(135,.si .i64 x.1)],IW x.2.2.2⟩)
  (λs=>(iS s 135,iS s 7,iS s 9,oS (.i .u32) s 0))
  (λx=>(0<=x.1/\x.1<=a.v.length)/\(0<=x.2.1/\x.2.1<4294967296)/\(a.x<x.2.1*bk a.v/\x.2.1*bk a.v<a.x+bk a.v)/\(0<=x.2.2.1/\x.2.2.1<=1)/\(bA x.2.2.2/\x.2.2.2.length=a.U.length)/\
   ∃W,(bA W/\W.length=a.U.length)/\(∀m,(m<a.j\/a.j+(a.v.length+1)<=m)->bj W m 0=bj a.U m 0)/\bk (prt W a.j (a.v.length+1))=a.x - x.2.1*bk a.v+4294967296^(a.v.length+1)/\
    (∀m,(m<a.j\/a.j+x.1.toNat<=m)->bj x.2.2.2 m 0=bj W m 0)/\bk (prt x.2.2.2 a.j x.1.toNat)+4294967296^x.1.toNat*x.2.2.1=bk (prt W a.j x.1.toNat)+bk (a.v.take x.1.toNat))
  (λx=>(a.v.length - x.1).toNat) λ_ _=> .look
 |_=> .look
theorem h169:ef Tryz.prog IV:=by
 refine lz (L:=[]) (W:=[]) IV abz (by simp) (by simp) ?_;rintro⟨U,j,len,n,v⟩ ⟨⟨hU,hv⟩,⟨e1,e2⟩,⟨hn,hj,hlU⟩,hv1,hx⟩;simp only at hU hv hn hj hlU hv1 hx e1 e2;subst e1 e2;refine bQ (let a:=(18446744073709551616:Int);let b:=(0:Int);let c:=(4294967296:Int);let d:=(1:Int);let e:=Ω;let f:=γd .i64;let g:=(32:Int);let h:=cu .i64;let k:=(9223372036854775808:Int);let l:=(4294967297:Int);let n:=(64:Int);let o:=bq.row;let p:=γB .i64 0;let q:=(63:Int);let r:=γB .i64;let D:=(↑v.length:Int);let y:=v.length+1;let F:=(↑y:Int);let B:=D - d;let Q:=bj v B.toNat b % a;let a7:=fY.nY .u64 (bj U (j+D.toNat) 0 % a*c % a) (bj U (j+B.toNat) 0 % a);let K:=a7.tdiv Q;let C:=SV.oc 0 j y U.length 1;let w:=bp.i .u32;let s:=(↑v.length:Int);let t:=f s;let a8:=γd .u64 K;let R:=a7.tmod Q;let a9:=γd .u64 R;let J:=o w U 172 false;let aa:=v.length - 1;let a3:=bj v aa b;let a4:=bj U (j+aa) 0+c*bj U (j+v.length) 0;let ab:=nG.mk U j y U.length v;let E:=ab.x;let L:=s - d;let aJ:=bj v L.toNat b % a;let M:=E+bk v;let S:=bk (prt U j 0);let I:=j+s.toNat;let ac:=γd .u32 (E / bk v);let ad:=o w ab.row 172 false;let ae:=c^y;let H:=s - (2:Int);U.length=U.length/\b<=D/\D<F/\j+y<=U.length/\U.length=U.length/\j+D.toNat<U.length/\b<=g/\g<=n/\h B/\U.length=U.length/\b<=B/\B<F/\j+y<=U.length/\U.length=U.length/\j+B.toNat<U.length/\h B/\b<=B/\B<D/\B.toNat<v.length/\Q≠b/\cu .u64 K/\h B/\b<=B/\B<D/\B.toNat<v.length/\Q≠b/\(((C.same C/\(e w v).same (e w v)/\(f D).same t/\a8.same a8/\a9.same a9/\True)/\J.same J/\True)/\(b<=K/\K<=l)/\(b<=R/\R<c)/\K*a3+R=a4/\E<(K+d)*bk v)/\∀(x:Int×Int),let N:=(x.snd+aJ) % a;let af:=decide (c<=N);let G:=(x.fst - d) % a;let T:=γd .u64 G;let ag:=γd .u64 N;let ah:=decide (c<=x.fst);let ai:=γd .u64 x.fst;let aj:=∀(x:Int×Int×Int×Int×List Int),let V:=x.snd.fst*bk v;let z:=x.snd.snd.snd.snd;let X:=x.snd.snd.snd.fst;let Y:=x.snd.snd.fst;let ak:=((bj z I b % a - Y) % a - X) % a;let O:=j+x.fst.toNat;let Z:=x.fst+d;let a0:=γd .u64 x.snd.fst;let al:=(x.snd.fst*(bj v x.fst.toNat b % a) % a+Y) % a;let am:=al / c;let an:=γd .u64 am;let ao:=fY.qx .u64 al (4294967295:Int);let ap:=((bj z O b % a - ao) % a - X) % a;let aq:=ap / k;let ar:=γd .u64 aq;let au:=f Z;let P:=z.set I (ak % c);let av:=λ(u u_1 u_2:Int) (u_3:List Int) ↦(b<=u/\u<=s)/\(b<=x.snd.fst/\x.snd.fst<c)/\(E<(x.snd.fst+d)*bk v/\V<M)/\(b<=u_1/\u_1<c)/\(b<=u_2/\u_2<=d)/\(bA u_3/\u_3.length=U.length)/\(∀(m:Nat),m<j\/j+u.toNat<=m->bj u_3 m b=bj U m b)/\bk (prt u_3 j u.toNat)=bk (prt U j u.toNat) - x.snd.fst*bk (Δ u.toNat v)+c^u.toNat*(u_1+u_2);let aw:=λ(u:Nat) (u_1:Int) ↦let ax:=o w (z.set u (((bj z u b % a - u_1) % a - X) % a % c)) 172 false;ax.same ax/\True;let ay:=λ(u:Bool) ↦decide (ak / k=b)=u;av x.fst Y X z->(decide (x.fst<s)=true->b<=x.fst/\x.fst<D/\x.fst.toNat<v.length/\b<=g/\g<=n/\U.length=z.length/\b<=x.fst/\x.fst<F/\j+y<=U.length/\U.length=z.length/\O<z.length/\b<=q/\q<=n/\U.length=z.length/\b<=x.fst/\x.fst<F/\j+y<=U.length/\U.length=z.length/\O<z.length/\h Z/\((C.same C/\(e w v).same (e w v)/\t.same t/\a0.same a0/\an.same an/\ar.same ar/\t.same t/\au.same au/\True)/\aw O ao)/\av Z am aq (z.set O (ap % c))/\(s - Z).toNat<(s - x.fst).toNat)/\(decide (x.fst<s)=false->U.length=z.length/\b<=s/\s<F/\j+y<=U.length/\U.length=z.length/\I<z.length/\U.length=z.length/\b<=s/\s<F/\j+y<=U.length/\U.length=z.length/\I<z.length/\b<=q/\q<=n/\(ay true->(γd .u32 (x.snd.fst % c)).same ac/\(o w P 172 false).same ad/\True)/\(ay false->(((C.same C/\(e w v).same (e w v)/\t.same t/\a0.same a0/\(γB .u64 0).same (γd .u64 0)/\t.same t/\(p).same (f 0)/\True)/\aw I Y)/\(b<=b/\b<=s)/\(b<=x.snd.fst/\x.snd.fst<c)/\(E<V/\V<M)/\(b<=b/\b<=d)/\(bA P/\P.length=U.length)/\∃(W:List Int),(bA W/\W.length=U.length)/\(∀(m:Nat),m<j\/j+y<=m->bj W m b=bj U m b)/\bk (prt W j y)=E - V+ae/\(∀(m:Nat),m<j\/j+0<=m->bj P m b=bj W m b)/\bk (prt P j 0)+b=bk (prt W j 0)+bk [])/\∀(x:Int×Int×Int×List Int),let a5:=x.snd.fst*bk v;let a6:=x.snd.snd.fst;let A:=x.snd.snd.snd;let a1:=j+x.fst.toNat;let a2:=x.fst+d;let az:=γd .u64 x.snd.fst;let aA:=((bj A a1 b % a+bj v x.fst.toNat b % a) % a+a6) % a;let aB:=aA / c;let aC:=γd .u64 aB;let aD:=f a2;let aE:=A.set a1 (aA % c);let aF:=o w aE 172 false;let aG:=λ(u u_1:Int) (u_2:List Int) ↦(b<=u/\u<=s)/\(b<=x.snd.fst/\x.snd.fst<c)/\(E<a5/\a5<M)/\(b<=u_1/\u_1<=d)/\(bA u_2/\u_2.length=U.length)/\∃(W:List Int),(bA W/\W.length=U.length)/\(∀(m:Nat),m<j\/j+y<=m->bj W m b=bj U m b)/\bk (prt W j y)=E - a5+ae/\(∀(m:Nat),m<j\/j+u.toNat<=m->bj u_2 m b=bj W m b)/\bk (prt u_2 j u.toNat)+c^u.toNat*u_1=bk (prt W j u.toNat)+bk (Δ u.toNat v);aG x.fst a6 A->(decide (x.fst<s)=true->U.length=A.length/\b<=x.fst/\x.fst<F/\j+y<=U.length/\U.length=A.length/\a1<A.length/\b<=x.fst/\x.fst<D/\x.fst.toNat<v.length/\b<=g/\g<=n/\U.length=A.length/\b<=x.fst/\x.fst<F/\j+y<=U.length/\U.length=A.length/\a1<A.length/\h a2/\((C.same C/\(e w v).same (e w v)/\t.same t/\az.same az/\aC.same aC/\t.same t/\aD.same aD/\True)/\aF.same aF/\True)/\aG a2 aB aE/\(s - a2).toNat<(s - x.fst).toNat)/\(decide (x.fst<s)=false->U.length=A.length/\b<=s/\s<F/\j+y<=U.length/\U.length=A.length/\I<A.length/\U.length=A.length/\b<=s/\s<F/\j+y<=U.length/\U.length=A.length/\I<A.length/\(γd .u32 ((x.snd.fst - d) % a % c)).same ac/\(o w (A.set I ((bj A I b+a6 % c) % c)) 172 false).same ad/\True)));let aH:=h L/\b<=L/\L<D/\L.toNat<v.length/\(af=true->(((C.same C/\(e w v).same (e w v)/\t.same t/\T.same T/\(γB .u64 0).same (γd .u64 0)/\(γB .u64 0).same (γd .u64 0)/\t.same t/\(p).same (f 0)/\True)/\J.same J/\True)/\(b<=b/\b<=s)/\(b<=G/\G<c)/\(E<(G+d)*bk v/\G*bk v<M)/\(b<=b/\b<c)/\(b<=b/\b<=d)/\(bA U/\U.length=U.length)/\(∀(m:Nat),m<j\/j+0<=m->bj U m b=bj U m b)/\S=S - G*bk []+b)/\aj)/\(af=false->((C.same C/\(e w v).same (e w v)/\t.same t/\T.same T/\ag.same ag/\True)/\J.same J/\True)/\((b<=G/\G<=l)/\(b<=N/\N<c)/\G*a3+N=a4/\E<(G+d)*bk v)/\G.toNat<x.fst.toNat);let aI:=λ(u:Bool) ↦decide (fY.nY .u64 (x.snd*c % a) (bj U (j+H.toNat) 0 % a)<x.fst*(bj v H.toNat b % a) % a)=u;(b<=x.fst/\x.fst<=l)/\(b<=x.snd/\x.snd<c)/\x.fst*a3+x.snd=a4/\E<(x.fst+d)*bk v->(ah=true->aH)/\(ah=false->h H/\b<=H/\H<D/\H.toNat<v.length/\b<=g/\g<=n/\h H/\U.length=U.length/\b<=H/\H<F/\j+y<=U.length/\U.length=U.length/\j+H.toNat<U.length/\(aI true->aH)/\(aI false->(((C.same C/\(e w v).same (e w v)/\t.same t/\ai.same ai/\(γB .u64 0).same (γd .u64 0)/\(γB .u64 0).same (γd .u64 0)/\t.same t/\(p).same (f 0)/\True)/\J.same J/\True)/\(b<=b/\b<=s)/\(b<=x.fst/\x.fst<c)/\(E<(x.fst+d)*bk v/\x.fst*bk v<M)/\(b<=b/\b<c)/\(b<=b/\b<=d)/\(bA U/\U.length=U.length)/\(∀(m:Nat),m<j\/j+0<=m->bj U m b=bj U m b)/\S=S - x.fst*bk []+b)/\aj))) (by kernel_rfl) ?_;simp only[vcs];have t1:((v.length:Int) - 1).toNat=v.length - 1:=by omega
 have t2:((v.length:Int) - 2).toNat=v.length - 2:=by omega
 have t3:((v.length:Int)).toNat=v.length:=by omega
 have yc:=abx hn rfl;have yd:=@aby U j v.length hn;have dv1:=eu hv (v.length - 1);have v7:=eu hv (v.length - 2);have Q9:=eu hU (j+v.length);have IX:=eu hU (j+(v.length - 1));have DZ:=eu hU (j+(v.length - 2));have m1:bj v (v.length - 1) 0 % 18446744073709551616=bj v (v.length - 1) 0:=by omega
 have m2:bj v (v.length - 2) 0 % 18446744073709551616=bj v (v.length - 2) 0:=by omega
 have m3:bj U (j+v.length) 0 % 18446744073709551616=bj U (j+v.length) 0:=by omega
 have m4:bj U (j+(v.length - 1)) 0 % 18446744073709551616=bj U (j+(v.length - 1)) 0:=by omega
 have m5:bj U (j+(v.length - 2)) 0 % 18446744073709551616=bj U (j+(v.length - 2)) 0:=by omega
 have m6:bj U (j+v.length) 0*4294967296 % 18446744073709551616=bj U (j+v.length) 0*4294967296:=by omega
 have hor:=IC Q9.1 Q9.2 IX.1 IX.2;have htop:0<=bj U (j+v.length) 0*4294967296+bj U (j+(v.length - 1)) 0:=by omega
 have hx':bk (prt U j (v.length+1))<4294967296*bk v:=hx;have hP:=pow_pos (v.length - 2);have Av:=fj (nC hv (v.length - 2));have Aw:=ou (nC hv (v.length - 2));rw[List.length_take,Nat.min_eq_left (by omega)] at Aw;have oZ:=fj (uz hU (j:=j) (k:=v.length - 2));have IY:=vY hU (j:=j) (k:=v.length - 2);have hV0:=fj hv;have hX0:=fj (uz hU (j:=j) (k:=v.length+1));have htp:=abw hP yc yd Aw oZ DZ.1 IX.1 v7.2 hx';have hax:(nG.mk U j (v.length+1) U.length v).x=bk (prt U j (v.length+1)):=rfl;simp only[hax,t1,t2,t3,m1,m2,m3,m4,m5,m6,hor,ε6 htop,ε7 htop];generalize abC:bj v (v.length - 1) 0=v1 at*;generalize abD:bj v (v.length - 2) 0=v2 at*;generalize aiH:bj U (j+v.length) 0=u0 at*;generalize abE:bj U (j+(v.length - 1)) 0=u1 at*;generalize abG:bj U (j+(v.length - 2)) 0=u2 at*;have hqr:=εf (u0*4294967296+u1) v1;have hr0:=δL (u0*4294967296+u1) (show v1≠0 by omega);have hr1:=δo (u0*4294967296+u1) (show 0<v1 by omega);have hg0:0<=(u0*4294967296+u1) / v1:=δM htop (by omega);generalize hge:(u0*4294967296+u1) / v1=g0 at*;generalize hre:(u0*4294967296+u1) % v1=r0 at*;have hg1:g0<=4294967297:=by
  by_cases h:g0<=4294967297;·exact h
  ·exfalso;have:=Ξ (show(4294967298:Int)<=g0 by omega) (show 0<=v1 by omega);omega
 have Rb:g0*v1+r0=u1+4294967296*u0:=by rw[δ3 g0];omega
 have hst:=abv hP yc yd Av IY v7.1 DZ.2 hg0 Rb hr1;have hin:cu .u64 g0:=u64_in hg0 (by omega);repeat refine γl (by omega) ?_
 clear t1 t2 t3 m1 m2 m3 m4 m5 m6 hor htop hge hre hqr hr0 hr1 hg0 hg1 Rb hst hin abC abD abE abG hx;rintro⟨g,r⟩ ⟨⟨g0',g1'⟩,⟨r0',r1'⟩,hgr,hgx⟩;simp only at g0' g1' r0' r1' hgr hgx ⊢;have D1:0<g+1:=by omega
 have e1:(r+v1) % 18446744073709551616=r+v1:=by omega
 have e2:r*4294967296 % 18446744073709551616=r*4294967296:=by omega
 have gv0:0<=g*v2:=γx g0' v7.1;have gv1:g*v2<=4294967297*4294967295:=δF (by omega) (by omega) v7.1 (by omega);have e3:g*v2 % 18446744073709551616=g*v2:=by omega
 have hor2:=IC r0' r1' DZ.1 DZ.2;have IZ:g*v1+r=u1+4294967296*u0:=hgr;have Re:4294967296<=r+v1->g<=4294967296:=λh=>by
  by_cases hg:g<=4294967296;·exact hg
  ·have:g=4294967297:=by omega
   subst this;omega
 have dec:(4294967296<=g\/r*4294967296+u2<g*v2)->(bk (prt U j (v.length+1))<g*bk v/\(g - 1) % 18446744073709551616=g - 1/\0<=g - 1/\(g - 1)*v1+(r+v1)=u1+4294967296*u0):=λh=>by
  have h1:=abu hP yc yd Av IY hx' hV0 g0' IZ h;have h2:g≠0:=by
   rintro rfl;omega
  refine⟨h1,by omega,by omega,?_⟩;rw[ζU,εx];omega
 simp only[e1,e2,e3,hor2];have brk:(4294967296<=g\/r*4294967296+u2<g*v2)->4294967296<=r+v1->∃gg,gg=(g - 1) % 18446744073709551616/\(0<=gg/\gg<4294967296)/\bk (prt U j (v.length+1))<(gg+1)*bk v/\gg*bk v<bk (prt U j (v.length+1))+bk v:=λh hb=>by
  obtain⟨k1,k2,k3,k4⟩:=dec h;have k5:=Re hb;rw[k2];refine⟨_,rfl,by omega,by rw[show g - 1+1=g by omega];exact k1,Q8 hP yc yd Av Aw oZ hv1 v7.1 k3 (by omega) k4 ?_⟩;have:=δF (show g - 1<=4294967295 by omega) (show v2<=4294967295 by omega) v7.1 (by omega);omega
 have Ax:(4294967296<=g\/r*4294967296+u2<g*v2)->¬4294967296<=r+v1->(0<=(g - 1) % 18446744073709551616/\(g - 1) % 18446744073709551616<=4294967297)/\(g - 1) % 18446744073709551616*v1+(r+v1)=u1+4294967296*u0/\bk (prt U j (v.length+1))<((g - 1) % 18446744073709551616+1)*bk v/\((g - 1) % 18446744073709551616).toNat<g.toNat:=λh hb=>by
  obtain⟨k1,k2,k3,k4⟩:=dec h;rw[k2];exact⟨by omega,k4,by rw[show g - 1+1=g by omega];exact k1,by omega⟩
 have ext:¬4294967296<=g->¬r*4294967296+u2<g*v2->∃gg,gg=g/\(0<=gg/\gg<4294967296)/\bk (prt U j (v.length+1))<(gg+1)*bk v/\gg*bk v<bk (prt U j (v.length+1))+bk v:=λh h2=>
  ⟨_,rfl,by omega,hgx,Q8 hP yc yd Av Aw oZ hv1 v7.1 g0' (by omega) IZ (by omega)⟩;clear IZ D1 e1 e2 e3 gv0 gv1 hor2 yc yd Av Aw oZ IY Re dec htp;refine⟨λhB=>?_,λhB=>?_⟩
 ·refine⟨by omega,by omega,by omega,by omega,?_⟩;refine⟨λhb=>?_,λhb=>?_⟩
  ·obtain⟨gg,hgg,f0,f2,f3⟩:=brk (.inl hB) hb;rw[<-hgg];clear hB hb;clear hgg brk Ax ext hgx hgr;refine⟨?_,?_⟩
   ·repeat' refine γl ?_ ?_
    all_goals first|omega|exact hU|exact f2|exact f3|exact λ_ _=>trivial|(simp only[bk];omega)
   clear f0 f2 f3;rintro⟨i,ga,c,b,R⟩ ⟨⟨i0,i1⟩,⟨ox,qH⟩,⟨f2,f3⟩,⟨c0,c1⟩,⟨b0,b1⟩,⟨hR,hRl⟩,ho,he⟩;simp only at i0 i1 ox qH f2 f3 c0 c1 b0 b1 hR hRl ho he ⊢;refine⟨λlW=>?_,λnD=>?_⟩
   ·have x:=eu hv i.toNat;have y:=eu hR (j+i.toNat);have Rf:0<=ga*bj v i.toNat 0:=γx ox x.1;have Rh:ga*bj v i.toNat 0<=4294967295*4294967295:=δF (by omega) (by omega) x.1 (by omega);have q1:bj v i.toNat 0 % 18446744073709551616=bj v i.toNat 0:=by omega
    have q2:bj R (j+i.toNat) 0 % 18446744073709551616=bj R (j+i.toNat) 0:=by omega
    have q3:(ga*bj v i.toNat 0 % 18446744073709551616+c) % 18446744073709551616=ga*bj v i.toNat 0+c:=by omega
    have hi1:(i+1).toNat=i.toNat+1:=by omega
    rw[q1,q2,q3,IP (by omega) (by omega),hi1];generalize hq:((bj R (j+i.toNat) 0 - (ga*bj v i.toNat 0+c) % 4294967296) % 18446744073709551616 - b) % 18446744073709551616=q;obtain⟨k1,k2,k3,k4,k5⟩:=IQ (d:=q % 4294967296) (e:=q / 9223372036854775808) hR hRl hv ox qH c0 c1 b0 b1 (show j+i.toNat<U.length by omega) ho he (by omega) (by omega);repeat' refine γl ?_ ?_
    all_goals first|omega|exact k1|exact k2|exact k3|exact k4|exact k5|exact f2|exact f3
   ·have hi:i.toNat=v.length:=by omega
    rw[hi,φ] at he;rw[hi] at ho;have hun:=ho (j+v.length) (.inr (π _));have du:=eu hU (j+v.length);have q2:bj R (j+v.length) 0 % 18446744073709551616=bj R (j+v.length) 0:=by rw[hun];omega
    have qI:=@lZ U j v.length;rw[q2];generalize hq:((bj R (j+v.length) 0 - c) % 18446744073709551616 - b) % 18446744073709551616=q;have kK:bA (R.set (j+v.length) (q % 4294967296)):=nE hR (by omega) (by omega);have hlen:(R.set (j+v.length) (q % 4294967296)).length=U.length:=by simp[hRl]
    have hout:∀m,(m<j\/j+(v.length+1)<=m)->bj (R.set (j+v.length) (q % 4294967296)) m 0=bj U m 0:=λm hm=>by rw[pT (by omega)];exact ho m (by omega)
    have hval:bk (prt (R.set (j+v.length) (q % 4294967296)) j (v.length+1))=bk (prt U j (v.length+1)) - ga*bk v+4294967296^(v.length+1)*(q / 9223372036854775808):=by
     rw[lZ,uy (π _),sV (by omega),he,qI,γV];have hd:q % 4294967296 - 4294967296*(q / 9223372036854775808)=bj U (j+v.length) 0 - c - b:=by rw[hun] at hq;omega
     generalize (4294967296:Int)^v.length=B;have e:B*4294967296*(q / 9223372036854775808)=B*(q % 4294967296+c+b - bj U (j+v.length) 0):=by rw[δl];congr 1;omega
     rw[e];simp only[εw,εK];omega
    generalize hW:R.set (j+v.length) (q % 4294967296)=W at*;have hbd:=vY kK (j:=j) (k:=v.length+1);have hnn:=fj (uz kK (j:=j) (k:=v.length+1));have q3:0<=q/\q<18446744073709551616:=by omega
    clear hq hun du q2 he ho hR;repeat refine γl (by omega) ?_
    refine⟨λhz=>?_,λhz=>?_⟩
    ·rw[hz,δG,εh] at hval;obtain⟨w1,w2⟩:=vZ (q:=ga) (show ga*bk v<=bk (prt U j (v.length+1)) by omega) f2;refine⟨by rw[w1];omega,?_⟩;have hfin:W=js U j (ix (v.length+1) (bk (prt U j (v.length+1)) % bk v)):=yb kK hlen (by omega) hout (by rw[hval,w2]);rw[hfin];rfl
    ·have hq1:q / 9223372036854775808=1:=by omega
     rw[hq1,ε0] at hval;have f4:bk (prt U j (v.length+1))<ga*bk v:=by omega
     refine⟨?_,?_⟩
     ·repeat' refine γl ?_ ?_
      all_goals first|omega|exact kK|exact hlen|exact⟨W,⟨kK,hlen⟩,hout,hval,λ_ _=>rfl,by simp only[bk]⟩
     clear kK hlen hout hval hW hbd hnn q3 hz hq1 f4 f2 f3 c0 c1 b0 b1 i0 i1 ox qH;rintro⟨i2,gb,c2,R2⟩ ⟨⟨i0,i1⟩,⟨Az,AA⟩,⟨f5,f6⟩,⟨c0,c1⟩,⟨hR2,qJ⟩,W2,⟨hW2,uA⟩,ho2,uB,ho3,qK⟩;simp only at i0 i1 Az AA f5 f6 c0 c1 hR2 qJ ho3 qK ⊢;refine⟨λlW=>?_,λnD=>?_⟩
     ·have x:=eu hv i2.toNat;have y:=eu hR2 (j+i2.toNat);have hi1:(i2+1).toNat=i2.toNat+1:=by omega
      rw[hi1];have hs:((bj R2 (j+i2.toNat) 0 % 18446744073709551616+bj v i2.toNat 0 % 18446744073709551616) % 18446744073709551616+c2) % 18446744073709551616=bj R2 (j+i2.toNat) 0+bj v i2.toNat 0+c2:=by omega
      rw[hs];obtain⟨k1,k2,k3,k4,k5⟩:=IU hR2 (qJ.trans uA.symm) hv c0 c1 (show j+i2.toNat<W2.length by omega) hW2 ho3 qK rfl;repeat' refine γl ?_ ?_
      all_goals first|omega|exact k1|exact f5|exact f6|exact⟨W2,⟨hW2,uA⟩,ho2,uB,k4,k5⟩
     ·have hi2:i2.toNat=v.length:=by omega
      rw[hi2,φ] at qK;rw[hi2] at ho3;have hun:=ho3 (j+v.length) (.inr (π _));have du:=eu hW2 (j+v.length);have qI:=@lZ W2 j v.length;have hc2:c2 % 4294967296=c2:=by omega
      rw[hc2,hun];have hF:bA (R2.set (j+v.length) ((bj W2 (j+v.length) 0+c2) % 4294967296)):=nE hR2 (by omega) (by omega);have AB:(R2.set (j+v.length) ((bj W2 (j+v.length) 0+c2) % 4294967296)).length=U.length:=by simp[qJ]
      have AE:∀m,(m<j\/j+(v.length+1)<=m)->bj (R2.set (j+v.length) ((bj W2 (j+v.length) 0+c2) % 4294967296)) m 0=bj U m 0:=λm hm=>by rw[pT (by omega),ho3 m (by omega)];exact ho2 m hm
      have qL:bk (prt (R2.set (j+v.length) ((bj W2 (j+v.length) 0+c2) % 4294967296)) j (v.length+1))=bk (prt U j (v.length+1)) - gb*bk v+4294967296^(v.length+1)+bk v - 4294967296^(v.length+1)*((bj W2 (j+v.length) 0+c2) / 4294967296):=by
       rw[lZ,uy (π _),sV (by omega),<-uB,qI,γV];generalize (4294967296:Int)^v.length=B at*;have e:B*4294967296*((bj W2 (j+v.length) 0+c2) / 4294967296)=B*(bj W2 (j+v.length) 0+c2 - (bj W2 (j+v.length) 0+c2) % 4294967296):=by rw[δl];congr 1;omega
       rw[e];simp only[εw,εK];omega
      have hbd:=vY hF (j:=j) (k:=v.length+1);have hk:(bj W2 (j+v.length) 0+c2) / 4294967296=1:=by
       by_cases h:(bj W2 (j+v.length) 0+c2) / 4294967296=1;·exact h
       ·have h0:(bj W2 (j+v.length) 0+c2) / 4294967296=0:=by omega
        rw[h0,δG] at qL;omega
      rw[hk,ε0] at qL;have e1:(gb - 1)*bk v=gb*bk v - bk v:=by rw[ζU,εx]
      obtain⟨w1,w2⟩:=vZ (q:=gb - 1) (show(gb - 1)*bk v<=bk (prt U j (v.length+1)) by omega) (by rw[show gb - 1+1=gb by omega];exact f5);have D1:0<gb:=by
       by_cases h:0<gb;·exact h
       ·have:gb=0:=by omega
        subst this;omega
      have hfin:R2.set (j+v.length) ((bj W2 (j+v.length) 0+c2) % 4294967296)=js U j (ix (v.length+1) (bk (prt U j (v.length+1)) % bk v)):=yb hF AB (by omega) AE (by rw[qL,w2,e1];omega);repeat refine γl (by omega) ?_
      rw[hfin];rfl
  ·obtain⟨k1,k2,k3,k4⟩:=Ax (.inl hB) hb;repeat' refine γl ?_ ?_
   all_goals first|omega|exact k2|exact k3
 ·repeat refine γl (by omega) ?_
  refine⟨λhc=>?_,λhc=>?_⟩
  ·repeat refine γl (by omega) ?_
   refine⟨λhb=>?_,λhb=>?_⟩
   ·obtain⟨gg,hgg,f0,f2,f3⟩:=brk (.inr hc) hb;rw[<-hgg];clear hB hb hc;clear hgg brk Ax ext hgx hgr;refine⟨?_,?_⟩
    ·repeat' refine γl ?_ ?_
     all_goals first|omega|exact hU|exact f2|exact f3|exact λ_ _=>trivial|(simp only[bk];omega)
    clear f0 f2 f3;rintro⟨i,ga,c,b,R⟩ ⟨⟨i0,i1⟩,⟨ox,qH⟩,⟨f2,f3⟩,⟨c0,c1⟩,⟨b0,b1⟩,⟨hR,hRl⟩,ho,he⟩;simp only at i0 i1 ox qH f2 f3 c0 c1 b0 b1 hR hRl ho he ⊢;refine⟨λlW=>?_,λnD=>?_⟩
    ·have x:=eu hv i.toNat;have y:=eu hR (j+i.toNat);have Rf:0<=ga*bj v i.toNat 0:=γx ox x.1;have Rh:ga*bj v i.toNat 0<=4294967295*4294967295:=δF (by omega) (by omega) x.1 (by omega);have q1:bj v i.toNat 0 % 18446744073709551616=bj v i.toNat 0:=by omega
     have q2:bj R (j+i.toNat) 0 % 18446744073709551616=bj R (j+i.toNat) 0:=by omega
     have q3:(ga*bj v i.toNat 0 % 18446744073709551616+c) % 18446744073709551616=ga*bj v i.toNat 0+c:=by omega
     have hi1:(i+1).toNat=i.toNat+1:=by omega
     rw[q1,q2,q3,IP (by omega) (by omega),hi1];generalize hq:((bj R (j+i.toNat) 0 - (ga*bj v i.toNat 0+c) % 4294967296) % 18446744073709551616 - b) % 18446744073709551616=q;obtain⟨k1,k2,k3,k4,k5⟩:=IQ (d:=q % 4294967296) (e:=q / 9223372036854775808) hR hRl hv ox qH c0 c1 b0 b1 (show j+i.toNat<U.length by omega) ho he (by omega) (by omega);repeat' refine γl ?_ ?_
     all_goals first|omega|exact k1|exact k2|exact k3|exact k4|exact k5|exact f2|exact f3
    ·have hi:i.toNat=v.length:=by omega
     rw[hi,φ] at he;rw[hi] at ho;have hun:=ho (j+v.length) (.inr (π _));have du:=eu hU (j+v.length);have q2:bj R (j+v.length) 0 % 18446744073709551616=bj R (j+v.length) 0:=by rw[hun];omega
     have qI:=@lZ U j v.length;rw[q2];generalize hq:((bj R (j+v.length) 0 - c) % 18446744073709551616 - b) % 18446744073709551616=q;have kK:bA (R.set (j+v.length) (q % 4294967296)):=nE hR (by omega) (by omega);have hlen:(R.set (j+v.length) (q % 4294967296)).length=U.length:=by simp[hRl]
     have hout:∀m,(m<j\/j+(v.length+1)<=m)->bj (R.set (j+v.length) (q % 4294967296)) m 0=bj U m 0:=λm hm=>by rw[pT (by omega)];exact ho m (by omega)
     have hval:bk (prt (R.set (j+v.length) (q % 4294967296)) j (v.length+1))=bk (prt U j (v.length+1)) - ga*bk v+4294967296^(v.length+1)*(q / 9223372036854775808):=by
      rw[lZ,uy (π _),sV (by omega),he,qI,γV];have hd:q % 4294967296 - 4294967296*(q / 9223372036854775808)=bj U (j+v.length) 0 - c - b:=by rw[hun] at hq;omega
      generalize (4294967296:Int)^v.length=B;have e:B*4294967296*(q / 9223372036854775808)=B*(q % 4294967296+c+b - bj U (j+v.length) 0):=by rw[δl];congr 1;omega
      rw[e];simp only[εw,εK];omega
     generalize hW:R.set (j+v.length) (q % 4294967296)=W at*;have hbd:=vY kK (j:=j) (k:=v.length+1);have hnn:=fj (uz kK (j:=j) (k:=v.length+1));have q3:0<=q/\q<18446744073709551616:=by omega
     clear hq hun du q2 he ho hR;repeat refine γl (by omega) ?_
     refine⟨λhz=>?_,λhz=>?_⟩
     ·rw[hz,δG,εh] at hval;obtain⟨w1,w2⟩:=vZ (q:=ga) (show ga*bk v<=bk (prt U j (v.length+1)) by omega) f2;refine⟨by rw[w1];omega,?_⟩;have hfin:W=js U j (ix (v.length+1) (bk (prt U j (v.length+1)) % bk v)):=yb kK hlen (by omega) hout (by rw[hval,w2]);rw[hfin];rfl
     ·have hq1:q / 9223372036854775808=1:=by omega
      rw[hq1,ε0] at hval;have f4:bk (prt U j (v.length+1))<ga*bk v:=by omega
      refine⟨?_,?_⟩
      ·repeat' refine γl ?_ ?_
       all_goals first|omega|exact kK|exact hlen|exact⟨W,⟨kK,hlen⟩,hout,hval,λ_ _=>rfl,by simp only[bk]⟩
      clear kK hlen hout hval hW hbd hnn q3 hz hq1 f4 f2 f3 c0 c1 b0 b1 i0 i1 ox qH;rintro⟨i2,gb,c2,R2⟩ ⟨⟨i0,i1⟩,⟨Az,AA⟩,⟨f5,f6⟩,⟨c0,c1⟩,⟨hR2,qJ⟩,W2,⟨hW2,uA⟩,ho2,uB,ho3,qK⟩;simp only at i0 i1 Az AA f5 f6 c0 c1 hR2 qJ ho3 qK ⊢;refine⟨λlW=>?_,λnD=>?_⟩
      ·have x:=eu hv i2.toNat;have y:=eu hR2 (j+i2.toNat);have hi1:(i2+1).toNat=i2.toNat+1:=by omega
       rw[hi1];have hs:((bj R2 (j+i2.toNat) 0 % 18446744073709551616+bj v i2.toNat 0 % 18446744073709551616) % 18446744073709551616+c2) % 18446744073709551616=bj R2 (j+i2.toNat) 0+bj v i2.toNat 0+c2:=by omega
       rw[hs];obtain⟨k1,k2,k3,k4,k5⟩:=IU hR2 (qJ.trans uA.symm) hv c0 c1 (show j+i2.toNat<W2.length by omega) hW2 ho3 qK rfl;repeat' refine γl ?_ ?_
       all_goals first|omega|exact k1|exact f5|exact f6|exact⟨W2,⟨hW2,uA⟩,ho2,uB,k4,k5⟩
      ·have hi2:i2.toNat=v.length:=by omega
       rw[hi2,φ] at qK;rw[hi2] at ho3;have hun:=ho3 (j+v.length) (.inr (π _));have du:=eu hW2 (j+v.length);have qI:=@lZ W2 j v.length;have hc2:c2 % 4294967296=c2:=by omega
       rw[hc2,hun];have hF:bA (R2.set (j+v.length) ((bj W2 (j+v.length) 0+c2) % 4294967296)):=nE hR2 (by omega) (by omega);have AB:(R2.set (j+v.length) ((bj W2 (j+v.length) 0+c2) % 4294967296)).length=U.length:=by simp[qJ]
       have AE:∀m,(m<j\/j+(v.length+1)<=m)->bj (R2.set (j+v.length) ((bj W2 (j+v.length) 0+c2) % 4294967296)) m 0=bj U m 0:=λm hm=>by rw[pT (by omega),ho3 m (by omega)];exact ho2 m hm
       have qL:bk (prt (R2.set (j+v.length) ((bj W2 (j+v.length) 0+c2) % 4294967296)) j (v.length+1))=bk (prt U j (v.length+1)) - gb*bk v+4294967296^(v.length+1)+bk v - 4294967296^(v.length+1)*((bj W2 (j+v.length) 0+c2) / 4294967296):=by
        rw[lZ,uy (π _),sV (by omega),<-uB,qI,γV];generalize (4294967296:Int)^v.length=B at*;have e:B*4294967296*((bj W2 (j+v.length) 0+c2) / 4294967296)=B*(bj W2 (j+v.length) 0+c2 - (bj W2 (j+v.length) 0+c2) % 4294967296):=by rw[δl];congr 1;omega
        rw[e];simp only[εw,εK];omega
       have hbd:=vY hF (j:=j) (k:=v.length+1);have hk:(bj W2 (j+v.length) 0+c2) / 4294967296=1:=by
        by_cases h:(bj W2 (j+v.length) 0+c2) / 4294967296=1;·exact h
        ·have h0:(bj W2 (j+v.length) 0+c2) / 4294967296=0:=by omega
         rw[h0,δG] at qL;omega
       rw[hk,ε0] at qL;have e1:(gb - 1)*bk v=gb*bk v - bk v:=by rw[ζU,εx]
       obtain⟨w1,w2⟩:=vZ (q:=gb - 1) (show(gb - 1)*bk v<=bk (prt U j (v.length+1)) by omega) (by rw[show gb - 1+1=gb by omega];exact f5);have D1:0<gb:=by
        by_cases h:0<gb;·exact h
        ·have:gb=0:=by omega
         subst this;omega
       have hfin:R2.set (j+v.length) ((bj W2 (j+v.length) 0+c2) % 4294967296)=js U j (ix (v.length+1) (bk (prt U j (v.length+1)) % bk v)):=yb hF AB (by omega) AE (by rw[qL,w2,e1];omega);repeat refine γl (by omega) ?_
       rw[hfin];rfl
   ·obtain⟨k1,k2,k3,k4⟩:=Ax (.inr hc) hb;repeat' refine γl ?_ ?_
    all_goals first|omega|exact k2|exact k3
  ·obtain⟨gg,hgg,f0,f2,f3⟩:=ext hB hc;rw[<-hgg];clear hB hc;clear hgg brk Ax ext hgx hgr;refine⟨?_,?_⟩
   ·repeat' refine γl ?_ ?_
    all_goals first|omega|exact hU|exact f2|exact f3|exact λ_ _=>trivial|(simp only[bk];omega)
   clear f0 f2 f3;rintro⟨i,ga,c,b,R⟩ ⟨⟨i0,i1⟩,⟨ox,qH⟩,⟨f2,f3⟩,⟨c0,c1⟩,⟨b0,b1⟩,⟨hR,hRl⟩,ho,he⟩;simp only at i0 i1 ox qH f2 f3 c0 c1 b0 b1 hR hRl ho he ⊢;refine⟨λlW=>?_,λnD=>?_⟩
   ·have x:=eu hv i.toNat;have y:=eu hR (j+i.toNat);have Rf:0<=ga*bj v i.toNat 0:=γx ox x.1;have Rh:ga*bj v i.toNat 0<=4294967295*4294967295:=δF (by omega) (by omega) x.1 (by omega);have q1:bj v i.toNat 0 % 18446744073709551616=bj v i.toNat 0:=by omega
    have q2:bj R (j+i.toNat) 0 % 18446744073709551616=bj R (j+i.toNat) 0:=by omega
    have q3:(ga*bj v i.toNat 0 % 18446744073709551616+c) % 18446744073709551616=ga*bj v i.toNat 0+c:=by omega
    have hi1:(i+1).toNat=i.toNat+1:=by omega
    rw[q1,q2,q3,IP (by omega) (by omega),hi1];generalize hq:((bj R (j+i.toNat) 0 - (ga*bj v i.toNat 0+c) % 4294967296) % 18446744073709551616 - b) % 18446744073709551616=q;obtain⟨k1,k2,k3,k4,k5⟩:=IQ (d:=q % 4294967296) (e:=q / 9223372036854775808) hR hRl hv ox qH c0 c1 b0 b1 (show j+i.toNat<U.length by omega) ho he (by omega) (by omega);repeat' refine γl ?_ ?_
    all_goals first|omega|exact k1|exact k2|exact k3|exact k4|exact k5|exact f2|exact f3
   ·have hi:i.toNat=v.length:=by omega
    rw[hi,φ] at he;rw[hi] at ho;have hun:=ho (j+v.length) (.inr (π _));have du:=eu hU (j+v.length);have q2:bj R (j+v.length) 0 % 18446744073709551616=bj R (j+v.length) 0:=by rw[hun];omega
    have qI:=@lZ U j v.length;rw[q2];generalize hq:((bj R (j+v.length) 0 - c) % 18446744073709551616 - b) % 18446744073709551616=q;have kK:bA (R.set (j+v.length) (q % 4294967296)):=nE hR (by omega) (by omega);have hlen:(R.set (j+v.length) (q % 4294967296)).length=U.length:=by simp[hRl]
    have hout:∀m,(m<j\/j+(v.length+1)<=m)->bj (R.set (j+v.length) (q % 4294967296)) m 0=bj U m 0:=λm hm=>by rw[pT (by omega)];exact ho m (by omega)
    have hval:bk (prt (R.set (j+v.length) (q % 4294967296)) j (v.length+1))=bk (prt U j (v.length+1)) - ga*bk v+4294967296^(v.length+1)*(q / 9223372036854775808):=by
     rw[lZ,uy (π _),sV (by omega),he,qI,γV];have hd:q % 4294967296 - 4294967296*(q / 9223372036854775808)=bj U (j+v.length) 0 - c - b:=by rw[hun] at hq;omega
     generalize (4294967296:Int)^v.length=B;have e:B*4294967296*(q / 9223372036854775808)=B*(q % 4294967296+c+b - bj U (j+v.length) 0):=by rw[δl];congr 1;omega
     rw[e];simp only[εw,εK];omega
    generalize hW:R.set (j+v.length) (q % 4294967296)=W at*;have hbd:=vY kK (j:=j) (k:=v.length+1);have hnn:=fj (uz kK (j:=j) (k:=v.length+1));have q3:0<=q/\q<18446744073709551616:=by omega
    clear hq hun du q2 he ho hR;repeat refine γl (by omega) ?_
    refine⟨λhz=>?_,λhz=>?_⟩
    ·rw[hz,δG,εh] at hval;obtain⟨w1,w2⟩:=vZ (q:=ga) (show ga*bk v<=bk (prt U j (v.length+1)) by omega) f2;refine⟨by rw[w1];omega,?_⟩;have hfin:W=js U j (ix (v.length+1) (bk (prt U j (v.length+1)) % bk v)):=yb kK hlen (by omega) hout (by rw[hval,w2]);rw[hfin];rfl
    ·have hq1:q / 9223372036854775808=1:=by omega
     rw[hq1,ε0] at hval;have f4:bk (prt U j (v.length+1))<ga*bk v:=by omega
     refine⟨?_,?_⟩
     ·repeat' refine γl ?_ ?_
      all_goals first|omega|exact kK|exact hlen|exact⟨W,⟨kK,hlen⟩,hout,hval,λ_ _=>rfl,by simp only[bk]⟩
     clear kK hlen hout hval hW hbd hnn q3 hz hq1 f4 f2 f3 c0 c1 b0 b1 i0 i1 ox qH;rintro⟨i2,gb,c2,R2⟩ ⟨⟨i0,i1⟩,⟨Az,AA⟩,⟨f5,f6⟩,⟨c0,c1⟩,⟨hR2,qJ⟩,W2,⟨hW2,uA⟩,ho2,uB,ho3,qK⟩;simp only at i0 i1 Az AA f5 f6 c0 c1 hR2 qJ ho3 qK ⊢;refine⟨λlW=>?_,λnD=>?_⟩
     ·have x:=eu hv i2.toNat;have y:=eu hR2 (j+i2.toNat);have hi1:(i2+1).toNat=i2.toNat+1:=by omega
      rw[hi1];have hs:((bj R2 (j+i2.toNat) 0 % 18446744073709551616+bj v i2.toNat 0 % 18446744073709551616) % 18446744073709551616+c2) % 18446744073709551616=bj R2 (j+i2.toNat) 0+bj v i2.toNat 0+c2:=by omega
      rw[hs];obtain⟨k1,k2,k3,k4,k5⟩:=IU hR2 (qJ.trans uA.symm) hv c0 c1 (show j+i2.toNat<W2.length by omega) hW2 ho3 qK rfl;repeat' refine γl ?_ ?_
      all_goals first|omega|exact k1|exact f5|exact f6|exact⟨W2,⟨hW2,uA⟩,ho2,uB,k4,k5⟩
     ·have hi2:i2.toNat=v.length:=by omega
      rw[hi2,φ] at qK;rw[hi2] at ho3;have hun:=ho3 (j+v.length) (.inr (π _));have du:=eu hW2 (j+v.length);have qI:=@lZ W2 j v.length;have hc2:c2 % 4294967296=c2:=by omega
      rw[hc2,hun];have hF:bA (R2.set (j+v.length) ((bj W2 (j+v.length) 0+c2) % 4294967296)):=nE hR2 (by omega) (by omega);have AB:(R2.set (j+v.length) ((bj W2 (j+v.length) 0+c2) % 4294967296)).length=U.length:=by simp[qJ]
      have AE:∀m,(m<j\/j+(v.length+1)<=m)->bj (R2.set (j+v.length) ((bj W2 (j+v.length) 0+c2) % 4294967296)) m 0=bj U m 0:=λm hm=>by rw[pT (by omega),ho3 m (by omega)];exact ho2 m hm
      have qL:bk (prt (R2.set (j+v.length) ((bj W2 (j+v.length) 0+c2) % 4294967296)) j (v.length+1))=bk (prt U j (v.length+1)) - gb*bk v+4294967296^(v.length+1)+bk v - 4294967296^(v.length+1)*((bj W2 (j+v.length) 0+c2) / 4294967296):=by
       rw[lZ,uy (π _),sV (by omega),<-uB,qI,γV];generalize (4294967296:Int)^v.length=B at*;have e:B*4294967296*((bj W2 (j+v.length) 0+c2) / 4294967296)=B*(bj W2 (j+v.length) 0+c2 - (bj W2 (j+v.length) 0+c2) % 4294967296):=by rw[δl];congr 1;omega
       rw[e];simp only[εw,εK];omega
      have hbd:=vY hF (j:=j) (k:=v.length+1);have hk:(bj W2 (j+v.length) 0+c2) / 4294967296=1:=by
       by_cases h:(bj W2 (j+v.length) 0+c2) / 4294967296=1;·exact h
       ·have h0:(bj W2 (j+v.length) 0+c2) / 4294967296=0:=by omega
        rw[h0,δG] at qL;omega
      rw[hk,ε0] at qL;have e1:(gb - 1)*bk v=gb*bk v - bk v:=by rw[ζU,εx]
      obtain⟨w1,w2⟩:=vZ (q:=gb - 1) (show(gb - 1)*bk v<=bk (prt U j (v.length+1)) by omega) (by rw[show gb - 1+1=gb by omega];exact f5);have D1:0<gb:=by
       by_cases h:0<gb;·exact h
       ·have:gb=0:=by omega
        subst this;omega
      have hfin:R2.set (j+v.length) ((bj W2 (j+v.length) 0+c2) % 4294967296)=js U j (ix (v.length+1) (bk (prt U j (v.length+1)) % bk v)):=yb hF AB (by omega) AE (by rw[qL,w2,e1];omega);repeat refine γl (by omega) ?_
      rw[hfin];rfl
def eC (x y:Int):Int:=(Nat.gcd x.toNat y.toNat:Nat)
theorem abJ {x y:Int} (h0:0<=x) (h1:0<y):eC y (x % y)=eC x y:=by
 unfold eC;congr 1;rw[Nat.gcd_comm x.toNat,Nat.gcd_rec y.toNat x.toNat,Nat.gcd_comm,Int.toNat_emod h0 (by omega)]
theorem abK {x:Int} (h0:0<=x):eC x 0=x:=by unfold eC;simp;omega
end Go.Vi
