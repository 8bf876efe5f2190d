/-
  Contracts: the reference's feasible lists.
  Conditions: none.
-/
import Derived.Test.YtbnhiekmnpikhaaGreatDA06
import Derived.KernelRfl
set_option maxRecDepth 100000
set_option maxHeartbeats 4000000
set_option linter.all false
open And renaming intro->γj
open BitVec renaming ofInt->γn
open Go.Vi.SV renaming il->γA,si->γg,row->Ω,ow->γZ
open Int renaming toNat_natCast->γl,le_trans->εe,pow_succ->γS,mul_add->εA,add_comm->ζJ,emod_nonneg->δL,emod_lt_of_pos->δp,ediv_nonneg->δ0,mul_ediv_add_emod->εh,ediv_eq_zero_of_lt->εM,emod_eq_of_lt->δJ,eq_ofNat_of_zero_le->δE,tdiv_eq_ediv_of_nonneg->ζb,tmod_eq_emod_of_nonneg->ζc,mul_nonneg->γu,mul_le_mul->δF,mul_le_mul_of_nonneg_left->Θ,le_of_lt->γe,mul_le_mul_of_nonneg_right->γT,one_mul->εB,mul_comm->δ3,sub_mul->ζT,mul_assoc->δl,mul_sub->εP,mul_zero->δG,add_zero->εj,mul_one->ε6
open List renaming cons_append->γH,drop->γ7,drop_length->δR,length_cons->γF,mem_map->Ψ,range->ω,mem_filter->γt,foldl_cons->εa,mem_cons->γv,map_append->γa,map_cons->π,mem_append->γk,nodup_cons->γW,pairwise_cons->γB,all_eq_true->φ,mem_range->γp,filter_sublist->γR,getElem?_cons_succ->γL,map_map->γ3,take->Δ,take_length->ψ,drop_of_length_le->δ8,replicate->δ,range_succ->εg,append_assoc->γO,take_of_length_le->γo,map_nil->γr,replicate_zero->ε5,mem_singleton->δx,mem_of_mem_drop->γU,take_append_drop->γM,pairwise_append->δY
open List.Nodup renaming sublist->ζW
open List.Perm renaming refl->ζR
open List.cons renaming injEq->Γ
open Nat renaming le_refl->ν
open Option renaming isSome_iff_exists->γq
open Option.some renaming injEq->γ
namespace Go.Vi
open Go.Proofs.YtbnhiekmnpikhaaGreat.Ir
open Go.Proofs
def cM:List Off->Int
 |[]=>0
 |x::l=>x.value+cM l
def ef (p:bn) (c:List Int):Int:=if bz p=0 then cM (eI p c) else 0
theorem pU:∀{l m:List Off},cM (l++m)=cM l+cM m
 |[],m=>by simp[cM];|x::l,m=>by simp only[γH,cM,@pU l m];omega
theorem aaP {l:List Off} {i:Int} (a:0<=i) (h:i<l.length):cM (l.take (i+1).toNat)=cM (l.take i.toNat)+(bj l i.toNat bp.off.dflt).value:=by
 rw[jZ (d:=bp.off.dflt) a h,pU];simp[cM]
theorem aaQ {p:bn} {c:List Int} (h:bz p=0):(eI p c).length<=160/\∀x∈eI p c,x∈p.offers:=by
 have d:=dQ h;unfold eI;cases a:eU p.offers (-1) c with
 |none=>simp;|some r=>
  refine⟨?_,λx b=>H6 (by omega) a x b⟩;have e:=Dz (by omega) a;have f:=d.2.1;grind
theorem sT {p:bn} (a:Good p):∀{l:List Off},(∀x∈l,x∈p.offers)->0<=cM l/\cM l<=1000000*l.length
 |[],_=>by simp[cM];|x::l,h=>by
  have c:=a.2.2.2.2 x (h x (by simp));have d:=@sT p a l λy b=>h y (by simp[b]);grind[cM]
def cmpL:List Int->List Int->Int
 |[],[]=>0
 |[],_::_=> -1
 |_::_,[]=>1
 |a::l,b::m=>if a<b then -1 else if b<a then 1 else cmpL l m
def r32:bM:=⟨14,List Int×List Int,.cons (dL (.i .i64)) (.one (dL (.i .i64))),λa=>a.1.length<=1000000000000/\a.2.length<=1000000000000,λa=> .si .i64 (cmpL a.1 a.2)⟩
def aaR (a:List Int×List Int):Nat->cC
 |2=> .inv Int (λi=>⟨[(0,.row (.i .i64) a.1),(1,.row (.i .i64) a.2),(5,.si .i64 i)],[]⟩) (λs=>iS s 5)
  (λi=>0<=i/\i<=a.1.length/\i<=a.2.length/\cmpL a.1 a.2=cmpL (a.1.drop i.toNat) (a.2.drop i.toNat)) (λi=>(a.1.length - i).toNat) λ_ _=> .look
 |_=> .look
theorem h32:Holds Tryz.prog r32:=by
 refine cH (L:=[]) r32 aaR (by simp) ?_;rintro⟨a,b⟩ ⟨w,u⟩;refine bQ (let d:=(0:Int);let h:=γA .i64;let j:=γg .i64;let k:=(-1:Int);let q:=Ω (bp.i .i64) a;let n:=Ω (bp.i .i64) b;let t:=h 0;let m:=(↑a.length:Int);let r:=(↑b.length:Int);let e:=(↑a.length:Int);let f:=(↑b.length:Int);let g:=j (cmpL a b);(((q.same q/\n.same n/\t.same (j 0)/\True)/\True)/\d<=d/\d<=m/\d<=r/\cmpL a b=cmpL a b)/\∀(x:Int),let o:=bj a x.toNat d;let p:=bj b x.toNat d;let c:=x+(1:Int);let l:=j c;d<=x/\x<=m/\x<=r/\cmpL a b=cmpL (γ7 x.toNat a) (γ7 x.toNat b)->(decide (x<e)=true->(decide (x<f)=true->d<=x/\x<e/\x.toNat<a.length/\d<=x/\x<f/\x.toNat<b.length/\(decide (o<p)=true->(h k).same g)/\(decide (o<p)=false->d<=x/\x<e/\x.toNat<a.length/\d<=x/\x<f/\x.toNat<b.length/\(decide (p<o)=true->(h 1).same g)/\(decide (p<o)=false->cq .i64 c/\((q.same q/\n.same n/\l.same l/\True)/\True)/\(d<=c/\c<=m/\c<=r/\cmpL a b=cmpL (γ7 c.toNat a) (γ7 c.toNat b))/\(m - c).toNat<(m - x).toNat)))/\(decide (x<f)=false->(decide (e<f)=true->(h k).same g)/\(decide (e<f)=false->(decide (f<e)=true->(h 1).same g)/\(decide (f<e)=false->t.same g))))/\(decide (x<e)=false->(decide (e<f)=true->(h k).same g)/\(decide (e<f)=false->(decide (f<e)=true->(h 1).same g)/\(decide (f<e)=false->t.same g)))) (by kernel_rfl) ?_;conv=>zeta
 simp only at w u;simp only[vcs];refine⟨⟨by omega,by omega,by omega⟩,?_⟩;rintro i ⟨j,v,z,h⟩;refine⟨λs=>⟨λk=>?_,λk=>?_⟩,λs=>?_⟩
 ·rw[uv (d:=0) j s,uv (d:=0) j k] at h;simp only[cmpL] at h;omega
 ·rw[uv (d:=0) j s,show i.toNat=b.length from by omega,δR] at h;grind[cmpL]
 ·rw[show i.toNat=a.length from by omega,δR] at h;refine⟨λk=>?_,λk=>⟨λy=>by omega,λy=>?_⟩⟩
  ·rw[<-γl a.length,uv (d:=0) (by omega) k] at h;exact h.symm
  ·rw[show a.length=b.length from by omega,δR] at h;exact h.symm
def dU (l:List bC):bC:=⟨(l.map bC.a0).sum,(l.map bC.a1).sum,(l.map bC.a2).sum,(l.map bC.a3).sum,(l.map bC.a4).sum,(l.map bC.a5).sum⟩
def cZ (p:bn) (l:List Int):List Off:=l.map λi=>bj p.offers i.toNat bp.off.dflt
def jr (p:bn) (L:List Off):Prop:=(L.map Off.bT).Nodup/\(dU (L.map Off.want)).le p.supply=true/\(dU (L.map (fh p))).le p.opn=true
instance (p:bn) (L:List Off):Decidable (jr p L):=by unfold jr;infer_instance
def lC (p:bn) (l:List Int):Bool:=decide (jr p (cZ p l))
def iJ (a b:bC) (k:Int):bC:=⟨if 0<k then b.a0 else a.a0,if 1<k then b.a1 else a.a1,if 2<k then b.a2 else a.a2,if 3<k then b.a3 else a.a3,if 4<k then b.a4 else a.a4,if 5<k then b.a5 else a.a5⟩
def bC.add (a b:bC):bC:=⟨a.a0+b.a0,a.a1+b.a1,a.a2+b.a2,a.a3+b.a3,a.a4+b.a4,a.a5+b.a5⟩
theorem Aq {l m:List bC}:dU (l++m)=(dU l).add (dU m):=by simp[dU,bC.add]
theorem Ar {b:bC} {l:List bC}:dU (b::l)=b.add (dU l):=by simp[dU,bC.add]
def bC.bd (b:bC) (n:Int):Prop:=(0<=b.a0/\b.a0<=n)/\(0<=b.a1/\b.a1<=n)/\(0<=b.a2/\b.a2<=n)/\(0<=b.a3/\b.a3<=n)/\(0<=b.a4/\b.a4<=n)/\(0<=b.a5/\b.a5<=n)
theorem If:∀{l:List bC},(∀b∈l,b.ok=true)->(dU l).bd (4*l.length)
 |[],_=>by simp[dU,bC.bd];|b::l,h=>by
  have e:=bC.jb.1 (h b (by simp));have d:=@If l λc a=>h c (by simp[a]);rw[Ar];simp only[bC.bd,bC.add,γF] at d ⊢;omega
theorem aaS {p:bn} {x:Off} (h:x.want.ok=true):(fh p x).ok=true:=by
 have a:=bC.jb.1 h;rw[bC.jb];simp only[fh,H8,oc];omega
theorem Ig {p:bn} (b:Good p) {l:List Int} (h:∀i∈l,0<=i/\i<p.offers.length):∀x∈cZ p l,x∈p.offers:=by
 intro x a;obtain⟨i,c,rfl⟩:=Ψ.1 a;grind[dq]
def lD (p:bn) (i:Int):Int:=(bj p.offers i.toNat bp.off.dflt).value
def better (a b:Alloc):Alloc:=if b.value<a.value\/a.value=b.value/\cmpL a.chosen b.chosen<0 then a else b
def lF (p:bn):Nat->Int->Alloc->Alloc->Alloc
 |0,_,_,b=>b
 |k+1,i,a,b=>lF p k (i+1) a (if lC p (a.chosen++[i]) then lF p k (i+1) ⟨a.chosen++[i],a.value+lD p i⟩ (better ⟨a.chosen++[i],a.value+lD p i⟩ b) else b)
def Qu (p:bn) (i:Int):Nat:=(p.offers.length - i).toNat
def Qv (p:bn) (a:Alloc) (f:Int) (b:Alloc):Alloc:=lF p (Qu p f) f a (better a b)
def cB (p:bn):Alloc:=Qv p ⟨[],0⟩ 0 ⟨[],0⟩
def hasB (m b:Int):Bool:=decide (gY.vH .i64 (m / 2^b.toNat) 1=1)
def DF (p:bn) (w:Int) (n:Nat):Int:=((ω n).map λi:Nat=>if(i:Int)≠w then(2:Int)^i else 0).sum
def pr (p:bn) (m:Int):bn:={p with offers:=p.offers.filter λx=>hasB m x.bT}
theorem Ih {p:bn} (h:Good p) (m:Int):Good (pr p m):=by
 refine⟨h.1,?_,h.2.2.1,h.2.2.2.1,λx a=>h.2.2.2.2 x (γt.1 a).1⟩;have:=List.length_filter_le (λx:Off=>hasB m x.bT) p.offers;have:=h.2.1;grind[pr]
def vZ (p:bn) (m:Int):Int:=(cB (pr p m)).value
theorem Ii {p:bn} {c:List Int} (e:di p c=0):bz p=0/\jd p c=true/\Good p/\c.length<=160/\∀i∈c,0<=i/\i<p.offers.length:=by
 have b:bz p=0:=by
  unfold di at e;omega
 have d:jd p c=true:=by
  unfold di at e;grind
 have f:=dQ b;obtain⟨r,g⟩:=γq.1 d;obtain⟨h,a⟩:=Qs (by omega) g;refine⟨b,d,f,?_,a⟩;have k:=Dz (by omega) g;have j:=f.2.1;grind
def Ij (p:bn):Int:=DF p (-1) p.classes.length
structure Qw (p:bn) (fs:List Int) (l o:bC) (L:List Off):Prop where
 nd:(L.map Off.bT).Nodup
 mem:∀x∈L,x∈p.offers/\x.bT∈fs
 w:(dU (L.map Off.want)).le l=true
 o:(dU (L.map (fh p))).le o=true
theorem Qx {p:bn} {fs:List Int} {l o:bC}:∀{xs:List Off} {v:Int},v<=xs.foldl (pq p fs l o) v/\∀x∈xs,x.want.le l=true->(fh p x).le o=true->x.value+km p fs (l.sub x.want) (o.sub (fh p x))<=xs.foldl (pq p fs l o) v
 |[],v=>by simp;|y::xs,v=>by
  obtain⟨b,e⟩:=@Qx p fs l o xs (pq p fs l o v y);have d:v<=pq p fs l o v y:=by
   grind[pq]
  refine⟨by grind,λx a c f=>?_⟩;simp only[εa];rcases γv.1 a with rfl|a
  ·have:x.value+km p fs (l.sub x.want) (o.sub (fh p x))<=pq p fs l o v x:=by
    unfold pq;grind
   omega
  simp_all
theorem fold_at {p:bn} {fs:List Int} {l o:bC}:∀{xs:List Off} {v:Int},xs.foldl (pq p fs l o) v=v\/∃x∈xs,x.want.le l=true/\(fh p x).le o=true/\xs.foldl (pq p fs l o) v=x.value+km p fs (l.sub x.want) (o.sub (fh p x))
 |[],v=>by simp;|y::xs,v=>by
  simp only[εa];rcases @fold_at p fs l o xs (pq p fs l o v y) with h|⟨x,d,a,c,b⟩
  ·rw[h];unfold pq;split<;>grind
  grind
theorem aaT {x:bC} {s t:List bC}:dU (s++x::t)=x.add (dU (s++t)):=by
 grind[Aq,Ar,bC.add]
theorem aaU {x:Off} {s t:List Off}:cM (s++x::t)=x.value+cM (s++t):=by
 rw[pU,pU];grind[cM]
theorem Qy {p:bn} (c:Good p) {L:List Off} (h:∀x∈L,x∈p.offers):(dU (L.map Off.want)).bd (4*L.length)/\(dU (L.map (fh p))).bd (4*L.length):=by
 have e:∀x∈L,x.want.ok=true:=λx d=>(c.2.2.2.2 x (h x d)).2.2.1;have a:=@If (L.map Off.want) (λb f=>by grind);grind[If,aaS]
theorem DG {p:bn} (e:Good p):∀{fs:List Int} {l o:bC} {L:List Off},Qw p fs l o L->cM L<=km p fs l o
 |[],l,o,L,h=>by
  have:L=[]:=by
   cases L with
   |nil=>rfl;|cons x L=>exact absurd (h.mem x (by simp)).2 (by simp)
  grind[cM,km];|f::fs,l,o,L,h=>by
  obtain⟨D,B⟩:=@Qx p fs l o (An p f) (km p fs l o);have b:km p (f::fs) l o=(An p f).foldl (pq p fs l o) (km p fs l o):=rfl;rw[b];by_cases d:∃x∈L,x.bT=f
  ·obtain⟨x,d,m⟩:=d;obtain⟨s,t,rfl⟩:=List.append_of_mem d;obtain⟨u,c,w,j⟩:=h;have i:=c x d;have g:∀y∈s++t,y∈p.offers:=λy a=>(c y (by grind)).1;obtain⟨z,v⟩:=Qy e g;rw[γa,π,aaT,bC.le_iff,<-γa] at w j;simp only[bC.add,bC.bd] at w j z v;have q:x.want.le l=true:=by rw[bC.le_iff];omega
   have r:(fh p x).le o=true:=by rw[bC.le_iff];omega
   have A:=B x (γt.2 ⟨i.1,by simp[m]⟩) q r;rw[γa,π,List.nodup_append] at u;have n:∀y∈s++t,y.bT≠f:=λy a=>by
    rw[<-m];rcases γk.1 a with a|a;·simp_all
    simp_all
   have k:cM (s++t)<=km p fs (l.sub x.want) (o.sub (fh p x)):=DG e
    {nd:=by
      grind
     mem:=λy a=>by
      grind
     w:=by grind[bC.le_iff,bC.sub]
     o:=by grind[bC.le_iff,bC.sub]};rw[aaU];omega
  ·have:=DG e (fs:=fs) (l:=l) (o:=o) (L:=L) ⟨h.nd,λy a=>by
    have C:=h.mem y a;simp_all,h.w,h.o⟩;omega
theorem DI {p:bn} (k:Good p):∀{fs:List Int} {l o:bC},fs.Nodup->bC.zero.le l=true->bC.zero.le o=true->∃L,Qw p fs l o L/\cM L=km p fs l o
 |[],l,o,_,g,e=>⟨[],⟨by simp,by simp,g,e⟩,rfl⟩
 |f::fs,l,o,r,g,e=>by
  have c:=γW.1 r;have d:km p (f::fs) l o=(An p f).foldl (pq p fs l o) (km p fs l o):=rfl;rw[d];rcases @fold_at p fs l o (An p f) (km p fs l o) with h|⟨x,q,m,u,n⟩
  ·rw[h];obtain⟨L,a,j⟩:=DI k (l:=l) (o:=o) c.2 g e;exact⟨L,⟨a.nd,λy b=>⟨(a.mem y b).1,by simp[(a.mem y b).2]⟩,a.w,a.o⟩,j⟩
  ·rw[n];have z:=bC.le_iff.1 m;have A:=bC.le_iff.1 u;obtain⟨L,a,j⟩:=DI k (l:=l.sub x.want) (o:=o.sub (fh p x)) c.2 (by grind[bC.le_iff,bC.zero,bC.sub]) (by grind[bC.le_iff,bC.zero,bC.sub]);have s:=γt.1 q;have i:x.bT=f:=by simp_all
   refine⟨x::L,⟨?_,?_,?_,?_⟩,by grind[cM]⟩
   ·rw[π,γW];refine⟨λt=>?_,a.nd⟩;obtain⟨y,b,v⟩:=Ψ.1 t;exact c.1 (by rw[<-i,<-v];exact(a.mem y b).2)
   ·intro y b;rcases γv.1 b with rfl|b;·simp_all
    ·exact⟨(a.mem y b).1,by simp[(a.mem y b).2]⟩
   ·have:=bC.le_iff.1 a.w;grind[Ar,bC.le_iff,bC.add,bC.sub]
   ·have:=bC.le_iff.1 a.o;grind[Ar,bC.le_iff,bC.add,bC.sub]
theorem uw {p:bn} {l m:List Int}:cZ p (l++m)=cZ p l++cZ p m:=by simp[cZ]
theorem sU {p:bn} {i:Int} {l:List Int}:cZ p (i::l)=bj p.offers i.toNat bp.off.dflt::cZ p l:=rfl
def DJ (p:bn) (l:List Int):Prop:=∀i∈l,0<=i/\i<p.offers.length
theorem Ik {p:bn} (f:Good p) {L M:List Off} (c:∀x∈M,x∈p.offers) (h:jr p (L++M)):jr p L:=by
 obtain⟨e,d⟩:=Qy f c;obtain⟨g,a,b⟩:=h;rw[γa,Aq,bC.le_iff] at a b;simp only[bC.add,bC.bd] at a b e d;refine⟨?_,?_,?_⟩<;>grind[bC.le_iff]
theorem Qz {p:bn} (a:Good p) {l m:List Int} (b:DJ p m) (h:lC p (l++m)=true):lC p l=true:=by
 unfold lC at h ⊢;have h:=of_decide_eq_true h;rw[uw] at h;exact decide_eq_true (Ik a (Ig a b) h)
def nB (i:Int) (k:Nat) (t:List Int):Prop:=t.Pairwise (·<·)/\∀j∈t,i<=j/\j<i+k
theorem QA {a b:Alloc}:a.value<=(better a b).value/\b.value<=(better a b).value:=by
 grind[better]
theorem QB {a b:Alloc}:better a b=a\/better a b=b:=by
 grind[better]
theorem As {p:bn}:∀{k:Nat} {i:Int} {a b:Alloc},b.value<=(lF p k i a b).value
 |0,_,_,b=>by simp[lF];|k+1,i,a,b=>by
  simp only[lF];refine εe ?_ As;split;·exact εe QA.2 As
  ·omega
theorem Il {p:bn} (h:Good p):∀{k:Nat} {i:Int} {a b:Alloc} {t:List Int},0<=i->i+k<=p.offers.length->t≠[]->nB i k t->lC p (a.chosen++t)=true->a.value+cM (cZ p t)<=(lF p k i a b).value
 |0,i,a,b,t,_,_,u,c,_=>by
  cases t with
  |nil=>simp_all;|cons j t=>
   have:=c.2 j (by simp);omega
 |k+1,i,a,b,t,w,x,u,c,s=>by
  cases t with
  |nil=>simp_all;|cons j t=>
   have v:=c.2 j (by simp);have q:=γB.1 c.1;simp only[lF];by_cases l:j=i
   ·subst l;have d:DJ p t:=λm e=>by
     have:=c.2 m (by simp[e]);omega
    have f:lC p (a.chosen++[j]++t)=true:=by simp_all
    have g:lC p (a.chosen++[j])=true:=Qz h d f;rw[if_pos g];refine εe ?_ As;rw[sU];simp only[cM];cases t with
    |nil=>
     refine εe ?_ As;refine εe ?_ QA.1;simp[cM,cZ,lD];|cons o n=>
     have:=Il h (k:=k) (i:=j+1) (a:=⟨a.chosen++[j],a.value+lD p j⟩) (b:=better ⟨a.chosen++[j],a.value+lD p j⟩ b) (t:=o::n) (by omega) (by omega) (by simp) ⟨q.2,λm e=>by
      have r:=c.2 m (List.mem_cons_of_mem _ e);grind⟩ f;grind[lD]
   ·exact Il h (by omega) (by omega) (by simp) ⟨c.1,λm e=>by
     have r:=c.2 m e;grind⟩ s
theorem Im {p:bn} (g:Good p):∀{k:Nat} {i:Int} {a b:Alloc},lF p k i a b=b\/∃t,t≠[]/\nB i k t/\lC p (a.chosen++t)=true/\lF p k i a b=⟨a.chosen++t,a.value+cM (cZ p t)⟩
 |0,i,a,b=> .inl rfl
 |k+1,i,a,b=>by
  have l:∀{t:List Int},nB (i+1) k t->nB i (k+1) t:=λh=>⟨h.1,λj c=>by have:=h.2 j c;omega⟩;simp only[lF];rcases @Im p g k (i+1) a (if lC p (a.chosen++[i]) then lF p k (i+1) ⟨a.chosen++[i],a.value+lD p i⟩ (better ⟨a.chosen++[i],a.value+lD p i⟩ b) else b) with h|⟨t,m,d,n,o⟩
  ·rw[h];split
   ·rename_i q;have e:(⟨a.chosen++[i],a.value+lD p i⟩:Alloc)=⟨a.chosen++[i],a.value+cM (cZ p [i])⟩:=by simp[cM,cZ,lD]
    have f:nB i (k+1) [i]:=⟨by simp,λj c=>by grind⟩;rcases @Im p g k (i+1) ⟨a.chosen++[i],a.value+lD p i⟩ (better ⟨a.chosen++[i],a.value+lD p i⟩ b) with h|⟨t,m,d,n,o⟩;·grind[QB]
    ·refine .inr ⟨i::t,by simp,⟨γB.2 ⟨λj c=>by have:=d.2 j c;omega,d.1⟩,λj c=>?_⟩,by simp_all,?_⟩
     ·rcases γv.1 c with rfl|c;·omega
      ·have:=d.2 j c;omega
     grind[sU,cM,lD]
   simp_all
  grind
theorem DK {p:bn}:∀{c:List Int} {s:Int},c.foldl (H9 p) s=s+cM (cZ p c)
 |[],s=>by simp[cZ,cM];|i::c,s=>by
  rw[εa,DK,sU];grind[cM,H9]
theorem DL {p:bn}:∀{c:List Int} {a:Int} {r:List Off},eU p.offers a c=some r->r=cZ p c
 |[],a,r,h=>by simp[eU] at h;subst h;rfl;|i::c,a,r,h=>by
  simp only[eU] at h;split at h;·cases h
  ·obtain⟨d,b,rfl⟩:=Option.map_eq_some_iff.1 h;rw[DL b,sU]
theorem aaV {p:bn} {c:List Int} (b:di p c=0):ef p c=Ap p c:=by
 obtain⟨a,d,g,f,e⟩:=Ii b;obtain⟨r,h⟩:=γq.1 d;unfold ef Ap;rw[if_pos a,DK];grind[eI,DL]
theorem QC {p:bn} {x:Off} (b:0<=x.bT) (a:x.bT<p.classes.length):dW p x.bT x=1:=by
 unfold dW;omega
theorem sum_cons {p:bn} {x:Off} {L:List Off} {r:Int}:cY p (x::L) r=dW p r x+cY p L r:=by simp[cY]
theorem QE {p:bn} {r:Int}:∀{L:List Off},(∀x∈L,x.want.ok=true)->(∃x∈L,x.bT=r/\0<=r/\r<p.classes.length)->1<=cY p L r
 |[],_,h=>by simp_all;|y::L,a,⟨x,c,e,f,d⟩=>by
  have g:=@pT p r y (a y (by simp));have i:=@sS p r L λz b=>a z (by simp[b]);rw[sum_cons];rcases γv.1 c with rfl|c;·grind[QC]
  ·have:=@QE p r L (λz b=>a z (by simp[b])) ⟨x,c,e,f,d⟩;omega
theorem QF {p:bn}:∀{L:List Off},(∀x∈L,x.want.ok=true/\0<=x.bT/\x.bT<p.classes.length)->(∀r:Int,0<=r->r<p.classes.length->cY p L r<=1)->(L.map Off.bT).Nodup
 |[],_,_=>by simp;|x::L,e,f=>by
  have a:=e x (by simp);rw[π,γW];have d:∀r:Int,0<=r->r<p.classes.length->cY p L r<=1:=λr j b=>by
   have:=f r j b;have:=@pT p r x a.1;grind[sum_cons]
  refine⟨λg=>?_,QF (λy c=>e y (by simp[c])) d⟩;obtain⟨y,c,h⟩:=Ψ.1 g;have b:=f x.bT a.2.1 a.2.2;have k:=@QE p x.bT L (λz i=>(e z (by simp[i])).1) ⟨y,c,h,a.2.1,a.2.2⟩;rw[sum_cons,QC a.2.1 a.2.2] at b;omega
theorem aaW {p:bn} {c:List Int} (e:di p c=0):((cZ p c).map Off.bT).Nodup:=by
 obtain⟨j,f,a,m,h⟩:=Ii e;obtain⟨r,l⟩:=γq.1 f;have n:eI p c=cZ p c:=by grind[eI,DL]
 have d:gl p (cZ p c)=true:=by
  simp_all[di]
 refine QF (p:=p) (λx g=>?_) λr o i=>?_
 ·have:=a.2.2.2.2 x (Ig a h x g);simp_all
 ·have b:=pn.1 d r.toNat (by grind[df]);rw[show((r.toNat:Nat):Int)=r by omega] at b;have k:dm p r=1:=by unfold dm;omega
  omega
theorem Io {p:bn}:cB p=lF p p.offers.length 0 ⟨[],0⟩ ⟨[],0⟩:=by
 grind[Qu,cB,Qv,QB]
theorem Ip {p:bn} (f:Good p) {t:List Int} (e:nB 0 p.offers.length t) (d:lC p t=true):cM (cZ p t)<=(cB p).value:=by
 rw[Io];by_cases c:t=[]
 ·subst c;exact As
 ·have:=Il f (k:=p.offers.length) (i:=0) (a:=⟨[],0⟩) (b:=⟨[],0⟩) (t:=t) (by omega) (by omega) c e d;simp_all
theorem QG {p:bn} (a:Good p):lC p []=true:=by
 have b:=bC.jb.1 a.2.2.1;have c:=bC.jb.1 a.2.2.2.1;unfold lC;refine decide_eq_true ⟨by simp[cZ],?_,?_⟩;all_goals simp_all[bC.le_iff,cZ,dU]
theorem Iq {p:bn} (a:Good p):∃t,nB 0 p.offers.length t/\lC p t=true/\cB p=⟨t,cM (cZ p t)⟩:=by
 rw[Io];rcases @Im p a p.offers.length 0 ⟨[],0⟩ ⟨[],0⟩ with h|⟨t,b,e,c,d⟩;·exact⟨[],⟨by simp,by simp⟩,QG a,by rw[h];rfl⟩
 grind
def QH:Bool:=(ω 256).all λm=>[0,1,2,3,4,5,6,7].all λb:Int=>hasB m b==decide (b∈rH m)
theorem aaX:QH=true:=by kernel_rfl
theorem Is {m b:Int} (e:0<=m) (a:m<256) (c:0<=b) (d:b<8):hasB m b=decide (b∈rH m):=by
 have h:=aaX;simp only[QH,φ,γp] at h;have h:=h m.toNat (by omega) b (by
  have:b=0\/b=1\/b=2\/b=3\/b=4\/b=5\/b=6\/b=7:=by omega
  simp_all);grind
theorem aaY {p:bn} {t:List Int} (h:nB 0 p.offers.length t):DJ p t:=λj a=>by
 have:=h.2 j a;omega
theorem aaZ {p:bn} (b:Good p) {m:Int} (j:0<=m) (e:m<256):vZ p m<=km p (rH m) p.supply p.opn:=by
 obtain⟨t,i,f,g⟩:=Iq (Ih b m);unfold vZ;rw[g];have d:=of_decide_eq_true f;refine DG b ⟨d.1,λx h=>?_,d.2.1,d.2.2⟩;have c:=Ig (Ih b m) (aaY i) x h;have a:=γt.1 c;have k:=b.2.2.2.2 x a.1;have l:=b.1;refine⟨a.1,?_⟩;have:=Is j e k.1 (by omega);simp_all
theorem QI {L M:List Off} (h:L.Perm M):cM L=cM M:=by
 induction h<;>grind[cM,swap,trans]
theorem aa0 {L M:List bC} (h:L.Perm M):dU L=dU M:=by
 induction h<;>grind[Ar,swap,bC.add,bC.mk.injEq,trans]
theorem Iu {p:bn} {L M:List Off} (h:L.Perm M) (b:jr p L):jr p M:=by
 obtain⟨a,c,d⟩:=b;refine⟨((h.map _).nodup_iff).1 a,?_,?_⟩<;>grind[aa0]
theorem Iw (q:Off->Bool):∀(O a:List Off),∃t:List Int,t.Pairwise (·<·)/\(∀j∈t,(a.length:Int)<=j/\j<a.length+O.length)/\(t.map λj=>bj (a++O) j.toNat bp.off.dflt)=O.filter q
 |[],a=>⟨[],by simp,by simp,by simp⟩
 |x::O,a=>by
  obtain⟨t,c,g,d⟩:=Iw q O (a++[x]);have e:a++[x]++O=a++x::O:=by simp
  rw[e] at d;have h:((a++[x]).length:Int)=a.length+1:=by simp
  have f:∀j∈t,(a.length:Int)+1<=j/\j<a.length+1+O.length:=λj b=>by
   simp_all
  by_cases i:q x=true
  ·refine⟨(a.length:Int)::t,γB.2 ⟨λj b=>by grind,c⟩,λj b=>?_,?_⟩;·grind
   simp_all[cV]
  grind
theorem DN {p:bn}:∀{l:List Off} {a:List nX},jc p a l=0->(l.map Off.key).Nodup/\∀x∈l,x.key∉a
 |[],_,_=>by simp;|o::r,a,h=>by
  simp only[jc] at h;split at h;·omega
  ·split at h;·cases h
   ·rename_i d b;obtain⟨c,e⟩:=DN h;simp_all
theorem DO {a b:Type} (f:a->b):∀{l:List a},(l.map f).Nodup->l.Nodup
 |[],_=>by simp;|x::l,h=>by
  rw[π,γW] at h;exact γW.2 ⟨λc=>h.1 (List.mem_map_of_mem c),DO f h.2⟩
theorem QJ {p:bn} (h:bz p=0):p.offers.Nodup:=by
 unfold bz at h;split at h;·omega
 ·exact DO _ (DN h).1
theorem QK (m:Int):(rH m).Nodup:=by
 unfold rH;exact ζW γR (by decide)
theorem aa1 {p:bn} (f:bz p=0) {m:Int} (D:0<=m) (u:m<256):km p (rH m) p.supply p.opn<=vZ p m:=by
 have b:=dQ f;have A:=bC.jb.1 b.2.2.1;have y:=bC.jb.1 b.2.2.2.1;obtain⟨L,c,h⟩:=DI b (QK m) (l:=p.supply) (o:=p.opn) (by grind[bC.le_iff,bC.zero]) (by grind[bC.le_iff,bC.zero]);obtain⟨t,n,B,g⟩:=Iw (λx=>decide (x∈L)) (pr p m).offers [];have i:cZ (pr p m) t=(pr p m).offers.filter λx=>decide (x∈L):=g;have q:∀x∈L,x∈(pr p m).offers:=λx s=>by
  have d:=c.mem x s;have C:=b.2.2.2.2 x d.1;have v:=b.1;refine γt.2 ⟨d.1,?_⟩;grind[Is]
 have e:((pr p m).offers.filter λx=>decide (x∈L)).Nodup:=ζW (List.Sublist.trans γR γR) (QJ f);have a:L.Perm (cZ (pr p m) t):=by
  rw[i];refine(List.perm_ext_iff_of_nodup (DO _ c.nd) e).2 λx=>?_;simp_all
 have k:jr (pr p m) L:=⟨c.nd,c.w,c.o⟩;have r:lC (pr p m) t=true:=decide_eq_true (Iu a k);have:=Ip (Ih b m) ⟨n,λj z=>by simp_all⟩ r;rw[<-QI a,h] at this;exact this
theorem aa2 {p:bn} (d:bz p=0) {m:Int} (e:0<=m) (c:m<256):vZ p m=km p (rH m) p.supply p.opn:=by
 have a:=aaZ (dQ d) e c;have b:=aa1 d e c;omega
theorem aa3 {p:bn} (a:bz p=0) {m:Int} (c:0<=m) (d:m<2^p.classes.length):rI p m=vZ p m:=by
 have b:DC p m=0:=by
  simp_all[DC]
 have e:=Ao (dQ a).1;unfold rI;rw[if_pos b,aa2 a c (by omega)];rfl
def QL:Bool:=(ω 9).all λn=>decide (DF bn.zero (-1) n=2^n - 1)&&(ω n).all λb=>decide (DF bn.zero b n=aaG (2^n - 1) b)
theorem aa4:QL=true:=by kernel_rfl
theorem QM {p:bn} (h:p.classes.length<=8):DF p (-1) p.classes.length=allM p:=by
 have a:=aa4;simp only[QL,φ,γp,Bool.and_eq_true,decide_eq_true_eq] at a;exact(a p.classes.length (by omega)).1
theorem aa5 {p:bn} (b:bz p=0):rI p (allM p)=vZ p (Ij p):=by
 have a:=dQ b;have c:=Ao a.1;unfold Ij;rw[QM a.1];grind[aa3,allM]
def bC.at (b:bC) (k:Nat):Int:=bj [b.a0,b.a1,b.a2,b.a3,b.a4,b.a5] k 0
theorem Ix {a b:bC} (h:a.le b=true) (k:Nat):a.at k<=b.at k:=by
 grind[bC.le_iff,bC.at,bj]
theorem ou (k:Nat):∀(l:List bC),(dU l).at k=(l.map λb=>b.at k).sum:=by
 intro l;unfold bC.at dU;match k with
 |0|1|2|3|4|5=>simp only[bj,List.getElem?_cons_zero,γL,Option.getD_some];|k+6=>
  simp only[bj,γL,List.getElem?_nil,Option.getD_none];induction l<;>grind
theorem QN {p:bn} {x:Off} {k:Nat} (a:k<6):dW p (p.classes.length+k) x=x.want.at k:=by
 unfold dW;rw[if_neg (by omega),if_pos (by omega),show((p.classes.length:Int)+k - p.classes.length).toNat=k by omega];rfl
theorem QO {p:bn} {x:Off} {k:Nat} (a:k<6):dW p (p.classes.length+6+k) x=(fh p x).at k:=by
 unfold dW;rw[if_neg (by omega),if_neg (by omega),show((p.classes.length:Int)+6+k - p.classes.length - 6).toNat=k by omega];have:k=0\/k=1\/k=2\/k=3\/k=4\/k=5:=by omega
 rcases this with rfl|rfl|rfl|rfl|rfl|rfl<;>simp[fh,H8,oc,lV,bC.at,bj]
theorem QP {p:bn} {k:Nat} (a:k<6):dm p (p.classes.length+k)=p.supply.at k:=by
 unfold dm;rw[if_neg (by omega),if_pos (by omega),show((p.classes.length:Int)+k - p.classes.length).toNat=k by omega];rfl
theorem QQ {p:bn} {k:Nat} (a:k<6):dm p (p.classes.length+6+k)=p.opn.at k:=by
 unfold dm;rw[if_neg (by omega),if_neg (by omega),show((p.classes.length:Int)+6+k - p.classes.length - 6).toNat=k by omega];rfl
theorem QR {p:bn} {r:Int} (a:0<=r) (b:r<p.classes.length):∀{L:List Off},(L.map Off.bT).Nodup->cY p L r<=1/\(r∉L.map Off.bT->cY p L r=0)
 |[],_=>by simp[cY];|x::L,h=>by
  rw[π,γW] at h;obtain⟨d,e⟩:=QR a b h.2;have c:dW p r x=if x.bT=r then 1 else 0:=by unfold dW;omega
  rw[sum_cons,c];grind
theorem QS {p:bn} {L:List Off} (h:jr p L):gl p L=true:=by
 obtain⟨j,i,f⟩:=h;refine pn.2 λr g=>?_;unfold df at g;by_cases l:r<p.classes.length
 ·have:=(QR (p:=p) (r:=r) (by omega) (by omega) j).1;have d:dm p r=1:=by unfold dm;omega
  omega
 by_cases d:r<p.classes.length+6
 ·obtain⟨k,rfl⟩:∃k:Nat,r=p.classes.length+k:=⟨r - p.classes.length,by omega⟩;have c:k<6:=by omega
  have e:(((p.classes.length+k:Nat)):Int)=p.classes.length+k:=by omega
  rw[e,QP c];have a:=Ix i k;rw[ou,γ3] at a;have:cY p L (p.classes.length+k)=(L.map ((λb=>bC.at b k)∘Off.want)).sum:=by
   unfold cY;congr 1;simp_all[QN]
  omega
 ·obtain⟨k,rfl⟩:∃k:Nat,r=p.classes.length+6+k:=⟨r - p.classes.length - 6,by omega⟩;have c:k<6:=by omega
  have e:(((p.classes.length+6+k:Nat)):Int)=p.classes.length+6+k:=by omega
  rw[e,QQ c];have a:=Ix f k;rw[ou,γ3] at a;have:cY p L (p.classes.length+6+k)=(L.map ((λb=>bC.at b k)∘fh p)).sum:=by
   unfold cY;congr 1;simp_all[QO]
  omega
theorem QT {l:List Off}:∀{t:List Int} {a:Int},t.Pairwise (·<·)->(∀j∈t,a<j/\j<l.length)->eU l a t=some (t.map λi=>bj l i.toNat bp.off.dflt)
 |[],_,_,_=>rfl
 |i::t,a,h,d=>by
  have e:=d i (by simp);have c:=γB.1 h;unfold eU;rw[if_neg (by omega),QT c.2 λj b=>⟨c.1 j b,(d j (by simp[b])).2⟩];rfl
theorem QU {p:bn} (e:bz p=0) {t:List Int} (a:nB 0 p.offers.length t) (c:jr p (cZ p t)):di p t=0:=by
 have d:eU p.offers (-1) t=some (cZ p t):=QT a.1 λj b=>by have:=a.2 j b;omega
 simp_all[di,jd,eI,QS]
def QV:Bool:=(ω 9).all λn=>(ω n).all λb=>hasB (2^n - 1) b
theorem aa6:QV=true:=by kernel_rfl
theorem QW {p:bn} (a:Good p) {b:Int} (d:0<=b) (c:b<p.classes.length):hasB (allM p) b=true:=by
 have h:=aa6;simp only[QV,φ,γp] at h;have:=h p.classes.length (by have:=a.1;omega) b.toNat (by omega);rwa [show((b.toNat:Nat):Int)=b by omega] at this
theorem aa7 {p:bn} (a:Good p):pr p (allM p)=p:=by
 unfold pr;rw[List.filter_eq_self.2 λx b=>QW a (a.2.2.2.2 x b).1 (a.2.2.2.2 x b).2.1]
theorem DR {p:bn} (b:bz p=0):rI p (allM p)=(cB p).value:=by
 have a:=dQ b;rw[aa5 b];unfold Ij vZ;rw[QM a.1,aa7 a]
theorem QX {p:bn} (a:bz p=0):Qr p (cB p).chosen=0/\jr p (cZ p (cB p).chosen)/\nB 0 p.offers.length (cB p).chosen/\(cB p).value=cM (cZ p (cB p).chosen):=by
 have d:=dQ a;obtain⟨t,b,e,h⟩:=Iq d;have c:jr p (cZ p t):=of_decide_eq_true e;have g:=QU a b c;have f:=DR a;simp_all[Qr,Ap,DK]
theorem aa8 {p:bn} (d:Good p) {x:Int} (a:0<=x) (c:x<p.classes.length):x∈rH (allM p):=by
 have e:=d.1;have f:=Ao e;have:=Is (m:=allM p) (b:=x) (by grind[allM]) (by grind[allM]) a (by omega);simp_all[QW]
theorem QY {p:bn} (b:bz p=0) {m:Int} (c:0<=m) (a:m<2^p.classes.length):rI p m=km p (rH m) p.supply p.opn:=by
 unfold rI;rw[if_pos];·rfl
 simp_all[DC]
theorem Iy:∀l:List Int,cmpL l l=0
 |[]=>rfl
 |a::l=>by
  simp only[cmpL,if_neg (Int.lt_irrefl a)];exact Iy l
theorem QZ:∀{a b:List Int},cmpL a b=0->a=b
 |[],[],_=>rfl
 |[],_::_,h=>by grind[cmpL];|_::_,[],h=>by grind[cmpL];|x::a,y::b,h=>by
  simp only[cmpL] at h;split at h;·simp at h
  ·split at h;·simp at h
   ·rw[QZ h,show x=y by omega]
theorem Q0:∀{a b:List Int},cmpL a b<0↔0<cmpL b a
 |[],[]=>by simp[cmpL];|[],_::_=>by simp[cmpL];|_::_,[]=>by simp[cmpL];|x::a,y::b=>by
  simp only[cmpL];by_cases c:x<y;·omega
  ·by_cases d:y<x;·omega
   ·rw[if_neg c,if_neg d,if_neg d,if_neg c];exact Q0
theorem Q5:∀{a b c:List Int},cmpL a b<0->cmpL b c<0->cmpL a c<0
 |[],[],_,h,_=>by omega;|_::_,[],_,h,_=>by grind[cmpL];|[],_::_,[],_,h=>by grind[cmpL];|[],_::_,_::_,_,_=>by simp[cmpL];|_::_,_::_,[],_,h=>by grind[cmpL];|x::a,y::b,z::c,h,k=>by
  simp only[cmpL] at h k ⊢;by_cases g:x<y;·omega
  ·rw[if_neg g] at h;by_cases e:y<x;·omega
   ·rw[if_neg e] at h;by_cases f:y<z;·omega
    ·rw[if_neg f] at k;by_cases d:z<y;·omega
     ·rw[if_neg d] at k;rw[if_neg (by omega),if_neg (by omega)];exact Q5 h k
def mL (a b:Alloc):Prop:=b.value<a.value\/a.value=b.value/\cmpL a.chosen b.chosen<0
theorem Q6 {a b c:Alloc} (h:mL a b) (k:mL b c):mL a c:=by
 rcases h with h|⟨g,e⟩
 ·rcases k with k|⟨f,_⟩;·left;omega
  ·left;omega
 ·rcases k with k|⟨f,d⟩;·left;omega
  ·exact .inr ⟨by omega,Q5 e d⟩
theorem DT {a:Alloc}:¬mL a a:=by
 rintro(h|⟨_,h⟩)<;>grind[Iy]
theorem aa9 {a b:Alloc} (h:¬mL a b) (k:¬mL b a):a=b:=by
 obtain⟨l,v⟩:=a;obtain⟨m,w⟩:=b;simp only[mL,not_or,not_and] at h k;have d:v=w:=by omega
 subst d;have e:=h.2 rfl;have c:=k.2 rfl;have:=mt Q0.2 c;grind[QZ]
def ox (a:List Int):Nat->Nat
 |0=>0
 |n+1=>if bj a n 0=0 then ox a n else n+1
def bJ (a:List Int):List Int:=a.take (ox a a.length)
def rJ:bM:=⟨168,List Int,.one (dL (.i .u32)),λa=>a.length<=1000000000000,λa=> .row (.i .u32) (bJ a)⟩
def abb (a:List Int):Nat->cC
 |2=> .inv Int (λn=>⟨[(0,.row (.i .u32) a),(3,.si .i64 n)],[]⟩) (λs=>iS s 3) (λn=>0<=n/\n<=a.length/\ox a n.toNat=ox a a.length) (λn=>n.toNat) λ_ _=> .look
 |_=> .look
theorem h152:Holds Tryz.prog rJ:=by
 refine cH (L:=[]) rJ abb (by simp) ?_;intro(a:List Int) (h:a.length<=1000000000000);refine bQ (let e:=(0:Int);let f:=Ω;let c:=bp.i .u32;let d:=(↑a.length:Int);let l:=γg .i64 d;let g:=(↑a.length:Int);let j:=ox a a.length;((((f c a).same (f c a)/\l.same l/\True)/\True)/\e<=d/\d<=g/\ox a d.toNat=j)/\∀(x:Int),let r:=decide (e<x);let b:=x - (1:Int);let o:=decide (bj a b.toNat e=e);let k:=γg .i64 b;e<=x/\x<=g/\ox a x.toNat=j->(r=true->cq .i64 b/\e<=b/\b<d/\b.toNat<a.length/\(o=true->cq .i64 b/\(((f c a).same (f c a)/\k.same k/\True)/\True)/\(e<=b/\b<=g/\ox a b.toNat=j)/\b.toNat<x.toNat)/\(o=false->e<=x/\e<=x/\0<=x.toNat/\x.toNat<=x.toNat/\x.toNat<=a.length/\(f c (Δ (x.toNat - 0) a)).same (f c (bJ a))))/\(r=false->e<=x/\e<=x/\0<=x.toNat/\x.toNat<=x.toNat/\x.toNat<=a.length/\(f c (Δ (x.toNat - 0) a)).same (f c (bJ a)))) (by kernel_rfl) ?_;simp only[vcs];refine⟨⟨by omega,by omega,by simp⟩,?_⟩;rintro n ⟨f,t,q⟩;have e:(n.toNat=0\/0<n.toNat/\¬bj a (n.toNat - 1) 0=0)->Δ (n.toNat - 0) a=bJ a:=λh=>by
  unfold bJ;rw[<-q];congr 1;rcases h with h|h;·rw[h];rfl
  ·obtain⟨v,h⟩:=h;obtain⟨m,u⟩:∃m,n.toNat=m+1:=⟨n.toNat - 1,by omega⟩;simp_all[ox]
 refine⟨λs=>⟨by omega,by omega,by omega,by omega,λp=>⟨by omega,⟨by omega,by omega,?_⟩,by omega⟩,λp=>⟨f,f,by omega,by omega,by omega,?_⟩⟩,λs=>⟨f,f,by omega,by omega,by omega,e (.inl (by omega))⟩⟩
 ·rw[<-q,show n.toNat=(n - 1).toNat+1 by omega];rw[ox,if_pos p]
 simp_all
def bk:List Int->Int
 |[]=>0
 |d::l=>d+4294967296*bk l
def bA (a:List Int):Prop:=∀d∈a,0<=d/\d<4294967296
def fS:List Int->Prop
 |[]=>True
 |d::l=>(l=[]->d≠0)/\fS l
theorem js {d:Int} {l:List Int}:bA (d::l)↔(0<=d/\d<4294967296)/\bA l:=by simp[bA]
theorem nC {a:List Int} (h:bA a) (n:Nat):bA (a.take n):=λd b=>h d (List.mem_of_mem_take b)
theorem fi:∀{a:List Int},bA a->0<=bk a
 |[],_=>Int.le_refl _
 |d::l,h=>by
  obtain⟨c,b⟩:=js.1 h;have:=fi b;grind[bk]
theorem val_zero:∀{a:List Int},bA a->fS a->bk a=0->a=[]
 |[],_,_,_=>rfl
 |d::l,h,b,f=>by
  obtain⟨g,c⟩:=js.1 h;have:=fi c;simp only[bk] at f;have e:=val_zero c b.2 (by omega);have:=b.1 e;omega
theorem val_inj:∀{a b:List Int},bA a->bA b->fS a->fS b->bk a=bk b->a=b
 |[],b,_,i,_,c,h=>(val_zero i c h.symm).symm
 |d::l,[],f,_,g,_,h=>val_zero f g h
 |d::l,e::m,f,i,g,c,h=>by
  obtain⟨p,j⟩:=js.1 f;obtain⟨s,k⟩:=js.1 i;have r:=fi j;have q:=fi k;simp only[bk] at h;have n:d=e:=by omega
  have o:bk l=bk m:=by omega
  rw[n,val_inj j k g.2 c.2 o]
theorem yb:∀{a:List Int} {x:Int},bk (a++[x])=bk a+4294967296^a.length*x
 |[],x=>by simp[bk];|d::l,x=>by
  simp only[γH,bk,yb,γF,γS,εA];grind
theorem Iz:∀{a:List Int} {x:Int},x≠0->fS (a++[x])
 |[],x,h=>⟨λ_=>h,trivial⟩
 |d::l,x,h=>⟨λb=>by simp at b,Iz h⟩
theorem DU {a:List Int} {n:Nat} (h:n<a.length):a.take (n+1)=a.take n++[bj a n 0]:=by
 simp_all[cV]
theorem Q7 {a:List Int}:∀{n:Nat},n<=a.length->bk (a.take (ox a n))=bk (a.take n)/\fS (a.take (ox a n))
 |0,_=>by simp[ox,fS];|n+1,h=>by
  obtain⟨d,b⟩:=@Q7 a n (by omega);have c:=DU (show n<a.length by omega);unfold ox;grind[yb,Iz]
theorem rK {a:List Int}:bk (bJ a)=bk a/\fS (bJ a):=by
 have:=@Q7 a a.length (ν _);rw[ψ] at this;exact this
theorem sV {a:List Int} (h:bA a):bA (bJ a):=nC h _
theorem uy {a:List Int}:(bJ a).length<=a.length:=by grind[bJ]
def v7:Nat->Int->List Int
 |0,_=>[]
 |k+1,n=>if n<=0 then[] else(n % 4294967296)::v7 k (n / 4294967296)
def cO (n:Int):List Int:=v7 n.toNat n
theorem Q8:∀{k:Nat} {n:Int},0<=n->n.toNat<=k->bk (v7 k n)=n/\bA (v7 k n)/\fS (v7 k n)
 |0,n,b,h=>by
  have:n=0:=by omega
  subst this;exact⟨rfl,by simp[v7,bA],trivial⟩;|k+1,n,b,h=>by
  unfold v7;split
  ·have:n=0:=by omega
   subst this;exact⟨rfl,by simp[bA],trivial⟩
  ·obtain⟨d,a,c⟩:=@Q8 k (n / 4294967296) (by omega) (by omega);refine⟨by grind[bk],js.2 ⟨by omega,a⟩,λe f=>?_,c⟩;grind[bk]
theorem gn {n:Int} (h:0<=n):bk (cO n)=n/\bA (cO n)/\fS (cO n):=Q8 h (ν _)
theorem Au {a:List Int} (h:bA a) (b:fS a):cO (bk a)=a:=by
 grind[gn,fi,val_inj]
theorem qG {a:List Int} (h:bA a):bJ a=cO (bk a):=by
 grind[rK,Au,sV]
theorem oz:∀{a:List Int},bA a->bk a<4294967296^a.length
 |[],_=>by simp[bk];|d::l,h=>by
  obtain⟨c,b⟩:=js.1 h;have:=oz b;grind[bk]
theorem yc:∀{a b:List Int},bA a->bA b->fS b->a.length<b.length->bk a<bk b
 |[],b,_,c,f,h=>by
  have n:=fi c;grind[bk,val_zero];|d::l,[],_,_,_,h=>by simp at h;|d::l,e::m,g,c,f,h=>by
  obtain⟨k,j⟩:=js.1 g;obtain⟨o,i⟩:=js.1 c;simp only[γF] at h;have:=yc j i f.2 (by omega);grind[bk]
theorem IA:∀{k:Nat} {a b:List Int},bA a->bA b->k<a.length->k<b.length->a.drop (k+1)=b.drop (k+1)->bj a k 0<bj b k 0->bk a<bk b
 |_,[],_,_,_,h,_,_,_=>by simp at h;|_,_::_,[],_,_,_,h,_,_=>by simp at h;|0,d::l,e::m,f,g,_,_,h,c=>by
  grind[bj,bk];|k+1,d::l,e::m,f,g,n,q,h,c=>by
  obtain⟨p,j⟩:=js.1 f;obtain⟨o,i⟩:=js.1 g;simp only[List.drop_succ_cons] at h;simp only[bj,γL] at c;have:=IA (k:=k) j i (by simp_all) (by simp_all) h c;grind[bk]
theorem DV {a:List Int} {k:Nat} (h:k<a.length):a.drop k=bj a k 0::a.drop (k+1):=by simp_all[cV]
def lW (x y:Int):Int:=if x<y then -1 else if y<x then 1 else 0
def yd:bM:=⟨140,List Int×List Int,.cons (dL (.i .u32)) (.one (dL (.i .u32))),λa=>(bA a.1/\bA a.2)/\a.1.length<=1000000000000/\a.2.length<=1000000000000,λa=> .si .i64 (lW (bk a.1) (bk a.2))⟩
def abd (a:List Int×List Int):Nat->cC
 |7=> .inv Int (λi=>⟨[(0,.row (.i .u32) (bJ a.1)),(1,.row (.i .u32) (bJ a.2)),(22,.si .i64 (bJ a.1).length),(23,.si .i64 i)],[]⟩) (λs=>iS s 23)
  (λi=>0<=i/\i<=(bJ a.1).length/\(bJ a.1).drop ((bJ a.1).length - i.toNat)=(bJ a.2).drop ((bJ a.1).length - i.toNat)) (λi=>((bJ a.1).length - i).toNat) λ_ _=> .look
 |_=> .look
theorem h132:Holds Tryz.prog yd:=by
 refine cH (L:=[rJ]) yd abd (by grind[h152]) ?_;rintro⟨a,b⟩ ⟨⟨H,J⟩,r,q⟩;simp only at H J r q;refine bQ (let h:=(0:Int);let m:=γg .i64;let q:=γA .i64;let r:=cq .i64;let E:Nat:=(bJ a).length;let j:=(↑E:Int);let B:Nat:=(bJ b).length;let n:=(↑B:Int);let u:=m (lW (bk a) (bk b));let y:=Ω (bp.i .u32) (bJ a);let v:=Ω (bp.i .u32) (bJ b);let l:Nat:=(bJ a).length;let k:=(↑l:Int);let C:=m k;let o:=q 0;let c:=j - (1:Int);a.length<=1000000000000/\b.length<=1000000000000/\(decide (j≠n)=true->(decide (j<n)=true->(q (-1:Int)).same u)/\(decide (j<n)=false->(q 1).same u))/\(decide (j≠n)=false->(((y.same y/\v.same v/\(m j).same C/\o.same (m 0)/\True)/\True)/\h<=h/\h<=k/\γ7 (l - 0) (bJ a)=γ7 (l - 0) (bJ b))/\∀(x:Int),let e:=(c - x).toNat;let f:=bj (bJ a) e h;let g:=bj (bJ b) e h;let d:=x+(1:Int);let p:=m d;h<=x/\x<=k/\γ7 (l - x.toNat) (bJ a)=γ7 (l - x.toNat) (bJ b)->(decide (x<k)=true->r c/\r (c - x)/\h<=c - x/\c - x<j/\e<E/\h<=c - x/\c - x<n/\e<B/\(decide (f<g)=true->(q (-1:Int)).same u)/\(decide (f<g)=false->h<=c - x/\c - x<j/\e<E/\h<=c - x/\c - x<n/\e<B/\(decide (g<f)=true->(q 1).same u)/\(decide (g<f)=false->r d/\((y.same y/\v.same v/\C.same C/\p.same p/\True)/\True)/\(h<=d/\d<=k/\γ7 (l - d.toNat) (bJ a)=γ7 (l - d.toNat) (bJ b))/\(k - d).toNat<(k - x).toNat)))/\(decide (x<k)=false->o.same u))) (by kernel_rfl) ?_;simp only[vcs];obtain⟨R,S⟩:=@rK a;obtain⟨O,N⟩:=@rK b;have z:=sV H;have w:=sV J;have W:=@uy a;rw[<-R,<-O];generalize bJ a=s at*;generalize bJ b=t at*;have G:bk s<bk t-> -1=lW (bk s) (bk t):=λh=>by simp_all[lW]
 have F:bk t<bk s->1=lW (bk s) (bk t):=λh=>by unfold lW;omega
 refine⟨r,q,λP=>⟨λh=>G (yc z w N (by omega)),λh=>F (yc w z S (by omega))⟩,λT=>⟨⟨by omega,by omega,?_⟩,?_⟩⟩;·rw[δ8 (by omega),δ8 (by omega)]
 rintro i ⟨U,X,A⟩;refine⟨λM=>?_,λQ=>?_⟩
 ·have K:((s.length:Int) - 1 - i).toNat=s.length - 1 - i.toNat:=by omega
  have D:s.length - i.toNat=s.length - 1 - i.toNat+1:=by omega
  rw[K];rw[D] at A;generalize V:s.length - 1 - i.toNat=m at*;refine⟨by omega,by omega,by omega,by omega,by omega,by omega,by omega,by omega,λh=>G (IA z w (by omega) (by omega) A h),λh=>⟨by omega,by omega,by omega,by omega,by omega,by omega,λI=>F (IA w z (by omega) (by omega) A.symm I),λI=>⟨by omega,⟨by omega,by omega,?_⟩,by omega⟩⟩⟩;rw[show s.length - (i+1).toNat=m by omega,DV (show m<s.length by omega),DV (show m<t.length by omega),A,show bj s m 0=bj t m 0 by omega]
 simp_all[lW]
def je (s t:List Int):Nat->Int
 |0=>0
 |i+1=>(bj s i 0+je s t i+bj t i 0) / 4294967296
def sW (s t:List Int) (i:Nat):Int:=(bj s i 0+je s t i+bj t i 0) % 4294967296
def pv (s t:List Int) (i:Nat):List Int:=(ω i).map (sW s t)++δ (s.length+1 - i) 0
def big (a:List Int×List Int):List Int:=if a.1.length<a.2.length then a.2 else a.1
def lX (a:List Int×List Int):List Int:=if a.1.length<a.2.length then a.1 else a.2
def Av:bM:=⟨165,List Int×List Int,.cons (dL (.i .u32)) (.one (dL (.i .u32))),λa=>(bA a.1/\bA a.2)/\a.1.length<=100000000000/\a.2.length<=100000000000,λa=> .row (.i .u32) (cO (bk a.1+bk a.2))⟩
def abe (a:List Int×List Int):Nat->cC
 |6=> .inv Int (λi=>⟨[(0,.row (.i .u32) (big a)),(1,.row (.i .u32) (lX a)),(5,.ow 0 (pv (big a) (lX a) i.toNat).length 1),(6,.si .u64 (je (big a) (lX a) i.toNat)),(21,.si .i64 (big a).length),(22,.si .i64 i)],[.row (.i .u32) (pv (big a) (lX a) i.toNat) 172 true]⟩) (λs=>iS s 22)
  (λi=>0<=i/\i<=(big a).length) (λi=>((big a).length - i).toNat) λ_ _=> .look
 |_=> .look
theorem eh {a:List Int} (h:bA a) (i:Nat):0<=bj a i 0/\bj a i 0<4294967296:=by
 by_cases b:i<a.length;·rw[cV b];exact h _ (List.getElem_mem b)
 grind[bj]
theorem DW {a:List Int} {i:Nat} (h:a.length<=i):bj a i 0=0:=by grind[bj]
theorem IB {s t:List Int} (b:bA s) (a:bA t):∀i,0<=je s t i/\je s t i<=1
 |0=>by simp[je];|i+1=>by
  have h:=IB b a i;have c:=eh b i;have d:=eh a i;grind[je]
theorem ye {s t:List Int} {i:Nat} (h:i<=s.length):(pv s t i).length=s.length+1:=by grind[pv]
theorem IC {s t:List Int} {i:Nat} {v:Int} (h:i<=s.length):(pv s t i).set i v=(ω i).map (sW s t)++v::δ (s.length - i) 0:=by
 unfold pv;have a:s.length+1 - i=(s.length - i)+1:=by omega
 rw[a,List.replicate_succ];simp_all
theorem Q9 {s t:List Int} {i:Nat} (h:i<s.length):pv s t (i+1)=(pv s t i).set i (sW s t i):=by
 rw[IC (by omega)];unfold pv;rw[εg,γa,γO];simp_all
theorem lY {a:List Int} {i:Nat}:bk (a.take (i+1))=bk (a.take i)+4294967296^i*bj a i 0:=by
 by_cases h:i<a.length;·grind[DU,yb]
 ·rw[DW (by omega),γo (by omega),γo (by omega)];simp
theorem IE {s t:List Int}:∀i,bk ((ω i).map (sW s t))+4294967296^i*je s t i=bk (s.take i)+bk (t.take i)
 |0=>by simp[je,bk];|i+1=>by
  have a:=@IE s t i;rw[εg,γa,π,γr,yb,lY,lY,γS];grind[sW,je]
theorem h154:Holds Tryz.prog Av:=by
 refine cH (L:=[rJ]) Av abe (by simpa using h152) ?_;rintro⟨a,b⟩ ⟨⟨ha,hb⟩,hla,hlb⟩;simp only at ha hb hla hlb;refine bQ (let c:=(18446744073709551616:Int);let d:=(0:Int);let e:=(4294967296:Int);let f:=γg .i64;let g:=Ω;let h:=bq.row;let j:=γZ;let m:=(↑(big (a,b)).length:Int);let q:=(↑(big (a,b)).length:Int);let r:=(↑(lX (a,b)).length:Int);let k:=bp.i .u32;let s:=g k (big (a,b));let t:=g k (lX (a,b));let v:=f m;let z:=pv (big (a,b)) (lX (a,b)) 0;let G:=∀(x:Int),let l:=pv (big (a,b)) (lX (a,b)) x.toNat;let n:=l.length;let o:=x+(1:Int);let A:=pv (big (a,b)) (lX (a,b)) o.toNat;let B:=f o;let C:=bj (big (a,b)) x.toNat d;let w:=je (big (a,b)) (lX (a,b)) x.toNat;let y:=l.set q.toNat (w % e);let D:=λ(u u_1:Int) ↦let E:=(u % c+u_1) % c;d<=(32:Int)/\(32:Int)<=(64:Int)/\l.length=n/\d<=x/\x<(↑n:Int)/\l.length=n/\x.toNat<n/\cq .i64 o/\((s.same s/\t.same t/\(j 0 l.length 1).same (j 0 A.length 1)/\(γg .u64 (E / e)).same (γg .u64 (je (big (a,b)) (lX (a,b)) o.toNat))/\v.same v/\B.same B/\True)/\(h k (l.set x.toNat (E % e)) 172 true).same (h k A 172 true)/\True)/\(d<=o/\o<=m)/\(m - o).toNat<(m - x).toNat;d<=x/\x<=m->(decide (x<m)=true->d<=x/\x<q/\x.toNat<(big (a,b)).length/\(decide (x<r)=true->d<=x/\x<r/\x.toNat<(lX (a,b)).length/\D (C % c+w) (bj (lX (a,b)) x.toNat d % c))/\(decide (x<r)=false->D C w))/\(decide (x<m)=false->l.length=n/\d<=q/\q<(↑n:Int)/\l.length=n/\q.toNat<n/\l.length=y.length/\y.length<=1000000000000/\(g k (bJ y)).same (g k (cO (bk a+bk b))));let F:=λ(u:Bool) (u_1 u_2:List Int) ↦let p:=(↑u_1.length:Int)+(1:Int);decide ((↑a.length:Int)<(↑b.length:Int))=u->cq .i64 p/\d<=p/\p<=p/\p*(4:Int)<=(140737488355328:Int)/\p<=(1000000000000:Int)/\((((g k u_1).same s/\(g k u_2).same t/\(j 0 p.toNat 1).same (j 0 z.length 1)/\(γA .u64 0).same (γg .u64 (je (big (a,b)) (lX (a,b)) 0))/\(f (↑u_1.length:Int)).same v/\(γA .i64 0).same (f 0)/\True)/\(h k (d::δ u_1.length d) 172 true).same (h k z 172 true)/\True)/\d<=d/\d<=m)/\G;F true b a/\F false a b) (by kernel_rfl) ?_;simp only[vcs];have hbs:(a.length<b.length/\big (a,b)=b/\lX (a,b)=a)\/(¬a.length<b.length/\big (a,b)=a/\lX (a,b)=b):=by
  by_cases h:a.length<b.length;·exact .inl ⟨h,if_pos h,if_pos h⟩
  ·exact .inr ⟨h,if_neg h,if_neg h⟩
 generalize big (a,b)=s at*;generalize lX (a,b)=t at*;have hrow:∀{u v:List Int},u=v->(bq.row (.i .u32) u 172 true).same (bq.row (.i .u32) v 172 true):=by rintro _ _ rfl;rfl
 have how:∀{u v:Nat},u=v->(γZ 0 u 1).same (γZ 0 v 1):=by rintro _ _ rfl;rfl
 have r0:∀u v:List Int,pv u v 0=0::δ u.length 0:=λu v=>rfl;refine⟨λh=>?_,λh=>?_⟩
 ·obtain⟨h1,e1,e2⟩:a.length<b.length/\s=b/\t=a:=by
   rcases hbs with h2|h2;·exact h2
   ·exact absurd (by omega) h2.1
  subst e1 e2;have hS:bA s:=by assumption
  have hT:bA t:=by assumption
  have hts:t.length<=s.length:=by omega
  have bd:=IB hS hT;refine⟨⟨by omega,by omega⟩,by omega,by omega,by omega,by omega,⟨⟨⟨rfl,rfl,how (by rw[ye (by omega)];omega),rfl,rfl⟩,hrow (r0 s t).symm⟩,by omega,by omega⟩,?_⟩;rintro i ⟨i0,i1⟩;have l1:=@ye s t i.toNat (by omega);have b1:=bd i.toNat;have d1:=eh hS i.toNat;have d2:=eh hT i.toNat;refine⟨λlZ=>?_,λnD=>?_⟩
  ·have l2:=@ye s t (i.toNat+1) (by omega);have e:(i+1).toNat=i.toNat+1:=by omega
   have hst:=Q9 (s:=s) (t:=t) (show i.toNat<s.length by omega);refine⟨i0,lZ,by omega,λht=>?_,λht=>?_⟩
   ·have hv:(((bj s i.toNat 0 % 18446744073709551616+je s t i.toNat) % 18446744073709551616+bj t i.toNat 0 % 18446744073709551616) % 18446744073709551616)=bj s i.toNat 0+je s t i.toNat+bj t i.toNat 0:=by omega
    rw[hv,e];exact⟨i0,ht,by omega,by omega,by omega,i0,by omega,by omega,by omega,⟨⟨how (by omega),rfl⟩,hrow hst.symm⟩,by omega,by omega⟩
   ·have hz:=DW (a:=t) (i:=i.toNat) (by omega);have hv:((bj s i.toNat 0 % 18446744073709551616+je s t i.toNat) % 18446744073709551616)=bj s i.toNat 0+je s t i.toNat+bj t i.toNat 0:=by omega
    rw[hv,e];exact⟨by omega,by omega,i0,by omega,by omega,by omega,⟨⟨how (by omega),rfl⟩,hrow hst.symm⟩,by omega,by omega⟩
  ·have hi:i.toNat=s.length:=by omega
   have hc:je s t i.toNat % 4294967296=je s t i.toNat:=by omega
   rw[hc,γl,hi];rw[hi] at l1 b1;refine⟨by omega,by omega,by omega,by simp,by simp;omega,?_⟩;rw[IC (ν _),Nat.sub_self,ε5,qG ?_]
   ·rw[yb];have hv:=@IE s t s.length;rw[ψ,γo hts] at hv;have hl:((ω s.length).map (sW s t)).length=s.length:=by simp
    rw[hl,hv];try rw[ζJ]
   ·intro d hd;rcases γk.1 hd with hd|hd
    ·obtain⟨j,_,rfl⟩:=Ψ.1 hd;unfold sW;omega
    ·rw[δx] at hd;omega
 ·obtain⟨h1,e1,e2⟩:¬a.length<b.length/\s=a/\t=b:=by
   rcases hbs with h2|h2;·exact absurd h2.1 (by omega)
   ·exact h2
  subst e1 e2;have hS:bA s:=by assumption
  have hT:bA t:=by assumption
  have hts:t.length<=s.length:=by omega
  have bd:=IB hS hT;refine⟨⟨by omega,by omega⟩,by omega,by omega,by omega,by omega,⟨⟨⟨rfl,rfl,how (by rw[ye (by omega)];omega),rfl,rfl⟩,hrow (r0 s t).symm⟩,by omega,by omega⟩,?_⟩;rintro i ⟨i0,i1⟩;have l1:=@ye s t i.toNat (by omega);have b1:=bd i.toNat;have d1:=eh hS i.toNat;have d2:=eh hT i.toNat;refine⟨λlZ=>?_,λnD=>?_⟩
  ·have l2:=@ye s t (i.toNat+1) (by omega);have e:(i+1).toNat=i.toNat+1:=by omega
   have hst:=Q9 (s:=s) (t:=t) (show i.toNat<s.length by omega);refine⟨i0,lZ,by omega,λht=>?_,λht=>?_⟩
   ·have hv:(((bj s i.toNat 0 % 18446744073709551616+je s t i.toNat) % 18446744073709551616+bj t i.toNat 0 % 18446744073709551616) % 18446744073709551616)=bj s i.toNat 0+je s t i.toNat+bj t i.toNat 0:=by omega
    rw[hv,e];exact⟨i0,ht,by omega,by omega,by omega,i0,by omega,by omega,by omega,⟨⟨how (by omega),rfl⟩,hrow hst.symm⟩,by omega,by omega⟩
   ·have hz:=DW (a:=t) (i:=i.toNat) (by omega);have hv:((bj s i.toNat 0 % 18446744073709551616+je s t i.toNat) % 18446744073709551616)=bj s i.toNat 0+je s t i.toNat+bj t i.toNat 0:=by omega
    rw[hv,e];exact⟨by omega,by omega,i0,by omega,by omega,by omega,⟨⟨how (by omega),rfl⟩,hrow hst.symm⟩,by omega,by omega⟩
  ·have hi:i.toNat=s.length:=by omega
   have hc:je s t i.toNat % 4294967296=je s t i.toNat:=by omega
   rw[hc,γl,hi];rw[hi] at l1 b1;refine⟨by omega,by omega,by omega,by simp,by simp;omega,?_⟩;rw[IC (ν _),Nat.sub_self,ε5,qG ?_]
   ·rw[yb];have hv:=@IE s t s.length;rw[ψ,γo hts] at hv;have hl:((ω s.length).map (sW s t)).length=s.length:=by simp
    rw[hl,hv];try rw[ζJ]
   ·intro d hd;rcases γk.1 hd with hd|hd
    ·obtain⟨j,_,rfl⟩:=Ψ.1 hd;unfold sW;omega
    ·rw[δx] at hd;omega
def gZ (d:Int):List Int->List Int×Int
 |[]=>([],0)
 |x::l=>(((gZ d l).2*4294967296+x) / d::(gZ d l).1,((gZ d l).2*4294967296+x) % d)
theorem Rb {d:Int}:∀{a:List Int},(gZ d a).1.length=a.length
 |[]=>rfl
 |x::l=>by simp[gZ,Rb]
theorem DX {d:Int} (e:0<d) (k:d<4294967296):∀{a:List Int},bA a->bA (gZ d a).1/\(0<=(gZ d a).2/\(gZ d a).2<d)/\bk (gZ d a).1*d+(gZ d a).2=bk a
 |[],_=>by grind[gZ,bk];|x::l,h=>by
  obtain⟨n,g⟩:=js.1 h;obtain⟨j,⟨p,s⟩,o⟩:=DX e k g;simp only[gZ];generalize (gZ d l).1=q at*;generalize (gZ d l).2=r at*;have f:=δL (r*4294967296+x) (show d≠0 by omega);have i:=δp (r*4294967296+x) e;have c:0<=(r*4294967296+x) / d:=δ0 (by omega) (by omega);have b:(r*4294967296+x) / d<4294967296:=by
   refine Int.ediv_lt_of_lt_mul e ?_;omega
  refine⟨js.2 ⟨⟨c,b⟩,j⟩,⟨f,i⟩,?_⟩;simp only[bk];have m:=εh (r*4294967296+x) d;grind
theorem abf {d:Int} (i:0<d) (h:d<4294967296) {a:List Int} (g:bA a):bJ (gZ d a).1=cO (bk a / d)/\(gZ d a).2=bk a % d:=by
 obtain⟨e,⟨c,b⟩,f⟩:=DX i h g;rw[qG e];have j:=fi e;have k:bk a / d=bk (gZ d a).1:=by
  rw[<-f,ζJ,Int.add_mul_ediv_right _ _ (by omega),εM c b,Int.zero_add]
 have l:bk a % d=(gZ d a).2:=by
  rw[<-f,ζJ,Int.add_mul_emod_self_right,δJ c b]
 simp_all
theorem IG {r x:Int} (d:0<=r) (g:r<4294967296) (a:0<=x) (e:x<4294967296):gY.nZ .u64 (r*4294967296) x=r*4294967296+x:=by
 obtain⟨m,rfl⟩:=δE d;obtain⟨k,rfl⟩:=δE a;have b:(γn 64 ((m:Int)*4294967296)).toNat=2^32*m:=by
  grind[BitVec.toNat_ofInt]
 have c:(γn 64 (k:Int)).toNat=k:=by
  grind
 have f:(γn 64 ((m:Int)*4294967296) |||γn 64 (k:Int)).toNat=2^32*m+k:=by
  rw[BitVec.toNat_or,b,c,Nat.two_pow_add_eq_or_of_lt (by omega)]
 show eX .u64 ((γn 64 ((m:Int)*4294967296) |||γn 64 (k:Int)).toNat:Nat)=_;grind[tW,IntKind.wrap,IntKind.bits,IntKind.signed]
def II:bM:=⟨186,List Int×Int,.cons (dL (.i .u32)) (.one (eZ .u32)),λa=>bA a.1/\a.1.length<=100000000000/\0<a.2/\a.2<4294967296,λa=> .bI [.row (.i .u32) (cO (bk a.1 / a.2)),.si .u32 (bk a.1 % a.2)]⟩
def l8 (a:List Int) (d:Int) (i:Nat):List Int:=δ (a.length - i) 0++(gZ d (a.drop (a.length - i))).1
def lG (a:List Int) (d:Int) (i:Nat):Int:=(gZ d (a.drop (a.length - i))).2
def abg (a:List Int×Int):Nat->cC
 |4=> .inv Int (λi=>⟨[(0,.row (.i .u32) a.1),(1,.si .u32 a.2),(6,.ow 0 (l8 a.1 a.2 i.toNat).length 1),(7,.si .u64 (lG a.1 a.2 i.toNat)),(15,.si .i64 a.1.length),(16,.si .i64 i)],[.row (.i .u32) (l8 a.1 a.2 i.toNat) 172 true]⟩) (λs=>iS s 16)
  (λi=>0<=i/\i<=a.1.length) (λi=>(a.1.length - i).toNat) λ_ _=> .look
 |_=> .look
theorem IJ {a:List Int} {d:Int} {i:Nat} (h:i<=a.length):(l8 a d i).length=a.length:=by
 grind[l8,Rb]
theorem drop_cons {a:List Int} {k:Nat} (h:k<a.length):a.drop k=bj a k 0::a.drop (k+1):=DV h
theorem Re {q:List Int} {y:Int}:∀k,(δ (k+1) 0++q).set k y=δ k 0++y::q
 |0=>by simp;|k+1=>by
  have:=@Re q y k;grind
theorem u64_in {n:Int} (b:0<=n) (a:n<18446744073709551616):cq .u64 n:=by
 show IntKind.u64.wrap n=n;grind[IntKind.wrap,IntKind.bits,IntKind.signed]
theorem h167:Holds Tryz.prog II:=by
 refine cH (L:=[rJ]) II abg (by simpa using h152) ?_;rintro⟨a,d⟩ ⟨ha,hla,d0,d1⟩;simp only at ha hla d0 d1;refine bQ (let b:=(0:Int);let c:=(18446744073709551616:Int);let e:=(4294967296:Int);let f:=γg .i64;let g:=Ω;let h:=bq.row;let j:=cq .i64;let k:=(1:Int);let l:=γZ;let n:=(↑a.length:Int);let o:=bp.i .u32;let q:=(↑a.length:Int);let t:=f q;let s:=d % c;b<=n/\n<=n/\n*(4:Int)<=(140737488355328:Int)/\n<=(1000000000000:Int)/\((((g o a).same (g o a)/\(γg .u32 d).same (γg .u32 d)/\(l 0 n.toNat 1).same (l 0 (l8 a d 0).length 1)/\(γA .u64 0).same (γg .u64 (lG a d 0))/\(f n).same t/\(γA .i64 0).same (f 0)/\True)/\(h o (δ n.toNat b) 172 true).same (h o (l8 a d 0) 172 true)/\True)/\b<=b/\b<=q)/\∀(x:Int),let p:=n - k - x;let u:=gY.nZ .u64 (lG a d x.toNat*e % c) (bj a p.toNat b % c);let m:=l8 a d x.toNat;let r:=x+k;let v:=f r;b<=x/\x<=q->(decide (x<q)=true->j (n - k)/\j p/\b<=(32:Int)/\(32:Int)<=(64:Int)/\b<=p/\p<n/\p.toNat<a.length/\s≠b/\cq .u64 (u.tdiv s)/\s≠b/\m.length=m.length/\b<=p/\p<(↑m.length:Int)/\m.length=m.length/\p.toNat<m.length/\j r/\(((g o a).same (g o a)/\(γg .u32 d).same (γg .u32 d)/\(l 0 m.length 1).same (l 0 (l8 a d r.toNat).length 1)/\(γg .u64 (u.tmod s)).same (γg .u64 (lG a d r.toNat))/\t.same t/\v.same v/\True)/\(h o (m.set p.toNat (u.tdiv s % e)) 172 true).same (h o (l8 a d r.toNat) 172 true)/\True)/\(b<=r/\r<=q)/\(q - r).toNat<(q - x).toNat)/\(decide (x<q)=false->m.length=m.length/\m.length<=1000000000000/\(SV.bI [g o (bJ m),γg .u32 (lG a d x.toNat % e)]).same (SV.bI [g o (cO (bk a / d)),γg .u32 (bk a % d)]))) (by kernel_rfl) ?_;simp only[vcs];have hrow:∀{u v:List Int},u=v->(bq.row (.i .u32) u 172 true).same (bq.row (.i .u32) v 172 true):=by rintro _ _ rfl;rfl
 have how:∀{u v:Nat},u=v->(γZ 0 u 1).same (γZ 0 v 1):=by rintro _ _ rfl;rfl
 have z1:l8 a d 0=δ a.length 0:=by simp[l8,gZ]
 have z2:lG a d 0=0:=by simp[lG,gZ]
 refine⟨by omega,by omega,by omega,by omega,⟨⟨⟨how (by rw[IJ (by omega)];omega),z2.symm⟩,hrow (by rw[z1,γl])⟩,by omega,by omega⟩,?_⟩;rintro i ⟨i0,i1⟩;have l1:=@IJ a d i.toNat (by omega);have l2:=λh=>@IJ a d (i+1).toNat h;have dd:d % 18446744073709551616=d:=by omega
 refine⟨λlZ=>?_,λnD=>?_⟩
 ·have hx:((a.length:Int) - 1 - i).toNat=a.length - 1 - i.toNat:=by omega
  have hk1:a.length - i.toNat=a.length - 1 - i.toNat+1:=by omega
  have hk2:a.length - (i+1).toNat=a.length - 1 - i.toNat:=by omega
  have hR:l8 a d i.toNat=δ (a.length - 1 - i.toNat+1) 0++(gZ d (a.drop (a.length - 1 - i.toNat+1))).1:=by unfold l8;rw[hk1]
  have hC:lG a d i.toNat=(gZ d (a.drop (a.length - 1 - i.toNat+1))).2:=by unfold lG;rw[hk1]
  have hR2:l8 a d (i+1).toNat=δ (a.length - 1 - i.toNat) 0++(gZ d (a.drop (a.length - 1 - i.toNat))).1:=by unfold l8;rw[hk2]
  have hC2:lG a d (i+1).toNat=(gZ d (a.drop (a.length - 1 - i.toNat))).2:=by unfold lG;rw[hk2]
  have hlt:a.length - 1 - i.toNat<a.length:=by omega
  rw[hx];have l3:=l2 (by omega);generalize a.length - 1 - i.toNat=k at*;have hdr:=drop_cons hlt;have hdig:bA (a.drop k):=λz hz=>ha z (γU hz);obtain⟨q1,q2,q3⟩:=DX d0 d1 (a:=a.drop (k+1)) (λz hz=>ha z (γU hz));obtain⟨p1,p2,p3⟩:=DX d0 d1 hdig;rw[hdr] at hR2 hC2 p1 p2;simp only[gZ] at hR2 hC2 p1 p2;have hxd:=eh ha k;rw[<-hC] at hR2 hC2 p1 p2 q2;have e1:lG a d i.toNat*4294967296 % 18446744073709551616=lG a d i.toNat*4294967296:=by omega
  have e2:bj a k 0 % 18446744073709551616=bj a k 0:=by omega
  rw[e1,e2,dd,IG (by omega) (by omega) hxd.1 hxd.2];have hv0:0<=lG a d i.toNat*4294967296+bj a k 0:=by omega
  rw[ζb hv0,ζc hv0];have hq:=(js.1 p1).1;have hqm:(lG a d i.toNat*4294967296+bj a k 0) / d % 4294967296=(lG a d i.toNat*4294967296+bj a k 0) / d:=δJ hq.1 hq.2;rw[hqm];refine⟨by omega,by omega,by omega,by omega,by omega,by omega,by omega,by omega,u64_in hq.1 (by omega),by omega,by omega,by omega,by omega,by omega,⟨⟨how (by omega),hC2.symm⟩,hrow ?_⟩,by omega,by omega⟩;rw[hR2,hR,Re]
 ·have hi:a.length - i.toNat=0:=by omega
  have hR:l8 a d i.toNat=(gZ d a).1:=by unfold l8;rw[hi];simp
  have hC:lG a d i.toNat=(gZ d a).2:=by unfold lG;rw[hi];simp
  obtain⟨k1,k2⟩:=abf d0 d1 ha;have hm:=δL (bk a) (show d≠0 by omega);have hl:=δp (bk a) d0;refine⟨by omega,by rw[hR,k1],?_⟩;rw[hC,k2];omega
def iy:Nat->Int->List Int
 |0,_=>[]
 |k+1,x=>x % 4294967296::iy k (x / 4294967296)
theorem Aw:∀{k:Nat} {x:Int},(iy k x).length=k
 |0,_=>rfl
 |k+1,x=>by simp[iy,Aw]
theorem IK:∀{k:Nat} {x:Int},bA (iy k x)
 |0,_=>by simp[iy,bA];|k+1,x=>js.2 ⟨by omega,IK⟩
theorem Rf:∀{l:List Int},bA l->iy l.length (bk l)=l
 |[],_=>rfl
 |d::l,h=>by
  obtain⟨e,b⟩:=js.1 h;simp only[γF,iy,bk];have c:(d+4294967296*bk l) % 4294967296=d:=by omega
  have a:(d+4294967296*bk l) / 4294967296=bk l:=by omega
  rw[c,a,Rf b]
theorem IL {l:List Int} {k:Nat} {x:Int} (h:bA l) (b:l.length=k) (a:bk l=x):l=iy k x:=by
 grind[Rf]
theorem pow_pos (k:Nat):(0:Int)<4294967296^k:=Int.pow_pos (by decide)
theorem IP:∀{k:Nat} {x:Int},0<=x->x<4294967296^k->bk (iy k x)=x
 |0,x,b,a=>by grind[iy,bk];|k+1,x,b,a=>by
  rw[γS] at a;simp only[iy,bk];rw[IP (k:=k) (x:=x / 4294967296) (by omega) (by omega)];omega
theorem IQ:∀{a b:List Int},bk (a++b)=bk a+4294967296^a.length*bk b
 |[],b=>by simp[bk];|d::l,b=>by
  simp only[γH,bk,IQ,γF,γS,εA];grind
theorem uz:∀{l:List Int} {j:Nat} {v:Int},j<l.length->bk (l.set j v)=bk l+4294967296^j*(v - bj l j 0)
 |[],_,_,h=>by simp at h;|d::l,0,v,_=>by grind[bk,bj];|d::l,j+1,v,h=>by
  have a:=@uz l j v (by simpa using h);grind[bj,bk]
theorem nE {l:List Int} {j:Nat} {v:Int} (h:bA l) (c:0<=v) (b:v<4294967296):bA (l.set j v):=by
 intro d a;rcases List.mem_or_eq_of_mem_set a with a|rfl;·exact h d a
 omega
theorem Ax {a:List Int} (h:bA a) (n:Nat):bA (a.drop n):=λd b=>h d (γU b)
theorem Rh {a b:List Int} (e:bA a) (c:bA b):bA (a++b):=λd f=>by
 rcases γk.1 f with h|h;·exact e d h
 ·exact c d h
theorem sX {l:List Int} {j:Nat} {v:Int} (h:j<l.length):bj (l.set j v) j 0=v:=by
 grind[bj]
theorem pV {l:List Int} {i j:Nat} {v:Int} (h:i≠j):bj (l.set i v) j 0=bj l j 0:=by
 grind[bj]
theorem Az:∀{l:List Int} {i j:Nat},bA l->bk l<4294967296^i->i<=j->bj l j 0=0
 |[],_,_,_,_,_=>by simp[bj];|d::l,0,j,h,a,c=>by
  obtain⟨e,b⟩:=js.1 h;have:=fi b;simp only[bk,Int.pow_zero] at a;have f:d=0:=by omega
  have g:bk l=0:=by omega
  cases j with
  |zero=>simp[bj,f];|succ j=>
   have:=Az (l:=l) (i:=0) (j:=j) b (by simp;omega) (by omega);grind[bj]
 |d::l,i+1,j,h,a,c=>by
  obtain⟨e,b⟩:=js.1 h;cases j with
  |zero=>omega;|succ j=>
   rw[γS] at a;simp only[bk] at a;have:=Az (l:=l) (i:=i) (j:=j) b (by omega) (by omega);grind[bj]
def iz (o b:List Int) (x:Int) (i:Nat):Nat->List Int×Int
 |0=>(o,0)
 |k+1=>((iz o b x i k).1.set (i+k) ((x*bj b k 0+bj (iz o b x i k).1 (i+k) 0+(iz o b x i k).2) % 4294967296),(x*bj b k 0+bj (iz o b x i k).1 (i+k) 0+(iz o b x i k).2) / 4294967296)
theorem Ri {o b:List Int} {x:Int} {i:Nat} (d:bA o) (g:bA b) (f:0<=x) (m:x<4294967296):∀{k:Nat},i+k<=o.length->
  bA (iz o b x i k).1/\(iz o b x i k).1.length=o.length/\(0<=(iz o b x i k).2/\(iz o b x i k).2<4294967296)/\(∀j,i+k<=j->bj (iz o b x i k).1 j 0=bj o j 0)/\
  bk (iz o b x i k).1+4294967296^(i+k)*(iz o b x i k).2=bk o+4294967296^i*(x*bk (b.take k))
 |0,h=>by simp[iz,d,bk];|k+1,h=>by
  obtain⟨l,t,⟨v,s⟩,u,r⟩:=@Ri o b x i d g f m k (by omega);simp only[iz];generalize (iz o b x i k).1=p at*;generalize (iz o b x i k).2=c at*;have a:=eh g k;have q:=eh l (i+k);have n:0<=x*bj b k 0:=γu f a.1;have e:x*bj b k 0<=4294967295*4294967295:=δF (by omega) (by omega) a.1 (by omega);grind[nE,uz,lY,bj]
def prt (U:List Int) (j k:Nat):List Int:=(U.drop j).take k
theorem Rj {U:List Int} {j k:Nat}:bj (U.drop j) k 0=bj U (j+k) 0:=by
 grind[bj]
theorem l9 {U:List Int} {j k:Nat}:bk (prt U j (k+1))=bk (prt U j k)+4294967296^k*bj U (j+k) 0:=by
 grind[prt,lY,Rj]
theorem uA {U:List Int} {j k i:Nat} {d:Int} (h:k<=i):prt (U.set (j+i) d) j k=prt U j k:=by
 unfold prt;apply List.ext_getElem?;grind
theorem uB {U:List Int} (h:bA U) {j k:Nat}:bA (prt U j k):=nC (Ax h j) k
theorem abh {U:List Int} {j k:Nat} (h:j+k<=U.length):(prt U j k).length=k:=by
 grind[prt]
theorem v8 {U:List Int} (h:bA U) {j k:Nat}:bk (prt U j k)<4294967296^k:=by
 have g:=oz (uB h (j:=j) (k:=k));have e:(prt U j k).length<=k:=by grind[prt]
 have i:(4294967296:Int)^(prt U j k).length<=4294967296^k:=by
  have d:∀{a b:Nat},a<=b->(4294967296:Int)^a<=4294967296^b:=λ{a b} c=>by
   obtain⟨m,rfl⟩:=Nat.exists_eq_add_of_le c;rw[Int.pow_add];have f:=pow_pos a;have l:=pow_pos m;have:=Θ (show(1:Int)<=4294967296^m by omega) (γe f);omega
  exact d e
 omega
def ju (U:List Int) (j:Nat) (l:List Int):List Int:=U.take j++(l++U.drop (j+l.length))
theorem abj {a b:List Int} (c:a.length=b.length) (h:∀m,bj a m 0=bj b m 0):a=b:=by
 apply List.ext_getElem c;intro m d e;have:=h m;grind[cV]
theorem Rk {U l:List Int} {j:Nat} (h:j+l.length<=U.length):(ju U j l).length=U.length:=by
 grind[ju]
theorem abk {U l:List Int} {j m:Nat} (h:j+l.length<=U.length):bj (ju U j l) m 0=if m<j then bj U m 0 else if m<j+l.length then bj l (m - j) 0 else bj U m 0:=by
 unfold ju bj;grind
theorem yf {U W:List Int} {j k:Nat} {x:Int} (d:bA W) (f:W.length=U.length) (g:j+k<=U.length) (e:∀m,(m<j\/j+k<=m)->bj W m 0=bj U m 0) (a:bk (prt W j k)=x):W=ju U j (iy k x):=by
 have b:prt W j k=iy k x:=IL (uB d) (abh (by omega)) a;have c:=@Aw k x;apply abj;·grind[Rk]
 ·intro m;rw[abk (by omega),c];split;·simp_all
  ·split
   ·rw[<-b];unfold prt;have:bj ((W.drop j).take k) (m - j) 0=bj (W.drop j) (m - j) 0:=by
     unfold bj;grind
    grind[Rj]
   simp_all
section
variable {P V X v1 v2 u2 top rv ru g r:Int}
theorem abl (e:0<P) (n:V=rv+P*(v2+4294967296*v1)) (l:X=ru+P*(u2+4294967296*top)) (a:0<=rv) (f:ru<P) (d:X<4294967296*V) (b:0<=V)
  (c:0<=g) (j:g*v1+r=top) (h:4294967296<=g\/r*4294967296+u2<g*v2):X<g*V:=by
 rcases h with h|h;·exact Int.lt_of_lt_of_le d (γT h b)
 ·have k:g*V=g*rv+P*(g*v2+4294967296*(top - r)):=by
   grind
  have i:P*(u2+1+4294967296*top)<=P*(g*v2+4294967296*(top - r)):=Θ (by omega) (γe e);have m:0<=g*rv:=γu c a;grind
theorem Rl (c:0<P) (k:V=rv+P*(v2+4294967296*v1)) (n:X=ru+P*(u2+4294967296*top)) (a:0<=rv) (b:rv<P) (f:0<=ru) (e:2147483648<=v1) (j:0<=v2)
  (i:0<=g) (d:g<4294967296) (o:g*v1+r=top) (h:g*v2<=r*4294967296+u2):g*V<X+V:=by
 have m:g*V=g*rv+P*(g*v2+4294967296*(top - r)):=by
  grind
 have q:P*(g*v2+4294967296*(top - r))<=P*(u2+4294967296*top):=Θ (by omega) (γe c);have p:g*rv<=4294967295*rv:=γT (by omega) a;have l:P*4294967296<=P*(v2+4294967296*v1):=Θ (by omega) (γe c);omega
theorem abm (c:0<P) (p:V=rv+P*(v2+4294967296*v1)) (k:X=ru+P*(u2+4294967296*top)) (b:0<=rv) (e:ru<P) (a:0<=v2) (f:u2<4294967296)
  (d:0<=g) (o:g*v1+r=top) (l:r<v1):X<(g+1)*V:=by
 have n:(g+1)*V=(g+1)*rv+((g+1)*(P*v2)+P*(4294967296*((g+1)*v1))):=by
  grind
 have j:0<=(g+1)*rv:=γu (by omega) b;have h:0<=(g+1)*(P*v2):=γu (by omega) (γu (γe c) a);have i:top+1<=(g+1)*v1:=by grind
 have m:P*(u2+1+4294967296*top)<=P*(4294967296*((g+1)*v1)):=Θ (by omega) (γe c);grind
theorem abn {b a:Int} (c:0<P) (l:V=rv+P*(v2+4294967296*v1)) (k:X=ru+P*(u2+4294967296*(b+4294967296*a))) (d:rv<P) (f:0<=ru) (e:0<=u2) (i:0<=b) (j:v2<4294967296)
  (g:X<4294967296*V):a<=v1:=by
 by_cases h:a<=v1;·exact h
 ·exfalso;have m:P*(4294967296*(4294967296*(v1+1)))<=P*(u2+4294967296*(b+4294967296*a)):=Θ (by omega) (γe c);have n:P*(v2+4294967296*v1)<=P*(4294967296*(v1+1) - 1):=Θ (by omega) (γe c);grind
theorem wb {X V q:Int} (e:q*V<=X) (c:X<(q+1)*V):X / V=q/\X % V=X - q*V:=by
 rw[Int.add_mul,εB] at c;have d:0<V:=by omega
 have b:X=(X - q*V)+V*q:=by grind
 have a:X / V=q:=by
  conv=>lhs;rw[b]
  rw[Int.add_mul_ediv_left _ _ (by omega),εM (by omega) (by omega),Int.zero_add]
 refine⟨a,?_⟩;rw[Int.emod_def,a,δ3]
end
theorem IU {p:Int} (a:0<=p) (e:p<18446744073709551616):gY.vH .u64 p 4294967295=p % 4294967296:=by
 obtain⟨m,rfl⟩:=δE a;have b:(γn 64 ((m:Nat):Int)).toNat=m:=by grind
 have c:(γn 64 4294967295).toNat=4294967295:=by simp_all
 have d:(γn 64 ((m:Nat):Int) &&&γn 64 4294967295).toNat=m % 4294967296:=by
  rw[BitVec.toNat_and,b,c];exact Nat.and_two_pow_sub_one_eq_mod m 32
 show eX .u64 ((γn 64 ((m:Nat):Int) &&&γn 64 4294967295).toNat:Nat)=_;grind[tW,IntKind.wrap,IntKind.bits]
theorem IV {U W v:List Int} {j i:Nat} {g c b d e:Int} (n:bA W) (f:W.length=U.length) (o:bA v) (h:0<=g) (r:g<4294967296) (y:0<=c) (t:c<4294967296) (s:0<=b) (q:b<=1) (u:j+i<U.length)
  (l:∀m,(m<j\/j+i<=m)->bj W m 0=bj U m 0)
  (k:bk (prt W j i)=bk (prt U j i) - g*bk (v.take i)+4294967296^i*(c+b))
  (a:0<=d/\d<4294967296) (w:d - 4294967296*e=bj W (j+i) 0 - (g*bj v i 0+c) % 4294967296 - b):
  bA (W.set (j+i) d)/\(W.set (j+i) d).length=U.length/\(0<=(g*bj v i 0+c) / 4294967296/\(g*bj v i 0+c) / 4294967296<4294967296)/\
  (∀m,(m<j\/j+(i+1)<=m)->bj (W.set (j+i) d) m 0=bj U m 0)/\
  bk (prt (W.set (j+i) d) j (i+1))=bk (prt U j (i+1)) - g*bk (v.take (i+1))+4294967296^(i+1)*((g*bj v i 0+c) / 4294967296+e):=by
 have x:=eh o i;have z:0<=g*bj v i 0:=γu h x.1;have p:g*bj v i 0<=4294967295*4294967295:=δF (by omega) (by omega) x.1 (by omega);refine⟨nE n a.1 a.2,by simp[f],by omega,λm A=>by grind[pV],?_⟩;have B:=l (j+i) (.inr (ν _));rw[l9,l9,uA (ν _),sX (by omega),k,lY,γS];grind
theorem IW {U W v:List Int} {j i:Nat} {c s:Int} (a:bA W) (d:W.length=U.length) (b:bA v) (n:0<=c) (l:c<=1) (h:j+i<U.length) (g:bA U)
  (e:∀m,(m<j\/j+i<=m)->bj W m 0=bj U m 0)
  (k:bk (prt W j i)+4294967296^i*c=bk (prt U j i)+bk (v.take i)) (o:s=bj W (j+i) 0+bj v i 0+c):
  bA (W.set (j+i) (s % 4294967296))/\(W.set (j+i) (s % 4294967296)).length=U.length/\(0<=s / 4294967296/\s / 4294967296<=1)/\
  (∀m,(m<j\/j+(i+1)<=m)->bj (W.set (j+i) (s % 4294967296)) m 0=bj U m 0)/\
  bk (prt (W.set (j+i) (s % 4294967296)) j (i+1))+4294967296^(i+1)*(s / 4294967296)=bk (prt U j (i+1))+bk (v.take (i+1)):=by
 have x:=eh b i;have y:=eh a (j+i);refine⟨nE a (by omega) (by omega),by simp[d],by omega,λm p=>by grind[pV],?_⟩;have f:=e (j+i) (.inr (ν _));rw[l9,l9,uA (ν _),sX (by omega),lY,γS];grind
theorem abo {v:List Int} {n:Nat} (a:2<=n) (b:v.length=n):bk v=bk (v.take (n - 2))+4294967296^(n - 2)*(bj v (n - 2) 0+4294967296*bj v (n - 1) 0):=by
 obtain⟨m,rfl⟩:∃m,n=m+2:=⟨n - 2,by omega⟩;grind[lY]
theorem abp {U:List Int} {j n:Nat} (a:2<=n):bk (prt U j (n+1))=bk (prt U j (n - 2))+4294967296^(n - 2)*(bj U (j+(n - 2)) 0+4294967296*(bj U (j+(n - 1)) 0+4294967296*bj U (j+n) 0)):=by
 obtain⟨m,rfl⟩:∃m,n=m+2:=⟨n - 2,by omega⟩;grind[l9]
structure nG where
 U:List Int
 j:Nat
 len:Nat
 n:Nat
 v:List Int
def nG.x (a:nG):Int:=bk (prt a.U a.j (a.v.length+1))
def nG.ok (a:nG):Prop:=(bA a.U/\bA a.v)/\(a.len=a.v.length+1/\a.n=a.U.length)/\(2<=a.v.length/\a.j+a.v.length+1<=a.U.length/\a.U.length<=200000000000)/\
 2147483648<=bj a.v (a.v.length - 1) 0/\a.x<4294967296*bk a.v
def nG.row (a:nG):List Int:=ju a.U a.j (iy (a.v.length+1) (a.x % bk a.v))
def IX:dG where
 f:=188;α:=nG;put a:=[.oc 0 a.j a.len a.n 1,.row (.i .u32) a.v];st a:=[.row (.i .u32) a.U 172 false];dec v o:=match v,o with
  |[.oc 0 j len n 1,v],[.row t l 172 false]=>match jJ (.i .u32) v,iH t (.i .u32) l with
   |some v,some l=>some ⟨l,j,len,n,v⟩
   |_,_=>none
  |_,_=>none;ok v o a h:=by
  split at h
  ·split at h
   ·rename_i h1 h2;simp only[γ] at h;subst h;obtain⟨rfl,hh⟩:=mJ h2;cases hh;exact⟨by simp only[gL,pe h1],rfl⟩
   ·cases h
  ·cases h
 inj a b h1 h2:=by
  obtain⟨U,j,len,n,v⟩:=a;obtain⟨U',j',len',n',v'⟩:=b;simp only[gL,Γ,and_true] at h1;obtain⟨g1,g2⟩:=h1;have e2:=(dL (.i .u32)).inj _ _ g2;simp only[SV.g,AV.os.injEq,true_and,bp.sz,Nat.mul_one] at g1;simp only[gO,π,γr,bq.g,Γ,bR.cells.injEq,and_true] at h2;have hl:U=U':=by
   have hf:=congrArg List.length h2;rw[eY,eY] at hf;exact lA (.i .u32) (by simpa[bp.sz] using hf) h2
  obtain⟨q1,q2,q3⟩:=g1;subst q3;have:j=j':=by omega
  rw[e2,hl,q2,this]
 dom:=nG.ok;res a:=.si .u32 (a.x / bk a.v);out a:=[.row (.i .u32) a.row 172 false]
def IY (U:List Int):bZ:=[.row (.i .u32) U 172 false]
def abq (a:nG):Nat->cC
 |4=> .inv (Int×Int) (λx=>⟨[(0,.oc 0 a.j a.len a.n 1),(1,.row (.i .u32) a.v),(5,.si .i64 a.v.length),(7,.si .u64 x.1),(8,.si .u64 x.2)],IY a.U⟩) (λs=>(iS s 7,iS s 8))
  (λx=>(0<=x.1/\x.1<=4294967297)/\(0<=x.2/\x.2<4294967296)/\x.1*bj a.v (a.v.length - 1) 0+x.2=bj a.U (a.j+(a.v.length - 1)) 0+4294967296*bj a.U (a.j+a.v.length) 0/\a.x<(x.1+1)*bk a.v) (λx=>x.1.toNat) λ_ _=> .look
 |10=> .inv (Int×Int×Int×Int×List Int) (λx=>⟨[(0,.oc 0 a.j a.len a.n 1),(1,.row (.i .u32) a.v),(5,.si .i64 a.v.length),(7,.si .u64 x.2.1),(9,.si .u64 x.2.2.1),(10,.si .u64 x.2.2.2.1),(82,.si .i64 a.v.length),(83,.si .i64 x.1)],IY x.2.2.2.2⟩)
  (λs=>(iS s 83,iS s 7,iS s 9,iS s 10,oS (.i .u32) s 0))
  (λx=>(0<=x.1/\x.1<=a.v.length)/\(0<=x.2.1/\x.2.1<4294967296)/\(a.x<(x.2.1+1)*bk a.v/\x.2.1*bk a.v<a.x+bk a.v)/\(0<=x.2.2.1/\x.2.2.1<4294967296)/\(0<=x.2.2.2.1/\x.2.2.2.1<=1)/\(bA x.2.2.2.2/\x.2.2.2.2.length=a.U.length)/\
   (∀m,(m<a.j\/a.j+x.1.toNat<=m)->bj x.2.2.2.2 m 0=bj a.U m 0)/\
   bk (prt x.2.2.2.2 a.j x.1.toNat)=bk (prt a.U a.j x.1.toNat) - x.2.1*bk (a.v.take x.1.toNat)+4294967296^x.1.toNat*(x.2.2.1+x.2.2.2.1)) (λx=>(a.v.length - x.1).toNat) λ_ _=> .look
 |23=> .inv (Int×Int×Int×List Int) (λx=>⟨[(0,.oc 0 a.j a.len a.n 1),(1,.row (.i .u32) a.v),(5,.si .i64 a.v.length),(7,.si .u64 x.2.1),(9,.si .u64 x.2.2.1),(134,.si .i64 a.v.length),(135,.si .i64 x.1)],IY x.2.2.2⟩)
  (λs=>(iS s 135,iS s 7,iS s 9,oS (.i .u32) s 0))
  (λx=>(0<=x.1/\x.1<=a.v.length)/\(0<=x.2.1/\x.2.1<4294967296)/\(a.x<x.2.1*bk a.v/\x.2.1*bk a.v<a.x+bk a.v)/\(0<=x.2.2.1/\x.2.2.1<=1)/\(bA x.2.2.2/\x.2.2.2.length=a.U.length)/\
   ∃W,(bA W/\W.length=a.U.length)/\(∀m,(m<a.j\/a.j+(a.v.length+1)<=m)->bj W m 0=bj a.U m 0)/\bk (prt W a.j (a.v.length+1))=a.x - x.2.1*bk a.v+4294967296^(a.v.length+1)/\
    (∀m,(m<a.j\/a.j+x.1.toNat<=m)->bj x.2.2.2 m 0=bj W m 0)/\bk (prt x.2.2.2 a.j x.1.toNat)+4294967296^x.1.toNat*x.2.2.1=bk (prt W a.j x.1.toNat)+bk (a.v.take x.1.toNat))
  (λx=>(a.v.length - x.1).toNat) λ_ _=> .look
 |_=> .look
theorem h169:ec Tryz.prog IX:=by
 refine lB (L:=[]) (W:=[]) IX abq (by simp) (by simp) ?_;rintro⟨U,j,len,n,v⟩ ⟨⟨hU,hv⟩,⟨e1,e2⟩,⟨hn,hj,hlU⟩,hv1,hx⟩;simp only at hU hv hn hj hlU hv1 hx e1 e2;subst e1 e2;refine bQ (let a:=(18446744073709551616:Int);let b:=(0:Int);let c:=(4294967296:Int);let d:=(1:Int);let e:=Ω;let f:=γg .i64;let g:=(32:Int);let h:=cq .i64;let k:=(9223372036854775808:Int);let l:=(4294967297:Int);let n:=(64:Int);let o:=bq.row;let p:=γA .i64 0;let q:=(63:Int);let r:=γA .i64;let D:=(↑v.length:Int);let y:=v.length+1;let F:=(↑y:Int);let B:=D - d;let Q:=bj v B.toNat b % a;let a7:=gY.nZ .u64 (bj U (j+D.toNat) 0 % a*c % a) (bj U (j+B.toNat) 0 % a);let K:=a7.tdiv Q;let C:=SV.oc 0 j y U.length 1;let w:=bp.i .u32;let s:=(↑v.length:Int);let t:=f s;let a8:=γg .u64 K;let R:=a7.tmod Q;let a9:=γg .u64 R;let J:=o w U 172 false;let aa:=v.length - 1;let a3:=bj v aa b;let a4:=bj U (j+aa) 0+c*bj U (j+v.length) 0;let ab:=nG.mk U j y U.length v;let E:=ab.x;let L:=s - d;let aJ:=bj v L.toNat b % a;let M:=E+bk v;let S:=bk (prt U j 0);let I:=j+s.toNat;let ac:=γg .u32 (E / bk v);let ad:=o w ab.row 172 false;let ae:=c^y;let H:=s - (2:Int);U.length=U.length/\b<=D/\D<F/\j+y<=U.length/\U.length=U.length/\j+D.toNat<U.length/\b<=g/\g<=n/\h B/\U.length=U.length/\b<=B/\B<F/\j+y<=U.length/\U.length=U.length/\j+B.toNat<U.length/\h B/\b<=B/\B<D/\B.toNat<v.length/\Q≠b/\cq .u64 K/\h B/\b<=B/\B<D/\B.toNat<v.length/\Q≠b/\(((C.same C/\(e w v).same (e w v)/\(f D).same t/\a8.same a8/\a9.same a9/\True)/\J.same J/\True)/\(b<=K/\K<=l)/\(b<=R/\R<c)/\K*a3+R=a4/\E<(K+d)*bk v)/\∀(x:Int×Int),let N:=(x.snd+aJ) % a;let af:=decide (c<=N);let G:=(x.fst - d) % a;let T:=γg .u64 G;let ag:=γg .u64 N;let ah:=decide (c<=x.fst);let ai:=γg .u64 x.fst;let aj:=∀(x:Int×Int×Int×Int×List Int),let V:=x.snd.fst*bk v;let z:=x.snd.snd.snd.snd;let X:=x.snd.snd.snd.fst;let Y:=x.snd.snd.fst;let ak:=((bj z I b % a - Y) % a - X) % a;let O:=j+x.fst.toNat;let Z:=x.fst+d;let a0:=γg .u64 x.snd.fst;let al:=(x.snd.fst*(bj v x.fst.toNat b % a) % a+Y) % a;let am:=al / c;let an:=γg .u64 am;let ao:=gY.vH .u64 al (4294967295:Int);let ap:=((bj z O b % a - ao) % a - X) % a;let aq:=ap / k;let ar:=γg .u64 aq;let au:=f Z;let P:=z.set I (ak % c);let av:=λ(u u_1 u_2:Int) (u_3:List Int) ↦(b<=u/\u<=s)/\(b<=x.snd.fst/\x.snd.fst<c)/\(E<(x.snd.fst+d)*bk v/\V<M)/\(b<=u_1/\u_1<c)/\(b<=u_2/\u_2<=d)/\(bA u_3/\u_3.length=U.length)/\(∀(m:Nat),m<j\/j+u.toNat<=m->bj u_3 m b=bj U m b)/\bk (prt u_3 j u.toNat)=bk (prt U j u.toNat) - x.snd.fst*bk (Δ u.toNat v)+c^u.toNat*(u_1+u_2);let aw:=λ(u:Nat) (u_1:Int) ↦let ax:=o w (z.set u (((bj z u b % a - u_1) % a - X) % a % c)) 172 false;ax.same ax/\True;let ay:=λ(u:Bool) ↦decide (ak / k=b)=u;av x.fst Y X z->(decide (x.fst<s)=true->b<=x.fst/\x.fst<D/\x.fst.toNat<v.length/\b<=g/\g<=n/\U.length=z.length/\b<=x.fst/\x.fst<F/\j+y<=U.length/\U.length=z.length/\O<z.length/\b<=q/\q<=n/\U.length=z.length/\b<=x.fst/\x.fst<F/\j+y<=U.length/\U.length=z.length/\O<z.length/\h Z/\((C.same C/\(e w v).same (e w v)/\t.same t/\a0.same a0/\an.same an/\ar.same ar/\t.same t/\au.same au/\True)/\aw O ao)/\av Z am aq (z.set O (ap % c))/\(s - Z).toNat<(s - x.fst).toNat)/\(decide (x.fst<s)=false->U.length=z.length/\b<=s/\s<F/\j+y<=U.length/\U.length=z.length/\I<z.length/\U.length=z.length/\b<=s/\s<F/\j+y<=U.length/\U.length=z.length/\I<z.length/\b<=q/\q<=n/\(ay true->(γg .u32 (x.snd.fst % c)).same ac/\(o w P 172 false).same ad/\True)/\(ay false->(((C.same C/\(e w v).same (e w v)/\t.same t/\a0.same a0/\(γA .u64 0).same (γg .u64 0)/\t.same t/\(p).same (f 0)/\True)/\aw I Y)/\(b<=b/\b<=s)/\(b<=x.snd.fst/\x.snd.fst<c)/\(E<V/\V<M)/\(b<=b/\b<=d)/\(bA P/\P.length=U.length)/\∃(W:List Int),(bA W/\W.length=U.length)/\(∀(m:Nat),m<j\/j+y<=m->bj W m b=bj U m b)/\bk (prt W j y)=E - V+ae/\(∀(m:Nat),m<j\/j+0<=m->bj P m b=bj W m b)/\bk (prt P j 0)+b=bk (prt W j 0)+bk [])/\∀(x:Int×Int×Int×List Int),let a5:=x.snd.fst*bk v;let a6:=x.snd.snd.fst;let A:=x.snd.snd.snd;let a1:=j+x.fst.toNat;let a2:=x.fst+d;let az:=γg .u64 x.snd.fst;let aA:=((bj A a1 b % a+bj v x.fst.toNat b % a) % a+a6) % a;let aB:=aA / c;let aC:=γg .u64 aB;let aD:=f a2;let aE:=A.set a1 (aA % c);let aF:=o w aE 172 false;let aG:=λ(u u_1:Int) (u_2:List Int) ↦(b<=u/\u<=s)/\(b<=x.snd.fst/\x.snd.fst<c)/\(E<a5/\a5<M)/\(b<=u_1/\u_1<=d)/\(bA u_2/\u_2.length=U.length)/\∃(W:List Int),(bA W/\W.length=U.length)/\(∀(m:Nat),m<j\/j+y<=m->bj W m b=bj U m b)/\bk (prt W j y)=E - a5+ae/\(∀(m:Nat),m<j\/j+u.toNat<=m->bj u_2 m b=bj W m b)/\bk (prt u_2 j u.toNat)+c^u.toNat*u_1=bk (prt W j u.toNat)+bk (Δ u.toNat v);aG x.fst a6 A->(decide (x.fst<s)=true->U.length=A.length/\b<=x.fst/\x.fst<F/\j+y<=U.length/\U.length=A.length/\a1<A.length/\b<=x.fst/\x.fst<D/\x.fst.toNat<v.length/\b<=g/\g<=n/\U.length=A.length/\b<=x.fst/\x.fst<F/\j+y<=U.length/\U.length=A.length/\a1<A.length/\h a2/\((C.same C/\(e w v).same (e w v)/\t.same t/\az.same az/\aC.same aC/\t.same t/\aD.same aD/\True)/\aF.same aF/\True)/\aG a2 aB aE/\(s - a2).toNat<(s - x.fst).toNat)/\(decide (x.fst<s)=false->U.length=A.length/\b<=s/\s<F/\j+y<=U.length/\U.length=A.length/\I<A.length/\U.length=A.length/\b<=s/\s<F/\j+y<=U.length/\U.length=A.length/\I<A.length/\(γg .u32 ((x.snd.fst - d) % a % c)).same ac/\(o w (A.set I ((bj A I b+a6 % c) % c)) 172 false).same ad/\True)));let aH:=h L/\b<=L/\L<D/\L.toNat<v.length/\(af=true->(((C.same C/\(e w v).same (e w v)/\t.same t/\T.same T/\(γA .u64 0).same (γg .u64 0)/\(γA .u64 0).same (γg .u64 0)/\t.same t/\(p).same (f 0)/\True)/\J.same J/\True)/\(b<=b/\b<=s)/\(b<=G/\G<c)/\(E<(G+d)*bk v/\G*bk v<M)/\(b<=b/\b<c)/\(b<=b/\b<=d)/\(bA U/\U.length=U.length)/\(∀(m:Nat),m<j\/j+0<=m->bj U m b=bj U m b)/\S=S - G*bk []+b)/\aj)/\(af=false->((C.same C/\(e w v).same (e w v)/\t.same t/\T.same T/\ag.same ag/\True)/\J.same J/\True)/\((b<=G/\G<=l)/\(b<=N/\N<c)/\G*a3+N=a4/\E<(G+d)*bk v)/\G.toNat<x.fst.toNat);let aI:=λ(u:Bool) ↦decide (gY.nZ .u64 (x.snd*c % a) (bj U (j+H.toNat) 0 % a)<x.fst*(bj v H.toNat b % a) % a)=u;(b<=x.fst/\x.fst<=l)/\(b<=x.snd/\x.snd<c)/\x.fst*a3+x.snd=a4/\E<(x.fst+d)*bk v->(ah=true->aH)/\(ah=false->h H/\b<=H/\H<D/\H.toNat<v.length/\b<=g/\g<=n/\h H/\U.length=U.length/\b<=H/\H<F/\j+y<=U.length/\U.length=U.length/\j+H.toNat<U.length/\(aI true->aH)/\(aI false->(((C.same C/\(e w v).same (e w v)/\t.same t/\ai.same ai/\(γA .u64 0).same (γg .u64 0)/\(γA .u64 0).same (γg .u64 0)/\t.same t/\(p).same (f 0)/\True)/\J.same J/\True)/\(b<=b/\b<=s)/\(b<=x.fst/\x.fst<c)/\(E<(x.fst+d)*bk v/\x.fst*bk v<M)/\(b<=b/\b<c)/\(b<=b/\b<=d)/\(bA U/\U.length=U.length)/\(∀(m:Nat),m<j\/j+0<=m->bj U m b=bj U m b)/\S=S - x.fst*bk []+b)/\aj))) (by kernel_rfl) ?_;simp only[vcs];have t1:((v.length:Int) - 1).toNat=v.length - 1:=by omega
 have t2:((v.length:Int) - 2).toNat=v.length - 2:=by omega
 have t3:((v.length:Int)).toNat=v.length:=by omega
 have yg:=abo hn rfl;have yh:=@abp U j v.length hn;have dv1:=eh hv (v.length - 1);have wh:=eh hv (v.length - 2);have Rm:=eh hU (j+v.length);have IZ:=eh hU (j+(v.length - 1));have DY:=eh hU (j+(v.length - 2));have m1:bj v (v.length - 1) 0 % 18446744073709551616=bj v (v.length - 1) 0:=by omega
 have m2:bj v (v.length - 2) 0 % 18446744073709551616=bj v (v.length - 2) 0:=by omega
 have m3:bj U (j+v.length) 0 % 18446744073709551616=bj U (j+v.length) 0:=by omega
 have m4:bj U (j+(v.length - 1)) 0 % 18446744073709551616=bj U (j+(v.length - 1)) 0:=by omega
 have m5:bj U (j+(v.length - 2)) 0 % 18446744073709551616=bj U (j+(v.length - 2)) 0:=by omega
 have m6:bj U (j+v.length) 0*4294967296 % 18446744073709551616=bj U (j+v.length) 0*4294967296:=by omega
 have hor:=IG Rm.1 Rm.2 IZ.1 IZ.2;have htop:0<=bj U (j+v.length) 0*4294967296+bj U (j+(v.length - 1)) 0:=by omega
 have hx':bk (prt U j (v.length+1))<4294967296*bk v:=hx;have hP:=pow_pos (v.length - 2);have AA:=fi (nC hv (v.length - 2));have AB:=oz (nC hv (v.length - 2));rw[List.length_take,Nat.min_eq_left (by omega)] at AB;have o7:=fi (uB hU (j:=j) (k:=v.length - 2));have I0:=v8 hU (j:=j) (k:=v.length - 2);have hV0:=fi hv;have hX0:=fi (uB hU (j:=j) (k:=v.length+1));have htp:=abn hP yg yh AB o7 DY.1 IZ.1 wh.2 hx';have hax:(nG.mk U j (v.length+1) U.length v).x=bk (prt U j (v.length+1)):=rfl;simp only[hax,t1,t2,t3,m1,m2,m3,m4,m5,m6,hor,ζb htop,ζc htop];generalize abu:bj v (v.length - 1) 0=v1 at*;generalize abv:bj v (v.length - 2) 0=v2 at*;generalize aiv:bj U (j+v.length) 0=u0 at*;generalize abw:bj U (j+(v.length - 1)) 0=u1 at*;generalize abx:bj U (j+(v.length - 2)) 0=u2 at*;have hqr:=εh (u0*4294967296+u1) v1;have hr0:=δL (u0*4294967296+u1) (show v1≠0 by omega);have hr1:=δp (u0*4294967296+u1) (show 0<v1 by omega);have hg0:0<=(u0*4294967296+u1) / v1:=δ0 htop (by omega);generalize hge:(u0*4294967296+u1) / v1=g0 at*;generalize hre:(u0*4294967296+u1) % v1=r0 at*;have hg1:g0<=4294967297:=by
  by_cases h:g0<=4294967297;·exact h
  ·exfalso;have:=Θ (show(4294967298:Int)<=g0 by omega) (show 0<=v1 by omega);omega
 have Rn:g0*v1+r0=u1+4294967296*u0:=by rw[δ3 g0];omega
 have hst:=abm hP yg yh AA I0 wh.1 DY.2 hg0 Rn hr1;have hin:cq .u64 g0:=u64_in hg0 (by omega);repeat refine γj (by omega) ?_
 clear t1 t2 t3 m1 m2 m3 m4 m5 m6 hor htop hge hre hqr hr0 hr1 hg0 hg1 Rn hst hin abu abv abw abx hx;rintro⟨g,r⟩ ⟨⟨g0',g1'⟩,⟨r0',r1'⟩,hgr,hgx⟩;simp only at g0' g1' r0' r1' hgr hgx ⊢;have DZ:0<g+1:=by omega
 have e1:(r+v1) % 18446744073709551616=r+v1:=by omega
 have e2:r*4294967296 % 18446744073709551616=r*4294967296:=by omega
 have gv0:0<=g*v2:=γu g0' wh.1;have gv1:g*v2<=4294967297*4294967295:=δF (by omega) (by omega) wh.1 (by omega);have e3:g*v2 % 18446744073709551616=g*v2:=by omega
 have hor2:=IG r0' r1' DY.1 DY.2;have I1:g*v1+r=u1+4294967296*u0:=hgr;have Ro:4294967296<=r+v1->g<=4294967296:=λh=>by
  by_cases hg:g<=4294967296;·exact hg
  ·have:g=4294967297:=by omega
   subst this;omega
 have dec:(4294967296<=g\/r*4294967296+u2<g*v2)->(bk (prt U j (v.length+1))<g*bk v/\(g - 1) % 18446744073709551616=g - 1/\0<=g - 1/\(g - 1)*v1+(r+v1)=u1+4294967296*u0):=λh=>by
  have h1:=abl hP yg yh AA I0 hx' hV0 g0' I1 h;have h2:g≠0:=by
   rintro rfl;omega
  refine⟨h1,by omega,by omega,?_⟩;rw[ζT,εB];omega
 simp only[e1,e2,e3,hor2];have brk:(4294967296<=g\/r*4294967296+u2<g*v2)->4294967296<=r+v1->∃gg,gg=(g - 1) % 18446744073709551616/\(0<=gg/\gg<4294967296)/\bk (prt U j (v.length+1))<(gg+1)*bk v/\gg*bk v<bk (prt U j (v.length+1))+bk v:=λh hb=>by
  obtain⟨k1,k2,k3,k4⟩:=dec h;have k5:=Ro hb;rw[k2];refine⟨_,rfl,by omega,by rw[show g - 1+1=g by omega];exact k1,Rl hP yg yh AA AB o7 hv1 wh.1 k3 (by omega) k4 ?_⟩;have:=δF (show g - 1<=4294967295 by omega) (show v2<=4294967295 by omega) wh.1 (by omega);omega
 have AE:(4294967296<=g\/r*4294967296+u2<g*v2)->¬4294967296<=r+v1->(0<=(g - 1) % 18446744073709551616/\(g - 1) % 18446744073709551616<=4294967297)/\(g - 1) % 18446744073709551616*v1+(r+v1)=u1+4294967296*u0/\bk (prt U j (v.length+1))<((g - 1) % 18446744073709551616+1)*bk v/\((g - 1) % 18446744073709551616).toNat<g.toNat:=λh hb=>by
  obtain⟨k1,k2,k3,k4⟩:=dec h;rw[k2];exact⟨by omega,k4,by rw[show g - 1+1=g by omega];exact k1,by omega⟩
 have ext:¬4294967296<=g->¬r*4294967296+u2<g*v2->∃gg,gg=g/\(0<=gg/\gg<4294967296)/\bk (prt U j (v.length+1))<(gg+1)*bk v/\gg*bk v<bk (prt U j (v.length+1))+bk v:=λh h2=>
  ⟨_,rfl,by omega,hgx,Rl hP yg yh AA AB o7 hv1 wh.1 g0' (by omega) I1 (by omega)⟩;clear I1 DZ e1 e2 e3 gv0 gv1 hor2 yg yh AA AB o7 I0 Ro dec htp;refine⟨λhB=>?_,λhB=>?_⟩
 ·refine⟨by omega,by omega,by omega,by omega,?_⟩;refine⟨λhb=>?_,λhb=>?_⟩
  ·obtain⟨gg,hgg,f0,f2,f3⟩:=brk (.inl hB) hb;rw[<-hgg];clear hB hb;clear hgg brk AE ext hgx hgr;refine⟨?_,?_⟩
   ·repeat' refine γj ?_ ?_
    all_goals first|omega|exact hU|exact f2|exact f3|exact λ_ _=>trivial|(simp only[bk];omega)
   clear f0 f2 f3;rintro⟨i,ga,c,b,R⟩ ⟨⟨i0,i1⟩,⟨oC,qH⟩,⟨f2,f3⟩,⟨c0,c1⟩,⟨b0,b1⟩,⟨hR,hRl⟩,ho,he⟩;simp only at i0 i1 oC qH f2 f3 c0 c1 b0 b1 hR hRl ho he ⊢;refine⟨λlZ=>?_,λnD=>?_⟩
   ·have x:=eh hv i.toNat;have y:=eh hR (j+i.toNat);have Rq:0<=ga*bj v i.toNat 0:=γu oC x.1;have Rr:ga*bj v i.toNat 0<=4294967295*4294967295:=δF (by omega) (by omega) x.1 (by omega);have q1:bj v i.toNat 0 % 18446744073709551616=bj v i.toNat 0:=by omega
    have q2:bj R (j+i.toNat) 0 % 18446744073709551616=bj R (j+i.toNat) 0:=by omega
    have q3:(ga*bj v i.toNat 0 % 18446744073709551616+c) % 18446744073709551616=ga*bj v i.toNat 0+c:=by omega
    have hi1:(i+1).toNat=i.toNat+1:=by omega
    rw[q1,q2,q3,IU (by omega) (by omega),hi1];generalize hq:((bj R (j+i.toNat) 0 - (ga*bj v i.toNat 0+c) % 4294967296) % 18446744073709551616 - b) % 18446744073709551616=q;obtain⟨k1,k2,k3,k4,k5⟩:=IV (d:=q % 4294967296) (e:=q / 9223372036854775808) hR hRl hv oC qH c0 c1 b0 b1 (show j+i.toNat<U.length by omega) ho he (by omega) (by omega);repeat' refine γj ?_ ?_
    all_goals first|omega|exact k1|exact k2|exact k3|exact k4|exact k5|exact f2|exact f3
   ·have hi:i.toNat=v.length:=by omega
    rw[hi,ψ] at he;rw[hi] at ho;have hun:=ho (j+v.length) (.inr (ν _));have du:=eh hU (j+v.length);have q2:bj R (j+v.length) 0 % 18446744073709551616=bj R (j+v.length) 0:=by rw[hun];omega
    have qI:=@l9 U j v.length;rw[q2];generalize hq:((bj R (j+v.length) 0 - c) % 18446744073709551616 - b) % 18446744073709551616=q;have kL:bA (R.set (j+v.length) (q % 4294967296)):=nE hR (by omega) (by omega);have hlen:(R.set (j+v.length) (q % 4294967296)).length=U.length:=by simp[hRl]
    have hout:∀m,(m<j\/j+(v.length+1)<=m)->bj (R.set (j+v.length) (q % 4294967296)) m 0=bj U m 0:=λm hm=>by rw[pV (by omega)];exact ho m (by omega)
    have hval:bk (prt (R.set (j+v.length) (q % 4294967296)) j (v.length+1))=bk (prt U j (v.length+1)) - ga*bk v+4294967296^(v.length+1)*(q / 9223372036854775808):=by
     rw[l9,uA (ν _),sX (by omega),he,qI,γS];have hd:q % 4294967296 - 4294967296*(q / 9223372036854775808)=bj U (j+v.length) 0 - c - b:=by rw[hun] at hq;omega
     generalize (4294967296:Int)^v.length=B;have e:B*4294967296*(q / 9223372036854775808)=B*(q % 4294967296+c+b - bj U (j+v.length) 0):=by rw[δl];congr 1;omega
     rw[e];simp only[εA,εP];omega
    generalize hW:R.set (j+v.length) (q % 4294967296)=W at*;have hbd:=v8 kL (j:=j) (k:=v.length+1);have hnn:=fi (uB kL (j:=j) (k:=v.length+1));have q3:0<=q/\q<18446744073709551616:=by omega
    clear hq hun du q2 he ho hR;repeat refine γj (by omega) ?_
    refine⟨λhz=>?_,λhz=>?_⟩
    ·rw[hz,δG,εj] at hval;obtain⟨w1,w2⟩:=wb (q:=ga) (show ga*bk v<=bk (prt U j (v.length+1)) by omega) f2;refine⟨by rw[w1];omega,?_⟩;have hfin:W=ju U j (iy (v.length+1) (bk (prt U j (v.length+1)) % bk v)):=yf kL hlen (by omega) hout (by rw[hval,w2]);rw[hfin];rfl
    ·have hq1:q / 9223372036854775808=1:=by omega
     rw[hq1,ε6] at hval;have f4:bk (prt U j (v.length+1))<ga*bk v:=by omega
     refine⟨?_,?_⟩
     ·repeat' refine γj ?_ ?_
      all_goals first|omega|exact kL|exact hlen|exact⟨W,⟨kL,hlen⟩,hout,hval,λ_ _=>rfl,by simp only[bk]⟩
     clear kL hlen hout hval hW hbd hnn q3 hz hq1 f4 f2 f3 c0 c1 b0 b1 i0 i1 oC qH;rintro⟨i2,gb,c2,R2⟩ ⟨⟨i0,i1⟩,⟨AG,AH⟩,⟨f5,f6⟩,⟨c0,c1⟩,⟨hR2,qJ⟩,W2,⟨hW2,uC⟩,ho2,uD,ho3,qK⟩;simp only at i0 i1 AG AH f5 f6 c0 c1 hR2 qJ ho3 qK ⊢;refine⟨λlZ=>?_,λnD=>?_⟩
     ·have x:=eh hv i2.toNat;have y:=eh hR2 (j+i2.toNat);have hi1:(i2+1).toNat=i2.toNat+1:=by omega
      rw[hi1];have hs:((bj R2 (j+i2.toNat) 0 % 18446744073709551616+bj v i2.toNat 0 % 18446744073709551616) % 18446744073709551616+c2) % 18446744073709551616=bj R2 (j+i2.toNat) 0+bj v i2.toNat 0+c2:=by omega
      rw[hs];obtain⟨k1,k2,k3,k4,k5⟩:=IW hR2 (qJ.trans uC.symm) hv c0 c1 (show j+i2.toNat<W2.length by omega) hW2 ho3 qK rfl;repeat' refine γj ?_ ?_
      all_goals first|omega|exact k1|exact f5|exact f6|exact⟨W2,⟨hW2,uC⟩,ho2,uD,k4,k5⟩
     ·have hi2:i2.toNat=v.length:=by omega
      rw[hi2,ψ] at qK;rw[hi2] at ho3;have hun:=ho3 (j+v.length) (.inr (ν _));have du:=eh hW2 (j+v.length);have qI:=@l9 W2 j v.length;have hc2:c2 % 4294967296=c2:=by omega
      rw[hc2,hun];have hF:bA (R2.set (j+v.length) ((bj W2 (j+v.length) 0+c2) % 4294967296)):=nE hR2 (by omega) (by omega);have AI:(R2.set (j+v.length) ((bj W2 (j+v.length) 0+c2) % 4294967296)).length=U.length:=by simp[qJ]
      have AK:∀m,(m<j\/j+(v.length+1)<=m)->bj (R2.set (j+v.length) ((bj W2 (j+v.length) 0+c2) % 4294967296)) m 0=bj U m 0:=λm hm=>by rw[pV (by omega),ho3 m (by omega)];exact ho2 m hm
      have qL:bk (prt (R2.set (j+v.length) ((bj W2 (j+v.length) 0+c2) % 4294967296)) j (v.length+1))=bk (prt U j (v.length+1)) - gb*bk v+4294967296^(v.length+1)+bk v - 4294967296^(v.length+1)*((bj W2 (j+v.length) 0+c2) / 4294967296):=by
       rw[l9,uA (ν _),sX (by omega),<-uD,qI,γS];generalize (4294967296:Int)^v.length=B at*;have e:B*4294967296*((bj W2 (j+v.length) 0+c2) / 4294967296)=B*(bj W2 (j+v.length) 0+c2 - (bj W2 (j+v.length) 0+c2) % 4294967296):=by rw[δl];congr 1;omega
       rw[e];simp only[εA,εP];omega
      have hbd:=v8 hF (j:=j) (k:=v.length+1);have hk:(bj W2 (j+v.length) 0+c2) / 4294967296=1:=by
       by_cases h:(bj W2 (j+v.length) 0+c2) / 4294967296=1;·exact h
       ·have h0:(bj W2 (j+v.length) 0+c2) / 4294967296=0:=by omega
        rw[h0,δG] at qL;omega
      rw[hk,ε6] at qL;have e1:(gb - 1)*bk v=gb*bk v - bk v:=by rw[ζT,εB]
      obtain⟨w1,w2⟩:=wb (q:=gb - 1) (show(gb - 1)*bk v<=bk (prt U j (v.length+1)) by omega) (by rw[show gb - 1+1=gb by omega];exact f5);have DZ:0<gb:=by
       by_cases h:0<gb;·exact h
       ·have:gb=0:=by omega
        subst this;omega
      have hfin:R2.set (j+v.length) ((bj W2 (j+v.length) 0+c2) % 4294967296)=ju U j (iy (v.length+1) (bk (prt U j (v.length+1)) % bk v)):=yf hF AI (by omega) AK (by rw[qL,w2,e1];omega);repeat refine γj (by omega) ?_
      rw[hfin];rfl
  ·obtain⟨k1,k2,k3,k4⟩:=AE (.inl hB) hb;repeat' refine γj ?_ ?_
   all_goals first|omega|exact k2|exact k3
 ·repeat refine γj (by omega) ?_
  refine⟨λhc=>?_,λhc=>?_⟩
  ·repeat refine γj (by omega) ?_
   refine⟨λhb=>?_,λhb=>?_⟩
   ·obtain⟨gg,hgg,f0,f2,f3⟩:=brk (.inr hc) hb;rw[<-hgg];clear hB hb hc;clear hgg brk AE ext hgx hgr;refine⟨?_,?_⟩
    ·repeat' refine γj ?_ ?_
     all_goals first|omega|exact hU|exact f2|exact f3|exact λ_ _=>trivial|(simp only[bk];omega)
    clear f0 f2 f3;rintro⟨i,ga,c,b,R⟩ ⟨⟨i0,i1⟩,⟨oC,qH⟩,⟨f2,f3⟩,⟨c0,c1⟩,⟨b0,b1⟩,⟨hR,hRl⟩,ho,he⟩;simp only at i0 i1 oC qH f2 f3 c0 c1 b0 b1 hR hRl ho he ⊢;refine⟨λlZ=>?_,λnD=>?_⟩
    ·have x:=eh hv i.toNat;have y:=eh hR (j+i.toNat);have Rq:0<=ga*bj v i.toNat 0:=γu oC x.1;have Rr:ga*bj v i.toNat 0<=4294967295*4294967295:=δF (by omega) (by omega) x.1 (by omega);have q1:bj v i.toNat 0 % 18446744073709551616=bj v i.toNat 0:=by omega
     have q2:bj R (j+i.toNat) 0 % 18446744073709551616=bj R (j+i.toNat) 0:=by omega
     have q3:(ga*bj v i.toNat 0 % 18446744073709551616+c) % 18446744073709551616=ga*bj v i.toNat 0+c:=by omega
     have hi1:(i+1).toNat=i.toNat+1:=by omega
     rw[q1,q2,q3,IU (by omega) (by omega),hi1];generalize hq:((bj R (j+i.toNat) 0 - (ga*bj v i.toNat 0+c) % 4294967296) % 18446744073709551616 - b) % 18446744073709551616=q;obtain⟨k1,k2,k3,k4,k5⟩:=IV (d:=q % 4294967296) (e:=q / 9223372036854775808) hR hRl hv oC qH c0 c1 b0 b1 (show j+i.toNat<U.length by omega) ho he (by omega) (by omega);repeat' refine γj ?_ ?_
     all_goals first|omega|exact k1|exact k2|exact k3|exact k4|exact k5|exact f2|exact f3
    ·have hi:i.toNat=v.length:=by omega
     rw[hi,ψ] at he;rw[hi] at ho;have hun:=ho (j+v.length) (.inr (ν _));have du:=eh hU (j+v.length);have q2:bj R (j+v.length) 0 % 18446744073709551616=bj R (j+v.length) 0:=by rw[hun];omega
     have qI:=@l9 U j v.length;rw[q2];generalize hq:((bj R (j+v.length) 0 - c) % 18446744073709551616 - b) % 18446744073709551616=q;have kL:bA (R.set (j+v.length) (q % 4294967296)):=nE hR (by omega) (by omega);have hlen:(R.set (j+v.length) (q % 4294967296)).length=U.length:=by simp[hRl]
     have hout:∀m,(m<j\/j+(v.length+1)<=m)->bj (R.set (j+v.length) (q % 4294967296)) m 0=bj U m 0:=λm hm=>by rw[pV (by omega)];exact ho m (by omega)
     have hval:bk (prt (R.set (j+v.length) (q % 4294967296)) j (v.length+1))=bk (prt U j (v.length+1)) - ga*bk v+4294967296^(v.length+1)*(q / 9223372036854775808):=by
      rw[l9,uA (ν _),sX (by omega),he,qI,γS];have hd:q % 4294967296 - 4294967296*(q / 9223372036854775808)=bj U (j+v.length) 0 - c - b:=by rw[hun] at hq;omega
      generalize (4294967296:Int)^v.length=B;have e:B*4294967296*(q / 9223372036854775808)=B*(q % 4294967296+c+b - bj U (j+v.length) 0):=by rw[δl];congr 1;omega
      rw[e];simp only[εA,εP];omega
     generalize hW:R.set (j+v.length) (q % 4294967296)=W at*;have hbd:=v8 kL (j:=j) (k:=v.length+1);have hnn:=fi (uB kL (j:=j) (k:=v.length+1));have q3:0<=q/\q<18446744073709551616:=by omega
     clear hq hun du q2 he ho hR;repeat refine γj (by omega) ?_
     refine⟨λhz=>?_,λhz=>?_⟩
     ·rw[hz,δG,εj] at hval;obtain⟨w1,w2⟩:=wb (q:=ga) (show ga*bk v<=bk (prt U j (v.length+1)) by omega) f2;refine⟨by rw[w1];omega,?_⟩;have hfin:W=ju U j (iy (v.length+1) (bk (prt U j (v.length+1)) % bk v)):=yf kL hlen (by omega) hout (by rw[hval,w2]);rw[hfin];rfl
     ·have hq1:q / 9223372036854775808=1:=by omega
      rw[hq1,ε6] at hval;have f4:bk (prt U j (v.length+1))<ga*bk v:=by omega
      refine⟨?_,?_⟩
      ·repeat' refine γj ?_ ?_
       all_goals first|omega|exact kL|exact hlen|exact⟨W,⟨kL,hlen⟩,hout,hval,λ_ _=>rfl,by simp only[bk]⟩
      clear kL hlen hout hval hW hbd hnn q3 hz hq1 f4 f2 f3 c0 c1 b0 b1 i0 i1 oC qH;rintro⟨i2,gb,c2,R2⟩ ⟨⟨i0,i1⟩,⟨AG,AH⟩,⟨f5,f6⟩,⟨c0,c1⟩,⟨hR2,qJ⟩,W2,⟨hW2,uC⟩,ho2,uD,ho3,qK⟩;simp only at i0 i1 AG AH f5 f6 c0 c1 hR2 qJ ho3 qK ⊢;refine⟨λlZ=>?_,λnD=>?_⟩
      ·have x:=eh hv i2.toNat;have y:=eh hR2 (j+i2.toNat);have hi1:(i2+1).toNat=i2.toNat+1:=by omega
       rw[hi1];have hs:((bj R2 (j+i2.toNat) 0 % 18446744073709551616+bj v i2.toNat 0 % 18446744073709551616) % 18446744073709551616+c2) % 18446744073709551616=bj R2 (j+i2.toNat) 0+bj v i2.toNat 0+c2:=by omega
       rw[hs];obtain⟨k1,k2,k3,k4,k5⟩:=IW hR2 (qJ.trans uC.symm) hv c0 c1 (show j+i2.toNat<W2.length by omega) hW2 ho3 qK rfl;repeat' refine γj ?_ ?_
       all_goals first|omega|exact k1|exact f5|exact f6|exact⟨W2,⟨hW2,uC⟩,ho2,uD,k4,k5⟩
      ·have hi2:i2.toNat=v.length:=by omega
       rw[hi2,ψ] at qK;rw[hi2] at ho3;have hun:=ho3 (j+v.length) (.inr (ν _));have du:=eh hW2 (j+v.length);have qI:=@l9 W2 j v.length;have hc2:c2 % 4294967296=c2:=by omega
       rw[hc2,hun];have hF:bA (R2.set (j+v.length) ((bj W2 (j+v.length) 0+c2) % 4294967296)):=nE hR2 (by omega) (by omega);have AI:(R2.set (j+v.length) ((bj W2 (j+v.length) 0+c2) % 4294967296)).length=U.length:=by simp[qJ]
       have AK:∀m,(m<j\/j+(v.length+1)<=m)->bj (R2.set (j+v.length) ((bj W2 (j+v.length) 0+c2) % 4294967296)) m 0=bj U m 0:=λm hm=>by rw[pV (by omega),ho3 m (by omega)];exact ho2 m hm
       have qL:bk (prt (R2.set (j+v.length) ((bj W2 (j+v.length) 0+c2) % 4294967296)) j (v.length+1))=bk (prt U j (v.length+1)) - gb*bk v+4294967296^(v.length+1)+bk v - 4294967296^(v.length+1)*((bj W2 (j+v.length) 0+c2) / 4294967296):=by
        rw[l9,uA (ν _),sX (by omega),<-uD,qI,γS];generalize (4294967296:Int)^v.length=B at*;have e:B*4294967296*((bj W2 (j+v.length) 0+c2) / 4294967296)=B*(bj W2 (j+v.length) 0+c2 - (bj W2 (j+v.length) 0+c2) % 4294967296):=by rw[δl];congr 1;omega
        rw[e];simp only[εA,εP];omega
       have hbd:=v8 hF (j:=j) (k:=v.length+1);have hk:(bj W2 (j+v.length) 0+c2) / 4294967296=1:=by
        by_cases h:(bj W2 (j+v.length) 0+c2) / 4294967296=1;·exact h
        ·have h0:(bj W2 (j+v.length) 0+c2) / 4294967296=0:=by omega
         rw[h0,δG] at qL;omega
       rw[hk,ε6] at qL;have e1:(gb - 1)*bk v=gb*bk v - bk v:=by rw[ζT,εB]
       obtain⟨w1,w2⟩:=wb (q:=gb - 1) (show(gb - 1)*bk v<=bk (prt U j (v.length+1)) by omega) (by rw[show gb - 1+1=gb by omega];exact f5);have DZ:0<gb:=by
        by_cases h:0<gb;·exact h
        ·have:gb=0:=by omega
         subst this;omega
       have hfin:R2.set (j+v.length) ((bj W2 (j+v.length) 0+c2) % 4294967296)=ju U j (iy (v.length+1) (bk (prt U j (v.length+1)) % bk v)):=yf hF AI (by omega) AK (by rw[qL,w2,e1];omega);repeat refine γj (by omega) ?_
       rw[hfin];rfl
   ·obtain⟨k1,k2,k3,k4⟩:=AE (.inr hc) hb;repeat' refine γj ?_ ?_
    all_goals first|omega|exact k2|exact k3
  ·obtain⟨gg,hgg,f0,f2,f3⟩:=ext hB hc;rw[<-hgg];clear hB hc;clear hgg brk AE ext hgx hgr;refine⟨?_,?_⟩
   ·repeat' refine γj ?_ ?_
    all_goals first|omega|exact hU|exact f2|exact f3|exact λ_ _=>trivial|(simp only[bk];omega)
   clear f0 f2 f3;rintro⟨i,ga,c,b,R⟩ ⟨⟨i0,i1⟩,⟨oC,qH⟩,⟨f2,f3⟩,⟨c0,c1⟩,⟨b0,b1⟩,⟨hR,hRl⟩,ho,he⟩;simp only at i0 i1 oC qH f2 f3 c0 c1 b0 b1 hR hRl ho he ⊢;refine⟨λlZ=>?_,λnD=>?_⟩
   ·have x:=eh hv i.toNat;have y:=eh hR (j+i.toNat);have Rq:0<=ga*bj v i.toNat 0:=γu oC x.1;have Rr:ga*bj v i.toNat 0<=4294967295*4294967295:=δF (by omega) (by omega) x.1 (by omega);have q1:bj v i.toNat 0 % 18446744073709551616=bj v i.toNat 0:=by omega
    have q2:bj R (j+i.toNat) 0 % 18446744073709551616=bj R (j+i.toNat) 0:=by omega
    have q3:(ga*bj v i.toNat 0 % 18446744073709551616+c) % 18446744073709551616=ga*bj v i.toNat 0+c:=by omega
    have hi1:(i+1).toNat=i.toNat+1:=by omega
    rw[q1,q2,q3,IU (by omega) (by omega),hi1];generalize hq:((bj R (j+i.toNat) 0 - (ga*bj v i.toNat 0+c) % 4294967296) % 18446744073709551616 - b) % 18446744073709551616=q;obtain⟨k1,k2,k3,k4,k5⟩:=IV (d:=q % 4294967296) (e:=q / 9223372036854775808) hR hRl hv oC qH c0 c1 b0 b1 (show j+i.toNat<U.length by omega) ho he (by omega) (by omega);repeat' refine γj ?_ ?_
    all_goals first|omega|exact k1|exact k2|exact k3|exact k4|exact k5|exact f2|exact f3
   ·have hi:i.toNat=v.length:=by omega
    rw[hi,ψ] at he;rw[hi] at ho;have hun:=ho (j+v.length) (.inr (ν _));have du:=eh hU (j+v.length);have q2:bj R (j+v.length) 0 % 18446744073709551616=bj R (j+v.length) 0:=by rw[hun];omega
    have qI:=@l9 U j v.length;rw[q2];generalize hq:((bj R (j+v.length) 0 - c) % 18446744073709551616 - b) % 18446744073709551616=q;have kL:bA (R.set (j+v.length) (q % 4294967296)):=nE hR (by omega) (by omega);have hlen:(R.set (j+v.length) (q % 4294967296)).length=U.length:=by simp[hRl]
    have hout:∀m,(m<j\/j+(v.length+1)<=m)->bj (R.set (j+v.length) (q % 4294967296)) m 0=bj U m 0:=λm hm=>by rw[pV (by omega)];exact ho m (by omega)
    have hval:bk (prt (R.set (j+v.length) (q % 4294967296)) j (v.length+1))=bk (prt U j (v.length+1)) - ga*bk v+4294967296^(v.length+1)*(q / 9223372036854775808):=by
     rw[l9,uA (ν _),sX (by omega),he,qI,γS];have hd:q % 4294967296 - 4294967296*(q / 9223372036854775808)=bj U (j+v.length) 0 - c - b:=by rw[hun] at hq;omega
     generalize (4294967296:Int)^v.length=B;have e:B*4294967296*(q / 9223372036854775808)=B*(q % 4294967296+c+b - bj U (j+v.length) 0):=by rw[δl];congr 1;omega
     rw[e];simp only[εA,εP];omega
    generalize hW:R.set (j+v.length) (q % 4294967296)=W at*;have hbd:=v8 kL (j:=j) (k:=v.length+1);have hnn:=fi (uB kL (j:=j) (k:=v.length+1));have q3:0<=q/\q<18446744073709551616:=by omega
    clear hq hun du q2 he ho hR;repeat refine γj (by omega) ?_
    refine⟨λhz=>?_,λhz=>?_⟩
    ·rw[hz,δG,εj] at hval;obtain⟨w1,w2⟩:=wb (q:=ga) (show ga*bk v<=bk (prt U j (v.length+1)) by omega) f2;refine⟨by rw[w1];omega,?_⟩;have hfin:W=ju U j (iy (v.length+1) (bk (prt U j (v.length+1)) % bk v)):=yf kL hlen (by omega) hout (by rw[hval,w2]);rw[hfin];rfl
    ·have hq1:q / 9223372036854775808=1:=by omega
     rw[hq1,ε6] at hval;have f4:bk (prt U j (v.length+1))<ga*bk v:=by omega
     refine⟨?_,?_⟩
     ·repeat' refine γj ?_ ?_
      all_goals first|omega|exact kL|exact hlen|exact⟨W,⟨kL,hlen⟩,hout,hval,λ_ _=>rfl,by simp only[bk]⟩
     clear kL hlen hout hval hW hbd hnn q3 hz hq1 f4 f2 f3 c0 c1 b0 b1 i0 i1 oC qH;rintro⟨i2,gb,c2,R2⟩ ⟨⟨i0,i1⟩,⟨AG,AH⟩,⟨f5,f6⟩,⟨c0,c1⟩,⟨hR2,qJ⟩,W2,⟨hW2,uC⟩,ho2,uD,ho3,qK⟩;simp only at i0 i1 AG AH f5 f6 c0 c1 hR2 qJ ho3 qK ⊢;refine⟨λlZ=>?_,λnD=>?_⟩
     ·have x:=eh hv i2.toNat;have y:=eh hR2 (j+i2.toNat);have hi1:(i2+1).toNat=i2.toNat+1:=by omega
      rw[hi1];have hs:((bj R2 (j+i2.toNat) 0 % 18446744073709551616+bj v i2.toNat 0 % 18446744073709551616) % 18446744073709551616+c2) % 18446744073709551616=bj R2 (j+i2.toNat) 0+bj v i2.toNat 0+c2:=by omega
      rw[hs];obtain⟨k1,k2,k3,k4,k5⟩:=IW hR2 (qJ.trans uC.symm) hv c0 c1 (show j+i2.toNat<W2.length by omega) hW2 ho3 qK rfl;repeat' refine γj ?_ ?_
      all_goals first|omega|exact k1|exact f5|exact f6|exact⟨W2,⟨hW2,uC⟩,ho2,uD,k4,k5⟩
     ·have hi2:i2.toNat=v.length:=by omega
      rw[hi2,ψ] at qK;rw[hi2] at ho3;have hun:=ho3 (j+v.length) (.inr (ν _));have du:=eh hW2 (j+v.length);have qI:=@l9 W2 j v.length;have hc2:c2 % 4294967296=c2:=by omega
      rw[hc2,hun];have hF:bA (R2.set (j+v.length) ((bj W2 (j+v.length) 0+c2) % 4294967296)):=nE hR2 (by omega) (by omega);have AI:(R2.set (j+v.length) ((bj W2 (j+v.length) 0+c2) % 4294967296)).length=U.length:=by simp[qJ]
      have AK:∀m,(m<j\/j+(v.length+1)<=m)->bj (R2.set (j+v.length) ((bj W2 (j+v.length) 0+c2) % 4294967296)) m 0=bj U m 0:=λm hm=>by rw[pV (by omega),ho3 m (by omega)];exact ho2 m hm
      have qL:bk (prt (R2.set (j+v.length) ((bj W2 (j+v.length) 0+c2) % 4294967296)) j (v.length+1))=bk (prt U j (v.length+1)) - gb*bk v+4294967296^(v.length+1)+bk v - 4294967296^(v.length+1)*((bj W2 (j+v.length) 0+c2) / 4294967296):=by
       rw[l9,uA (ν _),sX (by omega),<-uD,qI,γS];generalize (4294967296:Int)^v.length=B at*;have e:B*4294967296*((bj W2 (j+v.length) 0+c2) / 4294967296)=B*(bj W2 (j+v.length) 0+c2 - (bj W2 (j+v.length) 0+c2) % 4294967296):=by rw[δl];congr 1;omega
       rw[e];simp only[εA,εP];omega
      have hbd:=v8 hF (j:=j) (k:=v.length+1);have hk:(bj W2 (j+v.length) 0+c2) / 4294967296=1:=by
       by_cases h:(bj W2 (j+v.length) 0+c2) / 4294967296=1;·exact h
       ·have h0:(bj W2 (j+v.length) 0+c2) / 4294967296=0:=by omega
        rw[h0,δG] at qL;omega
      rw[hk,ε6] at qL;have e1:(gb - 1)*bk v=gb*bk v - bk v:=by rw[ζT,εB]
      obtain⟨w1,w2⟩:=wb (q:=gb - 1) (show(gb - 1)*bk v<=bk (prt U j (v.length+1)) by omega) (by rw[show gb - 1+1=gb by omega];exact f5);have DZ:0<gb:=by
       by_cases h:0<gb;·exact h
       ·have:gb=0:=by omega
        subst this;omega
      have hfin:R2.set (j+v.length) ((bj W2 (j+v.length) 0+c2) % 4294967296)=ju U j (iy (v.length+1) (bk (prt U j (v.length+1)) % bk v)):=yf hF AI (by omega) AK (by rw[qL,w2,e1];omega);repeat refine γj (by omega) ?_
      rw[hfin];rfl
def kn (D:Int->Int) (x y:Int):Bool:=decide (D y<D x)||(decide (D x=D y)&&decide (x<=y))
theorem AL {D:Int->Int} {x y:Int}:kn D x y=true↔D y<D x\/(D x=D y/\x<=y):=by grind[kn]
theorem Rt {D:Int->Int} (a b c:Int) (d:kn D a b=true) (e:kn D b c=true):kn D a c=true:=by
 grind[AL]
theorem abA {D:Int->Int} (a b:Int):(kn D a b||kn D b a)=true:=by
 grind[AL]
theorem abB {D:Int->Int} {a b:Int} (c:kn D a b=true) (d:kn D b a=true):a=b:=by
 grind[AL]
abbrev uE (D:Int->Int) (l:List Int):Prop:=l.Pairwise λa b=>kn D a b=true
def dX (D:Int->Int) (l:List Int):List Int:=l.mergeSort (kn D)
theorem AO {D:Int->Int} {l:List Int}:(dX D l).Perm l:=List.mergeSort_perm _ _
theorem Ru {D:Int->Int} {l:List Int}:uE D (dX D l):=List.pairwise_mergeSort Rt abA l
theorem sY {D:Int->Int} {l:List Int}:(dX D l).length=l.length:=AO.length_eq
theorem I2 {D:Int->Int} {l:List Int} {x:Int}:x∈dX D l↔x∈l:=AO.mem_iff
theorem Rw {D:Int->Int} {l m:List Int} (e:m.Perm l) (f:uE D m):m=dX D l:=
 List.Perm.eq_of_pairwise (λa b _ _ c d=>abB c d) f Ru (e.trans AO.symm)
theorem abC {D:Int->Int} {l:List Int} (h:uE D l):dX D l=l:=(Rw (ζR _) h).symm
def seg (l:List Int) (a b:Nat):List Int:=(l.drop a).take (b - a)
def hJ (D:Int->Int) (l:List Int) (a b:Nat):List Int:=l.take a++dX D (seg l a b)++l.drop b
theorem wi {l:List Int} {a b:Nat} (c:a<=b) (d:b<=l.length):(seg l a b).length=b - a:=by
 grind[seg]
theorem I3 {l:List Int} {a b:Nat} (c:a<=b) (d:b<l.length):seg l a (b+1)=seg l a b++[bj l b 0]:=by
 unfold seg;rw[show b+1 - a=(b - a)+1 by omega,List.take_succ_eq_append_getElem (by grind),List.getElem_drop];grind[cV]
theorem Rx {l:List Int} {a:Nat}:seg l a a=[]:=by grind[seg]
theorem Ry {D:Int->Int} {l:List Int} {a b:Nat} (c:a<=b) (d:b<=l.length):(hJ D l a b).length=l.length:=by
 grind[hJ,sY,wi]
theorem Rz {l:List Int} {i:Nat} (h:i<l.length):l.drop i=bj l i 0::l.drop (i+1):=by
 simp_all[cV]
theorem RA {D:Int->Int} {l:List Int} {a:Nat}:hJ D l a a=l:=by
 simp_all[hJ,Rx,dX]
theorem abD {D:Int->Int} {l:List Int} {a:Nat} (h:a<l.length):hJ D l a (a+1)=l:=by
 have e:seg l a (a+1)=[bj l a 0]:=by grind[I3,Rx]
 unfold hJ;rw[e,abC (by simp),γO];simp only[List.singleton_append];rw[<-Rz h,γM]
def lj (D:Int->Int) (l:List Int) (a i j:Nat):List Int:=l.take a++((dX D (seg l a i)).take (j - a)++bj l i 0::(dX D (seg l a i)).drop (j - a))++l.drop (i+1)
theorem abE {D:Int->Int} {l:List Int} {a i j:Nat} (b:a<=i) (c:i<l.length):(lj D l a i j).length=l.length:=by
 grind[sY,wi,lj]
theorem abG {D:Int->Int} {l:List Int} {a i:Nat} (b:a<=i) (c:i<l.length):lj D l a i i=hJ D l a i:=by
 grind[sY,wi,lj,hJ,Rz]
theorem abH {A B:List Int} {y x:Int}:((A++y::x::B).set (A.length+1) y).set A.length x=A++x::y::B:=by
 simp_all
theorem abI {A B:List Int} {y:Int}:bj (A++y::B) A.length 0=y:=by grind[bj]
theorem abJ {A B:List Int} {y x:Int}:bj (A++y::x::B) (A.length+1) 0=x:=by grind[bj]
theorem abK {D:Int->Int} {l:List Int} {a i k:Nat} (c:a+k+1<=i) (d:i<l.length):
  lj D l a i (a+k+1)=(l.take a++(dX D (seg l a i)).take k)++bj (dX D (seg l a i)) k 0::bj l i 0::((dX D (seg l a i)).drop (k+1)++l.drop (i+1))/\
  lj D l a i (a+k)=(l.take a++(dX D (seg l a i)).take k)++bj l i 0::bj (dX D (seg l a i)) k 0::((dX D (seg l a i)).drop (k+1)++l.drop (i+1))/\
  (l.take a++(dX D (seg l a i)).take k).length=a+k:=by
 have b:=@sY D (seg l a i);rw[wi (by omega) (by omega)] at b;have e:k<(dX D (seg l a i)).length:=by omega
 have g:(dX D (seg l a i)).take (k+1)=(dX D (seg l a i)).take k++[bj (dX D (seg l a i)) k 0]:=by simp_all[cV]
 have f:(dX D (seg l a i)).drop k=bj (dX D (seg l a i)) k 0::(dX D (seg l a i)).drop (k+1):=by simp_all[cV]
 grind[lj]
theorem abL {D:Int->Int} {l:List Int} {a i j:Nat} (g:a<j) (f:j<=i) (d:i<l.length):
  bj (lj D l a i j) j 0=bj l i 0/\bj (lj D l a i j) (j - 1) 0=bj (dX D (seg l a i)) (j - 1 - a) 0/\
  ((lj D l a i j).set j (bj (dX D (seg l a i)) (j - 1 - a) 0)).set (j - 1) (bj l i 0)=lj D l a i (j - 1):=by
 obtain⟨b,c,e⟩:=@abK D l a i (j - 1 - a) (by omega) d;rw[show a+(j - 1 - a)+1=j by omega] at b;rw[show a+(j - 1 - a)=j - 1 by omega] at c e;rw[b,c];generalize l.take a++(dX D (seg l a i)).take (j - 1 - a)=A at*;generalize bj (dX D (seg l a i)) (j - 1 - a) 0=y at*;generalize bj l i 0=x at*;grind[abJ,abI,abH]
theorem abM {D:Int->Int} {S:List Int} {x:Int} {k:Nat} (n:uE D S) (d:∀s∈S.drop k,kn D x s=true) (b:k=0\/(k<=S.length/\kn D (bj S (k - 1) 0) x=true)):uE D (S.take k++x::S.drop k):=by
 have a:uE D (S.take k++S.drop k):=by simp_all
 obtain⟨g,f,i⟩:=δY.1 a;have j:∀s∈S.take k,kn D s x=true:=by
  rcases b with rfl|⟨h,b⟩;·simp
  ·intro s l;by_cases m:k=0;·simp_all
   have c:k - 1<S.length:=by omega
   have e:S.take k=S.take (k - 1)++[bj S (k - 1) 0]:=by
    conv=>lhs;rw[show k=(k - 1)+1 by omega]
    simp_all[cV]
   grind[Rt]
 rw[uE,δY];simp_all
theorem abN {S:List Int} {x:Int} {k:Nat}:(S.take k++x::S.drop k).Perm (S++[x]):=by
 refine(List.perm_middle).trans ?_;rw[γM];grind
theorem abO {D:Int->Int} {l:List Int} {a i j:Nat} (k:a<=j) (f:j<=i) (e:i<l.length) (b:∀s∈(dX D (seg l a i)).drop (j - a),kn D (bj l i 0) s=true) (g:j=a\/kn D (bj (dX D (seg l a i)) (j - 1 - a) 0) (bj l i 0)=true):
  lj D l a i j=hJ D l a (i+1):=by
 have c:=@sY D (seg l a i);rw[wi (by omega) (by omega)] at c;have d:uE D ((dX D (seg l a i)).take (j - a)++bj l i 0::(dX D (seg l a i)).drop (j - a)):=by
  refine abM Ru b ?_;grind
 have h:((dX D (seg l a i)).take (j - a)++bj l i 0::(dX D (seg l a i)).drop (j - a)).Perm (seg l a (i+1)):=by
  rw[I3 (by omega) e];exact abN.trans (List.Perm.append AO (ζR _))
 grind[lj,hJ,Rw]
end Go.Vi
