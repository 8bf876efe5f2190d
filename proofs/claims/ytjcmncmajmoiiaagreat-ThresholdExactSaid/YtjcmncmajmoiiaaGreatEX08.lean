/-
  Contracts: margins.
  Conditions: none.
-/
import Derived.Test.YtjcmncmajmoiiaaGreatEX06
import Derived.Test.YtjcmncmajmoiiaaGreatEX07
set_option maxRecDepth 100000
set_option maxHeartbeats 4000000
set_option linter.all false
open BitVec renaming ofInt->γu
open Bool renaming and_eq_true->ζ
open Classical renaming not_not->Θ
open Go.Vi.SV renaming si->γb,il->γy,row->γc,ow->δd,agg->γK
open Int renaming lt_irrefl->ε1,toNat_natCast->γq,one_mul->δU,le_trans->εF,pow_succ->γQ,mul_add->εA,add_comm->ζE,emod_nonneg->δV,emod_lt_of_pos->δx,ediv_eq_zero_of_lt->εN,emod_eq_of_lt->δT,eq_ofNat_of_zero_le->δP,mul_nonneg->γD,mul_le_mul->δR,mul_le_mul_of_nonneg_left->Δ,le_of_lt->γm,mul_le_mul_of_nonneg_right->γT
open List renaming forall_mem_cons->γF,not_mem_nil->γ6,range->χ,range_succ->δI,map_append->γd,map_cons->θ,map_nil->γo,filter_cons->γ0,mem_append->π,length_filter_le->γB,map_map->δr,pairwise_cons->γv,pairwise_append->γZ,mem_cons->γh,mem_singleton->γr,mem_filter->γi,nodup_cons->γx,mem_map->γf,mem_map_of_mem->γL,perm_cons_erase->ζI,take_length->ψ,append_assoc->γg,take_append_drop->Ψ,nodup_append->γt,mem_of_mem_take->γn,mem_of_mem_drop->γH,filter_eq_self->δq,sum_cons->δm,take->γe,cons_append->γE,length_cons->γz,replicate->ε,take_of_length_le->γl,replicate_zero->ε2,drop->γ8,drop_of_length_le->εj,drop_zero->δQ
open List.cons renaming injEq->τ
open Nat renaming le_refl->φ
open Option.some renaming injEq->γ
namespace Go.Vi
open Go.Proofs.YtjcmncmajmoiiaaGreat.Ir
open Go.Proofs
def Q1:List bM:=[DR,zY,IL,pP,Dz]
theorem QO:∀c∈Q1,Holds Tryz.prog c:=by
 simp only[Q1,γF,γ6,false_implies,implies_true,and_true];exact⟨h74,h76,h120,h79,h80⟩
def eV (p:bp):Int:=jM p (allM p)
def DV:bM:=⟨75,bp,.one cZ,λp=>p.classes.length<=8,λp=> .si .i64 (eV p)⟩
theorem h81:Holds Tryz.prog DV:=by
 refine cJ (L:=Q1) DV lk QO ?_;intro(p:bp) (hp:p.classes.length<=8);refine bQ (p.classes.length<=8/\True/\(γb .i64 (jM p (allM p))).same (γb .i64 (eV p))) (by kernel_rfl) ?_;simp only[vcs,eV];exact hp
def Q2:List bM:=DV::Q1
theorem IV:∀c∈Q2,Holds Tryz.prog c:=by
 simp only[Q2,γF];exact⟨h81,QO⟩
def lI (p:bp) (k:Int):Int:=eV (ez p k) - eV (iJ p k)
theorem Aa (p:bp):0<=eV p/\eV p<=8000000:=aaC p _
def IW:bM:=⟨50,bp×Int,.cons cZ (.one (dU .i64)),λa=>Good a.1/\0<=a.2/\a.2<a.1.offers.length,λa=> .si .i64 (lI a.1 a.2)⟩
theorem h84:Holds Tryz.prog IW:=by
 refine cJ (L:=Q2) IW lk IV ?_;rintro⟨p,k⟩ ⟨hg,h0,h1⟩;simp only at hg h0 h1;refine bQ (let a:=eV (ez p k) - eV (iJ p k);(p.offers.length<=160/\(0:Int)<=k/\k<(↑p.offers.length:Int))/\(ez p k).classes.length<=8/\(Good p/\(0:Int)<=k/\k<(↑p.offers.length:Int))/\(iJ p k).classes.length<=8/\bY .i64 a/\(γb .i64 a).same (γb .i64 (lI p k))) (by kernel_rfl) ?_;simp only[vcs,lI];have a:=Aa (ez p k);have b:=Aa (iJ p k);have h8:=hg.1;have h160:=hg.2.1;have l1:(ez p k).classes.length=p.classes.length:=rfl;have l2:(iJ p k).classes.length=p.classes.length:=rfl;refine⟨⟨h160,h0,h1⟩,by omega,⟨hg,h0,h1⟩,by omega,by omega,by omega⟩
def iQ (p:bp) (k:Int):Int:=if bC p≠0 then bC p else if k<0\/p.offers.length<=k then 4 else 0
def DW:bM:=⟨49,bp×Int,.cons cZ (.one (dU .i64)),λ_=>True,λa=> .si .i64 (iQ a.1 a.2)⟩
theorem h73:Holds Tryz.prog DW:=by
 refine cJ (L:=Q2) DW lk IV ?_;rintro⟨p,k⟩ _;refine bQ (let a:=γy .i64;let c:=decide (bC p≠(0:Int));let b:=γb .i64 (iQ p k);let d:=decide (k<(0:Int));let e:=decide ((↑p.offers.length:Int)<=k);True/\(c=true->(γb .i64 (bC p)).same b)/\(c=false->(d=true->(a 4).same b)/\(d=false->(e=true->(a 4).same b)/\(e=false->(a 0).same b)))) (by kernel_rfl) ?_;simp only[vcs];repeat' (first|refine And.intro ?_ ?_|intro _)
 all_goals (simp only[iQ];(repeat' split)<;>first|rfl|omega|simp_all)
def Q3:List bM:=IW::DW::Q2
theorem IX:∀c∈Q3,Holds Tryz.prog c:=by
 simp only[Q3,γF];exact⟨h84,h73,IV⟩
theorem QP {p:bp} {k:Int} (h:iQ p k=0):bC p=0/\0<=k/\k<p.offers.length:=by
 unfold iQ at h;split at h;·rename_i h1;exact absurd h h1
 ·rename_i h1;split at h;·cases h
  ·exact⟨Θ.1 h1,by omega,by omega⟩
def DX:bM:=⟨21,bp×Int,.cons cZ (.one (dU .i64)),λ_=>True,λa=> .bH [.si .i64 (if iQ a.1 a.2=0 then lI a.1 a.2 else 0),.si .i64 (iQ a.1 a.2)]⟩
theorem h35:Holds Tryz.prog DX:=by
 refine cJ (L:=Q3) DX lk IX ?_;rintro⟨p,k⟩ _;refine bQ (let a:=γb .i64;let b:=(0:Int);let c:=SV.bH;let d:=decide (iQ p k≠b);let e:=γy .i64 0;let f:=[a (iQ p k)];let g:=c (a (if iQ p k=b then lI p k else b)::f);True/\(d=true->(c (e::f)).same g)/\(d=false->(Good p/\b<=k/\k<(↑p.offers.length:Int))/\(c [a (lI p k),e]).same g)) (by kernel_rfl) ?_;simp only[vcs];refine⟨λh=>by simp[h],λh=>?_⟩;have hz:iQ p k=0:=Θ.1 h;obtain⟨hc,h0,h1⟩:=QP hz;exact⟨⟨dF hc,h0,h1⟩,by simp[hz]⟩
def QQ:qA bp where
 put p:=.fn (.func 50) [cZ.put p] [];dec
  | .fn (.func f) [d] []=>if f=50 then cZ.dec d else none
  |_=>none;ok v a h:=by
  split at h
  ·split at h
   ·rename_i hf;simp only[SV.g,gL,cZ.ok _ _ h,hf]
   ·cases h
  ·cases h
 inj a b h:=by
  simp only[SV.g,gL,AV.fn.injEq,τ,and_true,true_and] at h;exact cZ.inj _ _ h
def mV (p:bp) (n:Nat):List Int:=(χ n).map λi:Nat=>lI p i
theorem aa8 {p:bp} {n:Nat}:(mV p n).length=n:=by simp[mV]
theorem QR {p:bp} {i:Int} (h:0<=i):mV p (i+1).toNat=mV p i.toNat++[lI p i]:=by
 unfold mV;rw[show(i+1).toNat=i.toNat+1 from by omega,δI,γd];simp only[θ,γo,show((i.toNat:Nat):Int)=i from by omega]
def IY:bM:=⟨71,Int×bp,.cons (dU .i64) (.one QQ),λa=>Good a.2/\a.1=a.2.offers.length,λa=> .row (.i .i64) (mV a.2 a.1.toNat)⟩
def aa9 (a:Int×bp):Nat->cB
 |3=> .inv Int (λi=>⟨[(1,QQ.put a.2),(5,.ow 0 (mV a.2 i.toNat).length 1),(7,.si .i64 a.1),(8,.si .i64 i)],[.row (.i .i64) (mV a.2 i.toNat) 2 true]⟩)
  (λs=>iS s 8) (λi=>0<=i/\i<=a.1) (λi=>(a.1 - i).toNat) λ_ _=> .look
 |_=> .look
theorem h85:Holds Tryz.prog IY:=by
 refine cJ (L:=Q3) IY aa9 IX ?_;rintro⟨n,p⟩ ⟨hg,hn⟩;simp only at hg hn;refine bQ (let a:=γb .i64;let b:=(0:Int);let c:=bq.row;let d:=γc;let e:=δd;let g:=bn.i .i64;let j:=SV.fn (Fn.func 50) [γK [a p.supply.a0,a p.supply.a1,a p.supply.a2,a p.supply.a3,a p.supply.a4,a p.supply.a5,a p.opn.a0,a p.opn.a1,a p.opn.a2,a p.opn.a3,a p.opn.a4,a p.opn.a5,a p.cls.a0,a p.cls.a1,a p.cls.a2,a p.cls.a3,a p.cls.a4,a p.cls.a5,d g p.classes,d bn.off p.offers]] [];(((j.same j/\(e 0 0 1).same (e 0 (mV p 0).length 1)/\(a n).same (a n)/\(γy .i64 0).same (a 0)/\True)/\(c g [] 2 true).same (c g (mV p 0) 2 true)/\True)/\b<=b/\b<=n)/\∀(x:Int),let f:=mV p x.toNat;let k:=f.length+1;let h:=x+(1:Int);let l:=a h;b<=x/\x<=n->(decide (x<n)=true->(Good p/\b<=x/\x<(↑p.offers.length:Int))/\f.length=f.length/\k*8<=140737488355328/\k<=1000000000000/\bY .i64 h/\((j.same j/\(e 0 (f++[lI p x]).length 1).same (e 0 (mV p h.toNat).length 1)/\(a n).same (a n)/\l.same l/\True)/\(c g (f++[lI p x]) 2 true).same (c g (mV p h.toNat) 2 true)/\True)/\(b<=h/\h<=n)/\(n - h).toNat<(n - x).toNat)/\(decide (x<n)=false->f.length=f.length/\(d g f).same (d g (mV p n.toNat)))) (by kernel_rfl) ?_;simp only[vcs];have h160:=hg.2.1;have hrow:∀{x y:List Int},x=y->(bq.row (.i .i64) x 2 true).same (bq.row (.i .i64) y 2 true):=by rintro _ _ rfl;rfl
 have how:∀{x y:Nat},x=y->(δd 0 x 1).same (δd 0 y 1):=by rintro _ _ rfl;rfl
 refine⟨⟨⟨how rfl,hrow rfl⟩,by omega,by omega⟩,?_⟩;rintro i ⟨i0,i1⟩;have hL:=@aa8 p i.toNat;refine⟨λhlt=>⟨⟨hg,i0,by omega⟩,by omega,by omega,by omega,⟨how (by rw[QR i0]),hrow (QR i0).symm⟩,by omega,by omega⟩,λhge=>?_⟩;rw[show i.toNat=n.toNat by omega]
def Q4:List bM:=IY::DX::Q3
theorem hQ4:∀c∈Q4,Holds Tryz.prog c:=by
 simp only[Q4,γF];exact⟨h85,h35,IX⟩
def xT (p:bp):List Int:=if bC p=0 then mV p p.offers.length else[]
def IZ:bM:=⟨37,bp,.one cZ,λ_=>True,λp=> .bH [.row (.i .i64) (xT p),.si .i64 (bC p)]⟩
theorem h37:Holds Tryz.prog IZ:=by
 refine cJ (L:=Q4) IZ lk hQ4 ?_;intro(p:bp) _;refine bQ (let a:=γc;let b:=SV.bH;let d:=decide (bC p≠(0:Int));let c:=bn.i .i64;let e:=[γb .i64 (bC p)];let f:=b (a c (xT p)::e);let g:=(↑p.offers.length:Int);True/\(d=true->(b (a c []::e)).same f)/\(d=false->(Good p/\g=(↑p.offers.length:Int))/\(b [a c (mV p g.toNat),γy .i64 0]).same f)) (by kernel_rfl) ?_;simp only[vcs];refine⟨λh=>by simp[xT,h],λh=>?_⟩;have hz:bC p=0:=Θ.1 h;exact⟨dF hz,by simp[xT,hz],hz.symm⟩
def om (p:bp) (l:List Off):bp:={p with offers:=l}
theorem I0 {p:bp} {l0:List Off} {f:Off->Bool}:∀{l:List Off} {s t:List lY},eJ p s l=0->(∀k∈t,k∈s)->eJ (om p l0) t (l.filter f)=0
 |[],_,_,_,_=>rfl
 |o::r,s,t,h,hs=>by
  simp only[eJ] at h;split at h;·rename_i h1;exact absurd h h1
  ·split at h;·cases h
   ·rename_i h1 h2;have hn:o.key∉t:=λhm=>h2 (hs _ hm);rw[γ0];split
    ·unfold eJ;rw[if_neg (show ¬gW (om p l0) o≠0 from h1),if_neg hn];exact I0 h λk hk=>by
      rcases π.1 hk with hk|hk;·exact π.2 (.inl (hs k hk))
      ·exact π.2 (.inr hk)
    ·exact I0 h λk hk=>π.2 (.inl (hs k hk))
theorem abd {p:bp} {f:Off->Bool} (h:bC p=0):bC (om p (p.offers.filter f))=0:=by
 have hg:=dF h;unfold bC at h;split at h;·rename_i h1;exact absurd h h1
 ·rename_i h1;have hf:gI p=0:=Θ.1 h1;obtain⟨f1,f2,f3,f4,f5⟩:=pO hf;have hl:=γB f p.offers;have hq:gI (om p (p.offers.filter f))=0:=zJ (p:=om p (p.offers.filter f)) f1 (λj hj=>by have h:=(lj (p:=p) (k:=j)).1 (f2 j hj);exact lj.2 h) (by simp only[om];omega) f5;unfold bC;rw[if_neg (by simp[hq])];exact I0 h (by simp)
theorem DY {a b:bz} (h:∀k,k<6->a.at k<=b.at k):a.le b=true:=by
 have i:=h 0 (by omega);have c:=h 1 (by omega);have d:=h 2 (by omega);have f:=h 3 (by omega);have g:=h 4 (by omega);have e:=h 5 (by omega);simp_all[bz.at,bj,bz.le_iff]
theorem I1 {p:bp} {L:List Off} (d:(L.map Off.bF).Nodup) (c:fF p L=true):gw p L:=by
 refine⟨d,DY λk a=>?_,DY λk a=>?_⟩
 ·have h:=o6.1 c (p.classes.length+k) (by grind[dj]);rw[show(((p.classes.length+k:Nat)):Int)=p.classes.length+k by omega,QE a] at h;rw[mU,δr];have:cQ p L (p.classes.length+k)=(L.map ((λb=>bz.at b k)∘Off.want)).sum:=by
   unfold cQ;congr 1;simp_all[QB]
  omega
 ·have h:=o6.1 c (p.classes.length+6+k) (by grind[dj]);rw[show(((p.classes.length+6+k:Nat)):Int)=p.classes.length+6+k by omega,QF a] at h;rw[mU,δr];have:cQ p L (p.classes.length+6+k)=(L.map ((λb=>bz.at b k)∘dx p)).sum:=by
   unfold cQ;congr 1;simp_all[QC]
  omega
theorem QS {l:List Off}:∀{t:List Int} {a:Int} {r:List Off}, -1<=a->fW l a t=some r->t.Pairwise (·<·)/\∀j∈t,a<j/\j<l.length
 |[],_,_,_,_=>by simp;|i::t,a,r,g,h=>by
  simp only[fW] at h;split at h;·cases h
  ·rename_i k;obtain⟨f,d,rfl⟩:=Option.map_eq_some_iff.1 h;obtain⟨e,c⟩:=QS (by omega) d;refine⟨γv.2 ⟨λj b=>(c j b).1,e⟩,λj b=>?_⟩;grind
def km (p:bp) (t:List Int):Prop:=kJ 0 p.offers.length t/\gw p (bZ p t)
theorem ui {p:bp} (c:bC p=0) {t:List Int}:dp p t=0↔km p t:=by
 refine⟨λh=>?_,λh=>QI c h.1 h.2⟩;have e:=aa1 h;obtain⟨i,a,l,m,o⟩:=xN h;obtain⟨r,d⟩:=Option.isSome_iff_exists.1 a;obtain⟨f,g⟩:=QS (by omega) d;have n:eE p t=bZ p t:=by grind[eE,DL]
 have b:fF p (bZ p t)=true:=by
  simp_all[dp]
 exact⟨⟨f,λj k=>by simp_all⟩,I1 e b⟩
theorem QT {p:bp} (a:Good p):km p []:=⟨⟨by simp,by simp⟩,of_decide_eq_true (Qr a)⟩
theorem abe {p:bp} (c:Good p) {l m:List Int} (h:km p (l++m)):km p l:=by
 obtain⟨⟨b,d⟩,a⟩:=h;rw[rH] at a;refine⟨⟨(γZ.1 b).1,λj e=>d j (by simp[e])⟩,DG c (λx f=>?_) a⟩;grind[vH]
theorem sJ {p:bp} (hc:bC p=0) {t:List Int} (h:km p t):dI p t=bV (bZ p t):=by
 have hz:=(ui hc).2 h;rw[Qx hz];unfold vF;rw[DK];omega
def xU (p:bp):Nat->Int->List Int->List (List Int)->List (List Int)
 |0,_,_,a=>a
 |k+1,i,c,a=>xU p k (i+1) c (if dp p (c++[i])=0 then xU p k (i+1) (c++[i]) (a++[c++[i]]) else a)
def nE (p:bp):List (List Int):=xU p p.offers.length 0 [] [[]]
theorem Ab {p:bp} (f:bC p=0):∀{k:Nat} {i:Int} {c:List Int} {out:List (List Int)} {x:List Int},x∈xU p k i c out↔x∈out\/∃t,t≠[]/\kJ i k t/\km p (c++t)/\x=c++t
 |0,i,c,out,x=>by
  simp only[xU];refine⟨.inl,λh=>?_⟩;rcases h with h|⟨t,l,d,_⟩;·exact h
  ·cases t with
   |nil=>simp_all;|cons j t=>
    have:=d.2 j (by simp);omega
 |k+1,i,c,out,x=>by
  have w:=dF f;simp only[xU];rw[Ab f];have s:∀{t:List Int},kJ (i+1) k t->kJ i (k+1) t:=λh=>⟨h.1,λj e=>by have:=h.2 j e;omega⟩;have n:∀{t:List Int},kJ (i+1) k t->kJ i (k+1) (i::t):=λh=>⟨γv.2 ⟨λj e=>by have:=h.2 j e;omega,h.1⟩,λj e=>by
   rcases γh.1 e with rfl|e;·omega
   ·have:=h.2 j e;omega⟩;constructor
  ·rintro(h|⟨t,l,d,q,r⟩)
   ·split at h
    ·rename_i y;rw[Ab f] at h;rcases h with h|⟨t,l,d,q,r⟩
     ·rcases π.1 h with h|h;·exact .inl h
      ·rw[γr] at h;exact .inr ⟨[i],by simp,n (t:=[]) ⟨by simp,by simp⟩,(ui f).1 y,h⟩
     grind
    simp_all
   grind
  ·rintro(h|⟨t,l,d,q,r⟩)
   ·left;split;·rw[Ab f];left;simp[h]
    ·exact h
   ·cases t with
    |nil=>simp_all;|cons j t=>
     have e:=d.2 j (by simp);have u:=γv.1 d.1;by_cases o:j=i
     ·subst o;left;have v:km p ((c++[j])++t):=by simp_all
      rw[if_pos ((ui f).2 (abe w v)),Ab f];by_cases z:t=[];·simp_all
      ·right;exact⟨t,z,⟨u.2,λm g=>by have a:=u.1 m g;have b:=d.2 m (by simp[g]);omega⟩,v,by simp_all⟩
     ·right;refine⟨j::t,by simp,⟨d.1,λm g=>?_⟩,q,r⟩;have b:=d.2 m g;grind
theorem sK {p:bp} (b:bC p=0) {t:List Int}:t∈nE p↔km p t:=by
 unfold nE;rw[Ab b];constructor;·grind[QT,dF]
 ·intro h;by_cases a:t=[];·left;simp[a]
  ·right;exact⟨t,a,h.1,by simpa using h,by simp⟩
theorem DZ {p:bp} (hc:bC p=0) {L:List Off} (hL:gw p L) (hm:∀x∈L,x∈p.offers):bV L<=jM p (allM p):=by
 have hg:=dF hc;have h2:=sE hg.1;rw[QM hc (m:=allM p) (by unfold allM;omega) (by unfold allM;omega)];refine zQ hg ⟨hL.1,λx hx=>?_,hL.2.1,hL.2.2⟩;have:=hg.2.2.2.2 x (hm x hx);exact⟨hm x hx,QL hg this.1 this.2.1⟩
theorem I2 {p:bp} (hc:bC p=0):∃L,gw p L/\(∀x∈L,x∈p.offers)/\bV L=jM p (allM p):=by
 have hg:=dF hc;have h2:=sE hg.1;rw[QM hc (m:=allM p) (by unfold allM;omega) (by unfold allM;omega)];have q1:=bz.eT.1 hg.2.2.1;have q2:=bz.eT.1 hg.2.2.2.1;obtain⟨L,hL,hv⟩:=zR hg (IE (allM p)) (l:=p.supply) (o:=p.opn) (by rw[bz.le_iff];simp only[bz.zero];omega) (by rw[bz.le_iff];simp only[bz.zero];omega);exact⟨L,⟨hL.nd,hL.w,hL.o⟩,λx hx=>(hL.mem x hx).1,hv⟩
theorem QU {p:bp} (hc:bC p=0) {L:List Off} (hL:gw p L) (hm:∀x∈L,x∈p.offers):∃t,km p t/\(bZ p t).Perm L:=by
 have hn:=xR hc;obtain⟨t,t1,t2,t3⟩:=DJ (λx=>decide (x∈L)) p.offers [];have t4:bZ p t=p.offers.filter λx=>decide (x∈L):=t3;have hnd:(p.offers.filter λx=>decide (x∈L)).Nodup:=List.Nodup.sublist List.filter_sublist hn;have hperm:L.Perm (bZ p t):=by
  rw[t4];refine(List.perm_ext_iff_of_nodup (zW _ hL.1) hnd).2 λx=>?_;rw[γi,decide_eq_true_eq];exact⟨λhx=>⟨hm x hx,hx⟩,λhx=>hx.2⟩
 exact⟨t,⟨⟨t1,λj hj=>by have:=t2 j hj;simp only[List.length_nil] at this;omega⟩,zV hperm hL⟩,hperm.symm⟩
def mg (p:bp) (k:Int):Int:=(bj p.offers k.toNat bn.off.dflt).value
def jv (p:bp) (k:Int) (s:Int×Int) (l:List Int):Int×Int:=
 if k∈l then(s.1,if s.2<dI p l - mg p k then dI p l - mg p k else s.2) else(if s.1<dI p l then dI p l else s.1,s.2)
theorem abf {p:bp} (hc:bC p=0) {l:List Int} (h:l∈nE p):l.length<=160:=(xN ((ui hc).2 ((sK hc).1 h))).2.2.2.1
structure xW where
 at_:Sit
 rest:Int
 out:List Int
def pT (p:bp) (s:xW) (i:Nat):xW:=
 let x:=bj p.offers i bn.off.dflt;if kg s.at_.members x.bF≠0/\fitsAt p s.at_ x=true/\x.value+gk p (eL p s.at_ x)=s.rest then⟨eL p s.at_ x,s.rest - x.value,s.out++[(i:Int)]⟩ else s
def pd (p:bp) (m:Int):xW:=⟨⟨m,p.supply,p.opn⟩,gk p ⟨m,p.supply,p.opn⟩,[]⟩
def dS (p:bp) (m:Int) (n:Nat):xW:=(χ n).foldl (pT p) (pd p m)
def lq (p:bp) (m:Int):Alloc:=if gv p m=0 then⟨(dS p m p.offers.length).out,gk p ⟨m,p.supply,p.opn⟩⟩ else⟨[],0⟩
def WK:List cY:=[Dy,Dp,Dq,pS 9]
theorem hWK:∀c∈WK,dL Tryz.prog c:=by
 simp only[WK,γF,γ6,false_implies,implies_true,and_true];exact⟨h113,h114,h116,Dx 9⟩
def I3:cY where
 f:=78;α:=bp×Int;put a:=[cZ.put a.1,.si .i64 a.2];st _:=[];dec v o:=match v,o with
  |[v,m],[]=>match cZ.dec v,m.int .i64 with
   |some p,some m=>some (p,m)
   |_,_=>none
  |_,_=>none;ok v o a h:=by
  split at h
  ·split at h
   ·rename_i h1 h2;simp only[γ] at h;subst h;exact⟨by simp only[gL,cZ.ok _ _ h1,iw h2];rfl,rfl⟩
   ·cases h
  ·cases h
 inj a b h _:=by
  simp only[gL,τ,and_true] at h;have h2:=h.2;simp only[SV.g,AV.sc.injEq,Value.int.injEq,true_and] at h2;exact Prod.ext (cZ.inj _ _ h.1) h2
 dom a:=gv a.1 a.2=0;res a:=.bH [.agg [.ow 0 (lq a.1 a.2).chosen.length 1,.si .i64 (lq a.1 a.2).value],.si .i64 0];out a:=[.row (.i .i64) (lq a.1 a.2).chosen 3 false]
def abh (p:bp) (v:Int) (s:xW) (es:lD):bX:=[.cells p.ss 27 20 false,.cells [.sc (.slice none 0 0),.il .i64 0] 41 2 false,
 .cells [.si .i64 p.supply.a0,.si .i64 p.supply.a1,.si .i64 p.supply.a2,.si .i64 p.supply.a3,.si .i64 p.supply.a4,.si .i64 p.supply.a5,
  .si .i64 p.opn.a0,.si .i64 p.opn.a1,.si .i64 p.opn.a2,.si .i64 p.opn.a3,.si .i64 p.opn.a4,.si .i64 p.opn.a5,
  .si .i64 p.cls.a0,.si .i64 p.cls.a1,.si .i64 p.cls.a2,.si .i64 p.cls.a3,.si .i64 p.cls.a4,.si .i64 p.cls.a5,
  .row (.i .i64) p.classes,.row .off p.offers,.row .off (L8.of p).l0,.row .off (L8.of p).l1,.row .off (L8.of p).l2,.row .off (L8.of p).l3,.row .off (L8.of p).l4,.row .off (L8.of p).l5,.row .off (L8.of p).l6,.row .off (L8.of p).l7,.mp 3] 214 29 false,
 .map .sit (.i .i64) true es ([0,0,0,0,0,0,0,0,0,0,0,0,0],true) true,
 .cells (encS .sit s.at_) 167 13 false,.cells [.ow 6 s.out.length 1,.si .i64 v] 41 2 false,.row (.i .i64) s.out 3 false]
def abj (a:bp×Int):Nat->cB
 |9=> .inv (Int×lD) (λx=>⟨[(4,.ptr 1 0 2),(7,.ptr 2 0 29),(8,.ptr 4 0 13),(9,.ptr 5 0 2),(10,.si .i64 (dS a.1 a.2 x.1.toNat).rest),(34,.row .off a.1.offers),(35,.si .i64 a.1.offers.length),(36,.si .i64 x.1)],abh a.1 (pd a.1 a.2).rest (dS a.1 a.2 x.1.toNat) x.2⟩)
  (λs=>(iS s 36,mS .sit (.i .i64) s 3)) (λx=>0<=x.1/\x.1<=a.1.offers.length/\jc a.1 x.2) (λx=>(a.1.offers.length - x.1).toNat) λ_ _=> .look
 |_=> .look
theorem xX {p:bp} {m:Int} {n:Nat}:dS p m (n+1)=pT p (dS p m n) n:=by
 unfold dS;rw[δI,List.foldl_append];rfl
theorem I4 {p:bp} (hg:Good p) {a:Sit} (ha:js a) {x:Off} (hx:x∈p.offers) (hb:kg a.members x.bF≠0) (hf:fitsAt p a x=true):js (eL p a x):=by
 have hv:=hg.2.2.2.2 x hx;have h8:=hg.1;have hd:=(zO ha.1 ha.2.1 hv.1 (by omega)).2 hb;simp only[fitsAt,ζ] at hf;exact⟨hd.1,hd.2.1,Dv ha.2.2.1 hv.2.2.1 hf.1,Dv ha.2.2.2 (H9 hv.2.2.1) hf.2⟩
theorem vI {p:bp} (hg:Good p) {m:Int} (h0:0<=m) (h1:m<256):∀n,n<=p.offers.length->js (dS p m n).at_/\(dS p m n).rest=gk p (dS p m n).at_/\(dS p m n).out.length<=n
 |0,_=>⟨⟨h0,h1,hg.2.2.1,hg.2.2.2.1⟩,rfl,φ _⟩
 |n+1,hn=>by
  obtain⟨k1,k2,k3⟩:=vI hg h0 h1 n (by omega);rw[xX];unfold pT;simp only;have hx:=cT (d:=bn.off.dflt) (show n<p.offers.length by omega);split
  ·rename_i hc;refine⟨I4 hg k1 hx hc.1 hc.2.1,?_,by simp;omega⟩;simp only;omega
  ·exact⟨k1,k2,by omega⟩
theorem h75:dL Tryz.prog I3:=by
 refine zH (L:=[Dm]) (W:=WK) I3 (λ_=>none) abj hWK (by simpa using h112) ?_;rintro⟨p,m⟩ (hz:gv p m=0);refine bQ (let a:=γb .i64;let c:=bq.cells;let d:=(0:Int);let e:=γc;let f:=bq.row;let g:=δd;let h:=bY .i64;let j:=SV.ptr;let k:=γK;let l:=SV.bH;let X:=a p.supply.a0;let Y:=a p.supply.a1;let Z:=a p.supply.a2;let a6:=a p.supply.a3;let a7:=a p.supply.a4;let a8:=a p.supply.a5;let a9:=a p.opn.a0;let aa:=a p.opn.a1;let ab:=a p.opn.a2;let ac:=a p.opn.a3;let ad:=a p.opn.a4;let ae:=a p.opn.a5;let o:=bn.i .i64;let v:=e bn.off p.offers;let af:=decide (gv p m≠d);let S:=γy .i64 0;let ag:=[SV.sc (Value.slice none 0 0),S];let ah:=a 0;let ai:=l [k [g 0 (lq p m).chosen.length 1,a (lq p m).value],ah];let aj:=Sit.mk m p.supply p.opn;let w:=j 1 0 2;let y:=j 2 0 29;let z:=j 4 0 13;let A:=j 5 0 2;let T:=gj p (cnt m+1) [] aj;let ak:=a T.fst;let B:=dS p m 0;let al:=(↑p.offers.length:Int);let q:=(↑p.offers.length:Int);let L:=a q;let C:=c ag 41 2 false;let U:=[e bn.off (L8.of p).l0,e bn.off (L8.of p).l1,e bn.off (L8.of p).l2,e bn.off (L8.of p).l3,e bn.off (L8.of p).l4,e bn.off (L8.of p).l5,e bn.off (L8.of p).l6,e bn.off (L8.of p).l7,SV.mp 3];let V:=([0,0,0,0,0,0,0,0,0,0,0,0,0],true);let am:=bq.map bn.sit o true T.snd V true;let D:=B.at_.left;let E:=B.at_.opn;let M:=[a (pd p m).rest];let aD:=bn.off.dflt;let F:=λ(u:List SV) (u_1 u_2:Nat) ↦let an:=c (X::Y::Z::a6::a7::a8::a9::aa::ab::ac::ad::ae::a p.cls.a0::a p.cls.a1::a p.cls.a2::a p.cls.a3::a p.cls.a4::a p.cls.a5::e o p.classes::v::u) u_1 u_2 false;an.same an;True/\(af=true->(l [k ag,a (gv p m)]).same ai/\False)/\(af=false->Good p/\True/\((Good p/\L8.of p=L8.of p/\js aj/\jc p [])/\cnt m<9)/\(((w.same w/\y.same y/\z.same z/\A.same A/\ak.same (a B.rest)/\v.same v/\(a al).same L/\S.same ah/\True)/\F [] 27 20/\C.same C/\F U 214 29/\am.same am/\(c [a m,X,Y,Z,a6,a7,a8,a9,aa,ab,ac,ad,ae] 167 13 false).same (c [a B.at_.members,a D.a0,a D.a1,a D.a2,a D.a3,a D.a4,a D.a5,a E.a0,a E.a1,a E.a2,a E.a3,a E.a4,a E.a5] 167 13 false)/\(c [g 6 0 1,ak] 41 2 false).same (c (g 6 B.out.length 1::M) 41 2 false)/\(f o [] 3 false).same (f o B.out 3 false)/\True)/\d<=d/\d<=q/\jc p T.snd)/\∀(x:Int×lD),let r:=x.fst+(1:Int);let n:=dS p m x.fst.toNat;let G:=dS p m r.toNat;let ao:=a G.rest;let P:=a r;let ap:=bq.map bn.sit o true x.snd V true;let s:=n.at_;let H:=s.left;let I:=s.opn;let J:=G.at_.left;let K:=G.at_.opn;let aq:=c [a G.at_.members,a J.a0,a J.a1,a J.a2,a J.a3,a J.a4,a J.a5,a K.a0,a K.a1,a K.a2,a K.a3,a K.a4,a K.a5] 167 13 false;let Q:=n.out.length;let ar:=c (g 6 G.out.length 1::M) 41 2 false;let W:=f o n.out 3 false;let au:=f o G.out 3 false;let t:=bj p.offers x.fst.toNat aD;let N:=pR p s t;let R:=gj p (cnt N.members+1) x.snd N;let av:=bq.map bn.sit o true R.snd V true;let O:=t.bF;let aw:=decide (x.fst<q);let ax:=n.out.length+1;let ay:=n.rest - t.value;let az:=h r/\((w.same w/\y.same y/\z.same z/\A.same A/\(a n.rest).same ao/\v.same v/\L.same L/\P.same P/\True)/\F [] 27 20/\C.same C/\F U 214 29/\ap.same ap/\(c [a s.members,a H.a0,a H.a1,a H.a2,a H.a3,a H.a4,a H.a5,a I.a0,a I.a1,a I.a2,a I.a3,a I.a4,a I.a5] 167 13 false).same aq/\(c (g 6 Q 1::M) 41 2 false).same ar/\W.same au/\True)/\(d<=r/\r<=q/\jc p x.snd)/\(q - r).toNat<(q - x.fst).toNat;let aE:=(d<=r/\r<=q/\jc p R.snd)/\(q - r).toNat<(q - x.fst).toNat;let aF:=av.same av;let aA:=λ(u:Int) (u_1:Sit) (u_2:Nat) (u_3:bq) ↦h r/\((w.same w/\y.same y/\z.same z/\A.same A/\(a u).same ao/\v.same v/\L.same L/\P.same P/\True)/\F [] 27 20/\C.same C/\F U 214 29/\aF/\(c [a u_1.members,a u_1.left.a0,a u_1.left.a1,a u_1.left.a2,a u_1.left.a3,a u_1.left.a4,a u_1.left.a5,a u_1.opn.a0,a u_1.opn.a1,a u_1.opn.a2,a u_1.opn.a3,a u_1.opn.a4,a u_1.opn.a5] 167 13 false).same aq/\(c (g 6 u_2 1::M) 41 2 false).same ar/\u_3.same au/\True)/\aE;let aB:=λ(u:Bool) ↦decide (t.value+R.fst=n.rest)=u;let aC:=λ(u:Bool) ↦decide (eQ.ry .i64 (s.members / (2:Int)^O.toNat) (1:Int)=d)=u;d<=x.fst/\x.fst<=q/\jc p x.snd->(aw=true->d<=x.fst/\x.fst<al/\x.fst.toNat<p.offers.length/\d<=O/\O<=(64:Int)/\(aC true->az)/\(aC false->(p.classes.length<=8/\d<=O/\O<(↑p.classes.length:Int)/\s.b/\t.want.ok=true)/\(fitsAt p s t=true->((Good p/\L8.of p=L8.of p/\js N/\jc p x.snd)/\cnt N.members<9)/\h (t.value+R.fst)/\(aB true->1=1/\Q=n.out.length/\ax*8<=140737488355328/\ax<=1000000000000/\h ay/\aA ay N (n.out++[x.fst]).length (f o (n.out++[x.fst]) 3 false))/\(aB false->aA n.rest s Q W))/\(fitsAt p s t=false->az)))/\(aw=false->(l [k (g 0 Q 1::M),S]).same ai/\W.same (f o (lq p m).chosen 3 false)/\True))) (by kernel_rfl) ?_;simp only[vcs];obtain⟨hc,m0,m1⟩:=Qh hz;have hg:=dF hc;have hp:=sE hg.1;have h160:=hg.2.1;have ha:js ⟨m,p.supply,p.opn⟩:=⟨m0,by simp only;omega,hg.2.2.1,hg.2.2.2.1⟩;have hm0:jc p []:=λe he=>by simp at he
 have cn:∀z,cnt z<9:=λz=>by have:=@Du z;unfold cnt;omega
 obtain⟨e1,e2⟩:=xJ hg (cnt m+1) [] ⟨m,p.supply,p.opn⟩ ha hm0 (by simp only;omega);have r0:dS p m 0=pd p m:=rfl;have hst:(pd p m).rest=gk p ⟨m,p.supply,p.opn⟩:=rfl;rw[r0,e1,hst];refine⟨λh=>absurd hz h,λ_=>⟨hg,⟨⟨hg,ha,hm0⟩,cn m⟩,⟨⟨rfl,rfl,rfl,rfl⟩,by omega,by omega,e2⟩,?_⟩⟩;rintro⟨i,es⟩ ⟨i0,i1,hes⟩;simp only at i0 i1 hes ⊢;obtain⟨k1,k2,k3⟩:=vI hg m0 (show m<256 by omega) i.toNat (by omega);refine⟨λhlt=>?_,λhge=>?_⟩
 ·have hsu:dS p m (i+1).toNat=pT p (dS p m i.toNat) i.toNat:=by rw[show(i+1).toNat=i.toNat+1 by omega,xX]
  have hx:=cT (d:=bn.off.dflt) (show i.toNat<p.offers.length by omega);unfold pT at hsu;simp only at hsu;rw[show((i.toNat:Nat):Int)=i by omega] at hsu;generalize bj p.offers i.toNat bn.off.dflt=x at*;generalize dS p m i.toNat=s at*;have hv:=hg.2.2.2.2 x hx;have hbd:=xI hg s.at_;have h8:=hg.1;have hbit:eQ.ry .i64 (s.at_.members / 2^x.bF.toNat) 1=kg s.at_.members x.bF:=rfl;rw[hbit];refine⟨i0,hlt,by omega,by omega,by omega,λhb=>?_,λhb=>⟨⟨by omega,by omega,by omega,k1.2.2,hv.2.2.1⟩,λhf=>?_,λhf=>?_⟩⟩
  ·rw[if_neg (λh=>h.1 hb)] at hsu;rw[hsu];refine⟨?_,⟨rfl,rfl,rfl,rfl⟩,⟨?_,?_,hes⟩,?_⟩<;>omega
  ·have xK:pR p s.at_ x=eL p s.at_ x:=by unfold pR;rw[if_pos hf]
   rw[xK];have hn:=I4 hg k1 hx hb hf;obtain⟨q1,q2⟩:=xJ hg (cnt (eL p s.at_ x).members+1) es (eL p s.at_ x) hn hes (by omega);have hbn:=xI hg (eL p s.at_ x);rw[q1];refine⟨⟨⟨hg,hn,hes⟩,cn _⟩,⟨by omega,by omega⟩,λhe=>?_,λhe=>?_⟩
   ·rw[if_pos ⟨hb,hf,he⟩] at hsu;rw[hsu];refine⟨?_,?_,?_,?_,⟨rfl,rfl,rfl,rfl⟩,⟨?_,?_,q2⟩,?_⟩<;>omega
   ·rw[if_neg (λh=>he h.2.2)] at hsu;rw[hsu];refine⟨?_,⟨rfl,rfl,rfl,rfl⟩,⟨?_,?_,q2⟩,?_⟩<;>omega
  ·rw[if_neg (λh=>by rw[hf] at h;cases h.2.1)] at hsu;rw[hsu];refine⟨?_,⟨rfl,rfl,rfl,rfl⟩,⟨?_,?_,hes⟩,?_⟩<;>omega
 ·have hb:lq p m=⟨(dS p m i.toNat).out,gk p ⟨m,p.supply,p.opn⟩⟩:=by unfold lq;rw[if_pos hz,show i.toNat=p.offers.length by omega]
  rw[hb];exact⟨rfl,rfl⟩
theorem QV:∀l:List Int,cmpL l l=0
 |[]=>rfl
 |a::l=>by
  simp only[cmpL,if_neg (ε1 a)];exact QV l
theorem QW:∀{a b:List Int},cmpL a b=0->a=b
 |[],[],_=>rfl
 |[],_::_,h=>by simp[cmpL] at h;|_::_,[],h=>by simp[cmpL] at h;|x::a,y::b,h=>by
  simp only[cmpL] at h;split at h;·simp at h
  ·split at h;·simp at h
   ·rw[QW h,show x=y by omega]
theorem QX:∀{a b:List Int},cmpL a b<0↔0<cmpL b a
 |[],[]=>by simp[cmpL];|[],_::_=>by simp[cmpL];|_::_,[]=>by simp[cmpL];|x::a,y::b=>by
  simp only[cmpL];by_cases h1:x<y;·rw[if_pos h1,if_neg (by omega),if_pos h1];simp
  ·by_cases h2:y<x;·rw[if_neg h1,if_pos h2,if_pos h2];simp
   ·rw[if_neg h1,if_neg h2,if_neg h2,if_neg h1];exact QX
theorem QY:∀{a b c:List Int},cmpL a b<0->cmpL b c<0->cmpL a c<0
 |[],[],_,h,_=>by simp[cmpL] at h;|_::_,[],_,h,_=>by simp[cmpL] at h;|[],_::_,[],_,h=>by simp[cmpL] at h;|[],_::_,_::_,_,_=>by simp[cmpL];|_::_,_::_,[],_,h=>by simp[cmpL] at h;|x::a,y::b,z::c,h,k=>by
  simp only[cmpL] at h k ⊢;by_cases h1:x<y
  ·by_cases k1:y<z;·rw[if_pos (by omega)];omega
   ·rw[if_neg k1] at k;by_cases k2:z<y;·rw[if_pos k2] at k;simp at k
    ·rw[if_pos (by omega)];omega
  ·rw[if_neg h1] at h;by_cases h2:y<x;·rw[if_pos h2] at h;simp at h
   ·rw[if_neg h2] at h;by_cases k1:y<z;·rw[if_pos (by omega)];omega
    ·rw[if_neg k1] at k;by_cases k2:z<y;·rw[if_pos k2] at k;simp at k
     ·rw[if_neg k2] at k;rw[if_neg (by omega),if_neg (by omega)];exact QY h k
def lJ (a b:Alloc):Prop:=b.value<a.value\/a.value=b.value/\cmpL a.chosen b.chosen<0
theorem QZ {a b c:Alloc} (h:lJ a b) (k:lJ b c):lJ a c:=by
 rcases h with h|⟨h1,h2⟩
 ·rcases k with k|⟨k1,_⟩;·left;omega
  ·left;omega
 ·rcases k with k|⟨k1,k2⟩;·left;omega
  ·exact .inr ⟨by omega,QY h2 k2⟩
theorem xY {a:Alloc}:¬lJ a a:=by
 rintro(h|⟨_,h⟩);·omega
 ·rw[QV] at h;omega
theorem abk {a b:Alloc} (h:¬lJ a b) (k:¬lJ b a):a=b:=by
 obtain⟨l,v⟩:=a;obtain⟨m,w⟩:=b;simp only[lJ,not_or,not_and] at h k;have hv:v=w:=by omega
 subst hv;have h2:=h.2 rfl;have k2:=k.2 rfl;have:=mt QX.2 k2;rw[QW (show cmpL l m=0 by omega)]
def mW (p:bp) (a:Sit) (L:List Off):Prop:=Is p (fb a.members) a.left a.opn L
theorem Q0 {m b:Int}:b∈fb m↔(0<=b/\b<8)/\kg m b≠0:=by
 unfold fb;rw[γi,decide_eq_true_eq];constructor
 ·rintro⟨h1,h2⟩;simp only[γh,γ6,or_false] at h1;exact⟨by omega,h2⟩
 ·rintro⟨h1,h2⟩;refine⟨?_,h2⟩;have:b=0\/b=1\/b=2\/b=3\/b=4\/b=5\/b=6\/b=7:=by omega
  rcases this with rfl|rfl|rfl|rfl|rfl|rfl|rfl|rfl<;>simp
theorem I5 {p:bp} (hg:Good p) {a:Sit} (ha:js a) {x:Off} (hx:x∈p.offers) (hb:kg a.members x.bF≠0) (hf:fitsAt p a x=true) {L:List Off} (h:mW p (eL p a x) L):mW p a (x::L):=by
 have hv:=hg.2.2.2.2 x hx;have h8:=hg.1;have hd:=(zO ha.1 ha.2.1 hv.1 (by omega)).2 hb;have hm:fb (eL p a x).members=(fb a.members).filter λg=>decide (g≠x.bF):=hd.2.2;obtain⟨n1,n2,n3,n4⟩:=h;rw[hm] at n2;simp only[fitsAt,ζ] at hf;have w1:=bz.le_iff.1 hf.1;have w2:=bz.le_iff.1 hf.2;refine⟨?_,λy hy=>?_,?_,?_⟩
 ·rw[θ,γx];refine⟨λhh=>?_,n1⟩;obtain⟨y,hy,he⟩:=γf.1 hh;have:=(γi.1 (n2 y hy).2).2;simp only[decide_eq_true_eq] at this;exact this he
 ·rcases γh.1 hy with rfl|hy;·exact⟨hx,Q0.2 ⟨⟨hv.1,by omega⟩,hb⟩⟩
  ·exact⟨(n2 y hy).1,(γi.1 (n2 y hy).2).1⟩
 ·have:=bz.le_iff.1 n3;rw[θ,rG,bz.le_iff];simp only[bz.add,bz.sub,eL] at this ⊢;omega
 ·have:=bz.le_iff.1 n4;rw[θ,rG,bz.le_iff];simp only[bz.add,bz.sub,eL] at this ⊢;omega
theorem Q5 {p:bp} (hg:Good p) {a:Sit} (ha:js a) {x:Off} {L:List Off} (h:mW p a (x::L)):(kg a.members x.bF≠0/\fitsAt p a x=true)/\mW p (eL p a x) L:=by
 obtain⟨n1,n2,n3,n4⟩:=h;have hx:=n2 x (by simp);have hb:=(Q0.1 hx.2);have hd:=(zO ha.1 ha.2.1 hb.1.1 hb.1.2).2 hb.2;have hm:fb (eL p a x).members=(fb a.members).filter λg=>decide (g≠x.bF):=hd.2.2;obtain⟨b1,b2⟩:=Iu hg (L:=L) λy hy=>(n2 y (by simp[hy])).1;rw[θ,rG,bz.le_iff] at n3 n4;rw[θ,γx] at n1;simp only[bz.add,bz.bd] at n3 n4 b1 b2;refine⟨⟨hb.2,?_⟩,n1.2,λy hy=>⟨(n2 y (by simp[hy])).1,?_⟩,?_,?_⟩
 ·simp only[fitsAt,ζ,bz.le_iff];omega
 ·rw[hm,γi,decide_eq_true_eq];exact⟨(n2 y (by simp[hy])).2,λe=>n1.1 (e▸γL hy)⟩
 ·rw[bz.le_iff];simp only[bz.sub,eL];omega
 ·rw[bz.le_iff];simp only[bz.sub,eL];omega
theorem abl {p:bp} {a:Sit} {L M:List Off} (h:L.Perm M) (hL:mW p a L):mW p a M:=
 ⟨((h.map _).nodup_iff).1 hL.nd,λx hx=>hL.mem x (h.mem_iff.2 hx),by rw[<-DI (h.map _)];exact hL.w,by rw[<-DI (h.map _)];exact hL.o⟩
theorem I6 {p:bp} (hg:Good p) {a:Sit} {L:List Off} (h:mW p a L):bV L<=gk p a:=zQ hg h
theorem Q7 {p:bp} (hg:Good p) {a:Sit} (ha:js a):∃L,mW p a L/\bV L=gk p a:=by
 have q1:=bz.eT.1 ha.2.2.1;have q2:=bz.eT.1 ha.2.2.2;exact zR hg (IE _) (by rw[bz.le_iff];simp only[bz.zero];omega) (by rw[bz.le_iff];simp only[bz.zero];omega)
theorem takes {p:bp} (hg:Good p) {a:Sit} (ha:js a) {x:Off} {L:List Off} (h:mW p a (x::L)) (hv:x.value+bV L=gk p a):
  kg a.members x.bF≠0/\fitsAt p a x=true/\x.value+gk p (eL p a x)=gk p a/\mW p (eL p a x) L/\bV L=gk p (eL p a x):=by
 obtain⟨⟨h1,h2⟩,h3⟩:=Q5 hg ha h;have hx:=(h.mem x (by simp)).1;have hn:=I4 hg ha hx h1 h2;have a1:=I6 hg h3;obtain⟨M,hM,hMv⟩:=Q7 hg hn;have a2:=I6 hg (I5 hg ha hx h1 h2 hM);simp only[bV] at a2;exact⟨h1,h2,by omega,h3,by omega⟩
theorem Q8 {p:bp} (hc:bC p=0) {m:Int} (h0:0<=m) (h1:m<256):∀n,n<=p.offers.length->∀L,mW p (dS p m n).at_ L->bV L=(dS p m n).rest->∀y∈L,y∉p.offers.take n
 |0,_,_,_,_,_,_=>by simp;|n+1,hn,L,hL,hv,y,hy=>by
  have hg:=dF hc;obtain⟨k1,k2,k3⟩:=vI hg h0 h1 n (by omega);have ih:=Q8 hc h0 h1 n (by omega);have hx:=cT (d:=bn.off.dflt) (show n<p.offers.length by omega);have htk:p.offers.take (n+1)=p.offers.take n++[bj p.offers n bn.off.dflt]:=by
   have:=j8 (l:=p.offers) (i:=(n:Int)) (d:=bn.off.dflt) (by omega) (by omega);simpa using this
  rw[htk];rw[xX] at hL hv;unfold pT at hL hv;simp only at hL hv;generalize bj p.offers n bn.off.dflt=x at*;generalize dS p m n=s at*;split at hL
  ·rename_i hcond;rw[if_pos hcond] at hv;obtain⟨c1,c2,c3⟩:=hcond;have Q9:=I5 hg k1 hx c1 c2 hL;have:=ih (x::L) Q9 (by simp only[bV] at hv ⊢;omega);intro hm;rcases π.1 hm with hm|hm;·exact this y (by simp[hy]) hm
   ·rw[γr] at hm;have hnd:=Q9.nd;rw[θ,γx] at hnd;exact hnd.1 (hm▸γL hy)
  ·rename_i hcond;rw[if_neg hcond] at hv;intro hm;rcases π.1 hm with hm|hm;·exact ih L hL hv y hy hm
   ·rw[γr] at hm;subst hm;have hperm:=ζI hy;have hv2:=xQ hperm;simp only[bV] at hv2;obtain⟨t1,t2,t3,_⟩:=takes hg k1 (abl hperm hL) (by omega);exact hcond ⟨t1,t2,by omega⟩
theorem taken {p:bp} (hg:Good p) {m:Int} (h0:0<=m) (h1:m<256):∀n,n<=p.offers.length->kJ 0 n (dS p m n).out/\bV (bZ p (dS p m n).out)+(dS p m n).rest=(pd p m).rest/\
  ∀L,mW p (dS p m n).at_ L->mW p (pd p m).at_ (bZ p (dS p m n).out++L)
 |0,_=>⟨⟨by simp[dS,pd],by simp[dS,pd]⟩,by simp[dS,pd,bZ,bV],λL h=>by simpa[dS,pd,bZ] using h⟩
 |n+1,hn=>by
  obtain⟨k1,k2,k3⟩:=vI hg h0 h1 n (by omega);obtain⟨i1,i2,i3⟩:=taken hg h0 h1 n (by omega);have hx:=cT (d:=bn.off.dflt) (show n<p.offers.length by omega);rw[xX];unfold pT;simp only;split
  ·rename_i hcond;obtain⟨c1,c2,c3⟩:=hcond;have ho:bZ p ((dS p m n).out++[(n:Int)])=bZ p (dS p m n).out++[bj p.offers n bn.off.dflt]:=by
    rw[rH];congr 1
   refine⟨⟨?_,λj hj=>?_⟩,?_,λL hL=>?_⟩
   ·rw[γZ];refine⟨i1.1,by simp,λa ha b hb=>?_⟩;rw[γr] at hb;have:=i1.2 a ha;omega
   ·rcases π.1 hj with hj|hj;·have:=i1.2 j hj;omega
    ·rw[γr] at hj;omega
   ·simp only;rw[ho,o7];simp only[bV];omega
   ·have:=i3 _ (I5 hg k1 hx c1 c2 hL);rw[ho];simpa using this
  ·exact⟨⟨i1.1,λj hj=>by have:=i1.2 j hj;omega⟩,i2,i3⟩
theorem abm {p:bp} (hc:bC p=0) {m:Int} (h0:0<=m) (h1:m<256):(dS p m p.offers.length).rest=0:=by
 have hg:=dF hc;obtain⟨k1,k2,k3⟩:=vI hg h0 h1 p.offers.length (φ _);obtain⟨L,hL,hv⟩:=Q7 hg k1;have:=Q8 hc h0 h1 p.offers.length (φ _) L hL (by omega);cases L with
 |nil=>rw[k2,<-hv];rfl;|cons x L=>
  have hx:=(hL.mem x (by simp)).1;exact absurd (by rw[ψ];exact hx) (this x (by simp))
def uj (p:bp):Nat->Nat->xW->List Int
 |0,_,_=>[]
 |k+1,n,s=>
  let x:=bj p.offers n bn.off.dflt;if kg s.at_.members x.bF≠0/\fitsAt p s.at_ x=true/\x.value+gk p (eL p s.at_ x)=s.rest then(n:Int)::uj p k (n+1) (pT p s n) else uj p k (n+1) (pT p s n)
theorem Rb {p:bp} {m:Int}:∀{k n:Nat},n+k=p.offers.length->(dS p m p.offers.length).out=(dS p m n).out++uj p k n (dS p m n)
 |0,n,h=>by
  have:n=p.offers.length:=by omega
  subst this;simp[uj];|k+1,n,h=>by
  rw[Rb (k:=k) (n:=n+1) (by omega)];simp only[uj];rw[xX];unfold pT;simp only;split
  ·rename_i hc;simp[γg]
  ·rfl
theorem I7 {p:bp} (hc:bC p=0) {m:Int} (h0:0<=m) (h1:m<256):∀{k n:Nat},n+k=p.offers.length->∀t:List Int,kJ n k t->mW p (dS p m n).at_ (bZ p t)->bV (bZ p t)=(dS p m n).rest->
  ¬cmpL t (uj p k n (dS p m n))<0
 |0,n,h,t,ht,_,_=>by
  cases t with
  |nil=>simp[uj,cmpL];|cons j t=>
   have:=ht.2 j (by simp);omega
 |k+1,n,h,t,ht,hF,hv=>by
  have hg:=dF hc;obtain⟨k1,k2,k3⟩:=vI hg h0 h1 n (by omega);have hx:=cT (d:=bn.off.dflt) (show n<p.offers.length by omega);have hxv:=hg.2.2.2.2 _ hx;have hs:=@xX p m n;simp only[uj];rw[<-hs];by_cases hcond:kg (dS p m n).at_.members (bj p.offers n bn.off.dflt).bF≠0/\fitsAt p (dS p m n).at_ (bj p.offers n bn.off.dflt)=true/\(bj p.offers n bn.off.dflt).value+gk p (eL p (dS p m n).at_ (bj p.offers n bn.off.dflt))=(dS p m n).rest
  ·rw[if_pos hcond];have hb0:=(xI hg (eL p (dS p m n).at_ (bj p.offers n bn.off.dflt))).1;cases t with
   |nil=>
    simp only[bZ,γo,bV] at hv;omega;|cons j t=>
    have hj:=ht.2 j (by simp);have hp:=γv.1 ht.1;by_cases hjn:j=n
    ·subst hjn;have hst:dS p m (n+1)=⟨eL p (dS p m n).at_ (bj p.offers n bn.off.dflt),(dS p m n).rest - (bj p.offers n bn.off.dflt).value,(dS p m n).out++[(n:Int)]⟩:=by
      rw[hs];unfold pT;simp only;rw[if_pos hcond]
     rw[qF,γq] at hF hv;simp only[bV] at hv;have hun:=(Q5 hg k1 hF).2;have:=I7 hc h0 h1 (k:=k) (n:=n+1) (by omega) t ⟨hp.2,λi hi=>by have a:=hp.1 i hi;have b:=ht.2 i (by simp[hi]);omega⟩ (by rw[hst];exact hun) (by rw[hst];simp only;omega);simp only[cmpL];rw[if_neg (ε1 _),if_neg (ε1 _)];exact this
    ·simp only[cmpL];rw[if_neg (by omega),if_pos (by omega)];omega
  ·rw[if_neg hcond];have hst:dS p m (n+1)=dS p m n:=by rw[hs];unfold pT;simp only;rw[if_neg hcond]
   refine I7 hc h0 h1 (k:=k) (n:=n+1) (by omega) t ⟨ht.1,λi hi=>?_⟩ (by rw[hst];exact hF) (by rw[hst];exact hv);have b:=ht.2 i hi;have:i≠n:=by
    rintro rfl;cases t with
    |nil=>simp at hi;|cons j t=>
     have hj:=ht.2 j (by simp);have hp:=γv.1 ht.1;have hjn:j=n:=by
      rcases γh.1 hi with h|h;·exact h.symm
      ·have:=hp.1 _ h;omega
     subst hjn;rw[qF,γq] at hF hv;simp only[bV] at hv;obtain⟨t1,t2,t3,_⟩:=takes hg k1 hF (by omega);exact hcond ⟨t1,t2,by omega⟩
   omega
theorem Re {p:bp} (hg:Good p):(0<=allM p/\allM p<2^p.classes.length)/\allM p<256:=by
 have:=sE hg.1;unfold allM;omega
theorem abn {p:bp} (hc:bC p=0):(lq p (allM p)).value=eV p/\km p (lq p (allM p)).chosen/\bV (bZ p (lq p (allM p)).chosen)=eV p/\
  ∀t,km p t->¬lJ ⟨t,bV (bZ p t)⟩ (lq p (allM p)):=by
 have hg:=dF hc;obtain⟨⟨m0,m1⟩,m2⟩:=Re hg;have hf:gv p (allM p)=0:=by unfold gv;rw[if_neg (by simp[hc]),if_neg (by omega)]
 have hb:lq p (allM p)=⟨(dS p (allM p) p.offers.length).out,gk p ⟨allM p,p.supply,p.opn⟩⟩:=by unfold lq;rw[if_pos hf]
 have htop:eV p=gk p ⟨allM p,p.supply,p.opn⟩:=by unfold eV jM;rw[if_pos hf]
 obtain⟨i1,i2,i3⟩:=taken hg m0 m2 p.offers.length (φ _);obtain⟨k1,k2,k3⟩:=vI hg m0 m2 p.offers.length (φ _);have hz:=abm hc m0 m2;have hst:(pd p (allM p)).rest=gk p ⟨allM p,p.supply,p.opn⟩:=rfl;have q1:=bz.eT.1 k1.2.2.1;have q2:=bz.eT.1 k1.2.2.2;have hnil:mW p (dS p (allM p) p.offers.length).at_ []:=⟨by simp,by simp,by rw[bz.le_iff];simp[dR];omega,by rw[bz.le_iff];simp[dR];omega⟩;have hall:=i3 [] hnil;rw[List.append_nil] at hall;have hout:=@Rb p (allM p) p.offers.length 0 (by omega);have h00:(dS p (allM p) 0).out=[]:=rfl;rw[h00,List.nil_append] at hout;have hF:km p (dS p (allM p) p.offers.length).out:=⟨i1,hall.nd,hall.w,hall.o⟩;have hV:bV (bZ p (dS p (allM p) p.offers.length).out)=eV p:=by omega
 rw[hb];refine⟨htop.symm,hF,hV,λt ht=>?_⟩;have hfit:mW p (pd p (allM p)).at_ (bZ p t):=⟨ht.2.1,λx hx=>by
  have hm:=vH hg (zU ht.1) x hx;have hv:=hg.2.2.2.2 x hm;exact⟨hm,QL hg hv.1 hv.2.1⟩,ht.2.2.1,ht.2.2.2⟩;have hle:=I6 hg hfit;rintro(h|⟨h1,h2⟩)
 ·have h:gk p ⟨allM p,p.supply,p.opn⟩<bV (bZ p t):=h;have hle:bV (bZ p t)<=gk p ⟨allM p,p.supply,p.opn⟩:=hle;omega
 ·have h1:bV (bZ p t)=gk p ⟨allM p,p.supply,p.opn⟩:=h1;have h2:cmpL t (dS p (allM p) p.offers.length).out<0:=h2;rw[hout] at h2;exact I7 hc m0 m2 (k:=p.offers.length) (n:=0) (by omega) t (by simpa using ht.1) hfit h1 h2
def phi (k j:Int):Int:=if k<=j then j+1 else j
def vJ (p:bp) (k:Int):Alloc:=if iQ p k=0 then⟨(lq (ez p k) (allM p)).chosen.map (phi k),(lq (ez p k) (allM p)).value⟩ else⟨[],0⟩
def rI (p:bp) (b:Int):Bool:=if bC p≠0 then false else if b<0\/(p.classes.length:Int)<=b then false else decide (jM p (ln (allM p) b)<eV p)
def uk (p:bp) (b:Int):Int:=if bC p≠0 then bC p else if b<0\/(p.classes.length:Int)<=b then 6 else 0
def I8:bM:=⟨39,bp×Int,.cons cZ (.one (dU .i64)),λ_=>True,λa=> .bH [.sb (rI a.1 a.2),.si .i64 (uk a.1 a.2)]⟩
theorem h33:Holds Tryz.prog I8:=by
 refine cJ (L:=[pP,zY,Dz,DV]) I8 lk (by simpa using⟨h79,h76,h80,h81⟩) ?_;rintro⟨p,b⟩ _;refine bQ (let a:=SV.bl false;let c:=SV.bH;let d:=γb .i64;let e:=(0:Int);let h:=decide (bC p≠e);let f:=c [SV.sb (rI p b),d (uk p b)];let i:=decide (b<e);let j:=decide ((↑p.classes.length:Int)<=b);let k:=(1:Int)*(2:Int)^b.toNat;let g:=eQ.rA .i64 (allM p) k;let l:=decide (gv p g=e);let m:=[d (gv p g)];True/\(h=true->(c [a,d (bC p)]).same f)/\(h=false->(i=true->(c [a,γy .i64 6]).same f)/\(i=false->(j=true->(c [a,γy .i64 6]).same f)/\(j=false->p.classes.length<=8/\e<=b/\b<=(64:Int)/\bY .i64 k/\True/\(l=true->p.classes.length<=8/\(c (SV.sb (decide (jM p g<eV p))::m)).same f)/\(l=false->(c (a::m)).same f))))) (by kernel_rfl) ?_;simp only[vcs];refine⟨λh=>by simp[rI,uk,h],λh=>⟨λhb=>by simp[rI,uk,h,hb],λhb=>⟨λhn=>by simp[rI,uk,h,hn],λhn=>?_⟩⟩⟩;have hc:bC p=0:=Θ.1 h;have hg:=dF hc;have h8:=hg.1;have hd:eQ.rA .i64 (allM p) (1*2^b.toNat)=ln (allM p) b:=by rw[δU];rfl
 obtain⟨d0,d1⟩:=aa4 hg (show 0<=b by omega) (show b<p.classes.length by omega);have hf:gv p (ln (allM p) b)=0:=by unfold gv;rw[if_neg (by simp[hc]),if_neg (by omega)]
 have h2:(2:Int)^b.toNat<=2^8:=by
  have:=Nat.pow_le_pow_right (n:=2) (by decide) (show b.toNat<=8 by omega);exact_mod_cast this
 have h3:(0:Int)<2^b.toNat:=by exact_mod_cast Nat.two_pow_pos b.toNat
 rw[hd];refine⟨by omega,by omega,by omega,by omega,λhz=>⟨by omega,?_⟩,λhz=>absurd hf hz⟩;rw[hf];unfold rI uk;rw[if_neg (by simp[hc]),if_neg (by omega),if_neg (by simp[hc]),if_neg (by omega)];exact⟨rfl,rfl⟩
def I9:bM:=⟨19,bp,.one cZ,λ_=>True,λp=> .sb (decide (p.classes.length<=8/\p.offers.length<=9))⟩
theorem h28:Holds Tryz.prog I9:=by
 refine cJ (L:=[]) I9 lk (by simp) ?_;intro(p:bp) _;refine bQ (let a:=decide ((↑p.classes.length:Int)<=(8:Int));let b:=SV.sb (decide (p.classes.length<=8/\p.offers.length<=9));(a=true->(SV.sb (decide ((↑p.offers.length:Int)<=(9:Int)))).same b)/\(a=false->(SV.bl false).same b)) (by kernel_rfl) ?_;simp only[vcs];refine⟨λh=>?_,λh=>?_⟩;·rw[decide_eq_decide];omega
 ·symm;rw[decide_eq_false_iff_not];omega
theorem D1 {p:bp} {k:Int}:∀{ls:List (List Int)} {s:Int×Int},
  (s.1<=(ls.foldl (jv p k) s).1/\(∀l∈ls,k∉l->dI p l<=(ls.foldl (jv p k) s).1)/\((ls.foldl (jv p k) s).1=s.1\/∃l∈ls,k∉l/\(ls.foldl (jv p k) s).1=dI p l))/\
  (s.2<=(ls.foldl (jv p k) s).2/\(∀l∈ls,k∈l->dI p l - mg p k<=(ls.foldl (jv p k) s).2)/\((ls.foldl (jv p k) s).2=s.2\/∃l∈ls,k∈l/\(ls.foldl (jv p k) s).2=dI p l - mg p k))
 |[],s=>by simp;|l::ls,s=>by
  obtain⟨⟨a1,a2,a3⟩,b1,b2,b3⟩:=@D1 p k ls (jv p k s l);rw[List.foldl_cons];by_cases hk:k∈l
  ·have e1:(jv p k s l).1=s.1:=by unfold jv;rw[if_pos hk]
   have e2:(jv p k s l).2=if s.2<dI p l - mg p k then dI p l - mg p k else s.2:=by unfold jv;rw[if_pos hk]
   rw[e1] at a1 a3;refine⟨⟨a1,λm hm hkm=>?_,?_⟩,?_,λm hm hkm=>?_,?_⟩
   ·rcases γh.1 hm with rfl|hm;·exact absurd hk hkm
    ·exact a2 m hm hkm
   ·rcases a3 with h|⟨m,hm,h⟩;·exact .inl h
    ·exact .inr ⟨m,by simp[hm],h⟩
   ·rw[e2] at b1;split at b1<;>omega
   ·rcases γh.1 hm with rfl|hm;·rw[e2] at b1;split at b1<;>omega
    ·exact b2 m hm hkm
   ·rcases b3 with h|⟨m,hm,h⟩
    ·rw[e2] at h;by_cases hv:s.2<dI p l - mg p k;·rw[if_pos hv] at h;exact .inr ⟨l,by simp,hk,h⟩
     ·rw[if_neg hv] at h;exact .inl h
    ·exact .inr ⟨m,by simp[hm],h⟩
  ·have e1:(jv p k s l).2=s.2:=by unfold jv;rw[if_neg hk]
   have e2:(jv p k s l).1=if s.1<dI p l then dI p l else s.1:=by unfold jv;rw[if_neg hk]
   rw[e1] at b1 b3;refine⟨⟨?_,λm hm hkm=>?_,?_⟩,b1,λm hm hkm=>?_,?_⟩;·rw[e2] at a1;split at a1<;>omega
   ·rcases γh.1 hm with rfl|hm;·rw[e2] at a1;split at a1<;>omega
    ·exact a2 m hm hkm
   ·rcases a3 with h|⟨m,hm,h⟩
    ·rw[e2] at h;by_cases hv:s.1<dI p l;·rw[if_pos hv] at h;exact .inr ⟨l,by simp,hk,h⟩
     ·rw[if_neg hv] at h;exact .inl h
    ·exact .inr ⟨m,by simp[hm],h⟩
   ·rcases γh.1 hm with rfl|hm;·exact absurd hkm hk
    ·exact b2 m hm hkm
   ·rcases b3 with h|⟨m,hm,h⟩;·exact .inl h
    ·exact .inr ⟨m,by simp[hm],h⟩
theorem Rf {l:List Off} (hn:l.Nodup) {i j:Nat} (hi:i<l.length) (hj:j<l.length) (h:bj l i bn.off.dflt=bj l j bn.off.dflt):i=j:=by
 rw[cO hi,cO hj] at h;have hp:=List.pairwise_iff_getElem.1 hn;by_cases h1:i<j;·exact absurd h (hp i j hi hj h1)
 ·by_cases h2:j<i;·exact absurd h.symm (hp j i hj hi h2)
  ·omega
theorem Rh {p:bp} {k:Int} (hn:p.offers.Nodup) (h0:0<=k) (h1:k<p.offers.length) {x:Off}:x∈(ez p k).offers↔x∈p.offers/\x≠bj p.offers k.toNat bn.off.dflt:=by
 have hsp:p.offers=p.offers.take k.toNat++bj p.offers k.toNat bn.off.dflt::p.offers.drop (k+1).toNat:=by
  rw[<-sD h0 h1,Ψ]
 have hn2:=hn;rw[hsp,γt] at hn2;obtain⟨_,n2,n3⟩:=hn2;show x∈p.offers.take k.toNat++p.offers.drop (k+1).toNat↔_;constructor
 ·intro h;refine⟨?_,?_⟩
  ·rcases π.1 h with h|h;·exact γn h
   ·exact γH h
  ·rintro rfl;rcases π.1 h with h|h;·exact n3 _ h _ (by simp) rfl
   ·exact(γx.1 n2).1 h
 ·rintro⟨h,hne⟩;rw[hsp] at h;rcases π.1 h with h|h;·exact π.2 (.inl h)
  ·rcases γh.1 h with h|h;·exact absurd h hne
   ·exact π.2 (.inr h)
theorem abo {x:Off} {a b:List Off} (h:(a++x::b).Nodup):(a++x::b).filter (λy=>decide (y≠x))=a++b:=by
 rw[γt] at h;obtain⟨_,n2,n3⟩:=h;rw[List.filter_append,γ0,if_neg (by simp)];rw[δq.2 λy hy=>by simpa using n3 y hy x (by simp)];rw[δq.2 λy hy=>by
  have:=(γx.1 n2).1;have:y≠x:=λe=>this (e▸hy);simpa using this]
theorem abp {p:bp} {k:Int} (hn:p.offers.Nodup) (h0:0<=k) (h1:k<p.offers.length):ez p k=om p (p.offers.filter λx=>decide (x≠bj p.offers k.toNat bn.off.dflt)):=by
 have hsp:p.offers=p.offers.take k.toNat++bj p.offers k.toNat bn.off.dflt::p.offers.drop (k+1).toNat:=by
  rw[<-sD h0 h1,Ψ]
 have hf:=abo (hsp▸hn);rw[<-hsp] at hf;unfold ez om;rw[hf]
theorem Ri {p:bp} {k:Int} (hc:bC p=0) (h0:0<=k) (h1:k<p.offers.length):bC (ez p k)=0:=by
 rw[abp (xR hc) h0 h1];exact abd hc
theorem Rj {p:bp} {t:List Int} {x:Off} (h:x∈bZ p t):∃j∈t,bj p.offers j.toNat bn.off.dflt=x:=γf.1 h
theorem abq {p:bp} {k:Int} (hc:bC p=0) (h0:0<=k) (h1:k<p.offers.length):eV (ez p k)=((nE p).foldl (jv p k) (0,0)).1:=by
 have hn:=xR hc;have hq:=Ri hc h0 h1;have hg:=dF hc;obtain⟨⟨a1,a2,a3⟩,_⟩:=@D1 p k (nE p) (0,0);have up:∀l∈nE p,k∉l->dI p l<=eV (ez p k):=by
  intro l hl hk;have hF:=(sK hc).1 hl;rw[sJ hc hF];refine DZ hq (p:=ez p k) (L:=bZ p l) hF.2 λx hx=>?_;obtain⟨j,hj,rfl⟩:=Rj hx;have hj2:=hF.1.2 j hj;refine(Rh hn h0 h1).2 ⟨cT (by omega),λe=>hk ?_⟩;have:=Rf hn (by omega) (by omega) e;rw[show k=j by omega];exact hj
 have lo:eV (ez p k)<=((nE p).foldl (jv p k) (0,0)).1:=by
  obtain⟨L,hL,hm,hv⟩:=I2 hq;have hv:bV L=eV (ez p k):=hv;have hmp:∀x∈L,x∈p.offers/\x≠bj p.offers k.toNat bn.off.dflt:=λx hx=>(Rh hn h0 h1).1 (hm x hx);obtain⟨t,ht,hp⟩:=QU hc (L:=L) hL λx hx=>(hmp x hx).1;have hk:k∉t:=λhk=>(hmp _ (hp.mem_iff.1 (γL (f:=λi:Int=>bj p.offers i.toNat bn.off.dflt) hk))).2 rfl;have:=a2 t ((sK hc).2 ht) hk;rw[sJ hc ht,xQ hp,hv] at this;exact this
 have t0:=Aa (ez p k);rcases a3 with h|⟨l,hl,hk,h⟩;·simp only at h;omega
 ·have:=up l hl hk;omega
theorem Ja {b:bz}:b.ok=true↔∀j,j<6->0<=b.at j/\b.at j<=4:=by
 rw[bz.eT];constructor
 ·intro h j hj;have:j=0\/j=1\/j=2\/j=3\/j=4\/j=5:=by omega
  rcases this with rfl|rfl|rfl|rfl|rfl|rfl<;>simp only[bz.at,IP,IQ]<;>omega
 ·intro h;have h0:=h 0 (by omega);have h1:=h 1 (by omega);have h2:=h 2 (by omega);have h3:=h 3 (by omega);have h4:=h 4 (by omega);have h5:=h 5 (by omega);simp only[bz.at,IP,IQ] at h0 h1 h2 h3 h4 h5;exact⟨h0,h1,h2,h3,h4,h5⟩
theorem D2 {p:bp} {x:Off} {j:Nat} (hj:j<6):(lp p x 6).at j=p.supply.at j - x.want.at j:=by
 have:j=0\/j=1\/j=2\/j=3\/j=4\/j=5:=by omega
 rcases this with rfl|rfl|rfl|rfl|rfl|rfl<;>rfl
theorem Jb {p:bp} {x:Off} {j:Nat} (hj:j<6):(ki p x 6).at j=min (if p.cls.at j=0\/p.cls.at j≠0/\p.cls.at j≠fy p x then p.opn.at j - x.want.at j else p.opn.at j) (p.supply.at j - x.want.at j):=by
 have:j=0\/j=1\/j=2\/j=3\/j=4\/j=5:=by omega
 rcases this with rfl|rfl|rfl|rfl|rfl|rfl<;>rfl
theorem abr {c w cl j:Int} (h:j<6):oc c w cl j 6=if c=0\/c=cl then 0 else w:=by
 unfold oc;by_cases hh:c=0\/c=cl;·rw[if_pos ⟨h,hh⟩,if_pos hh]
 ·rw[if_neg λq=>hh q.2,if_neg hh]
theorem um {p:bp} {x:Off} {j:Nat} (hj:j<6):(dx p x).at j=if p.cls.at j=0\/p.cls.at j=fy p x then 0 else x.want.at j:=by
 have:j=0\/j=1\/j=2\/j=3\/j=4\/j=5:=by omega
 rcases this with rfl|rfl|rfl|rfl|rfl|rfl<;>exact abr (by decide)
theorem Rk {a b:bz}:a.le b=true↔∀j,j<6->a.at j<=b.at j:=⟨λh j _=>DN h j,DY⟩
theorem D3 {f:Off->Int}:∀{L:List Off},(∀y∈L,0<=f y)->0<=(L.map f).sum/\∀y∈L,f y<=(L.map f).sum
 |[],_=>by simp;|z::L,h=>by
  obtain⟨h1,h2⟩:=D3 (f:=f) (L:=L) λy hy=>h y (by simp[hy]);have hz:=h z (by simp);simp only[θ,δm];refine⟨by omega,λy hy=>?_⟩;rcases γh.1 hy with rfl|hy;·omega
  ·have:=h2 y hy;omega
theorem Rl {f g:Off->Int}:∀{L:List Off},(∀y∈L,f y<=g y)->(L.map f).sum<=(L.map g).sum
 |[],_=>by simp;|z::L,h=>by
  have h1:=Rl (f:=f) (g:=g) (L:=L) λy hy=>h y (by simp[hy]);have hz:=h z (by simp);simp only[θ,δm];omega
theorem Rm:∀L:List Off,(L.map λ_=>(0:Int)).sum=0
 |[]=>rfl
 |_::L=>by
  have:=Rm L;simp only[θ,δm];omega
theorem Ac {p:bp} {L:List Off}:gw p L↔(L.map Off.bF).Nodup/\(∀j,j<6->(L.map λy=>y.want.at j).sum<=p.supply.at j)/\∀j,j<6->(L.map λy=>(dx p y).at j).sum<=p.opn.at j:=by
 unfold gw;rw[Rk,Rk];simp only[mU,δr,Function.comp_def]
theorem Rn {p:bp} (hc:bC p=0) {j:Nat} (hj:j<6):(0<=p.cls.at j/\p.cls.at j<=4)/\0<=p.opn.at j/\p.opn.at j<=p.supply.at j/\(p.cls.at j≠0\/p.opn.at j=p.supply.at j):=by
 obtain⟨f1,f2,_⟩:=pO (pQ hc).1;have:=lj.1 (f2 j hj);exact⟨⟨this.1,this.2.1⟩,this.2.2.1,this.2.2.2.1,this.2.2.2.2⟩
theorem vK {p:bp} (hc:bC p=0) {x:Off} (hx:x∈p.offers) {j:Nat} (hj:j<6):(0<=x.want.at j/\x.want.at j<=4)/\x.want.at j<=p.supply.at j/\(dx p x).at j<=p.opn.at j:=by
 have ho:=(pQ hc).2 x hx;obtain⟨h1,h2,h3⟩:=vE ho;have hw:=(zK h1).2.2.2.2;have hF:=Ac.1 (I1 (p:=p) (L:=[x]) (by simp) h3);have a:=hF.2.1 j hj;have b:=hF.2.2 j hj;simp only[θ,γo,δm,List.sum_nil] at a b;have:=Ja.1 hw j hj;omega
theorem Ro {p:bp} {b:Int} {j:Nat}:o9 p b j=true↔p.cls.at j≠0/\p.cls.at j≠bj p.classes b.toNat 0:=by
 unfold o9;rw[decide_eq_true_eq,γq]
theorem abt {p:bp} (hc:bC p=0) {x:Off} (hx:x∈p.offers) {l:List Off} (hl:l.length<=160):gI {ju p x with offers:=l}=0:=by
 obtain⟨f1,f2,f3,f4,f5⟩:=pO (pQ hc).1;refine zJ ?_ ?_ ?_ f5
 ·refine Ja.2 λj hj=>?_;have h1:=vK hc hx hj;have h2:=Ja.1 f1 j hj;show 0<=(lp p x 6).at j/\(lp p x 6).at j<=4;rw[D2 hj];omega
 ·intro j hj;refine lj.2 ?_;have h0:=Rn hc hj;have h1:=vK hc hx hj;have hro:=@Jb p x j hj;have hrs:=@D2 p x j hj;have hout:=@um p x j hj;have e1:bj [p.cls.a0,p.cls.a1,p.cls.a2,p.cls.a3,p.cls.a4,p.cls.a5] j 0=p.cls.at j:=rfl;show 0<=p.cls.at j/\p.cls.at j<=4/\0<=(ki p x 6).at j/\(ki p x 6).at j<=(lp p x 6).at j/\(p.cls.at j≠0\/(ki p x 6).at j=(lp p x 6).at j);rw[hro,hrs];refine⟨h0.1.1,h0.1.2,?_,by omega,?_⟩
  ·by_cases hh:p.cls.at j=0\/p.cls.at j≠0/\p.cls.at j≠fy p x
   ·rw[if_pos hh];by_cases hz:p.cls.at j=0
    ·have:p.opn.at j=p.supply.at j:=by rcases h0.2.2.2 with h|h<;>omega
     omega
    ·have hne:¬(p.cls.at j=0\/p.cls.at j=fy p x):=by omega
     rw[if_neg hne] at hout;omega
   ·rw[if_neg hh];omega
  ·by_cases hz:p.cls.at j=0
   ·right;rw[if_pos (.inl hz)];have:p.opn.at j=p.supply.at j:=by rcases h0.2.2.2 with h|h<;>omega
    omega
   ·exact .inl hz
 ·show ¬(8<p.classes.length\/160<l.length);omega
theorem Rq {p:bp} (hc:bC p=0) {x:Off} (hx:x∈p.offers) {L:List Off} (hL:∀y∈L,y∈p.offers/\y.bF≠x.bF) {l:List Off}:
  gw {ju p x with offers:=l} L↔gw p (x::L):=by
 rw[Ac,Ac];have ho:∀y,dx {ju p x with offers:=l} y=dx p y:=λ_=>rfl;simp only[ho];show(L.map Off.bF).Nodup/\(∀j,j<6->(L.map λy=>y.want.at j).sum<=(lp p x 6).at j)/\(∀j,j<6->(L.map λy=>(dx p y).at j).sum<=(ki p x 6).at j)↔_;simp only[θ,δm,γx];have key:∀j,j<6->(0<=(L.map λy=>(dx p y).at j).sum/\(L.map λy=>(dx p y).at j).sum<=(L.map λy=>y.want.at j).sum)/\(p.cls.at j=0->(L.map λy=>(dx p y).at j).sum=0):=by
  intro j hj;have hy:∀y∈L,0<=(dx p y).at j/\(dx p y).at j<=y.want.at j:=λy hy=>by
   have h1:=(vK hc (hL y hy).1 hj).1;rw[um hj];split<;>omega
  refine⟨⟨(D3 λy hy'=>(hy y hy').1).1,Rl λy hy'=>(hy y hy').2⟩,λhz=>?_⟩;have:(L.map λy=>(dx p y).at j)=L.map λ_=>0:=List.map_congr_left λy _=>by rw[um hj,if_pos (.inl hz)]
  rw[this];exact Rm L
 constructor
 ·rintro⟨h1,h2,h3⟩;refine⟨⟨λhm=>?_,h1⟩,λj hj=>?_,λj hj=>?_⟩
  ·obtain⟨y,hy,he⟩:=γf.1 hm;exact(hL y hy).2 he
  ·have a:=h2 j hj;rw[D2 hj] at a;omega
  ·have a:=h3 j hj;have h0:=(vK hc hx hj).1;rw[Jb hj] at a;rw[um hj];by_cases h4:p.cls.at j=0\/p.cls.at j=fy p x
   ·rw[if_pos h4];split at a<;>omega
   ·rw[if_neg h4];rw[if_pos (.inr (by omega))] at a;omega
 ·rintro⟨⟨_,h1⟩,h2,h3⟩;refine⟨h1,λj hj=>?_,λj hj=>?_⟩
  ·have a:=h2 j hj;rw[D2 hj];omega
  ·have a:=h3 j hj;have b:=h2 j hj;obtain⟨k1,k2⟩:=key j hj;have h0:=Rn hc hj;have h5:=vK hc hx hj;rw[Jb hj];rw[um hj] at a;by_cases h4:p.cls.at j=0
   ·have k3:=k2 h4;have:p.opn.at j=p.supply.at j:=by rcases h0.2.2.2 with h|h<;>omega
    rw[if_pos (.inl h4)];omega
   ·by_cases h6:p.cls.at j=fy p x
    ·rw[if_pos (.inr h6)] at a;rw[if_neg (by omega)];omega
    ·rw[if_neg (by omega)] at a;rw[if_pos (.inr ⟨h4,h6⟩)];omega
theorem abu {p:bp} (hc:bC p=0) {x:Off} {l:List Off} {L:List Off} (hL:∀y∈L,y∈p.offers) (hF:gw {ju p x with offers:=l} L) {y:Off} (hy:y∈L):lH (ju p x) y=true:=by
 refine zZ.2 λj hj=>?_;obtain⟨_,h2,h3⟩:=Ac.1 hF;have a:=(D3 (f:=λy=>y.want.at j) (L:=L) λz hz=>(vK hc (hL z hz) hj).1.1).2 y hy;have ho:∀z∈L,0<=(dx p z).at j:=λz hz=>by
  have:=(vK hc (hL z hz) hj).1;rw[um hj];split<;>omega
 have b:=(D3 (f:=λy=>(dx p y).at j) (L:=L) ho).2 y hy;refine⟨εF a (h2 j hj),λhb=>?_⟩;have hb:=Ro.1 hb;have hb:p.cls.at j≠0/\p.cls.at j≠fy p y:=hb;have hq:(dx p y).at j=y.want.at j:=by rw[um hj,if_neg (by omega)]
 simp only[hq] at b;exact εF b (h3 j hj)
theorem abv {p:bp} (hc:bC p=0) {k:Int} (h0:0<=k) (h1:k<p.offers.length):bC (iJ p k)=0:=by
 have hx:bj p.offers k.toNat bn.off.dflt∈p.offers:=cT (by omega);show bC {ju p (bj p.offers k.toNat bn.off.dflt) with offers:=iP p (bj p.offers k.toNat bn.off.dflt) p.offers.length}=0;generalize bj p.offers k.toNat bn.off.dflt=x at*;have hg:=dF hc;have hrt:iP p x p.offers.length=p.offers.filter λy=>decide (y.bF≠x.bF)&&lH (ju p x) y:=by unfold iP;rw[ψ]
 have hlen:(iP p x p.offers.length).length<=160:=by
  rw[hrt];exact Nat.le_trans (γB _ _) hg.2.1
 have hfr:=abt hc hx hlen;have key:∀(l:List Off) (s t:List lY),eJ p s l=0->(∀y∈l,y∈p.offers)->(∀m∈t,m∈s)->eJ {ju p x with offers:=iP p x p.offers.length} t (l.filter λy=>decide (y.bF≠x.bF)&&lH (ju p x) y)=0:=by
  intro l;induction l with
  |nil=>intro _ _ _ _ _;rfl;|cons o r ih=>
   intro s t h hm hs;simp only[eJ] at h;split at h;·rename_i h1;exact absurd h h1
   ·split at h;·cases h
    ·rename_i h1 h2;have hn:o.key∉t:=λhm=>h2 (hs _ hm);rw[γ0];split
     ·rename_i hcond;simp only[ζ,decide_eq_true_eq] at hcond;obtain⟨o1,o2,o3⟩:=vE (Θ.1 h1);have hz:gW {ju p x with offers:=iP p x p.offers.length} o=0:=by
       have hfits:fF {ju p x with offers:=iP p x p.offers.length} [o]=true:=by
        refine II (Ac.2 ⟨by simp,λj hj=>?_,λj hj=>?_⟩);·simpa using(zZ.1 hcond.2 j hj).1
        ·simp only[θ,γo,δm,List.sum_nil];show(dx p o).at j+0<=(ki p x 6).at j;rw[um hj];have hpr:=lj.1 ((pO hfr).2.1 j hj);have agO:0<=(ki p x 6).at j:=hpr.2.2.1;split;·omega
         ·rename_i hne;have:=(zZ.1 hcond.2 j hj).2 (Ro.2 (show p.cls.at j≠0/\p.cls.at j≠fy p o by omega));have this:o.want.at j<=(ki p x 6).at j:=this;omega
       have hse:i7 (ju p x).classes.length o=0:=o1;unfold gW;rw[if_neg (show ¬i7 (ju p x).classes.length o≠0 by simp[hse]),if_neg o2,if_neg (by simp[hfits])]
      unfold eJ;rw[if_neg (by simp[hz]),if_neg hn];exact ih _ _ h (λy hy=>hm y (by simp[hy])) λm hm2=>by
       rcases π.1 hm2 with hm2|hm2;·exact π.2 (.inl (hs m hm2))
       ·exact π.2 (.inr hm2)
     ·exact ih _ _ h (λy hy=>hm y (by simp[hy])) λm hm2=>π.2 (.inl (hs m hm2))
 have hcl:eJ p [] p.offers=0:=by
  unfold bC at hc;split at hc;·rename_i h1;exact absurd hc h1
  ·exact hc
 have hk:=key p.offers [] [] hcl (λ_ h=>h) (by simp);rw[<-hrt] at hk;unfold bC;rw[if_neg (by simp[hfr])];exact hk
theorem abw {p:bp} {k:Int} (hc:bC p=0) (h0:0<=k) (h1:k<p.offers.length):eV (iJ p k)=((nE p).foldl (jv p k) (0,0)).2:=by
 have hn:=xR hc;have hq:=abv hc h0 h1;have hg:=dF hc;have hx:bj p.offers k.toNat bn.off.dflt∈p.offers:=cT (by omega);have hqo:∀y,y∈(iJ p k).offers↔y∈p.offers/\y.bF≠(bj p.offers k.toNat bn.off.dflt).bF/\lH (ju p (bj p.offers k.toNat bn.off.dflt)) y=true:=λy=>by
  show y∈iP p (bj p.offers k.toNat bn.off.dflt) p.offers.length↔_;unfold iP;rw[ψ,γi,ζ,decide_eq_true_eq]
 obtain⟨_,b1,b2,b3⟩:=@D1 p k (nE p) (0,0);have up:∀l∈nE p,k∈l->dI p l - mg p k<=eV (iJ p k):=by
  intro l hl hk;have hF:=(sK hc).1 hl;rw[sJ hc hF];have hmem:bj p.offers k.toNat bn.off.dflt∈bZ p l:=γL (f:=λi:Int=>bj p.offers i.toNat bn.off.dflt) hk;have hperm:=ζI hmem;have hF2:=zV hperm hF.2;have hall:∀y∈(bZ p l).erase (bj p.offers k.toNat bn.off.dflt),y∈p.offers/\y.bF≠(bj p.offers k.toNat bn.off.dflt).bF:=λy hy=>by
   refine⟨vH hg (zU hF.1) y (List.mem_of_mem_erase hy),λhe=>?_⟩;have:=hF2.1;rw[θ,γx] at this;exact this.1 (he▸γL hy)
  have Rr:=(Rq hc hx hall (l:=iP p (bj p.offers k.toNat bn.off.dflt) p.offers.length)).2 hF2;have:=DZ hq (p:=iJ p k) (L:=(bZ p l).erase (bj p.offers k.toNat bn.off.dflt)) Rr λy hy=>(hqo y).2 ⟨(hall y hy).1,(hall y hy).2,abu hc (λz hz=>(hall z hz).1) Rr hy⟩;rw[xQ hperm];simp only[bV];have hxv:mg p k=(bj p.offers k.toNat bn.off.dflt).value:=rfl;change _<=eV (iJ p k) at this;omega
 have lo:eV (iJ p k)<=((nE p).foldl (jv p k) (0,0)).2:=by
  obtain⟨L,hL,hm,hv⟩:=I2 hq;have hv:bV L=eV (iJ p k):=hv;have hmp:=λy (hy:y∈L)=>(hqo y).1 (hm y hy);have hFp:=(Rq hc hx (λy hy=>⟨(hmp y hy).1,(hmp y hy).2.1⟩) (l:=iP p (bj p.offers k.toNat bn.off.dflt) p.offers.length)).1 hL;obtain⟨t,ht,hp⟩:=QU hc hFp λy hy=>by
   rcases γh.1 hy with rfl|hy;·exact hx
   ·exact(hmp y hy).1
  have hk:k∈t:=by
   obtain⟨j,hj,he⟩:=Rj (hp.mem_iff.2 (List.mem_cons_self ..));have hj2:=ht.1.2 j hj;have:=Rf hn (by omega) (by omega) he;rw[show k=j by omega];exact hj
  have:=b2 t ((sK hc).2 ht) hk;rw[sJ hc ht,xQ hp] at this;simp only[bV,hv] at this;have hxv:mg p k=(bj p.offers k.toNat bn.off.dflt).value:=rfl;omega
 have t0:=Aa (iJ p k);rcases b3 with h|⟨l,hl,hk,h⟩;·simp only at h;omega
 ·have:=up l hl hk;omega
def Jc:bM:=⟨48,bp×Int,.cons cZ (.one (dU .i64)),λ_=>True,λa=> .bH [mT.put (vJ a.1 a.2),.si .i64 (iQ a.1 a.2)]⟩
def kK (a:bp×Int):Alloc:=lq (ez a.1 a.2) (allM (ez a.1 a.2))
def mX (a:bp×Int) (i:Nat):List Int:=((kK a).chosen.take i).map (phi a.2)++(kK a).chosen.drop i
def aby (a:bp×Int):Nat->cB
 |9=> .inv Int (λi=>⟨[(1,.si .i64 a.2),(4,.ptr 1 0 2),(8,.ptr 3 0 2),(36,.ow 4 (mX a i.toNat).length 1),(37,.si .i64 (kK a).chosen.length),(38,.si .i64 i)],
   [.cells a.1.ss 27 20 false,.cells [.sc (.slice none 0 0),.il .i64 0] 41 2 false,.cells (ez a.1 a.2).ss 81 20 false,.cells [.ow 4 (mX a i.toNat).length 1,.si .i64 (kK a).value] 41 2 false,.row (.i .i64) (mX a i.toNat) 3 false]⟩) (λs=>iS s 38)
  (λi=>0<=i/\i<=(kK a).chosen.length) (λi=>((kK a).chosen.length - i).toNat) λ_ _=> .look
 |_=> .look
theorem D4 {a:bp×Int} {i:Nat}:(mX a i).length=(kK a).chosen.length:=by simp[mX];omega
theorem abz {a:bp×Int}:mX a 0=(kK a).chosen:=by simp[mX]
theorem abA {a:bp×Int} {i:Nat} (h:i=(kK a).chosen.length):mX a i=(kK a).chosen.map (phi a.2):=by subst h;simp[mX]
theorem set_mid {α:Type} {a b:List α} {x y:α}:(a++x::b).set a.length y=a++y::b:=by simp
theorem set_self {l:List Int} {i:Nat} (h:i<l.length):l.set i (bj l i 0)=l:=by rw[cO h];exact List.set_getElem_self h
theorem abB {a:bp×Int} {i:Nat} (h:i<(kK a).chosen.length):bj (mX a i) i 0=bj (kK a).chosen i 0/\
  mX a (i+1)=(mX a i).set i (phi a.2 (bj (kK a).chosen i 0)):=by
 unfold mX bj;generalize (kK a).chosen=c at*;have hl:((c.take i).map (phi a.2)).length=i:=by simp;omega
 have hd:c.drop i=c[i]::c.drop (i+1):=List.drop_eq_getElem_cons h;refine⟨?_,?_⟩
 ·rw[List.getElem?_append_right (by omega),hl,hd];simp[h]
 ·rw[hd];have h2:=set_mid (a:=(c.take i).map (phi a.2)) (b:=c.drop (i+1)) (x:=c[i]) (y:=phi a.2 (c[i]?.getD 0));rw[hl] at h2;rw[h2,List.take_succ_eq_append_getElem h,γd];simp[h]
theorem h30:Holds Tryz.prog Jc:=by
 refine con (L:=[DW,DR,zY]) (W:=fV [I3]) Jc aby (lg (by simpa using h75)) (by simpa using⟨h73,h74,h76⟩) ?_;rintro⟨p,k⟩ _;refine bQ (let a:=γb .i64;let b:=(0:Int);let c:=bq.cells;let d:=bq.row;let e:=γc;let f:=SV.bH;let g:=(1:Int);let h:=δd;let j:=γK;let m:=bn.i .i64;let C:=decide (iQ p k≠b);let q:=γy .i64 0;let D:=j [e m [],q];let E:=[a (iQ p k)];let A:=f (j [e m (vJ p k).chosen,a (vJ p k).value]::E);let F:=a 0;let r:=SV.ptr 1 0 2;let s:=SV.ptr 3 0 2;let t:=lq (ez p k) (allM (ez p k));let G:=h 4 t.chosen.length 1;let H:=mX (p,k) 0;let I:=h 4 H.length 1;let n:=(↑(kK (p,k)).chosen.length:Int);let B:=a n;let v:=c [SV.sc (Value.slice none 0 0),q] 41 2 false;let w:=[a (kK (p,k)).value];let y:=λ(u:bp) (u_1:Nat) ↦let J:=c [a u.supply.a0,a u.supply.a1,a u.supply.a2,a u.supply.a3,a u.supply.a4,a u.supply.a5,a u.opn.a0,a u.opn.a1,a u.opn.a2,a u.opn.a3,a u.opn.a4,a u.opn.a5,a u.cls.a0,a u.cls.a1,a u.cls.a2,a u.cls.a3,a u.cls.a4,a u.cls.a5,e m u.classes,e bn.off u.offers] u_1 20 false;J.same J;True/\(C=true->(f (D::E)).same A)/\(C=false->(p.offers.length<=160/\b<=k/\k<(↑p.offers.length:Int))/\(ez p k).classes.length<=8/\gv (ez p k) (allM (ez p k))=b/\(false=true->(f [D,F]).same A)/\(false=false->((((a k).same (a k)/\r.same r/\s.same s/\G.same I/\(a (↑t.chosen.length:Int)).same B/\q.same F/\True)/\y p 27/\v.same v/\y (ez p k) 81/\(c [G,a t.value] 41 2 false).same (c (I::w) 41 2 false)/\(d m t.chosen 3 false).same (d m H 3 false)/\True)/\b<=b/\b<=n)/\∀(x:Int),let l:=mX (p,k) x.toNat;let K:=h 4 l.length 1;let o:=x+g;let L:=mX (p,k) o.toNat;let M:=h 4 L.length 1;let N:=a o;let z:=bj l x.toNat b;let P:=(a k).same (a k)/\r.same r/\s.same s/\K.same M/\B.same B/\N.same N/\True;let O:=λ(u:List Int) ↦bY .i64 o/\(P/\y p 27/\v.same v/\y (ez p k) 81/\(c (K::w) 41 2 false).same (c (M::w) 41 2 false)/\(d m u 3 false).same (d m L 3 false)/\True)/\(b<=o/\o<=n)/\(n - o).toNat<(n - x).toNat;b<=x/\x<=n->(decide (x<n)=true->l.length=l.length/\b<=x/\x<(↑l.length:Int)/\l.length=l.length/\x.toNat<l.length/\(decide (k<=z)=true->bY .i64 (z+g)/\l.length=l.length/\b<=x/\x<(↑l.length:Int)/\l.length=l.length/\x.toNat<l.length/\O (l.set x.toNat (z+g)))/\(decide (k<=z)=false->O l))/\(decide (x<n)=false->l.length=l.length/\(f [j (e m l::w),q]).same A)))) (by kernel_rfl) ?_;simp only[vcs];have zal:∀{a:Alloc},a=⟨[],0⟩->(γK [.row (.i .i64) [],.il .i64 0]).same (γK [.row (.i .i64) a.chosen,.si .i64 a.value]):=by rintro _ rfl;rfl
 refine⟨λh=>zal (by unfold vJ;rw[if_neg h]),λh=>?_⟩;have hz:iQ p k=0:=Θ.1 h;obtain⟨hc,k0,k1⟩:=QP hz;have hg:=dF hc;have h160:=hg.2.1;have h8:=hg.1;have hcq:=Ri hc k0 k1;have Jd:=dF hcq;obtain⟨⟨m0,m1⟩,m2⟩:=Re Jd;have hf:gv (ez p k) (allM (ez p k))=0:=by unfold gv;rw[if_neg (by simp[hcq]),if_neg (by omega)]
 obtain⟨b1,b2,b3,b4⟩:=abn hcq;have hlen:=abf hcq ((sK hcq).2 b2);have hb:lq (ez p k) (allM (ez p k))=kK (p,k):=rfl;rw[hb] at b1 b2 b3 b4 hlen ⊢;have agP:=Jd.2.1;have Je:∀{a b:Nat} {v:Int},a=b->(bq.cells [.ow 4 a 1,.si .i64 v] 41 2 false).same (bq.cells [.ow 4 b 1,.si .i64 v] 41 2 false):=by rintro _ _ _ rfl;rfl
 have hrow:∀{a b:List Int},a=b->(bq.row (.i .i64) a 3 false).same (bq.row (.i .i64) b 3 false):=by rintro _ _ rfl;rfl
 have how:∀{a b:Nat},a=b->(δd 4 a 1).same (δd 4 b 1):=by rintro _ _ rfl;rfl
 refine⟨⟨h160,k0,k1⟩,Jd.1,hf,λh=>absurd h (by decide),λ_=>⟨⟨⟨⟨how D4.symm,rfl⟩,Je D4.symm,hrow abz.symm⟩,by omega,by omega⟩,?_⟩⟩;rintro i ⟨i0,i1⟩;refine⟨λkj=>?_,λmf=>?_⟩
 ·obtain⟨n1,n2⟩:=abB (a:=(p,k)) (i:=i.toNat) (by omega);have hm:=b2.1.2 _ (cT (d:=(0:Int)) (show i.toNat<(kK (p,k)).chosen.length by omega));have hl:=@D4 (p,k) i.toNat;have hl2:=@D4 (p,k) (i+1).toNat;rw[show i.toNat+1=(i+1).toNat by omega] at n2;rw[n1];generalize bj (kK (p,k)).chosen i.toNat 0=x at*;refine⟨i0,by omega,by omega,λhx=>⟨by omega,i0,by omega,by omega,by omega,⟨how (by omega),Je (by omega),hrow ?_⟩,by omega,by omega⟩,λhx=>⟨by omega,⟨how (by omega),Je (by omega),hrow ?_⟩,by omega,by omega⟩⟩;·rw[n2];unfold phi;rw[if_pos hx]
  ·rw[n2];unfold phi;rw[if_neg hx,<-n1,set_self (by omega)]
 ·have hi:i.toNat=(kK (p,k)).chosen.length:=by omega
  rw[abA hi,hz];unfold vJ;rw[if_pos hz];exact⟨rfl,rfl⟩
def Jf:bM:=⟨47,Unit,.nil,λ_=>True,λ_=>cZ.put three⟩
theorem h72:Holds Tryz.prog Jf:=by
 refine cJ (L:=[]) Jf lk (by simp) ?_;intro _ _;refine bQ (let a:=γb .i64;let b:=(0:Int);let c:=(1:Int);let d:=γc;let g:=γy .i64 1;let e:=γy .i64 0;let f:=three.supply;(γK [g,g,e,e,e,e,g,g,e,e,e,e,e,e,e,e,e,e,d (bn.i .i64) [b,b,b],d bn.off [Off.mk b (bz.mk c c b b b b) (10:Int),Off.mk c (bz.mk c b b b b b) (6:Int),Off.mk (2:Int) (bz.mk b c b b b b) (6:Int)]]).same (γK [a f.a0,a f.a1,a f.a2,a f.a3,a f.a4,a f.a5,a three.opn.a0,a three.opn.a1,a three.opn.a2,a three.opn.a3,a three.opn.a4,a three.opn.a5,a three.cls.a0,a three.cls.a1,a three.cls.a2,a three.cls.a3,a three.cls.a4,a three.cls.a5,d (bn.i .i64) three.classes,d bn.off three.offers])) (by kernel_rfl) ?_;conv=>zeta
 rfl
def Q6:List bM:=[Jf,IZ,Jc,I8,r32]
theorem hQ6:∀c∈Q6,Holds Tryz.prog c:=by
 simp only[Q6,γF,γ6,false_implies,implies_true,and_true];exact⟨h72,h37,h30,h33,h32⟩
def Jg:bM:=⟨20,Unit,.nil,λ_=>True,λ_=> .sb true⟩
theorem h29:Holds Tryz.prog Jg:=by
 refine cJ (L:=Q6) Jg lk hQ6 ?_;intro _ _;refine bQ (let a:=SV.bl false;let b:=SV.sb;let c:=(0:Int);let d:=(3:Int);let e:=(1:Int);let z0:Nat:=(xT three).length;let f:=!rI three c;True/\True/\True/\True/\True/\True/\True/\True/\(true=true->(true=true->c<=c/\c<d/\0<z0/\(true=true->c<=e/\e<d/\1<z0/\(true=true->c<=(2:Int)/\(2:Int)<d/\2<z0/\(true=true->(true=true->(true=true->((vJ three c).chosen.length<=1000000000000/\2<=1000000000000)/\(true=true->(true=true->(f=true->(true=true->(b (rI three e)).same (b true))/\(true=false->(a).same (b true)))/\(f=false->(a).same (b true)))/\(true=false->(a).same (b true)))/\(true=false->(a).same (b true)))/\(true=false->(a).same (b true)))/\(true=false->(a).same (b true)))/\(true=false->(a).same (b true)))/\(true=false->(a).same (b true)))/\(true=false->(a).same (b true)))/\(true=false->(a).same (b true)))/\(true=false->(a).same (b true))) (by kernel_rfl) ?_;simp only[vcs];have e1:xT three=[12,4,4]:=by kernel_rfl
 have e2:vJ three 0=⟨[1,2],12⟩:=by kernel_rfl
 have e3:bC three=0:=by kernel_rfl
 have e4:iQ three 0=0:=by kernel_rfl
 have e5:rI three 0=false:=by kernel_rfl
 have e6:rI three 1=true:=by kernel_rfl
 have e7:uk three 0=0:=by kernel_rfl
 have e8:uk three 1=0:=by kernel_rfl
 simp[e1,e2,e3,e4,e5,e6,e7,e8]
def oo (a:List Int):Nat->Nat
 |0=>0
 |n+1=>if bj a n 0=0 then oo a n else n+1
def bI (a:List Int):List Int:=a.take (oo a a.length)
def rJ:bM:=⟨195,List Int,.one (dY (.i .u32)),λa=>a.length<=1000000000000,λa=> .row (.i .u32) (bI a)⟩
def abE (a:List Int):Nat->cB
 |2=> .inv Int (λn=>⟨[(0,.row (.i .u32) a),(3,.si .i64 n)],[]⟩) (λs=>iS s 3) (λn=>0<=n/\n<=a.length/\oo a n.toNat=oo a a.length) (λn=>n.toNat) λ_ _=> .look
 |_=> .look
theorem h152:Holds Tryz.prog rJ:=by
 refine cJ (L:=[]) rJ abE (by simp) ?_;intro(a:List Int) (h:a.length<=1000000000000);refine bQ (let e:=(0:Int);let f:=γc;let c:=bn.i .u32;let d:=(↑a.length:Int);let l:=γb .i64 d;let g:=(↑a.length:Int);let j:=oo a a.length;((((f c a).same (f c a)/\l.same l/\True)/\True)/\e<=d/\d<=g/\oo a d.toNat=j)/\∀(x:Int),let r:=decide (e<x);let b:=x - (1:Int);let o:=decide (bj a b.toNat e=e);let k:=γb .i64 b;e<=x/\x<=g/\oo a x.toNat=j->(r=true->bY .i64 b/\e<=b/\b<d/\b.toNat<a.length/\(o=true->bY .i64 b/\(((f c a).same (f c a)/\k.same k/\True)/\True)/\(e<=b/\b<=g/\oo a b.toNat=j)/\b.toNat<x.toNat)/\(o=false->e<=x/\e<=x/\0<=x.toNat/\x.toNat<=x.toNat/\x.toNat<=a.length/\(f c (γe (x.toNat - 0) a)).same (f c (bI a))))/\(r=false->e<=x/\e<=x/\0<=x.toNat/\x.toNat<=x.toNat/\x.toNat<=a.length/\(f c (γe (x.toNat - 0) a)).same (f c (bI a)))) (by kernel_rfl) ?_;simp only[vcs];refine⟨⟨by omega,by omega,by simp⟩,?_⟩;rintro n ⟨f,t,q⟩;have e:(n.toNat=0\/0<n.toNat/\¬bj a (n.toNat - 1) 0=0)->γe (n.toNat - 0) a=bI a:=λh=>by
  unfold bI;rw[<-q];congr 1;rcases h with h|h;·rw[h];rfl
  ·obtain⟨v,h⟩:=h;obtain⟨m,u⟩:∃m,n.toNat=m+1:=⟨n.toNat - 1,by omega⟩;simp_all[oo]
 refine⟨λs=>⟨by omega,by omega,by omega,by omega,λp=>⟨by omega,⟨by omega,by omega,?_⟩,by omega⟩,λp=>⟨f,f,by omega,by omega,by omega,?_⟩⟩,λs=>⟨f,f,by omega,by omega,by omega,e (.inl (by omega))⟩⟩
 ·rw[<-q,show n.toNat=(n - 1).toNat+1 by omega];rw[oo,if_pos p]
 simp_all
def bk:List Int->Int
 |[]=>0
 |d::l=>d+4294967296*bk l
def bA (a:List Int):Prop:=∀d∈a,0<=d/\d<4294967296
def fN:List Int->Prop
 |[]=>True
 |d::l=>(l=[]->d≠0)/\fN l
theorem jd {d:Int} {l:List Int}:bA (d::l)↔(0<=d/\d<4294967296)/\bA l:=by simp[bA]
theorem nG {a:List Int} (h:bA a) (n:Nat):bA (a.take n):=λd b=>h d (γn b)
theorem fc:∀{a:List Int},bA a->0<=bk a
 |[],_=>Int.le_refl _
 |d::l,h=>by
  obtain⟨c,b⟩:=jd.1 h;have:=fc b;grind[bk]
theorem val_zero:∀{a:List Int},bA a->fN a->bk a=0->a=[]
 |[],_,_,_=>rfl
 |d::l,h,b,f=>by
  obtain⟨g,c⟩:=jd.1 h;have:=fc c;simp only[bk] at f;have e:=val_zero c b.2 (by omega);have:=b.1 e;omega
theorem val_inj:∀{a b:List Int},bA a->bA b->fN a->fN b->bk a=bk b->a=b
 |[],b,_,i,_,c,h=>(val_zero i c h.symm).symm
 |d::l,[],f,_,g,_,h=>val_zero f g h
 |d::l,e::m,f,i,g,c,h=>by
  obtain⟨p,j⟩:=jd.1 f;obtain⟨s,k⟩:=jd.1 i;have r:=fc j;have q:=fc k;simp only[bk] at h;have n:d=e:=by omega
  have o:bk l=bk m:=by omega
  rw[n,val_inj j k g.2 c.2 o]
theorem xZ:∀{a:List Int} {x:Int},bk (a++[x])=bk a+4294967296^a.length*x
 |[],x=>by simp[bk];|d::l,x=>by
  simp only[γE,bk,xZ,γz,γQ,εA];grind
theorem Jh:∀{a:List Int} {x:Int},x≠0->fN (a++[x])
 |[],x,h=>⟨λ_=>h,trivial⟩
 |d::l,x,h=>⟨λb=>by simp at b,Jh h⟩
theorem D5 {a:List Int} {n:Nat} (h:n<a.length):a.take (n+1)=a.take n++[bj a n 0]:=by
 simp_all[cO]
theorem Rt {a:List Int}:∀{n:Nat},n<=a.length->bk (a.take (oo a n))=bk (a.take n)/\fN (a.take (oo a n))
 |0,_=>by simp[oo,fN];|n+1,h=>by
  obtain⟨d,b⟩:=@Rt a n (by omega);have c:=D5 (show n<a.length by omega);unfold oo;grind[xZ,Jh]
theorem rK {a:List Int}:bk (bI a)=bk a/\fN (bI a):=by
 have:=@Rt a a.length (φ _);rw[ψ] at this;exact this
theorem sL {a:List Int} (h:bA a):bA (bI a):=nG h _
theorem uo {a:List Int}:(bI a).length<=a.length:=by grind[bI]
def vM:Nat->Int->List Int
 |0,_=>[]
 |k+1,n=>if n<=0 then[] else(n % 4294967296)::vM k (n / 4294967296)
def cF (n:Int):List Int:=vM n.toNat n
theorem Ru:∀{k:Nat} {n:Int},0<=n->n.toNat<=k->bk (vM k n)=n/\bA (vM k n)/\fN (vM k n)
 |0,n,b,h=>by
  have:n=0:=by omega
  subst this;exact⟨rfl,by simp[vM,bA],trivial⟩;|k+1,n,b,h=>by
  unfold vM;split
  ·have:n=0:=by omega
   subst this;exact⟨rfl,by simp[bA],trivial⟩
  ·obtain⟨d,a,c⟩:=@Ru k (n / 4294967296) (by omega) (by omega);refine⟨by grind[bk],jd.2 ⟨by omega,a⟩,λe f=>?_,c⟩;grind[bk]
theorem gl {n:Int} (h:0<=n):bk (cF n)=n/\bA (cF n)/\fN (cF n):=Ru h (φ _)
theorem Ad {a:List Int} (h:bA a) (b:fN a):cF (bk a)=a:=by
 grind[gl,fc,val_inj]
theorem qH {a:List Int} (h:bA a):bI a=cF (bk a):=by
 grind[rK,Ad,sL]
theorem oq:∀{a:List Int},bA a->bk a<4294967296^a.length
 |[],_=>by simp[bk];|d::l,h=>by
  obtain⟨c,b⟩:=jd.1 h;have:=oq b;grind[bk]
def iR (s t:List Int):Nat->Int
 |0=>0
 |i+1=>(bj s i 0+iR s t i+bj t i 0) / 4294967296
def sM (s t:List Int) (i:Nat):Int:=(bj s i 0+iR s t i+bj t i 0) % 4294967296
def pe (s t:List Int) (i:Nat):List Int:=(χ i).map (sM s t)++ε (s.length+1 - i) 0
def big (a:List Int×List Int):List Int:=if a.1.length<a.2.length then a.2 else a.1
def mh (a:List Int×List Int):List Int:=if a.1.length<a.2.length then a.1 else a.2
def Ae:bM:=⟨192,List Int×List Int,.cons (dY (.i .u32)) (.one (dY (.i .u32))),λa=>(bA a.1/\bA a.2)/\a.1.length<=100000000000/\a.2.length<=100000000000,λa=> .row (.i .u32) (cF (bk a.1+bk a.2))⟩
def abG (a:List Int×List Int):Nat->cB
 |6=> .inv Int (λi=>⟨[(0,.row (.i .u32) (big a)),(1,.row (.i .u32) (mh a)),(5,.ow 0 (pe (big a) (mh a) i.toNat).length 1),(6,.si .u64 (iR (big a) (mh a) i.toNat)),(21,.si .i64 (big a).length),(22,.si .i64 i)],[.row (.i .u32) (pe (big a) (mh a) i.toNat) 235 true]⟩) (λs=>iS s 22)
  (λi=>0<=i/\i<=(big a).length) (λi=>((big a).length - i).toNat) λ_ _=> .look
 |_=> .look
theorem dX {a:List Int} (h:bA a) (i:Nat):0<=bj a i 0/\bj a i 0<4294967296:=by
 by_cases b:i<a.length;·rw[cO b];exact h _ (List.getElem_mem b)
 grind[bj]
theorem D6 {a:List Int} {i:Nat} (h:a.length<=i):bj a i 0=0:=by grind[bj]
theorem Ji {s t:List Int} (b:bA s) (a:bA t):∀i,0<=iR s t i/\iR s t i<=1
 |0=>by simp[iR];|i+1=>by
  have h:=Ji b a i;have c:=dX b i;have d:=dX a i;grind[iR]
theorem x4 {s t:List Int} {i:Nat} (h:i<=s.length):(pe s t i).length=s.length+1:=by grind[pe]
theorem Jj {s t:List Int} {i:Nat} {v:Int} (h:i<=s.length):(pe s t i).set i v=(χ i).map (sM s t)++v::ε (s.length - i) 0:=by
 unfold pe;have a:s.length+1 - i=(s.length - i)+1:=by omega
 rw[a,List.replicate_succ];simp_all
theorem Rw {s t:List Int} {i:Nat} (h:i<s.length):pe s t (i+1)=(pe s t i).set i (sM s t i):=by
 rw[Jj (by omega)];unfold pe;rw[δI,γd,γg];simp_all
theorem mj {a:List Int} {i:Nat}:bk (a.take (i+1))=bk (a.take i)+4294967296^i*bj a i 0:=by
 by_cases h:i<a.length;·grind[D5,xZ]
 ·rw[D6 (by omega),γl (by omega),γl (by omega)];simp
theorem Jk {s t:List Int}:∀i,bk ((χ i).map (sM s t))+4294967296^i*iR s t i=bk (s.take i)+bk (t.take i)
 |0=>by simp[iR,bk];|i+1=>by
  have a:=@Jk s t i;rw[δI,γd,θ,γo,xZ,mj,mj,γQ];grind[sM,iR]
theorem h154:Holds Tryz.prog Ae:=by
 refine cJ (L:=[rJ]) Ae abG (by simpa using h152) ?_;rintro⟨a,b⟩ ⟨⟨ha,hb⟩,hla,hlb⟩;simp only at ha hb hla hlb;refine bQ (let c:=(18446744073709551616:Int);let d:=(0:Int);let e:=(4294967296:Int);let f:=γb .i64;let g:=γc;let h:=bq.row;let j:=δd;let m:=(↑(big (a,b)).length:Int);let q:=(↑(big (a,b)).length:Int);let r:=(↑(mh (a,b)).length:Int);let k:=bn.i .u32;let s:=g k (big (a,b));let t:=g k (mh (a,b));let v:=f m;let z:=pe (big (a,b)) (mh (a,b)) 0;let G:=∀(x:Int),let l:=pe (big (a,b)) (mh (a,b)) x.toNat;let n:=l.length;let o:=x+(1:Int);let A:=pe (big (a,b)) (mh (a,b)) o.toNat;let B:=f o;let C:=bj (big (a,b)) x.toNat d;let w:=iR (big (a,b)) (mh (a,b)) x.toNat;let y:=l.set q.toNat (w % e);let D:=λ(u u_1:Int) ↦let E:=(u % c+u_1) % c;d<=(32:Int)/\(32:Int)<=(64:Int)/\l.length=n/\d<=x/\x<(↑n:Int)/\l.length=n/\x.toNat<n/\bY .i64 o/\((s.same s/\t.same t/\(j 0 l.length 1).same (j 0 A.length 1)/\(γb .u64 (E / e)).same (γb .u64 (iR (big (a,b)) (mh (a,b)) o.toNat))/\v.same v/\B.same B/\True)/\(h k (l.set x.toNat (E % e)) 235 true).same (h k A 235 true)/\True)/\(d<=o/\o<=m)/\(m - o).toNat<(m - x).toNat;d<=x/\x<=m->(decide (x<m)=true->d<=x/\x<q/\x.toNat<(big (a,b)).length/\(decide (x<r)=true->d<=x/\x<r/\x.toNat<(mh (a,b)).length/\D (C % c+w) (bj (mh (a,b)) x.toNat d % c))/\(decide (x<r)=false->D C w))/\(decide (x<m)=false->l.length=n/\d<=q/\q<(↑n:Int)/\l.length=n/\q.toNat<n/\l.length=y.length/\y.length<=1000000000000/\(g k (bI y)).same (g k (cF (bk a+bk b))));let F:=λ(u:Bool) (u_1 u_2:List Int) ↦let p:=(↑u_1.length:Int)+(1:Int);decide ((↑a.length:Int)<(↑b.length:Int))=u->bY .i64 p/\d<=p/\p<=p/\p*(4:Int)<=(140737488355328:Int)/\p<=(1000000000000:Int)/\((((g k u_1).same s/\(g k u_2).same t/\(j 0 p.toNat 1).same (j 0 z.length 1)/\(γy .u64 0).same (γb .u64 (iR (big (a,b)) (mh (a,b)) 0))/\(f (↑u_1.length:Int)).same v/\(γy .i64 0).same (f 0)/\True)/\(h k (d::ε u_1.length d) 235 true).same (h k z 235 true)/\True)/\d<=d/\d<=m)/\G;F true b a/\F false a b) (by kernel_rfl) ?_;simp only[vcs];have hbs:(a.length<b.length/\big (a,b)=b/\mh (a,b)=a)\/(¬a.length<b.length/\big (a,b)=a/\mh (a,b)=b):=by
  by_cases h:a.length<b.length;·exact .inl ⟨h,if_pos h,if_pos h⟩
  ·exact .inr ⟨h,if_neg h,if_neg h⟩
 generalize big (a,b)=s at*;generalize mh (a,b)=t at*;have hrow:∀{u v:List Int},u=v->(bq.row (.i .u32) u 235 true).same (bq.row (.i .u32) v 235 true):=by rintro _ _ rfl;rfl
 have how:∀{u v:Nat},u=v->(δd 0 u 1).same (δd 0 v 1):=by rintro _ _ rfl;rfl
 have r0:∀u v:List Int,pe u v 0=0::ε u.length 0:=λu v=>rfl;refine⟨λh=>?_,λh=>?_⟩
 ·obtain⟨h1,e1,e2⟩:a.length<b.length/\s=b/\t=a:=by
   rcases hbs with h2|h2;·exact h2
   ·exact absurd (by omega) h2.1
  subst e1 e2;have hS:bA s:=by assumption
  have hT:bA t:=by assumption
  have hts:t.length<=s.length:=by omega
  have bd:=Ji hS hT;refine⟨⟨by omega,by omega⟩,by omega,by omega,by omega,by omega,⟨⟨⟨rfl,rfl,how (by rw[x4 (by omega)];omega),rfl,rfl⟩,hrow (r0 s t).symm⟩,by omega,by omega⟩,?_⟩;rintro i ⟨i0,i1⟩;have l1:=@x4 s t i.toNat (by omega);have b1:=bd i.toNat;have d1:=dX hS i.toNat;have d2:=dX hT i.toNat;refine⟨λkj=>?_,λmf=>?_⟩
  ·have l2:=@x4 s t (i.toNat+1) (by omega);have e:(i+1).toNat=i.toNat+1:=by omega
   have hst:=Rw (s:=s) (t:=t) (show i.toNat<s.length by omega);refine⟨i0,kj,by omega,λht=>?_,λht=>?_⟩
   ·have hv:(((bj s i.toNat 0 % 18446744073709551616+iR s t i.toNat) % 18446744073709551616+bj t i.toNat 0 % 18446744073709551616) % 18446744073709551616)=bj s i.toNat 0+iR s t i.toNat+bj t i.toNat 0:=by omega
    rw[hv,e];exact⟨i0,ht,by omega,by omega,by omega,i0,by omega,by omega,by omega,⟨⟨how (by omega),rfl⟩,hrow hst.symm⟩,by omega,by omega⟩
   ·have hz:=D6 (a:=t) (i:=i.toNat) (by omega);have hv:((bj s i.toNat 0 % 18446744073709551616+iR s t i.toNat) % 18446744073709551616)=bj s i.toNat 0+iR s t i.toNat+bj t i.toNat 0:=by omega
    rw[hv,e];exact⟨by omega,by omega,i0,by omega,by omega,by omega,⟨⟨how (by omega),rfl⟩,hrow hst.symm⟩,by omega,by omega⟩
  ·have hi:i.toNat=s.length:=by omega
   have hc:iR s t i.toNat % 4294967296=iR s t i.toNat:=by omega
   rw[hc,γq,hi];rw[hi] at l1 b1;refine⟨by omega,by omega,by omega,by simp,by simp;omega,?_⟩;rw[Jj (φ _),Nat.sub_self,ε2,qH ?_]
   ·rw[xZ];have hv:=@Jk s t s.length;rw[ψ,γl hts] at hv;have hl:((χ s.length).map (sM s t)).length=s.length:=by simp
    rw[hl,hv];try rw[ζE]
   ·intro d hd;rcases π.1 hd with hd|hd
    ·obtain⟨j,_,rfl⟩:=γf.1 hd;unfold sM;omega
    ·rw[γr] at hd;omega
 ·obtain⟨h1,e1,e2⟩:¬a.length<b.length/\s=a/\t=b:=by
   rcases hbs with h2|h2;·exact absurd h2.1 (by omega)
   ·exact h2
  subst e1 e2;have hS:bA s:=by assumption
  have hT:bA t:=by assumption
  have hts:t.length<=s.length:=by omega
  have bd:=Ji hS hT;refine⟨⟨by omega,by omega⟩,by omega,by omega,by omega,by omega,⟨⟨⟨rfl,rfl,how (by rw[x4 (by omega)];omega),rfl,rfl⟩,hrow (r0 s t).symm⟩,by omega,by omega⟩,?_⟩;rintro i ⟨i0,i1⟩;have l1:=@x4 s t i.toNat (by omega);have b1:=bd i.toNat;have d1:=dX hS i.toNat;have d2:=dX hT i.toNat;refine⟨λkj=>?_,λmf=>?_⟩
  ·have l2:=@x4 s t (i.toNat+1) (by omega);have e:(i+1).toNat=i.toNat+1:=by omega
   have hst:=Rw (s:=s) (t:=t) (show i.toNat<s.length by omega);refine⟨i0,kj,by omega,λht=>?_,λht=>?_⟩
   ·have hv:(((bj s i.toNat 0 % 18446744073709551616+iR s t i.toNat) % 18446744073709551616+bj t i.toNat 0 % 18446744073709551616) % 18446744073709551616)=bj s i.toNat 0+iR s t i.toNat+bj t i.toNat 0:=by omega
    rw[hv,e];exact⟨i0,ht,by omega,by omega,by omega,i0,by omega,by omega,by omega,⟨⟨how (by omega),rfl⟩,hrow hst.symm⟩,by omega,by omega⟩
   ·have hz:=D6 (a:=t) (i:=i.toNat) (by omega);have hv:((bj s i.toNat 0 % 18446744073709551616+iR s t i.toNat) % 18446744073709551616)=bj s i.toNat 0+iR s t i.toNat+bj t i.toNat 0:=by omega
    rw[hv,e];exact⟨by omega,by omega,i0,by omega,by omega,by omega,⟨⟨how (by omega),rfl⟩,hrow hst.symm⟩,by omega,by omega⟩
  ·have hi:i.toNat=s.length:=by omega
   have hc:iR s t i.toNat % 4294967296=iR s t i.toNat:=by omega
   rw[hc,γq,hi];rw[hi] at l1 b1;refine⟨by omega,by omega,by omega,by simp,by simp;omega,?_⟩;rw[Jj (φ _),Nat.sub_self,ε2,qH ?_]
   ·rw[xZ];have hv:=@Jk s t s.length;rw[ψ,γl hts] at hv;have hl:((χ s.length).map (sM s t)).length=s.length:=by simp
    rw[hl,hv];try rw[ζE]
   ·intro d hd;rcases π.1 hd with hd|hd
    ·obtain⟨j,_,rfl⟩:=γf.1 hd;unfold sM;omega
    ·rw[γr] at hd;omega
theorem x5:∀{a b:List Int},bA a->bA b->fN b->a.length<b.length->bk a<bk b
 |[],b,_,c,f,h=>by
  have n:=fc c;grind[bk,val_zero];|d::l,[],_,_,_,h=>by simp at h;|d::l,e::m,g,c,f,h=>by
  obtain⟨k,j⟩:=jd.1 g;obtain⟨o,i⟩:=jd.1 c;simp only[γz] at h;have:=x5 j i f.2 (by omega);grind[bk]
theorem Jl:∀{k:Nat} {a b:List Int},bA a->bA b->k<a.length->k<b.length->a.drop (k+1)=b.drop (k+1)->bj a k 0<bj b k 0->bk a<bk b
 |_,[],_,_,_,h,_,_,_=>by simp at h;|_,_::_,[],_,_,_,h,_,_=>by simp at h;|0,d::l,e::m,f,g,_,_,h,c=>by
  grind[bj,bk];|k+1,d::l,e::m,f,g,n,q,h,c=>by
  obtain⟨p,j⟩:=jd.1 f;obtain⟨o,i⟩:=jd.1 g;simp only[List.drop_succ_cons] at h;simp only[bj,List.getElem?_cons_succ] at c;have:=Jl (k:=k) j i (by simp_all) (by simp_all) h c;grind[bk]
theorem D7 {a:List Int} {k:Nat} (h:k<a.length):a.drop k=bj a k 0::a.drop (k+1):=by simp_all[cO]
def mq (x y:Int):Int:=if x<y then -1 else if y<x then 1 else 0
def x6:bM:=⟨159,List Int×List Int,.cons (dY (.i .u32)) (.one (dY (.i .u32))),λa=>(bA a.1/\bA a.2)/\a.1.length<=1000000000000/\a.2.length<=1000000000000,λa=> .si .i64 (mq (bk a.1) (bk a.2))⟩
def abH (a:List Int×List Int):Nat->cB
 |7=> .inv Int (λi=>⟨[(0,.row (.i .u32) (bI a.1)),(1,.row (.i .u32) (bI a.2)),(22,.si .i64 (bI a.1).length),(23,.si .i64 i)],[]⟩) (λs=>iS s 23)
  (λi=>0<=i/\i<=(bI a.1).length/\(bI a.1).drop ((bI a.1).length - i.toNat)=(bI a.2).drop ((bI a.1).length - i.toNat)) (λi=>((bI a.1).length - i).toNat) λ_ _=> .look
 |_=> .look
theorem h132:Holds Tryz.prog x6:=by
 refine cJ (L:=[rJ]) x6 abH (by simpa using h152) ?_;rintro⟨a,b⟩ ⟨⟨ha,hb⟩,hla,hlb⟩;simp only at ha hb hla hlb;refine bQ (let c:=(0:Int);let d:=γb .i64;let e:=γy .i64;let f:=bY .i64;let z0:Nat:=(bI a).length;let h:=(↑z0:Int);let z2:Nat:=(bI b).length;let l:=(↑z2:Int);let n:=d (mq (bk a) (bk b));let o:=γc (bn.i .u32) (bI a);let p:=γc (bn.i .u32) (bI b);let z7:Nat:=(bI a).length;let j:=(↑z7:Int);let s:=d j;let t:=e 0;let g:=h - (1:Int);a.length<=1000000000000/\b.length<=1000000000000/\(decide (h≠l)=true->(decide (h<l)=true->(e (-1:Int)).same n)/\(decide (h<l)=false->(e 1).same n))/\(decide (h≠l)=false->(((o.same o/\p.same p/\(d h).same s/\t.same (d 0)/\True)/\True)/\c<=c/\c<=j/\γ8 (z7 - 0) (bI a)=γ8 (z7 - 0) (bI b))/\∀(x:Int),let m:=(g - x).toNat;let q:=bj (bI a) m c;let r:=bj (bI b) m c;let k:=x+(1:Int);let u:=d k;c<=x/\x<=j/\γ8 (z7 - x.toNat) (bI a)=γ8 (z7 - x.toNat) (bI b)->(decide (x<j)=true->f g/\f (g - x)/\c<=g - x/\g - x<h/\m<z0/\c<=g - x/\g - x<l/\m<z2/\(decide (q<r)=true->(e (-1:Int)).same n)/\(decide (q<r)=false->c<=g - x/\g - x<h/\m<z0/\c<=g - x/\g - x<l/\m<z2/\(decide (r<q)=true->(e 1).same n)/\(decide (r<q)=false->f k/\((o.same o/\p.same p/\s.same s/\u.same u/\True)/\True)/\(c<=k/\k<=j/\γ8 (z7 - k.toNat) (bI a)=γ8 (z7 - k.toNat) (bI b))/\(j - k).toNat<(j - x).toNat)))/\(decide (x<j)=false->t.same n))) (by kernel_rfl) ?_;simp only[vcs];obtain⟨va,na⟩:=@rK a;obtain⟨vb,nb⟩:=@rK b;have da:=sL ha;have db:=sL hb;have la:=@uo a;rw[<-va,<-vb];generalize bI a=s at*;generalize bI b=t at*;have lt:bk s<bk t-> -1=mq (bk s) (bk t):=λh=>by unfold mq;rw[if_pos h]
 have gt:bk t<bk s->1=mq (bk s) (bk t):=λh=>by unfold mq;rw[if_neg (by omega),if_pos h]
 refine⟨hla,hlb,λhne=>⟨λh=>lt (x5 da db nb (by omega)),λh=>gt (x5 db da na (by omega))⟩,λhe=>⟨⟨by omega,by omega,?_⟩,?_⟩⟩;·rw[εj (by omega),εj (by omega)]
 rintro i ⟨i0,i1,hd⟩;refine⟨λhlt=>?_,λhge=>?_⟩
 ·have hk:((s.length:Int) - 1 - i).toNat=s.length - 1 - i.toNat:=by omega
  have hk2:s.length - i.toNat=s.length - 1 - i.toNat+1:=by omega
  rw[hk];rw[hk2] at hd;generalize hm:s.length - 1 - i.toNat=m at*;refine⟨by omega,by omega,by omega,by omega,by omega,by omega,by omega,by omega,λh=>lt (Jl da db (by omega) (by omega) hd h),λh=>⟨by omega,by omega,by omega,by omega,by omega,by omega,λh2=>gt (Jl db da (by omega) (by omega) hd.symm h2),λh2=>⟨by omega,⟨by omega,by omega,?_⟩,by omega⟩⟩⟩;rw[show s.length - (i+1).toNat=m by omega,D7 (show m<s.length by omega),D7 (show m<t.length by omega),hd,show bj s m 0=bj t m 0 by omega]
 ·have hz:s.length - i.toNat=0:=by omega
  rw[hz,δQ,δQ] at hd;subst hd;unfold mq;rw[if_neg (by omega),if_neg (by omega)]
def gX (d:Int):List Int->List Int×Int
 |[]=>([],0)
 |x::l=>(((gX d l).2*4294967296+x) / d::(gX d l).1,((gX d l).2*4294967296+x) % d)
theorem Rx {d:Int}:∀{a:List Int},(gX d a).1.length=a.length
 |[]=>rfl
 |x::l=>by simp[gX,Rx]
theorem D8 {d:Int} (e:0<d) (k:d<4294967296):∀{a:List Int},bA a->bA (gX d a).1/\(0<=(gX d a).2/\(gX d a).2<d)/\bk (gX d a).1*d+(gX d a).2=bk a
 |[],_=>by grind[gX,bk];|x::l,h=>by
  obtain⟨n,g⟩:=jd.1 h;obtain⟨j,⟨p,s⟩,o⟩:=D8 e k g;simp only[gX];generalize (gX d l).1=q at*;generalize (gX d l).2=r at*;have f:=δV (r*4294967296+x) (show d≠0 by omega);have i:=δx (r*4294967296+x) e;have c:0<=(r*4294967296+x) / d:=Int.ediv_nonneg (by omega) (by omega);have b:(r*4294967296+x) / d<4294967296:=by
   refine Int.ediv_lt_of_lt_mul e ?_;omega
  refine⟨jd.2 ⟨⟨c,b⟩,j⟩,⟨f,i⟩,?_⟩;simp only[bk];have m:=Int.mul_ediv_add_emod (r*4294967296+x) d;grind
theorem abI {d:Int} (i:0<d) (h:d<4294967296) {a:List Int} (g:bA a):bI (gX d a).1=cF (bk a / d)/\(gX d a).2=bk a % d:=by
 obtain⟨e,⟨c,b⟩,f⟩:=D8 i h g;rw[qH e];have j:=fc e;have k:bk a / d=bk (gX d a).1:=by
  rw[<-f,ζE,Int.add_mul_ediv_right _ _ (by omega),εN c b,Int.zero_add]
 have l:bk a % d=(gX d a).2:=by
  rw[<-f,ζE,Int.add_mul_emod_self_right,δT c b]
 simp_all
theorem Jm {r x:Int} (d:0<=r) (g:r<4294967296) (a:0<=x) (e:x<4294967296):eQ.nZ .u64 (r*4294967296) x=r*4294967296+x:=by
 obtain⟨m,rfl⟩:=δP d;obtain⟨k,rfl⟩:=δP a;have b:(γu 64 ((m:Int)*4294967296)).toNat=2^32*m:=by
  grind[BitVec.toNat_ofInt]
 have c:(γu 64 (k:Int)).toNat=k:=by
  grind
 have f:(γu 64 ((m:Int)*4294967296) |||γu 64 (k:Int)).toNat=2^32*m+k:=by
  rw[BitVec.toNat_or,b,c,Nat.two_pow_add_eq_or_of_lt (by omega)]
 show eO .u64 ((γu 64 ((m:Int)*4294967296) |||γu 64 (k:Int)).toNat:Nat)=_;grind[tu,IntKind.wrap,IntKind.bits,IntKind.signed]
def Jn:bM:=⟨233,List Int×Int,.cons (dY (.i .u32)) (.one (dU .u32)),λa=>bA a.1/\a.1.length<=100000000000/\0<a.2/\a.2<4294967296,λa=> .bH [.row (.i .u32) (cF (bk a.1 / a.2)),.si .u32 (bk a.1 % a.2)]⟩
def mr (a:List Int) (d:Int) (i:Nat):List Int:=ε (a.length - i) 0++(gX d (a.drop (a.length - i))).1
def lK (a:List Int) (d:Int) (i:Nat):Int:=(gX d (a.drop (a.length - i))).2
def abJ (a:List Int×Int):Nat->cB
 |4=> .inv Int (λi=>⟨[(0,.row (.i .u32) a.1),(1,.si .u32 a.2),(6,.ow 0 (mr a.1 a.2 i.toNat).length 1),(7,.si .u64 (lK a.1 a.2 i.toNat)),(15,.si .i64 a.1.length),(16,.si .i64 i)],[.row (.i .u32) (mr a.1 a.2 i.toNat) 235 true]⟩) (λs=>iS s 16)
  (λi=>0<=i/\i<=a.1.length) (λi=>(a.1.length - i).toNat) λ_ _=> .look
 |_=> .look
theorem Jo {a:List Int} {d:Int} {i:Nat} (h:i<=a.length):(mr a d i).length=a.length:=by
 grind[mr,Rx]
theorem drop_cons {a:List Int} {k:Nat} (h:k<a.length):a.drop k=bj a k 0::a.drop (k+1):=D7 h
theorem Ry {q:List Int} {y:Int}:∀k,(ε (k+1) 0++q).set k y=ε k 0++y::q
 |0=>by simp;|k+1=>by
  have:=@Ry q y k;grind
theorem u64_in {n:Int} (b:0<=n) (a:n<18446744073709551616):bY .u64 n:=by
 show IntKind.u64.wrap n=n;grind[IntKind.wrap,IntKind.bits,IntKind.signed]
theorem h167:Holds Tryz.prog Jn:=by
 refine cJ (L:=[rJ]) Jn abJ (by simpa using h152) ?_;rintro⟨a,d⟩ ⟨ha,hla,d0,d1⟩;simp only at ha hla d0 d1;refine bQ (let b:=(0:Int);let c:=(18446744073709551616:Int);let e:=(4294967296:Int);let f:=γb .i64;let g:=γc;let h:=bq.row;let j:=bY .i64;let k:=(1:Int);let l:=δd;let n:=(↑a.length:Int);let o:=bn.i .u32;let q:=(↑a.length:Int);let t:=f q;let s:=d % c;b<=n/\n<=n/\n*(4:Int)<=(140737488355328:Int)/\n<=(1000000000000:Int)/\((((g o a).same (g o a)/\(γb .u32 d).same (γb .u32 d)/\(l 0 n.toNat 1).same (l 0 (mr a d 0).length 1)/\(γy .u64 0).same (γb .u64 (lK a d 0))/\(f n).same t/\(γy .i64 0).same (f 0)/\True)/\(h o (ε n.toNat b) 235 true).same (h o (mr a d 0) 235 true)/\True)/\b<=b/\b<=q)/\∀(x:Int),let p:=n - k - x;let u:=eQ.nZ .u64 (lK a d x.toNat*e % c) (bj a p.toNat b % c);let m:=mr a d x.toNat;let r:=x+k;let v:=f r;b<=x/\x<=q->(decide (x<q)=true->j (n - k)/\j p/\b<=(32:Int)/\(32:Int)<=(64:Int)/\b<=p/\p<n/\p.toNat<a.length/\s≠b/\bY .u64 (u.tdiv s)/\s≠b/\m.length=m.length/\b<=p/\p<(↑m.length:Int)/\m.length=m.length/\p.toNat<m.length/\j r/\(((g o a).same (g o a)/\(γb .u32 d).same (γb .u32 d)/\(l 0 m.length 1).same (l 0 (mr a d r.toNat).length 1)/\(γb .u64 (u.tmod s)).same (γb .u64 (lK a d r.toNat))/\t.same t/\v.same v/\True)/\(h o (m.set p.toNat (u.tdiv s % e)) 235 true).same (h o (mr a d r.toNat) 235 true)/\True)/\(b<=r/\r<=q)/\(q - r).toNat<(q - x).toNat)/\(decide (x<q)=false->m.length=m.length/\m.length<=1000000000000/\(SV.bH [g o (bI m),γb .u32 (lK a d x.toNat % e)]).same (SV.bH [g o (cF (bk a / d)),γb .u32 (bk a % d)]))) (by kernel_rfl) ?_;simp only[vcs];have hrow:∀{u v:List Int},u=v->(bq.row (.i .u32) u 235 true).same (bq.row (.i .u32) v 235 true):=by rintro _ _ rfl;rfl
 have how:∀{u v:Nat},u=v->(δd 0 u 1).same (δd 0 v 1):=by rintro _ _ rfl;rfl
 have z1:mr a d 0=ε a.length 0:=by simp[mr,gX]
 have z2:lK a d 0=0:=by simp[lK,gX]
 refine⟨by omega,by omega,by omega,by omega,⟨⟨⟨how (by rw[Jo (by omega)];omega),z2.symm⟩,hrow (by rw[z1,γq])⟩,by omega,by omega⟩,?_⟩;rintro i ⟨i0,i1⟩;have l1:=@Jo a d i.toNat (by omega);have l2:=λh=>@Jo a d (i+1).toNat h;have dd:d % 18446744073709551616=d:=by omega
 refine⟨λkj=>?_,λmf=>?_⟩
 ·have hx:((a.length:Int) - 1 - i).toNat=a.length - 1 - i.toNat:=by omega
  have hk1:a.length - i.toNat=a.length - 1 - i.toNat+1:=by omega
  have hk2:a.length - (i+1).toNat=a.length - 1 - i.toNat:=by omega
  have hR:mr a d i.toNat=ε (a.length - 1 - i.toNat+1) 0++(gX d (a.drop (a.length - 1 - i.toNat+1))).1:=by unfold mr;rw[hk1]
  have hC:lK a d i.toNat=(gX d (a.drop (a.length - 1 - i.toNat+1))).2:=by unfold lK;rw[hk1]
  have hR2:mr a d (i+1).toNat=ε (a.length - 1 - i.toNat) 0++(gX d (a.drop (a.length - 1 - i.toNat))).1:=by unfold mr;rw[hk2]
  have hC2:lK a d (i+1).toNat=(gX d (a.drop (a.length - 1 - i.toNat))).2:=by unfold lK;rw[hk2]
  have hlt:a.length - 1 - i.toNat<a.length:=by omega
  rw[hx];have l3:=l2 (by omega);generalize a.length - 1 - i.toNat=k at*;have hdr:=drop_cons hlt;have hdig:bA (a.drop k):=λz hz=>ha z (γH hz);obtain⟨q1,q2,q3⟩:=D8 d0 d1 (a:=a.drop (k+1)) (λz hz=>ha z (γH hz));obtain⟨p1,p2,p3⟩:=D8 d0 d1 hdig;rw[hdr] at hR2 hC2 p1 p2;simp only[gX] at hR2 hC2 p1 p2;have hxd:=dX ha k;rw[<-hC] at hR2 hC2 p1 p2 q2;have e1:lK a d i.toNat*4294967296 % 18446744073709551616=lK a d i.toNat*4294967296:=by omega
  have e2:bj a k 0 % 18446744073709551616=bj a k 0:=by omega
  rw[e1,e2,dd,Jm (by omega) (by omega) hxd.1 hxd.2];have hv0:0<=lK a d i.toNat*4294967296+bj a k 0:=by omega
  rw[Int.tdiv_eq_ediv_of_nonneg hv0,Int.tmod_eq_emod_of_nonneg hv0];have hq:=(jd.1 p1).1;have hqm:(lK a d i.toNat*4294967296+bj a k 0) / d % 4294967296=(lK a d i.toNat*4294967296+bj a k 0) / d:=δT hq.1 hq.2;rw[hqm];refine⟨by omega,by omega,by omega,by omega,by omega,by omega,by omega,by omega,u64_in hq.1 (by omega),by omega,by omega,by omega,by omega,by omega,⟨⟨how (by omega),hC2.symm⟩,hrow ?_⟩,by omega,by omega⟩;rw[hR2,hR,Ry]
 ·have hi:a.length - i.toNat=0:=by omega
  have hR:mr a d i.toNat=(gX d a).1:=by unfold mr;rw[hi];simp
  have hC:lK a d i.toNat=(gX d a).2:=by unfold lK;rw[hi];simp
  obtain⟨k1,k2⟩:=abI d0 d1 ha;have hm:=δV (bk a) (show d≠0 by omega);have hl:=δx (bk a) d0;refine⟨by omega,by rw[hR,k1],?_⟩;rw[hC,k2];omega
def ik:Nat->Int->List Int
 |0,_=>[]
 |k+1,x=>x % 4294967296::ik k (x / 4294967296)
theorem Af:∀{k:Nat} {x:Int},(ik k x).length=k
 |0,_=>rfl
 |k+1,x=>by simp[ik,Af]
theorem Jp:∀{k:Nat} {x:Int},bA (ik k x)
 |0,_=>by simp[ik,bA];|k+1,x=>jd.2 ⟨by omega,Jp⟩
theorem Rz:∀{l:List Int},bA l->ik l.length (bk l)=l
 |[],_=>rfl
 |d::l,h=>by
  obtain⟨e,b⟩:=jd.1 h;simp only[γz,ik,bk];have c:(d+4294967296*bk l) % 4294967296=d:=by omega
  have a:(d+4294967296*bk l) / 4294967296=bk l:=by omega
  rw[c,a,Rz b]
theorem Jq {l:List Int} {k:Nat} {x:Int} (h:bA l) (b:l.length=k) (a:bk l=x):l=ik k x:=by
 grind[Rz]
theorem pow_pos (k:Nat):(0:Int)<4294967296^k:=Int.pow_pos (by decide)
theorem Jr:∀{k:Nat} {x:Int},0<=x->x<4294967296^k->bk (ik k x)=x
 |0,x,b,a=>by grind[ik,bk];|k+1,x,b,a=>by
  rw[γQ] at a;simp only[ik,bk];rw[Jr (k:=k) (x:=x / 4294967296) (by omega) (by omega)];omega
theorem Js:∀{a b:List Int},bk (a++b)=bk a+4294967296^a.length*bk b
 |[],b=>by simp[bk];|d::l,b=>by
  simp only[γE,bk,Js,γz,γQ,εA];grind
theorem uq:∀{l:List Int} {j:Nat} {v:Int},j<l.length->bk (l.set j v)=bk l+4294967296^j*(v - bj l j 0)
 |[],_,_,h=>by simp at h;|d::l,0,v,_=>by grind[bk,bj];|d::l,j+1,v,h=>by
  have a:=@uq l j v (by simpa using h);grind[bj,bk]
theorem nH {l:List Int} {j:Nat} {v:Int} (h:bA l) (c:0<=v) (b:v<4294967296):bA (l.set j v):=by
 intro d a;rcases List.mem_or_eq_of_mem_set a with a|rfl;·exact h d a
 omega
theorem Ag {a:List Int} (h:bA a) (n:Nat):bA (a.drop n):=λd b=>h d (γH b)
theorem RA {a b:List Int} (e:bA a) (c:bA b):bA (a++b):=λd f=>by
 rcases π.1 f with h|h;·exact e d h
 ·exact c d h
theorem sN {l:List Int} {j:Nat} {v:Int} (h:j<l.length):bj (l.set j v) j 0=v:=by
 grind[bj]
theorem pU {l:List Int} {i j:Nat} {v:Int} (h:i≠j):bj (l.set i v) j 0=bj l j 0:=by
 grind[bj]
theorem Ah:∀{l:List Int} {i j:Nat},bA l->bk l<4294967296^i->i<=j->bj l j 0=0
 |[],_,_,_,_,_=>by simp[bj];|d::l,0,j,h,a,c=>by
  obtain⟨e,b⟩:=jd.1 h;have:=fc b;simp only[bk,Int.pow_zero] at a;have f:d=0:=by omega
  have g:bk l=0:=by omega
  cases j with
  |zero=>simp[bj,f];|succ j=>
   have:=Ah (l:=l) (i:=0) (j:=j) b (by simp;omega) (by omega);grind[bj]
 |d::l,i+1,j,h,a,c=>by
  obtain⟨e,b⟩:=jd.1 h;cases j with
  |zero=>omega;|succ j=>
   rw[γQ] at a;simp only[bk] at a;have:=Ah (l:=l) (i:=i) (j:=j) b (by omega) (by omega);grind[bj]
def iq (o b:List Int) (x:Int) (i:Nat):Nat->List Int×Int
 |0=>(o,0)
 |k+1=>((iq o b x i k).1.set (i+k) ((x*bj b k 0+bj (iq o b x i k).1 (i+k) 0+(iq o b x i k).2) % 4294967296),(x*bj b k 0+bj (iq o b x i k).1 (i+k) 0+(iq o b x i k).2) / 4294967296)
theorem RB {o b:List Int} {x:Int} {i:Nat} (d:bA o) (g:bA b) (f:0<=x) (m:x<4294967296):∀{k:Nat},i+k<=o.length->
  bA (iq o b x i k).1/\(iq o b x i k).1.length=o.length/\(0<=(iq o b x i k).2/\(iq o b x i k).2<4294967296)/\(∀j,i+k<=j->bj (iq o b x i k).1 j 0=bj o j 0)/\
  bk (iq o b x i k).1+4294967296^(i+k)*(iq o b x i k).2=bk o+4294967296^i*(x*bk (b.take k))
 |0,h=>by simp[iq,d,bk];|k+1,h=>by
  obtain⟨l,t,⟨v,s⟩,u,r⟩:=@RB o b x i d g f m k (by omega);simp only[iq];generalize (iq o b x i k).1=p at*;generalize (iq o b x i k).2=c at*;have a:=dX g k;have q:=dX l (i+k);have n:0<=x*bj b k 0:=γD f a.1;have e:x*bj b k 0<=4294967295*4294967295:=δR (by omega) (by omega) a.1 (by omega);grind[nH,uq,mj,bj]
def prt (U:List Int) (j k:Nat):List Int:=(U.drop j).take k
theorem RD {U:List Int} {j k:Nat}:bj (U.drop j) k 0=bj U (j+k) 0:=by
 grind[bj]
theorem my {U:List Int} {j k:Nat}:bk (prt U j (k+1))=bk (prt U j k)+4294967296^k*bj U (j+k) 0:=by
 grind[prt,mj,RD]
theorem uu {U:List Int} {j k i:Nat} {d:Int} (h:k<=i):prt (U.set (j+i) d) j k=prt U j k:=by
 unfold prt;apply List.ext_getElem?;grind
theorem uv {U:List Int} (h:bA U) {j k:Nat}:bA (prt U j k):=nG (Ag h j) k
theorem abK {U:List Int} {j k:Nat} (h:j+k<=U.length):(prt U j k).length=k:=by
 grind[prt]
theorem vN {U:List Int} (h:bA U) {j k:Nat}:bk (prt U j k)<4294967296^k:=by
 have g:=oq (uv h (j:=j) (k:=k));have e:(prt U j k).length<=k:=by grind[prt]
 have i:(4294967296:Int)^(prt U j k).length<=4294967296^k:=by
  have d:∀{a b:Nat},a<=b->(4294967296:Int)^a<=4294967296^b:=λ{a b} c=>by
   obtain⟨m,rfl⟩:=Nat.exists_eq_add_of_le c;rw[Int.pow_add];have f:=pow_pos a;have l:=pow_pos m;have:=Δ (show(1:Int)<=4294967296^m by omega) (γm f);omega
  exact d e
 omega
def je (U:List Int) (j:Nat) (l:List Int):List Int:=U.take j++(l++U.drop (j+l.length))
theorem abL {a b:List Int} (c:a.length=b.length) (h:∀m,bj a m 0=bj b m 0):a=b:=by
 apply List.ext_getElem c;intro m d e;have:=h m;grind[cO]
theorem RE {U l:List Int} {j:Nat} (h:j+l.length<=U.length):(je U j l).length=U.length:=by
 grind[je]
theorem abM {U l:List Int} {j m:Nat} (h:j+l.length<=U.length):bj (je U j l) m 0=if m<j then bj U m 0 else if m<j+l.length then bj l (m - j) 0 else bj U m 0:=by
 unfold je bj;grind
theorem x7 {U W:List Int} {j k:Nat} {x:Int} (d:bA W) (f:W.length=U.length) (g:j+k<=U.length) (e:∀m,(m<j\/j+k<=m)->bj W m 0=bj U m 0) (a:bk (prt W j k)=x):W=je U j (ik k x):=by
 have b:prt W j k=ik k x:=Jq (uv d) (abK (by omega)) a;have c:=@Af k x;apply abL;·grind[RE]
 ·intro m;rw[abM (by omega),c];split;·simp_all
  ·split
   ·rw[<-b];unfold prt;have:bj ((W.drop j).take k) (m - j) 0=bj (W.drop j) (m - j) 0:=by
     unfold bj;grind
    grind[RD]
   simp_all
section
variable {P V X v1 v2 u2 top rv ru g r:Int}
theorem abN (e:0<P) (n:V=rv+P*(v2+4294967296*v1)) (l:X=ru+P*(u2+4294967296*top)) (a:0<=rv) (f:ru<P) (d:X<4294967296*V) (b:0<=V)
  (c:0<=g) (j:g*v1+r=top) (h:4294967296<=g\/r*4294967296+u2<g*v2):X<g*V:=by
 rcases h with h|h;·exact Int.lt_of_lt_of_le d (γT h b)
 ·have k:g*V=g*rv+P*(g*v2+4294967296*(top - r)):=by
   grind
  have i:P*(u2+1+4294967296*top)<=P*(g*v2+4294967296*(top - r)):=Δ (by omega) (γm e);have m:0<=g*rv:=γD c a;grind
theorem RF (c:0<P) (k:V=rv+P*(v2+4294967296*v1)) (n:X=ru+P*(u2+4294967296*top)) (a:0<=rv) (b:rv<P) (f:0<=ru) (e:2147483648<=v1) (j:0<=v2)
  (i:0<=g) (d:g<4294967296) (o:g*v1+r=top) (h:g*v2<=r*4294967296+u2):g*V<X+V:=by
 have m:g*V=g*rv+P*(g*v2+4294967296*(top - r)):=by
  grind
 have q:P*(g*v2+4294967296*(top - r))<=P*(u2+4294967296*top):=Δ (by omega) (γm c);have p:g*rv<=4294967295*rv:=γT (by omega) a;have l:P*4294967296<=P*(v2+4294967296*v1):=Δ (by omega) (γm c);omega
theorem abO (c:0<P) (p:V=rv+P*(v2+4294967296*v1)) (k:X=ru+P*(u2+4294967296*top)) (b:0<=rv) (e:ru<P) (a:0<=v2) (f:u2<4294967296)
  (d:0<=g) (o:g*v1+r=top) (l:r<v1):X<(g+1)*V:=by
 have n:(g+1)*V=(g+1)*rv+((g+1)*(P*v2)+P*(4294967296*((g+1)*v1))):=by
  grind
 have j:0<=(g+1)*rv:=γD (by omega) b;have h:0<=(g+1)*(P*v2):=γD (by omega) (γD (γm c) a);have i:top+1<=(g+1)*v1:=by grind
 have m:P*(u2+1+4294967296*top)<=P*(4294967296*((g+1)*v1)):=Δ (by omega) (γm c);grind
theorem abP {b a:Int} (c:0<P) (l:V=rv+P*(v2+4294967296*v1)) (k:X=ru+P*(u2+4294967296*(b+4294967296*a))) (d:rv<P) (f:0<=ru) (e:0<=u2) (i:0<=b) (j:v2<4294967296)
  (g:X<4294967296*V):a<=v1:=by
 by_cases h:a<=v1;·exact h
 ·exfalso;have m:P*(4294967296*(4294967296*(v1+1)))<=P*(u2+4294967296*(b+4294967296*a)):=Δ (by omega) (γm c);have n:P*(v2+4294967296*v1)<=P*(4294967296*(v1+1) - 1):=Δ (by omega) (γm c);grind
theorem vO {X V q:Int} (e:q*V<=X) (c:X<(q+1)*V):X / V=q/\X % V=X - q*V:=by
 rw[Int.add_mul,δU] at c;have d:0<V:=by omega
 have b:X=(X - q*V)+V*q:=by grind
 have a:X / V=q:=by
  conv=>lhs;rw[b]
  rw[Int.add_mul_ediv_left _ _ (by omega),εN (by omega) (by omega),Int.zero_add]
 refine⟨a,?_⟩;rw[Int.emod_def,a,Int.mul_comm]
end
theorem Jt {p:Int} (a:0<=p) (e:p<18446744073709551616):eQ.ry .u64 p 4294967295=p % 4294967296:=by
 obtain⟨m,rfl⟩:=δP a;have b:(γu 64 ((m:Nat):Int)).toNat=m:=by grind
 have c:(γu 64 4294967295).toNat=4294967295:=by simp_all
 have d:(γu 64 ((m:Nat):Int) &&&γu 64 4294967295).toNat=m % 4294967296:=by
  rw[BitVec.toNat_and,b,c];exact Nat.and_two_pow_sub_one_eq_mod m 32
 show eO .u64 ((γu 64 ((m:Nat):Int) &&&γu 64 4294967295).toNat:Nat)=_;grind[tu,IntKind.wrap,IntKind.bits]
theorem Ju {U W v:List Int} {j i:Nat} {g c b d e:Int} (n:bA W) (f:W.length=U.length) (o:bA v) (h:0<=g) (r:g<4294967296) (y:0<=c) (t:c<4294967296) (s:0<=b) (q:b<=1) (u:j+i<U.length)
  (l:∀m,(m<j\/j+i<=m)->bj W m 0=bj U m 0)
  (k:bk (prt W j i)=bk (prt U j i) - g*bk (v.take i)+4294967296^i*(c+b))
  (a:0<=d/\d<4294967296) (w:d - 4294967296*e=bj W (j+i) 0 - (g*bj v i 0+c) % 4294967296 - b):
  bA (W.set (j+i) d)/\(W.set (j+i) d).length=U.length/\(0<=(g*bj v i 0+c) / 4294967296/\(g*bj v i 0+c) / 4294967296<4294967296)/\
  (∀m,(m<j\/j+(i+1)<=m)->bj (W.set (j+i) d) m 0=bj U m 0)/\
  bk (prt (W.set (j+i) d) j (i+1))=bk (prt U j (i+1)) - g*bk (v.take (i+1))+4294967296^(i+1)*((g*bj v i 0+c) / 4294967296+e):=by
 have x:=dX o i;have z:0<=g*bj v i 0:=γD h x.1;have p:g*bj v i 0<=4294967295*4294967295:=δR (by omega) (by omega) x.1 (by omega);refine⟨nH n a.1 a.2,by simp[f],by omega,λm A=>by grind[pU],?_⟩;have B:=l (j+i) (.inr (φ _));rw[my,my,uu (φ _),sN (by omega),k,mj,γQ];grind
theorem Jv {U W v:List Int} {j i:Nat} {c s:Int} (a:bA W) (d:W.length=U.length) (b:bA v) (n:0<=c) (l:c<=1) (h:j+i<U.length) (g:bA U)
  (e:∀m,(m<j\/j+i<=m)->bj W m 0=bj U m 0)
  (k:bk (prt W j i)+4294967296^i*c=bk (prt U j i)+bk (v.take i)) (o:s=bj W (j+i) 0+bj v i 0+c):
  bA (W.set (j+i) (s % 4294967296))/\(W.set (j+i) (s % 4294967296)).length=U.length/\(0<=s / 4294967296/\s / 4294967296<=1)/\
  (∀m,(m<j\/j+(i+1)<=m)->bj (W.set (j+i) (s % 4294967296)) m 0=bj U m 0)/\
  bk (prt (W.set (j+i) (s % 4294967296)) j (i+1))+4294967296^(i+1)*(s / 4294967296)=bk (prt U j (i+1))+bk (v.take (i+1)):=by
 have x:=dX b i;have y:=dX a (j+i);refine⟨nH a (by omega) (by omega),by simp[d],by omega,λm p=>by grind[pU],?_⟩;have f:=e (j+i) (.inr (φ _));rw[my,my,uu (φ _),sN (by omega),mj,γQ];grind
theorem abQ {v:List Int} {n:Nat} (a:2<=n) (b:v.length=n):bk v=bk (v.take (n - 2))+4294967296^(n - 2)*(bj v (n - 2) 0+4294967296*bj v (n - 1) 0):=by
 obtain⟨m,rfl⟩:∃m,n=m+2:=⟨n - 2,by omega⟩;grind[mj]
theorem abR {U:List Int} {j n:Nat} (a:2<=n):bk (prt U j (n+1))=bk (prt U j (n - 2))+4294967296^(n - 2)*(bj U (j+(n - 2)) 0+4294967296*(bj U (j+(n - 1)) 0+4294967296*bj U (j+n) 0)):=by
 obtain⟨m,rfl⟩:∃m,n=m+2:=⟨n - 2,by omega⟩;grind[my]
end Go.Vi
