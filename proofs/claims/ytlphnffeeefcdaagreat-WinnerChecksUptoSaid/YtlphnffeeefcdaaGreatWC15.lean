/-
  Contracts: the nodes of a proof, each with the offers that are fixed on its path.
  Conditions: none.
-/
import Derived.Test.YtlphnffeeefcdaaGreatWC14
import Derived.Test.YtlphnffeeefcdaaGreatRows
set_option maxRecDepth 100000
set_option maxHeartbeats 4000000
set_option linter.all false
open Bool renaming and_eq_true->θ,eq_false_iff->δo,true_and->δr,and_true->δH,or_eq_true->δj,false_eq_true->Γ
open Classical renaming not_not->γa
open Go.Vi.SV renaming si->Ω,row->Δ,il->γo,ow->γz,ptr->γU,bl->γ0,sb->γn
open Int renaming toNat->εX,toNat_natCast->γb
open IntCast renaming intCast->ζ
open List renaming replicate->δ,range->Θ,length_set->Ψ,all_eq_true->ξ,mem_range->γp,length_replicate->δq,length->Φ,getElem_of_mem->γB,take->τ,take_length->χ,set_eq_of_length_le->ζh,mem_cons->γD,mem_cons_self->δh,mem_map->γf,not_mem_nil->δD,all_append->ζx,count_append->ζM,sum_cons->εm,mem_map_of_mem->εv,map_cons->φ,getElem?_cons_zero->γZ,getElem?_cons_succ->γw,map_nil->γv
open Nat renaming le_refl->ψ
open Option renaming map_eq_some_iff->ε
open Prod.mk renaming injEq->κ
open Rat renaming add_zero->εN
namespace Go.Vi
open Go.Proofs.YtlphnffeeefcdaaGreat.Ir
open Go.Proofs
@[reducible] def r7:bw:=.pair (.i .i64) .b
def eD (t:List cB):Nat->List (Int×Bool)
 |0=>δ t.length (0,false)
 |i+1=>if(bp t i bD.dflt).1=2 then((eD t i).set (bp t i bD.dflt).2.2.1.toNat ((i:Int),false)).set (bp t i bD.dflt).2.2.2.1.toNat ((i:Int),true) else eD t i
def mG (t:List cB) (u:List (Int×Bool)) (k:Int) (f:List Int):List Int:=
 if(bp t (bp u k.toNat (0,false)).1.toNat bD.dflt).2.1<f.length then f.set (bp t (bp u k.toNat (0,false)).1.toNat bD.dflt).2.1.toNat (if(bp u k.toNat (0,false)).2 then 1 else -1) else f
def fN (t:List cB) (u:List (Int×Bool)):Nat->Int->List Int->List Int
 |0,_,f=>f
 |m+1,k,f=>if 0<k then fN t u m (bp u k.toNat (0,false)).1 (mG t u k f) else f
def fa (p:bz) (t:List cB) (i:Nat):List Int:=fN t (eD t i) i i (δ p.offers.length 0)
def kj (p:bz) (v:Int) (f:List Int) (n:cB):Bool:=
 if n.1=1 then posB n.2.2.2.2&&decide (fY p f (vL n.2.2.2.2) f.length<ζ v+1) else if n.1=2 then decide (n.2.1<f.length)&&decide (bp f n.2.1.toNat 0=0) else if n.1=3 then decide (cH p (bE f 1)≠0) else false
def nN (p:bz) (v:Int) (t:List cB):Bool:=(Θ t.length).all λi=>kj p v (fa p t i) (bp t i bD.dflt)
def MH (t:List cB) (u:List (Int×Bool)):Prop:=u.length=t.length/\∀k,k<t.length->0<=(bp u k (0,false)).1/\(0<k->(bp u k (0,false)).1<k)
def MI (p:bz) (v:Int) (t:List cB):Prop:=(bH p=0/\de t=true)/\(-9223372036854775808<=v/\v<=9223372036854775807)/\∀i,i<t.length->(bp t i bD.dflt).1=1->qU p (fa p t i) (bp t i bD.dflt).2.2.2.2
theorem Vo {t:List cB} {u:List (Int×Bool)} {k:Int} {f:List Int}:(mG t u k f).length=f.length:=by
 grind[mG]
theorem Vp {t:List cB} {u:List (Int×Bool)}:∀{m:Nat} {k:Int} {f:List Int},(fN t u m k f).length=f.length
 |0,_,_=>rfl
 |m+1,k,f=>by
  unfold fN;split;·rw[Vp,Vo]
  ·rfl
theorem MJ {t:List cB} {u:List (Int×Bool)} (a:MH t u):∀{m:Nat} {k:Int} {f:List Int},0<=k->k<t.length->k<=m->fN t u m k f=fN t u k.toNat k f
 |0,k,f,g,d,e=>by grind;|m+1,k,f,g,d,e=>by
  by_cases c:0<k
  ·have b:=a.2 k.toNat (by omega);have h:=b.2 (by omega);rw[show k.toNat=(k.toNat - 1)+1 by omega];unfold fN;rw[if_pos c,if_pos c,MJ a b.1 (by omega) (by omega)];exact(MJ a b.1 (by omega) (by omega)).symm
  ·rw[show k=0 by omega];rfl
theorem MK {t:List cB} {u:List (Int×Bool)} (b:MH t u) {k:Int} {f:List Int} (a:0<k) (e:k<t.length):fN t u k.toNat k f=fN t u (bp u k.toNat (0,false)).1.toNat (bp u k.toNat (0,false)).1 (mG t u k f):=by
 have c:=b.2 k.toNat (by omega);have d:=c.2 (by omega);rw[show fN t u k.toNat k f=fN t u ((k.toNat - 1)+1) k f by grind];conv=>lhs;unfold fN
 rw[if_pos a];grind[MJ]
theorem s9 {t:List cB}:∀{i:Nat},(eD t i).length=t.length
 |0=>by simp[eD];|i+1=>by
  unfold eD;split;·rw[Ψ,Ψ,s9]
  ·exact s9
theorem FC {t:List cB} (h:de t=true) {i:Nat} (c:i<t.length):0<=(bp t i bD.dflt).2.1/\((bp t i bD.dflt).1=2->((i:Int)<(bp t i bD.dflt).2.2.1/\(bp t i bD.dflt).2.2.1<t.length)/\((i:Int)<(bp t i bD.dflt).2.2.2.1/\(bp t i bD.dflt).2.2.2.1<t.length)):=by
 unfold de at h;simp only[θ,ξ,γp] at h;have b:=h.2.1 i c;unfold iM at b;simp only[θ] at b;obtain⟨a,d⟩:=b;refine⟨?_,λe=>?_⟩
 ·unfold jS at a;split at a;·simp_all[wf1,oG]
  ·split at a;all_goals simp_all[wf2,iq,rY,oG]
 simp_all[eV,rZ]
theorem FD {t:List cB} (h:de t=true):∀{i:Nat},i<=t.length->MH t (eD t i)
 |0,_=>⟨s9,λk a=>by
   grind[eD,dj]⟩
 |i+1,g=>⟨s9,λk a=>by
   have b:=(FD h (i:=i) (by omega)).2 k a;unfold eD;split
   ·rename_i c;obtain⟨⟨j,f⟩,d,e⟩:=(FC h (i:=i) (by omega)).2 c;grind[s9,iV]
   ·exact b⟩
def ML:bL:=⟨33,bz×Int×List cB,.cons dO (.cons (ef .i64) (.one (cV bD))),λa=>MI a.1 a.2.1 a.2.2,λa=> .si .i64 (if nN a.1 a.2.1 a.2.2 then 0 else 13)⟩
noncomputable def afw (p:bz) (v:Int) (t:List cB):Nat->cC
 |3=> .inv Int (λi=>⟨[(1,.si .i64 v),(2,.row bD t),(3,.ptr 0 0 20),(7,.ow 1 t.length 2),(16,.row bD t),(17,.si .i64 t.length),(18,.si .i64 i)],[.cells p.ss 27 20 false,.row r7 (eD t i.toNat) 116 true]⟩)
   (λs=>iS s 18) (λi=>0<=i/\i<=t.length/\∀j:Nat,j<i->kj p v (fa p t j) (bp t j bD.dflt)=true) (λi=>(t.length - i).toNat) λi k=>match k with
   |7=> .inv (Int×List Int) (λx=>⟨[(1,.si .i64 v),(2,.row bD t),(3,.ptr 0 0 20),(7,.ow 1 t.length 2),(8,.si .i64 i),(9,.ptr 2 0 5),(10,.ow 3 p.offers.length 1),(11,.si .i64 x.1),(16,.row bD t),(17,.si .i64 t.length),(18,.si .i64 i)],
      [.cells p.ss 27 20 false,.row r7 (eD t i.toNat) 116 true,.cells (encS bD (bp t i.toNat bD.dflt)) 68 5 false,.row (.i .i64) x.2 3 true]⟩)
     (λs=>(iS s 11,oS (.i .i64) s 3)) (λx=>(0<=x.1/\x.1<=i)/\x.2.length=p.offers.length/\fN t (eD t i.toNat) x.1.toNat x.1 x.2=fa p t i.toNat) (λx=>x.1.toNat) λ_ _=> .look
   |_=> .look
 |_=> .look
theorem h481:Holds Tryz.prog ML:=by
 refine cq (L:=[Fq,MD,ME,MF,MG]) ML (λa=>afw a.1 a.2.1 a.2.2) (by grind[h485,h492,h498,h502,h506]) ?_;rintro⟨p,v,t⟩ ⟨⟨hc,ht⟩,⟨v0,v1⟩,hb⟩;simp only at hc ht v0 v1 hb;refine bQ (let a:=Ω .i64;let f:=(0:Int);let g:=Δ;let h:=bA.row;let k:=γo .i64;let l:=(140737488355328:Int);let n:=(1000000000000:Int);let o:=(1:Int);let q:=γz;let U:=(↑t.length:Int);let r:=γU 0 0 20;let y:=q 1 t.length 2;let s:=(↑t.length:Int);let z:=a s;let L:=k 0;let J:=bw.i .i64;let V:=bA.cells [a p.supply.a0,a p.supply.a1,a p.supply.a2,a p.supply.a3,a p.supply.a4,a p.supply.a5,a p.opn.a0,a p.opn.a1,a p.opn.a2,a p.opn.a3,a p.opn.a4,a p.opn.a5,a p.cls.a0,a p.cls.a1,a p.cls.a2,a p.cls.a3,a p.cls.a4,a p.cls.a5,g J p.classes,g bw.off p.offers] 27 20 false;let F:=(↑p.offers.length:Int);let K:=γU 2 0 5;let e:=p.offers.length;let b0:=q 3 e 1;let b4:=δ F.toNat f;let b8:=h J b4 3 true;let T:=a (if nN p v t=true then f else(13:Int));f<=U/\U<=U/\U*(16:Int)<=l/\U<=n/\((((a v).same (a v)/\(g bD t).same (g bD t)/\r.same r/\(q 1 U.toNat 2).same y/\(g bD t).same (g bD t)/\(a U).same z/\L.same (a 0)/\True)/\V.same V/\(h (J.pair bw.b) (δ U.toNat (f,false)) 116 true).same (h r7 (eD t 0) 116 true)/\True)/\f<=f/\f<=s/\∀(j:Nat),(↑j:Int)<f->kj p v (fa p t j) (bp t j bD.dflt)=true)/\∀(x:Int),let C:=eD t x.toNat;let D:=h r7 C 116 true;let w:=bp t x.toNat bD.dflt;let W:=w.snd.fst;let N:=w.snd.snd.fst;let S:=w.snd.snd.snd.fst;let Y:=w.snd.snd.snd.snd;let H:=bA.cells [a w.fst,a W,a N,a S,g sF Y] 68 5 false;let a6:=fa p t x.toNat;let d:=C.length;let Q:=(↑d:Int);let d2:=decide (w.fst=o);let d4:=decide (w.fst=(2:Int));let R:=C.set (εX N) (x,false);let E:=x+o;let c3:=a E;let e0:=h r7 (eD t E.toNat) 116 true;let b7:=decide (w.fst=(2:Int));let d0:=decide (w.fst=(3:Int));(f<=x/\x<=s/\∀(j:Nat),(↑j:Int)<x->kj p v (fa p t j) (bp t j bD.dflt)=true)->(decide (x<s)=true->f<=x/\x<U/\x.toNat<t.length/\f<=F/\F<=F/\F*(8:Int)<=l/\F<=n/\((((a v).same (a v)/\(g bD t).same (g bD t)/\r.same r/\y.same y/\(a x).same (a x)/\K.same K/\(q 3 F.toNat 1).same b0/\(a x).same (a x)/\(g bD t).same (g bD t)/\z.same z/\(a x).same (a x)/\True)/\V.same V/\D.same D/\H.same H/\b8.same b8/\True)/\(f<=x/\x<=x)/\b4.length=e/\fN t C x.toNat x b4=a6)/\∀(c:Int×List Int),let X:=a x;let B:=c.fst.toNat;let a9:=bp C B r7.dflt;let m:=a9.fst;let c7:=a m;let I:=εX m;let G:=(bp t I bD.dflt).snd.fst;let a7:=εX G;let O:=c.snd.length;let c4:=decide (f<c.fst);let A:=c.snd.length;let P:=c.snd.set a7 (-1:Int);let d1:=h J c.snd 3 true;let Z:=let b9:=λ(u:bA) ↦bU .i64 E/\(((a v).same (a v)/\(g bD t).same (g bD t)/\r.same r/\y.same y/\(g bD t).same (g bD t)/\z.same z/\c3.same c3/\True)/\V.same V/\u.same e0/\True)/\(f<=E/\E<=s/\∀(j:Nat),(↑j:Int)<E->kj p v (fa p t j) (bp t j bD.dflt)=true)/\(s - E).toNat<(s - x).toNat;(d4=true->t.length=d/\f<=N/\N<Q/\t.length=d/\εX N<d/\t.length=R.length/\f<=S/\S<(↑R.length:Int)/\t.length=R.length/\εX S<R.length/\b9 (h r7 (R.set (εX S) (x,true)) 116 true))/\(d4=false->b9 D);let c9:=(a v).same (a v)/\(g bD t).same (g bD t)/\r.same r/\y.same y/\X.same X/\K.same K/\b0.same b0/\c7.same c7/\(g bD t).same (g bD t)/\z.same z/\X.same X/\True;let c2:=λ(u:List Int) (d8:Int) ↦let b3:=u.set a7 d8;let c5:=h J b3 3 true;t.length=d/\f<=c.fst/\c.fst<Q/\t.length=d/\B<d/\(c9/\V.same V/\D.same D/\H.same H/\c5.same c5/\True)/\((f<=m/\m<=x)/\b3.length=e/\fN t C I m b3=a6)/\I<B;let c1:=λ(u:Bool) ↦(!(posB Y&&decide (fY p c.snd (vL Y) O<ζ v+(1:Rat))))=u;let c8:=λ(u:Bool) ↦(!(decide (W<(↑O:Int))&&decide (bp c.snd (εX W) 0=f)))=u;let c0:=λ(u:Bool) ↦(!decide (cH p (bE c.snd o)≠f))=u;let c6:=λ(u:Bool) ↦decide (G<(↑e:Int))=u;(f<=c.fst/\c.fst<=x)/\O=e/\fN t C B c.fst c.snd=a6->(c4=true->t.length=d/\f<=c.fst/\c.fst<Q/\t.length=d/\B<d/\f<=m/\m<U/\I<t.length/\(c6 true->e=A/\f<=G/\G<(↑A:Int)/\e=A/\a7<A/\t.length=d/\f<=c.fst/\c.fst<Q/\t.length=d/\B<d/\(a9.snd=true->e=P.length/\f<=G/\G<(↑P.length:Int)/\e=P.length/\a7<P.length/\c2 P o)/\(a9.snd=false->c2 c.snd (-1:Int)))/\(c6 false->t.length=d/\f<=c.fst/\c.fst<Q/\t.length=d/\B<d/\(c9/\V.same V/\D.same D/\H.same H/\d1.same d1/\True)/\((f<=m/\m<=x)/\O=e/\fN t C I m c.snd=a6)/\I<B))/\(c4=false->True/\(d2=true->e=A/\(qU p c.snd Y/\(-9223372036854775808:Int)<=v/\v<=(9223372036854775807:Int))/\(c1 true->(k 13).same T)/\(c1 false->Z))/\(d2=false->(b7=true->e=A/\f<=W/\(c8 true->(k 13).same T)/\(c8 false->Z))/\(b7=false->(d0=true->e=A/\O<=1000000/\(c0 true->(k 13).same T)/\(c0 false->Z))/\(d0=false->e=A/\True/\(true=true->(k 13).same T)/\(true=false->Z))))))/\(decide (x<s)=false->L.same T)) (by kernel_rfl) ?_;simp only[vcs];have e2:=(dR hc).2.1;have e3:1<=t.length/\t.length<=65536:=by
  simp_all[de]
 have J:∀i,t.length=(eD t i).length:=λi=>s9.symm;have d9:∀{x y:Nat},x=y->(γz 1 x 2).same (γz 1 y 2):=by rintro _ _ rfl;rfl
 have d6:∀{x y:Nat},x=y->(γz 3 x 1).same (γz 3 y 1):=by rintro _ _ rfl;rfl
 have l:∀{x y:List (Int×Bool)},x=y->(bA.row r7 x 116 true).same (bA.row r7 y 116 true):=by rintro _ _ rfl;rfl
 have hd:(r7.dflt:Int×Bool)=(0,false):=rfl;simp only[γb,hd];refine⟨by omega,by omega,by omega,by omega,⟨⟨d9 rfl,l rfl⟩,by omega,by omega,λj hj=>by omega⟩,?_⟩;rintro i ⟨i0,i1,d3⟩;refine⟨λhi=>?_,λhi=>?_⟩
 ·have hu:=FD ht (i:=i.toNat) (by omega);have d7:=@s9 t i.toNat;have M:=FC ht (i:=i.toNat) (by omega);refine⟨i0,hi,by omega,by omega,by omega,by omega,by omega,⟨d6 rfl,⟨i0,Int.le_refl _⟩,δq,?_⟩,?_⟩;·grind[fa]
  rintro⟨k,f⟩ ⟨⟨k0,k1⟩,F,b5⟩;simp only at k0 k1 F b5 ⊢;refine⟨λhk=>?_,λhk=>?_⟩
  ·have q:=hu.2 k.toNat (by omega);have q1:=q.2 (by omega);have ho:=(FC ht (i:=(bp (eD t i.toNat) k.toNat (0,false)).1.toNat) (by omega)).1;have hs:=@MK t (eD t i.toNat) hu k f hk (by omega);rw[b5] at hs;unfold mG at hs;rw[F] at hs;have qq:=q.1;clear q;generalize bp (eD t i.toNat) k.toNat (0,false)=s at qq q1 ho hs ⊢;generalize (bp t s.1.toNat bD.dflt).2.1=o at ho hs ⊢;refine⟨J _,k0,by omega,J _,by omega,qq,by omega,by omega,λh=>?_,λh=>?_⟩
   ·rw[if_pos h] at hs;have l1:(f.set o.toNat (-1)).length=p.offers.length:=by rw[Ψ,F]
    refine⟨by omega,ho,by omega,by omega,by omega,J _,k0,by omega,J _,by omega,λr=>?_,λr=>?_⟩
    ·rw[if_pos r] at hs;exact⟨by omega,ho,by omega,by omega,by omega,J _,k0,by omega,J _,by omega,⟨⟨qq,by omega⟩,by rw[Ψ];exact l1,by rw[List.set_set];exact hs.symm⟩,by omega⟩
    grind
   grind
  ·have e1:k=0:=by omega
   have hf:f=fa p t i.toNat:=by rw[<-b5,e1];rfl
   have a8:=hb i.toNat (by omega);rw[<-hf] at a8;have no:kj p v f (bp t i.toNat bD.dflt)=false->(13:Int)=if nN p v t=true then 0 else 13:=λh=>by
    have:nN p v t=false:=by
     unfold nN;rw[δo];intro ha;have:=ξ.1 ha i.toNat (γp.2 (by omega));rw[<-hf,h] at this;cases this
    rw[this];rfl
   have g:kj p v f (bp t i.toNat bD.dflt)=true->∀j:Nat,(j:Int)<i+1->kj p v (fa p t j) (bp t j bD.dflt)=true:=λh j hj=>by
    by_cases r:(j:Int)<i;·exact d3 j r
    ·rw[show j=i.toNat by omega,<-hf];exact h
   have d5:eD t (i+1).toNat=if(bp t i.toNat bD.dflt).1=2 then((eD t i.toNat).set (bp t i.toNat bD.dflt).2.2.1.toNat (i,false)).set (bp t i.toNat bD.dflt).2.2.2.1.toNat (i,true) else eD t i.toNat:=by
    rw[show(i+1).toNat=i.toNat+1 by omega];conv=>lhs;unfold eD
    rw[show((i.toNat:Nat):Int)=i by omega]
   rw[d5];unfold kj at no g;have b6:∀(j:Nat) (z:Int×Bool),((eD t i.toNat).set j z).length=t.length:=λj z=>by rw[Ψ,d7]
   generalize bp t i.toNat bD.dflt=n at no g M a8 ⊢;refine⟨λK=>⟨F.symm,⟨a8 K,v0,v1⟩,λh=>no (by rw[if_pos K];exact h),λh=>?_⟩,λK=>⟨λh3=>⟨F.symm,M.1,λh=>no (by rw[if_neg K,if_pos h3];exact h),λh=>?_⟩,λh3=>⟨λh4=>⟨F.symm,by omega,λh=>no (by rw[if_neg K,if_neg h3,if_pos h4];exact decide_eq_false h),λh=>?_⟩,λh4=>?_⟩⟩⟩;·exact⟨λr=>by
      obtain⟨⟨a1,a2⟩,b1,b2⟩:=M.2 r;have s1:=b6 n.2.2.1.toNat (i,false);exact⟨J _,by omega,by omega,J _,by omega,s1.symm,by omega,by omega,s1.symm,by omega,by omega,l (if_pos r).symm,⟨by omega,by omega,g (by rw[if_pos K,h.1,decide_eq_true h.2];rfl)⟩,by omega⟩,λr=>⟨by omega,l (if_neg r).symm,⟨by omega,by omega,g (by rw[if_pos K,h.1,decide_eq_true h.2];rfl)⟩,by omega⟩⟩
   ·exact⟨λr=>by
      obtain⟨⟨a1,a2⟩,b1,b2⟩:=M.2 r;have s1:=b6 n.2.2.1.toNat (i,false);exact⟨J _,by omega,by omega,J _,by omega,s1.symm,by omega,by omega,s1.symm,by omega,by omega,l (if_pos r).symm,⟨by omega,by omega,g (by rw[if_neg K,if_pos h3,decide_eq_true h.1,decide_eq_true h.2];rfl)⟩,by omega⟩,λr=>⟨by omega,l (if_neg r).symm,⟨by omega,by omega,g (by rw[if_neg K,if_pos h3,decide_eq_true h.1,decide_eq_true h.2];rfl)⟩,by omega⟩⟩
   ·exact⟨λr=>by
      obtain⟨⟨a1,a2⟩,b1,b2⟩:=M.2 r;have s1:=b6 n.2.2.1.toNat (i,false);exact⟨J _,by omega,by omega,J _,by omega,s1.symm,by omega,by omega,s1.symm,by omega,by omega,l (if_pos r).symm,⟨by omega,by omega,g (by rw[if_neg K,if_neg h3,if_pos h4];exact decide_eq_true h)⟩,by omega⟩,λr=>⟨by omega,l (if_neg r).symm,⟨by omega,by omega,g (by rw[if_neg K,if_neg h3,if_pos h4];exact decide_eq_true h)⟩,by omega⟩⟩
   ·have:=no (by rw[if_neg K,if_neg h3,if_neg h4]);exact⟨F.symm,λ_=>this,λh=>by cases h⟩
 grind[nN]
def gR (p:bz) (n:cB):Bool:=!(decide (n.1=1)&&decide ((n.2.2.2.2.length:Int)≠cE p))
def nO (p:bz) (v:Int) (t:List cB):Int:=
 if bH p≠0 then bH p else if t.length=0 then 1 else if 65536<t.length then 3 else if de t=false then 2 else if t.all (gR p)=false then 2 else if nN p v t=true then 0 else 13
def mH (p:bz) (v:Int) (t:List cB):Prop:=(∀n∈t,∀x∈n.2.2.2.2,gK x)/\t.length<=1000000000000/\(bH p=0->de t=true->t.all (gR p)=true->MI p v t)
def MM:bL:=⟨15,bz×Int×List cB,.cons dO (.cons (ef .i64) (.one (cV bD))),λa=>mH a.1 a.2.1 a.2.2,λa=> .si .i64 (nO a.1 a.2.1 a.2.2)⟩
def afx (p:bz) (v:Int) (t:List cB):Nat->cC
 |12=> .inv Int (λi=>⟨[(1,.si .i64 v),(2,.row bD t),(3,.ptr 0 0 20),(8,.si .i64 (cE p)),(30,.row bD t),(31,.si .i64 t.length),(32,.si .i64 i)],[.cells p.ss 27 20 false]⟩)
   (λs=>iS s 32) (λi=>0<=i/\i<=t.length/\∀j:Nat,j<i->gR p (bp t j bD.dflt)=true) (λi=>(t.length - i).toNat) λ_ _=> .look
 |_=> .look
theorem h473:Holds Tryz.prog MM:=by
 refine cq (L:=[qF,L0,yi,ML]) MM (λa=>afx a.1 a.2.1 a.2.2) (by grind[h79,h480,h335,h481]) ?_;rintro⟨p,v,t⟩ ⟨hdg,htl,hok⟩;simp only at hdg htl hok;refine bQ (let a:=Ω .i64;let b:=(0:Int);let c:=γo .i64;let d:=Δ;let o:=decide (bH p≠b);let f:=a (nO p v t);let h:=(↑t.length:Int);let q:=decide (h=b);let r:=decide ((65536:Int)<h);let i:=γU 0 0 20;let l:=a (cE p);let e:=(↑t.length:Int);let m:=a e;let k:=bA.cells (bz.ss p) 27 20 false;True/\(o=true->(a (bH p)).same f)/\(o=false->(q=true->(c 1).same f)/\(q=false->(r=true->(c 3).same f)/\(r=false->(∀(n:cB),n∈t->∀(x:bM),x∈n.snd.snd.snd.snd->gK x)/\((!de t)=true->(c 2).same f)/\((!de t)=false->True/\((((a v).same (a v)/\(d bD t).same (d bD t)/\i.same i/\(a (if bH p=b then cE p else b)).same l/\(d bD t).same (d bD t)/\(a h).same m/\(c 0).same (a 0)/\True)/\k.same k/\True)/\b<=b/\b<=e/\∀(j:Nat),(↑j:Int)<b->gR p (bp t j bD.dflt)=true)/\∀(x:Int),let g:=x+(1:Int);let s:=a g;let w:=bp t x.toNat bD.dflt;let y:=bU .i64 g/\(((a v).same (a v)/\(d bD t).same (d bD t)/\i.same i/\l.same l/\(d bD t).same (d bD t)/\m.same m/\s.same s/\True)/\k.same k/\True)/\(b<=g/\g<=e/\∀(j:Nat),(↑j:Int)<g->gR p (bp t j bD.dflt)=true)/\(e - g).toNat<(e - x).toNat;let z:=λ(u:Bool) ↦decide ((↑(Φ w.snd.snd.snd.snd):Int)≠cE p)=u;let A:=λ(u:Bool) ↦decide (w.fst=(1:Int))=u;(b<=x/\x<=e/\∀(j:Nat),(↑j:Int)<x->gR p (bp t j bD.dflt)=true)->(decide (x<e)=true->b<=x/\x<h/\x.toNat<t.length/\(A true->(z true->(c 2).same f)/\(z false->y))/\(A false->y))/\(decide (x<e)=false->MI p v t/\(a (if nN p v t=true then b else(13:Int))).same f)))))) (by kernel_rfl) ?_;simp only[vcs];unfold nO;refine⟨λh=>by rw[if_pos h],λh=>?_⟩;rw[if_neg h];have hc:bH p=0:=γa.1 h;refine⟨λh1=>by omega,λh1=>?_⟩;rw[if_neg (show ¬t.length=0 by omega)];refine⟨λh2=>by omega,λh2=>?_⟩;rw[if_neg (show ¬65536<t.length by omega)];refine⟨hdg,λh3=>by rw[if_pos h3],λh3=>?_⟩;have hnt:¬de t=false:=by simp_all
 rw[if_neg hnt,if_pos hc];refine⟨⟨rfl,by omega,by omega,λj hj=>by omega⟩,?_⟩;rintro i ⟨i0,i1,hall⟩;refine⟨λhi=>?_,λhi=>?_⟩
 ·have hm:=dn (d:=bD.dflt) (show i.toNat<t.length by omega);have next:gR p (bp t i.toNat bD.dflt)=true->∀j:Nat,(j:Int)<i+1->gR p (bp t j bD.dflt)=true:=λhr j hj=>by
   grind
  have no:gR p (bp t i.toNat bD.dflt)=false->t.all (gR p)=false:=λhr=>by
   grind
  refine⟨i0,hi,by omega,λh4=>⟨λh5=>?_,λh5=>⟨by omega,⟨by omega,by omega,next ?_⟩,by omega⟩⟩,λh4=>⟨by omega,⟨by omega,by omega,next ?_⟩,by omega⟩⟩;·simp_all[gR]
  all_goals grind[gR]
 ·have ha:t.all (gR p)=true:=ξ.2 λn hn=>by
   obtain⟨j,hj,rfl⟩:=γB hn;grind[dj]
  simp_all
@[reducible] def sRs:bw:=.pair (.bP (.i .i64)) (.pair (.i .i64) (.bP bD))
def qV (p:bz) (r:List Int×Int×List cB):Int:=if cH p r.1≠0 then cH p r.1 else if dJ p r.1≠r.2.1 then 13 else nO p r.2.1 r.2.2
def FG:bL:=⟨16,bz×List Int×Int×List cB,.cons dO (.one (dZ sRs)),λa=>a.2.1.length<=1000000000000/\(cH a.1 a.2.1=0->dJ a.1 a.2.1=a.2.2.1->mH a.1 a.2.2.1 a.2.2.2),λa=> .si .i64 (qV a.1 a.2)⟩
theorem h474:Holds Tryz.prog FG:=by
 refine cq (L:=[ub,E6,MM]) FG lk (by grind[h100,h437,h473]) ?_;rintro⟨p,c,w,t⟩ ⟨g,a⟩;simp only at g a;refine bQ (let a:=Ω .i64;let d:=decide (cH p c≠(0:Int));let b:=a (qV p (c,w,t));let e:=decide (dJ p c≠w);c.length<=9223372036854775807/\(d=true->(a (cH p c)).same b)/\(d=false->(bH p=(0:Int)/\c.length<=9223372036854775807)/\(e=true->(γo .i64 13).same b)/\(e=false->mH p w t/\(a (nO p w t)).same b))) (by kernel_rfl) ?_;simp only[vcs];unfold qV;refine⟨by omega,λh=>by rw[if_pos h],λh=>?_⟩;rw[if_neg h];have f:cH p c=0:=γa.1 h;have i:bH p=0:=by
  unfold cH at f;omega
 grind
def sa (p:bz) (c:List Int):List bG:=c.foldl (λl i=>l.set (oI p i).ck.toNat (oI p i).want) (δ p.classes.length bG.zero)
theorem Vq {p:bz} {c:List Int}:(sa p c).length=p.classes.length:=by
 unfold sa;have:∀(c:List Int) (l:List bG),(c.foldl (λl i=>l.set (oI p i).ck.toNat (oI p i).want) l).length=l.length:=by
  intro c;induction c<;>simp_all
 simp_all
theorem Vr {p:bz} {c:List Int} (h:cH p c=0):bH p=0/\∀x∈c,0<=x/\x<p.offers.length:=by
 unfold cH at h;split at h;·omega
 ·rename_i a;split at h;·cases h
  ·rename_i e;have d:(eF p.offers (-1) c).isSome=true:=by
    grind[gp]
   exact⟨γa.1 a,λx b=>by have:=(JO (by omega) d).2 x b;omega⟩
def MN:bL:=⟨21,bz×Alloc,.cons dO (.one mf),λa=>a.2.chosen.length<=1000000000000,λa=> .row .eL (if cH a.1 a.2.chosen=0 then sa a.1 a.2.chosen else[])⟩
def afz (p:bz) (a:Alloc):Nat->cC
 |5=> .inv Int (λi=>⟨[(2,.ptr 0 0 20),(5,.ow 2 p.classes.length 6),(18,.row (.i .i64) a.chosen),(19,.si .i64 a.chosen.length),(20,.si .i64 i)],[.cells p.ss 27 20 false,.cells [.row (.i .i64) a.chosen,.si .i64 a.value] 31 2 false,.row .eL (sa p (a.chosen.take i.toNat)) 23 true]⟩)
   (λs=>iS s 20) (λi=>0<=i/\i<=a.chosen.length) (λi=>(a.chosen.length - i).toNat) λ_ _=> .look
 |_=> .look
theorem h476:Holds Tryz.prog MN:=by
 refine cq (L:=[ub]) MN (λa=>afz a.1 a.2) (by grind[h100]) ?_;rintro⟨p,a⟩ (I:a.chosen.length<=1000000000000);refine bQ (let d:=Ω .i64;let h:=(0:Int);let o:=Δ;let s:=bA.row;let w:=decide (cH p a.chosen≠h);let t:=bw.i .i64;let B:=o bw.eL (if cH p a.chosen=h then sa p a.chosen else[]);let l:=(↑p.classes.length:Int);let q:=γU 0 0 20;let r:=γz 2 p.classes.length 6;let m:=o t a.chosen;let C:=(↑a.chosen.length:Int);let k:=(↑a.chosen.length:Int);let u:=d k;let g:=bA.cells [d p.supply.a0,d p.supply.a1,d p.supply.a2,d p.supply.a3,d p.supply.a4,d p.supply.a5,d p.opn.a0,d p.opn.a1,d p.opn.a2,d p.opn.a3,d p.opn.a4,d p.opn.a5,d p.cls.a0,d p.cls.a1,d p.cls.a2,d p.cls.a3,d p.cls.a4,d p.cls.a5,o t p.classes,o bw.off p.offers] 27 20 false;let j:=bA.cells [m,d a.value] 31 2 false;a.chosen.length<=9223372036854775807/\(w=true->(o t []).same B)/\(w=false->h<=l/\l<=l/\l*(48:Int)<=(140737488355328:Int)/\l<=(1000000000000:Int)/\(((q.same q/\(γz 2 l.toNat 6).same r/\m.same m/\(d C).same u/\(γo .i64 0).same (d 0)/\True)/\g.same g/\j.same j/\(s bw.eL (δ l.toNat (bG.mk h h h h h h)) 23 true).same (s bw.eL (sa p []) 23 true)/\True)/\h<=h/\h<=k)/\∀(x:Int),let b:=bp a.chosen x.toNat h;let c:=sa p (τ x.toNat a.chosen);let f:=bp p.offers b.toNat bw.off.dflt;let e:=x+(1:Int);let n:=d e;h<=x/\x<=k->(decide (x<k)=true->h<=x/\x<C/\x.toNat<a.chosen.length/\h<=b/\b<(↑p.offers.length:Int)/\b.toNat<p.offers.length/\h<=b/\b<(↑p.offers.length:Int)/\b.toNat<p.offers.length/\p.classes.length=c.length/\h<=f.ck/\f.ck<(↑c.length:Int)/\p.classes.length=c.length/\f.ck.toNat<c.length/\bU .i64 e/\((q.same q/\r.same r/\m.same m/\u.same u/\n.same n/\True)/\g.same g/\j.same j/\(s bw.eL (c.set f.ck.toNat f.want) 23 true).same (s bw.eL (sa p (τ e.toNat a.chosen)) 23 true)/\True)/\(h<=e/\e<=k)/\(k - e).toNat<(k - x).toNat)/\(decide (x<k)=false->p.classes.length=c.length/\(o bw.eL c).same B))) (by kernel_rfl) ?_;simp only[vcs];have v:∀{x y:Nat},x=y->(γz 2 x 6).same (γz 2 y 6):=by rintro _ _ rfl;rfl
 have o:∀{x y:List bG},x=y->(bA.row .eL x 23 true).same (bA.row .eL y 23 true):=by rintro _ _ rfl;rfl
 simp only[γb];refine⟨by omega,λh=>by rw[if_neg h];rfl,λh=>?_⟩;have A:cH p a.chosen=0:=γa.1 h;obtain⟨z,s⟩:=Vr A;have G:=(dR z).1;refine⟨by omega,by omega,by omega,by omega,⟨⟨v rfl,o rfl⟩,by omega,by omega⟩,?_⟩;rintro i ⟨J,K⟩;have D:=@Vq p (a.chosen.take i.toNat);refine⟨λF=>?_,λF=>?_⟩
 ·have E:=s _ (dn (d:=0) (show i.toNat<a.chosen.length by omega));have H:=kC z E;grind[jN,oI,sa]
 ·rw[if_pos A,show a.chosen.take i.toNat=a.chosen by rw[show i.toNat=a.chosen.length by omega,χ]] at*;simp_all
def MO:bL:=⟨24,Unit,.nil,λ_=>True,λ_=>dO.put three⟩
theorem h479:Holds Tryz.prog MO:=by
 refine cq (L:=[]) MO lk (by simp) ?_;intro _ _;refine bQ (let d:=Ω .i64;let e:=(0:Int);let f:=(1:Int);let g:=Δ;let c:=γo .i64 1;let a:=γo .i64 0;let b:=three.supply;(SV.agg [c,c,a,a,a,a,c,c,a,a,a,a,a,a,a,a,a,a,g (bw.i .i64) [e,e,e],g bw.off [Off.mk e (bG.mk f f e e e e) (10:Int),Off.mk f (bG.mk f e e e e e) (6:Int),Off.mk (2:Int) (bG.mk e f e e e e) (6:Int)]]).same (SV.agg [d b.a0,d b.a1,d b.a2,d b.a3,d b.a4,d b.a5,d three.opn.a0,d three.opn.a1,d three.opn.a2,d three.opn.a3,d three.opn.a4,d three.opn.a5,d three.cls.a0,d three.cls.a1,d three.cls.a2,d three.cls.a3,d three.cls.a4,d three.cls.a5,g (bw.i .i64) three.classes,g bw.off three.offers])) (by kernel_rfl) ?_;conv=>zeta
 rfl
theorem afA {t:List cB} {u:List (Int×Bool)} {k:Int} {f g h:List Int} (c:f.length=g.length) (a:∀i,bp f i 0=if bp g i 0≠0 then bp g i 0 else bp h i 0):
  ∀i,bp (mG t u k f) i 0=if bp (mG t u k g) i 0≠0 then bp (mG t u k g) i 0 else bp h i 0:=λi=>by
 unfold mG;rw[c];generalize (bp t (bp u k.toNat (0,false)).1.toNat bD.dflt).2.1=o;generalize (bp u k.toNat (0,false)).2=b;split
 ·by_cases d:o.toNat<g.length
  ·rw[iV (by omega),iV d];grind
  ·rw[ζh (by omega),ζh (by omega)];exact a i
 ·exact a i
theorem Vs {t:List cB} {u:List (Int×Bool)} {h:List Int}:∀{m:Nat} {k:Int} {f g:List Int},f.length=g.length->(∀i,bp f i 0=if bp g i 0≠0 then bp g i 0 else bp h i 0)->
  ∀i,bp (fN t u m k f) i 0=if bp (fN t u m k g) i 0≠0 then bp (fN t u m k g) i 0 else bp h i 0
 |0,_,_,_,_,a=>a
 |m+1,k,f,g,b,a=>by
  unfold fN;split;·exact Vs (by grind[Vo]) (afA b a)
  ·exact a
theorem Vt {t:List cB} {u a:List (Int×Bool)}:∀{m:Nat} {k:Int} {f:List Int},(∀x:Nat,(x:Int)<=k->bp u x (0,false)=bp a x (0,false))->(∀x:Nat,(x:Int)<=k->0<x->0<=(bp u x (0,false)).1/\(bp u x (0,false)).1<x)->fN t u m k f=fN t a m k f
 |0,_,_,_,_=>rfl
 |m+1,k,f,b,c=>by
  unfold fN;split
  ·rename_i j;have e:=b k.toNat (by omega);have d:=c k.toNat (by omega) (by omega);have i:mG t u k f=mG t a k f:=by unfold mG;rw[e]
   rw[i,<-e];exact Vt (λx g=>b x (by omega)) λx g h=>c x (by omega) h
  ·rfl
theorem Vu {n:Nat} {i:Int}:∀{l c:List Int},rZ n i c l=true->∀x∈l,(i<x/\x<n)/\x∉c
 |[],_,_,x,a=>by cases a;|y::l,c,h,x,a=>by
  simp only[rZ,θ,decide_eq_true_eq] at h;rcases γD.1 a with rfl|a;·simp_all
  ·have:=Vu h.2 x a;simp_all
theorem tc {t:List cB} (h:de t=true) {i:Nat} (b:i<t.length):∀x∈eV (bp t i bD.dflt),((i:Int)<x/\x<t.length)/\x∉eZ t i:=by
 unfold de at h;simp only[θ,ξ,γp] at h;have a:=h.2.1 i b;unfold iM at a;simp only[θ] at a;exact Vu a.2
theorem wE {t:List cB} {x:Int}:∀{i:Nat},i<=t.length->(x∈eZ t i↔∃q,q<i/\x∈eV (bp t q bD.dflt))
 |0,_=>by simp[eZ];|i+1,b=>by
  have a:=@wC t i (by omega) (by omega);rw[show((i:Int)+1).toNat=i+1 by omega,γb] at a;rw[a,List.mem_append,wE (by omega)];grind
theorem afB {n:cB} {x:Int} (h:x∈eV n):n.1=2/\(x=n.2.2.1\/x=n.2.2.2.1):=by
 grind[eV]
theorem Vv {t:List cB} (b:de t=true) {i:Nat}:∀{j:Nat},i<=j->j<=t.length->∀x,x<=i->bp (eD t j) x (0,false)=bp (eD t i) x (0,false)
 |0,c,_,_,_=>by simp_all;|j+1,c,g,x,d=>by
  by_cases e:i=j+1;·rw[e]
  ·rw[<-Vv b (j:=j) (by omega) (by omega) x d];conv=>lhs;unfold eD
   split
   ·rename_i f;have a:∀y∈[(bp t j bD.dflt).2.2.1,(bp t j bD.dflt).2.2.2.1],((j:Int)<y/\y<t.length)/\y∉eZ t j:=by
     have:=tc b (i:=j) (by omega);simp_all[eV]
    have h:=(a _ (δh ..)).1;have k:=(a (bp t j bD.dflt).2.2.2.1 (by simp)).1;have l:=@s9 t j;rw[iV (by grind),if_neg (by omega),iV (by omega),if_neg (by omega)]
   ·rfl
theorem FH {t:List cB} (b:de t=true) {q:Nat} (k:q<t.length) (f:(bp t q bD.dflt).1=2):∀{j:Nat},q<j->j<=t.length->
  bp (eD t j) (bp t q bD.dflt).2.2.1.toNat (0,false)=((q:Int),false)/\bp (eD t j) (bp t q bD.dflt).2.2.2.1.toNat (0,false)=((q:Int),true)
 |0,h,_=>by omega;|j+1,h,C=>by
  have u:eV (bp t q bD.dflt)=[(bp t q bD.dflt).2.2.1,(bp t q bD.dflt).2.2.2.1]:=if_pos f;have g:=tc b k;rw[u] at g;have D:=(g _ (δh ..)).1;have F:=(g (bp t q bD.dflt).2.2.2.1 (by simp)).1;have A:(bp t q bD.dflt).2.2.1≠(bp t q bD.dflt).2.2.2.1:=by
   unfold de at b;simp only[θ,ξ,γp] at b;have d:=b.2.1 q k;unfold iM at d;rw[u] at d;simp only[rZ,θ,decide_eq_true_eq] at d;grind
  have l:=@s9 t j;by_cases e:q=j
  ·subst e;unfold eD;rw[if_pos f];have B:((eD t q).set (bp t q bD.dflt).2.2.1.toNat ((q:Int),false)).length=t.length:=by simp_all
   rw[iV (by omega),iV (by omega),if_neg (by omega),iV (by omega),if_pos rfl,if_pos rfl];simp_all
  ·have r:=FH b k f (j:=j) (by omega) (by omega);unfold eD;split
   ·rename_i w;have a:=tc b (i:=j) (by omega);unfold eV at a;rw[if_pos w] at a;have s:=a _ (δh ..);have n:=a (bp t j bD.dflt).2.2.2.1 (by simp);have o:∀x∈[(bp t q bD.dflt).2.2.1,(bp t q bD.dflt).2.2.2.1],x∈eZ t j:=λx v=>(wE (by omega)).2 ⟨q,by omega,by simp_all⟩;have m:=o _ (δh ..);have p:=o (bp t q bD.dflt).2.2.2.1 (by simp);have c:∀x y:Int,x∈eZ t j->y∉eZ t j->x≠y:=λx y v z e=>z (e▸v);have G:=c _ _ m s.2;have H:=c _ _ m n.2;have I:=c _ _ p s.2;have E:=c _ _ p n.2;have B:((eD t j).set (bp t j bD.dflt).2.2.1.toNat ((j:Int),false)).length=t.length:=by rw[Ψ,l]
    rw[iV (by omega),if_neg (by omega),iV (by omega),if_neg (by omega),iV (by omega),if_neg (by omega),iV (by omega),if_neg (by omega)];exact r
   ·exact r
theorem Vw {n i:Nat}:bp (δ n (0:Int)) i 0=0:=by
 grind[bp]
theorem FI {p:bz} {t:List cB} {i:Nat}:(fa p t i).length=p.offers.length:=by
 grind[fa,Vp]
theorem Vx {p:bz} {t:List cB} (a:de t=true) {q:Nat} (g:q<t.length) (f:(bp t q bD.dflt).1=2) (y:0<=(bp t q bD.dflt).2.1/\(bp t q bD.dflt).2.1<p.offers.length) (B:bp (fa p t q) (bp t q bD.dflt).2.1.toNat 0=0):
  fa p t (bp t q bD.dflt).2.2.1.toNat=(fa p t q).set (bp t q bD.dflt).2.1.toNat (-1)/\fa p t (bp t q bD.dflt).2.2.2.1.toNat=(fa p t q).set (bp t q bD.dflt).2.1.toNat 1:=by
 have e:=tc a g;unfold eV at e;rw[if_pos f] at e;have w:=(e _ (δh ..)).1;have z:=(e (bp t q bD.dflt).2.2.2.1 (by simp)).1;have r:∀(c:Int) (b:Bool),((q:Int)<c/\c<t.length)->bp (eD t c.toNat) c.toNat (0,false)=((q:Int),b)->fa p t c.toNat=(fa p t q).set (bp t q bD.dflt).2.1.toNat (if b then 1 else -1):=λc b D l=>by
  have k:=FD a (i:=c.toNat) (by omega);have h:=@MK t (eD t c.toNat) k c (δ p.offers.length 0) (by omega) (by omega);rw[l] at h;simp only[γb] at h;have m:fa p t c.toNat=fN t (eD t c.toNat) c.toNat c (δ p.offers.length 0):=by
   grind[fa]
  have u:mG t (eD t c.toNat) c (δ p.offers.length 0)=(δ p.offers.length 0).set (bp t q bD.dflt).2.1.toNat (if b then 1 else -1):=by
   simp_all[mG]
  have o:fN t (eD t c.toNat) q q ((δ p.offers.length 0).set (bp t q bD.dflt).2.1.toNat (if b then 1 else -1))=fN t (eD t q) q q ((δ p.offers.length 0).set (bp t q bD.dflt).2.1.toNat (if b then 1 else -1)):=
   Vt (λx s=>Vv a (by omega) (by omega) x (by omega)) λx s v=>⟨(k.2 x (by omega)).1,(k.2 x (by omega)).2 v⟩;rw[m,h,u,o];have n:fN t (eD t q) q q (δ p.offers.length 0)=fa p t q:=rfl;have d:=@Vs t (eD t q) ((δ p.offers.length 0).set (bp t q bD.dflt).2.1.toNat (if b then 1 else -1)) q q ((δ p.offers.length 0).set (bp t q bD.dflt).2.1.toNat (if b then 1 else -1)) (δ p.offers.length 0) (by simp_all) (λi=>by grind[Vw]);rw[n] at d;refine yR 0 (by grind[FI]) λi _=>?_;rw[d i,iV (by simp_all),iV (by rw[FI];omega),Vw];grind
 have A:=(FH a g f (j:=(bp t q bD.dflt).2.2.1.toNat) (by omega) (by omega)).1;have C:=(FH a g f (j:=(bp t q bD.dflt).2.2.2.1.toNat) (by omega) (by omega)).2;simp_all
def inT (a b c j:Nat):Prop:=j=a\/(b<=j/\j<c)
section
variable {p:bz} {v:Int} {t:List cB} {a lo hi:Nat} {f:List Int}
theorem afC (h:fb p f) (a:eQ p f):qU p f (fL (gX p f)):=
 ⟨⟨a.c,a.l,a.r⟩,gX p f,rfl,E0,λ_=>1000,λk b=>(KY h b).2,by
  have:∀n,pC n (λ_=>1000)=n*1000:=λn=>by
   induction n<;>grind[pC]
  have d:=Fz a.c;grind⟩
theorem Vy (h:fb p f):posB (fL (gX p f))=true:=by
 unfold posB fL;rw[ξ];intro x b;obtain⟨q,a,rfl⟩:=γf.1 b;obtain⟨i,d,rfl⟩:=γB a;have c:=(KY h (r:=i) (by grind[E0])).1;grind[dj,bu]
theorem afD {l:List Rat} {K:Nat} (s:K<=1000000) (h:∀k,k<l.length->Sz K (bp l k 0)):∀x∈fL l,gK x:=λx b=>by
 unfold fL at b;obtain⟨q,e,rfl⟩:=γf.1 b;obtain⟨i,a,rfl⟩:=γB e;have c:=h i a;rw[dj a] at c;obtain⟨m,⟨f,p,n⟩,⟨d,g,j⟩⟩:=jg l[i];obtain⟨o,r⟩:=lM c;exact⟨⟨f,d⟩,by omega,by omega⟩
theorem afE (a:eQ p f) (b:iY p f=true):jS (qS p f)=true/\gR p (qS p f)=true/\(∀x∈(qS p f).2.2.2.2,gK x)/\eV (qS p f)=[]:=by
 have h:mF p<=20:=by have:=(dR a.c).1;grind
 have d:(fL (gX p f)).length=mF p:=by rw[fy,E0]
 refine⟨?_,?_,afD (K:=1000) (by omega) λk g=>(KY (a.ok b) (by grind[E0])).2,rfl⟩
 ·show wf1 (qS p f)=true;have e:(qS p f).2.2.2.2=fL (gX p f):=rfl;unfold wf1;rw[e,d,decide_eq_true (show mF p<=40 by omega)];grind[oG,qS,fL,Bg]
 simp_all[qS,gR,cE]
theorem afF (h:iK p v t a f lo hi) (hf:eQ p f) (hl:t.length<=65536):
  (∀j,inT a lo hi j->j<t.length/\jS (bp t j bD.dflt)=true/\gR p (bp t j bD.dflt)=true/\(∀x∈(bp t j bD.dflt).2.2.2.2,gK x)/\(eV (bp t j bD.dflt)=[]\/∃x:Nat,eV (bp t j bD.dflt)=[(x:Int),((x+1:Nat):Int)]/\j<x/\lo<=x/\x+1<hi))
  /\(∀q r (x:Int),inT a lo hi q->inT a lo hi r->x∈eV (bp t q bD.dflt)->x∈eV (bp t r bD.dflt)->q=r)
  /\(∀x:Nat,lo<=x->x<hi->∃q,inT a lo hi q/\(x:Int)∈eV (bp t q bD.dflt)):=by
 induction h with
 |@bnd a f lo h1 h2 h3=>
  grind[uJ,afE,inT];|@con a f lo h1 h2=>
  obtain⟨e1,e2⟩:=uJ (d:=bD.dflt) h1;have hj:∀j,inT a lo lo j->j=a:=λj h=>by grind[inT]
  refine⟨λj h=>?_,λq r x hq hr _ _=>by grind,λx h0 h1=>by omega⟩;rw[hj j h,e1];exact⟨e2,by decide,rfl,(λx hx=>by cases hx),.inl rfl⟩;|@qT a f lo mid hi k h1 h2 h3 h4 h5 h6 i1 i2=>
  obtain⟨e1,e2⟩:=uJ (d:=bD.dflt) h1;have l1:=h5.le;have l2:=h6.le;have yb:=(iK.qT h1 h2 h3 h4 h5 h6).top.2 (by omega);have h160:=(dR hf.c).2.1;have hfl:=hf.l;obtain⟨f1,g1,c1⟩:=i1 (hf.set (by omega));obtain⟨f2,g2,c2⟩:=i2 (hf.set (by omega));have hk:eV (bp t a bD.dflt)=[(lo:Int),((lo+1:Nat):Int)]:=by rw[e1];rfl
  have hin:∀j,inT a lo hi j->j=a\/inT (lo+1) (lo+2) mid j\/inT lo mid hi j:=λj h=>by unfold inT at h ⊢;omega
  have s1:∀j (x:Int),inT (lo+1) (lo+2) mid j->x∈eV (bp t j bD.dflt)->(lo:Int)+2<=x/\x<mid:=λj x hj hx=>by
   rcases(f1 j hj).2.2.2.2 with h|⟨y,h,_,_,_⟩;·rw[h] at hx;cases hx
   ·rw[h] at hx;simp only[γD,δD,or_false] at hx;omega
  have s2:∀j (x:Int),inT lo mid hi j->x∈eV (bp t j bD.dflt)->(mid:Int)<=x/\x<hi:=λj x hj hx=>by
   rcases(f2 j hj).2.2.2.2 with h|⟨y,h,_,_,_⟩;·rw[h] at hx;cases hx
   ·rw[h] at hx;simp only[γD,δD,or_false] at hx;omega
  have s0:∀x:Int,x∈eV (bp t a bD.dflt)->(lo:Int)<=x/\x<lo+2:=λx hx=>by
   grind
  refine⟨λj h=>?_,λq r x hq hr xq xr=>?_,λx h0 h1=>?_⟩
  ·rcases hin j h with rfl|h|h
   ·refine⟨e2,?_,?_,?_,.inr ⟨lo,hk,h2,ψ _,by omega⟩⟩
    ·rw[e1];show wf2 (kg k lo)=true;have r1:iq k=true:=by grind[iq]
     have r2:iq (lo:Int)=true:=by grind[iq]
     have r3:iq ((lo:Int)+1)=true:=by grind[iq]
     show(iq k&&iq (lo:Int)&&iq ((lo:Int)+1)&&decide (([]:List bM)=[]))=true;rw[r1,r2,r3];rfl
    ·rw[e1];rfl
    ·rw[e1];intro x hx;cases hx
   ·grind
   grind
  ·grind
  ·by_cases q1:x<lo+2
   ·refine⟨a,.inl rfl,?_⟩;rw[hk];simp only[γD,δD,or_false];omega
   grind[inT]
theorem afG (h:iK p v t 0 f 1 t.length) (m:eQ p f) (s:1<=t.length) (d:t.length<=65536):de t=true/\t.all (gR p)=true/\∀n∈t,∀x∈n.2.2.2.2,gK x:=by
 obtain⟨l,B,o⟩:=afF h m d;have b:∀j,j<t.length->inT 0 1 t.length j:=λj c=>by unfold inT;omega
 refine⟨?_,ξ.2 λn a=>?_,λn a=>?_⟩
 ·unfold de;simp only[θ,decide_eq_true_eq,ξ,γp];refine⟨⟨s,d⟩,λi g=>?_,λk z=>?_⟩
  ·obtain⟨D,r,_,_,e⟩:=l i (b i g);unfold iM;rw[r,δr];rcases e with w|⟨x,w,A,E,J⟩;·rw[w];rfl
   ·have a:∀y:Int,y∈eV (bp t i bD.dflt)->y∉eZ t i:=λy I C=>by
     grind[wE]
    rw[w] at a ⊢;have F:=a (x:Int) (by simp);have G:=a ((x+1:Nat):Int) (by simp);simp only[rZ,θ,decide_eq_true_eq,δH];grind
  ·obtain⟨q,H,u⟩:=o (k+1) (by omega) (by omega);grind[wE]
 ·obtain⟨j,c,rfl⟩:=γB a;grind[dj]
 ·obtain⟨j,c,rfl⟩:=γB a;grind[dj]
theorem Vz (h:fb p f):fY p f (vL (fL (gX p f))) f.length=jk p f:=by
 have a:f.length=p.offers.length:=h.2.1;unfold fY;rw[jY,aeT h];have:bV f.length (λk=>if bp f k 0=0/\0<gi p (gX p f) (mF p) k then gi p (gX p f) (mF p) k else 0)=0:=by
  rw[dM (g:=λ_=>0) λk b=>?_,iU];simp_all[if_neg,aeS,Rat.not_lt]
 grind
theorem afH (h:iK p v t a f lo hi) (z:de t=true) (e:eQ p f) (o:fa p t a=f):∀j,inT a lo hi j->kj p v (fa p t j) (bp t j bD.dflt)=true/\((bp t j bD.dflt).1=1->qU p (fa p t j) (bp t j bD.dflt).2.2.2.2):=by
 induction h with
 |@bnd a f lo n i B=>
  obtain⟨b,s⟩:=uJ (d:=bD.dflt) n;intro j g;have:j=a:=by grind[inT]
  rw[this,o,b];refine⟨?_,λ_=>afC (e.ok i) e⟩;show(posB (fL (gX p f))&&decide (fY p f (vL (fL (gX p f))) f.length<ζ v+1))=true;rw[Vz (e.ok i),Vy (e.ok i),δr,decide_eq_true_eq];simp_all;|@con a f lo n i=>
  obtain⟨b,s⟩:=uJ (d:=bD.dflt) n;intro j g;have:j=a:=by grind[inT]
  rw[this,o,b];have A:cH p (bE f 1)≠0:=λh=>by
   have:=(E4 e.c (aev e.l)).1 h;grind[iY]
  refine⟨?_,λh=>?_⟩
  ·show decide (cH p (bE f 1)≠0)=true;simp_all
  ·have:(3:Int)=1:=h;omega;|@qT a f lo m hi k n i B F G D C y=>
  obtain⟨b,s⟩:=uJ (d:=bD.dflt) n;have u:(bp t a bD.dflt).1=2:=by rw[b];rfl
  have x:(bp t a bD.dflt).2.1=k:=by rw[b];rfl
  have q:(bp t a bD.dflt).2.2.1=lo:=by rw[b];rfl
  have r:(bp t a bD.dflt).2.2.2.1=(lo:Int)+1:=by rw[b];rfl
  have E:=e.l;have w:=Vx (p:=p) z s u (by rw[x];omega) (by simp_all);rw[x,q,r,o,γb,show((lo:Int)+1).toNat=lo+1 by omega] at w;intro j g;rcases(show j=a\/inT (lo+1) (lo+2) m j\/inT lo m hi j by grind[inT]) with rfl|g|g
  ·rw[o,b];refine⟨?_,λh=>?_⟩
   ·show(decide (k<f.length)&&decide (bp f k.toNat 0=0))=true;simp_all
   simp_all
  ·exact C (e.set (by omega)) w.2 j g
  ·exact y (e.set (by omega)) w.1 j g
theorem afI {w:Int} (h:iK p v t a f lo hi) (ht:de t=true) (hf:eQ p f) (ha:fa p t a=f) (hb:nN p w t=true):iK p w t a f lo hi:=by
 have hn:∀j,j<t.length->kj p w (fa p t j) (bp t j bD.dflt)=true:=λj hj=>ξ.1 hb j (γp.2 hj);induction h with
 |@bnd a f lo h1 h2 h3=>
  obtain⟨e1,e2⟩:=uJ (d:=bD.dflt) h1;have:=hn a e2;rw[ha,e1] at this;have this:(posB (fL (gX p f))&&decide (fY p f (vL (fL (gX p f))) f.length<ζ w+1))=true:=this;rw[Vz (hf.ok h2),Vy (hf.ok h2),δr,decide_eq_true_eq] at this;have e:((w+1:Int):Rat)=(ζ w:Rat)+1:=by rw[Rat.intCast_add];rfl
  exact .bnd h1 h2 (by rw[e];exact this);|con h1 h2=>exact .con h1 h2;|@qT a f lo mid hi k h1 h2 h3 h4 h5 h6 i1 i2=>
  obtain⟨e1,e2⟩:=uJ (d:=bD.dflt) h1;have hk2:(bp t a bD.dflt).1=2:=by rw[e1];rfl
  have ho:(bp t a bD.dflt).2.1=k:=by rw[e1];rfl
  have ho1:(bp t a bD.dflt).2.2.1=lo:=by rw[e1];rfl
  have ho2:(bp t a bD.dflt).2.2.2.1=(lo:Int)+1:=by rw[e1];rfl
  have hl:=hf.l;have hx:=Vx (p:=p) ht e2 hk2 (by rw[ho];omega) (by rw[ho,ha];exact h4);rw[ho,ho1,ho2,ha,γb,show((lo:Int)+1).toNat=lo+1 by omega] at hx;exact .qT h1 h2 h3 h4 (i1 (hf.set (by omega)) hx.2) (i2 (hf.set (by omega)) hx.1)
theorem afJ (h:iK p v t 0 (iE p) 1 t.length) (a:bH p=0) (m:1<=t.length) (k:t.length<=65536):(∀w, -9223372036854775808<=w/\w<=9223372036854775807->mH p w t)/\nO p v t=0:=by
 obtain⟨d,o,g⟩:=afG h (mY a) m k;have c:=afH h d (mY a) rfl;have b:∀j,j<t.length->inT 0 1 t.length j:=λj n=>by grind[inT]
 refine⟨λw f=>⟨g,by omega,λ_ _ _=>⟨⟨a,d⟩,f,λi l e=>(c i (b i l)).2 e⟩⟩,?_⟩
 ·have q:nN p v t=true:=by
   grind[nN]
  unfold nO;grind
end
theorem afK {n:Nat}:fQ (δ n 0)=true:=by
 grind[fQ]
theorem afL {t:List cB} (a:de t=true) {i:Nat} (b:i<t.length) (c:(bp t i bD.dflt).1=1):∀x∈(bp t i bD.dflt).2.2.2.2,okF x=true:=by
 unfold de at a;simp only[θ,ξ,γp] at a;have d:=a.2.1 i b;simp_all[iM,jS,wf1]
theorem afM {p:bz} {v:Int} {t:List cB} (h:nO p v t=0):bH p=0/\0<t.length/\t.length<=65536/\de t=true/\t.all (gR p)=true/\nN p v t=true:=by
 unfold nO at h;split at h<;>grind
theorem VA {p:bz} (hc:bH p=0) (h15:p.offers.length<=15):iK p (cY p).value (pB p) 0 (iE p) 1 (pB p).length/\((pB p).length:Int)<=65536:=by
 obtain⟨i1,_⟩:=yP hc;have afN:((1+2^(p.offers.length+1):Nat):Int)<=65536+2:=by
  have:2^(p.offers.length+1)<=2^16:=Nat.pow_le_pow_right (by omega) (by omega);have h16:(2:Nat)^16=65536:=rfl;omega
 obtain⟨_,s2,s3⟩:=Ld hc i1 (most:=65536) (by omega);obtain⟨_,_,s4,s5,_⟩:=s2 (s3 afN);exact⟨s5,s4⟩
theorem VB {p:bz} (hc:bH p=0) (h15:p.offers.length<=15):(∀w, -9223372036854775808<=w/\w<=9223372036854775807->mH p w (pB p))/\nO p (cY p).value (pB p)=0:=by
 obtain⟨s5,s4⟩:=VA hc h15;have s6:=s5.top.1;exact afJ s5 hc (by omega) (by omega)
theorem afO {p:bz} (a:bH p=0):cH p (cY p).chosen=0/\dJ p (cY p).chosen=(cY p).value/\(0<=(cY p).value/\(cY p).value<=160000000)/\(cY p).chosen.length<=160:=by
 obtain⟨b,d,_⟩:=afc a;have c:=(xU a).2 b;have:=s8 a c;omega
theorem afP:cY three=⟨[1,2],12⟩:=by kernel_rfl
theorem wF:bH three=0:=by kernel_rfl
theorem afQ:qV three ([0],10,pB three)≠0:=by
 intro h;have h1:cH three [0]=0:=by kernel_rfl
 have h2:dJ three [0]=10:=by kernel_rfl
 unfold qV at h;rw[if_neg (by simp[h1]),if_neg (by simp[h2])] at h;have h4:cH three [1,2]=0:=by kernel_rfl
 have h5:dJ three [1,2]=12:=by kernel_rfl
 obtain⟨_,_,_,ht,_,hb⟩:=afM h;obtain⟨_,ha⟩:=sW h4;have h6:=(afI (VA wF (by decide)).1 ht (mY wF) rfl hb).sound (mY wF) ha ((E4 wF ha).1 h4) (UT ha);rw[<-wy wF ha,h5] at h6;have h6:(12:Int)<=10:=h6;omega
theorem afR {p:bz} (b:bH p=0) (a:p.offers.length<=15):qV p ((cY p).chosen,(cY p).value,pB p)=0:=by
 simp_all[afO,qV,VB]
def MP:bL:=⟨11,Unit,.nil,λ_=>True,λ_=> .sb true⟩
theorem h472:Holds Tryz.prog MP:=by
 refine cq (L:=[MO,LP,MN,Jl,r32,FG]) MP lk (by grind[h479,h427,h476,h101,h32,h474]) ?_;intro _ _;refine bQ (let d:=γ0 false;let e:=(0:Int);let f:=γn;let g:=(10:Int);let a:=(cY three).chosen;let b:=(cY three).value;let c:=λ(u:Bool) ↦decide (qV three (a,b,pB three)=e)=u;True/\(bH three≠e\/three.offers.length<=15)/\a.length<=1000000000000/\a.length<=9223372036854775807/\(true=true->(true=true->(a.length<=1000000000000/\2<=1000000000000)/\(true=true->(a.length<=1000000000000/\(cH three a=e->dJ three a=b->mH three b (pB three)))/\(c true->(true=true->e<=(1:Int)/\(1:Int)<(3:Int)/\1<(sa three a).length/\(true=true->(true=true->e<=(2:Int)/\(2:Int)<(3:Int)/\2<(od three a).length/\(true=true->(1<=1000000000000/\(cH three [e]=e->dJ three [e]=g->mH three g (pB three)))/\(f (decide (qV three ([e],g,pB three)≠e))).same (f true))/\(true=false->(d).same (f true)))/\(true=false->(d).same (f true)))/\(true=false->(d).same (f true)))/\(true=false->(d).same (f true)))/\(c false->(d).same (f true)))/\(true=false->(d).same (f true)))/\(true=false->(d).same (f true)))/\(true=false->(d).same (f true))) (by kernel_rfl) ?_;simp only[vcs];have d:=(VB wF (by decide)).1;have g:=afR wF (by decide);grind[afQ,afP,three,Vq,aad]
def MQ:bL:=⟨92,Int,.one (ef .i64),λ_=>True,λn=> .sb (iq n)⟩
theorem h489:Holds Tryz.prog MQ:=by
 refine cq (L:=[]) MQ lk (by simp) ?_;intro(n:Int) _;refine bQ (let a:=decide ((0:Int)<=n);(a=true->(γn (decide (n<=(65536:Int)))).same (γn (iq n)))/\(a=false->(γ0 false).same (γn (iq n)))) (by kernel_rfl) ?_;simp_all[iq,decide_eq_false]
theorem FK {k o a b:Int} {y:List bM}:jS (k,o,a,b,y)=true↔((1<=k/\k<=3)/\iq o=true/\iq a=true/\iq b=true/\y.length<=40)/\(k≠2->o=0/\a=0/\b=0)/\(k≠1->y.length=0)/\y.all okF=true:=by
 have z:iq 0=true:=by decide
 constructor
 ·intro h;unfold jS at h;split at h;·simp_all[wf1,oG]
  split at h;all_goals simp_all[wf2,rY,oG]
 ·rintro⟨⟨⟨s,l⟩,r,q,p,f⟩,e,g,i⟩;unfold jS;by_cases c:k=1;·simp_all[wf1,oG]
  ·have j:y=[]:=List.eq_nil_of_length_eq_zero (g c);rw[if_neg c];by_cases d:k=2;·simp_all[wf2]
   ·obtain⟨t,m,n⟩:=e d;rw[if_neg d,if_pos (show k=3 by omega)];grind[rY,oG]
def MR:bL:=⟨63,cB,.one (dZ bD),λn=>∀x∈n.2.2.2.2,gK x,λn=> .sb (jS n)⟩
def afS (n:cB):Nat->cC
 |6=> .inv Int (λi=>⟨[(1,.ptr 0 0 5),(3,.si .i64 i)],[.cells (encS bD n) 68 5 false]⟩) (λs=>iS s 3)
  (λi=>0<=i/\i<=n.2.2.2.2.length/\(n.2.2.2.2.take i.toNat).all okF=true) (λi=>(n.2.2.2.2.length - i).toNat) λ_ _=> .look
 |_=> .look
theorem h486:Holds Tryz.prog MR:=by
 refine cq (L:=[MQ,Eh]) MR afS (by grind[h489,h93]) ?_;rintro⟨k,o,a,b,y⟩ E;have E:∀x∈y,gK x:=E;refine bQ (let d:=γ0 false;let g:=(0:Int);let h:=Ω .i64;let i:=(1:Int);let N:=decide (k≠i);let q:=(↑y.length:Int);let O:=decide (g<q);let f:=γn (jS (k,o,a,b,y));let B:=γU 0 0 5;let A:=bA.cells [h k,h o,h a,h b,Δ sF y] 68 5 false;let r:=(↑y.length:Int);let I:=decide (k<i);let K:=decide ((3:Int)<k);let m:=decide ((40:Int)<q);let t:=decide (k≠(2:Int));let l:=decide (o≠g);let n:=decide (a≠g);let s:=decide (b≠g);let M:=let z:=(((B.same B/\(γo .i64 0).same (h 0)/\True)/\A.same A/\True)/\g<=g/\g<=r/\true=true)/\∀(x:Int),let c:=bp y x.toNat sF.dflt;let e:=x+i;let v:=h e;let j:=λ(u:Bool) ↦(!okF (c.fst,c.snd.fst,c.snd.snd))=u;g<=x/\x<=r/\(τ x.toNat y).all okF=true->(decide (x<q)=true->g<=x/\x<q/\x.toNat<y.length/\((bB c.snd.fst/\bB c.snd.snd)/\Φ c.snd.fst<=10000000/\Φ c.snd.snd<=10000000)/\(j true->(d).same f)/\(j false->bU .i64 e/\((B.same B/\v.same v/\True)/\A.same A/\True)/\(g<=e/\e<=r/\(τ e.toNat y).all okF=true)/\(r - e).toNat<(r - x).toNat))/\(decide (x<q)=false->(γ0 true).same f);(N=true->(O=true->(d).same f)/\(O=false->z))/\(N=false->z);(I=true->(d).same f)/\(I=false->(K=true->(d).same f)/\(K=false->True/\((!iq o)=true->(d).same f)/\((!iq o)=false->True/\((!iq a)=true->(d).same f)/\((!iq a)=false->True/\((!iq b)=true->(d).same f)/\((!iq b)=false->(m=true->(d).same f)/\(m=false->(t=true->(l=true->(d).same f)/\(l=false->(n=true->(d).same f)/\(n=false->(s=true->(d).same f)/\(s=false->M))))/\(t=false->M)))))))) (by kernel_rfl) ?_;simp only[vcs];have g:¬jS (k,o,a,b,y)=true->false=jS (k,o,a,b,y):=λh=>by
  simp_all
 refine⟨λh=>g λw=>?_,λY=>⟨λh=>g λw=>?_,λh3=>⟨λh=>g λw=>?_,λS=>⟨λh=>g λw=>?_,λU=>⟨λh=>g λw=>?_,λQ=>⟨λh=>g λw=>?_,λT=>⟨λG=>⟨λh=>g λw=>?_,λo0=>⟨λh=>g λw=>?_,λa0=>⟨λh=>g λw=>?_,λb0=>⟨λi=>⟨λh=>g λw=>?_,λF=>?_⟩,λi=>?_⟩⟩⟩⟩,λG=>⟨λi=>⟨λh=>g λw=>?_,λF=>?_⟩,λi=>?_⟩⟩⟩⟩⟩⟩⟩⟩;all_goals first
  |(show False;obtain⟨⟨_,w2,Z,w4,_⟩,P,V,_⟩:=FK.1 w;first
     |omega;|(simp_all);|(simp_all);|simp_all;|(have:=P G;omega);|(have:=V i;omega));|skip
 all_goals
  refine⟨by omega,?_⟩;rintro x ⟨H,x1,C⟩;refine⟨λp=>?_,λX=>?_⟩
 all_goals first
  |(have J:=dn (d:=sF.dflt) (show x.toNat<y.length by omega);have W:=jN (d:=sF.dflt) H p;have D:=E _ J;refine⟨H,p,by omega,⟨D.1,D.2.1,D.2.2⟩,λh=>g λw=>?_,λh=>⟨by omega,⟨by omega,by omega,?_⟩,by omega⟩⟩
    ·have R:=(FK.1 w).2.2.2;have h:okF (bp y x.toNat sF.dflt)=false:=h;rw[ξ.1 R _ J] at h;cases h
    ·have h:okF (bp y x.toNat sF.dflt)=true:=h;rw[W,ζx,C];simp[h])
  |(rw[show x.toNat=y.length by omega,χ] at C;exact(FK.2 ⟨⟨by omega,S,U,Q,by omega⟩,λh=>by omega,λh=>by omega,C⟩).symm)
def oJ (t:List cB) (x:Int):Nat->Int
 |0=> -1
 |k+1=>if x∈eV (bp t k bD.dflt) then(k:Int) else oJ t x k
def kK (t:List cB) (x:Int) (k:Nat):Int:=((eZ t k).count x:Nat)
def FM:bL:=⟨64,List cB×Int,.cons (cV bD) (.one (ef .i64)),λa=>a.1.length<=1000000000000,λa=> .bN [.si .i64 (kK a.1 a.2 a.1.length),.si .i64 (oJ a.1 a.2 a.1.length)]⟩
def afT (t:List cB) (x:Int):Nat->cC
 |3=> .inv Int (λi=>⟨[(0,.row bD t),(1,.si .i64 x),(6,.si .i64 (kK t x i.toNat)),(7,.si .i64 (oJ t x i.toNat)),(8,.si .i64 i)],[]⟩) (λs=>iS s 8)
  (λi=>0<=i/\i<=t.length) (λi=>(t.length - i).toNat) λ_ _=> .look
 |_=> .look
theorem afU {n:cB} {x:Int}:(eV n).count x<=2:=by
 grind[eV]
theorem VC {t:List cB} {x:Int}:∀{i:Nat},i<=t.length->(eZ t i).count x<=2*i
 |0,_=>by simp[eZ];|i+1,h=>by
  have a:=@wC t i (by omega) (by omega);rw[show((i:Int)+1).toNat=i+1 by omega,γb] at a;rw[a,ζM];have:=VC (t:=t) (x:=x) (i:=i) (by omega);grind[afU]
theorem h487:Holds Tryz.prog FM:=by
 refine cq (L:=[]) FM (λa=>afT a.1 a.2) (by simp) ?_;rintro⟨t,x⟩ (S:t.length<=1000000000000);refine bQ (let a:=Ω .i64;let b:=(0:Int);let h:=bU .i64;let i:=Δ;let k:=(1:Int);let G:=γo .i64 0;let g:=(↑t.length:Int);let p:=(↑t.length:Int);((((i bD t).same (i bD t)/\(a x).same (a x)/\G.same (a (kK t x 0))/\(γo .i64 (-1:Int)).same (a (oJ t x 0))/\G.same (a 0)/\True)/\True)/\b<=b/\b<=g)/\∀(c:Int),let d:=c+k;let e:=a x;let j:=kK t x c.toNat+k;let n:=a (kK t x d.toNat);let l:=a (oJ t x d.toNat);let f:=a d;let v:=a (kK t x c.toNat);let r:=a (oJ t x c.toNat);let m:=bp t c.toNat bD.dflt;let s:=decide (m.snd.snd.snd.fst=x);let I:=h d/\(((i bD t).same (i bD t)/\e.same e/\(a j).same n/\(a c).same l/\f.same f/\True)/\True)/\(b<=d/\d<=g)/\(g - d).toNat<(g - c).toNat;let J:=h d/\(((i bD t).same (i bD t)/\e.same e/\v.same n/\r.same l/\f.same f/\True)/\True)/\(b<=d/\d<=g)/\(g - d).toNat<(g - c).toNat;let H:=s=false;let F:=s=true;let E:=λ(u:Bool) ↦decide (m.fst≠(2:Int))=u;let D:=λ(u:Bool) ↦decide (m.snd.snd.fst=x)=u;b<=c/\c<=g->(decide (c<p)=true->b<=c/\c<p/\c.toNat<t.length/\(E true->J)/\(E false->b<=c/\c<p/\c.toNat<t.length/\(D true->h j/\b<=c/\c<p/\c.toNat<t.length/\(F->h (j+k)/\h d/\(((i bD t).same (i bD t)/\e.same e/\(a (j+k)).same n/\(a c).same l/\f.same f/\True)/\True)/\(b<=d/\d<=g)/\(g - d).toNat<(g - c).toNat)/\(H->I))/\(D false->b<=c/\c<p/\c.toNat<t.length/\(F->h j/\I)/\(H->J))))/\(decide (c<p)=false->(SV.bN [v,r]).same (SV.bN [a (kK t x t.length),a (oJ t x t.length)]))) (by kernel_rfl) ?_;simp only[vcs];refine⟨⟨⟨rfl,rfl⟩,by omega,by omega⟩,?_⟩;rintro i ⟨w,W⟩;have U:=VC (t:=t) (x:=x) (i:=i.toNat) (by omega);have P:0<=kK t x i.toNat/\kK t x i.toNat<=2*i:=by grind[kK]
 refine⟨λq=>?_,λq=>?_⟩
 ·have T:=wC w q;have K:oJ t x (i+1).toNat=if x∈eV (bp t i.toNat bD.dflt) then i else oJ t x i.toNat:=by
   rw[show(i+1).toNat=i.toNat+1 by omega];show(if _ then((i.toNat:Nat):Int) else _)=_;grind
  have O:kK t x (i+1).toNat=kK t x i.toNat+((eV (bp t i.toNat bD.dflt)).count x:Nat):=by
   grind[kK]
  rw[O,K];generalize bp t i.toNat bD.dflt=N;obtain⟨k,o,a,b,y⟩:=N;generalize kK t x i.toNat=C at*;generalize oJ t x i.toNat=A at*;dsimp only;have V:k≠2->eV (k,o,a,b,y)=[]:=λh=>if_neg h;have R:¬k≠2->eV (k,o,a,b,y)=[a,b]:=λh=>if_pos (γa.1 h);have M:(List.count x [a,b]:Int)=(if a=x then 1 else 0)+(if b=x then 1 else 0):=by
   grind
  refine⟨w,q,by omega,λB=>?_,λB=>?_⟩;·grind
  ·rw[R B,M];refine⟨w,q,by omega,λQ=>⟨by omega,w,q,by omega,λz=>?_,λz=>?_⟩,λQ=>⟨w,q,by omega,λz=>?_,λz=>?_⟩⟩;all_goals grind
 grind
def qe (t:List cB) (j:Nat):Bool:=jS (bp t j bD.dflt)&&(decide ((bp t j bD.dflt).1≠2)||decide ((((j:Int)<(bp t j bD.dflt).2.2.1/\(j:Int)<(bp t j bD.dflt).2.2.2.1)/\(bp t j bD.dflt).2.2.1<t.length/\(bp t j bD.dflt).2.2.2.1<t.length)/\(bp t j bD.dflt).2.2.1≠(bp t j bD.dflt).2.2.2.1))
theorem VD {t:List cB} {x:Int} {i:Nat}:∀{j:Nat},i<=j->j<=t.length->(eZ t i).count x<=(eZ t j).count x
 |0,h,_=>by simp_all;|j+1,h,b=>by
  by_cases e:i=j+1;·simp_all
  ·have a:=@wC t j (by omega) (by omega);rw[show((j:Int)+1).toNat=j+1 by omega,γb] at a;rw[a,ζM];have:=VD (t:=t) (x:=x) (i:=i) (j:=j) (by omega) (by omega);omega
theorem Bt {t:List cB} (h:de t=true):(1<=t.length/\t.length<=65536)/\(∀i,i<t.length->iM t i=true)/\∀k:Nat,k<t.length - 1->((k:Int)+1)∈eZ t t.length:=by
 simp_all[de]
theorem VE {t:List cB} (h:de t=true) {i:Nat} (d:i<t.length):(eV (bp t i bD.dflt)).Nodup:=by
 have a:=(Bt h).2.1 i d;unfold iM at a;rw[θ] at a;have b:=a.2;unfold eV at b ⊢;split
 ·rename_i c;rw[if_pos c] at b;simp only[rZ,θ,decide_eq_true_eq] at b;grind
 simp_all
theorem VF {t:List cB} (h:de t=true):∀{i:Nat},i<=t.length->(eZ t i).Nodup
 |0,_=>by simp[eZ];|i+1,g=>by
  have c:=@wC t i (by omega) (by omega);rw[show((i:Int)+1).toNat=i+1 by omega,γb] at c;rw[c,List.nodup_append];refine⟨VF h (by omega),VE h (by omega),λa f b d e=>?_⟩;exact(tc h (i:=i) (by omega) b d).2 (e▸f)
theorem Bv {t:List cB}:de t=true↔(1<=t.length/\t.length<=65536)/\(∀j,j<t.length->qe t j=true)/\∀j:Nat,1<=j->j<t.length->(eZ t t.length).count (j:Int)=1:=by
 constructor
 ·intro h;obtain⟨g,l,b⟩:=Bt h;refine⟨g,λj d=>?_,λj B d=>?_⟩
  ·have f:=l j d;have o:=tc h d;have w:=VE h d;unfold iM at f;rw[θ] at f;unfold qe;rw[f.1,δr,δj,decide_eq_true_eq,decide_eq_true_eq];by_cases e:(bp t j bD.dflt).1=2;all_goals simp_all[eV]
  ·rw[(VF h (ψ _)).count,if_pos];have:=b (j - 1) (by omega);grind
 ·rintro⟨g,l,b⟩;unfold de;simp only[θ,decide_eq_true_eq,ξ,γp];refine⟨g,λi r=>?_,λk o=>?_⟩
  ·have a:=l i r;unfold qe at a;rw[θ,δj,decide_eq_true_eq,decide_eq_true_eq] at a;unfold iM;rw[a.1,δr];by_cases e:(bp t i bD.dflt).1=2
   ·have c:=a.2.resolve_left λh=>h e;have n:=@wC t i (by omega) (by omega);rw[show((i:Int)+1).toNat=i+1 by omega,γb] at n;have p:eV (bp t i bD.dflt)=[(bp t i bD.dflt).2.2.1,(bp t i bD.dflt).2.2.2.1]:=if_pos e;rw[p] at n ⊢;have m:∀x∈[(bp t i bD.dflt).2.2.1,(bp t i bD.dflt).2.2.2.1],((i:Int)<x/\x<t.length)->x∉eZ t i:=λx y A s=>by
     have q:=b x.toNat (by omega) (by omega);rw[show((x.toNat:Nat):Int)=x by omega] at q;have u:=@VD t x (i+1) t.length (by omega) (ψ _);grind
    have z:=m _ (δh ..) ⟨c.1.1.1,c.1.2.1⟩;have v:=m (bp t i bD.dflt).2.2.2.1 (by simp) ⟨c.1.1.2,c.1.2.2⟩;simp only[rZ,θ,decide_eq_true_eq,δH];grind
   ·unfold eV;rw[if_neg e];rfl
  ·have:=b (k+1) (by omega) (by omega);grind
def MS:bL:=⟨39,List cB,.one (cV bD),λt=>∀n∈(show List cB from t),∀x∈n.2.2.2.2,gK x,λt=> .sb (de t)⟩
def afV (t:List cB):Nat->cC
 |4=> .inv Int (λi=>⟨[(0,.row bD t),(3,.si .i64 i)],[]⟩) (λs=>iS s 3)
  (λi=>0<=i/\i<=t.length/\∀j:Nat,j<i->qe t j=true) (λi=>(t.length - i).toNat) λ_ _=> .look
 |11=> .inv Int (λi=>⟨[(0,.row bD t),(4,.si .i64 i)],[]⟩) (λs=>iS s 4)
  (λi=>1<=i/\i<=t.length/\∀j:Nat,1<=j->j<i->kK t j t.length=1) (λi=>(t.length - i).toNat) λ_ _=> .look
 |_=> .look
theorem h482:Holds Tryz.prog MS:=by
 refine cq (L:=[MR,FM]) MS afV (by grind[h486,h487]) ?_;intro(t:List cB) X;refine bQ (let a:=γ0 false;let b:=(0:Int);let d:=(1:Int);let g:=Δ;let h:=γn;let k:=Ω .i64;let c:=(↑t.length:Int);let M:=decide (c<d);let Q:=decide ((65536:Int)<c);let m:=(↑t.length:Int);(M=true->(a).same (h (de t)))/\(M=false->(Q=true->(a).same (h (de t)))/\(Q=false->((((g bD t).same (g bD t)/\(γo .i64 0).same (k 0)/\True)/\True)/\b<=b/\b<=m/\∀(j:Nat),(↑j:Int)<b->qe t j=true)/\∀(x:Int),let f:=x+d;let s:=k f;let e:=bp t x.toNat bD.dflt;let p:=e.snd.snd.fst;let n:=e.snd.snd.snd.fst;let T:=bU .i64 f/\(((g bD t).same (g bD t)/\s.same s/\True)/\True)/\(b<=f/\f<=m/\∀(j:Nat),(↑j:Int)<f->qe t j=true)/\(m - f).toNat<(m - x).toNat;let G:=λ(u:Bool) ↦(!jS (e.fst,e.snd.fst,p,n,e.snd.snd.snd.snd))=u;let K:=λ(u:Bool) ↦decide (p=n)=u;let H:=λ(u:Bool) ↦decide (n<=x)=u;let I:=λ(u:Bool) ↦decide (c<=n)=u;let O:=λ(u:Bool) ↦decide (p<=x)=u;let v:=λ(u:Bool) ↦decide (c<=p)=u;let B:=λ(u:Bool) ↦decide (e.fst=(2:Int))=u;(b<=x/\x<=m/\∀(j:Nat),(↑j:Int)<x->qe t j=true)->(decide (x<c)=true->b<=x/\x<c/\x.toNat<t.length/\(∀(x:bM),x∈e.snd.snd.snd.snd->gK x)/\(G true->(a).same (h (de t)))/\(G false->b<=x/\x<c/\x.toNat<t.length/\(B true->b<=x/\x<c/\x.toNat<t.length/\(O true->(a).same (h (de t)))/\(O false->b<=x/\x<c/\x.toNat<t.length/\(H true->(a).same (h (de t)))/\(H false->b<=x/\x<c/\x.toNat<t.length/\(v true->(a).same (h (de t)))/\(v false->b<=x/\x<c/\x.toNat<t.length/\(I true->(a).same (h (de t)))/\(I false->b<=x/\x<c/\x.toNat<t.length/\b<=x/\x<c/\x.toNat<t.length/\(K true->(a).same (h (de t)))/\(K false->T))))))/\(B false->T)))/\(decide (x<c)=false->((((g bD t).same (g bD t)/\(γo .i64 1).same (k 1)/\True)/\True)/\d<=d/\d<=m/\∀(j:Nat),1<=j->(↑j:Int)<d->kK t (↑j:Int) t.length=d)/\∀(x:Int),let z:=decide (kK t x t.length≠d);let i:=x+d;let A:=k i;(d<=x/\x<=m/\∀(j:Nat),1<=j->(↑j:Int)<x->kK t (↑j:Int) t.length=d)->(decide (x<c)=true->t.length<=1000000000000/\(z=true->(a).same (h (de t)))/\(z=false->bU .i64 i/\(((g bD t).same (g bD t)/\A.same A/\True)/\True)/\(d<=i/\i<=m/\∀(j:Nat),1<=j->(↑j:Int)<i->kK t (↑j:Int) t.length=d)/\(m - i).toNat<(m - x).toNat))/\(decide (x<c)=false->(γ0 true).same (h (de t))))))) (by kernel_rfl) ?_;simp only[vcs];have C:¬de t=true->false=de t:=λh=>by
  simp_all
 have W:∀(x:Int),kK t x t.length=1↔(eZ t t.length).count x=1:=λx=>by grind[kK]
 refine⟨λh=>C λw=>?_,λh1=>⟨λh=>C λw=>?_,λh2=>⟨⟨by omega,by omega,λj V=>by omega⟩,?_⟩⟩⟩;·grind[Bv]
 ·grind[Bv]
 rintro x ⟨q,Z,S⟩;refine⟨λl=>?_,λl=>⟨⟨by omega,by omega,λj a b=>by omega⟩,?_⟩⟩
 ·have U:=dn (d:=bD.dflt) (show x.toNat<t.length by omega);have P:=X _ U;have R:qe t x.toNat=(jS (bp t x.toNat bD.dflt)&&(decide ((bp t x.toNat bD.dflt).1≠2)||decide (((x<(bp t x.toNat bD.dflt).2.2.1/\x<(bp t x.toNat bD.dflt).2.2.2.1)/\(bp t x.toNat bD.dflt).2.2.1<t.length/\(bp t x.toNat bD.dflt).2.2.2.1<t.length)/\(bp t x.toNat bD.dflt).2.2.1≠(bp t x.toNat bD.dflt).2.2.2.1))):=by
   grind[qe]
  have E:qe t x.toNat=true->∀j:Nat,(j:Int)<x+1->qe t j=true:=λh j V=>by
   grind
  have r:¬qe t x.toNat=true->false=de t:=λh=>C λw=>h ((Bv.1 w).2.1 x.toNat (by omega));generalize bp t x.toNat bD.dflt=N at*;obtain⟨k,o,a,b,y⟩:=N;simp only at R P ⊢;rw[R,θ,δj,decide_eq_true_eq,decide_eq_true_eq] at E r;refine⟨q,l,by omega,P,λD=>r λh=>?_,λD=>⟨q,l,by omega,λF=>⟨q,l,by omega,λh=>r λg=>?_,λq1=>⟨q,l,by omega,λh=>r λg=>?_,λq2=>⟨q,l,by omega,λh=>r λg=>?_,λq3=>⟨q,l,by omega,λh=>r λg=>?_,λq4=>⟨q,l,by omega,q,l,by omega,λh=>r λg=>?_,λY=>⟨by omega,⟨by omega,by omega,E ⟨D,.inr ⟨⟨⟨by omega,by omega⟩,by omega,by omega⟩,Y⟩⟩⟩,by omega⟩⟩⟩⟩⟩⟩,λF=>⟨by omega,⟨by omega,by omega,E ⟨D,.inl F⟩⟩,by omega⟩⟩⟩;all_goals grind
 rintro x ⟨q,Z,J⟩;refine⟨λl=>⟨by omega,λh=>C λw=>?_,λh=>⟨by omega,⟨by omega,by omega,λj a b=>?_⟩,by omega⟩⟩,λl=>?_⟩
 ·have:=(Bv.1 w).2.2 x.toNat (by omega) (by omega);grind
 ·grind
 grind[Bv]
def MU:bL:=⟨65,List Int,.one (cV (.i .i64)),λf=>(show List Int from f).length<=1000000,λf=> .row (.i .i64) (bE f 1)⟩
def afW (f:List Int):Nat->cC
 |3=> .inv Int (λi=>⟨[(0,.row (.i .i64) f),(3,.ow 0 (bE (f.take i.toNat) 1).length 1),(4,.si .i64 i)],[.row (.i .i64) (bE (f.take i.toNat) 1) 3 true]⟩)
   (λs=>iS s 4) (λi=>0<=i/\i<=f.length) (λi=>(f.length - i).toNat) λ_ _=> .look
 |_=> .look
theorem h488:Holds Tryz.prog MU:=by
 refine cq (L:=[]) MU afW (by simp) ?_;intro(f:List Int) (w:f.length<=1000000);refine bQ (let d:=(1:Int);let g:=(0:Int);let j:=bA.row;let k:=Δ;let r:=γz;let a:=bw.i .i64;let e:=(↑f.length:Int);((((k a f).same (k a f)/\(r 0 0 1).same (r 0 (bE [] d).length 1)/\(γo .i64 0).same (Ω .i64 0)/\True)/\(j a [] 3 true).same (j a (bE [] d) 3 true)/\True)/\g<=g/\g<=e)/\∀(x:Int),let c:=x+d;let n:=bE (τ c.toNat f) d;let l:=Ω .i64 c;let q:=decide (x<(↑f.length:Int));let p:=decide (bp f x.toNat g=d);let b:=bE (τ x.toNat f) d;let m:=b.length+1;let o:=λ(u:Nat) (h:bA) ↦bU .i64 c/\(((k a f).same (k a f)/\(r 0 u 1).same (r 0 n.length 1)/\l.same l/\True)/\h.same (j a n 3 true)/\True)/\(g<=c/\c<=e)/\(e - c).toNat<(e - x).toNat;g<=x/\x<=e->(q=true->g<=x/\x<(↑f.length:Int)/\x.toNat<f.length/\(p=true->b.length=b.length/\m*8<=140737488355328/\m<=1000000000000/\o (b++[x]).length (j a (b++[x]) 3 true))/\(p=false->o b.length (j a b 3 true)))/\(q=false->b.length=b.length/\(k a b).same (k a (bE f d)))) (by kernel_rfl) ?_;simp only[vcs];have j:∀{x y:Nat},x=y->(γz 0 x 1).same (γz 0 y 1):=by rintro _ _ rfl;rfl
 have g:∀{x y:List Int},x=y->(bA.row (.i .i64) x 3 true).same (bA.row (.i .i64) y 3 true):=by rintro _ _ rfl;rfl
 refine⟨⟨⟨j rfl,g rfl⟩,by omega,by omega⟩,?_⟩;rintro i ⟨r,v⟩;have s:=@rQ (f.take i.toNat) 1;rw[List.length_take] at s;refine⟨λk=>?_,λk=>?_⟩
 ·have t:=yF (d:=1) r k;grind
 grind
def MV:bL:=⟨66,bz×List Int×List bM,.cons dO (.cons (cV (.i .i64)) (.one (cV sF))),λa=>qU a.1 a.2.1 a.2.2,λa=> .bN [Vn a.1 a.2.1 a.2.2,.si .i64 (if posB a.2.2=true then 0 else 4)]⟩
def FN (p:bz) (q:Rat) (a:List bM):cu:=[.cells p.ss 27 20 false,.cells [.bl false,.sc (.slice none 0 0),.sc (.slice none 0 0)] 126 3 false,.cells [.sb (bu q).1,.row (.i .u32) (bu q).2.1,.row (.i .u32) (bu q).2.2] 126 3 false,.row sF a 126 false]
noncomputable def afX (p:bz) (f:List Int) (x:List bM):Nat->cC
 |8=> .inv Int (λi=>⟨[(1,.row (.i .i64) f),(2,.row sF x),(3,.ptr 0 0 20),(6,.ptr 1 0 3),(9,.si .i64 (cE p)),(10,.si .i64 i)],[.cells p.ss 27 20 false,.cells [.bl false,.sc (.slice none 0 0),.sc (.slice none 0 0)] 126 3 false]⟩)
   (λs=>iS s 10) (λi=>0<=i/\i<=cE p/\posB (x.take i.toNat)=true) (λi=>(cE p - i).toNat) λ_ _=> .look
 |17=> .inv Int (λi=>⟨[(1,.row (.i .i64) f),(2,.row sF x),(3,.ptr 0 0 20),(6,.ptr 1 0 3),(9,.si .i64 (cE p)),(11,.ptr 2 0 3),(12,.ow 3 (oD p i.toNat).length 3),(13,.si .i64 i)],FN p ((fj p (f.take i.toNat):Int):Rat) (oD p i.toNat)⟩)
   (λs=>iS s 13) (λi=>0<=i/\i<=f.length) (λi=>(f.length - i).toNat) λ_ _=> .look
 |23=> .inv Int (λr=>⟨[(1,.row (.i .i64) f),(2,.row sF x),(3,.ptr 0 0 20),(6,.ptr 1 0 3),(9,.si .i64 (cE p)),(11,.ptr 2 0 3),(12,.ow 3 (jQ p (vL x) r.toNat 0).length 3),(14,.si .i64 r)],FN p (iZ p f (vL x) r.toNat) (jQ p (vL x) r.toNat 0)⟩)
   (λs=>iS s 14) (λr=>0<=r/\r<=cE p) (λr=>(cE p - r).toNat) λr k=>match k with
   |27=> .inv Int (λk=>⟨[(1,.row (.i .i64) f),(2,.row sF x),(3,.ptr 0 0 20),(6,.ptr 1 0 3),(9,.si .i64 (cE p)),(11,.ptr 2 0 3),(12,.ow 3 (jQ p (vL x) r.toNat k.toNat).length 3),(14,.si .i64 r),(15,.row (.i .i64) (eM p r p.offers.length)),(16,.si .i64 (kZ p f r k.toNat)),(17,.si .i64 k)],FN p (iZ p f (vL x) r.toNat) (jQ p (vL x) r.toNat k.toNat)⟩)
     (λs=>iS s 17) (λk=>0<=k/\k<=f.length) (λk=>(f.length - k).toNat) λ_ _=> .look
   |_=> .look
 |34=> .inv Int (λi=>⟨[(1,.row (.i .i64) f),(6,.ptr 1 0 3),(11,.ptr 2 0 3),(12,.ow 3 (jQ p (vL x) (mF p) 0).length 3),(18,.si .i64 i)],FN p (fY p f (vL x) i.toNat) (jQ p (vL x) (mF p) 0)⟩)
   (λs=>iS s 18) (λi=>0<=i/\i<=f.length) (λi=>(f.length - i).toNat) λ_ _=> .look
 |_=> .look
theorem h449g:Holds Tryz.prog MV:=by
 refine cq (L:=[Lq,Bl,Eh,Ed,Az,Ln,Lm,Ee,Ef]) MV (λa=>afX a.1 a.2.1 a.2.2) (by simpa using⟨h453,h454,h93,h51,h52,h455,h456,h108,h48⟩) ?_;rintro⟨p,f,x⟩ ⟨⟨hc,hl,hr⟩,y,hx,hyl,hy⟩;simp only at hc hl hr hx hyl hy;refine bQ (let a:=Δ;let c:=Ω .i64;let d:=(0:Int);let e:=bA.cells;let g:=(-9223372036854775808:Int);let h:=(9223372036854775807:Int);let j:=bA.row;let k:=γn;let l:=bU .i64;let m:=γz;let n:=(1:Int);let o:=γo .i64;let q:=SV.bN;let r:=sF.dflt;let s:=γ0 false;let t:=γU;let v:=SV.agg;let y:=bw.i .i64;let ac:=v [s,a y [],a y []];let ad:=bu (fY p f (vL x) f.length);let w:=bw.i .u32;let a8:=q [v [k (if posB x=true then ad.fst else false),a w (if posB x=true then ad.snd.fst else[]),a w (if posB x=true then ad.snd.snd else[])],c (if posB x=true then d else(4:Int))];let S:=(↑x.length:Int);let ae:=if bH p=d then cE p else d;let E:=t 0 0 20;let z:=t 1 0 3;let G:=c (cE p);let T:=o 0;let A:=e [c p.supply.a0,c p.supply.a1,c p.supply.a2,c p.supply.a3,c p.supply.a4,c p.supply.a5,c p.opn.a0,c p.opn.a1,c p.opn.a2,c p.opn.a3,c p.opn.a4,c p.opn.a5,c p.cls.a0,c p.cls.a1,c p.cls.a2,c p.cls.a3,c p.cls.a4,c p.cls.a5,a y p.classes,a bw.off p.offers] 27 20 false;let aF:=SV.sc (Value.slice none 0 0);let B:=e [s,aF,aF] 126 3 false;let C:=t 2 0 3;let af:=bu (ζ d);let ag:=bu (ζ (fj p []));let ah:=bw.b.pair (w.bP.pair w.bP);let D:=(↑f.length:Int);let aG:=jQ p (vL x) 0 0;let ai:=bu (iZ p f (vL x) 0);let L:=jQ p (vL x) (mF p) 0;let Y:=m 3 L.length 3;let bi:=bu (fY p f (vL x) 0);let Z:=j sF L 126 false;let M:=L.length;let aH:=λ(u u_1:Int) (u_2:SV) ↦decide (u≠u_1)=true->(q [ac,u_2]).same a8;f.length<=1000000000000/\aH (fz p f) d (c (fz p f))/\(decide (fz p f≠d)=false->True/\aH S ae (o 3)/\(decide (S≠ae)=false->((((a y f).same (a y f)/\(a sF x).same (a sF x)/\E.same E/\z.same z/\(c ae).same G/\T.same (c 0)/\True)/\A.same A/\B.same B/\True)/\d<=d/\d<=cE p/\posB []=true)/\∀(x_1:Int),let I:=bp x x_1.toNat r;let aI:=decide (x_1<cE p);let U:=x_1+n;let aJ:=c U;let aK:=λ(u:Bool) ↦(!okF (I.fst,I.snd.fst,I.snd.snd))=u;d<=x_1/\x_1<=cE p/\posB (τ x_1.toNat x)=true->(aI=true->d<=x_1/\x_1<S/\x_1.toNat<x.length/\((bB I.snd.fst/\bB I.snd.snd)/\Φ I.snd.fst<=10000000/\Φ I.snd.snd<=10000000)/\(aK true->(q [ac,o 2]).same a8)/\(aK false->d<=x_1/\x_1<S/\x_1.toNat<x.length/\(I.fst=true->(q [ac,o 4]).same a8)/\(I.fst=false->l U/\(((a y f).same (a y f)/\(a sF x).same (a sF x)/\E.same E/\z.same z/\G.same G/\aJ.same aJ/\True)/\A.same A/\B.same B/\True)/\(d<=U/\U<=cE p/\posB (τ U.toNat x)=true)/\(cE p - U).toNat<(cE p - x_1).toNat)))/\(aI=false->(g<=d/\d<=h)/\((((a y f).same (a y f)/\(a sF x).same (a sF x)/\E.same E/\z.same z/\G.same G/\C.same C/\(m 3 0 3).same (m 3 (oD p 0).length 3)/\T.same (c 0)/\True)/\A.same A/\B.same B/\(e [k af.fst,a w af.snd.fst,a w af.snd.snd] 126 3 false).same (e [k ag.fst,a w ag.snd.fst,a w ag.snd.snd] 126 3 false)/\(j ah [] 126 false).same (j sF (oD p 0) 126 false)/\True)/\d<=d/\d<=D)/\∀(x_2:Int),let V:=oD p x_2.toNat;let aj:=(bp p.offers x_2.toNat bw.off.dflt).value;let ak:=bu (ζ aj);let al:=V++[(ak.fst,ak.snd.fst,ak.snd.snd)];let a6:=al.length;let N:=x_2+n;let aL:=c N;let am:=bu (ζ (fj p (τ N.toNat f)));let J:=(↑f.length:Int);let aM:=V.length+1;let aN:=decide (bp f x_2.toNat d=n);let O:=bu (ζ (fj p (τ x_2.toNat f)));let aO:=(O.fst,O.snd.fst,O.snd.snd);let an:=bp al x_2.toNat ah.dflt;let aP:=(an.fst,an.snd.fst,an.snd.snd);let ao:=bu (bK aO+bK aP);let aQ:=a w O.snd.fst;let aR:=a w O.snd.snd;let aS:=a6=a6;let bj:=(a y f).same (a y f)/\(a sF x).same (a sF x)/\E.same E/\z.same z/\G.same G/\C.same C/\(m 3 a6 3).same (m 3 (oD p N.toNat).length 3)/\aL.same aL/\True;let bk:=(j ah al 126 false).same (j sF (oD p N.toNat) 126 false)/\True;let aT:=λ(u u_1 u_2:SV) ↦l N/\(bj/\A.same A/\B.same B/\(e [u,u_1,u_2] 126 3 false).same (e [k am.fst,a w am.snd.fst,a w am.snd.snd] 126 3 false)/\bk)/\(d<=N/\N<=D)/\(D - N).toNat<(D - x_2).toNat;d<=x_2/\x_2<=D->(decide (x_2<J)=true->d<=x_2/\x_2<(↑p.offers.length:Int)/\x_2.toNat<p.offers.length/\(g<=aj/\aj<=h)/\V.length=V.length/\aM*56<=140737488355328/\aM<=1000000000000/\d<=x_2/\x_2<J/\x_2.toNat<f.length/\(aN=true->aS/\d<=x_2/\x_2<(↑a6:Int)/\aS/\x_2.toNat<a6/\(eW aO/\eW aP)/\aT (k ao.fst) (a w ao.snd.fst) (a w ao.snd.snd))/\(aN=false->aT (k O.fst) aQ aR))/\(decide (x_2<J)=false->((((a y f).same (a y f)/\(a sF x).same (a sF x)/\E.same E/\z.same z/\G.same G/\C.same C/\(m 3 V.length 3).same (m 3 aG.length 3)/\T.same (c 0)/\True)/\A.same A/\B.same B/\(e [k O.fst,aQ,aR] 126 3 false).same (e [k ai.fst,a w ai.snd.fst,a w ai.snd.snd] 126 3 false)/\(j sF V 126 false).same (j sF aG 126 false)/\True)/\d<=d/\d<=cE p)/\∀(x_3:Int),let P:=bu (iZ p f (vL x) x_3.toNat);let ap:=e [k P.fst,a w P.snd.fst,a w P.snd.snd] 126 3 false;let aU:=jQ p (vL x) x_3.toNat 0;let aV:=j sF aU 126 false;let aW:=decide (x_3<cE p);let aq:=m 3 aU.length 3;let K:=eM p x_3 p.offers.length;let ar:=bp x x_3.toNat r;let a9:=(ar.fst,ar.snd.fst,ar.snd.snd);let aX:=(P.fst,P.snd.fst,P.snd.snd);let Q:=x_3+n;let aY:=jQ p (vL x) Q.toNat 0;let aZ:=c Q;let au:=bu (iZ p f (vL x) Q.toNat);let b0:=λ(u:bM) (u_1:bA) ↦A.same A/\B.same B/\ap.same (e [k u.fst,a w u.snd.fst,a w u.snd.snd] 126 3 false)/\aV.same u_1/\True;d<=x_3/\x_3<=cE p->(aW=true->(bH p=d/\d<=x_3/\x_3<cE p)/\((((a y f).same (a y f)/\(a sF x).same (a sF x)/\E.same E/\z.same z/\G.same G/\C.same C/\aq.same aq/\(c x_3).same (c x_3)/\(a y K).same (a y K)/\(c (di p x_3)).same (c (kZ p f x_3 0))/\T.same (c 0)/\True)/\b0 P aV)/\d<=d/\d<=D)/\∀(eA:Int),let F:=jQ p (vL x) x_3.toNat eA.toNat;let av:=bp F eA.toNat r;let b1:=(av.fst,av.snd.fst,av.snd.snd);let a7:=bp K eA.toNat d;let aw:=bu (ζ a7);let b2:=(aw.fst,aw.snd.fst,aw.snd.snd);let ax:=bu (bK a9*bK b2);let b3:=(ax.fst,ax.snd.fst,ax.snd.snd);let ay:=bu (bK b1 - bK b3);let R:=eA+n;let b4:=jQ p (vL x) x_3.toNat R.toNat;let b5:=m 3 F.length 3;let b6:=c x_3;let b7:=c R;let b8:=decide (bp f eA.toNat d=n);let W:=kZ p f x_3 eA.toNat;let az:=bu (ζ W);let b9:=(az.fst,az.snd.fst,az.snd.snd);let aA:=bu (bK a9*bK b9);let ba:=(aA.fst,aA.snd.fst,aA.snd.snd);let aB:=bu (bK aX+bK ba);let bm:=A.same A/\B.same B/\ap.same ap/\(j sF (F.set eA.toNat (ay.fst,ay.snd.fst,ay.snd.snd)) 126 false).same (j sF b4 126 false)/\True;let bn:=eW b1/\eW b3;let bo:=eW a9/\eW b2;let bb:=λ(u:Int) ↦F.length=F.length/\d<=eA/\eA<(↑F.length:Int)/\F.length=F.length/\eA.toNat<F.length/\d<=x_3/\x_3<S/\x_3.toNat<x.length/\d<=eA/\eA<(↑K.length:Int)/\eA.toNat<K.length/\(g<=a7/\a7<=h)/\bo/\bn/\F.length=F.length/\d<=eA/\eA<(↑F.length:Int)/\F.length=F.length/\eA.toNat<F.length/\l R/\(((a y f).same (a y f)/\(a sF x).same (a sF x)/\E.same E/\z.same z/\G.same G/\C.same C/\b5.same (m 3 b4.length 3)/\b6.same b6/\(a y K).same (a y K)/\(c u).same (c (kZ p f x_3 R.toNat))/\b7.same b7/\True)/\bm)/\(d<=R/\R<=D)/\(D - R).toNat<(D - eA).toNat;d<=eA/\eA<=D->(decide (eA<J)=true->d<=eA/\eA<J/\eA.toNat<f.length/\(b8=true->d<=eA/\eA<(↑K.length:Int)/\eA.toNat<K.length/\l (W - a7)/\bb (W - a7))/\(b8=false->bb W))/\(decide (eA<J)=false->d<=x_3/\x_3<S/\x_3.toNat<x.length/\(g<=W/\W<=h)/\(eW a9/\eW b9)/\(eW aX/\eW ba)/\l Q/\(((a y f).same (a y f)/\(a sF x).same (a sF x)/\E.same E/\z.same z/\G.same G/\C.same C/\b5.same (m 3 aY.length 3)/\aZ.same aZ/\True)/\A.same A/\B.same B/\(e [k aB.fst,a w aB.snd.fst,a w aB.snd.snd] 126 3 false).same (e [k au.fst,a w au.snd.fst,a w au.snd.snd] 126 3 false)/\(j sF F 126 false).same (j sF aY 126 false)/\True)/\(d<=Q/\Q<=cE p)/\(cE p - Q).toNat<(cE p - x_3).toNat))/\(aW=false->((((a y f).same (a y f)/\z.same z/\C.same C/\aq.same Y/\T.same (c 0)/\True)/\b0 bi Z)/\d<=d/\d<=D)/\∀(eA:Int),let H:=eA+n;let aa:=c H;let X:=bu (fY p f (vL x) eA.toNat);let bc:=[k X.fst,a w X.snd.fst,a w X.snd.snd];let aC:=bu (fY p f (vL x) H.toNat);let bd:=e [k aC.fst,a w aC.snd.fst,a w aC.snd.snd] 126 3 false;let aD:=bp L eA.toNat r;let ab:=(aD.fst,aD.snd.fst,aD.snd.snd);let be:=decide (bp f eA.toNat d=d);let bf:=(X.fst,X.snd.fst,X.snd.snd);let aE:=bu (bK bf+bK ab);let bg:=l H/\(((a y f).same (a y f)/\z.same z/\C.same C/\Y.same Y/\aa.same aa/\True)/\A.same A/\B.same B/\(e bc 126 3 false).same bd/\Z.same Z/\True)/\(d<=H/\H<=D)/\(D - H).toNat<(D - eA).toNat;let bh:=λ(u:Bool) ↦decide (d<gG (bK ab))=u;d<=eA/\eA<=D->(decide (eA<J)=true->d<=eA/\eA<J/\eA.toNat<f.length/\(be=true->L.length=M/\d<=eA/\eA<(↑M:Int)/\L.length=M/\eA.toNat<M/\cF ab/\(bh true->L.length=M/\d<=eA/\eA<(↑M:Int)/\L.length=M/\eA.toNat<M/\(eW bf/\eW ab)/\l H/\(((a y f).same (a y f)/\z.same z/\C.same C/\Y.same Y/\aa.same aa/\True)/\A.same A/\B.same B/\(e [k aE.fst,a w aE.snd.fst,a w aE.snd.snd] 126 3 false).same bd/\Z.same Z/\True)/\(d<=H/\H<=D)/\(D - H).toNat<(D - eA).toNat)/\(bh false->bg))/\(be=false->bg))/\(decide (eA<J)=false->(q [v bc,T]).same a8))))))) (by kernel_rfl) ?_;simp only[vcs];have hgo:=dR hc;have h160:=hgo.2.1;have hfe:fz p f=0:=by simp[fz,hc,hl,hr]
 have hnr:cE p=mF p:=by unfold cE mF;omega
 have hxl:x.length=mF p:=by rw[hx,fy,hyl]
 have hvl:vL x=y:=by rw[hx,jY]
 have agP:mF p<=20:=by have:=hgo.1;unfold mF;omega
 have hxn:∀r:Int,0<=r->r<mF p->bp x r.toNat sF.dflt=bu (bp y r.toNat 0):=λr h0 h1=>by rw[hx];exact jj (by rw[hyl];omega)
 have td:∀{q q':Rat},q=q'->(bA.cells [.sb (bu q).1,.row (.i .u32) (bu q).2.1,.row (.i .u32) (bu q).2.2] 126 3 false).same (bA.cells [.sb (bu q').1,.row (.i .u32) (bu q').2.1,.row (.i .u32) (bu q').2.2] 126 3 false):=by rintro _ _ rfl;rfl
 have uK:∀{a b:List bM},a=b->(bA.row sF a 126 false).same (bA.row sF b 126 false):=by rintro _ _ rfl;rfl
 have uL:∀{a b:Nat},a=b->(γz 3 a 3).same (γz 3 b 3):=by rintro _ _ rfl;rfl
 have hval:∀i:Int,(bp p.offers i.toNat bw.off.dflt).value=(oI p i).value:=λi=>rfl;rw[if_pos hc,hnr,hvl];simp only[ji,dU,hval,Nat.zero_add,List.drop_zero,χ,ψ,true_and];refine⟨by omega,λh=>absurd hfe h,λ_=>⟨λh=>absurd (by rw[hxl]) h,λ_=>⟨⟨by omega,by omega,by rfl⟩,?_⟩⟩⟩;rintro i ⟨i0,i1,hall⟩;have et:=λh=>jN (d:=sF.dflt) (l:=x) i0 h;refine⟨λhi=>?_,λhge=>?_⟩
 ·have hys:=Fv hy (k:=i.toNat) (by omega);have hm:=dn (d:=sF.dflt) (show i.toNat<x.length by omega);have et:=et (by omega);have hok:=Bg (bp y i.toNat 0);obtain⟨s1,⟨u1,u2,u3⟩,⟨u4,u5,u6⟩⟩:=jg (bp y i.toNat 0);obtain⟨m1,m2⟩:=lM hys;rw[hxn i i0 hi] at hm et ⊢;refine⟨i0,by omega,by omega,⟨⟨u1,u4⟩,by omega,by omega⟩,(λh=>by rw[hok] at h;cases h),λ_=>⟨i0,by omega,by omega,λh=>?_,λh=>⟨by omega,⟨by omega,by omega,?_⟩,by omega⟩⟩⟩
  ·have hp:posB x=false:=by
    rw[δo];intro ha;have:=ξ.1 ha _ hm;rw[h] at this;cases this
   simp only[hp,Γ,if_false];first|exact rfl|exact⟨rfl,rfl⟩|exact⟨rfl,trivial⟩|(unfold SV.same;exact⟨rfl,rfl⟩)
  ·unfold posB at hall ⊢;rw[et,ζx,hall];simp[h]
 have hpos:posB x=true:=by rwa [show i.toNat=x.length by omega,χ] at hall
 simp only[hpos,if_true];refine⟨by omega,⟨⟨uL rfl,td (by simp[fj,bE,dL,cK]),uK rfl⟩,by omega,by omega⟩,?_⟩;rintro i ⟨i0,i1⟩;have hal:=@Bm p i.toNat;have hab:=@yG p hc f i.toNat hl;refine⟨λhi=>?_,λhi=>?_⟩
 ·have ho:=kC hc (i:=i) ⟨i0,by omega⟩;have afY:=@Bm p (i+1).toNat;have hs:=@KH p f i i0 hi;rw[aeO i0,UX (show i.toNat<(i+1).toNat by omega),afY,hal,show((i.toNat:Nat):Int)=i by omega];have g1:eW (bu (ζ (fj p (f.take i.toNat)))):=mE (lN (W:=fj p (f.take i.toNat)) (by omega) (by omega)) (by omega);have g2:eW (bu (ζ (oI p i).value)):=mE (lN (W:=(oI p i).value) (by omega) (by omega)) (by omega);refine⟨i0,by omega,by omega,by omega,by omega,by omega,i0,hi,by omega,λh1=>?_,λh1=>?_⟩
  ·rw[if_pos h1] at hs;refine⟨i0,by omega,by omega,⟨g1,g2⟩,by omega,⟨uL rfl,td ?_,uK rfl⟩,by omega,by omega⟩;rw[hs,dU];exact(Rat.intCast_add _ _).symm
  ·rw[if_neg h1] at hs;refine⟨by omega,⟨uL rfl,td ?_,uK rfl⟩,by omega,by omega⟩;rw[hs];simp
 rw[show i.toNat=f.length by omega,χ,hl];refine⟨⟨⟨uL (by rw[Bm,pz]),td UY.symm,uK aeR⟩,by omega,by omega⟩,?_⟩;rintro r ⟨r0,r1⟩;refine⟨λhr1=>?_,λhr1=>?_⟩
 ·refine⟨⟨hc,r0,by omega⟩,⟨U0.symm,by omega,by omega⟩,?_⟩;have hys:=Fv hy (k:=r.toNat) (by omega);have hx1:=hxn r r0 (by omega);have gy:eW (bu (bp y r.toNat 0)):=mE hys (by omega);rintro k ⟨k0,k1⟩;have hbd:=@Lu p f r k.toNat hc hl;have hel:=@pz p y r.toNat k.toNat;have hrl:=@Lt p r;refine⟨λhk=>?_,λhk=>?_⟩
  ·have ho:=kC hc (i:=k) ⟨k0,by omega⟩;have hcb:=@o6 p r _ ho.2.2.1;have hrn:=@UZ p r k ⟨k0,by omega⟩;have hen:=@yQ p y r.toNat k.toNat k.toNat (by omega) sF.dflt;rw[if_neg (by omega),show((k.toNat:Nat):Int)=k by omega] at hen;have hbs:=@U1 p f r k k0 (by omega);have gx:eW (bu (gi p y r.toNat k)):=mE (Br hc hy (by omega) ⟨k0,by omega⟩) (by omega);have gc:eW (bu (ζ (dW p r (oI p k)))):=mE (lN (W:=dW p r (oI p k)) (by omega) (by omega)) (by omega);have gm:eW (bu (bp y r.toNat 0*ζ (dW p r (oI p k)))):=mE (rO hys (lN (W:=dW p r (oI p k)) (by omega) (by omega))) (by omega);have hset:=@aeP p y r.toNat k k0 (by omega);rw[E9,show((r.toNat:Nat):Int)=r by omega] at hset;rw[hx1,hrn,hen];simp only[dU];have afZ:(jQ p y r.toNat k.toNat).set k.toNat (bu (gi p y r.toNat k - bp y r.toNat 0*ζ (dW p r (oI p k))))=jQ p y r.toNat (k+1).toNat:=hset;rw[afZ];have af0:=@pz p y r.toNat (k+1).toNat;refine⟨k0,by omega,by omega,λh1=>?_,λh1=>?_⟩
   ·rw[if_pos h1] at hbs;exact⟨k0,by omega,by omega,by omega,k0,by omega,by omega,r0,by omega,by omega,k0,by omega,by omega,by omega,⟨gy,gc⟩,⟨gx,gm⟩,k0,by omega,by omega,by omega,⟨⟨uL (by omega),by omega⟩,uK rfl⟩,by omega,by omega⟩
   ·rw[if_neg h1] at hbs;exact⟨k0,by omega,by omega,r0,by omega,by omega,k0,by omega,by omega,by omega,⟨gy,gc⟩,⟨gx,gm⟩,k0,by omega,by omega,by omega,⟨⟨uL (by omega),by omega⟩,uK rfl⟩,by omega,by omega⟩
  ·have hk2:k.toNat=f.length:=by omega
   rw[hx1,hk2,Fa];rw[hk2,Fa] at hbd;have af0:=@pz p y (r+1).toNat 0;have hrt:(r+1).toNat=r.toNat+1:=by omega
   have gb:eW (bu (ζ (di p r - cT p ((bE f 1).map (oI p)) r))):=mE (lN (W:=di p r - cT p ((bE f 1).map (oI p)) r) (by omega) (by omega)) (by omega);have gs:eW (bu (iZ p f y r.toNat)):=mE (Vm hc hl hy (by omega)) (by omega);have gm:eW (bu (bp y r.toNat 0*ζ (di p r - cT p ((bE f 1).map (oI p)) r))):=mE (rO hys (lN (W:=di p r - cT p ((bE f 1).map (oI p)) r) (by omega) (by omega))) (by omega);simp only[dU];have hrr:((r.toNat:Nat):Int)=r:=by omega
   refine⟨r0,by omega,by omega,by omega,⟨gy,gb⟩,⟨gs,gm⟩,by omega,⟨uL ?_,td ?_,uK ?_⟩,by omega,by omega⟩;·rw[pz,pz]
   ·rw[hrt,Ls,hrr]
   ·rw[hrt,hl];exact aeQ
 ·have hr2:r.toNat=mF p:=by omega
  rw[hr2];have hel:=@pz p y (mF p) 0;refine⟨⟨⟨uL rfl,td Mc.symm,uK rfl⟩,by omega,by omega⟩,?_⟩;rintro i ⟨i0,i1⟩;refine⟨λhi=>?_,λhi=>?_⟩
  ·have hen:=@yQ p y (mF p) 0 i.toNat (by omega) sF.dflt;rw[if_neg (by omega),show((i.toNat:Nat):Int)=i by omega] at hen;rw[hen];simp only[dU];have gx:cF (bu (gi p y (mF p) i)):=dP (Br hc hy (ψ _) ⟨i0,by omega⟩) (by omega);have hs:=@Me p f y i i0;have gx2:eW (bu (gi p y (mF p) i)):=mE (Br hc hy (ψ _) ⟨i0,by omega⟩) (by omega);have gs:eW (bu (fY p f y i.toNat)):=mE (FA hc hl hy (by omega)) (by omega);refine⟨i0,by omega,by omega,λh0=>⟨i0,by omega,by omega,gx,λh1=>⟨i0,by omega,by omega,⟨gs,gx2⟩,by omega,td ?_,by omega,by omega⟩,λh1=>⟨by omega,td ?_,by omega,by omega⟩⟩,λh0=>⟨by omega,td ?_,by omega,by omega⟩⟩;·rw[hs,if_pos ⟨h0,rP.1 h1⟩]
   ·rw[hs,if_neg (λh=>h1 (rP.2 h.2))];exact(εN _).symm
   ·rw[hs,if_neg (λh=>h0 h.1)];exact(εN _).symm
  ·rw[show i.toNat=p.offers.length by omega];first|exact rfl|exact⟨rfl,rfl⟩|exact⟨rfl,trivial⟩
theorem VG {t:List cB} {x:Int} {r:Nat}:∀{n:Nat},(∀q,q<n->x∈eV (bp t q bD.dflt)->q=r)->r<n->x∈eV (bp t r bD.dflt)->oJ t x n=r
 |0,_,h,_=>by omega;|n+1,a,d,b=>by
  unfold oJ;split;·simp_all
  ·rename_i h;by_cases e:r=n;·simp_all
   ·exact VG (λq c=>a q (by omega)) (by omega) b
theorem af4 {t:List cB} (b:de t=true) {q r:Nat} {x:Int} (e:q<t.length) (d:r<t.length) (a:x∈eV (bp t q bD.dflt)) (c:x∈eV (bp t r bD.dflt)):q=r:=by
 rcases Nat.lt_trichotomy q r with h|h|h;·exact absurd ((wE (by omega)).2 ⟨q,h,a⟩) (tc b d x c).2
 ·exact h
 ·exact absurd ((wE (by omega)).2 ⟨r,h,c⟩) (tc b e x a).2
theorem af5 {t:List cB} (b:de t=true) {i:Nat} (h:i<=t.length) {k:Int} (s:0<k) (u:k<=i) (p:k<t.length):
  ∃q:Nat,((q:Int)<k/\q<t.length)/\oJ t k t.length=q/\bp (eD t i) k.toNat (0,false)=((q:Int),!decide ((bp t q bD.dflt).2.2.1=k)):=by
 have e:=(Bt b).2.2 (k.toNat - 1) (by omega);rw[show(((k.toNat - 1:Nat)):Int)+1=k by omega] at e;obtain⟨q,a,c⟩:=(wE (ψ _)).1 e;have m:=tc b a k c;obtain⟨f,g⟩:=afB c;refine⟨q,⟨m.1.1,a⟩,VG (λr l d=>af4 b l a d c) a c,?_⟩;obtain⟨n,o⟩:=FH b a f (j:=i) (by omega) h;grind[decide_eq_false]
def MW:bL:=⟨42,bz×List cB×Int,.cons dO (.cons (cV bD) (.one (ef .i64))),λa=>(bH a.1=0/\de a.2.1=true)/\0<=a.2.2/\a.2.2<a.2.1.length,λa=> .row (.i .i64) (fa a.1 a.2.1 a.2.2.toNat)⟩
def af6 (p:bz) (t:List cB) (i:Int):Nat->cC
 |2=> .inv (Int×List Int) (λx=>⟨[(1,.row bD t),(2,.si .i64 x.1),(7,.ow 1 p.offers.length 1)],[.cells p.ss 27 20 false,.row (.i .i64) x.2 3 true]⟩)
   (λs=>(iS s 2,oS (.i .i64) s 1)) (λx=>(0<=x.1/\x.1<=i)/\x.2.length=p.offers.length/\fN t (eD t i.toNat) x.1.toNat x.1 x.2=fa p t i.toNat) (λx=>x.1.toNat) λ_ _=> .look
 |_=> .look
theorem h484:Holds Tryz.prog MW:=by
 refine cq (L:=[FM]) MW (λa=>af6 a.1 a.2.1 a.2.2) (by grind[h487]) ?_;rintro⟨p,t,i⟩ ⟨⟨(hc:bH p=0),(M:de t=true)⟩,(S:0<=i),(a6:i<t.length)⟩;refine bQ (let a:=Ω .i64;let b:=(0:Int);let d:=Δ;let e:=bA.row;let A:=(↑p.offers.length:Int);let n:=p.offers.length;let K:=γz 1 n 1;let D:=bw.i .i64;let C:=bA.cells [a p.supply.a0,a p.supply.a1,a p.supply.a2,a p.supply.a3,a p.supply.a4,a p.supply.a5,a p.opn.a0,a p.opn.a1,a p.opn.a2,a p.opn.a3,a p.opn.a4,a p.opn.a5,a p.cls.a0,a p.cls.a1,a p.cls.a2,a p.cls.a3,a p.cls.a4,a p.cls.a5,d D p.classes,d bw.off p.offers] 27 20 false;let T:=δ A.toNat b;let Y:=e D T 3 true;let P:=eD t i.toNat;let I:=fa p t i.toNat;b<=A/\A<=A/\A*(8:Int)<=(140737488355328:Int)/\A<=(1000000000000:Int)/\((((d bD t).same (d bD t)/\(a i).same (a i)/\(γz 1 A.toNat 1).same K/\True)/\C.same C/\Y.same Y/\True)/\(b<=i/\i<=i)/\T.length=n/\fN t P i.toNat i T=I)/\∀(x:Int×List Int),let c:=oJ t x.fst t.length;let s:=a c;let g:=c.toNat;let j:=(bp t g bD.dflt).snd;let v:=εX j.fst;let H:=decide (b<x.fst);let m:=x.snd.length;let l:=x.snd.set v (1:Int);let G:=e D x.snd 3 true;let X:=λ(u:List Int) (U:Int) ↦let z:=u.set v U;let F:=e D z 3 true;(((d bD t).same (d bD t)/\s.same s/\K.same K/\True)/\C.same C/\F.same F/\True)/\((b<=c/\c<=i)/\z.length=n/\fN t P g c z=I)/\g<x.fst.toNat;let E:=λ(u:Bool) ↦decide (j.snd.fst=x.fst)=u;let J:=λ(u:Bool) ↦decide (j.fst<(↑n:Int))=u;(b<=x.fst/\x.fst<=i)/\x.snd.length=n/\fN t P x.fst.toNat x.fst x.snd=I->(H=true->t.length<=1000000000000/\b<=c/\c<(↑t.length:Int)/\g<t.length/\(J true->n=m/\b<=j.fst/\j.fst<(↑m:Int)/\n=m/\v<m/\b<=c/\c<(↑t.length:Int)/\g<t.length/\(E true->n=l.length/\b<=j.fst/\j.fst<(↑l.length:Int)/\n=l.length/\v<l.length/\X l (-1:Int))/\(E false->X x.snd (1:Int)))/\(J false->(((d bD t).same (d bD t)/\s.same s/\K.same K/\True)/\C.same C/\G.same G/\True)/\((b<=c/\c<=i)/\x.snd.length=n/\fN t P g c x.snd=I)/\g<x.fst.toNat))/\(H=false->n=m/\(d D x.snd).same (d D I))) (by kernel_rfl) ?_;simp only[γb];simp only[vcs];have Z:=(dR hc).2.1;have a8:=(Bt M).1;have a7:∀{x y:Nat},x=y->(γz 1 x 1).same (γz 1 y 1):=by rintro _ _ rfl;rfl
 have W:∀{x y:List Int},x=y->(bA.row (.i .i64) x 3 true).same (bA.row (.i .i64) y 3 true):=by rintro _ _ rfl;rfl
 have hu:=FD M (i:=i.toNat) (by omega);have e0:fN t (eD t i.toNat) i.toNat i (δ p.offers.length 0)=fa p t i.toNat:=by
  grind[fa]
 refine⟨by omega,by omega,by omega,by omega,⟨⟨S,Int.le_refl _⟩,δq,e0⟩,?_⟩;rintro⟨k,f⟩ ⟨⟨k0,k1⟩,r,B⟩;simp only at k0 k1 r B ⊢;refine⟨λQ=>?_,λQ=>?_⟩
 ·obtain⟨q,⟨q1,q2⟩,ha,hn⟩:=af5 M (i:=i.toNat) (by omega) Q (by omega) (by omega);have w:=@MK t (eD t i.toNat) hu k f Q (by omega);have O:=(FC M q2).1;rw[B] at w;unfold mG at w;rw[hn,r] at w;simp only[γb] at w;rw[ha];simp only[γb];generalize bp t q bD.dflt=N at w O ⊢;obtain⟨kk,o,a,b,y⟩:=N;simp only at w O ⊢;have V:∀d,(f.set o.toNat d).length=p.offers.length:=λd=>by simp_all
  refine⟨by omega,by omega,by omega,by omega,λh=>?_,λh=>?_⟩
  ·rw[if_pos h] at w;refine⟨r.symm,O,by omega,r.symm,by omega,by omega,by omega,by omega,λe=>?_,λe=>?_⟩
   ·simp only[e,decide_true,Bool.not_true,Γ,if_false] at w;exact⟨(V 1).symm,O,by simp_all,(V 1).symm,by rw[V];omega,⟨⟨by omega,by omega⟩,by simp_all,by simp_all⟩,by omega⟩
   grind
  grind
 ·have R:k=0:=by omega
  rw[<-B,R];exact⟨r.symm,rfl⟩
def MX:bL:=⟨41,bz×Int×cB×List Int,.cons dO (.cons (ef .i64) (.cons (dZ bD) (.one (cV (.i .i64))))),λa=>(jS a.2.2.1=true/\a.2.2.2.length<=1000000)/\(-9223372036854775808<=a.2.1/\a.2.1<=9223372036854775807)/\(a.2.2.1.1=1->qU a.1 a.2.2.2 a.2.2.1.2.2.2.2),λa=> .sb (kj a.1 a.2.1 a.2.2.2 a.2.2.1)⟩
theorem h483:Holds Tryz.prog MX:=by
 refine cq (L:=[MU,Dv,MV,Ed,Az,Jk]) MX lk (by simpa using⟨h488,h55,h449g,h51,h52,h53⟩) ?_;rintro⟨p,v,⟨k,o,a,b,x⟩,f⟩ ⟨⟨hw,hl⟩,⟨v0,v1⟩,hok⟩;simp only at hw hl v0 v1 hok;refine bQ (let c:=(-9223372036854775808:Int);let d:=(9223372036854775807:Int);let e:=(0:Int);let g:=(1:Int);let h:=γ0 false;let i:=γn;let r:=decide (k=(2:Int));let s:=decide (o<(↑f.length:Int));let j:=i (kj p v f (k,o,a,b,x));let t:=decide (k=(3:Int));let l:=bu (ζ v);let w:=(l.fst,l.snd.fst,l.snd.snd);let m:=bu (ζ g);let y:=(m.fst,m.snd.fst,m.snd.snd);let n:=bu (fY p f (vL x) f.length);let z:=(if posB x=true then n.fst else false,if posB x=true then n.snd.fst else[],if posB x=true then n.snd.snd else[]);let q:=bu (bK w+bK y);let A:=(q.fst,q.snd.fst,q.snd.snd);let B:=λ(u:Bool) ↦decide ((if posB x=true then e else(4:Int))=e)=u;(r=true->(s=true->e<=o/\o<(↑f.length:Int)/\o.toNat<f.length/\(i (decide (bp f o.toNat e=e))).same j)/\(s=false->(h).same j))/\(r=false->(t=true->f.length<=1000000/\(bE f g).length<=9223372036854775807/\(i (decide (cH p (bE f g)≠e))).same j)/\(t=false->qU p f x/\(c<=v/\v<=d)/\(c<=g/\g<=d)/\(eW w/\eW y)/\(B true->(eW z/\eW A)/\(i (decide (gI (bK z) (bK A)<e))).same j)/\(B false->(h).same j)))) (by kernel_rfl) ?_;simp only[vcs];have hk:=FK.1 hw;have ho:0<=o:=by
  have:=hk.1.2.1;unfold iq at this;simp only[θ,decide_eq_true_eq] at this;exact this.1
 have p2:k=2->kj p v f (k,o,a,b,x)=(decide (o<f.length)&&decide (bp f o.toNat 0=0)):=λh=>by
  subst h;rfl
 have p3:k=3->kj p v f (k,o,a,b,x)=decide (cH p (bE f 1)≠0):=λh=>by
  subst h;rfl
 have p1:k=1->kj p v f (k,o,a,b,x)=(posB x&&decide (fY p f (vL x) f.length<ζ v+1)):=λh=>by
  subst h;rfl
 have hdl:=@rQ f 1;have h1:(ζ 1:Rat)=1:=rfl;have gv:Sz 2 (ζ v:Rat):=lN v0 v1;have g1:Sz 2 (1:Rat):=lN (W:=1) (by omega) (by omega);simp only[ji,dU,h1];refine⟨λhk2=>⟨λh=>⟨ho,h,by omega,by rw[p2 hk2,decide_eq_true h];rfl⟩,λh=>by rw[p2 hk2,decide_eq_false h];rfl⟩,λhk2=>⟨λhk3=>⟨hl,by omega,(p3 hk3).symm⟩,λhk3=>?_⟩⟩;have hk1:k=1:=by omega
 have hok:=hok hk1;have hok2:=hok;obtain⟨⟨hc,hfl,hr⟩,y,hx,hyl,hy⟩:=hok2;have hs:=FA hc hfl hy (ψ f.length);have hvl:vL x=y:=by rw[hx,jY]
 rw[<-hvl] at hs;rw[p1 hk1];by_cases hp:posB x=true
 ·simp only[hp,if_true,δr,ji,dU];exact⟨hok,⟨v0,v1⟩,by omega,⟨mE gv (by omega),mE g1 (by omega)⟩,λ_=>⟨⟨mE hs (by omega),mE (vQ gv g1) (by omega)⟩,decide_eq_decide.2 rJ⟩,λh=>absurd trivial h⟩
 ·have hp:posB x=false:=by simpa using hp
  simp only[hp,Γ,if_false,Bool.false_and];exact⟨hok,⟨v0,v1⟩,by omega,⟨mE gv (by omega),mE g1 (by omega)⟩,(λh=>by first|exact h.elim|omega|cases h),λ_=>by first|trivial|rfl⟩
def MY:bL:=⟨20,bz×Int×List cB,.cons dO (.cons (ef .i64) (.one (cV bD))),λa=>mH a.1 a.2.1 a.2.2,λa=> .si .i64 (nO a.1 a.2.1 a.2.2)⟩
def af7 (p:bz) (v:Int) (t:List cB):Nat->cC
 |11=> .inv Int (λi=>⟨[(1,.si .i64 v),(2,.row bD t),(3,.ptr 0 0 20),(8,.si .i64 i)],[.cells p.ss 27 20 false]⟩)
   (λs=>iS s 8) (λi=>0<=i/\i<=t.length/\∀j:Nat,j<i->gR p (bp t j bD.dflt)=true) (λi=>(t.length - i).toNat) λ_ _=> .look
 |16=> .inv Int (λi=>⟨[(1,.si .i64 v),(2,.row bD t),(3,.ptr 0 0 20),(9,.si .i64 i)],[.cells p.ss 27 20 false]⟩)
   (λs=>iS s 9) (λi=>0<=i/\i<=t.length/\∀j:Nat,j<i->kj p v (fa p t j) (bp t j bD.dflt)=true) (λi=>(t.length - i).toNat) λ_ _=> .look
 |_=> .look
theorem h475:Holds Tryz.prog MY:=by
 refine cq (L:=[xT,MS,Bl,MX,MW]) MY (λa=>af7 a.1 a.2.1 a.2.2) (by grind[h24,h482,h454,h483,h484]) ?_;rintro⟨p,v,t⟩ ⟨hdg,htl,hok⟩;simp only at hdg htl hok;refine bQ (let a:=(0:Int);let b:=Ω .i64;let c:=γo .i64;let d:=Δ;let e:=(1:Int);let s:=decide (bH p≠a);let k:=b (nO p v t);let g:=(↑t.length:Int);let w:=decide (g=a);let y:=decide ((65536:Int)<g);let h:=γU 0 0 20;let q:=c 0;let i:=bA.cells (bz.ss p) 27 20 false;let f:=(↑t.length:Int);True/\(s=true->(b (bH p)).same k)/\(s=false->(w=true->(c 1).same k)/\(w=false->(y=true->(c 3).same k)/\(y=false->(∀(n:cB),n∈t->∀(x:bM),x∈n.snd.snd.snd.snd->gK x)/\((!de t)=true->(c 2).same k)/\((!de t)=false->((((b v).same (b v)/\(d bD t).same (d bD t)/\h.same h/\q.same (b 0)/\True)/\i.same i/\True)/\a<=a/\a<=f/\∀(j:Nat),(↑j:Int)<a->gR p (bp t j bD.dflt)=true)/\∀(x:Int),let m:=x+e;let z:=b m;let A:=bp t x.toNat bD.dflt;let B:=bU .i64 m/\(((b v).same (b v)/\(d bD t).same (d bD t)/\h.same h/\z.same z/\True)/\i.same i/\True)/\(a<=m/\m<=f/\∀(j:Nat),(↑j:Int)<m->gR p (bp t j bD.dflt)=true)/\(f - m).toNat<(f - x).toNat;let C:=λ(u:Bool) ↦decide ((↑(Φ A.snd.snd.snd.snd):Int)≠if bH p=a then cE p else a)=u;let D:=λ(u:Bool) ↦decide (A.fst=e)=u;(a<=x/\x<=f/\∀(j:Nat),(↑j:Int)<x->gR p (bp t j bD.dflt)=true)->(decide (x<g)=true->a<=x/\x<g/\x.toNat<t.length/\(D true->a<=x/\x<g/\x.toNat<t.length/\True/\(C true->(c 2).same k)/\(C false->B))/\(D false->B))/\(decide (x<g)=false->((((b v).same (b v)/\(d bD t).same (d bD t)/\h.same h/\q.same (b 0)/\True)/\i.same i/\True)/\a<=a/\a<=f/\∀(j:Nat),(↑j:Int)<a->kj p v (fa p t j) (bp t j bD.dflt)=true)/\∀(x:Int),let r:=fa p t x.toNat;let l:=bp t x.toNat bD.dflt;let E:=(l.fst,l.snd.fst,l.snd.snd.fst,l.snd.snd.snd.fst,l.snd.snd.snd.snd);let o:=x+e;let F:=b o;let G:=λ(u:Bool) ↦(!kj p v r E)=u;(a<=x/\x<=f/\∀(j:Nat),(↑j:Int)<x->kj p v (fa p t j) (bp t j bD.dflt)=true)->(decide (x<g)=true->a<=x/\x<g/\x.toNat<t.length/\((bH p=a/\de t=true)/\a<=x/\x<f)/\((jS E=true/\r.length<=1000000)/\((-9223372036854775808:Int)<=v/\v<=(9223372036854775807:Int))/\(l.fst=e->qU p r l.snd.snd.snd.snd))/\(G true->(c 13).same k)/\(G false->bU .i64 o/\(((b v).same (b v)/\(d bD t).same (d bD t)/\h.same h/\F.same F/\True)/\i.same i/\True)/\(a<=o/\o<=f/\∀(j:Nat),(↑j:Int)<o->kj p v (fa p t j) (bp t j bD.dflt)=true)/\(f - o).toNat<(f - x).toNat))/\(decide (x<g)=false->q.same k))))))) (by kernel_rfl) ?_;simp only[vcs];unfold nO;refine⟨λh=>by rw[if_pos h],λh=>?_⟩;rw[if_neg h];have hc:bH p=0:=γa.1 h;refine⟨λh1=>by omega,λh1=>?_⟩;rw[if_neg (show ¬t.length=0 by omega)];refine⟨λh2=>by omega,λh2=>?_⟩;rw[if_neg (show ¬65536<t.length by omega)];refine⟨hdg,λh3=>by rw[if_pos h3],λh3=>?_⟩;have hnt:¬de t=false:=by simp_all
 rw[if_neg hnt,if_pos hc];refine⟨⟨by omega,by omega,λj hj=>by omega⟩,?_⟩;rintro i ⟨i0,i1,hall⟩;refine⟨λhi=>?_,λhi=>?_⟩
 ·have hm:=dn (d:=bD.dflt) (show i.toNat<t.length by omega);have next:gR p (bp t i.toNat bD.dflt)=true->∀j:Nat,(j:Int)<i+1->gR p (bp t j bD.dflt)=true:=λhr j hj=>by
   grind
  have no:gR p (bp t i.toNat bD.dflt)=false->t.all (gR p)=false:=λhr=>by
   grind
  refine⟨i0,hi,by omega,λh4=>⟨i0,hi,by omega,λh5=>?_,λh5=>⟨by omega,⟨by omega,by omega,next ?_⟩,by omega⟩⟩,λh4=>⟨by omega,⟨by omega,by omega,next ?_⟩,by omega⟩⟩;·simp_all[gR]
  all_goals grind[gR]
 have ha:t.all (gR p)=true:=ξ.2 λn hn=>by
  obtain⟨j,hj,rfl⟩:=γB hn;grind[dj]
 have hna:¬t.all (gR p)=false:=by simp_all
 rw[if_neg hna];obtain⟨_,⟨v0,v1⟩,hb⟩:=hok hc h3 ha;have h160:=(dR hc).2.1;refine⟨⟨by omega,by omega,λj hj=>by omega⟩,?_⟩;rintro i ⟨i0,i1,agQ⟩;refine⟨λhi=>?_,λhi=>?_⟩
 ·have hw:jS (bp t i.toNat bD.dflt)=true:=by
   grind[Bt,iM]
  refine⟨i0,hi,by omega,⟨⟨hc,h3⟩,i0,hi⟩,⟨⟨hw,by rw[FI];omega⟩,⟨v0,v1⟩,hb i.toNat (by omega)⟩,λhp=>?_,λhp=>⟨by omega,⟨by omega,by omega,λj hj=>?_⟩,by omega⟩⟩
  ·have:nN p v t=false:=by
    unfold nN;rw[δo];intro ha;have h5:=ξ.1 ha i.toNat (γp.2 (by omega));have hp:kj p v (fa p t i.toNat) (bp t i.toNat bD.dflt)=false:=hp;rw[hp] at h5;cases h5
   rw[this];rfl
  grind
 grind[nN]
def qW (x:bM):Nat:=x.2.1.length+x.2.2.length
def wG (n:cB):Nat:=(n.2.2.2.2.map qW).sum
def Bw (t:List cB):Nat:=(t.map wG).sum
def y5 (n:cB):Prop:=∀x∈n.2.2.2.2,bB x.2.1/\bB x.2.2
theorem MZ:∀{l:List Nat} {x:Nat},x∈l->x<=l.sum
 |y::l,x,h=>by
  rw[εm];rcases γD.1 h with e|h;·omega
  ·have:=MZ h;omega
theorem VH {a:Type} {g:a->Nat} {l:List a} {d:a}:∀{n:Nat},n<=l.length->pC n (λk=>g (bp l k d))=((l.take n).map g).sum
 |0,_=>by simp[pC];|n+1,h=>by
  simp only[pC];rw[VH (by omega),List.take_succ_eq_append_getElem (by omega),List.map_append,List.sum_append,dj (by omega)];simp
theorem af8 {t:List cB} {u:List (Int×Bool)} {k:Int} {f:List Int} (h:fQ f=true):fQ (mG t u k f)=true:=by
 grind[mG,K0]
theorem VI {t:List cB} {u:List (Int×Bool)}:∀{m:Nat} {k:Int} {f:List Int},fQ f=true->fQ (fN t u m k f)=true
 |0,_,_,h=>h
 |m+1,k,f,h=>by
  unfold fN;split;·exact VI (af8 h)
  ·exact h
theorem af9 {x:bM} (h:okF x=true) (a:bB x.2.1) (b:bB x.2.2):Sz (qW x) (bK x):=by
 have e:=of_decide_eq_true h;grind[jg,Sz,qW,I2]
theorem aga {p:bz} {v:Int} {t:List cB} (s:∀n∈t,y5 n) (C:Bw t<=1048576) (w:t.length<=1000000000000) (z: -9223372036854775808<=v/\v<=9223372036854775807):mH p v t:=by
 have b:∀n∈t,wG n<=1048576:=λn c=>by
  have:=MZ (εv (f:=wG) c);grind[Bw]
 have u:∀n∈t,∀x∈n.2.2.2.2,qW x<=1048576:=λn c x h=>by
  have d:=MZ (εv (f:=qW) h);grind[wG]
 refine⟨λn c x h=>⟨s n c x h,?_⟩,w,λm r y=>⟨⟨m,r⟩,z,λi o d=>?_⟩⟩;·grind[qW]
 have j:bp t i bD.dflt∈t:=dn o;have l:=afL r o d;have a:=ξ.1 y _ j;unfold gR at a;rw[decide_eq_true d,δr,Bool.not_eq_true',decide_eq_false_iff_not] at a;have q:(bp t i bD.dflt).2.2.2.2.length=mF p:=by
  have:=γa.1 a;unfold cE at this;grind
 have g:=s _ j;have b:=b _ j;unfold wG at b;unfold y5 at g;generalize (bp t i bD.dflt).2.2.2.2=x at*;refine⟨⟨m,FI,by grind[fa,VI,afK]⟩,vL x,?_,by grind[vL],λk=>qW (bp x k sF.dflt),λk B=>?_,?_⟩
 ·unfold fL vL;rw[List.map_map];conv=>lhs;rw[<-List.map_id x]
  refine List.map_congr_left λe A=>?_;exact(of_decide_eq_true (l e A)).symm
 ·grind[af9,vL,dj]
 ·rw[VH (by omega),List.take_of_length_le (by omega)];omega
noncomputable def M4:bL:=⟨5,bz×Alloc×List cB,.cons dO (.cons mf (.one (cV bD))),λa=>a.2.1.chosen.length<=9223372036854775807/\a.2.2.length<=9223372036854775807/\(∀n∈a.2.2,y5 n)/\Bw a.2.2<=1048576,λ_=> .sb true⟩
theorem h461:Holds Tryz.prog M4:=by
 refine cq (L:=[MP,Dv,H8,MY,FG]) M4 lk (by grind[h472,h55,h58,h475,h474]) ?_;rintro⟨p,⟨c,w⟩,t⟩ ⟨y,z,A,s⟩;simp only at y z A s;refine bQ (let n:=γn;let o:=γ0 false;let s:=(0:Int);let f:=qV p (c,w,t);let j:=decide (f=nO p w t);let g:=decide (f=cH p c);let h:=decide ((8:Int)<(↑p.classes.length:Int));let k:=decide ((12:Int)<(↑p.offers.length:Int));let b:=decide ((20:Int)<(↑c.length:Int));let d:=decide ((300:Int)<(↑t.length:Int));let a:=decide (cH p c=s);let e:=decide (w≠dJ p c);let l:=j=true;let i:=j=false;let m:=g=false;let q:=g=true;let r:=λ(u:Bool) ↦decide (f=(13:Int))=u;(h=true->True/\(n true).same (n true))/\(h=false->(k=true->True/\(n true).same (n true))/\(k=false->(b=true->True/\(n true).same (n true))/\(b=false->(d=true->True/\(n true).same (n true))/\(d=false->c.length<=9223372036854775807/\(a=true->c.length<=9223372036854775807/\(e=true->(c.length<=1000000000000/\(cH p c=s->dJ p c=w->mH p w t))/\(r true->True/\(n true).same (n true))/\(r false->(o).same (n true)))/\(e=false->(a=true->mH p w t/\(c.length<=1000000000000/\(cH p c=s->dJ p c=w->mH p w t))/\(l->True/\(n true).same (n true))/\(i->(o).same (n true)))/\(a=false->(c.length<=1000000000000/\(cH p c=s->dJ p c=w->mH p w t))/\(q->True/\(n true).same (n true))/\(m->(o).same (n true)))))/\(a=false->(a=true->mH p w t/\(c.length<=1000000000000/\(cH p c=s->dJ p c=w->mH p w t))/\(l->True/\(n true).same (n true))/\(i->(o).same (n true)))/\(a=false->(c.length<=1000000000000/\(cH p c=s->dJ p c=w->mH p w t))/\(q->True/\(n true).same (n true))/\(m->(o).same (n true))))))))) (by kernel_rfl) ?_;simp only[vcs];have x:t.length<=300->cH p c=0->dJ p c=w->mH p w t:=λD o C=>by
  have:=s8 (Vr o).1 o;grind[aga]
 have B:qV p (c,w,t)=if cH p c≠0 then cH p c else if dJ p c≠w then 13 else nO p w t:=rfl;refine⟨λ_=>trivial,λ_=>⟨λ_=>trivial,λ_=>⟨λ_=>trivial,λv=>⟨λ_=>trivial,λn=>?_⟩⟩⟩⟩;grind
end Go.Vi
namespace Go.Proofs.YtlphnffeeefcdaaGreat
open Go.ChangeShapes Go.WideShapes Go.ChangeAt Go.RowKit Go.Vi
theorem agb {H:Type} (d:DataW H):1<=Rows.uptoBulk d:=by
 cases d with
 |lit l=>cases l<;>simp[Rows.uptoBulk];|_=>simp[Rows.uptoBulk]
def wH (P:Program) (t:TypeId) (s:bw) (Q:s.T->Prop) (z:s.T->Nat):Prop:=
 ∀(H:Type) (d:TypeId×Value->H) (w:World) (a:Nat->Bool) (c:Bool) (b:Nat) (e:List Value) (x:DataW H×List MemPlace),DataW.trod d P w 0 a c b t e=some x->∃y:s.T,Q y/\z y<=Rows.uptoBulk x.1/\bI jL w [] [] (dC s y) e
theorem VJ {P:Program} {t:TypeId} {k:IntKind} (f:P.underlying t=some (.int k)):wH P t (.i k) (λn=>k.min<=(show Int from n)/\(show Int from n)<=k.max) λ_=>1:=λH d w a c b e x h=>by
 obtain⟨y,j,g⟩:=Qj f H d w a c b e x h;grind[agb]
theorem VK {H:Type} {a:Type} {f:Nat->a} {z:a->Nat} {D:Nat->DataW H}:∀{L:List Nat},(∀i∈L,z (f i)<=Rows.uptoBulk (D i))->((L.map f).map z).sum<=Rows.uptoBulkAll (L.map D)
 |[],_=>by simp_all;|i::L,h=>by
  have c:=h i (δh ..);have d:=VK (L:=L) λj b=>h j (List.mem_cons_of_mem _ b);grind[Rows.uptoBulkAll]
theorem FO {P:Program} {t e:TypeId} {s:bw} {Q:s.T->Prop} {z:s.T->Nat} (u:P.underlying t=some (.slice e)) (q:wH P e s Q z) (R:P.cellsOf e=s.sz)
  {H:Type} {o:TypeId×Value->H} {w:World} {c:Nat->Bool} {j:Bool} {d:Nat} {k:List Value} {x:DataW H×List MemPlace} (h:DataW.trod o P w 0 c j d t k=some x):
  ∃(v:Value) (l:List s.T),k=[v]/\l.length<=9223372036854775807/\(∀y∈l,Q y)/\(l.map z).sum<=Rows.uptoBulk x.1/\bC jL w [] [] (Δ s l).g v:=by
 rcases Go.Deep.open_slice u h with⟨rfl,_⟩|⟨a,b,p,m,n,D,W,rfl,N,C,M,A,G,E⟩;·exact⟨_,[],rfl,by simp,by simp,by simp,by grind[SV.g,bC,cM,dx,dB]⟩
 ·have F:b<=m:=by grind
  have J:∀i,i<b->∃y:s.T,∃k,(Q y/\z y<=Rows.uptoBulk (D i))/\w.cells? 0 (a.add (i*s.sz)) s.sz=some k/\bI jL w [] [] (dC s y) k:=λi I=>by
   obtain⟨r,S,K⟩:=E i (by omega);obtain⟨y,V,U,B⟩:=q _ _ _ _ _ _ _ _ K;grind
  obtain⟨f,O⟩:=Go.Deep.choose_lt J;refine⟨_,(Θ b).map f,rfl,?_,?_,?_,?_⟩;·grind[maxLen]
  ·simp_all
  ·have X:=VK (f:=f) (z:=z) (D:=D) (L:=Θ b) λi I=>by
    simp_all
   grind[Rows.uptoBulk]
  simp only[SV.g,bC,List.length_map,List.length_range];refine⟨some a,p,rfl,C,oV _ _,?_⟩;have:=Da (w:=w) (a:=a) (s:=s) (l:=(Θ b).map f) (i0:=0) (λi y B=>by
   grind);simp_all
theorem VL {a:Type}:∀{l:List a},(l.map λ_=>1).sum=l.length
 |[]=>rfl
 |x::l=>by simp only[φ,εm,List.length_cons];rw[VL];omega
theorem agc {P:Program} {t b n e:TypeId} {c:Array Field} (S:P.underlying t=some (.struct c)) (X:P.cellsOf t=3) (z:c.size=3)
  (h0:(c[0]?).map (λf=>(f.type,f.offset))=some (b,0)) (h1:(c[1]?).map (λf=>(f.type,f.offset))=some (n,1)) (O:(c[2]?).map (λf=>(f.type,f.offset))=some (n,2))
  (N:P.underlying b=some .bool) (r:P.cellsOf b=1) (L:P.underlying n=some (.slice e)) (j:P.cellsOf n=1) (F:P.underlying e=some (.int .u32)) (a:P.cellsOf e=1):
  wH P t Dq H4 qW:=λH T w u G K Y x h=>by
 obtain⟨U,m,_,A,J,k,C⟩:=DataW.trod_struct S h;rw[X] at J;obtain⟨f0,e0,s⟩:=ε.1 h0;obtain⟨Q,R,q⟩:=ε.1 h1;obtain⟨Z,W,p⟩:=ε.1 O;simp only[κ] at s q p;have y:=C 0 f0 e0;have B:=C 1 Q R;have D:=C 2 Z W;rw[z] at k;match U,k with
 |[x0,x1,x2],_=>
 rw[s.1,s.2,r] at y;rw[q.1,q.2,j] at B;rw[p.1,p.2,j] at D;simp only[γZ,γw] at y B D;obtain⟨v,I,_⟩:=DataW.trod_bool N y;obtain⟨v1,l,E,n1,d1,z1,r1⟩:=FO L (VJ F) a B;obtain⟨v2,o,M,n2,d2,V,r2⟩:=FO L (VJ F) a D;rw[VL] at z1 V;match Y,J with
 |[c0,c1,c2],_=>
  simp at I E M;subst I;subst E;subst M;have h3:IntKind.u32.min=0:=rfl;have h4:IntKind.u32.max=4294967295:=rfl;refine⟨(v,(l,o)),⟨λd hd=>?_,λd hd=>?_⟩,?_,?_⟩;·grind
  ·grind
  ·rw[A];simp only[φ,γv,Rows.uptoBulk,Rows.uptoBulkAll];show l.length+o.length<=_;omega
  ·have e:dC Dq (v,(l,o))=[AV.sc (.bool v),(Δ (.i .u32) l).g,(Δ (.i .u32) o).g]:=by
    grind[dC,dI,SV.g,cM]
   grind[bI,bC,Value.oneCell']
theorem agd {P:Program} {t i n e:TypeId} {b:Array Field} (ht:P.underlying t=some (.struct b)) (hn:P.cellsOf t=5) (E:b.size=5)
  (h0:(b[0]?).map (λf=>(f.type,f.offset))=some (i,0)) (h1:(b[1]?).map (λf=>(f.type,f.offset))=some (i,1)) (h2:(b[2]?).map (λf=>(f.type,f.offset))=some (i,2)) (V:(b[3]?).map (λf=>(f.type,f.offset))=some (i,3)) (W:(b[4]?).map (λf=>(f.type,f.offset))=some (n,4))
  (k:P.underlying i=some (.int .i64)) (a:P.cellsOf i=1) (hs:P.underlying n=some (.slice e)) (v:P.cellsOf n=1) (Y:wH P e Dq H4 qW) (F:P.cellsOf e=3):
  wH P t bD y5 wG:=λH a0 w B O L cs x h=>by
 obtain⟨xs,m,_,A,N,d,c⟩:=DataW.trod_struct ht h;rw[hn] at N;obtain⟨f0,e0,q⟩:=ε.1 h0;obtain⟨f1,X,z⟩:=ε.1 h1;obtain⟨f2,T,l⟩:=ε.1 h2;obtain⟨f3,e3,I⟩:=ε.1 V;obtain⟨U,Z,s⟩:=ε.1 W;simp only[κ] at q z l I s;have r:=c 0 f0 e0;have p:=c 1 f1 X;have G:=c 2 f2 T;have o:=c 3 f3 e3;have y:=c 4 U Z;rw[E] at d;match xs,d with
 |[x0,x1,x2,x3,x4],_=>
 rw[q.1,q.2,a] at r;rw[z.1,z.2,a] at p;rw[l.1,l.2,a] at G;rw[I.1,I.2,a] at o;rw[s.1,s.2,v] at y;simp only[γZ,γw] at r p G o y;obtain⟨C,K,_,_⟩:=DataW.trod_int k r;obtain⟨J,Q,_,_⟩:=DataW.trod_int k p;obtain⟨D,M,_,_⟩:=DataW.trod_int k G;obtain⟨u,S,_,_⟩:=DataW.trod_int k o;obtain⟨v4,j,R,_,d4,z4,r4⟩:=FO hs Y F y;match cs,N with
 |[c0,c1,c2,c3,c4],_=>
  simp at K Q M S R;subst K Q M S R;refine⟨(C,(J,(D,(u,j)))),d4,?_,?_⟩
  ·rw[A];simp only[φ,γv,Rows.uptoBulk,Rows.uptoBulkAll];show(j.map qW).sum<=_;omega
  ·have e:dC bD (C,(J,(D,(u,j))))=[AV.sc (.int .i64 C),AV.sc (.int .i64 J),AV.sc (.int .i64 D),AV.sc (.int .i64 u),(Δ sF j).g]:=by
    simp_all[dC,dI,SV.g,cM]
   rw[e];simp only[bI];exact⟨_,_,rfl,by simp[bC,Value.oneCell'],_,_,rfl,by simp[bC,Value.oneCell'],_,_,rfl,by simp[bC,Value.oneCell'],_,_,rfl,by simp[bC,Value.oneCell'],_,_,rfl,r4,rfl⟩
theorem agf:wH Tryz.prog 126 Dq H4 qW:=
 agc Tryz.underlying126 (by kernel_rfl) rfl rfl rfl rfl Tryz.underlying4 (by kernel_rfl) Tryz.underlying124 (by kernel_rfl) Tryz.underlying187 (by kernel_rfl)
theorem agh:wH Tryz.prog 68 bD y5 wG:=
 agd Tryz.underlying68 (by kernel_rfl) rfl rfl rfl rfl rfl rfl Tryz.underlying3 (by kernel_rfl) Tryz.underlying66 (by kernel_rfl) agf (by kernel_rfl)
theorem agi {H:Type} {d:TypeId×Value->H} {w:World} {a:Nat->Bool} {c:Bool} {b:Nat} {e:List Value} {x:DataW H×List MemPlace} (h:DataW.trod d Tryz.prog w 0 a c b 33 e=some x):
  ∃(v:Value) (l:List cB),e=[v]/\l.length<=9223372036854775807/\(∀y∈l,y5 y)/\Bw l<=Rows.uptoBulk x.1/\bC jL w [] [] (Δ bD l).g v:=FO Tryz.underlying33 agh (by kernel_rfl) h
end Go.Proofs.YtlphnffeeefcdaaGreat
