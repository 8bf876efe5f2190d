import Derived.Test.YtbnhiekmnpikhaaGreatDR08
set_option maxRecDepth 100000
set_option maxHeartbeats 4000000
set_option linter.all false
open And renaming intro->γk
open BitVec renaming ofInt->γo
open Bool renaming and_eq_true->θ
open Classical renaming not_not->γc,byContradiction->δb
open Go.Vi.AV.sc renaming injEq->δf
open Go.Vi.SV renaming row->Ψ,si->γf,il->γv,sb->γy,ptr->γK,bl->δd,ow->γW
open Int renaming natAbs_mul->εr,pow_succ->γT,sub_zero->ζg,mul_assoc->δm,mul_zero->δJ,mul_nonneg->γu,emod_eq_of_lt->δL,pow_add->δ6,lt_of_le_of_lt->εK,mul_le_mul_of_nonneg_left->Ξ,le_of_lt->γg,mul_lt_mul_of_pos_right->γ4,eq_ofNat_of_zero_le->δH,mul_comm->δ3,pow_pos->δO,mul_emod_mul_of_pos->ζA,emod_nonneg->δN,emod_lt_of_pos->δq,lt_of_mul_lt_mul_left->εs,lt_of_lt_of_le->εH,mul_le_mul_of_nonneg_right->γU,add_zero->εj,ediv_nonneg->δZ,ediv_lt_of_lt_mul->εV,mul_ediv_add_emod->εh,one_mul->εz,natAbs_natCast->ζh
open List renaming take->Γ,take_of_length_le->γp,getElem_of_mem->γM,mem_map->Ω,mem_range->γq,mem_of_mem_take->γl,mergeSort_perm->δx,length_take->γx,length_append->γh,mem_append->γi,map_cons->π,map_nil->γr,range->ω,map_map->γ5,map_congr_left->γ0,pairwise_cons->γB,exists_of_findSome?_eq_some->δX,take_length->ψ,nodup_cons->γY,foldr_cons->ε6,foldr->ζ8,length_cons->γG,set_eq_take_append_cons_drop->εI,getElem_cons_drop->ζC,take_append_drop->γP,drop_drop->δk,nodup_append->γs,replicate->δ,getElem?_replicate->εE,eq_of_mem_replicate->δ0,replicate_succ->δe,length_set->Φ
open List.Pairwise renaming nil->δv
open List.cons renaming injEq->Δ
open Nat renaming le_refl->ξ,min_eq_left->εi,pow_le_pow_right->δs,add_sub_cancel->ζV
open Option.some renaming injEq->γ
open Prod renaming ext->εF
open Rat renaming mul_nonneg->δy,mkRat_self->δW,normalize_eq_mkRat->ζD
namespace Go.Vi
open Go.Proofs.YtbnhiekmnpikhaaGreat.Ir
open Go.Proofs
def zq:M9:=⟨77,List Int×List Int,.cons (cL (.i .i64)) (.one (cL (.i .i64))),λa=>a.1.length<=1000/\1<=a.2.length/\a.2.length<=1000,λa=> .row (.i .i64) (dx (a.1++a.2))⟩
theorem yQ:Holds Tryz.prog zq:=by
 refine j9 (L:=[]) (W:=fT [sO,yf]) zq lk (kf (by grind[sq,yM])) (by simp) ?_;rintro⟨s,x⟩ ⟨b,c,d⟩;simp only at b c d;refine NH (let a:Nat:=(s++x).length;s.length<=1000000/\s.length=s.length/\(s.length+x.length)*8<=140737488355328/\s.length+x.length<=1000000000000/\((s++x).length=a/\1<=a/\a<=1000000)/\(s++x).length=(dx (s++x)).length/\(Ψ (ew.i .i64) (dx (s++x))).bi (Ψ (ew.i .i64) (dx (s++x)))) (by kernel_rfl) ?_;conv=>zeta
 try simp only[vcs]
 grind[pC]
def Ej:M9:=⟨109,List Int×Int,.cons (cL (.i .i64)) (.one (dX .i64)),λa=>a.1.length<=1000/\0<=a.2/\a.2<a.1.length,λa=> .row (.i .i64) (a.1.take a.2.toNat++a.1.drop (a.2+1).toNat)⟩
theorem Iu:Holds Tryz.prog Ej:=by
 refine j9 (L:=[]) (W:=fT [sO,sN]) Ej lk (kf (by grind[sq,Iq])) (by simp) ?_;rintro⟨s,i⟩ ⟨d,e,f⟩;simp only at d e f;refine NH (let a:=i+(1:Int);let c:=kp s i.toNat a.toNat;let b:=s.length - (a - i).toNat;s.length<=1000000/\VI .i64 a/\((s.length=s.length/\1<=s.length/\s.length<=1000000)/\(0:Int)<=i/\i<=a/\a<=(↑s.length:Int))/\s.length=c.length/\0+b<=s.length/\(Ψ (ew.i .i64) (Γ b c)).bi (Ψ (ew.i .i64) (Γ i.toNat s++List.drop a.toNat s))) (by kernel_rfl) ?_;conv=>zeta
 try simp only[vcs]
 have g:=@Mr s i.toNat (i+1).toNat (by omega) (by omega);refine⟨by omega,by omega,by omega,g.symm,by omega,?_⟩;unfold kp;rw[List.take_append_of_le_length (by grind),γp (by grind)]
def qM (c:List Int) (x:Int):Int:=if x∈c then(c.idxOf x:Int) else -1
theorem Vp {c:List Int} {x:Int} {k:Nat} (h:k<c.length) (b:∀j:Nat,j<k->bN c j 0≠x) (a:bN c k 0=x):qM c x=k:=by
 unfold qM;rw[if_pos (a▸cE h)];congr 1;rw[b_ h] at a;rw[List.idxOf,List.findIdx_eq h];grind[b_]
theorem Vo {c:List Int} {x:Int} (a:∀j:Nat,j<c.length->bN c j 0≠x):qM c x= -1:=by
 unfold qM;rw[if_neg];intro h;obtain⟨k,b,rfl⟩:=γM h;grind[b_]
theorem Vn {c:List Int} {x:Int}:0<=qM c x↔x∈c:=by
 grind[qM]
def Ei:M9:=⟨148,List Int×Int,.cons (cL (.i .i64)) (.one (dX .i64)),λa=>a.1.length<=1000,λa=> .si .i64 (qM a.1 a.2)⟩
def Vm (c:List Int) (x:Int):Nat->bG
 |2=> .inv Int (λi=>⟨[(0,.row (.i .i64) c),(1,.si .i64 x),(7,.si .i64 c.length),(8,.si .i64 i)],[]⟩)
   (λs=>iS s 8) (λi=>(0<=i/\i<=c.length)/\∀k:Nat,(k:Int)<i->bN c k 0≠x) (λi=>(c.length - i).toNat) λ_ _=> .look
 |_=> .look
theorem Ip:Holds Tryz.prog Ei:=by
 refine bI (L:=[]) Ei (λa=>Vm a.1 a.2) (by simp) ?_;rintro⟨c,x⟩ o;replace o:c.length<=1000:=o;refine NH (let a:=γf .i64;let h:=(0:Int);let f:=Ψ (ew.i .i64) c;let d:=(↑c.length:Int);let g:=a d;let n:=a (qM c x);(((f.bi f/\(a x).bi (a x)/\(a (↑c.length:Int)).bi g/\(γv .i64 0).bi (a 0)/\True)/\True)/\(h<=h/\h<=d)/\∀(k:Nat),(↑k:Int)<h->bN c k h≠x)/\∀(b:Int),let l:=decide (x=bN c b.toNat h);let e:=b+(1:Int);let j:=a x;let m:=a e;((h<=b/\b<=d)/\∀(k:Nat),(↑k:Int)<b->bN c k h≠x)->(decide (b<d)=true->h<=b/\b<(↑c.length:Int)/\b.toNat<c.length/\(l=true->(a b).bi n)/\(l=false->VI .i64 e/\((f.bi f/\j.bi j/\g.bi g/\m.bi m/\True)/\True)/\((h<=e/\e<=d)/\∀(k:Nat),(↑k:Int)<e->bN c k h≠x)/\(d - e).toNat<(d - b).toNat))/\(decide (b<d)=false->(γv .i64 (-1:Int)).bi n)) (by kernel_rfl) ?_;conv=>zeta
 try simp only[vcs]
 refine⟨⟨by omega,λk h=>by omega⟩,?_⟩;grind[Vp,Vo]
def Eh:M9:=⟨110,List Int×Int,.cons (cL (.i .i64)) (.one (dX .i64)),λa=>a.1.length<=1000,λa=> .sb (decide (a.2∈a.1))⟩
theorem It:Holds Tryz.prog Eh:=by
 refine bI (L:=[Ei]) Eh lk (by grind[Ip]) ?_;rintro⟨c,x⟩ a;replace a:c.length<=1000:=a;refine NH (c.length<=1000/\(γy (decide ((0:Int)<=qM c x))).bi (γy (decide (x∈c)))) (by kernel_rfl) ?_;simp_all[Vn]
theorem yc {p:cj} (a:nW p=0) {r:Int}:0<=cB p r/\cB p r<=4:=by
 obtain⟨_,_,b,c,_⟩:=cT a;unfold cB;split;·omega
 ·split;all_goals simp_all[Fi]
theorem Mo {p:cj} (h:p.bj.length<=1000):mc (bV p):=by
 have j:nR p<=20:=by
  unfold nR;split
  ·rename_i a;have:=(cT a).1;omega
  ·omega
 have d:0<nR p->nW p=0:=by
  grind[nR]
 refine⟨⟨?_,?_,h⟩,λr f=>?_,λb g=>?_⟩
 ·show(kU p (nR p)).length=(jv p (nR p)).length;rw[Mq,zu]
 ·show(jv p (nR p)).length<=1000;grind[zu]
 ·obtain⟨k,c,rfl⟩:=Ω.1 (show r∈kU p (nR p) from f);rw[γq] at c;have a:=d (by omega);refine⟨by simp[gv,bV],λx i=>?_⟩;obtain⟨o,e,rfl⟩:=Ω.1 (show x∈gv p k p.bj.length from i);have:=nL (p:=p) (r:=k) ((cT a).2.2.2.2 o (γl e)).2.2.1;omega
 ·obtain⟨k,c,rfl⟩:=Ω.1 (show b∈jv p (nR p) from g);rw[γq] at c;have:=yc (d (by omega)) (r:=k);omega
def stepG (g:bY) (c:List Int) (x:Int):List Int:=if kb g (dx (c++[x]))=true then dx (c++[x]) else c
def mM (g:bY) (l:List Int):List Int:=l.foldl (stepG g) []
def fS (p:cj):List Int:=if nW p=0 then sP p else[]
def ji (p:cj):List Int:=mM (bV p) (fS p)
theorem zp {l:List Int} {x:Int}:x∈dx l↔x∈l:=(δx _ _).mem_iff
theorem Mn {g:bY} {c:List Int} {x y:Int} (h:y∈stepG g c x):y∈c\/y=x:=by
 grind[stepG,zp]
theorem Vl {g:bY} {c:List Int} {x:Int}:(stepG g c x).length<=c.length+1:=by
 grind[stepG,pC]
theorem Mm {g:bY} {l:List Int}:∀{c:List Int} {y:Int},y∈l.foldl (stepG g) c->y∈c\/y∈l:=by
 induction l<;>grind[Mn]
theorem Vk {g:bY} {l:List Int}:∀{c:List Int},(l.foldl (stepG g) c).length<=c.length+l.length:=by
 induction l<;>grind[stepG,Vl]
theorem Vj {g:bY} {l:List Int}:(mM g l).length<=l.length:=by
 grind[Vk,mM]
theorem Vh {g:bY} {l:List Int} {i:Int} (a:0<=i) (h:i<l.length):mM g (l.take (i+1).toNat)=stepG g (mM g (l.take i.toNat)) (bN l i.toNat 0):=by
 grind[mM,jj]
theorem Eg {p:cj} {x:Int} (h:x∈fS p):nW p=0/\ll p x:=by
 unfold fS at h;split at h
 ·rename_i a;rw[sP,Ey,iF] at h;exact⟨a,h⟩
 ·simp at h
theorem MR {p:cj}:(fS p).length<=p.bj.length:=by
 grind[fS,sP,ql,eY]
theorem VU {p:cj} (d:p.bj.length<=20) {k:Nat}:(mM (bV p) ((fS p).take k)).length<=40/\∀x∈mM (bV p) ((fS p).take k),nW p=0/\ll p x:=by
 have b:=@Vj (bV p) ((fS p).take k);have c:=@MR p;rw[γx] at b;refine⟨by omega,λx a=>?_⟩;rcases Mm a with h|h<;>grind[Mm,Eg]
def yb:M9:=⟨55,cj,.one cO,λp=>p.bj.length<=20,λp=>kr.put ⟨ji p,cR (bV p) (ji p)⟩⟩
def VT (p:cj):Nat->bG
 |4=> .inv Int (λi=>⟨[(2,.ptr 1 0 2),(3,.ptr 2 0 3),(4,.row (.i .i64) (mM (bV p) ((fS p).take i.toNat))),(11,.row (.i .i64) (fS p)),(12,.si .i64 (fS p).length),(13,.si .i64 i)],[.cells p.ss 27 20 false,.cells [.sc (.slice none 0 0),.il .i64 0] 40 2 false,.cells [.row (.qE (.i .i64)) (bV p).rows,.row (.i .i64) (bV p).bounds,.row .bu (bV p).bj] 130 3 false,.dead]⟩)
   (λs=>iS s 13) (λi=>0<=i/\i<=(fS p).length) (λi=>((fS p).length - i).toNat) λ_ _=> .look
 |_=> .look
theorem ua:Holds Tryz.prog yb:=by
 refine bI (L:=[zt,El,zq,zr,vF]) yb VT (by simpa using⟨yR,ID,yQ,yP,qQ⟩) ?_;intro(p:cj) (hp:p.bj.length<=20);refine NH (let a:=γf .i64;let b:=Ψ;let c:=(0:Int);let d:=iZ.cells;let j:=γK 1 0 2;let k:=γK 2 0 3;let e:=ew.i .i64;let s:=if nW p=c then sP p else[];let o:=b e (fS p);let f:=(↑(fS p).length:Int);let q:=a f;let t:=γv .i64 0;let l:=d [a p.bm.a0,a p.bm.a1,a p.bm.a2,a p.bm.a3,a p.bm.a4,a p.bm.a5,a p.bs.a0,a p.bs.a1,a p.bs.a2,a p.bs.a3,a p.bs.a4,a p.bs.a5,a p.bt.a0,a p.bt.a1,a p.bt.a2,a p.bt.a3,a p.bt.a4,a p.bt.a5,b e p.bk,b ew.bu p.bj] 27 20 false;let m:=d [SV.sc (Value.slice none 0 0),t] 40 2 false;let n:=d [b e.qE (bV p).rows,b e (bV p).bounds,b ew.bu (bV p).bj] 130 3 false;True/\0=0/\p.bj.length<=20/\(((j.bi j/\k.bi k/\(b e []).bi (b e (mM (bV p) []))/\(b e s).bi o/\(a (↑s.length:Int)).bi q/\t.bi (a 0)/\True)/\l.bi l/\m.bi m/\n.bi n/\iZ.dead.bi iZ.dead/\True)/\c<=c/\c<=f)/\∀(x:Int),let g:=mM (bV p) (Γ x.toNat (fS p));let r:=dx (g++[bN (fS p) x.toNat c]);let h:=x+(1:Int);let v:=a h;let w:=λ(u:Bool) (u_1:List Int) ↦kb (bV p) r=u->VI .i64 h/\((j.bi j/\k.bi k/\(b e u_1).bi (b e (mM (bV p) (Γ h.toNat (fS p))))/\o.bi o/\q.bi q/\v.bi v/\True)/\l.bi l/\m.bi m/\n.bi n/\iZ.dead.bi iZ.dead/\True)/\(c<=h/\h<=f)/\(f - h).toNat<(f - x).toNat;c<=x/\x<=f->(decide (x<f)=true->c<=x/\x<(↑(fS p).length:Int)/\x.toNat<(fS p).length/\(g.length<=1000/\1<=1/\1<=1000)/\(mc (bV p)/\nB (bV p) r)/\w true r/\w false g)/\(decide (x<f)=false->(mc (bV p)/\nB (bV p) g/\oa (bV p) g)/\(SV.agg [b e g,a (cR (bV p) g)]).bi (SV.agg [b e (ji p),a (cR (bV p) (ji p))]))) (by kernel_rfl) ?_;conv=>zeta
 try simp only[vcs]
 have hg:=@Mo p (by omega);have hol:=@MR p;have e0:(if nW p=0 then sP p else[])=fS p:=rfl;rw[e0];refine⟨hp,⟨⟨rfl,rfl,rfl⟩,by omega,by omega⟩,?_⟩
 ·rintro i ⟨i0,i1⟩;obtain⟨hsl,hsm⟩:=@VU p hp i.toNat;refine⟨λhi=>?_,λhi=>?_⟩
  ·have hs:=@Vh (bV p) (fS p) i i0 hi;have hx:=Eg (cE (d:=0) (show i.toNat<(fS p).length by omega));rw[hs];generalize mM (bV p) ((fS p).take i.toNat)=c at*;refine⟨i0,hi,by omega,⟨by omega,by omega,by omega⟩,⟨hg,by rw[pC,γh];simp;omega,λx h=>?_⟩,λh=>⟨by omega,by unfold stepG;rw[if_pos h],by omega,by omega⟩,λh=>⟨by omega,by unfold stepG;rw[if_neg (by rw[h];simp)],by omega,by omega⟩⟩;rw[zp,γi] at h;rcases h with h|h;·exact(hsm x h).2
   ·rw[List.mem_singleton] at h;rw[h];exact hx.2
  ·have hk:(fS p).take i.toNat=fS p:=γp (by omega);rw[hk] at hsl hsm ⊢;refine⟨⟨hg,⟨by omega,λx h=>(hsm x h).2⟩,λx h=>?_⟩,rfl⟩;obtain⟨hc,hx⟩:=hsm x h;have:=(xK hc hx).1;have e:(bN (bV p).bj x.toNat ew.bu.bw).value=pE p x:=rfl;rw[e];omega
def pg (g:bY):List SV:=[.row (.qE (.i .i64)) g.rows,.row (.i .i64) g.bounds,.row .bu g.bj]
def Ef:List SV->Option bY
 |[r,v,x]=>match iJ (.qE (.i .i64)) r,iJ (.i .i64) v,iJ .bu x with
  |some c,some v,some x=>some ⟨c,v,x⟩
  |_,_,_=>none
 |_=>none
theorem VS {cs:List SV} {g:bY} (h:Ef cs=some g):gL cs=gL (pg g):=by
 unfold Ef at h;grind[pg,gL,ng]
theorem VR {g a:bY} (h:gL (pg g)=gL (pg a)):g=a:=yd.inj g a (by
 show AV.agg (gL (pg g))=AV.agg (gL (pg a));rw[h])
def mb (g:bY) (v:Int) (c:List Int):Bool:=decide (v<cR g c)&&kb g c
def Ee:cU where
 f:=108;α:=List Int×bY×Int;put a:=[.row (.i .i64) a.1,.ptr 0 0 3,.ptr 1 0 1];st a:=[.cells (pg a.2.1) 130 3 false,.cells [.si .i64 a.2.2] 2 1 false];dec v o:=match v,o with
  |[x,.ptr 0 0 3,.ptr 1 0 1],[.cells cs 130 3 false,.cells [y] 2 1 false]=>match iJ (.i .i64) x,Ef cs,y.int .i64 with
   |some x,some g,some y=>some (x,g,y)
   |_,_,_=>none
  |_,_=>none;ok v o a h:=by
  split at h
  ·split at h
   ·rename_i h1 h2 h3;simp only[γ] at h;subst h;refine⟨by simp only[gL,ng h1],?_⟩;simp only[gO,π,γr,iZ.g,VS h2,gL,gS h3];rfl
   ·cases h
  ·cases h
 inj a b h1 h2:=by
  simp only[gL,Δ,and_true,SV.g,AV.sl.injEq] at h1;simp only[gO,π,γr,iZ.g,Δ,OL.cells.injEq,and_true,gL,SV.g,δf,Value.int.injEq,true_and] at h2;have h3:=VR h2.1;have h4:=ku (.i .i64) h1.1 h1.2;exact εF h4 (εF h3 h2.2)
 dom a:=mc a.2.1/\nB a.2.1 a.1/\oa a.2.1 a.1;res a:=.sb (mb a.2.1 a.2.2 a.1);out a:=[.cells (pg a.2.1) 130 3 false,.cells [.si .i64 a.2.2] 2 1 false]
theorem Iv:dA Tryz.prog Ee:=by
 refine kq (L:=[zr,vF]) (W:=[]) Ee lk (by simp) (by grind[yP,qQ]) ?_;rintro⟨c,g,v⟩ ⟨j,f,h⟩;simp only at j f h;refine NH (let f:=Ψ;let e:=iZ.cells [f (ew.i .i64).qE g.rows,f (ew.i .i64) g.bounds,f ew.bu g.bj] 130 3 false;let a:=iZ.cells [γf .i64 v] 2 1 false;let b:=decide (v<cR g c);let d:=e.bi e/\a.bi a/\True;(mc g/\nB g c/\oa g c)/\(b=true->(mc g/\nB g c)/\(γy (kb g c)).bi (γy (mb g v c))/\d)/\(b=false->(δd false).bi (γy (mb g v c))/\d)) (by kernel_rfl) ?_;simp_all[vcs,mb,decide_eq_false]
def nJ (g:bY) (c:List Int) (v:Int) (a:List Int) (o k:Int):Option (List Int):=if k<=o\/k∈c then none else if mb g v (dx (a++[o,k]))=true then some (dx (a++[o,k])) else none
def lJ (g:bY) (c:List Int) (v:Int) (a:List Int) (o:Int):Option (List Int):=if o∈c then none else if mb g v (dx (a++[o]))=true then some (dx (a++[o])) else(ω g.bj.length).findSome? λk:Nat=>nJ g c v a o k
def gQ (c:List Int) (i:Nat):List Int:=c.take i++c.drop (i+1)
def uo (g:bY) (c:List Int) (v:Int) (i:Nat):Option (List Int):=(ω g.bj.length).findSome? λo:Nat=>lJ g c v (gQ c i) o
def gX (g:bY) (c:List Int):Option (List Int):=(ω c.length).findSome? λi=>uo g c (cR g c) i
theorem zo {n:Nat} {f:Nat->Option (List Int)} (h:∀i,i<n->f i=none):(ω n).findSome? f=none:=by
 simp_all
theorem zn {n i:Nat} {f:Nat->Option (List Int)} {t:List Int} (c:i<n) (h:∀j,j<i->f j=none) (b:f i=some t):(ω n).findSome? f=some t:=by
 have e:ω n=ω i++(i::(ω (n - (i+1))).map λk=>i+1+k):=by
  have a:=@List.range_add i (n - i);rw[show i+(n - i)=n by omega] at a;rw[a,show n - i=(n - (i+1))+1 by omega,List.range_succ_eq_map];simp only[π,γ5,Nat.add_zero];congr 2;apply γ0;grind
 simp_all[zo]
def sj (g:bY):Prop:=mc g/\∀o∈g.bj,0<=o.value/\o.value<=1000000
def Ed:M9:=⟨74,bY×List Int,.cons yd (.one (cL (.i .i64))),λa=>sj a.1/\(a.2.length<=900/\∀x∈a.2,0<=x/\x<a.1.bj.length),λa=> .Gz [.row (.i .i64) ((gX a.1 a.2).getD []),.sb (gX a.1 a.2).isSome]⟩
def Ec (g:bY) (c:List Int):TN:=[.cells (pg g) 130 3 false,.cells [.si .i64 (cR g c)] 2 1 false]
def VQ (g:bY) (c:List Int):Nat->bG
 |4=> .inv Int (λi=>⟨[(1,.row (.i .i64) c),(2,.ptr 0 0 3),(7,.fn (.func 108) [] [.ptr 0 0 3,.ptr 1 0 1]),(19,.si .i64 c.length),(20,.si .i64 i)],Ec g c⟩)
   (λs=>iS s 20) (λi=>(0<=i/\i<=c.length)/\∀k:Nat,(k:Int)<i->uo g c (cR g c) k=none) (λi=>(c.length - i).toNat) λi k=>match k with
   |8=> .inv Int (λo=>⟨[(1,.row (.i .i64) c),(2,.ptr 0 0 3),(7,.fn (.func 108) [] [.ptr 0 0 3,.ptr 1 0 1]),(9,.row (.i .i64) (gQ c i.toNat)),(19,.si .i64 c.length),(20,.si .i64 i),(28,.si .i64 g.bj.length),(29,.si .i64 o)],Ec g c⟩)
     (λs=>iS s 29) (λo=>(0<=o/\o<=g.bj.length)/\∀k:Nat,(k:Int)<o->lJ g c (cR g c) (gQ c i.toNat) k=none) (λo=>(g.bj.length - o).toNat) λo k=>match k with
     |15=> .inv Int (λz=>⟨[(1,.row (.i .i64) c),(2,.ptr 0 0 3),(7,.fn (.func 108) [] [.ptr 0 0 3,.ptr 1 0 1]),(9,.row (.i .i64) (gQ c i.toNat)),(10,.si .i64 o),(12,.si .i64 z),(19,.si .i64 c.length),(20,.si .i64 i),(28,.si .i64 g.bj.length),(29,.si .i64 o)],Ec g c⟩)
       (λs=>iS s 12) (λz=>(o<z/\z<=g.bj.length)/\∀k:Nat,(k:Int)<z->nJ g c (cR g c) (gQ c i.toNat) o k=none) (λz=>(g.bj.length - z).toNat) λ_ _=> .look
     |_=> .look
   |_=> .look
 |_=> .look
theorem Iy:Holds Tryz.prog Ed:=by
 refine j9 (L:=[zq,vF,Ej,Eh]) (W:=fT [Ee]) Ed (λa=>VQ a.1 a.2) (kf (by simpa using Iv)) (by simpa using⟨yQ,qQ,Iu,It⟩) ?_;rintro⟨g,c⟩ ⟨⟨hg,hv⟩,hcl,hci⟩;simp only at hg hv hcl hci;refine NH (let a:=γf .i64;let b:=Ψ;let d:=(0:Int);let e:=VI .i64;let f:=γv .i64 0;let h:=SV.Gz;let j:=(1:Int);let l:=ew.i .i64;let n:=γK 0 0 3;let p:=SV.fn (Fn.func 108) [] [n,γK 1 0 1];let u:=(↑c.length:Int);let s:=a u;let q:=iZ.cells [b l.qE g.rows,b l g.bounds,b ew.bu g.bj] 130 3 false;let r:=iZ.cells [a (cR g c)] 2 1 false;let F:=(↑g.bj.length:Int);let m:=(↑g.bj.length:Int);let v:=a m;let G:=h [b l ((gX g c).getD []),γy (gX g c).isSome];(mc g/\nB g c/\oa g c)/\((((b l c).bi (b l c)/\n.bi n/\p.bi p/\(a (↑c.length:Int)).bi s/\(f).bi (a 0)/\True)/\q.bi q/\r.bi r/\True)/\(d<=d/\d<=u)/\∀(k:Nat),(↑k:Int)<d->uo g c (cR g c) k=none)/\∀(x:Int),let z:=x+j;let t:=gQ c x.toNat;let w:=b l t;let H:=a z;((d<=x/\x<=u)/\∀(k:Nat),(↑k:Int)<x->uo g c (cR g c) k=none)->(decide (x<u)=true->(c.length<=1000/\d<=x/\x<u)/\((((b l c).bi (b l c)/\n.bi n/\p.bi p/\(b l (Γ x.toNat c++List.drop z.toNat c)).bi w/\s.bi s/\(a x).bi (a x)/\(a F).bi v/\(f).bi (a 0)/\True)/\q.bi q/\r.bi r/\True)/\(d<=d/\d<=m)/\∀(k:Nat),(↑k:Int)<d->lJ g c (cR g c) t (↑k:Int)=none)/\∀(x_1:Int),let o:=x_1+j;let y:=a x;let A:=a o;let C:=dx (t++[x_1]);let I:=mb g (cR g c) C;((d<=x_1/\x_1<=m)/\∀(k:Nat),(↑k:Int)<x_1->lJ g c (cR g c) t (↑k:Int)=none)->(decide (x_1<m)=true->c.length<=1000/\(decide (x_1∈c)=true->e o/\(((b l c).bi (b l c)/\n.bi n/\p.bi p/\w.bi w/\s.bi s/\y.bi y/\v.bi v/\A.bi A/\True)/\q.bi q/\r.bi r/\True)/\((d<=o/\o<=m)/\∀(k:Nat),(↑k:Int)<o->lJ g c (cR g c) t (↑k:Int)=none)/\(m - o).toNat<(m - x_1).toNat)/\(decide (x_1∈c)=false->(t.length<=1000/\1<=1/\1<=1000)/\(mc g/\nB g C/\oa g C)/\(I=true->(h [b l C,δd true]).bi G)/\(I=false->e o/\((((b l c).bi (b l c)/\n.bi n/\p.bi p/\w.bi w/\(a x_1).bi (a x_1)/\A.bi A/\s.bi s/\y.bi y/\v.bi v/\(a x_1).bi (a x_1)/\True)/\q.bi q/\r.bi r/\True)/\(x_1<o/\o<=m)/\∀(k:Nat),(↑k:Int)<o->nJ g c (cR g c) t x_1 (↑k:Int)=none)/\∀(x:Int),let B:=x+j;let D:=a x_1;let J:=a B;let E:=dx (t++[x_1,x]);let K:=mb g (cR g c) E;let L:=e B/\(((b l c).bi (b l c)/\n.bi n/\p.bi p/\w.bi w/\D.bi D/\J.bi J/\s.bi s/\y.bi y/\v.bi v/\D.bi D/\True)/\q.bi q/\r.bi r/\True)/\((x_1<B/\B<=m)/\∀(k:Nat),(↑k:Int)<B->nJ g c (cR g c) t x_1 (↑k:Int)=none)/\(m - B).toNat<(m - x).toNat;((x_1<x/\x<=m)/\∀(k:Nat),(↑k:Int)<x->nJ g c (cR g c) t x_1 (↑k:Int)=none)->(decide (x<F)=true->c.length<=1000/\(decide (x∈c)=true->L)/\(decide (x∈c)=false->(t.length<=1000/\1<=2/\2<=1000)/\(mc g/\nB g E/\oa g E)/\(K=true->(h [b l E,δd true]).bi G)/\(K=false->L)))/\(decide (x<F)=false->e o/\(((b l c).bi (b l c)/\n.bi n/\p.bi p/\w.bi w/\s.bi s/\y.bi y/\v.bi v/\A.bi A/\True)/\q.bi q/\r.bi r/\True)/\((d<=o/\o<=m)/\∀(k:Nat),(↑k:Int)<o->lJ g c (cR g c) t (↑k:Int)=none)/\(m - o).toNat<(m - x_1).toNat))))/\(decide (x_1<m)=false->e z/\(((b l c).bi (b l c)/\n.bi n/\p.bi p/\s.bi s/\H.bi H/\True)/\q.bi q/\r.bi r/\True)/\((d<=z/\z<=u)/\∀(k:Nat),(↑k:Int)<z->uo g c (cR g c) k=none)/\(u - z).toNat<(u - x).toNat))/\(decide (x<u)=false->(h [b l [],δd false]).bi G)) (by kernel_rfl) ?_;conv=>zeta
 try simp only[vcs]
 have hvo:∀d:List Int,(∀x∈d,0<=x/\x<g.bj.length)->oa g d:=λd hd x hx=>hv _ (cE (by have:=hd x hx;omega));have hout:∀i:Nat,(gQ c i).length<=900/\∀x∈gQ c i,x∈c:=λi=>by
  unfold gQ;refine⟨by rw[γh,γx,List.length_drop];omega,λx hx=>?_⟩;rw[γi] at hx;exact hx.elim γl List.mem_of_mem_drop
 have hnew:∀(i:Nat) (d:List Int),d.length<=2->(∀x∈d,0<=x/\x<g.bj.length)->mc g/\nB g (dx (gQ c i++d))/\oa g (dx (gQ c i++d)):=λi d hd hx=>by
  have h2:∀x∈dx (gQ c i++d),0<=x/\x<g.bj.length:=λx h=>by
   rw[zp,γi] at h;exact h.elim (λh=>hci x ((hout i).2 x h)) (hx x)
  have:=(hout i).1;exact⟨hg,⟨by rw[pC,γh];omega,h2⟩,hvo _ h2⟩
 have hg1:=hg.1;refine⟨⟨hg,⟨by omega,hci⟩,hvo c hci⟩,⟨by omega,λk h=>by omega⟩,?_⟩;rintro i ⟨⟨i0,i1⟩,hi⟩;refine⟨λhil=>⟨⟨by omega,i0,hil⟩,⟨by unfold gQ;rw[show(i+1).toNat=i.toNat+1 by omega],by omega,λk h=>by omega⟩,?_⟩,λhil=>?_⟩
 ·have ho:=hout i.toNat;have bp:∀t,uo g c (cR g c) i.toNat=some t->gX g c=some t:=λt ht=>zn (i:=i.toNat) (by omega) (λj hj=>hi j (by omega)) ht;rintro o ⟨⟨o0,o1⟩,hk⟩;refine⟨λhol=>⟨by omega,λhin=>⟨by omega,⟨by omega,λk h=>?_⟩,by omega⟩,λhin=>⟨by omega,hnew _ _ (by simp) (by simp;omega),λhb=>?_,λhb=>⟨by omega,⟨by omega,λk h=>?_⟩,?_⟩⟩⟩,λhol=>⟨by omega,⟨by omega,λk h=>?_⟩,by omega⟩⟩
  ·by_cases h2:(k:Int)<o;·exact hk k h2
   ·rw[show(k:Int)=o by omega];unfold lJ;rw[if_pos hin]
  ·have h2:lJ g c (cR g c) (gQ c i.toNat) o=some (dx (gQ c i.toNat++[o])):=by
    unfold lJ;rw[if_neg hin,if_pos hb]
   have h3:=bp _ (zn (f:=λo:Nat=>lJ g c (cR g c) (gQ c i.toNat) o) (i:=o.toNat) (by omega) (λj hj=>hk j (by omega)) (by simp only[show((o.toNat:Nat):Int)=o by omega];exact h2));rw[h3];exact⟨rfl,rfl⟩
  ·unfold nJ;rw[if_pos (.inl (by omega))]
  ·rintro z ⟨⟨z0,z1⟩,hz⟩;refine⟨λhzl=>⟨by omega,λhin2=>⟨by omega,⟨by omega,λk h=>?_⟩,by omega⟩,λhin2=>⟨by omega,hnew _ _ (by simp) (by simp;omega),λhb2=>?_,λhb2=>⟨by omega,⟨by omega,λk h=>?_⟩,by omega⟩⟩⟩,λhzl=>⟨by omega,⟨by omega,λk h=>?_⟩,by omega⟩⟩
   ·by_cases h2:(k:Int)<z;·exact hz k h2
    ·rw[show(k:Int)=z by omega];unfold nJ;rw[if_pos (.inr hin2)]
   ·have h4:¬z<=o:=by omega
    have h5:nJ g c (cR g c) (gQ c i.toNat) o z=some (dx (gQ c i.toNat++[o,z])):=by
     unfold nJ;rw[if_neg (λh=>h.elim h4 hin2),if_pos hb2]
    have h2:lJ g c (cR g c) (gQ c i.toNat) o=some (dx (gQ c i.toNat++[o,z])):=by
     unfold lJ;rw[if_neg hin,if_neg (by rw[hb];simp)];exact zn (f:=λk:Nat=>nJ g c (cR g c) (gQ c i.toNat) o k) (i:=z.toNat) (by omega) (λj hj=>hz j (by omega)) (by simp only[show((z.toNat:Nat):Int)=z by omega];exact h5)
    have h3:=bp _ (zn (f:=λo:Nat=>lJ g c (cR g c) (gQ c i.toNat) o) (i:=o.toNat) (by omega) (λj hj=>hk j (by omega)) (by simp only[show((o.toNat:Nat):Int)=o by omega];exact h2));rw[h3];exact⟨rfl,rfl⟩
   ·by_cases h2:(k:Int)<z;·exact hz k h2
    ·rw[show(k:Int)=z by omega];unfold nJ;rw[hb2];simp
   ·by_cases h2:(k:Int)<o;·exact hk k h2
    ·rw[show(k:Int)=o by omega];unfold lJ;rw[if_neg hin,if_neg (by rw[hb];simp)];exact zo λj hj=>hz j (by omega)
  ·by_cases h2:(k:Int)<i;·exact hi k h2
   ·rw[show k=i.toNat by omega];exact zo λj hj=>hk j (by omega)
 ·have:gX g c=none:=zo λj hj=>hi j (by omega);rw[this];exact⟨rfl,rfl⟩
def dO (n:Nat) (c:List Int):Prop:=c.Pairwise (·<·)/\∀x∈c,0<=x/\x<n
theorem EZ {n:Nat}:∀{c:List Int} {a:Int},a<=n->c.Pairwise (·<·)->(∀x∈c,a<=x/\x<n)->(c.length:Int)<=n - a
 |[],a,e,_,_=>by simp;omega;|x::c,a,e,h,b=>by
  have f:=b x (by simp);rw[γB] at h;have:=@EZ n c (x+1) (by omega) h.2 λy d=>⟨by grind,(b y (by simp[d])).2⟩;grind
theorem pB {n:Nat} {c:List Int} (h:dO n c):c.length<=n:=by
 have:=EZ (n:=n) (a:=0) (by omega) h.1 h.2;omega
theorem EY {n:Nat} {c:List Int} (f:c.Nodup) (e:∀x∈c,0<=x/\x<n):dO n (dx c):=by
 refine⟨?_,λx i=>e x (zp.1 i)⟩;have g:(dx c).Pairwise (·<=·):=by
  have:=List.pairwise_mergeSort (le:=λx y:Int=>decide (x<=y)) (λa b d f e=>by grind) (λa b=>by simp;omega) c;exact this.imp λh=>of_decide_eq_true h
 have j:(dx c).Pairwise (·≠·):=(δx _ _).symm.nodup f;exact(g.and j).imp λh=>by omega
theorem ya {n:Nat} {c:List Int} (h:dO n c):c.Nodup:=h.1.imp λh=>by omega
theorem MQ {c:List Int} {i:Nat}:(gQ c i).Sublist c:=by
 unfold gQ;rw[List.drop_add_one_eq_tail_drop];have:=(List.Sublist.refl (c.take i)).append (List.tail_sublist (c.drop i));simp_all
theorem vE {g:bY} {c t:List Int} (h:gX g c=some t) (d:dO g.bj.length c):mb g (cR g c) t=true/\dO g.bj.length t:=by
 obtain⟨i,l,h⟩:=δX h;obtain⟨o,m,h⟩:=δX h;rw[γq] at l m;have f:(gQ c i).Nodup:=(ya d).sublist MQ;have b:∀x∈gQ c i,x∈c:=λx a=>MQ.subset a;unfold lJ at h;split at h;·cases h
 ·rename_i p;split at h
  ·rename_i e;injection h with h;subst h;refine⟨e,EY ?_ λx a=>?_⟩;·grind
   ·rw[γi] at a;rcases a with a|a;·exact d.2 x (b x a)
    simp_all
  ·obtain⟨k,j,h⟩:=δX h;rw[γq] at j;unfold nJ at h;split at h;·cases h
   ·rename_i n;split at h
    ·rename_i e;injection h with h;subst h;refine⟨e,EY ?_ λx a=>?_⟩;·grind
     ·rw[γi] at a;rcases a with a|a;·exact d.2 x (b x a)
      grind
    ·cases h
def kS (g:bY):Nat->List Int->List Int
 |0,c=>c
 |n+1,c=>match gX g c with
  |some t=>kS g n t
  |none=>c
def jT (g:bY) (c:List Int):List Int:=kS g (1000000000 - cR g c).toNat c
theorem pA {g:bY} (a:sj g) {c:List Int} (h:dO g.bj.length c):0<=cR g c/\cR g c<=1000000000:=by
 have d:=Ek (f:=λx=>(bN g.bj x.toNat ew.bu.bw).value) (c:=c) (k:=c.length) (m:=1000000) (by omega) λx b=>a.2 _ (cE (by have:=h.2 x b;omega));rw[ψ] at d;have e:=pB h;have i:=a.1.1.2.2;grind[cR]
theorem VP {g:bY} (d:sj g):∀{n m:Nat} {c:List Int},dO g.bj.length c->(1000000000 - cR g c).toNat<=n->(1000000000 - cR g c).toNat<=m->kS g n c=kS g m c:=by
 intro n;induction n with
 |zero=>
  intro m c a k j;have h:=pA d a;cases m with
  |zero=>rfl;|succ m=>
   unfold kS;cases f:gX g c with
   |none=>rfl;|some t=>
    obtain⟨b,e⟩:=vE f a;have i:=pA d e;unfold mb at b;grind
 |succ n l=>
  intro m c a k j;have h:=pA d a;cases f:gX g c with
  |none=>
   cases m<;>grind[kS];|some t=>
   obtain⟨b,e⟩:=vE f a;have i:=pA d e;unfold mb at b;simp only[θ,decide_eq_true_eq] at b;cases m<;>grind[kS]
theorem VO {g:bY} (d:sj g) {c t:List Int} (b:dO g.bj.length c) (h:gX g c=some t):jT g c=jT g t:=by
 obtain⟨a,e⟩:=vE h b;have f:=pA d b;have i:=pA d e;unfold mb at a;simp only[θ,decide_eq_true_eq] at a;unfold jT;rw[show(1000000000 - cR g c).toNat=((1000000000 - cR g c).toNat - 1)+1 by omega];grind[kS,VP]
theorem MP {g:bY} {c:List Int} (h:gX g c=none):jT g c=c:=by
 unfold jT;generalize (1000000000 - cR g c).toNat=n;cases n<;>grind[kS]
def VN (p:cj) (c:List Int):Prop:=nW p=0/\dO p.bj.length c
theorem MN {p:cj} (c:nW p=0):sj (bV p):=by
 have a:=cT c;refine⟨Mo (by have:=a.2.1;omega),λo b=>?_⟩;have:=a.2.2.2.2 o b;omega
theorem zm {l:List bC}:∀{c:List Int} {a:Int}, -1<=a->(dz l a c).isSome=true->c.Pairwise (·<·)/\∀x∈c,a<x/\x<l.length
 |[],a,_,_=>⟨δv,by simp⟩
 |i::c,a,f,h=>by
  simp only[dz] at h;split at h;·simp at h
  ·rename_i g;rw[Option.isSome_map] at h;obtain⟨d,e⟩:=@zm l c i (by omega) h;refine⟨γB.2 ⟨λx b=>(e x b).1,d⟩,λx b=>?_⟩;grind
theorem sh {p:cj} {c:List Int} (h:bR p c=0):VN p c:=by
 unfold bR at h;split at h;·omega
 ·rename_i b;split at h;·cases h
  ·rename_i d;have a:=@zm p.bj c (-1) (by omega) (by grind[dW]);exact⟨γc.1 b,a.1,λx e=>by grind⟩
def fK (p:cj) (c:List Int):bB:=if bR p c=0 then⟨jT (bV p) c,cR (bV p) (jT (bV p) c)⟩ else⟨[],0⟩
def x_:M9:=⟨54,cj×bB,.cons cO (.one kr),λa=>a.2.bn.length<=9223372036854775807,λa=>kr.put (fK a.1 a.2.bn)⟩
def VM (p:cj) (a:bB):Nat->bG
 |6=> .inv (List Int×List Int×Bool) (λx=>⟨[(4,.ptr 2 0 2),(5,.ptr 3 0 3),(6,.row (.i .i64) x.1),(7,.row (.i .i64) x.2.1),(8,.sb x.2.2)],[.cells p.ss 27 20 false,.cells [.row (.i .i64) a.bn,.si .i64 a.value] 40 2 false,.cells [.sc (.slice none 0 0),.il .i64 0] 40 2 false,.cells (pg (bV p)) 130 3 false]⟩)
   (λs=>(rS (.i .i64) s 6,rS (.i .i64) s 7,bS s 8)) (λx=>dO p.bj.length x.1/\(x.2.1=(gX (bV p) x.1).getD []/\x.2.2=(gX (bV p) x.1).isSome)/\jT (bV p) x.1=jT (bV p) a.bn) (λx=>(1000000000 - cR (bV p) x.1).toNat) λ_ _=> .look
 |_=> .look
theorem t_:Holds Tryz.prog x_:=by
 refine bI (L:=[vP,zt,ye,Ed,vF]) x_ (λa=>VM a.1 a.2) (by simpa using⟨qZ,yR,yO,Iy,qQ⟩) ?_;rintro⟨p,⟨c,v⟩⟩ hl;replace hl:c.length<=9223372036854775807:=hl;refine NH (let a:=γf .i64;let b:=Ψ;let d:=iZ.cells;let e:=(1000000000:Int);let f:=(0:Int);let g:=γy;let h:=SV.agg;let y:=decide (bR p c≠f);let j:=ew.i .i64;let z:=[γv .i64 0];let A:=h [b j (fK p c).bn,a (fK p c).value];let l:=γK 2 0 2;let m:=γK 3 0 3;let n:=(gX (bV p) c).getD [];let o:=(gX (bV p) c).isSome;let q:=d [a p.bm.a0,a p.bm.a1,a p.bm.a2,a p.bm.a3,a p.bm.a4,a p.bm.a5,a p.bs.a0,a p.bs.a1,a p.bs.a2,a p.bs.a3,a p.bs.a4,a p.bs.a5,a p.bt.a0,a p.bt.a1,a p.bt.a2,a p.bt.a3,a p.bt.a4,a p.bt.a5,b j p.bk,b ew.bu p.bj] 27 20 false;let r:=d [b j c,a v] 40 2 false;let s:=d (SV.sc (Value.slice none 0 0)::z) 40 2 false;let t:=d [b j.qE (bV p).rows,b j (bV p).bounds,b ew.bu (bV p).bj] 130 3 false;let w:=p.bj.length;let u:=jT (bV p) c;c.length<=9223372036854775807/\(y=true->(h (b j []::z)).bi A)/\(y=false->True/\c.length<=1000000/\(sj (bV p)/\c.length<=900/\∀(x:Int),x∈c->f<=x/\x<(↑(bV p).bj.length:Int))/\(((l.bi l/\m.bi m/\(b j c).bi (b j c)/\(b j n).bi (b j n)/\(g o).bi (g o)/\True)/\q.bi q/\r.bi r/\s.bi s/\t.bi t/\True)/\dO w c/\(n=n/\o=o)/\u=u)/\∀(x:List Int×List Int×Bool),let k:=gX (bV p) x.2.1;let B:=b j (k.getD []);let C:=cR (bV p) x.1;dO w x.1/\(x.2.1=(gX (bV p) x.1).getD []/\x.2.2=(gX (bV p) x.1).isSome)/\jT (bV p) x.1=u->(x.2.2=true->(sj (bV p)/\x.2.1.length<=900/\∀(x_1:Int),x_1∈x.2.1->f<=x_1/\x_1<(↑(bV p).bj.length:Int))/\((l.bi l/\m.bi m/\(b j x.2.1).bi (b j x.2.1)/\B.bi B/\(g k.isSome).bi (g k.isSome)/\True)/\q.bi q/\r.bi r/\s.bi s/\t.bi t/\True)/\(dO w x.2.1/\(k.getD []=k.getD []/\k.isSome=k.isSome)/\jT (bV p) x.2.1=u)/\(e - cR (bV p) x.2.1).toNat<(e - C).toNat)/\(x.2.2=false->(mc (bV p)/\nB (bV p) x.1/\oa (bV p) x.1)/\(h [b j x.1,a C]).bi A))) (by kernel_rfl) ?_;conv=>zeta
 try simp only[vcs]
 refine⟨by omega,λh=>by simp only[fK,if_neg h];rfl,λh=>?_⟩;have hf:bR p c=0:=γc.1 h;obtain⟨hc,ha⟩:=sh hf;have hg:=MN hc;have h160:=(cT hc).2.1;have hval:∀d,dO p.bj.length d->mc (bV p)/\nB (bV p) d/\oa (bV p) d:=λd hd=>by
  have h1:=pB hd;exact⟨hg.1,⟨by omega,hd.2⟩,λx hx=>hg.2 _ (cE (by have:=hd.2 x hx;show x.toNat<p.bj.length;omega))⟩
 have hlen:=pB ha;refine⟨by omega,⟨hg,by omega,ha.2⟩,ha,?_⟩;rintro⟨d,t,b⟩ ⟨hd,⟨ht,hb⟩,hi⟩;simp only at hd ht hb hi ⊢;have hdl:=pB hd;refine⟨λhbt=>?_,λhbf=>?_⟩
 ·rw[hbt] at hb;obtain⟨t',he⟩:=Option.isSome_iff_exists.1 hb.symm;rw[he] at ht;simp only[Option.getD_some] at ht;subst ht;obtain⟨h1,h2⟩:=vE he hd;have h3:=pB h2;have h3':t.length<=p.bj.length:=h3;have hb2:=pA hg h2;have hb1:=pA hg (c:=d) hd;unfold mb at h1;simp only[θ,decide_eq_true_eq] at h1;exact⟨⟨hg,by omega,h2.2⟩,⟨h2,by rw[<-VO hg hd he];exact hi⟩,by omega⟩
 ·rw[hbf] at hb;have he:gX (bV p) d=none:=by
   cases hh:gX (bV p) d with
   |none=>rfl;|some t=>rw[hh] at hb;cases hb
  refine⟨hval d hd,?_⟩;have h1:jT (bV p) c=d:=by rw[<-hi,MP he]
  simp only[fK,if_pos hf,h1];rfl
theorem MM {l:List bC}:∀{c:List Int} {a:Int}, -1<=a->c.Pairwise (·<·)->(∀x∈c,a<x/\x<l.length)->dz l a c=some (c.map λx=>bN l x.toNat ew.bu.bw)
 |[],_,_,_,_=>rfl
 |i::c,a,f,h,d=>by
  rw[γB] at h;have e:=d i (by simp);simp only[dz];rw[if_neg (by omega),@MM l c i (by omega) h.2 λx b=>⟨h.1 x b,(d x (by simp[b])).2⟩];rfl
theorem vD {p:cj} {c:List Int} (h:dO p.bj.length c):dz p.bj (-1) c=some (c.map (oI p)):=MM (by omega) h.1 λx a=>by have:=h.2 x a;omega
theorem EX {p:cj} (l:nW p=0) {c:List Int} (h:dO p.bj.length c):bR p c=0↔kb (bV p) c=true:=by
 have k:=vD h;have n:dW p c=true:=by grind[dW]
 have i:cF p c=c.map (oI p):=by grind[cF]
 have m:fj p (c.map (oI p))=kb (bV p) c:=by
  have f:nR p=p.bk.length+12:=by simp_all[nR]
  have g:(bV p).bounds.length=p.bk.length+12:=by show(jv p (nR p)).length=_;rw[zu,f]
  unfold fj kb;rw[g];have d:∀r:Nat,r<p.bk.length+12->bN (bV p).bounds r 0=cB p r/\kT (bV p) c r=bZ p (c.map (oI p)) r:=λr j=>by
   refine⟨?_,?_⟩
   ·show bN (jv p (nR p)) r 0=_;grind[b_,jv]
   ·have a:bN (bV p).rows r []=gv p r p.bj.length:=by
     show bN (kU p (nR p)) r []=_;grind[b_,kU]
    unfold kT bZ;rw[a,γ5];congr 1;refine γ0 λx b=>?_;have:=h.2 x b;have e:x.toNat<p.bj.length:=by omega
    show bN (gv p r p.bj.length) x.toNat 0=dv p r (bN p.bj x.toNat ew.bu.bw);grind[b_,gv]
  grind
 simp_all[bR]
theorem Uw {p:cj} (d:nW p=0) {c:List Int} (h:dO p.bj.length c):cA p c=cR (bV p) c:=by
 have a:cF p c=c.map (oI p):=by grind[cF,vD]
 unfold cA;rw[if_pos d,a];clear h a;induction c with
 |nil=>rfl;|cons x c b=>
  have e:cR (bV p) (x::c)=(oI p x).value+cR (bV p) c:=by simp[cR];rfl
  rw[e,<-b];rfl
theorem ML {g:bY} {n:Nat}:∀{l c:List Int},dO n c->l.Nodup->(∀x∈l,x∉c/\0<=x/\x<n)->dO n (l.foldl (stepG g) c)
 |[],c,b,_,_=>b
 |x::l,c,b,e,d=>by
  rw[γY] at e;have i:=d x (by simp);have f:dO n (stepG g c x):=by
   unfold stepG;split
   ·refine EY ?_ λy a=>?_;·grind[ya]
    ·rw[γi] at a;rcases a with a|a;·exact b.2 y a
     simp_all
   ·exact b
  show dO n (l.foldl (stepG g) (stepG g c x));refine ML f e.2 λy a=>⟨λh=>?_,(d y (by simp[a])).2⟩;grind[Mn]
theorem Uv {p:cj}:(fS p).Nodup:=by
 unfold fS;split;·exact(xL (D:=eC p) (l:=bP p.bj.length)).symm.nodup (pD.imp λh=>by omega)
 simp_all
theorem Uu {p:cj} {k:Nat}:dO p.bj.length (mM (bV p) ((fS p).take k)):=
 ML ⟨δv,by simp⟩ (Uv.sublist (List.take_sublist _ _)) λx a=>⟨by simp,(Eg (γl a)).2⟩
def di (c:Nat->Rat):(List Nat->Rat)->List Nat->Rat
 |_,[]=>0
 |f,i::R=>c i*f R - di c (λl=>f (i::l)) R
theorem EW {c:Nat->Rat}:∀{R:List Nat},di c (λ_=>0) R=0
 |[]=>rfl
 |i::R=>by simp only[di,EW];grind
theorem EV {c:Nat->Rat} {p q:Rat}:∀{R:List Nat} {f g:List Nat->Rat},di c (λl=>p*f l+q*g l) R=p*di c f R+q*di c g R
 |[],_,_=>by grind[di];|i::R,f,g=>by
  simp only[di,@EV c p q R];grind
theorem MK {c d:Nat->Rat} {p q:Rat}:∀{R:List Nat} {f:List Nat->Rat},di (λi=>p*c i+q*d i) f R=p*di c f R+q*di d f R
 |[],_=>by grind[di];|i::R,f=>by
  simp only[di,@MK c d p q R];grind
theorem MJ {c:Nat->Rat} {p:Rat} {R:List Nat} {f g:List Nat->Rat}:di c (λl=>p*f l - g l) R=p*di c f R - di c g R:=by
 have:=@EV c p (-1) R f g;grind
theorem EU {a b:Nat->Rat}:∀{R:List Nat} {f:List Nat->Rat},di a (di b f) R= - di b (di a f) R
 |[],_=>by grind[di];|i::R,f=>by
  have d:di a (λl=>di b f (i::l)) R=b i*di a f R - di a (di b λl=>f (i::l)) R:=MJ;have c:di b (λl=>di a f (i::l)) R=a i*di b f R - di b (di a λl=>f (i::l)) R:=MJ;have h:=@EU a b R λl=>f (i::l);grind[di]
theorem Ut {a:Nat->Rat} {f:List Nat->Rat}:di a (di a f)=λ_=>0:=by
 grind[EU]
def vC (R:List Nat):Rat:=if R=[] then 1 else 0
def jc (a:List (Nat->Rat)):List Nat->Rat:=a.foldr di vC
theorem MI {c:Nat->Rat} {a:List (Nat->Rat)}:jc (c::a)=di c (jc a):=rfl
theorem Le {a:Nat->Rat}:∀{b:List (Nat->Rat)} {f:List Nat->Rat},di a (b.foldr di (di a f))=λ_=>0
 |[],f=>Ut
 |c::b,f=>by
  funext R;simp only[ε6];rw[EU,@Le a b f,EW];rfl
theorem fold_zero:∀{cs:List (Nat->Rat)},cs.foldr di (λ_=>0)=λ_=>0
 |[]=>rfl
 |c::cs=>by
  rw[ε6,fold_zero];grind[EW]
theorem Ld {a:Nat->Rat} {p m q:List (Nat->Rat)}:jc (p++a::(m++a::q))=λ_=>0:=by
 grind[jc,Le,fold_zero]
theorem Lc {p q:Rat}:∀{a:List (Nat->Rat)} {f g:List Nat->Rat} {R:List Nat},a.foldr di (λl=>p*f l+q*g l) R=p*a.foldr di f R+q*a.foldr di g R
 |[],_,_,_=>rfl
 |c::a,f,g,R=>by
  simp only[ε6];rw[<-EV];congr 1;funext l;exact Lc
theorem Lb {c d:Nat->Rat} {p q:Rat} {a b:List (Nat->Rat)} {R:List Nat}:jc (a++(λi=>p*c i+q*d i)::b) R=p*jc (a++c::b) R+q*jc (a++d::b) R:=by
 unfold jc;simp only[List.foldr_append,ε6];rw[<-Lc];have e:di (λi=>p*c i+q*d i) (ζ8 di vC b)=λl=>p*di c (ζ8 di vC b) l+q*di d (ζ8 di vC b) l:=by
  grind[MK]
 rw[e]
def dY (M:Nat) (q:Rat):Prop:=∃z:Int,q=(z:Rat)/\z.natAbs<=M
theorem La {c:Nat->Rat} {M K:Nat}:∀{R:List Nat} {f:List Nat->Rat},(∀i∈R,dY M (c i))->(∀l,l.length+1=R.length->(∀i∈l,i∈R)->dY K (f l))->dY (R.length*(M*K)) (di c f R)
 |[],_,_,_=>⟨0,by simp[di],by simp⟩
 |i::R,f,e,g=>by
  simp only[di,γG];obtain⟨y,q,h⟩:=@La c M K R (λl=>f (i::l)) (λj a=>e j (by simp[a])) λl n p=>g _ (by simp_all) λj a=>by
   grind
  obtain⟨u,o,b⟩:=e i (by simp);obtain⟨v,k,d⟩:=g R (by simp) λj a=>by simp[a]
  refine⟨u*v - y,?_,?_⟩;·simp_all
  ·have m:(u*v).natAbs<=M*K:=by
    rw[εr];exact Nat.mul_le_mul b d
   grind
def ma (M:Nat):Nat->Nat
 |0=>1
 |n+1=>(n+1)*(M*ma M n)
theorem zl {M:Nat}:∀{cs:List (Nat->Rat)} {R:List Nat},cs.length=R.length->(∀c∈cs,∀i∈R,dY M (c i))->dY (ma M R.length) (jc cs R)
 |[],R,b,_=>by
  have:R=[]:=List.eq_nil_of_length_eq_zero (by simp_all);subst this;exact⟨1,by simp[jc,vC],by simp[ma]⟩;|c::cs,R,b,e=>by
  rw[MI];cases R with
  |nil=>simp at b;|cons i R=>
   simp only[γG,ma];refine La (e c (by simp)) λl a g=>?_;simp only[γG] at b a;rw[show R.length=l.length by omega];exact zl (by omega) λd f j h=>e d (by simp[f]) j (g j h)
def vB (k:Nat):Nat->Rat:=λi=>if i=k then 1 else 0
theorem K_ {c:Nat->Rat}:∀{R:List Nat} {f:List Nat->Rat},(∀i∈R,c i=0)->di c f R=0
 |[],_,_=>rfl
 |i::R,f,h=>by
  simp only[di];rw[h i (by simp),K_ λj a=>h j (by simp[a])];grind
theorem K9:∀{R:List Nat},R.Nodup->jc (R.map vB) R=1
 |[],_=>by simp[jc,vC];|i::R,h=>by
  rw[γY] at h;rw[π,MI];simp only[di];rw[K_ (c:=vB i) (R:=R) λj a=>by
   unfold vB;grind];rw[K9 h.2];unfold vB;grind
def Oq (n:Nat) (f:Nat->Rat):Rat:=match n with
 |0=>0
 |n+1=>Oq n f+f n
theorem cW:∀{n:Nat} {f g:Nat->Rat},(∀i,i<n->f i=g i)->Oq n f=Oq n g
 |0,_,_,_=>rfl
 |n+1,f,g,h=>by simp only[Oq];rw[cW λi a=>h i (by omega),h n (by omega)]
theorem vA:∀{n:Nat} {f g:Nat->Rat},Oq n (λi=>f i+g i)=Oq n f+Oq n g
 |0,_,_=>by grind[Oq];|n+1,f,g=>by simp only[Oq];rw[vA];grind
theorem sM {c:Rat}:∀{n:Nat} {f:Nat->Rat},Oq n (λi=>c*f i)=c*Oq n f
 |0,_=>by grind[Oq];|n+1,f=>by simp only[Oq];rw[sM];grind
theorem gP:∀{n:Nat},Oq n (λ_=>0)=0
 |0=>rfl
 |n+1=>by simp only[Oq];rw[gP];grind
theorem sL {k:Nat} {x:Rat}:∀{n:Nat},Oq n (λi=>if i=k then x else 0)=if k<n then x else 0
 |0=>by simp[Oq];|n+1=>by
  simp only[Oq];rw[sL];grind
theorem zk {n k:Nat} {f:Nat->Rat} (h:k<n):Oq n f=f k+Oq n λi=>if i=k then 0 else f i:=by
 have a:=@sL k (f k) n;rw[if_pos h] at a;rw[<-a,<-vA];grind[cW]
theorem K8 {a b:List (Nat->Rat)} {R:List Nat} {y:Nat->Rat} {T:Nat->Nat->Rat}:∀{n:Nat},jc (a++(λi=>Oq n λk=>y k*T k i)::b) R=Oq n λk=>y k*jc (a++T k::b) R
 |0=>by
  have e:(λi:Nat=>Oq 0 λk=>y k*T k i)=λi=>(0:Rat)*(λ_=>0) i+0*(λ_=>0) i:=by grind[Oq]
  rw[e,Lb];grind[Oq];|n+1=>by
  have e:(λi:Nat=>Oq (n+1) λk=>y k*T k i)=λi=>(1:Rat)*(λi=>Oq n λk=>y k*T k i) i+y n*T n i:=by
   grind[Oq]
  rw[e,Lb,K8];grind[Oq]
theorem Us {C:List (Nat->Rat)} {R:List Nat} {y:Nat->Rat} {r:Nat} (f:r<C.length):jc (C.set r (λi=>Oq C.length λk=>y k*(C.getD k (λ_=>0)) i)) R=y r*jc C R:=by
 have a:∀c:Nat->Rat,C.set r c=C.take r++c::C.drop (r+1):=λc=>by rw[εI,if_pos f]
 rw[a,K8,zk f];have m:∀k,k<C.length->(if k=r then(0:Rat) else y k*jc (C.take r++C.getD k (λ_=>0)::C.drop (r+1)) R)=0:=by
  intro k g;split;·rfl
  ·rename_i e;have o:jc (C.take r++C.getD k (λ_=>0)::C.drop (r+1)) R=0:=by
    have n:C.getD k (λ_=>0)=C[k]:=by simp_all
    rw[n];rcases Nat.lt_or_gt_of_ne e with h|h
    ·have j:C.take r=C.take k++C[k]::(C.drop (k+1)).take (r - (k+1)):=by
      have b:C[k]::C.drop (k+1)=C.drop k:=ζC g;obtain⟨d,rfl⟩:∃d,r=k+(d+1):=⟨r - (k+1),by omega⟩;rw[List.take_add,<-b,List.take_succ_cons,show k+(d+1) - (k+1)=d by omega]
     grind[Ld]
    ·have j:C.drop (r+1)=(C.drop (r+1)).take (k - (r+1))++C[k]::C.drop (k+1):=by
      have b:C[k]::C.drop (k+1)=C.drop k:=ζC g;rw[b];have l:=γP (k - (r+1)) (C.drop (r+1));rw[δk,show r+1+(k - (r+1))=k by omega] at l;exact l.symm
     rw[j,Ld]
   simp_all
 rw[cW m,gP];have b:C.take r++C.getD r (λ_=>0)::C.drop (r+1)=C:=by
  simp_all
 rw[b];grind
structure Tb where
 VJ:List (List Rat)
 bound:List Rat
 cost:List Rat
 value:Rat
 basic:List Int
 free:List Int
namespace Tb
def cf (t:Tb) (i j:Nat):Rat:=bN (bN t.VJ i []) j 0
def bd (t:Tb) (i:Nat):Rat:=bN t.bound i 0
def cs (t:Tb) (j:Nat):Rat:=bN t.cost j 0
def bv (t:Tb) (i:Nat):Int:=bN t.basic i 0
def fv (t:Tb) (j:Nat):Int:=bN t.free j 0
structure WF (n m:Nat) (t:Tb):Prop where
 VJ:t.VJ.length=m
 row:∀i,i<m->(bN t.VJ i []).length=n
 bound:t.bound.length=m
 cost:t.cost.length=n
 basic:t.basic.length=m
 free:t.free.length=n
def holds (n m:Nat) (t:Tb) (x:Int->Rat) (z:Rat):Prop:=
 (∀i,i<m->x (t.bv i)+Oq n (λj=>t.cf i j*x (t.fv j))=t.bd i)/\z=t.value+Oq n λj=>t.cs j*x (t.fv j)
end Tb
def ju (l:List Rat) (c:Nat) (p:List Rat):List Rat:=(ω l.length).map λj=>if j=c then -(bN l c 0*bN p j 0) else bN l j 0 - bN l c 0*bN p j 0
def jS (l:List Rat) (c:Nat):List Rat:=(ω l.length).map λj=>if j=c then 1 / bN l c 0 else bN l j 0*(1 / bN l c 0)
def eX (t:Tb) (r c:Nat):Tb where
 VJ:=(ω t.VJ.length).map λi=>if i=r then jS (bN t.VJ r []) c else ju (bN t.VJ i []) c (jS (bN t.VJ r []) c);bound:=(ω t.bound.length).map λi=>if i=r then t.bd r*(1 / t.cf r c) else t.bd i - t.cf i c*(t.bd r*(1 / t.cf r c));cost:=ju t.cost c (jS (bN t.VJ r []) c);value:=t.value+t.cs c*(t.bd r*(1 / t.cf r c));basic:=t.basic.set r (t.fv c);free:=t.free.set c (t.bv r)
theorem o5 {a:Type} {f:Nat->a} {n i:Nat} {d:a} (h:i<n):bN ((ω n).map f) i d=f i:=by
 grind[b_]
theorem gC {a:Type} {l:List a} {r i:Nat} {x d:a} (h:r<l.length):bN (l.set r x) i d=if i=r then x else bN l i d:=by
 unfold bN;grind
section
variable {n m:Nat} {t:Tb} {r c:Nat}
theorem K7 {l:List Rat}:(jS l c).length=l.length:=by simp[jS]
theorem zj {l p:List Rat}:(ju l c p).length=l.length:=by simp[ju]
theorem ET {l:List Rat} {j:Nat} (h:j<l.length):bN (jS l c) j 0=if j=c then 1 / bN l c 0 else bN l j 0*(1 / bN l c 0):=o5 h
theorem zh {l p:List Rat} {j:Nat} (h:j<l.length):bN (ju l c p) j 0=if j=c then -(bN l c 0*bN p j 0) else bN l j 0 - bN l c 0*bN p j 0:=o5 h
theorem K6 (h:t.WF n m):(eX t r c).WF n m where
 VJ:=by simp[eX,h.VJ]
 row i a:=by
  simp only[eX];rw[o5 (by rw[h.VJ];exact a)];split;·rename_i e;subst e;rw[K7,h.row _ a]
  ·rw[zj,h.row _ a]
 bound:=by simp[eX,h.bound]
 cost:=by simp only[eX];rw[zj,h.cost]
 basic:=by simp[eX,h.basic]
 free:=by simp[eX,h.free]
theorem xZ (h:t.WF n m) (b:r<m) (e:c<n) {i j:Nat} (d:i<m) (a:j<n):(eX t r c).cf i j=
  if i=r then(if j=c then 1 / t.cf r c else t.cf r j*(1 / t.cf r c)) else if j=c then -(t.cf i c*(1 / t.cf r c)) else t.cf i j - t.cf i c*(t.cf r j*(1 / t.cf r c)):=by
 unfold Tb.cf;simp only[eX];rw[o5 (by rw[h.VJ];exact d)];split;·rw[ET (by rw[h.row _ b];exact a)]
 ·rw[zh (by rw[h.row _ d];exact a)];rw[ET (by rw[h.row _ b];exact a)];simp_all
theorem zg (h:t.WF n m) {i:Nat} (a:i<m):(eX t r c).bd i=if i=r then t.bd r*(1 / t.cf r c) else t.bd i - t.cf i c*(t.bd r*(1 / t.cf r c)):=by
 show bN _ i 0=_;simp only[eX];rw[o5 (by rw[h.bound];exact a)]
theorem K5 (h:t.WF n m) (b:r<m) {j:Nat} (a:j<n):(eX t r c).cs j=if j=c then -(t.cs c*(1 / t.cf r c)) else t.cs j - t.cs c*(t.cf r j*(1 / t.cf r c)):=by
 show bN _ j 0=_;simp only[eX];rw[zh (by rw[h.cost];exact a),ET (by rw[h.row _ b];exact a)];split;·rfl
 ·rfl
theorem ES (h:t.WF n m) (a:r<m) {i:Nat}:(eX t r c).bv i=if i=r then t.fv c else t.bv i:=gC (by rw[h.basic];exact a)
theorem ER (h:t.WF n m) (a:c<n) {j:Nat}:(eX t r c).fv j=if j=c then t.bv r else t.fv j:=gC (by rw[h.free];exact a)
theorem piv_holds (h:t.WF n m) (b:r<m) (k:c<n) (K:t.cf r c≠0) {x:Int->Rat} {z:Rat}:(eX t r c).holds n m x z↔t.holds n m x z:=by
 have d:∀f:Nat->Rat,Oq n (λj=>f j*x (t.fv j))=f c*x (t.fv c)+Oq n (λj=>if j=c then 0 else f j*x (t.fv j)):=λf=>zk k;have e:∀f:Nat->Rat,Oq n (λj=>f j*x ((eX t r c).fv j))=f c*x (t.bv r)+Oq n (λj=>if j=c then 0 else f j*x (t.fv j)):=λf=>by
  rw[zk k,ER h k,if_pos rfl];congr 1;refine cW λj _=>?_;split;·rfl
  ·rename_i p;rw[ER h k,if_neg p]
 have I:Oq n (λj=>if j=c then 0 else(eX t r c).cf r j*x (t.fv j))=(1 / t.cf r c)*Oq n (λj=>if j=c then 0 else t.cf r j*x (t.fv j)):=by
  rw[<-sM];refine cW λj p=>?_;split;·grind
  ·rename_i l;rw[xZ h b k b p,if_pos rfl,if_neg l];grind
 have E:∀f g:Nat->Rat,∀q:Rat,(∀j,j<n->j≠c->g j=f j - q*(t.cf r j*(1 / t.cf r c)))->Oq n (λj=>if j=c then 0 else g j*x (t.fv j))=Oq n (λj=>if j=c then 0 else f j*x (t.fv j))+(-(q*(1 / t.cf r c)))*Oq n (λj=>if j=c then 0 else t.cf r j*x (t.fv j)):=λf g q L=>by
  rw[<-sM,<-vA];refine cW λj p=>?_;grind
 have J:∀j,j<n->j≠c->(eX t r c).cs j=t.cs j - t.cs c*(t.cf r j*(1 / t.cf r c)):=λj p l=>by rw[K5 h b p,if_neg l]
 have B:∀i,i<m->i≠r->∀j,j<n->j≠c->(eX t r c).cf i j=t.cf i j - t.cf i c*(t.cf r j*(1 / t.cf r c)):=λi o a j p l=>by rw[xZ h b k o p,if_neg a,if_neg l]
 have G:=E t.cs _ _ J;have v:=K5 (c:=c) h b k;rw[if_pos rfl] at v;have s:=xZ h b k b k;rw[if_pos rfl,if_pos rfl] at s;have w:=zg (r:=r) (c:=c) h b;rw[if_pos rfl] at w;have u:=ES (c:=c) (i:=r) h b;rw[if_pos rfl] at u;have H:(eX t r c).value=t.value+t.cs c*(t.bd r*(1 / t.cf r c)):=rfl;unfold Tb.holds;constructor
 ·rintro⟨A,F⟩;have C:=A r b;rw[e,I,s,u,w] at C;refine⟨λi o=>?_,?_⟩
  ·by_cases a:i=r
   ·subst a;rw[d];grind
   ·have D:=A i o;have y:=xZ h b k o k;rw[if_neg a,if_pos rfl] at y;rw[e,E _ _ _ (B i o a),ES h b,if_neg a,zg h o,if_neg a,y] at D;rw[d];grind
  ·rw[e,G,v,H] at F;rw[d];grind
 ·rintro⟨A,F⟩;have C:=A r b;rw[d] at C;refine⟨λi o=>?_,?_⟩
  ·by_cases a:i=r
   ·subst a;rw[e,I,s,u,w];grind
   ·have D:=A i o;have y:=xZ h b k o k;rw[if_neg a,if_pos rfl] at y;rw[e,E _ _ _ (B i o a),ES h b,if_neg a,zg h o,if_neg a,y];rw[d] at D;grind
  ·rw[e,G,v,H];rw[d] at F;grind
end
def kR (f:Int->Rat):List Int->Rat
 |[]=>0
 |x::l=>f x+kR f l
theorem w8 {f:Int->Rat}:∀{l k:List Int},kR f (l++k)=kR f l+kR f k
 |[],k=>by grind[kR];|x::l,k=>by simp only[List.cons_append,kR,@w8 f l k];grind
theorem EP {f:Int->Rat} {l k:List Int} (h:l.Perm k):kR f l=kR f k:=by
 induction h<;>grind[kR,swap,trans]
theorem K4:∀{n:Nat} {f:Nat->Rat},Oq (n+1) f=f 0+Oq n λi=>f (i+1)
 |0,f=>by grind[Oq];|n+1,f=>by
  rw[Oq,K4];grind[Oq]
theorem oZ {f:Int->Rat}:∀{l:List Int},kR f l=Oq l.length λk=>f (bN l k 0)
 |[]=>rfl
 |x::l=>by
  rw[γG,K4,kR,oZ];rfl
def iB (n:Nat) (t:Tb) (y:Nat->Rat) (v:Int):Rat:=if v∈t.free then y (t.free.idxOf v) else t.bd (t.basic.idxOf v) - Oq n λj=>t.cf (t.basic.idxOf v) j*y j
section
variable {n m:Nat} {t t0:Tb} {r c:Nat}
theorem nz {l:List Int} {i:Nat} (h:l.Nodup) (a:i<l.length):l.idxOf (bN l i 0)=i:=by
 grind[b_]
theorem lz (h:t.WF n m) (c:(t.basic++t.free).Nodup) {y:Nat->Rat} {j:Nat} (a:j<n):iB n t y (t.fv j)=y j:=by
 have b:j<t.free.length:=by rw[h.free];exact a
 unfold iB Tb.fv;rw[if_pos (by grind[b_]),nz (γs.1 c).2.1 b]
theorem EO (h:t.WF n m) (b:(t.basic++t.free).Nodup) {i:Nat} (a:i<m):t.bv i∉t.free:=λc=>by
 have d:i<t.basic.length:=by rw[h.basic];exact a
 grind[Tb.bv,b_]
theorem l_ (h:t.WF n m) (a:(t.basic++t.free).Nodup) {y:Nat->Rat} {i:Nat} (c:i<m):iB n t y (t.bv i)=t.bd i - Oq n λj=>t.cf i j*y j:=by
 have b:i<t.basic.length:=by rw[h.basic];exact c
 have e:t.basic.idxOf (t.bv i)=i:=nz (γs.1 a).1 b;unfold iB;grind
theorem asg_holds (h:t.WF n m) (a:(t.basic++t.free).Nodup) {y:Nat->Rat}:t.holds n m (iB n t y) (t.value+Oq n λj=>t.cs j*y j):=by
 have e:∀f:Nat->Rat,Oq n (λj=>f j*iB n t y (t.fv j))=Oq n λj=>f j*y j:=λf=>cW λj c=>by grind[lz]
 refine⟨λi b=>?_,?_⟩
 ·rw[l_ h a b,e];grind
 ·rw[e]
def eT (m:Nat) (a:Tb) (v:Int) (i:Nat):Rat:=if i<m then(if v∈a.free then a.cf i (a.free.idxOf v) else if a.basic.idxOf v=i then 1 else 0) else 0
def vz (m:Nat) (a:Tb) (i:Nat):Rat:=if i<m then a.bd i else 0
def iE (m:Nat) (a t:Tb):Rat:=jc (t.basic.map (eT m a)) (ω m)
structure dm (n m:Nat) (t0 t:Tb):Prop where
 wf0:t0.WF n m
 wf:t.WF n m
 nd:(t0.basic++t0.free).Nodup
 perm:(t.basic++t.free).Perm (t0.basic++t0.free)
 sol:∀x z,t.holds n m x z↔t0.holds n m x z
 dt:iE m t0 t≠0
theorem dm.fo (h:dm n m t0 t):(t.basic++t.free).Nodup:=h.perm.symm.nodup h.nd
theorem dm.refl (h:t0.WF n m) (a:(t0.basic++t0.free).Nodup):dm n m t0 t0:=by
 refine⟨h,h,a,List.Perm.refl _,λ_ _=>Iff.rfl,?_⟩;have e:t0.basic.map (eT m t0)=(ω m).map vB:=by
  refine List.ext_getElem (by simp[h.basic]) λi g d=>?_;simp only[List.getElem_map,List.getElem_range];have f:i<m:=by simp_all
  have b:t0.basic[i]'(by simp_all)=t0.bv i:=by grind[Tb.bv,b_]
  rw[b];funext k;have c:t0.basic.idxOf (t0.bv i)=i:=nz (γs.1 a).1 (by grind);unfold eT vB;grind
 grind[iE,K9]
theorem dm.rows (h:dm n m t0 t) {x:Int->Rat} {z:Rat} (l:t.holds n m x z) {i:Nat}:Oq m (λk=>eT m t0 (t.bv k) i*x (t.bv k))+Oq n (λj=>eT m t0 (t.fv j) i*x (t.fv j))=vz m t0 i:=by
 have b:∀t:Tb,t.WF n m->kR (λv=>eT m t0 v i*x v) (t.basic++t.free)=Oq m (λk=>eT m t0 (t.bv k) i*x (t.bv k))+Oq n (λj=>eT m t0 (t.fv j) i*x (t.fv j)):=λt f=>by
  rw[w8,oZ,oZ,f.basic,f.free];rfl
 rw[<-b t h.wf,EP h.perm,b t0 h.wf0];have p:=(h.sol x z).1 l;unfold vz;by_cases a:i<m
 ·rw[if_pos a,<-p.1 i a];congr 1
  ·have e:Oq m (λk=>eT m t0 (t0.bv k) i*x (t0.bv k))=Oq m λk=>if k=i then x (t0.bv i) else 0:=cW λk d=>by
    have c:t0.basic.idxOf (t0.bv k)=k:=nz (γs.1 h.nd).1 (by rw[h.wf0.basic];exact d);unfold eT;rw[if_pos a,if_neg (EO h.wf0 h.nd d),c];grind
   rw[e,sL,if_pos a]
  ·refine cW λj g=>?_;have o:j<t0.free.length:=by rw[h.wf0.free];exact g
   unfold eT;rw[if_pos a,if_pos (by grind[Tb.fv,b_])];have c:t0.free.idxOf (t0.fv j)=j:=nz (γs.1 h.nd).2.1 o;rw[c]
 ·rw[if_neg a];have e:∀v,eT m t0 v i=0:=λv=>by simp_all[eT,if_neg]
  simp only[e];grind[gP]
theorem dm.K3 (h:dm n m t0 t):vz m t0=λi=>Oq m λk=>t.bd k*eT m t0 (t.bv k) i:=by
 funext i;have a:=h.rows (i:=i) (asg_holds h.wf h.fo (y:=λ_=>0));rw[<-a,cW (n:=n) (g:=λ_=>0) λj c=>by rw[lz h.wf h.fo c];grind,gP,cW (n:=m) (g:=λk=>t.bd k*eT m t0 (t.bv k) i) λk b=>by
  rw[l_ h.wf h.fo b,cW (g:=λ_=>0) λj _=>by grind,gP];grind];grind
theorem dm.Ur (h:dm n m t0 t) {c:Nat} (a:c<n):eT m t0 (t.fv c)=λi=>Oq m λk=>t.cf k c*eT m t0 (t.bv k) i:=by
 funext i;have f:=congrFun h.K3 i;have b:=h.rows (i:=i) (asg_holds h.wf h.fo (y:=λj=>if j=c then 1 else 0));rw[cW (n:=n) (g:=λj=>if j=c then eT m t0 (t.fv c) i else 0) λj e=>by
  rw[lz h.wf h.fo e];grind,sL,if_pos a,cW (n:=m) (g:=λk=>t.bd k*eT m t0 (t.bv k) i+(-1)*(t.cf k c*eT m t0 (t.bv k) i)) λk d=>by
   rw[l_ h.wf h.fo d,cW (g:=λj=>if j=c then t.cf k c else 0) λj _=>by
    grind,sL,if_pos a];grind,vA,sM] at b;grind
theorem getD_map {l:List Int} {f:Int->Nat->Rat} {k:Nat} (h:k<l.length):(l.map f).getD k (λ_=>0)=f (bN l k 0):=by
 grind[b_]
theorem dm.K2 (h:dm n m t0 t) {y:Nat->Rat} {r:Nat} (d:r<m):jc ((t.basic.map (eT m t0)).set r λi=>Oq m λk=>y k*eT m t0 (t.bv k) i) (ω m)=y r*iE m t0 t:=by
 have b:(t.basic.map (eT m t0)).length=m:=by rw[List.length_map,h.wf.basic]
 have a:=@Us (t.basic.map (eT m t0)) (ω m) y r (by omega);unfold iE;rw[<-a,b];congr 2;funext i;refine cW λk c=>?_;rw[getD_map (by simp_all)];rfl
theorem dm.K1 (h:dm n m t0 t) {r c:Nat} (a:r<m) (b:c<n):jc ((t.basic.map (eT m t0)).set r (eT m t0 (t.fv c))) (ω m)=t.cf r c*iE m t0 t:=by
 rw[h.Ur b];exact h.K2 (y:=λk=>t.cf k c) a
theorem dm.Uq (h:dm n m t0 t) {r:Nat} (a:r<m):jc ((t.basic.map (eT m t0)).set r (vz m t0)) (ω m)=t.bd r*iE m t0 t:=by
 rw[h.K3];exact h.K2 (y:=t.bd) a
theorem set_perm {l:List Int} {r:Nat} {x:Int} (a:r<l.length):(l.set r x).Perm (x::(l.take r++l.drop (r+1))):=by
 rw[εI,if_pos a];simp_all
theorem Up {l:List Int} {r:Nat} (a:r<l.length):(l[r]::(l.take r++l.drop (r+1))).Perm l:=by
 have h:=@set_perm l r l[r] a;grind
theorem swap_perm {l k:List Int} {r c:Nat} (a:r<l.length) (b:c<k.length):(l.set r (bN k c 0)++k.set c (bN l r 0)).Perm (l++k):=by
 grind[b_]
theorem dm.P9 (h:dm n m t0 t) {r c:Nat} (a:r<m) (b:c<n) (d:t.cf r c≠0):dm n m t0 (eX t r c) where
 wf0:=h.wf0;wf:=K6 h.wf;nd:=h.nd;perm:=(swap_perm (by rw[h.wf.basic];exact a) (by rw[h.wf.free];exact b)).trans h.perm;sol x z:=(piv_holds h.wf a b d).trans (h.sol x z);dt:=by
  have e:iE m t0 (eX t r c)=t.cf r c*iE m t0 t:=by
   rw[<-h.K1 a b];unfold iE;congr 1;show(t.basic.set r (t.fv c)).map (eT m t0)=_;simp_all
  rw[e];have:=h.dt;grind
theorem zf {M:Nat} (d:1<=M) (c:∀i j,i<m->j<n->dY M (t0.cf i j)) (a:t0.WF n m) {v:Int} {i:Nat}:dY M (eT m t0 v i):=by
 unfold eT;split
 ·split
  ·rename_i b e;exact c _ _ b (by rw[<-a.free];grind)
  ·split;·exact⟨1,by simp,by omega⟩
   ·exact⟨0,by simp,by simp⟩
 ·exact⟨0,by simp,by simp⟩
theorem mem_set {C:List (Nat->Rat)} {r:Nat} {c d:Nat->Rat} (h:d∈C.set r c):d∈C\/d=c:=List.mem_or_eq_of_mem_set h
theorem dm.Uo (h:dm n m t0 t) {M:Nat} (a:1<=M) (c:∀i j,i<m->j<n->dY M (t0.cf i j)):dY (ma M m) (iE m t0 t):=by
 have:=@zl M (t.basic.map (eT m t0)) (ω m) (by simp[h.wf.basic]) λd b i _=>by
  obtain⟨v,_,rfl⟩:=Ω.1 b;exact zf a c h.wf0
 rwa [List.length_range] at this
theorem dm.Qh (h:dm n m t0 t) {M:Nat} (e:1<=M) (b:∀i j,i<m->j<n->dY M (t0.cf i j)) {r c:Nat} (f:r<m) (g:c<n):dY (ma M m) (t.cf r c*iE m t0 t):=by
 rw[<-h.K1 f g];have:=@zl M ((t.basic.map (eT m t0)).set r (eT m t0 (t.fv c))) (ω m) (by simp[h.wf.basic]) λd a i _=>by
  rcases mem_set a with a|rfl
  ·obtain⟨v,_,rfl⟩:=Ω.1 a;exact zf e b h.wf0
  ·exact zf e b h.wf0
 simp_all
theorem dm.Qi (h:dm n m t0 t) {M:Nat} (b:1<=M) (c:∀i j,i<m->j<n->dY M (t0.cf i j)) (f:∀i,i<m->dY M (t0.bd i)) {r:Nat} (e:r<m):dY (ma M m) (t.bd r*iE m t0 t):=by
 rw[<-h.Uq e];have:=@zl M ((t.basic.map (eT m t0)).set r (vz m t0)) (ω m) (by simp[h.wf.basic]) λd a i g=>by
  rcases mem_set a with a|rfl
  ·obtain⟨v,_,rfl⟩:=Ω.1 a;exact zf b c h.wf0
  simp_all[vz]
 simp_all
end
structure o6 (n m:Nat) (t:Tb) (r c:Nat):Prop where
 hr:r<m
 hc:c<n
 cost:0<t.cs c
 least:∀j,j<n->0<t.cs j->t.fv c<=t.fv j
 pos:0<t.cf r c
 ratio:∀i,i<m->0<t.cf i c->t.bd r / t.cf r c<t.bd i / t.cf i c\/(t.bd r / t.cf r c=t.bd i / t.cf i c/\t.bv r<=t.bv i)
def jt (m:Nat) (t:Tb):Prop:=∀i,i<m->0<=t.bd i
section
variable {n m:Nat} {t t0:Tb} {r c:Nat}
theorem wZ (a b:Rat):a<=b\/b<a:=(Classical.em (a<=b)).imp id Rat.not_le.1
theorem div_mul {a b:Rat} (h:0<b):a / b*b=a:=by
 grind
theorem inv_pos {b:Rat} (h:0<b):0<1 / b:=by
 have c:(1 / b)*b=1:=div_mul h;rcases wZ (1 / b) 0 with a|a
 ·exfalso;have d:0<=(-(1 / b))*b:=δy (by grind) (by grind);grind
 ·exact a
theorem K0 {a b:Rat} (c:0<=a) (h:0<b):0<=a / b:=by
 grind[δy,inv_pos]
theorem o6.ge (h:o6 n m t r c) (a:jt m t):0<=t.bd r / t.cf r c:=K0 (a r h.hr) h.pos
theorem o6.vy (h:o6 n m t r c) (k:t.WF n m) (d:jt m t):jt m (eX t r c):=by
 intro i a;have f:=h.ge d;have e:t.bd r*(1 / t.cf r c)=t.bd r / t.cf r c:=by grind
 rw[zg k a,e];split;·exact f
 ·rcases wZ (t.cf i c) 0 with b|b
  ·have j:0<=(-(t.cf i c))*(t.bd r / t.cf r c):=δy (by grind) f;have:=d i a;grind
  ·have j:t.bd r / t.cf r c<=t.bd i / t.cf i c:=by
    rcases h.ratio i a b with g|g<;>grind
   have g:0<=t.cf i c*(t.bd i / t.cf i c - t.bd r / t.cf r c):=δy (by grind) (by grind);grind[div_mul]
theorem o6.value:(eX t r c).value=t.value+t.cs c*(t.bd r / t.cf r c):=by
 show t.value+t.cs c*(t.bd r*(1 / t.cf r c))=_;grind
theorem EN {b:Type}:∀(L:List b) (f:Nat->b),(∀k,f k∈L)->∃i j,i<j/\f i=f j
 |[],f,h=>by simp_all;|a::L,f,h=>by
  by_cases c:∃i,f i=a
  ·obtain⟨i,g⟩:=c;by_cases e:∃j,i<j/\f j=a;·grind
   ·obtain⟨x,y,d,l⟩:=EN L (λk=>f (k+i+1)) λk=>by
     grind
    grind
  ·exact EN L f λk=>by
    simp_all
def wY (V:List Int):Nat->List (List Int)
 |0=>[[]]
 |k+1=>(wY V k).flatMap λl=>V.map λv=>v::l
theorem KZ {V:List Int}:∀{l:List Int},(∀v∈l,v∈V)->l∈wY V l.length
 |[],_=>by simp[wY];|x::l,h=>by
  simp only[γG,wY,List.mem_flatMap,Ω];exact⟨l,KZ λv a=>h v (by simp[a]),x,h x (by simp),rfl⟩
theorem Un {l:List Int} {r:Nat} {x v:Int} (a:r<l.length) (b:l.Nodup):v∈l.set r x↔v=x\/(v∈l/\v≠bN l r 0):=by
 grind[set_perm,b_,Up]
theorem KY {f:Nat->Int} {i:Nat}:∀{d:Nat},∃k,(i<=k/\k<=i+d)/\∀x,i<=x->x<=i+d->f x<=f k
 |0=>⟨i,by omega,λx a b=>by grind⟩
 |d+1=>by
  obtain⟨k,a,b⟩:=@KY f i d;by_cases h:f k<=f (i+(d+1))
  ·refine⟨i+(d+1),by omega,λx c e=>?_⟩;grind
  ·refine⟨k,by omega,λx c e=>?_⟩;grind
theorem KX:∀{n:Nat} {f:Nat->Rat},0<Oq n f->∃j,j<n/\0<f j
 |0,f,h=>by grind[Oq];|n+1,f,h=>by
  rcases wZ (f n) 0 with a|a
  ·obtain⟨j,c,b⟩:=@KX n f (by grind[Oq]);grind
  grind
theorem sK (h:t.WF n m) {j:Nat} (a:j<n):t.fv j∈t.free:=by
 have b:j<t.free.length:=by rw[h.free];exact a
 grind[Tb.fv,b_]
theorem wX (h:t.WF n m) {j:Nat} (a:j<m):t.bv j∈t.basic:=by
 have b:j<t.basic.length:=by rw[h.basic];exact a
 grind[Tb.bv,b_]
theorem sJ (h:t.WF n m) {v:Int} (b:v∈t.free):∃j,j<n/\t.fv j=v:=by
 obtain⟨j,a,rfl⟩:=γM b;exact⟨j,by rw[<-h.free];exact a,by grind[Tb.fv,b_]⟩
theorem v8 (h:t.WF n m) {v:Int} (b:v∈t.basic):∃j,j<m/\t.bv j=v:=by
 obtain⟨j,a,rfl⟩:=γM b;exact⟨j,by rw[<-h.basic];exact a,by grind[Tb.bv,b_]⟩
theorem EM (c:(t.basic++t.free).Nodup) {v:Int} (a:v∈t.basic) (b:v∈t.free):False:=(γs.1 c).2.2 _ a _ b rfl
theorem Um (h:t.WF n m) (c:(t.basic++t.free).Nodup) {i j:Nat} (f:i<m) (d:j<m) (e:t.bv i=t.bv j):i=j:=by
 have a:=nz (γs.1 c).1 (show i<t.basic.length by rw[h.basic];exact f);have b:=nz (γs.1 c).1 (show j<t.basic.length by rw[h.basic];exact d);grind[Tb.bv]
theorem Ul (h:t.WF n m) (c:(t.basic++t.free).Nodup) {i j:Nat} (f:i<n) (d:j<n) (e:t.fv i=t.fv j):i=j:=by
 have a:=nz (γs.1 c).2.1 (show i<t.free.length by rw[h.free];exact f);have b:=nz (γs.1 c).2.1 (show j<t.free.length by rw[h.free];exact d);grind[Tb.fv]
theorem Uk {T:Nat->Tb} {r c:Nat->Nat} (p:∀k,dm n m t0 (T k)) (hF:∀k,jt m (T k)) (B:∀k,o6 n m (T k) (r k) (c k)) (hT:∀k,T (k+1)=eX (T k) (r k) (c k)) {i j:Nat} (b8:i<j) (hb:(T i).basic=(T j).basic) (hf:(T i).free=(T j).free):False:=by
 have b7:(T i).value=(T j).value:=by
  have t:=((p j).sol _ _).2 (((p i).sol _ _).1 (asg_holds (p i).wf (p i).fo (y:=λ_=>0)));have e1:Oq n (λk=>(T i).cs k*(λ_=>(0:Rat)) k)=0:=by grind[gP]
  have e2:Oq n (λk=>(T j).cs k*iB n (T i) (λ_=>0) ((T j).fv k))=0:=by
   rw[cW (g:=λ_=>0) λk hk=>by
    have:(T j).fv k=(T i).fv k:=by grind[Tb.fv]
    rw[this,lz (p i).wf (p i).fo hk];grind,gP]
  have K:=t.2;grind
 have L:∀k,(T k).value<=(T (k+1)).value:=λk=>by
  rw[hT k,o6.value];have:=δy (a:=(T k).cs (c k)) (by have:=(B k).cost;grind) ((B k).ge (hF k));grind
 have S:∀d a,(T a).value<=(T (a+d)).value:=λd=>by
  induction d<;>grind
 have H:∀k,i<=k->k<j->(T k).bd (r k)=0:=λk t K=>by
  have a1:=S (k - i) i;have a2:=S (j - (k+1)) (k+1);rw[show i+(k - i)=k by omega] at a1;rw[show k+1+(j - (k+1))=j by omega] at a2;have a3:=L k;rw[hT k] at a2 a3;rw[o6.value] at a2 a3;have h3:=(B k).ge (hF k);have hc:=(B k).cost;have h4:=@div_mul ((T k).bd (r k)) _ (B k).pos;grind[Rat.mul_eq_zero]
 have b6:∀k,i<=k->k<j->∀v,v∈(T k).basic++(T k).free->iB n (T (k+1)) (λ_=>0) v=iB n (T k) (λ_=>0) v:=λk t K v O=>by
  have hw:=(p k).wf;have G:=(p (k+1)).wf;have hx:=((p (k+1)).sol _ _).2 (((p k).sol _ _).1 (asg_holds hw (p k).fo (y:=λ_=>0)));have hz:∀q,q<n->iB n (T k) (λ_=>0) ((T (k+1)).fv q)=0:=λq s=>by
   rw[hT k,ER hw (B k).hc];split
   ·rw[l_ hw (p k).fo (B k).hr,H k t K,cW (g:=λ_=>0) λj _=>by grind,gP];grind
   ·rw[lz hw (p k).fo s]
  have A:v∈(T (k+1)).basic++(T (k+1)).free:=((p (k+1)).perm.trans (p k).perm.symm).mem_iff.2 O;rcases γi.1 A with A|A
  ·obtain⟨q,s,rfl⟩:=v8 G A;have:=hx.1 q s;rw[cW (g:=λ_=>0) λj hj=>by simp_all,gP] at this;rw[l_ G (p (k+1)).fo s,cW (g:=λ_=>0) λj _=>by grind,gP];grind
  ·obtain⟨q,s,rfl⟩:=sJ G A;rw[hz q s,lz G (p (k+1)).fo s]
 have w:∀a b v,v∈(T a).basic++(T a).free->v∈(T b).basic++(T b).free:=λa b v O=>((p b).perm.trans (p a).perm.symm).mem_iff.2 O;have W:∀d a,i<=a->a+d<=j->∀v,v∈(T a).basic++(T a).free->iB n (T (a+d)) (λ_=>0) v=iB n (T a) (λ_=>0) v:=λd=>by
  induction d<;>grind
 have hA:∀a b,i<=a->a<=j->i<=b->b<=j->∀v,v∈(T a).basic++(T a).free->iB n (T a) (λ_=>0) v=iB n (T b) (λ_=>0) v:=λa b t K h3 h4 v O=>by
  have e1:=W (a - i) i (by omega) (by omega) v (w _ _ v O);have e2:=W (b - i) i (by omega) (by omega) v (w _ _ v O);simp_all
 have P:∀k v,v∈(T (k+1)).basic↔v=(T k).fv (c k)\/(v∈(T k).basic/\v≠(T k).bv (r k)):=λk v=>by
  rw[hT k];exact Un (by rw[(p k).wf.basic];exact(B k).hr) (γs.1 (p k).fo).1
 have U:∀v a b,i<=a->a<=j->i<=b->b<=j->v∈(T a).basic->v∉(T b).basic->∃k,i<=k/\k<j/\(T k).fv (c k)=v:=λv a b a1 a2 b1 b2 ha a9=>by
  apply δb;intro Y;have I:∀d x,i<=x->x+d<=j->v∈(T (x+d)).basic->v∈(T x).basic:=λd=>by
   induction d<;>grind
  have t:=I (a - i) i (by omega) (by omega) (by simp_all);rw[hb] at t;exact a9 (I (j - b) b (by omega) (by omega) (by simp_all))
 obtain⟨l,⟨a6,b9⟩,a0⟩:=@KY (λk=>(T k).fv (c k)) i (j - 1 - i);have J:∀x,i<=x->x<j->(T x).fv (c x)<=(T l).fv (c l):=λx t K=>a0 x t (by omega);have c2:l<j:=by omega
 have a7:(T l).fv (c l)∈(T l).free:=sK (p l).wf (B l).hc;have c0:(T l).fv (c l)∉(T l).basic:=λh=>EM (p l).fo h a7;obtain⟨o,F,Q,hl⟩:∃o,i<=o/\o<j/\(T o).bv (r o)=(T l).fv (c l):=by
  apply δb;intro Y;have up:∀d x,i<=x->x+d<=j->(T l).fv (c l)∈(T x).basic->(T l).fv (c l)∈(T (x+d)).basic:=λd=>by
   induction d with
   |zero=>intro x _ _ h;exact h;|succ d ih=>
    intro x t K h;exact(P (x+d) _).2 (.inr ⟨ih x t (by omega) h,λe=>Y ⟨x+d,by omega,by omega,e.symm⟩⟩)
  have t:=up (j - (l+1)) (l+1) (by omega) (by omega) ((P l _).2 (.inl rfl));rw[show l+1+(j - (l+1))=j by omega,<-hb] at t;have K:=up (l - i) i (by omega) (by omega) t;simp_all
 have w1:=(p l).wf;have C:=(p o).wf;have n1:=(p l).fo;have E:=(p o).fo;have p1:=B l;have N:=B o;have x1:=(((p l).sol _ _).2 (((p o).sol _ _).1 (asg_holds C E (y:=λq=>if q=c o then 1 else 0)))).2;have x0:=(((p l).sol _ _).2 (((p o).sol _ _).1 (asg_holds C E (y:=λ_=>0)))).2;rw[cW (f:=λq=>(T o).cs q*(λq=>if q=c o then(1:Rat) else 0) q) (g:=λq=>if q=c o then(T o).cs (c o) else 0) λq _=>by
  by_cases s:q=c o<;>grind,sL,if_pos N.hc] at x1;rw[cW (f:=λq=>(T o).cs q*(λ_=>(0:Rat)) q) (g:=λ_=>0) λq _=>by grind,gP] at x0;have hd:0<Oq n λq=>(T l).cs q*(iB n (T o) (λq=>if q=c o then 1 else 0) ((T l).fv q) - iB n (T o) (λ_=>0) ((T l).fv q)):=by
  rw[cW (g:=λq=>(T l).cs q*iB n (T o) (λq=>if q=c o then 1 else 0) ((T l).fv q)+(-1)*((T l).cs q*iB n (T o) (λ_=>0) ((T l).fv q))) λq _=>by grind,vA,sM];have:=N.cost;grind
 obtain⟨q,s,u⟩:=KX hd;have a5:(T l).fv q∈(T l).free:=sK w1 s;have Z:=w l o _ (List.mem_append_right _ a5);rcases γi.1 Z with a4|X
 ·obtain⟨D,z,e⟩:=v8 C a4;rw[<-e,l_ C E z,l_ C E z,cW (f:=λj=>(T o).cf D j*(λq=>if q=c o then(1:Rat) else 0) j) (g:=λj=>if j=c o then(T o).cf D (c o) else 0) (λj _=>by
   by_cases hj:j=c o<;>grind),sL,if_pos N.hc,cW (f:=λj=>(T o).cf D j*(λ_=>(0:Rat)) j) (g:=λ_=>0) (λj _=>by grind),gP] at u;have M:0<(T l).cs q*(-(T o).cf D (c o)):=by grind
  obtain⟨k3,b3,b5,h3⟩:=U _ o l F (by omega) a6 (by omega) a4 (λh=>EM n1 h a5);have b0:(T l).fv q<=(T l).fv (c l):=by grind
  rcases wZ ((T l).cs q) 0 with hs|hs
  ·have a8:0<(T o).cf D (c o):=by
    rcases wZ ((T o).cf D (c o)) 0 with h4|h4
    ·exfalso;have:=δy (a:= -(T l).cs q) (b:= -(T o).cf D (c o)) (by grind) (by grind);grind
    ·exact h4
   have b4:(T o).bd D=0:=by
    have V:=hA o l F (by omega) a6 (by omega) ((T l).fv q) Z;rw[lz w1 n1 s,<-e,l_ C E z,cW (g:=λ_=>0) λj _=>by grind,gP] at V;grind
   have c1:=H o F Q;have hz:∀b:Rat,(0:Rat) / b=0:=λb=>by grind
   rcases N.ratio D z a8 with h6|h6;·simp_all
   ·have h7:(T l).fv (c l)<=(T l).fv q:=by omega
    have h8:=Ul w1 n1 s p1.hc (by omega);rw[h8] at hs;have:=p1.cost;grind
  ·have h7:=p1.least q s hs;have h8:D=r o:=Um C E z N.hr (by omega);rw[h8] at M;have:=δy (a:=(T l).cs q) (b:=(T o).cf (r o) (c o)) (by grind) (by have:=N.pos;grind);grind
 ·obtain⟨q2,R,e⟩:=sJ C X;rw[<-e,lz C E R,lz C E R] at u;by_cases V:q2=c o
  ·rw[if_pos V] at u;have h6:=p1.least q s (by grind);have h7:=J o F Q;rw[V] at e;have h8:(T l).fv (c l)=(T o).fv (c o):=by omega
   exact EM E (wX C N.hr) (by grind)
  ·rw[if_neg V] at u;grind
end
open Go.Proofs.YtbnhiekmnpikhaaGreat.Ir
open Go.Proofs
def dI (x y:Int):Int:=(Nat.gcd x.toNat y.toNat:Nat)
theorem Uj {x y:Int} (h0:0<=x) (h1:0<y):dI y (x % y)=dI x y:=by
 unfold dI;congr 1;rw[Nat.gcd_comm x.toNat,Nat.gcd_rec y.toNat x.toNat,Nat.gcd_comm,Int.toNat_emod h0 (by omega)]
theorem Ui {x:Int} (h0:0<=x):dI x 0=x:=by unfold dI;simp;omega
theorem kQ {i u v:Nat} (h:u=v):(γW i u 1).bi (γW i v 1):=by subst h;rfl
theorem KW {l:List Int} (h:l=[]):(Ψ (.i .i64) []).bi (Ψ (.i .u32) l):=by subst h;rfl
def P5 (x y:Int):SV:=.Gz [.row (.i .u32) (bU (x - y)),.sb (decide (y<=x))]
theorem EL {n:Int} (h:n<=0):bU n=[]:=by
 unfold bU;rw[show n.toNat=0 by omega];rfl
def EK:M9:=⟨166,List Int×List Int,.cons (cL (.i .u32)) (.one (cL (.i .u32))),λa=>(ou a.1/\ou a.2)/\a.1.length<=100000000000/\a.2.length<=100000000000,
 λa=>P5 (bX a.1) (bX a.2)⟩
def Uh (a:List Int×List Int):Nat->bG
 |7=> .inv (Int×Int×List Int) (λx=>⟨[(0,.row (.i .u32) (IL a.1)),(1,.row (.i .u32) (IL a.2)),(6,.ow 0 x.2.2.length 1),(7,.si .u64 x.2.1),(22,.si .i64 (IL a.1).length),(23,.si .i64 x.1)],[.row (.i .u32) x.2.2 172 true]⟩)
  (λs=>(iS s 23,iS s 7,oS (.i .u32) s 0))
  (λx=>(0<=x.1/\x.1<=(IL a.1).length)/\(0<=x.2.1/\x.2.1<=1)/\ou x.2.2/\x.2.2.length=(IL a.1).length/\(∀j,x.1.toNat<=j->bN x.2.2 j 0=0)/\
   bX x.2.2 - 4294967296^x.1.toNat*x.2.1=bX ((IL a.1).take x.1.toNat) - bX ((IL a.2).take x.1.toNat)) (λx=>((IL a.1).length - x.1).toNat) λ_ _=> .look
 |_=> .look
theorem KV {s t row:List Int} {i:Nat} {br d v c:Int} (hs:ou s) (ht:ou t) (hr:ou row) (hl:row.length=s.length) (hz:∀j,i<=j->bN row j 0=0)
  (hv:bX row - 4294967296^i*br=bX (s.take i) - bX (t.take i)) (hi:i<s.length) (hd:d=bN s i 0 - br - bN t i 0) (h0:0<=v/\v<4294967296) (hc:v - 4294967296*c=d):
  ou (row.set i v)/\(row.set i v).length=s.length/\(∀j,i+1<=j->bN (row.set i v) j 0=0)/\bX (row.set i v) - 4294967296^(i+1)*c=bX (s.take (i+1)) - bX (t.take (i+1)):=by
 refine⟨lK hr h0.1 h0.2,by simp[hl],λj hj=>by rw[nK (by omega)];exact hz j (by omega),?_⟩;rw[rC (by omega),kW,kW,hz i (ξ _),γT,ζg];have h1:(4294967296:Int)^i*(v - 4294967296*c)=4294967296^i*(bN s i 0 - br - bN t i 0):=by rw[hc,hd]
 simp only[Int.mul_sub] at h1;rw[<-δm] at h1;omega
theorem II:Holds Tryz.prog EK:=by
 refine bI (L:=[pG,vM]) EK Uh (by simpa using⟨k_,qV⟩) ?_;rintro⟨a,b⟩ ⟨⟨ha,hb⟩,hla,hlb⟩;simp only at ha hb hla hlb;refine NH (let c:=(0:Int);let d:=(18446744073709551616:Int);let e:=Ψ;let f:=(4294967296:Int);let g:=γf .i64;let h:=(1:Int);let k:=γW;let l:=SV.Gz;let z0:Nat:=(IL a).length;let B:=decide (kX (bX (IL a)) (bX (IL b))<c);let m:=ew.i .u32;let C:=l [e m (bU (bX a - bX b)),γy (decide (bX b<=bX a))];let o:=(↑(IL a).length:Int);let q:=δ o.toNat c;let p:=(↑z0:Int);let z:=g p;let D:=iZ.row m q 172 true;let A:=(↑(IL b).length:Int);a.length<=1000000000000/\b.length<=1000000000000/\((ou (IL a)/\ou (IL b))/\z0<=1000000000000/\(IL b).length<=1000000000000)/\(B=true->(l [e (ew.i .i64) [],δd false]).bi C)/\(B=false->c<=o/\o<=o/\o*(4:Int)<=(140737488355328:Int)/\o<=(1000000000000:Int)/\((((e m (IL a)).bi (e m (IL a))/\(e m (IL b)).bi (e m (IL b))/\(k 0 o.toNat 1).bi (k 0 q.length 1)/\(γv .u64 0).bi (γf .u64 0)/\(g o).bi z/\(γv .i64 0).bi (g 0)/\True)/\D.bi D/\True)/\(c<=c/\c<=p)/\(c<=c/\c<=h)/\ou q/\q.length=z0/\(∀(j:Nat),0<=j->bN q j c=c)/\bX q - c=c)/\∀(x:Int×Int×List Int),let r:=x.2.2.length;let v:=x.2.2.length;let n:=x.1.toNat;let s:=x.1+h;let E:=g s;let w:=s.toNat;let F:=bN (IL a) n c;let G:=λ(u u_1:Int) ↦let H:=(u % d - u_1) % d;let t:=x.2.2.set n (H % f);let y:=H / (9223372036854775808:Int);let I:=γf .u64 y;let J:=iZ.row m t 172 true;c<=(63:Int)/\(63:Int)<=(64:Int)/\r=v/\c<=x.1/\x.1<(↑v:Int)/\r=v/\n<v/\VI .i64 s/\(((e m (IL a)).bi (e m (IL a))/\(e m (IL b)).bi (e m (IL b))/\(k 0 r 1).bi (k 0 t.length 1)/\I.bi I/\z.bi z/\E.bi E/\True)/\J.bi J/\True)/\((c<=s/\s<=p)/\(c<=y/\y<=h)/\ou t/\t.length=z0/\(∀(j:Nat),w<=j->bN t j c=c)/\bX t - f^w*y=bX (Γ w (IL a)) - bX (Γ w (IL b)))/\(p - s).toNat<(p - x.1).toNat;(c<=x.1/\x.1<=p)/\(c<=x.2.1/\x.2.1<=h)/\ou x.2.2/\r=z0/\(∀(j:Nat),n<=j->bN x.2.2 j c=c)/\bX x.2.2 - f^n*x.2.1=bX (Γ n (IL a)) - bX (Γ n (IL b))->(decide (x.1<p)=true->c<=x.1/\x.1<o/\n<(IL a).length/\(decide (x.1<A)=true->c<=x.1/\x.1<A/\n<(IL b).length/\G (F % d - x.2.1) (bN (IL b) n c % d))/\(decide (x.1<A)=false->G F x.2.1))/\(decide (x.1<p)=false->r=v/\r<=1000000000000/\(l [e m (IL x.2.2),δd true]).bi C))) (by kernel_rfl) ?_;simp only[vcs];obtain⟨va,na⟩:=@pF a;obtain⟨vb,nb⟩:=@pF b;have da:=qo ha;have db:=qo hb;have la:=@rD a;have lb:=@rD b;have pa:=el da;have pb:=el db;rw[<-va,<-vb];generalize IL a=s at*;generalize IL b=t at*;have hr0:∀n j,bN (δ n (0:Int)) j 0=0:=λn j=>by
  unfold bN;rw[εE];split<;>rfl
 have hd0:∀n,ou (δ n 0):=λn d hd=>by
  have:=δ0 hd;omega
 have hv0:∀n,bX (δ n 0)=0:=λn=>by
  induction n with
  |zero=>rfl;|succ n ih=>simp only[δe,bX,ih];omega
 refine⟨by omega,by omega,⟨⟨da,db⟩,by omega,by omega⟩,λhlt=>?_,λhge=>⟨by omega,by omega,by omega,by omega,?_,?_⟩⟩
 ·have hlt2:bX s<bX t:=by unfold kX at hlt;split at hlt<;>(try split at hlt)<;>omega
  refine⟨KW (EL (by omega)),?_⟩;rw[eq_comm,decide_eq_false_iff_not];omega
 ·repeat' refine γk ?_ ?_
  all_goals first|omega|exact kQ (by simp)|exact hd0 _|exact λj _=>hr0 _ j|(simp;done)|(rw[hv0];rfl)
 have ayY:bX t<=bX s:=by unfold kX at hge;split at hge<;>(try split at hge)<;>omega
 rintro⟨i,br,row⟩ ⟨⟨i0,i1⟩,⟨b0,b1⟩,hr,hl,hz,hv⟩;simp only at i0 i1 b0 b1 hr hl hz hv ⊢;refine⟨λilt=>?_,λige=>?_⟩
 ·have d1:=dB da i.toNat;have d2:=dB db i.toNat;have e:(i+1).toNat=i.toNat+1:=by omega
  refine⟨i0,ilt,by omega,λht=>?_,λht=>?_⟩
  ·generalize hq:((bN s i.toNat 0 % 18446744073709551616 - br) % 18446744073709551616 - bN t i.toNat 0 % 18446744073709551616) % 18446744073709551616=q;obtain⟨k1,k2,k3,k4⟩:=KV (v:=q % 4294967296) (c:=q / 9223372036854775808) da db hr hl hz hv (by omega) rfl (by omega) (by omega);rw[e];repeat' refine γk ?_ ?_
   all_goals first|omega|exact kQ (by simp)|exact k1|exact k2|exact k3|exact k4
  ·have hz2:=zy (a:=t) (i:=i.toNat) (by omega);generalize hq:(bN s i.toNat 0 % 18446744073709551616 - br) % 18446744073709551616=q;obtain⟨k1,k2,k3,k4⟩:=KV (v:=q % 4294967296) (c:=q / 9223372036854775808) da db hr hl hz hv (by omega) rfl (by omega) (by omega);rw[e];repeat' refine γk ?_ ?_
   all_goals first|omega|exact kQ (by simp)|exact k1|exact k2|exact k3|exact k4
 ·have hi:i.toNat=s.length:=by omega
  have hlen:t.length<=s.length:=by
   by_cases h:s.length<t.length
   ·have:=vN da db nb h;omega
   ·omega
  rw[hi,ψ,γp hlen] at hv;have hbd:=mN hr;have hp:=pow_pos s.length;rw[hl] at hbd;have hb0:br=0:=by
   by_cases h:br=0;·exact h
   ·have:br=1:=by omega
    subst this;omega
  rw[hb0,δJ,ζg] at hv;refine⟨by omega,?_,?_⟩;·rw[oo hr,hv]
  ·rw[eq_comm,decide_eq_true_eq];exact ayY
theorem KU {n j:Nat}:bN (δ n (0:Int)) j 0=0:=by
 unfold bN;rw[εE];split<;>rfl
theorem wW {n:Nat}:ou (δ n 0):=λd hd=>by
 have:=δ0 hd;omega
theorem v7:∀{n:Nat},bX (δ n 0)=0
 |0=>rfl
 |n+1=>by simp only[δe,bX,@v7 n];omega
theorem Ug {o b:List Int} {x:Int} {i k:Nat}:gw o b x i (k+1)=((gw o b x i k).1.set (i+k) ((x*bN b k 0+bN (gw o b x i k).1 (i+k) 0+(gw o b x i k).2) % 4294967296),(x*bN b k 0+bN (gw o b x i k).1 (i+k) 0+(gw o b x i k).2) / 4294967296):=rfl
def vZ:M9:=⟨164,List Int×List Int,.cons (cL (.i .u32)) (.one (cL (.i .u32))),λa=>(ou a.1/\ou a.2)/\a.1.length<=100000000000/\a.2.length<=100000000000,
 λa=> .row (.i .u32) (bU (bX a.1*bX a.2))⟩
def stM (a:List Int×List Int) (row:List Int):TN:=[.row (.i .u32) row 172 true]
def Uf (a:List Int×List Int):Nat->bG
 |3=> .inv (Int×List Int) (λx=>⟨[(0,.row (.i .u32) a.1),(1,.row (.i .u32) a.2),(5,.ow 0 x.2.length 1),(17,.si .i64 a.1.length),(18,.si .i64 x.1)],stM a x.2⟩)
  (λs=>(iS s 18,oS (.i .u32) s 0))
  (λx=>(0<=x.1/\x.1<=a.1.length)/\ou x.2/\x.2.length=a.1.length+a.2.length/\bX x.2=bX (a.1.take x.1.toNat)*bX a.2) (λx=>(a.1.length - x.1).toNat)
  λx=>λ
   |7=> .inv (Int×Int×List Int) (λy=>⟨[(0,.row (.i .u32) a.1),(1,.row (.i .u32) a.2),(5,.ow 0 y.2.2.length 1),(6,.si .i64 x.1),(7,.si .u64 y.2.1),(17,.si .i64 a.1.length),(18,.si .i64 x.1),(22,.si .i64 a.2.length),(23,.si .i64 y.1)],stM a y.2.2⟩)
    (λs=>(iS s 23,iS s 7,oS (.i .u32) s 0))
    (λy=>(0<=y.1/\y.1<=a.2.length)/\y.2.2=(gw x.2 a.2 (bN a.1 x.1.toNat 0) x.1.toNat y.1.toNat).1/\y.2.1=(gw x.2 a.2 (bN a.1 x.1.toNat 0) x.1.toNat y.1.toNat).2) (λy=>(a.2.length - y.1).toNat) λ_ _=> .look
   |_=> .look
 |_=> .look
theorem qU:Holds Tryz.prog vZ:=by
 refine bI (L:=[pG]) vZ Uf (by simpa using k_) ?_;rintro⟨a,b⟩ ⟨⟨ha,hb⟩,hla,hlb⟩;simp only at ha hb hla hlb;refine NH (let c:=(18446744073709551616:Int);let d:=(0:Int);let e:=Ψ;let f:=γf .i64;let g:=(4294967296:Int);let h:=VI .i64;let j:=γW;let k:=γv .i64 0;let l:=iZ.row;let F:=(↑a.length:Int);let z:=(↑b.length:Int);let p:=F+z;let m:=ew.i .u32;let A:=δ p.toNat d;let q:=(↑a.length:Int);let t:=f q;let J:=l m A 172 true;let G:=a.length+b.length;let r:=(↑b.length:Int);let H:=f r;h p/\d<=p/\p<=p/\p*(4:Int)<=(140737488355328:Int)/\p<=(1000000000000:Int)/\((((e m a).bi (e m a)/\(e m b).bi (e m b)/\(j 0 p.toNat 1).bi (j 0 A.length 1)/\(f F).bi t/\(k).bi (f 0)/\True)/\J.bi J/\True)/\(d<=d/\d<=q)/\ou A/\A.length=G/\bX A=bX []*bX b)/\∀(x:Int×List Int),let C:=x.2.length;let v:=x.1.toNat;let K:=j 0 C 1;let s:=f x.1;let L:=l m x.2 172 true;let D:=bN a v d;let M:=gw x.2 b D v 0;let w:=x.1+(1:Int);let N:=f w;(d<=x.1/\x.1<=q)/\ou x.2/\C=G/\bX x.2=bX (Γ v a)*bX b->(decide (x.1<q)=true->((((e m a).bi (e m a)/\(e m b).bi (e m b)/\K.bi K/\s.bi s/\(γv .u64 0).bi (γf .u64 0)/\t.bi t/\s.bi s/\(f z).bi H/\(k).bi (f 0)/\True)/\L.bi L/\True)/\(d<=d/\d<=r)/\x.2=M.1/\d=M.2)/\∀(x_1:Int×Int×List Int),let O:=gw x.2 b D v x_1.1.toNat;let o:=x.1+x_1.1;let n:=x_1.2.2.length;let y:=x_1.1+(1:Int);let P:=j 0 x_1.2.2.length 1;let I:=((D % c*(bN b x_1.1.toNat d % c) % c+bN x_1.2.2 o.toNat d % c) % c+x_1.2.1) % c;let Q:=x_1.2.2.set o.toNat (I % g);let R:=I / g;let S:=γf .u64 R;let T:=f y;let U:=gw x.2 b D v y.toNat;let B:=x.1+z;let E:=x_1.2.2.set B.toNat (x_1.2.1 % g);let V:=λ(u u_1:Int) ↦let W:=l m (x_1.2.2.set (x.1+u).toNat (u_1 % g)) 172 true;W.bi W/\True;(d<=x_1.1/\x_1.1<=r)/\x_1.2.2=O.1/\x_1.2.1=O.2->(decide (x_1.1<r)=true->d<=x.1/\x.1<F/\v<a.length/\d<=x_1.1/\x_1.1<z/\x_1.1.toNat<b.length/\h o/\x_1.2.2.length=n/\d<=o/\o<(↑n:Int)/\x_1.2.2.length=n/\o.toNat<n/\h o/\d<=(32:Int)/\(32:Int)<=(64:Int)/\x_1.2.2.length=n/\d<=o/\o<(↑n:Int)/\x_1.2.2.length=n/\o.toNat<n/\h y/\(((e m a).bi (e m a)/\(e m b).bi (e m b)/\P.bi (j 0 Q.length 1)/\s.bi s/\S.bi S/\t.bi t/\s.bi s/\H.bi H/\T.bi T/\True)/\V x_1.1 I)/\((d<=y/\y<=r)/\Q=U.1/\R=U.2)/\(r - y).toNat<(r - x_1.1).toNat)/\(decide (x_1.1<r)=false->h B/\x_1.2.2.length=n/\d<=B/\B<(↑n:Int)/\x_1.2.2.length=n/\B.toNat<n/\h w/\(((e m a).bi (e m a)/\(e m b).bi (e m b)/\P.bi (j 0 E.length 1)/\t.bi t/\N.bi N/\True)/\V z x_1.2.1)/\((d<=w/\w<=q)/\ou E/\E.length=G/\bX E=bX (Γ w.toNat a)*bX b)/\(q - w).toNat<(q - x.1).toNat))/\(decide (x.1<q)=false->C=x.2.length/\C<=1000000000000/\(e m (IL x.2)).bi (e m (bU (bX a*bX b))))) (by kernel_rfl) ?_;simp only[vcs];refine⟨by omega,by omega,by omega,by omega,by omega,?_,?_⟩
 ·repeat' refine γk ?_ ?_
  all_goals first|omega|exact kQ (by simp)|exact wW|(simp;omega)|(rw[v7];simp[bX])
 rintro⟨i,row⟩ ⟨⟨i0,i1⟩,hr,hl,hv⟩;simp only at i0 i1 hr hl hv ⊢;refine⟨λilt=>⟨⟨⟨by omega,by omega⟩,rfl,rfl⟩,?_⟩,λige=>?_⟩
 ·rintro⟨k,c,ro⟩ ⟨⟨k0,k1⟩,e1,e2⟩;simp only at k0 k1 e1 e2 ⊢;have x1:=dB ha i.toNat;obtain⟨m1,m2,⟨m3,m4⟩,m5,m6⟩:=@LU row b (bN a i.toNat 0) i.toNat hr hb x1.1 x1.2 k.toNat (by omega);have hp:=@Ug row b (bN a i.toNat 0) i.toNat k.toNat;generalize gw row b (bN a i.toNat 0) i.toNat k.toNat=M at*;obtain⟨p,q⟩:=M;simp only at e1 e2 m1 m2 m3 m4 m5 m6 hp;subst e1 e2;have hik:(i+k).toNat=i.toNat+k.toNat:=by omega
  have hk1:(k+1).toNat=k.toNat+1:=by omega
  have hi1:(i+1).toNat=i.toNat+1:=by omega
  refine⟨λklt=>?_,λkge=>?_⟩
  ·have x2:=dB hb k.toNat;have x3:=dB m1 (i.toNat+k.toNat);have hxb:0<=bN a i.toNat 0*bN b k.toNat 0:=γu x1.1 x2.1;have aYS:bN a i.toNat 0*bN b k.toNat 0<=4294967295*4294967295:=Int.mul_le_mul (by omega) (by omega) x2.1 (by omega);rw[hik,hk1,hp];have hq:(((bN a i.toNat 0 % 18446744073709551616*(bN b k.toNat 0 % 18446744073709551616) % 18446744073709551616+bN ro (i.toNat+k.toNat) 0 % 18446744073709551616) % 18446744073709551616+c) % 18446744073709551616)=bN a i.toNat 0*bN b k.toNat 0+bN ro (i.toNat+k.toNat) 0+c:=by
    rw[δL (a:=bN a i.toNat 0) (by omega) (by omega),δL (a:=bN b k.toNat 0) (by omega) (by omega)];omega
   rw[hq];repeat' refine γk ?_ ?_
   all_goals first|omega|exact kQ (by simp)|rfl
  ·have hkl:k.toNat=b.length:=by omega
   rw[show(i+(b.length:Int)).toNat=i.toNat+b.length by omega];rw[hkl,ψ] at m6;rw[hkl] at m5;have hz:bN ro (i.toNat+b.length) 0=0:=by
    rw[m5 _ (ξ _)];refine xN hr (i:=i.toNat+b.length) ?_ (ξ _);rw[hv,δ6];have t1:=mN (lL ha i.toNat);rw[γx,εi (by omega)] at t1;have t2:=mN hb;have t3:=el (lL ha i.toNat);have t4:=el hb;exact εK (Ξ (γg t2) t3) (γ4 t1 (pow_pos _))
   have hc:c % 4294967296=c:=by omega
   rw[hc,hi1];have hfin:bX (ro.set (i.toNat+b.length) c)=bX (a.take (i.toNat+1))*bX b:=by
    rw[rC (by omega),hz,ζg,m6,hv,kW,Int.add_mul,δm]
   repeat' refine γk ?_ ?_
   all_goals first|omega|exact kQ (by simp)|exact lK m1 m3 m4|exact hfin|(rw[Φ];omega)
 ·have hi:i.toNat=a.length:=by omega
  rw[hi,ψ] at hv;refine⟨by omega,?_⟩;rw[oo hr,hv]
theorem KT {x m:Int} {k:Nat} (p:0<=x) (t:x<2^k) (o:0<=m) (j:m*2^k<4294967296) (u:x<4294967296):gd.orI .u32 x (m*2^k)=x+m*2^k:=by
 obtain⟨a,rfl⟩:=δH p;obtain⟨b,rfl⟩:=δH o;have e:((b:Int)*2^k)=((2^k*b:Nat):Int):=by grind
 have h:a<2^k:=by grind
 rw[e] at j ⊢;generalize i:2^k*b=c at*;have d:c<4294967296:=by omega
 have f:a<4294967296:=by omega
 have q:(γo 32 ((a:Nat):Int)).toNat=a:=by simp_all
 have r:(γo 32 ((c:Nat):Int)).toNat=c:=by simp_all
 have g:a |||c=a+c:=by
  rw[Nat.or_comm,<-i,<-Nat.two_pow_add_eq_or_of_lt h];omega
 have l:a+c<4294967296:=by
  rw[<-g];exact Nat.or_lt_two_pow (n:=32) f d
 have s:(γo 32 ((a:Nat):Int) |||γo 32 ((c:Nat):Int)).toNat=a+c:=by
  grind
 show ed .u32 ((γo 32 ((a:Nat):Int) |||γo 32 ((c:Nat):Int)).toNat:Nat)=_;grind[rm,IntKind.wrap,IntKind.bits,IntKind.signed]
theorem EJ:∀{l:List Int} {i:Nat},ou l->4294967296^i*bN l i 0<=bX l
 |[],i,_=>by simp[bN,bX];|d::l,0,h=>by
  obtain⟨b,a⟩:=iG.1 h;have:=el a;grind[bN,bX];|d::l,i+1,h=>by
  obtain⟨b,a⟩:=iG.1 h;have:=@EJ l i a;have e:bN (d::l) (i+1) 0=bN l i 0:=by simp[bN]
  rw[e,γT,δ3 (4294967296^i),δm];grind[bX]
theorem KS {a b:List Int} {i k:Nat} (n:ou a) (e:ou b) (F:b.length=a.length+1) (G:i<a.length) (u:k<=31) (q:bX b=bX (a.take i)*2^k):
  ou ((b.set i (gd.orI .u32 (bN b i 0) (bN a i 0 % 18446744073709551616*2^k % 18446744073709551616 % 4294967296))).set (i+1) (bN a i 0 % 18446744073709551616*2^k % 18446744073709551616 / 4294967296 % 4294967296))/\
  bX ((b.set i (gd.orI .u32 (bN b i 0) (bN a i 0 % 18446744073709551616*2^k % 18446744073709551616 % 4294967296))).set (i+1) (bN a i 0 % 18446744073709551616*2^k % 18446744073709551616 / 4294967296 % 4294967296))=bX (a.take (i+1))*2^k:=by
 have x:=dB n i;have r:=dB e i;have c:(0:Int)<2^k:=δO (by decide);have A:(2:Int)^k<=2147483648:=by
  have D:(2:Nat)^k<=2^31:=δs (by decide) u;grind
 have w:(4294967296:Int)=2^(32 - k)*2^k:=by
  rw[<-δ6,show 32 - k+k=32 by omega];decide
 have B:(0:Int)<2^(32 - k):=δO (by decide);have v:0<=bN a i 0*2^k:=γu x.1 (γg c);have H:bN a i 0*2^k<4294967296*2^k:=γ4 x.2 c;have z:bN a i 0 % 18446744073709551616*2^k % 18446744073709551616=bN a i 0*2^k:=by
  rw[δL (a:=bN a i 0) (by omega) (by omega),δL v (by omega)]
 have o:bN a i 0*2^k % 4294967296=(bN a i 0 % 2^(32 - k))*2^k:=by
  conv=>lhs;rw[w]
  rw[δ3 (bN a i 0),δ3 (2^(32 - k)),ζA _ _ c,δ3]
 have p:=δN (bN a i 0) (show(2:Int)^(32 - k)≠0 by omega);have E:=δq (bN a i 0) B;have s:=pow_pos i;have d:bX b<4294967296^i*2^k:=by
  rw[q];have:=mN (lL n i);rw[γx,εi (by omega)] at this;simp_all
 have h:bN b i 0<2^k:=εs (εK (EJ e) d) (γg s);have m:bN b (i+1) 0=0:=by
  refine xN e (i:=i+1) ?_ (ξ _);rw[γT];exact εH d (Ξ (by omega) (γg s))
 have f:(bN a i 0 % 2^(32 - k))*2^k+2^k<=4294967296:=by
  have:(bN a i 0 % 2^(32 - k)+1)*2^k<=2^(32 - k)*2^k:=γU (by omega) (γg c);grind
 have l:0<=(bN a i 0 % 2^(32 - k))*2^k:=γu p (γg c);have g:=KT (k:=k) r.1 h p (by omega) r.2;rw[z,o,g];generalize y:bN a i 0*2^k=t at*;have j:(bN a i 0 % 2^(32 - k))*2^k=t % 4294967296:=o.symm;rw[j] at f l ⊢;refine⟨lK (lK e (by omega) (by omega)) (by omega) (by omega),?_⟩;rw[rC (by simp;omega),rC (by omega),nK (by omega),m,kW,Int.add_mul,δm,y,q,γT];have C:t / 4294967296 % 4294967296=t / 4294967296:=by omega
 grind
def shl (a:List Int) (k:Nat):List Int:=gk (a.length+1) (bX a*2^k)
abbrev PV:=List Int×Int
def wB (a:PV):Prop:=ou a.1/\a.1.length<=100000000000/\0<=a.2/\a.2<=31
def EI:M9:=⟨187,List Int×Int,.cons (cL (.i .u32)) (.one (dX .u64)),wB,λa=> .row (.i .u32) (shl a.1 a.2.toNat)⟩
def EH:cU where
 f:=187;α:=List Int×Int;put a:=[.row (.i .u32) a.1,.si .u64 a.2];st _:=[];dec v o:=match v,o with
  |[v,m],[]=>match iJ (.i .u32) v,m.int .u64 with
   |some p,some m=>some (p,m)
   |_,_=>none
  |_,_=>none;ok v o a h:=by
  split at h
  ·split at h
   ·rename_i h1 h2;simp only[γ] at h;subst h;exact⟨by simp only[gL,ng h1,gS h2];rfl,rfl⟩
   ·cases h
  ·cases h
 inj a b h _:=by
  simp only[gL,Δ,and_true] at h;have h2:=h.2;simp only[SV.g,δf,Value.int.injEq,true_and] at h2;exact εF ((cL (.i .u32)).inj _ _ h.1) h2
 dom:=wB;res a:=.ow 0 (shl a.1 a.2.toNat).length 1;out a:=[.row (.i .u32) (shl a.1 a.2.toNat) 172 false]
def KR (a:PV):Nat->bG
 |3=> .inv (Int×List Int) (λx=>⟨[(0,.row (.i .u32) a.1),(1,.si .u64 a.2),(5,.ow 0 x.2.length 1),(13,.si .i64 a.1.length),(14,.si .i64 x.1)],[.row (.i .u32) x.2 172 false]⟩)
  (λs=>(iS s 14,oS (.i .u32) s 0))
  (λx=>(0<=x.1/\x.1<=a.1.length)/\ou x.2/\x.2.length=a.1.length+1/\bX x.2=bX (a.1.take x.1.toNat)*2^a.2.toNat) (λx=>(a.1.length - x.1).toNat) λ_ _=> .look
 |_=> .look
theorem IF:dA Tryz.prog EH:=by
 refine Fl (L:=[]) (W:=[]) EH (λ_=>none) KR (by simp) (by simp) ?_;rintro⟨a,s⟩ ⟨ha,hla,s0,s1⟩;simp only at ha hla s0 s1;refine NH (let b:=(0:Int);let c:=(18446744073709551616:Int);let d:=(4294967296:Int);let e:=γf .i64;let f:=iZ.row;let g:=VI .i64;let h:=Ψ;let j:=γW;let w:=(↑a.length:Int);let o:=w+(1:Int);let l:=ew.i .u32;let r:=b::δ a.length b;let m:=(↑a.length:Int);let y:=e m;let A:=f l r 172 false;let z:=a.length+1;let u:=(2:Int)^s.toNat;g o/\b<=o/\o<=o/\o*(4:Int)<=(140737488355328:Int)/\o<=(1000000000000:Int)/\((((h l a).bi (h l a)/\(γf .u64 s).bi (γf .u64 s)/\(j 0 o.toNat 1).bi (j 0 r.length 1)/\(e w).bi y/\(γv .i64 0).bi (e 0)/\True)/\A.bi A/\True)/\(b<=b/\b<=m)/\ou r/\r.length=z/\bX r=bX []*u)/\∀(x:Int×List Int),let p:=x.2.length;let q:=x.1.toNat;let B:=bN a q b % c*u % c;let v:=x.2.set q (gd.orI .u32 (bN x.2 q b) (B % d));let n:=x.2.length;let k:=x.1+(1:Int);let C:=j 0 p 1;let t:=v.set k.toNat (B / d % d);let D:=e k;let E:=f l t 172 false;let F:=p=v.length;(b<=x.1/\x.1<=m)/\ou x.2/\p=z/\bX x.2=bX (Γ q a)*u->(decide (x.1<m)=true->b<=x.1/\x.1<w/\q<a.length/\b<=s/\s<=(64:Int)/\p=n/\b<=x.1/\x.1<(↑n:Int)/\p=n/\q<n/\p=n/\b<=x.1/\x.1<(↑n:Int)/\p=n/\q<n/\g k/\b<=(32:Int)/\(32:Int)<=(64:Int)/\F/\b<=k/\k<(↑v.length:Int)/\F/\k.toNat<v.length/\g k/\(((h l a).bi (h l a)/\(γf .u64 s).bi (γf .u64 s)/\C.bi (j 0 t.length 1)/\y.bi y/\D.bi D/\True)/\E.bi E/\True)/\((b<=k/\k<=m)/\ou t/\t.length=z/\bX t=bX (Γ k.toNat a)*u)/\(m - k).toNat<(m - x.1).toNat)/\(decide (x.1<m)=false->C.bi (j 0 (shl a s.toNat).length 1)/\(f l x.2 172 false).bi (f l (shl a s.toNat) 172 false)/\True)) (by kernel_rfl) ?_;simp only[vcs];refine⟨by omega,by omega,by omega,by omega,by omega,?_,?_⟩
 ·repeat' refine γk ?_ ?_
  all_goals first|omega|exact kQ (by simp)|exact iG.2 ⟨by omega,wW⟩|(simp;done)|(simp only[bX,v7];omega)
 rintro⟨i,row⟩ ⟨⟨i0,i1⟩,hr,hl,hv⟩;simp only at i0 i1 hr hl hv ⊢;refine⟨λilt=>?_,λige=>?_⟩
 ·obtain⟨k1,k2⟩:=KS ha hr hl (show i.toNat<a.length by omega) (show s.toNat<=31 by omega) hv;have e:(i+1).toNat=i.toNat+1:=by omega
  rw[e];repeat' refine γk ?_ ?_
  all_goals first|omega|exact kQ (by simp)|(simp only[Φ];done)|(simp only[Φ];omega)|exact k1|exact k2
 ·have hi:i.toNat=a.length:=by omega
  rw[hi,ψ] at hv;have hrow:row=shl a s.toNat:=F6 hr hl hv;rw[hrow];exact⟨rfl,rfl⟩
theorem y5:Holds Tryz.prog EI:=by
 refine bI (L:=[]) EI KR (by simp) ?_;rintro⟨a,s⟩ ⟨ha,hla,s0,s1⟩;simp only at ha hla s0 s1;refine NH (let b:=(0:Int);let c:=(18446744073709551616:Int);let d:=(4294967296:Int);let e:=γf .i64;let f:=Ψ;let g:=VI .i64;let h:=γW;let v:=(↑a.length:Int);let o:=v+(1:Int);let l:=ew.i .u32;let q:=b::δ a.length b;let m:=(↑a.length:Int);let w:=e m;let z:=iZ.row l q 172 false;let y:=a.length+1;let t:=(2:Int)^s.toNat;g o/\b<=o/\o<=o/\o*(4:Int)<=(140737488355328:Int)/\o<=(1000000000000:Int)/\((((f l a).bi (f l a)/\(γf .u64 s).bi (γf .u64 s)/\(h 0 o.toNat 1).bi (h 0 q.length 1)/\(e v).bi w/\(γv .i64 0).bi (e 0)/\True)/\z.bi z/\True)/\(b<=b/\b<=m)/\ou q/\q.length=y/\bX q=bX []*t)/\∀(x:Int×List Int),let n:=x.2.length;let p:=x.1.toNat;let A:=bN a p b % c*t % c;let u:=x.2.set p (gd.orI .u32 (bN x.2 p b) (A % d));let k:=x.2.length;let j:=x.1+(1:Int);let r:=u.set j.toNat (A / d % d);let B:=e j;let C:=iZ.row l r 172 false;let D:=n=u.length;(b<=x.1/\x.1<=m)/\ou x.2/\n=y/\bX x.2=bX (Γ p a)*t->(decide (x.1<m)=true->b<=x.1/\x.1<v/\p<a.length/\b<=s/\s<=(64:Int)/\n=k/\b<=x.1/\x.1<(↑k:Int)/\n=k/\p<k/\n=k/\b<=x.1/\x.1<(↑k:Int)/\n=k/\p<k/\g j/\b<=(32:Int)/\(32:Int)<=(64:Int)/\D/\b<=j/\j<(↑u.length:Int)/\D/\j.toNat<u.length/\g j/\(((f l a).bi (f l a)/\(γf .u64 s).bi (γf .u64 s)/\(h 0 n 1).bi (h 0 r.length 1)/\w.bi w/\B.bi B/\True)/\C.bi C/\True)/\((b<=j/\j<=m)/\ou r/\r.length=y/\bX r=bX (Γ j.toNat a)*t)/\(m - j).toNat<(m - x.1).toNat)/\(decide (x.1<m)=false->n=k/\(f l x.2).bi (f l (shl a s.toNat)))) (by kernel_rfl) ?_;simp only[vcs];refine⟨by omega,by omega,by omega,by omega,by omega,?_,?_⟩
 ·repeat' refine γk ?_ ?_
  all_goals first|omega|exact kQ (by simp)|exact iG.2 ⟨by omega,wW⟩|(simp;done)|(simp only[bX,v7];omega)
 rintro⟨i,row⟩ ⟨⟨i0,i1⟩,hr,hl,hv⟩;simp only at i0 i1 hr hl hv ⊢;refine⟨λilt=>?_,λige=>?_⟩
 ·obtain⟨k1,k2⟩:=KS ha hr hl (show i.toNat<a.length by omega) (show s.toNat<=31 by omega) hv;have e:(i+1).toNat=i.toNat+1:=by omega
  rw[e];repeat' refine γk ?_ ?_
  all_goals first|omega|exact kQ (by simp)|(simp only[Φ];done)|(simp only[Φ];omega)|exact k1|exact k2
 ·have hi:i.toNat=a.length:=by omega
  rw[hi,ψ] at hv;have hrow:row=shl a s.toNat:=F6 hr hl hv;rw[hrow]
theorem sI {U:List Int} {j:Nat} (h:j<=U.length):bX U=bX (U.take j)+4294967296^j*bX (U.drop j):=by
 conv=>lhs;rw[<-γP j U]
 grind[F4]
theorem Ue {U l:List Int} {j:Nat} (h:j<=U.length):(iu U j l).take j=U.take j:=by
 grind[iu]
theorem Ud {U l:List Int} {j:Nat} (h:j<=U.length):(iu U j l).drop j=l++U.drop (j+l.length):=by
 grind[iu]
theorem Uc {U l:List Int} {j:Nat} (a:ou U) (b:ou l):ou (iu U j l):=LV (lL a _) (LV b (xO a _))
theorem Ub {U q v:List Int} {j m:Nat} {A:Int} (d:ou U) (w:ou v) (G:ou q) (H:2<=v.length) (u:U.length=m+1+v.length) (x:q.length=m+1) (J:j<=m) (p:0<bX v)
  (s:bN q j 0=0) (B:bX U+bX v*bX q=A) (D:bX (U.drop (j+1))<bX v):
  bX (bM U j (v.length+1))<4294967296*bX v/\
  (ou (iu U j (gk (v.length+1) (bX (bM U j (v.length+1)) % bX v)))/\(iu U j (gk (v.length+1) (bX (bM U j (v.length+1)) % bX v))).length=U.length)/\
  (0<=bX (bM U j (v.length+1)) / bX v/\bX (bM U j (v.length+1)) / bX v<4294967296)/\
  bX (iu U j (gk (v.length+1) (bX (bM U j (v.length+1)) % bX v)))+bX v*bX (q.set j (bX (bM U j (v.length+1)) / bX v))=A/\
  bX ((iu U j (gk (v.length+1) (bX (bM U j (v.length+1)) % bX v))).drop j)<bX v:=by
 have y:=mN w;have f:=xO d (j+1);have l:=el (rA d (j:=j) (k:=v.length+1));have b:bX (U.drop (j+(v.length+1)))=0:=by
  have e:bX (U.drop (j+1))=bX ((U.drop (j+1)).take v.length)+4294967296^v.length*bX ((U.drop (j+1)).drop v.length):=sI (by simp;omega);rw[δk,show j+1+v.length=j+(v.length+1) by omega] at e;have I:=el (lL f v.length);have F:=el (xO d (j+(v.length+1)));by_cases h:bX (U.drop (j+(v.length+1)))=0;·exact h
  ·have:=Ξ (show(1:Int)<=bX (U.drop (j+(v.length+1))) by omega) (γg (pow_pos v.length));omega
 have a:bX (U.drop j)=bX (bM U j (v.length+1)):=by
  have e:bX (U.drop j)=bX ((U.drop j).take (v.length+1))+4294967296^(v.length+1)*bX ((U.drop j).drop (v.length+1)):=sI (by simp;omega);rw[δk,b,δJ,εj] at e;exact e
 have g:bX (U.drop j)=bN U j 0+4294967296*bX (U.drop (j+1)):=by
  rw[zz (show j<U.length by omega)];rfl
 have K:=dB d j;have r:bX (bM U j (v.length+1))<4294967296*bX v:=by omega
 have i:=@xQ (v.length+1) (bX (bM U j (v.length+1)) % bX v);have C:=δN (bX (bM U j (v.length+1))) (show bX v≠0 by omega);have E:=δq (bX (bM U j (v.length+1))) p;have t:bX (gk (v.length+1) (bX (bM U j (v.length+1)) % bX v))=bX (bM U j (v.length+1)) % bX v:=by
  grind[F5]
 have o:bX ((iu U j (gk (v.length+1) (bX (bM U j (v.length+1)) % bX v))).drop j)=bX (bM U j (v.length+1)) % bX v:=by
  grind[Ud,F4]
 have c:(iu U j (gk (v.length+1) (bX (bM U j (v.length+1)) % bX v))).length=U.length:=LR (by rw[i];omega);have n:0<=bX (bM U j (v.length+1)) / bX v:=δZ l (by omega);refine⟨r,⟨Uc d F7,c⟩,⟨n,εV p r⟩,?_,by omega⟩;rw[sI (U:=iu U j _) (j:=j) (by rw[c];omega),Ue (by omega),o,rC (by omega),s,ζg];rw[sI (U:=U) (j:=j) (by omega),a] at B;have z:=εh (bX (bM U j (v.length+1))) (bX v);grind
theorem LF {a b:List Int} {s:Nat} (k:ou a) (w:ou b) (u:s<=31) (l:b.length<=a.length) (q:1<=b.length) (d:1<=bN b (b.length - 1) 0):
  ou (shl a s)/\(shl a s).length=a.length+1/\bX (shl a s)=bX a*2^s/\bX ((shl a s).drop (a.length - b.length+1))<bX b*2^s:=by
 have e:(0:Int)<2^s:=δO (by decide);have v:(2:Int)^s<=2147483648:=by
  have h:(2:Nat)^s<=2^31:=δs (by decide) u;grind
 have f:=el k;have g:=mN k;have n:bX a*2^s<4294967296^a.length*2^s:=γ4 g e;have c:bX (shl a s)=bX a*2^s:=by
  unfold shl;refine F5 (γu f (γg e)) (εH n ?_);rw[γT];exact Ξ (by omega) (γg (pow_pos _))
 have i:ou (shl a s):=F7;have t:(shl a s).length=a.length+1:=xQ;refine⟨i,t,c,?_⟩;have h:=sI (U:=shl a s) (j:=a.length - b.length+1) (by omega);have y:=el (lL i (a.length - b.length+1));have x:4294967296^(b.length - 1)*bN b (b.length - 1) 0<=bX b:=EJ w;have o:(4294967296:Int)^(b.length - 1)<=bX b:=by
  have:=Ξ d (γg (pow_pos (b.length - 1)));omega
 have m:(4294967296:Int)^a.length=4294967296^(a.length - b.length+1)*4294967296^(b.length - 1):=by
  rw[<-δ6];congr 1;omega
 rw[c] at h;have p:(4294967296:Int)^(a.length - b.length+1)*bX ((shl a s).drop (a.length - b.length+1))<4294967296^(a.length - b.length+1)*(4294967296^(b.length - 1)*2^s):=by
  rw[<-δm,<-m];omega
 have r:=εs p (γg (pow_pos _));exact εH r (γU o (γg e))
theorem Ua {x y:Int} {s:Nat} (n:0<=x) (u:x<4294967296) (t:0<=y) (o:y<4294967296) (g:0<s) (q:s<=31):
  ∃r,gd.orI .u32 (x / 2^s) (y*2^(32 - s) % 4294967296)=r/\(0<=r/\r<4294967296)/\2^s*r=x - x % 2^s+4294967296*(y % 2^s):=by
 have b:(0:Int)<2^s:=δO (by decide);have c:(0:Int)<2^(32 - s):=δO (by decide);have l:(4294967296:Int)=2^s*2^(32 - s):=by
  rw[<-δ6,show s+(32 - s)=32 by omega];decide
 have f:y*2^(32 - s) % 4294967296=(y % 2^s)*2^(32 - s):=by
  conv=>lhs;rw[l]
  rw[δ3 y,δ3 (2^s),ζA _ _ c,δ3]
 have d:=δN y (show(2:Int)^s≠0 by omega);have p:=δq y b;have e:0<=x / 2^s:=δZ n (γg b);have m:x / 2^s<2^(32 - s):=εV b (by grind);have h:(y % 2^s)*2^(32 - s)+2^(32 - s)<=4294967296:=by
  have:=γU (show y % 2^s+1<=2^s by omega) (γg c);grind
 have j:0<=(y % 2^s)*2^(32 - s):=γu d (γg c);have a:=KT (k:=32 - s) e m d (by omega) (by omega);refine⟨x / 2^s+(y % 2^s)*2^(32 - s),by rw[f,a],⟨by omega,by omega⟩,?_⟩;have i:=εh x (2^s);grind
theorem LD {U r:List Int} {i s:Nat} {d:Int} (b:ou U) (c:ou r) (h:i<r.length) (g:∀j,i<=j->bN r j 0=0) (a:0<=d/\d<4294967296)
  (f:2^s*d=bN U i 0 - bN U i 0 % 2^s+4294967296*(bN U (i+1) 0 % 2^s))
  (e:2^s*bX r=bX (U.take i) - bN U 0 0 % 2^s+4294967296^i*(bN U i 0 % 2^s)):
  ou (r.set i d)/\(r.set i d).length=r.length/\(∀j,i+1<=j->bN (r.set i d) j 0=0)/\
  2^s*bX (r.set i d)=bX (U.take (i+1)) - bN U 0 0 % 2^s+4294967296^(i+1)*(bN U (i+1) 0 % 2^s):=by
 grind[lK,nK,rC,kW]
theorem UO {U r v q:List Int} {n s:Nat} {a b:Int} (f:ou U) (A:ou r) (y:ou v) (g:v.length=n) (u:bX U<bX v) (J:bX v=b*2^s) (C:0<b) (D:bX U+bX v*bX q=a*2^s)
  (G:s<=31) (x:n+1<=U.length)
  (c:2^s*bX r=bX (U.take n) - bN U 0 0 % 2^s+4294967296^n*(bN U n 0 % 2^s)):bX q=a / b/\bX r=a % b:=by
 have H:(0:Int)<2^s:=δO (by decide);have m:=mN y;rw[g] at m;have o:bN U n 0=0:=xN f (i:=n) (by omega) (ξ _);have e:bX (U.take n)=bX U:=by
  have k:=sI (U:=U) (j:=n) (by omega);have p:=el (lL f n);have w:=el (xO f n);by_cases h:bX (U.drop n)=0;·simp_all
  ·have:=Ξ (show(1:Int)<=bX (U.drop n) by omega) (γg (pow_pos n));omega
 have d:bX U=2^s*(a - b*bX q):=by
  grind
 have l:bN U 0 0 % 2^s=0:=by
  have k:=@kW U 0;have p:=sI (U:=U) (j:=1) (by omega);have E:(4294967296:Int)=2^s*2^(32 - s):=by
   rw[<-δ6,show s+(32 - s)=32 by omega];decide
  simp only[Nat.zero_add,List.take_zero,bX,Int.pow_zero,εz,Int.zero_add] at k;rw[k,γT,Int.pow_zero,εz] at p;have w:bN U 0 0=2^s*(a - b*bX q - 2^(32 - s)*bX (U.drop 1)):=by
   grind
  simp_all
 rw[o,l,e,Int.zero_emod,δJ,ζg,εj,d] at c;have t:bX r=a - b*bX q:=Int.eq_of_mul_eq_mul_left (by omega) c;have B:=el A;have z:bX r<b:=by
  have:2^s*bX r<2^s*b:=by
   grind
  simp_all
 obtain⟨F,I⟩:=sU (X:=a) (V:=b) (q:=bX q) (by grind) (by grind);grind
theorem ze:∀{w:List Int},ou w->ff w->w≠[]->4294967296^(w.length - 1)<=bX w
 |[],_,_,h=>absurd rfl h
 |[d],a,b,_=>by
  have f:=(iG.1 a).1;have c:=b.1 rfl;grind[bX];|d::e::l,a,b,_=>by
  obtain⟨f,c⟩:=iG.1 a;have g:=ze c b.2 (by simp);have i:bX (d::e::l)=d+4294967296*bX (e::l):=rfl;simp only[γG,ζV] at g ⊢;omega
theorem zd {a b:Nat} (h:a<=b):(4294967296:Int)^a<=4294967296^b:=by
 obtain⟨m,rfl⟩:=Nat.exists_eq_add_of_le h;rw[δ6];have c:=pow_pos a;have d:=pow_pos m;have:=Ξ (show(1:Int)<=4294967296^m by omega) (γg c);omega
theorem EG {t:List Int} {s:Nat} (e:ou t) (H:1<=t.length) (G:s<=31) (d:bN t (t.length - 1) 0*2^s<4294967296) (c:2147483648<=bN t (t.length - 1) 0*2^s):
  ou (IL (shl t s))/\(IL (shl t s)).length=t.length/\bX (IL (shl t s))=bX t*2^s/\2147483648<=bN (IL (shl t s)) (t.length - 1) 0/\1<=bN t (t.length - 1) 0:=by
 have o:(0:Int)<2^s:=δO (by decide);have q:=dB e (t.length - 1);have a:1<=bN t (t.length - 1) 0:=by
  grind
 obtain⟨y,N,z,_⟩:=LF e e G (ξ _) H a;obtain⟨f,E⟩:=@pF (shl t s);have i:=qo y;rw[z] at f;generalize IL (shl t s)=w at*;obtain⟨n,A⟩:∃n,t.length=n+1:=⟨t.length - 1,by omega⟩;rw[A] at d c a q ⊢;simp only[ζV] at d c a q ⊢;have p:=pow_pos n;have v:bX t=bX (t.take n)+4294967296^n*bN t n 0:=by
  grind[kW]
 have B:=el (lL e n);have k:=mN (lL e n);rw[γx,εi (by omega)] at k;have J:(4294967296:Int)=2^(32 - s)*2^s:=by
  rw[<-δ6,show 32 - s+s=32 by omega];decide
 have L:(0:Int)<2^(32 - s):=δO (by decide);have D:bN t n 0<2^(32 - s):=by
  simp_all
 have l:(bN t n 0+1)*2^s<=4294967296:=by
  have:=γU (show bN t n 0+1<=2^(32 - s) by omega) (γg o);omega
 have x:bX w<4294967296^(n+1):=by
  rw[f,γT];have F:bX t<4294967296^n*(bN t n 0+1):=by grind
  have M:=γ4 F o;have I:=Ξ l (γg p);grind
 have u:4294967296^n*(bN t n 0*2^s)<=bX w:=by
  rw[f,<-δm];exact γU (by omega) (γg o)
 have r:(4294967296:Int)^n<=bX w:=by
  have:=Ξ (show(1:Int)<=bN t n 0*2^s by omega) (γg p);omega
 have b:w.length=n+1:=by
  have K:n<w.length:=by
   by_cases h:n<w.length;·exact h
   ·have:=mN i;have:=zd (show w.length<=n by omega);omega
  by_cases h:w.length=n+1;·exact h
  ·have j:w≠[]:=by grind
   have:=ze i E j;have:=zd (show n+1<=w.length - 1 by omega);omega
 refine⟨i,b,f,?_,a⟩;have C:bX w=bX (w.take n)+4294967296^n*bN w n 0:=by
  grind[kW]
 have m:=mN (lL i n);rw[γx,εi (by omega)] at m;have g:4294967296^n*(bN t n 0*2^s)<4294967296^n*(bN w n 0+1):=by grind
 have:=εs g (γg p);omega
@[reducible] def sF:ew:=.pair .b (.pair (.qE (.i .u32)) (.qE (.i .u32)))
abbrev NG:=Bool×(List Int×List Int)
def nf (q:Rat):NG:=(decide (q<0),(bU (q.num.natAbs:Int),bU (q.den:Int)))
def TL (x:NG):Rat:=mkRat (if x.1 then -bX x.2.1 else bX x.2.1) (bX x.2.2).toNat
def Sz (k:Nat) (q:Rat):Prop:=(q.num.natAbs:Int)<4294967296^k/\(q.den:Int)<4294967296^k
theorem lu {n:Int} {k:Nat} (e:0<=n) (h:n<4294967296^k):(bU n).length<=k:=by
 obtain⟨f,b,d⟩:=ft e;by_cases c:(bU n).length<=k;·exact c
 ·have a:bU n≠[]:=by grind
  have:=ze b d a;have:=zd (show k<=(bU n).length - 1 by omega);omega
theorem dH (q:Rat):TL (nf q)=q:=by
 unfold TL nf;have a:=(ft (show(0:Int)<=(q.num.natAbs:Int) by omega)).1;have b:=(ft (show(0:Int)<=(q.den:Int) by omega)).1;simp only[a,b,decide_eq_true_eq,Int.toNat_natCast];grind[Rat.num_nonneg,δW]
theorem LC {N:Int} {D:Nat} (a:D≠0):(mkRat N D).num.natAbs=N.natAbs / N.natAbs.gcd D/\(mkRat N D).den=D / N.natAbs.gcd D:=by
 rw[<-ζD a,Rat.normalize_eq a];simp only;refine⟨?_,trivial⟩;have b:0<N.natAbs.gcd D:=Nat.gcd_pos_of_pos_right _ (by omega);have c:((N.natAbs.gcd D:Nat):Int)∣N:=Int.ofNat_dvd_left.2 (Nat.gcd_dvd_left _ _);generalize N.natAbs.gcd D=g at*;obtain⟨m,rfl⟩:=c;rw[Int.mul_ediv_cancel_left _ (by omega),εr,ζh,Nat.mul_div_cancel_left _ b]
theorem UN {N:Int} {D:Nat} (f:D≠0):mkRat N D<0↔N<0:=by
 have i:(0:Rat)=mkRat 0 D:=(Rat.zero_mkRat D).symm;have e:mkRat N D<0↔¬0<=mkRat N D:=Rat.not_le.symm;rw[e,<-Rat.num_nonneg];have g:=Rat.num_divInt_den (mkRat N D);have c:(mkRat N D).num*(D:Int)=N*((mkRat N D).den:Int):=by
  grind[Rat.mkRat_eq_iff,mkRat,δW]
 have d:(0:Int)<((mkRat N D).den:Int):=by have:=(mkRat N D).den_pos;omega
 have b:(0:Int)<(D:Int):=by omega
 constructor
 ·intro h;by_cases a:N<0;·exact a
  ·exfalso;apply h;have:0<=(mkRat N D).num*(D:Int):=by rw[c];exact γu (by omega) (by omega)
   exact Int.nonneg_of_mul_nonneg_left this b
 ·intro a h;have:0<=(mkRat N D).num*(D:Int):=γu h (by omega);rw[c] at this;have:=Int.mul_neg_of_neg_of_pos a d;omega
theorem LB {s:Bool} {n d:Int} (n0:0<=n) (f:0<d):nf (mkRat (if s then -n else n) d.toNat)=(s&&decide (0<n),(bU (n / dI n d),bU (d / dI n d))):=by
 have e:d.toNat≠0:=by omega
 obtain⟨b,c⟩:=LC (N:=if s then -n else n) e;have a:(if s then -n else n).natAbs=n.toNat:=by split<;>omega
 unfold nf;rw[b,c,a];have g:dI n d=((n.toNat.gcd d.toNat:Nat):Int):=rfl;refine εF ?_ (εF ?_ ?_)
 ·simp only;rw[Bool.eq_iff_iff];simp only[decide_eq_true_eq,θ];grind[UN]
 all_goals grind
theorem wV {N:Int} {D:Nat} {k:Nat} (b:D≠0) (f:(N.natAbs:Int)<4294967296^k) (e:(D:Int)<4294967296^k):Sz k (mkRat N D):=by
 obtain⟨c,a⟩:=LC (N:=N) b;unfold Sz;rw[c,a];have g:=Nat.div_le_self N.natAbs (N.natAbs.gcd D);have d:=Nat.div_le_self D (N.natAbs.gcd D);omega
theorem Sz.mono {j k:Nat} {q:Rat} (h:Sz j q) (a:j<=k):Sz k q:=by
 have:=zd a;exact⟨by have:=h.1;omega,by have:=h.2;omega⟩
theorem LA (p q:Rat):p+q=mkRat (p.num*q.den+q.num*p.den) (p.den*q.den):=by
 rw[Rat.add_def,ζD]
theorem wU {p q:Rat} {i j:Nat} (e:Sz i p) (c:Sz j q):Sz (i+j+1) (p+q):=by
 rw[LA];have g:=p.den_pos;have l:=q.den_pos;have k:p.den*q.den≠0:=Nat.ne_of_gt (Nat.mul_pos g l);have m:∀{a b:Int} {i j:Nat},0<=a->0<=b->a<4294967296^i->b<4294967296^j->a*b<4294967296^(i+j):=by
  intro a b i j h o f d;rw[δ6];exact εK (Ξ (γg d) h) (γ4 f (pow_pos _))
 have f:=m (by omega) (by omega) e.1 c.2;have d:=m (by omega) (by omega) c.1 e.2;have n:=m (by omega) (by omega) e.2 c.2;rw[Nat.add_comm j i] at d;have t:=pow_pos (i+j);refine wV k ?_ ?_
 ·have r:(p.num*(q.den:Int)).natAbs=p.num.natAbs*q.den:=by rw[εr,ζh]
  have s:(q.num*(p.den:Int)).natAbs=q.num.natAbs*p.den:=by rw[εr,ζh]
  omega
 omega
theorem wT {p:Rat} {i:Nat} (a:Sz i p):Sz i (-p):=by
 grind[Sz,Rat.neg_num,Rat.neg_den]
theorem Lz {l m:List Int} (h:l.Perm m):l.sum=m.sum:=by
 induction h<;>grind
theorem Ly {g:bY}:∀{l c:List Int},kb g c=true->kb g (l.foldl (stepG g) c)=true
 |[],c,h=>h
 |x::l,c,h=>by
  show kb g (l.foldl (stepG g) (stepG g c x))=true;refine Ly ?_;grind[stepG]
theorem UM {p:cj} (d:nW p=0):kb (bV p) []=true:=by
 unfold kb;rw[List.all_eq_true];intro r b;have a:r<(bV p).bounds.length:=γq.1 b;have c:bN (bV p).bounds r 0=cB p r:=by
  show bN (jv p (nR p)) r 0=_;rw[b_ (by exact a)];simp[jv]
 simp_all[yc,kT]
theorem UL {p:cj}:dO p.bj.length (ji p):=by
 have h:=@Uu p (fS p).length;rw[ψ] at h;exact h
theorem Lx {p:cj} (a:nW p=0):bR p (ji p)=0:=(EX a UL).2 (Ly (UM a))
theorem UK {g:bY} (i:sj g):∀{n:Nat} {c:List Int},dO g.bj.length c->kb g c=true->dO g.bj.length (kS g n c)/\kb g (kS g n c)=true/\cR g c<=cR g (kS g n c)/\((1000000000 - cR g c).toNat<=n->gX g (kS g n c)=none):=by
 intro n;induction n with
 |zero=>
  intro c a j;refine⟨a,j,Int.le_refl _,λh=>?_⟩;show gX g c=none;cases f:gX g c with
  |none=>rfl;|some t=>
   obtain⟨d,b⟩:=vE f a;have k:=pA i b;unfold mb at d;grind
 |succ n l=>
  intro c a j;cases f:gX g c with
  |none=>
   grind[kS];|some t=>
   have e:kS g (n+1) c=kS g n t:=by grind[kS]
   rw[e];obtain⟨d,b⟩:=vE f a;have k:=pA i b;unfold mb at d;grind
theorem EF {p:cj} (a:nW p=0) {c:List Int} (b:bR p c=0):dO p.bj.length (fK p c).bn/\bR p (fK p c).bn=0/\cA p (fK p c).bn=(fK p c).value/\cA p c<=(fK p c).value/\fK p (fK p c).bn=fK p c:=by
 obtain⟨_,d⟩:=sh b;have h:=MN a;obtain⟨i,j,l,g⟩:=UK h (n:=(1000000000 - cR (bV p) c).toNat) (c:=c) d ((EX a d).1 b);have e:fK p c=⟨jT (bV p) c,cR (bV p) (jT (bV p) c)⟩:=by simp_all[fK]
 have f:bR p (jT (bV p) c)=0:=(EX a i).2 j;have k:jT (bV p) (jT (bV p) c)=jT (bV p) c:=MP (g (ξ _));simp_all[Uw,fK,jT,bV]
def vY:M9:=⟨138,Int,.one (dX .u64),λx=>0<=(show Int from x)/\(show Int from x)<18446744073709551616,λx=> .row (.i .u32) (bU x)⟩
theorem qX:Holds Tryz.prog vY:=by
 refine bI (L:=[pG]) vY lk (by grind[k_]) ?_;intro(x:Int) h;obtain⟨b,a⟩:0<=x/\x<18446744073709551616:=h;refine NH (let a:=(4294967296:Int);(0:Int)<=(32:Int)/\(32:Int)<=(64:Int)/\2<=1000000000000/\(Ψ (ew.i .u32) (IL [x % a,x / a % a])).bi (Ψ (ew.i .u32) (bU x))) (by kernel_rfl) ?_;simp only[vcs];grind[ou,oo,bX]
end Go.Vi
