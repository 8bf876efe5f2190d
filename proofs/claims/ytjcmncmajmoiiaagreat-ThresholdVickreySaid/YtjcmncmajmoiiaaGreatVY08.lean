/-
  Contracts: the margins' small functions.
  Conditions: none.
-/
import Derived.Test.YtjcmncmajmoiiaaGreatVY06
import Derived.Test.YtjcmncmajmoiiaaGreatVY07
set_option maxRecDepth 100000
set_option maxHeartbeats 4000000
set_option linter.all false
open And renaming intro->γj
open BitVec renaming ofInt->γs
open Bool renaming and_eq_true->ζ
open Classical renaming not_not->ω
open Go.Vi.SV renaming si->Θ,row->Φ,agg->γC,sb->γD,bl->δo,ptr->γS,il->γp,ow->γ6
open Int renaming one_mul->δG,toNat_natCast->γk,le_trans->εz,pow_succ->γP,add_comm->ζw,emod_nonneg->δP,emod_lt_of_pos->δs,emod_eq_of_lt->δO,eq_ofNat_of_zero_le->δL
open List renaming take->γa,drop->γ5,take_of_length_le->γh,eq_nil_of_length_eq_zero->φ,range->π,length_filter_le->γw,filter_append->δa,filter_cons->δu,append_nil->γZ,forall_mem_cons->γq,not_mem_nil->γ3,range_succ->δr,map_append->γd,map_cons->ι,map_nil->γt,mem_append->γc,foldl_cons->γM,map_map->δn,pairwise_cons->γv,pairwise_append->γY,mem_cons->γE,mem_singleton->γ1,mem_filter->γu,nodup_cons->γN,perm_cons_erase->ζB,take_length->ψ,append_assoc->γe,take_append_drop->Δ,nodup_append->γx,filter_eq_self->δz,mem_map->γg,mem_map_of_mem->δ3,sum_cons->δh,length_cons->γB,replicate->ε,replicate_zero->εY,drop_of_length_le->δ9,drop_zero->δV,mem_of_mem_drop->γL
open List.cons renaming injEq->ξ
open Nat renaming le_refl->τ
open Option.some renaming injEq->γ
namespace Go.Vi
open Go.Proofs.YtjcmncmajmoiiaaGreat.Ir
open Go.Proofs
def zY:bL:=⟨74,bp,.one cY,λp=>p.classes.length<=8,λp=> .si .i64 (allM p)⟩
theorem h76:Holds Tryz.prog zY:=by
 refine cF (L:=[]) zY lk (by simp) ?_;intro(p:bp) (hp:p.classes.length<=8);refine bN (let a:=(1:Int);let b:=(↑p.classes.length:Int);let c:=a*(2:Int)^b.toNat;(0:Int)<=b/\b<=(64:Int)/\bV .i64 c/\bV .i64 (c - a)/\(Θ .i64 (c - a)).same (Θ .i64 (allM p))) (by kernel_rfl) ?_;simp only[vcs];have:=qJ hp;simp only[δG,γk,allM];repeat' (first|refine γj ?_ ?_|intro _)
 all_goals first|omega|trivial|rfl
def eI (p:bp) (k:Int):bp:={p with offers:=p.offers.take k.toNat++p.offers.drop (k+1).toNat}
def DY:bL:=⟨77,bp×Int,.cons cY (.one (dV .i64)),λa=>a.1.offers.length<=160/\0<=a.2/\a.2<a.1.offers.length,λa=>cY.put (eI a.1 a.2)⟩
theorem h74:Holds Tryz.prog DY:=by
 refine cF (L:=[]) DY lk (by simp) ?_;rintro⟨p,k⟩ ⟨hp,h0,h1⟩;simp only at hp h0 h1;refine bN (let a:=Θ .i64;let b:=Φ;let c:=(0:Int);let d:=γC;let r:=a p.supply.a0;let s:=a p.supply.a1;let t:=a p.supply.a2;let v:=a p.supply.a3;let w:=a p.supply.a4;let x:=a p.supply.a5;let y:=a p.opn.a0;let z:=a p.opn.a1;let A:=a p.opn.a2;let B:=a p.opn.a3;let C:=a p.opn.a4;let D:=a p.opn.a5;let E:=a p.cls.a0;let F:=a p.cls.a1;let G:=a p.cls.a2;let H:=a p.cls.a3;let I:=a p.cls.a4;let J:=a p.cls.a5;let o:=bk.i .i64;let K:=b o p.classes;let h:=(eI p k).supply;let j:=(eI p k).opn;let l:=(eI p k).cls;let L:=d [a h.a0,a h.a1,a h.a2,a h.a3,a h.a4,a h.a5,a j.a0,a j.a1,a j.a2,a j.a3,a j.a4,a j.a5,a l.a0,a l.a1,a l.a2,a l.a3,a l.a4,a l.a5,b o (eI p k).classes,b bk.off (eI p k).offers];let e:=p.offers.length;let q:=γa (k.toNat - 0) p.offers;let g:=q.length;let f:=k+(1:Int);let n:=γa (e - f.toNat) (γ5 f.toNat p.offers);let m:=n.length;let M:=λ(u u_1:Nat) (u_2:SV) ↦u*64<=140737488355328/\u<=1000000000000/\u_1=u_1/\(d [r,s,t,v,w,x,y,z,A,B,C,D,E,F,G,H,I,J,K,u_2]).same L;c<=k/\0<=k.toNat/\k.toNat<=e/\(g=0->bV .i64 f/\c<=f/\f.toNat<=e/\e<=e/\(m=0->(d [r,s,t,v,w,x,y,z,A,B,C,D,E,F,G,H,I,J,K,b o []]).same L)/\(m≠0->M m m (b bk.off n)))/\(g≠0->g*64<=140737488355328/\g<=1000000000000/\bV .i64 f/\c<=f/\f.toNat<=e/\e<=e/\g=g/\M (g+m) (q++n).length (b bk.off (q++n)))) (by kernel_rfl) ?_;simp only[vcs];have e1:γa (k.toNat - 0) p.offers=p.offers.take k.toNat:=rfl;have e2:γa (p.offers.length - (k+1).toNat) (γ5 (k+1).toNat p.offers)=p.offers.drop (k+1).toNat:=γh (by simp);have l1:(p.offers.take k.toNat).length=k.toNat:=by simp;omega
 have l2:(p.offers.drop (k+1).toNat).length=p.offers.length - (k+1).toNat:=by simp
 rw[e1,e2];have hag:∀{l:List Off} {s:SV},s.g=(Φ .off l).g->l=p.offers.take k.toNat++p.offers.drop (k+1).toNat->
   (γC [Θ .i64 p.supply.a0,Θ .i64 p.supply.a1,Θ .i64 p.supply.a2,Θ .i64 p.supply.a3,Θ .i64 p.supply.a4,Θ .i64 p.supply.a5,Θ .i64 p.opn.a0,Θ .i64 p.opn.a1,Θ .i64 p.opn.a2,Θ .i64 p.opn.a3,Θ .i64 p.opn.a4,Θ .i64 p.opn.a5,Θ .i64 p.cls.a0,Θ .i64 p.cls.a1,Θ .i64 p.cls.a2,Θ .i64 p.cls.a3,Θ .i64 p.cls.a4,Θ .i64 p.cls.a5,Φ (.i .i64) p.classes,s]).same (γC (eI p k).ss):=by
  intro l s hs hl;subst hl;simp only[SV.same,SV.g,bp.ss,gL,eI,hs]
 refine⟨h0,by omega,by omega,λhz=>⟨⟨by omega,by omega⟩,by omega,by omega,by omega,λhz2=>?_,λhz2=>⟨by omega,by omega,?_⟩⟩,λhz=>⟨by omega,by omega,⟨by omega,by omega⟩,by omega,by omega,by omega,by omega,by omega,?_⟩⟩;·exact hag (l:=[]) (by simp[SV.g,cC]) (by rw[φ hz,φ hz2];rfl)
 ·exact hag rfl (by rw[φ hz];rfl)
 ·exact hag rfl rfl
def pd (p:bp) (b k:Int):Bool:=decide (p.cls.at k.toNat≠0/\p.cls.at k.toNat≠bj p.classes b.toNat 0)
def DZ:bL:=⟨111,bp×Int×Int,.cons cY (.cons (dV .i64) (.one (dV .i64))),λa=>0<=a.2.1/\a.2.1<a.1.classes.length/\0<=a.2.2/\a.2.2<6,λa=> .sb (pd a.1 a.2.1 a.2.2)⟩
theorem h148:Holds Tryz.prog DZ:=by
 refine cF (L:=[]) DZ lk (by simp) ?_;rintro⟨p,b,k⟩ ⟨h0,h1,h2,h3⟩;simp only at h0 h1 h2 h3;refine bN (let a:=(0:Int);let c:=bj [p.cls.a0,p.cls.a1,p.cls.a2,p.cls.a3,p.cls.a4,p.cls.a5] k.toNat a;let d:=λ(u:Bool) ↦decide (c≠a)=u;a<=k/\k<(6:Int)/\k.toNat<6/\(d true->a<=k/\k<(6:Int)/\k.toNat<6/\a<=b/\b<(↑p.classes.length:Int)/\b.toNat<p.classes.length/\(γD (decide (c≠bj p.classes b.toNat a))).same (γD (pd p b k)))/\(d false->(δo false).same (γD (pd p b k)))) (by kernel_rfl) ?_;simp only[vcs];have e:bj [p.cls.a0,p.cls.a1,p.cls.a2,p.cls.a3,p.cls.a4,p.cls.a5] k.toNat 0=p.cls.at k.toNat:=rfl;rw[e];refine⟨h2,h3,by omega,λh=>⟨h2,h3,by omega,h0,h1,by omega,?_⟩,λh=>?_⟩;·simp[pd,h]
 ·have h:p.cls.at k.toNat=0:=ω.1 h;simp[pd,h]
def qM (p:bp) (x:Off) (k:Nat):Prop:=x.want.at k<=p.supply.at k/\(pd p x.bD k=true->x.want.at k<=p.opn.at k)
instance (p:bp) (x:Off) (k:Nat):Decidable (qM p x k):=by unfold qM;infer_instance
def lI (p:bp) (x:Off):Bool:=(π 6).all λk=>decide (qM p x k)
theorem zZ {p:bp} {x:Off}:lI p x=true↔∀k,k<6->qM p x k:=by simp[lI]
def I3:bL:=⟨112,bp×Off,.cons cY (.one (eG .off)),λa=>0<=a.2.bD/\a.2.bD<a.1.classes.length,λa=> .sb (lI a.1 a.2)⟩
def abn (a:bp×Off):Nat->cB
 |2=> .inv Int (λk=>⟨[(2,.ptr 0 0 20),(3,.ptr 1 0 8),(6,.si .i64 k)],[.cells a.1.ss 81 20 false,.cells (encS .off a.2) 39 8 false]⟩) (λs=>iS s 6) (λk=>0<=k/\k<=6/\∀j:Nat,j<k->qM a.1 a.2 j) (λk=>(6 - k).toNat) λ_ _=> .look
 |_=> .look
theorem h149:Holds Tryz.prog I3:=by
 refine cF (L:=[DZ]) I3 abn (by simpa using h148) ?_;rintro⟨p,x⟩ ⟨h0,h1⟩;simp only at h0 h1;refine bN (let a:=(0:Int);let b:=Θ .i64;let c:=(6:Int);let d:=δo false;let f:=γS 0 0 20;let g:=γS 1 0 8;let h:=bq.cells (bp.ss p) 81 20 false;let i:=bq.cells [b x.bD,b x.want.a0,b x.want.a1,b x.want.a2,b x.want.a3,b x.want.a4,b x.want.a5,b x.value] 39 8 false;let r:=[x.want.a0,x.want.a1,x.want.a2,x.want.a3,x.want.a4,x.want.a5];(((f.same f/\g.same g/\(γp .i64 0).same (b 0)/\True)/\h.same h/\i.same i/\True)/\a<=a/\a<=c/\∀(j:Nat),(↑j:Int)<a->qM p x j)/\∀(x_1:Int),let e:=x_1+(1:Int);let k:=b e;let l:=bj r x_1.toNat a;let m:=decide (x_1<c);let n:=bV .i64 e/\((f.same f/\g.same g/\k.same k/\True)/\h.same h/\i.same i/\True)/\(a<=e/\e<=c/\∀(j:Nat),(↑j:Int)<e->qM p x j)/\(c - e).toNat<(c - x_1).toNat;let o:=λ(u:Bool) ↦decide (bj [p.supply.a0,p.supply.a1,p.supply.a2,p.supply.a3,p.supply.a4,p.supply.a5] x_1.toNat a<l)=u;let q:=λ(u:Bool) ↦decide (bj [p.opn.a0,p.opn.a1,p.opn.a2,p.opn.a3,p.opn.a4,p.opn.a5] x_1.toNat a<l)=u;(a<=x_1/\x_1<=c/\∀(j:Nat),(↑j:Int)<x_1->qM p x j)->(m=true->a<=x_1/\x_1<c/\x_1.toNat<6/\a<=x_1/\x_1<c/\x_1.toNat<6/\(o true->(d).same (γD (lI p x)))/\(o false->(a<=x.bD/\x.bD<(↑p.classes.length:Int)/\a<=x_1/\x_1<c)/\(pd p x.bD x_1=true->a<=x_1/\x_1<c/\x_1.toNat<6/\a<=x_1/\x_1<c/\x_1.toNat<6/\(q true->(d).same (γD (lI p x)))/\(q false->n))/\(pd p x.bD x_1=false->n)))/\(m=false->(δo true).same (γD (lI p x)))) (by kernel_rfl) ?_;simp only[vcs];refine⟨⟨by omega,by omega,λj hj=>by omega⟩,?_⟩;rintro k ⟨k0,k1,hk⟩;have ew:bj [x.want.a0,x.want.a1,x.want.a2,x.want.a3,x.want.a4,x.want.a5] k.toNat 0=x.want.at k.toNat:=rfl;have es:bj [p.supply.a0,p.supply.a1,p.supply.a2,p.supply.a3,p.supply.a4,p.supply.a5] k.toNat 0=p.supply.at k.toNat:=rfl;have eo:bj [p.opn.a0,p.opn.a1,p.opn.a2,p.opn.a3,p.opn.a4,p.opn.a5] k.toNat 0=p.opn.at k.toNat:=rfl;rw[ew,es,eo];have hkk:((k.toNat:Nat):Int)=k:=by omega
 have hbad:k<6->¬qM p x k.toNat->false=lI p x:=λh h2=>by
  symm;rw[Bool.eq_false_iff];exact λhh=>h2 (zZ.1 hh _ (by omega))
 have hnext:qM p x k.toNat->∀j:Nat,(j:Int)<k+1->qM p x j:=λh j hj=>by
  by_cases h2:(j:Int)<k;·exact hk j h2
  ·rw[show j=k.toNat by omega];exact h
 refine⟨λhlt=>⟨by omega,by omega,by omega,by omega,by omega,by omega,λh=>?_,λh=>⟨⟨h0,h1,k0,hlt⟩,λho=>⟨by omega,by omega,by omega,by omega,by omega,by omega,λh3=>?_,λh3=>⟨⟨by omega,by omega⟩,⟨by omega,by omega,?_⟩,by omega⟩⟩,λho=>⟨⟨by omega,by omega⟩,⟨by omega,by omega,?_⟩,by omega⟩⟩⟩,λhge=>?_⟩;·exact hbad hlt λhh=>by have:=hh.1;omega
 ·exact hbad hlt λhh=>by have:=hh.2 (by rw[hkk];exact ho);omega
 ·exact hnext ⟨by omega,λ_=>by omega⟩
 ·exact hnext ⟨by omega,λhh=>by rw[hkk,ho] at hh;cases hh⟩
 ·symm;exact zZ.2 λj hj=>hk j (by omega)
def uk (s w j k:Int):Int:=if j<k then s - w else s
def um (c cl s o w j k:Int):Int:=if j<k then min (if c=0\/c≠0/\c≠cl then o - w else o) (s - w) else o
def ln (p:bp) (x:Off) (k:Int):bz:=⟨uk p.supply.a0 x.want.a0 0 k,uk p.supply.a1 x.want.a1 1 k,uk p.supply.a2 x.want.a2 2 k,uk p.supply.a3 x.want.a3 3 k,uk p.supply.a4 x.want.a4 4 k,uk p.supply.a5 x.want.a5 5 k⟩
def j9 (p:bp) (x:Off) (k:Int):bz:=⟨um p.cls.a0 (gv p x) p.supply.a0 p.opn.a0 x.want.a0 0 k,um p.cls.a1 (gv p x) p.supply.a1 p.opn.a1 x.want.a1 1 k,um p.cls.a2 (gv p x) p.supply.a2 p.opn.a2 x.want.a2 2 k,
 um p.cls.a3 (gv p x) p.supply.a3 p.opn.a3 x.want.a3 3 k,um p.cls.a4 (gv p x) p.supply.a4 p.opn.a4 x.want.a4 4 k,um p.cls.a5 (gv p x) p.supply.a5 p.opn.a5 x.want.a5 5 k⟩
def kK (p:bp) (x:Off):bp:=⟨ln p x 6,j9 p x 6,p.cls,p.classes,[]⟩
def i7 (p:bp) (x:Off) (n:Nat):List Off:=(p.offers.take n).filter λy=>decide (y.bD≠x.bD)&&lI (kK p x) y
def jL (p:bp) (k:Int):bp:=let x:=bj p.offers k.toNat bk.off.dflt;{kK p x with offers:=i7 p x p.offers.length}
def bss (a b c:bz):List SV:=[.si .i64 a.a0,.si .i64 a.a1,.si .i64 a.a2,.si .i64 a.a3,.si .i64 a.a4,.si .i64 a.a5,.si .i64 b.a0,.si .i64 b.a1,.si .i64 b.a2,.si .i64 b.a3,.si .i64 b.a4,.si .i64 b.a5,.si .i64 c.a0,.si .i64 c.a1,.si .i64 c.a2,.si .i64 c.a3,.si .i64 c.a4,.si .i64 c.a5]
def zss:List SV:=[.il .i64 0,.il .i64 0,.il .i64 0,.il .i64 0,.il .i64 0,.il .i64 0,.il .i64 0,.il .i64 0,.il .i64 0,.il .i64 0,.il .i64 0,.il .i64 0,.il .i64 0,.il .i64 0,.il .i64 0,.il .i64 0,.il .i64 0,.il .i64 0,.sc (.slice none 0 0),.sc (.slice none 0 0)]
def Rh (p:bp) (x:Off) (k:Int) (l:List Off):bW:=[.cells p.ss 81 20 false,.cells zss 81 20 false,.cells (encS .off x) 39 8 false,.cells (bss (ln p x k) (j9 p x k) p.cls++[.row (.i .i64) p.classes,.ow 4 l.length 8]) 81 20 false,.row .off l 39 true]
def I4:bL:=⟨79,bp×Int,.cons cY (.one (dV .i64)),λa=>Good a.1/\0<=a.2/\a.2<a.1.offers.length,λa=>cY.put (jL a.1 a.2)⟩
def sQ (a:bp×Int):Off:=bj a.1.offers a.2.toNat bk.off.dflt
def abp (a:bp×Int):Nat->cB
 |5=> .inv Int (λj=>⟨[(2,.ptr 0 0 20),(4,.ptr 1 0 20),(5,.ptr 2 0 8),(6,.ptr 3 0 20),(21,.si .i64 j)],Rh a.1 (sQ a) j []⟩) (λs=>iS s 21) (λj=>0<=j/\j<=6) (λj=>(6 - j).toNat) λ_ _=> .look
 |13=> .inv Int (λi=>⟨[(4,.ptr 1 0 20),(5,.ptr 2 0 8),(6,.ptr 3 0 20),(81,.row .off a.1.offers),(82,.si .i64 a.1.offers.length),(83,.si .i64 i)],Rh a.1 (sQ a) 6 (i7 a.1 (sQ a) i.toNat)⟩) (λs=>iS s 83)
  (λi=>0<=i/\i<=a.1.offers.length) (λi=>(a.1.offers.length - i).toNat) λ_ _=> .look
 |_=> .look
theorem I5 {α:Type} {a:α} {l:List α} {d:α}:bj (a::l) 0 d=a:=rfl
theorem I6 {α:Type} {a:α} {l:List α} {n:Nat} {d:α}:bj (a::l) (n+1) d=bj l n d:=by simp[bj]
theorem h120:Holds Tryz.prog I4:=by
 refine cF (L:=[DZ,I3]) I4 abp (by simpa using⟨h148,h149⟩) ?_;rintro⟨p,k⟩ ⟨hg,h0,h1⟩;simp only at hg h0 h1;refine bN (let a:=Θ .i64;let b:=(0:Int);let c:=(6:Int);let d:=bq.cells;let e:=bV .i64;let f:=bq.row;let g:=Φ;let h:=γ6;let j:=γS;let D:=a p.cls.a0;let E:=a p.cls.a1;let F:=a p.cls.a2;let G:=a p.cls.a3;let H:=a p.cls.a4;let I:=a p.cls.a5;let J:=g (bk.i .i64) p.classes;let a7:=p.offers.length;let Q:=j 0 0 20;let r:=j 1 0 20;let s:=j 2 0 8;let t:=j 3 0 20;let m:=γp .i64 0;let v:=g bk.off p.offers;let ap:=SV.sc (Value.slice none 0 0);let w:=d [m,m,m,m,m,m,m,m,m,m,m,m,m,m,m,m,m,m,ap,ap] 81 20 false;let aq:=bk.off.dflt;let ao:=bj p.offers k.toNat aq;let R:=ao.want;let o:=sQ (p,k);let S:=o.bD;let y:=o.want;let z:=d [a S,a y.a0,a y.a1,a y.a2,a y.a3,a y.a4,a y.a5,a o.value] 39 8 false;let ar:=h 4 0 8;let K:=f bk.off [] 39 true;let b3:=[y.a0,y.a1,y.a2,y.a3,y.a4,y.a5];let al:=[D,E,F,G,H,I,J,ar];let au:=(↑p.classes.length:Int);let A:=(↑p.offers.length:Int);let a8:=a A;let L:=ln p o c;let a9:=a L.a0;let aa:=a L.a1;let ab:=a L.a2;let ac:=a L.a3;let ad:=a L.a4;let ae:=a L.a5;let M:=j9 p o c;let af:=a M.a0;let ag:=a M.a1;let ah:=a M.a2;let ai:=a M.a3;let aj:=a M.a4;let ak:=a M.a5;let av:=i7 p o 0;let T:=(jL p k).supply;let U:=(jL p k).opn;let V:=(jL p k).cls;let N:=λ(u:SV) (u_1 u_2:bz) ↦let aw:=[D,E,F,G,H,I,J,u];(d (a p.supply.a0::a p.supply.a1::a p.supply.a2::a p.supply.a3::a p.supply.a4::a p.supply.a5::a p.opn.a0::a p.opn.a1::a p.opn.a2::a p.opn.a3::a p.opn.a4::a p.opn.a5::aw) 81 20 false).same (d (a u_1.a0::a u_1.a1::a u_1.a2::a u_1.a3::a u_1.a4::a u_1.a5::a u_2.a0::a u_2.a1::a u_2.a2::a u_2.a3::a u_2.a4::a u_2.a5::aw) 81 20 false);b<=k/\k<(↑a7:Int)/\k.toNat<a7/\(((Q.same Q/\r.same r/\s.same s/\t.same t/\m.same (a 0)/\True)/\N v p.supply p.opn/\w.same w/\(d [a ao.bD,a R.a0,a R.a1,a R.a2,a R.a3,a R.a4,a R.a5,a ao.value] 39 8 false).same z/\N ar (ln p o b) (j9 p o b)/\K.same K/\True)/\b<=b/\b<=c)/\∀(x:Int),let l:=j9 p o x;let ax:=bj [l.a0,l.a1,l.a2,l.a3,l.a4,l.a5] x.toNat b;let ay:=bj b3 x.toNat b;let O:=ax - ay;let B:=x+(1:Int);let am:=a B;let n:=ln p o x;let P:=bj [n.a0,n.a1,n.a2,n.a3,n.a4,n.a5] x.toNat b - ay;let az:=if x.toNat=0 then P else n.a0;let aA:=a az;let aB:=if x.toNat=1 then P else n.a1;let aC:=a aB;let aD:=if x.toNat=2 then P else n.a2;let aE:=a aD;let aF:=if x.toNat=3 then P else n.a3;let aG:=a aF;let aH:=if x.toNat=4 then P else n.a4;let aI:=a aH;let aJ:=if x.toNat=5 then P else n.a5;let aK:=a aJ;let aL:=if x.toNat=0 then O else l.a0;let aM:=if x.toNat=1 then O else l.a1;let aN:=if x.toNat=2 then O else l.a2;let aO:=if x.toNat=3 then O else l.a3;let aP:=if x.toNat=4 then O else l.a4;let aQ:=if x.toNat=5 then O else l.a5;let aR:=bj [az,aB,aD,aF,aH,aJ] x.toNat b;let W:=min (bj [aL,aM,aN,aO,aP,aQ] x.toNat b) aR;let X:=ln p o B;let Y:=j9 p o B;let aS:=d (a X.a0::a X.a1::a X.a2::a X.a3::a X.a4::a X.a5::a Y.a0::a Y.a1::a Y.a2::a Y.a3::a Y.a4::a Y.a5::al) 81 20 false;let aT:=decide (x<c);let Z:=min ax aR;let aU:=x<c/\x.toNat<6/\b<=x/\x<c/\x.toNat<6/\e O/\b<=x/\x<c/\x.toNat<6/\b<=x/\x<c/\x.toNat<6/\b<=x/\x<c/\x.toNat<6/\b<=x/\x<c/\x.toNat<6/\e B/\((Q.same Q/\r.same r/\s.same s/\t.same t/\am.same am/\True)/\N v p.supply p.opn/\w.same w/\z.same z/\(d (aA::aC::aE::aG::aI::aK::a (if x.toNat=0 then W else aL)::a (if x.toNat=1 then W else aM)::a (if x.toNat=2 then W else aN)::a (if x.toNat=3 then W else aO)::a (if x.toNat=4 then W else aP)::a (if x.toNat=5 then W else aQ)::al) 81 20 false).same aS/\K.same K/\True)/\(b<=B/\B<=c)/\(c - B).toNat<(c - x).toNat;let aV:=λ(u:Bool) ↦decide (bj [p.cls.a0,p.cls.a1,p.cls.a2,p.cls.a3,p.cls.a4,p.cls.a5] x.toNat b=b)=u;b<=x/\x<=c->(aT=true->b<=x/\x<c/\x.toNat<6/\b<=x/\x<c/\x.toNat<6/\e P/\b<=x/\x<c/\x.toNat<6/\b<=x/\x<c/\x.toNat<6/\(aV true->b<=x/\aU)/\(aV false->(b<=S/\S<au/\b<=x/\x<c)/\(pd p S x=true->b<=x/\aU)/\(pd p S x=false->b<=x/\x<c/\x.toNat<6/\b<=x/\x<c/\x.toNat<6/\b<=x/\x<c/\x.toNat<6/\e B/\((Q.same Q/\r.same r/\s.same s/\t.same t/\am.same am/\True)/\N v p.supply p.opn/\w.same w/\z.same z/\(d (aA::aC::aE::aG::aI::aK::a (if x.toNat=0 then Z else l.a0)::a (if x.toNat=1 then Z else l.a1)::a (if x.toNat=2 then Z else l.a2)::a (if x.toNat=3 then Z else l.a3)::a (if x.toNat=4 then Z else l.a4)::a (if x.toNat=5 then Z else l.a5)::al) 81 20 false).same aS/\K.same K/\True)/\(b<=B/\B<=c)/\(c - B).toNat<(c - x).toNat)))/\(aT=false->(((r.same r/\s.same s/\t.same t/\v.same v/\(a (↑a7:Int)).same a8/\m.same (a 0)/\True)/\N v p.supply p.opn/\w.same w/\z.same z/\(d (a n.a0::a n.a1::a n.a2::a n.a3::a n.a4::a n.a5::a l.a0::a l.a1::a l.a2::a l.a3::a l.a4::a l.a5::al) 81 20 false).same (d [a9,aa,ab,ac,ad,ae,af,ag,ah,ai,aj,ak,D,E,F,G,H,I,J,h 4 av.length 8] 81 20 false)/\K.same (f bk.off av 39 true)/\True)/\b<=b/\b<=A)/\∀(x:Int),let C:=x+(1:Int);let an:=a C;let q:=i7 p o x.toNat;let aW:=i7 p o C.toNat;let aX:=d [a9,aa,ab,ac,ad,ae,af,ag,ah,ai,aj,ak,D,E,F,G,H,I,J,h 4 aW.length 8] 81 20 false;let aY:=f bk.off aW 39 true;let a6:=bj p.offers x.toNat aq;let aZ:=decide (a6.bD≠S);let b0:=lI (bp.mk L M p.cls p.classes q) a6;let b1:=q.length+1;let b2:=e C/\((r.same r/\s.same s/\t.same t/\v.same v/\a8.same a8/\an.same an/\True)/\N v p.supply p.opn/\w.same w/\z.same z/\(d [a9,aa,ab,ac,ad,ae,af,ag,ah,ai,aj,ak,D,E,F,G,H,I,J,h 4 q.length 8] 81 20 false).same aX/\(f bk.off q 39 true).same aY/\True)/\(b<=C/\C<=A)/\(A - C).toNat<(A - x).toNat;b<=x/\x<=A->(decide (x<A)=true->b<=x/\x<(↑a7:Int)/\x.toNat<a7/\(aZ=true->q.length=q.length/\(b<=a6.bD/\a6.bD<au)/\(b0=true->1=1/\q.length=q.length/\b1*64<=140737488355328/\b1<=1000000000000/\e C/\((r.same r/\s.same s/\t.same t/\v.same v/\a8.same a8/\an.same an/\True)/\N v p.supply p.opn/\w.same w/\z.same z/\(d [a9,aa,ab,ac,ad,ae,af,ag,ah,ai,aj,ak,D,E,F,G,H,I,J,h 4 (q++[a6]).length 8] 81 20 false).same aX/\(f bk.off (q++[a6]) 39 true).same aY/\True)/\(b<=C/\C<=A)/\(A - C).toNat<(A - x).toNat)/\(b0=false->b2))/\(aZ=false->b2))/\(decide (x<A)=false->q.length=q.length/\(γC [a9,aa,ab,ac,ad,ae,af,ag,ah,ai,aj,ak,D,E,F,G,H,I,J,g bk.off q]).same (γC [a T.a0,a T.a1,a T.a2,a T.a3,a T.a4,a T.a5,a U.a0,a U.a1,a U.a2,a U.a3,a U.a4,a U.a5,a V.a0,a V.a1,a V.a2,a V.a3,a V.a4,a V.a5,g (bk.i .i64) (jL p k).classes,g bk.off (jL p k).offers])))) (by kernel_rfl) ?_;conv=>zeta
 try simp only[vcs]
 have hx:bj p.offers k.toNat bk.off.dflt=sQ (p,k):=rfl;have hxm:sQ (p,k)∈p.offers:=cK (show k.toNat<p.offers.length by omega);rw[hx];have hv:=hg.2.2.2.2 _ hxm;have D1:jL p k={kK p (sQ (p,k)) with offers:=i7 p (sQ (p,k)) p.offers.length}:=rfl;rw[D1];generalize sQ (p,k)=y at*;have b1:=bz.eL.1 hg.2.2.1;have b2:=bz.eL.1 hg.2.2.2.1;have b3:=bz.eL.1 hv.2.2.1;have h160:=hg.2.1;have I7:∀{A B:List SV},A=B->(bq.cells A 81 20 false).same (bq.cells B 81 20 false):=by rintro _ _ rfl;rfl
 have hoff:∀{x y:List Off},x=y->(bq.row .off x 39 true).same (bq.row .off y 39 true):=by rintro _ _ rfl;rfl
 refine⟨h0,h1,by omega,⟨⟨rfl,I7 ?_⟩,by omega,by omega⟩,?_⟩;·simp[ln,j9,uk,um]
 rintro j ⟨j0,j6⟩;refine⟨λjlt=>?_,λjge=>?_⟩
 ·have hj:j=0\/j=1\/j=2\/j=3\/j=4\/j=5:=by omega
  clear hx D1 h0 h1 jlt j0 j6 hg;have hcl:bj p.classes y.bD.toNat 0=gv p y:=rfl;have e0:(0:Int).toNat=0:=rfl;have e1:(1:Int).toNat=1:=rfl;have e2:(2:Int).toNat=2:=rfl;have e3:(3:Int).toNat=3:=rfl;have e4:(4:Int).toNat=4:=rfl;have e5:(5:Int).toNat=5:=rfl;rcases hj with rfl|rfl|rfl|rfl|rfl|rfl;all_goals
   simp only[I5,I6,hcl,e0,e1,e2,e3,e4,e5,ln,j9,uk,um,pd,bz.at,Int.reduceLT,Int.reduceAdd,Nat.reduceEqDiff,if_true,if_false,reduceIte,decide_eq_true_eq,decide_eq_false_iff_not,Int.lt_irrefl,Nat.zero_ne_one,Nat.one_ne_zero];repeat' (first|refine γj ?_ ?_|intro _)
   all_goals first
    |omega;|exact trivial;|exact rfl;|(apply I7;rename_i hh;simp[hh];done);|(apply I7;rename_i h1 h2 hh;simp[h1,h2,hh];done);|(rename_i h1 h2;have h3:=not_or.2 ⟨h1,h2⟩;simp only[if_neg h3];rfl)
 ·obtain rfl:j=6:=by omega
  have hr0:i7 p y 0=[]:=by simp[i7]
  have hrl:∀n,(i7 p y n).length<=160:=λn=>by
   have h1:=γw (λz:Off=>decide (z.bD≠y.bD)&&lI (kK p y) z) (p.offers.take n);simp only[List.length_take] at h1;unfold i7;omega
  have D2:∀{a b:Nat} {A:List SV},a=b->(bq.cells (A++[.row (.i .i64) p.classes,.ow 4 a 8]) 81 20 false).same (bq.cells (A++[.row (.i .i64) p.classes,.ow 4 b 8]) 81 20 false):=by rintro _ _ _ rfl;rfl
  refine⟨⟨⟨D2 (A:=bss (ln p y 6) (j9 p y 6) p.cls) (by simp[hr0]),hoff hr0.symm⟩,by omega,by omega⟩,?_⟩;rintro i ⟨i0,i1⟩;refine⟨λkg=>?_,λme=>?_⟩
  ·have hm:=hg.2.2.2.2 _ (cK (d:=bk.off.dflt) (show i.toNat<p.offers.length by omega));have hl:=hrl i.toNat;have hal:∀l z,lI ⟨ln p y 6,j9 p y 6,p.cls,p.classes,l⟩ z=lI (kK p y) z:=λ_ _=>rfl;simp only[hal];have hs:i7 p y (i+1).toNat=i7 p y i.toNat++(if(bj p.offers i.toNat bk.off.dflt).bD≠y.bD/\lI (kK p y) (bj p.offers i.toNat bk.off.dflt)=true then[bj p.offers i.toNat bk.off.dflt] else[]):=by
    unfold i7;rw[jo (d:=bk.off.dflt) i0 kg,δa];congr 1;by_cases h:(bj p.offers i.toNat bk.off.dflt).bD≠y.bD/\lI (kK p y) (bj p.offers i.toNat bk.off.dflt)=true;·rw[if_pos h,δu,if_pos (by simp[h])];rfl
    ·rw[if_neg h,δu,if_neg (by simpa using h)];rfl
   refine⟨i0,kg,by omega,λhb=>⟨⟨hm.1,hm.2.1⟩,λha=>?_,λha=>?_⟩,λhb=>?_⟩
   ·rw[if_pos ⟨hb,ha⟩] at hs;rw[hs];refine⟨?_,?_,?_,⟨D2 (A:=bss (ln p y 6) (j9 p y 6) p.cls) rfl,hoff rfl⟩,?_,?_⟩<;>omega
   ·rw[if_neg (λh=>by rw[ha] at h;exact absurd h.2 (by simp)),γZ] at hs;rw[hs];refine⟨?_,⟨D2 (A:=bss (ln p y 6) (j9 p y 6) p.cls) rfl,hoff rfl⟩,?_,?_⟩<;>omega
   ·rw[if_neg (λh=>hb h.1),γZ] at hs;rw[hs];refine⟨?_,⟨D2 (A:=bss (ln p y 6) (j9 p y 6) p.cls) rfl,hoff rfl⟩,?_,?_⟩<;>omega
  ·rw[show i.toNat=p.offers.length by omega];exact rfl
def Q1:List bL:=[DY,zY,I4,pU,zR]
theorem Ri:∀c∈Q1,Holds Tryz.prog c:=by
 simp only[Q1,γq,γ3,false_implies,implies_true,and_true];exact⟨h74,h76,h120,h79,h80⟩
def ez (p:bp):Int:=ik p (allM p)
def D3:bL:=⟨75,bp,.one cY,λp=>p.classes.length<=8,λp=> .si .i64 (ez p)⟩
theorem h81:Holds Tryz.prog D3:=by
 refine cF (L:=Q1) D3 lk Ri ?_;intro(p:bp) (hp:p.classes.length<=8);refine bN (p.classes.length<=8/\True/\(Θ .i64 (ik p (allM p))).same (Θ .i64 (ez p))) (by kernel_rfl) ?_;simp only[vcs,ez];exact hp
def Q2:List bL:=D3::Q1
theorem I8:∀c∈Q2,Holds Tryz.prog c:=by
 simp only[Q2,γq];exact⟨h81,Ri⟩
def pY (p:bp) (k:Int):Int:=ez (eI p k) - ez (jL p k)
theorem Aa (p:bp):0<=ez p/\ez p<=8000000:=Il p _
def I9:bL:=⟨50,bp×Int,.cons cY (.one (dV .i64)),λa=>Good a.1/\0<=a.2/\a.2<a.1.offers.length,λa=> .si .i64 (pY a.1 a.2)⟩
theorem h84:Holds Tryz.prog I9:=by
 refine cF (L:=Q2) I9 lk I8 ?_;rintro⟨p,k⟩ ⟨hg,h0,h1⟩;simp only at hg h0 h1;refine bN (let a:=ez (eI p k) - ez (jL p k);(p.offers.length<=160/\(0:Int)<=k/\k<(↑p.offers.length:Int))/\(eI p k).classes.length<=8/\(Good p/\(0:Int)<=k/\k<(↑p.offers.length:Int))/\(jL p k).classes.length<=8/\bV .i64 a/\(Θ .i64 a).same (Θ .i64 (pY p k))) (by kernel_rfl) ?_;simp only[vcs,pY];have a:=Aa (eI p k);have b:=Aa (jL p k);have h8:=hg.1;have h160:=hg.2.1;have l1:(eI p k).classes.length=p.classes.length:=rfl;have l2:(jL p k).classes.length=p.classes.length:=rfl;refine⟨⟨h160,h0,h1⟩,by omega,⟨hg,h0,h1⟩,by omega,by omega,by omega⟩
def mf (p:bp) (k:Int):Int:=if bC p≠0 then bC p else if k<0\/p.offers.length<=k then 4 else 0
def D4:bL:=⟨49,bp×Int,.cons cY (.one (dV .i64)),λ_=>True,λa=> .si .i64 (mf a.1 a.2)⟩
theorem h73:Holds Tryz.prog D4:=by
 refine cF (L:=Q2) D4 lk I8 ?_;rintro⟨p,k⟩ _;refine bN (let a:=γp .i64;let c:=decide (bC p≠(0:Int));let b:=Θ .i64 (mf p k);let d:=decide (k<(0:Int));let e:=decide ((↑p.offers.length:Int)<=k);True/\(c=true->(Θ .i64 (bC p)).same b)/\(c=false->(d=true->(a 4).same b)/\(d=false->(e=true->(a 4).same b)/\(e=false->(a 0).same b)))) (by kernel_rfl) ?_;simp only[vcs];repeat' (first|refine γj ?_ ?_|intro _)
 all_goals (simp only[mf];(repeat' split)<;>first|rfl|omega|simp_all)
def Q3:List bL:=I9::D4::Q2
theorem Ja:∀c∈Q3,Holds Tryz.prog c:=by
 simp only[Q3,γq];exact⟨h84,h73,I8⟩
theorem Rj {p:bp} {k:Int} (h:mf p k=0):bC p=0/\0<=k/\k<p.offers.length:=by
 unfold mf at h;split at h;·rename_i h1;exact absurd h h1
 ·rename_i h1;split at h;·cases h
  ·exact⟨ω.1 h1,by omega,by omega⟩
def Jb:bL:=⟨21,bp×Int,.cons cY (.one (dV .i64)),λ_=>True,λa=> .bH [.si .i64 (if mf a.1 a.2=0 then pY a.1 a.2 else 0),.si .i64 (mf a.1 a.2)]⟩
theorem h35:Holds Tryz.prog Jb:=by
 refine cF (L:=Q3) Jb lk Ja ?_;rintro⟨p,k⟩ _;refine bN (let a:=Θ .i64;let b:=(0:Int);let c:=SV.bH;let d:=decide (mf p k≠b);let e:=γp .i64 0;let f:=[a (mf p k)];let g:=c (a (if mf p k=b then pY p k else b)::f);True/\(d=true->(c (e::f)).same g)/\(d=false->(Good p/\b<=k/\k<(↑p.offers.length:Int))/\(c [a (pY p k),e]).same g)) (by kernel_rfl) ?_;simp only[vcs];refine⟨λh=>by simp[h],λh=>?_⟩;have hz:mf p k=0:=ω.1 h;obtain⟨hc,h0,h1⟩:=Rj hz;exact⟨⟨dm hc,h0,h1⟩,by simp[hz]⟩
def Rk:oV bp where
 put p:=.fn (.func 50) [cY.put p] [];dec
  | .fn (.func f) [d] []=>if f=50 then cY.dec d else none
  |_=>none;ok v a h:=by
  split at h
  ·split at h
   ·rename_i hf;simp only[SV.g,gL,cY.ok _ _ h,hf]
   ·cases h
  ·cases h
 inj a b h:=by
  simp only[SV.g,gL,AV.fn.injEq,ξ,and_true,true_and] at h;exact cY.inj _ _ h
def ju (p:bp) (n:Nat):List Int:=(π n).map λi:Nat=>pY p i
theorem Rl {p:bp} {n:Nat}:(ju p n).length=n:=by simp[ju]
theorem Rm {p:bp} {i:Int} (h:0<=i):ju p (i+1).toNat=ju p i.toNat++[pY p i]:=by
 unfold ju;rw[show(i+1).toNat=i.toNat+1 from by omega,δr,γd];simp only[ι,γt,show((i.toNat:Nat):Int)=i from by omega]
def Jc:bL:=⟨71,Int×bp,.cons (dV .i64) (.one Rk),λa=>Good a.2/\a.1=a.2.offers.length,λa=> .row (.i .i64) (ju a.2 a.1.toNat)⟩
def abr (a:Int×bp):Nat->cB
 |3=> .inv Int (λi=>⟨[(1,Rk.put a.2),(5,.ow 0 (ju a.2 i.toNat).length 1),(7,.si .i64 a.1),(8,.si .i64 i)],[.row (.i .i64) (ju a.2 i.toNat) 2 true]⟩)
  (λs=>iS s 8) (λi=>0<=i/\i<=a.1) (λi=>(a.1 - i).toNat) λ_ _=> .look
 |_=> .look
theorem h85:Holds Tryz.prog Jc:=by
 refine cF (L:=Q3) Jc abr Ja ?_;rintro⟨n,p⟩ ⟨hg,hn⟩;simp only at hg hn;refine bN (let a:=Θ .i64;let b:=(0:Int);let c:=bq.row;let d:=Φ;let e:=γ6;let g:=bk.i .i64;let j:=SV.fn (Fn.func 50) [γC [a p.supply.a0,a p.supply.a1,a p.supply.a2,a p.supply.a3,a p.supply.a4,a p.supply.a5,a p.opn.a0,a p.opn.a1,a p.opn.a2,a p.opn.a3,a p.opn.a4,a p.opn.a5,a p.cls.a0,a p.cls.a1,a p.cls.a2,a p.cls.a3,a p.cls.a4,a p.cls.a5,d g p.classes,d bk.off p.offers]] [];(((j.same j/\(e 0 0 1).same (e 0 (ju p 0).length 1)/\(a n).same (a n)/\(γp .i64 0).same (a 0)/\True)/\(c g [] 2 true).same (c g (ju p 0) 2 true)/\True)/\b<=b/\b<=n)/\∀(x:Int),let f:=ju p x.toNat;let k:=f.length+1;let h:=x+(1:Int);let l:=a h;b<=x/\x<=n->(decide (x<n)=true->(Good p/\b<=x/\x<(↑p.offers.length:Int))/\f.length=f.length/\k*8<=140737488355328/\k<=1000000000000/\bV .i64 h/\((j.same j/\(e 0 (f++[pY p x]).length 1).same (e 0 (ju p h.toNat).length 1)/\(a n).same (a n)/\l.same l/\True)/\(c g (f++[pY p x]) 2 true).same (c g (ju p h.toNat) 2 true)/\True)/\(b<=h/\h<=n)/\(n - h).toNat<(n - x).toNat)/\(decide (x<n)=false->f.length=f.length/\(d g f).same (d g (ju p n.toNat)))) (by kernel_rfl) ?_;simp only[vcs];have h160:=hg.2.1;have hrow:∀{x y:List Int},x=y->(bq.row (.i .i64) x 2 true).same (bq.row (.i .i64) y 2 true):=by rintro _ _ rfl;rfl
 have how:∀{x y:Nat},x=y->(γ6 0 x 1).same (γ6 0 y 1):=by rintro _ _ rfl;rfl
 refine⟨⟨⟨how rfl,hrow rfl⟩,by omega,by omega⟩,?_⟩;rintro i ⟨i0,i1⟩;have hL:=@Rl p i.toNat;refine⟨λhlt=>⟨⟨hg,i0,by omega⟩,by omega,by omega,by omega,⟨how (by rw[Rm i0]),hrow (Rm i0).symm⟩,by omega,by omega⟩,λhge=>?_⟩;rw[show i.toNat=n.toNat by omega]
def Q4:List bL:=Jc::Jb::Q3
theorem hQ4:∀c∈Q4,Holds Tryz.prog c:=by
 simp only[Q4,γq];exact⟨h85,h35,Ja⟩
def rO (p:bp):List Int:=if bC p=0 then ju p p.offers.length else[]
def D5:bL:=⟨37,bp,.one cY,λ_=>True,λp=> .bH [.row (.i .i64) (rO p),.si .i64 (bC p)]⟩
theorem h37:Holds Tryz.prog D5:=by
 refine cF (L:=Q4) D5 lk hQ4 ?_;intro(p:bp) _;refine bN (let a:=Φ;let b:=SV.bH;let d:=decide (bC p≠(0:Int));let c:=bk.i .i64;let e:=[Θ .i64 (bC p)];let f:=b (a c (rO p)::e);let g:=(↑p.offers.length:Int);True/\(d=true->(b (a c []::e)).same f)/\(d=false->(Good p/\g=(↑p.offers.length:Int))/\(b [a c (ju p g.toNat),γp .i64 0]).same f)) (by kernel_rfl) ?_;simp only[vcs];refine⟨λh=>by simp[rO,h],λh=>?_⟩;have hz:bC p=0:=ω.1 h;exact⟨dm hz,by simp[rO,hz],hz.symm⟩
def sS (p:bp) (l:List Off):bp:={p with offers:=l}
theorem Jd {p:bp} {c:List Off} {f:Off->Bool}:∀{l:List Off} {s t:List mO},fH p s l=0->(∀k∈t,k∈s)->fH (sS p c) t (l.filter f)=0
 |[],_,_,_,_=>rfl
 |o::r,s,t,h,a=>by
  simp only[fH] at h;split at h;·omega
  ·split at h;·cases h
   ·rename_i d e;have g:o.key∉t:=λi=>e (a _ i);rw[δu];split
    ·unfold fH;rw[if_neg (show ¬iW (sS p c) o≠0 from d),if_neg g];exact Jd h λk b=>by
      grind
    ·exact Jd h λk b=>γc.2 (.inl (a k b))
theorem Rn {p:bp} {f:Off->Bool} (h:bC p=0):bC (sS p (p.offers.filter f))=0:=by
 have o:=dm h;unfold bC at h;split at h;·omega
 ·rename_i a;have d:gV p=0:=ω.1 a;obtain⟨b,c,n,m,g⟩:=qH d;have l:=γw f p.offers;have i:gV (sS p (p.offers.filter f))=0:=Dl (p:=sS p (p.offers.filter f)) b (λj e=>by have h:=(l9 (p:=p) (k:=j)).1 (c j e);exact l9.2 h) (by grind[sS]) g;unfold bC;rw[if_neg (by simp[i])];exact Jd h (by simp)
def Ab (b:Int) (s:Int×Int) (x:Off):Int×Int:=if x.bD=b then(x.value,s.2) else(s.1,s.2+x.value)
theorem Ro {p:bp} {b:Int}:∀{c:List Int} {s:Int×Int},c.foldl (DJ p b) s=(cj p c).foldl (Ab b) s
 |[],s=>rfl
 |i::c,s=>by rw[γM,pX,γM,Ro];rfl
def qP (p:bp) (b:Int):bp:=sS p (p.offers.filter λx=>decide (x.bD≠b))
theorem D6 {a b:bz} (h:∀k,k<6->a.at k<=b.at k):a.le b=true:=by
 have i:=h 0 (by omega);have c:=h 1 (by omega);have d:=h 2 (by omega);have f:=h 3 (by omega);have g:=h 4 (by omega);have e:=h 5 (by omega);simp_all[bz.at,bj,bz.le_iff]
theorem Je {p:bp} {L:List Off} (d:(L.map Off.bD).Nodup) (c:fV p L=true):gC p L:=by
 refine⟨d,D6 λk a=>?_,D6 λk a=>?_⟩
 ·have h:=o7.1 c (p.classes.length+k) (by grind[dn]);rw[show(((p.classes.length+k:Nat)):Int)=p.classes.length+k by omega,QZ a] at h;rw[nE,δn];have:cT p L (p.classes.length+k)=(L.map ((λb=>bz.at b k)∘Off.want)).sum:=by
   unfold cT;congr 1;simp_all[QX]
  omega
 ·have h:=o7.1 c (p.classes.length+6+k) (by grind[dn]);rw[show(((p.classes.length+6+k:Nat)):Int)=p.classes.length+6+k by omega,Q0 a] at h;rw[nE,δn];have:cT p L (p.classes.length+6+k)=(L.map ((λb=>bz.at b k)∘dE p)).sum:=by
   unfold cT;congr 1;simp_all[QY]
  omega
theorem Rq {l:List Off}:∀{t:List Int} {a:Int} {r:List Off}, -1<=a->fW l a t=some r->t.Pairwise (·<·)/\∀j∈t,a<j/\j<l.length
 |[],_,_,_,_=>by simp;|i::t,a,r,g,h=>by
  simp only[fW] at h;split at h;·cases h
  ·rename_i k;obtain⟨f,d,rfl⟩:=Option.map_eq_some_iff.1 h;obtain⟨e,c⟩:=Rq (by omega) d;refine⟨γv.2 ⟨λj b=>(c j b).1,e⟩,λj b=>?_⟩;grind
def kh (p:bp) (t:List Int):Prop:=kJ 0 p.offers.length t/\gC p (cj p t)
theorem uo {p:bp} (c:bC p=0) {t:List Int}:dc p t=0↔kh p t:=by
 refine⟨λh=>?_,λh=>Q8 c h.1 h.2⟩;have e:=abg h;obtain⟨i,a,l,m,o⟩:=xW h;obtain⟨r,d⟩:=Option.isSome_iff_exists.1 a;obtain⟨f,g⟩:=Rq (by omega) d;have n:eE p t=cj p t:=by grind[eE,DV]
 have b:fV p (cj p t)=true:=by
  simp_all[dc]
 exact⟨⟨f,λj k=>by simp_all⟩,Je e b⟩
theorem Rr {p:bp} (a:Good p):kh p []:=⟨⟨by simp,by simp⟩,of_decide_eq_true (QN a)⟩
theorem abu {p:bp} (c:Good p) {l m:List Int} (h:kh p (l++m)):kh p l:=by
 obtain⟨⟨b,d⟩,a⟩:=h;rw[rN] at a;refine⟨⟨(γY.1 b).1,λj e=>d j (by simp[e])⟩,DO c (λx f=>?_) a⟩;grind[vK]
theorem sT {p:bp} (hc:bC p=0) {t:List Int} (h:kh p t):dH p t=bZ (cj p t):=by
 have hz:=(uo hc).2 h;rw[QS hz];unfold i6;rw[zW];omega
def x6 (p:bp):Nat->Int->List Int->List (List Int)->List (List Int)
 |0,_,_,a=>a
 |k+1,i,c,a=>x6 p k (i+1) c (if dc p (c++[i])=0 then x6 p k (i+1) (c++[i]) (a++[c++[i]]) else a)
def pe (p:bp):List (List Int):=x6 p p.offers.length 0 [] [[]]
theorem Ac {p:bp} (f:bC p=0):∀{k:Nat} {i:Int} {c:List Int} {out:List (List Int)} {x:List Int},x∈x6 p k i c out↔x∈out\/∃t,t≠[]/\kJ i k t/\kh p (c++t)/\x=c++t
 |0,i,c,out,x=>by
  simp only[x6];refine⟨.inl,λh=>?_⟩;rcases h with h|⟨t,l,d,_⟩;·exact h
  ·cases t with
   |nil=>simp_all;|cons j t=>
    have:=d.2 j (by simp);omega
 |k+1,i,c,out,x=>by
  have w:=dm f;simp only[x6];rw[Ac f];have s:∀{t:List Int},kJ (i+1) k t->kJ i (k+1) t:=λh=>⟨h.1,λj e=>by have:=h.2 j e;omega⟩;have n:∀{t:List Int},kJ (i+1) k t->kJ i (k+1) (i::t):=λh=>⟨γv.2 ⟨λj e=>by have:=h.2 j e;omega,h.1⟩,λj e=>by
   rcases γE.1 e with rfl|e;·omega
   ·have:=h.2 j e;omega⟩;constructor
  ·rintro(h|⟨t,l,d,q,r⟩)
   ·split at h
    ·rename_i y;rw[Ac f] at h;rcases h with h|⟨t,l,d,q,r⟩
     ·rcases γc.1 h with h|h;·exact .inl h
      ·rw[γ1] at h;exact .inr ⟨[i],by simp,n (t:=[]) ⟨by simp,by simp⟩,(uo f).1 y,h⟩
     grind
    simp_all
   grind
  ·rintro(h|⟨t,l,d,q,r⟩)
   ·left;split;·rw[Ac f];left;simp[h]
    ·exact h
   ·cases t with
    |nil=>simp_all;|cons j t=>
     have e:=d.2 j (by simp);have u:=γv.1 d.1;by_cases o:j=i
     ·subst o;left;have v:kh p ((c++[j])++t):=by simp_all
      rw[if_pos ((uo f).2 (abu w v)),Ac f];by_cases z:t=[];·simp_all
      ·right;exact⟨t,z,⟨u.2,λm g=>by have a:=u.1 m g;have b:=d.2 m (by simp[g]);omega⟩,v,by simp_all⟩
     ·right;refine⟨j::t,by simp,⟨d.1,λm g=>?_⟩,q,r⟩;have b:=d.2 m g;grind
theorem uq {p:bp} (b:bC p=0) {t:List Int}:t∈pe p↔kh p t:=by
 unfold pe;rw[Ac b];constructor;·grind[Rr,dm]
 ·intro h;by_cases a:t=[];·left;simp[a]
  ·right;exact⟨t,a,h.1,by simpa using h,by simp⟩
theorem Ad {p:bp} (hc:bC p=0) {L:List Off} (hL:gC p L) (hm:∀x∈L,x∈p.offers):bZ L<=ik p (allM p):=by
 have hg:=dm hc;have h2:=qJ hg.1;rw[I2 hc (m:=allM p) (by unfold allM;omega) (by unfold allM;omega)];refine xX hg ⟨hL.1,λx hx=>?_,hL.2.1,hL.2.2⟩;have:=hg.2.2.2.2 x (hm x hx);exact⟨hm x hx,I1 hg this.1 this.2.1⟩
theorem D7 {p:bp} (c:bC p=0):∃L,gC p L/\(∀x∈L,x∈p.offers)/\bZ L=ik p (allM p):=by
 have a:=dm c;have f:=qJ a.1;rw[I2 c (m:=allM p) (by grind[allM]) (by grind[allM])];have h:=bz.eL.1 a.2.2.1;have g:=bz.eL.1 a.2.2.2.1;obtain⟨L,b,e⟩:=xY a (DU (allM p)) (l:=p.supply) (o:=p.opn) (by grind[bz.le_iff,bz.zero]) (by grind[bz.le_iff,bz.zero]);exact⟨L,⟨b.nd,b.w,b.o⟩,λx d=>(b.mem x d).1,e⟩
theorem Rt {p:bp} (d:bC p=0) {L:List Off} (c:gC p L) (l:∀x∈L,x∈p.offers):∃t,kh p t/\(cj p t).Perm L:=by
 have g:=vN d;obtain⟨t,h,k,e⟩:=DT (λx=>decide (x∈L)) p.offers [];have f:cj p t=p.offers.filter λx=>decide (x∈L):=e;have b:(p.offers.filter λx=>decide (x∈L)).Nodup:=List.Nodup.sublist List.filter_sublist g;have a:L.Perm (cj p t):=by
  rw[f];refine(List.perm_ext_iff_of_nodup (zV _ c.1) b).2 λx=>?_;simp_all
 exact⟨t,⟨⟨h,λj i=>by simp_all⟩,zU a c⟩,a.symm⟩
def oo (p:bp) (k:Int):Int:=(bj p.offers k.toNat bk.off.dflt).value
def ki (p:bp) (k:Int) (s:Int×Int) (l:List Int):Int×Int:=
 if k∈l then(s.1,if s.2<dH p l - oo p k then dH p l - oo p k else s.2) else(if s.1<dH p l then dH p l else s.1,s.2)
theorem abv {p:bp} (hc:bC p=0) {l:List Int} (h:l∈pe p):l.length<=160:=(xW ((uo hc).2 ((uq hc).1 h))).2.2.2.1
structure x7 where
 at_:Sit
 rest:Int
 out:List Int
def pZ (p:bp) (s:x7) (i:Nat):x7:=
 let x:=bj p.offers i bk.off.dflt;if j7 s.at_.members x.bD≠0/\fitsAt p s.at_ x=true/\x.value+gl p (eU p s.at_ x)=s.rest then⟨eU p s.at_ x,s.rest - x.value,s.out++[(i:Int)]⟩ else s
def pg (p:bp) (m:Int):x7:=⟨⟨m,p.supply,p.opn⟩,gl p ⟨m,p.supply,p.opn⟩,[]⟩
def dQ (p:bp) (m:Int) (n:Nat):x7:=(π n).foldl (pZ p) (pg p m)
def lp (p:bp) (m:Int):Alloc:=if fA p m=0 then⟨(dQ p m p.offers.length).out,gl p ⟨m,p.supply,p.opn⟩⟩ else⟨[],0⟩
def WK:List cZ:=[DF,Dw,Dx,pW 9]
theorem hWK:∀c∈WK,dK Tryz.prog c:=by
 simp only[WK,γq,γ3,false_implies,implies_true,and_true];exact⟨h113,h114,h116,DD 9⟩
def Jf:cZ where
 f:=78;α:=bp×Int;put a:=[cY.put a.1,.si .i64 a.2];st _:=[];dec v o:=match v,o with
  |[v,m],[]=>match cY.dec v,m.int .i64 with
   |some p,some m=>some (p,m)
   |_,_=>none
  |_,_=>none;ok v o a h:=by
  split at h
  ·split at h
   ·rename_i h1 h2;simp only[γ] at h;subst h;exact⟨by simp only[gL,cY.ok _ _ h1,gU h2];rfl,rfl⟩
   ·cases h
  ·cases h
 inj a b h _:=by
  simp only[gL,ξ,and_true] at h;have h2:=h.2;simp only[SV.g,AV.sc.injEq,Value.int.injEq,true_and] at h2;exact Prod.ext (cY.inj _ _ h.1) h2
 dom a:=fA a.1 a.2=0;res a:=.bH [.agg [.ow 0 (lp a.1 a.2).chosen.length 1,.si .i64 (lp a.1 a.2).value],.si .i64 0];out a:=[.row (.i .i64) (lp a.1 a.2).chosen 3 false]
def abx (p:bp) (v:Int) (s:x7) (es:lD):bW:=[.cells p.ss 27 20 false,.cells [.sc (.slice none 0 0),.il .i64 0] 41 2 false,
 .cells [.si .i64 p.supply.a0,.si .i64 p.supply.a1,.si .i64 p.supply.a2,.si .i64 p.supply.a3,.si .i64 p.supply.a4,.si .i64 p.supply.a5,
  .si .i64 p.opn.a0,.si .i64 p.opn.a1,.si .i64 p.opn.a2,.si .i64 p.opn.a3,.si .i64 p.opn.a4,.si .i64 p.opn.a5,
  .si .i64 p.cls.a0,.si .i64 p.cls.a1,.si .i64 p.cls.a2,.si .i64 p.cls.a3,.si .i64 p.cls.a4,.si .i64 p.cls.a5,
  .row (.i .i64) p.classes,.row .off p.offers,.row .off (L8.of p).l0,.row .off (L8.of p).l1,.row .off (L8.of p).l2,.row .off (L8.of p).l3,.row .off (L8.of p).l4,.row .off (L8.of p).l5,.row .off (L8.of p).l6,.row .off (L8.of p).l7,.mp 3] 214 29 false,
 .map .sit (.i .i64) true es ([0,0,0,0,0,0,0,0,0,0,0,0,0],true) true,
 .cells (encS .sit s.at_) 167 13 false,.cells [.ow 6 s.out.length 1,.si .i64 v] 41 2 false,.row (.i .i64) s.out 3 false]
def aby (a:bp×Int):Nat->cB
 |9=> .inv (Int×lD) (λx=>⟨[(4,.ptr 1 0 2),(7,.ptr 2 0 29),(8,.ptr 4 0 13),(9,.ptr 5 0 2),(10,.si .i64 (dQ a.1 a.2 x.1.toNat).rest),(34,.row .off a.1.offers),(35,.si .i64 a.1.offers.length),(36,.si .i64 x.1)],abx a.1 (pg a.1 a.2).rest (dQ a.1 a.2 x.1.toNat) x.2⟩)
  (λs=>(iS s 36,mS .sit (.i .i64) s 3)) (λx=>0<=x.1/\x.1<=a.1.offers.length/\iZ a.1 x.2) (λx=>(a.1.offers.length - x.1).toNat) λ_ _=> .look
 |_=> .look
theorem x8 {p:bp} {m:Int} {n:Nat}:dQ p m (n+1)=pZ p (dQ p m n) n:=by
 unfold dQ;rw[δr,List.foldl_append];rfl
theorem Jg {p:bp} (hg:Good p) {a:Sit} (ha:js a) {x:Off} (hx:x∈p.offers) (hb:j7 a.members x.bD≠0) (hf:fitsAt p a x=true):js (eU p a x):=by
 have hv:=hg.2.2.2.2 x hx;have h8:=hg.1;have hd:=(xO ha.1 ha.2.1 hv.1 (by omega)).2 hb;simp only[fitsAt,ζ] at hf;exact⟨hd.1,hd.2.1,DC ha.2.2.1 hv.2.2.1 hf.1,DC ha.2.2.2 (If hv.2.2.1) hf.2⟩
theorem vO {p:bp} (a:Good p) {m:Int} (b:0<=m) (c:m<256):∀n,n<=p.offers.length->js (dQ p m n).at_/\(dQ p m n).rest=gl p (dQ p m n).at_/\(dQ p m n).out.length<=n
 |0,_=>⟨⟨b,c,a.2.2.1,a.2.2.2.1⟩,rfl,τ _⟩
 |n+1,f=>by
  obtain⟨g,d,e⟩:=vO a b c n (by omega);grind[x8,pZ,cK,Jg]
theorem h75:dK Tryz.prog Jf:=by
 refine zM (L:=[Dt]) (W:=WK) Jf (λ_=>none) aby hWK (by simpa using h112) ?_;rintro⟨p,m⟩ (hz:fA p m=0);refine bN (let a:=Θ .i64;let c:=bq.cells;let d:=(0:Int);let e:=Φ;let f:=bq.row;let g:=γ6;let h:=bV .i64;let j:=γS;let k:=γC;let l:=SV.bH;let X:=a p.supply.a0;let Y:=a p.supply.a1;let Z:=a p.supply.a2;let a6:=a p.supply.a3;let a7:=a p.supply.a4;let a8:=a p.supply.a5;let a9:=a p.opn.a0;let aa:=a p.opn.a1;let ab:=a p.opn.a2;let ac:=a p.opn.a3;let ad:=a p.opn.a4;let ae:=a p.opn.a5;let o:=bk.i .i64;let v:=e bk.off p.offers;let af:=decide (fA p m≠d);let S:=γp .i64 0;let ag:=[SV.sc (Value.slice none 0 0),S];let ah:=a 0;let ai:=l [k [g 0 (lp p m).chosen.length 1,a (lp p m).value],ah];let aj:=Sit.mk m p.supply p.opn;let w:=j 1 0 2;let y:=j 2 0 29;let z:=j 4 0 13;let A:=j 5 0 2;let T:=gk p (cnt m+1) [] aj;let ak:=a T.fst;let B:=dQ p m 0;let al:=(↑p.offers.length:Int);let q:=(↑p.offers.length:Int);let L:=a q;let C:=c ag 41 2 false;let U:=[e bk.off (L8.of p).l0,e bk.off (L8.of p).l1,e bk.off (L8.of p).l2,e bk.off (L8.of p).l3,e bk.off (L8.of p).l4,e bk.off (L8.of p).l5,e bk.off (L8.of p).l6,e bk.off (L8.of p).l7,SV.mp 3];let V:=([0,0,0,0,0,0,0,0,0,0,0,0,0],true);let am:=bq.map bk.sit o true T.snd V true;let D:=B.at_.left;let E:=B.at_.opn;let M:=[a (pg p m).rest];let aD:=bk.off.dflt;let F:=λ(u:List SV) (u_1 u_2:Nat) ↦let an:=c (X::Y::Z::a6::a7::a8::a9::aa::ab::ac::ad::ae::a p.cls.a0::a p.cls.a1::a p.cls.a2::a p.cls.a3::a p.cls.a4::a p.cls.a5::e o p.classes::v::u) u_1 u_2 false;an.same an;True/\(af=true->(l [k ag,a (fA p m)]).same ai/\False)/\(af=false->Good p/\True/\((Good p/\L8.of p=L8.of p/\js aj/\iZ p [])/\cnt m<9)/\(((w.same w/\y.same y/\z.same z/\A.same A/\ak.same (a B.rest)/\v.same v/\(a al).same L/\S.same ah/\True)/\F [] 27 20/\C.same C/\F U 214 29/\am.same am/\(c [a m,X,Y,Z,a6,a7,a8,a9,aa,ab,ac,ad,ae] 167 13 false).same (c [a B.at_.members,a D.a0,a D.a1,a D.a2,a D.a3,a D.a4,a D.a5,a E.a0,a E.a1,a E.a2,a E.a3,a E.a4,a E.a5] 167 13 false)/\(c [g 6 0 1,ak] 41 2 false).same (c (g 6 B.out.length 1::M) 41 2 false)/\(f o [] 3 false).same (f o B.out 3 false)/\True)/\d<=d/\d<=q/\iZ p T.snd)/\∀(x:Int×lD),let r:=x.fst+(1:Int);let n:=dQ p m x.fst.toNat;let G:=dQ p m r.toNat;let ao:=a G.rest;let P:=a r;let ap:=bq.map bk.sit o true x.snd V true;let s:=n.at_;let H:=s.left;let I:=s.opn;let J:=G.at_.left;let K:=G.at_.opn;let aq:=c [a G.at_.members,a J.a0,a J.a1,a J.a2,a J.a3,a J.a4,a J.a5,a K.a0,a K.a1,a K.a2,a K.a3,a K.a4,a K.a5] 167 13 false;let Q:=n.out.length;let ar:=c (g 6 G.out.length 1::M) 41 2 false;let W:=f o n.out 3 false;let au:=f o G.out 3 false;let t:=bj p.offers x.fst.toNat aD;let N:=pV p s t;let R:=gk p (cnt N.members+1) x.snd N;let av:=bq.map bk.sit o true R.snd V true;let O:=t.bD;let aw:=decide (x.fst<q);let ax:=n.out.length+1;let ay:=n.rest - t.value;let az:=h r/\((w.same w/\y.same y/\z.same z/\A.same A/\(a n.rest).same ao/\v.same v/\L.same L/\P.same P/\True)/\F [] 27 20/\C.same C/\F U 214 29/\ap.same ap/\(c [a s.members,a H.a0,a H.a1,a H.a2,a H.a3,a H.a4,a H.a5,a I.a0,a I.a1,a I.a2,a I.a3,a I.a4,a I.a5] 167 13 false).same aq/\(c (g 6 Q 1::M) 41 2 false).same ar/\W.same au/\True)/\(d<=r/\r<=q/\iZ p x.snd)/\(q - r).toNat<(q - x.fst).toNat;let aE:=(d<=r/\r<=q/\iZ p R.snd)/\(q - r).toNat<(q - x.fst).toNat;let aF:=av.same av;let aA:=λ(u:Int) (u_1:Sit) (u_2:Nat) (u_3:bq) ↦h r/\((w.same w/\y.same y/\z.same z/\A.same A/\(a u).same ao/\v.same v/\L.same L/\P.same P/\True)/\F [] 27 20/\C.same C/\F U 214 29/\aF/\(c [a u_1.members,a u_1.left.a0,a u_1.left.a1,a u_1.left.a2,a u_1.left.a3,a u_1.left.a4,a u_1.left.a5,a u_1.opn.a0,a u_1.opn.a1,a u_1.opn.a2,a u_1.opn.a3,a u_1.opn.a4,a u_1.opn.a5] 167 13 false).same aq/\(c (g 6 u_2 1::M) 41 2 false).same ar/\u_3.same au/\True)/\aE;let aB:=λ(u:Bool) ↦decide (t.value+R.fst=n.rest)=u;let aC:=λ(u:Bool) ↦decide (eJ.rG .i64 (s.members / (2:Int)^O.toNat) (1:Int)=d)=u;d<=x.fst/\x.fst<=q/\iZ p x.snd->(aw=true->d<=x.fst/\x.fst<al/\x.fst.toNat<p.offers.length/\d<=O/\O<=(64:Int)/\(aC true->az)/\(aC false->(p.classes.length<=8/\d<=O/\O<(↑p.classes.length:Int)/\s.b/\t.want.ok=true)/\(fitsAt p s t=true->((Good p/\L8.of p=L8.of p/\js N/\iZ p x.snd)/\cnt N.members<9)/\h (t.value+R.fst)/\(aB true->1=1/\Q=n.out.length/\ax*8<=140737488355328/\ax<=1000000000000/\h ay/\aA ay N (n.out++[x.fst]).length (f o (n.out++[x.fst]) 3 false))/\(aB false->aA n.rest s Q W))/\(fitsAt p s t=false->az)))/\(aw=false->(l [k (g 0 Q 1::M),S]).same ai/\W.same (f o (lp p m).chosen 3 false)/\True))) (by kernel_rfl) ?_;simp only[vcs];obtain⟨hc,m0,m1⟩:=Qv hz;have hg:=dm hc;have hp:=qJ hg.1;have h160:=hg.2.1;have ha:js ⟨m,p.supply,p.opn⟩:=⟨m0,by simp only;omega,hg.2.2.1,hg.2.2.2.1⟩;have hm0:iZ p []:=λe he=>by simp at he
 have cn:∀z,cnt z<9:=λz=>by have:=@Dz z;unfold cnt;omega
 obtain⟨e1,e2⟩:=xR hg (cnt m+1) [] ⟨m,p.supply,p.opn⟩ ha hm0 (by simp only;omega);have r0:dQ p m 0=pg p m:=rfl;have hst:(pg p m).rest=gl p ⟨m,p.supply,p.opn⟩:=rfl;rw[r0,e1,hst];refine⟨λh=>absurd hz h,λ_=>⟨hg,⟨⟨hg,ha,hm0⟩,cn m⟩,⟨⟨rfl,rfl,rfl,rfl⟩,by omega,by omega,e2⟩,?_⟩⟩;rintro⟨i,es⟩ ⟨i0,i1,hes⟩;simp only at i0 i1 hes ⊢;obtain⟨k1,k2,k3⟩:=vO hg m0 (show m<256 by omega) i.toNat (by omega);refine⟨λhlt=>?_,λhge=>?_⟩
 ·have hsu:dQ p m (i+1).toNat=pZ p (dQ p m i.toNat) i.toNat:=by rw[show(i+1).toNat=i.toNat+1 by omega,x8]
  have hx:=cK (d:=bk.off.dflt) (show i.toNat<p.offers.length by omega);unfold pZ at hsu;simp only at hsu;rw[show((i.toNat:Nat):Int)=i by omega] at hsu;generalize bj p.offers i.toNat bk.off.dflt=x at*;generalize dQ p m i.toNat=s at*;have hv:=hg.2.2.2.2 x hx;have hbd:=xQ hg s.at_;have h8:=hg.1;have hbit:eJ.rG .i64 (s.at_.members / 2^x.bD.toNat) 1=j7 s.at_.members x.bD:=rfl;rw[hbit];refine⟨i0,hlt,by omega,by omega,by omega,λhb=>?_,λhb=>⟨⟨by omega,by omega,by omega,k1.2.2,hv.2.2.1⟩,λhf=>?_,λhf=>?_⟩⟩
  ·rw[if_neg (λh=>h.1 hb)] at hsu;rw[hsu];refine⟨?_,⟨rfl,rfl,rfl,rfl⟩,⟨?_,?_,hes⟩,?_⟩<;>omega
  ·have D1:pV p s.at_ x=eU p s.at_ x:=by unfold pV;rw[if_pos hf]
   rw[D1];have hn:=Jg hg k1 hx hb hf;obtain⟨q1,q2⟩:=xR hg (cnt (eU p s.at_ x).members+1) es (eU p s.at_ x) hn hes (by omega);have hbn:=xQ hg (eU p s.at_ x);rw[q1];refine⟨⟨⟨hg,hn,hes⟩,cn _⟩,⟨by omega,by omega⟩,λhe=>?_,λhe=>?_⟩
   ·rw[if_pos ⟨hb,hf,he⟩] at hsu;rw[hsu];refine⟨?_,?_,?_,?_,⟨rfl,rfl,rfl,rfl⟩,⟨?_,?_,q2⟩,?_⟩<;>omega
   ·rw[if_neg (λh=>he h.2.2)] at hsu;rw[hsu];refine⟨?_,⟨rfl,rfl,rfl,rfl⟩,⟨?_,?_,q2⟩,?_⟩<;>omega
  ·rw[if_neg (λh=>by rw[hf] at h;cases h.2.1)] at hsu;rw[hsu];refine⟨?_,⟨rfl,rfl,rfl,rfl⟩,⟨?_,?_,hes⟩,?_⟩<;>omega
 ·have hb:lp p m=⟨(dQ p m i.toNat).out,gl p ⟨m,p.supply,p.opn⟩⟩:=by unfold lp;rw[if_pos hz,show i.toNat=p.offers.length by omega]
  rw[hb];exact⟨rfl,rfl⟩
theorem Ru:∀l:List Int,cmpL l l=0
 |[]=>rfl
 |a::l=>by
  simp only[cmpL,if_neg (Int.lt_irrefl a)];exact Ru l
theorem Rw:∀{a b:List Int},cmpL a b=0->a=b
 |[],[],_=>rfl
 |[],_::_,h=>by simp[cmpL] at h;|_::_,[],h=>by simp[cmpL] at h;|x::a,y::b,h=>by
  simp only[cmpL] at h;split at h;·simp at h
  ·split at h;·simp at h
   ·rw[Rw h,show x=y by omega]
theorem Rx:∀{a b:List Int},cmpL a b<0↔0<cmpL b a
 |[],[]=>by simp[cmpL];|[],_::_=>by simp[cmpL];|_::_,[]=>by simp[cmpL];|x::a,y::b=>by
  simp only[cmpL];by_cases h1:x<y;·rw[if_pos h1,if_neg (by omega),if_pos h1];simp
  ·by_cases h2:y<x;·rw[if_neg h1,if_pos h2,if_pos h2];simp
   ·rw[if_neg h1,if_neg h2,if_neg h2,if_neg h1];exact Rx
theorem Ry:∀{a b c:List Int},cmpL a b<0->cmpL b c<0->cmpL a c<0
 |[],[],_,h,_=>by omega;|_::_,[],_,h,_=>by grind[cmpL];|[],_::_,[],_,h=>by grind[cmpL];|[],_::_,_::_,_,_=>by simp[cmpL];|_::_,_::_,[],_,h=>by grind[cmpL];|x::a,y::b,z::c,h,k=>by
  simp only[cmpL] at h k ⊢;by_cases g:x<y;·omega
  ·rw[if_neg g] at h;by_cases e:y<x;·omega
   ·rw[if_neg e] at h;by_cases f:y<z;·omega
    ·rw[if_neg f] at k;by_cases d:z<y;·omega
     ·rw[if_neg d] at k;rw[if_neg (by omega),if_neg (by omega)];exact Ry h k
def lJ (a b:Alloc):Prop:=b.value<a.value\/a.value=b.value/\cmpL a.chosen b.chosen<0
theorem Rz {a b c:Alloc} (h:lJ a b) (k:lJ b c):lJ a c:=by
 rcases h with h|⟨h1,h2⟩
 ·rcases k with k|⟨k1,_⟩;·left;omega
  ·left;omega
 ·rcases k with k|⟨k1,k2⟩;·left;omega
  ·exact .inr ⟨by omega,Ry h2 k2⟩
theorem Ae {a:Alloc}:¬lJ a a:=by
 rintro(h|⟨_,h⟩);·omega
 ·rw[Ru] at h;omega
theorem abz {a b:Alloc} (h:¬lJ a b) (k:¬lJ b a):a=b:=by
 obtain⟨l,v⟩:=a;obtain⟨m,w⟩:=b;simp only[lJ,not_or,not_and] at h k;have hv:v=w:=by omega
 subst hv;have h2:=h.2 rfl;have k2:=k.2 rfl;have:=mt Rx.2 k2;rw[Rw (show cmpL l m=0 by omega)]
def mV (p:bp) (a:Sit) (L:List Off):Prop:=IK p (eM a.members) a.left a.opn L
theorem Jh {m b:Int}:b∈eM m↔(0<=b/\b<8)/\j7 m b≠0:=by
 unfold eM;rw[γu,decide_eq_true_eq];constructor
 ·rintro⟨h1,h2⟩;simp only[γE,γ3,or_false] at h1;exact⟨by omega,h2⟩
 ·rintro⟨h1,h2⟩;refine⟨?_,h2⟩;have:b=0\/b=1\/b=2\/b=3\/b=4\/b=5\/b=6\/b=7:=by omega
  rcases this with rfl|rfl|rfl|rfl|rfl|rfl|rfl|rfl<;>simp
theorem Ji {p:bp} (c:Good p) {a:Sit} (d:js a) {x:Off} (i:x∈p.offers) (j:j7 a.members x.bD≠0) (b:fitsAt p a x=true) {L:List Off} (h:mV p (eU p a x) L):mV p a (x::L):=by
 have f:=c.2.2.2.2 x i;have q:=c.1;have e:=(xO d.1 d.2.1 f.1 (by omega)).2 j;have k:eM (eU p a x).members=(eM a.members).filter λg=>decide (g≠x.bD):=e.2.2;obtain⟨o,l,r,t⟩:=h;rw[k] at l;simp only[fitsAt,ζ] at b;have n:=bz.le_iff.1 b.1;have s:=bz.le_iff.1 b.2;refine⟨?_,λy m=>?_,?_,?_⟩;·simp_all
 ·grind[Jh]
 all_goals grind[bz.le_iff,sP,bz.add,bz.sub,eU]
theorem RA {p:bp} (l:Good p) {a:Sit} (j:js a) {x:Off} {L:List Off} (h:mV p a (x::L)):(j7 a.members x.bD≠0/\fitsAt p a x=true)/\mV p (eU p a x) L:=by
 obtain⟨i,d,e,f⟩:=h;have n:=d x (by simp);have b:=(Jh.1 n.2);have m:=(xO j.1 j.2.1 b.1.1 b.1.2).2 b.2;have q:eM (eU p a x).members=(eM a.members).filter λg=>decide (g≠x.bD):=m.2.2;obtain⟨o,k⟩:=IL l (L:=L) λy c=>(d y (by simp[c])).1;rw[ι,sP,bz.le_iff] at e f;rw[ι,γN] at i;simp only[bz.add,bz.bd] at e f o k;refine⟨⟨b.2,?_⟩,i.2,λy c=>⟨(d y (by simp[c])).1,?_⟩,?_,?_⟩;·grind[fitsAt,bz.le_iff]
 ·simp_all
 all_goals grind[bz.le_iff,bz.sub,eU]
theorem abA {p:bp} {a:Sit} {L M:List Off} (h:L.Perm M) (hL:mV p a L):mV p a M:=
 ⟨((h.map _).nodup_iff).1 hL.nd,λx hx=>hL.mem x (h.mem_iff.2 hx),by rw[<-DR (h.map _)];exact hL.w,by rw[<-DR (h.map _)];exact hL.o⟩
theorem Jj {p:bp} (hg:Good p) {a:Sit} {L:List Off} (h:mV p a L):bZ L<=gl p a:=xX hg h
theorem RB {p:bp} (hg:Good p) {a:Sit} (ha:js a):∃L,mV p a L/\bZ L=gl p a:=by
 have q1:=bz.eL.1 ha.2.2.1;have q2:=bz.eL.1 ha.2.2.2;exact xY hg (DU _) (by rw[bz.le_iff];simp only[bz.zero];omega) (by rw[bz.le_iff];simp only[bz.zero];omega)
theorem takes {p:bp} (b:Good p) {a:Sit} (c:js a) {x:Off} {L:List Off} (h:mV p a (x::L)) (l:x.value+bZ L=gl p a):
  j7 a.members x.bD≠0/\fitsAt p a x=true/\x.value+gl p (eU p a x)=gl p a/\mV p (eU p a x) L/\bZ L=gl p (eU p a x):=by
 obtain⟨⟨d,f⟩,g⟩:=RA b c h;have e:=(h.mem x (by simp)).1;have k:=Jg b c e d f;have m:=Jj b g;obtain⟨M,j,i⟩:=RB b k;have n:=Jj b (Ji b c e d f j);grind[bZ]
theorem RD {p:bp} (r:bC p=0) {m:Int} (q:0<=m) (t:m<256):∀n,n<=p.offers.length->∀L,mV p (dQ p m n).at_ L->bZ L=(dQ p m n).rest->∀y∈L,y∉p.offers.take n
 |0,_,_,_,_,_,_=>by simp;|n+1,D,L,f,g,y,z=>by
  have h:=dm r;obtain⟨o,C,G⟩:=vO h q t n (by omega);have w:=RD r q t n (by omega);have v:=cK (d:=bk.off.dflt) (show n<p.offers.length by omega);have j:p.offers.take (n+1)=p.offers.take n++[bj p.offers n bk.off.dflt]:=by
   have:=jo (l:=p.offers) (i:=(n:Int)) (d:=bk.off.dflt) (by omega) (by omega);simp_all
  rw[j];rw[x8] at f g;unfold pZ at f g;simp only at f g;generalize bj p.offers n bk.off.dflt=x at*;generalize dQ p m n=s at*;split at f
  ·rename_i a;rw[if_pos a] at g;obtain⟨u,B,E⟩:=a;have c:=Ji h o v u B f;have:=w (x::L) c (by grind[bZ]);intro e;rcases γc.1 e with e|e;·simp_all
   ·rw[γ1] at e;have A:=c.nd;grind
  ·rename_i a;rw[if_neg a] at g;intro e;rcases γc.1 e with e|e;·grind
   ·rw[γ1] at e;subst e;have b:=ζB z;have k:=x4 b;simp only[bZ] at k;obtain⟨F,H,I,_⟩:=takes h o (abA b f) (by omega);simp_all
theorem taken {p:bp} (g:Good p) {m:Int} (k:0<=m) (i:m<256):∀n,n<=p.offers.length->kJ 0 n (dQ p m n).out/\bZ (cj p (dQ p m n).out)+(dQ p m n).rest=(pg p m).rest/\
  ∀L,mV p (dQ p m n).at_ L->mV p (pg p m).at_ (cj p (dQ p m n).out++L)
 |0,_=>⟨⟨by simp[dQ,pg],by simp[dQ,pg]⟩,by simp[dQ,pg,cj,bZ],λL h=>by grind[dQ,pg,cj]⟩
 |n+1,A=>by
  obtain⟨x,v,t⟩:=vO g k i n (by omega);obtain⟨f,o,s⟩:=taken g k i n (by omega);have z:=cK (d:=bk.off.dflt) (show n<p.offers.length by omega);rw[x8];unfold pZ;simp only;split
  ·rename_i c;obtain⟨u,y,w⟩:=c;have r:cj p ((dQ p m n).out++[(n:Int)])=cj p (dQ p m n).out++[bj p.offers n bk.off.dflt]:=by
    rw[rN];congr 1
   refine⟨⟨?_,λj e=>?_⟩,?_,λL B=>?_⟩
   ·rw[γY];refine⟨f.1,by simp,λa q b l=>?_⟩;rw[γ1] at l;have:=f.2 a q;omega
   ·rcases γc.1 e with e|e;·have:=f.2 j e;omega
    grind
   ·simp only;rw[r,o8];grind[bZ]
   grind[Ji]
  ·exact⟨⟨f.1,λj e=>by have:=f.2 j e;omega⟩,o,s⟩
theorem abB {p:bp} (hc:bC p=0) {m:Int} (h0:0<=m) (h1:m<256):(dQ p m p.offers.length).rest=0:=by
 have hg:=dm hc;obtain⟨k1,k2,k3⟩:=vO hg h0 h1 p.offers.length (τ _);obtain⟨L,hL,hv⟩:=RB hg k1;have:=RD hc h0 h1 p.offers.length (τ _) L hL (by omega);cases L with
 |nil=>rw[k2,<-hv];rfl;|cons x L=>
  have hx:=(hL.mem x (by simp)).1;exact absurd (by rw[ψ];exact hx) (this x (by simp))
def uu (p:bp):Nat->Nat->x7->List Int
 |0,_,_=>[]
 |k+1,n,s=>
  let x:=bj p.offers n bk.off.dflt;if j7 s.at_.members x.bD≠0/\fitsAt p s.at_ x=true/\x.value+gl p (eU p s.at_ x)=s.rest then(n:Int)::uu p k (n+1) (pZ p s n) else uu p k (n+1) (pZ p s n)
theorem RE {p:bp} {m:Int}:∀{k n:Nat},n+k=p.offers.length->(dQ p m p.offers.length).out=(dQ p m n).out++uu p k n (dQ p m n)
 |0,n,h=>by
  have:n=p.offers.length:=by omega
  subst this;simp[uu];|k+1,n,h=>by
  rw[RE (k:=k) (n:=n+1) (by omega)];simp only[uu];rw[x8];unfold pZ;simp only;split
  ·rename_i hc;simp[γe]
  ·rfl
theorem Jk {p:bp} (u:bC p=0) {m:Int} (w:0<=m) (v:m<256):∀{k n:Nat},n+k=p.offers.length->∀t:List Int,kJ n k t->mV p (dQ p m n).at_ (cj p t)->bZ (cj p t)=(dQ p m n).rest->
  ¬cmpL t (uu p k n (dQ p m n))<0
 |0,n,h,t,e,_,_=>by
  cases t<;>grind[uu,cmpL];|k+1,n,h,t,e,o,q=>by
  have l:=dm u;obtain⟨x,H,G⟩:=vO l w v n (by omega);have A:=cK (d:=bk.off.dflt) (show n<p.offers.length by omega);have B:=l.2.2.2.2 _ A;have z:=@x8 p m n;simp only[uu];rw[<-z];by_cases c:j7 (dQ p m n).at_.members (bj p.offers n bk.off.dflt).bD≠0/\fitsAt p (dQ p m n).at_ (bj p.offers n bk.off.dflt)=true/\(bj p.offers n bk.off.dflt).value+gl p (eU p (dQ p m n).at_ (bj p.offers n bk.off.dflt))=(dQ p m n).rest
  ·rw[if_pos c];have C:=(xQ l (eU p (dQ p m n).at_ (bj p.offers n bk.off.dflt))).1;cases t with
   |nil=>
    grind[cj,bZ];|cons j t=>
    have y:=e.2 j (by simp);have s:=γv.1 e.1;by_cases f:j=n
    ·subst f;have r:dQ p m (n+1)=⟨eU p (dQ p m n).at_ (bj p.offers n bk.off.dflt),(dQ p m n).rest - (bj p.offers n bk.off.dflt).value,(dQ p m n).out++[(n:Int)]⟩:=by
      simp_all[pZ]
     rw[pX,γk] at o q;simp only[bZ] at q;have D:=(RA l x o).2;have:=Jk u w v (k:=k) (n:=n+1) (by omega) t ⟨s.2,λi g=>by have a:=s.1 i g;have b:=e.2 i (by simp[g]);omega⟩ (by grind) (by grind);simp_all[cmpL]
    ·simp only[cmpL];omega
  ·rw[if_neg c];have r:dQ p m (n+1)=dQ p m n:=by simp_all[pZ]
   refine Jk u w v (k:=k) (n:=n+1) (by omega) t ⟨e.1,λi g=>?_⟩ (by grind) (by grind);have b:=e.2 i g;have:i≠n:=by
    rintro rfl;cases t with
    |nil=>simp at g;|cons j t=>
     have y:=e.2 j (by simp);have s:=γv.1 e.1;have f:j=n:=by
      grind
     subst f;rw[pX,γk] at o q;simp only[bZ] at q;obtain⟨E,F,I,_⟩:=takes l x o (by omega);grind
   omega
theorem Jl {p:bp} (hg:Good p):(0<=allM p/\allM p<2^p.classes.length)/\allM p<256:=by
 have:=qJ hg.1;unfold allM;omega
theorem abC {p:bp} (r:bC p=0):(lp p (allM p)).value=ez p/\kh p (lp p (allM p)).chosen/\bZ (cj p (lp p (allM p)).chosen)=ez p/\
  ∀t,kh p t->¬lJ ⟨t,bZ (cj p t)⟩ (lp p (allM p)):=by
 have d:=dm r;obtain⟨⟨m,L⟩,j⟩:=Jl d;have G:fA p (allM p)=0:=by simp_all[fA]
 have A:lp p (allM p)=⟨(dQ p (allM p) p.offers.length).out,gl p ⟨allM p,p.supply,p.opn⟩⟩:=by simp_all[lp]
 have g:ez p=gl p ⟨allM p,p.supply,p.opn⟩:=by simp_all[ez,ik]
 obtain⟨D,N,E⟩:=taken d m j p.offers.length (τ _);obtain⟨v,J,H⟩:=vO d m j p.offers.length (τ _);have K:=abB r m j;have z:(pg p (allM p)).rest=gl p ⟨allM p,p.supply,p.opn⟩:=rfl;have I:=bz.eL.1 v.2.2.1;have M:=bz.eL.1 v.2.2.2;have e:mV p (dQ p (allM p) p.offers.length).at_ []:=⟨by simp,by simp,by grind[bz.le_iff,dR],by grind[bz.le_iff,dR]⟩;have a:=E [] e;rw[γZ] at a;have b:=@RE p (allM p) p.offers.length 0 (by omega);have q:(dQ p (allM p) 0).out=[]:=rfl;rw[q,List.nil_append] at b;have C:kh p (dQ p (allM p) p.offers.length).out:=⟨D,a.nd,a.w,a.o⟩;have F:bZ (cj p (dQ p (allM p) p.offers.length).out)=ez p:=by omega
 rw[A];refine⟨g.symm,C,F,λt f=>?_⟩;have c:mV p (pg p (allM p)).at_ (cj p t):=⟨f.2.1,λx B=>by
  have u:=vK d (xZ f.1) x B;have y:=d.2.2.2.2 x u;exact⟨u,I1 d y.1 y.2.1⟩,f.2.2.1,f.2.2.2⟩;have i:=Jj d c;rintro(h|⟨s,l⟩)
 ·have h:gl p ⟨allM p,p.supply,p.opn⟩<bZ (cj p t):=h;have i:bZ (cj p t)<=gl p ⟨allM p,p.supply,p.opn⟩:=i;omega
 ·have s:bZ (cj p t)=gl p ⟨allM p,p.supply,p.opn⟩:=s;have l:cmpL t (dQ p (allM p) p.offers.length).out<0:=l;rw[b] at l;exact Jk r m j (k:=p.offers.length) (n:=0) (by omega) t (by simpa using f.1) c s l
def phi (k j:Int):Int:=if k<=j then j+1 else j
def vP (p:bp) (k:Int):Alloc:=if mf p k=0 then⟨(lp (eI p k) (allM p)).chosen.map (phi k),(lp (eI p k) (allM p)).value⟩ else⟨[],0⟩
theorem abD {p:bp} (hg:Good p) {b x:Int} (h0:0<=b) (h1:b<p.classes.length) (h:x∈eM (ie (allM p) b)):x≠b:=by
 obtain⟨⟨m0,m1⟩,m2⟩:=Jl hg;have h8:=hg.1;have hb:=(Jh.1 (I1 hg h0 h1)).2;have hd:=(xO m0 m2 h0 (by omega)).2 hb;rw[hd.2.2] at h;simpa using(γu.1 h).2
theorem abE {p:bp} (h:bC p=0) {b:Int} (j:0<=b) (m:b<p.classes.length):ez (qP p b)=ik p (ie (allM p) b):=by
 have c:=dm h;have i:bC (qP p b)=0:=Rn h;obtain⟨t,s⟩:=Rf c j m;have d:∀x,x∈(qP p b).offers↔x∈p.offers/\x.bD≠b:=λx=>by
  show x∈p.offers.filter _↔_;simp_all
 have k:=I2 h t s;have u:ez (qP p b)<=ik p (ie (allM p) b):=by
  obtain⟨L,a,q,e⟩:=D7 i;have e:bZ L=ez (qP p b):=e;rw[<-e,k];refine xX c ⟨a.1,λx f=>?_,a.2.1,a.2.2⟩;have g:=(d x).1 (q x f);have n:=c.2.2.2.2 x g.1;grind[abm]
 have r:ik p (ie (allM p) b)<=ez (qP p b):=by
  have v:=bz.eL.1 c.2.2.1;have y:=bz.eL.1 c.2.2.2.1;obtain⟨L,a,e⟩:=xY c (DU (ie (allM p) b)) (l:=p.supply) (o:=p.opn) (by grind[bz.le_iff,bz.zero]) (by grind[bz.le_iff,bz.zero]);rw[k,<-e];exact Ad i (p:=qP p b) (L:=L) ⟨a.nd,a.w,a.o⟩ λx f=>(d x).2 ⟨(a.mem x f).1,abD c j m (a.mem x f).2⟩
 omega
def rP (p:bp) (b:Int):Bool:=if bC p≠0 then false else if b<0\/(p.classes.length:Int)<=b then false else decide (ik p (ie (allM p) b)<ez p)
def uv (p:bp) (b:Int):Int:=if bC p≠0 then bC p else if b<0\/(p.classes.length:Int)<=b then 6 else 0
def Jm:bL:=⟨39,bp×Int,.cons cY (.one (dV .i64)),λ_=>True,λa=> .bH [.sb (rP a.1 a.2),.si .i64 (uv a.1 a.2)]⟩
theorem h33:Holds Tryz.prog Jm:=by
 refine cF (L:=[pU,zY,zR,D3]) Jm lk (by simpa using⟨h79,h76,h80,h81⟩) ?_;rintro⟨p,b⟩ _;refine bN (let a:=δo false;let c:=SV.bH;let d:=Θ .i64;let e:=(0:Int);let h:=decide (bC p≠e);let f:=c [γD (rP p b),d (uv p b)];let i:=decide (b<e);let j:=decide ((↑p.classes.length:Int)<=b);let k:=(1:Int)*(2:Int)^b.toNat;let g:=eJ.pN .i64 (allM p) k;let l:=decide (fA p g=e);let m:=[d (fA p g)];True/\(h=true->(c [a,d (bC p)]).same f)/\(h=false->(i=true->(c [a,γp .i64 6]).same f)/\(i=false->(j=true->(c [a,γp .i64 6]).same f)/\(j=false->p.classes.length<=8/\e<=b/\b<=(64:Int)/\bV .i64 k/\True/\(l=true->p.classes.length<=8/\(c (γD (decide (ik p g<ez p))::m)).same f)/\(l=false->(c (a::m)).same f))))) (by kernel_rfl) ?_;simp only[vcs];refine⟨λh=>by simp[rP,uv,h],λh=>⟨λhb=>by simp[rP,uv,h,hb],λhb=>⟨λhn=>by simp[rP,uv,h,hn],λhn=>?_⟩⟩⟩;have hc:bC p=0:=ω.1 h;have hg:=dm hc;have h8:=hg.1;have hd:eJ.pN .i64 (allM p) (1*2^b.toNat)=ie (allM p) b:=by rw[δG];rfl
 obtain⟨d0,d1⟩:=Rf hg (show 0<=b by omega) (show b<p.classes.length by omega);have hf:fA p (ie (allM p) b)=0:=by unfold fA;rw[if_neg (by simp[hc]),if_neg (by omega)]
 have h2:(2:Int)^b.toNat<=2^8:=by
  have:=Nat.pow_le_pow_right (n:=2) (by decide) (show b.toNat<=8 by omega);exact_mod_cast this
 have h3:(0:Int)<2^b.toNat:=by exact_mod_cast Nat.two_pow_pos b.toNat
 rw[hd];refine⟨by omega,by omega,by omega,by omega,λhz=>⟨by omega,?_⟩,λhz=>absurd hf hz⟩;rw[hf];unfold rP uv;rw[if_neg (by simp[hc]),if_neg (by omega),if_neg (by simp[hc]),if_neg (by omega)];exact⟨rfl,rfl⟩
def Jn:bL:=⟨19,bp,.one cY,λ_=>True,λp=> .sb (decide (p.classes.length<=8/\p.offers.length<=9))⟩
theorem h28:Holds Tryz.prog Jn:=by
 refine cF (L:=[]) Jn lk (by simp) ?_;intro(p:bp) _;refine bN (let a:=decide ((↑p.classes.length:Int)<=(8:Int));let b:=γD (decide (p.classes.length<=8/\p.offers.length<=9));(a=true->(γD (decide ((↑p.offers.length:Int)<=(9:Int)))).same b)/\(a=false->(δo false).same b)) (by kernel_rfl) ?_;simp only[vcs];refine⟨λh=>?_,λh=>?_⟩;·rw[decide_eq_decide];omega
 ·symm;rw[decide_eq_false_iff_not];omega
theorem D8 {p:bp} {k:Int}:∀{a:List (List Int)} {s:Int×Int},
  (s.1<=(a.foldl (ki p k) s).1/\(∀l∈a,k∉l->dH p l<=(a.foldl (ki p k) s).1)/\((a.foldl (ki p k) s).1=s.1\/∃l∈a,k∉l/\(a.foldl (ki p k) s).1=dH p l))/\
  (s.2<=(a.foldl (ki p k) s).2/\(∀l∈a,k∈l->dH p l - oo p k<=(a.foldl (ki p k) s).2)/\((a.foldl (ki p k) s).2=s.2\/∃l∈a,k∈l/\(a.foldl (ki p k) s).2=dH p l - oo p k))
 |[],s=>by simp;|l::a,s=>by
  obtain⟨⟨i,q,g⟩,j,r,f⟩:=@D8 p k a (ki p k s l);rw[γM];by_cases o:k∈l
  ·have d:(ki p k s l).1=s.1:=by simp_all[ki]
   have e:(ki p k s l).2=if s.2<dH p l - oo p k then dH p l - oo p k else s.2:=by simp_all[ki]
   rw[d] at i g;refine⟨⟨i,λm b c=>?_,?_⟩,?_,λm b c=>?_,?_⟩;·grind
   ·simp_all
   ·omega
   ·rcases γE.1 b with rfl|b;·omega
    simp_all
   ·rcases f with h|⟨m,b,h⟩
    ·rw[e] at h;by_cases n:s.2<dH p l - oo p k<;>simp_all
    grind
  ·have d:(ki p k s l).2=s.2:=by simp_all[ki]
   have e:(ki p k s l).1=if s.1<dH p l then dH p l else s.1:=by simp_all[ki]
   rw[d] at j f;refine⟨⟨?_,λm b c=>?_,?_⟩,j,λm b c=>?_,?_⟩;·omega
   ·rcases γE.1 b with rfl|b;·omega
    simp_all
   ·rcases g with h|⟨m,b,h⟩
    ·rw[e] at h;by_cases n:s.1<dH p l<;>simp_all
    grind
   all_goals grind
theorem RF {l:List Off} (hn:l.Nodup) {i j:Nat} (hi:i<l.length) (hj:j<l.length) (h:bj l i bk.off.dflt=bj l j bk.off.dflt):i=j:=by
 rw[cM hi,cM hj] at h;have hp:=List.pairwise_iff_getElem.1 hn;by_cases h1:i<j;·exact absurd h (hp i j hi hj h1)
 ·by_cases h2:j<i;·exact absurd h.symm (hp j i hj hi h2)
  ·omega
theorem RG {p:bp} {k:Int} (c:p.offers.Nodup) (d:0<=k) (e:k<p.offers.length) {x:Off}:x∈(eI p k).offers↔x∈p.offers/\x≠bj p.offers k.toNat bk.off.dflt:=by
 have b:p.offers=p.offers.take k.toNat++bj p.offers k.toNat bk.off.dflt::p.offers.drop (k+1).toNat:=by
  rw[<-sM d e,Δ]
 have a:=c;rw[b,γx] at a;obtain⟨_,g,f⟩:=a;show x∈p.offers.take k.toNat++p.offers.drop (k+1).toNat↔_;grind
theorem abG {x:Off} {a b:List Off} (h:(a++x::b).Nodup):(a++x::b).filter (λy=>decide (y≠x))=a++b:=by
 rw[γx] at h;obtain⟨_,n2,n3⟩:=h;rw[δa,δu,if_neg (by simp)];rw[δz.2 λy hy=>by simpa using n3 y hy x (by simp)];rw[δz.2 λy hy=>by
  have:=(γN.1 n2).1;have:y≠x:=λe=>this (e▸hy);simpa using this]
theorem RI {p:bp} {k:Int} (hn:p.offers.Nodup) (h0:0<=k) (h1:k<p.offers.length):eI p k=sS p (p.offers.filter λx=>decide (x≠bj p.offers k.toNat bk.off.dflt)):=by
 have hsp:p.offers=p.offers.take k.toNat++bj p.offers k.toNat bk.off.dflt::p.offers.drop (k+1).toNat:=by
  rw[<-sM h0 h1,Δ]
 have hf:=abG (hsp▸hn);rw[<-hsp] at hf;unfold eI sS;rw[hf]
theorem RJ {p:bp} {k:Int} (hc:bC p=0) (h0:0<=k) (h1:k<p.offers.length):bC (eI p k)=0:=by
 rw[RI (vN hc) h0 h1];exact Rn hc
theorem RL {p:bp} {t:List Int} {x:Off} (h:x∈cj p t):∃j∈t,bj p.offers j.toNat bk.off.dflt=x:=γg.1 h
theorem abH {p:bp} {k:Int} (a:bC p=0) (n:0<=k) (g:k<p.offers.length):ez (eI p k)=((pe p).foldl (ki p k) (0,0)).1:=by
 have r:=vN a;have h:=RJ a n g;have y:=dm a;obtain⟨⟨D,F,z⟩,_⟩:=@D8 p k (pe p) (0,0);have A:∀l∈pe p,k∉l->dH p l<=ez (eI p k):=by
  intro l q d;have e:=(uq a).1 q;rw[sT a e];refine Ad h (p:=eI p k) (L:=cj p l) e.2 λx b=>?_;obtain⟨j,w,rfl⟩:=RL b;have v:=e.1.2 j w;grind[RG,cK,RF]
 have B:ez (eI p k)<=((pe p).foldl (ki p k) (0,0)).1:=by
  obtain⟨L,u,s,m⟩:=D7 h;have m:bZ L=ez (eI p k):=m;have c:∀x∈L,x∈p.offers/\x≠bj p.offers k.toNat bk.off.dflt:=λx b=>(RG r n g).1 (s x b);obtain⟨t,C,o⟩:=Rt a (L:=L) u λx b=>(c x b).1;have d:k∉t:=λd=>(c _ (o.mem_iff.1 (δ3 (f:=λi:Int=>bj p.offers i.toNat bk.off.dflt) d))).2 rfl;grind[uq,sT,x4]
 have E:=Aa (eI p k);grind
theorem Jo {b:bz}:b.ok=true↔∀j,j<6->0<=b.at j/\b.at j<=4:=by
 rw[bz.eL];constructor
 ·intro h j g;have:j=0\/j=1\/j=2\/j=3\/j=4\/j=5:=by omega
  grind[bz.at,I5,I6]
 ·intro h;have i:=h 0 (by omega);have a:=h 1 (by omega);have c:=h 2 (by omega);have e:=h 3 (by omega);have f:=h 4 (by omega);have d:=h 5 (by omega);grind[bz.at,I5,I6]
theorem D9 {p:bp} {x:Off} {j:Nat} (hj:j<6):(ln p x 6).at j=p.supply.at j - x.want.at j:=by
 have:j=0\/j=1\/j=2\/j=3\/j=4\/j=5:=by omega
 rcases this with rfl|rfl|rfl|rfl|rfl|rfl<;>rfl
theorem Jp {p:bp} {x:Off} {j:Nat} (hj:j<6):(j9 p x 6).at j=min (if p.cls.at j=0\/p.cls.at j≠0/\p.cls.at j≠gv p x then p.opn.at j - x.want.at j else p.opn.at j) (p.supply.at j - x.want.at j):=by
 have:j=0\/j=1\/j=2\/j=3\/j=4\/j=5:=by omega
 rcases this with rfl|rfl|rfl|rfl|rfl|rfl<;>rfl
theorem abI {c w cl j:Int} (h:j<6):oc c w cl j 6=if c=0\/c=cl then 0 else w:=by
 unfold oc;by_cases hh:c=0\/c=cl;·rw[if_pos ⟨h,hh⟩,if_pos hh]
 ·rw[if_neg λq=>hh q.2,if_neg hh]
theorem uw {p:bp} {x:Off} {j:Nat} (hj:j<6):(dE p x).at j=if p.cls.at j=0\/p.cls.at j=gv p x then 0 else x.want.at j:=by
 have:j=0\/j=1\/j=2\/j=3\/j=4\/j=5:=by omega
 rcases this with rfl|rfl|rfl|rfl|rfl|rfl<;>exact abI (by decide)
theorem RN {a b:bz}:a.le b=true↔∀j,j<6->a.at j<=b.at j:=⟨λh j _=>DW h j,D6⟩
theorem Ea {f:Off->Int}:∀{L:List Off},(∀y∈L,0<=f y)->0<=(L.map f).sum/\∀y∈L,f y<=(L.map f).sum
 |[],_=>by simp;|z::L,h=>by
  obtain⟨h1,h2⟩:=Ea (f:=f) (L:=L) λy hy=>h y (by simp[hy]);have hz:=h z (by simp);simp only[ι,δh];refine⟨by omega,λy hy=>?_⟩;rcases γE.1 hy with rfl|hy;·omega
  ·have:=h2 y hy;omega
theorem RO {f g:Off->Int}:∀{L:List Off},(∀y∈L,f y<=g y)->(L.map f).sum<=(L.map g).sum
 |[],_=>by simp;|z::L,h=>by
  have h1:=RO (f:=f) (g:=g) (L:=L) λy hy=>h y (by simp[hy]);have hz:=h z (by simp);simp only[ι,δh];omega
theorem RP:∀L:List Off,(L.map λ_=>(0:Int)).sum=0
 |[]=>rfl
 |_::L=>by
  have:=RP L;simp only[ι,δh];omega
theorem Af {p:bp} {L:List Off}:gC p L↔(L.map Off.bD).Nodup/\(∀j,j<6->(L.map λy=>y.want.at j).sum<=p.supply.at j)/\∀j,j<6->(L.map λy=>(dE p y).at j).sum<=p.opn.at j:=by
 unfold gC;rw[RN,RN];simp only[nE,δn,Function.comp_def]
theorem RR {p:bp} (hc:bC p=0) {j:Nat} (hj:j<6):(0<=p.cls.at j/\p.cls.at j<=4)/\0<=p.opn.at j/\p.opn.at j<=p.supply.at j/\(p.cls.at j≠0\/p.opn.at j=p.supply.at j):=by
 obtain⟨f1,f2,_⟩:=qH (qI hc).1;have:=l9.1 (f2 j hj);exact⟨⟨this.1,this.2.1⟩,this.2.2.1,this.2.2.2.1,this.2.2.2.2⟩
theorem vQ {p:bp} (hc:bC p=0) {x:Off} (hx:x∈p.offers) {j:Nat} (hj:j<6):(0<=x.want.at j/\x.want.at j<=4)/\x.want.at j<=p.supply.at j/\(dE p x).at j<=p.opn.at j:=by
 have ho:=(qI hc).2 x hx;obtain⟨h1,h2,h3⟩:=xI ho;have hw:=(Dm h1).2.2.2.2;have hF:=Af.1 (Je (p:=p) (L:=[x]) (by simp) h3);have a:=hF.2.1 j hj;have b:=hF.2.2 j hj;simp only[ι,γt,δh,List.sum_nil] at a b;have:=Jo.1 hw j hj;omega
theorem RS {p:bp} {b:Int} {j:Nat}:pd p b j=true↔p.cls.at j≠0/\p.cls.at j≠bj p.classes b.toNat 0:=by
 unfold pd;rw[decide_eq_true_eq,γk]
theorem abJ {p:bp} (b:bC p=0) {x:Off} (d:x∈p.offers) {l:List Off} (o:l.length<=160):gV {kK p x with offers:=l}=0:=by
 obtain⟨g,m,n,q,h⟩:=qH (qI b).1;refine Dl ?_ ?_ ?_ h
 ·refine Jo.2 λj a=>?_;have i:=vQ b d a;have s:=Jo.1 g j a;show 0<=(ln p x 6).at j/\(ln p x 6).at j<=4;grind[D9]
 ·intro j a;refine l9.2 ?_;have r:=RR b a;have i:=vQ b d a;have e:=@Jp p x j a;have f:=@D9 p x j a;have c:=@uw p x j a;have k:bj [p.cls.a0,p.cls.a1,p.cls.a2,p.cls.a3,p.cls.a4,p.cls.a5] j 0=p.cls.at j:=rfl;show 0<=p.cls.at j/\p.cls.at j<=4/\0<=(j9 p x 6).at j/\(j9 p x 6).at j<=(ln p x 6).at j/\(p.cls.at j≠0\/(j9 p x 6).at j=(ln p x 6).at j);omega
 ·show ¬(8<p.classes.length\/160<l.length);omega
theorem RU {p:bp} (e:bC p=0) {x:Off} (m:x∈p.offers) {L:List Off} (o:∀y∈L,y∈p.offers/\y.bD≠x.bD) {l:List Off}:
  gC {kK p x with offers:=l} L↔gC p (x::L):=by
 rw[Af,Af];have n:∀y,dE {kK p x with offers:=l} y=dE p y:=λ_=>rfl;simp only[n];show(L.map Off.bD).Nodup/\(∀j,j<6->(L.map λy=>y.want.at j).sum<=(ln p x 6).at j)/\(∀j,j<6->(L.map λy=>(dE p y).at j).sum<=(j9 p x 6).at j)↔_;simp only[ι,δh,γN];have i:∀j,j<6->(0<=(L.map λy=>(dE p y).at j).sum/\(L.map λy=>(dE p y).at j).sum<=(L.map λy=>y.want.at j).sum)/\(p.cls.at j=0->(L.map λy=>(dE p y).at j).sum=0):=by
  intro j c;have g:∀y∈L,0<=(dE p y).at j/\(dE p y).at j<=y.want.at j:=λy g=>by
   have f:=(vQ e (o y g).1 c).1;grind[uw]
  refine⟨⟨(Ea λy d=>(g y d).1).1,RO λy d=>(g y d).2⟩,λr=>?_⟩;have:(L.map λy=>(dE p y).at j)=L.map λ_=>0:=List.map_congr_left λy _=>by simp_all[uw]
  grind[RP]
 constructor
 ·rintro⟨f,k,h⟩;refine⟨⟨λv=>?_,f⟩,λj c=>?_,λj c=>?_⟩;·grind
  ·grind[D9]
  ·have a:=h j c;have q:=(vQ e m c).1;rw[Jp c] at a;rw[uw c];omega
 ·rintro⟨⟨_,f⟩,k,h⟩;refine⟨f,λj c=>?_,λj c=>?_⟩;·grind[D9]
  ·have a:=h j c;have b:=k j c;obtain⟨t,u⟩:=i j c;have q:=RR e c;have s:=vQ e m c;rw[Jp c];rw[uw c] at a;omega
theorem abK {p:bp} (i:bC p=0) {x:Off} {l:List Off} {L:List Off} (h:∀y∈L,y∈p.offers) (m:gC {kK p x with offers:=l} L) {y:Off} (g:y∈L):lI (kK p x) y=true:=by
 refine zZ.2 λj d=>?_;obtain⟨_,n,k⟩:=Af.1 m;have a:=(Ea (f:=λy=>y.want.at j) (L:=L) λz e=>(vQ i (h z e) d).1.1).2 y g;have q:∀z∈L,0<=(dE p z).at j:=λz e=>by
  have:=(vQ i (h z e) d).1;grind[uw]
 have b:=(Ea (f:=λy=>(dE p y).at j) (L:=L) q).2 y g;refine⟨εz a (n j d),λc=>?_⟩;have c:=RS.1 c;have c:p.cls.at j≠0/\p.cls.at j≠gv p y:=c;have o:(dE p y).at j=y.want.at j:=by simp_all[uw]
 simp only[o] at b;exact εz b (k j d)
theorem abL {p:bp} (u:bC p=0) {k:Int} (L:0<=k) (q:k<p.offers.length):bC (jL p k)=0:=by
 have F:bj p.offers k.toNat bk.off.dflt∈p.offers:=cK (by omega);show bC {kK p (bj p.offers k.toNat bk.off.dflt) with offers:=i7 p (bj p.offers k.toNat bk.off.dflt) p.offers.length}=0;generalize bj p.offers k.toNat bk.off.dflt=x at*;have A:=dm u;have n:i7 p x p.offers.length=p.offers.filter λy=>decide (y.bD≠x.bD)&&lI (kK p x) y:=by grind[i7]
 have b:(i7 p x p.offers.length).length<=160:=by
  rw[n];exact Nat.le_trans (γw _ _) A.2.1
 have d:=abJ u F b;have g:∀(l:List Off) (s t:List mO),fH p s l=0->(∀y∈l,y∈p.offers)->(∀m∈t,m∈s)->fH {kK p x with offers:=i7 p x p.offers.length} t (l.filter λy=>decide (y.bD≠x.bD)&&lI (kK p x) y)=0:=by
  intro l;induction l with
  |nil=>intro _ _ _ _ _;rfl;|cons o r K=>
   intro s t h w E;simp only[fH] at h;split at h;·omega
   ·split at h;·cases h
    ·rename_i q D;have I:o.key∉t:=λw=>D (E _ w);rw[δu];split
     ·rename_i a;simp only[ζ,decide_eq_true_eq] at a;obtain⟨B,M,H⟩:=xI (ω.1 q);have J:iW {kK p x with offers:=i7 p x p.offers.length} o=0:=by
       have e:fV {kK p x with offers:=i7 p x p.offers.length} [o]=true:=by
        refine I0 (Af.2 ⟨by simp,λj c=>?_,λj c=>?_⟩);·simpa using(zZ.1 a.2 j c).1
        ·simp only[ι,γt,δh,List.sum_nil];show(dE p o).at j+0<=(j9 p x 6).at j;rw[uw c];have f:=l9.1 ((qH d).2.1 j c);have v:0<=(j9 p x 6).at j:=f.2.2.1;split;·omega
         ·rename_i z;have:=(zZ.1 a.2 j c).2 (RS.2 (show p.cls.at j≠0/\p.cls.at j≠gv p o by omega));have this:o.want.at j<=(j9 p x 6).at j:=this;omega
       have C:j5 (kK p x).classes.length o=0:=B;simp_all[iW]
      unfold fH;grind
     grind
 have i:fH p [] p.offers=0:=by
  grind[bC]
 have G:=g p.offers [] [] i (λ_ h=>h) (by simp);simp_all[bC]
theorem abM {p:bp} {k:Int} (d:bC p=0) (M:0<=k) (C:k<p.offers.length):ez (jL p k)=((pe p).foldl (ki p k) (0,0)).2:=by
 have K:=vN d;have B:=abL d M C;have E:=dm d;have w:bj p.offers k.toNat bk.off.dflt∈p.offers:=cK (by omega);have h:∀y,y∈(jL p k).offers↔y∈p.offers/\y.bD≠(bj p.offers k.toNat bk.off.dflt).bD/\lI (kK p (bj p.offers k.toNat bk.off.dflt)) y=true:=λy=>by
  show y∈i7 p (bj p.offers k.toNat bk.off.dflt) p.offers.length↔_;simp_all[i7]
 obtain⟨_,P,F,Q⟩:=@D8 p k (pe p) (0,0);have N:∀l∈pe p,k∈l->dH p l - oo p k<=ez (jL p k):=by
  intro l H o;have r:=(uq d).1 H;rw[sT d r];have e:bj p.offers k.toNat bk.off.dflt∈cj p l:=δ3 (f:=λi:Int=>bj p.offers i.toNat bk.off.dflt) o;have c:=ζB e;have n:=zU c r.2;have a:∀y∈(cj p l).erase (bj p.offers k.toNat bk.off.dflt),y∈p.offers/\y.bD≠(bj p.offers k.toNat bk.off.dflt).bD:=λy b=>by
   refine⟨vK E (xZ r.1) y (List.mem_of_mem_erase b),λx=>?_⟩;have:=n.1;simp_all
  have g:=(RU d w a (l:=i7 p (bj p.offers k.toNat bk.off.dflt) p.offers.length)).2 n;have:=Ad B (p:=jL p k) (L:=(cj p l).erase (bj p.offers k.toNat bk.off.dflt)) g λy b=>(h y).2 ⟨(a y b).1,(a y b).2,abK d (λz J=>(a z J).1) g b⟩;rw[x4 c];grind[bZ,oo,ez]
 have O:ez (jL p k)<=((pe p).foldl (ki p k) (0,0)).2:=by
  obtain⟨L,D,I,A⟩:=D7 B;have A:bZ L=ez (jL p k):=A;have m:=λy (b:y∈L)=>(h y).1 (I y b);have q:=(RU d w (λy b=>⟨(m y b).1,(m y b).2.1⟩) (l:=i7 p (bj p.offers k.toNat bk.off.dflt) p.offers.length)).1 D;obtain⟨t,s,v⟩:=Rt d q λy b=>by
   grind
  have o:k∈t:=by
   obtain⟨j,u,x⟩:=RL (v.mem_iff.2 (List.mem_cons_self ..));have G:=s.1.2 j u;have:=RF K (by omega) (by omega) x;rw[show k=j by omega];exact u
  have:=F t ((uq d).2 s) o;rw[sT d s,x4 v] at this;grind[bZ,oo]
 have R:=Aa (jL p k);grind
def Jq:bL:=⟨48,bp×Int,.cons cY (.one (dV .i64)),λ_=>True,λa=> .bH [lC.put (vP a.1 a.2),.si .i64 (mf a.1 a.2)]⟩
def kL (a:bp×Int):Alloc:=lp (eI a.1 a.2) (allM (eI a.1 a.2))
def mW (a:bp×Int) (i:Nat):List Int:=((kL a).chosen.take i).map (phi a.2)++(kL a).chosen.drop i
def abN (a:bp×Int):Nat->cB
 |9=> .inv Int (λi=>⟨[(1,.si .i64 a.2),(4,.ptr 1 0 2),(8,.ptr 3 0 2),(36,.ow 4 (mW a i.toNat).length 1),(37,.si .i64 (kL a).chosen.length),(38,.si .i64 i)],
   [.cells a.1.ss 27 20 false,.cells [.sc (.slice none 0 0),.il .i64 0] 41 2 false,.cells (eI a.1 a.2).ss 81 20 false,.cells [.ow 4 (mW a i.toNat).length 1,.si .i64 (kL a).value] 41 2 false,.row (.i .i64) (mW a i.toNat) 3 false]⟩) (λs=>iS s 38)
  (λi=>0<=i/\i<=(kL a).chosen.length) (λi=>((kL a).chosen.length - i).toNat) λ_ _=> .look
 |_=> .look
theorem Eb {a:bp×Int} {i:Nat}:(mW a i).length=(kL a).chosen.length:=by simp[mW];omega
theorem abO {a:bp×Int}:mW a 0=(kL a).chosen:=by simp[mW]
theorem abP {a:bp×Int} {i:Nat} (h:i=(kL a).chosen.length):mW a i=(kL a).chosen.map (phi a.2):=by subst h;simp[mW]
theorem set_mid {α:Type} {a b:List α} {x y:α}:(a++x::b).set a.length y=a++y::b:=by simp
theorem set_self {l:List Int} {i:Nat} (h:i<l.length):l.set i (bj l i 0)=l:=by rw[cM h];exact List.set_getElem_self h
theorem abQ {a:bp×Int} {i:Nat} (h:i<(kL a).chosen.length):bj (mW a i) i 0=bj (kL a).chosen i 0/\
  mW a (i+1)=(mW a i).set i (phi a.2 (bj (kL a).chosen i 0)):=by
 unfold mW bj;generalize (kL a).chosen=c at*;have d:((c.take i).map (phi a.2)).length=i:=by simp;omega
 have b:c.drop i=c[i]::c.drop (i+1):=List.drop_eq_getElem_cons h;grind[set_mid]
theorem h30:Holds Tryz.prog Jq:=by
 refine con (L:=[D4,DY,zY]) (W:=fU [Jf]) Jq abN (lg (by simpa using h75)) (by simpa using⟨h73,h74,h76⟩) ?_;rintro⟨p,k⟩ _;refine bN (let a:=Θ .i64;let b:=(0:Int);let c:=bq.cells;let d:=bq.row;let e:=Φ;let f:=SV.bH;let g:=(1:Int);let h:=γ6;let j:=γC;let m:=bk.i .i64;let C:=decide (mf p k≠b);let q:=γp .i64 0;let D:=j [e m [],q];let E:=[a (mf p k)];let A:=f (j [e m (vP p k).chosen,a (vP p k).value]::E);let F:=a 0;let r:=γS 1 0 2;let s:=γS 3 0 2;let t:=lp (eI p k) (allM (eI p k));let G:=h 4 t.chosen.length 1;let H:=mW (p,k) 0;let I:=h 4 H.length 1;let n:=(↑(kL (p,k)).chosen.length:Int);let B:=a n;let v:=c [SV.sc (Value.slice none 0 0),q] 41 2 false;let w:=[a (kL (p,k)).value];let y:=λ(u:bp) (u_1:Nat) ↦let J:=c [a u.supply.a0,a u.supply.a1,a u.supply.a2,a u.supply.a3,a u.supply.a4,a u.supply.a5,a u.opn.a0,a u.opn.a1,a u.opn.a2,a u.opn.a3,a u.opn.a4,a u.opn.a5,a u.cls.a0,a u.cls.a1,a u.cls.a2,a u.cls.a3,a u.cls.a4,a u.cls.a5,e m u.classes,e bk.off u.offers] u_1 20 false;J.same J;True/\(C=true->(f (D::E)).same A)/\(C=false->(p.offers.length<=160/\b<=k/\k<(↑p.offers.length:Int))/\(eI p k).classes.length<=8/\fA (eI p k) (allM (eI p k))=b/\(false=true->(f [D,F]).same A)/\(false=false->((((a k).same (a k)/\r.same r/\s.same s/\G.same I/\(a (↑t.chosen.length:Int)).same B/\q.same F/\True)/\y p 27/\v.same v/\y (eI p k) 81/\(c [G,a t.value] 41 2 false).same (c (I::w) 41 2 false)/\(d m t.chosen 3 false).same (d m H 3 false)/\True)/\b<=b/\b<=n)/\∀(x:Int),let l:=mW (p,k) x.toNat;let K:=h 4 l.length 1;let o:=x+g;let L:=mW (p,k) o.toNat;let M:=h 4 L.length 1;let N:=a o;let z:=bj l x.toNat b;let P:=(a k).same (a k)/\r.same r/\s.same s/\K.same M/\B.same B/\N.same N/\True;let O:=λ(u:List Int) ↦bV .i64 o/\(P/\y p 27/\v.same v/\y (eI p k) 81/\(c (K::w) 41 2 false).same (c (M::w) 41 2 false)/\(d m u 3 false).same (d m L 3 false)/\True)/\(b<=o/\o<=n)/\(n - o).toNat<(n - x).toNat;b<=x/\x<=n->(decide (x<n)=true->l.length=l.length/\b<=x/\x<(↑l.length:Int)/\l.length=l.length/\x.toNat<l.length/\(decide (k<=z)=true->bV .i64 (z+g)/\l.length=l.length/\b<=x/\x<(↑l.length:Int)/\l.length=l.length/\x.toNat<l.length/\O (l.set x.toNat (z+g)))/\(decide (k<=z)=false->O l))/\(decide (x<n)=false->l.length=l.length/\(f [j (e m l::w),q]).same A)))) (by kernel_rfl) ?_;simp only[vcs];have zal:∀{a:Alloc},a=⟨[],0⟩->(γC [.row (.i .i64) [],.il .i64 0]).same (γC [.row (.i .i64) a.chosen,.si .i64 a.value]):=by rintro _ rfl;rfl
 refine⟨λh=>zal (by unfold vP;rw[if_neg h]),λh=>?_⟩;have hz:mf p k=0:=ω.1 h;obtain⟨hc,k0,k1⟩:=Rj hz;have hg:=dm hc;have h160:=hg.2.1;have h8:=hg.1;have hcq:=RJ hc k0 k1;have Jr:=dm hcq;obtain⟨⟨m0,m1⟩,m2⟩:=Jl Jr;have hf:fA (eI p k) (allM (eI p k))=0:=by unfold fA;rw[if_neg (by simp[hcq]),if_neg (by omega)]
 obtain⟨b1,b2,b3,b4⟩:=abC hcq;have hlen:=abv hcq ((uq hcq).2 b2);have hb:lp (eI p k) (allM (eI p k))=kL (p,k):=rfl;rw[hb] at b1 b2 b3 b4 hlen ⊢;have ag5:=Jr.2.1;have Js:∀{a b:Nat} {v:Int},a=b->(bq.cells [.ow 4 a 1,.si .i64 v] 41 2 false).same (bq.cells [.ow 4 b 1,.si .i64 v] 41 2 false):=by rintro _ _ _ rfl;rfl
 have hrow:∀{a b:List Int},a=b->(bq.row (.i .i64) a 3 false).same (bq.row (.i .i64) b 3 false):=by rintro _ _ rfl;rfl
 have how:∀{a b:Nat},a=b->(γ6 4 a 1).same (γ6 4 b 1):=by rintro _ _ rfl;rfl
 refine⟨⟨h160,k0,k1⟩,Jr.1,hf,λh=>absurd h (by decide),λ_=>⟨⟨⟨⟨how Eb.symm,rfl⟩,Js Eb.symm,hrow abO.symm⟩,by omega,by omega⟩,?_⟩⟩;rintro i ⟨i0,i1⟩;refine⟨λkg=>?_,λme=>?_⟩
 ·obtain⟨n1,n2⟩:=abQ (a:=(p,k)) (i:=i.toNat) (by omega);have hm:=b2.1.2 _ (cK (d:=(0:Int)) (show i.toNat<(kL (p,k)).chosen.length by omega));have hl:=@Eb (p,k) i.toNat;have hl2:=@Eb (p,k) (i+1).toNat;rw[show i.toNat+1=(i+1).toNat by omega] at n2;rw[n1];generalize bj (kL (p,k)).chosen i.toNat 0=x at*;refine⟨i0,by omega,by omega,λhx=>⟨by omega,i0,by omega,by omega,by omega,⟨how (by omega),Js (by omega),hrow ?_⟩,by omega,by omega⟩,λhx=>⟨by omega,⟨how (by omega),Js (by omega),hrow ?_⟩,by omega,by omega⟩⟩;·rw[n2];unfold phi;rw[if_pos hx]
  ·rw[n2];unfold phi;rw[if_neg hx,<-n1,set_self (by omega)]
 ·have hi:i.toNat=(kL (p,k)).chosen.length:=by omega
  rw[abP hi,hz];unfold vP;rw[if_pos hz];exact⟨rfl,rfl⟩
def Jt:bL:=⟨47,Unit,.nil,λ_=>True,λ_=>cY.put three⟩
theorem h72:Holds Tryz.prog Jt:=by
 refine cF (L:=[]) Jt lk (by simp) ?_;intro _ _;refine bN (let a:=Θ .i64;let b:=(0:Int);let c:=(1:Int);let d:=Φ;let g:=γp .i64 1;let e:=γp .i64 0;let f:=three.supply;(γC [g,g,e,e,e,e,g,g,e,e,e,e,e,e,e,e,e,e,d (bk.i .i64) [b,b,b],d bk.off [Off.mk b (bz.mk c c b b b b) (10:Int),Off.mk c (bz.mk c b b b b b) (6:Int),Off.mk (2:Int) (bz.mk b c b b b b) (6:Int)]]).same (γC [a f.a0,a f.a1,a f.a2,a f.a3,a f.a4,a f.a5,a three.opn.a0,a three.opn.a1,a three.opn.a2,a three.opn.a3,a three.opn.a4,a three.opn.a5,a three.cls.a0,a three.cls.a1,a three.cls.a2,a three.cls.a3,a three.cls.a4,a three.cls.a5,d (bk.i .i64) three.classes,d bk.off three.offers])) (by kernel_rfl) ?_;conv=>zeta
 rfl
def Q6:List bL:=[Jt,D5,Jq,Jm,r32]
theorem hQ6:∀c∈Q6,Holds Tryz.prog c:=by
 simp only[Q6,γq,γ3,false_implies,implies_true,and_true];exact⟨h72,h37,h30,h33,h32⟩
def Ju:bL:=⟨20,Unit,.nil,λ_=>True,λ_=> .sb true⟩
theorem h29:Holds Tryz.prog Ju:=by
 refine cF (L:=Q6) Ju lk hQ6 ?_;intro _ _;refine bN (let a:=δo false;let b:=γD;let c:=(0:Int);let d:=(3:Int);let e:=(1:Int);let z0:Nat:=(rO three).length;let f:=!rP three c;True/\True/\True/\True/\True/\True/\True/\True/\(true=true->(true=true->c<=c/\c<d/\0<z0/\(true=true->c<=e/\e<d/\1<z0/\(true=true->c<=(2:Int)/\(2:Int)<d/\2<z0/\(true=true->(true=true->(true=true->((vP three c).chosen.length<=1000000000000/\2<=1000000000000)/\(true=true->(true=true->(f=true->(true=true->(b (rP three e)).same (b true))/\(true=false->(a).same (b true)))/\(f=false->(a).same (b true)))/\(true=false->(a).same (b true)))/\(true=false->(a).same (b true)))/\(true=false->(a).same (b true)))/\(true=false->(a).same (b true)))/\(true=false->(a).same (b true)))/\(true=false->(a).same (b true)))/\(true=false->(a).same (b true)))/\(true=false->(a).same (b true)))/\(true=false->(a).same (b true))) (by kernel_rfl) ?_;simp only[vcs];have e1:rO three=[12,4,4]:=by kernel_rfl
 have e2:vP three 0=⟨[1,2],12⟩:=by kernel_rfl
 have e3:bC three=0:=by kernel_rfl
 have e4:mf three 0=0:=by kernel_rfl
 have e5:rP three 0=false:=by kernel_rfl
 have e6:rP three 1=true:=by kernel_rfl
 have e7:uv three 0=0:=by kernel_rfl
 have e8:uv three 1=0:=by kernel_rfl
 simp[e1,e2,e3,e4,e5,e6,e7,e8]
def oq (a:List Int):Nat->Nat
 |0=>0
 |n+1=>if bj a n 0=0 then oq a n else n+1
def bI (a:List Int):List Int:=a.take (oq a a.length)
def rQ:bL:=⟨195,List Int,.one (dW (.i .u32)),λa=>a.length<=1000000000000,λa=> .row (.i .u32) (bI a)⟩
def abT (a:List Int):Nat->cB
 |2=> .inv Int (λn=>⟨[(0,.row (.i .u32) a),(3,.si .i64 n)],[]⟩) (λs=>iS s 3) (λn=>0<=n/\n<=a.length/\oq a n.toNat=oq a a.length) (λn=>n.toNat) λ_ _=> .look
 |_=> .look
theorem h152:Holds Tryz.prog rQ:=by
 refine cF (L:=[]) rQ abT (by simp) ?_;intro(a:List Int) (h:a.length<=1000000000000);refine bN (let e:=(0:Int);let f:=Φ;let c:=bk.i .u32;let d:=(↑a.length:Int);let l:=Θ .i64 d;let g:=(↑a.length:Int);let j:=oq a a.length;((((f c a).same (f c a)/\l.same l/\True)/\True)/\e<=d/\d<=g/\oq a d.toNat=j)/\∀(x:Int),let r:=decide (e<x);let b:=x - (1:Int);let o:=decide (bj a b.toNat e=e);let k:=Θ .i64 b;e<=x/\x<=g/\oq a x.toNat=j->(r=true->bV .i64 b/\e<=b/\b<d/\b.toNat<a.length/\(o=true->bV .i64 b/\(((f c a).same (f c a)/\k.same k/\True)/\True)/\(e<=b/\b<=g/\oq a b.toNat=j)/\b.toNat<x.toNat)/\(o=false->e<=x/\e<=x/\0<=x.toNat/\x.toNat<=x.toNat/\x.toNat<=a.length/\(f c (γa (x.toNat - 0) a)).same (f c (bI a))))/\(r=false->e<=x/\e<=x/\0<=x.toNat/\x.toNat<=x.toNat/\x.toNat<=a.length/\(f c (γa (x.toNat - 0) a)).same (f c (bI a)))) (by kernel_rfl) ?_;simp only[vcs];refine⟨⟨by omega,by omega,by simp⟩,?_⟩;rintro n ⟨f,t,q⟩;have e:(n.toNat=0\/0<n.toNat/\¬bj a (n.toNat - 1) 0=0)->γa (n.toNat - 0) a=bI a:=λh=>by
  unfold bI;rw[<-q];congr 1;rcases h with h|h;·rw[h];rfl
  ·obtain⟨v,h⟩:=h;obtain⟨m,u⟩:∃m,n.toNat=m+1:=⟨n.toNat - 1,by omega⟩;simp_all[oq]
 refine⟨λs=>⟨by omega,by omega,by omega,by omega,λp=>⟨by omega,⟨by omega,by omega,?_⟩,by omega⟩,λp=>⟨f,f,by omega,by omega,by omega,?_⟩⟩,λs=>⟨f,f,by omega,by omega,by omega,e (.inl (by omega))⟩⟩
 ·rw[<-q,show n.toNat=(n - 1).toNat+1 by omega];rw[oq,if_pos p]
 simp_all
def bn:List Int->Int
 |[]=>0
 |d::l=>d+4294967296*bn l
def bA (a:List Int):Prop:=∀d∈a,0<=d/\d<4294967296
def fJ:List Int->Prop
 |[]=>True
 |d::l=>(l=[]->d≠0)/\fJ l
theorem ja {d:Int} {l:List Int}:bA (d::l)↔(0<=d/\d<4294967296)/\bA l:=by simp[bA]
theorem nG {a:List Int} (h:bA a) (n:Nat):bA (a.take n):=λd b=>h d (List.mem_of_mem_take b)
theorem fa:∀{a:List Int},bA a->0<=bn a
 |[],_=>Int.le_refl _
 |d::l,h=>by
  obtain⟨c,b⟩:=ja.1 h;have:=fa b;grind[bn]
theorem val_zero:∀{a:List Int},bA a->fJ a->bn a=0->a=[]
 |[],_,_,_=>rfl
 |d::l,h,b,f=>by
  obtain⟨g,c⟩:=ja.1 h;have:=fa c;simp only[bn] at f;have e:=val_zero c b.2 (by omega);have:=b.1 e;omega
theorem val_inj:∀{a b:List Int},bA a->bA b->fJ a->fJ b->bn a=bn b->a=b
 |[],b,_,i,_,c,h=>(val_zero i c h.symm).symm
 |d::l,[],f,_,g,_,h=>val_zero f g h
 |d::l,e::m,f,i,g,c,h=>by
  obtain⟨p,j⟩:=ja.1 f;obtain⟨s,k⟩:=ja.1 i;have r:=fa j;have q:=fa k;simp only[bn] at h;have n:d=e:=by omega
  have o:bn l=bn m:=by omega
  rw[n,val_inj j k g.2 c.2 o]
theorem x9:∀{a:List Int} {x:Int},bn (a++[x])=bn a+4294967296^a.length*x
 |[],x=>by simp[bn];|d::l,x=>by
  simp only[List.cons_append,bn,x9,γB,γP,Int.mul_add];grind
theorem Jv:∀{a:List Int} {x:Int},x≠0->fJ (a++[x])
 |[],x,h=>⟨λ_=>h,trivial⟩
 |d::l,x,h=>⟨λb=>by simp at b,Jv h⟩
theorem Ec {a:List Int} {n:Nat} (h:n<a.length):a.take (n+1)=a.take n++[bj a n 0]:=by
 simp_all[cM]
theorem RV {a:List Int}:∀{n:Nat},n<=a.length->bn (a.take (oq a n))=bn (a.take n)/\fJ (a.take (oq a n))
 |0,_=>by simp[oq,fJ];|n+1,h=>by
  obtain⟨d,b⟩:=@RV a n (by omega);have c:=Ec (show n<a.length by omega);unfold oq;grind[x9,Jv]
theorem rR {a:List Int}:bn (bI a)=bn a/\fJ (bI a):=by
 have:=@RV a a.length (τ _);rw[ψ] at this;exact this
theorem sU {a:List Int} (h:bA a):bA (bI a):=nG h _
theorem uy {a:List Int}:(bI a).length<=a.length:=by grind[bI]
def vR:Nat->Int->List Int
 |0,_=>[]
 |k+1,n=>if n<=0 then[] else(n % 4294967296)::vR k (n / 4294967296)
def cG (n:Int):List Int:=vR n.toNat n
theorem RX:∀{k:Nat} {n:Int},0<=n->n.toNat<=k->bn (vR k n)=n/\bA (vR k n)/\fJ (vR k n)
 |0,n,b,h=>by
  have:n=0:=by omega
  subst this;exact⟨rfl,by simp[vR,bA],trivial⟩;|k+1,n,b,h=>by
  unfold vR;split
  ·have:n=0:=by omega
   subst this;exact⟨rfl,by simp[bA],trivial⟩
  ·obtain⟨d,a,c⟩:=@RX k (n / 4294967296) (by omega) (by omega);refine⟨by grind[bn],ja.2 ⟨by omega,a⟩,λe f=>?_,c⟩;grind[bn]
theorem gm {n:Int} (h:0<=n):bn (cG n)=n/\bA (cG n)/\fJ (cG n):=RX h (τ _)
theorem Ag {a:List Int} (h:bA a) (b:fJ a):cG (bn a)=a:=by
 grind[gm,fa,val_inj]
theorem qN {a:List Int} (h:bA a):bI a=cG (bn a):=by
 grind[rR,Ag,sU]
theorem ot:∀{a:List Int},bA a->bn a<4294967296^a.length
 |[],_=>by simp[bn];|d::l,h=>by
  obtain⟨c,b⟩:=ja.1 h;have:=ot b;grind[bn]
def iO (s t:List Int):Nat->Int
 |0=>0
 |i+1=>(bj s i 0+iO s t i+bj t i 0) / 4294967296
def sV (s t:List Int) (i:Nat):Int:=(bj s i 0+iO s t i+bj t i 0) % 4294967296
def po (s t:List Int) (i:Nat):List Int:=(π i).map (sV s t)++ε (s.length+1 - i) 0
def big (a:List Int×List Int):List Int:=if a.1.length<a.2.length then a.2 else a.1
def mg (a:List Int×List Int):List Int:=if a.1.length<a.2.length then a.1 else a.2
def Ah:bL:=⟨192,List Int×List Int,.cons (dW (.i .u32)) (.one (dW (.i .u32))),λa=>(bA a.1/\bA a.2)/\a.1.length<=100000000000/\a.2.length<=100000000000,λa=> .row (.i .u32) (cG (bn a.1+bn a.2))⟩
def abU (a:List Int×List Int):Nat->cB
 |6=> .inv Int (λi=>⟨[(0,.row (.i .u32) (big a)),(1,.row (.i .u32) (mg a)),(5,.ow 0 (po (big a) (mg a) i.toNat).length 1),(6,.si .u64 (iO (big a) (mg a) i.toNat)),(21,.si .i64 (big a).length),(22,.si .i64 i)],[.row (.i .u32) (po (big a) (mg a) i.toNat) 235 true]⟩) (λs=>iS s 22)
  (λi=>0<=i/\i<=(big a).length) (λi=>((big a).length - i).toNat) λ_ _=> .look
 |_=> .look
theorem dX {a:List Int} (h:bA a) (i:Nat):0<=bj a i 0/\bj a i 0<4294967296:=by
 by_cases b:i<a.length;·rw[cM b];exact h _ (List.getElem_mem b)
 grind[bj]
theorem Ed {a:List Int} {i:Nat} (h:a.length<=i):bj a i 0=0:=by grind[bj]
theorem Jw {s t:List Int} (b:bA s) (a:bA t):∀i,0<=iO s t i/\iO s t i<=1
 |0=>by simp[iO];|i+1=>by
  have h:=Jw b a i;have c:=dX b i;have d:=dX a i;grind[iO]
theorem ya {s t:List Int} {i:Nat} (h:i<=s.length):(po s t i).length=s.length+1:=by grind[po]
theorem Jx {s t:List Int} {i:Nat} {v:Int} (h:i<=s.length):(po s t i).set i v=(π i).map (sV s t)++v::ε (s.length - i) 0:=by
 unfold po;have a:s.length+1 - i=(s.length - i)+1:=by omega
 rw[a,List.replicate_succ];simp_all
theorem RY {s t:List Int} {i:Nat} (h:i<s.length):po s t (i+1)=(po s t i).set i (sV s t i):=by
 rw[Jx (by omega)];unfold po;rw[δr,γd,γe];simp_all
theorem mh {a:List Int} {i:Nat}:bn (a.take (i+1))=bn (a.take i)+4294967296^i*bj a i 0:=by
 by_cases h:i<a.length;·grind[Ec,x9]
 ·rw[Ed (by omega),γh (by omega),γh (by omega)];simp
theorem Jy {s t:List Int}:∀i,bn ((π i).map (sV s t))+4294967296^i*iO s t i=bn (s.take i)+bn (t.take i)
 |0=>by simp[iO,bn];|i+1=>by
  have a:=@Jy s t i;rw[δr,γd,ι,γt,x9,mh,mh,γP];grind[sV,iO]
theorem h154:Holds Tryz.prog Ah:=by
 refine cF (L:=[rQ]) Ah abU (by simpa using h152) ?_;rintro⟨a,b⟩ ⟨⟨ha,hb⟩,hla,hlb⟩;simp only at ha hb hla hlb;refine bN (let c:=(18446744073709551616:Int);let d:=(0:Int);let e:=(4294967296:Int);let f:=Θ .i64;let g:=Φ;let h:=bq.row;let j:=γ6;let m:=(↑(big (a,b)).length:Int);let q:=(↑(big (a,b)).length:Int);let r:=(↑(mg (a,b)).length:Int);let k:=bk.i .u32;let s:=g k (big (a,b));let t:=g k (mg (a,b));let v:=f m;let z:=po (big (a,b)) (mg (a,b)) 0;let G:=∀(x:Int),let l:=po (big (a,b)) (mg (a,b)) x.toNat;let n:=l.length;let o:=x+(1:Int);let A:=po (big (a,b)) (mg (a,b)) o.toNat;let B:=f o;let C:=bj (big (a,b)) x.toNat d;let w:=iO (big (a,b)) (mg (a,b)) x.toNat;let y:=l.set q.toNat (w % e);let D:=λ(u u_1:Int) ↦let E:=(u % c+u_1) % c;d<=(32:Int)/\(32:Int)<=(64:Int)/\l.length=n/\d<=x/\x<(↑n:Int)/\l.length=n/\x.toNat<n/\bV .i64 o/\((s.same s/\t.same t/\(j 0 l.length 1).same (j 0 A.length 1)/\(Θ .u64 (E / e)).same (Θ .u64 (iO (big (a,b)) (mg (a,b)) o.toNat))/\v.same v/\B.same B/\True)/\(h k (l.set x.toNat (E % e)) 235 true).same (h k A 235 true)/\True)/\(d<=o/\o<=m)/\(m - o).toNat<(m - x).toNat;d<=x/\x<=m->(decide (x<m)=true->d<=x/\x<q/\x.toNat<(big (a,b)).length/\(decide (x<r)=true->d<=x/\x<r/\x.toNat<(mg (a,b)).length/\D (C % c+w) (bj (mg (a,b)) x.toNat d % c))/\(decide (x<r)=false->D C w))/\(decide (x<m)=false->l.length=n/\d<=q/\q<(↑n:Int)/\l.length=n/\q.toNat<n/\l.length=y.length/\y.length<=1000000000000/\(g k (bI y)).same (g k (cG (bn a+bn b))));let F:=λ(u:Bool) (u_1 u_2:List Int) ↦let p:=(↑u_1.length:Int)+(1:Int);decide ((↑a.length:Int)<(↑b.length:Int))=u->bV .i64 p/\d<=p/\p<=p/\p*(4:Int)<=(140737488355328:Int)/\p<=(1000000000000:Int)/\((((g k u_1).same s/\(g k u_2).same t/\(j 0 p.toNat 1).same (j 0 z.length 1)/\(γp .u64 0).same (Θ .u64 (iO (big (a,b)) (mg (a,b)) 0))/\(f (↑u_1.length:Int)).same v/\(γp .i64 0).same (f 0)/\True)/\(h k (d::ε u_1.length d) 235 true).same (h k z 235 true)/\True)/\d<=d/\d<=m)/\G;F true b a/\F false a b) (by kernel_rfl) ?_;simp only[vcs];have hbs:(a.length<b.length/\big (a,b)=b/\mg (a,b)=a)\/(¬a.length<b.length/\big (a,b)=a/\mg (a,b)=b):=by
  by_cases h:a.length<b.length;·exact .inl ⟨h,if_pos h,if_pos h⟩
  ·exact .inr ⟨h,if_neg h,if_neg h⟩
 generalize big (a,b)=s at*;generalize mg (a,b)=t at*;have hrow:∀{u v:List Int},u=v->(bq.row (.i .u32) u 235 true).same (bq.row (.i .u32) v 235 true):=by rintro _ _ rfl;rfl
 have how:∀{u v:Nat},u=v->(γ6 0 u 1).same (γ6 0 v 1):=by rintro _ _ rfl;rfl
 have r0:∀u v:List Int,po u v 0=0::ε u.length 0:=λu v=>rfl;refine⟨λh=>?_,λh=>?_⟩
 ·obtain⟨h1,e1,e2⟩:a.length<b.length/\s=b/\t=a:=by
   rcases hbs with h2|h2;·exact h2
   ·exact absurd (by omega) h2.1
  subst e1 e2;have hS:bA s:=by assumption
  have hT:bA t:=by assumption
  have hts:t.length<=s.length:=by omega
  have bd:=Jw hS hT;refine⟨⟨by omega,by omega⟩,by omega,by omega,by omega,by omega,⟨⟨⟨rfl,rfl,how (by rw[ya (by omega)];omega),rfl,rfl⟩,hrow (r0 s t).symm⟩,by omega,by omega⟩,?_⟩;rintro i ⟨i0,i1⟩;have l1:=@ya s t i.toNat (by omega);have b1:=bd i.toNat;have d1:=dX hS i.toNat;have d2:=dX hT i.toNat;refine⟨λkg=>?_,λme=>?_⟩
  ·have l2:=@ya s t (i.toNat+1) (by omega);have e:(i+1).toNat=i.toNat+1:=by omega
   have hst:=RY (s:=s) (t:=t) (show i.toNat<s.length by omega);refine⟨i0,kg,by omega,λht=>?_,λht=>?_⟩
   ·have hv:(((bj s i.toNat 0 % 18446744073709551616+iO s t i.toNat) % 18446744073709551616+bj t i.toNat 0 % 18446744073709551616) % 18446744073709551616)=bj s i.toNat 0+iO s t i.toNat+bj t i.toNat 0:=by omega
    rw[hv,e];exact⟨i0,ht,by omega,by omega,by omega,i0,by omega,by omega,by omega,⟨⟨how (by omega),rfl⟩,hrow hst.symm⟩,by omega,by omega⟩
   ·have hz:=Ed (a:=t) (i:=i.toNat) (by omega);have hv:((bj s i.toNat 0 % 18446744073709551616+iO s t i.toNat) % 18446744073709551616)=bj s i.toNat 0+iO s t i.toNat+bj t i.toNat 0:=by omega
    rw[hv,e];exact⟨by omega,by omega,i0,by omega,by omega,by omega,⟨⟨how (by omega),rfl⟩,hrow hst.symm⟩,by omega,by omega⟩
  ·have hi:i.toNat=s.length:=by omega
   have hc:iO s t i.toNat % 4294967296=iO s t i.toNat:=by omega
   rw[hc,γk,hi];rw[hi] at l1 b1;refine⟨by omega,by omega,by omega,by simp,by simp;omega,?_⟩;rw[Jx (τ _),Nat.sub_self,εY,qN ?_]
   ·rw[x9];have hv:=@Jy s t s.length;rw[ψ,γh hts] at hv;have hl:((π s.length).map (sV s t)).length=s.length:=by simp
    rw[hl,hv];try rw[ζw]
   ·intro d hd;rcases γc.1 hd with hd|hd
    ·obtain⟨j,_,rfl⟩:=γg.1 hd;unfold sV;omega
    ·rw[γ1] at hd;omega
 ·obtain⟨h1,e1,e2⟩:¬a.length<b.length/\s=a/\t=b:=by
   rcases hbs with h2|h2;·exact absurd h2.1 (by omega)
   ·exact h2
  subst e1 e2;have hS:bA s:=by assumption
  have hT:bA t:=by assumption
  have hts:t.length<=s.length:=by omega
  have bd:=Jw hS hT;refine⟨⟨by omega,by omega⟩,by omega,by omega,by omega,by omega,⟨⟨⟨rfl,rfl,how (by rw[ya (by omega)];omega),rfl,rfl⟩,hrow (r0 s t).symm⟩,by omega,by omega⟩,?_⟩;rintro i ⟨i0,i1⟩;have l1:=@ya s t i.toNat (by omega);have b1:=bd i.toNat;have d1:=dX hS i.toNat;have d2:=dX hT i.toNat;refine⟨λkg=>?_,λme=>?_⟩
  ·have l2:=@ya s t (i.toNat+1) (by omega);have e:(i+1).toNat=i.toNat+1:=by omega
   have hst:=RY (s:=s) (t:=t) (show i.toNat<s.length by omega);refine⟨i0,kg,by omega,λht=>?_,λht=>?_⟩
   ·have hv:(((bj s i.toNat 0 % 18446744073709551616+iO s t i.toNat) % 18446744073709551616+bj t i.toNat 0 % 18446744073709551616) % 18446744073709551616)=bj s i.toNat 0+iO s t i.toNat+bj t i.toNat 0:=by omega
    rw[hv,e];exact⟨i0,ht,by omega,by omega,by omega,i0,by omega,by omega,by omega,⟨⟨how (by omega),rfl⟩,hrow hst.symm⟩,by omega,by omega⟩
   ·have hz:=Ed (a:=t) (i:=i.toNat) (by omega);have hv:((bj s i.toNat 0 % 18446744073709551616+iO s t i.toNat) % 18446744073709551616)=bj s i.toNat 0+iO s t i.toNat+bj t i.toNat 0:=by omega
    rw[hv,e];exact⟨by omega,by omega,i0,by omega,by omega,by omega,⟨⟨how (by omega),rfl⟩,hrow hst.symm⟩,by omega,by omega⟩
  ·have hi:i.toNat=s.length:=by omega
   have hc:iO s t i.toNat % 4294967296=iO s t i.toNat:=by omega
   rw[hc,γk,hi];rw[hi] at l1 b1;refine⟨by omega,by omega,by omega,by simp,by simp;omega,?_⟩;rw[Jx (τ _),Nat.sub_self,εY,qN ?_]
   ·rw[x9];have hv:=@Jy s t s.length;rw[ψ,γh hts] at hv;have hl:((π s.length).map (sV s t)).length=s.length:=by simp
    rw[hl,hv];try rw[ζw]
   ·intro d hd;rcases γc.1 hd with hd|hd
    ·obtain⟨j,_,rfl⟩:=γg.1 hd;unfold sV;omega
    ·rw[γ1] at hd;omega
theorem yb:∀{a b:List Int},bA a->bA b->fJ b->a.length<b.length->bn a<bn b
 |[],b,_,c,f,h=>by
  have n:=fa c;grind[bn,val_zero];|d::l,[],_,_,_,h=>by simp at h;|d::l,e::m,g,c,f,h=>by
  obtain⟨k,j⟩:=ja.1 g;obtain⟨o,i⟩:=ja.1 c;simp only[γB] at h;have:=yb j i f.2 (by omega);grind[bn]
theorem Jz:∀{k:Nat} {a b:List Int},bA a->bA b->k<a.length->k<b.length->a.drop (k+1)=b.drop (k+1)->bj a k 0<bj b k 0->bn a<bn b
 |_,[],_,_,_,h,_,_,_=>by simp at h;|_,_::_,[],_,_,_,h,_,_=>by simp at h;|0,d::l,e::m,f,g,_,_,h,c=>by
  grind[bj,bn];|k+1,d::l,e::m,f,g,n,q,h,c=>by
  obtain⟨p,j⟩:=ja.1 f;obtain⟨o,i⟩:=ja.1 g;simp only[List.drop_succ_cons] at h;simp only[bj,List.getElem?_cons_succ] at c;have:=Jz (k:=k) j i (by simp_all) (by simp_all) h c;grind[bn]
theorem Ee {a:List Int} {k:Nat} (h:k<a.length):a.drop k=bj a k 0::a.drop (k+1):=by simp_all[cM]
def mj (x y:Int):Int:=if x<y then -1 else if y<x then 1 else 0
def yc:bL:=⟨159,List Int×List Int,.cons (dW (.i .u32)) (.one (dW (.i .u32))),λa=>(bA a.1/\bA a.2)/\a.1.length<=1000000000000/\a.2.length<=1000000000000,λa=> .si .i64 (mj (bn a.1) (bn a.2))⟩
def abV (a:List Int×List Int):Nat->cB
 |7=> .inv Int (λi=>⟨[(0,.row (.i .u32) (bI a.1)),(1,.row (.i .u32) (bI a.2)),(22,.si .i64 (bI a.1).length),(23,.si .i64 i)],[]⟩) (λs=>iS s 23)
  (λi=>0<=i/\i<=(bI a.1).length/\(bI a.1).drop ((bI a.1).length - i.toNat)=(bI a.2).drop ((bI a.1).length - i.toNat)) (λi=>((bI a.1).length - i).toNat) λ_ _=> .look
 |_=> .look
theorem h132:Holds Tryz.prog yc:=by
 refine cF (L:=[rQ]) yc abV (by simpa using h152) ?_;rintro⟨a,b⟩ ⟨⟨ha,hb⟩,hla,hlb⟩;simp only at ha hb hla hlb;refine bN (let c:=(0:Int);let d:=Θ .i64;let e:=γp .i64;let f:=bV .i64;let z0:Nat:=(bI a).length;let h:=(↑z0:Int);let z2:Nat:=(bI b).length;let l:=(↑z2:Int);let n:=d (mj (bn a) (bn b));let o:=Φ (bk.i .u32) (bI a);let p:=Φ (bk.i .u32) (bI b);let z7:Nat:=(bI a).length;let j:=(↑z7:Int);let s:=d j;let t:=e 0;let g:=h - (1:Int);a.length<=1000000000000/\b.length<=1000000000000/\(decide (h≠l)=true->(decide (h<l)=true->(e (-1:Int)).same n)/\(decide (h<l)=false->(e 1).same n))/\(decide (h≠l)=false->(((o.same o/\p.same p/\(d h).same s/\t.same (d 0)/\True)/\True)/\c<=c/\c<=j/\γ5 (z7 - 0) (bI a)=γ5 (z7 - 0) (bI b))/\∀(x:Int),let m:=(g - x).toNat;let q:=bj (bI a) m c;let r:=bj (bI b) m c;let k:=x+(1:Int);let u:=d k;c<=x/\x<=j/\γ5 (z7 - x.toNat) (bI a)=γ5 (z7 - x.toNat) (bI b)->(decide (x<j)=true->f g/\f (g - x)/\c<=g - x/\g - x<h/\m<z0/\c<=g - x/\g - x<l/\m<z2/\(decide (q<r)=true->(e (-1:Int)).same n)/\(decide (q<r)=false->c<=g - x/\g - x<h/\m<z0/\c<=g - x/\g - x<l/\m<z2/\(decide (r<q)=true->(e 1).same n)/\(decide (r<q)=false->f k/\((o.same o/\p.same p/\s.same s/\u.same u/\True)/\True)/\(c<=k/\k<=j/\γ5 (z7 - k.toNat) (bI a)=γ5 (z7 - k.toNat) (bI b))/\(j - k).toNat<(j - x).toNat)))/\(decide (x<j)=false->t.same n))) (by kernel_rfl) ?_;simp only[vcs];obtain⟨va,na⟩:=@rR a;obtain⟨vb,nb⟩:=@rR b;have da:=sU ha;have db:=sU hb;have la:=@uy a;rw[<-va,<-vb];generalize bI a=s at*;generalize bI b=t at*;have lt:bn s<bn t-> -1=mj (bn s) (bn t):=λh=>by unfold mj;rw[if_pos h]
 have gt:bn t<bn s->1=mj (bn s) (bn t):=λh=>by unfold mj;rw[if_neg (by omega),if_pos h]
 refine⟨hla,hlb,λhne=>⟨λh=>lt (yb da db nb (by omega)),λh=>gt (yb db da na (by omega))⟩,λhe=>⟨⟨by omega,by omega,?_⟩,?_⟩⟩;·rw[δ9 (by omega),δ9 (by omega)]
 rintro i ⟨i0,i1,hd⟩;refine⟨λhlt=>?_,λhge=>?_⟩
 ·have hk:((s.length:Int) - 1 - i).toNat=s.length - 1 - i.toNat:=by omega
  have hk2:s.length - i.toNat=s.length - 1 - i.toNat+1:=by omega
  rw[hk];rw[hk2] at hd;generalize hm:s.length - 1 - i.toNat=m at*;refine⟨by omega,by omega,by omega,by omega,by omega,by omega,by omega,by omega,λh=>lt (Jz da db (by omega) (by omega) hd h),λh=>⟨by omega,by omega,by omega,by omega,by omega,by omega,λh2=>gt (Jz db da (by omega) (by omega) hd.symm h2),λh2=>⟨by omega,⟨by omega,by omega,?_⟩,by omega⟩⟩⟩;rw[show s.length - (i+1).toNat=m by omega,Ee (show m<s.length by omega),Ee (show m<t.length by omega),hd,show bj s m 0=bj t m 0 by omega]
 ·have hz:s.length - i.toNat=0:=by omega
  rw[hz,δV,δV] at hd;subst hd;unfold mj;rw[if_neg (by omega),if_neg (by omega)]
def gX (d:Int):List Int->List Int×Int
 |[]=>([],0)
 |x::l=>(((gX d l).2*4294967296+x) / d::(gX d l).1,((gX d l).2*4294967296+x) % d)
theorem RZ {d:Int}:∀{a:List Int},(gX d a).1.length=a.length
 |[]=>rfl
 |x::l=>by simp[gX,RZ]
theorem Ef {d:Int} (e:0<d) (k:d<4294967296):∀{a:List Int},bA a->bA (gX d a).1/\(0<=(gX d a).2/\(gX d a).2<d)/\bn (gX d a).1*d+(gX d a).2=bn a
 |[],_=>by grind[gX,bn];|x::l,h=>by
  obtain⟨n,g⟩:=ja.1 h;obtain⟨j,⟨p,s⟩,o⟩:=Ef e k g;simp only[gX];generalize (gX d l).1=q at*;generalize (gX d l).2=r at*;have f:=δP (r*4294967296+x) (show d≠0 by omega);have i:=δs (r*4294967296+x) e;have c:0<=(r*4294967296+x) / d:=Int.ediv_nonneg (by omega) (by omega);have b:(r*4294967296+x) / d<4294967296:=by
   refine Int.ediv_lt_of_lt_mul e ?_;omega
  refine⟨ja.2 ⟨⟨c,b⟩,j⟩,⟨f,i⟩,?_⟩;simp only[bn];have m:=Int.mul_ediv_add_emod (r*4294967296+x) d;grind
theorem abW {d:Int} (i:0<d) (h:d<4294967296) {a:List Int} (g:bA a):bI (gX d a).1=cG (bn a / d)/\(gX d a).2=bn a % d:=by
 obtain⟨e,⟨c,b⟩,f⟩:=Ef i h g;rw[qN e];have j:=fa e;have k:bn a / d=bn (gX d a).1:=by
  rw[<-f,ζw,Int.add_mul_ediv_right _ _ (by omega),Int.ediv_eq_zero_of_lt c b,Int.zero_add]
 have l:bn a % d=(gX d a).2:=by
  rw[<-f,ζw,Int.add_mul_emod_self_right,δO c b]
 simp_all
theorem JA {r x:Int} (d:0<=r) (g:r<4294967296) (a:0<=x) (e:x<4294967296):eJ.nZ .u64 (r*4294967296) x=r*4294967296+x:=by
 obtain⟨m,rfl⟩:=δL d;obtain⟨k,rfl⟩:=δL a;have b:(γs 64 ((m:Int)*4294967296)).toNat=2^32*m:=by
  grind[BitVec.toNat_ofInt]
 have c:(γs 64 (k:Int)).toNat=k:=by
  grind
 have f:(γs 64 ((m:Int)*4294967296) |||γs 64 (k:Int)).toNat=2^32*m+k:=by
  rw[BitVec.toNat_or,b,c,Nat.two_pow_add_eq_or_of_lt (by omega)]
 show eQ .u64 ((γs 64 ((m:Int)*4294967296) |||γs 64 (k:Int)).toNat:Nat)=_;grind[tJ,IntKind.wrap,IntKind.bits,IntKind.signed]
def JB:bL:=⟨233,List Int×Int,.cons (dW (.i .u32)) (.one (dV .u32)),λa=>bA a.1/\a.1.length<=100000000000/\0<a.2/\a.2<4294967296,λa=> .bH [.row (.i .u32) (cG (bn a.1 / a.2)),.si .u32 (bn a.1 % a.2)]⟩
def mq (a:List Int) (d:Int) (i:Nat):List Int:=ε (a.length - i) 0++(gX d (a.drop (a.length - i))).1
def lK (a:List Int) (d:Int) (i:Nat):Int:=(gX d (a.drop (a.length - i))).2
def abX (a:List Int×Int):Nat->cB
 |4=> .inv Int (λi=>⟨[(0,.row (.i .u32) a.1),(1,.si .u32 a.2),(6,.ow 0 (mq a.1 a.2 i.toNat).length 1),(7,.si .u64 (lK a.1 a.2 i.toNat)),(15,.si .i64 a.1.length),(16,.si .i64 i)],[.row (.i .u32) (mq a.1 a.2 i.toNat) 235 true]⟩) (λs=>iS s 16)
  (λi=>0<=i/\i<=a.1.length) (λi=>(a.1.length - i).toNat) λ_ _=> .look
 |_=> .look
theorem JC {a:List Int} {d:Int} {i:Nat} (h:i<=a.length):(mq a d i).length=a.length:=by
 grind[mq,RZ]
theorem drop_cons {a:List Int} {k:Nat} (h:k<a.length):a.drop k=bj a k 0::a.drop (k+1):=Ee h
theorem R1 {q:List Int} {y:Int}:∀k,(ε (k+1) 0++q).set k y=ε k 0++y::q
 |0=>by simp;|k+1=>by
  have:=@R1 q y k;grind
theorem u64_in {n:Int} (b:0<=n) (a:n<18446744073709551616):bV .u64 n:=by
 show IntKind.u64.wrap n=n;grind[IntKind.wrap,IntKind.bits,IntKind.signed]
theorem h167:Holds Tryz.prog JB:=by
 refine cF (L:=[rQ]) JB abX (by simpa using h152) ?_;rintro⟨a,d⟩ ⟨ha,hla,d0,d1⟩;simp only at ha hla d0 d1;refine bN (let b:=(0:Int);let c:=(18446744073709551616:Int);let e:=(4294967296:Int);let f:=Θ .i64;let g:=Φ;let h:=bq.row;let j:=bV .i64;let k:=(1:Int);let l:=γ6;let n:=(↑a.length:Int);let o:=bk.i .u32;let q:=(↑a.length:Int);let t:=f q;let s:=d % c;b<=n/\n<=n/\n*(4:Int)<=(140737488355328:Int)/\n<=(1000000000000:Int)/\((((g o a).same (g o a)/\(Θ .u32 d).same (Θ .u32 d)/\(l 0 n.toNat 1).same (l 0 (mq a d 0).length 1)/\(γp .u64 0).same (Θ .u64 (lK a d 0))/\(f n).same t/\(γp .i64 0).same (f 0)/\True)/\(h o (ε n.toNat b) 235 true).same (h o (mq a d 0) 235 true)/\True)/\b<=b/\b<=q)/\∀(x:Int),let p:=n - k - x;let u:=eJ.nZ .u64 (lK a d x.toNat*e % c) (bj a p.toNat b % c);let m:=mq a d x.toNat;let r:=x+k;let v:=f r;b<=x/\x<=q->(decide (x<q)=true->j (n - k)/\j p/\b<=(32:Int)/\(32:Int)<=(64:Int)/\b<=p/\p<n/\p.toNat<a.length/\s≠b/\bV .u64 (u.tdiv s)/\s≠b/\m.length=m.length/\b<=p/\p<(↑m.length:Int)/\m.length=m.length/\p.toNat<m.length/\j r/\(((g o a).same (g o a)/\(Θ .u32 d).same (Θ .u32 d)/\(l 0 m.length 1).same (l 0 (mq a d r.toNat).length 1)/\(Θ .u64 (u.tmod s)).same (Θ .u64 (lK a d r.toNat))/\t.same t/\v.same v/\True)/\(h o (m.set p.toNat (u.tdiv s % e)) 235 true).same (h o (mq a d r.toNat) 235 true)/\True)/\(b<=r/\r<=q)/\(q - r).toNat<(q - x).toNat)/\(decide (x<q)=false->m.length=m.length/\m.length<=1000000000000/\(SV.bH [g o (bI m),Θ .u32 (lK a d x.toNat % e)]).same (SV.bH [g o (cG (bn a / d)),Θ .u32 (bn a % d)]))) (by kernel_rfl) ?_;simp only[vcs];have hrow:∀{u v:List Int},u=v->(bq.row (.i .u32) u 235 true).same (bq.row (.i .u32) v 235 true):=by rintro _ _ rfl;rfl
 have how:∀{u v:Nat},u=v->(γ6 0 u 1).same (γ6 0 v 1):=by rintro _ _ rfl;rfl
 have z1:mq a d 0=ε a.length 0:=by simp[mq,gX]
 have z2:lK a d 0=0:=by simp[lK,gX]
 refine⟨by omega,by omega,by omega,by omega,⟨⟨⟨how (by rw[JC (by omega)];omega),z2.symm⟩,hrow (by rw[z1,γk])⟩,by omega,by omega⟩,?_⟩;rintro i ⟨i0,i1⟩;have l1:=@JC a d i.toNat (by omega);have l2:=λh=>@JC a d (i+1).toNat h;have dd:d % 18446744073709551616=d:=by omega
 refine⟨λkg=>?_,λme=>?_⟩
 ·have hx:((a.length:Int) - 1 - i).toNat=a.length - 1 - i.toNat:=by omega
  have hk1:a.length - i.toNat=a.length - 1 - i.toNat+1:=by omega
  have hk2:a.length - (i+1).toNat=a.length - 1 - i.toNat:=by omega
  have hR:mq a d i.toNat=ε (a.length - 1 - i.toNat+1) 0++(gX d (a.drop (a.length - 1 - i.toNat+1))).1:=by unfold mq;rw[hk1]
  have hC:lK a d i.toNat=(gX d (a.drop (a.length - 1 - i.toNat+1))).2:=by unfold lK;rw[hk1]
  have hR2:mq a d (i+1).toNat=ε (a.length - 1 - i.toNat) 0++(gX d (a.drop (a.length - 1 - i.toNat))).1:=by unfold mq;rw[hk2]
  have hC2:lK a d (i+1).toNat=(gX d (a.drop (a.length - 1 - i.toNat))).2:=by unfold lK;rw[hk2]
  have hlt:a.length - 1 - i.toNat<a.length:=by omega
  rw[hx];have l3:=l2 (by omega);generalize a.length - 1 - i.toNat=k at*;have hdr:=drop_cons hlt;have hdig:bA (a.drop k):=λz hz=>ha z (γL hz);obtain⟨q1,q2,q3⟩:=Ef d0 d1 (a:=a.drop (k+1)) (λz hz=>ha z (γL hz));obtain⟨p1,p2,p3⟩:=Ef d0 d1 hdig;rw[hdr] at hR2 hC2 p1 p2;simp only[gX] at hR2 hC2 p1 p2;have hxd:=dX ha k;rw[<-hC] at hR2 hC2 p1 p2 q2;have e1:lK a d i.toNat*4294967296 % 18446744073709551616=lK a d i.toNat*4294967296:=by omega
  have e2:bj a k 0 % 18446744073709551616=bj a k 0:=by omega
  rw[e1,e2,dd,JA (by omega) (by omega) hxd.1 hxd.2];have hv0:0<=lK a d i.toNat*4294967296+bj a k 0:=by omega
  rw[Int.tdiv_eq_ediv_of_nonneg hv0,Int.tmod_eq_emod_of_nonneg hv0];have hq:=(ja.1 p1).1;have hqm:(lK a d i.toNat*4294967296+bj a k 0) / d % 4294967296=(lK a d i.toNat*4294967296+bj a k 0) / d:=δO hq.1 hq.2;rw[hqm];refine⟨by omega,by omega,by omega,by omega,by omega,by omega,by omega,by omega,u64_in hq.1 (by omega),by omega,by omega,by omega,by omega,by omega,⟨⟨how (by omega),hC2.symm⟩,hrow ?_⟩,by omega,by omega⟩;rw[hR2,hR,R1]
 ·have hi:a.length - i.toNat=0:=by omega
  have hR:mq a d i.toNat=(gX d a).1:=by unfold mq;rw[hi];simp
  have hC:lK a d i.toNat=(gX d a).2:=by unfold lK;rw[hi];simp
  obtain⟨k1,k2⟩:=abW d0 d1 ha;have hm:=δP (bn a) (show d≠0 by omega);have hl:=δs (bn a) d0;refine⟨by omega,by rw[hR,k1],?_⟩;rw[hC,k2];omega
end Go.Vi
