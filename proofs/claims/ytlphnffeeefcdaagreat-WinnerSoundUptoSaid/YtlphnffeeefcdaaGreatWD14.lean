/-
  Contracts: the first best list by search (the reference).
  Conditions: none.
-/
import Derived.Test.YtlphnffeeefcdaaGreatWD06
import Derived.Test.YtlphnffeeefcdaaGreatWD07
import Derived.Test.YtlphnffeeefcdaaGreatWD09
import Derived.Test.YtlphnffeeefcdaaGreatWD11
import Derived.Test.YtlphnffeeefcdaaGreatWD12
import Derived.Test.YtlphnffeeefcdaaGreatWD13
import Derived.Test.YtlphnffeeefcdaaGreatWD08
import Derived.Test.YtlphnffeeefcdaaGreatWD10
set_option maxRecDepth 100000
set_option maxHeartbeats 4000000
set_option linter.all false
open And renaming intro->γi
open Bool renaming eq_false_iff->γ7,false_eq_true->χ,and_eq_true->ζ,noConfusion->ζQ
open Classical renaming not_not->Ξ
open Go.Vi.SV renaming si->γe,row->Θ,ptr->γP,il->γx,agg->γQ,ia->ζW,bl->δa,sb->γw,ow->γS
open Int renaming toNat_natCast->Ψ,toNat->ζe
open IntCast renaming intCast->ι
open List renaming take->ω,length->γf,all_eq_true->κ,all_append->εT,take_length->π,length_eq_zero_iff->ζm,range->ψ,length_map->Ω,getElem_map->δB,ext_getElem->δb,length_set->τ,count_append->ζK,replicate->δ,length_replicate->γk,mem_range->γm,append_nil->γL,count_pos_iff->δS,map_append->γb,length_take->γq,foldl_append->εH
open Nat renaming le_refl->φ
open Rat renaming intCast_add->εC,add_zero->ζx
namespace Go.Vi
open Go.Proofs.YtlphnffeeefcdaaGreat.Ir
open Go.Proofs
def yI (p:bn) (c:List Int) (i:Int) (b:Alloc):Prop:=bB p=0/\(0<=i/\i<=p.offers.length)/\c.length<=i/\b.chosen.length<=160
noncomputable def om (n:Nat):bL:=⟨30,bn×List Int×Int×Alloc,.cons dE (.cons (dM (.i .i64)) (.cons (eK .i64) (.one jZ))),λa=>yI a.1 a.2.1 a.2.2.1 a.2.2.2/\dS a.1 a.2.2.1<n,
 λa=>jZ.put (kr a.1 a.2.1 a.2.2.1 a.2.2.2)⟩
noncomputable def M6 (n:Nat):List bL:=[om n,HM,Da]
noncomputable def EY (p:bn) (c:List Int) (f:Int) (b:Alloc) (dd:bZ):Nat->cC
 |5=> .inv (Int×Alloc) (λx=>⟨[(1,.row (.i .i64) c),(4,.ptr 0 0 20),(7,.ptr 1 0 2),(8,.ptr 2 0 2),(10,.si .i64 x.1)],
   [.cells p.ss 27 20 false,.cells [.row (.i .i64) x.2.chosen,.si .i64 x.2.value] 31 2 false,.cells [.sc (.slice none 0 0),.il .i64 0] 31 2 false]++dd⟩)
   (λs=>(iS s 10,aS s 1)) (λx=>f<=x.1/\x.1<=p.offers.length/\x.2.chosen.length<=160/\kr p c f b=jd p (dS p x.1) x.1 c x.2) (λx=>dS p x.1) λ_ _=> .look
 |_=> .look
theorem K0 {p:bn} (hN:p.offers.length<=160):∀{k:Nat} {i:Int} {c:List Int} {b:Alloc},c.length<=i->i+k<=p.offers.length->b.chosen.length<=160->(jd p k i c b).chosen.length<=160
 |0,_,_,_,_,_,h=>h
 |k+1,i,c,b,h1,h2,h3=>by
  simp only[jd];refine K0 hN (by omega) (by omega) ?_;split
  ·refine K0 hN (by simp;omega) (by omega) ?_;unfold pO;split;·simp;omega
   ·exact h3
  ·exact h3
theorem Ux {p:bn} (hN:p.offers.length<=160) {c:List Int} {i:Int} {b:Alloc} (h0:0<=i) (h1:i<=p.offers.length) (h2:c.length<=i) (h3:b.chosen.length<=160):(kr p c i b).chosen.length<=160:=by
 unfold kr;refine K0 hN h2 (by unfold dS;omega) ?_;unfold pO;split;·simp only;omega
 ·exact h3
theorem Uy {env:_} {x0:bq} {c:List Int} {v:Int} {n m:_} {b:Bool} {r:bZ}:aS ⟨env,x0:: .cells [.row (.i .i64) c,.si .i64 v] n m b::r⟩ 1=⟨c,v⟩:=rfl
theorem aeA (n:Nat) (p:bn) (c:List Int) (f:Int) (b:Alloc) (h:yI p c f b) (hn:dS p f<n+1) (hv:b.value<de p c):
  Vc (py (kR (M6 n) kQ.none mX mY fO) (EY p c f b [.dead,.dead]) (fG 30) ((om (n+1)).A.put (p,c,f,b)) λv=>v.same ((om (n+1)).res (p,c,f,b))):=by
 obtain⟨d,w⟩:=b;refine bO (let a:=γe .i64;let b:=Θ;let e:=bq.cells;let g:=γP;let z:=(↑p.offers.length:Int);let s:=kr p c f (Alloc.mk d w);let t:=0+c.length;let D:=c.length+1;let h:=bp.i .i64;let m:=g 0 0 20;let o:=g 1 0 2;let q:=g 2 0 2;let r:=e [a p.supply.a0,a p.supply.a1,a p.supply.a2,a p.supply.a3,a p.supply.a4,a p.supply.a5,a p.opn.a0,a p.opn.a1,a p.opn.a2,a p.opn.a3,a p.opn.a4,a p.opn.a5,a p.cls.a0,a p.cls.a1,a p.cls.a2,a p.cls.a3,a p.cls.a4,a p.cls.a5,b h p.classes,b bp.off p.offers] 27 20 false;let A:=(1,b h c);let k:=e [SV.sc (Value.slice none 0 0),γx .i64 0] 31 2 false;let B:=[bq.dead,bq.dead];let v:=a f;let E:=decide (w<de p c);let F:=∀(x:Int×Alloc),let j:=x.fst+(1:Int);let C:=a j;let G:=decide (x.fst<(↑p.offers.length:Int));let l:=c++[x.fst];let H:=decide (bW p l=(0:Int));let I:=λ(u:Alloc) ↦let J:=e [b h u.chosen,a u.value] 31 2 false;let y:=aS (cq.mk [A,(4,m),(7,o),(8,q),(10,C)] (r::J::k::B)) 1;cn .i64 j/\(((b h c).same (b h c)/\m.same m/\o.same o/\q.same q/\C.same C/\True)/\r.same r/\J.same (e [b h y.chosen,a y.value] 31 2 false)/\k.same k/\bq.dead.same bq.dead/\bq.dead.same bq.dead/\True)/\(f<=j/\j<=z/\y.chosen.length<=160/\s=jd p (dS p j) j c y)/\dS p j<dS p x.fst;f<=x.fst/\x.fst<=z/\x.snd.chosen.length<=160/\s=jd p (dS p x.fst) x.fst c x.snd->(G=true->0=0/\t*8<=140737488355328/\t<=1000000000000/\c.length=c.length/\D*8<=140737488355328/\D<=1000000000000/\l.length=l.length/\l.length<=9223372036854775807/\(H=true->l.length=l.length/\cn .i64 j/\(yI p l j x.snd/\dS p j<n)/\I (kr p l j x.snd))/\(H=false->I x.snd))/\(G=false->(γQ [b h x.snd.chosen,a x.snd.value]).same (γQ [b h s.chosen,a s.value]));let K:=r.same r;let L:=(b h c).same (b h c)/\m.same m/\o.same o/\q.same q/\v.same v/\True;let M:=λ(u:List Int) (u_1:Int) (u_2:List bq) ↦let N:=e [b h u,a u_1] 31 2 false;let O:=aS (cq.mk [A,(4,m),(7,o),(8,q),(10,v)] (r::N::k::u_2)) 1;N.same (e [b h O.chosen,a O.value] 31 2 false);let P:=λ(u:List Int) (u_1:Int) (u_2:List bq) ↦let Q:=aS (cq.mk [A,(4,m),(7,o),(8,q),(10,v)] (r::e [b h u,a u_1] 31 2 false::k::u_2)) 1;f<=f/\f<=z/\Q.chosen.length<=160/\s=jd p (dS p f) f c Q;c.length<=9223372036854775807/\(E=true->0=0/\t*8<=140737488355328/\t<=1000000000000/\c.length=c.length/\((L/\K/\M c (de p c) B/\k.same k/\bq.dead.same bq.dead/\bq.dead.same bq.dead/\True)/\P c (de p c) B)/\F)/\(E=false->((L/\K/\M d w []/\k.same k/\False)/\P d w [])/\F)) (by kernel_rfl) ?_;conv=>zeta
 obtain⟨hc,hf,hcl,hdl⟩:=h;simp only at hcl hdl hv;simp only[vcs,Uy];have hN:p.offers.length<=160:=(dN hc).2.1;have upd:kr p c f ⟨d,w⟩=jd p (dS p f) f c (if w<de p c then⟨c,de p c⟩ else⟨d,w⟩):=rfl;have round:∀x:Int×Alloc,f<=x.1/\x.1<=p.offers.length/\x.2.chosen.length<=160/\kr p c f ⟨d,w⟩=jd p (dS p x.1) x.1 c x.2->x.1<p.offers.length->
   dS p x.1=dS p (x.1+1)+1/\dS p (x.1+1)<n/\dS p (x.1+1)<dS p x.1/\(c++[x.1]).length=c.length+1/\
   kr p c f ⟨d,w⟩=jd p (dS p (x.1+1)) (x.1+1) c (if bW p (c++[x.1])=0 then kr p (c++[x.1]) (x.1+1) x.2 else x.2):=λx hx hlt=>by
  obtain⟨h1,h2,h3,h4⟩:=hx;have hl:dS p x.1=dS p (x.1+1)+1:=by unfold dS;omega
  have hlf:dS p x.1<=dS p f:=by unfold dS;omega
  refine⟨hl,by omega,by omega,by simp,?_⟩;rw[h4,hl];rfl
 have len:∀{c':List Int} {i:Int} {b:Alloc},0<=i->i<=p.offers.length->c'.length<=i->b.chosen.length<=160->(kr p c' i b).chosen.length<=160:=λh0 h1 h2 h3=>Ux hN h0 h1 h2 h3;refine⟨by omega,λh1=>⟨by omega,by omega,⟨by omega,by omega,by omega,?_⟩,?_⟩,λh1=>absurd hv h1⟩;·rw[upd,if_pos h1]
 ·rintro⟨i,⟨e,u⟩⟩ hx;obtain⟨hi0,hi1,hs,hi⟩:=id hx;simp only at hi0 hi1 hs hi;refine⟨λhlt=>?_,λhge=>?_⟩
  ·obtain⟨r1,r2,r3,r4,r5⟩:=round ⟨i,⟨e,u⟩⟩ hx hlt;simp only at r1 r2 r3 r5;have r4:(c++[i]).length=c.length+1:=r4;refine⟨by omega,by omega,by omega,by omega,by omega,λhr=>?_,λhr=>?_⟩
   ·rw[if_pos hr] at r5;exact⟨by omega,⟨⟨hc,by omega,by omega,hs⟩,r2⟩,by omega,⟨by omega,by omega,len (by omega) (by omega) (by omega) hs,r5⟩,r3⟩
   ·rw[if_neg hr] at r5;refine⟨?_,⟨?_,?_,hs,r5⟩,r3⟩<;>omega
  ·have hl:dS p i=0:=by unfold dS;omega
   rw[hl] at hi;simp only[jd] at hi;rw[hi];exact rfl
theorem aeB (n:Nat) (p:bn) (c:List Int) (f:Int) (b:Alloc) (h:yI p c f b) (hn:dS p f<n+1) (hv:¬b.value<de p c):
  Vc (py (kR (M6 n) kQ.none mX mY fO) (EY p c f b []) (fG 30) ((om (n+1)).A.put (p,c,f,b)) λv=>v.same ((om (n+1)).res (p,c,f,b))):=by
 obtain⟨d,w⟩:=b;refine bO (let a:=γe .i64;let b:=Θ;let e:=bq.cells;let g:=γP;let z:=(↑p.offers.length:Int);let s:=kr p c f (Alloc.mk d w);let t:=0+c.length;let C:=c.length+1;let h:=bp.i .i64;let m:=g 0 0 20;let o:=g 1 0 2;let q:=g 2 0 2;let r:=e [a p.supply.a0,a p.supply.a1,a p.supply.a2,a p.supply.a3,a p.supply.a4,a p.supply.a5,a p.opn.a0,a p.opn.a1,a p.opn.a2,a p.opn.a3,a p.opn.a4,a p.opn.a5,a p.cls.a0,a p.cls.a1,a p.cls.a2,a p.cls.a3,a p.cls.a4,a p.cls.a5,b h p.classes,b bp.off p.offers] 27 20 false;let A:=(1,b h c);let k:=e [SV.sc (Value.slice none 0 0),γx .i64 0] 31 2 false;let v:=a f;let D:=decide (w<de p c);let E:=[bq.dead,bq.dead];let F:=∀(x:Int×Alloc),let j:=x.fst+(1:Int);let B:=a j;let G:=decide (x.fst<(↑p.offers.length:Int));let l:=c++[x.fst];let H:=decide (bW p l=(0:Int));let I:=λ(u:Alloc) ↦let J:=e [b h u.chosen,a u.value] 31 2 false;let y:=aS (cq.mk [A,(4,m),(7,o),(8,q),(10,B)] [r,J,k]) 1;cn .i64 j/\(((b h c).same (b h c)/\m.same m/\o.same o/\q.same q/\B.same B/\True)/\r.same r/\J.same (e [b h y.chosen,a y.value] 31 2 false)/\k.same k/\True)/\(f<=j/\j<=z/\y.chosen.length<=160/\s=jd p (dS p j) j c y)/\dS p j<dS p x.fst;f<=x.fst/\x.fst<=z/\x.snd.chosen.length<=160/\s=jd p (dS p x.fst) x.fst c x.snd->(G=true->0=0/\t*8<=140737488355328/\t<=1000000000000/\c.length=c.length/\C*8<=140737488355328/\C<=1000000000000/\l.length=l.length/\l.length<=9223372036854775807/\(H=true->l.length=l.length/\cn .i64 j/\(yI p l j x.snd/\dS p j<n)/\I (kr p l j x.snd))/\(H=false->I x.snd))/\(G=false->(γQ [b h x.snd.chosen,a x.snd.value]).same (γQ [b h s.chosen,a s.value]));let K:=r.same r;let L:=(b h c).same (b h c)/\m.same m/\o.same o/\q.same q/\v.same v/\True;let M:=λ(u:List Int) (u_1:Int) (u_2:List bq) ↦let N:=e [b h u,a u_1] 31 2 false;let O:=aS (cq.mk [A,(4,m),(7,o),(8,q),(10,v)] (r::N::k::u_2)) 1;N.same (e [b h O.chosen,a O.value] 31 2 false);let P:=λ(u:List Int) (u_1:Int) (u_2:List bq) ↦let Q:=aS (cq.mk [A,(4,m),(7,o),(8,q),(10,v)] (r::e [b h u,a u_1] 31 2 false::k::u_2)) 1;f<=f/\f<=z/\Q.chosen.length<=160/\s=jd p (dS p f) f c Q;c.length<=9223372036854775807/\(D=true->0=0/\t*8<=140737488355328/\t<=1000000000000/\c.length=c.length/\((L/\K/\M c (de p c) E/\k.same k/\False)/\P c (de p c) E)/\F)/\(D=false->((L/\K/\M d w []/\k.same k/\True)/\P d w [])/\F)) (by kernel_rfl) ?_;conv=>zeta
 obtain⟨hc,hf,hcl,hdl⟩:=h;simp only at hcl hdl hv;simp only[vcs,Uy];have hN:p.offers.length<=160:=(dN hc).2.1;have upd:kr p c f ⟨d,w⟩=jd p (dS p f) f c (if w<de p c then⟨c,de p c⟩ else⟨d,w⟩):=rfl;have round:∀x:Int×Alloc,f<=x.1/\x.1<=p.offers.length/\x.2.chosen.length<=160/\kr p c f ⟨d,w⟩=jd p (dS p x.1) x.1 c x.2->x.1<p.offers.length->
   dS p x.1=dS p (x.1+1)+1/\dS p (x.1+1)<n/\dS p (x.1+1)<dS p x.1/\(c++[x.1]).length=c.length+1/\
   kr p c f ⟨d,w⟩=jd p (dS p (x.1+1)) (x.1+1) c (if bW p (c++[x.1])=0 then kr p (c++[x.1]) (x.1+1) x.2 else x.2):=λx hx hlt=>by
  obtain⟨h1,h2,h3,h4⟩:=hx;have hl:dS p x.1=dS p (x.1+1)+1:=by unfold dS;omega
  have hlf:dS p x.1<=dS p f:=by unfold dS;omega
  refine⟨hl,by omega,by omega,by simp,?_⟩;rw[h4,hl];rfl
 have len:∀{c':List Int} {i:Int} {b:Alloc},0<=i->i<=p.offers.length->c'.length<=i->b.chosen.length<=160->(kr p c' i b).chosen.length<=160:=λh0 h1 h2 h3=>Ux hN h0 h1 h2 h3;refine⟨by omega,λh1=>absurd h1 hv,λh1=>⟨⟨by omega,by omega,by omega,?_⟩,?_⟩⟩;·rw[upd,if_neg h1]
 ·rintro⟨i,⟨e,u⟩⟩ hx;obtain⟨hi0,hi1,hs,hi⟩:=id hx;simp only at hi0 hi1 hs hi;refine⟨λhlt=>?_,λhge=>?_⟩
  ·obtain⟨r1,r2,r3,r4,r5⟩:=round ⟨i,⟨e,u⟩⟩ hx hlt;simp only at r1 r2 r3 r5;have r4:(c++[i]).length=c.length+1:=r4;refine⟨by omega,by omega,by omega,by omega,by omega,λhr=>?_,λhr=>?_⟩
   ·rw[if_pos hr] at r5;exact⟨by omega,⟨⟨hc,by omega,by omega,hs⟩,r2⟩,by omega,⟨by omega,by omega,len (by omega) (by omega) (by omega) hs,r5⟩,r3⟩
   ·rw[if_neg hr] at r5;refine⟨?_,⟨?_,?_,hs,r5⟩,r3⟩<;>omega
  ·have hl:dS p i=0:=by unfold dS;omega
   rw[hl] at hi;simp only[jd] at hi;rw[hi];exact rfl
theorem K1:∀n,Holds Tryz.prog (om n)
 |0=>by
  rintro⟨p,c,f,b⟩ ⟨_,h⟩;exact absurd h (Nat.not_lt_zero _);|n+1=>by
  rintro⟨p,c,f,b⟩ ⟨h1,h2⟩;by_cases hc:dS p f<n;·exact K1 n (p,c,f,b) ⟨h1,hc⟩
  ·have hL:∀c∈M6 n,Holds Tryz.prog c:=by
    simp only[M6,List.forall_mem_cons,List.not_mem_nil,false_implies,implies_true,and_true];exact⟨K1 n,h58,h55⟩
   have hfr:∀d,lL (om (n+1)).f (M6 n)=some d->∀b2,gL ((om (n+1)).A.put (p,c,f,b))=gL (d.A.put b2)->¬d.dom b2:=by
    intro d hd b2 hb1 hb3;have hd2:d=om n:=by
     have:lL 30 (M6 n)=some (om n):=rfl;have hd3:lL 30 (M6 n)=some d:=hd;rw[this] at hd3;injection hd3 with hd3;exact hd3.symm
    subst hd2;have:=(om n).A.inj _ _ hb1;rw[<-this] at hb3;exact hc hb3.2
   by_cases hv:b.value<de p c;·exact PT (L:=M6 n) (om (n+1)) (fG 30) (EY p c f b [.dead,.dead]) (mW.none _) hL (show fO 30=some (fG 30) by kernel_rfl) (p,c,f,b) rfl hfr (aeA n p c f b h1 h2 hv)
   ·exact PT (L:=M6 n) (om (n+1)) (fG 30) (EY p c f b []) (mW.none _) hL (show fO 30=some (fG 30) by kernel_rfl) (p,c,f,b) rfl hfr (aeB n p c f b h1 h2 hv)
noncomputable def EZ:bL:=⟨13,bn,.one dE,λp=>bB p=0,λp=>jZ.put (cz p)⟩
theorem h426:Holds Tryz.prog EZ:=by
 refine cF (L:=[om 161]) EZ lk (by simpa using K1 161) ?_;rintro(p:bn) (hc:bB p=0);refine bO (let a:=(0:Int);let b:=Alloc.mk [] a;let c:=kr p [] a b;(yI p [] a b/\dS p a<161)/\(γQ [Θ (bp.i .i64) c.chosen,γe .i64 c.value]).same (γQ [Θ (bp.i .i64) (cz p).chosen,γe .i64 (cz p).value])) (by kernel_rfl) ?_;conv=>zeta
 have hN:=(dN hc).2.1;refine⟨⟨⟨hc,⟨by omega,by omega⟩,by simp,by simp⟩,by unfold dS;omega⟩,?_⟩;rw[aez hc];exact rfl
def o6 (p:bn):Int:=qt p (allM p)
theorem Ba {p:bn} (hc:bB p=0):ri p (cz p).chosen/\de p (cz p).chosen=(cz p).value/\(cz p).value=o6 p:=by
 obtain⟨_,h2,h3,h4⟩:=Qm hc;have hF:ri p (cz p).chosen:=⟨h3,h2⟩;exact⟨hF,by rw[xH hc hF,h4],(Dq hc).symm⟩
def ofV (n:cQ):SV:=.ite (decide (n.1=1)) (.ia 154 (encS bA n)) (.ite (decide (n.1=2)) (.ia 155 (encS bA n)) (.ite (decide (n.1=3)) (.ia 156 (encS bA n)) (.ia 158 [])))
def E0:bL:=⟨58,cQ,.one (eG bA),λ_=>True,ofV⟩
theorem h485:Holds Tryz.prog E0:=by
 refine cF (L:=[]) E0 lk (by simp) ?_;rintro⟨k,o,a,b,y⟩ _;refine bO (let c:=γe .i64;let d:=(1:Int);let e:=(2:Int);let f:=(3:Int);let i:=decide (k=d);let g:=[c k,c o,c a,c b,Θ sF y];let n:=ζW 154 g;let j:=decide (k=e);let p:=ζW 155 g;let l:=decide (k=f);let q:=ζW 156 g;let h:=ζW 158 [];let m:=λ(u:Int) (u_1:Nat) ↦decide (k=u)=true->(i=true->(ζW u_1 g).same n)/\(i=false->(j=true->(ζW u_1 g).same p)/\(j=false->(l=true->(ζW u_1 g).same q)/\(l=false->(ζW u_1 g).same h)));m d 154/\(decide (k=d)=false->m e 155/\(decide (k=e)=false->m f 156/\(decide (k=f)=false->(i=true->h.same n)/\(i=false->(j=true->h.same p)/\(j=false->(l=true->h.same q)/\(l=false->h.same h))))))) (by kernel_rfl) ?_;simp only[vcs];repeat' (first|refine γi ?_ ?_|intro _)
 all_goals first|trivial|omega
def rG (n:cQ):Bool:=decide (n.2.1=0)&&decide (n.2.2.1=0)&&decide (n.2.2.2.1=0)
def E1:bL:=⟨212,cQ,.one (eG bA),λ_=>True,λn=> .sb (rG n)⟩
theorem h495:Holds Tryz.prog E1:=by
 refine cF (L:=[]) E1 lk (by simp) ?_;rintro⟨k,o,a,b,y⟩ _;refine bO (let c:=δa false;let d:=(0:Int);let f:=decide (o=d);let g:=decide (a=d);let e:=γw (rG (k,o,a,b,y));(f=true->(g=true->(γw (decide (b=d))).same e)/\(g=false->(c).same e))/\(f=false->(c).same e)) (by kernel_rfl) ?_;simp only[vcs];repeat' (first|refine γi ?_ ?_|intro _)
 all_goals simp_all [rG]
def wf1 (n:cQ):Bool:=rG n&&decide (n.2.2.2.2.length<=40)&&n.2.2.2.2.all okF
def K2:bL:=⟨210,cQ,.one (eG bA),λn=>∀x∈n.2.2.2.2,iP x,λn=> .sb (wf1 n)⟩
def aeD (n:cQ):Nat->cC
 |4=> .inv Int (λi=>⟨[(18,.row sF n.2.2.2.2),(19,.si .i64 n.2.2.2.2.length),(20,.si .i64 i)],[.cells (encS bA n) 154 5 false]⟩) (λs=>iS s 20)
  (λi=>0<=i/\i<=n.2.2.2.2.length/\(n.2.2.2.2.take i.toNat).all okF=true) (λi=>(n.2.2.2.2.length - i).toNat) λ_ _=> .look
 |_=> .look
theorem h493:Holds Tryz.prog K2:=by
 refine cF (L:=[E1,ua]) K2 aeD (by simpa using⟨h495,h407⟩) ?_;rintro⟨k,o,a,b,y⟩ hy;have hy:∀x∈y,iP x:=hy;refine bO (let c:=γe .i64;let d:=(0:Int);let e:=δa false;let f:=Θ;let p:=!rG (k,o,a,b,y);let j:=γw (wf1 (k,o,a,b,y));let m:=(↑y.length:Int);let q:=decide ((40:Int)<m);let g:=(↑y.length:Int);let n:=c g;let l:=bq.cells [c k,c o,c a,c b,f sF y] 154 5 false;True/\(p=true->(e).same j)/\(p=false->(q=true->(e).same j)/\(q=false->((((f sF y).same (f sF y)/\(c m).same n/\(γx .i64 0).same (c 0)/\True)/\l.same l/\True)/\d<=d/\d<=g/\true=true)/\∀(x:Int),let h:=bj y x.toNat sF.dflt;let i:=x+(1:Int);let r:=c i;let s:=λ(u:Bool) ↦(!okF (h.fst,h.snd.fst,h.snd.snd))=u;d<=x/\x<=g/\(ω x.toNat y).all okF=true->(decide (x<g)=true->d<=x/\x<m/\x.toNat<y.length/\((bz h.snd.fst/\bz h.snd.snd)/\γf h.snd.fst<=10000000/\γf h.snd.snd<=10000000)/\(s true->(e).same j)/\(s false->cn .i64 i/\(((f sF y).same (f sF y)/\n.same n/\r.same r/\True)/\l.same l/\True)/\(d<=i/\i<=g/\(ω i.toNat y).all okF=true)/\(g - i).toNat<(g - x).toNat))/\(decide (x<g)=false->(δa true).same j)))) (by kernel_rfl) ?_;simp only[vcs];refine⟨λh=>by simp[wf1,h],λhp=>⟨λh40=>?_,λh40=>⟨⟨by omega,by omega⟩,?_⟩⟩⟩
 ·have:¬y.length<=40:=by omega
  simp[wf1,this]
 rintro i ⟨i0,i1,hi⟩;refine⟨λhlt=>?_,λhge=>?_⟩
 ·have hm:=dj (d:=sF.dflt) (show i.toNat<y.length by omega);have et:=kC (d:=sF.dflt) i0 hlt;refine⟨i0,hlt,by omega,hy _ hm,λh=>?_,λh=>⟨⟨by omega,by omega⟩,⟨by omega,by omega,?_⟩,by omega⟩⟩
  ·have h:okF (bj y i.toNat sF.dflt)=false:=h;have:y.all okF=false:=by
    rw[γ7];intro ha;have:=κ.1 ha _ hm;rw[h] at this;cases this
   simp[wf1,this]
  ·have h:okF (bj y i.toNat sF.dflt)=true:=h;rw[et,εT,hi];simp[h]
 ·rw[show i.toNat=y.length by omega,π] at hi;have:y.length<=40:=by omega
  simp[wf1,hp,hi,this]
def kY (k:Int):Bool:=decide (0<=k)&&decide (k<=65536)
def wf2 (n:cQ):Bool:=kY n.2.1&&kY n.2.2.1&&kY n.2.2.2.1&&decide (n.2.2.2.2=[])
def K3:bL:=⟨216,cQ,.one (eG bA),λ_=>True,λn=> .sb (wf2 n)⟩
theorem h499:Holds Tryz.prog K3:=by
 refine cF (L:=[]) K3 (λ_ _=> .rb 4) (by simp) ?_;rintro⟨k,o,a,b,y⟩ _;refine bO (let c:=(0:Int);let d:=δa false;let e:=(65536:Int);let f:=(3:Int);let g:=γw;let i:=bj [o,a,b] 0 c;let j:=decide (i<c);let h:=g (wf2 (k,o,a,b,y));let l:=decide (e<i);let m:=bj [o,a,b] 1 c;let n:=decide (m<c);let p:=decide (e<m);let q:=bj [o,a,b] 2 c;let r:=decide (q<c);let s:=decide (e<q);let t:=bj [o,a,b] 3 c;let u:=decide (t<c);let v:=decide (e<t);(true=true->c<=c/\c<f/\0<3/\(j=true->(d).same h)/\(j=false->(l=true->(d).same h)/\(l=false->(true=true->c<=(1:Int)/\(1:Int)<f/\1<3/\(n=true->(d).same h)/\(n=false->(p=true->(d).same h)/\(p=false->(true=true->c<=(2:Int)/\(2:Int)<f/\2<3/\(r=true->(d).same h)/\(r=false->(s=true->(d).same h)/\(s=false->(false=true->c<=f/\f<f/\3<3/\(u=true->(d).same h)/\(u=false->(v=true->(d).same h)/\(v=false->False)))/\(false=false->(g (decide ((↑y.length:Int)=c))).same h))))/\(true=false->(g (decide ((↑y.length:Int)=c))).same h))))/\(true=false->(g (decide ((↑y.length:Int)=c))).same h))))/\(true=false->(g (decide ((↑y.length:Int)=c))).same h)) (by kernel_rfl) ?_;simp only[vcs];have e0:bj [o,a,b] 0 0=o:=rfl;have e1:bj [o,a,b] 1 0=a:=rfl;have e2:bj [o,a,b] 2 0=b:=rfl;have ey:((y.length:Int)=0)=(y=[]):=by rw[eq_iff_iff,<-ζm];omega
 simp only[e0,e1,e2,ey];have hb:∀x:Int,x<0->kY x=false:=λx h=>by unfold kY;rw[decide_eq_false (by omega)];rfl
 have hc:∀x:Int,65536<x->kY x=false:=λx h=>by unfold kY;rw[decide_eq_false (p:=x<=65536) (by omega),Bool.and_false]
 have hd:∀x:Int,¬x<0->¬65536<x->kY x=true:=λx h k=>by unfold kY;rw[decide_eq_true (by omega),decide_eq_true (by omega)];rfl
 repeat' (first|refine γi ?_ ?_|intro _)
 all_goals first
  |omega;|simp_all [wf2]
def sP (n:cQ):Bool:=rG n&&decide (n.2.2.2.2=[])
def K4:bL:=⟨220,cQ,.one (eG bA),λ_=>True,λn=> .sb (sP n)⟩
theorem h503:Holds Tryz.prog K4:=by
 refine cF (L:=[E1]) K4 lk (by simpa using h495) ?_;rintro⟨k,o,a,b,y⟩ _;refine bO (let c:=rG (k,o,a,b,y);let d:=γw (sP (k,o,a,b,y));True/\(c=true->(γw (decide ((↑y.length:Int)=(0:Int)))).same d)/\(c=false->(δa false).same d)) (by kernel_rfl) ?_;simp only[vcs];have ey:((y.length:Int)=0)=(y=[]):=by rw[eq_iff_iff,<-ζm];omega
 refine⟨λh=>by simp[sP,h,ey],λh=>by simp[sP,h]⟩
def K5:qm Unit where
 put _:=.agg [];dec
  | .agg []=>some ()
  |_=>none;ok v a h:=by
  split at h;·rfl
  ·cases h
 inj a b h:=rfl
def K6:bL:=⟨224,Unit,.one K5,λ_=>True,λ_=> .sb false⟩
theorem h507:Holds Tryz.prog K6:=by
 refine cF (L:=[]) K6 lk (by simp) ?_;rintro _ _;refine bO ((δa false).same (γw false)) (by kernel_rfl) ?_;rfl
def K7:bL:=⟨208,cQ,.one (eG bA),λ_=>True,λ_=> .row (.i .i64) []⟩
theorem h491:Holds Tryz.prog K7:=by
 refine cF (L:=[]) K7 lk (by simp) ?_;rintro⟨k,o,a,b,y⟩ _;refine bO (let a:=Θ (bp.i .i64) [];a.same a) (by kernel_rfl) ?_;conv=>zeta
 rfl
def K8:bL:=⟨214,cQ,.one (eG bA),λ_=>True,λn=> .row (.i .i64) [n.2.2.1,n.2.2.2.1]⟩
theorem h497:Holds Tryz.prog K8:=by
 refine cF (L:=[]) K8 lk (by simp) ?_;rintro⟨k,o,a,b,y⟩ _;refine bO (let c:=Θ (bp.i .i64) [a,b];c.same c) (by kernel_rfl) ?_;conv=>zeta
 rfl
def K9:bL:=⟨218,cQ,.one (eG bA),λ_=>True,λ_=> .row (.i .i64) []⟩
theorem h501:Holds Tryz.prog K9:=by
 refine cF (L:=[]) K9 lk (by simp) ?_;rintro⟨k,o,a,b,y⟩ _;refine bO (let a:=Θ (bp.i .i64) [];a.same a) (by kernel_rfl) ?_;conv=>zeta
 rfl
def r505:bL:=⟨222,Unit,.one K5,λ_=>True,λ_=> .row (.i .i64) []⟩
theorem h505:Holds Tryz.prog r505:=by
 refine cF (L:=[]) r505 lk (by simp) ?_;rintro _ _;refine bO (let a:=Θ (bp.i .i64) [];a.same a) (by kernel_rfl) ?_;conv=>zeta
 rfl
def jr (n:cQ):List Int:=if n.1=2 then[n.2.2.1,n.2.2.2.1] else[]
def rH (n:cQ):Bool:=if n.1=1 then wf1 n else if n.1=2 then wf2 n else if n.1=3 then sP n else false
def gQ (t:List cQ) (i:Nat):List Int:=(t.take i).flatMap jr
def kZ (n:Nat) (c:List Int):List Int:=(dH n).map λk=>(c.count k:Int)
def uu (n:Nat) (i:Int) (c:List Int):List Int->Bool
 |[]=>true
 |x::r=>decide (i<x/\x<n)&&decide (x∉c)&&uu n i (c++[x]) r
def jH (t:List cQ) (i:Nat):Bool:=rH (bj t i bA.dflt)&&uu t.length i (gQ t i) (jr (bj t i bA.dflt))
def dT (t:List cQ):Bool:=decide (1<=t.length/\t.length<=65536)&&((ψ t.length).all (jH t)&&(ψ (t.length - 1)).all λk=>decide (((k:Int)+1)∈gQ t t.length))
theorem sQ {n:Nat} {c:List Int}:(kZ n c).length=n:=by simp[kZ,gG]
theorem yJ {n j:Nat} {c:List Int} (h:j<n):bj (kZ n c) j 0=(c.count (j:Int):Nat):=by
 unfold kZ;rw[cV (by rw[Ω,gG];exact h),δB];simp[dH]
theorem Uz {n:Nat} {c:List Int} {x:Int} (h0:0<=x) (h1:x<n):(kZ n c).set x.toNat (bj (kZ n c) x.toNat 0+1)=kZ n (c++[x]):=by
 refine δb (by rw[τ,sQ,sQ]) λj h2 h3=>?_;have hj:j<n:=by rwa [sQ] at h3
 have hx:x.toNat<n:=by omega
 have e3:=@yJ n j (c++[x]) hj;rw[cV (by rw[sQ];exact hj)] at e3;rw[e3,List.getElem_set];have e5:=@yJ n x.toNat c hx;by_cases he:x.toNat=j
 ·subst he;rw[if_pos rfl,e5,show((x.toNat:Nat):Int)=x by omega,ζK,List.count_singleton_self];omega
 ·rw[if_neg he];have e4:=@yJ n j c hj;rw[cV (by rw[sQ];exact hj)] at e4;rw[e4,ζK,List.count_singleton];have:¬(x==(j:Int))=true:=by
   simp only[beq_iff_eq];omega
  rw[if_neg this];rfl
theorem aeE {n:Nat}:kZ n []=δ n 0:=by
 refine δb (by rw[sQ,γk]) λj h2 h3=>?_;simp[kZ]
theorem UA {t:List cQ} {i:Int} (h0:0<=i) (h1:i<t.length):gQ t (i+1).toNat=gQ t i.toNat++jr (bj t i.toNat bA.dflt):=by
 unfold gQ;rw[kC (d:=bA.dflt) h0 h1,List.flatMap_append];simp
theorem aeF {t:List cQ} {i:Nat} (h:i<t.length) (hn:jH t i=false):dT t=false:=by
 unfold dT;have:(ψ t.length).all (jH t)=false:=by
  rw[γ7];intro ha;rw[κ.1 ha i (γm.2 h)] at hn;cases hn
 rw[this];simp
theorem aeG {t:List cQ} {k:Nat} (h:k<t.length - 1) (hn:((k:Int)+1)∉gQ t t.length):dT t=false:=by
 unfold dT;have:((ψ (t.length - 1)).all λk=>decide (((k:Int)+1)∈gQ t t.length))=false:=by
  rw[γ7];intro ha;exact hn (of_decide_eq_true (κ.1 ha k (γm.2 h)))
 rw[this];simp
def La:bL:=⟨31,List cQ,.one (dM bA),λt=>∀n∈(show List cQ from t),∀x∈n.2.2.2.2,iP x,λt=> .sb (dT t)⟩
def aeH (t:List cQ):Nat->cC
 |5=> .inv Int (λi=>⟨[(0,.row bA t),(3,.ow 0 t.length 1),(22,.row bA t),(23,.si .i64 t.length),(24,.si .i64 i)],[.row (.i .i64) (kZ t.length (gQ t i.toNat)) 3 true]⟩) (λs=>iS s 24)
  (λi=>0<=i/\i<=t.length/\∀j:Nat,j<i->jH t j=true) (λi=>(t.length - i).toNat) λ_=>λ
   |11=> .rb 3
   |_=> .look
 |19=> .inv Int (λi=>⟨[(66,.os 0 1 (t.length - 1) t.length 1),(67,.si .i64 (t.length - 1:Nat)),(68,.si .i64 i)],[.row (.i .i64) (kZ t.length (gQ t t.length)) 3 true]⟩) (λs=>iS s 68)
  (λi=>0<=i/\i<=(t.length - 1:Nat)/\∀j:Nat,j<i->((j:Int)+1)∈gQ t t.length) (λi=>((t.length - 1:Nat) - i).toNat) λ_ _=> .look
 |_=> .look
theorem h480:Holds Tryz.prog La:=by
 refine cF (L:=[E0,K2,K3,K4,K6,K7,K8,K9,r505]) La aeH (by simpa using⟨h485,h493,h499,h503,h507,h491,h497,h501,h505⟩) ?_;intro(t:List cQ) ht;refine bO (let a:=(0:Int);let b:=δa false;let c:=Θ;let d:=(1:Int);let e:=γw;let f:=cn .i64;let g:=γe .i64;let h:=bq.row;let k:=(2:Int);let l:=γx .i64 0;let p:=(↑t.length:Int);let a8:=decide (p<d);let a9:=decide ((65536:Int)<p);let s:=γS 0 t.length 1;let n:=(↑t.length:Int);let u:=g n;let y:=bp.i .i64;let D:=decide (p<=a);let Q:=t.length - 1;let O:=SV.os 0 1 Q t.length 1;let z:=(↑Q:Int);let P:=g z;let M:=kZ t.length (gQ t t.length);let R:=h y M 3 true;(a8=true->(b).same (e (dT t)))/\(a8=false->(a9=true->(b).same (e (dT t)))/\(a9=false->a<=p/\p<=p/\p*(8:Int)<=(140737488355328:Int)/\p<=(1000000000000:Int)/\((((c bA t).same (c bA t)/\(γS 0 p.toNat 1).same s/\(c bA t).same (c bA t)/\(g p).same u/\(l).same (g 0)/\True)/\(h y (δ p.toNat a) 3 true).same (h y (kZ t.length (gQ t 0)) 3 true)/\True)/\a<=a/\a<=n/\∀(j:Nat),(↑j:Int)<a->jH t j=true)/\∀(x:Int),let E:=decide (a<=x);let F:=kZ t.length (gQ t x.toNat);let o:=F.length;let S:=bj F 0 a;let aa:=decide (a<S);let q:=F.set 0 (S+d);let T:=bj q 0 a;let ab:=decide (a<T);let r:=q.set 0 (T+d);let ac:=bj r 0 a;let ad:=decide (a<ac);let m:=x+d;let v:=g m;let G:=h y (kZ t.length (gQ t m.toNat)) 3 true;let U:=h y F 3 true;let w:=bj t x.toNat bA.dflt;let V:=[w.snd.snd.fst,w.snd.snd.snd.fst];let C:=bj V 2 a;let A:=bj V 0 a;let W:=bj F A.toNat a;let H:=F.set A.toNat (W+d);let B:=bj V 1 a;let X:=bj H B.toNat a;let N:=H.set B.toNat (X+d);let ae:=decide (w.fst=d);let I:=(w.fst,w.snd.fst,w.snd.snd.fst,w.snd.snd.snd.fst,w.snd.snd.snd.snd);let af:=decide (w.fst=k);let ag:=decide (a<W);let ah:=decide (a<X);let ai:=bj N C.toNat a;let aj:=decide (a<ai);let ak:=decide (w.fst=(3:Int));let Y:=True/\(false=true->a<=a/\a<a/\0<0/\(E=true->(b).same (e (dT t)))/\(E=false->(D=true->(b).same (e (dT t)))/\(D=false->t.length=o/\a<=a/\a<(↑o:Int)/\t.length=o/\0<o/\(aa=true->(b).same (e (dT t)))/\(aa=false->t.length=o/\a<=a/\a<(↑o:Int)/\t.length=o/\0<o/\f (S+d)/\t.length=o/\a<=a/\a<(↑o:Int)/\t.length=o/\0<o/\(false=true->a<=d/\d<a/\1<0/\(E=true->(b).same (e (dT t)))/\(E=false->(D=true->(b).same (e (dT t)))/\(D=false->t.length=q.length/\a<=a/\a<(↑q.length:Int)/\t.length=q.length/\0<q.length/\(ab=true->(b).same (e (dT t)))/\(ab=false->t.length=q.length/\a<=a/\a<(↑q.length:Int)/\t.length=q.length/\0<q.length/\f (T+d)/\t.length=q.length/\a<=a/\a<(↑q.length:Int)/\t.length=q.length/\0<q.length/\(false=true->a<=k/\k<a/\2<0/\(E=true->(b).same (e (dT t)))/\(E=false->(D=true->(b).same (e (dT t)))/\(D=false->t.length=r.length/\a<=a/\a<(↑r.length:Int)/\t.length=r.length/\0<r.length/\(ad=true->(b).same (e (dT t)))/\(ad=false->t.length=r.length/\a<=a/\a<(↑r.length:Int)/\t.length=r.length/\0<r.length/\f (ac+d)/\t.length=r.length/\a<=a/\a<(↑r.length:Int)/\t.length=r.length/\0<r.length/\False))))/\(false=false->f m/\(((c bA t).same (c bA t)/\s.same s/\(c bA t).same (c bA t)/\u.same u/\v.same v/\True)/\(h y r 3 true).same G/\True)/\(a<=m/\m<=n/\∀(j:Nat),(↑j:Int)<m->jH t j=true)/\(n - m).toNat<(n - x).toNat)))))/\(false=false->f m/\(((c bA t).same (c bA t)/\s.same s/\(c bA t).same (c bA t)/\u.same u/\v.same v/\True)/\(h y q 3 true).same G/\True)/\(a<=m/\m<=n/\∀(j:Nat),(↑j:Int)<m->jH t j=true)/\(n - m).toNat<(n - x).toNat)))))/\(false=false->f m/\(((c bA t).same (c bA t)/\s.same s/\(c bA t).same (c bA t)/\u.same u/\v.same v/\True)/\U.same G/\True)/\(a<=m/\m<=n/\∀(j:Nat),(↑j:Int)<m->jH t j=true)/\(n - m).toNat<(n - x).toNat);let Z:=C<(↑N.length:Int);let a0:=C.toNat<N.length;let J:=t.length=N.length;let a1:=B<(↑H.length:Int);let a2:=B.toNat<H.length;let K:=t.length=H.length;let a3:=A<(↑o:Int);let a4:=A.toNat<o;let a5:=a<=C;let a6:=a<=A;let a7:=a<=B;(a<=x/\x<=n/\∀(j:Nat),(↑j:Int)<x->jH t j=true)->(decide (x<n)=true->a<=x/\x<p/\x.toNat<t.length/\True/\(ae=true->(∀(x:bM),x∈w.snd.snd.snd.snd->iP x)/\((!wf1 I)=true->(b).same (e (dT t)))/\((!wf1 I)=false->Y))/\(ae=false->(af=true->True/\((!wf2 I)=true->(b).same (e (dT t)))/\((!wf2 I)=false->True/\(true=true->a<=a/\a<k/\0<2/\(decide (A<=x)=true->(b).same (e (dT t)))/\(decide (A<=x)=false->(decide (p<=A)=true->(b).same (e (dT t)))/\(decide (p<=A)=false->t.length=o/\a6/\a3/\t.length=o/\a4/\(ag=true->(b).same (e (dT t)))/\(ag=false->t.length=o/\a6/\a3/\t.length=o/\a4/\f (W+d)/\t.length=o/\a6/\a3/\t.length=o/\a4/\(true=true->a<=d/\d<k/\1<2/\(decide (B<=x)=true->(b).same (e (dT t)))/\(decide (B<=x)=false->(decide (p<=B)=true->(b).same (e (dT t)))/\(decide (p<=B)=false->K/\a7/\a1/\K/\a2/\(ah=true->(b).same (e (dT t)))/\(ah=false->K/\a7/\a1/\K/\a2/\f (X+d)/\K/\a7/\a1/\K/\a2/\(false=true->a<=k/\k<k/\2<2/\(decide (C<=x)=true->(b).same (e (dT t)))/\(decide (C<=x)=false->(decide (p<=C)=true->(b).same (e (dT t)))/\(decide (p<=C)=false->J/\a5/\Z/\J/\a0/\(aj=true->(b).same (e (dT t)))/\(aj=false->J/\a5/\Z/\J/\a0/\f (ai+d)/\J/\a5/\Z/\J/\a0/\False))))/\(false=false->f m/\(((c bA t).same (c bA t)/\s.same s/\(c bA t).same (c bA t)/\u.same u/\v.same v/\True)/\(h y N 3 true).same G/\True)/\(a<=m/\m<=n/\∀(j:Nat),(↑j:Int)<m->jH t j=true)/\(n - m).toNat<(n - x).toNat)))))/\(true=false->f m/\(((c bA t).same (c bA t)/\s.same s/\(c bA t).same (c bA t)/\u.same u/\v.same v/\True)/\(h y H 3 true).same G/\True)/\(a<=m/\m<=n/\∀(j:Nat),(↑j:Int)<m->jH t j=true)/\(n - m).toNat<(n - x).toNat)))))/\(true=false->f m/\(((c bA t).same (c bA t)/\s.same s/\(c bA t).same (c bA t)/\u.same u/\v.same v/\True)/\U.same G/\True)/\(a<=m/\m<=n/\∀(j:Nat),(↑j:Int)<m->jH t j=true)/\(n - m).toNat<(n - x).toNat)))/\(af=false->(ak=true->True/\((!sP I)=true->(b).same (e (dT t)))/\((!sP I)=false->Y))/\(ak=false->True/\(true=true->(b).same (e (dT t)))/\(true=false->Y)))))/\(decide (x<n)=false->t.length=o/\1<=t.length/\t.length<=t.length/\(((O.same O/\P.same P/\(l).same (g 0)/\True)/\U.same R/\True)/\a<=a/\a<=z/\∀(j:Nat),(↑j:Int)<a->(↑j:Int)+d∈gQ t t.length)/\∀(x:Int),let al:=decide (bj M (1+x.toNat) 0=a);let L:=x+d;let am:=g L;(a<=x/\x<=z/\∀(j:Nat),(↑j:Int)<x->(↑j:Int)+d∈gQ t t.length)->(decide (x<z)=true->t.length=M.length/\a<=x/\x<z/\1+Q<=t.length/\t.length=M.length/\1+x.toNat<M.length/\(al=true->(b).same (e (dT t)))/\(al=false->f L/\((O.same O/\P.same P/\am.same am/\True)/\R.same R/\True)/\(a<=L/\L<=z/\∀(j:Nat),(↑j:Int)<L->(↑j:Int)+d∈gQ t t.length)/\(z - L).toNat<(z - x).toNat))/\(decide (x<z)=false->(δa true).same (e (dT t))))))) (by kernel_rfl) ?_;simp only[vcs];refine⟨λh=>?_,λh1=>⟨λh=>?_,λh2=>?_⟩⟩
 ·have:¬(1<=t.length/\t.length<=65536):=by omega
  simp[dT,this]
 ·have:¬(1<=t.length/\t.length<=65536):=by omega
  simp[dT,this]
 have hrow:∀{x y:List Int},x=y->(bq.row (.i .i64) x 3 true).same (bq.row (.i .i64) y 3 true):=by rintro _ _ rfl;rfl
 have how:∀{x y:Nat},x=y->(γS 0 x 1).same (γS 0 y 1):=by rintro _ _ rfl;rfl
 refine⟨by omega,by omega,by omega,by omega,⟨⟨how (by omega),hrow ?_⟩,by omega,by omega,λj hj=>by omega⟩,?_⟩;·rw[show gQ t 0=[] from rfl,aeE];simp
 rintro i ⟨i0,i1,hi⟩;refine⟨λhlt=>?_,λhge=>?_⟩
 ·have hil:i.toNat<t.length:=by omega
  have hm:=ht _ (dj (d:=bA.dflt) hil);have hs:=UA i0 hlt;have hg:jH t i.toNat=(rH (bj t i.toNat bA.dflt)&&uu t.length i (gQ t i.toNat) (jr (bj t i.toNat bA.dflt))):=by
   unfold jH;rw[show((i.toNat:Nat):Int)=i by omega]
  generalize bj t i.toNat bA.dflt=N at*;obtain⟨k,o,a,b,y⟩:=N;generalize hc:gQ t i.toNat=c at*;have no:jH t i.toNat=false->false=dT t:=λh=>(aeF hil h).symm;have fin:jH t i.toNat=true->(∀j:Nat,(j:Int)<i+1->jH t j=true):=λh j hj=>by
   by_cases h2:(j:Int)<i;·exact hi j h2
   ·rw[show j=i.toNat by omega];exact h
  have hl:=@sQ t.length c;have w1:k=1->rH (k,o,a,b,y)=wf1 (k,o,a,b,y):=λh=>if_pos h;have w2:¬k=1->k=2->rH (k,o,a,b,y)=wf2 (k,o,a,b,y):=λh h'=>(if_neg h).trans (if_pos h');have w3:¬k=1->¬k=2->k=3->rH (k,o,a,b,y)=sP (k,o,a,b,y):=λh h' h''=>(if_neg h).trans ((if_neg h').trans (if_pos h''));have w4:¬k=1->¬k=2->¬k=3->rH (k,o,a,b,y)=false:=λh h' h''=>(if_neg h).trans ((if_neg h').trans (if_neg h''));have E2:¬k=2->jr (k,o,a,b,y)=[]:=λh=>if_neg h;have UB:k=2->jr (k,o,a,b,y)=[a,b]:=λh=>if_pos h;have ea:bj [a,b] 0 0=a:=rfl;have eb:bj [a,b] 1 0=b:=rfl;dsimp only;simp only[ea,eb];refine⟨i0,hlt,hil,λh1=>⟨hm,λhw=>no ?_,λhw=>⟨λh=>(by cases h),λ_=>⟨⟨by omega,by omega⟩,hrow ?_,⟨by omega,by omega,fin ?_⟩,by omega⟩⟩⟩,λh1=>⟨λh2=>?_,λh2=>⟨λh3=>⟨λhw=>no ?_,λhw=>⟨λh=>(by cases h),λ_=>⟨⟨by omega,by omega⟩,hrow ?_,⟨by omega,by omega,fin ?_⟩,by omega⟩⟩⟩,λh3=>⟨λ_=>no ?_,λh=>(by cases h)⟩⟩⟩⟩;·rw[hg,w1 h1,hw];rfl
  ·rw[hs,E2 (by omega),γL]
  ·rw[hg,w1 h1,E2 (by omega),hw];rfl
  ·have hg2:jH t i.toNat=(wf2 (k,o,a,b,y)&&(decide (i<a/\a<t.length)&&decide (a∉c)&&(decide (i<b/\b<t.length)&&decide (b∉c++[a])&&true))):=by rw[hg,w2 h1 h2,UB h2];rfl
   rw[UB h2] at hs;refine⟨λhw=>no ?_,λhw=>⟨λ_=>⟨by omega,by omega,by omega,λha=>no ?_,λha=>⟨λhb=>no ?_,λhb=>?_⟩⟩,λh=>(by cases h)⟩⟩;·rw[hg2,hw];rfl
   ·rw[hg2,decide_eq_false (p:=i<a/\a<t.length) (by omega)];simp
   ·rw[hg2,decide_eq_false (p:=i<a/\a<t.length) (by omega)];simp
   have hat:a.toNat<t.length:=by omega
   have ca:=@yJ t.length a.toNat c hat;rw[show((a.toNat:Nat):Int)=a by omega] at ca;have pa:=@Uz t.length c a (by omega) (by omega);have la:0<=a/\a<(kZ t.length c).length:=by rw[hl];omega
   have Lc:a.toNat<(kZ t.length c).length:=by rw[hl];exact hat
   refine⟨hl.symm,la.1,la.2,hl.symm,Lc,λhc1=>no ?_,λhc1=>⟨hl.symm,la.1,la.2,hl.symm,Lc,⟨by omega,by omega⟩,hl.symm,la.1,la.2,hl.symm,Lc,λ_=>?_,λh=>(by cases h)⟩⟩
   ·have:a∈c:=δS.1 (by omega);rw[hg2,decide_eq_false (p:=a∉c) (by simpa using this)];simp
   have hac:a∉c:=λh=>by have:=δS.2 h;omega
   simp only[pa];have hl2:=@sQ t.length (c++[a]);refine⟨by omega,by omega,by omega,λhb1=>no ?_,λhb1=>⟨λhb2=>no ?_,λhb2=>?_⟩⟩;·rw[hg2,decide_eq_false (p:=i<b/\b<t.length) (by omega)];simp
   ·rw[hg2,decide_eq_false (p:=i<b/\b<t.length) (by omega)];simp
   have hbt:b.toNat<t.length:=by omega
   have cb:=@yJ t.length b.toNat (c++[a]) hbt;rw[show((b.toNat:Nat):Int)=b by omega] at cb;have pb:=@Uz t.length (c++[a]) b (by omega) (by omega);have lb:0<=b/\b<(kZ t.length (c++[a])).length:=by rw[hl2];omega
   have Ld:b.toNat<(kZ t.length (c++[a])).length:=by rw[hl2];exact hbt
   refine⟨hl2.symm,lb.1,lb.2,hl2.symm,Ld,λhc2=>no ?_,λhc2=>⟨hl2.symm,lb.1,lb.2,hl2.symm,Ld,⟨by omega,by omega⟩,hl2.symm,lb.1,lb.2,hl2.symm,Ld,λh=>(by cases h),λ_=>⟨⟨by omega,by omega⟩,hrow ?_,⟨by omega,by omega,fin ?_⟩,by omega⟩⟩⟩
   ·have:b∈c++[a]:=δS.1 (by omega);rw[hg2,decide_eq_false (p:=b∉c++[a]) λh=>h this];simp
   ·rw[pb,hs,List.append_assoc];rfl
   ·have hbc:b∉c++[a]:=λh=>by have:=δS.2 h;omega
    rw[hg2,hw,decide_eq_true (p:=i<a/\a<t.length) (by omega),decide_eq_true (p:=i<b/\b<t.length) (by omega),decide_eq_true hac,decide_eq_true hbc];rfl
  ·rw[hg,w3 h1 h2 h3,hw];rfl
  ·rw[hs,E2 h2,γL]
  ·rw[hg,w3 h1 h2 h3,E2 h2,hw];rfl
  ·rw[hg,w4 h1 h2 h3];rfl
 ·rw[show i.toNat=t.length by omega];have hl:=@sQ t.length (gQ t t.length);refine⟨hl.symm,by omega,by omega,⟨hrow rfl,by omega,by omega,λj hj=>by omega⟩,?_⟩;rintro x ⟨x0,x1,hx⟩;refine⟨λhlt=>?_,λC9=>?_⟩
  ·have cx:=@yJ t.length (1+x.toNat) (gQ t t.length) (by omega);rw[show(((1+x.toNat:Nat)):Int)=(x.toNat:Int)+1 by omega] at cx;refine⟨hl.symm,x0,hlt,by omega,hl.symm,by rw[hl];omega,λh=>?_,λh=>⟨⟨by omega,by omega⟩,⟨by omega,by omega,λj hj=>?_⟩,by omega⟩⟩;·exact(aeG (k:=x.toNat) (by omega) λhm=>by have:=δS.2 hm;omega).symm
   ·by_cases hj2:(j:Int)<x;·exact hx j hj2
    ·rw[show j=x.toNat by omega];exact δS.1 (by omega)
  ·symm;unfold dT;rw[decide_eq_true (by omega),κ.2 λk hk=>hi k (by have:=γm.1 hk;omega),κ.2 λk hk=>decide_eq_true (hx k (by have:=γm.1 hk;omega))];rfl
def iz (p:bn) (y:List Rat) (r:Nat) (i:Int):Rat:=((oI p i).value:Rat) - bN r λk=>bj y k 0*((dK p k (oI p i):Int):Rat)
def ku (p:bn) (f:List Int) (y:List Rat) (r:Nat):Rat:=((gd p f:Int):Rat)+bN r λk=>bj y k 0*((df p k - cG p ((bC f 1).map (oI p)) k:Int):Rat)
def mI (p:bn) (f:List Int) (r:Int) (k:Nat):Int:=df p r - cG p ((bC (f.take k) 1).map (oI p)) r
theorem aeI {a:Type} {n j:Nat} (g:Int->a) (d:a) (h:j<n):bj ((dH n).map g) j d=g j:=by
 grind[cV,dH]
theorem Le {c:Type} {a b:List c} (d:c) (e:a.length=b.length) (h:∀j,j<a.length->bj a j d=bj b j d):a=b:=by
 refine δb e λj f g=>?_;grind[cV]
theorem aeJ {p:bn} {f:List Int} {y:List Rat}:ku p f y 0=((gd p f:Int):Rat):=by
 unfold ku;simp only[bN];grind
theorem UC {p:bn} {f:List Int} {y:List Rat} {r:Nat}:ku p f y (r+1)=ku p f y r+bj y r 0*((df p r - cG p ((bC f 1).map (oI p)) r:Int):Rat):=by
 unfold ku;simp only[bN];grind
theorem Lh {p:bn} {y:List Rat} {r:Nat} {i:Int}:iz p y (r+1) i=iz p y r i - bj y r 0*((dK p r (oI p i):Int):Rat):=by
 unfold iz;simp only[bN];grind
theorem UD {p:bn} {r:Int}:(iy p r p.offers.length).length=p.offers.length:=by unfold iy;rw[Ω,π]
theorem aeK {p:bn} {r i:Int} (h:0<=i/\i<p.offers.length):bj (iy p r p.offers.length) i.toNat 0=dK p r (oI p i):=by
 unfold iy;rw[cV (by rw[Ω,π];omega),δB];unfold oI;rw[cV (by omega)];simp
theorem aeL {p:bn} {f:List Int} {r:Int}:mI p f r 0=df p r:=by
 unfold mI;simp[bC,dH,cG]
theorem aeM {p:bn} {f:List Int} {r k:Int} (k0:0<=k) (h:k<f.length):mI p f r (k+1).toNat=mI p f r k.toNat - if bj f k.toNat 0=1 then dK p r (oI p k) else 0:=by
 unfold mI;rw[AO k0 h,γb];unfold cG;rw[γb,List.sum_append];split;·simp;omega
 ·simp
theorem UE {p:bn} {f:List Int} {r:Int}:mI p f r f.length=df p r - cG p ((bC f 1).map (oI p)) r:=by
 unfold mI;rw[π]
theorem UF {p:bn} {f:List Int} {r:Int} {k:Nat} (hc:bB p=0) (hl:f.length=p.offers.length): -640<=mI p f r k/\mI p f r k<=4:=by
 have h1:=@AE p hc r;have h2:=@sf p r ((bC (f.take k) 1).map (oI p)) λx hx=>by
  obtain⟨i,hi,rfl⟩:=List.mem_map.1 hx;have:=(kh.1 hi).1;rw[γq] at this;exact(ki hc (i:=i) (by omega)).2.2.1
 have h3:=@um (f.take k) 1;rw[Ω] at h2;rw[γq] at h3;have h4:=(dN hc).2.1;unfold mI;omega
section
variable {p:bn} {f:List Int}
theorem aeN (h:eT p f) {i:Int} (hi:0<=i/\i<f.length) (h0:bj f i.toNat 0=0):iz p (gh p f) (mF p) i<=0:=by
 have hm:i∈bC f 0:=kh.2 ⟨hi,h0⟩;have hl:(bC f 0).idxOf i<nF f:=List.idxOf_lt_length_of_mem hm;have h1:=adz h hl;have e:bj (bC f 0) ((bC f 0).idxOf i) 0=i:=by rw[cV hl];exact List.getElem_idxOf hl
 rw[AH hl,e,dn (g:=λk=>bj (gh p f) k 0*((dK p k (oI p i):Int):Rat)) λk hk=>by rw[yf hk hl,e]] at h1;unfold iz;grind
theorem aeO (h:eT p f):ku p f (gh p f) (mF p)=ja p f:=by
 unfold ku ja;rw[TP h,dn (g:=λk=>bj (gh p f) k 0*(cH p f).bd k) λk hk=>by rw[yg hk]]
end
def oo (p:bn) (f:List Int) (y:List Rat) (r k:Nat) (i:Int):Rat:=if bj f i.toNat 0=0 then iz p y (if i<(k:Int) then r+1 else r) i else(((oI p i).value:Int):Rat)
def ie (p:bn) (f:List Int) (y:List Rat) (r k:Nat):List bM:=(dH p.offers.length).map λ(i:Int)=>bu (oo p f y r k i)
def iG (p:bn) (f:List Int) (y:List Rat) (i:Nat):Rat:=ku p f y (mF p)+bN i λk=>if bj f k 0=0/\0<iz p y (mF p) k then iz p y (mF p) k else 0
def o7 (n:Nat) (K:Nat->Nat):Nat:=match n with
 |0=>0
 |n+1=>o7 n K+K n
def yK (p:bn) (y:List Rat):Prop:=∃K:Nat->Nat,(∀k,k<mF p->Sz (K k) (bj y k 0))/\o7 (mF p) K<=9000000
def wj (p:bn) (f:List Int) (x:List bM):Prop:=(bB p=0/\f.length=p.offers.length/\gp f=true)/\∃y,x=fL y/\y.length=mF p/\yK p y
def posB (x:List bM):Bool:=x.all λe=>!e.1
theorem uv {p:bn} {f:List Int} {y:List Rat} {r k:Nat}:(ie p f y r k).length=p.offers.length:=by unfold ie;rw[Ω,gG]
theorem wm {p:bn} {f:List Int} {y:List Rat} {r k j:Nat} (h:j<p.offers.length) {d:bM}:bj (ie p f y r k) j d=bu (oo p f y r k j):=aeI _ _ h
theorem Lj {p:bn} {f:List Int} {y:List Rat} {r k r' k':Nat} (h:∀j:Nat,j<p.offers.length->oo p f y r k j=oo p f y r' k' j):ie p f y r k=ie p f y r' k':=by
 refine Le (false,([],[])) (by rw[uv,uv]) λj hj=>?_;rw[uv] at hj;rw[wm hj,wm hj,h j hj]
theorem aeP {p:bn} {f:List Int} {y:List Rat} {i:Int} (i0:0<=i):oo p f y 0 0 i=(((oI p i).value:Int):Rat):=by
 unfold oo;rw[if_neg (show ¬i<((0:Nat):Int) by omega)];unfold iz;simp only[bN];split<;>grind
theorem aeQ {p:bn} {f:List Int} {y:List Rat} {r:Nat}:ie p f y r p.offers.length=ie p f y (r+1) 0:=Lj λj hj=>by
 unfold oo;rw[if_pos (show(j:Int)<(p.offers.length:Int) by omega),if_neg (show ¬(j:Int)<((0:Nat):Int) by omega)]
theorem Ll {p:bn} {f:List Int} {y:List Rat} {r:Nat} {k:Int} (k0:0<=k) (h:bj f k.toNat 0≠0\/dK p r (oI p k)=0\/bj y r 0=0):ie p f y r k.toNat=ie p f y r (k+1).toNat:=Lj λj hj=>by
 unfold oo;by_cases hj:(j:Int)=k
 ·rw[if_neg (show ¬(j:Int)<((k.toNat:Nat):Int) by omega),if_pos (show(j:Int)<(((k+1).toNat:Nat):Int) by omega),hj];split
  ·rename_i h0;rw[Lh];rcases h with h|h|h;·exact absurd h0 h
   ·rw[h];grind
   ·rw[h];grind
  ·rfl
 ·by_cases h2:(j:Int)<k;·rw[if_pos (show(j:Int)<((k.toNat:Nat):Int) by omega),if_pos (show(j:Int)<(((k+1).toNat:Nat):Int) by omega)]
  ·rw[if_neg (show ¬(j:Int)<((k.toNat:Nat):Int) by omega),if_neg (show ¬(j:Int)<(((k+1).toNat:Nat):Int) by omega)]
theorem aeR {p:bn} {f:List Int} {y:List Rat} {r:Nat} (h:bj y r 0=0):ie p f y r 0=ie p f y (r+1) 0:=Lj λj hj=>by
 unfold oo;rw[if_neg (show ¬(j:Int)<((0:Nat):Int) by omega),if_neg (show ¬(j:Int)<((0:Nat):Int) by omega),Lh,h];split<;>grind
theorem aeS {p:bn} {f:List Int} {y:List Rat} {r:Nat} {k:Int} (k0:0<=k) (h:k<p.offers.length) (h0:bj f k.toNat 0=0):(ie p f y r k.toNat).set k.toNat (bu (iz p y (r+1) k))=ie p f y r (k+1).toNat:=by
 refine Le (false,([],[])) (by rw[τ,uv,uv]) λj hj=>?_;rw[τ,uv] at hj;rw[iN (by rw[uv];omega),wm hj,wm hj];unfold oo;by_cases e:j=k.toNat;·rw[if_pos e,show((j:Nat):Int)=k by omega,if_pos h0,if_pos (show k<(((k+1).toNat:Nat):Int) by omega)]
 ·rw[if_neg e];by_cases h2:j<k.toNat;·rw[if_pos (show(j:Int)<((k.toNat:Nat):Int) by omega),if_pos (show(j:Int)<(((k+1).toNat:Nat):Int) by omega)]
  ·rw[if_neg (show ¬(j:Int)<((k.toNat:Nat):Int) by omega),if_neg (show ¬(j:Int)<(((k+1).toNat:Nat):Int) by omega)]
theorem aeT {p:bn} {f:List Int} {y:List Rat} {r:Nat} {k:Int} (k0:0<=k) (h0:bj f k.toNat 0=0):oo p f y r k.toNat k=iz p y r k:=by
 unfold oo;rw[if_pos h0,if_neg (show ¬k<((k.toNat:Nat):Int) by omega)]
theorem aeU {p:bn} {f:List Int} {y:List Rat} {r:Nat} (h:bj y r 0=0):ku p f y r=ku p f y (r+1):=by
 rw[UC,h];grind
theorem UG {p:bn} {f:List Int} {y:List Rat}:iG p f y 0=ku p f y (mF p):=by
 unfold iG;simp only[bN];grind
theorem UH {p:bn} {f:List Int} {y:List Rat} {i:Int} (i0:0<=i):iG p f y (i+1).toNat=iG p f y i.toNat+if bj f i.toNat 0=0/\0<iz p y (mF p) i then iz p y (mF p) i else 0:=by
 rw[show(i+1).toNat=i.toNat+1 by omega];unfold iG;simp only[bN];rw[show((i.toNat:Nat):Int)=i by omega];grind
section
variable {p:bn} {f:List Int} {y:List Rat}
theorem UI {K:Nat->Nat}:∀{n k:Nat},k<n->K k<=o7 n K
 |0,_,h=>by omega;|n+1,k,h=>by
  simp only[o7];by_cases e:k=n;·rw[e];omega
  ·have:=@UI K n k (by omega);omega
theorem UJ {g:Nat->Rat} {K:Nat->Nat} {c:Nat}:∀{n:Nat},(∀k,k<n->Sz (K k+c) (g k))->Sz (o7 n K+n*(c+1)+1) (bN n g)
 |0,_=>by
  simp only[bN];exact(show Sz 1 0 by unfold Sz;decide).mono (by omega);|n+1,h=>by
  simp only[bN,o7];have h1:Sz (o7 n K+n*(c+1)+1) (bN n g):=UJ λk hk=>h k (by omega);exact(Am h1 (h n (by omega))).mono (by rw[Nat.add_mul];omega)
theorem UK (h:yK p y) {k:Nat} (hk:k<mF p):Sz 9000000 (bj y k 0):=by
 obtain⟨K,h1,h2⟩:=h;exact(h1 k hk).mono (by have:=@UI K _ _ hk;omega)
def pP (y:List Rat) (m:Nat) (C:Int) (q:Rat):Prop:=∃(c:Int) (z:Nat->Int),(-C<=c/\c<=C)/\(∀r,r<m-> -C<=z r/\z r<=C)/\q=(c:Rat)+bN m λr=>bj y r 0*((z r:Int):Rat)
theorem aeV {m:Nat} {C D:Int} {q q':Rat} (h:pP y m C q) (h':pP y m D q'):pP y m (C+D) (q+q'):=by
 obtain⟨c,z,h1,h2,h3⟩:=h;obtain⟨c',z',h1',h2',h3'⟩:=h';refine⟨c+c',λr=>z r+z' r,by omega,λr hr=>?_,?_⟩
 ·have a:=h2 r hr;have b:=h2' r hr;show -(C+D)<=z r+z' r/\z r+z' r<=C+D;omega
 ·have e:(bN m λr=>bj y r 0*(((z r+z' r:Int)):Rat))=(bN m λr=>bj y r 0*((z r:Int):Rat))+bN m λr=>bj y r 0*((z' r:Int):Rat):=by
   rw[<-sA];exact dn λr _=>by rw[εC,Rat.mul_add]
  show _=((c+c':Int):Rat)+bN m λr=>bj y r 0*(((z r+z' r:Int)):Rat);rw[e,h3,h3',εC];grind
theorem UL {m:Nat} {C D:Int} {q:Rat} (h:pP y m C q) (hC:C<=D):pP y m D q:=by
 obtain⟨c,z,h1,h2,h3⟩:=h;exact⟨c,z,by omega,λr hr=>by have:=h2 r hr;omega,h3⟩
theorem aeW {m:Nat} {C:Int} (hC:0<=C):pP y m C 0:=⟨0,λ_=>0,by omega,λ_ _=>⟨by show -C<=0;omega,hC⟩,by
 rw[dn (g:=λ_=>0) λr _=>by show bj y r 0*((0:Int):Rat)=0;exact Rat.mul_zero _,hZ,ζx];rfl⟩
theorem Lm {C:Int} {q:Rat} (h:pP y (mF p) C q) (hC:C<=9223372036854775807) (hy:yK p y) (hm:mF p<=20):Sz 9000100 q:=by
 obtain⟨c,z,h1,h2,rfl⟩:=h;obtain⟨K,k1,k2⟩:=hy;have hs:Sz (o7 (mF p) K+mF p*3+1) (bN (mF p) λr=>bj y r 0*((z r:Int):Rat)):=UJ (c:=2) λr hr=>by
  have:=h2 r hr;exact ub (k1 r hr) (rD (W:=z r) (by omega) (by omega))
 refine(Am (rD (W:=c) (by omega) (by omega)) hs).mono ?_;have:mF p*3<=20*3:=Nat.mul_le_mul_right _ (by omega);omega
theorem UM {g:Nat->Rat} {r:Nat}:∀{m:Nat},r<=m->(bN m λk=>if k<r then g k else 0)=bN r g
 |0,h=>by rw[show r=0 by omega];rfl;|m+1,h=>by
  by_cases e:r=m+1
  ·rw[e];exact dn λk hk=>if_pos hk
  ·simp only[bN];rw[if_neg (by omega),ζx];exact UM (by omega)
theorem UN {r m:Nat} (hr:r<=m) {C c:Int} {z:Nat->Int} (h1: -C<=c/\c<=C) (h2:∀k,k<r-> -C<=z k/\z k<=C):pP y m C ((c:Rat)+bN r λk=>bj y k 0*((z k:Int):Rat)):=by
 refine⟨c,λk=>if k<r then z k else 0,h1,λk hk=>?_,?_⟩
 ·show -C<=(if k<r then z k else 0)/\(if k<r then z k else 0)<=C;split;·rename_i h;exact h2 k h
  ·omega
 ·rw[<-UM hr];congr 1;refine dn λk _=>?_;show _=bj y k 0*(((if k<r then z k else 0:Int)):Rat);split;·rfl
  ·exact(Rat.mul_zero _).symm
theorem UO (hc:bB p=0) {r:Nat} (hr:r<=mF p) {i:Int} (hi:0<=i/\i<p.offers.length):pP y (mF p) 1000000 (iz p y r i):=by
 have ho:=ki hc hi;have h:=@UN y r (mF p) hr 1000000 (oI p i).value (λk=> -dK p k (oI p i)) (by omega) λk _=>by
  have:=@pD p k _ ho.2.2.1;show -1000000<= -dK p k (oI p i)/\ -dK p k (oI p i)<=1000000;omega
 have e:iz p y r i=(((oI p i).value:Int):Rat)+bN r λk=>bj y k 0*(((-dK p k (oI p i):Int)):Rat):=by
  unfold iz;rw[Rat.sub_eq_add_neg];congr 1;rw[show(-(bN r λk=>bj y k 0*((dK p k (oI p i):Int):Rat)))=(-1)*(bN r λk=>bj y k 0*((dK p k (oI p i):Int):Rat)) by grind,<-uf];refine dn λk _=>?_;rw[Rat.intCast_neg];grind
 rw[e];exact h
theorem UP (hc:bB p=0) (hl:f.length=p.offers.length) {r:Nat} (hr:r<=mF p):pP y (mF p) 1000000000 (ku p f y r):=by
 have ha:=@AP p hc f f.length hl;rw[π] at ha;unfold ku;refine UN hr (by omega) λk _=>?_;have hb:=@UF p f k f.length hc hl;rw[UE] at hb;show -1000000000<=df p k - cG p ((bC f 1).map (oI p)) k/\df p k - cG p ((bC f 1).map (oI p)) k<=1000000000;omega
theorem UQ (hc:bB p=0) (hl:f.length=p.offers.length):∀{i:Nat},i<=f.length->pP y (mF p) (1000000000+1000000*i) (iG p f y i)
 |0,_=>by rw[UG];exact UL (UP hc hl (φ _)) (by omega);|i+1,h=>by
  have hs:=@UH p f y i (by omega);rw[show((i:Int)+1).toNat=i+1 by omega,Ψ] at hs;rw[hs];have h1:=UQ hc hl (i:=i) (by omega);have h2:pP y (mF p) 1000000 (if bj f i 0=0/\0<iz p y (mF p) i then iz p y (mF p) i else 0):=by
   split;·exact UO hc (φ _) (by omega)
   ·exact aeW (by omega)
  exact UL (aeV h1 h2) (by omega)
theorem E3 (hc:bB p=0):mF p<=20:=by have:=(dN hc).1;unfold mF;omega
theorem UR (hc:bB p=0) (hy:yK p y) {r:Nat} (hr:r<=mF p) {i:Int} (hi:0<=i/\i<p.offers.length):Sz 9000100 (iz p y r i):=Lm (UO hc hr hi) (by omega) hy (E3 hc)
theorem aeX (hc:bB p=0) (hl:f.length=p.offers.length) (hy:yK p y) {r:Nat} (hr:r<=mF p):Sz 9000100 (ku p f y r):=Lm (UP hc hl hr) (by omega) hy (E3 hc)
theorem US (hc:bB p=0) (hl:f.length=p.offers.length) (hy:yK p y) {i:Nat} (hi:i<=f.length):Sz 9000100 (iG p f y i):=Lm (UQ hc hl hi) (by have:=(dN hc).2.1;omega) hy (E3 hc)
end
def aeY (f:FuncId) {α:Type} (A:qo α) (dom:α->Prop) (res:α->SV):dF where
 f:=f;α:=α;put:=A.put;st _:=[];dec v o:=match o with
  |[]=>A.dec v
  |_=>none;ok v o a h:=by
  split at h;·exact⟨A.ok _ _ h,rfl⟩
  ·cases h
 inj a b h _:=A.inj _ _ h;dom:=dom;res:=res;out _:=[]
def Ln:dF:=aeY 108 (.cons dE (.one (dM (.i .i64)))) (λ(a:bn×List Int)=>bB a.1=0/\a.2.length=a.1.offers.length) λa=>pG (ι (gd a.1 a.2))
def aeZ (p:bn) (f:List Int):Nat->cC
 |3=> .inv Int (λi=>⟨[(2,.ptr 0 0 20),(4,.ptr 1 0 3),(5,.si .i64 (gd p (f.take i.toNat))),(8,.row (.i .i64) f),(9,.si .i64 f.length),(10,.si .i64 i)],[.cells p.ss 27 20 false,.cells [.bl false,.sc (.slice none 0 0),.sc (.slice none 0 0)] 126 3 false]⟩)
   (λs=>iS s 10) (λi=>0<=i/\i<=f.length) (λi=>(f.length - i).toNat) λ_ _=> .look
 |_=> .look
theorem h396o:dZ Tryz.prog Ln:=by
 refine A0 (L:=[nY]) (W:=[]) Ln (λa=>aeZ a.1 a.2) (by simp) (by simpa using h94) ?_;rintro⟨p,f⟩ ⟨hc,hl⟩;simp only at hc hl;refine bO (let a:=γe .i64;let b:=(0:Int);let c:=Θ;let h:=γP 0 0 20;let j:=γP 1 0 3;let s:=γx .i64 0;let k:=c (bp.i .i64) f;let d:=(↑f.length:Int);let o:=a d;let l:=bq.cells (bn.ss p) 27 20 false;let t:=SV.sc (Value.slice none 0 0);let m:=bq.cells [δa false,t,t] 126 3 false;let n:=bp.i .u32;let q:=bu (ι (gd p f));(((h.same h/\j.same j/\s.same (a (gd p []))/\k.same k/\(a (↑f.length:Int)).same o/\s.same (a 0)/\True)/\l.same l/\m.same m/\True)/\b<=b/\b<=d)/\∀(x:Int),let e:=x+(1:Int);let v:=a e;let w:=decide (bj f x.toNat b=(1:Int));let g:=gd p (ω x.toNat f);let y:=g+(bj p.offers x.toNat bp.off.dflt).value;let r:=bu (ι g);let z:=λ(u:Int) ↦cn .i64 e/\((h.same h/\j.same j/\(a u).same (a (gd p (ω e.toNat f)))/\k.same k/\o.same o/\v.same v/\True)/\l.same l/\m.same m/\True)/\(b<=e/\e<=d)/\(d - e).toNat<(d - x).toNat;b<=x/\x<=d->(decide (x<d)=true->b<=x/\x<(↑f.length:Int)/\x.toNat<f.length/\(w=true->b<=x/\x<(↑p.offers.length:Int)/\x.toNat<p.offers.length/\cn .i64 y/\z y)/\(w=false->z g))/\(decide (x<d)=false->((-9223372036854775808:Int)<=g/\g<=(9223372036854775807:Int))/\(γQ [γw r.fst,c n r.snd.fst,c n r.snd.snd]).same (γQ [γw q.fst,c n q.snd.fst,c n q.snd.snd])/\True)) (by kernel_rfl) ?_;simp only[vcs];have h160:=(dN hc).2.1;refine⟨⟨by simp[gd,bC,dH,cu],by omega,by omega⟩,?_⟩;rintro i ⟨i0,i1⟩;have hb:=@AP p hc f i.toNat hl;refine⟨λhi=>?_,λhi=>?_⟩
 ·have hs:=@Tv p f i i0 hi;have ho:=ki hc (i:=i) ⟨i0,by omega⟩;have hv:(bj p.offers i.toNat bp.off.dflt).value=(oI p i).value:=rfl;rw[hv];refine⟨i0,hi,by omega,λh1=>?_,λh1=>?_⟩
  ·rw[if_pos h1] at hs;refine⟨i0,?_,?_,?_,?_,?_,?_,?_⟩<;>omega
  ·rw[if_neg h1] at hs;refine⟨?_,?_,?_,?_⟩<;>omega
 ·rw[show f.take i.toNat=f by rw[show i.toNat=f.length by omega,π]] at hb ⊢;exact⟨by omega,rfl⟩
def fsN (p:bn) (f:List Int) (x:List bM):SV:=.agg [.sb (if posB x=true then(bu (iG p f (vL x) f.length)).1 else false),.row (.i .u32) (if posB x=true then(bu (iG p f (vL x) f.length)).2.1 else[]),.row (.i .u32) (if posB x=true then(bu (iG p f (vL x) f.length)).2.2 else[])]
def Lq:bL:=⟨211,bn×List Int×List bM,.cons dE (.cons (dM (.i .i64)) (.one (dM sF))),λa=>wj a.1 a.2.1 a.2.2,λa=> .bJ [fsN a.1 a.2.1 a.2.2,.si .i64 (if posB a.2.2=true then 0 else 4)]⟩
def E4 (p:bn) (q:Rat) (ex:List bM):bZ:=[.cells p.ss 27 20 false,.cells [.bl false,.sc (.slice none 0 0),.sc (.slice none 0 0)] 126 3 false,.cells [.sb (bu q).1,.row (.i .u32) (bu q).2.1,.row (.i .u32) (bu q).2.2] 126 3 false,.row sF ex 126 true]
noncomputable def ae1 (p:bn) (f:List Int) (x:List bM):Nat->cC
 |7=> .inv Int (λi=>⟨[(1,.row (.i .i64) f),(2,.row sF x),(3,.ptr 0 0 20),(6,.ptr 1 0 3),(35,.row sF x),(36,.si .i64 x.length),(37,.si .i64 i)],[.cells p.ss 27 20 false,.cells [.bl false,.sc (.slice none 0 0),.sc (.slice none 0 0)] 126 3 false]⟩)
   (λs=>iS s 37) (λi=>0<=i/\i<=x.length/\posB (x.take i.toNat)=true) (λi=>(x.length - i).toNat) λ_ _=> .look
 |17=> .inv Int (λi=>⟨[(1,.row (.i .i64) f),(2,.row sF x),(3,.ptr 0 0 20),(6,.ptr 1 0 3),(11,.ptr 2 0 3),(12,.ow 3 f.length 3),(57,.si .i64 f.length),(58,.si .i64 i)],E4 p (ι (gd p f)) (eQ (ie p f (vL x) 0 0) i.toNat (false,([],[])))⟩)
   (λs=>iS s 58) (λi=>0<=i/\i<=f.length) (λi=>(f.length - i).toNat) λ_ _=> .look
 |22=> .inv Int (λr=>⟨[(1,.row (.i .i64) f),(3,.ptr 0 0 20),(6,.ptr 1 0 3),(11,.ptr 2 0 3),(12,.ow 3 f.length 3),(72,.row sF x),(73,.si .i64 x.length),(74,.si .i64 r)],E4 p (ku p f (vL x) r.toNat) (ie p f (vL x) r.toNat 0)⟩)
   (λs=>iS s 74) (λr=>0<=r/\r<=x.length) (λr=>(x.length - r).toNat) λr k=>match k with
   |27=> .inv Int (λk=>⟨[(1,.row (.i .i64) f),(3,.ptr 0 0 20),(6,.ptr 1 0 3),(11,.ptr 2 0 3),(12,.ow 3 f.length 3),(15,.ptr 4 0 3),(17,.si .i64 (mI p f r k.toNat)),(72,.row sF x),(73,.si .i64 x.length),(74,.si .i64 r),(88,.row (.i .i64) (iy p r p.offers.length)),(89,.si .i64 f.length),(90,.si .i64 k)],
      E4 p (ku p f (vL x) r.toNat) (ie p f (vL x) r.toNat k.toNat)++[.cells [.sb (bj x r.toNat sF.dflt).1,.row (.i .u32) (bj x r.toNat sF.dflt).2.1,.row (.i .u32) (bj x r.toNat sF.dflt).2.2] 126 3 false]⟩)
     (λs=>iS s 90) (λk=>0<=k/\k<=f.length) (λk=>(f.length - k).toNat) λ_ _=> .look
   |_=> .look
 |38=> .inv Int (λi=>⟨[(6,.ptr 1 0 3),(11,.ptr 2 0 3),(12,.ow 3 f.length 3),(133,.row (.i .i64) f),(134,.si .i64 f.length),(135,.si .i64 i)],E4 p (iG p f (vL x) i.toNat) (ie p f (vL x) (mF p) 0)⟩)
   (λs=>iS s 135) (λi=>0<=i/\i<=f.length) (λi=>(f.length - i).toNat) λ_ _=> .look
 |_=> .look
theorem h494:Holds Tryz.prog Lq:=by
 refine con (L:=[Ep,yd,ua,sx,nY,D2,Ar,Aq,vP]) (W:=gB [Ln]) Lq (λa=>ae1 a.1 a.2.1 a.2.2) (ln (by simpa using h396o)) (by simpa using⟨h393,h335,h407,h99,h94,h336,h410,h95,h129⟩) ?_;rintro⟨p,f,x⟩ ⟨⟨hc,hl,hr⟩,y,hx,hyl,hy⟩;simp only at hc hl hr hx hyl hy;refine bO (let a:=Θ;let c:=γe .i64;let d:=(0:Int);let e:=bq.cells;let g:=bq.row;let h:=(-9223372036854775808:Int);let j:=(9223372036854775807:Int);let k:=cn .i64;let l:=γw;let m:=(1:Int);let n:=γx .i64;let o:=sF.dflt;let q:=SV.bJ;let r:=γP;let s:=δa false;let t:=γQ;let v:=bp.i .i64;let am:=t [s,a v [],a v []];let an:=bu (iG p f (vL x) f.length);let w:=bp.i .u32;let ad:=q [t [l (if posB x=true then an.fst else false),a w (if posB x=true then an.snd.fst else[]),a w (if posB x=true then an.snd.snd else[])],c (if posB x=true then d else(4:Int))];let T:=(↑x.length:Int);let aK:=if bB p=d then cZ p else d;let E:=r 0 0 20;let z:=r 1 0 3;let F:=(↑x.length:Int);let G:=c F;let U:=n 0;let A:=e [c p.supply.a0,c p.supply.a1,c p.supply.a2,c p.supply.a3,c p.supply.a4,c p.supply.a5,c p.opn.a0,c p.opn.a1,c p.opn.a2,c p.opn.a3,c p.opn.a4,c p.opn.a5,c p.cls.a0,c p.cls.a1,c p.cls.a2,c p.cls.a3,c p.cls.a4,c p.cls.a5,a v p.classes,a bp.off p.offers] 27 20 false;let aL:=SV.sc (Value.slice none 0 0);let B:=e [s,aL,aL] 126 3 false;let aM:=p.offers.length;let I:=(↑f.length:Int);let C:=r 2 0 3;let D:=γS 3 f.length 3;let y:=(↑f.length:Int);let H:=c y;let V:=bu (ι (gd p f));let ae:=e [l V.fst,a w V.snd.fst,a w V.snd.snd] 126 3 false;let af:=(false,[],[]);let ag:=ie p f (vL x) 0 0;let ao:=bu (ku p f (vL x) 0);let W:=r 4 0 3;let bg:=bu (iG p f (vL x) 0);let ap:=ie p f (vL x) (mF p) 0;let aa:=g sF ap 126 true;let O:=ap.length;let aN:=λ(u u_1:Int) (u_2:SV) ↦decide (u≠u_1)=true->(q [am,u_2]).same ad;f.length<=1000000000000/\aN (i7 p f) d (c (i7 p f))/\(decide (i7 p f≠d)=false->True/\aN T aK (n 3)/\(decide (T≠aK)=false->((((a v f).same (a v f)/\(a sF x).same (a sF x)/\E.same E/\z.same z/\(a sF x).same (a sF x)/\(c T).same G/\U.same (c 0)/\True)/\A.same A/\B.same B/\True)/\d<=d/\d<=F/\posB []=true)/\∀(x_1:Int),let Q:=bj x x_1.toNat o;let aq:=(Q.fst,Q.snd.fst,Q.snd.snd);let X:=x_1+m;let aO:=c X;let aP:=λ(u:Bool) ↦decide (jA (bQ aq)<d)=u;let aQ:=λ(u:Bool) ↦(!okF aq)=u;d<=x_1/\x_1<=F/\posB (ω x_1.toNat x)=true->(decide (x_1<F)=true->d<=x_1/\x_1<T/\x_1.toNat<x.length/\((bz Q.snd.fst/\bz Q.snd.snd)/\γf Q.snd.fst<=10000000/\γf Q.snd.snd<=10000000)/\(aQ true->(q [am,n 2]).same ad)/\(aQ false->cB aq/\(aP true->(q [am,n 4]).same ad)/\(aP false->k X/\(((a v f).same (a v f)/\(a sF x).same (a sF x)/\E.same E/\z.same z/\(a sF x).same (a sF x)/\G.same G/\aO.same aO/\True)/\A.same A/\B.same B/\True)/\(d<=X/\X<=F/\posB (ω X.toNat x)=true)/\(F - X).toNat<(F - x_1).toNat)))/\(decide (x_1<F)=false->(bB p=d/\f.length=aM)/\d<=I/\I<=I/\I*(56:Int)<=(140737488355328:Int)/\I<=(1000000000000:Int)/\((((a v f).same (a v f)/\(a sF x).same (a sF x)/\E.same E/\z.same z/\C.same C/\(γS 3 I.toNat 3).same D/\(c (↑I.toNat:Int)).same H/\U.same (c 0)/\True)/\A.same A/\B.same B/\(e [l V.fst,a w V.snd.fst,a w V.snd.snd] 126 3 false).same ae/\(g (bp.b.pair (w.bH.pair w.bH)) (δ I.toNat af) 126 true).same (g sF (eQ ag 0 af) 126 true)/\True)/\d<=d/\d<=y)/\∀(x_2:Int),let ar:=(bj p.offers x_2.toNat bp.off.dflt).value;let Y:=eQ ag x_2.toNat af;let Z:=x_2+m;let aR:=c Z;let au:=bu (ι ar);d<=x_2/\x_2<=y->(decide (x_2<y)=true->d<=x_2/\x_2<(↑p.offers.length:Int)/\x_2.toNat<p.offers.length/\(h<=ar/\ar<=j)/\f.length=Y.length/\d<=x_2/\x_2<(↑Y.length:Int)/\f.length=Y.length/\x_2.toNat<Y.length/\k Z/\(((a v f).same (a v f)/\(a sF x).same (a sF x)/\E.same E/\z.same z/\C.same C/\D.same D/\H.same H/\aR.same aR/\True)/\A.same A/\B.same B/\ae.same ae/\(g sF (Y.set x_2.toNat (au.fst,au.snd.fst,au.snd.snd)) 126 true).same (g sF (eQ ag Z.toNat af) 126 true)/\True)/\(d<=Z/\Z<=y)/\(y - Z).toNat<(y - x_2).toNat)/\(decide (x_2<y)=false->((((a v f).same (a v f)/\E.same E/\z.same z/\C.same C/\D.same D/\(a sF x).same (a sF x)/\(c T).same G/\U.same (c 0)/\True)/\A.same A/\B.same B/\ae.same (e [l ao.fst,a w ao.snd.fst,a w ao.snd.snd] 126 3 false)/\(g sF Y 126 true).same (g sF ag 126 true)/\True)/\d<=d/\d<=F)/\∀(x_3:Int),let a6:=bu (ku p f (vL x) x_3.toNat);let R:=e [l a6.fst,a w a6.snd.fst,a w a6.snd.snd] 126 3 false;let av:=g sF (ie p f (vL x) x_3.toNat 0) 126 true;let a7:=bj x x_3.toNat o;let aS:=(a7.fst,a7.snd.fst,a7.snd.snd);let J:=x_3+m;let ah:=c J;let ai:=bu (ku p f (vL x) J.toNat);let aT:=g sF (ie p f (vL x) J.toNat 0) 126 true;let M:=iy p x_3 aM;let a8:=bj x x_3.toNat o;let ab:=e [l a8.fst,a w a8.snd.fst,a w a8.snd.snd] 126 3 false;let ac:=(a8.fst,a8.snd.fst,a8.snd.snd);let aU:=(a6.fst,a6.snd.fst,a6.snd.snd);let aV:=λ(u:bM) (u_1:bq) ↦R.same (e [l u.fst,a w u.snd.fst,a w u.snd.snd] 126 3 false)/\av.same u_1/\True;let aW:=λ(u:Bool) ↦decide (jA (bQ aS)=d)=u;d<=x_3/\x_3<=F->(decide (x_3<F)=true->d<=x_3/\x_3<T/\x_3.toNat<x.length/\cB aS/\(aW true->k J/\(((a v f).same (a v f)/\E.same E/\z.same z/\C.same C/\D.same D/\(a sF x).same (a sF x)/\G.same G/\ah.same ah/\True)/\A.same A/\B.same B/\aV ai aT)/\(d<=J/\J<=F)/\(F - J).toNat<(F - x_3).toNat)/\(aW false->(bB p=d/\d<=x_3/\x_3<cZ p)/\((((a v f).same (a v f)/\E.same E/\z.same z/\C.same C/\D.same D/\W.same W/\(c (df p x_3)).same (c (mI p f x_3 0))/\(a sF x).same (a sF x)/\G.same G/\(c x_3).same (c x_3)/\(a v M).same (a v M)/\(c (↑M.length:Int)).same H/\U.same (c 0)/\True)/\A.same A/\B.same B/\R.same R/\av.same av/\(e [l a7.fst,a w a7.snd.fst,a w a7.snd.snd] 126 3 false).same ab/\True)/\d<=d/\d<=y)/\∀(eh:Int),let K:=eh+m;let P:=mI p f x_3 eh.toNat;let aX:=c (mI p f x_3 K.toNat);let aj:=c x_3;let ak:=c K;let L:=ie p f (vL x) x_3.toNat eh.toNat;let aw:=g sF L 126 true;let aY:=g sF (ie p f (vL x) x_3.toNat K.toNat) 126 true;let S:=bj M eh.toNat d;let aZ:=decide (S=d);let b0:=bj f eh.toNat d;let b1:=decide (b0=m);let b2:=decide (b0=d);let ax:=bu (ι S);let b3:=(ax.fst,ax.snd.fst,ax.snd.snd);let ay:=bj L eh.toNat o;let b4:=(ay.fst,ay.snd.fst,ay.snd.snd);let az:=bu (bQ ac*bQ b3);let aA:=bu (bQ b4 - bQ (az.fst,az.snd.fst,az.snd.snd));let aB:=bu (ι P);let b5:=(aB.fst,aB.snd.fst,aB.snd.snd);let aC:=bu (bQ ac*bQ b5);let aD:=bu (bQ aU+bQ (aC.fst,aC.snd.fst,aC.snd.snd));let b6:=k K/\(((a v f).same (a v f)/\E.same E/\z.same z/\C.same C/\D.same D/\W.same W/\(c P).same aX/\(a sF x).same (a sF x)/\G.same G/\aj.same aj/\(a v M).same (a v M)/\H.same H/\ak.same ak/\True)/\A.same A/\B.same B/\R.same R/\aw.same aY/\ab.same ab/\True)/\(d<=K/\K<=y)/\(y - K).toNat<(y - eh).toNat;let b7:=λ(u:Int) (u_1:bq) ↦k K/\(((a v f).same (a v f)/\E.same E/\z.same z/\C.same C/\D.same D/\W.same W/\(c u).same aX/\(a sF x).same (a sF x)/\G.same G/\aj.same aj/\(a v M).same (a v M)/\H.same H/\ak.same ak/\True)/\A.same A/\B.same B/\R.same R/\u_1.same aY/\ab.same ab/\True)/\(d<=K/\K<=y)/\(y - K).toNat<(y - eh).toNat;let b8:=λ(u:Bool×List Int×List Int) (u_1:Int) ↦let aE:=bu (ι u_1);let aF:=bu (bQ ac*bQ (aE.fst,aE.snd.fst,aE.snd.snd));cB u/\cB (aF.fst,aF.snd.fst,aF.snd.snd);d<=eh/\eh<=y->(decide (eh<y)=true->d<=eh/\eh<(↑M.length:Int)/\eh.toNat<M.length/\(aZ=true->b6)/\(aZ=false->d<=eh/\eh<I/\eh.toNat<f.length/\(b1=true->k (P - S)/\b7 (P - S) aw)/\(b1=false->d<=eh/\eh<I/\eh.toNat<f.length/\(b2=true->f.length=L.length/\d<=eh/\eh<(↑L.length:Int)/\f.length=L.length/\eh.toNat<L.length/\(h<=S/\S<=j)/\(cB ac/\cB b3)/\b8 b4 S/\f.length=L.length/\d<=eh/\eh<(↑L.length:Int)/\f.length=L.length/\eh.toNat<L.length/\b7 P (g sF (L.set eh.toNat (aA.fst,aA.snd.fst,aA.snd.snd)) 126 true))/\(b2=false->b6))))/\(decide (eh<y)=false->(h<=P/\P<=j)/\(cB ac/\cB b5)/\b8 aU P/\k J/\(((a v f).same (a v f)/\E.same E/\z.same z/\C.same C/\D.same D/\(a sF x).same (a sF x)/\G.same G/\ah.same ah/\True)/\A.same A/\B.same B/\(e [l aD.fst,a w aD.snd.fst,a w aD.snd.snd] 126 3 false).same (e [l ai.fst,a w ai.snd.fst,a w ai.snd.snd] 126 3 false)/\aw.same aT/\True)/\(d<=J/\J<=F)/\(F - J).toNat<(F - x_3).toNat)))/\(decide (x_3<F)=false->(((z.same z/\C.same C/\D.same D/\(a v f).same (a v f)/\(c I).same H/\U.same (c 0)/\True)/\A.same A/\B.same B/\aV bg aa)/\d<=d/\d<=y)/\∀(eh:Int),let N:=eh+m;let al:=c N;let a9:=bu (iG p f (vL x) eh.toNat);let b9:=[l a9.fst,a w a9.snd.fst,a w a9.snd.snd];let aG:=bu (iG p f (vL x) N.toNat);let ba:=e [l aG.fst,a w aG.snd.fst,a w aG.snd.snd] 126 3 false;let aH:=bj ap eh.toNat o;let aI:=(aH.fst,aH.snd.fst,aH.snd.snd);let bb:=decide (bj f eh.toNat d=d);let bc:=(a9.fst,a9.snd.fst,a9.snd.snd);let aJ:=bu (bQ bc+bQ aI);let bd:=k N/\((z.same z/\C.same C/\D.same D/\(a v f).same (a v f)/\H.same H/\al.same al/\True)/\A.same A/\B.same B/\(e b9 126 3 false).same ba/\aa.same aa/\True)/\(d<=N/\N<=y)/\(y - N).toNat<(y - eh).toNat;let be:=cB aI;let bf:=λ(u:Bool) ↦decide (d<jA (bQ aI))=u;d<=eh/\eh<=y->(decide (eh<y)=true->d<=eh/\eh<I/\eh.toNat<f.length/\(bb=true->f.length=O/\d<=eh/\eh<(↑O:Int)/\f.length=O/\eh.toNat<O/\be/\(bf true->f.length=O/\d<=eh/\eh<(↑O:Int)/\f.length=O/\eh.toNat<O/\(cB bc/\be)/\k N/\((z.same z/\C.same C/\D.same D/\(a v f).same (a v f)/\H.same H/\al.same al/\True)/\A.same A/\B.same B/\(e [l aJ.fst,a w aJ.snd.fst,a w aJ.snd.snd] 126 3 false).same ba/\aa.same aa/\True)/\(d<=N/\N<=y)/\(y - N).toNat<(y - eh).toNat)/\(bf false->bd))/\(bb=false->bd))/\(decide (eh<y)=false->(q [t b9,U]).same ad))))))) (by kernel_rfl) ?_;simp only[vcs];have hgo:=dN hc;have h160:=hgo.2.1;have hfe:i7 p f=0:=by simp[i7,hc,hl,hr]
 have hnr:cZ p=mF p:=by unfold cZ mF;omega
 have hxl:x.length=mF p:=by rw[hx,ft,hyl]
 have hvl:vL x=y:=by rw[hx,kJ]
 have agQ:mF p<=20:=by have:=hgo.1;unfold mF;omega
 have hxn:∀r:Int,0<=r->r<mF p->bj x r.toNat sF.dflt=bu (bj y r.toNat 0):=λr h0 h1=>by rw[hx];exact jl (by rw[hyl];omega)
 have wo:∀{q q':Rat},q=q'->(bq.cells [.sb (bu q).1,.row (.i .u32) (bu q).2.1,.row (.i .u32) (bu q).2.2] 126 3 false).same (bq.cells [.sb (bu q').1,.row (.i .u32) (bu q').2.1,.row (.i .u32) (bu q').2.2] 126 3 false):=by rintro _ _ rfl;rfl
 have rI:∀{a b:List bM},a=b->(bq.row sF a 126 true).same (bq.row sF b 126 true):=by rintro _ _ rfl;rfl
 have yC:∀{a b:Nat},a=b->(γS 3 a 3).same (γS 3 b 3):=by rintro _ _ rfl;rfl
 have hval:∀i:Int,(bj p.offers i.toNat bp.off.dflt).value=(oI p i).value:=λi=>rfl;have hel:∀r k,(ie p f y r k).length=f.length:=λr k=>by rw[uv,hl]
 rw[if_pos hc,hnr,hvl];simp only[jB,ez,hval,Ψ];refine⟨by omega,λh=>absurd hfe h,λ_=>⟨λh=>absurd (by rw[hxl]) h,λ_=>⟨⟨by omega,by omega,rfl⟩,?_⟩⟩⟩;rintro i ⟨i0,i1,hall⟩;have et:=λh=>kC (d:=sF.dflt) (l:=x) i0 h;refine⟨λhi=>?_,λhge=>?_⟩
 ·have hys:=UK hy (k:=i.toNat) (by omega);have hm:=dj (d:=sF.dflt) (show i.toNat<x.length by omega);have et:=et hi;have hok:=EL (bj y i.toNat 0);obtain⟨s1,⟨u1,u2,u3⟩,⟨u4,u5,u6⟩⟩:=lu (bj y i.toNat 0);obtain⟨m1,m2⟩:=oQ hys;rw[hxn i i0 (by omega)] at hm et ⊢;refine⟨i0,hi,by omega,⟨⟨u1,u4⟩,by omega,by omega⟩,(λh=>by rw[hok] at h;cases h),λ_=>⟨dP hys (by omega),λh=>?_,λh=>⟨by omega,⟨by omega,by omega,?_⟩,by omega⟩⟩⟩
  ·have hn:bj y i.toNat 0<0:=Az.1 (by rwa [ez] at h);have hp:posB x=false:=by
    rw[γ7];intro ha;have:=κ.1 ha _ hm;have e:(bu (bj y i.toNat 0)).1=true:=decide_eq_true hn;rw[e] at this;cases this
   simp only[hp,χ,if_false];first|exact rfl|exact⟨rfl,rfl⟩|exact⟨rfl,trivial⟩|(unfold SV.same;exact⟨rfl,rfl⟩)
  ·have hn:¬bj y i.toNat 0<0:=λhh=>h (by rw[ez];exact Az.2 hh);have e:(bu (bj y i.toNat 0)).1=false:=decide_eq_false hn;unfold posB at hall ⊢;rw[et,εT,hall];simp[e]
 have hpos:posB x=true:=by rwa [show i.toNat=x.length by omega,π] at hall
 simp only[hpos,if_true];refine⟨⟨hc,hl⟩,by omega,by omega,by omega,by omega,⟨⟨⟨yC rfl,trivial⟩,rI ?_⟩,by omega,by omega⟩,?_⟩;·rw[yn,hel]
 rintro i ⟨i0,i1⟩;have oG:=@ym (ie p f y 0 0) i.toNat (false,([],[])) (by rw[hel];omega);rw[hel] at oG;refine⟨λhi=>?_,λhi=>?_⟩
 ·have ho:=ki hc (i:=i) ⟨i0,by omega⟩;have hE:bj (ie p f y 0 0) i.toNat (false,([],[]))=bu (ι (oI p i).value):=by
   rw[wm (by omega),show((i.toNat:Nat):Int)=i by omega,aeP i0]
  exact⟨i0,by omega,by omega,by omega,by omega,by omega,by omega,by omega,by omega,by omega,rI (by rw[yp (by rw[hel];omega) hE.symm,show(i+1).toNat=i.toNat+1 by omega]),by omega,by omega⟩
 rw[show i.toNat=(ie p f y 0 0).length by rw[hel];omega,yo];refine⟨⟨⟨wo aeJ.symm,rI rfl⟩,by omega,by omega⟩,?_⟩;rintro r ⟨r0,r1⟩;refine⟨λhr1=>?_,λhr1=>?_⟩
 ·have hys:=UK hy (k:=r.toNat) (by omega);have hx1:=hxn r r0 (by omega);have gy:cB (bu (bj y r.toNat 0)):=dP hys (by omega);have hrr:((r.toNat:Nat):Int)=r:=by omega
  have hrt:(r+1).toNat=r.toNat+1:=by omega
  simp only[hx1,ez];refine⟨r0,hr1,by omega,gy,λh0=>?_,λh0=>⟨⟨hc,r0,by omega⟩,⟨⟨aeL.symm,by rw[UD];omega⟩,by omega,by omega⟩,?_⟩⟩
  ·have h0:=Jo.1 h0;exact⟨by omega,⟨wo (by rw[hrt,aeU h0]),rI (by rw[hrt,aeR h0])⟩,by omega,by omega⟩
  rintro k ⟨k0,k1⟩;have hbd:=@UF p f r k.toNat hc hl;have hrl:=@UD p r;refine⟨λhk=>?_,λhk=>?_⟩
  ·have ho:=ki hc (i:=k) ⟨k0,by omega⟩;have hcb:=@pD p r _ ho.2.2.1;have hrn:=@aeK p r k ⟨k0,by omega⟩;have hbs:=@aeM p f r k k0 (by omega);rw[hrn];refine⟨k0,by omega,by omega,λh1=>?_,λh1=>⟨k0,by omega,by omega,λh2=>?_,λh2=>⟨k0,by omega,by omega,λh3=>?_,λh3=>?_⟩⟩⟩
   ·have hb2:mI p f r k.toNat=mI p f r (k+1).toNat:=by rw[hbs,h1];split<;>omega
    exact⟨by omega,⟨hb2,rI (Ll k0 (.inr (.inl (by rw[hrr];exact h1))))⟩,by omega,by omega⟩
   ·rw[if_pos h2] at hbs;exact⟨by omega,by omega,⟨by omega,rI (Ll k0 (.inl (by omega)))⟩,by omega,by omega⟩
   ·rw[if_neg h2] at hbs;have hen:=@wm p f y r.toNat k.toNat k.toNat (by omega) sF.dflt;rw[show((k.toNat:Nat):Int)=k by omega,aeT k0 h3] at hen;have gx:cB (bu (iz p y r.toNat k)):=dP (UR hc hy (by omega) ⟨k0,by omega⟩) (by omega);have gc:cB (bu (ι (dK p r (oI p k)))):=dP (rD (W:=dK p r (oI p k)) (by omega) (by omega)) (by omega);have gm:cB (bu (bj y r.toNat 0*ι (dK p r (oI p k)))):=dP (ub hys (rD (W:=dK p r (oI p k)) (by omega) (by omega))) (by omega);have hset:=@aeS p f y r.toNat k k0 (by omega) h3;rw[Lh,hrr] at hset;have ae2:(ie p f y r.toNat k.toNat).set k.toNat (bu (iz p y r.toNat k - bj y r.toNat 0*ι (dK p r (oI p k))))=ie p f y r.toNat (k+1).toNat:=hset;rw[hen];simp only[ez];rw[ae2,hel];refine⟨rfl,k0,?_,rfl,?_,?_,⟨gy,gc⟩,⟨gx,gm⟩,rfl,k0,?_,rfl,?_,?_,⟨?_,rI rfl⟩,?_,?_⟩<;>omega
   ·rw[if_neg h2] at hbs;refine⟨?_,⟨?_,rI (Ll k0 (.inl h3))⟩,?_,?_⟩<;>omega
  ·have hk2:k.toNat=f.length:=by omega
   rw[hk2,UE] at hbd ⊢;have gb:cB (bu (ι (df p r - cG p ((bC f 1).map (oI p)) r))):=dP (rD (W:=df p r - cG p ((bC f 1).map (oI p)) r) (by omega) (by omega)) (by omega);have gs:cB (bu (ku p f y r.toNat)):=dP (aeX hc hl hy (by omega)) (by omega);have gm:cB (bu (bj y r.toNat 0*ι (df p r - cG p ((bC f 1).map (oI p)) r))):=dP (ub hys (rD (W:=df p r - cG p ((bC f 1).map (oI p)) r) (by omega) (by omega))) (by omega);refine⟨by omega,⟨gy,gb⟩,⟨gs,gm⟩,by omega,⟨wo ?_,rI ?_⟩,by omega,by omega⟩;·rw[hrt,UC,hrr]
   ·rw[hrt,hl];exact aeQ
 ·have hr2:r.toNat=mF p:=by omega
  rw[hr2];refine⟨⟨⟨wo UG.symm,rI rfl⟩,by omega,by omega⟩,?_⟩;rintro i ⟨i0,i1⟩;refine⟨λhi=>?_,λhi=>?_⟩
  ·have hs:=@UH p f y i i0;refine⟨i0,hi,by omega,λh0=>?_,λh0=>?_⟩
   ·have hen:=@wm p f y (mF p) 0 i.toNat (by omega) sF.dflt;have he0:oo p f y (mF p) 0 i=iz p y (mF p) i:=by
     unfold oo;rw[if_pos h0,if_neg (show ¬i<((0:Nat):Int) by omega)]
    rw[show((i.toNat:Nat):Int)=i by omega,he0] at hen;have gx:cB (bu (iz p y (mF p) i)):=dP (UR hc hy (φ _) ⟨i0,by omega⟩) (by omega);have gs:cB (bu (iG p f y i.toNat)):=dP (US hc hl hy (by omega)) (by omega);rw[hen,hel];simp only[ez];refine⟨trivial,i0,by omega,trivial,by omega,gx,λh1=>⟨trivial,i0,by omega,trivial,by omega,⟨gs,gx⟩,by omega,wo ?_,by omega,by omega⟩,λh1=>⟨by omega,wo ?_,by omega,by omega⟩⟩;·rw[hs,if_pos ⟨h0,ui.1 h1⟩]
    ·rw[hs,if_neg (λh=>h1 (ui.2 h.2))];exact(ζx _).symm
   ·refine⟨by omega,wo ?_,by omega,by omega⟩;rw[hs,if_neg (λh=>h0 h.1)];exact(ζx _).symm
  ·rw[show i.toNat=f.length by omega];first|exact rfl|exact⟨rfl,rfl⟩|exact⟨rfl,trivial⟩
def Lr:bL:=⟨209,cQ×bn×Int×List Int,.cons (eG bA) (.cons dE (.cons (eK .i64) (.one (dM (.i .i64))))),λa=>wj a.2.1 a.2.2.2 a.1.2.2.2.2/\ -9223372036854775808<=a.2.2.1/\a.2.2.1<=9223372036854775807,
 λa=> .sb (posB a.1.2.2.2.2&&decide (iG a.2.1 a.2.2.2 (vL a.1.2.2.2.2) a.2.2.2.length<ι a.2.2.1+1))⟩
theorem h492:Holds Tryz.prog Lr:=by
 refine cF (L:=[Lq,nY,vP,x6]) Lr lk (by simpa using⟨h494,h94,h129,h97⟩) ?_;rintro⟨⟨k,o,a,b,x⟩,p,v,f⟩ ⟨hok,v0,v1⟩;simp only at hok v0 v1;have hok2:=hok;obtain⟨⟨hc,hl,hr⟩,y,hx,hyl,hy⟩:=hok2;have hs:=US hc hl hy (φ f.length);have hvl:vL x=y:=by rw[hx,kJ]
 rw[<-hvl] at hs;have h1:(ι 1:Rat)=1:=rfl;have gv:Sz 2 (ι v:Rat):=rD v0 v1;have g1:Sz 2 (1:Rat):=rD (W:=1) (by omega) (by omega);refine bO (let a:=(-9223372036854775808:Int);let b:=(9223372036854775807:Int);let c:=(1:Int);let d:=(0:Int);let e:=iG p f (vL x) f.length;let g:=bu (ι v);let j:=(g.fst,g.snd.fst,g.snd.snd);let h:=bu (ι c);let k:=(h.fst,h.snd.fst,h.snd.snd);let l:=(if posB x=true then(bu e).fst else false,if posB x=true then(bu e).snd.fst else[],if posB x=true then(bu e).snd.snd else[]);let i:=bu (bQ j+bQ k);let m:=(i.fst,i.snd.fst,i.snd.snd);let n:=λ(u:SV) ↦u.same (γw (posB x&&decide (e<ι v+(1:Rat))));let o:=λ(u:Bool) ↦decide ((if posB x=true then d else(4:Int))=d)=u;wj p f x/\(a<=v/\v<=b)/\(a<=c/\c<=b)/\(cB j/\cB k)/\(o true->(cB l/\cB m)/\n (γw (decide (iM (bQ l) (bQ m)<d))))/\(o false->n (δa false))) (by kernel_rfl) ?_;simp only[jB,ez,h1];by_cases hp:posB x=true
 ·simp only[hp,if_true,Bool.true_and,jB,ez];refine⟨hok,⟨v0,v1⟩,by omega,⟨dP gv (by omega),dP g1 (by omega)⟩,λ_=>⟨⟨dP hs (by omega),dP (Am gv g1) (by omega)⟩,?_⟩,λh=>by cases h⟩;have e:decide (iM (iG p f (vL x) f.length) (ι v+1)<0)=decide (iG p f (vL x) f.length<ι v+1):=decide_eq_decide.2 sM;rw[e];rfl
 ·have hp:posB x=false:=by simpa using hp
  simp only[hp,χ,if_false,Bool.false_and];exact⟨hok,⟨v0,v1⟩,by omega,⟨dP gv (by omega),dP g1 (by omega)⟩,(λh=>by cases h),λ_=>rfl⟩
def Ls:bL:=⟨215,cQ×bn×Int×List Int,.cons (eG bA) (.cons dE (.cons (eK .i64) (.one (dM (.i .i64))))),λa=>0<=a.1.2.1,λa=> .sb (decide (a.1.2.1<a.2.2.2.length)&&decide (bj a.2.2.2 a.1.2.1.toNat 0=0))⟩
theorem h498:Holds Tryz.prog Ls:=by
 refine cF (L:=[]) Ls lk (by simp) ?_;rintro⟨⟨k,o,a,b,x⟩,p,v,f⟩ (h0:0<=o);refine bO (let a:=(0:Int);let b:=decide (o<(↑f.length:Int));let c:=λ(u:SV) ↦u.same (γw (decide (o<(↑f.length:Int))&&decide (bj f o.toNat a=a)));(b=true->a<=o/\o<(↑f.length:Int)/\o.toNat<f.length/\c (γw (decide (bj f o.toNat a=a))))/\(b=false->c (δa false))) (by kernel_rfl) ?_;simp only[vcs];exact⟨λh=>⟨h0,h,by omega,by rw[decide_eq_true h];rfl⟩,λh=>by rw[decide_eq_false h];rfl⟩
def Lt:bL:=⟨219,cQ×bn×Int×List Int,.cons (eG bA) (.cons dE (.cons (eK .i64) (.one (dM (.i .i64))))),λa=>a.2.2.2.length<=1000000,λa=> .sb (decide (bW a.2.1 (bC a.2.2.2 1)≠0))⟩
def ae3 (n:cQ) (p:bn) (f:List Int):Nat->cC
 |3=> .inv Int (λi=>⟨[(5,.ptr 1 0 20),(9,.ow 2 (bC (f.take i.toNat) 1).length 1),(12,.row (.i .i64) f),(13,.si .i64 f.length),(14,.si .i64 i)],[.cells (encS bA n) 156 5 false,.cells p.ss 27 20 false,.row (.i .i64) (bC (f.take i.toNat) 1) 3 true]⟩)
   (λs=>iS s 14) (λi=>0<=i/\i<=f.length) (λi=>(f.length - i).toNat) λ_ _=> .look
 |_=> .look
theorem h502:Holds Tryz.prog Lt:=by
 refine cF (L:=[tO]) Lt (λa=>ae3 a.1 a.2.1 a.2.2.2) (by simpa using h100) ?_;rintro⟨⟨k,o,a,b,x⟩,p,v,f⟩ (hl:f.length<=1000000);refine bO (let c:=γe .i64;let d:=(0:Int);let e:=(1:Int);let g:=bq.row;let h:=Θ;let j:=γS;let r:=γP 1 0 20;let m:=bp.i .i64;let n:=(↑f.length:Int);let v:=c n;let s:=bq.cells [c k,c o,c a,c b,h sF x] 156 5 false;let t:=bq.cells [c p.supply.a0,c p.supply.a1,c p.supply.a2,c p.supply.a3,c p.supply.a4,c p.supply.a5,c p.opn.a0,c p.opn.a1,c p.opn.a2,c p.opn.a3,c p.opn.a4,c p.opn.a5,c p.cls.a0,c p.cls.a1,c p.cls.a2,c p.cls.a3,c p.cls.a4,c p.cls.a5,h m p.classes,h bp.off p.offers] 27 20 false;(((r.same r/\(j 2 0 1).same (j 2 (bC [] e).length 1)/\(h m f).same (h m f)/\(c (↑f.length:Int)).same v/\(γx .i64 0).same (c 0)/\True)/\s.same s/\t.same t/\(g m [] 3 true).same (g m (bC [] e) 3 true)/\True)/\d<=d/\d<=n)/\∀(x_1:Int),let q:=x_1+e;let w:=bC (ω q.toNat f) e;let y:=c q;let z:=decide (bj f x_1.toNat d=e);let l:=bC (ω x_1.toNat f) e;let A:=l.length+1;let B:=λ(u:Nat) (u_1:bq) ↦cn .i64 q/\((r.same r/\(j 2 u 1).same (j 2 w.length 1)/\(h m f).same (h m f)/\v.same v/\y.same y/\True)/\s.same s/\t.same t/\u_1.same (g m w 3 true)/\True)/\(d<=q/\q<=n)/\(n - q).toNat<(n - x_1).toNat;d<=x_1/\x_1<=n->(decide (x_1<n)=true->d<=x_1/\x_1<(↑f.length:Int)/\x_1.toNat<f.length/\(z=true->l.length=l.length/\A*8<=140737488355328/\A<=1000000000000/\B (l++[x_1]).length (g m (l++[x_1]) 3 true))/\(z=false->B l.length (g m l 3 true)))/\(decide (x_1<n)=false->l.length=l.length/\l.length<=9223372036854775807/\(γw (decide (bW p l≠d))).same (γw (decide (bW p (bC f e)≠d))))) (by kernel_rfl) ?_;simp only[vcs];have how:∀{x y:Nat},x=y->(γS 2 x 1).same (γS 2 y 1):=by rintro _ _ rfl;rfl
 have hrow:∀{x y:List Int},x=y->(bq.row (.i .i64) x 3 true).same (bq.row (.i .i64) y 3 true):=by rintro _ _ rfl;rfl
 refine⟨⟨⟨how rfl,hrow rfl⟩,by omega,by omega⟩,?_⟩;rintro i ⟨i0,i1⟩;have hd:=@um (f.take i.toNat) 1;rw[γq] at hd;refine⟨λhi=>?_,λhi=>?_⟩
 ·have hs:=AO (d:=1) i0 hi;refine⟨i0,hi,by omega,λh1=>?_,λh1=>?_⟩
  ·rw[if_pos h1] at hs;rw[hs];refine⟨?_,?_,?_,⟨how rfl,hrow rfl⟩,?_,?_⟩<;>omega
  ·rw[if_neg h1,γL] at hs;rw[hs];refine⟨?_,⟨how rfl,hrow rfl⟩,?_,?_⟩<;>omega
 ·rw[show f.take i.toNat=f by rw[show i.toNat=f.length by omega,π]] at hd ⊢;exact⟨by omega,rfl⟩
def Lu:bL:=⟨223,Unit×bn×Int×List Int,.cons K5 (.cons dE (.cons (eK .i64) (.one (dM (.i .i64))))),λ_=>True,λ_=> .sb false⟩
theorem h506:Holds Tryz.prog Lu:=by
 refine cF (L:=[]) Lu lk (by simp) ?_;rintro⟨_,p,v,f⟩ _;refine bO ((δa false).same (γw false)) (by kernel_rfl) ?_;rfl
@[reducible] def rJ:bp:=.pair (.i .i64) .b
def eM (t:List cQ):Nat->List (Int×Bool)
 |0=>δ t.length (0,false)
 |i+1=>if(bj t i bA.dflt).1=2 then((eM t i).set (bj t i bA.dflt).2.2.1.toNat ((i:Int),false)).set (bj t i bA.dflt).2.2.2.1.toNat ((i:Int),true) else eM t i
def mJ (t:List cQ) (u:List (Int×Bool)) (k:Int) (f:List Int):List Int:=
 if(bj t (bj u k.toNat (0,false)).1.toNat bA.dflt).2.1<f.length then f.set (bj t (bj u k.toNat (0,false)).1.toNat bA.dflt).2.1.toNat (if(bj u k.toNat (0,false)).2 then 1 else -1) else f
def gR (t:List cQ) (u:List (Int×Bool)):Nat->Int->List Int->List Int
 |0,_,f=>f
 |m+1,k,f=>if 0<k then gR t u m (bj u k.toNat (0,false)).1 (mJ t u k f) else f
def gi (p:bn) (t:List cQ) (i:Nat):List Int:=gR t (eM t i) i i (δ p.offers.length 0)
def pQ (p:bn) (v:Int) (f:List Int) (n:cQ):Bool:=
 if n.1=1 then posB n.2.2.2.2&&decide (iG p f (vL n.2.2.2.2) f.length<ι v+1) else if n.1=2 then decide (n.2.1<f.length)&&decide (bj f n.2.1.toNat 0=0) else if n.1=3 then decide (bW p (bC f 1)≠0) else false
def pR (p:bn) (v:Int) (t:List cQ):Bool:=(ψ t.length).all λi=>pQ p v (gi p t i) (bj t i bA.dflt)
def Lx (t:List cQ) (u:List (Int×Bool)):Prop:=u.length=t.length/\∀k,k<t.length->0<=(bj u k (0,false)).1/\(0<k->(bj u k (0,false)).1<k)
def Ly (p:bn) (v:Int) (t:List cQ):Prop:=(bB p=0/\dT t=true)/\(-9223372036854775808<=v/\v<=9223372036854775807)/\∀i,i<t.length->(bj t i bA.dflt).1=1->wj p (gi p t i) (bj t i bA.dflt).2.2.2.2
theorem LA {t:List cQ} {u:List (Int×Bool)} {k:Int} {f:List Int}:(mJ t u k f).length=f.length:=by
 unfold mJ;split;·rw[τ]
 ·rfl
theorem LC {t:List cQ} {u:List (Int×Bool)}:∀{m:Nat} {k:Int} {f:List Int},(gR t u m k f).length=f.length
 |0,_,_=>rfl
 |m+1,k,f=>by
  unfold gR;split;·rw[LC,LA]
  ·rfl
theorem LD {t:List cQ} {u:List (Int×Bool)} (hu:Lx t u):∀{m:Nat} {k:Int} {f:List Int},0<=k->k<t.length->k<=m->gR t u m k f=gR t u k.toNat k f
 |0,k,f,h0,h1,h2=>by rw[show k.toNat=0 by omega];|m+1,k,f,h0,h1,h2=>by
  by_cases hk:0<k
  ·have hx:=hu.2 k.toNat (by omega);have h3:=hx.2 (by omega);rw[show k.toNat=(k.toNat - 1)+1 by omega];unfold gR;rw[if_pos hk,if_pos hk,LD hu hx.1 (by omega) (by omega)];exact(LD hu hx.1 (by omega) (by omega)).symm
  ·rw[show k=0 by omega];rfl
theorem UT {t:List cQ} {u:List (Int×Bool)} (hu:Lx t u) {k:Int} {f:List Int} (h0:0<k) (h1:k<t.length):gR t u k.toNat k f=gR t u (bj u k.toNat (0,false)).1.toNat (bj u k.toNat (0,false)).1 (mJ t u k f):=by
 have hx:=hu.2 k.toNat (by omega);have h3:=hx.2 (by omega);rw[show gR t u k.toNat k f=gR t u ((k.toNat - 1)+1) k f by rw[show(k.toNat - 1)+1=k.toNat by omega]];conv=>lhs;unfold gR
 rw[if_pos h0];exact LD hu hx.1 (by omega) (by omega)
theorem sS {t:List cQ}:∀{i:Nat},(eM t i).length=t.length
 |0=>by simp[eM];|i+1=>by
  unfold eM;split;·rw[τ,τ,sS]
  ·exact sS
theorem E5 {t:List cQ} (h:dT t=true) {i:Nat} (hi:i<t.length):0<=(bj t i bA.dflt).2.1/\((bj t i bA.dflt).1=2->((i:Int)<(bj t i bA.dflt).2.2.1/\(bj t i bA.dflt).2.2.1<t.length)/\((i:Int)<(bj t i bA.dflt).2.2.2.1/\(bj t i bA.dflt).2.2.2.1<t.length)):=by
 unfold dT at h;simp only[ζ,κ,γm] at h;have hn:=h.2.1 i hi;unfold jH at hn;simp only[ζ] at hn;obtain⟨hw,hk⟩:=hn;refine⟨?_,λh2=>?_⟩
 ·unfold rH at hw;split at hw
  ·simp only[wf1,rG,ζ,decide_eq_true_eq] at hw;omega
  ·split at hw
   ·simp only[wf2,kY,ζ,decide_eq_true_eq] at hw;omega
   ·split at hw
    ·simp only[sP,rG,ζ,decide_eq_true_eq] at hw;omega
    ·cases hw
 ·unfold jr at hk;rw[if_pos h2] at hk;simp only[uu,ζ,decide_eq_true_eq] at hk;exact⟨hk.1.1,hk.2.1.1⟩
theorem LG {t:List cQ} (h:dT t=true):∀{i:Nat},i<=t.length->Lx t (eM t i)
 |0,_=>⟨sS,λk hk=>by
   unfold eM;rw[cV (by rw[γk];exact hk),List.getElem_replicate];exact⟨Int.le_refl _,λh=>by show(0:Int)<k;omega⟩⟩
 |i+1,hi=>⟨sS,λk hk=>by
   have hr:=(LG h (i:=i) (by omega)).2 k hk;unfold eM;split
   ·rename_i h2;obtain⟨⟨a1,a2⟩,b1,b2⟩:=(E5 h (i:=i) (by omega)).2 h2;have hl:=@sS t i;rw[iN (by rw[τ];omega)];split;·exact⟨by show(0:Int)<=i;omega,λ_=>by show(i:Int)<k;omega⟩
    ·rw[iN (by omega)];split;·exact⟨by show(0:Int)<=i;omega,λ_=>by show(i:Int)<k;omega⟩
     ·exact hr
   ·exact hr⟩
def LH:bL:=⟨33,bn×Int×List cQ,.cons dE (.cons (eK .i64) (.one (dM bA))),λa=>Ly a.1 a.2.1 a.2.2,λa=> .si .i64 (if pR a.1 a.2.1 a.2.2 then 0 else 13)⟩
noncomputable def ae4 (p:bn) (v:Int) (t:List cQ):Nat->cC
 |3=> .inv Int (λi=>⟨[(1,.si .i64 v),(2,.row bA t),(3,.ptr 0 0 20),(7,.ow 1 t.length 2),(16,.row bA t),(17,.si .i64 t.length),(18,.si .i64 i)],[.cells p.ss 27 20 false,.row rJ (eM t i.toNat) 116 true]⟩)
   (λs=>iS s 18) (λi=>0<=i/\i<=t.length/\∀j:Nat,j<i->pQ p v (gi p t j) (bj t j bA.dflt)=true) (λi=>(t.length - i).toNat) λi k=>match k with
   |7=> .inv (Int×List Int) (λx=>⟨[(1,.si .i64 v),(2,.row bA t),(3,.ptr 0 0 20),(7,.ow 1 t.length 2),(8,.si .i64 i),(9,.ptr 2 0 5),(10,.ow 3 p.offers.length 1),(11,.si .i64 x.1),(16,.row bA t),(17,.si .i64 t.length),(18,.si .i64 i)],
      [.cells p.ss 27 20 false,.row rJ (eM t i.toNat) 116 true,.cells (encS bA (bj t i.toNat bA.dflt)) 68 5 false,.row (.i .i64) x.2 3 true]⟩)
     (λs=>(iS s 11,oS (.i .i64) s 3)) (λx=>(0<=x.1/\x.1<=i)/\x.2.length=p.offers.length/\gR t (eM t i.toNat) x.1.toNat x.1 x.2=gi p t i.toNat) (λx=>x.1.toNat) λ_ _=> .look
   |_=> .look
 |_=> .look
theorem h481:Holds Tryz.prog LH:=by
 refine cF (L:=[E0,Lr,Ls,Lt,Lu]) LH (λa=>ae4 a.1 a.2.1 a.2.2) (by simpa using⟨h485,h492,h498,h502,h506⟩) ?_;rintro⟨p,v,t⟩ ⟨⟨hc,ht⟩,⟨v0,v1⟩,hb⟩;simp only at hc ht v0 v1 hb;refine bO (let a:=γe .i64;let c:=(0:Int);let d:=Θ;let e:=bq.row;let f:=γx .i64;let g:=(140737488355328:Int);let h:=(1000000000000:Int);let k:=(1:Int);let l:=γS;let o:=(↑t.length:Int);let w:=γP 0 0 20;let C:=l 1 t.length 2;let y:=(↑t.length:Int);let D:=a y;let a9:=f 0;let K:=bp.i .i64;let q:=bq.cells [a p.supply.a0,a p.supply.a1,a p.supply.a2,a p.supply.a3,a p.supply.a4,a p.supply.a5,a p.opn.a0,a p.opn.a1,a p.opn.a2,a p.opn.a3,a p.opn.a4,a p.opn.a5,a p.cls.a0,a p.cls.a1,a p.cls.a2,a p.cls.a3,a p.cls.a4,a p.cls.a5,d K p.classes,d bp.off p.offers] 27 20 false;let E:=(↑p.offers.length:Int);let S:=γP 2 0 5;let n:=p.offers.length;let Z:=l 3 n 1;let a6:=δ E.toNat c;let aa:=e K a6 3 true;let L:=a (if pR p v t=true then c else(13:Int));c<=o/\o<=o/\o*(16:Int)<=g/\o<=h/\((((a v).same (a v)/\(d bA t).same (d bA t)/\w.same w/\(l 1 o.toNat 2).same C/\(d bA t).same (d bA t)/\(a o).same D/\a9.same (a 0)/\True)/\q.same q/\(e (K.pair bp.b) (δ o.toNat (c,false)) 116 true).same (e rJ (eM t 0) 116 true)/\True)/\c<=c/\c<=y/\∀(j:Nat),(↑j:Int)<c->pQ p v (gi p t j) (bj t j bA.dflt)=true)/\∀(x:Int),let z:=eM t x.toNat;let F:=e rJ z 116 true;let s:=bj t x.toNat bA.dflt;let T:=s.snd.fst;let M:=s.snd.snd.fst;let N:=s.snd.snd.snd.fst;let U:=s.snd.snd.snd.snd;let H:=bq.cells [a s.fst,a T,a M,a N,d sF U] 68 5 false;let V:=gi p t x.toNat;let m:=z.length;let O:=(↑m:Int);let ab:=decide (s.fst=k);let ac:=decide (s.fst=(2:Int));let P:=z.set (ζe M) (x,false);let G:=x+k;let ad:=a G;let ar:=e rJ (eM t G.toNat) 116 true;let ae:=decide (s.fst=(2:Int));let af:=decide (s.fst=(3:Int));(c<=x/\x<=y/\∀(j:Nat),(↑j:Int)<x->pQ p v (gi p t j) (bj t j bA.dflt)=true)->(decide (x<y)=true->c<=x/\x<o/\x.toNat<t.length/\c<=E/\E<=E/\E*(8:Int)<=g/\E<=h/\((((a v).same (a v)/\(d bA t).same (d bA t)/\w.same w/\C.same C/\(a x).same (a x)/\S.same S/\(l 3 E.toNat 1).same Z/\(a x).same (a x)/\(d bA t).same (d bA t)/\D.same D/\(a x).same (a x)/\True)/\q.same q/\F.same F/\H.same H/\aa.same aa/\True)/\(c<=x/\x<=x)/\a6.length=n/\gR t z x.toNat x a6=V)/\∀(x_1:Int×List Int),let W:=a x;let A:=x_1.fst.toNat;let a7:=bj z A rJ.dflt;let r:=a7.fst;let ag:=a r;let I:=ζe r;let J:=(bj t I bA.dflt).snd.fst;let X:=ζe J;let Q:=x_1.snd.length;let ah:=decide (c<x_1.fst);let B:=x_1.snd.length;let R:=x_1.snd.set X (-1:Int);let ai:=e K x_1.snd 3 true;let Y:=let aj:=λ(u:bq) ↦cn .i64 G/\(((a v).same (a v)/\(d bA t).same (d bA t)/\w.same w/\C.same C/\(d bA t).same (d bA t)/\D.same D/\ad.same ad/\True)/\q.same q/\u.same ar/\True)/\(c<=G/\G<=y/\∀(j:Nat),(↑j:Int)<G->pQ p v (gi p t j) (bj t j bA.dflt)=true)/\(y - G).toNat<(y - x).toNat;(ac=true->t.length=m/\c<=M/\M<O/\t.length=m/\ζe M<m/\t.length=P.length/\c<=N/\N<(↑P.length:Int)/\t.length=P.length/\ζe N<P.length/\aj (e rJ (P.set (ζe N) (x,true)) 116 true))/\(ac=false->aj F);let ak:=(a v).same (a v)/\(d bA t).same (d bA t)/\w.same w/\C.same C/\W.same W/\S.same S/\Z.same Z/\ag.same ag/\(d bA t).same (d bA t)/\D.same D/\W.same W/\True;let al:=λ(u:List Int) (u_1:Int) ↦let a8:=u.set X u_1;let am:=e K a8 3 true;t.length=m/\c<=x_1.fst/\x_1.fst<O/\t.length=m/\A<m/\(ak/\q.same q/\F.same F/\H.same H/\am.same am/\True)/\((c<=r/\r<=x)/\a8.length=n/\gR t z I r a8=V)/\I<A;let an:=λ(u:Bool) ↦(!(posB U&&decide (iG p x_1.snd (vL U) Q<ι v+(1:Rat))))=u;let ao:=λ(u:Bool) ↦(!(decide (T<(↑Q:Int))&&decide (bj x_1.snd (ζe T) 0=c)))=u;let ap:=λ(u:Bool) ↦(!decide (bW p (bC x_1.snd k)≠c))=u;let aq:=λ(u:Bool) ↦decide (J<(↑n:Int))=u;(c<=x_1.fst/\x_1.fst<=x)/\Q=n/\gR t z A x_1.fst x_1.snd=V->(ah=true->t.length=m/\c<=x_1.fst/\x_1.fst<O/\t.length=m/\A<m/\c<=r/\r<o/\I<t.length/\(aq true->n=B/\c<=J/\J<(↑B:Int)/\n=B/\X<B/\t.length=m/\c<=x_1.fst/\x_1.fst<O/\t.length=m/\A<m/\(a7.snd=true->n=R.length/\c<=J/\J<(↑R.length:Int)/\n=R.length/\X<R.length/\al R k)/\(a7.snd=false->al x_1.snd (-1:Int)))/\(aq false->t.length=m/\c<=x_1.fst/\x_1.fst<O/\t.length=m/\A<m/\(ak/\q.same q/\F.same F/\H.same H/\ai.same ai/\True)/\((c<=r/\r<=x)/\Q=n/\gR t z I r x_1.snd=V)/\I<A))/\(ah=false->True/\(ab=true->n=B/\(wj p x_1.snd U/\(-9223372036854775808:Int)<=v/\v<=(9223372036854775807:Int))/\(an true->(f 13).same L)/\(an false->Y))/\(ab=false->(ae=true->n=B/\c<=T/\(ao true->(f 13).same L)/\(ao false->Y))/\(ae=false->(af=true->n=B/\Q<=1000000/\(ap true->(f 13).same L)/\(ap false->Y))/\(af=false->n=B/\True/\(true=true->(f 13).same L)/\(true=false->Y))))))/\(decide (x<y)=false->a9.same L)) (by kernel_rfl) ?_;simp only[vcs];have h160:=(dN hc).2.1;have htn:1<=t.length/\t.length<=65536:=by
  unfold dT at ht;simp only[ζ,decide_eq_true_eq] at ht;exact ht.1
 have hw:∀i,t.length=(eM t i).length:=λi=>sS.symm;have how:∀{x y:Nat},x=y->(γS 1 x 2).same (γS 1 y 2):=by rintro _ _ rfl;rfl
 have hof:∀{x y:Nat},x=y->(γS 3 x 1).same (γS 3 y 1):=by rintro _ _ rfl;rfl
 have hrow:∀{x y:List (Int×Bool)},x=y->(bq.row rJ x 116 true).same (bq.row rJ y 116 true):=by rintro _ _ rfl;rfl
 have hd:(rJ.dflt:Int×Bool)=(0,false):=rfl;simp only[Ψ,hd];refine⟨by omega,by omega,by omega,by omega,⟨⟨how rfl,hrow rfl⟩,by omega,by omega,λj hj=>by omega⟩,?_⟩;rintro i ⟨i0,i1,hall⟩;refine⟨λhi=>?_,λhi=>?_⟩
 ·have hu:=LG ht (i:=i.toNat) (by omega);have hlu:=@sS t i.toNat;have hno:=E5 ht (i:=i.toNat) (by omega);refine⟨i0,hi,by omega,by omega,by omega,by omega,by omega,⟨hof rfl,⟨i0,Int.le_refl _⟩,γk,?_⟩,?_⟩
  ·unfold gi;rw[show((i.toNat:Nat):Int)=i by omega]
  rintro⟨k,f⟩ ⟨⟨k0,k1⟩,hfl,hfx⟩;simp only at k0 k1 hfl hfx ⊢;refine⟨λhk=>?_,λhk=>?_⟩
  ·have q:=hu.2 k.toNat (by omega);have q1:=q.2 (by omega);have ho:=(E5 ht (i:=(bj (eM t i.toNat) k.toNat (0,false)).1.toNat) (by omega)).1;have hs:=@UT t (eM t i.toNat) hu k f hk (by omega);rw[hfx] at hs;unfold mJ at hs;rw[hfl] at hs;have qq:=q.1;clear q;generalize bj (eM t i.toNat) k.toNat (0,false)=s at qq q1 ho hs ⊢;generalize (bj t s.1.toNat bA.dflt).2.1=o at ho hs ⊢;refine⟨hw _,k0,by omega,hw _,by omega,qq,by omega,by omega,λh=>?_,λh=>?_⟩
   ·rw[if_pos h] at hs;have l1:(f.set o.toNat (-1)).length=p.offers.length:=by rw[τ,hfl]
    refine⟨by omega,ho,by omega,by omega,by omega,hw _,k0,by omega,hw _,by omega,λh2=>?_,λh2=>?_⟩
    ·rw[if_pos h2] at hs;exact⟨by omega,ho,by omega,by omega,by omega,hw _,k0,by omega,hw _,by omega,⟨⟨qq,by omega⟩,by rw[τ];exact l1,by rw[List.set_set];exact hs.symm⟩,by omega⟩
    ·rw[if_neg (by rw[h2];exact Bool.false_ne_true)] at hs;refine⟨hw _,k0,?_,hw _,?_,⟨⟨qq,?_⟩,l1,hs.symm⟩,?_⟩<;>omega
   ·rw[if_neg h] at hs;refine⟨hw _,k0,?_,hw _,?_,⟨⟨qq,?_⟩,hfl,hs.symm⟩,?_⟩<;>omega
  ·have hk0:k=0:=by omega
   have hf:f=gi p t i.toNat:=by rw[<-hfx,hk0];rfl
   have hbi:=hb i.toNat (by omega);rw[<-hf] at hbi;have no:pQ p v f (bj t i.toNat bA.dflt)=false->(13:Int)=if pR p v t=true then 0 else 13:=λh=>by
    have:pR p v t=false:=by
     unfold pR;rw[γ7];intro ha;have:=κ.1 ha i.toNat (γm.2 (by omega));rw[<-hf,h] at this;cases this
    rw[this];rfl
   have next:pQ p v f (bj t i.toNat bA.dflt)=true->∀j:Nat,(j:Int)<i+1->pQ p v (gi p t j) (bj t j bA.dflt)=true:=λh j hj=>by
    by_cases h2:(j:Int)<i;·exact hall j h2
    ·rw[show j=i.toNat by omega,<-hf];exact h
   have hup:eM t (i+1).toNat=if(bj t i.toNat bA.dflt).1=2 then((eM t i.toNat).set (bj t i.toNat bA.dflt).2.2.1.toNat (i,false)).set (bj t i.toNat bA.dflt).2.2.2.1.toNat (i,true) else eM t i.toNat:=by
    rw[show(i+1).toNat=i.toNat+1 by omega];conv=>lhs;unfold eM
    rw[show((i.toNat:Nat):Int)=i by omega]
   rw[hup];unfold pQ at no next;have hsl:∀(j:Nat) (z:Int×Bool),((eM t i.toNat).set j z).length=t.length:=λj z=>by rw[τ,hlu]
   generalize bj t i.toNat bA.dflt=n at no next hno hbi ⊢;refine⟨λh1=>⟨hfl.symm,⟨hbi h1,v0,v1⟩,λh=>no (by rw[if_pos h1];exact h),λh=>?_⟩,λh1=>⟨λh3=>⟨hfl.symm,hno.1,λh=>no (by rw[if_neg h1,if_pos h3];exact h),λh=>?_⟩,λh3=>⟨λh4=>⟨hfl.symm,by omega,λh=>no (by rw[if_neg h1,if_neg h3,if_pos h4];exact decide_eq_false h),λh=>?_⟩,λh4=>?_⟩⟩⟩;·exact⟨λh2=>by
      obtain⟨⟨a1,a2⟩,b1,b2⟩:=hno.2 h2;have s1:=hsl n.2.2.1.toNat (i,false);exact⟨hw _,by omega,by omega,hw _,by omega,s1.symm,by omega,by omega,s1.symm,by omega,by omega,hrow (if_pos h2).symm,⟨by omega,by omega,next (by rw[if_pos h1,h.1,decide_eq_true h.2];rfl)⟩,by omega⟩,λh2=>⟨by omega,hrow (if_neg h2).symm,⟨by omega,by omega,next (by rw[if_pos h1,h.1,decide_eq_true h.2];rfl)⟩,by omega⟩⟩
   ·exact⟨λh2=>by
      obtain⟨⟨a1,a2⟩,b1,b2⟩:=hno.2 h2;have s1:=hsl n.2.2.1.toNat (i,false);exact⟨hw _,by omega,by omega,hw _,by omega,s1.symm,by omega,by omega,s1.symm,by omega,by omega,hrow (if_pos h2).symm,⟨by omega,by omega,next (by rw[if_neg h1,if_pos h3,decide_eq_true h.1,decide_eq_true h.2];rfl)⟩,by omega⟩,λh2=>⟨by omega,hrow (if_neg h2).symm,⟨by omega,by omega,next (by rw[if_neg h1,if_pos h3,decide_eq_true h.1,decide_eq_true h.2];rfl)⟩,by omega⟩⟩
   ·exact⟨λh2=>by
      obtain⟨⟨a1,a2⟩,b1,b2⟩:=hno.2 h2;have s1:=hsl n.2.2.1.toNat (i,false);exact⟨hw _,by omega,by omega,hw _,by omega,s1.symm,by omega,by omega,s1.symm,by omega,by omega,hrow (if_pos h2).symm,⟨by omega,by omega,next (by rw[if_neg h1,if_neg h3,if_pos h4];exact decide_eq_true h)⟩,by omega⟩,λh2=>⟨by omega,hrow (if_neg h2).symm,⟨by omega,by omega,next (by rw[if_neg h1,if_neg h3,if_pos h4];exact decide_eq_true h)⟩,by omega⟩⟩
   ·have:=no (by rw[if_neg h1,if_neg h3,if_neg h4]);exact⟨hfl.symm,λ_=>this,λh=>by cases h⟩
 ·have:pR p v t=true:=κ.2 λj hj=>hall j (by have:=γm.1 hj;omega);rw[this];rfl
def kx (p:bn) (n:cQ):Bool:=!(decide (n.1=1)&&decide ((n.2.2.2.2.length:Int)≠cZ p))
def o8 (p:bn) (v:Int) (t:List cQ):Int:=
 if bB p≠0 then bB p else if t.length=0 then 1 else if 65536<t.length then 3 else if dT t=false then 2 else if t.all (kx p)=false then 2 else if pR p v t=true then 0 else 13
def pS (p:bn) (v:Int) (t:List cQ):Prop:=(∀n∈t,∀x∈n.2.2.2.2,iP x)/\t.length<=1000000000000/\(bB p=0->dT t=true->t.all (kx p)=true->Ly p v t)
def E6:bL:=⟨15,bn×Int×List cQ,.cons dE (.cons (eK .i64) (.one (dM bA))),λa=>pS a.1 a.2.1 a.2.2,λa=> .si .i64 (o8 a.1 a.2.1 a.2.2)⟩
def ae6 (p:bn) (v:Int) (t:List cQ):Nat->cC
 |12=> .inv Int (λi=>⟨[(1,.si .i64 v),(2,.row bA t),(3,.ptr 0 0 20),(8,.si .i64 (cZ p)),(30,.row bA t),(31,.si .i64 t.length),(32,.si .i64 i)],[.cells p.ss 27 20 false]⟩)
   (λs=>iS s 32) (λi=>0<=i/\i<=t.length/\∀j:Nat,j<i->kx p (bj t j bA.dflt)=true) (λi=>(t.length - i).toNat) λ_ _=> .look
 |_=> .look
theorem h473:Holds Tryz.prog E6:=by
 refine cF (L:=[qs,La,yd,LH]) E6 (λa=>ae6 a.1 a.2.1 a.2.2) (by simpa using⟨h79,h480,h335,h481⟩) ?_;rintro⟨p,v,t⟩ ⟨hdg,htl,hok⟩;simp only at hdg htl hok;refine bO (let a:=γe .i64;let b:=(0:Int);let c:=γx .i64;let d:=Θ;let o:=decide (bB p≠b);let f:=a (o8 p v t);let h:=(↑t.length:Int);let q:=decide (h=b);let r:=decide ((65536:Int)<h);let i:=γP 0 0 20;let l:=a (cZ p);let e:=(↑t.length:Int);let m:=a e;let k:=bq.cells (bn.ss p) 27 20 false;True/\(o=true->(a (bB p)).same f)/\(o=false->(q=true->(c 1).same f)/\(q=false->(r=true->(c 3).same f)/\(r=false->(∀(n:cQ),n∈t->∀(x:bM),x∈n.snd.snd.snd.snd->iP x)/\((!dT t)=true->(c 2).same f)/\((!dT t)=false->True/\((((a v).same (a v)/\(d bA t).same (d bA t)/\i.same i/\(a (if bB p=b then cZ p else b)).same l/\(d bA t).same (d bA t)/\(a h).same m/\(c 0).same (a 0)/\True)/\k.same k/\True)/\b<=b/\b<=e/\∀(j:Nat),(↑j:Int)<b->kx p (bj t j bA.dflt)=true)/\∀(x:Int),let g:=x+(1:Int);let s:=a g;let w:=bj t x.toNat bA.dflt;let y:=cn .i64 g/\(((a v).same (a v)/\(d bA t).same (d bA t)/\i.same i/\l.same l/\(d bA t).same (d bA t)/\m.same m/\s.same s/\True)/\k.same k/\True)/\(b<=g/\g<=e/\∀(j:Nat),(↑j:Int)<g->kx p (bj t j bA.dflt)=true)/\(e - g).toNat<(e - x).toNat;let z:=λ(u:Bool) ↦decide ((↑(γf w.snd.snd.snd.snd):Int)≠cZ p)=u;let A:=λ(u:Bool) ↦decide (w.fst=(1:Int))=u;(b<=x/\x<=e/\∀(j:Nat),(↑j:Int)<x->kx p (bj t j bA.dflt)=true)->(decide (x<e)=true->b<=x/\x<h/\x.toNat<t.length/\(A true->(z true->(c 2).same f)/\(z false->y))/\(A false->y))/\(decide (x<e)=false->Ly p v t/\(a (if pR p v t=true then b else(13:Int))).same f)))))) (by kernel_rfl) ?_;simp only[vcs];unfold o8;refine⟨λh=>by rw[if_pos h],λh=>?_⟩;rw[if_neg h];have hc:bB p=0:=Ξ.1 h;refine⟨λh1=>by rw[if_pos (by omega)],λh1=>?_⟩;rw[if_neg (show ¬t.length=0 by omega)];refine⟨λh2=>by rw[if_pos (by omega)],λh2=>?_⟩;rw[if_neg (show ¬65536<t.length by omega)];refine⟨hdg,λh3=>by rw[if_pos h3],λh3=>?_⟩;have hnt:¬dT t=false:=by rw[h3];exact ζQ
 rw[if_neg hnt,if_pos hc];refine⟨⟨rfl,by omega,by omega,λj hj=>by omega⟩,?_⟩;rintro i ⟨i0,i1,hall⟩;refine⟨λhi=>?_,λhi=>?_⟩
 ·have hm:=dj (d:=bA.dflt) (show i.toNat<t.length by omega);have next:kx p (bj t i.toNat bA.dflt)=true->∀j:Nat,(j:Int)<i+1->kx p (bj t j bA.dflt)=true:=λhr j hj=>by
   by_cases h4:(j:Int)<i;·exact hall j h4
   ·rw[show j=i.toNat by omega];exact hr
  have no:kx p (bj t i.toNat bA.dflt)=false->t.all (kx p)=false:=λhr=>by
   rw[γ7];intro ha;rw[κ.1 ha _ hm] at hr;cases hr
  refine⟨i0,hi,by omega,λh4=>⟨λh5=>?_,λh5=>⟨by omega,⟨by omega,by omega,next ?_⟩,by omega⟩⟩,λh4=>⟨by omega,⟨by omega,by omega,next ?_⟩,by omega⟩⟩;·rw[if_pos (no (by unfold kx;rw[decide_eq_true h4,decide_eq_true h5];rfl))]
  ·unfold kx;rw[decide_eq_true h4,decide_eq_false h5];rfl
  ·unfold kx;rw[decide_eq_false h4];rfl
 ·have ha:t.all (kx p)=true:=κ.2 λn hn=>by
   obtain⟨j,hj,rfl⟩:=List.getElem_of_mem hn;have:=hall j (by omega);rwa [cV hj] at this
  have hna:¬t.all (kx p)=false:=by rw[ha];exact ζQ
  rw[if_neg hna];exact⟨hok hc h3 ha,rfl⟩
@[reducible] def sRs:bp:=.pair (.bH (.i .i64)) (.pair (.i .i64) (.bH bA))
def pT (p:bn) (r:List Int×Int×List cQ):Int:=if bW p r.1≠0 then bW p r.1 else if de p r.1≠r.2.1 then 13 else o8 p r.2.1 r.2.2
def Bc:bL:=⟨16,bn×List Int×Int×List cQ,.cons dE (.one (eG sRs)),λa=>a.2.1.length<=1000000000000/\(bW a.1 a.2.1=0->de a.1 a.2.1=a.2.2.1->pS a.1 a.2.2.1 a.2.2.2),λa=> .si .i64 (pT a.1 a.2)⟩
theorem h474:Holds Tryz.prog Bc:=by
 refine cF (L:=[tO,EK,E6]) Bc lk (by simpa using⟨h100,h437,h473⟩) ?_;rintro⟨p,c,w,t⟩ ⟨hl,hok⟩;simp only at hl hok;refine bO (let a:=γe .i64;let d:=decide (bW p c≠(0:Int));let b:=a (pT p (c,w,t));let e:=decide (de p c≠w);c.length<=9223372036854775807/\(d=true->(a (bW p c)).same b)/\(d=false->(bB p=(0:Int)/\c.length<=9223372036854775807)/\(e=true->(γx .i64 13).same b)/\(e=false->pS p w t/\(a (o8 p w t)).same b))) (by kernel_rfl) ?_;simp only[vcs];unfold pT;refine⟨by omega,λh=>by rw[if_pos h],λh=>?_⟩;rw[if_neg h];have hf:bW p c=0:=Ξ.1 h;have hc:bB p=0:=by
  unfold bW at hf;split at hf;·rename_i h1;exact absurd hf h1
  ·rename_i h1;exact Ξ.1 h1
 refine⟨⟨hc,by omega⟩,λh2=>by rw[if_pos h2],λh2=>?_⟩;rw[if_neg h2];exact⟨hok hf (Ξ.1 h2),rfl⟩
def gU (p:bn) (c:List Int):List bD:=c.foldl (λl i=>l.set (oI p i).bX.toNat (oI p i).want) (δ p.classes.length bD.zero)
theorem wq {p:bn} {c:List Int}:(gU p c).length=p.classes.length:=by
 unfold gU;have:∀(c:List Int) (l:List bD),(c.foldl (λl i=>l.set (oI p i).bX.toNat (oI p i).want) l).length=l.length:=by
  intro c;induction c with
  |nil=>intro l;rfl;|cons x r ih=>intro l;rw[List.foldl_cons,ih,τ]
 rw[this,γk]
theorem LI {p:bn} {c:List Int} (h:bW p c=0):bB p=0/\∀x∈c,0<=x/\x<p.offers.length:=by
 unfold bW at h;split at h;·rename_i h1;exact absurd h h1
 ·rename_i h1;split at h;·cases h
  ·rename_i h2;have h3:(ek p.offers (-1) c).isSome=true:=by
    unfold fV at h2;cases hp:(ek p.offers (-1) c).isSome with
    |false=>exact absurd hp h2;|true=>rfl
   exact⟨Ξ.1 h1,λx hx=>by have:=(JK (by omega) h3).2 x hx;omega⟩
def E7:bL:=⟨21,bn×Alloc,.cons dE (.one jZ),λa=>a.2.chosen.length<=1000000000000,λa=> .row .dR (if bW a.1 a.2.chosen=0 then gU a.1 a.2.chosen else[])⟩
def ae8 (p:bn) (a:Alloc):Nat->cC
 |5=> .inv Int (λi=>⟨[(2,.ptr 0 0 20),(5,.ow 2 p.classes.length 6),(18,.row (.i .i64) a.chosen),(19,.si .i64 a.chosen.length),(20,.si .i64 i)],[.cells p.ss 27 20 false,.cells [.row (.i .i64) a.chosen,.si .i64 a.value] 31 2 false,.row .dR (gU p (a.chosen.take i.toNat)) 23 true]⟩)
   (λs=>iS s 20) (λi=>0<=i/\i<=a.chosen.length) (λi=>(a.chosen.length - i).toNat) λ_ _=> .look
 |_=> .look
theorem h476:Holds Tryz.prog E7:=by
 refine cF (L:=[tO]) E7 (λa=>ae8 a.1 a.2) (by simpa using h100) ?_;rintro⟨p,a⟩ (hl:a.chosen.length<=1000000000000);refine bO (let b:=γe .i64;let c:=(0:Int);let d:=Θ;let e:=bq.row;let u:=decide (bW p a.chosen≠c);let r:=bp.i .i64;let v:=d bp.dR (if bW p a.chosen=c then gU p a.chosen else[]);let g:=(↑p.classes.length:Int);let n:=γP 0 0 20;let s:=γS 2 p.classes.length 6;let l:=d r a.chosen;let w:=(↑a.chosen.length:Int);let f:=(↑a.chosen.length:Int);let t:=b f;let o:=bq.cells [b p.supply.a0,b p.supply.a1,b p.supply.a2,b p.supply.a3,b p.supply.a4,b p.supply.a5,b p.opn.a0,b p.opn.a1,b p.opn.a2,b p.opn.a3,b p.opn.a4,b p.opn.a5,b p.cls.a0,b p.cls.a1,b p.cls.a2,b p.cls.a3,b p.cls.a4,b p.cls.a5,d r p.classes,d bp.off p.offers] 27 20 false;let q:=bq.cells [l,b a.value] 31 2 false;a.chosen.length<=9223372036854775807/\(u=true->(d r []).same v)/\(u=false->c<=g/\g<=g/\g*(48:Int)<=(140737488355328:Int)/\g<=(1000000000000:Int)/\(((n.same n/\(γS 2 g.toNat 6).same s/\l.same l/\(b w).same t/\(γx .i64 0).same (b 0)/\True)/\o.same o/\q.same q/\(e bp.dR (δ g.toNat (bD.mk c c c c c c)) 23 true).same (e bp.dR (gU p []) 23 true)/\True)/\c<=c/\c<=f)/\∀(x:Int),let h:=bj a.chosen x.toNat c;let j:=gU p (ω x.toNat a.chosen);let m:=bj p.offers h.toNat bp.off.dflt;let k:=x+(1:Int);let y:=b k;c<=x/\x<=f->(decide (x<f)=true->c<=x/\x<w/\x.toNat<a.chosen.length/\c<=h/\h<(↑p.offers.length:Int)/\h.toNat<p.offers.length/\c<=h/\h<(↑p.offers.length:Int)/\h.toNat<p.offers.length/\p.classes.length=j.length/\c<=m.bX/\m.bX<(↑j.length:Int)/\p.classes.length=j.length/\m.bX.toNat<j.length/\cn .i64 k/\((n.same n/\s.same s/\l.same l/\t.same t/\y.same y/\True)/\o.same o/\q.same q/\(e bp.dR (j.set m.bX.toNat m.want) 23 true).same (e bp.dR (gU p (ω k.toNat a.chosen)) 23 true)/\True)/\(c<=k/\k<=f)/\(f - k).toNat<(f - x).toNat)/\(decide (x<f)=false->p.classes.length=j.length/\(d bp.dR j).same v))) (by kernel_rfl) ?_;simp only[vcs];have how:∀{x y:Nat},x=y->(γS 2 x 6).same (γS 2 y 6):=by rintro _ _ rfl;rfl
 have hrow:∀{x y:List bD},x=y->(bq.row .dR x 23 true).same (bq.row .dR y 23 true):=by rintro _ _ rfl;rfl
 simp only[Ψ];refine⟨by omega,λh=>by rw[if_neg h];rfl,λh=>?_⟩;have hf:bW p a.chosen=0:=Ξ.1 h;obtain⟨hc,hin⟩:=LI hf;have hgo:=(dN hc).1;refine⟨by omega,by omega,by omega,by omega,⟨⟨how rfl,hrow rfl⟩,by omega,by omega⟩,?_⟩;rintro i ⟨i0,i1⟩;have hbl:=@wq p (a.chosen.take i.toNat);refine⟨λhi=>?_,λhi=>?_⟩
 ·have hx:=hin _ (dj (d:=0) (show i.toNat<a.chosen.length by omega));have ho:=ki hc hx;have et:=kC (d:=0) i0 hi;have LJ:bj p.offers (bj a.chosen i.toNat 0).toNat bp.off.dflt=oI p (bj a.chosen i.toNat 0):=rfl;rw[LJ];refine⟨i0,hi,by omega,hx.1,hx.2,by omega,hx.1,hx.2,by omega,hbl.symm,ho.1,by omega,hbl.symm,by omega,by omega,hrow ?_,by omega,by omega⟩;rw[et];unfold gU;rw[εH];rfl
 ·rw[if_pos hf,show a.chosen.take i.toNat=a.chosen by rw[show i.toNat=a.chosen.length by omega,π]] at*;exact⟨wq.symm,rfl⟩
def LK:bL:=⟨23,bn×Alloc,.cons dE (.one jZ),λa=>a.2.chosen.length<=1000000000000,λa=> .bJ [.row .dR (if bW a.1 a.2.chosen=0 then gU a.1 a.2.chosen else[]),.row (.i .i64) (if bW a.1 a.2.chosen=0 then gC a.1 a.2.chosen else[])]⟩
def ae9 (p:bn) (a:Alloc):Nat->cC
 |5=> .inv Int (λi=>⟨[(2,.ptr 0 0 20),(3,.ptr 1 0 2),(6,.ow 2 p.classes.length 6),(7,.ow 3 p.classes.length 1),(8,.si .i64 i)],[.cells p.ss 27 20 false,.cells [.row (.i .i64) a.chosen,.si .i64 a.value] 31 2 false,.row .dR (gU p (a.chosen.take i.toNat)) 23 true,.row (.i .i64) (gC p (a.chosen.take i.toNat)) 2 true]⟩)
   (λs=>iS s 8) (λi=>0<=i/\i<=a.chosen.length) (λi=>(a.chosen.length - i).toNat) λ_ _=> .look
 |_=> .look
theorem h477:Holds Tryz.prog LK:=by
 refine cF (L:=[Da]) LK (λa=>ae9 a.1 a.2) (by simpa using h55) ?_;rintro⟨p,a⟩ (hl:a.chosen.length<=1000000000000);refine bO (let b:=γe .i64;let c:=(0:Int);let d:=bq.row;let e:=Θ;let f:=(140737488355328:Int);let g:=(1000000000000:Int);let h:=γS;let j:=SV.bJ;let D:=decide (bW p a.chosen≠c);let l:=bp.i .i64;let E:=j [e bp.dR (if bW p a.chosen=c then gU p a.chosen else[]),e l (if bW p a.chosen=c then gC p a.chosen else[])];let k:=(↑p.classes.length:Int);let s:=γP 0 0 20;let t:=γP 1 0 2;let m:=p.classes.length;let z:=h 2 m 6;let A:=h 3 m 1;let u:=bq.cells [b p.supply.a0,b p.supply.a1,b p.supply.a2,b p.supply.a3,b p.supply.a4,b p.supply.a5,b p.opn.a0,b p.opn.a1,b p.opn.a2,b p.opn.a3,b p.opn.a4,b p.opn.a5,b p.cls.a0,b p.cls.a1,b p.cls.a2,b p.cls.a3,b p.cls.a4,b p.cls.a5,e l p.classes,e bp.off p.offers] 27 20 false;let v:=bq.cells [e l a.chosen,b a.value] 31 2 false;let q:=(↑a.chosen.length:Int);let B:=(↑a.chosen.length:Int);a.chosen.length<=9223372036854775807/\(D=true->(j [e l [],e l []]).same E)/\(D=false->c<=k/\k<=k/\k*(48:Int)<=f/\k<=g/\c<=k/\k<=k/\k*(8:Int)<=f/\k<=g/\(((s.same s/\t.same t/\(h 2 k.toNat 6).same z/\(h 3 k.toNat 1).same A/\(γx .i64 0).same (b 0)/\True)/\u.same u/\v.same v/\(d bp.dR (δ k.toNat (bD.mk c c c c c c)) 23 true).same (d bp.dR (gU p []) 23 true)/\(d l (δ k.toNat c) 2 true).same (d l (gC p []) 2 true)/\True)/\c<=c/\c<=q)/\∀(x:Int),let w:=bj a.chosen x.toNat c;let n:=ω x.toNat a.chosen;let Bd:Nat:=(gU p n).length;let C:=bj p.offers w.toNat bp.off.dflt;let r:=C.bX;let y:=r.toNat;let Be:Nat:=(gC p n).length;let o:=x+(1:Int);let F:=b o;let G:=ω o.toNat a.chosen;c<=x/\x<=q->(decide (x<B)=true->c<=x/\x<B/\x.toNat<a.chosen.length/\c<=w/\w<(↑p.offers.length:Int)/\w.toNat<p.offers.length/\m=Bd/\c<=r/\r<(↑Bd:Int)/\m=Bd/\y<Bd/\m=Be/\c<=r/\r<(↑Be:Int)/\m=Be/\y<Be/\cn .i64 o/\((s.same s/\t.same t/\z.same z/\A.same A/\F.same F/\True)/\u.same u/\v.same v/\(d bp.dR ((gU p n).set y C.want) 23 true).same (d bp.dR (gU p G) 23 true)/\(d l ((gC p n).set y C.value) 2 true).same (d l (gC p G) 2 true)/\True)/\(c<=o/\o<=q)/\(q - o).toNat<(q - x).toNat)/\(decide (x<B)=false->m=Bd/\m=Be/\(j [e bp.dR (gU p n),e l (gC p n)]).same E))) (by kernel_rfl) ?_;simp only[vcs];have how:∀{x y:Nat},x=y->(γS 2 x 6).same (γS 2 y 6):=by rintro _ _ rfl;rfl
 have hov:∀{x y:Nat},x=y->(γS 3 x 1).same (γS 3 y 1):=by rintro _ _ rfl;rfl
 have hrow:∀{x y:List bD},x=y->(bq.row .dR x 23 true).same (bq.row .dR y 23 true):=by rintro _ _ rfl;rfl
 have UU:∀{x y:List Int},x=y->(bq.row (.i .i64) x 2 true).same (bq.row (.i .i64) y 2 true):=by rintro _ _ rfl;rfl
 simp only[Ψ];refine⟨by omega,λh=>by rw[if_neg h,if_neg h];exact⟨rfl,rfl⟩,λh=>?_⟩;have hf:bW p a.chosen=0:=Ξ.1 h;obtain⟨hc,hin⟩:=LI hf;have hgo:=(dN hc).1;refine⟨by omega,by omega,by omega,by omega,by omega,by omega,by omega,by omega,⟨⟨⟨how rfl,hov rfl⟩,hrow rfl,UU rfl⟩,by omega,by omega⟩,?_⟩;rintro i ⟨i0,i1⟩;have hbl:=@wq p (a.chosen.take i.toNat);have hvl:=@C6 p (a.chosen.take i.toNat);refine⟨λhi=>?_,λhi=>?_⟩
 ·have hx:=hin _ (dj (d:=0) (show i.toNat<a.chosen.length by omega));have ho:=ki hc hx;have et:=kC (d:=0) i0 hi;have LJ:bj p.offers (bj a.chosen i.toNat 0).toNat bp.off.dflt=oI p (bj a.chosen i.toNat 0):=rfl;rw[LJ];refine⟨i0,hi,by omega,hx.1,hx.2,by omega,hbl.symm,ho.1,by omega,hbl.symm,by omega,hvl.symm,ho.1,by omega,hvl.symm,by omega,by omega,⟨hrow ?_,UU ?_⟩,by omega,by omega⟩
  ·rw[et];unfold gU;rw[εH];rfl
  ·rw[et];unfold gC;rw[εH];rfl
 ·rw[if_pos hf,if_pos hf,show a.chosen.take i.toNat=a.chosen by rw[show i.toNat=a.chosen.length by omega,π]];exact⟨wq.symm,C6.symm,rfl,rfl⟩
def me (p:bn):Bool:=decide (p.classes.length<=8)&&decide (p.offers.length<=12)&&decide (bB p=0)
def yL:bL:=⟨10,bn,.one dE,λ_=>True,λp=> .sb (me p)⟩
theorem h471:Holds Tryz.prog yL:=by
 refine cF (L:=[zH]) yL lk (by simpa using h24) ?_;intro(p:bn) _;refine bO (let a:=δa false;let b:=γw;let c:=decide ((↑p.classes.length:Int)<=(8:Int));let d:=decide ((↑p.offers.length:Int)<=(12:Int));(c=true->(d=true->True/\(b (decide (bB p=(0:Int)))).same (b (me p)))/\(d=false->(a).same (b (me p))))/\(c=false->(a).same (b (me p)))) (by kernel_rfl) ?_;simp only[vcs];unfold me;refine⟨λh=>⟨λh2=>?_,λh2=>?_⟩,λh=>?_⟩
 ·rw[decide_eq_true (show p.classes.length<=8 by omega),decide_eq_true (show p.offers.length<=12 by omega)];rfl
 ·rw[decide_eq_false (show ¬p.offers.length<=12 by omega),Bool.and_false];rfl
 ·rw[decide_eq_false (show ¬p.classes.length<=8 by omega)];rfl
def LL:bL:=⟨24,Unit,.nil,λ_=>True,λ_=>dE.put three⟩
theorem h479:Holds Tryz.prog LL:=by
 refine cF (L:=[]) LL lk (by simp) ?_;intro _ _;refine bO (let a:=γe .i64;let b:=(0:Int);let c:=(1:Int);let d:=Θ;let g:=γx .i64 1;let e:=γx .i64 0;let f:=three.supply;(γQ [g,g,e,e,e,e,g,g,e,e,e,e,e,e,e,e,e,e,d (bp.i .i64) [b,b,b],d bp.off [Off.mk b (bD.mk c c b b b b) (10:Int),Off.mk c (bD.mk c b b b b b) (6:Int),Off.mk (2:Int) (bD.mk b c b b b b) (6:Int)]]).same (γQ [a f.a0,a f.a1,a f.a2,a f.a3,a f.a4,a f.a5,a three.opn.a0,a three.opn.a1,a three.opn.a2,a three.opn.a3,a three.opn.a4,a three.opn.a5,a three.cls.a0,a three.cls.a1,a three.cls.a2,a three.cls.a3,a three.cls.a4,a three.cls.a5,d (bp.i .i64) three.classes,d bp.off three.offers])) (by kernel_rfl) ?_;conv=>zeta
 rfl
end Go.Vi
