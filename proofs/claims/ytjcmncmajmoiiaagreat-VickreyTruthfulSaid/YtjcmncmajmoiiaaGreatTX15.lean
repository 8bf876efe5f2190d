/-
  Contracts: utilities.
  Conditions: none.
-/
import Derived.Test.YtjcmncmajmoiiaaGreatTX06
import Derived.Test.YtjcmncmajmoiiaaGreatTX08
import Derived.Test.YtjcmncmajmoiiaaGreatTX09
import Derived.Test.YtjcmncmajmoiiaaGreatTX11
import Derived.Test.YtjcmncmajmoiiaaGreatTX12
import Derived.Test.YtjcmncmajmoiiaaGreatTX13
import Derived.Test.YtjcmncmajmoiiaaGreatTX14
import Derived.Test.YtjcmncmajmoiiaaGreatTX07
import Derived.Test.YtjcmncmajmoiiaaGreatTX10
set_option maxRecDepth 100000
set_option maxHeartbeats 4000000
set_option linter.all false
open Classical renaming not_not->Γ
open Go.Vi.SV renaming row->Φ
open List renaming foldl_append->δP,take_length->χ,length_take->Ξ
namespace Go.Vi
open Go.Proofs.YtjcmncmajmoiiaaGreat.Ir
open Go.Proofs
def od (l:List Off) (g:bz) (i:Nat):Int:=(l.take i).foldl (qL g) 0
theorem afE {l:List Off} {g:bz} {i:Int} (h0:0<=i) (h1:i<l.length):od l g (i+1).toNat=qL g (od l g i.toNat) (bj l i.toNat bn.off.dflt):=by
 unfold od;rw[jl (d:=bn.off.dflt) h0 h1,δP];rfl
def LY:bM:=⟨46,List Off×bz,.cons (dN .off) (.one (eG .dX)),λa=>a.1.length<=1000,λa=> .si .i64 (ob a.1 a.2)⟩
def afF (g:bz):bV:=[.cells (encS .dX g) 23 6 false]
def afG (a:List Off×bz):Nat->cB
 |3=> .inv Int (λi=>⟨[(0,.row .off a.1),(3,.ptr 0 0 6),(5,.si .i64 (od a.1 a.2 i.toNat)),(6,.si .i64 i)],afF a.2⟩) (λs=>iS s 6) (λi=>0<=i/\i<=a.1.length) (λi=>(a.1.length - i).toNat) λi=>λ
  |7=> .oG 7
  |_=> .look
 |_=> .look
theorem h478:Holds Tryz.prog LY:=by
 refine cK (L:=[]) LY afG (by simp) ?_
 rintro⟨l,g⟩ (hl:l.length<=1000)
 refine bR (let a:=SV.si .i64;let b:=(0:Int);let c:=Φ;let h:=SV.ptr 0 0 6;let n:=SV.il .i64 0;let i:=bq.cells [a g.a0,a g.a1,a g.a2,a g.a3,a g.a4,a g.a5] 23 6 false;let f:=(↑l.length:Int);let e:=(↑l.length:Int);let o:=bn.off.dflt;((((c bn.off l).same (c bn.off l)/\h.same h/\n.same (a (od l g 0))/\n.same (a 0)/\True)/\i.same i/\True)/\b<=b/\b<=f)/\∀(x:Int),let d:=x+(1:Int);let p:=a (od l g x.toNat);let q:=a (od l g d.toNat);let m:=a d;let j:=(bj l x.toNat o).want;let r:=decide (j.a0<=g.a0);let s:=decide (j.a1<=g.a1);let t:=decide (j.a2<=g.a2);let u:=decide (j.a3<=g.a3);let v:=decide (j.a4<=g.a4);let w:=decide (j.a5<=g.a5);let k:=bX .i64 d/\(((c bn.off l).same (c bn.off l)/\h.same h/\p.same q/\m.same m/\True)/\i.same i/\True)/\(b<=d/\d<=f)/\(f - d).toNat<(f - x).toNat;b<=x/\x<=f->(decide (x<e)=true->b<=x/\x<e/\x.toNat<l.length/\(r=true->b<=x/\x<e/\x.toNat<l.length/\(s=true->b<=x/\x<e/\x.toNat<l.length/\(t=true->b<=x/\x<e/\x.toNat<l.length/\(u=true->b<=x/\x<e/\x.toNat<l.length/\(v=true->b<=x/\x<e/\x.toNat<l.length/\(w=true->b<=x/\x<e/\x.toNat<l.length/\bX .i64 d/\(((c bn.off l).same (c bn.off l)/\h.same h/\(a (max (od l g x.toNat) (bj l x.toNat o).value)).same q/\m.same m/\True)/\i.same i/\True)/\(b<=d/\d<=f)/\(f - d).toNat<(f - x).toNat)/\(w=false->k))/\(v=false->k))/\(u=false->k))/\(t=false->k))/\(s=false->k))/\(r=false->k))/\(decide (x<e)=false->p.same (a (ob l g)))) (by kernel_rfl) ?_
 simp only[vcs]
 refine⟨⟨by simp[od],by omega,by omega⟩,?_⟩
 rintro i ⟨i0,i1⟩
 refine⟨λhlt=>?_,λhge=>?_⟩
 ·have hs:=afE (g:=g) i0 hlt
  have hlt2:i.toNat<l.length:=by omega
  generalize bj l i.toNat bn.off.dflt=x at*
  have e1:x.want.le g=true->od l g (i+1).toNat=max (od l g i.toNat) x.value:=λh=>by rw[hs];unfold qL;rw[if_pos h]
  have e2:¬x.want.le g=true->od l g (i+1).toNat=od l g i.toNat:=λh=>by rw[hs];unfold qL;rw[if_neg h]
  rw[bz.le_iff] at e1 e2
  repeat' (first|refine And.intro ?_ ?_|intro _)
  all_goals first|omega|exact(e1 (by omega)).symm|exact(e2 (by omega)).symm
 ·unfold od ob
  rw[show i.toNat=l.length by omega,χ]
def mg (p:bp) (b:Int) (i:Nat):List Off:=(p.offers.take i).filter λx=>decide (x.bF≠b)
def LZ:bM:=⟨15,bp×Int×List Off,.cons dG (.cons (ez .i64) (.one (dN .off))),λa=>a.1.offers.length<=160/\a.2.2.length<=1000,λa=>dG.put (dV a.1 a.2.1 a.2.2)⟩
def Vo (p:bp) (l:List Off):bV:=[.cells p.ss 27 20 false,.cells zss 27 20 false,.cells (bss p.supply p.opn p.cls++[.row (.i .i64) p.classes,.ow 3 l.length 8]) 27 20 false,.row .off l 39 true]
def afH (a:bp×Int×List Off):Nat->cB
 |4=> .inv Int (λi=>⟨[(1,.si .i64 a.2.1),(2,.row .off a.2.2),(3,.ptr 0 0 20),(6,.ptr 1 0 20),(7,.ptr 2 0 20),(8,.si .i64 i)],Vo a.1 (mg a.1 a.2.1 i.toNat)⟩) (λs=>iS s 8)
  (λi=>0<=i/\i<=a.1.offers.length) (λi=>(a.1.offers.length - i).toNat) λ_ _=> .look
 |9=> .inv Int (λi=>⟨[(1,.si .i64 a.2.1),(2,.row .off a.2.2),(6,.ptr 1 0 20),(7,.ptr 2 0 20),(9,.si .i64 i)],Vo a.1 (mg a.1 a.2.1 a.1.offers.length++(a.2.2.take i.toNat).map (jd a.2.1))⟩) (λs=>iS s 9)
  (λi=>0<=i/\i<=a.2.2.length) (λi=>(a.2.2.length - i).toNat) λ_ _=> .look
 |_=> .look
theorem h468:Holds Tryz.prog LZ:=by
 refine cK (L:=[]) LZ afH (by simp) ?_
 rintro⟨p,b,l⟩ ⟨hp,hl⟩
 simp only at hp hl
 refine bR (let a:=SV.si .i64;let c:=bq.cells;let d:=(0:Int);let e:=Φ;let f:=bq.row;let g:=SV.ow;let h:=SV.ptr;let U:=h 0 0 20;let H:=h 1 0 20;let I:=h 2 0 20;let j:=SV.il .i64 0;let k:=a p.supply.a0;let m:=a p.supply.a1;let n:=a p.supply.a2;let o:=a p.supply.a3;let q:=a p.supply.a4;let r:=a p.supply.a5;let s:=a p.opn.a0;let t:=a p.opn.a1;let v:=a p.opn.a2;let w:=a p.opn.a3;let y:=a p.opn.a4;let z:=a p.opn.a5;let A:=a p.cls.a0;let B:=a p.cls.a1;let C:=a p.cls.a2;let D:=a p.cls.a3;let E:=a p.cls.a4;let F:=a p.cls.a5;let G:=e (bn.i .i64) p.classes;let J:=c [k,m,n,o,q,r,s,t,v,w,y,z,A,B,C,D,E,F,G,e bn.off p.offers] 27 20 false;let a6:=SV.sc (Value.slice none 0 0);let K:=c [j,j,j,j,j,j,j,j,j,j,j,j,j,j,j,j,j,j,a6,a6] 27 20 false;let S:=(↑p.offers.length:Int);let X:=p.offers.length;let V:=(↑X:Int);let Y:=bn.off.dflt;let W:=mg p b p.offers.length;let T:=(↑l.length:Int);let O:=(dV p b l).supply;let P:=(dV p b l).opn;let Q:=(dV p b l).cls;((((a b).same (a b)/\(e bn.off l).same (e bn.off l)/\U.same U/\H.same H/\I.same I/\j.same (a 0)/\True)/\J.same J/\K.same K/\(c [k,m,n,o,q,r,s,t,v,w,y,z,A,B,C,D,E,F,G,g 3 0 8] 27 20 false).same (c [k,m,n,o,q,r,s,t,v,w,y,z,A,B,C,D,E,F,G,g 3 (mg p b 0).length 8] 27 20 false)/\(f bn.off [] 39 true).same (f bn.off (mg p b 0) 39 true)/\True)/\d<=d/\d<=S)/\∀(x:Int),let M:=x+(1:Int);let a7:=a M;let Z:=bj p.offers x.toNat Y;let a8:=decide (Z.bF≠b);let L:=mg p b x.toNat;let a9:=L.length+1;let aa:=f bn.off L 39 true;let ab:=λ(u:Nat) (u_1:bq) ↦bX .i64 M/\(((a b).same (a b)/\(e bn.off l).same (e bn.off l)/\U.same U/\H.same H/\I.same I/\a7.same a7/\True)/\J.same J/\K.same K/\(c [k,m,n,o,q,r,s,t,v,w,y,z,A,B,C,D,E,F,G,g 3 u 8] 27 20 false).same (c [k,m,n,o,q,r,s,t,v,w,y,z,A,B,C,D,E,F,G,g 3 (mg p b M.toNat).length 8] 27 20 false)/\u_1.same (f bn.off (mg p b M.toNat) 39 true)/\True)/\(d<=M/\M<=S)/\(S - M).toNat<(S - x).toNat;d<=x/\x<=S->(decide (x<V)=true->d<=x/\x<V/\x.toNat<X/\(a8=true->d<=x/\x<V/\x.toNat<X/\1=1/\L.length=L.length/\a9*64<=140737488355328/\a9<=1000000000000/\ab (L++[Z]).length (f bn.off (L++[Z]) 39 true))/\(a8=false->ab L.length aa))/\(decide (x<V)=false->((((a b).same (a b)/\(e bn.off l).same (e bn.off l)/\H.same H/\I.same I/\j.same (a 0)/\True)/\J.same J/\K.same K/\(c [k,m,n,o,q,r,s,t,v,w,y,z,A,B,C,D,E,F,G,g 3 L.length 8] 27 20 false).same (c [k,m,n,o,q,r,s,t,v,w,y,z,A,B,C,D,E,F,G,g 3 (W++[]).length 8] 27 20 false)/\aa.same (f bn.off (W++[]) 39 true)/\True)/\d<=d/\d<=T)/\∀(x:Int),let ac:=decide (x<(↑l.length:Int));let N:=W++List.map (jd b) (List.take x.toNat l);let ad:=N.length+1;let R:=x+(1:Int);let ae:=a R;let af:=N++[Off.mk b (bj l x.toNat Y).want (bj l x.toNat Y).value];let ag:=W++List.map (jd b) (List.take R.toNat l);d<=x/\x<=T->(ac=true->d<=x/\x<(↑l.length:Int)/\x.toNat<l.length/\d<=x/\x<(↑l.length:Int)/\x.toNat<l.length/\1=1/\N.length=N.length/\ad*64<=140737488355328/\ad<=1000000000000/\bX .i64 R/\(((a b).same (a b)/\(e bn.off l).same (e bn.off l)/\H.same H/\I.same I/\ae.same ae/\True)/\J.same J/\K.same K/\(c [k,m,n,o,q,r,s,t,v,w,y,z,A,B,C,D,E,F,G,g 3 af.length 8] 27 20 false).same (c [k,m,n,o,q,r,s,t,v,w,y,z,A,B,C,D,E,F,G,g 3 ag.length 8] 27 20 false)/\(f bn.off af 39 true).same (f bn.off ag 39 true)/\True)/\(d<=R/\R<=T)/\(T - R).toNat<(T - x).toNat)/\(ac=false->N.length=N.length/\(SV.agg [k,m,n,o,q,r,s,t,v,w,y,z,A,B,C,D,E,F,G,e bn.off N]).same (SV.agg [a O.a0,a O.a1,a O.a2,a O.a3,a O.a4,a O.a5,a P.a0,a P.a1,a P.a2,a P.a3,a P.a4,a P.a5,a Q.a0,a Q.a1,a Q.a2,a Q.a3,a Q.a4,a Q.a5,e (bn.i .i64) (dV p b l).classes,e bn.off (dV p b l).offers])))) (by kernel_rfl) ?_
 simp only[vcs]
 have Bd:∀{x y:Nat} {A:List SV},x=y->(bq.cells (A++[.row (.i .i64) p.classes,.ow 3 x 8]) 27 20 false).same (bq.cells (A++[.row (.i .i64) p.classes,.ow 3 y 8]) 27 20 false):=by rintro _ _ _ rfl;rfl
 have hoff:∀{x y:List Off},x=y->(bq.row .off x 39 true).same (bq.row .off y 39 true):=by rintro _ _ rfl;rfl
 have hr0:mg p b 0=[]:=by simp[mg]
 have hrl:∀n,(mg p b n).length<=160:=λn=>by
  have h1:=List.length_filter_le (λx:Off=>decide (x.bF≠b)) (p.offers.take n)
  simp only[Ξ] at h1;unfold mg;omega
 refine⟨⟨⟨Bd (A:=bss p.supply p.opn p.cls) (by simp[hr0]),hoff hr0.symm⟩,by omega,by omega⟩,?_⟩
 rintro i ⟨i0,i1⟩
 refine⟨λj4=>?_,λmE=>?_⟩
 ·have hl:=hrl i.toNat
  have hs:mg p b (i+1).toNat=mg p b i.toNat++(if(bj p.offers i.toNat bn.off.dflt).bF≠b then[bj p.offers i.toNat bn.off.dflt] else[]):=by
   unfold mg;rw[jl (d:=bn.off.dflt) i0 j4,List.filter_append]
   congr 1
   by_cases h:(bj p.offers i.toNat bn.off.dflt).bF=b<;>simp[h]
  refine⟨i0,j4,by omega,λhb=>?_,λhb=>?_⟩
  ·rw[if_pos hb] at hs
   rw[hs]
   refine⟨i0,j4,?_,?_,?_,⟨?_,?_⟩,⟨Bd (A:=bss p.supply p.opn p.cls) rfl,hoff rfl⟩,⟨?_,?_⟩,?_⟩<;>omega
  ·rw[if_neg hb,List.append_nil] at hs
   rw[hs]
   refine⟨⟨?_,?_⟩,⟨Bd (A:=bss p.supply p.opn p.cls) rfl,hoff rfl⟩,⟨?_,?_⟩,?_⟩<;>omega
 ·have hi:i.toNat=p.offers.length:=by omega
  have hl:=hrl i.toNat
  rw[hi] at hl ⊢
  refine⟨⟨⟨Bd (A:=bss p.supply p.opn p.cls) (by simp),hoff (by simp)⟩,by omega,by omega⟩,?_⟩
  rintro j ⟨j0,j1⟩
  refine⟨λC7=>?_,λZ4=>?_⟩
  ·have hs:(l.take (j+1).toNat).map (jd b)=(l.take j.toNat).map (jd b)++[jd b (bj l j.toNat bn.off.dflt)]:=by
    rw[jl (d:=bn.off.dflt) j0 C7,List.map_append];rfl
   have hlen:((l.take j.toNat).map (jd b)).length<=1000:=by simp only[List.length_map,Ξ];omega
   rw[hs,<-List.append_assoc]
   repeat' refine And.intro ?_ ?_
   all_goals first|omega|(simp only[List.length_append,List.length_singleton];omega)|exact Bd (A:=bss p.supply p.opn p.cls) rfl|exact hoff rfl
  ·rw[show j.toNat=l.length by omega,χ]
   have hq:mg p b p.offers.length++l.map (jd b)=(dV p b l).offers:=by unfold mg dV qq;rw[χ]
   rw[hq];exact rfl
def rM (p:bp) (c:List Int) (b:Int) (i:Nat):bz:=(c.take i).foldl (yG p b) bz.zero
theorem afI {p:bp} {c:List Int} {b i:Int} (h0:0<=i) (h1:i<c.length):rM p c b (i+1).toNat=yG p b (rM p c b i.toNat) (bj c i.toNat 0):=by
 unfold rM;rw[jl (d:=0) h0 h1,δP];rfl
theorem afJ {p:bp} (hc:bC p=0):(kU p (bZ p).chosen).length=p.classes.length/\∀x:Int,0<=x->x<p.classes.length->bj (kU p (bZ p).chosen) x.toNat 0=kA (fZ p (bZ p).chosen) x:=by
 have ho:=(xx hc).1
 have pl:(kU p (bZ p).chosen).length=p.classes.length:=by simp[kU,ho,Ia]
 refine⟨pl,λx h0 h1=>?_⟩
 rw[cO (by omega)]
 simp only[kU,ho,if_true,jX,List.getElem_map,List.getElem_range,H8,show((x.toNat:Nat):Int)=x by omega]
theorem afK {p:bp} (hc:bC p=0):vx p (bZ p).chosen/\(bZ p).chosen.length<=160/\cM p (bZ p).chosen=0:=by
 obtain⟨ho,_,ht,_⟩:=xx hc
 have hz:cM p (bZ p).chosen=0:=aat (aaD▸ho)
 exact⟨Dp ht,(zB hz).2.2.2.1,hz⟩
def L0:bM:=⟨18,bp×Int×List Off,.cons dG (.cons (ez .i64) (.one (dN .off))),λa=>bC a.1=0/\a.1.offers.length<=15/\0<=a.2.1/\a.2.1<a.1.classes.length/\a.2.2.length<=1000/\∀x∈a.2.2,x.value<=1000000,
 λa=> .bH [.si .i64 (qM a.1 a.2.1 a.2.2),.sb true]⟩
noncomputable def afL (p:bp) (g:bz):bV:=[.cells p.ss 27 20 false,.cells [.row (.i .i64) (bZ p).chosen,.si .i64 (bZ p).value,.row ek (Bc p)] 45 3 false,.cells (encS .dX g) 23 6 false]
noncomputable def afM (a:bp×Int×List Off):Nat->cB
 |9=> .inv Int (λi=>⟨[(1,.si .i64 a.2.1),(2,.row .off a.2.2),(3,.ptr 0 0 20),(8,.ptr 1 0 3),(10,.row (.i .i64) (kU a.1 (bZ a.1).chosen)),(12,.ptr 2 0 6),(13,.si .i64 i)],afL a.1 (rM a.1 (bZ a.1).chosen a.2.1 i.toNat)⟩) (λs=>iS s 13)
  (λi=>0<=i/\i<=(bZ a.1).chosen.length) (λi=>((bZ a.1).chosen.length - i).toNat) λ_ _=> .look
 |_=> .look
theorem h469:Holds Tryz.prog L0:=by
 refine cK (L:=[LV,Dc,Ik,LY]) L0 afM (by simpa using⟨h427,h17,h55,h478⟩) ?_
 rintro⟨p,b,t⟩ ⟨hc,h15,h0,h1,hl,ht⟩
 simp only at hc h15 h0 h1 hl ht
 refine bR (let a:=SV.si .i64;let c:=(0:Int);let d:=bq.cells;let e:=Φ;let f:=SV.bl false;let g:=SV.bH;let h:=SV.ptr;let j:=(bZ p).chosen;let l:=if bC p=c then j else[];let D:=decide (bC p≠c);let k:=SV.il .i64 0;let q:=g [a (qM p b t),SV.sb true];let v:=h 0 0 20;let w:=h 1 0 3;let r:=bn.i .i64;let B:=e r (kU p j);let y:=h 2 0 6;let z:=d [a p.supply.a0,a p.supply.a1,a p.supply.a2,a p.supply.a3,a p.supply.a4,a p.supply.a5,a p.opn.a0,a p.opn.a1,a p.opn.a2,a p.opn.a3,a p.opn.a4,a p.opn.a5,a p.cls.a0,a p.cls.a1,a p.cls.a2,a p.cls.a3,a p.cls.a4,a p.cls.a5,e r p.classes,e bn.off p.offers] 27 20 false;let C:=d [e r j,a (bZ p).value,e ek (Bc p)] 45 3 false;let m:=rM p j b 0;let s:=(↑j.length:Int);let E:=λ(u:Bool) ↦decide ((↑(kU p l).length:Int)≠(↑p.classes.length:Int))=u;let F:=λ(u:Bool) ↦decide (cM p l≠c)=u;let G:=λ(u:Bool) ↦decide (gl p l≠c)=u;(bC p≠c\/p.offers.length<=15)/\(D=true->(g [k,f]).same q)/\(D=false->l.length<=1000000000000/\(G true->(g [k,f]).same q)/\(G false->(E true->(g [k,f]).same q)/\(E false->l.length<=9223372036854775807/\(F true->(g [k,f]).same q)/\(F false->((((a b).same (a b)/\(e bn.off t).same (e bn.off t)/\v.same v/\w.same w/\(e r (kU p l)).same B/\y.same y/\k.same (a 0)/\True)/\z.same z/\(d [e r l,a (if bC p=c then(bZ p).value else c),e ek (if bC p=c then Bc p else[])] 45 3 false).same C/\(d [k,k,k,k,k,k] 23 6 false).same (d [a m.a0,a m.a1,a m.a2,a m.a3,a m.a4,a m.a5] 23 6 false)/\True)/\c<=c/\c<=s)/\∀(x:Int),let A:=bj j x.toNat c;let H:=bj p.offers A.toNat bn.off.dflt;let n:=x+(1:Int);let I:=a n;let o:=rM p j b n.toNat;let J:=decide (x<(↑j.length:Int));let K:=ob t (rM p j b x.toNat) - bj (kU p j) b.toNat c;let L:=λ(u:Bool) (u_1:bz) ↦decide (H.bF=b)=u->bX .i64 n/\(((a b).same (a b)/\(e bn.off t).same (e bn.off t)/\v.same v/\w.same w/\B.same B/\y.same y/\I.same I/\True)/\z.same z/\C.same C/\(d [a u_1.a0,a u_1.a1,a u_1.a2,a u_1.a3,a u_1.a4,a u_1.a5] 23 6 false).same (d [a o.a0,a o.a1,a o.a2,a o.a3,a o.a4,a o.a5] 23 6 false)/\True)/\(c<=n/\n<=s)/\(s - n).toNat<(s - x).toNat;c<=x/\x<=s->(J=true->c<=x/\x<(↑j.length:Int)/\x.toNat<j.length/\c<=A/\A<(↑p.offers.length:Int)/\A.toNat<p.offers.length/\L true H.want/\L false (rM p j b x.toNat))/\(J=false->t.length<=1000/\c<=b/\b<(↑(kU p j).length:Int)/\b.toNat<(kU p j).length/\bX .i64 K/\(g [a K,SV.bl true]).same q)))))) (by kernel_rfl) ?_
 simp only[vcs,hc,if_true]
 obtain⟨hi,agx,hz⟩:=afK hc
 obtain⟨pl,pn⟩:=afJ hc
 have ho:=(xx hc).1
 have Vp:∀{x y:bz},x=y->(bq.cells (encS .dX x) 23 6 false).same (bq.cells (encS .dX y) 23 6 false):=by rintro _ _ rfl;rfl
 refine⟨.inr h15,λh=>absurd rfl h,λ_=>⟨by omega,λh=>absurd ho h,λ_=>⟨λh=>absurd (by omega) h,λ_=>⟨by omega,λh=>absurd hz h,λ_=>⟨⟨rfl,by omega,by omega⟩,?_⟩⟩⟩⟩⟩
 rintro i ⟨i0,i1⟩
 refine⟨λhlt=>?_,λhge=>?_⟩
 ·have hci:=hi _ (de (d:=0) (show i.toNat<(bZ p).chosen.length by omega))
  have hs:=afI (p:=p) (b:=b) i0 hlt
  refine⟨i0,hlt,by omega,hci.1,hci.2,by omega,λhb=>⟨⟨by omega,by omega⟩,Vp ?_,⟨by omega,by omega⟩,by omega⟩,λhb=>⟨⟨by omega,by omega⟩,Vp ?_,⟨by omega,by omega⟩,by omega⟩⟩
  ·rw[hs];unfold yG;rw[if_pos hb]
  ·rw[hs];unfold yG;rw[if_neg hb]
 ·rw[show i.toNat=(bZ p).chosen.length by omega]
  have hgt:rM p (bZ p).chosen b (bZ p).chosen.length=qK p (bZ p).chosen b:=by unfold rM qK;rw[χ]
  obtain⟨d1,d2,_⟩:=zA ho
  have hb:=P5 d1 h0 (by rw[d2];simp only[H4];exact h1)
  obtain⟨w1,_,w3⟩:=@yI (qK p (bZ p).chosen b) t 0
  have hw:0<=ob t (qK p (bZ p).chosen b)/\ob t (qK p (bZ p).chosen b)<=1000000:=by
   refine⟨w1,?_⟩
   rcases w3 with h|⟨x,hx,_,h⟩
   ·unfold ob;omega
   ·have:=ht x hx;unfold ob;omega
  rw[hgt,pl,pn b h0 h1]
  refine⟨hl,h0,h1,?_,⟨?_,?_⟩,rfl⟩<;>omega
def L1:bM:=⟨3,bp×Int×List Off×List Off,.cons dG (.cons (ez .i64) (.cons (dN .off) (.one (dN .off)))),λ_=>True,λ_=> .sb true⟩
theorem h457:Holds Tryz.prog L1:=by
 refine cK (L:=[r16,LZ,Dh,Dj,L0]) L1 lk (by simpa using⟨h16,h468,h15,h24,h469⟩) ?_
 rintro⟨p,b,t,r⟩ _
 refine bR (let a:=SV.sb;let c:=(0:Int);let d:=SV.bl false;let e:=(1000000:Int);let f:=(10:Int);let g:=decide (f<(↑p.offers.length:Int));let h:=decide ((4:Int)<(↑t.length:Int));let i:=decide ((4:Int)<(↑r.length:Int));let j:=decide (b<c);let k:=decide ((↑p.classes.length:Int)<=b);let l:=!sy (dV p b t) f;let m:=!sy (dV p b r) f;let n:=decide (bC (dV p b t)≠c);let o:=decide (bC (dV p b r)≠c);let q:=qM (dV p b t) b t;let s:=decide (qM (dV p b r) b t<=q);let u:=decide (c<=q);(g=true->True/\(a true).same (a true))/\(g=false->(h=true->True/\(a true).same (a true))/\(h=false->(i=true->True/\(a true).same (a true))/\(i=false->(j=true->True/\(a true).same (a true))/\(j=false->(k=true->True/\(a true).same (a true))/\(k=false->(p.offers.length<=160/\t.length<=1000)/\(p.offers.length<=160/\r.length<=1000)/\True/\(l=true->True/\(a true).same (a true))/\(l=false->True/\(m=true->True/\(a true).same (a true))/\(m=false->True/\(n=true->True/\(a true).same (a true))/\(n=false->True/\(o=true->True/\(a true).same (a true))/\(o=false->(bC (dV p b t)=c/\(dV p b t).offers.length<=15/\c<=b/\b<(↑(dV p b t).classes.length:Int)/\t.length<=1000/\∀(x:Off),x∈t->x.value<=e)/\(bC (dV p b r)=c/\(dV p b r).offers.length<=15/\c<=b/\b<(↑(dV p b r).classes.length:Int)/\t.length<=1000/\∀(x:Off),x∈t->x.value<=e)/\(true=true->(true=true->(s=true->(u=true->True/\(a true).same (a true))/\(u=false->(d).same (a true)))/\(s=false->(d).same (a true)))/\(true=false->(d).same (a true)))/\(true=false->(d).same (a true)))))))))))) (by kernel_rfl) ?_
 simp only[vcs]
 refine⟨λ_=>trivial,λc1=>⟨λ_=>trivial,λc2=>⟨λ_=>trivial,λc3=>⟨λ_=>trivial,λc4=>⟨λ_=>trivial,λc5=>⟨⟨by omega,by omega⟩,⟨by omega,by omega⟩,λ_=>trivial,λf1=>⟨λ_=>trivial,λf2=>⟨λ_=>trivial,λk1=>⟨λ_=>trivial,λk2=>?_⟩⟩⟩⟩⟩⟩⟩⟩⟩
 have ha:bC (dV p b t)=0:=Γ.1 k1
 have hb:bC (dV p b r)=0:=Γ.1 k2
 simp only[sy,Bool.and_eq_true,decide_eq_true_eq] at f1 f2
 have h1:b<p.classes.length:=by omega
 have hv:∀x∈t,x.value<=1000000:=λx hx=>((dL ha).2.2.2.2 (jd b x) (yJ.2 (.inr ⟨x,hx,rfl⟩))).2.2.2.2
 obtain⟨l1,l2⟩:=afD ha hb (by omega) h1
 exact⟨⟨ha,by omega,by omega,h1,by omega,hv⟩,⟨hb,by omega,by omega,h1,by omega,hv⟩,λ_=>⟨λ_=>⟨λ_=>⟨λ_=>trivial,λh=>absurd l2 h⟩,λh=>absurd l1 h⟩,λh=>by cases h⟩,λh=>by cases h⟩
end Go.Vi
