/-
  Contracts: the optimum of the relaxation, where the fixed offers lie in a row of the caller's own.
  Conditions: none.
-/
import Derived.Test.YtgejbpobaicgfaaGreatRK11
import Derived.Test.YtgejbpobaicgfaaGreatRK06
import Derived.Test.YtgejbpobaicgfaaGreatRK08
import Derived.Test.YtgejbpobaicgfaaGreatRK09
import Derived.Test.YtgejbpobaicgfaaGreatRK10
import Derived.Test.YtgejbpobaicgfaaGreatRK07
set_option maxRecDepth 100000
set_option maxHeartbeats 4000000
set_option linter.all false
namespace Go.Vi
open Go.Proofs.YtgejbpobaicgfaaGreat.Ir
open Go.Proofs
def aqE (f:FuncId) (j:cn->List Int->Prop) (e:cn->List Int->SV):ob where
 f:=f
 α:=cn×Nat×List Int
 put a:=[ql.put a.1,.ow 0 a.2.1 1]
 st a:=[.row (.i .i64) a.2.2 3 true]
 dec v o:=match v,o with
  |[p,.ow 0 n 1],[.row s l 3 true]=>match ql.dec p,Hj s (.i .i64) l with
   |some p,some l=>some (p,n,l)
   |_,_=>none
  |_,_=>none
 ok v o a h:=by
  split at h
  ·split at h
   ·rename_i c d
    simp only[Option.some.injEq] at h;subst h
    obtain⟨rfl,k⟩:=aaJ d
    cases k
    exact⟨by simp only[gL,ql.ok _ _ c],rfl⟩
   ·cases h
  ·cases h
 inj a b c d:=by
  obtain⟨p,n,l⟩:=a
  obtain⟨m,q,r⟩:=b
  simp only[gL,List.cons.injEq,and_true,SV.g,AV.os.injEq,true_and] at c;simp only[gO,List.map_cons,List.map_nil,cC.g,List.cons.injEq,fZ.cells.injEq,and_true] at d;rw[ql.inj p m c.1,abR (s:=.i .i64) d,c.2.1]
 dom a:=a.2.1=a.2.2.length/\j a.1 a.2.2
 res a:=e a.1 a.2.2
 out a:=[.row (.i .i64) a.2.2 3 true]
theorem ajM {L:List fN} {W:List ob} (c:ob) (Λ:c.α->Nat->jW) (i:∀c∈W,qH Tryz.prog c) (e:∀c∈L,Holds Tryz.prog c)
  
  (h:∀a,c.dom a->Vc (amy (SC L (A2 W) ZZ mtN ym) (Λ a) (fG c.f) (c.put a) (c.st a) fun v s=>v.same (c.res a)/\ME s (c.out a))) (j:(ym c.f).isSome=true:=by kernel_rfl) (b:∀a,(c.put a).length=(fG c.f).params:=by intro _;kernel_rfl) (d:YA c.f W=none:=by kernel_rfl):qH Tryz.prog c:=
 fun a g=>aF6 c acg i e (afQ j) b a d (h a g).out
noncomputable def aqF:ob:=aqE 67 (fun p f=>dV p=0/\f.length=p.offers.length) fun p f=>frS (IntCast.intCast (RR p f))
def aF7 (p:cn) (f:List Int):Nat->jW
 |3=> .inv Int (fun i=>⟨[(2,.ptr 1 0 20),(4,.ptr 2 0 3),(5,.si .i64 (RR p (f.take i.toNat))),(8,.ow 0 f.length 1),(9,.si .i64 f.length),(10,.si .i64 i)],[.row (.i .i64) f 3 true,.cells p.ss 27 20 false,.cells [.bl false,.sc (.slice none 0 0),.sc (.slice none 0 0)] 70 3 false]⟩)
   (fun s=>iS s 10) (fun i=>0<=i/\i<=f.length) (fun i=>(f.length - i).toNat) fun _ _=> .look
 |_=> .look
theorem h396w:qH Tryz.prog aqF:=by
 refine ajM (L:=[r94]) (W:=[]) aqF (fun a=>aF7 a.1 a.2.2) (by simp) (by grind[h94]) ?_
 rintro⟨p,n,f⟩ ⟨F,⟨v,z⟩⟩
 simp only at F
 subst F
 simp only at v z
 refine gw (let a:=SV.si .i64;let n:=(0:Int);let v:=SV.row;let t:=SV.ptr 1 0 20;let q:=SV.ptr 2 0 3;let C:=SV.il .i64 0;let w:=SV.ow 0 f.length 1;let e:=(↑f.length:Int);let s:=a e;let j:=cC.row (bD.i .i64) f 3 true;let r:=cC.cells (cn.ss p) 27 20 false;let D:=SV.sc (Value.slice none 0 0);let y:=cC.cells [SV.bl false,D,D] 70 3 false;let d:=bD.i .u32;let h:=cJ (IntCast.intCast (RR p f));(((t.same t/\q.same q/\C.same (a (RR p []))/\w.same w/\s.same s/\C.same (a 0)/\True)/\j.same j/\r.same r/\y.same y/\True)/\n<=n/\n<=e)/\∀(x:Int),let b:=x+(1:Int);let m:=a b;let o:=decide (bo f x.toNat n=(1:Int));let c:=RR p (List.take x.toNat f);let k:=c+(bo p.offers x.toNat bD.off.dflt).value;let g:=cJ (IntCast.intCast c);let l:=fun(u:Int) ↦iR .i64 b/\((t.same t/\q.same q/\(a u).same (a (RR p (List.take b.toNat f)))/\w.same w/\s.same s/\m.same m/\True)/\j.same j/\r.same r/\y.same y/\True)/\(n<=b/\b<=e)/\(e - b).toNat<(e - x).toNat;n<=x/\x<=e->(decide (x<e)=true->f.length=f.length/\n<=x/\x<(↑f.length:Int)/\f.length=f.length/\x.toNat<f.length/\(o=true->n<=x/\x<(↑p.offers.length:Int)/\x.toNat<p.offers.length/\iR .i64 k/\l k)/\(o=false->l c))/\(decide (x<e)=false->((-9223372036854775808:Int)<=c/\c<=(9223372036854775807:Int))/\(SV.agg [SV.sb g.fst,v d g.snd.fst,v d g.snd.snd]).same (SV.agg [SV.sb h.fst,v d h.snd.fst,v d h.snd.snd])/\j.same j/\True)) (by kernel_rfl) ?_
 simp only[vcs]
 have E:=(pz v).2.1
 refine⟨⟨by simp[RR,ek,pA,jd],by omega,by omega⟩,?_⟩
 rintro i ⟨A,J⟩
 have G:=@aqC p v f i.toNat z
 refine⟨fun B=>?_,fun B=>?_⟩
 ·have K:=@aFR p f i A B
  have I:=abS v (i:=i) ⟨A,by omega⟩
  have H:(bo p.offers i.toNat bD.off.dflt).value=(oI p i).value:=rfl
  omega
 ·rw[show f.take i.toNat=f by rw[show i.toNat=f.length by omega,List.take_length]] at G ⊢
  exact⟨by omega,rfl⟩
noncomputable def aqG:ob:=aqE 64 (fun p f=>(dV p=0/\f.length=p.offers.length)/\Ie f=true) fun p f=> .eW [.agg [.row sF (aax p f).1,.row sR (aax p f).2.1],.row (.i .i64) (aax p f).2.2,.si .i64 (if DU p f=true then 0 else 14)]
def axA (p:cn) (f:List Int) (l:List Int) (m:List Off):ie:=[.row (.i .i64) f 3 true,.cells p.ss 27 20 false,.cells [.sc (.slice none 0 0),.sc (.slice none 0 0)] 110 2 false,.row (.i .i64) l 3 true,.row .off m 58 true]
def amz (p:cn) (f:List Int) (l:List Int) (m:List Off) (b a:Nat) (c:List (List fO×fO)) (g:List fO):ie:=axA p f l m++[.cells p.ss 98 20 false,.cells [.ow 8 b 3,.ow 7 a 4] 110 2 false,.row sR c 167 false,.row sF g 70 false]
def aF8 (p:cn) (f:List Int):Nat->jW
 |9=> .inv Int (fun i=>⟨[(2,.ptr 1 0 20),(4,.ptr 2 0 2),(8,.ow 3 (ek (f.take i.toNat) 0).length 1),(9,.ow 4 (ek (f.take i.toNat) 1).length 8),(36,.ow 0 f.length 1),(37,.si .i64 f.length),(38,.si .i64 i)],axA p f (ek (f.take i.toNat) 0) ((ek (f.take i.toNat) 1).map (oI p))⟩)
   (fun s=>iS s 38) (fun i=>0<=i/\i<=f.length) (fun i=>(f.length - i).toNat) fun _ _=> .look
 |24=> .inv Int (fun j=>⟨[(2,.ptr 1 0 20),(4,.ptr 2 0 2),(8,.ow 3 (ek f 0).length 1),(9,.ow 4 (ek f 1).length 8),(12,.ptr 5 0 20),(13,.ptr 6 0 2),(71,.ow 3 (ek f 0).length 1),(72,.si .i64 (ek f 0).length),(73,.si .i64 j)],amz p f (ek f 0) ((ek f 1).map (oI p)) j.toNat 0 [] (Zc p f j.toNat)⟩)
   (fun s=>iS s 73) (fun j=>0<=j/\j<=(ek f 0).length) (fun j=>((ek f 0).length - j).toNat) fun _ _=> .look
 |29=> .inv Int (fun r=>⟨[(2,.ptr 1 0 20),(4,.ptr 2 0 2),(8,.ow 3 (ek f 0).length 1),(9,.ow 4 (ek f 1).length 8),(12,.ptr 5 0 20),(13,.ptr 6 0 2),(91,.si .i64 (nq p)),(92,.si .i64 r)],amz p f (ek f 0) ((ek f 1).map (oI p)) (ek f 0).length r.toNat (aa5 p f r.toNat) (Zc p f (ek f 0).length)⟩)
   (fun s=>iS s 92) (fun r=>0<=r/\r<=nq p) (fun r=>(nq p - r).toNat) fun r k=>match k with
   |33=> .inv Int (fun j=>⟨[(2,.ptr 1 0 20),(4,.ptr 2 0 2),(8,.ow 3 (ek f 0).length 1),(9,.ow 4 (ek f 1).length 8),(12,.ptr 5 0 20),(13,.ptr 6 0 2),(16,.si .i64 r),(17,.si .i64 (pg p r - lT p (((ek f 1).map (oI p)).take j.toNat) r)),(91,.si .i64 (nq p)),(92,.si .i64 r),(98,.ow 4 (ek f 1).length 8),(99,.si .i64 (ek f 1).length),(100,.si .i64 j)],amz p f (ek f 0) ((ek f 1).map (oI p)) (ek f 0).length r.toNat (aa5 p f r.toNat) (Zc p f (ek f 0).length)⟩)
     (fun s=>iS s 100) (fun j=>0<=j/\j<=(ek f 1).length) (fun j=>((ek f 1).length - j).toNat) fun _ _=> .look
   |39=> .inv Int (fun j=>⟨[(2,.ptr 1 0 20),(4,.ptr 2 0 2),(8,.ow 3 (ek f 0).length 1),(9,.ow 4 (ek f 1).length 8),(12,.ptr 5 0 20),(13,.ptr 6 0 2),(16,.si .i64 r),(20,.ptr 9 0 4),(91,.si .i64 (nq p)),(92,.si .i64 r),(114,.ow 3 (ek f 0).length 1),(115,.si .i64 (ek f 0).length),(116,.si .i64 j)],amz p f (ek f 0) ((ek f 1).map (oI p)) (ek f 0).length r.toNat (aa5 p f r.toNat) (Zc p f (ek f 0).length)++[.cells [.ow 10 j.toNat 3,.sb (cJ ((pg p r - lT p ((ek f 1).map (oI p)) r:Int):Rat)).1,.row (.i .u32) (cJ ((pg p r - lT p ((ek f 1).map (oI p)) r:Int):Rat)).2.1,.row (.i .u32) (cJ ((pg p r - lT p ((ek f 1).map (oI p)) r:Int):Rat)).2.2] 167 4 false,.row sF (aa4 p f r j.toNat) 70 false]⟩)
     (fun s=>iS s 116) (fun j=>0<=j/\j<=(ek f 0).length) (fun j=>((ek f 0).length - j).toNat) fun _ _=> .look
   |_=> .look
 |_=> .look
theorem h394w:qH Tryz.prog aqG:=by
 refine ajM (L:=[r79,r94,ald,ahj,ahh,ahi]) (W:=[]) aqG (fun a=>aF8 a.1 a.2.2) (by simp) (by simpa using⟨h79,h94,h134,h156,h157,h158⟩) ?_
 rintro⟨p,n,f⟩ ⟨hn,⟨⟨hc,hl⟩,hr⟩⟩
 simp only at hn
 subst hn
 simp only at hc hl hr
 refine gw (let a:=SV.si .i64;let c:=(0:Int);let d:=cC.row;let e:=cC.cells;let g:=SV.ow;let h:=(-9223372036854775808:Int);let j:=SV.row;let k:=(1:Int);let l:=(9223372036854775807:Int);let m:=iR .i64;let n:=SV.il .i64;let o:=SV.ptr;let q:=SV.agg;let r:=SV.eW;let R:=SV.sc (Value.slice none 0 0);let L:=bD.i .i64;let ah:=r [q [j sF (aax p f).fst,j sR (aax p f).snd.fst],j L (aax p f).snd.snd,a (if DU p f=true then c else(14:Int))];let s:=d L f 3 true;let I:=(↑f.length:Int);let ai:=p.offers.length;let ae:=(↑ai:Int);let t:=o 1 0 20;let v:=o 2 0 2;let Z:=g 0 f.length 1;let a6:=a I;let a7:=n 0;let aM:=[a p.supply.a0,a p.supply.a1,a p.supply.a2,a p.supply.a3,a p.supply.a4,a p.supply.a5,a p.opn.a0,a p.opn.a1,a p.opn.a2,a p.opn.a3,a p.opn.a4,a p.opn.a5,a p.cls.a0,a p.cls.a1,a p.cls.a2,a p.cls.a3,a p.cls.a4,a p.cls.a5,j L p.classes,j bD.off p.offers];let w:=e aM 27 20 false;let y:=e [R,R] 110 2 false;let aN:=d bD.off [] 58 true;let aj:=bD.off.dflt;let ay:=(↑p.classes.length:Int);let a8:=bD.i .u32;let a9:=bD.b.pair (a8.fa.pair a8.fa);let az:=a9.fa.pair a9;let H:=ek f c;let N:=H.length;let z:=g 3 N 1;let z25:Nat:=(ek f k).length;let A:=g 4 z25 8;let B:=o 5 0 20;let C:=o 6 0 2;let E:=(↑N:Int);let V:=a E;let F:=d L H 3 true;let P:=List.map (oI p) (ek f k);let G:=d bD.off P 58 true;let D:=e aM 98 20 false;let af:=[g 7 0 4];let aO:=e (g 8 0 3::af) 110 2 false;let ak:=d sR [] 167 false;let aP:=d a9 [] 70 false;let J:=a (nq p);let al:=g 8 N 3;let aA:=Zc p f N;let M:=d sF aA 70 false;let S:=(↑z25:Int);let am:=a S;let an:=o 9 0 4;let aQ:=g 10 0 3;let aR:=fun(u u_1:Int) (u_2:SV) ↦decide (u≠u_1)=true->(r [q [R,R],R,u_2]).same ah/\s.same s/\True;True/\aR (dV p) c (a (dV p))/\(decide (dV p≠c)=false->aR I ae (n 3)/\(decide (I≠ae)=false->(((t.same t/\v.same v/\(g 3 0 1).same (g 3 (ek [] c).length 1)/\(g 4 0 8).same (g 4 (ek [] k).length 8)/\Z.same Z/\a6.same a6/\a7.same (a 0)/\True)/\s.same s/\w.same w/\y.same y/\(d L [] 3 true).same (d L (ek [] c) 3 true)/\aN.same aN/\True)/\c<=c/\c<=I)/\∀(x:Int),let ao:=ek (List.take x.toNat f) k;let aS:=g 4 ao.length 8;let O:=x+k;let ap:=List.take O.toNat f;let aT:=g 4 (ek ap k).length 8;let aq:=a O;let aU:=g 3 (ek ap c).length 1;let aV:=d L (ek ap c) 3 true;let Q:=List.map (oI p) ao;let aW:=d bD.off Q 58 true;let aX:=d bD.off (List.map (oI p) (ek ap k)) 58 true;let aB:=bo f x.toNat c;let aY:=decide (aB=(-1:Int));let aa:=ek (List.take x.toNat f) c;let ar:=aa.length;let aC:=d L aa 3 true;let aZ:=decide (aB=c);let b0:=aa.length+1;let b1:=decide (aB=k);let b2:=Q.length+1;let aD:=g 3 ar 1;let b3:=Q++[bo p.offers x.toNat aj];let bh:=aS.same aT/\Z.same Z/\a6.same a6/\aq.same aq/\True;let b4:=fun(u:Nat) (u_1:cC) ↦m O/\((t.same t/\v.same v/\(g 3 u 1).same aU/\bh)/\s.same s/\w.same w/\y.same y/\u_1.same aV/\aW.same aX/\True)/\(c<=O/\O<=I)/\(I - O).toNat<(I - x).toNat;c<=x/\x<=I->(decide (x<I)=true->f.length=f.length/\c<=x/\x<(↑f.length:Int)/\f.length=f.length/\x.toNat<f.length/\(aY=true->b4 ar aC)/\(aY=false->(aZ=true->ar=aa.length/\b0*8<=140737488355328/\b0<=1000000000000/\b4 (aa++[x]).length (d L (aa++[x]) 3 true))/\(aZ=false->(b1=true->c<=x/\x<ae/\x.toNat<ai/\ao.length=Q.length/\b2*64<=140737488355328/\b2<=1000000000000/\m O/\((t.same t/\v.same v/\aD.same aU/\(g 4 b3.length 8).same aT/\Z.same Z/\a6.same a6/\aq.same aq/\True)/\s.same s/\w.same w/\y.same y/\aC.same aV/\(d bD.off b3 58 true).same aX/\True)/\(c<=O/\O<=I)/\(I - O).toNat<(I - x).toNat)/\(b1=false->(r [q [R,R],R,n 4]).same ah/\s.same s/\True))))/\(decide (x<I)=false->ao.length=Q.length/\(p.classes.length<=8/\Q.length<=1000/\∀(x:Off),x∈Q->c<=x.iy/\x.iy<ay/\x.want.ok=true)/\((!yx p Q)=true->0=0/\0=0/\0=0/\(r [q [j a9 [],j az []],j L [],n 14]).same ah/\s.same s/\True)/\((!yx p Q)=false->(((t.same t/\v.same v/\aD.same z/\aS.same A/\B.same B/\C.same C/\aD.same z/\(a (↑ar:Int)).same V/\a7.same (a 0)/\True)/\s.same s/\w.same w/\y.same y/\aC.same F/\aW.same G/\D.same D/\aO.same aO/\(d az [] 167 false).same ak/\aP.same (d sF (Zc p f 0) 70 false)/\True)/\c<=c/\c<=E)/\∀(x:Int),let au:=bo H x.toNat c;let aE:=(bo p.offers au.toNat aj).value;let av:=Zc p f x.toNat;let b5:=av.length+1;let W:=x+k;let b6:=a W;let aF:=cJ (IntCast.intCast aE);let b7:=av++[(aF.fst,aF.snd.fst,aF.snd.snd)];c<=x/\x<=E->(decide (x<E)=true->N=H.length/\c<=x/\x<(↑H.length:Int)/\N=H.length/\x.toNat<H.length/\c<=au/\au<ae/\au.toNat<ai/\(h<=aE/\aE<=l)/\1=1/\x.toNat=av.length/\b5*56<=140737488355328/\b5<=1000000000000/\m W/\((t.same t/\v.same v/\z.same z/\A.same A/\B.same B/\C.same C/\z.same z/\V.same V/\b6.same b6/\True)/\s.same s/\w.same w/\y.same y/\F.same F/\G.same G/\D.same D/\(e (g 8 b7.length 3::af) 110 2 false).same (e (g 8 W.toNat 3::af) 110 2 false)/\ak.same ak/\(d a9 b7 70 false).same (d sF (Zc p f W.toNat) 70 false)/\True)/\(c<=W/\W<=E)/\(E - W).toNat<(E - x).toNat)/\(decide (x<E)=false->p.classes.length<=8/\(((t.same t/\v.same v/\z.same z/\A.same A/\B.same B/\C.same C/\J.same J/\a7.same (a 0)/\True)/\s.same s/\w.same w/\y.same y/\F.same F/\G.same G/\D.same D/\(e (g 8 x.toNat 3::af) 110 2 false).same (e (al::af) 110 2 false)/\ak.same (d sR (aa5 p f 0) 167 false)/\(d sF av 70 false).same M/\True)/\c<=c/\c<=nq p)/\∀(x:Int),let b8:=decide (x<nq p);let T:=e [al,g 7 x.toNat 4] 110 2 false;let ab:=aa5 p f x.toNat;let U:=d sR ab 167 false;let ac:=cJ (IntCast.intCast (pg p x - lT p P x));let aG:=[SV.sb ac.fst,j a8 ac.snd.fst,j a8 ac.snd.snd];let b9:=ab.length+1;let X:=x+k;let ba:=a X;c<=x/\x<=nq p->(b8=true->(p.classes.length<=8/\c<=x/\x<nq p)/\(((t.same t/\v.same v/\z.same z/\A.same A/\B.same B/\C.same C/\(a x).same (a x)/\(a (pg p x)).same (a (pg p x - lT p [] x))/\J.same J/\(a x).same (a x)/\A.same A/\am.same am/\a7.same (a 0)/\True)/\s.same s/\w.same w/\y.same y/\F.same F/\G.same G/\D.same D/\T.same T/\U.same U/\M.same M/\True)/\c<=c/\c<=S)/\∀(x_1:Int),let aH:=bo P x_1.toNat aj;let aw:=pg p x - lT p (List.take x_1.toNat P) x;let bb:=aw - uu p x aH;let ad:=x_1+k;let K:=a x;let bc:=a ad;let aI:=cJ (IntCast.intCast aw);c<=x_1/\x_1<=S->(decide (x_1<S)=true->z25=P.length/\c<=x_1/\x_1<(↑P.length:Int)/\z25=P.length/\x_1.toNat<P.length/\(p.classes.length<=8/\c<=x/\x<nq p/\c<=aH.iy/\aH.iy<ay)/\m bb/\m ad/\((t.same t/\v.same v/\z.same z/\A.same A/\B.same B/\C.same C/\K.same K/\(a bb).same (a (pg p x - lT p (List.take ad.toNat P) x))/\J.same J/\K.same K/\A.same A/\am.same am/\bc.same bc/\True)/\s.same s/\w.same w/\y.same y/\F.same F/\G.same G/\D.same D/\T.same T/\U.same U/\M.same M/\True)/\(c<=ad/\ad<=S)/\(S - ad).toNat<(S - x_1).toNat)/\(decide (x_1<S)=false->(h<=aw/\aw<=l)/\(((t.same t/\v.same v/\z.same z/\A.same A/\B.same B/\C.same C/\K.same K/\an.same an/\J.same J/\K.same K/\z.same z/\V.same V/\a7.same (a 0)/\True)/\s.same s/\w.same w/\y.same y/\F.same F/\G.same G/\D.same D/\T.same T/\U.same U/\M.same M/\(e [aQ,SV.sb aI.fst,j a8 aI.snd.fst,j a8 aI.snd.snd] 167 4 false).same (e (aQ::aG) 167 4 false)/\aP.same (d sF (aa4 p f x 0) 70 false)/\True)/\c<=c/\c<=E)/\∀(x_2:Int),let ax:=bo H x_2.toNat c;let aJ:=bo p.offers ax.toNat aj;let aK:=uu p x aJ;let ag:=aa4 p f x x_2.toNat;let bd:=ag.length+1;let Y:=x_2+k;let be:=a Y;let aL:=cJ (IntCast.intCast aK);let bf:=ag++[(aL.fst,aL.snd.fst,aL.snd.snd)];let bg:=ab++[(ag,ac.fst,ac.snd.fst,ac.snd.snd)];c<=x_2/\x_2<=E->(decide (x_2<E)=true->N=H.length/\c<=x_2/\x_2<(↑H.length:Int)/\N=H.length/\x_2.toNat<H.length/\c<=ax/\ax<ae/\ax.toNat<ai/\(p.classes.length<=8/\c<=x/\x<nq p/\c<=aJ.iy/\aJ.iy<ay)/\(h<=aK/\aK<=l)/\1=1/\x_2.toNat=ag.length/\bd*56<=140737488355328/\bd<=1000000000000/\m Y/\((t.same t/\v.same v/\z.same z/\A.same A/\B.same B/\C.same C/\K.same K/\an.same an/\J.same J/\K.same K/\z.same z/\V.same V/\be.same be/\True)/\s.same s/\w.same w/\y.same y/\F.same F/\G.same G/\D.same D/\T.same T/\U.same U/\M.same M/\(e (g 10 bf.length 3::aG) 167 4 false).same (e (g 10 Y.toNat 3::aG) 167 4 false)/\(d a9 bf 70 false).same (d sF (aa4 p f x Y.toNat) 70 false)/\True)/\(c<=Y/\Y<=E)/\(E - Y).toNat<(E - x_2).toNat)/\(decide (x_2<E)=false->x_2.toNat=ag.length/\1=1/\x.toNat=ab.length/\b9*80<=140737488355328/\b9<=1000000000000/\m X/\((t.same t/\v.same v/\z.same z/\A.same A/\B.same B/\C.same C/\J.same J/\ba.same ba/\True)/\s.same s/\w.same w/\y.same y/\F.same F/\G.same G/\D.same D/\(e [al,g 7 bg.length 4] 110 2 false).same (e [al,g 7 X.toNat 4] 110 2 false)/\(d az bg 167 false).same (d sR (aa5 p f X.toNat) 167 false)/\M.same M/\True)/\(c<=X/\X<=nq p)/\(nq p - X).toNat<(nq p - x).toNat)))/\(b8=false->N=aA.length/\x.toNat=ab.length/\N=H.length/\(r [q [j sF aA,j sR ab],j L H,a7]).same ah/\s.same s/\True))))))) (by kernel_rfl) ?_
 simp only[vcs]
 obtain⟨g1,g2,g3,g4,g5⟩:=pz hc
 have hoi:∀k:Nat,∀o:Int,o=k->(bo p.offers k bD.off.dflt)=oI p o:=fun k o h=>by subst h;rfl
 have hw2:∀{a b:Nat},a=b->(SV.ow 3 a 1).same (SV.ow 3 b 1):=by rintro _ _ rfl;rfl
 have hw3:∀{a b:Nat},a=b->(SV.ow 4 a 8).same (SV.ow 4 b 8):=by rintro _ _ rfl;rfl
 have XC:∀{x y:List Int},x=y->(cC.row (.i .i64) x 3 true).same (cC.row (.i .i64) y 3 true):=by rintro _ _ rfl;rfl
 have hrO:∀{x y:List Off},x=y->(cC.row .off x 58 true).same (cC.row .off y 58 true):=by rintro _ _ rfl;rfl
 refine⟨fun h=>absurd hc h,fun _=>⟨fun h=>absurd (by rw[hl]) h,fun _=>⟨⟨⟨⟨hw2 rfl,hw3 rfl⟩,XC rfl⟩,by omega,by omega⟩,?_⟩⟩⟩
 rintro i ⟨i0,i1⟩
 have htl:(f.take i.toNat).length<=160:=by rw[List.length_take];omega
 have hd0:=@afb (f.take i.toNat) 0
 have hd1:=@afb (f.take i.toNat) 1
 have hm1:(List.map (oI p) (ek (f.take i.toNat) 1)).length=(ek (f.take i.toNat) 1).length:=List.length_map _
 refine⟨fun hi=>?_,fun hi=>?_⟩
 ·have hs0:=@amt f 0 i i0 hi
  have hs1:=@amt f 1 i i0 hi
  have aHR: -1<=bo f i.toNat 0/\bo f i.toNat 0<=1:=by
   have:=List.all_eq_true.1 hr _ (nA (d:=0) (show i.toNat<f.length by omega))
   simpa using this
  refine⟨i0,hi,by omega,fun h1=>?_,fun h1=>⟨fun h2=>?_,fun h2=>⟨fun h3=>?_,fun h3=>by omega⟩⟩⟩
  ·rw[if_neg (by omega),List.append_nil] at hs0 hs1
   rw[hs0,hs1]
   exact⟨by omega,⟨⟨hw2 rfl,hw3 rfl⟩,XC rfl,hrO rfl⟩,by omega,by omega⟩
  ·rw[if_pos (by omega)] at hs0
   rw[if_neg (by omega),List.append_nil] at hs1
   rw[hs0,hs1]
   exact⟨by omega,by omega,by omega,⟨⟨hw2 rfl,hw3 rfl⟩,XC rfl,hrO rfl⟩,by omega,by omega⟩
  ·rw[if_neg (by omega),List.append_nil] at hs0
   rw[if_pos (by omega)] at hs1
   rw[hs0,hs1,hoi i.toNat i (by omega),hm1]
   have e:List.map (oI p) (ek (f.take i.toNat) 1)++[oI p i]=List.map (oI p) (ek (f.take i.toNat) 1++[i]):=by rw[List.map_append];rfl
   rw[e,List.length_map]
   exact⟨i0,by omega,by omega,rfl,by omega,by omega,by omega,⟨⟨hw2 rfl,hw3 rfl⟩,XC rfl,hrO rfl⟩,by omega,by omega⟩
 ·have htk:f.take i.toNat=f:=by rw[show i.toNat=f.length by omega,List.take_length]
  rw[htk] at hd0 hd1 hm1 ⊢
  have hdl:∀d,(ek f d).length<=160:=fun d=>by have:=@afb f d;omega
  refine⟨hm1.symm,⟨g1,by omega,fun x hx=>?_⟩,fun hb=>?_,fun hb=>?_⟩
  ·obtain⟨k,hk,rfl⟩:=List.mem_map.1 hx
   have h1:=(SR.1 hk).1
   have:=abS hc (i:=k) (by omega)
   exact⟨this.1,this.2.1,this.2.2.1⟩
  ·have hb2:DU p f=false:=hb
   unfold aax;simp only[hb2]
   exact⟨rfl,rfl,rfl⟩
  ·have hb2:DU p f=true:=hb
   have hG:aax p f=((GH (Ln p f)).1,((GH (Ln p f)).2,ek f 0)):=by unfold aax;rw[if_pos hb2]
   simp only[hb2,if_true,hG]
   have hfx:FG p f:=⟨hc,hl,hb⟩
   have hrS:∀{x y:List fO},x=y->(cC.row sF x 70 false).same (cC.row sF y 70 false):=by rintro _ _ rfl;rfl
   have hrR:∀{x y:List (List fO×fO)},x=y->(cC.row sR x 167 false).same (cC.row sR y 167 false):=by rintro _ _ rfl;rfl
   have hc5:∀{a b c d:Nat},a=b->c=d->(cC.cells [.ow 8 a 3,.ow 7 c 4] 110 2 false).same (cC.cells [.ow 8 b 3,.ow 7 d 4] 110 2 false):=by rintro _ _ _ _ rfl rfl;rfl
   have hc8:∀{a b:Nat} {q q':Rat},a=b->q=q'->(cC.cells [.ow 10 a 3,.sb (cJ q).1,.row (.i .u32) (cJ q).2.1,.row (.i .u32) (cJ q).2.2] 167 4 false).same (cC.cells [.ow 10 b 3,.sb (cJ q').1,.row (.i .u32) (cJ q').2.1,.row (.i .u32) (cJ q').2.2] 167 4 false):=by rintro _ _ _ _ rfl rfl;rfl
   have hn0:=hdl 0
   have hn1:=hdl 1
   have hfree:∀j:Int,0<=j->j<(ek f 0).length->(0<=bo (ek f 0) j.toNat 0/\bo (ek f 0) j.toNat 0<p.offers.length):=fun j h0 h1=>by
    have:=(SR.1 (nA (d:=0) (show j.toNat<(ek f 0).length by omega))).1
    omega
   refine⟨⟨⟨⟨hw2 rfl,hw3 rfl,hw2 rfl,trivial⟩,XC rfl,hrO rfl,hrS rfl⟩,by omega,by omega⟩,?_⟩
   rintro j ⟨j0,j1⟩
   have hgl:=@aqD p f j.toNat (by omega)
   refine⟨fun hj=>?_,fun hj=>?_⟩
   ·have hk:=hfree j j0 hj
    have ho:=abS hc hk
    have hs:=@aFS p f j j0 hj
    have aF9:=@aqD p f (j+1).toNat (by omega)
    rw[hoi _ (bo (ek f 0) j.toNat 0) (by omega)]
    simp only[RP]
    have e:Zc p f j.toNat++[cJ (IntCast.intCast (oI p (bo (ek f 0) j.toNat 0)).value)]=Zc p f (j+1).toNat:=hs.symm
    rw[e]
    exact⟨j0,hj,by omega,hk.1,hk.2,by omega,by omega,by omega,by omega,by omega,by omega,⟨hc5 aF9 rfl,hrS rfl⟩,by omega,by omega⟩
   ·rw[show j.toNat=(ek f 0).length by omega]
    have hnr:nq p=p.classes.length+12:=rfl
    refine⟨g1,⟨⟨hc5 rfl rfl,hrR rfl,hrS rfl⟩,by omega,by omega⟩,?_⟩
    rintro r ⟨r0,r1⟩
    have hrl:=@axx p f r.toNat
    refine⟨fun hr2=>⟨⟨g1,r0,hr2⟩,⟨by simp[lT],by omega,by omega⟩,?_⟩,fun hr2=>?_⟩
    ·rintro k ⟨k0,k1⟩
     have hok:∀x∈(List.map (oI p) (ek f 1)).take k.toNat,x.want.ok=true:=fun x hx=>(aml hfx x (List.mem_of_mem_take hx)).2.2.1
     have hsb:=@aeS p r ((List.map (oI p) (ek f 1)).take k.toNat) hok
     have aGa:((List.map (oI p) (ek f 1)).take k.toNat).length<=160:=by rw[List.length_take];omega
     have hbb:=@ajp p hc r
     refine⟨fun hk=>?_,fun hk=>?_⟩
     ·have hx:=aml hfx _ (nA (d:=bD.off.dflt) (show k.toNat<(List.map (oI p) (ek f 1)).length by omega))
      have hst:=@aow p r (List.map (oI p) (ek f 1)) k bD.off.dflt k0 (by omega)
      have hcb:=@adt p r _ hx.2.2.1
      exact⟨by omega,k0,by omega,by omega,by omega,⟨g1,r0,hr2,hx.1,hx.2.1⟩,by omega,by omega,by omega,by omega,by omega⟩
     ·have e:(List.map (oI p) (ek f 1)).take k.toNat=List.map (oI p) (ek f 1):=List.take_of_length_le (by omega)
      rw[e] at hsb aGa ⊢
      refine⟨by omega,⟨⟨hc8 rfl rfl,hrS rfl⟩,by omega,by omega⟩,?_⟩
      rintro l ⟨l0,l1⟩
      have hcl:=@axw p f r l.toNat (by omega)
      refine⟨fun hl2=>?_,fun hl2=>?_⟩
      ·have hk:=hfree l l0 hl2
       have ho:=abS hc hk
       have hs:=@aFT p f r l l0 hl2
       have aGb:=@axw p f r (l+1).toNat (by omega)
       have hcb:=@adt p r _ ho.2.2.1
       rw[hoi _ (bo (ek f 0) l.toNat 0) (by omega)]
       simp only[RP]
       have e:aa4 p f r l.toNat++[cJ (IntCast.intCast (uu p r (oI p (bo (ek f 0) l.toNat 0))))]=aa4 p f r (l+1).toNat:=hs.symm
       rw[e]
       exact⟨l0,hl2,by omega,hk.1,hk.2,by omega,⟨g1,r0,hr2,ho.1,ho.2.1⟩,by omega,by omega,by omega,by omega,by omega,⟨hc8 aGb rfl,hrS rfl⟩,by omega,by omega⟩
      ·rw[show l.toNat=(ek f 0).length by omega] at hcl ⊢
       have hs:=@aFU p f r r0
       have hrl2:=@axx p f (r+1).toNat
       simp only[RP]
       have e:aa5 p f r.toNat++[(aa4 p f r (ek f 0).length,cJ (IntCast.intCast (pg p r - lT p (List.map (oI p) (ek f 1)) r)))]=aa5 p f (r+1).toNat:=hs.symm
       rw[e]
       exact⟨hcl.symm,hrl.symm,by omega,by omega,by omega,⟨hc5 rfl hrl2,hrR rfl⟩,by omega,by omega⟩
    ·have e:r.toNat=mF p:=by
      show r.toNat=p.classes.length+12
      omega
     rw[e] at hrl ⊢;rw[axu,axv]
     refine⟨?_,hrl.symm.trans (by rw[axv]),rfl,trivial,trivial⟩
     rw[<-axu]
     exact(aqD (Nat.le_refl _)).symm
noncomputable def amA:ob:=aqE 36 (fun p f=>f.length<=1000000000000) fun p f=> .eW [aF0 p f,.si .i64 (Ig p f)]
noncomputable def axC (p:cn) (f:List Int) (x:List fO):ie:=
 [.row (.i .i64) f 3 true,.cells p.ss 27 20 false,.cells [.bl false,.bl false,.sc (.slice none 0 0),.sc (.slice none 0 0),.sc (.slice none 0 0),.sc (.slice none 0 0)] 74 6 false,.cells [.row sF (aax p f).1,.row sR (aax p f).2.1] 110 2 false,
  .cells [.si .i64 1,.sb (cJ (uz p f).value).1,.row (.i .u32) (cJ (uz p f).value).2.1,.row (.i .u32) (cJ (uz p f).value).2.2,.row sF (fL (AQ (uz p f) (nF f) (mF p))),.row sF (fL (ahW p f)),.row sF []] 114 7 false,.row sF x 70 true]
noncomputable def aGc (p:cn) (f:List Int):Nat->jW
 |12=> .inv Int (fun i=>⟨[(1,.ow 0 f.length 1),(2,.ptr 1 0 20),(4,.ptr 2 0 6),(8,.row (.i .i64) (ek f 0)),(10,.ptr 4 0 7),(11,.ow 5 f.length 3),(45,.ow 0 f.length 1),(46,.si .i64 f.length),(47,.si .i64 i)],axC p f (xN (fL (Qp p f 0)) i.toNat (false,([],[])))⟩)
   (fun s=>iS s 47) (fun i=>0<=i/\i<=f.length) (fun i=>(f.length - i).toNat) fun _ _=> .look
 |19=> .inv Int (fun k=>⟨[(1,.ow 0 f.length 1),(2,.ptr 1 0 20),(4,.ptr 2 0 6),(10,.ptr 4 0 7),(11,.ow 5 f.length 3),(63,.row (.i .i64) (ek f 0)),(64,.si .i64 (ek f 0).length),(65,.si .i64 k)],axC p f (fL (Qp p f k.toNat))⟩)
   (fun s=>iS s 65) (fun k=>0<=k/\k<=(ek f 0).length) (fun k=>((ek f 0).length - k).toNat) fun _ _=> .look
 |_=> .look
theorem h390w:qH Tryz.prog amA:=by
 refine ajM (L:=[aqB,aqz,r94,ajb]) (W:=[aqG,aqF]) amA (fun a=>aGc a.1 a.2.2) (by simpa using⟨h394w,h396w⟩) (by simpa using⟨h393,h395,h94,h129⟩) ?_
 rintro⟨p,n,f⟩ ⟨hn,hl:f.length<=1000000000000⟩
 simp only at hn
 subst hn
 refine gw (let c:=SV.si .i64;let d:=(0:Int);let e:=SV.row;let g:=cC.row;let h:=(-9223372036854775808:Int);let j:=(9223372036854775807:Int);let k:=cC.cells;let l:=(1:Int);let m:=SV.sb;let n:=SV.eW;let o:=SV.ptr;let q:=SV.agg;let Q:=SV.bl false;let v:=bD.i .u32;let a6:=bD.b.pair (v.fa.pair v.fa);let ah:=q [Q,Q,e v [],e v [],e a6 [],e a6 []];let ai:=[c (Ig p f)];let a7:=n (q [m (FQ p f),m (F2 p f).fst,e v (F2 p f).snd.fst,e v (F2 p f).snd.snd,e sF (ac2 p f),e sF (RS p f)]::ai);let R:=bD.i .i64;let t:=g R f 3 true;let aj:=decide (Ig p f≠d);let ak:=decide ((if DU p f=true then d else(14:Int))≠d);let S:=SV.il .i64 0;let T:=(aax p f).fst;let a8:=(aax p f).snd.fst;let a9:=c 0;let s:=(↑f.length:Int);let w:=SV.ow 0 f.length 1;let y:=o 1 0 20;let z:=o 2 0 6;let J:=ek f d;let G:=e R J;let A:=o 4 0 7;let H:=SV.ow 5 f.length 3;let U:=c s;let B:=k [c p.supply.a0,c p.supply.a1,c p.supply.a2,c p.supply.a3,c p.supply.a4,c p.supply.a5,c p.opn.a0,c p.opn.a1,c p.opn.a2,c p.opn.a3,c p.opn.a4,c p.opn.a5,c p.cls.a0,c p.cls.a1,c p.cls.a2,c p.cls.a3,c p.cls.a4,c p.cls.a5,e R p.classes,e bD.off p.offers] 27 20 false;let V:=SV.sc (Value.slice none 0 0);let C:=k [Q,Q,V,V,V,V] 74 6 false;let D:=k [e sF T,e sR a8] 110 2 false;let al:=c 1;let aa:=List.map (fun(r:List fO×fO) ↦(vL r.fst,ja r.snd)) a8;let P:=lpT (vL T,aa);let z31:Nat:=(vL T).length;let K:=cJ (uz p f).value;let W:=fL (AQ (uz p f) (nF f) (mF p));let am:=e sF (fL (ahW p f));let I:=k [al,m K.fst,e v K.snd.fst,e v K.snd.snd,e sF W,am,e sF []] 114 7 false;let X:=(false,[],[]);let Y:=fL (Qp p f 0);let ab:=cJ (IntCast.intCast d);let ac:=cJ (IntCast.intCast l);let E:=(↑J.length:Int);let ad:=c E;let ae:=cJ (IntCast.intCast (RR p f));let an:=(ae.fst,ae.snd.fst,ae.snd.snd);let ao:=(K.fst,K.snd.fst,K.snd.snd);let af:=cJ (ja an+ja ao);let ap:=fun(u:Bool) (u_1:SV) ↦u=true->0=0/\0=0/\0=0/\0=0/\(n [ah,u_1]).same a7/\t.same t/\True;f.length=f.length/\f.length<=1000000000000/\(aj=true->0=0/\0=0/\0=0/\0=0/\(n (ah::ai)).same a7/\t.same t/\True)/\(aj=false->(f.length=f.length/\(dV p=d/\f.length=p.offers.length)/\Ie f=true)/\ap ak S/\(ak=false->(∃(a:Lp),(T,a8)=GH a/\ajK a)/\ap false a9/\(false=false->d<=s/\s<=s/\s*(56:Int)<=(140737488355328:Int)/\s<=(1000000000000:Int)/\(((w.same w/\y.same y/\z.same z/\(e R (aax p f).snd.snd).same G/\A.same A/\(SV.ow 5 s.toNat 3).same H/\w.same w/\U.same U/\S.same a9/\True)/\t.same t/\B.same B/\C.same C/\D.same D/\(k [al,m (cJ P.value).fst,e v (cJ P.value).snd.fst,e v (cJ P.value).snd.snd,e sF (fL (AQ P z31 aa.length)),e sF (fL (SS P z31 aa.length z31)),e sF []] 114 7 false).same I/\(g a6 (List.replicate s.toNat X) 70 true).same (g sF (xN Y 0 X) 70 true)/\True)/\d<=d/\d<=s)/\∀(x:Int),let L:=x+l;let aq:=c L;let M:=xN Y x.toNat X;let ar:=decide (bo f x.toNat d=l);let N:=M.set x.toNat (ab.fst,ab.snd.fst,ab.snd.snd);let au:=fun(u:List (Bool×List Int×List Int)) ↦iR .i64 L/\((w.same w/\y.same y/\z.same z/\G.same G/\A.same A/\H.same H/\w.same w/\U.same U/\aq.same aq/\True)/\t.same t/\B.same B/\C.same C/\D.same D/\I.same I/\(g sF u 70 true).same (g sF (xN Y L.toNat X) 70 true)/\True)/\(d<=L/\L<=s)/\(s - L).toNat<(s - x).toNat;d<=x/\x<=s->(decide (x<s)=true->f.length=f.length/\d<=x/\x<(↑f.length:Int)/\f.length=f.length/\x.toNat<f.length/\(h<=d/\d<=j)/\f.length=M.length/\d<=x/\x<(↑M.length:Int)/\f.length=M.length/\x.toNat<M.length/\(ar=true->(h<=l/\l<=j)/\f.length=N.length/\d<=x/\x<(↑N.length:Int)/\f.length=N.length/\x.toNat<N.length/\au (N.set x.toNat (ac.fst,ac.snd.fst,ac.snd.snd)))/\(ar=false->au N))/\(decide (x<s)=false->(((w.same w/\y.same y/\z.same z/\A.same A/\H.same H/\G.same G/\(c (↑J.length:Int)).same ad/\S.same a9/\True)/\t.same t/\B.same B/\C.same C/\D.same D/\I.same I/\(g sF M 70 true).same (g sF Y 70 true)/\True)/\d<=d/\d<=E)/\∀(x:Int),let F:=fL (Qp p f x.toNat);let Z:=bo J x.toNat d;let O:=x+l;let av:=c O;let ag:=bo W x.toNat sF.dflt;d<=x/\x<=E->(decide (x<E)=true->d<=x/\x<(↑J.length:Int)/\x.toNat<J.length/\d<=x/\x<(↑W.length:Int)/\x.toNat<W.length/\f.length=F.length/\d<=Z/\Z<(↑F.length:Int)/\f.length=F.length/\Z.toNat<F.length/\iR .i64 O/\((w.same w/\y.same y/\z.same z/\A.same A/\H.same H/\G.same G/\ad.same ad/\av.same av/\True)/\t.same t/\B.same B/\C.same C/\D.same D/\I.same I/\(g sF (F.set Z.toNat (ag.fst,ag.snd.fst,ag.snd.snd)) 70 true).same (g sF (fL (Qp p f O.toNat)) 70 true)/\True)/\(d<=O/\O<=E)/\(E - O).toNat<(E - x).toNat)/\(decide (x<E)=false->(f.length=f.length/\dV p=d/\f.length=p.offers.length)/\(lH an/\lH ao)/\f.length=F.length/\f.length=F.length/\(n [q [SV.bl true,m af.fst,e v af.snd.fst,e v af.snd.snd,am,e sF F],S]).same a7/\t.same t/\True)))))) (by kernel_rfl) ?_
 simp only[vcs]
 have hz:FQ p f=false->(SV.agg [SV.bl false,SV.bl false,SV.row (bD.i IntKind.i64) [],SV.row (bD.i IntKind.i64) [],SV.row (bD.i IntKind.i64) [],SV.row (bD.i IntKind.i64) []]).same
   (SV.agg [SV.sb (FQ p f),SV.sb (F2 p f).fst,SV.row (bD.i IntKind.u32) (F2 p f).snd.fst,SV.row (bD.i IntKind.u32) (F2 p f).snd.snd,SV.row sF (ac2 p f),SV.row sF (RS p f)]):=fun h=>by
  unfold F2 ac2 RS;simp only[h];rfl
 refine⟨hl,fun h=>hz (by unfold FQ;rw[decide_eq_false h];rfl),fun h=>?_⟩
 have hx0:Ig p f=0:=Classical.not_not.1 h
 have hcl:dV p=0/\f.length=p.offers.length/\Ie f=true:=by
  unfold Ig at hx0;split at hx0
  ·rename_i h1;exact absurd hx0 h1
  ·rename_i h1
   split at hx0
   ·cases hx0
   ·rename_i h2
    split at hx0
    ·rename_i h3;exact⟨Classical.not_not.1 h1,Classical.not_not.1 h2,h3⟩
    ·cases hx0
 obtain⟨hc,hln,hr⟩:=hcl
 refine⟨⟨⟨hc,hln⟩,hr⟩,fun h1=>⟨hz ?_,hx0.symm⟩,fun h1=>?_⟩
 ·have hb:DU p f=false:=by
   cases hb:DU p f with
   |false=>rfl
   |true=>rw[hb] at h1;exact absurd rfl h1
  unfold FQ;rw[hb,Bool.and_false]
 ·have hb:DU p f=true:=by
   cases hb:DU p f with
   |true=>rfl
   |false=>rw[hb] at h1;exact absurd (by simp) h1
  have hfx:FG p f:=⟨hc,hln,hb⟩
  have hG:aax p f=((GH (Ln p f)).1,((GH (Ln p f)).2,ek f 0)):=by unfold aax;rw[if_pos hb]
  have hok:FQ p f=true:=by unfold FQ;rw[hb,decide_eq_true hx0];rfl
  have h0:(IntCast.intCast 0:Rat)=0:=rfl
  have h1':(IntCast.intCast 1:Rat)=1:=rfl
  simp only[hG,axq,axr,h0,h1',RP]
  have e1:(Ln p f).1.length=nF f:=by
   show((ek f 0).map _).length=_
   rw[List.length_map]
  have e2:(Ln p f).2.length=mF p:=by
   show((pA (mF p)).map _).length=_
   rw[List.length_map,FC]
  have aqA:((Ln p f).1,(Ln p f).2)=Ln p f:=rfl
  simp only[aqA,aFW,e1,e2]
  have hrT:∀{x y:List fO},x=y->(cC.row sF x 70 true).same (cC.row sF y 70 true):=by rintro _ _ rfl;rfl
  have hs0:=@ahX p f 0
  have hf0:=@zx (Qp p f 0)
  have hpt:=@amq (uz p f) (nF f) (mF p)
  have hfp:=@zx (AQ (uz p f) (nF f) (mF p))
  have hcast:∀k:Nat,((k:Nat):Int).toNat=k:=fun k=>Int.toNat_natCast k
  have hnf:nF f=(ek f 0).length:=rfl
  have hdl0:=@afb f 0
  refine⟨⟨Ln p f,rfl,aFV hfx⟩,fun h=>(by cases h),fun _=>⟨by omega,by omega,by omega,by omega,⟨⟨⟨trivial,by rw[hcast];rfl⟩,rfl,hrT (by rw[ajG,hf0,hs0,hcast])⟩,by omega,by omega⟩,?_⟩⟩
  rintro i ⟨i0,i1⟩
  have hru:=@ajF (fL (Qp p f 0)) i.toNat (false,([],[])) (by omega)
  refine⟨fun hi=>?_,fun hi=>?_⟩
  ·have hv:bo (fL (Qp p f 0)) i.toNat (false,([],[]))=cJ (if bo f i.toNat 0=1 then 1 else 0):=by rw[KE (by omega),aFZ (by omega)]
   have hset:∀x:fO,x=cJ (if bo f i.toNat 0=1 then 1 else 0)->(xN (fL (Qp p f 0)) i.toNat (false,([],[]))).set i.toNat x=xN (fL (Qp p f 0)) (i+1).toNat (false,([],[])):=fun x hx=>by
    have:=ajI (d:=fL (Qp p f 0)) (j:=i.toNat) (z:=(false,([],[]))) (x:=x) (by omega) (hx.trans hv.symm)
    rw[show(i+1).toNat=i.toNat+1 by omega]
    exact this
   rw[List.length_set]
   refine⟨i0,hi,by omega,by omega,by omega,i0,by omega,by omega,by omega,fun h1=>⟨by omega,by omega,i0,by omega,by omega,by omega,by omega,hrT ?_,by omega,by omega⟩,fun h1=>⟨by omega,hrT ?_,by omega,by omega⟩⟩
   ·rw[List.set_set]
    exact hset _ (by rw[if_pos h1])
   ·exact hset _ (by rw[if_neg h1])
  ·have hi2:i.toNat=(fL (Qp p f 0)).length:=by omega
   rw[hi2,ajH]
   refine⟨⟨hrT rfl,by omega,by omega⟩,?_⟩
   rintro k ⟨k0,k1⟩
   have hsk:=@ahX p f k.toNat
   have hfk:=@zx (Qp p f k.toNat)
   refine⟨fun hk=>?_,fun hk=>?_⟩
   ·have hm:=(SR.1 (nA (d:=0) (show k.toNat<(ek f 0).length by omega))).1
    have hv:bo (fL (AQ (uz p f) (nF f) (mF p))) k.toNat sF.dflt=cJ (bo (AQ (uz p f) (nF f) (mF p)) k.toNat 0):=KE (by omega)
    have hst:=@aFY p f k.toNat (by omega)
    rw[hv]
    refine⟨k0,hk,by omega,k0,by omega,by omega,by omega,hm.1,by omega,by omega,by omega,by omega,hrT ?_,by omega,by omega⟩
    rw[ahU,show(k+1).toNat=k.toNat+1 by omega,hst]
   ·have hk2:k.toNat=nF f:=by omega
    rw[hk2] at hsk hfk ⊢
    have hab:=@aqC p hc f f.length hln
    rw[List.take_length] at hab
    have hsa:Sz 1 ((RR p f:Int):Rat):=by
     unfold Sz;rw[Rat.num_intCast,Rat.den_intCast];omega
    have hsv:Sz 1000000 (uz p f).value:=by
     have:=(amm hfx).szT (adJ hfx).1
     exact this.2.2.2
    refine⟨⟨hc,hln⟩,⟨se hsa (by omega),se hsv (by omega)⟩,by omega,by omega,?_,hx0.symm⟩
    unfold F2 ac2 RS;simp only[hok,if_true,tc];rfl
def adL (p:cn) (i k:Int):Bool:=decide (i≠k)&&(decide ((oI p i).iy=(oI p k).iy)&&((oI p i).want.le (oI p k).want&&(decide ((oI p k).value<(oI p i).value)||(decide ((oI p i).value=(oI p k).value)&&decide (i<k)))))
def acs (p:cn) (k:Int) (n:Nat):Bool:=(pA n).any fun i=>adL p i k
def aa6 (p:cn) (n:Nat):List Int:=(pA n).filter fun k=>acs p k p.offers.length
def x4 (p:cn):List Int:=aa6 p p.offers.length
theorem axD {p:cn} {n:Nat}:(aa6 p n).length<=n:=by
 have:=List.length_filter_le (fun k=>acs p k p.offers.length) (pA n)
 rw[FC] at this;exact this
theorem aGe {p:cn} {k:Int} (h:0<=k):aa6 p (k+1).toNat=aa6 p k.toNat++if acs p k p.offers.length=true then[k] else[]:=by
 unfold aa6
 rw[show(k+1).toNat=k.toNat+1 by omega,aek,List.filter_append,show((k.toNat:Nat):Int)=k by omega]
 congr 1
 simp only[List.filter_cons,List.filter_nil]
theorem aGf {p:cn} {k i:Int} (h:0<=i):acs p k (i+1).toNat=(acs p k i.toNat||adL p i k):=by
 unfold acs
 rw[show(i+1).toNat=i.toNat+1 by omega,aek,List.any_append,show((i.toNat:Nat):Int)=i by omega]
 simp
theorem aGg {p:cn} {k i:Int} (h0:0<=i) (h1:i<p.offers.length) (h:adL p i k=true):acs p k p.offers.length=true:=by
 unfold acs;rw[List.any_eq_true]
 exact⟨i,QZ.2 ⟨h0,h1⟩,h⟩
def aqI:fN:=⟨90,cn×Int×Int,.cons ql (.cons (sj .i64) (.one (sj .i64))),fun a=>(0<=a.2.1/\a.2.1<a.1.offers.length)/\(0<=a.2.2/\a.2.2<a.1.offers.length),fun a=> .sb (adL a.1 a.2.1 a.2.2)⟩
theorem h391:Holds Tryz.prog aqI:=by
 refine lj (L:=[aoC]) aqI lk (by simpa using h144) ?_
 rintro⟨p,i,k⟩ ⟨⟨i0,i1⟩,k0,k1⟩
 simp only at i0 i1 k0 k1
 refine gw (let a:=SV.bl false;let b:=bD.off.dflt;let f:=p.offers.length;let c:=SV.sb (adL p i k);let d:=bo p.offers i.toNat b;let e:=bo p.offers k.toNat b;let g:=decide (d.iy≠e.iy);let h:=decide (e.value<d.value);let j:=decide (d.value=e.value);(0:Int)<=i/\i<(↑f:Int)/\i.toNat<f/\(0:Int)<=k/\k<(↑f:Int)/\k.toNat<f/\(decide (i=k)=true->(a).same c)/\(decide (i=k)=false->(g=true->(a).same c)/\(g=false->True/\((!d.want.le e.want)=true->(a).same c)/\((!d.want.le e.want)=false->(h=true->(SV.bl true).same c)/\(h=false->(j=true->(SV.sb (decide (i<k))).same c)/\(j=false->(a).same c)))))) (by kernel_rfl) ?_
 simp only[vcs]
 have hi:bo p.offers i.toNat bD.off.dflt=oI p i:=rfl
 have hk:bo p.offers k.toNat bD.off.dflt=oI p k:=rfl
 simp only[hi,hk]
 refine⟨i0,i1,by omega,k0,k1,by omega,fun h=>?_,fun h=>⟨fun h2=>?_,fun h2=>⟨fun h3=>?_,fun h3=>⟨fun h4=>?_,fun h4=>⟨fun h5=>?_,fun h5=>?_⟩⟩⟩⟩⟩
 all_goals
  unfold adL
  simp_all
def amB:fN:=⟨56,cn,.one ql,fun p=>p.offers.length<=1000,fun p=> .row (.i .i64) (x4 p)⟩
def aGh (p:cn):Nat->jW
 |3=> .inv Int (fun k=>⟨[(1,.ptr 0 0 20),(3,.ow 1 (aa6 p k.toNat).length 1),(8,.si .i64 p.offers.length),(9,.si .i64 k)],[.cells p.ss 27 20 false,.row (.i .i64) (aa6 p k.toNat) 3 true]⟩)
   (fun s=>iS s 9) (fun k=>0<=k/\k<=p.offers.length) (fun k=>(p.offers.length - k).toNat) fun k j=>match j with
   |6=> .inv Int (fun i=>⟨[(1,.ptr 0 0 20),(3,.ow 1 (aa6 p k.toNat).length 1),(4,.si .i64 k),(8,.si .i64 p.offers.length),(9,.si .i64 k),(14,.si .i64 p.offers.length),(15,.si .i64 i)],[.cells p.ss 27 20 false,.row (.i .i64) (aa6 p k.toNat) 3 true]⟩)
     (fun s=>iS s 15) (fun i=>(0<=i/\i<=p.offers.length)/\acs p k i.toNat=false) (fun i=>(p.offers.length - i).toNat) fun _ _=> .look
   |_=> .look
 |_=> .look
theorem h386:Holds Tryz.prog amB:=by
 refine lj (L:=[aqI]) amB aGh (by simpa using h391) ?_
 intro(p:cn) (hp:p.offers.length<=1000)
 refine gw (let a:=SV.si .i64;let b:=(0:Int);let c:=cC.row;let d:=SV.il .i64 0;let e:=iR .i64;let f:=SV.row;let g:=SV.ow;let l:=SV.ptr 0 0 20;let h:=(↑p.offers.length:Int);let j:=a h;let o:=bD.i .i64;let m:=cC.cells [a p.supply.a0,a p.supply.a1,a p.supply.a2,a p.supply.a3,a p.supply.a4,a p.supply.a5,a p.opn.a0,a p.opn.a1,a p.opn.a2,a p.opn.a3,a p.opn.a4,a p.opn.a5,a p.cls.a0,a p.cls.a1,a p.cls.a2,a p.cls.a3,a p.cls.a4,a p.cls.a5,f o p.classes,f bD.off p.offers] 27 20 false;(((l.same l/\(g 1 0 1).same (g 1 (aa6 p 0).length 1)/\(a (↑p.offers.length:Int)).same j/\(d).same (a 0)/\True)/\m.same m/\(c o [] 3 true).same (c o (aa6 p 0) 3 true)/\True)/\b<=b/\b<=h)/\∀(x:Int),let n:=aa6 p x.toNat;let r:=g 1 n.length 1;let s:=c o n 3 true;let v:=n.length+1;let k:=x+(1:Int);let w:=g 1 (aa6 p k.toNat).length 1;let t:=a k;let y:=c o (aa6 p k.toNat) 3 true;b<=x/\x<=h->(decide (x<h)=true->(((l.same l/\r.same r/\(a x).same (a x)/\j.same j/\(a x).same (a x)/\(a (↑p.offers.length:Int)).same j/\(d).same (a 0)/\True)/\m.same m/\s.same s/\True)/\(b<=b/\b<=h)/\acs p x 0=false)/\∀(x_1:Int),let q:=x_1+(1:Int);let u:=a x;let z:=a q;(b<=x_1/\x_1<=h)/\acs p x x_1.toNat=false->(decide (x_1<h)=true->((b<=x_1/\x_1<h)/\b<=x/\x<h)/\(adL p x_1 x=true->n.length=n.length/\v*8<=140737488355328/\v<=1000000000000/\e k/\((l.same l/\(g 1 (n++[x]).length 1).same w/\j.same j/\t.same t/\True)/\m.same m/\(c o (n++[x]) 3 true).same y/\True)/\(b<=k/\k<=h)/\(h - k).toNat<(h - x).toNat)/\(adL p x_1 x=false->e q/\((l.same l/\r.same r/\u.same u/\j.same j/\u.same u/\j.same j/\z.same z/\True)/\m.same m/\s.same s/\True)/\((b<=q/\q<=h)/\acs p x q.toNat=false)/\(h - q).toNat<(h - x_1).toNat))/\(decide (x_1<h)=false->e k/\((l.same l/\r.same w/\j.same j/\t.same t/\True)/\m.same m/\s.same y/\True)/\(b<=k/\k<=h)/\(h - k).toNat<(h - x).toNat))/\(decide (x<h)=false->n.length=n.length/\(f o n).same (f o (x4 p)))) (by kernel_rfl) ?_
 simp only[vcs]
 have hw:∀{a b:Nat},a=b->(SV.ow 1 a 1).same (SV.ow 1 b 1):=by rintro _ _ rfl;rfl
 have XC:∀{x y:List Int},x=y->(cC.row (.i .i64) x 3 true).same (cC.row (.i .i64) y 3 true):=by rintro _ _ rfl;rfl
 refine⟨⟨⟨hw rfl,XC rfl⟩,by omega,by omega⟩,?_⟩
 rintro k ⟨k0,k1⟩
 have hdl:=@axD p k.toNat
 have hds:=@aGe p k k0
 refine⟨fun hk=>⟨⟨⟨by omega,by omega⟩,rfl⟩,?_⟩,fun hk=>?_⟩
 ·rintro i ⟨⟨i0,i1⟩,hn⟩
  have hks:=@aGf p k i i0
  refine⟨fun hi=>⟨⟨⟨i0,hi⟩,k0,hk⟩,fun hd=>?_,fun hd=>?_⟩,fun hi=>?_⟩
  ·rw[if_pos (aGg i0 hi hd)] at hds
   rw[hds]
   exact⟨by omega,by omega,by omega,⟨hw rfl,XC rfl⟩,by omega,by omega⟩
  ·rw[hn,hd] at hks
   exact⟨by omega,⟨⟨by omega,by omega⟩,hks⟩,by omega⟩
  ·rw[show i.toNat=p.offers.length by omega] at hn
   rw[hn,if_neg (by simp),List.append_nil] at hds
   rw[hds]
   exact⟨by omega,⟨hw rfl,XC rfl⟩,by omega,by omega⟩
 ·rw[show k.toNat=p.offers.length by omega]
  rfl
def aqJ:fN:=⟨30,cn,.one ql,fun _=>True,fun p=> .eW [.row (.i .i64) (if dV p=0 then x4 p else[]),.si .i64 (dV p)]⟩
theorem h377:Holds Tryz.prog aqJ:=by
 refine lj (L:=[r79,amB]) aqJ lk (by simpa using⟨h79,h386⟩) ?_
 rintro(p:cn) -
 refine gw (let a:=SV.row;let b:=SV.eW;let d:=decide (dV p≠(0:Int));let c:=bD.i .i64;let e:=[SV.si .i64 (dV p)];let f:=b (a c (if dV p=(0:Int) then x4 p else[])::e);True/\(d=true->(b (a c []::e)).same f)/\(d=false->p.offers.length<=1000/\(b [a c (x4 p),SV.il .i64 0]).same f)) (by kernel_rfl) ?_
 simp only[vcs]
 refine⟨fun h=>by rw[if_neg h],fun h=>?_⟩
 have hc:dV p=0:=Classical.not_not.1 h
 have:=(pz hc).2.1
 rw[if_pos hc]
 exact⟨by omega,rfl,hc.symm⟩
def aqK:fN:=⟨164,Int,.one (sj .i64),fun _=>True,fun _=> .sb false⟩
theorem h369:Holds Tryz.prog aqK:=by
 refine lj (L:=[]) aqK lk (by simp) ?_
 rintro(x:Int) -
 refine gw ((SV.sb (decide (x≠x))).same (SV.sb false)) (by kernel_rfl) ?_
 simp[alb]
def aqL:fN:=⟨137,Int,.one (sj .i64),fun _=>True,fun _=> .sb false⟩
theorem h397:Holds Tryz.prog aqL:=by
 refine lj (L:=[]) aqL lk (by simp) ?_
 rintro(x:Int) -
 refine gw ((SV.sb (decide (x≠x))).same (SV.sb false)) (by kernel_rfl) ?_
 simp[alb]
def aqM:fN:=⟨136,Int×Int,.cons (sj .i64) (.one (sj .i64)),fun _=>True,fun a=> .sb (decide (a.1<a.2))⟩
theorem h358:Holds Tryz.prog aqM:=by
 refine lj (L:=[aqK]) aqM lk (by simpa using h369) ?_
 rintro⟨x,y⟩ -
 refine gw (let a:=SV.sb (decide (x<y));True/\(false=true->True/\(true=true->(SV.bl true).same a)/\(true=false->(SV.sb (decide (x<y))).same a))/\(false=false->(SV.sb (decide (x<y))).same a)) (by kernel_rfl) ?_
 conv=>zeta
 simp[alb,aus]
def amC (l:List Int) (x:Int):Nat:=(l.filter fun y=>decide (y<x)).length
theorem aGi {l:List Int} {x:Int} {i:Nat} (hs:l.Pairwise (·<·)) (hi:i<=l.length) (h1:∀k:Nat,k<i->bo l k 0<x) (h2:∀k:Nat,i<=k->k<l.length->x<=bo l k 0):amC l x=i/\(x∈l↔i<l.length/\bo l i 0=x):=by
 refine⟨?_,fun h=>?_,fun h=>?_⟩
 ·unfold amC
  have e:l.filter (fun y=>decide (y<x))=(l.take i).filter (fun y=>decide (y<x))++(l.drop i).filter (fun y=>decide (y<x)):=by rw[<-List.filter_append,List.take_append_drop]
  rw[e,List.length_append,List.filter_eq_self.2,List.filter_eq_nil_iff.2,List.length_take]
  ·simp;omega
  ·intro y hy
   obtain⟨k,hk,rfl⟩:=List.getElem_of_mem hy
   rw[List.length_drop] at hk;rw[List.getElem_drop]
   have:=h2 (i+k) (by omega) (by omega)
   rw[jV (by omega)] at this
   simp;omega
  ·intro y hy
   obtain⟨k,hk,rfl⟩:=List.getElem_of_mem hy
   rw[List.length_take] at hk;rw[List.getElem_take]
   have:=h1 k (by omega)
   rw[jV (by omega)] at this
   simp;omega
 ·obtain⟨k,hk,rfl⟩:=List.getElem_of_mem h
  have hik:i<=k:=by
   rcases Nat.lt_or_ge k i with h3|h3
   ·have:=h1 k h3
    rw[jV hk] at this;omega
   ·exact h3
  rcases Nat.eq_or_lt_of_le hik with h3|h3
  ·subst h3;exact⟨hk,jV hk⟩
  ·have h4:=h2 i (Nat.le_refl _) (by omega)
   rw[jV (show i<l.length by omega)] at h4
   have:=List.pairwise_iff_getElem.1 hs i k (by omega) hk h3
   omega
 ·rw[<-h.2]
  exact nA h.1
def aqN:fN:=⟨89,List Int×Int,.cons (qX (.i .i64)) (.one (sj .i64)),fun a=>a.1.length<=1000000000000/\a.1.Pairwise (·<·),fun a=> .eW [.si .i64 (amC a.1 a.2),.sb (decide (a.2∈a.1))]⟩
def aGj (l:List Int) (x:Int):Nat->jW
 |3=> .inv (Int×Int) (fun y=>⟨[(0,.row (.i .i64) l),(1,.si .i64 x),(6,.si .i64 l.length),(7,.si .i64 y.1),(8,.si .i64 y.2)],[]⟩)
   (fun s=>(iS s 7,iS s 8)) (fun y=>(0<=y.1/\y.1<=y.2/\y.2<=l.length)/\(∀k:Nat,k<y.1->bo l k 0<x)/\∀k:Nat,y.2<=k->k<l.length->x<=bo l k 0) (fun y=>(y.2 - y.1).toNat) fun _ _=> .look
 |_=> .look
theorem h392:Holds Tryz.prog aqN:=by
 refine lj (L:=[aqM,aqL]) aqN (fun a=>aGj a.1 a.2) (by simpa using⟨h358,h397⟩) ?_
 rintro⟨l,x⟩ ⟨hl,hs⟩
 simp only at hl hs
 refine gw (let a:=(0:Int);let b:=SV.si .i64;let c:=SV.eW;let d:=(1:Int);let e:=iR .i64;let f:=SV.bl false;let m:=SV.row (bD.i .i64) l;let h:=(↑l.length:Int);let p:=b h;let j:=(↑l.length:Int);let q:=b j;let n:=c [b (↑(amC l x):Int),SV.sb (decide (x∈l))];(((m.same m/\(b x).same (b x)/\p.same q/\(SV.il .i64 0).same (b 0)/\p.same p/\True)/\True)/\(a<=a/\a<=h/\h<=j)/\(∀(k:Nat),(↑k:Int)<a->bo l k a<x)/\∀(k:Nat),h<=(↑k:Int)->k<l.length->x<=bo l k a)/\∀(x_1:Int×Int),let s:=b x;let r:=x_1.fst+x_1.snd;let g:=r / (2:Int);let t:=decide (x_1.fst<x_1.snd);let v:=decide (bo l x_1.fst.toNat a=x);let o:=b x_1.fst;let w:=fun(u u_1:Int) ↦let y:=b u;((m.same m/\s.same s/\q.same q/\y.same y/\(b u_1).same (b u_1)/\True)/\True)/\((a<=u/\u<=u_1/\u_1<=j)/\(∀(k:Nat),(↑k:Int)<u->bo l k a<x)/\∀(k:Nat),u_1<=(↑k:Int)->k<l.length->x<=bo l k a)/\(u_1 - u).toNat<(x_1.snd - x_1.fst).toNat;let z:=fun(u:Bool) ↦decide (bo l g.toNat a<x)=u;((a<=x_1.fst/\x_1.fst<=x_1.snd/\x_1.snd<=j)/\(∀(k:Nat),(↑k:Int)<x_1.fst->bo l k a<x)/\∀(k:Nat),x_1.snd<=(↑k:Int)->k<l.length->x<=bo l k a)->(t=true->e r/\iR .u64 r/\a<=d/\d<=(64:Int)/\e g/\a<=g/\g<h/\g.toNat<l.length/\True/\(z true->e (g+d)/\w (g+d) x_1.snd)/\(z false->w x_1.fst g))/\(t=false->(decide (x_1.fst<j)=true->a<=x_1.fst/\x_1.fst<h/\x_1.fst.toNat<l.length/\(v=true->(c [o,SV.bl true]).same n)/\(v=false->a<=x_1.fst/\x_1.fst<h/\x_1.fst.toNat<l.length/\True/\(false=true->True/\(c [o,SV.sb false]).same n)/\(false=false->(c [o,f]).same n)))/\(decide (x_1.fst<j)=false->(c [o,f]).same n))) (by kernel_rfl) ?_
 simp only[vcs]
 refine⟨⟨⟨by omega,by omega,by omega⟩,fun k hk=>by omega,fun k h1 h2=>by omega⟩,?_⟩
 rintro⟨i,j⟩ ⟨⟨a0,a1,a2⟩,b1,b2⟩
 simp only at a0 a1 a2 b1 b2 ⊢
 have hmono:∀a b:Nat,a<=b->b<l.length->bo l a 0<=bo l b 0:=fun a b h1 h2=>by
  rw[jV (by omega),jV h2]
  rcases Nat.eq_or_lt_of_le h1 with h|h
  ·subst h;exact Int.le_refl _
  ·exact Int.le_of_lt (List.pairwise_iff_getElem.1 hs a b (by omega) h2 h)
 refine⟨fun hlt=>?_,fun hge=>?_⟩
 ·refine⟨by omega,u64_in (by omega) (by omega),by omega,by omega,by omega,by omega,by omega,by omega,fun h1=>⟨by omega,⟨⟨by omega,by omega,a2⟩,fun k hk=>?_,b2⟩,by omega⟩,fun h1=>⟨⟨⟨a0,by omega,by omega⟩,b1,fun k hk hk2=>?_⟩,by omega⟩⟩
  ·have:=hmono k ((i+j) / 2).toNat (by omega) (by omega)
   omega
  ·have:=hmono ((i+j) / 2).toNat k (by omega) hk2
   omega
 ·have hij:i=j:=by omega
  subst hij
  obtain⟨q1,q2⟩:=@aGi l x i.toNat hs (by omega) (fun k hk=>b1 k (by omega)) (fun k hk=>b2 k (by omega))
  refine⟨fun h1=>⟨a0,h1,by omega,fun h2=>⟨by omega,(decide_eq_true (q2.2 ⟨by omega,h2⟩)).symm⟩,fun h2=>⟨a0,h1,by omega,fun h=>(by cases h),fun _=>⟨by omega,(decide_eq_false fun h3=>h2 (q2.1 h3).2).symm⟩⟩⟩,fun h1=>⟨by omega,(decide_eq_false fun h3=>h1 (by have:=(q2.1 h3).1;omega)).symm⟩⟩
def XH (p:cn) (l:List Int) (n:Nat):List Int:=(pA n).filter fun i=>decide (i∉l)
def rb (p:cn) (l:List Int):List Int:=XH p l p.offers.length
def AW (p:cn) (l:List Int):cn:={p with offers:=(rb p l).map (oI p)}
theorem axE {p:cn} {l:List Int} {n:Nat}:(XH p l n).length<=n:=by
 have:=List.length_filter_le (fun i=>decide (i∉l)) (pA n)
 rw[FC] at this;exact this
theorem aGk {p:cn} {l:List Int} {i:Int} (h:0<=i):XH p l (i+1).toNat=XH p l i.toNat++if i∈l then[] else[i]:=by
 unfold XH
 rw[show(i+1).toNat=i.toNat+1 by omega,aek,List.filter_append,show((i.toNat:Nat):Int)=i by omega]
 congr 1
 simp only[List.filter_cons,List.filter_nil]
 by_cases hi:i∈l<;>simp[hi]
def amD:fN:=⟨55,cn×List Int,.cons ql (.one (qX (.i .i64))),fun a=>(a.1.offers.length<=1000/\a.1.classes.length<=1000)/\a.2.length<=1000000000000/\a.2.Pairwise (·<·),fun a=> .eW [.agg (AW a.1 a.2).ss,.row (.i .i64) (rb a.1 a.2)]⟩
def aGl (p:cn) (k:List Int):ie:=[.cells p.ss 27 20 false,.cells [.il .i64 0,.il .i64 0,.il .i64 0,.il .i64 0,.il .i64 0,.il .i64 0,.il .i64 0,.il .i64 0,.il .i64 0,.il .i64 0,.il .i64 0,.il .i64 0,.il .i64 0,.il .i64 0,.il .i64 0,.il .i64 0,.il .i64 0,.il .i64 0,.sc (.slice none 0 0),.sc (.slice none 0 0)] 27 20 false,
 .cells [.si .i64 p.supply.a0,.si .i64 p.supply.a1,.si .i64 p.supply.a2,.si .i64 p.supply.a3,.si .i64 p.supply.a4,.si .i64 p.supply.a5,
  .si .i64 p.opn.a0,.si .i64 p.opn.a1,.si .i64 p.opn.a2,.si .i64 p.opn.a3,.si .i64 p.opn.a4,.si .i64 p.opn.a5,
  .si .i64 p.cls.a0,.si .i64 p.cls.a1,.si .i64 p.cls.a2,.si .i64 p.cls.a3,.si .i64 p.cls.a4,.si .i64 p.cls.a5,
  .row (.i .i64) p.classes,.ow 3 k.length 8] 27 20 false,.row .off (k.map (oI p)) 58 true,.row (.i .i64) k 3 true]
def aGm (p:cn) (l:List Int):Nat->jW
 |6=> .inv Int (fun i=>⟨[(1,.row (.i .i64) l),(4,.ptr 1 0 20),(6,.ptr 2 0 20),(7,.ow 4 (XH p l i.toNat).length 1),(19,.row .off p.offers),(20,.si .i64 p.offers.length),(21,.si .i64 i)],aGl p (XH p l i.toNat)⟩)
   (fun s=>iS s 21) (fun i=>0<=i/\i<=p.offers.length) (fun i=>(p.offers.length - i).toNat) fun _ _=> .look
 |_=> .look
theorem h388:Holds Tryz.prog amD:=by
 refine lj (L:=[ajn,aqN]) amD (fun a=>aGm a.1 a.2) (by simpa using⟨h330,h392⟩) ?_
 rintro⟨p,l⟩ ⟨⟨hp,hcl⟩,hl,hs⟩
 simp only at hp hcl hl hs
 refine gw (let a:=SV.si .i64;let b:=cC.row;let c:=SV.row;let d:=cC.cells;let e:=(0:Int);let f:=SV.ow;let h:=bD.i .i64;let P:=SV.ptr 1 0 20;let Q:=SV.ptr 2 0 20;let z3:Nat:=(XH p l 0).length;let O:=c bD.off p.offers;let V:=(↑p.offers.length:Int);let k:=(↑p.offers.length:Int);let U:=a k;let g:=SV.il .i64 0;let m:=a p.supply.a0;let n:=a p.supply.a1;let o:=a p.supply.a2;let q:=a p.supply.a3;let r:=a p.supply.a4;let s:=a p.supply.a5;let t:=a p.opn.a0;let v:=a p.opn.a1;let w:=a p.opn.a2;let y:=a p.opn.a3;let z:=a p.opn.a4;let A:=a p.opn.a5;let B:=a p.cls.a0;let C:=a p.cls.a1;let D:=a p.cls.a2;let E:=a p.cls.a3;let F:=a p.cls.a4;let G:=a p.cls.a5;let H:=c h p.classes;let R:=d [m,n,o,q,r,s,t,v,w,y,z,A,B,C,D,E,F,G,H,O] 27 20 false;let W:=SV.sc (Value.slice none 0 0);let S:=d [g,g,g,g,g,g,g,g,g,g,g,g,g,g,g,g,g,g,W,W] 27 20 false;let X:=b bD.off [] 58 true;let I:=(AW p l).supply;let J:=(AW p l).opn;let K:=(AW p l).cls;p.classes.length<=1000000/\((((c h l).same (c h l)/\P.same P/\Q.same Q/\(f 4 0 1).same (f 4 z3 1)/\O.same O/\(a V).same U/\g.same (a 0)/\True)/\R.same R/\S.same S/\(d [m,n,o,q,r,s,t,v,w,y,z,A,B,C,D,E,F,G,H,f 3 0 8] 27 20 false).same (d [m,n,o,q,r,s,t,v,w,y,z,A,B,C,D,E,F,G,H,f 3 z3 8] 27 20 false)/\X.same X/\(b h [] 3 true).same (b h (XH p l 0) 3 true)/\True)/\e<=e/\e<=k)/\∀(x:Int),let L:=x+(1:Int);let T:=XH p l L.toNat;let Y:=a L;let j:=XH p l x.toNat;let M:=j.length;let N:=List.map (oI p) j;let Z:=N.length+1;let a6:=j.length+1;let a7:=N++[bo p.offers x.toNat bD.off.dflt];let a8:=fun(u u_1:Nat) (u_2 u_3:cC) ↦iR .i64 L/\(((c h l).same (c h l)/\P.same P/\Q.same Q/\(f 4 u 1).same (f 4 T.length 1)/\O.same O/\U.same U/\Y.same Y/\True)/\R.same R/\S.same S/\(d [m,n,o,q,r,s,t,v,w,y,z,A,B,C,D,E,F,G,H,f 3 u_1 8] 27 20 false).same (d [m,n,o,q,r,s,t,v,w,y,z,A,B,C,D,E,F,G,H,f 3 T.length 8] 27 20 false)/\u_2.same (b bD.off (List.map (oI p) T) 58 true)/\u_3.same (b h T 3 true)/\True)/\(e<=L/\L<=k)/\(k - L).toNat<(k - x).toNat;e<=x/\x<=k->(decide (x<k)=true->e<=x/\x<V/\x.toNat<p.offers.length/\(l.length<=1000000000000/\List.Pairwise (fun(x1 x2:Int) ↦x1<x2) l)/\((!decide (x∈l))=true->1=1/\M=N.length/\Z*64<=140737488355328/\Z<=1000000000000/\M=j.length/\a6*8<=140737488355328/\a6<=1000000000000/\a8 (j++[x]).length a7.length (b bD.off a7 58 true) (b h (j++[x]) 3 true))/\((!decide (x∈l))=false->a8 M M (b bD.off N 58 true) (b h j 3 true)))/\(decide (x<k)=false->M=N.length/\M=j.length/\(SV.eW [SV.agg [m,n,o,q,r,s,t,v,w,y,z,A,B,C,D,E,F,G,H,c bD.off N],c h j]).same (SV.eW [SV.agg [a I.a0,a I.a1,a I.a2,a I.a3,a I.a4,a I.a5,a J.a0,a J.a1,a J.a2,a J.a3,a J.a4,a J.a5,a K.a0,a K.a1,a K.a2,a K.a3,a K.a4,a K.a5,c h (AW p l).classes,c bD.off (AW p l).offers],c h (rb p l)]))) (by kernel_rfl) ?_
 simp only[vcs]
 have hw4:∀{a b:Nat},a=b->(SV.ow 4 a 1).same (SV.ow 4 b 1):=by rintro _ _ rfl;rfl
 have XC:∀{x y:List Int},x=y->(cC.row (.i .i64) x 3 true).same (cC.row (.i .i64) y 3 true):=by rintro _ _ rfl;rfl
 have hrO:∀{x y:List Off},x=y->(cC.row .off x 58 true).same (cC.row .off y 58 true):=by rintro _ _ rfl;rfl
 have hcell:∀{a b:Nat},a=b->(cC.cells [.si .i64 p.supply.a0,.si .i64 p.supply.a1,.si .i64 p.supply.a2,.si .i64 p.supply.a3,.si .i64 p.supply.a4,.si .i64 p.supply.a5,
  .si .i64 p.opn.a0,.si .i64 p.opn.a1,.si .i64 p.opn.a2,.si .i64 p.opn.a3,.si .i64 p.opn.a4,.si .i64 p.opn.a5,
  .si .i64 p.cls.a0,.si .i64 p.cls.a1,.si .i64 p.cls.a2,.si .i64 p.cls.a3,.si .i64 p.cls.a4,.si .i64 p.cls.a5,
  .row (.i .i64) p.classes,.ow 3 a 8] 27 20 false).same (cC.cells [.si .i64 p.supply.a0,.si .i64 p.supply.a1,.si .i64 p.supply.a2,.si .i64 p.supply.a3,.si .i64 p.supply.a4,.si .i64 p.supply.a5,
  .si .i64 p.opn.a0,.si .i64 p.opn.a1,.si .i64 p.opn.a2,.si .i64 p.opn.a3,.si .i64 p.opn.a4,.si .i64 p.opn.a5,
  .si .i64 p.cls.a0,.si .i64 p.cls.a1,.si .i64 p.cls.a2,.si .i64 p.cls.a3,.si .i64 p.cls.a4,.si .i64 p.cls.a5,
  .row (.i .i64) p.classes,.ow 3 b 8] 27 20 false):=by rintro _ _ rfl;rfl
 refine⟨by omega,⟨⟨hw4 rfl,hcell rfl,XC rfl⟩,by omega,by omega⟩,?_⟩
 rintro i ⟨i0,i1⟩
 have hk:=@axE p l i.toNat
 have hsu:=@aGk p l i i0
 have hml:(List.map (oI p) (XH p l i.toNat)).length=(XH p l i.toNat).length:=List.length_map _
 refine⟨fun hi=>⟨i0,hi,by omega,⟨hl,hs⟩,fun hm=>?_,fun hm=>?_⟩,fun hi=>?_⟩
 ·rw[if_neg hm] at hsu
  have e:List.map (oI p) (XH p l i.toNat)++[bo p.offers i.toNat bD.off.dflt]=List.map (oI p) (XH p l (i+1).toNat):=by rw[hsu,List.map_append];rfl
  rw[e,<-hsu,hml,List.length_map]
  exact⟨rfl,by omega,by omega,by omega,by omega,by omega,⟨hw4 rfl,hcell rfl,hrO rfl,XC rfl⟩,by omega,by omega⟩
 ·rw[if_pos hm,List.append_nil] at hsu
  rw[hsu]
  exact⟨by omega,⟨hw4 rfl,hcell rfl,hrO rfl,XC rfl⟩,by omega,by omega⟩
 ·rw[show i.toNat=p.offers.length by omega] at hml ⊢
  exact⟨hml.symm,rfl,rfl⟩
def ajP:cn:=⟨.zero,.zero,.zero,[],[]⟩
def abU (p:cn) (l:List Int):Int:=if dV p≠0 then dV p else if y5 p l=true then 0 else 4
def ac3 (p:cn) (l:List Int):cn:=if abU p l=0 then AW p l else ajP
def aqO:fN:=⟨31,cn×List Int,.cons ql (.one (qX (.i .i64))),fun a=>a.2.length<=1000000000000,fun a=> .eW [.agg (ac3 a.1 a.2).ss,.row (.i .i64) (if abU a.1 a.2=0 then rb a.1 a.2 else[]),.si .i64 (abU a.1 a.2)]⟩
def aGn (p:cn) (l:List Int):Nat->jW
 |6=> .inv (Int×Int) (fun x=>⟨[(1,.row (.i .i64) l),(2,.ptr 0 0 20),(4,.ptr 1 0 20),(8,.si .i64 x.2),(19,.row (.i .i64) l),(20,.si .i64 l.length),(21,.si .i64 x.1)],[.cells p.ss 27 20 false,.cells [.il .i64 0,.il .i64 0,.il .i64 0,.il .i64 0,.il .i64 0,.il .i64 0,.il .i64 0,.il .i64 0,.il .i64 0,.il .i64 0,.il .i64 0,.il .i64 0,.il .i64 0,.il .i64 0,.il .i64 0,.il .i64 0,.il .i64 0,.il .i64 0,.sc (.slice none 0 0),.sc (.slice none 0 0)] 27 20 false]⟩)
   (fun s=>(iS s 21,iS s 8)) (fun x=>(0<=x.1/\x.1<=l.length)/\(-1<=x.2/\x.2<1000)/\(rf p.offers (-1) l).isSome=(rf p.offers x.2 (l.drop x.1.toNat)).isSome) (fun x=>(l.length - x.1).toNat) fun _ _=> .look
 |_=> .look
theorem h379:Holds Tryz.prog aqO:=by
 refine lj (L:=[r79,amD]) aqO (fun a=>aGn a.1 a.2) (by simpa using⟨h79,h388⟩) ?_
 rintro⟨p,l⟩ (hl:l.length<=1000000000000)
 refine gw (let a:=SV.si .i64;let b:=SV.row;let c:=(-1:Int);let d:=(0:Int);let e:=SV.il .i64;let f:=(1000:Int);let g:=SV.eW;let h:=SV.agg;let G:=decide (dV p≠d);let j:=e 0;let k:=bD.i .i64;let w:=b k [];let E:=h [j,j,j,j,j,j,j,j,j,j,j,j,j,j,j,j,j,j,w,w];let n:=(ac3 p l).supply;let o:=(ac3 p l).opn;let q:=(ac3 p l).cls;let y:=g [h [a n.a0,a n.a1,a n.a2,a n.a3,a n.a4,a n.a5,a o.a0,a o.a1,a o.a2,a o.a3,a o.a4,a o.a5,a q.a0,a q.a1,a q.a2,a q.a3,a q.a4,a q.a5,b k (ac3 p l).classes,b bD.off (ac3 p l).offers],b k (if abU p l=d then rb p l else[]),a (abU p l)];let z:=SV.ptr 0 0 20;let A:=SV.ptr 1 0 20;let m:=(↑l.length:Int);let F:=a m;let B:=cC.cells [a p.supply.a0,a p.supply.a1,a p.supply.a2,a p.supply.a3,a p.supply.a4,a p.supply.a5,a p.opn.a0,a p.opn.a1,a p.opn.a2,a p.opn.a3,a p.opn.a4,a p.opn.a5,a p.cls.a0,a p.cls.a1,a p.cls.a2,a p.cls.a3,a p.cls.a4,a p.cls.a5,b k p.classes,b bD.off p.offers] 27 20 false;let H:=SV.sc (Value.slice none 0 0);let C:=cC.cells [j,j,j,j,j,j,j,j,j,j,j,j,j,j,j,j,j,j,H,H] 27 20 false;let D:=(rf p.offers c l).isSome;let r:=(AW p l).supply;let s:=(AW p l).opn;let t:=(AW p l).cls;True/\(G=true->(g [E,w,a (dV p)]).same y)/\(G=false->((((b k l).same (b k l)/\z.same z/\A.same A/\(e c).same (a c)/\(b k l).same (b k l)/\(a (↑l.length:Int)).same F/\j.same (a 0)/\True)/\B.same B/\C.same C/\True)/\(d<=d/\d<=m)/\(c<=c/\c<f)/\D=D)/\∀(x:Int×Int),let I:=decide (x.fst<m);let u:=bo l x.fst.toNat d;let J:=decide (u<=x.snd);let K:=decide ((↑p.offers.length:Int)<=u);let v:=x.fst+(1:Int);let L:=a u;let M:=a v;(d<=x.fst/\x.fst<=m)/\(c<=x.snd/\x.snd<f)/\D=(rf p.offers x.snd (List.drop x.fst.toNat l)).isSome->(I=true->d<=x.fst/\x.fst<(↑l.length:Int)/\x.fst.toNat<l.length/\(J=true->(g [E,w,e 4]).same y)/\(J=false->(K=true->(g [E,w,e 4]).same y)/\(K=false->iR .i64 v/\(((b k l).same (b k l)/\z.same z/\A.same A/\L.same L/\(b k l).same (b k l)/\F.same F/\M.same M/\True)/\B.same B/\C.same C/\True)/\((d<=v/\v<=m)/\(c<=u/\u<f)/\D=(rf p.offers u (List.drop v.toNat l)).isSome)/\(m - v).toNat<(m - x.fst).toNat)))/\(I=false->((p.offers.length<=1000/\p.classes.length<=1000)/\l.length<=1000000000000/\List.Pairwise (fun x1 x2 ↦x1<x2) l)/\(g [h [a r.a0,a r.a1,a r.a2,a r.a3,a r.a4,a r.a5,a s.a0,a s.a1,a s.a2,a s.a3,a s.a4,a s.a5,a t.a0,a t.a1,a t.a2,a t.a3,a t.a4,a t.a5,b k (AW p l).classes,b bD.off (AW p l).offers],b k (rb p l),j]).same y))) (by kernel_rfl) ?_
 simp only[vcs]
 have hz:abU p l≠0->ac3 p l=ajP:=fun h=>by unfold ac3;rw[if_neg h]
 refine⟨fun h=>?_,fun h=>?_⟩
 ·have e:abU p l=dV p:=by unfold abU;rw[if_pos h]
  rw[hz (by rw[e];exact h),e,if_neg h]
  exact⟨rfl,rfl,rfl⟩
 ·have hc:dV p=0:=Classical.not_not.1 h
  have hg:=pz hc
  have e:abU p l=if y5 p l=true then 0 else 4:=by unfold abU;rw[if_neg h]
  refine⟨⟨by omega,by omega,by simp⟩,?_⟩
  rintro⟨i,last⟩ ⟨⟨i0,i1⟩,⟨q1,q2⟩,hi⟩
  simp only at i0 i1 q1 q2 hi ⊢
  have bad:y5 p l=false->abU p l=4/\ac3 p l=ajP:=fun hb=>by
   rw[hb] at e
   exact⟨e,hz (by rw[e];decide)⟩
  refine⟨fun hlt=>?_,fun hge=>?_⟩
  ·rw[aeb (d:=0) i0 hlt] at hi
   generalize hx:bo l i.toNat 0=x at hi ⊢
   simp only[rf] at hi
   refine⟨i0,hlt,by omega,fun h1=>?_,fun h1=>⟨fun h2=>?_,fun h2=>?_⟩⟩
   ·rw[if_pos (.inl h1)] at hi
    obtain⟨e1,e2⟩:=bad hi
    rw[e2,e1,if_neg (by decide)]
    exact⟨rfl,rfl,rfl⟩
   ·rw[if_pos (.inr (by omega))] at hi
    obtain⟨e1,e2⟩:=bad hi
    rw[e2,e1,if_neg (by decide)]
    exact⟨rfl,rfl,rfl⟩
   ·rw[if_neg (by omega),Option.isSome_map] at hi
    have:=hg.2.1
    exact⟨by omega,⟨⟨by omega,by omega⟩,⟨by omega,by omega⟩,hi⟩,by omega⟩
  ·rw[show i.toNat=l.length from by omega,List.drop_length] at hi
   have hok:y5 p l=true:=hi
   rw[hok] at e
   have e0:abU p l=0:=e
   have eq:ac3 p l=AW p l:=by unfold ac3;rw[if_pos e0]
   obtain⟨r,hr⟩:=Option.isSome_iff_exists.1 hok
   rw[eq,e0,if_pos rfl]
   exact⟨⟨⟨by have:=hg.2.1;omega,by have:=hg.1;omega⟩,hl,(ao0 (by omega) hr).1⟩,rfl,rfl,rfl⟩
def A6 (p:cn) (i d:Int):List Int:=(List.replicate p.offers.length 0).set i.toNat d
noncomputable def W1 (p:cn) (i d:Int) (q:Rat):Bool:=decide (Ig p (A6 p i d)=0)&&(!FQ p (A6 p i d)||decide (GI p (A6 p i d)<q))
theorem axF {p:cn} {f:List Int} (h:FQ p f=true):FG p f:=by
 unfold FQ at h;rw[Bool.and_eq_true,decide_eq_true_eq] at h
 obtain⟨a,b⟩:=h
 unfold Ig at a;split at a
 ·omega
 ·rename_i d
  split at a
  ·cases a
  ·rename_i c
   exact⟨Classical.not_not.1 d,Classical.not_not.1 c,b⟩
theorem aqP {p:cn} {f:List Int} (h:FQ p f=true):Sz 1000002 (GI p f):=by
 have a:=axF h
 have c:=@aqC p a.1 f f.length a.2.1
 rw[List.take_length] at c
 have d:Sz 1 ((RR p f:Int):Rat):=by
  unfold Sz;rw[Rat.num_intCast,Rat.den_intCast];omega
 have b:Sz 1000000 (uz p f).value:=((amm a).szT (adJ a).1).2.2.2
 exact(avE d b).mono (by omega)
noncomputable def aqQ:ob where
 f:=35
 α:=Int×Int×cn×fO
 put a:=[.si .i64 a.1,.si .i64 a.2.1,.ptr 0 0 20,.ptr 1 0 3]
 st a:=[.cells a.2.2.1.ss 27 20 false,.cells (encS sF a.2.2.2) 70 3 false]
 dec v o:=match v,o with
  |[a,b,.ptr 0 0 20,.ptr 1 0 3],[.cells cs 27 20 false,.cells gs 70 3 false]=>match a.int .i64,b.int .i64,aeQ cs,Kx sF gs with
   |some a,some b,some p,some x=>some (a,b,p,x)
   |_,_,_,_=>none
  |_,_=>none
 ok v o a h:=by
  split at h
  ·split at h
   ·rename_i h1 h2 h3 h4
    simp only[Option.some.injEq] at h;subst h
    refine⟨by simp only[gL,EG h1,EG h2,SV.g],?_⟩
    simp only[gO,List.map_cons,List.map_nil,cC.g,ahc h3,yh,aaK h4,acP]
   ·cases h
  ·cases h
 inj a b h1 h2:=by
  obtain⟨a0,a1,p,x⟩:=a
  obtain⟨b0,b1,p',x'⟩:=b
  simp only[gL,List.cons.injEq,and_true,SV.g,AV.sc.injEq,Value.int.injEq,true_and] at h1;simp only[gO,List.map_cons,List.map_nil,cC.g,List.cons.injEq,fZ.cells.injEq,and_true] at h2
  have h3:=ql.inj p p' (by simp only[ql,SV.g,h2.1])
  have h4:x=x':=afO sF x x' (by have:=h2.2;rw[yh,yh,acP,acP] at this;exact this)
  rw[h1.1,h1.2,h3,h4]
 dom a:=dV a.2.2.1=0/\(0<=a.1/\a.1<a.2.2.1.offers.length)/\∃q,a.2.2.2=cJ q/\Sz 1000 q
 res a:=.sb (W1 a.2.2.1 a.1 a.2.1 (ja a.2.2.2))
 out a:=[.cells a.2.2.1.ss 27 20 false,.cells (encS sF a.2.2.2) 70 3 false]
theorem h389:qH Tryz.prog aqQ:=by
 refine ajM (L:=[r97]) (W:=[amA]) aqQ lk (by simpa using h390w) (by simpa using h97) ?_
 rintro⟨i,d,p,x⟩ ⟨hc,⟨i0,i1⟩,q,hx,hq⟩
 simp only at hc i0 i1 hx
 subst hx
 refine gw (let a:=(0:Int);let h:=cC.cells (cn.ss p) 27 20 false;let j:=cC.cells [SV.sb (cJ q).fst,SV.row (bD.i .u32) (cJ q).snd.fst,SV.row (bD.i .u32) (cJ q).snd.snd] 70 3 false;let b:=(↑p.offers.length:Int);let e:=List.replicate b.toNat a;let c:=e.set i.toNat d;let k:=decide (Ig p c=a);let f:=SV.sb (W1 p i d (ja (cJ q)));let l:=((F2 p c).fst,(F2 p c).snd.fst,(F2 p c).snd.snd);let m:=((cJ q).fst,(cJ q).snd.fst,(cJ q).snd.snd);let g:=h.same h/\j.same j/\True;a<=b/\b<=b/\b*(8:Int)<=(140737488355328:Int)/\b<=(1000000000000:Int)/\b.toNat=e.length/\a<=i/\i<(↑e.length:Int)/\b.toNat=e.length/\i.toNat<e.length/\(b.toNat=c.length/\c.length<=1000000000000)/\(k=true->((!FQ p c)=true->(SV.bl true).same f/\g)/\((!FQ p c)=false->(lH l/\lH m)/\(SV.sb (decide (Kp (ja l) (ja m)<a))).same f/\g))/\(k=false->(SV.bl false).same f/\g)) (by kernel_rfl) ?_
 simp only[vcs]
 have hcast:∀k:Nat,((k:Nat):Int).toNat=k:=fun k=>Int.toNat_natCast k
 have hf:(List.replicate p.offers.length 0).set i.toNat d=A6 p i d:=rfl
 have h160:=(pz hc).2.1
 have hsl:(A6 p i d).length=p.offers.length:=by unfold A6;rw[List.length_set,List.length_replicate]
 have hrl:(List.replicate p.offers.length (0:Int)).length=p.offers.length:=List.length_replicate
 simp only[hcast,hf,hsl,hrl,RP,tc,aFa]
 refine⟨by omega,by omega,by omega,by omega,by first|trivial|rfl,i0,i1,by first|trivial|rfl,by omega,⟨by first|trivial|rfl,by omega⟩,fun h0=>⟨fun h1=>?_,fun h1=>⟨⟨?_,se hq (by omega)⟩,?_⟩⟩,fun h0=>?_⟩
 ·unfold W1
  rw[h0,h1];rfl
 ·have e:F2 p (A6 p i d)=cJ (GI p (A6 p i d)):=by unfold F2;rw[if_pos h1]
  rw[e]
  exact se (aqP h1) (by omega)
 ·have e:F2 p (A6 p i d)=cJ (GI p (A6 p i d)):=by unfold F2;rw[if_pos h1]
  rw[e,tc];unfold W1;rw[h0,h1]
  simp
 ·unfold W1
  rw[decide_eq_false h0];rfl
noncomputable def Zd (p:cn) (q:Rat) (i:Int):Int:=if W1 p i 1 q=true then -1 else if W1 p i (-1) q=true then 1 else 0
noncomputable def abV (p:cn) (q:Rat) (k:Nat):List Int:=(pA p.offers.length).map fun i:Int=>if i<(k:Int) then Zd p q i else 0
noncomputable def GU (p:cn) (m:Int):List Int:=if dV p=0 then(pA p.offers.length).map (Zd p (m:Rat)) else[]
noncomputable def amE:fN:=⟨11,cn×Int,.cons ql (.one (sj .i64)),fun a=> -9223372036854775808<=a.2/\a.2<=9223372036854775807,fun a=> .eW [.row (.i .i64) (GU a.1 a.2),.si .i64 (dV a.1)]⟩
noncomputable def aGo (p:cn) (m:Int):Nat->jW
 |8=> .inv Int (fun i=>⟨[(8,.fn (.func 35) [] [.ptr 0 0 20,.ptr 1 0 3]),(9,.ow 2 p.offers.length 1),(24,.si .i64 p.offers.length),(25,.si .i64 i)],[.cells p.ss 27 20 false,.cells [.sb (cJ (IntCast.intCast m)).1,.row (.i .u32) (cJ (IntCast.intCast m)).2.1,.row (.i .u32) (cJ (IntCast.intCast m)).2.2] 70 3 false,.row (.i .i64) (abV p (IntCast.intCast m) i.toNat) 3 true]⟩)
   (fun s=>iS s 25) (fun i=>0<=i/\i<=p.offers.length) (fun i=>(p.offers.length - i).toNat) fun _ _=> .look
 |_=> .look
theorem h383:Holds Tryz.prog amE:=by
 refine con (L:=[r79,r94]) (W:=A2 [aqQ]) amE (fun a=>aGo a.1 a.2) (Xy (by simpa using h389)) (by simpa using⟨h79,h94⟩) ?_
 rintro⟨p,m⟩ ⟨m0,m1⟩
 simp only at m0 m1
 refine gw (let a:=SV.si .i64;let b:=(0:Int);let c:=SV.row;let d:=cC.row;let e:=cC.cells;let f:=(1:Int);let g:=(-1:Int);let h:=SV.eW;let D:=decide (dV p≠b);let n:=bD.i .i64;let E:=[a (dV p)];let F:=h (c n (GU p m)::E);let o:=(↑p.offers.length:Int);let s:=SV.fn (Fn.func 35) [] [SV.ptr 0 0 20,SV.ptr 1 0 3];let v:=p.offers.length;let w:=SV.ow 2 v 1;let j:=(↑v:Int);let y:=a j;let G:=SV.il .i64 0;let t:=e [a p.supply.a0,a p.supply.a1,a p.supply.a2,a p.supply.a3,a p.supply.a4,a p.supply.a5,a p.opn.a0,a p.opn.a1,a p.opn.a2,a p.opn.a3,a p.opn.a4,a p.opn.a5,a p.cls.a0,a p.cls.a1,a p.cls.a2,a p.cls.a3,a p.cls.a4,a p.cls.a5,c n p.classes,c bD.off p.offers] 27 20 false;let k:=IntCast.intCast m;let B:=bD.i .u32;let z:=e [SV.sb (cJ k).fst,c B (cJ k).snd.fst,c B (cJ k).snd.snd] 70 3 false;let A:=((cJ k).fst,(cJ k).snd.fst,(cJ k).snd.snd);True/\(D=true->(h (c n []::E)).same F)/\(D=false->((-9223372036854775808:Int)<=m/\m<=(9223372036854775807:Int))/\b<=o/\o<=o/\o*(8:Int)<=(140737488355328:Int)/\o<=(1000000000000:Int)/\(((s.same s/\(SV.ow 2 o.toNat 1).same w/\(a (↑o.toNat:Int)).same y/\G.same (a 0)/\True)/\t.same t/\(e [SV.sb (cJ k).fst,c B (cJ k).snd.fst,c B (cJ k).snd.snd] 70 3 false).same z/\(d n (List.replicate o.toNat b) 3 true).same (d n (abV p k 0) 3 true)/\True)/\b<=b/\b<=j)/\∀(x:Int),let r:=abV p k x.toNat;let l:=x+f;let C:=a l;let H:=d n (abV p k l.toNat) 3 true;let I:=fun(u u_1:Int) ↦W1 p x u (ja A)=true->v=r.length/\b<=x/\x<(↑r.length:Int)/\v=r.length/\x.toNat<r.length/\iR .i64 l/\((s.same s/\w.same w/\y.same y/\C.same C/\True)/\t.same t/\z.same z/\(d n (r.set x.toNat u_1) 3 true).same H/\True)/\(b<=l/\l<=j)/\(j - l).toNat<(j - x).toNat;b<=x/\x<=j->(decide (x<j)=true->(dV p=b/\(b<=x/\x<j)/\∃(q:Rat),A=cJ q/\Sz 1000 q)/\I f g/\(W1 p x f (ja A)=false->(dV p=b/\(b<=x/\x<j)/\∃(q:Rat),A=cJ q/\Sz 1000 q)/\I g f/\(W1 p x g (ja A)=false->iR .i64 l/\((s.same s/\w.same w/\y.same y/\C.same C/\True)/\t.same t/\z.same z/\(d n r 3 true).same H/\True)/\(b<=l/\l<=j)/\(j - l).toNat<(j - x).toNat)))/\(decide (x<j)=false->v=r.length/\(h [c n r,G]).same F))) (by kernel_rfl) ?_
 simp only[vcs]
 refine⟨fun h=>by unfold GU;rw[if_neg h],fun h=>?_⟩
 have hc:dV p=0:=Classical.not_not.1 h
 have h160:=(pz hc).2.1
 have hcast:∀k:Nat,((k:Nat):Int).toNat=k:=fun k=>Int.toNat_natCast k
 have hal:∀k,(abV p (IntCast.intCast m) k).length=p.offers.length:=fun k=>by unfold abV;rw[List.length_map,FC]
 have hrow:∀{x y:List Int},x=y->(cC.row (.i .i64) x 3 true).same (cC.row (.i .i64) y 3 true):=by rintro _ _ rfl;rfl
 have hsm:Sz 1000 (IntCast.intCast m:Rat):=by
  have h1:Sz 3 (IntCast.intCast m:Rat):=by
   unfold Sz;rw[show(IntCast.intCast m:Rat)=((m:Int):Rat) from rfl,Rat.num_intCast,Rat.den_intCast];omega
  exact h1.mono (by omega)
 have amF:∀(k i:Nat),i<p.offers.length->bo (abV p (IntCast.intCast m) k) i 0=if(i:Int)<(k:Int) then Zd p (IntCast.intCast m) i else 0:=fun k i hi=>by
  unfold abV
  rw[ahS (e:=0) (by rw[FC];exact hi),ajB hi]
 have aqR:∀i:Int,0<=i->i<p.offers.length->(abV p (IntCast.intCast m) i.toNat).set i.toNat (Zd p (IntCast.intCast m) i)=abV p (IntCast.intCast m) (i+1).toNat:=fun i i0 i1=>by
  refine List.ext_getElem (by rw[List.length_set,hal,hal]) fun j h1 h2=>?_
  rw[hal] at h2
  have e1:=amF (i+1).toNat j h2
  rw[jV (by rw[hal];exact h2)] at e1
  rw[e1,List.getElem_set]
  by_cases hj:i.toNat=j
  ·rw[if_pos hj,if_pos (by omega),show((j:Nat):Int)=i by omega]
  ·have e2:=amF i.toNat j h2
   rw[jV (by rw[hal];exact h2)] at e2
   rw[if_neg hj,e2]
   by_cases h3:(j:Int)<i
   ·rw[if_pos (by omega),if_pos (by omega)]
   ·rw[if_neg (by omega),if_neg (by omega)]
 have aGp:∀i:Int,0<=i->i<p.offers.length->Zd p (IntCast.intCast m) i=0->abV p (IntCast.intCast m) i.toNat=abV p (IntCast.intCast m) (i+1).toNat:=fun i i0 i1 hz=>by
  rw[<-aqR i i0 i1,hz]
  refine(List.ext_getElem (by rw[List.length_set]) fun j h1 h2=>?_)
  rw[List.getElem_set];split
  ·rename_i hj
   have e2:=amF i.toNat j (by rw[hal] at h1;exact h1)
   rw[jV h1] at e2
   rw[e2,if_neg (by omega)]
  ·rfl
 simp only[hcast,hal,RP,tc]
 refine⟨⟨m0,m1⟩,by omega,by omega,by omega,by omega,⟨⟨⟨rfl,by first|trivial|rfl⟩,hrow ?_⟩,by omega,by omega⟩,?_⟩
 ·refine List.ext_getElem (by rw[hal,List.length_replicate]) fun j h1 h2=>?_
  rw[hal] at h2
  have e1:=amF 0 j h2
  rw[jV (by rw[hal];exact h2)] at e1
  rw[e1,if_neg (by omega),List.getElem_replicate]
 rintro i ⟨i0,i1⟩
 refine⟨fun hi=>⟨⟨hc,⟨i0,hi⟩,_,rfl,hsm⟩,fun h1=>?_,fun h1=>⟨⟨hc,⟨i0,hi⟩,_,rfl,hsm⟩,fun h2=>?_,fun h2=>?_⟩⟩,fun hi=>?_⟩
 ·have e:Zd p (IntCast.intCast m) i= -1:=by unfold Zd;rw[if_pos h1]
  have:=aqR i i0 hi
  rw[e] at this;rw[this]
  exact⟨by first|trivial|rfl,i0,hi,by first|trivial|rfl,by omega,by omega,hrow rfl,by omega,by omega⟩
 ·have e:Zd p (IntCast.intCast m) i=1:=by unfold Zd;rw[if_neg (by rw[h1];simp),if_pos h2]
  have:=aqR i i0 hi
  rw[e] at this;rw[this]
  exact⟨by first|trivial|rfl,i0,hi,by first|trivial|rfl,by omega,by omega,hrow rfl,by omega,by omega⟩
 ·have e:Zd p (IntCast.intCast m) i=0:=by unfold Zd;rw[if_neg (by rw[h1];simp),if_neg (by rw[h2];simp)]
  rw[aGp i i0 hi e]
  exact⟨by omega,hrow rfl,by omega,by omega⟩
 ·refine⟨trivial,?_,hc.symm⟩
  rw[show i.toNat=p.offers.length by omega]
  unfold GU abV;rw[if_pos hc]
  refine List.map_congr_left fun j hj=>?_
  rw[if_pos (QZ.1 hj).2]
theorem ajQ {p:cn} {l:List Int} (hc:dV p=0):dV (AW p l)=0:=by
 have hn:=ahl hc
 have e:AW p l=aeW p (p.offers.filter fun x=>decide (x∈(rb p l).map (oI p))):=by
  unfold AW aeW
  congr 1
  have e1:p.offers=(pA p.offers.length).map (oI p):=by
   refine List.ext_getElem (by rw[List.length_map,FC]) fun i h1 h2=>?_
   rw[List.getElem_map]
   have:=ajB (d:=0) h1
   rw[jV (by rw[FC];exact h1)] at this
   rw[this];unfold oI;rw[Int.toNat_natCast,jV h1]
  conv=>rhs;rw[e1]
  rw[List.filter_map]
  congr 1
  unfold rb XH
  refine List.filter_congr fun i hi=>?_
  have hi2:=QZ.1 hi
  simp only[Function.comp,decide_eq_decide]
  constructor
  ·intro h
   exact List.mem_map.2 ⟨i,List.mem_filter.2 ⟨hi,decide_eq_true h⟩,rfl⟩
  ·intro h
   obtain⟨j,hj,hji⟩:=List.mem_map.1 h
   rw[List.mem_filter,decide_eq_true_eq] at hj
   have hj2:=QZ.1 hj.1
   have:=aC4 hn (i:=j.toNat) (j:=i.toNat) (by omega) (by omega) hji
   rw[show i=j by omega]
   exact hj.2
 rw[e]
 exact aC1 hc
def pF (p:cn):cn:=AW p (x4 p)
noncomputable def DV (p:cn) (m:Int):List Int:=ek (GU (pF p) m) (-1)
noncomputable def Ks (p:cn) (m:Int):cn:=if dV p=0 then AW (pF p) (DV p m) else ajP
noncomputable def zy (p:cn) (m:Int):List Int:=if dV p=0 then(rb (pF p) (DV p m)).map (fun i=>bo (rb p (x4 p)) i.toNat 0) else[]
theorem amG {p:cn} {l:List Int}:(rb p l).Pairwise (·<·):=af8.sublist List.filter_sublist
theorem afc {p:cn} {l:List Int} {x:Int}:x∈rb p l↔(0<=x/\x<p.offers.length)/\x∉l:=by
 unfold rb XH;rw[List.mem_filter,QZ,decide_eq_true_eq]
theorem aGq {p:cn}:(x4 p).Pairwise (·<·):=af8.sublist List.filter_sublist
theorem aGr {p:cn} {m:Int} (hc:dV p=0):(GU p m).length=p.offers.length:=by
 unfold GU;rw[if_pos hc,List.length_map,FC]
noncomputable def amH:fN:=⟨27,cn×Int,.cons ql (.one (sj .i64)),fun a=> -9223372036854775808<=a.2/\a.2<=9223372036854775807,fun a=> .eW [.agg (Ks a.1 a.2).ss,.row (.i .i64) (zy a.1 a.2),.si .i64 (dV a.1)]⟩
def axG:cC:=.cells [.il .i64 0,.il .i64 0,.il .i64 0,.il .i64 0,.il .i64 0,.il .i64 0,.il .i64 0,.il .i64 0,.il .i64 0,.il .i64 0,.il .i64 0,.il .i64 0,.il .i64 0,.il .i64 0,.il .i64 0,.il .i64 0,.il .i64 0,.il .i64 0,.sc (.slice none 0 0),.sc (.slice none 0 0)] 27 20 false
noncomputable def aGs (p:cn) (m:Int):Nat->jW
 |10=> .inv Int (fun i=>⟨[(4,.ptr 1 0 20),(8,.ptr 2 0 20),(9,.row (.i .i64) (rb p (x4 p))),(12,.ow 3 (ek ((GU (pF p) m).take i.toNat) (-1)).length 1),(43,.row (.i .i64) (GU (pF p) m)),(44,.si .i64 (GU (pF p) m).length),(45,.si .i64 i)],[.cells p.ss 27 20 false,axG,.cells (pF p).ss 27 20 false,.row (.i .i64) (ek ((GU (pF p) m).take i.toNat) (-1)) 3 true]⟩)
   (fun s=>iS s 45) (fun i=>0<=i/\i<=(GU (pF p) m).length) (fun i=>((GU (pF p) m).length - i).toNat) fun _ _=> .look
 |18=> .inv Int (fun i=>⟨[(4,.ptr 1 0 20),(9,.row (.i .i64) (rb p (x4 p))),(15,.ptr 4 0 20),(17,.ow 5 (((rb (pF p) (DV p m)).take i.toNat).map (fun i=>bo (rb p (x4 p)) i.toNat 0)).length 1),(63,.row (.i .i64) (rb (pF p) (DV p m))),(64,.si .i64 (rb (pF p) (DV p m)).length),(65,.si .i64 i)],[.cells p.ss 27 20 false,axG,.cells (pF p).ss 27 20 false,.dead,.cells (AW (pF p) (DV p m)).ss 27 20 false,.row (.i .i64) (((rb (pF p) (DV p m)).take i.toNat).map (fun i=>bo (rb p (x4 p)) i.toNat 0)) 3 true]⟩)
   (fun s=>iS s 65) (fun i=>0<=i/\i<=(rb (pF p) (DV p m)).length) (fun i=>((rb (pF p) (DV p m)).length - i).toNat) fun _ _=> .look
 |_=> .look
theorem h384:Holds Tryz.prog amH:=by
 refine lj (L:=[r79,amB,amD,amE]) amH (fun a=>aGs a.1 a.2) (by simpa using⟨h79,h386,h388,h383⟩) ?_
 rintro⟨p,m⟩ ⟨m0,m1⟩
 simp only at m0 m1
 refine gw (let a:=SV.si .i64;let b:=SV.row;let c:=(0:Int);let d:=cC.cells;let e:=cC.row;let f:=(-1:Int);let g:=SV.ow;let h:=SV.ptr;let j:=SV.agg;let k:=SV.eW;let l:=SV.il .i64 0;let n:=bD.i .i64;let Y:=b n [];let C:=(Ks p m).supply;let D:=(Ks p m).opn;let E:=(Ks p m).cls;let ac:=k [j [a C.a0,a C.a1,a C.a2,a C.a3,a C.a4,a C.a5,a D.a0,a D.a1,a D.a2,a D.a3,a D.a4,a D.a5,a E.a0,a E.a1,a E.a2,a E.a3,a E.a4,a E.a5,b n (Ks p m).classes,b bD.off (Ks p m).offers],b n (zy p m),a (dV p)];let o:=AW p (x4 p);let s:=h 1 0 20;let V:=h 2 0 20;let q:=rb p (x4 p);let z:=GU (pF p) m;let Z:=b n z;let t:=(↑z.length:Int);let a6:=a t;let v:=d [a p.supply.a0,a p.supply.a1,a p.supply.a2,a p.supply.a3,a p.supply.a4,a p.supply.a5,a p.opn.a0,a p.opn.a1,a p.opn.a2,a p.opn.a3,a p.opn.a4,a p.opn.a5,a p.cls.a0,a p.cls.a1,a p.cls.a2,a p.cls.a3,a p.cls.a4,a p.cls.a5,b n p.classes,b bD.off p.offers] 27 20 false;let ad:=SV.sc (Value.slice none 0 0);let w:=d [l,l,l,l,l,l,l,l,l,l,l,l,l,l,l,l,l,l,ad,ad] 27 20 false;let F:=o.supply;let G:=(pF p).supply;let H:=(pF p).opn;let I:=(pF p).cls;let A:=d [a G.a0,a G.a1,a G.a2,a G.a3,a G.a4,a G.a5,a H.a0,a H.a1,a H.a2,a H.a3,a H.a4,a H.a5,a I.a0,a I.a1,a I.a2,a I.a3,a I.a4,a I.a5,b n (pF p).classes,b bD.off (pF p).offers] 27 20 false;let a7:=e n [] 3 true;let W:=h 4 0 20;let ae:=g 5 0 1;let B:=rb (pF p) (DV p m);let a8:=b n B;let y:=(↑B.length:Int);let a9:=a y;let R:=AW (pF p) (DV p m);let J:=R.supply;let K:=R.opn;let L:=R.cls;let af:=[a J.a0,a J.a1,a J.a2,a J.a3,a J.a4,a J.a5,a K.a0,a K.a1,a K.a2,a K.a3,a K.a4,a K.a5,a L.a0,a L.a1,a L.a2,a L.a3,a L.a4,a L.a5,b n R.classes,b bD.off R.offers];let aa:=d af 27 20 false;let ag:=fun(u:cn) ↦decide (dV u≠c)=true->(k [j [l,l,l,l,l,l,l,l,l,l,l,l,l,l,l,l,l,l,Y,Y],Y,a (dV u)]).same ac;True/\ag p/\(decide (dV p≠c)=false->p.offers.length<=1000/\((p.offers.length<=1000/\p.classes.length<=1000)/\(x4 p).length<=1000000000000/\List.Pairwise (fun(x1 x2:Int) ↦x1<x2) (x4 p))/\((-9223372036854775808:Int)<=m/\m<=(9223372036854775807:Int))/\ag o/\(decide (dV o≠c)=false->(((s.same s/\V.same V/\(b n q).same (b n q)/\(g 3 0 1).same (g 3 (ek [] f).length 1)/\(b n (GU o m)).same Z/\(a (↑(GU o m).length:Int)).same a6/\l.same (a 0)/\True)/\v.same v/\w.same w/\(d [a F.a0,a F.a1,a F.a2,a F.a3,a F.a4,a F.a5,a o.opn.a0,a o.opn.a1,a o.opn.a2,a o.opn.a3,a o.opn.a4,a o.opn.a5,a o.cls.a0,a o.cls.a1,a o.cls.a2,a o.cls.a3,a o.cls.a4,a o.cls.a5,b n o.classes,b bD.off o.offers] 27 20 false).same A/\a7.same (e n (ek [] f) 3 true)/\True)/\c<=c/\c<=t)/\∀(x:Int),let M:=x+(1:Int);let ah:=ek (List.take M.toNat z) f;let ai:=a M;let aj:=decide (bo z x.toNat c=f);let r:=ek (List.take x.toNat z) f;let ak:=r.length+1;let S:=AW (pF p) r;let N:=S.supply;let O:=S.opn;let P:=S.cls;let al:=fun(u:Nat) (u_1:cC) ↦iR .i64 M/\((s.same s/\V.same V/\(b n q).same (b n q)/\(g 3 u 1).same (g 3 ah.length 1)/\Z.same Z/\a6.same a6/\ai.same ai/\True)/\v.same v/\w.same w/\A.same A/\u_1.same (e n ah 3 true)/\True)/\(c<=M/\M<=t)/\(t - M).toNat<(t - x).toNat;c<=x/\x<=t->(decide (x<t)=true->c<=x/\x<(↑z.length:Int)/\x.toNat<z.length/\(aj=true->r.length=r.length/\ak*8<=140737488355328/\ak<=1000000000000/\al (r++[x]).length (e n (r++[x]) 3 true))/\(aj=false->al r.length (e n r 3 true)))/\(decide (x<t)=false->r.length=r.length/\(((pF p).offers.length<=1000/\(pF p).classes.length<=1000)/\r.length<=1000000000000/\List.Pairwise (fun(x1 x2:Int) ↦x1<x2) r)/\(((s.same s/\(b n q).same (b n q)/\W.same W/\ae.same ae/\(b n (rb (pF p) r)).same a8/\(a (↑(rb (pF p) r).length:Int)).same a9/\l.same (a 0)/\True)/\v.same v/\w.same w/\A.same A/\cC.dead.same cC.dead/\(d [a N.a0,a N.a1,a N.a2,a N.a3,a N.a4,a N.a5,a O.a0,a O.a1,a O.a2,a O.a3,a O.a4,a O.a5,a P.a0,a P.a1,a P.a2,a P.a3,a P.a4,a P.a5,b n S.classes,b bD.off S.offers] 27 20 false).same aa/\a7.same a7/\True)/\c<=c/\c<=y)/\∀(x:Int),let X:=bo B x.toNat c;let ab:=List.take x.toNat B;let U:=List.map (fun(i:Int) ↦bo q i.toNat (0:n.T)) ab;let am:=U.length+1;let Q:=x+(1:Int);let an:=U++[bo q X.toNat c];let ao:=List.take Q.toNat B;let ap:=a Q;c<=x/\x<=y->(decide (x<y)=true->c<=x/\x<(↑B.length:Int)/\x.toNat<B.length/\c<=X/\X<(↑q.length:Int)/\X.toNat<q.length/\(List.map (fun(i:Int) ↦bo q i.toNat c) ab).length=U.length/\am*8<=140737488355328/\am<=1000000000000/\iR .i64 Q/\((s.same s/\(b n q).same (b n q)/\W.same W/\(g 5 an.length 1).same (g 5 (List.map (fun(i:Int) ↦bo q i.toNat c) ao).length 1)/\a8.same a8/\a9.same a9/\ap.same ap/\True)/\v.same v/\w.same w/\A.same A/\cC.dead.same cC.dead/\aa.same aa/\(e n an 3 true).same (e n (List.map (fun(i:Int) ↦bo q i.toNat (0:n.T)) ao) 3 true)/\True)/\(c<=Q/\Q<=y)/\(y - Q).toNat<(y - x).toNat)/\(decide (x<y)=false->(List.map (fun(i:Int) ↦bo q i.toNat c) ab).length=U.length/\(k [j af,b n U,l]).same ac))))) (by kernel_rfl) ?_
 simp only[vcs]
 refine⟨fun h=>?_,fun h=>?_⟩
 ·have e1:Ks p m=ajP:=by unfold Ks;rw[if_neg h]
  have e2:zy p m=[]:=by unfold zy;rw[if_neg h]
  rw[e1,e2]
  exact⟨rfl,rfl⟩
 have hc:dV p=0:=Classical.not_not.1 h
 have hg:=pz hc
 have hq:dV (pF p)=0:=ajQ hc
 have hgq:=pz hq
 have hdl:=@axD p p.offers.length
 have hrq:AW p (x4 p)=pF p:=rfl
 have hfl:=@aGr (pF p) m hq
 have hu:DV p m=ek (GU (pF p) m) (-1):=rfl
 have hul:=@afb (GU (pF p) m) (-1)
 have hkl:=@axE (pF p) (DV p m) (pF p).offers.length
 have hkq:XH (pF p) (DV p m) (pF p).offers.length=rb (pF p) (DV p m):=rfl
 have hql:(pF p).offers.length=(rb p (x4 p)).length:=List.length_map _
 have h1:=hg.1
 have h2:=hg.2.1
 have h3:=hgq.1
 have h4:=hgq.2.1
 have hw3:∀{a b:Nat},a=b->(SV.ow 3 a 1).same (SV.ow 3 b 1):=by rintro _ _ rfl;rfl
 have hw5:∀{a b:Nat},a=b->(SV.ow 5 a 1).same (SV.ow 5 b 1):=by rintro _ _ rfl;rfl
 have XC:∀{x y:List Int},x=y->(cC.row (.i .i64) x 3 true).same (cC.row (.i .i64) y 3 true):=by rintro _ _ rfl;rfl
 simp only[hrq,hq];rw[hkq] at hkl;unfold x4 at hdl
 refine⟨by omega,⟨⟨by omega,by omega⟩,by show(aa6 p p.offers.length).length<=_;omega,aGq⟩,⟨m0,m1⟩,fun h=>absurd rfl h,fun _=>⟨⟨⟨⟨hw3 rfl,trivial,trivial⟩,rfl,XC rfl⟩,by omega,by omega⟩,?_⟩⟩
 rintro i ⟨i0,i1⟩
 have hdt:=@afb ((GU (pF p) m).take i.toNat) (-1)
 have htl:((GU (pF p) m).take i.toNat).length<=160:=by rw[List.length_take];omega
 refine⟨fun hi=>?_,fun hi=>?_⟩
 ·have hs:=@amt (GU (pF p) m) (-1) i i0 hi
  refine⟨i0,hi,by omega,fun h5=>?_,fun h5=>?_⟩
  ·rw[if_pos h5] at hs
   rw[<-hs]
   exact⟨by omega,by omega,by omega,⟨hw3 rfl,XC rfl⟩,by omega,by omega⟩
  ·rw[if_neg h5,List.append_nil] at hs
   rw[hs]
   exact⟨by omega,⟨hw3 rfl,XC rfl⟩,by omega,by omega⟩
 ·rw[aFP (by omega),<-hu] at*
  refine⟨⟨⟨by omega,by omega⟩,by omega,adI⟩,⟨⟨⟨by first|trivial|rfl,by first|trivial|rfl⟩,rfl⟩,by omega,by omega⟩,?_⟩
  rintro j ⟨j0,j1⟩
  have hml:(List.map (fun i:Int=>bo (rb p (x4 p)) i.toNat 0) (List.take j.toNat (rb (pF p) (DV p m)))).length<=160:=by rw[List.length_map,List.length_take];omega
  refine⟨fun hj=>?_,fun hj=>?_⟩
  ·have hk:=(afc.1 (nA (d:=0) (show j.toNat<(rb (pF p) (DV p m)).length by omega))).1
   have e:List.map (fun i:Int=>bo (rb p (x4 p)) i.toNat 0) (List.take j.toNat (rb (pF p) (DV p m)))++[bo (rb p (x4 p)) (bo (rb (pF p) (DV p m)) j.toNat 0).toNat 0]=List.map (fun i:Int=>bo (rb p (x4 p)) i.toNat 0) (List.take (j+1).toNat (rb (pF p) (DV p m))):=by
    rw[aal (d:=0) j0 hj,List.map_append];rfl
   rw[e]
   exact⟨j0,hj,by omega,hk.1,by omega,by omega,by omega,by omega,by omega,⟨hw5 rfl,XC rfl⟩,by omega,by omega⟩
  ·have e1:Ks p m=AW (pF p) (DV p m):=by unfold Ks;rw[if_pos hc]
   have e2:zy p m=(rb (pF p) (DV p m)).map (fun i=>bo (rb p (x4 p)) i.toNat 0):=by unfold zy;rw[if_pos hc]
   rw[e1,e2,List.take_of_length_le (by omega)]
   exact⟨rfl,rfl,hc.symm⟩
theorem ajR {p:cn} {i d:Int} {q:Rat} (N:Nat) (h:uy (nF (A6 p i d)) (mF p) N (od p (A6 p i d))=true):W1 p i d q=(decide (Ig p (A6 p i d)=0)&&(!FQ p (A6 p i d)||decide (((RR p (A6 p i d):Int):Rat)+(runT (nF (A6 p i d)) (mF p) N (od p (A6 p i d))).value<q))):=by
 unfold W1 GI uz;rw[ajA h]
theorem axI:GU three 12=[-1,1,1]:=by
 have hc:dV three=0:=by kernel_rfl
 have m0:W1 three 0 1 ((12:Int):Rat)=true:=by rw[ajR 6 (by kernel_rfl)];kernel_rfl
 have m1:W1 three 1 1 ((12:Int):Rat)=false:=by rw[ajR 6 (by kernel_rfl)];kernel_rfl
 have m1':W1 three 1 (-1) ((12:Int):Rat)=true:=by rw[ajR 6 (by kernel_rfl)];kernel_rfl
 have m2:W1 three 2 1 ((12:Int):Rat)=false:=by rw[ajR 6 (by kernel_rfl)];kernel_rfl
 have m2':W1 three 2 (-1) ((12:Int):Rat)=true:=by rw[ajR 6 (by kernel_rfl)];kernel_rfl
 unfold GU;rw[if_pos hc]
 show[Zd three ((12:Int):Rat) 0,Zd three ((12:Int):Rat) 1,Zd three ((12:Int):Rat) 2]=_
 unfold Zd;rw[m0,m1,m1',m2,m2'];rfl
def aqS:fN:=⟨29,Unit,.nil,fun _=>True,fun _=>ql.put three⟩
theorem h385:Holds Tryz.prog aqS:=by
 refine lj (L:=[]) aqS lk (by simp) ?_
 intro _ _
 refine gw (let a:=SV.si .i64;let b:=(0:Int);let c:=(1:Int);let d:=SV.row;let g:=SV.il .i64 1;let e:=SV.il .i64 0;let f:=three.supply;(SV.agg [g,g,e,e,e,e,g,g,e,e,e,e,e,e,e,e,e,e,d (bD.i .i64) [b,b,b],d bD.off [Off.mk b (dp.mk c c b b b b) (10:Int),Off.mk c (dp.mk c b b b b b) (6:Int),Off.mk (2:Int) (dp.mk b c b b b b) (6:Int)]]).same (SV.agg [a f.a0,a f.a1,a f.a2,a f.a3,a f.a4,a f.a5,a three.opn.a0,a three.opn.a1,a three.opn.a2,a three.opn.a3,a three.opn.a4,a three.opn.a5,a three.cls.a0,a three.cls.a1,a three.cls.a2,a three.cls.a3,a three.cls.a4,a three.cls.a5,d (bD.i .i64) three.classes,d bD.off three.offers])) (by kernel_rfl) ?_
 conv=>zeta
 rfl
def aqT:fN:=⟨10,Unit,.nil,fun _=>True,fun _=> .sb true⟩
theorem h376:Holds Tryz.prog aqT:=by
 refine lj (L:=[aqS,amE,amH,aqJ,aqO,r32]) aqT lk (by simpa using⟨h385,h383,h384,h377,h379,h32⟩) ?_
 intro _ _
 refine gw (let a:=(0:Int);let b:=SV.bl false;let c:=(1:Int);let d:=SV.sb;let e:=(-9223372036854775808:Int);let f:=(12:Int);let g:=(9223372036854775807:Int);let h:=(2:Int);let i:=(3:Int);let j:=GU three f;let k:=decide (bo j 0 a=(-1:Int));let l:=decide (bo j 1 a=c);let m:=decide (bo j 2 a=c);let n:=decide ((↑(Ks three f).offers.length:Int)=h);let o:=zy three f;let p:=decide (cmpL o [c,h]=a);True/\(e<=f/\f<=g)/\True/\(e<=f/\f<=g)/\True/\True/\True/\1<=1000000000000/\(true=true->(true=true->a<=a/\a<i/\0<j.length/\(k=true->a<=c/\c<i/\1<j.length/\(l=true->a<=h/\h<i/\2<j.length/\(m=true->(true=true->(n=true->(o.length<=1000000000000/\2<=1000000000000)/\(p=true->(true=true->((x4 (cn.mk three.supply three.opn three.cls three.classes [Off.mk a (dp.mk c a a a a a) (5:Int),Off.mk a (dp.mk c c a a a a) (4:Int)])).length<=1000000000000/\1<=1000000000000)/\(true=true->(true=true->((rb three [c]).length<=1000000000000/\2<=1000000000000)/\(d true).same (d true))/\(true=false->(b).same (d true)))/\(true=false->(b).same (d true)))/\(true=false->(b).same (d true)))/\(p=false->(b).same (d true)))/\(n=false->(b).same (d true)))/\(true=false->(b).same (d true)))/\(m=false->(b).same (d true)))/\(l=false->(b).same (d true)))/\(k=false->(b).same (d true)))/\(true=false->(b).same (d true)))/\(true=false->(b).same (d true))) (by kernel_rfl) ?_
 simp only[vcs]
 have hc:dV three=0:=by kernel_rfl
 have q1:pF three=three:=by kernel_rfl
 have u1:DV three 12=[0]:=by unfold DV;rw[q1,axI];kernel_rfl
 have e1:Ks three 12=AW three [0]:=by unfold Ks;rw[if_pos hc,q1,u1]
 have e2:zy three 12=[1,2]:=by unfold zy;rw[if_pos hc,q1,u1];kernel_rfl
 have e3:(AW three [0]).offers.length=2:=by kernel_rfl
 have d1:dV ⟨three.supply,three.opn,three.cls,three.classes,[⟨0,⟨1,0,0,0,0,0⟩,5⟩,⟨0,⟨1,1,0,0,0,0⟩,4⟩]⟩=0:=by kernel_rfl
 have d2:x4 ⟨three.supply,three.opn,three.cls,three.classes,[⟨0,⟨1,0,0,0,0,0⟩,5⟩,⟨0,⟨1,1,0,0,0,0⟩,4⟩]⟩=[1]:=by kernel_rfl
 have r1:abU three [1]=0:=by kernel_rfl
 have r2:rb three [1]=[0,2]:=by kernel_rfl
 have c1:cmpL [1,2] [1,2]=0:=by decide
 have c2:cmpL [1] [1]=0:=by decide
 have c3:cmpL [0,2] [0,2]=0:=by decide
 have n0:bo [(-1:Int),1,1] 0 0= -1:=rfl
 have n1:bo [(-1:Int),1,1] 1 0=1:=rfl
 have n2:bo [(-1:Int),1,1] 2 0=1:=rfl
 simp only[axI,e1,e2,e3,hc,d1,d2,r1,r2,c1,c2,c3,n0,n1,n2,if_true]
 simp
theorem ajS:∀{l m:List Int},l.Pairwise (·<·)->m.Pairwise (·<·)->(∀x,x∈l↔x∈m)->l=m
 |[],[],_,_,_=>rfl
 |[],y::m,_,_,h=>by have:=(h y).2 (by simp);simp at this
 |x::l,[],_,_,h=>by have:=(h x).1 (by simp);simp at this
 |x::l,y::m,hl,hm,h=>by
  rw[List.pairwise_cons] at hl hm
  have e:x=y:=by
   rcases List.mem_cons.1 ((h x).1 (by simp)) with h1|h1
   ·exact h1
   ·rcases List.mem_cons.1 ((h y).2 (by simp)) with h2|h2
    ·exact h2.symm
    ·have:=hl.1 y h2;have:=hm.1 x h1;omega
  subst e
  congr 1
  refine ajS hl.2 hm.2 fun z=>?_
  constructor
  ·intro hz
   rcases List.mem_cons.1 ((h z).1 (List.mem_cons_of_mem _ hz)) with h1|h1
   ·have:=hl.1 z hz;omega
   ·exact h1
  ·intro hz
   rcases List.mem_cons.1 ((h z).2 (List.mem_cons_of_mem _ hz)) with h1|h1
   ·have:=hm.1 z hz;omega
   ·exact h1
theorem aqU {t:List Int} {g:Int->Int}:∀{l:List Int},((l.filter fun x=>decide (x∈t)).map g).sum=(l.map fun x=>if x∈t then g x else 0).sum
 |[]=>rfl
 |x::l=>by
  simp only[List.filter_cons,List.map_cons,List.sum_cons]
  by_cases h:x∈t
  ·rw[if_pos (decide_eq_true h),if_pos h,List.map_cons,List.sum_cons,aqU]
  ·rw[if_neg (by simpa using h),if_neg h,aqU]
   omega
theorem aqV {t:List Int} {g:Int->Int}:∀{l:List Int},aaZ (fun x=>((g x:Int):Rat)*(if x∈t then 1 else 0)) l=(((l.map fun x=>if x∈t then g x else 0).sum:Int):Rat)
 |[]=>rfl
 |x::l=>by
  have:=@aqV t g l
  simp only[aaZ,this,List.map_cons,List.sum_cons,Rat.intCast_add]
  congr 1
  split<;>simp_all
theorem aqW {p:cn}:∀{l:List Int},jd (l.map (oI p))=(l.map fun i=>(oI p i).value).sum
 |[]=>rfl
 |x::l=>by
  have:=@aqW p l
  grind[jd]
section
variable {p:cn} {f t:List Int}
theorem axJ (k:Ie f=true) (u:f.length=p.offers.length) (e:vd p.offers.length t) (j:∀i∈t,bo f i.toNat 0≠ -1) (r:∀i∈ek f 1,i∈t) (g:Int->Int):
  (t.map g).sum=((ek f 1).map g).sum+((ek f 0).map fun x=>if x∈t then g x else 0).sum:=by
 have l:t.Perm (ek f 1++(ek f 0).filter fun x=>decide (x∈t)):=by
  refine(List.perm_ext_iff_of_nodup (al9 e) ?_).2 fun x=>?_
  ·rw[List.nodup_append]
   refine⟨adI.imp fun h=>by omega,(adI.sublist List.filter_sublist).imp fun h=>by omega,fun a s b o m=>?_⟩
   grind[SR]
  ·rw[List.mem_append,List.mem_filter,decide_eq_true_eq]
   constructor
   ·intro c
    have v:=e.2 x c
    have q:=j x c
    have n:=List.all_eq_true.1 k _ (nA (d:=0) (show x.toNat<f.length by omega))
    simp only[Bool.and_eq_true,decide_eq_true_eq] at n
    grind[SR]
   grind
 rw[awr (l.map g),List.map_append,List.sum_append,aqU]
theorem agp (l:List Int) (r:Int):lT p (l.map (oI p)) r=(l.map fun i=>uu p r (oI p i)).sum:=by
 unfold lT;rw[List.map_map];rfl
theorem weak (h:FG p f) (s:Ie f=true) (z:vd p.offers.length t) (a:yx p (t.map (oI p))=true) (u:∀i∈t,bo f i.toNat 0≠ -1) (A:∀i∈ek f 1,i∈t):((jd (t.map (oI p)):Int):Rat)<=GI p f:=by
 obtain⟨l,E,r⟩:=adJ h
 have d:∀g:Int->Int,ju (nF f) (fun j=>((g (bo (ek f 0) j 0):Int):Rat)*(if bo (ek f 0) j 0∈t then(1:Rat) else 0))=(((t.map g).sum - ((ek f 1).map g).sum:Int):Rat):=fun g=>by
  have e:=@agh (fun x=>((g x:Int):Rat)*(if x∈t then(1:Rat) else 0)) (ek f 0)
  rw[aqV] at e;rw[axJ s h.2.1 z u A g]
  grind
 have q:=asg_holds (n:=nF f) (m:=mF p) (t:=od p f) ac1 ajE (y:=fun j=>if bo (ek f 0) j 0∈t then(1:Rat) else 0)
 have B:(od p f).value+ju (nF f) (fun j=>(od p f).cs j*(if bo (ek f 0) j 0∈t then(1:Rat) else 0))=((jd (t.map (oI p)) - RR p f:Int):Rat):=by
  grind[od,sd,amj,RR,aqW]
 rw[B] at q
 have o:∀v∈(od p f).basic++(od p f).free,0<=Qk (nF f) (od p f) (fun j=>if bo (ek f 0) j 0∈t then(1:Rat) else 0) v:=fun v b=>by
  rcases List.mem_append.1 b with b|b
  ·obtain⟨i,k,rfl⟩:=ahO ac1 b
   rw[abQ ac1 ajE k,ajD k,sd (g:=fun j=>((uu p i (oI p (bo (ek f 0) j 0)):Int):Rat)*(if bo (ek f 0) j 0∈t then(1:Rat) else 0)) fun j c=>by rw[ajC k c],d fun x=>uu p i (oI p x),<-agp,<-agp]
   have C:=abk.1 a i (by grind[nq])
   have w:0<=(pg p i - lT p ((ek f 1).map (oI p)) i) - (lT p (t.map (oI p)) i - lT p ((ek f 1).map (oI p)) i):=by omega
   have D:=amn w
   simp_all
  grind[ahN,ac1,abt,ajE]
 have:=l.best r q fun j c=>o _ (l.perm.mem_iff.1 (List.mem_append_right _ (ahM l.wf c)))
 grind[GI]
end
theorem ajT {p:cn} {i d:Int}:(A6 p i d).length=p.offers.length:=by unfold A6;rw[List.length_set,List.length_replicate]
theorem ahY {p:cn} {i d:Int} {k:Nat} (hi:0<=i/\i<p.offers.length) (hk:k<p.offers.length):bo (A6 p i d) k 0=if(k:Int)=i then d else 0:=by
 unfold A6
 rw[adH (by rw[List.length_replicate];omega)]
 by_cases h:(k:Int)=i
 ·rw[if_pos (by omega),if_pos h]
 ·rw[if_neg (by omega),if_neg h,jV (by rw[List.length_replicate];exact hk),List.getElem_replicate]
theorem aGw {p:cn} {i d:Int} (hi:0<=i/\i<p.offers.length) (hd: -1<=d/\d<=1):Ie (A6 p i d)=true:=by
 unfold Ie;rw[List.all_eq_true];intro x hx
 obtain⟨k,hk,rfl⟩:=List.getElem_of_mem hx
 rw[ajT] at hk
 have:=@ahY p i d k hi hk
 rw[jV (by rw[ajT];exact hk)] at this
 rw[this];simp only[Bool.and_eq_true,decide_eq_true_eq]
 split<;>omega
theorem axK {p:cn} {i:Int} (hi:0<=i/\i<p.offers.length):ek (A6 p i 1) 1=[i]:=by
 refine ajS adI (by simp) fun x=>?_
 rw[SR,ajT,List.mem_singleton]
 constructor
 ·rintro⟨h1,h2⟩
  rw[ahY hi (by omega)] at h2
  by_cases h:((x.toNat:Nat):Int)=i
  ·omega
  ·rw[if_neg h] at h2;omega
 ·rintro rfl
  exact⟨hi,by rw[ahY hi (by omega),if_pos (by omega)]⟩
theorem axL {p:cn} {i:Int} (hi:0<=i/\i<p.offers.length):ek (A6 p i (-1)) 1=[]:=by
 refine ajS adI (by simp) fun x=>?_
 rw[SR,ajT]
 constructor
 ·rintro⟨h1,h2⟩
  rw[ahY hi (by omega)] at h2
  split at h2<;>omega
 ·intro h;simp at h
theorem aGx {p:cn} (hc:dV p=0):yx p []=true:=abk.2 fun r _=>by
 have:=@ajp p hc r
 simp[lT]
 omega
theorem aGy {p:cn} {i d m:Int} {t:List Int} (hc:dV p=0) (hi:0<=i/\i<p.offers.length) (hd:d=1\/d= -1) (hm:W1 p i d (m:Rat)=true) (ht:lF p t=0) (hv:m<=nD p t):if d=1 then i∉t else i∈t:=by
 have hF:=(abM hc).1 ht
 obtain⟨_,ha⟩:=adG ht
 have hfit:yx p (t.map (oI p))=true:=by
  have h1:=ht
  unfold lF at h1
  rw[if_neg (by simp[hc])] at h1
  split at h1
  ·cases h1
  ·split at h1
   ·cases h1
   ·rename_i h2
    have e2:nn p t=t.map (oI p):=by unfold nn;rw[ahH ha];rfl
    rw[<-e2]
    simpa using h2
 have hvs:nD p t=jd (t.map (oI p)):=by
  unfold nD;rw[if_pos hc]
  have e2:nn p t=t.map (oI p):=by unfold nn;rw[ahH ha];rfl
  rw[e2]
 have hfx:DU p (A6 p i d)=true:=by
  unfold DU
  rcases hd with rfl|rfl
  ·rw[axK hi]
   exact(aiU ((aec hc).2 _ (nA (show i.toNat<p.offers.length by omega)))).2.2
  ·rw[axL hi]
   exact aGx hc
 have hrg:Ie (A6 p i d)=true:=aGw hi (by omega)
 have hx0:Ig p (A6 p i d)=0:=by
  unfold Ig
  rw[if_neg (by simp[hc]),if_neg (by rw[ajT];simp),if_pos hrg]
 have hok:FQ p (A6 p i d)=true:=by unfold FQ;rw[hx0,hfx];rfl
 have hlt:GI p (A6 p i d)<(m:Rat):=by
  unfold W1 at hm;rw[hok] at hm;simp only[Bool.and_eq_true,Bool.not_true,Bool.false_or,decide_eq_true_eq] at hm;exact hm.2
 have hmv:(m:Rat)<=((jd (t.map (oI p)):Int):Rat):=by
  rw[<-hvs]
  exact_mod_cast hv
 have bad:(∀x∈t,bo (A6 p i d) x.toNat 0≠ -1)->(∀x∈ek (A6 p i d) 1,x∈t)->False:=fun c1 c2=>by
  have:=weak (axF hok) hrg ha hfit c1 c2
  grind
 rcases hd with rfl|rfl
 ·rw[if_pos rfl]
  intro hit
  refine bad (fun x hx=>?_) fun x hx=>?_
  ·have:=ha.2 x hx
   rw[ahY hi (by omega)]
   split<;>omega
  ·rw[axK hi,List.mem_singleton] at hx
   rw[hx];exact hit
 ·rw[if_neg (by omega)]
  apply Classical.byContradiction
  intro hit
  refine bad (fun x hx=>?_) fun x hx=>?_
  ·have h1:=ha.2 x hx
   rw[ahY hi (by omega),if_neg]
   ·omega
   ·intro h2
    have:x=i:=by omega
    rw[this] at hx
    exact hit hx
  ·rw[axL hi] at hx
   simp at hx
def ahZ (p:cn) (n:Int):Bool:=decide ((p.classes.length:Int)<=8)&&(decide ((p.offers.length:Int)<=n)&&decide (dV p=0))
def aqX:fN:=⟨25,cn,.one ql,fun _=>True,fun p=> .sb (ahZ p 9)⟩
theorem h382:Holds Tryz.prog aqX:=by
 refine lj (L:=[r24]) aqX lk (by simpa using h24) ?_
 rintro(p:cn) -
 refine gw (let a:=SV.bl false;let c:=decide ((↑p.classes.length:Int)<=(8:Int));let d:=decide ((↑p.offers.length:Int)<=(9:Int));let b:=SV.sb (ahZ p (9:Int));(c=true->(d=true->True/\(SV.sb (decide (dV p=(0:Int)))).same b)/\(d=false->(a).same b))/\(c=false->(a).same b)) (by kernel_rfl) ?_
 simp only[vcs,ahZ]
 by_cases h1:(p.classes.length:Int)<=8<;>by_cases h2:(p.offers.length:Int)<=9<;>simp[h1,h2]
def agq (w:List Int) (n:Nat):List Int:=(pA n).filter fun k=>decide (k∉w)
section
variable {p:cn} {m:Int}
theorem axM:(pF p).offers.length=(rb p (x4 p)).length:=List.length_map _
theorem aqY (hc:dV p=0):vd p.offers.length (zy p m):=by
 unfold zy;rw[if_pos hc]
 have hin:∀k∈rb (pF p) (DV p m),0<=k/\k<(rb p (x4 p)).length:=fun k hk=>by
  have:=(afc.1 hk).1
  rw[axM] at this;exact this
 refine⟨List.pairwise_map.2 (amG.imp_of_mem fun {a b} ha hb hab=>?_),fun x hx=>?_⟩
 ·have h1:=hin a ha
  have h2:=hin b hb
  rw[jV (by omega),jV (by omega)]
  exact List.pairwise_iff_getElem.1 (amG (p:=p) (l:=x4 p)) a.toNat b.toNat (by omega) (by omega) (by omega)
 ·obtain⟨k,hk,rfl⟩:=List.mem_map.1 hx
  have h1:=hin k hk
  exact(afc.1 (nA (d:=0) (show k.toNat<(rb p (x4 p)).length by omega))).1
theorem left_eq (hc:dV p=0):AW p (agq (zy p m) p.offers.length)=Ks p m:=by
 have ha:=aqY (m:=m) hc
 have e:rb p (agq (zy p m) p.offers.length)=zy p m:=by
  refine ajS amG ha.1 fun x=>?_
  rw[afc];unfold agq;rw[List.mem_filter,QZ,decide_eq_true_eq]
  constructor
  ·rintro⟨h1,h2⟩
   exact Classical.byContradiction fun h3=>h2 ⟨h1,h3⟩
  ·intro h
   exact⟨ha.2 x h,fun h2=>h2.2 h⟩
 unfold Ks;rw[if_pos hc]
 show({p with offers:=(rb p (agq (zy p m) p.offers.length)).map (oI p)}:cn)={p with offers:=(rb (pF p) (DV p m)).map (oI (pF p))}
 rw[e]
 congr 1
 unfold zy;rw[if_pos hc,List.map_map]
 refine List.map_congr_left fun k hk=>?_
 have h1:=(afc.1 hk).1
 rw[axM] at h1
 show oI p (bo (rb p (x4 p)) k.toNat 0)=bo ((rb p (x4 p)).map (oI p)) k.toNat bD.off.dflt
 rw[ahS (e:=0) (by omega)]
end
theorem axN {t:Tb} {n j:Nat} (b:j<n):∀{k:Nat},(∀i,i<k->0<=t.bv i)->(∃i,i<k/\t.bv i=j/\bo (AQ t n k) j 0=t.bd i)\/((∀i,i<k->t.bv i≠j)/\bo (AQ t n k) j 0=0)
 |0,_=> .inr ⟨fun i a=>by omega,by
   grind[AQ,jV]⟩
 |k+1,h=>by
  have e:=h k (by omega)
  have d:=@axN t n j b k fun i a=>h i (by omega)
  unfold AQ
  by_cases c:t.bv k<n
  ·rw[if_pos c,adH (by grind[amq])]
   grind
  grind
section
variable {p:cn} {f:List Int}
noncomputable def acu (p:cn) (f:List Int):Int->Rat:=Qk (nF f) (uz p f) fun _=>0
theorem optX_holds (h:FG p f):(od p f).holds (nF f) (mF p) (acu p f) (uz p f).value:=by
 obtain⟨a,_,_⟩:=adJ h
 have b:=asg_holds a.wf a.DT (y:=fun _=>0)
 rw[sd (g:=fun _=>0) fun j _=>by grind,SK] at b
 have c:=(a.sol _ _).1 b
 rwa [show(uz p f).value+0=(uz p f).value by grind] at c
theorem aqZ (h:FG p f) {i:Nat} (b:i<mF p):acu p f ((uz p f).bv i)=(uz p f).bd i:=by
 obtain⟨a,_,_⟩:=adJ h
 unfold acu
 rw[abQ a.wf a.DT b,sd (g:=fun _=>0) fun j _=>by grind,SK]
 grind
theorem aq0 (h:FG p f) {j:Nat} (b:j<nF f):acu p f ((uz p f).fv j)=0:=by
 obtain⟨a,_,_⟩:=adJ h
 unfold acu;rw[abt a.wf a.DT b]
theorem amI (h:FG p f) {v:Int} (a:v∈(od p f).basic++(od p f).free):(∃i,i<mF p/\(uz p f).bv i=v)\/∃j,j<nF f/\(uz p f).fv j=v:=by
 obtain⟨b,_,_⟩:=adJ h
 rw[<-b.perm.mem_iff,List.mem_append] at a
 rcases a with a|a
 ·exact .inl (ahO b.wf a)
 ·exact .inr (ahN b.wf a)
theorem aq1 (h:FG p f) {v:Int} (c:v∈(od p f).basic++(od p f).free):0<=acu p f v:=by
 obtain⟨_,b,_⟩:=adJ h
 rcases amI h c with⟨i,a,rfl⟩|⟨j,d,rfl⟩
 ·rw[aqZ h a]
  exact b i a
 grind[aq0]
theorem aq2 {j:Nat} (a:j<nF f):(j:Int)∈(od p f).basic++(od p f).free:=by
 have:=ahM (n:=nF f) (m:=mF p) (t:=od p f) ac1 a
 grind[amk]
theorem aGz (h:FG p f) {i:Nat} (b:i<mF p):0<=(uz p f).bv i:=by
 obtain⟨a,_,_⟩:=adJ h
 have c:=a.perm.mem_iff.1 (List.mem_append_left _ (ajx a.wf b))
 grind[ahO,ac1,aFl,ahN,amk]
theorem aGA (h:FG p f) {j:Nat} (c:j<nF f):bo (AQ (uz p f) (nF f) (mF p)) j 0=acu p f j:=by
 rcases @axN (uz p f) (nF f) j c (mF p) fun i b=>aGz h b with⟨i,d,a,g⟩|⟨d,a⟩
 ·grind[aqZ]
 ·rw[a]
  rcases amI h (aq2 c) with⟨i,b,e⟩|⟨k,l,e⟩<;>grind[amI,aq2,aq0]
theorem aGB (h:FG p f) {j:Nat} (a:j<nF f):acu p f j<=1:=by
 have:=axg h (optX_holds h) (fun v b=>aq1 h b) a
 grind[amk]
theorem aGC (h:FG p f):(∀i,i<mF p->Sz 1000 ((uz p f).bd i))/\(∀j,j<nF f->Sz 1000 ((uz p f).cs j))/\Sz 1000 (uz p f).value:=have a:=(amm h).sz1 (adJ h).1
 ⟨a.1,a.2.1,a.2.2.1⟩
theorem axO (q:Rat) (h:q=0\/q=1):Sz 1000 q:=by
 have a:Sz 1 q:=by rcases h with rfl|rfl<;>exact⟨by decide,by decide⟩
 exact a.mono (by omega)
theorem aGD (h:FG p f) {v:Int} (a:v∈(od p f).basic++(od p f).free):Sz 1000 (acu p f v):=by
 grind[amI,aqZ,aGC,aq0,axO]
noncomputable def oC (p:cn) (f:List Int):List Rat:=Qp p f (nF f)
theorem adM:(oC p f).length=f.length:=ahX
theorem ajU (h:FG p f) (c:Ie f=true) {i:Nat} (b:i<f.length):(bo f i 0=1/\bo (oC p f) i 0=1)\/(bo f i 0= -1/\bo (oC p f) i 0=0)\/(bo f i 0=0/\(i:Int)∈ek f 0/\(ek f 0).idxOf (i:Int)<nF f/\bo (oC p f) i 0=acu p f ((ek f 0).idxOf (i:Int))):=by
 have g:=List.all_eq_true.1 c _ (nA (d:=0) b)
 simp only[Bool.and_eq_true,decide_eq_true_eq] at g;unfold oC;rw[amv b,List.take_length]
 rcases(show bo f i 0=1\/bo f i 0= -1\/bo f i 0=0 by omega) with a|a|a
 ·simp_all
 ·simp_all[SR]
 ·have e:(i:Int)∈ek f 0:=SR.2 ⟨by omega,by simp_all⟩
  have j:(ek f 0).idxOf (i:Int)<nF f:=List.idxOf_lt_length_of_mem e
  simp_all[aGA]
theorem amJ (h:FG p f) (a:Ie f=true) {i:Nat} (b:i<f.length):0<=bo (oC p f) i 0/\bo (oC p f) i 0<=1/\Sz 1000 (bo (oC p f) i 0):=by
 rcases ajU h a b with⟨_,e⟩|⟨_,e⟩|⟨_,_,c,e⟩
 all_goals grind[axO,aq1,aq2,aGB,aGD]
theorem aeo (h:FG p f) (c:Ie f=true) {i:Nat} (b:i<f.length) (d:0<bo (oC p f) i 0) (a:bo (oC p f) i 0<1):bo f i 0=0:=by
 grind[ajU]
def sY (x:List Rat):List Int:=(pA x.length).filter fun i=>decide (0<bo x i.toNat 0)
theorem ah0 {x:List Rat} {i:Int}:i∈sY x↔(0<=i/\i<x.length)/\0<bo x i.toNat 0:=by
 simp_all[sY,QZ]
theorem axP {x:List Rat}:vd x.length (sY x):=⟨af8.sublist List.filter_sublist,fun i a=>(ah0.1 a).1⟩
def aay (x:List Rat):Bool:=x.all fun q=>decide (q.den=1)
theorem aGE {q:Rat} (h:q.den=1):q=(q.num:Rat):=by
 grind[Rat.mkRat_self,Rat.mkRat_one]
theorem aGF {q:Rat} (c:q.den=1) (b:0<=q) (a:q<=1):q=0\/q=1:=by
 rw[aGE c] at b a ⊢
 have f:0<=q.num:=by exact_mod_cast b
 have d:q.num<=1:=by exact_mod_cast a
 rcases(show q.num=0\/q.num=1 by omega) with e|e<;>simp_all
theorem aGG {t:List Int} (a:Ie f=true) (c:f.length=p.offers.length) (h:vd p.offers.length t) (b:∀i∈t,bo f i.toNat 0≠ -1) (d:∀i∈ek f 1,i∈t) (g:Int->Int):ju (nF f) (fun j=>((g (bo (ek f 0) j 0):Int):Rat)*(if bo (ek f 0) j 0∈t then(1:Rat) else 0))=(((t.map g).sum - ((ek f 1).map g).sum:Int):Rat):=by
 have e:=@agh (fun x=>((g x:Int):Rat)*(if x∈t then(1:Rat) else 0)) (ek f 0)
 rw[aqV] at e;rw[axJ a c h b d g]
 grind
theorem axQ (h:FG p f) (t:Ie f=true) (F:aay (oC p f)=true):yx p ((sY (oC p f)).map (oI p))=true/\((jd ((sY (oC p f)).map (oI p)):Int):Rat)=GI p f:=by
 have n:=h.2.1
 have z:=@adM p f
 have q:∀i:Nat,i<f.length->bo (oC p f) i 0=0\/bo (oC p f) i 0=1:=fun i o=>by
  obtain⟨O,J,_⟩:=amJ h t o
  have:=List.all_eq_true.1 F _ (nA (d:=0) (show i<(oC p f).length by omega))
  simp_all[aGF]
 have B:vd p.offers.length (sY (oC p f)):=by
  grind[axP]
 have A:∀i∈sY (oC p f),bo f i.toNat 0≠ -1:=fun i x K=>by
  grind[ah0,ajU]
 have D:∀i∈ek f 1,i∈sY (oC p f):=fun i x=>by
  grind[SR,ah0,ajU]
 have G:∀j,j<nF f->(if bo (ek f 0) j 0∈sY (oC p f) then(1:Rat) else 0)=acu p f ((od p f).fv j):=fun j c=>by
  obtain⟨C,L⟩:=ahT h c
  have E:(ek f 0).idxOf (bo (ek f 0) j 0)=j:=acr (adI.imp fun h=>by omega) c
  have M:((((bo (ek f 0) j 0).toNat:Nat)):Int)=bo (ek f 0) j 0:=by omega
  have e:bo (oC p f) (bo (ek f 0) j 0).toNat 0=acu p f j:=by
   grind[ajU]
  rw[amk c,<-e]
  rcases q (bo (ek f 0) j 0).toNat (by omega) with l|l
  ·simp_all[ah0]
  ·rw[l,if_pos]
   grind[ah0]
 obtain⟨v,w⟩:=optX_holds h
 have k:=aGG t n B A D
 refine⟨abk.2 fun y b=>?_,?_⟩
 ·obtain⟨r,m⟩:∃r:Int,r=(y:Int):=⟨_,rfl⟩
  rw[<-m] at b ⊢
  have I:0<=r:=by omega
  have a:r.toNat<mF p:=by unfold nq at b;grind
  have s:=v r.toNat a
  rw[sd (g:=fun j=>((uu p r (oI p (bo (ek f 0) j 0)):Int):Rat)*(if bo (ek f 0) j 0∈sY (oC p f) then(1:Rat) else 0)) fun j c=>by grind[ajC],k fun i=>uu p r (oI p i),ajD a,show((r.toNat:Nat):Int)=r by omega] at s
  have N:=aq1 h (List.mem_append_left _ (ajx ac1 a))
  rw[<-agp,<-agp] at s
  have l:((lT p ((sY (oC p f)).map (oI p)) r - lT p ((ek f 1).map (oI p)) r:Int):Rat)<=((pg p r - lT p ((ek f 1).map (oI p)) r:Int):Rat):=by grind
  have H:lT p ((sY (oC p f)).map (oI p)) r - lT p ((ek f 1).map (oI p)) r<=pg p r - lT p ((ek f 1).map (oI p)) r:=by exact_mod_cast l
  omega
 ·have u:(od p f).value=0:=rfl
  rw[u,sd (g:=fun j=>(((oI p (bo (ek f 0) j 0)).value:Int):Rat)*(if bo (ek f 0) j 0∈sY (oC p f) then(1:Rat) else 0)) fun j c=>by grind[amj],k fun i=>(oI p i).value] at w
  grind[GI,RR,aqW]
end
end Go.Vi
