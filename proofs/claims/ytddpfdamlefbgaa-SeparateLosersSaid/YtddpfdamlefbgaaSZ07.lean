/-
  The solver's recursion.
  Conditions: none.
-/
import Derived.Test.YtddpfdamlefbgaaSZ06
import Derived.KernelRfl
set_option maxRecDepth 100000
set_option maxHeartbeats 4000000
set_option linter.all false
namespace Go.Vi
open Go.Proofs.Ytddpfdamlefbgaa.Ir
open Go.Proofs
def bitI (m f:Int):Int:=binK.andI .i64 (m / 2^f.toNat) 1
def delI (m f:Int):Int:=binK.andNotI .i64 m (2^f.toNat)
def memL (m:Int):List Int:=[0,1,2,3,4,5,6,7].filter fun f=>decide (bitI m f≠0)
def cnt (m:Int):Nat:=(memL m).length
def bitsChk:Bool:=(List.range 256).all fun m=>decide (0≤bitI m 0)&&[0,1,2,3,4,5,6,7].all fun f=>(decide (bitI m f=0)||decide (bitI m f=1))&&(decide (bitI m f=0)||(decide (0≤delI m f)&&decide (delI m f<256)&&decide (memL (delI m f)=(memL m).filter fun g=>decide (g≠f))))
theorem bits_chk:bitsChk=true:=by kernel_rfl
theorem bit_del {m f:Int} (d:0≤m) (a:m<256) (b:0≤f) (c:f<8):(bitI m f=0∨bitI m f=1)∧(bitI m f≠0→0≤delI m f∧delI m f<256∧memL (delI m f)=(memL m).filter fun g=>decide (g≠f)):=by
 have h:=bits_chk
 simp only[bitsChk,List.all_eq_true,List.mem_range] at h
 have h2:=h m.toNat (by omega)
 simp only[Bool.and_eq_true,List.all_eq_true] at h2
 have h3:=h2.2 f (by have:f=0∨f=1∨f=2∨f=3∨f=4∨f=5∨f=6∨f=7:=by omega
                     simp_all)
 rw[show((m.toNat:Nat):Int)=m from by omega] at h3
 simp only[Bool.and_eq_true,Bool.or_eq_true,decide_eq_true_eq] at h3
 refine⟨h3.1,fun e=>?_⟩
 simp_all
def fstB (m:Int):Int:=(memL m).headD 0
def fstChk:Bool:=(List.range 256).all fun m=>decide (m=0)||(decide (0≤fstB m)&&decide (fstB m<8)&&decide (bitI m (fstB m)≠0)&&decide (memL m=fstB m::memL (delI m (fstB m)))&&
 [0,1,2,3,4,5,6,7].all fun g=>decide (fstB m≤g)||decide (bitI m g=0))
theorem fst_chk:fstChk=true:=by kernel_rfl
theorem fst_ok {m:Int} (d:0≤m) (c:m<256) (h:m≠0):0≤fstB m∧fstB m<8∧bitI m (fstB m)≠0∧memL m=fstB m::memL (delI m (fstB m))∧∀g,0≤g→g<fstB m→bitI m g=0:=by
 have b:=fst_chk
 simp only[fstChk,List.all_eq_true,List.mem_range] at b
 have a:=b m.toNat (by omega)
 rw[show((m.toNat:Nat):Int)=m from by omega] at a
 simp only[Bool.or_eq_true,Bool.and_eq_true,decide_eq_true_eq,List.all_eq_true] at a
 rcases a with a|a<;>grind
abbrev Memo:=List (Sit×Int)
def lstOf (s:L8) (f:Int):List Off:=nthD [s.l0,s.l1,s.l2,s.l3,s.l4,s.l5,s.l6,s.l7] f.toNat []
def skipAt (a:Sit):Sit:=⟨delI a.members (fstB a.members),a.left,a.opn⟩
def bestM (p:Prob):Nat→Memo→Sit→Int×Memo
 |0,es,_=>(0,es)
 |n+1,es,a=>
  if a.members=0 then(0,es) else
  match findT .sit (.i .i64) a es with
  |some v=>(v,es)
  |none=>
   let r:=(lstOf (L8.of p) (fstB a.members)).foldl (fun r x=>if fitsAt p a x=true then(max r.1 (x.value+(bestM p n r.2 (nextAt p a x)).1),(bestM p n r.2 (nextAt p a x)).2) else r) (bestM p n es (skipAt a))
   (r.1,setT .sit (.i .i64) a r.1 r.2)
def stepM (p:Prob) (n:Nat) (a:Sit) (r:Int×Memo) (x:Off):Int×Memo:=
 if fitsAt p a x=true then(max r.1 (x.value+(bestM p n r.2 (nextAt p a x)).1),(bestM p n r.2 (nextAt p a x)).2) else r
def Good (p:Prob):Prop:=p.classes.length≤8∧p.offers.length≤160∧p.supply.ok=true∧p.opn.ok=true∧∀x∈p.offers,0≤x.bidder∧x.bidder<p.classes.length∧x.want.ok=true∧1≤x.value∧x.value≤1000000
def SitOk (a:Sit):Prop:=0≤a.members∧a.members<256∧a.b
def valL (p:Prob):List Int→Bun→Bun→Int
 |[],_,_=>0
 |f::a,l,o=>(byB p f).foldl (fun v x=>if x.want.le l&&(outS p x).le o then max v (x.value+valL p a (l.sub x.want) (o.sub (outS p x))) else v) (valL p a l o)
def stepV (p:Prob) (a:List Int) (l o:Bun) (v:Int) (x:Off):Int:=if x.want.le l&&(outS p x).le o then max v (x.value+valL p a (l.sub x.want) (o.sub (outS p x))) else v
def bestS (p:Prob) (a:Sit):Int:=valL p (memL a.members) a.left a.opn
def MemoOk (p:Prob) (es:Memo):Prop:=∀e∈es,e.2=bestS p e.1
theorem stepV_bd {p:Prob} {fs:List Int} {l o:Bun} (c:Good p) (B:Int) (a:∀l o,0≤valL p fs l o∧valL p fs l o≤B):∀{xs:List Off} {v:Int},(∀x∈xs,x∈p.offers)→0≤v∧v≤B+1000000→0≤xs.foldl (stepV p fs l o) v∧xs.foldl (stepV p fs l o) v≤B+1000000
 |[],v,_,b=>b
 |x::xs,v,d,b=>by
  simp only[List.foldl_cons]
  refine stepV_bd c B a (fun y e=>d y (by simp[e])) ?_
  unfold stepV
  have f:=a (l.sub x.want) (o.sub (outS p x))
  have g:=c.2.2.2.2 x (d x (by simp))
  split<;>omega
theorem valL_bd {p:Prob} (hg:Good p):∀(fs:List Int) (l o:Bun),0≤valL p fs l o∧valL p fs l o≤1000000*fs.length
 |[],_,_=>by simp[valL]
 |f::fs,l,o=>by
  have ih:=valL_bd hg fs
  have h:=stepV_bd (l:=l) (o:=o) hg (1000000*fs.length) ih (xs:=byB p f) (v:=valL p fs l o) (fun x hx=>(List.mem_filter.1 hx).1) (by have:=ih l o;omega)
  have e:valL p (f::fs) l o=(byB p f).foldl (stepV p fs l o) (valL p fs l o):=rfl
  rw[e]
  simp only[List.length_cons]
  omega
theorem mem_len {m:Int}:(memL m).length≤8:=List.length_filter_le _ _
theorem bestS_bd {p:Prob} (hg:Good p) (a:Sit):0≤bestS p a∧bestS p a≤8000000:=by
 have h:=valL_bd hg (memL a.members) a.left a.opn
 have:=@mem_len a.members
 unfold bestS
 omega
theorem find_mem {a:Sit} {es:Memo} {v:Int} (h:findT .sit (.i .i64) a es=some v):∃e∈es,e.1=a∧e.2=v:=by
 unfold findT at h
 obtain⟨e,h1,rfl⟩:=Option.map_eq_some_iff.1 h
 have h2:=List.find?_some h1
 exact⟨e,List.mem_of_find?_eq_some h1,by simpa using h2,rfl⟩
theorem memo_set {p:Prob} {a:Sit} {v:Int} (hv:v=bestS p a):∀{es:Memo},MemoOk p es→MemoOk p (setT .sit (.i .i64) a v es)
 |[],_=>by intro e he;simp[setT] at he;subst he;exact hv
 |q::es,h=>by
  unfold setT
  split
  ·intro e he
   rcases List.mem_cons.1 he with rfl|he
   ·exact hv
   ·exact h e (by simp[he])
  ·intro e he
   rcases List.mem_cons.1 he with rfl|he
   ·exact h e (by simp)
   ·exact memo_set hv (fun e he=>h e (by simp[he])) e he
theorem sub_ok {a b:Bun} (ha:a.ok=true) (hb:b.ok=true) (h:b.le a=true):(a.sub b).ok=true:=by
 have ha:=Bun.ok_iff.1 ha
 have hb:=Bun.ok_iff.1 hb
 have h:=Bun.le_iff.1 h
 refine Bun.ok_iff.2 ?_
 simp only[Bun.sub]
 omega
theorem lst_eq {p:Prob} {f:Int} (h0:0≤f) (h1:f<8):lstOf (L8.of p) f=byB p f:=by
 have:f=0∨f=1∨f=2∨f=3∨f=4∨f=5∨f=6∨f=7:=by omega
 rcases this with rfl|rfl|rfl|rfl|rfl|rfl|rfl|rfl<;>rfl
theorem next_ok {p:Prob} (h:Good p) {a:Sit} (b:SitOk a) (g:a.members≠0) {x:Off} (j:x∈byB p (fstB a.members)) (c:fitsAt p a x=true):
  SitOk (nextAt p a x)∧memL a.members=fstB a.members::memL (nextAt p a x).members∧(nextAt p a x).members=delI a.members (fstB a.members):=by
 obtain⟨d,e⟩:=List.mem_filter.1 j
 have e:x.bidder=fstB a.members:=by simp_all
 have f:=h.2.2.2.2 x d
 obtain⟨k,l,i,q,o⟩:=fst_ok b.1 b.2.1 g
 have n:=(bit_del b.1 b.2.1 k l).2 i
 have m:(nextAt p a x).members=delI a.members (fstB a.members):=by grind[nextAt,delI]
 simp only[fitsAt,Bool.and_eq_true] at c
 refine⟨⟨by omega,by omega,sub_ok b.2.2.1 f.2.2.1 c.1,sub_ok b.2.2.2 (out_ok f.2.2.1) c.2⟩,by grind,m⟩
theorem skip_ok {a:Sit} (ha:SitOk a) (h0:a.members≠0):SitOk (skipAt a)∧memL a.members=fstB a.members::memL (skipAt a).members:=by
 obtain⟨f0,f1,f2,f3,f4⟩:=fst_ok ha.1 ha.2.1 h0
 have hd:=(bit_del ha.1 ha.2.1 f0 f1).2 f2
 exact⟨⟨hd.1,hd.2.1,ha.2.2⟩,f3⟩
theorem steps_ok {p:Prob} (g:Good p) {n:Nat} {a:Sit} (j:SitOk a) (k:a.members≠0)
  (h:∀(es:Memo) (b:Sit),SitOk b→MemoOk p es→cnt b.members<n→(bestM p n es b).1=bestS p b∧MemoOk p (bestM p n es b).2) (q:cnt a.members<n+1):
  ∀{xs:List Off} {r:Int×Memo},(∀x∈xs,x∈byB p (fstB a.members))→MemoOk p r.2→
   (xs.foldl (stepM p n a) r).1=xs.foldl (stepV p (memL (skipAt a).members) a.left a.opn) r.1∧MemoOk p (xs.foldl (stepM p n a) r).2
 |[],r,_,f=>⟨rfl,f⟩
 |x::xs,r,i,f=>by
  simp only[List.foldl_cons]
  have e:=i x (by simp)
  have v:(stepM p n a r x).1=stepV p (memL (skipAt a).members) a.left a.opn r.1 x∧MemoOk p (stepM p n a r x).2:=by
   unfold stepM stepV
   by_cases d:fitsAt p a x=true
   ·have c:(x.want.le a.left&&(outS p x).le a.opn)=true:=d
    rw[if_pos d,if_pos c]
    obtain⟨u,w,t⟩:=next_ok g j k e d
    have o:cnt (nextAt p a x).members<n:=by
     grind[cnt]
    obtain⟨m,l⟩:=h r.2 _ u f o
    refine⟨?_,l⟩
    simp only[m,bestS,t]
    rfl
   ·have c:¬(x.want.le a.left&&(outS p x).le a.opn)=true:=d
    simp_all
  obtain⟨z,A⟩:=steps_ok g j k h q (xs:=xs) (fun y s=>i y (by simp[s])) v.2
  simp_all
theorem best_ok {p:Prob} (i:Good p):∀(n:Nat) (es:Memo) (a:Sit),SitOk a→MemoOk p es→cnt a.members<n→(bestM p n es a).1=bestS p a∧MemoOk p (bestM p n es a).2
 |0,_,_,_,_,h=>absurd h (by omega)
 |n+1,es,a,f,g,q=>by
  unfold bestM
  by_cases d:a.members=0
  ·rw[if_pos d]
   refine⟨?_,g⟩
   unfold bestS
   rw[d]
   rfl
  ·rw[if_neg d]
   split
   ·rename_i v l
    obtain⟨e,k,j,A⟩:=find_mem l
    refine⟨?_,g⟩
    rw[←A,g e k,j]
   ·rename_i l
    obtain⟨o,y⟩:=skip_ok f d
    obtain⟨w,x,_⟩:=fst_ok f.1 f.2.1 d
    have u:cnt (skipAt a).members<n:=by
     grind[cnt]
    obtain⟨B,t⟩:=best_ok i n es _ o g u
    rw[lst_eq w x]
    obtain⟨z,m⟩:=steps_ok i f d (fun es b s k j=>best_ok i n es b s k j) q (xs:=byB p (fstB a.members)) (r:=bestM p n es (skipAt a)) (fun _ h=>h) t
    have c:((byB p (fstB a.members)).foldl (stepM p n a) (bestM p n es (skipAt a))).1=bestS p a:=by
     rw[z,B]
     unfold bestS
     rw[y]
     rfl
    exact⟨c,memo_set c m⟩
def bestC (n:Nat):OCtr:=solCtr 32 Sit (.one (codE .sit)) (fun a=>(Good a.1.p∧a.1.ls=L8.of a.1.p∧SitOk a.2∧MemoOk a.1.p a.1.es)∧cnt a.2.members<n)
 (fun a=> .si .i64 (bestM a.1.p (cnt a.2.members+1) a.1.es a.2).1) (fun a=>⟨a.1.p,a.1.ls,(bestM a.1.p (cnt a.2.members+1) a.1.es a.2).2⟩)
def W9 (n:Nat):List OCtr:=[bestC n,r116]
def runJ (s:Sol) (a:Sit) (j:Int):Int×Memo:=((lstOf s.ls (fstB a.members)).take j.toNat).foldl (stepM s.p (cnt a.members) a) (bestM s.p (cnt a.members) s.es (skipAt a))
def Λ115 (s:Sol) (a:Sit):Nat→LoopAnn
 |7=> .inv Int (fun f=>⟨[(0,.ptr 0 0 29),(3,.ptr 2 0 13),(7,.si .i64 f)],s.o++[.cells (encS .sit a) 87 13 false]⟩) (fun t=>iS t 7) (fun f=>0≤f∧f≤fstB a.members) (fun f=>(fstB a.members - f).toNat) fun _ _=> .look
 |13=> .inv Int (fun j=>⟨[(0,.ptr 0 0 29),(3,.ptr 2 0 13),(9,.si .i64 (runJ s a j).1),(51,.row .off (lstOf s.ls (fstB a.members))),(52,.si .i64 (lstOf s.ls (fstB a.members)).length),(53,.si .i64 j)],
   (Sol.o ⟨s.p,s.ls,(runJ s a j).2⟩)++[.cells (encS .sit a) 87 13 false,.cells (encS .sit (skipAt a)) 87 13 false]⟩) (fun t=>iS t 53)
  (fun j=>0≤j∧j≤(lstOf s.ls (fstB a.members)).length) (fun j=>((lstOf s.ls (fstB a.members)).length - j).toNat) fun _ _=> .look
 |_=> .look
theorem bestM_zero {p:Prob} {n:Nat} {es:Memo} {a:Sit} (h:a.members=0):bestM p (n+1) es a=(0,es):=by
 unfold bestM
 rw[if_pos h]
theorem bestM_hit {p:Prob} {n:Nat} {es:Memo} {a:Sit} {v:Int} (h:a.members≠0) (hv:findT .sit (.i .i64) a es=some v):bestM p (n+1) es a=(v,es):=by
 unfold bestM
 rw[if_neg h,hv]
theorem bestM_run {s:Sol} {a:Sit} (hl:s.ls=L8.of s.p) (h:a.members≠0) (hv:findT .sit (.i .i64) a s.es=none) {j:Int} (hj:j=(lstOf s.ls (fstB a.members)).length):
  bestM s.p (cnt a.members+1) s.es a=((runJ s a j).1,setT .sit (.i .i64) a (runJ s a j).1 (runJ s a j).2):=by
 unfold bestM runJ
 rw[if_neg h,hv,show j.toNat=(lstOf s.ls (fstB a.members)).length from by omega,List.take_length,hl]
 rfl
theorem runJ_succ {s:Sol} {a:Sit} {j:Int} (h0:0≤j) (h1:j<(lstOf s.ls (fstB a.members)).length):runJ s a (j+1)=stepM s.p (cnt a.members) a (runJ s a j) (nthD (lstOf s.ls (fstB a.members)) j.toNat SId.off.dflt):=by
 unfold runJ
 rw[take_nth (d:=SId.off.dflt) h0 h1,List.foldl_append]
 rfl
theorem map_same_eq {es es':Memo} {kt:List Nat×Bool} (h:es=es'):(SObj.map SId.sit (SId.i IntKind.i64) true es kt true).same (SObj.map SId.sit (SId.i IntKind.i64) true es' kt true):=by rw[h];rfl
theorem bestX (n:Nat) (s:Sol) (a:Sit) (hg:Good s.p) (hl:s.ls=L8.of s.p) (ha:SitOk a) (hm:MemoOk s.p s.es) (hn:cnt a.members<n+1):
  Vc (fnOwnK (parL L8l (ownT (W9 n)) tyN mtN fnN) (Λ115 s a) (fG 32) ((bestC (n+1)).put (s,a)) ((bestC (n+1)).st (s,a)) fun v t=>v.same ((bestC (n+1)).res (s,a))∧sameO t ((bestC (n+1)).out (s,a))):=by
 refine vcOf (let z0:=decide (a.members=(0:Int));let z1:=SV.il .i64 0;let z2:=bestM s.p (cnt a.members+1) s.es a;let z3:=SV.si .i64 z2.fst;let z4:=SId.i .i64;let z5:=SObj.cells [SV.si .i64 s.p.supply.a0,SV.si .i64 s.p.supply.a1,SV.si .i64 s.p.supply.a2,SV.si .i64 s.p.supply.a3,SV.si .i64 s.p.supply.a4,SV.si .i64 s.p.supply.a5,SV.si .i64 s.p.opn.a0,SV.si .i64 s.p.opn.a1,SV.si .i64 s.p.opn.a2,SV.si .i64 s.p.opn.a3,SV.si .i64 s.p.opn.a4,SV.si .i64 s.p.opn.a5,SV.si .i64 s.p.cls.a0,SV.si .i64 s.p.cls.a1,SV.si .i64 s.p.cls.a2,SV.si .i64 s.p.cls.a3,SV.si .i64 s.p.cls.a4,SV.si .i64 s.p.cls.a5,SV.row z4 s.p.classes,SV.row SId.off s.p.offers,SV.row SId.off s.ls.l0,SV.row SId.off s.ls.l1,SV.row SId.off s.ls.l2,SV.row SId.off s.ls.l3,SV.row SId.off s.ls.l4,SV.row SId.off s.ls.l5,SV.row SId.off s.ls.l6,SV.row SId.off s.ls.l7,SV.mp 1] 118 29 false;let z6:=([0,0,0,0,0,0,0,0,0,0,0,0,0],true);let z7:=SObj.map SId.sit z4 true s.es z6 true;let z8:=SObj.map SId.sit z4 true z2.snd z6 true;let z9:=findT SId.sit z4 a s.es;let z10:=SV.ptr 0 0 29;let z11:=SV.ptr 2 0 13;let z12:=[SV.si .i64 a.left.a0,SV.si .i64 a.left.a1,SV.si .i64 a.left.a2,SV.si .i64 a.left.a3,SV.si .i64 a.left.a4,SV.si .i64 a.left.a5,SV.si .i64 a.opn.a0,SV.si .i64 a.opn.a1,SV.si .i64 a.opn.a2,SV.si .i64 a.opn.a3,SV.si .i64 a.opn.a4,SV.si .i64 a.opn.a5];let z13:=SObj.cells (SV.si .i64 a.members::z12) 87 13 false;let z14:=fstB a.members;let z15:=lstOf s.ls z14;let z16:=SV.row SId.off z15;let z17:=(↑z15.length:Int);let z18:=SV.si .i64 z17;let z19:=(skipAt a).left;let z20:=(skipAt a).opn;let z21:=SObj.cells [SV.si .i64 (skipAt a).members,SV.si .i64 z19.a0,SV.si .i64 z19.a1,SV.si .i64 z19.a2,SV.si .i64 z19.a3,SV.si .i64 z19.a4,SV.si .i64 z19.a5,SV.si .i64 z20.a0,SV.si .i64 z20.a1,SV.si .i64 z20.a2,SV.si .i64 z20.a3,SV.si .i64 z20.a4,SV.si .i64 z20.a5] 87 13 false;(z0=true→z1.same z3∧z5.same z5∧z7.same z8∧True)∧(z0=false→(z9.isSome=true→(SV.si .i64 (z9.getD (0:Int))).same z3∧z5.same z5∧z7.same z8∧True)∧(z9.isSome=false→(((z10.same z10∧z11.same z11∧z1.same (SV.si .i64 0)∧True)∧z5.same z5∧z7.same z7∧z13.same z13∧True)∧(0:Int)≤(0:Int)∧(0:Int)≤z14)∧∀(x:Int),let z22:=decide (binK.andI .i64 (a.members / (2:Int)^x.toNat) (1:Int)=(0:Int));let z23:=x+(1:Int);let z24:=SV.si .i64 z23;let z25:=(1:Int)*(2:Int)^x.toNat;let z26:=binK.andNotI .i64 a.members z25;let z27:=Sit.mk z26 a.left a.opn;let z28:=bestM s.p (cnt z26+1) s.es z27;let z29:=nthD [s.ls.l0,s.ls.l1,s.ls.l2,s.ls.l3,s.ls.l4,s.ls.l5,s.ls.l6,s.ls.l7] x.toNat [];(0:Int)≤x∧x≤z14→(0:Int)≤x∧x≤(64:Int)∧(z22=true→inR .i64 z23∧((z10.same z10∧z11.same z11∧z24.same z24∧True)∧z5.same z5∧z7.same z7∧z13.same z13∧True)∧((0:Int)≤z23∧z23≤z14)∧(z14 - z23).toNat<(z14 - x).toNat)∧(z22=false→(0:Int)≤x∧x≤(64:Int)∧inR .i64 z25∧((Good s.p∧s.ls=L8.of s.p∧SitOk z27∧MemoOk s.p s.es)∧cnt z26<n)∧(0:Int)≤x∧x<(8:Int)∧x.toNat<8∧(((z10.same z10∧z11.same z11∧(SV.si .i64 z28.fst).same (SV.si .i64 (runJ s a (0:Int)).fst)∧(SV.row SId.off z29).same z16∧(SV.si .i64 (↑z29.length:Int)).same z18∧z1.same (SV.si .i64 0)∧True)∧z5.same z5∧(SObj.map SId.sit z4 true z28.snd z6 true).same (SObj.map SId.sit z4 true (runJ s a (0:Int)).snd z6 true)∧z13.same z13∧(SObj.cells (SV.si .i64 z26::z12) 87 13 false).same z21∧True)∧(0:Int)≤(0:Int)∧(0:Int)≤z17)∧∀(x:Int),let z30:=nthD z15 x.toNat SId.off.dflt;let z31:=afterS s.p a z30;let z32:=(runJ s a x).snd;let z33:=bestM s.p (cnt z31.members+1) z32 z31;let z34:=x+(1:Int);let z35:=(runJ s a x).fst;let z36:=SV.si .i64 (runJ s a z34).fst;let z37:=SV.si .i64 z34;let z38:=SObj.map SId.sit z4 true (runJ s a z34).snd z6 true;let z39:=SV.si .i64 z35;(0:Int)≤x∧x≤z17→(decide (x<z17)=true→(0:Int)≤x∧x<(↑z15.length:Int)∧x.toNat<z15.length∧(s.p.classes.length≤8∧(0:Int)≤z30.bidder∧z30.bidder<(↑s.p.classes.length:Int)∧a.b∧z30.want.ok=true)∧(fitsAt s.p a z30=true→((Good s.p∧s.ls=L8.of s.p∧SitOk z31∧MemoOk s.p z32)∧cnt z31.members<n)∧inR .i64 (z30.value+z33.fst)∧inR .i64 z34∧((z10.same z10∧z11.same z11∧(SV.si .i64 (max z35 (z30.value+z33.fst))).same z36∧z16.same z16∧z18.same z18∧z37.same z37∧True)∧z5.same z5∧(SObj.map SId.sit z4 true z33.snd z6 true).same z38∧z13.same z13∧z21.same z21∧True)∧((0:Int)≤z34∧z34≤z17)∧(z17 - z34).toNat<(z17 - x).toNat)∧(fitsAt s.p a z30=false→inR .i64 z34∧((z10.same z10∧z11.same z11∧z39.same z36∧z16.same z16∧z18.same z18∧z37.same z37∧True)∧z5.same z5∧(SObj.map SId.sit z4 true z32 z6 true).same z38∧z13.same z13∧z21.same z21∧True)∧((0:Int)≤z34∧z34≤z17)∧(z17 - z34).toNat<(z17 - x).toNat))∧(decide (x<z17)=false→z39.same z3∧z5.same z5∧(SObj.map SId.sit z4 true (setT SId.sit z4 a z35 z32) z6 true).same z8∧True))))) (by kernel_rfl) ?_
 simp only[vcs]
 refine⟨fun h0=>?_,fun h0=>⟨fun hf=>?_,fun hf=>?_⟩⟩
 ·rw[bestM_zero h0]
  exact⟨rfl,rfl⟩
 ·obtain⟨v,hv⟩:=Option.isSome_iff_exists.1 hf
  rw[bestM_hit h0 hv,hv]
  exact⟨rfl,rfl⟩
 ·have hnone:findT .sit (.i .i64) a s.es=none:=by simpa using hf
  obtain⟨f0,f1,f2,f3,f4⟩:=fst_ok ha.1 ha.2.1 h0
  obtain⟨s1,s2⟩:=skip_ok ha h0
  have hcs:cnt (skipAt a).members+1=cnt a.members:=by unfold cnt;rw[s2];simp
  have hle:lstOf s.ls (fstB a.members)=byB s.p (fstB a.members):=by rw[hl];exact lst_eq f0 f1
  have hll:(lstOf s.ls (fstB a.members)).length≤160:=by rw[hle];exact Nat.le_trans (List.length_filter_le _ _) hg.2.1
  have hb8:=best_ok hg (cnt a.members)
  obtain⟨q1,q2⟩:=hb8 s.es _ s1 hm (by omega)
  have hrun:∀j:Int,0≤(runJ s a j).1∧(runJ s a j).1≤9000000∧MemoOk s.p (runJ s a j).2:=by
   intro j
   have hmem:∀x∈(lstOf s.ls (fstB a.members)).take j.toNat,x∈byB s.p (fstB a.members):=fun x hx=>by rw[hle] at hx;exact List.mem_of_mem_take hx
   obtain⟨k1,k2⟩:=steps_ok hg ha h0 (n:=cnt a.members) (fun es b hb h1 h2=>hb8 es b hb h1 h2) (by omega) (xs:=(lstOf s.ls (fstB a.members)).take j.toNat) (r:=bestM s.p (cnt a.members) s.es (skipAt a)) hmem q2
   have hB:=stepV_bd (l:=a.left) (o:=a.opn) (fs:=memL (skipAt a).members) hg 8000000 (fun l o=>by
    have:=valL_bd hg (memL (skipAt a).members) l o
    have:=@mem_len (skipAt a).members
    omega) (xs:=(lstOf s.ls (fstB a.members)).take j.toNat) (v:=(bestM s.p (cnt a.members) s.es (skipAt a)).1) (fun x hx=>(List.mem_filter.1 (hmem x hx)).1) (by
     rw[q1]
     have:=bestS_bd hg (skipAt a)
     omega)
   unfold runJ
   rw[k1]
   exact⟨hB.1,hB.2,k2⟩
  refine⟨⟨by omega,f0⟩,?_⟩
  rintro f ⟨g0,g1⟩
  refine⟨g0,by omega,fun hb=>⟨by omega,⟨by omega,?_⟩,?_⟩,fun hb=>?_⟩
  ·have:f≠fstB a.members:=fun e=>f2 (by rw[←e];exact hb)
   omega
  ·have:f≠fstB a.members:=fun e=>f2 (by rw[←e];exact hb)
   omega
  ·have hfe:f=fstB a.members:=by
    by_cases hlt:f<fstB a.members
    ·exact absurd (f4 f g0 hlt) hb
    ·omega
   subst hfe
   simp only[Int.one_mul]
   have hp:(2:Int)^(fstB a.members).toNat≤256∧0<(2:Int)^(fstB a.members).toNat:=by
    have:(fstB a.members).toNat=0∨(fstB a.members).toNat=1∨(fstB a.members).toNat=2∨(fstB a.members).toNat=3∨(fstB a.members).toNat=4∨(fstB a.members).toNat=5∨(fstB a.members).toNat=6∨(fstB a.members).toNat=7:=by omega
    rcases this with h|h|h|h|h|h|h|h<;>rw[h]<;>decide
   have hsk:binK.andNotI .i64 a.members (2^(fstB a.members).toNat)=(skipAt a).members:=rfl
   simp only[hsk]
   have hse:(⟨(skipAt a).members,a.left,a.opn⟩:Sit)=skipAt a:=rfl
   simp only[hse,hcs]
   have hr0:runJ s a 0=bestM s.p (cnt a.members) s.es (skipAt a):=rfl
   refine⟨g0,by omega,⟨by omega,by omega⟩,⟨⟨hg,hl,s1,hm⟩,by omega⟩,g0,f1,by omega,⟨⟨⟨?_,rfl,rfl⟩,map_same_eq (by rw[hr0]),rfl⟩,by omega,by omega⟩,?_⟩
   ·rw[hr0]
   rintro j ⟨j0,j1⟩
   obtain⟨b1,b2,b3⟩:=hrun j
   refine⟨fun jlt=>?_,fun jge=>?_⟩
   ·have hsucc:=runJ_succ (s:=s) (a:=a) j0 jlt
    have hxm:=nthD_mem (d:=SId.off.dflt) (show j.toNat<(lstOf s.ls (fstB a.members)).length by omega)
    generalize nthD (lstOf s.ls (fstB a.members)) j.toNat SId.off.dflt=x at hsucc hxm ⊢
    rw[hle] at hxm
    have hxo:=(List.mem_filter.1 hxm).1
    have hxv:=hg.2.2.2.2 x hxo
    refine⟨j0,jlt,by omega,⟨hg.1,hxv.1,hxv.2.1,ha.2.2,hxv.2.2.1⟩,fun hfit=>?_,fun hfit=>?_⟩
    ·obtain⟨k1,k2,k3⟩:=next_ok hg ha h0 hxm hfit
     have hcn:cnt (nextAt s.p a x).members+1=cnt a.members:=by unfold cnt;rw[k2];simp
     have haf:afterS s.p a x=nextAt s.p a x:=by unfold afterS;rw[if_pos hfit]
     simp only[haf,hcn]
     obtain⟨e1,e2⟩:=hb8 (runJ s a j).2 _ k1 b3 (by omega)
     have hbd:=bestS_bd hg (nextAt s.p a x)
     have hst:runJ s a (j+1)=(max (runJ s a j).1 (x.value+(bestM s.p (cnt a.members) (runJ s a j).2 (nextAt s.p a x)).1),(bestM s.p (cnt a.members) (runJ s a j).2 (nextAt s.p a x)).2):=by
      rw[hsucc];unfold stepM;rw[if_pos hfit]
     rw[hst]
     refine⟨⟨⟨hg,hl,k1,b3⟩,by omega⟩,by rw[e1];omega,by omega,⟨rfl,rfl⟩,by omega,by omega⟩
    ·have hst:runJ s a (j+1)=runJ s a j:=by
      rw[hsucc];unfold stepM;rw[if_neg (by simp[hfit])]
     rw[hst]
     exact⟨by omega,⟨rfl,rfl⟩,by omega,by omega⟩
   ·have hj:j=(lstOf s.ls (fstB a.members)).length:=by omega
    rw[bestM_run hl h0 hnone hj]
    exact⟨rfl,rfl⟩
theorem hBest:∀n,HoldsO Try.prog (bestC n)
 |0=>by
  rintro⟨s,a⟩ ⟨_,h⟩
  exact absurd h (Nat.not_lt_zero _)
 |n+1=>by
  rintro⟨s,a⟩ ⟨h1,h2⟩
  by_cases hc:cnt a.members<n
  ·exact hBest n (s,a) ⟨h1,hc⟩
  ·refine holdsO_of (bestC (n+1)) (W:=W9 n) (Λ:=fun x=>Λ115 x.1 x.2) base_ok (by simp only[W9,List.forall_mem_cons,List.not_mem_nil,false_implies,implies_true,and_true];exact⟨hBest n,h116⟩) hL8
    (show fnN 32=some (fG 32) by kernel_rfl) (fun _=>rfl) (s,a) ?_ (bestX n s a h1.1 h1.2.1 h1.2.2.1 h1.2.2.2 h2).out
   intro d hd b hb1 hb2 hb3
   have hd2:d=bestC n:=by
    have:findO 32 (W9 n)=some (bestC n):=rfl
    have hd3:findO 32 (W9 n)=some d:=hd
    rw[this] at hd3
    injection hd3 with hd3
    exact hd3.symm
   subst hd2
   have hb:(s,a)=b:=(bestC n).inj (s,a) b hb1 hb2
   subst hb
   exact hc hb3.2
def r113:OCtr where
 f:=31
 α:=Prob
 put p:=[codP.put p]
 st _:=[]
 dec v o:=match v,o with
  |[v],[]=>codP.dec v
  |_,_=>none
 ok v o a h:=by
  split at h
  ·exact⟨by simp only[gL,codP.ok _ _ h],rfl⟩
  ·cases h
 inj a b h _:=by
  simp only[gL,List.cons.injEq,and_true] at h
  exact codP.inj _ _ h
 dom p:=Good p
 res _:=.ptr 0 0 29
 out p:=Sol.o ⟨p,L8.of p,[]⟩
def sp113:Nat→Option (Nat×Nat×Nat)
 |5=>some (11,0,8)
 |_=>none
def byT (p:Prob) (i:Int) (j:Int):List Off:=(p.offers.take i.toNat).filter fun x=>decide (x.bidder=j)
def Λ113 (p:Prob):Nat→LoopAnn
 |3=> .inv Int (fun i=>⟨[(3,.ptr 2 0 29),(11,.row .off p.offers),(12,.si .i64 p.offers.length),(13,.si .i64 i)],
  [.cells p.ss 27 20 false,.map .sit (.i .i64) true [] ([0,0,0,0,0,0,0,0,0,0,0,0,0],true) true,
   .cells [.si .i64 p.supply.a0,.si .i64 p.supply.a1,.si .i64 p.supply.a2,.si .i64 p.supply.a3,.si .i64 p.supply.a4,.si .i64 p.supply.a5,
    .si .i64 p.opn.a0,.si .i64 p.opn.a1,.si .i64 p.opn.a2,.si .i64 p.opn.a3,.si .i64 p.opn.a4,.si .i64 p.opn.a5,
    .si .i64 p.cls.a0,.si .i64 p.cls.a1,.si .i64 p.cls.a2,.si .i64 p.cls.a3,.si .i64 p.cls.a4,.si .i64 p.cls.a5,
    .row (.i .i64) p.classes,.row .off p.offers,.ow 3 (byT p i 0).length 8,.ow 4 (byT p i 1).length 8,.ow 5 (byT p i 2).length 8,.ow 6 (byT p i 3).length 8,.ow 7 (byT p i 4).length 8,.ow 8 (byT p i 5).length 8,.ow 9 (byT p i 6).length 8,.ow 10 (byT p i 7).length 8,.mp 1] 118 29 false,
   .row .off (byT p i 0) 60 true,.row .off (byT p i 1) 60 true,.row .off (byT p i 2) 60 true,.row .off (byT p i 3) 60 true,.row .off (byT p i 4) 60 true,.row .off (byT p i 5) 60 true,.row .off (byT p i 6) 60 true,.row .off (byT p i 7) 60 true]⟩)
  (fun s=>iS s 13) (fun i=>0≤i∧i≤p.offers.length) (fun i=>(p.offers.length - i).toNat) fun _ _=> .look
 |_=> .look
theorem byT_hit {p:Prob} {i:Int} {j:Int} (h0:0≤i) (h1:i<p.offers.length) (h:(nthD p.offers i.toNat SId.off.dflt).bidder=j):byT p (i+1) j=byT p i j++[nthD p.offers i.toNat SId.off.dflt]:=by
 unfold byT
 rw[take_nth (d:=SId.off.dflt) h0 h1,List.filter_append]
 simp[h]
theorem byT_miss {p:Prob} {i:Int} {j:Int} (h0:0≤i) (h1:i<p.offers.length) (h:(nthD p.offers i.toNat SId.off.dflt).bidder≠j):byT p (i+1) j=byT p i j:=by
 unfold byT
 rw[take_nth (d:=SId.off.dflt) h0 h1,List.filter_append]
 simp[h]
theorem h113:HoldsO Try.prog r113:=by
 refine conN (L:=[]) (W:=[]) r113 sp113 Λ113 (by simp) (by simp) ?_
 intro(p:Prob) (hp:Good p)
 refine vcOf (let z0:=SV.ptr 2 0 29;let z1:=SV.row SId.off p.offers;let z2:=(↑p.offers.length:Int);let z3:=(↑p.offers.length:Int);let z4:=SV.si .i64 z3;let z5:=SV.si .i64 p.supply.a0;let z6:=SV.si .i64 p.supply.a1;let z7:=SV.si .i64 p.supply.a2;let z8:=SV.si .i64 p.supply.a3;let z9:=SV.si .i64 p.supply.a4;let z10:=SV.si .i64 p.supply.a5;let z11:=SV.si .i64 p.opn.a0;let z12:=SV.si .i64 p.opn.a1;let z13:=SV.si .i64 p.opn.a2;let z14:=SV.si .i64 p.opn.a3;let z15:=SV.si .i64 p.opn.a4;let z16:=SV.si .i64 p.opn.a5;let z17:=SV.si .i64 p.cls.a0;let z18:=SV.si .i64 p.cls.a1;let z19:=SV.si .i64 p.cls.a2;let z20:=SV.si .i64 p.cls.a3;let z21:=SV.si .i64 p.cls.a4;let z22:=SV.si .i64 p.cls.a5;let z23:=SV.row (SId.i .i64) p.classes;let z24:=SObj.cells [z5,z6,z7,z8,z9,z10,z11,z12,z13,z14,z15,z16,z17,z18,z19,z20,z21,z22,z23,z1] 27 20 false;let z25:=SObj.map SId.sit (SId.i .i64) true [] ([0,0,0,0,0,0,0,0,0,0,0,0,0],true) true;let z26:=[SV.mp 1];let z27:=byT p (0:Int) (0:Int);let z28:=byT p (0:Int) (1:Int);let z29:=byT p (0:Int) (2:Int);let z30:=byT p (0:Int) (3:Int);let z31:=byT p (0:Int) (4:Int);let z32:=byT p (0:Int) (5:Int);let z33:=byT p (0:Int) (6:Int);let z34:=byT p (0:Int) (7:Int);let z35:=SObj.row SId.off [] 60 true;let z36:=SV.ptr 0 0 29;(((z0.same z0∧z1.same z1∧(SV.si .i64 z2).same z4∧(SV.il .i64 0).same (SV.si .i64 0)∧True)∧z24.same z24∧z25.same z25∧(SObj.cells (z5::z6::z7::z8::z9::z10::z11::z12::z13::z14::z15::z16::z17::z18::z19::z20::z21::z22::z23::z1::SV.ow 3 0 8::SV.ow 4 0 8::SV.ow 5 0 8::SV.ow 6 0 8::SV.ow 7 0 8::SV.ow 8 0 8::SV.ow 9 0 8::SV.ow 10 0 8::z26) 118 29 false).same (SObj.cells (z5::z6::z7::z8::z9::z10::z11::z12::z13::z14::z15::z16::z17::z18::z19::z20::z21::z22::z23::z1::SV.ow 3 z27.length 8::SV.ow 4 z28.length 8::SV.ow 5 z29.length 8::SV.ow 6 z30.length 8::SV.ow 7 z31.length 8::SV.ow 8 z32.length 8::SV.ow 9 z33.length 8::SV.ow 10 z34.length 8::z26) 118 29 false)∧z35.same (SObj.row SId.off z27 60 true)∧z35.same (SObj.row SId.off z28 60 true)∧z35.same (SObj.row SId.off z29 60 true)∧z35.same (SObj.row SId.off z30 60 true)∧z35.same (SObj.row SId.off z31 60 true)∧z35.same (SObj.row SId.off z32 60 true)∧z35.same (SObj.row SId.off z33 60 true)∧z35.same (SObj.row SId.off z34 60 true)∧True)∧(0:Int)≤(0:Int)∧(0:Int)≤z3)∧∀(x:Int),let z37:=nthD p.offers x.toNat SId.off.dflt;let z38:=z37.bidder;let z39:=byT p x (0:Int);let z40:=z39.length+1;let z41:=x+(1:Int);let z42:=SV.si .i64 z41;let z43:=z37.want;let z44:=z37.value;let z45:=z39++[Off.mk (0:Int) z43 z44];let z46:=byT p x (1:Int);let z47:=SV.ow 4 z46.length 8;let z48:=byT p x (2:Int);let z49:=SV.ow 5 z48.length 8;let z50:=byT p x (3:Int);let z51:=SV.ow 6 z50.length 8;let z52:=byT p x (4:Int);let z53:=SV.ow 7 z52.length 8;let z54:=byT p x (5:Int);let z55:=SV.ow 8 z54.length 8;let z56:=byT p x (6:Int);let z57:=SV.ow 9 z56.length 8;let z58:=byT p x (7:Int);let z59:=SV.ow 10 z58.length 8::z26;let z60:=z53::z55::z57::z59;let z61:=SObj.cells (z5::z6::z7::z8::z9::z10::z11::z12::z13::z14::z15::z16::z17::z18::z19::z20::z21::z22::z23::z1::SV.ow 3 (byT p z41 (0:Int)).length 8::SV.ow 4 (byT p z41 (1:Int)).length 8::SV.ow 5 (byT p z41 (2:Int)).length 8::SV.ow 6 (byT p z41 (3:Int)).length 8::SV.ow 7 (byT p z41 (4:Int)).length 8::SV.ow 8 (byT p z41 (5:Int)).length 8::SV.ow 9 (byT p z41 (6:Int)).length 8::SV.ow 10 (byT p z41 (7:Int)).length 8::z26) 118 29 false;let z62:=SObj.row SId.off (byT p z41 (0:Int)) 60 true;let z63:=SObj.row SId.off (byT p z41 (1:Int)) 60 true;let z64:=SObj.row SId.off (byT p z41 (2:Int)) 60 true;let z65:=SObj.row SId.off (byT p z41 (3:Int)) 60 true;let z66:=SObj.row SId.off (byT p z41 (4:Int)) 60 true;let z67:=SObj.row SId.off (byT p z41 (5:Int)) 60 true;let z68:=SObj.row SId.off (byT p z41 (6:Int)) 60 true;let z69:=SObj.row SId.off (byT p z41 (7:Int)) 60 true;let z70:=z46.length+1;let z71:=SV.ow 3 z39.length 8;let z72:=z46++[Off.mk (1:Int) z43 z44];let z73:=z48.length+1;let z74:=z48++[Off.mk (2:Int) z43 z44];let z75:=z50.length+1;let z76:=z50++[Off.mk (3:Int) z43 z44];let z77:=z52.length+1;let z78:=z52++[Off.mk (4:Int) z43 z44];let z79:=z54.length+1;let z80:=z54++[Off.mk (5:Int) z43 z44];let z81:=z56.length+1;let z82:=z56++[Off.mk (6:Int) z43 z44];let z83:=z58.length+1;let z84:=z58++[Off.mk (7:Int) z43 z44];(0:Int)≤x∧x≤z3→(decide (x<z3)=true→(0:Int)≤x∧x<z2∧x.toNat<p.offers.length∧(z38=(0:Int)→1=1∧z39.length=z39.length∧z40*64≤140737488355328∧z40≤1000000000000∧inR .i64 z41∧((z0.same z0∧z1.same z1∧z4.same z4∧z42.same z42∧True)∧z24.same z24∧z25.same z25∧(SObj.cells (z5::z6::z7::z8::z9::z10::z11::z12::z13::z14::z15::z16::z17::z18::z19::z20::z21::z22::z23::z1::SV.ow 3 z45.length 8::z47::z49::z51::z60) 118 29 false).same z61∧(SObj.row SId.off z45 60 true).same z62∧(SObj.row SId.off z46 60 true).same z63∧(SObj.row SId.off z48 60 true).same z64∧(SObj.row SId.off z50 60 true).same z65∧(SObj.row SId.off z52 60 true).same z66∧(SObj.row SId.off z54 60 true).same z67∧(SObj.row SId.off z56 60 true).same z68∧(SObj.row SId.off z58 60 true).same z69∧True)∧((0:Int)≤z41∧z41≤z3)∧(z3 - z41).toNat<(z3 - x).toNat)∧(z38=(1:Int)→1=1∧z46.length=z46.length∧z70*64≤140737488355328∧z70≤1000000000000∧inR .i64 z41∧((z0.same z0∧z1.same z1∧z4.same z4∧z42.same z42∧True)∧z24.same z24∧z25.same z25∧(SObj.cells (z5::z6::z7::z8::z9::z10::z11::z12::z13::z14::z15::z16::z17::z18::z19::z20::z21::z22::z23::z1::z71::SV.ow 4 z72.length 8::z49::z51::z60) 118 29 false).same z61∧(SObj.row SId.off z39 60 true).same z62∧(SObj.row SId.off z72 60 true).same z63∧(SObj.row SId.off z48 60 true).same z64∧(SObj.row SId.off z50 60 true).same z65∧(SObj.row SId.off z52 60 true).same z66∧(SObj.row SId.off z54 60 true).same z67∧(SObj.row SId.off z56 60 true).same z68∧(SObj.row SId.off z58 60 true).same z69∧True)∧((0:Int)≤z41∧z41≤z3)∧(z3 - z41).toNat<(z3 - x).toNat)∧(z38=(2:Int)→1=1∧z48.length=z48.length∧z73*64≤140737488355328∧z73≤1000000000000∧inR .i64 z41∧((z0.same z0∧z1.same z1∧z4.same z4∧z42.same z42∧True)∧z24.same z24∧z25.same z25∧(SObj.cells (z5::z6::z7::z8::z9::z10::z11::z12::z13::z14::z15::z16::z17::z18::z19::z20::z21::z22::z23::z1::z71::z47::SV.ow 5 z74.length 8::z51::z60) 118 29 false).same z61∧(SObj.row SId.off z39 60 true).same z62∧(SObj.row SId.off z46 60 true).same z63∧(SObj.row SId.off z74 60 true).same z64∧(SObj.row SId.off z50 60 true).same z65∧(SObj.row SId.off z52 60 true).same z66∧(SObj.row SId.off z54 60 true).same z67∧(SObj.row SId.off z56 60 true).same z68∧(SObj.row SId.off z58 60 true).same z69∧True)∧((0:Int)≤z41∧z41≤z3)∧(z3 - z41).toNat<(z3 - x).toNat)∧(z38=(3:Int)→1=1∧z50.length=z50.length∧z75*64≤140737488355328∧z75≤1000000000000∧inR .i64 z41∧((z0.same z0∧z1.same z1∧z4.same z4∧z42.same z42∧True)∧z24.same z24∧z25.same z25∧(SObj.cells (z5::z6::z7::z8::z9::z10::z11::z12::z13::z14::z15::z16::z17::z18::z19::z20::z21::z22::z23::z1::z71::z47::z49::SV.ow 6 z76.length 8::z60) 118 29 false).same z61∧(SObj.row SId.off z39 60 true).same z62∧(SObj.row SId.off z46 60 true).same z63∧(SObj.row SId.off z48 60 true).same z64∧(SObj.row SId.off z76 60 true).same z65∧(SObj.row SId.off z52 60 true).same z66∧(SObj.row SId.off z54 60 true).same z67∧(SObj.row SId.off z56 60 true).same z68∧(SObj.row SId.off z58 60 true).same z69∧True)∧((0:Int)≤z41∧z41≤z3)∧(z3 - z41).toNat<(z3 - x).toNat)∧(z38=(4:Int)→1=1∧z52.length=z52.length∧z77*64≤140737488355328∧z77≤1000000000000∧inR .i64 z41∧((z0.same z0∧z1.same z1∧z4.same z4∧z42.same z42∧True)∧z24.same z24∧z25.same z25∧(SObj.cells (z5::z6::z7::z8::z9::z10::z11::z12::z13::z14::z15::z16::z17::z18::z19::z20::z21::z22::z23::z1::z71::z47::z49::z51::SV.ow 7 z78.length 8::z55::z57::z59) 118 29 false).same z61∧(SObj.row SId.off z39 60 true).same z62∧(SObj.row SId.off z46 60 true).same z63∧(SObj.row SId.off z48 60 true).same z64∧(SObj.row SId.off z50 60 true).same z65∧(SObj.row SId.off z78 60 true).same z66∧(SObj.row SId.off z54 60 true).same z67∧(SObj.row SId.off z56 60 true).same z68∧(SObj.row SId.off z58 60 true).same z69∧True)∧((0:Int)≤z41∧z41≤z3)∧(z3 - z41).toNat<(z3 - x).toNat)∧(z38=(5:Int)→1=1∧z54.length=z54.length∧z79*64≤140737488355328∧z79≤1000000000000∧inR .i64 z41∧((z0.same z0∧z1.same z1∧z4.same z4∧z42.same z42∧True)∧z24.same z24∧z25.same z25∧(SObj.cells (z5::z6::z7::z8::z9::z10::z11::z12::z13::z14::z15::z16::z17::z18::z19::z20::z21::z22::z23::z1::z71::z47::z49::z51::z53::SV.ow 8 z80.length 8::z57::z59) 118 29 false).same z61∧(SObj.row SId.off z39 60 true).same z62∧(SObj.row SId.off z46 60 true).same z63∧(SObj.row SId.off z48 60 true).same z64∧(SObj.row SId.off z50 60 true).same z65∧(SObj.row SId.off z52 60 true).same z66∧(SObj.row SId.off z80 60 true).same z67∧(SObj.row SId.off z56 60 true).same z68∧(SObj.row SId.off z58 60 true).same z69∧True)∧((0:Int)≤z41∧z41≤z3)∧(z3 - z41).toNat<(z3 - x).toNat)∧(z38=(6:Int)→1=1∧z56.length=z56.length∧z81*64≤140737488355328∧z81≤1000000000000∧inR .i64 z41∧((z0.same z0∧z1.same z1∧z4.same z4∧z42.same z42∧True)∧z24.same z24∧z25.same z25∧(SObj.cells (z5::z6::z7::z8::z9::z10::z11::z12::z13::z14::z15::z16::z17::z18::z19::z20::z21::z22::z23::z1::z71::z47::z49::z51::z53::z55::SV.ow 9 z82.length 8::z59) 118 29 false).same z61∧(SObj.row SId.off z39 60 true).same z62∧(SObj.row SId.off z46 60 true).same z63∧(SObj.row SId.off z48 60 true).same z64∧(SObj.row SId.off z50 60 true).same z65∧(SObj.row SId.off z52 60 true).same z66∧(SObj.row SId.off z54 60 true).same z67∧(SObj.row SId.off z82 60 true).same z68∧(SObj.row SId.off z58 60 true).same z69∧True)∧((0:Int)≤z41∧z41≤z3)∧(z3 - z41).toNat<(z3 - x).toNat)∧(z38=(7:Int)→1=1∧z58.length=z58.length∧z83*64≤140737488355328∧z83≤1000000000000∧inR .i64 z41∧((z0.same z0∧z1.same z1∧z4.same z4∧z42.same z42∧True)∧z24.same z24∧z25.same z25∧(SObj.cells (z5::z6::z7::z8::z9::z10::z11::z12::z13::z14::z15::z16::z17::z18::z19::z20::z21::z22::z23::z1::z71::z47::z49::z51::z53::z55::z57::SV.ow 10 z84.length 8::z26) 118 29 false).same z61∧(SObj.row SId.off z39 60 true).same z62∧(SObj.row SId.off z46 60 true).same z63∧(SObj.row SId.off z48 60 true).same z64∧(SObj.row SId.off z50 60 true).same z65∧(SObj.row SId.off z52 60 true).same z66∧(SObj.row SId.off z54 60 true).same z67∧(SObj.row SId.off z56 60 true).same z68∧(SObj.row SId.off z84 60 true).same z69∧True)∧((0:Int)≤z41∧z41≤z3)∧(z3 - z41).toNat<(z3 - x).toNat)∧(0:Int)≤z38∧z38<(8:Int))∧(decide (x<z3)=false→z39.length=z39.length∧z46.length=z46.length∧z48.length=z48.length∧z50.length=z50.length∧z52.length=z52.length∧z54.length=z54.length∧z56.length=z56.length∧z58.length=z58.length∧z36.same z36∧(SObj.cells (z5::z6::z7::z8::z9::z10::z11::z12::z13::z14::z15::z16::z17::z18::z19::z20::z21::z22::z23::z1::SV.row SId.off z39::SV.row SId.off z46::SV.row SId.off z48::SV.row SId.off z50::SV.row SId.off z52::SV.row SId.off z54::SV.row SId.off z56::SV.row SId.off z58::z26) 118 29 false).same (SObj.cells (z5::z6::z7::z8::z9::z10::z11::z12::z13::z14::z15::z16::z17::z18::z19::z20::z21::z22::z23::z1::SV.row SId.off (L8.of p).l0::SV.row SId.off (L8.of p).l1::SV.row SId.off (L8.of p).l2::SV.row SId.off (L8.of p).l3::SV.row SId.off (L8.of p).l4::SV.row SId.off (L8.of p).l5::SV.row SId.off (L8.of p).l6::SV.row SId.off (L8.of p).l7::z26) 118 29 false)∧z25.same z25∧True)) (by kernel_rfl) ?_
 conv=>zeta
 try simp only[vcs]
 have hz:∀j,byT p 0 j=[]:=fun j=>rfl
 have hlen:∀i j,(byT p i j).length≤160:=fun i j=>by
  have h1:=List.length_filter_le (fun x:Off=>decide (x.bidder=j)) (p.offers.take i.toNat)
  have h2:=hp.2.1
  simp only[List.length_take] at h1
  unfold byT
  omega
 have h160:=hp.2.1
 refine⟨⟨by simp only[hz];exact⟨rfl,rfl,rfl,rfl,rfl,rfl,rfl,rfl,rfl⟩,by omega,by omega⟩,?_⟩
 rintro i ⟨hi0,hi1⟩
 refine⟨fun hlt=>⟨hi0,hlt,by omega,?c0,?c1,?c2,?c3,?c4,?c5,?c6,?c7,?cb⟩,fun hge=>?ce⟩
 case c0=>
  intro hb
  have hx:(⟨0,(nthD p.offers i.toNat SId.off.dflt).want,(nthD p.offers i.toNat SId.off.dflt).value⟩:Off)=nthD p.offers i.toNat SId.off.dflt:=by rw[←hb]
  simp only[hx]
  rw[byT_hit (j:=0) hi0 hlt hb]
  rw[byT_miss (j:=1) hi0 hlt (by rw[hb];decide)]
  rw[byT_miss (j:=2) hi0 hlt (by rw[hb];decide)]
  rw[byT_miss (j:=3) hi0 hlt (by rw[hb];decide)]
  rw[byT_miss (j:=4) hi0 hlt (by rw[hb];decide)]
  rw[byT_miss (j:=5) hi0 hlt (by rw[hb];decide)]
  rw[byT_miss (j:=6) hi0 hlt (by rw[hb];decide)]
  rw[byT_miss (j:=7) hi0 hlt (by rw[hb];decide)]
  have hl:=hlen i 0
  exact⟨by omega,by omega,by omega,⟨rfl,rfl,rfl,rfl,rfl,rfl,rfl,rfl,rfl⟩,by omega,by omega⟩
 case c1=>
  intro hb
  have hx:(⟨1,(nthD p.offers i.toNat SId.off.dflt).want,(nthD p.offers i.toNat SId.off.dflt).value⟩:Off)=nthD p.offers i.toNat SId.off.dflt:=by rw[←hb]
  simp only[hx]
  rw[byT_miss (j:=0) hi0 hlt (by rw[hb];decide)]
  rw[byT_hit (j:=1) hi0 hlt hb]
  rw[byT_miss (j:=2) hi0 hlt (by rw[hb];decide)]
  rw[byT_miss (j:=3) hi0 hlt (by rw[hb];decide)]
  rw[byT_miss (j:=4) hi0 hlt (by rw[hb];decide)]
  rw[byT_miss (j:=5) hi0 hlt (by rw[hb];decide)]
  rw[byT_miss (j:=6) hi0 hlt (by rw[hb];decide)]
  rw[byT_miss (j:=7) hi0 hlt (by rw[hb];decide)]
  have hl:=hlen i 1
  exact⟨by omega,by omega,by omega,⟨rfl,rfl,rfl,rfl,rfl,rfl,rfl,rfl,rfl⟩,by omega,by omega⟩
 case c2=>
  intro hb
  have hx:(⟨2,(nthD p.offers i.toNat SId.off.dflt).want,(nthD p.offers i.toNat SId.off.dflt).value⟩:Off)=nthD p.offers i.toNat SId.off.dflt:=by rw[←hb]
  simp only[hx]
  rw[byT_miss (j:=0) hi0 hlt (by rw[hb];decide)]
  rw[byT_miss (j:=1) hi0 hlt (by rw[hb];decide)]
  rw[byT_hit (j:=2) hi0 hlt hb]
  rw[byT_miss (j:=3) hi0 hlt (by rw[hb];decide)]
  rw[byT_miss (j:=4) hi0 hlt (by rw[hb];decide)]
  rw[byT_miss (j:=5) hi0 hlt (by rw[hb];decide)]
  rw[byT_miss (j:=6) hi0 hlt (by rw[hb];decide)]
  rw[byT_miss (j:=7) hi0 hlt (by rw[hb];decide)]
  have hl:=hlen i 2
  exact⟨by omega,by omega,by omega,⟨rfl,rfl,rfl,rfl,rfl,rfl,rfl,rfl,rfl⟩,by omega,by omega⟩
 case c3=>
  intro hb
  have hx:(⟨3,(nthD p.offers i.toNat SId.off.dflt).want,(nthD p.offers i.toNat SId.off.dflt).value⟩:Off)=nthD p.offers i.toNat SId.off.dflt:=by rw[←hb]
  simp only[hx]
  rw[byT_miss (j:=0) hi0 hlt (by rw[hb];decide)]
  rw[byT_miss (j:=1) hi0 hlt (by rw[hb];decide)]
  rw[byT_miss (j:=2) hi0 hlt (by rw[hb];decide)]
  rw[byT_hit (j:=3) hi0 hlt hb]
  rw[byT_miss (j:=4) hi0 hlt (by rw[hb];decide)]
  rw[byT_miss (j:=5) hi0 hlt (by rw[hb];decide)]
  rw[byT_miss (j:=6) hi0 hlt (by rw[hb];decide)]
  rw[byT_miss (j:=7) hi0 hlt (by rw[hb];decide)]
  have hl:=hlen i 3
  exact⟨by omega,by omega,by omega,⟨rfl,rfl,rfl,rfl,rfl,rfl,rfl,rfl,rfl⟩,by omega,by omega⟩
 case c4=>
  intro hb
  have hx:(⟨4,(nthD p.offers i.toNat SId.off.dflt).want,(nthD p.offers i.toNat SId.off.dflt).value⟩:Off)=nthD p.offers i.toNat SId.off.dflt:=by rw[←hb]
  simp only[hx]
  rw[byT_miss (j:=0) hi0 hlt (by rw[hb];decide)]
  rw[byT_miss (j:=1) hi0 hlt (by rw[hb];decide)]
  rw[byT_miss (j:=2) hi0 hlt (by rw[hb];decide)]
  rw[byT_miss (j:=3) hi0 hlt (by rw[hb];decide)]
  rw[byT_hit (j:=4) hi0 hlt hb]
  rw[byT_miss (j:=5) hi0 hlt (by rw[hb];decide)]
  rw[byT_miss (j:=6) hi0 hlt (by rw[hb];decide)]
  rw[byT_miss (j:=7) hi0 hlt (by rw[hb];decide)]
  have hl:=hlen i 4
  exact⟨by omega,by omega,by omega,⟨rfl,rfl,rfl,rfl,rfl,rfl,rfl,rfl,rfl⟩,by omega,by omega⟩
 case c5=>
  intro hb
  have hx:(⟨5,(nthD p.offers i.toNat SId.off.dflt).want,(nthD p.offers i.toNat SId.off.dflt).value⟩:Off)=nthD p.offers i.toNat SId.off.dflt:=by rw[←hb]
  simp only[hx]
  rw[byT_miss (j:=0) hi0 hlt (by rw[hb];decide)]
  rw[byT_miss (j:=1) hi0 hlt (by rw[hb];decide)]
  rw[byT_miss (j:=2) hi0 hlt (by rw[hb];decide)]
  rw[byT_miss (j:=3) hi0 hlt (by rw[hb];decide)]
  rw[byT_miss (j:=4) hi0 hlt (by rw[hb];decide)]
  rw[byT_hit (j:=5) hi0 hlt hb]
  rw[byT_miss (j:=6) hi0 hlt (by rw[hb];decide)]
  rw[byT_miss (j:=7) hi0 hlt (by rw[hb];decide)]
  have hl:=hlen i 5
  exact⟨by omega,by omega,by omega,⟨rfl,rfl,rfl,rfl,rfl,rfl,rfl,rfl,rfl⟩,by omega,by omega⟩
 case c6=>
  intro hb
  have hx:(⟨6,(nthD p.offers i.toNat SId.off.dflt).want,(nthD p.offers i.toNat SId.off.dflt).value⟩:Off)=nthD p.offers i.toNat SId.off.dflt:=by rw[←hb]
  simp only[hx]
  rw[byT_miss (j:=0) hi0 hlt (by rw[hb];decide)]
  rw[byT_miss (j:=1) hi0 hlt (by rw[hb];decide)]
  rw[byT_miss (j:=2) hi0 hlt (by rw[hb];decide)]
  rw[byT_miss (j:=3) hi0 hlt (by rw[hb];decide)]
  rw[byT_miss (j:=4) hi0 hlt (by rw[hb];decide)]
  rw[byT_miss (j:=5) hi0 hlt (by rw[hb];decide)]
  rw[byT_hit (j:=6) hi0 hlt hb]
  rw[byT_miss (j:=7) hi0 hlt (by rw[hb];decide)]
  have hl:=hlen i 6
  exact⟨by omega,by omega,by omega,⟨rfl,rfl,rfl,rfl,rfl,rfl,rfl,rfl,rfl⟩,by omega,by omega⟩
 case c7=>
  intro hb
  have hx:(⟨7,(nthD p.offers i.toNat SId.off.dflt).want,(nthD p.offers i.toNat SId.off.dflt).value⟩:Off)=nthD p.offers i.toNat SId.off.dflt:=by rw[←hb]
  simp only[hx]
  rw[byT_miss (j:=0) hi0 hlt (by rw[hb];decide)]
  rw[byT_miss (j:=1) hi0 hlt (by rw[hb];decide)]
  rw[byT_miss (j:=2) hi0 hlt (by rw[hb];decide)]
  rw[byT_miss (j:=3) hi0 hlt (by rw[hb];decide)]
  rw[byT_miss (j:=4) hi0 hlt (by rw[hb];decide)]
  rw[byT_miss (j:=5) hi0 hlt (by rw[hb];decide)]
  rw[byT_miss (j:=6) hi0 hlt (by rw[hb];decide)]
  rw[byT_hit (j:=7) hi0 hlt hb]
  have hl:=hlen i 7
  exact⟨by omega,by omega,by omega,⟨rfl,rfl,rfl,rfl,rfl,rfl,rfl,rfl,rfl⟩,by omega,by omega⟩
 case cb=>
  have hv:=hp.2.2.2.2 _ (nthD_mem (d:=SId.off.dflt) (show i.toNat<p.offers.length by omega))
  have:=hp.1
  exact⟨hv.1,by omega⟩
 case ce=>
  have hb:∀j,byT p i j=byB p j:=fun j=>by unfold byT byB;rw[show i.toNat=p.offers.length from by omega,List.take_length]
  simp only[hb]
  rfl
theorem good_of {p:Prob} (h:checkE p=0):Good p:=by
 obtain⟨e,k⟩:=check_zero h
 obtain⟨b,a,m,g,q⟩:=frame_zero e
 refine⟨m,g,b,?_,fun x o=>?_⟩
 ·have d:=Bun.ok_iff.1 b
  have f:=prodOk_iff.1 (a 0 (by omega))
  have c:=prodOk_iff.1 (a 1 (by omega))
  have i:=prodOk_iff.1 (a 2 (by omega))
  have l:=prodOk_iff.1 (a 3 (by omega))
  have n:=prodOk_iff.1 (a 4 (by omega))
  have j:=prodOk_iff.1 (a 5 (by omega))
  simp[nthD] at f c i l n j
  grind[Bun.ok_iff]
 ·have d:=simple_zero (offer_zero (k x o)).1
  simp_all
theorem pow_n {n:Nat} (h:n≤8):(2:Int)^n≤256∧0<(2:Int)^n:=by
 have:n=0∨n=1∨n=2∨n=3∨n=4∨n=5∨n=6∨n=7∨n=8:=by omega
 grind
def worthS (p:Prob) (m:Int):Int:=if faultE p m=0 then bestS p ⟨m,p.supply,p.opn⟩ else 0
theorem worth_bd (p:Prob) (m:Int):0≤worthS p m∧worthS p m≤8000000:=by
 unfold worthS
 split
 ·rename_i h
  have hc:checkE p=0:=by
   unfold faultE at h
   split at h
   ·rename_i h1;exact absurd h h1
   ·rename_i h1;exact Classical.not_not.1 h1
  exact bestS_bd (good_of hc) _
 ·omega
theorem fault_zero {p:Prob} {m:Int} (h:faultE p m=0):checkE p=0∧0≤m∧m<2^p.classes.length:=by
 unfold faultE at h
 split at h
 ·rename_i h1;exact absurd h h1
 ·rename_i h1
  split at h
  ·cases h
  ·rename_i h2
   exact⟨Classical.not_not.1 h1,by omega,by omega⟩
def r80:SCtr:=⟨11,Prob×Int,.cons codP (.one (codI .i64)),fun _=>True,fun a=> .tup [.si .i64 (worthS a.1 a.2),.si .i64 (faultE a.1 a.2)]⟩
def WB:List OCtr:=[r113,r114,bestC 9]
theorem hWB:∀c∈WB,HoldsO Try.prog c:=by
 simp only[WB,List.forall_mem_cons,List.not_mem_nil,false_implies,implies_true,and_true]
 exact⟨h113,h114,hBest 9⟩
theorem h80:Holds Try.prog r80:=by
 refine con (L:=L8l) (W:=ownT WB) r80 lk (ownT_ok hWB) hL8 ?_
 rintro⟨p,m⟩ _
 refine vcOf (let z0:=decide (faultE p m≠(0:Int));let z1:=SV.il .i64 0;let z2:=[SV.si .i64 (faultE p m)];let z3:=SV.tup (SV.si .i64 (worthS p m)::z2);let z4:=Sit.mk m p.supply p.opn;True∧(z0=true→(SV.tup (z1::z2)).same z3)∧(z0=false→Good p∧True∧((Good p∧L8.of p=L8.of p∧SitOk z4∧MemoOk p [])∧cnt m<9)∧(SV.tup [SV.si .i64 (bestM p (cnt m+1) [] z4).fst,z1]).same z3)) (by kernel_rfl) ?_
 simp only[vcs]
 refine⟨fun h=>by simp[worthS,h],fun h=>?_⟩
 have hz:faultE p m=0:=Classical.not_not.1 h
 obtain⟨hc,h1,h2⟩:=fault_zero hz
 have hg:=good_of hc
 have hp:=pow_n hg.1
 have ha:SitOk ⟨m,p.supply,p.opn⟩:=⟨h1,by simp only;omega,hg.2.2.1,hg.2.2.2.1⟩
 have hm:MemoOk p []:=fun e he=>by simp at he
 have hn:cnt m<9:=by have:=@mem_len m;unfold cnt;omega
 have hb:=best_ok hg (cnt m+1) [] ⟨m,p.supply,p.opn⟩ ha hm (by simp only;omega)
 refine⟨hg,⟨⟨hg,ha,hm⟩,hn⟩,?_,hz.symm⟩
 rw[hb.1]
 simp[worthS,hz]
def setV (p:Prob) (v:List Int) (i:Int):List Int:=v.set (nthD p.offers i.toNat SId.off.dflt).bidder.toNat (nthD p.offers i.toNat SId.off.dflt).value
def valsS (p:Prob) (c:List Int):List Int:=c.foldl (setV p) (List.replicate p.classes.length 0)
theorem pick_idx {l:List Off}:∀{c:List Int} {a:Int} {r:List Off}, -1≤a→pickGo l a c=some r→r.length=c.length∧∀i∈c,0≤i∧i<l.length
 |[],a,r,_,h=>by grind[pickGo]
 |i::c,a,r,e,h=>by
  simp only[pickGo] at h
  split at h
  ·cases h
  ·rename_i d
   obtain⟨f,b,rfl⟩:=Option.map_eq_some_iff.1 h
   obtain⟨g,j⟩:=pick_idx (by omega) b
   grind
def sumV:List Off→Int
 |[]=>0
 |x::l=>x.value+sumV l
def valueS (p:Prob) (c:List Int):Int:=if checkE p=0 then sumV (pickL p c) else 0
theorem sumV_append:∀{l m:List Off},sumV (l++m)=sumV l+sumV m
 |[],m=>by simp[sumV]
 |x::l,m=>by simp only[List.cons_append,sumV,@sumV_append l m];omega
theorem sumV_take {l:List Off} {i:Int} (a:0≤i) (h:i<l.length):sumV (l.take (i+1).toNat)=sumV (l.take i.toNat)+(nthD l i.toNat SId.off.dflt).value:=by
 rw[take_nth (d:=SId.off.dflt) a h,sumV_append]
 simp[sumV]
theorem picks_ok {p:Prob} {c:List Int} (h:checkE p=0):(pickL p c).length≤160∧∀x∈pickL p c,x∈p.offers:=by
 have d:=good_of h
 unfold pickL
 cases a:pickGo p.offers (-1) c with
 |none=>simp
 |some r=>
  refine⟨?_,fun x b=>pick_mem (by omega) a x b⟩
  have e:=pick_len (by omega) a
  have f:=d.2.1
  grind
theorem sum_val_bd {p:Prob} (a:Good p):∀{l:List Off},(∀x∈l,x∈p.offers)→0≤sumV l∧sumV l≤1000000*l.length
 |[],_=>by simp[sumV]
 |x::l,h=>by
  have c:=a.2.2.2.2 x (h x (by simp))
  have d:=@sum_val_bd p a l fun y b=>h y (by simp[b])
  grind[sumV]
def Bun.at (b:Bun) (k:Nat):Int:=nthD [b.a0,b.a1,b.a2,b.a3,b.a4,b.a5] k 0
def lenT (a:List Int):Nat→Nat
 |0=>0
 |n+1=>if nthD a n 0=0 then lenT a n else n+1
def trimN (a:List Int):List Int:=a.take (lenT a a.length)
def r152:SCtr:=⟨71,List Int,.one (codR (.i .u32)),fun a=>a.length≤1000000000000,fun a=> .row (.i .u32) (trimN a)⟩
def Λ152 (a:List Int):Nat→LoopAnn
 |2=> .inv Int (fun n=>⟨[(0,.row (.i .u32) a),(3,.si .i64 n)],[]⟩) (fun s=>iS s 3) (fun n=>0≤n∧n≤a.length∧lenT a n.toNat=lenT a a.length) (fun n=>n.toNat) fun _ _=> .look
 |_=> .look
theorem h152:Holds Try.prog r152:=by
 refine con0 (L:=[]) r152 Λ152 (by simp) ?_
 intro(a:List Int) (h:a.length≤1000000000000)
 refine vcOf (let z0:=SId.i .u32;let z1:=(↑a.length:Int);let z2:=SV.si .i64 z1;let z3:=(↑a.length:Int);let z4:=lenT a a.length;((((SV.row z0 a).same (SV.row z0 a)∧z2.same z2∧True)∧True)∧(0:Int)≤z1∧z1≤z3∧lenT a z1.toNat=z4)∧∀(x:Int),let z5:=decide ((0:Int)<x);let z6:=x - (1:Int);let z7:=decide (nthD a z6.toNat (0:Int)=(0:Int));let z8:=SV.si .i64 z6;(0:Int)≤x∧x≤z3∧lenT a x.toNat=z4→(z5=true→inR .i64 z6∧(0:Int)≤z6∧z6<z1∧z6.toNat<a.length∧(z7=true→inR .i64 z6∧(((SV.row z0 a).same (SV.row z0 a)∧z8.same z8∧True)∧True)∧((0:Int)≤z6∧z6≤z3∧lenT a z6.toNat=z4)∧z6.toNat<x.toNat)∧(z7=false→(0:Int)≤x∧(0:Int)≤x∧0≤x.toNat∧x.toNat≤x.toNat∧x.toNat≤a.length∧(SV.row z0 (List.take (x.toNat - 0) a)).same (SV.row z0 (trimN a))))∧(z5=false→(0:Int)≤x∧(0:Int)≤x∧0≤x.toNat∧x.toNat≤x.toNat∧x.toNat≤a.length∧(SV.row z0 (List.take (x.toNat - 0) a)).same (SV.row z0 (trimN a)))) (by kernel_rfl) ?_
 simp only[vcs]
 refine⟨⟨by omega,by omega,by simp⟩,?_⟩
 rintro n ⟨n0,n1,hn⟩
 have stop:(n.toNat=0∨0<n.toNat∧¬nthD a (n.toNat - 1) 0=0)→List.take (n.toNat - 0) a=trimN a:=fun h=>by
  unfold trimN
  rw[←hn]
  congr 1
  rcases h with h|h
  ·rw[h];rfl
  ·obtain⟨h1,h⟩:=h
   obtain⟨m,hm⟩:∃m,n.toNat=m+1:=⟨n.toNat - 1,by omega⟩
   rw[hm] at h ⊢
   simp only[Nat.add_sub_cancel] at h
   unfold lenT
   rw[if_neg h]
   rfl
 refine⟨fun h0=>⟨by omega,by omega,by omega,by omega,fun hz=>⟨by omega,⟨by omega,by omega,?_⟩,by omega⟩,fun hz=>⟨n0,n0,by omega,by omega,by omega,?_⟩⟩,fun h0=>⟨n0,n0,by omega,by omega,by omega,stop (.inl (by omega))⟩⟩
 ·rw[←hn,show n.toNat=(n - 1).toNat+1 by omega]
  rw[lenT,if_pos hz]
 ·exact stop (.inr ⟨by omega,by rw[show n.toNat - 1=(n - 1).toNat by omega];exact hz⟩)
def valN:List Int→Int
 |[]=>0
 |d::l=>d+4294967296*valN l
def Dig (a:List Int):Prop:=∀d∈a,0≤d∧d<4294967296
def Nrm:List Int→Prop
 |[]=>True
 |d::l=>(l=[]→d≠0)∧Nrm l
theorem dig_cons {d:Int} {l:List Int}:Dig (d::l)↔(0≤d∧d<4294967296)∧Dig l:=by simp[Dig]
theorem dig_take {a:List Int} (h:Dig a) (n:Nat):Dig (a.take n):=fun d b=>h d (List.mem_of_mem_take b)
theorem val_nonneg:∀{a:List Int},Dig a→0≤valN a
 |[],_=>Int.le_refl _
 |d::l,h=>by
  obtain⟨c,b⟩:=dig_cons.1 h
  have:=val_nonneg b
  grind[valN]
theorem val_zero:∀{a:List Int},Dig a→Nrm a→valN a=0→a=[]
 |[],_,_,_=>rfl
 |d::l,h,b,f=>by
  obtain⟨g,c⟩:=dig_cons.1 h
  have:=val_nonneg c
  simp only[valN] at f
  have e:=val_zero c b.2 (by omega)
  have:=b.1 e
  omega
theorem val_inj:∀{a b:List Int},Dig a→Dig b→Nrm a→Nrm b→valN a=valN b→a=b
 |[],b,_,i,_,c,h=>(val_zero i c h.symm).symm
 |d::l,[],f,_,g,_,h=>val_zero f g h
 |d::l,e::m,f,i,g,c,h=>by
  obtain⟨p,j⟩:=dig_cons.1 f
  obtain⟨s,k⟩:=dig_cons.1 i
  have r:=val_nonneg j
  have q:=val_nonneg k
  simp only[valN] at h
  have n:d=e:=by omega
  have o:valN l=valN m:=by omega
  rw[n,val_inj j k g.2 c.2 o]
theorem val_snoc:∀{a:List Int} {x:Int},valN (a++[x])=valN a+4294967296^a.length*x
 |[],x=>by simp[valN]
 |d::l,x=>by
  simp only[List.cons_append,valN,val_snoc,List.length_cons,Int.pow_succ,Int.mul_add]
  grind
theorem nrm_snoc:∀{a:List Int} {x:Int},x≠0→Nrm (a++[x])
 |[],x,h=>⟨fun _=>h,trivial⟩
 |d::l,x,h=>⟨fun b=>by simp at b,nrm_snoc h⟩
theorem take_snoc {a:List Int} {n:Nat} (h:n<a.length):a.take (n+1)=a.take n++[nthD a n 0]:=by
 simp_all[nthD_eq]
theorem lenT_val {a:List Int}:∀{n:Nat},n≤a.length→valN (a.take (lenT a n))=valN (a.take n)∧Nrm (a.take (lenT a n))
 |0,_=>by simp[lenT,Nrm]
 |n+1,h=>by
  obtain⟨d,b⟩:=@lenT_val a n (by omega)
  have c:=take_snoc (show n<a.length by omega)
  unfold lenT
  grind[val_snoc,nrm_snoc]
theorem trim_val {a:List Int}:valN (trimN a)=valN a∧Nrm (trimN a):=by
 have:=@lenT_val a a.length (Nat.le_refl _)
 rw[List.take_length] at this
 exact this
theorem trim_dig {a:List Int} (h:Dig a):Dig (trimN a):=dig_take h _
theorem trim_len {a:List Int}:(trimN a).length≤a.length:=by grind[trimN]
def natF:Nat→Int→List Int
 |0,_=>[]
 |k+1,n=>if n≤0 then[] else(n % 4294967296)::natF k (n / 4294967296)
def natL (n:Int):List Int:=natF n.toNat n
theorem natF_ok:∀{k:Nat} {n:Int},0≤n→n.toNat≤k→valN (natF k n)=n∧Dig (natF k n)∧Nrm (natF k n)
 |0,n,b,h=>by
  have:n=0:=by omega
  subst this
  exact⟨rfl,by simp[natF,Dig],trivial⟩
 |k+1,n,b,h=>by
  unfold natF
  split
  ·have:n=0:=by omega
   subst this
   exact⟨rfl,by simp[Dig],trivial⟩
  ·obtain⟨d,a,c⟩:=@natF_ok k (n / 4294967296) (by omega) (by omega)
   refine⟨by grind[valN],dig_cons.2 ⟨by omega,a⟩,fun e f=>?_,c⟩
   grind[valN]
theorem natL_ok {n:Int} (h:0≤n):valN (natL n)=n∧Dig (natL n)∧Nrm (natL n):=natF_ok h (Nat.le_refl _)
theorem natL_val {a:List Int} (h:Dig a) (b:Nrm a):natL (valN a)=a:=by
 grind[natL_ok,val_nonneg,val_inj]
theorem trim_eq {a:List Int} (h:Dig a):trimN a=natL (valN a):=by
 grind[trim_val,natL_val,trim_dig]
theorem val_bdN:∀{a:List Int},Dig a→valN a<4294967296^a.length
 |[],_=>by simp[valN]
 |d::l,h=>by
  obtain⟨c,b⟩:=dig_cons.1 h
  have:=val_bdN b
  grind[valN]
def r128:SCtr:=⟨50,Int,.one (codI .u64),fun x=>0≤(show Int from x)∧(show Int from x)<18446744073709551616,fun x=> .row (.i .u32) (natL x)⟩
theorem h128:Holds Try.prog r128:=by
 refine con0 (L:=[r152]) r128 lk (by simpa using h152) ?_
 intro(x:Int) h
 obtain⟨h0,h1⟩:0≤x∧x<18446744073709551616:=h
 refine vcOf ((0:Int)≤(32:Int)∧(32:Int)≤(64:Int)∧2≤1000000000000∧(SV.row (SId.i .u32) (trimN [x % (4294967296:Int),x / (4294967296:Int) % (4294967296:Int)])).same (SV.row (SId.i .u32) (natL x))) (by kernel_rfl) ?_
 simp only[vcs]
 refine⟨by omega,by omega,by omega,?_⟩
 have hd:Dig [x % 4294967296,x / 4294967296 % 4294967296]:=by
  rw[dig_cons,dig_cons]
  exact⟨by omega,by omega,by simp[Dig]⟩
 rw[trim_eq hd]
 congr 1
 simp only[valN]
 omega
theorem len_lt:∀{a b:List Int},Dig a→Dig b→Nrm b→a.length<b.length→valN a<valN b
 |[],b,_,c,f,h=>by
  have n:=val_nonneg c
  grind[valN,val_zero]
 |d::l,[],_,_,_,h=>by simp at h
 |d::l,e::m,g,c,f,h=>by
  obtain⟨k,j⟩:=dig_cons.1 g
  obtain⟨o,i⟩:=dig_cons.1 c
  simp only[List.length_cons] at h
  have:=len_lt j i f.2 (by omega)
  grind[valN]
theorem dig_lt:∀{k:Nat} {a b:List Int},Dig a→Dig b→k<a.length→k<b.length→a.drop (k+1)=b.drop (k+1)→nthD a k 0<nthD b k 0→valN a<valN b
 |_,[],_,_,_,h,_,_,_=>by simp at h
 |_,_::_,[],_,_,_,h,_,_=>by simp at h
 |0,d::l,e::m,f,g,_,_,h,c=>by
  grind[nthD,valN]
 |k+1,d::l,e::m,f,g,n,q,h,c=>by
  obtain⟨p,j⟩:=dig_cons.1 f
  obtain⟨o,i⟩:=dig_cons.1 g
  simp only[List.drop_succ_cons] at h
  simp only[nthD,List.getElem?_cons_succ] at c
  have:=dig_lt (k:=k) j i (by simp_all) (by simp_all) h c
  grind[valN]
theorem drop_nthN {a:List Int} {k:Nat} (h:k<a.length):a.drop k=nthD a k 0::a.drop (k+1):=by simp_all[nthD_eq]
def cmpN (x y:Int):Int:=if x<y then -1 else if y<x then 1 else 0
def r132:SCtr:=⟨48,List Int×List Int,.cons (codR (.i .u32)) (.one (codR (.i .u32))),fun a=>(Dig a.1∧Dig a.2)∧a.1.length≤1000000000000∧a.2.length≤1000000000000,fun a=> .si .i64 (cmpN (valN a.1) (valN a.2))⟩
def Λ132 (a:List Int×List Int):Nat→LoopAnn
 |7=> .inv Int (fun i=>⟨[(0,.row (.i .u32) (trimN a.1)),(1,.row (.i .u32) (trimN a.2)),(22,.si .i64 (trimN a.1).length),(23,.si .i64 i)],[]⟩) (fun s=>iS s 23)
  (fun i=>0≤i∧i≤(trimN a.1).length∧(trimN a.1).drop ((trimN a.1).length - i.toNat)=(trimN a.2).drop ((trimN a.1).length - i.toNat)) (fun i=>((trimN a.1).length - i).toNat) fun _ _=> .look
 |_=> .look
theorem h132:Holds Try.prog r132:=by
 refine con0 (L:=[r152]) r132 Λ132 (by simpa using h152) ?_
 rintro⟨a,b⟩ ⟨⟨ha,hb⟩,hla,hlb⟩
 simp only at ha hb hla hlb
 refine vcOf (let z0:Nat:=(trimN a).length;let z1:=(↑z0:Int);let z2:Nat:=(trimN b).length;let z3:=(↑z2:Int);let z4:=SV.si .i64 (cmpN (valN a) (valN b));let z5:=SV.row (SId.i .u32) (trimN a);let z6:=SV.row (SId.i .u32) (trimN b);let z7:Nat:=(trimN a).length;let z8:=(↑z7:Int);let z9:=SV.si .i64 z8;let z10:=SV.il .i64 0;let z11:=z1 - (1:Int);a.length≤1000000000000∧b.length≤1000000000000∧(decide (z1≠z3)=true→(decide (z1<z3)=true→(SV.il .i64 (-1:Int)).same z4)∧(decide (z1<z3)=false→(SV.il .i64 1).same z4))∧(decide (z1≠z3)=false→(((z5.same z5∧z6.same z6∧(SV.si .i64 z1).same z9∧z10.same (SV.si .i64 0)∧True)∧True)∧(0:Int)≤(0:Int)∧(0:Int)≤z8∧List.drop (z7 - 0) (trimN a)=List.drop (z7 - 0) (trimN b))∧∀(x:Int),let z12:=(z11 - x).toNat;let z13:=nthD (trimN a) z12 (0:Int);let z14:=nthD (trimN b) z12 (0:Int);let z15:=x+(1:Int);let z16:=SV.si .i64 z15;(0:Int)≤x∧x≤z8∧List.drop (z7 - x.toNat) (trimN a)=List.drop (z7 - x.toNat) (trimN b)→(decide (x<z8)=true→inR .i64 z11∧inR .i64 (z11 - x)∧(0:Int)≤z11 - x∧z11 - x<z1∧z12<z0∧(0:Int)≤z11 - x∧z11 - x<z3∧z12<z2∧(decide (z13<z14)=true→(SV.il .i64 (-1:Int)).same z4)∧(decide (z13<z14)=false→(0:Int)≤z11 - x∧z11 - x<z1∧z12<z0∧(0:Int)≤z11 - x∧z11 - x<z3∧z12<z2∧(decide (z14<z13)=true→(SV.il .i64 1).same z4)∧(decide (z14<z13)=false→inR .i64 z15∧((z5.same z5∧z6.same z6∧z9.same z9∧z16.same z16∧True)∧True)∧((0:Int)≤z15∧z15≤z8∧List.drop (z7 - z15.toNat) (trimN a)=List.drop (z7 - z15.toNat) (trimN b))∧(z8 - z15).toNat<(z8 - x).toNat)))∧(decide (x<z8)=false→z10.same z4))) (by kernel_rfl) ?_
 simp only[vcs]
 obtain⟨va,na⟩:=@trim_val a
 obtain⟨vb,nb⟩:=@trim_val b
 have da:=trim_dig ha
 have db:=trim_dig hb
 have la:=@trim_len a
 rw[←va,←vb]
 generalize trimN a=s at*
 generalize trimN b=t at*
 have lt:valN s<valN t→ -1=cmpN (valN s) (valN t):=fun h=>by unfold cmpN;rw[if_pos h]
 have gt:valN t<valN s→1=cmpN (valN s) (valN t):=fun h=>by unfold cmpN;rw[if_neg (by omega),if_pos h]
 refine⟨hla,hlb,fun hne=>⟨fun h=>lt (len_lt da db nb (by omega)),fun h=>gt (len_lt db da na (by omega))⟩,fun he=>⟨⟨by omega,by omega,?_⟩,?_⟩⟩
 ·rw[List.drop_of_length_le (by omega),List.drop_of_length_le (by omega)]
 rintro i ⟨i0,i1,hd⟩
 refine⟨fun hlt=>?_,fun hge=>?_⟩
 ·have hk:((s.length:Int) - 1 - i).toNat=s.length - 1 - i.toNat:=by omega
  have hk2:s.length - i.toNat=s.length - 1 - i.toNat+1:=by omega
  rw[hk]
  rw[hk2] at hd
  generalize hm:s.length - 1 - i.toNat=m at*
  refine⟨by omega,by omega,by omega,by omega,by omega,by omega,by omega,by omega,fun h=>lt (dig_lt da db (by omega) (by omega) hd h),fun h=>⟨by omega,by omega,by omega,by omega,by omega,by omega,fun h2=>gt (dig_lt db da (by omega) (by omega) hd.symm h2),fun h2=>⟨by omega,⟨by omega,by omega,?_⟩,by omega⟩⟩⟩
  rw[show s.length - (i+1).toNat=m by omega,drop_nthN (show m<s.length by omega),drop_nthN (show m<t.length by omega),hd,show nthD s m 0=nthD t m 0 by omega]
 ·have hz:s.length - i.toNat=0:=by omega
  rw[hz,List.drop_zero,List.drop_zero] at hd
  subst hd
  unfold cmpN
  rw[if_neg (by omega),if_neg (by omega)]
def adC (s t:List Int):Nat→Int
 |0=>0
 |i+1=>(nthD s i 0+adC s t i+nthD t i 0) / 4294967296
def adD (s t:List Int) (i:Nat):Int:=(nthD s i 0+adC s t i+nthD t i 0) % 4294967296
def adR (s t:List Int) (i:Nat):List Int:=(List.range i).map (adD s t)++List.replicate (s.length+1 - i) 0
def big (a:List Int×List Int):List Int:=if a.1.length<a.2.length then a.2 else a.1
def sml (a:List Int×List Int):List Int:=if a.1.length<a.2.length then a.1 else a.2
def r154:SCtr:=⟨72,List Int×List Int,.cons (codR (.i .u32)) (.one (codR (.i .u32))),fun a=>(Dig a.1∧Dig a.2)∧a.1.length≤100000000000∧a.2.length≤100000000000,fun a=> .row (.i .u32) (natL (valN a.1+valN a.2))⟩
def Λ154 (a:List Int×List Int):Nat→LoopAnn
 |6=> .inv Int (fun i=>⟨[(0,.row (.i .u32) (big a)),(1,.row (.i .u32) (sml a)),(5,.ow 0 (adR (big a) (sml a) i.toNat).length 1),(6,.si .u64 (adC (big a) (sml a) i.toNat)),(21,.si .i64 (big a).length),(22,.si .i64 i)],[.row (.i .u32) (adR (big a) (sml a) i.toNat) 81 true]⟩) (fun s=>iS s 22)
  (fun i=>0≤i∧i≤(big a).length) (fun i=>((big a).length - i).toNat) fun _ _=> .look
 |_=> .look
theorem dig_nth {a:List Int} (h:Dig a) (i:Nat):0≤nthD a i 0∧nthD a i 0<4294967296:=by
 by_cases b:i<a.length
 ·rw[nthD_eq b];exact h _ (List.getElem_mem b)
 grind[nthD]
theorem nth_out {a:List Int} {i:Nat} (h:a.length≤i):nthD a i 0=0:=by grind[nthD]
theorem adC_bd {s t:List Int} (b:Dig s) (a:Dig t):∀i,0≤adC s t i∧adC s t i≤1
 |0=>by simp[adC]
 |i+1=>by
  have h:=adC_bd b a i
  have c:=dig_nth b i
  have d:=dig_nth a i
  grind[adC]
theorem adR_len {s t:List Int} {i:Nat} (h:i≤s.length):(adR s t i).length=s.length+1:=by grind[adR]
theorem adR_set {s t:List Int} {i:Nat} {v:Int} (h:i≤s.length):(adR s t i).set i v=(List.range i).map (adD s t)++v::List.replicate (s.length - i) 0:=by
 unfold adR
 have a:s.length+1 - i=(s.length - i)+1:=by omega
 rw[a,List.replicate_succ]
 simp_all
theorem adR_step {s t:List Int} {i:Nat} (h:i<s.length):adR s t (i+1)=(adR s t i).set i (adD s t i):=by
 rw[adR_set (by omega)]
 unfold adR
 rw[List.range_succ,List.map_append,List.append_assoc]
 simp_all
theorem take_snoc0 {a:List Int} {i:Nat}:valN (a.take (i+1))=valN (a.take i)+4294967296^i*nthD a i 0:=by
 by_cases h:i<a.length
 ·grind[take_snoc,val_snoc]
 ·rw[nth_out (by omega),List.take_of_length_le (by omega),List.take_of_length_le (by omega)]
  simp
theorem ad_val {s t:List Int}:∀i,valN ((List.range i).map (adD s t))+4294967296^i*adC s t i=valN (s.take i)+valN (t.take i)
 |0=>by simp[adC,valN]
 |i+1=>by
  have a:=@ad_val s t i
  rw[List.range_succ,List.map_append,List.map_cons,List.map_nil,val_snoc,take_snoc0,take_snoc0,Int.pow_succ]
  grind[adD,adC]
theorem h154:Holds Try.prog r154:=by
 refine con0 (L:=[r152]) r154 Λ154 (by simpa using h152) ?_
 rintro⟨a,b⟩ ⟨⟨ha,hb⟩,hla,hlb⟩
 simp only at ha hb hla hlb
 refine vcOf (let z0:=(↑a.length:Int);let z1:=(↑b.length:Int);let z2:=z1+(1:Int);let z3:=SId.i .u32;let z4:=SV.row z3 (big (a,b));let z5:=SV.row z3 (sml (a,b));let z6:=adR (big (a,b)) (sml (a,b)) 0;let z7:=SV.ow 0 z6.length 1;let z8:=(↑(big (a,b)).length:Int);let z9:=SV.si .i64 z8;let z10:=SObj.row z3 z6 81 true;let z11:=(↑(big (a,b)).length:Int);let z12:=(↑(sml (a,b)).length:Int);let z13:=z0+(1:Int);(decide (z0<z1)=true→inR .i64 z2∧(0:Int)≤z2∧z2≤z2∧z2*(4:Int)≤(140737488355328:Int)∧z2≤(1000000000000:Int)∧((((SV.row z3 b).same z4∧(SV.row z3 a).same z5∧(SV.ow 0 z2.toNat 1).same z7∧(SV.il .u64 0).same (SV.si .u64 (adC (big (a,b)) (sml (a,b)) 0))∧(SV.si .i64 z1).same z9∧(SV.il .i64 0).same (SV.si .i64 0)∧True)∧(SObj.row z3 ((0:Int)::List.replicate b.length (0:Int)) 81 true).same z10∧True)∧(0:Int)≤(0:Int)∧(0:Int)≤z8)∧∀(x:Int),let z14:=adR (big (a,b)) (sml (a,b)) x.toNat;let z15:=z14.length;let z16:=x+(1:Int);let z17:=adR (big (a,b)) (sml (a,b)) z16.toNat;let z18:=adC (big (a,b)) (sml (a,b)) x.toNat;let z19:=(nthD (big (a,b)) x.toNat (0:Int) % (18446744073709551616:Int)+z18) % (18446744073709551616:Int);let z20:=(z19+nthD (sml (a,b)) x.toNat (0:Int) % (18446744073709551616:Int)) % (18446744073709551616:Int);let z21:=SV.si .u64 (adC (big (a,b)) (sml (a,b)) z16.toNat);let z22:=SV.si .i64 z16;let z23:=SObj.row z3 z17 81 true;let z24:=z14.set z11.toNat (z18 % (4294967296:Int));(0:Int)≤x∧x≤z8→(decide (x<z8)=true→(0:Int)≤x∧x<z11∧x.toNat<(big (a,b)).length∧(decide (x<z12)=true→(0:Int)≤x∧x<z12∧x.toNat<(sml (a,b)).length∧(0:Int)≤(32:Int)∧(32:Int)≤(64:Int)∧z14.length=z15∧(0:Int)≤x∧x<(↑z15:Int)∧z14.length=z15∧x.toNat<z15∧inR .i64 z16∧((z4.same z4∧z5.same z5∧(SV.ow 0 z14.length 1).same (SV.ow 0 z17.length 1)∧(SV.si .u64 (z20 / (4294967296:Int))).same z21∧z9.same z9∧z22.same z22∧True)∧(SObj.row z3 (z14.set x.toNat (z20 % (4294967296:Int))) 81 true).same z23∧True)∧((0:Int)≤z16∧z16≤z8)∧(z8 - z16).toNat<(z8 - x).toNat)∧(decide (x<z12)=false→(0:Int)≤(32:Int)∧(32:Int)≤(64:Int)∧z14.length=z15∧(0:Int)≤x∧x<(↑z15:Int)∧z14.length=z15∧x.toNat<z15∧inR .i64 z16∧((z4.same z4∧z5.same z5∧(SV.ow 0 z14.length 1).same (SV.ow 0 z17.length 1)∧(SV.si .u64 (z19 / (4294967296:Int))).same z21∧z9.same z9∧z22.same z22∧True)∧(SObj.row z3 (z14.set x.toNat (z19 % (4294967296:Int))) 81 true).same z23∧True)∧((0:Int)≤z16∧z16≤z8)∧(z8 - z16).toNat<(z8 - x).toNat))∧(decide (x<z8)=false→z14.length=z15∧(0:Int)≤z11∧z11<(↑z15:Int)∧z14.length=z15∧z11.toNat<z15∧z14.length=z24.length∧z24.length≤1000000000000∧(SV.row z3 (trimN z24)).same (SV.row z3 (natL (valN a+valN b)))))∧(decide (z0<z1)=false→inR .i64 z13∧(0:Int)≤z13∧z13≤z13∧z13*(4:Int)≤(140737488355328:Int)∧z13≤(1000000000000:Int)∧((((SV.row z3 a).same z4∧(SV.row z3 b).same z5∧(SV.ow 0 z13.toNat 1).same z7∧(SV.il .u64 0).same (SV.si .u64 (adC (big (a,b)) (sml (a,b)) 0))∧(SV.si .i64 z0).same z9∧(SV.il .i64 0).same (SV.si .i64 0)∧True)∧(SObj.row z3 ((0:Int)::List.replicate a.length (0:Int)) 81 true).same z10∧True)∧(0:Int)≤(0:Int)∧(0:Int)≤z8)∧∀(x:Int),let z25:=adR (big (a,b)) (sml (a,b)) x.toNat;let z26:=z25.length;let z27:=x+(1:Int);let z28:=adR (big (a,b)) (sml (a,b)) z27.toNat;let z29:=adC (big (a,b)) (sml (a,b)) x.toNat;let z30:=(nthD (big (a,b)) x.toNat (0:Int) % (18446744073709551616:Int)+z29) % (18446744073709551616:Int);let z31:=(z30+nthD (sml (a,b)) x.toNat (0:Int) % (18446744073709551616:Int)) % (18446744073709551616:Int);let z32:=SV.si .u64 (adC (big (a,b)) (sml (a,b)) z27.toNat);let z33:=SV.si .i64 z27;let z34:=SObj.row z3 z28 81 true;let z35:=z25.set z11.toNat (z29 % (4294967296:Int));(0:Int)≤x∧x≤z8→(decide (x<z8)=true→(0:Int)≤x∧x<z11∧x.toNat<(big (a,b)).length∧(decide (x<z12)=true→(0:Int)≤x∧x<z12∧x.toNat<(sml (a,b)).length∧(0:Int)≤(32:Int)∧(32:Int)≤(64:Int)∧z25.length=z26∧(0:Int)≤x∧x<(↑z26:Int)∧z25.length=z26∧x.toNat<z26∧inR .i64 z27∧((z4.same z4∧z5.same z5∧(SV.ow 0 z25.length 1).same (SV.ow 0 z28.length 1)∧(SV.si .u64 (z31 / (4294967296:Int))).same z32∧z9.same z9∧z33.same z33∧True)∧(SObj.row z3 (z25.set x.toNat (z31 % (4294967296:Int))) 81 true).same z34∧True)∧((0:Int)≤z27∧z27≤z8)∧(z8 - z27).toNat<(z8 - x).toNat)∧(decide (x<z12)=false→(0:Int)≤(32:Int)∧(32:Int)≤(64:Int)∧z25.length=z26∧(0:Int)≤x∧x<(↑z26:Int)∧z25.length=z26∧x.toNat<z26∧inR .i64 z27∧((z4.same z4∧z5.same z5∧(SV.ow 0 z25.length 1).same (SV.ow 0 z28.length 1)∧(SV.si .u64 (z30 / (4294967296:Int))).same z32∧z9.same z9∧z33.same z33∧True)∧(SObj.row z3 (z25.set x.toNat (z30 % (4294967296:Int))) 81 true).same z34∧True)∧((0:Int)≤z27∧z27≤z8)∧(z8 - z27).toNat<(z8 - x).toNat))∧(decide (x<z8)=false→z25.length=z26∧(0:Int)≤z11∧z11<(↑z26:Int)∧z25.length=z26∧z11.toNat<z26∧z25.length=z35.length∧z35.length≤1000000000000∧(SV.row z3 (trimN z35)).same (SV.row z3 (natL (valN a+valN b)))))) (by kernel_rfl) ?_
 simp only[vcs]
 have hbs:(a.length<b.length∧big (a,b)=b∧sml (a,b)=a)∨(¬a.length<b.length∧big (a,b)=a∧sml (a,b)=b):=by
  by_cases h:a.length<b.length
  ·exact .inl ⟨h,if_pos h,if_pos h⟩
  ·exact .inr ⟨h,if_neg h,if_neg h⟩
 generalize big (a,b)=s at*
 generalize sml (a,b)=t at*
 have hrow:∀{u v:List Int},u=v→(SObj.row (.i .u32) u 81 true).same (SObj.row (.i .u32) v 81 true):=by rintro _ _ rfl;rfl
 have how:∀{u v:Nat},u=v→(SV.ow 0 u 1).same (SV.ow 0 v 1):=by rintro _ _ rfl;rfl
 have r0:∀u v:List Int,adR u v 0=0::List.replicate u.length 0:=fun u v=>rfl
 refine⟨fun h=>?_,fun h=>?_⟩
 ·obtain⟨h1,e1,e2⟩:a.length<b.length∧s=b∧t=a:=by
   rcases hbs with h2|h2
   ·exact h2
   ·exact absurd (by omega) h2.1
  subst e1 e2
  have hS:Dig s:=by assumption
  have hT:Dig t:=by assumption
  have hts:t.length≤s.length:=by omega
  have bd:=adC_bd hS hT
  refine⟨⟨by omega,by omega⟩,by omega,by omega,by omega,by omega,⟨⟨⟨rfl,rfl,how (by rw[adR_len (by omega)];omega),rfl,rfl⟩,hrow (r0 s t).symm⟩,by omega,by omega⟩,?_⟩
  rintro i ⟨i0,i1⟩
  have l1:=@adR_len s t i.toNat (by omega)
  have b1:=bd i.toNat
  have d1:=dig_nth hS i.toNat
  have d2:=dig_nth hT i.toNat
  refine⟨fun ilt=>?_,fun ige=>?_⟩
  ·have l2:=@adR_len s t (i.toNat+1) (by omega)
   have e:(i+1).toNat=i.toNat+1:=by omega
   have hst:=adR_step (s:=s) (t:=t) (show i.toNat<s.length by omega)
   refine⟨i0,ilt,by omega,fun ht=>?_,fun ht=>?_⟩
   ·have hv:(((nthD s i.toNat 0 % 18446744073709551616+adC s t i.toNat) % 18446744073709551616+nthD t i.toNat 0 % 18446744073709551616) % 18446744073709551616)=nthD s i.toNat 0+adC s t i.toNat+nthD t i.toNat 0:=by omega
    rw[hv,e]
    exact⟨i0,ht,by omega,by omega,by omega,i0,by omega,by omega,by omega,⟨⟨how (by omega),rfl⟩,hrow hst.symm⟩,by omega,by omega⟩
   ·have hz:=nth_out (a:=t) (i:=i.toNat) (by omega)
    have hv:((nthD s i.toNat 0 % 18446744073709551616+adC s t i.toNat) % 18446744073709551616)=nthD s i.toNat 0+adC s t i.toNat+nthD t i.toNat 0:=by omega
    rw[hv,e]
    exact⟨by omega,by omega,i0,by omega,by omega,by omega,⟨⟨how (by omega),rfl⟩,hrow hst.symm⟩,by omega,by omega⟩
  ·have hi:i.toNat=s.length:=by omega
   have hc:adC s t i.toNat % 4294967296=adC s t i.toNat:=by omega
   rw[hc,Int.toNat_natCast,hi]
   rw[hi] at l1 b1
   refine⟨by omega,by omega,by omega,by simp,by simp;omega,?_⟩
   rw[adR_set (Nat.le_refl _),Nat.sub_self,List.replicate_zero,trim_eq ?_]
   ·rw[val_snoc]
    have hv:=@ad_val s t s.length
    rw[List.take_length,List.take_of_length_le hts] at hv
    have hl:((List.range s.length).map (adD s t)).length=s.length:=by simp
    rw[hl,hv]
    try rw[Int.add_comm]
   ·intro d hd
    rcases List.mem_append.1 hd with hd|hd
    ·obtain⟨j,_,rfl⟩:=List.mem_map.1 hd
     unfold adD
     omega
    ·rw[List.mem_singleton] at hd
     omega
 ·obtain⟨h1,e1,e2⟩:¬a.length<b.length∧s=a∧t=b:=by
   rcases hbs with h2|h2
   ·exact absurd h2.1 (by omega)
   ·exact h2
  subst e1 e2
  have hS:Dig s:=by assumption
  have hT:Dig t:=by assumption
  have hts:t.length≤s.length:=by omega
  have bd:=adC_bd hS hT
  refine⟨⟨by omega,by omega⟩,by omega,by omega,by omega,by omega,⟨⟨⟨rfl,rfl,how (by rw[adR_len (by omega)];omega),rfl,rfl⟩,hrow (r0 s t).symm⟩,by omega,by omega⟩,?_⟩
  rintro i ⟨i0,i1⟩
  have l1:=@adR_len s t i.toNat (by omega)
  have b1:=bd i.toNat
  have d1:=dig_nth hS i.toNat
  have d2:=dig_nth hT i.toNat
  refine⟨fun ilt=>?_,fun ige=>?_⟩
  ·have l2:=@adR_len s t (i.toNat+1) (by omega)
   have e:(i+1).toNat=i.toNat+1:=by omega
   have hst:=adR_step (s:=s) (t:=t) (show i.toNat<s.length by omega)
   refine⟨i0,ilt,by omega,fun ht=>?_,fun ht=>?_⟩
   ·have hv:(((nthD s i.toNat 0 % 18446744073709551616+adC s t i.toNat) % 18446744073709551616+nthD t i.toNat 0 % 18446744073709551616) % 18446744073709551616)=nthD s i.toNat 0+adC s t i.toNat+nthD t i.toNat 0:=by omega
    rw[hv,e]
    exact⟨i0,ht,by omega,by omega,by omega,i0,by omega,by omega,by omega,⟨⟨how (by omega),rfl⟩,hrow hst.symm⟩,by omega,by omega⟩
   ·have hz:=nth_out (a:=t) (i:=i.toNat) (by omega)
    have hv:((nthD s i.toNat 0 % 18446744073709551616+adC s t i.toNat) % 18446744073709551616)=nthD s i.toNat 0+adC s t i.toNat+nthD t i.toNat 0:=by omega
    rw[hv,e]
    exact⟨by omega,by omega,i0,by omega,by omega,by omega,⟨⟨how (by omega),rfl⟩,hrow hst.symm⟩,by omega,by omega⟩
  ·have hi:i.toNat=s.length:=by omega
   have hc:adC s t i.toNat % 4294967296=adC s t i.toNat:=by omega
   rw[hc,Int.toNat_natCast,hi]
   rw[hi] at l1 b1
   refine⟨by omega,by omega,by omega,by simp,by simp;omega,?_⟩
   rw[adR_set (Nat.le_refl _),Nat.sub_self,List.replicate_zero,trim_eq ?_]
   ·rw[val_snoc]
    have hv:=@ad_val s t s.length
    rw[List.take_length,List.take_of_length_le hts] at hv
    have hl:((List.range s.length).map (adD s t)).length=s.length:=by simp
    rw[hl,hv]
    try rw[Int.add_comm]
   ·intro d hd
    rcases List.mem_append.1 hd with hd|hd
    ·obtain⟨j,_,rfl⟩:=List.mem_map.1 hd
     unfold adD
     omega
    ·rw[List.mem_singleton] at hd
     omega
def smQ (d:Int):List Int→List Int×Int
 |[]=>([],0)
 |x::l=>(((smQ d l).2*4294967296+x) / d::(smQ d l).1,((smQ d l).2*4294967296+x) % d)
theorem smQ_len {d:Int}:∀{a:List Int},(smQ d a).1.length=a.length
 |[]=>rfl
 |x::l=>by simp[smQ,smQ_len]
theorem smQ_ok {d:Int} (e:0<d) (k:d<4294967296):∀{a:List Int},Dig a→Dig (smQ d a).1∧(0≤(smQ d a).2∧(smQ d a).2<d)∧valN (smQ d a).1*d+(smQ d a).2=valN a
 |[],_=>by grind[smQ,valN]
 |x::l,h=>by
  obtain⟨n,g⟩:=dig_cons.1 h
  obtain⟨j,⟨p,s⟩,o⟩:=smQ_ok e k g
  simp only[smQ]
  generalize (smQ d l).1=q at*
  generalize (smQ d l).2=r at*
  have f:=Int.emod_nonneg (r*4294967296+x) (show d≠0 by omega)
  have i:=Int.emod_lt_of_pos (r*4294967296+x) e
  have c:0≤(r*4294967296+x) / d:=Int.ediv_nonneg (by omega) (by omega)
  have b:(r*4294967296+x) / d<4294967296:=by
   refine Int.ediv_lt_of_lt_mul e ?_
   omega
  refine⟨dig_cons.2 ⟨⟨c,b⟩,j⟩,⟨f,i⟩,?_⟩
  simp only[valN]
  have m:=Int.mul_ediv_add_emod (r*4294967296+x) d
  grind
theorem smQ_div {d:Int} (i:0<d) (h:d<4294967296) {a:List Int} (g:Dig a):trimN (smQ d a).1=natL (valN a / d)∧(smQ d a).2=valN a % d:=by
 obtain⟨e,⟨c,b⟩,f⟩:=smQ_ok i h g
 rw[trim_eq e]
 have j:=val_nonneg e
 have k:valN a / d=valN (smQ d a).1:=by
  rw[←f,Int.add_comm,Int.add_mul_ediv_right _ _ (by omega),Int.ediv_eq_zero_of_lt c b,Int.zero_add]
 have l:valN a % d=(smQ d a).2:=by
  rw[←f,Int.add_comm,Int.add_mul_emod_self_right,Int.emod_eq_of_lt c b]
 simp_all
theorem or_add {r x:Int} (d:0≤r) (g:r<4294967296) (a:0≤x) (e:x<4294967296):binK.orI .u64 (r*4294967296) x=r*4294967296+x:=by
 obtain⟨m,rfl⟩:=Int.eq_ofNat_of_zero_le d
 obtain⟨k,rfl⟩:=Int.eq_ofNat_of_zero_le a
 have b:(BitVec.ofInt 64 ((m:Int)*4294967296)).toNat=2^32*m:=by
  grind[BitVec.toNat_ofInt]
 have c:(BitVec.ofInt 64 (k:Int)).toNat=k:=by
  grind
 have f:(BitVec.ofInt 64 ((m:Int)*4294967296) |||BitVec.ofInt 64 (k:Int)).toNat=2^32*m+k:=by
  rw[BitVec.toNat_or,b,c,Nat.two_pow_add_eq_or_of_lt (by omega)]
 show wrapI .u64 ((BitVec.ofInt 64 ((m:Int)*4294967296) |||BitVec.ofInt 64 (k:Int)).toNat:Nat)=_
 grind[wrapI_eq,IntKind.wrap,IntKind.bits,IntKind.signed]
def r167:SCtr:=⟨97,List Int×Int,.cons (codR (.i .u32)) (.one (codI .u32)),fun a=>Dig a.1∧a.1.length≤100000000000∧0<a.2∧a.2<4294967296,fun a=> .tup [.row (.i .u32) (natL (valN a.1 / a.2)),.si .u32 (valN a.1 % a.2)]⟩
def smR (a:List Int) (d:Int) (i:Nat):List Int:=List.replicate (a.length - i) 0++(smQ d (a.drop (a.length - i))).1
def smC (a:List Int) (d:Int) (i:Nat):Int:=(smQ d (a.drop (a.length - i))).2
def Λ167 (a:List Int×Int):Nat→LoopAnn
 |4=> .inv Int (fun i=>⟨[(0,.row (.i .u32) a.1),(1,.si .u32 a.2),(6,.ow 0 (smR a.1 a.2 i.toNat).length 1),(7,.si .u64 (smC a.1 a.2 i.toNat)),(15,.si .i64 a.1.length),(16,.si .i64 i)],[.row (.i .u32) (smR a.1 a.2 i.toNat) 81 true]⟩) (fun s=>iS s 16)
  (fun i=>0≤i∧i≤a.1.length) (fun i=>(a.1.length - i).toNat) fun _ _=> .look
 |_=> .look
theorem smR_len {a:List Int} {d:Int} {i:Nat} (h:i≤a.length):(smR a d i).length=a.length:=by
 grind[smR,smQ_len]
theorem drop_cons {a:List Int} {k:Nat} (h:k<a.length):a.drop k=nthD a k 0::a.drop (k+1):=drop_nthN h
theorem rep_set {q:List Int} {y:Int}:∀k,(List.replicate (k+1) 0++q).set k y=List.replicate k 0++y::q
 |0=>by simp
 |k+1=>by
  have:=@rep_set q y k
  grind
theorem u64_in {n:Int} (b:0≤n) (a:n<18446744073709551616):inR .u64 n:=by
 show IntKind.u64.wrap n=n
 grind[IntKind.wrap,IntKind.bits,IntKind.signed]
theorem h167:Holds Try.prog r167:=by
 refine con0 (L:=[r152]) r167 Λ167 (by simpa using h152) ?_
 rintro⟨a,d⟩ ⟨ha,hla,d0,d1⟩
 simp only at ha hla d0 d1
 refine vcOf (let z0:=(↑a.length:Int);let z1:=SId.i .u32;let z2:=(↑a.length:Int);let z3:=SV.si .i64 z2;let z4:=d % (18446744073709551616:Int);(0:Int)≤z0∧z0≤z0∧z0*(4:Int)≤(140737488355328:Int)∧z0≤(1000000000000:Int)∧((((SV.row z1 a).same (SV.row z1 a)∧(SV.si .u32 d).same (SV.si .u32 d)∧(SV.ow 0 z0.toNat 1).same (SV.ow 0 (smR a d 0).length 1)∧(SV.il .u64 0).same (SV.si .u64 (smC a d 0))∧(SV.si .i64 z0).same z3∧(SV.il .i64 0).same (SV.si .i64 0)∧True)∧(SObj.row z1 (List.replicate z0.toNat (0:Int)) 81 true).same (SObj.row z1 (smR a d 0) 81 true)∧True)∧(0:Int)≤(0:Int)∧(0:Int)≤z2)∧∀(x:Int),let z5:=z0 - (1:Int) - x;let z6:=binK.orI .u64 (smC a d x.toNat*(4294967296:Int) % (18446744073709551616:Int)) (nthD a z5.toNat (0:Int) % (18446744073709551616:Int));let z7:=smR a d x.toNat;let z8:=x+(1:Int);let z9:=SV.si .i64 z8;(0:Int)≤x∧x≤z2→(decide (x<z2)=true→inR .i64 (z0 - (1:Int))∧inR .i64 z5∧(0:Int)≤(32:Int)∧(32:Int)≤(64:Int)∧(0:Int)≤z5∧z5<z0∧z5.toNat<a.length∧z4≠(0:Int)∧inR .u64 (z6.tdiv z4)∧z4≠(0:Int)∧z7.length=z7.length∧(0:Int)≤z5∧z5<(↑z7.length:Int)∧z7.length=z7.length∧z5.toNat<z7.length∧inR .i64 z8∧(((SV.row z1 a).same (SV.row z1 a)∧(SV.si .u32 d).same (SV.si .u32 d)∧(SV.ow 0 z7.length 1).same (SV.ow 0 (smR a d z8.toNat).length 1)∧(SV.si .u64 (z6.tmod z4)).same (SV.si .u64 (smC a d z8.toNat))∧z3.same z3∧z9.same z9∧True)∧(SObj.row z1 (z7.set z5.toNat (z6.tdiv z4 % (4294967296:Int))) 81 true).same (SObj.row z1 (smR a d z8.toNat) 81 true)∧True)∧((0:Int)≤z8∧z8≤z2)∧(z2 - z8).toNat<(z2 - x).toNat)∧(decide (x<z2)=false→z7.length=z7.length∧z7.length≤1000000000000∧(SV.tup [SV.row z1 (trimN z7),SV.si .u32 (smC a d x.toNat % (4294967296:Int))]).same (SV.tup [SV.row z1 (natL (valN a / d)),SV.si .u32 (valN a % d)]))) (by kernel_rfl) ?_
 simp only[vcs]
 have hrow:∀{u v:List Int},u=v→(SObj.row (.i .u32) u 81 true).same (SObj.row (.i .u32) v 81 true):=by rintro _ _ rfl;rfl
 have how:∀{u v:Nat},u=v→(SV.ow 0 u 1).same (SV.ow 0 v 1):=by rintro _ _ rfl;rfl
 have z1:smR a d 0=List.replicate a.length 0:=by simp[smR,smQ]
 have z2:smC a d 0=0:=by simp[smC,smQ]
 refine⟨by omega,by omega,by omega,by omega,⟨⟨⟨how (by rw[smR_len (by omega)];omega),z2.symm⟩,hrow (by rw[z1,Int.toNat_natCast])⟩,by omega,by omega⟩,?_⟩
 rintro i ⟨i0,i1⟩
 have l1:=@smR_len a d i.toNat (by omega)
 have l2:=fun h=>@smR_len a d (i+1).toNat h
 have dd:d % 18446744073709551616=d:=by omega
 refine⟨fun ilt=>?_,fun ige=>?_⟩
 ·have hx:((a.length:Int) - 1 - i).toNat=a.length - 1 - i.toNat:=by omega
  have hk1:a.length - i.toNat=a.length - 1 - i.toNat+1:=by omega
  have hk2:a.length - (i+1).toNat=a.length - 1 - i.toNat:=by omega
  have hR:smR a d i.toNat=List.replicate (a.length - 1 - i.toNat+1) 0++(smQ d (a.drop (a.length - 1 - i.toNat+1))).1:=by unfold smR;rw[hk1]
  have hC:smC a d i.toNat=(smQ d (a.drop (a.length - 1 - i.toNat+1))).2:=by unfold smC;rw[hk1]
  have hR2:smR a d (i+1).toNat=List.replicate (a.length - 1 - i.toNat) 0++(smQ d (a.drop (a.length - 1 - i.toNat))).1:=by unfold smR;rw[hk2]
  have hC2:smC a d (i+1).toNat=(smQ d (a.drop (a.length - 1 - i.toNat))).2:=by unfold smC;rw[hk2]
  have hlt:a.length - 1 - i.toNat<a.length:=by omega
  rw[hx]
  have l3:=l2 (by omega)
  generalize a.length - 1 - i.toNat=k at*
  have hdr:=drop_cons hlt
  have hdig:Dig (a.drop k):=fun z hz=>ha z (List.mem_of_mem_drop hz)
  obtain⟨q1,q2,q3⟩:=smQ_ok d0 d1 (a:=a.drop (k+1)) (fun z hz=>ha z (List.mem_of_mem_drop hz))
  obtain⟨p1,p2,p3⟩:=smQ_ok d0 d1 hdig
  rw[hdr] at hR2 hC2 p1 p2
  simp only[smQ] at hR2 hC2 p1 p2
  have hxd:=dig_nth ha k
  rw[←hC] at hR2 hC2 p1 p2 q2
  have e1:smC a d i.toNat*4294967296 % 18446744073709551616=smC a d i.toNat*4294967296:=by omega
  have e2:nthD a k 0 % 18446744073709551616=nthD a k 0:=by omega
  rw[e1,e2,dd,or_add (by omega) (by omega) hxd.1 hxd.2]
  have hv0:0≤smC a d i.toNat*4294967296+nthD a k 0:=by omega
  rw[Int.tdiv_eq_ediv_of_nonneg hv0,Int.tmod_eq_emod_of_nonneg hv0]
  have hq:=(dig_cons.1 p1).1
  have hqm:(smC a d i.toNat*4294967296+nthD a k 0) / d % 4294967296=(smC a d i.toNat*4294967296+nthD a k 0) / d:=Int.emod_eq_of_lt hq.1 hq.2
  rw[hqm]
  refine⟨by omega,by omega,by omega,by omega,by omega,by omega,by omega,by omega,u64_in hq.1 (by omega),by omega,by omega,by omega,by omega,by omega,⟨⟨how (by omega),hC2.symm⟩,hrow ?_⟩,by omega,by omega⟩
  rw[hR2,hR,rep_set]
 ·have hi:a.length - i.toNat=0:=by omega
  have hR:smR a d i.toNat=(smQ d a).1:=by unfold smR;rw[hi];simp
  have hC:smC a d i.toNat=(smQ d a).2:=by unfold smC;rw[hi];simp
  obtain⟨k1,k2⟩:=smQ_div d0 d1 ha
  have hm:=Int.emod_nonneg (valN a) (show d≠0 by omega)
  have hl:=Int.emod_lt_of_pos (valN a) d0
  refine⟨by omega,by rw[hR,k1],?_⟩
  rw[hC,k2]
  omega
def gcdN (x y:Int):Int:=(Nat.gcd x.toNat y.toNat:Nat)
theorem gcdN_step {x y:Int} (h0:0≤x) (h1:0<y):gcdN y (x % y)=gcdN x y:=by
 unfold gcdN
 congr 1
 rw[Nat.gcd_comm x.toNat,Nat.gcd_rec y.toNat x.toNat,Nat.gcd_comm,Int.toNat_emod h0 (by omega)]
theorem gcdN_zero {x:Int} (h0:0≤x):gcdN x 0=x:=by unfold gcdN;simp;omega
def digK:Nat→Int→List Int
 |0,_=>[]
 |k+1,x=>x % 4294967296::digK k (x / 4294967296)
theorem digK_len:∀{k:Nat} {x:Int},(digK k x).length=k
 |0,_=>rfl
 |k+1,x=>by simp[digK,digK_len]
theorem digK_dig:∀{k:Nat} {x:Int},Dig (digK k x)
 |0,_=>by simp[digK,Dig]
 |k+1,x=>dig_cons.2 ⟨by omega,digK_dig⟩
theorem digK_eq:∀{l:List Int},Dig l→digK l.length (valN l)=l
 |[],_=>rfl
 |d::l,h=>by
  obtain⟨e,b⟩:=dig_cons.1 h
  simp only[List.length_cons,digK,valN]
  have c:(d+4294967296*valN l) % 4294967296=d:=by omega
  have a:(d+4294967296*valN l) / 4294967296=valN l:=by omega
  rw[c,a,digK_eq b]
theorem digK_of {l:List Int} {k:Nat} {x:Int} (h:Dig l) (b:l.length=k) (a:valN l=x):l=digK k x:=by
 grind[digK_eq]
theorem pow_pos (k:Nat):(0:Int)<4294967296^k:=Int.pow_pos (by decide)
theorem digK_val:∀{k:Nat} {x:Int},0≤x→x<4294967296^k→valN (digK k x)=x
 |0,x,b,a=>by grind[digK,valN]
 |k+1,x,b,a=>by
  rw[Int.pow_succ] at a
  simp only[digK,valN]
  rw[digK_val (k:=k) (x:=x / 4294967296) (by omega) (by omega)]
  omega
theorem val_app:∀{a b:List Int},valN (a++b)=valN a+4294967296^a.length*valN b
 |[],b=>by simp[valN]
 |d::l,b=>by
  simp only[List.cons_append,valN,val_app,List.length_cons,Int.pow_succ,Int.mul_add]
  grind
theorem val_set:∀{l:List Int} {j:Nat} {v:Int},j<l.length→valN (l.set j v)=valN l+4294967296^j*(v - nthD l j 0)
 |[],_,_,h=>by simp at h
 |d::l,0,v,_=>by grind[valN,nthD]
 |d::l,j+1,v,h=>by
  have a:=@val_set l j v (by simpa using h)
  grind[nthD,valN]
theorem dig_set {l:List Int} {j:Nat} {v:Int} (h:Dig l) (c:0≤v) (b:v<4294967296):Dig (l.set j v):=by
 intro d a
 rcases List.mem_or_eq_of_mem_set a with a|rfl
 ·exact h d a
 omega
theorem dig_drop {a:List Int} (h:Dig a) (n:Nat):Dig (a.drop n):=fun d b=>h d (List.mem_of_mem_drop b)
theorem dig_app {a b:List Int} (e:Dig a) (c:Dig b):Dig (a++b):=fun d f=>by
 rcases List.mem_append.1 f with h|h
 ·exact e d h
 ·exact c d h
theorem dig_one {x:Int} (b:0≤x) (a:x<4294967296):Dig [x]:=dig_cons.2 ⟨⟨b,a⟩,by simp[Dig]⟩
theorem nth_set_self {l:List Int} {j:Nat} {v:Int} (h:j<l.length):nthD (l.set j v) j 0=v:=by
 grind[nthD]
theorem nth_set_ne {l:List Int} {i j:Nat} {v:Int} (h:i≠j):nthD (l.set i v) j 0=nthD l j 0:=by
 grind[nthD]
theorem nth_small:∀{l:List Int} {i j:Nat},Dig l→valN l<4294967296^i→i≤j→nthD l j 0=0
 |[],_,_,_,_,_=>by simp[nthD]
 |d::l,0,j,h,a,c=>by
  obtain⟨e,b⟩:=dig_cons.1 h
  have:=val_nonneg b
  simp only[valN,Int.pow_zero] at a
  have f:d=0:=by omega
  have g:valN l=0:=by omega
  cases j with
  |zero=>simp[nthD,f]
  |succ j=>
   have:=nth_small (l:=l) (i:=0) (j:=j) b (by simp;omega) (by omega)
   grind[nthD]
 |d::l,i+1,j,h,a,c=>by
  obtain⟨e,b⟩:=dig_cons.1 h
  cases j with
  |zero=>omega
  |succ j=>
   rw[Int.pow_succ] at a
   simp only[valN] at a
   have:=nth_small (l:=l) (i:=i) (j:=j) b (by omega) (by omega)
   grind[nthD]
def mulI (o b:List Int) (x:Int) (i:Nat):Nat→List Int×Int
 |0=>(o,0)
 |k+1=>((mulI o b x i k).1.set (i+k) ((x*nthD b k 0+nthD (mulI o b x i k).1 (i+k) 0+(mulI o b x i k).2) % 4294967296),(x*nthD b k 0+nthD (mulI o b x i k).1 (i+k) 0+(mulI o b x i k).2) / 4294967296)
theorem mulI_ok {o b:List Int} {x:Int} {i:Nat} (d:Dig o) (g:Dig b) (f:0≤x) (m:x<4294967296):∀{k:Nat},i+k≤o.length→
  Dig (mulI o b x i k).1∧(mulI o b x i k).1.length=o.length∧(0≤(mulI o b x i k).2∧(mulI o b x i k).2<4294967296)∧(∀j,i+k≤j→nthD (mulI o b x i k).1 j 0=nthD o j 0)∧
  valN (mulI o b x i k).1+4294967296^(i+k)*(mulI o b x i k).2=valN o+4294967296^i*(x*valN (b.take k))
 |0,h=>by simp[mulI,d,valN]
 |k+1,h=>by
  obtain⟨l,t,⟨v,s⟩,u,r⟩:=@mulI_ok o b x i d g f m k (by omega)
  simp only[mulI]
  generalize (mulI o b x i k).1=p at*
  generalize (mulI o b x i k).2=c at*
  have a:=dig_nth g k
  have q:=dig_nth l (i+k)
  have n:0≤x*nthD b k 0:=Int.mul_nonneg f a.1
  have e:x*nthD b k 0≤4294967295*4294967295:=Int.mul_le_mul (by omega) (by omega) a.1 (by omega)
  grind[dig_set,val_set,take_snoc0,nthD]
theorem howN {i u v:Nat} (h:u=v):(SV.ow i u 1).same (SV.ow i v 1):=by subst h;rfl
theorem rowN {u v:List Int} (h:u=v):(SV.row (.i .u32) u).same (SV.row (.i .u32) v):=by subst h;rfl
theorem nilN {l:List Int} (h:l=[]):(SV.row (.i .i64) []).same (SV.row (.i .u32) l):=by subst h;rfl
def sbO (x y:Int):SV:=.tup [.row (.i .u32) (natL (x - y)),.sb (decide (y≤x))]
theorem natL_neg {n:Int} (h:n≤0):natL n=[]:=by
 unfold natL
 rw[show n.toNat=0 by omega]
 rfl
def r155:SCtr:=⟨76,List Int×List Int,.cons (codR (.i .u32)) (.one (codR (.i .u32))),fun a=>(Dig a.1∧Dig a.2)∧a.1.length≤100000000000∧a.2.length≤100000000000,
 fun a=>sbO (valN a.1) (valN a.2)⟩
def Λ155 (a:List Int×List Int):Nat→LoopAnn
 |7=> .inv (Int×Int×List Int) (fun x=>⟨[(0,.row (.i .u32) (trimN a.1)),(1,.row (.i .u32) (trimN a.2)),(6,.ow 0 x.2.2.length 1),(7,.si .u64 x.2.1),(22,.si .i64 (trimN a.1).length),(23,.si .i64 x.1)],[.row (.i .u32) x.2.2 81 true]⟩)
  (fun s=>(iS s 23,iS s 7,oS (.i .u32) s 0))
  (fun x=>(0≤x.1∧x.1≤(trimN a.1).length)∧(0≤x.2.1∧x.2.1≤1)∧Dig x.2.2∧x.2.2.length=(trimN a.1).length∧(∀j,x.1.toNat≤j→nthD x.2.2 j 0=0)∧
   valN x.2.2 - 4294967296^x.1.toNat*x.2.1=valN ((trimN a.1).take x.1.toNat) - valN ((trimN a.2).take x.1.toNat)) (fun x=>((trimN a.1).length - x.1).toNat) fun _ _=> .look
 |_=> .look
theorem sb_step {s t row:List Int} {i:Nat} {br d v c:Int} (hs:Dig s) (ht:Dig t) (hr:Dig row) (hl:row.length=s.length) (hz:∀j,i≤j→nthD row j 0=0)
  (hv:valN row - 4294967296^i*br=valN (s.take i) - valN (t.take i)) (hi:i<s.length) (hd:d=nthD s i 0 - br - nthD t i 0) (h0:0≤v∧v<4294967296) (hc:v - 4294967296*c=d):
  Dig (row.set i v)∧(row.set i v).length=s.length∧(∀j,i+1≤j→nthD (row.set i v) j 0=0)∧valN (row.set i v) - 4294967296^(i+1)*c=valN (s.take (i+1)) - valN (t.take (i+1)):=by
 refine⟨dig_set hr h0.1 h0.2,by simp[hl],fun j hj=>by rw[nth_set_ne (by omega)];exact hz j (by omega),?_⟩
 rw[val_set (by omega),take_snoc0,take_snoc0,hz i (Nat.le_refl _),Int.pow_succ,Int.sub_zero]
 have h1:(4294967296:Int)^i*(v - 4294967296*c)=4294967296^i*(nthD s i 0 - br - nthD t i 0):=by rw[hc,hd]
 simp only[Int.mul_sub] at h1
 rw[←Int.mul_assoc] at h1
 omega
theorem h155:Holds Try.prog r155:=by
 refine con0 (L:=[r152,r132]) r155 Λ155 (by simpa using⟨h152,h132⟩) ?_
 rintro⟨a,b⟩ ⟨⟨ha,hb⟩,hla,hlb⟩
 simp only at ha hb hla hlb
 refine vcOf (let z0:Nat:=(trimN a).length;let z1:=decide (cmpN (valN (trimN a)) (valN (trimN b))<(0:Int));let z2:=SId.i .u32;let z3:=SV.tup [SV.row z2 (natL (valN a - valN b)),SV.sb (decide (valN b≤valN a))];let z4:=(↑(trimN a).length:Int);let z5:=List.replicate z4.toNat (0:Int);let z6:=(↑z0:Int);let z7:=SV.si .i64 z6;let z8:=SObj.row z2 z5 81 true;let z9:=(↑(trimN b).length:Int);a.length≤1000000000000∧b.length≤1000000000000∧((Dig (trimN a)∧Dig (trimN b))∧z0≤1000000000000∧(trimN b).length≤1000000000000)∧(z1=true→(SV.tup [SV.row (SId.i .i64) [],SV.bl false]).same z3)∧(z1=false→(0:Int)≤z4∧z4≤z4∧z4*(4:Int)≤(140737488355328:Int)∧z4≤(1000000000000:Int)∧((((SV.row z2 (trimN a)).same (SV.row z2 (trimN a))∧(SV.row z2 (trimN b)).same (SV.row z2 (trimN b))∧(SV.ow 0 z4.toNat 1).same (SV.ow 0 z5.length 1)∧(SV.il .u64 0).same (SV.si .u64 0)∧(SV.si .i64 z4).same z7∧(SV.il .i64 0).same (SV.si .i64 0)∧True)∧z8.same z8∧True)∧((0:Int)≤(0:Int)∧(0:Int)≤z6)∧((0:Int)≤(0:Int)∧(0:Int)≤(1:Int))∧Dig z5∧z5.length=z0∧(∀(j:Nat),0≤j→nthD z5 j (0:Int)=(0:Int))∧valN z5 - (0:Int)=(0:Int))∧∀(x:Int×Int×List Int),let z10:=x.snd.snd.length;let z11:=x.fst.toNat;let z12:=x.snd.snd.length;let z13:=x.fst+(1:Int);let z14:=SV.ow 0 z10 1;let z15:=(nthD (trimN a) z11 (0:Int) % (18446744073709551616:Int) - x.snd.fst) % (18446744073709551616:Int);let z16:=(z15 - nthD (trimN b) z11 (0:Int) % (18446744073709551616:Int)) % (18446744073709551616:Int);let z17:=x.snd.snd.set z11 (z16 % (4294967296:Int));let z18:=z16 / (9223372036854775808:Int);let z19:=SV.si .u64 z18;let z20:=SV.si .i64 z13;let z21:=SObj.row z2 z17 81 true;let z22:=z13.toNat;let z23:=(4294967296:Int)^z22;let z24:=valN (List.take z22 (trimN a)) - valN (List.take z22 (trimN b));let z25:=x.snd.snd.set z11 (z15 % (4294967296:Int));let z26:=z15 / (9223372036854775808:Int);let z27:=SV.si .u64 z26;let z28:=SObj.row z2 z25 81 true;((0:Int)≤x.fst∧x.fst≤z6)∧((0:Int)≤x.snd.fst∧x.snd.fst≤(1:Int))∧Dig x.snd.snd∧z10=z0∧(∀(j:Nat),z11≤j→nthD x.snd.snd j (0:Int)=(0:Int))∧valN x.snd.snd - (4294967296:Int)^z11*x.snd.fst=valN (List.take z11 (trimN a)) - valN (List.take z11 (trimN b))→(decide (x.fst<z6)=true→(0:Int)≤x.fst∧x.fst<z4∧z11<(trimN a).length∧(decide (x.fst<z9)=true→(0:Int)≤x.fst∧x.fst<z9∧z11<(trimN b).length∧(0:Int)≤(63:Int)∧(63:Int)≤(64:Int)∧z10=z12∧(0:Int)≤x.fst∧x.fst<(↑z12:Int)∧z10=z12∧z11<z12∧inR .i64 z13∧(((SV.row z2 (trimN a)).same (SV.row z2 (trimN a))∧(SV.row z2 (trimN b)).same (SV.row z2 (trimN b))∧z14.same (SV.ow 0 z17.length 1)∧z19.same z19∧z7.same z7∧z20.same z20∧True)∧z21.same z21∧True)∧(((0:Int)≤z13∧z13≤z6)∧((0:Int)≤z18∧z18≤(1:Int))∧Dig z17∧z17.length=z0∧(∀(j:Nat),z22≤j→nthD z17 j (0:Int)=(0:Int))∧valN z17 - z23*z18=z24)∧(z6 - z13).toNat<(z6 - x.fst).toNat)∧(decide (x.fst<z9)=false→(0:Int)≤(63:Int)∧(63:Int)≤(64:Int)∧z10=z12∧(0:Int)≤x.fst∧x.fst<(↑z12:Int)∧z10=z12∧z11<z12∧inR .i64 z13∧(((SV.row z2 (trimN a)).same (SV.row z2 (trimN a))∧(SV.row z2 (trimN b)).same (SV.row z2 (trimN b))∧z14.same (SV.ow 0 z25.length 1)∧z27.same z27∧z7.same z7∧z20.same z20∧True)∧z28.same z28∧True)∧(((0:Int)≤z13∧z13≤z6)∧((0:Int)≤z26∧z26≤(1:Int))∧Dig z25∧z25.length=z0∧(∀(j:Nat),z22≤j→nthD z25 j (0:Int)=(0:Int))∧valN z25 - z23*z26=z24)∧(z6 - z13).toNat<(z6 - x.fst).toNat))∧(decide (x.fst<z6)=false→z10=z12∧z10≤1000000000000∧(SV.tup [SV.row z2 (trimN x.snd.snd),SV.bl true]).same z3))) (by kernel_rfl) ?_
 simp only[vcs]
 obtain⟨va,na⟩:=@trim_val a
 obtain⟨vb,nb⟩:=@trim_val b
 have da:=trim_dig ha
 have db:=trim_dig hb
 have la:=@trim_len a
 have lb:=@trim_len b
 have pa:=val_nonneg da
 have pb:=val_nonneg db
 rw[←va,←vb]
 generalize trimN a=s at*
 generalize trimN b=t at*
 have hr0:∀n j,nthD (List.replicate n (0:Int)) j 0=0:=fun n j=>by
  unfold nthD
  rw[List.getElem?_replicate]
  split<;>rfl
 have hd0:∀n,Dig (List.replicate n 0):=fun n d hd=>by
  have:=List.eq_of_mem_replicate hd
  omega
 have hv0:∀n,valN (List.replicate n 0)=0:=fun n=>by
  induction n with
  |zero=>rfl
  |succ n ih=>simp only[List.replicate_succ,valN,ih];omega
 refine⟨by omega,by omega,⟨⟨da,db⟩,by omega,by omega⟩,fun hlt=>?_,fun hge=>⟨by omega,by omega,by omega,by omega,?_,?_⟩⟩
 ·have hlt2:valN s<valN t:=by unfold cmpN at hlt;split at hlt<;>(try split at hlt)<;>omega
  refine⟨nilN (natL_neg (by omega)),?_⟩
  rw[eq_comm,decide_eq_false_iff_not]
  omega
 ·repeat' refine And.intro ?_ ?_
  all_goals first|omega|exact howN (by simp)|exact hd0 _|exact fun j _=>hr0 _ j|(simp;done)|(rw[hv0];rfl)
 have hge2:valN t≤valN s:=by unfold cmpN at hge;split at hge<;>(try split at hge)<;>omega
 rintro⟨i,br,row⟩ ⟨⟨i0,i1⟩,⟨b0,b1⟩,hr,hl,hz,hv⟩
 simp only at i0 i1 b0 b1 hr hl hz hv ⊢
 refine⟨fun ilt=>?_,fun ige=>?_⟩
 ·have d1:=dig_nth da i.toNat
  have d2:=dig_nth db i.toNat
  have e:(i+1).toNat=i.toNat+1:=by omega
  refine⟨i0,ilt,by omega,fun ht=>?_,fun ht=>?_⟩
  ·generalize hq:((nthD s i.toNat 0 % 18446744073709551616 - br) % 18446744073709551616 - nthD t i.toNat 0 % 18446744073709551616) % 18446744073709551616=q
   obtain⟨k1,k2,k3,k4⟩:=sb_step (v:=q % 4294967296) (c:=q / 9223372036854775808) da db hr hl hz hv (by omega) rfl (by omega) (by omega)
   rw[e]
   repeat' refine And.intro ?_ ?_
   all_goals first|omega|exact howN (by simp)|exact k1|exact k2|exact k3|exact k4
  ·have hz2:=nth_out (a:=t) (i:=i.toNat) (by omega)
   generalize hq:(nthD s i.toNat 0 % 18446744073709551616 - br) % 18446744073709551616=q
   obtain⟨k1,k2,k3,k4⟩:=sb_step (v:=q % 4294967296) (c:=q / 9223372036854775808) da db hr hl hz hv (by omega) rfl (by omega) (by omega)
   rw[e]
   repeat' refine And.intro ?_ ?_
   all_goals first|omega|exact howN (by simp)|exact k1|exact k2|exact k3|exact k4
 ·have hi:i.toNat=s.length:=by omega
  have hlen:t.length≤s.length:=by
   by_cases h:s.length<t.length
   ·have:=len_lt da db nb h
    omega
   ·omega
  rw[hi,List.take_length,List.take_of_length_le hlen] at hv
  have hbd:=val_bdN hr
  have hp:=pow_pos s.length
  rw[hl] at hbd
  have hb0:br=0:=by
   by_cases h:br=0
   ·exact h
   ·have:br=1:=by omega
    subst this
    omega
  rw[hb0,Int.mul_zero,Int.sub_zero] at hv
  refine⟨by omega,?_,?_⟩
  ·rw[trim_eq hr,hv]
  ·rw[eq_comm,decide_eq_true_eq]
   exact hge2
theorem rep_nth {n j:Nat}:nthD (List.replicate n (0:Int)) j 0=0:=by
 unfold nthD
 rw[List.getElem?_replicate]
 split<;>rfl
theorem rep_dig {n:Nat}:Dig (List.replicate n 0):=fun d hd=>by
 have:=List.eq_of_mem_replicate hd
 omega
theorem rep_val:∀{n:Nat},valN (List.replicate n 0)=0
 |0=>rfl
 |n+1=>by simp only[List.replicate_succ,valN,@rep_val n];omega
theorem mulI_succ {o b:List Int} {x:Int} {i k:Nat}:mulI o b x i (k+1)=((mulI o b x i k).1.set (i+k) ((x*nthD b k 0+nthD (mulI o b x i k).1 (i+k) 0+(mulI o b x i k).2) % 4294967296),(x*nthD b k 0+nthD (mulI o b x i k).1 (i+k) 0+(mulI o b x i k).2) / 4294967296):=rfl
def r153:SCtr:=⟨75,List Int×List Int,.cons (codR (.i .u32)) (.one (codR (.i .u32))),fun a=>(Dig a.1∧Dig a.2)∧a.1.length≤100000000000∧a.2.length≤100000000000,
 fun a=> .row (.i .u32) (natL (valN a.1*valN a.2))⟩
def stM (a:List Int×List Int) (row:List Int):SStore:=[.row (.i .u32) row 81 true]
def Λ153 (a:List Int×List Int):Nat→LoopAnn
 |3=> .inv (Int×List Int) (fun x=>⟨[(0,.row (.i .u32) a.1),(1,.row (.i .u32) a.2),(5,.ow 0 x.2.length 1),(17,.si .i64 a.1.length),(18,.si .i64 x.1)],stM a x.2⟩)
  (fun s=>(iS s 18,oS (.i .u32) s 0))
  (fun x=>(0≤x.1∧x.1≤a.1.length)∧Dig x.2∧x.2.length=a.1.length+a.2.length∧valN x.2=valN (a.1.take x.1.toNat)*valN a.2) (fun x=>(a.1.length - x.1).toNat)
  fun x=>fun
   |7=> .inv (Int×Int×List Int) (fun y=>⟨[(0,.row (.i .u32) a.1),(1,.row (.i .u32) a.2),(5,.ow 0 y.2.2.length 1),(6,.si .i64 x.1),(7,.si .u64 y.2.1),(17,.si .i64 a.1.length),(18,.si .i64 x.1),(22,.si .i64 a.2.length),(23,.si .i64 y.1)],stM a y.2.2⟩)
    (fun s=>(iS s 23,iS s 7,oS (.i .u32) s 0))
    (fun y=>(0≤y.1∧y.1≤a.2.length)∧y.2.2=(mulI x.2 a.2 (nthD a.1 x.1.toNat 0) x.1.toNat y.1.toNat).1∧y.2.1=(mulI x.2 a.2 (nthD a.1 x.1.toNat 0) x.1.toNat y.1.toNat).2) (fun y=>(a.2.length - y.1).toNat) fun _ _=> .look
   |_=> .look
 |_=> .look
theorem h153:Holds Try.prog r153:=by
 refine con0 (L:=[r152]) r153 Λ153 (by simpa using h152) ?_
 rintro⟨a,b⟩ ⟨⟨ha,hb⟩,hla,hlb⟩
 simp only at ha hb hla hlb
 refine vcOf (let z0:=(↑a.length:Int);let z1:=(↑b.length:Int);let z2:=z0+z1;let z3:=SId.i .u32;let z4:=List.replicate z2.toNat (0:Int);let z5:=(↑a.length:Int);let z6:=SV.si .i64 z5;let z7:=SObj.row z3 z4 81 true;let z8:=a.length+b.length;let z9:=(↑b.length:Int);let z10:=SV.si .i64 z9;inR .i64 z2∧(0:Int)≤z2∧z2≤z2∧z2*(4:Int)≤(140737488355328:Int)∧z2≤(1000000000000:Int)∧((((SV.row z3 a).same (SV.row z3 a)∧(SV.row z3 b).same (SV.row z3 b)∧(SV.ow 0 z2.toNat 1).same (SV.ow 0 z4.length 1)∧(SV.si .i64 z0).same z6∧(SV.il .i64 0).same (SV.si .i64 0)∧True)∧z7.same z7∧True)∧((0:Int)≤(0:Int)∧(0:Int)≤z5)∧Dig z4∧z4.length=z8∧valN z4=valN []*valN b)∧∀(x:Int×List Int),let z11:=x.snd.length;let z12:=x.fst.toNat;let z13:=SV.ow 0 z11 1;let z14:=SV.si .i64 x.fst;let z15:=SObj.row z3 x.snd 81 true;let z16:=nthD a z12 (0:Int);let z17:=mulI x.snd b z16 z12 0;let z18:=x.fst+(1:Int);let z19:=SV.si .i64 z18;((0:Int)≤x.fst∧x.fst≤z5)∧Dig x.snd∧z11=z8∧valN x.snd=valN (List.take z12 a)*valN b→(decide (x.fst<z5)=true→((((SV.row z3 a).same (SV.row z3 a)∧(SV.row z3 b).same (SV.row z3 b)∧z13.same z13∧z14.same z14∧(SV.il .u64 0).same (SV.si .u64 0)∧z6.same z6∧z14.same z14∧(SV.si .i64 z1).same z10∧(SV.il .i64 0).same (SV.si .i64 0)∧True)∧z15.same z15∧True)∧((0:Int)≤(0:Int)∧(0:Int)≤z9)∧x.snd=z17.fst∧(0:Int)=z17.snd)∧∀(x_1:Int×Int×List Int),let z20:=mulI x.snd b z16 z12 x_1.fst.toNat;let z21:=x.fst+x_1.fst;let z22:=x_1.snd.snd.length;let z23:=x_1.fst+(1:Int);let z24:=SV.ow 0 x_1.snd.snd.length 1;let z25:=((z16 % (18446744073709551616:Int)*(nthD b x_1.fst.toNat (0:Int) % (18446744073709551616:Int)) % (18446744073709551616:Int)+nthD x_1.snd.snd z21.toNat (0:Int) % (18446744073709551616:Int)) % (18446744073709551616:Int)+x_1.snd.fst) % (18446744073709551616:Int);let z26:=x_1.snd.snd.set z21.toNat (z25 % (4294967296:Int));let z27:=z25 / (4294967296:Int);let z28:=SV.si .u64 z27;let z29:=SV.si .i64 z23;let z30:=SObj.row z3 z26 81 true;let z31:=mulI x.snd b z16 z12 z23.toNat;let z32:=x.fst+z1;let z33:=x_1.snd.snd.set z32.toNat (x_1.snd.fst % (4294967296:Int));let z34:=SObj.row z3 z33 81 true;((0:Int)≤x_1.fst∧x_1.fst≤z9)∧x_1.snd.snd=z20.fst∧x_1.snd.fst=z20.snd→(decide (x_1.fst<z9)=true→(0:Int)≤x.fst∧x.fst<z0∧z12<a.length∧(0:Int)≤x_1.fst∧x_1.fst<z1∧x_1.fst.toNat<b.length∧inR .i64 z21∧x_1.snd.snd.length=z22∧(0:Int)≤z21∧z21<(↑z22:Int)∧x_1.snd.snd.length=z22∧z21.toNat<z22∧inR .i64 z21∧(0:Int)≤(32:Int)∧(32:Int)≤(64:Int)∧x_1.snd.snd.length=z22∧(0:Int)≤z21∧z21<(↑z22:Int)∧x_1.snd.snd.length=z22∧z21.toNat<z22∧inR .i64 z23∧(((SV.row z3 a).same (SV.row z3 a)∧(SV.row z3 b).same (SV.row z3 b)∧z24.same (SV.ow 0 z26.length 1)∧z14.same z14∧z28.same z28∧z6.same z6∧z14.same z14∧z10.same z10∧z29.same z29∧True)∧z30.same z30∧True)∧(((0:Int)≤z23∧z23≤z9)∧z26=z31.fst∧z27=z31.snd)∧(z9 - z23).toNat<(z9 - x_1.fst).toNat)∧(decide (x_1.fst<z9)=false→inR .i64 z32∧x_1.snd.snd.length=z22∧(0:Int)≤z32∧z32<(↑z22:Int)∧x_1.snd.snd.length=z22∧z32.toNat<z22∧inR .i64 z18∧(((SV.row z3 a).same (SV.row z3 a)∧(SV.row z3 b).same (SV.row z3 b)∧z24.same (SV.ow 0 z33.length 1)∧z6.same z6∧z19.same z19∧True)∧z34.same z34∧True)∧(((0:Int)≤z18∧z18≤z5)∧Dig z33∧z33.length=z8∧valN z33=valN (List.take z18.toNat a)*valN b)∧(z5 - z18).toNat<(z5 - x.fst).toNat))∧(decide (x.fst<z5)=false→z11=x.snd.length∧z11≤1000000000000∧(SV.row z3 (trimN x.snd)).same (SV.row z3 (natL (valN a*valN b))))) (by kernel_rfl) ?_
 simp only[vcs]
 refine⟨by omega,by omega,by omega,by omega,by omega,?_,?_⟩
 ·repeat' refine And.intro ?_ ?_
  all_goals first|omega|exact howN (by simp)|exact rep_dig|(simp;omega)|(rw[rep_val];simp[valN])
 rintro⟨i,row⟩ ⟨⟨i0,i1⟩,hr,hl,hv⟩
 simp only at i0 i1 hr hl hv ⊢
 refine⟨fun ilt=>⟨⟨⟨by omega,by omega⟩,rfl,rfl⟩,?_⟩,fun ige=>?_⟩
 ·rintro⟨k,c,ro⟩ ⟨⟨k0,k1⟩,e1,e2⟩
  simp only at k0 k1 e1 e2 ⊢
  have x1:=dig_nth ha i.toNat
  obtain⟨m1,m2,⟨m3,m4⟩,m5,m6⟩:=@mulI_ok row b (nthD a i.toNat 0) i.toNat hr hb x1.1 x1.2 k.toNat (by omega)
  have hp:=@mulI_succ row b (nthD a i.toNat 0) i.toNat k.toNat
  generalize mulI row b (nthD a i.toNat 0) i.toNat k.toNat=M at*
  obtain⟨p,q⟩:=M
  simp only at e1 e2 m1 m2 m3 m4 m5 m6 hp
  subst e1 e2
  have hik:(i+k).toNat=i.toNat+k.toNat:=by omega
  have hk1:(k+1).toNat=k.toNat+1:=by omega
  have hi1:(i+1).toNat=i.toNat+1:=by omega
  refine⟨fun klt=>?_,fun kge=>?_⟩
  ·have x2:=dig_nth hb k.toNat
   have x3:=dig_nth m1 (i.toNat+k.toNat)
   have hxb:0≤nthD a i.toNat 0*nthD b k.toNat 0:=Int.mul_nonneg x1.1 x2.1
   have hxb2:nthD a i.toNat 0*nthD b k.toNat 0≤4294967295*4294967295:=Int.mul_le_mul (by omega) (by omega) x2.1 (by omega)
   rw[hik,hk1,hp]
   have hq:(((nthD a i.toNat 0 % 18446744073709551616*(nthD b k.toNat 0 % 18446744073709551616) % 18446744073709551616+nthD ro (i.toNat+k.toNat) 0 % 18446744073709551616) % 18446744073709551616+c) % 18446744073709551616)=nthD a i.toNat 0*nthD b k.toNat 0+nthD ro (i.toNat+k.toNat) 0+c:=by
    rw[Int.emod_eq_of_lt (a:=nthD a i.toNat 0) (by omega) (by omega),Int.emod_eq_of_lt (a:=nthD b k.toNat 0) (by omega) (by omega)]
    omega
   rw[hq]
   repeat' refine And.intro ?_ ?_
   all_goals first|omega|exact howN (by simp)|rfl
  ·have hkl:k.toNat=b.length:=by omega
   rw[show(i+(b.length:Int)).toNat=i.toNat+b.length by omega]
   rw[hkl,List.take_length] at m6
   rw[hkl] at m5
   have hz:nthD ro (i.toNat+b.length) 0=0:=by
    rw[m5 _ (Nat.le_refl _)]
    refine nth_small hr (i:=i.toNat+b.length) ?_ (Nat.le_refl _)
    rw[hv,Int.pow_add]
    have t1:=val_bdN (dig_take ha i.toNat)
    rw[List.length_take,Nat.min_eq_left (by omega)] at t1
    have t2:=val_bdN hb
    have t3:=val_nonneg (dig_take ha i.toNat)
    have t4:=val_nonneg hb
    exact Int.lt_of_le_of_lt (Int.mul_le_mul_of_nonneg_left (Int.le_of_lt t2) t3) (Int.mul_lt_mul_of_pos_right t1 (pow_pos _))
   have hc:c % 4294967296=c:=by omega
   rw[hc,hi1]
   have hfin:valN (ro.set (i.toNat+b.length) c)=valN (a.take (i.toNat+1))*valN b:=by
    rw[val_set (by omega),hz,Int.sub_zero,m6,hv,take_snoc0,Int.add_mul,Int.mul_assoc]
   repeat' refine And.intro ?_ ?_
   all_goals first|omega|exact howN (by simp)|exact dig_set m1 m3 m4|exact hfin|(rw[List.length_set];omega)
 ·have hi:i.toNat=a.length:=by omega
  rw[hi,List.take_length] at hv
  refine⟨by omega,?_⟩
  rw[trim_eq hr,hv]
def prt (U:List Int) (j k:Nat):List Int:=(U.drop j).take k
theorem nth_drop {U:List Int} {j k:Nat}:nthD (U.drop j) k 0=nthD U (j+k) 0:=by
 grind[nthD]
theorem prt_succ {U:List Int} {j k:Nat}:valN (prt U j (k+1))=valN (prt U j k)+4294967296^k*nthD U (j+k) 0:=by
 grind[prt,take_snoc0,nth_drop]
theorem prt_set {U:List Int} {j k i:Nat} {d:Int} (h:k≤i):prt (U.set (j+i) d) j k=prt U j k:=by
 unfold prt
 apply List.ext_getElem?
 grind
theorem prt_dig {U:List Int} (h:Dig U) {j k:Nat}:Dig (prt U j k):=dig_take (dig_drop h j) k
theorem prt_len {U:List Int} {j k:Nat} (h:j+k≤U.length):(prt U j k).length=k:=by
 grind[prt]
theorem prt_bd {U:List Int} (h:Dig U) {j k:Nat}:valN (prt U j k)<4294967296^k:=by
 have g:=val_bdN (prt_dig h (j:=j) (k:=k))
 have e:(prt U j k).length≤k:=by grind[prt]
 have i:(4294967296:Int)^(prt U j k).length≤4294967296^k:=by
  have d:∀{a b:Nat},a≤b→(4294967296:Int)^a≤4294967296^b:=fun {a b} c=>by
   obtain⟨m,rfl⟩:=Nat.exists_eq_add_of_le c
   rw[Int.pow_add]
   have f:=pow_pos a
   have l:=pow_pos m
   have:=Int.mul_le_mul_of_nonneg_left (show(1:Int)≤4294967296^m by omega) (Int.le_of_lt f)
   omega
  exact d e
 omega
def wth (U:List Int) (j:Nat) (l:List Int):List Int:=U.take j++(l++U.drop (j+l.length))
theorem nth_ext {a b:List Int} (c:a.length=b.length) (h:∀m,nthD a m 0=nthD b m 0):a=b:=by
 apply List.ext_getElem c
 intro m d e
 have:=h m
 grind[nthD_eq]
theorem wth_len {U l:List Int} {j:Nat} (h:j+l.length≤U.length):(wth U j l).length=U.length:=by
 grind[wth]
theorem wth_nth {U l:List Int} {j m:Nat} (h:j+l.length≤U.length):nthD (wth U j l) m 0=if m<j then nthD U m 0 else if m<j+l.length then nthD l (m - j) 0 else nthD U m 0:=by
 unfold wth nthD
 grind
theorem wth_of {U W:List Int} {j k:Nat} {x:Int} (d:Dig W) (f:W.length=U.length) (g:j+k≤U.length) (e:∀m,(m<j∨j+k≤m)→nthD W m 0=nthD U m 0) (a:valN (prt W j k)=x):W=wth U j (digK k x):=by
 have b:prt W j k=digK k x:=digK_of (prt_dig d) (prt_len (by omega)) a
 have c:=@digK_len k x
 apply nth_ext
 ·grind[wth_len]
 ·intro m
  rw[wth_nth (by omega),c]
  split
  ·simp_all
  ·split
   ·rw[←b]
    unfold prt
    have:nthD ((W.drop j).take k) (m - j) 0=nthD (W.drop j) (m - j) 0:=by
     unfold nthD
     grind
    grind[nth_drop]
   simp_all
section
variable {P V X v1 v2 u2 top rv ru g r:Int}
theorem kn_gt (e:0<P) (n:V=rv+P*(v2+4294967296*v1)) (l:X=ru+P*(u2+4294967296*top)) (a:0≤rv) (f:ru<P) (d:X<4294967296*V) (b:0≤V)
  (c:0≤g) (j:g*v1+r=top) (h:4294967296≤g∨r*4294967296+u2<g*v2):X<g*V:=by
 rcases h with h|h
 ·exact Int.lt_of_lt_of_le d (Int.mul_le_mul_of_nonneg_right h b)
 ·have k:g*V=g*rv+P*(g*v2+4294967296*(top - r)):=by
   grind
  have i:P*(u2+1+4294967296*top)≤P*(g*v2+4294967296*(top - r)):=Int.mul_le_mul_of_nonneg_left (by omega) (Int.le_of_lt e)
  have m:0≤g*rv:=Int.mul_nonneg c a
  grind
theorem kn_le (c:0<P) (k:V=rv+P*(v2+4294967296*v1)) (n:X=ru+P*(u2+4294967296*top)) (a:0≤rv) (b:rv<P) (f:0≤ru) (e:2147483648≤v1) (j:0≤v2)
  (i:0≤g) (d:g<4294967296) (o:g*v1+r=top) (h:g*v2≤r*4294967296+u2):g*V<X+V:=by
 have m:g*V=g*rv+P*(g*v2+4294967296*(top - r)):=by
  grind
 have q:P*(g*v2+4294967296*(top - r))≤P*(u2+4294967296*top):=Int.mul_le_mul_of_nonneg_left (by omega) (Int.le_of_lt c)
 have p:g*rv≤4294967295*rv:=Int.mul_le_mul_of_nonneg_right (by omega) a
 have l:P*4294967296≤P*(v2+4294967296*v1):=Int.mul_le_mul_of_nonneg_left (by omega) (Int.le_of_lt c)
 omega
theorem kn_start (c:0<P) (p:V=rv+P*(v2+4294967296*v1)) (k:X=ru+P*(u2+4294967296*top)) (b:0≤rv) (e:ru<P) (a:0≤v2) (f:u2<4294967296)
  (d:0≤g) (o:g*v1+r=top) (l:r<v1):X<(g+1)*V:=by
 have n:(g+1)*V=(g+1)*rv+((g+1)*(P*v2)+P*(4294967296*((g+1)*v1))):=by
  grind
 have j:0≤(g+1)*rv:=Int.mul_nonneg (by omega) b
 have h:0≤(g+1)*(P*v2):=Int.mul_nonneg (by omega) (Int.mul_nonneg (Int.le_of_lt c) a)
 have i:top+1≤(g+1)*v1:=by grind
 have m:P*(u2+1+4294967296*top)≤P*(4294967296*((g+1)*v1)):=Int.mul_le_mul_of_nonneg_left (by omega) (Int.le_of_lt c)
 grind
theorem kn_top {b a:Int} (c:0<P) (l:V=rv+P*(v2+4294967296*v1)) (k:X=ru+P*(u2+4294967296*(b+4294967296*a))) (d:rv<P) (f:0≤ru) (e:0≤u2) (i:0≤b) (j:v2<4294967296)
  (g:X<4294967296*V):a≤v1:=by
 by_cases h:a≤v1
 ·exact h
 ·exfalso
  have m:P*(4294967296*(4294967296*(v1+1)))≤P*(u2+4294967296*(b+4294967296*a)):=Int.mul_le_mul_of_nonneg_left (by omega) (Int.le_of_lt c)
  have n:P*(v2+4294967296*v1)≤P*(4294967296*(v1+1) - 1):=Int.mul_le_mul_of_nonneg_left (by omega) (Int.le_of_lt c)
  grind
theorem qr_of {X V q:Int} (e:q*V≤X) (c:X<(q+1)*V):X / V=q∧X % V=X - q*V:=by
 rw[Int.add_mul,Int.one_mul] at c
 have d:0<V:=by omega
 have b:X=(X - q*V)+V*q:=by grind
 have a:X / V=q:=by
  conv=>lhs;rw[b]
  rw[Int.add_mul_ediv_left _ _ (by omega),Int.ediv_eq_zero_of_lt (by omega) (by omega),Int.zero_add]
 refine⟨a,?_⟩
 rw[Int.emod_def,a,Int.mul_comm]
end
theorem and_mask {p:Int} (a:0≤p) (e:p<18446744073709551616):binK.andI .u64 p 4294967295=p % 4294967296:=by
 obtain⟨m,rfl⟩:=Int.eq_ofNat_of_zero_le a
 have b:(BitVec.ofInt 64 ((m:Nat):Int)).toNat=m:=by grind
 have c:(BitVec.ofInt 64 4294967295).toNat=4294967295:=by simp_all
 have d:(BitVec.ofInt 64 ((m:Nat):Int) &&&BitVec.ofInt 64 4294967295).toNat=m % 4294967296:=by
  rw[BitVec.toNat_and,b,c]
  exact Nat.and_two_pow_sub_one_eq_mod m 32
 show wrapI .u64 ((BitVec.ofInt 64 ((m:Nat):Int) &&&BitVec.ofInt 64 4294967295).toNat:Nat)=_
 grind[wrapI_eq,IntKind.wrap,IntKind.bits]
theorem ms_step {U W v:List Int} {j i:Nat} {g c b d e:Int} (n:Dig W) (f:W.length=U.length) (o:Dig v) (h:0≤g) (r:g<4294967296) (y:0≤c) (t:c<4294967296) (s:0≤b) (q:b≤1) (u:j+i<U.length)
  (l:∀m,(m<j∨j+i≤m)→nthD W m 0=nthD U m 0)
  (k:valN (prt W j i)=valN (prt U j i) - g*valN (v.take i)+4294967296^i*(c+b))
  (a:0≤d∧d<4294967296) (w:d - 4294967296*e=nthD W (j+i) 0 - (g*nthD v i 0+c) % 4294967296 - b):
  Dig (W.set (j+i) d)∧(W.set (j+i) d).length=U.length∧(0≤(g*nthD v i 0+c) / 4294967296∧(g*nthD v i 0+c) / 4294967296<4294967296)∧
  (∀m,(m<j∨j+(i+1)≤m)→nthD (W.set (j+i) d) m 0=nthD U m 0)∧
  valN (prt (W.set (j+i) d) j (i+1))=valN (prt U j (i+1)) - g*valN (v.take (i+1))+4294967296^(i+1)*((g*nthD v i 0+c) / 4294967296+e):=by
 have x:=dig_nth o i
 have z:0≤g*nthD v i 0:=Int.mul_nonneg h x.1
 have p:g*nthD v i 0≤4294967295*4294967295:=Int.mul_le_mul (by omega) (by omega) x.1 (by omega)
 refine⟨dig_set n a.1 a.2,by simp[f],by omega,fun m A=>by grind[nth_set_ne],?_⟩
 have B:=l (j+i) (.inr (Nat.le_refl _))
 rw[prt_succ,prt_succ,prt_set (Nat.le_refl _),nth_set_self (by omega),k,take_snoc0,Int.pow_succ]
 grind
theorem ab_step {U W v:List Int} {j i:Nat} {c s:Int} (a:Dig W) (d:W.length=U.length) (b:Dig v) (n:0≤c) (l:c≤1) (h:j+i<U.length) (g:Dig U)
  (e:∀m,(m<j∨j+i≤m)→nthD W m 0=nthD U m 0)
  (k:valN (prt W j i)+4294967296^i*c=valN (prt U j i)+valN (v.take i)) (o:s=nthD W (j+i) 0+nthD v i 0+c):
  Dig (W.set (j+i) (s % 4294967296))∧(W.set (j+i) (s % 4294967296)).length=U.length∧(0≤s / 4294967296∧s / 4294967296≤1)∧
  (∀m,(m<j∨j+(i+1)≤m)→nthD (W.set (j+i) (s % 4294967296)) m 0=nthD U m 0)∧
  valN (prt (W.set (j+i) (s % 4294967296)) j (i+1))+4294967296^(i+1)*(s / 4294967296)=valN (prt U j (i+1))+valN (v.take (i+1)):=by
 have x:=dig_nth b i
 have y:=dig_nth a (j+i)
 refine⟨dig_set a (by omega) (by omega),by simp[d],by omega,fun m p=>by grind[nth_set_ne],?_⟩
 have f:=e (j+i) (.inr (Nat.le_refl _))
 rw[prt_succ,prt_succ,prt_set (Nat.le_refl _),nth_set_self (by omega),take_snoc0,Int.pow_succ]
 grind
theorem top_two {v:List Int} {n:Nat} (a:2≤n) (b:v.length=n):valN v=valN (v.take (n - 2))+4294967296^(n - 2)*(nthD v (n - 2) 0+4294967296*nthD v (n - 1) 0):=by
 obtain⟨m,rfl⟩:∃m,n=m+2:=⟨n - 2,by omega⟩
 grind[take_snoc0]
theorem top_three {U:List Int} {j n:Nat} (a:2≤n):valN (prt U j (n+1))=valN (prt U j (n - 2))+4294967296^(n - 2)*(nthD U (j+(n - 2)) 0+4294967296*(nthD U (j+(n - 1)) 0+4294967296*nthD U (j+n) 0)):=by
 obtain⟨m,rfl⟩:∃m,n=m+2:=⟨n - 2,by omega⟩
 grind[prt_succ]
end Go.Vi
