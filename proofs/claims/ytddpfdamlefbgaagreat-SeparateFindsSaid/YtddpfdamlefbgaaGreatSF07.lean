/-
  The solver's recursion.
  Conditions: none.
-/
import Derived.Test.YtddpfdamlefbgaaGreatSF06
import Derived.KernelRfl
set_option maxRecDepth 100000
set_option maxHeartbeats 4000000
set_option linter.all false
namespace Go.Vi
open Go.Proofs.YtddpfdamlefbgaaGreat.Ir
open Go.Proofs
def bitI (m f:Int):Int:=binK.andI .i64 (m / 2^f.toNat) 1
def delI (m f:Int):Int:=binK.andNotI .i64 m (2^f.toNat)
def memL (m:Int):List Int:=[0,1,2,3,4,5,6,7].filter fun f=>decide (bitI m f≠0)
def cnt (m:Int):Nat:=(memL m).length
def bitsChk:Bool:=(List.range 256).all fun m=>decide (0≤bitI m 0)&&[0,1,2,3,4,5,6,7].all fun f=>(decide (bitI m f=0)||decide (bitI m f=1))&&(decide (bitI m f=0)||(decide (0≤delI m f)&&decide (delI m f<256)&&decide (memL (delI m f)=(memL m).filter fun g=>decide (g≠f))))
theorem bits_chk:bitsChk=true:=by kernel_rfl
theorem bit_del {m f:Int} (d:0≤m) (a:m<256) (b:0≤f) (c:f<8):(bitI m f=0∨bitI m f=1)∧(bitI m f≠0→0≤delI m f∧delI m f<256∧memL (delI m f)=(memL m).filter fun g=>decide (g≠f)):=by
 have h:=bits_chk
 simp only[bitsChk,List.all_eq_true,List.mem_range] at h
 have h2:=h m.toNat (by omega)
 simp only[Bool.and_eq_true,List.all_eq_true] at h2
 have h3:=h2.2 f (by have:f=0∨f=1∨f=2∨f=3∨f=4∨f=5∨f=6∨f=7:=by omega
                     simp_all)
 rw[show((m.toNat:Nat):Int)=m from by omega] at h3
 simp only[Bool.and_eq_true,Bool.or_eq_true,decide_eq_true_eq] at h3
 refine⟨h3.1,fun e=>?_⟩
 simp_all
def fstB (m:Int):Int:=(memL m).headD 0
def fstChk:Bool:=(List.range 256).all fun m=>decide (m=0)||(decide (0≤fstB m)&&decide (fstB m<8)&&decide (bitI m (fstB m)≠0)&&decide (memL m=fstB m::memL (delI m (fstB m)))&&
 [0,1,2,3,4,5,6,7].all fun g=>decide (fstB m≤g)||decide (bitI m g=0))
theorem fst_chk:fstChk=true:=by kernel_rfl
theorem fst_ok {m:Int} (d:0≤m) (c:m<256) (h:m≠0):0≤fstB m∧fstB m<8∧bitI m (fstB m)≠0∧memL m=fstB m::memL (delI m (fstB m))∧∀g,0≤g→g<fstB m→bitI m g=0:=by
 have b:=fst_chk
 simp only[fstChk,List.all_eq_true,List.mem_range] at b
 have a:=b m.toNat (by omega)
 rw[show((m.toNat:Nat):Int)=m from by omega] at a
 simp only[Bool.or_eq_true,Bool.and_eq_true,decide_eq_true_eq,List.all_eq_true] at a
 rcases a with a|a<;>grind
abbrev Memo:=List (Sit×Int)
def lstOf (s:L8) (f:Int):List Off:=nthD [s.l0,s.l1,s.l2,s.l3,s.l4,s.l5,s.l6,s.l7] f.toNat []
def skipAt (a:Sit):Sit:=⟨delI a.members (fstB a.members),a.left,a.opn⟩
def bestM (p:Prob):Nat→Memo→Sit→Int×Memo
 |0,es,_=>(0,es)
 |n+1,es,a=>
  if a.members=0 then(0,es) else
  match findT .sit (.i .i64) a es with
  |some v=>(v,es)
  |none=>
   let r:=(lstOf (L8.of p) (fstB a.members)).foldl (fun r x=>if fitsAt p a x=true then(max r.1 (x.value+(bestM p n r.2 (nextAt p a x)).1),(bestM p n r.2 (nextAt p a x)).2) else r) (bestM p n es (skipAt a))
   (r.1,setT .sit (.i .i64) a r.1 r.2)
def stepM (p:Prob) (n:Nat) (a:Sit) (r:Int×Memo) (x:Off):Int×Memo:=
 if fitsAt p a x=true then(max r.1 (x.value+(bestM p n r.2 (nextAt p a x)).1),(bestM p n r.2 (nextAt p a x)).2) else r
def Good (p:Prob):Prop:=p.classes.length≤8∧p.offers.length≤160∧p.supply.ok=true∧p.opn.ok=true∧∀x∈p.offers,0≤x.bidder∧x.bidder<p.classes.length∧x.want.ok=true∧1≤x.value∧x.value≤1000000
def SitOk (a:Sit):Prop:=0≤a.members∧a.members<256∧a.b
def valL (p:Prob):List Int→Bun→Bun→Int
 |[],_,_=>0
 |f::a,l,o=>(byB p f).foldl (fun v x=>if x.want.le l&&(outS p x).le o then max v (x.value+valL p a (l.sub x.want) (o.sub (outS p x))) else v) (valL p a l o)
def stepV (p:Prob) (a:List Int) (l o:Bun) (v:Int) (x:Off):Int:=if x.want.le l&&(outS p x).le o then max v (x.value+valL p a (l.sub x.want) (o.sub (outS p x))) else v
def bestS (p:Prob) (a:Sit):Int:=valL p (memL a.members) a.left a.opn
def MemoOk (p:Prob) (es:Memo):Prop:=∀e∈es,e.2=bestS p e.1
theorem stepV_bd {p:Prob} {fs:List Int} {l o:Bun} (c:Good p) (B:Int) (a:∀l o,0≤valL p fs l o∧valL p fs l o≤B):∀{xs:List Off} {v:Int},(∀x∈xs,x∈p.offers)→0≤v∧v≤B+1000000→0≤xs.foldl (stepV p fs l o) v∧xs.foldl (stepV p fs l o) v≤B+1000000
 |[],v,_,b=>b
 |x::xs,v,d,b=>by
  simp only[List.foldl_cons]
  refine stepV_bd c B a (fun y e=>d y (by simp[e])) ?_
  unfold stepV
  have f:=a (l.sub x.want) (o.sub (outS p x))
  have g:=c.2.2.2.2 x (d x (by simp))
  split<;>omega
theorem valL_bd {p:Prob} (hg:Good p):∀(fs:List Int) (l o:Bun),0≤valL p fs l o∧valL p fs l o≤1000000*fs.length
 |[],_,_=>by simp[valL]
 |f::fs,l,o=>by
  have ih:=valL_bd hg fs
  have h:=stepV_bd (l:=l) (o:=o) hg (1000000*fs.length) ih (xs:=byB p f) (v:=valL p fs l o) (fun x hx=>(List.mem_filter.1 hx).1) (by have:=ih l o;omega)
  have e:valL p (f::fs) l o=(byB p f).foldl (stepV p fs l o) (valL p fs l o):=rfl
  rw[e]
  simp only[List.length_cons]
  omega
theorem mem_len {m:Int}:(memL m).length≤8:=List.length_filter_le _ _
theorem bestS_bd {p:Prob} (hg:Good p) (a:Sit):0≤bestS p a∧bestS p a≤8000000:=by
 have h:=valL_bd hg (memL a.members) a.left a.opn
 have:=@mem_len a.members
 unfold bestS
 omega
theorem find_mem {a:Sit} {es:Memo} {v:Int} (h:findT .sit (.i .i64) a es=some v):∃e∈es,e.1=a∧e.2=v:=by
 unfold findT at h
 obtain⟨e,h1,rfl⟩:=Option.map_eq_some_iff.1 h
 have h2:=List.find?_some h1
 exact⟨e,List.mem_of_find?_eq_some h1,by simpa using h2,rfl⟩
theorem memo_set {p:Prob} {a:Sit} {v:Int} (hv:v=bestS p a):∀{es:Memo},MemoOk p es→MemoOk p (setT .sit (.i .i64) a v es)
 |[],_=>by intro e he;simp[setT] at he;subst he;exact hv
 |q::es,h=>by
  unfold setT
  split
  ·intro e he
   rcases List.mem_cons.1 he with rfl|he
   ·exact hv
   ·exact h e (by simp[he])
  ·intro e he
   rcases List.mem_cons.1 he with rfl|he
   ·exact h e (by simp)
   ·exact memo_set hv (fun e he=>h e (by simp[he])) e he
theorem sub_ok {a b:Bun} (ha:a.ok=true) (hb:b.ok=true) (h:b.le a=true):(a.sub b).ok=true:=by
 have ha:=Bun.ok_iff.1 ha
 have hb:=Bun.ok_iff.1 hb
 have h:=Bun.le_iff.1 h
 refine Bun.ok_iff.2 ?_
 simp only[Bun.sub]
 omega
theorem lst_eq {p:Prob} {f:Int} (h0:0≤f) (h1:f<8):lstOf (L8.of p) f=byB p f:=by
 have:f=0∨f=1∨f=2∨f=3∨f=4∨f=5∨f=6∨f=7:=by omega
 rcases this with rfl|rfl|rfl|rfl|rfl|rfl|rfl|rfl<;>rfl
theorem next_ok {p:Prob} (h:Good p) {a:Sit} (b:SitOk a) (g:a.members≠0) {x:Off} (j:x∈byB p (fstB a.members)) (c:fitsAt p a x=true):
  SitOk (nextAt p a x)∧memL a.members=fstB a.members::memL (nextAt p a x).members∧(nextAt p a x).members=delI a.members (fstB a.members):=by
 obtain⟨d,e⟩:=List.mem_filter.1 j
 have e:x.bidder=fstB a.members:=by simp_all
 have f:=h.2.2.2.2 x d
 obtain⟨k,l,i,q,o⟩:=fst_ok b.1 b.2.1 g
 have n:=(bit_del b.1 b.2.1 k l).2 i
 have m:(nextAt p a x).members=delI a.members (fstB a.members):=by grind[nextAt,delI]
 simp only[fitsAt,Bool.and_eq_true] at c
 refine⟨⟨by omega,by omega,sub_ok b.2.2.1 f.2.2.1 c.1,sub_ok b.2.2.2 (out_ok f.2.2.1) c.2⟩,by grind,m⟩
theorem skip_ok {a:Sit} (ha:SitOk a) (h0:a.members≠0):SitOk (skipAt a)∧memL a.members=fstB a.members::memL (skipAt a).members:=by
 obtain⟨f0,f1,f2,f3,f4⟩:=fst_ok ha.1 ha.2.1 h0
 have hd:=(bit_del ha.1 ha.2.1 f0 f1).2 f2
 exact⟨⟨hd.1,hd.2.1,ha.2.2⟩,f3⟩
theorem steps_ok {p:Prob} (g:Good p) {n:Nat} {a:Sit} (j:SitOk a) (k:a.members≠0)
  (h:∀(es:Memo) (b:Sit),SitOk b→MemoOk p es→cnt b.members<n→(bestM p n es b).1=bestS p b∧MemoOk p (bestM p n es b).2) (q:cnt a.members<n+1):
  ∀{xs:List Off} {r:Int×Memo},(∀x∈xs,x∈byB p (fstB a.members))→MemoOk p r.2→
   (xs.foldl (stepM p n a) r).1=xs.foldl (stepV p (memL (skipAt a).members) a.left a.opn) r.1∧MemoOk p (xs.foldl (stepM p n a) r).2
 |[],r,_,f=>⟨rfl,f⟩
 |x::xs,r,i,f=>by
  simp only[List.foldl_cons]
  have e:=i x (by simp)
  have v:(stepM p n a r x).1=stepV p (memL (skipAt a).members) a.left a.opn r.1 x∧MemoOk p (stepM p n a r x).2:=by
   unfold stepM stepV
   by_cases d:fitsAt p a x=true
   ·have c:(x.want.le a.left&&(outS p x).le a.opn)=true:=d
    rw[if_pos d,if_pos c]
    obtain⟨u,w,t⟩:=next_ok g j k e d
    have o:cnt (nextAt p a x).members<n:=by
     grind[cnt]
    obtain⟨m,l⟩:=h r.2 _ u f o
    refine⟨?_,l⟩
    simp only[m,bestS,t]
    rfl
   ·have c:¬(x.want.le a.left&&(outS p x).le a.opn)=true:=d
    simp_all
  obtain⟨z,A⟩:=steps_ok g j k h q (xs:=xs) (fun y s=>i y (by simp[s])) v.2
  simp_all
theorem best_ok {p:Prob} (i:Good p):∀(n:Nat) (es:Memo) (a:Sit),SitOk a→MemoOk p es→cnt a.members<n→(bestM p n es a).1=bestS p a∧MemoOk p (bestM p n es a).2
 |0,_,_,_,_,h=>absurd h (by omega)
 |n+1,es,a,f,g,q=>by
  unfold bestM
  by_cases d:a.members=0
  ·rw[if_pos d]
   refine⟨?_,g⟩
   unfold bestS
   rw[d]
   rfl
  ·rw[if_neg d]
   split
   ·rename_i v l
    obtain⟨e,k,j,A⟩:=find_mem l
    refine⟨?_,g⟩
    rw[←A,g e k,j]
   ·rename_i l
    obtain⟨o,y⟩:=skip_ok f d
    obtain⟨w,x,_⟩:=fst_ok f.1 f.2.1 d
    have u:cnt (skipAt a).members<n:=by
     grind[cnt]
    obtain⟨B,t⟩:=best_ok i n es _ o g u
    rw[lst_eq w x]
    obtain⟨z,m⟩:=steps_ok i f d (fun es b s k j=>best_ok i n es b s k j) q (xs:=byB p (fstB a.members)) (r:=bestM p n es (skipAt a)) (fun _ h=>h) t
    have c:((byB p (fstB a.members)).foldl (stepM p n a) (bestM p n es (skipAt a))).1=bestS p a:=by
     rw[z,B]
     unfold bestS
     rw[y]
     rfl
    exact⟨c,memo_set c m⟩
def bestC (n:Nat):OCtr:=solCtr 76 Sit (.one (codE .sit)) (fun a=>(Good a.1.p∧a.1.ls=L8.of a.1.p∧SitOk a.2∧MemoOk a.1.p a.1.es)∧cnt a.2.members<n)
 (fun a=> .si .i64 (bestM a.1.p (cnt a.2.members+1) a.1.es a.2).1) (fun a=>⟨a.1.p,a.1.ls,(bestM a.1.p (cnt a.2.members+1) a.1.es a.2).2⟩)
def W9 (n:Nat):List OCtr:=[bestC n,r116]
def runJ (s:Sol) (a:Sit) (j:Int):Int×Memo:=((lstOf s.ls (fstB a.members)).take j.toNat).foldl (stepM s.p (cnt a.members) a) (bestM s.p (cnt a.members) s.es (skipAt a))
def Λ115 (s:Sol) (a:Sit):Nat→LoopAnn
 |7=> .inv Int (fun f=>⟨[(0,.ptr 0 0 29),(3,.ptr 2 0 13),(7,.si .i64 f)],s.o++[.cells (encS .sit a) 141 13 false]⟩) (fun t=>iS t 7) (fun f=>0≤f∧f≤fstB a.members) (fun f=>(fstB a.members - f).toNat) fun _ _=> .look
 |13=> .inv Int (fun j=>⟨[(0,.ptr 0 0 29),(3,.ptr 2 0 13),(9,.si .i64 (runJ s a j).1),(51,.row .off (lstOf s.ls (fstB a.members))),(52,.si .i64 (lstOf s.ls (fstB a.members)).length),(53,.si .i64 j)],
   (Sol.o ⟨s.p,s.ls,(runJ s a j).2⟩)++[.cells (encS .sit a) 141 13 false,.cells (encS .sit (skipAt a)) 141 13 false]⟩) (fun t=>iS t 53)
  (fun j=>0≤j∧j≤(lstOf s.ls (fstB a.members)).length) (fun j=>((lstOf s.ls (fstB a.members)).length - j).toNat) fun _ _=> .look
 |_=> .look
theorem bestM_zero {p:Prob} {n:Nat} {es:Memo} {a:Sit} (h:a.members=0):bestM p (n+1) es a=(0,es):=by
 unfold bestM
 rw[if_pos h]
theorem bestM_hit {p:Prob} {n:Nat} {es:Memo} {a:Sit} {v:Int} (h:a.members≠0) (hv:findT .sit (.i .i64) a es=some v):bestM p (n+1) es a=(v,es):=by
 unfold bestM
 rw[if_neg h,hv]
theorem bestM_run {s:Sol} {a:Sit} (hl:s.ls=L8.of s.p) (h:a.members≠0) (hv:findT .sit (.i .i64) a s.es=none) {j:Int} (hj:j=(lstOf s.ls (fstB a.members)).length):
  bestM s.p (cnt a.members+1) s.es a=((runJ s a j).1,setT .sit (.i .i64) a (runJ s a j).1 (runJ s a j).2):=by
 unfold bestM runJ
 rw[if_neg h,hv,show j.toNat=(lstOf s.ls (fstB a.members)).length from by omega,List.take_length,hl]
 rfl
theorem runJ_succ {s:Sol} {a:Sit} {j:Int} (h0:0≤j) (h1:j<(lstOf s.ls (fstB a.members)).length):runJ s a (j+1)=stepM s.p (cnt a.members) a (runJ s a j) (nthD (lstOf s.ls (fstB a.members)) j.toNat SId.off.dflt):=by
 unfold runJ
 rw[take_nth (d:=SId.off.dflt) h0 h1,List.foldl_append]
 rfl
theorem map_same_eq {es es':Memo} {kt:List Nat×Bool} (h:es=es'):(SObj.map SId.sit (SId.i IntKind.i64) true es kt true).same (SObj.map SId.sit (SId.i IntKind.i64) true es' kt true):=by rw[h];rfl
theorem bestX (n:Nat) (s:Sol) (a:Sit) (hg:Good s.p) (hl:s.ls=L8.of s.p) (ha:SitOk a) (hm:MemoOk s.p s.es) (hn:cnt a.members<n+1):
  Vc (fnOwnK (parL L8l (ownT (W9 n)) tyN mtN fnN) (Λ115 s a) (fG 76) ((bestC (n+1)).put (s,a)) ((bestC (n+1)).st (s,a)) fun v t=>v.same ((bestC (n+1)).res (s,a))∧sameO t ((bestC (n+1)).out (s,a))):=by
 refine vcOf (let z0:=decide (a.members=(0:Int));let z1:=SV.il .i64 0;let z2:=bestM s.p (cnt a.members+1) s.es a;let z3:=SV.si .i64 z2.fst;let z4:=SId.i .i64;let z5:=SObj.cells [SV.si .i64 s.p.supply.a0,SV.si .i64 s.p.supply.a1,SV.si .i64 s.p.supply.a2,SV.si .i64 s.p.supply.a3,SV.si .i64 s.p.supply.a4,SV.si .i64 s.p.supply.a5,SV.si .i64 s.p.opn.a0,SV.si .i64 s.p.opn.a1,SV.si .i64 s.p.opn.a2,SV.si .i64 s.p.opn.a3,SV.si .i64 s.p.opn.a4,SV.si .i64 s.p.opn.a5,SV.si .i64 s.p.cls.a0,SV.si .i64 s.p.cls.a1,SV.si .i64 s.p.cls.a2,SV.si .i64 s.p.cls.a3,SV.si .i64 s.p.cls.a4,SV.si .i64 s.p.cls.a5,SV.row z4 s.p.classes,SV.row SId.off s.p.offers,SV.row SId.off s.ls.l0,SV.row SId.off s.ls.l1,SV.row SId.off s.ls.l2,SV.row SId.off s.ls.l3,SV.row SId.off s.ls.l4,SV.row SId.off s.ls.l5,SV.row SId.off s.ls.l6,SV.row SId.off s.ls.l7,SV.mp 1] 168 29 false;let z6:=([0,0,0,0,0,0,0,0,0,0,0,0,0],true);let z7:=SObj.map SId.sit z4 true s.es z6 true;let z8:=SObj.map SId.sit z4 true z2.snd z6 true;let z9:=findT SId.sit z4 a s.es;let z10:=SV.ptr 0 0 29;let z11:=SV.ptr 2 0 13;let z12:=[SV.si .i64 a.left.a0,SV.si .i64 a.left.a1,SV.si .i64 a.left.a2,SV.si .i64 a.left.a3,SV.si .i64 a.left.a4,SV.si .i64 a.left.a5,SV.si .i64 a.opn.a0,SV.si .i64 a.opn.a1,SV.si .i64 a.opn.a2,SV.si .i64 a.opn.a3,SV.si .i64 a.opn.a4,SV.si .i64 a.opn.a5];let z13:=SObj.cells (SV.si .i64 a.members::z12) 141 13 false;let z14:=fstB a.members;let z15:=lstOf s.ls z14;let z16:=SV.row SId.off z15;let z17:=(↑z15.length:Int);let z18:=SV.si .i64 z17;let z19:=(skipAt a).left;let z20:=(skipAt a).opn;let z21:=SObj.cells [SV.si .i64 (skipAt a).members,SV.si .i64 z19.a0,SV.si .i64 z19.a1,SV.si .i64 z19.a2,SV.si .i64 z19.a3,SV.si .i64 z19.a4,SV.si .i64 z19.a5,SV.si .i64 z20.a0,SV.si .i64 z20.a1,SV.si .i64 z20.a2,SV.si .i64 z20.a3,SV.si .i64 z20.a4,SV.si .i64 z20.a5] 141 13 false;(z0=true→z1.same z3∧z5.same z5∧z7.same z8∧True)∧(z0=false→(z9.isSome=true→(SV.si .i64 (z9.getD (0:Int))).same z3∧z5.same z5∧z7.same z8∧True)∧(z9.isSome=false→(((z10.same z10∧z11.same z11∧z1.same (SV.si .i64 0)∧True)∧z5.same z5∧z7.same z7∧z13.same z13∧True)∧(0:Int)≤(0:Int)∧(0:Int)≤z14)∧∀(x:Int),let z22:=decide (binK.andI .i64 (a.members / (2:Int)^x.toNat) (1:Int)=(0:Int));let z23:=x+(1:Int);let z24:=SV.si .i64 z23;let z25:=(1:Int)*(2:Int)^x.toNat;let z26:=binK.andNotI .i64 a.members z25;let z27:=Sit.mk z26 a.left a.opn;let z28:=bestM s.p (cnt z26+1) s.es z27;let z29:=nthD [s.ls.l0,s.ls.l1,s.ls.l2,s.ls.l3,s.ls.l4,s.ls.l5,s.ls.l6,s.ls.l7] x.toNat [];(0:Int)≤x∧x≤z14→(0:Int)≤x∧x≤(64:Int)∧(z22=true→inR .i64 z23∧((z10.same z10∧z11.same z11∧z24.same z24∧True)∧z5.same z5∧z7.same z7∧z13.same z13∧True)∧((0:Int)≤z23∧z23≤z14)∧(z14 - z23).toNat<(z14 - x).toNat)∧(z22=false→(0:Int)≤x∧x≤(64:Int)∧inR .i64 z25∧((Good s.p∧s.ls=L8.of s.p∧SitOk z27∧MemoOk s.p s.es)∧cnt z26<n)∧(0:Int)≤x∧x<(8:Int)∧x.toNat<8∧(((z10.same z10∧z11.same z11∧(SV.si .i64 z28.fst).same (SV.si .i64 (runJ s a (0:Int)).fst)∧(SV.row SId.off z29).same z16∧(SV.si .i64 (↑z29.length:Int)).same z18∧z1.same (SV.si .i64 0)∧True)∧z5.same z5∧(SObj.map SId.sit z4 true z28.snd z6 true).same (SObj.map SId.sit z4 true (runJ s a (0:Int)).snd z6 true)∧z13.same z13∧(SObj.cells (SV.si .i64 z26::z12) 141 13 false).same z21∧True)∧(0:Int)≤(0:Int)∧(0:Int)≤z17)∧∀(x:Int),let z30:=nthD z15 x.toNat SId.off.dflt;let z31:=afterS s.p a z30;let z32:=(runJ s a x).snd;let z33:=bestM s.p (cnt z31.members+1) z32 z31;let z34:=x+(1:Int);let z35:=(runJ s a x).fst;let z36:=SV.si .i64 (runJ s a z34).fst;let z37:=SV.si .i64 z34;let z38:=SObj.map SId.sit z4 true (runJ s a z34).snd z6 true;let z39:=SV.si .i64 z35;(0:Int)≤x∧x≤z17→(decide (x<z17)=true→(0:Int)≤x∧x<(↑z15.length:Int)∧x.toNat<z15.length∧(s.p.classes.length≤8∧(0:Int)≤z30.bidder∧z30.bidder<(↑s.p.classes.length:Int)∧a.b∧z30.want.ok=true)∧(fitsAt s.p a z30=true→((Good s.p∧s.ls=L8.of s.p∧SitOk z31∧MemoOk s.p z32)∧cnt z31.members<n)∧inR .i64 (z30.value+z33.fst)∧inR .i64 z34∧((z10.same z10∧z11.same z11∧(SV.si .i64 (max z35 (z30.value+z33.fst))).same z36∧z16.same z16∧z18.same z18∧z37.same z37∧True)∧z5.same z5∧(SObj.map SId.sit z4 true z33.snd z6 true).same z38∧z13.same z13∧z21.same z21∧True)∧((0:Int)≤z34∧z34≤z17)∧(z17 - z34).toNat<(z17 - x).toNat)∧(fitsAt s.p a z30=false→inR .i64 z34∧((z10.same z10∧z11.same z11∧z39.same z36∧z16.same z16∧z18.same z18∧z37.same z37∧True)∧z5.same z5∧(SObj.map SId.sit z4 true z32 z6 true).same z38∧z13.same z13∧z21.same z21∧True)∧((0:Int)≤z34∧z34≤z17)∧(z17 - z34).toNat<(z17 - x).toNat))∧(decide (x<z17)=false→z39.same z3∧z5.same z5∧(SObj.map SId.sit z4 true (setT SId.sit z4 a z35 z32) z6 true).same z8∧True))))) (by kernel_rfl) ?_
 simp only[vcs]
 refine⟨fun h0=>?_,fun h0=>⟨fun hf=>?_,fun hf=>?_⟩⟩
 ·rw[bestM_zero h0]
  exact⟨rfl,rfl⟩
 ·obtain⟨v,hv⟩:=Option.isSome_iff_exists.1 hf
  rw[bestM_hit h0 hv,hv]
  exact⟨rfl,rfl⟩
 ·have hnone:findT .sit (.i .i64) a s.es=none:=by simpa using hf
  obtain⟨f0,f1,f2,f3,f4⟩:=fst_ok ha.1 ha.2.1 h0
  obtain⟨s1,s2⟩:=skip_ok ha h0
  have hcs:cnt (skipAt a).members+1=cnt a.members:=by unfold cnt;rw[s2];simp
  have hle:lstOf s.ls (fstB a.members)=byB s.p (fstB a.members):=by rw[hl];exact lst_eq f0 f1
  have hll:(lstOf s.ls (fstB a.members)).length≤160:=by rw[hle];exact Nat.le_trans (List.length_filter_le _ _) hg.2.1
  have hb8:=best_ok hg (cnt a.members)
  obtain⟨q1,q2⟩:=hb8 s.es _ s1 hm (by omega)
  have hrun:∀j:Int,0≤(runJ s a j).1∧(runJ s a j).1≤9000000∧MemoOk s.p (runJ s a j).2:=by
   intro j
   have hmem:∀x∈(lstOf s.ls (fstB a.members)).take j.toNat,x∈byB s.p (fstB a.members):=fun x hx=>by rw[hle] at hx;exact List.mem_of_mem_take hx
   obtain⟨k1,k2⟩:=steps_ok hg ha h0 (n:=cnt a.members) (fun es b hb h1 h2=>hb8 es b hb h1 h2) (by omega) (xs:=(lstOf s.ls (fstB a.members)).take j.toNat) (r:=bestM s.p (cnt a.members) s.es (skipAt a)) hmem q2
   have hB:=stepV_bd (l:=a.left) (o:=a.opn) (fs:=memL (skipAt a).members) hg 8000000 (fun l o=>by
    have:=valL_bd hg (memL (skipAt a).members) l o
    have:=@mem_len (skipAt a).members
    omega) (xs:=(lstOf s.ls (fstB a.members)).take j.toNat) (v:=(bestM s.p (cnt a.members) s.es (skipAt a)).1) (fun x hx=>(List.mem_filter.1 (hmem x hx)).1) (by
     rw[q1]
     have:=bestS_bd hg (skipAt a)
     omega)
   unfold runJ
   rw[k1]
   exact⟨hB.1,hB.2,k2⟩
  refine⟨⟨by omega,f0⟩,?_⟩
  rintro f ⟨g0,g1⟩
  refine⟨g0,by omega,fun hb=>⟨by omega,⟨by omega,?_⟩,?_⟩,fun hb=>?_⟩
  ·have:f≠fstB a.members:=fun e=>f2 (by rw[←e];exact hb)
   omega
  ·have:f≠fstB a.members:=fun e=>f2 (by rw[←e];exact hb)
   omega
  ·have hfe:f=fstB a.members:=by
    by_cases hlt:f<fstB a.members
    ·exact absurd (f4 f g0 hlt) hb
    ·omega
   subst hfe
   simp only[Int.one_mul]
   have hp:(2:Int)^(fstB a.members).toNat≤256∧0<(2:Int)^(fstB a.members).toNat:=by
    have:(fstB a.members).toNat=0∨(fstB a.members).toNat=1∨(fstB a.members).toNat=2∨(fstB a.members).toNat=3∨(fstB a.members).toNat=4∨(fstB a.members).toNat=5∨(fstB a.members).toNat=6∨(fstB a.members).toNat=7:=by omega
    rcases this with h|h|h|h|h|h|h|h<;>rw[h]<;>decide
   have hsk:binK.andNotI .i64 a.members (2^(fstB a.members).toNat)=(skipAt a).members:=rfl
   simp only[hsk]
   have hse:(⟨(skipAt a).members,a.left,a.opn⟩:Sit)=skipAt a:=rfl
   simp only[hse,hcs]
   have hr0:runJ s a 0=bestM s.p (cnt a.members) s.es (skipAt a):=rfl
   refine⟨g0,by omega,⟨by omega,by omega⟩,⟨⟨hg,hl,s1,hm⟩,by omega⟩,g0,f1,by omega,⟨⟨⟨?_,rfl,rfl⟩,map_same_eq (by rw[hr0]),rfl⟩,by omega,by omega⟩,?_⟩
   ·rw[hr0]
   rintro j ⟨j0,j1⟩
   obtain⟨b1,b2,b3⟩:=hrun j
   refine⟨fun jlt=>?_,fun jge=>?_⟩
   ·have hsucc:=runJ_succ (s:=s) (a:=a) j0 jlt
    have hxm:=nthD_mem (d:=SId.off.dflt) (show j.toNat<(lstOf s.ls (fstB a.members)).length by omega)
    generalize nthD (lstOf s.ls (fstB a.members)) j.toNat SId.off.dflt=x at hsucc hxm ⊢
    rw[hle] at hxm
    have hxo:=(List.mem_filter.1 hxm).1
    have hxv:=hg.2.2.2.2 x hxo
    refine⟨j0,jlt,by omega,⟨hg.1,hxv.1,hxv.2.1,ha.2.2,hxv.2.2.1⟩,fun hfit=>?_,fun hfit=>?_⟩
    ·obtain⟨k1,k2,k3⟩:=next_ok hg ha h0 hxm hfit
     have hcn:cnt (nextAt s.p a x).members+1=cnt a.members:=by unfold cnt;rw[k2];simp
     have haf:afterS s.p a x=nextAt s.p a x:=by unfold afterS;rw[if_pos hfit]
     simp only[haf,hcn]
     obtain⟨e1,e2⟩:=hb8 (runJ s a j).2 _ k1 b3 (by omega)
     have hbd:=bestS_bd hg (nextAt s.p a x)
     have hst:runJ s a (j+1)=(max (runJ s a j).1 (x.value+(bestM s.p (cnt a.members) (runJ s a j).2 (nextAt s.p a x)).1),(bestM s.p (cnt a.members) (runJ s a j).2 (nextAt s.p a x)).2):=by
      rw[hsucc];unfold stepM;rw[if_pos hfit]
     rw[hst]
     refine⟨⟨⟨hg,hl,k1,b3⟩,by omega⟩,by rw[e1];omega,by omega,⟨rfl,rfl⟩,by omega,by omega⟩
    ·have hst:runJ s a (j+1)=runJ s a j:=by
      rw[hsucc];unfold stepM;rw[if_neg (by simp[hfit])]
     rw[hst]
     exact⟨by omega,⟨rfl,rfl⟩,by omega,by omega⟩
   ·have hj:j=(lstOf s.ls (fstB a.members)).length:=by omega
    rw[bestM_run hl h0 hnone hj]
    exact⟨rfl,rfl⟩
theorem hBest:∀n,HoldsO Tryz.prog (bestC n)
 |0=>by
  rintro⟨s,a⟩ ⟨_,h⟩
  exact absurd h (Nat.not_lt_zero _)
 |n+1=>by
  rintro⟨s,a⟩ ⟨h1,h2⟩
  by_cases hc:cnt a.members<n
  ·exact hBest n (s,a) ⟨h1,hc⟩
  ·refine holdsO_of (bestC (n+1)) (W:=W9 n) (Λ:=fun x=>Λ115 x.1 x.2) base_ok (by simp only[W9,List.forall_mem_cons,List.not_mem_nil,false_implies,implies_true,and_true];exact⟨hBest n,h116⟩) hL8
    (show fnN 76=some (fG 76) by kernel_rfl) (fun _=>rfl) (s,a) ?_ (bestX n s a h1.1 h1.2.1 h1.2.2.1 h1.2.2.2 h2).out
   intro d hd b hb1 hb2 hb3
   have hd2:d=bestC n:=by
    have:findO 76 (W9 n)=some (bestC n):=rfl
    have hd3:findO 76 (W9 n)=some d:=hd
    rw[this] at hd3
    injection hd3 with hd3
    exact hd3.symm
   subst hd2
   have hb:(s,a)=b:=(bestC n).inj (s,a) b hb1 hb2
   subst hb
   exact hc hb3.2
def r113:OCtr where
 f:=75
 α:=Prob
 put p:=[codP.put p]
 st _:=[]
 dec v o:=match v,o with
  |[v],[]=>codP.dec v
  |_,_=>none
 ok v o a h:=by
  split at h
  ·exact⟨by simp only[gL,codP.ok _ _ h],rfl⟩
  ·cases h
 inj a b h _:=by
  simp only[gL,List.cons.injEq,and_true] at h
  exact codP.inj _ _ h
 dom p:=Good p
 res _:=.ptr 0 0 29
 out p:=Sol.o ⟨p,L8.of p,[]⟩
def sp113:Nat→Option (Nat×Nat×Nat)
 |5=>some (11,0,8)
 |_=>none
def byT (p:Prob) (i:Int) (j:Int):List Off:=(p.offers.take i.toNat).filter fun x=>decide (x.bidder=j)
def Λ113 (p:Prob):Nat→LoopAnn
 |3=> .inv Int (fun i=>⟨[(3,.ptr 2 0 29),(11,.row .off p.offers),(12,.si .i64 p.offers.length),(13,.si .i64 i)],
  [.cells p.ss 27 20 false,.map .sit (.i .i64) true [] ([0,0,0,0,0,0,0,0,0,0,0,0,0],true) true,
   .cells [.si .i64 p.supply.a0,.si .i64 p.supply.a1,.si .i64 p.supply.a2,.si .i64 p.supply.a3,.si .i64 p.supply.a4,.si .i64 p.supply.a5,
    .si .i64 p.opn.a0,.si .i64 p.opn.a1,.si .i64 p.opn.a2,.si .i64 p.opn.a3,.si .i64 p.opn.a4,.si .i64 p.opn.a5,
    .si .i64 p.cls.a0,.si .i64 p.cls.a1,.si .i64 p.cls.a2,.si .i64 p.cls.a3,.si .i64 p.cls.a4,.si .i64 p.cls.a5,
    .row (.i .i64) p.classes,.row .off p.offers,.ow 3 (byT p i 0).length 8,.ow 4 (byT p i 1).length 8,.ow 5 (byT p i 2).length 8,.ow 6 (byT p i 3).length 8,.ow 7 (byT p i 4).length 8,.ow 8 (byT p i 5).length 8,.ow 9 (byT p i 6).length 8,.ow 10 (byT p i 7).length 8,.mp 1] 168 29 false,
   .row .off (byT p i 0) 73 true,.row .off (byT p i 1) 73 true,.row .off (byT p i 2) 73 true,.row .off (byT p i 3) 73 true,.row .off (byT p i 4) 73 true,.row .off (byT p i 5) 73 true,.row .off (byT p i 6) 73 true,.row .off (byT p i 7) 73 true]⟩)
  (fun s=>iS s 13) (fun i=>0≤i∧i≤p.offers.length) (fun i=>(p.offers.length - i).toNat) fun _ _=> .look
 |_=> .look
theorem byT_hit {p:Prob} {i:Int} {j:Int} (h0:0≤i) (h1:i<p.offers.length) (h:(nthD p.offers i.toNat SId.off.dflt).bidder=j):byT p (i+1) j=byT p i j++[nthD p.offers i.toNat SId.off.dflt]:=by
 unfold byT
 rw[take_nth (d:=SId.off.dflt) h0 h1,List.filter_append]
 simp[h]
theorem byT_miss {p:Prob} {i:Int} {j:Int} (h0:0≤i) (h1:i<p.offers.length) (h:(nthD p.offers i.toNat SId.off.dflt).bidder≠j):byT p (i+1) j=byT p i j:=by
 unfold byT
 rw[take_nth (d:=SId.off.dflt) h0 h1,List.filter_append]
 simp[h]
theorem h113:HoldsO Tryz.prog r113:=by
 refine conN (L:=[]) (W:=[]) r113 sp113 Λ113 (by simp) (by simp) ?_
 intro(p:Prob) (hp:Good p)
 refine vcOf (let z0:=SV.ptr 2 0 29;let z1:=SV.row SId.off p.offers;let z2:=(↑p.offers.length:Int);let z3:=(↑p.offers.length:Int);let z4:=SV.si .i64 z3;let z5:=SV.si .i64 p.supply.a0;let z6:=SV.si .i64 p.supply.a1;let z7:=SV.si .i64 p.supply.a2;let z8:=SV.si .i64 p.supply.a3;let z9:=SV.si .i64 p.supply.a4;let z10:=SV.si .i64 p.supply.a5;let z11:=SV.si .i64 p.opn.a0;let z12:=SV.si .i64 p.opn.a1;let z13:=SV.si .i64 p.opn.a2;let z14:=SV.si .i64 p.opn.a3;let z15:=SV.si .i64 p.opn.a4;let z16:=SV.si .i64 p.opn.a5;let z17:=SV.si .i64 p.cls.a0;let z18:=SV.si .i64 p.cls.a1;let z19:=SV.si .i64 p.cls.a2;let z20:=SV.si .i64 p.cls.a3;let z21:=SV.si .i64 p.cls.a4;let z22:=SV.si .i64 p.cls.a5;let z23:=SV.row (SId.i .i64) p.classes;let z24:=SObj.cells [z5,z6,z7,z8,z9,z10,z11,z12,z13,z14,z15,z16,z17,z18,z19,z20,z21,z22,z23,z1] 27 20 false;let z25:=SObj.map SId.sit (SId.i .i64) true [] ([0,0,0,0,0,0,0,0,0,0,0,0,0],true) true;let z26:=[SV.mp 1];let z27:=byT p (0:Int) (0:Int);let z28:=byT p (0:Int) (1:Int);let z29:=byT p (0:Int) (2:Int);let z30:=byT p (0:Int) (3:Int);let z31:=byT p (0:Int) (4:Int);let z32:=byT p (0:Int) (5:Int);let z33:=byT p (0:Int) (6:Int);let z34:=byT p (0:Int) (7:Int);let z35:=SObj.row SId.off [] 73 true;let z36:=SV.ptr 0 0 29;(((z0.same z0∧z1.same z1∧(SV.si .i64 z2).same z4∧(SV.il .i64 0).same (SV.si .i64 0)∧True)∧z24.same z24∧z25.same z25∧(SObj.cells (z5::z6::z7::z8::z9::z10::z11::z12::z13::z14::z15::z16::z17::z18::z19::z20::z21::z22::z23::z1::SV.ow 3 0 8::SV.ow 4 0 8::SV.ow 5 0 8::SV.ow 6 0 8::SV.ow 7 0 8::SV.ow 8 0 8::SV.ow 9 0 8::SV.ow 10 0 8::z26) 168 29 false).same (SObj.cells (z5::z6::z7::z8::z9::z10::z11::z12::z13::z14::z15::z16::z17::z18::z19::z20::z21::z22::z23::z1::SV.ow 3 z27.length 8::SV.ow 4 z28.length 8::SV.ow 5 z29.length 8::SV.ow 6 z30.length 8::SV.ow 7 z31.length 8::SV.ow 8 z32.length 8::SV.ow 9 z33.length 8::SV.ow 10 z34.length 8::z26) 168 29 false)∧z35.same (SObj.row SId.off z27 73 true)∧z35.same (SObj.row SId.off z28 73 true)∧z35.same (SObj.row SId.off z29 73 true)∧z35.same (SObj.row SId.off z30 73 true)∧z35.same (SObj.row SId.off z31 73 true)∧z35.same (SObj.row SId.off z32 73 true)∧z35.same (SObj.row SId.off z33 73 true)∧z35.same (SObj.row SId.off z34 73 true)∧True)∧(0:Int)≤(0:Int)∧(0:Int)≤z3)∧∀(x:Int),let z37:=nthD p.offers x.toNat SId.off.dflt;let z38:=z37.bidder;let z39:=byT p x (0:Int);let z40:=z39.length+1;let z41:=x+(1:Int);let z42:=SV.si .i64 z41;let z43:=z37.want;let z44:=z37.value;let z45:=z39++[Off.mk (0:Int) z43 z44];let z46:=byT p x (1:Int);let z47:=SV.ow 4 z46.length 8;let z48:=byT p x (2:Int);let z49:=SV.ow 5 z48.length 8;let z50:=byT p x (3:Int);let z51:=SV.ow 6 z50.length 8;let z52:=byT p x (4:Int);let z53:=SV.ow 7 z52.length 8;let z54:=byT p x (5:Int);let z55:=SV.ow 8 z54.length 8;let z56:=byT p x (6:Int);let z57:=SV.ow 9 z56.length 8;let z58:=byT p x (7:Int);let z59:=SV.ow 10 z58.length 8::z26;let z60:=z53::z55::z57::z59;let z61:=SObj.cells (z5::z6::z7::z8::z9::z10::z11::z12::z13::z14::z15::z16::z17::z18::z19::z20::z21::z22::z23::z1::SV.ow 3 (byT p z41 (0:Int)).length 8::SV.ow 4 (byT p z41 (1:Int)).length 8::SV.ow 5 (byT p z41 (2:Int)).length 8::SV.ow 6 (byT p z41 (3:Int)).length 8::SV.ow 7 (byT p z41 (4:Int)).length 8::SV.ow 8 (byT p z41 (5:Int)).length 8::SV.ow 9 (byT p z41 (6:Int)).length 8::SV.ow 10 (byT p z41 (7:Int)).length 8::z26) 168 29 false;let z62:=SObj.row SId.off (byT p z41 (0:Int)) 73 true;let z63:=SObj.row SId.off (byT p z41 (1:Int)) 73 true;let z64:=SObj.row SId.off (byT p z41 (2:Int)) 73 true;let z65:=SObj.row SId.off (byT p z41 (3:Int)) 73 true;let z66:=SObj.row SId.off (byT p z41 (4:Int)) 73 true;let z67:=SObj.row SId.off (byT p z41 (5:Int)) 73 true;let z68:=SObj.row SId.off (byT p z41 (6:Int)) 73 true;let z69:=SObj.row SId.off (byT p z41 (7:Int)) 73 true;let z70:=z46.length+1;let z71:=SV.ow 3 z39.length 8;let z72:=z46++[Off.mk (1:Int) z43 z44];let z73:=z48.length+1;let z74:=z48++[Off.mk (2:Int) z43 z44];let z75:=z50.length+1;let z76:=z50++[Off.mk (3:Int) z43 z44];let z77:=z52.length+1;let z78:=z52++[Off.mk (4:Int) z43 z44];let z79:=z54.length+1;let z80:=z54++[Off.mk (5:Int) z43 z44];let z81:=z56.length+1;let z82:=z56++[Off.mk (6:Int) z43 z44];let z83:=z58.length+1;let z84:=z58++[Off.mk (7:Int) z43 z44];(0:Int)≤x∧x≤z3→(decide (x<z3)=true→(0:Int)≤x∧x<z2∧x.toNat<p.offers.length∧(z38=(0:Int)→1=1∧z39.length=z39.length∧z40*64≤140737488355328∧z40≤1000000000000∧inR .i64 z41∧((z0.same z0∧z1.same z1∧z4.same z4∧z42.same z42∧True)∧z24.same z24∧z25.same z25∧(SObj.cells (z5::z6::z7::z8::z9::z10::z11::z12::z13::z14::z15::z16::z17::z18::z19::z20::z21::z22::z23::z1::SV.ow 3 z45.length 8::z47::z49::z51::z60) 168 29 false).same z61∧(SObj.row SId.off z45 73 true).same z62∧(SObj.row SId.off z46 73 true).same z63∧(SObj.row SId.off z48 73 true).same z64∧(SObj.row SId.off z50 73 true).same z65∧(SObj.row SId.off z52 73 true).same z66∧(SObj.row SId.off z54 73 true).same z67∧(SObj.row SId.off z56 73 true).same z68∧(SObj.row SId.off z58 73 true).same z69∧True)∧((0:Int)≤z41∧z41≤z3)∧(z3 - z41).toNat<(z3 - x).toNat)∧(z38=(1:Int)→1=1∧z46.length=z46.length∧z70*64≤140737488355328∧z70≤1000000000000∧inR .i64 z41∧((z0.same z0∧z1.same z1∧z4.same z4∧z42.same z42∧True)∧z24.same z24∧z25.same z25∧(SObj.cells (z5::z6::z7::z8::z9::z10::z11::z12::z13::z14::z15::z16::z17::z18::z19::z20::z21::z22::z23::z1::z71::SV.ow 4 z72.length 8::z49::z51::z60) 168 29 false).same z61∧(SObj.row SId.off z39 73 true).same z62∧(SObj.row SId.off z72 73 true).same z63∧(SObj.row SId.off z48 73 true).same z64∧(SObj.row SId.off z50 73 true).same z65∧(SObj.row SId.off z52 73 true).same z66∧(SObj.row SId.off z54 73 true).same z67∧(SObj.row SId.off z56 73 true).same z68∧(SObj.row SId.off z58 73 true).same z69∧True)∧((0:Int)≤z41∧z41≤z3)∧(z3 - z41).toNat<(z3 - x).toNat)∧(z38=(2:Int)→1=1∧z48.length=z48.length∧z73*64≤140737488355328∧z73≤1000000000000∧inR .i64 z41∧((z0.same z0∧z1.same z1∧z4.same z4∧z42.same z42∧True)∧z24.same z24∧z25.same z25∧(SObj.cells (z5::z6::z7::z8::z9::z10::z11::z12::z13::z14::z15::z16::z17::z18::z19::z20::z21::z22::z23::z1::z71::z47::SV.ow 5 z74.length 8::z51::z60) 168 29 false).same z61∧(SObj.row SId.off z39 73 true).same z62∧(SObj.row SId.off z46 73 true).same z63∧(SObj.row SId.off z74 73 true).same z64∧(SObj.row SId.off z50 73 true).same z65∧(SObj.row SId.off z52 73 true).same z66∧(SObj.row SId.off z54 73 true).same z67∧(SObj.row SId.off z56 73 true).same z68∧(SObj.row SId.off z58 73 true).same z69∧True)∧((0:Int)≤z41∧z41≤z3)∧(z3 - z41).toNat<(z3 - x).toNat)∧(z38=(3:Int)→1=1∧z50.length=z50.length∧z75*64≤140737488355328∧z75≤1000000000000∧inR .i64 z41∧((z0.same z0∧z1.same z1∧z4.same z4∧z42.same z42∧True)∧z24.same z24∧z25.same z25∧(SObj.cells (z5::z6::z7::z8::z9::z10::z11::z12::z13::z14::z15::z16::z17::z18::z19::z20::z21::z22::z23::z1::z71::z47::z49::SV.ow 6 z76.length 8::z60) 168 29 false).same z61∧(SObj.row SId.off z39 73 true).same z62∧(SObj.row SId.off z46 73 true).same z63∧(SObj.row SId.off z48 73 true).same z64∧(SObj.row SId.off z76 73 true).same z65∧(SObj.row SId.off z52 73 true).same z66∧(SObj.row SId.off z54 73 true).same z67∧(SObj.row SId.off z56 73 true).same z68∧(SObj.row SId.off z58 73 true).same z69∧True)∧((0:Int)≤z41∧z41≤z3)∧(z3 - z41).toNat<(z3 - x).toNat)∧(z38=(4:Int)→1=1∧z52.length=z52.length∧z77*64≤140737488355328∧z77≤1000000000000∧inR .i64 z41∧((z0.same z0∧z1.same z1∧z4.same z4∧z42.same z42∧True)∧z24.same z24∧z25.same z25∧(SObj.cells (z5::z6::z7::z8::z9::z10::z11::z12::z13::z14::z15::z16::z17::z18::z19::z20::z21::z22::z23::z1::z71::z47::z49::z51::SV.ow 7 z78.length 8::z55::z57::z59) 168 29 false).same z61∧(SObj.row SId.off z39 73 true).same z62∧(SObj.row SId.off z46 73 true).same z63∧(SObj.row SId.off z48 73 true).same z64∧(SObj.row SId.off z50 73 true).same z65∧(SObj.row SId.off z78 73 true).same z66∧(SObj.row SId.off z54 73 true).same z67∧(SObj.row SId.off z56 73 true).same z68∧(SObj.row SId.off z58 73 true).same z69∧True)∧((0:Int)≤z41∧z41≤z3)∧(z3 - z41).toNat<(z3 - x).toNat)∧(z38=(5:Int)→1=1∧z54.length=z54.length∧z79*64≤140737488355328∧z79≤1000000000000∧inR .i64 z41∧((z0.same z0∧z1.same z1∧z4.same z4∧z42.same z42∧True)∧z24.same z24∧z25.same z25∧(SObj.cells (z5::z6::z7::z8::z9::z10::z11::z12::z13::z14::z15::z16::z17::z18::z19::z20::z21::z22::z23::z1::z71::z47::z49::z51::z53::SV.ow 8 z80.length 8::z57::z59) 168 29 false).same z61∧(SObj.row SId.off z39 73 true).same z62∧(SObj.row SId.off z46 73 true).same z63∧(SObj.row SId.off z48 73 true).same z64∧(SObj.row SId.off z50 73 true).same z65∧(SObj.row SId.off z52 73 true).same z66∧(SObj.row SId.off z80 73 true).same z67∧(SObj.row SId.off z56 73 true).same z68∧(SObj.row SId.off z58 73 true).same z69∧True)∧((0:Int)≤z41∧z41≤z3)∧(z3 - z41).toNat<(z3 - x).toNat)∧(z38=(6:Int)→1=1∧z56.length=z56.length∧z81*64≤140737488355328∧z81≤1000000000000∧inR .i64 z41∧((z0.same z0∧z1.same z1∧z4.same z4∧z42.same z42∧True)∧z24.same z24∧z25.same z25∧(SObj.cells (z5::z6::z7::z8::z9::z10::z11::z12::z13::z14::z15::z16::z17::z18::z19::z20::z21::z22::z23::z1::z71::z47::z49::z51::z53::z55::SV.ow 9 z82.length 8::z59) 168 29 false).same z61∧(SObj.row SId.off z39 73 true).same z62∧(SObj.row SId.off z46 73 true).same z63∧(SObj.row SId.off z48 73 true).same z64∧(SObj.row SId.off z50 73 true).same z65∧(SObj.row SId.off z52 73 true).same z66∧(SObj.row SId.off z54 73 true).same z67∧(SObj.row SId.off z82 73 true).same z68∧(SObj.row SId.off z58 73 true).same z69∧True)∧((0:Int)≤z41∧z41≤z3)∧(z3 - z41).toNat<(z3 - x).toNat)∧(z38=(7:Int)→1=1∧z58.length=z58.length∧z83*64≤140737488355328∧z83≤1000000000000∧inR .i64 z41∧((z0.same z0∧z1.same z1∧z4.same z4∧z42.same z42∧True)∧z24.same z24∧z25.same z25∧(SObj.cells (z5::z6::z7::z8::z9::z10::z11::z12::z13::z14::z15::z16::z17::z18::z19::z20::z21::z22::z23::z1::z71::z47::z49::z51::z53::z55::z57::SV.ow 10 z84.length 8::z26) 168 29 false).same z61∧(SObj.row SId.off z39 73 true).same z62∧(SObj.row SId.off z46 73 true).same z63∧(SObj.row SId.off z48 73 true).same z64∧(SObj.row SId.off z50 73 true).same z65∧(SObj.row SId.off z52 73 true).same z66∧(SObj.row SId.off z54 73 true).same z67∧(SObj.row SId.off z56 73 true).same z68∧(SObj.row SId.off z84 73 true).same z69∧True)∧((0:Int)≤z41∧z41≤z3)∧(z3 - z41).toNat<(z3 - x).toNat)∧(0:Int)≤z38∧z38<(8:Int))∧(decide (x<z3)=false→z39.length=z39.length∧z46.length=z46.length∧z48.length=z48.length∧z50.length=z50.length∧z52.length=z52.length∧z54.length=z54.length∧z56.length=z56.length∧z58.length=z58.length∧z36.same z36∧(SObj.cells (z5::z6::z7::z8::z9::z10::z11::z12::z13::z14::z15::z16::z17::z18::z19::z20::z21::z22::z23::z1::SV.row SId.off z39::SV.row SId.off z46::SV.row SId.off z48::SV.row SId.off z50::SV.row SId.off z52::SV.row SId.off z54::SV.row SId.off z56::SV.row SId.off z58::z26) 168 29 false).same (SObj.cells (z5::z6::z7::z8::z9::z10::z11::z12::z13::z14::z15::z16::z17::z18::z19::z20::z21::z22::z23::z1::SV.row SId.off (L8.of p).l0::SV.row SId.off (L8.of p).l1::SV.row SId.off (L8.of p).l2::SV.row SId.off (L8.of p).l3::SV.row SId.off (L8.of p).l4::SV.row SId.off (L8.of p).l5::SV.row SId.off (L8.of p).l6::SV.row SId.off (L8.of p).l7::z26) 168 29 false)∧z25.same z25∧True)) (by kernel_rfl) ?_
 conv=>zeta
 try simp only[vcs]
 have hz:∀j,byT p 0 j=[]:=fun j=>rfl
 have hlen:∀i j,(byT p i j).length≤160:=fun i j=>by
  have h1:=List.length_filter_le (fun x:Off=>decide (x.bidder=j)) (p.offers.take i.toNat)
  have h2:=hp.2.1
  simp only[List.length_take] at h1
  unfold byT
  omega
 have h160:=hp.2.1
 refine⟨⟨by simp only[hz];exact⟨rfl,rfl,rfl,rfl,rfl,rfl,rfl,rfl,rfl⟩,by omega,by omega⟩,?_⟩
 rintro i ⟨hi0,hi1⟩
 refine⟨fun hlt=>⟨hi0,hlt,by omega,?c0,?c1,?c2,?c3,?c4,?c5,?c6,?c7,?cb⟩,fun hge=>?ce⟩
 case c0=>
  intro hb
  have hx:(⟨0,(nthD p.offers i.toNat SId.off.dflt).want,(nthD p.offers i.toNat SId.off.dflt).value⟩:Off)=nthD p.offers i.toNat SId.off.dflt:=by rw[←hb]
  simp only[hx]
  rw[byT_hit (j:=0) hi0 hlt hb]
  rw[byT_miss (j:=1) hi0 hlt (by rw[hb];decide)]
  rw[byT_miss (j:=2) hi0 hlt (by rw[hb];decide)]
  rw[byT_miss (j:=3) hi0 hlt (by rw[hb];decide)]
  rw[byT_miss (j:=4) hi0 hlt (by rw[hb];decide)]
  rw[byT_miss (j:=5) hi0 hlt (by rw[hb];decide)]
  rw[byT_miss (j:=6) hi0 hlt (by rw[hb];decide)]
  rw[byT_miss (j:=7) hi0 hlt (by rw[hb];decide)]
  have hl:=hlen i 0
  exact⟨by omega,by omega,by omega,⟨rfl,rfl,rfl,rfl,rfl,rfl,rfl,rfl,rfl⟩,by omega,by omega⟩
 case c1=>
  intro hb
  have hx:(⟨1,(nthD p.offers i.toNat SId.off.dflt).want,(nthD p.offers i.toNat SId.off.dflt).value⟩:Off)=nthD p.offers i.toNat SId.off.dflt:=by rw[←hb]
  simp only[hx]
  rw[byT_miss (j:=0) hi0 hlt (by rw[hb];decide)]
  rw[byT_hit (j:=1) hi0 hlt hb]
  rw[byT_miss (j:=2) hi0 hlt (by rw[hb];decide)]
  rw[byT_miss (j:=3) hi0 hlt (by rw[hb];decide)]
  rw[byT_miss (j:=4) hi0 hlt (by rw[hb];decide)]
  rw[byT_miss (j:=5) hi0 hlt (by rw[hb];decide)]
  rw[byT_miss (j:=6) hi0 hlt (by rw[hb];decide)]
  rw[byT_miss (j:=7) hi0 hlt (by rw[hb];decide)]
  have hl:=hlen i 1
  exact⟨by omega,by omega,by omega,⟨rfl,rfl,rfl,rfl,rfl,rfl,rfl,rfl,rfl⟩,by omega,by omega⟩
 case c2=>
  intro hb
  have hx:(⟨2,(nthD p.offers i.toNat SId.off.dflt).want,(nthD p.offers i.toNat SId.off.dflt).value⟩:Off)=nthD p.offers i.toNat SId.off.dflt:=by rw[←hb]
  simp only[hx]
  rw[byT_miss (j:=0) hi0 hlt (by rw[hb];decide)]
  rw[byT_miss (j:=1) hi0 hlt (by rw[hb];decide)]
  rw[byT_hit (j:=2) hi0 hlt hb]
  rw[byT_miss (j:=3) hi0 hlt (by rw[hb];decide)]
  rw[byT_miss (j:=4) hi0 hlt (by rw[hb];decide)]
  rw[byT_miss (j:=5) hi0 hlt (by rw[hb];decide)]
  rw[byT_miss (j:=6) hi0 hlt (by rw[hb];decide)]
  rw[byT_miss (j:=7) hi0 hlt (by rw[hb];decide)]
  have hl:=hlen i 2
  exact⟨by omega,by omega,by omega,⟨rfl,rfl,rfl,rfl,rfl,rfl,rfl,rfl,rfl⟩,by omega,by omega⟩
 case c3=>
  intro hb
  have hx:(⟨3,(nthD p.offers i.toNat SId.off.dflt).want,(nthD p.offers i.toNat SId.off.dflt).value⟩:Off)=nthD p.offers i.toNat SId.off.dflt:=by rw[←hb]
  simp only[hx]
  rw[byT_miss (j:=0) hi0 hlt (by rw[hb];decide)]
  rw[byT_miss (j:=1) hi0 hlt (by rw[hb];decide)]
  rw[byT_miss (j:=2) hi0 hlt (by rw[hb];decide)]
  rw[byT_hit (j:=3) hi0 hlt hb]
  rw[byT_miss (j:=4) hi0 hlt (by rw[hb];decide)]
  rw[byT_miss (j:=5) hi0 hlt (by rw[hb];decide)]
  rw[byT_miss (j:=6) hi0 hlt (by rw[hb];decide)]
  rw[byT_miss (j:=7) hi0 hlt (by rw[hb];decide)]
  have hl:=hlen i 3
  exact⟨by omega,by omega,by omega,⟨rfl,rfl,rfl,rfl,rfl,rfl,rfl,rfl,rfl⟩,by omega,by omega⟩
 case c4=>
  intro hb
  have hx:(⟨4,(nthD p.offers i.toNat SId.off.dflt).want,(nthD p.offers i.toNat SId.off.dflt).value⟩:Off)=nthD p.offers i.toNat SId.off.dflt:=by rw[←hb]
  simp only[hx]
  rw[byT_miss (j:=0) hi0 hlt (by rw[hb];decide)]
  rw[byT_miss (j:=1) hi0 hlt (by rw[hb];decide)]
  rw[byT_miss (j:=2) hi0 hlt (by rw[hb];decide)]
  rw[byT_miss (j:=3) hi0 hlt (by rw[hb];decide)]
  rw[byT_hit (j:=4) hi0 hlt hb]
  rw[byT_miss (j:=5) hi0 hlt (by rw[hb];decide)]
  rw[byT_miss (j:=6) hi0 hlt (by rw[hb];decide)]
  rw[byT_miss (j:=7) hi0 hlt (by rw[hb];decide)]
  have hl:=hlen i 4
  exact⟨by omega,by omega,by omega,⟨rfl,rfl,rfl,rfl,rfl,rfl,rfl,rfl,rfl⟩,by omega,by omega⟩
 case c5=>
  intro hb
  have hx:(⟨5,(nthD p.offers i.toNat SId.off.dflt).want,(nthD p.offers i.toNat SId.off.dflt).value⟩:Off)=nthD p.offers i.toNat SId.off.dflt:=by rw[←hb]
  simp only[hx]
  rw[byT_miss (j:=0) hi0 hlt (by rw[hb];decide)]
  rw[byT_miss (j:=1) hi0 hlt (by rw[hb];decide)]
  rw[byT_miss (j:=2) hi0 hlt (by rw[hb];decide)]
  rw[byT_miss (j:=3) hi0 hlt (by rw[hb];decide)]
  rw[byT_miss (j:=4) hi0 hlt (by rw[hb];decide)]
  rw[byT_hit (j:=5) hi0 hlt hb]
  rw[byT_miss (j:=6) hi0 hlt (by rw[hb];decide)]
  rw[byT_miss (j:=7) hi0 hlt (by rw[hb];decide)]
  have hl:=hlen i 5
  exact⟨by omega,by omega,by omega,⟨rfl,rfl,rfl,rfl,rfl,rfl,rfl,rfl,rfl⟩,by omega,by omega⟩
 case c6=>
  intro hb
  have hx:(⟨6,(nthD p.offers i.toNat SId.off.dflt).want,(nthD p.offers i.toNat SId.off.dflt).value⟩:Off)=nthD p.offers i.toNat SId.off.dflt:=by rw[←hb]
  simp only[hx]
  rw[byT_miss (j:=0) hi0 hlt (by rw[hb];decide)]
  rw[byT_miss (j:=1) hi0 hlt (by rw[hb];decide)]
  rw[byT_miss (j:=2) hi0 hlt (by rw[hb];decide)]
  rw[byT_miss (j:=3) hi0 hlt (by rw[hb];decide)]
  rw[byT_miss (j:=4) hi0 hlt (by rw[hb];decide)]
  rw[byT_miss (j:=5) hi0 hlt (by rw[hb];decide)]
  rw[byT_hit (j:=6) hi0 hlt hb]
  rw[byT_miss (j:=7) hi0 hlt (by rw[hb];decide)]
  have hl:=hlen i 6
  exact⟨by omega,by omega,by omega,⟨rfl,rfl,rfl,rfl,rfl,rfl,rfl,rfl,rfl⟩,by omega,by omega⟩
 case c7=>
  intro hb
  have hx:(⟨7,(nthD p.offers i.toNat SId.off.dflt).want,(nthD p.offers i.toNat SId.off.dflt).value⟩:Off)=nthD p.offers i.toNat SId.off.dflt:=by rw[←hb]
  simp only[hx]
  rw[byT_miss (j:=0) hi0 hlt (by rw[hb];decide)]
  rw[byT_miss (j:=1) hi0 hlt (by rw[hb];decide)]
  rw[byT_miss (j:=2) hi0 hlt (by rw[hb];decide)]
  rw[byT_miss (j:=3) hi0 hlt (by rw[hb];decide)]
  rw[byT_miss (j:=4) hi0 hlt (by rw[hb];decide)]
  rw[byT_miss (j:=5) hi0 hlt (by rw[hb];decide)]
  rw[byT_miss (j:=6) hi0 hlt (by rw[hb];decide)]
  rw[byT_hit (j:=7) hi0 hlt hb]
  have hl:=hlen i 7
  exact⟨by omega,by omega,by omega,⟨rfl,rfl,rfl,rfl,rfl,rfl,rfl,rfl,rfl⟩,by omega,by omega⟩
 case cb=>
  have hv:=hp.2.2.2.2 _ (nthD_mem (d:=SId.off.dflt) (show i.toNat<p.offers.length by omega))
  have:=hp.1
  exact⟨hv.1,by omega⟩
 case ce=>
  have hb:∀j,byT p i j=byB p j:=fun j=>by unfold byT byB;rw[show i.toNat=p.offers.length from by omega,List.take_length]
  simp only[hb]
  rfl
theorem good_of {p:Prob} (h:checkE p=0):Good p:=by
 obtain⟨e,k⟩:=check_zero h
 obtain⟨b,a,m,g,q⟩:=frame_zero e
 refine⟨m,g,b,?_,fun x o=>?_⟩
 ·have d:=Bun.ok_iff.1 b
  have f:=prodOk_iff.1 (a 0 (by omega))
  have c:=prodOk_iff.1 (a 1 (by omega))
  have i:=prodOk_iff.1 (a 2 (by omega))
  have l:=prodOk_iff.1 (a 3 (by omega))
  have n:=prodOk_iff.1 (a 4 (by omega))
  have j:=prodOk_iff.1 (a 5 (by omega))
  simp[nthD] at f c i l n j
  grind[Bun.ok_iff]
 ·have d:=simple_zero (offer_zero (k x o)).1
  simp_all
theorem pow_n {n:Nat} (h:n≤8):(2:Int)^n≤256∧0<(2:Int)^n:=by
 have:n=0∨n=1∨n=2∨n=3∨n=4∨n=5∨n=6∨n=7∨n=8:=by omega
 grind
def worthS (p:Prob) (m:Int):Int:=if faultE p m=0 then bestS p ⟨m,p.supply,p.opn⟩ else 0
theorem worth_bd (p:Prob) (m:Int):0≤worthS p m∧worthS p m≤8000000:=by
 unfold worthS
 split
 ·rename_i h
  have hc:checkE p=0:=by
   unfold faultE at h
   split at h
   ·rename_i h1;exact absurd h h1
   ·rename_i h1;exact Classical.not_not.1 h1
  exact bestS_bd (good_of hc) _
 ·omega
theorem fault_zero {p:Prob} {m:Int} (h:faultE p m=0):checkE p=0∧0≤m∧m<2^p.classes.length:=by
 unfold faultE at h
 split at h
 ·rename_i h1;exact absurd h h1
 ·rename_i h1
  split at h
  ·cases h
  ·rename_i h2
   exact⟨Classical.not_not.1 h1,by omega,by omega⟩
def r80:SCtr:=⟨51,Prob×Int,.cons codP (.one (codI .i64)),fun _=>True,fun a=> .tup [.si .i64 (worthS a.1 a.2),.si .i64 (faultE a.1 a.2)]⟩
def WB:List OCtr:=[r113,r114,bestC 9]
theorem hWB:∀c∈WB,HoldsO Tryz.prog c:=by
 simp only[WB,List.forall_mem_cons,List.not_mem_nil,false_implies,implies_true,and_true]
 exact⟨h113,h114,hBest 9⟩
theorem h80:Holds Tryz.prog r80:=by
 refine con (L:=L8l) (W:=ownT WB) r80 lk (ownT_ok hWB) hL8 ?_
 rintro⟨p,m⟩ _
 refine vcOf (let z0:=decide (faultE p m≠(0:Int));let z1:=SV.il .i64 0;let z2:=[SV.si .i64 (faultE p m)];let z3:=SV.tup (SV.si .i64 (worthS p m)::z2);let z4:=Sit.mk m p.supply p.opn;True∧(z0=true→(SV.tup (z1::z2)).same z3)∧(z0=false→Good p∧True∧((Good p∧L8.of p=L8.of p∧SitOk z4∧MemoOk p [])∧cnt m<9)∧(SV.tup [SV.si .i64 (bestM p (cnt m+1) [] z4).fst,z1]).same z3)) (by kernel_rfl) ?_
 simp only[vcs]
 refine⟨fun h=>by simp[worthS,h],fun h=>?_⟩
 have hz:faultE p m=0:=Classical.not_not.1 h
 obtain⟨hc,h1,h2⟩:=fault_zero hz
 have hg:=good_of hc
 have hp:=pow_n hg.1
 have ha:SitOk ⟨m,p.supply,p.opn⟩:=⟨h1,by simp only;omega,hg.2.2.1,hg.2.2.2.1⟩
 have hm:MemoOk p []:=fun e he=>by simp at he
 have hn:cnt m<9:=by have:=@mem_len m;unfold cnt;omega
 have hb:=best_ok hg (cnt m+1) [] ⟨m,p.supply,p.opn⟩ ha hm (by simp only;omega)
 refine⟨hg,⟨⟨hg,ha,hm⟩,hn⟩,?_,hz.symm⟩
 rw[hb.1]
 simp[worthS,hz]
def setV (p:Prob) (v:List Int) (i:Int):List Int:=v.set (nthD p.offers i.toNat SId.off.dflt).bidder.toNat (nthD p.offers i.toNat SId.off.dflt).value
def valsS (p:Prob) (c:List Int):List Int:=c.foldl (setV p) (List.replicate p.classes.length 0)
theorem pick_idx {l:List Off}:∀{c:List Int} {a:Int} {r:List Off}, -1≤a→pickGo l a c=some r→r.length=c.length∧∀i∈c,0≤i∧i<l.length
 |[],a,r,_,h=>by grind[pickGo]
 |i::c,a,r,e,h=>by
  simp only[pickGo] at h
  split at h
  ·cases h
  ·rename_i d
   obtain⟨f,b,rfl⟩:=Option.map_eq_some_iff.1 h
   obtain⟨g,j⟩:=pick_idx (by omega) b
   grind
theorem vals_len {p:Prob}:∀{c:List Int} {v:List Int},(c.foldl (setV p) v).length=v.length
 |[],v=>rfl
 |i::c,v=>by simp only[List.foldl_cons];rw[vals_len];simp[setV]
theorem valsS_len {p:Prob} {c:List Int}:(valsS p c).length=p.classes.length:=by grind[valsS,vals_len]
def r68:SCtr:=⟨68,Bun,.one (codE .bun),fun _=>True,fun b=> .sb b.ok⟩
theorem h68:Holds Tryz.prog r68:=by
 refine con0 (L:=[]) r68 (fun _ _=> .unroll 7) (by simp) ?_
 intro b _
 refine vcOf (let i:=decide (b.a0<(0:Int));let d:=decide ((4:Int)<b.a0);let k:=decide (b.a1<(0:Int));let e:=decide ((4:Int)<b.a1);let l:=decide (b.a2<(0:Int));let f:=decide ((4:Int)<b.a2);let j:=decide (b.a3<(0:Int));let m:=decide ((4:Int)<b.a3);let n:=decide (b.a4<(0:Int));let g:=decide ((4:Int)<b.a4);let a:=decide (b.a5<(0:Int));let c:=decide ((4:Int)<b.a5);(i=true→(SV.bl false).same (SV.sb (Bun.ok b)))∧(i=false→(d=true→(SV.bl false).same (SV.sb (Bun.ok b)))∧(d=false→(k=true→(SV.bl false).same (SV.sb (Bun.ok b)))∧(k=false→(e=true→(SV.bl false).same (SV.sb (Bun.ok b)))∧(e=false→(l=true→(SV.bl false).same (SV.sb (Bun.ok b)))∧(l=false→(f=true→(SV.bl false).same (SV.sb (Bun.ok b)))∧(f=false→(j=true→(SV.bl false).same (SV.sb (Bun.ok b)))∧(j=false→(m=true→(SV.bl false).same (SV.sb (Bun.ok b)))∧(m=false→(n=true→(SV.bl false).same (SV.sb (Bun.ok b)))∧(n=false→(g=true→(SV.bl false).same (SV.sb (Bun.ok b)))∧(g=false→(a=true→(SV.bl false).same (SV.sb (Bun.ok b)))∧(a=false→(c=true→(SV.bl false).same (SV.sb (Bun.ok b)))∧(c=false→(SV.bl true).same (SV.sb (Bun.ok b))))))))))))))) (by kernel_rfl) ?_
 conv=>zeta
 have o:=@Bun.ok_iff b
 by_cases h:b.ok=true<;>simp_all
def coefR (p:Prob) (r:Int) (o:Off):Int:=
 if r - p.classes.length<0 then(if o.bidder=r then 1 else 0)
 else if r - p.classes.length<6 then nthD [o.want.a0,o.want.a1,o.want.a2,o.want.a3,o.want.a4,o.want.a5] (r - p.classes.length).toNat 0
 else if nthD [p.cls.a0,p.cls.a1,p.cls.a2,p.cls.a3,p.cls.a4,p.cls.a5] (r - p.classes.length - 6).toNat 0=0∨p.classes.length≤o.bidder∨nthD [p.cls.a0,p.cls.a1,p.cls.a2,p.cls.a3,p.cls.a4,p.cls.a5] (r - p.classes.length - 6).toNat 0=nthD p.classes o.bidder.toNat 0 then 0
 else nthD [o.want.a0,o.want.a1,o.want.a2,o.want.a3,o.want.a4,o.want.a5] (r - p.classes.length - 6).toNat 0
theorem coefR_eq {p:Prob} {r:Int} {o:Off} (h:o.bidder<p.classes.length):coefR p r o=coefS p r o:=by
 unfold coefR coefS
 omega
def r110:SCtr:=⟨69,Prob×Int×Off,.cons codP (.cons (codI .i64) (.one (codE .off))),fun a=>a.1.classes.length≤8∧0≤a.2.1∧a.2.1<nrows a.1∧0≤a.2.2.bidder,
 fun a=> .tup [.si .i64 (coefR a.1 a.2.1 a.2.2),.si .i64 (boundS a.1 a.2.1)]⟩
theorem h110:Holds Tryz.prog r110:=by
 refine con0 (L:=[]) r110 (fun _ _=> .unroll 7) (by simp) ?_
 rintro⟨p,r,x⟩ ⟨hp,h1,h2,h3⟩
 simp only[nrows] at hp h1 h2 h3
 refine vcOf (let z0:=(↑p.classes.length:Int);let z1:=decide (x.bidder=r);let z2:=SV.il .i64 1;let z3:=SV.tup [SV.si .i64 (coefR p r x),SV.si .i64 (boundS p r)];let z4:=SV.il .i64 0;let z5:=decide (r<z0+(6:Int));let z6:=(r - z0).toNat;let z7:=[x.want.a0,x.want.a1,x.want.a2,x.want.a3,x.want.a4,x.want.a5];let z8:=r - z0 - (6:Int);let z9:=nthD [p.cls.a0,p.cls.a1,p.cls.a2,p.cls.a3,p.cls.a4,p.cls.a5] z8.toNat (0:Int);let z10:=decide (z9≠(0:Int));let z11:=decide (x.bidder<z0);let z12:=decide (z9≠nthD p.classes x.bidder.toNat (0:Int));let z13:=[SV.si .i64 (nthD [p.opn.a0,p.opn.a1,p.opn.a2,p.opn.a3,p.opn.a4,p.opn.a5] z8.toNat (0:Int))];(decide (r<z0)=true→(z1=true→(SV.tup [z2,z2]).same z3)∧(z1=false→(SV.tup [z4,z2]).same z3))∧(decide (r<z0)=false→inR .i64 (z0+(6:Int))∧(z5=true→inR .i64 (r - z0)∧(0:Int)≤r - z0∧r - z0<(6:Int)∧z6<6∧inR .i64 (r - z0)∧(0:Int)≤r - z0∧r - z0<(6:Int)∧z6<6∧(SV.tup [SV.si .i64 (nthD z7 z6 (0:Int)),SV.si .i64 (nthD [p.supply.a0,p.supply.a1,p.supply.a2,p.supply.a3,p.supply.a4,p.supply.a5] z6 (0:Int))]).same z3)∧(z5=false→inR .i64 (r - z0)∧inR .i64 z8∧(0:Int)≤z8∧z8<(6:Int)∧z8.toNat<6∧(z10=true→(z11=true→(0:Int)≤z8∧z8<(6:Int)∧z8.toNat<6∧(0:Int)≤x.bidder∧x.bidder<z0∧x.bidder.toNat<p.classes.length∧(z12=true→(0:Int)≤z8∧z8<(6:Int)∧z8.toNat<6∧(0:Int)≤z8∧z8<(6:Int)∧z8.toNat<6∧(SV.tup (SV.si .i64 (nthD z7 z8.toNat (0:Int))::z13)).same z3)∧(z12=false→(0:Int)≤z8∧z8<(6:Int)∧z8.toNat<6∧(SV.tup (z4::z13)).same z3))∧(z11=false→(0:Int)≤z8∧z8<(6:Int)∧z8.toNat<6∧(SV.tup (z4::z13)).same z3))∧(z10=false→(0:Int)≤z8∧z8<(6:Int)∧z8.toNat<6∧(SV.tup (z4::z13)).same z3)))) (by kernel_rfl) ?_
 simp only[vcs]
 have b1:r - p.classes.length<0→boundS p r=1:=fun h=>by unfold boundS;rw[if_pos h]
 have b2:¬r - p.classes.length<0→r - p.classes.length<6→boundS p r=nthD [p.supply.a0,p.supply.a1,p.supply.a2,p.supply.a3,p.supply.a4,p.supply.a5] (r - p.classes.length).toNat 0:=fun h h'=>by unfold boundS;rw[if_neg h,if_pos h']
 have b3:¬r - p.classes.length<0→¬r - p.classes.length<6→boundS p r=nthD [p.opn.a0,p.opn.a1,p.opn.a2,p.opn.a3,p.opn.a4,p.opn.a5] (r - p.classes.length - 6).toNat 0:=fun h h'=>by unfold boundS;rw[if_neg h,if_neg h']
 have c1:r - p.classes.length<0→coefR p r x=if x.bidder=r then 1 else 0:=fun h=>by unfold coefR;rw[if_pos h]
 have c2:¬r - p.classes.length<0→r - p.classes.length<6→coefR p r x=nthD [x.want.a0,x.want.a1,x.want.a2,x.want.a3,x.want.a4,x.want.a5] (r - p.classes.length).toNat 0:=fun h h'=>by unfold coefR;rw[if_neg h,if_pos h']
 have c3:=fun(h:¬r - p.classes.length<0) (h':¬r - p.classes.length<6)=>(show coefR p r x=_ by unfold coefR;rw[if_neg h,if_neg h'])
 refine⟨fun ha=>?_,fun ha=>⟨by omega,fun hb=>?_,fun hb=>?_⟩⟩
 ·rw[b1 (by omega),c1 (by omega)]
  exact⟨fun h=>by simp[h],fun h=>by simp[h]⟩
 ·rw[b2 (by omega) (by omega),c2 (by omega) (by omega)]
  refine⟨by omega,by omega,by omega,by omega,by omega,by omega,by omega,by omega,rfl,rfl⟩
 ·rw[b3 (by omega) (by omega),c3 (by omega) (by omega)]
  refine⟨by omega,by omega,by omega,by omega,by omega,fun h4=>⟨fun h5=>⟨by omega,by omega,by omega,by omega,by omega,by omega,fun h6=>⟨by omega,by omega,by omega,by omega,by omega,by omega,(if_neg (by omega)).symm,rfl⟩,fun h6=>⟨by omega,by omega,by omega,(if_pos (by omega)).symm,rfl⟩⟩,fun h5=>⟨by omega,by omega,by omega,(if_pos (by omega)).symm,rfl⟩⟩,fun h4=>⟨by omega,by omega,by omega,(if_pos (by omega)).symm,rfl⟩⟩
def M1:List SCtr:=[r110,r68]
theorem hM1:∀c∈M1,Holds Tryz.prog c:=by
 simp_all[M1,h110,h68]
def r69:SCtr:=⟨44,Prob×List Off,.cons codP (.one (codR .off)),fun a=>a.1.classes.length≤8∧a.2.length≤1000∧(∀x∈a.2,0≤x.bidder∧x.bidder<a.1.classes.length∧x.want.ok=true),fun a=> .sb (fitsB a.1 a.2)⟩
def Λ69 (a:Prob×List Off):Nat→LoopAnn
 |2=> .inv Int (fun i=>⟨[(1,.row .off a.2),(2,.ptr 0 0 20),(5,.si .i64 i)],[.cells a.1.ss 27 20 false]⟩) (fun s=>iS s 5)
  (fun i=>0≤i∧i≤nrows a.1∧∀r:Nat,r<i→sumS a.1 a.2 r≤boundS a.1 r) (fun i=>(nrows a.1 - i).toNat)
  fun i=>fun
   |6=> .inv (Int×Int) (fun x=>⟨[(1,.row .off a.2),(2,.ptr 0 0 20),(5,.si .i64 i),(6,.si .i64 x.2),(7,.si .i64 x.1)],[.cells a.1.ss 27 20 false]⟩)
    (fun s=>(iS s 7,iS s 6))
    (fun x=>0≤x.1∧x.1≤a.2.length∧x.2=sumS a.1 (a.2.take x.1.toNat) i) (fun x=>(a.2.length - x.1).toNat) fun _ _=> .look
   |_=> .look
 |_=> .look
theorem h69:Holds Tryz.prog r69:=by
 refine con0 (L:=M1) r69 Λ69 hM1 ?_
 rintro⟨p,l⟩ ⟨A,G,q⟩
 simp only at A G q
 refine vcOf (let b:=SV.ptr 0 0 20;let c:=SObj.cells (Prob.ss p) 27 20 false;let v:=(↑p.classes.length:Int)+(12:Int);let k:=(↑l.length:Int);((((SV.row SId.off l).same (SV.row SId.off l)∧b.same b∧(SV.il .i64 0).same (SV.si .i64 0)∧True)∧c.same c∧True)∧(0:Int)≤(0:Int)∧(0:Int)≤nrows p∧∀(r:Nat),(↑r:Int)<(0:Int)→sumS p l (↑r:Int)≤boundS p (↑r:Int))∧∀(x:Int),let f:=x+(1:Int);let E:=SV.si .i64 f;((0:Int)≤x∧x≤nrows p∧∀(r:Nat),(↑r:Int)<x→sumS p l (↑r:Int)≤boundS p (↑r:Int))→inR .i64 v∧(decide (x<v)=true→((((SV.row SId.off l).same (SV.row SId.off l)∧b.same b∧(SV.si .i64 x).same (SV.si .i64 x)∧(SV.il .i64 0).same (SV.si .i64 0)∧(SV.il .i64 0).same (SV.si .i64 0)∧True)∧c.same c∧True)∧(0:Int)≤(0:Int)∧(0:Int)≤k∧(0:Int)=sumS p [] x)∧∀(a:Int×Int),let D:=decide (a.fst<(↑l.length:Int));let C:=nthD l a.fst.toNat SId.off.dflt;let w:=a.snd+coefR p x C;let e:=a.fst+(1:Int);let n:=SV.si .i64 x;let h:=SV.si .i64 w;let m:=SV.si .i64 e;let g:=decide (boundS p x<a.snd);(0:Int)≤a.fst∧a.fst≤k∧a.snd=sumS p (List.take a.fst.toNat l) x→(D=true→(0:Int)≤a.fst∧a.fst<(↑l.length:Int)∧a.fst.toNat<l.length∧(p.classes.length≤8∧(0:Int)≤x∧x<nrows p∧(0:Int)≤C.bidder)∧inR .i64 w∧inR .i64 e∧(((SV.row SId.off l).same (SV.row SId.off l)∧b.same b∧n.same n∧h.same h∧m.same m∧True)∧c.same c∧True)∧((0:Int)≤e∧e≤k∧w=sumS p (List.take e.toNat l) x)∧(k - e).toNat<(k - a.fst).toNat)∧(D=false→(p.classes.length≤8∧(0:Int)≤x∧x<nrows p∧(0:Int)≤(0:Int))∧(g=true→(SV.bl false).same (SV.sb (fitsB p l)))∧(g=false→inR .i64 f∧(((SV.row SId.off l).same (SV.row SId.off l)∧b.same b∧E.same E∧True)∧c.same c∧True)∧((0:Int)≤f∧f≤nrows p∧∀(r:Nat),(↑r:Int)<f→sumS p l (↑r:Int)≤boundS p (↑r:Int))∧(nrows p - f).toNat<(nrows p - x).toNat)))∧(decide (x<v)=false→(SV.bl true).same (SV.sb (fitsB p l)))) (by kernel_rfl) ?_
 simp only[vcs]
 have T:nrows p=p.classes.length+12:=rfl
 have P:∀x∈l,x.want.ok=true:=fun x y=>(q x y).2.2
 refine⟨⟨by omega,by omega,fun r J=>by omega⟩,?_⟩
 rintro i ⟨H,F,S⟩
 refine⟨by omega,fun N=>⟨⟨by omega,by omega,by simp[sumS]⟩,?_⟩,?_⟩
 ·rintro⟨j,s⟩ ⟨u,o,B⟩
  simp only at u o B ⊢
  have Q:=@sum_bd p i (l.take j.toNat) fun x y=>P x (List.mem_of_mem_take y)
  have z:(l.take j.toNat).length≤l.length:=by simp;omega
  refine⟨fun t=>?_,fun t=>?_⟩
  ·have O:=q _ (nthD_mem (d:=SId.off.dflt) (show j.toNat<l.length by omega))
   have R:=@coef_bd p i _ O.2.2
   grind[sum_take,coefR_eq]
  ·have:j.toNat=l.length:=by omega
   rw[this,List.take_length] at B
   refine⟨⟨A,by omega,by omega,by omega⟩,fun K=>?_,fun M=>⟨by omega,⟨by omega,by omega,fun r J=>?_⟩,by omega⟩⟩
   ·symm
    rw[Bool.eq_false_iff]
    intro I
    have:=fits_iff.1 I i.toNat (by omega)
    grind
   grind
 grind[fits_iff]
def r24:SCtr:=⟨42,Prob,.one codP,fun p=>True,fun p=> .si .i64 (checkE p)⟩
def Λ24 (p:Prob):Nat→LoopAnn
 |11=> .inv Int (fun k=>⟨[(1,.ptr 0 0 20),(4,.si .i64 k)],[.cells p.ss 27 20 false]⟩) (fun s=>iS s 4) (fun k=>0≤k∧k≤p.classes.length∧∀c∈p.classes.take k.toNat,0≤c∧c≤4) (fun k=>(p.classes.length - k).toNat) fun _ _=> .look
 |16=> .inv Int (fun i=>⟨[(1,.ptr 0 0 20),(5,.si .i64 i)],[.cells p.ss 27 20 false]⟩) (fun s=>iS s 5)
  (fun i=>0≤i∧i≤p.offers.length∧checkL p [] p.offers=checkL p ((p.offers.take i.toNat).map Off.key) (p.offers.drop i.toNat)) (fun i=>(p.offers.length - i).toNat)
  fun i=>fun
   |26=> .inv Int (fun k=>⟨[(1,.ptr 0 0 20),(5,.si .i64 i),(6,.ptr 1 0 8),(7,.si .i64 k)],[.cells p.ss 27 20 false,.cells (encS .off (nthD p.offers i.toNat SId.off.dflt)) 73 8 false]⟩) (fun s=>iS s 7)
    (fun k=>0≤k∧k≤i∧∀j:Nat,j<k→(nthD p.offers j SId.off.dflt).key≠(nthD p.offers i.toNat SId.off.dflt).key) (fun k=>(i - k).toNat) fun _ _=> .look
   |_=> .look
 |4=> .inv Int (fun k=>⟨[(1,.ptr 0 0 20),(3,.si .i64 k)],[.cells p.ss 27 20 false]⟩) (fun s=>iS s 3) (fun k=>0≤k∧k≤6∧∀j:Nat,j<k→prodOk p j) (fun k=>(6 - k).toNat) fun _ _=> .look
 |_=> .look
theorem bun_z {b:Bun}:(decide (b.a0=0)&&(decide (b.a1=0)&&(decide (b.a2=0)&&(decide (b.a3=0)&&(decide (b.a4=0)&&(decide (b.a5=0)&&true))))))=decide (b=Bun.zero):=by
 simp_all[bun_eq,Bun.zero]
theorem bun_d {b c:Bun}:(decide (b.a0=c.a0)&&(decide (b.a1=c.a1)&&(decide (b.a2=c.a2)&&(decide (b.a3=c.a3)&&(decide (b.a4=c.a4)&&(decide (b.a5=c.a5)&&true))))))=decide (b=c):=by
 grind[bun_eq]
theorem mem_take_nth {a:Type} {l:List a} {i:Int} {d x:a} (b:i≤l.length) (h:x∈l.take i.toNat):∃j:Nat,(j:Int)<i∧nthD l j d=x:=by
 obtain⟨j,c,rfl⟩:=List.mem_iff_getElem.1 h
 grind[nthD_eq]
theorem h24:Holds Tryz.prog r24:=by
 refine con0 (L:=r69::M1) r24 Λ24 (by simp only[List.forall_mem_cons];exact⟨h69,hM1⟩) ?_
 intro p _
 refine vcOf (let z0:=SV.si .i64 (checkE p);let z1:=SV.ptr 0 0 20;let z2:=SV.il .i64 0;let z3:=SObj.cells (Prob.ss p) 27 20 false;let z4:=[p.cls.a0,p.cls.a1,p.cls.a2,p.cls.a3,p.cls.a4,p.cls.a5];let z5:=[p.opn.a0,p.opn.a1,p.opn.a2,p.opn.a3,p.opn.a4,p.opn.a5];let z6:=[p.supply.a0,p.supply.a1,p.supply.a2,p.supply.a3,p.supply.a4,p.supply.a5];let z7:=p.classes.length;let z8:=(↑z7:Int);let z9:=decide ((8:Int)<z8);let z10:=p.offers.length;let z11:=(↑z10:Int);let z12:=decide ((160:Int)<z11);let z13:=(↑p.classes.length:Int);let z14:=(↑p.offers.length:Int);let z15:=checkL p [] p.offers;let z16:=SId.off.dflt;let z17:=SV.ptr 1 0 8;True∧((!p.supply.ok)=true→(SV.il .i64 4).same z0)∧((!p.supply.ok)=false→(((z1.same z1∧z2.same (SV.si .i64 0)∧True)∧z3.same z3∧True)∧(0:Int)≤(0:Int)∧(0:Int)≤(6:Int)∧∀(j:Nat),(↑j:Int)<(0:Int)→prodOk p j)∧∀(x:Int),let z18:=decide (x<(6:Int));let z19:=nthD z4 x.toNat (0:Int);let z20:=decide (z19<(0:Int));let z21:=decide ((4:Int)<z19);let z22:=nthD z5 x.toNat (0:Int);let z23:=decide (z22<(0:Int));let z24:=nthD z6 x.toNat (0:Int);let z25:=decide (z19=(0:Int));let z26:=x+(1:Int);let z27:=SV.si .i64 z26;((0:Int)≤x∧x≤(6:Int)∧∀(j:Nat),(↑j:Int)<x→prodOk p j)→(z18=true→(0:Int)≤x∧x<(6:Int)∧x.toNat<6∧(z20=true→(SV.il .i64 4).same z0)∧(z20=false→(0:Int)≤x∧x<(6:Int)∧x.toNat<6∧(z21=true→(SV.il .i64 4).same z0)∧(z21=false→(0:Int)≤x∧x<(6:Int)∧x.toNat<6∧(z23=true→(SV.il .i64 4).same z0)∧(z23=false→(0:Int)≤x∧x<(6:Int)∧x.toNat<6∧(0:Int)≤x∧x<(6:Int)∧x.toNat<6∧(decide (z24<z22)=true→(SV.il .i64 4).same z0)∧(decide (z24<z22)=false→(0:Int)≤x∧x<(6:Int)∧x.toNat<6∧(z25=true→(0:Int)≤x∧x<(6:Int)∧x.toNat<6∧(0:Int)≤x∧x<(6:Int)∧x.toNat<6∧(decide (z22≠z24)=true→(SV.il .i64 4).same z0)∧(decide (z22≠z24)=false→inR .i64 z26∧((z1.same z1∧z27.same z27∧True)∧z3.same z3∧True)∧((0:Int)≤z26∧z26≤(6:Int)∧∀(j:Nat),(↑j:Int)<z26→prodOk p j)∧((6:Int) - z26).toNat<((6:Int) - x).toNat))∧(z25=false→inR .i64 z26∧((z1.same z1∧z27.same z27∧True)∧z3.same z3∧True)∧((0:Int)≤z26∧z26≤(6:Int)∧∀(j:Nat),(↑j:Int)<z26→prodOk p j)∧((6:Int) - z26).toNat<((6:Int) - x).toNat))))))∧(z18=false→(z9=true→(SV.il .i64 3).same z0)∧(z9=false→(z12=true→(SV.il .i64 3).same z0)∧(z12=false→(((z1.same z1∧z2.same (SV.si .i64 0)∧True)∧z3.same z3∧True)∧(0:Int)≤(0:Int)∧(0:Int)≤z13∧∀(c:Int),c∈[]→(0:Int)≤c∧c≤(4:Int))∧∀(x:Int),let z28:=nthD p.classes x.toNat (0:Int);let z29:=decide (z28<(0:Int));let z30:=decide ((4:Int)<z28);let z31:=x+(1:Int);let z32:=SV.si .i64 z31;((0:Int)≤x∧x≤z13∧∀(c:Int),c∈List.take x.toNat p.classes→(0:Int)≤c∧c≤(4:Int))→(decide (x<z8)=true→(0:Int)≤x∧x<z8∧x.toNat<z7∧(z29=true→(SV.il .i64 4).same z0)∧(z29=false→(0:Int)≤x∧x<z8∧x.toNat<z7∧(z30=true→(SV.il .i64 4).same z0)∧(z30=false→inR .i64 z31∧((z1.same z1∧z32.same z32∧True)∧z3.same z3∧True)∧((0:Int)≤z31∧z31≤z13∧∀(c:Int),c∈List.take z31.toNat p.classes→(0:Int)≤c∧c≤(4:Int))∧(z13 - z31).toNat<(z13 - x).toNat)))∧(decide (x<z8)=false→(((z1.same z1∧z2.same (SV.si .i64 0)∧True)∧z3.same z3∧True)∧(0:Int)≤(0:Int)∧(0:Int)≤z14∧z15=z15)∧∀(x:Int),let z33:=nthD p.offers x.toNat z16;let z34:=z33.bidder;let z35:=decide (z34<(0:Int));let z36:=decide (z33.value<(1:Int));let z37:=decide ((1000000:Int)<z33.value);let z38:=z33.want;let z39:=decide (z38.a0=(0:Int))&&(decide (z38.a1=(0:Int))&&(decide (z38.a2=(0:Int))&&(decide (z38.a3=(0:Int))&&(decide (z38.a4=(0:Int))&&(decide (z38.a5=(0:Int))&&true)))));let z40:=SObj.cells [SV.si .i64 z34,SV.si .i64 z38.a0,SV.si .i64 z38.a1,SV.si .i64 z38.a2,SV.si .i64 z38.a3,SV.si .i64 z38.a4,SV.si .i64 z38.a5,SV.si .i64 z33.value] 73 8 false;let z41:=x+(1:Int);let z42:=SV.si .i64 z41;(0:Int)≤x∧x≤z14∧z15=checkL p (List.map Off.key (List.take x.toNat p.offers)) (List.drop x.toNat p.offers)→(decide (x<z11)=true→(0:Int)≤x∧x<z11∧x.toNat<z10∧(z35=true→(SV.il .i64 6).same z0)∧(z35=false→(decide (z8≤z34)=true→(SV.il .i64 6).same z0)∧(decide (z8≤z34)=false→(z36=true→(SV.il .i64 4).same z0)∧(z36=false→(z37=true→(SV.il .i64 4).same z0)∧(z37=false→True∧((!z38.ok)=true→(SV.il .i64 4).same z0)∧((!z38.ok)=false→(z39=true→(SV.il .i64 4).same z0)∧(z39=false→(p.classes.length≤8∧1≤1000∧∀(x:Off),x∈[z33]→(0:Int)≤x.bidder∧x.bidder<z13∧x.want.ok=true)∧((!fitsB p [z33])=true→(SV.il .i64 14).same z0)∧((!fitsB p [z33])=false→(((z1.same z1∧(SV.si .i64 x).same (SV.si .i64 x)∧z17.same z17∧z2.same (SV.si .i64 0)∧True)∧z3.same z3∧z40.same z40∧True)∧(0:Int)≤(0:Int)∧(0:Int)≤x∧∀(j:Nat),(↑j:Int)<(0:Int)→(nthD p.offers j z16).key≠z33.key)∧∀(x_1:Int),let z43:=nthD p.offers x_1.toNat z16;let z44:=decide (z43.bidder=z34);let z45:=z43.want;let z46:=decide (z45.a0=z38.a0)&&(decide (z45.a1=z38.a1)&&(decide (z45.a2=z38.a2)&&(decide (z45.a3=z38.a3)&&(decide (z45.a4=z38.a4)&&(decide (z45.a5=z38.a5)&&true)))));let z47:=x_1+(1:Int);let z48:=SV.si .i64 x;let z49:=SV.si .i64 z47;((0:Int)≤x_1∧x_1≤x∧∀(j:Nat),(↑j:Int)<x_1→(nthD p.offers j z16).key≠z33.key)→(decide (x_1<x)=true→(0:Int)≤x_1∧x_1<z11∧x_1.toNat<z10∧(z44=true→(0:Int)≤x_1∧x_1<z11∧x_1.toNat<z10∧(z46=true→(SV.il .i64 7).same z0)∧(z46=false→inR .i64 z47∧((z1.same z1∧z48.same z48∧z17.same z17∧z49.same z49∧True)∧z3.same z3∧z40.same z40∧True)∧((0:Int)≤z47∧z47≤x∧∀(j:Nat),(↑j:Int)<z47→(nthD p.offers j z16).key≠z33.key)∧(x - z47).toNat<(x - x_1).toNat))∧(z44=false→inR .i64 z47∧((z1.same z1∧z48.same z48∧z17.same z17∧z49.same z49∧True)∧z3.same z3∧z40.same z40∧True)∧((0:Int)≤z47∧z47≤x∧∀(j:Nat),(↑j:Int)<z47→(nthD p.offers j z16).key≠z33.key)∧(x - z47).toNat<(x - x_1).toNat))∧(decide (x_1<x)=false→inR .i64 z41∧((z1.same z1∧z42.same z42∧True)∧z3.same z3∧True)∧((0:Int)≤z41∧z41≤z14∧z15=checkL p (List.map Off.key (List.take z41.toNat p.offers)) (List.drop z41.toNat p.offers))∧(z14 - z41).toNat<(z14 - x).toNat)))))))))∧(decide (x<z11)=false→z2.same z0))))))) (by kernel_rfl) ?_
 simp only[bun_z,bun_d]
 simp only[vcs]
 have e4:frameE p=4→(4:Int)=checkE p:=fun h=>by simp[checkE,h]
 have e3:frameE p=3→(3:Int)=checkE p:=fun h=>by simp[checkE,h]
 refine⟨fun hs=>e4 (frame_sup hs),fun hs=>⟨⟨by omega,by omega,fun j hj=>by omega⟩,?_⟩⟩
 rintro k ⟨hk0,hk1,hk⟩
 refine⟨fun hlt=>?_,fun hge=>?_⟩
 ·have bad:¬prodOk p k.toNat→(4:Int)=checkE p:=fun h=>e4 (frame_prod hs (by omega) h)
  have nxt:prodOk p k.toNat→∀(j:Nat),(j:Int)<k+1→prodOk p j:=fun h j hj=>by
   by_cases hj2:(j:Int)<k
   ·exact hk j hj2
   ·rw[show j=k.toNat from by omega];exact h
  repeat' (first|refine And.intro ?_ ?_|intro _)
  all_goals first
   |omega
   |exact bad fun hh=>by have h2:=prodOk_iff.1 hh;omega
   |exact nxt (prodOk_iff.2 (by omega)) _ (by assumption)
 ·have hall:∀j:Nat,j<6→prodOk p j:=fun j hj=>hk j (by omega)
  refine⟨fun h=>e3 (frame_len hs hall (.inl (by omega))),fun h8=>⟨fun h=>e3 (frame_len hs hall (.inr (by omega))),fun h160=>⟨⟨by omega,by omega,by simp⟩,?_⟩⟩⟩
  rintro i ⟨hi0,hi1,hi⟩
  refine⟨fun hlt=>?_,fun hge=>?_⟩
  ·have hm:=nthD_mem (d:=0) (show i.toNat<p.classes.length by omega)
   refine⟨by omega,by omega,by omega,fun h=>e4 (frame_cls hs hall (by omega) hm (by omega)),fun h1=>⟨by omega,by omega,by omega,fun h=>e4 (frame_cls hs hall (by omega) hm (by omega)),fun h2=>⟨by omega,⟨by omega,by omega,?_⟩,by omega⟩⟩⟩
   exact mem_take_next hi0 hlt hi (by omega)
  ·rw[show i.toNat=p.classes.length from by omega,List.take_length] at hi
   have hz:frameE p=0:=frame_ok hs hall (by omega) hi
   have ce:checkE p=checkL p [] p.offers:=by simp[checkE,hz]
   refine⟨⟨by omega,by omega⟩,?_⟩
   rintro i ⟨hi0,hi1,hi⟩
   refine⟨fun hlt=>?_,fun hge=>?_⟩
   ·rw[drop_nth (d:=SId.off.dflt) hi0 hlt] at hi
    generalize hx:nthD p.offers i.toNat SId.off.dflt=x at hi ⊢
    have oe:∀c:Int,c≠0→offerE p x=c→c=checkE p:=fun c hc h=>by
     rw[ce,hi]
     simp only[checkL,h]
     rw[if_pos hc]
    have se:∀c:Int,c≠0→simpleE p.classes.length x=c→c=checkE p:=fun c hc h=>oe c hc (by
     unfold offerE
     rw[if_pos (by omega),h])
    refine⟨by omega,by omega,by omega,fun h1=>?_,fun h1=>⟨fun h2=>?_,fun h2=>⟨fun h3=>?_,fun h3=>⟨fun h4=>?_,fun h4=>⟨fun h5=>?_,fun h5=>⟨fun h6=>?_,fun h6=>?_⟩⟩⟩⟩⟩⟩
    ·exact se 6 (by decide) (by unfold simpleE;rw[if_pos (by omega)])
    ·exact se 6 (by decide) (by unfold simpleE;rw[if_pos (by omega)])
    ·exact se 4 (by decide) (by unfold simpleE;rw[if_neg (by omega),if_pos (by omega)])
    ·exact se 4 (by decide) (by unfold simpleE;rw[if_neg (by omega),if_pos (by omega)])
    ·exact se 4 (by decide) (by unfold simpleE;rw[if_neg (by omega),if_neg (by omega),h5];rfl)
    ·have hs0:simpleE p.classes.length x=0:=by unfold simpleE;rw[if_neg (by omega),if_neg (by omega),h5];rfl
     exact oe 4 (by decide) (by simp[offerE,hs0,h6])
    ·have hs0:simpleE p.classes.length x=0:=by unfold simpleE;rw[if_neg (by omega),if_neg (by omega),h5];rfl
     refine⟨⟨by omega,by omega,fun y hy=>?_⟩,fun h7=>?_,fun h7=>⟨⟨by omega,by omega,fun j hj=>by omega⟩,?_⟩⟩
     ·rw[List.mem_singleton.1 hy]
      exact⟨by omega,by omega,h5⟩
     ·exact oe 14 (by decide) (by simp[offerE,hs0,h6,h7])
     ·have ho0:offerE p x=0:=by simp[offerE,hs0,h6,h7]
      rintro k ⟨hk0,hk1,hk⟩
      have hnx:(nthD p.offers k.toNat SId.off.dflt).key≠x.key→∀j:Nat,(j:Int)<k+1→(nthD p.offers j SId.off.dflt).key≠x.key:=fun h j hj=>by
       by_cases hj2:(j:Int)<k
       ·exact hk j hj2
       ·rw[show j=k.toNat from by omega];exact h
      refine⟨fun hlt2=>⟨by omega,by omega,by omega,fun h8=>⟨by omega,by omega,by omega,fun h9=>?_,fun h9=>⟨by omega,⟨by omega,by omega,?_⟩,by omega⟩⟩,fun h8=>⟨by omega,⟨by omega,by omega,?_⟩,by omega⟩⟩,fun hge2=>⟨by omega,⟨by omega,by omega,?_⟩,by omega⟩⟩
      ·have hk9:(nthD p.offers k.toNat SId.off.dflt).key=x.key:=by
        show BKey.mk _ _=BKey.mk _ _
        rw[h8,h9]
       have hmem:x.key∈(p.offers.take i.toNat).map Off.key:=by
        rw[←hk9]
        refine List.mem_map.2 ⟨_,?_,rfl⟩
        rw[nthD_eq (by omega)]
        exact List.mem_take_iff_getElem.2 ⟨k.toNat,by omega,rfl⟩
       rw[ce,hi]
       simp only[checkL,ho0,ne_eq,not_true,if_false,if_pos hmem]
      ·refine hnx fun e=>h9 ?_
       injection e
      ·refine hnx fun e=>h8 ?_
       injection e
      ·have hnm:x.key∉(p.offers.take i.toNat).map Off.key:=by
        intro hmem
        obtain⟨o,ho,he⟩:=List.mem_map.1 hmem
        obtain⟨j,hj,rfl⟩:=mem_take_nth (d:=SId.off.dflt) hi1 ho
        exact hk j (by omega) he
       rw[hi,take_nth (d:=SId.off.dflt) hi0 hlt,hx]
       simp only[checkL,ho0,ne_eq,not_true,if_false,if_neg hnm,List.map_append,List.map_cons,List.map_nil]
   ·rw[show i.toNat=p.offers.length from by omega,List.drop_length] at hi
    rw[ce,hi]
    rfl
def M2:List SCtr:=r24::r69::M1
theorem hM2:∀c∈M2,Holds Tryz.prog c:=by
 grind[M2,h24,h69,hM1]
def r109:SCtr:=⟨43,Prob×List Int,.cons codP (.one (codR (.i .i64))),fun a=>a.2.length≤9223372036854775807∧a.1.offers.length≤1000,fun a=> .tup [.row .off (pickL a.1 a.2),.sb (pickOk a.1 a.2)]⟩
def lastI (c:List Int) (i:Int):Int:=if i=0 then -1 else nthD c (i - 1).toNat 0
def Λ109 (a:Prob×List Int):Nat→LoopAnn
 |3=> .inv (Int×List Off) (fun x=>⟨[(1,.row (.i .i64) a.2),(2,.ptr 0 0 20),(6,.ow 1 x.2.length 8),(7,.si .i64 x.1)],
   [.cells a.1.ss 27 20 false,.row .off x.2 73 true]⟩) (fun s=>(iS s 7,oS .off s 1))
  (fun x=>0≤x.1∧x.1≤a.2.length∧(x.2.length≤lastI a.2 x.1+1∧lastI a.2 x.1<1000)∧ -1≤lastI a.2 x.1∧pickGo a.1.offers (-1) a.2=(pickGo a.1.offers (lastI a.2 x.1) (a.2.drop x.1.toNat)).map (x.2++·)) (fun x=>(a.2.length - x.1).toNat) fun _ _=> .look
 |_=> .look
theorem h109:Holds Tryz.prog r109:=by
 refine con0 (L:=M2) r109 Λ109 hM2 ?_
 rintro⟨p,c⟩ ⟨hc,hof⟩
 have hc:c.length≤9223372036854775807:=hc
 have hof:p.offers.length≤1000:=hof
 refine vcOf (let z0:=SId.i .i64;let z1:=SV.ptr 0 0 20;let z2:=SV.ow 1 0 8;let z3:=SObj.cells [SV.si .i64 p.supply.a0,SV.si .i64 p.supply.a1,SV.si .i64 p.supply.a2,SV.si .i64 p.supply.a3,SV.si .i64 p.supply.a4,SV.si .i64 p.supply.a5,SV.si .i64 p.opn.a0,SV.si .i64 p.opn.a1,SV.si .i64 p.opn.a2,SV.si .i64 p.opn.a3,SV.si .i64 p.opn.a4,SV.si .i64 p.opn.a5,SV.si .i64 p.cls.a0,SV.si .i64 p.cls.a1,SV.si .i64 p.cls.a2,SV.si .i64 p.cls.a3,SV.si .i64 p.cls.a4,SV.si .i64 p.cls.a5,SV.row z0 p.classes,SV.row SId.off p.offers] 27 20 false;let z4:=SObj.row SId.off [] 73 true;let z5:=(↑c.length:Int);let z6:=lastI c (0:Int);let z7:=pickGo p.offers (-1:Int) c;let z8:=(↑c.length:Int);let z9:=SV.tup [SV.row SId.off (pickL p c),SV.sb (pickOk p c)];let z10:=p.offers.length;let z11:=(↑z10:Int);let z12:=SId.off.dflt;((((SV.row z0 c).same (SV.row z0 c)∧z1.same z1∧z2.same z2∧(SV.il .i64 0).same (SV.si .i64 0)∧True)∧z3.same z3∧z4.same z4∧True)∧(0:Int)≤(0:Int)∧(0:Int)≤z5∧((0:Int)≤z6+(1:Int)∧z6<(1000:Int))∧(-1:Int)≤z6∧z7=Option.map (fun x ↦((0:Int),[]).snd++x) (pickGo p.offers z6 c))∧∀(x:Int×List Off),let z13:=lastI c x.fst;let z14:=nthD c x.fst.toNat (0:Int);let z15:=decide (z14<(0:Int));let z16:=decide ((0:Int)<x.fst);let z17:=x.fst - (1:Int);let z18:=decide (z14≤nthD c z17.toNat (0:Int));let z19:=x.snd.length+1;let z20:=x.fst+(1:Int);let z21:=x.snd++[nthD p.offers z14.toNat z12];let z22:=SV.si .i64 z20;let z23:=SObj.row SId.off z21 73 true;let z24:=lastI c z20;(0:Int)≤x.fst∧x.fst≤z5∧((↑x.snd.length:Int)≤z13+(1:Int)∧z13<(1000:Int))∧(-1:Int)≤z13∧z7=Option.map (fun x_1 ↦x.snd++x_1) (pickGo p.offers z13 (List.drop x.fst.toNat c))→(decide (x.fst<z8)=true→(0:Int)≤x.fst∧x.fst<z8∧x.fst.toNat<c.length∧(z15=true→(SV.tup [SV.row z0 [],SV.bl false]).same z9)∧(z15=false→(0:Int)≤x.fst∧x.fst<z8∧x.fst.toNat<c.length∧(decide (z11≤z14)=true→(SV.tup [SV.row z0 [],SV.bl false]).same z9)∧(decide (z11≤z14)=false→(z16=true→(0:Int)≤x.fst∧x.fst<z8∧x.fst.toNat<c.length∧inR .i64 z17∧(0:Int)≤z17∧z17<z8∧z17.toNat<c.length∧(z18=true→(SV.tup [SV.row z0 [],SV.bl false]).same z9)∧(z18=false→(0:Int)≤x.fst∧x.fst<z8∧x.fst.toNat<c.length∧(0:Int)≤z14∧z14<z11∧z14.toNat<z10∧x.snd.length=x.snd.length∧z19*64≤140737488355328∧z19≤1000000000000∧inR .i64 z20∧(((SV.row z0 c).same (SV.row z0 c)∧z1.same z1∧(SV.ow 1 z21.length 8).same (SV.ow 1 z21.length 8)∧z22.same z22∧True)∧z3.same z3∧z23.same z23∧True)∧((0:Int)≤z20∧z20≤z5∧((↑z21.length:Int)≤z24+(1:Int)∧z24<(1000:Int))∧(-1:Int)≤z24∧z7=Option.map (fun x ↦(z20,z21).snd++x) (pickGo p.offers z24 (List.drop z20.toNat c)))∧(z5 - z20).toNat<(z5 - x.fst).toNat))∧(z16=false→(0:Int)≤x.fst∧x.fst<z8∧x.fst.toNat<c.length∧(0:Int)≤z14∧z14<z11∧z14.toNat<z10∧x.snd.length=x.snd.length∧z19*64≤140737488355328∧z19≤1000000000000∧inR .i64 z20∧(((SV.row z0 c).same (SV.row z0 c)∧z1.same z1∧(SV.ow 1 z21.length 8).same (SV.ow 1 z21.length 8)∧z22.same z22∧True)∧z3.same z3∧z23.same z23∧True)∧((0:Int)≤z20∧z20≤z5∧((↑z21.length:Int)≤z24+(1:Int)∧z24<(1000:Int))∧(-1:Int)≤z24∧z7=Option.map (fun x ↦(z20,z21).snd++x) (pickGo p.offers z24 (List.drop z20.toNat c)))∧(z5 - z20).toNat<(z5 - x.fst).toNat))))∧(decide (x.fst<z8)=false→x.snd.length=x.snd.length∧(SV.tup [SV.row SId.off x.snd,SV.bl true]).same z9)) (by kernel_rfl) ?_
 simp only[vcs]
 have hbad:pickGo p.offers (-1) c=none→(SV.row (.i .i64) []).same (SV.row .off (pickL p c))∧false=pickOk p c:=fun h=>⟨same_row_nil.2 (by simp[pickL,h]),by simp[pickOk,h]⟩
 refine⟨⟨by omega,by omega,by simp[lastI],by simp[lastI]⟩,?_⟩
 rintro⟨i,out⟩ ⟨hi0,hi1,hlen,hla,hi⟩
 simp only at hi0 hi1 hlen hla hi ⊢
 refine⟨fun hlt=>?_,fun hge=>?_⟩
 ·rw[drop_nth (d:=0) hi0 hlt] at hi
  have hl1:lastI c (i+1)=nthD c i.toNat 0:=by unfold lastI;rw[if_neg (by omega),show i+1 - 1=i by omega]
  have hl2:i≠0→lastI c i=nthD c (i - 1).toNat 0:=fun h=>by unfold lastI;rw[if_neg h]
  have hl3:i=0→lastI c i= -1:=fun h=>by unfold lastI;rw[if_pos h]
  generalize hx:nthD c i.toNat 0=x at hi hl1 ⊢
  simp only[pickGo] at hi
  have hgood:¬(x≤lastI c i∨p.offers.length≤x)→pickGo p.offers (-1) c=(pickGo p.offers (lastI c (i+1)) (c.drop (i+1).toNat)).map fun r=>(out++[nthD p.offers x.toNat SId.off.dflt])++r:=fun h=>by
   rw[if_neg h] at hi
   rw[hi,hl1,Option.map_map]
   congr 1
   funext r
   simp
  have bad:(x≤lastI c i∨p.offers.length≤x)→(SV.row (.i .i64) []).same (SV.row .off (pickL p c))∧false=pickOk p c:=fun h=>hbad (by rw[hi,if_pos h];rfl)
  have hlen2:¬(x≤lastI c i∨p.offers.length≤x)→((out++[nthD p.offers x.toNat SId.off.dflt]).length:Int)≤lastI c (i+1)+1∧lastI c (i+1)<1000:=fun h=>by
   rw[hl1]
   simp only[List.length_append,List.length_singleton]
   omega
  refine⟨by omega,by omega,by omega,fun h1=>bad (.inl (by omega)),fun h1=>⟨by omega,by omega,by omega,fun h2=>bad (.inr (by omega)),fun h2=>⟨fun h3=>⟨by omega,by omega,by omega,by omega,by omega,by omega,by omega,fun h4=>bad (.inl (by rw[hl2 (by omega)];omega)),fun h4=>?_⟩,fun h3=>?_⟩⟩⟩
  ·have:=hl2 (by omega)
   refine⟨by omega,by omega,by omega,by omega,by omega,by omega,by omega,by omega,by omega,⟨by omega,by omega,hlen2 (by omega),by omega,hgood (by omega)⟩,by omega⟩
  ·have:=hl3 (by omega)
   refine⟨by omega,by omega,by omega,by omega,by omega,by omega,by omega,by omega,by omega,⟨by omega,by omega,hlen2 (by omega),by omega,hgood (by omega)⟩,by omega⟩
 ·rw[show i.toNat=c.length from by omega,List.drop_length] at hi
  simp only[pickGo,Option.map_some,List.append_nil] at hi
  exact⟨by simp[pickL,hi],by simp[pickOk,hi]⟩
def M3:List SCtr:=r109::M2
theorem hM3:∀c∈M3,Holds Tryz.prog c:=by
 grind[M3,h109,hM2]
def r55:SCtr:=⟨21,Prob×List Int,.cons codP (.one (codR (.i .i64))),fun a=>a.2.length≤9223372036854775807,fun a=> .si .i64 (feasE a.1 a.2)⟩
theorem h55:Holds Tryz.prog r55:=by
 refine con0 (L:=M3) r55 (fun p=>fun _=> .look) hM3 ?_
 rintro⟨p,c⟩ (n:c.length≤9223372036854775807)
 refine vcOf (let e:=decide (checkE p≠(0:Int));let d:=SV.si .i64 (feasE p c);let f:=!fitsB p (pickL p c);True∧(e=true→(SV.si .i64 (checkE p)).same d)∧(e=false→(c.length≤9223372036854775807∧p.offers.length≤1000)∧((!pickOk p c)=true→(SV.il .i64 4).same d)∧((!pickOk p c)=false→(p.classes.length≤8∧(pickL p c).length≤1000∧∀(x:Off),x∈pickL p c→(0:Int)≤x.bidder∧x.bidder<(↑p.classes.length:Int)∧x.want.ok=true)∧(f=true→(SV.il .i64 14).same d)∧(f=false→(SV.il .i64 0).same d)))) (by kernel_rfl) ?_
 simp only[vcs]
 refine⟨fun h=>by simp[feasE,h],fun h=>?_⟩
 have g:checkE p=0:=Classical.not_not.1 h
 obtain⟨m,j⟩:=check_zero g
 obtain⟨s,o,l,q,t⟩:=frame_zero m
 refine⟨⟨n,by omega⟩,fun a=>by grind[feasE],fun a=>⟨⟨l,?_,?_⟩,fun k=>by grind[feasE],fun k=>by grind[feasE]⟩⟩
 ·unfold pickOk at a
  obtain⟨r,b⟩:=Option.isSome_iff_exists.1 a
  have:=pick_len (by omega) b
  grind[pickL]
 ·unfold pickOk at a
  obtain⟨r,b⟩:=Option.isSome_iff_exists.1 a
  simp only[pickL,b,Option.getD_some]
  intro x i
  have u:=simple_zero (offer_zero (j x (pick_mem (by omega) b x i))).1
  simp_all
def sumV:List Off→Int
 |[]=>0
 |x::l=>x.value+sumV l
def valueS (p:Prob) (c:List Int):Int:=if checkE p=0 then sumV (pickL p c) else 0
theorem sumV_append:∀{l m:List Off},sumV (l++m)=sumV l+sumV m
 |[],m=>by simp[sumV]
 |x::l,m=>by simp only[List.cons_append,sumV,@sumV_append l m];omega
theorem sumV_take {l:List Off} {i:Int} (a:0≤i) (h:i<l.length):sumV (l.take (i+1).toNat)=sumV (l.take i.toNat)+(nthD l i.toNat SId.off.dflt).value:=by
 rw[take_nth (d:=SId.off.dflt) a h,sumV_append]
 simp[sumV]
def r58:SCtr:=⟨22,Prob×List Int,.cons codP (.one (codR (.i .i64))),fun a=>a.2.length≤9223372036854775807,fun a=> .si .i64 (valueS a.1 a.2)⟩
def Λ58 (a:Prob×List Int):Nat→LoopAnn
 |6=> .inv Int (fun i=>⟨[(5,.row .off (pickL a.1 a.2)),(7,.si .i64 (sumV ((pickL a.1 a.2).take i.toNat))),(8,.si .i64 i)],[.cells a.1.ss 27 20 false]⟩) (fun s=>iS s 8)
  (fun i=>0≤i∧i≤(pickL a.1 a.2).length) (fun i=>((pickL a.1 a.2).length - i).toNat) fun _ _=> .look
 |_=> .look
theorem picks_ok {p:Prob} {c:List Int} (h:checkE p=0):(pickL p c).length≤160∧∀x∈pickL p c,x∈p.offers:=by
 have d:=good_of h
 unfold pickL
 cases a:pickGo p.offers (-1) c with
 |none=>simp
 |some r=>
  refine⟨?_,fun x b=>pick_mem (by omega) a x b⟩
  have e:=pick_len (by omega) a
  have f:=d.2.1
  grind
theorem sum_val_bd {p:Prob} (a:Good p):∀{l:List Off},(∀x∈l,x∈p.offers)→0≤sumV l∧sumV l≤1000000*l.length
 |[],_=>by simp[sumV]
 |x::l,h=>by
  have c:=a.2.2.2.2 x (h x (by simp))
  have d:=@sum_val_bd p a l fun y b=>h y (by simp[b])
  grind[sumV]
theorem h58:Holds Tryz.prog r58:=by
 refine con0 (L:=M3) r58 Λ58 hM3 ?_
 rintro⟨p,c⟩ (A:c.length≤9223372036854775807)
 refine vcOf (let t:=decide (checkE p≠(0:Int));let k:=SV.il .i64 0;let v:=SV.si .i64 (valueS p c);let e:=SV.row SId.off (pickL p c);let f:=SObj.cells (Prob.ss p) 27 20 false;let d:=(↑(pickL p c).length:Int);let n:=(↑(pickL p c).length:Int);True∧(t=true→k.same v)∧(t=false→(c.length≤9223372036854775807∧p.offers.length≤1000)∧(((e.same e∧k.same (SV.si .i64 (sumV []))∧k.same (SV.si .i64 0)∧True)∧f.same f∧True)∧(0:Int)≤(0:Int)∧(0:Int)≤d)∧∀(x:Int),let r:=sumV (List.take x.toNat (pickL p c));let s:=r+(nthD (pickL p c) x.toNat SId.off.dflt).value;let a:=x+(1:Int);let b:=SV.si .i64 a;(0:Int)≤x∧x≤d→(decide (x<n)=true→(0:Int)≤x∧x<n∧x.toNat<(pickL p c).length∧inR .i64 s∧inR .i64 a∧((e.same e∧(SV.si .i64 s).same (SV.si .i64 (sumV (List.take a.toNat (pickL p c))))∧b.same b∧True)∧f.same f∧True)∧((0:Int)≤a∧a≤d)∧(d - a).toNat<(d - x).toNat)∧(decide (x<n)=false→(SV.si .i64 r).same v))) (by kernel_rfl) ?_
 simp only[vcs]
 refine⟨fun h=>by simp[valueS,h],fun h=>⟨⟨A,by have:=(good_of (Classical.not_not.1 h)).2.1;omega⟩,⟨by simp[sumV],by omega⟩,?_⟩⟩
 have o:checkE p=0:=Classical.not_not.1 h
 have u:=good_of o
 obtain⟨C,q⟩:=picks_ok (c:=c) o
 rintro i ⟨j,y⟩
 refine⟨fun m=>?_,fun w=>?_⟩
 ·have B:=sumV_take j m
  have D:=sum_val_bd u (l:=(pickL p c).take i.toNat) fun x g=>q x (List.mem_of_mem_take g)
  have z:=sum_val_bd u (l:=(pickL p c).take (i+1).toNat) fun x g=>q x (List.mem_of_mem_take g)
  grind
 ·rw[show i.toNat=(pickL p c).length from by omega,List.take_length]
  grind[valueS]
def sumB (l:List Bun):Bun:=⟨(l.map Bun.a0).sum,(l.map Bun.a1).sum,(l.map Bun.a2).sum,(l.map Bun.a3).sum,(l.map Bun.a4).sum,(l.map Bun.a5).sum⟩
def offsI (p:Prob) (l:List Int):List Off:=l.map fun i=>nthD p.offers i.toNat SId.off.dflt
def FeasL (p:Prob) (L:List Off):Prop:=(L.map Off.bidder).Nodup∧(sumB (L.map Off.want)).le p.supply=true∧(sumB (L.map (outS p))).le p.opn=true
instance (p:Prob) (L:List Off):Decidable (FeasL p L):=by unfold FeasL;infer_instance
def Bun.add (a b:Bun):Bun:=⟨a.a0+b.a0,a.a1+b.a1,a.a2+b.a2,a.a3+b.a3,a.a4+b.a4,a.a5+b.a5⟩
theorem sumB_append {l m:List Bun}:sumB (l++m)=(sumB l).add (sumB m):=by simp[sumB,Bun.add]
theorem sumB_cons {b:Bun} {l:List Bun}:sumB (b::l)=b.add (sumB l):=by simp[sumB,Bun.add]
def Bun.bd (b:Bun) (n:Int):Prop:=(0≤b.a0∧b.a0≤n)∧(0≤b.a1∧b.a1≤n)∧(0≤b.a2∧b.a2≤n)∧(0≤b.a3∧b.a3≤n)∧(0≤b.a4∧b.a4≤n)∧(0≤b.a5∧b.a5≤n)
theorem sumB_bd:∀{l:List Bun},(∀b∈l,b.ok=true)→(sumB l).bd (4*l.length)
 |[],_=>by simp[sumB,Bun.bd]
 |b::l,h=>by
  have e:=Bun.ok_iff.1 (h b (by simp))
  have d:=@sumB_bd l fun c a=>h c (by simp[a])
  rw[sumB_cons]
  simp only[Bun.bd,Bun.add,List.length_cons] at d ⊢
  omega
theorem outS_ok {p:Prob} {x:Off} (h:x.want.ok=true):(outS p x).ok=true:=by
 have a:=Bun.ok_iff.1 h
 rw[Bun.ok_iff]
 simp only[outS,outK,oc]
 omega
theorem offs_ok {p:Prob} (b:Good p) {l:List Int} (h:∀i∈l,0≤i∧i<p.offers.length):∀x∈offsI p l,x∈p.offers:=by
 intro x a
 obtain⟨i,c,rfl⟩:=List.mem_map.1 a
 grind[nthD_mem]
structure FitL (p:Prob) (fs:List Int) (l o:Bun) (L:List Off):Prop where
 nd:(L.map Off.bidder).Nodup
 mem:∀x∈L,x∈p.offers∧x.bidder∈fs
 w:(sumB (L.map Off.want)).le l=true
 o:(sumB (L.map (outS p))).le o=true
theorem fold_ge {p:Prob} {fs:List Int} {l o:Bun}:∀{xs:List Off} {v:Int},v≤xs.foldl (stepV p fs l o) v∧∀x∈xs,x.want.le l=true→(outS p x).le o=true→x.value+valL p fs (l.sub x.want) (o.sub (outS p x))≤xs.foldl (stepV p fs l o) v
 |[],v=>by simp
 |y::xs,v=>by
  obtain⟨b,e⟩:=@fold_ge p fs l o xs (stepV p fs l o v y)
  have d:v≤stepV p fs l o v y:=by
   grind[stepV]
  refine⟨by grind,fun x a c f=>?_⟩
  simp only[List.foldl_cons]
  rcases List.mem_cons.1 a with rfl|a
  ·have:x.value+valL p fs (l.sub x.want) (o.sub (outS p x))≤stepV p fs l o v x:=by
    unfold stepV
    grind
   omega
  simp_all
theorem fold_at {p:Prob} {fs:List Int} {l o:Bun}:∀{xs:List Off} {v:Int},xs.foldl (stepV p fs l o) v=v∨∃x∈xs,x.want.le l=true∧(outS p x).le o=true∧xs.foldl (stepV p fs l o) v=x.value+valL p fs (l.sub x.want) (o.sub (outS p x))
 |[],v=>by simp
 |y::xs,v=>by
  simp only[List.foldl_cons]
  rcases @fold_at p fs l o xs (stepV p fs l o v y) with h|⟨x,d,a,c,b⟩
  ·rw[h]
   unfold stepV
   split<;>grind
  grind
theorem sumB_mid {x:Bun} {s t:List Bun}:sumB (s++x::t)=x.add (sumB (s++t)):=by
 grind[sumB_append,sumB_cons,Bun.add]
theorem sumV_mid {x:Off} {s t:List Off}:sumV (s++x::t)=x.value+sumV (s++t):=by
 rw[sumV_append,sumV_append]
 grind[sumV]
theorem fit_bd {p:Prob} (c:Good p) {L:List Off} (h:∀x∈L,x∈p.offers):(sumB (L.map Off.want)).bd (4*L.length)∧(sumB (L.map (outS p))).bd (4*L.length):=by
 have e:∀x∈L,x.want.ok=true:=fun x d=>(c.2.2.2.2 x (h x d)).2.2.1
 have a:=@sumB_bd (L.map Off.want) (fun b f=>by grind)
 grind[sumB_bd,outS_ok]
theorem fit_le {p:Prob} (e:Good p):∀{fs:List Int} {l o:Bun} {L:List Off},FitL p fs l o L→sumV L≤valL p fs l o
 |[],l,o,L,h=>by
  have:L=[]:=by
   cases L with
   |nil=>rfl
   |cons x L=>exact absurd (h.mem x (by simp)).2 (by simp)
  grind[sumV,valL]
 |f::fs,l,o,L,h=>by
  obtain⟨D,B⟩:=@fold_ge p fs l o (byB p f) (valL p fs l o)
  have b:valL p (f::fs) l o=(byB p f).foldl (stepV p fs l o) (valL p fs l o):=rfl
  rw[b]
  by_cases d:∃x∈L,x.bidder=f
  ·obtain⟨x,d,m⟩:=d
   obtain⟨s,t,rfl⟩:=List.append_of_mem d
   obtain⟨u,c,w,j⟩:=h
   have i:=c x d
   have g:∀y∈s++t,y∈p.offers:=fun y a=>(c y (by grind)).1
   obtain⟨z,v⟩:=fit_bd e g
   rw[List.map_append,List.map_cons,sumB_mid,Bun.le_iff,←List.map_append] at w j
   simp only[Bun.add,Bun.bd] at w j z v
   have q:x.want.le l=true:=by rw[Bun.le_iff];omega
   have r:(outS p x).le o=true:=by rw[Bun.le_iff];omega
   have A:=B x (List.mem_filter.2 ⟨i.1,by simp[m]⟩) q r
   rw[List.map_append,List.map_cons,List.nodup_append] at u
   have n:∀y∈s++t,y.bidder≠f:=fun y a=>by
    rw[←m]
    rcases List.mem_append.1 a with a|a
    ·simp_all
    simp_all
   have k:sumV (s++t)≤valL p fs (l.sub x.want) (o.sub (outS p x)):=fit_le e
    {nd:=by
      grind
     mem:=fun y a=>by
      grind
     w:=by grind[Bun.le_iff,Bun.sub]
     o:=by grind[Bun.le_iff,Bun.sub]}
   rw[sumV_mid]
   omega
  ·have:=fit_le e (fs:=fs) (l:=l) (o:=o) (L:=L) ⟨h.nd,fun y a=>by
    have C:=h.mem y a
    simp_all,h.w,h.o⟩
   omega
theorem fit_at {p:Prob} (k:Good p):∀{fs:List Int} {l o:Bun},fs.Nodup→Bun.zero.le l=true→Bun.zero.le o=true→∃L,FitL p fs l o L∧sumV L=valL p fs l o
 |[],l,o,_,g,e=>⟨[],⟨by simp,by simp,g,e⟩,rfl⟩
 |f::fs,l,o,r,g,e=>by
  have c:=List.nodup_cons.1 r
  have d:valL p (f::fs) l o=(byB p f).foldl (stepV p fs l o) (valL p fs l o):=rfl
  rw[d]
  rcases @fold_at p fs l o (byB p f) (valL p fs l o) with h|⟨x,q,m,u,n⟩
  ·rw[h]
   obtain⟨L,a,j⟩:=fit_at k (l:=l) (o:=o) c.2 g e
   exact⟨L,⟨a.nd,fun y b=>⟨(a.mem y b).1,by simp[(a.mem y b).2]⟩,a.w,a.o⟩,j⟩
  ·rw[n]
   have z:=Bun.le_iff.1 m
   have A:=Bun.le_iff.1 u
   obtain⟨L,a,j⟩:=fit_at k (l:=l.sub x.want) (o:=o.sub (outS p x)) c.2 (by grind[Bun.le_iff,Bun.zero,Bun.sub]) (by grind[Bun.le_iff,Bun.zero,Bun.sub])
   have s:=List.mem_filter.1 q
   have i:x.bidder=f:=by simp_all
   refine⟨x::L,⟨?_,?_,?_,?_⟩,by grind[sumV]⟩
   ·rw[List.map_cons,List.nodup_cons]
    refine⟨fun t=>?_,a.nd⟩
    obtain⟨y,b,v⟩:=List.mem_map.1 t
    exact c.1 (by rw[←i,←v];exact(a.mem y b).2)
   ·intro y b
    rcases List.mem_cons.1 b with rfl|b
    ·simp_all
    ·exact⟨(a.mem y b).1,by simp[(a.mem y b).2]⟩
   ·have:=Bun.le_iff.1 a.w
    grind[sumB_cons,Bun.le_iff,Bun.add,Bun.sub]
   ·have:=Bun.le_iff.1 a.o
    grind[sumB_cons,Bun.le_iff,Bun.add,Bun.sub]
theorem offsI_append {p:Prob} {l m:List Int}:offsI p (l++m)=offsI p l++offsI p m:=by simp[offsI]
theorem offsI_cons {p:Prob} {i:Int} {l:List Int}:offsI p (i::l)=nthD p.offers i.toNat SId.off.dflt::offsI p l:=rfl
theorem feas_pre {p:Prob} (f:Good p) {L M:List Off} (c:∀x∈M,x∈p.offers) (h:FeasL p (L++M)):FeasL p L:=by
 obtain⟨e,d⟩:=fit_bd f c
 obtain⟨g,a,b⟩:=h
 rw[List.map_append,sumB_append,Bun.le_iff] at a b
 simp only[Bun.add,Bun.bd] at a b e d
 refine⟨?_,?_,?_⟩<;>grind[Bun.le_iff]
def IncR (i:Int) (k:Nat) (t:List Int):Prop:=t.Pairwise (·<·)∧∀j∈t,i≤j∧j<i+k
theorem feas_ok {p:Prob} {c:List Int} (e:feasE p c=0):checkE p=0∧pickOk p c=true∧Good p∧c.length≤160∧∀i∈c,0≤i∧i<p.offers.length:=by
 have b:checkE p=0:=by
  unfold feasE at e
  omega
 have d:pickOk p c=true:=by
  unfold feasE at e
  grind
 have f:=good_of b
 obtain⟨r,g⟩:=Option.isSome_iff_exists.1 d
 obtain⟨h,a⟩:=pick_idx (by omega) g
 refine⟨b,d,f,?_,a⟩
 have k:=pick_len (by omega) g
 have j:=f.2.1
 grind
theorem pick_offs {p:Prob}:∀{c:List Int} {a:Int} {r:List Off},pickGo p.offers a c=some r→r=offsI p c
 |[],a,r,h=>by simp[pickGo] at h;subst h;rfl
 |i::c,a,r,h=>by
  simp only[pickGo] at h
  split at h
  ·cases h
  ·obtain⟨d,b,rfl⟩:=Option.map_eq_some_iff.1 h
   rw[pick_offs b,offsI_cons]
theorem own_row {p:Prob} {x:Off} (b:0≤x.bidder) (a:x.bidder<p.classes.length):coefS p x.bidder x=1:=by
 unfold coefS
 omega
theorem sum_cons {p:Prob} {x:Off} {L:List Off} {r:Int}:sumS p (x::L) r=coefS p r x+sumS p L r:=by simp[sumS]
theorem sum_own {p:Prob} {r:Int}:∀{L:List Off},(∀x∈L,x.want.ok=true)→(∃x∈L,x.bidder=r∧0≤r∧r<p.classes.length)→1≤sumS p L r
 |[],_,h=>by simp_all
 |y::L,a,⟨x,c,e,f,d⟩=>by
  have g:=@coef_bd p r y (a y (by simp))
  have i:=@sum_bd p r L fun z b=>a z (by simp[b])
  rw[sum_cons]
  rcases List.mem_cons.1 c with rfl|c
  ·grind[own_row]
  ·have:=@sum_own p r L (fun z b=>a z (by simp[b])) ⟨x,c,e,f,d⟩
   omega
theorem nd_of {p:Prob}:∀{L:List Off},(∀x∈L,x.want.ok=true∧0≤x.bidder∧x.bidder<p.classes.length)→(∀r:Int,0≤r→r<p.classes.length→sumS p L r≤1)→(L.map Off.bidder).Nodup
 |[],_,_=>by simp
 |x::L,e,f=>by
  have a:=e x (by simp)
  rw[List.map_cons,List.nodup_cons]
  have d:∀r:Int,0≤r→r<p.classes.length→sumS p L r≤1:=fun r j b=>by
   have:=f r j b
   have:=@coef_bd p r x a.1
   grind[sum_cons]
  refine⟨fun g=>?_,nd_of (fun y c=>e y (by simp[c])) d⟩
  obtain⟨y,c,h⟩:=List.mem_map.1 g
  have b:=f x.bidder a.2.1 a.2.2
  have k:=@sum_own p x.bidder L (fun z i=>(e z (by simp[i])).1) ⟨y,c,h,a.2.1,a.2.2⟩
  rw[sum_cons,own_row a.2.1 a.2.2] at b
  omega
theorem feas_nd {p:Prob} {c:List Int} (e:feasE p c=0):((offsI p c).map Off.bidder).Nodup:=by
 obtain⟨j,f,a,m,h⟩:=feas_ok e
 obtain⟨r,l⟩:=Option.isSome_iff_exists.1 f
 have n:pickL p c=offsI p c:=by grind[pickL,pick_offs]
 have d:fitsB p (offsI p c)=true:=by
  simp_all[feasE]
 refine nd_of (p:=p) (fun x g=>?_) fun r o i=>?_
 ·have:=a.2.2.2.2 x (offs_ok a h x g)
  simp_all
 ·have b:=fits_iff.1 d r.toNat (by grind[nrows])
  rw[show((r.toNat:Nat):Int)=r by omega] at b
  have k:boundS p r=1:=by unfold boundS;omega
  omega
def Bun.at (b:Bun) (k:Nat):Int:=nthD [b.a0,b.a1,b.a2,b.a3,b.a4,b.a5] k 0
theorem at_le {a b:Bun} (h:a.le b=true) (k:Nat):a.at k≤b.at k:=by
 grind[Bun.le_iff,Bun.at,nthD]
theorem at_sum (k:Nat):∀(l:List Bun),(sumB l).at k=(l.map fun b=>b.at k).sum:=by
 intro l
 unfold Bun.at sumB
 match k with
 |0|1|2|3|4|5=>simp only[nthD,List.getElem?_cons_zero,List.getElem?_cons_succ,Option.getD_some]
 |k+6=>
  simp only[nthD,List.getElem?_cons_succ,List.getElem?_nil,Option.getD_none]
  induction l<;>grind
theorem coef_w {p:Prob} {x:Off} {k:Nat} (a:k<6):coefS p (p.classes.length+k) x=x.want.at k:=by
 unfold coefS
 rw[if_neg (by omega),if_pos (by omega),show((p.classes.length:Int)+k - p.classes.length).toNat=k by omega]
 rfl
theorem coef_o {p:Prob} {x:Off} {k:Nat} (a:k<6):coefS p (p.classes.length+6+k) x=(outS p x).at k:=by
 unfold coefS
 rw[if_neg (by omega),if_neg (by omega),show((p.classes.length:Int)+6+k - p.classes.length - 6).toNat=k by omega]
 have:k=0∨k=1∨k=2∨k=3∨k=4∨k=5:=by omega
 rcases this with rfl|rfl|rfl|rfl|rfl|rfl<;>simp[outS,outK,oc,clOf,Bun.at,nthD]
theorem bound_w {p:Prob} {k:Nat} (a:k<6):boundS p (p.classes.length+k)=p.supply.at k:=by
 unfold boundS
 rw[if_neg (by omega),if_pos (by omega),show((p.classes.length:Int)+k - p.classes.length).toNat=k by omega]
 rfl
theorem bound_o {p:Prob} {k:Nat} (a:k<6):boundS p (p.classes.length+6+k)=p.opn.at k:=by
 unfold boundS
 rw[if_neg (by omega),if_neg (by omega),show((p.classes.length:Int)+6+k - p.classes.length - 6).toNat=k by omega]
 rfl
theorem sum_bid {p:Prob} {r:Int} (a:0≤r) (b:r<p.classes.length):∀{L:List Off},(L.map Off.bidder).Nodup→sumS p L r≤1∧(r∉L.map Off.bidder→sumS p L r=0)
 |[],_=>by simp[sumS]
 |x::L,h=>by
  rw[List.map_cons,List.nodup_cons] at h
  obtain⟨d,e⟩:=sum_bid a b h.2
  have c:coefS p r x=if x.bidder=r then 1 else 0:=by unfold coefS;omega
  rw[sum_cons,c]
  grind
theorem fits_of {p:Prob} {L:List Off} (h:FeasL p L):fitsB p L=true:=by
 obtain⟨j,i,f⟩:=h
 refine fits_iff.2 fun r g=>?_
 unfold nrows at g
 by_cases l:r<p.classes.length
 ·have:=(sum_bid (p:=p) (r:=r) (by omega) (by omega) j).1
  have d:boundS p r=1:=by unfold boundS;omega
  omega
 by_cases d:r<p.classes.length+6
 ·obtain⟨k,rfl⟩:∃k:Nat,r=p.classes.length+k:=⟨r - p.classes.length,by omega⟩
  have c:k<6:=by omega
  have e:(((p.classes.length+k:Nat)):Int)=p.classes.length+k:=by omega
  rw[e,bound_w c]
  have a:=at_le i k
  rw[at_sum,List.map_map] at a
  have:sumS p L (p.classes.length+k)=(L.map ((fun b=>Bun.at b k)∘Off.want)).sum:=by
   unfold sumS
   congr 1
   simp_all[coef_w]
  omega
 ·obtain⟨k,rfl⟩:∃k:Nat,r=p.classes.length+6+k:=⟨r - p.classes.length - 6,by omega⟩
  have c:k<6:=by omega
  have e:(((p.classes.length+6+k:Nat)):Int)=p.classes.length+6+k:=by omega
  rw[e,bound_o c]
  have a:=at_le f k
  rw[at_sum,List.map_map] at a
  have:sumS p L (p.classes.length+6+k)=(L.map ((fun b=>Bun.at b k)∘outS p)).sum:=by
   unfold sumS
   congr 1
   simp_all[coef_o]
  omega
theorem pick_inc {l:List Off}:∀{t:List Int} {a:Int},t.Pairwise (·<·)→(∀j∈t,a<j∧j<l.length)→pickGo l a t=some (t.map fun i=>nthD l i.toNat SId.off.dflt)
 |[],_,_,_=>rfl
 |i::t,a,h,d=>by
  have e:=d i (by simp)
  have c:=List.pairwise_cons.1 h
  unfold pickGo
  rw[if_neg (by omega),pick_inc c.2 fun j b=>⟨c.1 j b,(d j (by simp[b])).2⟩]
  rfl
theorem feas_of {p:Prob} (e:checkE p=0) {t:List Int} (a:IncR 0 p.offers.length t) (c:FeasL p (offsI p t)):feasE p t=0:=by
 have d:pickGo p.offers (-1) t=some (offsI p t):=pick_inc a.1 fun j b=>by have:=a.2 j b;omega
 simp_all[feasE,pickOk,pickL,fits_of]
def lenT (a:List Int):Nat→Nat
 |0=>0
 |n+1=>if nthD a n 0=0 then lenT a n else n+1
def trimN (a:List Int):List Int:=a.take (lenT a a.length)
def r152:SCtr:=⟨71,List Int,.one (codR (.i .u32)),fun a=>a.length≤1000000000000,fun a=> .row (.i .u32) (trimN a)⟩
def Λ152 (a:List Int):Nat→LoopAnn
 |2=> .inv Int (fun n=>⟨[(0,.row (.i .u32) a),(3,.si .i64 n)],[]⟩) (fun s=>iS s 3) (fun n=>0≤n∧n≤a.length∧lenT a n.toNat=lenT a a.length) (fun n=>n.toNat) fun _ _=> .look
 |_=> .look
theorem h152:Holds Tryz.prog r152:=by
 refine con0 (L:=[]) r152 Λ152 (by simp) ?_
 intro(a:List Int) (h:a.length≤1000000000000)
 refine vcOf (let c:=SId.i .u32;let d:=(↑a.length:Int);let l:=SV.si .i64 d;let g:=(↑a.length:Int);let j:=lenT a a.length;((((SV.row c a).same (SV.row c a)∧l.same l∧True)∧True)∧(0:Int)≤d∧d≤g∧lenT a d.toNat=j)∧∀(x:Int),let r:=decide ((0:Int)<x);let b:=x - (1:Int);let o:=decide (nthD a b.toNat (0:Int)=(0:Int));let k:=SV.si .i64 b;(0:Int)≤x∧x≤g∧lenT a x.toNat=j→(r=true→inR .i64 b∧(0:Int)≤b∧b<d∧b.toNat<a.length∧(o=true→inR .i64 b∧(((SV.row c a).same (SV.row c a)∧k.same k∧True)∧True)∧((0:Int)≤b∧b≤g∧lenT a b.toNat=j)∧b.toNat<x.toNat)∧(o=false→(0:Int)≤x∧(0:Int)≤x∧0≤x.toNat∧x.toNat≤x.toNat∧x.toNat≤a.length∧(SV.row c (List.take (x.toNat - 0) a)).same (SV.row c (trimN a))))∧(r=false→(0:Int)≤x∧(0:Int)≤x∧0≤x.toNat∧x.toNat≤x.toNat∧x.toNat≤a.length∧(SV.row c (List.take (x.toNat - 0) a)).same (SV.row c (trimN a)))) (by kernel_rfl) ?_
 simp only[vcs]
 refine⟨⟨by omega,by omega,by simp⟩,?_⟩
 rintro n ⟨f,t,q⟩
 have e:(n.toNat=0∨0<n.toNat∧¬nthD a (n.toNat - 1) 0=0)→List.take (n.toNat - 0) a=trimN a:=fun h=>by
  unfold trimN
  rw[←q]
  congr 1
  rcases h with h|h
  ·rw[h];rfl
  ·obtain⟨v,h⟩:=h
   obtain⟨m,u⟩:∃m,n.toNat=m+1:=⟨n.toNat - 1,by omega⟩
   simp_all[lenT]
 refine⟨fun s=>⟨by omega,by omega,by omega,by omega,fun p=>⟨by omega,⟨by omega,by omega,?_⟩,by omega⟩,fun p=>⟨f,f,by omega,by omega,by omega,?_⟩⟩,fun s=>⟨f,f,by omega,by omega,by omega,e (.inl (by omega))⟩⟩
 ·rw[←q,show n.toNat=(n - 1).toNat+1 by omega]
  rw[lenT,if_pos p]
 simp_all
def valN:List Int→Int
 |[]=>0
 |d::l=>d+4294967296*valN l
def Dig (a:List Int):Prop:=∀d∈a,0≤d∧d<4294967296
def Nrm:List Int→Prop
 |[]=>True
 |d::l=>(l=[]→d≠0)∧Nrm l
theorem dig_cons {d:Int} {l:List Int}:Dig (d::l)↔(0≤d∧d<4294967296)∧Dig l:=by simp[Dig]
theorem dig_take {a:List Int} (h:Dig a) (n:Nat):Dig (a.take n):=fun d b=>h d (List.mem_of_mem_take b)
theorem val_nonneg:∀{a:List Int},Dig a→0≤valN a
 |[],_=>Int.le_refl _
 |d::l,h=>by
  obtain⟨c,b⟩:=dig_cons.1 h
  have:=val_nonneg b
  grind[valN]
theorem val_zero:∀{a:List Int},Dig a→Nrm a→valN a=0→a=[]
 |[],_,_,_=>rfl
 |d::l,h,b,f=>by
  obtain⟨g,c⟩:=dig_cons.1 h
  have:=val_nonneg c
  simp only[valN] at f
  have e:=val_zero c b.2 (by omega)
  have:=b.1 e
  omega
theorem val_inj:∀{a b:List Int},Dig a→Dig b→Nrm a→Nrm b→valN a=valN b→a=b
 |[],b,_,i,_,c,h=>(val_zero i c h.symm).symm
 |d::l,[],f,_,g,_,h=>val_zero f g h
 |d::l,e::m,f,i,g,c,h=>by
  obtain⟨p,j⟩:=dig_cons.1 f
  obtain⟨s,k⟩:=dig_cons.1 i
  have r:=val_nonneg j
  have q:=val_nonneg k
  simp only[valN] at h
  have n:d=e:=by omega
  have o:valN l=valN m:=by omega
  rw[n,val_inj j k g.2 c.2 o]
theorem val_snoc:∀{a:List Int} {x:Int},valN (a++[x])=valN a+4294967296^a.length*x
 |[],x=>by simp[valN]
 |d::l,x=>by
  simp only[List.cons_append,valN,val_snoc,List.length_cons,Int.pow_succ,Int.mul_add]
  grind
theorem nrm_snoc:∀{a:List Int} {x:Int},x≠0→Nrm (a++[x])
 |[],x,h=>⟨fun _=>h,trivial⟩
 |d::l,x,h=>⟨fun b=>by simp at b,nrm_snoc h⟩
theorem take_snoc {a:List Int} {n:Nat} (h:n<a.length):a.take (n+1)=a.take n++[nthD a n 0]:=by
 simp_all[nthD_eq]
theorem lenT_val {a:List Int}:∀{n:Nat},n≤a.length→valN (a.take (lenT a n))=valN (a.take n)∧Nrm (a.take (lenT a n))
 |0,_=>by simp[lenT,Nrm]
 |n+1,h=>by
  obtain⟨d,b⟩:=@lenT_val a n (by omega)
  have c:=take_snoc (show n<a.length by omega)
  unfold lenT
  grind[val_snoc,nrm_snoc]
theorem trim_val {a:List Int}:valN (trimN a)=valN a∧Nrm (trimN a):=by
 have:=@lenT_val a a.length (Nat.le_refl _)
 rw[List.take_length] at this
 exact this
theorem trim_dig {a:List Int} (h:Dig a):Dig (trimN a):=dig_take h _
theorem trim_len {a:List Int}:(trimN a).length≤a.length:=by grind[trimN]
def natF:Nat→Int→List Int
 |0,_=>[]
 |k+1,n=>if n≤0 then[] else(n % 4294967296)::natF k (n / 4294967296)
def natL (n:Int):List Int:=natF n.toNat n
theorem natF_ok:∀{k:Nat} {n:Int},0≤n→n.toNat≤k→valN (natF k n)=n∧Dig (natF k n)∧Nrm (natF k n)
 |0,n,b,h=>by
  have:n=0:=by omega
  subst this
  exact⟨rfl,by simp[natF,Dig],trivial⟩
 |k+1,n,b,h=>by
  unfold natF
  split
  ·have:n=0:=by omega
   subst this
   exact⟨rfl,by simp[Dig],trivial⟩
  ·obtain⟨d,a,c⟩:=@natF_ok k (n / 4294967296) (by omega) (by omega)
   refine⟨by grind[valN],dig_cons.2 ⟨by omega,a⟩,fun e f=>?_,c⟩
   grind[valN]
theorem natL_ok {n:Int} (h:0≤n):valN (natL n)=n∧Dig (natL n)∧Nrm (natL n):=natF_ok h (Nat.le_refl _)
theorem natL_val {a:List Int} (h:Dig a) (b:Nrm a):natL (valN a)=a:=by
 grind[natL_ok,val_nonneg,val_inj]
theorem trim_eq {a:List Int} (h:Dig a):trimN a=natL (valN a):=by
 grind[trim_val,natL_val,trim_dig]
theorem val_bdN:∀{a:List Int},Dig a→valN a<4294967296^a.length
 |[],_=>by simp[valN]
 |d::l,h=>by
  obtain⟨c,b⟩:=dig_cons.1 h
  have:=val_bdN b
  grind[valN]
def adC (s t:List Int):Nat→Int
 |0=>0
 |i+1=>(nthD s i 0+adC s t i+nthD t i 0) / 4294967296
def adD (s t:List Int) (i:Nat):Int:=(nthD s i 0+adC s t i+nthD t i 0) % 4294967296
def adR (s t:List Int) (i:Nat):List Int:=(List.range i).map (adD s t)++List.replicate (s.length+1 - i) 0
def big (a:List Int×List Int):List Int:=if a.1.length<a.2.length then a.2 else a.1
def sml (a:List Int×List Int):List Int:=if a.1.length<a.2.length then a.1 else a.2
def r154:SCtr:=⟨72,List Int×List Int,.cons (codR (.i .u32)) (.one (codR (.i .u32))),fun a=>(Dig a.1∧Dig a.2)∧a.1.length≤100000000000∧a.2.length≤100000000000,fun a=> .row (.i .u32) (natL (valN a.1+valN a.2))⟩
def Λ154 (a:List Int×List Int):Nat→LoopAnn
 |6=> .inv Int (fun i=>⟨[(0,.row (.i .u32) (big a)),(1,.row (.i .u32) (sml a)),(5,.ow 0 (adR (big a) (sml a) i.toNat).length 1),(6,.si .u64 (adC (big a) (sml a) i.toNat)),(21,.si .i64 (big a).length),(22,.si .i64 i)],[.row (.i .u32) (adR (big a) (sml a) i.toNat) 90 true]⟩) (fun s=>iS s 22)
  (fun i=>0≤i∧i≤(big a).length) (fun i=>((big a).length - i).toNat) fun _ _=> .look
 |_=> .look
theorem dig_nth {a:List Int} (h:Dig a) (i:Nat):0≤nthD a i 0∧nthD a i 0<4294967296:=by
 by_cases b:i<a.length
 ·rw[nthD_eq b];exact h _ (List.getElem_mem b)
 grind[nthD]
theorem nth_out {a:List Int} {i:Nat} (h:a.length≤i):nthD a i 0=0:=by grind[nthD]
theorem adC_bd {s t:List Int} (b:Dig s) (a:Dig t):∀i,0≤adC s t i∧adC s t i≤1
 |0=>by simp[adC]
 |i+1=>by
  have h:=adC_bd b a i
  have c:=dig_nth b i
  have d:=dig_nth a i
  grind[adC]
theorem adR_len {s t:List Int} {i:Nat} (h:i≤s.length):(adR s t i).length=s.length+1:=by grind[adR]
theorem adR_set {s t:List Int} {i:Nat} {v:Int} (h:i≤s.length):(adR s t i).set i v=(List.range i).map (adD s t)++v::List.replicate (s.length - i) 0:=by
 unfold adR
 have a:s.length+1 - i=(s.length - i)+1:=by omega
 rw[a,List.replicate_succ]
 simp_all
theorem adR_step {s t:List Int} {i:Nat} (h:i<s.length):adR s t (i+1)=(adR s t i).set i (adD s t i):=by
 rw[adR_set (by omega)]
 unfold adR
 rw[List.range_succ,List.map_append,List.append_assoc]
 simp_all
theorem take_snoc0 {a:List Int} {i:Nat}:valN (a.take (i+1))=valN (a.take i)+4294967296^i*nthD a i 0:=by
 by_cases h:i<a.length
 ·grind[take_snoc,val_snoc]
 ·rw[nth_out (by omega),List.take_of_length_le (by omega),List.take_of_length_le (by omega)]
  simp
theorem ad_val {s t:List Int}:∀i,valN ((List.range i).map (adD s t))+4294967296^i*adC s t i=valN (s.take i)+valN (t.take i)
 |0=>by simp[adC,valN]
 |i+1=>by
  have a:=@ad_val s t i
  rw[List.range_succ,List.map_append,List.map_cons,List.map_nil,val_snoc,take_snoc0,take_snoc0,Int.pow_succ]
  grind[adD,adC]
theorem h154:Holds Tryz.prog r154:=by
 refine con0 (L:=[r152]) r154 Λ154 (by simpa using h152) ?_
 rintro⟨a,b⟩ ⟨⟨ha,hb⟩,hla,hlb⟩
 simp only at ha hb hla hlb
 refine vcOf (let z0:=(↑a.length:Int);let z1:=(↑b.length:Int);let z2:=z1+(1:Int);let z3:=SId.i .u32;let z4:=SV.row z3 (big (a,b));let z5:=SV.row z3 (sml (a,b));let z6:=adR (big (a,b)) (sml (a,b)) 0;let z7:=SV.ow 0 z6.length 1;let z8:=(↑(big (a,b)).length:Int);let z9:=SV.si .i64 z8;let z10:=SObj.row z3 z6 90 true;let z11:=(↑(big (a,b)).length:Int);let z12:=(↑(sml (a,b)).length:Int);let z13:=z0+(1:Int);(decide (z0<z1)=true→inR .i64 z2∧(0:Int)≤z2∧z2≤z2∧z2*(4:Int)≤(140737488355328:Int)∧z2≤(1000000000000:Int)∧((((SV.row z3 b).same z4∧(SV.row z3 a).same z5∧(SV.ow 0 z2.toNat 1).same z7∧(SV.il .u64 0).same (SV.si .u64 (adC (big (a,b)) (sml (a,b)) 0))∧(SV.si .i64 z1).same z9∧(SV.il .i64 0).same (SV.si .i64 0)∧True)∧(SObj.row z3 ((0:Int)::List.replicate b.length (0:Int)) 90 true).same z10∧True)∧(0:Int)≤(0:Int)∧(0:Int)≤z8)∧∀(x:Int),let z14:=adR (big (a,b)) (sml (a,b)) x.toNat;let z15:=z14.length;let z16:=x+(1:Int);let z17:=adR (big (a,b)) (sml (a,b)) z16.toNat;let z18:=adC (big (a,b)) (sml (a,b)) x.toNat;let z19:=(nthD (big (a,b)) x.toNat (0:Int) % (18446744073709551616:Int)+z18) % (18446744073709551616:Int);let z20:=(z19+nthD (sml (a,b)) x.toNat (0:Int) % (18446744073709551616:Int)) % (18446744073709551616:Int);let z21:=SV.si .u64 (adC (big (a,b)) (sml (a,b)) z16.toNat);let z22:=SV.si .i64 z16;let z23:=SObj.row z3 z17 90 true;let z24:=z14.set z11.toNat (z18 % (4294967296:Int));(0:Int)≤x∧x≤z8→(decide (x<z8)=true→(0:Int)≤x∧x<z11∧x.toNat<(big (a,b)).length∧(decide (x<z12)=true→(0:Int)≤x∧x<z12∧x.toNat<(sml (a,b)).length∧(0:Int)≤(32:Int)∧(32:Int)≤(64:Int)∧z14.length=z15∧(0:Int)≤x∧x<(↑z15:Int)∧z14.length=z15∧x.toNat<z15∧inR .i64 z16∧((z4.same z4∧z5.same z5∧(SV.ow 0 z14.length 1).same (SV.ow 0 z17.length 1)∧(SV.si .u64 (z20 / (4294967296:Int))).same z21∧z9.same z9∧z22.same z22∧True)∧(SObj.row z3 (z14.set x.toNat (z20 % (4294967296:Int))) 90 true).same z23∧True)∧((0:Int)≤z16∧z16≤z8)∧(z8 - z16).toNat<(z8 - x).toNat)∧(decide (x<z12)=false→(0:Int)≤(32:Int)∧(32:Int)≤(64:Int)∧z14.length=z15∧(0:Int)≤x∧x<(↑z15:Int)∧z14.length=z15∧x.toNat<z15∧inR .i64 z16∧((z4.same z4∧z5.same z5∧(SV.ow 0 z14.length 1).same (SV.ow 0 z17.length 1)∧(SV.si .u64 (z19 / (4294967296:Int))).same z21∧z9.same z9∧z22.same z22∧True)∧(SObj.row z3 (z14.set x.toNat (z19 % (4294967296:Int))) 90 true).same z23∧True)∧((0:Int)≤z16∧z16≤z8)∧(z8 - z16).toNat<(z8 - x).toNat))∧(decide (x<z8)=false→z14.length=z15∧(0:Int)≤z11∧z11<(↑z15:Int)∧z14.length=z15∧z11.toNat<z15∧z14.length=z24.length∧z24.length≤1000000000000∧(SV.row z3 (trimN z24)).same (SV.row z3 (natL (valN a+valN b)))))∧(decide (z0<z1)=false→inR .i64 z13∧(0:Int)≤z13∧z13≤z13∧z13*(4:Int)≤(140737488355328:Int)∧z13≤(1000000000000:Int)∧((((SV.row z3 a).same z4∧(SV.row z3 b).same z5∧(SV.ow 0 z13.toNat 1).same z7∧(SV.il .u64 0).same (SV.si .u64 (adC (big (a,b)) (sml (a,b)) 0))∧(SV.si .i64 z0).same z9∧(SV.il .i64 0).same (SV.si .i64 0)∧True)∧(SObj.row z3 ((0:Int)::List.replicate a.length (0:Int)) 90 true).same z10∧True)∧(0:Int)≤(0:Int)∧(0:Int)≤z8)∧∀(x:Int),let z25:=adR (big (a,b)) (sml (a,b)) x.toNat;let z26:=z25.length;let z27:=x+(1:Int);let z28:=adR (big (a,b)) (sml (a,b)) z27.toNat;let z29:=adC (big (a,b)) (sml (a,b)) x.toNat;let z30:=(nthD (big (a,b)) x.toNat (0:Int) % (18446744073709551616:Int)+z29) % (18446744073709551616:Int);let z31:=(z30+nthD (sml (a,b)) x.toNat (0:Int) % (18446744073709551616:Int)) % (18446744073709551616:Int);let z32:=SV.si .u64 (adC (big (a,b)) (sml (a,b)) z27.toNat);let z33:=SV.si .i64 z27;let z34:=SObj.row z3 z28 90 true;let z35:=z25.set z11.toNat (z29 % (4294967296:Int));(0:Int)≤x∧x≤z8→(decide (x<z8)=true→(0:Int)≤x∧x<z11∧x.toNat<(big (a,b)).length∧(decide (x<z12)=true→(0:Int)≤x∧x<z12∧x.toNat<(sml (a,b)).length∧(0:Int)≤(32:Int)∧(32:Int)≤(64:Int)∧z25.length=z26∧(0:Int)≤x∧x<(↑z26:Int)∧z25.length=z26∧x.toNat<z26∧inR .i64 z27∧((z4.same z4∧z5.same z5∧(SV.ow 0 z25.length 1).same (SV.ow 0 z28.length 1)∧(SV.si .u64 (z31 / (4294967296:Int))).same z32∧z9.same z9∧z33.same z33∧True)∧(SObj.row z3 (z25.set x.toNat (z31 % (4294967296:Int))) 90 true).same z34∧True)∧((0:Int)≤z27∧z27≤z8)∧(z8 - z27).toNat<(z8 - x).toNat)∧(decide (x<z12)=false→(0:Int)≤(32:Int)∧(32:Int)≤(64:Int)∧z25.length=z26∧(0:Int)≤x∧x<(↑z26:Int)∧z25.length=z26∧x.toNat<z26∧inR .i64 z27∧((z4.same z4∧z5.same z5∧(SV.ow 0 z25.length 1).same (SV.ow 0 z28.length 1)∧(SV.si .u64 (z30 / (4294967296:Int))).same z32∧z9.same z9∧z33.same z33∧True)∧(SObj.row z3 (z25.set x.toNat (z30 % (4294967296:Int))) 90 true).same z34∧True)∧((0:Int)≤z27∧z27≤z8)∧(z8 - z27).toNat<(z8 - x).toNat))∧(decide (x<z8)=false→z25.length=z26∧(0:Int)≤z11∧z11<(↑z26:Int)∧z25.length=z26∧z11.toNat<z26∧z25.length=z35.length∧z35.length≤1000000000000∧(SV.row z3 (trimN z35)).same (SV.row z3 (natL (valN a+valN b)))))) (by kernel_rfl) ?_
 simp only[vcs]
 have hbs:(a.length<b.length∧big (a,b)=b∧sml (a,b)=a)∨(¬a.length<b.length∧big (a,b)=a∧sml (a,b)=b):=by
  by_cases h:a.length<b.length
  ·exact .inl ⟨h,if_pos h,if_pos h⟩
  ·exact .inr ⟨h,if_neg h,if_neg h⟩
 generalize big (a,b)=s at*
 generalize sml (a,b)=t at*
 have hrow:∀{u v:List Int},u=v→(SObj.row (.i .u32) u 90 true).same (SObj.row (.i .u32) v 90 true):=by rintro _ _ rfl;rfl
 have how:∀{u v:Nat},u=v→(SV.ow 0 u 1).same (SV.ow 0 v 1):=by rintro _ _ rfl;rfl
 have r0:∀u v:List Int,adR u v 0=0::List.replicate u.length 0:=fun u v=>rfl
 refine⟨fun h=>?_,fun h=>?_⟩
 ·obtain⟨h1,e1,e2⟩:a.length<b.length∧s=b∧t=a:=by
   rcases hbs with h2|h2
   ·exact h2
   ·exact absurd (by omega) h2.1
  subst e1 e2
  have hS:Dig s:=by assumption
  have hT:Dig t:=by assumption
  have hts:t.length≤s.length:=by omega
  have bd:=adC_bd hS hT
  refine⟨⟨by omega,by omega⟩,by omega,by omega,by omega,by omega,⟨⟨⟨rfl,rfl,how (by rw[adR_len (by omega)];omega),rfl,rfl⟩,hrow (r0 s t).symm⟩,by omega,by omega⟩,?_⟩
  rintro i ⟨i0,i1⟩
  have l1:=@adR_len s t i.toNat (by omega)
  have b1:=bd i.toNat
  have d1:=dig_nth hS i.toNat
  have d2:=dig_nth hT i.toNat
  refine⟨fun ilt=>?_,fun ige=>?_⟩
  ·have l2:=@adR_len s t (i.toNat+1) (by omega)
   have e:(i+1).toNat=i.toNat+1:=by omega
   have hst:=adR_step (s:=s) (t:=t) (show i.toNat<s.length by omega)
   refine⟨i0,ilt,by omega,fun ht=>?_,fun ht=>?_⟩
   ·have hv:(((nthD s i.toNat 0 % 18446744073709551616+adC s t i.toNat) % 18446744073709551616+nthD t i.toNat 0 % 18446744073709551616) % 18446744073709551616)=nthD s i.toNat 0+adC s t i.toNat+nthD t i.toNat 0:=by omega
    rw[hv,e]
    exact⟨i0,ht,by omega,by omega,by omega,i0,by omega,by omega,by omega,⟨⟨how (by omega),rfl⟩,hrow hst.symm⟩,by omega,by omega⟩
   ·have hz:=nth_out (a:=t) (i:=i.toNat) (by omega)
    have hv:((nthD s i.toNat 0 % 18446744073709551616+adC s t i.toNat) % 18446744073709551616)=nthD s i.toNat 0+adC s t i.toNat+nthD t i.toNat 0:=by omega
    rw[hv,e]
    exact⟨by omega,by omega,i0,by omega,by omega,by omega,⟨⟨how (by omega),rfl⟩,hrow hst.symm⟩,by omega,by omega⟩
  ·have hi:i.toNat=s.length:=by omega
   have hc:adC s t i.toNat % 4294967296=adC s t i.toNat:=by omega
   rw[hc,Int.toNat_natCast,hi]
   rw[hi] at l1 b1
   refine⟨by omega,by omega,by omega,by simp,by simp;omega,?_⟩
   rw[adR_set (Nat.le_refl _),Nat.sub_self,List.replicate_zero,trim_eq ?_]
   ·rw[val_snoc]
    have hv:=@ad_val s t s.length
    rw[List.take_length,List.take_of_length_le hts] at hv
    have hl:((List.range s.length).map (adD s t)).length=s.length:=by simp
    rw[hl,hv]
    try rw[Int.add_comm]
   ·intro d hd
    rcases List.mem_append.1 hd with hd|hd
    ·obtain⟨j,_,rfl⟩:=List.mem_map.1 hd
     unfold adD
     omega
    ·rw[List.mem_singleton] at hd
     omega
 ·obtain⟨h1,e1,e2⟩:¬a.length<b.length∧s=a∧t=b:=by
   rcases hbs with h2|h2
   ·exact absurd h2.1 (by omega)
   ·exact h2
  subst e1 e2
  have hS:Dig s:=by assumption
  have hT:Dig t:=by assumption
  have hts:t.length≤s.length:=by omega
  have bd:=adC_bd hS hT
  refine⟨⟨by omega,by omega⟩,by omega,by omega,by omega,by omega,⟨⟨⟨rfl,rfl,how (by rw[adR_len (by omega)];omega),rfl,rfl⟩,hrow (r0 s t).symm⟩,by omega,by omega⟩,?_⟩
  rintro i ⟨i0,i1⟩
  have l1:=@adR_len s t i.toNat (by omega)
  have b1:=bd i.toNat
  have d1:=dig_nth hS i.toNat
  have d2:=dig_nth hT i.toNat
  refine⟨fun ilt=>?_,fun ige=>?_⟩
  ·have l2:=@adR_len s t (i.toNat+1) (by omega)
   have e:(i+1).toNat=i.toNat+1:=by omega
   have hst:=adR_step (s:=s) (t:=t) (show i.toNat<s.length by omega)
   refine⟨i0,ilt,by omega,fun ht=>?_,fun ht=>?_⟩
   ·have hv:(((nthD s i.toNat 0 % 18446744073709551616+adC s t i.toNat) % 18446744073709551616+nthD t i.toNat 0 % 18446744073709551616) % 18446744073709551616)=nthD s i.toNat 0+adC s t i.toNat+nthD t i.toNat 0:=by omega
    rw[hv,e]
    exact⟨i0,ht,by omega,by omega,by omega,i0,by omega,by omega,by omega,⟨⟨how (by omega),rfl⟩,hrow hst.symm⟩,by omega,by omega⟩
   ·have hz:=nth_out (a:=t) (i:=i.toNat) (by omega)
    have hv:((nthD s i.toNat 0 % 18446744073709551616+adC s t i.toNat) % 18446744073709551616)=nthD s i.toNat 0+adC s t i.toNat+nthD t i.toNat 0:=by omega
    rw[hv,e]
    exact⟨by omega,by omega,i0,by omega,by omega,by omega,⟨⟨how (by omega),rfl⟩,hrow hst.symm⟩,by omega,by omega⟩
  ·have hi:i.toNat=s.length:=by omega
   have hc:adC s t i.toNat % 4294967296=adC s t i.toNat:=by omega
   rw[hc,Int.toNat_natCast,hi]
   rw[hi] at l1 b1
   refine⟨by omega,by omega,by omega,by simp,by simp;omega,?_⟩
   rw[adR_set (Nat.le_refl _),Nat.sub_self,List.replicate_zero,trim_eq ?_]
   ·rw[val_snoc]
    have hv:=@ad_val s t s.length
    rw[List.take_length,List.take_of_length_le hts] at hv
    have hl:((List.range s.length).map (adD s t)).length=s.length:=by simp
    rw[hl,hv]
    try rw[Int.add_comm]
   ·intro d hd
    rcases List.mem_append.1 hd with hd|hd
    ·obtain⟨j,_,rfl⟩:=List.mem_map.1 hd
     unfold adD
     omega
    ·rw[List.mem_singleton] at hd
     omega
theorem len_lt:∀{a b:List Int},Dig a→Dig b→Nrm b→a.length<b.length→valN a<valN b
 |[],b,_,c,f,h=>by
  have n:=val_nonneg c
  grind[valN,val_zero]
 |d::l,[],_,_,_,h=>by simp at h
 |d::l,e::m,g,c,f,h=>by
  obtain⟨k,j⟩:=dig_cons.1 g
  obtain⟨o,i⟩:=dig_cons.1 c
  simp only[List.length_cons] at h
  have:=len_lt j i f.2 (by omega)
  grind[valN]
theorem dig_lt:∀{k:Nat} {a b:List Int},Dig a→Dig b→k<a.length→k<b.length→a.drop (k+1)=b.drop (k+1)→nthD a k 0<nthD b k 0→valN a<valN b
 |_,[],_,_,_,h,_,_,_=>by simp at h
 |_,_::_,[],_,_,_,h,_,_=>by simp at h
 |0,d::l,e::m,f,g,_,_,h,c=>by
  grind[nthD,valN]
 |k+1,d::l,e::m,f,g,n,q,h,c=>by
  obtain⟨p,j⟩:=dig_cons.1 f
  obtain⟨o,i⟩:=dig_cons.1 g
  simp only[List.drop_succ_cons] at h
  simp only[nthD,List.getElem?_cons_succ] at c
  have:=dig_lt (k:=k) j i (by simp_all) (by simp_all) h c
  grind[valN]
theorem drop_nthN {a:List Int} {k:Nat} (h:k<a.length):a.drop k=nthD a k 0::a.drop (k+1):=by simp_all[nthD_eq]
def cmpN (x y:Int):Int:=if x<y then -1 else if y<x then 1 else 0
def r132:SCtr:=⟨48,List Int×List Int,.cons (codR (.i .u32)) (.one (codR (.i .u32))),fun a=>(Dig a.1∧Dig a.2)∧a.1.length≤1000000000000∧a.2.length≤1000000000000,fun a=> .si .i64 (cmpN (valN a.1) (valN a.2))⟩
def Λ132 (a:List Int×List Int):Nat→LoopAnn
 |7=> .inv Int (fun i=>⟨[(0,.row (.i .u32) (trimN a.1)),(1,.row (.i .u32) (trimN a.2)),(22,.si .i64 (trimN a.1).length),(23,.si .i64 i)],[]⟩) (fun s=>iS s 23)
  (fun i=>0≤i∧i≤(trimN a.1).length∧(trimN a.1).drop ((trimN a.1).length - i.toNat)=(trimN a.2).drop ((trimN a.1).length - i.toNat)) (fun i=>((trimN a.1).length - i).toNat) fun _ _=> .look
 |_=> .look
theorem h132:Holds Tryz.prog r132:=by
 refine con0 (L:=[r152]) r132 Λ132 (by grind[h152]) ?_
 rintro⟨a,b⟩ ⟨⟨H,J⟩,r,q⟩
 simp only at H J r q
 refine vcOf (let E:Nat:=(trimN a).length;let j:=(↑E:Int);let B:Nat:=(trimN b).length;let n:=(↑B:Int);let u:=SV.si .i64 (cmpN (valN a) (valN b));let y:=SV.row (SId.i .u32) (trimN a);let v:=SV.row (SId.i .u32) (trimN b);let l:Nat:=(trimN a).length;let k:=(↑l:Int);let C:=SV.si .i64 k;let o:=SV.il .i64 0;let c:=j - (1:Int);a.length≤1000000000000∧b.length≤1000000000000∧(decide (j≠n)=true→(decide (j<n)=true→(SV.il .i64 (-1:Int)).same u)∧(decide (j<n)=false→(SV.il .i64 1).same u))∧(decide (j≠n)=false→(((y.same y∧v.same v∧(SV.si .i64 j).same C∧o.same (SV.si .i64 0)∧True)∧True)∧(0:Int)≤(0:Int)∧(0:Int)≤k∧List.drop (l - 0) (trimN a)=List.drop (l - 0) (trimN b))∧∀(x:Int),let e:=(c - x).toNat;let f:=nthD (trimN a) e (0:Int);let g:=nthD (trimN b) e (0:Int);let d:=x+(1:Int);let p:=SV.si .i64 d;(0:Int)≤x∧x≤k∧List.drop (l - x.toNat) (trimN a)=List.drop (l - x.toNat) (trimN b)→(decide (x<k)=true→inR .i64 c∧inR .i64 (c - x)∧(0:Int)≤c - x∧c - x<j∧e<E∧(0:Int)≤c - x∧c - x<n∧e<B∧(decide (f<g)=true→(SV.il .i64 (-1:Int)).same u)∧(decide (f<g)=false→(0:Int)≤c - x∧c - x<j∧e<E∧(0:Int)≤c - x∧c - x<n∧e<B∧(decide (g<f)=true→(SV.il .i64 1).same u)∧(decide (g<f)=false→inR .i64 d∧((y.same y∧v.same v∧C.same C∧p.same p∧True)∧True)∧((0:Int)≤d∧d≤k∧List.drop (l - d.toNat) (trimN a)=List.drop (l - d.toNat) (trimN b))∧(k - d).toNat<(k - x).toNat)))∧(decide (x<k)=false→o.same u))) (by kernel_rfl) ?_
 simp only[vcs]
 obtain⟨R,S⟩:=@trim_val a
 obtain⟨O,N⟩:=@trim_val b
 have z:=trim_dig H
 have w:=trim_dig J
 have W:=@trim_len a
 rw[←R,←O]
 generalize trimN a=s at*
 generalize trimN b=t at*
 have G:valN s<valN t→ -1=cmpN (valN s) (valN t):=fun h=>by simp_all[cmpN]
 have F:valN t<valN s→1=cmpN (valN s) (valN t):=fun h=>by unfold cmpN;omega
 refine⟨r,q,fun P=>⟨fun h=>G (len_lt z w N (by omega)),fun h=>F (len_lt w z S (by omega))⟩,fun T=>⟨⟨by omega,by omega,?_⟩,?_⟩⟩
 ·rw[List.drop_of_length_le (by omega),List.drop_of_length_le (by omega)]
 rintro i ⟨U,X,A⟩
 refine⟨fun M=>?_,fun Q=>?_⟩
 ·have K:((s.length:Int) - 1 - i).toNat=s.length - 1 - i.toNat:=by omega
  have D:s.length - i.toNat=s.length - 1 - i.toNat+1:=by omega
  rw[K]
  rw[D] at A
  generalize V:s.length - 1 - i.toNat=m at*
  refine⟨by omega,by omega,by omega,by omega,by omega,by omega,by omega,by omega,fun h=>G (dig_lt z w (by omega) (by omega) A h),fun h=>⟨by omega,by omega,by omega,by omega,by omega,by omega,fun I=>F (dig_lt w z (by omega) (by omega) A.symm I),fun I=>⟨by omega,⟨by omega,by omega,?_⟩,by omega⟩⟩⟩
  rw[show s.length - (i+1).toNat=m by omega,drop_nthN (show m<s.length by omega),drop_nthN (show m<t.length by omega),A,show nthD s m 0=nthD t m 0 by omega]
 simp_all[cmpN]
def smQ (d:Int):List Int→List Int×Int
 |[]=>([],0)
 |x::l=>(((smQ d l).2*4294967296+x) / d::(smQ d l).1,((smQ d l).2*4294967296+x) % d)
theorem smQ_len {d:Int}:∀{a:List Int},(smQ d a).1.length=a.length
 |[]=>rfl
 |x::l=>by simp[smQ,smQ_len]
theorem smQ_ok {d:Int} (e:0<d) (k:d<4294967296):∀{a:List Int},Dig a→Dig (smQ d a).1∧(0≤(smQ d a).2∧(smQ d a).2<d)∧valN (smQ d a).1*d+(smQ d a).2=valN a
 |[],_=>by grind[smQ,valN]
 |x::l,h=>by
  obtain⟨n,g⟩:=dig_cons.1 h
  obtain⟨j,⟨p,s⟩,o⟩:=smQ_ok e k g
  simp only[smQ]
  generalize (smQ d l).1=q at*
  generalize (smQ d l).2=r at*
  have f:=Int.emod_nonneg (r*4294967296+x) (show d≠0 by omega)
  have i:=Int.emod_lt_of_pos (r*4294967296+x) e
  have c:0≤(r*4294967296+x) / d:=Int.ediv_nonneg (by omega) (by omega)
  have b:(r*4294967296+x) / d<4294967296:=by
   refine Int.ediv_lt_of_lt_mul e ?_
   omega
  refine⟨dig_cons.2 ⟨⟨c,b⟩,j⟩,⟨f,i⟩,?_⟩
  simp only[valN]
  have m:=Int.mul_ediv_add_emod (r*4294967296+x) d
  grind
theorem smQ_div {d:Int} (i:0<d) (h:d<4294967296) {a:List Int} (g:Dig a):trimN (smQ d a).1=natL (valN a / d)∧(smQ d a).2=valN a % d:=by
 obtain⟨e,⟨c,b⟩,f⟩:=smQ_ok i h g
 rw[trim_eq e]
 have j:=val_nonneg e
 have k:valN a / d=valN (smQ d a).1:=by
  rw[←f,Int.add_comm,Int.add_mul_ediv_right _ _ (by omega),Int.ediv_eq_zero_of_lt c b,Int.zero_add]
 have l:valN a % d=(smQ d a).2:=by
  rw[←f,Int.add_comm,Int.add_mul_emod_self_right,Int.emod_eq_of_lt c b]
 simp_all
theorem or_add {r x:Int} (d:0≤r) (g:r<4294967296) (a:0≤x) (e:x<4294967296):binK.orI .u64 (r*4294967296) x=r*4294967296+x:=by
 obtain⟨m,rfl⟩:=Int.eq_ofNat_of_zero_le d
 obtain⟨k,rfl⟩:=Int.eq_ofNat_of_zero_le a
 have b:(BitVec.ofInt 64 ((m:Int)*4294967296)).toNat=2^32*m:=by
  grind[BitVec.toNat_ofInt]
 have c:(BitVec.ofInt 64 (k:Int)).toNat=k:=by
  grind
 have f:(BitVec.ofInt 64 ((m:Int)*4294967296) |||BitVec.ofInt 64 (k:Int)).toNat=2^32*m+k:=by
  rw[BitVec.toNat_or,b,c,Nat.two_pow_add_eq_or_of_lt (by omega)]
 show wrapI .u64 ((BitVec.ofInt 64 ((m:Int)*4294967296) |||BitVec.ofInt 64 (k:Int)).toNat:Nat)=_
 grind[wrapI_eq,IntKind.wrap,IntKind.bits,IntKind.signed]
def r167:SCtr:=⟨100,List Int×Int,.cons (codR (.i .u32)) (.one (codI .u32)),fun a=>Dig a.1∧a.1.length≤100000000000∧0<a.2∧a.2<4294967296,fun a=> .tup [.row (.i .u32) (natL (valN a.1 / a.2)),.si .u32 (valN a.1 % a.2)]⟩
def smR (a:List Int) (d:Int) (i:Nat):List Int:=List.replicate (a.length - i) 0++(smQ d (a.drop (a.length - i))).1
def smC (a:List Int) (d:Int) (i:Nat):Int:=(smQ d (a.drop (a.length - i))).2
def Λ167 (a:List Int×Int):Nat→LoopAnn
 |4=> .inv Int (fun i=>⟨[(0,.row (.i .u32) a.1),(1,.si .u32 a.2),(6,.ow 0 (smR a.1 a.2 i.toNat).length 1),(7,.si .u64 (smC a.1 a.2 i.toNat)),(15,.si .i64 a.1.length),(16,.si .i64 i)],[.row (.i .u32) (smR a.1 a.2 i.toNat) 90 true]⟩) (fun s=>iS s 16)
  (fun i=>0≤i∧i≤a.1.length) (fun i=>(a.1.length - i).toNat) fun _ _=> .look
 |_=> .look
theorem smR_len {a:List Int} {d:Int} {i:Nat} (h:i≤a.length):(smR a d i).length=a.length:=by
 grind[smR,smQ_len]
theorem drop_cons {a:List Int} {k:Nat} (h:k<a.length):a.drop k=nthD a k 0::a.drop (k+1):=drop_nthN h
theorem rep_set {q:List Int} {y:Int}:∀k,(List.replicate (k+1) 0++q).set k y=List.replicate k 0++y::q
 |0=>by simp
 |k+1=>by
  have:=@rep_set q y k
  grind
theorem u64_in {n:Int} (b:0≤n) (a:n<18446744073709551616):inR .u64 n:=by
 show IntKind.u64.wrap n=n
 grind[IntKind.wrap,IntKind.bits,IntKind.signed]
theorem h167:Holds Tryz.prog r167:=by
 refine con0 (L:=[r152]) r167 Λ167 (by simpa using h152) ?_
 rintro⟨a,d⟩ ⟨ha,hla,d0,d1⟩
 simp only at ha hla d0 d1
 refine vcOf (let z0:=(↑a.length:Int);let z1:=SId.i .u32;let z2:=(↑a.length:Int);let z3:=SV.si .i64 z2;let z4:=d % (18446744073709551616:Int);(0:Int)≤z0∧z0≤z0∧z0*(4:Int)≤(140737488355328:Int)∧z0≤(1000000000000:Int)∧((((SV.row z1 a).same (SV.row z1 a)∧(SV.si .u32 d).same (SV.si .u32 d)∧(SV.ow 0 z0.toNat 1).same (SV.ow 0 (smR a d 0).length 1)∧(SV.il .u64 0).same (SV.si .u64 (smC a d 0))∧(SV.si .i64 z0).same z3∧(SV.il .i64 0).same (SV.si .i64 0)∧True)∧(SObj.row z1 (List.replicate z0.toNat (0:Int)) 90 true).same (SObj.row z1 (smR a d 0) 90 true)∧True)∧(0:Int)≤(0:Int)∧(0:Int)≤z2)∧∀(x:Int),let z5:=z0 - (1:Int) - x;let z6:=binK.orI .u64 (smC a d x.toNat*(4294967296:Int) % (18446744073709551616:Int)) (nthD a z5.toNat (0:Int) % (18446744073709551616:Int));let z7:=smR a d x.toNat;let z8:=x+(1:Int);let z9:=SV.si .i64 z8;(0:Int)≤x∧x≤z2→(decide (x<z2)=true→inR .i64 (z0 - (1:Int))∧inR .i64 z5∧(0:Int)≤(32:Int)∧(32:Int)≤(64:Int)∧(0:Int)≤z5∧z5<z0∧z5.toNat<a.length∧z4≠(0:Int)∧inR .u64 (z6.tdiv z4)∧z4≠(0:Int)∧z7.length=z7.length∧(0:Int)≤z5∧z5<(↑z7.length:Int)∧z7.length=z7.length∧z5.toNat<z7.length∧inR .i64 z8∧(((SV.row z1 a).same (SV.row z1 a)∧(SV.si .u32 d).same (SV.si .u32 d)∧(SV.ow 0 z7.length 1).same (SV.ow 0 (smR a d z8.toNat).length 1)∧(SV.si .u64 (z6.tmod z4)).same (SV.si .u64 (smC a d z8.toNat))∧z3.same z3∧z9.same z9∧True)∧(SObj.row z1 (z7.set z5.toNat (z6.tdiv z4 % (4294967296:Int))) 90 true).same (SObj.row z1 (smR a d z8.toNat) 90 true)∧True)∧((0:Int)≤z8∧z8≤z2)∧(z2 - z8).toNat<(z2 - x).toNat)∧(decide (x<z2)=false→z7.length=z7.length∧z7.length≤1000000000000∧(SV.tup [SV.row z1 (trimN z7),SV.si .u32 (smC a d x.toNat % (4294967296:Int))]).same (SV.tup [SV.row z1 (natL (valN a / d)),SV.si .u32 (valN a % d)]))) (by kernel_rfl) ?_
 simp only[vcs]
 have hrow:∀{u v:List Int},u=v→(SObj.row (.i .u32) u 90 true).same (SObj.row (.i .u32) v 90 true):=by rintro _ _ rfl;rfl
 have how:∀{u v:Nat},u=v→(SV.ow 0 u 1).same (SV.ow 0 v 1):=by rintro _ _ rfl;rfl
 have z1:smR a d 0=List.replicate a.length 0:=by simp[smR,smQ]
 have z2:smC a d 0=0:=by simp[smC,smQ]
 refine⟨by omega,by omega,by omega,by omega,⟨⟨⟨how (by rw[smR_len (by omega)];omega),z2.symm⟩,hrow (by rw[z1,Int.toNat_natCast])⟩,by omega,by omega⟩,?_⟩
 rintro i ⟨i0,i1⟩
 have l1:=@smR_len a d i.toNat (by omega)
 have l2:=fun h=>@smR_len a d (i+1).toNat h
 have dd:d % 18446744073709551616=d:=by omega
 refine⟨fun ilt=>?_,fun ige=>?_⟩
 ·have hx:((a.length:Int) - 1 - i).toNat=a.length - 1 - i.toNat:=by omega
  have hk1:a.length - i.toNat=a.length - 1 - i.toNat+1:=by omega
  have hk2:a.length - (i+1).toNat=a.length - 1 - i.toNat:=by omega
  have hR:smR a d i.toNat=List.replicate (a.length - 1 - i.toNat+1) 0++(smQ d (a.drop (a.length - 1 - i.toNat+1))).1:=by unfold smR;rw[hk1]
  have hC:smC a d i.toNat=(smQ d (a.drop (a.length - 1 - i.toNat+1))).2:=by unfold smC;rw[hk1]
  have hR2:smR a d (i+1).toNat=List.replicate (a.length - 1 - i.toNat) 0++(smQ d (a.drop (a.length - 1 - i.toNat))).1:=by unfold smR;rw[hk2]
  have hC2:smC a d (i+1).toNat=(smQ d (a.drop (a.length - 1 - i.toNat))).2:=by unfold smC;rw[hk2]
  have hlt:a.length - 1 - i.toNat<a.length:=by omega
  rw[hx]
  have l3:=l2 (by omega)
  generalize a.length - 1 - i.toNat=k at*
  have hdr:=drop_cons hlt
  have hdig:Dig (a.drop k):=fun z hz=>ha z (List.mem_of_mem_drop hz)
  obtain⟨q1,q2,q3⟩:=smQ_ok d0 d1 (a:=a.drop (k+1)) (fun z hz=>ha z (List.mem_of_mem_drop hz))
  obtain⟨p1,p2,p3⟩:=smQ_ok d0 d1 hdig
  rw[hdr] at hR2 hC2 p1 p2
  simp only[smQ] at hR2 hC2 p1 p2
  have hxd:=dig_nth ha k
  rw[←hC] at hR2 hC2 p1 p2 q2
  have e1:smC a d i.toNat*4294967296 % 18446744073709551616=smC a d i.toNat*4294967296:=by omega
  have e2:nthD a k 0 % 18446744073709551616=nthD a k 0:=by omega
  rw[e1,e2,dd,or_add (by omega) (by omega) hxd.1 hxd.2]
  have hv0:0≤smC a d i.toNat*4294967296+nthD a k 0:=by omega
  rw[Int.tdiv_eq_ediv_of_nonneg hv0,Int.tmod_eq_emod_of_nonneg hv0]
  have hq:=(dig_cons.1 p1).1
  have hqm:(smC a d i.toNat*4294967296+nthD a k 0) / d % 4294967296=(smC a d i.toNat*4294967296+nthD a k 0) / d:=Int.emod_eq_of_lt hq.1 hq.2
  rw[hqm]
  refine⟨by omega,by omega,by omega,by omega,by omega,by omega,by omega,by omega,u64_in hq.1 (by omega),by omega,by omega,by omega,by omega,by omega,⟨⟨how (by omega),hC2.symm⟩,hrow ?_⟩,by omega,by omega⟩
  rw[hR2,hR,rep_set]
 ·have hi:a.length - i.toNat=0:=by omega
  have hR:smR a d i.toNat=(smQ d a).1:=by unfold smR;rw[hi];simp
  have hC:smC a d i.toNat=(smQ d a).2:=by unfold smC;rw[hi];simp
  obtain⟨k1,k2⟩:=smQ_div d0 d1 ha
  have hm:=Int.emod_nonneg (valN a) (show d≠0 by omega)
  have hl:=Int.emod_lt_of_pos (valN a) d0
  refine⟨by omega,by rw[hR,k1],?_⟩
  rw[hC,k2]
  omega
def digK:Nat→Int→List Int
 |0,_=>[]
 |k+1,x=>x % 4294967296::digK k (x / 4294967296)
theorem digK_len:∀{k:Nat} {x:Int},(digK k x).length=k
 |0,_=>rfl
 |k+1,x=>by simp[digK,digK_len]
theorem digK_dig:∀{k:Nat} {x:Int},Dig (digK k x)
 |0,_=>by simp[digK,Dig]
 |k+1,x=>dig_cons.2 ⟨by omega,digK_dig⟩
theorem digK_eq:∀{l:List Int},Dig l→digK l.length (valN l)=l
 |[],_=>rfl
 |d::l,h=>by
  obtain⟨e,b⟩:=dig_cons.1 h
  simp only[List.length_cons,digK,valN]
  have c:(d+4294967296*valN l) % 4294967296=d:=by omega
  have a:(d+4294967296*valN l) / 4294967296=valN l:=by omega
  rw[c,a,digK_eq b]
theorem digK_of {l:List Int} {k:Nat} {x:Int} (h:Dig l) (b:l.length=k) (a:valN l=x):l=digK k x:=by
 grind[digK_eq]
theorem pow_pos (k:Nat):(0:Int)<4294967296^k:=Int.pow_pos (by decide)
theorem digK_val:∀{k:Nat} {x:Int},0≤x→x<4294967296^k→valN (digK k x)=x
 |0,x,b,a=>by grind[digK,valN]
 |k+1,x,b,a=>by
  rw[Int.pow_succ] at a
  simp only[digK,valN]
  rw[digK_val (k:=k) (x:=x / 4294967296) (by omega) (by omega)]
  omega
theorem val_app:∀{a b:List Int},valN (a++b)=valN a+4294967296^a.length*valN b
 |[],b=>by simp[valN]
 |d::l,b=>by
  simp only[List.cons_append,valN,val_app,List.length_cons,Int.pow_succ,Int.mul_add]
  grind
theorem val_set:∀{l:List Int} {j:Nat} {v:Int},j<l.length→valN (l.set j v)=valN l+4294967296^j*(v - nthD l j 0)
 |[],_,_,h=>by simp at h
 |d::l,0,v,_=>by grind[valN,nthD]
 |d::l,j+1,v,h=>by
  have a:=@val_set l j v (by simpa using h)
  grind[nthD,valN]
theorem dig_set {l:List Int} {j:Nat} {v:Int} (h:Dig l) (c:0≤v) (b:v<4294967296):Dig (l.set j v):=by
 intro d a
 rcases List.mem_or_eq_of_mem_set a with a|rfl
 ·exact h d a
 omega
theorem dig_drop {a:List Int} (h:Dig a) (n:Nat):Dig (a.drop n):=fun d b=>h d (List.mem_of_mem_drop b)
theorem dig_app {a b:List Int} (e:Dig a) (c:Dig b):Dig (a++b):=fun d f=>by
 rcases List.mem_append.1 f with h|h
 ·exact e d h
 ·exact c d h
theorem dig_one {x:Int} (b:0≤x) (a:x<4294967296):Dig [x]:=dig_cons.2 ⟨⟨b,a⟩,by simp[Dig]⟩
theorem nth_set_self {l:List Int} {j:Nat} {v:Int} (h:j<l.length):nthD (l.set j v) j 0=v:=by
 grind[nthD]
theorem nth_set_ne {l:List Int} {i j:Nat} {v:Int} (h:i≠j):nthD (l.set i v) j 0=nthD l j 0:=by
 grind[nthD]
theorem nth_small:∀{l:List Int} {i j:Nat},Dig l→valN l<4294967296^i→i≤j→nthD l j 0=0
 |[],_,_,_,_,_=>by simp[nthD]
 |d::l,0,j,h,a,c=>by
  obtain⟨e,b⟩:=dig_cons.1 h
  have:=val_nonneg b
  simp only[valN,Int.pow_zero] at a
  have f:d=0:=by omega
  have g:valN l=0:=by omega
  cases j with
  |zero=>simp[nthD,f]
  |succ j=>
   have:=nth_small (l:=l) (i:=0) (j:=j) b (by simp;omega) (by omega)
   grind[nthD]
 |d::l,i+1,j,h,a,c=>by
  obtain⟨e,b⟩:=dig_cons.1 h
  cases j with
  |zero=>omega
  |succ j=>
   rw[Int.pow_succ] at a
   simp only[valN] at a
   have:=nth_small (l:=l) (i:=i) (j:=j) b (by omega) (by omega)
   grind[nthD]
def mulI (o b:List Int) (x:Int) (i:Nat):Nat→List Int×Int
 |0=>(o,0)
 |k+1=>((mulI o b x i k).1.set (i+k) ((x*nthD b k 0+nthD (mulI o b x i k).1 (i+k) 0+(mulI o b x i k).2) % 4294967296),(x*nthD b k 0+nthD (mulI o b x i k).1 (i+k) 0+(mulI o b x i k).2) / 4294967296)
theorem mulI_ok {o b:List Int} {x:Int} {i:Nat} (d:Dig o) (g:Dig b) (f:0≤x) (m:x<4294967296):∀{k:Nat},i+k≤o.length→
  Dig (mulI o b x i k).1∧(mulI o b x i k).1.length=o.length∧(0≤(mulI o b x i k).2∧(mulI o b x i k).2<4294967296)∧(∀j,i+k≤j→nthD (mulI o b x i k).1 j 0=nthD o j 0)∧
  valN (mulI o b x i k).1+4294967296^(i+k)*(mulI o b x i k).2=valN o+4294967296^i*(x*valN (b.take k))
 |0,h=>by simp[mulI,d,valN]
 |k+1,h=>by
  obtain⟨l,t,⟨v,s⟩,u,r⟩:=@mulI_ok o b x i d g f m k (by omega)
  simp only[mulI]
  generalize (mulI o b x i k).1=p at*
  generalize (mulI o b x i k).2=c at*
  have a:=dig_nth g k
  have q:=dig_nth l (i+k)
  have n:0≤x*nthD b k 0:=Int.mul_nonneg f a.1
  have e:x*nthD b k 0≤4294967295*4294967295:=Int.mul_le_mul (by omega) (by omega) a.1 (by omega)
  grind[dig_set,val_set,take_snoc0,nthD]
end Go.Vi
