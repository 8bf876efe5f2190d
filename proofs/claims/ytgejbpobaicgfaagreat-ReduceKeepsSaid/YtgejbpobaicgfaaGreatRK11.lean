/-
  Plain law: the last dictionary of a run.
  Conditions: none.
-/
import Derived.Test.YtgejbpobaicgfaaGreatRK06
import Derived.Test.YtgejbpobaicgfaaGreatRK07
import Derived.Test.YtgejbpobaicgfaaGreatRK08
import Derived.Test.YtgejbpobaicgfaaGreatRK10
import Derived.Test.YtgejbpobaicgfaaGreatRK09
import Derived.Test.YtgejbpobaicgfaaGreatRK05
set_option maxRecDepth 100000
set_option maxHeartbeats 4000000
set_option linter.all false
namespace Go.Vi
open Classical in
noncomputable def afa (n m:Nat) (t:Tb):Nat:=if h:∃N,uy n m N t=true then Classical.choose h else 0
noncomputable def lastT (n m:Nat) (t:Tb):Tb:=runT n m (afa n m t) t
section
variable {n m:Nat} {t t0 t':Tb}
theorem ajA {N:Nat} (h:uy n m N t=true):lastT n m t=runT n m N t:=by
 have a:∃N,uy n m N t=true:=⟨N,h⟩
 have b:uy n m (afa n m t) t=true:=by
  unfold afa
  grind
 grind[lastT,aw8]
theorem axb (h:stepT n m t=none):lastT n m t=t:=by
 have a:uy n m 0 t=true:=by simp[uy,h]
 rw[ajA a];rfl
theorem aFk (a:∃N,uy n m N t=true) (h:stepT n m t=some t'):lastT n m t'=lastT n m t:=by
 obtain⟨N,a⟩:=a
 have b:=awV a h
 rw[ajA b,ajA (aqd a)]
 grind[runT]
theorem aqr (b:Run n m t0 t) (c:RN m t):Run n m t0 (lastT n m t)/\RN m (lastT n m t)/\stepT n m (lastT n m t)=none:=by
 obtain⟨N,a⟩:=aqe b c
 rw[ajA a]
 grind[aw7,run_end]
theorem axc (i:Run n m t0 t) (e:RN m t) {B:Rat} (h:∀x z,t0.holds n m x z->(∀v∈t0.basic++t0.free,0<=x v)->z<=B):sx (lastT n m t) n<0:=by
 obtain⟨j,g,a⟩:=aqr i e
 rcases @agi (lastT n m t) n with⟨b,d⟩|⟨c,b,d,l,k⟩
 ·omega
 ·exfalso
  unfold stepT at a
  rw[if_neg (by omega),show(sx (lastT n m t) n).toNat=c by omega] at a
  split at a
  ·rename_i f
   exact j.bnd g h b f
  ·cases a
end
def ek (f:List Int) (d:Int):List Int:=(pA f.length).filter fun i=>decide (bo f i.toNat 0=d)
theorem SR {f:List Int} {d x:Int}:x∈ek f d↔(0<=x/\x<f.length)/\bo f x.toNat 0=d:=by
 simp_all[ek,QZ]
theorem adI {f:List Int} {d:Int}:(ek f d).Pairwise (·<·):=af8.sublist List.filter_sublist
theorem afb {f:List Int} {d:Int}:(ek f d).length<=f.length:=by
 have:=List.length_filter_le (fun i:Int=>decide (bo f i.toNat 0=d)) (pA f.length)
 rw[FC] at this;exact this
theorem ahS {a b:Type} {g:a->b} {l:List a} {i:Nat} {d:b} {e:a} (h:i<l.length):bo (l.map g) i d=g (bo l i e):=by
 grind[jV]
theorem ajB {n j:Nat} {d:Int} (h:j<n):bo (pA n) j d=j:=by
 grind[pA,acZ]
def od (p:cn) (f:List Int):Tb where
 iP:=(List.range (p.classes.length+12)).map fun r:Nat=>(ek f 0).map fun i=>((uu p r (oI p i):Int):Rat)
 bound:=(List.range (p.classes.length+12)).map fun r:Nat=>((pg p r - lT p ((ek f 1).map (oI p)) r:Int):Rat)
 cost:=(ek f 0).map fun i=>(((oI p i).value:Int):Rat)
 value:=0
 basic:=(List.range (p.classes.length+12)).map fun i:Nat=>(((ek f 0).length+i:Nat):Int)
 free:=pA (ek f 0).length
def FG (p:cn) (f:List Int):Prop:=dV p=0/\f.length=p.offers.length/\yx p ((ek f 1).map (oI p))=true
abbrev nF (f:List Int):Nat:=(ek f 0).length
abbrev mF (p:cn):Nat:=p.classes.length+12
section
variable {p:cn} {f:List Int}
theorem ac1:(od p f).WF (nF f) (mF p) where
 iP:=by simp[od]
 row i a:=by
  grind[od,acZ]
 bound:=by simp[od]
 cost:=by simp[od]
 basic:=by simp[od]
 free:=by simp[od,FC]
theorem ajC {i j:Nat} (b:i<mF p) (a:j<nF f):(od p f).cf i j=((uu p i (oI p (bo (ek f 0) j 0)):Int):Rat):=by
 grind[Tb.cf,od,acZ,ahS]
theorem ajD {i:Nat} (a:i<mF p):(od p f).bd i=((pg p i - lT p ((ek f 1).map (oI p)) i:Int):Rat):=by
 grind[Tb.bd,od,acZ]
theorem amj {j:Nat} (a:j<nF f):(od p f).cs j=(((oI p (bo (ek f 0) j 0)).value:Int):Rat):=by
 grind[Tb.cs,od,ahS]
theorem aFl {i:Nat} (a:i<mF p):(od p f).bv i=(((nF f)+i:Nat):Int):=by
 grind[Tb.bv,od,acZ]
theorem amk {j:Nat} (a:j<nF f):(od p f).fv j=j:=by
 grind[Tb.fv,od,ajB]
theorem ajE:((od p f).basic++(od p f).free).Nodup:=by
 rw[List.nodup_append]
 refine⟨?_,af8.imp fun h=>by omega,?_⟩
 ·simp only[od]
  refine List.Pairwise.map _ (fun a b h=>?_) List.nodup_range
  omega
 grind[od,QZ]
theorem ahT (h:FG p f) {j:Nat} (a:j<nF f):(0<=bo (ek f 0) j 0/\bo (ek f 0) j 0<p.offers.length)/\bo f (bo (ek f 0) j 0).toNat 0=0:=by
 have:=SR.1 (nA (d:=0) a)
 rw[h.2.1] at this;exact this
theorem abS (a:dV p=0) {i:Int} (h:0<=i/\i<p.offers.length):0<=(oI p i).iy/\(oI p i).iy<p.classes.length/\(oI p i).want.ok=true/\1<=(oI p i).value/\(oI p i).value<=1000000:=(pz a).2.2.2.2 _ (nA (show i.toNat<p.offers.length by omega))
theorem aml (h:FG p f) {d:Int}:∀x∈(ek f d).map (oI p),0<=x.iy/\x.iy<p.classes.length/\x.want.ok=true/\1<=x.value/\x.value<=1000000:=fun x a=>by
 obtain⟨i,b,rfl⟩:=List.mem_map.1 a
 have:=(SR.1 b).1
 rw[h.2.1] at this
 exact abS h.1 this
theorem aqs {z:Int} {M:Nat} (h:z.natAbs<=M):uw M (z:Rat):=⟨z,rfl,h⟩
theorem axd (h:FG p f) {i:Nat} (b:i<mF p):0<=pg p i - lT p ((ek f 1).map (oI p)) i/\pg p i - lT p ((ek f 1).map (oI p)) i<=4:=by
 have c:i<p.classes.length+12:=b
 have d:=abk.1 h.2.2 i (by grind[nq])
 have g:=@ajp p h.1 i
 have e:=@aeS p i ((ek f 1).map (oI p)) fun x a=>(aml h x a).2.2.1
 omega
theorem aFm:∀m:Nat,m<=20->(m+2)*(1000000*aaY 4 m)<4294967296^1000:=by
 have h:((List.range 21).all fun m=>Nat.blt ((m+2)*(1000000*aaY 4 m)) (4294967296^1000))=true:=by decide+kernel
 intro m a
 have:=List.all_eq_true.1 h m (List.mem_range.2 (by omega))
 rw[Nat.blt_eq] at this;exact this
theorem amm (h:FG p f):Small (nF f) (mF p) 4 1000000 (od p f) where
 wf:=ac1
 nd:=ajE
 cf i j b a:=by
  rw[ajC b a]
  have:=(abS h.1 (ahT h a).1).2.2.1
  grind[adt,aqs]
 bd i b:=by
  rw[ajD b]
  have:=axd h b
  exact aqs (by omega)
 cs j a:=by
  rw[amj a]
  have:=abS h.1 (ahT h a).1
  grind[aqs]
 v:=rfl
 M1:=by omega
 G1:=by omega
 X:=aFm _ (by have:=(pz h.1).1;grind)
theorem amn {z:Int} (h:0<=z):(0:Rat)<=(z:Rat):=by exact_mod_cast h
theorem aqt (h:FG p f):RN (mF p) (od p f):=fun i a=>by
 rw[ajD a]
 exact amn (axd h a).1
theorem axe {g:Nat->Rat}:∀{n:Nat},(∀k,k<n->0<=g k)->0<=ju n g
 |0,_=>by grind[ju]
 |n+1,h=>by
  have a:=@axe g n fun k b=>h k (by omega)
  grind[ju]
theorem axf {g k:Nat->Rat}:∀{n:Nat},(∀i,i<n->g i<=k i)->ju n g<=ju n k
 |0,_=>by grind[ju]
 |n+1,h=>by
  have a:=@axf g k n fun k b=>h k (by omega)
  grind[ju]
theorem aFo {g:Nat->Rat} {n j:Nat} (h:∀k,k<n->0<=g k) (a:j<n):g j<=ju n g:=by
 rw[amb a]
 grind[axe]
theorem axg (h:FG p f) {x:Int->Rat} {z:Rat} (d:(od p f).holds (nF f) (mF p) x z) (e:∀v∈(od p f).basic++(od p f).free,0<=x v) {j:Nat} (b:j<nF f):x ((od p f).fv j)<=1:=by
 obtain⟨l,_⟩:=ahT h b
 have r:=abS h.1 l
 have a:(oI p (bo (ek f 0) j 0)).iy.toNat<mF p:=by grind
 have s:=d.1 _ a
 have n:=e _ (List.mem_append_left _ (ajx ac1 a))
 have i:(od p f).cf (oI p (bo (ek f 0) j 0)).iy.toNat j=1:=by
  rw[ajC a b];unfold uu
  rw[if_pos (by omega),if_pos (by omega)]
  rfl
 have m:=@aFo (fun k=>(od p f).cf (oI p (bo (ek f 0) j 0)).iy.toNat k*x ((od p f).fv k)) (nF f) j (fun k c=>by
  refine Rat.mul_nonneg ?_ (e _ (List.mem_append_right _ (ahM ac1 c)))
  rw[ajC a c]
  exact amn (adt (abS h.1 (ahT h c).1).2.2.1).1) b
 simp only[i] at m
 have t:(od p f).bd (oI p (bo (ek f 0) j 0)).iy.toNat<=1:=by
  rw[ajD a]
  have o:pg p (oI p (bo (ek f 0) j 0)).iy.toNat=1:=by
   unfold pg;omega
  have q:=@aeS p (oI p (bo (ek f 0) j 0)).iy.toNat ((ek f 1).map (oI p)) fun x d=>(aml h x d).2.2.1
  have g:pg p (oI p (bo (ek f 0) j 0)).iy.toNat - lT p ((ek f 1).map (oI p)) (oI p (bo (ek f 0) j 0)).iy.toNat<=1:=by omega
  exact_mod_cast g
 grind
theorem axh (h:FG p f) {x:Int->Rat} {z:Rat} (c:(od p f).holds (nF f) (mF p) x z) (e:∀v∈(od p f).basic++(od p f).free,0<=x v):z<=ju (nF f) (od p f).cs:=by
 have g:=c.2
 have k:(od p f).value=0:=rfl
 have:=@axf (fun j=>(od p f).cs j*x ((od p f).fv j)) (od p f).cs (nF f) fun j a=>by
  have i:=axg h c e a
  have d:0<=(od p f).cs j:=by
   rw[amj a]
   exact amn (by have:=abS h.1 (ahT h a).1;omega)
  have:=Rat.mul_nonneg d (b:=1 - x ((od p f).fv j)) (by grind)
  grind
 grind
noncomputable def uz (p:cn) (f:List Int):Tb:=lastT (nF f) (mF p) (od p f)
theorem adJ (h:FG p f):Run (nF f) (mF p) (od p f) (uz p f)/\RN (mF p) (uz p f)/\sx (uz p f) (nF f)<0:=by
 have a:=Run.refl (n:=nF f) (m:=mF p) (t0:=od p f) ac1 ajE
 have:=aqr a (aqt h)
 exact⟨this.1,this.2.1,axc a (aqt h) fun x z c b=>axh h c b⟩
end
open Go.Proofs.YtgejbpobaicgfaaGreat.Ir
open Go.Proofs
def xN (d:List fO) (j:Nat) (z:fO):List fO:=d.take j++List.replicate (d.length - j) z
theorem ajF {d:List fO} {j:Nat} {z:fO} (h:j<=d.length):(xN d j z).length=d.length:=by
 grind[xN]
theorem ajG {d:List fO} {z:fO}:xN d 0 z=List.replicate d.length z:=by simp[xN]
theorem ajH {d:List fO} {z:fO}:xN d d.length z=d:=by simp[xN]
theorem ajI {d:List fO} {j:Nat} {z x:fO} (h:j<d.length) (b:x=bo d j z):(xN d j z).set j x=xN d (j+1) z:=by
 unfold xN
 have a:d.length - j=(d.length - (j+1))+1:=by omega
 rw[a,List.replicate_succ,List.set_append_right _ _ (by grind),List.length_take,show j - min j d.length=0 by omega,List.set_cons_zero,List.take_succ_eq_append_getElem h,List.append_assoc,b,jV h]
 rfl
theorem ahU {l:List Rat} {i:Nat} {q:Rat}:(fL l).set i (cJ q)=fL (l.set i q):=by
 simp_all[fL]
theorem elim_none {l p:List Rat} {c:Nat} (h:bo l c 0=0) (d:c<l.length):RB l c p=l:=by
 refine List.ext_getElem amc fun i b a=>?_
 have e:=@amd c l p i a
 grind[jV]
def r413:ob where
 f:=148
 α:=Int
 put a:=[.si .i64 a]
 st _:=[]
 dec v o:=match v,o with
  |[v],[]=>v.int .i64
  |_,_=>none
 ok v o a h:=by
  split at h
  ·exact⟨by simp only[gL,EG h];rfl,rfl⟩
  ·cases h
 inj a b h _:=by grind[gL,SV.g]
 dom n:=0<=n/\n<=1000
 res n:=.ow 0 n.toNat 3
 out n:=[.row sF (fL (List.replicate n.toNat 0)) 70 false]
def aFp (n:Int):Nat->jW
 |3=> .inv Int (fun j=>⟨[(3,.ow 0 n.toNat 3),(8,.si .i64 n.toNat),(9,.si .i64 j)],[.row sF (xN (fL (List.replicate n.toNat 0)) j.toNat (false,([],[]))) 70 true]⟩)
   (fun s=>iS s 9) (fun j=>0<=j/\j<=n) (fun j=>(n - j).toNat) fun _ _=> .look
 |_=> .look
theorem h413:qH Tryz.prog r413:=by
 refine aos (L:=[r94]) (W:=[]) r413 (fun _=>none) aFp (by simp) (by grind[h94]) ?_
 rintro(n:Int) ⟨r,v⟩
 refine gw (let e:=(0:Int);let j:=cC.row;let k:=SV.si .i64;let a:=SV.ow 0 n.toNat 3;let f:=k (↑n.toNat:Int);let o:=(bD.i .u32).fa;let h:=(false,[],[]);let g:=fL (List.replicate n.toNat (0:Rat));let m:=cJ (IntCast.intCast e);e<=n/\n<=n/\n*(56:Int)<=(140737488355328:Int)/\n<=(1000000000000:Int)/\(((a.same a/\f.same f/\(SV.il .i64 0).same (k 0)/\True)/\(j (bD.b.pair (o.pair o)) (List.replicate n.toNat h) 70 true).same (j sF (xN g 0 h) 70 true)/\True)/\e<=e/\e<=n)/\∀(x:Int),let p:=decide (x<(↑n.toNat:Int));let c:=xN g x.toNat h;let d:=x+(1:Int);let q:=k d;e<=x/\x<=n->(p=true->((-9223372036854775808:Int)<=e/\e<=(9223372036854775807:Int))/\n.toNat=c.length/\e<=x/\x<(↑c.length:Int)/\n.toNat=c.length/\x.toNat<c.length/\iR .i64 d/\((a.same a/\f.same f/\q.same q/\True)/\(j sF (c.set x.toNat (m.fst,m.snd.fst,m.snd.snd)) 70 true).same (j sF (xN g d.toNat h) 70 true)/\True)/\(e<=d/\d<=n)/\(n - d).toNat<(n - x).toNat)/\(p=false->a.same a/\(j sF c 70 false).same (j sF g 70 false)/\True)) (by kernel_rfl) ?_
 conv=>zeta
 try simp only[vcs]
 have l:∀k:Nat,((k:Nat):Int).toNat=k:=fun k=>Int.toNat_natCast k
 have t:(fL (List.replicate n.toNat 0)).length=n.toNat:=by grind[zx]
 have e:∀{x y:List fO},x=y->(cC.row sF x 70 true).same (cC.row sF y 70 true):=by rintro _ _ rfl;rfl
 refine⟨r,by omega,by omega,by omega,⟨e (by rw[ajG,t]),by omega,by omega⟩,?_⟩
 rintro j ⟨A,z⟩
 have u:=@ajF (fL (List.replicate n.toNat 0)) j.toNat (false,([],[])) (by omega)
 refine⟨fun s=>?_,fun s=>?_⟩
 ·have w:bo (fL (List.replicate n.toNat 0)) j.toNat (false,([],[]))=cJ 0:=by
   grind[KE,jV]
  grind[ajI]
 ·rw[show j.toNat=(fL (List.replicate n.toNat 0)).length by omega,ajH]
  rfl
def r417:fN:=⟨170,List fO×fO×Int×List fO×fO,.cons (qX sF) (.cons (yl sF) (.cons (sj .i64) (.cons (qX sF) (.one (yl sF))))),
 fun a=>∃l b p c,(a.1=fL l/\a.2.1=cJ b/\a.2.2.2.1=fL p/\a.2.2.2.2=cJ c)/\(l.length=p.length/\l.length<=1000)/\(0<=a.2.2.1/\a.2.2.1<l.length)/\(∀q∈l,Sz 10000000 q)/\(∀q∈p,Sz 10000000 q)/\Sz 10000000 b/\Sz 10000000 c,
 fun a=> .eW [.row sF (fL (RB (vL a.1) a.2.2.1.toNat (vL a.2.2.2.1))),frS (ja a.2.1 - bo (vL a.1) a.2.2.1.toNat 0*ja a.2.2.2.2)]⟩
def aFq (l:List Rat) (b:Rat) (c:Int) (p:List Rat) (a:Rat):Nat->jW
 |6=> .inv Int (fun j=>⟨[(2,.si .i64 c),(3,.row sF (fL p)),(6,.ptr 0 0 3),(9,.ptr 1 0 3),(11,.ptr 2 0 3),(12,.ptr 3 0 3),(13,.ow 4 l.length 3),(28,.row sF (fL l)),(29,.si .i64 l.length),(30,.si .i64 j)],
   [.cells [.sb (cJ b).1,.row (.i .u32) (cJ b).2.1,.row (.i .u32) (cJ b).2.2] 70 3 false,.cells [.sb (cJ a).1,.row (.i .u32) (cJ a).2.1,.row (.i .u32) (cJ a).2.2] 70 3 false,
    .cells [.bl false,.sc (.slice none 0 0),.sc (.slice none 0 0)] 70 3 false,.cells [.sb (cJ (bo l c.toNat 0)).1,.row (.i .u32) (cJ (bo l c.toNat 0)).2.1,.row (.i .u32) (cJ (bo l c.toNat 0)).2.2] 70 3 false,
    .row sF (xN (fL (RB l c.toNat p)) j.toNat (false,([],[]))) 70 true]⟩)
   (fun s=>iS s 30) (fun j=>0<=j/\j<=l.length) (fun j=>(l.length - j).toNat) fun _ _=> .look
 |_=> .look
theorem h417:Holds Tryz.prog r417:=by
 refine lj (L:=[r99,amg,ahv,r95]) r417 (fun a=>aFq (vL a.1) (ja a.2.1) a.2.2.1 (vL a.2.2.2.1) (ja a.2.2.2.2)) (by simpa using⟨h99,h410,h130,h95⟩) ?_
 rintro⟨l',b',c,p',pb'⟩ ⟨l,b,p,pb,⟨e1,e2,e3,e4⟩,⟨g1,g2⟩,⟨c0,c1⟩,hl,hp,hb,hpb⟩
 simp only at e1 e2 e3 e4 c0 c1
 subst e1 e2 e3 e4
 refine gw (let a:=SV.row;let d:=(0:Int);let e:=SV.si .i64;let f:=cC.cells;let g:=cC.row;let h:=SV.sb;let j:=sF.dflt;let k:=SV.ptr;let m:=SV.agg;let n:=SV.eW;let F:=bo (fL l) c.toNat j;let a2:=(F.fst,F.snd.fst,F.snd.snd);let o:=bD.i .u32;let t:=(↑(fL l).length:Int);let L:=fL (RB (vL (fL l)) c.toNat (vL (fL p)));let v:=ja (cJ b);let w:=bo (vL (fL l)) c.toNat (0:Rat);let y:=ja (cJ pb);let a3:=(cJ (v - w*y)).snd;let a4:=n [a sF L,m [h (cJ (v - w*y)).fst,a o a3.fst,a o a3.snd]];let z:=fL (vL (fL p));let G:=a sF z;let A:=k 0 0 3;let B:=k 1 0 3;let C:=k 2 0 3;let D:=k 3 0 3;let z18:Nat:=(vL (fL l)).length;let H:=SV.ow 4 z18 3;let I:=fL (vL (fL l));let J:=a sF I;let r:=(↑z18:Int);let K:=e r;let a5:=SV.sc (Value.slice none 0 0);let E:=f [SV.bl false,a5,a5] 70 3 false;let M:=(false,[],[]);let N:=((cJ w).fst,(cJ w).snd.fst,(cJ w).snd.snd);let O:=f [h (cJ v).fst,a o (cJ v).snd.fst,a o (cJ v).snd.snd] 70 3 false;let P:=f [h (cJ y).fst,a o (cJ y).snd.fst,a o (cJ y).snd.snd] 70 3 false;let Q:=f [h (cJ w).fst,a o (cJ w).snd.fst,a o (cJ w).snd.snd] 70 3 false;let a6:=((cJ y).fst,(cJ y).snd.fst,(cJ y).snd.snd);let a7:=((cJ v).fst,(cJ v).snd.fst,(cJ v).snd.snd);let S:=cJ (ja N*ja a6);let a8:=(S.fst,S.snd.fst,S.snd.snd);let U:=cJ (ja a7 - ja a8);let a9:=fun(u:Bool) ↦decide (SH (ja a2)=d)=u;let V:=fun(u:bD.b.T) (u_1:(o.fa.pair o.fa).T) (u_2:Rat) ↦(f [h u,a o u_1.fst,a o u_1.snd] 70 3 false).same (f [h (cJ u_2).fst,a o (cJ u_2).snd.fst,a o (cJ u_2).snd.snd] 70 3 false);d<=c/\c<t/\c.toNat<(fL l).length/\lH a2/\(a9 true->(n [a sF (fL l),m [h (cJ b).fst,a o (cJ b).snd.fst,a o (cJ b).snd.snd]]).same a4)/\(a9 false->d<=t/\t<=t/\t*(56:Int)<=(140737488355328:Int)/\t<=(1000000000000:Int)/\((((e c).same (e c)/\(a sF (fL p)).same G/\A.same A/\B.same B/\C.same C/\D.same D/\(SV.ow 4 t.toNat 3).same H/\(a sF (fL l)).same J/\(e t).same K/\(SV.il .i64 0).same (e 0)/\True)/\V (cJ b).fst (cJ b).snd v/\V (cJ pb).fst (cJ pb).snd y/\E.same E/\V F.fst F.snd w/\(g (bD.b.pair (o.fa.pair o.fa)) (List.replicate t.toNat M) 70 true).same (g sF (xN L 0 M) 70 true)/\True)/\d<=d/\d<=r)/\∀(x:Int),let W:=bo z x.toNat j;let X:=(W.fst,W.snd.fst,W.snd.snd);let Y:=cJ (ja N*ja X);let Z:=(Y.fst,Y.snd.fst,Y.snd.snd);let q:=xN L x.toNat M;let s:=x+(1:Int);let R:=e s;let aa:=g sF (xN L s.toNat M) 70 true;let a0:=bo I x.toNat j;let ab:=(a0.fst,a0.snd.fst,a0.snd.snd);let ac:=lH Z;let ad:=lH N/\lH X;let ae:=fun(u:Rat) ↦z18=q.length/\d<=x/\x<(↑q.length:Int)/\z18=q.length/\x.toNat<q.length/\iR .i64 s/\(((e c).same (e c)/\G.same G/\A.same A/\B.same B/\C.same C/\D.same D/\H.same H/\J.same J/\K.same K/\R.same R/\True)/\O.same O/\P.same P/\E.same E/\Q.same Q/\(g sF (q.set x.toNat ((cJ u).fst,(cJ u).snd.fst,(cJ u).snd.snd)) 70 true).same aa/\True)/\(d<=s/\s<=r)/\(r - s).toNat<(r - x).toNat;let af:=fun(u:Bool) ↦decide (SH (ja X)=d)=u;let ag:=fun(u:List fO) ↦let a1:=bo u x.toNat j;lH (a1.fst,a1.snd.fst,a1.snd.snd);d<=x/\x<=r->(decide (x<r)=true->d<=x/\x<(↑I.length:Int)/\x.toNat<I.length/\(decide (x=c)=true->d<=x/\x<(↑z.length:Int)/\x.toNat<z.length/\ad/\ac/\ae (-ja Z))/\(decide (x=c)=false->d<=x/\x<(↑z.length:Int)/\x.toNat<z.length/\ag z/\(af true->z18=q.length/\d<=x/\x<(↑q.length:Int)/\z18=q.length/\x.toNat<q.length/\iR .i64 s/\(((e c).same (e c)/\G.same G/\A.same A/\B.same B/\C.same C/\D.same D/\H.same H/\J.same J/\K.same K/\R.same R/\True)/\O.same O/\P.same P/\E.same E/\Q.same Q/\(g sF (q.set x.toNat ab) 70 true).same aa/\True)/\(d<=s/\s<=r)/\(r - s).toNat<(r - x).toNat)/\(af false->d<=x/\x<(↑z.length:Int)/\x.toNat<z.length/\ad/\(ag I/\ac)/\ae (ja ab - ja Z))))/\(decide (x<r)=false->(lH N/\lH a6)/\(lH a7/\lH a8)/\z18=q.length/\(n [a sF q,m [h U.fst,a o U.snd.fst,a o U.snd.snd]]).same a4))) (by kernel_rfl) ?_
 simp only[Zb,tc]
 try simp only[vcs]
 have hfl:=@zx l
 have hfp:=@zx p
 have hel:(RB l c.toNat p).length=l.length:=amc
 have hfe:=@zx (RB l c.toNat p)
 have hA:bo (fL l) c.toNat sF.dflt=cJ (bo l c.toNat 0):=KE (by omega)
 have hzc:=hl _ (nA (d:=0) (show c.toNat<l.length by omega))
 have hcast:∀k:Nat,((k:Nat):Int).toNat=k:=fun k=>Int.toNat_natCast k
 have hag:∀{x y:Rat},x=y->(SV.agg [SV.sb (cJ x).1,SV.row (bD.i IntKind.u32) (cJ x).2.1,SV.row (bD.i IntKind.u32) (cJ x).2.2]).same (SV.agg [SV.sb (cJ y).1,SV.row (bD.i IntKind.u32) (cJ y).2.1,SV.row (bD.i IntKind.u32) (cJ y).2.2]):=by rintro _ _ rfl;rfl
 have hrow:∀{x y:List fO},x=y->(cC.row sF x 70 true).same (cC.row sF y 70 true):=by rintro _ _ rfl;rfl
 simp only[hA,RP,tc,aw1,hcast]
 refine⟨c0,by omega,by omega,se hzc (by omega),fun hz=>⟨by rw[elim_none hz (by omega)],hag (by rw[hz];grind)⟩,fun hz=>⟨by omega,by omega,by omega,by omega,⟨⟨⟨by rw[hfl];rfl,by omega⟩,rfl,hrow (by rw[ajG,hfe,hel,hfl])⟩,by omega,by omega⟩,?_⟩⟩
 rintro j ⟨j0,j1⟩
 have hru:=@ajF (fL (RB l c.toNat p)) j.toNat (false,([],[])) (by omega)
 refine⟨fun hj=>?_,fun hj=>?_⟩
 ·have hP:bo (fL p) j.toNat sF.dflt=cJ (bo p j.toNat 0):=KE (by omega)
  have hL:bo (fL l) j.toNat sF.dflt=cJ (bo l j.toNat 0):=KE (by omega)
  have hzp:=hp _ (nA (d:=0) (show j.toNat<p.length by omega))
  have hzl:=hl _ (nA (d:=0) (show j.toNat<l.length by omega))
  have hE:bo (fL (RB l c.toNat p)) j.toNat (false,([],[]))=cJ (if j.toNat=c.toNat then -(bo l c.toNat 0*bo p j.toNat 0) else bo l j.toNat 0 - bo l c.toNat 0*bo p j.toNat 0):=by
   rw[KE (by omega),amd (by omega)]
  have hm:=ajy hzc hzp
  have tail:(0<=j+1/\j+1<=(l.length:Int))/\((l.length:Int) - (j+1)).toNat<((l.length:Int) - j).toNat:=by omega
  have step:∀{x:fO},x=bo (fL (RB l c.toNat p)) j.toNat (false,([],[]))->(cC.row sF ((xN (fL (RB l c.toNat p)) j.toNat (false,([],[]))).set j.toNat x) 70 true).same (cC.row sF (xN (fL (RB l c.toNat p)) (j+1).toNat (false,([],[]))) 70 true):=fun h=>hrow (by
   rw[ajI (by omega) h,show(j+1).toNat=j.toNat+1 by omega])
  simp only[hP,hL,RP,tc,aw1]
  refine⟨j0,by omega,by omega,fun hjc=>⟨j0,by omega,by omega,⟨se hzc (by omega),se hzp (by omega)⟩,se hm (by omega),by omega,j0,by omega,by omega,by omega,by omega,step ?_,tail⟩,fun hjc=>⟨j0,by omega,by omega,se hzp (by omega),fun hpz=>⟨by omega,j0,by omega,by omega,by omega,by omega,step ?_,tail⟩,fun hpz=>⟨j0,by omega,by omega,⟨se hzc (by omega),se hzp (by omega)⟩,⟨se hzl (by omega),se hm (by omega)⟩,by omega,j0,by omega,by omega,by omega,by omega,step ?_,tail⟩⟩⟩
  ·rw[hE,if_pos (by omega)]
  ·rw[hE,if_neg (by omega),hpz]
   congr 1
   grind
  ·rw[hE,if_neg (by omega)]
 ·rw[show j.toNat=(fL (RB l c.toNat p)).length by omega,ajH]
  exact⟨⟨se hzc (by omega),se hpb (by omega)⟩,⟨se hb (by omega),se (ajy hzc hpb) (by omega)⟩,by omega,rfl,rfl⟩
def r408:ob:=ae9 143 (Int×Int) (.cons (sj .i64) (.one (sj .i64))) (fun n m t a=>(0<=a.1/\a.1<m)/\(0<=a.2/\a.2<n)/\t.cf a.1.toNat a.2.toNat≠0) (fun _ _ _ _=> .eW []) (fun _ _ t a=>zr t a.1.toNat a.2.toNat)
def abT (l:List Rat) (q:Rat):List Rat:=l.map fun x=>x*q
def fC (q:Rat):cC:=.cells [.sb (cJ q).1,.row (.i .u32) (cJ q).2.1,.row (.i .u32) (cJ q).2.2] 70 3 false
def H6 {a:Type} (f g:Nat->a) (n r i:Nat):List a:=(List.range n).map fun k=>if k<i/\k≠r then g k else f k
theorem agm {a:Type} {f g:Nat->a} {n r i:Nat}:(H6 f g n r i).length=n:=by simp[H6]
theorem axi {a:Type} {l:List a} {g:Nat->a} {r:Nat} {d:a}:H6 (fun k=>bo l k d) g l.length r 0=l:=by
 refine List.ext_getElem agm fun i b c=>?_
 grind[H6,bo]
theorem axj {a:Type} {f g:Nat->a} {n r i:Nat} {d:a} (h:i<n):bo (H6 f g n r i) i d=f i:=by
 grind[H6,acZ]
theorem axk {a:Type} {f g:Nat->a} {n r i:Nat} (h:i<n) (d:i≠r):(H6 f g n r i).set i (g i)=H6 f g n r (i+1):=by
 refine List.ext_getElem (by simp[H6]) fun k b c=>?_
 grind[H6]
theorem axl {a:Type} {f g:Nat->a} {n r:Nat}:H6 f g n r (r+1)=H6 f g n r r:=by
 grind[H6]
theorem axm {a:Type} {f g:Nat->a} {n r:Nat} {x:a} (h:r<n):(H6 f g n r n).set r x=(List.range n).map fun k=>if k=r then x else g k:=by
 refine List.ext_getElem (by simp[H6]) fun k b c=>?_
 grind[H6]
theorem axn {l:List (List Rat)} {i:Nat} {x:List Rat}:(fM l).set i (fL x)=fM (l.set i x):=by
 simp_all[fM]
theorem aFr {l:List Rat} {c:Nat} (h:c<l.length):(fL (abT l (1 / bo l c 0))).set c (cJ (1 / bo l c 0))=fL (SL l c):=by
 rw[ahU]
 congr 1
 refine List.ext_getElem (by simp[abT,SL]) fun k d e=>?_
 have b:k<l.length:=by grind[SL]
 rw[List.getElem_set];simp only[abT,SL,List.getElem_map,List.getElem_range]
 by_cases a:c=k
 ·simp_all
 ·rw[if_neg a,if_neg fun h=>a h.symm,jV (i:=k) b]
def Wm (t:Tb) (r c i:Nat):Tb:={t with
 iP:=H6 (fun k=>bo t.iP k []) (fun k=>RB (bo t.iP k []) c (SL (bo t.iP r []) c)) t.iP.length r i
 bound:=H6 t.bd (fun k=>t.bd k - t.cf k c*(t.bd r*(1 / t.cf r c))) t.bound.length r i}
theorem aFs {t:Tb} {r c:Nat}:Wm t r c 0=t:=by
 unfold Wm
 have b:=@axi (List Rat) t.iP (fun k=>RB (bo t.iP k []) c (SL (bo t.iP r []) c)) r []
 have d:=@axi Rat t.bound (fun k=>t.bd k - t.cf k c*(t.bd r*(1 / t.cf r c))) r 0
 have a:H6 t.bd (fun k=>t.bd k - t.cf k c*(t.bd r*(1 / t.cf r c))) t.bound.length r 0=t.bound:=d
 rw[b,a]
def aFt (n m:Int) (t:Tb) (r c:Int):Nat->jW
 |3=> .inv Int (fun j=>⟨[(0,.ptr 0 0 10),(1,.si .i64 r),(2,.si .i64 c),(6,.ptr 5 0 3),(8,.ow 6 n.toNat 3),(41,.row sF (fL (bo t.iP r.toNat []))),(42,.si .i64 n),(43,.si .i64 j)],
   (eK n m t).BE++[fC (1 / t.cf r.toNat c.toNat),.row sF (xN (fL (abT (bo t.iP r.toNat []) (1 / t.cf r.toNat c.toNat))) j.toNat (false,([],[]))) 70 true]⟩)
   (fun s=>iS s 43) (fun j=>0<=j/\j<=n) (fun j=>(n - j).toNat) fun _ _=> .look
 |10=> .inv Int (fun i=>⟨[(0,.ptr 0 0 10),(1,.si .i64 r),(2,.si .i64 c),(8,.row sF (fL (SL (bo t.iP r.toNat []) c.toNat))),(11,.ptr 7 0 3),(72,.si .i64 m),(73,.si .i64 i)],
   (eK n m (Wm t r.toNat c.toNat i.toNat)).BE++[fC (1 / t.cf r.toNat c.toNat),.dead,fC (t.bd r.toNat*(1 / t.cf r.toNat c.toNat))]⟩)
   (fun s=>iS s 73) (fun j=>0<=j/\j<=m) (fun j=>(m - j).toNat) fun _ _=> .look
 |_=> .look
theorem h408:qH Tryz.prog r408:=by
 refine SD (L:=[r94,amh,amg,r417,ajb]) (W:=[]) r408 (fun a=>aFt a.1.n a.1.m a.1.t a.2.1 a.2.2) (by simp) (by simpa using⟨h94,h416,h410,h417,h129⟩) ?_
 rintro⟨x,r,c⟩ ⟨n,m,t,hx,M,⟨r0,r1⟩,⟨c0,c1⟩,ha⟩
 simp only at hx r0 r1 c0 c1 ha
 subst hx
 refine gw (let a:=SV.si .i64;let d:=cC.row;let e:=(0:Int);let f:=SV.row;let g:=SV.ow;let j:=cC.cells;let k:=SV.sb;let y:=(1:Int);let L:=sF.dflt;let M:=SV.il .i64 0;let W:=SV.ptr;let X:=(eK n m t).iP;let a1:=bo X r.toNat sF.fa.dflt;let a4:=cJ (IntCast.intCast y);let ac:=(a4.fst,a4.snd.fst,a4.snd.snd);let aa:=bo a1 c.toNat L;let ab:=(aa.fst,aa.snd.fst,aa.snd.snd);let a0:=(↑(eK n m t).k4:Int);let Y:=W 0 0 10;let a3:=W 5 0 3;let G:=(eK n m t).n;let c2:=g 6 G.toNat 3;let H:=(eK n m t).t;let S:=bo H.iP r.toNat [];let c5:=f sF (fL S);let b3:=a G;let C:=(eK n m t).m;let a8:=a C;let o:=bD.i .u32;let s:=eK G C H;let a6:=j [a s.n,a s.m,g 1 s.k0 1,g 2 s.k1 3,f sF s.cost,k s.v.fst,f o s.v.snd.fst,f o s.v.snd.snd,g 3 s.k3 1,g 4 s.k4 1] 179 10 false;let a5:=d sF.fa s.iP 72 false;let b4:=d sF s.bound 70 false;let A:=bD.i .i64;let a9:=d A s.basic 3 false;let b2:=d A s.free 3 false;let d7:=cJ (ja ac / ja ab);let J:=(1:Rat) / H.cf r.toNat c.toNat;let N:=j [k (cJ J).fst,f o (cJ J).snd.fst,f o (cJ J).snd.snd] 70 3 false;let b0:=(false,[],[]);let d1:=fL (abT S J);let T:=((cJ J).fst,(cJ J).snd.fst,(cJ J).snd.snd);let b5:=s.bound.length;let d8:=bo s.bound r.toNat L;let f4:=(d8.fst,d8.snd.fst,d8.snd.snd);let V:=fL (SL S c.toNat);let c6:=f sF V;let b1:=W 7 0 3;let z:=eK G C (Wm H r.toNat c.toNat 0);let d5:=cJ (ja f4*ja T);let O:=cJ (H.bd r.toNat*J);let d6:=j [k O.fst,f o O.snd.fst,f o O.snd.snd] 70 3 false;let U:=(O.fst,O.snd.fst,O.snd.snd);let B:=eK G C (zr H r.toNat c.toNat);((-9223372036854775808:Int)<=y/\y<=(9223372036854775807:Int))/\(eK n m t).k0=X.length/\e<=r/\r<(↑X.length:Int)/\(eK n m t).k0=X.length/\r.toNat<X.length/\e<=c/\c<(↑a1.length:Int)/\c.toNat<a1.length/\((lH ac/\lH ab)/\ja ab≠(0:Rat))/\e<=a0/\a0<=a0/\a0*(56:Int)<=(140737488355328:Int)/\a0<=(1000000000000:Int)/\(eK n m t).k0=X.length/\e<=r/\r<(↑X.length:Int)/\(eK n m t).k0=X.length/\r.toNat<X.length/\(((Y.same Y/\(a r).same (a r)/\(a c).same (a c)/\a3.same a3/\(g 6 a0.toNat 3).same c2/\(f sF a1).same c5/\(a (↑a1.length:Int)).same b3/\(M).same (a 0)/\True)/\(j [b3,a8,g 1 (eK n m t).k0 1,g 2 (eK n m t).k1 3,f sF (eK n m t).cost,k (eK n m t).v.fst,f o (eK n m t).v.snd.fst,f o (eK n m t).v.snd.snd,g 3 (eK n m t).k3 1,g 4 (eK n m t).k4 1] 179 10 false).same a6/\(d sF.fa X 72 false).same a5/\(d sF (eK n m t).bound 70 false).same b4/\(d A (eK n m t).basic 3 false).same a9/\(d A (eK n m t).free 3 false).same b2/\(j [k d7.fst,f o d7.snd.fst,f o d7.snd.snd] 70 3 false).same N/\(d (bD.b.pair (o.fa.pair o.fa)) (List.replicate a0.toNat b0) 70 true).same (d sF (xN d1 0 b0) 70 true)/\True)/\e<=e/\e<=G)/\∀(x:Int),let d4:=bo (fL S) x.toNat L;let f6:=(d4.fst,d4.snd.fst,d4.snd.snd);let a7:=xN d1 x.toNat b0;let I:=a7.length;let R:=x+y;let e2:=a R;let c9:=cJ (ja f6*ja T);e<=x/\x<=G->(decide (x<G)=true->e<=x/\x<(↑(fL S).length:Int)/\x.toNat<(fL S).length/\(lH f6/\lH T)/\G.toNat=I/\e<=x/\x<(↑I:Int)/\G.toNat=I/\x.toNat<I/\iR .i64 R/\((Y.same Y/\(a r).same (a r)/\(a c).same (a c)/\a3.same a3/\c2.same c2/\c5.same c5/\b3.same b3/\e2.same e2/\True)/\a6.same a6/\a5.same a5/\b4.same b4/\a9.same a9/\b2.same b2/\N.same N/\(d sF (a7.set x.toNat (c9.fst,c9.snd.fst,c9.snd.snd)) 70 true).same (d sF (xN d1 R.toNat b0) 70 true)/\True)/\(e<=R/\R<=G)/\(G - R).toNat<(G - x).toNat)/\(decide (x<G)=false->G.toNat=I/\e<=c/\c<(↑I:Int)/\G.toNat=I/\c.toNat<I/\s.k1=b5/\e<=r/\r<(↑b5:Int)/\s.k1=b5/\r.toNat<b5/\(lH f4/\lH T)/\G.toNat=(a7.set c.toNat T).length/\(((Y.same Y/\(a r).same (a r)/\(a c).same (a c)/\(f sF (a7.set c.toNat T)).same c6/\b1.same b1/\(a (↑s.k0:Int)).same a8/\(M).same (a 0)/\True)/\a6.same (j [a z.n,a z.m,g 1 z.k0 1,g 2 z.k1 3,f sF z.cost,k z.v.fst,f o z.v.snd.fst,f o z.v.snd.snd,g 3 z.k3 1,g 4 z.k4 1] 179 10 false)/\a5.same (d sF.fa z.iP 72 false)/\b4.same (d sF z.bound 70 false)/\a9.same (d A z.basic 3 false)/\b2.same (d A z.free 3 false)/\N.same N/\cC.dead.same cC.dead/\(j [k d5.fst,f o d5.snd.fst,f o d5.snd.snd] 70 3 false).same d6/\True)/\e<=e/\e<=C)/\∀(x:Int),let h:=eK G C (Wm H r.toNat c.toNat x.toNat);let e7:=a h.n;let f2:=a h.m;let f1:=g 1 h.k0 1;let e9:=g 2 h.k1 3;let P:=h.cost;let e0:=[g 3 h.k3 1,g 4 h.k4 1];let Q:=x+y;let w:=eK G C (Wm H r.toNat c.toNat Q.toNat);let F:=h.basic;let e5:=a Q;let a2:=h.iP;let E:=a2.length;let Z:=h.bound;let D:=Z.length;let d3:=bo a2 x.toNat sF.fa.dflt;let c8:=bo Z x.toNat L;let e3:=(c8.fst,c8.snd.fst,c8.snd.snd);let d0:=cJ (ja e3 - bo (vL d3) c.toNat (0:Rat)*ja U);let d9:=(h.v.fst,h.v.snd.fst,h.v.snd.snd);let d2:=bo P c.toNat L;let f0:=(d2.fst,d2.snd.fst,d2.snd.snd);let c7:=cJ (ja f0*ja U);let e6:=(c7.fst,c7.snd.fst,c7.snd.snd);let K:=h.free.length;let c4:=cJ (ja d9+ja e6);let g9:=(j (e7::f2::f1::e9::f sF P::k h.v.fst::f o h.v.snd.fst::f o h.v.snd.snd::e0) 179 10 false).same (j [a w.n,a w.m,g 1 w.k0 1,g 2 w.k1 3,f sF w.cost,k w.v.fst,f o w.v.snd.fst,f o w.v.snd.snd,g 3 w.k3 1,g 4 w.k4 1] 179 10 false);let g4:=(d A F 3 false).same (d A w.basic 3 false)/\(d A h.free 3 false).same (d A w.free 3 false)/\N.same N/\cC.dead.same cC.dead/\d6.same d6/\True;let f3:=fun(u i2:cC) ↦iR .i64 Q/\((Y.same Y/\(a r).same (a r)/\(a c).same (a c)/\c6.same c6/\b1.same b1/\a8.same a8/\e5.same e5/\True)/\g9/\u.same (d sF.fa w.iP 72 false)/\i2.same (d sF w.bound 70 false)/\g4)/\(e<=Q/\Q<=C)/\(C - Q).toNat<(C - x).toNat;e<=x/\x<=C->(decide (x<C)=true->(decide (x≠r)=true->h.k0=E/\e<=x/\x<(↑E:Int)/\h.k0=E/\x.toNat<E/\h.k1=D/\e<=x/\x<(↑D:Int)/\h.k1=D/\x.toNat<D/\(∃(l:List Rat),∃(b:Rat),∃(p:List Rat),∃(pb:Rat),(d3=fL l/\e3=cJ b/\V=fL p/\U=cJ pb)/\(l.length=p.length/\l.length<=1000)/\(e<=c/\c<(↑l.length:Int))/\(∀(q:Rat),q∈l->Sz 10000000 q)/\(∀(q:Rat),q∈p->Sz 10000000 q)/\Sz 10000000 b/\Sz 10000000 pb)/\h.k0=E/\e<=x/\x<(↑E:Int)/\h.k0=E/\x.toNat<E/\h.k1=D/\e<=x/\x<(↑D:Int)/\h.k1=D/\x.toNat<D/\f3 (d sF.fa (a2.set x.toNat (fL (RB (vL d3) c.toNat (vL V)))) 72 false) (d sF (Z.set x.toNat (d0.fst,d0.snd.fst,d0.snd.snd)) 70 false))/\(decide (x≠r)=false->f3 (d sF.fa a2 72 false) (d sF Z 70 false)))/\(decide (x<C)=false->e<=c/\c<(↑P.length:Int)/\c.toNat<P.length/\(∃(l:List Rat),∃(b:Rat),∃(p:List Rat),∃(pb:Rat),(P=fL l/\d9=cJ b/\V=fL p/\U=cJ pb)/\(l.length=p.length/\l.length<=1000)/\(e<=c/\c<(↑l.length:Int))/\(∀(q:Rat),q∈l->Sz 10000000 q)/\(∀(q:Rat),q∈p->Sz 10000000 q)/\Sz 10000000 b/\Sz 10000000 pb)/\(lH f0/\lH U)/\(lH d9/\lH e6)/\h.k0=E/\e<=r/\r<(↑E:Int)/\h.k0=E/\r.toNat<E/\h.k1=D/\e<=r/\r<(↑D:Int)/\h.k1=D/\r.toNat<D/\h.k4=K/\e<=c/\c<(↑K:Int)/\h.k4=K/\c.toNat<K/\h.k3=F.length/\e<=r/\r<(↑F.length:Int)/\h.k3=F.length/\r.toNat<F.length/\h.k3=F.length/\e<=r/\r<(↑F.length:Int)/\h.k3=F.length/\r.toNat<F.length/\h.k4=K/\e<=c/\c<(↑K:Int)/\h.k4=K/\c.toNat<K/\(SV.eW []).same (SV.eW [])/\(j (e7::f2::f1::e9::f sF (fL (RB (vL P) c.toNat (vL V)))::k c4.fst::f o c4.snd.fst::f o c4.snd.snd::e0) 179 10 false).same (j [a B.n,a B.m,g 1 B.k0 1,g 2 B.k1 3,f sF B.cost,k B.v.fst,f o B.v.snd.fst,f o B.v.snd.snd,g 3 B.k3 1,g 4 B.k4 1] 179 10 false)/\(d sF.fa (a2.set r.toNat V) 72 false).same (d sF.fa B.iP 72 false)/\(d sF (Z.set r.toNat U) 70 false).same (d sF B.bound 70 false)/\(d A (F.set r.toNat (bo h.free c.toNat e)) 3 false).same (d A B.basic 3 false)/\(d A (h.free.set c.toNat (bo F r.toNat e)) 3 false).same (d A B.free 3 false)/\True))) (by kernel_rfl) ?_
 conv=>zeta
 try simp only[aem]
 try simp only[eK]
 try simp only[vcs]
 obtain⟨⟨⟨n0,n1⟩,m0,m1⟩,hw,hz⟩:=id M
 have g7:=hw.iP
 have g0:=hw.bound
 have g2:=hw.basic
 have b9:=hw.free
 have i8:=hw.cost
 have j3:=@aqi t.iP
 have i4:=@zx t.bound
 have e1:=hw.row r.toNat (by omega)
 have c3:∀k:Nat,((k:Nat):Int).toNat=k:=fun k=>Int.toNat_natCast k
 have h1:(IntCast.intCast 1:Rat)=1:=rfl
 have hR:bo (fM t.iP) r.toNat sF.fa.dflt=fL (bo t.iP r.toNat []):=aqj (by omega)
 have hA:bo (fL (bo t.iP r.toNat [])) c.toNat sF.dflt=cJ (t.cf r.toNat c.toNat):=KE (by omega)
 have hB:bo (fL t.bound) r.toNat sF.dflt=cJ (t.bd r.toNat):=KE (by omega)
 simp only[hR,hA,hB,RP,tc,c3,h1]
 have f7:=M.cf (i:=r.toNat) (j:=c.toNat) (by omega) (by omega)
 have e8:=M.bd (i:=r.toNat) (by omega)
 have s1:Sz 1 (1:Rat):=by unfold Sz;decide
 have a1:=aqh s1 f7 ha
 have a3:=ajy e8 a1
 have j4:=@zx (bo t.iP r.toNat [])
 have f8:(abT (bo t.iP r.toNat []) (1 / t.cf r.toNat c.toNat)).length=n.toNat:=by unfold abT;rw[List.length_map];exact e1
 have g3:=@zx (abT (bo t.iP r.toNat []) (1 / t.cf r.toNat c.toNat))
 have b8:∀{x y:List fO},x=y->(cC.row sF x 70 true).same (cC.row sF y 70 true):=by rintro _ _ rfl;rfl
 refine⟨by omega,by omega,r0,by omega,by omega,by omega,c0,by omega,by omega,⟨⟨se s1 (by omega),se f7 (by omega)⟩,ha⟩,by omega,by omega,by omega,by omega,by omega,r0,by omega,by omega,by omega,⟨⟨⟨by rw[b9];rfl,trivial,by omega⟩,rfl,b8 (by rw[ajG,g3,f8,b9])⟩,by omega,by omega⟩,?_⟩
 rintro j ⟨j0,j1⟩
 have i9:=@ajF (fL (abT (bo t.iP r.toNat []) (1 / t.cf r.toNat c.toNat))) j.toNat (false,([],[])) (by omega)
 refine⟨fun hj=>?_,fun hj=>?_⟩
 ·have hL:bo (fL (bo t.iP r.toNat [])) j.toNat sF.dflt=cJ (t.cf r.toNat j.toNat):=KE (by omega)
  have hS:bo (fL (abT (bo t.iP r.toNat []) (1 / t.cf r.toNat c.toNat))) j.toNat (false,([],[]))=cJ (t.cf r.toNat j.toNat*(1 / t.cf r.toNat c.toNat)):=by
   rw[KE (by omega),jV (by omega)]
   unfold abT Tb.cf
   rw[List.getElem_map,jV (l:=bo t.iP r.toNat []) (i:=j.toNat) (by omega)]
  simp only[hL,tc]
  refine⟨j0,by omega,by omega,⟨se (M.cf (by omega) (by omega)) (by omega),se a1 (by omega)⟩,by omega,j0,by omega,by omega,by omega,by omega,b8 ?_,by omega,by omega⟩
  rw[ajI (by omega) hS.symm,show(j+1).toNat=j.toNat+1 by omega]
 ·have e4:(xN (fL (abT (bo t.iP r.toNat []) (1 / t.cf r.toNat c.toNat))) j.toNat (false,([],[]))).set c.toNat (cJ (1 / t.cf r.toNat c.toNat))=fL (SL (bo t.iP r.toNat []) c.toNat):=by
   rw[show j.toNat=(fL (abT (bo t.iP r.toNat []) (1 / t.cf r.toNat c.toNat))).length by omega,ajH]
   exact aFr (by omega)
  have i7:(SL (bo t.iP r.toNat []) c.toNat).length=n.toNat:=by rw[awH];exact e1
  have i5:=@zx (SL (bo t.iP r.toNat []) c.toNat)
  simp only[e4,aFs]
  have b7:∀q∈SL (bo t.iP r.toNat []) c.toNat,Sz 10000000 q:=fun q hq=>by
   obtain⟨k,hk,rfl⟩:=List.mem_map.1 hq
   rw[List.mem_range] at hk;split
   ·exact a1.mono (by omega)
   ·exact(ajy (M.cf (i:=r.toNat) (j:=k) (by omega) (by omega)) a1).mono (by omega)
  refine⟨by omega,c0,by omega,by omega,by omega,by omega,r0,by omega,by omega,by omega,⟨se e8 (by omega),se a1 (by omega)⟩,by omega,⟨⟨⟨trivial,by omega⟩,rfl,rfl,rfl,rfl,rfl,rfl⟩,by omega,by omega⟩,?_⟩
  rintro i ⟨i0,i1⟩
  have h0:(Wm t r.toNat c.toNat i.toNat).iP.length=m.toNat:=by show(H6 _ _ _ _ _).length=_;rw[agm];exact g7
  have h9:(Wm t r.toNat c.toNat i.toNat).bound.length=m.toNat:=by show(H6 _ _ _ _ _).length=_;rw[agm];exact g0
  have j2:=@aqi (Wm t r.toNat c.toNat i.toNat).iP
  have i3:=@zx (Wm t r.toNat c.toNat i.toNat).bound
  have i6:=@zx t.cost
  have a4:∀{a b:Tb},a.iP.length=b.iP.length->a.bound.length=b.bound.length->a.cost=b.cost->a.value=b.value->a.basic.length=b.basic.length->a.free.length=b.free.length->
    (cC.cells [.si .i64 n,.si .i64 m,.ow 1 a.iP.length 1,.ow 2 a.bound.length 3,.row sF (fL a.cost),.sb (cJ a.value).1,.row (.i .u32) (cJ a.value).2.1,.row (.i .u32) (cJ a.value).2.2,.ow 3 a.basic.length 1,.ow 4 a.free.length 1] 179 10 false).same
    (cC.cells [.si .i64 n,.si .i64 m,.ow 1 b.iP.length 1,.ow 2 b.bound.length 3,.row sF (fL b.cost),.sb (cJ b.value).1,.row (.i .u32) (cJ b.value).2.1,.row (.i .u32) (cJ b.value).2.2,.ow 3 b.basic.length 1,.ow 4 b.free.length 1] 179 10 false):=fun h1 h2 h3 h4 h5 h6=>by
   rw[h1,h2,h3,h4,h5,h6];rfl
  have a0:∀{x y:List (List fO)},x=y->(cC.row sF.fa x 72 false).same (cC.row sF.fa y 72 false):=by rintro _ _ rfl;rfl
  have Y:∀{x y:List fO},x=y->(cC.row sF x 70 false).same (cC.row sF y 70 false):=by rintro _ _ rfl;rfl
  have X:∀{x y:List Int},x=y->(cC.row (.i .i64) x 3 false).same (cC.row (.i .i64) y 3 false):=by rintro _ _ rfl;rfl
  refine⟨fun hi=>⟨fun g5=>?_,fun g5=>?_⟩,fun hi=>?_⟩
  ·have g1:bo (fM (Wm t r.toNat c.toNat i.toNat).iP) i.toNat sF.fa.dflt=fL (bo t.iP i.toNat []):=by
    rw[aqj (by omega)]
    congr 1
    exact axj (by omega)
   have g8:bo (fL (Wm t r.toNat c.toNat i.toNat).bound) i.toNat sF.dflt=cJ (t.bd i.toNat):=by
    rw[KE (by omega)]
    congr 1
    exact axj (by omega)
   have j5:=hw.row i.toNat (by omega)
   simp only[g1,g8,Zb,tc]
   refine⟨by omega,i0,by omega,by omega,by omega,by omega,i0,by omega,by omega,by omega,⟨bo t.iP i.toNat [],t.bd i.toNat,SL (bo t.iP r.toNat []) c.toNat,t.bd r.toNat*(1 / t.cf r.toNat c.toNat),⟨rfl,rfl,rfl,rfl⟩,⟨by omega,by omega⟩,⟨c0,by omega⟩,fun q hq=>?_,b7,(M.bd (by omega)).mono (by omega),a3.mono (by omega)⟩,by omega,i0,by omega,by omega,by omega,by omega,i0,by omega,by omega,by omega,by omega,⟨a4 ?_ ?_ rfl rfl rfl rfl,a0 ?_,Y ?_,rfl,rfl⟩,by omega,by omega⟩
   ·exact(hz.1 _ (nA (d:=[]) (by omega)) q hq).mono (by omega)
   ·show(H6 _ _ _ _ _).length=(H6 _ _ _ _ _).length
    rw[agm,agm]
   ·show(H6 _ _ _ _ _).length=(H6 _ _ _ _ _).length
    rw[agm,agm]
   ·rw[axn,show(i+1).toNat=i.toNat+1 by omega]
    congr 1
    exact axk (by omega) (by omega)
   ·rw[ahU,show(i+1).toNat=i.toNat+1 by omega]
    congr 1
    exact axk (f:=t.bd) (g:=fun k=>t.bd k - t.cf k c.toNat*(t.bd r.toNat*(1 / t.cf r.toNat c.toNat))) (by omega) (by omega)
  ·have e:Wm t r.toNat c.toNat (i+1).toNat=Wm t r.toNat c.toNat i.toNat:=by
    rw[show(i+1).toNat=r.toNat+1 by omega,show i.toNat=r.toNat by omega]
    unfold Wm;rw[axl,axl]
   rw[e]
   exact⟨by omega,⟨rfl,rfl,rfl,rfl,rfl⟩,by omega,by omega⟩
  ·have f5:=M.cs (j:=c.toNat) (by omega)
   have hC:bo (fL t.cost) c.toNat sF.dflt=cJ (t.cs c.toNat):=KE (by omega)
   have h8:(Wm t r.toNat c.toNat i.toNat).cost=t.cost:=rfl
   have g6:(Wm t r.toNat c.toNat i.toNat).value=t.value:=rfl
   have f9:(Wm t r.toNat c.toNat i.toNat).free=t.free:=rfl
   have h7:(Wm t r.toNat c.toNat i.toNat).basic=t.basic:=rfl
   simp only[hC,h8,g6,f9,h7,Zb,tc]
   refine⟨c0,by omega,by omega,⟨t.cost,t.value,SL (bo t.iP r.toNat []) c.toNat,t.bd r.toNat*(1 / t.cf r.toNat c.toNat),⟨rfl,rfl,rfl,rfl⟩,⟨by omega,by omega⟩,⟨c0,by omega⟩,fun q hq=>(hz.2.2.1 q hq).mono (by omega),b7,hz.2.2.2.mono (by omega),a3.mono (by omega)⟩,⟨se f5 (by omega),se a3 (by omega)⟩,⟨se hz.2.2.2 (by omega),se (ajy f5 a3) (by omega)⟩,
    by omega,r0,by omega,by omega,by omega,by omega,r0,by omega,by omega,by omega,c0,by omega,by omega,r0,by omega,by omega,r0,by omega,by omega,c0,by omega,by omega,?_,a0 ?_,Y ?_,X rfl,X rfl⟩
   ·have b6:=awI (r:=r.toNat) (c:=c.toNat) hw
    rw[h0,h9,g2,b9,b6.iP,b6.bound,b6.basic,b6.free];rfl
   ·rw[axn,show i.toNat=t.iP.length by omega]
    congr 1
    exact axm (by omega)
   ·rw[ahU,show i.toNat=t.bound.length by omega]
    congr 1
    exact axm (by omega)
def okO (n m:Nat) (t:Tb):Prop:=∃a M G,Small n m M G a/\Run n m a t/\RN m t
theorem aFu {n m:Nat} {t:Tb} (h:okO n m t):uy n m (afa n m t) t=true:=by
 obtain⟨e,M,G,c,b,a⟩:=h
 have d:=aqe b a
 unfold afa
 grind
noncomputable def aqu:ob:=ae9 104 Unit .nil (fun n m t _=>okO n.toNat m.toNat t) (fun n m t _=> .eW [.si .i64 (if sx (lastT n.toNat m.toNat t) n.toNat<0 then 0 else sx (lastT n.toNat m.toNat t) n.toNat),.sb (decide (sx (lastT n.toNat m.toNat t) n.toNat<0))]) (fun n m t _=>lastT n.toNat m.toNat t)
def tS (t:Tb) (s:iz):Tb:=match ami s.o with
 |some x=>x.t
 |none=>t
noncomputable def aFv (n m:Int) (t:Tb):Nat->jW
 |1=> .inv Tb (fun x=>⟨[(0,.ptr 0 0 10)],(eK n m x).BE⟩) (tS t) (fun x=>okO n.toNat m.toNat x/\lastT n.toNat m.toNat x=lastT n.toNat m.toNat t/\uy n.toNat m.toNat (afa n.toNat m.toNat t) x=true) (fun x=>ahP n.toNat m.toNat (afa n.toNat m.toNat t) x) fun _ _=> .look
 |_=> .look
theorem aFw {n m:Int} {t:Tb} (h:okO n.toNat m.toNat t) (e:0<=n/\n<=1000) (f:0<=m/\m<=1000):SQ n m t:=by
 obtain⟨c,M,G,a,b,d⟩:=h
 grind[aw6]
theorem h402:qH Tryz.prog aqu:=by
 refine SD (L:=[]) (W:=[aql,aqm,r408]) aqu (fun a=>aFv a.1.n a.1.m a.1.t) (by grind[h411,h412,h408]) (by simp) ?_
 rintro⟨x,u⟩ ⟨n,m,t,U,a6,hd⟩
 simp only at U hd
 subst U
 refine gw (let a:=cC.row;let c:=SV.si .i64;let e:=SV.ow;let p:=SV.row;let r:=cC.cells;let y:=(0:Int);let C:=SV.sb;let G:=SV.eW;let I:=SV.ptr 0 0 10;let H:=(eK n m t).n;let F:=(eK n m t).m;let z:=bD.i .u32;let S:=(eK n m t).t;let q:=eK H F S;let s:=bD.i .i64;let o:=H.toNat;let w:=F.toNat;let D:=lastT o w S;let B:=afa o w S;let V:=G [c (if sx D o<y then y else sx D o),C (decide (sx D o<y))];let d:=eK H F D;let N:=r [c d.n,c d.m,e 1 d.k0 1,e 2 d.k1 3,p sF d.cost,C d.v.fst,p z d.v.snd.fst,p z d.v.snd.snd,e 3 d.k3 1,e 4 d.k4 1] 179 10 false;let Z:=a sF.fa d.iP 72 false;let Y:=a sF d.bound 70 false;let O:=a s d.basic 3 false;let T:=a s d.free 3 false;(((I.same I/\True)/\(r [c H,c F,e 1 (eK n m t).k0 1,e 2 (eK n m t).k1 3,p sF (eK n m t).cost,C (eK n m t).v.fst,p z (eK n m t).v.snd.fst,p z (eK n m t).v.snd.snd,e 3 (eK n m t).k3 1,e 4 (eK n m t).k4 1] 179 10 false).same (r [c q.n,c q.m,e 1 q.k0 1,e 2 q.k1 3,p sF q.cost,C q.v.fst,p z q.v.snd.fst,p z q.v.snd.snd,e 3 q.k3 1,e 4 q.k4 1] 179 10 false)/\(a sF.fa (eK n m t).iP 72 false).same (a sF.fa q.iP 72 false)/\(a sF (eK n m t).bound 70 false).same (a sF q.bound 70 false)/\(a s (eK n m t).basic 3 false).same (a s q.basic 3 false)/\(a s (eK n m t).free 3 false).same (a s q.free 3 false)/\True)/\okO o w S/\D=D/\uy o w B S=true)/\∀(x:Tb),let k:=eK H F x;let j:=sx k.t k.n.toNat;let K:=decide (j<y);let b:=eK k.n k.m k.t;let A:=q9 b.t j.toNat b.m.toNat;let Q:=decide (A<y);let l:=eK b.n b.m b.t;let a0:=zr l.t A.toNat j.toNat;let h:=eK l.n l.m a0;let f:=eK H F h.t;let X:=fun(u a1:Int) (a4 a5:Tb) (a3:cC) ↦let E:=eK u a1 a4;let R:=eK E.n E.m E.t;let g:=eK R.n R.m a5;(r [c g.n,c g.m,e 1 g.k0 1,e 2 g.k1 3,p sF g.cost,C g.v.fst,p z g.v.snd.fst,p z g.v.snd.snd,e 3 g.k3 1,e 4 g.k4 1] 179 10 false).same a3;okO o w x/\lastT o w x=D/\uy o w B x=true->(∃(n:Int),∃(m:Int),∃(t:Tb),k=eK n m t/\SQ n m t/\True)/\(K=true->(G [SV.il .i64 0,SV.bl true]).same V/\(r [c b.n,c b.m,e 1 b.k0 1,e 2 b.k1 3,p sF b.cost,C b.v.fst,p z b.v.snd.fst,p z b.v.snd.snd,e 3 b.k3 1,e 4 b.k4 1] 179 10 false).same N/\(a sF.fa b.iP 72 false).same Z/\(a sF b.bound 70 false).same Y/\(a s b.basic 3 false).same O/\(a s b.free 3 false).same T/\True)/\(K=false->(∃(n:Int),∃(m:Int),∃(t:Tb),b=eK n m t/\SQ n m t/\y<=j/\j<n)/\(Q=true->(G [c j,SV.bl false]).same V/\X H F x b.t N/\(a sF.fa l.iP 72 false).same Z/\(a sF l.bound 70 false).same Y/\(a s l.basic 3 false).same O/\(a s l.free 3 false).same T/\True)/\(Q=false->(∃(n:Int),∃(m:Int),∃(t:Tb),l=eK n m t/\SQ n m t/\(y<=A/\A<m)/\(y<=j/\j<n)/\t.cf A.toNat j.toNat≠(0:Rat))/\0=0/\((I.same I/\True)/\X k.n k.m k.t a0 (r [c f.n,c f.m,e 1 f.k0 1,e 2 f.k1 3,p sF f.cost,C f.v.fst,p z f.v.snd.fst,p z f.v.snd.snd,e 3 f.k3 1,e 4 f.k4 1] 179 10 false)/\(a sF.fa h.iP 72 false).same (a sF.fa f.iP 72 false)/\(a sF h.bound 70 false).same (a sF f.bound 70 false)/\(a s h.basic 3 false).same (a s f.basic 3 false)/\(a s h.free 3 false).same (a s f.free 3 false)/\True)/\(okO o w h.t/\lastT o w h.t=D/\uy o w B h.t=true)/\ahP o w B h.t<ahP o w B x))) (by kernel_rfl) ?_
 simp only[aFd,aem,awZ,aw0]
 try simp only[vcs]
 obtain⟨⟨hn,hm⟩,hw,hz⟩:=id a6
 refine⟨⟨hd,aFu hd⟩,?_⟩
 rintro x ⟨U,hl,he⟩
 have p:=aFw U hn hm
 have C:stepT n.toNat m.toNat x=if sx x n.toNat<0 then none else if q9 x (sx x n.toNat).toNat m.toNat<0 then none else some (zr x (q9 x (sx x n.toNat).toNat m.toNat).toNat (sx x n.toNat).toNat):=rfl
 have a8:=p.2.1
 have a9:∀{y:Tb},y=lastT n.toNat m.toNat t->eK n m y=eK n m (lastT n.toNat m.toNat t):=by simp_all
 refine⟨⟨n,m,x,rfl,p⟩,fun J=>?_,fun J=>?_⟩
 ·rw[if_pos J] at C
  have e:=axb C
  rw[hl] at e;rw[<-e] at J ⊢;rw[if_pos J,decide_eq_true J]
  exact⟨⟨rfl,rfl⟩,rfl,rfl,rfl,rfl,rfl⟩
 ·have I:¬sx x n.toNat<0:=J
  rw[if_neg I] at C
  rcases @agi x n.toNat with⟨e1,e2⟩|⟨c,e1,e2,e3,e4⟩
  ·omega
  ·refine⟨⟨n,m,x,rfl,p,by omega,by omega⟩,fun h1=>?_,fun h1=>?_⟩
   ·rw[if_pos h1] at C
    have e:=axb C
    rw[hl] at e;rw[e,if_neg I,decide_eq_false I]
    exact⟨⟨rfl,rfl⟩,rfl,rfl,rfl,rfl,rfl⟩
   ·have a7:¬q9 x (sx x n.toNat).toNat m.toNat<0:=h1
    rw[if_neg a7] at C
    rcases @agj x (sx x n.toNat).toNat m.toNat with⟨l1,l2⟩|⟨r,l1,l2,l3,l4⟩
    ·omega
    ·refine⟨⟨n,m,x,rfl,p,⟨by omega,by omega⟩,⟨by omega,by omega⟩,?_⟩,?_⟩
     ·grind
     ·obtain⟨t0,M,G,g1,g2,g3⟩:=U
      have P:=aqc g2 g3 C
      have a2:=aqe g2 g3
      refine⟨⟨⟨t0,M,G,g1,P.1,P.2⟩,?_,awV he C⟩,left_step he C⟩
      grind[aFk]
def AQ (t:Tb) (n:Nat):Nat->List Rat
 |0=>List.replicate n 0
 |k+1=>if t.bv k<n then(AQ t n k).set (t.bv k).toNat (t.bd k) else AQ t n k
def SS (t:Tb) (n m:Nat):Nat->List Rat
 |0=>List.replicate m 0
 |k+1=>if(n:Int)<=t.fv k/\t.fv k<n+m then(SS t n m k).set (t.fv k - n).toNat (-(t.cs k)) else SS t n m k
theorem amq {t:Tb} {n:Nat}:∀{k:Nat},(AQ t n k).length=n
 |0=>by simp[AQ]
 |k+1=>by
  have:=@amq t n k
  grind[AQ]
theorem axo {t:Tb} {n m:Nat}:∀{k:Nat},(SS t n m k).length=m
 |0=>by simp[SS]
 |k+1=>by
  have:=@axo t n m k
  grind[SS]
def amr:ob:=ae9 105 Unit .nil (fun _ _ t _=>∀v∈t.basic,0<=v) (fun n m t _=> .row sF (fL (AQ t n.toNat m.toNat))) (fun _ _ t _=>t)
def aFx (n m:Int) (t:Tb):Nat->jW
 |3=> .inv Int (fun i=>⟨[(0,.ptr 0 0 10),(3,.ow 5 n.toNat 3),(14,.ow 3 t.basic.length 1),(15,.si .i64 t.basic.length),(16,.si .i64 i)],(eK n m t).BE++[.row sF (fL (AQ t n.toNat i.toNat)) 70 false]⟩)
   (fun s=>iS s 16) (fun i=>0<=i/\i<=m) (fun i=>(m - i).toNat) fun _ _=> .look
 |_=> .look
theorem h403:qH Tryz.prog amr:=by
 refine SD (L:=[]) (W:=[r413]) amr (fun a=>aFx a.1.n a.1.m a.1.t) (by grind[h413]) (by simp) ?_
 rintro⟨x,u⟩ ⟨n,m,t,U,O,V⟩
 simp only at U V
 subst U
 refine gw (let a:=cC.row;let h:=SV.si .i64;let k:=(0:Int);let y:=SV.row;let K:=SV.ow;let F:=(eK n m t).n;let J:=SV.ptr 0 0 10;let r:=F.toNat;let I:=K 5 r 3;let S:=K 3 (eK n m t).k3 1;let B:=(eK n m t).t;let D:=B.basic.length;let M:=K 3 D 1;let Q:=h (↑D:Int);let z:=(eK n m t).m;let s:=bD.i .u32;let b:=eK F z B;let p:=cC.cells [h b.n,h b.m,K 1 b.k0 1,K 2 b.k1 3,y sF b.cost,SV.sb b.v.fst,y s b.v.snd.fst,y s b.v.snd.snd,K 3 b.k3 1,K 4 b.k4 1] 179 10 false;let f:=a sF.fa b.iP 72 false;let g:=a sF b.bound 70 false;let w:=bD.i .i64;let d:=b.basic;let j:=a w d 3 false;let o:=a w b.free 3 false;let q:=b.bound.length;(k<=F/\F<=(1000:Int))/\(((J.same J/\I.same I/\S.same M/\(h (↑(eK n m t).k3:Int)).same Q/\(SV.il .i64 0).same (h 0)/\True)/\(cC.cells [h F,h z,K 1 (eK n m t).k0 1,K 2 (eK n m t).k1 3,y sF (eK n m t).cost,SV.sb (eK n m t).v.fst,y s (eK n m t).v.snd.fst,y s (eK n m t).v.snd.snd,S,K 4 (eK n m t).k4 1] 179 10 false).same p/\(a sF.fa (eK n m t).iP 72 false).same f/\(a sF (eK n m t).bound 70 false).same g/\(a w (eK n m t).basic 3 false).same j/\(a w (eK n m t).free 3 false).same o/\(a sF (fL (List.replicate r (0:Rat))) 70 false).same (a sF (fL (AQ B r 0)) 70 false)/\True)/\k<=k/\k<=z)/\∀(x:Int),let e:=x+(1:Int);let H:=h e;let C:=decide (x<(↑D:Int));let l:=bo d x.toNat k;let E:=decide (l<b.n);let c:=fL (AQ B r x.toNat);let A:=bo b.bound x.toNat sF.dflt;let G:=fun(u:cC) ↦iR .i64 e/\((J.same J/\I.same I/\M.same M/\Q.same Q/\H.same H/\True)/\p.same p/\f.same f/\g.same g/\j.same j/\o.same o/\u.same (a sF (fL (AQ B r e.toNat)) 70 false)/\True)/\(k<=e/\e<=z)/\(z - e).toNat<(z - x).toNat;k<=x/\x<=z->(C=true->D=d.length/\k<=x/\x<(↑d.length:Int)/\D=d.length/\x.toNat<d.length/\(E=true->b.k1=q/\k<=x/\x<(↑q:Int)/\b.k1=q/\x.toNat<q/\r=c.length/\k<=l/\l<(↑c.length:Int)/\r=c.length/\l.toNat<c.length/\G (a sF (c.set l.toNat (A.fst,A.snd.fst,A.snd.snd)) 70 false))/\(E=false->G (a sF c 70 false)))/\(C=false->r=c.length/\(y sF c).same (y sF (fL (AQ B r z.toNat)))/\p.same p/\f.same f/\g.same g/\j.same j/\o.same o/\True)) (by kernel_rfl) ?_
 simp only[aem]
 try simp only[eK]
 simp only[vcs]
 obtain⟨⟨⟨Z,n1⟩,m0,m1⟩,N,hz⟩:=id O
 have a1:=N.basic
 have Y:=N.bound
 have a0:=@zx t.bound
 have K:∀k:Nat,bo t.basic k 0=t.bv k:=fun k=>rfl
 have h:∀{x y:List fO},x=y->(cC.row sF x 70 false).same (cC.row sF y 70 false):=by rintro _ _ rfl;rfl
 refine⟨⟨Z,n1⟩,⟨h rfl,by omega,by omega⟩,?_⟩
 rintro i ⟨T,i1⟩
 have a2:=@amq t n.toNat i.toNat
 have a3:=@zx (AQ t n.toNat i.toNat)
 refine⟨fun R=>?_,fun R=>⟨by omega,by grind⟩⟩
 have hv:=V _ (ajx N (show i.toNat<m.toNat by omega))
 have X:bo (fL t.bound) i.toNat sF.dflt=cJ (t.bd i.toNat):=KE (by omega)
 have hs:AQ t n.toNat (i+1).toNat=if t.bv i.toNat<n.toNat then(AQ t n.toNat i.toNat).set (t.bv i.toNat).toNat (t.bd i.toNat) else AQ t n.toNat i.toNat:=by
  rw[show(i+1).toNat=i.toNat+1 by omega]
  rfl
 simp only[K,X,RP,hs]
 refine⟨T,R,by omega,fun P=>⟨by omega,T,by omega,by omega,by omega,by omega,hv,by omega,by omega,by omega,by omega,h ?_,by omega,by omega⟩,fun P=>⟨by omega,h ?_,by omega,by omega⟩⟩
 ·rw[ahU,if_pos (by omega)]
 grind
def ams:ob:=ae9 107 Unit .nil (fun _ _ t _=>True) (fun n m t _=> .row sF (fL (SS t n.toNat m.toNat n.toNat))) (fun _ _ t _=>t)
def aFy (n m:Int) (t:Tb):Nat->jW
 |3=> .inv Int (fun i=>⟨[(0,.ptr 0 0 10),(3,.ow 5 m.toNat 3),(14,.ow 4 t.free.length 1),(15,.si .i64 t.free.length),(16,.si .i64 i)],(eK n m t).BE++[.row sF (fL (SS t n.toNat m.toNat i.toNat)) 70 false]⟩)
   (fun s=>iS s 16) (fun i=>0<=i/\i<=n) (fun i=>(n - i).toNat) fun _ _=> .look
 |_=> .look
theorem h405:qH Tryz.prog ams:=by
 refine SD (L:=[ahv]) (W:=[r413]) ams (fun a=>aFy a.1.n a.1.m a.1.t) (by grind[h413]) (by grind[h130]) ?_
 rintro⟨x,u⟩ ⟨n,m,t,Z,I,hd⟩
 simp only at Z hd
 subst Z
 refine gw (let a:=cC.row;let k:=SV.si .i64;let l:=(0:Int);let u:=SV.row;let y:=SV.ow;let I:=iR .i64;let H:=(eK n m t).m;let G:=SV.ptr 0 0 10;let s:=H.toNat;let F:=y 5 s 3;let V:=y 4 (eK n m t).k4 1;let E:=(eK n m t).t;let M:=E.free.length;let P:=y 4 M 1;let O:=k (↑M:Int);let q:=(eK n m t).n;let z:=bD.i .u32;let b:=eK q H E;let j:=cC.cells [k b.n,k b.m,y 1 b.k0 1,y 2 b.k1 3,u sF b.cost,SV.sb b.v.fst,u z b.v.snd.fst,u z b.v.snd.snd,y 3 b.k3 1,y 4 b.k4 1] 179 10 false;let e:=a sF.fa b.iP 72 false;let g:=a sF b.bound 70 false;let A:=bD.i .i64;let h:=a A b.basic 3 false;let o:=b.free;let f:=a A o 3 false;let r:=q.toNat;(l<=H/\H<=(1000:Int))/\(((G.same G/\F.same F/\V.same P/\(k (↑(eK n m t).k4:Int)).same O/\(SV.il .i64 0).same (k 0)/\True)/\(cC.cells [k q,k H,y 1 (eK n m t).k0 1,y 2 (eK n m t).k1 3,u sF (eK n m t).cost,SV.sb (eK n m t).v.fst,u z (eK n m t).v.snd.fst,u z (eK n m t).v.snd.snd,y 3 (eK n m t).k3 1,V] 179 10 false).same j/\(a sF.fa (eK n m t).iP 72 false).same e/\(a sF (eK n m t).bound 70 false).same g/\(a A (eK n m t).basic 3 false).same h/\(a A (eK n m t).free 3 false).same f/\(a sF (fL (List.replicate s (0:Rat))) 70 false).same (a sF (fL (SS E r s 0)) 70 false)/\True)/\l<=l/\l<=q)/\∀(x:Int),let c:=x+(1:Int);let w:=k c;let d:=fL (SS E r s x.toNat);let K:=a sF (fL (SS E r s c.toNat)) 70 false;let N:=decide (x<(↑M:Int));let C:=bo o x.toNat l;let S:=decide (b.n<=C);let R:=decide (C<b.n+b.m);let p:=C - b.n;let B:=bo b.cost x.toNat sF.dflt;let D:=(B.fst,B.snd.fst,B.snd.snd);let J:=(cJ (-ja D)).snd;let Q:=I c/\((G.same G/\F.same F/\P.same P/\O.same O/\w.same w/\True)/\j.same j/\e.same e/\g.same g/\h.same h/\f.same f/\(a sF d 70 false).same K/\True)/\(l<=c/\c<=q)/\(q - c).toNat<(q - x).toNat;l<=x/\x<=q->(N=true->M=o.length/\l<=x/\x<(↑o.length:Int)/\M=o.length/\x.toNat<o.length/\(S=true->I (b.n+b.m)/\(R=true->I p/\l<=x/\x<(↑b.cost.length:Int)/\x.toNat<b.cost.length/\lH D/\s=d.length/\l<=p/\p<(↑d.length:Int)/\s=d.length/\p.toNat<d.length/\I c/\((G.same G/\F.same F/\P.same P/\O.same O/\w.same w/\True)/\j.same j/\e.same e/\g.same g/\h.same h/\f.same f/\(a sF (d.set p.toNat ((cJ (-ja D)).fst,J.fst,J.snd)) 70 false).same K/\True)/\(l<=c/\c<=q)/\(q - c).toNat<(q - x).toNat)/\(R=false->Q))/\(S=false->Q))/\(N=false->s=d.length/\(u sF d).same (u sF (fL (SS E r s r)))/\j.same j/\e.same e/\g.same g/\h.same h/\f.same f/\True)) (by kernel_rfl) ?_
 simp only[aem]
 try simp only[eK]
 simp only[vcs]
 obtain⟨⟨⟨n0,n1⟩,m0,m1⟩,X,hz⟩:=id I
 have a0:=X.free
 have a4:=X.cost
 have a1:=@zx t.cost
 have T:∀k:Nat,bo t.free k 0=t.fv k:=fun k=>rfl
 have l:∀{x y:List fO},x=y->(cC.row sF x 70 false).same (cC.row sF y 70 false):=by rintro _ _ rfl;rfl
 refine⟨⟨m0,m1⟩,⟨l rfl,by omega,by omega⟩,?_⟩
 rintro i ⟨Y,i1⟩
 have a3:=@axo t n.toNat m.toNat i.toNat
 have a2:=@zx (SS t n.toNat m.toNat i.toNat)
 refine⟨fun U=>?_,fun U=>⟨by omega,by grind⟩⟩
 have hC:bo (fL t.cost) i.toNat sF.dflt=cJ (t.cs i.toNat):=KE (by omega)
 have hs:SS t n.toNat m.toNat (i+1).toNat=if(n.toNat:Int)<=t.fv i.toNat/\t.fv i.toNat<n.toNat+m.toNat then(SS t n.toNat m.toNat i.toNat).set (t.fv i.toNat - n.toNat).toNat (-(t.cs i.toNat)) else SS t n.toNat m.toNat i.toNat:=by
  rw[show(i+1).toNat=i.toNat+1 by omega]
  rfl
 simp only[T,hC,RP,hs,tc]
 refine⟨Y,U,by omega,fun h1=>⟨by omega,fun h2=>⟨by omega,Y,by omega,by omega,se (I.cs (by omega)) (by omega),by omega,by omega,by omega,by omega,by omega,by omega,l ?_,by omega,by omega⟩,fun h2=>⟨by omega,l ?_,by omega,by omega⟩⟩,fun h1=>⟨by omega,l ?_,by omega,by omega⟩⟩
 ·rw[ahU,if_pos (by omega),show(n.toNat:Int)=n by omega]
 all_goals grind
@[reducible] def sR:bD:=.pair (.fa sF) sF
abbrev Prg:=List fO×List (List fO×fO)
def ahV:Cod Prg where
 put a:=.agg [.row sF a.1,.row sR a.2]
 dec
  | .agg [r,v]=>match J6 sF r,J6 sR v with
   |some c,some v=>some (c,v)
   |_,_=>none
  |_=>none
 ok v a h:=by
  grind[SV.g,gL,abH]
 inj a b h:=by
  obtain⟨c,v⟩:=a
  obtain⟨f,i⟩:=b
  simp only[SV.g,gL,AV.agg.injEq,List.cons.injEq,and_true,AV.sl.injEq] at h
  have e:=Yg sF h.1.1 h.1.2
  have d:=Yg sR h.2.1 h.2.2
  rw[e,d]
def aav (x:fO):Prop:=(df x.2.1/\df x.2.2)/\x.2.1.length<=1000000/\x.2.2.length<=1000000
def aqv:fN:=⟨142,List fO,.one (qX sF),fun l=>(show List fO from l).length<=1000/\∀x∈(show List fO from l),aav x,fun l=> .sb ((show List fO from l).all okF)⟩
def aFz (l:List fO):Nat->jW
 |2=> .inv Int (fun i=>⟨[(5,.row sF l),(6,.si .i64 l.length),(7,.si .i64 i)],[]⟩)
   (fun s=>iS s 7) (fun i=>(0<=i/\i<=l.length)/\(l.take i.toNat).all okF=true) (fun i=>(l.length - i).toNat) fun _ _=> .look
 |_=> .look
theorem h406:Holds Tryz.prog aqv:=by
 refine lj (L:=[ahQ]) aqv aFz (by grind[h407]) ?_
 rintro(l:List fO) ⟨(q:l.length<=1000),(n:∀x∈l,aav x)⟩
 refine gw (let d:=(0:Int);let e:=SV.si .i64;let g:=SV.row;let a:=(↑l.length:Int);let f:=e a;((((g sF l).same (g sF l)/\(e (↑l.length:Int)).same f/\(SV.il .i64 0).same (e 0)/\True)/\True)/\(d<=d/\d<=a)/\true=true)/\∀(x:Int),let b:=bo l x.toNat sF.dflt;let c:=x+(1:Int);let k:=e c;let m:=fun(u:Bool) ↦(!okF (b.fst,b.snd.fst,b.snd.snd))=u;(d<=x/\x<=a)/\(List.take x.toNat l).all okF=true->(decide (x<a)=true->d<=x/\x<(↑l.length:Int)/\x.toNat<l.length/\((df b.snd.fst/\df b.snd.snd)/\List.length b.snd.fst<=1000000/\List.length b.snd.snd<=1000000)/\(m true->(SV.bl false).same (SV.sb (l.all okF)))/\(m false->iR .i64 c/\(((g sF l).same (g sF l)/\f.same f/\k.same k/\True)/\True)/\((d<=c/\c<=a)/\(List.take c.toNat l).all okF=true)/\(a - c).toNat<(a - x).toNat))/\(decide (x<a)=false->(SV.bl true).same (SV.sb (l.all okF)))) (by kernel_rfl) ?_
 simp only[vcs]
 refine⟨⟨by omega,by omega⟩,?_⟩
 rintro i ⟨⟨j,t⟩,e⟩
 refine⟨fun h=>?_,fun h=>?_⟩
 ·have p:=nA (d:=sF.dflt) (show i.toNat<l.length by omega)
  have r:=aal (d:=sF.dflt) j h
  have g:=n _ p
  have o:okF ((bo l i.toNat sF.dflt).1,(bo l i.toNat sF.dflt).2.1,(bo l i.toNat sF.dflt).2.2)=okF (bo l i.toNat sF.dflt):=rfl
  rw[o]
  refine⟨j,h,by omega,⟨g.1,g.2.1,g.2.2⟩,fun s=>?_,fun v=>⟨by omega,⟨⟨by omega,by omega⟩,?_⟩,by omega⟩⟩
  all_goals grind
 ·rw[show i.toNat=l.length by omega,List.take_length] at e
  simp_all
def aqw:fN:=⟨100,Prg,.one ahV,fun a=>(a.1.length<=160/\a.2.length<=40)/\(∀x∈a.1,aav x/\okF x=true)/\∀r∈a.2,r.1.length=a.1.length/\(∀x∈r.1,aav x/\okF x=true)/\aav r.2/\okF r.2=true,fun _=> .si .i64 0⟩
def aFA (a:Prg):Nat->jW
 |6=> .inv Int (fun i=>⟨[(1,.ptr 0 0 2),(20,.row sR a.2),(21,.si .i64 a.2.length),(22,.si .i64 i)],[.cells [.row sF a.1,.row sR a.2] 110 2 false]⟩)
   (fun s=>iS s 22) (fun i=>0<=i/\i<=a.2.length) (fun i=>(a.2.length - i).toNat) fun _ _=> .look
 |_=> .look
theorem h398:Holds Tryz.prog aqw:=by
 refine lj (L:=[aqv,ahQ]) aqw aFA (by grind[h406,h407]) ?_
 rintro⟨g,c⟩ ⟨⟨y,w⟩,E,B⟩
 simp only at y w E B
 refine gw (let d:=SV.il .i64;let h:=(0:Int);let i:=SV.si .i64;let l:=SV.il .i64 0;let F:=decide ((160:Int)<(↑g.length:Int));let e:=i 0;let v:=(↑c.length:Int);let C:=decide ((40:Int)<v);let t:=SV.ptr 0 0 2;let r:=SV.row sR c;let f:=(↑c.length:Int);let z:=i f;let s:=cC.cells [SV.row sF g,r] 110 2 false;(F=true->(d 3).same e)/\(F=false->(C=true->(d 3).same e)/\(C=false->(g.length<=1000/\∀(x:fO),x∈g->aav x)/\((!g.all okF)=true->(d 2).same e)/\((!g.all okF)=false->(((t.same t/\r.same r/\(i v).same z/\(d 0).same e/\True)/\s.same s/\True)/\h<=h/\h<=f)/\∀(x:Int),let a:=bo c x.toNat sR.dflt;let j:=a.snd.snd.fst;let k:=a.snd.snd.snd;let n:=!List.all a.fst okF;let b:=x+(1:Int);let q:=i b;let A:=fun(u:Bool) ↦(!okF (a.snd.fst,j,k))=u;let m:=fun(u:Bool) ↦decide ((↑(List.length a.fst):Int)≠(↑g.length:Int))=u;h<=x/\x<=f->(decide (x<f)=true->h<=x/\x<v/\x.toNat<c.length/\(m true->(d 2).same e)/\(m false->(List.length a.fst<=1000/\∀(x:fO),x∈a.fst->aav x)/\(n=true->(d 2).same e)/\(n=false->((df j/\df k)/\List.length j<=1000000/\List.length k<=1000000)/\(A true->(d 2).same e)/\(A false->iR .i64 b/\((t.same t/\r.same r/\z.same z/\q.same q/\True)/\s.same s/\True)/\(h<=b/\b<=f)/\(f - b).toNat<(f - x).toNat))))/\(decide (x<f)=false->(d 0).same e))))) (by kernel_rfl) ?_
 simp only[vcs]
 have D:∀{l:List fO},(∀x∈l,aav x/\okF x=true)->l.all okF=true:=fun h=>List.all_eq_true.2 fun x o=>(h x o).2
 refine⟨fun h=>by omega,fun _=>⟨fun h=>by omega,fun _=>⟨⟨by omega,fun x o=>(E x o).1⟩,fun h=>(by grind),fun _=>⟨⟨by omega,by omega⟩,?_⟩⟩⟩⟩
 rintro i ⟨I,J⟩
 refine⟨fun G=>?_,fun _=>trivial⟩
 have p:=B _ (nA (d:=sR.dflt) (show i.toNat<c.length by omega))
 have H:okF ((bo c i.toNat sR.dflt).2.1,(bo c i.toNat sR.dflt).2.2.1,(bo c i.toNat sR.dflt).2.2.2)=okF (bo c i.toNat sR.dflt).2:=rfl
 rw[H]
 refine⟨I,G,by omega,fun h=>absurd (by rw[p.1]) h,fun _=>⟨⟨by omega,fun x o=>(p.2.1 x o).1⟩,fun h=>?_,fun _=>⟨⟨p.2.2.1.1,p.2.2.1.2.1,p.2.2.1.2.2⟩,fun h=>?_,fun _=>⟨by omega,⟨by omega,by omega⟩,by omega⟩⟩⟩⟩
 all_goals grind
def ajJ (a:Prg):aa1:=⟨a.1.length,a.2.length,a.2.length,a.2.length,a.2.length,a.1.length,a.2.map (·.1),a.2.map (·.2),List.replicate a.1.length (cJ 0),cJ 0,(pA a.2.length).map fun i=>a.1.length+i,pA a.1.length⟩
def aqx:ob where
 f:=101
 α:=Prg
 put a:=[ahV.put a]
 st _:=[]
 dec v o:=match v,o with
  |[v],[]=>ahV.dec v
  |_,_=>none
 ok v o a h:=by
  split at h
  ·exact⟨by simp only[gL,ahV.ok _ _ h],rfl⟩
  ·cases h
 inj a b h _:=ahV.inj a b (by grind[gL])
 dom a:=a.1.length<=1000/\a.2.length<=1000/\∀r∈a.2,r.1.length<=1000
 res a:=.ptr 0 0 10
 out a:=(ajJ a).BE
def axp (a:Prg) (d f b g j:Nat) (h:List (List fO)) (c e:List fO) (k fr:List Int):ie:=
 [.cells [.row sF a.1,.row sR a.2] 110 2 false,.cells [.si .i64 a.1.length,.si .i64 a.2.length,.ow 2 d 1,.ow 3 f 3,.ow 4 b 3,.sb (cJ 0).1,.row (.i .u32) (cJ 0).2.1,.row (.i .u32) (cJ 0).2.2,.ow 5 g 1,.ow 6 j 1] 179 10 false,
  .row (.fa sF) h 72 false,.row sF c 70 false,.row sF e 70 true,.row (.i .i64) k 3 false,.row (.i .i64) fr 3 false]
def aFB (a:Prg):Nat->jW
 |3=> .inv Int (fun j=>⟨[(1,.ptr 0 0 2),(3,.ptr 1 0 10),(18,.si .i64 a.1.length),(19,.si .i64 j)],axp a 0 0 j.toNat 0 j.toNat [] [] (List.replicate j.toNat (cJ 0)) [] (pA j.toNat)⟩)
   (fun s=>iS s 19) (fun j=>0<=j/\j<=a.1.length) (fun j=>(a.1.length - j).toNat) fun _ _=> .look
 |9=> .inv Int (fun i=>⟨[(3,.ptr 1 0 10),(44,.row sR a.2),(45,.si .i64 a.2.length),(46,.si .i64 i)],axp a i.toNat i.toNat a.1.length i.toNat a.1.length ((a.2.take i.toNat).map (·.1)) ((a.2.take i.toNat).map (·.2)) (List.replicate a.1.length (cJ 0)) ((pA i.toNat).map fun i=>a.1.length+i) (pA a.1.length)⟩)
   (fun s=>iS s 46) (fun i=>0<=i/\i<=a.2.length) (fun i=>(a.2.length - i).toNat) fun _ _=> .look
 |_=> .look
theorem h399:qH Tryz.prog aqx:=by
 refine aos (L:=[r94]) (W:=[]) aqx (fun _=>none) aFB (by simp) (by grind[h94]) ?_
 rintro⟨g,h⟩ ⟨hg,hr,a8⟩
 simp only at hg hr a8
 refine gw (let a:=cC.row;let c:=SV.ow;let d:=cC.cells;let e:=(0:Int);let j:=SV.si .i64;let k:=(-9223372036854775808:Int);let y:=SV.row;let G:=(9223372036854775807:Int);let L:=SV.il .i64 0;let W:=iR .i64;let Z:=SV.ptr;let ab:=Z 0 0 2;let U:=Z 1 0 10;let ac:=j (↑g.length:Int);let H:=(↑g.length:Int);let I:=j H;let aa:=y sR h;let V:=d [y sF g,aa] 110 2 false;let ad:=j (↑h.length:Int);let a2:=c 2 0 1;let a8:=c 3 0 3;let b3:=c 4 0 3;let D:=cJ (IntCast.intCast e);let p:=bD.i .u32;let E:=c 5 0 1;let b6:=[E,c 6 0 1];let r:=(↑h.length:Int);let o:=j r;let z:=cJ (0:Rat);let t:=SV.sb z.fst;let q:=y p z.snd.fst;let s:=y p z.snd.snd;let M:=bD.b.pair (p.fa.pair p.fa);let O:=a sF.fa [] 72 false;let K:=a sF [] 70 false;let l:=bD.i .i64;let w:=a l [] 3 false;let X:=c 4 g.length 3;let a0:=[c 6 g.length 1];let a3:=List.replicate g.length z;let a1:=a sF a3 70 true;let T:=a l (pA g.length) 3 false;let b7:=Z 0 0 10;let f:=ajJ (g,h);(k<=e/\e<=G)/\(((ab.same ab/\U.same U/\ac.same I/\(L).same (j 0)/\True)/\V.same V/\(d (ac::ad::a2::a8::b3::SV.sb D.fst::y p D.snd.fst::y p D.snd.snd::b6) 179 10 false).same (d (I::o::a2::a8::b3::t::q::s::b6) 179 10 false)/\(a M.fa [] 72 false).same O/\(a M [] 70 false).same K/\(a M [] 70 true).same (a sF [] 70 true)/\w.same w/\w.same (a l (pA 0) 3 false)/\True)/\e<=e/\e<=H)/\∀(x:Int),let J:=pA x.toNat;let a4:=J.length+1;let P:=List.replicate x.toNat z;let a6:=P.length+1;let B:=x+(1:Int);let b4:=j B;let a7:=P++[(D.fst,D.snd.fst,D.snd.snd)];let R:=B.toNat;e<=x/\x<=H->(decide (x<H)=true->1=1/\x.toNat=J.length/\a4*8<=140737488355328/\a4<=1000000000000/\(k<=e/\e<=G)/\1=1/\x.toNat=P.length/\a6*56<=140737488355328/\a6<=1000000000000/\W B/\((ab.same ab/\U.same U/\I.same I/\b4.same b4/\True)/\V.same V/\(d [I,o,a2,a8,c 4 a7.length 3,t,q,s,E,c 6 (J++[x]).length 1] 179 10 false).same (d [I,o,a2,a8,c 4 R 3,t,q,s,E,c 6 R 1] 179 10 false)/\O.same O/\K.same K/\(a M a7 70 true).same (a sF (List.replicate R z) 70 true)/\w.same w/\(a l (J++[x]) 3 false).same (a l (pA R) 3 false)/\True)/\(e<=B/\B<=H)/\(H - B).toNat<(H - x).toNat)/\(decide (x<H)=false->(((U.same U/\aa.same aa/\ad.same o/\(L).same (j 0)/\True)/\V.same V/\(d [I,o,a2,a8,c 4 x.toNat 3,t,q,s,E,c 6 x.toNat 1] 179 10 false).same (d (I::o::a2::a8::X::t::q::s::E::a0) 179 10 false)/\O.same O/\K.same K/\(a sF P 70 true).same a1/\w.same w/\(a l J 3 false).same T/\True)/\e<=e/\e<=r)/\∀(x:Int),let F:=bo h x.toNat sR.dflt;let u:=List.length F.fst;let a5:=List.take x.toNat h;let Q:=List.map (fun x ↦x.fst) a5;let Y:=Q.length+1;let S:=List.map (fun x ↦x.snd) a5;let a9:=S.length+1;let N:=List.map (fun i ↦(↑(g,h).fst.length:Int)+i) (pA x.toNat);let b1:=N.length+1;let A:=x+(1:Int);let b0:=j A;let b5:=S++[(F.snd.fst,F.snd.snd.fst,F.snd.snd.snd)];let C:=A.toNat;e<=x/\x<=r->(decide (x<r)=true->e<=x/\x<(↑h.length:Int)/\x.toNat<h.length/\0=0/\(0+u)*56<=140737488355328/\0+u<=1000000000000/\x.toNat=Q.length/\Y*24<=140737488355328/\Y<=1000000000000/\u=u/\u=u/\u=u/\1=1/\x.toNat=S.length/\a9*56<=140737488355328/\a9<=1000000000000/\W (H+x)/\1=1/\x.toNat=N.length/\b1*8<=140737488355328/\b1<=1000000000000/\W A/\((U.same U/\aa.same aa/\o.same o/\b0.same b0/\True)/\V.same V/\(d (I::o::c 2 Y 1::c 3 b5.length 3::X::t::q::s::c 5 (N++[H+x]).length 1::a0) 179 10 false).same (d (I::o::c 2 C 1::c 3 C 3::X::t::q::s::c 5 C 1::a0) 179 10 false)/\(a sF.fa (Q++[F.fst]) 72 false).same (a sF.fa (List.map (fun x ↦x.fst) (List.take C h)) 72 false)/\(a M b5 70 false).same (a sF (List.map (fun x ↦x.snd) (List.take C h)) 70 false)/\a1.same a1/\(a l (N++[H+x]) 3 false).same (a l (List.map (fun i ↦(↑(g,h).fst.length:Int)+i) (pA C)) 3 false)/\T.same T/\True)/\(e<=A/\A<=r)/\(r - A).toNat<(r - x).toNat)/\(decide (x<r)=false->g.length=a3.length/\b7.same b7/\(d [I,o,c 1 x.toNat 1,c 2 x.toNat 3,y sF a3,t,q,s,c 3 x.toNat 1,c 4 g.length 1] 179 10 false).same (d [j f.n,j f.m,c 1 f.k0 1,c 2 f.k1 3,y sF f.cost,SV.sb f.v.fst,y p f.v.snd.fst,y p f.v.snd.snd,c 3 f.k3 1,c 4 f.k4 1] 179 10 false)/\(a sF.fa Q 72 false).same (a sF.fa f.iP 72 false)/\(a sF S 70 false).same (a sF f.bound 70 false)/\(a l N 3 false).same (a l f.basic 3 false)/\T.same (a l f.free 3 false)/\True))) (by kernel_rfl) ?_
 simp only[vcs]
 have h0:(IntCast.intCast 0:Rat)=0:=rfl
 simp only[h0,RP]
 have G:∀{a b a' b' c d e a2 b2 c2 d2 e2:Nat},a=a2->b=b2->c=c2->d=d2->e=e2->(cC.cells [.si .i64 a',.si .i64 b',.ow 2 a 1,.ow 3 b 3,.ow 4 c 3,.sb (cJ 0).1,.row (.i .u32) (cJ 0).2.1,.row (.i .u32) (cJ 0).2.2,.ow 5 d 1,.ow 6 e 1] 179 10 false).same
   (cC.cells [.si .i64 a',.si .i64 b',.ow 2 a2 1,.ow 3 b2 3,.ow 4 c2 3,.sb (cJ 0).1,.row (.i .u32) (cJ 0).2.1,.row (.i .u32) (cJ 0).2.2,.ow 5 d2 1,.ow 6 e2 1] 179 10 false):=by
  rintro _ _ _ _ _ _ _ _ _ _ _ _ rfl rfl rfl rfl rfl
  rfl
 have c1:∀{x y:List fO},x=y->(cC.row sF x 70 false).same (cC.row sF y 70 false):=by rintro _ _ rfl;rfl
 have b8:∀{x y:List fO},x=y->(cC.row sF x 70 true).same (cC.row sF y 70 true):=by rintro _ _ rfl;rfl
 have b9:∀{x y:List (List fO)},x=y->(cC.row (.fa sF) x 72 false).same (cC.row (.fa sF) y 72 false):=by rintro _ _ rfl;rfl
 have Z:∀{x y:List Int},x=y->(cC.row (.i .i64) x 3 false).same (cC.row (.i .i64) y 3 false):=by rintro _ _ rfl;rfl
 have c0:∀k:Nat,((k:Nat):Int).toNat=k:=fun k=>Int.toNat_natCast k
 refine⟨by omega,⟨⟨rfl,Z rfl⟩,by omega,by omega⟩,?_⟩
 rintro j ⟨j0,j1⟩
 have l1:=@FC j.toNat
 have l2:(List.replicate j.toNat (cJ 0)).length=j.toNat:=List.length_replicate
 refine⟨fun hj=>?_,fun hj=>?_⟩
 ·have e1:pA j.toNat++[j]=pA (j+1).toNat:=by
   rw[show(j+1).toNat=j.toNat+1 by omega,aek,show((j.toNat:Nat):Int)=j by omega]
  have e2:List.replicate j.toNat (cJ 0)++[cJ 0]=List.replicate (j+1).toNat (cJ 0):=by
   rw[show(j+1).toNat=j.toNat+1 by omega,List.replicate_succ']
  grind
 ·rw[show j.toNat=g.length by omega]
  refine⟨⟨⟨G rfl rfl rfl rfl rfl,b8 rfl,Z rfl⟩,by omega,by omega⟩,?_⟩
  rintro i ⟨i0,i1⟩
  have l3:(List.map (fun x:List fO×fO=>x.1) (List.take i.toNat h)).length=i.toNat:=by simp_all
  have l4:(List.map (fun x:List fO×fO=>x.2) (List.take i.toNat h)).length=i.toNat:=by simp_all
  have l5:(List.map (fun i:Int=>(g.length:Int)+i) (pA i.toNat)).length=i.toNat:=by grind[FC]
  refine⟨fun hi=>?_,fun hi=>?_⟩
  ·have hm:=a8 _ (nA (d:=sR.dflt) (show i.toNat<h.length by omega))
   have et:=aal (d:=sR.dflt) i0 hi
   have e1:List.map (fun x:List fO×fO=>x.1) (List.take i.toNat h)++[(bo h i.toNat sR.dflt).1]=List.map (fun x:List fO×fO=>x.1) (List.take (i+1).toNat h):=by simp_all
   have e2:List.map (fun x:List fO×fO=>x.2) (List.take i.toNat h)++[(bo h i.toNat sR.dflt).2]=List.map (fun x:List fO×fO=>x.2) (List.take (i+1).toNat h):=by simp_all
   have e3:List.map (fun i:Int=>(g.length:Int)+i) (pA i.toNat)++[(g.length:Int)+i]=List.map (fun i:Int=>(g.length:Int)+i) (pA (i+1).toNat):=by
    rw[show(i+1).toNat=i.toNat+1 by omega,aek,List.map_append,show((i.toNat:Nat):Int)=i by omega];rfl
   have l6:(List.map (fun x:List fO×fO=>x.2) (List.take (i+1).toNat h)).length=(i+1).toNat:=by grind
   have l7:(List.map (fun i:Int=>(g.length:Int)+i) (pA (i+1).toNat)).length=(i+1).toNat:=by grind
   refine⟨i0,hi,by omega,by omega,by omega,l3.symm,by omega,by omega,l4.symm,by omega,by omega,by omega,l5.symm,by omega,by omega,by omega,⟨G ?_ ?_ rfl ?_ rfl,b9 e1,c1 e2,Z e3⟩,by omega,by omega⟩
   all_goals grind
  ·have e:i.toNat=h.length:=by omega
   rw[e,List.take_length]
   exact⟨List.length_replicate.symm,rfl,rfl,rfl,rfl,rfl⟩
def r400:ob:=ae9 102 Unit .nil (fun _ m t _=>RN m.toNat t) (fun _ _ _ _=> .eW [.sc (.slice none 0 0),.sb true]) (fun _ _ t _=>t)
def aFC (n m:Int) (t:Tb):Nat->jW
 |3=> .inv Int (fun i=>⟨[(0,.ptr 0 0 10),(4,.si .i64 (-1)),(12,.ow 2 t.bound.length 3),(13,.si .i64 t.bound.length),(14,.si .i64 i)],(eK n m t).BE⟩)
   (fun s=>iS s 14) (fun i=>0<=i/\i<=m) (fun i=>(m - i).toNat) fun _ _=> .look
 |_=> .look
theorem h400:qH Tryz.prog r400:=by
 refine SD (L:=[r99]) (W:=[]) r400 (fun a=>aFC a.1.n a.1.m a.1.t) (by simp) (by grind[h99]) ?_
 rintro⟨x,u⟩ ⟨n,m,t,M,s,J⟩
 simp only at M J
 subst M
 refine gw (let a:=SV.si .i64;let h:=cC.row;let q:=(0:Int);let s:=SV.ow;let I:=SV.row;let J:=(-1:Int);let E:=SV.ptr 0 0 10;let G:=a J;let K:=s 2 (eK n m t).k1 3;let y:=(eK n m t).t.bound.length;let H:=s 2 y 3;let F:=a (↑y:Int);let o:=(eK n m t).m;let D:=bD.i .u32;let b:=eK (eK n m t).n o (eK n m t).t;let A:=cC.cells [a b.n,a b.m,s 1 b.k0 1,s 2 b.k1 3,I sF b.cost,SV.sb b.v.fst,I D b.v.snd.fst,I D b.v.snd.snd,s 3 b.k3 1,s 4 b.k4 1] 179 10 false;let d:=h sF.fa b.iP 72 false;let g:=h sF b.bound 70 false;let k:=bD.i .i64;let j:=h k b.basic 3 false;let f:=h k b.free 3 false;let c:=b.bound.length;let r:=SV.sc (Value.slice none 0 0);(((E.same E/\(SV.il .i64 J).same G/\K.same H/\(a (↑(eK n m t).k1:Int)).same F/\(SV.il .i64 0).same (a 0)/\True)/\(cC.cells [a (eK n m t).n,a o,s 1 (eK n m t).k0 1,K,I sF (eK n m t).cost,SV.sb (eK n m t).v.fst,I D (eK n m t).v.snd.fst,I D (eK n m t).v.snd.snd,s 3 (eK n m t).k3 1,s 4 (eK n m t).k4 1] 179 10 false).same A/\(h sF.fa (eK n m t).iP 72 false).same d/\(h sF (eK n m t).bound 70 false).same g/\(h k (eK n m t).basic 3 false).same j/\(h k (eK n m t).free 3 false).same f/\True)/\q<=q/\q<=o)/\∀(x:Int),let l:=bo b.bound x.toNat sF.dflt;let z:=(l.fst,l.snd.fst,l.snd.snd);let e:=x+(1:Int);let C:=a e;let p:=decide (x<(↑y:Int));let w:=fun(u:Bool) ↦decide (SH (ja z)<q)=u;let B:=fun(u:SV) ↦iR .i64 e/\((E.same E/\u.same G/\H.same H/\F.same F/\C.same C/\True)/\A.same A/\d.same d/\g.same g/\j.same j/\f.same f/\True)/\(q<=e/\e<=o)/\(o - e).toNat<(o - x).toNat;q<=x/\x<=o->(p=true->y=c/\q<=x/\x<(↑c:Int)/\y=c/\x.toNat<c/\lH z/\(w true->(true=true->B (a x))/\(true=false->b.k1=c/\q<=J/\J<(↑c:Int)/\b.k1=c/\0<c/\False))/\(w false->B G))/\(p=false->(true=true->(SV.eW [r,SV.bl true]).same (SV.eW [r,SV.sb true])/\A.same A/\d.same d/\g.same g/\j.same j/\f.same f/\True)/\(true=false->False))) (by kernel_rfl) ?_
 simp only[aem]
 try simp only[eK]
 simp only[vcs]
 obtain⟨⟨⟨Y,Z⟩,U,V⟩,N,X⟩:=id s
 have R:=N.bound
 have S:=@zx t.bound
 refine⟨⟨by omega,by omega⟩,?_⟩
 rintro i ⟨P,T⟩
 refine⟨fun Q=>?_,fun Q=>⟨fun _=>trivial,fun h=>by cases h⟩⟩
 have O:bo (fL t.bound) i.toNat sF.dflt=cJ (t.bd i.toNat):=KE (by omega)
 have I:=J i.toNat (by omega)
 have q:¬SH (t.bd i.toNat)<0:=fun h=>by grind[aqk]
 simp only[O,RP,tc]
 exact⟨by omega,P,by omega,by omega,by omega,se (s.bd (by omega)) (by omega),fun h=>absurd h q,fun _=>⟨by omega,by omega,by omega⟩⟩
def aqy:ob:=ae9 103 (List fO) (.one (qX sF)) (fun n m t a=>∃g:List Rat,a=fL g/\g.length=n.toNat/\t.free=pA n.toNat/\∀v∈t.basic,n<=v) (fun _ _ _ _=> .eW []) (fun _ _ t a=>{t with cost:=vL a,value:=0})
def aFD (n m:Int) (t:Tb) (a:List fO):Nat->jW
 |3=> .inv Int (fun j=>⟨[(0,.ptr 0 0 10),(1,.row sF a),(4,.ow 5 n.toNat 3),(24,.ow 4 t.free.length 1),(25,.si .i64 t.free.length),(26,.si .i64 j)],(eK n m {t with value:=0}).BE++[.row sF (xN a j.toNat (false,([],[]))) 70 true]⟩)
   (fun s=>iS s 26) (fun i=>0<=i/\i<=n) (fun i=>(n - i).toNat) fun _ _=> .look
 |10=> .inv Int (fun i=>⟨[(0,.ptr 0 0 10),(1,.row sF a),(4,.ow 5 n.toNat 3),(52,.ow 3 t.basic.length 1),(53,.si .i64 t.basic.length),(54,.si .i64 i)],(eK n m {t with value:=0}).BE++[.row sF a 70 true]⟩)
   (fun s=>iS s 54) (fun i=>0<=i/\i<=m) (fun i=>(m - i).toNat) fun _ _=> .look
 |_=> .look
theorem h401:qH Tryz.prog aqy:=by
 refine SD (L:=[r94]) (W:=[]) aqy (fun a=>aFD a.1.n a.1.m a.1.t a.2) (by simp) (by simpa using h94) ?_
 rintro⟨x,a⟩ ⟨n,m,t,hx,hok,g,ha,hgl,hfr,hbs⟩
 simp only at hx ha
 subst hx ha
 refine gw (let a:=(0:Int);let c:=SV.si .i64;let d:=cC.row;let e:=SV.ow;let f:=(-9223372036854775808:Int);let h:=SV.row;let j:=(9223372036854775807:Int);let k:=cC.cells;let l:=SV.il .i64 0;let w:=(↑(eK n m t).k4:Int);let y:=SV.ptr 0 0 10;let s:=h sF (fL g);let p:=(eK n m t).n;let F:=e 5 p.toNat 3;let a0:=e 4 (eK n m t).k4 1;let r:=(eK n m t).t;let N:=r.free.length;let U:=e 4 N 1;let V:=c (↑N:Int);let z:=(eK n m t).m;let H:=cJ (IntCast.intCast a);let A:=bD.i .u32;let o:=eK p z (Tb.mk r.iP r.bound r.cost (0:Rat) r.basic r.free);let a1:=c o.n;let a2:=c o.m;let a3:=e 1 o.k0 1;let a4:=e 2 o.k1 3;let a5:=e 3 o.k3 1;let a6:=[SV.sb o.v.fst,h A o.v.snd.fst,h A o.v.snd.snd,a5,e 4 o.k4 1];let G:=k (a1::a2::a3::a4::h sF o.cost::a6) 179 10 false;let B:=d sF.fa o.iP 72 false;let C:=d sF o.bound 70 false;let I:=bD.i .i64;let J:=o.basic;let D:=d I J 3 false;let E:=d I o.free 3 false;let R:=(false,[],[]);let S:=o.free.length;let z29:Nat:=(fL g).length;let O:=r.basic.length;let W:=e 3 O 1;let X:=c (↑O:Int);let Y:=d sF (fL g) 70 true;let q:=eK p z (Tb.mk r.iP r.bound (vL (fL g)) (0:Rat) r.basic r.free);(f<=a/\a<=j)/\a<=w/\w<=w/\w*(56:Int)<=(140737488355328:Int)/\w<=(1000000000000:Int)/\(((y.same y/\s.same s/\(e 5 w.toNat 3).same F/\a0.same U/\(c w).same V/\(l).same (c 0)/\True)/\(k [c p,c z,e 1 (eK n m t).k0 1,e 2 (eK n m t).k1 3,h sF (eK n m t).cost,SV.sb H.fst,h A H.snd.fst,h A H.snd.snd,e 3 (eK n m t).k3 1,a0] 179 10 false).same G/\(d sF.fa (eK n m t).iP 72 false).same B/\(d sF (eK n m t).bound 70 false).same C/\(d I (eK n m t).basic 3 false).same D/\(d I (eK n m t).free 3 false).same E/\(d (bD.b.pair (A.fa.pair A.fa)) (List.replicate w.toNat R) 70 true).same (d sF (xN (fL g) 0 R) 70 true)/\True)/\a<=a/\a<=p)/\∀(x:Int),let K:=x+(1:Int);let a7:=c K;let a8:=decide (x<(↑N:Int));let L:=xN (fL g) x.toNat R;let P:=bo o.free x.toNat a;let a9:=decide (P<o.n);let M:=L.set x.toNat (H.fst,H.snd.fst,H.snd.snd);let Z:=bo (fL g) P.toNat sF.dflt;let aa:=fun(u:List (Bool×List Int×List Int)) ↦iR .i64 K/\((y.same y/\s.same s/\F.same F/\U.same U/\V.same V/\a7.same a7/\True)/\G.same G/\B.same B/\C.same C/\D.same D/\E.same E/\(d sF u 70 true).same (d sF (xN (fL g) K.toNat R) 70 true)/\True)/\(a<=K/\K<=p)/\(p - K).toNat<(p - x).toNat;a<=x/\x<=p->(a8=true->N=S/\a<=x/\x<(↑S:Int)/\N=S/\x.toNat<S/\(f<=a/\a<=j)/\p.toNat=L.length/\a<=x/\x<(↑L.length:Int)/\p.toNat=L.length/\x.toNat<L.length/\(a9=true->a<=P/\P<(↑z29:Int)/\P.toNat<z29/\p.toNat=M.length/\a<=x/\x<(↑M.length:Int)/\p.toNat=M.length/\x.toNat<M.length/\aa (M.set x.toNat (Z.fst,Z.snd.fst,Z.snd.snd)))/\(a9=false->aa M))/\(a8=false->(((y.same y/\s.same s/\F.same F/\a5.same W/\(c (↑o.k3:Int)).same X/\(l).same (c 0)/\True)/\G.same G/\B.same B/\C.same C/\D.same D/\E.same E/\(d sF L 70 true).same Y/\True)/\a<=a/\a<=z)/\∀(x:Int),let ab:=decide (x<(↑O:Int));let T:=bo J x.toNat a;let ac:=decide (o.n<=T);let Q:=x+(1:Int);let ad:=c Q;a<=x/\x<=z->(ab=true->O=J.length/\a<=x/\x<(↑J.length:Int)/\O=J.length/\x.toNat<J.length/\(ac=true->iR .i64 Q/\((y.same y/\s.same s/\F.same F/\W.same W/\X.same X/\ad.same ad/\True)/\G.same G/\B.same B/\C.same C/\D.same D/\E.same E/\Y.same Y/\True)/\(a<=Q/\Q<=z)/\(z - Q).toNat<(z - x).toNat)/\(ac=false->a<=T/\T<(↑z29:Int)/\T.toNat<z29/\False))/\(ab=false->p.toNat=z29/\(SV.eW []).same (SV.eW [])/\(k (a1::a2::a3::a4::s::a6) 179 10 false).same (k [c q.n,c q.m,e 1 q.k0 1,e 2 q.k1 3,h sF q.cost,SV.sb q.v.fst,h A q.v.snd.fst,h A q.v.snd.snd,e 3 q.k3 1,e 4 q.k4 1] 179 10 false)/\B.same (d sF.fa q.iP 72 false)/\C.same (d sF q.bound 70 false)/\D.same (d I q.basic 3 false)/\E.same (d I q.free 3 false)/\True))) (by kernel_rfl) ?_
 simp only[aem]
 try simp only[eK]
 simp only[vcs]
 obtain⟨⟨⟨n0,n1⟩,m0,m1⟩,hw,hz⟩:=id hok
 have hbb:=hw.basic
 have hfl:=hw.free
 have hfg:=@zx g
 have h0:(IntCast.intCast 0:Rat)=0:=rfl
 have hrow:∀{x y:List fO},x=y->(cC.row sF x 70 true).same (cC.row sF y 70 true):=by rintro _ _ rfl;rfl
 simp only[h0,RP]
 refine⟨by omega,by omega,by omega,by omega,by omega,⟨⟨?_,?_,?_⟩,by omega,by omega⟩,?_⟩
 ·rw[hfl];rfl
 ·rfl
 ·exact hrow (by rw[ajG,hfg,hgl,hfl];rfl)
 rintro j ⟨j0,j1⟩
 have hru:=@ajF (fL g) j.toNat (false,([],[])) (by omega)
 refine⟨fun hj=>?_,fun hj=>?_⟩
 ·have hv:bo t.free j.toNat 0=j:=by rw[hfr,ajB (by omega)];omega
  rw[hv]
  have hset:((xN (fL g) j.toNat (false,([],[]))).set j.toNat (cJ 0)).set j.toNat (bo (fL g) j.toNat sF.dflt)=xN (fL g) (j+1).toNat (false,([],[])):=by
   have e:=ajI (d:=fL g) (j:=j.toNat) (z:=(false,([],[]))) (x:=bo (fL g) j.toNat sF.dflt) (by omega) rfl
   rw[List.set_set,show(j+1).toNat=j.toNat+1 by omega]
   exact e
  rw[List.length_set]
  exact⟨j0,by omega,by omega,by omega,by omega,j0,by omega,by omega,by omega,fun _=>⟨j0,by omega,by omega,by omega,j0,by omega,by omega,by omega,by omega,hrow hset,by omega,by omega⟩,fun h=>(h (by omega)).elim⟩
 ·have e:j.toNat=(fL g).length:=by omega
  rw[e,ajH]
  refine⟨⟨hrow rfl,by omega,by omega⟩,?_⟩
  rintro i ⟨i0,i1⟩
  refine⟨fun hi=>⟨i0,hi,by omega,fun _=>⟨by omega,by omega,by omega⟩,fun h=>absurd (hbs _ (nA (by omega))) h⟩,fun hi=>⟨by omega,?_⟩⟩
  rw[Zb];rfl
abbrev Lp:=List Rat×List (List Rat×Rat)
def GH (a:Lp):Prg:=(fL a.1,a.2.map fun r=>(fL r.1,cJ r.2))
def WB (a:Lp):Tb:=⟨a.2.map (·.1),a.2.map (·.2),a.1,0,(pA a.2.length).map fun i=>a.1.length+i,pA a.1.length⟩
def adK (a:Lp):Tb:={WB a with cost:=List.replicate a.1.length 0}
theorem aFE {a:Lp}:ajJ (GH a)=eK a.1.length a.2.length (adK a):=by
 unfold ajJ GH eK adK WB
 simp_all[FC,fM,fL]
structure ajK (a:Lp):Prop where
 n:a.1.length<=160
 m:a.2.length<=40
 small:∃M G,Small a.1.length a.2.length M G (WB a)
 ahL:RN a.2.length (WB a)
 bnd:∃B,∀x z,(WB a).holds a.1.length a.2.length x z->(∀v∈(WB a).basic++(WB a).free,0<=x v)->z<=B
noncomputable def lpT (a:Lp):Tb:=lastT a.1.length a.2.length (WB a)
theorem aFF {a:Lp} (h:ajK a):okO a.1.length a.2.length (WB a):=by
 obtain⟨M,G,b⟩:=h.small
 exact⟨WB a,M,G,b,Run.refl b.wf b.nd,h.ahL⟩
theorem aFG {a:Lp} (h:ajK a):Run a.1.length a.2.length (WB a) (lpT a)/\RN a.2.length (lpT a)/\sx (lpT a) a.1.length<0:=by
 obtain⟨M,G,c⟩:=h.small
 obtain⟨B,d⟩:=h.bnd
 have b:=Run.refl c.wf c.nd
 have:=aqr b h.ahL
 exact⟨this.1,this.2.1,axc b h.ahL d⟩
noncomputable def aqz:fN:=⟨65,Prg,.one ahV,fun x=>∃a:Lp,x=GH a/\ajK a,fun x=>
 let a:Lp:=(vL x.1,x.2.map fun r=>(vL r.1,ja r.2))
 .eW [.agg [.si .i64 1,.sb (cJ (lpT a).value).1,.row (.i .u32) (cJ (lpT a).value).2.1,.row (.i .u32) (cJ (lpT a).value).2.2,.row sF (fL (AQ (lpT a) a.1.length a.2.length)),.row sF (fL (SS (lpT a) a.1.length a.2.length a.1.length)),.row sF []],.si .i64 0]⟩
theorem aFH {a:Lp}:((vL (GH a).1,(GH a).2.map fun r=>(vL r.1,ja r.2)):Lp)=a:=by
 obtain⟨g,b⟩:=a
 unfold GH;simp only[Zb,List.map_map]
 congr 1
 conv=>rhs;rw[<-List.map_id b]
 refine List.map_congr_left fun r _=>?_
 grind[Zb,tc]
theorem aFI {a:Lp}:((GH a).1,(GH a).2)=GH a:=rfl
theorem axq {a:Lp}:vL (GH a).1=a.1:=Zb _
theorem axr {a:Lp}:(GH a).2.map (fun r=>(vL r.1,ja r.2))=a.2:=congrArg Prod.snd (@aFH a)
theorem aFJ {a:Lp}:({iP:=(adK a).iP,bound:=(adK a).bound,cost:=a.1,value:=0,basic:=(adK a).basic,free:=(adK a).free}:Tb)=WB a:=rfl
theorem aFK {a:Lp}:(GH a).1.length=a.1.length:=zx
theorem aFL {a:Lp}:(GH a).2.length=a.2.length:=List.length_map _
theorem axt {q:Rat} (h:Sz 1000000 q):aav (cJ q)/\okF (cJ q)=true:=by
 obtain⟨g,⟨c,_,e⟩,⟨b,_,f⟩⟩:=aaU q
 obtain⟨a,d⟩:=acW h
 refine⟨⟨⟨c,b⟩,a,d⟩,?_⟩
 grind[okF,tc]
theorem aFM {o:Store} {d:Nat} {acc:List Nat} {l:List fO}:kD o d (List.map (fun x:fO=>qd bD.b x.1++qd ((bD.i .u32).fa.pair (bD.i .u32).fa) x.2) l).flatten acc=acc:=aiS fun a c=>aaL (s:=sF) (l:=l) c
theorem aFN {o:Store} {d:Nat} {acc:List Nat} {l:List (List fO)}:kD o d (List.map (fun x:List fO=>[AV.sl (List.length x) (List.flatMap (qd sF) x)]) l).flatten acc=acc:=aiS fun a b=>aaL (s:=sF.fa) (l:=l) b
theorem aFO {o:Store} {d:Nat} {acc:List Nat} {l:List Int}:kD o d (List.map (fun x:Int=>List.map AV.sc (qb (bD.i .i64) x)) l).flatten acc=acc:=aiS fun a b=>aaL (s:=bD.i .i64) (l:=l) b
theorem h395:Holds Tryz.prog aqz:=by
 refine aBW (L:=[aqw]) (W:=A2 [aqx,r400,aqy,aqu,amr,ams]) aqz (fun f=>Nat.beq f amr.f||Nat.beq f ams.f) lk (Xy (by simpa using⟨h399,h400,h401,h402,h403,h405⟩)) (by simpa using h398) ?_
 rintro x ⟨a,hx,hok⟩
 subst hx
 refine gw (let c:=SV.row;let d:=cC.row;let e:=SV.si .i64;let f:=SV.ow;let h:=cC.cells;let j:=SV.il .i64;let k:=(0:Int);let l:=SV.sb;let o:=SV.bl false;let p:=SV.agg;let q:=SV.eW;let B:=(GH a).fst;let C:=(GH a).snd;let J:=h [c sF B,c sR C] 110 2 false;let Q:=j 0;let a1:=Value.slice none 0 0;let G:=SV.sc a1;let K:=h [Q,o,G,G,G,G,G] 114 7 false;let L:=ajJ (B,C);let D:=eK L.n L.m L.t;let E:=eK D.n D.m (Tb.mk D.t.iP D.t.bound (vL B) (0:Rat) D.t.basic D.t.free);let a2:=lastT E.n.toNat E.m.toNat E.t;let s:=eK E.n E.m a2;let y:=bD.i .u32;let M:=s.v.snd.fst;let N:=s.v.snd.snd;let w:=eK s.n s.m s.t;let R:=w.v.snd.fst;let S:=w.v.snd.snd;let a3:=h [e w.n,e w.m,f 3 w.k0 1,f 4 w.k1 3,c sF w.cost,l w.v.fst,c y R,c y S,f 5 w.k3 1,f 6 w.k4 1] 179 10 false;let a4:=d sF.fa w.iP 72 false;let a5:=d sF w.bound 70 false;let z:=bD.i .i64;let a6:=d z w.basic 3 false;let a7:=d z w.free 3 false;let F:=c z [];let U:=List.map (fun(r:List fO×fO) ↦(vL r.fst,ja r.snd)) C;let H:=lpT (vL B,U);let z31:Nat:=(vL B).length;let a8:=e 0;let a9:=q [p [e 1,l (cJ H.value).fst,c y (cJ H.value).snd.fst,c y (cJ H.value).snd.snd,c sF (fL (AQ H z31 U.length)),c sF (fL (SS H z31 U.length z31)),c sF []],a8];let A:=eK w.n w.m w.t;let aa:=fZ.cells [AV.sl B.length (List.map (fun(x:sF.T) ↦qd bD.b x.fst++qd (y.fa.pair y.fa) x.snd) B).flatten,AV.sl C.length (List.map (fun(x:sR.T) ↦qd sF.fa x.fst++qd sF x.snd) C).flatten] 110 2 false;let I:=AV.sc a1;let ab:=fZ.cells [AV.sc (Value.int .i64 k),AV.sc (Value.bool false),I,I,I,I,I] 114 7 false;let ac:=(List.map (fun(x:sF.fa.T) ↦[AV.sl (List.length x) (List.flatMap (qd sF) x)]) s.iP).flatten;let ad:=(List.map (fun(x:sF.T) ↦qd bD.b x.fst++qd (y.fa.pair y.fa) x.snd) s.bound).flatten;let ae:=(List.map (fun(x:z.T) ↦List.map AV.sc (qb z x)) s.basic).flatten;let af:=(List.map (fun(x:z.T) ↦List.map AV.sc (qb z x)) s.free).flatten;let O:=[aa,ab,fZ.cells [AV.sc (Value.int .i64 s.n),AV.sc (Value.int .i64 s.m),AV.os 3 0 s.k0 (s.k0*1),AV.os 4 0 s.k1 (s.k1*3),AV.sl s.cost.length (List.map (fun(x:sF.T) ↦qd bD.b x.fst++qd (y.fa.pair y.fa) x.snd) s.cost).flatten,AV.sc (Value.bool s.v.fst),AV.sl M.length (List.map (fun(x:y.T) ↦List.map AV.sc (qb y x)) M).flatten,AV.sl N.length (List.map (fun(x:y.T) ↦List.map AV.sc (qb y x)) N).flatten,AV.os 5 0 s.k3 (s.k3*1),AV.os 6 0 s.k4 (s.k4*1)] 179 10 false,fZ.cells ac 72 1 false,fZ.cells ad 70 3 false,fZ.cells ae 3 1 false,fZ.cells af 3 1 false];let ag:=[2,3];let V:=kD O (nat_lit 396) ac ag;let W:=if List.elem 4 V=true then V else kD O (nat_lit 395) ad (V++[4]);let X:=if List.elem 5 W=true then W else kD O (nat_lit 390) ae (W++[5]);let ah:=(List.map (fun(x:sF.fa.T) ↦[AV.sl (List.length x) (List.flatMap (qd sF) x)]) w.iP).flatten;let ai:=(List.map (fun(x:sF.T) ↦qd bD.b x.fst++qd (y.fa.pair y.fa) x.snd) w.bound).flatten;let aj:=(List.map (fun(x:z.T) ↦List.map AV.sc (qb z x)) w.basic).flatten;let ak:=(List.map (fun(x:z.T) ↦List.map AV.sc (qb z x)) w.free).flatten;let P:=[aa,ab,fZ.cells [AV.sc (Value.int .i64 w.n),AV.sc (Value.int .i64 w.m),AV.os 3 0 w.k0 (w.k0*1),AV.os 4 0 w.k1 (w.k1*3),AV.sl w.cost.length (List.map (fun(x:sF.T) ↦qd bD.b x.fst++qd (y.fa.pair y.fa) x.snd) w.cost).flatten,AV.sc (Value.bool w.v.fst),AV.sl R.length (List.map (fun(x:y.T) ↦List.map AV.sc (qb y x)) R).flatten,AV.sl S.length (List.map (fun(x:y.T) ↦List.map AV.sc (qb y x)) S).flatten,AV.os 5 0 w.k3 (w.k3*1),AV.os 6 0 w.k4 (w.k4*1)] 179 10 false,fZ.cells ah 72 1 false,fZ.cells ai 70 3 false,fZ.cells aj 3 1 false,fZ.cells ak 3 1 false];let Y:=kD P (nat_lit 396) ah ag;let Z:=if List.elem 4 Y=true then Y else kD P (nat_lit 395) ai (Y++[4]);let a0:=if List.elem 5 Z=true then Z else kD P (nat_lit 390) aj (Z++[5]);let al:=J.same J/\K.same K/\(h [e s.n,e s.m,f 3 s.k0 1,f 4 s.k1 3,c sF s.cost,l s.v.fst,c y M,c y N,f 5 s.k3 1,f 6 s.k4 1] 179 10 false).same a3/\(d sF.fa s.iP 72 false).same a4/\(d sF s.bound 70 false).same a5/\(d z s.basic 3 false).same a6/\(d z s.free 3 false).same a7/\True;let am:=∃(n:Int),∃(m:Int),∃(t:Tb),s=eK n m t/\SQ n m t/\∀(v:Int),v∈t.basic->k<=v;let an:=fun(u:Bool) ↦(!decide (sx a2 E.n.toNat<k))=u;let ao:=fun(u:Int) (u_1:SV) ↦false=true->(q [p [j u,o,F,F,F,F,F],u_1]).same a9;((B.length<=160/\C.length<=40)/\(∀(x:fO),x∈B->aav x/\okF x=true)/\∀(r:List fO×fO),r∈C->r.fst.length=B.length/\(∀(x:fO),x∈r.fst->aav x/\okF x=true)/\aav r.snd/\okF r.snd=true)/\ao k a8/\(false=false->(B.length<=1000/\C.length<=1000/\∀(r:List fO×fO),r∈C->r.fst.length<=1000)/\(∃(n:Int),∃(m:Int),∃(t:Tb),L=eK n m t/\SQ n m t/\RN m.toNat t)/\ao (2:Int) Q/\(false=false->(∃(n:Int),∃(m:Int),∃(t:Tb),D=eK n m t/\SQ n m t/\∃(g:List Rat),B=fL g/\g.length=n.toNat/\t.free=pA n.toNat/\∀(v:Int),v∈t.basic->n<=v)/\(∃(n:Int),∃(m:Int),∃(t:Tb),E=eK n m t/\SQ n m t/\okO n.toNat m.toNat t)/\(an true->am/\al/\False)/\(an false->am/\al/\(∃(n:Int),∃(m:Int),∃(t:Tb),w=eK n m t/\SQ n m t/\True)/\(J.same J/\K.same K/\a3.same (h [e A.n,e A.m,f 3 A.k0 1,f 4 A.k1 3,c sF A.cost,l A.v.fst,c y A.v.snd.fst,c y A.v.snd.snd,f 5 A.k3 1,f 6 A.k4 1] 179 10 false)/\a4.same (d sF.fa A.iP 72 false)/\a5.same (d sF A.bound 70 false)/\a6.same (d z A.basic 3 false)/\a7.same (d z A.free 3 false)/\True)/\if(((if List.elem 6 X=true then X else kD O (nat_lit 389) af (X++[6])).all fun(i:Nat) ↦decide (i<7))&&(((if List.elem 6 a0=true then a0 else kD P (nat_lit 389) ak (a0++[6])).all fun(i:Nat) ↦decide (i<7))&&true))=true then(q [p [j 1,l s.v.fst,c y M,c y N,c sF (fL (AQ s.t s.n.toNat s.m.toNat)),c sF (fL (SS w.t w.n.toNat w.m.toNat w.n.toNat)),F],Q]).same a9 else False)))) (by kernel_rfl) ?_
 simp only[aFI,aFE,aem,awZ,aw0,axq,axr,aFJ,aFK,aFL,Int.toNat_natCast]
 try simp only[vcs]
 obtain⟨M,G,hs⟩:=hok.small
 obtain⟨r1,r2,r3⟩:=aFG hok
 have hw:=hs.wf
 have hz:=hs.szT (Run.refl hs.wf hs.nd)
 have hn:=hok.n
 have hm:=hok.m
 have hO:=aFF hok
 have k1:SQ a.1.length a.2.length (WB a):=⟨⟨by omega,by omega⟩,by simpa using hw,hz⟩
 have k0:SQ a.1.length a.2.length (adK a):=by
  refine⟨⟨by omega,by omega⟩,⟨hw.iP,hw.row,hw.bound,by simp[adK],hw.basic,hw.free⟩,hz.1,hz.2.1,fun q hq=>?_,hz.2.2.2⟩
  rw[(List.mem_replicate.1 hq).2];exact hz.2.2.2
 have k2:SQ a.1.length a.2.length (lpT a):=aw6 hs (by simpa using r1) (by omega) (by omega)
 have hl:lastT a.1.length a.2.length (WB a)=lpT a:=rfl
 have aqA:((a.1,a.2):Lp)=a:=rfl
 simp only[hl,aqA,aFM,aFN,aFO]
 have mem2:∀i,i<a.2.length->bo a.2 i ([],0)∈a.2:=fun i hi=>nA hi
 have hrow:∀r∈a.2,r.1.length=a.1.length/\(∀q∈r.1,Sz 1000000 q)/\Sz 1000000 r.2:=fun r hr=>by
  obtain⟨i,hi,rfl⟩:=List.getElem_of_mem hr
  have h1:=hw.row i hi
  have e:bo (WB a).iP i []=a.2[i].1:=by
   show bo (a.2.map (·.1)) i []=_
   rw[jV (by rw[List.length_map];exact hi),List.getElem_map]
  rw[e] at h1
  refine⟨h1,hz.1 _ (List.mem_map.2 ⟨a.2[i],hr,rfl⟩),hz.2.1 _ (List.mem_map.2 ⟨a.2[i],hr,rfl⟩)⟩
 have hg:∀q∈a.1,Sz 1000000 q:=hz.2.2.1
 have hF:∀{l:List Rat},(∀q∈l,Sz 1000000 q)->∀x∈fL l,aav x/\okF x=true:=fun h x hx=>by
  obtain⟨q,hq,rfl⟩:=List.mem_map.1 hx
  exact axt (h q hq)
 have hdg:(∀x∈(GH a).1,aav x/\okF x=true)/\∀r∈(GH a).2,r.1.length=a.1.length/\(∀x∈r.1,aav x/\okF x=true)/\aav r.2/\okF r.2=true:=by
  refine⟨hF hg,fun r hr=>?_⟩
  obtain⟨r0,hr0,rfl⟩:=List.mem_map.1 hr
  obtain⟨h1,h2,h3⟩:=hrow r0 hr0
  exact⟨by rw[<-h1];exact zx,hF h2,axt h3⟩
 have hb0:∀v∈(lpT a).basic,0<=v:=fun v hv=>by
  have:=r1.perm.mem_iff.1 (List.mem_append_left _ hv)
  simp only[WB,List.mem_append,List.mem_map,QZ] at this
  rcases this with⟨i,hi,rfl⟩|h
  ·omega
  ·exact h.1
 have hbn:∀v∈(adK a).basic,(a.1.length:Int)<=v:=fun v hv=>by
  simp only[adK,WB,List.mem_map,QZ] at hv
  obtain⟨i,hi,rfl⟩:=hv
  omega
 refine⟨⟨⟨hn,hm⟩,hdg.1,hdg.2⟩,fun h=>(by cases h),fun _=>⟨⟨by omega,by omega,fun r hr=>by have:=(hdg.2 r hr).1;omega⟩,⟨_,_,_,rfl,k0,by rw[Int.toNat_natCast];exact hok.ahL⟩,fun h=>(by cases h),fun _=>⟨⟨_,_,_,rfl,k0,a.1,rfl,by simp,rfl,hbn⟩,⟨_,_,_,rfl,k1,by simpa using hO⟩,fun h=>absurd r3 h,fun _=>⟨⟨_,_,_,rfl,k2,hb0⟩,⟨_,_,_,rfl,k2⟩,?_⟩⟩⟩⟩
 rw[if_pos (by decide)]
 rfl
theorem amt {f:List Int} {d:Int} {i:Int} (h:0<=i) (c:i<f.length):ek (f.take (i+1).toNat) d=ek (f.take i.toNat) d++if bo f i.toNat 0=d then[i] else[]:=by
 have a:(f.take (i+1).toNat).length=i.toNat+1:=by grind
 have b:(f.take i.toNat).length=i.toNat:=by grind
 unfold ek;rw[a,b,aek,List.filter_append]
 have e:∀{k:Nat} {m:Nat},k<m->m<=f.length->bo (f.take m) k 0=bo f k 0:=fun {k m} c j=>by
  grind[jV]
 congr 1
 ·refine List.filter_congr fun x g=>?_
  grind[QZ]
 grind
theorem aFP {f:List Int} {d:Int} {i:Int} (h:i=f.length):ek (f.take i.toNat) d=ek f d:=by
 rw[h,Int.toNat_natCast,List.take_length]
def Ie (f:List Int):Bool:=f.all fun x=>decide (-1<=x)&&decide (x<=1)
def Ig (p:cn) (f:List Int):Int:=if dV p≠0 then dV p else if f.length≠p.offers.length then 3 else if Ie f=true then 0 else 4
def aqB:fN:=⟨63,cn×List Int,.cons ql (.one (qX (.i .i64))),fun a=>a.2.length<=1000000000000,fun a=> .si .i64 (Ig a.1 a.2)⟩
def aFQ (p:cn) (f:List Int):Nat->jW
 |7=> .inv Int (fun i=>⟨[(19,.row (.i .i64) f),(20,.si .i64 f.length),(21,.si .i64 i)],[.cells p.ss 27 20 false]⟩)
   (fun s=>iS s 21) (fun i=>(0<=i/\i<=f.length)/\Ie (f.take i.toNat)=true) (fun i=>(f.length - i).toNat) fun _ _=> .look
 |_=> .look
theorem h393:Holds Tryz.prog aqB:=by
 refine lj (L:=[r79]) aqB (fun a=>aFQ a.1 a.2) (by grind[h79]) ?_
 rintro⟨p,f⟩ (D:f.length<=1000000000000)
 refine gw (let a:=SV.si .i64;let d:=(0:Int);let g:=SV.il .i64;let v:=decide (dV p≠d);let e:=a (Ig p f);let q:=(↑f.length:Int);let r:=decide (q≠(↑p.offers.length:Int));let n:=SV.row (bD.i .i64) f;let c:=(↑f.length:Int);let o:=a c;let w:=g 0;let m:=cC.cells (cn.ss p) 27 20 false;True/\(v=true->(a (dV p)).same e)/\(v=false->(r=true->(g 3).same e)/\(r=false->(((n.same n/\(a q).same o/\w.same (a 0)/\True)/\m.same m/\True)/\(d<=d/\d<=c)/\Ie []=true)/\∀(x:Int),let s:=bo f x.toNat d;let l:=decide (s<(-1:Int));let j:=decide ((1:Int)<s);let b:=x+(1:Int);let k:=a b;(d<=x/\x<=c)/\Ie (List.take x.toNat f)=true->(decide (x<c)=true->d<=x/\x<q/\x.toNat<f.length/\(l=true->(g 4).same e)/\(l=false->(j=true->(g 4).same e)/\(j=false->iR .i64 b/\((n.same n/\o.same o/\k.same k/\True)/\m.same m/\True)/\((d<=b/\b<=c)/\Ie (List.take b.toNat f)=true)/\(c - b).toNat<(c - x).toNat)))/\(decide (x<c)=false->w.same e)))) (by kernel_rfl) ?_
 simp only[vcs]
 refine⟨fun h=>by simp[Ig,h],fun h=>?_⟩
 have F:dV p=0:=Classical.not_not.1 h
 refine⟨fun y=>by
  grind[Ig],fun y=>⟨⟨⟨by omega,by omega⟩,rfl⟩,?_⟩⟩
 have u:f.length=p.offers.length:=by omega
 rintro i ⟨⟨A,G⟩,g⟩
 refine⟨fun t=>?_,fun t=>?_⟩
 ·have B:=nA (d:=0) (show i.toNat<f.length by omega)
  have H:=aal (d:=0) A t
  have z:¬(-1<=bo f i.toNat 0/\bo f i.toNat 0<=1)->(4:Int)=Ig p f:=fun E=>by
   have:Ie f=false:=by
    rw[Bool.eq_false_iff];intro C
    have:=List.all_eq_true.1 C _ B
    grind
   grind[Ig]
  grind[Ie]
 ·rw[show i.toNat=f.length by omega,List.take_length] at g
  grind[Ig]
def RR (p:cn) (f:List Int):Int:=jd ((ek f 1).map (oI p))
theorem aqC {p:cn} (c:dV p=0) {f:List Int} {k:Nat} (g:f.length=p.offers.length):0<=RR p (f.take k)/\RR p (f.take k)<=160000000:=by
 have a:=pz c
 have e:=@afb (f.take k) 1
 have h:(f.take k).length<=f.length:=by grind
 have j:=@acT p a ((ek (f.take k) 1).map (oI p)) fun x b=>by
  obtain⟨i,d,rfl⟩:=List.mem_map.1 b
  have:=(SR.1 d).1
  exact nA (by omega)
 have l:=a.2.1
 grind[RR]
theorem aFR {p:cn} {f:List Int} {i:Int} (b:0<=i) (a:i<f.length):RR p (f.take (i+1).toNat)=RR p (f.take i.toNat)+if bo f i.toNat 0=1 then(oI p i).value else 0:=by
 unfold RR;rw[amt b a,List.map_append,abK]
 grind[jd]
def Ln (p:cn) (f:List Int):Lp:=((od p f).cost,(pA (mF p)).map fun r=>((ek f 0).map fun i=>((uu p r (oI p i):Int):Rat),((pg p r - lT p ((ek f 1).map (oI p)) r:Int):Rat)))
theorem amu {p:cn} {f:List Int}:WB (Ln p f)=od p f:=by
 simp_all[WB,Ln,od,pA]
def Zc (p:cn) (f:List Int) (j:Nat):List fO:=fL (((ek f 0).take j).map fun i=>(((oI p i).value:Int):Rat))
def aa4 (p:cn) (f:List Int) (r:Int) (j:Nat):List fO:=fL (((ek f 0).take j).map fun i=>((uu p r (oI p i):Int):Rat))
def aa5 (p:cn) (f:List Int) (k:Nat):List (List fO×fO):=(pA k).map fun r=>(aa4 p f r (ek f 0).length,cJ ((pg p r - lT p ((ek f 1).map (oI p)) r:Int):Rat))
theorem axu {p:cn} {f:List Int}:Zc p f (ek f 0).length=(GH (Ln p f)).1:=by
 unfold Zc;rw[List.take_length];rfl
theorem axv {p:cn} {f:List Int}:aa5 p f (mF p)=(GH (Ln p f)).2:=by
 simp_all[aa5,GH,Ln,aa4]
theorem aqD {p:cn} {f:List Int} {j:Nat} (h:j<=(ek f 0).length):(Zc p f j).length=j:=by
 grind[Zc,zx]
theorem axw {p:cn} {f:List Int} {r:Int} {j:Nat} (h:j<=(ek f 0).length):(aa4 p f r j).length=j:=by
 grind[aa4,zx]
theorem axx {p:cn} {f:List Int} {k:Nat}:(aa5 p f k).length=k:=by
 grind[aa5,FC]
theorem axy {l m:List Rat}:fL (l++m)=fL l++fL m:=List.map_append
theorem aFS {p:cn} {f:List Int} {j:Int} (a:0<=j) (h:j<(ek f 0).length):Zc p f (j+1).toNat=Zc p f j.toNat++[cJ (((oI p (bo (ek f 0) j.toNat 0)).value:Int):Rat)]:=by
 unfold Zc;rw[aal (d:=0) a h,List.map_append,axy];rfl
theorem aFT {p:cn} {f:List Int} {r j:Int} (a:0<=j) (h:j<(ek f 0).length):aa4 p f r (j+1).toNat=aa4 p f r j.toNat++[cJ ((uu p r (oI p (bo (ek f 0) j.toNat 0)):Int):Rat)]:=by
 unfold aa4;rw[aal (d:=0) a h,List.map_append,axy];rfl
theorem aFU {p:cn} {f:List Int} {r:Int} (a:0<=r):aa5 p f (r+1).toNat=aa5 p f r.toNat++[(aa4 p f r (ek f 0).length,cJ ((pg p r - lT p ((ek f 1).map (oI p)) r:Int):Rat))]:=by
 unfold aa5
 rw[show(r+1).toNat=r.toNat+1 by omega,aek,List.map_append,show((r.toNat:Nat):Int)=r by omega]
 rfl
def DU (p:cn) (f:List Int):Bool:=yx p ((ek f 1).map (oI p))
def aax (p:cn) (f:List Int):List fO×(List (List fO×fO)×List Int):=if DU p f=true then((GH (Ln p f)).1,((GH (Ln p f)).2,ek f 0)) else([],([],[]))
theorem aFV {p:cn} {f:List Int} (h:FG p f):ajK (Ln p f):=by
 have a:=pz h.1
 have c:(Ln p f).1.length=nF f:=by
  show((ek f 0).map _).length=_
  simp_all
 have b:(Ln p f).2.length=mF p:=by
  show((pA (mF p)).map _).length=_
  grind[FC]
 have g:=@afb f 0
 have i:mF p=p.classes.length+12:=rfl
 refine⟨?_,?_,?_,?_,?_⟩
 ·rw[c];have:=h.2.1;have:=a.2.1;grind
 ·rw[b];have:=a.1;omega
 ·grind[amu,amm]
 ·grind[amu,aqt]
 ·rw[c,b,amu];exact⟨_,fun x z d e=>axh h d e⟩
theorem aFW {p:cn} {f:List Int}:lpT (Ln p f)=uz p f:=by
 have b:(Ln p f).1.length=nF f:=by
  show((ek f 0).map _).length=_
  simp_all
 have a:(Ln p f).2.length=mF p:=by
  show((pA (mF p)).map _).length=_
  grind[FC]
 grind[lpT,uz,amu]
noncomputable def Qp (p:cn) (f:List Int) (k:Nat):List Rat:=(pA f.length).map fun i=>if bo f i.toNat 0=1 then 1 else if i∈(ek f 0).take k then bo (AQ (uz p f) (nF f) (mF p)) ((ek f 0).idxOf i) 0 else 0
noncomputable def GI (p:cn) (f:List Int):Rat:=((RR p f:Int):Rat)+(uz p f).value
noncomputable def ahW (p:cn) (f:List Int):List Rat:=SS (uz p f) (nF f) (mF p) (nF f)
theorem ahX {p:cn} {f:List Int} {k:Nat}:(Qp p f k).length=f.length:=by
 grind[Qp,FC]
theorem amv {p:cn} {f:List Int} {k i:Nat} (h:i<f.length):bo (Qp p f k) i 0=if bo f i 0=1 then 1 else if(i:Int)∈(ek f 0).take k then bo (AQ (uz p f) (nF f) (mF p)) ((ek f 0).idxOf (i:Int)) 0 else 0:=by
 unfold Qp
 rw[ahS (e:=0) (by grind[FC]),ajB h,Int.toNat_natCast]
theorem aFX {l m:List Rat} (a:l.length=m.length) (h:∀i,i<m.length->bo l i 0=bo m i 0):l=m:=List.ext_getElem a fun i b c=>by
 grind[jV]
theorem aFY {p:cn} {f:List Int} {k:Nat} (b:k<nF f):(Qp p f k).set (bo (ek f 0) k 0).toNat (bo (AQ (uz p f) (nF f) (mF p)) k 0)=Qp p f (k+1):=by
 have g:=SR.1 (nA (d:=0) b)
 refine aFX (by grind[ahX]) fun i a=>?_
 rw[ahX] at a
 have c:(ek f 0).idxOf (bo (ek f 0) k 0)=k:=acr (adI.imp fun h=>by omega) b
 have e:(ek f 0).take (k+1)=(ek f 0).take k++[bo (ek f 0) k 0]:=by simp_all[jV]
 rw[adH (by grind[ahX]),amv a,amv a,e]
 grind
theorem aFZ {p:cn} {f:List Int} {i:Nat} (h:i<f.length):bo (Qp p f 0) i 0=if bo f i 0=1 then 1 else 0:=by
 grind[amv]
def FQ (p:cn) (f:List Int):Bool:=decide (Ig p f=0)&&DU p f
noncomputable def F2 (p:cn) (f:List Int):fO:=if FQ p f=true then cJ (GI p f) else(false,([],[]))
noncomputable def ac2 (p:cn) (f:List Int):List fO:=if FQ p f=true then fL (ahW p f) else[]
noncomputable def RS (p:cn) (f:List Int):List fO:=if FQ p f=true then fL (Qp p f (nF f)) else[]
noncomputable def aF0 (p:cn) (f:List Int):SV:=.agg [.sb (FQ p f),.sb (F2 p f).1,.row (.i .u32) (F2 p f).2.1,.row (.i .u32) (F2 p f).2.2,.row sF (ac2 p f),.row sF (RS p f)]
def amw (p:HT) (lo:Nat) (Λ:Nat->jW):IR->iz->(iz->Prop)->Prop
 | .skip,b,K=>K b
 | .seq x y,b,K=>wpS p lo x Λ b fun c a=>match c with
  | .norm=>amw p lo Λ y a K
  |_=>False
 |_,_,_=>False
def ajL (p:HT) (Λ:Nat->jW) (F:uC) (args:List SV) (o:ie) (Q:SV->ie->Prop):Prop:=
 match F.body with
 | .dfr g c d a b=>amw p o.length Λ a ⟨aaM 0 args,o⟩ fun e=>wpS p e.o.length b Λ ⟨(d,.ud)::e.env,e.o⟩ fun i j=>if ada i=true then
   (match p.it g with
    |some G=>if(c.map (Ky e.env)).length=G.params/\G.res.isEmpty=true then wpS p j.o.length G.body (fun n=>Λ (1000+n)) ⟨aaM 0 (c.map (Ky e.env)),j.o⟩ fun f h=>if ada f=true then
      abg ⟨j.env,h.o⟩ F.res fun r=>if r.ig o.length&&h.o.all (fun x=>x.ig o.length)&&decide (o.length<=h.o.length) then Q r (h.o.take o.length) else False
     else False else False
    |none=>False) else False
 |_=>False
section
variable {P:Program} {T:Tab} {p:HT} {Λ:Nat->jW}
theorem aF1 (i:acd T.K p.C) (j:∀f F,p.it f=some F->T.fn f=some F) {lo:Nat}:∀{a:IR} {st:iz} {K:iz->Prop},amw p lo Λ a st K->∃s0:iz,(∃N,∀n,N<=n->ac9 (exec T .plain n lo) a st.g=some s0.g)/\K s0:=by
 intro a
 induction a with
 |skip=>intro st K h;exact⟨st,⟨0,fun _ _=>rfl⟩,h⟩
 |seq x y _ d=>
  intro st K h;simp only[amw] at h
  obtain⟨c,s,⟨N,e⟩,r,rfl,b⟩:=afL i j h
  cases c with
  |norm=>
   obtain⟨s0,⟨M,m⟩,k⟩:=d b
   refine⟨s0,⟨N+M,fun n o=>?_⟩,k⟩
   simp only[ac9,e n n (by omega) (by omega)]
   grind
  |exit q=>exact b.elim
  |ret=>exact b.elim
  |goto l=>exact b.elim
 |_=>intro st K h;exact h.elim
theorem aF2 (J:Sv P T) (u:acd T.K p.C) (n:∀f F,p.it f=some F->T.fn f=some F) {f:FuncId} {F:uC} (S:T.fn f=some F) {args:List SV} {o:ie} {r:AV} {o':Store} (V:T.K f (gL args) (gO o) true=none) (B:args.length=F.params)
  {Q:SV->ie->Prop} (A:∀v s,Q v s->v.g=r/\gO s=o') (h:ajL p Λ F args o Q):By P f=true/\Uc P f (gL args) (gO o) r o':=by
 unfold ajL at h;split at h
 ·rename_i g a d ia ib Z
  obtain⟨b,h1,h⟩:=aF1 u n h
  obtain⟨O,U,h2,c,rfl,h⟩:=afL u n h
  split at h
  ·rename_i k
   split at h
   ·rename_i G hG
    split at h
    ·rename_i Y
     obtain⟨D,I,h3,i,rfl,h⟩:=afL u n h
     split at h
     ·rename_i j
      obtain⟨t,k1,m⟩:=ahb h
      split at m
      ·rename_i y
       simp only[Bool.and_eq_true,decide_eq_true_eq,List.all_eq_true] at y
       obtain⟨⟨a2,L⟩,N⟩:=y
       have R:(iz.mk (aaM 0 args) o).g=⟨EF 0 (gL args),gO o⟩:=by simp[iz.g,afM]
       have w:(gO o).length=o.length:=abj o
       have a1:b.g.o.length=b.o.length:=abj b.o
       have a0:c.g.o.length=c.o.length:=abj c.o
       have H:a.map (s4 b.g.env)=gL (a.map (Ky b.env)):=by
        rw[yh,List.map_map]
        refine List.map_congr_left fun x _=>?_
        show s4 (gE b.env) x=_
        grind[aiI]
       have z:(iz.mk ((d,.ud)::b.env) b.o).g=⟨(d,.ud)::b.g.env,b.g.o⟩:=by simp[iz.g,gE,SV.g]
       have E:(iz.mk (aaM 0 (a.map (Ky b.env))) c.o).g=⟨EF 0 (gL (a.map (Ky b.env))),c.g.o⟩:=by simp[iz.g,afM]
       have W:(iz.mk c.env i.o).g=⟨c.g.env,i.g.o⟩:=rfl
       have q:∀x∈gO i.o,x.ig o.length=true:=by
        grind[gO,akY]
       have l:finish true (gO o).length t.g i.g.o=some (r,o'):=by
        simp only[finish,if_true,w]
        have e:XP o.length t.g i.g.o=some (t.g,(i.g.o).take o.length):=atV (by grind[aiJ]) q (by show o.length<=(gO i.o).length;grind[abj])
        rw[e,<-(A _ _ m).1,<-(A _ _ m).2]
        simp_all[iz.g,gO]
       obtain⟨X,M,_⟩:=aA3 J S Z (own:=true) V (by grind[MF]) (s0:=b.g) (s2:=c.g) (s3:=i.g) (by simp_all) (by simp_all) k (n g G hG) (by grind) Y.2 (by simp_all) j (by simp_all) l
       exact⟨X,M⟩
      ·exact m.elim
     ·exact h.elim
    ·exact h.elim
   simp_all
  ·exact h.elim
 simp_all
end
theorem axz {P:Program} {d:FuncId->Option uC} {L:List fN} {W:List ob} (c:ob) {F:uC} {k:TypeId->Option bD} {e:List Nat×Bool->Option (bD×bD)} {Λ:c.α->Nat->jW}
  (n:Sv P ⟨d,fun _ _ _ _=>none⟩) (i:∀c∈W,qH P c) (o:∀c∈L,Holds P c)
  (l:d c.f=some F) (b:∀a,(c.put a).length=F.params)
  (a:c.α) (m:YA c.f W=none)
  (h:ajL (SC L (A2 W) k e d) (Λ a) F (c.put a) (c.st a) fun v s=>v.same (c.res a)/\ME s (c.out a)):
  By P c.f=true/\Uc P c.f (gL (c.put a)) (gO (c.st a)) (c.res a).g (gO (c.out a)):=by
 refine aF2 (p:=SC L (A2 W) k e d) (Λ:=Λ a) (Q:=fun v s=>v.same (c.res a)/\ME s (c.out a)) (ad7 (Xy i) o n) (ad8 (Xy i)) (fun _ _ h=>h) l ?_ (b a) (fun v s j=>⟨j.1,aha j.2⟩) h
 simp_all[ace,adr,A2,aeR]
theorem aF3 {k:Nat} {r a:AV} {o mid o2:Store} (c:r.gy o (fun i=>decide (k<=i))=some a) (g:Kv o (fun i=>decide (k<=i)) o=some mid) (e:zl (fun i=>decide (k<=i)) 0 mid=o2) (f:a.ig k=true) (d:∀x∈o2,x.ig k=true) (l:k<=o2.length):XP k r o=some (a,o2.take k):=by
 unfold XP;rw[c,g];simp only[e]
 have m:∀x∈o2.take k,x.ig k=true:=fun x h=>d x (List.mem_of_mem_take h)
 rw[atQ (by grind[sf,aoc])]
 have j:Hh.ab0 (List.range k)=true:=by rw[List.range_eq_range'];exact nodup_range'
 rw[if_pos j,ak2 f]
 have b:=aob (k:=k) (o:=o2) m l (n:=k) (s:=0) (by omega)
 rw[<-List.range_eq_range',List.drop_zero] at b;rw[b]
def amx (k:Nat) (r:SV) (o:ie) (K:SV->ie->Prop):Prop:=
 Xz o k r fun b=>abI o k 0 o fun a=>if b.ig k&&a.all (fun x=>x.ig k)&&decide (k<=a.length) then K b (a.take k) else False
theorem aF4 {k:Nat} {r:SV} {o:ie} {K:SV->ie->Prop} (h:amx k r o K):∃r' o',XP k r.g (gO o)=some (r'.g,gO o')/\K r' o':=by
 unfold amx at h
 obtain⟨l,p,f⟩:=aoq h
 obtain⟨c,i,n,m,a⟩:=ahg f
 split at a
 ·rename_i b
  simp only[Bool.and_eq_true,decide_eq_true_eq,List.all_eq_true] at b
  obtain⟨⟨d,j⟩,e⟩:=b
  refine⟨l,c.take k,?_,a⟩
  simp_all[aF3,aiJ,gO,akY]
 simp_all
def amy (p:HT) (Λ:Nat->jW) (F:uC) (args:List SV) (o:ie) (Q:SV->ie->Prop):Prop:=
 wpS p o.length F.body Λ ⟨aaM 0 args,o⟩ fun a b=>match a with
  | .exit _=>False
  | .goto _=>False
  |_=>abg b F.res fun r=>amx o.length r b.o Q
theorem aF5 {P:Program} {T:Tab} {p:HT} {Λ:Nat->jW} (A:Sv P T) (t:acd T.K p.C) (y:∀f F,p.it f=some F->T.fn f=some F) {f:FuncId} {F:uC} (n:T.fn f=some F) {args:List SV} {o:ie} {r:AV} {o':Store} (z:T.K f (gL args) (gO o) true=none) (j:args.length=F.params)
  {Q:SV->ie->Prop} (D:∀v s,Q v s->v.g=r/\gO s=o') (h:amy p Λ F args o Q):By P f=true/\Uc P f (gL args) (gO o) r o':=by
 unfold amy at h
 have e:=afL t y h
 have d:(iz.mk (aaM 0 args) o).g=⟨EF 0 (gL args),gO o⟩:=by simp[iz.g,afM]
 rw[d] at e
 have i:(gO o).length=o.length:=abj o
 rw[<-i] at e
 have x:∀(a:iz),(abg a F.res fun v=>amx (gO o).length v a.o Q)->(aa8 a.g F.res).bind (fun c=>finish true (gO o).length c a.g.o)=some (r,o'):=by
  intro a m
  obtain⟨c,k,l⟩:=ahb m
  obtain⟨u,q,w,E⟩:=aF4 l
  rw[k];simp only[Option.bind_some,finish,if_true]
  have:XP (gO o).length c.g a.g.o=some (u.g,gO q):=w
  grind
 obtain⟨k,l,_⟩:=akL A n (o:=gO o) (own:=true) z (by grind[MF]) (v:=r) (o':=o') (e.mono fun b s B=>by
  obtain⟨a,rfl,m⟩:=B
  cases b<;>simp_all)
 simp_all
theorem aF6 {P:Program} {d:FuncId->Option uC} {L:List fN} {W:List ob} (c:ob) {F:uC} {k:TypeId->Option bD} {e:List Nat×Bool->Option (bD×bD)} {Λ:c.α->Nat->jW}
  (n:Sv P ⟨d,fun _ _ _ _=>none⟩) (i:∀c∈W,qH P c) (o:∀c∈L,Holds P c)
  (l:d c.f=some F) (b:∀a,(c.put a).length=F.params)
  (a:c.α) (m:YA c.f W=none)
  (h:amy (SC L (A2 W) k e d) (Λ a) F (c.put a) (c.st a) fun v s=>v.same (c.res a)/\ME s (c.out a)):
  By P c.f=true/\Uc P c.f (gL (c.put a)) (gO (c.st a)) (c.res a).g (gO (c.out a)):=by
 refine aF5 (p:=SC L (A2 W) k e d) (Λ:=Λ a) (Q:=fun v s=>v.same (c.res a)/\ME s (c.out a)) (ad7 (Xy i) o n) (ad8 (Xy i)) (fun _ _ h=>h) l ?_ (b a) (fun v s j=>⟨j.1,aha j.2⟩) h
 simp_all[ace,adr,A2,aeR]
end Go.Vi
