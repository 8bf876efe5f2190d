/-
  Plain law: the search, its tree of nodes, what it proves.
  Conditions: none.
-/
import Derived.Test.YtgejbpobaicgfaaGreatRK06
import Derived.Test.YtgejbpobaicgfaaGreatRK07
import Derived.Test.YtgejbpobaicgfaaGreatRK08
import Derived.Test.YtgejbpobaicgfaaGreatRK09
import Derived.Test.YtgejbpobaicgfaaGreatRK10
import Derived.Test.YtgejbpobaicgfaaGreatRK11
import Derived.Test.YtgejbpobaicgfaaGreatRK12
set_option maxRecDepth 100000
set_option maxHeartbeats 4000000
set_option linter.all false
namespace Go.Vi
abbrev Nod:=Int×(Int×(Int×(Int×List fO)))
@[reducible] def sg:bD:=.pair (.i .i64) (.pair (.i .i64) (.pair (.i .i64) (.pair (.i .i64) (.fa sF))))
def zN:Nod:=(0,(0,(0,(0,[]))))
def cfN:Nod:=(3,(0,(0,(0,[]))))
noncomputable def aq3 (p:cn) (f:List Int):Nod:=(1,(0,(0,(0,fL (ahW p f)))))
def RY (k o:Int):Nod:=(2,(k,(o,(o+1,[]))))
structure li where
 ch:List Int
 val:Int
 found:Bool
 prf:List Nod
 err:Int
def rc (en:Int->Bool) (s:li) (a:Alloc):li:=if s.val<a.value then⟨a.chosen,a.value,s.found||en a.value,s.prf,s.err⟩ else s
def aaz (q:Rat):Rat:=if q<0 then -q else q
def Lq (x:List Rat):Nat->Option (Int×Rat)
 |0=>none
 |k+1=>if 0<bo x k 0/\bo x k 0<1 then(match Lq x k with
   |none=>some ((k:Int),aaz (bo x k 0 - 1 / 2))
   |some (i,l)=>if aaz (bo x k 0 - 1 / 2)<l then some ((k:Int),aaz (bo x k 0 - 1 / 2)) else some (i,l)) else Lq x k
def Lr (x:List Rat):Option Int:=(Lq x x.length).map (·.1)
theorem aq4 {x:List Rat}:∀{k:Nat} {i:Int} {l:Rat},Lq x k=some (i,l)->(0<=i/\i<k)/\(0<bo x i.toNat 0/\bo x i.toNat 0<1)/\l=aaz (bo x i.toNat 0 - 1 / 2)
 |0,i,l,h=>by cases h
 |k+1,i,l,h=>by
  unfold Lq at h
  have b:some ((k:Int),aaz (bo x k 0 - 1 / 2))=some (i,l)->(0<bo x k 0/\bo x k 0<1)->(0<=i/\i<((k+1:Nat):Int))/\(0<bo x i.toNat 0/\bo x i.toNat 0<1)/\l=aaz (bo x i.toNat 0 - 1 / 2):=fun h f=>by
   grind
  have a:Lq x k=some (i,l)->(0<=i/\i<((k+1:Nat):Int))/\(0<bo x i.toNat 0/\bo x i.toNat 0<1)/\l=aaz (bo x i.toNat 0 - 1 / 2):=fun h=>by
   obtain⟨c,d,e⟩:=aq4 h
   grind
  grind
theorem axR {x:List Rat}:∀{k:Nat},Lq x k=none->∀i,i<k->¬(0<bo x i 0/\bo x i 0<1)
 |0,_,i,a=>by omega
 |k+1,h,i,a=>by
  unfold Lq at h;split at h
  ·grind
  ·rename_i b
   by_cases e:i=k
   ·simp_all
   ·exact axR h i (by omega)
theorem aep {x:List Rat} {k:Int} (h:Lr x=some k):(0<=k/\k<x.length)/\0<bo x k.toNat 0/\bo x k.toNat 0<1:=by
 unfold Lr at h
 obtain⟨⟨i,l⟩,b,a⟩:=Option.map_eq_some_iff.1 h
 simp only at a
 subst a
 obtain⟨c,d,_⟩:=aq4 b
 simp_all
theorem aGH {x:List Rat} (h:Lr x=none):∀i,i<x.length->¬(0<bo x i 0/\bo x i 0<1):=axR (Option.map_eq_none_iff.1 h)
noncomputable def abW (p:cn) (f:List Int):Alloc:=⟨sY (oC p f),jd ((sY (oC p f)).map (oI p))⟩
noncomputable def mA (p:cn) (en:Int->Bool) (s:li) (f:List Int):li:=if((s.val+1:Int):Rat)<=GI p f/\aay (oC p f)=true then rc en s (abW p f) else s
def A7 (s:li) (a k:Int):li:={s with prf:=(s.prf++[zN,zN]).set a.toNat (RY k s.prf.length)}
noncomputable def x5 (p:cn) (en:Int->Bool) (most:Int) (b:li->Int->List Int->li) (s:li) (a:Int) (f:List Int):li:=
 if s.err≠0\/s.found=true then s
 else if DU p f=false then {s with prf:=s.prf.set a.toNat cfN}
 else if GI p f<(((mA p en s f).val+1:Int):Rat) then {mA p en s f with prf:=(mA p en s f).prf.set a.toNat (aq3 p f)}
 else match Lr (oC p f) with
  |none=>{mA p en s f with err:=12}
  |some k=>if most<(mA p en s f).prf.length+2 then {mA p en s f with err:=12}
   else b (b (A7 (mA p en s f) a k) ((mA p en s f).prf.length+1) (f.set k.toNat 1)) (mA p en s f).prf.length (f.set k.toNat (-1))
noncomputable def pn (p:cn) (en:Int->Bool) (most:Int):Nat->li->Int->List Int->li
 |0=>x5 p en most fun s _ _=>s
 |n+1=>x5 p en most (pn p en most n)
structure uA (p:cn) (f:List Int):Prop where
 c:dV p=0
 l:f.length=p.offers.length
 r:Ie f=true
theorem uA.ok {p:cn} {f:List Int} (h:uA p f) (a:DU p f=true):FG p f:=⟨h.c,h.l,a⟩
theorem uA.e {p:cn} {f:List Int} (h:uA p f):Ig p f=0:=by
 unfold Ig
 rw[if_neg (by simp[h.c]),if_neg (by simp[h.l]),if_pos h.r]
theorem uA.FQ {p:cn} {f:List Int} (h:uA p f):FQ p f=DU p f:=by
 unfold Go.Vi.FQ;rw[h.e]
 simp
theorem axS {f:List Int} {k:Nat} {d:Int} (h:Ie f=true) (a: -1<=d/\d<=1):Ie (f.set k d)=true:=by
 grind[Ie]
theorem uA.set {p:cn} {f:List Int} (h:uA p f) {k:Nat} {d:Int} (a: -1<=d/\d<=1):uA p (f.set k d):=⟨h.c,by rw[List.length_set];exact h.l,axS h.r a⟩
theorem Ze {f:List Int} {k d:Int} (i:0<=k/\k<f.length) (l:bo f k.toNat 0=0) (g:d≠0):nF f=nF (f.set k.toNat d)+1:=by
 have c:(ek f 0).Perm (k::ek (f.set k.toNat d) 0):=by
  refine(List.perm_ext_iff_of_nodup (adI.imp fun h=>by omega) ?_).2 fun x=>?_
  ·rw[List.nodup_cons]
   refine⟨fun j=>?_,adI.imp fun h=>by omega⟩
   simp_all[SR,adH]
  ·rw[List.mem_cons,SR,SR,List.length_set]
   constructor
   ·rintro⟨a,b⟩
    by_cases e:x=k
    ·exact .inl e
    ·exact .inr ⟨a,by rw[adH (by omega),if_neg (by omega)];exact b⟩
   grind[adH]
 have:=c.length_eq
 omega
theorem amL {en:Int->Bool} {s:li} {a:Alloc}:(rc en s a).prf=s.prf/\(rc en s a).err=s.err/\s.val<=(rc en s a).val/\((rc en s a).val=s.val\/(rc en s a).val=a.value)/\((rc en s a).ch=s.ch\/(rc en s a).ch=a.chosen):=by
 grind[rc]
theorem amM {p:cn} {en:Int->Bool} {s:li} {f:List Int}:(mA p en s f).prf=s.prf/\(mA p en s f).err=s.err/\s.val<=(mA p en s f).val/\((mA p en s f).val=s.val\/(mA p en s f).val=(abW p f).value)/\((mA p en s f).ch=s.ch\/(mA p en s f).ch=(abW p f).chosen):=by
 grind[mA,amL]
theorem aGI {x:List Rat}:(sY x).length<=x.length:=by
 have:=List.length_filter_le (fun i:Int=>decide (0<bo x i.toNat 0)) (pA x.length)
 rw[FC] at this;exact this
theorem aGJ {p:cn} {f:List Int} (b:f.length=p.offers.length):∀x∈(sY (oC p f)).map (oI p),x∈p.offers:=fun x a=>by
 obtain⟨i,c,rfl⟩:=List.mem_map.1 a
 have:=(ah0.1 c).1
 rw[adM,b] at this
 exact nA (by omega)
theorem axT {p:cn} {f:List Int} (h:uA p f):0<=(abW p f).value/\(abW p f).value<=160000000/\(abW p f).chosen.length<=160:=by
 have a:=pz h.c
 have b:=@acT p a ((sY (oC p f)).map (oI p)) (aGJ h.l)
 have d:=@aGI (oC p f)
 rw[adM,h.l] at d
 have e:=a.2.1
 rw[List.length_map] at b
 refine⟨b.1,?_,?_⟩
 ·show jd _<=_
  omega
 ·show(sY (oC p f)).length<=160
  omega
theorem axU {p:cn} (a:dV p=0) {c:List Int} (h:vd p.offers.length c):lF p c=0↔yx p (c.map (oI p))=true:=by
 simp_all[ahH,y5,nn,lF]
theorem ah1 {p:cn} (a:dV p=0) {c:List Int} (h:vd p.offers.length c):nD p c=jd (c.map (oI p)):=by
 simp_all[nn,ahH,nD]
theorem adN {p:cn} {en:Int->Bool} {most:Int}:∀{n:Nat} {s:li} {a:Int} {f:List Int},uA p f->s.prf.length<=(pn p en most n s a f).prf.length/\((pn p en most n s a f).prf.length<=most\/(pn p en most n s a f).prf.length=s.prf.length)/\s.val<=(pn p en most n s a f).val/\((pn p en most n s a f).val=s.val\/(pn p en most n s a f).val<=160000000)/\((pn p en most n s a f).ch=s.ch\/(pn p en most n s a f).ch.length<=160)/\((pn p en most n s a f).err=s.err\/(pn p en most n s a f).err=12):=by
 have d:∀{b:li->Int->List Int->li},(∀{s:li} {a:Int} {f:List Int},uA p f->s.prf.length<=(b s a f).prf.length/\((b s a f).prf.length<=most\/(b s a f).prf.length=s.prf.length)/\s.val<=(b s a f).val/\((b s a f).val=s.val\/(b s a f).val<=160000000)/\((b s a f).ch=s.ch\/(b s a f).ch.length<=160)/\((b s a f).err=s.err\/(b s a f).err=12))->
   ∀{s:li} {a:Int} {f:List Int},uA p f->s.prf.length<=(x5 p en most b s a f).prf.length/\((x5 p en most b s a f).prf.length<=most\/(x5 p en most b s a f).prf.length=s.prf.length)/\s.val<=(x5 p en most b s a f).val/\((x5 p en most b s a f).val=s.val\/(x5 p en most b s a f).val<=160000000)/\((x5 p en most b s a f).ch=s.ch\/(x5 p en most b s a f).ch.length<=160)/\((x5 p en most b s a f).err=s.err\/(x5 p en most b s a f).err=12):=by
  intro b c s a f h
  obtain⟨v,j,E,l,r⟩:=@amM p en s f
  obtain⟨H,A,L⟩:=axT h
  have w:(mA p en s f).ch=s.ch\/(mA p en s f).ch.length<=160:=r.imp id fun h=>by simp_all
  have x:(mA p en s f).val=s.val\/(mA p en s f).val<=160000000:=l.imp id fun h=>by omega
  unfold x5;split
  ·simp_all
  split
  ·simp_all
  split
  ·simp_all
  split
  ·simp_all
  rename_i k J;split
  ·simp_all
  rename_i o
  have F:(A7 (mA p en s f) a k).prf.length=s.prf.length+2:=by
   simp_all[A7]
  obtain⟨D,K,u,z,e,t⟩:=@c (A7 (mA p en s f) a k) ((mA p en s f).prf.length+1) (f.set k.toNat 1) (h.set (by omega))
  obtain⟨B,C,G,I,g,M⟩:=@c (b (A7 (mA p en s f) a k) ((mA p en s f).prf.length+1) (f.set k.toNat 1)) (mA p en s f).prf.length (f.set k.toNat (-1)) (h.set (by omega))
  have i:(A7 (mA p en s f) a k).val=(mA p en s f).val:=rfl
  have m:(A7 (mA p en s f) a k).ch=(mA p en s f).ch:=rfl
  have q:(A7 (mA p en s f) a k).err=(mA p en s f).err:=rfl
  rw[v] at o;rw[i] at u z;rw[m] at e;rw[q,j] at t
  refine⟨by omega,.inl (by omega),by omega,by omega,?_,?_⟩
  ·rcases g with g|g
   ·rw[g]
    rcases e with e|e<;>simp_all
   omega
  omega
 intro n
 induction n with
 |zero=>exact d fun {s a f} _=>⟨Nat.le_refl _,.inr rfl,Int.le_refl _,.inl rfl,.inl rfl,.inl rfl⟩
 |succ n y=>exact d fun h=>y h
inductive Zi (p:cn) (v:Int) (t:List Nod):Nat->List Int->Nat->Nat->Prop
 |bnd {a:Nat} {f:List Int} {lo:Nat}:t[a]?=some (aq3 p f)->DU p f=true->GI p f<((v+1:Int):Rat)->Zi p v t a f lo lo
 |con {a:Nat} {f:List Int} {lo:Nat}:t[a]?=some cfN->DU p f=false->Zi p v t a f lo lo
 |bra {a:Nat} {f:List Int} {lo mid hi:Nat} {k:Int}:t[a]?=some (RY k lo)->a<lo->(0<=k/\k<f.length)->bo f k.toNat 0=0->Zi p v t (lo+1) (f.set k.toNat 1) (lo+2) mid->Zi p v t lo (f.set k.toNat (-1)) mid hi->Zi p v t a f lo hi
section
variable {p:cn} {v v':Int} {t t':List Nod} {a lo hi:Nat} {f:List Int}
theorem Zi.le (h:Zi p v t a f lo hi):lo<=hi:=by
 induction h with
 |bnd _ _ _=>omega
 |con _ _=>omega
 |bra _ _ _ _ _ _ b c=>omega
theorem Zi.mono (h:Zi p v t a f lo hi) (q:v<=v') (e:∀i,i=a\/(lo<=i/\i<hi)->t'[i]?=t[i]?):Zi p v' t' a f lo hi:=by
 induction h with
 |bnd c b d=>
  refine .bnd (by simp_all) b ?_
  have:((v+1:Int):Rat)<=((v'+1:Int):Rat):=by exact_mod_cast (show v+1<=v'+1 by omega)
  grind
 |con c b=>exact .con (by simp_all) b
 |bra c b d l k g m j=>
  have o:=k.le
  have n:=g.le
  exact .bra (by simp_all) b d l (m fun i hi=>e i (by omega)) (j fun i hi=>e i (by omega))
def amN (f:List Int) (l:List Int):Prop:=(∀i∈l,bo f i.toNat 0≠ -1)/\∀i∈ek f 1,i∈l
theorem axV {l:List Int} {k d:Int} (g:0<=k/\k<f.length) (m:bo f k.toNat 0=0) (e:∀i∈l,0<=i) (h:amN f l) (j:(d=1/\k∈l)\/(d= -1/\k∉l)):amN (f.set k.toNat d) l:=by
 obtain⟨b,c⟩:=h
 refine⟨fun i a=>?_,fun i a=>?_⟩<;>grind[adH,SR]
theorem aGK {l m:List Int} (e:dV p=0) (f:∀i∈l,0<=i/\i<p.offers.length) (q:m.Nodup) (j:∀i∈m,i∈l) (o:l.Nodup) (h:yx p (l.map (oI p))=true):yx p (m.map (oI p))=true:=by
 refine abk.2 fun r b=>?_
 have d:=abk.1 h r b
 have a:l.Perm (m++l.filter fun i=>decide (i∉m)):=by
  grind
 have g:lT p (l.map (oI p)) r=lT p (m.map (oI p)) r+lT p ((l.filter fun i=>decide (i∉m)).map (oI p)) r:=by
  rw[agp,agp,agp,awr (a.map _),List.map_append,List.sum_append]
 have n:=@aeS p r ((l.filter fun i=>decide (i∉m)).map (oI p)) fun x c=>by
  obtain⟨i,k,rfl⟩:=List.mem_map.1 c
  simp_all[abS]
 omega
theorem Zi.sound (h:Zi p v t a f lo hi) (e:uA p f) {l:List Int} (d:vd p.offers.length l) (b:yx p (l.map (oI p))=true) (g:amN f l):jd (l.map (oI p))<=v:=by
 induction h with
 |bnd o n m=>
  have j:=weak (e.ok n) e.r d b g.1 g.2
  have s:((jd (l.map (oI p)):Int):Rat)<((v+1:Int):Rat):=by grind
  have u:jd (l.map (oI p))<v+1:=by exact_mod_cast s
  omega
 |con o n=>
  exfalso
  have:=aGK e.c d.2 (adI.imp fun h=>by omega) g.2 (al9 d) b
  grind[DU]
 |@bra a f lo y hi k o n m j s u x w=>
  by_cases q:k∈l
  ·exact x (e.set (by omega)) (axV m j (fun i hi=>(d.2 i hi).1) g (.inl ⟨rfl,q⟩))
  ·exact w (e.set (by omega)) (axV m j (fun i hi=>(d.2 i hi).1) g (.inr ⟨rfl,q⟩))
end
theorem axW {p:cn} {en:Int->Bool} {most:Int}:∀{n:Nat} {s:li} {a:Int} {f:List Int},uA p f->nF f<=n->(0<=a/\a<s.prf.length)->(pn p en most n s a f).err=0->(pn p en most n s a f).found=false->
  Zi p (pn p en most n s a f).val (pn p en most n s a f).prf a.toNat f s.prf.length (pn p en most n s a f).prf.length/\(∀i:Nat,i<s.prf.length->i≠a.toNat->(pn p en most n s a f).prf[i]?=s.prf[i]?)/\s.err=0/\s.found=false:=by
 have y:∀{b:li->Int->List Int->li} {s:li} {a:Int} {f:List Int},uA p f->(0<=a/\a<s.prf.length)->
   (∀{s:li} {a:Int} {g:List Int},uA p g->nF f=nF g+1->(0<=a/\a<s.prf.length)->s.prf.length<=(b s a g).prf.length/\s.val<=(b s a g).val/\((b s a g).err=0->(b s a g).found=false->Zi p (b s a g).val (b s a g).prf a.toNat g s.prf.length (b s a g).prf.length/\(∀i:Nat,i<s.prf.length->i≠a.toNat->(b s a g).prf[i]?=s.prf[i]?)/\s.err=0/\s.found=false))->
   (x5 p en most b s a f).err=0->(x5 p en most b s a f).found=false->Zi p (x5 p en most b s a f).val (x5 p en most b s a f).prf a.toNat f s.prf.length (x5 p en most b s a f).prf.length/\(∀i:Nat,i<s.prf.length->i≠a.toNat->(x5 p en most b s a f).prf[i]?=s.prf[i]?)/\s.err=0/\s.found=false:=by
  intro b s a f t C q e c
  obtain⟨D,e2,e3,e4,e5⟩:=@amM p en s f
  have B:a.toNat<s.prf.length:=by omega
  unfold x5 at e c ⊢;split at e
  ·simp_all
  rename_i x
  have G:s.err=0/\s.found=false:=by simpa using x
  rw[if_neg x] at c ⊢;split at e
  ·rename_i m
   rw[if_pos m]
   refine⟨?_,fun i u j=>?_,G⟩
   ·rw[List.length_set]
    exact .con (by simp_all) m
   ·show(s.prf.set a.toNat cfN)[i]?=_
    rw[List.getElem?_set_ne (fun h=>j h.symm)]
  rename_i m;rw[if_neg m] at c ⊢
  have O:DU p f=true:=by simpa using m
  split at e
  ·rename_i w
   rw[if_pos w]
   refine⟨?_,fun i u j=>?_,G⟩
   ·rw[List.length_set,D]
    refine .bnd ?_ O w
    simp_all
   ·show((mA p en s f).prf.set a.toNat _)[i]?=_
    rw[List.getElem?_set_ne (fun h=>j h.symm),D]
  rename_i w;rw[if_neg w] at c ⊢
  cases A:Lr (oC p f) with
  |none=>simp_all
  |some k=>
  rw[A] at e c
  simp only at e c ⊢
  split at e
  ·simp at e
  rename_i Q;rw[if_neg Q] at c ⊢
  obtain⟨l,K,L⟩:=aep A
  rw[adM] at l
  have v:bo f k.toNat 0=0:=aeo (t.ok O) t.r (by omega) K L
  have n1:=Ze l v (d:=1) (by omega)
  have Y:=Ze l v (d:= -1) (by omega)
  have T:uA p (f.set k.toNat 1):=t.set (by omega)
  have f2:uA p (f.set k.toNat (-1)):=t.set (by omega)
  have S:(A7 (mA p en s f) a k).prf.length=s.prf.length+2:=by
   simp_all[A7]
  rw[D] at e c ⊢
  obtain⟨l1,v1,t1⟩:=@q (A7 (mA p en s f) a k) ((s.prf.length:Int)+1) (f.set k.toNat 1) T n1 (by omega)
  generalize R:b (A7 (mA p en s f) a k) ((s.prf.length:Int)+1) (f.set k.toNat 1)=I at*
  obtain⟨l2,V,Z⟩:=@q I (s.prf.length:Int) (f.set k.toNat (-1)) f2 Y (by omega)
  generalize X:b I (s.prf.length:Int) (f.set k.toNat (-1))=P at*
  obtain⟨N,F,U,w2⟩:=Z e c
  obtain⟨J,H,w3,w4⟩:=t1 U w2
  have M:∀i:Nat,i<s.prf.length+2->(A7 (mA p en s f) a k).prf[i]?=if i=a.toNat then some (RY k s.prf.length) else(s.prf++[zN,zN])[i]?:=fun i u=>by
   unfold A7;simp only[D];rw[List.getElem?_set]
   by_cases h:a.toNat=i
   ·simp_all
   ·rw[if_neg h,if_neg (fun m=>h m.symm)]
  have E:((s.prf.length:Int)).toNat=s.prf.length:=by omega
  have z:((s.prf.length:Int)+1).toNat=s.prf.length+1:=by omega
  rw[E] at N F;rw[z] at J H;rw[S] at J H
  have o:∀i:Nat,i<s.prf.length->P.prf[i]?=(A7 (mA p en s f) a k).prf[i]?:=fun i u=>by rw[F i (by omega) (by omega),H i (by omega) (by omega)]
  refine⟨.bra (k:=k) (mid:=I.prf.length) ?_ B l v ?_ N,fun i u j=>?_,G⟩
  ·rw[o _ B,M _ (by omega),if_pos rfl]
  ·exact J.mono V fun i u=>F i (by omega) (by omega)
  ·rw[o i u,M i (by omega),if_neg j,List.getElem?_append_left u]
 intro n
 induction n with
 |zero=>
  intro s a f t W C e c
  exact y t C (fun {s a g} _ h _=>by omega) e c
 |succ n ih=>
  intro s a f t W C e c
  refine y t C (fun {s a g} x m w=>?_) e c
  have A:=@adN p en most n s a g x
  exact⟨A.1,A.2.2.1,fun e c=>ih x (by omega) w e c⟩
theorem axX {p:cn} {en:Int->Bool} {most:Int} {G:List Int->Int->Bool->Prop} (u:∀c w b q w',G c w b->lF p q=0->nD p q=w'->w<w'->G q w' (b||en w')):
  ∀{n:Nat} {s:li} {a:Int} {f:List Int},uA p f->G s.ch s.val s.found->G (pn p en most n s a f).ch (pn p en most n s a f).val (pn p en most n s a f).found:=by
 have k:∀{d:li->Int->List Int->li},(∀{s:li} {a:Int} {f:List Int},uA p f->G s.ch s.val s.found->G (d s a f).ch (d s a f).val (d s a f).found)->
   ∀{s:li} {a:Int} {f:List Int},uA p f->G s.ch s.val s.found->G (x5 p en most d s a f).ch (x5 p en most d s a f).val (x5 p en most d s a f).found:=by
  intro d e s a f i j;unfold x5;split
  ·exact j
  split
  ·exact j
  rename_i t
  have y:DU p f=true:=by simp_all
  have m:G (mA p en s f).ch (mA p en s f).val (mA p en s f).found:=by
   unfold mA;split
   ·rename_i A
    unfold rc;split
    ·rename_i o
     obtain⟨z,B⟩:=axQ (i.ok y) i.r A.2
     have g:vd p.offers.length (sY (oC p f)):=by
      have:=@axP (oC p f)
      rw[adM,i.l] at this;exact this
     refine u _ _ _ _ _ j ?_ ?_ o
     ·exact(axU i.c g).2 z
     ·exact ah1 i.c g
    ·exact j
   ·exact j
  split
  ·exact m
  split
  ·exact m
  split
  ·exact m
  ·exact e (i.set (by omega)) (e (i.set (by omega)) m)
 intro n
 induction n with
 |zero=>exact k fun _ h=>h
 |succ n x=>exact k fun v t=>x v t
theorem two_pow_pos (n:Nat):1<=2^n:=Nat.one_le_two_pow
theorem axY {p:cn} {en:Int->Bool} {most:Int}:∀{n:Nat} {s:li} {a:Int} {f:List Int},uA p f->nF f<=n->s.err=0->((s.prf.length+2^(nF f+1):Nat):Int)<=most+2->(pn p en most n s a f).err=0/\(pn p en most n s a f).prf.length+2<=s.prf.length+2^(nF f+1):=by
 have l:∀{c:li->Int->List Int->li} {s:li} {a:Int} {f:List Int},uA p f->s.err=0->((s.prf.length+2^(nF f+1):Nat):Int)<=most+2->
   (∀{s:li} {a:Int} {g:List Int},uA p g->nF f=nF g+1->s.err=0->((s.prf.length+2^(nF g+1):Nat):Int)<=most+2->(c s a g).err=0/\(c s a g).prf.length+2<=s.prf.length+2^(nF g+1))->
   (x5 p en most c s a f).err=0/\(x5 p en most c s a f).prf.length+2<=s.prf.length+2^(nF f+1):=by
  intro c s a f b t u C
  obtain⟨L,J,T,X,e5⟩:=@amM p en s f
  have F:2<=2^(nF f+1):=by grind
  unfold x5;split
  ·omega
  split
  ·simp_all
  rename_i E N
  have x:DU p f=true:=by simp_all
  split
  ·simp_all
  rename_i v
  cases A:Lr (oC p f) with
  |none=>
   exfalso
   apply v
   have o:aay (oC p f)=true:=by
    unfold aay;rw[List.all_eq_true];intro q H
    obtain⟨i,B,rfl⟩:=List.getElem_of_mem H
    have w:=aGH A i B
    obtain⟨M,I,_⟩:=amJ (b.ok x) b.r (show i<f.length by grind[adM])
    rw[jV B] at w M I
    rcases(show(oC p f)[i]=0\/(oC p f)[i]=1 by grind) with e|e<;>simp_all
   obtain⟨Y,K⟩:=axQ (b.ok x) b.r o
   have P:((abW p f).value:Rat)=GI p f:=K
   by_cases D:((s.val+1:Int):Rat)<=GI p f
   ·have O:s.val<(abW p f).value:=by
     rw[<-P] at D
     have:s.val+1<=(abW p f).value:=by exact_mod_cast D
     omega
    have:(mA p en s f).val=(abW p f).value:=by
     simp_all[mA,rc]
    grind
   grind
  |some k=>
   simp only
   obtain⟨j,z,y⟩:=aep A
   rw[adM] at j
   have m:bo f k.toNat 0=0:=aeo (b.ok x) b.r (by omega) z y
   have n1:=Ze j m (d:=1) (by omega)
   have n2:=Ze j m (d:= -1) (by omega)
   have W:uA p (f.set k.toNat 1):=b.set (by omega)
   have Z:uA p (f.set k.toNat (-1)):=b.set (by omega)
   have V:(A7 (mA p en s f) a k).prf.length=s.prf.length+2:=by
    grind[A7]
   have U:2^(nF f+1)=2^(nF (f.set k.toNat 1)+1)+2^(nF (f.set k.toNat 1)+1):=by
    grind
   have ne:nF (f.set k.toNat (-1))=nF (f.set k.toNat 1):=by omega
   have Q:2<=2^(nF (f.set k.toNat 1)+1):=by omega
   rw[if_neg (by rw[L];omega)]
   have S:(A7 (mA p en s f) a k).err=0:=by show(mA p en s f).err=0;rw[J,t]
   grind
 intro n
 induction n with
 |zero=>
  intro s a f b G t u
  exact l b t u fun {s a g} _ h _ _=>by omega
 |succ n R=>
  intro s a f b G t u
  exact l b t u fun {s a g} E N v w=>R E (by omega) v w
open Go.Proofs.YtgejbpobaicgfaaGreat.Ir
open Go.Proofs
def aq5:fN:=⟨44,cn×List Int,.cons ql (.one (qX (.i .i64))),fun a=>dV a.1=0/\a.2.length<=9223372036854775807,fun a=> .si .i64 (nD a.1 a.2)⟩
def aGL (p:cn) (c:List Int):Nat->jW
 |6=> .inv Int (fun i=>⟨[(7,.si .i64 (jd ((nn p c).take i.toNat))),(23,.row .off (nn p c)),(24,.si .i64 (nn p c).length),(25,.si .i64 i)],[.cells p.ss 27 20 false]⟩)
   (fun s=>iS s 25) (fun i=>0<=i/\i<=(nn p c).length) (fun i=>((nn p c).length - i).toNat) fun _ _=> .look
 |_=> .look
theorem h437:Holds Tryz.prog aq5:=by
 refine lj (L:=[alj,r79]) aq5 (fun a=>aGL a.1 a.2) (by grind[h133,h79]) ?_
 rintro⟨p,c⟩ ⟨f,A⟩
 simp only at f A
 refine gw (let a:=SV.si .i64;let f:=(0:Int);let k:=SV.il .i64 0;let m:=a (nD p c);let z:=decide (dV p≠f);let j:=SV.row bD.off (nn p c);let B:=(↑(nn p c).length:Int);let d:=(↑(nn p c).length:Int);let r:=a d;let g:=cC.cells (cn.ss p) 27 20 false;(c.length<=9223372036854775807/\p.offers.length<=1000)/\((!y5 p c)=true->k.same m)/\((!y5 p c)=false->True/\(z=true->k.same m)/\(z=false->(((k.same (a (jd []))/\j.same j/\(a B).same r/\k.same (a 0)/\True)/\g.same g/\True)/\f<=f/\f<=d)/\∀(x:Int),let w:=jd (List.take x.toNat (nn p c));let y:=w+(bo (nn p c) x.toNat bD.off.dflt).value;let b:=x+(1:Int);let e:=a b;f<=x/\x<=d->(decide (x<d)=true->f<=x/\x<B/\x.toNat<(nn p c).length/\iR .i64 y/\iR .i64 b/\(((a y).same (a (jd (List.take b.toNat (nn p c))))/\j.same j/\r.same r/\e.same e/\True)/\g.same g/\True)/\(f<=b/\b<=d)/\(d - b).toNat<(d - x).toNat)/\(decide (x<d)=false->(a w).same m)))) (by kernel_rfl) ?_
 simp only[vcs]
 have t:=pz f
 obtain⟨G,v⟩:=auF (c:=c) f
 have u:=t.2.1
 have q:y5 p c=false->0=nD p c:=fun h=>by
  unfold nD;rw[if_pos f];unfold nn;unfold y5 at h;rw[Option.isSome_eq_false_iff,Option.isNone_iff_eq_none] at h;rw[h];rfl
 refine⟨⟨A,by omega⟩,q,fun _=>⟨fun h=>absurd f h,fun _=>⟨⟨by simp[jd],by omega,by omega⟩,?_⟩⟩⟩
 rintro i ⟨n,D⟩
 refine⟨fun o=>?_,fun E=>?_⟩
 ·have H:=auD n o
  have F:=acT t (l:=(nn p c).take i.toNat) fun x s=>v x (List.mem_of_mem_take s)
  have C:=acT t (l:=(nn p c).take (i+1).toNat) fun x s=>v x (List.mem_of_mem_take s)
  grind
 ·rw[show i.toNat=(nn p c).length from by omega,List.take_length]
  grind[nD]
def aq6:fN:=⟨127,Int×Int,.cons (sj .i64) (.one (sj .i64)),fun a=>(-9223372036854775808<=a.1/\a.1<=9223372036854775807)/\0<a.2/\a.2<=9223372036854775807,fun a=> .eW [frS (zq (decide (a.1<0)) (a.1.natAbs:Int) a.2),.si .i64 0]⟩
theorem h451:Holds Tryz.prog aq6:=by
 refine lj (L:=[alP,aja]) aq6 lk (by grind[h127,h151]) ?_
 rintro⟨n,d⟩ ⟨⟨u,w⟩,q,r⟩
 simp only at u w q r
 refine gw (let e:=(-9223372036854775808:Int);let h:=(9223372036854775807:Int);let k:=(0:Int);let l:=SV.row;let g:=ki (↑n.natAbs:Int);let b:=ki (↑d.natAbs:Int);let f:=cJ (zq (!decide (n<k)==decide (d<k)) (bC g) (bC b));let a:=bD.i .u32;let j:=[SV.si .i64 0];let c:=cJ (zq (decide (n<k)) (↑n.natAbs:Int) d);(e<=n/\n<=h)/\(e<=d/\d<=h)/\((df g/\df b)/\(g.length<=1000000000/\b.length<=1000000000)/\k<bC b)/\(SV.eW (SV.agg [SV.sb f.fst,l a f.snd.fst,l a f.snd.snd]::j)).same (SV.eW (SV.agg [SV.sb c.fst,l a c.snd.fst,l a c.snd.snd]::j))) (by kernel_rfl) ?_
 simp only[vcs]
 obtain⟨v,s,t⟩:=AO (show(0:Int)<=(n.natAbs:Int) by omega)
 obtain⟨o,l,h⟩:=AO (show(0:Int)<=(d.natAbs:Int) by omega)
 have x:=aam (k:=2) (show(0:Int)<=(n.natAbs:Int) by omega) (by omega)
 have p:=aam (k:=2) (show(0:Int)<=(d.natAbs:Int) by omega) (by omega)
 have e:(d.natAbs:Int)=d:=by omega
 have m:(!(decide (n<0)==decide (d<0)))=decide (n<0):=by
  grind
 rw[m,v,o,e];rw[e] at l h p
 repeat' refine And.intro ?_ ?_
 all_goals first|omega|exact s|exact l|exact t|exact h|rfl
def okL (x:List fO):Prop:=∃l,x=fL l/\x.length<=1000000/\∀q∈l,Sz 1000 q
theorem aGM (q:Rat):q.den=1↔(cJ q).2.2=[1]:=by
 have c:ki 1=[1]:=by decide
 constructor
 ·intro h
  show ki (q.den:Int)=[1]
  simp_all
 ·intro h
  have a:=(AO (show(0:Int)<=(q.den:Int) by omega)).1
  have b:ki (q.den:Int)=[1]:=h
  grind[bC]
theorem axZ (q:Rat):okF (cJ q)=true:=decide_eq_true (by rw[tc])
def aq7:fN:=⟨83,List fO,.one (qX sF),okL,fun x=> .sb (aay (vL x))⟩
def aGN (x:List fO):Nat->jW
 |2=> .inv Int (fun i=>⟨[(5,.row sF x),(6,.si .i64 x.length),(7,.si .i64 i)],[]⟩)
   (fun s=>iS s 7) (fun i=>(0<=i/\i<=x.length)/\aay ((vL x).take i.toNat)=true) (fun i=>(x.length - i).toNat) fun _ _=> .look
 |_=> .look
theorem h445:Holds Tryz.prog aq7:=by
 refine lj (L:=[ahQ]) aq7 aGN (by grind[h407]) ?_
 rintro(x:List fO) ⟨l,v,G,H⟩
 refine gw (let c:=(0:Int);let d:=SV.si .i64;let f:=SV.bl false;let h:=SV.row;let i:=(1:Int);let b:=(↑x.length:Int);let w:=d b;((((h sF x).same (h sF x)/\(d (↑x.length:Int)).same w/\(SV.il .i64 0).same (d 0)/\True)/\True)/\(c<=c/\c<=b)/\aay []=true)/\∀(a:Int),let p:=bo x a.toNat sF.dflt;let e:=p.snd.snd;let C:=(↑(List.length e):Int);let r:=SV.sb (aay (vL x));let g:=a+i;let o:=d g;let A:=fun(u:Bool) ↦decide (bo e 0 c≠i)=u;let D:=fun(u:Bool) ↦decide (C≠i)=u;let E:=fun(u:Bool) ↦(!okF (p.fst,p.snd.fst,e))=u;(c<=a/\a<=b)/\aay (List.take a.toNat (vL x))=true->(decide (a<b)=true->c<=a/\a<(↑x.length:Int)/\a.toNat<x.length/\((df p.snd.fst/\df e)/\List.length p.snd.fst<=1000000/\List.length e<=1000000)/\(E true->(f).same r)/\(E false->(D true->(f).same r)/\(D false->c<=c/\c<C/\0<List.length e/\(A true->(f).same r)/\(A false->iR .i64 g/\(((h sF x).same (h sF x)/\w.same w/\o.same o/\True)/\True)/\((c<=g/\g<=b)/\aay (List.take g.toNat (vL x))=true)/\(b - g).toNat<(b - a).toNat))))/\(decide (a<b)=false->(SV.bl true).same r)) (by kernel_rfl) ?_
 simp only[vcs];subst v;rw[zx] at G ⊢;rw[Zb]
 have s:∀k:Nat,((k:Nat):Int).toNat=k:=fun k=>Int.toNat_natCast k
 refine⟨⟨⟨by omega,by omega⟩,rfl⟩,?_⟩
 rintro i ⟨⟨z,T⟩,c⟩
 refine⟨fun y=>?_,fun y=>?_⟩
 ·have J:bo (fL l) i.toNat sF.dflt=cJ (bo l i.toNat 0):=KE (by omega)
  have B:=nA (d:=0) (show i.toNat<l.length by omega)
  have N:=H _ B
  have K:=aal (d:=0) z y
  rw[J]
  generalize bo l i.toNat 0=q at*
  obtain⟨_,⟨I,U,V⟩,⟨M,P,W⟩⟩:=aaU q
  obtain⟨R,S⟩:=acW N
  have m:=aGM q
  have j:q.den≠1->false=aay l:=fun Q=>by
   refine(Bool.eq_false_iff.2 fun f=>?_).symm
   have:=List.all_eq_true.1 f _ B
   simp_all
  have t:=axZ q
  refine⟨z,y,by omega,⟨⟨I,M⟩,by omega,by omega⟩,fun h=>absurd t (by simp_all),fun _=>⟨fun h=>j fun f=>h ?_,fun h=>⟨by omega,by omega,by omega,fun f=>j fun O=>f ?_,fun f=>⟨by omega,⟨by omega,?_⟩,by omega⟩⟩⟩⟩
  ·simp_all
  ·rw[(m.1 O)];rfl
  ·rw[K]
   unfold aay at c ⊢;rw[List.all_append,c]
   have:q.den=1:=m.2 (by
    have n:(cJ q).2.2.length=1:=by omega
    have F:bo (cJ q).2.2 0 0=1:=Classical.not_not.1 f
    match v:(cJ q).2.2,n with
    |[x],_=>
     rw[v] at F
     have:x=1:=F
     rw[this])
   simp[this]
 grind
structure pX where
 p:cn
 ch:List Int
 val:Int
 found:Bool
 en:Option Int
 k1:Nat
 k2:Nat
 most:Int
 err:Int
 prf:List Nod
 fx:List Int
def pX.cs (x:pX) (e:SV) (i j:Nat):List SV:=[.row (.i .i64) x.ch,.si .i64 x.val,.sb x.found,e,.ow i x.k1 5,.ow j x.k2 1,.si .i64 x.most,.si .i64 x.err]
def pX.ah2 (x:pX):ie:=[.cells (x.p.ss++x.cs (.fn (.func 45) [] []) 1 2) 84 28 false,.row sg x.prf 139 true,.row (.i .i64) x.fx 3 true]
def pX.ah3 (x:pX) (m:Int):ie:=[.cells (x.p.ss++x.cs (.fn (.func 53) [] [.ptr 1 0 1]) 2 3) 84 28 false,.cells [.si .i64 m] 2 1 false,.row sg x.prf 139 true,.row (.i .i64) x.fx 3 true]
def pX.BE (x:pX):ie:=match x.en with
 |none=>x.ah2
 |some m=>x.ah3 m
def aq8:ie->Option pX
 |[.cells g 84 28 false,.row k a 139 true,.row j e 3 true]=>match g.drop 20 with
  |[c,v,b,.fn (.func 45) [] [],.ow 1 l 5,.ow 2 h 1,d,f]=>match aeQ (g.take 20),J6 (.i .i64) c,v.int .i64,b.boo,d.int .i64,f.int .i64 with
   |some p,some c,some v,some b,some d,some f=>match Hj k sg a,Hj j (.i .i64) e with
    |some a,some e=>some ⟨p,c,v,b,none,l,h,d,f,a,e⟩
    |_,_=>none
   |_,_,_,_,_,_=>none
  |_=>none
 |[.cells g 84 28 false,.cells [m] 2 1 false,.row k a 139 true,.row j e 3 true]=>match g.drop 20 with
  |[c,v,b,.fn (.func 53) [] [.ptr 1 0 1],.ow 2 l 5,.ow 3 h 1,d,f]=>match aeQ (g.take 20),J6 (.i .i64) c,v.int .i64,b.boo,d.int .i64,f.int .i64 with
   |some p,some c,some v,some b,some d,some f=>match Hj k sg a,Hj j (.i .i64) e,m.int .i64 with
    |some a,some e,some m=>some ⟨p,c,v,b,some m,l,h,d,f,a,e⟩
    |_,_,_=>none
   |_,_,_,_,_,_=>none
  |_=>none
 |_=>none
theorem aGO {o:ie} {x:pX} (h:aq8 o=some x):gO o=gO x.BE:=by
 unfold aq8 at h;split at h
 ·rename_i f G F E L
  split at h
  ·rename_i c v b A a r B z
   split at h
   ·rename_i p K J I e i D t j k w q
    split at h
    ·rename_i s l C y
     simp only[Option.some.injEq] at h;subst h
     obtain⟨rfl,n⟩:=aaJ C
     obtain⟨rfl,d⟩:=aaJ y
     cases n;cases d
     have u:gL f=gL p.ss++gL [c,v,b,.fn (.func 45) [] [],.ow 1 A 5,.ow 2 a 1,r,B]:=by
      rw[<-z,<-ahc D,<-afG,List.take_append_drop]
     simp only[pX.BE,pX.ah2,pX.cs,gO,List.map_cons,List.map_nil,cC.g,afG,u];simp only[gL,abH t,EG j,agY k,EG w,EG q,SV.g]
    ·cases h
   ·cases h
  ·cases h
 ·rename_i f m G F E L
  split at h
  ·rename_i c v b A a r B z
   split at h
   ·rename_i p K J I e i D t j k w q
    split at h
    ·rename_i s l M C y H
     simp only[Option.some.injEq] at h;subst h
     obtain⟨rfl,n⟩:=aaJ C
     obtain⟨rfl,d⟩:=aaJ y
     cases n;cases d
     have u:gL f=gL p.ss++gL [c,v,b,.fn (.func 53) [] [.ptr 1 0 1],.ow 2 A 5,.ow 3 a 1,r,B]:=by
      rw[<-z,<-ahc D,<-afG,List.take_append_drop]
     simp only[pX.BE,pX.ah3,pX.cs,gO,List.map_cons,List.map_nil,cC.g,afG,u];simp only[gL,abH t,EG j,agY k,EG w,EG q,EG H,SV.g]
    ·cases h
   ·cases h
  ·cases h
 ·cases h
theorem aGP {p q:cn} (h:gL p.ss=gL q.ss):p=q:=ql.inj p q (by grind[ql,SV.g])
theorem aGQ {x y:pX} (h:gO x.BE=gO y.BE):x=y:=by
 obtain⟨p,E,u,b,J,H,G,k,o,A,L⟩:=x
 obtain⟨B,n,d,a,l,r,v,c,f,q,C⟩:=y
 have w:∀{e I:SV} {i j:Nat},gL (p.ss++(pX.mk p E u b J H G k o A L).cs e i j)=gL (B.ss++(pX.mk B n d a l r v c f q C).cs I i j)->p=B/\E=n/\u=d/\b=a/\H=r/\G=v/\k=c/\o=f:=by
  intro e I i j h;rw[afG,afG] at h
  obtain⟨z,t⟩:=List.append_inj h (by rw[MF,MF];rfl)
  simp only[pX.cs,gL,SV.g,List.cons.injEq,AV.sc.injEq,Value.int.injEq,Value.bool.injEq,AV.os.injEq,AV.sl.injEq,and_true,true_and] at t
  grind[aGP,abR]
 cases J with
 |none=>
  cases l with
  |none=>
   simp only[pX.BE,pX.ah2,gO,List.map_cons,List.map_nil,cC.g,List.cons.injEq,fZ.cells.injEq,and_true] at h
   obtain⟨z,t,D⟩:=h
   obtain⟨rfl,rfl,rfl,rfl,rfl,rfl,rfl,rfl⟩:=w z
   rw[abR (s:=sg) t,abR (s:=.i .i64) D]
  |some K=>
   have:=congrArg List.length h
   simp_all[pX.BE,pX.ah2,pX.ah3,gO]
 |some m=>
  cases l with
  |none=>
   have:=congrArg List.length h
   simp_all[pX.BE,pX.ah2,pX.ah3,gO]
  |some K=>
   simp only[pX.BE,pX.ah3,gO,List.map_cons,List.map_nil,cC.g,List.cons.injEq,fZ.cells.injEq,and_true] at h
   obtain⟨z,F,t,D⟩:=h
   obtain⟨rfl,rfl,rfl,rfl,rfl,rfl,rfl,rfl⟩:=w z
   simp only[gL,SV.g,List.cons.injEq,AV.sc.injEq,Value.int.injEq,and_true,true_and] at F;subst F;rw[abR (s:=sg) t,abR (s:=.i .i64) D]
def amO (f:FuncId) (c:Type) (A:adq c) (i:pX->c->Prop) (e:pX->c->SV) (out:pX->c->pX):ob where
 f:=f
 α:=pX×c
 put a:=.ptr 0 0 28::A.put a.2
 st a:=a.1.BE
 dec v o:=match v with
  | .ptr 0 0 28::r=>match aq8 o,A.dec r with
   |some s,some b=>some (s,b)
   |_,_=>none
  |_=>none
 ok v o a h:=by
  split at h
  ·split at h
   ·rename_i d g
    simp only[Option.some.injEq] at h;subst h
    exact⟨by simp only[gL,A.ok _ _ g],aGO d⟩
   ·cases h
  ·cases h
 inj a b d g:=by
  simp only[gL,List.cons.injEq,true_and] at d
  exact Prod.ext (aGQ g) (A.inj _ _ d)
 dom a:=i a.1 a.2
 res a:=e a.1 a.2
 out a:=(out a.1 a.2).BE
def jr (e:Option Int) (v:Int):Bool:=match e with
 |none=>false
 |some m=>decide (m<=v)
def pX.s (x:pX):li:=⟨x.ch,x.val,x.found,x.prf,x.err⟩
def pX.upd (x:pX) (s:li):pX:=⟨x.p,s.ch,s.val,s.found,x.en,s.prf.length,x.k2,x.most,s.err,s.prf,x.fx⟩
structure uf (x:pX):Prop where
 f:uA x.p x.fx
 k1:x.k1=x.prf.length
 k2:x.k2=x.fx.length
 v0:0<=x.val
 v1:x.val<=9223372036854775806
 m0:1<=x.most
 m1:x.most<=65536
 l:x.prf.length<=65536
 c:x.ch.length<=9223372036854775807
def aq9:ob where
 f:=45
 α:=Alloc
 put a:=[Yo.put a]
 st _:=[]
 dec v o:=match v,o with
  |[a],[]=>Yo.dec a
  |_,_=>none
 ok v o a h:=by
  split at h
  ·exact⟨by simp only[gL,Yo.ok _ _ h],rfl⟩
  ·cases h
 inj a b c _:=by
  simp only[gL,List.cons.injEq,and_true] at c
  exact Yo.inj _ _ c
 dom _:=True
 res _:=.sb false
 out _:=[]
theorem h438:qH Tryz.prog aq9:=by
 refine SD (L:=[]) (W:=[]) aq9 lk (by simp) (by simp) ?_
 rintro(a:Alloc) -
 refine gw ((SV.bl false).same (SV.sb false)/\True) (by kernel_rfl) ?_
 simp_all
def ara:ob where
 f:=53
 α:=Alloc×Int
 put a:=[Yo.put a.1,.ptr 0 0 1]
 st a:=[.cells [.si .i64 a.2] 2 1 false]
 dec v o:=match v,o with
  |[a,.ptr 0 0 1],[.cells [m] 2 1 false]=>match Yo.dec a,m.int .i64 with
   |some a,some m=>some (a,m)
   |_,_=>none
  |_,_=>none
 ok v o a h:=by
  split at h
  ·split at h
   ·rename_i c d
    simp only[Option.some.injEq] at h;subst h
    exact⟨by simp only[gL,Yo.ok _ _ c],by simp only[gO,List.map_cons,List.map_nil,cC.g,gL,EG d,SV.g]⟩
   ·cases h
  ·cases h
 inj a b c d:=by
  simp only[gL,List.cons.injEq,and_true] at c;simp only[gO,List.map_cons,List.map_nil,cC.g,gL,SV.g,List.cons.injEq,fZ.cells.injEq,AV.sc.injEq,Value.int.injEq,and_true,true_and] at d
  exact Prod.ext (Yo.inj _ _ c) d
 dom _:=True
 res a:=.sb (decide (a.2<=a.1.value))
 out a:=[.cells [.si .i64 a.2] 2 1 false]
theorem h442:qH Tryz.prog ara:=by
 refine SD (L:=[]) (W:=[]) ara lk (by simp) (by simp) ?_
 rintro⟨a,m⟩ -
 refine gw (let b:=cC.cells [SV.si .i64 m] 2 1 false;(SV.sb (decide (m<=a.value))).same (SV.sb (decide (m<=a.value)))/\b.same b/\True) (by kernel_rfl) ?_
 conv=>zeta
 exact⟨rfl,rfl,trivial⟩
def ajW:ob:=amO 46 Alloc (.one Yo) (fun x _=>x.k1=x.prf.length) (fun _ _=> .eW []) fun x a=>x.upd (rc (jr x.en) x.s a)
theorem h439:qH Tryz.prog ajW:=by
 refine SD (L:=[]) (W:=[aq9,ara]) ajW lk (by grind[h438,h442]) (by simp) ?_
 rintro⟨⟨p,f,d,b,n,k1,o,g,e,c,q⟩,a⟩ M
 have M:k1=c.length:=M
 subst M
 have e1:∀n:Int->Bool,d<a.value->rc n ⟨f,d,b,c,e⟩ a=⟨a.chosen,a.value,b||n a.value,c,e⟩:=fun n h=>if_pos h
 have e2:∀n:Int->Bool,¬d<a.value->rc n ⟨f,d,b,c,e⟩ a=⟨f,d,b,c,e⟩:=fun n h=>if_neg h
 cases n with
 |none=>
  refine gw (let h:=SV.si .i64;let m:=cC.row;let n:=cC.cells;let A:=SV.row;let L:=SV.eW;let Y:=h p.supply.a0;let R:=h p.supply.a1;let V:=h p.supply.a2;let N:=h p.supply.a3;let S:=h p.supply.a4;let Z:=h p.supply.a5;let K:=h p.opn.a0;let X:=h p.opn.a1;let Q:=h p.opn.a2;let D:=h p.opn.a3;let z:=h p.opn.a4;let y:=h p.opn.a5;let v:=h p.cls.a0;let t:=h p.cls.a1;let C:=h p.cls.a2;let w:=h p.cls.a3;let r:=h p.cls.a4;let B:=h p.cls.a5;let k:=bD.i .i64;let s:=A k p.classes;let x:=A bD.off p.offers;let H:=SV.fn (Fn.func 45) [] [];let G:=SV.ow 2 o 1;let F:=h g;let I:=[H,SV.ow 1 c.length 5,G,F,h e];let j:=rc (jr none) (li.mk f d b c e) a;let E:=n [Y,R,V,N,S,Z,K,X,Q,D,z,y,v,t,C,w,r,B,s,x,A k j.ch,h j.val,SV.sb j.found,H,SV.ow 1 j.prf.length 5,G,F,h j.err] 84 28 false;let l:=m k q 3 true;let J:=decide (d<a.value);let M:=fun(u T:Bool) (O:List Int) (U:Int) (P:SV) ↦u=T->(L []).same (L [])/\(n (Y::R::V::N::S::Z::K::X::Q::D::z::y::v::t::C::w::r::B::s::x::A k O::h U::P::I) 84 28 false).same E/\(m sg c 139 true).same (m sg j.prf 139 true)/\l.same l/\True;(J=true->M b true a.chosen a.value (SV.bl true)/\(b=false->True/\(L []).same (L [])/\(n (Y::R::V::N::S::Z::K::X::Q::D::z::y::v::t::C::w::r::B::s::x::A k a.chosen::h a.value::SV.sb false::I) 84 28 false).same E/\(m sg c 139 true).same (m sg j.prf 139 true)/\l.same l/\True))/\M J false f d (SV.sb b)) (by kernel_rfl) ?_
  conv=>zeta
  refine⟨fun h=>?_,fun h=>?_⟩
  ·simp only[e1 _ (of_decide_eq_true h)]
   refine⟨fun A=>?_,fun A=>?_⟩
   ·subst A
    exact⟨rfl,rfl,rfl,rfl,trivial⟩
   ·subst A
    exact⟨trivial,rfl,rfl,rfl,rfl,trivial⟩
  ·simp only[e2 _ (of_decide_eq_false h)]
   exact⟨rfl,rfl,rfl,rfl,trivial⟩
 |some m=>
  refine gw (let h:=SV.si .i64;let j:=bD.i .i64;let k:=cC.cells;let l:=SV.row;let n:=cC.row;let r:=SV.ow;let s:=SV.ptr;let t:=SV.eW;let u:=SV.sb;(decide (d<a.value)=true->(b=true->(t []).same (t [])/\(k [h p.supply.a0,h p.supply.a1,h p.supply.a2,h p.supply.a3,h p.supply.a4,h p.supply.a5,h p.opn.a0,h p.opn.a1,h p.opn.a2,h p.opn.a3,h p.opn.a4,h p.opn.a5,h p.cls.a0,h p.cls.a1,h p.cls.a2,h p.cls.a3,h p.cls.a4,h p.cls.a5,l (j) p.classes,l bD.off p.offers,l (j) a.chosen,h a.value,SV.bl true,SV.fn (Fn.func 53) [] [s 1 0 1],r 2 c.length 5,r 3 o 1,h g,h e] 84 28 false).same (k [h p.supply.a0,h p.supply.a1,h p.supply.a2,h p.supply.a3,h p.supply.a4,h p.supply.a5,h p.opn.a0,h p.opn.a1,h p.opn.a2,h p.opn.a3,h p.opn.a4,h p.opn.a5,h p.cls.a0,h p.cls.a1,h p.cls.a2,h p.cls.a3,h p.cls.a4,h p.cls.a5,l (j) p.classes,l bD.off p.offers,l (j) (rc (jr (some m)) (li.mk f d b c e) a).ch,h (rc (jr (some m)) (li.mk f d b c e) a).val,u (rc (jr (some m)) (li.mk f d b c e) a).found,SV.fn (Fn.func 53) [] [s 1 0 1],r 2 (rc (jr (some m)) (li.mk f d b c e) a).prf.length 5,r 3 o 1,h g,h (rc (jr (some m)) (li.mk f d b c e) a).err] 84 28 false)/\(k [h m] 2 1 false).same (k [h m] 2 1 false)/\(n sg c 139 true).same (n sg (rc (jr (some m)) (li.mk f d b c e) a).prf 139 true)/\(n (j) q 3 true).same (n (j) q 3 true)/\True)/\(b=false->True/\(t []).same (t [])/\(k [h p.supply.a0,h p.supply.a1,h p.supply.a2,h p.supply.a3,h p.supply.a4,h p.supply.a5,h p.opn.a0,h p.opn.a1,h p.opn.a2,h p.opn.a3,h p.opn.a4,h p.opn.a5,h p.cls.a0,h p.cls.a1,h p.cls.a2,h p.cls.a3,h p.cls.a4,h p.cls.a5,l (j) p.classes,l bD.off p.offers,l (j) a.chosen,h a.value,u (decide (m<=a.value)),SV.fn (Fn.func 53) [] [s 1 0 1],r 2 c.length 5,r 3 o 1,h g,h e] 84 28 false).same (k [h p.supply.a0,h p.supply.a1,h p.supply.a2,h p.supply.a3,h p.supply.a4,h p.supply.a5,h p.opn.a0,h p.opn.a1,h p.opn.a2,h p.opn.a3,h p.opn.a4,h p.opn.a5,h p.cls.a0,h p.cls.a1,h p.cls.a2,h p.cls.a3,h p.cls.a4,h p.cls.a5,l (j) p.classes,l bD.off p.offers,l (j) (rc (jr (some m)) (li.mk f d b c e) a).ch,h (rc (jr (some m)) (li.mk f d b c e) a).val,u (rc (jr (some m)) (li.mk f d b c e) a).found,SV.fn (Fn.func 53) [] [s 1 0 1],r 2 (rc (jr (some m)) (li.mk f d b c e) a).prf.length 5,r 3 o 1,h g,h (rc (jr (some m)) (li.mk f d b c e) a).err] 84 28 false)/\(k [h m] 2 1 false).same (k [h m] 2 1 false)/\(n sg c 139 true).same (n sg (rc (jr (some m)) (li.mk f d b c e) a).prf 139 true)/\(n (j) q 3 true).same (n (j) q 3 true)/\True))/\(decide (d<a.value)=false->(t []).same (t [])/\(k [h p.supply.a0,h p.supply.a1,h p.supply.a2,h p.supply.a3,h p.supply.a4,h p.supply.a5,h p.opn.a0,h p.opn.a1,h p.opn.a2,h p.opn.a3,h p.opn.a4,h p.opn.a5,h p.cls.a0,h p.cls.a1,h p.cls.a2,h p.cls.a3,h p.cls.a4,h p.cls.a5,l (j) p.classes,l bD.off p.offers,l (j) f,h d,u b,SV.fn (Fn.func 53) [] [s 1 0 1],r 2 c.length 5,r 3 o 1,h g,h e] 84 28 false).same (k [h p.supply.a0,h p.supply.a1,h p.supply.a2,h p.supply.a3,h p.supply.a4,h p.supply.a5,h p.opn.a0,h p.opn.a1,h p.opn.a2,h p.opn.a3,h p.opn.a4,h p.opn.a5,h p.cls.a0,h p.cls.a1,h p.cls.a2,h p.cls.a3,h p.cls.a4,h p.cls.a5,l (j) p.classes,l bD.off p.offers,l (j) (rc (jr (some m)) (li.mk f d b c e) a).ch,h (rc (jr (some m)) (li.mk f d b c e) a).val,u (rc (jr (some m)) (li.mk f d b c e) a).found,SV.fn (Fn.func 53) [] [s 1 0 1],r 2 (rc (jr (some m)) (li.mk f d b c e) a).prf.length 5,r 3 o 1,h g,h (rc (jr (some m)) (li.mk f d b c e) a).err] 84 28 false)/\(k [h m] 2 1 false).same (k [h m] 2 1 false)/\(n sg c 139 true).same (n sg (rc (jr (some m)) (li.mk f d b c e) a).prf 139 true)/\(n (j) q 3 true).same (n (j) q 3 true)/\True)) (by kernel_rfl) ?_
  refine⟨fun h=>?_,fun h=>?_⟩
  ·simp only[e1 _ (of_decide_eq_true h)]
   refine⟨fun A=>?_,fun A=>?_⟩
   ·subst A
    exact⟨rfl,rfl,rfl,rfl,rfl,trivial⟩
   ·subst A
    exact⟨trivial,rfl,rfl,rfl,rfl,rfl,trivial⟩
  ·simp only[e2 _ (of_decide_eq_false h)]
   exact⟨rfl,rfl,rfl,rfl,rfl,trivial⟩
def arb:ob:=amO 84 (List fO) (.one (qX sF)) (fun x a=>uf x/\okL a/\a.length=x.p.offers.length) (fun x a=>Yo.put ⟨sY (vL a),jd ((sY (vL a)).map (oI x.p))⟩) fun x _=>x
def R2 (x:List Rat) (k:Nat):List Int:=(pA k).filter fun i=>decide (0<bo x i.toNat 0)
def XI (p:cn) (l:List Int):Int:=jd (l.map (oI p))
def aGR (x:pX) (a:List fO):Nat->jW
 |3=>match x.en with
  |none=> .inv Int (fun i=>⟨[(0,.ptr 0 0 28),(4,.ptr 3 0 2),(5,.ptr 5 0 2),(10,.row sF a),(11,.si .i64 a.length),(12,.si .i64 i)],
    x.ah2++[.cells [.sc (.slice none 0 0),.si .i64 0] 37 2 false,.row (.i .i64) (R2 (vL a) i.toNat) 3 true,.cells [.ow 4 (R2 (vL a) i.toNat).length 1,.si .i64 (XI x.p (R2 (vL a) i.toNat))] 37 2 false]⟩)
    (fun s=>iS s 12) (fun i=>0<=i/\i<=a.length) (fun i=>(a.length - i).toNat) fun _ _=> .look
  |some m=> .inv Int (fun i=>⟨[(0,.ptr 0 0 28),(4,.ptr 4 0 2),(5,.ptr 6 0 2),(10,.row sF a),(11,.si .i64 a.length),(12,.si .i64 i)],
    x.ah3 m++[.cells [.sc (.slice none 0 0),.si .i64 0] 37 2 false,.row (.i .i64) (R2 (vL a) i.toNat) 3 true,.cells [.ow 5 (R2 (vL a) i.toNat).length 1,.si .i64 (XI x.p (R2 (vL a) i.toNat))] 37 2 false]⟩)
    (fun s=>iS s 12) (fun i=>0<=i/\i<=a.length) (fun i=>(a.length - i).toNat) fun _ _=> .look
 |_=> .look
theorem ax0 {x:List Rat} {i:Int} (i0:0<=i):R2 x (i+1).toNat=if 0<bo x i.toNat 0 then R2 x i.toNat++[i] else R2 x i.toNat:=by
 unfold R2
 rw[show(i+1).toNat=i.toNat+1 by omega,aek,List.filter_append,Int.toNat_of_nonneg i0]
 grind
theorem ax1 {p:cn} {x:List Rat} {k:Nat} (a:dV p=0) (g:k<=p.offers.length):(R2 x k).length<=160/\0<=XI p (R2 x k)/\XI p (R2 x k)<=160000000:=by
 have e:(R2 x k).length<=k:=by
  have:=List.length_filter_le (fun i:Int=>decide (0<bo x i.toNat 0)) (pA k)
  rw[FC] at this;exact this
 have c:=acT (pz a) (l:=(R2 x k).map (oI p)) fun y b=>by
  obtain⟨i,d,rfl⟩:=List.mem_map.1 b
  have:=QZ.1 (List.mem_filter.1 d).1
  exact nA (by omega)
 rw[List.length_map] at c
 have f:=(pz a).2.1
 grind[XI]
theorem ax2 {p:cn} {l:List Int} {i:Int}:XI p (l++[i])=XI p l+(oI p i).value:=by
 simp_all[XI,abK,jd]
theorem h446:qH Tryz.prog arb:=by
 refine ajM (L:=[r99]) (W:=[]) arb (fun a=>aGR a.1 a.2) (by simp) (by grind[h99]) ?_
 rintro⟨⟨p,ch,U,F,en,k1,k2,M,a6,a7,fx⟩,a⟩ ⟨V,⟨l,hx,a8,hz⟩,hl⟩
 simp only at V hx a8 hl
 subst hx
 have Z:dV p=0:=V.f.c
 have b0:=(pz Z).2.1
 have b1:=@zx l
 have hl:(fL l).length=p.offers.length:=hl
 cases en with
 |none=>
  refine gw (let a:=SV.si .i64;let c:=cC.cells;let d:=cC.row;let f:=(0:Int);let h:=SV.row;let m:=SV.ow;let v:=SV.ptr;let K:=v 0 0 28;let I:=v 3 0 2;let J:=v 5 0 2;let T:=(↑(fL l).length:Int);let r:=(↑(fL l).length:Int);let Q:=a r;let N:=SV.il .i64 0;let w:=a 0;let k:=bD.i .i64;let A:=c [a p.supply.a0,a p.supply.a1,a p.supply.a2,a p.supply.a3,a p.supply.a4,a p.supply.a5,a p.opn.a0,a p.opn.a1,a p.opn.a2,a p.opn.a3,a p.opn.a4,a p.opn.a5,a p.cls.a0,a p.cls.a1,a p.cls.a2,a p.cls.a3,a p.cls.a4,a p.cls.a5,h k p.classes,h bD.off p.offers,h k ch,a U,SV.sb F,SV.fn (Fn.func 45) [] [],m 1 k1 5,m 2 k2 1,a M,a a6] 84 28 false;let g:=d sg a7 139 true;let j:=d k fx 3 true;let o:=SV.sc (Value.slice none 0 0);let z:=c [o,w] 37 2 false;let s:=R2 (vL (fL l)) 0;(((K.same K/\I.same I/\J.same J/\(h sF (fL l)).same (h sF (fL l))/\(a T).same Q/\N.same w/\True)/\A.same A/\g.same g/\j.same j/\(c [o,N] 37 2 false).same z/\(d k [] 3 true).same (d k s 3 true)/\(c [m 4 0 1,N] 37 2 false).same (c [m 4 s.length 1,a (XI p s)] 37 2 false)/\True)/\f<=f/\f<=r)/\∀(x:Int),let n:=x+(1:Int);let q:=a n;let B:=R2 (vL (fL l)) n.toNat;let t:=bo (fL l) x.toNat sF.dflt;let D:=(t.fst,t.snd.fst,t.snd.snd);let b:=R2 (vL (fL l)) x.toNat;let e:=b.length+1;let E:=XI p b+(bo p.offers x.toNat bD.off.dflt).value;let C:=fun(u:cC) (O:Nat) (S:Int) ↦iR .i64 n/\((K.same K/\I.same I/\J.same J/\(h sF (fL l)).same (h sF (fL l))/\Q.same Q/\q.same q/\True)/\A.same A/\g.same g/\j.same j/\z.same z/\u.same (d k B 3 true)/\(c [m 4 O 1,a S] 37 2 false).same (c [m 4 B.length 1,a (XI p B)] 37 2 false)/\True)/\(f<=n/\n<=r)/\(r - n).toNat<(r - x).toNat;let H:=fun(u:Bool) ↦decide (f<SH (ja D))=u;f<=x/\x<=r->(decide (x<r)=true->f<=x/\x<T/\x.toNat<(fL l).length/\lH D/\(H true->1=1/\b.length=b.length/\e*8<=140737488355328/\e<=1000000000000/\f<=x/\x<(↑p.offers.length:Int)/\x.toNat<p.offers.length/\iR .i64 E/\C (d k (b++[x]) 3 true) (b++[x]).length E)/\(H false->C (d k b 3 true) b.length (XI p b)))/\(decide (x<r)=false->b.length=b.length/\b.length=b.length/\b.length=b.length/\(SV.agg [h k b,a (XI p b)]).same (SV.agg [h k (sY (vL (fL l))),a (jd (List.map (oI p) (sY (vL (fL l)))))])/\A.same A/\g.same g/\j.same j/\True)) (by kernel_rfl) ?_
  simp only[vcs]
  have P:∀{x y:List Int},x=y->(cC.row (.i .i64) x 3 true).same (cC.row (.i .i64) y 3 true):=by rintro _ _ rfl;rfl
  have a9:∀{x y:List Int} {v w:Int},x=y->v=w->(cC.cells [.ow 4 x.length 1,.si .i64 v] 37 2 false).same (cC.cells [.ow 4 y.length 1,.si .i64 w] 37 2 false):=by rintro _ _ _ _ rfl rfl;rfl
  refine⟨⟨⟨rfl,P rfl,rfl⟩,by omega,by omega⟩,?_⟩
  rintro i ⟨Y,i1⟩
  have hb:=@ax1 p (vL (fL l)) i.toNat Z (by omega)
  refine⟨fun hi=>?_,fun hi=>?_⟩
  ·have hv:bo (fL l) i.toNat sF.dflt=cJ (bo l i.toNat 0):=KE (by omega)
   have hq:=hz _ (nA (d:=0) (show i.toNat<l.length by omega))
   have ho:=(abS Z (i:=i) (by omega)).2.2.2
   have G:(bo p.offers i.toNat bD.off.dflt).value=(oI p i).value:=rfl
   have R:=@ax0 (vL (fL l)) i Y
   rw[hv,G];rw[Zb] at R hb ⊢;simp only[RP,tc,ahR]
   refine⟨Y,hi,by omega,se hq (by omega),fun h=>?_,fun h=>?_⟩
   ·rw[if_pos h] at R
    rw[R,ax2]
    grind
   grind
  ·rw[show i.toNat=(vL (fL l)).length by grind[Zb]]
   rfl
 |some m=>
  refine gw (let a:=SV.si .i64;let c:=cC.cells;let d:=cC.row;let f:=(0:Int);let h:=SV.row;let v:=SV.ow;let w:=SV.ptr;let K:=w 0 0 28;let I:=w 4 0 2;let J:=w 6 0 2;let T:=(↑(fL l).length:Int);let r:=(↑(fL l).length:Int);let Q:=a r;let N:=SV.il .i64 0;let y:=a 0;let k:=bD.i .i64;let A:=c [a p.supply.a0,a p.supply.a1,a p.supply.a2,a p.supply.a3,a p.supply.a4,a p.supply.a5,a p.opn.a0,a p.opn.a1,a p.opn.a2,a p.opn.a3,a p.opn.a4,a p.opn.a5,a p.cls.a0,a p.cls.a1,a p.cls.a2,a p.cls.a3,a p.cls.a4,a p.cls.a5,h k p.classes,h bD.off p.offers,h k ch,a U,SV.sb F,SV.fn (Fn.func 53) [] [w 1 0 1],v 2 k1 5,v 3 k2 1,a M,a a6] 84 28 false;let g:=c [a m] 2 1 false;let j:=d sg a7 139 true;let o:=d k fx 3 true;let z:=SV.sc (Value.slice none 0 0);let s:=c [z,y] 37 2 false;let C:=R2 (vL (fL l)) 0;(((K.same K/\I.same I/\J.same J/\(h sF (fL l)).same (h sF (fL l))/\(a T).same Q/\N.same y/\True)/\A.same A/\g.same g/\j.same j/\o.same o/\(c [z,N] 37 2 false).same s/\(d k [] 3 true).same (d k C 3 true)/\(c [v 5 0 1,N] 37 2 false).same (c [v 5 C.length 1,a (XI p C)] 37 2 false)/\True)/\f<=f/\f<=r)/\∀(x:Int),let q:=x+(1:Int);let B:=a q;let t:=R2 (vL (fL l)) q.toNat;let D:=bo (fL l) x.toNat sF.dflt;let b:=(D.fst,D.snd.fst,D.snd.snd);let e:=R2 (vL (fL l)) x.toNat;let E:=e.length+1;let X:=XI p e+(bo p.offers x.toNat bD.off.dflt).value;let H:=fun(u:cC) (O:Nat) (S:Int) ↦iR .i64 q/\((K.same K/\I.same I/\J.same J/\(h sF (fL l)).same (h sF (fL l))/\Q.same Q/\B.same B/\True)/\A.same A/\g.same g/\j.same j/\o.same o/\s.same s/\u.same (d k t 3 true)/\(c [v 5 O 1,a S] 37 2 false).same (c [v 5 t.length 1,a (XI p t)] 37 2 false)/\True)/\(f<=q/\q<=r)/\(r - q).toNat<(r - x).toNat;let n:=fun(u:Bool) ↦decide (f<SH (ja b))=u;f<=x/\x<=r->(decide (x<r)=true->f<=x/\x<T/\x.toNat<(fL l).length/\lH b/\(n true->1=1/\e.length=e.length/\E*8<=140737488355328/\E<=1000000000000/\f<=x/\x<(↑p.offers.length:Int)/\x.toNat<p.offers.length/\iR .i64 X/\H (d k (e++[x]) 3 true) (e++[x]).length X)/\(n false->H (d k e 3 true) e.length (XI p e)))/\(decide (x<r)=false->e.length=e.length/\e.length=e.length/\e.length=e.length/\(SV.agg [h k e,a (XI p e)]).same (SV.agg [h k (sY (vL (fL l))),a (jd (List.map (oI p) (sY (vL (fL l)))))])/\A.same A/\g.same g/\j.same j/\o.same o/\True)) (by kernel_rfl) ?_
  simp only[vcs]
  have P:∀{x y:List Int},x=y->(cC.row (.i .i64) x 3 true).same (cC.row (.i .i64) y 3 true):=by rintro _ _ rfl;rfl
  have a9:∀{x y:List Int} {v w:Int},x=y->v=w->(cC.cells [.ow 5 x.length 1,.si .i64 v] 37 2 false).same (cC.cells [.ow 5 y.length 1,.si .i64 w] 37 2 false):=by rintro _ _ _ _ rfl rfl;rfl
  refine⟨⟨⟨rfl,P rfl,rfl⟩,by omega,by omega⟩,?_⟩
  rintro i ⟨Y,i1⟩
  have hb:=@ax1 p (vL (fL l)) i.toNat Z (by omega)
  refine⟨fun hi=>?_,fun hi=>?_⟩
  ·have hv:bo (fL l) i.toNat sF.dflt=cJ (bo l i.toNat 0):=KE (by omega)
   have hq:=hz _ (nA (d:=0) (show i.toNat<l.length by omega))
   have ho:=(abS Z (i:=i) (by omega)).2.2.2
   have G:(bo p.offers i.toNat bD.off.dflt).value=(oI p i).value:=rfl
   have R:=@ax0 (vL (fL l)) i Y
   rw[hv,G];rw[Zb] at R hb ⊢;simp only[RP,tc,ahR]
   refine⟨Y,hi,by omega,se hq (by omega),fun h=>?_,fun h=>?_⟩
   ·rw[if_pos h] at R
    rw[R,ax2]
    grind
   grind
  ·rw[show i.toNat=(vL (fL l)).length by grind[Zb]]
   rfl
def ard:fN:=⟨85,List fO,.one (qX sF),okL,fun x=> .eW [.si .i64 ((Lr (vL x)).getD 0),.sb (Lr (vL x)).isSome]⟩
def Sj:Option (Int×Rat)->fO
 |none=>(false,([],[]))
 |some (_,q)=>cJ q
def brI:Option (Int×Rat)->Int
 |none=>0
 |some (i,_)=>i
def aGS (x:List fO):Nat->jW
 |6=> .inv Int (fun i=>⟨[(4,.ptr 0 0 3),(6,.ptr 1 0 3),(7,.ptr 2 0 2),(8,.ptr 3 0 3),(17,.row sF x),(18,.si .i64 x.length),(19,.si .i64 i)],
   [.cells [.sb (cJ (zq false 1 2)).1,.row (.i .u32) (cJ (zq false 1 2)).2.1,.row (.i .u32) (cJ (zq false 1 2)).2.2] 70 3 false,
    .cells [.sb (cJ ((1:Int):Rat)).1,.row (.i .u32) (cJ ((1:Int):Rat)).2.1,.row (.i .u32) (cJ ((1:Int):Rat)).2.2] 70 3 false,
    .cells [.sb (Lq (vL x) i.toNat).isSome,.si .i64 (brI (Lq (vL x) i.toNat))] 197 2 false,
    .cells [.sb (Sj (Lq (vL x) i.toNat)).1,.row (.i .u32) (Sj (Lq (vL x) i.toNat)).2.1,.row (.i .u32) (Sj (Lq (vL x) i.toNat)).2.2] 70 3 false,.dead,.dead]⟩)
   (fun s=>iS s 19) (fun i=>0<=i/\i<=x.length) (fun i=>(x.length - i).toNat) fun _ _=> .look
 |_=> .look
theorem aGT {q:Rat} {k:Nat} (h:Sz k q):Sz k (aaz q):=by
 grind[aaz,alO]
theorem ax3:mkRat 1 2=(1 / 2:Rat):=by
 grind[Rat.mkRat_eq_div]
theorem ax4:Sz 1 (1 / 2:Rat):=by
 grind[ax3,ai9]
theorem arf {q:Rat} (h:Sz 1000 q):Sz 1002 (q - 1 / 2):=by
 rw[Rat.sub_eq_add_neg]
 exact avE h (j:=1) (alO ax4)
theorem h447:Holds Tryz.prog ard:=by
 refine lj (L:=[aq6,r94,ahQ,r99,r97,r95,ahv]) ard aGS (by grind[h451,h94,h407,h99,h97,h95,h130]) ?_
 rintro(x:List fO) ⟨l,hx,hl,hz⟩
 refine gw (let b:=cC.cells;let c:=SV.row;let d:=(0:Int);let h:=SV.si .i64;let j:=(9223372036854775807:Int);let k:=SV.sb;let l:=(-9223372036854775808:Int);let q:=(1:Int);let B:=iR .i64;let J:=SV.ptr;let L:=SV.bl false;let X:=(2:Int);let g:=bD.i .u32;let H:=J 0 0 3;let F:=J 1 0 3;let I:=J 2 0 2;let G:=J 3 0 3;let o:=(↑x.length:Int);let O:=h o;let a5:=SV.il .i64 0;let K:=zq false q X;let m:=IntCast.intCast q;let A:=Lq (vL x) 0;let r:=b [k (cJ K).fst,c g (cJ K).snd.fst,c g (cJ K).snd.snd] 70 3 false;let p:=b [k (cJ m).fst,c g (cJ m).snd.fst,c g (cJ m).snd.snd] 70 3 false;let Z:=((cJ m).fst,(cJ m).snd.fst,(cJ m).snd.snd);let a2:=((cJ K).fst,(cJ K).snd.fst,(cJ K).snd.snd);let a6:=fun(u:Rat) ↦(b [k (cJ u).fst,c g (cJ u).snd.fst,c g (cJ u).snd.snd] 70 3 false).same (b [k (cJ u).fst,c g (cJ u).snd.fst,c g (cJ u).snd.snd] 70 3 false);((l<=q/\q<=j)/\d<X/\X<=j)/\(l<=q/\q<=j)/\0=0/\0=0/\(((H.same H/\F.same F/\I.same I/\G.same G/\(c sF x).same (c sF x)/\(h (↑x.length:Int)).same O/\a5.same (h 0)/\True)/\a6 K/\a6 m/\(b [L,a5] 197 2 false).same (b [k A.isSome,h (brI A)] 197 2 false)/\(b [L,c g [],c g []] 70 3 false).same (b [k (Sj A).fst,c g (Sj A).snd.fst,c g (Sj A).snd.snd] 70 3 false)/\cC.dead.same cC.dead/\cC.dead.same cC.dead/\True)/\d<=d/\d<=o)/\∀(a:Int),let e:=a+q;let s:=h e;let v:=Lq (vL x) e.toNat;let P:=b [k v.isSome,h (brI v)] 197 2 false;let n:=bo x a.toNat sF.dflt;let z:=(n.fst,n.snd.fst,n.snd.snd);let t:=cJ (ja z - ja a2);let y:=(t.fst,t.snd.fst,t.snd.snd);let a1:=(cJ (-ja y)).fst;let D:=(cJ (-ja y)).snd;let M:=b [k (Sj v).fst,c g (Sj v).snd.fst,c g (Sj v).snd.snd] 70 3 false;let f:=Lq (vL x) a.toNat;let Y:=h (brI f);let S:=(a1,D.fst,D.snd);let E:=((Sj f).fst,(Sj f).snd.fst,(Sj f).snd.snd);let C:=f.isSome==false&&(decide (brI f=d)&&true);let W:=B e/\((H.same H/\F.same F/\I.same I/\G.same G/\(c sF x).same (c sF x)/\O.same O/\s.same s/\True)/\r.same r/\p.same p/\(b [SV.bl true,h a] 197 2 false).same P/\(b [k a1,c g D.fst,c g D.snd] 70 3 false).same M/\cC.dead.same cC.dead/\cC.dead.same cC.dead/\True)/\(d<=e/\e<=o)/\(o - e).toNat<(o - a).toNat;let T:=B e/\((H.same H/\F.same F/\I.same I/\G.same G/\(c sF x).same (c sF x)/\O.same O/\s.same s/\True)/\r.same r/\p.same p/\(b [SV.bl true,h a] 197 2 false).same P/\(b [k t.fst,c g t.snd.fst,c g t.snd.snd] 70 3 false).same M/\cC.dead.same cC.dead/\cC.dead.same cC.dead/\True)/\(d<=e/\e<=o)/\(o - e).toNat<(o - a).toNat;let w:=B e/\((H.same H/\F.same F/\I.same I/\G.same G/\(c sF x).same (c sF x)/\O.same O/\s.same s/\True)/\r.same r/\p.same p/\(b [k f.isSome,Y] 197 2 false).same P/\(b [k (Sj f).fst,c g (Sj f).snd.fst,c g (Sj f).snd.snd] 70 3 false).same M/\cC.dead.same cC.dead/\cC.dead.same cC.dead/\True)/\(d<=e/\e<=o)/\(o - e).toNat<(o - a).toNat;let Q:=lH y;let N:=lH z;let V:=fun(u:Bool) ↦decide (Kp (ja S) (ja E)<d)=u;let a0:=fun(u:Bool) ↦decide (Kp (ja y) (ja E)<d)=u;let R:=fun(u:Bool) ↦decide (SH (ja y)<d)=u;let a3:=fun(u:Bool) ↦decide (d<=Kp (ja z) (ja Z))=u;let U:=fun(u:Bool) ↦decide (SH (ja z)<=d)=u;let a4:=fun(u:Bool) ↦(!okF z)=u;d<=a/\a<=o->(decide (a<o)=true->d<=a/\a<(↑x.length:Int)/\a.toNat<x.length/\((df n.snd.fst/\df n.snd.snd)/\List.length n.snd.fst<=1000000/\List.length n.snd.snd<=1000000)/\(a4 true->w)/\(a4 false->N/\(U true->w)/\(U false->(N/\lH Z)/\(a3 true->w)/\(a3 false->(N/\lH a2)/\Q/\(R true->Q/\(C=true->W)/\(C=false->(lH S/\lH E)/\(V true->W)/\(V false->w)))/\(R false->(C=true->T)/\(C=false->(Q/\lH E)/\(a0 true->T)/\(a0 false->w)))))))/\(decide (a<o)=false->(SV.eW [Y,k f.isSome]).same (SV.eW [h ((Lr (vL x)).getD d),k (Lr (vL x)).isSome]))) (by kernel_rfl) ?_
 simp only[vcs];subst hx;rw[zx] at hl
 have hh:zq false 1 2=1 / 2:=ax3
 simp only[Zb,zx,hh]
 have a7:∀{b c:Option (Int×Rat)},b=c->(cC.cells [.sb b.isSome,.si .i64 (brI b)] 197 2 false).same (cC.cells [.sb c.isSome,.si .i64 (brI c)] 197 2 false):=by rintro _ _ rfl;rfl
 have a6:∀{b c:Option (Int×Rat)},b=c->(cC.cells [.sb (Sj b).1,.row (.i .u32) (Sj b).2.1,.row (.i .u32) (Sj b).2.2] 70 3 false).same (cC.cells [.sb (Sj c).1,.row (.i .u32) (Sj c).2.1,.row (.i .u32) (Sj c).2.2] 70 3 false):=by rintro _ _ rfl;rfl
 have f1:lH (cJ (IntCast.intCast 1)):=se (k:=1) (by unfold Sz;decide) (by omega)
 have f2:lH (cJ (1 / 2)):=se ax4 (by omega)
 refine⟨⟨⟨by omega,by omega⟩,by omega,by omega⟩,⟨by omega,by omega⟩,⟨⟨rfl,rfl⟩,by omega,by omega⟩,?_⟩
 rintro i ⟨i0,i1⟩
 refine⟨fun hi=>?_,fun hi=>?_⟩
 ·have hv:bo (fL l) i.toNat sF.dflt=cJ (bo l i.toNat 0):=KE (by omega)
  have hq:=hz _ (nA (d:=0) (show i.toNat<l.length by omega))
  have hs:Lq l (i+1).toNat=if 0<bo l i.toNat 0/\bo l i.toNat 0<1 then(match Lq l i.toNat with
   |none=>some (i,aaz (bo l i.toNat 0 - 1 / 2))
   |some (j,d)=>if aaz (bo l i.toNat 0 - 1 / 2)<d then some (i,aaz (bo l i.toNat 0 - 1 / 2)) else some (j,d)) else Lq l i.toNat:=by
   rw[show(i+1).toNat=i.toNat+1 by omega]
   grind[Lq]
  have X:∀j d,Lq l i.toNat=some (j,d)->lH (cJ d):=fun j d h=>by
   obtain⟨h1,h2,h3⟩:=aq4 h
   rw[h3]
   exact se (aGT (arf (hz _ (nA (by omega))))) (by omega)
  rw[hv,hs]
  generalize bo l i.toNat 0=q at*
  generalize Lq l i.toNat=B at*
  simp only[RP,tc]
  obtain⟨_,⟨u1,u2,u3⟩,⟨u4,u5,u6⟩⟩:=aaU q
  obtain⟨m1,m2⟩:=acW hq
  have a5:=axZ q
  have fq:lH (cJ q):=se hq (by omega)
  have fd:lH (cJ (q - 1 / 2)):=se (arf hq) (by omega)
  have fn:lH (cJ (-(q - 1 / 2))):=se (alO (arf hq)) (by omega)
  refine⟨i0,hi,by omega,⟨⟨u1,u4⟩,by omega,by omega⟩,fun h=>absurd a5 (by simp_all),fun _=>⟨fq,fun h1=>?_,fun h1=>⟨⟨fq,f1⟩,fun h2=>?_,fun h2=>?_⟩⟩⟩
  ·rw[if_neg (fun h=>by have:=ahR.2 h.1;omega)]
   grind
  ·rw[if_neg (fun h=>by grind[Kp])]
   grind
  ·have hp:0<q/\q<1:=⟨ahR.1 (by omega),af4.1 (by simp_all)⟩
   rw[if_pos hp]
   refine⟨⟨fq,f2⟩,fd,fun h3=>?_,fun h3=>?_⟩
   ·have ha:aaz (q - 1 / 2)= -(q - 1 / 2):=by simp_all[aaz,aqk]
    rw[ha]
    cases B with
    |none=>exact⟨fd,fun _=>⟨by omega,⟨rfl,rfl⟩,by omega⟩,fun h=>absurd h (by decide)⟩
    |some b=>
     obtain⟨j,d⟩:=b
     dsimp only
     refine⟨fd,fun h=>absurd h.1 Bool.false_ne_true,fun _=>⟨⟨fn,X j d rfl⟩,fun J=>?_,fun J=>?_⟩⟩
     ·rw[if_pos (af4.1 (by rw[<-tc d];exact J))]
      exact⟨by omega,⟨rfl,rfl⟩,by omega⟩
     ·rw[if_neg (fun h=>J (by rw[<-tc d] at h;exact af4.2 h))]
      grind
   ·have ha:aaz (q - 1 / 2)=q - 1 / 2:=by simp_all[aaz,aqk]
    rw[ha]
    cases B with
    |none=>exact⟨fun _=>⟨by omega,⟨rfl,rfl⟩,by omega⟩,fun h=>absurd h (by decide)⟩
    |some b=>
     obtain⟨j,d⟩:=b
     dsimp only
     refine⟨fun h=>absurd h.1 Bool.false_ne_true,fun _=>⟨⟨fd,X j d rfl⟩,fun J=>?_,fun J=>?_⟩⟩
     ·rw[if_pos (af4.1 (by rw[<-tc d];exact J))]
      exact⟨by omega,⟨rfl,rfl⟩,by omega⟩
     ·rw[if_neg (fun h=>J (by rw[<-tc d] at h;exact af4.2 h))]
      exact⟨by omega,⟨a7 rfl,a6 rfl⟩,by omega⟩
 ·rw[show i.toNat=l.length by omega]
  unfold Lr
  cases Lq l l.length<;>exact⟨rfl,rfl⟩
noncomputable def ags (n:Nat):ob:=amO 49 Int (.one (sj .i64)) (fun x a=>uf x/\(0<=a/\a<x.prf.length)/\nF x.fx<n) (fun _ _=> .eW []) fun x a=>x.upd (pn x.p (jr x.en) x.most (nF x.fx) x.s a x.fx)
noncomputable def amP (n:Nat):ob:=amO 86 (Int×Int×Int) (.cons (sj .i64) (.cons (sj .i64) (.one (sj .i64)))) (fun x a=>uf x/\(0<=a.1/\a.1<x.prf.length)/\(0<=a.2.1/\a.2.1<x.fx.length)/\bo x.fx a.2.1.toNat 0=0/\(a.2.2=1\/a.2.2= -1)/\nF (x.fx.set a.2.1.toNat a.2.2)<n) (fun _ _=> .eW []) fun x a=>x.upd (pn x.p (jr x.en) x.most (nF (x.fx.set a.2.1.toNat a.2.2)) x.s a.1 (x.fx.set a.2.1.toNat a.2.2))
theorem aHT {L:List fN} {W:List ob} (c:ob) (Λ:c.α->Nat->jW) (i:∀c∈W,qH Tryz.prog c) (e:∀c∈L,Holds Tryz.prog c)
  
  (h:∀a,c.dom a->Vc (ajL (SC L (A2 W) ZZ mtN ym) (Λ a) (fG c.f) (c.put a) (c.st a) fun v s=>v.same (c.res a)/\ME s (c.out a))) (j:(ym c.f).isSome=true:=by kernel_rfl) (b:∀a,(c.put a).length=(fG c.f).params:=by intro _;kernel_rfl) (d:YA c.f W=none:=by kernel_rfl):qH Tryz.prog c:=
 fun a g=>axz c acg i e (afQ j) b a d (h a g).out
theorem aGU {L:List fN} {W:List ob} (c:ob) (F:uC) (Λ:c.α->Nat->jW) (i:∀c∈W,qH Tryz.prog c) (e:∀c∈L,Holds Tryz.prog c)
  
  (h:∀a,c.dom a->Vc (ajL (SC L (A2 W) ZZ mtN ym) (Λ a) F (c.put a) (c.st a) fun v s=>v.same (c.res a)/\ME s (c.out a))) (j:ym c.f=some F:=by kernel_rfl) (b:∀a,(c.put a).length=F.params:=by intro _;kernel_rfl) (d:YA c.f W=none:=by kernel_rfl):qH Tryz.prog c:=
 fun a g=>axz c acg i e j b a d (h a g).out
theorem uf.set {x:pX} (h:uf x) {k:Nat} {d:Int} (a:d=1\/d= -1):uf ⟨x.p,x.ch,x.val,x.found,x.en,x.k1,x.k2,x.most,x.err,x.prf,x.fx.set k d⟩:=
 ⟨⟨h.f.c,by rw[List.length_set];exact h.f.l,axS h.f.r (by omega)⟩,h.k1,by rw[List.length_set];exact h.k2,h.v0,h.v1,h.m0,h.m1,h.l,h.c⟩
theorem aGV {f:List Int} {k:Nat} {d:Int} (b:k<f.length) (a:bo f k 0=0):(f.set k d).set k 0=f:=by
 rw[jV b] at a;rw[List.set_set,<-a,List.set_getElem_self]
theorem aGW {n:Nat} (J:qH Tryz.prog (ags n)):qH Tryz.prog (amP n):=by
 refine aGU (L:=[]) (W:=[ags n]) (amP n) (fG 86) lk (by simp_all) (by simp) ?_
 rintro⟨⟨p,w,q,e,I,F,j,b,r,g,f⟩,a,k,d⟩ ⟨s,A,o,H,C,z⟩
 simp only at s A o H C z
 have t:j=f.length:=s.k2
 have D:=aGV (d:=d) (show k.toNat<f.length by omega) H
 have G:∀{x y:List Int},x=y->(cC.row (.i .i64) x 3 true).same (cC.row (.i .i64) y 3 true):=by rintro _ _ rfl;rfl
 cases I with
 |none=>
  have B:=s.set (k:=k.toNat) C
  refine gw (let m:=SV.si .i64;let o:=(0:Int);let s:=cC.row;let t:=SV.row;let c:=f.set k.toNat d;let l:=bD.i .i64;let h:=pn p (jr none) b (nF c) (li.mk w q e g r) a c;let u:=cC.cells [m p.supply.a0,m p.supply.a1,m p.supply.a2,m p.supply.a3,m p.supply.a4,m p.supply.a5,m p.opn.a0,m p.opn.a1,m p.opn.a2,m p.opn.a3,m p.opn.a4,m p.opn.a5,m p.cls.a0,m p.cls.a1,m p.cls.a2,m p.cls.a3,m p.cls.a4,m p.cls.a5,t l p.classes,t bD.off p.offers,t l h.ch,m h.val,SV.sb h.found,SV.fn (Fn.func 45) [] [],SV.ow 1 h.prf.length 5,SV.ow 2 j 1,m b,m h.err] 84 28 false;let v:=s sg h.prf 139 true;j=f.length/\o<=k/\k<(↑f.length:Int)/\j=f.length/\k.toNat<f.length/\(uf (pX.mk p w q e none F j b r g c)/\(o<=a/\a<(↑g.length:Int))/\nF c<n)/\j=c.length/\o<=k/\k<(↑c.length:Int)/\j=c.length/\k.toNat<c.length/\(SV.eW []).same (SV.eW [])/\u.same u/\v.same v/\(s l (c.set k.toNat o) 3 true).same (s l f 3 true)/\True) (by kernel_rfl) ?_
  conv=>zeta
  rw[List.length_set]
  exact⟨t,o.1,o.2,t,by omega,⟨B,A,z⟩,t,o.1,o.2,t,by omega,rfl,rfl,rfl,G D,trivial⟩
 |some m=>
  have B:=s.set (k:=k.toNat) C
  refine gw (let o:=SV.si .i64;let s:=(0:Int);let t:=cC.row;let x:=SV.row;let c:=f.set k.toNat d;let l:=bD.i .i64;let h:=pn p (jr (some m)) b (nF c) (li.mk w q e g r) a c;let u:=cC.cells [o p.supply.a0,o p.supply.a1,o p.supply.a2,o p.supply.a3,o p.supply.a4,o p.supply.a5,o p.opn.a0,o p.opn.a1,o p.opn.a2,o p.opn.a3,o p.opn.a4,o p.opn.a5,o p.cls.a0,o p.cls.a1,o p.cls.a2,o p.cls.a3,o p.cls.a4,o p.cls.a5,x l p.classes,x bD.off p.offers,x l h.ch,o h.val,SV.sb h.found,SV.fn (Fn.func 53) [] [SV.ptr 1 0 1],SV.ow 2 h.prf.length 5,SV.ow 3 j 1,o b,o h.err] 84 28 false;let v:=cC.cells [o m] 2 1 false;let E:=t sg h.prf 139 true;j=f.length/\s<=k/\k<(↑f.length:Int)/\j=f.length/\k.toNat<f.length/\(uf (pX.mk p w q e (some m) F j b r g c)/\(s<=a/\a<(↑g.length:Int))/\nF c<n)/\j=c.length/\s<=k/\k<(↑c.length:Int)/\j=c.length/\k.toNat<c.length/\(SV.eW []).same (SV.eW [])/\u.same u/\v.same v/\E.same E/\(t l (c.set k.toNat s) 3 true).same (t l f 3 true)/\True) (by kernel_rfl) ?_
  conv=>zeta
  rw[List.length_set]
  exact⟨t,o.1,o.2,t,by omega,⟨B,A,z⟩,t,o.1,o.2,t,by omega,rfl,rfl,rfl,rfl,G D,trivial⟩
theorem ax5 {p:cn} {en:Int->Bool} {most:Int} {f:List Int} (j:uA p f) {c b:li->Int->List Int->li} {s:li} {a:Int}
  (h:∀k d:Int,(0<=k/\k<f.length)->bo f k.toNat 0=0->(d=1\/d= -1)->∀s a,c s a (f.set k.toNat d)=b s a (f.set k.toNat d)):x5 p en most c s a f=x5 p en most b s a f:=by
 unfold x5;split
 ·rfl
 split
 ·rfl
 rename_i o
 have l:DU p f=true:=by simp_all
 split
 ·rfl
 split
 ·rfl
 rename_i k n;split
 ·rfl
 obtain⟨e,i,g⟩:=aep n
 rw[adM] at e
 have m:bo f k.toNat 0=0:=aeo (j.ok l) j.r (by omega) i g
 simp_all
theorem ajX {p:cn} {en:Int->Bool} {most:Int} {f:List Int} (e:uA p f) {s:li} {a:Int}:pn p en most (nF f) s a f=x5 p en most (fun s a g=>pn p en most (nF g) s a g) s a f:=by
 have j:∀k d:Int,(0<=k/\k<f.length)->bo f k.toNat 0=0->(d=1\/d= -1)->nF f=nF (f.set k.toNat d)+1:=fun k d c b i=>Ze c b (by omega)
 cases h:nF f with
 |zero=>exact ax5 e fun k d c b i=>by grind
 |succ n=>
  refine ax5 e fun k d c b i s a=>?_
  grind
section
variable {p:cn} {en:Int->Bool} {most:Int} {f:List Int} {s O:li} {a k:Int}
theorem ajY (b:uA p f) (h:s.err≠0\/s.found=true):pn p en most (nF f) s a f=s:=by
 simp_all[ajX,x5]
theorem ax6 (c:uA p f) (h:¬(s.err≠0\/s.found=true)) (b:DU p f=false):pn p en most (nF f) s a f={s with prf:=s.prf.set a.toNat cfN}:=by
 simp_all[ajX,x5]
theorem ah4 (c:uA p f) (h:¬(s.err≠0\/s.found=true)) (b:DU p f=true) (d:mA p en s f=O) (e:GI p f<((O.val+1:Int):Rat)):pn p en most (nF f) s a f={O with prf:=O.prf.set a.toNat (aq3 p f)}:=by
 simp_all[ajX,x5]
theorem acw (b:uA p f) (h:¬(s.err≠0\/s.found=true)) (d:DU p f=true) (c:mA p en s f=O) (g:¬GI p f<((O.val+1:Int):Rat)) (e:Lr (oC p f)=none\/most<(O.prf.length:Int)+2):pn p en most (nF f) s a f={O with err:=12}:=by
 subst c;rw[ajX b];unfold x5
 grind
theorem ah5 (d:uA p f) (h:¬(s.err≠0\/s.found=true)) (b:DU p f=true) (g:mA p en s f=O) (i:¬GI p f<((O.val+1:Int):Rat)) (c:Lr (oC p f)=some k) (e:¬most<(O.prf.length:Int)+2):
  pn p en most (nF f) s a f=pn p en most (nF (f.set k.toNat (-1))) (pn p en most (nF (f.set k.toNat 1)) (A7 O a k) (O.prf.length+1) (f.set k.toNat 1)) O.prf.length (f.set k.toNat (-1)):=by
 simp_all[ajX,x5,if_neg]
end
theorem uf.itg {x:pX} (h:uf x):uf (x.upd (mA x.p (jr x.en) x.s x.fx)):=by
 obtain⟨d,i,b,a,g⟩:=@amM x.p (jr x.en) x.s x.fx
 obtain⟨m,j,k⟩:=axT h.f
 have b:x.val<=(mA x.p (jr x.en) x.s x.fx).val:=b
 have a:(mA x.p (jr x.en) x.s x.fx).val=x.val\/(mA x.p (jr x.en) x.s x.fx).val=(abW x.p x.fx).value:=a
 have n:=h.v0
 have o:=h.v1
 refine⟨h.f,rfl,h.k2,?_,?_,h.m0,h.m1,?_,?_⟩
 ·show 0<=(mA x.p (jr x.en) x.s x.fx).val
  omega
 ·show(mA x.p (jr x.en) x.s x.fx).val<=_
  omega
 ·show(mA x.p (jr x.en) x.s x.fx).prf.length<=_
  rw[d];exact h.l
 ·show(mA x.p (jr x.en) x.s x.fx).ch.length<=_
  rcases g with e|e
  ·rw[e];exact h.c
  ·rw[e];omega
theorem uf.vis {x:pX} (h:uf x) {f:List Int} (i:uA x.p f) {n:Nat} {a:Int}:uf (x.upd (pn x.p (jr x.en) x.most n x.s a f)):=by
 obtain⟨m,g,b,d,k,q⟩:=@adN x.p (jr x.en) x.most n x.s a f i
 have b:x.val<=(pn x.p (jr x.en) x.most n x.s a f).val:=b
 have d:(pn x.p (jr x.en) x.most n x.s a f).val=x.val\/(pn x.p (jr x.en) x.most n x.s a f).val<=160000000:=d
 have r:=h.v0
 have t:=h.v1
 have o:=h.m1
 have j:=h.l
 refine⟨h.f,rfl,h.k2,?_,?_,h.m0,h.m1,?_,?_⟩
 ·show 0<=(pn x.p (jr x.en) x.most n x.s a f).val
  omega
 ·show(pn x.p (jr x.en) x.most n x.s a f).val<=_
  omega
 ·show(pn x.p (jr x.en) x.most n x.s a f).prf.length<=_
  rcases g with e|e
  ·omega
  ·rw[e];exact j
 ·show(pn x.p (jr x.en) x.most n x.s a f).ch.length<=_
  rcases k with e|e
  ·rw[e];exact h.c
  ·omega
theorem uf.spl {x:pX} (h:uf x) (b:¬x.most<(x.prf.length:Int)+2) {k:Nat} {l:List Nod} (a:k=l.length) (d:l.length=x.prf.length+2):uf ⟨x.p,x.ch,x.val,x.found,x.en,k,x.k2,x.most,x.err,l,x.fx⟩:=
 ⟨h.f,a,h.k2,h.v0,h.v1,h.m0,h.m1,by have:=h.m1;grind,h.c⟩
theorem aGX {n:Nat} (hD:qH Tryz.prog (amP n)):qH Tryz.prog (ags (n+1)):=by
 refine aBX (L:=[r94,r97,aq7,ard]) (W:=[amA,arb,ajW,amP n]) (ags (n+1)) (fG 49) lk (by simpa using⟨h390w,h446,h439,hD⟩) (by simpa using⟨h94,h97,h445,h447⟩) ?_
 rintro⟨⟨p,ch,val,found,en,k1,k2,most,err,prf,fx⟩,a⟩ ⟨hok,ha,hn⟩
 simp only at hok ha hn
 have e1:k1=prf.length:=hok.k1
 have e2:k2=fx.length:=hok.k2
 subst e1;subst e2
 have hf:uA p fx:=hok.f
 have h160:=(pz hf.c).2.1
 have hfl:fx.length=p.offers.length:=hf.l
 have hfe:=hf.e
 have hfo:=hf.FQ
 have hv0:0<=val:=hok.v0
 have hv1:val<=9223372036854775806:=hok.v1
 have hm0:1<=most:=hok.m0
 have hm1:most<=65536:=hok.m1
 have hpl:prf.length<=65536:=hok.l
 rcases en with _|m
 ·refine gw (let b:=SV.si .i64;let c:=(0:Int);let d:=cC.cells;let e:=SV.eW;let f:=(1:Int);let g:=cC.row;let h:=(-1:Int);let j:=iR .i64;let k:=(-9223372036854775808:Int);let l:=(9223372036854775807:Int);let m:=SV.row;let o:=SV.sb;let q:=(2:Int);let r:=SV.ow;let Q:=vL (RS p fx);let v:=b p.supply.a0;let w:=b p.supply.a1;let x:=b p.supply.a2;let y:=b p.supply.a3;let z:=b p.supply.a4;let A:=b p.supply.a5;let B:=b p.opn.a0;let C:=b p.opn.a1;let D:=b p.opn.a2;let E:=b p.opn.a3;let F:=b p.opn.a4;let G:=b p.opn.a5;let H:=b p.cls.a0;let I:=b p.cls.a1;let J:=b p.cls.a2;let K:=b p.cls.a3;let L:=b p.cls.a4;let M:=b p.cls.a5;let V:=bD.i .i64;let N:=m V p.classes;let O:=m bD.off p.offers;let ae:=m V ch;let af:=b val;let P:=SV.fn (Fn.func 45) [] [];let ag:=r 1 prf.length 5;let R:=r 2 fx.length 1;let S:=b most;let au:=[R,S,SV.il .i64 12];let av:=li.mk ch val found prf err;let a7:=pn p (jr none) most (nF fx) av a fx;let T:=d [v,w,x,y,z,A,B,C,D,E,F,G,H,I,J,K,L,M,N,O,m V a7.ch,b a7.val,o a7.found,P,r 1 a7.prf.length 5,R,S,b a7.err] 84 28 false;let U:=g sg a7.prf 139 true;let t:=g V fx 3 true;let Y:=(↑prf.length:Int);let aw:=decide (most<Y+q);let ax:=prf.length+2;let a8:=Y+f;let am:=(c,c,c,[]);let aj:=[(c,am),(c,am)];let z45:Nat:=(prf++aj).length;let u:=(Lr Q).getD c;let an:=(prf++aj).set a.toNat (q,u,Y,a8,[]);let a9:=fx.set u.toNat f;let W:=pn p (jr none) most (nF a9) (li.mk ch val found an err) a8 a9;let aa:=fx.set u.toNat h;let ab:=pn p (jr none) most (nF aa) W Y aa;let ah:=((F2 p fx).fst,(F2 p fx).snd.fst,(F2 p fx).snd.snd);let ak:=val+f;let ao:=cJ (IntCast.intCast ak);let ap:=(ao.fst,ao.snd.fst,ao.snd.snd);let ay:=Kp (ja ah) (ja ap);let az:=decide (ay<c);let aA:=(f,c,c,c,ac2 p fx);let s:=rc (jr none) av (Alloc.mk (sY Q) (jd (List.map (oI p) (sY Q))));let z60:Nat:=(s.prf++aj).length;let aB:=b s.val;let ai:=s.prf.length;let aC:=r 1 ai 5;let aD:=decide (err≠c);let aE:=decide (Ig p fx≠c);let aF:=decide (c<=ay);let al:=s.val+f;let aq:=cJ (IntCast.intCast al);let aG:=(aq.fst,aq.snd.fst,aq.snd.snd);let aH:=decide (Kp (ja ah) (ja aG)<c);let Z:=s.prf.length;let a6:=(↑ai:Int);let aI:=decide (most<a6+q);let ac:=a6+f;let ar:=(s.prf++aj).set a.toNat (q,u,a6,ac,[]);let X:=pn p (jr none) most (nF a9) (li.mk s.ch s.val s.found ar s.err) ac a9;let ad:=pn p (jr none) most (nF aa) X a6 aa;let aO:=let aJ:=(e []).same (e [])/\(d (v::w::x::y::z::A::B::C::D::E::F::G::H::I::J::K::L::M::N::O::ae::af::o found::P::ag::au) 84 28 false).same T/\(g sg prf 139 true).same U/\t.same t/\True;okL (RS p fx)/\((!(Lr Q).isSome)=true->aJ)/\((!(Lr Q).isSome)=false->j (Y+q)/\(aw=true->aJ)/\(aw=false->2=2/\prf.length=prf.length/\ax*56<=140737488355328/\ax<=1000000000000/\j a8/\z45=z45/\c<=a/\a<(↑z45:Int)/\z45=z45/\a.toNat<z45/\j a8/\(uf (pX.mk p ch val found none z45 fx.length most err an fx)/\(c<=a8/\a8<(↑an.length:Int))/\(c<=u/\u<(↑fx.length:Int))/\bo fx u.toNat c=c/\(f=f\/f=h)/\nF a9<n)/\(uf (pX.mk p W.ch W.val W.found none W.prf.length fx.length most W.err W.prf fx)/\(c<=Y/\Y<(↑W.prf.length:Int))/\(c<=u/\u<(↑fx.length:Int))/\bo fx u.toNat c=c/\(h=f\/h=h)/\nF aa<n)/\(e []).same (e [])/\(d [v,w,x,y,z,A,B,C,D,E,F,G,H,I,J,K,L,M,N,O,m V ab.ch,b ab.val,o ab.found,P,r 1 ab.prf.length 5,R,S,b ab.err] 84 28 false).same T/\(g sg ab.prf 139 true).same U/\t.same t/\True));let aK:=(lH ah/\lH ap)/\(az=true->prf.length=prf.length/\c<=a/\a<(↑prf.length:Int)/\prf.length=prf.length/\a.toNat<prf.length/\(e []).same (e [])/\(d [v,w,x,y,z,A,B,C,D,E,F,G,H,I,J,K,L,M,N,O,ae,af,o found,P,ag,R,S,b err] 84 28 false).same T/\(g sg (prf.set a.toNat aA) 139 true).same U/\t.same t/\True)/\(az=false->aO);let aL:=z60=z60;let aM:=(e []).same (e [])/\(d (v::w::x::y::z::A::B::C::D::E::F::G::H::I::J::K::L::M::N::O::m V s.ch::aB::o s.found::P::aC::au) 84 28 false).same T/\(g sg s.prf 139 true).same U/\t.same t/\True;let aN:=(e []).same (e [])/\(d [v,w,x,y,z,A,B,C,D,E,F,G,H,I,J,K,L,M,N,O,ae,af,o found,P,ag,R,S,b err] 84 28 false).same T/\(g sg prf 139 true).same U/\t.same t/\True;(aD=true->aN)/\(aD=false->(found=true->aN)/\(found=false->(fx.length=fx.length/\fx.length<=1000000000000)/\(aE=true->(e []).same (e [])/\(d [v,w,x,y,z,A,B,C,D,E,F,G,H,I,J,K,L,M,N,O,ae,af,o found,P,ag,R,S,b (Ig p fx)] 84 28 false).same T/\(g sg prf 139 true).same U/\t.same t/\True)/\(aE=false->((!FQ p fx)=true->prf.length=prf.length/\c<=a/\a<(↑prf.length:Int)/\prf.length=prf.length/\a.toNat<prf.length/\(e []).same (e [])/\(d [v,w,x,y,z,A,B,C,D,E,F,G,H,I,J,K,L,M,N,O,ae,af,o found,P,ag,R,S,b err] 84 28 false).same T/\(g sg (prf.set a.toNat ((3:Int),am)) 139 true).same U/\t.same t/\True)/\((!FQ p fx)=false->j ak/\(k<=ak/\ak<=l)/\(lH ah/\lH ap)/\(aF=true->okL (RS p fx)/\(aay Q=true->(uf (pX.mk p ch val found none prf.length fx.length most err prf fx)/\okL (RS p fx)/\(RS p fx).length=p.offers.length)/\prf.length=prf.length/\j al/\(k<=al/\al<=l)/\(lH ah/\lH aG)/\(aH=true->ai=Z/\c<=a/\a<(↑Z:Int)/\ai=Z/\a.toNat<Z/\(e []).same (e [])/\(d [v,w,x,y,z,A,B,C,D,E,F,G,H,I,J,K,L,M,N,O,m V s.ch,aB,o s.found,P,aC,R,S,b s.err] 84 28 false).same T/\(g sg (s.prf.set a.toNat aA) 139 true).same U/\t.same t/\True)/\(aH=false->okL (RS p fx)/\((!(Lr Q).isSome)=true->aM)/\((!(Lr Q).isSome)=false->j (a6+q)/\(aI=true->aM)/\(aI=false->2=2/\ai=Z/\(Z+2)*56<=140737488355328/\Z+2<=1000000000000/\j ac/\aL/\c<=a/\a<(↑z60:Int)/\aL/\a.toNat<z60/\j ac/\(uf (pX.mk p s.ch s.val s.found none z60 fx.length most s.err ar fx)/\(c<=ac/\ac<(↑ar.length:Int))/\(c<=u/\u<(↑fx.length:Int))/\bo fx u.toNat c=c/\(f=f\/f=h)/\nF a9<n)/\(uf (pX.mk p X.ch X.val X.found none X.prf.length fx.length most X.err X.prf fx)/\(c<=a6/\a6<(↑X.prf.length:Int))/\(c<=u/\u<(↑fx.length:Int))/\bo fx u.toNat c=c/\(h=f\/h=h)/\nF aa<n)/\(e []).same (e [])/\(d [v,w,x,y,z,A,B,C,D,E,F,G,H,I,J,K,L,M,N,O,m V ad.ch,b ad.val,o ad.found,P,r 1 ad.prf.length 5,R,S,b ad.err] 84 28 false).same T/\(g sg ad.prf 139 true).same U/\t.same t/\True))))/\(aay Q=false->aK))/\(aF=false->aK)))))) (by kernel_rfl) ?_
  simp only[vcs]
  refine⟨fun h=>by rw[ajY hf (.inl h)];exact⟨rfl,rfl⟩,fun h0=>⟨fun h=>by rw[ajY hf (.inr h)];exact⟨rfl,rfl⟩,fun h1=>⟨by omega,fun h=>absurd hfe h,fun _=>⟨fun h=>?_,fun hb=>?_⟩⟩⟩⟩
  ·have hs:¬((⟨ch,val,found,prf,err⟩:li).err≠0\/(⟨ch,val,found,prf,err⟩:li).found=true):=by
    rintro(h|h)
    ·exact h0 h
    ·rw[show found=true from h] at h1;cases h1
   rw[ax6 hf hs (by rw[<-hfo];exact h)]
   refine⟨ha.1,ha.2,by omega,?_,rfl⟩
   simp only[List.length_set];rfl
  ·have hs:¬((⟨ch,val,found,prf,err⟩:li).err≠0\/(⟨ch,val,found,prf,err⟩:li).found=true):=by
    rintro(h|h)
    ·exact h0 h
    ·rw[show found=true from h] at h1;cases h1
   have hbf:DU p fx=true:=by rw[<-hfo];exact hb
   have hfix:=hf.ok hbf
   have eB:F2 p fx=cJ (GI p fx):=by unfold F2;rw[if_pos hb]
   have eS:RS p fx=fL (oC p fx):=by unfold RS oC;rw[if_pos hb]
   have eP:ac2 p fx=fL (ahW p fx):=by unfold ac2;rw[if_pos hb]
   have hsl:(oC p fx).length=fx.length:=adM
   have oS:okL (fL (oC p fx)):=⟨oC p fx,rfl,by rw[zx];omega,fun q hq=>by
    obtain⟨i,hi,rfl⟩:=List.getElem_of_mem hq
    have:=(amJ hfix hf.r (i:=i) (by omega)).2.2
    rwa [jV hi] at this⟩
   have fB:lH (cJ (GI p fx)):=se (aqP hb) (by omega)
   have fI:∀v:Int,0<=v->v<=9223372036854775807->lH (cJ (IntCast.intCast v)):=fun v h0 h1=>se (szI (by omega) h1) (by omega)
   have hcv:∀v:Int,Kp (GI p fx) (IntCast.intCast v)<0↔GI p fx<((v:Int):Rat):=fun v=>af4
   simp only[eB,eS,eP,Zb,RP,tc]
   have hcm:sY (oC p fx)=(abW p fx).chosen:=rfl
   refine⟨by omega,by omega,⟨fB,fI _ (by omega) (by omega)⟩,fun hge=>⟨oS,fun hi=>?_,fun hi=>?_⟩,fun hlt=>?_⟩
   ·have hO:mA p (jr none) ⟨ch,val,found,prf,err⟩ fx=rc (jr none) ⟨ch,val,found,prf,err⟩ ⟨sY (oC p fx),jd ((sY (oC p fx)).map (oI p))⟩:=by
     unfold mA
     rw[if_pos ⟨Rat.not_lt.1 fun h=>absurd ((hcv (val+1)).2 h) (Int.not_lt.2 hge),hi⟩]
     rfl
    have hok':uf (pX.upd ⟨p,ch,val,found,none,prf.length,fx.length,most,err,prf,fx⟩ (mA p (jr none) ⟨ch,val,found,prf,err⟩ fx)):=hok.itg
    rw[hO] at hok'
    obtain⟨e1,e2,_⟩:=@amL (jr none) ⟨ch,val,found,prf,err⟩ ⟨sY (oC p fx),jd ((sY (oC p fx)).map (oI p))⟩
    generalize rc (jr none) ⟨ch,val,found,prf,err⟩ ⟨sY (oC p fx),jd ((sY (oC p fx)).map (oI p))⟩=O at*
    obtain⟨ch',val',found',prf',aer⟩:=O
    have e1:prf=prf':=Eq.symm e1
    have e2:err=aer:=Eq.symm e2
    subst e1;subst e2
    have w0:0<=val':=hok'.v0
    have w1:val'<=9223372036854775806:=hok'.v1
    dsimp only
    refine⟨⟨hok,oS,by rw[zx];omega⟩,by omega,by omega,⟨fB,fI _ (by omega) (by omega)⟩,?_⟩
    refine⟨fun h=>?_,fun h=>⟨oS,fun hk=>?_,fun hk=>⟨by omega,fun hm=>?_,fun hm=>?_⟩⟩⟩
    ·rw[ah4 hf hs hbf hO ((hcv _).1 h)]
     refine⟨ha.1,ha.2,by omega,?_,rfl⟩
     simp only[List.length_set];rfl
    ·rw[acw hf hs hbf hO (fun h'=>h ((hcv _).2 h')) (.inl (Option.isSome_eq_false_iff.1 hk |>Option.isNone_iff_eq_none.1))]
     exact⟨rfl,rfl⟩
    ·rw[acw hf hs hbf hO (fun h'=>h ((hcv _).2 h')) (.inr hm)]
     exact⟨rfl,rfl⟩
    ·obtain⟨k,hk'⟩:=Option.isSome_iff_exists.1 hk
     rw[ah5 hf hs hbf hO (fun h'=>h ((hcv _).2 h')) hk' hm];simp only[hk',Option.getD_some]
     obtain⟨hk1,hk2,hk3⟩:=aep hk'
     rw[hsl] at hk1
     have hk0:bo fx k.toNat 0=0:=aeo hfix hf.r (by omega) hk2 hk3
     have n1:=Ze hk1 hk0 (d:=1) (by omega)
     have n2:=Ze hk1 hk0 (d:= -1) (by omega)
     have hl2:((prf++[zN,zN]).set a.toNat (RY k prf.length)).length=prf.length+2:=by rw[List.length_set,List.length_append];rfl
     have hl1:(prf++[zN,zN]).length=prf.length+2:=by rw[List.length_append];rfl
     have o1:=uf.spl (x:=⟨p,ch',val',found',none,prf.length,fx.length,most,aer,prf,fx⟩) hok' (k:=(prf++[zN,zN]).length) (l:=(prf++[zN,zN]).set a.toNat (RY k prf.length)) hm (by rw[hl1,hl2]) hl2
     have o2:=o1.vis (f:=fx.set k.toNat 1) (hf.set (by omega)) (n:=nF (fx.set k.toNat 1)) (a:=(prf.length:Int)+1)
     have o3:=(@adN p (jr none) most (nF (fx.set k.toNat 1)) (A7 ⟨ch',val',found',prf,aer⟩ a k) ((prf.length:Int)+1) (fx.set k.toNat 1) (hf.set (by omega))).1
     have o4:prf.length+2<=(pn p (jr none) most (nF (fx.set k.toNat 1)) (A7 ⟨ch',val',found',prf,aer⟩ a k) ((prf.length:Int)+1) (fx.set k.toNat 1)).prf.length:=by rw[<-hl2];exact o3
     have q1:a<((prf++[zN,zN]).length:Int):=by omega
     have q3:(prf.length:Int)+1<(((prf++[zN,zN]).set a.toNat (RY k prf.length)).length:Int):=by rw[hl2];omega
     have q2:a.toNat<(prf++[zN,zN]).length:=by omega
     exact⟨by omega,by omega,by omega,ha.1,q1,q2,by omega,⟨o1,⟨by omega,q3⟩,hk1,hk0,.inl trivial,by omega⟩,⟨o2,⟨by omega,Int.ofNat_lt.2 (Nat.lt_of_lt_of_le (by omega) o4)⟩,hk1,hk0,.inr trivial,by omega⟩,rfl,rfl⟩
   ·have hO:mA p (jr none) ⟨ch,val,found,prf,err⟩ fx=⟨ch,val,found,prf,err⟩:=by
     unfold mA
     rw[if_neg (fun h=>by rw[h.2] at hi;cases hi)]
    refine⟨⟨fB,fI _ (by omega) (by omega)⟩,?_⟩
    refine⟨fun h=>?_,fun h=>⟨oS,fun hk=>?_,fun hk=>⟨by omega,fun hm=>?_,fun hm=>?_⟩⟩⟩
    ·rw[ah4 hf hs hbf hO ((hcv _).1 h)]
     refine⟨ha.1,ha.2,by omega,?_,rfl⟩
     simp only[List.length_set];rfl
    ·rw[acw hf hs hbf hO (fun h'=>h ((hcv _).2 h')) (.inl (Option.isSome_eq_false_iff.1 hk |>Option.isNone_iff_eq_none.1))]
     exact⟨rfl,rfl⟩
    ·rw[acw hf hs hbf hO (fun h'=>h ((hcv _).2 h')) (.inr hm)]
     exact⟨rfl,rfl⟩
    ·obtain⟨k,hk'⟩:=Option.isSome_iff_exists.1 hk
     rw[ah5 hf hs hbf hO (fun h'=>h ((hcv _).2 h')) hk' hm];simp only[hk',Option.getD_some]
     obtain⟨hk1,hk2,hk3⟩:=aep hk'
     rw[hsl] at hk1
     have hk0:bo fx k.toNat 0=0:=aeo hfix hf.r (by omega) hk2 hk3
     have n1:=Ze hk1 hk0 (d:=1) (by omega)
     have n2:=Ze hk1 hk0 (d:= -1) (by omega)
     have hl2:((prf++[zN,zN]).set a.toNat (RY k prf.length)).length=prf.length+2:=by rw[List.length_set,List.length_append];rfl
     have hl1:(prf++[zN,zN]).length=prf.length+2:=by rw[List.length_append];rfl
     have o1:=uf.spl hok (k:=(prf++[zN,zN]).length) (l:=(prf++[zN,zN]).set a.toNat (RY k prf.length)) hm (by rw[hl1,hl2]) hl2
     have o2:=o1.vis (f:=fx.set k.toNat 1) (hf.set (by omega)) (n:=nF (fx.set k.toNat 1)) (a:=(prf.length:Int)+1)
     have o3:=(@adN p (jr none) most (nF (fx.set k.toNat 1)) (A7 ⟨ch,val,found,prf,err⟩ a k) ((prf.length:Int)+1) (fx.set k.toNat 1) (hf.set (by omega))).1
     have o4:prf.length+2<=(pn p (jr none) most (nF (fx.set k.toNat 1)) (A7 ⟨ch,val,found,prf,err⟩ a k) ((prf.length:Int)+1) (fx.set k.toNat 1)).prf.length:=by rw[<-hl2];exact o3
     have q1:a<((prf++[zN,zN]).length:Int):=by omega
     have q3:(prf.length:Int)+1<(((prf++[zN,zN]).set a.toNat (RY k prf.length)).length:Int):=by rw[hl2];omega
     have q2:a.toNat<(prf++[zN,zN]).length:=by omega
     exact⟨by omega,by omega,by omega,ha.1,q1,q2,by omega,⟨o1,⟨by omega,q3⟩,hk1,hk0,.inl trivial,by omega⟩,⟨o2,⟨by omega,Int.ofNat_lt.2 (Nat.lt_of_lt_of_le (by omega) o4)⟩,hk1,hk0,.inr trivial,by omega⟩,rfl,rfl⟩
   ·have hO:mA p (jr none) ⟨ch,val,found,prf,err⟩ fx=⟨ch,val,found,prf,err⟩:=by
     unfold mA;rw[if_neg (fun h=>Rat.not_lt.2 h.1 ((hcv (val+1)).1 (Int.not_le.1 hlt)))]
    refine⟨⟨fB,fI _ (by omega) (by omega)⟩,?_⟩
    refine⟨fun h=>?_,fun h=>⟨oS,fun hk=>?_,fun hk=>⟨by omega,fun hm=>?_,fun hm=>?_⟩⟩⟩
    ·rw[ah4 hf hs hbf hO ((hcv _).1 h)]
     refine⟨ha.1,ha.2,by omega,?_,rfl⟩
     simp only[List.length_set];rfl
    ·rw[acw hf hs hbf hO (fun h'=>h ((hcv _).2 h')) (.inl (Option.isSome_eq_false_iff.1 hk |>Option.isNone_iff_eq_none.1))]
     exact⟨rfl,rfl⟩
    ·rw[acw hf hs hbf hO (fun h'=>h ((hcv _).2 h')) (.inr hm)]
     exact⟨rfl,rfl⟩
    ·obtain⟨k,hk'⟩:=Option.isSome_iff_exists.1 hk
     rw[ah5 hf hs hbf hO (fun h'=>h ((hcv _).2 h')) hk' hm];simp only[hk',Option.getD_some]
     obtain⟨hk1,hk2,hk3⟩:=aep hk'
     rw[hsl] at hk1
     have hk0:bo fx k.toNat 0=0:=aeo hfix hf.r (by omega) hk2 hk3
     have n1:=Ze hk1 hk0 (d:=1) (by omega)
     have n2:=Ze hk1 hk0 (d:= -1) (by omega)
     have hl2:((prf++[zN,zN]).set a.toNat (RY k prf.length)).length=prf.length+2:=by rw[List.length_set,List.length_append];rfl
     have hl1:(prf++[zN,zN]).length=prf.length+2:=by rw[List.length_append];rfl
     have o1:=uf.spl hok (k:=(prf++[zN,zN]).length) (l:=(prf++[zN,zN]).set a.toNat (RY k prf.length)) hm (by rw[hl1,hl2]) hl2
     have o2:=o1.vis (f:=fx.set k.toNat 1) (hf.set (by omega)) (n:=nF (fx.set k.toNat 1)) (a:=(prf.length:Int)+1)
     have o3:=(@adN p (jr none) most (nF (fx.set k.toNat 1)) (A7 ⟨ch,val,found,prf,err⟩ a k) ((prf.length:Int)+1) (fx.set k.toNat 1) (hf.set (by omega))).1
     have o4:prf.length+2<=(pn p (jr none) most (nF (fx.set k.toNat 1)) (A7 ⟨ch,val,found,prf,err⟩ a k) ((prf.length:Int)+1) (fx.set k.toNat 1)).prf.length:=by rw[<-hl2];exact o3
     have q1:a<((prf++[zN,zN]).length:Int):=by omega
     have q3:(prf.length:Int)+1<(((prf++[zN,zN]).set a.toNat (RY k prf.length)).length:Int):=by rw[hl2];omega
     have q2:a.toNat<(prf++[zN,zN]).length:=by omega
     exact⟨by omega,by omega,by omega,ha.1,q1,q2,by omega,⟨o1,⟨by omega,q3⟩,hk1,hk0,.inl trivial,by omega⟩,⟨o2,⟨by omega,Int.ofNat_lt.2 (Nat.lt_of_lt_of_le (by omega) o4)⟩,hk1,hk0,.inr trivial,by omega⟩,rfl,rfl⟩
 ·refine gw (let b:=SV.si .i64;let c:=(0:Int);let d:=cC.cells;let e:=SV.eW;let f:=(1:Int);let g:=cC.row;let h:=(-1:Int);let j:=iR .i64;let k:=(-9223372036854775808:Int);let l:=(9223372036854775807:Int);let o:=SV.row;let q:=SV.sb;let r:=(2:Int);let s:=SV.ow;let ag:=((F2 p fx).fst,(F2 p fx).snd.fst,(F2 p fx).snd.snd);let al:=val+f;let ao:=cJ (IntCast.intCast al);let ap:=(ao.fst,ao.snd.fst,ao.snd.snd);let aw:=Kp (ja ag) (ja ap);let ax:=decide (aw<c);let x:=b p.supply.a0;let y:=b p.supply.a1;let z:=b p.supply.a2;let A:=b p.supply.a3;let B:=b p.supply.a4;let C:=b p.supply.a5;let D:=b p.opn.a0;let E:=b p.opn.a1;let F:=b p.opn.a2;let G:=b p.opn.a3;let H:=b p.opn.a4;let I:=b p.opn.a5;let J:=b p.cls.a0;let K:=b p.cls.a1;let L:=b p.cls.a2;let M:=b p.cls.a3;let N:=b p.cls.a4;let O:=b p.cls.a5;let X:=bD.i .i64;let P:=o X p.classes;let Q:=o bD.off p.offers;let ah:=o X ch;let ai:=b val;let R:=SV.fn (Fn.func 53) [] [SV.ptr 1 0 1];let aj:=s 2 prf.length 5;let S:=s 3 fx.length 1;let T:=b most;let ay:=li.mk ch val found prf err;let a9:=pn p (jr (some m)) most (nF fx) ay a fx;let U:=d [x,y,z,A,B,C,D,E,F,G,H,I,J,K,L,M,N,O,P,Q,o X a9.ch,b a9.val,q a9.found,R,s 2 a9.prf.length 5,S,T,b a9.err] 84 28 false;let u:=d [b m] 2 1 false;let az:=(f,c,c,c,ac2 p fx);let V:=g sg a9.prf 139 true;let v:=g X fx 3 true;let W:=vL (RS p fx);let aA:=[S,T,SV.il .i64 12];let a6:=(↑prf.length:Int);let aB:=decide (most<a6+r);let aC:=prf.length+2;let aa:=a6+f;let aq:=(c,c,c,[]);let am:=[(c,aq),(c,aq)];let z53:Nat:=(prf++am).length;let w:=(Lr W).getD c;let ar:=(prf++am).set a.toNat (r,w,a6,aa,[]);let ab:=fx.set w.toNat f;let Y:=pn p (jr (some m)) most (nF ab) (li.mk ch val found ar err) aa ab;let ac:=fx.set w.toNat h;let ad:=pn p (jr (some m)) most (nF ac) Y a6 ac;let t:=rc (jr (some m)) ay (Alloc.mk (sY W) (jd (List.map (oI p) (sY W))));let aD:=b t.val;let ak:=t.prf.length;let aE:=s 2 ak 5;let z64:Nat:=(t.prf++am).length;let aF:=decide (err≠c);let aG:=decide (Ig p fx≠c);let aH:=decide (c<=aw);let an:=t.val+f;let au:=cJ (IntCast.intCast an);let aI:=(au.fst,au.snd.fst,au.snd.snd);let aJ:=decide (Kp (ja ag) (ja aI)<c);let a7:=t.prf.length;let a8:=(↑ak:Int);let aK:=decide (most<a8+r);let ae:=a8+f;let av:=(t.prf++am).set a.toNat (r,w,a8,ae,[]);let Z:=pn p (jr (some m)) most (nF ab) (li.mk t.ch t.val t.found av t.err) ae ab;let af:=pn p (jr (some m)) most (nF ac) Z a8 ac;let aQ:=let aL:=(e []).same (e [])/\(d (x::y::z::A::B::C::D::E::F::G::H::I::J::K::L::M::N::O::P::Q::ah::ai::q found::R::aj::aA) 84 28 false).same U/\u.same u/\(g sg prf 139 true).same V/\v.same v/\True;(ax=true->prf.length=prf.length/\c<=a/\a<(↑prf.length:Int)/\prf.length=prf.length/\a.toNat<prf.length/\(e []).same (e [])/\(d [x,y,z,A,B,C,D,E,F,G,H,I,J,K,L,M,N,O,P,Q,ah,ai,q found,R,aj,S,T,b err] 84 28 false).same U/\u.same u/\(g sg (prf.set a.toNat az) 139 true).same V/\v.same v/\True)/\(ax=false->okL (RS p fx)/\((!(Lr W).isSome)=true->aL)/\((!(Lr W).isSome)=false->j (a6+r)/\(aB=true->aL)/\(aB=false->2=2/\prf.length=prf.length/\aC*56<=140737488355328/\aC<=1000000000000/\j aa/\z53=z53/\c<=a/\a<(↑z53:Int)/\z53=z53/\a.toNat<z53/\j aa/\(uf (pX.mk p ch val found (some m) z53 fx.length most err ar fx)/\(c<=aa/\aa<(↑ar.length:Int))/\(c<=w/\w<(↑fx.length:Int))/\bo fx w.toNat c=c/\(f=f\/f=h)/\nF ab<n)/\(uf (pX.mk p Y.ch Y.val Y.found (some m) Y.prf.length fx.length most Y.err Y.prf fx)/\(c<=a6/\a6<(↑Y.prf.length:Int))/\(c<=w/\w<(↑fx.length:Int))/\bo fx w.toNat c=c/\(h=f\/h=h)/\nF ac<n)/\(e []).same (e [])/\(d [x,y,z,A,B,C,D,E,F,G,H,I,J,K,L,M,N,O,P,Q,o X ad.ch,b ad.val,q ad.found,R,s 2 ad.prf.length 5,S,T,b ad.err] 84 28 false).same U/\u.same u/\(g sg ad.prf 139 true).same V/\v.same v/\True)));let aM:=(e []).same (e [])/\(d (x::y::z::A::B::C::D::E::F::G::H::I::J::K::L::M::N::O::P::Q::o X t.ch::aD::q t.found::R::aE::aA) 84 28 false).same U/\u.same u/\(g sg t.prf 139 true).same V/\v.same v/\True;let aN:=z64=z64;let aO:=(e []).same (e [])/\(d [x,y,z,A,B,C,D,E,F,G,H,I,J,K,L,M,N,O,P,Q,ah,ai,q found,R,aj,S,T,b err] 84 28 false).same U/\u.same u/\(g sg prf 139 true).same V/\v.same v/\True;let aP:=(lH ag/\lH ap)/\aQ;(aF=true->aO)/\(aF=false->(found=true->aO)/\(found=false->(fx.length=fx.length/\fx.length<=1000000000000)/\(aG=true->(e []).same (e [])/\(d [x,y,z,A,B,C,D,E,F,G,H,I,J,K,L,M,N,O,P,Q,ah,ai,q found,R,aj,S,T,b (Ig p fx)] 84 28 false).same U/\u.same u/\(g sg prf 139 true).same V/\v.same v/\True)/\(aG=false->((!FQ p fx)=true->prf.length=prf.length/\c<=a/\a<(↑prf.length:Int)/\prf.length=prf.length/\a.toNat<prf.length/\(e []).same (e [])/\(d [x,y,z,A,B,C,D,E,F,G,H,I,J,K,L,M,N,O,P,Q,ah,ai,q found,R,aj,S,T,b err] 84 28 false).same U/\u.same u/\(g sg (prf.set a.toNat ((3:Int),aq)) 139 true).same V/\v.same v/\True)/\((!FQ p fx)=false->j al/\(k<=al/\al<=l)/\(lH ag/\lH ap)/\(aH=true->okL (RS p fx)/\(aay W=true->(uf (pX.mk p ch val found (some m) prf.length fx.length most err prf fx)/\okL (RS p fx)/\(RS p fx).length=p.offers.length)/\prf.length=prf.length/\j an/\(k<=an/\an<=l)/\(lH ag/\lH aI)/\(aJ=true->ak=a7/\c<=a/\a<(↑a7:Int)/\ak=a7/\a.toNat<a7/\(e []).same (e [])/\(d [x,y,z,A,B,C,D,E,F,G,H,I,J,K,L,M,N,O,P,Q,o X t.ch,aD,q t.found,R,aE,S,T,b t.err] 84 28 false).same U/\u.same u/\(g sg (t.prf.set a.toNat az) 139 true).same V/\v.same v/\True)/\(aJ=false->okL (RS p fx)/\((!(Lr W).isSome)=true->aM)/\((!(Lr W).isSome)=false->j (a8+r)/\(aK=true->aM)/\(aK=false->2=2/\ak=a7/\(a7+2)*56<=140737488355328/\a7+2<=1000000000000/\j ae/\aN/\c<=a/\a<(↑z64:Int)/\aN/\a.toNat<z64/\j ae/\(uf (pX.mk p t.ch t.val t.found (some m) z64 fx.length most t.err av fx)/\(c<=ae/\ae<(↑av.length:Int))/\(c<=w/\w<(↑fx.length:Int))/\bo fx w.toNat c=c/\(f=f\/f=h)/\nF ab<n)/\(uf (pX.mk p Z.ch Z.val Z.found (some m) Z.prf.length fx.length most Z.err Z.prf fx)/\(c<=a8/\a8<(↑Z.prf.length:Int))/\(c<=w/\w<(↑fx.length:Int))/\bo fx w.toNat c=c/\(h=f\/h=h)/\nF ac<n)/\(e []).same (e [])/\(d [x,y,z,A,B,C,D,E,F,G,H,I,J,K,L,M,N,O,P,Q,o X af.ch,b af.val,q af.found,R,s 2 af.prf.length 5,S,T,b af.err] 84 28 false).same U/\u.same u/\(g sg af.prf 139 true).same V/\v.same v/\True))))/\(aay W=false->aP))/\(aH=false->aP)))))) (by kernel_rfl) ?_
  simp only[vcs]
  refine⟨fun h=>by rw[ajY hf (.inl h)];exact⟨rfl,rfl⟩,fun h0=>⟨fun h=>by rw[ajY hf (.inr h)];exact⟨rfl,rfl⟩,fun h1=>⟨by omega,fun h=>absurd hfe h,fun _=>⟨fun h=>?_,fun hb=>?_⟩⟩⟩⟩
  ·have hs:¬((⟨ch,val,found,prf,err⟩:li).err≠0\/(⟨ch,val,found,prf,err⟩:li).found=true):=by
    rintro(h|h)
    ·exact h0 h
    ·rw[show found=true from h] at h1;cases h1
   rw[ax6 hf hs (by rw[<-hfo];exact h)]
   refine⟨ha.1,ha.2,by omega,?_,rfl⟩
   simp only[List.length_set];rfl
  ·have hs:¬((⟨ch,val,found,prf,err⟩:li).err≠0\/(⟨ch,val,found,prf,err⟩:li).found=true):=by
    rintro(h|h)
    ·exact h0 h
    ·rw[show found=true from h] at h1;cases h1
   have hbf:DU p fx=true:=by rw[<-hfo];exact hb
   have hfix:=hf.ok hbf
   have eB:F2 p fx=cJ (GI p fx):=by unfold F2;rw[if_pos hb]
   have eS:RS p fx=fL (oC p fx):=by unfold RS oC;rw[if_pos hb]
   have eP:ac2 p fx=fL (ahW p fx):=by unfold ac2;rw[if_pos hb]
   have hsl:(oC p fx).length=fx.length:=adM
   have oS:okL (fL (oC p fx)):=⟨oC p fx,rfl,by rw[zx];omega,fun q hq=>by
    obtain⟨i,hi,rfl⟩:=List.getElem_of_mem hq
    have:=(amJ hfix hf.r (i:=i) (by omega)).2.2
    rwa [jV hi] at this⟩
   have fB:lH (cJ (GI p fx)):=se (aqP hb) (by omega)
   have fI:∀v:Int,0<=v->v<=9223372036854775807->lH (cJ (IntCast.intCast v)):=fun v h0 h1=>se (szI (by omega) h1) (by omega)
   have hcv:∀v:Int,Kp (GI p fx) (IntCast.intCast v)<0↔GI p fx<((v:Int):Rat):=fun v=>af4
   simp only[eB,eS,eP,Zb,RP,tc]
   have hcm:sY (oC p fx)=(abW p fx).chosen:=rfl
   refine⟨by omega,by omega,⟨fB,fI _ (by omega) (by omega)⟩,fun hge=>⟨oS,fun hi=>?_,fun hi=>?_⟩,fun hlt=>?_⟩
   ·have hO:mA p (jr (some m)) ⟨ch,val,found,prf,err⟩ fx=rc (jr (some m)) ⟨ch,val,found,prf,err⟩ ⟨sY (oC p fx),jd ((sY (oC p fx)).map (oI p))⟩:=by
     unfold mA
     rw[if_pos ⟨Rat.not_lt.1 fun h=>absurd ((hcv (val+1)).2 h) (Int.not_lt.2 hge),hi⟩]
     rfl
    have hok':uf (pX.upd ⟨p,ch,val,found,(some m),prf.length,fx.length,most,err,prf,fx⟩ (mA p (jr (some m)) ⟨ch,val,found,prf,err⟩ fx)):=hok.itg
    rw[hO] at hok'
    obtain⟨e1,e2,_⟩:=@amL (jr (some m)) ⟨ch,val,found,prf,err⟩ ⟨sY (oC p fx),jd ((sY (oC p fx)).map (oI p))⟩
    generalize rc (jr (some m)) ⟨ch,val,found,prf,err⟩ ⟨sY (oC p fx),jd ((sY (oC p fx)).map (oI p))⟩=O at*
    obtain⟨ch',val',found',prf',aer⟩:=O
    have e1:prf=prf':=Eq.symm e1
    have e2:err=aer:=Eq.symm e2
    subst e1;subst e2
    have w0:0<=val':=hok'.v0
    have w1:val'<=9223372036854775806:=hok'.v1
    dsimp only
    refine⟨⟨hok,oS,by rw[zx];omega⟩,by omega,by omega,⟨fB,fI _ (by omega) (by omega)⟩,?_⟩
    refine⟨fun h=>?_,fun h=>⟨oS,fun hk=>?_,fun hk=>⟨by omega,fun hm=>?_,fun hm=>?_⟩⟩⟩
    ·rw[ah4 hf hs hbf hO ((hcv _).1 h)]
     refine⟨ha.1,ha.2,by omega,?_,rfl⟩
     simp only[List.length_set];rfl
    ·rw[acw hf hs hbf hO (fun h'=>h ((hcv _).2 h')) (.inl (Option.isSome_eq_false_iff.1 hk |>Option.isNone_iff_eq_none.1))]
     exact⟨rfl,rfl⟩
    ·rw[acw hf hs hbf hO (fun h'=>h ((hcv _).2 h')) (.inr hm)]
     exact⟨rfl,rfl⟩
    ·obtain⟨k,hk'⟩:=Option.isSome_iff_exists.1 hk
     rw[ah5 hf hs hbf hO (fun h'=>h ((hcv _).2 h')) hk' hm];simp only[hk',Option.getD_some]
     obtain⟨hk1,hk2,hk3⟩:=aep hk'
     rw[hsl] at hk1
     have hk0:bo fx k.toNat 0=0:=aeo hfix hf.r (by omega) hk2 hk3
     have n1:=Ze hk1 hk0 (d:=1) (by omega)
     have n2:=Ze hk1 hk0 (d:= -1) (by omega)
     have hl2:((prf++[zN,zN]).set a.toNat (RY k prf.length)).length=prf.length+2:=by rw[List.length_set,List.length_append];rfl
     have hl1:(prf++[zN,zN]).length=prf.length+2:=by rw[List.length_append];rfl
     have o1:=uf.spl (x:=⟨p,ch',val',found',(some m),prf.length,fx.length,most,aer,prf,fx⟩) hok' (k:=(prf++[zN,zN]).length) (l:=(prf++[zN,zN]).set a.toNat (RY k prf.length)) hm (by rw[hl1,hl2]) hl2
     have o2:=o1.vis (f:=fx.set k.toNat 1) (hf.set (by omega)) (n:=nF (fx.set k.toNat 1)) (a:=(prf.length:Int)+1)
     have o3:=(@adN p (jr (some m)) most (nF (fx.set k.toNat 1)) (A7 ⟨ch',val',found',prf,aer⟩ a k) ((prf.length:Int)+1) (fx.set k.toNat 1) (hf.set (by omega))).1
     have o4:prf.length+2<=(pn p (jr (some m)) most (nF (fx.set k.toNat 1)) (A7 ⟨ch',val',found',prf,aer⟩ a k) ((prf.length:Int)+1) (fx.set k.toNat 1)).prf.length:=by rw[<-hl2];exact o3
     have q1:a<((prf++[zN,zN]).length:Int):=by omega
     have q3:(prf.length:Int)+1<(((prf++[zN,zN]).set a.toNat (RY k prf.length)).length:Int):=by rw[hl2];omega
     have q2:a.toNat<(prf++[zN,zN]).length:=by omega
     exact⟨by omega,by omega,by omega,ha.1,q1,q2,by omega,⟨o1,⟨by omega,q3⟩,hk1,hk0,.inl trivial,by omega⟩,⟨o2,⟨by omega,Int.ofNat_lt.2 (Nat.lt_of_lt_of_le (by omega) o4)⟩,hk1,hk0,.inr trivial,by omega⟩,rfl,rfl⟩
   ·have hO:mA p (jr (some m)) ⟨ch,val,found,prf,err⟩ fx=⟨ch,val,found,prf,err⟩:=by
     unfold mA
     rw[if_neg (fun h=>by rw[h.2] at hi;cases hi)]
    refine⟨⟨fB,fI _ (by omega) (by omega)⟩,?_⟩
    refine⟨fun h=>?_,fun h=>⟨oS,fun hk=>?_,fun hk=>⟨by omega,fun hm=>?_,fun hm=>?_⟩⟩⟩
    ·rw[ah4 hf hs hbf hO ((hcv _).1 h)]
     refine⟨ha.1,ha.2,by omega,?_,rfl⟩
     simp only[List.length_set];rfl
    ·rw[acw hf hs hbf hO (fun h'=>h ((hcv _).2 h')) (.inl (Option.isSome_eq_false_iff.1 hk |>Option.isNone_iff_eq_none.1))]
     exact⟨rfl,rfl⟩
    ·rw[acw hf hs hbf hO (fun h'=>h ((hcv _).2 h')) (.inr hm)]
     exact⟨rfl,rfl⟩
    ·obtain⟨k,hk'⟩:=Option.isSome_iff_exists.1 hk
     rw[ah5 hf hs hbf hO (fun h'=>h ((hcv _).2 h')) hk' hm];simp only[hk',Option.getD_some]
     obtain⟨hk1,hk2,hk3⟩:=aep hk'
     rw[hsl] at hk1
     have hk0:bo fx k.toNat 0=0:=aeo hfix hf.r (by omega) hk2 hk3
     have n1:=Ze hk1 hk0 (d:=1) (by omega)
     have n2:=Ze hk1 hk0 (d:= -1) (by omega)
     have hl2:((prf++[zN,zN]).set a.toNat (RY k prf.length)).length=prf.length+2:=by rw[List.length_set,List.length_append];rfl
     have hl1:(prf++[zN,zN]).length=prf.length+2:=by rw[List.length_append];rfl
     have o1:=uf.spl hok (k:=(prf++[zN,zN]).length) (l:=(prf++[zN,zN]).set a.toNat (RY k prf.length)) hm (by rw[hl1,hl2]) hl2
     have o2:=o1.vis (f:=fx.set k.toNat 1) (hf.set (by omega)) (n:=nF (fx.set k.toNat 1)) (a:=(prf.length:Int)+1)
     have o3:=(@adN p (jr (some m)) most (nF (fx.set k.toNat 1)) (A7 ⟨ch,val,found,prf,err⟩ a k) ((prf.length:Int)+1) (fx.set k.toNat 1) (hf.set (by omega))).1
     have o4:prf.length+2<=(pn p (jr (some m)) most (nF (fx.set k.toNat 1)) (A7 ⟨ch,val,found,prf,err⟩ a k) ((prf.length:Int)+1) (fx.set k.toNat 1)).prf.length:=by rw[<-hl2];exact o3
     have q1:a<((prf++[zN,zN]).length:Int):=by omega
     have q3:(prf.length:Int)+1<(((prf++[zN,zN]).set a.toNat (RY k prf.length)).length:Int):=by rw[hl2];omega
     have q2:a.toNat<(prf++[zN,zN]).length:=by omega
     exact⟨by omega,by omega,by omega,ha.1,q1,q2,by omega,⟨o1,⟨by omega,q3⟩,hk1,hk0,.inl trivial,by omega⟩,⟨o2,⟨by omega,Int.ofNat_lt.2 (Nat.lt_of_lt_of_le (by omega) o4)⟩,hk1,hk0,.inr trivial,by omega⟩,rfl,rfl⟩
   ·have hO:mA p (jr (some m)) ⟨ch,val,found,prf,err⟩ fx=⟨ch,val,found,prf,err⟩:=by
     unfold mA;rw[if_neg (fun h=>Rat.not_lt.2 h.1 ((hcv (val+1)).1 (Int.not_le.1 hlt)))]
    refine⟨⟨fB,fI _ (by omega) (by omega)⟩,?_⟩
    refine⟨fun h=>?_,fun h=>⟨oS,fun hk=>?_,fun hk=>⟨by omega,fun hm=>?_,fun hm=>?_⟩⟩⟩
    ·rw[ah4 hf hs hbf hO ((hcv _).1 h)]
     refine⟨ha.1,ha.2,by omega,?_,rfl⟩
     simp only[List.length_set];rfl
    ·rw[acw hf hs hbf hO (fun h'=>h ((hcv _).2 h')) (.inl (Option.isSome_eq_false_iff.1 hk |>Option.isNone_iff_eq_none.1))]
     exact⟨rfl,rfl⟩
    ·rw[acw hf hs hbf hO (fun h'=>h ((hcv _).2 h')) (.inr hm)]
     exact⟨rfl,rfl⟩
    ·obtain⟨k,hk'⟩:=Option.isSome_iff_exists.1 hk
     rw[ah5 hf hs hbf hO (fun h'=>h ((hcv _).2 h')) hk' hm];simp only[hk',Option.getD_some]
     obtain⟨hk1,hk2,hk3⟩:=aep hk'
     rw[hsl] at hk1
     have hk0:bo fx k.toNat 0=0:=aeo hfix hf.r (by omega) hk2 hk3
     have n1:=Ze hk1 hk0 (d:=1) (by omega)
     have n2:=Ze hk1 hk0 (d:= -1) (by omega)
     have hl2:((prf++[zN,zN]).set a.toNat (RY k prf.length)).length=prf.length+2:=by rw[List.length_set,List.length_append];rfl
     have hl1:(prf++[zN,zN]).length=prf.length+2:=by rw[List.length_append];rfl
     have o1:=uf.spl hok (k:=(prf++[zN,zN]).length) (l:=(prf++[zN,zN]).set a.toNat (RY k prf.length)) hm (by rw[hl1,hl2]) hl2
     have o2:=o1.vis (f:=fx.set k.toNat 1) (hf.set (by omega)) (n:=nF (fx.set k.toNat 1)) (a:=(prf.length:Int)+1)
     have o3:=(@adN p (jr (some m)) most (nF (fx.set k.toNat 1)) (A7 ⟨ch,val,found,prf,err⟩ a k) ((prf.length:Int)+1) (fx.set k.toNat 1) (hf.set (by omega))).1
     have o4:prf.length+2<=(pn p (jr (some m)) most (nF (fx.set k.toNat 1)) (A7 ⟨ch,val,found,prf,err⟩ a k) ((prf.length:Int)+1) (fx.set k.toNat 1)).prf.length:=by rw[<-hl2];exact o3
     have q1:a<((prf++[zN,zN]).length:Int):=by omega
     have q3:(prf.length:Int)+1<(((prf++[zN,zN]).set a.toNat (RY k prf.length)).length:Int):=by rw[hl2];omega
     have q2:a.toNat<(prf++[zN,zN]).length:=by omega
     exact⟨by omega,by omega,by omega,ha.1,q1,q2,by omega,⟨o1,⟨by omega,q3⟩,hk1,hk0,.inl trivial,by omega⟩,⟨o2,⟨by omega,Int.ofNat_lt.2 (Nat.lt_of_lt_of_le (by omega) o4)⟩,hk1,hk0,.inr trivial,by omega⟩,rfl,rfl⟩
theorem arh:∀n,qH Tryz.prog (ags n)
 |0=>fun a ha=>absurd ha.2.2 (by omega)
 |n+1=>aGX (aGW (arh n))
def He (p:cn):List Int:=List.replicate p.offers.length 0
theorem ah6 {n:Nat}:nF (List.replicate n 0)=n:=by
 have e:ek (List.replicate n 0) 0=pA n:=by
  simp_all[ek,QZ,jV]
 grind[FC]
theorem acy {p:cn} (a:dV p=0):uA p (He p) where
 c:=a
 l:=List.length_replicate
 r:=by
  unfold Ie;rw[List.all_eq_true];intro x b;rw[List.eq_of_mem_replicate b]
  decide
def Ls (p:cn) (c:List Int):li:=rc (jr none) (rc (jr none) ⟨c,nD p c,false,[zN],0⟩ (A5 p c)) (A5 p (PU p))
noncomputable def Hf (p:cn) (c:List Int) (most:Int):li:=pn p (jr none) most p.offers.length (Ls p c) 0 (He p)
noncomputable def Sl (p:cn) (c:List Int) (most:Int):Int:=if lF p c≠0 then lF p c else if most<1\/65536<most then 4 else(Hf p c most).err
def Lt (p:cn) (m:Int):li:=rc (jr (some m)) ⟨[],m - 1,false,[zN],0⟩ (A5 p (PU p))
noncomputable def Ab (p:cn) (m most:Int):li:=pn p (jr (some m)) most p.offers.length (Lt p m) 0 (He p)
noncomputable def JI (p:cn) (m most:Int):Int:=if dV p≠0 then dV p else if most<1\/65536<most then 4 else if m<=0 then 0 else if(Ab p m most).found=true then 0 else(Ab p m most).err
noncomputable def Qy (p:cn) (m most:Int):Bool:=decide (JI p m most=0)&&(decide (m<=0)||(Ab p m most).found)
noncomputable def abv (p:cn) (m most:Int):Alloc:=if Qy p m most=true/\0<m then⟨(Ab p m most).ch,(Ab p m most).val⟩ else⟨[],0⟩
theorem ax8 {p:cn} (a:dV p=0) {t:List Int} (h:lF p t=0):nD p t<=(jD p).value:=by
 have b:=(abM a).1 h
 obtain⟨_,d⟩:=adG h
 have c:=aoU (pz a) b.1 (decide_eq_true b.2)
 rw[ah1 a d];exact c
theorem ari {p:cn} (a:dV p=0):∃t,lF p t=0/\nD p t=(jD p).value:=by
 obtain⟨t,c,f,e⟩:=aoV (pz a)
 have b:lF p t=0:=(abM a).2 ⟨c,of_decide_eq_true f⟩
 obtain⟨_,d⟩:=adG b
 refine⟨t,b,?_⟩
 rw[ah1 a d,e];rfl
theorem aGY {p:cn} {l:List Int} (h:vd p.offers.length l):amN (He p) l:=by
 have b:∀i:Int,0<=i/\i<p.offers.length->bo (He p) i.toNat 0=0:=fun i a=>by
  grind[He,jV]
 refine⟨fun i a=>by rw[b i (h.2 i a)];omega,fun i a=>?_⟩
 grind[SR,He]
theorem ax9 {p:cn} {v:Int} {t:List Nod} {a lo f:Nat} (b:dV p=0) (h:Zi p v t a (He p) lo f):(jD p).value<=v:=by
 obtain⟨l,d,e⟩:=ari b
 obtain⟨_,c⟩:=adG d
 rw[<-e,ah1 b c]
 exact h.sound (acy b) c ((axU b c).1 d) (aGY c)
theorem ah7 {en:Int->Bool} {G:List Int->Int->Bool->Prop} {p:cn} (h:∀c w b d w',G c w b->lF p d=0->nD p d=w'->w<w'->G d w' (b||en w')) {s:li} {a:Alloc} (e:G s.ch s.val s.found) (f:lF p a.chosen=0) (g:nD p a.chosen=a.value):G (rc en s a).ch (rc en s a).val (rc en s a).found:=by
 grind[rc]
theorem ajZ {p:cn} (a:dV p=0):lF p (A5 p (PU p)).chosen=0/\nD p (A5 p (PU p)).chosen=(A5 p (PU p)).value:=by
 simp_all[ap2,awt]
theorem arj {p:cn} (d:dV p=0) {c:List Int} (h:lF p c=0) {most:Int} {G:List Int->Int->Bool->Prop} (a:∀c w b e w',G c w b->lF p e=0->nD p e=w'->w<w'->G e w' (b||jr none w')) (i:G c (nD p c) false):G (Hf p c most).ch (Hf p c most).val (Hf p c most).found:=by
 have f:=ap2 d h
 have g:=ajZ d
 exact axX a (acy d) (ah7 a (ah7 a i f.2.1 f.2.2.1) g.1 g.2)
theorem ark {p:cn} {c:List Int}:(Ls p c).prf=[zN]/\(Ls p c).err=0/\nD p c<=(Ls p c).val:=by
 grind[Ls,rc]
theorem aya {p:cn} (d:dV p=0) {c:List Int} (i:lF p c=0) {most:Int} (C:1<=most):
  ((Hf p c most).err=0\/(Hf p c most).err=12)/\((Hf p c most).err=0->(lF p (Hf p c most).ch=0/\nD p (Hf p c most).ch=(Hf p c most).val)/\(Hf p c most).val=(jD p).value/\(Hf p c most).prf.length<=most/\Zi p (jD p).value (Hf p c most).prf 0 (He p) 1 (Hf p c most).prf.length/\(nD p c=(jD p).value->(Hf p c most).ch=c))/\
   (((1+2^(p.offers.length+1):Nat):Int)<=most+2->(Hf p c most).err=0):=by
 obtain⟨y,l,A⟩:=@ark p c
 have t:(Ls p c).prf.length=1:=by rw[y];rfl
 have q:=@adN p (jr none) most p.offers.length (Ls p c) 0 (He p) (acy d)
 have j:(Hf p c most).found=false:=by
  refine(arj d i (most:=most) (G:=fun _ _ b=>b=false) (fun c w b g o h _ _ _=>?_) rfl)
  rw[h];rfl
 refine⟨?_,fun x=>?_,fun B=>?_⟩
 ·have:=q.2.2.2.2.2
  rw[l] at this;exact this
 ·have v:=arj d i (most:=most) (G:=fun c w _=>lF p c=0/\nD p c=w) (fun c w b g o _ k m _=>⟨k,m⟩) ⟨i,rfl⟩
  have u:=arj d i (most:=most) (G:=fun g w _=>nD p c<=w/\(w=nD p c->g=c)) (fun D w b g o h _ _ r=>⟨by omega,fun e=>by omega⟩) ⟨Int.le_refl _,fun _=>rfl⟩
  have z:=axW (p:=p) (en:=jr none) (most:=most) (n:=p.offers.length) (s:=Ls p c) (a:=0) (acy d) (by show nF (List.replicate _ 0)<=_;grind[ah6]) (by rw[t];omega) x j
  have k:=ax9 d z.1
  have m:=ax8 d v.1
  grind[Hf]
 ·refine(axY (p:=p) (en:=jr none) (most:=most) (n:=p.offers.length) (s:=Ls p c) (a:=0) (f:=He p) (acy d) ?_ l ?_).1
  all_goals simp_all[ah6,He]
theorem aGZ {p:cn} (i:dV p=0) {m most:Int}:((Ab p m most).found=false->(Ab p m most).ch=[]/\(Ab p m most).val=m - 1)/\((Ab p m most).found=true->lF p (Ab p m most).ch=0/\nD p (Ab p m most).ch=(Ab p m most).val/\m<=(Ab p m most).val):=by
 have j:=ajZ i
 have g:∀(c:List Int) (w:Int) (b:Bool) (e:List Int) (d:Int),((m - 1<=w)/\(b=false->c=[]/\w=m - 1)/\(b=true->lF p c=0/\nD p c=w/\m<=w))->lF p e=0->nD p e=d->w<d->((m - 1<=d)/\((b||jr (some m) d)=false->e=[]/\d=m - 1)/\((b||jr (some m) d)=true->lF p e=0/\nD p e=d/\m<=d)):=by
  intro c w b e d h l q k
  have o:jr (some m) d=true:=by
   show decide (m<=d)=true
   grind
  grind
 have:=axX (p:=p) (en:=jr (some m)) (most:=most) g (n:=p.offers.length) (s:=Lt p m) (a:=0) (f:=He p) (acy i) (ah7 g (s:=⟨[],m - 1,false,[zN],0⟩) ⟨Int.le_refl _,fun _=>⟨rfl,rfl⟩,(fun h=>by cases h)⟩ j.1 j.2)
 exact this.2
theorem arl {p:cn} {m:Int}:(Lt p m).prf=[zN]/\(Lt p m).err=0:=by
 grind[Lt,amL]
theorem ayb {p:cn} (b:dV p=0) {m most:Int}:
  ((Ab p m most).err=0\/(Ab p m most).err=12)/\((Ab p m most).found=true->m<=(jD p).value)/\((Ab p m most).found=false->(Ab p m most).err=0->(jD p).value<m)/\
   (((1+2^(p.offers.length+1):Nat):Int)<=most+2->(Ab p m most).err=0):=by
 obtain⟨i,d⟩:=@arl p m
 have h:(Lt p m).prf.length=1:=by rw[i];rfl
 have g:=@adN p (jr (some m)) most p.offers.length (Lt p m) 0 (He p) (acy b)
 obtain⟨r,l⟩:=@aGZ p b m most
 refine⟨?_,fun c=>?_,fun c k=>?_,fun o=>?_⟩
 ·have:=g.2.2.2.2.2
  rw[d] at this;exact this
 ·obtain⟨e,q,t⟩:=l c
  have:=ax8 b e
  omega
 ·have j:=axW (p:=p) (en:=jr (some m)) (most:=most) (n:=p.offers.length) (s:=Lt p m) (a:=0) (acy b) (by show nF (List.replicate _ 0)<=_;grind[ah6]) (by rw[h];omega) k c
  have e:(jD p).value<=(Ab p m most).val:=ax9 b j.1
  grind
 ·refine(axY (p:=p) (en:=jr (some m)) (most:=most) (n:=p.offers.length) (s:=Lt p m) (a:=0) (f:=He p) (acy b) ?_ d ?_).1
  all_goals simp_all[ah6,He]
theorem afd {p:cn} (hc:dV p=0) {c:List Int} (hf:lF p c=0):0<=nD p c/\nD p c<=160000000/\c.length<=160:=by
 obtain⟨_,ha⟩:=adG hf
 have h160:=(pz hc).2.1
 have hl:c.length<=p.offers.length:=agd ha
 have h1:=acT (pz hc) (l:=c.map (oI p)) fun x hx=>by
  obtain⟨i,hi,rfl⟩:=List.mem_map.1 hx
  have:=ha.2 i hi
  exact nA (by omega)
 rw[List.length_map] at h1;rw[ah1 hc ha]
 have e:jd (c.map (oI p))=jd (jA p c):=rfl
 omega
theorem arn {p:cn} (hc:dV p=0):(PU p).length<=160:=(afd hc (awt hc)).2.2
theorem aG0 {p:cn} {c:List Int} {most:Int} {k:Nat} (hc:dV p=0) (hf:lF p c=0) (m0:1<=most) (m1:most<=65536) (hk:k=p.offers.length):uf ⟨p,(Ls p c).ch,(Ls p c).val,(Ls p c).found,none,(Ls p c).prf.length,k,most,(Ls p c).err,(Ls p c).prf,He p⟩:=by
 have h1:=ap2 hc hf
 have h2:=ajZ hc
 have hG:lF p (Ls p c).ch=0/\nD p (Ls p c).ch=(Ls p c).val:=
  ah7 (G:=fun c w _=>lF p c=0/\nD p c=w) (fun _ _ _ _ _ _ h1 h2 _=>⟨h1,h2⟩) (ah7 (G:=fun c w _=>lF p c=0/\nD p c=w) (fun _ _ _ _ _ _ h1 h2 _=>⟨h1,h2⟩) (s:=⟨c,nD p c,false,[zN],0⟩) ⟨hf,rfl⟩ h1.2.1 h1.2.2.1) h2.1 h2.2
 obtain⟨b0,b1,b2⟩:=afd hc hG.1
 obtain⟨e1,_,_⟩:=@ark p c
 rw[hG.2] at b0 b1
 exact⟨acy hc,rfl,by rw[hk];exact(List.length_replicate).symm,b0,by show(Ls p c).val<=_;omega,m0,m1,by show(Ls p c).prf.length<=_;rw[e1];decide,by show(Ls p c).ch.length<=_;omega⟩
theorem aG1 {p:cn} {m most:Int} {k:Nat} (hc:dV p=0) (hm:0<m/\m<=9223372036854775807) (m0:1<=most) (m1:most<=65536) (hk:k=p.offers.length):uf ⟨p,(Lt p m).ch,(Lt p m).val,(Lt p m).found,some m,(Lt p m).prf.length,k,most,(Lt p m).err,(Lt p m).prf,He p⟩:=by
 have h2:=ajZ hc
 have hG:(0<=(Lt p m).val/\(Lt p m).val<=9223372036854775806)/\(Lt p m).ch.length<=160:=
  ah7 (G:=fun c w _=>(0<=w/\w<=9223372036854775806)/\c.length<=160) (fun _ _ _ c' w' _ h1 h2 _=>by
   obtain⟨b0,b1,b2⟩:=afd hc h1
   omega) (s:=⟨[],m - 1,false,[zN],0⟩) ⟨⟨by show 0<=m - 1;omega,by show m - 1<=_;omega⟩,by show([]:List Int).length<=160;decide⟩ h2.1 h2.2
 obtain⟨e1,_⟩:=@arl p m
 exact⟨acy hc,rfl,by rw[hk];exact(List.length_replicate).symm,hG.1.1,hG.1.2,m0,m1,by show(Lt p m).prf.length<=_;rw[e1];decide,by show(Lt p m).ch.length<=_;omega⟩
noncomputable def aro:fN:=⟨16,cn×Alloc×Int,.cons ql (.cons Yo (.one (sj .i64))),fun a=>a.1.offers.length<=40/\a.2.1.chosen.length<=9223372036854775807,
 fun a=> .eW [.agg [.row (.i .i64) (if Sl a.1 a.2.1.chosen a.2.2=0 then(Hf a.1 a.2.1.chosen a.2.2).ch else[]),.si .i64 (if Sl a.1 a.2.1.chosen a.2.2=0 then(Hf a.1 a.2.1.chosen a.2.2).val else 0)],.row sg (if Sl a.1 a.2.1.chosen a.2.2=0 then(Hf a.1 a.2.1.chosen a.2.2).prf else[]),.si .i64 (Sl a.1 a.2.1.chosen a.2.2)]⟩
theorem h429:Holds Tryz.prog aro:=by
 refine con (L:=[alk,aq5,ajr,ajq]) (W:=A2 [ajW,ags 161]) aro lk (Xy (by simpa using⟨h439,arh 161⟩)) (by simpa using⟨h100,h437,h315,h312⟩) ?_
 rintro⟨p,⟨c,v⟩,most⟩ ⟨h40,hcl⟩
 simp only at h40 hcl
 refine gw (let a:=(0:Int);let b:=SV.si .i64;let d:=(140737488355328:Int);let e:=(1000000000000:Int);let f:=(1:Int);let g:=SV.row;let h:=SV.agg;let j:=SV.eW;let r:=bD.i .i64;let n:=g r [];let o:=SV.il .i64 0;let s:=Hf p c most;let w:=j [h [g r (if Sl p c most=a then s.ch else[]),b (if Sl p c most=a then s.val else a)],g sg (if Sl p c most=a then s.prf else[]),b (Sl p c most)];let l:=(↑p.offers.length:Int);let q:=List.replicate l.toNat a;let t:=rc (jr none) (li.mk c (nD p c) false [(a,a,a,a,[])] a) (A5 p c);let k:=rc (jr none) t (A5 p (PU p));let m:=pn p (jr none) most (nF q) k a q;let x:=decide (lF p c≠a);let y:=decide (most<f);let z:=decide ((65536:Int)<most);let A:=0+c.length;let B:=(j [h [n,o],n,SV.il .i64 4]).same w;let v:=fun(u:List Int) (u_1 u_2 u_3:SV) ↦(j [h [g r u,u_1],u_2,u_3]).same w;let C:=fun(u:Bool) ↦decide (m.err≠a)=u;c.length<=9223372036854775807/\(x=true->v [] o n (b (lF p c)))/\(x=false->(y=true->B)/\(y=false->(z=true->B)/\(z=false->0=0/\A*8<=140737488355328/\A<=1000000000000/\(dV p=a/\c.length<=9223372036854775807)/\a<=f/\f<=f/\(56:Int)<=d/\f<=e/\a<=l/\l<=l/\l*(8:Int)<=d/\l<=e/\c.length=c.length/\c.length=c.length/\c.length<=9223372036854775807/\1=1/\p.offers.length<=40/\(PU p).length<=9223372036854775807/\t.prf.length=t.prf.length/\(uf (pX.mk p k.ch k.val k.found none k.prf.length l.toNat most k.err k.prf q)/\(a<=a/\a<(↑k.prf.length:Int))/\nF q<161)/\(C true->v [] o n (b m.err))/\(C false->m.prf.length=m.prf.length/\v m.ch (b m.val) (g sg m.prf) o))))) (by kernel_rfl) ?_
 simp only[vcs]
 have hz:(List.replicate ((p.offers.length:Int)).toNat 0:List Int)=He p:=by unfold He;rw[Int.toNat_natCast]
 have e0:rc (jr none) (rc (jr none) ⟨c,nD p c,false,[(0,(0,(0,(0,[]))))],0⟩ (A5 p c)) (A5 p (PU p))=Ls p c:=rfl
 have en:nF (He p)=p.offers.length:=ah6
 simp only[hz,e0,en]
 refine⟨hcl,fun h=>?_,fun h=>⟨fun h1=>?_,fun h1=>⟨fun h2=>?_,fun h2=>?_⟩⟩⟩
 ·have e:Sl p c most=lF p c:=by unfold Sl;rw[if_pos h]
  rw[e,if_neg h,if_neg h,if_neg h]
  exact⟨rfl,rfl,rfl⟩
 ·have e:Sl p c most=4:=by unfold Sl;rw[if_neg h,if_pos (.inl h1)]
  rw[e]
  exact⟨rfl,rfl,rfl⟩
 ·have e:Sl p c most=4:=by unfold Sl;rw[if_neg h,if_pos (.inr h2)]
  rw[e]
  exact⟨rfl,rfl,rfl⟩
 ·have hf:lF p c=0:=Classical.not_not.1 h
  have hc:dV p=0:=(adG hf).1
  obtain⟨b0,b1,b2⟩:=afd hc hf
  obtain⟨e1,e2,e3⟩:=@ark p c
  have e:Sl p c most=(Hf p c most).err:=by unfold Sl;rw[if_neg h,if_neg (by omega)]
  have hv:pn p (jr none) most p.offers.length (Ls p c) 0 (He p)=Hf p c most:=rfl
  have hst:=arn hc
  rw[hv,e]
  refine⟨by omega,by omega,⟨hc,hcl⟩,by omega,by omega,by omega,by omega,by omega,by omega,by omega,by omega,hcl,h40,by omega,⟨aG0 hc hf (by omega) (by omega) (by omega),⟨by omega,by rw[e1];decide⟩,by omega⟩,fun h3=>?_,fun h3=>?_⟩
  ·rw[if_neg h3,if_neg h3,if_neg h3]
   exact⟨rfl,rfl,rfl⟩
  ·rw[Classical.not_not] at h3
   rw[h3]
   exact⟨rfl,rfl,rfl⟩
noncomputable def arp:fN:=⟨24,cn×Int×Int,.cons ql (.cons (sj .i64) (.one (sj .i64))),fun a=>a.1.offers.length<=40/\ -9223372036854775808<=a.2.1/\a.2.1<=9223372036854775807,
 fun a=> .eW [.agg [.row (.i .i64) (abv a.1 a.2.1 a.2.2).chosen,.si .i64 (abv a.1 a.2.1 a.2.2).value],.sb (Qy a.1 a.2.1 a.2.2),.si .i64 (JI a.1 a.2.1 a.2.2)]⟩
theorem h434:Holds Tryz.prog arp:=by
 refine con (L:=[r79,ajr,ajq]) (W:=A2 [ajW,ags 161]) arp lk (Xy (by simpa using⟨h439,arh 161⟩)) (by simpa using⟨h79,h315,h312⟩) ?_
 rintro⟨p,m,most⟩ ⟨h40,m0,m1⟩
 simp only at h40 m0 m1
 refine gw (let a:=(0:Int);let b:=SV.si .i64;let c:=(1:Int);let d:=(140737488355328:Int);let e:=SV.eW;let f:=(1000000000000:Int);let g:=SV.il .i64;let h:=SV.row;let j:=SV.agg;let t:=bD.i .i64;let r:=[g 0];let l:=e [j [h t (abv p m most).chosen,b (abv p m most).value],SV.sb (Qy p m most),b (JI p m most)];let o:=j (h t []::r);let q:=SV.bl false;let k:=rc (jr (some m)) (li.mk [] (m - c) false [(a,a,a,a,[])] a) (A5 p (PU p));let v:=decide (dV p≠a);let w:=decide (most<c);let x:=decide ((65536:Int)<most);let y:=decide (m<=a);let n:=(↑p.offers.length:Int);let s:=List.replicate n.toNat a;let z:=fun(u:li) ↦let A:=decide (u.err≠a);(u.found=true->(e (j [h t u.ch,b u.val]::SV.bl true::r)).same l)/\(u.found=false->(A=true->(e [o,q,b u.err]).same l)/\(A=false->(e (o::q::r)).same l));let B:=fun(u:Bool) ↦(!k.found)=u;True/\(v=true->(e [o,q,b (dV p)]).same l)/\(v=false->(w=true->(e [o,q,g 4]).same l)/\(w=false->(x=true->(e [o,q,g 4]).same l)/\(x=false->(y=true->(e (o::SV.bl true::r)).same l)/\(y=false->iR .i64 (m - c)/\a<=c/\c<=c/\(56:Int)<=d/\c<=f/\a<=n/\n<=n/\n*(8:Int)<=d/\n<=f/\0=0/\p.offers.length<=40/\(PU p).length<=9223372036854775807/\1=1/\(B true->(uf (pX.mk p k.ch k.val k.found (some m) k.prf.length n.toNat most k.err k.prf s)/\(a<=a/\a<(↑k.prf.length:Int))/\nF s<161)/\z (pn p (jr (some m)) most (nF s) k a s))/\(B false->z k)))))) (by kernel_rfl) ?_
 simp only[vcs]
 have hz:(List.replicate ((p.offers.length:Int)).toNat 0:List Int)=He p:=by unfold He;rw[Int.toNat_natCast]
 have e0:rc (jr (some m)) ⟨[],m - 1,false,[(0,(0,(0,(0,[]))))],0⟩ (A5 p (PU p))=Lt p m:=rfl
 have en:nF (He p)=p.offers.length:=ah6
 simp only[hz,e0,en]
 have key:∀e:Int,JI p m most=e->Qy p m most=(decide (e=0)&&(decide (m<=0)||(Ab p m most).found)):=fun e h=>by unfold Qy;rw[h]
 have Xh:Qy p m most=false\/m<=0->abv p m most=⟨[],0⟩:=fun h=>by
  unfold abv;rw[if_neg]
  rintro⟨h1,h2⟩
  rcases h with h|h
  ·rw[h] at h1;cases h1
  ·omega
 refine⟨fun h=>?_,fun h=>⟨fun h1=>?_,fun h1=>⟨fun h2=>?_,fun h2=>⟨fun h3=>?_,fun h3=>?_⟩⟩⟩⟩
 ·have e:JI p m most=dV p:=by unfold JI;rw[if_pos h]
  have f:Qy p m most=false:=by rw[key _ e,decide_eq_false h];rfl
  rw[e,f,Xh (.inl f)]
  exact⟨rfl,rfl,rfl⟩
 ·have e:JI p m most=4:=by unfold JI;rw[if_neg h,if_pos (.inl h1)]
  have f:Qy p m most=false:=by rw[key _ e];rfl
  rw[e,f,Xh (.inl f)]
  exact⟨rfl,rfl,rfl⟩
 ·have e:JI p m most=4:=by unfold JI;rw[if_neg h,if_pos (.inr h2)]
  have f:Qy p m most=false:=by rw[key _ e];rfl
  rw[e,f,Xh (.inl f)]
  exact⟨rfl,rfl,rfl⟩
 ·have e:JI p m most=0:=by unfold JI;rw[if_neg h,if_neg (by omega),if_pos h3]
  have f:Qy p m most=true:=by rw[key _ e,decide_eq_true h3];rfl
  rw[e,f,Xh (.inr h3)]
  exact⟨rfl,rfl,rfl⟩
 ·have hc:dV p=0:=Classical.not_not.1 h
  obtain⟨e1,e2⟩:=@arl p m
  have hv:pn p (jr (some m)) most p.offers.length (Lt p m) 0 (He p)=Ab p m most:=rfl
  have hst:=arn hc
  have hE:JI p m most=if(Ab p m most).found=true then 0 else(Ab p m most).err:=by unfold JI;rw[if_neg h,if_neg (by omega),if_neg h3]
  have tail:((Ab p m most).found=true->(SV.agg [SV.row (bD.i .i64) (Ab p m most).ch,SV.si .i64 (Ab p m most).val]).same (SV.agg [SV.row (bD.i .i64) (abv p m most).chosen,SV.si .i64 (abv p m most).value])/\true=Qy p m most/\0=JI p m most)/\
    ((Ab p m most).found=false->((Ab p m most).err≠0->(SV.agg [SV.row (bD.i .i64) [],SV.il .i64 0]).same (SV.agg [SV.row (bD.i .i64) (abv p m most).chosen,SV.si .i64 (abv p m most).value])/\false=Qy p m most/\(Ab p m most).err=JI p m most)/\
     (¬(Ab p m most).err≠0->(SV.agg [SV.row (bD.i .i64) [],SV.il .i64 0]).same (SV.agg [SV.row (bD.i .i64) (abv p m most).chosen,SV.si .i64 (abv p m most).value])/\false=Qy p m most/\0=JI p m most)):=by
   refine⟨fun hf=>?_,fun hf=>⟨fun he=>?_,fun he=>?_⟩⟩
   ·rw[if_pos hf] at hE
    have f:Qy p m most=true:=by rw[key _ hE,hf,Bool.or_true];rfl
    have a:abv p m most=⟨(Ab p m most).ch,(Ab p m most).val⟩:=by unfold abv;rw[if_pos ⟨f,by omega⟩]
    rw[hE,f,a]
    exact⟨rfl,rfl,rfl⟩
   ·rw[if_neg (by rw[hf];simp)] at hE
    have f:Qy p m most=false:=by rw[key _ hE,decide_eq_false he];rfl
    rw[hE,f,Xh (.inl f)]
    exact⟨rfl,rfl,rfl⟩
   ·rw[if_neg (by rw[hf];simp),Classical.not_not.1 he] at hE
    have f:Qy p m most=false:=by rw[key _ hE,hf,decide_eq_false h3];rfl
    rw[hE,f,Xh (.inl f)]
    exact⟨rfl,rfl,rfl⟩
  rw[hv]
  refine⟨by omega,by omega,by omega,by omega,by omega,by omega,by omega,by omega,by omega,h40,by omega,fun h4=>⟨⟨aG1 hc (by omega) (by omega) (by omega) (by omega),⟨by omega,by rw[e1];decide⟩,by omega⟩,tail⟩,fun h4=>?_⟩
  have hb:Ab p m most=Lt p m:=by
   have:=ajY (f:=He p) (en:=jr (some m)) (most:=most) (a:=0) (acy hc) (.inr h4)
   rw[en] at this;exact this
  rw[hb] at tail;exact tail
section
variable {p:cn} {f:List Int}
end
section
variable {p:cn} {v:Int} {t:List Nod} {a lo mid hi n:Nat} {f:List Int} {k:Int} {s:List Bool}
end
end Go.Vi
