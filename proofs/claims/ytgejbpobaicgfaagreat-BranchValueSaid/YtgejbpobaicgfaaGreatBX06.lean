/-
  The table of the functions' code.
  Conditions: none.
-/
import Derived.Test.YtgejbpobaicgfaaGreatBX01
import Derived.Test.YtgejbpobaicgfaaGreatBX05
import Derived.KernelRfl
import Derived.Deep.Slices
import Derived.OpenShut
import Derived.ProofKit
import Derived.Test.YtgejbpobaicgfaaGreatRows
set_option maxRecDepth 100000
set_option maxHeartbeats 4000000
set_option linter.all false
open And renaming intro->γe
open Bool renaming and_eq_true->μ,eq_false_iff->εo
open Classical renaming not_not->Ψ
open Go.Deep renaming open_slice->ζN,choose_lt->ζQ
open Go.Vi.SV renaming row->Ξ,g->γE,si->γa,same->ζf,il->γu,sb->γv,bl->δe,ptr->γ5,ow->γQ
open List renaming map_cons->ψ,cons_append->γJ,length_range->εO,range->Φ,length_map->γs,getElem?_eq_getElem->ι,take->ω,mem_of_mem_take->γi,take_length->τ,map->γg,drop->γ1,drop_length->δV,mem_cons->γX,mem_map->γk,map_append->γj
open Option renaming map_eq_some_iff->ε,map->ζo,map_map->ζe,isSome_iff_exists->γp,getD_some->γA
open Option.some renaming injEq->γ
open Prod.mk renaming injEq->κ
namespace Go.Vi
open Go.Proofs.YtgejbpobaicgfaaGreat.Ir
open Go.Proofs
def alu (f:Nat):List (Nat×List RH)->Option (List RH)
 |[]=>none
 |e::r=>bif Nat.beq e.1 f then some e.2 else alu f r
noncomputable def Da (f:FuncId):Option zr:=
 match alu f asE with
 |none=>none
 |some H=>match Tryz.prog.funcs[f]? with
  |none=>none
  |some g=>akJ Tryz.prog H g
noncomputable def fG (f:FuncId):zr:=(Da f).getD ⟨0,0,.skip,[]⟩
theorem ahE {f:FuncId} (h:(Da f).isSome=true):Da f=some (fG f):=by
 unfold fG
 cases q:Da f<;>simp_all
theorem au0 {f:Nat} {H:List RH} {p:Nat->Bool}:∀{l:List (Nat×List RH)},alu f l=some H->(l.all λe=>p e.1)=true->p f=true
 |[],h,_=>by cases h
 |e::r,h,k=>by
  simp only[alu] at h;simp only[List.all_cons,μ] at k
  cases q:Nat.beq e.1 f with
  |true=>simp_all
  |false=>rw[q] at h;exact au0 h k.2
theorem aCk:(asE.all λe=>FG Tryz.prog e.1)=true:=by kernel_rfl
theorem acY:SQ Tryz.prog ⟨Da,λ_ _ _ _=>none⟩ where
 fn:=λf F h=>by
  simp only[Da] at h;split at h
  ·cases h
  ·rename_i H q
   split at h
   ·cases h
   ·rename_i g r;exact⟨g,H,r,h,au0 (p:=FG Tryz.prog) q aCk⟩
 K:=λ_ _ _ _ _ _ h=>by cases h
def lk {a:Type}:a->Nat->jY:=λ_ _=> .look
structure Vc (A:Prop):Prop where
 out:A
theorem gp {A:Prop} (B:Prop) (h:B=A) (a:B):Vc A:=⟨h▸a⟩
theorem con {L:List fN} {W:aaV} (c:fN) (Λ:c.α->Nat->jY) (i:acy Tryz.prog W) (e:∀c∈L,Holds Tryz.prog c)
  
  (h:∀a,c.dom a->Vc (fnK (SR L W tyN mtN Da) (Λ a) (fG c.f) (c.A.put a) λv=>v.same (c.res a))) (j:(Da c.f).isSome=true:=by kernel_rfl) (d:abW c.f L=none:=by kernel_rfl) (b:∀a,(c.A.put a).length=(fG c.f).params:=by intro _;kernel_rfl):Holds Tryz.prog c:=
 holds_of c acY i e (ahE j) d b λa g=>(h a g).out
theorem kh {L:List fN} (c:fN) (Λ:c.α->Nat->jY) (e:∀c∈L,Holds Tryz.prog c) (h:∀a,c.dom a->Vc (fnK (SR L aaV.none tyN mtN Da) (Λ a) (fG c.f) (c.A.put a) λv=>v.same (c.res a)))
  (g:(Da c.f).isSome=true:=by kernel_rfl) (d:abW c.f L=none:=by kernel_rfl) (b:∀a,(c.A.put a).length=(fG c.f).params:=by intro _;kernel_rfl):Holds Tryz.prog c:=con c Λ (acy.none _) e h g d b
theorem aCl {L:List fN} {W:aaV} (c:fN) (k:FuncId->Bool) (Λ:c.α->Nat->jY) (i:acy Tryz.prog W) (e:∀c∈L,Holds Tryz.prog c)
  
  (h:∀a,c.dom a->Vc (fnK (aoT L W tyN mtN Da k) (Λ a) (fG c.f) (c.A.put a) λv=>v.same (c.res a))) (j:(Da c.f).isSome=true:=by kernel_rfl) (d:abW c.f L=none:=by kernel_rfl) (b:∀a,(c.A.put a).length=(fG c.f).params:=by intro _;kernel_rfl):Holds Tryz.prog c:=
 aCd c acY i e (ahE j) d b λa g=>(h a g).out
theorem Sj {L:List fN} {W:List og} (c:og) (Λ:c.α->Nat->jY) (i:∀c∈W,sd Tryz.prog c) (e:∀c∈L,Holds Tryz.prog c)
  
  (h:∀a,c.dom a->Vc (afZ (SR L (CN W) tyN mtN Da) (Λ a) (fG c.f) (c.put a) (c.st a) λv s=>v.same (c.res a)/\N1 s (c.out a))) (g:(Da c.f).isSome=true:=by kernel_rfl) (b:∀a,(c.put a).length=(fG c.f).params:=by intro _;kernel_rfl) (k:Xm c.f W=none:=by kernel_rfl):sd Tryz.prog c:=
 λa j=>alr c acY i e (ahE g) b a (λd l=>by simp_all) (h a j).out
theorem aCm {L:List fN} {W:List og} (c:og) (F:zr) (Λ:c.α->Nat->jY) (hW:∀c∈W,sd Tryz.prog c) (hL:∀c∈L,Holds Tryz.prog c)
  
  (h:∀a,c.dom a->Vc (afZ (SR L (CN W) tyN mtN Da) (Λ a) F (c.put a) (c.st a) λv s=>v.same (c.res a)/\N1 s (c.out a))) (hF:Da c.f=some F:=by kernel_rfl) (hlen:∀a,(c.put a).length=F.params:=by intro _;kernel_rfl) (hfr:Xm c.f W=none:=by kernel_rfl):sd Tryz.prog c:=
 λa ha=>alr c acY hW hL hF hlen a (λd hd=>by rw[hfr] at hd;cases hd) (h a ha).out
theorem ao2 {L:List fN} {W:List og} (c:og) (g:Nat->Option (Nat×Nat×Nat)) (Λ:c.α->Nat->jY) (i:∀c∈W,sd Tryz.prog c) (j:∀c∈L,Holds Tryz.prog c)
  
  (h:∀a,c.dom a->Vc (ao1 ⟨⟨ahz L,(CN W).C⟩,tyN,mtN,g,λ_=>none,λ_=>false⟩ (Λ a) (fG c.f) (c.put a) λv s=>v.same (c.res a)/\N1 s (c.out a))) (l:(Da c.f).isSome=true:=by kernel_rfl) (b:∀a,(c.put a).length=(fG c.f).params:=by intro _;kernel_rfl) (d:∀a,c.st a=[]:=by intro _;rfl) (k:Xm c.f W=none:=by kernel_rfl):sd Tryz.prog c:=
 λa m=>by
  rw[d a]
  refine aCi (p:=⟨⟨ahz L,(CN W).C⟩,tyN,mtN,g,λ_=>none,λ_=>false⟩) (Λ:=Λ a) (Q:=λv s=>v.same (c.res a)/\N1 s (c.out a)) (aga (XX i) j acY) (agb (XX i)) (λ_ _ h=>by cases h) (ahE l) ?_ (b a) (λv s e=>⟨e.1,ahx e.2⟩) (h a m).out
  simp_all[acw,adB,CN,aCj]
open Go.ChangeShapes Go.WideShapes Go.RowKit
abbrev Sl:qM:=⟨λ_=>False,0⟩
instance (s:cn):Inhabited s.T:=⟨s.dflt⟩
theorem aCn (b:Nat):Fr Sl [] b:=⟨by rintro⟨i,c,h⟩;simp at h,λh=>h⟩
theorem au1 {A:qM} {w:World} {σ:ja} {o:Store}:∀{vs:List Value},(∀v∈vs,v.oneCell'=true)->ei A w σ o (vs.map .sc) vs
 |[],_=>by simp[ei]
 |v::vs,h=>by
  simp only[ψ,ei]
  exact⟨v,vs,rfl,by grind[df],au1 λu a=>h u (by simp[a])⟩
theorem au2 {A:qM} {w:World} {σ:ja} {o:Store}:∀{a b:List AV} {x:Option Addr} {j:Nat},pd A w σ o a x j->pd A w σ o b x (j+a.length)->pd A w σ o (a++b) x j
 |[],b,x,j,_,h=>by simpa using h
 |c::a,b,x,j,h,k=>by
  simp only[γJ,pd] at h ⊢
  refine⟨h.1,au2 h.2 ?_⟩
  grind
def Reads (P:Program) (t:TypeId) (s:cn):Prop:=
 ∀(H:Type) (e:TypeId×Value->H) (w:World) (d:Nat) (a:Nat->Bool) (c:Bool) (b:Nat) (f:List Value) (x:DataW H×List MemPlace),DataW.trod e P w d a c b t f=some x->∃y:s.T,f=pF s y
theorem aCo {P:Program} {t:TypeId} {k:IntKind} (a:P.underlying t=some (.int k)):Reads P t (.i k):=λ_ _ _ _ _ _ _ b _ h=>by
 obtain⟨n,rfl,_,_⟩:=DataW.trod_int a h
 exact⟨n,rfl⟩
theorem aCp {w:World} {base n:Nat} {a:Addr} {cs:List Value} (h:w.cells? base a n=some cs):cs.length=n/\∀i v,cs[i]?=some v->w.cell? (a.add i)=some v:=by
 unfold World.cells? at h
 split at h
 ·obtain⟨c,f⟩:=akU h
  simp only[εO] at c
  refine⟨c,λi v d=>?_⟩
  have j:=(List.getElem?_eq_some_iff.1 d).1
  obtain⟨b,g,e⟩:=f i i (by simp_all)
  simp_all
 ·cases h
def alv (P:Program) (t:TypeId) (s:cn):Prop:=
 ∀(H:Type) (d:TypeId×Value->H) (w:World) (a:Nat->Bool) (c:Bool) (b:Nat) (e:List Value) (x:DataW H×List MemPlace),DataW.trod d P w 0 a c b t e=some x->∃y:s.T,ei Sl w [] [] (qq s y) e
theorem Reads.g {P:Program} {t:TypeId} {s:cn} (h:Reads P t s) (i:s.flat=true:=by rfl):alv P t s:=λH d w a c b e x f=>by
 obtain⟨y,rfl⟩:=h H d w 0 a c b e x f
 exact⟨y,by grind[ak6,au1,ak8]⟩
theorem au3 {w:World} {a:Addr}:∀{cs:List AV} {vs:List Value} {j:Nat},ei Sl w [] [] cs vs->(∀i v,vs[i]?=some v->w.cell? (a.add (j+i))=some v)->pd Sl w [] [] cs (some a) j
 |[],_,_,_,_=>by simp[pd]
 |c::cs,vs,j,b,d=>by
  simp only[ei] at b
  obtain⟨v,r,rfl,e,f⟩:=b
  simp only[pd]
  refine⟨⟨a,v,rfl,aCn _,by simpa using d 0 v (by simp),e⟩,au3 f λi u g=>?_⟩
  have:=d (i+1) u (by simp_all)
  grind
theorem ao3 {w:World} {a:Addr} {s:cn}:∀{l:List s.T} {i0:Nat},(∀i y,l[i]?=some y->∃cs,w.cells? 0 (a.add ((i0+i)*s.sz)) s.sz=some cs/\ei Sl w [] [] (qq s y) cs)->pd Sl w [] [] (kD s l) (some a) (i0*s.sz)
 |[],_,_=>by simp[kD,pd]
 |y::l,i0,h=>by
  obtain⟨cs,b,c⟩:=h 0 y (by simp)
  rw[Nat.add_zero] at b
  obtain⟨d,g⟩:=aCp b
  have e:kD s (y::l)=qq s y++kD s l:=by simp[kD]
  rw[e]
  refine au2 (au3 c λi v j=>?_) ?_
  ·grind[add_add]
  ·rw[Zb,show i0*s.sz+s.sz=(i0+1)*s.sz from by grind]
   refine ao3 λi z f=>?_
   have:=h (i+1) z (by simp_all)
   grind
theorem aCq {P:Program} {t e:TypeId} {s:cn} (A:P.underlying t=some (.slice e)) (r:alv P e s) (I:P.cellsOf e=s.sz)
  {H:Type} {enc:TypeId×Value->H} {w:World} {c:Nat->Bool} {j:Bool} {d:Nat} {cs:List Value} {x:DataW H×List MemPlace} (h:DataW.trod enc P w 0 c j d t cs=some x):
  ∃(v:Value) (l:List s.T),cs=[v]/\df Sl w [] [] (Ξ s l).g v:=by
 rcases ζN A h with⟨rfl,_⟩|⟨a,b,k,m,n,D,F,rfl,M,z,L,o,_,q⟩
 ·exact⟨_,[],rfl,by grind[γE,df,kD,ql,pd]⟩
 ·have B:b<=m:=by grind
  have C:∀i,i<b->∃y:s.T,∃cs,w.cells? 0 (a.add (i*s.sz)) s.sz=some cs/\ei Sl w [] [] (qq s y) cs:=λi J=>by
   obtain⟨p,K,E⟩:=q i (by omega)
   obtain⟨y,u⟩:=r _ _ _ _ _ _ _ _ E
   grind
  obtain⟨f,G⟩:=ζQ C
  refine⟨_,(Φ b).map f,rfl,?_⟩
  simp only[γE,df,γs,εO]
  refine⟨some a,k,rfl,z,acs _ _,?_⟩
  have:=ao3 (w:=w) (a:=a) (s:=s) (l:=(Φ b).map f) (i0:=0) (λi y u=>by
   grind)
  simp_all
theorem au4 {P:Program} {t e:TypeId} {s:cn} (i:P.underlying t=some (.slice e)) (f:Reads P e s) (j:P.cellsOf e=s.sz)
  {H:Type} {enc:TypeId×Value->H} {w:World} {a:Nat->Bool} {c:Bool} {b:Nat} {cs:List Value} {x:DataW H×List MemPlace} (h:DataW.trod enc P w 0 a c b t cs=some x) (d:s.flat=true:=by rfl):
  ∃(v:Value) (l:List s.T),cs=[v]/\df Sl w [] [] (Ξ s l).g v:=aCq i (f.g d) j h
theorem aCr {cs:List Value} {i:Nat} {v:Value} (h:(cs.drop i).take 1=[v]):cs[i]?=some v:=by
 have:((cs.drop i).take 1)[0]?=some v:=by rw[h];rfl
 grind
theorem aCs {P:Program} {t e:TypeId} (s:P.underlying t=some (.array 6 e)) (F:P.underlying e=some (.int .i64)) (H:P.cellsOf e=1) (l:P.cellsOf t=6):Reads P t .zx:=λ_ _ _ _ _ _ _ c _ h=>by
 obtain⟨z,m,_,_,b,v,D⟩:=DataW.trod_array s h
 have a:∀i,i<6->∃n,c[i]?=some (.int .i64 n):=λi w=>by
  grind[DataW.trod_int,aCr]
 rw[l] at b
 match c,b,a with
 |[C,A,I,G,B,E],_,a=>
  obtain⟨o,y⟩:=a 0 (by omega)
  obtain⟨x,d⟩:=a 1 (by omega)
  obtain⟨p,u⟩:=a 2 (by omega)
  obtain⟨j,r⟩:=a 3 (by omega)
  obtain⟨k,f⟩:=a 4 (by omega)
  obtain⟨q,g⟩:=a 5 (by omega)
  simp only[List.getElem?_cons_zero,List.getElem?_cons_succ,γ] at y d u r f g
  exact⟨⟨o,x,p,j,k,q⟩,by grind[pF,iv]⟩
theorem aCt {P:Program} {t b i v:TypeId} {fs:Array Field} (w:P.underlying t=some (.struct fs)) (r:P.cellsOf t=8) (N:(fs[0]?).map (λf=>(f.type,f.offset))=some (i,0)) (O:(fs[1]?).map (λf=>(f.type,f.offset))=some (b,1)) (u:(fs[2]?).map (λf=>(f.type,f.offset))=some (v,7))
  (x:P.underlying i=some (.int .i64)) (e:P.cellsOf i=1) (q:P.underlying v=some (.int .i64)) (k:P.cellsOf v=1) (z:Reads P b .zx) (d:P.cellsOf b=6) (I:fs.size=3):Reads P t .off:=λ_ _ _ _ _ _ _ B _ h=>by
 obtain⟨T,m,_,_,n,K,j⟩:=DataW.trod_struct w h
 rw[r] at n
 obtain⟨F,C,g⟩:=ε.1 N
 obtain⟨s,D,c⟩:=ε.1 O
 obtain⟨J,A,a⟩:=ε.1 u
 simp only[κ] at g c a
 have o:=j 0 F C
 have l:=j 1 s D
 have p:=j 2 J A
 rw[g.1,g.2,e,ι (by omega)] at o
 rw[c.1,c.2,d,ι (by omega)] at l
 rw[a.1,a.2,k,ι (by omega)] at p
 obtain⟨G,M,_⟩:=DataW.trod_int x o
 obtain⟨y,E⟩:=z _ _ _ _ _ _ _ _ _ l
 obtain⟨H,L,_⟩:=DataW.trod_int q p
 match B,n with
 |[S,U,R,V,Y,X,Q,W],_=>
  simp[pF] at M E L
  exact⟨⟨G,y,H⟩,by grind[pF,iv]⟩
theorem aCu {P:Program} {t b k o:TypeId} {fs:Array Field} (ht:P.underlying t=some (.struct fs)) (hn:P.cellsOf t=20) (a7:fs.size=5)
  (h0:(fs[0]?).map (λf=>(f.type,f.offset))=some (b,0)) (h1:(fs[1]?).map (λf=>(f.type,f.offset))=some (b,6)) (h2:(fs[2]?).map (λf=>(f.type,f.offset))=some (b,12))
  (U:(fs[3]?).map (λf=>(f.type,f.offset))=some (k,18)) (h4:(fs[4]?).map (λf=>(f.type,f.offset))=some (o,19))
  (s:Reads P b .zx) (d:P.cellsOf b=6) {e:TypeId} (hk:P.underlying k=some (.slice e)) (z:Reads P e (.i .i64)) (A:P.cellsOf e=1) (y:P.cellsOf k=1)
  {f:TypeId} (ho:P.underlying o=some (.slice f)) (F:Reads P f .off) (u:P.cellsOf f=8) (v:P.cellsOf o=1)
  {H:Type} {enc:TypeId×Value->H} {w:World} {c:Nat->Bool} {q:Bool} {j:Nat} {cs:List Value} {x:DataW H×List MemPlace} (h:DataW.trod enc P w 0 c q j t cs=some x):
  ∃p:dd,ei Sl w [] [] (gL p.ss) cs:=by
 obtain⟨xs,m,_,_,O,a1,l⟩:=DataW.trod_struct ht h
 rw[hn] at O
 obtain⟨f0,e0,E⟩:=ε.1 h0
 obtain⟨f1,e1,D⟩:=ε.1 h1
 obtain⟨Z,e2,r⟩:=ε.1 h2
 obtain⟨f3,T,B⟩:=ε.1 U
 obtain⟨f4,e4,C⟩:=ε.1 h4
 simp only[κ] at E D r B C
 have S:=l 0 f0 e0
 have I:=l 1 f1 e1
 have R:=l 2 Z e2
 have J:=l 3 f3 T
 have M:=l 4 f4 e4
 rw[E.1,E.2,d,ι (by omega)] at S
 rw[D.1,D.2,d,ι (by omega)] at I
 rw[r.1,r.2,d,ι (by omega)] at R
 rw[B.1,B.2,y,ι (by omega)] at J
 rw[C.1,C.2,v,ι (by omega)] at M
 obtain⟨y0,K⟩:=s _ _ _ _ _ _ _ _ _ S
 obtain⟨y1,Q⟩:=s _ _ _ _ _ _ _ _ _ I
 obtain⟨y2,G⟩:=s _ _ _ _ _ _ _ _ _ R
 obtain⟨v3,l3,L,r3⟩:=au4 hk z A J
 obtain⟨v4,W,N,r4⟩:=au4 ho F u M
 match cs,O with
 |[c0,c1,c2,c3,c4,c5,c6,c7,c8,c9,a0,a5,V,a6,a8,a2,a4,Y,a3,X],_=>
  simp[pF,iv] at K Q G L N
  obtain⟨rfl,rfl,rfl,rfl,rfl,rfl⟩:=K
  obtain⟨rfl,rfl,rfl,rfl,rfl,rfl⟩:=Q
  obtain⟨rfl,rfl,rfl,rfl,rfl,rfl⟩:=G
  subst L;subst N
  refine⟨⟨y0,y1,y2,l3,W⟩,?_⟩
  have a:∀n:Int,df Sl w [] [] (γa .i64 n).g (.int .i64 n):=λn=>by simp[γE,df,Value.oneCell']
  simp only[dd.ss,gL,ei]
  exact⟨_,_,rfl,a _,_,_,rfl,a _,_,_,rfl,a _,_,_,rfl,a _,_,_,rfl,a _,_,_,rfl,a _,_,_,rfl,a _,_,_,rfl,a _,_,_,rfl,a _,_,_,rfl,a _,_,_,rfl,a _,_,_,rfl,a _,
   _,_,rfl,a _,_,_,rfl,a _,_,_,rfl,a _,_,_,rfl,a _,_,_,rfl,a _,_,_,rfl,a _,_,_,rfl,r3,_,_,rfl,r4,rfl⟩
theorem ahF {P:Program} {w:World} {r:Reach} {base:Nat} {t:TypeId} {v:Value} {fs:Array Field} (a:P.underlying t=some (.struct fs)) (h:Value.okWide P w r base t v):∃cs,v= .agg cs/\v.cells.toList=cs.toList:=by
 unfold Value.okWide at h;rw[a] at h
 obtain⟨cs,rfl,_⟩:=h
 exact⟨cs,rfl,rfl⟩
theorem ao4 {P:Program} {w:World} {r:Reach} {base:Nat} {t e:TypeId} {v:Value} (a:P.underlying t=some (.slice e)) (h:Value.okWide P w r base t v):v.cells.toList=[v]:=by
 cases v with
 |agg b=>simp_all[Value.okWide,Cell.okWide,Cell.ok]
 |_=>rfl
theorem alx {P:Program} {w:World} {r:Reach} {base:Nat} {t:TypeId} {k:IntKind} {v:Value} (a:P.underlying t=some (.int k)) (h:Value.okWide P w r base t v):v.cells.toList=[v]:=by
 cases v with
 |agg b=>simp_all[Value.okWide,Cell.okWide,Cell.ok]
 |_=>rfl
theorem ahG {H:Type} {enc:TypeId×Value->H} {P:Program} (j:laidOutB P=true) {W l:World} (n:Below W.heap.size W l) {m:Nat->Bool}:
  ∀{f:List TypeId} {vs:List Value} {i:List (DataW H)} {g:List MemPlace},DataW.TrodAll enc P W 0 (λ_=>true) true f vs i g->(∀t∈f,P.readableRec t=true/\t<P.types.size)->(∀p∈g,p.block<W.heap.size)->(∀p∈g,m p.block=true)->
   DataW.TrodAll enc P l 0 m true f vs i g
 |[],_,_,_,h,_,_,_=>by
  obtain⟨rfl,rfl,rfl⟩:=trodAll_nil h
  exact rfl
 |t::f,_,_,_,h,o,e,k=>by
  obtain⟨v,vs,d,i,a,b,rfl,rfl,rfl,r,s⟩:=trodAll_cons h
  obtain⟨x,q⟩:=o t (by simp)
  exact⟨a,b,WideElems.Trod_stays j x q r (λp c=>n.same (e p (by simp[c]))) (λp c=>k p (by simp[c])),
   ahG j n s (λu w=>o u (by simp[w])) (λp c=>e p (by simp[c])) (λp c=>k p (by simp[c])),rfl⟩
theorem aCv {W b:World} {a:ja} {o':Store} (h:Ext W [] [] b a o'):Below W.heap.size W b:=
 ⟨h.os,h.tape,h.output,h.size,λk e=>(h.blk k e (by rintro⟨i,c,d⟩;simp at d)).1⟩
@[simp] theorem aCw {k c:IntKind} {a b:Int}:(γa k a).same (.si c b)↔k=c/\a=b:=by simp[ζf,γE]
@[simp] theorem aCx {k c:IntKind} {a b:Int}:(γu k a).same (.si c b)↔k=c/\a=b:=by simp[ζf,γE]
@[simp] theorem aCy {a b:Bool}:(γv a).same (.sb b)↔a=b:=by simp[ζf,γE]
@[simp] theorem aCz {a b:Bool}:(δe a).same (.sb b)↔a=b:=by simp[ζf,γE]
@[simp] theorem aCA {s:cn} {a b:List s.T}:(Ξ s a).same (.row s b)↔a=b:=by
 constructor
 ·intro h;simp only[ζf,γE,AV.sl.injEq] at h;exact XV s h.1 h.2
 ·rintro rfl;rfl
@[simp] theorem aCB {k c:IntKind} {a b:Int}:(γa k a).same (.il c b)↔k=c/\a=b:=by simp[ζf,γE]
@[simp] theorem aCC {k c:IntKind} {a b:Int}:(γu k a).same (.il c b)↔k=c/\a=b:=by simp[ζf,γE]
theorem aCD {v:SV}:v.same v↔True:=iff_true_intro rfl
theorem aCE {v:cJ}:v.same v↔True:=iff_true_intro rfl
theorem aCF {a b c d:SV}:(SV.eW [a,b]).same (.eW [c,d])↔a.same c/\b.same d:=by simp[ζf,γE,gL]
theorem aCG {a b c d e f:SV}:(SV.eW [a,b,c]).same (.eW [d,e,f])↔a.same d/\b.same e/\c.same f:=by simp[ζf,γE,gL]
theorem ao5 {s t:cn}:(Ξ s []).same (.row t [])↔True:=iff_true_intro (by simp[ζf,γE,kD])
theorem au5 {s:cn} {l:List s.T}:(Ξ (.i .i64) []).same (.row s l)↔l=[]:=by
 constructor
 ·grind[ζf,γE]
 ·rintro rfl;exact ao5.2 trivial
theorem aly {a b:fZ}:a=b↔a.a0=b.a0/\a.a1=b.a1/\a.a2=b.a2/\a.a3=b.a3/\a.a4=b.a4/\a.a5=b.a5:=by
 obtain⟨k,c,n,f,d,l⟩:=a
 obtain⟨g,i,e,h,m,j⟩:=b
 simp_all
@[simp] theorem aCH {n:Int}:ie .i64 n↔ -9223372036854775808<=n/\n<=9223372036854775807:=Iff.rfl
theorem vcs:(∀{p:Prop} [h:Decidable p],(decide p=true)=p)/\(∀{p:Prop} {x:Decidable p},decide p=false↔¬p)/\(∀{k g:IntKind} {a b:Int},(γu k a).same (γa g b)↔k=g/\a=b)/\(∀{k g:IntKind} {a b:Int},(γa k a).same (γa g b)↔k=g/\a=b)/\(∀{k g:IntKind} {a b:Int},(γa k a).same (γu g b)↔k=g/\a=b)/\(∀{k g:IntKind} {a b:Int},(γu k a).same (γu g b)↔k=g/\a=b)/\(∀{a b:Bool},(γv a).same (γv b)↔a=b)/\(∀{a b:Bool},(δe a).same (γv b)↔a=b)/\(∀{s:cn} {a b:List s.T},(Ξ s a).same (Ξ s b)↔a=b)/\(∀{a b c d:SV},(SV.eW [a,b]).same (SV.eW [c,d])↔a.same c/\b.same d)/\(∀{a b c d e f:SV},(SV.eW [a,b,c]).same (SV.eW [d,e,f])↔a.same d/\b.same e/\c.same f)/\(∀{s t:cn},(Ξ s []).same (Ξ t [])↔True)/\(∀{s:cn} {l:List s.T},(Ξ (cn.i IntKind.i64) []).same (Ξ s l)↔l=[])/\(∀{v:SV},v.same v↔True)/\(∀{v:cJ},v.same v↔True)/\(∀{n:Int},ie IntKind.i64 n↔ -9223372036854775808<=n/\n<=9223372036854775807)/\(∀p:Prop,(True/\p)=p)/\(∀p:Prop,(p/\True)=p)/\(∀a b:Bool,((a&&b)=true)=(a=true/\b=true))/\(∀b:Bool,((!b)=true)=(b=false))/\(∀b:Bool,((!b)=false)=(b=true)):=
 ⟨decide_eq_true_eq,decide_eq_false_iff_not,aCx,aCw,aCB,aCC,aCy,aCz,aCA,aCF,aCG,ao5,au5,aCD,aCE,aCH,true_and,and_true,μ,Bool.not_eq_true',Bool.not_eq_false'⟩
def fZ.ok (b:fZ):Bool:=[b.a0,b.a1,b.a2,b.a3,b.a4,b.a5].all λn=>decide (0<=n)&&decide (n<=4)
theorem fZ.aaZ {b:fZ}:b.ok=true↔(0<=b.a0/\b.a0<=4)/\(0<=b.a1/\b.a1<=4)/\(0<=b.a2/\b.a2<=4)/\(0<=b.a3/\b.a3<=4)/\(0<=b.a4/\b.a4<=4)/\(0<=b.a5/\b.a5<=4):=by
 simp[fZ.ok]
def ao6:fN:=⟨93,fZ,.one (Ac .zx),λ_=>True,λb=> .si .i64 (if b.ok=true then 0 else 4)⟩
theorem h146:Holds Tryz.prog ao6:=by
 refine kh (L:=[]) ao6 (λ_ _=> .ae0 7) (by simp) ?_
 intro b _
 refine gp (let h:=γu .i64;let p:=(0:Int);let q:=(4:Int);let i:=decide (b.a0<p);let a:=γa .i64 (if fZ.ok b=true then p else q);let l:=decide (q<b.a0);let k:=decide (b.a1<p);let m:=decide (q<b.a1);let o:=decide (b.a2<p);let j:=decide (q<b.a2);let n:=decide (b.a3<p);let f:=decide (q<b.a3);let g:=decide (b.a4<p);let d:=decide (q<b.a4);let c:=decide (b.a5<p);let e:=decide (q<b.a5);(i=true->(h 4).same a)/\(i=false->(l=true->(h 4).same a)/\(l=false->(k=true->(h 4).same a)/\(k=false->(m=true->(h 4).same a)/\(m=false->(o=true->(h 4).same a)/\(o=false->(j=true->(h 4).same a)/\(j=false->(n=true->(h 4).same a)/\(n=false->(f=true->(h 4).same a)/\(f=false->(g=true->(h 4).same a)/\(g=false->(d=true->(h 4).same a)/\(d=false->(c=true->(h 4).same a)/\(c=false->(e=true->(h 4).same a)/\(e=false->(h 0).same a))))))))))))) (by kernel_rfl) ?_
 conv=>zeta
 have p:=@fZ.aaZ b
 by_cases h:b.ok=true<;>simp_all
def fZ.l (b:fZ):List Int:=[b.a0,b.a1,b.a2,b.a3,b.a4,b.a5]
def ki (p:dd):Int:=p.classes.length+12
def nn (p:dd) (r:Int):Int:=
 if r - p.classes.length<0 then 1
 else if r - p.classes.length<6 then bC [p.supply.a0,p.supply.a1,p.supply.a2,p.supply.a3,p.supply.a4,p.supply.a5] (r - p.classes.length).toNat 0
 else bC [p.opn.a0,p.opn.a1,p.opn.a2,p.opn.a3,p.opn.a4,p.opn.a5] (r - p.classes.length - 6).toNat 0
def sV (p:dd) (r:Int) (o:Off):Int:=
 if r - p.classes.length<0 then(if o.jV=r then 1 else 0)
 else if r - p.classes.length<6 then bC [o.want.a0,o.want.a1,o.want.a2,o.want.a3,o.want.a4,o.want.a5] (r - p.classes.length).toNat 0
 else if bC [p.cls.a0,p.cls.a1,p.cls.a2,p.cls.a3,p.cls.a4,p.cls.a5] (r - p.classes.length - 6).toNat 0=0\/bC [p.cls.a0,p.cls.a1,p.cls.a2,p.cls.a3,p.cls.a4,p.cls.a5] (r - p.classes.length - 6).toNat 0=bC p.classes o.jV.toNat 0 then 0
 else bC [o.want.a0,o.want.a1,o.want.a2,o.want.a3,o.want.a4,o.want.a5] (r - p.classes.length - 6).toNat 0
def ahH:fN:=⟨97,dd,.one qa,λp=>p.classes.length<=8,λp=> .si .i64 (ki p)⟩
def ahI:fN:=⟨98,dd×Int,.cons qa (.one (sx .i64)),λa=>a.1.classes.length<=8/\0<=a.2/\a.2<ki a.1,λa=> .si .i64 (nn a.1 a.2)⟩
def ahJ:fN:=⟨99,dd×Int×Off,.cons qa (.cons (sx .i64) (.one (Ac .off))),λa=>a.1.classes.length<=8/\0<=a.2.1/\a.2.1<ki a.1/\0<=a.2.2.jV/\a.2.2.jV<a.1.classes.length,λa=> .si .i64 (sV a.1 a.2.1 a.2.2)⟩
theorem h157:Holds Tryz.prog ahH:=by
 refine kh (L:=[]) ahH (λ_ _=> .ae0 7) (by simp) ?_
 intro p (b:p.classes.length<=8)
 refine gp (let a:=(↑p.classes.length:Int)+(12:Int);ie .i64 a/\(γa .i64 a).same (γa .i64 (ki p))) (by kernel_rfl) ?_
 simp only[vcs,ki];omega
theorem h158:Holds Tryz.prog ahI:=by
 refine kh (L:=[]) ahI (λ_ _=> .ae0 7) (by simp) ?_
 rintro⟨p,r⟩ ⟨h,j,i⟩
 simp only[ki] at h j i
 refine gp (let h:=(6:Int);let i:=(0:Int);let d:=γa .i64 (nn p r);let c:=(↑p.classes.length:Int);let g:=decide (r - c<i);let e:=decide (r - c<h);let f:=λ(u b:Int) (a:fZ) ↦i<=u - b/\u - b<h/\(u - b).toNat<6/\(γa .i64 (bC [a.a0,a.a1,a.a2,a.a3,a.a4,a.a5] (u - b).toNat i)).same d;ie .i64 (r - c)/\(g=true->(γu .i64 1).same d)/\(g=false->(e=true->f r c p.supply)/\(e=false->ie .i64 (r - c - h)/\f (r - c) h p.opn))) (by kernel_rfl) ?_
 simp only[vcs]
 grind[nn]
theorem h156:Holds Tryz.prog ahJ:=by
 refine kh (L:=[]) ahJ (λ_ _=> .ae0 7) (by simp) ?_
 rintro⟨p,r,x⟩ ⟨m,q,n,l,o⟩
 simp only[ki] at m q n l o
 refine gp (let l:=(0:Int);let m:=(6:Int);let n:=γu .i64;let o:=γu .i64 0;let q:=γa .i64;let b:=(↑p.classes.length:Int);let e:=decide (r - b<l);let c:=q (sV p r x);let h:=decide (r - b<m);let k:=[x.want.a0,x.want.a1,x.want.a2,x.want.a3,x.want.a4,x.want.a5];let a:=r - b - m;let j:=bC [p.cls.a0,p.cls.a1,p.cls.a2,p.cls.a3,p.cls.a4,p.cls.a5] a.toNat l;let i:=decide (j=l);let g:=decide (j=bC p.classes x.jV.toNat l);let d:=decide (x.jV=r);let f:=(e=true->(n 0).same c)/\(e=false->(h=true->l<=r - b/\r - b<m/\(r - b).toNat<6/\(q (bC k (r - b).toNat l)).same c)/\(h=false->ie .i64 a/\l<=a/\a<m/\a.toNat<6/\(i=true->(n 0).same c)/\(i=false->l<=a/\a<m/\a.toNat<6/\l<=x.jV/\x.jV<b/\x.jV.toNat<p.classes.length/\(g=true->(n 0).same c)/\(g=false->l<=a/\a<m/\a.toNat<6/\(q (bC k a.toNat l)).same c))));ie .i64 (r - b)/\(e=true->(d=true->(n 1).same c)/\(d=false->f))/\(e=false->f)) (by kernel_rfl) ?_
 simp only[vcs]
 repeat' (first|refine γe ?_ ?_|intro _)
 all_goals first
  |trivial
  |omega
  |(simp only[sV];(repeat' split)<;>first|rfl|omega)
def L2:List fN:=[ahJ,ahH,ahI]
theorem hL2:∀c∈L2,Holds Tryz.prog c:=by
 simp_all[L2,h156,h157,h158]
def li (p:dd) (l:List Off) (r:Int):Int:=(l.map (sV p r)).sum
def By (p:dd) (l:List Off):Bool:=(Φ (p.classes.length+12)).all λr=>decide (li p l r<=nn p r)
def alz:fN:=⟨75,dd×List Off,.cons qa (.one (mA .off)),λa=>a.1.classes.length<=8/\a.2.length<=1000/\(∀x∈a.2,0<=x.jV/\x.jV<a.1.classes.length/\x.want.ok=true),λa=> .sb (By a.1 a.2)⟩
def aCI (a:dd×List Off):Nat->jY
 |3=> .inv Int (λi=>⟨[(1,.row .off a.2),(2,.ptr 0 0 20),(5,.fn (.func 99) [] []),(11,.si .i64 (ki a.1)),(12,.si .i64 i)],[.cells a.1.ss 98 20 false]⟩) (λs=>iS s 12)
  (λi=>0<=i/\i<=ki a.1/\∀r:Nat,r<i->li a.1 a.2 r<=nn a.1 r) (λi=>(ki a.1 - i).toNat)
  λi=>λ
   |7=> .inv (Int×Int) (λx=>⟨[(1,.row .off a.2),(2,.ptr 0 0 20),(5,.fn (.func 99) [] []),(6,.si .i64 i),(7,.si .i64 x.2),(11,.si .i64 (ki a.1)),(12,.si .i64 i),(15,.row .off a.2),(16,.si .i64 a.2.length),(17,.si .i64 x.1)],[.cells a.1.ss 98 20 false]⟩)
    (λs=>(iS s 17,iS s 7))
    (λx=>0<=x.1/\x.1<=a.2.length/\x.2=li a.1 (a.2.take x.1.toNat) i) (λx=>(a.2.length - x.1).toNat) λ_ _=> .look
   |_=> .look
 |_=> .look
theorem ao7 {b:fZ} (h:b.ok=true) (k:Nat):0<=bC [b.a0,b.a1,b.a2,b.a3,b.a4,b.a5] k 0/\bC [b.a0,b.a1,b.a2,b.a3,b.a4,b.a5] k 0<=4:=by
 grind[fZ.aaZ,bC]
theorem acA {p:dd} {r:Int} {o:Off} (h:o.want.ok=true):0<=sV p r o/\sV p r o<=4:=by
 unfold sV
 have a:=ao7 h (r - p.classes.length).toNat
 have b:=ao7 h (r - p.classes.length - 6).toNat
 omega
theorem aeg {p:dd} {r:Int}:∀{l:List Off},(∀x∈l,x.want.ok=true)->0<=li p l r/\li p l r<=4*l.length
 |[],_=>by simp[li]
 |x::l,h=>by
  have b:=@acA p r x (h x (by simp))
  have c:=@aeg p r l λy a=>h y (by simp[a])
  grind[li]
theorem pz {a:Type} {l:List a} {i:Nat} {d:a} (h:i<l.length):bC l i d∈l:=by grind[my]
theorem Xx {a:Type} {l:List a} {i:Int} {d:a} (b:0<=i) (h:i<l.length):l.take (i+1).toNat=l.take i.toNat++[bC l i.toNat d]:=by
 rw[show(i+1).toNat=i.toNat+1 from by omega,my (by omega),List.take_succ_eq_append_getElem (by omega)]
theorem ao8 {p:dd} {r:Int} {l:List Off} {i:Int} {d:Off} (a:0<=i) (h:i<l.length):li p (l.take (i+1).toNat) r=li p (l.take i.toNat) r+sV p r (bC l i.toNat d):=by
 grind[Xx,li]
theorem abY {p:dd} {l:List Off}:By p l=true↔∀r:Nat,r<ki p->li p l r<=nn p r:=by
 simp only[By,ki,List.all_eq_true,List.mem_range,decide_eq_true_eq]
 grind
theorem h134:Holds Tryz.prog alz:=by
 refine kh (L:=L2) alz aCI hL2 ?_
 rintro⟨p,l⟩ ⟨A,R,z⟩
 simp only at A R z
 refine gp (let d:=γa .i64;let i:=(0:Int);let j:=Ξ;let s:=γu .i64 0;let u:=γu .i64;let w:=ie .i64;let f:=γ5 0 0 20;let e:=SV.fn (Fn.func 99) [] [];let h:=d (ki p);let k:=cJ.cells (dd.ss p) 98 20 false;let g:=(↑l.length:Int);let v:=d g;p.classes.length<=8/\((((j cn.off l).same (j cn.off l)/\f.same f/\e.same e/\h.same h/\(s).same (d 0)/\True)/\k.same k/\True)/\i<=i/\i<=ki p/\∀(r:Nat),(↑r:Int)<i->li p l (↑r:Int)<=nn p (↑r:Int))/\∀(x:Int),let D:=decide (x<ki p);let n:=x+(1:Int);let F:=d n;(i<=x/\x<=ki p/\∀(r:Nat),(↑r:Int)<x->li p l (↑r:Int)<=nn p (↑r:Int))->(D=true->((((j cn.off l).same (j cn.off l)/\f.same f/\e.same e/\(d x).same (d x)/\(s).same (d 0)/\h.same h/\(d x).same (d x)/\(j cn.off l).same (j cn.off l)/\(d (↑l.length:Int)).same v/\(s).same (d 0)/\True)/\k.same k/\True)/\i<=i/\i<=g/\i=li p [] x)/\∀(a:Int×Int),let C:=bC l a.fst.toNat cn.off.dflt;let m:=a.snd+sV p x C;let b:=a.fst+(1:Int);let c:=d x;let o:=d m;let t:=d b;let q:=decide (nn p x<a.snd);i<=a.fst/\a.fst<=g/\a.snd=li p (ω a.fst.toNat l) x->(decide (a.fst<g)=true->i<=a.fst/\a.fst<(↑l.length:Int)/\a.fst.toNat<l.length/\(p.classes.length<=8/\i<=x/\x<ki p/\i<=C.jV/\C.jV<(↑p.classes.length:Int))/\w m/\w b/\(((j cn.off l).same (j cn.off l)/\f.same f/\e.same e/\c.same c/\o.same o/\h.same h/\c.same c/\(j cn.off l).same (j cn.off l)/\v.same v/\t.same t/\True)/\k.same k/\True)/\(i<=b/\b<=g/\m=li p (ω b.toNat l) x)/\(g - b).toNat<(g - a.fst).toNat)/\(decide (a.fst<g)=false->(p.classes.length<=8/\i<=x/\x<ki p)/\(q=true->(δe false).same (γv (By p l)))/\(q=false->w n/\(((j cn.off l).same (j cn.off l)/\f.same f/\e.same e/\h.same h/\F.same F/\True)/\k.same k/\True)/\(i<=n/\n<=ki p/\∀(r:Nat),(↑r:Int)<n->li p l (↑r:Int)<=nn p (↑r:Int))/\(ki p - n).toNat<(ki p - x).toNat)))/\(D=false->(δe true).same (γv (By p l)))) (by kernel_rfl) ?_
 simp only[vcs]
 have U:ki p=p.classes.length+12:=rfl
 have P:∀x∈l,x.want.ok=true:=λx y=>(z x y).2.2
 refine⟨A,⟨by omega,by omega,λr K=>by omega⟩,?_⟩
 rintro i ⟨O,I,V⟩
 refine⟨λQ=>⟨⟨by omega,by omega,by simp[li]⟩,?_⟩,?_⟩
 ·rintro⟨j,s⟩ ⟨w,u,E⟩
  simp only at w u E ⊢
  have S:=@aeg p i (l.take j.toNat) λx y=>P x (γi y)
  have G:(l.take j.toNat).length<=l.length:=by simp;omega
  refine⟨λB=>?_,λB=>?_⟩
  ·have M:=z _ (pz (d:=cn.off.dflt) (show j.toNat<l.length by omega))
   have T:=@acA p i _ M.2.2
   grind[ao8]
  ·have:j.toNat=l.length:=by omega
   rw[this,τ] at E
   refine⟨⟨A,by omega,by omega⟩,λH=>?_,λN=>⟨by omega,⟨by omega,by omega,λr K=>?_⟩,by omega⟩⟩
   ·symm
    rw[εo];intro J
    have:=abY.1 J i.toNat (by omega)
    grind
   grind
 grind[abY]
def L3:List fN:=[alz,ao6,ahJ,ahH,ahI]
theorem hL3:∀c∈L3,Holds Tryz.prog c:=by
 simp only[L3,List.forall_mem_cons,List.not_mem_nil,false_implies,implies_true,and_true]
 grind[h134,h146,h156,h157,h158]
def H6 (p:dd) (k:Nat):Prop:=
 let c:=bC [p.cls.a0,p.cls.a1,p.cls.a2,p.cls.a3,p.cls.a4,p.cls.a5] k 0
 let o:=bC [p.opn.a0,p.opn.a1,p.opn.a2,p.opn.a3,p.opn.a4,p.opn.a5] k 0
 let s:=bC [p.supply.a0,p.supply.a1,p.supply.a2,p.supply.a3,p.supply.a4,p.supply.a5] k 0
 0<=c/\c<=4/\0<=o/\o<=s/\(c≠0\/o=s)
instance (p:dd) (k:Nat):Decidable (H6 p k):=by unfold H6;infer_instance
def ao9 (p:dd):Bool:=(Φ 6).all λk=>decide (H6 p k)
theorem adF {p:dd} {k:Nat}:H6 p k↔(0<=bC [p.cls.a0,p.cls.a1,p.cls.a2,p.cls.a3,p.cls.a4,p.cls.a5] k 0/\bC [p.cls.a0,p.cls.a1,p.cls.a2,p.cls.a3,p.cls.a4,p.cls.a5] k 0<=4/\0<=bC [p.opn.a0,p.opn.a1,p.opn.a2,p.opn.a3,p.opn.a4,p.opn.a5] k 0/\
  bC [p.opn.a0,p.opn.a1,p.opn.a2,p.opn.a3,p.opn.a4,p.opn.a5] k 0<=bC [p.supply.a0,p.supply.a1,p.supply.a2,p.supply.a3,p.supply.a4,p.supply.a5] k 0/\
  (bC [p.cls.a0,p.cls.a1,p.cls.a2,p.cls.a3,p.cls.a4,p.cls.a5] k 0≠0\/bC [p.opn.a0,p.opn.a1,p.opn.a2,p.opn.a3,p.opn.a4,p.opn.a5] k 0=bC [p.supply.a0,p.supply.a1,p.supply.a2,p.supply.a3,p.supply.a4,p.supply.a5] k 0)):=Iff.rfl
attribute [irreducible] H6
theorem alA {p:dd}:ao9 p=true↔∀k,k<6->H6 p k:=by simp[ao9]
def KD (p:dd):Int:=
 if p.supply.ok=false then 4
 else if ao9 p=false then 4
 else if 8<p.classes.length\/160<p.offers.length then 3
 else if ¬∀c∈p.classes,0<=c/\c<=4 then 4
 else 0
def apa:fN:=⟨58,dd,.one qa,λp=>True,λp=> .si .i64 (KD p)⟩
def aCJ (p:dd):Nat->jY
 |5=> .inv Int (λk=>⟨[(1,.ptr 0 0 20),(16,.si .i64 k)],[.cells p.ss 98 20 false]⟩) (λs=>iS s 16) (λk=>0<=k/\k<=6/\∀j:Nat,j<k->H6 p j) (λk=>(6 - k).toNat) λ_ _=> .look
 |14=> .inv Int (λk=>⟨[(76,.row (.i .i64) p.classes),(77,.si .i64 p.classes.length),(78,.si .i64 k)],[.cells p.ss 98 20 false]⟩) (λs=>iS s 78)
  (λk=>0<=k/\k<=p.classes.length/\∀c∈p.classes.take k.toNat,0<=c/\c<=4) (λk=>(p.classes.length - k).toNat) λ_ _=> .look
 |_=> .look
theorem au6 {p:dd} (h:p.supply.ok=false):KD p=4:=by simp[KD,h]
theorem au7 {p:dd} (h:p.supply.ok=true) {k:Nat} (b:k<6) (a:¬H6 p k):KD p=4:=by
 grind[alA,KD]
theorem alB {p:dd} (h:p.supply.ok=true) (b:∀j:Nat,j<6->H6 p j) (a:8<p.classes.length\/160<p.offers.length):KD p=3:=by
 grind[KD,alA]
theorem alC {p:dd} (h:p.supply.ok=true) (f:∀j:Nat,j<6->H6 p j) (e:¬(8<p.classes.length\/160<p.offers.length)) {c:Int} (b:c∈p.classes) (a:¬(0<=c/\c<=4)):KD p=4:=by
 have:¬∀c∈p.classes,0<=c/\c<=4:=λd=>a (d c b)
 simp_all[KD]
theorem au8 {p:dd} (h:p.supply.ok=true) (b:∀j:Nat,j<6->H6 p j) (d:¬(8<p.classes.length\/160<p.offers.length)) (a:∀c∈p.classes,0<=c/\c<=4):KD p=0:=by
 simp_all[KD,alA,if_neg]
theorem alD {p:dd} (h:KD p=0):p.supply.ok=true/\(∀j:Nat,j<6->H6 p j)/\p.classes.length<=8/\p.offers.length<=160/\∀c∈p.classes,0<=c/\c<=4:=by
 unfold KD at h;split at h
 ·cases h
 ·split at h
  ·cases h
  ·split at h
   all_goals simp_all[alA]
theorem au9 {l:List Int} {i:Int} {P:Int->Prop} (d:0<=i) (h:i<l.length) (a:∀c∈l.take i.toNat,P c) (b:P (bC l i.toNat 0)):∀c∈l.take (i+1).toNat,P c:=by
 grind[Xx]
theorem h118:Holds Tryz.prog apa:=by
 refine kh (L:=L3) apa aCJ hL3 ?_
 intro p _
 refine gp (let b:=γa .i64;let d:=(0:Int);let h:=γu .i64;let k:=(6:Int);let s:=(4:Int);let V:=if p.supply.ok=true then d else s;let g:=b (KD p);let M:=γ5 0 0 20;let N:=h 0;let y:=Ξ (cn.i .i64) p.classes;let n:=cJ.cells [b p.supply.a0,b p.supply.a1,b p.supply.a2,b p.supply.a3,b p.supply.a4,b p.supply.a5,b p.opn.a0,b p.opn.a1,b p.opn.a2,b p.opn.a3,b p.opn.a4,b p.opn.a5,b p.cls.a0,b p.cls.a1,b p.cls.a2,b p.cls.a3,b p.cls.a4,b p.cls.a5,y,Ξ cn.off p.offers] 98 20 false;let w:=[p.cls.a0,p.cls.a1,p.cls.a2,p.cls.a3,p.cls.a4,p.cls.a5];let Y:=[p.opn.a0,p.opn.a1,p.opn.a2,p.opn.a3,p.opn.a4,p.opn.a5];let Z:=[p.supply.a0,p.supply.a1,p.supply.a2,p.supply.a3,p.supply.a4,p.supply.a5];let o:=(↑p.classes.length:Int);let I:=decide ((8:Int)<o);let A:=decide ((160:Int)<(↑p.offers.length:Int));let a:=(↑p.classes.length:Int);let r:=b a;let U:=λ(u:Bool) ↦decide (V≠d)=u;True/\(U true->(b V).same g)/\(U false->(((M.same M/\N.same (b 0)/\True)/\n.same n/\True)/\d<=d/\d<=k/\∀(j:Nat),(↑j:Int)<d->H6 p j)/\∀(x:Int),let e:=x+(1:Int);let C:=b e;let D:=decide (x<k);let q:=bC w x.toNat d;let H:=decide (q<d);let z:=decide (s<q);let l:=bC Y x.toNat d;let t:=decide (l<d);let m:=bC Z x.toNat d;let B:=decide (q=d);let K:=ie .i64 e/\((M.same M/\C.same C/\True)/\n.same n/\True)/\(d<=e/\e<=k/\∀(j:Nat),(↑j:Int)<e->H6 p j)/\(k - e).toNat<(k - x).toNat;(d<=x/\x<=k/\∀(j:Nat),(↑j:Int)<x->H6 p j)->(D=true->d<=x/\x<k/\x.toNat<6/\d<=x/\x<k/\x.toNat<6/\(H=true->(h 4).same g)/\(H=false->(z=true->(h 4).same g)/\(z=false->(t=true->(h 4).same g)/\(t=false->d<=x/\x<k/\x.toNat<6/\(decide (m<l)=true->(h 4).same g)/\(decide (m<l)=false->(B=true->d<=x/\x<k/\x.toNat<6/\(decide (l≠m)=true->(h 4).same g)/\(decide (l≠m)=false->K))/\(B=false->K))))))/\(D=false->(I=true->(h 3).same g)/\(I=false->(A=true->(h 3).same g)/\(A=false->(((y.same y/\(b o).same r/\N.same (b 0)/\True)/\n.same n/\True)/\d<=d/\d<=a/\∀(c:Int),c∈[]->d<=c/\c<=s)/\∀(x:Int),let J:=bC p.classes x.toNat d;let F:=decide (J<d);let v:=decide (s<J);let f:=x+(1:Int);let E:=b f;(d<=x/\x<=a/\∀(c:Int),c∈ω x.toNat p.classes->d<=c/\c<=s)->(decide (x<a)=true->d<=x/\x<o/\x.toNat<p.classes.length/\(F=true->(h 4).same g)/\(F=false->(v=true->(h 4).same g)/\(v=false->ie .i64 f/\((y.same y/\r.same r/\E.same E/\True)/\n.same n/\True)/\(d<=f/\f<=a/\∀(c:Int),c∈ω f.toNat p.classes->d<=c/\c<=s)/\(a - f).toNat<(a - x).toNat)))/\(decide (x<a)=false->N.same g)))))) (by kernel_rfl) ?_
 simp only[vcs]
 by_cases s:fZ.ok p.supply=true
 ·simp only[s,if_true]
  refine⟨λh=>absurd rfl h,λ_=>⟨⟨by omega,by omega,λj T=>by omega⟩,?_⟩⟩
  rintro k ⟨a8,a6,X⟩
  refine⟨λG=>?_,λO=>?_⟩
  ·have P:¬H6 p k.toNat->(4:Int)=KD p:=λh=>(au7 s (by omega) h).symm
   have a7:H6 p k.toNat->∀(j:Nat),(j:Int)<k+1->H6 p j:=λh j T=>by
    grind
   repeat' (first|refine γe ?_ ?_|intro _)
   all_goals first
    |omega
    |exact P λhh=>by have h2:=adF.1 hh;omega
    |grind[adF]
  ·have b:∀j:Nat,j<6->H6 p j:=λj T=>X j (by omega)
   refine⟨λh=>(alB s b (.inl (by omega))).symm,λh8=>⟨λh=>(alB s b (.inr (by omega))).symm,λW=>⟨⟨by omega,by omega,by simp⟩,?_⟩⟩⟩
   rintro i ⟨Q,a9,R⟩
   refine⟨λG=>?_,λO=>?_⟩
   ·have S:=pz (d:=0) (show i.toNat<p.classes.length by omega)
    refine⟨by omega,by omega,by omega,λh=>(alC s b (by omega) S (by omega)).symm,λh1=>⟨λh=>(alC s b (by omega) S (by omega)).symm,λh2=>⟨by omega,⟨by omega,by omega,?_⟩,by omega⟩⟩⟩
    exact au9 Q G R (by omega)
   ·rw[show i.toNat=p.classes.length from by omega,τ] at R
    grind[au8]
 ·have w:fZ.ok p.supply=false:=by simp_all
  simp only[w,Bool.false_eq_true,if_false]
  exact⟨λ_=>(au6 w).symm,λh=>absurd (by decide) h⟩
def SS (n:Int) (o:Off):Int:=
 if o.jV<0\/n<=o.jV then 6 else if o.value<1\/1000000<o.value then 4 else if o.want.ok then 0 else 4
def apb:fN:=⟨94,Int×Off,.cons (sx .i64) (.one (Ac .off)),λp=>True,λp=> .si .i64 (SS p.1 p.2)⟩
theorem h147:Holds Tryz.prog apb:=by
 refine kh (L:=L3) apb (λp=>λ_=> .look) hL3 ?_
 rintro⟨n,x⟩ _
 refine gp (let f:=γu .i64;let e:=decide (x.jV<(0:Int));let a:=γa .i64 (SS n x);let c:=decide (n<=x.jV);let b:=decide (x.value<(1:Int));let d:=decide ((1000000:Int)<x.value);(e=true->(f 6).same a)/\(e=false->(c=true->(f 6).same a)/\(c=false->(b=true->(f 4).same a)/\(b=false->(d=true->(f 4).same a)/\(d=false->True/\(γa .i64 (if x.want.ok=true then(0:Int) else(4:Int))).same a))))) (by kernel_rfl) ?_
 simp only[vcs]
 grind[SS]
def X0 (p:dd) (o:Off):Int:=
 if SS p.classes.length o≠0 then SS p.classes.length o else if o.want=fZ.zero then 4 else if By p [o]=false then 14 else 0
def apc:fN:=⟨59,dd×Off,.cons qa (.one (Ac .off)),λa=>a.1.classes.length<=8,λa=> .si .i64 (X0 a.1 a.2)⟩
def L4:List fN:=apb::L3
theorem hL4:∀c∈L4,Holds Tryz.prog c:=by
 grind[L4,h147,hL3]
theorem alE {n:Int} {o:Off} (h:SS n o=0):0<=o.jV/\o.jV<n/\1<=o.value/\o.value<=1000000/\o.want.ok=true:=by
 grind[SS]
theorem h119:Holds Tryz.prog apc:=by
 refine kh (L:=L4) apc (λp=>λ_=> .look) hL4 ?_
 rintro⟨p,x⟩ (i:p.classes.length<=8)
 refine gp (let f:=(0:Int);let g:=γu .i64;let c:=SS (↑p.classes.length:Int) x;let e:=decide (c≠f);let b:=γa .i64 (X0 p x);let d:=λ(u:Bool) ↦(decide (x.want.a0=f)&&(decide (x.want.a1=f)&&(decide (x.want.a2=f)&&(decide (x.want.a3=f)&&(decide (x.want.a4=f)&&(decide (x.want.a5=f)&&true))))))=u;True/\(e=true->(γa .i64 c).same b)/\(e=false->(d true->(g 4).same b)/\(d false->(p.classes.length<=8/\1<=1000/\∀(a:Off),a∈[x]->f<=a.jV/\a.jV<(↑p.classes.length:Int)/\a.want.ok=true)/\((!By p [x])=true->(g 14).same b)/\((!By p [x])=false->(g 0).same b)))) (by kernel_rfl) ?_
 conv=>zeta
 have g:(decide (x.want.a0=0)&&(decide (x.want.a1=0)&&(decide (x.want.a2=0)&&(decide (x.want.a3=0)&&(decide (x.want.a4=0)&&decide (x.want.a5=0))))))=decide (x.want=fZ.zero):=by
  simp_all[aly,fZ.zero]
 simp only[Bool.and_true,g];simp only[vcs]
 refine⟨λh=>by simp_all[X0],λh=>?_⟩
 have f:SS p.classes.length x=0:=Ψ.1 h
 have j:=alE f
 grind[X0]
def L5:List fN:=apa::apc::L4
theorem hL5:∀c∈L5,Holds Tryz.prog c:=by
 grind[L5,h118,h119,hL4]
def Off.key (o:Off):acp:=⟨o.jV,o.want⟩
def Sm (p:dd) (a:List acp):List Off->Int
 |[]=>0
 |o::r=>if X0 p o≠0 then X0 p o else if o.key∈a then 7 else Sm p (a++[o.key]) r
def fO (p:dd):Int:=if KD p≠0 then KD p else Sm p [] p.offers
def r79:fN:=⟨33,dd,.one qa,λp=>True,λp=> .si .i64 (fO p)⟩
def aCK (p:dd):Nat->jY
 |7=> .inv Int (λi=>⟨[(3,.ptr 1 0 20),(5,.mp 2),(19,.row .off p.offers),(20,.si .i64 p.offers.length),(21,.si .i64 i)],
   [.cells p.ss 27 20 false,.cells p.ss 98 20 false,.map .key .b true ((p.offers.take i.toNat).map λo=>(o.key,true)) ([0,0,0,0,0,0,0],true) true]⟩) (λs=>iS s 21)
  (λi=>0<=i/\i<=p.offers.length/\Sm p [] p.offers=Sm p ((p.offers.take i.toNat).map Off.key) (p.offers.drop i.toNat)) (λi=>(p.offers.length - i).toNat) λ_ _=> .look
 |_=> .look
theorem ae4 {a:Type} {l:List a} {i:Int} {d:a} (b:0<=i) (h:i<l.length):l.drop i.toNat=bC l i.toNat d::l.drop (i+1).toNat:=by
 rw[show(i+1).toNat=i.toNat+1 from by omega,my (by omega),List.drop_eq_getElem_cons (by omega)]
theorem alF (k:acp):∀(l:List Off),(abp .key .b k (l.map λo=>(o.key,true))).getD false=decide (k∈l.map Off.key)
 |[]=>by simp[abp]
 |o::l=>by
  have:=alF k l
  grind[abp]
theorem aCL {b sv:cn} {c:Bool} {es a:List (b.T×sv.T)} {d:List Nat×Bool} {pu:Bool} (h:es=a):(cJ.map b sv c es d pu).same (.map b sv c a d pu):=by rw[h];rfl
theorem aCM {k:acp} {l:List Off} (h:k∉l.map Off.key):aeb .key .b k true (l.map λo=>(o.key,true))=(l.map λo=>(o.key,true))++[(k,true)]:=
 aoD λp a=>by
  grind
theorem h79:Holds Tryz.prog r79:=by
 refine kh (L:=L5) r79 aCK hL5 ?_
 intro p _
 refine gp (let d:=γa .i64;let h:=(0:Int);let g:=Ξ cn.off p.offers;let K:=decide (KD p≠h);let y:=d (fO p);let A:=γ5 1 0 20;let J:=(↑p.offers.length:Int);let f:=(↑p.offers.length:Int);let B:=d f;let I:=γu .i64 0;let C:=([0,0,0,0,0,0,0],true);let v:=cJ.map cn.key cn.b true [] C true;let c:=Sm p [] p.offers;let G:=cn.off.dflt;let z:=λ(u:Nat) ↦let r:=cJ.cells [d p.supply.a0,d p.supply.a1,d p.supply.a2,d p.supply.a3,d p.supply.a4,d p.supply.a5,d p.opn.a0,d p.opn.a1,d p.opn.a2,d p.opn.a3,d p.opn.a4,d p.opn.a5,d p.cls.a0,d p.cls.a1,d p.cls.a2,d p.cls.a3,d p.cls.a4,d p.cls.a5,Ξ (cn.i .i64) p.classes,g] u 20 false;r.same r;True/\(K=true->(d (KD p)).same y)/\(K=false->(((A.same A/\(SV.mp 2).same (SV.mp 2)/\g.same g/\(d J).same B/\I.same (d 0)/\True)/\z 27/\z 98/\v.same v/\True)/\h<=h/\h<=f/\c=c)/\∀(x:Int),let m:=ω x.toNat p.offers;let e:=bC p.offers x.toNat G;let w:=decide (X0 p e≠h);let l:=acp.mk e.jV e.want;let s:=γg (λ(o:Off) ↦(o.key,true)) m;let q:=(abp cn.key cn.b l s).getD false;let a:=x+(1:Int);let k:=d a;let n:=ω a.toNat p.offers;h<=x/\x<=f/\c=Sm p (γg Off.key m) (γ1 x.toNat p.offers)->(decide (x<f)=true->h<=x/\x<J/\x.toNat<p.offers.length/\p.classes.length<=8/\(w=true->(d (X0 p e)).same y)/\(w=false->(q=true->(γu .i64 7).same y)/\(q=false->ie .i64 a/\((A.same A/\(SV.mp 2).same (SV.mp 2)/\g.same g/\B.same B/\k.same k/\True)/\z 27/\z 98/\(cJ.map cn.key cn.b true (aeb cn.key cn.b l true s) C true).same (cJ.map cn.key cn.b true (γg (λ(o:Off) ↦(o.key,true)) n) C true)/\True)/\(h<=a/\a<=f/\c=Sm p (γg Off.key n) (γ1 a.toNat p.offers))/\(f - a).toNat<(f - x).toNat)))/\(decide (x<f)=false->I.same y))) (by kernel_rfl) ?_
 simp only[vcs]
 refine⟨λh=>by simp[fO,h],λh=>?_⟩
 have M:KD p=0:=Ψ.1 h
 obtain⟨S,V,P,U,R⟩:=alD M
 refine⟨⟨by omega,by omega⟩,?_⟩
 rintro i ⟨D,O,t⟩
 refine⟨λF=>?_,λQ=>?_⟩
 ·rw[ae4 (d:=cn.off.dflt) D F] at t
  generalize T:bC p.offers i.toNat cn.off.dflt=x at t ⊢
  refine⟨by omega,by omega,by omega,P,λH=>?_,λH=>?_⟩
  ·simp_all[Sm,fO]
  ·simp only[Sm,if_neg H] at t
   have N:(⟨x.jV,x.want⟩:acp)=x.key:=rfl
   simp only[N]
   refine⟨λE=>?_,λE=>⟨by omega,?_,⟨by omega,by omega,?_⟩,by omega⟩⟩
   ·have j:=of_decide_eq_true ((alF _ _).symm.trans E)
    simp_all[fO]
   ·grind[alF,aCL,aCM,Xx]
   ·have j:=of_decide_eq_false ((alF _ _).symm.trans E)
    rw[if_neg j] at t
    grind[Xx]
 ·rw[show i.toNat=p.offers.length from by omega,δV] at t
  grind[Sm,fO]
def uv (l:List Off) (a:Int):List Int->Option (List Off)
 |[]=>some []
 |i::r=>if i<=a\/l.length<=i then none else(uv l i r).map (bC l i.toNat cn.off.dflt::·)
def EH (p:dd) (c:List Int):Bool:=(uv p.offers (-1) c).isSome
def oC (p:dd) (c:List Int):List Off:=(uv p.offers (-1) c).getD []
def alG:fN:=⟨74,dd×List Int,.cons qa (.one (mA (.i .i64))),λa=>a.2.length<=9223372036854775807/\a.1.offers.length<=1000,λa=> .eW [.row .off (oC a.1 a.2),.sb (EH a.1 a.2)]⟩
def aCN (a:dd×List Int):Nat->jY
 |4=> .inv (Int×Int×List Off) (λx=>⟨[(2,.ptr 0 0 20),(6,.ow 1 x.2.2.length 8),(7,.si .i64 x.2.1),(10,.row (.i .i64) a.2),(11,.si .i64 a.2.length),(12,.si .i64 x.1)],
   [.cells a.1.ss 27 20 false,.row .off x.2.2 58 true]⟩) (λs=>(iS s 12,iS s 7,oS .off s 1))
  (λx=>0<=x.1/\x.1<=a.2.length/\(x.2.2.length<=x.2.1+1/\x.2.1<1000)/\ -1<=x.2.1/\uv a.1.offers (-1) a.2=(uv a.1.offers x.2.1 (a.2.drop x.1.toNat)).map (x.2.2++·)) (λx=>(a.2.length - x.1).toNat) λ_ _=> .look
 |_=> .look
theorem h133:Holds Tryz.prog alG:=by
 refine kh (L:=L5) alG aCN hL5 ?_
 rintro⟨p,c⟩ ⟨I,o⟩
 have I:c.length<=9223372036854775807:=I
 have o:p.offers.length<=1000:=o
 refine gp (let d:=γa .i64;let h:=(0:Int);let j:=(-1:Int);let l:=Ξ;let n:=(1000:Int);let o:=δe false;let y:=SV.eW;let A:=(1:Int);let u:=γ5 0 0 20;let E:=γQ 1 0 8;let g:=cn.i .i64;let f:=(↑c.length:Int);let z:=d f;let v:=cJ.cells [d p.supply.a0,d p.supply.a1,d p.supply.a2,d p.supply.a3,d p.supply.a4,d p.supply.a5,d p.opn.a0,d p.opn.a1,d p.opn.a2,d p.opn.a3,d p.opn.a4,d p.opn.a5,d p.cls.a0,d p.cls.a1,d p.cls.a2,d p.cls.a3,d p.cls.a4,d p.cls.a5,l g p.classes,l cn.off p.offers] 27 20 false;let G:=cJ.row cn.off [] 58 true;let t:=uv p.offers j c;let D:=y [l cn.off (oC p c),γv (EH p c)];let B:=(↑p.offers.length:Int);(((u.same u/\E.same E/\(γu .i64 j).same (d j)/\(l g c).same (l g c)/\(d (↑c.length:Int)).same z/\(γu .i64 0).same (d 0)/\True)/\v.same v/\G.same G/\True)/\h<=h/\h<=f/\(h<=h/\j<n)/\j<=j/\t=ζo (λx ↦(h,j,[]).snd.snd++x) t)/\∀(x:Int×Int×List Off),let a:=bC c x.fst.toNat h;let m:=decide (a<=x.snd.fst);let k:=x.snd.snd.length+1;let b:=x.fst+A;let e:=x.snd.snd++[bC p.offers a.toNat cn.off.dflt];let r:=d a;let s:=d b;let q:=cJ.row cn.off e 58 true;h<=x.fst/\x.fst<=f/\((↑x.snd.snd.length:Int)<=x.snd.fst+A/\x.snd.fst<n)/\j<=x.snd.fst/\t=ζo (λw ↦x.snd.snd++w) (uv p.offers x.snd.fst (γ1 x.fst.toNat c))->(decide (x.fst<f)=true->h<=x.fst/\x.fst<(↑c.length:Int)/\x.fst.toNat<c.length/\(m=true->(y [l g [],o]).same D)/\(m=false->(decide (B<=a)=true->(y [l g [],o]).same D)/\(decide (B<=a)=false->h<=a/\a<B/\a.toNat<p.offers.length/\x.snd.snd.length=x.snd.snd.length/\k*64<=140737488355328/\k<=1000000000000/\ie .i64 b/\((u.same u/\(γQ 1 e.length 8).same (γQ 1 e.length 8)/\r.same r/\(l g c).same (l g c)/\z.same z/\s.same s/\True)/\v.same v/\q.same q/\True)/\(h<=b/\b<=f/\((↑e.length:Int)<=a+A/\a<n)/\j<=a/\t=ζo (λx ↦(b,a,e).snd.snd++x) (uv p.offers a (γ1 b.toNat c)))/\(f - b).toNat<(f - x.fst).toNat)))/\(decide (x.fst<f)=false->x.snd.snd.length=x.snd.snd.length/\(y [l cn.off x.snd.snd,δe true]).same D)) (by kernel_rfl) ?_
 simp only[vcs]
 have H:∀{l:List Off},l=[]->(Ξ (.i .i64) []).same (Ξ .off l):=by rintro l rfl;exact ao5.2 trivial
 refine⟨⟨by omega,by omega,by omega,by simp⟩,?_⟩
 rintro⟨i,F,N⟩ ⟨n,y,j,C,h⟩
 simp only at n y j C h ⊢
 refine⟨λA=>?_,λM=>?_⟩
 ·rw[ae4 (d:=0) n A] at h
  generalize O:bC c i.toNat 0=x at h ⊢
  simp only[uv] at h
  refine⟨by omega,by omega,by omega,λJ=>?_,λJ=>⟨λK=>?_,λK=>?_⟩⟩
  ·simp_all[oC,EH]
  ·simp_all[oC,EH]
  ·rw[if_neg (by omega)] at h
   simp only[List.length_append,List.length_singleton]
   refine⟨by omega,by omega,by omega,by omega,by omega,by omega,⟨by omega,by omega,by omega,by omega,?_⟩,by omega⟩
   rw[h,ζe]
   congr 1
   grind
 ·rw[show i.toNat=c.length from by omega,δV] at h
  grind[uv,oC,EH]
def L6:List fN:=r79::alG::L5
theorem hL6:∀c∈L6,Holds Tryz.prog c:=by
 grind[L6,h79,h133,hL5]
def lj (p:dd) (c:List Int):Int:=if fO p≠0 then fO p else if EH p c=false then 4 else if By p (oC p c)=false then 14 else 0
def alH:fN:=⟨43,dd×List Int,.cons qa (.one (mA (.i .i64))),λa=>a.2.length<=9223372036854775807,λa=> .si .i64 (lj a.1 a.2)⟩
theorem ava {p:dd}:∀{l:List Off} {a:List acp},Sm p a l=0->∀x∈l,X0 p x=0
 |[],_,_=>by simp
 |o::r,a,h=>by
  simp only[Sm] at h;split at h
  ·omega
  ·rename_i c
   split at h
   ·cases h
   ·intro x b
    rcases γX.1 b with rfl|b
    ·omega
    ·exact ava h x b
theorem alI {p:dd} (h:fO p=0):KD p=0/\∀x∈p.offers,X0 p x=0:=by
 unfold fO at h;split at h
 ·omega
 ·rename_i a;exact⟨Ψ.1 a,ava h⟩
theorem alJ {p:dd} {o:Off} (h:X0 p o=0):SS p.classes.length o=0/\o.want≠fZ.zero/\By p [o]=true:=by
 unfold X0 at h
 grind
theorem ajh {l:List Off}:∀{c:List Int} {a:Int} {r:List Off}, -1<=a->uv l a c=some r->r.length+a+1<=l.length\/r=[]
 |[],a,r,_,h=>by grind[uv]
 |i::c,a,r,d,h=>by
  simp only[uv] at h;split at h
  ·cases h
  ·rename_i e
   obtain⟨f,b,rfl⟩:=ε.1 h
   have:=ajh (by omega) b
   grind
theorem alK {l:List Off}:∀{c:List Int} {a:Int} {r:List Off}, -1<=a->uv l a c=some r->∀x∈r,x∈l
 |[],a,r,_,h=>by grind[uv]
 |i::c,a,r,f,h=>by
  simp only[uv] at h;split at h
  ·cases h
  ·rename_i e
   obtain⟨g,d,rfl⟩:=ε.1 h
   intro x b
   rcases γX.1 b with rfl|b
   ·grind[pz]
   ·exact alK (by omega) d x b
theorem h100:Holds Tryz.prog alH:=by
 refine kh (L:=L6) alH (λp=>λ_=> .look) hL6 ?_
 rintro⟨p,c⟩ (n:c.length<=9223372036854775807)
 refine gp (let a:=γu .i64;let e:=decide (fO p≠(0:Int));let d:=γa .i64 (lj p c);let f:=!By p (oC p c);True/\(e=true->(γa .i64 (fO p)).same d)/\(e=false->(c.length<=9223372036854775807/\p.offers.length<=1000)/\((!EH p c)=true->(a 4).same d)/\((!EH p c)=false->(p.classes.length<=8/\(oC p c).length<=1000/\∀(x:Off),x∈oC p c->(0:Int)<=x.jV/\x.jV<(↑p.classes.length:Int)/\x.want.ok=true)/\(f=true->(a 14).same d)/\(f=false->(a 0).same d)))) (by kernel_rfl) ?_
 simp only[vcs]
 refine⟨λh=>by simp[lj,h],λh=>?_⟩
 have g:fO p=0:=Ψ.1 h
 obtain⟨m,j⟩:=alI g
 obtain⟨s,o,l,q,t⟩:=alD m
 refine⟨⟨n,by omega⟩,λa=>by grind[lj],λa=>⟨⟨l,?_,?_⟩,λk=>by grind[lj],λk=>by grind[lj]⟩⟩
 ·unfold EH at a
  obtain⟨r,b⟩:=γp.1 a
  have:=ajh (by omega) b
  grind[oC]
 ·unfold EH at a
  obtain⟨r,b⟩:=γp.1 a
  simp only[oC,b,γA];intro x i
  have u:=alE (alJ (j x (alK (by omega) b x i))).1
  simp_all
def fZ.le (a b:fZ):Bool:=decide (a.a0<=b.a0)&&decide (a.a1<=b.a1)&&decide (a.a2<=b.a2)&&decide (a.a3<=b.a3)&&decide (a.a4<=b.a4)&&decide (a.a5<=b.a5)
theorem fZ.le_iff {a b:fZ}:a.le b=true↔a.a0<=b.a0/\a.a1<=b.a1/\a.a2<=b.a2/\a.a3<=b.a3/\a.a4<=b.a4/\a.a5<=b.a5:=by
 simp[fZ.le,and_assoc]
structure L8 where
 (l0 l1 l2 l3 l4 l5 l6 l7:List Off)
structure Sol where
 p:dd
 ls:L8
 es:List (Sit×Int)
def Sol.o (s:Sol):jr:=
 [.cells [.si .i64 s.p.supply.a0,.si .i64 s.p.supply.a1,.si .i64 s.p.supply.a2,.si .i64 s.p.supply.a3,.si .i64 s.p.supply.a4,.si .i64 s.p.supply.a5,
  .si .i64 s.p.opn.a0,.si .i64 s.p.opn.a1,.si .i64 s.p.opn.a2,.si .i64 s.p.opn.a3,.si .i64 s.p.opn.a4,.si .i64 s.p.opn.a5,
  .si .i64 s.p.cls.a0,.si .i64 s.p.cls.a1,.si .i64 s.p.cls.a2,.si .i64 s.p.cls.a3,.si .i64 s.p.cls.a4,.si .i64 s.p.cls.a5,
  .row (.i .i64) s.p.classes,.row .off s.p.offers,.row .off s.ls.l0,.row .off s.ls.l1,.row .off s.ls.l2,.row .off s.ls.l3,.row .off s.ls.l4,.row .off s.ls.l5,.row .off s.ls.l6,.row .off s.ls.l7,.mp 1] 99999 29 false,
  .map .sit (.i .i64) true s.es ([0,0,0,0,0,0,0,0,0,0,0,0,0],true) true]
def oc (c w a j k:Int):Int:=if j<k/\(c=0\/c=a) then 0 else w
def Xy (p:dd) (x:Off):Int:=bC p.classes x.jV.toNat 0
def apd (p:dd) (x:Off) (k:Int):fZ:=⟨oc p.cls.a0 x.want.a0 (Xy p x) 0 k,oc p.cls.a1 x.want.a1 (Xy p x) 1 k,oc p.cls.a2 x.want.a2 (Xy p x) 2 k,oc p.cls.a3 x.want.a3 (Xy p x) 3 k,oc p.cls.a4 x.want.a4 (Xy p x) 4 k,oc p.cls.a5 x.want.a5 (Xy p x) 5 k⟩
def Ie (p:dd) (x:Off):fZ:=apd p x 6
def Sit.b (a:Sit):Prop:=a.left.ok=true/\a.opn.ok=true
end Go.Vi
namespace Go.Proofs.YtgejbpobaicgfaaGreat
open Go.ChangeShapes Go.WideShapes Go.ChangeAt Go.RowKit Go.Vi
theorem Tryz.own:ownKnob Tryz.prog.godebug=none:=by kernel_rfl
theorem Tryz.laidOut:laidOutB Tryz.prog=true:=by kernel_rfl
theorem alL:Reads Tryz.prog 3 (.i .i64):=aCo Tryz.underlying3
theorem avd:Reads Tryz.prog 23 .zx:=aCs Tryz.underlying23 Tryz.underlying3 (by kernel_rfl) (by kernel_rfl)
theorem aCO:Reads Tryz.prog 58 .off:=aCt Tryz.underlying58 (by kernel_rfl) rfl rfl rfl Tryz.underlying3 (by kernel_rfl) Tryz.underlying2 (by kernel_rfl) avd (by kernel_rfl) rfl
theorem aji {H:Type} {enc:TypeId×Value->H} {w:World} {a:Nat->Bool} {c:Bool} {b:Nat} {cs:List Value} {x:DataW H×List MemPlace} (h:DataW.trod enc Tryz.prog w 0 a c b 27 cs=some x):
  ∃p:dd,ei Sl w [] [] (gL p.ss) cs:=
 aCu Tryz.underlying27 (by kernel_rfl) rfl rfl rfl rfl rfl rfl avd (by kernel_rfl) Tryz.underlying24 alL (by kernel_rfl) (by kernel_rfl) Tryz.underlying25 aCO (by kernel_rfl) (by kernel_rfl) h
theorem ajj {f:FuncId} {args:List SV} (h:W7 Tryz.prog f (gL args) [] (γv true).g []) {W:World} {vs:List Value} (d:ei Sl W [] [] (gL args) vs):
  Calls Tryz.prog f vs.toArray W λe c=>e= .returned (.bool true)/\Below W.heap.size W c:=by
 refine(h Sl W [] vs (akV W (λb a=>a.elim)) d).mono ?_
 grind[γE,df,aCv]
theorem alM {W:World} (n:Int):df Sl W [] [] ((sx .i64).put n).g (.int .i64 n):=by
 simp[sx,γE,df,Value.oneCell']
end Go.Proofs.YtgejbpobaicgfaaGreat
namespace Go.Vi
open Go.ChangeShapes Go.WideShapes Go.RowKit
def ape (P:Program) (t:TypeId) (s:cn) (Q:s.T->Prop):Prop:=
 ∀(H:Type) (d:TypeId×Value->H) (w:World) (a:Nat->Bool) (c:Bool) (b:Nat) (e:List Value) (x:DataW H×List MemPlace),DataW.trod d P w 0 a c b t e=some x->∃y:s.T,Q y/\ei Sl w [] [] (qq s y) e
theorem alv.q {P:Program} {t:TypeId} {s:cn} (h:alv P t s):ape P t s λ_=>True:=λH d w a c b e x f=>by
 obtain⟨y,g⟩:=h H d w a c b e x f
 grind
theorem ave {P:Program} {t:TypeId} {k:IntKind} (a:P.underlying t=some (.int k)):ape P t (.i k) λn=>k.min<=(show Int from n)/\(show Int from n)<=k.max:=λ_ _ _ _ _ _ c _ h=>by
 obtain⟨n,rfl,_,b⟩:=DataW.trod_int a h
 simp_all[Lit.wf,qq,pF,ei,df,Value.oneCell']
theorem avf {P:Program} {t e:TypeId} {s:cn} {Q:s.T->Prop} (C:P.underlying t=some (.slice e)) (r:ape P e s Q) (F:P.cellsOf e=s.sz)
  {H:Type} {enc:TypeId×Value->H} {w:World} {c:Nat->Bool} {j:Bool} {d:Nat} {cs:List Value} {x:DataW H×List MemPlace} (h:DataW.trod enc P w 0 c j d t cs=some x):
  ∃(v:Value) (l:List s.T),cs=[v]/\l.length<=9223372036854775807/\(∀y∈l,Q y)/\df Sl w [] [] (Ξ s l).g v:=by
 rcases ζN C h with⟨rfl,_⟩|⟨a,b,k,m,n,D,M,rfl,G,A,N,o,_,p⟩
 ·exact⟨_,[],rfl,by simp,by simp,by grind[γE,df,kD,ql,pd]⟩
 ·have u:b<=m:=by grind
  have B:∀i,i<b->∃y:s.T,∃cs,Q y/\w.cells? 0 (a.add (i*s.sz)) s.sz=some cs/\ei Sl w [] [] (qq s y) cs:=λi J=>by
   obtain⟨q,K,E⟩:=p i (by omega)
   obtain⟨y,L,z⟩:=r _ _ _ _ _ _ _ _ E
   grind
  obtain⟨f,I⟩:=ζQ B
  refine⟨_,(Φ b).map f,rfl,?_,?_,?_⟩
  ·grind[maxLen]
  ·simp_all
  simp only[γE,df,γs,εO]
  refine⟨some a,k,rfl,A,acs _ _,?_⟩
  have:=ao3 (w:=w) (a:=a) (s:=s) (l:=(Φ b).map f) (i0:=0) (λi y z=>by
   grind)
  simp_all
theorem aCP {P:Program} {t k v:TypeId} {fs:Array Field} (J:P.underlying t=some (.struct fs)) (F:P.cellsOf t=2) (I:fs.size=2)
  (R:(fs[0]?).map (λf=>(f.type,f.offset))=some (k,0)) (B:(fs[1]?).map (λf=>(f.type,f.offset))=some (v,1))
  {e:TypeId} (C:P.underlying k=some (.slice e)) (n:P.underlying e=some (.int .i64)) (p:P.cellsOf e=1) (o:P.cellsOf k=1) (D:P.underlying v=some (.int .i64)) (q:P.cellsOf v=1)
  {H:Type} {enc:TypeId×Value->H} {w:World} {b:Nat->Bool} {c:Bool} {d:Nat} {cs:List Value} {x:DataW H×List MemPlace} (h:DataW.trod enc P w 0 b c d t cs=some x):
  ∃a:Alloc,a.chosen.length<=9223372036854775807/\ei Sl w [] [] (gL [.row (.i .i64) a.chosen,.si .i64 a.value]) cs:=by
 obtain⟨U,m,_,_,s,Q,u⟩:=DataW.trod_struct J h
 rw[F] at s
 obtain⟨M,N,j⟩:=ε.1 R
 obtain⟨E,L,l⟩:=ε.1 B
 simp only[κ] at j l
 have A:=u 0 M N
 have y:=u 1 E L
 rw[j.1,j.2,o,ι (by omega)] at A
 rw[l.1,l.2,q,ι (by omega)] at y
 obtain⟨W,K,z,G,_,S⟩:=avf C (ave n) p A
 obtain⟨O,r,_⟩:=DataW.trod_int D y
 match cs,s with
 |[T,V],_=>
  simp at z r
  subst z;subst r
  refine⟨⟨K,O⟩,G,?_⟩
  grind[gL,ei,γE,df,Value.oneCell']
end Go.Vi
namespace Go.Proofs.YtgejbpobaicgfaaGreat
open Go.ChangeShapes Go.WideShapes Go.ChangeAt Go.RowKit Go.Vi
theorem aCQ {H:Type} {enc:TypeId×Value->H} {w:World} {spare:Nat->Bool} {held:Bool} {fuel:Nat} {cs:List Value} {x:DataW H×List MemPlace} (h:DataW.trod enc Tryz.prog w 0 spare held fuel 37 cs=some x):
  ∃a:Alloc,a.chosen.length<=9223372036854775807/\ei Sl w [] [] (gL [.row (.i .i64) a.chosen,.si .i64 a.value]) cs:=
 aCP Tryz.underlying37 (by kernel_rfl) rfl rfl rfl Tryz.underlying24 Tryz.underlying3 (by kernel_rfl) (by kernel_rfl) Tryz.underlying2 (by kernel_rfl) h
end Go.Proofs.YtgejbpobaicgfaaGreat
namespace Go.Proofs.YtgejbpobaicgfaaGreat
open Go.ChangeShapes Go.WideShapes Go.ChangeAt Go.RowKit Go.Vi
theorem apf {H:Type} {enc:TypeId×Value->H} {w:World} {a:Nat->Bool} {c:Bool} {b:Nat} {cs:List Value} {x:DataW H×List MemPlace} (h:DataW.trod enc Tryz.prog w 0 a c b 24 cs=some x):
  ∃(v:Value) (l:List Int),cs=[v]/\l.length<=9223372036854775807/\df Sl w [] [] (Ξ (.i .i64) l).g v:=by
 obtain⟨v,l,f,e,_,d⟩:=avf Tryz.underlying24 (ave Tryz.underlying3) (by kernel_rfl) h
 grind
theorem aCR {H:Type} {enc:TypeId×Value->H} {w:World} {spare:Nat->Bool} {held:Bool} {fuel:Nat} {cs:List Value} {x:DataW H×List MemPlace} (h:DataW.trod enc Tryz.prog w 0 spare held fuel 2 cs=some x):
  ∃n:Int,(-9223372036854775808<=n/\n<=9223372036854775807)/\cs=[.int .i64 n]:=by
 obtain⟨n,rfl,_,hw⟩:=DataW.trod_int Tryz.underlying2 h
 simp only[Lit.wf,μ,decide_eq_true_eq] at hw
 exact⟨n,hw,rfl⟩
end Go.Proofs.YtgejbpobaicgfaaGreat
namespace Go.Vi
open Go.Proofs.YtgejbpobaicgfaaGreat.Ir
open Go.Proofs
def Good (p:dd):Prop:=p.classes.length<=8/\p.offers.length<=160/\p.supply.ok=true/\p.opn.ok=true/\∀x∈p.offers,0<=x.jV/\x.jV<p.classes.length/\x.want.ok=true/\1<=x.value/\x.value<=1000000
theorem uw {p:dd} (h:fO p=0):Good p:=by
 obtain⟨e,k⟩:=alI h
 obtain⟨b,a,m,g,q⟩:=alD e
 refine⟨m,g,b,?_,λx o=>?_⟩
 ·have d:=fZ.aaZ.1 b
  have f:=adF.1 (a 0 (by omega))
  have c:=adF.1 (a 1 (by omega))
  have i:=adF.1 (a 2 (by omega))
  have l:=adF.1 (a 3 (by omega))
  have n:=adF.1 (a 4 (by omega))
  have j:=adF.1 (a 5 (by omega))
  simp[bC] at f c i l n j
  grind[fZ.aaZ]
 ·have d:=alE (alJ (k x o)).1
  simp_all
def apg (p:dd) (s:Int) (i:Int):Int:=s+(bC p.offers i.toNat cn.off.dflt).value
def aph (p:dd) (c:List Int):Int:=c.foldl (apg p) 0
theorem avg {l:List Off}:∀{c:List Int} {a:Int} {r:List Off}, -1<=a->uv l a c=some r->r.length=c.length/\∀i∈c,0<=i/\i<l.length
 |[],a,r,_,h=>by grind[uv]
 |i::c,a,r,e,h=>by
  simp only[uv] at h;split at h
  ·cases h
  ·rename_i d
   obtain⟨f,b,rfl⟩:=ε.1 h
   obtain⟨g,j⟩:=avg (by omega) b
   grind
def aaB (p:dd) (n:Int):Bool:=decide ((p.offers.length:Int)<=n)&&decide ((p.classes.length:Int)<=8)
def r59:fN:=⟨14,dd×Int,.cons qa (.one (sx .i64)),λ_=>True,λa=> .sb (aaB a.1 a.2)⟩
theorem h59:Holds Tryz.prog r59:=by
 refine kh (L:=[]) r59 lk (by simp) ?_
 rintro⟨p,n⟩ _
 refine gp (let a:=decide ((↑p.offers.length:Int)<=n);(a=true->(γv (decide ((↑p.classes.length:Int)<=(8:Int)))).same (γv (aaB p n)))/\(a=false->(δe false).same (γv (aaB p n)))) (by kernel_rfl) ?_
 simp only[vcs,aaB]
 grind
def three:dd:=⟨⟨1,1,0,0,0,0⟩,⟨1,1,0,0,0,0⟩,fZ.zero,[0,0,0],[⟨0,⟨1,1,0,0,0,0⟩,10⟩,⟨1,⟨1,0,0,0,0,0⟩,6⟩,⟨2,⟨0,1,0,0,0,0⟩,6⟩]⟩
def r60:fN:=⟨42,Unit,.nil,λ_=>True,λ_=>qa.put three⟩
theorem h60:Holds Tryz.prog r60:=by
 refine kh (L:=[]) r60 lk (by simp) ?_
 intro _ _
 refine gp (let d:=γa .i64;let e:=(0:Int);let f:=(1:Int);let g:=Ξ;let c:=γu .i64 1;let a:=γu .i64 0;let b:=three.supply;(SV.agg [c,c,a,a,a,a,c,c,a,a,a,a,a,a,a,a,a,a,g (cn.i .i64) [e,e,e],g cn.off [Off.mk e (fZ.mk f f e e e e) (10:Int),Off.mk f (fZ.mk f e e e e e) (6:Int),Off.mk (2:Int) (fZ.mk e f e e e e) (6:Int)]]).same (SV.agg [d b.a0,d b.a1,d b.a2,d b.a3,d b.a4,d b.a5,d three.opn.a0,d three.opn.a1,d three.opn.a2,d three.opn.a3,d three.opn.a4,d three.opn.a5,d three.cls.a0,d three.cls.a1,d three.cls.a2,d three.cls.a3,d three.cls.a4,d three.cls.a5,g (cn.i .i64) three.classes,g cn.off three.offers])) (by kernel_rfl) ?_
 conv=>zeta
 rfl
def r68:fN:=⟨38,fZ,.one (Ac .zx),λ_=>True,λb=> .sb b.ok⟩
theorem h68:Holds Tryz.prog r68:=by
 refine kh (L:=[]) r68 (λ_ _=> .ae0 7) (by simp) ?_
 intro b _
 refine gp (let h:=δe false;let o:=γv;let p:=(0:Int);let q:=(4:Int);let i:=decide (b.a0<p);let d:=decide (q<b.a0);let k:=decide (b.a1<p);let e:=decide (q<b.a1);let l:=decide (b.a2<p);let f:=decide (q<b.a2);let j:=decide (b.a3<p);let m:=decide (q<b.a3);let n:=decide (b.a4<p);let g:=decide (q<b.a4);let a:=decide (b.a5<p);let c:=decide (q<b.a5);(i=true->(h).same (o (fZ.ok b)))/\(i=false->(d=true->(h).same (o (fZ.ok b)))/\(d=false->(k=true->(h).same (o (fZ.ok b)))/\(k=false->(e=true->(h).same (o (fZ.ok b)))/\(e=false->(l=true->(h).same (o (fZ.ok b)))/\(l=false->(f=true->(h).same (o (fZ.ok b)))/\(f=false->(j=true->(h).same (o (fZ.ok b)))/\(j=false->(m=true->(h).same (o (fZ.ok b)))/\(m=false->(n=true->(h).same (o (fZ.ok b)))/\(n=false->(g=true->(h).same (o (fZ.ok b)))/\(g=false->(a=true->(h).same (o (fZ.ok b)))/\(a=false->(c=true->(h).same (o (fZ.ok b)))/\(c=false->(δe true).same (o (fZ.ok b))))))))))))))) (by kernel_rfl) ?_
 conv=>zeta
 have o:=@fZ.aaZ b
 by_cases h:b.ok=true<;>simp_all
def abZ (p:dd) (r:Int) (o:Off):Int:=
 if r - p.classes.length<0 then(if o.jV=r then 1 else 0)
 else if r - p.classes.length<6 then bC [o.want.a0,o.want.a1,o.want.a2,o.want.a3,o.want.a4,o.want.a5] (r - p.classes.length).toNat 0
 else if bC [p.cls.a0,p.cls.a1,p.cls.a2,p.cls.a3,p.cls.a4,p.cls.a5] (r - p.classes.length - 6).toNat 0=0\/p.classes.length<=o.jV\/bC [p.cls.a0,p.cls.a1,p.cls.a2,p.cls.a3,p.cls.a4,p.cls.a5] (r - p.classes.length - 6).toNat 0=bC p.classes o.jV.toNat 0 then 0
 else bC [o.want.a0,o.want.a1,o.want.a2,o.want.a3,o.want.a4,o.want.a5] (r - p.classes.length - 6).toNat 0
theorem avh {p:dd} {r:Int} {o:Off} (h:o.jV<p.classes.length):abZ p r o=sV p r o:=by
 unfold abZ sV;omega
def alN:fN:=⟨70,dd×Int×Off,.cons qa (.cons (sx .i64) (.one (Ac .off))),λa=>a.1.classes.length<=8/\0<=a.2.1/\a.2.1<ki a.1/\0<=a.2.2.jV,
 λa=> .eW [.si .i64 (abZ a.1 a.2.1 a.2.2),.si .i64 (nn a.1 a.2.1)]⟩
theorem h110:Holds Tryz.prog alN:=by
 refine kh (L:=[]) alN (λ_ _=> .ae0 7) (by simp) ?_
 rintro⟨p,r,x⟩ ⟨D,z,B,A⟩
 simp only[ki] at D z B A
 refine gp (let h:=(0:Int);let j:=(6:Int);let v:=γa .i64;let w:=ie .i64;let y:=SV.eW;let b:=(↑p.classes.length:Int);let a:=r - b - j;let o:=γu .i64 0;let k:=y [v (abZ p r x),v (nn p r)];let q:=bC [p.cls.a0,p.cls.a1,p.cls.a2,p.cls.a3,p.cls.a4,p.cls.a5] a.toNat h;let t:=decide (x.jV=r);let e:=γu .i64 1;let g:=decide (r<b+j);let i:=decide (x.jV<b);let l:=h<=a/\a<j/\a.toNat<6/\(y [o,v (bC [p.opn.a0,p.opn.a1,p.opn.a2,p.opn.a3,p.opn.a4,p.opn.a5] a.toNat h)]).same k;let n:=λ(u f:Int) (c:fZ) ↦let d:=(u - f).toNat;h<=u - f/\u - f<j/\d<6/\(y [v (bC [x.want.a0,x.want.a1,x.want.a2,x.want.a3,x.want.a4,x.want.a5] d h),v (bC [c.a0,c.a1,c.a2,c.a3,c.a4,c.a5] d h)]).same k;let m:=λ(u:Bool) ↦decide (q≠bC p.classes x.jV.toNat h)=u;let s:=λ(u:Bool) ↦decide (q≠h)=u;(decide (r<b)=true->(t=true->(y [e,e]).same k)/\(t=false->(y [o,e]).same k))/\(decide (r<b)=false->w (b+j)/\(g=true->w (r - b)/\h<=r - b/\r - b<j/\(r - b).toNat<6/\w (r - b)/\n r b p.supply)/\(g=false->w (r - b)/\w a/\h<=a/\a<j/\a.toNat<6/\(s true->(i=true->h<=a/\a<j/\a.toNat<6/\h<=x.jV/\x.jV<b/\x.jV.toNat<p.classes.length/\(m true->h<=a/\a<j/\a.toNat<6/\n (r - b) j p.opn)/\(m false->l))/\(i=false->l))/\(s false->l)))) (by kernel_rfl) ?_
 simp only[vcs]
 have G:r - p.classes.length<0->nn p r=1:=λh=>by simp_all[nn]
 have E:¬r - p.classes.length<0->r - p.classes.length<6->nn p r=bC [p.supply.a0,p.supply.a1,p.supply.a2,p.supply.a3,p.supply.a4,p.supply.a5] (r - p.classes.length).toNat 0:=λh j=>by simp_all[nn,if_neg]
 have v:¬r - p.classes.length<0->¬r - p.classes.length<6->nn p r=bC [p.opn.a0,p.opn.a1,p.opn.a2,p.opn.a3,p.opn.a4,p.opn.a5] (r - p.classes.length - 6).toNat 0:=λh j=>by simp_all[nn,if_neg]
 have F:r - p.classes.length<0->abZ p r x=if x.jV=r then 1 else 0:=λh=>by simp_all[abZ]
 have H:¬r - p.classes.length<0->r - p.classes.length<6->abZ p r x=bC [x.want.a0,x.want.a1,x.want.a2,x.want.a3,x.want.a4,x.want.a5] (r - p.classes.length).toNat 0:=λh j=>by simp_all[abZ,if_neg]
 have y:=λ(h:¬r - p.classes.length<0) (j:¬r - p.classes.length<6)=>(show abZ p r x=_ by unfold abZ;rw[if_neg h,if_neg j])
 refine⟨λw=>?_,λw=>⟨by omega,λC=>?_,λC=>?_⟩⟩
 ·grind
 ·grind
 ·rw[v (by omega) (by omega),y (by omega) (by omega)]
  omega
def M1:List fN:=[alN,r68]
theorem hM1:∀c∈M1,Holds Tryz.prog c:=by
 simp_all[M1,h110,h68]
def r69:fN:=⟨39,dd×List Off,.cons qa (.one (mA .off)),λa=>a.1.classes.length<=8/\a.2.length<=1000/\(∀x∈a.2,0<=x.jV/\x.jV<a.1.classes.length/\x.want.ok=true),λa=> .sb (By a.1 a.2)⟩
def aCS (a:dd×List Off):Nat->jY
 |2=> .inv Int (λi=>⟨[(1,.row .off a.2),(2,.ptr 0 0 20),(5,.si .i64 i)],[.cells a.1.ss 27 20 false]⟩) (λs=>iS s 5)
  (λi=>0<=i/\i<=ki a.1/\∀r:Nat,r<i->li a.1 a.2 r<=nn a.1 r) (λi=>(ki a.1 - i).toNat)
  λi=>λ
   |6=> .inv (Int×Int) (λx=>⟨[(1,.row .off a.2),(2,.ptr 0 0 20),(5,.si .i64 i),(6,.si .i64 x.2),(7,.si .i64 x.1)],[.cells a.1.ss 27 20 false]⟩)
    (λs=>(iS s 7,iS s 6))
    (λx=>0<=x.1/\x.1<=a.2.length/\x.2=li a.1 (a.2.take x.1.toNat) i) (λx=>(a.2.length - x.1).toNat) λ_ _=> .look
   |_=> .look
 |_=> .look
theorem h69:Holds Tryz.prog r69:=by
 refine kh (L:=M1) r69 aCS hM1 ?_
 rintro⟨p,l⟩ ⟨A,G,q⟩
 simp only at A G q
 refine gp (let d:=(0:Int);let i:=γa .i64;let j:=Ξ;let o:=γu .i64 0;let q:=ie .i64;let s:=γu .i64;let b:=γ5 0 0 20;let c:=cJ.cells (dd.ss p) 27 20 false;let v:=(↑p.classes.length:Int)+(12:Int);let k:=(↑l.length:Int);((((j cn.off l).same (j cn.off l)/\b.same b/\(o).same (i 0)/\True)/\c.same c/\True)/\d<=d/\d<=ki p/\∀(r:Nat),(↑r:Int)<d->li p l (↑r:Int)<=nn p (↑r:Int))/\∀(x:Int),let f:=x+(1:Int);let E:=i f;(d<=x/\x<=ki p/\∀(r:Nat),(↑r:Int)<x->li p l (↑r:Int)<=nn p (↑r:Int))->q v/\(decide (x<v)=true->((((j cn.off l).same (j cn.off l)/\b.same b/\(i x).same (i x)/\(o).same (i 0)/\(o).same (i 0)/\True)/\c.same c/\True)/\d<=d/\d<=k/\d=li p [] x)/\∀(a:Int×Int),let D:=decide (a.fst<(↑l.length:Int));let C:=bC l a.fst.toNat cn.off.dflt;let w:=a.snd+abZ p x C;let e:=a.fst+(1:Int);let n:=i x;let h:=i w;let m:=i e;let g:=decide (nn p x<a.snd);d<=a.fst/\a.fst<=k/\a.snd=li p (ω a.fst.toNat l) x->(D=true->d<=a.fst/\a.fst<(↑l.length:Int)/\a.fst.toNat<l.length/\(p.classes.length<=8/\d<=x/\x<ki p/\d<=C.jV)/\q w/\q e/\(((j cn.off l).same (j cn.off l)/\b.same b/\n.same n/\h.same h/\m.same m/\True)/\c.same c/\True)/\(d<=e/\e<=k/\w=li p (ω e.toNat l) x)/\(k - e).toNat<(k - a.fst).toNat)/\(D=false->(p.classes.length<=8/\d<=x/\x<ki p/\d<=d)/\(g=true->(δe false).same (γv (By p l)))/\(g=false->q f/\(((j cn.off l).same (j cn.off l)/\b.same b/\E.same E/\True)/\c.same c/\True)/\(d<=f/\f<=ki p/\∀(r:Nat),(↑r:Int)<f->li p l (↑r:Int)<=nn p (↑r:Int))/\(ki p - f).toNat<(ki p - x).toNat)))/\(decide (x<v)=false->(δe true).same (γv (By p l)))) (by kernel_rfl) ?_
 simp only[vcs]
 have T:ki p=p.classes.length+12:=rfl
 have P:∀x∈l,x.want.ok=true:=λx y=>(q x y).2.2
 refine⟨⟨by omega,by omega,λr J=>by omega⟩,?_⟩
 rintro i ⟨H,F,S⟩
 refine⟨by omega,λN=>⟨⟨by omega,by omega,by simp[li]⟩,?_⟩,?_⟩
 ·rintro⟨j,s⟩ ⟨u,o,B⟩
  simp only at u o B ⊢
  have Q:=@aeg p i (l.take j.toNat) λx y=>P x (γi y)
  have z:(l.take j.toNat).length<=l.length:=by simp;omega
  refine⟨λt=>?_,λt=>?_⟩
  ·have O:=q _ (pz (d:=cn.off.dflt) (show j.toNat<l.length by omega))
   have R:=@acA p i _ O.2.2
   grind[ao8,avh]
  ·have:j.toNat=l.length:=by omega
   rw[this,τ] at B
   refine⟨⟨A,by omega,by omega,by omega⟩,λK=>?_,λM=>⟨by omega,⟨by omega,by omega,λr J=>?_⟩,by omega⟩⟩
   ·symm
    rw[εo];intro I
    have:=abY.1 I i.toNat (by omega)
    grind
   grind
 grind[abY]
def r24:fN:=⟨12,dd,.one qa,λp=>True,λp=> .si .i64 (fO p)⟩
def aCT (p:dd):Nat->jY
 |11=> .inv Int (λk=>⟨[(1,.ptr 0 0 20),(4,.si .i64 k)],[.cells p.ss 27 20 false]⟩) (λs=>iS s 4) (λk=>0<=k/\k<=p.classes.length/\∀c∈p.classes.take k.toNat,0<=c/\c<=4) (λk=>(p.classes.length - k).toNat) λ_ _=> .look
 |16=> .inv Int (λi=>⟨[(1,.ptr 0 0 20),(5,.si .i64 i)],[.cells p.ss 27 20 false]⟩) (λs=>iS s 5)
  (λi=>0<=i/\i<=p.offers.length/\Sm p [] p.offers=Sm p ((p.offers.take i.toNat).map Off.key) (p.offers.drop i.toNat)) (λi=>(p.offers.length - i).toNat)
  λi=>λ
   |26=> .inv Int (λk=>⟨[(1,.ptr 0 0 20),(5,.si .i64 i),(6,.ptr 1 0 8),(7,.si .i64 k)],[.cells p.ss 27 20 false,.cells (encS .off (bC p.offers i.toNat cn.off.dflt)) 58 8 false]⟩) (λs=>iS s 7)
    (λk=>0<=k/\k<=i/\∀j:Nat,j<k->(bC p.offers j cn.off.dflt).key≠(bC p.offers i.toNat cn.off.dflt).key) (λk=>(i - k).toNat) λ_ _=> .look
   |_=> .look
 |4=> .inv Int (λk=>⟨[(1,.ptr 0 0 20),(3,.si .i64 k)],[.cells p.ss 27 20 false]⟩) (λs=>iS s 3) (λk=>0<=k/\k<=6/\∀j:Nat,j<k->H6 p j) (λk=>(6 - k).toNat) λ_ _=> .look
 |_=> .look
theorem aCU {b:fZ}:(decide (b.a0=0)&&(decide (b.a1=0)&&(decide (b.a2=0)&&(decide (b.a3=0)&&(decide (b.a4=0)&&(decide (b.a5=0)&&true))))))=decide (b=fZ.zero):=by
 simp_all[aly,fZ.zero]
theorem aCV {b c:fZ}:(decide (b.a0=c.a0)&&(decide (b.a1=c.a1)&&(decide (b.a2=c.a2)&&(decide (b.a3=c.a3)&&(decide (b.a4=c.a4)&&(decide (b.a5=c.a5)&&true))))))=decide (b=c):=by
 grind[aly]
theorem avi {a:Type} {l:List a} {i:Int} {d x:a} (b:i<=l.length) (h:x∈l.take i.toNat):∃j:Nat,(j:Int)<i/\bC l j d=x:=by
 obtain⟨j,c,rfl⟩:=List.mem_iff_getElem.1 h
 grind[my]
theorem h24:Holds Tryz.prog r24:=by
 refine kh (L:=r69::M1) r24 aCT (by grind[h69,hM1]) ?_
 intro p _
 refine gp (let d:=(0:Int);let e:=γa .i64;let h:=γu .i64;let i:=(6:Int);let k:=(1:Int);let l:=(4:Int);let o:=ie .i64;let g:=e (fO p);let n:=γ5 0 0 20;let y:=h 0;let m:=cJ.cells (dd.ss p) 27 20 false;let G:=[p.cls.a0,p.cls.a1,p.cls.a2,p.cls.a3,p.cls.a4,p.cls.a5];let K:=[p.opn.a0,p.opn.a1,p.opn.a2,p.opn.a3,p.opn.a4,p.opn.a5];let L:=[p.supply.a0,p.supply.a1,p.supply.a2,p.supply.a3,p.supply.a4,p.supply.a5];let A:=p.classes.length;let P:=(↑A:Int);let D:=decide ((8:Int)<P);let N:=p.offers.length;let s:=(↑N:Int);let W:=decide ((160:Int)<s);let r:=(↑p.classes.length:Int);let F:=(↑p.offers.length:Int);let J:=Sm p [] p.offers;let E:=cn.off.dflt;let H:=γ5 1 0 8;True/\((!p.supply.ok)=true->(h 4).same g)/\((!p.supply.ok)=false->(((n.same n/\y.same (e 0)/\True)/\m.same m/\True)/\d<=d/\d<=i/\∀(j:Nat),(↑j:Int)<d->H6 p j)/\∀(x:Int),let v:=x+k;let Z:=e v;let b1:=decide (x<i);let Q:=bC G x.toNat d;let b6:=decide (Q<d);let b5:=decide (l<Q);let C:=bC K x.toNat d;let c4:=decide (C<d);let M:=bC L x.toNat d;let c3:=decide (Q=d);let a8:=o v/\((n.same n/\Z.same Z/\True)/\m.same m/\True)/\(d<=v/\v<=i/\∀(j:Nat),(↑j:Int)<v->H6 p j)/\(i - v).toNat<(i - x).toNat;(d<=x/\x<=i/\∀(j:Nat),(↑j:Int)<x->H6 p j)->(b1=true->d<=x/\x<i/\x.toNat<6/\(b6=true->(h 4).same g)/\(b6=false->d<=x/\x<i/\x.toNat<6/\(b5=true->(h 4).same g)/\(b5=false->d<=x/\x<i/\x.toNat<6/\(c4=true->(h 4).same g)/\(c4=false->d<=x/\x<i/\x.toNat<6/\d<=x/\x<i/\x.toNat<6/\(decide (M<C)=true->(h 4).same g)/\(decide (M<C)=false->d<=x/\x<i/\x.toNat<6/\(c3=true->d<=x/\x<i/\x.toNat<6/\d<=x/\x<i/\x.toNat<6/\(decide (C≠M)=true->(h 4).same g)/\(decide (C≠M)=false->a8))/\(c3=false->a8))))))/\(b1=false->(D=true->(h 3).same g)/\(D=false->(W=true->(h 3).same g)/\(W=false->(((n.same n/\y.same (e 0)/\True)/\m.same m/\True)/\d<=d/\d<=r/\∀(c:Int),c∈[]->d<=c/\c<=l)/\∀(x:Int),let b2:=bC p.classes x.toNat d;let b3:=decide (b2<d);let b8:=decide (l<b2);let t:=x+k;let a7:=e t;(d<=x/\x<=r/\∀(c:Int),c∈ω x.toNat p.classes->d<=c/\c<=l)->(decide (x<P)=true->d<=x/\x<P/\x.toNat<A/\(b3=true->(h 4).same g)/\(b3=false->d<=x/\x<P/\x.toNat<A/\(b8=true->(h 4).same g)/\(b8=false->o t/\((n.same n/\a7.same a7/\True)/\m.same m/\True)/\(d<=t/\t<=r/\∀(c:Int),c∈ω t.toNat p.classes->d<=c/\c<=l)/\(r - t).toNat<(r - x).toNat)))/\(decide (x<P)=false->(((n.same n/\y.same (e 0)/\True)/\m.same m/\True)/\d<=d/\d<=F/\J=J)/\∀(x:Int),let f:=bC p.offers x.toNat E;let a:=f.want;let B:=f.jV;let U:=decide (B<d);let a6:=decide (f.value<k);let c1:=decide ((1000000:Int)<f.value);let I:=cJ.cells [e B,e a.a0,e a.a1,e a.a2,e a.a3,e a.a4,e a.a5,e f.value] 58 8 false;let q:=x+k;let b4:=e q;let R:=λ(u:Bool) ↦(decide (a.a0=d)&&(decide (a.a1=d)&&(decide (a.a2=d)&&(decide (a.a3=d)&&(decide (a.a4=d)&&(decide (a.a5=d)&&true))))))=u;d<=x/\x<=F/\J=Sm p (γg Off.key (ω x.toNat p.offers)) (γ1 x.toNat p.offers)->(decide (x<s)=true->d<=x/\x<s/\x.toNat<N/\(U=true->(h 6).same g)/\(U=false->(decide (P<=B)=true->(h 6).same g)/\(decide (P<=B)=false->(a6=true->(h 4).same g)/\(a6=false->(c1=true->(h 4).same g)/\(c1=false->True/\((!a.ok)=true->(h 4).same g)/\((!a.ok)=false->(R true->(h 4).same g)/\(R false->(p.classes.length<=8/\1<=1000/\∀(x:Off),x∈[f]->d<=x.jV/\x.jV<r/\x.want.ok=true)/\((!By p [f])=true->(h 14).same g)/\((!By p [f])=false->(((n.same n/\(e x).same (e x)/\H.same H/\y.same (e 0)/\True)/\m.same m/\I.same I/\True)/\d<=d/\d<=x/\∀(j:Nat),(↑j:Int)<d->(bC p.offers j E).key≠f.key)/\∀(b:Int),let w:=b+k;let V:=e x;let b9:=e w;let a9:=bC p.offers b.toNat E;let z:=a9.want;let c2:=decide (a9.jV=B);let X:=o w/\((n.same n/\V.same V/\H.same H/\b9.same b9/\True)/\m.same m/\I.same I/\True)/\(d<=w/\w<=x/\∀(j:Nat),(↑j:Int)<w->(bC p.offers j E).key≠f.key)/\(x - w).toNat<(x - b).toNat;let Y:=λ(u:Bool) ↦(decide (z.a0=a.a0)&&(decide (z.a1=a.a1)&&(decide (z.a2=a.a2)&&(decide (z.a3=a.a3)&&(decide (z.a4=a.a4)&&(decide (z.a5=a.a5)&&true))))))=u;(d<=b/\b<=x/\∀(j:Nat),(↑j:Int)<b->(bC p.offers j E).key≠f.key)->(decide (b<x)=true->d<=b/\b<s/\b.toNat<N/\(c2=true->d<=b/\b<s/\b.toNat<N/\(Y true->(h 7).same g)/\(Y false->X))/\(c2=false->X))/\(decide (b<x)=false->o q/\((n.same n/\b4.same b4/\True)/\m.same m/\True)/\(d<=q/\q<=F/\J=Sm p (γg Off.key (ω q.toNat p.offers)) (γ1 q.toNat p.offers))/\(F - q).toNat<(F - x).toNat)))))))))/\(decide (x<s)=false->y.same g))))))) (by kernel_rfl) ?_
 simp only[aCU,aCV];simp only[vcs]
 have e4:KD p=4->(4:Int)=fO p:=λh=>by simp[fO,h]
 have e3:KD p=3->(3:Int)=fO p:=λh=>by simp[fO,h]
 refine⟨λO=>e4 (au6 O),λO=>⟨⟨by omega,by omega,λj hj=>by omega⟩,?_⟩⟩
 rintro k ⟨c6,c5,hk⟩
 refine⟨λD=>?_,λb7=>?_⟩
 ·have c9:¬H6 p k.toNat->(4:Int)=fO p:=λh=>e4 (au7 O (by omega) h)
  have d4:H6 p k.toNat->∀(j:Nat),(j:Int)<k+1->H6 p j:=λh j hj=>by
   grind
  repeat' (first|refine γe ?_ ?_|intro _)
  all_goals first
   |omega
   |exact c9 λhh=>by have h2:=adF.1 hh;omega
   |grind[adF]
 ·have l:∀j:Nat,j<6->H6 p j:=λj hj=>hk j (by omega)
  refine⟨λh=>e3 (alB O l (.inl (by omega))),λh8=>⟨λh=>e3 (alB O l (.inr (by omega))),λd3=>⟨⟨by omega,by omega,by simp⟩,?_⟩⟩⟩
  rintro i ⟨K,S,G⟩
  refine⟨λD=>?_,λb7=>?_⟩
  ·have hm:=pz (d:=0) (show i.toNat<p.classes.length by omega)
   refine⟨by omega,by omega,by omega,λh=>e4 (alC O l (by omega) hm (by omega)),λh1=>⟨by omega,by omega,by omega,λh=>e4 (alC O l (by omega) hm (by omega)),λh2=>⟨by omega,⟨by omega,by omega,?_⟩,by omega⟩⟩⟩
   exact au9 K D G (by omega)
  ·rw[show i.toNat=p.classes.length from by omega,τ] at G
   have hz:KD p=0:=au8 O l (by omega) G
   have ce:fO p=Sm p [] p.offers:=by grind[fO]
   refine⟨⟨by omega,by omega⟩,?_⟩
   rintro i ⟨K,S,G⟩
   refine⟨λD=>?_,λb7=>?_⟩
   ·rw[ae4 (d:=cn.off.dflt) K D] at G
    generalize hx:bC p.offers i.toNat cn.off.dflt=x at G ⊢
    have oe:∀c:Int,c≠0->X0 p x=c->c=fO p:=λc hc h=>by
     simp_all[Sm]
    have T:∀c:Int,c≠0->SS p.classes.length x=c->c=fO p:=λc hc h=>oe c hc (by
     unfold X0
     omega)
    refine⟨by omega,by omega,by omega,λh1=>?_,λh1=>⟨λh2=>?_,λh2=>⟨λh3=>?_,λh3=>⟨λh4=>?_,λh4=>⟨λh5=>?_,λh5=>⟨λh6=>?_,λh6=>?_⟩⟩⟩⟩⟩⟩
    ·exact T 6 (by decide) (by unfold SS;omega)
    ·exact T 6 (by decide) (by unfold SS;omega)
    ·exact T 4 (by decide) (by unfold SS;omega)
    ·exact T 4 (by decide) (by unfold SS;omega)
    ·exact T 4 (by decide) (by unfold SS;grind)
    ·have d0:SS p.classes.length x=0:=by unfold SS;grind
     grind[X0]
    ·have d0:SS p.classes.length x=0:=by unfold SS;grind
     refine⟨⟨by omega,by omega,λy hy=>?_⟩,λh7=>?_,λh7=>⟨⟨by omega,by omega,λj hj=>by omega⟩,?_⟩⟩
     ·grind
     ·grind[X0]
     ·have b0:X0 p x=0:=by grind[X0]
      rintro k ⟨c6,c5,hk⟩
      have c0:(bC p.offers k.toNat cn.off.dflt).key≠x.key->∀j:Nat,(j:Int)<k+1->(bC p.offers j cn.off.dflt).key≠x.key:=λh j hj=>by
       grind
      refine⟨λd2=>⟨by omega,by omega,by omega,λh8=>⟨by omega,by omega,by omega,λh9=>?_,λh9=>⟨by omega,⟨by omega,by omega,?_⟩,by omega⟩⟩,λh8=>⟨by omega,⟨by omega,by omega,?_⟩,by omega⟩⟩,λd1=>⟨by omega,⟨by omega,by omega,?_⟩,by omega⟩⟩
      ·have c8:(bC p.offers k.toNat cn.off.dflt).key=x.key:=by
        show acp.mk _ _=acp.mk _ _
        rw[h8,h9]
       have A:x.key∈(p.offers.take i.toNat).map Off.key:=by
        rw[<-c8]
        refine γk.2 ⟨_,?_,rfl⟩
        rw[my (by omega)]
        exact List.mem_take_iff_getElem.2 ⟨k.toNat,by omega,rfl⟩
       rw[ce,G];simp only[Sm,b0,ne_eq,not_true,if_false,if_pos A]
      ·refine c0 λe=>h9 ?_
       injection e
      ·refine c0 λe=>h8 ?_
       injection e
      ·have c7:x.key∉(p.offers.take i.toNat).map Off.key:=by
        intro A
        obtain⟨o,ho,he⟩:=γk.1 A
        obtain⟨j,hj,rfl⟩:=avi (d:=cn.off.dflt) S ho
        grind
       rw[G,Xx (d:=cn.off.dflt) K D,hx];simp only[Sm,b0,ne_eq,not_true,if_false,if_neg c7,γj,ψ,List.map_nil]
   ·rw[show i.toNat=p.offers.length from by omega,δV] at G
    rw[ce,G];rfl
def M2:List fN:=r24::r69::M1
theorem hM2:∀c∈M2,Holds Tryz.prog c:=by
 grind[M2,h24,h69,hM1]
def apl:fN:=⟨51,dd×List Int,.cons qa (.one (mA (.i .i64))),λa=>a.2.length<=9223372036854775807/\a.1.offers.length<=1000,λa=> .eW [.row .off (oC a.1 a.2),.sb (EH a.1 a.2)]⟩
def Sr (c:List Int) (i:Int):Int:=if i=0 then -1 else bC c (i - 1).toNat 0
def aCW (a:dd×List Int):Nat->jY
 |3=> .inv (Int×List Off) (λx=>⟨[(1,.row (.i .i64) a.2),(2,.ptr 0 0 20),(6,.ow 1 x.2.length 8),(7,.si .i64 x.1)],
   [.cells a.1.ss 27 20 false,.row .off x.2 58 true]⟩) (λs=>(iS s 7,oS .off s 1))
  (λx=>0<=x.1/\x.1<=a.2.length/\(x.2.length<=Sr a.2 x.1+1/\Sr a.2 x.1<1000)/\ -1<=Sr a.2 x.1/\uv a.1.offers (-1) a.2=(uv a.1.offers (Sr a.2 x.1) (a.2.drop x.1.toNat)).map (x.2++·)) (λx=>(a.2.length - x.1).toNat) λ_ _=> .look
 |_=> .look
theorem h109:Holds Tryz.prog apl:=by
 refine kh (L:=M2) apl aCW hM2 ?_
 rintro⟨p,c⟩ ⟨Y,F⟩
 have Y:c.length<=9223372036854775807:=Y
 have F:p.offers.length<=1000:=F
 refine gp (let d:=γa .i64;let f:=(0:Int);let h:=Ξ;let j:=(1:Int);let n:=δe false;let q:=(-1:Int);let r:=(1000:Int);let u:=SV.eW;let m:=cn.i .i64;let J:=γ5 0 0 20;let X:=γQ 1 0 8;let K:=cJ.cells [d p.supply.a0,d p.supply.a1,d p.supply.a2,d p.supply.a3,d p.supply.a4,d p.supply.a5,d p.opn.a0,d p.opn.a1,d p.opn.a2,d p.opn.a3,d p.opn.a4,d p.opn.a5,d p.cls.a0,d p.cls.a1,d p.cls.a2,d p.cls.a3,d p.cls.a4,d p.cls.a5,h m p.classes,h cn.off p.offers] 27 20 false;let W:=cJ.row cn.off [] 58 true;let y:=(↑c.length:Int);let M:=Sr c f;let T:=uv p.offers q c;let o:=(↑c.length:Int);let N:=u [h cn.off (oC p c),γv (EH p c)];let t:=p.offers.length;let s:=(↑t:Int);let V:=cn.off.dflt;((((h m c).same (h m c)/\J.same J/\X.same X/\(γu .i64 0).same (d 0)/\True)/\K.same K/\W.same W/\True)/\f<=f/\f<=y/\(f<=M+j/\M<r)/\q<=M/\T=ζo (λx ↦(f,[]).snd++x) (uv p.offers M c))/\∀(x:Int×List Off),let a:=bC c x.fst.toNat f;let I:=x.snd.length+1;let b:=x.fst+j;let g:=x.snd++[bC p.offers a.toNat V];let D:=d b;let v:=cJ.row cn.off g 58 true;let l:=Sr c b;let k:=Sr c x.fst;let H:=decide (a<f);let E:=decide (f<x.fst);let e:=x.fst - j;let B:=decide (a<=bC c e.toNat f);let A:=f<=x.fst/\x.fst<o/\x.fst.toNat<c.length/\f<=a/\a<s/\a.toNat<t/\x.snd.length=x.snd.length/\I*64<=140737488355328/\I<=1000000000000/\ie .i64 b/\(((h m c).same (h m c)/\J.same J/\(γQ 1 g.length 8).same (γQ 1 g.length 8)/\D.same D/\True)/\K.same K/\v.same v/\True)/\(f<=b/\b<=y/\((↑g.length:Int)<=l+j/\l<r)/\q<=l/\T=ζo (λx ↦(b,g).snd++x) (uv p.offers l (γ1 b.toNat c)))/\(y - b).toNat<(y - x.fst).toNat;f<=x.fst/\x.fst<=y/\((↑x.snd.length:Int)<=k+j/\k<r)/\q<=k/\T=ζo (λO ↦x.snd++O) (uv p.offers k (γ1 x.fst.toNat c))->(decide (x.fst<o)=true->f<=x.fst/\x.fst<o/\x.fst.toNat<c.length/\(H=true->(u [h m [],n]).same N)/\(H=false->f<=x.fst/\x.fst<o/\x.fst.toNat<c.length/\(decide (s<=a)=true->(u [h m [],n]).same N)/\(decide (s<=a)=false->(E=true->f<=x.fst/\x.fst<o/\x.fst.toNat<c.length/\ie .i64 e/\f<=e/\e<o/\e.toNat<c.length/\(B=true->(u [h m [],n]).same N)/\(B=false->A))/\(E=false->A))))/\(decide (x.fst<o)=false->x.snd.length=x.snd.length/\(u [h cn.off x.snd,δe true]).same N)) (by kernel_rfl) ?_
 simp only[vcs]
 have C:uv p.offers (-1) c=none->(Ξ (.i .i64) []).same (Ξ .off (oC p c))/\false=EH p c:=λh=>⟨au5.2 (by simp[oC,h]),by simp[EH,h]⟩
 refine⟨⟨by omega,by omega,by simp[Sr],by simp[Sr]⟩,?_⟩
 rintro⟨i,u⟩ ⟨z,P,G,R,q⟩
 simp only at z P G R q ⊢
 refine⟨λS=>?_,λa6=>?_⟩
 ·rw[ae4 (d:=0) z S] at q
  have w:Sr c (i+1)=bC c i.toNat 0:=by unfold Sr;grind
  have U:i≠0->Sr c i=bC c (i - 1).toNat 0:=λh=>by simp_all[Sr]
  have Q:i=0->Sr c i= -1:=λh=>by simp_all[Sr]
  generalize hx:bC c i.toNat 0=x at q w ⊢
  simp only[uv] at q
  have j:¬(x<=Sr c i\/p.offers.length<=x)->uv p.offers (-1) c=(uv p.offers (Sr c (i+1)) (c.drop (i+1).toNat)).map λr=>(u++[bC p.offers x.toNat cn.off.dflt])++r:=λh=>by
   rw[if_neg h] at q;rw[q,w,ζe]
   congr 1
   grind
  have n:(x<=Sr c i\/p.offers.length<=x)->(Ξ (.i .i64) []).same (Ξ .off (oC p c))/\false=EH p c:=λh=>C (by simp_all)
  have f:¬(x<=Sr c i\/p.offers.length<=x)->((u++[bC p.offers x.toNat cn.off.dflt]).length:Int)<=Sr c (i+1)+1/\Sr c (i+1)<1000:=λh=>by
   grind
  refine⟨by omega,by omega,by omega,λZ=>n (.inl (by omega)),λZ=>⟨by omega,by omega,by omega,λh2=>n (.inr (by omega)),λh2=>⟨λh3=>⟨by omega,by omega,by omega,by omega,by omega,by omega,by omega,λh4=>n (.inl (by omega)),λh4=>?_⟩,λh3=>?_⟩⟩⟩
  ·have:=U (by omega)
   refine⟨by omega,by omega,by omega,by omega,by omega,by omega,by omega,by omega,by omega,⟨by omega,by omega,f (by omega),by omega,j (by omega)⟩,by omega⟩
  ·have:=Q (by omega)
   refine⟨by omega,by omega,by omega,by omega,by omega,by omega,by omega,by omega,by omega,⟨by omega,by omega,f (by omega),by omega,j (by omega)⟩,by omega⟩
 ·rw[show i.toNat=c.length from by omega,δV] at q
  grind[uv,oC,EH]
def M3:List fN:=apl::M2
theorem hM3:∀c∈M3,Holds Tryz.prog c:=by
 grind[M3,h109,hM2]
def r55:fN:=⟨20,dd×List Int,.cons qa (.one (mA (.i .i64))),λa=>a.2.length<=9223372036854775807,λa=> .si .i64 (lj a.1 a.2)⟩
theorem h55:Holds Tryz.prog r55:=by
 refine kh (L:=M3) r55 (λp=>λ_=> .look) hM3 ?_
 rintro⟨p,c⟩ (n:c.length<=9223372036854775807)
 refine gp (let a:=γu .i64;let e:=decide (fO p≠(0:Int));let d:=γa .i64 (lj p c);let f:=!By p (oC p c);True/\(e=true->(γa .i64 (fO p)).same d)/\(e=false->(c.length<=9223372036854775807/\p.offers.length<=1000)/\((!EH p c)=true->(a 4).same d)/\((!EH p c)=false->(p.classes.length<=8/\(oC p c).length<=1000/\∀(x:Off),x∈oC p c->(0:Int)<=x.jV/\x.jV<(↑p.classes.length:Int)/\x.want.ok=true)/\(f=true->(a 14).same d)/\(f=false->(a 0).same d)))) (by kernel_rfl) ?_
 simp only[vcs]
 refine⟨λh=>by simp[lj,h],λh=>?_⟩
 have g:fO p=0:=Ψ.1 h
 obtain⟨m,j⟩:=alI g
 obtain⟨s,o,l,q,t⟩:=alD m
 refine⟨⟨n,by omega⟩,λa=>by grind[lj],λa=>⟨⟨l,?_,?_⟩,λk=>by grind[lj],λk=>by grind[lj]⟩⟩
 ·unfold EH at a
  obtain⟨r,b⟩:=γp.1 a
  have:=ajh (by omega) b
  grind[oC]
 ·unfold EH at a
  obtain⟨r,b⟩:=γp.1 a
  simp only[oC,b,γA];intro x i
  have u:=alE (alJ (j x (alK (by omega) b x i))).1
  simp_all
def o5:List Off->Int
 |[]=>0
 |x::l=>x.value+o5 l
def qX (p:dd) (c:List Int):Int:=if fO p=0 then o5 (oC p c) else 0
theorem alP:∀{l m:List Off},o5 (l++m)=o5 l+o5 m
 |[],m=>by simp[o5]
 |x::l,m=>by simp only[γJ,o5,@alP l m];omega
theorem avj {l:List Off} {i:Int} (a:0<=i) (h:i<l.length):o5 (l.take (i+1).toNat)=o5 (l.take i.toNat)+(bC l i.toNat cn.off.dflt).value:=by
 rw[Xx (d:=cn.off.dflt) a h,alP]
 simp[o5]
def r58:fN:=⟨21,dd×List Int,.cons qa (.one (mA (.i .i64))),λa=>a.2.length<=9223372036854775807,λa=> .si .i64 (qX a.1 a.2)⟩
def aCX (a:dd×List Int):Nat->jY
 |6=> .inv Int (λi=>⟨[(5,.row .off (oC a.1 a.2)),(7,.si .i64 (o5 ((oC a.1 a.2).take i.toNat))),(8,.si .i64 i)],[.cells a.1.ss 27 20 false]⟩) (λs=>iS s 8)
  (λi=>0<=i/\i<=(oC a.1 a.2).length) (λi=>((oC a.1 a.2).length - i).toNat) λ_ _=> .look
 |_=> .look
theorem avk {p:dd} {c:List Int} (h:fO p=0):(oC p c).length<=160/\∀x∈oC p c,x∈p.offers:=by
 have d:=uw h
 unfold oC
 cases a:uv p.offers (-1) c with
 |none=>simp
 |some r=>
  refine⟨?_,λx b=>alK (by omega) a x b⟩
  have e:=ajh (by omega) a
  have f:=d.2.1
  grind
theorem adG {p:dd} (a:Good p):∀{l:List Off},(∀x∈l,x∈p.offers)->0<=o5 l/\o5 l<=1000000*l.length
 |[],_=>by simp[o5]
 |x::l,h=>by
  have c:=a.2.2.2.2 x (h x (by simp))
  have d:=@adG p a l λy b=>h y (by simp[b])
  grind[o5]
theorem h58:Holds Tryz.prog r58:=by
 refine kh (L:=M3) r58 aCX hM3 ?_
 rintro⟨p,c⟩ (A:c.length<=9223372036854775807)
 refine gp (let g:=γa .i64;let h:=(0:Int);let t:=decide (fO p≠h);let k:=γu .i64 0;let v:=g (qX p c);let e:=Ξ cn.off (oC p c);let f:=cJ.cells (dd.ss p) 27 20 false;let d:=(↑(oC p c).length:Int);let n:=(↑(oC p c).length:Int);True/\(t=true->k.same v)/\(t=false->(c.length<=9223372036854775807/\p.offers.length<=1000)/\(((e.same e/\k.same (g (o5 []))/\k.same (g 0)/\True)/\f.same f/\True)/\h<=h/\h<=d)/\∀(x:Int),let r:=o5 (ω x.toNat (oC p c));let s:=r+(bC (oC p c) x.toNat cn.off.dflt).value;let a:=x+(1:Int);let b:=g a;h<=x/\x<=d->(decide (x<n)=true->h<=x/\x<n/\x.toNat<(oC p c).length/\ie .i64 s/\ie .i64 a/\((e.same e/\(g s).same (g (o5 (ω a.toNat (oC p c))))/\b.same b/\True)/\f.same f/\True)/\(h<=a/\a<=d)/\(d - a).toNat<(d - x).toNat)/\(decide (x<n)=false->(g r).same v))) (by kernel_rfl) ?_
 simp only[vcs]
 refine⟨λh=>by simp[qX,h],λh=>⟨⟨A,by have:=(uw (Ψ.1 h)).2.1;omega⟩,⟨by simp[o5],by omega⟩,?_⟩⟩
 have o:fO p=0:=Ψ.1 h
 have u:=uw o
 obtain⟨C,q⟩:=avk (c:=c) o
 rintro i ⟨j,y⟩
 refine⟨λm=>?_,λw=>?_⟩
 ·have B:=avj j m
  have D:=adG u (l:=(oC p c).take i.toNat) λx g=>q x (γi g)
  have z:=adG u (l:=(oC p c).take (i+1).toNat) λx g=>q x (γi g)
  grind
 ·rw[show i.toNat=(oC p c).length from by omega,τ]
  grind[qX]
def cmpL:List Int->List Int->Int
 |[],[]=>0
 |[],_::_=> -1
 |_::_,[]=>1
 |a::l,b::m=>if a<b then -1 else if b<a then 1 else cmpL l m
def r32:fN:=⟨32,List Int×List Int,.cons (mA (.i .i64)) (.one (mA (.i .i64))),λa=>a.1.length<=1000000000000/\a.2.length<=1000000000000,λa=> .si .i64 (cmpL a.1 a.2)⟩
def aCY (a:List Int×List Int):Nat->jY
 |2=> .inv Int (λi=>⟨[(0,.row (.i .i64) a.1),(1,.row (.i .i64) a.2),(5,.si .i64 i)],[]⟩) (λs=>iS s 5)
  (λi=>0<=i/\i<=a.1.length/\i<=a.2.length/\cmpL a.1 a.2=cmpL (a.1.drop i.toNat) (a.2.drop i.toNat)) (λi=>(a.1.length - i).toNat) λ_ _=> .look
 |_=> .look
theorem h32:Holds Tryz.prog r32:=by
 refine kh (L:=[]) r32 aCY (by simp) ?_
 rintro⟨a,b⟩ ⟨w,u⟩
 refine gp (let d:=(0:Int);let h:=γu .i64;let j:=γa .i64;let k:=(-1:Int);let q:=Ξ (cn.i .i64) a;let n:=Ξ (cn.i .i64) b;let t:=h 0;let m:=(↑a.length:Int);let r:=(↑b.length:Int);let e:=(↑a.length:Int);let f:=(↑b.length:Int);let g:=j (cmpL a b);(((q.same q/\n.same n/\t.same (j 0)/\True)/\True)/\d<=d/\d<=m/\d<=r/\cmpL a b=cmpL a b)/\∀(x:Int),let o:=bC a x.toNat d;let p:=bC b x.toNat d;let c:=x+(1:Int);let l:=j c;d<=x/\x<=m/\x<=r/\cmpL a b=cmpL (γ1 x.toNat a) (γ1 x.toNat b)->(decide (x<e)=true->(decide (x<f)=true->d<=x/\x<e/\x.toNat<a.length/\d<=x/\x<f/\x.toNat<b.length/\(decide (o<p)=true->(h k).same g)/\(decide (o<p)=false->d<=x/\x<e/\x.toNat<a.length/\d<=x/\x<f/\x.toNat<b.length/\(decide (p<o)=true->(h 1).same g)/\(decide (p<o)=false->ie .i64 c/\((q.same q/\n.same n/\l.same l/\True)/\True)/\(d<=c/\c<=m/\c<=r/\cmpL a b=cmpL (γ1 c.toNat a) (γ1 c.toNat b))/\(m - c).toNat<(m - x).toNat)))/\(decide (x<f)=false->(decide (e<f)=true->(h k).same g)/\(decide (e<f)=false->(decide (f<e)=true->(h 1).same g)/\(decide (f<e)=false->t.same g))))/\(decide (x<e)=false->(decide (e<f)=true->(h k).same g)/\(decide (e<f)=false->(decide (f<e)=true->(h 1).same g)/\(decide (f<e)=false->t.same g)))) (by kernel_rfl) ?_
 conv=>zeta
 simp only at w u
 simp only[vcs]
 refine⟨⟨by omega,by omega,by omega⟩,?_⟩
 rintro i ⟨j,v,z,h⟩
 refine⟨λs=>⟨λk=>?_,λk=>?_⟩,λs=>?_⟩
 ·rw[ae4 (d:=0) j s,ae4 (d:=0) j k] at h
  simp only[cmpL] at h;omega
 ·rw[ae4 (d:=0) j s,show i.toNat=b.length from by omega,δV] at h
  grind[cmpL]
 ·rw[show i.toNat=a.length from by omega,δV] at h
  refine⟨λk=>?_,λk=>⟨λy=>by omega,λy=>?_⟩⟩
  ·rw[<-Int.toNat_natCast a.length,ae4 (d:=0) (by omega) k] at h
   exact h.symm
  ·rw[show a.length=b.length from by omega,δV] at h
   exact h.symm
def Ko (l:List fZ):fZ:=⟨(l.map fZ.a0).sum,(l.map fZ.a1).sum,(l.map fZ.a2).sum,(l.map fZ.a3).sum,(l.map fZ.a4).sum,(l.map fZ.a5).sum⟩
def rc (p:dd) (l:List Int):List Off:=l.map λi=>bC p.offers i.toNat cn.off.dflt
def abw (p:dd) (L:List Off):Prop:=(L.map Off.jV).Nodup/\(Ko (L.map Off.want)).le p.supply=true/\(Ko (L.map (Ie p))).le p.opn=true
instance (p:dd) (L:List Off):Decidable (abw p L):=by unfold abw;infer_instance
def GU (p:dd) (l:List Int):Bool:=decide (abw p (rc p l))
def aa0 (p:dd) (l:List Int) (i:Int):fZ:=Ko ((rc p (l.take i.toNat)).map Off.want)
def aa1 (p:dd) (l:List Int) (i:Int):fZ:=Ko ((rc p (l.take i.toNat)).map (Ie p))
def Zc (a b:fZ) (k:Int):fZ:=⟨if 0<k then b.a0 else a.a0,if 1<k then b.a1 else a.a1,if 2<k then b.a2 else a.a2,if 3<k then b.a3 else a.a3,if 4<k then b.a4 else a.a4,if 5<k then b.a5 else a.a5⟩
def pfx (p:dd) (S O:fZ) (k:Int):Prop:=∀j:Nat,j<k->bC S.l j 0<=bC p.supply.l j 0/\bC O.l j 0<=bC p.opn.l j 0
def aCZ (a:dd×List Int):Nat->jY
 |3=> .inv Int (λi=>⟨[(1,.row (.i .i64) a.2),(2,.ptr 0 0 20),(5,.ptr 1 0 6),(6,.ptr 2 0 6),(7,.si .i64 i)],[.cells a.1.ss 27 20 false,.cells (encS .zx (aa0 a.1 a.2 i)) 23 6 false,.cells (encS .zx (aa1 a.1 a.2 i)) 23 6 false]⟩) (λs=>iS s 7)
  (λi=>0<=i/\i<=a.2.length/\(abw a.1 (rc a.1 (a.2.take i.toNat)))) (λi=>(a.2.length - i).toNat)
  λi=>λ
   |7=> .inv Int (λk=>⟨[(1,.row (.i .i64) a.2),(2,.ptr 0 0 20),(5,.ptr 1 0 6),(6,.ptr 2 0 6),(7,.si .i64 i),(8,.ptr 3 0 8),(9,.si .i64 k)],[.cells a.1.ss 27 20 false,.cells (encS .zx (aa0 a.1 a.2 i)) 23 6 false,.cells (encS .zx (aa1 a.1 a.2 i)) 23 6 false,
     .cells (encS .off (bC a.1.offers (bC a.2 i.toNat 0).toNat cn.off.dflt)) 58 8 false]⟩) (λs=>iS s 9)
     (λk=>0<=k/\k<=i/\∀j:Nat,j<k->(bC a.1.offers (bC a.2 j 0).toNat cn.off.dflt).jV≠(bC a.1.offers (bC a.2 i.toNat 0).toNat cn.off.dflt).jV) (λk=>(i - k).toNat) λ_ _=> .look
   |12=> .inv Int (λk=>⟨[(1,.row (.i .i64) a.2),(2,.ptr 0 0 20),(5,.ptr 1 0 6),(6,.ptr 2 0 6),(7,.si .i64 i),(8,.ptr 3 0 8),(10,.si .i64 k)],[.cells a.1.ss 27 20 false,.cells (encS .zx (Zc (aa0 a.1 a.2 i) (aa0 a.1 a.2 (i+1)) k)) 23 6 false,.cells (encS .zx (Zc (aa1 a.1 a.2 i) (aa1 a.1 a.2 (i+1)) k)) 23 6 false,
     .cells (encS .off (bC a.1.offers (bC a.2 i.toNat 0).toNat cn.off.dflt)) 58 8 false]⟩) (λs=>iS s 10)
     (λk=>0<=k/\k<=6/\pfx a.1 (aa0 a.1 a.2 (i+1)) (aa1 a.1 a.2 (i+1)) k) (λk=>(6 - k).toNat) λ_ _=> .look
   |_=> .look
 |_=> .look
def apm:fN:=⟨87,dd×List Int,.cons qa (.one (mA (.i .i64))),λa=>Good a.1/\a.2.length<=160/\∀i∈a.2,0<=i/\i<a.1.offers.length,λa=> .sb (GU a.1 a.2)⟩
theorem aC0 {e m k j c h l b f a i d:Int}:(cJ.cells [γa .i64 e,γa .i64 m,γa .i64 k,γa .i64 j,γa .i64 c,γa .i64 h] 23 6 false).same (cJ.cells [γa .i64 l,γa .i64 b,γa .i64 f,γa .i64 a,γa .i64 i,γa .i64 d] 23 6 false)↔
  e=l/\m=b/\k=f/\j=a/\c=i/\h=d:=by
 simp[cJ.same,cJ.g,gL,γE]
def fZ.add (a b:fZ):fZ:=⟨a.a0+b.a0,a.a1+b.a1,a.a2+b.a2,a.a3+b.a3,a.a4+b.a4,a.a5+b.a5⟩
theorem apn {l m:List fZ}:Ko (l++m)=(Ko l).add (Ko m):=by simp[Ko,fZ.add]
theorem aC1 {b:fZ} {l:List fZ}:Ko (b::l)=b.add (Ko l):=by simp[Ko,fZ.add]
theorem aC2 {b:fZ}:Ko [b]=b:=by simp[Ko]
def fZ.bd (b:fZ) (n:Int):Prop:=(0<=b.a0/\b.a0<=n)/\(0<=b.a1/\b.a1<=n)/\(0<=b.a2/\b.a2<=n)/\(0<=b.a3/\b.a3<=n)/\(0<=b.a4/\b.a4<=n)/\(0<=b.a5/\b.a5<=n)
theorem ajl:∀{l:List fZ},(∀b∈l,b.ok=true)->(Ko l).bd (4*l.length)
 |[],_=>by simp[Ko,fZ.bd]
 |b::l,h=>by
  have e:=fZ.aaZ.1 (h b (by simp))
  have d:=@ajl l λc a=>h c (by simp[a])
  rw[aC1];simp only[fZ.bd,fZ.add,List.length_cons] at d ⊢;omega
theorem avl {p:dd} {x:Off} (h:x.want.ok=true):(Ie p x).ok=true:=by
 have a:=fZ.aaZ.1 h
 rw[fZ.aaZ];simp only[Ie,apd,oc];omega
theorem alQ {p:dd} (b:Good p) {l:List Int} (h:∀i∈l,0<=i/\i<p.offers.length):∀x∈rc p l,x∈p.offers:=by
 intro x a
 obtain⟨i,c,rfl⟩:=γk.1 a
 grind[pz]
theorem aC3 {f b d a e c:Int}:(cJ.cells [γu .i64 0,γu .i64 0,γu .i64 0,γu .i64 0,γu .i64 0,γu .i64 0] 23 6 false).same (cJ.cells [γa .i64 f,γa .i64 b,γa .i64 d,γa .i64 a,γa .i64 e,γa .i64 c] 23 6 false)↔
  0=f/\0=b/\0=d/\0=a/\0=e/\0=c:=by
 simp[cJ.same,cJ.g,gL,γE]
theorem avm {p:dd} (f:Off->fZ) {l:List Int} (h:∀x∈rc p l,(f x).ok=true) (n:Nat):fZ.le (Ko ((rc p (l.take n)).map f)) (Ko ((rc p l).map f))=true:=by
 have e:rc p l=rc p (l.take n)++rc p (l.drop n):=by simp_all[rc]
 rw[e,γj,apn]
 grind[ajl,fZ.bd,fZ.le_iff,fZ.add]
theorem avn {p:dd} (f:Off->fZ) {l:List Int} (h:∀x∈rc p l,(f x).ok=true) (a:l.length<=160) (n:Nat):(Ko ((rc p (l.take n)).map f)).bd 640:=by
 grind[ajl,rc,fZ.bd]
theorem avo {p:dd} (f:Off->fZ) {l:List Int} {i:Int} (b:0<=i) (a:i<l.length):Ko ((rc p (l.take (i+1).toNat)).map f)=(Ko ((rc p (l.take i.toNat)).map f)).add (f (bC p.offers (bC l i.toNat 0).toNat cn.off.dflt)):=by
 grind[Xx,rc,apn,aC2]
end Go.Vi
