/-
  The table of the functions' code.
  Conditions: none.
-/
import Derived.Test.YtgejbpobaicgfaaGreatRK01
import Derived.Test.YtgejbpobaicgfaaGreatRK05
import Derived.KernelRfl
import Derived.Deep.Slices
import Derived.OpenShut
import Derived.ProofKit
import Derived.Test.YtgejbpobaicgfaaGreatRows
set_option maxRecDepth 100000
set_option maxHeartbeats 4000000
set_option linter.all false
namespace Go.Vi
open Go.Proofs.YtgejbpobaicgfaaGreat.Ir
open Go.Proofs
def ak9 (f:Nat):List (Nat×List RH)->Option (List RH)
 |[]=>none
 |e::r=>bif Nat.beq e.1 f then some e.2 else ak9 f r
noncomputable def ym (f:FuncId):Option uC:=
 match ak9 f arT with
 |none=>none
 |some H=>match Tryz.prog.funcs[f]? with
  |none=>none
  |some g=>ako Tryz.prog H g
noncomputable def fG (f:FuncId):uC:=(ym f).getD ⟨0,0,.skip,[]⟩
theorem afQ {f:FuncId} (h:(ym f).isSome=true):ym f=some (fG f):=by
 unfold fG
 cases q:ym f<;>simp_all
theorem aul {f:Nat} {H:List RH} {p:Nat->Bool}:∀{l:List (Nat×List RH)},ak9 f l=some H->(l.all fun e=>p e.1)=true->p f=true
 |[],h,_=>by cases h
 |e::r,h,k=>by
  simp only[ak9] at h;simp only[List.all_cons,Bool.and_eq_true] at k
  cases q:Nat.beq e.1 f with
  |true=>simp_all
  |false=>rw[q] at h;exact aul h k.2
theorem aBV:(arT.all fun e=>By Tryz.prog e.1)=true:=by kernel_rfl
theorem acg:Sv Tryz.prog ⟨ym,fun _ _ _ _=>none⟩ where
 fn:=fun f F h=>by
  simp only[ym] at h;split at h
  ·cases h
  ·rename_i H q
   split at h
   ·cases h
   ·rename_i g r;exact⟨g,H,r,h,aul (p:=By Tryz.prog) q aBV⟩
 K:=fun _ _ _ _ _ _ h=>by cases h
def lk {a:Type}:a->Nat->jW:=fun _ _=> .look
structure Vc (A:Prop):Prop where
 out:A
theorem gw {A:Prop} (B:Prop) (h:B=A) (a:B):Vc A:=⟨h▸a⟩
theorem con {L:List fN} {W:Ug} (c:fN) (Λ:c.α->Nat->jW) (i:aaO Tryz.prog W) (e:∀c∈L,Holds Tryz.prog c)
  
  (h:∀a,c.dom a->Vc (fnK (SC L W ZZ mtN ym) (Λ a) (fG c.f) (c.A.put a) fun v=>v.same (c.res a))) (j:(ym c.f).isSome=true:=by kernel_rfl) (d:Yf c.f L=none:=by kernel_rfl) (b:∀a,(c.A.put a).length=(fG c.f).params:=by intro _;kernel_rfl):Holds Tryz.prog c:=
 holds_of c acg i e (afQ j) d b fun a g=>(h a g).out
theorem lj {L:List fN} (c:fN) (Λ:c.α->Nat->jW) (e:∀c∈L,Holds Tryz.prog c) (h:∀a,c.dom a->Vc (fnK (SC L Ug.none ZZ mtN ym) (Λ a) (fG c.f) (c.A.put a) fun v=>v.same (c.res a)))
  (g:(ym c.f).isSome=true:=by kernel_rfl) (d:Yf c.f L=none:=by kernel_rfl) (b:∀a,(c.A.put a).length=(fG c.f).params:=by intro _;kernel_rfl):Holds Tryz.prog c:=con c Λ (aaO.none _) e h g d b
theorem aBW {L:List fN} {W:Ug} (c:fN) (k:FuncId->Bool) (Λ:c.α->Nat->jW) (i:aaO Tryz.prog W) (e:∀c∈L,Holds Tryz.prog c)
  
  (h:∀a,c.dom a->Vc (fnK (aoj L W ZZ mtN ym k) (Λ a) (fG c.f) (c.A.put a) fun v=>v.same (c.res a))) (j:(ym c.f).isSome=true:=by kernel_rfl) (d:Yf c.f L=none:=by kernel_rfl) (b:∀a,(c.A.put a).length=(fG c.f).params:=by intro _;kernel_rfl):Holds Tryz.prog c:=
 aBO c acg i e (afQ j) d b fun a g=>(h a g).out
theorem SD {L:List fN} {W:List ob} (c:ob) (Λ:c.α->Nat->jW) (i:∀c∈W,qH Tryz.prog c) (e:∀c∈L,Holds Tryz.prog c)
  
  (h:∀a,c.dom a->Vc (ag6 (SC L (A2 W) ZZ mtN ym) (Λ a) (fG c.f) (c.put a) (c.st a) fun v s=>v.same (c.res a)/\ME s (c.out a))) (g:(ym c.f).isSome=true:=by kernel_rfl) (b:∀a,(c.put a).length=(fG c.f).params:=by intro _;kernel_rfl) (k:YA c.f W=none:=by kernel_rfl):qH Tryz.prog c:=
 fun a j=>aop c acg i e (afQ g) b a (fun d l=>by simp_all) (h a j).out
theorem aBX {L:List fN} {W:List ob} (c:ob) (F:uC) (Λ:c.α->Nat->jW) (hW:∀c∈W,qH Tryz.prog c) (hL:∀c∈L,Holds Tryz.prog c)
  
  (h:∀a,c.dom a->Vc (ag6 (SC L (A2 W) ZZ mtN ym) (Λ a) F (c.put a) (c.st a) fun v s=>v.same (c.res a)/\ME s (c.out a))) (hF:ym c.f=some F:=by kernel_rfl) (hlen:∀a,(c.put a).length=F.params:=by intro _;kernel_rfl) (hfr:YA c.f W=none:=by kernel_rfl):qH Tryz.prog c:=
 fun a ha=>aop c acg hW hL hF hlen a (fun d hd=>by rw[hfr] at hd;cases hd) (h a ha).out
theorem aos {L:List fN} {W:List ob} (c:ob) (g:Nat->Option (Nat×Nat×Nat)) (Λ:c.α->Nat->jW) (i:∀c∈W,qH Tryz.prog c) (j:∀c∈L,Holds Tryz.prog c)
  
  (h:∀a,c.dom a->Vc (aor ⟨⟨afN L,(A2 W).C⟩,ZZ,mtN,g,fun _=>none,fun _=>false⟩ (Λ a) (fG c.f) (c.put a) fun v s=>v.same (c.res a)/\ME s (c.out a))) (l:(ym c.f).isSome=true:=by kernel_rfl) (b:∀a,(c.put a).length=(fG c.f).params:=by intro _;kernel_rfl) (d:∀a,c.st a=[]:=by intro _;rfl) (k:YA c.f W=none:=by kernel_rfl):qH Tryz.prog c:=
 fun a m=>by
  rw[d a]
  refine aBT (p:=⟨⟨afN L,(A2 W).C⟩,ZZ,mtN,g,fun _=>none,fun _=>false⟩) (Λ:=Λ a) (Q:=fun v s=>v.same (c.res a)/\ME s (c.out a)) (ad7 (Xy i) j acg) (ad8 (Xy i)) (fun _ _ h=>by cases h) (afQ l) ?_ (b a) (fun v s e=>⟨e.1,aha e.2⟩) (h a m).out
  simp_all[ace,adr,A2,aBU]
open Go.ChangeShapes Go.WideShapes Go.RowKit
abbrev noA:qa:=⟨fun _=>False,0⟩
instance (s:bD):Inhabited s.T:=⟨s.dflt⟩
theorem aBY (b:Nat):Fr noA [] b:=⟨by rintro⟨i,c,h⟩;simp at h,fun h=>h⟩
theorem aum {A:qa} {w:World} {σ:gB} {o:Store}:∀{vs:List Value},(∀v∈vs,v.oneCell'=true)->ey A w σ o (vs.map .sc) vs
 |[],_=>by simp[ey]
 |v::vs,h=>by
  simp only[List.map_cons,ey]
  exact⟨v,vs,rfl,by grind[cQ],aum fun u a=>h u (by simp[a])⟩
theorem aun {A:qa} {w:World} {σ:gB} {o:Store}:∀{a b:List AV} {x:Option Addr} {j:Nat},oQ A w σ o a x j->oQ A w σ o b x (j+a.length)->oQ A w σ o (a++b) x j
 |[],b,x,j,_,h=>by simpa using h
 |c::a,b,x,j,h,k=>by
  simp only[List.cons_append,oQ] at h ⊢
  refine⟨h.1,aun h.2 ?_⟩
  grind
def Reads (P:Program) (t:TypeId) (s:bD):Prop:=
 ∀(H:Type) (e:TypeId×Value->H) (w:World) (d:Nat) (a:Nat->Bool) (c:Bool) (b:Nat) (f:List Value) (x:DataW H×List MemPlace),DataW.trod e P w d a c b t f=some x->∃y:s.T,f=qb s y
theorem aBZ {P:Program} {t:TypeId} {k:IntKind} (a:P.underlying t=some (.int k)):Reads P t (.i k):=fun _ _ _ _ _ _ _ b _ h=>by
 obtain⟨n,rfl,_,_⟩:=DataW.trod_int a h
 exact⟨n,rfl⟩
theorem aB0 {w:World} {base n:Nat} {a:Addr} {cs:List Value} (h:w.cells? base a n=some cs):cs.length=n/\∀i v,cs[i]?=some v->w.cell? (a.add i)=some v:=by
 unfold World.cells? at h
 split at h
 ·obtain⟨c,f⟩:=akz h
  simp only[List.length_range] at c
  refine⟨c,fun i v d=>?_⟩
  have j:=(List.getElem?_eq_some_iff.1 d).1
  obtain⟨b,g,e⟩:=f i i (by simp_all)
  simp_all
 ·cases h
def ala (P:Program) (t:TypeId) (s:bD):Prop:=
 ∀(H:Type) (d:TypeId×Value->H) (w:World) (a:Nat->Bool) (c:Bool) (b:Nat) (e:List Value) (x:DataW H×List MemPlace),DataW.trod d P w 0 a c b t e=some x->∃y:s.T,ey noA w [] [] (qd s y) e
theorem Reads.g {P:Program} {t:TypeId} {s:bD} (h:Reads P t s) (i:s.flat=true:=by rfl):ala P t s:=fun H d w a c b e x f=>by
 obtain⟨y,rfl⟩:=h H d w 0 a c b e x f
 exact⟨y,by grind[akM,aum,akO]⟩
theorem auo {w:World} {a:Addr}:∀{cs:List AV} {vs:List Value} {j:Nat},ey noA w [] [] cs vs->(∀i v,vs[i]?=some v->w.cell? (a.add (j+i))=some v)->oQ noA w [] [] cs (some a) j
 |[],_,_,_,_=>by simp[oQ]
 |c::cs,vs,j,b,d=>by
  simp only[ey] at b
  obtain⟨v,r,rfl,e,f⟩:=b
  simp only[oQ]
  refine⟨⟨a,v,rfl,aBY _,by simpa using d 0 v (by simp),e⟩,auo f fun i u g=>?_⟩
  have:=d (i+1) u (by simp_all)
  grind
theorem aup {w:World} {a:Addr} {s:bD}:∀{l:List s.T} {i0:Nat},(∀i y,l[i]?=some y->∃cs,w.cells? 0 (a.add ((i0+i)*s.sz)) s.sz=some cs/\ey noA w [] [] (qd s y) cs)->oQ noA w [] [] (jY s l) (some a) (i0*s.sz)
 |[],_,_=>by simp[jY,oQ]
 |y::l,i0,h=>by
  obtain⟨cs,b,c⟩:=h 0 y (by simp)
  rw[Nat.add_zero] at b
  obtain⟨d,g⟩:=aB0 b
  have e:jY s (y::l)=qd s y++jY s l:=by simp[jY]
  rw[e]
  refine aun (auo c fun i v j=>?_) ?_
  ·grind[add_add]
  ·rw[X0,show i0*s.sz+s.sz=(i0+1)*s.sz from by grind]
   refine aup fun i z f=>?_
   have:=h (i+1) z (by simp_all)
   grind
theorem aB1 {P:Program} {t e:TypeId} {s:bD} (A:P.underlying t=some (.slice e)) (r:ala P e s) (I:P.cellsOf e=s.sz)
  {H:Type} {enc:TypeId×Value->H} {w:World} {c:Nat->Bool} {j:Bool} {d:Nat} {cs:List Value} {x:DataW H×List MemPlace} (h:DataW.trod enc P w 0 c j d t cs=some x):
  ∃(v:Value) (l:List s.T),cs=[v]/\cQ noA w [] [] (SV.row s l).g v:=by
 rcases Go.Deep.open_slice A h with⟨rfl,_⟩|⟨a,b,k,m,n,D,F,rfl,M,z,L,o,_,q⟩
 ·exact⟨_,[],rfl,by grind[SV.g,cQ,jY,pZ,oQ]⟩
 ·have B:b<=m:=by grind
  have C:∀i,i<b->∃y:s.T,∃cs,w.cells? 0 (a.add (i*s.sz)) s.sz=some cs/\ey noA w [] [] (qd s y) cs:=fun i J=>by
   obtain⟨p,K,E⟩:=q i (by omega)
   obtain⟨y,u⟩:=r _ _ _ _ _ _ _ _ E
   grind
  obtain⟨f,G⟩:=Go.Deep.choose_lt C
  refine⟨_,(List.range b).map f,rfl,?_⟩
  simp only[SV.g,cQ,List.length_map,List.length_range]
  refine⟨some a,k,rfl,z,acQ _ _,?_⟩
  have:=aup (w:=w) (a:=a) (s:=s) (l:=(List.range b).map f) (i0:=0) (fun i y u=>by
   grind)
  simp_all
theorem auq {P:Program} {t e:TypeId} {s:bD} (i:P.underlying t=some (.slice e)) (f:Reads P e s) (j:P.cellsOf e=s.sz)
  {H:Type} {enc:TypeId×Value->H} {w:World} {a:Nat->Bool} {c:Bool} {b:Nat} {cs:List Value} {x:DataW H×List MemPlace} (h:DataW.trod enc P w 0 a c b t cs=some x) (d:s.flat=true:=by rfl):
  ∃(v:Value) (l:List s.T),cs=[v]/\cQ noA w [] [] (SV.row s l).g v:=aB1 i (f.g d) j h
theorem aB2 {cs:List Value} {i:Nat} {v:Value} (h:(cs.drop i).take 1=[v]):cs[i]?=some v:=by
 have:((cs.drop i).take 1)[0]?=some v:=by rw[h];rfl
 grind
theorem aB3 {P:Program} {t e:TypeId} (s:P.underlying t=some (.array 6 e)) (F:P.underlying e=some (.int .i64)) (H:P.cellsOf e=1) (l:P.cellsOf t=6):Reads P t .uo:=fun _ _ _ _ _ _ _ c _ h=>by
 obtain⟨z,m,_,_,b,v,D⟩:=DataW.trod_array s h
 have a:∀i,i<6->∃n,c[i]?=some (.int .i64 n):=fun i w=>by
  grind[DataW.trod_int,aB2]
 rw[l] at b
 match c,b,a with
 |[C,A,I,G,B,E],_,a=>
  obtain⟨o,y⟩:=a 0 (by omega)
  obtain⟨x,d⟩:=a 1 (by omega)
  obtain⟨p,u⟩:=a 2 (by omega)
  obtain⟨j,r⟩:=a 3 (by omega)
  obtain⟨k,f⟩:=a 4 (by omega)
  obtain⟨q,g⟩:=a 5 (by omega)
  simp only[List.getElem?_cons_zero,List.getElem?_cons_succ,Option.some.injEq] at y d u r f g
  exact⟨⟨o,x,p,j,k,q⟩,by grind[qb,iv]⟩
theorem aB4 {P:Program} {t b i v:TypeId} {fs:Array Field} (w:P.underlying t=some (.struct fs)) (r:P.cellsOf t=8) (N:(fs[0]?).map (fun f=>(f.type,f.offset))=some (i,0)) (O:(fs[1]?).map (fun f=>(f.type,f.offset))=some (b,1)) (u:(fs[2]?).map (fun f=>(f.type,f.offset))=some (v,7))
  (x:P.underlying i=some (.int .i64)) (e:P.cellsOf i=1) (q:P.underlying v=some (.int .i64)) (k:P.cellsOf v=1) (z:Reads P b .uo) (d:P.cellsOf b=6) (I:fs.size=3):Reads P t .off:=fun _ _ _ _ _ _ _ B _ h=>by
 obtain⟨T,m,_,_,n,K,j⟩:=DataW.trod_struct w h
 rw[r] at n
 obtain⟨F,C,g⟩:=Option.map_eq_some_iff.1 N
 obtain⟨s,D,c⟩:=Option.map_eq_some_iff.1 O
 obtain⟨J,A,a⟩:=Option.map_eq_some_iff.1 u
 simp only[Prod.mk.injEq] at g c a
 have o:=j 0 F C
 have l:=j 1 s D
 have p:=j 2 J A
 rw[g.1,g.2,e,List.getElem?_eq_getElem (by omega)] at o
 rw[c.1,c.2,d,List.getElem?_eq_getElem (by omega)] at l
 rw[a.1,a.2,k,List.getElem?_eq_getElem (by omega)] at p
 obtain⟨G,M,_⟩:=DataW.trod_int x o
 obtain⟨y,E⟩:=z _ _ _ _ _ _ _ _ _ l
 obtain⟨H,L,_⟩:=DataW.trod_int q p
 match B,n with
 |[S,U,R,V,Y,X,Q,W],_=>
  simp[qb] at M E L
  exact⟨⟨G,y,H⟩,by grind[qb,iv]⟩
theorem aB5 {P:Program} {t b k o:TypeId} {fs:Array Field} (ht:P.underlying t=some (.struct fs)) (hn:P.cellsOf t=20) (a7:fs.size=5)
  (h0:(fs[0]?).map (fun f=>(f.type,f.offset))=some (b,0)) (h1:(fs[1]?).map (fun f=>(f.type,f.offset))=some (b,6)) (h2:(fs[2]?).map (fun f=>(f.type,f.offset))=some (b,12))
  (U:(fs[3]?).map (fun f=>(f.type,f.offset))=some (k,18)) (h4:(fs[4]?).map (fun f=>(f.type,f.offset))=some (o,19))
  (s:Reads P b .uo) (d:P.cellsOf b=6) {e:TypeId} (hk:P.underlying k=some (.slice e)) (z:Reads P e (.i .i64)) (A:P.cellsOf e=1) (y:P.cellsOf k=1)
  {f:TypeId} (ho:P.underlying o=some (.slice f)) (F:Reads P f .off) (u:P.cellsOf f=8) (v:P.cellsOf o=1)
  {H:Type} {enc:TypeId×Value->H} {w:World} {c:Nat->Bool} {q:Bool} {j:Nat} {cs:List Value} {x:DataW H×List MemPlace} (h:DataW.trod enc P w 0 c q j t cs=some x):
  ∃p:cn,ey noA w [] [] (gL p.ss) cs:=by
 obtain⟨xs,m,_,_,O,a1,l⟩:=DataW.trod_struct ht h
 rw[hn] at O
 obtain⟨f0,e0,E⟩:=Option.map_eq_some_iff.1 h0
 obtain⟨f1,e1,D⟩:=Option.map_eq_some_iff.1 h1
 obtain⟨Z,e2,r⟩:=Option.map_eq_some_iff.1 h2
 obtain⟨f3,T,B⟩:=Option.map_eq_some_iff.1 U
 obtain⟨f4,e4,C⟩:=Option.map_eq_some_iff.1 h4
 simp only[Prod.mk.injEq] at E D r B C
 have S:=l 0 f0 e0
 have I:=l 1 f1 e1
 have R:=l 2 Z e2
 have J:=l 3 f3 T
 have M:=l 4 f4 e4
 rw[E.1,E.2,d,List.getElem?_eq_getElem (by omega)] at S
 rw[D.1,D.2,d,List.getElem?_eq_getElem (by omega)] at I
 rw[r.1,r.2,d,List.getElem?_eq_getElem (by omega)] at R
 rw[B.1,B.2,y,List.getElem?_eq_getElem (by omega)] at J
 rw[C.1,C.2,v,List.getElem?_eq_getElem (by omega)] at M
 obtain⟨y0,K⟩:=s _ _ _ _ _ _ _ _ _ S
 obtain⟨y1,Q⟩:=s _ _ _ _ _ _ _ _ _ I
 obtain⟨y2,G⟩:=s _ _ _ _ _ _ _ _ _ R
 obtain⟨v3,l3,L,r3⟩:=auq hk z A J
 obtain⟨v4,W,N,r4⟩:=auq ho F u M
 match cs,O with
 |[c0,c1,c2,c3,c4,c5,c6,c7,c8,c9,a0,a5,V,a6,a8,a2,a4,Y,a3,X],_=>
  simp[qb,iv] at K Q G L N
  obtain⟨rfl,rfl,rfl,rfl,rfl,rfl⟩:=K
  obtain⟨rfl,rfl,rfl,rfl,rfl,rfl⟩:=Q
  obtain⟨rfl,rfl,rfl,rfl,rfl,rfl⟩:=G
  subst L;subst N
  refine⟨⟨y0,y1,y2,l3,W⟩,?_⟩
  have a:∀n:Int,cQ noA w [] [] (SV.si .i64 n).g (.int .i64 n):=fun n=>by simp[SV.g,cQ,Value.oneCell']
  simp only[cn.ss,gL,ey]
  exact⟨_,_,rfl,a _,_,_,rfl,a _,_,_,rfl,a _,_,_,rfl,a _,_,_,rfl,a _,_,_,rfl,a _,_,_,rfl,a _,_,_,rfl,a _,_,_,rfl,a _,_,_,rfl,a _,_,_,rfl,a _,_,_,rfl,a _,
   _,_,rfl,a _,_,_,rfl,a _,_,_,rfl,a _,_,_,rfl,a _,_,_,rfl,a _,_,_,rfl,a _,_,_,rfl,r3,_,_,rfl,r4,rfl⟩
theorem aB6 {P:Program} {w:World} {r:Reach} {base:Nat} {t:TypeId} {v:Value} {fs:Array Field} (a:P.underlying t=some (.struct fs)) (h:Value.okWide P w r base t v):∃cs,v= .agg cs/\v.cells.toList=cs.toList:=by
 unfold Value.okWide at h;rw[a] at h
 obtain⟨cs,rfl,_⟩:=h
 exact⟨cs,rfl,rfl⟩
theorem aB7 {P:Program} {w:World} {r:Reach} {base:Nat} {t:TypeId} {k:IntKind} {v:Value} (a:P.underlying t=some (.int k)) (h:Value.okWide P w r base t v):v.cells.toList=[v]:=by
 cases v with
 |agg b=>simp_all[Value.okWide,Cell.okWide,Cell.ok]
 |_=>rfl
theorem aur {H:Type} {enc:TypeId×Value->H} {P:Program} (j:laidOutB P=true) {W l:World} (n:Below W.heap.size W l) {m:Nat->Bool}:
  ∀{f:List TypeId} {vs:List Value} {i:List (DataW H)} {g:List MemPlace},DataW.TrodAll enc P W 0 (fun _=>true) true f vs i g->(∀t∈f,P.readableRec t=true/\t<P.types.size)->(∀p∈g,p.block<W.heap.size)->(∀p∈g,m p.block=true)->
   DataW.TrodAll enc P l 0 m true f vs i g
 |[],_,_,_,h,_,_,_=>by
  obtain⟨rfl,rfl,rfl⟩:=trodAll_nil h
  exact rfl
 |t::f,_,_,_,h,o,e,k=>by
  obtain⟨v,vs,d,i,a,b,rfl,rfl,rfl,r,s⟩:=trodAll_cons h
  obtain⟨x,q⟩:=o t (by simp)
  exact⟨a,b,WideElems.Trod_stays j x q r (fun p c=>n.same (e p (by simp[c]))) (fun p c=>k p (by simp[c])),
   aur j n s (fun u w=>o u (by simp[w])) (fun p c=>e p (by simp[c])) (fun p c=>k p (by simp[c])),rfl⟩
theorem aB8 {W b:World} {a:gB} {o':Store} (h:Ext W [] [] b a o'):Below W.heap.size W b:=
 ⟨h.os,h.tape,h.output,h.size,fun k e=>(h.blk k e (by rintro⟨i,c,d⟩;simp at d)).1⟩
@[simp] theorem aB9 {k c:IntKind} {a b:Int}:(SV.si k a).same (.si c b)↔k=c/\a=b:=by simp[SV.same,SV.g]
@[simp] theorem aCa {k c:IntKind} {a b:Int}:(SV.il k a).same (.si c b)↔k=c/\a=b:=by simp[SV.same,SV.g]
@[simp] theorem alb {a b:Bool}:(SV.sb a).same (.sb b)↔a=b:=by simp[SV.same,SV.g]
@[simp] theorem aus {a b:Bool}:(SV.bl a).same (.sb b)↔a=b:=by simp[SV.same,SV.g]
@[simp] theorem aCb {s:bD} {a b:List s.T}:(SV.row s a).same (.row s b)↔a=b:=by
 constructor
 ·intro h;simp only[SV.same,SV.g,AV.sl.injEq] at h;exact Yg s h.1 h.2
 ·rintro rfl;rfl
@[simp] theorem aCc {k c:IntKind} {a b:Int}:(SV.si k a).same (.il c b)↔k=c/\a=b:=by simp[SV.same,SV.g]
@[simp] theorem aCd {k c:IntKind} {a b:Int}:(SV.il k a).same (.il c b)↔k=c/\a=b:=by simp[SV.same,SV.g]
theorem aCe {v:SV}:v.same v↔True:=iff_true_intro rfl
theorem Ui {v:cC}:v.same v↔True:=iff_true_intro rfl
theorem aCf {a b c d:SV}:(SV.eW [a,b]).same (.eW [c,d])↔a.same c/\b.same d:=by simp[SV.same,SV.g,gL]
theorem aCg {a b c d e f:SV}:(SV.eW [a,b,c]).same (.eW [d,e,f])↔a.same d/\b.same e/\c.same f:=by simp[SV.same,SV.g,gL]
theorem aot {s t:bD}:(SV.row s []).same (.row t [])↔True:=iff_true_intro (by simp[SV.same,SV.g,jY])
theorem aut {s:bD} {l:List s.T}:(SV.row (.i .i64) []).same (.row s l)↔l=[]:=by
 constructor
 ·grind[SV.same,SV.g]
 ·rintro rfl;exact aot.2 trivial
theorem alc {a b:dp}:a=b↔a.a0=b.a0/\a.a1=b.a1/\a.a2=b.a2/\a.a3=b.a3/\a.a4=b.a4/\a.a5=b.a5:=by
 obtain⟨k,c,n,f,d,l⟩:=a
 obtain⟨g,i,e,h,m,j⟩:=b
 simp_all
@[simp] theorem aCh {n:Int}:iR .i64 n↔ -9223372036854775808<=n/\n<=9223372036854775807:=Iff.rfl
theorem vcs:(∀{p:Prop} [h:Decidable p],(decide p=true)=p)/\(∀{p:Prop} {x:Decidable p},decide p=false↔¬p)/\(∀{k g:IntKind} {a b:Int},(SV.il k a).same (SV.si g b)↔k=g/\a=b)/\(∀{k g:IntKind} {a b:Int},(SV.si k a).same (SV.si g b)↔k=g/\a=b)/\(∀{k g:IntKind} {a b:Int},(SV.si k a).same (SV.il g b)↔k=g/\a=b)/\(∀{k g:IntKind} {a b:Int},(SV.il k a).same (SV.il g b)↔k=g/\a=b)/\(∀{a b:Bool},(SV.sb a).same (SV.sb b)↔a=b)/\(∀{a b:Bool},(SV.bl a).same (SV.sb b)↔a=b)/\(∀{s:bD} {a b:List s.T},(SV.row s a).same (SV.row s b)↔a=b)/\(∀{a b c d:SV},(SV.eW [a,b]).same (SV.eW [c,d])↔a.same c/\b.same d)/\(∀{a b c d e f:SV},(SV.eW [a,b,c]).same (SV.eW [d,e,f])↔a.same d/\b.same e/\c.same f)/\(∀{s t:bD},(SV.row s []).same (SV.row t [])↔True)/\(∀{s:bD} {l:List s.T},(SV.row (bD.i IntKind.i64) []).same (SV.row s l)↔l=[])/\(∀{v:SV},v.same v↔True)/\(∀{v:cC},v.same v↔True)/\(∀{n:Int},iR IntKind.i64 n↔ -9223372036854775808<=n/\n<=9223372036854775807)/\(∀p:Prop,(True/\p)=p)/\(∀p:Prop,(p/\True)=p)/\(∀a b:Bool,((a&&b)=true)=(a=true/\b=true))/\(∀b:Bool,((!b)=true)=(b=false))/\(∀b:Bool,((!b)=false)=(b=true)):=
 ⟨decide_eq_true_eq,decide_eq_false_iff_not,aCa,aB9,aCc,aCd,alb,aus,aCb,aCf,aCg,aot,aut,aCe,Ui,aCh,true_and,and_true,Bool.and_eq_true,Bool.not_eq_true',Bool.not_eq_false'⟩
def dp.ok (b:dp):Bool:=[b.a0,b.a1,b.a2,b.a3,b.a4,b.a5].all fun n=>decide (0<=n)&&decide (n<=4)
theorem dp.Kz {b:dp}:b.ok=true↔(0<=b.a0/\b.a0<=4)/\(0<=b.a1/\b.a1<=4)/\(0<=b.a2/\b.a2<=4)/\(0<=b.a3/\b.a3<=4)/\(0<=b.a4/\b.a4<=4)/\(0<=b.a5/\b.a5<=4):=by
 simp[dp.ok]
def aou:fN:=⟨93,dp,.one (yl .uo),fun _=>True,fun b=> .si .i64 (if b.ok=true then 0 else 4)⟩
theorem h146:Holds Tryz.prog aou:=by
 refine lj (L:=[]) aou (fun _ _=> .ado 7) (by simp) ?_
 intro b _
 refine gw (let h:=SV.il .i64;let p:=(0:Int);let q:=(4:Int);let i:=decide (b.a0<p);let a:=SV.si .i64 (if dp.ok b=true then p else q);let l:=decide (q<b.a0);let k:=decide (b.a1<p);let m:=decide (q<b.a1);let o:=decide (b.a2<p);let j:=decide (q<b.a2);let n:=decide (b.a3<p);let f:=decide (q<b.a3);let g:=decide (b.a4<p);let d:=decide (q<b.a4);let c:=decide (b.a5<p);let e:=decide (q<b.a5);(i=true->(h 4).same a)/\(i=false->(l=true->(h 4).same a)/\(l=false->(k=true->(h 4).same a)/\(k=false->(m=true->(h 4).same a)/\(m=false->(o=true->(h 4).same a)/\(o=false->(j=true->(h 4).same a)/\(j=false->(n=true->(h 4).same a)/\(n=false->(f=true->(h 4).same a)/\(f=false->(g=true->(h 4).same a)/\(g=false->(d=true->(h 4).same a)/\(d=false->(c=true->(h 4).same a)/\(c=false->(e=true->(h 4).same a)/\(e=false->(h 0).same a))))))))))))) (by kernel_rfl) ?_
 conv=>zeta
 have p:=@dp.Kz b
 by_cases h:b.ok=true<;>simp_all
def dp.l (b:dp):List Int:=[b.a0,b.a1,b.a2,b.a3,b.a4,b.a5]
def nq (p:cn):Int:=p.classes.length+12
def pg (p:cn) (r:Int):Int:=
 if r - p.classes.length<0 then 1
 else if r - p.classes.length<6 then bo [p.supply.a0,p.supply.a1,p.supply.a2,p.supply.a3,p.supply.a4,p.supply.a5] (r - p.classes.length).toNat 0
 else bo [p.opn.a0,p.opn.a1,p.opn.a2,p.opn.a3,p.opn.a4,p.opn.a5] (r - p.classes.length - 6).toNat 0
def uu (p:cn) (r:Int) (o:Off):Int:=
 if r - p.classes.length<0 then(if o.iy=r then 1 else 0)
 else if r - p.classes.length<6 then bo [o.want.a0,o.want.a1,o.want.a2,o.want.a3,o.want.a4,o.want.a5] (r - p.classes.length).toNat 0
 else if bo [p.cls.a0,p.cls.a1,p.cls.a2,p.cls.a3,p.cls.a4,p.cls.a5] (r - p.classes.length - 6).toNat 0=0\/bo [p.cls.a0,p.cls.a1,p.cls.a2,p.cls.a3,p.cls.a4,p.cls.a5] (r - p.classes.length - 6).toNat 0=bo p.classes o.iy.toNat 0 then 0
 else bo [o.want.a0,o.want.a1,o.want.a2,o.want.a3,o.want.a4,o.want.a5] (r - p.classes.length - 6).toNat 0
def ahh:fN:=⟨97,cn,.one ql,fun p=>p.classes.length<=8,fun p=> .si .i64 (nq p)⟩
def ahi:fN:=⟨98,cn×Int,.cons ql (.one (sj .i64)),fun a=>a.1.classes.length<=8/\0<=a.2/\a.2<nq a.1,fun a=> .si .i64 (pg a.1 a.2)⟩
def ahj:fN:=⟨99,cn×Int×Off,.cons ql (.cons (sj .i64) (.one (yl .off))),fun a=>a.1.classes.length<=8/\0<=a.2.1/\a.2.1<nq a.1/\0<=a.2.2.iy/\a.2.2.iy<a.1.classes.length,fun a=> .si .i64 (uu a.1 a.2.1 a.2.2)⟩
theorem h157:Holds Tryz.prog ahh:=by
 refine lj (L:=[]) ahh (fun _ _=> .ado 7) (by simp) ?_
 intro p (b:p.classes.length<=8)
 refine gw (let a:=(↑p.classes.length:Int)+(12:Int);iR .i64 a/\(SV.si .i64 a).same (SV.si .i64 (nq p))) (by kernel_rfl) ?_
 simp only[vcs,nq];omega
theorem h158:Holds Tryz.prog ahi:=by
 refine lj (L:=[]) ahi (fun _ _=> .ado 7) (by simp) ?_
 rintro⟨p,r⟩ ⟨h,j,i⟩
 simp only[nq] at h j i
 refine gw (let h:=(6:Int);let i:=(0:Int);let d:=SV.si .i64 (pg p r);let c:=(↑p.classes.length:Int);let g:=decide (r - c<i);let e:=decide (r - c<h);let f:=fun(u b:Int) (a:dp) ↦i<=u - b/\u - b<h/\(u - b).toNat<6/\(SV.si .i64 (bo [a.a0,a.a1,a.a2,a.a3,a.a4,a.a5] (u - b).toNat i)).same d;iR .i64 (r - c)/\(g=true->(SV.il .i64 1).same d)/\(g=false->(e=true->f r c p.supply)/\(e=false->iR .i64 (r - c - h)/\f (r - c) h p.opn))) (by kernel_rfl) ?_
 simp only[vcs]
 grind[pg]
theorem h156:Holds Tryz.prog ahj:=by
 refine lj (L:=[]) ahj (fun _ _=> .ado 7) (by simp) ?_
 rintro⟨p,r,x⟩ ⟨m,q,n,l,o⟩
 simp only[nq] at m q n l o
 refine gw (let l:=(0:Int);let m:=(6:Int);let n:=SV.il .i64;let o:=SV.il .i64 0;let q:=SV.si .i64;let b:=(↑p.classes.length:Int);let e:=decide (r - b<l);let c:=q (uu p r x);let h:=decide (r - b<m);let k:=[x.want.a0,x.want.a1,x.want.a2,x.want.a3,x.want.a4,x.want.a5];let a:=r - b - m;let j:=bo [p.cls.a0,p.cls.a1,p.cls.a2,p.cls.a3,p.cls.a4,p.cls.a5] a.toNat l;let i:=decide (j=l);let g:=decide (j=bo p.classes x.iy.toNat l);let d:=decide (x.iy=r);let f:=(e=true->(n 0).same c)/\(e=false->(h=true->l<=r - b/\r - b<m/\(r - b).toNat<6/\(q (bo k (r - b).toNat l)).same c)/\(h=false->iR .i64 a/\l<=a/\a<m/\a.toNat<6/\(i=true->(n 0).same c)/\(i=false->l<=a/\a<m/\a.toNat<6/\l<=x.iy/\x.iy<b/\x.iy.toNat<p.classes.length/\(g=true->(n 0).same c)/\(g=false->l<=a/\a<m/\a.toNat<6/\(q (bo k a.toNat l)).same c))));iR .i64 (r - b)/\(e=true->(d=true->(n 1).same c)/\(d=false->f))/\(e=false->f)) (by kernel_rfl) ?_
 simp only[vcs]
 repeat' (first|refine And.intro ?_ ?_|intro _)
 all_goals first
  |trivial
  |omega
  |(simp only[uu];(repeat' split)<;>first|rfl|omega)
def L2:List fN:=[ahj,ahh,ahi]
theorem hL2:∀c∈L2,Holds Tryz.prog c:=by
 simp_all[L2,h156,h157,h158]
def lT (p:cn) (l:List Off) (r:Int):Int:=(l.map (uu p r)).sum
def yx (p:cn) (l:List Off):Bool:=(List.range (p.classes.length+12)).all fun r=>decide (lT p l r<=pg p r)
def ald:fN:=⟨75,cn×List Off,.cons ql (.one (qX .off)),fun a=>a.1.classes.length<=8/\a.2.length<=1000/\(∀x∈a.2,0<=x.iy/\x.iy<a.1.classes.length/\x.want.ok=true),fun a=> .sb (yx a.1 a.2)⟩
def aCi (a:cn×List Off):Nat->jW
 |3=> .inv Int (fun i=>⟨[(1,.row .off a.2),(2,.ptr 0 0 20),(5,.fn (.func 99) [] []),(11,.si .i64 (nq a.1)),(12,.si .i64 i)],[.cells a.1.ss 98 20 false]⟩) (fun s=>iS s 12)
  (fun i=>0<=i/\i<=nq a.1/\∀r:Nat,r<i->lT a.1 a.2 r<=pg a.1 r) (fun i=>(nq a.1 - i).toNat)
  fun i=>fun
   |7=> .inv (Int×Int) (fun x=>⟨[(1,.row .off a.2),(2,.ptr 0 0 20),(5,.fn (.func 99) [] []),(6,.si .i64 i),(7,.si .i64 x.2),(11,.si .i64 (nq a.1)),(12,.si .i64 i),(15,.row .off a.2),(16,.si .i64 a.2.length),(17,.si .i64 x.1)],[.cells a.1.ss 98 20 false]⟩)
    (fun s=>(iS s 17,iS s 7))
    (fun x=>0<=x.1/\x.1<=a.2.length/\x.2=lT a.1 (a.2.take x.1.toNat) i) (fun x=>(a.2.length - x.1).toNat) fun _ _=> .look
   |_=> .look
 |_=> .look
theorem aov {b:dp} (h:b.ok=true) (k:Nat):0<=bo [b.a0,b.a1,b.a2,b.a3,b.a4,b.a5] k 0/\bo [b.a0,b.a1,b.a2,b.a3,b.a4,b.a5] k 0<=4:=by
 grind[dp.Kz,bo]
theorem adt {p:cn} {r:Int} {o:Off} (h:o.want.ok=true):0<=uu p r o/\uu p r o<=4:=by
 unfold uu
 have a:=aov h (r - p.classes.length).toNat
 have b:=aov h (r - p.classes.length - 6).toNat
 omega
theorem aeS {p:cn} {r:Int}:∀{l:List Off},(∀x∈l,x.want.ok=true)->0<=lT p l r/\lT p l r<=4*l.length
 |[],_=>by simp[lT]
 |x::l,h=>by
  have b:=@adt p r x (h x (by simp))
  have c:=@aeS p r l fun y a=>h y (by simp[a])
  grind[lT]
theorem nA {a:Type} {l:List a} {i:Nat} {d:a} (h:i<l.length):bo l i d∈l:=by grind[jV]
theorem aal {a:Type} {l:List a} {i:Int} {d:a} (b:0<=i) (h:i<l.length):l.take (i+1).toNat=l.take i.toNat++[bo l i.toNat d]:=by
 rw[show(i+1).toNat=i.toNat+1 from by omega,jV (by omega),List.take_succ_eq_append_getElem (by omega)]
theorem aow {p:cn} {r:Int} {l:List Off} {i:Int} {d:Off} (a:0<=i) (h:i<l.length):lT p (l.take (i+1).toNat) r=lT p (l.take i.toNat) r+uu p r (bo l i.toNat d):=by
 grind[aal,lT]
theorem abk {p:cn} {l:List Off}:yx p l=true↔∀r:Nat,r<nq p->lT p l r<=pg p r:=by
 simp only[yx,nq,List.all_eq_true,List.mem_range,decide_eq_true_eq]
 grind
theorem h134:Holds Tryz.prog ald:=by
 refine lj (L:=L2) ald aCi hL2 ?_
 rintro⟨p,l⟩ ⟨A,R,z⟩
 simp only at A R z
 refine gw (let d:=SV.si .i64;let i:=(0:Int);let j:=SV.row;let s:=SV.il .i64 0;let u:=SV.il .i64;let w:=iR .i64;let f:=SV.ptr 0 0 20;let e:=SV.fn (Fn.func 99) [] [];let h:=d (nq p);let k:=cC.cells (cn.ss p) 98 20 false;let g:=(↑l.length:Int);let v:=d g;p.classes.length<=8/\((((j bD.off l).same (j bD.off l)/\f.same f/\e.same e/\h.same h/\(s).same (d 0)/\True)/\k.same k/\True)/\i<=i/\i<=nq p/\∀(r:Nat),(↑r:Int)<i->lT p l (↑r:Int)<=pg p (↑r:Int))/\∀(x:Int),let D:=decide (x<nq p);let n:=x+(1:Int);let F:=d n;(i<=x/\x<=nq p/\∀(r:Nat),(↑r:Int)<x->lT p l (↑r:Int)<=pg p (↑r:Int))->(D=true->((((j bD.off l).same (j bD.off l)/\f.same f/\e.same e/\(d x).same (d x)/\(s).same (d 0)/\h.same h/\(d x).same (d x)/\(j bD.off l).same (j bD.off l)/\(d (↑l.length:Int)).same v/\(s).same (d 0)/\True)/\k.same k/\True)/\i<=i/\i<=g/\i=lT p [] x)/\∀(a:Int×Int),let C:=bo l a.fst.toNat bD.off.dflt;let m:=a.snd+uu p x C;let b:=a.fst+(1:Int);let c:=d x;let o:=d m;let t:=d b;let q:=decide (pg p x<a.snd);i<=a.fst/\a.fst<=g/\a.snd=lT p (List.take a.fst.toNat l) x->(decide (a.fst<g)=true->i<=a.fst/\a.fst<(↑l.length:Int)/\a.fst.toNat<l.length/\(p.classes.length<=8/\i<=x/\x<nq p/\i<=C.iy/\C.iy<(↑p.classes.length:Int))/\w m/\w b/\(((j bD.off l).same (j bD.off l)/\f.same f/\e.same e/\c.same c/\o.same o/\h.same h/\c.same c/\(j bD.off l).same (j bD.off l)/\v.same v/\t.same t/\True)/\k.same k/\True)/\(i<=b/\b<=g/\m=lT p (List.take b.toNat l) x)/\(g - b).toNat<(g - a.fst).toNat)/\(decide (a.fst<g)=false->(p.classes.length<=8/\i<=x/\x<nq p)/\(q=true->(SV.bl false).same (SV.sb (yx p l)))/\(q=false->w n/\(((j bD.off l).same (j bD.off l)/\f.same f/\e.same e/\h.same h/\F.same F/\True)/\k.same k/\True)/\(i<=n/\n<=nq p/\∀(r:Nat),(↑r:Int)<n->lT p l (↑r:Int)<=pg p (↑r:Int))/\(nq p - n).toNat<(nq p - x).toNat)))/\(D=false->(SV.bl true).same (SV.sb (yx p l)))) (by kernel_rfl) ?_
 simp only[vcs]
 have U:nq p=p.classes.length+12:=rfl
 have P:∀x∈l,x.want.ok=true:=fun x y=>(z x y).2.2
 refine⟨A,⟨by omega,by omega,fun r K=>by omega⟩,?_⟩
 rintro i ⟨O,I,V⟩
 refine⟨fun Q=>⟨⟨by omega,by omega,by simp[lT]⟩,?_⟩,?_⟩
 ·rintro⟨j,s⟩ ⟨w,u,E⟩
  simp only at w u E ⊢
  have S:=@aeS p i (l.take j.toNat) fun x y=>P x (List.mem_of_mem_take y)
  have G:(l.take j.toNat).length<=l.length:=by simp;omega
  refine⟨fun B=>?_,fun B=>?_⟩
  ·have M:=z _ (nA (d:=bD.off.dflt) (show j.toNat<l.length by omega))
   have T:=@adt p i _ M.2.2
   grind[aow]
  ·have:j.toNat=l.length:=by omega
   rw[this,List.take_length] at E
   refine⟨⟨A,by omega,by omega⟩,fun H=>?_,fun N=>⟨by omega,⟨by omega,by omega,fun r K=>?_⟩,by omega⟩⟩
   ·symm
    rw[Bool.eq_false_iff];intro J
    have:=abk.1 J i.toNat (by omega)
    grind
   grind
 grind[abk]
def L3:List fN:=[ald,aou,ahj,ahh,ahi]
theorem hL3:∀c∈L3,Holds Tryz.prog c:=by
 simp only[L3,List.forall_mem_cons,List.not_mem_nil,false_implies,implies_true,and_true]
 grind[h134,h146,h156,h157,h158]
def Gu (p:cn) (k:Nat):Prop:=
 let c:=bo [p.cls.a0,p.cls.a1,p.cls.a2,p.cls.a3,p.cls.a4,p.cls.a5] k 0
 let o:=bo [p.opn.a0,p.opn.a1,p.opn.a2,p.opn.a3,p.opn.a4,p.opn.a5] k 0
 let s:=bo [p.supply.a0,p.supply.a1,p.supply.a2,p.supply.a3,p.supply.a4,p.supply.a5] k 0
 0<=c/\c<=4/\0<=o/\o<=s/\(c≠0\/o=s)
instance (p:cn) (k:Nat):Decidable (Gu p k):=by unfold Gu;infer_instance
def ale (p:cn):Bool:=(List.range 6).all fun k=>decide (Gu p k)
theorem abl {p:cn} {k:Nat}:Gu p k↔(0<=bo [p.cls.a0,p.cls.a1,p.cls.a2,p.cls.a3,p.cls.a4,p.cls.a5] k 0/\bo [p.cls.a0,p.cls.a1,p.cls.a2,p.cls.a3,p.cls.a4,p.cls.a5] k 0<=4/\0<=bo [p.opn.a0,p.opn.a1,p.opn.a2,p.opn.a3,p.opn.a4,p.opn.a5] k 0/\
  bo [p.opn.a0,p.opn.a1,p.opn.a2,p.opn.a3,p.opn.a4,p.opn.a5] k 0<=bo [p.supply.a0,p.supply.a1,p.supply.a2,p.supply.a3,p.supply.a4,p.supply.a5] k 0/\
  (bo [p.cls.a0,p.cls.a1,p.cls.a2,p.cls.a3,p.cls.a4,p.cls.a5] k 0≠0\/bo [p.opn.a0,p.opn.a1,p.opn.a2,p.opn.a3,p.opn.a4,p.opn.a5] k 0=bo [p.supply.a0,p.supply.a1,p.supply.a2,p.supply.a3,p.supply.a4,p.supply.a5] k 0)):=Iff.rfl
attribute [irreducible] Gu
theorem aiT {p:cn}:ale p=true↔∀k,k<6->Gu p k:=by simp[ale]
def EH (p:cn):Int:=
 if p.supply.ok=false then 4
 else if ale p=false then 4
 else if 8<p.classes.length\/160<p.offers.length then 3
 else if ¬∀c∈p.classes,0<=c/\c<=4 then 4
 else 0
def aox:fN:=⟨58,cn,.one ql,fun p=>True,fun p=> .si .i64 (EH p)⟩
def aCj (p:cn):Nat->jW
 |5=> .inv Int (fun k=>⟨[(1,.ptr 0 0 20),(16,.si .i64 k)],[.cells p.ss 98 20 false]⟩) (fun s=>iS s 16) (fun k=>0<=k/\k<=6/\∀j:Nat,j<k->Gu p j) (fun k=>(6 - k).toNat) fun _ _=> .look
 |14=> .inv Int (fun k=>⟨[(76,.row (.i .i64) p.classes),(77,.si .i64 p.classes.length),(78,.si .i64 k)],[.cells p.ss 98 20 false]⟩) (fun s=>iS s 78)
  (fun k=>0<=k/\k<=p.classes.length/\∀c∈p.classes.take k.toNat,0<=c/\c<=4) (fun k=>(p.classes.length - k).toNat) fun _ _=> .look
 |_=> .look
theorem auu {p:cn} (h:p.supply.ok=false):EH p=4:=by simp[EH,h]
theorem auv {p:cn} (h:p.supply.ok=true) {k:Nat} (b:k<6) (a:¬Gu p k):EH p=4:=by
 grind[aiT,EH]
theorem alf {p:cn} (h:p.supply.ok=true) (b:∀j:Nat,j<6->Gu p j) (a:8<p.classes.length\/160<p.offers.length):EH p=3:=by
 grind[EH,aiT]
theorem alg {p:cn} (h:p.supply.ok=true) (f:∀j:Nat,j<6->Gu p j) (e:¬(8<p.classes.length\/160<p.offers.length)) {c:Int} (b:c∈p.classes) (a:¬(0<=c/\c<=4)):EH p=4:=by
 have:¬∀c∈p.classes,0<=c/\c<=4:=fun d=>a (d c b)
 simp_all[EH]
theorem aoy {p:cn} (h:p.supply.ok=true) (b:∀j:Nat,j<6->Gu p j) (d:¬(8<p.classes.length\/160<p.offers.length)) (a:∀c∈p.classes,0<=c/\c<=4):EH p=0:=by
 simp_all[EH,aiT,if_neg]
theorem aeT {p:cn} (h:EH p=0):p.supply.ok=true/\(∀j:Nat,j<6->Gu p j)/\p.classes.length<=8/\p.offers.length<=160/\∀c∈p.classes,0<=c/\c<=4:=by
 unfold EH at h;split at h
 ·cases h
 ·split at h
  ·cases h
  ·split at h
   all_goals simp_all[aiT]
theorem auw {l:List Int} {i:Int} {P:Int->Prop} (d:0<=i) (h:i<l.length) (a:∀c∈l.take i.toNat,P c) (b:P (bo l i.toNat 0)):∀c∈l.take (i+1).toNat,P c:=by
 grind[aal]
theorem h118:Holds Tryz.prog aox:=by
 refine lj (L:=L3) aox aCj hL3 ?_
 intro p _
 refine gw (let b:=SV.si .i64;let d:=(0:Int);let h:=SV.il .i64;let k:=(6:Int);let s:=(4:Int);let V:=if p.supply.ok=true then d else s;let g:=b (EH p);let M:=SV.ptr 0 0 20;let N:=h 0;let y:=SV.row (bD.i .i64) p.classes;let n:=cC.cells [b p.supply.a0,b p.supply.a1,b p.supply.a2,b p.supply.a3,b p.supply.a4,b p.supply.a5,b p.opn.a0,b p.opn.a1,b p.opn.a2,b p.opn.a3,b p.opn.a4,b p.opn.a5,b p.cls.a0,b p.cls.a1,b p.cls.a2,b p.cls.a3,b p.cls.a4,b p.cls.a5,y,SV.row bD.off p.offers] 98 20 false;let w:=[p.cls.a0,p.cls.a1,p.cls.a2,p.cls.a3,p.cls.a4,p.cls.a5];let Y:=[p.opn.a0,p.opn.a1,p.opn.a2,p.opn.a3,p.opn.a4,p.opn.a5];let Z:=[p.supply.a0,p.supply.a1,p.supply.a2,p.supply.a3,p.supply.a4,p.supply.a5];let o:=(↑p.classes.length:Int);let I:=decide ((8:Int)<o);let A:=decide ((160:Int)<(↑p.offers.length:Int));let a:=(↑p.classes.length:Int);let r:=b a;let U:=fun(u:Bool) ↦decide (V≠d)=u;True/\(U true->(b V).same g)/\(U false->(((M.same M/\N.same (b 0)/\True)/\n.same n/\True)/\d<=d/\d<=k/\∀(j:Nat),(↑j:Int)<d->Gu p j)/\∀(x:Int),let e:=x+(1:Int);let C:=b e;let D:=decide (x<k);let q:=bo w x.toNat d;let H:=decide (q<d);let z:=decide (s<q);let l:=bo Y x.toNat d;let t:=decide (l<d);let m:=bo Z x.toNat d;let B:=decide (q=d);let K:=iR .i64 e/\((M.same M/\C.same C/\True)/\n.same n/\True)/\(d<=e/\e<=k/\∀(j:Nat),(↑j:Int)<e->Gu p j)/\(k - e).toNat<(k - x).toNat;(d<=x/\x<=k/\∀(j:Nat),(↑j:Int)<x->Gu p j)->(D=true->d<=x/\x<k/\x.toNat<6/\d<=x/\x<k/\x.toNat<6/\(H=true->(h 4).same g)/\(H=false->(z=true->(h 4).same g)/\(z=false->(t=true->(h 4).same g)/\(t=false->d<=x/\x<k/\x.toNat<6/\(decide (m<l)=true->(h 4).same g)/\(decide (m<l)=false->(B=true->d<=x/\x<k/\x.toNat<6/\(decide (l≠m)=true->(h 4).same g)/\(decide (l≠m)=false->K))/\(B=false->K))))))/\(D=false->(I=true->(h 3).same g)/\(I=false->(A=true->(h 3).same g)/\(A=false->(((y.same y/\(b o).same r/\N.same (b 0)/\True)/\n.same n/\True)/\d<=d/\d<=a/\∀(c:Int),c∈[]->d<=c/\c<=s)/\∀(x:Int),let J:=bo p.classes x.toNat d;let F:=decide (J<d);let v:=decide (s<J);let f:=x+(1:Int);let E:=b f;(d<=x/\x<=a/\∀(c:Int),c∈List.take x.toNat p.classes->d<=c/\c<=s)->(decide (x<a)=true->d<=x/\x<o/\x.toNat<p.classes.length/\(F=true->(h 4).same g)/\(F=false->(v=true->(h 4).same g)/\(v=false->iR .i64 f/\((y.same y/\r.same r/\E.same E/\True)/\n.same n/\True)/\(d<=f/\f<=a/\∀(c:Int),c∈List.take f.toNat p.classes->d<=c/\c<=s)/\(a - f).toNat<(a - x).toNat)))/\(decide (x<a)=false->N.same g)))))) (by kernel_rfl) ?_
 simp only[vcs]
 by_cases s:dp.ok p.supply=true
 ·simp only[s,if_true]
  refine⟨fun h=>absurd rfl h,fun _=>⟨⟨by omega,by omega,fun j T=>by omega⟩,?_⟩⟩
  rintro k ⟨a8,a6,X⟩
  refine⟨fun G=>?_,fun O=>?_⟩
  ·have P:¬Gu p k.toNat->(4:Int)=EH p:=fun h=>(auv s (by omega) h).symm
   have a7:Gu p k.toNat->∀(j:Nat),(j:Int)<k+1->Gu p j:=fun h j T=>by
    grind
   repeat' (first|refine And.intro ?_ ?_|intro _)
   all_goals first
    |omega
    |exact P fun hh=>by have h2:=abl.1 hh;omega
    |grind[abl]
  ·have b:∀j:Nat,j<6->Gu p j:=fun j T=>X j (by omega)
   refine⟨fun h=>(alf s b (.inl (by omega))).symm,fun h8=>⟨fun h=>(alf s b (.inr (by omega))).symm,fun W=>⟨⟨by omega,by omega,by simp⟩,?_⟩⟩⟩
   rintro i ⟨Q,a9,R⟩
   refine⟨fun G=>?_,fun O=>?_⟩
   ·have S:=nA (d:=0) (show i.toNat<p.classes.length by omega)
    refine⟨by omega,by omega,by omega,fun h=>(alg s b (by omega) S (by omega)).symm,fun h1=>⟨fun h=>(alg s b (by omega) S (by omega)).symm,fun h2=>⟨by omega,⟨by omega,by omega,?_⟩,by omega⟩⟩⟩
    exact auw Q G R (by omega)
   ·rw[show i.toNat=p.classes.length from by omega,List.take_length] at R
    grind[aoy]
 ·have w:dp.ok p.supply=false:=by simp_all
  simp only[w,Bool.false_eq_true,if_false]
  exact⟨fun _=>(auu w).symm,fun h=>absurd (by decide) h⟩
def SE (n:Int) (o:Off):Int:=
 if o.iy<0\/n<=o.iy then 6 else if o.value<1\/1000000<o.value then 4 else if o.want.ok then 0 else 4
def aoz:fN:=⟨94,Int×Off,.cons (sj .i64) (.one (yl .off)),fun p=>True,fun p=> .si .i64 (SE p.1 p.2)⟩
theorem h147:Holds Tryz.prog aoz:=by
 refine lj (L:=L3) aoz (fun p=>fun _=> .look) hL3 ?_
 rintro⟨n,x⟩ _
 refine gw (let f:=SV.il .i64;let e:=decide (x.iy<(0:Int));let a:=SV.si .i64 (SE n x);let c:=decide (n<=x.iy);let b:=decide (x.value<(1:Int));let d:=decide ((1000000:Int)<x.value);(e=true->(f 6).same a)/\(e=false->(c=true->(f 6).same a)/\(c=false->(b=true->(f 4).same a)/\(b=false->(d=true->(f 4).same a)/\(d=false->True/\(SV.si .i64 (if x.want.ok=true then(0:Int) else(4:Int))).same a))))) (by kernel_rfl) ?_
 simp only[vcs]
 grind[SE]
def MR (p:cn) (o:Off):Int:=
 if SE p.classes.length o≠0 then SE p.classes.length o else if o.want=dp.zero then 4 else if yx p [o]=false then 14 else 0
def aoA:fN:=⟨59,cn×Off,.cons ql (.one (yl .off)),fun a=>a.1.classes.length<=8,fun a=> .si .i64 (MR a.1 a.2)⟩
def L4:List fN:=aoz::L3
theorem hL4:∀c∈L4,Holds Tryz.prog c:=by
 grind[L4,h147,hL3]
theorem alh {n:Int} {o:Off} (h:SE n o=0):0<=o.iy/\o.iy<n/\1<=o.value/\o.value<=1000000/\o.want.ok=true:=by
 grind[SE]
theorem h119:Holds Tryz.prog aoA:=by
 refine lj (L:=L4) aoA (fun p=>fun _=> .look) hL4 ?_
 rintro⟨p,x⟩ (i:p.classes.length<=8)
 refine gw (let f:=(0:Int);let g:=SV.il .i64;let c:=SE (↑p.classes.length:Int) x;let e:=decide (c≠f);let b:=SV.si .i64 (MR p x);let d:=fun(u:Bool) ↦(decide (x.want.a0=f)&&(decide (x.want.a1=f)&&(decide (x.want.a2=f)&&(decide (x.want.a3=f)&&(decide (x.want.a4=f)&&(decide (x.want.a5=f)&&true))))))=u;True/\(e=true->(SV.si .i64 c).same b)/\(e=false->(d true->(g 4).same b)/\(d false->(p.classes.length<=8/\1<=1000/\∀(a:Off),a∈[x]->f<=a.iy/\a.iy<(↑p.classes.length:Int)/\a.want.ok=true)/\((!yx p [x])=true->(g 14).same b)/\((!yx p [x])=false->(g 0).same b)))) (by kernel_rfl) ?_
 conv=>zeta
 have g:(decide (x.want.a0=0)&&(decide (x.want.a1=0)&&(decide (x.want.a2=0)&&(decide (x.want.a3=0)&&(decide (x.want.a4=0)&&decide (x.want.a5=0))))))=decide (x.want=dp.zero):=by
  simp_all[alc,dp.zero]
 simp only[Bool.and_true,g];simp only[vcs]
 refine⟨fun h=>by simp_all[MR],fun h=>?_⟩
 have f:SE p.classes.length x=0:=Classical.not_not.1 h
 have j:=alh f
 grind[MR]
def L5:List fN:=aox::aoA::L4
theorem hL5:∀c∈L5,Holds Tryz.prog c:=by
 grind[L5,h118,h119,hL4]
def Off.key (o:Off):aaH:=⟨o.iy,o.want⟩
def CN (p:cn) (a:List aaH):List Off->Int
 |[]=>0
 |o::r=>if MR p o≠0 then MR p o else if o.key∈a then 7 else CN p (a++[o.key]) r
def dV (p:cn):Int:=if EH p≠0 then EH p else CN p [] p.offers
def r79:fN:=⟨33,cn,.one ql,fun p=>True,fun p=> .si .i64 (dV p)⟩
def aCk (p:cn):Nat->jW
 |7=> .inv Int (fun i=>⟨[(3,.ptr 1 0 20),(5,.mp 2),(19,.row .off p.offers),(20,.si .i64 p.offers.length),(21,.si .i64 i)],
   [.cells p.ss 27 20 false,.cells p.ss 98 20 false,.map .key .b true ((p.offers.take i.toNat).map fun o=>(o.key,true)) ([0,0,0,0,0,0,0],true) true]⟩) (fun s=>iS s 21)
  (fun i=>0<=i/\i<=p.offers.length/\CN p [] p.offers=CN p ((p.offers.take i.toNat).map Off.key) (p.offers.drop i.toNat)) (fun i=>(p.offers.length - i).toNat) fun _ _=> .look
 |_=> .look
theorem aeb {a:Type} {l:List a} {i:Int} {d:a} (b:0<=i) (h:i<l.length):l.drop i.toNat=bo l i.toNat d::l.drop (i+1).toNat:=by
 rw[show(i+1).toNat=i.toNat+1 from by omega,jV (by omega),List.drop_eq_getElem_cons (by omega)]
theorem ali (k:aaH):∀(l:List Off),(abd .key .b k (l.map fun o=>(o.key,true))).getD false=decide (k∈l.map Off.key)
 |[]=>by simp[abd]
 |o::l=>by
  have:=ali k l
  grind[abd]
theorem aCl {b sv:bD} {c:Bool} {es a:List (b.T×sv.T)} {d:List Nat×Bool} {pu:Bool} (h:es=a):(cC.map b sv c es d pu).same (.map b sv c a d pu):=by rw[h];rfl
theorem aCm {k:aaH} {l:List Off} (h:k∉l.map Off.key):ad5 .key .b k true (l.map fun o=>(o.key,true))=(l.map fun o=>(o.key,true))++[(k,true)]:=
 an4 fun p a=>by
  grind
theorem h79:Holds Tryz.prog r79:=by
 refine lj (L:=L5) r79 aCk hL5 ?_
 intro p _
 refine gw (let d:=SV.si .i64;let h:=(0:Int);let g:=SV.row bD.off p.offers;let K:=decide (EH p≠h);let y:=d (dV p);let A:=SV.ptr 1 0 20;let J:=(↑p.offers.length:Int);let f:=(↑p.offers.length:Int);let B:=d f;let I:=SV.il .i64 0;let C:=([0,0,0,0,0,0,0],true);let v:=cC.map bD.key bD.b true [] C true;let c:=CN p [] p.offers;let G:=bD.off.dflt;let z:=fun(u:Nat) ↦let r:=cC.cells [d p.supply.a0,d p.supply.a1,d p.supply.a2,d p.supply.a3,d p.supply.a4,d p.supply.a5,d p.opn.a0,d p.opn.a1,d p.opn.a2,d p.opn.a3,d p.opn.a4,d p.opn.a5,d p.cls.a0,d p.cls.a1,d p.cls.a2,d p.cls.a3,d p.cls.a4,d p.cls.a5,SV.row (bD.i .i64) p.classes,g] u 20 false;r.same r;True/\(K=true->(d (EH p)).same y)/\(K=false->(((A.same A/\(SV.mp 2).same (SV.mp 2)/\g.same g/\(d J).same B/\I.same (d 0)/\True)/\z 27/\z 98/\v.same v/\True)/\h<=h/\h<=f/\c=c)/\∀(x:Int),let m:=List.take x.toNat p.offers;let e:=bo p.offers x.toNat G;let w:=decide (MR p e≠h);let l:=aaH.mk e.iy e.want;let s:=List.map (fun(o:Off) ↦(o.key,true)) m;let q:=(abd bD.key bD.b l s).getD false;let a:=x+(1:Int);let k:=d a;let n:=List.take a.toNat p.offers;h<=x/\x<=f/\c=CN p (List.map Off.key m) (List.drop x.toNat p.offers)->(decide (x<f)=true->h<=x/\x<J/\x.toNat<p.offers.length/\p.classes.length<=8/\(w=true->(d (MR p e)).same y)/\(w=false->(q=true->(SV.il .i64 7).same y)/\(q=false->iR .i64 a/\((A.same A/\(SV.mp 2).same (SV.mp 2)/\g.same g/\B.same B/\k.same k/\True)/\z 27/\z 98/\(cC.map bD.key bD.b true (ad5 bD.key bD.b l true s) C true).same (cC.map bD.key bD.b true (List.map (fun(o:Off) ↦(o.key,true)) n) C true)/\True)/\(h<=a/\a<=f/\c=CN p (List.map Off.key n) (List.drop a.toNat p.offers))/\(f - a).toNat<(f - x).toNat)))/\(decide (x<f)=false->I.same y))) (by kernel_rfl) ?_
 simp only[vcs]
 refine⟨fun h=>by simp[dV,h],fun h=>?_⟩
 have M:EH p=0:=Classical.not_not.1 h
 obtain⟨S,V,P,U,R⟩:=aeT M
 refine⟨⟨by omega,by omega⟩,?_⟩
 rintro i ⟨D,O,t⟩
 refine⟨fun F=>?_,fun Q=>?_⟩
 ·rw[aeb (d:=bD.off.dflt) D F] at t
  generalize T:bo p.offers i.toNat bD.off.dflt=x at t ⊢
  refine⟨by omega,by omega,by omega,P,fun H=>?_,fun H=>?_⟩
  ·simp_all[CN,dV]
  ·simp only[CN,if_neg H] at t
   have N:(⟨x.iy,x.want⟩:aaH)=x.key:=rfl
   simp only[N]
   refine⟨fun E=>?_,fun E=>⟨by omega,?_,⟨by omega,by omega,?_⟩,by omega⟩⟩
   ·have j:=of_decide_eq_true ((ali _ _).symm.trans E)
    simp_all[dV]
   ·grind[ali,aCl,aCm,aal]
   ·have j:=of_decide_eq_false ((ali _ _).symm.trans E)
    rw[if_neg j] at t
    grind[aal]
 ·rw[show i.toNat=p.offers.length from by omega,List.drop_length] at t
  grind[CN,dV]
def rf (l:List Off) (a:Int):List Int->Option (List Off)
 |[]=>some []
 |i::r=>if i<=a\/l.length<=i then none else(rf l i r).map (bo l i.toNat bD.off.dflt::·)
def y5 (p:cn) (c:List Int):Bool:=(rf p.offers (-1) c).isSome
def nn (p:cn) (c:List Int):List Off:=(rf p.offers (-1) c).getD []
def alj:fN:=⟨74,cn×List Int,.cons ql (.one (qX (.i .i64))),fun a=>a.2.length<=9223372036854775807/\a.1.offers.length<=1000,fun a=> .eW [.row .off (nn a.1 a.2),.sb (y5 a.1 a.2)]⟩
def aCn (a:cn×List Int):Nat->jW
 |4=> .inv (Int×Int×List Off) (fun x=>⟨[(2,.ptr 0 0 20),(6,.ow 1 x.2.2.length 8),(7,.si .i64 x.2.1),(10,.row (.i .i64) a.2),(11,.si .i64 a.2.length),(12,.si .i64 x.1)],
   [.cells a.1.ss 27 20 false,.row .off x.2.2 58 true]⟩) (fun s=>(iS s 12,iS s 7,oS .off s 1))
  (fun x=>0<=x.1/\x.1<=a.2.length/\(x.2.2.length<=x.2.1+1/\x.2.1<1000)/\ -1<=x.2.1/\rf a.1.offers (-1) a.2=(rf a.1.offers x.2.1 (a.2.drop x.1.toNat)).map (x.2.2++·)) (fun x=>(a.2.length - x.1).toNat) fun _ _=> .look
 |_=> .look
theorem h133:Holds Tryz.prog alj:=by
 refine lj (L:=L5) alj aCn hL5 ?_
 rintro⟨p,c⟩ ⟨I,o⟩
 have I:c.length<=9223372036854775807:=I
 have o:p.offers.length<=1000:=o
 refine gw (let d:=SV.si .i64;let h:=(0:Int);let j:=(-1:Int);let l:=SV.row;let n:=(1000:Int);let o:=SV.bl false;let y:=SV.eW;let A:=(1:Int);let u:=SV.ptr 0 0 20;let E:=SV.ow 1 0 8;let g:=bD.i .i64;let f:=(↑c.length:Int);let z:=d f;let v:=cC.cells [d p.supply.a0,d p.supply.a1,d p.supply.a2,d p.supply.a3,d p.supply.a4,d p.supply.a5,d p.opn.a0,d p.opn.a1,d p.opn.a2,d p.opn.a3,d p.opn.a4,d p.opn.a5,d p.cls.a0,d p.cls.a1,d p.cls.a2,d p.cls.a3,d p.cls.a4,d p.cls.a5,l g p.classes,l bD.off p.offers] 27 20 false;let G:=cC.row bD.off [] 58 true;let t:=rf p.offers j c;let D:=y [l bD.off (nn p c),SV.sb (y5 p c)];let B:=(↑p.offers.length:Int);(((u.same u/\E.same E/\(SV.il .i64 j).same (d j)/\(l g c).same (l g c)/\(d (↑c.length:Int)).same z/\(SV.il .i64 0).same (d 0)/\True)/\v.same v/\G.same G/\True)/\h<=h/\h<=f/\(h<=h/\j<n)/\j<=j/\t=Option.map (fun x ↦(h,j,[]).snd.snd++x) t)/\∀(x:Int×Int×List Off),let a:=bo c x.fst.toNat h;let m:=decide (a<=x.snd.fst);let k:=x.snd.snd.length+1;let b:=x.fst+A;let e:=x.snd.snd++[bo p.offers a.toNat bD.off.dflt];let r:=d a;let s:=d b;let q:=cC.row bD.off e 58 true;h<=x.fst/\x.fst<=f/\((↑x.snd.snd.length:Int)<=x.snd.fst+A/\x.snd.fst<n)/\j<=x.snd.fst/\t=Option.map (fun w ↦x.snd.snd++w) (rf p.offers x.snd.fst (List.drop x.fst.toNat c))->(decide (x.fst<f)=true->h<=x.fst/\x.fst<(↑c.length:Int)/\x.fst.toNat<c.length/\(m=true->(y [l g [],o]).same D)/\(m=false->(decide (B<=a)=true->(y [l g [],o]).same D)/\(decide (B<=a)=false->h<=a/\a<B/\a.toNat<p.offers.length/\x.snd.snd.length=x.snd.snd.length/\k*64<=140737488355328/\k<=1000000000000/\iR .i64 b/\((u.same u/\(SV.ow 1 e.length 8).same (SV.ow 1 e.length 8)/\r.same r/\(l g c).same (l g c)/\z.same z/\s.same s/\True)/\v.same v/\q.same q/\True)/\(h<=b/\b<=f/\((↑e.length:Int)<=a+A/\a<n)/\j<=a/\t=Option.map (fun x ↦(b,a,e).snd.snd++x) (rf p.offers a (List.drop b.toNat c)))/\(f - b).toNat<(f - x.fst).toNat)))/\(decide (x.fst<f)=false->x.snd.snd.length=x.snd.snd.length/\(y [l bD.off x.snd.snd,SV.bl true]).same D)) (by kernel_rfl) ?_
 simp only[vcs]
 have H:∀{l:List Off},l=[]->(SV.row (.i .i64) []).same (SV.row .off l):=by rintro l rfl;exact aot.2 trivial
 refine⟨⟨by omega,by omega,by omega,by simp⟩,?_⟩
 rintro⟨i,F,N⟩ ⟨n,y,j,C,h⟩
 simp only at n y j C h ⊢
 refine⟨fun A=>?_,fun M=>?_⟩
 ·rw[aeb (d:=0) n A] at h
  generalize O:bo c i.toNat 0=x at h ⊢
  simp only[rf] at h
  refine⟨by omega,by omega,by omega,fun J=>?_,fun J=>⟨fun K=>?_,fun K=>?_⟩⟩
  ·simp_all[nn,y5]
  ·simp_all[nn,y5]
  ·rw[if_neg (by omega)] at h
   simp only[List.length_append,List.length_singleton]
   refine⟨by omega,by omega,by omega,by omega,by omega,by omega,⟨by omega,by omega,by omega,by omega,?_⟩,by omega⟩
   rw[h,Option.map_map]
   congr 1
   grind
 ·rw[show i.toNat=c.length from by omega,List.drop_length] at h
  grind[rf,nn,y5]
def L6:List fN:=r79::alj::L5
theorem hL6:∀c∈L6,Holds Tryz.prog c:=by
 grind[L6,h79,h133,hL5]
def lF (p:cn) (c:List Int):Int:=if dV p≠0 then dV p else if y5 p c=false then 4 else if yx p (nn p c)=false then 14 else 0
def alk:fN:=⟨43,cn×List Int,.cons ql (.one (qX (.i .i64))),fun a=>a.2.length<=9223372036854775807,fun a=> .si .i64 (lF a.1 a.2)⟩
theorem auy {p:cn}:∀{l:List Off} {a:List aaH},CN p a l=0->∀x∈l,MR p x=0
 |[],_,_=>by simp
 |o::r,a,h=>by
  simp only[CN] at h;split at h
  ·omega
  ·rename_i c
   split at h
   ·cases h
   ·intro x b
    rcases List.mem_cons.1 b with rfl|b
    ·omega
    ·exact auy h x b
theorem aec {p:cn} (h:dV p=0):EH p=0/\∀x∈p.offers,MR p x=0:=by
 unfold dV at h;split at h
 ·omega
 ·rename_i a;exact⟨Classical.not_not.1 a,auy h⟩
theorem aiU {p:cn} {o:Off} (h:MR p o=0):SE p.classes.length o=0/\o.want≠dp.zero/\yx p [o]=true:=by
 unfold MR at h
 grind
theorem aiV {l:List Off}:∀{c:List Int} {a:Int} {r:List Off}, -1<=a->rf l a c=some r->r.length+a+1<=l.length\/r=[]
 |[],a,r,_,h=>by grind[rf]
 |i::c,a,r,d,h=>by
  simp only[rf] at h;split at h
  ·cases h
  ·rename_i e
   obtain⟨f,b,rfl⟩:=Option.map_eq_some_iff.1 h
   have:=aiV (by omega) b
   grind
theorem alm {l:List Off}:∀{c:List Int} {a:Int} {r:List Off}, -1<=a->rf l a c=some r->∀x∈r,x∈l
 |[],a,r,_,h=>by grind[rf]
 |i::c,a,r,f,h=>by
  simp only[rf] at h;split at h
  ·cases h
  ·rename_i e
   obtain⟨g,d,rfl⟩:=Option.map_eq_some_iff.1 h
   intro x b
   rcases List.mem_cons.1 b with rfl|b
   ·grind[nA]
   ·exact alm (by omega) d x b
theorem h100:Holds Tryz.prog alk:=by
 refine lj (L:=L6) alk (fun p=>fun _=> .look) hL6 ?_
 rintro⟨p,c⟩ (n:c.length<=9223372036854775807)
 refine gw (let a:=SV.il .i64;let e:=decide (dV p≠(0:Int));let d:=SV.si .i64 (lF p c);let f:=!yx p (nn p c);True/\(e=true->(SV.si .i64 (dV p)).same d)/\(e=false->(c.length<=9223372036854775807/\p.offers.length<=1000)/\((!y5 p c)=true->(a 4).same d)/\((!y5 p c)=false->(p.classes.length<=8/\(nn p c).length<=1000/\∀(x:Off),x∈nn p c->(0:Int)<=x.iy/\x.iy<(↑p.classes.length:Int)/\x.want.ok=true)/\(f=true->(a 14).same d)/\(f=false->(a 0).same d)))) (by kernel_rfl) ?_
 simp only[vcs]
 refine⟨fun h=>by simp[lF,h],fun h=>?_⟩
 have g:dV p=0:=Classical.not_not.1 h
 obtain⟨m,j⟩:=aec g
 obtain⟨s,o,l,q,t⟩:=aeT m
 refine⟨⟨n,by omega⟩,fun a=>by grind[lF],fun a=>⟨⟨l,?_,?_⟩,fun k=>by grind[lF],fun k=>by grind[lF]⟩⟩
 ·unfold y5 at a
  obtain⟨r,b⟩:=Option.isSome_iff_exists.1 a
  have:=aiV (by omega) b
  grind[nn]
 ·unfold y5 at a
  obtain⟨r,b⟩:=Option.isSome_iff_exists.1 a
  simp only[nn,b,Option.getD_some];intro x i
  have u:=alh (aiU (j x (alm (by omega) b x i))).1
  simp_all
def dp.sub (a b:dp):dp:=⟨a.a0 - b.a0,a.a1 - b.a1,a.a2 - b.a2,a.a3 - b.a3,a.a4 - b.a4,a.a5 - b.a5⟩
def dp.meet (a b:dp):dp:=⟨min a.a0 b.a0,min a.a1 b.a1,min a.a2 b.a2,min a.a3 b.a3,min a.a4 b.a4,min a.a5 b.a5⟩
def dp.le (a b:dp):Bool:=decide (a.a0<=b.a0)&&decide (a.a1<=b.a1)&&decide (a.a2<=b.a2)&&decide (a.a3<=b.a3)&&decide (a.a4<=b.a4)&&decide (a.a5<=b.a5)
theorem dp.le_iff {a b:dp}:a.le b=true↔a.a0<=b.a0/\a.a1<=b.a1/\a.a2<=b.a2/\a.a3<=b.a3/\a.a4<=b.a4/\a.a5<=b.a5:=by
 simp[dp.le,and_assoc]
theorem aCo {x y:Int}:min x y=x↔x<=y:=by
 rw[Int.min_def]
 split<;>omega
theorem aCp {a b:List SV}:(SV.agg a).same (.agg b)↔gL a=gL b:=by simp[SV.same,SV.g]
def aoB:fN:=⟨165,dp×dp,.cons (yl .uo) (.one (yl .uo)),fun _=>True,fun a=> .agg (encS .uo (a.1.meet a.2))⟩
theorem h163:Holds Tryz.prog aoB:=by
 refine lj (L:=[]) aoB (fun _=>fun _=> .ado 7) (by simp) ?_
 rintro⟨a,b⟩ _
 refine gw (let c:=SV.si .i64;(SV.agg [c (min a.a0 b.a0),c (min a.a1 b.a1),c (min a.a2 b.a2),c (min a.a3 b.a3),c (min a.a4 b.a4),c (min a.a5 b.a5)]).same (SV.agg [c (a.meet b).a0,c (a.meet b).a1,c (a.meet b).a2,c (a.meet b).a3,c (a.meet b).a4,c (a.meet b).a5])) (by kernel_rfl) ?_
 simp only[vcs,aCp,gL,SV.g,dp.meet,and_self]
def aoC:fN:=⟨138,dp×dp,.cons (yl .uo) (.one (yl .uo)),fun _=>True,fun a=> .sb (a.1.le a.2)⟩
theorem h144:Holds Tryz.prog aoC:=by
 refine lj (L:=[aoB]) aoC (fun _=>fun _=> .ado 7) (by simpa using h163) ?_
 rintro⟨a,b⟩ _
 refine gw (True/\(SV.sb (decide ((a.meet b).a0=a.a0)&&(decide ((a.meet b).a1=a.a1)&&(decide ((a.meet b).a2=a.a2)&&(decide ((a.meet b).a3=a.a3)&&(decide ((a.meet b).a4=a.a4)&&(decide ((a.meet b).a5=a.a5)&&true))))))).same (SV.sb (a.le b))) (by kernel_rfl) ?_
 simp only[vcs,dp.meet];rw[Bool.eq_iff_iff];simp only[Bool.and_eq_true,decide_eq_true_eq,dp.le_iff,Bool.and_true,aCo]
def aln (p:cn) (m:Int):Int:=if dV p≠0 then dV p else if m<0\/2^p.classes.length<=m then 4 else 0
structure L8 where
 (l0 l1 l2 l3 l4 l5 l6 l7:List Off)
structure Sol where
 p:cn
 ls:L8
 es:List (Sit×Int)
def byB (p:cn) (j:Int):List Off:=p.offers.filter fun x=>decide (x.iy=j)
def Sol.o (s:Sol):ie:=
 [.cells [.si .i64 s.p.supply.a0,.si .i64 s.p.supply.a1,.si .i64 s.p.supply.a2,.si .i64 s.p.supply.a3,.si .i64 s.p.supply.a4,.si .i64 s.p.supply.a5,
  .si .i64 s.p.opn.a0,.si .i64 s.p.opn.a1,.si .i64 s.p.opn.a2,.si .i64 s.p.opn.a3,.si .i64 s.p.opn.a4,.si .i64 s.p.opn.a5,
  .si .i64 s.p.cls.a0,.si .i64 s.p.cls.a1,.si .i64 s.p.cls.a2,.si .i64 s.p.cls.a3,.si .i64 s.p.cls.a4,.si .i64 s.p.cls.a5,
  .row (.i .i64) s.p.classes,.row .off s.p.offers,.row .off s.ls.l0,.row .off s.ls.l1,.row .off s.ls.l2,.row .off s.ls.l3,.row .off s.ls.l4,.row .off s.ls.l5,.row .off s.ls.l6,.row .off s.ls.l7,.mp 1] 99999 29 false,
  .map .sit (.i .i64) true s.es ([0,0,0,0,0,0,0,0,0,0,0,0,0],true) true]
def oc (c w a j k:Int):Int:=if j<k/\(c=0\/c=a) then 0 else w
def MZ (p:cn) (x:Off):Int:=bo p.classes x.iy.toNat 0
def aoD (p:cn) (x:Off) (k:Int):dp:=⟨oc p.cls.a0 x.want.a0 (MZ p x) 0 k,oc p.cls.a1 x.want.a1 (MZ p x) 1 k,oc p.cls.a2 x.want.a2 (MZ p x) 2 k,oc p.cls.a3 x.want.a3 (MZ p x) 3 k,oc p.cls.a4 x.want.a4 (MZ p x) 4 k,oc p.cls.a5 x.want.a5 (MZ p x) 5 k⟩
def tf (p:cn) (x:Off):dp:=aoD p x 6
def Sit.b (a:Sit):Prop:=a.left.ok=true/\a.opn.ok=true
end Go.Vi
namespace Go.Proofs.YtgejbpobaicgfaaGreat
open Go.ChangeShapes Go.WideShapes Go.ChangeAt Go.RowKit Go.Vi
theorem Tryz.own:ownKnob Tryz.prog.godebug=none:=by kernel_rfl
theorem Tryz.laidOut:laidOutB Tryz.prog=true:=by kernel_rfl
theorem aCq:Reads Tryz.prog 3 (.i .i64):=aBZ Tryz.underlying3
theorem auA:Reads Tryz.prog 23 .uo:=aB3 Tryz.underlying23 Tryz.underlying3 (by kernel_rfl) (by kernel_rfl)
theorem aCr:Reads Tryz.prog 58 .off:=aB4 Tryz.underlying58 (by kernel_rfl) rfl rfl rfl Tryz.underlying3 (by kernel_rfl) Tryz.underlying2 (by kernel_rfl) auA (by kernel_rfl) rfl
theorem aCs {H:Type} {enc:TypeId×Value->H} {w:World} {a:Nat->Bool} {c:Bool} {b:Nat} {cs:List Value} {x:DataW H×List MemPlace} (h:DataW.trod enc Tryz.prog w 0 a c b 27 cs=some x):
  ∃p:cn,ey noA w [] [] (gL p.ss) cs:=
 aB5 Tryz.underlying27 (by kernel_rfl) rfl rfl rfl rfl rfl rfl auA (by kernel_rfl) Tryz.underlying24 aCq (by kernel_rfl) (by kernel_rfl) Tryz.underlying25 aCr (by kernel_rfl) (by kernel_rfl) h
theorem aCt {f:FuncId} {args:List SV} (h:Uc Tryz.prog f (gL args) [] (SV.sb true).g []) {W:World} {vs:List Value} (d:ey noA W [] [] (gL args) vs):
  Calls Tryz.prog f vs.toArray W fun e c=>e= .returned (.bool true)/\Below W.heap.size W c:=by
 refine(h noA W [] vs (akA W (fun b a=>a.elim)) d).mono ?_
 grind[SV.g,cQ,aB8]
theorem aCu {W:World} (n:Int):cQ noA W [] [] ((sj .i64).put n).g (.int .i64 n):=by
 simp[sj,SV.g,cQ,Value.oneCell']
end Go.Proofs.YtgejbpobaicgfaaGreat
namespace Go.Vi
open Go.ChangeShapes Go.WideShapes Go.RowKit
def aCv (P:Program) (t:TypeId) (s:bD) (Q:s.T->Prop):Prop:=
 ∀(H:Type) (d:TypeId×Value->H) (w:World) (a:Nat->Bool) (c:Bool) (b:Nat) (e:List Value) (x:DataW H×List MemPlace),DataW.trod d P w 0 a c b t e=some x->∃y:s.T,Q y/\ey noA w [] [] (qd s y) e
theorem ala.q {P:Program} {t:TypeId} {s:bD} (h:ala P t s):aCv P t s fun _=>True:=fun H d w a c b e x f=>by
 obtain⟨y,g⟩:=h H d w a c b e x f
 grind
end Go.Vi
namespace Go.Proofs.YtgejbpobaicgfaaGreat
open Go.ChangeShapes Go.WideShapes Go.ChangeAt Go.RowKit Go.Vi
end Go.Proofs.YtgejbpobaicgfaaGreat
namespace Go.Proofs.YtgejbpobaicgfaaGreat
open Go.ChangeShapes Go.WideShapes Go.ChangeAt Go.RowKit Go.Vi
theorem aCw {H:Type} {enc:TypeId×Value->H} {w:World} {spare:Nat->Bool} {held:Bool} {fuel:Nat} {cs:List Value} {x:DataW H×List MemPlace} (h:DataW.trod enc Tryz.prog w 0 spare held fuel 2 cs=some x):
  ∃n:Int,(-9223372036854775808<=n/\n<=9223372036854775807)/\cs=[.int .i64 n]:=by
 obtain⟨n,rfl,_,hw⟩:=DataW.trod_int Tryz.underlying2 h
 simp only[Lit.wf,Bool.and_eq_true,decide_eq_true_eq] at hw
 exact⟨n,hw,rfl⟩
end Go.Proofs.YtgejbpobaicgfaaGreat
namespace Go.Vi
open Go.Proofs.YtgejbpobaicgfaaGreat.Ir
open Go.Proofs
def aCx (m f:Int):Int:=B2.afC .i64 (m / 2^f.toNat) 1
def aCy (m f:Int):Int:=B2.akT .i64 m (2^f.toNat)
def adu (m:Int):List Int:=[0,1,2,3,4,5,6,7].filter fun f=>decide (aCx m f≠0)
def Good (p:cn):Prop:=p.classes.length<=8/\p.offers.length<=160/\p.supply.ok=true/\p.opn.ok=true/\∀x∈p.offers,0<=x.iy/\x.iy<p.classes.length/\x.want.ok=true/\1<=x.value/\x.value<=1000000
def N1 (p:cn):List Int->dp->dp->Int
 |[],_,_=>0
 |f::fs,l,o=>(byB p f).foldl (fun v x=>if x.want.le l&&(tf p x).le o then max v (x.value+N1 p fs (l.sub x.want) (o.sub (tf p x))) else v) (N1 p fs l o)
def abJ (p:cn) (fs:List Int) (l o:dp) (v:Int) (x:Off):Int:=if x.want.le l&&(tf p x).le o then max v (x.value+N1 p fs (l.sub x.want) (o.sub (tf p x))) else v
def aCz (p:cn) (a:Sit):Int:=N1 p (adu a.members) a.left a.opn
theorem pz {p:cn} (h:dV p=0):Good p:=by
 obtain⟨e,k⟩:=aec h
 obtain⟨b,a,m,g,q⟩:=aeT e
 refine⟨m,g,b,?_,fun x o=>?_⟩
 ·have d:=dp.Kz.1 b
  have f:=abl.1 (a 0 (by omega))
  have c:=abl.1 (a 1 (by omega))
  have i:=abl.1 (a 2 (by omega))
  have l:=abl.1 (a 3 (by omega))
  have n:=abl.1 (a 4 (by omega))
  have j:=abl.1 (a 5 (by omega))
  simp[bo] at f c i l n j
  grind[dp.Kz]
 ·have d:=alh (aiU (k x o)).1
  simp_all
theorem aiX {n:Nat} (h:n<=8):(2:Int)^n<=256/\0<(2:Int)^n:=by
 have:n=0\/n=1\/n=2\/n=3\/n=4\/n=5\/n=6\/n=7\/n=8:=by omega
 rcases this with h|h|h|h|h|h|h|h|h<;>rw[h]<;>decide
def adv (p:cn) (m:Int):Int:=if aln p m=0 then aCz p ⟨m,p.supply,p.opn⟩ else 0
def allM (p:cn):Int:=2^p.classes.length - 1
def aoE (p:cn) (s:Int) (i:Int):Int:=s+(bo p.offers i.toNat bD.off.dflt).value
def afR (p:cn) (c:List Int):Int:=c.foldl (aoE p) 0
def auB (p:cn) (c:List Int):Int:=if lF p c≠0 then lF p c else if afR p c<adv p (allM p) then 13 else 0
def cn.zero:cn:=⟨dp.zero,dp.zero,dp.zero,[],[]⟩
theorem auC {l:List Off}:∀{c:List Int} {a:Int} {r:List Off}, -1<=a->rf l a c=some r->r.length=c.length/\∀i∈c,0<=i/\i<l.length
 |[],a,r,_,h=>by grind[rf]
 |i::c,a,r,e,h=>by
  simp only[rf] at h;split at h
  ·cases h
  ·rename_i d
   obtain⟨f,b,rfl⟩:=Option.map_eq_some_iff.1 h
   obtain⟨g,j⟩:=auC (by omega) b
   grind
def three:cn:=⟨⟨1,1,0,0,0,0⟩,⟨1,1,0,0,0,0⟩,dp.zero,[0,0,0],[⟨0,⟨1,1,0,0,0,0⟩,10⟩,⟨1,⟨1,0,0,0,0,0⟩,6⟩,⟨2,⟨0,1,0,0,0,0⟩,6⟩]⟩
end Go.Vi
namespace Go.Proofs.YtgejbpobaicgfaaGreat
open Go.ChangeShapes Go.WideShapes Go.ChangeAt Go.RowKit Go.Vi
end Go.Proofs.YtgejbpobaicgfaaGreat
namespace Go.Vi
open Go.Proofs.YtgejbpobaicgfaaGreat.Ir
open Go.Proofs
def r68:fN:=⟨38,dp,.one (yl .uo),fun _=>True,fun b=> .sb b.ok⟩
theorem h68:Holds Tryz.prog r68:=by
 refine lj (L:=[]) r68 (fun _ _=> .ado 7) (by simp) ?_
 intro b _
 refine gw (let h:=SV.bl false;let o:=SV.sb;let p:=(0:Int);let q:=(4:Int);let i:=decide (b.a0<p);let d:=decide (q<b.a0);let k:=decide (b.a1<p);let e:=decide (q<b.a1);let l:=decide (b.a2<p);let f:=decide (q<b.a2);let j:=decide (b.a3<p);let m:=decide (q<b.a3);let n:=decide (b.a4<p);let g:=decide (q<b.a4);let a:=decide (b.a5<p);let c:=decide (q<b.a5);(i=true->(h).same (o (dp.ok b)))/\(i=false->(d=true->(h).same (o (dp.ok b)))/\(d=false->(k=true->(h).same (o (dp.ok b)))/\(k=false->(e=true->(h).same (o (dp.ok b)))/\(e=false->(l=true->(h).same (o (dp.ok b)))/\(l=false->(f=true->(h).same (o (dp.ok b)))/\(f=false->(j=true->(h).same (o (dp.ok b)))/\(j=false->(m=true->(h).same (o (dp.ok b)))/\(m=false->(n=true->(h).same (o (dp.ok b)))/\(n=false->(g=true->(h).same (o (dp.ok b)))/\(g=false->(a=true->(h).same (o (dp.ok b)))/\(a=false->(c=true->(h).same (o (dp.ok b)))/\(c=false->(SV.bl true).same (o (dp.ok b))))))))))))))) (by kernel_rfl) ?_
 conv=>zeta
 have o:=@dp.Kz b
 by_cases h:b.ok=true<;>simp_all
def acS (p:cn) (r:Int) (o:Off):Int:=
 if r - p.classes.length<0 then(if o.iy=r then 1 else 0)
 else if r - p.classes.length<6 then bo [o.want.a0,o.want.a1,o.want.a2,o.want.a3,o.want.a4,o.want.a5] (r - p.classes.length).toNat 0
 else if bo [p.cls.a0,p.cls.a1,p.cls.a2,p.cls.a3,p.cls.a4,p.cls.a5] (r - p.classes.length - 6).toNat 0=0\/p.classes.length<=o.iy\/bo [p.cls.a0,p.cls.a1,p.cls.a2,p.cls.a3,p.cls.a4,p.cls.a5] (r - p.classes.length - 6).toNat 0=bo p.classes o.iy.toNat 0 then 0
 else bo [o.want.a0,o.want.a1,o.want.a2,o.want.a3,o.want.a4,o.want.a5] (r - p.classes.length - 6).toNat 0
theorem aCA {p:cn} {r:Int} {o:Off} (h:o.iy<p.classes.length):acS p r o=uu p r o:=by
 unfold acS uu;omega
def aoG:fN:=⟨70,cn×Int×Off,.cons ql (.cons (sj .i64) (.one (yl .off))),fun a=>a.1.classes.length<=8/\0<=a.2.1/\a.2.1<nq a.1/\0<=a.2.2.iy,
 fun a=> .eW [.si .i64 (acS a.1 a.2.1 a.2.2),.si .i64 (pg a.1 a.2.1)]⟩
theorem h110:Holds Tryz.prog aoG:=by
 refine lj (L:=[]) aoG (fun _ _=> .ado 7) (by simp) ?_
 rintro⟨p,r,x⟩ ⟨D,z,B,A⟩
 simp only[nq] at D z B A
 refine gw (let h:=(0:Int);let j:=(6:Int);let v:=SV.si .i64;let w:=iR .i64;let y:=SV.eW;let b:=(↑p.classes.length:Int);let a:=r - b - j;let o:=SV.il .i64 0;let k:=y [v (acS p r x),v (pg p r)];let q:=bo [p.cls.a0,p.cls.a1,p.cls.a2,p.cls.a3,p.cls.a4,p.cls.a5] a.toNat h;let t:=decide (x.iy=r);let e:=SV.il .i64 1;let g:=decide (r<b+j);let i:=decide (x.iy<b);let l:=h<=a/\a<j/\a.toNat<6/\(y [o,v (bo [p.opn.a0,p.opn.a1,p.opn.a2,p.opn.a3,p.opn.a4,p.opn.a5] a.toNat h)]).same k;let n:=fun(u f:Int) (c:dp) ↦let d:=(u - f).toNat;h<=u - f/\u - f<j/\d<6/\(y [v (bo [x.want.a0,x.want.a1,x.want.a2,x.want.a3,x.want.a4,x.want.a5] d h),v (bo [c.a0,c.a1,c.a2,c.a3,c.a4,c.a5] d h)]).same k;let m:=fun(u:Bool) ↦decide (q≠bo p.classes x.iy.toNat h)=u;let s:=fun(u:Bool) ↦decide (q≠h)=u;(decide (r<b)=true->(t=true->(y [e,e]).same k)/\(t=false->(y [o,e]).same k))/\(decide (r<b)=false->w (b+j)/\(g=true->w (r - b)/\h<=r - b/\r - b<j/\(r - b).toNat<6/\w (r - b)/\n r b p.supply)/\(g=false->w (r - b)/\w a/\h<=a/\a<j/\a.toNat<6/\(s true->(i=true->h<=a/\a<j/\a.toNat<6/\h<=x.iy/\x.iy<b/\x.iy.toNat<p.classes.length/\(m true->h<=a/\a<j/\a.toNat<6/\n (r - b) j p.opn)/\(m false->l))/\(i=false->l))/\(s false->l)))) (by kernel_rfl) ?_
 simp only[vcs]
 have G:r - p.classes.length<0->pg p r=1:=fun h=>by simp_all[pg]
 have E:¬r - p.classes.length<0->r - p.classes.length<6->pg p r=bo [p.supply.a0,p.supply.a1,p.supply.a2,p.supply.a3,p.supply.a4,p.supply.a5] (r - p.classes.length).toNat 0:=fun h j=>by simp_all[pg,if_neg]
 have v:¬r - p.classes.length<0->¬r - p.classes.length<6->pg p r=bo [p.opn.a0,p.opn.a1,p.opn.a2,p.opn.a3,p.opn.a4,p.opn.a5] (r - p.classes.length - 6).toNat 0:=fun h j=>by simp_all[pg,if_neg]
 have F:r - p.classes.length<0->acS p r x=if x.iy=r then 1 else 0:=fun h=>by simp_all[acS]
 have H:¬r - p.classes.length<0->r - p.classes.length<6->acS p r x=bo [x.want.a0,x.want.a1,x.want.a2,x.want.a3,x.want.a4,x.want.a5] (r - p.classes.length).toNat 0:=fun h j=>by simp_all[acS,if_neg]
 have y:=fun(h:¬r - p.classes.length<0) (j:¬r - p.classes.length<6)=>(show acS p r x=_ by unfold acS;rw[if_neg h,if_neg j])
 refine⟨fun w=>?_,fun w=>⟨by omega,fun C=>?_,fun C=>?_⟩⟩
 ·grind
 ·grind
 ·rw[v (by omega) (by omega),y (by omega) (by omega)]
  omega
def M1:List fN:=[aoG,r68]
theorem hM1:∀c∈M1,Holds Tryz.prog c:=by
 simp_all[M1,h110,h68]
def r69:fN:=⟨39,cn×List Off,.cons ql (.one (qX .off)),fun a=>a.1.classes.length<=8/\a.2.length<=1000/\(∀x∈a.2,0<=x.iy/\x.iy<a.1.classes.length/\x.want.ok=true),fun a=> .sb (yx a.1 a.2)⟩
def aCB (a:cn×List Off):Nat->jW
 |2=> .inv Int (fun i=>⟨[(1,.row .off a.2),(2,.ptr 0 0 20),(5,.si .i64 i)],[.cells a.1.ss 27 20 false]⟩) (fun s=>iS s 5)
  (fun i=>0<=i/\i<=nq a.1/\∀r:Nat,r<i->lT a.1 a.2 r<=pg a.1 r) (fun i=>(nq a.1 - i).toNat)
  fun i=>fun
   |6=> .inv (Int×Int) (fun x=>⟨[(1,.row .off a.2),(2,.ptr 0 0 20),(5,.si .i64 i),(6,.si .i64 x.2),(7,.si .i64 x.1)],[.cells a.1.ss 27 20 false]⟩)
    (fun s=>(iS s 7,iS s 6))
    (fun x=>0<=x.1/\x.1<=a.2.length/\x.2=lT a.1 (a.2.take x.1.toNat) i) (fun x=>(a.2.length - x.1).toNat) fun _ _=> .look
   |_=> .look
 |_=> .look
theorem h69:Holds Tryz.prog r69:=by
 refine lj (L:=M1) r69 aCB hM1 ?_
 rintro⟨p,l⟩ ⟨A,G,q⟩
 simp only at A G q
 refine gw (let d:=(0:Int);let i:=SV.si .i64;let j:=SV.row;let o:=SV.il .i64 0;let q:=iR .i64;let s:=SV.il .i64;let b:=SV.ptr 0 0 20;let c:=cC.cells (cn.ss p) 27 20 false;let v:=(↑p.classes.length:Int)+(12:Int);let k:=(↑l.length:Int);((((j bD.off l).same (j bD.off l)/\b.same b/\(o).same (i 0)/\True)/\c.same c/\True)/\d<=d/\d<=nq p/\∀(r:Nat),(↑r:Int)<d->lT p l (↑r:Int)<=pg p (↑r:Int))/\∀(x:Int),let f:=x+(1:Int);let E:=i f;(d<=x/\x<=nq p/\∀(r:Nat),(↑r:Int)<x->lT p l (↑r:Int)<=pg p (↑r:Int))->q v/\(decide (x<v)=true->((((j bD.off l).same (j bD.off l)/\b.same b/\(i x).same (i x)/\(o).same (i 0)/\(o).same (i 0)/\True)/\c.same c/\True)/\d<=d/\d<=k/\d=lT p [] x)/\∀(a:Int×Int),let D:=decide (a.fst<(↑l.length:Int));let C:=bo l a.fst.toNat bD.off.dflt;let w:=a.snd+acS p x C;let e:=a.fst+(1:Int);let n:=i x;let h:=i w;let m:=i e;let g:=decide (pg p x<a.snd);d<=a.fst/\a.fst<=k/\a.snd=lT p (List.take a.fst.toNat l) x->(D=true->d<=a.fst/\a.fst<(↑l.length:Int)/\a.fst.toNat<l.length/\(p.classes.length<=8/\d<=x/\x<nq p/\d<=C.iy)/\q w/\q e/\(((j bD.off l).same (j bD.off l)/\b.same b/\n.same n/\h.same h/\m.same m/\True)/\c.same c/\True)/\(d<=e/\e<=k/\w=lT p (List.take e.toNat l) x)/\(k - e).toNat<(k - a.fst).toNat)/\(D=false->(p.classes.length<=8/\d<=x/\x<nq p/\d<=d)/\(g=true->(SV.bl false).same (SV.sb (yx p l)))/\(g=false->q f/\(((j bD.off l).same (j bD.off l)/\b.same b/\E.same E/\True)/\c.same c/\True)/\(d<=f/\f<=nq p/\∀(r:Nat),(↑r:Int)<f->lT p l (↑r:Int)<=pg p (↑r:Int))/\(nq p - f).toNat<(nq p - x).toNat)))/\(decide (x<v)=false->(SV.bl true).same (SV.sb (yx p l)))) (by kernel_rfl) ?_
 simp only[vcs]
 have T:nq p=p.classes.length+12:=rfl
 have P:∀x∈l,x.want.ok=true:=fun x y=>(q x y).2.2
 refine⟨⟨by omega,by omega,fun r J=>by omega⟩,?_⟩
 rintro i ⟨H,F,S⟩
 refine⟨by omega,fun N=>⟨⟨by omega,by omega,by simp[lT]⟩,?_⟩,?_⟩
 ·rintro⟨j,s⟩ ⟨u,o,B⟩
  simp only at u o B ⊢
  have Q:=@aeS p i (l.take j.toNat) fun x y=>P x (List.mem_of_mem_take y)
  have z:(l.take j.toNat).length<=l.length:=by simp;omega
  refine⟨fun t=>?_,fun t=>?_⟩
  ·have O:=q _ (nA (d:=bD.off.dflt) (show j.toNat<l.length by omega))
   have R:=@adt p i _ O.2.2
   grind[aow,aCA]
  ·have:j.toNat=l.length:=by omega
   rw[this,List.take_length] at B
   refine⟨⟨A,by omega,by omega,by omega⟩,fun K=>?_,fun M=>⟨by omega,⟨by omega,by omega,fun r J=>?_⟩,by omega⟩⟩
   ·symm
    rw[Bool.eq_false_iff];intro I
    have:=abk.1 I i.toNat (by omega)
    grind
   grind
 grind[abk]
def r24:fN:=⟨12,cn,.one ql,fun p=>True,fun p=> .si .i64 (dV p)⟩
def aCC (p:cn):Nat->jW
 |11=> .inv Int (fun k=>⟨[(1,.ptr 0 0 20),(4,.si .i64 k)],[.cells p.ss 27 20 false]⟩) (fun s=>iS s 4) (fun k=>0<=k/\k<=p.classes.length/\∀c∈p.classes.take k.toNat,0<=c/\c<=4) (fun k=>(p.classes.length - k).toNat) fun _ _=> .look
 |16=> .inv Int (fun i=>⟨[(1,.ptr 0 0 20),(5,.si .i64 i)],[.cells p.ss 27 20 false]⟩) (fun s=>iS s 5)
  (fun i=>0<=i/\i<=p.offers.length/\CN p [] p.offers=CN p ((p.offers.take i.toNat).map Off.key) (p.offers.drop i.toNat)) (fun i=>(p.offers.length - i).toNat)
  fun i=>fun
   |26=> .inv Int (fun k=>⟨[(1,.ptr 0 0 20),(5,.si .i64 i),(6,.ptr 1 0 8),(7,.si .i64 k)],[.cells p.ss 27 20 false,.cells (encS .off (bo p.offers i.toNat bD.off.dflt)) 58 8 false]⟩) (fun s=>iS s 7)
    (fun k=>0<=k/\k<=i/\∀j:Nat,j<k->(bo p.offers j bD.off.dflt).key≠(bo p.offers i.toNat bD.off.dflt).key) (fun k=>(i - k).toNat) fun _ _=> .look
   |_=> .look
 |4=> .inv Int (fun k=>⟨[(1,.ptr 0 0 20),(3,.si .i64 k)],[.cells p.ss 27 20 false]⟩) (fun s=>iS s 3) (fun k=>0<=k/\k<=6/\∀j:Nat,j<k->Gu p j) (fun k=>(6 - k).toNat) fun _ _=> .look
 |_=> .look
theorem aCD {b:dp}:(decide (b.a0=0)&&(decide (b.a1=0)&&(decide (b.a2=0)&&(decide (b.a3=0)&&(decide (b.a4=0)&&(decide (b.a5=0)&&true))))))=decide (b=dp.zero):=by
 simp_all[alc,dp.zero]
theorem aCE {b c:dp}:(decide (b.a0=c.a0)&&(decide (b.a1=c.a1)&&(decide (b.a2=c.a2)&&(decide (b.a3=c.a3)&&(decide (b.a4=c.a4)&&(decide (b.a5=c.a5)&&true))))))=decide (b=c):=by
 grind[alc]
theorem aCF {a:Type} {l:List a} {i:Int} {d x:a} (b:i<=l.length) (h:x∈l.take i.toNat):∃j:Nat,(j:Int)<i/\bo l j d=x:=by
 obtain⟨j,c,rfl⟩:=List.mem_iff_getElem.1 h
 grind[jV]
theorem h24:Holds Tryz.prog r24:=by
 refine lj (L:=r69::M1) r24 aCC (by grind[h69,hM1]) ?_
 intro p _
 refine gw (let d:=(0:Int);let e:=SV.si .i64;let h:=SV.il .i64;let i:=(6:Int);let k:=(1:Int);let l:=(4:Int);let o:=iR .i64;let g:=e (dV p);let n:=SV.ptr 0 0 20;let y:=h 0;let m:=cC.cells (cn.ss p) 27 20 false;let G:=[p.cls.a0,p.cls.a1,p.cls.a2,p.cls.a3,p.cls.a4,p.cls.a5];let K:=[p.opn.a0,p.opn.a1,p.opn.a2,p.opn.a3,p.opn.a4,p.opn.a5];let L:=[p.supply.a0,p.supply.a1,p.supply.a2,p.supply.a3,p.supply.a4,p.supply.a5];let A:=p.classes.length;let P:=(↑A:Int);let D:=decide ((8:Int)<P);let N:=p.offers.length;let s:=(↑N:Int);let W:=decide ((160:Int)<s);let r:=(↑p.classes.length:Int);let F:=(↑p.offers.length:Int);let J:=CN p [] p.offers;let E:=bD.off.dflt;let H:=SV.ptr 1 0 8;True/\((!p.supply.ok)=true->(h 4).same g)/\((!p.supply.ok)=false->(((n.same n/\y.same (e 0)/\True)/\m.same m/\True)/\d<=d/\d<=i/\∀(j:Nat),(↑j:Int)<d->Gu p j)/\∀(x:Int),let v:=x+k;let Z:=e v;let b1:=decide (x<i);let Q:=bo G x.toNat d;let b6:=decide (Q<d);let b5:=decide (l<Q);let C:=bo K x.toNat d;let c4:=decide (C<d);let M:=bo L x.toNat d;let c3:=decide (Q=d);let a8:=o v/\((n.same n/\Z.same Z/\True)/\m.same m/\True)/\(d<=v/\v<=i/\∀(j:Nat),(↑j:Int)<v->Gu p j)/\(i - v).toNat<(i - x).toNat;(d<=x/\x<=i/\∀(j:Nat),(↑j:Int)<x->Gu p j)->(b1=true->d<=x/\x<i/\x.toNat<6/\(b6=true->(h 4).same g)/\(b6=false->d<=x/\x<i/\x.toNat<6/\(b5=true->(h 4).same g)/\(b5=false->d<=x/\x<i/\x.toNat<6/\(c4=true->(h 4).same g)/\(c4=false->d<=x/\x<i/\x.toNat<6/\d<=x/\x<i/\x.toNat<6/\(decide (M<C)=true->(h 4).same g)/\(decide (M<C)=false->d<=x/\x<i/\x.toNat<6/\(c3=true->d<=x/\x<i/\x.toNat<6/\d<=x/\x<i/\x.toNat<6/\(decide (C≠M)=true->(h 4).same g)/\(decide (C≠M)=false->a8))/\(c3=false->a8))))))/\(b1=false->(D=true->(h 3).same g)/\(D=false->(W=true->(h 3).same g)/\(W=false->(((n.same n/\y.same (e 0)/\True)/\m.same m/\True)/\d<=d/\d<=r/\∀(c:Int),c∈[]->d<=c/\c<=l)/\∀(x:Int),let b2:=bo p.classes x.toNat d;let b3:=decide (b2<d);let b8:=decide (l<b2);let t:=x+k;let a7:=e t;(d<=x/\x<=r/\∀(c:Int),c∈List.take x.toNat p.classes->d<=c/\c<=l)->(decide (x<P)=true->d<=x/\x<P/\x.toNat<A/\(b3=true->(h 4).same g)/\(b3=false->d<=x/\x<P/\x.toNat<A/\(b8=true->(h 4).same g)/\(b8=false->o t/\((n.same n/\a7.same a7/\True)/\m.same m/\True)/\(d<=t/\t<=r/\∀(c:Int),c∈List.take t.toNat p.classes->d<=c/\c<=l)/\(r - t).toNat<(r - x).toNat)))/\(decide (x<P)=false->(((n.same n/\y.same (e 0)/\True)/\m.same m/\True)/\d<=d/\d<=F/\J=J)/\∀(x:Int),let f:=bo p.offers x.toNat E;let a:=f.want;let B:=f.iy;let U:=decide (B<d);let a6:=decide (f.value<k);let c1:=decide ((1000000:Int)<f.value);let I:=cC.cells [e B,e a.a0,e a.a1,e a.a2,e a.a3,e a.a4,e a.a5,e f.value] 58 8 false;let q:=x+k;let b4:=e q;let R:=fun(u:Bool) ↦(decide (a.a0=d)&&(decide (a.a1=d)&&(decide (a.a2=d)&&(decide (a.a3=d)&&(decide (a.a4=d)&&(decide (a.a5=d)&&true))))))=u;d<=x/\x<=F/\J=CN p (List.map Off.key (List.take x.toNat p.offers)) (List.drop x.toNat p.offers)->(decide (x<s)=true->d<=x/\x<s/\x.toNat<N/\(U=true->(h 6).same g)/\(U=false->(decide (P<=B)=true->(h 6).same g)/\(decide (P<=B)=false->(a6=true->(h 4).same g)/\(a6=false->(c1=true->(h 4).same g)/\(c1=false->True/\((!a.ok)=true->(h 4).same g)/\((!a.ok)=false->(R true->(h 4).same g)/\(R false->(p.classes.length<=8/\1<=1000/\∀(x:Off),x∈[f]->d<=x.iy/\x.iy<r/\x.want.ok=true)/\((!yx p [f])=true->(h 14).same g)/\((!yx p [f])=false->(((n.same n/\(e x).same (e x)/\H.same H/\y.same (e 0)/\True)/\m.same m/\I.same I/\True)/\d<=d/\d<=x/\∀(j:Nat),(↑j:Int)<d->(bo p.offers j E).key≠f.key)/\∀(b:Int),let w:=b+k;let V:=e x;let b9:=e w;let a9:=bo p.offers b.toNat E;let z:=a9.want;let c2:=decide (a9.iy=B);let X:=o w/\((n.same n/\V.same V/\H.same H/\b9.same b9/\True)/\m.same m/\I.same I/\True)/\(d<=w/\w<=x/\∀(j:Nat),(↑j:Int)<w->(bo p.offers j E).key≠f.key)/\(x - w).toNat<(x - b).toNat;let Y:=fun(u:Bool) ↦(decide (z.a0=a.a0)&&(decide (z.a1=a.a1)&&(decide (z.a2=a.a2)&&(decide (z.a3=a.a3)&&(decide (z.a4=a.a4)&&(decide (z.a5=a.a5)&&true))))))=u;(d<=b/\b<=x/\∀(j:Nat),(↑j:Int)<b->(bo p.offers j E).key≠f.key)->(decide (b<x)=true->d<=b/\b<s/\b.toNat<N/\(c2=true->d<=b/\b<s/\b.toNat<N/\(Y true->(h 7).same g)/\(Y false->X))/\(c2=false->X))/\(decide (b<x)=false->o q/\((n.same n/\b4.same b4/\True)/\m.same m/\True)/\(d<=q/\q<=F/\J=CN p (List.map Off.key (List.take q.toNat p.offers)) (List.drop q.toNat p.offers))/\(F - q).toNat<(F - x).toNat)))))))))/\(decide (x<s)=false->y.same g))))))) (by kernel_rfl) ?_
 simp only[aCD,aCE];simp only[vcs]
 have e4:EH p=4->(4:Int)=dV p:=fun h=>by simp[dV,h]
 have e3:EH p=3->(3:Int)=dV p:=fun h=>by simp[dV,h]
 refine⟨fun O=>e4 (auu O),fun O=>⟨⟨by omega,by omega,fun j hj=>by omega⟩,?_⟩⟩
 rintro k ⟨c6,c5,hk⟩
 refine⟨fun D=>?_,fun b7=>?_⟩
 ·have c9:¬Gu p k.toNat->(4:Int)=dV p:=fun h=>e4 (auv O (by omega) h)
  have d4:Gu p k.toNat->∀(j:Nat),(j:Int)<k+1->Gu p j:=fun h j hj=>by
   grind
  repeat' (first|refine And.intro ?_ ?_|intro _)
  all_goals first
   |omega
   |exact c9 fun hh=>by have h2:=abl.1 hh;omega
   |grind[abl]
 ·have l:∀j:Nat,j<6->Gu p j:=fun j hj=>hk j (by omega)
  refine⟨fun h=>e3 (alf O l (.inl (by omega))),fun h8=>⟨fun h=>e3 (alf O l (.inr (by omega))),fun d3=>⟨⟨by omega,by omega,by simp⟩,?_⟩⟩⟩
  rintro i ⟨K,S,G⟩
  refine⟨fun D=>?_,fun b7=>?_⟩
  ·have hm:=nA (d:=0) (show i.toNat<p.classes.length by omega)
   refine⟨by omega,by omega,by omega,fun h=>e4 (alg O l (by omega) hm (by omega)),fun h1=>⟨by omega,by omega,by omega,fun h=>e4 (alg O l (by omega) hm (by omega)),fun h2=>⟨by omega,⟨by omega,by omega,?_⟩,by omega⟩⟩⟩
   exact auw K D G (by omega)
  ·rw[show i.toNat=p.classes.length from by omega,List.take_length] at G
   have hz:EH p=0:=aoy O l (by omega) G
   have ce:dV p=CN p [] p.offers:=by grind[dV]
   refine⟨⟨by omega,by omega⟩,?_⟩
   rintro i ⟨K,S,G⟩
   refine⟨fun D=>?_,fun b7=>?_⟩
   ·rw[aeb (d:=bD.off.dflt) K D] at G
    generalize hx:bo p.offers i.toNat bD.off.dflt=x at G ⊢
    have oe:∀c:Int,c≠0->MR p x=c->c=dV p:=fun c hc h=>by
     simp_all[CN]
    have T:∀c:Int,c≠0->SE p.classes.length x=c->c=dV p:=fun c hc h=>oe c hc (by
     unfold MR
     omega)
    refine⟨by omega,by omega,by omega,fun h1=>?_,fun h1=>⟨fun h2=>?_,fun h2=>⟨fun h3=>?_,fun h3=>⟨fun h4=>?_,fun h4=>⟨fun h5=>?_,fun h5=>⟨fun h6=>?_,fun h6=>?_⟩⟩⟩⟩⟩⟩
    ·exact T 6 (by decide) (by unfold SE;omega)
    ·exact T 6 (by decide) (by unfold SE;omega)
    ·exact T 4 (by decide) (by unfold SE;omega)
    ·exact T 4 (by decide) (by unfold SE;omega)
    ·exact T 4 (by decide) (by unfold SE;grind)
    ·have d0:SE p.classes.length x=0:=by unfold SE;grind
     grind[MR]
    ·have d0:SE p.classes.length x=0:=by unfold SE;grind
     refine⟨⟨by omega,by omega,fun y hy=>?_⟩,fun h7=>?_,fun h7=>⟨⟨by omega,by omega,fun j hj=>by omega⟩,?_⟩⟩
     ·grind
     ·grind[MR]
     ·have b0:MR p x=0:=by grind[MR]
      rintro k ⟨c6,c5,hk⟩
      have c0:(bo p.offers k.toNat bD.off.dflt).key≠x.key->∀j:Nat,(j:Int)<k+1->(bo p.offers j bD.off.dflt).key≠x.key:=fun h j hj=>by
       grind
      refine⟨fun d2=>⟨by omega,by omega,by omega,fun h8=>⟨by omega,by omega,by omega,fun h9=>?_,fun h9=>⟨by omega,⟨by omega,by omega,?_⟩,by omega⟩⟩,fun h8=>⟨by omega,⟨by omega,by omega,?_⟩,by omega⟩⟩,fun d1=>⟨by omega,⟨by omega,by omega,?_⟩,by omega⟩⟩
      ·have c8:(bo p.offers k.toNat bD.off.dflt).key=x.key:=by
        show aaH.mk _ _=aaH.mk _ _
        rw[h8,h9]
       have A:x.key∈(p.offers.take i.toNat).map Off.key:=by
        rw[<-c8]
        refine List.mem_map.2 ⟨_,?_,rfl⟩
        rw[jV (by omega)]
        exact List.mem_take_iff_getElem.2 ⟨k.toNat,by omega,rfl⟩
       rw[ce,G];simp only[CN,b0,ne_eq,not_true,if_false,if_pos A]
      ·refine c0 fun e=>h9 ?_
       injection e
      ·refine c0 fun e=>h8 ?_
       injection e
      ·have c7:x.key∉(p.offers.take i.toNat).map Off.key:=by
        intro A
        obtain⟨o,ho,he⟩:=List.mem_map.1 A
        obtain⟨j,hj,rfl⟩:=aCF (d:=bD.off.dflt) S ho
        grind
       rw[G,aal (d:=bD.off.dflt) K D,hx];simp only[CN,b0,ne_eq,not_true,if_false,if_neg c7,List.map_append,List.map_cons,List.map_nil]
   ·rw[show i.toNat=p.offers.length from by omega,List.drop_length] at G
    rw[ce,G];rfl
def M2:List fN:=r24::r69::M1
theorem hM2:∀c∈M2,Holds Tryz.prog c:=by
 grind[M2,h24,h69,hM1]
def aoH:fN:=⟨51,cn×List Int,.cons ql (.one (qX (.i .i64))),fun a=>a.2.length<=9223372036854775807/\a.1.offers.length<=1000,fun a=> .eW [.row .off (nn a.1 a.2),.sb (y5 a.1 a.2)]⟩
def QV (c:List Int) (i:Int):Int:=if i=0 then -1 else bo c (i - 1).toNat 0
def aCG (a:cn×List Int):Nat->jW
 |3=> .inv (Int×List Off) (fun x=>⟨[(1,.row (.i .i64) a.2),(2,.ptr 0 0 20),(6,.ow 1 x.2.length 8),(7,.si .i64 x.1)],
   [.cells a.1.ss 27 20 false,.row .off x.2 58 true]⟩) (fun s=>(iS s 7,oS .off s 1))
  (fun x=>0<=x.1/\x.1<=a.2.length/\(x.2.length<=QV a.2 x.1+1/\QV a.2 x.1<1000)/\ -1<=QV a.2 x.1/\rf a.1.offers (-1) a.2=(rf a.1.offers (QV a.2 x.1) (a.2.drop x.1.toNat)).map (x.2++·)) (fun x=>(a.2.length - x.1).toNat) fun _ _=> .look
 |_=> .look
theorem h109:Holds Tryz.prog aoH:=by
 refine lj (L:=M2) aoH aCG hM2 ?_
 rintro⟨p,c⟩ ⟨Y,F⟩
 have Y:c.length<=9223372036854775807:=Y
 have F:p.offers.length<=1000:=F
 refine gw (let d:=SV.si .i64;let f:=(0:Int);let h:=SV.row;let j:=(1:Int);let n:=SV.bl false;let q:=(-1:Int);let r:=(1000:Int);let u:=SV.eW;let m:=bD.i .i64;let J:=SV.ptr 0 0 20;let X:=SV.ow 1 0 8;let K:=cC.cells [d p.supply.a0,d p.supply.a1,d p.supply.a2,d p.supply.a3,d p.supply.a4,d p.supply.a5,d p.opn.a0,d p.opn.a1,d p.opn.a2,d p.opn.a3,d p.opn.a4,d p.opn.a5,d p.cls.a0,d p.cls.a1,d p.cls.a2,d p.cls.a3,d p.cls.a4,d p.cls.a5,h m p.classes,h bD.off p.offers] 27 20 false;let W:=cC.row bD.off [] 58 true;let y:=(↑c.length:Int);let M:=QV c f;let T:=rf p.offers q c;let o:=(↑c.length:Int);let N:=u [h bD.off (nn p c),SV.sb (y5 p c)];let t:=p.offers.length;let s:=(↑t:Int);let V:=bD.off.dflt;((((h m c).same (h m c)/\J.same J/\X.same X/\(SV.il .i64 0).same (d 0)/\True)/\K.same K/\W.same W/\True)/\f<=f/\f<=y/\(f<=M+j/\M<r)/\q<=M/\T=Option.map (fun x ↦(f,[]).snd++x) (rf p.offers M c))/\∀(x:Int×List Off),let a:=bo c x.fst.toNat f;let I:=x.snd.length+1;let b:=x.fst+j;let g:=x.snd++[bo p.offers a.toNat V];let D:=d b;let v:=cC.row bD.off g 58 true;let l:=QV c b;let k:=QV c x.fst;let H:=decide (a<f);let E:=decide (f<x.fst);let e:=x.fst - j;let B:=decide (a<=bo c e.toNat f);let A:=f<=x.fst/\x.fst<o/\x.fst.toNat<c.length/\f<=a/\a<s/\a.toNat<t/\x.snd.length=x.snd.length/\I*64<=140737488355328/\I<=1000000000000/\iR .i64 b/\(((h m c).same (h m c)/\J.same J/\(SV.ow 1 g.length 8).same (SV.ow 1 g.length 8)/\D.same D/\True)/\K.same K/\v.same v/\True)/\(f<=b/\b<=y/\((↑g.length:Int)<=l+j/\l<r)/\q<=l/\T=Option.map (fun x ↦(b,g).snd++x) (rf p.offers l (List.drop b.toNat c)))/\(y - b).toNat<(y - x.fst).toNat;f<=x.fst/\x.fst<=y/\((↑x.snd.length:Int)<=k+j/\k<r)/\q<=k/\T=Option.map (fun O ↦x.snd++O) (rf p.offers k (List.drop x.fst.toNat c))->(decide (x.fst<o)=true->f<=x.fst/\x.fst<o/\x.fst.toNat<c.length/\(H=true->(u [h m [],n]).same N)/\(H=false->f<=x.fst/\x.fst<o/\x.fst.toNat<c.length/\(decide (s<=a)=true->(u [h m [],n]).same N)/\(decide (s<=a)=false->(E=true->f<=x.fst/\x.fst<o/\x.fst.toNat<c.length/\iR .i64 e/\f<=e/\e<o/\e.toNat<c.length/\(B=true->(u [h m [],n]).same N)/\(B=false->A))/\(E=false->A))))/\(decide (x.fst<o)=false->x.snd.length=x.snd.length/\(u [h bD.off x.snd,SV.bl true]).same N)) (by kernel_rfl) ?_
 simp only[vcs]
 have C:rf p.offers (-1) c=none->(SV.row (.i .i64) []).same (SV.row .off (nn p c))/\false=y5 p c:=fun h=>⟨aut.2 (by simp[nn,h]),by simp[y5,h]⟩
 refine⟨⟨by omega,by omega,by simp[QV],by simp[QV]⟩,?_⟩
 rintro⟨i,u⟩ ⟨z,P,G,R,q⟩
 simp only at z P G R q ⊢
 refine⟨fun S=>?_,fun a6=>?_⟩
 ·rw[aeb (d:=0) z S] at q
  have w:QV c (i+1)=bo c i.toNat 0:=by unfold QV;grind
  have U:i≠0->QV c i=bo c (i - 1).toNat 0:=fun h=>by simp_all[QV]
  have Q:i=0->QV c i= -1:=fun h=>by simp_all[QV]
  generalize hx:bo c i.toNat 0=x at q w ⊢
  simp only[rf] at q
  have j:¬(x<=QV c i\/p.offers.length<=x)->rf p.offers (-1) c=(rf p.offers (QV c (i+1)) (c.drop (i+1).toNat)).map fun r=>(u++[bo p.offers x.toNat bD.off.dflt])++r:=fun h=>by
   rw[if_neg h] at q;rw[q,w,Option.map_map]
   congr 1
   grind
  have n:(x<=QV c i\/p.offers.length<=x)->(SV.row (.i .i64) []).same (SV.row .off (nn p c))/\false=y5 p c:=fun h=>C (by simp_all)
  have f:¬(x<=QV c i\/p.offers.length<=x)->((u++[bo p.offers x.toNat bD.off.dflt]).length:Int)<=QV c (i+1)+1/\QV c (i+1)<1000:=fun h=>by
   grind
  refine⟨by omega,by omega,by omega,fun Z=>n (.inl (by omega)),fun Z=>⟨by omega,by omega,by omega,fun h2=>n (.inr (by omega)),fun h2=>⟨fun h3=>⟨by omega,by omega,by omega,by omega,by omega,by omega,by omega,fun h4=>n (.inl (by omega)),fun h4=>?_⟩,fun h3=>?_⟩⟩⟩
  ·have:=U (by omega)
   refine⟨by omega,by omega,by omega,by omega,by omega,by omega,by omega,by omega,by omega,⟨by omega,by omega,f (by omega),by omega,j (by omega)⟩,by omega⟩
  ·have:=Q (by omega)
   refine⟨by omega,by omega,by omega,by omega,by omega,by omega,by omega,by omega,by omega,⟨by omega,by omega,f (by omega),by omega,j (by omega)⟩,by omega⟩
 ·rw[show i.toNat=c.length from by omega,List.drop_length] at q
  grind[rf,nn,y5]
def M3:List fN:=aoH::M2
theorem hM3:∀c∈M3,Holds Tryz.prog c:=by
 grind[M3,h109,hM2]
def r55:fN:=⟨20,cn×List Int,.cons ql (.one (qX (.i .i64))),fun a=>a.2.length<=9223372036854775807,fun a=> .si .i64 (lF a.1 a.2)⟩
theorem h55:Holds Tryz.prog r55:=by
 refine lj (L:=M3) r55 (fun p=>fun _=> .look) hM3 ?_
 rintro⟨p,c⟩ (n:c.length<=9223372036854775807)
 refine gw (let a:=SV.il .i64;let e:=decide (dV p≠(0:Int));let d:=SV.si .i64 (lF p c);let f:=!yx p (nn p c);True/\(e=true->(SV.si .i64 (dV p)).same d)/\(e=false->(c.length<=9223372036854775807/\p.offers.length<=1000)/\((!y5 p c)=true->(a 4).same d)/\((!y5 p c)=false->(p.classes.length<=8/\(nn p c).length<=1000/\∀(x:Off),x∈nn p c->(0:Int)<=x.iy/\x.iy<(↑p.classes.length:Int)/\x.want.ok=true)/\(f=true->(a 14).same d)/\(f=false->(a 0).same d)))) (by kernel_rfl) ?_
 simp only[vcs]
 refine⟨fun h=>by simp[lF,h],fun h=>?_⟩
 have g:dV p=0:=Classical.not_not.1 h
 obtain⟨m,j⟩:=aec g
 obtain⟨s,o,l,q,t⟩:=aeT m
 refine⟨⟨n,by omega⟩,fun a=>by grind[lF],fun a=>⟨⟨l,?_,?_⟩,fun k=>by grind[lF],fun k=>by grind[lF]⟩⟩
 ·unfold y5 at a
  obtain⟨r,b⟩:=Option.isSome_iff_exists.1 a
  have:=aiV (by omega) b
  grind[nn]
 ·unfold y5 at a
  obtain⟨r,b⟩:=Option.isSome_iff_exists.1 a
  simp only[nn,b,Option.getD_some];intro x i
  have u:=alh (aiU (j x (alm (by omega) b x i))).1
  simp_all
def jd:List Off->Int
 |[]=>0
 |x::l=>x.value+jd l
def nD (p:cn) (c:List Int):Int:=if dV p=0 then jd (nn p c) else 0
theorem abK:∀{l m:List Off},jd (l++m)=jd l+jd m
 |[],m=>by simp[jd]
 |x::l,m=>by simp only[List.cons_append,jd,@abK l m];omega
theorem auD {l:List Off} {i:Int} (a:0<=i) (h:i<l.length):jd (l.take (i+1).toNat)=jd (l.take i.toNat)+(bo l i.toNat bD.off.dflt).value:=by
 rw[aal (d:=bD.off.dflt) a h,abK]
 simp[jd]
def r58:fN:=⟨21,cn×List Int,.cons ql (.one (qX (.i .i64))),fun a=>a.2.length<=9223372036854775807,fun a=> .si .i64 (nD a.1 a.2)⟩
def aCH (a:cn×List Int):Nat->jW
 |6=> .inv Int (fun i=>⟨[(5,.row .off (nn a.1 a.2)),(7,.si .i64 (jd ((nn a.1 a.2).take i.toNat))),(8,.si .i64 i)],[.cells a.1.ss 27 20 false]⟩) (fun s=>iS s 8)
  (fun i=>0<=i/\i<=(nn a.1 a.2).length) (fun i=>((nn a.1 a.2).length - i).toNat) fun _ _=> .look
 |_=> .look
theorem auF {p:cn} {c:List Int} (h:dV p=0):(nn p c).length<=160/\∀x∈nn p c,x∈p.offers:=by
 have d:=pz h
 unfold nn
 cases a:rf p.offers (-1) c with
 |none=>simp
 |some r=>
  refine⟨?_,fun x b=>alm (by omega) a x b⟩
  have e:=aiV (by omega) a
  have f:=d.2.1
  grind
theorem acT {p:cn} (a:Good p):∀{l:List Off},(∀x∈l,x∈p.offers)->0<=jd l/\jd l<=1000000*l.length
 |[],_=>by simp[jd]
 |x::l,h=>by
  have c:=a.2.2.2.2 x (h x (by simp))
  have d:=@acT p a l fun y b=>h y (by simp[b])
  grind[jd]
theorem h58:Holds Tryz.prog r58:=by
 refine lj (L:=M3) r58 aCH hM3 ?_
 rintro⟨p,c⟩ (A:c.length<=9223372036854775807)
 refine gw (let g:=SV.si .i64;let h:=(0:Int);let t:=decide (dV p≠h);let k:=SV.il .i64 0;let v:=g (nD p c);let e:=SV.row bD.off (nn p c);let f:=cC.cells (cn.ss p) 27 20 false;let d:=(↑(nn p c).length:Int);let n:=(↑(nn p c).length:Int);True/\(t=true->k.same v)/\(t=false->(c.length<=9223372036854775807/\p.offers.length<=1000)/\(((e.same e/\k.same (g (jd []))/\k.same (g 0)/\True)/\f.same f/\True)/\h<=h/\h<=d)/\∀(x:Int),let r:=jd (List.take x.toNat (nn p c));let s:=r+(bo (nn p c) x.toNat bD.off.dflt).value;let a:=x+(1:Int);let b:=g a;h<=x/\x<=d->(decide (x<n)=true->h<=x/\x<n/\x.toNat<(nn p c).length/\iR .i64 s/\iR .i64 a/\((e.same e/\(g s).same (g (jd (List.take a.toNat (nn p c))))/\b.same b/\True)/\f.same f/\True)/\(h<=a/\a<=d)/\(d - a).toNat<(d - x).toNat)/\(decide (x<n)=false->(g r).same v))) (by kernel_rfl) ?_
 simp only[vcs]
 refine⟨fun h=>by simp[nD,h],fun h=>⟨⟨A,by have:=(pz (Classical.not_not.1 h)).2.1;omega⟩,⟨by simp[jd],by omega⟩,?_⟩⟩
 have o:dV p=0:=Classical.not_not.1 h
 have u:=pz o
 obtain⟨C,q⟩:=auF (c:=c) o
 rintro i ⟨j,y⟩
 refine⟨fun m=>?_,fun w=>?_⟩
 ·have B:=auD j m
  have D:=acT u (l:=(nn p c).take i.toNat) fun x g=>q x (List.mem_of_mem_take g)
  have z:=acT u (l:=(nn p c).take (i+1).toNat) fun x g=>q x (List.mem_of_mem_take g)
  grind
 ·rw[show i.toNat=(nn p c).length from by omega,List.take_length]
  grind[nD]
def cmpL:List Int->List Int->Int
 |[],[]=>0
 |[],_::_=> -1
 |_::_,[]=>1
 |a::l,b::m=>if a<b then -1 else if b<a then 1 else cmpL l m
def r32:fN:=⟨32,List Int×List Int,.cons (qX (.i .i64)) (.one (qX (.i .i64))),fun a=>a.1.length<=1000000000000/\a.2.length<=1000000000000,fun a=> .si .i64 (cmpL a.1 a.2)⟩
def aCI (a:List Int×List Int):Nat->jW
 |2=> .inv Int (fun i=>⟨[(0,.row (.i .i64) a.1),(1,.row (.i .i64) a.2),(5,.si .i64 i)],[]⟩) (fun s=>iS s 5)
  (fun i=>0<=i/\i<=a.1.length/\i<=a.2.length/\cmpL a.1 a.2=cmpL (a.1.drop i.toNat) (a.2.drop i.toNat)) (fun i=>(a.1.length - i).toNat) fun _ _=> .look
 |_=> .look
theorem h32:Holds Tryz.prog r32:=by
 refine lj (L:=[]) r32 aCI (by simp) ?_
 rintro⟨a,b⟩ ⟨w,u⟩
 refine gw (let d:=(0:Int);let h:=SV.il .i64;let j:=SV.si .i64;let k:=(-1:Int);let q:=SV.row (bD.i .i64) a;let n:=SV.row (bD.i .i64) b;let t:=h 0;let m:=(↑a.length:Int);let r:=(↑b.length:Int);let e:=(↑a.length:Int);let f:=(↑b.length:Int);let g:=j (cmpL a b);(((q.same q/\n.same n/\t.same (j 0)/\True)/\True)/\d<=d/\d<=m/\d<=r/\cmpL a b=cmpL a b)/\∀(x:Int),let o:=bo a x.toNat d;let p:=bo b x.toNat d;let c:=x+(1:Int);let l:=j c;d<=x/\x<=m/\x<=r/\cmpL a b=cmpL (List.drop x.toNat a) (List.drop x.toNat b)->(decide (x<e)=true->(decide (x<f)=true->d<=x/\x<e/\x.toNat<a.length/\d<=x/\x<f/\x.toNat<b.length/\(decide (o<p)=true->(h k).same g)/\(decide (o<p)=false->d<=x/\x<e/\x.toNat<a.length/\d<=x/\x<f/\x.toNat<b.length/\(decide (p<o)=true->(h 1).same g)/\(decide (p<o)=false->iR .i64 c/\((q.same q/\n.same n/\l.same l/\True)/\True)/\(d<=c/\c<=m/\c<=r/\cmpL a b=cmpL (List.drop c.toNat a) (List.drop c.toNat b))/\(m - c).toNat<(m - x).toNat)))/\(decide (x<f)=false->(decide (e<f)=true->(h k).same g)/\(decide (e<f)=false->(decide (f<e)=true->(h 1).same g)/\(decide (f<e)=false->t.same g))))/\(decide (x<e)=false->(decide (e<f)=true->(h k).same g)/\(decide (e<f)=false->(decide (f<e)=true->(h 1).same g)/\(decide (f<e)=false->t.same g)))) (by kernel_rfl) ?_
 conv=>zeta
 simp only at w u
 simp only[vcs]
 refine⟨⟨by omega,by omega,by omega⟩,?_⟩
 rintro i ⟨j,v,z,h⟩
 refine⟨fun s=>⟨fun k=>?_,fun k=>?_⟩,fun s=>?_⟩
 ·rw[aeb (d:=0) j s,aeb (d:=0) j k] at h
  simp only[cmpL] at h;omega
 ·rw[aeb (d:=0) j s,show i.toNat=b.length from by omega,List.drop_length] at h
  grind[cmpL]
 ·rw[show i.toNat=a.length from by omega,List.drop_length] at h
  refine⟨fun k=>?_,fun k=>⟨fun y=>by omega,fun y=>?_⟩⟩
  ·rw[<-Int.toNat_natCast a.length,aeb (d:=0) (by omega) k] at h
   exact h.symm
  ·rw[show a.length=b.length from by omega,List.drop_length] at h
   exact h.symm
def qM (l:List dp):dp:=⟨(l.map dp.a0).sum,(l.map dp.a1).sum,(l.map dp.a2).sum,(l.map dp.a3).sum,(l.map dp.a4).sum,(l.map dp.a5).sum⟩
def jA (p:cn) (l:List Int):List Off:=l.map fun i=>bo p.offers i.toNat bD.off.dflt
def Da (p:cn) (L:List Off):Prop:=(L.map Off.iy).Nodup/\(qM (L.map Off.want)).le p.supply=true/\(qM (L.map (tf p))).le p.opn=true
instance (p:cn) (L:List Off):Decidable (Da p L):=by unfold Da;infer_instance
def SG (p:cn) (l:List Int):Bool:=decide (Da p (jA p l))
def Gv (a b:dp) (k:Int):dp:=⟨if 0<k then b.a0 else a.a0,if 1<k then b.a1 else a.a1,if 2<k then b.a2 else a.a2,if 3<k then b.a3 else a.a3,if 4<k then b.a4 else a.a4,if 5<k then b.a5 else a.a5⟩
def dp.add (a b:dp):dp:=⟨a.a0+b.a0,a.a1+b.a1,a.a2+b.a2,a.a3+b.a3,a.a4+b.a4,a.a5+b.a5⟩
theorem afS {l m:List dp}:qM (l++m)=(qM l).add (qM m):=by simp[qM,dp.add]
theorem afT {b:dp} {l:List dp}:qM (b::l)=b.add (qM l):=by simp[qM,dp.add]
def dp.bd (b:dp) (n:Int):Prop:=(0<=b.a0/\b.a0<=n)/\(0<=b.a1/\b.a1<=n)/\(0<=b.a2/\b.a2<=n)/\(0<=b.a3/\b.a3<=n)/\(0<=b.a4/\b.a4<=n)/\(0<=b.a5/\b.a5<=n)
theorem aoK:∀{l:List dp},(∀b∈l,b.ok=true)->(qM l).bd (4*l.length)
 |[],_=>by simp[qM,dp.bd]
 |b::l,h=>by
  have e:=dp.Kz.1 (h b (by simp))
  have d:=@aoK l fun c a=>h c (by simp[a])
  rw[afT];simp only[dp.bd,dp.add,List.length_cons] at d ⊢;omega
theorem aCJ {p:cn} {x:Off} (h:x.want.ok=true):(tf p x).ok=true:=by
 have a:=dp.Kz.1 h
 rw[dp.Kz];simp only[tf,aoD,oc];omega
theorem aoL {p:cn} (b:Good p) {l:List Int} (h:∀i∈l,0<=i/\i<p.offers.length):∀x∈jA p l,x∈p.offers:=by
 intro x a
 obtain⟨i,c,rfl⟩:=List.mem_map.1 a
 grind[nA]
def KA (p:cn) (i:Int):Int:=(bo p.offers i.toNat bD.off.dflt).value
def better (a b:Alloc):Alloc:=if b.value<a.value\/a.value=b.value/\cmpL a.chosen b.chosen<0 then a else b
def QY (p:cn):Nat->Int->Alloc->Alloc->Alloc
 |0,_,_,b=>b
 |k+1,i,a,b=>QY p k (i+1) a (if SG p (a.chosen++[i]) then QY p k (i+1) ⟨a.chosen++[i],a.value+KA p i⟩ (better ⟨a.chosen++[i],a.value+KA p i⟩ b) else b)
def om (p:cn) (i:Int):Nat:=(p.offers.length - i).toNat
def aoM (p:cn) (a:Alloc) (f:Int) (b:Alloc):Alloc:=QY p (om p f) f a (better a b)
def aS (s:iz) (id:Nat):Alloc:=match s.o[id]? with
 |some (.cells [r,v] _ _ _)=>⟨(J6 (.i .i64) r).getD [],(v.int .i64).getD 0⟩
 |_=>⟨[],0⟩
theorem auG {L:List fN} {W:Ug} (c:fN) (F:uC) (Λ:Nat->jW) (i:aaO Tryz.prog W) (j:∀c∈L,Holds Tryz.prog c)
  (l:ym c.f=some F) (a:c.α) (e:(c.A.put a).length=F.params) (k:∀d,Yf c.f L=some d->∀b,gL (c.A.put a)=gL (d.A.put b)->¬d.dom b)
  (h:Vc (fnK (SC L W ZZ mtN ym) Λ F (c.A.put a) fun v=>v.same (c.res a))):By Tryz.prog c.f=true/\Uc Tryz.prog c.f (gL (c.A.put a)) [] (c.res a).g []:=by
 refine aiQ (p:=SC L W ZZ mtN ym) (Λ:=Λ) (ad7 i j acg) (ad8 i) (fun _ _ h=>h) l ?_ e h.out
 simp only[ace,adr,Bool.false_eq_true,if_false];split
 all_goals simp_all[ans]
def jD (p:cn):Alloc:=aoM p ⟨[],0⟩ 0 ⟨[],0⟩
def hasB (m b:Int):Bool:=decide (B2.afC .i64 (m / 2^b.toNat) 1=1)
def alq (p:cn) (w:Int) (n:Nat):Int:=((List.range n).map fun i:Nat=>if(i:Int)≠w then(2:Int)^i else 0).sum
def abL (p:cn) (m:Int):cn:={p with offers:=p.offers.filter fun x=>hasB m x.iy}
theorem aoN {p:cn} (h:Good p) (m:Int):Good (abL p m):=by
 refine⟨h.1,?_,h.2.2.1,h.2.2.2.1,fun x hx=>h.2.2.2.2 x (List.mem_filter.1 hx).1⟩
 have:=List.length_filter_le (fun x:Off=>hasB m x.iy) p.offers
 have:=h.2.1
 simp only[abL];omega
def afU (p:cn) (m:Int):Int:=(jD (abL p m)).value
theorem aoO {p:cn} {c:List Int} (e:lF p c=0):dV p=0/\y5 p c=true/\Good p/\c.length<=160/\∀i∈c,0<=i/\i<p.offers.length:=by
 have b:dV p=0:=by
  unfold lF at e;omega
 have d:y5 p c=true:=by
  unfold lF at e
  grind
 have f:=pz b
 obtain⟨r,g⟩:=Option.isSome_iff_exists.1 d
 obtain⟨h,a⟩:=auC (by omega) g
 refine⟨b,d,f,?_,a⟩
 have k:=aiV (by omega) g
 have j:=f.2.1
 grind
def aoP (p:cn):Int:=alq p (-1) p.classes.length
structure auH (p:cn) (fs:List Int) (l o:dp) (L:List Off):Prop where
 nd:(L.map Off.iy).Nodup
 mem:∀x∈L,x∈p.offers/\x.iy∈fs
 w:(qM (L.map Off.want)).le l=true
 o:(qM (L.map (tf p))).le o=true
theorem auI {p:cn} {fs:List Int} {l o:dp}:∀{xs:List Off} {v:Int},v<=xs.foldl (abJ p fs l o) v/\∀x∈xs,x.want.le l=true->(tf p x).le o=true->x.value+N1 p fs (l.sub x.want) (o.sub (tf p x))<=xs.foldl (abJ p fs l o) v
 |[],v=>by simp
 |y::xs,v=>by
  obtain⟨h1,h2⟩:=@auI p fs l o xs (abJ p fs l o v y)
  have hv:v<=abJ p fs l o v y:=by
   unfold abJ
   split<;>omega
  refine⟨by simp only[List.foldl_cons];omega,fun x hx hw ho=>?_⟩
  simp only[List.foldl_cons]
  rcases List.mem_cons.1 hx with rfl|hx
  ·have:x.value+N1 p fs (l.sub x.want) (o.sub (tf p x))<=abJ p fs l o v x:=by
    unfold abJ
    rw[if_pos (by simp[hw,ho])]
    omega
   omega
  ·exact h2 x hx hw ho
theorem fold_at {p:cn} {fs:List Int} {l o:dp}:∀{xs:List Off} {v:Int},xs.foldl (abJ p fs l o) v=v\/∃x∈xs,x.want.le l=true/\(tf p x).le o=true/\xs.foldl (abJ p fs l o) v=x.value+N1 p fs (l.sub x.want) (o.sub (tf p x))
 |[],v=>by simp
 |y::xs,v=>by
  simp only[List.foldl_cons]
  rcases @fold_at p fs l o xs (abJ p fs l o v y) with h|⟨x,hx,h1,h2,h3⟩
  ·rw[h]
   unfold abJ;split
   ·rename_i hc
    simp only[Bool.and_eq_true] at hc
    by_cases hm:v<=y.value+N1 p fs (l.sub y.want) (o.sub (tf p y))
    ·exact .inr ⟨y,by simp,hc.1,hc.2,by omega⟩
    ·left;omega
   ·exact .inl rfl
  ·exact .inr ⟨x,by simp[hx],h1,h2,h3⟩
theorem aCK {x:dp} {s t:List dp}:qM (s++x::t)=x.add (qM (s++t)):=by
 rw[afS,afS,afT];simp only[dp.add,dp.mk.injEq];omega
theorem aCL {x:Off} {s t:List Off}:jd (s++x::t)=x.value+jd (s++t):=by
 rw[abK,abK];simp only[jd];omega
theorem auJ {p:cn} (c:Good p) {L:List Off} (h:∀x∈L,x∈p.offers):(qM (L.map Off.want)).bd (4*L.length)/\(qM (L.map (tf p))).bd (4*L.length):=by
 have e:∀x∈L,x.want.ok=true:=fun x d=>(c.2.2.2.2 x (h x d)).2.2.1
 have a:=@aoK (L.map Off.want) (fun b f=>by grind)
 grind[aoK,aCJ]
theorem alr {p:cn} (hg:Good p):∀{fs:List Int} {l o:dp} {L:List Off},auH p fs l o L->jd L<=N1 p fs l o
 |[],l,o,L,h=>by
  have:L=[]:=by
   cases L with
   |nil=>rfl
   |cons x L=>exact absurd (h.mem x (by simp)).2 (by simp)
  subst this
  simp[jd,N1]
 |f::fs,l,o,L,h=>by
  obtain⟨g1,g2⟩:=@auI p fs l o (byB p f) (N1 p fs l o)
  have hval:N1 p (f::fs) l o=(byB p f).foldl (abJ p fs l o) (N1 p fs l o):=rfl
  rw[hval]
  by_cases hx:∃x∈L,x.iy=f
  ·obtain⟨x,hx,hf⟩:=hx
   obtain⟨s,t,rfl⟩:=List.append_of_mem hx
   obtain⟨nd,mem,w,o'⟩:=h
   have hmx:=mem x hx
   have hst:∀y∈s++t,y∈p.offers:=fun y hy=>(mem y (by simp only[List.mem_append,List.mem_cons] at hy ⊢;rcases hy with h|h<;>simp[h])).1
   obtain⟨b1,b2⟩:=auJ hg hst
   rw[List.map_append,List.map_cons,aCK,dp.le_iff,<-List.map_append] at w o'
   simp only[dp.add,dp.bd] at w o' b1 b2
   have hw:x.want.le l=true:=by rw[dp.le_iff];omega
   have ho:(tf p x).le o=true:=by rw[dp.le_iff];omega
   have hg2:=g2 x (List.mem_filter.2 ⟨hmx.1,by simp[hf]⟩) hw ho
   rw[List.map_append,List.map_cons,List.nodup_append] at nd
   have hne:∀y∈s++t,y.iy≠f:=fun y hy=>by
    rw[<-hf]
    rcases List.mem_append.1 hy with hy|hy
    ·exact nd.2.2 _ (List.mem_map_of_mem hy) _ (by simp)
    ·intro e
     have:=(List.nodup_cons.1 nd.2.1).1
     exact this (e▸List.mem_map_of_mem hy)
   have hrec:jd (s++t)<=N1 p fs (l.sub x.want) (o.sub (tf p x)):=alr hg
    {nd:=by
      rw[List.map_append,List.nodup_append]
      exact⟨nd.1,(List.nodup_cons.1 nd.2.1).2,fun a ha b hb=>nd.2.2 a ha b (by simp[hb])⟩
     mem:=fun y hy=>by
      have h1:=mem y (by simp only[List.mem_append,List.mem_cons] at hy ⊢;rcases hy with h|h<;>simp[h])
      refine⟨h1.1,?_⟩
      rcases List.mem_cons.1 h1.2 with h2|h2
      ·exact absurd h2 (hne y hy)
      ·exact h2
     w:=by rw[dp.le_iff];simp only[dp.sub];omega
     o:=by rw[dp.le_iff];simp only[dp.sub];omega}
   rw[aCL];omega
  ·have:=alr hg (fs:=fs) (l:=l) (o:=o) (L:=L) ⟨h.nd,fun y hy=>by
    have h1:=h.mem y hy
    refine⟨h1.1,?_⟩
    rcases List.mem_cons.1 h1.2 with h2|h2
    ·exact absurd ⟨y,hy,h2⟩ hx
    ·exact h2,h.w,h.o⟩
   omega
theorem als {p:cn} (hg:Good p):∀{fs:List Int} {l o:dp},fs.Nodup->dp.zero.le l=true->dp.zero.le o=true->∃L,auH p fs l o L/\jd L=N1 p fs l o
 |[],l,o,_,hl,ho=>⟨[],⟨by simp,by simp,hl,ho⟩,rfl⟩
 |f::fs,l,o,hn,hl,ho=>by
  have hn2:=List.nodup_cons.1 hn
  have hval:N1 p (f::fs) l o=(byB p f).foldl (abJ p fs l o) (N1 p fs l o):=rfl
  rw[hval]
  rcases @fold_at p fs l o (byB p f) (N1 p fs l o) with h|⟨x,hx,h1,h2,h3⟩
  ·rw[h]
   obtain⟨L,hL,hv⟩:=als hg (l:=l) (o:=o) hn2.2 hl ho
   exact⟨L,⟨hL.nd,fun y hy=>⟨(hL.mem y hy).1,by simp[(hL.mem y hy).2]⟩,hL.w,hL.o⟩,hv⟩
  ·rw[h3]
   have w1:=dp.le_iff.1 h1
   have w2:=dp.le_iff.1 h2
   obtain⟨L,hL,hv⟩:=als hg (l:=l.sub x.want) (o:=o.sub (tf p x)) hn2.2 (by rw[dp.le_iff];simp only[dp.zero,dp.sub];omega) (by rw[dp.le_iff];simp only[dp.zero,dp.sub];omega)
   have hx2:=List.mem_filter.1 hx
   have hxf:x.iy=f:=by simpa using hx2.2
   refine⟨x::L,⟨?_,?_,?_,?_⟩,by simp only[jd,hv]⟩
   ·rw[List.map_cons,List.nodup_cons]
    refine⟨fun hm=>?_,hL.nd⟩
    obtain⟨y,hy,he⟩:=List.mem_map.1 hm
    exact hn2.1 (by rw[<-hxf,<-he];exact(hL.mem y hy).2)
   ·intro y hy
    rcases List.mem_cons.1 hy with rfl|hy
    ·exact⟨hx2.1,by simp[hxf]⟩
    ·exact⟨(hL.mem y hy).1,by simp[(hL.mem y hy).2]⟩
   ·have:=dp.le_iff.1 hL.w
    rw[List.map_cons,afT,dp.le_iff];simp only[dp.add,dp.sub] at this ⊢;omega
   ·have:=dp.le_iff.1 hL.o
    rw[List.map_cons,afT,dp.le_iff];simp only[dp.add,dp.sub] at this ⊢;omega
end Go.Vi
