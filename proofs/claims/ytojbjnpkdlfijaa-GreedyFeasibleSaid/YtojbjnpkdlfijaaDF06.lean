/-
  The table of the functions' code.
  Conditions: none.
-/
import Derived.Test.YtojbjnpkdlfijaaDF01
import Derived.Test.YtojbjnpkdlfijaaDF05
import Derived.KernelRfl
import Derived.Deep.Slices
import Derived.OpenShut
import Derived.ProofKit
import Derived.Test.YtojbjnpkdlfijaaRows
set_option maxRecDepth 100000
set_option maxHeartbeats 4000000
set_option linter.unusedSimpArgs false
set_option linter.unusedVariables false
namespace Go.Vi
open Go.Proofs.Ytojbjnpkdlfijaa.Ir
open Go.Proofs
structure Ent where
 f:FuncId
 F:IFn
 fn:Func
 H:List RH
def lookF (f:FuncId):List Ent→Option IFn
 |[]=>none
 |e::r=>bif Nat.beq e.f f then some e.F else lookF f r
theorem lookF_mem {f:FuncId} {F:IFn}:∀{l:List Ent},lookF f l=some F→∃e∈l,e.f=f∧e.F=F
 |[],h=>by cases h
 |e::r,h=>by
  simp only[lookF] at h
  cases hq:Nat.beq e.f f with
  |true=>
   rw[hq] at h
   simp only[cond_true,Option.some.injEq] at h
   exact⟨e,by simp,Nat.eq_of_beq_eq_true hq,h⟩
  |false=>
   rw[hq] at h
   simp only[cond_false] at h
   obtain⟨e',h1,h2⟩:=lookF_mem h
   exact⟨e',by simp[h1],h2⟩
def GoodE (P:Program) (e:Ent):Prop:=P.funcs[e.f]?=some e.fn∧compFn P e.H e.fn=some e.F∧goodF P e.f=true
theorem tab0_ok {P:Program} {l:List Ent} (h:∀e∈l,GoodE P e):TabOK P ⟨fun f=>lookF f l,fun _ _ _ _=>none⟩ where
 fn:=fun f F hF=>by
  obtain⟨e,h1,rfl,rfl⟩:=lookF_mem hF
  obtain⟨h2,h3,h4⟩:=h e h1
  exact⟨e.fn,e.H,h2,h3,h4⟩
 K:=fun _ _ _ _ _ _ h=>by cases h
theorem ge306:GoodE Try.prog ⟨6,F306,Try.f6,h306⟩:=⟨by kernel_rfl,is306,by kernel_rfl⟩
theorem ge32:GoodE Try.prog ⟨8,F32,Try.f8,h32⟩:=⟨by kernel_rfl,is32,by kernel_rfl⟩
theorem ge308:GoodE Try.prog ⟨9,F308,Try.f9,h308⟩:=⟨by kernel_rfl,is308,by kernel_rfl⟩
theorem ge310:GoodE Try.prog ⟨11,F310,Try.f11,h310⟩:=⟨by kernel_rfl,is310,by kernel_rfl⟩
theorem ge311:GoodE Try.prog ⟨12,F311,Try.f12,h311⟩:=⟨by kernel_rfl,is311,by kernel_rfl⟩
theorem ge312:GoodE Try.prog ⟨13,F312,Try.f13,h312⟩:=⟨by kernel_rfl,is312,by kernel_rfl⟩
theorem ge314:GoodE Try.prog ⟨15,F314,Try.f15,h314⟩:=⟨by kernel_rfl,is314,by kernel_rfl⟩
theorem ge315:GoodE Try.prog ⟨16,F315,Try.f16,h315⟩:=⟨by kernel_rfl,is315,by kernel_rfl⟩
theorem ge24:GoodE Try.prog ⟨18,F24,Try.f18,h24⟩:=⟨by kernel_rfl,is24,by kernel_rfl⟩
theorem ge55:GoodE Try.prog ⟨19,F55,Try.f19,h55⟩:=⟨by kernel_rfl,is55,by kernel_rfl⟩
theorem ge58:GoodE Try.prog ⟨20,F58,Try.f20,h58⟩:=⟨by kernel_rfl,is58,by kernel_rfl⟩
theorem ge317:GoodE Try.prog ⟨21,F317,Try.f21,h317⟩:=⟨by kernel_rfl,is317,by kernel_rfl⟩
theorem ge79:GoodE Try.prog ⟨23,F79,Try.f23,h79⟩:=⟨by kernel_rfl,is79,by kernel_rfl⟩
theorem ge319:GoodE Try.prog ⟨24,F319,Try.f24,h319⟩:=⟨by kernel_rfl,is319,by kernel_rfl⟩
theorem ge320:GoodE Try.prog ⟨25,F320,Try.f25,h320⟩:=⟨by kernel_rfl,is320,by kernel_rfl⟩
theorem ge321:GoodE Try.prog ⟨26,F321,Try.f26,h321⟩:=⟨by kernel_rfl,is321,by kernel_rfl⟩
theorem ge322:GoodE Try.prog ⟨27,F322,Try.f27,h322⟩:=⟨by kernel_rfl,is322,by kernel_rfl⟩
theorem ge324:GoodE Try.prog ⟨29,F324,Try.f29,h324⟩:=⟨by kernel_rfl,is324,by kernel_rfl⟩
theorem ge325:GoodE Try.prog ⟨30,F325,Try.f30,h325⟩:=⟨by kernel_rfl,is325,by kernel_rfl⟩
theorem ge326:GoodE Try.prog ⟨31,F326,Try.f31,h326⟩:=⟨by kernel_rfl,is326,by kernel_rfl⟩
theorem ge327:GoodE Try.prog ⟨32,F327,Try.f32,h327⟩:=⟨by kernel_rfl,is327,by kernel_rfl⟩
theorem ge328:GoodE Try.prog ⟨33,F328,Try.f33,h328⟩:=⟨by kernel_rfl,is328,by kernel_rfl⟩
theorem ge100:GoodE Try.prog ⟨35,F100,Try.f35,h100⟩:=⟨by kernel_rfl,is100,by kernel_rfl⟩
theorem ge331:GoodE Try.prog ⟨37,F331,Try.f37,h331⟩:=⟨by kernel_rfl,is331,by kernel_rfl⟩
theorem ge68:GoodE Try.prog ⟨39,F68,Try.f39,h68⟩:=⟨by kernel_rfl,is68,by kernel_rfl⟩
theorem ge69:GoodE Try.prog ⟨40,F69,Try.f40,h69⟩:=⟨by kernel_rfl,is69,by kernel_rfl⟩
theorem ge109:GoodE Try.prog ⟨41,F109,Try.f41,h109⟩:=⟨by kernel_rfl,is109,by kernel_rfl⟩
theorem ge118:GoodE Try.prog ⟨42,F118,Try.f42,h118⟩:=⟨by kernel_rfl,is118,by kernel_rfl⟩
theorem ge119:GoodE Try.prog ⟨43,F119,Try.f43,h119⟩:=⟨by kernel_rfl,is119,by kernel_rfl⟩
theorem ge333:GoodE Try.prog ⟨44,F333,Try.f44,h333⟩:=⟨by kernel_rfl,is333,by kernel_rfl⟩
theorem ge334:GoodE Try.prog ⟨45,F334,Try.f45,h334⟩:=⟨by kernel_rfl,is334,by kernel_rfl⟩
theorem ge335:GoodE Try.prog ⟨46,F335,Try.f46,h335⟩:=⟨by kernel_rfl,is335,by kernel_rfl⟩
theorem ge336:GoodE Try.prog ⟨47,F336,Try.f47,h336⟩:=⟨by kernel_rfl,is336,by kernel_rfl⟩
theorem ge133:GoodE Try.prog ⟨49,F133,Try.f49,h133⟩:=⟨by kernel_rfl,is133,by kernel_rfl⟩
theorem ge134:GoodE Try.prog ⟨50,F134,Try.f50,h134⟩:=⟨by kernel_rfl,is134,by kernel_rfl⟩
theorem ge338:GoodE Try.prog ⟨51,F338,Try.f51,h338⟩:=⟨by kernel_rfl,is338,by kernel_rfl⟩
theorem ge339:GoodE Try.prog ⟨52,F339,Try.f52,h339⟩:=⟨by kernel_rfl,is339,by kernel_rfl⟩
theorem ge340:GoodE Try.prog ⟨53,F340,Try.f53,h340⟩:=⟨by kernel_rfl,is340,by kernel_rfl⟩
theorem ge110:GoodE Try.prog ⟨56,F110,Try.f56,h110⟩:=⟨by kernel_rfl,is110,by kernel_rfl⟩
theorem ge146:GoodE Try.prog ⟨57,F146,Try.f57,h146⟩:=⟨by kernel_rfl,is146,by kernel_rfl⟩
theorem ge147:GoodE Try.prog ⟨58,F147,Try.f58,h147⟩:=⟨by kernel_rfl,is147,by kernel_rfl⟩
theorem ge343:GoodE Try.prog ⟨59,F343,Try.f59,h343⟩:=⟨by kernel_rfl,is343,by kernel_rfl⟩
theorem ge344:GoodE Try.prog ⟨60,F344,Try.f60,h344⟩:=⟨by kernel_rfl,is344,by kernel_rfl⟩
theorem ge157:GoodE Try.prog ⟨61,F157,Try.f61,h157⟩:=⟨by kernel_rfl,is157,by kernel_rfl⟩
theorem ge156:GoodE Try.prog ⟨62,F156,Try.f62,h156⟩:=⟨by kernel_rfl,is156,by kernel_rfl⟩
theorem ge158:GoodE Try.prog ⟨63,F158,Try.f63,h158⟩:=⟨by kernel_rfl,is158,by kernel_rfl⟩
theorem ge348:GoodE Try.prog ⟨67,F348,Try.f67,h348⟩:=⟨by kernel_rfl,is348,by kernel_rfl⟩
theorem ge351:GoodE Try.prog ⟨70,F351,Try.f70,h351⟩:=⟨by kernel_rfl,is351,by kernel_rfl⟩
theorem ge363:GoodE Try.prog ⟨82,F363,Try.f82,h363⟩:=⟨by kernel_rfl,is363,by kernel_rfl⟩
noncomputable def entL:List Ent:=[⟨6,F306,Try.f6,h306⟩,⟨8,F32,Try.f8,h32⟩,⟨9,F308,Try.f9,h308⟩,⟨11,F310,Try.f11,h310⟩,⟨12,F311,Try.f12,h311⟩,⟨13,F312,Try.f13,h312⟩,⟨15,F314,Try.f15,h314⟩,⟨16,F315,Try.f16,h315⟩,⟨18,F24,Try.f18,h24⟩,⟨19,F55,Try.f19,h55⟩,⟨20,F58,Try.f20,h58⟩,⟨21,F317,Try.f21,h317⟩,⟨23,F79,Try.f23,h79⟩,⟨24,F319,Try.f24,h319⟩,⟨25,F320,Try.f25,h320⟩,⟨26,F321,Try.f26,h321⟩,⟨27,F322,Try.f27,h322⟩,⟨29,F324,Try.f29,h324⟩,⟨30,F325,Try.f30,h325⟩,⟨31,F326,Try.f31,h326⟩,⟨32,F327,Try.f32,h327⟩,⟨33,F328,Try.f33,h328⟩,⟨35,F100,Try.f35,h100⟩,⟨37,F331,Try.f37,h331⟩,⟨39,F68,Try.f39,h68⟩,⟨40,F69,Try.f40,h69⟩,⟨41,F109,Try.f41,h109⟩,⟨42,F118,Try.f42,h118⟩,⟨43,F119,Try.f43,h119⟩,⟨44,F333,Try.f44,h333⟩,⟨45,F334,Try.f45,h334⟩,⟨46,F335,Try.f46,h335⟩,⟨47,F336,Try.f47,h336⟩,⟨49,F133,Try.f49,h133⟩,⟨50,F134,Try.f50,h134⟩,⟨51,F338,Try.f51,h338⟩,⟨52,F339,Try.f52,h339⟩,⟨53,F340,Try.f53,h340⟩,⟨56,F110,Try.f56,h110⟩,⟨57,F146,Try.f57,h146⟩,⟨58,F147,Try.f58,h147⟩,⟨59,F343,Try.f59,h343⟩,⟨60,F344,Try.f60,h344⟩,⟨61,F157,Try.f61,h157⟩,⟨62,F156,Try.f62,h156⟩,⟨63,F158,Try.f63,h158⟩,⟨67,F348,Try.f67,h348⟩,⟨70,F351,Try.f70,h351⟩,⟨82,F363,Try.f82,h363⟩]
theorem entL_ok:∀e∈entL,GoodE Try.prog e:=by
 unfold entL
 simp only[List.mem_cons,List.not_mem_nil,or_false]
 rintro e (rfl|rfl|rfl|rfl|rfl|rfl|rfl|rfl|rfl|rfl|rfl|rfl|rfl|rfl|rfl|rfl|rfl|rfl|rfl|rfl|rfl|rfl|rfl|rfl|rfl|rfl|rfl|rfl|rfl|rfl|rfl|rfl|rfl|rfl|rfl|rfl|rfl|rfl|rfl|rfl|rfl|rfl|rfl|rfl|rfl|rfl|rfl|rfl|rfl)
 ·exact ge306
 ·exact ge32
 ·exact ge308
 ·exact ge310
 ·exact ge311
 ·exact ge312
 ·exact ge314
 ·exact ge315
 ·exact ge24
 ·exact ge55
 ·exact ge58
 ·exact ge317
 ·exact ge79
 ·exact ge319
 ·exact ge320
 ·exact ge321
 ·exact ge322
 ·exact ge324
 ·exact ge325
 ·exact ge326
 ·exact ge327
 ·exact ge328
 ·exact ge100
 ·exact ge331
 ·exact ge68
 ·exact ge69
 ·exact ge109
 ·exact ge118
 ·exact ge119
 ·exact ge333
 ·exact ge334
 ·exact ge335
 ·exact ge336
 ·exact ge133
 ·exact ge134
 ·exact ge338
 ·exact ge339
 ·exact ge340
 ·exact ge110
 ·exact ge146
 ·exact ge147
 ·exact ge343
 ·exact ge344
 ·exact ge157
 ·exact ge156
 ·exact ge158
 ·exact ge348
 ·exact ge351
 ·exact ge363
noncomputable def fnN (f:FuncId):Option IFn:=lookF f entL
theorem base_ok:TabOK Try.prog ⟨fnN,fun _ _ _ _=>none⟩:=tab0_ok entL_ok
structure Vc (A:Prop):Prop where
 out:A
theorem vcOf {A:Prop} (B:Prop) (h:B=A) (hb:B):Vc A:=⟨h▸hb⟩
theorem con {L:List SCtr} {W:OwnT} (c:SCtr) (F:IFn) (Λ:c.α→Nat→LoopAnn) (hW:OwnOK Try.prog W) (hL:∀c∈L,Holds Try.prog c)
  (hF:fnN c.f=some F) (hfr:findC c.f L=none) (hlen:∀a,(c.A.put a).length=F.params)
  (h:∀a,c.dom a→Vc (fnK (parL L W tyN mtN fnN) (Λ a) F (c.A.put a) fun v=>v.same (c.res a))):Holds Try.prog c:=
 holds_of c base_ok hW hL hF hfr hlen fun a ha=>(h a ha).out
theorem conO {L:List SCtr} {W:List OCtr} (c:OCtr) (F:IFn) (Λ:c.α→Nat→LoopAnn) (hW:∀c∈W,HoldsO Try.prog c) (hL:∀c∈L,Holds Try.prog c)
  (hF:fnN c.f=some F) (hlen:∀a,(c.put a).length=F.params) (hfr:findO c.f W=none)
  (h:∀a,c.dom a→Vc (fnOwnK (parL L (ownT W) tyN mtN fnN) (Λ a) F (c.put a) (c.st a) fun v s=>v.same (c.res a)∧sameO s (c.out a))):HoldsO Try.prog c:=
 fun a ha=>holdsO_of c base_ok hW hL hF hlen a (fun d hd=>by rw[hfr] at hd;cases hd) (h a ha).out
theorem conN {L:List SCtr} {W:List OCtr} (c:OCtr) (F:IFn) (sp:Nat→Option (Nat×Nat×Nat)) (Λ:c.α→Nat→LoopAnn) (hW:∀c∈W,HoldsO Try.prog c) (hL:∀c∈L,Holds Try.prog c)
  (hF:fnN c.f=some F) (hlen:∀a,(c.put a).length=F.params) (hst:∀a,c.st a=[]) (hfr:findO c.f W=none)
  (h:∀a,c.dom a→Vc (fnNewK ⟨⟨pureK L,(ownT W).C⟩,tyN,mtN,sp,fun _=>none⟩ (Λ a) F (c.put a) fun v s=>v.same (c.res a)∧sameO s (c.out a))):HoldsO Try.prog c:=
 fun a ha=>by
  rw[hst a]
  refine fnNewK_sound (p:=⟨⟨pureK L,(ownT W).C⟩,tyN,mtN,sp,fun _=>none⟩) (Λ:=Λ a) (Q:=fun v s=>v.same (c.res a)∧sameO s (c.out a)) (tabL_ok (ownT_ok hW) hL base_ok) (tabL_calls (ownT_ok hW)) (fun _ _ h=>by cases h) hF ?_ (hlen a) (fun v s hs=>⟨hs.1,sameO_g hs.2⟩) (h a ha).out
  simp only[tabL,tabK,if_true,ownT]
  exact ownA_fresh hfr
open Go.ChangeShapes Go.WideShapes Go.RowKit
abbrev noA:Clr:=⟨fun _=>False,0⟩
instance (s:SId):Inhabited s.T:=⟨s.dflt⟩
theorem fr_nil (b:Nat):Fr noA [] b:=⟨by rintro⟨i,c,h⟩;simp at h,fun h=>h⟩
theorem repL_scs {A:Clr} {w:World} {σ:Sig} {o:Store}:∀{vs:List Value},(∀v∈vs,v.oneCell'=true)→RepL A w σ o (vs.map .sc) vs
 |[],_=>by simp[RepL]
 |v::vs,h=>by
  simp only[List.map_cons,RepL]
  exact⟨v,vs,rfl,by simp[Rep,h v (by simp)],repL_scs fun u hu=>h u (by simp[hu])⟩
theorem repM_app {A:Clr} {w:World} {σ:Sig} {o:Store}:∀{a b:List AV} {x:Option Addr} {j:Nat},RepM A w σ o a x j→RepM A w σ o b x (j+a.length)→RepM A w σ o (a++b) x j
 |[],b,x,j,_,h=>by simpa using h
 |c::a,b,x,j,h,k=>by
  simp only[List.cons_append,RepM] at h ⊢
  refine⟨h.1,repM_app h.2 ?_⟩
  rw[show j+1+a.length=j+(c::a).length from by simp;omega]
  exact k
def Reads (P:Program) (t:TypeId) (s:SId):Prop:=
 ∀(H:Type) (enc:TypeId×Value→H) (w:World) (base:Nat) (spare:Nat→Bool) (held:Bool) (fuel:Nat) (cs:List Value) (x:DataW H×List MemPlace),DataW.trod enc P w base spare held fuel t cs=some x→∃y:s.T,cs=encV s y
theorem reads_int {P:Program} {t:TypeId} {k:IntKind} (ht:P.underlying t=some (.int k)):Reads P t (.i k):=fun _ _ _ _ _ _ _ cs _ h=>by
 obtain⟨n,rfl,_,_⟩:=DataW.trod_int ht h
 exact⟨n,rfl⟩
theorem repM_sc {w:World} {a:Addr}:∀{vs:List Value} {j:Nat},(∀v∈vs,v.oneCell'=true)→(∀i v,vs[i]?=some v→w.cell? (a.add (j+i))=some v)→RepM noA w [] [] (vs.map .sc) (some a) j
 |[],_,_,_=>by simp[RepM]
 |v::vs,j,h1,h2=>by
  simp only[List.map_cons,RepM]
  refine⟨⟨a,v,rfl,fr_nil _,by simpa using h2 0 v (by simp),by simp[Rep,h1 v (by simp)]⟩,repM_sc (fun u hu=>h1 u (by simp[hu])) fun i u hu=>?_⟩
  have:=h2 (i+1) u (by simpa using hu)
  rwa [show j+1+i=j+(i+1) from by omega]
theorem cells_get {w:World} {base n:Nat} {a:Addr} {cs:List Value} (h:w.cells? base a n=some cs):cs.length=n∧∀i v,cs[i]?=some v→w.cell? (a.add i)=some v:=by
 unfold World.cells? at h
 split at h
 ·obtain⟨h1,h2⟩:=mapM_get h
  simp only[List.length_range] at h1
  refine⟨h1,fun i v hv=>?_⟩
  have hi:=(List.getElem?_eq_some_iff.1 hv).1
  obtain⟨b,hb1,hb2⟩:=h2 i i (by rw[List.getElem?_range (by omega)])
  rw[hv] at hb1
  simp only[Option.some.injEq] at hb1
  subst hb1
  exact hb2
 ·cases h
def ReadsG (P:Program) (t:TypeId) (s:SId):Prop:=
 ∀(H:Type) (enc:TypeId×Value→H) (w:World) (spare:Nat→Bool) (held:Bool) (fuel:Nat) (cs:List Value) (x:DataW H×List MemPlace),DataW.trod enc P w 0 spare held fuel t cs=some x→∃y:s.T,RepL noA w [] [] (encA s y) cs
theorem Reads.g {P:Program} {t:TypeId} {s:SId} (h:Reads P t s) (hf:s.flat=true:=by rfl):ReadsG P t s:=fun H enc w spare held fuel cs x hx=>by
 obtain⟨y,rfl⟩:=h H enc w 0 spare held fuel cs x hx
 exact⟨y,by rw[flat_encA s hf];exact repL_scs (encV_one s y)⟩
theorem repM_of {w:World} {a:Addr}:∀{cs:List AV} {vs:List Value} {j:Nat},RepL noA w [] [] cs vs→(∀i v,vs[i]?=some v→w.cell? (a.add (j+i))=some v)→RepM noA w [] [] cs (some a) j
 |[],_,_,_,_=>by simp[RepM]
 |c::cs,vs,j,h1,h2=>by
  simp only[RepL] at h1
  obtain⟨v,r,rfl,hv,hl⟩:=h1
  simp only[RepM]
  refine⟨⟨a,v,rfl,fr_nil _,by simpa using h2 0 v (by simp),hv⟩,repM_of hl fun i u hu=>?_⟩
  have:=h2 (i+1) u (by simpa using hu)
  rwa [show j+1+i=j+(i+1) from by omega]
theorem repM_flat {w:World} {a:Addr} {s:SId}:∀{l:List s.T} {i0:Nat},(∀i y,l[i]?=some y→∃cs,w.cells? 0 (a.add ((i0+i)*s.sz)) s.sz=some cs∧RepL noA w [] [] (encA s y) cs)→RepM noA w [] [] (flatA s l) (some a) (i0*s.sz)
 |[],_,_=>by simp[flatA,RepM]
 |y::l,i0,h=>by
  obtain⟨cs,h0,hr⟩:=h 0 y (by simp)
  rw[Nat.add_zero] at h0
  obtain⟨h1,h2⟩:=cells_get h0
  have e:flatA s (y::l)=encA s y++flatA s l:=by simp[flatA]
  rw[e]
  refine repM_app (repM_of hr fun i v hv=>?_) ?_
  ·have:=h2 i v hv
   rwa [add_add] at this
  ·rw[encA_len,show i0*s.sz+s.sz=(i0+1)*s.sz from by rw[Nat.succ_mul]]
   refine repM_flat fun i z hz=>?_
   have:=h (i+1) z (by simpa using hz)
   rwa [show i0+1+i=i0+(i+1) from by omega]
theorem reads_sliceG {P:Program} {t e:TypeId} {s:SId} (ht:P.underlying t=some (.slice e)) (he:ReadsG P e s) (hc:P.cellsOf e=s.sz)
  {H:Type} {enc:TypeId×Value→H} {w:World} {spare:Nat→Bool} {held:Bool} {fuel:Nat} {cs:List Value} {x:DataW H×List MemPlace} (h:DataW.trod enc P w 0 spare held fuel t cs=some x):
  ∃(v:Value) (l:List s.T),cs=[v]∧Rep noA w [] [] (SV.row s l).g v:=by
 rcases Go.Deep.open_slice ht h with⟨rfl,_⟩|⟨a,len,cap,m,n,D,Pl,rfl,hb,hl,hm,hmm,_,hx⟩
 ·exact⟨_,[],rfl,by simp only[SV.g,Rep];exact⟨none,0,rfl,Nat.le_refl _,by simp[flatA,pureL],by simp[flatA,RepM]⟩⟩
 ·have hlm:len≤m:=by rw[hmm];split<;>omega
  have h1:∀i,i<len→∃y:s.T,∃cs,w.cells? 0 (a.add (i*s.sz)) s.sz=some cs∧RepL noA w [] [] (encA s y) cs:=fun i hi=>by
   obtain⟨cs',k1,k2⟩:=hx i (by omega)
   obtain⟨y,hy⟩:=he _ _ _ _ _ _ _ _ k2
   rw[hc] at k1
   exact⟨y,cs',k1,hy⟩
  obtain⟨f,hf⟩:=Go.Deep.choose_lt h1
  refine⟨_,(List.range len).map f,rfl,?_⟩
  simp only[SV.g,Rep,List.length_map,List.length_range]
  refine⟨some a,cap,rfl,hl,flatA_pure _ _,?_⟩
  have:=repM_flat (w:=w) (a:=a) (s:=s) (l:=(List.range len).map f) (i0:=0) (fun i y hy=>by
   rw[List.getElem?_map] at hy
   obtain⟨j,hj,rfl⟩:=Option.map_eq_some_iff.1 hy
   have hi:i<len:=by
    have:=(List.getElem?_eq_some_iff.1 hj).1
    simpa using this
   rw[List.getElem?_range hi] at hj
   simp only[Option.some.injEq] at hj
   subst hj
   rw[Nat.zero_add]
   exact hf i hi)
  simpa using this
theorem reads_slice {P:Program} {t e:TypeId} {s:SId} (ht:P.underlying t=some (.slice e)) (he:Reads P e s) (hc:P.cellsOf e=s.sz)
  {H:Type} {enc:TypeId×Value→H} {w:World} {spare:Nat→Bool} {held:Bool} {fuel:Nat} {cs:List Value} {x:DataW H×List MemPlace} (h:DataW.trod enc P w 0 spare held fuel t cs=some x) (hf:s.flat=true:=by rfl):
  ∃(v:Value) (l:List s.T),cs=[v]∧Rep noA w [] [] (SV.row s l).g v:=reads_sliceG ht (he.g hf) hc h
theorem readsG_lst {P:Program} {t e:TypeId} {s:SId} (ht:P.underlying t=some (.slice e)) (he:ReadsG P e s) (hc:P.cellsOf e=s.sz):ReadsG P t (.lst s):=fun H enc w spare held fuel cs x h=>by
 obtain⟨v,l,rfl,hr⟩:=reads_sliceG ht he hc h
 exact⟨l,by simp only[encA,RepL];exact⟨v,[],rfl,hr,rfl⟩⟩
theorem one_of {cs:List Value} {i:Nat} {v:Value} (h:(cs.drop i).take 1=[v]):cs[i]?=some v:=by
 have:((cs.drop i).take 1)[0]?=some v:=by rw[h];rfl
 rw[List.getElem?_take,if_pos (by omega),List.getElem?_drop] at this
 simpa using this
theorem reads_bun {P:Program} {t e:TypeId} (ht:P.underlying t=some (.array 6 e)) (hi:P.underlying e=some (.int .i64)) (hc:P.cellsOf e=1) (hn:P.cellsOf t=6):Reads P t .bun:=fun _ _ _ _ _ _ _ cs _ h=>by
 obtain⟨xs,m,_,_,hl,hxs,hf⟩:=DataW.trod_array ht h
 have get:∀i,i<6→∃n,cs[i]?=some (.int .i64 n):=fun i hi6=>by
  have h1:=hf i hi6
  rw[hc,Nat.mul_one,List.getElem?_eq_getElem (by omega)] at h1
  obtain⟨n,h2,_⟩:=DataW.trod_int hi h1
  exact⟨n,one_of h2⟩
 rw[hn] at hl
 match cs,hl,get with
 |[c0,c1,c2,c3,c4,c5],_,get=>
  obtain⟨n0,h0⟩:=get 0 (by omega)
  obtain⟨n1,h1⟩:=get 1 (by omega)
  obtain⟨n2,h2⟩:=get 2 (by omega)
  obtain⟨n3,h3⟩:=get 3 (by omega)
  obtain⟨n4,h4⟩:=get 4 (by omega)
  obtain⟨n5,h5⟩:=get 5 (by omega)
  simp only[List.getElem?_cons_zero,List.getElem?_cons_succ,Option.some.injEq] at h0 h1 h2 h3 h4 h5
  exact⟨⟨n0,n1,n2,n3,n4,n5⟩,by simp[encV,iv,h0,h1,h2,h3,h4,h5]⟩
theorem reads_off {P:Program} {t b i v:TypeId} {fs:Array Field} (ht:P.underlying t=some (.struct fs)) (hn:P.cellsOf t=8) (h0:(fs[0]?).map (fun f=>(f.type,f.offset))=some (i,0)) (h1:(fs[1]?).map (fun f=>(f.type,f.offset))=some (b,1)) (h2:(fs[2]?).map (fun f=>(f.type,f.offset))=some (v,7))
  (hi:P.underlying i=some (.int .i64)) (hci:P.cellsOf i=1) (hv:P.underlying v=some (.int .i64)) (hcv:P.cellsOf v=1) (hb:Reads P b .bun) (hcb:P.cellsOf b=6) (hsz:fs.size=3):Reads P t .off:=fun _ _ _ _ _ _ _ cs _ h=>by
 obtain⟨xs,m,_,_,hl,hxs,hf⟩:=DataW.trod_struct ht h
 rw[hn] at hl
 obtain⟨f0,e0,k0⟩:=Option.map_eq_some_iff.1 h0
 obtain⟨f1,e1,k1⟩:=Option.map_eq_some_iff.1 h1
 obtain⟨f2,e2,k2⟩:=Option.map_eq_some_iff.1 h2
 simp only[Prod.mk.injEq] at k0 k1 k2
 have g0:=hf 0 f0 e0
 have g1:=hf 1 f1 e1
 have g2:=hf 2 f2 e2
 rw[k0.1,k0.2,hci,List.getElem?_eq_getElem (by omega)] at g0
 rw[k1.1,k1.2,hcb,List.getElem?_eq_getElem (by omega)] at g1
 rw[k2.1,k2.2,hcv,List.getElem?_eq_getElem (by omega)] at g2
 obtain⟨n0,q0,_⟩:=DataW.trod_int hi g0
 obtain⟨y,q1⟩:=hb _ _ _ _ _ _ _ _ _ g1
 obtain⟨n2,q2,_⟩:=DataW.trod_int hv g2
 match cs,hl with
 |[c0,c1,c2,c3,c4,c5,c6,c7],_=>
  simp[encV] at q0 q1 q2
  exact⟨⟨n0,y,n2⟩,by simp[encV,iv,q0,q1,q2]⟩
theorem reads_prob {P:Program} {t b k o:TypeId} {fs:Array Field} (ht:P.underlying t=some (.struct fs)) (hn:P.cellsOf t=20) (hsz:fs.size=5)
  (h0:(fs[0]?).map (fun f=>(f.type,f.offset))=some (b,0)) (h1:(fs[1]?).map (fun f=>(f.type,f.offset))=some (b,6)) (h2:(fs[2]?).map (fun f=>(f.type,f.offset))=some (b,12))
  (h3:(fs[3]?).map (fun f=>(f.type,f.offset))=some (k,18)) (h4:(fs[4]?).map (fun f=>(f.type,f.offset))=some (o,19))
  (hb:Reads P b .bun) (hcb:P.cellsOf b=6) {e:TypeId} (hk:P.underlying k=some (.slice e)) (hke:Reads P e (.i .i64)) (hce:P.cellsOf e=1) (hck:P.cellsOf k=1)
  {f:TypeId} (ho:P.underlying o=some (.slice f)) (hoe:Reads P f .off) (hcf:P.cellsOf f=8) (hco:P.cellsOf o=1)
  {H:Type} {enc:TypeId×Value→H} {w:World} {spare:Nat→Bool} {held:Bool} {fuel:Nat} {cs:List Value} {x:DataW H×List MemPlace} (h:DataW.trod enc P w 0 spare held fuel t cs=some x):
  ∃p:Prob,RepL noA w [] [] (gL p.ss) cs:=by
 obtain⟨xs,m,_,_,hl,hxs,hf⟩:=DataW.trod_struct ht h
 rw[hn] at hl
 obtain⟨f0,e0,k0⟩:=Option.map_eq_some_iff.1 h0
 obtain⟨f1,e1,k1⟩:=Option.map_eq_some_iff.1 h1
 obtain⟨f2,e2,k2⟩:=Option.map_eq_some_iff.1 h2
 obtain⟨f3,e3,k3⟩:=Option.map_eq_some_iff.1 h3
 obtain⟨f4,e4,k4⟩:=Option.map_eq_some_iff.1 h4
 simp only[Prod.mk.injEq] at k0 k1 k2 k3 k4
 have g0:=hf 0 f0 e0
 have g1:=hf 1 f1 e1
 have g2:=hf 2 f2 e2
 have g3:=hf 3 f3 e3
 have g4:=hf 4 f4 e4
 rw[k0.1,k0.2,hcb,List.getElem?_eq_getElem (by omega)] at g0
 rw[k1.1,k1.2,hcb,List.getElem?_eq_getElem (by omega)] at g1
 rw[k2.1,k2.2,hcb,List.getElem?_eq_getElem (by omega)] at g2
 rw[k3.1,k3.2,hck,List.getElem?_eq_getElem (by omega)] at g3
 rw[k4.1,k4.2,hco,List.getElem?_eq_getElem (by omega)] at g4
 obtain⟨y0,q0⟩:=hb _ _ _ _ _ _ _ _ _ g0
 obtain⟨y1,q1⟩:=hb _ _ _ _ _ _ _ _ _ g1
 obtain⟨y2,q2⟩:=hb _ _ _ _ _ _ _ _ _ g2
 obtain⟨v3,l3,q3,r3⟩:=reads_slice hk hke hce g3
 obtain⟨v4,l4,q4,r4⟩:=reads_slice ho hoe hcf g4
 match cs,hl with
 |[c0,c1,c2,c3,c4,c5,c6,c7,c8,c9,c10,c11,c12,c13,c14,c15,c16,c17,c18,c19],_=>
  simp[encV,iv] at q0 q1 q2 q3 q4
  obtain⟨rfl,rfl,rfl,rfl,rfl,rfl⟩:=q0
  obtain⟨rfl,rfl,rfl,rfl,rfl,rfl⟩:=q1
  obtain⟨rfl,rfl,rfl,rfl,rfl,rfl⟩:=q2
  subst q3
  subst q4
  refine⟨⟨y0,y1,y2,l3,l4⟩,?_⟩
  have hi:∀n:Int,Rep noA w [] [] (SV.si .i64 n).g (.int .i64 n):=fun n=>by simp[SV.g,Rep,Value.oneCell']
  simp only[Prob.ss,gL,RepL]
  exact⟨_,_,rfl,hi _,_,_,rfl,hi _,_,_,rfl,hi _,_,_,rfl,hi _,_,_,rfl,hi _,_,_,rfl,hi _,_,_,rfl,hi _,_,_,rfl,hi _,_,_,rfl,hi _,_,_,rfl,hi _,_,_,rfl,hi _,_,_,rfl,hi _,
   _,_,rfl,hi _,_,_,rfl,hi _,_,_,rfl,hi _,_,_,rfl,hi _,_,_,rfl,hi _,_,_,rfl,hi _,_,_,rfl,r3,_,_,rfl,r4,rfl⟩
theorem reads_alloc {P:Program} {t k v:TypeId} {fs:Array Field} (ht:P.underlying t=some (.struct fs)) (hn:P.cellsOf t=2) (hsz:fs.size=2)
  (h0:(fs[0]?).map (fun f=>(f.type,f.offset))=some (k,0)) (h1:(fs[1]?).map (fun f=>(f.type,f.offset))=some (v,1))
  {e:TypeId} (hk:P.underlying k=some (.slice e)) (hke:Reads P e (.i .i64)) (hce:P.cellsOf e=1) (hck:P.cellsOf k=1) (hv:P.underlying v=some (.int .i64)) (hcv:P.cellsOf v=1)
  {H:Type} {enc:TypeId×Value→H} {w:World} {spare:Nat→Bool} {held:Bool} {fuel:Nat} {cs:List Value} {x:DataW H×List MemPlace} (h:DataW.trod enc P w 0 spare held fuel t cs=some x):
  ∃a:Alloc,RepL noA w [] [] (gL [.row (.i .i64) a.chosen,.si .i64 a.value]) cs:=by
 obtain⟨xs,m,_,_,hl,hxs,hf⟩:=DataW.trod_struct ht h
 rw[hn] at hl
 obtain⟨f0,e0,k0⟩:=Option.map_eq_some_iff.1 h0
 obtain⟨f1,e1,k1⟩:=Option.map_eq_some_iff.1 h1
 simp only[Prod.mk.injEq] at k0 k1
 have g0:=hf 0 f0 e0
 have g1:=hf 1 f1 e1
 rw[k0.1,k0.2,hck,List.getElem?_eq_getElem (by omega)] at g0
 rw[k1.1,k1.2,hcv,List.getElem?_eq_getElem (by omega)] at g1
 obtain⟨v0,l0,q0,r0⟩:=reads_slice hk hke hce g0
 obtain⟨n1,q1,_⟩:=DataW.trod_int hv g1
 match cs,hl with
 |[c0,c1],_=>
  simp at q0 q1
  subst q0
  subst q1
  refine⟨⟨l0,n1⟩,?_⟩
  simp only[gL,RepL]
  exact⟨_,_,rfl,r0,_,_,rfl,by simp[SV.g,Rep,Value.oneCell'],rfl⟩
theorem agg_cells {P:Program} {w:World} {r:Reach} {base:Nat} {t:TypeId} {v:Value} {fs:Array Field} (ht:P.underlying t=some (.struct fs)) (h:Value.okWide P w r base t v):∃cs,v= .agg cs∧v.cells.toList=cs.toList:=by
 unfold Value.okWide at h
 rw[ht] at h
 obtain⟨cs,rfl,_⟩:=h
 exact⟨cs,rfl,rfl⟩
theorem cell_slice {P:Program} {w:World} {r:Reach} {base:Nat} {t e:TypeId} {v:Value} (ht:P.underlying t=some (.slice e)) (h:Value.okWide P w r base t v):v.cells.toList=[v]:=by
 cases v with
 |agg cs=>simp[Value.okWide,ht,Cell.okWide,Cell.ok] at h
 |_=>rfl
theorem cell_int {P:Program} {w:World} {r:Reach} {base:Nat} {t:TypeId} {k:IntKind} {v:Value} (ht:P.underlying t=some (.int k)) (h:Value.okWide P w r base t v):v.cells.toList=[v]:=by
 cases v with
 |agg cs=>simp[Value.okWide,ht,Cell.okWide,Cell.ok] at h
 |_=>rfl
theorem stays_all {H:Type} {enc:TypeId×Value→H} {P:Program} (hl:laidOutB P=true) {W W':World} (hb:Below W.heap.size W W') {sp:Nat→Bool}:
  ∀{ts:List TypeId} {vs:List Value} {ds:List (DataW H)} {ps:List MemPlace},DataW.TrodAll enc P W 0 (fun _=>true) true ts vs ds ps→(∀t∈ts,P.readableRec t=true∧t<P.types.size)→(∀p∈ps,p.block<W.heap.size)→(∀p∈ps,sp p.block=true)→
   DataW.TrodAll enc P W' 0 sp true ts vs ds ps
 |[],_,_,_,h,_,_,_=>by
  obtain⟨rfl,rfl,rfl⟩:=trodAll_nil h
  exact rfl
 |t::ts,_,_,_,h,ht,hlt,hs=>by
  obtain⟨v,vs,d,ds,a,b,rfl,rfl,rfl,h1,h2⟩:=trodAll_cons h
  obtain⟨r1,r2⟩:=ht t (by simp)
  exact⟨a,b,WideElems.Trod_stays hl r1 r2 h1 (fun p hp=>hb.same (hlt p (by simp[hp]))) (fun p hp=>hs p (by simp[hp])),
   stays_all hl hb h2 (fun u hu=>ht u (by simp[hu])) (fun p hp=>hlt p (by simp[hp])) (fun p hp=>hs p (by simp[hp])),rfl⟩
theorem below_of_ext {W W':World} {σ':Sig} {o':Store} (h:Ext W [] [] W' σ' o'):Below W.heap.size W W':=
 ⟨h.os,h.tape,h.output,h.size,fun k hk=>(h.blk k hk (by rintro⟨i,c,hh⟩;simp at hh)).1⟩
structure L8 where
 (l0 l1 l2 l3 l4 l5 l6 l7:List Off)
structure Sol where
 p:Prob
 ls:L8
 es:List (Sit×Int)
def byB (p:Prob) (j:Int):List Off:=p.offers.filter fun x=>decide (x.bidder=j)
def L8.of (p:Prob):L8:=⟨byB p 0,byB p 1,byB p 2,byB p 3,byB p 4,byB p 5,byB p 6,byB p 7⟩
def Sol.o (s:Sol):SStore:=
 [.cells [.si .i64 s.p.supply.a0,.si .i64 s.p.supply.a1,.si .i64 s.p.supply.a2,.si .i64 s.p.supply.a3,.si .i64 s.p.supply.a4,.si .i64 s.p.supply.a5,
  .si .i64 s.p.opn.a0,.si .i64 s.p.opn.a1,.si .i64 s.p.opn.a2,.si .i64 s.p.opn.a3,.si .i64 s.p.opn.a4,.si .i64 s.p.opn.a5,
  .si .i64 s.p.cls.a0,.si .i64 s.p.cls.a1,.si .i64 s.p.cls.a2,.si .i64 s.p.cls.a3,.si .i64 s.p.cls.a4,.si .i64 s.p.cls.a5,
  .row (.i .i64) s.p.classes,.row .off s.p.offers,.row .off s.ls.l0,.row .off s.ls.l1,.row .off s.ls.l2,.row .off s.ls.l3,.row .off s.ls.l4,.row .off s.ls.l5,.row .off s.ls.l6,.row .off s.ls.l7,.mp 1] 99999 29 false,
  .map .sit (.i .i64) true s.es ([0,0,0,0,0,0,0,0,0,0,0,0,0],true) true]
@[simp] theorem same_si_si {k k':IntKind} {a b:Int}:(SV.si k a).same (.si k' b)↔k=k'∧a=b:=by simp[SV.same,SV.g]
@[simp] theorem same_il_si {k k':IntKind} {a b:Int}:(SV.il k a).same (.si k' b)↔k=k'∧a=b:=by simp[SV.same,SV.g]
@[simp] theorem same_sb_sb {a b:Bool}:(SV.sb a).same (.sb b)↔a=b:=by simp[SV.same,SV.g]
@[simp] theorem same_bl_sb {a b:Bool}:(SV.bl a).same (.sb b)↔a=b:=by simp[SV.same,SV.g]
@[simp] theorem same_row {s:SId} {a b:List s.T}:(SV.row s a).same (.row s b)↔a=b:=by
 constructor
 ·intro h;simp only[SV.same,SV.g,AV.sl.injEq] at h;exact flatA_inj s h.1 h.2
 ·rintro rfl;rfl
@[simp] theorem same_si_il {k k':IntKind} {a b:Int}:(SV.si k a).same (.il k' b)↔k=k'∧a=b:=by simp[SV.same,SV.g]
@[simp] theorem same_il_il {k k':IntKind} {a b:Int}:(SV.il k a).same (.il k' b)↔k=k'∧a=b:=by simp[SV.same,SV.g]
theorem same_rfl {v:SV}:v.same v↔True:=iff_true_intro rfl
theorem osame_rfl {v:SObj}:v.same v↔True:=iff_true_intro rfl
theorem same_tup2 {a b c d:SV}:(SV.tup [a,b]).same (.tup [c,d])↔a.same c∧b.same d:=by simp[SV.same,SV.g,gL]
theorem same_tup3 {a b c d e f:SV}:(SV.tup [a,b,c]).same (.tup [d,e,f])↔a.same d∧b.same e∧c.same f:=by simp[SV.same,SV.g,gL]
theorem same_nil {s t:SId}:(SV.row s []).same (.row t [])↔True:=iff_true_intro (by simp[SV.same,SV.g,flatA])
theorem same_row_nil {s:SId} {l:List s.T}:(SV.row (.i .i64) []).same (.row s l)↔l=[]:=by
 constructor
 ·intro h;simp only[SV.same,SV.g,AV.sl.injEq] at h;simpa using h.1.symm
 ·rintro rfl;exact same_nil.2 trivial
theorem bun_eq {a b:Bun}:a=b↔a.a0=b.a0∧a.a1=b.a1∧a.a2=b.a2∧a.a3=b.a3∧a.a4=b.a4∧a.a5=b.a5:=by
 obtain⟨a0,a1,a2,a3,a4,a5⟩:=a
 obtain⟨b0,b1,b2,b3,b4,b5⟩:=b
 simp only[Bun.mk.injEq]
@[simp] theorem inR_i64 {n:Int}:inR .i64 n↔ -9223372036854775808≤n∧n≤9223372036854775807:=Iff.rfl
theorem vcs:(∀{p:Prop} [inst:Decidable p],(decide p=true)=p)∧(∀{p:Prop} {x:Decidable p},decide p=false↔¬p)∧(∀{k k':IntKind} {a b:Int},(SV.il k a).same (SV.si k' b)↔k=k'∧a=b)∧(∀{k k':IntKind} {a b:Int},(SV.si k a).same (SV.si k' b)↔k=k'∧a=b)∧(∀{k k':IntKind} {a b:Int},(SV.si k a).same (SV.il k' b)↔k=k'∧a=b)∧(∀{k k':IntKind} {a b:Int},(SV.il k a).same (SV.il k' b)↔k=k'∧a=b)∧(∀{a b:Bool},(SV.sb a).same (SV.sb b)↔a=b)∧(∀{a b:Bool},(SV.bl a).same (SV.sb b)↔a=b)∧(∀{s:SId} {a b:List s.T},(SV.row s a).same (SV.row s b)↔a=b)∧(∀{a b c d:SV},(SV.tup [a,b]).same (SV.tup [c,d])↔a.same c∧b.same d)∧(∀{a b c d e f:SV},(SV.tup [a,b,c]).same (SV.tup [d,e,f])↔a.same d∧b.same e∧c.same f)∧(∀{s t:SId},(SV.row s []).same (SV.row t [])↔True)∧(∀{s:SId} {l:List s.T},(SV.row (SId.i IntKind.i64) []).same (SV.row s l)↔l=[])∧(∀{v:SV},v.same v↔True)∧(∀{v:SObj},v.same v↔True)∧(∀{n:Int},inR IntKind.i64 n↔ -9223372036854775808≤n∧n≤9223372036854775807)∧(∀p:Prop,(True∧p)=p)∧(∀p:Prop,(p∧True)=p)∧(∀a b:Bool,((a&&b)=true)=(a=true∧b=true))∧(∀b:Bool,((!b)=true)=(b=false))∧(∀b:Bool,((!b)=false)=(b=true)):=
 ⟨decide_eq_true_eq,decide_eq_false_iff_not,same_il_si,same_si_si,same_si_il,same_il_il,same_sb_sb,same_bl_sb,same_row,same_tup2,same_tup3,same_nil,same_row_nil,same_rfl,osame_rfl,inR_i64,true_and,and_true,Bool.and_eq_true,Bool.not_eq_true',Bool.not_eq_false'⟩
def Bun.ok (b:Bun):Bool:=[b.a0,b.a1,b.a2,b.a3,b.a4,b.a5].all fun n=>decide (0≤n)&&decide (n≤4)
theorem Bun.ok_iff {b:Bun}:b.ok=true↔(0≤b.a0∧b.a0≤4)∧(0≤b.a1∧b.a1≤4)∧(0≤b.a2∧b.a2≤4)∧(0≤b.a3∧b.a3≤4)∧(0≤b.a4∧b.a4≤4)∧(0≤b.a5∧b.a5≤4):=by
 simp[Bun.ok]
def r146:SCtr:=⟨57,Bun,.one (codE .bun),fun _=>True,fun b=> .si .i64 (if b.ok=true then 0 else 4)⟩
theorem h146:Holds Try.prog r146:=by
 refine con (L:=[]) r146 F146 (fun _ _=> .unroll 7) (OwnOK.none _) (by simp) (by kernel_rfl) (by kernel_rfl) (fun _=>rfl) ?_
 intro b _
 refine vcOf (let z0:=decide (b.a0<(0:Int));let z1:=SV.si .i64 (if Bun.ok b=true then(0:Int) else(4:Int));let z2:=decide ((4:Int)<b.a0);let z3:=decide (b.a1<(0:Int));let z4:=decide ((4:Int)<b.a1);let z5:=decide (b.a2<(0:Int));let z6:=decide ((4:Int)<b.a2);let z7:=decide (b.a3<(0:Int));let z8:=decide ((4:Int)<b.a3);let z9:=decide (b.a4<(0:Int));let z10:=decide ((4:Int)<b.a4);let z11:=decide (b.a5<(0:Int));let z12:=decide ((4:Int)<b.a5);(z0=true→(SV.il .i64 4).same z1)∧(z0=false→(z2=true→(SV.il .i64 4).same z1)∧(z2=false→(z3=true→(SV.il .i64 4).same z1)∧(z3=false→(z4=true→(SV.il .i64 4).same z1)∧(z4=false→(z5=true→(SV.il .i64 4).same z1)∧(z5=false→(z6=true→(SV.il .i64 4).same z1)∧(z6=false→(z7=true→(SV.il .i64 4).same z1)∧(z7=false→(z8=true→(SV.il .i64 4).same z1)∧(z8=false→(z9=true→(SV.il .i64 4).same z1)∧(z9=false→(z10=true→(SV.il .i64 4).same z1)∧(z10=false→(z11=true→(SV.il .i64 4).same z1)∧(z11=false→(z12=true→(SV.il .i64 4).same z1)∧(z12=false→(SV.il .i64 0).same z1))))))))))))) (by kernel_rfl) ?_
 conv=>zeta
 have hb:=@Bun.ok_iff b
 by_cases h:b.ok=true
 ·have h2:=hb.1 h
  simp only[decide_eq_true_eq,decide_eq_false_iff_not,same_il_si,eq_self,true_and,h,if_true]
  repeat' (first|refine And.intro ?_ ?_|intro _)
  all_goals first|trivial|omega|(exfalso;omega)
 ·have h2:=mt hb.2 h
  simp only[decide_eq_true_eq,decide_eq_false_iff_not,same_il_si,eq_self,true_and,h]
  simp only[Bool.false_eq_true,if_false]
  repeat' (first|refine And.intro ?_ ?_|intro _)
  all_goals first|trivial|omega|(exfalso;omega)
def Sit.b (a:Sit):Prop:=a.left.ok=true∧a.opn.ok=true
def Sit.zero:Sit:=⟨0,Bun.zero,Bun.zero⟩
end Go.Vi
namespace Go.Proofs.Ytojbjnpkdlfijaa
open Go.ChangeShapes Go.WideShapes Go.ChangeAt Go.RowKit Go.Vi
theorem Try.own:ownKnob Try.prog.godebug=none:=by kernel_rfl
theorem Try.laidOut:laidOutB Try.prog=true:=by kernel_rfl
theorem rd_int:Reads Try.prog 3 (.i .i64):=reads_int Try.underlying3
theorem rd_bun:Reads Try.prog 23 .bun:=reads_bun Try.underlying23 Try.underlying3 (by kernel_rfl) (by kernel_rfl)
theorem rd_off:Reads Try.prog 45 .off:=reads_off Try.underlying45 (by kernel_rfl) rfl rfl rfl Try.underlying3 (by kernel_rfl) Try.underlying2 (by kernel_rfl) rd_bun (by kernel_rfl) rfl
theorem rd_prob {H:Type} {enc:TypeId×Value→H} {w:World} {spare:Nat→Bool} {held:Bool} {fuel:Nat} {cs:List Value} {x:DataW H×List MemPlace} (h:DataW.trod enc Try.prog w 0 spare held fuel 27 cs=some x):
  ∃p:Prob,RepL noA w [] [] (gL p.ss) cs:=
 reads_prob Try.underlying27 (by kernel_rfl) rfl rfl rfl rfl rfl rfl rd_bun (by kernel_rfl) Try.underlying24 rd_int (by kernel_rfl) (by kernel_rfl) Try.underlying25 rd_off (by kernel_rfl) (by kernel_rfl) h
theorem law_calls {f:FuncId} {args:List SV} (h:CallO Try.prog f (gL args) [] (SV.sb true).g []) {W:World} {vs:List Value} (hr:RepL noA W [] [] (gL args) vs):
  Calls Try.prog f vs.toArray W fun e W'=>e= .returned (.bool true)∧Below W.heap.size W W':=by
 refine(h noA W [] vs (simO_nil W (fun b hb=>hb.elim)) hr).mono ?_
 rintro e W' ⟨u,σ',rfl,_,hu,hx⟩
 simp only[SV.g,Rep] at hu
 exact⟨by rw[hu.1],below_of_ext hx⟩
end Go.Proofs.Ytojbjnpkdlfijaa
namespace Go.Vi
open Go.ChangeShapes Go.WideShapes Go.RowKit
def ReadsQ (P:Program) (t:TypeId) (s:SId) (Q:s.T→Prop):Prop:=
 ∀(H:Type) (enc:TypeId×Value→H) (w:World) (spare:Nat→Bool) (held:Bool) (fuel:Nat) (cs:List Value) (x:DataW H×List MemPlace),DataW.trod enc P w 0 spare held fuel t cs=some x→∃y:s.T,Q y∧RepL noA w [] [] (encA s y) cs
theorem ReadsG.q {P:Program} {t:TypeId} {s:SId} (h:ReadsG P t s):ReadsQ P t s fun _=>True:=fun H enc w spare held fuel cs x hx=>by
 obtain⟨y,hy⟩:=h H enc w spare held fuel cs x hx
 exact⟨y,trivial,hy⟩
theorem readsQ_int {P:Program} {t:TypeId} {k:IntKind} (ht:P.underlying t=some (.int k)):ReadsQ P t (.i k) fun n=>k.min≤(show Int from n)∧(show Int from n)≤k.max:=fun _ _ _ _ _ _ cs _ h=>by
 obtain⟨n,rfl,_,hw⟩:=DataW.trod_int ht h
 simp only[Lit.wf,Bool.and_eq_true,decide_eq_true_eq] at hw
 exact⟨n,hw,by simp[encA,encV,RepL,Rep,Value.oneCell']⟩
theorem reads_sliceQ {P:Program} {t e:TypeId} {s:SId} {Q:s.T→Prop} (ht:P.underlying t=some (.slice e)) (he:ReadsQ P e s Q) (hc:P.cellsOf e=s.sz)
  {H:Type} {enc:TypeId×Value→H} {w:World} {spare:Nat→Bool} {held:Bool} {fuel:Nat} {cs:List Value} {x:DataW H×List MemPlace} (h:DataW.trod enc P w 0 spare held fuel t cs=some x):
  ∃(v:Value) (l:List s.T),cs=[v]∧l.length≤9223372036854775807∧(∀y∈l,Q y)∧Rep noA w [] [] (SV.row s l).g v:=by
 rcases Go.Deep.open_slice ht h with⟨rfl,_⟩|⟨a,len,cap,m,n,D,Pl,rfl,hb,hl,hm,hmm,_,hx⟩
 ·exact⟨_,[],rfl,by simp,by simp,by simp only[SV.g,Rep];exact⟨none,0,rfl,Nat.le_refl _,by simp[flatA,pureL],by simp[flatA,RepM]⟩⟩
 ·have hlm:len≤m:=by rw[hmm];split<;>omega
  have h1:∀i,i<len→∃y:s.T,∃cs,Q y∧w.cells? 0 (a.add (i*s.sz)) s.sz=some cs∧RepL noA w [] [] (encA s y) cs:=fun i hi=>by
   obtain⟨cs',k1,k2⟩:=hx i (by omega)
   obtain⟨y,hq,hy⟩:=he _ _ _ _ _ _ _ _ k2
   rw[hc] at k1
   exact⟨y,cs',hq,k1,hy⟩
  obtain⟨f,hf⟩:=Go.Deep.choose_lt h1
  refine⟨_,(List.range len).map f,rfl,?_,?_,?_⟩
  ·rw[List.length_map,List.length_range]
   unfold maxLen at hm
   omega
  ·intro y hy
   obtain⟨i,hi,rfl⟩:=List.mem_map.1 hy
   obtain⟨_,hq,_⟩:=hf i (List.mem_range.1 hi)
   exact hq
  simp only[SV.g,Rep,List.length_map,List.length_range]
  refine⟨some a,cap,rfl,hl,flatA_pure _ _,?_⟩
  have:=repM_flat (w:=w) (a:=a) (s:=s) (l:=(List.range len).map f) (i0:=0) (fun i y hy=>by
   rw[List.getElem?_map] at hy
   obtain⟨j,hj,rfl⟩:=Option.map_eq_some_iff.1 hy
   have hi:i<len:=by
    have:=(List.getElem?_eq_some_iff.1 hj).1
    simpa using this
   rw[List.getElem?_range hi] at hj
   simp only[Option.some.injEq] at hj
   subst hj
   rw[Nat.zero_add]
   obtain⟨cs,_,k⟩:=hf i hi
   exact⟨cs,k⟩)
  simpa using this
theorem readsQ_lst {P:Program} {t e:TypeId} {s:SId} {Q:s.T→Prop} (ht:P.underlying t=some (.slice e)) (he:ReadsQ P e s Q) (hc:P.cellsOf e=s.sz):
  ReadsQ P t (.lst s) fun l=>(show List s.T from l).length≤9223372036854775807∧∀y∈(show List s.T from l),Q y:=fun H enc w spare held fuel cs x h=>by
 obtain⟨v,l,rfl,hl,hq,hr⟩:=reads_sliceQ ht he hc h
 exact⟨l,⟨hl,hq⟩,by simp only[encA,RepL];exact⟨v,[],rfl,hr,rfl⟩⟩
abbrev fracId:SId:=.pair .b (.pair (.lst (.i .u32)) (.lst (.i .u32)))
def digR (l:List Int):Prop:=∀d∈l,0≤d∧d<4294967296
def fracQ (x:Bool×(List Int×List Int)):Prop:=digR x.2.1∧digR x.2.2
theorem readsQ_frac {P:Program} {t b n e:TypeId} {fs:Array Field} (ht:P.underlying t=some (.struct fs)) (hn:P.cellsOf t=3) (hsz:fs.size=3)
  (h0:(fs[0]?).map (fun f=>(f.type,f.offset))=some (b,0)) (h1:(fs[1]?).map (fun f=>(f.type,f.offset))=some (n,1)) (h2:(fs[2]?).map (fun f=>(f.type,f.offset))=some (n,2))
  (hb:P.underlying b=some .bool) (hcb:P.cellsOf b=1) (hs:P.underlying n=some (.slice e)) (hcn:P.cellsOf n=1) (he:P.underlying e=some (.int .u32)) (hce:P.cellsOf e=1):
  ReadsQ P t fracId fracQ:=fun H enc w spare held fuel cs x h=>by
 obtain⟨xs,m,_,_,hl,hxs,hf⟩:=DataW.trod_struct ht h
 rw[hn] at hl
 obtain⟨f0,e0,k0⟩:=Option.map_eq_some_iff.1 h0
 obtain⟨f1,e1,k1⟩:=Option.map_eq_some_iff.1 h1
 obtain⟨f2,e2,k2⟩:=Option.map_eq_some_iff.1 h2
 simp only[Prod.mk.injEq] at k0 k1 k2
 have g0:=hf 0 f0 e0
 have g1:=hf 1 f1 e1
 have g2:=hf 2 f2 e2
 rw[k0.1,k0.2,hcb,List.getElem?_eq_getElem (by omega)] at g0
 rw[k1.1,k1.2,hcn,List.getElem?_eq_getElem (by omega)] at g1
 rw[k2.1,k2.2,hcn,List.getElem?_eq_getElem (by omega)] at g2
 obtain⟨b0,q0,_⟩:=DataW.trod_bool hb g0
 obtain⟨v1,l1,q1,n1,d1,r1⟩:=reads_sliceQ hs (readsQ_int he) hce g1
 obtain⟨v2,l2,q2,n2,d2,r2⟩:=reads_sliceQ hs (readsQ_int he) hce g2
 match cs,hl with
 |[c0,c1,c2],_=>
  simp at q0 q1 q2
  subst q0
  subst q1
  subst q2
  refine⟨(b0,(l1,l2)),⟨fun d hd=>?_,fun d hd=>?_⟩,?_⟩
  ·have:=d1 d hd
   have h3:IntKind.u32.min=0:=rfl
   have h4:IntKind.u32.max=4294967295:=rfl
   rw[h3,h4] at this
   have h5:(0:Int)≤d∧d≤4294967295:=this
   omega
  ·have:=d2 d hd
   have h3:IntKind.u32.min=0:=rfl
   have h4:IntKind.u32.max=4294967295:=rfl
   rw[h3,h4] at this
   have h5:(0:Int)≤d∧d≤4294967295:=this
   omega
  ·have e:encA fracId (b0,(l1,l2))=[AV.sc (.bool b0),(SV.row (.i .u32) l1).g,(SV.row (.i .u32) l2).g]:=by
    simp only[encA,encV,SV.g,flatA,List.map_cons,List.map_nil,List.cons_append,List.nil_append]
   rw[e]
   simp only[RepL]
   exact⟨_,_,rfl,by simp[Rep,Value.oneCell'],_,_,rfl,r1,_,_,rfl,r2,rfl⟩
theorem readsQ_alloc {P:Program} {t k v:TypeId} {fs:Array Field} (ht:P.underlying t=some (.struct fs)) (hn:P.cellsOf t=2) (hsz:fs.size=2)
  (h0:(fs[0]?).map (fun f=>(f.type,f.offset))=some (k,0)) (h1:(fs[1]?).map (fun f=>(f.type,f.offset))=some (v,1))
  {e:TypeId} (hk:P.underlying k=some (.slice e)) (hke:P.underlying e=some (.int .i64)) (hce:P.cellsOf e=1) (hck:P.cellsOf k=1) (hv:P.underlying v=some (.int .i64)) (hcv:P.cellsOf v=1)
  {H:Type} {enc:TypeId×Value→H} {w:World} {spare:Nat→Bool} {held:Bool} {fuel:Nat} {cs:List Value} {x:DataW H×List MemPlace} (h:DataW.trod enc P w 0 spare held fuel t cs=some x):
  ∃a:Alloc,a.chosen.length≤9223372036854775807∧RepL noA w [] [] (gL [.row (.i .i64) a.chosen,.si .i64 a.value]) cs:=by
 obtain⟨xs,m,_,_,hl,hxs,hf⟩:=DataW.trod_struct ht h
 rw[hn] at hl
 obtain⟨f0,e0,k0⟩:=Option.map_eq_some_iff.1 h0
 obtain⟨f1,e1,k1⟩:=Option.map_eq_some_iff.1 h1
 simp only[Prod.mk.injEq] at k0 k1
 have g0:=hf 0 f0 e0
 have g1:=hf 1 f1 e1
 rw[k0.1,k0.2,hck,List.getElem?_eq_getElem (by omega)] at g0
 rw[k1.1,k1.2,hcv,List.getElem?_eq_getElem (by omega)] at g1
 obtain⟨v0,l0,q0,n0,_,r0⟩:=reads_sliceQ hk (readsQ_int hke) hce g0
 obtain⟨n1,q1,_⟩:=DataW.trod_int hv g1
 match cs,hl with
 |[c0,c1],_=>
  simp at q0 q1
  subst q0
  subst q1
  refine⟨⟨l0,n1⟩,n0,?_⟩
  simp only[gL,RepL]
  exact⟨_,_,rfl,r0,_,_,rfl,by simp[SV.g,Rep,Value.oneCell'],rfl⟩
end Go.Vi
namespace Go.Proofs.Ytojbjnpkdlfijaa
open Go.ChangeShapes Go.WideShapes Go.ChangeAt Go.RowKit Go.Vi
end Go.Proofs.Ytojbjnpkdlfijaa
namespace Go.Vi
open Go.Proofs.Ytojbjnpkdlfijaa.Ir
open Go.Proofs
def Bun.l (b:Bun):List Int:=[b.a0,b.a1,b.a2,b.a3,b.a4,b.a5]
def nrows (p:Prob):Int:=p.classes.length+12
def boundS (p:Prob) (r:Int):Int:=
 if r - p.classes.length<0 then 1
 else if r - p.classes.length<6 then nthD [p.supply.a0,p.supply.a1,p.supply.a2,p.supply.a3,p.supply.a4,p.supply.a5] (r - p.classes.length).toNat 0
 else nthD [p.opn.a0,p.opn.a1,p.opn.a2,p.opn.a3,p.opn.a4,p.opn.a5] (r - p.classes.length - 6).toNat 0
def coefS (p:Prob) (r:Int) (o:Off):Int:=
 if r - p.classes.length<0 then(if o.bidder=r then 1 else 0)
 else if r - p.classes.length<6 then nthD [o.want.a0,o.want.a1,o.want.a2,o.want.a3,o.want.a4,o.want.a5] (r - p.classes.length).toNat 0
 else if nthD [p.cls.a0,p.cls.a1,p.cls.a2,p.cls.a3,p.cls.a4,p.cls.a5] (r - p.classes.length - 6).toNat 0=0∨nthD [p.cls.a0,p.cls.a1,p.cls.a2,p.cls.a3,p.cls.a4,p.cls.a5] (r - p.classes.length - 6).toNat 0=nthD p.classes o.bidder.toNat 0 then 0
 else nthD [o.want.a0,o.want.a1,o.want.a2,o.want.a3,o.want.a4,o.want.a5] (r - p.classes.length - 6).toNat 0
def r157:SCtr:=⟨61,Prob,.one codP,fun p=>p.classes.length≤8,fun p=> .si .i64 (nrows p)⟩
def r158:SCtr:=⟨63,Prob×Int,.cons codP (.one (codI .i64)),fun a=>a.1.classes.length≤8∧0≤a.2∧a.2<nrows a.1,fun a=> .si .i64 (boundS a.1 a.2)⟩
def r156:SCtr:=⟨62,Prob×Int×Off,.cons codP (.cons (codI .i64) (.one (codE .off))),fun a=>a.1.classes.length≤8∧0≤a.2.1∧a.2.1<nrows a.1∧0≤a.2.2.bidder∧a.2.2.bidder<a.1.classes.length,fun a=> .si .i64 (coefS a.1 a.2.1 a.2.2)⟩
theorem h157:Holds Try.prog r157:=by
 refine con (L:=[]) r157 F157 (fun _ _=> .unroll 7) (OwnOK.none _) (by simp) (by kernel_rfl) (by kernel_rfl) (fun _=>rfl) ?_
 intro p (hp:p.classes.length≤8)
 refine vcOf (let z0:=(↑p.classes.length:Int)+(12:Int);inR .i64 z0∧(SV.si .i64 z0).same (SV.si .i64 (nrows p))) (by kernel_rfl) ?_
 simp only[vcs,nrows]
 omega
theorem h158:Holds Try.prog r158:=by
 refine con (L:=[]) r158 F158 (fun _ _=> .unroll 7) (OwnOK.none _) (by simp) (by kernel_rfl) (by kernel_rfl) (fun _=>rfl) ?_
 rintro⟨p,r⟩ ⟨hp,h1,h2⟩
 simp only[nrows] at hp h1 h2
 refine vcOf (let z0:=r - (↑p.classes.length:Int);let z1:=decide (z0<(0:Int));let z2:=SV.si .i64 (boundS p r);let z3:=decide (z0<(6:Int));let z4:=z0 - (6:Int);inR .i64 z0∧(z1=true→(SV.il .i64 1).same z2)∧(z1=false→(z3=true→(0:Int)≤z0∧z0<(6:Int)∧z0.toNat<6∧(SV.si .i64 (nthD [p.supply.a0,p.supply.a1,p.supply.a2,p.supply.a3,p.supply.a4,p.supply.a5] z0.toNat (0:Int))).same z2)∧(z3=false→inR .i64 z4∧(0:Int)≤z4∧z4<(6:Int)∧z4.toNat<6∧(SV.si .i64 (nthD [p.opn.a0,p.opn.a1,p.opn.a2,p.opn.a3,p.opn.a4,p.opn.a5] z4.toNat (0:Int))).same z2))) (by kernel_rfl) ?_
 simp only[vcs]
 repeat' (first|refine And.intro ?_ ?_|intro _)
 all_goals first
  |trivial
  |omega
  |(simp only[boundS];(repeat' split)<;>first|rfl|omega)
theorem h156:Holds Try.prog r156:=by
 refine con (L:=[]) r156 F156 (fun _ _=> .unroll 7) (OwnOK.none _) (by simp) (by kernel_rfl) (by kernel_rfl) (fun _=>rfl) ?_
 rintro⟨p,r,x⟩ ⟨hp,h1,h2,h3,h4⟩
 simp only[nrows] at hp h1 h2 h3 h4
 refine vcOf (let z0:=(↑p.classes.length:Int);let z1:=decide (r - z0<(0:Int));let z2:=decide (x.bidder=r);let z3:=SV.si .i64 (coefS p r x);let z4:=decide (r - z0<(6:Int));let z5:=[x.want.a0,x.want.a1,x.want.a2,x.want.a3,x.want.a4,x.want.a5];let z6:=r - z0 - (6:Int);let z7:=nthD [p.cls.a0,p.cls.a1,p.cls.a2,p.cls.a3,p.cls.a4,p.cls.a5] z6.toNat (0:Int);let z8:=decide (z7=(0:Int));let z9:=decide (z7=nthD p.classes x.bidder.toNat (0:Int));inR .i64 (r - z0)∧(z1=true→(z2=true→(SV.il .i64 1).same z3)∧(z2=false→(z1=true→(SV.il .i64 0).same z3)∧(z1=false→(z4=true→(0:Int)≤r - z0∧r - z0<(6:Int)∧(r - z0).toNat<6∧(SV.si .i64 (nthD z5 (r - z0).toNat (0:Int))).same z3)∧(z4=false→inR .i64 z6∧(0:Int)≤z6∧z6<(6:Int)∧z6.toNat<6∧(z8=true→(SV.il .i64 0).same z3)∧(z8=false→(0:Int)≤z6∧z6<(6:Int)∧z6.toNat<6∧(0:Int)≤x.bidder∧x.bidder<z0∧x.bidder.toNat<p.classes.length∧(z9=true→(SV.il .i64 0).same z3)∧(z9=false→(0:Int)≤z6∧z6<(6:Int)∧z6.toNat<6∧(SV.si .i64 (nthD z5 z6.toNat (0:Int))).same z3))))))∧(z1=false→(z1=true→(SV.il .i64 0).same z3)∧(z1=false→(z4=true→(0:Int)≤r - z0∧r - z0<(6:Int)∧(r - z0).toNat<6∧(SV.si .i64 (nthD z5 (r - z0).toNat (0:Int))).same z3)∧(z4=false→inR .i64 z6∧(0:Int)≤z6∧z6<(6:Int)∧z6.toNat<6∧(z8=true→(SV.il .i64 0).same z3)∧(z8=false→(0:Int)≤z6∧z6<(6:Int)∧z6.toNat<6∧(0:Int)≤x.bidder∧x.bidder<z0∧x.bidder.toNat<p.classes.length∧(z9=true→(SV.il .i64 0).same z3)∧(z9=false→(0:Int)≤z6∧z6<(6:Int)∧z6.toNat<6∧(SV.si .i64 (nthD z5 z6.toNat (0:Int))).same z3)))))) (by kernel_rfl) ?_
 simp only[vcs]
 repeat' (first|refine And.intro ?_ ?_|intro _)
 all_goals first
  |trivial
  |omega
  |(simp only[coefS];(repeat' split)<;>first|rfl|omega)
def L2:List SCtr:=[r156,r157,r158]
theorem hL2:∀c∈L2,Holds Try.prog c:=by
 simp only[L2,List.forall_mem_cons,List.not_mem_nil,false_implies,implies_true,and_true]
 exact⟨h156,h157,h158⟩
def sumS (p:Prob) (l:List Off) (r:Int):Int:=(l.map (coefS p r)).sum
def fitsB (p:Prob) (l:List Off):Bool:=(List.range (p.classes.length+12)).all fun r=>decide (sumS p l r≤boundS p r)
def r134:SCtr:=⟨50,Prob×List Off,.cons codP (.one (codR .off)),fun a=>a.1.classes.length≤8∧a.2.length≤1000∧(∀x∈a.2,0≤x.bidder∧x.bidder<a.1.classes.length∧x.want.ok=true),fun a=> .sb (fitsB a.1 a.2)⟩
def Λ134 (a:Prob×List Off):Nat→LoopAnn
 |3=> .inv Int (fun i=>⟨[(1,.row .off a.2),(2,.ptr 0 0 20),(5,.fn (.func 62) [] []),(11,.si .i64 (nrows a.1)),(12,.si .i64 i)],[.cells a.1.ss 69 20 false]⟩) (fun s=>iS s 12)
  (fun i=>0≤i∧i≤nrows a.1∧∀r:Nat,r<i→sumS a.1 a.2 r≤boundS a.1 r) (fun i=>(nrows a.1 - i).toNat)
  fun i=>fun
   |7=> .inv (Int×Int) (fun x=>⟨[(1,.row .off a.2),(2,.ptr 0 0 20),(5,.fn (.func 62) [] []),(6,.si .i64 i),(7,.si .i64 x.2),(11,.si .i64 (nrows a.1)),(12,.si .i64 i),(15,.row .off a.2),(16,.si .i64 a.2.length),(17,.si .i64 x.1)],[.cells a.1.ss 69 20 false]⟩)
    (fun s=>(iS s 17,iS s 7))
    (fun x=>0≤x.1∧x.1≤a.2.length∧x.2=sumS a.1 (a.2.take x.1.toNat) i) (fun x=>(a.2.length - x.1).toNat) fun _ _=> .look
   |_=> .look
 |_=> .look
theorem bun_nth {b:Bun} (h:b.ok=true) (k:Nat):0≤nthD [b.a0,b.a1,b.a2,b.a3,b.a4,b.a5] k 0∧nthD [b.a0,b.a1,b.a2,b.a3,b.a4,b.a5] k 0≤4:=by
 have:=Bun.ok_iff.1 h
 match k with
 |0|1|2|3|4|5=>simp[nthD];omega
 |k+6=>simp[nthD]
theorem coef_bd {p:Prob} {r:Int} {o:Off} (h:o.want.ok=true):0≤coefS p r o∧coefS p r o≤4:=by
 unfold coefS
 have h1:=bun_nth h (r - p.classes.length).toNat
 have h2:=bun_nth h (r - p.classes.length - 6).toNat
 (repeat' split)<;>omega
theorem sum_bd {p:Prob} {r:Int}:∀{l:List Off},(∀x∈l,x.want.ok=true)→0≤sumS p l r∧sumS p l r≤4*l.length
 |[],_=>by simp[sumS]
 |x::l,h=>by
  have h1:=@coef_bd p r x (h x (by simp))
  have h2:=@sum_bd p r l fun y hy=>h y (by simp[hy])
  simp only[sumS,List.map_cons,List.sum_cons,List.length_cons] at h2 ⊢
  omega
theorem nthD_mem {α:Type} {l:List α} {i:Nat} {d:α} (h:i<l.length):nthD l i d∈l:=by rw[nthD_eq h];exact List.getElem_mem h
theorem take_nth {α:Type} {l:List α} {i:Int} {d:α} (h0:0≤i) (h:i<l.length):l.take (i+1).toNat=l.take i.toNat++[nthD l i.toNat d]:=by
 rw[show(i+1).toNat=i.toNat+1 from by omega,nthD_eq (by omega),List.take_succ_eq_append_getElem (by omega)]
theorem sum_take {p:Prob} {r:Int} {l:List Off} {i:Int} {d:Off} (h0:0≤i) (h:i<l.length):sumS p (l.take (i+1).toNat) r=sumS p (l.take i.toNat) r+coefS p r (nthD l i.toNat d):=by
 rw[take_nth (d:=d) h0 h]
 simp[sumS]
theorem fits_iff {p:Prob} {l:List Off}:fitsB p l=true↔∀r:Nat,r<nrows p→sumS p l r≤boundS p r:=by
 simp only[fitsB,nrows,List.all_eq_true,List.mem_range,decide_eq_true_eq]
 constructor
 ·intro h r hr;exact h r (by omega)
 ·intro h r hr;exact h r (by omega)
theorem h134:Holds Try.prog r134:=by
 refine con (L:=L2) r134 F134 Λ134 (OwnOK.none _) hL2 (by kernel_rfl) (by kernel_rfl) (fun _=>rfl) ?_
 rintro⟨p,l⟩ ⟨hp,hl,hb⟩
 simp only at hp hl hb
 refine vcOf (let z0:=SV.ptr 0 0 20;let z1:=SV.fn (Fn.func 62) [] [];let z2:=SV.si .i64 (nrows p);let z3:=SObj.cells (Prob.ss p) 69 20 false;let z4:=(↑l.length:Int);let z5:=SV.si .i64 z4;p.classes.length≤8∧((((SV.row SId.off l).same (SV.row SId.off l)∧z0.same z0∧z1.same z1∧z2.same z2∧(SV.il .i64 0).same (SV.si .i64 0)∧True)∧z3.same z3∧True)∧(0:Int)≤(0:Int)∧(0:Int)≤nrows p∧∀(r:Nat),(↑r:Int)<(0:Int)→sumS p l (↑r:Int)≤boundS p (↑r:Int))∧∀(x:Int),let z6:=decide (x<nrows p);let z7:=x+(1:Int);let z8:=SV.si .i64 z7;((0:Int)≤x∧x≤nrows p∧∀(r:Nat),(↑r:Int)<x→sumS p l (↑r:Int)≤boundS p (↑r:Int))→(z6=true→((((SV.row SId.off l).same (SV.row SId.off l)∧z0.same z0∧z1.same z1∧(SV.si .i64 x).same (SV.si .i64 x)∧(SV.il .i64 0).same (SV.si .i64 0)∧z2.same z2∧(SV.si .i64 x).same (SV.si .i64 x)∧(SV.row SId.off l).same (SV.row SId.off l)∧(SV.si .i64 (↑l.length:Int)).same z5∧(SV.il .i64 0).same (SV.si .i64 0)∧True)∧z3.same z3∧True)∧(0:Int)≤(0:Int)∧(0:Int)≤z4∧(0:Int)=sumS p [] x)∧∀(x_1:Int×Int),let z9:=nthD l x_1.fst.toNat SId.off.dflt;let z10:=x_1.snd+coefS p x z9;let z11:=x_1.fst+(1:Int);let z12:=SV.si .i64 x;let z13:=SV.si .i64 z10;let z14:=SV.si .i64 z11;let z15:=decide (boundS p x<x_1.snd);(0:Int)≤x_1.fst∧x_1.fst≤z4∧x_1.snd=sumS p (List.take x_1.fst.toNat l) x→(decide (x_1.fst<z4)=true→(0:Int)≤x_1.fst∧x_1.fst<(↑l.length:Int)∧x_1.fst.toNat<l.length∧(p.classes.length≤8∧(0:Int)≤x∧x<nrows p∧(0:Int)≤z9.bidder∧z9.bidder<(↑p.classes.length:Int))∧inR .i64 z10∧inR .i64 z11∧(((SV.row SId.off l).same (SV.row SId.off l)∧z0.same z0∧z1.same z1∧z12.same z12∧z13.same z13∧z2.same z2∧z12.same z12∧(SV.row SId.off l).same (SV.row SId.off l)∧z5.same z5∧z14.same z14∧True)∧z3.same z3∧True)∧((0:Int)≤z11∧z11≤z4∧z10=sumS p (List.take z11.toNat l) x)∧(z4 - z11).toNat<(z4 - x_1.fst).toNat)∧(decide (x_1.fst<z4)=false→(p.classes.length≤8∧(0:Int)≤x∧x<nrows p)∧(z15=true→(SV.bl false).same (SV.sb (fitsB p l)))∧(z15=false→inR .i64 z7∧(((SV.row SId.off l).same (SV.row SId.off l)∧z0.same z0∧z1.same z1∧z2.same z2∧z8.same z8∧True)∧z3.same z3∧True)∧((0:Int)≤z7∧z7≤nrows p∧∀(r:Nat),(↑r:Int)<z7→sumS p l (↑r:Int)≤boundS p (↑r:Int))∧(nrows p - z7).toNat<(nrows p - x).toNat)))∧(z6=false→(SV.bl true).same (SV.sb (fitsB p l)))) (by kernel_rfl) ?_
 simp only[vcs]
 have hn:nrows p=p.classes.length+12:=rfl
 have ho:∀x∈l,x.want.ok=true:=fun x hx=>(hb x hx).2.2
 refine⟨hp,⟨by omega,by omega,fun r hr=>by omega⟩,?_⟩
 rintro i ⟨hi0,hi1,hi⟩
 refine⟨fun hlt=>⟨⟨by omega,by omega,by simp[sumS]⟩,?_⟩,?_⟩
 ·rintro⟨j,s⟩ ⟨hj0,hj1,hs⟩
  simp only at hj0 hj1 hs ⊢
  have hsb:=@sum_bd p i (l.take j.toNat) fun x hx=>ho x (List.mem_of_mem_take hx)
  have hlen:(l.take j.toNat).length≤l.length:=by simp;omega
  refine⟨fun hjl=>?_,fun hjl=>?_⟩
  ·have hm:=hb _ (nthD_mem (d:=SId.off.dflt) (show j.toNat<l.length by omega))
   have hc:=@coef_bd p i _ hm.2.2
   have hst:=@sum_take p i l j SId.off.dflt hj0 hjl
   refine⟨by omega,by omega,by omega,⟨hp,by omega,by omega,hm.1,hm.2.1⟩,by omega,by omega,⟨by omega,by omega,by omega⟩,by omega⟩
  ·have:j.toNat=l.length:=by omega
   rw[this,List.take_length] at hs
   refine⟨⟨hp,by omega,by omega⟩,fun hgt=>?_,fun hle=>⟨by omega,⟨by omega,by omega,fun r hr=>?_⟩,by omega⟩⟩
   ·symm
    rw[Bool.eq_false_iff]
    intro hf
    have:=fits_iff.1 hf i.toNat (by omega)
    rw[show((i.toNat:Nat):Int)=i from by omega] at this
    omega
   ·by_cases hr2:(r:Int)<i
    ·exact hi r hr2
    ·have:(r:Int)=i:=by omega
     rw[this]
     omega
 ·intro hge
  symm
  exact fits_iff.2 fun r hr=>hi r (by omega)
def L3:List SCtr:=[r134,r146,r156,r157,r158]
theorem hL3:∀c∈L3,Holds Try.prog c:=by
 simp only[L3,List.forall_mem_cons,List.not_mem_nil,false_implies,implies_true,and_true]
 exact⟨h134,h146,h156,h157,h158⟩
def prodOk (p:Prob) (k:Nat):Prop:=
 let c:=nthD [p.cls.a0,p.cls.a1,p.cls.a2,p.cls.a3,p.cls.a4,p.cls.a5] k 0
 let o:=nthD [p.opn.a0,p.opn.a1,p.opn.a2,p.opn.a3,p.opn.a4,p.opn.a5] k 0
 let s:=nthD [p.supply.a0,p.supply.a1,p.supply.a2,p.supply.a3,p.supply.a4,p.supply.a5] k 0
 0≤c∧c≤4∧0≤o∧o≤s∧(c≠0∨o=s)
instance (p:Prob) (k:Nat):Decidable (prodOk p k):=by unfold prodOk;infer_instance
def prodsOk (p:Prob):Bool:=(List.range 6).all fun k=>decide (prodOk p k)
theorem prodOk_iff {p:Prob} {k:Nat}:prodOk p k↔(0≤nthD [p.cls.a0,p.cls.a1,p.cls.a2,p.cls.a3,p.cls.a4,p.cls.a5] k 0∧nthD [p.cls.a0,p.cls.a1,p.cls.a2,p.cls.a3,p.cls.a4,p.cls.a5] k 0≤4∧0≤nthD [p.opn.a0,p.opn.a1,p.opn.a2,p.opn.a3,p.opn.a4,p.opn.a5] k 0∧
  nthD [p.opn.a0,p.opn.a1,p.opn.a2,p.opn.a3,p.opn.a4,p.opn.a5] k 0≤nthD [p.supply.a0,p.supply.a1,p.supply.a2,p.supply.a3,p.supply.a4,p.supply.a5] k 0∧
  (nthD [p.cls.a0,p.cls.a1,p.cls.a2,p.cls.a3,p.cls.a4,p.cls.a5] k 0≠0∨nthD [p.opn.a0,p.opn.a1,p.opn.a2,p.opn.a3,p.opn.a4,p.opn.a5] k 0=nthD [p.supply.a0,p.supply.a1,p.supply.a2,p.supply.a3,p.supply.a4,p.supply.a5] k 0)):=Iff.rfl
attribute [irreducible] prodOk
theorem prods_iff {p:Prob}:prodsOk p=true↔∀k,k<6→prodOk p k:=by simp[prodsOk]
def frameE (p:Prob):Int:=
 if p.supply.ok=false then 4
 else if prodsOk p=false then 4
 else if 8<p.classes.length∨160<p.offers.length then 3
 else if ¬∀c∈p.classes,0≤c∧c≤4 then 4
 else 0
def r118:SCtr:=⟨42,Prob,.one codP,fun p=>True,fun p=> .si .i64 (frameE p)⟩
def Λ118 (p:Prob):Nat→LoopAnn
 |5=> .inv Int (fun k=>⟨[(1,.ptr 0 0 20),(16,.si .i64 k)],[.cells p.ss 69 20 false]⟩) (fun s=>iS s 16) (fun k=>0≤k∧k≤6∧∀j:Nat,j<k→prodOk p j) (fun k=>(6 - k).toNat) fun _ _=> .look
 |14=> .inv Int (fun k=>⟨[(76,.row (.i .i64) p.classes),(77,.si .i64 p.classes.length),(78,.si .i64 k)],[.cells p.ss 69 20 false]⟩) (fun s=>iS s 78)
  (fun k=>0≤k∧k≤p.classes.length∧∀c∈p.classes.take k.toNat,0≤c∧c≤4) (fun k=>(p.classes.length - k).toNat) fun _ _=> .look
 |_=> .look
theorem frame_sup {p:Prob} (h:p.supply.ok=false):frameE p=4:=by simp[frameE,h]
theorem frame_prod {p:Prob} (h:p.supply.ok=true) {k:Nat} (hk:k<6) (hn:¬prodOk p k):frameE p=4:=by
 have:prodsOk p=false:=by
  rw[Bool.eq_false_iff]
  exact fun hh=>hn (prods_iff.1 hh k hk)
 simp[frameE,h,this]
theorem frame_len {p:Prob} (h:p.supply.ok=true) (hp:∀j:Nat,j<6→prodOk p j) (hl:8<p.classes.length∨160<p.offers.length):frameE p=3:=by
 simp[frameE,h,prods_iff.2 hp,hl]
theorem frame_cls {p:Prob} (h:p.supply.ok=true) (hp:∀j:Nat,j<6→prodOk p j) (hl:¬(8<p.classes.length∨160<p.offers.length)) {c:Int} (hc:c∈p.classes) (hn:¬(0≤c∧c≤4)):frameE p=4:=by
 have:¬∀c∈p.classes,0≤c∧c≤4:=fun hh=>hn (hh c hc)
 simp only[frameE,h,prods_iff.2 hp,if_neg hl,this,Bool.true_eq_false,if_false,not_false_iff,if_true]
theorem frame_ok {p:Prob} (h:p.supply.ok=true) (hp:∀j:Nat,j<6→prodOk p j) (hl:¬(8<p.classes.length∨160<p.offers.length)) (hc:∀c∈p.classes,0≤c∧c≤4):frameE p=0:=by
 simp only[frameE,h,prods_iff.2 hp,if_neg hl,Bool.true_eq_false,if_false,if_neg (Classical.not_not.2 hc)]
theorem frame_zero {p:Prob} (h:frameE p=0):p.supply.ok=true∧(∀j:Nat,j<6→prodOk p j)∧p.classes.length≤8∧p.offers.length≤160∧∀c∈p.classes,0≤c∧c≤4:=by
 unfold frameE at h
 split at h
 ·cases h
 ·split at h
  ·cases h
  ·split at h
   ·cases h
   ·split at h
    ·cases h
    ·rename_i h1 h2 h3 h4
     have h4:=Classical.not_not.1 h4
     exact⟨by simpa using h1,prods_iff.1 (by simpa using h2),by omega,by omega,h4⟩
theorem mem_take_next {l:List Int} {i:Int} {P:Int→Prop} (h0:0≤i) (h:i<l.length) (h1:∀c∈l.take i.toNat,P c) (h2:P (nthD l i.toNat 0)):∀c∈l.take (i+1).toNat,P c:=by
 rw[take_nth (d:=0) h0 h]
 intro c hc
 rcases List.mem_append.1 hc with hc|hc
 ·exact h1 c hc
 ·rw[List.mem_singleton.1 hc];exact h2
theorem h118:Holds Try.prog r118:=by
 refine con (L:=L3) r118 F118 Λ118 (OwnOK.none _) hL3 (by kernel_rfl) (by kernel_rfl) (fun _=>rfl) ?_
 intro p _
 refine vcOf (let z0:=if p.supply.ok=true then(0:Int) else(4:Int);let z1:=decide (z0≠(0:Int));let z2:=SV.si .i64 (frameE p);let z3:=SV.ptr 0 0 20;let z4:=SV.il .i64 0;let z5:=SV.row (SId.i .i64) p.classes;let z6:=SObj.cells [SV.si .i64 p.supply.a0,SV.si .i64 p.supply.a1,SV.si .i64 p.supply.a2,SV.si .i64 p.supply.a3,SV.si .i64 p.supply.a4,SV.si .i64 p.supply.a5,SV.si .i64 p.opn.a0,SV.si .i64 p.opn.a1,SV.si .i64 p.opn.a2,SV.si .i64 p.opn.a3,SV.si .i64 p.opn.a4,SV.si .i64 p.opn.a5,SV.si .i64 p.cls.a0,SV.si .i64 p.cls.a1,SV.si .i64 p.cls.a2,SV.si .i64 p.cls.a3,SV.si .i64 p.cls.a4,SV.si .i64 p.cls.a5,z5,SV.row SId.off p.offers] 69 20 false;let z7:=[p.cls.a0,p.cls.a1,p.cls.a2,p.cls.a3,p.cls.a4,p.cls.a5];let z8:=[p.opn.a0,p.opn.a1,p.opn.a2,p.opn.a3,p.opn.a4,p.opn.a5];let z9:=[p.supply.a0,p.supply.a1,p.supply.a2,p.supply.a3,p.supply.a4,p.supply.a5];let z10:=(↑p.classes.length:Int);let z11:=decide ((8:Int)<z10);let z12:=decide ((160:Int)<(↑p.offers.length:Int));let z13:=(↑p.classes.length:Int);let z14:=SV.si .i64 z13;True∧(z1=true→(SV.si .i64 z0).same z2)∧(z1=false→(((z3.same z3∧z4.same (SV.si .i64 0)∧True)∧z6.same z6∧True)∧(0:Int)≤(0:Int)∧(0:Int)≤(6:Int)∧∀(j:Nat),(↑j:Int)<(0:Int)→prodOk p j)∧∀(x:Int),let z15:=decide (x<(6:Int));let z16:=nthD z7 x.toNat (0:Int);let z17:=decide (z16<(0:Int));let z18:=decide ((4:Int)<z16);let z19:=nthD z8 x.toNat (0:Int);let z20:=decide (z19<(0:Int));let z21:=nthD z9 x.toNat (0:Int);let z22:=decide (z16=(0:Int));let z23:=x+(1:Int);let z24:=SV.si .i64 z23;((0:Int)≤x∧x≤(6:Int)∧∀(j:Nat),(↑j:Int)<x→prodOk p j)→(z15=true→(0:Int)≤x∧x<(6:Int)∧x.toNat<6∧(0:Int)≤x∧x<(6:Int)∧x.toNat<6∧(z17=true→(SV.il .i64 4).same z2)∧(z17=false→(z18=true→(SV.il .i64 4).same z2)∧(z18=false→(z20=true→(SV.il .i64 4).same z2)∧(z20=false→(0:Int)≤x∧x<(6:Int)∧x.toNat<6∧(decide (z21<z19)=true→(SV.il .i64 4).same z2)∧(decide (z21<z19)=false→(z22=true→(0:Int)≤x∧x<(6:Int)∧x.toNat<6∧(decide (z19≠z21)=true→(SV.il .i64 4).same z2)∧(decide (z19≠z21)=false→inR .i64 z23∧((z3.same z3∧z24.same z24∧True)∧z6.same z6∧True)∧((0:Int)≤z23∧z23≤(6:Int)∧∀(j:Nat),(↑j:Int)<z23→prodOk p j)∧((6:Int) - z23).toNat<((6:Int) - x).toNat))∧(z22=false→inR .i64 z23∧((z3.same z3∧z24.same z24∧True)∧z6.same z6∧True)∧((0:Int)≤z23∧z23≤(6:Int)∧∀(j:Nat),(↑j:Int)<z23→prodOk p j)∧((6:Int) - z23).toNat<((6:Int) - x).toNat))))))∧(z15=false→(z11=true→(SV.il .i64 3).same z2)∧(z11=false→(z12=true→(SV.il .i64 3).same z2)∧(z12=false→(((z5.same z5∧(SV.si .i64 z10).same z14∧z4.same (SV.si .i64 0)∧True)∧z6.same z6∧True)∧(0:Int)≤(0:Int)∧(0:Int)≤z13∧∀(c:Int),c∈[]→(0:Int)≤c∧c≤(4:Int))∧∀(x:Int),let z25:=nthD p.classes x.toNat (0:Int);let z26:=decide (z25<(0:Int));let z27:=decide ((4:Int)<z25);let z28:=x+(1:Int);let z29:=SV.si .i64 z28;((0:Int)≤x∧x≤z13∧∀(c:Int),c∈List.take x.toNat p.classes→(0:Int)≤c∧c≤(4:Int))→(decide (x<z13)=true→(0:Int)≤x∧x<z10∧x.toNat<p.classes.length∧(z26=true→(SV.il .i64 4).same z2)∧(z26=false→(z27=true→(SV.il .i64 4).same z2)∧(z27=false→inR .i64 z28∧((z5.same z5∧z14.same z14∧z29.same z29∧True)∧z6.same z6∧True)∧((0:Int)≤z28∧z28≤z13∧∀(c:Int),c∈List.take z28.toNat p.classes→(0:Int)≤c∧c≤(4:Int))∧(z13 - z28).toNat<(z13 - x).toNat)))∧(decide (x<z13)=false→z4.same z2)))))) (by kernel_rfl) ?_
 simp only[vcs]
 by_cases hs:Bun.ok p.supply=true
 ·simp only[hs,if_true]
  refine⟨fun h=>absurd rfl h,fun _=>⟨⟨by omega,by omega,fun j hj=>by omega⟩,?_⟩⟩
  rintro k ⟨hk0,hk1,hk⟩
  refine⟨fun hlt=>?_,fun hge=>?_⟩
  ·have bad:¬prodOk p k.toNat→(4:Int)=frameE p:=fun h=>(frame_prod hs (by omega) h).symm
   have nxt:prodOk p k.toNat→∀(j:Nat),(j:Int)<k+1→prodOk p j:=fun h j hj=>by
    by_cases hj2:(j:Int)<k
    ·exact hk j hj2
    ·rw[show j=k.toNat from by omega];exact h
   repeat' (first|refine And.intro ?_ ?_|intro _)
   all_goals first
    |omega
    |exact bad fun hh=>by have h2:=prodOk_iff.1 hh;omega
    |exact nxt (prodOk_iff.2 (by omega)) _ (by assumption)
  ·have hall:∀j:Nat,j<6→prodOk p j:=fun j hj=>hk j (by omega)
   refine⟨fun h=>(frame_len hs hall (.inl (by omega))).symm,fun h8=>⟨fun h=>(frame_len hs hall (.inr (by omega))).symm,fun h160=>⟨⟨by omega,by omega,by simp⟩,?_⟩⟩⟩
   rintro i ⟨hi0,hi1,hi⟩
   refine⟨fun hlt=>?_,fun hge=>?_⟩
   ·have hm:=nthD_mem (d:=0) (show i.toNat<p.classes.length by omega)
    refine⟨by omega,by omega,by omega,fun h=>(frame_cls hs hall (by omega) hm (by omega)).symm,fun h1=>⟨fun h=>(frame_cls hs hall (by omega) hm (by omega)).symm,fun h2=>⟨by omega,⟨by omega,by omega,?_⟩,by omega⟩⟩⟩
    exact mem_take_next hi0 hlt hi (by omega)
   ·rw[show i.toNat=p.classes.length from by omega,List.take_length] at hi
    exact(frame_ok hs hall (by omega) hi).symm
 ·have hs2:Bun.ok p.supply=false:=by simpa using hs
  simp only[hs2,Bool.false_eq_true,if_false]
  exact⟨fun _=>(frame_sup hs2).symm,fun h=>absurd (by decide) h⟩
def simpleE (n:Int) (o:Off):Int:=
 if o.bidder<0∨n≤o.bidder then 6 else if o.value<1∨1000000<o.value then 4 else if o.want.ok then 0 else 4
def r147:SCtr:=⟨58,Int×Off,.cons (codI .i64) (.one (codE .off)),fun p=>True,fun p=> .si .i64 (simpleE p.1 p.2)⟩
theorem h147:Holds Try.prog r147:=by
 refine con (L:=L3) r147 F147 (fun p=>fun _=> .look) (OwnOK.none _) hL3 (by kernel_rfl) (by kernel_rfl) (fun _=>rfl) ?_
 rintro⟨n,x⟩ _
 refine vcOf (let z0:=decide (x.bidder<(0:Int));let z1:=SV.si .i64 (simpleE n x);let z2:=decide (n≤x.bidder);let z3:=decide (x.value<(1:Int));let z4:=decide ((1000000:Int)<x.value);(z0=true→(SV.il .i64 6).same z1)∧(z0=false→(z2=true→(SV.il .i64 6).same z1)∧(z2=false→(z3=true→(SV.il .i64 4).same z1)∧(z3=false→(z4=true→(SV.il .i64 4).same z1)∧(z4=false→True∧(SV.si .i64 (if x.want.ok=true then(0:Int) else(4:Int))).same z1))))) (by kernel_rfl) ?_
 simp only[vcs]
 repeat' (first|refine And.intro ?_ ?_|intro _)
 all_goals first
  |trivial
  |omega
  |(simp only[simpleE];(repeat' split)<;>first|rfl|omega|simp_all)
def offerE (p:Prob) (o:Off):Int:=
 if simpleE p.classes.length o≠0 then simpleE p.classes.length o else if o.want=Bun.zero then 4 else if fitsB p [o]=false then 14 else 0
def r119:SCtr:=⟨43,Prob×Off,.cons codP (.one (codE .off)),fun a=>a.1.classes.length≤8,fun a=> .si .i64 (offerE a.1 a.2)⟩
def L4:List SCtr:=r147::L3
theorem hL4:∀c∈L4,Holds Try.prog c:=by
 simp only[L4,List.forall_mem_cons]
 exact⟨h147,hL3⟩
theorem simple_zero {n:Int} {o:Off} (h:simpleE n o=0):0≤o.bidder∧o.bidder<n∧1≤o.value∧o.value≤1000000∧o.want.ok=true:=by
 unfold simpleE at h
 split at h
 ·cases h
 ·split at h
  ·cases h
  ·split at h
   ·exact⟨by omega,by omega,by omega,by omega,by assumption⟩
   ·cases h
theorem h119:Holds Try.prog r119:=by
 refine con (L:=L4) r119 F119 (fun p=>fun _=> .look) (OwnOK.none _) hL4 (by kernel_rfl) (by kernel_rfl) (fun _=>rfl) ?_
 rintro⟨p,x⟩ (hp:p.classes.length≤8)
 refine vcOf (let z0:=simpleE (↑p.classes.length:Int) x;let z1:=decide (z0≠(0:Int));let z2:=SV.si .i64 (offerE p x);let z3:=decide (x.want.a0=(0:Int))&&(decide (x.want.a1=(0:Int))&&(decide (x.want.a2=(0:Int))&&(decide (x.want.a3=(0:Int))&&(decide (x.want.a4=(0:Int))&&(decide (x.want.a5=(0:Int))&&true)))));True∧(z1=true→(SV.si .i64 z0).same z2)∧(z1=false→(z3=true→(SV.il .i64 4).same z2)∧(z3=false→(p.classes.length≤8∧1≤1000∧∀(x_1:Off),x_1∈[x]→(0:Int)≤x_1.bidder∧x_1.bidder<(↑p.classes.length:Int)∧x_1.want.ok=true)∧((!fitsB p [x])=true→(SV.il .i64 14).same z2)∧((!fitsB p [x])=false→(SV.il .i64 0).same z2)))) (by kernel_rfl) ?_
 conv=>zeta
 have hw:(decide (x.want.a0=0)&&(decide (x.want.a1=0)&&(decide (x.want.a2=0)&&(decide (x.want.a3=0)&&(decide (x.want.a4=0)&&decide (x.want.a5=0))))))=decide (x.want=Bun.zero):=by
  rw[Bool.eq_iff_iff]
  simp[bun_eq,Bun.zero]
 simp only[Bool.and_true,hw]
 simp only[vcs]
 refine⟨fun h=>by simp only[offerE,if_pos h],fun h=>?_⟩
 have hz:simpleE p.classes.length x=0:=Classical.not_not.1 h
 have hx:=simple_zero hz
 refine⟨fun h3=>by simp[offerE,hz,h3],fun h3=>⟨⟨hp,by omega,?_⟩,fun h4=>?_,fun h4=>?_⟩⟩
 ·intro y hy
  rw[List.mem_singleton.1 hy]
  exact⟨hx.1,hx.2.1,hx.2.2.2.2⟩
 ·simp[offerE,hz,h3,h4]
 ·simp[offerE,hz,h3,h4]
def L5:List SCtr:=r118::r119::L4
theorem hL5:∀c∈L5,Holds Try.prog c:=by
 simp only[L5,List.forall_mem_cons]
 exact⟨h118,h119,hL4⟩
def Off.key (o:Off):BKey:=⟨o.bidder,o.want⟩
def checkL (p:Prob) (seen:List BKey):List Off→Int
 |[]=>0
 |o::r=>if offerE p o≠0 then offerE p o else if o.key∈seen then 7 else checkL p (seen++[o.key]) r
def checkE (p:Prob):Int:=if frameE p≠0 then frameE p else checkL p [] p.offers
def r79:SCtr:=⟨23,Prob,.one codP,fun p=>True,fun p=> .si .i64 (checkE p)⟩
def Λ79 (p:Prob):Nat→LoopAnn
 |7=> .inv Int (fun i=>⟨[(3,.ptr 1 0 20),(5,.mp 2),(19,.row .off p.offers),(20,.si .i64 p.offers.length),(21,.si .i64 i)],
   [.cells p.ss 27 20 false,.cells p.ss 69 20 false,.map .key .b true ((p.offers.take i.toNat).map fun o=>(o.key,true)) ([0,0,0,0,0,0,0],true) true]⟩) (fun s=>iS s 21)
  (fun i=>0≤i∧i≤p.offers.length∧checkL p [] p.offers=checkL p ((p.offers.take i.toNat).map Off.key) (p.offers.drop i.toNat)) (fun i=>(p.offers.length - i).toNat) fun _ _=> .look
 |_=> .look
theorem drop_nth {α:Type} {l:List α} {i:Int} {d:α} (h0:0≤i) (h:i<l.length):l.drop i.toNat=nthD l i.toNat d::l.drop (i+1).toNat:=by
 rw[show(i+1).toNat=i.toNat+1 from by omega,nthD_eq (by omega),List.drop_eq_getElem_cons (by omega)]
theorem find_keys (k:BKey):∀(l:List Off),(findT .key .b k (l.map fun o=>(o.key,true))).getD false=decide (k∈l.map Off.key)
 |[]=>by simp[findT]
 |o::l=>by
  have:=find_keys k l
  simp only[findT] at this ⊢
  rw[List.map_cons,List.find?_cons]
  by_cases h:o.key=k
  ·simp[h]
  ·simp only[h,decide_false,List.map_cons,List.mem_cons]
   rw[this]
   have:¬k=o.key:=fun e=>h e.symm
   simp[this]
theorem omap_same {sk sv:SId} {ka:Bool} {es es':List (sk.T×sv.T)} {kt:List Nat×Bool} {pu:Bool} (h:es=es'):(SObj.map sk sv ka es kt pu).same (.map sk sv ka es' kt pu):=by rw[h];rfl
theorem set_keys {k:BKey} {l:List Off} (h:k∉l.map Off.key):setT .key .b k true (l.map fun o=>(o.key,true))=(l.map fun o=>(o.key,true))++[(k,true)]:=
 setT_none fun p hp=>by
  obtain⟨o,ho,rfl⟩:=List.mem_map.1 hp
  rintro rfl
  exact h (List.mem_map.2 ⟨o,ho,rfl⟩)
theorem h79:Holds Try.prog r79:=by
 refine con (L:=L5) r79 F79 Λ79 (OwnOK.none _) hL5 (by kernel_rfl) (by kernel_rfl) (fun _=>rfl) ?_
 intro p _
 refine vcOf (let z0:=decide (frameE p≠(0:Int));let z1:=SV.si .i64 (checkE p);let z2:=SV.ptr 1 0 20;let z3:=SV.row SId.off p.offers;let z4:=(↑p.offers.length:Int);let z5:=(↑p.offers.length:Int);let z6:=SV.si .i64 z5;let z7:=SV.il .i64 0;let z8:=[SV.si .i64 p.supply.a0,SV.si .i64 p.supply.a1,SV.si .i64 p.supply.a2,SV.si .i64 p.supply.a3,SV.si .i64 p.supply.a4,SV.si .i64 p.supply.a5,SV.si .i64 p.opn.a0,SV.si .i64 p.opn.a1,SV.si .i64 p.opn.a2,SV.si .i64 p.opn.a3,SV.si .i64 p.opn.a4,SV.si .i64 p.opn.a5,SV.si .i64 p.cls.a0,SV.si .i64 p.cls.a1,SV.si .i64 p.cls.a2,SV.si .i64 p.cls.a3,SV.si .i64 p.cls.a4,SV.si .i64 p.cls.a5,SV.row (SId.i .i64) p.classes,z3];let z9:=SObj.cells z8 27 20 false;let z10:=SObj.cells z8 69 20 false;let z11:=([0,0,0,0,0,0,0],true);let z12:=SObj.map SId.key SId.b true [] z11 true;let z13:=checkL p [] p.offers;let z14:=SId.off.dflt;True∧(z0=true→(SV.si .i64 (frameE p)).same z1)∧(z0=false→(((z2.same z2∧(SV.mp 2).same (SV.mp 2)∧z3.same z3∧(SV.si .i64 z4).same z6∧z7.same (SV.si .i64 0)∧True)∧z9.same z9∧z10.same z10∧z12.same z12∧True)∧(0:Int)≤(0:Int)∧(0:Int)≤z5∧z13=z13)∧∀(x:Int),let z15:=List.take x.toNat p.offers;let z16:=nthD p.offers x.toNat z14;let z17:=decide (offerE p z16≠(0:Int));let z18:=BKey.mk z16.bidder z16.want;let z19:=List.map (fun o ↦(o.key,true)) z15;let z20:=(findT SId.key SId.b z18 z19).getD false;let z21:=x+(1:Int);let z22:=SV.si .i64 z21;let z23:=List.take z21.toNat p.offers;(0:Int)≤x∧x≤z5∧z13=checkL p (List.map Off.key z15) (List.drop x.toNat p.offers)→(decide (x<z5)=true→(0:Int)≤x∧x<z4∧x.toNat<p.offers.length∧p.classes.length≤8∧(z17=true→(SV.si .i64 (offerE p z16)).same z1)∧(z17=false→(z20=true→(SV.il .i64 7).same z1)∧(z20=false→inR .i64 z21∧((z2.same z2∧(SV.mp 2).same (SV.mp 2)∧z3.same z3∧z6.same z6∧z22.same z22∧True)∧z9.same z9∧z10.same z10∧(SObj.map SId.key SId.b true (setT SId.key SId.b z18 true z19) z11 true).same (SObj.map SId.key SId.b true (List.map (fun o ↦(o.key,true)) z23) z11 true)∧True)∧((0:Int)≤z21∧z21≤z5∧z13=checkL p (List.map Off.key z23) (List.drop z21.toNat p.offers))∧(z5 - z21).toNat<(z5 - x).toNat)))∧(decide (x<z5)=false→z7.same z1))) (by kernel_rfl) ?_
 simp only[vcs]
 refine⟨fun h=>by simp[checkE,h],fun h=>?_⟩
 have hz:frameE p=0:=Classical.not_not.1 h
 obtain⟨f1,f2,f3,f4,f5⟩:=frame_zero hz
 refine⟨⟨by omega,by omega⟩,?_⟩
 rintro i ⟨hi0,hi1,hi⟩
 refine⟨fun hlt=>?_,fun hge=>?_⟩
 ·rw[drop_nth (d:=SId.off.dflt) hi0 hlt] at hi
  generalize hx:nthD p.offers i.toNat SId.off.dflt=x at hi ⊢
  refine⟨by omega,by omega,by omega,f3,fun he=>?_,fun he=>?_⟩
  ·simp only[checkL,if_pos he] at hi
   simp[checkE,hz,hi]
  ·simp only[checkL,if_neg he] at hi
   have hk:(⟨x.bidder,x.want⟩:BKey)=x.key:=rfl
   simp only[hk]
   refine⟨fun hm=>?_,fun hm=>⟨by omega,?_,⟨by omega,by omega,?_⟩,by omega⟩⟩
   ·have hm2:=of_decide_eq_true ((find_keys _ _).symm.trans hm)
    rw[if_pos hm2] at hi
    simp[checkE,hz,hi]
   ·have hm2:=of_decide_eq_false ((find_keys _ _).symm.trans hm)
    apply omap_same
    rw[set_keys hm2,take_nth (d:=SId.off.dflt) hi0 hlt,hx]
    simp
   ·have hm2:=of_decide_eq_false ((find_keys _ _).symm.trans hm)
    rw[if_neg hm2] at hi
    rw[hi,take_nth (d:=SId.off.dflt) hi0 hlt,hx]
    simp
 ·rw[show i.toNat=p.offers.length from by omega,List.drop_length] at hi
  simp only[checkL] at hi
  simp[checkE,hz,hi]
def pickGo (l:List Off) (last:Int):List Int→Option (List Off)
 |[]=>some []
 |i::r=>if i≤last∨l.length≤i then none else(pickGo l i r).map (nthD l i.toNat SId.off.dflt::·)
def pickOk (p:Prob) (c:List Int):Bool:=(pickGo p.offers (-1) c).isSome
def pickL (p:Prob) (c:List Int):List Off:=(pickGo p.offers (-1) c).getD []
def r133:SCtr:=⟨49,Prob×List Int,.cons codP (.one (codR (.i .i64))),fun a=>a.2.length≤9223372036854775807∧a.1.offers.length≤1000,fun a=> .tup [.row .off (pickL a.1 a.2),.sb (pickOk a.1 a.2)]⟩
def Λ133 (a:Prob×List Int):Nat→LoopAnn
 |4=> .inv (Int×Int×List Off) (fun x=>⟨[(2,.ptr 0 0 20),(6,.ow 1 x.2.2.length 8),(7,.si .i64 x.2.1),(10,.row (.i .i64) a.2),(11,.si .i64 a.2.length),(12,.si .i64 x.1)],
   [.cells a.1.ss 27 20 false,.row .off x.2.2 45 true]⟩) (fun s=>(iS s 12,iS s 7,oS .off s 1))
  (fun x=>0≤x.1∧x.1≤a.2.length∧(x.2.2.length≤x.2.1+1∧x.2.1<1000)∧ -1≤x.2.1∧pickGo a.1.offers (-1) a.2=(pickGo a.1.offers x.2.1 (a.2.drop x.1.toNat)).map (x.2.2++·)) (fun x=>(a.2.length - x.1).toNat) fun _ _=> .look
 |_=> .look
theorem h133:Holds Try.prog r133:=by
 refine con (L:=L5) r133 F133 Λ133 (OwnOK.none _) hL5 (by kernel_rfl) (by kernel_rfl) (fun _=>rfl) ?_
 rintro⟨p,c⟩ ⟨hc,hof⟩
 have hc:c.length≤9223372036854775807:=hc
 have hof:p.offers.length≤1000:=hof
 refine vcOf (let z0:=SV.ptr 0 0 20;let z1:=SV.ow 1 0 8;let z2:=SId.i .i64;let z3:=(↑c.length:Int);let z4:=SV.si .i64 z3;let z5:=SObj.cells [SV.si .i64 p.supply.a0,SV.si .i64 p.supply.a1,SV.si .i64 p.supply.a2,SV.si .i64 p.supply.a3,SV.si .i64 p.supply.a4,SV.si .i64 p.supply.a5,SV.si .i64 p.opn.a0,SV.si .i64 p.opn.a1,SV.si .i64 p.opn.a2,SV.si .i64 p.opn.a3,SV.si .i64 p.opn.a4,SV.si .i64 p.opn.a5,SV.si .i64 p.cls.a0,SV.si .i64 p.cls.a1,SV.si .i64 p.cls.a2,SV.si .i64 p.cls.a3,SV.si .i64 p.cls.a4,SV.si .i64 p.cls.a5,SV.row z2 p.classes,SV.row SId.off p.offers] 27 20 false;let z6:=SObj.row SId.off [] 45 true;let z7:=pickGo p.offers (-1:Int) c;let z8:=SV.tup [SV.row SId.off (pickL p c),SV.sb (pickOk p c)];let z9:=(↑p.offers.length:Int);(((z0.same z0∧z1.same z1∧(SV.il .i64 (-1:Int)).same (SV.si .i64 (-1:Int))∧(SV.row z2 c).same (SV.row z2 c)∧(SV.si .i64 (↑c.length:Int)).same z4∧(SV.il .i64 0).same (SV.si .i64 0)∧True)∧z5.same z5∧z6.same z6∧True)∧(0:Int)≤(0:Int)∧(0:Int)≤z3∧((0:Int)≤(0:Int)∧(-1:Int)<(1000:Int))∧(-1:Int)≤(-1:Int)∧z7=Option.map (fun x ↦((0:Int),(-1:Int),[]).snd.snd++x) z7)∧∀(x:Int×Int×List Off),let z10:=nthD c x.fst.toNat (0:Int);let z11:=decide (z10≤x.snd.fst);let z12:=x.snd.snd.length+1;let z13:=x.fst+(1:Int);let z14:=x.snd.snd++[nthD p.offers z10.toNat SId.off.dflt];let z15:=SV.si .i64 z10;let z16:=SV.si .i64 z13;let z17:=SObj.row SId.off z14 45 true;(0:Int)≤x.fst∧x.fst≤z3∧((↑x.snd.snd.length:Int)≤x.snd.fst+(1:Int)∧x.snd.fst<(1000:Int))∧(-1:Int)≤x.snd.fst∧z7=Option.map (fun x_1 ↦x.snd.snd++x_1) (pickGo p.offers x.snd.fst (List.drop x.fst.toNat c))→(decide (x.fst<z3)=true→(0:Int)≤x.fst∧x.fst<(↑c.length:Int)∧x.fst.toNat<c.length∧(z11=true→(SV.tup [SV.row z2 [],SV.bl false]).same z8)∧(z11=false→(decide (z9≤z10)=true→(SV.tup [SV.row z2 [],SV.bl false]).same z8)∧(decide (z9≤z10)=false→(0:Int)≤z10∧z10<z9∧z10.toNat<p.offers.length∧x.snd.snd.length=x.snd.snd.length∧z12*64≤140737488355328∧z12≤1000000000000∧inR .i64 z13∧((z0.same z0∧(SV.ow 1 z14.length 8).same (SV.ow 1 z14.length 8)∧z15.same z15∧(SV.row z2 c).same (SV.row z2 c)∧z4.same z4∧z16.same z16∧True)∧z5.same z5∧z17.same z17∧True)∧((0:Int)≤z13∧z13≤z3∧((↑z14.length:Int)≤z10+(1:Int)∧z10<(1000:Int))∧(-1:Int)≤z10∧z7=Option.map (fun x ↦(z13,z10,z14).snd.snd++x) (pickGo p.offers z10 (List.drop z13.toNat c)))∧(z3 - z13).toNat<(z3 - x.fst).toNat)))∧(decide (x.fst<z3)=false→x.snd.snd.length=x.snd.snd.length∧(SV.tup [SV.row SId.off x.snd.snd,SV.bl true]).same z8)) (by kernel_rfl) ?_
 simp only[vcs]
 have hrow:∀{l:List Off},l=[]→(SV.row (.i .i64) []).same (SV.row .off l):=by rintro l rfl;exact same_nil.2 trivial
 refine⟨⟨by omega,by omega,by omega,by simp⟩,?_⟩
 rintro⟨i,last,out⟩ ⟨hi0,hi1,hlen,hla,hi⟩
 simp only at hi0 hi1 hlen hla hi ⊢
 refine⟨fun hlt=>?_,fun hge=>?_⟩
 ·rw[drop_nth (d:=0) hi0 hlt] at hi
  generalize hx:nthD c i.toNat 0=x at hi ⊢
  simp only[pickGo] at hi
  refine⟨by omega,by omega,by omega,fun h1=>?_,fun h1=>⟨fun h2=>?_,fun h2=>?_⟩⟩
  ·rw[if_pos (.inl h1)] at hi
   exact⟨hrow (by simp[pickL,hi]),by simp[pickOk,hi]⟩
  ·rw[if_pos (.inr (by omega))] at hi
   exact⟨hrow (by simp[pickL,hi]),by simp[pickOk,hi]⟩
  ·rw[if_neg (by omega)] at hi
   simp only[List.length_append,List.length_singleton]
   refine⟨by omega,by omega,by omega,by omega,by omega,by omega,⟨by omega,by omega,by omega,by omega,?_⟩,by omega⟩
   rw[hi,Option.map_map]
   congr 1
   funext r
   simp
 ·rw[show i.toNat=c.length from by omega,List.drop_length] at hi
  simp only[pickGo,Option.map_some,List.append_nil] at hi
  exact⟨by simp[pickL,hi],by simp[pickOk,hi]⟩
def L6:List SCtr:=r79::r133::L5
theorem hL6:∀c∈L6,Holds Try.prog c:=by
 simp only[L6,List.forall_mem_cons]
 exact⟨h79,h133,hL5⟩
def feasE (p:Prob) (c:List Int):Int:=if checkE p≠0 then checkE p else if pickOk p c=false then 4 else if fitsB p (pickL p c)=false then 14 else 0
def r100:SCtr:=⟨35,Prob×List Int,.cons codP (.one (codR (.i .i64))),fun a=>a.2.length≤9223372036854775807,fun a=> .si .i64 (feasE a.1 a.2)⟩
theorem checkL_mem {p:Prob}:∀{l:List Off} {seen:List BKey},checkL p seen l=0→∀x∈l,offerE p x=0
 |[],_,_=>by simp
 |o::r,seen,h=>by
  simp only[checkL] at h
  split at h
  ·rename_i h1;exact absurd h h1
  ·rename_i h1
   split at h
   ·cases h
   ·intro x hx
    rcases List.mem_cons.1 hx with rfl|hx
    ·exact Classical.not_not.1 h1
    ·exact checkL_mem h x hx
theorem check_zero {p:Prob} (h:checkE p=0):frameE p=0∧∀x∈p.offers,offerE p x=0:=by
 unfold checkE at h
 split at h
 ·rename_i h1;exact absurd h h1
 ·rename_i h1;exact⟨Classical.not_not.1 h1,checkL_mem h⟩
theorem offer_zero {p:Prob} {o:Off} (h:offerE p o=0):simpleE p.classes.length o=0∧o.want≠Bun.zero∧fitsB p [o]=true:=by
 unfold offerE at h
 split at h
 ·rename_i h1;exact absurd h h1
 ·rename_i h1
  split at h
  ·cases h
  ·split at h
   ·cases h
   ·rename_i h2 h3
    exact⟨Classical.not_not.1 h1,h2,by simpa using h3⟩
theorem pick_len {l:List Off}:∀{c:List Int} {last:Int} {r:List Off}, -1≤last→pickGo l last c=some r→r.length+last+1≤l.length∨r=[]
 |[],last,r,_,h=>by simp[pickGo] at h;exact .inr h
 |i::c,last,r,hl,h=>by
  simp only[pickGo] at h
  split at h
  ·cases h
  ·rename_i h1
   obtain⟨r',h2,rfl⟩:=Option.map_eq_some_iff.1 h
   have:=pick_len (by omega) h2
   left
   simp only[List.length_cons]
   rcases this with h3|rfl
   ·omega
   ·simp;omega
theorem pick_mem {l:List Off}:∀{c:List Int} {last:Int} {r:List Off}, -1≤last→pickGo l last c=some r→∀x∈r,x∈l
 |[],last,r,_,h=>by simp[pickGo] at h;subst h;simp
 |i::c,last,r,hl,h=>by
  simp only[pickGo] at h
  split at h
  ·cases h
  ·rename_i h1
   obtain⟨r',h2,rfl⟩:=Option.map_eq_some_iff.1 h
   intro x hx
   rcases List.mem_cons.1 hx with rfl|hx
   ·exact nthD_mem (by omega)
   ·exact pick_mem (by omega) h2 x hx
theorem h100:Holds Try.prog r100:=by
 refine con (L:=L6) r100 F100 (fun p=>fun _=> .look) (OwnOK.none _) hL6 (by kernel_rfl) (by kernel_rfl) (fun _=>rfl) ?_
 rintro⟨p,c⟩ (hc:c.length≤9223372036854775807)
 refine vcOf (let z0:=decide (checkE p≠(0:Int));let z1:=SV.si .i64 (feasE p c);let z2:=!fitsB p (pickL p c);True∧(z0=true→(SV.si .i64 (checkE p)).same z1)∧(z0=false→(c.length≤9223372036854775807∧p.offers.length≤1000)∧((!pickOk p c)=true→(SV.il .i64 4).same z1)∧((!pickOk p c)=false→(p.classes.length≤8∧(pickL p c).length≤1000∧∀(x:Off),x∈pickL p c→(0:Int)≤x.bidder∧x.bidder<(↑p.classes.length:Int)∧x.want.ok=true)∧(z2=true→(SV.il .i64 14).same z1)∧(z2=false→(SV.il .i64 0).same z1)))) (by kernel_rfl) ?_
 simp only[vcs]
 refine⟨fun h=>by simp[feasE,h],fun h=>?_⟩
 have hz:checkE p=0:=Classical.not_not.1 h
 obtain⟨hf,ho⟩:=check_zero hz
 obtain⟨f1,f2,f3,f4,f5⟩:=frame_zero hf
 refine⟨⟨hc,by omega⟩,fun h1=>by simp[feasE,hz,h1],fun h1=>⟨⟨f3,?_,?_⟩,fun h2=>by simp[feasE,hz,h1,h2],fun h2=>by simp[feasE,hz,h1,h2]⟩⟩
 ·unfold pickOk at h1
  obtain⟨r,hr⟩:=Option.isSome_iff_exists.1 h1
  have:=pick_len (by omega) hr
  simp only[pickL,hr,Option.getD_some]
  rcases this with h3|rfl
  ·omega
  ·simp
 ·unfold pickOk at h1
  obtain⟨r,hr⟩:=Option.isSome_iff_exists.1 h1
  simp only[pickL,hr,Option.getD_some]
  intro x hx
  have hs:=simple_zero (offer_zero (ho x (pick_mem (by omega) hr x hx))).1
  exact⟨hs.1,hs.2.1,hs.2.2.2.2⟩
def Good (p:Prob):Prop:=p.classes.length≤8∧p.offers.length≤160∧p.supply.ok=true∧p.opn.ok=true∧∀x∈p.offers,0≤x.bidder∧x.bidder<p.classes.length∧x.want.ok=true∧1≤x.value∧x.value≤1000000
theorem good_of {p:Prob} (h:checkE p=0):Good p:=by
 obtain⟨hf,ho⟩:=check_zero h
 obtain⟨f1,f2,f3,f4,f5⟩:=frame_zero hf
 refine⟨f3,f4,f1,?_,fun x hx=>?_⟩
 ·have hs:=Bun.ok_iff.1 f1
  have g0:=prodOk_iff.1 (f2 0 (by omega))
  have g1:=prodOk_iff.1 (f2 1 (by omega))
  have g2:=prodOk_iff.1 (f2 2 (by omega))
  have g3:=prodOk_iff.1 (f2 3 (by omega))
  have g4:=prodOk_iff.1 (f2 4 (by omega))
  have g5:=prodOk_iff.1 (f2 5 (by omega))
  simp[nthD] at g0 g1 g2 g3 g4 g5
  exact Bun.ok_iff.2 (by omega)
 ·have hs:=simple_zero (offer_zero (ho x hx)).1
  exact⟨hs.1,hs.2.1,hs.2.2.2.2,hs.2.2.1,hs.2.2.2.1⟩
def Prob.zero:Prob:=⟨Bun.zero,Bun.zero,Bun.zero,[],[]⟩
def r68:SCtr:=⟨39,Bun,.one (codE .bun),fun _=>True,fun b=> .sb b.ok⟩
theorem h68:Holds Try.prog r68:=by
 refine con (L:=[]) r68 F68 (fun _ _=> .unroll 7) (OwnOK.none _) (by simp) (by kernel_rfl) (by kernel_rfl) (fun _=>rfl) ?_
 intro b _
 refine vcOf (let z0:=decide (b.a0<(0:Int));let z1:=decide ((4:Int)<b.a0);let z2:=decide (b.a1<(0:Int));let z3:=decide ((4:Int)<b.a1);let z4:=decide (b.a2<(0:Int));let z5:=decide ((4:Int)<b.a2);let z6:=decide (b.a3<(0:Int));let z7:=decide ((4:Int)<b.a3);let z8:=decide (b.a4<(0:Int));let z9:=decide ((4:Int)<b.a4);let z10:=decide (b.a5<(0:Int));let z11:=decide ((4:Int)<b.a5);(z0=true→(SV.bl false).same (SV.sb (Bun.ok b)))∧(z0=false→(z1=true→(SV.bl false).same (SV.sb (Bun.ok b)))∧(z1=false→(z2=true→(SV.bl false).same (SV.sb (Bun.ok b)))∧(z2=false→(z3=true→(SV.bl false).same (SV.sb (Bun.ok b)))∧(z3=false→(z4=true→(SV.bl false).same (SV.sb (Bun.ok b)))∧(z4=false→(z5=true→(SV.bl false).same (SV.sb (Bun.ok b)))∧(z5=false→(z6=true→(SV.bl false).same (SV.sb (Bun.ok b)))∧(z6=false→(z7=true→(SV.bl false).same (SV.sb (Bun.ok b)))∧(z7=false→(z8=true→(SV.bl false).same (SV.sb (Bun.ok b)))∧(z8=false→(z9=true→(SV.bl false).same (SV.sb (Bun.ok b)))∧(z9=false→(z10=true→(SV.bl false).same (SV.sb (Bun.ok b)))∧(z10=false→(z11=true→(SV.bl false).same (SV.sb (Bun.ok b)))∧(z11=false→(SV.bl true).same (SV.sb (Bun.ok b))))))))))))))) (by kernel_rfl) ?_
 conv=>zeta
 have hb:=@Bun.ok_iff b
 by_cases h:b.ok=true
 ·have h2:=hb.1 h
  simp only[decide_eq_true_eq,decide_eq_false_iff_not,same_bl_sb,eq_self,true_and,h,if_true]
  repeat' (first|refine And.intro ?_ ?_|intro _)
  all_goals first|trivial|omega|(exfalso;omega)
 ·have h2:=mt hb.2 h
  have h3:b.ok=false:=by simpa using h
  simp only[decide_eq_true_eq,decide_eq_false_iff_not,same_bl_sb,eq_self,true_and,h3]
  repeat' (first|refine And.intro ?_ ?_|intro _)
  all_goals first|trivial|omega|(exfalso;omega)
def coefR (p:Prob) (r:Int) (o:Off):Int:=
 if r - p.classes.length<0 then(if o.bidder=r then 1 else 0)
 else if r - p.classes.length<6 then nthD [o.want.a0,o.want.a1,o.want.a2,o.want.a3,o.want.a4,o.want.a5] (r - p.classes.length).toNat 0
 else if nthD [p.cls.a0,p.cls.a1,p.cls.a2,p.cls.a3,p.cls.a4,p.cls.a5] (r - p.classes.length - 6).toNat 0=0∨p.classes.length≤o.bidder∨nthD [p.cls.a0,p.cls.a1,p.cls.a2,p.cls.a3,p.cls.a4,p.cls.a5] (r - p.classes.length - 6).toNat 0=nthD p.classes o.bidder.toNat 0 then 0
 else nthD [o.want.a0,o.want.a1,o.want.a2,o.want.a3,o.want.a4,o.want.a5] (r - p.classes.length - 6).toNat 0
theorem coefR_eq {p:Prob} {r:Int} {o:Off} (h:o.bidder<p.classes.length):coefR p r o=coefS p r o:=by
 unfold coefR coefS
 have:¬(p.classes.length:Int)≤o.bidder:=by omega
 simp only[this,false_or]
def r110:SCtr:=⟨56,Prob×Int×Off,.cons codP (.cons (codI .i64) (.one (codE .off))),fun a=>a.1.classes.length≤8∧0≤a.2.1∧a.2.1<nrows a.1∧0≤a.2.2.bidder,
 fun a=> .tup [.si .i64 (coefR a.1 a.2.1 a.2.2),.si .i64 (boundS a.1 a.2.1)]⟩
theorem h110:Holds Try.prog r110:=by
 refine con (L:=[]) r110 F110 (fun _ _=> .unroll 7) (OwnOK.none _) (by simp) (by kernel_rfl) (by kernel_rfl) (fun _=>rfl) ?_
 rintro⟨p,r,x⟩ ⟨hp,h1,h2,h3⟩
 simp only[nrows] at hp h1 h2 h3
 refine vcOf (let z0:=(↑p.classes.length:Int);let z1:=decide (x.bidder=r);let z2:=SV.il .i64 1;let z3:=SV.tup [SV.si .i64 (coefR p r x),SV.si .i64 (boundS p r)];let z4:=SV.il .i64 0;let z5:=decide (r<z0+(6:Int));let z6:=(r - z0).toNat;let z7:=[x.want.a0,x.want.a1,x.want.a2,x.want.a3,x.want.a4,x.want.a5];let z8:=r - z0 - (6:Int);let z9:=nthD [p.cls.a0,p.cls.a1,p.cls.a2,p.cls.a3,p.cls.a4,p.cls.a5] z8.toNat (0:Int);let z10:=decide (z9≠(0:Int));let z11:=decide (x.bidder<z0);let z12:=decide (z9≠nthD p.classes x.bidder.toNat (0:Int));let z13:=[SV.si .i64 (nthD [p.opn.a0,p.opn.a1,p.opn.a2,p.opn.a3,p.opn.a4,p.opn.a5] z8.toNat (0:Int))];(decide (r<z0)=true→(z1=true→(SV.tup [z2,z2]).same z3)∧(z1=false→(SV.tup [z4,z2]).same z3))∧(decide (r<z0)=false→inR .i64 (z0+(6:Int))∧(z5=true→inR .i64 (r - z0)∧(0:Int)≤r - z0∧r - z0<(6:Int)∧z6<6∧inR .i64 (r - z0)∧(0:Int)≤r - z0∧r - z0<(6:Int)∧z6<6∧(SV.tup [SV.si .i64 (nthD z7 z6 (0:Int)),SV.si .i64 (nthD [p.supply.a0,p.supply.a1,p.supply.a2,p.supply.a3,p.supply.a4,p.supply.a5] z6 (0:Int))]).same z3)∧(z5=false→inR .i64 (r - z0)∧inR .i64 z8∧(0:Int)≤z8∧z8<(6:Int)∧z8.toNat<6∧(z10=true→(z11=true→(0:Int)≤z8∧z8<(6:Int)∧z8.toNat<6∧(0:Int)≤x.bidder∧x.bidder<z0∧x.bidder.toNat<p.classes.length∧(z12=true→(0:Int)≤z8∧z8<(6:Int)∧z8.toNat<6∧(0:Int)≤z8∧z8<(6:Int)∧z8.toNat<6∧(SV.tup (SV.si .i64 (nthD z7 z8.toNat (0:Int))::z13)).same z3)∧(z12=false→(0:Int)≤z8∧z8<(6:Int)∧z8.toNat<6∧(SV.tup (z4::z13)).same z3))∧(z11=false→(0:Int)≤z8∧z8<(6:Int)∧z8.toNat<6∧(SV.tup (z4::z13)).same z3))∧(z10=false→(0:Int)≤z8∧z8<(6:Int)∧z8.toNat<6∧(SV.tup (z4::z13)).same z3)))) (by kernel_rfl) ?_
 simp only[vcs]
 have b1:r - p.classes.length<0→boundS p r=1:=fun h=>by unfold boundS;rw[if_pos h]
 have b2:¬r - p.classes.length<0→r - p.classes.length<6→boundS p r=nthD [p.supply.a0,p.supply.a1,p.supply.a2,p.supply.a3,p.supply.a4,p.supply.a5] (r - p.classes.length).toNat 0:=fun h h'=>by unfold boundS;rw[if_neg h,if_pos h']
 have b3:¬r - p.classes.length<0→¬r - p.classes.length<6→boundS p r=nthD [p.opn.a0,p.opn.a1,p.opn.a2,p.opn.a3,p.opn.a4,p.opn.a5] (r - p.classes.length - 6).toNat 0:=fun h h'=>by unfold boundS;rw[if_neg h,if_neg h']
 have c1:r - p.classes.length<0→coefR p r x=if x.bidder=r then 1 else 0:=fun h=>by unfold coefR;rw[if_pos h]
 have c2:¬r - p.classes.length<0→r - p.classes.length<6→coefR p r x=nthD [x.want.a0,x.want.a1,x.want.a2,x.want.a3,x.want.a4,x.want.a5] (r - p.classes.length).toNat 0:=fun h h'=>by unfold coefR;rw[if_neg h,if_pos h']
 have c3:=fun(h:¬r - p.classes.length<0) (h':¬r - p.classes.length<6)=>(show coefR p r x=_ by unfold coefR;rw[if_neg h,if_neg h'])
 refine⟨fun ha=>?_,fun ha=>⟨by omega,fun hb=>?_,fun hb=>?_⟩⟩
 ·rw[b1 (by omega),c1 (by omega)]
  exact⟨fun h=>by simp[h],fun h=>by simp[h]⟩
 ·rw[b2 (by omega) (by omega),c2 (by omega) (by omega)]
  refine⟨by omega,by omega,by omega,by omega,by omega,by omega,by omega,by omega,rfl,rfl⟩
 ·rw[b3 (by omega) (by omega),c3 (by omega) (by omega)]
  refine⟨by omega,by omega,by omega,by omega,by omega,fun h4=>⟨fun h5=>⟨by omega,by omega,by omega,by omega,by omega,by omega,fun h6=>⟨by omega,by omega,by omega,by omega,by omega,by omega,(if_neg (by omega)).symm,rfl⟩,fun h6=>⟨by omega,by omega,by omega,(if_pos (by omega)).symm,rfl⟩⟩,fun h5=>⟨by omega,by omega,by omega,(if_pos (by omega)).symm,rfl⟩⟩,fun h4=>⟨by omega,by omega,by omega,(if_pos (by omega)).symm,rfl⟩⟩
def M1:List SCtr:=[r110,r68]
theorem hM1:∀c∈M1,Holds Try.prog c:=by
 simp only[M1,List.forall_mem_cons,List.not_mem_nil,false_implies,implies_true,and_true]
 exact⟨h110,h68⟩
def r69:SCtr:=⟨40,Prob×List Off,.cons codP (.one (codR .off)),fun a=>a.1.classes.length≤8∧a.2.length≤1000∧(∀x∈a.2,0≤x.bidder∧x.bidder<a.1.classes.length∧x.want.ok=true),fun a=> .sb (fitsB a.1 a.2)⟩
def Λ69 (a:Prob×List Off):Nat→LoopAnn
 |2=> .inv Int (fun i=>⟨[(1,.row .off a.2),(2,.ptr 0 0 20),(5,.si .i64 i)],[.cells a.1.ss 27 20 false]⟩) (fun s=>iS s 5)
  (fun i=>0≤i∧i≤nrows a.1∧∀r:Nat,r<i→sumS a.1 a.2 r≤boundS a.1 r) (fun i=>(nrows a.1 - i).toNat)
  fun i=>fun
   |6=> .inv (Int×Int) (fun x=>⟨[(1,.row .off a.2),(2,.ptr 0 0 20),(5,.si .i64 i),(6,.si .i64 x.2),(7,.si .i64 x.1)],[.cells a.1.ss 27 20 false]⟩)
    (fun s=>(iS s 7,iS s 6))
    (fun x=>0≤x.1∧x.1≤a.2.length∧x.2=sumS a.1 (a.2.take x.1.toNat) i) (fun x=>(a.2.length - x.1).toNat) fun _ _=> .look
   |_=> .look
 |_=> .look
theorem h69:Holds Try.prog r69:=by
 refine con (L:=M1) r69 F69 Λ69 (OwnOK.none _) hM1 (by kernel_rfl) (by kernel_rfl) (fun _=>rfl) ?_
 rintro⟨p,l⟩ ⟨hp,hl,hb⟩
 simp only at hp hl hb
 refine vcOf (let z0:=SV.ptr 0 0 20;let z1:=SObj.cells (Prob.ss p) 27 20 false;let z2:=(↑p.classes.length:Int)+(12:Int);let z3:=(↑l.length:Int);((((SV.row SId.off l).same (SV.row SId.off l)∧z0.same z0∧(SV.il .i64 0).same (SV.si .i64 0)∧True)∧z1.same z1∧True)∧(0:Int)≤(0:Int)∧(0:Int)≤nrows p∧∀(r:Nat),(↑r:Int)<(0:Int)→sumS p l (↑r:Int)≤boundS p (↑r:Int))∧∀(x:Int),let z4:=x+(1:Int);let z5:=SV.si .i64 z4;((0:Int)≤x∧x≤nrows p∧∀(r:Nat),(↑r:Int)<x→sumS p l (↑r:Int)≤boundS p (↑r:Int))→inR .i64 z2∧(decide (x<z2)=true→((((SV.row SId.off l).same (SV.row SId.off l)∧z0.same z0∧(SV.si .i64 x).same (SV.si .i64 x)∧(SV.il .i64 0).same (SV.si .i64 0)∧(SV.il .i64 0).same (SV.si .i64 0)∧True)∧z1.same z1∧True)∧(0:Int)≤(0:Int)∧(0:Int)≤z3∧(0:Int)=sumS p [] x)∧∀(x_1:Int×Int),let z6:=decide (x_1.fst<(↑l.length:Int));let z7:=nthD l x_1.fst.toNat SId.off.dflt;let z8:=x_1.snd+coefR p x z7;let z9:=x_1.fst+(1:Int);let z10:=SV.si .i64 x;let z11:=SV.si .i64 z8;let z12:=SV.si .i64 z9;let z13:=decide (boundS p x<x_1.snd);(0:Int)≤x_1.fst∧x_1.fst≤z3∧x_1.snd=sumS p (List.take x_1.fst.toNat l) x→(z6=true→(0:Int)≤x_1.fst∧x_1.fst<(↑l.length:Int)∧x_1.fst.toNat<l.length∧(p.classes.length≤8∧(0:Int)≤x∧x<nrows p∧(0:Int)≤z7.bidder)∧inR .i64 z8∧inR .i64 z9∧(((SV.row SId.off l).same (SV.row SId.off l)∧z0.same z0∧z10.same z10∧z11.same z11∧z12.same z12∧True)∧z1.same z1∧True)∧((0:Int)≤z9∧z9≤z3∧z8=sumS p (List.take z9.toNat l) x)∧(z3 - z9).toNat<(z3 - x_1.fst).toNat)∧(z6=false→(p.classes.length≤8∧(0:Int)≤x∧x<nrows p∧(0:Int)≤(0:Int))∧(z13=true→(SV.bl false).same (SV.sb (fitsB p l)))∧(z13=false→inR .i64 z4∧(((SV.row SId.off l).same (SV.row SId.off l)∧z0.same z0∧z5.same z5∧True)∧z1.same z1∧True)∧((0:Int)≤z4∧z4≤nrows p∧∀(r:Nat),(↑r:Int)<z4→sumS p l (↑r:Int)≤boundS p (↑r:Int))∧(nrows p - z4).toNat<(nrows p - x).toNat)))∧(decide (x<z2)=false→(SV.bl true).same (SV.sb (fitsB p l)))) (by kernel_rfl) ?_
 simp only[vcs]
 have hn:nrows p=p.classes.length+12:=rfl
 have ho:∀x∈l,x.want.ok=true:=fun x hx=>(hb x hx).2.2
 refine⟨⟨by omega,by omega,fun r hr=>by omega⟩,?_⟩
 rintro i ⟨hi0,hi1,hi⟩
 refine⟨by omega,fun hlt=>⟨⟨by omega,by omega,by simp[sumS]⟩,?_⟩,?_⟩
 ·rintro⟨j,s⟩ ⟨hj0,hj1,hs⟩
  simp only at hj0 hj1 hs ⊢
  have hsb:=@sum_bd p i (l.take j.toNat) fun x hx=>ho x (List.mem_of_mem_take hx)
  have hlen:(l.take j.toNat).length≤l.length:=by simp;omega
  refine⟨fun hjl=>?_,fun hjl=>?_⟩
  ·have hm:=hb _ (nthD_mem (d:=SId.off.dflt) (show j.toNat<l.length by omega))
   have hc:=@coef_bd p i _ hm.2.2
   have hst:=@sum_take p i l j SId.off.dflt hj0 hjl
   rw[coefR_eq hm.2.1]
   refine⟨by omega,by omega,by omega,⟨hp,by omega,by omega,hm.1⟩,by omega,by omega,⟨by omega,by omega,by omega⟩,by omega⟩
  ·have:j.toNat=l.length:=by omega
   rw[this,List.take_length] at hs
   refine⟨⟨hp,by omega,by omega,by omega⟩,fun hgt=>?_,fun hle=>⟨by omega,⟨by omega,by omega,fun r hr=>?_⟩,by omega⟩⟩
   ·symm
    rw[Bool.eq_false_iff]
    intro hf
    have:=fits_iff.1 hf i.toNat (by omega)
    rw[show((i.toNat:Nat):Int)=i from by omega] at this
    omega
   ·by_cases hr2:(r:Int)<i
    ·exact hi r hr2
    ·have:(r:Int)=i:=by omega
     rw[this]
     omega
 ·intro hge
  symm
  exact fits_iff.2 fun r hr=>hi r (by omega)
def r24:SCtr:=⟨18,Prob,.one codP,fun p=>True,fun p=> .si .i64 (checkE p)⟩
def Λ24 (p:Prob):Nat→LoopAnn
 |11=> .inv Int (fun k=>⟨[(1,.ptr 0 0 20),(4,.si .i64 k)],[.cells p.ss 27 20 false]⟩) (fun s=>iS s 4) (fun k=>0≤k∧k≤p.classes.length∧∀c∈p.classes.take k.toNat,0≤c∧c≤4) (fun k=>(p.classes.length - k).toNat) fun _ _=> .look
 |16=> .inv Int (fun i=>⟨[(1,.ptr 0 0 20),(5,.si .i64 i)],[.cells p.ss 27 20 false]⟩) (fun s=>iS s 5)
  (fun i=>0≤i∧i≤p.offers.length∧checkL p [] p.offers=checkL p ((p.offers.take i.toNat).map Off.key) (p.offers.drop i.toNat)) (fun i=>(p.offers.length - i).toNat)
  fun i=>fun
   |26=> .inv Int (fun k=>⟨[(1,.ptr 0 0 20),(5,.si .i64 i),(6,.ptr 1 0 8),(7,.si .i64 k)],[.cells p.ss 27 20 false,.cells (encS .off (nthD p.offers i.toNat SId.off.dflt)) 45 8 false]⟩) (fun s=>iS s 7)
    (fun k=>0≤k∧k≤i∧∀j:Nat,j<k→(nthD p.offers j SId.off.dflt).key≠(nthD p.offers i.toNat SId.off.dflt).key) (fun k=>(i - k).toNat) fun _ _=> .look
   |_=> .look
 |4=> .inv Int (fun k=>⟨[(1,.ptr 0 0 20),(3,.si .i64 k)],[.cells p.ss 27 20 false]⟩) (fun s=>iS s 3) (fun k=>0≤k∧k≤6∧∀j:Nat,j<k→prodOk p j) (fun k=>(6 - k).toNat) fun _ _=> .look
 |_=> .look
theorem bun_z {b:Bun}:(decide (b.a0=0)&&(decide (b.a1=0)&&(decide (b.a2=0)&&(decide (b.a3=0)&&(decide (b.a4=0)&&(decide (b.a5=0)&&true))))))=decide (b=Bun.zero):=by
 rw[Bool.eq_iff_iff]
 simp[bun_eq,Bun.zero]
theorem bun_d {b c:Bun}:(decide (b.a0=c.a0)&&(decide (b.a1=c.a1)&&(decide (b.a2=c.a2)&&(decide (b.a3=c.a3)&&(decide (b.a4=c.a4)&&(decide (b.a5=c.a5)&&true))))))=decide (b=c):=by
 rw[Bool.eq_iff_iff]
 simp[bun_eq]
theorem mem_take_nth {α:Type} {l:List α} {i:Int} {d x:α} (h1:i≤l.length) (h:x∈l.take i.toNat):∃j:Nat,(j:Int)<i∧nthD l j d=x:=by
 obtain⟨j,hj,rfl⟩:=List.mem_iff_getElem.1 h
 have hj2:=hj
 simp only[List.length_take] at hj2
 refine⟨j,by omega,?_⟩
 rw[nthD_eq (by omega),List.getElem_take]
theorem h24:Holds Try.prog r24:=by
 refine con (L:=r69::M1) r24 F24 Λ24 (OwnOK.none _) (by simp only[List.forall_mem_cons];exact⟨h69,hM1⟩) (by kernel_rfl) (by kernel_rfl) (fun _=>rfl) ?_
 intro p _
 refine vcOf (let z0:=SV.si .i64 (checkE p);let z1:=SV.ptr 0 0 20;let z2:=SV.il .i64 0;let z3:=SObj.cells (Prob.ss p) 27 20 false;let z4:=[p.cls.a0,p.cls.a1,p.cls.a2,p.cls.a3,p.cls.a4,p.cls.a5];let z5:=[p.opn.a0,p.opn.a1,p.opn.a2,p.opn.a3,p.opn.a4,p.opn.a5];let z6:=[p.supply.a0,p.supply.a1,p.supply.a2,p.supply.a3,p.supply.a4,p.supply.a5];let z7:=p.classes.length;let z8:=(↑z7:Int);let z9:=decide ((8:Int)<z8);let z10:=p.offers.length;let z11:=(↑z10:Int);let z12:=decide ((160:Int)<z11);let z13:=(↑p.classes.length:Int);let z14:=(↑p.offers.length:Int);let z15:=checkL p [] p.offers;let z16:=SId.off.dflt;let z17:=SV.ptr 1 0 8;True∧((!p.supply.ok)=true→(SV.il .i64 4).same z0)∧((!p.supply.ok)=false→(((z1.same z1∧z2.same (SV.si .i64 0)∧True)∧z3.same z3∧True)∧(0:Int)≤(0:Int)∧(0:Int)≤(6:Int)∧∀(j:Nat),(↑j:Int)<(0:Int)→prodOk p j)∧∀(x:Int),let z18:=decide (x<(6:Int));let z19:=nthD z4 x.toNat (0:Int);let z20:=decide (z19<(0:Int));let z21:=decide ((4:Int)<z19);let z22:=nthD z5 x.toNat (0:Int);let z23:=decide (z22<(0:Int));let z24:=nthD z6 x.toNat (0:Int);let z25:=decide (z19=(0:Int));let z26:=x+(1:Int);let z27:=SV.si .i64 z26;((0:Int)≤x∧x≤(6:Int)∧∀(j:Nat),(↑j:Int)<x→prodOk p j)→(z18=true→(0:Int)≤x∧x<(6:Int)∧x.toNat<6∧(z20=true→(SV.il .i64 4).same z0)∧(z20=false→(0:Int)≤x∧x<(6:Int)∧x.toNat<6∧(z21=true→(SV.il .i64 4).same z0)∧(z21=false→(0:Int)≤x∧x<(6:Int)∧x.toNat<6∧(z23=true→(SV.il .i64 4).same z0)∧(z23=false→(0:Int)≤x∧x<(6:Int)∧x.toNat<6∧(0:Int)≤x∧x<(6:Int)∧x.toNat<6∧(decide (z24<z22)=true→(SV.il .i64 4).same z0)∧(decide (z24<z22)=false→(0:Int)≤x∧x<(6:Int)∧x.toNat<6∧(z25=true→(0:Int)≤x∧x<(6:Int)∧x.toNat<6∧(0:Int)≤x∧x<(6:Int)∧x.toNat<6∧(decide (z22≠z24)=true→(SV.il .i64 4).same z0)∧(decide (z22≠z24)=false→inR .i64 z26∧((z1.same z1∧z27.same z27∧True)∧z3.same z3∧True)∧((0:Int)≤z26∧z26≤(6:Int)∧∀(j:Nat),(↑j:Int)<z26→prodOk p j)∧((6:Int) - z26).toNat<((6:Int) - x).toNat))∧(z25=false→inR .i64 z26∧((z1.same z1∧z27.same z27∧True)∧z3.same z3∧True)∧((0:Int)≤z26∧z26≤(6:Int)∧∀(j:Nat),(↑j:Int)<z26→prodOk p j)∧((6:Int) - z26).toNat<((6:Int) - x).toNat))))))∧(z18=false→(z9=true→(SV.il .i64 3).same z0)∧(z9=false→(z12=true→(SV.il .i64 3).same z0)∧(z12=false→(((z1.same z1∧z2.same (SV.si .i64 0)∧True)∧z3.same z3∧True)∧(0:Int)≤(0:Int)∧(0:Int)≤z13∧∀(c:Int),c∈[]→(0:Int)≤c∧c≤(4:Int))∧∀(x:Int),let z28:=nthD p.classes x.toNat (0:Int);let z29:=decide (z28<(0:Int));let z30:=decide ((4:Int)<z28);let z31:=x+(1:Int);let z32:=SV.si .i64 z31;((0:Int)≤x∧x≤z13∧∀(c:Int),c∈List.take x.toNat p.classes→(0:Int)≤c∧c≤(4:Int))→(decide (x<z8)=true→(0:Int)≤x∧x<z8∧x.toNat<z7∧(z29=true→(SV.il .i64 4).same z0)∧(z29=false→(0:Int)≤x∧x<z8∧x.toNat<z7∧(z30=true→(SV.il .i64 4).same z0)∧(z30=false→inR .i64 z31∧((z1.same z1∧z32.same z32∧True)∧z3.same z3∧True)∧((0:Int)≤z31∧z31≤z13∧∀(c:Int),c∈List.take z31.toNat p.classes→(0:Int)≤c∧c≤(4:Int))∧(z13 - z31).toNat<(z13 - x).toNat)))∧(decide (x<z8)=false→(((z1.same z1∧z2.same (SV.si .i64 0)∧True)∧z3.same z3∧True)∧(0:Int)≤(0:Int)∧(0:Int)≤z14∧z15=z15)∧∀(x:Int),let z33:=nthD p.offers x.toNat z16;let z34:=z33.bidder;let z35:=decide (z34<(0:Int));let z36:=decide (z33.value<(1:Int));let z37:=decide ((1000000:Int)<z33.value);let z38:=z33.want;let z39:=decide (z38.a0=(0:Int))&&(decide (z38.a1=(0:Int))&&(decide (z38.a2=(0:Int))&&(decide (z38.a3=(0:Int))&&(decide (z38.a4=(0:Int))&&(decide (z38.a5=(0:Int))&&true)))));let z40:=SObj.cells [SV.si .i64 z34,SV.si .i64 z38.a0,SV.si .i64 z38.a1,SV.si .i64 z38.a2,SV.si .i64 z38.a3,SV.si .i64 z38.a4,SV.si .i64 z38.a5,SV.si .i64 z33.value] 45 8 false;let z41:=x+(1:Int);let z42:=SV.si .i64 z41;(0:Int)≤x∧x≤z14∧z15=checkL p (List.map Off.key (List.take x.toNat p.offers)) (List.drop x.toNat p.offers)→(decide (x<z11)=true→(0:Int)≤x∧x<z11∧x.toNat<z10∧(z35=true→(SV.il .i64 6).same z0)∧(z35=false→(decide (z8≤z34)=true→(SV.il .i64 6).same z0)∧(decide (z8≤z34)=false→(z36=true→(SV.il .i64 4).same z0)∧(z36=false→(z37=true→(SV.il .i64 4).same z0)∧(z37=false→True∧((!z38.ok)=true→(SV.il .i64 4).same z0)∧((!z38.ok)=false→(z39=true→(SV.il .i64 4).same z0)∧(z39=false→(p.classes.length≤8∧1≤1000∧∀(x:Off),x∈[z33]→(0:Int)≤x.bidder∧x.bidder<z13∧x.want.ok=true)∧((!fitsB p [z33])=true→(SV.il .i64 14).same z0)∧((!fitsB p [z33])=false→(((z1.same z1∧(SV.si .i64 x).same (SV.si .i64 x)∧z17.same z17∧z2.same (SV.si .i64 0)∧True)∧z3.same z3∧z40.same z40∧True)∧(0:Int)≤(0:Int)∧(0:Int)≤x∧∀(j:Nat),(↑j:Int)<(0:Int)→(nthD p.offers j z16).key≠z33.key)∧∀(x_1:Int),let z43:=nthD p.offers x_1.toNat z16;let z44:=decide (z43.bidder=z34);let z45:=z43.want;let z46:=decide (z45.a0=z38.a0)&&(decide (z45.a1=z38.a1)&&(decide (z45.a2=z38.a2)&&(decide (z45.a3=z38.a3)&&(decide (z45.a4=z38.a4)&&(decide (z45.a5=z38.a5)&&true)))));let z47:=x_1+(1:Int);let z48:=SV.si .i64 x;let z49:=SV.si .i64 z47;((0:Int)≤x_1∧x_1≤x∧∀(j:Nat),(↑j:Int)<x_1→(nthD p.offers j z16).key≠z33.key)→(decide (x_1<x)=true→(0:Int)≤x_1∧x_1<z11∧x_1.toNat<z10∧(z44=true→(0:Int)≤x_1∧x_1<z11∧x_1.toNat<z10∧(z46=true→(SV.il .i64 7).same z0)∧(z46=false→inR .i64 z47∧((z1.same z1∧z48.same z48∧z17.same z17∧z49.same z49∧True)∧z3.same z3∧z40.same z40∧True)∧((0:Int)≤z47∧z47≤x∧∀(j:Nat),(↑j:Int)<z47→(nthD p.offers j z16).key≠z33.key)∧(x - z47).toNat<(x - x_1).toNat))∧(z44=false→inR .i64 z47∧((z1.same z1∧z48.same z48∧z17.same z17∧z49.same z49∧True)∧z3.same z3∧z40.same z40∧True)∧((0:Int)≤z47∧z47≤x∧∀(j:Nat),(↑j:Int)<z47→(nthD p.offers j z16).key≠z33.key)∧(x - z47).toNat<(x - x_1).toNat))∧(decide (x_1<x)=false→inR .i64 z41∧((z1.same z1∧z42.same z42∧True)∧z3.same z3∧True)∧((0:Int)≤z41∧z41≤z14∧z15=checkL p (List.map Off.key (List.take z41.toNat p.offers)) (List.drop z41.toNat p.offers))∧(z14 - z41).toNat<(z14 - x).toNat)))))))))∧(decide (x<z11)=false→z2.same z0))))))) (by kernel_rfl) ?_
 simp only[bun_z,bun_d]
 simp only[vcs]
 have e4:frameE p=4→(4:Int)=checkE p:=fun h=>by simp[checkE,h]
 have e3:frameE p=3→(3:Int)=checkE p:=fun h=>by simp[checkE,h]
 refine⟨fun hs=>e4 (frame_sup hs),fun hs=>⟨⟨by omega,by omega,fun j hj=>by omega⟩,?_⟩⟩
 rintro k ⟨hk0,hk1,hk⟩
 refine⟨fun hlt=>?_,fun hge=>?_⟩
 ·have bad:¬prodOk p k.toNat→(4:Int)=checkE p:=fun h=>e4 (frame_prod hs (by omega) h)
  have nxt:prodOk p k.toNat→∀(j:Nat),(j:Int)<k+1→prodOk p j:=fun h j hj=>by
   by_cases hj2:(j:Int)<k
   ·exact hk j hj2
   ·rw[show j=k.toNat from by omega];exact h
  repeat' (first|refine And.intro ?_ ?_|intro _)
  all_goals first
   |omega
   |exact bad fun hh=>by have h2:=prodOk_iff.1 hh;omega
   |exact nxt (prodOk_iff.2 (by omega)) _ (by assumption)
 ·have hall:∀j:Nat,j<6→prodOk p j:=fun j hj=>hk j (by omega)
  refine⟨fun h=>e3 (frame_len hs hall (.inl (by omega))),fun h8=>⟨fun h=>e3 (frame_len hs hall (.inr (by omega))),fun h160=>⟨⟨by omega,by omega,by simp⟩,?_⟩⟩⟩
  rintro i ⟨hi0,hi1,hi⟩
  refine⟨fun hlt=>?_,fun hge=>?_⟩
  ·have hm:=nthD_mem (d:=0) (show i.toNat<p.classes.length by omega)
   refine⟨by omega,by omega,by omega,fun h=>e4 (frame_cls hs hall (by omega) hm (by omega)),fun h1=>⟨by omega,by omega,by omega,fun h=>e4 (frame_cls hs hall (by omega) hm (by omega)),fun h2=>⟨by omega,⟨by omega,by omega,?_⟩,by omega⟩⟩⟩
   exact mem_take_next hi0 hlt hi (by omega)
  ·rw[show i.toNat=p.classes.length from by omega,List.take_length] at hi
   have hz:frameE p=0:=frame_ok hs hall (by omega) hi
   have ce:checkE p=checkL p [] p.offers:=by simp[checkE,hz]
   refine⟨⟨by omega,by omega⟩,?_⟩
   rintro i ⟨hi0,hi1,hi⟩
   refine⟨fun hlt=>?_,fun hge=>?_⟩
   ·rw[drop_nth (d:=SId.off.dflt) hi0 hlt] at hi
    generalize hx:nthD p.offers i.toNat SId.off.dflt=x at hi ⊢
    have oe:∀c:Int,c≠0→offerE p x=c→c=checkE p:=fun c hc h=>by
     rw[ce,hi]
     simp only[checkL,h]
     rw[if_pos hc]
    have se:∀c:Int,c≠0→simpleE p.classes.length x=c→c=checkE p:=fun c hc h=>oe c hc (by
     unfold offerE
     rw[if_pos (by omega),h])
    refine⟨by omega,by omega,by omega,fun h1=>?_,fun h1=>⟨fun h2=>?_,fun h2=>⟨fun h3=>?_,fun h3=>⟨fun h4=>?_,fun h4=>⟨fun h5=>?_,fun h5=>⟨fun h6=>?_,fun h6=>?_⟩⟩⟩⟩⟩⟩
    ·exact se 6 (by decide) (by unfold simpleE;rw[if_pos (by omega)])
    ·exact se 6 (by decide) (by unfold simpleE;rw[if_pos (by omega)])
    ·exact se 4 (by decide) (by unfold simpleE;rw[if_neg (by omega),if_pos (by omega)])
    ·exact se 4 (by decide) (by unfold simpleE;rw[if_neg (by omega),if_pos (by omega)])
    ·exact se 4 (by decide) (by unfold simpleE;rw[if_neg (by omega),if_neg (by omega),h5];rfl)
    ·have hs0:simpleE p.classes.length x=0:=by unfold simpleE;rw[if_neg (by omega),if_neg (by omega),h5];rfl
     exact oe 4 (by decide) (by simp[offerE,hs0,h6])
    ·have hs0:simpleE p.classes.length x=0:=by unfold simpleE;rw[if_neg (by omega),if_neg (by omega),h5];rfl
     refine⟨⟨by omega,by omega,fun y hy=>?_⟩,fun h7=>?_,fun h7=>⟨⟨by omega,by omega,fun j hj=>by omega⟩,?_⟩⟩
     ·rw[List.mem_singleton.1 hy]
      exact⟨by omega,by omega,h5⟩
     ·exact oe 14 (by decide) (by simp[offerE,hs0,h6,h7])
     ·have ho0:offerE p x=0:=by simp[offerE,hs0,h6,h7]
      rintro k ⟨hk0,hk1,hk⟩
      have hnx:(nthD p.offers k.toNat SId.off.dflt).key≠x.key→∀j:Nat,(j:Int)<k+1→(nthD p.offers j SId.off.dflt).key≠x.key:=fun h j hj=>by
       by_cases hj2:(j:Int)<k
       ·exact hk j hj2
       ·rw[show j=k.toNat from by omega];exact h
      refine⟨fun hlt2=>⟨by omega,by omega,by omega,fun h8=>⟨by omega,by omega,by omega,fun h9=>?_,fun h9=>⟨by omega,⟨by omega,by omega,?_⟩,by omega⟩⟩,fun h8=>⟨by omega,⟨by omega,by omega,?_⟩,by omega⟩⟩,fun hge2=>⟨by omega,⟨by omega,by omega,?_⟩,by omega⟩⟩
      ·have hk9:(nthD p.offers k.toNat SId.off.dflt).key=x.key:=by
        show BKey.mk _ _=BKey.mk _ _
        rw[h8,h9]
       have hmem:x.key∈(p.offers.take i.toNat).map Off.key:=by
        rw[←hk9]
        refine List.mem_map.2 ⟨_,?_,rfl⟩
        rw[nthD_eq (by omega)]
        exact List.mem_take_iff_getElem.2 ⟨k.toNat,by omega,rfl⟩
       rw[ce,hi]
       simp only[checkL,ho0,ne_eq,not_true,if_false,if_pos hmem]
      ·refine hnx fun e=>h9 ?_
       injection e
      ·refine hnx fun e=>h8 ?_
       injection e
      ·have hnm:x.key∉(p.offers.take i.toNat).map Off.key:=by
        intro hmem
        obtain⟨o,ho,he⟩:=List.mem_map.1 hmem
        obtain⟨j,hj,rfl⟩:=mem_take_nth (d:=SId.off.dflt) hi1 ho
        exact hk j (by omega) he
       rw[hi,take_nth (d:=SId.off.dflt) hi0 hlt,hx]
       simp only[checkL,ho0,ne_eq,not_true,if_false,if_neg hnm,List.map_append,List.map_cons,List.map_nil]
   ·rw[show i.toNat=p.offers.length from by omega,List.drop_length] at hi
    rw[ce,hi]
    rfl
def M2:List SCtr:=r24::r69::M1
theorem hM2:∀c∈M2,Holds Try.prog c:=by
 simp only[M2,List.forall_mem_cons]
 exact⟨h24,h69,hM1⟩
def r109:SCtr:=⟨41,Prob×List Int,.cons codP (.one (codR (.i .i64))),fun a=>a.2.length≤9223372036854775807∧a.1.offers.length≤1000,fun a=> .tup [.row .off (pickL a.1 a.2),.sb (pickOk a.1 a.2)]⟩
def lastI (c:List Int) (i:Int):Int:=if i=0 then -1 else nthD c (i - 1).toNat 0
def Λ109 (a:Prob×List Int):Nat→LoopAnn
 |3=> .inv (Int×List Off) (fun x=>⟨[(1,.row (.i .i64) a.2),(2,.ptr 0 0 20),(6,.ow 1 x.2.length 8),(7,.si .i64 x.1)],
   [.cells a.1.ss 27 20 false,.row .off x.2 45 true]⟩) (fun s=>(iS s 7,oS .off s 1))
  (fun x=>0≤x.1∧x.1≤a.2.length∧(x.2.length≤lastI a.2 x.1+1∧lastI a.2 x.1<1000)∧ -1≤lastI a.2 x.1∧pickGo a.1.offers (-1) a.2=(pickGo a.1.offers (lastI a.2 x.1) (a.2.drop x.1.toNat)).map (x.2++·)) (fun x=>(a.2.length - x.1).toNat) fun _ _=> .look
 |_=> .look
theorem h109:Holds Try.prog r109:=by
 refine con (L:=M2) r109 F109 Λ109 (OwnOK.none _) hM2 (by kernel_rfl) (by kernel_rfl) (fun _=>rfl) ?_
 rintro⟨p,c⟩ ⟨hc,hof⟩
 have hc:c.length≤9223372036854775807:=hc
 have hof:p.offers.length≤1000:=hof
 refine vcOf (let z0:=SId.i .i64;let z1:=SV.ptr 0 0 20;let z2:=SV.ow 1 0 8;let z3:=SObj.cells [SV.si .i64 p.supply.a0,SV.si .i64 p.supply.a1,SV.si .i64 p.supply.a2,SV.si .i64 p.supply.a3,SV.si .i64 p.supply.a4,SV.si .i64 p.supply.a5,SV.si .i64 p.opn.a0,SV.si .i64 p.opn.a1,SV.si .i64 p.opn.a2,SV.si .i64 p.opn.a3,SV.si .i64 p.opn.a4,SV.si .i64 p.opn.a5,SV.si .i64 p.cls.a0,SV.si .i64 p.cls.a1,SV.si .i64 p.cls.a2,SV.si .i64 p.cls.a3,SV.si .i64 p.cls.a4,SV.si .i64 p.cls.a5,SV.row z0 p.classes,SV.row SId.off p.offers] 27 20 false;let z4:=SObj.row SId.off [] 45 true;let z5:=(↑c.length:Int);let z6:=lastI c (0:Int);let z7:=pickGo p.offers (-1:Int) c;let z8:=(↑c.length:Int);let z9:=SV.tup [SV.row SId.off (pickL p c),SV.sb (pickOk p c)];let z10:=p.offers.length;let z11:=(↑z10:Int);let z12:=SId.off.dflt;((((SV.row z0 c).same (SV.row z0 c)∧z1.same z1∧z2.same z2∧(SV.il .i64 0).same (SV.si .i64 0)∧True)∧z3.same z3∧z4.same z4∧True)∧(0:Int)≤(0:Int)∧(0:Int)≤z5∧((0:Int)≤z6+(1:Int)∧z6<(1000:Int))∧(-1:Int)≤z6∧z7=Option.map (fun x ↦((0:Int),[]).snd++x) (pickGo p.offers z6 c))∧∀(x:Int×List Off),let z13:=lastI c x.fst;let z14:=nthD c x.fst.toNat (0:Int);let z15:=decide (z14<(0:Int));let z16:=decide ((0:Int)<x.fst);let z17:=x.fst - (1:Int);let z18:=decide (z14≤nthD c z17.toNat (0:Int));let z19:=x.snd.length+1;let z20:=x.fst+(1:Int);let z21:=x.snd++[nthD p.offers z14.toNat z12];let z22:=SV.si .i64 z20;let z23:=SObj.row SId.off z21 45 true;let z24:=lastI c z20;(0:Int)≤x.fst∧x.fst≤z5∧((↑x.snd.length:Int)≤z13+(1:Int)∧z13<(1000:Int))∧(-1:Int)≤z13∧z7=Option.map (fun x_1 ↦x.snd++x_1) (pickGo p.offers z13 (List.drop x.fst.toNat c))→(decide (x.fst<z8)=true→(0:Int)≤x.fst∧x.fst<z8∧x.fst.toNat<c.length∧(z15=true→(SV.tup [SV.row z0 [],SV.bl false]).same z9)∧(z15=false→(0:Int)≤x.fst∧x.fst<z8∧x.fst.toNat<c.length∧(decide (z11≤z14)=true→(SV.tup [SV.row z0 [],SV.bl false]).same z9)∧(decide (z11≤z14)=false→(z16=true→(0:Int)≤x.fst∧x.fst<z8∧x.fst.toNat<c.length∧inR .i64 z17∧(0:Int)≤z17∧z17<z8∧z17.toNat<c.length∧(z18=true→(SV.tup [SV.row z0 [],SV.bl false]).same z9)∧(z18=false→(0:Int)≤x.fst∧x.fst<z8∧x.fst.toNat<c.length∧(0:Int)≤z14∧z14<z11∧z14.toNat<z10∧x.snd.length=x.snd.length∧z19*64≤140737488355328∧z19≤1000000000000∧inR .i64 z20∧(((SV.row z0 c).same (SV.row z0 c)∧z1.same z1∧(SV.ow 1 z21.length 8).same (SV.ow 1 z21.length 8)∧z22.same z22∧True)∧z3.same z3∧z23.same z23∧True)∧((0:Int)≤z20∧z20≤z5∧((↑z21.length:Int)≤z24+(1:Int)∧z24<(1000:Int))∧(-1:Int)≤z24∧z7=Option.map (fun x ↦(z20,z21).snd++x) (pickGo p.offers z24 (List.drop z20.toNat c)))∧(z5 - z20).toNat<(z5 - x.fst).toNat))∧(z16=false→(0:Int)≤x.fst∧x.fst<z8∧x.fst.toNat<c.length∧(0:Int)≤z14∧z14<z11∧z14.toNat<z10∧x.snd.length=x.snd.length∧z19*64≤140737488355328∧z19≤1000000000000∧inR .i64 z20∧(((SV.row z0 c).same (SV.row z0 c)∧z1.same z1∧(SV.ow 1 z21.length 8).same (SV.ow 1 z21.length 8)∧z22.same z22∧True)∧z3.same z3∧z23.same z23∧True)∧((0:Int)≤z20∧z20≤z5∧((↑z21.length:Int)≤z24+(1:Int)∧z24<(1000:Int))∧(-1:Int)≤z24∧z7=Option.map (fun x ↦(z20,z21).snd++x) (pickGo p.offers z24 (List.drop z20.toNat c)))∧(z5 - z20).toNat<(z5 - x.fst).toNat))))∧(decide (x.fst<z8)=false→x.snd.length=x.snd.length∧(SV.tup [SV.row SId.off x.snd,SV.bl true]).same z9)) (by kernel_rfl) ?_
 simp only[vcs]
 have hbad:pickGo p.offers (-1) c=none→(SV.row (.i .i64) []).same (SV.row .off (pickL p c))∧false=pickOk p c:=fun h=>⟨same_row_nil.2 (by simp[pickL,h]),by simp[pickOk,h]⟩
 refine⟨⟨by omega,by omega,by simp[lastI],by simp[lastI]⟩,?_⟩
 rintro⟨i,out⟩ ⟨hi0,hi1,hlen,hla,hi⟩
 simp only at hi0 hi1 hlen hla hi ⊢
 refine⟨fun hlt=>?_,fun hge=>?_⟩
 ·rw[drop_nth (d:=0) hi0 hlt] at hi
  have hl1:lastI c (i+1)=nthD c i.toNat 0:=by unfold lastI;rw[if_neg (by omega),show i+1 - 1=i by omega]
  have hl2:i≠0→lastI c i=nthD c (i - 1).toNat 0:=fun h=>by unfold lastI;rw[if_neg h]
  have hl3:i=0→lastI c i= -1:=fun h=>by unfold lastI;rw[if_pos h]
  generalize hx:nthD c i.toNat 0=x at hi hl1 ⊢
  simp only[pickGo] at hi
  have hgood:¬(x≤lastI c i∨p.offers.length≤x)→pickGo p.offers (-1) c=(pickGo p.offers (lastI c (i+1)) (c.drop (i+1).toNat)).map fun r=>(out++[nthD p.offers x.toNat SId.off.dflt])++r:=fun h=>by
   rw[if_neg h] at hi
   rw[hi,hl1,Option.map_map]
   congr 1
   funext r
   simp
  have bad:(x≤lastI c i∨p.offers.length≤x)→(SV.row (.i .i64) []).same (SV.row .off (pickL p c))∧false=pickOk p c:=fun h=>hbad (by rw[hi,if_pos h];rfl)
  have hlen2:¬(x≤lastI c i∨p.offers.length≤x)→((out++[nthD p.offers x.toNat SId.off.dflt]).length:Int)≤lastI c (i+1)+1∧lastI c (i+1)<1000:=fun h=>by
   rw[hl1]
   simp only[List.length_append,List.length_singleton]
   omega
  refine⟨by omega,by omega,by omega,fun h1=>bad (.inl (by omega)),fun h1=>⟨by omega,by omega,by omega,fun h2=>bad (.inr (by omega)),fun h2=>⟨fun h3=>⟨by omega,by omega,by omega,by omega,by omega,by omega,by omega,fun h4=>bad (.inl (by rw[hl2 (by omega)];omega)),fun h4=>?_⟩,fun h3=>?_⟩⟩⟩
  ·have:=hl2 (by omega)
   refine⟨by omega,by omega,by omega,by omega,by omega,by omega,by omega,by omega,by omega,⟨by omega,by omega,hlen2 (by omega),by omega,hgood (by omega)⟩,by omega⟩
  ·have:=hl3 (by omega)
   refine⟨by omega,by omega,by omega,by omega,by omega,by omega,by omega,by omega,by omega,⟨by omega,by omega,hlen2 (by omega),by omega,hgood (by omega)⟩,by omega⟩
 ·rw[show i.toNat=c.length from by omega,List.drop_length] at hi
  simp only[pickGo,Option.map_some,List.append_nil] at hi
  exact⟨by simp[pickL,hi],by simp[pickOk,hi]⟩
def M3:List SCtr:=r109::M2
theorem hM3:∀c∈M3,Holds Try.prog c:=by
 simp only[M3,List.forall_mem_cons]
 exact⟨h109,hM2⟩
def r55:SCtr:=⟨19,Prob×List Int,.cons codP (.one (codR (.i .i64))),fun a=>a.2.length≤9223372036854775807,fun a=> .si .i64 (feasE a.1 a.2)⟩
theorem h55:Holds Try.prog r55:=by
 refine con (L:=M3) r55 F55 (fun p=>fun _=> .look) (OwnOK.none _) hM3 (by kernel_rfl) (by kernel_rfl) (fun _=>rfl) ?_
 rintro⟨p,c⟩ (hc:c.length≤9223372036854775807)
 refine vcOf (let z0:=decide (checkE p≠(0:Int));let z1:=SV.si .i64 (feasE p c);let z2:=!fitsB p (pickL p c);True∧(z0=true→(SV.si .i64 (checkE p)).same z1)∧(z0=false→(c.length≤9223372036854775807∧p.offers.length≤1000)∧((!pickOk p c)=true→(SV.il .i64 4).same z1)∧((!pickOk p c)=false→(p.classes.length≤8∧(pickL p c).length≤1000∧∀(x:Off),x∈pickL p c→(0:Int)≤x.bidder∧x.bidder<(↑p.classes.length:Int)∧x.want.ok=true)∧(z2=true→(SV.il .i64 14).same z1)∧(z2=false→(SV.il .i64 0).same z1)))) (by kernel_rfl) ?_
 simp only[vcs]
 refine⟨fun h=>by simp[feasE,h],fun h=>?_⟩
 have hz:checkE p=0:=Classical.not_not.1 h
 obtain⟨hf,ho⟩:=check_zero hz
 obtain⟨f1,f2,f3,f4,f5⟩:=frame_zero hf
 refine⟨⟨hc,by omega⟩,fun h1=>by simp[feasE,hz,h1],fun h1=>⟨⟨f3,?_,?_⟩,fun h2=>by simp[feasE,hz,h1,h2],fun h2=>by simp[feasE,hz,h1,h2]⟩⟩
 ·unfold pickOk at h1
  obtain⟨r,hr⟩:=Option.isSome_iff_exists.1 h1
  have:=pick_len (by omega) hr
  simp only[pickL,hr,Option.getD_some]
  rcases this with h3|rfl
  ·omega
  ·simp
 ·unfold pickOk at h1
  obtain⟨r,hr⟩:=Option.isSome_iff_exists.1 h1
  simp only[pickL,hr,Option.getD_some]
  intro x hx
  have hs:=simple_zero (offer_zero (ho x (pick_mem (by omega) hr x hx))).1
  exact⟨hs.1,hs.2.1,hs.2.2.2.2⟩
def sumV:List Off→Int
 |[]=>0
 |x::l=>x.value+sumV l
def valueS (p:Prob) (c:List Int):Int:=if checkE p=0 then sumV (pickL p c) else 0
theorem sumV_append:∀{l m:List Off},sumV (l++m)=sumV l+sumV m
 |[],m=>by simp[sumV]
 |x::l,m=>by simp only[List.cons_append,sumV,@sumV_append l m];omega
theorem sumV_take {l:List Off} {i:Int} (h0:0≤i) (h:i<l.length):sumV (l.take (i+1).toNat)=sumV (l.take i.toNat)+(nthD l i.toNat SId.off.dflt).value:=by
 rw[take_nth (d:=SId.off.dflt) h0 h,sumV_append]
 simp[sumV]
def r58:SCtr:=⟨20,Prob×List Int,.cons codP (.one (codR (.i .i64))),fun a=>a.2.length≤9223372036854775807,fun a=> .si .i64 (valueS a.1 a.2)⟩
def Λ58 (a:Prob×List Int):Nat→LoopAnn
 |6=> .inv Int (fun i=>⟨[(5,.row .off (pickL a.1 a.2)),(7,.si .i64 (sumV ((pickL a.1 a.2).take i.toNat))),(8,.si .i64 i)],[.cells a.1.ss 27 20 false]⟩) (fun s=>iS s 8)
  (fun i=>0≤i∧i≤(pickL a.1 a.2).length) (fun i=>((pickL a.1 a.2).length - i).toNat) fun _ _=> .look
 |_=> .look
theorem picks_ok {p:Prob} {c:List Int} (h:checkE p=0):(pickL p c).length≤160∧∀x∈pickL p c,x∈p.offers:=by
 have hg:=good_of h
 unfold pickL
 cases hr:pickGo p.offers (-1) c with
 |none=>simp
 |some r=>
  refine⟨?_,fun x hx=>pick_mem (by omega) hr x hx⟩
  have h1:=pick_len (by omega) hr
  have h2:=hg.2.1
  simp only[Option.getD_some]
  rcases h1 with h1|rfl
  ·omega
  ·simp
theorem sum_val_bd {p:Prob} (hg:Good p):∀{l:List Off},(∀x∈l,x∈p.offers)→0≤sumV l∧sumV l≤1000000*l.length
 |[],_=>by simp[sumV]
 |x::l,h=>by
  have h1:=hg.2.2.2.2 x (h x (by simp))
  have h2:=@sum_val_bd p hg l fun y hy=>h y (by simp[hy])
  simp only[sumV,List.length_cons]
  omega
theorem h58:Holds Try.prog r58:=by
 refine con (L:=M3) r58 F58 Λ58 (OwnOK.none _) hM3 (by kernel_rfl) (by kernel_rfl) (fun _=>rfl) ?_
 rintro⟨p,c⟩ (hc:c.length≤9223372036854775807)
 refine vcOf (let z0:=decide (checkE p≠(0:Int));let z1:=SV.il .i64 0;let z2:=SV.si .i64 (valueS p c);let z3:=SV.row SId.off (pickL p c);let z4:=SObj.cells (Prob.ss p) 27 20 false;let z5:=(↑(pickL p c).length:Int);let z6:=(↑(pickL p c).length:Int);True∧(z0=true→z1.same z2)∧(z0=false→(c.length≤9223372036854775807∧p.offers.length≤1000)∧(((z3.same z3∧z1.same (SV.si .i64 (sumV []))∧z1.same (SV.si .i64 0)∧True)∧z4.same z4∧True)∧(0:Int)≤(0:Int)∧(0:Int)≤z5)∧∀(x:Int),let z7:=sumV (List.take x.toNat (pickL p c));let z8:=z7+(nthD (pickL p c) x.toNat SId.off.dflt).value;let z9:=x+(1:Int);let z10:=SV.si .i64 z9;(0:Int)≤x∧x≤z5→(decide (x<z6)=true→(0:Int)≤x∧x<z6∧x.toNat<(pickL p c).length∧inR .i64 z8∧inR .i64 z9∧((z3.same z3∧(SV.si .i64 z8).same (SV.si .i64 (sumV (List.take z9.toNat (pickL p c))))∧z10.same z10∧True)∧z4.same z4∧True)∧((0:Int)≤z9∧z9≤z5)∧(z5 - z9).toNat<(z5 - x).toNat)∧(decide (x<z6)=false→(SV.si .i64 z7).same z2))) (by kernel_rfl) ?_
 simp only[vcs]
 refine⟨fun h=>by simp[valueS,h],fun h=>⟨⟨hc,by have:=(good_of (Classical.not_not.1 h)).2.1;omega⟩,⟨by simp[sumV],by omega⟩,?_⟩⟩
 have hz:checkE p=0:=Classical.not_not.1 h
 have hg:=good_of hz
 obtain⟨q1,q2⟩:=picks_ok (c:=c) hz
 rintro i ⟨hi0,hi1⟩
 refine⟨fun hlt=>?_,fun hge=>?_⟩
 ·have hs:=sumV_take hi0 hlt
  have hb:=sum_val_bd hg (l:=(pickL p c).take i.toNat) fun x hx=>q2 x (List.mem_of_mem_take hx)
  have hb2:=sum_val_bd hg (l:=(pickL p c).take (i+1).toNat) fun x hx=>q2 x (List.mem_of_mem_take hx)
  simp only[List.length_take] at hb hb2
  refine⟨by omega,by omega,by omega,by omega,by omega,hs.symm,by omega,by omega⟩
 ·rw[show i.toNat=(pickL p c).length from by omega,List.take_length]
  simp[valueS,hz]
def cmpL:List Int→List Int→Int
 |[],[]=>0
 |[],_::_=> -1
 |_::_,[]=>1
 |a::l,b::m=>if a<b then -1 else if b<a then 1 else cmpL l m
def r32:SCtr:=⟨8,List Int×List Int,.cons (codR (.i .i64)) (.one (codR (.i .i64))),fun a=>a.1.length≤1000000000000∧a.2.length≤1000000000000,fun a=> .si .i64 (cmpL a.1 a.2)⟩
def Λ32 (a:List Int×List Int):Nat→LoopAnn
 |2=> .inv Int (fun i=>⟨[(0,.row (.i .i64) a.1),(1,.row (.i .i64) a.2),(5,.si .i64 i)],[]⟩) (fun s=>iS s 5)
  (fun i=>0≤i∧i≤a.1.length∧i≤a.2.length∧cmpL a.1 a.2=cmpL (a.1.drop i.toNat) (a.2.drop i.toNat)) (fun i=>(a.1.length - i).toNat) fun _ _=> .look
 |_=> .look
theorem h32:Holds Try.prog r32:=by
 refine con (L:=[]) r32 F32 Λ32 (OwnOK.none _) (by simp) (by kernel_rfl) (by kernel_rfl) (fun _=>rfl) ?_
 rintro⟨a,b⟩ ⟨ha,hb⟩
 refine vcOf (let z0:=SV.row (SId.i .i64) a;let z1:=SV.row (SId.i .i64) b;let z2:=SV.il .i64 0;let z3:=(↑a.length:Int);let z4:=(↑b.length:Int);let z5:=(↑a.length:Int);let z6:=(↑b.length:Int);let z7:=SV.si .i64 (cmpL a b);(((z0.same z0∧z1.same z1∧z2.same (SV.si .i64 0)∧True)∧True)∧(0:Int)≤(0:Int)∧(0:Int)≤z3∧(0:Int)≤z4∧cmpL a b=cmpL a b)∧∀(x:Int),let z8:=nthD a x.toNat (0:Int);let z9:=nthD b x.toNat (0:Int);let z10:=x+(1:Int);let z11:=SV.si .i64 z10;(0:Int)≤x∧x≤z3∧x≤z4∧cmpL a b=cmpL (List.drop x.toNat a) (List.drop x.toNat b)→(decide (x<z5)=true→(decide (x<z6)=true→(0:Int)≤x∧x<z5∧x.toNat<a.length∧(0:Int)≤x∧x<z6∧x.toNat<b.length∧(decide (z8<z9)=true→(SV.il .i64 (-1:Int)).same z7)∧(decide (z8<z9)=false→(0:Int)≤x∧x<z5∧x.toNat<a.length∧(0:Int)≤x∧x<z6∧x.toNat<b.length∧(decide (z9<z8)=true→(SV.il .i64 1).same z7)∧(decide (z9<z8)=false→inR .i64 z10∧((z0.same z0∧z1.same z1∧z11.same z11∧True)∧True)∧((0:Int)≤z10∧z10≤z3∧z10≤z4∧cmpL a b=cmpL (List.drop z10.toNat a) (List.drop z10.toNat b))∧(z3 - z10).toNat<(z3 - x).toNat)))∧(decide (x<z6)=false→(decide (z5<z6)=true→(SV.il .i64 (-1:Int)).same z7)∧(decide (z5<z6)=false→(decide (z6<z5)=true→(SV.il .i64 1).same z7)∧(decide (z6<z5)=false→z2.same z7))))∧(decide (x<z5)=false→(decide (z5<z6)=true→(SV.il .i64 (-1:Int)).same z7)∧(decide (z5<z6)=false→(decide (z6<z5)=true→(SV.il .i64 1).same z7)∧(decide (z6<z5)=false→z2.same z7)))) (by kernel_rfl) ?_
 conv=>zeta
 simp only at ha hb
 simp only[vcs]
 refine⟨⟨by omega,by omega,by omega⟩,?_⟩
 rintro i ⟨hi0,hia,hib,hi⟩
 refine⟨fun h1=>⟨fun h2=>?_,fun h2=>?_⟩,fun h1=>?_⟩
 ·rw[drop_nth (d:=0) hi0 h1,drop_nth (d:=0) hi0 h2] at hi
  simp only[cmpL] at hi
  refine⟨by omega,by omega,by omega,by omega,by omega,by omega,fun h3=>?_,fun h3=>⟨by omega,by omega,by omega,by omega,by omega,by omega,fun h4=>?_,fun h4=>⟨by omega,⟨by omega,by omega,by omega,?_⟩,by omega⟩⟩⟩
  ·rw[if_pos h3] at hi
   exact hi.symm
  ·rw[if_neg h3,if_pos h4] at hi
   exact hi.symm
  ·rw[if_neg h3,if_neg h4] at hi
   exact hi
 ·rw[drop_nth (d:=0) hi0 h1,show i.toNat=b.length from by omega,List.drop_length] at hi
  simp only[cmpL] at hi
  refine⟨by omega,fun h3=>⟨by omega,by omega⟩⟩
 ·rw[show i.toNat=a.length from by omega,List.drop_length] at hi
  refine⟨fun h2=>?_,fun h2=>⟨fun h3=>by omega,fun h3=>?_⟩⟩
  ·rw[←Int.toNat_natCast a.length,drop_nth (d:=0) (by omega) h2] at hi
   exact hi.symm
  ·rw[show a.length=b.length from by omega,List.drop_length] at hi
   exact hi.symm
theorem sum_cons {p:Prob} {x:Off} {L:List Off} {r:Int}:sumS p (x::L) r=coefS p r x+sumS p L r:=by simp[sumS]
def Bun.at (b:Bun) (k:Nat):Int:=nthD [b.a0,b.a1,b.a2,b.a3,b.a4,b.a5] k 0
def valN:List Int→Int
 |[]=>0
 |d::l=>d+4294967296*valN l
def Dig (a:List Int):Prop:=∀d∈a,0≤d∧d<4294967296
def digK:Nat→Int→List Int
 |0,_=>[]
 |k+1,x=>x % 4294967296::digK k (x / 4294967296)
theorem pow_pos (k:Nat):(0:Int)<4294967296^k:=Int.pow_pos (by decide)
def prt (U:List Int) (j k:Nat):List Int:=(U.drop j).take k
def wth (U:List Int) (j:Nat) (l:List Int):List Int:=U.take j++(l++U.drop (j+l.length))
section
variable {P V X v1 v2 u2 top rv ru g r:Int}
end
structure DgA where
 U:List Int
 j:Nat
 len:Nat
 n:Nat
 v:List Int
def DgA.x (a:DgA):Int:=valN (prt a.U a.j (a.v.length+1))
def DgA.ok (a:DgA):Prop:=(Dig a.U∧Dig a.v)∧(a.len=a.v.length+1∧a.n=a.U.length)∧(2≤a.v.length∧a.j+a.v.length+1≤a.U.length∧a.U.length≤200000000000)∧
 2147483648≤nthD a.v (a.v.length - 1) 0∧a.x<4294967296*valN a.v
def DgA.row (a:DgA):List Int:=wth a.U a.j (digK (a.v.length+1) (a.x % valN a.v))
def r334:SCtr:=⟨45,Int,.one (codI .i64),fun _=>True,fun _=> .sb false⟩
theorem h334:Holds Try.prog r334:=by
 refine con (L:=[]) r334 F334 (fun _ _=> .look) (OwnOK.none _) (by simp) (by kernel_rfl) (by kernel_rfl) (fun _=>rfl) ?_
 rintro(x:Int) -
 refine vcOf ((SV.sb (decide (x≠x))).same (SV.sb false)) (by kernel_rfl) ?_
 simp only[vcs]
 simp
def cmpI (x y:Int):Int:=if x<y then -1 else if y<x then 1 else 0
def r321:SCtr:=⟨26,Int×Int,.cons (codI .i64) (.one (codI .i64)),fun _=>True,fun a=> .si .i64 (cmpI a.1 a.2)⟩
theorem h321:Holds Try.prog r321:=by
 refine con (L:=[r334]) r321 F321 (fun _ _=> .look) (OwnOK.none _) (by simpa using h334) (by kernel_rfl) (by kernel_rfl) (fun _=>rfl) ?_
 rintro⟨x,y⟩ -
 refine vcOf (let z0:=SV.si .i64 (cmpI x y);True∧True∧(false=true→(false=true→(SV.il .i64 0).same z0)∧(false=false→(SV.il .i64 (-1:Int)).same z0))∧(false=false→(false=true→(SV.il .i64 1).same z0)∧(false=false→(decide (x<y)=true→(SV.il .i64 (-1:Int)).same z0)∧(decide (x<y)=false→(decide (y<x)=true→(SV.il .i64 1).same z0)∧(decide (y<x)=false→(SV.il .i64 0).same z0))))) (by kernel_rfl) ?_
 simp only[vcs]
 have h1:∀{X:Prop},(false=true)→X:=fun h=>absurd h (by decide)
 refine⟨fun h=>h1 h,fun _=>⟨fun h=>h1 h,fun _=>⟨fun h=>?_,fun h=>⟨fun h2=>?_,fun h2=>?_⟩⟩⟩⟩
 ·unfold cmpI;rw[if_pos h]
 ·unfold cmpI;rw[if_neg h,if_pos h2]
 ·unfold cmpI;rw[if_neg h,if_neg h2]
def totB (b:Bun):Int:=b.a0+b.a1+b.a2+b.a3+b.a4+b.a5
def r322:SCtr:=⟨27,Bun,.one (codE .bun),fun b=>b.ok=true,fun b=> .si .i64 (totB b)⟩
theorem h322:Holds Try.prog r322:=by
 refine con (L:=[]) r322 F322 (fun _ _=> .unroll 7) (OwnOK.none _) (by simp) (by kernel_rfl) (by kernel_rfl) (fun _=>rfl) ?_
 rintro(b:Bun) (h:b.ok=true)
 have h:=Bun.ok_iff.1 h
 refine vcOf (let z0:=(0:Int)+b.a0+b.a1;let z1:=z0+b.a2+b.a3+b.a4;inR .i64 ((0:Int)+b.a0)∧inR .i64 z0∧inR .i64 (z0+b.a2)∧inR .i64 (z0+b.a2+b.a3)∧inR .i64 z1∧inR .i64 (z1+b.a5)∧(SV.si .i64 (z1+b.a5)).same (SV.si .i64 (totB b))) (by kernel_rfl) ?_
 simp only[vcs]
 unfold totB
 omega
def oI (p:Prob) (i:Int):Off:=nthD p.offers i.toNat SId.off.dflt
def valO (p:Prob) (i:Int):Int:=(oI p i).value
def totO (p:Prob) (i:Int):Int:=totB (oI p i).want
def denI (p:Prob) (i:Int):Int:=valO p i*(5354228880 / totO p i)
def inO (p:Prob) (i:Int):Prop:=0≤i∧i<p.offers.length
theorem off_ok {p:Prob} (hc:checkE p=0) {i:Int} (h:inO p i):(1≤valO p i∧valO p i≤1000000)∧(1≤totO p i∧totO p i≤24)∧(oI p i).want.ok=true:=by
 obtain⟨h0,h1⟩:=h
 have hm:=nthD_mem (d:=SId.off.dflt) (show i.toNat<p.offers.length by omega)
 have hx:=(good_of hc).2.2.2.2 _ hm
 have ho:=(offer_zero ((check_zero hc).2 _ hm)).2.1
 have hk:=Bun.ok_iff.1 hx.2.2.1
 have hne:¬((oI p i).want.a0=0∧(oI p i).want.a1=0∧(oI p i).want.a2=0∧(oI p i).want.a3=0∧(oI p i).want.a4=0∧(oI p i).want.a5=0):=fun h=>ho (bun_eq.2 h)
 have hk:(0≤(oI p i).want.a0∧(oI p i).want.a0≤4)∧(0≤(oI p i).want.a1∧(oI p i).want.a1≤4)∧(0≤(oI p i).want.a2∧(oI p i).want.a2≤4)∧(0≤(oI p i).want.a3∧(oI p i).want.a3≤4)∧(0≤(oI p i).want.a4∧(oI p i).want.a4≤4)∧(0≤(oI p i).want.a5∧(oI p i).want.a5≤4):=hk
 refine⟨⟨hx.2.2.2.1,hx.2.2.2.2⟩,?_,hx.2.2.1⟩
 unfold totO totB
 omega
theorem div24 {t:Int} (h1:1≤t) (h2:t≤24):t*(5354228880 / t)=5354228880∧1≤5354228880 / t:=by
 have:t=1∨t=2∨t=3∨t=4∨t=5∨t=6∨t=7∨t=8∨t=9∨t=10∨t=11∨t=12∨t=13∨t=14∨t=15∨t=16∨t=17∨t=18∨t=19∨t=20∨t=21∨t=22∨t=23∨t=24:=by omega
 rcases this with rfl|rfl|rfl|rfl|rfl|rfl|rfl|rfl|rfl|rfl|rfl|rfl|rfl|rfl|rfl|rfl|rfl|rfl|rfl|rfl|rfl|rfl|rfl|rfl<;>decide
theorem den_lt {p:Prob} (hc:checkE p=0) {x y:Int} (hx:inO p x) (hy:inO p y):denI p x<denI p y↔valO p x*totO p y<valO p y*totO p x:=by
 obtain⟨vx,tx,_⟩:=off_ok hc hx
 obtain⟨vy,ty,_⟩:=off_ok hc hy
 obtain⟨dx,px⟩:=div24 tx.1 tx.2
 obtain⟨dy,py⟩:=div24 ty.1 ty.2
 unfold denI
 generalize 5354228880 / totO p x=qx at*
 generalize 5354228880 / totO p y=qy at*
 generalize valO p x=a at*
 generalize valO p y=b at*
 generalize totO p x=s at*
 generalize totO p y=t at*
 have hq:0<qx*qy:=Int.mul_pos (by omega) (by omega)
 have e1:(a*t)*(qx*qy)=(a*qx)*5354228880:=by rw[←dy];simp only[Int.mul_assoc,Int.mul_comm,Int.mul_left_comm]
 have e2:(b*s)*(qx*qy)=(b*qy)*5354228880:=by rw[←dx];simp only[Int.mul_assoc,Int.mul_comm,Int.mul_left_comm]
 constructor
 ·intro h
  have:(a*t)*(qx*qy)<(b*s)*(qx*qy):=by rw[e1,e2];omega
  exact Int.lt_of_mul_lt_mul_right this (by omega)
 ·intro h
  have:(a*t)*(qx*qy)<(b*s)*(qx*qy):=Int.mul_lt_mul_of_pos_right h hq
  rw[e1,e2] at this
  omega
def cmpO (p:Prob) (x y:Int):Int:=cmpI (valO p y*totO p x) (valO p x*totO p y)
theorem cmpO_neg {p:Prob} (hc:checkE p=0) {x y:Int} (hx:inO p x) (hy:inO p y):cmpO p x y<0↔denI p y<denI p x:=by
 rw[den_lt hc hy hx]
 unfold cmpO cmpI
 split
 ·simp[*]
 ·split<;>simp[*]
def r320:OCtr where
 f:=25
 α:=Int×Int×Prob
 put a:=[.si .i64 a.1,.si .i64 a.2.1,.ptr 0 0 20]
 st a:=[.cells a.2.2.ss 27 20 false]
 dec v o:=match v,o with
  |[x,y,.ptr 0 0 20],[.cells cs 27 20 false]=>match x.int .i64,y.int .i64,decProb cs with
   |some x,some y,some p=>some (x,y,p)
   |_,_,_=>none
  |_,_=>none
 ok v o a h:=by
  split at h
  ·split at h
   ·rename_i h1 h2 h3
    simp only[Option.some.injEq] at h;subst h
    refine⟨by simp only[gL,int_g h1,int_g h2];rfl,?_⟩
    simp only[gO,List.map_cons,List.map_nil,SObj.g,decProb_ok h3]
   ·cases h
  ·cases h
 inj a b h1 h2:=by
  simp only[gL,List.cons.injEq,and_true,SV.g,AV.sc.injEq,Value.int.injEq,true_and] at h1
  simp only[gO,List.map_cons,List.map_nil,SObj.g,List.cons.injEq,AObj.cells.injEq,and_true] at h2
  have h3:=codP.inj a.2.2 b.2.2 (by simp only[codP,SV.g,h2])
  exact Prod.ext h1.1 (Prod.ext h1.2 h3)
 dom a:=checkE a.2.2=0∧inO a.2.2 a.1∧inO a.2.2 a.2.1
 res a:=.si .i64 (cmpO a.2.2 a.1 a.2.1)
 out a:=[.cells a.2.2.ss 27 20 false]
theorem h320:HoldsO Try.prog r320:=by
 refine conO (L:=[r322,r321]) (W:=[]) r320 F320 (fun _ _=> .look) (by simp) (by simpa using⟨h322,h321⟩) (by kernel_rfl) (fun _=>rfl) (by kernel_rfl) ?_
 rintro⟨x,y,p⟩ ⟨hc,hx,hy⟩
 refine vcOf (let z0:=p.offers.length;let z1:=nthD p.offers x.toNat SId.off.dflt;let z2:=nthD p.offers y.toNat SId.off.dflt;let z3:=z2.value*totB z1.want;let z4:=z1.value*totB z2.want;let z5:=SObj.cells (Prob.ss p) 27 20 false;(0:Int)≤x∧x<(↑z0:Int)∧x.toNat<z0∧(0:Int)≤y∧y<(↑z0:Int)∧y.toNat<z0∧z1.want.ok=true∧inR .i64 z3∧z2.want.ok=true∧inR .i64 z4∧True∧(SV.si .i64 (cmpI z3 z4)).same (SV.si .i64 (cmpO p x y))∧z5.same z5∧True) (by kernel_rfl) ?_
 simp only[vcs]
 have hc:checkE p=0:=hc
 have hx:inO p x:=hx
 have hy:inO p y:=hy
 obtain⟨vx,tx,ox⟩:=off_ok hc hx
 obtain⟨vy,ty,oy⟩:=off_ok hc hy
 obtain⟨x0,x1⟩:=hx
 obtain⟨y0,y1⟩:=hy
 have hb:∀{v t:Int},1≤v∧v≤1000000→1≤t∧t≤24→ -9223372036854775808≤v*t∧v*t≤9223372036854775807:=fun {v t} h1 h2=>by
  have a:=Int.mul_nonneg (show 0≤v by omega) (show 0≤t by omega)
  have b:=Int.mul_le_mul h1.2 h2.2 (by omega) (show(0:Int)≤1000000 by omega)
  omega
 exact⟨x0,x1,by omega,y0,y1,by omega,ox,hb vy tx,oy,hb vx ty,rfl⟩
def p3:Prob:=⟨⟨1,1,0,0,0,0⟩,⟨1,1,0,0,0,0⟩,⟨0,0,0,0,0,0⟩,[0,0,0],[⟨0,⟨1,1,0,0,0,0⟩,10⟩,⟨1,⟨1,0,0,0,0,0⟩,6⟩,⟨2,⟨0,1,0,0,0,0⟩,6⟩]⟩
end Go.Vi
