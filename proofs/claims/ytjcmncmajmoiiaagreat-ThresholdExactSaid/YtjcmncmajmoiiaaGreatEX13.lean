/-
  Contracts: Solve of a linear program whose bounds are not negative and whose values are bounded.
  Conditions: none.
-/
import Derived.Test.YtjcmncmajmoiiaaGreatEX06
import Derived.Test.YtjcmncmajmoiiaaGreatEX09
import Derived.Test.YtjcmncmajmoiiaaGreatEX11
import Derived.Test.YtjcmncmajmoiiaaGreatEX10
import Derived.Test.YtjcmncmajmoiiaaGreatEX12
import Derived.Test.YtjcmncmajmoiiaaGreatEX07
import Derived.Test.YtjcmncmajmoiiaaGreatEX08
set_option maxRecDepth 100000
set_option maxHeartbeats 4000000
set_option linter.all false
open Bool renaming eq_false_iff->εt,and_eq_true->ζ
open Classical renaming not_not->Θ
open Go.Vi.AV renaming sl->ζ0,sc->δl,os->ζ4
open Go.Vi.AV.os renaming injEq->εP
open Go.Vi.AV.sc renaming injEq->γ4
open Go.Vi.SV renaming row->γc,si->γb,ow->δd,il->γy,sb->γG,bl->δs,agg->γK,ptr->γV
open Int renaming toNat_natCast->γq
open IntCast renaming intCast->γa
open List renaming replicate->ε,map_map->δr,map_congr_left->γX,length_map->γC,map->γk,length->γp,flatMap->ζT,elem->ζG,getElem_of_mem->δf,mem_map->γf,mem_append_left->δ6,mem_append->π,take->γe,all_eq_true->Φ,take_length->ψ,map_append->γd,map_cons->θ,sum_cons->δm,perm_ext_iff_of_nodup->δB,filter_sublist->δe,sum_append->ζZ,length_set->Ξ,getElem?_set_ne->δO,mem_of_mem_take->γn,range_eq_range'->δN,take_append_drop->Ψ,map_nil->γo,length_take->Ω,append_nil->γ1
open List.cons renaming injEq->τ
open Nat renaming le_refl->φ
open Option.some renaming injEq->γ
namespace Go.Vi
open Go.Proofs.YtjcmncmajmoiiaaGreat.Ir
open Go.Proofs
abbrev Lp:=List Rat×List (List Rat×Rat)
def iC (a:Lp):sX:=(fL a.1,a.2.map λr=>(fL r.1,bu r.2))
def lv (a:Lp):Tb:=⟨a.2.map (·.1),a.2.map (·.2),a.1,0,(dV a.2.length).map λi=>a.1.length+i,dV a.1.length⟩
def rR (a:Lp):Tb:={lv a with cost:=ε a.1.length 0}
theorem aeL {a:Lp}:Bf (iC a)=bG a.1.length a.2.length (rR a):=by
 unfold Bf iC bG rR lv;simp_all[jB,fM,fL]
structure Bg (a:Lp):Prop where
 n:a.1.length<=160
 m:a.2.length<=40
 small:∃M G,Small a.1.length a.2.length M G (lv a)
 yj:ko a.2.length (lv a)
 bnd:∃B,∀x z,(lv a).holds a.1.length a.2.length x z->(∀v∈(lv a).basic++(lv a).free,0<=x v)->z<=B
noncomputable def nS (a:Lp):Tb:=lastT a.1.length a.2.length (lv a)
theorem aeM {a:Lp} (h:Bg a):okO a.1.length a.2.length (lv a):=by
 obtain⟨M,G,b⟩:=h.small;exact⟨lv a,M,G,b,Run.refl b.wf b.nd,h.yj⟩
theorem aeN {a:Lp} (h:Bg a):Run a.1.length a.2.length (lv a) (nS a)/\ko a.2.length (nS a)/\ei (nS a) a.1.length<0:=by
 obtain⟨M,G,c⟩:=h.small;obtain⟨B,d⟩:=h.bnd;have b:=Run.refl c.wf c.nd;have:=K2 b h.yj;exact⟨this.1,this.2.1,Uu b h.yj d⟩
noncomputable def Ld:bM:=⟨152,sX,.one yF,λx=>∃a:Lp,x=iC a/\Bg a,λx=>
 let a:Lp:=(vL x.1,x.2.map λr=>(vL r.1,ck r.2));.bH [.agg [.si .i64 1,.sb (bu (nS a).value).1,.row (.i .u32) (bu (nS a).value).2.1,.row (.i .u32) (bu (nS a).value).2.2,.row sF (fL (gm (nS a) a.1.length a.2.length)),.row sF (fL (kT (nS a) a.1.length a.2.length a.1.length)),.row sF []],.si .i64 0]⟩
theorem aeO {a:Lp}:((vL (iC a).1,(iC a).2.map λr=>(vL r.1,ck r.2)):Lp)=a:=by
 obtain⟨g,b⟩:=a;unfold iC;simp only[mB,δr];congr 1;conv=>rhs;rw[<-List.map_id b]
 refine γX λr _=>?_;grind[mB,fe]
theorem aeP {a:Lp}:((iC a).1,(iC a).2)=iC a:=rfl
theorem UO {a:Lp}:vL (iC a).1=a.1:=mB _
theorem UP {a:Lp}:(iC a).2.map (λr=>(vL r.1,ck r.2))=a.2:=congrArg Prod.snd (@aeO a)
theorem aeQ {a:Lp}:({cj:=(rR a).cj,bound:=(rR a).bound,cost:=a.1,value:=0,basic:=(rR a).basic,free:=(rR a).free}:Tb)=lv a:=rfl
theorem aeR {a:Lp}:(iC a).1.length=a.1.length:=fS
theorem aeS {a:Lp}:(iC a).2.length=a.2.length:=γC _
theorem UQ {q:Rat} (h:Sz 1000000 q):nf (bu q)/\okF (bu q)=true:=by
 obtain⟨g,⟨c,_,e⟩,⟨b,_,f⟩⟩:=nJ q;obtain⟨a,d⟩:=qQ h;refine⟨⟨⟨c,b⟩,a,d⟩,?_⟩;grind[okF,fe]
theorem aeT {o:Store} {d:Nat} {acc:List Nat} {l:List bO}:cH o d (γk (λx:bO=>dO bn.b x.1++dO ((bn.i .u32).bK.pair (bn.i .u32).bK) x.2) l).flatten acc=acc:=zG λa c=>nA (s:=sF) (l:=l) c
theorem aeU {o:Store} {d:Nat} {acc:List Nat} {l:List (List bO)}:cH o d (γk (λx:List bO=>[ζ0 (γp x) (ζT (dO sF) x)]) l).flatten acc=acc:=zG λa b=>nA (s:=sF.bK) (l:=l) b
theorem aeV {o:Store} {d:Nat} {acc:List Nat} {l:List Int}:cH o d (γk (λx:Int=>γk δl (dK (bn.i .i64) x)) l).flatten acc=acc:=zG λa b=>nA (s:=bn.i .i64) (l:=l) b
theorem h395:Holds Tryz.prog Ld:=by
 refine ZF (L:=[K9]) (W:=fV [La,r400,Lc,K7,E9,Fa]) Ld (λf=>Nat.beq f E9.f||Nat.beq f Fa.f) lk (lg (by simpa using⟨h399,h400,h401,h402,h403,h405⟩)) (by simpa using h398) ?_;rintro x ⟨a,hx,hok⟩;subst hx;refine bQ (let c:=γc;let d:=bq.row;let e:=γb .i64;let f:=δd;let h:=bq.cells;let j:=γy .i64;let k:=(0:Int);let l:=γG;let o:=δs false;let p:=γK;let q:=SV.bH;let B:=(iC a).fst;let C:=(iC a).snd;let J:=h [c sF B,c sR C] 220 2 false;let Q:=j 0;let a1:=Value.slice none 0 0;let G:=SV.sc a1;let K:=h [Q,o,G,G,G,G,G] 224 7 false;let L:=Bf (B,C);let D:=bG L.n L.m L.t;let E:=bG D.n D.m (Tb.mk D.t.cj D.t.bound (vL B) (0:Rat) D.t.basic D.t.free);let a2:=lastT E.n.toNat E.m.toNat E.t;let s:=bG E.n E.m a2;let y:=bn.i .u32;let M:=s.v.snd.fst;let N:=s.v.snd.snd;let w:=bG s.n s.m s.t;let R:=w.v.snd.fst;let S:=w.v.snd.snd;let a3:=h [e w.n,e w.m,f 3 w.k0 1,f 4 w.k1 3,c sF w.cost,l w.v.fst,c y R,c y S,f 5 w.k3 1,f 6 w.k4 1] 267 10 false;let a4:=d sF.bK w.cj 91 false;let a5:=d sF w.bound 157 false;let z:=bn.i .i64;let a6:=d z w.basic 3 false;let a7:=d z w.free 3 false;let F:=c z [];let U:=γk (λ(r:List bO×bO) ↦(vL r.fst,ck r.snd)) C;let H:=nS (vL B,U);let z31:Nat:=(vL B).length;let a8:=e 0;let a9:=q [p [e 1,l (bu H.value).fst,c y (bu H.value).snd.fst,c y (bu H.value).snd.snd,c sF (fL (gm H z31 U.length)),c sF (fL (kT H z31 U.length z31)),c sF []],a8];let A:=bG w.n w.m w.t;let aa:=bP.cells [ζ0 B.length (γk (λ(x:sF.T) ↦dO bn.b x.fst++dO (y.bK.pair y.bK) x.snd) B).flatten,ζ0 C.length (γk (λ(x:sR.T) ↦dO sF.bK x.fst++dO sF x.snd) C).flatten] 220 2 false;let I:=δl a1;let ab:=bP.cells [δl (Value.int .i64 k),δl (Value.bool false),I,I,I,I,I] 224 7 false;let ac:=(γk (λ(x:sF.bK.T) ↦[ζ0 (γp x) (ζT (dO sF) x)]) s.cj).flatten;let ad:=(γk (λ(x:sF.T) ↦dO bn.b x.fst++dO (y.bK.pair y.bK) x.snd) s.bound).flatten;let ae:=(γk (λ(x:z.T) ↦γk δl (dK z x)) s.basic).flatten;let af:=(γk (λ(x:z.T) ↦γk δl (dK z x)) s.free).flatten;let O:=[aa,ab,bP.cells [δl (Value.int .i64 s.n),δl (Value.int .i64 s.m),ζ4 3 0 s.k0 (s.k0*1),ζ4 4 0 s.k1 (s.k1*3),ζ0 s.cost.length (γk (λ(x:sF.T) ↦dO bn.b x.fst++dO (y.bK.pair y.bK) x.snd) s.cost).flatten,δl (Value.bool s.v.fst),ζ0 M.length (γk (λ(x:y.T) ↦γk δl (dK y x)) M).flatten,ζ0 N.length (γk (λ(x:y.T) ↦γk δl (dK y x)) N).flatten,ζ4 5 0 s.k3 (s.k3*1),ζ4 6 0 s.k4 (s.k4*1)] 267 10 false,bP.cells ac 91 1 false,bP.cells ad 157 3 false,bP.cells ae 3 1 false,bP.cells af 3 1 false];let ag:=[2,3];let V:=cH O (nat_lit 396) ac ag;let W:=if ζG 4 V=true then V else cH O (nat_lit 395) ad (V++[4]);let X:=if ζG 5 W=true then W else cH O (nat_lit 390) ae (W++[5]);let ah:=(γk (λ(x:sF.bK.T) ↦[ζ0 (γp x) (ζT (dO sF) x)]) w.cj).flatten;let ai:=(γk (λ(x:sF.T) ↦dO bn.b x.fst++dO (y.bK.pair y.bK) x.snd) w.bound).flatten;let aj:=(γk (λ(x:z.T) ↦γk δl (dK z x)) w.basic).flatten;let ak:=(γk (λ(x:z.T) ↦γk δl (dK z x)) w.free).flatten;let P:=[aa,ab,bP.cells [δl (Value.int .i64 w.n),δl (Value.int .i64 w.m),ζ4 3 0 w.k0 (w.k0*1),ζ4 4 0 w.k1 (w.k1*3),ζ0 w.cost.length (γk (λ(x:sF.T) ↦dO bn.b x.fst++dO (y.bK.pair y.bK) x.snd) w.cost).flatten,δl (Value.bool w.v.fst),ζ0 R.length (γk (λ(x:y.T) ↦γk δl (dK y x)) R).flatten,ζ0 S.length (γk (λ(x:y.T) ↦γk δl (dK y x)) S).flatten,ζ4 5 0 w.k3 (w.k3*1),ζ4 6 0 w.k4 (w.k4*1)] 267 10 false,bP.cells ah 91 1 false,bP.cells ai 157 3 false,bP.cells aj 3 1 false,bP.cells ak 3 1 false];let Y:=cH P (nat_lit 396) ah ag;let Z:=if ζG 4 Y=true then Y else cH P (nat_lit 395) ai (Y++[4]);let a0:=if ζG 5 Z=true then Z else cH P (nat_lit 390) aj (Z++[5]);let al:=J.same J/\K.same K/\(h [e s.n,e s.m,f 3 s.k0 1,f 4 s.k1 3,c sF s.cost,l s.v.fst,c y M,c y N,f 5 s.k3 1,f 6 s.k4 1] 267 10 false).same a3/\(d sF.bK s.cj 91 false).same a4/\(d sF s.bound 157 false).same a5/\(d z s.basic 3 false).same a6/\(d z s.free 3 false).same a7/\True;let am:=∃(n:Int),∃(m:Int),∃(t:Tb),s=bG n m t/\kQ n m t/\∀(v:Int),v∈t.basic->k<=v;let an:=λ(u:Bool) ↦(!decide (ei a2 E.n.toNat<k))=u;let ao:=λ(u:Int) (u_1:SV) ↦false=true->(q [p [j u,o,F,F,F,F,F],u_1]).same a9;((B.length<=160/\C.length<=40)/\(∀(x:bO),x∈B->nf x/\okF x=true)/\∀(r:List bO×bO),r∈C->r.fst.length=B.length/\(∀(x:bO),x∈r.fst->nf x/\okF x=true)/\nf r.snd/\okF r.snd=true)/\ao k a8/\(false=false->(B.length<=1000/\C.length<=1000/\∀(r:List bO×bO),r∈C->r.fst.length<=1000)/\(∃(n:Int),∃(m:Int),∃(t:Tb),L=bG n m t/\kQ n m t/\ko m.toNat t)/\ao (2:Int) Q/\(false=false->(∃(n:Int),∃(m:Int),∃(t:Tb),D=bG n m t/\kQ n m t/\∃(g:List Rat),B=fL g/\g.length=n.toNat/\t.free=dV n.toNat/\∀(v:Int),v∈t.basic->n<=v)/\(∃(n:Int),∃(m:Int),∃(t:Tb),E=bG n m t/\kQ n m t/\okO n.toNat m.toNat t)/\(an true->am/\al/\False)/\(an false->am/\al/\(∃(n:Int),∃(m:Int),∃(t:Tb),w=bG n m t/\kQ n m t/\True)/\(J.same J/\K.same K/\a3.same (h [e A.n,e A.m,f 3 A.k0 1,f 4 A.k1 3,c sF A.cost,l A.v.fst,c y A.v.snd.fst,c y A.v.snd.snd,f 5 A.k3 1,f 6 A.k4 1] 267 10 false)/\a4.same (d sF.bK A.cj 91 false)/\a5.same (d sF A.bound 157 false)/\a6.same (d z A.basic 3 false)/\a7.same (d z A.free 3 false)/\True)/\if(((if ζG 6 X=true then X else cH O (nat_lit 389) af (X++[6])).all λ(i:Nat) ↦decide (i<7))&&(((if ζG 6 a0=true then a0 else cH P (nat_lit 389) ak (a0++[6])).all λ(i:Nat) ↦decide (i<7))&&true))=true then(q [p [j 1,l s.v.fst,c y M,c y N,c sF (fL (gm s.t s.n.toNat s.m.toNat)),c sF (fL (kT w.t w.n.toNat w.m.toNat w.n.toNat)),F],Q]).same a9 else False)))) (by kernel_rfl) ?_;simp only[aeP,aeL,sS,S7,S8,UO,UP,aeQ,aeR,aeS,γq];try simp only[vcs]
 obtain⟨M,G,hs⟩:=hok.small;obtain⟨r1,r2,r3⟩:=aeN hok;have hw:=hs.wf;have hz:=hs.vY (Run.refl hs.wf hs.nd);have hn:=hok.n;have hm:=hok.m;have hO:=aeM hok;have k1:kQ a.1.length a.2.length (lv a):=⟨⟨by omega,by omega⟩,by simpa using hw,hz⟩;have k0:kQ a.1.length a.2.length (rR a):=by
  refine⟨⟨by omega,by omega⟩,⟨hw.cj,hw.row,hw.bound,by simp[rR],hw.basic,hw.free⟩,hz.1,hz.2.1,λq hq=>?_,hz.2.2.2⟩;rw[(List.mem_replicate.1 hq).2];exact hz.2.2.2
 have k2:kQ a.1.length a.2.length (nS a):=Un hs (by simpa using r1) (by omega) (by omega);have hl:lastT a.1.length a.2.length (lv a)=nS a:=rfl;have Le:((a.1,a.2):Lp)=a:=rfl;simp only[hl,Le,aeT,aeU,aeV];have mem2:∀i,i<a.2.length->bj a.2 i ([],0)∈a.2:=λi hi=>cT hi;have hrow:∀r∈a.2,r.1.length=a.1.length/\(∀q∈r.1,Sz 1000000 q)/\Sz 1000000 r.2:=λr hr=>by
  obtain⟨i,hi,rfl⟩:=δf hr;have h1:=hw.row i hi;have e:bj (lv a).cj i []=a.2[i].1:=by
   show bj (a.2.map (·.1)) i []=_;rw[cO (by rw[γC];exact hi),List.getElem_map]
  rw[e] at h1;refine⟨h1,hz.1 _ (γf.2 ⟨a.2[i],hr,rfl⟩),hz.2.1 _ (γf.2 ⟨a.2[i],hr,rfl⟩)⟩
 have hg:∀q∈a.1,Sz 1000000 q:=hz.2.2.1;have hF:∀{l:List Rat},(∀q∈l,Sz 1000000 q)->∀x∈fL l,nf x/\okF x=true:=λh x hx=>by
  obtain⟨q,hq,rfl⟩:=γf.1 hx;exact UQ (h q hq)
 have hdg:(∀x∈(iC a).1,nf x/\okF x=true)/\∀r∈(iC a).2,r.1.length=a.1.length/\(∀x∈r.1,nf x/\okF x=true)/\nf r.2/\okF r.2=true:=by
  refine⟨hF hg,λr hr=>?_⟩;obtain⟨r0,hr0,rfl⟩:=γf.1 hr;obtain⟨h1,h2,h3⟩:=hrow r0 hr0;exact⟨by rw[<-h1];exact fS,hF h2,UQ h3⟩
 have hb0:∀v∈(nS a).basic,0<=v:=λv hv=>by
  have:=r1.perm.mem_iff.1 (δ6 _ hv);simp only[lv,π,γf,rN] at this;rcases this with⟨i,hi,rfl⟩|h;·omega
  ·exact h.1
 have hbn:∀v∈(rR a).basic,(a.1.length:Int)<=v:=λv hv=>by
  simp only[rR,lv,γf,rN] at hv;obtain⟨i,hi,rfl⟩:=hv;omega
 refine⟨⟨⟨hn,hm⟩,hdg.1,hdg.2⟩,λh=>(by cases h),λ_=>⟨⟨by omega,by omega,λr hr=>by have:=(hdg.2 r hr).1;omega⟩,⟨_,_,_,rfl,k0,by rw[γq];exact hok.yj⟩,λh=>(by cases h),λ_=>⟨⟨_,_,_,rfl,k0,a.1,rfl,by simp,rfl,hbn⟩,⟨_,_,_,rfl,k1,by simpa using hO⟩,λh=>absurd r3 h,λ_=>⟨⟨_,_,_,rfl,k2,hb0⟩,⟨_,_,_,rfl,k2⟩,?_⟩⟩⟩⟩;rw[if_pos (by decide)];rfl
theorem Lh {f:List Int} {d:Int} {i:Int} (h:0<=i) (c:i<f.length):bE (f.take (i+1).toNat) d=bE (f.take i.toNat) d++if bj f i.toNat 0=d then[i] else[]:=by
 have a:(f.take (i+1).toNat).length=i.toNat+1:=by grind
 have b:(f.take i.toNat).length=i.toNat:=by grind
 unfold bE;rw[a,b,yx,List.filter_append];have e:∀{k:Nat} {m:Nat},k<m->m<=f.length->bj (f.take m) k 0=bj f k 0:=λ{k m} c j=>by
  grind[cO]
 congr 1
 ·refine List.filter_congr λx g=>?_;grind[rN]
 grind
def jR (f:List Int):Bool:=f.all λx=>decide (-1<=x)&&decide (x<=1)
def kU (p:bp) (f:List Int):Int:=if bC p≠0 then bC p else if f.length≠p.offers.length then 3 else if jR f=true then 0 else 4
def Lj:bM:=⟨150,bp×List Int,.cons cZ (.one (dY (.i .i64))),λa=>a.2.length<=1000000000000,λa=> .si .i64 (kU a.1 a.2)⟩
def aeW (p:bp) (f:List Int):Nat->cB
 |7=> .inv Int (λi=>⟨[(19,.row (.i .i64) f),(20,.si .i64 f.length),(21,.si .i64 i)],[.cells p.ss 27 20 false]⟩)
   (λs=>iS s 21) (λi=>(0<=i/\i<=f.length)/\jR (f.take i.toNat)=true) (λi=>(f.length - i).toNat) λ_ _=> .look
 |_=> .look
theorem h393:Holds Tryz.prog Lj:=by
 refine cJ (L:=[pP]) Lj (λa=>aeW a.1 a.2) (by grind[h79]) ?_;rintro⟨p,f⟩ (D:f.length<=1000000000000);refine bQ (let a:=γb .i64;let d:=(0:Int);let g:=γy .i64;let v:=decide (bC p≠d);let e:=a (kU p f);let q:=(↑f.length:Int);let r:=decide (q≠(↑p.offers.length:Int));let n:=γc (bn.i .i64) f;let c:=(↑f.length:Int);let o:=a c;let w:=g 0;let m:=bq.cells (bp.ss p) 27 20 false;True/\(v=true->(a (bC p)).same e)/\(v=false->(r=true->(g 3).same e)/\(r=false->(((n.same n/\(a q).same o/\w.same (a 0)/\True)/\m.same m/\True)/\(d<=d/\d<=c)/\jR []=true)/\∀(x:Int),let s:=bj f x.toNat d;let l:=decide (s<(-1:Int));let j:=decide ((1:Int)<s);let b:=x+(1:Int);let k:=a b;(d<=x/\x<=c)/\jR (γe x.toNat f)=true->(decide (x<c)=true->d<=x/\x<q/\x.toNat<f.length/\(l=true->(g 4).same e)/\(l=false->(j=true->(g 4).same e)/\(j=false->bY .i64 b/\((n.same n/\o.same o/\k.same k/\True)/\m.same m/\True)/\((d<=b/\b<=c)/\jR (γe b.toNat f)=true)/\(c - b).toNat<(c - x).toNat)))/\(decide (x<c)=false->w.same e)))) (by kernel_rfl) ?_;simp only[vcs];refine⟨λh=>by simp[kU,h],λh=>?_⟩;have F:bC p=0:=Θ.1 h;refine⟨λy=>by
  grind[kU],λy=>⟨⟨⟨by omega,by omega⟩,rfl⟩,?_⟩⟩;have u:f.length=p.offers.length:=by omega
 rintro i ⟨⟨A,G⟩,g⟩;refine⟨λt=>?_,λt=>?_⟩
 ·have B:=cT (d:=0) (show i.toNat<f.length by omega);have H:=j8 (d:=0) A t;have z:¬(-1<=bj f i.toNat 0/\bj f i.toNat 0<=1)->(4:Int)=kU p f:=λE=>by
   have:jR f=false:=by
    rw[εt];intro C;have:=Φ.1 C _ B;grind
   grind[kU]
  grind[jR]
 ·rw[show i.toNat=f.length by omega,ψ] at g;grind[kU]
def kV (p:bp) (f:List Int):Int:=bV ((bE f 1).map (oI p))
theorem Ll {p:bp} (c:bC p=0) {f:List Int} {k:Nat} (g:f.length=p.offers.length):0<=kV p (f.take k)/\kV p (f.take k)<=160000000:=by
 have a:=dF c;have e:=@yC (f.take k) 1;have h:(f.take k).length<=f.length:=by grind
 have j:=@sG p a ((bE (f.take k) 1).map (oI p)) λx b=>by
  obtain⟨i,d,rfl⟩:=γf.1 b;have:=(mH.1 d).1;exact cT (by omega)
 have l:=a.2.1;grind[kV]
theorem aeX {p:bp} {f:List Int} {i:Int} (b:0<=i) (a:i<f.length):kV p (f.take (i+1).toNat)=kV p (f.take i.toNat)+if bj f i.toNat 0=1 then(oI p i).value else 0:=by
 unfold kV;rw[Lh b a,γd,o7];grind[bV]
def jC (p:bp) (f:List Int):Lp:=((dy p f).cost,(dV (mF p)).map λr=>((bE f 0).map λi=>((eU p r (oI p i):Int):Rat),((dD p r - cQ p ((bE f 1).map (oI p)) r:Int):Rat)))
theorem Fb {p:bp} {f:List Int}:lv (jC p f)=dy p f:=by
 simp_all[lv,jC,dy,dV]
def mI (p:bp) (f:List Int) (j:Nat):List bO:=fL (((bE f 0).take j).map λi=>(((oI p i).value:Int):Rat))
def nT (p:bp) (f:List Int) (r:Int) (j:Nat):List bO:=fL (((bE f 0).take j).map λi=>((eU p r (oI p i):Int):Rat))
def nU (p:bp) (f:List Int) (k:Nat):List (List bO×bO):=(dV k).map λr=>(nT p f r (bE f 0).length,bu ((dD p r - cQ p ((bE f 1).map (oI p)) r:Int):Rat))
theorem UR {p:bp} {f:List Int}:mI p f (bE f 0).length=(iC (jC p f)).1:=by
 unfold mI;rw[ψ];rfl
theorem US {p:bp} {f:List Int}:nU p f (mF p)=(iC (jC p f)).2:=by
 simp_all[nU,iC,jC,nT]
theorem Lm {p:bp} {f:List Int} {j:Nat} (h:j<=(bE f 0).length):(mI p f j).length=j:=by
 grind[mI,fS]
theorem UT {p:bp} {f:List Int} {r:Int} {j:Nat} (h:j<=(bE f 0).length):(nT p f r j).length=j:=by
 grind[nT,fS]
theorem UU {p:bp} {f:List Int} {k:Nat}:(nU p f k).length=k:=by
 grind[nU,jB]
theorem UW {l m:List Rat}:fL (l++m)=fL l++fL m:=γd
theorem aeY {p:bp} {f:List Int} {j:Int} (a:0<=j) (h:j<(bE f 0).length):mI p f (j+1).toNat=mI p f j.toNat++[bu (((oI p (bj (bE f 0) j.toNat 0)).value:Int):Rat)]:=by
 unfold mI;rw[j8 (d:=0) a h,γd,UW];rfl
theorem aeZ {p:bp} {f:List Int} {r j:Int} (a:0<=j) (h:j<(bE f 0).length):nT p f r (j+1).toNat=nT p f r j.toNat++[bu ((eU p r (oI p (bj (bE f 0) j.toNat 0)):Int):Rat)]:=by
 unfold nT;rw[j8 (d:=0) a h,γd,UW];rfl
theorem ae0 {p:bp} {f:List Int} {r:Int} (a:0<=r):nU p f (r+1).toNat=nU p f r.toNat++[(nT p f r (bE f 0).length,bu ((dD p r - cQ p ((bE f 1).map (oI p)) r:Int):Rat))]:=by
 unfold nU;rw[show(r+1).toNat=r.toNat+1 by omega,yx,γd,show((r.toNat:Nat):Int)=r by omega];rfl
def iD (p:bp) (f:List Int):Bool:=fF p ((bE f 1).map (oI p))
def ng (p:bp) (f:List Int):List bO×(List (List bO×bO)×List Int):=if iD p f=true then((iC (jC p f)).1,((iC (jC p f)).2,bE f 0)) else([],([],[]))
theorem ae1 {p:bp} {f:List Int} (h:iu p f):Bg (jC p f):=by
 have a:=dF h.1;have c:(jC p f).1.length=nF f:=by
  show((bE f 0).map _).length=_;simp_all
 have b:(jC p f).2.length=mF p:=by
  show((dV (mF p)).map _).length=_;grind[jB]
 have g:=@yC f 0;have i:mF p=p.classes.length+12:=rfl;refine⟨?_,?_,?_,?_,?_⟩;·rw[c];have:=h.2.1;have:=a.2.1;grind
 ·rw[b];have:=a.1;omega
 ·grind[Fb,E4]
 ·grind[Fb,K6]
 ·rw[c,b,Fb];exact⟨_,λx z d e=>UA h d e⟩
theorem ae2 {p:bp} {f:List Int}:nS (jC p f)=fh p f:=by
 have b:(jC p f).1.length=nF f:=by
  show((bE f 0).map _).length=_;simp_all
 have a:(jC p f).2.length=mF p:=by
  show((dV (mF p)).map _).length=_;grind[jB]
 grind[nS,fh,Fb]
noncomputable def jS (p:bp) (f:List Int) (k:Nat):List Rat:=(dV f.length).map λi=>if bj f i.toNat 0=1 then 1 else if i∈(bE f 0).take k then bj (gm (fh p f) (nF f) (mF p)) ((bE f 0).idxOf i) 0 else 0
noncomputable def jT (p:bp) (f:List Int):Rat:=((kV p f:Int):Rat)+(fh p f).value
noncomputable def yG (p:bp) (f:List Int):List Rat:=kT (fh p f) (nF f) (mF p) (nF f)
theorem yH {p:bp} {f:List Int} {k:Nat}:(jS p f k).length=f.length:=by
 grind[jS,jB]
theorem Fe {p:bp} {f:List Int} {k i:Nat} (h:i<f.length):bj (jS p f k) i 0=if bj f i 0=1 then 1 else if(i:Int)∈(bE f 0).take k then bj (gm (fh p f) (nF f) (mF p)) ((bE f 0).idxOf (i:Int)) 0 else 0:=by
 unfold jS;rw[K3 (e:=0) (by grind[jB]),K4 h,γq]
theorem ae3 {l m:List Rat} (a:l.length=m.length) (h:∀i,i<m.length->bj l i 0=bj m i 0):l=m:=List.ext_getElem a λi b c=>by
 grind[cO]
theorem ae4 {p:bp} {f:List Int} {k:Nat} (b:k<nF f):(jS p f k).set (bj (bE f 0) k 0).toNat (bj (gm (fh p f) (nF f) (mF p)) k 0)=jS p f (k+1):=by
 have g:=mH.1 (cT (d:=0) b);refine ae3 (by grind[yH]) λi a=>?_;rw[yH] at a;have c:(bE f 0).idxOf (bj (bE f 0) k 0)=k:=pV (wj.imp λh=>by omega) b;have e:(bE f 0).take (k+1)=(bE f 0).take k++[bj (bE f 0) k 0]:=by simp_all[cO]
 rw[sQ (by grind[yH]),Fe a,Fe a,e];grind
theorem ae5 {p:bp} {f:List Int} {i:Nat} (h:i<f.length):bj (jS p f 0) i 0=if bj f i 0=1 then 1 else 0:=by
 grind[Fe]
def jU (p:bp) (f:List Int):Bool:=decide (kU p f=0)&&iD p f
noncomputable def kq (p:bp) (f:List Int):bO:=if jU p f=true then bu (jT p f) else(false,([],[]))
noncomputable def qW (p:bp) (f:List Int):List bO:=if jU p f=true then fL (yG p f) else[]
noncomputable def kr (p:bp) (f:List Int):List bO:=if jU p f=true then fL (jS p f (nF f)) else[]
noncomputable def ae6 (p:bp) (f:List Int):SV:=.agg [.sb (jU p f),.sb (kq p f).1,.row (.i .u32) (kq p f).2.1,.row (.i .u32) (kq p f).2.2,.row sF (qW p f),.row sF (kr p f)]
theorem Ln {t:List Int} {g:Int->Int}:∀{l:List Int},((l.filter λx=>decide (x∈t)).map g).sum=(l.map λx=>if x∈t then g x else 0).sum
 |[]=>rfl
 |x::l=>by
  simp only[List.filter_cons,θ,δm];by_cases h:x∈t;·rw[if_pos (decide_eq_true h),if_pos h,θ,δm,Ln]
  ·rw[if_neg (by simpa using h),if_neg h,Ln];omega
theorem Lq {t:List Int} {g:Int->Int}:∀{l:List Int},nL (λx=>((g x:Int):Rat)*(if x∈t then 1 else 0)) l=(((l.map λx=>if x∈t then g x else 0).sum:Int):Rat)
 |[]=>rfl
 |x::l=>by
  have:=@Lq t g l;simp only[nL,this,θ,δm,Rat.intCast_add];congr 1;split<;>simp_all
theorem Lr {p:bp}:∀{l:List Int},bV (l.map (oI p))=(l.map λi=>(oI p i).value).sum
 |[]=>rfl
 |x::l=>by
  have:=@Lr p l;grind[bV]
section
variable {p:bp} {f t:List Int}
theorem UX (k:jR f=true) (u:f.length=p.offers.length) (e:fz p.offers.length t) (j:∀i∈t,bj f i.toNat 0≠ -1) (r:∀i∈bE f 1,i∈t) (g:Int->Int):
  (t.map g).sum=((bE f 1).map g).sum+((bE f 0).map λx=>if x∈t then g x else 0).sum:=by
 have l:t.Perm (bE f 1++(bE f 0).filter λx=>decide (x∈t)):=by
  refine(δB (EY e) ?_).2 λx=>?_
  ·rw[List.nodup_append];refine⟨wj.imp λh=>by omega,(wj.sublist δe).imp λh=>by omega,λa s b o m=>?_⟩;grind[mH]
  ·rw[π,List.mem_filter,decide_eq_true_eq];constructor
   ·intro c;have v:=e.2 x c;have q:=j x c;have n:=Φ.1 k _ (cT (d:=0) (show x.toNat<f.length by omega));simp only[ζ,decide_eq_true_eq] at n;grind[mH]
   grind
 rw[Ug (l.map g),γd,ζZ,Ln]
theorem wq (l:List Int) (r:Int):cQ p (l.map (oI p)) r=(l.map λi=>eU p r (oI p i)).sum:=by
 unfold cQ;rw[δr];rfl
theorem weak (h:iu p f) (s:jR f=true) (z:fz p.offers.length t) (a:fF p (t.map (oI p))=true) (u:∀i∈t,bj f i.toNat 0≠ -1) (A:∀i∈bE f 1,i∈t):((bV (t.map (oI p)):Int):Rat)<=jT p f:=by
 obtain⟨l,E,r⟩:=rQ h;have d:∀g:Int->Int,cy (nF f) (λj=>((g (bj (bE f 0) j 0):Int):Rat)*(if bj (bE f 0) j 0∈t then(1:Rat) else 0))=(((t.map g).sum - ((bE f 1).map g).sum:Int):Rat):=λg=>by
  have e:=@vV (λx=>((g x:Int):Rat)*(if x∈t then(1:Rat) else 0)) (bE f 0);rw[Lq] at e;rw[UX s h.2.1 z u A g];grind
 have q:=asg_holds (n:=nF f) (m:=mF p) (t:=dy p f) qV A8 (y:=λj=>if bj (bE f 0) j 0∈t then(1:Rat) else 0);have B:(dy p f).value+cy (nF f) (λj=>(dy p f).cs j*(if bj (bE f 0) j 0∈t then(1:Rat) else 0))=((bV (t.map (oI p)) - kV p f:Int):Rat):=by
  grind[dy,dZ,E1,kV,Lr]
 rw[B] at q;have o:∀v∈(dy p f).basic++(dy p f).free,0<=jO (nF f) (dy p f) (λj=>if bj (bE f 0) j 0∈t then(1:Rat) else 0) v:=λv b=>by
  rcases π.1 b with b|b
  ·obtain⟨i,k,rfl⟩:=ym qV b;rw[pg qV A8 k,A7 k,dZ (g:=λj=>((eU p i (oI p (bj (bE f 0) j 0)):Int):Rat)*(if bj (bE f 0) j 0∈t then(1:Rat) else 0)) λj c=>by rw[A6 k c],d λx=>eU p i (oI p x),<-wq,<-wq];have C:=o6.1 a i (by grind[dj]);have w:0<=(dD p i - cQ p ((bE f 1).map (oI p)) i) - (cQ p (t.map (oI p)) i - cQ p ((bE f 1).map (oI p)) i):=by omega
   have D:=E5 w;simp_all
  grind[yl,qV,ou,A8]
 have:=l.best r q λj c=>o _ (l.perm.mem_iff.1 (List.mem_append_right _ (yk l.wf c)));grind[jT]
end
theorem UY {t:Tb} {n j:Nat} (b:j<n):∀{k:Nat},(∀i,i<k->0<=t.bv i)->(∃i,i<k/\t.bv i=j/\bj (gm t n k) j 0=t.bd i)\/((∀i,i<k->t.bv i≠j)/\bj (gm t n k) j 0=0)
 |0,_=> .inr ⟨λi a=>by omega,by
   grind[gm,cO]⟩
 |k+1,h=>by
  have e:=h k (by omega);have d:=@UY t n j b k λi a=>h i (by omega);unfold gm;by_cases c:t.bv k<n
  ·rw[if_pos c,sQ (by grind[E8])];grind
  grind
section
variable {p:bp} {f:List Int}
noncomputable def qa (p:bp) (f:List Int):Int->Rat:=jO (nF f) (fh p f) λ_=>0
theorem optX_holds (h:iu p f):(dy p f).holds (nF f) (mF p) (qa p f) (fh p f).value:=by
 obtain⟨a,_,_⟩:=rQ h;have b:=asg_holds a.wf a.gY (y:=λ_=>0);rw[dZ (g:=λ_=>0) λj _=>by grind,kN] at b;have c:=(a.nM _ _).1 b;rwa [show(fh p f).value+0=(fh p f).value by grind] at c
theorem Ls (h:iu p f) {i:Nat} (b:i<mF p):qa p f ((fh p f).bv i)=(fh p f).bd i:=by
 obtain⟨a,_,_⟩:=rQ h;unfold qa;rw[pg a.wf a.gY b,dZ (g:=λ_=>0) λj _=>by grind,kN];grind
theorem Lt (h:iu p f) {j:Nat} (b:j<nF f):qa p f ((fh p f).fv j)=0:=by
 obtain⟨a,_,_⟩:=rQ h;unfold qa;rw[ou a.wf a.gY b]
theorem Ff (h:iu p f) {v:Int} (a:v∈(dy p f).basic++(dy p f).free):(∃i,i<mF p/\(fh p f).bv i=v)\/∃j,j<nF f/\(fh p f).fv j=v:=by
 obtain⟨b,_,_⟩:=rQ h;rw[<-b.perm.mem_iff,π] at a;rcases a with a|a;·exact .inl (ym b.wf a)
 ·exact .inr (yl b.wf a)
theorem Lu (h:iu p f) {v:Int} (c:v∈(dy p f).basic++(dy p f).free):0<=qa p f v:=by
 obtain⟨_,b,_⟩:=rQ h;rcases Ff h c with⟨i,a,rfl⟩|⟨j,d,rfl⟩
 ·rw[Ls h a];exact b i a
 grind[Lt]
theorem Lx {j:Nat} (a:j<nF f):(j:Int)∈(dy p f).basic++(dy p f).free:=by
 have:=yk (n:=nF f) (m:=mF p) (t:=dy p f) qV a;grind[E2]
theorem ae7 (h:iu p f) {i:Nat} (b:i<mF p):0<=(fh p f).bv i:=by
 obtain⟨a,_,_⟩:=rQ h;have c:=a.perm.mem_iff.1 (δ6 _ (AH a.wf b));grind[ym,qV,aei,yl,E2]
theorem ae8 (h:iu p f) {j:Nat} (c:j<nF f):bj (gm (fh p f) (nF f) (mF p)) j 0=qa p f j:=by
 rcases @UY (fh p f) (nF f) j c (mF p) λi b=>ae7 h b with⟨i,d,a,g⟩|⟨d,a⟩;·grind[Ls]
 ·rw[a];rcases Ff h (Lx c) with⟨i,b,e⟩|⟨k,l,e⟩<;>grind[Ff,Lx,Lt]
theorem ae9 (h:iu p f) {j:Nat} (a:j<nF f):qa p f j<=1:=by
 have:=Uz h (optX_holds h) (λv b=>Lu h b) a;grind[E2]
theorem afa (h:iu p f):(∀i,i<mF p->Sz 1000 ((fh p f).bd i))/\(∀j,j<nF f->Sz 1000 ((fh p f).cs j))/\Sz 1000 (fh p f).value:=have a:=(E4 h).Um (rQ h).1;⟨a.1,a.2.1,a.2.2.1⟩
theorem UZ (q:Rat) (h:q=0\/q=1):Sz 1000 q:=by
 have a:Sz 1 q:=by rcases h with rfl|rfl<;>exact⟨by decide,by decide⟩
 exact a.mono (by omega)
theorem afb (h:iu p f) {v:Int} (a:v∈(dy p f).basic++(dy p f).free):Sz 1000 (qa p f v):=by
 grind[Ff,Ls,afa,Lt,UZ]
noncomputable def dA (p:bp) (f:List Int):List Rat:=jS p f (nF f)
theorem rT:(dA p f).length=f.length:=yH
theorem Bh (h:iu p f) (c:jR f=true) {i:Nat} (b:i<f.length):(bj f i 0=1/\bj (dA p f) i 0=1)\/(bj f i 0= -1/\bj (dA p f) i 0=0)\/(bj f i 0=0/\(i:Int)∈bE f 0/\(bE f 0).idxOf (i:Int)<nF f/\bj (dA p f) i 0=qa p f ((bE f 0).idxOf (i:Int))):=by
 have g:=Φ.1 c _ (cT (d:=0) b);simp only[ζ,decide_eq_true_eq] at g;unfold dA;rw[Fe b,ψ];rcases(show bj f i 0=1\/bj f i 0= -1\/bj f i 0=0 by omega) with a|a|a;·simp_all
 ·simp_all[mH]
 ·have e:(i:Int)∈bE f 0:=mH.2 ⟨by omega,by simp_all⟩;have j:(bE f 0).idxOf (i:Int)<nF f:=List.idxOf_lt_length_of_mem e;simp_all[ae8]
theorem Fg (h:iu p f) (a:jR f=true) {i:Nat} (b:i<f.length):0<=bj (dA p f) i 0/\bj (dA p f) i 0<=1/\Sz 1000 (bj (dA p f) i 0):=by
 rcases Bh h a b with⟨_,e⟩|⟨_,e⟩|⟨_,_,c,e⟩;all_goals grind[UZ,Lu,Lx,ae9,afb]
theorem sY (h:iu p f) (c:jR f=true) {i:Nat} (b:i<f.length) (d:0<bj (dA p f) i 0) (a:bj (dA p f) i 0<1):bj f i 0=0:=by
 grind[Bh]
def eA (x:List Rat):List Int:=(dV x.length).filter λi=>decide (0<bj x i.toNat 0)
theorem yI {x:List Rat} {i:Int}:i∈eA x↔(0<=i/\i<x.length)/\0<bj x i.toNat 0:=by
 simp_all[eA,rN]
theorem U0 {x:List Rat}:fz x.length (eA x):=⟨AZ.sublist δe,λi a=>(yI.1 a).1⟩
def nh (x:List Rat):Bool:=x.all λq=>decide (q.den=1)
theorem afc {q:Rat} (h:q.den=1):q=(q.num:Rat):=by
 grind[Rat.mkRat_self,Rat.mkRat_one]
theorem afd {q:Rat} (c:q.den=1) (b:0<=q) (a:q<=1):q=0\/q=1:=by
 rw[afc c] at b a ⊢;have f:0<=q.num:=by exact_mod_cast b
 have d:q.num<=1:=by exact_mod_cast a
 rcases(show q.num=0\/q.num=1 by omega) with e|e<;>simp_all
theorem afe {t:List Int} (a:jR f=true) (c:f.length=p.offers.length) (h:fz p.offers.length t) (b:∀i∈t,bj f i.toNat 0≠ -1) (d:∀i∈bE f 1,i∈t) (g:Int->Int):cy (nF f) (λj=>((g (bj (bE f 0) j 0):Int):Rat)*(if bj (bE f 0) j 0∈t then(1:Rat) else 0))=(((t.map g).sum - ((bE f 1).map g).sum:Int):Rat):=by
 have e:=@vV (λx=>((g x:Int):Rat)*(if x∈t then(1:Rat) else 0)) (bE f 0);rw[Lq] at e;rw[UX a c h b d g];grind
theorem U1 (h:iu p f) (t:jR f=true) (F:nh (dA p f)=true):fF p ((eA (dA p f)).map (oI p))=true/\((bV ((eA (dA p f)).map (oI p)):Int):Rat)=jT p f:=by
 have n:=h.2.1;have z:=@rT p f;have q:∀i:Nat,i<f.length->bj (dA p f) i 0=0\/bj (dA p f) i 0=1:=λi o=>by
  obtain⟨O,J,_⟩:=Fg h t o;have:=Φ.1 F _ (cT (d:=0) (show i<(dA p f).length by omega));simp_all[afd]
 have B:fz p.offers.length (eA (dA p f)):=by
  grind[U0]
 have A:∀i∈eA (dA p f),bj f i.toNat 0≠ -1:=λi x K=>by
  grind[yI,Bh]
 have D:∀i∈bE f 1,i∈eA (dA p f):=λi x=>by
  grind[mH,yI,Bh]
 have G:∀j,j<nF f->(if bj (bE f 0) j 0∈eA (dA p f) then(1:Rat) else 0)=qa p f ((dy p f).fv j):=λj c=>by
  obtain⟨C,L⟩:=yD h c;have E:(bE f 0).idxOf (bj (bE f 0) j 0)=j:=pV (wj.imp λh=>by omega) c;have M:((((bj (bE f 0) j 0).toNat:Nat)):Int)=bj (bE f 0) j 0:=by omega
  have e:bj (dA p f) (bj (bE f 0) j 0).toNat 0=qa p f j:=by
   grind[Bh]
  rw[E2 c,<-e];rcases q (bj (bE f 0) j 0).toNat (by omega) with l|l;·simp_all[yI]
  ·rw[l,if_pos];grind[yI]
 obtain⟨v,w⟩:=optX_holds h;have k:=afe t n B A D;refine⟨o6.2 λy b=>?_,?_⟩
 ·obtain⟨r,m⟩:∃r:Int,r=(y:Int):=⟨_,rfl⟩;rw[<-m] at b ⊢;have I:0<=r:=by omega
  have a:r.toNat<mF p:=by unfold dj at b;grind
  have s:=v r.toNat a;rw[dZ (g:=λj=>((eU p r (oI p (bj (bE f 0) j 0)):Int):Rat)*(if bj (bE f 0) j 0∈eA (dA p f) then(1:Rat) else 0)) λj c=>by grind[A6],k λi=>eU p r (oI p i),A7 a,show((r.toNat:Nat):Int)=r by omega] at s;have N:=Lu h (δ6 _ (AH qV a));rw[<-wq,<-wq] at s;have l:((cQ p ((eA (dA p f)).map (oI p)) r - cQ p ((bE f 1).map (oI p)) r:Int):Rat)<=((dD p r - cQ p ((bE f 1).map (oI p)) r:Int):Rat):=by grind
  have H:cQ p ((eA (dA p f)).map (oI p)) r - cQ p ((bE f 1).map (oI p)) r<=dD p r - cQ p ((bE f 1).map (oI p)) r:=by exact_mod_cast l
  omega
 ·have u:(dy p f).value=0:=rfl;rw[u,dZ (g:=λj=>(((oI p (bj (bE f 0) j 0)).value:Int):Rat)*(if bj (bE f 0) j 0∈eA (dA p f) then(1:Rat) else 0)) λj c=>by grind[E1],k λi=>(oI p i).value] at w;grind[jT,kV,Lr]
end
abbrev qX:=Int×(Int×(Int×(Int×List bO)))
@[reducible] def eI:bn:=.pair (.i .i64) (.pair (.i .i64) (.pair (.i .i64) (.pair (.i .i64) (.bK sF))))
def zN:qX:=(0,(0,(0,(0,[]))))
def Fh:qX:=(3,(0,(0,(0,[]))))
noncomputable def Ly (p:bp) (f:List Int):qX:=(1,(0,(0,(0,fL (yG p f)))))
def ku (k o:Int):qX:=(2,(k,(o,(o+1,[]))))
structure cK where
 ch:List Int
 val:Int
 found:Bool
 prf:List qX
 err:Int
def dW (en:Int->Bool) (s:cK) (a:Alloc):cK:=if s.val<a.value then⟨a.chosen,a.value,s.found||en a.value,s.prf,s.err⟩ else s
def ni (q:Rat):Rat:=if q<0 then -q else q
def jh (x:List Rat):Nat->Option (Int×Rat)
 |0=>none
 |k+1=>if 0<bj x k 0/\bj x k 0<1 then(match jh x k with
   |none=>some ((k:Int),ni (bj x k 0 - 1 / 2))
   |some (i,l)=>if ni (bj x k 0 - 1 / 2)<l then some ((k:Int),ni (bj x k 0 - 1 / 2)) else some (i,l)) else jh x k
def jD (x:List Rat):Option Int:=(jh x x.length).map (·.1)
theorem LA {x:List Rat}:∀{k:Nat} {i:Int} {l:Rat},jh x k=some (i,l)->(0<=i/\i<k)/\(0<bj x i.toNat 0/\bj x i.toNat 0<1)/\l=ni (bj x i.toNat 0 - 1 / 2)
 |0,i,l,h=>by cases h;|k+1,i,l,h=>by
  unfold jh at h;have b:some ((k:Int),ni (bj x k 0 - 1 / 2))=some (i,l)->(0<bj x k 0/\bj x k 0<1)->(0<=i/\i<((k+1:Nat):Int))/\(0<bj x i.toNat 0/\bj x i.toNat 0<1)/\l=ni (bj x i.toNat 0 - 1 / 2):=λh f=>by
   grind
  have a:jh x k=some (i,l)->(0<=i/\i<((k+1:Nat):Int))/\(0<bj x i.toNat 0/\bj x i.toNat 0<1)/\l=ni (bj x i.toNat 0 - 1 / 2):=λh=>by
   obtain⟨c,d,e⟩:=LA h;grind
  grind
theorem U2 {x:List Rat}:∀{k:Nat},jh x k=none->∀i,i<k->¬(0<bj x i 0/\bj x i 0<1)
 |0,_,i,a=>by omega;|k+1,h,i,a=>by
  unfold jh at h;split at h;·grind
  ·rename_i b;by_cases e:i=k;·simp_all
   ·exact U2 h i (by omega)
theorem sZ {x:List Rat} {k:Int} (h:jD x=some k):(0<=k/\k<x.length)/\0<bj x k.toNat 0/\bj x k.toNat 0<1:=by
 unfold jD at h;obtain⟨⟨i,l⟩,b,a⟩:=Option.map_eq_some_iff.1 h;simp only at a;subst a;obtain⟨c,d,_⟩:=LA b;simp_all
theorem aff {x:List Rat} (h:jD x=none):∀i,i<x.length->¬(0<bj x i 0/\bj x i 0<1):=U2 (Option.map_eq_none_iff.1 h)
noncomputable def px (p:bp) (f:List Int):Alloc:=⟨eA (dA p f),bV ((eA (dA p f)).map (oI p))⟩
noncomputable def di (p:bp) (en:Int->Bool) (s:cK) (f:List Int):cK:=if((s.val+1:Int):Rat)<=jT p f/\nh (dA p f)=true then dW en s (px p f) else s
def gA (s:cK) (a k:Int):cK:={s with prf:=(s.prf++[zN,zN]).set a.toNat (ku k s.prf.length)}
noncomputable def fD (p:bp) (en:Int->Bool) (most:Int) (b:cK->Int->List Int->cK) (s:cK) (a:Int) (f:List Int):cK:=
 if s.err≠0\/s.found=true then s
 else if iD p f=false then {s with prf:=s.prf.set a.toNat Fh}
 else if jT p f<(((di p en s f).val+1:Int):Rat) then {di p en s f with prf:=(di p en s f).prf.set a.toNat (Ly p f)}
 else match jD (dA p f) with
  |none=>{di p en s f with err:=12}
  |some k=>if most<(di p en s f).prf.length+2 then {di p en s f with err:=12}
   else b (b (gA (di p en s f) a k) ((di p en s f).prf.length+1) (f.set k.toNat 1)) (di p en s f).prf.length (f.set k.toNat (-1))
noncomputable def dE (p:bp) (en:Int->Bool) (most:Int):Nat->cK->Int->List Int->cK
 |0=>fD p en most λs _ _=>s
 |n+1=>fD p en most (dE p en most n)
structure eY (p:bp) (f:List Int):Prop where
 c:bC p=0
 l:f.length=p.offers.length
 r:jR f=true
theorem eY.ok {p:bp} {f:List Int} (h:eY p f) (a:iD p f=true):iu p f:=⟨h.c,h.l,a⟩
theorem eY.e {p:bp} {f:List Int} (h:eY p f):kU p f=0:=by
 unfold kU;rw[if_neg (by simp[h.c]),if_neg (by simp[h.l]),if_pos h.r]
theorem eY.jU {p:bp} {f:List Int} (h:eY p f):jU p f=iD p f:=by
 unfold Go.Vi.jU;rw[h.e];simp
theorem U3 {f:List Int} {k:Nat} {d:Int} (h:jR f=true) (a: -1<=d/\d<=1):jR (f.set k d)=true:=by
 grind[jR]
theorem eY.set {p:bp} {f:List Int} (h:eY p f) {k:Nat} {d:Int} (a: -1<=d/\d<=1):eY p (f.set k d):=⟨h.c,by rw[Ξ];exact h.l,U3 h.r a⟩
theorem mJ {f:List Int} {k d:Int} (i:0<=k/\k<f.length) (l:bj f k.toNat 0=0) (g:d≠0):nF f=nF (f.set k.toNat d)+1:=by
 have c:(bE f 0).Perm (k::bE (f.set k.toNat d) 0):=by
  refine(δB (wj.imp λh=>by omega) ?_).2 λx=>?_
  ·rw[List.nodup_cons];refine⟨λj=>?_,wj.imp λh=>by omega⟩;simp_all[mH,sQ]
  ·rw[List.mem_cons,mH,mH,Ξ];constructor
   ·rintro⟨a,b⟩;by_cases e:x=k;·exact .inl e
    ·exact .inr ⟨a,by rw[sQ (by omega),if_neg (by omega)];exact b⟩
   grind[sQ]
 have:=c.length_eq;omega
theorem Fj {en:Int->Bool} {s:cK} {a:Alloc}:(dW en s a).prf=s.prf/\(dW en s a).err=s.err/\s.val<=(dW en s a).val/\((dW en s a).val=s.val\/(dW en s a).val=a.value)/\((dW en s a).ch=s.ch\/(dW en s a).ch=a.chosen):=by
 grind[dW]
theorem Fo {p:bp} {en:Int->Bool} {s:cK} {f:List Int}:(di p en s f).prf=s.prf/\(di p en s f).err=s.err/\s.val<=(di p en s f).val/\((di p en s f).val=s.val\/(di p en s f).val=(px p f).value)/\((di p en s f).ch=s.ch\/(di p en s f).ch=(px p f).chosen):=by
 grind[di,Fj]
theorem afg {x:List Rat}:(eA x).length<=x.length:=by
 have:=List.length_filter_le (λi:Int=>decide (0<bj x i.toNat 0)) (dV x.length);rw[jB] at this;exact this
theorem afh {p:bp} {f:List Int} (b:f.length=p.offers.length):∀x∈(eA (dA p f)).map (oI p),x∈p.offers:=λx a=>by
 obtain⟨i,c,rfl⟩:=γf.1 a;have:=(yI.1 c).1;rw[rT,b] at this;exact cT (by omega)
theorem U4 {p:bp} {f:List Int} (h:eY p f):0<=(px p f).value/\(px p f).value<=160000000/\(px p f).chosen.length<=160:=by
 have a:=dF h.c;have b:=@sG p a ((eA (dA p f)).map (oI p)) (afh h.l);have d:=@afg (dA p f);rw[rT,h.l] at d;have e:=a.2.1;rw[γC] at b;refine⟨b.1,?_,?_⟩
 ·show bV _<=_;omega
 ·show(eA (dA p f)).length<=160;omega
theorem U5 {p:bp} (a:bC p=0) {c:List Int} (h:fz p.offers.length c):dp p c=0↔fF p (c.map (oI p))=true:=by
 simp_all[EZ,j9,eE,dp]
theorem yJ {p:bp} (a:bC p=0) {c:List Int} (h:fz p.offers.length c):dI p c=bV (c.map (oI p)):=by
 simp_all[eE,EZ,dI]
theorem rU {p:bp} {en:Int->Bool} {most:Int}:∀{n:Nat} {s:cK} {a:Int} {f:List Int},eY p f->s.prf.length<=(dE p en most n s a f).prf.length/\((dE p en most n s a f).prf.length<=most\/(dE p en most n s a f).prf.length=s.prf.length)/\s.val<=(dE p en most n s a f).val/\((dE p en most n s a f).val=s.val\/(dE p en most n s a f).val<=160000000)/\((dE p en most n s a f).ch=s.ch\/(dE p en most n s a f).ch.length<=160)/\((dE p en most n s a f).err=s.err\/(dE p en most n s a f).err=12):=by
 have d:∀{b:cK->Int->List Int->cK},(∀{s:cK} {a:Int} {f:List Int},eY p f->s.prf.length<=(b s a f).prf.length/\((b s a f).prf.length<=most\/(b s a f).prf.length=s.prf.length)/\s.val<=(b s a f).val/\((b s a f).val=s.val\/(b s a f).val<=160000000)/\((b s a f).ch=s.ch\/(b s a f).ch.length<=160)/\((b s a f).err=s.err\/(b s a f).err=12))->
   ∀{s:cK} {a:Int} {f:List Int},eY p f->s.prf.length<=(fD p en most b s a f).prf.length/\((fD p en most b s a f).prf.length<=most\/(fD p en most b s a f).prf.length=s.prf.length)/\s.val<=(fD p en most b s a f).val/\((fD p en most b s a f).val=s.val\/(fD p en most b s a f).val<=160000000)/\((fD p en most b s a f).ch=s.ch\/(fD p en most b s a f).ch.length<=160)/\((fD p en most b s a f).err=s.err\/(fD p en most b s a f).err=12):=by
  intro b c s a f h;obtain⟨v,j,E,l,r⟩:=@Fo p en s f;obtain⟨H,A,L⟩:=U4 h;have w:(di p en s f).ch=s.ch\/(di p en s f).ch.length<=160:=r.imp id λh=>by simp_all
  have x:(di p en s f).val=s.val\/(di p en s f).val<=160000000:=l.imp id λh=>by omega
  unfold fD;split;·simp_all
  split;·simp_all
  split;·simp_all
  split;·simp_all
  rename_i k J;split;·simp_all
  rename_i o;have F:(gA (di p en s f) a k).prf.length=s.prf.length+2:=by
   simp_all[gA]
  obtain⟨D,K,u,z,e,t⟩:=@c (gA (di p en s f) a k) ((di p en s f).prf.length+1) (f.set k.toNat 1) (h.set (by omega));obtain⟨B,C,G,I,g,M⟩:=@c (b (gA (di p en s f) a k) ((di p en s f).prf.length+1) (f.set k.toNat 1)) (di p en s f).prf.length (f.set k.toNat (-1)) (h.set (by omega));have i:(gA (di p en s f) a k).val=(di p en s f).val:=rfl;have m:(gA (di p en s f) a k).ch=(di p en s f).ch:=rfl;have q:(gA (di p en s f) a k).err=(di p en s f).err:=rfl;rw[v] at o;rw[i] at u z;rw[m] at e;rw[q,j] at t;refine⟨by omega,.inl (by omega),by omega,by omega,?_,?_⟩
  ·rcases g with g|g
   ·rw[g];rcases e with e|e<;>simp_all
   omega
  omega
 intro n;induction n with
 |zero=>exact d λ{s a f} _=>⟨φ _,.inr rfl,Int.le_refl _,.inl rfl,.inl rfl,.inl rfl⟩;|succ n y=>exact d λh=>y h
inductive mK (p:bp) (v:Int) (t:List qX):Nat->List Int->Nat->Nat->Prop
 |bnd {a:Nat} {f:List Int} {lo:Nat}:t[a]?=some (Ly p f)->iD p f=true->jT p f<((v+1:Int):Rat)->mK p v t a f lo lo
 |con {a:Nat} {f:List Int} {lo:Nat}:t[a]?=some Fh->iD p f=false->mK p v t a f lo lo
 |Bi {a:Nat} {f:List Int} {lo mid hi:Nat} {k:Int}:t[a]?=some (ku k lo)->a<lo->(0<=k/\k<f.length)->bj f k.toNat 0=0->mK p v t (lo+1) (f.set k.toNat 1) (lo+2) mid->mK p v t lo (f.set k.toNat (-1)) mid hi->mK p v t a f lo hi
section
variable {p:bp} {v v':Int} {t t':List qX} {a lo hi:Nat} {f:List Int}
theorem mK.le (h:mK p v t a f lo hi):lo<=hi:=by
 induction h with
 |bnd _ _ _=>omega;|con _ _=>omega;|Bi _ _ _ _ _ _ b c=>omega
theorem mK.mono (h:mK p v t a f lo hi) (q:v<=v') (e:∀i,i=a\/(lo<=i/\i<hi)->t'[i]?=t[i]?):mK p v' t' a f lo hi:=by
 induction h with
 |bnd c b d=>
  refine .bnd (by simp_all) b ?_;have:((v+1:Int):Rat)<=((v'+1:Int):Rat):=by exact_mod_cast (show v+1<=v'+1 by omega)
  grind;|con c b=>exact .con (by simp_all) b;|Bi c b d l k g m j=>
  have o:=k.le;have n:=g.le;exact .Bi (by simp_all) b d l (m λi hi=>e i (by omega)) (j λi hi=>e i (by omega))
def Fp (f:List Int) (l:List Int):Prop:=(∀i∈l,bj f i.toNat 0≠ -1)/\∀i∈bE f 1,i∈l
theorem U6 {l:List Int} {k d:Int} (g:0<=k/\k<f.length) (m:bj f k.toNat 0=0) (e:∀i∈l,0<=i) (h:Fp f l) (j:(d=1/\k∈l)\/(d= -1/\k∉l)):Fp (f.set k.toNat d) l:=by
 obtain⟨b,c⟩:=h;refine⟨λi a=>?_,λi a=>?_⟩<;>grind[sQ,mH]
theorem afi {l m:List Int} (e:bC p=0) (f:∀i∈l,0<=i/\i<p.offers.length) (q:m.Nodup) (j:∀i∈m,i∈l) (o:l.Nodup) (h:fF p (l.map (oI p))=true):fF p (m.map (oI p))=true:=by
 refine o6.2 λr b=>?_;have d:=o6.1 h r b;have a:l.Perm (m++l.filter λi=>decide (i∉m)):=by
  grind
 have g:cQ p (l.map (oI p)) r=cQ p (m.map (oI p)) r+cQ p ((l.filter λi=>decide (i∉m)).map (oI p)) r:=by
  rw[wq,wq,wq,Ug (a.map _),γd,ζZ]
 have n:=@ua p r ((l.filter λi=>decide (i∉m)).map (oI p)) λx c=>by
  obtain⟨i,k,rfl⟩:=γf.1 c;simp_all[pr]
 omega
theorem mK.sound (h:mK p v t a f lo hi) (e:eY p f) {l:List Int} (d:fz p.offers.length l) (b:fF p (l.map (oI p))=true) (g:Fp f l):bV (l.map (oI p))<=v:=by
 induction h with
 |bnd o n m=>
  have j:=weak (e.ok n) e.r d b g.1 g.2;have s:((bV (l.map (oI p)):Int):Rat)<((v+1:Int):Rat):=by grind
  have u:bV (l.map (oI p))<v+1:=by exact_mod_cast s
  omega;|con o n=>
  exfalso;have:=afi e.c d.2 (wj.imp λh=>by omega) g.2 (EY d) b;grind[iD];|@Bi a f lo y hi k o n m j s u x w=>
  by_cases q:k∈l;·exact x (e.set (by omega)) (U6 m j (λi hi=>(d.2 i hi).1) g (.inl ⟨rfl,q⟩))
  ·exact w (e.set (by omega)) (U6 m j (λi hi=>(d.2 i hi).1) g (.inr ⟨rfl,q⟩))
end
theorem U7 {p:bp} {en:Int->Bool} {most:Int}:∀{n:Nat} {s:cK} {a:Int} {f:List Int},eY p f->nF f<=n->(0<=a/\a<s.prf.length)->(dE p en most n s a f).err=0->(dE p en most n s a f).found=false->
  mK p (dE p en most n s a f).val (dE p en most n s a f).prf a.toNat f s.prf.length (dE p en most n s a f).prf.length/\(∀i:Nat,i<s.prf.length->i≠a.toNat->(dE p en most n s a f).prf[i]?=s.prf[i]?)/\s.err=0/\s.found=false:=by
 have y:∀{b:cK->Int->List Int->cK} {s:cK} {a:Int} {f:List Int},eY p f->(0<=a/\a<s.prf.length)->
   (∀{s:cK} {a:Int} {g:List Int},eY p g->nF f=nF g+1->(0<=a/\a<s.prf.length)->s.prf.length<=(b s a g).prf.length/\s.val<=(b s a g).val/\((b s a g).err=0->(b s a g).found=false->mK p (b s a g).val (b s a g).prf a.toNat g s.prf.length (b s a g).prf.length/\(∀i:Nat,i<s.prf.length->i≠a.toNat->(b s a g).prf[i]?=s.prf[i]?)/\s.err=0/\s.found=false))->
   (fD p en most b s a f).err=0->(fD p en most b s a f).found=false->mK p (fD p en most b s a f).val (fD p en most b s a f).prf a.toNat f s.prf.length (fD p en most b s a f).prf.length/\(∀i:Nat,i<s.prf.length->i≠a.toNat->(fD p en most b s a f).prf[i]?=s.prf[i]?)/\s.err=0/\s.found=false:=by
  intro b s a f t C q e c;obtain⟨D,e2,e3,e4,e5⟩:=@Fo p en s f;have B:a.toNat<s.prf.length:=by omega
  unfold fD at e c ⊢;split at e;·simp_all
  rename_i x;have G:s.err=0/\s.found=false:=by simpa using x
  rw[if_neg x] at c ⊢;split at e
  ·rename_i m;rw[if_pos m];refine⟨?_,λi u j=>?_,G⟩
   ·rw[Ξ];exact .con (by simp_all) m
   ·show(s.prf.set a.toNat Fh)[i]?=_;rw[δO (λh=>j h.symm)]
  rename_i m;rw[if_neg m] at c ⊢;have O:iD p f=true:=by simpa using m
  split at e
  ·rename_i w;rw[if_pos w];refine⟨?_,λi u j=>?_,G⟩
   ·rw[Ξ,D];refine .bnd ?_ O w;simp_all
   ·show((di p en s f).prf.set a.toNat _)[i]?=_;rw[δO (λh=>j h.symm),D]
  rename_i w;rw[if_neg w] at c ⊢;cases A:jD (dA p f) with
  |none=>simp_all;|some k=>
  rw[A] at e c;simp only at e c ⊢;split at e;·simp at e
  rename_i Q;rw[if_neg Q] at c ⊢;obtain⟨l,K,L⟩:=sZ A;rw[rT] at l;have v:bj f k.toNat 0=0:=sY (t.ok O) t.r (by omega) K L;have n1:=mJ l v (d:=1) (by omega);have Y:=mJ l v (d:= -1) (by omega);have T:eY p (f.set k.toNat 1):=t.set (by omega);have f2:eY p (f.set k.toNat (-1)):=t.set (by omega);have S:(gA (di p en s f) a k).prf.length=s.prf.length+2:=by
   simp_all[gA]
  rw[D] at e c ⊢;obtain⟨l1,v1,t1⟩:=@q (gA (di p en s f) a k) ((s.prf.length:Int)+1) (f.set k.toNat 1) T n1 (by omega);generalize R:b (gA (di p en s f) a k) ((s.prf.length:Int)+1) (f.set k.toNat 1)=I at*;obtain⟨l2,V,Z⟩:=@q I (s.prf.length:Int) (f.set k.toNat (-1)) f2 Y (by omega);generalize X:b I (s.prf.length:Int) (f.set k.toNat (-1))=P at*;obtain⟨N,F,U,w2⟩:=Z e c;obtain⟨J,H,w3,w4⟩:=t1 U w2;have M:∀i:Nat,i<s.prf.length+2->(gA (di p en s f) a k).prf[i]?=if i=a.toNat then some (ku k s.prf.length) else(s.prf++[zN,zN])[i]?:=λi u=>by
   unfold gA;simp only[D];rw[List.getElem?_set];by_cases h:a.toNat=i;·simp_all
   ·rw[if_neg h,if_neg (λm=>h m.symm)]
  have E:((s.prf.length:Int)).toNat=s.prf.length:=by omega
  have z:((s.prf.length:Int)+1).toNat=s.prf.length+1:=by omega
  rw[E] at N F;rw[z] at J H;rw[S] at J H;have o:∀i:Nat,i<s.prf.length->P.prf[i]?=(gA (di p en s f) a k).prf[i]?:=λi u=>by rw[F i (by omega) (by omega),H i (by omega) (by omega)]
  refine⟨.Bi (k:=k) (mid:=I.prf.length) ?_ B l v ?_ N,λi u j=>?_,G⟩;·rw[o _ B,M _ (by omega),if_pos rfl]
  ·exact J.mono V λi u=>F i (by omega) (by omega)
  ·rw[o i u,M i (by omega),if_neg j,List.getElem?_append_left u]
 intro n;induction n with
 |zero=>
  intro s a f t W C e c;exact y t C (λ{s a g} _ h _=>by omega) e c;|succ n ih=>
  intro s a f t W C e c;refine y t C (λ{s a g} x m w=>?_) e c;have A:=@rU p en most n s a g x;exact⟨A.1,A.2.2.1,λe c=>ih x (by omega) w e c⟩
theorem U8 {p:bp} {en:Int->Bool} {most:Int} {G:List Int->Int->Bool->Prop} (u:∀c w b q w',G c w b->dp p q=0->dI p q=w'->w<w'->G q w' (b||en w')):
  ∀{n:Nat} {s:cK} {a:Int} {f:List Int},eY p f->G s.ch s.val s.found->G (dE p en most n s a f).ch (dE p en most n s a f).val (dE p en most n s a f).found:=by
 have k:∀{d:cK->Int->List Int->cK},(∀{s:cK} {a:Int} {f:List Int},eY p f->G s.ch s.val s.found->G (d s a f).ch (d s a f).val (d s a f).found)->
   ∀{s:cK} {a:Int} {f:List Int},eY p f->G s.ch s.val s.found->G (fD p en most d s a f).ch (fD p en most d s a f).val (fD p en most d s a f).found:=by
  intro d e s a f i j;unfold fD;split;·exact j
  split;·exact j
  rename_i t;have y:iD p f=true:=by simp_all
  have m:G (di p en s f).ch (di p en s f).val (di p en s f).found:=by
   unfold di;split
   ·rename_i A;unfold dW;split
    ·rename_i o;obtain⟨z,B⟩:=U1 (i.ok y) i.r A.2;have g:fz p.offers.length (eA (dA p f)):=by
      have:=@U0 (dA p f);rw[rT,i.l] at this;exact this
     refine u _ _ _ _ _ j ?_ ?_ o;·exact(U5 i.c g).2 z
     ·exact yJ i.c g
    ·exact j
   ·exact j
  split;·exact m
  split;·exact m
  split;·exact m
  ·exact e (i.set (by omega)) (e (i.set (by omega)) m)
 intro n;induction n with
 |zero=>exact k λ_ h=>h;|succ n x=>exact k λv t=>x v t
theorem two_pow_pos (n:Nat):1<=2^n:=Nat.one_le_two_pow
theorem U9 {p:bp} {en:Int->Bool} {most:Int}:∀{n:Nat} {s:cK} {a:Int} {f:List Int},eY p f->nF f<=n->s.err=0->((s.prf.length+2^(nF f+1):Nat):Int)<=most+2->(dE p en most n s a f).err=0/\(dE p en most n s a f).prf.length+2<=s.prf.length+2^(nF f+1):=by
 have l:∀{c:cK->Int->List Int->cK} {s:cK} {a:Int} {f:List Int},eY p f->s.err=0->((s.prf.length+2^(nF f+1):Nat):Int)<=most+2->
   (∀{s:cK} {a:Int} {g:List Int},eY p g->nF f=nF g+1->s.err=0->((s.prf.length+2^(nF g+1):Nat):Int)<=most+2->(c s a g).err=0/\(c s a g).prf.length+2<=s.prf.length+2^(nF g+1))->
   (fD p en most c s a f).err=0/\(fD p en most c s a f).prf.length+2<=s.prf.length+2^(nF f+1):=by
  intro c s a f b t u C;obtain⟨L,J,T,X,e5⟩:=@Fo p en s f;have F:2<=2^(nF f+1):=by grind
  unfold fD;split;·omega
  split;·simp_all
  rename_i E N;have x:iD p f=true:=by simp_all
  split;·simp_all
  rename_i v;cases A:jD (dA p f) with
  |none=>
   exfalso;apply v;have o:nh (dA p f)=true:=by
    unfold nh;rw[Φ];intro q H;obtain⟨i,B,rfl⟩:=δf H;have w:=aff A i B;obtain⟨M,I,_⟩:=Fg (b.ok x) b.r (show i<f.length by grind[rT]);rw[cO B] at w M I;rcases(show(dA p f)[i]=0\/(dA p f)[i]=1 by grind) with e|e<;>simp_all
   obtain⟨Y,K⟩:=U1 (b.ok x) b.r o;have P:((px p f).value:Rat)=jT p f:=K;by_cases D:((s.val+1:Int):Rat)<=jT p f
   ·have O:s.val<(px p f).value:=by
     rw[<-P] at D;have:s.val+1<=(px p f).value:=by exact_mod_cast D
     omega
    have:(di p en s f).val=(px p f).value:=by
     simp_all[di,dW]
    grind
   grind;|some k=>
   simp only;obtain⟨j,z,y⟩:=sZ A;rw[rT] at j;have m:bj f k.toNat 0=0:=sY (b.ok x) b.r (by omega) z y;have n1:=mJ j m (d:=1) (by omega);have n2:=mJ j m (d:= -1) (by omega);have W:eY p (f.set k.toNat 1):=b.set (by omega);have Z:eY p (f.set k.toNat (-1)):=b.set (by omega);have V:(gA (di p en s f) a k).prf.length=s.prf.length+2:=by
    grind[gA]
   have U:2^(nF f+1)=2^(nF (f.set k.toNat 1)+1)+2^(nF (f.set k.toNat 1)+1):=by
    grind
   have ne:nF (f.set k.toNat (-1))=nF (f.set k.toNat 1):=by omega
   have Q:2<=2^(nF (f.set k.toNat 1)+1):=by omega
   rw[if_neg (by rw[L];omega)];have S:(gA (di p en s f) a k).err=0:=by show(di p en s f).err=0;rw[J,t]
   grind
 intro n;induction n with
 |zero=>
  intro s a f b G t u;exact l b t u λ{s a g} _ h _ _=>by omega;|succ n R=>
  intro s a f b G t u;exact l b t u λ{s a g} E N v w=>R E (by omega) v w
def Fq (p:iN) (lo:Nat) (Λ:Nat->cB):IR->cq->(cq->Prop)->Prop
 | .skip,b,K=>K b
 | .seq x y,b,K=>wpS p lo x Λ b λc a=>match c with
  | .norm=>Fq p lo Λ y a K
  |_=>False
 |_,_,_=>False
def Bj (p:iN) (Λ:Nat->cB) (F:fp) (args:List SV) (o:bX) (Q:SV->bX->Prop):Prop:=
 match F.body with
 | .tc g c d a b=>Fq p o.length Λ a ⟨nC 0 args,o⟩ λe=>wpS p e.o.length b Λ ⟨(d,.ud)::e.env,e.o⟩ λi j=>if ra i=true then
   (match p.it g with
    |some G=>if(c.map (jm e.env)).length=G.params/\G.res.isEmpty=true then wpS p j.o.length G.body (λn=>Λ (1000+n)) ⟨nC 0 (c.map (jm e.env)),j.o⟩ λf h=>if ra f=true then
      od ⟨j.env,h.o⟩ F.res λr=>if r.ca o.length&&h.o.all (λx=>x.ca o.length)&&decide (o.length<=h.o.length) then Q r (h.o.take o.length) else False
     else False else False
    |none=>False) else False
 |_=>False
section
variable {P:Program} {T:Tab} {p:iN} {Λ:Nat->cB}
theorem afj (i:pK T.K p.C) (j:∀f F,p.it f=some F->T.fn f=some F) {lo:Nat}:∀{a:IR} {st:cq} {K:cq->Prop},Fq p lo Λ a st K->∃s0:cq,(∃N,∀n,N<=n->q9 (exec T .plain n lo) a st.g=some s0.g)/\K s0:=by
 intro a;induction a with
 |skip=>intro st K h;exact⟨st,⟨0,λ_ _=>rfl⟩,h⟩;|seq x y _ d=>
  intro st K h;simp only[Fq] at h;obtain⟨c,s,⟨N,e⟩,r,rfl,b⟩:=vz i j h;cases c with
  |norm=>
   obtain⟨s0,⟨M,m⟩,k⟩:=d b;refine⟨s0,⟨N+M,λn o=>?_⟩,k⟩;simp only[q9,e n n (by omega) (by omega)];grind;|exit q=>exact b.elim;|ret=>exact b.elim;|goto l=>exact b.elim
 |_=>intro st K h;exact h.elim
theorem afk (J:kE P T) (u:pK T.K p.C) (n:∀f F,p.it f=some F->T.fn f=some F) {f:FuncId} {F:fp} (S:T.fn f=some F) {args:List SV} {o:bX} {r:AV} {o':Store} (V:T.K f (gL args) (gO o) true=none) (B:args.length=F.params)
  {Q:SV->bX->Prop} (A:∀v s,Q v s->v.g=r/\gO s=o') (h:Bj p Λ F args o Q):gU P f=true/\lB P f (gL args) (gO o) r o':=by
 unfold Bj at h;split at h
 ·rename_i g a d ia ib Z;obtain⟨b,h1,h⟩:=afj u n h;obtain⟨O,U,h2,c,rfl,h⟩:=vz u n h;split at h
  ·rename_i k;split at h
   ·rename_i G hG;split at h
    ·rename_i Y;obtain⟨D,I,h3,i,rfl,h⟩:=vz u n h;split at h
     ·rename_i j;obtain⟨t,k1,m⟩:=xr h;split at m
      ·rename_i y;simp only[ζ,decide_eq_true_eq,Φ] at y;obtain⟨⟨a2,L⟩,N⟩:=y;have R:(cq.mk (nC 0 args) o).g=⟨ic 0 (gL args),gO o⟩:=by simp[cq.g,vA]
       have w:(gO o).length=o.length:=oh o;have a1:b.g.o.length=b.o.length:=oh b.o;have a0:c.g.o.length=c.o.length:=oh c.o;have H:a.map (eC b.g.env)=gL (a.map (jm b.env)):=by
        rw[gi,δr];refine γX λx _=>?_;show eC (gE b.env) x=_;grind[zx]
       have z:(cq.mk ((d,.ud)::b.env) b.o).g=⟨(d,.ud)::b.g.env,b.g.o⟩:=by simp[cq.g,gE,SV.g]
       have E:(cq.mk (nC 0 (a.map (jm b.env))) c.o).g=⟨ic 0 (gL (a.map (jm b.env))),c.g.o⟩:=by simp[cq.g,vA]
       have W:(cq.mk c.env i.o).g=⟨c.g.env,i.g.o⟩:=rfl;have q:∀x∈gO i.o,x.ca o.length=true:=by
        grind[gO,CP]
       have l:finish true (gO o).length t.g i.g.o=some (r,o'):=by
        simp only[finish,if_true,w];have e:lQ o.length t.g i.g.o=some (t.g,(i.g.o).take o.length):=Pm (by grind[zy]) q (by show o.length<=(gO i.o).length;grind[oh]);rw[e,<-(A _ _ m).1,<-(A _ _ m).2];simp_all[cq.g,gO]
       obtain⟨X,M,_⟩:=YJ J S Z (own:=true) V (by grind[jL]) (s0:=b.g) (s2:=c.g) (s3:=i.g) (by simp_all) (by simp_all) k (n g G hG) (by grind) Y.2 (by simp_all) j (by simp_all) l;exact⟨X,M⟩
      ·exact m.elim
     ·exact h.elim
    ·exact h.elim
   simp_all
  ·exact h.elim
 simp_all
end
theorem Va {P:Program} {d:FuncId->Option fp} {L:List bM} {W:List cY} (c:cY) {F:fp} {k:TypeId->Option bn} {e:List Nat×Bool->Option (bn×bn)} {Λ:c.α->Nat->cB}
  (n:kE P ⟨d,λ_ _ _ _=>none⟩) (i:∀c∈W,dL P c) (o:∀c∈L,Holds P c)
  (l:d c.f=some F) (b:∀a,(c.put a).length=F.params)
  (a:c.α) (m:k9 c.f W=none)
  (h:Bj (l8 L (fV W) k e d) (Λ a) F (c.put a) (c.st a) λv s=>v.same (c.res a)/\jo s (c.out a)):
  gU P c.f=true/\lB P c.f (gL (c.put a)) (gO (c.st a)) (c.res a).g (gO (c.out a)):=by
 refine afk (p:=l8 L (fV W) k e d) (Λ:=Λ a) (Q:=λv s=>v.same (c.res a)/\jo s (c.out a)) (tZ (lg i) o n) (t6 (lg i)) (λ_ _ h=>h) l ?_ (b a) (λv s j=>⟨j.1,xq j.2⟩) h;simp_all[qC,sB,fV,t8]
theorem afl {k:Nat} {r a:AV} {o mid o2:Store} (c:r.bT o (λi=>decide (k<=i))=some a) (g:jk o (λi=>decide (k<=i)) o=some mid) (e:fJ (λi=>decide (k<=i)) 0 mid=o2) (f:a.ca k=true) (d:∀x∈o2,x.ca k=true) (l:k<=o2.length):lQ k r o=some (a,o2.take k):=by
 unfold lQ;rw[c,g];simp only[e];have m:∀x∈o2.take k,x.ca k=true:=λx h=>d x (γn h);rw[Pe (by grind[ec,Hz])];have j:iH.pB (List.range k)=true:=by rw[δN];exact nodup_range'
 rw[if_pos j,CW f];have b:=Hy (k:=k) (o:=o2) m l (n:=k) (s:=0) (by omega);rw[<-δN,List.drop_zero] at b;rw[b]
def Ft (k:Nat) (r:SV) (o:bX) (K:SV->bX->Prop):Prop:=
 lh o k r λb=>oZ o k 0 o λa=>if b.ca k&&a.all (λx=>x.ca k)&&decide (k<=a.length) then K b (a.take k) else False
theorem afm {k:Nat} {r:SV} {o:bX} {K:SV->bX->Prop} (h:Ft k r o K):∃r' o',lQ k r.g (gO o)=some (r'.g,gO o')/\K r' o':=by
 unfold Ft at h;obtain⟨l,p,f⟩:=HN h;obtain⟨c,i,n,m,a⟩:=xB f;split at a
 ·rename_i b;simp only[ζ,decide_eq_true_eq,Φ] at b;obtain⟨⟨d,j⟩,e⟩:=b;refine⟨l,c.take k,?_,a⟩;simp_all[afl,zy,gO,CP]
 simp_all
def Fv (p:iN) (Λ:Nat->cB) (F:fp) (args:List SV) (o:bX) (Q:SV->bX->Prop):Prop:=
 wpS p o.length F.body Λ ⟨nC 0 args,o⟩ λa b=>match a with
  | .exit _=>False
  | .goto _=>False
  |_=>od b F.res λr=>Ft o.length r b.o Q
theorem afn {P:Program} {T:Tab} {p:iN} {Λ:Nat->cB} (A:kE P T) (t:pK T.K p.C) (y:∀f F,p.it f=some F->T.fn f=some F) {f:FuncId} {F:fp} (n:T.fn f=some F) {args:List SV} {o:bX} {r:AV} {o':Store} (z:T.K f (gL args) (gO o) true=none) (j:args.length=F.params)
  {Q:SV->bX->Prop} (D:∀v s,Q v s->v.g=r/\gO s=o') (h:Fv p Λ F args o Q):gU P f=true/\lB P f (gL args) (gO o) r o':=by
 unfold Fv at h;have e:=vz t y h;have d:(cq.mk (nC 0 args) o).g=⟨ic 0 (gL args),gO o⟩:=by simp[cq.g,vA]
 rw[d] at e;have i:(gO o).length=o.length:=oh o;rw[<-i] at e;have x:∀(a:cq),(od a F.res λv=>Ft (gO o).length v a.o Q)->(nW a.g F.res).bind (λc=>finish true (gO o).length c a.g.o)=some (r,o'):=by
  intro a m;obtain⟨c,k,l⟩:=xr m;obtain⟨u,q,w,E⟩:=afm l;rw[k];simp only[Option.bind_some,finish,if_true];have:lQ (gO o).length c.g a.g.o=some (u.g,gO q):=w;grind
 obtain⟨k,l,_⟩:=Cf A n (o:=gO o) (own:=true) z (by grind[jL]) (v:=r) (o':=o') (e.mono λb s B=>by
  obtain⟨a,rfl,m⟩:=B;cases b<;>simp_all);simp_all
theorem afo {P:Program} {d:FuncId->Option fp} {L:List bM} {W:List cY} (c:cY) {F:fp} {k:TypeId->Option bn} {e:List Nat×Bool->Option (bn×bn)} {Λ:c.α->Nat->cB}
  (n:kE P ⟨d,λ_ _ _ _=>none⟩) (i:∀c∈W,dL P c) (o:∀c∈L,Holds P c)
  (l:d c.f=some F) (b:∀a,(c.put a).length=F.params)
  (a:c.α) (m:k9 c.f W=none)
  (h:Fv (l8 L (fV W) k e d) (Λ a) F (c.put a) (c.st a) λv s=>v.same (c.res a)/\jo s (c.out a)):
  gU P c.f=true/\lB P c.f (gL (c.put a)) (gO (c.st a)) (c.res a).g (gO (c.out a)):=by
 refine afn (p:=l8 L (fV W) k e d) (Λ:=Λ a) (Q:=λv s=>v.same (c.res a)/\jo s (c.out a)) (tZ (lg i) o n) (t6 (lg i)) (λ_ _ h=>h) l ?_ (b a) (λv s j=>⟨j.1,xq j.2⟩) h;simp_all[qC,sB,fV,t8]
structure dH where
 p:bp
 ch:List Int
 val:Int
 found:Bool
 en:Option Int
 k1:Nat
 k2:Nat
 most:Int
 err:Int
 prf:List qX
 fx:List Int
def dH.cs (x:dH) (e:SV) (i j:Nat):List SV:=[.row (.i .i64) x.ch,.si .i64 x.val,.sb x.found,e,.ow i x.k1 5,.ow j x.k2 1,.si .i64 x.most,.si .i64 x.err]
def dH.yK (x:dH):bX:=[.cells (x.p.ss++x.cs (.fn (.func 82) [] []) 1 2) 119 28 false,.row eI x.prf 93 true,.row (.i .i64) x.fx 3 true]
def dH.yL (x:dH) (m:Int):bX:=[.cells (x.p.ss++x.cs (.fn (.func 132) [] [.ptr 1 0 1]) 2 3) 119 28 false,.cells [.si .i64 m] 2 1 false,.row eI x.prf 93 true,.row (.i .i64) x.fx 3 true]
def dH.gK (x:dH):bX:=match x.en with
 |none=>x.yK
 |some m=>x.yL m
def LH:bX->Option dH
 |[.cells cs 119 28 false,.row s1 l1 93 true,.row s2 l2 3 true]=>match cs.drop 20 with
  |[c,v,b,.fn (.func 82) [] [],.ow 1 k1 5,.ow 2 k2 1,mo,er]=>match t7 (cs.take 20),gu (.i .i64) c,v.int .i64,b.boo,mo.int .i64,er.int .i64 with
   |some p,some c,some v,some b,some mo,some er=>match iI s1 eI l1,iI s2 (.i .i64) l2 with
    |some l1,some l2=>some ⟨p,c,v,b,none,k1,k2,mo,er,l1,l2⟩
    |_,_=>none
   |_,_,_,_,_,_=>none
  |_=>none
 |[.cells cs 119 28 false,.cells [m] 2 1 false,.row s1 l1 93 true,.row s2 l2 3 true]=>match cs.drop 20 with
  |[c,v,b,.fn (.func 132) [] [.ptr 1 0 1],.ow 2 k1 5,.ow 3 k2 1,mo,er]=>match t7 (cs.take 20),gu (.i .i64) c,v.int .i64,b.boo,mo.int .i64,er.int .i64 with
   |some p,some c,some v,some b,some mo,some er=>match iI s1 eI l1,iI s2 (.i .i64) l2,m.int .i64 with
    |some l1,some l2,some m=>some ⟨p,c,v,b,some m,k1,k2,mo,er,l1,l2⟩
    |_,_,_=>none
   |_,_,_,_,_,_=>none
  |_=>none
 |_=>none
theorem afp {o:bX} {x:dH} (h:LH o=some x):gO o=gO x.gK:=by
 unfold LH at h;split at h
 ·rename_i cs s1 l1 s2 l2;split at h
  ·rename_i c v b k1 k2 mo er hd;split at h
   ·rename_i p c' v' b' mo' er' h1 h2 h3 h4 h5 h6;split at h
    ·rename_i l1' l2' g1 g2;simp only[γ] at h;subst h;obtain⟨rfl,e1⟩:=nz g1;obtain⟨rfl,e2⟩:=nz g2;cases e1;cases e2;have e3:gL cs=gL p.ss++gL [c,v,b,.fn (.func 82) [] [],.ow 1 k1 5,.ow 2 k2 1,mo,er]:=by
      rw[<-hd,<-xw h1,<-tX,Ψ]
     simp only[dH.gK,dH.yK,dH.cs,gO,θ,γo,bq.g,tX,e3];simp only[gL,j7 h2,iw h3,vj h4,iw h5,iw h6,SV.g]
    ·cases h
   ·cases h
  ·cases h
 ·rename_i cs m s1 l1 s2 l2;split at h
  ·rename_i c v b k1 k2 mo er hd;split at h
   ·rename_i p c' v' b' mo' er' h1 h2 h3 h4 h5 h6;split at h
    ·rename_i l1' l2' m' g1 g2 g3;simp only[γ] at h;subst h;obtain⟨rfl,e1⟩:=nz g1;obtain⟨rfl,e2⟩:=nz g2;cases e1;cases e2;have e3:gL cs=gL p.ss++gL [c,v,b,.fn (.func 132) [] [.ptr 1 0 1],.ow 2 k1 5,.ow 3 k2 1,mo,er]:=by
      rw[<-hd,<-xw h1,<-tX,Ψ]
     simp only[dH.gK,dH.yL,dH.cs,gO,θ,γo,bq.g,tX,e3];simp only[gL,j7 h2,iw h3,vj h4,iw h5,iw h6,iw g3,SV.g]
    ·cases h
   ·cases h
  ·cases h
 ·cases h
theorem afu {p q:bp} (h:gL p.ss=gL q.ss):p=q:=cZ.inj p q (by grind[cZ,SV.g])
theorem afv {x y:dH} (h:gO x.gK=gO y.gK):x=y:=by
 obtain⟨p,E,u,b,J,H,G,k,o,A,L⟩:=x;obtain⟨B,n,d,a,l,r,v,c,f,q,C⟩:=y;have w:∀{e I:SV} {i j:Nat},gL (p.ss++(dH.mk p E u b J H G k o A L).cs e i j)=gL (B.ss++(dH.mk B n d a l r v c f q C).cs I i j)->p=B/\E=n/\u=d/\b=a/\H=r/\G=v/\k=c/\o=f:=by
  intro e I i j h;rw[tX,tX] at h;obtain⟨z,t⟩:=List.append_inj h (by rw[jL,jL];rfl);simp only[dH.cs,gL,SV.g,τ,γ4,Value.int.injEq,Value.bool.injEq,εP,AV.sl.injEq,and_true,true_and] at t;grind[afu,pn]
 cases J with
 |none=>
  cases l with
  |none=>
   simp only[dH.gK,dH.yK,gO,θ,γo,bq.g,τ,bP.cells.injEq,and_true] at h;obtain⟨z,t,D⟩:=h;obtain⟨rfl,rfl,rfl,rfl,rfl,rfl,rfl,rfl⟩:=w z;rw[pn (s:=eI) t,pn (s:=.i .i64) D];|some K=>
   have:=congrArg γp h;simp_all[dH.gK,dH.yK,dH.yL,gO]
 |some m=>
  cases l with
  |none=>
   have:=congrArg γp h;simp_all[dH.gK,dH.yK,dH.yL,gO];|some K=>
   simp only[dH.gK,dH.yL,gO,θ,γo,bq.g,τ,bP.cells.injEq,and_true] at h;obtain⟨z,F,t,D⟩:=h;obtain⟨rfl,rfl,rfl,rfl,rfl,rfl,rfl,rfl⟩:=w z;simp only[gL,SV.g,τ,γ4,Value.int.injEq,and_true,true_and] at F;subst F;rw[pn (s:=eI) t,pn (s:=.i .i64) D]
def Fz (f:FuncId) (c:Type) (A:qB c) (i:dH->c->Prop) (e:dH->c->SV) (out:dH->c->dH):cY where
 f:=f;α:=dH×c;put a:=.ptr 0 0 28::A.put a.2;st a:=a.1.gK;dec v o:=match v with
  | .ptr 0 0 28::r=>match LH o,A.dec r with
   |some s,some b=>some (s,b)
   |_,_=>none
  |_=>none;ok v o a h:=by
  split at h
  ·split at h
   ·rename_i d g;simp only[γ] at h;subst h;exact⟨by simp only[gL,A.ok _ _ g],afp d⟩
   ·cases h
  ·cases h
 inj a b d g:=by
  simp only[gL,τ,true_and] at d;exact Prod.ext (afv g) (A.inj _ _ d)
 dom a:=i a.1 a.2;res a:=e a.1 a.2;out a:=(out a.1 a.2).gK
def cu (e:Option Int) (v:Int):Bool:=match e with
 |none=>false
 |some m=>decide (m<=v)
def dH.s (x:dH):cK:=⟨x.ch,x.val,x.found,x.prf,x.err⟩
def dH.upd (x:dH) (s:cK):dH:=⟨x.p,s.ch,s.val,s.found,x.en,s.prf.length,x.k2,x.most,s.err,s.prf,x.fx⟩
structure fi (x:dH):Prop where
 f:eY x.p x.fx
 k1:x.k1=x.prf.length
 k2:x.k2=x.fx.length
 v0:0<=x.val
 v1:x.val<=9223372036854775806
 m0:1<=x.most
 m1:x.most<=65536
 l:x.prf.length<=65536
 c:x.ch.length<=9223372036854775807
def LI:cY where
 f:=82;α:=Alloc;put a:=[mT.put a];st _:=[];dec v o:=match v,o with
  |[a],[]=>mT.dec a
  |_,_=>none;ok v o a h:=by
  split at h;·exact⟨by simp only[gL,mT.ok _ _ h],rfl⟩
  ·cases h
 inj a b h1 _:=by
  simp only[gL,τ,and_true] at h1;exact mT.inj _ _ h1
 dom _:=True;res _:=.sb false;out _:=[]
theorem h438:dL Tryz.prog LI:=by
 refine jr (L:=[]) (W:=[]) LI lk (by simp) (by simp) ?_;rintro(a:Alloc) -;refine bQ ((δs false).same (γG false)/\True) (by kernel_rfl) ?_;simp_all
def LK:cY where
 f:=132;α:=Alloc×Int;put a:=[mT.put a.1,.ptr 0 0 1];st a:=[.cells [.si .i64 a.2] 2 1 false];dec v o:=match v,o with
  |[a,.ptr 0 0 1],[.cells [m] 2 1 false]=>match mT.dec a,m.int .i64 with
   |some a,some m=>some (a,m)
   |_,_=>none
  |_,_=>none;ok v o a h:=by
  split at h
  ·split at h
   ·rename_i h1 h2;simp only[γ] at h;subst h;exact⟨by simp only[gL,mT.ok _ _ h1],by simp only[gO,θ,γo,bq.g,gL,iw h2,SV.g]⟩
   ·cases h
  ·cases h
 inj a b h1 h2:=by
  simp only[gL,τ,and_true] at h1;simp only[gO,θ,γo,bq.g,gL,SV.g,τ,bP.cells.injEq,γ4,Value.int.injEq,and_true,true_and] at h2;exact Prod.ext (mT.inj _ _ h1) h2
 dom _:=True;res a:=.sb (decide (a.2<=a.1.value));out a:=[.cells [.si .i64 a.2] 2 1 false]
theorem h442:dL Tryz.prog LK:=by
 refine jr (L:=[]) (W:=[]) LK lk (by simp) (by simp) ?_;rintro⟨a,m⟩ -;refine bQ (let b:=bq.cells [γb .i64 m] 2 1 false;(γG (decide (m<=a.value))).same (γG (decide (m<=a.value)))/\b.same b/\True) (by kernel_rfl) ?_;conv=>zeta
 exact⟨rfl,rfl,trivial⟩
def Bl:cY:=Fz 83 Alloc (.one mT) (λx _=>x.k1=x.prf.length) (λ_ _=> .bH []) λx a=>x.upd (dW (cu x.en) x.s a)
theorem h439:dL Tryz.prog Bl:=by
 refine jr (L:=[]) (W:=[LI,LK]) Bl lk (by simpa using⟨h438,h442⟩) (by simp) ?_;rintro⟨⟨p,ch,val,found,en,k1,k2,most,err,prf,fx⟩,a⟩ hk;have hk:k1=prf.length:=hk;subst hk;have e1:∀en:Int->Bool,val<a.value->dW en ⟨ch,val,found,prf,err⟩ a=⟨a.chosen,a.value,found||en a.value,prf,err⟩:=λen h=>if_pos h;have e2:∀en:Int->Bool,¬val<a.value->dW en ⟨ch,val,found,prf,err⟩ a=⟨ch,val,found,prf,err⟩:=λen h=>if_neg h;cases en with
 |none=>
  refine bQ (let b:=γb .i64;let c:=bq.row;let d:=bq.cells;let e:=γc;let f:=SV.bH;let k:=b p.supply.a0;let l:=b p.supply.a1;let m:=b p.supply.a2;let n:=b p.supply.a3;let o:=b p.supply.a4;let q:=b p.supply.a5;let r:=b p.opn.a0;let s:=b p.opn.a1;let t:=b p.opn.a2;let v:=b p.opn.a3;let w:=b p.opn.a4;let x:=b p.opn.a5;let y:=b p.cls.a0;let z:=b p.cls.a1;let A:=b p.cls.a2;let B:=b p.cls.a3;let C:=b p.cls.a4;let D:=b p.cls.a5;let h:=bn.i .i64;let E:=e h p.classes;let F:=e bn.off p.offers;let G:=SV.fn (Fn.func 82) [] [];let H:=δd 2 k2 1;let I:=b most;let J:=[G,δd 1 prf.length 5,H,I,b err];let g:=dW (cu none) (cK.mk ch val found prf err) a;let K:=d [k,l,m,n,o,q,r,s,t,v,w,x,y,z,A,B,C,D,E,F,e h g.ch,b g.val,γG g.found,G,δd 1 g.prf.length 5,H,I,b g.err] 119 28 false;let j:=c h fx 3 true;let L:=decide (val<a.value);let M:=λ(u u_1:Bool) (u_2:List Int) (u_3:Int) (u_4:SV) ↦u=u_1->(f []).same (f [])/\(d (k::l::m::n::o::q::r::s::t::v::w::x::y::z::A::B::C::D::E::F::e h u_2::b u_3::u_4::J) 119 28 false).same K/\(c eI prf 93 true).same (c eI g.prf 93 true)/\j.same j/\True;(L=true->M found true a.chosen a.value (δs true)/\(found=false->True/\(f []).same (f [])/\(d (k::l::m::n::o::q::r::s::t::v::w::x::y::z::A::B::C::D::E::F::e h a.chosen::b a.value::γG false::J) 119 28 false).same K/\(c eI prf 93 true).same (c eI g.prf 93 true)/\j.same j/\True))/\M L false ch val (γG found)) (by kernel_rfl) ?_;conv=>zeta
  refine⟨λh=>?_,λh=>?_⟩
  ·simp only[e1 _ (of_decide_eq_true h)];refine⟨λhf=>?_,λhf=>?_⟩
   ·subst hf;exact⟨rfl,rfl,rfl,rfl,trivial⟩
   ·subst hf;exact⟨trivial,rfl,rfl,rfl,rfl,trivial⟩
  ·simp only[e2 _ (of_decide_eq_false h)];exact⟨rfl,rfl,rfl,rfl,trivial⟩;|some m=>
  refine bQ (let b:=γb .i64;let c:=bn.i .i64;let d:=bq.cells;let e:=γc;let f:=bq.row;let g:=δd;let h:=γV;let j:=SV.bH;let k:=γG;(decide (val<a.value)=true->(found=true->(j []).same (j [])/\(d [b p.supply.a0,b p.supply.a1,b p.supply.a2,b p.supply.a3,b p.supply.a4,b p.supply.a5,b p.opn.a0,b p.opn.a1,b p.opn.a2,b p.opn.a3,b p.opn.a4,b p.opn.a5,b p.cls.a0,b p.cls.a1,b p.cls.a2,b p.cls.a3,b p.cls.a4,b p.cls.a5,e (c) p.classes,e bn.off p.offers,e (c) a.chosen,b a.value,δs true,SV.fn (Fn.func 132) [] [h 1 0 1],g 2 prf.length 5,g 3 k2 1,b most,b err] 119 28 false).same (d [b p.supply.a0,b p.supply.a1,b p.supply.a2,b p.supply.a3,b p.supply.a4,b p.supply.a5,b p.opn.a0,b p.opn.a1,b p.opn.a2,b p.opn.a3,b p.opn.a4,b p.opn.a5,b p.cls.a0,b p.cls.a1,b p.cls.a2,b p.cls.a3,b p.cls.a4,b p.cls.a5,e (c) p.classes,e bn.off p.offers,e (c) (dW (cu (some m)) (cK.mk ch val found prf err) a).ch,b (dW (cu (some m)) (cK.mk ch val found prf err) a).val,k (dW (cu (some m)) (cK.mk ch val found prf err) a).found,SV.fn (Fn.func 132) [] [h 1 0 1],g 2 (dW (cu (some m)) (cK.mk ch val found prf err) a).prf.length 5,g 3 k2 1,b most,b (dW (cu (some m)) (cK.mk ch val found prf err) a).err] 119 28 false)/\(d [b m] 2 1 false).same (d [b m] 2 1 false)/\(f eI prf 93 true).same (f eI (dW (cu (some m)) (cK.mk ch val found prf err) a).prf 93 true)/\(f (c) fx 3 true).same (f (c) fx 3 true)/\True)/\(found=false->True/\(j []).same (j [])/\(d [b p.supply.a0,b p.supply.a1,b p.supply.a2,b p.supply.a3,b p.supply.a4,b p.supply.a5,b p.opn.a0,b p.opn.a1,b p.opn.a2,b p.opn.a3,b p.opn.a4,b p.opn.a5,b p.cls.a0,b p.cls.a1,b p.cls.a2,b p.cls.a3,b p.cls.a4,b p.cls.a5,e (c) p.classes,e bn.off p.offers,e (c) a.chosen,b a.value,k (decide (m<=a.value)),SV.fn (Fn.func 132) [] [h 1 0 1],g 2 prf.length 5,g 3 k2 1,b most,b err] 119 28 false).same (d [b p.supply.a0,b p.supply.a1,b p.supply.a2,b p.supply.a3,b p.supply.a4,b p.supply.a5,b p.opn.a0,b p.opn.a1,b p.opn.a2,b p.opn.a3,b p.opn.a4,b p.opn.a5,b p.cls.a0,b p.cls.a1,b p.cls.a2,b p.cls.a3,b p.cls.a4,b p.cls.a5,e (c) p.classes,e bn.off p.offers,e (c) (dW (cu (some m)) (cK.mk ch val found prf err) a).ch,b (dW (cu (some m)) (cK.mk ch val found prf err) a).val,k (dW (cu (some m)) (cK.mk ch val found prf err) a).found,SV.fn (Fn.func 132) [] [h 1 0 1],g 2 (dW (cu (some m)) (cK.mk ch val found prf err) a).prf.length 5,g 3 k2 1,b most,b (dW (cu (some m)) (cK.mk ch val found prf err) a).err] 119 28 false)/\(d [b m] 2 1 false).same (d [b m] 2 1 false)/\(f eI prf 93 true).same (f eI (dW (cu (some m)) (cK.mk ch val found prf err) a).prf 93 true)/\(f (c) fx 3 true).same (f (c) fx 3 true)/\True))/\(decide (val<a.value)=false->(j []).same (j [])/\(d [b p.supply.a0,b p.supply.a1,b p.supply.a2,b p.supply.a3,b p.supply.a4,b p.supply.a5,b p.opn.a0,b p.opn.a1,b p.opn.a2,b p.opn.a3,b p.opn.a4,b p.opn.a5,b p.cls.a0,b p.cls.a1,b p.cls.a2,b p.cls.a3,b p.cls.a4,b p.cls.a5,e (c) p.classes,e bn.off p.offers,e (c) ch,b val,k found,SV.fn (Fn.func 132) [] [h 1 0 1],g 2 prf.length 5,g 3 k2 1,b most,b err] 119 28 false).same (d [b p.supply.a0,b p.supply.a1,b p.supply.a2,b p.supply.a3,b p.supply.a4,b p.supply.a5,b p.opn.a0,b p.opn.a1,b p.opn.a2,b p.opn.a3,b p.opn.a4,b p.opn.a5,b p.cls.a0,b p.cls.a1,b p.cls.a2,b p.cls.a3,b p.cls.a4,b p.cls.a5,e (c) p.classes,e bn.off p.offers,e (c) (dW (cu (some m)) (cK.mk ch val found prf err) a).ch,b (dW (cu (some m)) (cK.mk ch val found prf err) a).val,k (dW (cu (some m)) (cK.mk ch val found prf err) a).found,SV.fn (Fn.func 132) [] [h 1 0 1],g 2 (dW (cu (some m)) (cK.mk ch val found prf err) a).prf.length 5,g 3 k2 1,b most,b (dW (cu (some m)) (cK.mk ch val found prf err) a).err] 119 28 false)/\(d [b m] 2 1 false).same (d [b m] 2 1 false)/\(f eI prf 93 true).same (f eI (dW (cu (some m)) (cK.mk ch val found prf err) a).prf 93 true)/\(f (c) fx 3 true).same (f (c) fx 3 true)/\True)) (by kernel_rfl) ?_;refine⟨λh=>?_,λh=>?_⟩
  ·simp only[e1 _ (of_decide_eq_true h)];refine⟨λhf=>?_,λhf=>?_⟩
   ·subst hf;exact⟨rfl,rfl,rfl,rfl,rfl,trivial⟩
   ·subst hf;exact⟨trivial,rfl,rfl,rfl,rfl,rfl,trivial⟩
  ·simp only[e2 _ (of_decide_eq_false h)];exact⟨rfl,rfl,rfl,rfl,rfl,trivial⟩
theorem uJ {p q:Rat}:jf p q<0↔p<q:=by
 unfold jf;grind
def LL:bM:=⟨62,bp×List Int,.cons cZ (.one (dY (.i .i64))),λa=>bC a.1=0/\a.2.length<=9223372036854775807,λa=> .si .i64 (dI a.1 a.2)⟩
def afw (p:bp) (c:List Int):Nat->cB
 |6=> .inv Int (λi=>⟨[(7,.si .i64 (bV ((eE p c).take i.toNat))),(23,.row .off (eE p c)),(24,.si .i64 (eE p c).length),(25,.si .i64 i)],[.cells p.ss 27 20 false]⟩)
   (λs=>iS s 25) (λi=>0<=i/\i<=(eE p c).length) (λi=>((eE p c).length - i).toNat) λ_ _=> .look
 |_=> .look
theorem h437:Holds Tryz.prog LL:=by
 refine cJ (L:=[Dj,pP]) LL (λa=>afw a.1 a.2) (by grind[h133,h79]) ?_;rintro⟨p,c⟩ ⟨f,A⟩;simp only at f A;refine bQ (let a:=γb .i64;let f:=(0:Int);let k:=γy .i64 0;let m:=a (dI p c);let z:=decide (bC p≠f);let j:=γc bn.off (eE p c);let B:=(↑(eE p c).length:Int);let d:=(↑(eE p c).length:Int);let r:=a d;let g:=bq.cells (bp.ss p) 27 20 false;(c.length<=9223372036854775807/\p.offers.length<=1000)/\((!j9 p c)=true->k.same m)/\((!j9 p c)=false->True/\(z=true->k.same m)/\(z=false->(((k.same (a (bV []))/\j.same j/\(a B).same r/\k.same (a 0)/\True)/\g.same g/\True)/\f<=f/\f<=d)/\∀(x:Int),let w:=bV (γe x.toNat (eE p c));let y:=w+(bj (eE p c) x.toNat bn.off.dflt).value;let b:=x+(1:Int);let e:=a b;f<=x/\x<=d->(decide (x<d)=true->f<=x/\x<B/\x.toNat<(eE p c).length/\bY .i64 y/\bY .i64 b/\(((a y).same (a (bV (γe b.toNat (eE p c))))/\j.same j/\r.same r/\e.same e/\True)/\g.same g/\True)/\(f<=b/\b<=d)/\(d - b).toNat<(d - x).toNat)/\(decide (x<d)=false->(a w).same m)))) (by kernel_rfl) ?_;simp only[vcs];have t:=dF f;obtain⟨G,v⟩:=aaM (c:=c) f;have u:=t.2.1;have q:j9 p c=false->0=dI p c:=λh=>by
  unfold dI;rw[if_pos f];unfold eE;unfold j9 at h;rw[Option.isSome_eq_false_iff,Option.isNone_iff_eq_none] at h;rw[h];rfl
 refine⟨⟨A,by omega⟩,q,λ_=>⟨λh=>absurd f h,λ_=>⟨⟨by simp[bV],by omega,by omega⟩,?_⟩⟩⟩;rintro i ⟨n,D⟩;refine⟨λo=>?_,λE=>?_⟩
 ·have H:=aaL n o;have F:=sG t (l:=(eE p c).take i.toNat) λx s=>v x (γn s);have C:=sG t (l:=(eE p c).take (i+1).toNat) λx s=>v x (γn s);grind
 ·rw[show i.toNat=(eE p c).length from by omega,ψ];grind[dI]
def LM:bM:=⟨162,Int×Int,.cons (dU .i64) (.one (dU .i64)),λa=>(-9223372036854775808<=a.1/\a.1<=9223372036854775807)/\0<a.2/\a.2<=9223372036854775807,λa=> .bH [qN (fO (decide (a.1<0)) (a.1.natAbs:Int) a.2),.si .i64 0]⟩
theorem h451:Holds Tryz.prog LM:=by
 refine cJ (L:=[Eh,Au]) LM lk (by grind[h127,h151]) ?_;rintro⟨n,d⟩ ⟨⟨u,w⟩,q,r⟩;simp only at u w q r;refine bQ (let e:=(-9223372036854775808:Int);let h:=(9223372036854775807:Int);let k:=(0:Int);let l:=γc;let g:=cF (↑n.natAbs:Int);let b:=cF (↑d.natAbs:Int);let f:=bu (fO (!decide (n<k)==decide (d<k)) (bk g) (bk b));let a:=bn.i .u32;let j:=[γb .i64 0];let c:=bu (fO (decide (n<k)) (↑n.natAbs:Int) d);(e<=n/\n<=h)/\(e<=d/\d<=h)/\((bA g/\bA b)/\(g.length<=1000000000/\b.length<=1000000000)/\k<bk b)/\(SV.bH (γK [γG f.fst,l a f.snd.fst,l a f.snd.snd]::j)).same (SV.bH (γK [γG c.fst,l a c.snd.fst,l a c.snd.snd]::j))) (by kernel_rfl) ?_;simp only[vcs];obtain⟨v,s,t⟩:=gl (show(0:Int)<=(n.natAbs:Int) by omega);obtain⟨o,l,h⟩:=gl (show(0:Int)<=(d.natAbs:Int) by omega);have x:=mY (k:=2) (show(0:Int)<=(n.natAbs:Int) by omega) (by omega);have p:=mY (k:=2) (show(0:Int)<=(d.natAbs:Int) by omega) (by omega);have e:(d.natAbs:Int)=d:=by omega
 have m:(!(decide (n<0)==decide (d<0)))=decide (n<0):=by
  grind
 rw[m,v,o,e];rw[e] at l h p;repeat' refine And.intro ?_ ?_
 all_goals first|omega|exact s|exact l|exact t|exact h|rfl
def py (x:List bO):Prop:=∃l,x=fL l/\x.length<=1000000/\∀q∈l,Sz 1000 q
theorem afx (q:Rat):q.den=1↔(bu q).2.2=[1]:=by
 have c:cF 1=[1]:=by decide
 constructor
 ·intro h;show cF (q.den:Int)=[1];simp_all
 ·intro h;have a:=(gl (show(0:Int)<=(q.den:Int) by omega)).1;have b:cF (q.den:Int)=[1]:=h;grind[bk]
theorem Vb (q:Rat):okF (bu q)=true:=decide_eq_true (by rw[fe])
def LN:bM:=⟨118,List bO,.one (dY sF),py,λx=> .sb (nh (vL x))⟩
def afy (x:List bO):Nat->cB
 |2=> .inv Int (λi=>⟨[(5,.row sF x),(6,.si .i64 x.length),(7,.si .i64 i)],[]⟩)
   (λs=>iS s 7) (λi=>(0<=i/\i<=x.length)/\nh ((vL x).take i.toNat)=true) (λi=>(x.length - i).toNat) λ_ _=> .look
 |_=> .look
theorem h445:Holds Tryz.prog LN:=by
 refine cJ (L:=[yf]) LN afy (by grind[h407]) ?_;rintro(x:List bO) ⟨l,v,G,H⟩;refine bQ (let c:=(0:Int);let d:=γb .i64;let f:=δs false;let h:=γc;let i:=(1:Int);let b:=(↑x.length:Int);let w:=d b;((((h sF x).same (h sF x)/\(d (↑x.length:Int)).same w/\(γy .i64 0).same (d 0)/\True)/\True)/\(c<=c/\c<=b)/\nh []=true)/\∀(a:Int),let p:=bj x a.toNat sF.dflt;let e:=p.snd.snd;let C:=(↑(γp e):Int);let r:=γG (nh (vL x));let g:=a+i;let o:=d g;let A:=λ(u:Bool) ↦decide (bj e 0 c≠i)=u;let D:=λ(u:Bool) ↦decide (C≠i)=u;let E:=λ(u:Bool) ↦(!okF (p.fst,p.snd.fst,e))=u;(c<=a/\a<=b)/\nh (γe a.toNat (vL x))=true->(decide (a<b)=true->c<=a/\a<(↑x.length:Int)/\a.toNat<x.length/\((bA p.snd.fst/\bA e)/\γp p.snd.fst<=1000000/\γp e<=1000000)/\(E true->(f).same r)/\(E false->(D true->(f).same r)/\(D false->c<=c/\c<C/\0<γp e/\(A true->(f).same r)/\(A false->bY .i64 g/\(((h sF x).same (h sF x)/\w.same w/\o.same o/\True)/\True)/\((c<=g/\g<=b)/\nh (γe g.toNat (vL x))=true)/\(b - g).toNat<(b - a).toNat))))/\(decide (a<b)=false->(δs true).same r)) (by kernel_rfl) ?_;simp only[vcs];subst v;rw[fS] at G ⊢;rw[mB];have s:∀k:Nat,((k:Nat):Int).toNat=k:=λk=>γq k;refine⟨⟨⟨by omega,by omega⟩,rfl⟩,?_⟩;rintro i ⟨⟨z,T⟩,c⟩;refine⟨λy=>?_,λy=>?_⟩
 ·have J:bj (fL l) i.toNat sF.dflt=bu (bj l i.toNat 0):=jw (by omega);have B:=cT (d:=0) (show i.toNat<l.length by omega);have N:=H _ B;have K:=j8 (d:=0) z y;rw[J];generalize bj l i.toNat 0=q at*;obtain⟨_,⟨I,U,V⟩,⟨M,P,W⟩⟩:=nJ q;obtain⟨R,S⟩:=qQ N;have m:=afx q;have j:q.den≠1->false=nh l:=λQ=>by
   refine(εt.2 λf=>?_).symm;have:=Φ.1 f _ B;simp_all
  have t:=Vb q;refine⟨z,y,by omega,⟨⟨I,M⟩,by omega,by omega⟩,λh=>absurd t (by simp_all),λ_=>⟨λh=>j λf=>h ?_,λh=>⟨by omega,by omega,by omega,λf=>j λO=>f ?_,λf=>⟨by omega,⟨by omega,?_⟩,by omega⟩⟩⟩⟩;·simp_all
  ·rw[(m.1 O)];rfl
  ·rw[K];unfold nh at c ⊢;rw[List.all_append,c];have:q.den=1:=m.2 (by
    have n:(bu q).2.2.length=1:=by omega
    have F:bj (bu q).2.2 0 0=1:=Θ.1 f;match v:(bu q).2.2,n with
    |[x],_=>
     rw[v] at F;have:x=1:=F;rw[this]);simp[this]
 grind
def LO (f:FuncId) (j:bp->List Int->Prop) (e:bp->List Int->SV):cY where
 f:=f;α:=bp×Nat×List Int;put a:=[cZ.put a.1,.ow 0 a.2.1 1];st a:=[.row (.i .i64) a.2.2 3 true];dec v o:=match v,o with
  |[p,.ow 0 n 1],[.row s l 3 true]=>match cZ.dec p,iI s (.i .i64) l with
   |some p,some l=>some (p,n,l)
   |_,_=>none
  |_,_=>none;ok v o a h:=by
  split at h
  ·split at h
   ·rename_i c d;simp only[γ] at h;subst h;obtain⟨rfl,k⟩:=nz d;cases k;exact⟨by simp only[gL,cZ.ok _ _ c],rfl⟩
   ·cases h
  ·cases h
 inj a b c d:=by
  obtain⟨p,n,l⟩:=a;obtain⟨m,q,r⟩:=b;simp only[gL,τ,and_true,SV.g,εP,true_and] at c;simp only[gO,θ,γo,bq.g,τ,bP.cells.injEq,and_true] at d;rw[cZ.inj p m c.1,pn (s:=.i .i64) d,c.2.1]
 dom a:=a.2.1=a.2.2.length/\j a.1 a.2.2;res a:=e a.1 a.2.2;out a:=[.row (.i .i64) a.2.2 3 true]
theorem FA {L:List bM} {W:List cY} (c:cY) (Λ:c.α->Nat->cB) (i:∀c∈W,dL Tryz.prog c) (e:∀c∈L,Holds Tryz.prog c)
  
  (h:∀a,c.dom a->Vc (Fv (l8 L (fV W) oW oY gG) (Λ a) (fG c.f) (c.put a) (c.st a) λv s=>v.same (c.res a)/\jo s (c.out a))) (j:(gG c.f).isSome=true:=by kernel_rfl) (b:∀a,(c.put a).length=(fG c.f).params:=by intro _;kernel_rfl) (d:k9 c.f W=none:=by kernel_rfl):dL Tryz.prog c:=
 λa g=>afo c pN i e (vD j) b a d (h a g).out
noncomputable def LP:cY:=LO 154 (λp f=>bC p=0/\f.length=p.offers.length) λp f=>qN (γa (kV p f))
def afz (p:bp) (f:List Int):Nat->cB
 |3=> .inv Int (λi=>⟨[(2,.ptr 1 0 20),(4,.ptr 2 0 3),(5,.si .i64 (kV p (f.take i.toNat))),(8,.ow 0 f.length 1),(9,.si .i64 f.length),(10,.si .i64 i)],[.row (.i .i64) f 3 true,.cells p.ss 27 20 false,.cells [.bl false,.sc (.slice none 0 0),.sc (.slice none 0 0)] 157 3 false]⟩)
   (λs=>iS s 10) (λi=>0<=i/\i<=f.length) (λi=>(f.length - i).toNat) λ_ _=> .look
 |_=> .look
theorem h396w:dL Tryz.prog LP:=by
 refine FA (L:=[qO]) (W:=[]) LP (λa=>afz a.1 a.2.2) (by simp) (by simpa using h94) ?_;rintro⟨p,n,f⟩ ⟨hn,⟨hc,hl⟩⟩;simp only at hn;subst hn;simp only at hc hl;refine bQ (let a:=γb .i64;let b:=(0:Int);let c:=γc;let j:=γV 1 0 20;let k:=γV 2 0 3;let t:=γy .i64 0;let l:=δd 0 f.length 1;let d:=(↑f.length:Int);let m:=a d;let e:=bq.row (bn.i .i64) f 3 true;let n:=bq.cells (bp.ss p) 27 20 false;let v:=SV.sc (Value.slice none 0 0);let o:=bq.cells [δs false,v,v] 157 3 false;let q:=bn.i .u32;let r:=bu (γa (kV p f));(((j.same j/\k.same k/\t.same (a (kV p []))/\l.same l/\m.same m/\t.same (a 0)/\True)/\e.same e/\n.same n/\o.same o/\True)/\b<=b/\b<=d)/\∀(x:Int),let g:=x+(1:Int);let w:=a g;let y:=decide (bj f x.toNat b=(1:Int));let h:=kV p (γe x.toNat f);let z:=h+(bj p.offers x.toNat bn.off.dflt).value;let s:=bu (γa h);let A:=λ(u:Int) ↦bY .i64 g/\((j.same j/\k.same k/\(a u).same (a (kV p (γe g.toNat f)))/\l.same l/\m.same m/\w.same w/\True)/\e.same e/\n.same n/\o.same o/\True)/\(b<=g/\g<=d)/\(d - g).toNat<(d - x).toNat;b<=x/\x<=d->(decide (x<d)=true->f.length=f.length/\b<=x/\x<(↑f.length:Int)/\f.length=f.length/\x.toNat<f.length/\(y=true->b<=x/\x<(↑p.offers.length:Int)/\x.toNat<p.offers.length/\bY .i64 z/\A z)/\(y=false->A h))/\(decide (x<d)=false->((-9223372036854775808:Int)<=h/\h<=(9223372036854775807:Int))/\(γK [γG s.fst,c q s.snd.fst,c q s.snd.snd]).same (γK [γG r.fst,c q r.snd.fst,c q r.snd.snd])/\e.same e/\True)) (by kernel_rfl) ?_;simp only[vcs];have h160:=(dF hc).2.1;refine⟨⟨by simp[kV,bE,dV,bV],by omega,by omega⟩,?_⟩;rintro i ⟨i0,i1⟩;have hb:=@Ll p hc f i.toNat hl;refine⟨λhi=>?_,λhi=>?_⟩
 ·have hs:=@aeX p f i i0 hi;have ho:=pr hc (i:=i) ⟨i0,by omega⟩;have hv:(bj p.offers i.toNat bn.off.dflt).value=(oI p i).value:=rfl;rw[hv];refine⟨i0,hi,by omega,λh1=>?_,λh1=>?_⟩
  ·rw[if_pos h1] at hs;refine⟨i0,?_,?_,?_,?_,?_,?_,?_⟩<;>omega
  ·rw[if_neg h1] at hs;refine⟨?_,?_,?_,?_⟩<;>omega
 ·rw[show f.take i.toNat=f by rw[show i.toNat=f.length by omega,ψ]] at hb ⊢;exact⟨by omega,rfl⟩
noncomputable def LQ:cY:=LO 151 (λp f=>(bC p=0/\f.length=p.offers.length)/\jR f=true) λp f=> .bH [.agg [.row sF (ng p f).1,.row sR (ng p f).2.1],.row (.i .i64) (ng p f).2.2,.si .i64 (if iD p f=true then 0 else 14)]
def Vd (p:bp) (f:List Int) (l:List Int) (m:List Off):bX:=[.row (.i .i64) f 3 true,.cells p.ss 27 20 false,.cells [.sc (.slice none 0 0),.sc (.slice none 0 0)] 220 2 false,.row (.i .i64) l 3 true,.row .off m 39 true]
def FB (p:bp) (f:List Int) (l:List Int) (m:List Off) (k0 k1:Nat) (rs:List (List bO×bO)) (g:List bO):bX:=Vd p f l m++[.cells p.ss 110 20 false,.cells [.ow 8 k0 3,.ow 7 k1 4] 220 2 false,.row sR rs 255 false,.row sF g 157 false]
def afA (p:bp) (f:List Int):Nat->cB
 |9=> .inv Int (λi=>⟨[(2,.ptr 1 0 20),(4,.ptr 2 0 2),(8,.ow 3 (bE (f.take i.toNat) 0).length 1),(9,.ow 4 (bE (f.take i.toNat) 1).length 8),(36,.ow 0 f.length 1),(37,.si .i64 f.length),(38,.si .i64 i)],Vd p f (bE (f.take i.toNat) 0) ((bE (f.take i.toNat) 1).map (oI p))⟩)
   (λs=>iS s 38) (λi=>0<=i/\i<=f.length) (λi=>(f.length - i).toNat) λ_ _=> .look
 |24=> .inv Int (λj=>⟨[(2,.ptr 1 0 20),(4,.ptr 2 0 2),(8,.ow 3 (bE f 0).length 1),(9,.ow 4 (bE f 1).length 8),(12,.ptr 5 0 20),(13,.ptr 6 0 2),(71,.ow 3 (bE f 0).length 1),(72,.si .i64 (bE f 0).length),(73,.si .i64 j)],FB p f (bE f 0) ((bE f 1).map (oI p)) j.toNat 0 [] (mI p f j.toNat)⟩)
   (λs=>iS s 73) (λj=>0<=j/\j<=(bE f 0).length) (λj=>((bE f 0).length - j).toNat) λ_ _=> .look
 |29=> .inv Int (λr=>⟨[(2,.ptr 1 0 20),(4,.ptr 2 0 2),(8,.ow 3 (bE f 0).length 1),(9,.ow 4 (bE f 1).length 8),(12,.ptr 5 0 20),(13,.ptr 6 0 2),(91,.si .i64 (dj p)),(92,.si .i64 r)],FB p f (bE f 0) ((bE f 1).map (oI p)) (bE f 0).length r.toNat (nU p f r.toNat) (mI p f (bE f 0).length)⟩)
   (λs=>iS s 92) (λr=>0<=r/\r<=dj p) (λr=>(dj p - r).toNat) λr k=>match k with
   |33=> .inv Int (λj=>⟨[(2,.ptr 1 0 20),(4,.ptr 2 0 2),(8,.ow 3 (bE f 0).length 1),(9,.ow 4 (bE f 1).length 8),(12,.ptr 5 0 20),(13,.ptr 6 0 2),(16,.si .i64 r),(17,.si .i64 (dD p r - cQ p (((bE f 1).map (oI p)).take j.toNat) r)),(91,.si .i64 (dj p)),(92,.si .i64 r),(98,.ow 4 (bE f 1).length 8),(99,.si .i64 (bE f 1).length),(100,.si .i64 j)],FB p f (bE f 0) ((bE f 1).map (oI p)) (bE f 0).length r.toNat (nU p f r.toNat) (mI p f (bE f 0).length)⟩)
     (λs=>iS s 100) (λj=>0<=j/\j<=(bE f 1).length) (λj=>((bE f 1).length - j).toNat) λ_ _=> .look
   |39=> .inv Int (λj=>⟨[(2,.ptr 1 0 20),(4,.ptr 2 0 2),(8,.ow 3 (bE f 0).length 1),(9,.ow 4 (bE f 1).length 8),(12,.ptr 5 0 20),(13,.ptr 6 0 2),(16,.si .i64 r),(20,.ptr 9 0 4),(91,.si .i64 (dj p)),(92,.si .i64 r),(114,.ow 3 (bE f 0).length 1),(115,.si .i64 (bE f 0).length),(116,.si .i64 j)],FB p f (bE f 0) ((bE f 1).map (oI p)) (bE f 0).length r.toNat (nU p f r.toNat) (mI p f (bE f 0).length)++[.cells [.ow 10 j.toNat 3,.sb (bu ((dD p r - cQ p ((bE f 1).map (oI p)) r:Int):Rat)).1,.row (.i .u32) (bu ((dD p r - cQ p ((bE f 1).map (oI p)) r:Int):Rat)).2.1,.row (.i .u32) (bu ((dD p r - cQ p ((bE f 1).map (oI p)) r:Int):Rat)).2.2] 255 4 false,.row sF (nT p f r j.toNat) 157 false]⟩)
     (λs=>iS s 116) (λj=>0<=j/\j<=(bE f 0).length) (λj=>((bE f 0).length - j).toNat) λ_ _=> .look
   |_=> .look
 |_=> .look
theorem h394w:dL Tryz.prog LQ:=by
 refine FA (L:=[pP,qO,Db,xF,xC,xE]) (W:=[]) LQ (λa=>afA a.1 a.2.2) (by simp) (by simpa using⟨h79,h94,h134,h156,h157,h158⟩) ?_;rintro⟨p,n,f⟩ ⟨hn,⟨⟨hc,hl⟩,hr⟩⟩;simp only at hn;subst hn;simp only at hc hl hr;refine bQ (let a:=γb .i64;let c:=(0:Int);let d:=bq.row;let e:=bq.cells;let g:=δd;let h:=(-9223372036854775808:Int);let j:=γc;let k:=(1:Int);let l:=(9223372036854775807:Int);let m:=bY .i64;let n:=γy .i64;let o:=γV;let q:=γK;let r:=SV.bH;let R:=SV.sc (Value.slice none 0 0);let L:=bn.i .i64;let ah:=r [q [j sF (ng p f).fst,j sR (ng p f).snd.fst],j L (ng p f).snd.snd,a (if iD p f=true then c else(14:Int))];let s:=d L f 3 true;let I:=(↑f.length:Int);let ai:=p.offers.length;let ae:=(↑ai:Int);let t:=o 1 0 20;let v:=o 2 0 2;let Z:=g 0 f.length 1;let a6:=a I;let a7:=n 0;let aM:=[a p.supply.a0,a p.supply.a1,a p.supply.a2,a p.supply.a3,a p.supply.a4,a p.supply.a5,a p.opn.a0,a p.opn.a1,a p.opn.a2,a p.opn.a3,a p.opn.a4,a p.opn.a5,a p.cls.a0,a p.cls.a1,a p.cls.a2,a p.cls.a3,a p.cls.a4,a p.cls.a5,j L p.classes,j bn.off p.offers];let w:=e aM 27 20 false;let y:=e [R,R] 220 2 false;let aN:=d bn.off [] 39 true;let aj:=bn.off.dflt;let ay:=(↑p.classes.length:Int);let a8:=bn.i .u32;let a9:=bn.b.pair (a8.bK.pair a8.bK);let az:=a9.bK.pair a9;let H:=bE f c;let N:=H.length;let z:=g 3 N 1;let z25:Nat:=(bE f k).length;let A:=g 4 z25 8;let B:=o 5 0 20;let C:=o 6 0 2;let E:=(↑N:Int);let V:=a E;let F:=d L H 3 true;let P:=γk (oI p) (bE f k);let G:=d bn.off P 39 true;let D:=e aM 110 20 false;let af:=[g 7 0 4];let aO:=e (g 8 0 3::af) 220 2 false;let ak:=d sR [] 255 false;let aP:=d a9 [] 157 false;let J:=a (dj p);let al:=g 8 N 3;let aA:=mI p f N;let M:=d sF aA 157 false;let S:=(↑z25:Int);let am:=a S;let an:=o 9 0 4;let aQ:=g 10 0 3;let aR:=λ(u u_1:Int) (u_2:SV) ↦decide (u≠u_1)=true->(r [q [R,R],R,u_2]).same ah/\s.same s/\True;True/\aR (bC p) c (a (bC p))/\(decide (bC p≠c)=false->aR I ae (n 3)/\(decide (I≠ae)=false->(((t.same t/\v.same v/\(g 3 0 1).same (g 3 (bE [] c).length 1)/\(g 4 0 8).same (g 4 (bE [] k).length 8)/\Z.same Z/\a6.same a6/\a7.same (a 0)/\True)/\s.same s/\w.same w/\y.same y/\(d L [] 3 true).same (d L (bE [] c) 3 true)/\aN.same aN/\True)/\c<=c/\c<=I)/\∀(x:Int),let ao:=bE (γe x.toNat f) k;let aS:=g 4 ao.length 8;let O:=x+k;let ap:=γe O.toNat f;let aT:=g 4 (bE ap k).length 8;let aq:=a O;let aU:=g 3 (bE ap c).length 1;let aV:=d L (bE ap c) 3 true;let Q:=γk (oI p) ao;let aW:=d bn.off Q 39 true;let aX:=d bn.off (γk (oI p) (bE ap k)) 39 true;let aB:=bj f x.toNat c;let aY:=decide (aB=(-1:Int));let aa:=bE (γe x.toNat f) c;let ar:=aa.length;let aC:=d L aa 3 true;let aZ:=decide (aB=c);let b0:=aa.length+1;let b1:=decide (aB=k);let b2:=Q.length+1;let aD:=g 3 ar 1;let b3:=Q++[bj p.offers x.toNat aj];let bh:=aS.same aT/\Z.same Z/\a6.same a6/\aq.same aq/\True;let b4:=λ(u:Nat) (u_1:bq) ↦m O/\((t.same t/\v.same v/\(g 3 u 1).same aU/\bh)/\s.same s/\w.same w/\y.same y/\u_1.same aV/\aW.same aX/\True)/\(c<=O/\O<=I)/\(I - O).toNat<(I - x).toNat;c<=x/\x<=I->(decide (x<I)=true->f.length=f.length/\c<=x/\x<(↑f.length:Int)/\f.length=f.length/\x.toNat<f.length/\(aY=true->b4 ar aC)/\(aY=false->(aZ=true->ar=aa.length/\b0*8<=140737488355328/\b0<=1000000000000/\b4 (aa++[x]).length (d L (aa++[x]) 3 true))/\(aZ=false->(b1=true->c<=x/\x<ae/\x.toNat<ai/\ao.length=Q.length/\b2*64<=140737488355328/\b2<=1000000000000/\m O/\((t.same t/\v.same v/\aD.same aU/\(g 4 b3.length 8).same aT/\Z.same Z/\a6.same a6/\aq.same aq/\True)/\s.same s/\w.same w/\y.same y/\aC.same aV/\(d bn.off b3 39 true).same aX/\True)/\(c<=O/\O<=I)/\(I - O).toNat<(I - x).toNat)/\(b1=false->(r [q [R,R],R,n 4]).same ah/\s.same s/\True))))/\(decide (x<I)=false->ao.length=Q.length/\(p.classes.length<=8/\Q.length<=1000/\∀(x:Off),x∈Q->c<=x.bF/\x.bF<ay/\x.want.ok=true)/\((!fF p Q)=true->0=0/\0=0/\0=0/\(r [q [j a9 [],j az []],j L [],n 14]).same ah/\s.same s/\True)/\((!fF p Q)=false->(((t.same t/\v.same v/\aD.same z/\aS.same A/\B.same B/\C.same C/\aD.same z/\(a (↑ar:Int)).same V/\a7.same (a 0)/\True)/\s.same s/\w.same w/\y.same y/\aC.same F/\aW.same G/\D.same D/\aO.same aO/\(d az [] 255 false).same ak/\aP.same (d sF (mI p f 0) 157 false)/\True)/\c<=c/\c<=E)/\∀(x:Int),let au:=bj H x.toNat c;let aE:=(bj p.offers au.toNat aj).value;let av:=mI p f x.toNat;let b5:=av.length+1;let W:=x+k;let b6:=a W;let aF:=bu (γa aE);let b7:=av++[(aF.fst,aF.snd.fst,aF.snd.snd)];c<=x/\x<=E->(decide (x<E)=true->N=H.length/\c<=x/\x<(↑H.length:Int)/\N=H.length/\x.toNat<H.length/\c<=au/\au<ae/\au.toNat<ai/\(h<=aE/\aE<=l)/\1=1/\x.toNat=av.length/\b5*56<=140737488355328/\b5<=1000000000000/\m W/\((t.same t/\v.same v/\z.same z/\A.same A/\B.same B/\C.same C/\z.same z/\V.same V/\b6.same b6/\True)/\s.same s/\w.same w/\y.same y/\F.same F/\G.same G/\D.same D/\(e (g 8 b7.length 3::af) 220 2 false).same (e (g 8 W.toNat 3::af) 220 2 false)/\ak.same ak/\(d a9 b7 157 false).same (d sF (mI p f W.toNat) 157 false)/\True)/\(c<=W/\W<=E)/\(E - W).toNat<(E - x).toNat)/\(decide (x<E)=false->p.classes.length<=8/\(((t.same t/\v.same v/\z.same z/\A.same A/\B.same B/\C.same C/\J.same J/\a7.same (a 0)/\True)/\s.same s/\w.same w/\y.same y/\F.same F/\G.same G/\D.same D/\(e (g 8 x.toNat 3::af) 220 2 false).same (e (al::af) 220 2 false)/\ak.same (d sR (nU p f 0) 255 false)/\(d sF av 157 false).same M/\True)/\c<=c/\c<=dj p)/\∀(x:Int),let b8:=decide (x<dj p);let T:=e [al,g 7 x.toNat 4] 220 2 false;let ab:=nU p f x.toNat;let U:=d sR ab 255 false;let ac:=bu (γa (dD p x - cQ p P x));let aG:=[γG ac.fst,j a8 ac.snd.fst,j a8 ac.snd.snd];let b9:=ab.length+1;let X:=x+k;let ba:=a X;c<=x/\x<=dj p->(b8=true->(p.classes.length<=8/\c<=x/\x<dj p)/\(((t.same t/\v.same v/\z.same z/\A.same A/\B.same B/\C.same C/\(a x).same (a x)/\(a (dD p x)).same (a (dD p x - cQ p [] x))/\J.same J/\(a x).same (a x)/\A.same A/\am.same am/\a7.same (a 0)/\True)/\s.same s/\w.same w/\y.same y/\F.same F/\G.same G/\D.same D/\T.same T/\U.same U/\M.same M/\True)/\c<=c/\c<=S)/\∀(x_1:Int),let aH:=bj P x_1.toNat aj;let aw:=dD p x - cQ p (γe x_1.toNat P) x;let bb:=aw - eU p x aH;let ad:=x_1+k;let K:=a x;let bc:=a ad;let aI:=bu (γa aw);c<=x_1/\x_1<=S->(decide (x_1<S)=true->z25=P.length/\c<=x_1/\x_1<(↑P.length:Int)/\z25=P.length/\x_1.toNat<P.length/\(p.classes.length<=8/\c<=x/\x<dj p/\c<=aH.bF/\aH.bF<ay)/\m bb/\m ad/\((t.same t/\v.same v/\z.same z/\A.same A/\B.same B/\C.same C/\K.same K/\(a bb).same (a (dD p x - cQ p (γe ad.toNat P) x))/\J.same J/\K.same K/\A.same A/\am.same am/\bc.same bc/\True)/\s.same s/\w.same w/\y.same y/\F.same F/\G.same G/\D.same D/\T.same T/\U.same U/\M.same M/\True)/\(c<=ad/\ad<=S)/\(S - ad).toNat<(S - x_1).toNat)/\(decide (x_1<S)=false->(h<=aw/\aw<=l)/\(((t.same t/\v.same v/\z.same z/\A.same A/\B.same B/\C.same C/\K.same K/\an.same an/\J.same J/\K.same K/\z.same z/\V.same V/\a7.same (a 0)/\True)/\s.same s/\w.same w/\y.same y/\F.same F/\G.same G/\D.same D/\T.same T/\U.same U/\M.same M/\(e [aQ,γG aI.fst,j a8 aI.snd.fst,j a8 aI.snd.snd] 255 4 false).same (e (aQ::aG) 255 4 false)/\aP.same (d sF (nT p f x 0) 157 false)/\True)/\c<=c/\c<=E)/\∀(x_2:Int),let ax:=bj H x_2.toNat c;let aJ:=bj p.offers ax.toNat aj;let aK:=eU p x aJ;let ag:=nT p f x x_2.toNat;let bd:=ag.length+1;let Y:=x_2+k;let be:=a Y;let aL:=bu (γa aK);let bf:=ag++[(aL.fst,aL.snd.fst,aL.snd.snd)];let bg:=ab++[(ag,ac.fst,ac.snd.fst,ac.snd.snd)];c<=x_2/\x_2<=E->(decide (x_2<E)=true->N=H.length/\c<=x_2/\x_2<(↑H.length:Int)/\N=H.length/\x_2.toNat<H.length/\c<=ax/\ax<ae/\ax.toNat<ai/\(p.classes.length<=8/\c<=x/\x<dj p/\c<=aJ.bF/\aJ.bF<ay)/\(h<=aK/\aK<=l)/\1=1/\x_2.toNat=ag.length/\bd*56<=140737488355328/\bd<=1000000000000/\m Y/\((t.same t/\v.same v/\z.same z/\A.same A/\B.same B/\C.same C/\K.same K/\an.same an/\J.same J/\K.same K/\z.same z/\V.same V/\be.same be/\True)/\s.same s/\w.same w/\y.same y/\F.same F/\G.same G/\D.same D/\T.same T/\U.same U/\M.same M/\(e (g 10 bf.length 3::aG) 255 4 false).same (e (g 10 Y.toNat 3::aG) 255 4 false)/\(d a9 bf 157 false).same (d sF (nT p f x Y.toNat) 157 false)/\True)/\(c<=Y/\Y<=E)/\(E - Y).toNat<(E - x_2).toNat)/\(decide (x_2<E)=false->x_2.toNat=ag.length/\1=1/\x.toNat=ab.length/\b9*80<=140737488355328/\b9<=1000000000000/\m X/\((t.same t/\v.same v/\z.same z/\A.same A/\B.same B/\C.same C/\J.same J/\ba.same ba/\True)/\s.same s/\w.same w/\y.same y/\F.same F/\G.same G/\D.same D/\(e [al,g 7 bg.length 4] 220 2 false).same (e [al,g 7 X.toNat 4] 220 2 false)/\(d az bg 255 false).same (d sR (nU p f X.toNat) 255 false)/\M.same M/\True)/\(c<=X/\X<=dj p)/\(dj p - X).toNat<(dj p - x).toNat)))/\(b8=false->N=aA.length/\x.toNat=ab.length/\N=H.length/\(r [q [j sF aA,j sR ab],j L H,a7]).same ah/\s.same s/\True))))))) (by kernel_rfl) ?_;simp only[vcs];obtain⟨g1,g2,g3,g4,g5⟩:=dF hc;have hoi:∀k:Nat,∀o:Int,o=k->(bj p.offers k bn.off.dflt)=oI p o:=λk o h=>by subst h;rfl
 have hw2:∀{a b:Nat},a=b->(δd 3 a 1).same (δd 3 b 1):=by rintro _ _ rfl;rfl
 have hw3:∀{a b:Nat},a=b->(δd 4 a 8).same (δd 4 b 8):=by rintro _ _ rfl;rfl
 have lM:∀{x y:List Int},x=y->(bq.row (.i .i64) x 3 true).same (bq.row (.i .i64) y 3 true):=by rintro _ _ rfl;rfl
 have FC:∀{x y:List Off},x=y->(bq.row .off x 39 true).same (bq.row .off y 39 true):=by rintro _ _ rfl;rfl
 refine⟨λh=>absurd hc h,λ_=>⟨λh=>absurd (by rw[hl]) h,λ_=>⟨⟨⟨⟨hw2 rfl,hw3 rfl⟩,lM rfl⟩,by omega,by omega⟩,?_⟩⟩⟩;rintro i ⟨i0,i1⟩;have htl:(f.take i.toNat).length<=160:=by rw[Ω];omega
 have hd0:=@yC (f.take i.toNat) 0;have hd1:=@yC (f.take i.toNat) 1;have hm1:(γk (oI p) (bE (f.take i.toNat) 1)).length=(bE (f.take i.toNat) 1).length:=γC _;refine⟨λhi=>?_,λhi=>?_⟩
 ·have hs0:=@Lh f 0 i i0 hi;have hs1:=@Lh f 1 i i0 hi;have ag1: -1<=bj f i.toNat 0/\bj f i.toNat 0<=1:=by
   have:=Φ.1 hr _ (cT (d:=0) (show i.toNat<f.length by omega));simpa using this
  refine⟨i0,hi,by omega,λh1=>?_,λh1=>⟨λh2=>?_,λh2=>⟨λh3=>?_,λh3=>by omega⟩⟩⟩
  ·rw[if_neg (by omega),γ1] at hs0 hs1;rw[hs0,hs1];refine⟨?_,⟨⟨hw2 rfl,hw3 rfl⟩,lM rfl,FC rfl⟩,?_,?_⟩<;>omega
  ·rw[if_pos (by omega)] at hs0;rw[if_neg (by omega),γ1] at hs1;rw[hs0,hs1];refine⟨?_,?_,?_,⟨⟨hw2 rfl,hw3 rfl⟩,lM rfl,FC rfl⟩,?_,?_⟩<;>omega
  ·rw[if_neg (by omega),γ1] at hs0;rw[if_pos (by omega)] at hs1;rw[hs0,hs1,hoi i.toNat i (by omega),hm1];have e:γk (oI p) (bE (f.take i.toNat) 1)++[oI p i]=γk (oI p) (bE (f.take i.toNat) 1++[i]):=by rw[γd];rfl
   rw[e,γC];refine⟨i0,?_,?_,rfl,?_,?_,?_,⟨⟨hw2 rfl,hw3 rfl⟩,lM rfl,FC rfl⟩,?_,?_⟩<;>omega
 ·have htk:f.take i.toNat=f:=by rw[show i.toNat=f.length by omega,ψ]
  rw[htk] at hd0 hd1 hm1 ⊢;have hdl:∀d,(bE f d).length<=160:=λd=>by have:=@yC f d;omega
  refine⟨hm1.symm,⟨g1,by omega,λx hx=>?_⟩,λhb=>?_,λhb=>?_⟩
  ·obtain⟨k,hk,rfl⟩:=γf.1 hx;have h1:=(mH.1 hk).1;have:=pr hc (i:=k) (by omega);exact⟨this.1,this.2.1,this.2.2.1⟩
  ·have hb2:iD p f=false:=hb;unfold ng;simp only[hb2];exact⟨rfl,rfl,rfl⟩
  ·have hb2:iD p f=true:=hb;have hG:ng p f=((iC (jC p f)).1,((iC (jC p f)).2,bE f 0)):=by unfold ng;rw[if_pos hb2]
   simp only[hb2,if_true,hG];have hfx:iu p f:=⟨hc,hl,hb⟩;have Bm:∀{x y:List bO},x=y->(bq.row sF x 157 false).same (bq.row sF y 157 false):=by rintro _ _ rfl;rfl
   have Ve:∀{x y:List (List bO×bO)},x=y->(bq.row sR x 255 false).same (bq.row sR y 255 false):=by rintro _ _ rfl;rfl
   have LR:∀{a b c d:Nat},a=b->c=d->(bq.cells [.ow 8 a 3,.ow 7 c 4] 220 2 false).same (bq.cells [.ow 8 b 3,.ow 7 d 4] 220 2 false):=by rintro _ _ _ _ rfl rfl;rfl
   have hc8:∀{a b:Nat} {q q':Rat},a=b->q=q'->(bq.cells [.ow 10 a 3,.sb (bu q).1,.row (.i .u32) (bu q).2.1,.row (.i .u32) (bu q).2.2] 255 4 false).same (bq.cells [.ow 10 b 3,.sb (bu q').1,.row (.i .u32) (bu q').2.1,.row (.i .u32) (bu q').2.2] 255 4 false):=by rintro _ _ _ _ rfl rfl;rfl
   have hn0:=hdl 0;have hn1:=hdl 1;have hfree:∀j:Int,0<=j->j<(bE f 0).length->(0<=bj (bE f 0) j.toNat 0/\bj (bE f 0) j.toNat 0<p.offers.length):=λj h0 h1=>by
    have:=(mH.1 (cT (d:=0) (show j.toNat<(bE f 0).length by omega))).1;omega
   refine⟨⟨⟨⟨hw2 rfl,hw3 rfl,hw2 rfl,trivial⟩,lM rfl,FC rfl,Bm rfl⟩,by omega,by omega⟩,?_⟩;rintro j ⟨j0,j1⟩;have hgl:=@Lm p f j.toNat (by omega);refine⟨λhj=>?_,λhj=>?_⟩
   ·have hk:=hfree j j0 hj;have ho:=pr hc hk;have hs:=@aeY p f j j0 hj;have afB:=@Lm p f (j+1).toNat (by omega);rw[hoi _ (bj (bE f 0) j.toNat 0) (by omega)];simp only[kP];have e:mI p f j.toNat++[bu (γa (oI p (bj (bE f 0) j.toNat 0)).value)]=mI p f (j+1).toNat:=hs.symm;rw[e];refine⟨j0,hj,?_,hk.1,hk.2,?_,?_,?_,?_,?_,?_,⟨LR afB rfl,Bm rfl⟩,?_,?_⟩<;>omega
   ·rw[show j.toNat=(bE f 0).length by omega];have hnr:dj p=p.classes.length+12:=rfl;refine⟨g1,⟨⟨LR rfl rfl,Ve rfl,Bm rfl⟩,by omega,by omega⟩,?_⟩;rintro r ⟨r0,r1⟩;have hrl:=@UU p f r.toNat;refine⟨λhr2=>⟨⟨g1,r0,hr2⟩,⟨by simp[cQ],by omega,by omega⟩,?_⟩,λhr2=>?_⟩
    ·rintro k ⟨k0,k1⟩;have hok:∀x∈(γk (oI p) (bE f 1)).take k.toNat,x.want.ok=true:=λx hx=>(E3 hfx x (γn hx)).2.2.1;have hsb:=@ua p r ((γk (oI p) (bE f 1)).take k.toNat) hok;have afC:((γk (oI p) (bE f 1)).take k.toNat).length<=160:=by rw[Ω];omega
     have hbb:=@EU p hc r;refine⟨λhk=>?_,λhk=>?_⟩
     ·have hx:=E3 hfx _ (cT (d:=bn.off.dflt) (show k.toNat<(γk (oI p) (bE f 1)).length by omega));have hst:=@HU p r (γk (oI p) (bE f 1)) k bn.off.dflt k0 (by omega);have hcb:=@rF p r _ hx.2.2.1;refine⟨?_,k0,?_,?_,?_,⟨g1,r0,hr2,hx.1,hx.2.1⟩,?_,?_,?_,?_,?_⟩<;>omega
     ·have e:(γk (oI p) (bE f 1)).take k.toNat=γk (oI p) (bE f 1):=List.take_of_length_le (by omega);rw[e] at hsb afC ⊢;refine⟨by omega,⟨⟨hc8 rfl rfl,Bm rfl⟩,by omega,by omega⟩,?_⟩;rintro l ⟨l0,l1⟩;have hcl:=@UT p f r l.toNat (by omega);refine⟨λhl2=>?_,λhl2=>?_⟩
      ·have hk:=hfree l l0 hl2;have ho:=pr hc hk;have hs:=@aeZ p f r l l0 hl2;have afD:=@UT p f r (l+1).toNat (by omega);have hcb:=@rF p r _ ho.2.2.1;rw[hoi _ (bj (bE f 0) l.toNat 0) (by omega)];simp only[kP];have e:nT p f r l.toNat++[bu (γa (eU p r (oI p (bj (bE f 0) l.toNat 0))))]=nT p f r (l+1).toNat:=hs.symm;rw[e];refine⟨l0,hl2,?_,hk.1,hk.2,?_,⟨g1,r0,hr2,ho.1,ho.2.1⟩,?_,?_,?_,?_,?_,⟨hc8 afD rfl,Bm rfl⟩,?_,?_⟩<;>omega
      ·rw[show l.toNat=(bE f 0).length by omega] at hcl ⊢;have hs:=@ae0 p f r r0;have hrl2:=@UU p f (r+1).toNat;simp only[kP];have e:nU p f r.toNat++[(nT p f r (bE f 0).length,bu (γa (dD p r - cQ p (γk (oI p) (bE f 1)) r)))]=nU p f (r+1).toNat:=hs.symm;rw[e];refine⟨hcl.symm,hrl.symm,?_,?_,?_,⟨LR rfl hrl2,Ve rfl⟩,?_,?_⟩<;>omega
    ·have e:r.toNat=mF p:=by
      show r.toNat=p.classes.length+12;omega
     rw[e] at hrl ⊢;rw[UR,US];refine⟨?_,hrl.symm.trans (by rw[US]),rfl,trivial,trivial⟩;rw[<-UR];exact(Lm (φ _)).symm
noncomputable def LS:cY:=LO 115 (λp f=>f.length<=1000000000000) λp f=> .bH [ae6 p f,.si .i64 (kU p f)]
noncomputable def Vf (p:bp) (f:List Int) (x:List bO):bX:=
 [.row (.i .i64) f 3 true,.cells p.ss 27 20 false,.cells [.bl false,.bl false,.sc (.slice none 0 0),.sc (.slice none 0 0),.sc (.slice none 0 0),.sc (.slice none 0 0)] 176 6 false,.cells [.row sF (ng p f).1,.row sR (ng p f).2.1] 220 2 false,
  .cells [.si .i64 1,.sb (bu (fh p f).value).1,.row (.i .u32) (bu (fh p f).value).2.1,.row (.i .u32) (bu (fh p f).value).2.2,.row sF (fL (gm (fh p f) (nF f) (mF p))),.row sF (fL (yG p f)),.row sF []] 224 7 false,.row sF x 157 true]
noncomputable def afE (p:bp) (f:List Int):Nat->cB
 |12=> .inv Int (λi=>⟨[(1,.ow 0 f.length 1),(2,.ptr 1 0 20),(4,.ptr 2 0 6),(8,.row (.i .i64) (bE f 0)),(10,.ptr 4 0 7),(11,.ow 5 f.length 3),(45,.ow 0 f.length 1),(46,.si .i64 f.length),(47,.si .i64 i)],Vf p f (fA (fL (jS p f 0)) i.toNat (false,([],[])))⟩)
   (λs=>iS s 47) (λi=>0<=i/\i<=f.length) (λi=>(f.length - i).toNat) λ_ _=> .look
 |19=> .inv Int (λk=>⟨[(1,.ow 0 f.length 1),(2,.ptr 1 0 20),(4,.ptr 2 0 6),(10,.ptr 4 0 7),(11,.ow 5 f.length 3),(63,.row (.i .i64) (bE f 0)),(64,.si .i64 (bE f 0).length),(65,.si .i64 k)],Vf p f (fL (jS p f k.toNat))⟩)
   (λs=>iS s 65) (λk=>0<=k/\k<=(bE f 0).length) (λk=>((bE f 0).length - k).toNat) λ_ _=> .look
 |_=> .look
theorem h390w:dL Tryz.prog LS:=by
 refine FA (L:=[Lj,Ld,qO,Aw]) (W:=[LQ,LP]) LS (λa=>afE a.1 a.2.2) (by simpa using⟨h394w,h396w⟩) (by simpa using⟨h393,h395,h94,h129⟩) ?_;rintro⟨p,n,f⟩ ⟨hn,hl:f.length<=1000000000000⟩;simp only at hn;subst hn;refine bQ (let c:=γb .i64;let d:=(0:Int);let e:=γc;let g:=bq.row;let h:=(-9223372036854775808:Int);let j:=(9223372036854775807:Int);let k:=bq.cells;let l:=(1:Int);let m:=γG;let n:=SV.bH;let o:=γV;let q:=γK;let Q:=δs false;let v:=bn.i .u32;let a6:=bn.b.pair (v.bK.pair v.bK);let ah:=q [Q,Q,e v [],e v [],e a6 [],e a6 []];let ai:=[c (kU p f)];let a7:=n (q [m (jU p f),m (kq p f).fst,e v (kq p f).snd.fst,e v (kq p f).snd.snd,e sF (qW p f),e sF (kr p f)]::ai);let R:=bn.i .i64;let t:=g R f 3 true;let aj:=decide (kU p f≠d);let ak:=decide ((if iD p f=true then d else(14:Int))≠d);let S:=γy .i64 0;let T:=(ng p f).fst;let a8:=(ng p f).snd.fst;let a9:=c 0;let s:=(↑f.length:Int);let w:=δd 0 f.length 1;let y:=o 1 0 20;let z:=o 2 0 6;let J:=bE f d;let G:=e R J;let A:=o 4 0 7;let H:=δd 5 f.length 3;let U:=c s;let B:=k [c p.supply.a0,c p.supply.a1,c p.supply.a2,c p.supply.a3,c p.supply.a4,c p.supply.a5,c p.opn.a0,c p.opn.a1,c p.opn.a2,c p.opn.a3,c p.opn.a4,c p.opn.a5,c p.cls.a0,c p.cls.a1,c p.cls.a2,c p.cls.a3,c p.cls.a4,c p.cls.a5,e R p.classes,e bn.off p.offers] 27 20 false;let V:=SV.sc (Value.slice none 0 0);let C:=k [Q,Q,V,V,V,V] 176 6 false;let D:=k [e sF T,e sR a8] 220 2 false;let al:=c 1;let aa:=γk (λ(r:List bO×bO) ↦(vL r.fst,ck r.snd)) a8;let P:=nS (vL T,aa);let z31:Nat:=(vL T).length;let K:=bu (fh p f).value;let W:=fL (gm (fh p f) (nF f) (mF p));let am:=e sF (fL (yG p f));let I:=k [al,m K.fst,e v K.snd.fst,e v K.snd.snd,e sF W,am,e sF []] 224 7 false;let X:=(false,[],[]);let Y:=fL (jS p f 0);let ab:=bu (γa d);let ac:=bu (γa l);let E:=(↑J.length:Int);let ad:=c E;let ae:=bu (γa (kV p f));let an:=(ae.fst,ae.snd.fst,ae.snd.snd);let ao:=(K.fst,K.snd.fst,K.snd.snd);let af:=bu (ck an+ck ao);let ap:=λ(u:Bool) (u_1:SV) ↦u=true->0=0/\0=0/\0=0/\0=0/\(n [ah,u_1]).same a7/\t.same t/\True;f.length=f.length/\f.length<=1000000000000/\(aj=true->0=0/\0=0/\0=0/\0=0/\(n (ah::ai)).same a7/\t.same t/\True)/\(aj=false->(f.length=f.length/\(bC p=d/\f.length=p.offers.length)/\jR f=true)/\ap ak S/\(ak=false->(∃(a:Lp),(T,a8)=iC a/\Bg a)/\ap false a9/\(false=false->d<=s/\s<=s/\s*(56:Int)<=(140737488355328:Int)/\s<=(1000000000000:Int)/\(((w.same w/\y.same y/\z.same z/\(e R (ng p f).snd.snd).same G/\A.same A/\(δd 5 s.toNat 3).same H/\w.same w/\U.same U/\S.same a9/\True)/\t.same t/\B.same B/\C.same C/\D.same D/\(k [al,m (bu P.value).fst,e v (bu P.value).snd.fst,e v (bu P.value).snd.snd,e sF (fL (gm P z31 aa.length)),e sF (fL (kT P z31 aa.length z31)),e sF []] 224 7 false).same I/\(g a6 (ε s.toNat X) 157 true).same (g sF (fA Y 0 X) 157 true)/\True)/\d<=d/\d<=s)/\∀(x:Int),let L:=x+l;let aq:=c L;let M:=fA Y x.toNat X;let ar:=decide (bj f x.toNat d=l);let N:=M.set x.toNat (ab.fst,ab.snd.fst,ab.snd.snd);let au:=λ(u:List (Bool×List Int×List Int)) ↦bY .i64 L/\((w.same w/\y.same y/\z.same z/\G.same G/\A.same A/\H.same H/\w.same w/\U.same U/\aq.same aq/\True)/\t.same t/\B.same B/\C.same C/\D.same D/\I.same I/\(g sF u 157 true).same (g sF (fA Y L.toNat X) 157 true)/\True)/\(d<=L/\L<=s)/\(s - L).toNat<(s - x).toNat;d<=x/\x<=s->(decide (x<s)=true->f.length=f.length/\d<=x/\x<(↑f.length:Int)/\f.length=f.length/\x.toNat<f.length/\(h<=d/\d<=j)/\f.length=M.length/\d<=x/\x<(↑M.length:Int)/\f.length=M.length/\x.toNat<M.length/\(ar=true->(h<=l/\l<=j)/\f.length=N.length/\d<=x/\x<(↑N.length:Int)/\f.length=N.length/\x.toNat<N.length/\au (N.set x.toNat (ac.fst,ac.snd.fst,ac.snd.snd)))/\(ar=false->au N))/\(decide (x<s)=false->(((w.same w/\y.same y/\z.same z/\A.same A/\H.same H/\G.same G/\(c (↑J.length:Int)).same ad/\S.same a9/\True)/\t.same t/\B.same B/\C.same C/\D.same D/\I.same I/\(g sF M 157 true).same (g sF Y 157 true)/\True)/\d<=d/\d<=E)/\∀(x:Int),let F:=fL (jS p f x.toNat);let Z:=bj J x.toNat d;let O:=x+l;let av:=c O;let ag:=bj W x.toNat sF.dflt;d<=x/\x<=E->(decide (x<E)=true->d<=x/\x<(↑J.length:Int)/\x.toNat<J.length/\d<=x/\x<(↑W.length:Int)/\x.toNat<W.length/\f.length=F.length/\d<=Z/\Z<(↑F.length:Int)/\f.length=F.length/\Z.toNat<F.length/\bY .i64 O/\((w.same w/\y.same y/\z.same z/\A.same A/\H.same H/\G.same G/\ad.same ad/\av.same av/\True)/\t.same t/\B.same B/\C.same C/\D.same D/\I.same I/\(g sF (F.set Z.toNat (ag.fst,ag.snd.fst,ag.snd.snd)) 157 true).same (g sF (fL (jS p f O.toNat)) 157 true)/\True)/\(d<=O/\O<=E)/\(E - O).toNat<(E - x).toNat)/\(decide (x<E)=false->(f.length=f.length/\bC p=d/\f.length=p.offers.length)/\(dc an/\dc ao)/\f.length=F.length/\f.length=F.length/\(n [q [δs true,m af.fst,e v af.snd.fst,e v af.snd.snd,am,e sF F],S]).same a7/\t.same t/\True)))))) (by kernel_rfl) ?_;simp only[vcs];have hz:jU p f=false->(γK [δs false,δs false,γc (bn.i IntKind.i64) [],γc (bn.i IntKind.i64) [],γc (bn.i IntKind.i64) [],γc (bn.i IntKind.i64) []]).same
   (γK [γG (jU p f),γG (kq p f).fst,γc (bn.i IntKind.u32) (kq p f).snd.fst,γc (bn.i IntKind.u32) (kq p f).snd.snd,γc sF (qW p f),γc sF (kr p f)]):=λh=>by
  unfold kq qW kr;simp only[h];rfl
 refine⟨hl,λh=>hz (by unfold jU;rw[decide_eq_false h];rfl),λh=>?_⟩;have hx0:kU p f=0:=Θ.1 h;have hcl:bC p=0/\f.length=p.offers.length/\jR f=true:=by
  unfold kU at hx0;split at hx0;·rename_i h1;exact absurd hx0 h1
  ·rename_i h1;split at hx0;·cases hx0
   ·rename_i h2;split at hx0;·rename_i h3;exact⟨Θ.1 h1,Θ.1 h2,h3⟩
    ·cases hx0
 obtain⟨hc,hln,hr⟩:=hcl;refine⟨⟨⟨hc,hln⟩,hr⟩,λh1=>⟨hz ?_,hx0.symm⟩,λh1=>?_⟩
 ·have hb:iD p f=false:=by
   cases hb:iD p f with
   |false=>rfl;|true=>rw[hb] at h1;exact absurd rfl h1
  unfold jU;rw[hb,Bool.and_false]
 ·have hb:iD p f=true:=by
   cases hb:iD p f with
   |true=>rfl;|false=>rw[hb] at h1;exact absurd (by simp) h1
  have hfx:iu p f:=⟨hc,hln,hb⟩;have hG:ng p f=((iC (jC p f)).1,((iC (jC p f)).2,bE f 0)):=by unfold ng;rw[if_pos hb]
  have hok:jU p f=true:=by unfold jU;rw[hb,decide_eq_true hx0];rfl
  have h0:(γa 0:Rat)=0:=rfl;have h1':(γa 1:Rat)=1:=rfl;simp only[hG,UO,UP,h0,h1',kP];have e1:(jC p f).1.length=nF f:=by
   show((bE f 0).map _).length=_;rw[γC]
  have e2:(jC p f).2.length=mF p:=by
   show((dV (mF p)).map _).length=_;rw[γC,jB]
  have Le:((jC p f).1,(jC p f).2)=jC p f:=rfl;simp only[Le,ae2,e1,e2];have uI:∀{x y:List bO},x=y->(bq.row sF x 157 true).same (bq.row sF y 157 true):=by rintro _ _ rfl;rfl
  have hs0:=@yH p f 0;have hf0:=@fS (jS p f 0);have hpt:=@E8 (fh p f) (nF f) (mF p);have hfp:=@fS (gm (fh p f) (nF f) (mF p));have hcast:∀k:Nat,((k:Nat):Int).toNat=k:=λk=>γq k;have hnf:nF f=(bE f 0).length:=rfl;have hdl0:=@yC f 0;refine⟨⟨jC p f,rfl,ae1 hfx⟩,λh=>(by cases h),λ_=>⟨by omega,by omega,by omega,by omega,⟨⟨⟨trivial,by rw[hcast];rfl⟩,rfl,uI (by rw[Bc,hf0,hs0,hcast])⟩,by omega,by omega⟩,?_⟩⟩;rintro i ⟨i0,i1⟩;have oP:=@Ba (fL (jS p f 0)) i.toNat (false,([],[])) (by omega);refine⟨λhi=>?_,λhi=>?_⟩
  ·have hv:bj (fL (jS p f 0)) i.toNat (false,([],[]))=bu (if bj f i.toNat 0=1 then 1 else 0):=by rw[jw (by omega),ae5 (by omega)]
   have hset:∀x:bO,x=bu (if bj f i.toNat 0=1 then 1 else 0)->(fA (fL (jS p f 0)) i.toNat (false,([],[]))).set i.toNat x=fA (fL (jS p f 0)) (i+1).toNat (false,([],[])):=λx hx=>by
    have:=Be (d:=fL (jS p f 0)) (j:=i.toNat) (z:=(false,([],[]))) (x:=x) (by omega) (hx.trans hv.symm);rw[show(i+1).toNat=i.toNat+1 by omega];exact this
   rw[Ξ];refine⟨i0,hi,by omega,by omega,by omega,i0,by omega,by omega,by omega,λh1=>⟨by omega,by omega,i0,by omega,by omega,by omega,by omega,uI ?_,by omega,by omega⟩,λh1=>⟨by omega,uI ?_,by omega,by omega⟩⟩
   ·rw[List.set_set];exact hset _ (by rw[if_pos h1])
   ·exact hset _ (by rw[if_neg h1])
  ·have hi2:i.toNat=(fL (jS p f 0)).length:=by omega
   rw[hi2,Bd];refine⟨⟨uI rfl,by omega,by omega⟩,?_⟩;rintro k ⟨k0,k1⟩;have hsk:=@yH p f k.toNat;have hfk:=@fS (jS p f k.toNat);refine⟨λhk=>?_,λhk=>?_⟩
   ·have hm:=(mH.1 (cT (d:=0) (show k.toNat<(bE f 0).length by omega))).1;have hv:bj (fL (gm (fh p f) (nF f) (mF p))) k.toNat sF.dflt=bu (bj (gm (fh p f) (nF f) (mF p)) k.toNat 0):=jw (by omega);have hst:=@ae4 p f k.toNat (by omega);rw[hv];refine⟨k0,hk,by omega,k0,by omega,by omega,by omega,hm.1,by omega,by omega,by omega,by omega,uI ?_,by omega,by omega⟩;rw[yE,show(k+1).toNat=k.toNat+1 by omega,hst]
   ·have hk2:k.toNat=nF f:=by omega
    rw[hk2] at hsk hfk ⊢;have hab:=@Ll p hc f f.length hln;rw[ψ] at hab;have hsa:Sz 1 ((kV p f:Int):Rat):=by
     unfold Sz;rw[Rat.num_intCast,Rat.den_intCast];omega
    have hsv:Sz 1000000 (fh p f).value:=by
     have:=(E4 hfx).vY (rQ hfx).1;exact this.2.2.2
    refine⟨⟨hc,hln⟩,⟨ek hsa (by omega),ek hsv (by omega)⟩,by omega,by omega,?_,hx0.symm⟩;unfold kq qW kr;simp only[hok,if_true,fe];rfl
end Go.Vi
