/-
  Contracts: Solve of a linear program whose bounds are not negative and whose values are bounded.
  Conditions: none.
-/
import Derived.Test.YtlphnffeeefcdaaGreatWC06
import Derived.Test.YtlphnffeeefcdaaGreatWC09
import Derived.Test.YtlphnffeeefcdaaGreatWC08
import Derived.Test.YtlphnffeeefcdaaGreatWC11
import Derived.Test.YtlphnffeeefcdaaGreatWC10
import Derived.Test.YtlphnffeeefcdaaGreatWC07
set_option maxRecDepth 100000
set_option maxHeartbeats 4000000
set_option linter.all false
open Bool renaming eq_false_iff->δo,and_eq_true->θ
open Classical renaming not_not->γa
open Go.Vi.AV renaming sl->ζS,sc->δe,os->ζV
open Go.Vi.SV renaming row->Δ,si->Ω,ow->γz,il->γo,sb->γn,bl->γ0,agg->γF,ptr->γU
open Int renaming toNat_natCast->γb
open IntCast renaming intCast->ζ
open List renaming replicate->δ,map_map->δn,map_congr_left->γV,length_map->γT,map->γd,length->Φ,flatMap->ζO,elem->ζv,getElem_of_mem->γB,mem_map->γf,mem_append_left->εo,take->τ,all_eq_true->ξ,take_length->χ,map_append->γg,mem_of_mem_take->γi,range_eq_range'->δF,map_cons->φ,append_nil->γ6,length_set->Ψ,sum_cons->εm,perm_ext_iff_of_nodup->δR,nodup_append->γt,filter_sublist->δx,mem_append->γu,sum_append->ζw,idxOf_lt_length_of_mem->εi,getElem?_set_ne->δG
open List.cons renaming injEq->Ξ
open Nat renaming le_refl->ψ
open Option.some renaming injEq->γ
namespace Go.Vi
open Go.Proofs.YtlphnffeeefcdaaGreat.Ir
open Go.Proofs
abbrev Lp:=List Rat×List (List Rat×Rat)
def iJ (a:Lp):sY:=(fL a.1,a.2.map λr=>(fL r.1,bu r.2))
def ly (a:Lp):Tb:=⟨a.2.map (·.1),a.2.map (·.2),a.1,0,(dL a.2.length).map λi=>a.1.length+i,dL a.1.length⟩
def rR (a:Lp):Tb:={ly a with cost:=δ a.1.length 0}
theorem adJ {a:Lp}:Ba (iJ a)=bJ a.1.length a.2.length (rR a):=by
 unfold Ba iJ bJ rR ly;simp_all[jw,fM,fL]
structure Bc (a:Lp):Prop where
 n:a.1.length<=160
 m:a.2.length<=40
 small:∃M G,Small a.1.length a.2.length M G (ly a)
 yt:kB a.2.length (ly a)
 bnd:∃B,∀x z,(ly a).holds a.1.length a.2.length x z->(∀v∈(ly a).basic++(ly a).free,0<=x v)->z<=B
noncomputable def nK (a:Lp):Tb:=lastT a.1.length a.2.length (ly a)
theorem adK {a:Lp} (h:Bc a):okO a.1.length a.2.length (ly a):=by
 obtain⟨M,G,b⟩:=h.small;exact⟨ly a,M,G,b,Run.refl b.wf b.nd,h.yt⟩
theorem adL {a:Lp} (h:Bc a):Run a.1.length a.2.length (ly a) (nK a)/\kB a.2.length (nK a)/\eG (nK a) a.1.length<0:=by
 obtain⟨M,G,c⟩:=h.small;obtain⟨B,d⟩:=h.bnd;have b:=Run.refl c.wf c.nd;have:=Kw b h.yt;exact⟨this.1,this.2.1,TU b h.yt d⟩
noncomputable def KG:bL:=⟨106,sY,.one yE,λx=>∃a:Lp,x=iJ a/\Bc a,λx=>
 let a:Lp:=(vL x.1,x.2.map λr=>(vL r.1,bK r.2));.bN [.agg [.si .i64 1,.sb (bu (nK a).value).1,.row (.i .u32) (bu (nK a).value).2.1,.row (.i .u32) (bu (nK a).value).2.2,.row sF (fL (gu (nK a) a.1.length a.2.length)),.row sF (fL (jB (nK a) a.1.length a.2.length a.1.length)),.row sF []],.si .i64 0]⟩
theorem adM {a:Lp}:((vL (iJ a).1,(iJ a).2.map λr=>(vL r.1,bK r.2)):Lp)=a:=by
 obtain⟨g,b⟩:=a;unfold iJ;simp only[jY,δn];congr 1;conv=>rhs;rw[<-List.map_id b]
 refine γV λr _=>?_;grind[jY,dU]
theorem adN {a:Lp}:((iJ a).1,(iJ a).2)=iJ a:=rfl
theorem Uf {a:Lp}:vL (iJ a).1=a.1:=jY _
theorem Ug {a:Lp}:(iJ a).2.map (λr=>(vL r.1,bK r.2))=a.2:=congrArg Prod.snd (@adM a)
theorem adO {a:Lp}:({cz:=(rR a).cz,bound:=(rR a).bound,cost:=a.1,value:=0,basic:=(rR a).basic,free:=(rR a).free}:Tb)=ly a:=rfl
theorem adP {a:Lp}:(iJ a).1.length=a.1.length:=fy
theorem adQ {a:Lp}:(iJ a).2.length=a.2.length:=γT _
theorem Uh {q:Rat} (h:Sz 1000000 q):gK (bu q)/\okF (bu q)=true:=by
 obtain⟨g,⟨a,_,c⟩,⟨b,_,e⟩⟩:=jg q;obtain⟨d,f⟩:=lM h;refine⟨⟨⟨a,b⟩,by omega,by omega⟩,?_⟩;grind[okF,dU]
theorem adS {o:Store} {d:Nat} {acc:List Nat} {l:List bM}:dc o d (γd (λx:bM=>dC bw.b x.1++dC ((bw.i .u32).bP.pair (bw.i .u32).bP) x.2) l).flatten acc=acc:=zS λa c=>nk (s:=sF) (l:=l) c
theorem adT {o:Store} {d:Nat} {acc:List Nat} {l:List (List bM)}:dc o d (γd (λx:List bM=>[ζS (Φ x) (ζO (dC sF) x)]) l).flatten acc=acc:=zS λa b=>nk (s:=sF.bP) (l:=l) b
theorem adU {o:Store} {d:Nat} {acc:List Nat} {l:List Int}:dc o d (γd (λx:Int=>γd δe (dI (bw.i .i64) x)) l).flatten acc=acc:=zS λa b=>nk (s:=bw.i .i64) (l:=l) b
theorem h395:Holds Tryz.prog KG:=by
 refine Zx (L:=[KD]) (W:=gC [KE,r400,KF,KB,EN,EO]) KG (λf=>Nat.beq f EN.f||Nat.beq f EO.f) lk (lj (by grind[h399,h400,h401,h402,h403,h405])) (by grind[h398]) ?_;rintro x ⟨a,hx,w⟩;subst hx;refine bQ (let e:=Δ;let f:=bA.row;let h:=Ω .i64;let l:=γz;let q:=bA.cells;let w:=γo .i64;let G:=(0:Int);let K:=γn;let L:=γ0 false;let M:=γF;let W:=SV.bN;let z:=(iJ a).fst;let C:=(iJ a).snd;let a1:=q [e sF z,e sR C] 172 2 false;let a9:=w 0;let aa:=Value.slice none 0 0;let X:=SV.sc aa;let F:=q [a9,L,X,X,X,X,X] 176 7 false;let I:=Ba (z,C);let p:=bJ I.n I.m I.t;let s:=bJ p.n p.m (Tb.mk p.t.cz p.t.bound (vL z) (0:Rat) p.t.basic p.t.free);let b7:=lastT s.n.toNat s.m.toNat s.t;let c:=bJ s.n s.m b7;let j:=bw.i .u32;let J:=c.v.snd.fst;let H:=c.v.snd.snd;let d:=bJ c.n c.m c.t;let V:=d.v.snd.fst;let Q:=d.v.snd.snd;let b8:=q [h d.n,h d.m,l 3 d.k0 1,l 4 d.k1 3,e sF d.cost,K d.v.fst,e j V,e j Q,l 5 d.k3 1,l 6 d.k4 1] 219 10 false;let a2:=f sF.bP d.cz 66 false;let a8:=f sF d.bound 126 false;let k:=bw.i .i64;let c0:=f k d.basic 3 false;let a6:=f k d.free 3 false;let y:=e k [];let U:=γd (λ(r:List bM×bM) ↦(vL r.fst,bK r.snd)) C;let B:=nK (vL z,U);let Z:Nat:=(vL z).length;let a5:=h 0;let b4:=W [M [h 1,K (bu B.value).fst,e j (bu B.value).snd.fst,e j (bu B.value).snd.snd,e sF (fL (gu B Z U.length)),e sF (fL (jB B Z U.length Z)),e sF []],a5];let o:=bJ d.n d.m d.t;let a3:=bW.cells [ζS z.length (γd (λ(x:sF.T) ↦dC bw.b x.fst++dC (j.bP.pair j.bP) x.snd) z).flatten,ζS C.length (γd (λ(x:sR.T) ↦dC sF.bP x.fst++dC sF x.snd) C).flatten] 172 2 false;let A:=δe aa;let b0:=bW.cells [δe (Value.int .i64 G),δe (Value.bool false),A,A,A,A,A] 176 7 false;let a4:=(γd (λ(x:sF.bP.T) ↦[ζS (Φ x) (ζO (dC sF) x)]) c.cz).flatten;let b9:=(γd (λ(x:sF.T) ↦dC bw.b x.fst++dC (j.bP.pair j.bP) x.snd) c.bound).flatten;let b5:=(γd (λ(x:k.T) ↦γd δe (dI k x)) c.basic).flatten;let a7:=(γd (λ(x:k.T) ↦γd δe (dI k x)) c.free).flatten;let E:=[a3,b0,bW.cells [δe (Value.int .i64 c.n),δe (Value.int .i64 c.m),ζV 3 0 c.k0 (c.k0*1),ζV 4 0 c.k1 (c.k1*3),ζS c.cost.length (γd (λ(x:sF.T) ↦dC bw.b x.fst++dC (j.bP.pair j.bP) x.snd) c.cost).flatten,δe (Value.bool c.v.fst),ζS J.length (γd (λ(x:j.T) ↦γd δe (dI j x)) J).flatten,ζS H.length (γd (λ(x:j.T) ↦γd δe (dI j x)) H).flatten,ζV 5 0 c.k3 (c.k3*1),ζV 6 0 c.k4 (c.k4*1)] 219 10 false,bW.cells a4 66 1 false,bW.cells b9 126 3 false,bW.cells b5 3 1 false,bW.cells a7 3 1 false];let b3:=[2,3];let N:=dc E (nat_lit 396) a4 b3;let R:=if ζv 4 N=true then N else dc E (nat_lit 395) b9 (N++[4]);let O:=if ζv 5 R=true then R else dc E (nat_lit 390) b5 (R++[5]);let a0:=(γd (λ(x:sF.bP.T) ↦[ζS (Φ x) (ζO (dC sF) x)]) d.cz).flatten;let b6:=(γd (λ(x:sF.T) ↦dC bw.b x.fst++dC (j.bP.pair j.bP) x.snd) d.bound).flatten;let b1:=(γd (λ(x:k.T) ↦γd δe (dI k x)) d.basic).flatten;let b2:=(γd (λ(x:k.T) ↦γd δe (dI k x)) d.free).flatten;let D:=[a3,b0,bW.cells [δe (Value.int .i64 d.n),δe (Value.int .i64 d.m),ζV 3 0 d.k0 (d.k0*1),ζV 4 0 d.k1 (d.k1*3),ζS d.cost.length (γd (λ(x:sF.T) ↦dC bw.b x.fst++dC (j.bP.pair j.bP) x.snd) d.cost).flatten,δe (Value.bool d.v.fst),ζS V.length (γd (λ(x:j.T) ↦γd δe (dI j x)) V).flatten,ζS Q.length (γd (λ(x:j.T) ↦γd δe (dI j x)) Q).flatten,ζV 5 0 d.k3 (d.k3*1),ζV 6 0 d.k4 (d.k4*1)] 219 10 false,bW.cells a0 66 1 false,bW.cells b6 126 3 false,bW.cells b1 3 1 false,bW.cells b2 3 1 false];let Y:=dc D (nat_lit 396) a0 b3;let P:=if ζv 4 Y=true then Y else dc D (nat_lit 395) b6 (Y++[4]);let S:=if ζv 5 P=true then P else dc D (nat_lit 390) b1 (P++[5]);let ab:=a1.same a1/\F.same F/\(q [h c.n,h c.m,l 3 c.k0 1,l 4 c.k1 3,e sF c.cost,K c.v.fst,e j J,e j H,l 5 c.k3 1,l 6 c.k4 1] 219 10 false).same b8/\(f sF.bP c.cz 66 false).same a2/\(f sF c.bound 126 false).same a8/\(f k c.basic 3 false).same c0/\(f k c.free 3 false).same a6/\True;let ac:=∃(n:Int),∃(m:Int),∃(t:Tb),c=bJ n m t/\kV n m t/\∀(v:Int),v∈t.basic->G<=v;let ad:=λ(u:Bool) ↦(!decide (eG b7 s.n.toNat<G))=u;let ae:=λ(u:Int) (c2:SV) ↦false=true->(W [M [w u,L,y,y,y,y,y],c2]).same b4;((z.length<=160/\C.length<=40)/\(∀(x:bM),x∈z->gK x/\okF x=true)/\∀(r:List bM×bM),r∈C->r.fst.length=z.length/\(∀(x:bM),x∈r.fst->gK x/\okF x=true)/\gK r.snd/\okF r.snd=true)/\ae G a5/\(false=false->(z.length<=1000/\C.length<=1000/\∀(r:List bM×bM),r∈C->r.fst.length<=1000)/\(∃(n:Int),∃(m:Int),∃(t:Tb),I=bJ n m t/\kV n m t/\kB m.toNat t)/\ae (2:Int) a9/\(false=false->(∃(n:Int),∃(m:Int),∃(t:Tb),p=bJ n m t/\kV n m t/\∃(g:List Rat),z=fL g/\g.length=n.toNat/\t.free=dL n.toNat/\∀(v:Int),v∈t.basic->n<=v)/\(∃(n:Int),∃(m:Int),∃(t:Tb),s=bJ n m t/\kV n m t/\okO n.toNat m.toNat t)/\(ad true->ac/\ab/\False)/\(ad false->ac/\ab/\(∃(n:Int),∃(m:Int),∃(t:Tb),d=bJ n m t/\kV n m t/\True)/\(a1.same a1/\F.same F/\b8.same (q [h o.n,h o.m,l 3 o.k0 1,l 4 o.k1 3,e sF o.cost,K o.v.fst,e j o.v.snd.fst,e j o.v.snd.snd,l 5 o.k3 1,l 6 o.k4 1] 219 10 false)/\a2.same (f sF.bP o.cz 66 false)/\a8.same (f sF o.bound 126 false)/\c0.same (f k o.basic 3 false)/\a6.same (f k o.free 3 false)/\True)/\if(((if ζv 6 O=true then O else dc E (nat_lit 389) a7 (O++[6])).all λ(i:Nat) ↦decide (i<7))&&(((if ζv 6 S=true then S else dc D (nat_lit 389) b2 (S++[6])).all λ(i:Nat) ↦decide (i<7))&&true))=true then(W [M [w 1,K c.v.fst,e j J,e j H,e sF (fL (gu c.t c.n.toNat c.m.toNat)),e sF (fL (jB d.t d.n.toNat d.m.toNat d.n.toNat)),y],a9]).same b4 else False)))) (by kernel_rfl) ?_;simp only[adN,adJ,sX,TI,TJ,Uf,Ug,adO,adP,adQ,γb];try simp only[vcs]
 obtain⟨M,G,hs⟩:=w.small;obtain⟨r1,r2,r3⟩:=adL w;have hw:=hs.wf;have K:=hs.wq (Run.refl hs.wf hs.nd);have hn:=w.n;have hm:=w.m;have hO:=adK w;have k1:kV a.1.length a.2.length (ly a):=⟨⟨by omega,by omega⟩,by simp_all,K⟩;have k0:kV a.1.length a.2.length (rR a):=by
  refine⟨⟨by omega,by omega⟩,⟨hw.cz,hw.row,hw.bound,by simp[rR],hw.basic,hw.free⟩,K.1,K.2.1,λq hq=>?_,K.2.2.2⟩;rw[(List.mem_replicate.1 hq).2];exact K.2.2.2
 have k2:kV a.1.length a.2.length (nK a):=TN hs (by simp_all) (by omega) (by omega);have hl:lastT a.1.length a.2.length (ly a)=nK a:=rfl;have X:((a.1,a.2):Lp)=a:=rfl;simp only[hl,X,adS,adT,adU];have c5:∀i,i<a.2.length->bp a.2 i ([],0)∈a.2:=λi hi=>dn hi;have a9:∀r∈a.2,r.1.length=a.1.length/\(∀q∈r.1,Sz 1000000 q)/\Sz 1000000 r.2:=λr hr=>by
  obtain⟨i,hi,rfl⟩:=γB hr;have h1:=hw.row i hi;have e:bp (ly a).cz i []=a.2[i].1:=by
   show bp (a.2.map (·.1)) i []=_;grind[dj]
  rw[e] at h1;refine⟨h1,K.1 _ (γf.2 ⟨a.2[i],hr,rfl⟩),K.2.1 _ (γf.2 ⟨a.2[i],hr,rfl⟩)⟩
 have hg:∀q∈a.1,Sz 1000000 q:=K.2.2.1;have hF:∀{l:List Rat},(∀q∈l,Sz 1000000 q)->∀x∈fL l,gK x/\okF x=true:=λh x hx=>by
  obtain⟨q,hq,rfl⟩:=γf.1 hx;grind[Uh]
 have a1:(∀x∈(iJ a).1,gK x/\okF x=true)/\∀r∈(iJ a).2,r.1.length=a.1.length/\(∀x∈r.1,gK x/\okF x=true)/\gK r.2/\okF r.2=true:=by
  refine⟨hF hg,λr hr=>?_⟩;obtain⟨r0,c4,rfl⟩:=γf.1 hr;obtain⟨h1,h2,h3⟩:=a9 r0 c4;exact⟨by grind[fy],hF h2,Uh h3⟩
 have c1:∀v∈(nK a).basic,0<=v:=λv hv=>by
  have:=r1.perm.mem_iff.1 (εo _ hv);grind[ly,rL]
 have c3:∀v∈(rR a).basic,(a.1.length:Int)<=v:=λv hv=>by
  grind[rR,ly,rL]
 refine⟨⟨⟨hn,hm⟩,a1.1,a1.2⟩,λh=>(by cases h),λ_=>⟨⟨by omega,by omega,λr hr=>by grind⟩,⟨_,_,_,rfl,k0,by rw[γb];exact w.yt⟩,λh=>(by cases h),λ_=>⟨⟨_,_,_,rfl,k0,a.1,rfl,by simp,rfl,c3⟩,⟨_,_,_,rfl,k1,by simpa using hO⟩,λh=>absurd r3 h,λ_=>⟨⟨_,_,_,rfl,k2,c1⟩,⟨_,_,_,rfl,k2⟩,?_⟩⟩⟩⟩;rw[if_pos (by decide)];rfl
theorem yF {f:List Int} {d:Int} {i:Int} (h:0<=i) (c:i<f.length):bE (f.take (i+1).toNat) d=bE (f.take i.toNat) d++if bp f i.toNat 0=d then[i] else[]:=by
 have a:(f.take (i+1).toNat).length=i.toNat+1:=by grind
 have b:(f.take i.toNat).length=i.toNat:=by grind
 unfold bE;rw[a,b,vZ,List.filter_append];have e:∀{k:Nat} {m:Nat},k<m->m<=f.length->bp (f.take m) k 0=bp f k 0:=λ{k m} c j=>by
  grind[dj]
 congr 1
 ·refine List.filter_congr λx g=>?_;grind[rL]
 grind
def fQ (f:List Int):Bool:=f.all λx=>decide (-1<=x)&&decide (x<=1)
def fz (p:bz) (f:List Int):Int:=if bH p≠0 then bH p else if f.length≠p.offers.length then 3 else if fQ f=true then 0 else 4
def EP:bL:=⟨104,bz×List Int,.cons dO (.one (cV (.i .i64))),λa=>a.2.length<=1000000000000,λa=> .si .i64 (fz a.1 a.2)⟩
def adV (p:bz) (f:List Int):Nat->cC
 |7=> .inv Int (λi=>⟨[(19,.row (.i .i64) f),(20,.si .i64 f.length),(21,.si .i64 i)],[.cells p.ss 27 20 false]⟩)
   (λs=>iS s 21) (λi=>(0<=i/\i<=f.length)/\fQ (f.take i.toNat)=true) (λi=>(f.length - i).toNat) λ_ _=> .look
 |_=> .look
theorem h393:Holds Tryz.prog EP:=by
 refine cq (L:=[qF]) EP (λa=>adV a.1 a.2) (by grind[h79]) ?_;rintro⟨p,f⟩ (D:f.length<=1000000000000);refine bQ (let a:=Ω .i64;let d:=(0:Int);let g:=γo .i64;let v:=decide (bH p≠d);let e:=a (fz p f);let q:=(↑f.length:Int);let r:=decide (q≠(↑p.offers.length:Int));let n:=Δ (bw.i .i64) f;let c:=(↑f.length:Int);let o:=a c;let w:=g 0;let m:=bA.cells (bz.ss p) 27 20 false;True/\(v=true->(a (bH p)).same e)/\(v=false->(r=true->(g 3).same e)/\(r=false->(((n.same n/\(a q).same o/\w.same (a 0)/\True)/\m.same m/\True)/\(d<=d/\d<=c)/\fQ []=true)/\∀(x:Int),let s:=bp f x.toNat d;let l:=decide (s<(-1:Int));let j:=decide ((1:Int)<s);let b:=x+(1:Int);let k:=a b;(d<=x/\x<=c)/\fQ (τ x.toNat f)=true->(decide (x<c)=true->d<=x/\x<q/\x.toNat<f.length/\(l=true->(g 4).same e)/\(l=false->(j=true->(g 4).same e)/\(j=false->bU .i64 b/\((n.same n/\o.same o/\k.same k/\True)/\m.same m/\True)/\((d<=b/\b<=c)/\fQ (τ b.toNat f)=true)/\(c - b).toNat<(c - x).toNat)))/\(decide (x<c)=false->w.same e)))) (by kernel_rfl) ?_;simp only[vcs];refine⟨λh=>by simp[fz,h],λh=>?_⟩;have F:bH p=0:=γa.1 h;refine⟨λy=>by
  grind[fz],λy=>⟨⟨⟨by omega,by omega⟩,rfl⟩,?_⟩⟩;have u:f.length=p.offers.length:=by omega
 rintro i ⟨⟨A,G⟩,g⟩;refine⟨λt=>?_,λt=>?_⟩
 ·have B:=dn (d:=0) (show i.toNat<f.length by omega);have H:=jN (d:=0) A t;have z:¬(-1<=bp f i.toNat 0/\bp f i.toNat 0<=1)->(4:Int)=fz p f:=λE=>by
   have:fQ f=false:=by
    rw[δo];intro C;have:=ξ.1 C _ B;grind
   grind[fz]
  grind[fQ]
 ·rw[show i.toNat=f.length by omega,χ] at g;grind[fz]
def fj (p:bz) (f:List Int):Int:=cK ((bE f 1).map (oI p))
theorem yG {p:bz} (c:bH p=0) {f:List Int} {k:Nat} (g:f.length=p.offers.length):0<=fj p (f.take k)/\fj p (f.take k)<=160000000:=by
 have a:=dR c;have e:=@rQ (f.take k) 1;have h:(f.take k).length<=f.length:=by grind
 have j:=@qG p a ((bE (f.take k) 1).map (oI p)) λx b=>by
  obtain⟨i,d,rfl⟩:=γf.1 b;have:=(kW.1 d).1;exact dn (by omega)
 have l:=a.2.1;grind[fj]
theorem KH {p:bz} {f:List Int} {i:Int} (b:0<=i) (a:i<f.length):fj p (f.take (i+1).toNat)=fj p (f.take i.toNat)+if bp f i.toNat 0=1 then(oI p i).value else 0:=by
 unfold fj;rw[yF b a,γg,pS];grind[cK]
def jO (p:bz) (f:List Int):Lp:=((cQ p f).cost,(dL (mF p)).map λr=>((bE f 0).map λi=>((dW p r (oI p i):Int):Rat),((di p r - cT p ((bE f 1).map (oI p)) r:Int):Rat)))
theorem ER {p:bz} {f:List Int}:ly (jO p f)=cQ p f:=by
 simp_all[ly,jO,cQ,dL]
def mC (p:bz) (f:List Int) (j:Nat):List bM:=fL (((bE f 0).take j).map λi=>(((oI p i).value:Int):Rat))
def nL (p:bz) (f:List Int) (r:Int) (j:Nat):List bM:=fL (((bE f 0).take j).map λi=>((dW p r (oI p i):Int):Rat))
def nM (p:bz) (f:List Int) (k:Nat):List (List bM×bM):=(dL k).map λr=>(nL p f r (bE f 0).length,bu ((di p r - cT p ((bE f 1).map (oI p)) r:Int):Rat))
theorem Ui {p:bz} {f:List Int}:mC p f (bE f 0).length=(iJ (jO p f)).1:=by
 unfold mC;rw[χ];rfl
theorem Uj {p:bz} {f:List Int}:nM p f (mF p)=(iJ (jO p f)).2:=by
 simp_all[nM,iJ,jO,nL]
theorem KI {p:bz} {f:List Int} {j:Nat} (h:j<=(bE f 0).length):(mC p f j).length=j:=by
 grind[mC,fy]
theorem Uk {p:bz} {f:List Int} {r:Int} {j:Nat} (h:j<=(bE f 0).length):(nL p f r j).length=j:=by
 grind[nL,fy]
theorem Ul {p:bz} {f:List Int} {k:Nat}:(nM p f k).length=k:=by
 grind[nM,jw]
theorem Um {l m:List Rat}:fL (l++m)=fL l++fL m:=γg
theorem adW {p:bz} {f:List Int} {j:Int} (a:0<=j) (h:j<(bE f 0).length):mC p f (j+1).toNat=mC p f j.toNat++[bu (((oI p (bp (bE f 0) j.toNat 0)).value:Int):Rat)]:=by
 unfold mC;rw[jN (d:=0) a h,γg,Um];rfl
theorem adX {p:bz} {f:List Int} {r j:Int} (a:0<=j) (h:j<(bE f 0).length):nL p f r (j+1).toNat=nL p f r j.toNat++[bu ((dW p r (oI p (bp (bE f 0) j.toNat 0)):Int):Rat)]:=by
 unfold nL;rw[jN (d:=0) a h,γg,Um];rfl
theorem adY {p:bz} {f:List Int} {r:Int} (a:0<=r):nM p f (r+1).toNat=nM p f r.toNat++[(nL p f r (bE f 0).length,bu ((di p r - cT p ((bE f 1).map (oI p)) r:Int):Rat))]:=by
 unfold nM;rw[show(r+1).toNat=r.toNat+1 by omega,vZ,γg,show((r.toNat:Nat):Int)=r by omega];rfl
def iY (p:bz) (f:List Int):Bool:=gd p ((bE f 1).map (oI p))
def mV (p:bz) (f:List Int):List bM×(List (List bM×bM)×List Int):=if iY p f=true then((iJ (jO p f)).1,((iJ (jO p f)).2,bE f 0)) else([],([],[]))
theorem adZ {p:bz} {f:List Int} (h:fb p f):Bc (jO p f):=by
 have a:=dR h.1;have c:(jO p f).1.length=nF f:=by
  show((bE f 0).map _).length=_;simp_all
 have b:(jO p f).2.length=mF p:=by
  show((dL (mF p)).map _).length=_;grind[jw]
 have g:=@rQ f 0;have i:mF p=p.classes.length+12:=rfl;refine⟨?_,?_,?_,?_,?_⟩;·rw[c];have:=h.2.1;have:=a.2.1;grind
 ·rw[b];have:=a.1;omega
 ·grind[ER,EJ]
 ·grind[ER,KA]
 ·rw[c,b,ER];exact⟨_,λx z d e=>T0 h d e⟩
theorem ad1 {p:bz} {f:List Int}:nK (jO p f)=dr p f:=by
 have b:(jO p f).1.length=nF f:=by
  show((bE f 0).map _).length=_;simp_all
 have a:(jO p f).2.length=mF p:=by
  show((dL (mF p)).map _).length=_;grind[jw]
 grind[nK,dr,ER]
noncomputable def kD (p:bz) (f:List Int) (k:Nat):List Rat:=(dL f.length).map λi=>if bp f i.toNat 0=1 then 1 else if i∈(bE f 0).take k then bp (gu (dr p f) (nF f) (mF p)) ((bE f 0).idxOf i) 0 else 0
noncomputable def jk (p:bz) (f:List Int):Rat:=((fj p f:Int):Rat)+(dr p f).value
noncomputable def gX (p:bz) (f:List Int):List Rat:=jB (dr p f) (nF f) (mF p) (nF f)
theorem yH {p:bz} {f:List Int} {k:Nat}:(kD p f k).length=f.length:=by
 grind[kD,jw]
theorem ES {p:bz} {f:List Int} {k i:Nat} (h:i<f.length):bp (kD p f k) i 0=if bp f i 0=1 then 1 else if(i:Int)∈(bE f 0).take k then bp (gu (dr p f) (nF f) (mF p)) ((bE f 0).idxOf (i:Int)) 0 else 0:=by
 unfold kD;rw[Kx (e:=0) (by grind[jw]),Ky h,γb]
theorem ad2 {l m:List Rat} (a:l.length=m.length) (h:∀i,i<m.length->bp l i 0=bp m i 0):l=m:=List.ext_getElem a λi b c=>by
 grind[dj]
theorem ad3 {p:bz} {f:List Int} {k:Nat} (b:k<nF f):(kD p f k).set (bp (bE f 0) k 0).toNat (bp (gu (dr p f) (nF f) (mF p)) k 0)=kD p f (k+1):=by
 have g:=kW.1 (dn (d:=0) b);refine ad2 (by grind[yH]) λi a=>?_;rw[yH] at a;have c:(bE f 0).idxOf (bp (bE f 0) k 0)=k:=po (uI.imp λh=>by omega) b;have e:(bE f 0).take (k+1)=(bE f 0).take k++[bp (bE f 0) k 0]:=by simp_all[dj]
 rw[iV (by grind[yH]),ES a,ES a,e];grind
theorem ad4 {p:bz} {f:List Int} {i:Nat} (h:i<f.length):bp (kD p f 0) i 0=if bp f i 0=1 then 1 else 0:=by
 grind[ES]
def jZ (p:bz) (f:List Int):Bool:=decide (fz p f=0)&&iY p f
noncomputable def kE (p:bz) (f:List Int):bM:=if jZ p f=true then bu (jk p f) else(false,([],[]))
noncomputable def qR (p:bz) (f:List Int):List bM:=if jZ p f=true then fL (gX p f) else[]
noncomputable def kF (p:bz) (f:List Int):List bM:=if jZ p f=true then fL (kD p f (nF f)) else[]
noncomputable def ad5 (p:bz) (f:List Int):SV:=.agg [.sb (jZ p f),.sb (kE p f).1,.row (.i .u32) (kE p f).2.1,.row (.i .u32) (kE p f).2.2,.row sF (qR p f),.row sF (kF p f)]
def ET (p:ja) (lo:Nat) (Λ:Nat->cC):IR->cG->(cG->Prop)->Prop
 | .skip,b,K=>K b
 | .seq x y,b,K=>wpS p lo x Λ b λc a=>match c with
  | .norm=>ET p lo Λ y a K
  |_=>False
 |_,_,_=>False
def Bd (p:ja) (Λ:Nat->cC) (F:fE) (args:List SV) (o:cu) (Q:SV->cu->Prop):Prop:=
 match F.body with
 | .tj g c d a b=>ET p o.length Λ a ⟨nn 0 args,o⟩ λe=>wpS p e.o.length b Λ ⟨(d,.ud)::e.env,e.o⟩ λi j=>if q9 i=true then
   (match p.it g with
    |some G=>if(c.map (jJ e.env)).length=G.params/\G.res.isEmpty=true then wpS p j.o.length G.body (λn=>Λ (1000+n)) ⟨nn 0 (c.map (jJ e.env)),j.o⟩ λf h=>if q9 f=true then
      nZ ⟨j.env,h.o⟩ F.res λr=>if r.cy o.length&&h.o.all (λx=>x.cy o.length)&&decide (o.length<=h.o.length) then Q r (h.o.take o.length) else False
     else False else False
    |none=>False) else False
 |_=>False
section
variable {P:Program} {T:Tab} {p:ja} {Λ:Nat->cC}
theorem ad6 (i:pO T.K p.C) (j:∀f F,p.it f=some F->T.fn f=some F) {lo:Nat}:∀{a:IR} {st:cG} {K:cG->Prop},ET p lo Λ a st K->∃s0:cG,(∃N,∀n,N<=n->q8 (exec T .plain n lo) a st.g=some s0.g)/\K s0:=by
 intro a;induction a with
 |skip=>intro st K h;exact⟨st,⟨0,λ_ _=>rfl⟩,h⟩;|seq x y _ d=>
  intro st K h;simp only[ET] at h;obtain⟨c,s,⟨N,e⟩,r,rfl,b⟩:=vB i j h;cases c with
  |norm=>
   obtain⟨s0,⟨M,m⟩,k⟩:=d b;refine⟨s0,⟨N+M,λn o=>?_⟩,k⟩;simp only[q8,e n n (by omega) (by omega)];grind;|exit q=>exact b.elim;|ret=>exact b.elim;|goto l=>exact b.elim
 |_=>intro st K h;exact h.elim
theorem ad7 (J:kP P T) (u:pO T.K p.C) (n:∀f F,p.it f=some F->T.fn f=some F) {f:FuncId} {F:fE} (S:T.fn f=some F) {args:List SV} {o:cu} {r:AV} {o':Store} (V:T.K f (gL args) (gO o) true=none) (B:args.length=F.params)
  {Q:SV->cu->Prop} (A:∀v s,Q v s->v.g=r/\gO s=o') (h:Bd p Λ F args o Q):hZ P f=true/\lD P f (gL args) (gO o) r o':=by
 unfold Bd at h;split at h
 ·rename_i g a d ia ib Z;obtain⟨b,h1,h⟩:=ad6 u n h;obtain⟨O,U,h2,c,rfl,h⟩:=vB u n h;split at h
  ·rename_i k;split at h
   ·rename_i G hG;split at h
    ·rename_i Y;obtain⟨D,I,h3,i,rfl,h⟩:=vB u n h;split at h
     ·rename_i j;obtain⟨t,k1,m⟩:=xF h;split at m
      ·rename_i y;simp only[θ,decide_eq_true_eq,ξ] at y;obtain⟨⟨a2,L⟩,N⟩:=y;have R:(cG.mk (nn 0 args) o).g=⟨iz 0 (gL args),gO o⟩:=by simp[cG.g,vC]
       have w:(gO o).length=o.length:=ob o;have a1:b.g.o.length=b.o.length:=ob b.o;have a0:c.g.o.length=c.o.length:=ob c.o;have H:a.map (eT b.g.env)=gL (a.map (jJ b.env)):=by
        rw[gn,δn];refine γV λx _=>?_;show eT (gE b.env) x=_;grind[zG]
       have z:(cG.mk ((d,.ud)::b.env) b.o).g=⟨(d,.ud)::b.g.env,b.g.o⟩:=by simp[cG.g,gE,SV.g]
       have E:(cG.mk (nn 0 (a.map (jJ b.env))) c.o).g=⟨iz 0 (gL (a.map (jJ b.env))),c.g.o⟩:=by simp[cG.g,vC]
       have W:(cG.mk c.env i.o).g=⟨c.g.env,i.g.o⟩:=rfl;have q:∀x∈gO i.o,x.cy o.length=true:=by
        grind[gO,CQ]
       have l:finish true (gO o).length t.g i.g.o=some (r,o'):=by
        simp only[finish,if_true,w];have e:lT o.length t.g i.g.o=some (t.g,(i.g.o).take o.length):=PE (by grind[zH]) q (by show o.length<=(gO i.o).length;grind[ob]);rw[e,<-(A _ _ m).1,<-(A _ _ m).2];simp_all[cG.g,gO]
       obtain⟨X,M,_⟩:=YD J S Z (own:=true) V (by grind[jV]) (s0:=b.g) (s2:=c.g) (s3:=i.g) (by simp_all) (by simp_all) k (n g G hG) (by grind) Y.2 (by simp_all) j (by simp_all) l;exact⟨X,M⟩
      ·exact m.elim
     ·exact h.elim
    ·exact h.elim
   simp_all
  ·exact h.elim
 simp_all
end
theorem Un {P:Program} {d:FuncId->Option fE} {L:List bL} {W:List dD} (c:dD) {F:fE} {k:TypeId->Option bw} {e:List Nat×Bool->Option (bw×bw)} {Λ:c.α->Nat->cC}
  (n:kP P ⟨d,λ_ _ _ _=>none⟩) (i:∀c∈W,eu P c) (o:∀c∈L,Holds P c)
  (l:d c.f=some F) (b:∀a,(c.put a).length=F.params)
  (a:c.α) (m:ny c.f W=none)
  (h:Bd (nu L (gC W) k e d) (Λ a) F (c.put a) (c.st a) λv s=>v.same (c.res a)/\kq s (c.out a)):
  hZ P c.f=true/\lD P c.f (gL (c.put a)) (gO (c.st a)) (c.res a).g (gO (c.out a)):=by
 refine ad7 (p:=nu L (gC W) k e d) (Λ:=Λ a) (Q:=λv s=>v.same (c.res a)/\kq s (c.out a)) (t6 (lj i) o n) (t7 (lj i)) (λ_ _ h=>h) l ?_ (b a) (λv s j=>⟨j.1,xE j.2⟩) h;simp_all[qC,sH,gC,t8]
theorem ad8 {k:Nat} {r a:AV} {o mid o2:Store} (c:r.bZ o (λi=>decide (k<=i))=some a) (g:jF o (λi=>decide (k<=i)) o=some mid) (e:fS (λi=>decide (k<=i)) 0 mid=o2) (f:a.cy k=true) (d:∀x∈o2,x.cy k=true) (l:k<=o2.length):lT k r o=some (a,o2.take k):=by
 unfold lT;rw[c,g];simp only[e];have m:∀x∈o2.take k,x.cy k=true:=λx h=>d x (γi h);rw[Px (by grind[eC,Hw])];have j:iO.pE (List.range k)=true:=by rw[δF];exact nodup_range'
 rw[if_pos j,CX f];have b:=Hv (k:=k) (o:=o2) m l (n:=k) (s:=0) (by omega);rw[<-δF,List.drop_zero] at b;rw[b]
def EU (k:Nat) (r:SV) (o:cu) (K:SV->cu->Prop):Prop:=
 ln o k r λb=>o5 o k 0 o λa=>if b.cy k&&a.all (λx=>x.cy k)&&decide (k<=a.length) then K b (a.take k) else False
theorem ad9 {k:Nat} {r:SV} {o:cu} {K:SV->cu->Prop} (h:EU k r o K):∃r' o',lT k r.g (gO o)=some (r'.g,gO o')/\K r' o':=by
 unfold EU at h;obtain⟨l,p,f⟩:=HM h;obtain⟨c,i,n,m,a⟩:=xM f;split at a
 ·rename_i b;simp only[θ,decide_eq_true_eq,ξ] at b;obtain⟨⟨d,j⟩,e⟩:=b;refine⟨l,c.take k,?_,a⟩;simp_all[ad8,zH,gO,CQ]
 simp_all
def EV (p:ja) (Λ:Nat->cC) (F:fE) (args:List SV) (o:cu) (Q:SV->cu->Prop):Prop:=
 wpS p o.length F.body Λ ⟨nn 0 args,o⟩ λa b=>match a with
  | .exit _=>False
  | .goto _=>False
  |_=>nZ b F.res λr=>EU o.length r b.o Q
theorem aea {P:Program} {T:Tab} {p:ja} {Λ:Nat->cC} (A:kP P T) (t:pO T.K p.C) (y:∀f F,p.it f=some F->T.fn f=some F) {f:FuncId} {F:fE} (n:T.fn f=some F) {args:List SV} {o:cu} {r:AV} {o':Store} (z:T.K f (gL args) (gO o) true=none) (j:args.length=F.params)
  {Q:SV->cu->Prop} (D:∀v s,Q v s->v.g=r/\gO s=o') (h:EV p Λ F args o Q):hZ P f=true/\lD P f (gL args) (gO o) r o':=by
 unfold EV at h;have e:=vB t y h;have d:(cG.mk (nn 0 args) o).g=⟨iz 0 (gL args),gO o⟩:=by simp[cG.g,vC]
 rw[d] at e;have i:(gO o).length=o.length:=ob o;rw[<-i] at e;have x:∀(a:cG),(nZ a F.res λv=>EU (gO o).length v a.o Q)->(nQ a.g F.res).bind (λc=>finish true (gO o).length c a.g.o)=some (r,o'):=by
  intro a m;obtain⟨c,k,l⟩:=xF m;obtain⟨u,q,w,E⟩:=ad9 l;rw[k];simp only[Option.bind_some,finish,if_true];have:lT (gO o).length c.g a.g.o=some (u.g,gO q):=w;grind
 obtain⟨k,l,_⟩:=Ci A n (o:=gO o) (own:=true) z (by grind[jV]) (v:=r) (o':=o') (e.mono λb s B=>by
  obtain⟨a,rfl,m⟩:=B;cases b<;>simp_all);simp_all
theorem aeb {P:Program} {d:FuncId->Option fE} {L:List bL} {W:List dD} (c:dD) {F:fE} {k:TypeId->Option bw} {e:List Nat×Bool->Option (bw×bw)} {Λ:c.α->Nat->cC}
  (n:kP P ⟨d,λ_ _ _ _=>none⟩) (i:∀c∈W,eu P c) (o:∀c∈L,Holds P c)
  (l:d c.f=some F) (b:∀a,(c.put a).length=F.params)
  (a:c.α) (m:ny c.f W=none)
  (h:EV (nu L (gC W) k e d) (Λ a) F (c.put a) (c.st a) λv s=>v.same (c.res a)/\kq s (c.out a)):
  hZ P c.f=true/\lD P c.f (gL (c.put a)) (gO (c.st a)) (c.res a).g (gO (c.out a)):=by
 refine aea (p:=nu L (gC W) k e d) (Λ:=Λ a) (Q:=λv s=>v.same (c.res a)/\kq s (c.out a)) (t6 (lj i) o n) (t7 (lj i)) (λ_ _ h=>h) l ?_ (b a) (λv s j=>⟨j.1,xE j.2⟩) h;simp_all[qC,sH,gC,t8]
def KJ (f:FuncId) (j:bz->List Int->Prop) (e:bz->List Int->SV):dD where
 f:=f;α:=bz×Nat×List Int;put a:=[dO.put a.1,.ow 0 a.2.1 1];st a:=[.row (.i .i64) a.2.2 3 true];dec v o:=match v,o with
  |[p,.ow 0 n 1],[.row s l 3 true]=>match dO.dec p,iF s (.i .i64) l with
   |some p,some l=>some (p,n,l)
   |_,_=>none
  |_,_=>none;ok v o a h:=by
  split at h
  ·split at h
   ·rename_i c d;simp only[γ] at h;subst h;obtain⟨rfl,k⟩:=mM d;cases k;exact⟨by simp only[gL,dO.ok _ _ c],rfl⟩
   ·cases h
  ·cases h
 inj a b c d:=by
  obtain⟨p,n,l⟩:=a;obtain⟨m,q,r⟩:=b;simp only[gL,Ξ,and_true,SV.g,AV.os.injEq,true_and] at c;simp only[gO,φ,List.map_nil,bA.g,Ξ,bW.cells.injEq,and_true] at d;rw[dO.inj p m c.1,pr (s:=.i .i64) d,c.2.1]
 dom a:=a.2.1=a.2.2.length/\j a.1 a.2.2;res a:=e a.1 a.2.2;out a:=[.row (.i .i64) a.2.2 3 true]
theorem Be {L:List bL} {W:List dD} (c:dD) (Λ:c.α->Nat->cC) (i:∀c∈W,eu Tryz.prog c) (e:∀c∈L,Holds Tryz.prog c)
  
  (h:∀a,c.dom a->Vc (EV (nu L (gC W) qD qE iQ) (Λ a) (fG c.f) (c.put a) (c.st a) λv s=>v.same (c.res a)/\kq s (c.out a))) (j:(iQ c.f).isSome=true:=by kernel_rfl) (b:∀a,(c.put a).length=(fG c.f).params:=by intro _;kernel_rfl) (d:ny c.f W=none:=by kernel_rfl):eu Tryz.prog c:=
 λa g=>aeb c rB i e (vG j) b a d (h a g).out
noncomputable def KL:dD:=KJ 108 (λp f=>bH p=0/\f.length=p.offers.length) λp f=>lr (ζ (fj p f))
def aec (p:bz) (f:List Int):Nat->cC
 |3=> .inv Int (λi=>⟨[(2,.ptr 1 0 20),(4,.ptr 2 0 3),(5,.si .i64 (fj p (f.take i.toNat))),(8,.ow 0 f.length 1),(9,.si .i64 f.length),(10,.si .i64 i)],[.row (.i .i64) f 3 true,.cells p.ss 27 20 false,.cells [.bl false,.sc (.slice none 0 0),.sc (.slice none 0 0)] 126 3 false]⟩)
   (λs=>iS s 10) (λi=>0<=i/\i<=f.length) (λi=>(f.length - i).toNat) λ_ _=> .look
 |_=> .look
theorem h396w:eu Tryz.prog KL:=by
 refine Be (L:=[oo]) (W:=[]) KL (λa=>aec a.1 a.2.2) (by simp) (by grind[h94]) ?_;rintro⟨p,n,f⟩ ⟨F,⟨v,z⟩⟩;simp only at F;subst F;simp only at v z;refine bQ (let a:=Ω .i64;let n:=(0:Int);let v:=Δ;let t:=γU 1 0 20;let q:=γU 2 0 3;let C:=γo .i64 0;let w:=γz 0 f.length 1;let e:=(↑f.length:Int);let s:=a e;let j:=bA.row (bw.i .i64) f 3 true;let r:=bA.cells (bz.ss p) 27 20 false;let D:=SV.sc (Value.slice none 0 0);let y:=bA.cells [γ0 false,D,D] 126 3 false;let d:=bw.i .u32;let h:=bu (ζ (fj p f));(((t.same t/\q.same q/\C.same (a (fj p []))/\w.same w/\s.same s/\C.same (a 0)/\True)/\j.same j/\r.same r/\y.same y/\True)/\n<=n/\n<=e)/\∀(x:Int),let b:=x+(1:Int);let m:=a b;let o:=decide (bp f x.toNat n=(1:Int));let c:=fj p (τ x.toNat f);let k:=c+(bp p.offers x.toNat bw.off.dflt).value;let g:=bu (ζ c);let l:=λ(u:Int) ↦bU .i64 b/\((t.same t/\q.same q/\(a u).same (a (fj p (τ b.toNat f)))/\w.same w/\s.same s/\m.same m/\True)/\j.same j/\r.same r/\y.same y/\True)/\(n<=b/\b<=e)/\(e - b).toNat<(e - x).toNat;n<=x/\x<=e->(decide (x<e)=true->f.length=f.length/\n<=x/\x<(↑f.length:Int)/\f.length=f.length/\x.toNat<f.length/\(o=true->n<=x/\x<(↑p.offers.length:Int)/\x.toNat<p.offers.length/\bU .i64 k/\l k)/\(o=false->l c))/\(decide (x<e)=false->((-9223372036854775808:Int)<=c/\c<=(9223372036854775807:Int))/\(γF [γn g.fst,v d g.snd.fst,v d g.snd.snd]).same (γF [γn h.fst,v d h.snd.fst,v d h.snd.snd])/\j.same j/\True)) (by kernel_rfl) ?_;simp only[vcs];have E:=(dR v).2.1;refine⟨⟨by simp[fj,bE,dL,cK],by omega,by omega⟩,?_⟩;rintro i ⟨A,J⟩;have G:=@yG p v f i.toNat z;refine⟨λB=>?_,λB=>?_⟩
 ·have K:=@KH p f i A B;have I:=kC v (i:=i) ⟨A,by omega⟩;have H:(bp p.offers i.toNat bw.off.dflt).value=(oI p i).value:=rfl;omega
 ·rw[show f.take i.toNat=f by rw[show i.toNat=f.length by omega,χ]] at G ⊢;exact⟨by omega,rfl⟩
noncomputable def KN:dD:=KJ 105 (λp f=>(bH p=0/\f.length=p.offers.length)/\fQ f=true) λp f=> .bN [.agg [.row sF (mV p f).1,.row sR (mV p f).2.1],.row (.i .i64) (mV p f).2.2,.si .i64 (if iY p f=true then 0 else 14)]
def Uo (p:bz) (f:List Int) (l:List Int) (m:List Off):cu:=[.row (.i .i64) f 3 true,.cells p.ss 27 20 false,.cells [.sc (.slice none 0 0),.sc (.slice none 0 0)] 172 2 false,.row (.i .i64) l 3 true,.row .off m 55 true]
def EW (p:bz) (f:List Int) (l:List Int) (m:List Off) (b a:Nat) (c:List (List bM×bM)) (g:List bM):cu:=Uo p f l m++[.cells p.ss 76 20 false,.cells [.ow 8 b 3,.ow 7 a 4] 172 2 false,.row sR c 207 false,.row sF g 126 false]
def aed (p:bz) (f:List Int):Nat->cC
 |9=> .inv Int (λi=>⟨[(2,.ptr 1 0 20),(4,.ptr 2 0 2),(8,.ow 3 (bE (f.take i.toNat) 0).length 1),(9,.ow 4 (bE (f.take i.toNat) 1).length 8),(36,.ow 0 f.length 1),(37,.si .i64 f.length),(38,.si .i64 i)],Uo p f (bE (f.take i.toNat) 0) ((bE (f.take i.toNat) 1).map (oI p))⟩)
   (λs=>iS s 38) (λi=>0<=i/\i<=f.length) (λi=>(f.length - i).toNat) λ_ _=> .look
 |24=> .inv Int (λj=>⟨[(2,.ptr 1 0 20),(4,.ptr 2 0 2),(8,.ow 3 (bE f 0).length 1),(9,.ow 4 (bE f 1).length 8),(12,.ptr 5 0 20),(13,.ptr 6 0 2),(71,.ow 3 (bE f 0).length 1),(72,.si .i64 (bE f 0).length),(73,.si .i64 j)],EW p f (bE f 0) ((bE f 1).map (oI p)) j.toNat 0 [] (mC p f j.toNat)⟩)
   (λs=>iS s 73) (λj=>0<=j/\j<=(bE f 0).length) (λj=>((bE f 0).length - j).toNat) λ_ _=> .look
 |29=> .inv Int (λr=>⟨[(2,.ptr 1 0 20),(4,.ptr 2 0 2),(8,.ow 3 (bE f 0).length 1),(9,.ow 4 (bE f 1).length 8),(12,.ptr 5 0 20),(13,.ptr 6 0 2),(91,.si .i64 (cE p)),(92,.si .i64 r)],EW p f (bE f 0) ((bE f 1).map (oI p)) (bE f 0).length r.toNat (nM p f r.toNat) (mC p f (bE f 0).length)⟩)
   (λs=>iS s 92) (λr=>0<=r/\r<=cE p) (λr=>(cE p - r).toNat) λr k=>match k with
   |33=> .inv Int (λj=>⟨[(2,.ptr 1 0 20),(4,.ptr 2 0 2),(8,.ow 3 (bE f 0).length 1),(9,.ow 4 (bE f 1).length 8),(12,.ptr 5 0 20),(13,.ptr 6 0 2),(16,.si .i64 r),(17,.si .i64 (di p r - cT p (((bE f 1).map (oI p)).take j.toNat) r)),(91,.si .i64 (cE p)),(92,.si .i64 r),(98,.ow 4 (bE f 1).length 8),(99,.si .i64 (bE f 1).length),(100,.si .i64 j)],EW p f (bE f 0) ((bE f 1).map (oI p)) (bE f 0).length r.toNat (nM p f r.toNat) (mC p f (bE f 0).length)⟩)
     (λs=>iS s 100) (λj=>0<=j/\j<=(bE f 1).length) (λj=>((bE f 1).length - j).toNat) λ_ _=> .look
   |39=> .inv Int (λj=>⟨[(2,.ptr 1 0 20),(4,.ptr 2 0 2),(8,.ow 3 (bE f 0).length 1),(9,.ow 4 (bE f 1).length 8),(12,.ptr 5 0 20),(13,.ptr 6 0 2),(16,.si .i64 r),(20,.ptr 9 0 4),(91,.si .i64 (cE p)),(92,.si .i64 r),(114,.ow 3 (bE f 0).length 1),(115,.si .i64 (bE f 0).length),(116,.si .i64 j)],EW p f (bE f 0) ((bE f 1).map (oI p)) (bE f 0).length r.toNat (nM p f r.toNat) (mC p f (bE f 0).length)++[.cells [.ow 10 j.toNat 3,.sb (bu ((di p r - cT p ((bE f 1).map (oI p)) r:Int):Rat)).1,.row (.i .u32) (bu ((di p r - cT p ((bE f 1).map (oI p)) r:Int):Rat)).2.1,.row (.i .u32) (bu ((di p r - cT p ((bE f 1).map (oI p)) r:Int):Rat)).2.2] 207 4 false,.row sF (nL p f r j.toNat) 126 false]⟩)
     (λs=>iS s 116) (λj=>0<=j/\j<=(bE f 0).length) (λj=>((bE f 0).length - j).toNat) λ_ _=> .look
   |_=> .look
 |_=> .look
theorem h394w:eu Tryz.prog KN:=by
 refine Be (L:=[qF,oo,Dc,xQ,xN,xO]) (W:=[]) KN (λa=>aed a.1 a.2.2) (by simp) (by grind[h79,h94,h134,h156,h157,h158]) ?_;rintro⟨p,n,f⟩ ⟨hn,⟨⟨hc,hl⟩,hr⟩⟩;simp only at hn;subst hn;simp only at hc hl hr;refine bQ (let a:=Ω .i64;let c:=(0:Int);let d:=bA.row;let e:=bA.cells;let h:=γz;let j:=(-9223372036854775808:Int);let k:=Δ;let l:=(1:Int);let n:=(9223372036854775807:Int);let o:=bU .i64;let q:=γo .i64;let r:=γU;let y:=γF;let L:=SV.bN;let ab:=SV.sc (Value.slice none 0 0);let aa:=bw.i .i64;let ad:=L [y [k sF (mV p f).fst,k sR (mV p f).snd.fst],k aa (mV p f).snd.snd,a (if iY p f=true then c else(14:Int))];let D:=d aa f 3 true;let W:=(↑f.length:Int);let ae:=p.offers.length;let ac:=(↑ae:Int);let M:=r 1 0 20;let N:=r 2 0 2;let a7:=h 0 f.length 1;let b2:=a W;let a6:=q 0;let i5:=[a p.supply.a0,a p.supply.a1,a p.supply.a2,a p.supply.a3,a p.supply.a4,a p.supply.a5,a p.opn.a0,a p.opn.a1,a p.opn.a2,a p.opn.a3,a p.opn.a4,a p.opn.a5,a p.cls.a0,a p.cls.a1,a p.cls.a2,a p.cls.a3,a p.cls.a4,a p.cls.a5,k aa p.classes,k bw.off p.offers];let m:=e i5 27 20 false;let g:=e [ab,ab] 172 2 false;let l2:=d bw.off [] 55 true;let d0:=bw.off.dflt;let e5:=(↑p.classes.length:Int);let Z:=bw.i .u32;let a8:=bw.b.pair (Z.bP.pair Z.bP);let e7:=a8.bP.pair a8;let E:=bE f c;let P:=E.length;let s:=h 3 P 1;let c6:Nat:=(bE f l).length;let t:=h 4 c6 8;let z:=r 5 0 20;let w:=r 6 0 2;let A:=(↑P:Int);let X:=a A;let B:=d aa E 3 true;let Q:=γd (oI p) (bE f l);let C:=d bw.off Q 55 true;let v:=e i5 76 20 false;let b4:=[h 7 0 4];let h4:=e (h 8 0 3::b4) 172 2 false;let c8:=d sR [] 207 false;let j5:=d a8 [] 126 false;let G:=a (cE p);let c5:=h 8 P 3;let g7:=mC p f P;let J:=d sF g7 126 false;let S:=(↑c6:Int);let d1:=a S;let c7:=r 9 0 4;let i6:=h 10 0 3;let af:=λ(u e4:Int) (l8:SV) ↦decide (u≠e4)=true->(L [y [ab,ab],ab,l8]).same ad/\D.same D/\True;True/\af (bH p) c (a (bH p))/\(decide (bH p≠c)=false->af W ac (q 3)/\(decide (W≠ac)=false->(((M.same M/\N.same N/\(h 3 0 1).same (h 3 (bE [] c).length 1)/\(h 4 0 8).same (h 4 (bE [] l).length 8)/\a7.same a7/\b2.same b2/\a6.same (a 0)/\True)/\D.same D/\m.same m/\g.same g/\(d aa [] 3 true).same (d aa (bE [] c) 3 true)/\l2.same l2/\True)/\c<=c/\c<=W)/\∀(x:Int),let c4:=bE (τ x.toNat f) l;let i9:=h 4 c4.length 8;let O:=x+l;let c9:=τ O.toNat f;let j7:=h 4 (bE c9 l).length 8;let c2:=a O;let k8:=h 3 (bE c9 c).length 1;let j2:=d aa (bE c9 c) 3 true;let R:=γd (oI p) c4;let h9:=d bw.off R 55 true;let k3:=d bw.off (γd (oI p) (bE c9 l)) 55 true;let f2:=bp f x.toNat c;let l5:=decide (f2=(-1:Int));let b1:=bE (τ x.toNat f) c;let d3:=b1.length;let f0:=d aa b1 3 true;let h6:=decide (f2=c);let j6:=b1.length+1;let g9:=decide (f2=l);let k9:=R.length+1;let f8:=h 3 d3 1;let k2:=R++[bp p.offers x.toNat d0];let l6:=i9.same j7/\a7.same a7/\b2.same b2/\c2.same c2/\True;let h8:=λ(u:Nat) (e4:bA) ↦o O/\((M.same M/\N.same N/\(h 3 u 1).same k8/\l6)/\D.same D/\m.same m/\g.same g/\e4.same j2/\h9.same k3/\True)/\(c<=O/\O<=W)/\(W - O).toNat<(W - x).toNat;c<=x/\x<=W->(decide (x<W)=true->f.length=f.length/\c<=x/\x<(↑f.length:Int)/\f.length=f.length/\x.toNat<f.length/\(l5=true->h8 d3 f0)/\(l5=false->(h6=true->d3=b1.length/\j6*8<=140737488355328/\j6<=1000000000000/\h8 (b1++[x]).length (d aa (b1++[x]) 3 true))/\(h6=false->(g9=true->c<=x/\x<ac/\x.toNat<ae/\c4.length=R.length/\k9*64<=140737488355328/\k9<=1000000000000/\o O/\((M.same M/\N.same N/\f8.same k8/\(h 4 k2.length 8).same j7/\a7.same a7/\b2.same b2/\c2.same c2/\True)/\D.same D/\m.same m/\g.same g/\f0.same j2/\(d bw.off k2 55 true).same k3/\True)/\(c<=O/\O<=W)/\(W - O).toNat<(W - x).toNat)/\(g9=false->(L [y [ab,ab],ab,q 4]).same ad/\D.same D/\True))))/\(decide (x<W)=false->c4.length=R.length/\(p.classes.length<=8/\R.length<=1000/\∀(x:Off),x∈R->c<=x.ck/\x.ck<e5/\x.want.ok=true)/\((!gd p R)=true->0=0/\0=0/\0=0/\(L [y [k a8 [],k e7 []],k aa [],q 14]).same ad/\D.same D/\True)/\((!gd p R)=false->(((M.same M/\N.same N/\f8.same s/\i9.same t/\z.same z/\w.same w/\f8.same s/\(a (↑d3:Int)).same X/\a6.same (a 0)/\True)/\D.same D/\m.same m/\g.same g/\f0.same B/\h9.same C/\v.same v/\h4.same h4/\(d e7 [] 207 false).same c8/\j5.same (d sF (mC p f 0) 126 false)/\True)/\c<=c/\c<=A)/\∀(x:Int),let d2:=bp E x.toNat c;let f6:=(bp p.offers d2.toNat d0).value;let d9:=mC p f x.toNat;let l4:=d9.length+1;let Y:=x+l;let g8:=a Y;let f9:=bu (ζ f6);let k6:=d9++[(f9.fst,f9.snd.fst,f9.snd.snd)];c<=x/\x<=A->(decide (x<A)=true->P=E.length/\c<=x/\x<(↑E.length:Int)/\P=E.length/\x.toNat<E.length/\c<=d2/\d2<ac/\d2.toNat<ae/\(j<=f6/\f6<=n)/\1=1/\x.toNat=d9.length/\l4*56<=140737488355328/\l4<=1000000000000/\o Y/\((M.same M/\N.same N/\s.same s/\t.same t/\z.same z/\w.same w/\s.same s/\X.same X/\g8.same g8/\True)/\D.same D/\m.same m/\g.same g/\B.same B/\C.same C/\v.same v/\(e (h 8 k6.length 3::b4) 172 2 false).same (e (h 8 Y.toNat 3::b4) 172 2 false)/\c8.same c8/\(d a8 k6 126 false).same (d sF (mC p f Y.toNat) 126 false)/\True)/\(c<=Y/\Y<=A)/\(A - Y).toNat<(A - x).toNat)/\(decide (x<A)=false->p.classes.length<=8/\(((M.same M/\N.same N/\s.same s/\t.same t/\z.same z/\w.same w/\G.same G/\a6.same (a 0)/\True)/\D.same D/\m.same m/\g.same g/\B.same B/\C.same C/\v.same v/\(e (h 8 x.toNat 3::b4) 172 2 false).same (e (c5::b4) 172 2 false)/\c8.same (d sR (nM p f 0) 207 false)/\(d sF d9 126 false).same J/\True)/\c<=c/\c<=cE p)/\∀(x:Int),let j3:=decide (x<cE p);let T:=e [c5,h 7 x.toNat 4] 172 2 false;let a9:=nM p f x.toNat;let U:=d sR a9 207 false;let b3:=bu (ζ (di p x - cT p Q x));let f1:=[γn b3.fst,k Z b3.snd.fst,k Z b3.snd.snd];let k4:=a9.length+1;let V:=x+l;let i8:=a V;c<=x/\x<=cE p->(j3=true->(p.classes.length<=8/\c<=x/\x<cE p)/\(((M.same M/\N.same N/\s.same s/\t.same t/\z.same z/\w.same w/\(a x).same (a x)/\(a (di p x)).same (a (di p x - cT p [] x))/\G.same G/\(a x).same (a x)/\t.same t/\d1.same d1/\a6.same (a 0)/\True)/\D.same D/\m.same m/\g.same g/\B.same B/\C.same C/\v.same v/\T.same T/\U.same U/\J.same J/\True)/\c<=c/\c<=S)/\∀(K:Int),let f4:=bp Q K.toNat d0;let d7:=di p x - cT p (τ K.toNat Q) x;let k5:=d7 - dW p x f4;let b0:=K+l;let H:=a x;let i4:=a b0;let e9:=bu (ζ d7);c<=K/\K<=S->(decide (K<S)=true->c6=Q.length/\c<=K/\K<(↑Q.length:Int)/\c6=Q.length/\K.toNat<Q.length/\(p.classes.length<=8/\c<=x/\x<cE p/\c<=f4.ck/\f4.ck<e5)/\o k5/\o b0/\((M.same M/\N.same N/\s.same s/\t.same t/\z.same z/\w.same w/\H.same H/\(a k5).same (a (di p x - cT p (τ b0.toNat Q) x))/\G.same G/\H.same H/\t.same t/\d1.same d1/\i4.same i4/\True)/\D.same D/\m.same m/\g.same g/\B.same B/\C.same C/\v.same v/\T.same T/\U.same U/\J.same J/\True)/\(c<=b0/\b0<=S)/\(S - b0).toNat<(S - K).toNat)/\(decide (K<S)=false->(j<=d7/\d7<=n)/\(((M.same M/\N.same N/\s.same s/\t.same t/\z.same z/\w.same w/\H.same H/\c7.same c7/\G.same G/\H.same H/\s.same s/\X.same X/\a6.same (a 0)/\True)/\D.same D/\m.same m/\g.same g/\B.same B/\C.same C/\v.same v/\T.same T/\U.same U/\J.same J/\(e [i6,γn e9.fst,k Z e9.snd.fst,k Z e9.snd.snd] 207 4 false).same (e (i6::f1) 207 4 false)/\j5.same (d sF (nL p f x 0) 126 false)/\True)/\c<=c/\c<=A)/\∀(F:Int),let c3:=bp E F.toNat c;let f3:=bp p.offers c3.toNat d0;let e3:=dW p x f3;let c0:=nL p f x F.toNat;let k7:=c0.length+1;let I:=F+l;let e0:=a I;let b7:=bu (ζ e3);let e2:=c0++[(b7.fst,b7.snd.fst,b7.snd.snd)];let e1:=a9++[(c0,b3.fst,b3.snd.fst,b3.snd.snd)];c<=F/\F<=A->(decide (F<A)=true->P=E.length/\c<=F/\F<(↑E.length:Int)/\P=E.length/\F.toNat<E.length/\c<=c3/\c3<ac/\c3.toNat<ae/\(p.classes.length<=8/\c<=x/\x<cE p/\c<=f3.ck/\f3.ck<e5)/\(j<=e3/\e3<=n)/\1=1/\F.toNat=c0.length/\k7*56<=140737488355328/\k7<=1000000000000/\o I/\((M.same M/\N.same N/\s.same s/\t.same t/\z.same z/\w.same w/\H.same H/\c7.same c7/\G.same G/\H.same H/\s.same s/\X.same X/\e0.same e0/\True)/\D.same D/\m.same m/\g.same g/\B.same B/\C.same C/\v.same v/\T.same T/\U.same U/\J.same J/\(e (h 10 e2.length 3::f1) 207 4 false).same (e (h 10 I.toNat 3::f1) 207 4 false)/\(d a8 e2 126 false).same (d sF (nL p f x I.toNat) 126 false)/\True)/\(c<=I/\I<=A)/\(A - I).toNat<(A - F).toNat)/\(decide (F<A)=false->F.toNat=c0.length/\1=1/\x.toNat=a9.length/\k4*80<=140737488355328/\k4<=1000000000000/\o V/\((M.same M/\N.same N/\s.same s/\t.same t/\z.same z/\w.same w/\G.same G/\i8.same i8/\True)/\D.same D/\m.same m/\g.same g/\B.same B/\C.same C/\v.same v/\(e [c5,h 7 e1.length 4] 172 2 false).same (e [c5,h 7 V.toNat 4] 172 2 false)/\(d e7 e1 207 false).same (d sR (nM p f V.toNat) 207 false)/\J.same J/\True)/\(c<=V/\V<=cE p)/\(cE p - V).toNat<(cE p - x).toNat)))/\(j3=false->P=g7.length/\x.toNat=a9.length/\P=E.length/\(L [y [k sF g7,k sR a9],k aa E,a6]).same ad/\D.same D/\True))))))) (by kernel_rfl) ?_;simp only[vcs];obtain⟨g1,g2,g3,g4,g5⟩:=dR hc;have f5:∀k:Nat,∀o:Int,o=k->(bp p.offers k bw.off.dflt)=oI p o:=λk o h=>by subst h;rfl
 have b8:∀{a b:Nat},a=b->(γz 3 a 1).same (γz 3 b 1):=by rintro _ _ rfl;rfl
 have d5:∀{a b:Nat},a=b->(γz 4 a 8).same (γz 4 b 8):=by rintro _ _ rfl;rfl
 have d8:∀{x y:List Int},x=y->(bA.row (.i .i64) x 3 true).same (bA.row (.i .i64) y 3 true):=by rintro _ _ rfl;rfl
 have f7:∀{x y:List Off},x=y->(bA.row .off x 55 true).same (bA.row .off y 55 true):=by rintro _ _ rfl;rfl
 refine⟨λh=>absurd hc h,λ_=>⟨λh=>absurd (by rw[hl]) h,λ_=>⟨⟨⟨⟨b8 rfl,d5 rfl⟩,d8 rfl⟩,by omega,by omega⟩,?_⟩⟩⟩;rintro i ⟨i0,i1⟩;have m7:(f.take i.toNat).length<=160:=by grind
 have m2:=@rQ (f.take i.toNat) 0;have m3:=@rQ (f.take i.toNat) 1;have e6:(γd (oI p) (bE (f.take i.toNat) 1)).length=(bE (f.take i.toNat) 1).length:=γT _;refine⟨λhi=>?_,λhi=>?_⟩
 ·have c1:=@yF f 0 i i0 hi;have b6:=@yF f 1 i i0 hi;have m4: -1<=bp f i.toNat 0/\bp f i.toNat 0<=1:=by
   have:=ξ.1 hr _ (dn (d:=0) (show i.toNat<f.length by omega));simp_all
  refine⟨i0,hi,by omega,λh1=>?_,λh1=>⟨λh2=>?_,λh2=>⟨λh3=>?_,λh3=>by omega⟩⟩⟩
  ·rw[if_neg (by omega),γ6] at c1 b6;grind
  ·rw[if_pos (by omega)] at c1;rw[if_neg (by omega),γ6] at b6;rw[c1,b6];refine⟨?_,?_,?_,⟨⟨b8 rfl,d5 rfl⟩,d8 rfl,f7 rfl⟩,?_,?_⟩<;>omega
  ·rw[if_neg (by omega),γ6] at c1;rw[if_pos (by omega)] at b6;rw[c1,b6,f5 i.toNat i (by omega),e6];have e:γd (oI p) (bE (f.take i.toNat) 1)++[oI p i]=γd (oI p) (bE (f.take i.toNat) 1++[i]):=by simp_all
   rw[e,γT];refine⟨i0,?_,?_,rfl,?_,?_,?_,⟨⟨b8 rfl,d5 rfl⟩,d8 rfl,f7 rfl⟩,?_,?_⟩<;>omega
 ·have l9:f.take i.toNat=f:=by grind
  rw[l9] at m2 m3 e6 ⊢;have j4:∀d,(bE f d).length<=160:=λd=>by grind[rQ]
  refine⟨e6.symm,⟨g1,by omega,λx hx=>?_⟩,λhb=>?_,λhb=>?_⟩;·grind[kW,kC]
  ·have g0:iY p f=false:=hb;unfold mV;simp only[g0];exact⟨rfl,rfl,rfl⟩
  ·have g0:iY p f=true:=hb;have hG:mV p f=((iJ (jO p f)).1,((iJ (jO p f)).2,bE f 0)):=by simp_all[mV]
   simp only[g0,if_true,hG];have i2:fb p f:=⟨hc,hl,hb⟩;have b9:∀{x y:List bM},x=y->(bA.row sF x 126 false).same (bA.row sF y 126 false):=by rintro _ _ rfl;rfl
   have l3:∀{x y:List (List bM×bM)},x=y->(bA.row sR x 207 false).same (bA.row sR y 207 false):=by rintro _ _ rfl;rfl
   have e8:∀{a b c d:Nat},a=b->c=d->(bA.cells [.ow 8 a 3,.ow 7 c 4] 172 2 false).same (bA.cells [.ow 8 b 3,.ow 7 d 4] 172 2 false):=by rintro _ _ _ _ rfl rfl;rfl
   have i3:∀{a b:Nat} {q q':Rat},a=b->q=q'->(bA.cells [.ow 10 a 3,.sb (bu q).1,.row (.i .u32) (bu q).2.1,.row (.i .u32) (bu q).2.2] 207 4 false).same (bA.cells [.ow 10 b 3,.sb (bu q').1,.row (.i .u32) (bu q').2.1,.row (.i .u32) (bu q').2.2] 207 4 false):=by rintro _ _ _ _ rfl rfl;rfl
   have m8:=j4 0;have m6:=j4 1;have b5:∀j:Int,0<=j->j<(bE f 0).length->(0<=bp (bE f 0) j.toNat 0/\bp (bE f 0) j.toNat 0<p.offers.length):=λj h0 h1=>by
    have:=(kW.1 (dn (d:=0) (show j.toNat<(bE f 0).length by omega))).1;omega
   refine⟨⟨⟨⟨b8 rfl,d5 rfl,b8 rfl,trivial⟩,d8 rfl,f7 rfl,b9 rfl⟩,by omega,by omega⟩,?_⟩;rintro j ⟨j0,j1⟩;have m9:=@KI p f j.toNat (by omega);refine⟨λhj=>?_,λhj=>?_⟩
   ·have hk:=b5 j j0 hj;have ho:=kC hc hk;have hs:=@adW p f j j0 hj;have j8:=@KI p f (j+1).toNat (by omega);rw[f5 _ (bp (bE f 0) j.toNat 0) (by omega)];simp only[ji];have e:mC p f j.toNat++[bu (ζ (oI p (bp (bE f 0) j.toNat 0)).value)]=mC p f (j+1).toNat:=hs.symm;rw[e];refine⟨j0,hj,?_,hk.1,hk.2,?_,?_,?_,?_,?_,?_,⟨e8 j8 rfl,b9 rfl⟩,?_,?_⟩<;>omega
   ·rw[show j.toNat=(bE f 0).length by omega];have n0:cE p=p.classes.length+12:=rfl;refine⟨g1,⟨⟨e8 rfl rfl,l3 rfl,b9 rfl⟩,by omega,by omega⟩,?_⟩;rintro r ⟨r0,r1⟩;have g6:=@Ul p f r.toNat;refine⟨λd4=>⟨⟨g1,r0,d4⟩,⟨by simp[cT],by omega,by omega⟩,?_⟩,λd4=>?_⟩
    ·rintro k ⟨k0,k1⟩;have m0:∀x∈(γd (oI p) (bE f 1)).take k.toNat,x.want.ok=true:=λx hx=>(EI i2 x (γi hx)).2.2.1;have l7:=@sL p r ((γd (oI p) (bE f 1)).take k.toNat) m0;have h5:((γd (oI p) (bE f 1)).take k.toNat).length<=160:=by rw[List.length_take];omega
     have n1:=@AQ p hc r;refine⟨λhk=>?_,λhk=>?_⟩
     ·have hx:=EI i2 _ (dn (d:=bw.off.dflt) (show k.toNat<(γd (oI p) (bE f 1)).length by omega));have m5:=@HU p r (γd (oI p) (bE f 1)) k bw.off.dflt k0 (by omega);have m1:=@o6 p r _ hx.2.2.1;refine⟨?_,k0,?_,?_,?_,⟨g1,r0,d4,hx.1,hx.2.1⟩,?_,?_,?_,?_,?_⟩<;>omega
     ·have e:(γd (oI p) (bE f 1)).take k.toNat=γd (oI p) (bE f 1):=List.take_of_length_le (by omega);rw[e] at l7 h5 ⊢;refine⟨by omega,⟨⟨i3 rfl rfl,b9 rfl⟩,by omega,by omega⟩,?_⟩;rintro l ⟨l0,l1⟩;have h7:=@Uk p f r l.toNat (by omega);refine⟨λd6=>?_,λd6=>?_⟩
      ·have hk:=b5 l l0 d6;have ho:=kC hc hk;have hs:=@adX p f r l l0 d6;have i7:=@Uk p f r (l+1).toNat (by omega);have m1:=@o6 p r _ ho.2.2.1;rw[f5 _ (bp (bE f 0) l.toNat 0) (by omega)];simp only[ji];have e:nL p f r l.toNat++[bu (ζ (dW p r (oI p (bp (bE f 0) l.toNat 0))))]=nL p f r (l+1).toNat:=hs.symm;rw[e];refine⟨l0,d6,?_,hk.1,hk.2,?_,⟨g1,r0,d4,ho.1,ho.2.1⟩,?_,?_,?_,?_,?_,⟨i3 i7 rfl,b9 rfl⟩,?_,?_⟩<;>omega
      ·rw[show l.toNat=(bE f 0).length by omega] at h7 ⊢;have hs:=@adY p f r r0;have j9:=@Ul p f (r+1).toNat;simp only[ji];have e:nM p f r.toNat++[(nL p f r (bE f 0).length,bu (ζ (di p r - cT p (γd (oI p) (bE f 1)) r)))]=nM p f (r+1).toNat:=hs.symm;rw[e];refine⟨h7.symm,g6.symm,?_,?_,?_,⟨e8 rfl j9,l3 rfl⟩,?_,?_⟩<;>omega
    ·have e:r.toNat=mF p:=by
      show r.toNat=p.classes.length+12;omega
     rw[e] at g6 ⊢;rw[Ui,Uj];refine⟨?_,g6.symm.trans (by rw[Uj]),rfl,trivial,trivial⟩;rw[<-Ui];exact(KI (ψ _)).symm
noncomputable def KO:dD:=KJ 72 (λp f=>f.length<=1000000000000) λp f=> .bN [ad5 p f,.si .i64 (fz p f)]
noncomputable def Up (p:bz) (f:List Int) (x:List bM):cu:=
 [.row (.i .i64) f 3 true,.cells p.ss 27 20 false,.cells [.bl false,.bl false,.sc (.slice none 0 0),.sc (.slice none 0 0),.sc (.slice none 0 0),.sc (.slice none 0 0)] 135 6 false,.cells [.row sF (mV p f).1,.row sR (mV p f).2.1] 172 2 false,
  .cells [.si .i64 1,.sb (bu (dr p f).value).1,.row (.i .u32) (bu (dr p f).value).2.1,.row (.i .u32) (bu (dr p f).value).2.2,.row sF (fL (gu (dr p f) (nF f) (mF p))),.row sF (fL (gX p f)),.row sF []] 176 7 false,.row sF x 126 true]
noncomputable def aee (p:bz) (f:List Int):Nat->cC
 |12=> .inv Int (λi=>⟨[(1,.ow 0 f.length 1),(2,.ptr 1 0 20),(4,.ptr 2 0 6),(8,.row (.i .i64) (bE f 0)),(10,.ptr 4 0 7),(11,.ow 5 f.length 3),(45,.ow 0 f.length 1),(46,.si .i64 f.length),(47,.si .i64 i)],Up p f (eY (fL (kD p f 0)) i.toNat (false,([],[])))⟩)
   (λs=>iS s 47) (λi=>0<=i/\i<=f.length) (λi=>(f.length - i).toNat) λ_ _=> .look
 |19=> .inv Int (λk=>⟨[(1,.ow 0 f.length 1),(2,.ptr 1 0 20),(4,.ptr 2 0 6),(10,.ptr 4 0 7),(11,.ow 5 f.length 3),(63,.row (.i .i64) (bE f 0)),(64,.si .i64 (bE f 0).length),(65,.si .i64 k)],Up p f (fL (kD p f k.toNat))⟩)
   (λs=>iS s 65) (λk=>0<=k/\k<=(bE f 0).length) (λk=>((bE f 0).length - k).toNat) λ_ _=> .look
 |_=> .look
theorem h390w:eu Tryz.prog KO:=by
 refine Be (L:=[EP,KG,oo,vU]) (W:=[KN,KL]) KO (λa=>aee a.1 a.2.2) (by grind[h394w,h396w]) (by grind[h393,h395,h94,h129]) ?_;rintro⟨p,n,f⟩ ⟨hn,hl:f.length<=1000000000000⟩;simp only at hn;subst hn;refine bQ (let d:=Ω .i64;let h:=(0:Int);let k:=Δ;let n:=bA.row;let y:=(-9223372036854775808:Int);let I:=(9223372036854775807:Int);let L:=bA.cells;let M:=(1:Int);let W:=γn;let Z:=SV.bN;let a7:=γU;let a8:=γF;let a9:=γ0 false;let H:=bw.i .u32;let ab:=bw.b.pair (H.bP.pair H.bP);let ad:=a8 [a9,a9,k H [],k H [],k ab [],k ab []];let ae:=[d (fz p f)];let ac:=Z (a8 [W (jZ p f),W (kE p f).fst,k H (kE p f).snd.fst,k H (kE p f).snd.snd,k sF (qR p f),k sF (kF p f)]::ae);let aa:=bw.i .i64;let A:=n aa f 3 true;let af:=decide (fz p f≠h);let c1:=decide ((if iY p f=true then h else(14:Int))≠h);let T:=γo .i64 0;let K:=(mV p f).fst;let a6:=(mV p f).snd.fst;let b3:=d 0;let c:=(↑f.length:Int);let e:=γz 0 f.length 1;let g:=a7 1 0 20;let m:=a7 2 0 6;let G:=bE f h;let z:=k aa G;let o:=a7 4 0 7;let w:=γz 5 f.length 3;let Q:=d c;let q:=L [d p.supply.a0,d p.supply.a1,d p.supply.a2,d p.supply.a3,d p.supply.a4,d p.supply.a5,d p.opn.a0,d p.opn.a1,d p.opn.a2,d p.opn.a3,d p.opn.a4,d p.opn.a5,d p.cls.a0,d p.cls.a1,d p.cls.a2,d p.cls.a3,d p.cls.a4,d p.cls.a5,k aa p.classes,k bw.off p.offers] 27 20 false;let O:=SV.sc (Value.slice none 0 0);let t:=L [a9,a9,O,O,O,O] 135 6 false;let j:=L [k sF K,k sR a6] 172 2 false;let c2:=d 1;let b1:=γd (λ(r:List bM×bM) ↦(vL r.fst,bK r.snd)) a6;let J:=nK (vL K,b1);let b2:Nat:=(vL K).length;let B:=bu (dr p f).value;let N:=fL (gu (dr p f) (nF f) (mF p));let b6:=k sF (fL (gX p f));let v:=L [c2,W B.fst,k H B.snd.fst,k H B.snd.snd,k sF N,b6,k sF []] 176 7 false;let R:=(false,[],[]);let P:=fL (kD p f 0);let X:=bu (ζ h);let U:=bu (ζ M);let l:=(↑G.length:Int);let Y:=d l;let b0:=bu (ζ (fj p f));let c3:=(b0.fst,b0.snd.fst,b0.snd.snd);let b9:=(B.fst,B.snd.fst,B.snd.snd);let V:=bu (bK c3+bK b9);let ag:=λ(u:Bool) (d0:SV) ↦u=true->0=0/\0=0/\0=0/\0=0/\(Z [ad,d0]).same ac/\A.same A/\True;f.length=f.length/\f.length<=1000000000000/\(af=true->0=0/\0=0/\0=0/\0=0/\(Z (ad::ae)).same ac/\A.same A/\True)/\(af=false->(f.length=f.length/\(bH p=h/\f.length=p.offers.length)/\fQ f=true)/\ag c1 T/\(c1=false->(∃(a:Lp),(K,a6)=iJ a/\Bc a)/\ag false b3/\(false=false->h<=c/\c<=c/\c*(56:Int)<=(140737488355328:Int)/\c<=(1000000000000:Int)/\(((e.same e/\g.same g/\m.same m/\(k aa (mV p f).snd.snd).same z/\o.same o/\(γz 5 c.toNat 3).same w/\e.same e/\Q.same Q/\T.same b3/\True)/\A.same A/\q.same q/\t.same t/\j.same j/\(L [c2,W (bu J.value).fst,k H (bu J.value).snd.fst,k H (bu J.value).snd.snd,k sF (fL (gu J b2 b1.length)),k sF (fL (jB J b2 b1.length b2)),k sF []] 176 7 false).same v/\(n ab (δ c.toNat R) 126 true).same (n sF (eY P 0 R) 126 true)/\True)/\h<=h/\h<=c)/\∀(x:Int),let C:=x+M;let b8:=d C;let D:=eY P x.toNat R;let c0:=decide (bp f x.toNat h=M);let F:=D.set x.toNat (X.fst,X.snd.fst,X.snd.snd);let b7:=λ(u:List (Bool×List Int×List Int)) ↦bU .i64 C/\((e.same e/\g.same g/\m.same m/\z.same z/\o.same o/\w.same w/\e.same e/\Q.same Q/\b8.same b8/\True)/\A.same A/\q.same q/\t.same t/\j.same j/\v.same v/\(n sF u 126 true).same (n sF (eY P C.toNat R) 126 true)/\True)/\(h<=C/\C<=c)/\(c - C).toNat<(c - x).toNat;h<=x/\x<=c->(decide (x<c)=true->f.length=f.length/\h<=x/\x<(↑f.length:Int)/\f.length=f.length/\x.toNat<f.length/\(y<=h/\h<=I)/\f.length=D.length/\h<=x/\x<(↑D.length:Int)/\f.length=D.length/\x.toNat<D.length/\(c0=true->(y<=M/\M<=I)/\f.length=F.length/\h<=x/\x<(↑F.length:Int)/\f.length=F.length/\x.toNat<F.length/\b7 (F.set x.toNat (U.fst,U.snd.fst,U.snd.snd)))/\(c0=false->b7 F))/\(decide (x<c)=false->(((e.same e/\g.same g/\m.same m/\o.same o/\w.same w/\z.same z/\(d (↑G.length:Int)).same Y/\T.same b3/\True)/\A.same A/\q.same q/\t.same t/\j.same j/\v.same v/\(n sF D 126 true).same (n sF P 126 true)/\True)/\h<=h/\h<=l)/\∀(x:Int),let s:=fL (kD p f x.toNat);let S:=bp G x.toNat h;let E:=x+M;let b5:=d E;let b4:=bp N x.toNat sF.dflt;h<=x/\x<=l->(decide (x<l)=true->h<=x/\x<(↑G.length:Int)/\x.toNat<G.length/\h<=x/\x<(↑N.length:Int)/\x.toNat<N.length/\f.length=s.length/\h<=S/\S<(↑s.length:Int)/\f.length=s.length/\S.toNat<s.length/\bU .i64 E/\((e.same e/\g.same g/\m.same m/\o.same o/\w.same w/\z.same z/\Y.same Y/\b5.same b5/\True)/\A.same A/\q.same q/\t.same t/\j.same j/\v.same v/\(n sF (s.set S.toNat (b4.fst,b4.snd.fst,b4.snd.snd)) 126 true).same (n sF (fL (kD p f E.toNat)) 126 true)/\True)/\(h<=E/\E<=l)/\(l - E).toNat<(l - x).toNat)/\(decide (x<l)=false->(f.length=f.length/\bH p=h/\f.length=p.offers.length)/\(cF c3/\cF b9)/\f.length=s.length/\f.length=s.length/\(Z [a8 [γ0 true,W V.fst,k H V.snd.fst,k H V.snd.snd,b6,k sF s],T]).same ac/\A.same A/\True)))))) (by kernel_rfl) ?_;simp only[vcs];have hz:jZ p f=false->(γF [γ0 false,γ0 false,Δ (bw.i IntKind.i64) [],Δ (bw.i IntKind.i64) [],Δ (bw.i IntKind.i64) [],Δ (bw.i IntKind.i64) []]).same
   (γF [γn (jZ p f),γn (kE p f).fst,Δ (bw.i IntKind.u32) (kE p f).snd.fst,Δ (bw.i IntKind.u32) (kE p f).snd.snd,Δ sF (qR p f),Δ sF (kF p f)]):=λh=>by
  unfold kE qR kF;simp only[h];rfl
 refine⟨hl,λh=>hz (by grind[jZ]),λh=>?_⟩;have a9:fz p f=0:=γa.1 h;have c4:bH p=0/\f.length=p.offers.length/\fQ f=true:=by
  unfold fz at a9;grind
 obtain⟨hc,M,hr⟩:=c4;refine⟨⟨⟨hc,M⟩,hr⟩,λh1=>⟨hz ?_,a9.symm⟩,λh1=>?_⟩;·grind[jZ]
 ·have hb:iY p f=true:=by
   simp_all
  have a7:fb p f:=⟨hc,M,hb⟩;have hG:mV p f=((iJ (jO p f)).1,((iJ (jO p f)).2,bE f 0)):=by simp_all[mV]
  have c7:jZ p f=true:=by grind[jZ]
  have h0:(ζ 0:Rat)=0:=rfl;have d4:(ζ 1:Rat)=1:=rfl;simp only[hG,Uf,Ug,h0,d4,ji];have e1:(jO p f).1.length=nF f:=by
   show((bE f 0).map _).length=_;simp_all
  have e2:(jO p f).2.length=mF p:=by
   show((dL (mF p)).map _).length=_;grind[jw]
  have Z:((jO p f).1,(jO p f).2)=jO p f:=rfl;simp only[Z,ad1,e1,e2];have I:∀{x y:List bM},x=y->(bA.row sF x 126 true).same (bA.row sF y 126 true):=by rintro _ _ rfl;rfl
  have e4:=@yH p f 0;have e5:=@fy (kD p f 0);have d7:=@EL (dr p f) (nF f) (mF p);have e0:=@fy (gu (dr p f) (nF f) (mF p));have a8:∀k:Nat,((k:Nat):Int).toNat=k:=λk=>γb k;have d8:nF f=(bE f 0).length:=rfl;have d6:=@rQ f 0;refine⟨⟨jO p f,rfl,adZ a7⟩,λh=>(by cases h),λ_=>⟨by omega,by omega,by omega,by omega,⟨⟨⟨trivial,by rw[a8];rfl⟩,rfl,I (by grind[yA])⟩,by omega,by omega⟩,?_⟩⟩;rintro i ⟨i0,i1⟩;have e3:=@yz (fL (kD p f 0)) i.toNat (false,([],[])) (by omega);refine⟨λhi=>?_,λhi=>?_⟩
  ·have hv:bp (fL (kD p f 0)) i.toNat (false,([],[]))=bu (if bp f i.toNat 0=1 then 1 else 0):=by grind[jj,ad4]
   have d5:∀x:bM,x=bu (if bp f i.toNat 0=1 then 1 else 0)->(eY (fL (kD p f 0)) i.toNat (false,([],[]))).set i.toNat x=eY (fL (kD p f 0)) (i+1).toNat (false,([],[])):=λx hx=>by
    grind[yC]
   rw[Ψ];refine⟨i0,hi,by omega,by omega,by omega,i0,by omega,by omega,by omega,λh1=>⟨by omega,by omega,i0,by omega,by omega,by omega,by omega,I ?_,by omega,by omega⟩,λh1=>⟨by omega,I ?_,by omega,by omega⟩⟩;all_goals simp_all
  ·have d2:i.toNat=(fL (kD p f 0)).length:=by omega
   rw[d2,yB];refine⟨⟨I rfl,by omega,by omega⟩,?_⟩;rintro k ⟨k0,k1⟩;have c6:=@yH p f k.toNat;have d1:=@fy (kD p f k.toNat);refine⟨λhk=>?_,λhk=>?_⟩
   ·have hm:=(kW.1 (dn (d:=0) (show k.toNat<(bE f 0).length by omega))).1;have hv:bp (fL (gu (dr p f) (nF f) (mF p))) k.toNat sF.dflt=bu (bp (gu (dr p f) (nF f) (mF p)) k.toNat 0):=jj (by omega);have d9:=@ad3 p f k.toNat (by omega);rw[hv];refine⟨k0,hk,by omega,k0,by omega,by omega,by omega,hm.1,by omega,by omega,by omega,by omega,I ?_,by omega,by omega⟩;grind[yD]
   ·have c9:k.toNat=nF f:=by omega
    rw[c9] at c6 d1 ⊢;have c5:=@yG p hc f f.length M;rw[χ] at c5;have c8:Sz 1 ((fj p f:Int):Rat):=by
     grind[Sz,Rat.num_intCast,Rat.den_intCast]
    have d3:Sz 1000000 (dr p f).value:=by
     have:=(EJ a7).wq (oz a7).1;exact this.2.2.2
    refine⟨⟨hc,M⟩,⟨dP c8 (by omega),dP d3 (by omega)⟩,by omega,by omega,?_,a9.symm⟩;unfold kE qR kF;simp only[c7,if_true,dU];rfl
theorem aef {p:bz} {f:List Int} (h:jZ p f=true):fb p f:=by
 unfold jZ at h;rw[θ,decide_eq_true_eq] at h;obtain⟨a,b⟩:=h;unfold fz at a;split at a;·omega
 ·rename_i d;split at a;·cases a
  ·rename_i c;exact⟨γa.1 d,γa.1 c,b⟩
theorem Ur {p:bz} {f:List Int} (h:jZ p f=true):Sz 1000002 (jk p f):=by
 have a:=aef h;have c:=@yG p a.1 f f.length a.2.1;rw[χ] at c;have d:Sz 1 ((fj p f:Int):Rat):=by
  unfold Sz;rw[Rat.num_intCast,Rat.den_intCast];omega
 have b:Sz 1000000 (dr p f).value:=((EJ a).wq (oz a).1).2.2.2;exact(vQ d b).mono (by omega)
theorem KP {t:List Int} {g:Int->Int}:∀{l:List Int},((l.filter λx=>decide (x∈t)).map g).sum=(l.map λx=>if x∈t then g x else 0).sum
 |[]=>rfl
 |x::l=>by
  simp only[List.filter_cons,φ,εm];by_cases h:x∈t;·rw[if_pos (decide_eq_true h),if_pos h,φ,εm,KP]
  ·rw[if_neg (by simpa using h),if_neg h,KP];omega
theorem KQ {t:List Int} {g:Int->Int}:∀{l:List Int},mB (λx=>((g x:Int):Rat)*(if x∈t then 1 else 0)) l=(((l.map λx=>if x∈t then g x else 0).sum:Int):Rat)
 |[]=>rfl
 |x::l=>by
  have:=@KQ t g l;simp only[mB,this,φ,εm,Rat.intCast_add];congr 1;split<;>simp_all
theorem KR {p:bz}:∀{l:List Int},cK (l.map (oI p))=(l.map λi=>(oI p i).value).sum
 |[]=>rfl
 |x::l=>by
  have:=@KR p l;grind[cK]
section
variable {p:bz} {f t:List Int}
theorem Us (k:fQ f=true) (u:f.length=p.offers.length) (e:fu p.offers.length t) (j:∀i∈t,bp f i.toNat 0≠ -1) (r:∀i∈bE f 1,i∈t) (g:Int->Int):
  (t.map g).sum=((bE f 1).map g).sum+((bE f 0).map λx=>if x∈t then g x else 0).sum:=by
 have l:t.Perm (bE f 1++(bE f 0).filter λx=>decide (x∈t)):=by
  refine(δR (Eu e) ?_).2 λx=>?_
  ·rw[γt];refine⟨uI.imp λh=>by omega,(uI.sublist δx).imp λh=>by omega,λa s b o m=>?_⟩;grind[kW]
  ·rw[γu,List.mem_filter,decide_eq_true_eq];constructor
   ·intro c;have v:=e.2 x c;have q:=j x c;have n:=ξ.1 k _ (dn (d:=0) (show x.toNat<f.length by omega));simp only[θ,decide_eq_true_eq] at n;grind[kW]
   grind
 rw[SY (l.map g),γg,ζw,KP]
theorem wv (l:List Int) (r:Int):cT p (l.map (oI p)) r=(l.map λi=>dW p r (oI p i)).sum:=by
 unfold cT;rw[δn];rfl
theorem weak (h:fb p f) (s:fQ f=true) (z:fu p.offers.length t) (a:gd p (t.map (oI p))=true) (u:∀i∈t,bp f i.toNat 0≠ -1) (A:∀i∈bE f 1,i∈t):((cK (t.map (oI p)):Int):Rat)<=jk p f:=by
 obtain⟨l,E,r⟩:=oz h;have d:∀g:Int->Int,bV (nF f) (λj=>((g (bp (bE f 0) j 0):Int):Rat)*(if bp (bE f 0) j 0∈t then(1:Rat) else 0))=(((t.map g).sum - ((bE f 1).map g).sum:Int):Rat):=λg=>by
  have e:=@qO (λx=>((g x:Int):Rat)*(if x∈t then(1:Rat) else 0)) (bE f 0);rw[KQ] at e;rw[Us s h.2.1 z u A g];grind
 have q:=asg_holds (n:=nF f) (m:=mF p) (t:=cQ p f) lQ qQ (y:=λj=>if bp (bE f 0) j 0∈t then(1:Rat) else 0);have B:(cQ p f).value+bV (nF f) (λj=>(cQ p f).cs j*(if bp (bE f 0) j 0∈t then(1:Rat) else 0))=((cK (t.map (oI p)) - fj p f:Int):Rat):=by
  grind[cQ,dM,A8,fj,KR]
 rw[B] at q;have o:∀v∈(cQ p f).basic++(cQ p f).free,0<=jz (nF f) (cQ p f) (λj=>if bp (bE f 0) j 0∈t then(1:Rat) else 0) v:=λv b=>by
  rcases γu.1 b with b|b
  ·obtain⟨i,k,rfl⟩:=yu lQ b;rw[nH lQ qQ k,yx k,dM (g:=λj=>((dW p i (oI p (bp (bE f 0) j 0)):Int):Rat)*(if bp (bE f 0) j 0∈t then(1:Rat) else 0)) λj c=>by rw[yw k c],d λx=>dW p i (oI p x),<-wv,<-wv];have C:=o7.1 a i (by grind[cE]);have w:0<=(di p i - cT p ((bE f 1).map (oI p)) i) - (cT p (t.map (oI p)) i - cT p ((bE f 1).map (oI p)) i):=by omega
   have D:=EK w;simp_all
  grind[wm,lQ,mT,qQ]
 have:=l.best r q λj c=>o _ (l.perm.mem_iff.1 (List.mem_append_right _ (wj l.wf c)));grind[jk]
end
theorem Ut {t:Tb} {n j:Nat} (b:j<n):∀{k:Nat},(∀i,i<k->0<=t.bv i)->(∃i,i<k/\t.bv i=j/\bp (gu t n k) j 0=t.bd i)\/((∀i,i<k->t.bv i≠j)/\bp (gu t n k) j 0=0)
 |0,_=> .inr ⟨λi a=>by omega,by
   grind[gu,dj]⟩
 |k+1,h=>by
  have e:=h k (by omega);have d:=@Ut t n j b k λi a=>h i (by omega);unfold gu;by_cases c:t.bv k<n
  ·rw[if_pos c,iV (by grind[EL])];grind
  grind
theorem Uu {t:Tb} {n m r:Nat} (a:r<m):∀{k:Nat},(∃j,j<k/\t.fv j=((n+r:Nat):Int)/\bp (jB t n m k) r 0= -(t.cs j))\/((∀j,j<k->t.fv j≠((n+r:Nat):Int))/\bp (jB t n m k) r 0=0)
 |0=> .inr ⟨λi d=>by omega,by
   grind[jB,dj]⟩
 |k+1=>by
  have c:=@Uu t n m r a k;unfold jB;by_cases b:(n:Int)<=t.fv k/\t.fv k<n+m
  ·rw[if_pos b,iV (by grind[EM])];grind
  grind
theorem Uw {n m:Nat} {t:Tb} (h:t.WF n m) (c:(t.basic++t.free).Nodup) {j:Nat} (a:j<n):ez t (t.fv j)=t.cs j:=by
 have b:j<t.free.length:=by rw[h.free];exact a
 unfold ez;rw[if_pos (wj h a),show t.free.idxOf (t.fv j)=j from po (γt.1 c).2.1 b]
theorem aeg {n m:Nat} {t:Tb} (h:t.WF n m) (b:(t.basic++t.free).Nodup) {j:Nat} (a:j<m):ez t (t.bv j)=0:=by
 unfold ez;rw[if_neg (JZ h b a)]
section
variable {p:bz} {f:List Int}
noncomputable def qa (p:bz) (f:List Int):Int->Rat:=jz (nF f) (dr p f) λ_=>0
theorem optX_holds (h:fb p f):(cQ p f).holds (nF f) (mF p) (qa p f) (dr p f).value:=by
 obtain⟨a,_,_⟩:=oz h;have b:=asg_holds a.wf a.gq (y:=λ_=>0);rw[dM (g:=λ_=>0) λj _=>by grind,iU] at b;have c:=(a.mU _ _).1 b;rwa [show(dr p f).value+0=(dr p f).value by grind] at c
theorem KT (h:fb p f) {i:Nat} (b:i<mF p):qa p f ((dr p f).bv i)=(dr p f).bd i:=by
 obtain⟨a,_,_⟩:=oz h;unfold qa;rw[nH a.wf a.gq b,dM (g:=λ_=>0) λj _=>by grind,iU];grind
theorem KU (h:fb p f) {j:Nat} (b:j<nF f):qa p f ((dr p f).fv j)=0:=by
 obtain⟨a,_,_⟩:=oz h;unfold qa;rw[mT a.wf a.gq b]
theorem EX (h:fb p f) {v:Int} (a:v∈(cQ p f).basic++(cQ p f).free):(∃i,i<mF p/\(dr p f).bv i=v)\/∃j,j<nF f/\(dr p f).fv j=v:=by
 obtain⟨b,_,_⟩:=oz h;rw[<-b.perm.mem_iff,γu] at a;rcases a with a|a;·exact .inl (yu b.wf a)
 ·exact .inr (wm b.wf a)
theorem KV (h:fb p f) {v:Int} (c:v∈(cQ p f).basic++(cQ p f).free):0<=qa p f v:=by
 obtain⟨_,b,_⟩:=oz h;rcases EX h c with⟨i,a,rfl⟩|⟨j,d,rfl⟩
 ·rw[KT h a];exact b i a
 grind[KU]
theorem KW {j:Nat} (a:j<nF f):(j:Int)∈(cQ p f).basic++(cQ p f).free:=by
 have:=wj (n:=nF f) (m:=mF p) (t:=cQ p f) lQ a;grind[wt]
theorem aeh (h:fb p f) {i:Nat} (b:i<mF p):0<=(dr p f).bv i:=by
 obtain⟨a,_,_⟩:=oz h;have c:=a.perm.mem_iff.1 (εo _ (A5 a.wf b));grind[yu,lQ,EH,wm,wt]
theorem aei (h:fb p f) {j:Nat} (c:j<nF f):bp (gu (dr p f) (nF f) (mF p)) j 0=qa p f j:=by
 rcases @Ut (dr p f) (nF f) j c (mF p) λi b=>aeh h b with⟨i,d,a,g⟩|⟨d,a⟩;·grind[KT]
 ·rw[a];rcases EX h (KW c) with⟨i,b,e⟩|⟨k,l,e⟩<;>grind[EX,KW,KU]
theorem aej (h:fb p f) {j:Nat} (a:j<nF f):qa p f j<=1:=by
 have:=TY h (optX_holds h) (λv b=>KV h b) a;grind[wt]
theorem Ux (h:fb p f):(∀i,i<mF p->Sz 1000 ((dr p f).bd i))/\(∀j,j<nF f->Sz 1000 ((dr p f).cs j))/\Sz 1000 (dr p f).value:=have a:=(EJ h).TM (oz h).1;⟨a.1,a.2.1,a.2.2.1⟩
theorem KX (q:Rat) (h:q=0\/q=1):Sz 1000 q:=by
 have a:Sz 1 q:=by rcases h with rfl|rfl<;>exact⟨by decide,by decide⟩
 exact a.mono (by omega)
theorem aek (h:fb p f) {v:Int} (a:v∈(cQ p f).basic++(cQ p f).free):Sz 1000 (qa p f v):=by
 grind[EX,KT,Ux,KU,KX]
noncomputable def dE (p:bz) (f:List Int):List Rat:=kD p f (nF f)
theorem rT:(dE p f).length=f.length:=yH
theorem Bf (h:fb p f) (c:fQ f=true) {i:Nat} (b:i<f.length):(bp f i 0=1/\bp (dE p f) i 0=1)\/(bp f i 0= -1/\bp (dE p f) i 0=0)\/(bp f i 0=0/\(i:Int)∈bE f 0/\(bE f 0).idxOf (i:Int)<nF f/\bp (dE p f) i 0=qa p f ((bE f 0).idxOf (i:Int))):=by
 have g:=ξ.1 c _ (dn (d:=0) b);simp only[θ,decide_eq_true_eq] at g;unfold dE;rw[ES b,χ];rcases(show bp f i 0=1\/bp f i 0= -1\/bp f i 0=0 by omega) with a|a|a;·simp_all
 ·simp_all[kW]
 ·have e:(i:Int)∈bE f 0:=kW.2 ⟨by omega,by simp_all⟩;have j:(bE f 0).idxOf (i:Int)<nF f:=εi e;simp_all[aei]
theorem EY (h:fb p f) (a:fQ f=true) {i:Nat} (b:i<f.length):0<=bp (dE p f) i 0/\bp (dE p f) i 0<=1/\Sz 1000 (bp (dE p f) i 0):=by
 rcases Bf h a b with⟨_,e⟩|⟨_,e⟩|⟨_,_,c,e⟩;all_goals grind[KX,KV,KW,aej,aek]
theorem sZ (h:fb p f) (c:fQ f=true) {i:Nat} (b:i<f.length) (d:0<bp (dE p f) i 0) (a:bp (dE p f) i 0<1):bp f i 0=0:=by
 grind[Bf]
def eO (x:List Rat):List Int:=(dL x.length).filter λi=>decide (0<bp x i.toNat 0)
theorem yI {x:List Rat} {i:Int}:i∈eO x↔(0<=i/\i<x.length)/\0<bp x i.toNat 0:=by
 simp_all[eO,rL]
theorem Uy {x:List Rat}:fu x.length (eO x):=⟨AL.sublist δx,λi a=>(yI.1 a).1⟩
def mW (x:List Rat):Bool:=x.all λq=>decide (q.den=1)
theorem ael {q:Rat} (h:q.den=1):q=(q.num:Rat):=by
 grind[Rat.mkRat_self,Rat.mkRat_one]
theorem aem {q:Rat} (c:q.den=1) (b:0<=q) (a:q<=1):q=0\/q=1:=by
 rw[ael c] at b a ⊢;have f:0<=q.num:=by exact_mod_cast b
 have d:q.num<=1:=by exact_mod_cast a
 rcases(show q.num=0\/q.num=1 by omega) with e|e<;>simp_all
theorem aen {t:List Int} (a:fQ f=true) (c:f.length=p.offers.length) (h:fu p.offers.length t) (b:∀i∈t,bp f i.toNat 0≠ -1) (d:∀i∈bE f 1,i∈t) (g:Int->Int):bV (nF f) (λj=>((g (bp (bE f 0) j 0):Int):Rat)*(if bp (bE f 0) j 0∈t then(1:Rat) else 0))=(((t.map g).sum - ((bE f 1).map g).sum:Int):Rat):=by
 have e:=@qO (λx=>((g x:Int):Rat)*(if x∈t then(1:Rat) else 0)) (bE f 0);rw[KQ] at e;rw[Us a c h b d g];grind
theorem Uz (h:fb p f) (t:fQ f=true) (F:mW (dE p f)=true):gd p ((eO (dE p f)).map (oI p))=true/\((cK ((eO (dE p f)).map (oI p)):Int):Rat)=jk p f:=by
 have n:=h.2.1;have z:=@rT p f;have q:∀i:Nat,i<f.length->bp (dE p f) i 0=0\/bp (dE p f) i 0=1:=λi o=>by
  obtain⟨O,J,_⟩:=EY h t o;have:=ξ.1 F _ (dn (d:=0) (show i<(dE p f).length by omega));simp_all[aem]
 have B:fu p.offers.length (eO (dE p f)):=by
  grind[Uy]
 have A:∀i∈eO (dE p f),bp f i.toNat 0≠ -1:=λi x K=>by
  grind[yI,Bf]
 have D:∀i∈bE f 1,i∈eO (dE p f):=λi x=>by
  grind[kW,yI,Bf]
 have G:∀j,j<nF f->(if bp (bE f 0) j 0∈eO (dE p f) then(1:Rat) else 0)=qa p f ((cQ p f).fv j):=λj c=>by
  obtain⟨C,L⟩:=yy h c;have E:(bE f 0).idxOf (bp (bE f 0) j 0)=j:=po (uI.imp λh=>by omega) c;have M:((((bp (bE f 0) j 0).toNat:Nat)):Int)=bp (bE f 0) j 0:=by omega
  have e:bp (dE p f) (bp (bE f 0) j 0).toNat 0=qa p f j:=by
   grind[Bf]
  rw[wt c,<-e];rcases q (bp (bE f 0) j 0).toNat (by omega) with l|l;·simp_all[yI]
  ·rw[l,if_pos];grind[yI]
 obtain⟨v,w⟩:=optX_holds h;have k:=aen t n B A D;refine⟨o7.2 λy b=>?_,?_⟩
 ·obtain⟨r,m⟩:∃r:Int,r=(y:Int):=⟨_,rfl⟩;rw[<-m] at b ⊢;have I:0<=r:=by omega
  have a:r.toNat<mF p:=by unfold cE at b;grind
  have s:=v r.toNat a;rw[dM (g:=λj=>((dW p r (oI p (bp (bE f 0) j 0)):Int):Rat)*(if bp (bE f 0) j 0∈eO (dE p f) then(1:Rat) else 0)) λj c=>by grind[yw],k λi=>dW p r (oI p i),yx a,show((r.toNat:Nat):Int)=r by omega] at s;have N:=KV h (εo _ (A5 lQ a));rw[<-wv,<-wv] at s;have l:((cT p ((eO (dE p f)).map (oI p)) r - cT p ((bE f 1).map (oI p)) r:Int):Rat)<=((di p r - cT p ((bE f 1).map (oI p)) r:Int):Rat):=by grind
  have H:cT p ((eO (dE p f)).map (oI p)) r - cT p ((bE f 1).map (oI p)) r<=di p r - cT p ((bE f 1).map (oI p)) r:=by exact_mod_cast l
  omega
 ·have u:(cQ p f).value=0:=rfl;rw[u,dM (g:=λj=>(((oI p (bp (bE f 0) j 0)).value:Int):Rat)*(if bp (bE f 0) j 0∈eO (dE p f) then(1:Rat) else 0)) λj c=>by grind[A8],k λi=>(oI p i).value] at w;grind[jk,fj,KR]
theorem UA (h:fb p f) {x:Int->Rat} {z:Rat} (l:(cQ p f).holds (nF f) (mF p) x z):z=(dr p f).value+(bV (mF p) (λk=>ez (dr p f) ((nF f+k:Nat):Int)*x ((nF f+k:Nat):Int))+bV (nF f) λj=>ez (dr p f) (j:Int)*x (j:Int)):=by
 obtain⟨a,_,_⟩:=oz h;have i:=((a.mU _ _).2 l).2;have m:bV (nF f) (λj=>(dr p f).cs j*x ((dr p f).fv j))=mB (λv=>ez (dr p f) v*x v) ((dr p f).basic++(dr p f).free):=by
  rw[AY,qO,qO,a.wf.basic,a.wf.free];rw[dM (n:=mF p) (g:=λ_=>0) λk b=>by
   show ez (dr p f) ((dr p f).bv k)*x ((dr p f).bv k)=0;rw[aeg a.wf a.gq b];grind,iU];rw[dM (n:=nF f) (f:=λk=>ez (dr p f) (bp (dr p f).free k 0)*x (bp (dr p f).free k 0)) (g:=λj=>(dr p f).cs j*x ((dr p f).fv j)) λj e=>by
   show ez (dr p f) ((dr p f).fv j)*x ((dr p f).fv j)=_;rw[Uw a.wf a.gq e]];grind
 have d:mB (λv=>ez (dr p f) v*x v) ((cQ p f).basic++(cQ p f).free)=bV (mF p) (λk=>ez (dr p f) ((nF f+k:Nat):Int)*x ((nF f+k:Nat):Int))+bV (nF f) λj=>ez (dr p f) (j:Int)*x (j:Int):=by
  have c:=@lQ p f;rw[AY,qO,qO,c.basic,c.free];congr 1
  ·refine dM λk b=>?_;show ez (dr p f) ((cQ p f).bv k)*x ((cQ p f).bv k)=_;rw[EH b]
  ·refine dM λk b=>?_;show ez (dr p f) ((cQ p f).fv k)*x ((cQ p f).fv k)=_;rw[wt b]
 rw[i,m,JY a.perm,d]
theorem UB (h:fb p f) {v:Int}:ez (dr p f) v<=0:=by
 obtain⟨d,_,e⟩:=oz h;unfold ez;split
 ·rename_i g;have k:(dr p f).free.idxOf v<nF f:=by rw[<-d.wf.free];grind
  rcases @uD (dr p f) (nF f) with⟨a,b⟩|⟨c,a,b,i,j⟩<;>grind
 ·decide
theorem EZ (h:fb p f) {r:Nat} (g:r<mF p):bp (gX p f) r 0= -(ez (dr p f) ((nF f+r:Nat):Int)):=by
 obtain⟨a,_,_⟩:=oz h;unfold gX;rcases @Uu (dr p f) (nF f) (mF p) r g (nF f) with⟨j,c,b,i⟩|⟨c,b⟩;·rw[i,<-b,Uw a.wf a.gq c]
 ·rw[b];unfold ez;rw[if_neg];·decide
  ·intro d;obtain⟨j,k,e⟩:=wm a.wf d;simp_all
theorem E0:(gX p f).length=mF p:=EM
theorem KY (h:fb p f) {r:Nat} (a:r<mF p):0<=bp (gX p f) r 0/\Sz 1000 (bp (gX p f) r 0):=by
 obtain⟨c,_,_⟩:=oz h;have d:=@UB p f h ((nF f+r:Nat):Int);refine⟨by grind[EZ],?_⟩;rw[EZ h a];refine vR ?_;unfold ez;split
 ·rename_i b;exact(Ux h).2.1 _ (by have:=εi b;rw[c.wf.free] at this;exact this)
 grind[KX]
theorem UC (h:fb p f):(dr p f).value=bV (mF p) λr=>bp (gX p f) r 0*(cQ p f).bd r:=by
 have c:=asg_holds (n:=nF f) (m:=mF p) (t:=cQ p f) lQ qQ (y:=λ_=>0);have a:=UA h c;have d:(cQ p f).value=0:=rfl;rw[d,dM (n:=nF f) (f:=λj=>(cQ p f).cs j*(λ_=>(0:Rat)) j) (g:=λ_=>0) λj _=>by grind,iU] at a;rw[dM (n:=nF f) (f:=λj=>ez (dr p f) (j:Int)*jz (nF f) (cQ p f) (λ_=>0) (j:Int)) (g:=λ_=>0) λj b=>by
  have e:=mT (n:=nF f) (m:=mF p) (t:=cQ p f) lQ qQ (y:=λ_=>0) b;grind[wt],iU] at a;rw[dM (n:=mF p) (g:=λk=>(-1:Rat)*(bp (gX p f) k 0*(cQ p f).bd k)) λk i=>by
  have e:=nH (n:=nF f) (m:=mF p) (t:=cQ p f) lQ qQ (y:=λ_=>0) i;grind[EH,iU,EZ],wh] at a;grind
theorem aeo (h:fb p f) {j:Nat} (b:j<nF f):(cQ p f).cs j<=bV (mF p) λr=>bp (gX p f) r 0*(cQ p f).cf r j:=by
 have l:=asg_holds (n:=nF f) (m:=mF p) (t:=cQ p f) lQ qQ (y:=λi=>if i=j then 1 else 0);have a:=UA h l;have o:(cQ p f).value=0:=rfl;rw[o,dM (n:=nF f) (f:=λi=>(cQ p f).cs i*(if i=j then(1:Rat) else 0)) (g:=λi=>if i=j then(cQ p f).cs j else 0) λi _=>by
  grind,uG b] at a;rw[dM (n:=nF f) (f:=λi=>ez (dr p f) (i:Int)*jz (nF f) (cQ p f) (λi=>if i=j then 1 else 0) (i:Int)) (g:=λi=>if i=j then ez (dr p f) (j:Int) else 0) λi d=>by
  have e:=mT (n:=nF f) (m:=mF p) (t:=cQ p f) lQ qQ (y:=λi=>if i=j then(1:Rat) else 0) d;rw[wt d] at e;grind,uG b] at a;rw[dM (n:=mF p) (g:=λk=>bp (gX p f) k 0*(cQ p f).cf k j - bp (gX p f) k 0*(cQ p f).bd k) λk c=>by
  have e:=nH (n:=nF f) (m:=mF p) (t:=cQ p f) lQ qQ (y:=λi=>if i=j then(1:Rat) else 0) c;rw[EH c,dM (g:=λi=>if i=j then(cQ p f).cf k j else 0) λi _=>by
   grind,uG b] at e;grind[EZ],Ks] at a;grind[UC,UB]
end
abbrev cB:=Int×(Int×(Int×(Int×List bM)))
@[reducible] def bD:bw:=.pair (.i .i64) (.pair (.i .i64) (.pair (.i .i64) (.pair (.i .i64) (.bP sF))))
def zN:cB:=(0,(0,(0,(0,[]))))
def E1:cB:=(3,(0,(0,(0,[]))))
noncomputable def qS (p:bz) (f:List Int):cB:=(1,(0,(0,(0,fL (gX p f)))))
def kg (k o:Int):cB:=(2,(k,(o,(o+1,[]))))
structure dh where
 ch:List Int
 val:Int
 found:Bool
 prf:List cB
 err:Int
def ek (b:Int->Bool) (s:dh) (a:Alloc):dh:=if s.val<a.value then⟨a.chosen,a.value,s.found||b a.value,s.prf,s.err⟩ else s
def mX (q:Rat):Rat:=if q<0 then -q else q
def jC (x:List Rat):Nat->Option (Int×Rat)
 |0=>none
 |k+1=>if 0<bp x k 0/\bp x k 0<1 then(match jC x k with
   |none=>some ((k:Int),mX (bp x k 0 - 1 / 2))
   |some (i,l)=>if mX (bp x k 0 - 1 / 2)<l then some ((k:Int),mX (bp x k 0 - 1 / 2)) else some (i,l)) else jC x k
def jP (x:List Rat):Option Int:=(jC x x.length).map (·.1)
theorem KZ {x:List Rat}:∀{k:Nat} {i:Int} {l:Rat},jC x k=some (i,l)->(0<=i/\i<k)/\(0<bp x i.toNat 0/\bp x i.toNat 0<1)/\l=mX (bp x i.toNat 0 - 1 / 2)
 |0,i,l,h=>by cases h;|k+1,i,l,h=>by
  unfold jC at h;have b:some ((k:Int),mX (bp x k 0 - 1 / 2))=some (i,l)->(0<bp x k 0/\bp x k 0<1)->(0<=i/\i<((k+1:Nat):Int))/\(0<bp x i.toNat 0/\bp x i.toNat 0<1)/\l=mX (bp x i.toNat 0 - 1 / 2):=λh f=>by
   grind
  have a:jC x k=some (i,l)->(0<=i/\i<((k+1:Nat):Int))/\(0<bp x i.toNat 0/\bp x i.toNat 0<1)/\l=mX (bp x i.toNat 0 - 1 / 2):=λh=>by
   obtain⟨c,d,e⟩:=KZ h;grind
  grind
theorem UD {x:List Rat}:∀{k:Nat},jC x k=none->∀i,i<k->¬(0<bp x i 0/\bp x i 0<1)
 |0,_,i,a=>by omega;|k+1,h,i,a=>by
  unfold jC at h;split at h;·grind
  ·rename_i b;by_cases e:i=k;·simp_all
   ·exact UD h i (by omega)
theorem s7 {x:List Rat} {k:Int} (h:jP x=some k):(0<=k/\k<x.length)/\0<bp x k.toNat 0/\bp x k.toNat 0<1:=by
 unfold jP at h;obtain⟨⟨i,l⟩,b,a⟩:=Option.map_eq_some_iff.1 h;simp only at a;subst a;obtain⟨c,d,_⟩:=KZ b;simp_all
theorem aep {x:List Rat} (h:jP x=none):∀i,i<x.length->¬(0<bp x i 0/\bp x i 0<1):=UD (Option.map_eq_none_iff.1 h)
noncomputable def px (p:bz) (f:List Int):Alloc:=⟨eO (dE p f),cK ((eO (dE p f)).map (oI p))⟩
noncomputable def dq (p:bz) (a:Int->Bool) (s:dh) (f:List Int):dh:=if((s.val+1:Int):Rat)<=jk p f/\mW (dE p f)=true then ek a s (px p f) else s
def gP (s:dh) (a k:Int):dh:={s with prf:=(s.prf++[zN,zN]).set a.toNat (kg k s.prf.length)}
noncomputable def fK (p:bz) (en:Int->Bool) (most:Int) (b:dh->Int->List Int->dh) (s:dh) (a:Int) (f:List Int):dh:=
 if s.err≠0\/s.found=true then s
 else if iY p f=false then {s with prf:=s.prf.set a.toNat E1}
 else if jk p f<(((dq p en s f).val+1:Int):Rat) then {dq p en s f with prf:=(dq p en s f).prf.set a.toNat (qS p f)}
 else match jP (dE p f) with
  |none=>{dq p en s f with err:=12}
  |some k=>if most<(dq p en s f).prf.length+2 then {dq p en s f with err:=12}
   else b (b (gP (dq p en s f) a k) ((dq p en s f).prf.length+1) (f.set k.toNat 1)) (dq p en s f).prf.length (f.set k.toNat (-1))
noncomputable def dG (p:bz) (b:Int->Bool) (a:Int):Nat->dh->Int->List Int->dh
 |0=>fK p b a λs _ _=>s
 |n+1=>fK p b a (dG p b a n)
structure eQ (p:bz) (f:List Int):Prop where
 c:bH p=0
 l:f.length=p.offers.length
 r:fQ f=true
theorem eQ.ok {p:bz} {f:List Int} (h:eQ p f) (a:iY p f=true):fb p f:=⟨h.c,h.l,a⟩
theorem eQ.e {p:bz} {f:List Int} (h:eQ p f):fz p f=0:=by
 unfold fz;rw[if_neg (by simp[h.c]),if_neg (by simp[h.l]),if_pos h.r]
theorem eQ.jZ {p:bz} {f:List Int} (h:eQ p f):jZ p f=iY p f:=by
 unfold Go.Vi.jZ;rw[h.e];simp
theorem K0 {f:List Int} {k:Nat} {d:Int} (h:fQ f=true) (a: -1<=d/\d<=1):fQ (f.set k d)=true:=by
 grind[fQ]
theorem eQ.set {p:bz} {f:List Int} (h:eQ p f) {k:Nat} {d:Int} (a: -1<=d/\d<=1):eQ p (f.set k d):=⟨h.c,by rw[Ψ];exact h.l,K0 h.r a⟩
theorem mD {f:List Int} {k d:Int} (i:0<=k/\k<f.length) (l:bp f k.toNat 0=0) (g:d≠0):nF f=nF (f.set k.toNat d)+1:=by
 have c:(bE f 0).Perm (k::bE (f.set k.toNat d) 0):=by
  refine(δR (uI.imp λh=>by omega) ?_).2 λx=>?_
  ·rw[List.nodup_cons];refine⟨λj=>?_,uI.imp λh=>by omega⟩;simp_all[kW,iV]
  ·rw[List.mem_cons,kW,kW,Ψ];constructor
   ·rintro⟨a,b⟩;by_cases e:x=k;·exact .inl e
    ·exact .inr ⟨a,by rw[iV (by omega),if_neg (by omega)];exact b⟩
   grind[iV]
 have:=c.length_eq;omega
theorem E2 {en:Int->Bool} {s:dh} {a:Alloc}:(ek en s a).prf=s.prf/\(ek en s a).err=s.err/\s.val<=(ek en s a).val/\((ek en s a).val=s.val\/(ek en s a).val=a.value)/\((ek en s a).ch=s.ch\/(ek en s a).ch=a.chosen):=by
 grind[ek]
theorem E3 {p:bz} {en:Int->Bool} {s:dh} {f:List Int}:(dq p en s f).prf=s.prf/\(dq p en s f).err=s.err/\s.val<=(dq p en s f).val/\((dq p en s f).val=s.val\/(dq p en s f).val=(px p f).value)/\((dq p en s f).ch=s.ch\/(dq p en s f).ch=(px p f).chosen):=by
 grind[dq,E2]
theorem aer {x:List Rat}:(eO x).length<=x.length:=by
 have:=List.length_filter_le (λi:Int=>decide (0<bp x i.toNat 0)) (dL x.length);rw[jw] at this;exact this
theorem aes {p:bz} {f:List Int} (b:f.length=p.offers.length):∀x∈(eO (dE p f)).map (oI p),x∈p.offers:=λx a=>by
 obtain⟨i,c,rfl⟩:=γf.1 a;have:=(yI.1 c).1;rw[rT,b] at this;exact dn (by omega)
theorem UE {p:bz} {f:List Int} (h:eQ p f):0<=(px p f).value/\(px p f).value<=160000000/\(px p f).chosen.length<=160:=by
 have a:=dR h.c;have b:=@qG p a ((eO (dE p f)).map (oI p)) (aes h.l);have d:=@aer (dE p f);rw[rT,h.l] at d;have e:=a.2.1;rw[γT] at b;refine⟨b.1,?_,?_⟩
 ·show cK _<=_;omega
 ·show(eO (dE p f)).length<=160;omega
theorem E4 {p:bz} (a:bH p=0) {c:List Int} (h:fu p.offers.length c):cH p c=0↔gd p (c.map (oI p))=true:=by
 simp_all[Ew,gp,dy,cH]
theorem wy {p:bz} (a:bH p=0) {c:List Int} (h:fu p.offers.length c):dJ p c=cK (c.map (oI p)):=by
 simp_all[dy,Ew,dJ]
theorem rU {p:bz} {en:Int->Bool} {most:Int}:∀{n:Nat} {s:dh} {a:Int} {f:List Int},eQ p f->s.prf.length<=(dG p en most n s a f).prf.length/\((dG p en most n s a f).prf.length<=most\/(dG p en most n s a f).prf.length=s.prf.length)/\s.val<=(dG p en most n s a f).val/\((dG p en most n s a f).val=s.val\/(dG p en most n s a f).val<=160000000)/\((dG p en most n s a f).ch=s.ch\/(dG p en most n s a f).ch.length<=160)/\((dG p en most n s a f).err=s.err\/(dG p en most n s a f).err=12):=by
 have d:∀{b:dh->Int->List Int->dh},(∀{s:dh} {a:Int} {f:List Int},eQ p f->s.prf.length<=(b s a f).prf.length/\((b s a f).prf.length<=most\/(b s a f).prf.length=s.prf.length)/\s.val<=(b s a f).val/\((b s a f).val=s.val\/(b s a f).val<=160000000)/\((b s a f).ch=s.ch\/(b s a f).ch.length<=160)/\((b s a f).err=s.err\/(b s a f).err=12))->
   ∀{s:dh} {a:Int} {f:List Int},eQ p f->s.prf.length<=(fK p en most b s a f).prf.length/\((fK p en most b s a f).prf.length<=most\/(fK p en most b s a f).prf.length=s.prf.length)/\s.val<=(fK p en most b s a f).val/\((fK p en most b s a f).val=s.val\/(fK p en most b s a f).val<=160000000)/\((fK p en most b s a f).ch=s.ch\/(fK p en most b s a f).ch.length<=160)/\((fK p en most b s a f).err=s.err\/(fK p en most b s a f).err=12):=by
  intro b c s a f h;obtain⟨v,j,E,l,r⟩:=@E3 p en s f;obtain⟨H,A,L⟩:=UE h;have w:(dq p en s f).ch=s.ch\/(dq p en s f).ch.length<=160:=r.imp id λh=>by simp_all
  have x:(dq p en s f).val=s.val\/(dq p en s f).val<=160000000:=l.imp id λh=>by omega
  unfold fK;split;·simp_all
  split;·simp_all
  split;·simp_all
  split;·simp_all
  rename_i k J;split;·simp_all
  rename_i o;have F:(gP (dq p en s f) a k).prf.length=s.prf.length+2:=by
   simp_all[gP]
  obtain⟨D,K,u,z,e,t⟩:=@c (gP (dq p en s f) a k) ((dq p en s f).prf.length+1) (f.set k.toNat 1) (h.set (by omega));obtain⟨B,C,G,I,g,M⟩:=@c (b (gP (dq p en s f) a k) ((dq p en s f).prf.length+1) (f.set k.toNat 1)) (dq p en s f).prf.length (f.set k.toNat (-1)) (h.set (by omega));have i:(gP (dq p en s f) a k).val=(dq p en s f).val:=rfl;have m:(gP (dq p en s f) a k).ch=(dq p en s f).ch:=rfl;have q:(gP (dq p en s f) a k).err=(dq p en s f).err:=rfl;rw[v] at o;rw[i] at u z;rw[m] at e;rw[q,j] at t;refine⟨by omega,.inl (by omega),by omega,by omega,?_,?_⟩
  ·rcases g with g|g
   ·rw[g];rcases e with e|e<;>simp_all
   omega
  omega
 intro n;induction n with
 |zero=>exact d λ{s a f} _=>⟨ψ _,.inr rfl,Int.le_refl _,.inl rfl,.inl rfl,.inl rfl⟩;|succ n y=>exact d λh=>y h
inductive iK (p:bz) (v:Int) (t:List cB):Nat->List Int->Nat->Nat->Prop
 |bnd {a:Nat} {f:List Int} {lo:Nat}:t[a]?=some (qS p f)->iY p f=true->jk p f<((v+1:Int):Rat)->iK p v t a f lo lo
 |con {a:Nat} {f:List Int} {lo:Nat}:t[a]?=some E1->iY p f=false->iK p v t a f lo lo
 |qT {a:Nat} {f:List Int} {lo mid hi:Nat} {k:Int}:t[a]?=some (kg k lo)->a<lo->(0<=k/\k<f.length)->bp f k.toNat 0=0->iK p v t (lo+1) (f.set k.toNat 1) (lo+2) mid->iK p v t lo (f.set k.toNat (-1)) mid hi->iK p v t a f lo hi
section
variable {p:bz} {v v':Int} {t t':List cB} {a lo hi:Nat} {f:List Int}
theorem iK.le (h:iK p v t a f lo hi):lo<=hi:=by
 induction h with
 |bnd _ _ _=>omega;|con _ _=>omega;|qT _ _ _ _ _ _ b c=>omega
theorem iK.mono (h:iK p v t a f lo hi) (q:v<=v') (e:∀i,i=a\/(lo<=i/\i<hi)->t'[i]?=t[i]?):iK p v' t' a f lo hi:=by
 induction h with
 |bnd c b d=>
  refine .bnd (by simp_all) b ?_;have:((v+1:Int):Rat)<=((v'+1:Int):Rat):=by exact_mod_cast (show v+1<=v'+1 by omega)
  grind;|con c b=>exact .con (by simp_all) b;|qT c b d l k g m j=>
  have o:=k.le;have n:=g.le;exact .qT (by simp_all) b d l (m λi hi=>e i (by omega)) (j λi hi=>e i (by omega))
def E5 (f:List Int) (l:List Int):Prop:=(∀i∈l,bp f i.toNat 0≠ -1)/\∀i∈bE f 1,i∈l
theorem UF {l:List Int} {k d:Int} (g:0<=k/\k<f.length) (m:bp f k.toNat 0=0) (e:∀i∈l,0<=i) (h:E5 f l) (j:(d=1/\k∈l)\/(d= -1/\k∉l)):E5 (f.set k.toNat d) l:=by
 obtain⟨b,c⟩:=h;refine⟨λi a=>?_,λi a=>?_⟩<;>grind[iV,kW]
theorem aeu {l m:List Int} (e:bH p=0) (f:∀i∈l,0<=i/\i<p.offers.length) (q:m.Nodup) (j:∀i∈m,i∈l) (o:l.Nodup) (h:gd p (l.map (oI p))=true):gd p (m.map (oI p))=true:=by
 refine o7.2 λr b=>?_;have d:=o7.1 h r b;have a:l.Perm (m++l.filter λi=>decide (i∉m)):=by
  grind
 have g:cT p (l.map (oI p)) r=cT p (m.map (oI p)) r+cT p ((l.filter λi=>decide (i∉m)).map (oI p)) r:=by
  rw[wv,wv,wv,SY (a.map _),γg,ζw]
 have n:=@sL p r ((l.filter λi=>decide (i∉m)).map (oI p)) λx c=>by
  obtain⟨i,k,rfl⟩:=γf.1 c;simp_all[kC]
 omega
theorem iK.sound (h:iK p v t a f lo hi) (e:eQ p f) {l:List Int} (d:fu p.offers.length l) (b:gd p (l.map (oI p))=true) (g:E5 f l):cK (l.map (oI p))<=v:=by
 induction h with
 |bnd o n m=>
  have j:=weak (e.ok n) e.r d b g.1 g.2;have s:((cK (l.map (oI p)):Int):Rat)<((v+1:Int):Rat):=by grind
  have u:cK (l.map (oI p))<v+1:=by exact_mod_cast s
  omega;|con o n=>
  exfalso;have:=aeu e.c d.2 (uI.imp λh=>by omega) g.2 (Eu d) b;grind[iY];|@qT a f lo y hi k o n m j s u x w=>
  by_cases q:k∈l;·exact x (e.set (by omega)) (UF m j (λi hi=>(d.2 i hi).1) g (.inl ⟨rfl,q⟩))
  ·exact w (e.set (by omega)) (UF m j (λi hi=>(d.2 i hi).1) g (.inr ⟨rfl,q⟩))
end
theorem UG {p:bz} {en:Int->Bool} {most:Int}:∀{n:Nat} {s:dh} {a:Int} {f:List Int},eQ p f->nF f<=n->(0<=a/\a<s.prf.length)->(dG p en most n s a f).err=0->(dG p en most n s a f).found=false->
  iK p (dG p en most n s a f).val (dG p en most n s a f).prf a.toNat f s.prf.length (dG p en most n s a f).prf.length/\(∀i:Nat,i<s.prf.length->i≠a.toNat->(dG p en most n s a f).prf[i]?=s.prf[i]?)/\s.err=0/\s.found=false:=by
 have y:∀{b:dh->Int->List Int->dh} {s:dh} {a:Int} {f:List Int},eQ p f->(0<=a/\a<s.prf.length)->
   (∀{s:dh} {a:Int} {g:List Int},eQ p g->nF f=nF g+1->(0<=a/\a<s.prf.length)->s.prf.length<=(b s a g).prf.length/\s.val<=(b s a g).val/\((b s a g).err=0->(b s a g).found=false->iK p (b s a g).val (b s a g).prf a.toNat g s.prf.length (b s a g).prf.length/\(∀i:Nat,i<s.prf.length->i≠a.toNat->(b s a g).prf[i]?=s.prf[i]?)/\s.err=0/\s.found=false))->
   (fK p en most b s a f).err=0->(fK p en most b s a f).found=false->iK p (fK p en most b s a f).val (fK p en most b s a f).prf a.toNat f s.prf.length (fK p en most b s a f).prf.length/\(∀i:Nat,i<s.prf.length->i≠a.toNat->(fK p en most b s a f).prf[i]?=s.prf[i]?)/\s.err=0/\s.found=false:=by
  intro b s a f t C q e c;obtain⟨D,e2,e3,e4,e5⟩:=@E3 p en s f;have B:a.toNat<s.prf.length:=by omega
  unfold fK at e c ⊢;split at e;·simp_all
  rename_i x;have G:s.err=0/\s.found=false:=by simpa using x
  rw[if_neg x] at c ⊢;split at e
  ·rename_i m;rw[if_pos m];refine⟨?_,λi u j=>?_,G⟩
   ·rw[Ψ];exact .con (by simp_all) m
   ·show(s.prf.set a.toNat E1)[i]?=_;rw[δG (λh=>j h.symm)]
  rename_i m;rw[if_neg m] at c ⊢;have O:iY p f=true:=by simpa using m
  split at e
  ·rename_i w;rw[if_pos w];refine⟨?_,λi u j=>?_,G⟩
   ·rw[Ψ,D];refine .bnd ?_ O w;simp_all
   ·show((dq p en s f).prf.set a.toNat _)[i]?=_;rw[δG (λh=>j h.symm),D]
  rename_i w;rw[if_neg w] at c ⊢;cases A:jP (dE p f) with
  |none=>simp_all;|some k=>
  rw[A] at e c;simp only at e c ⊢;split at e;·simp at e
  rename_i Q;rw[if_neg Q] at c ⊢;obtain⟨l,K,L⟩:=s7 A;rw[rT] at l;have v:bp f k.toNat 0=0:=sZ (t.ok O) t.r (by omega) K L;have n1:=mD l v (d:=1) (by omega);have Y:=mD l v (d:= -1) (by omega);have T:eQ p (f.set k.toNat 1):=t.set (by omega);have f2:eQ p (f.set k.toNat (-1)):=t.set (by omega);have S:(gP (dq p en s f) a k).prf.length=s.prf.length+2:=by
   simp_all[gP]
  rw[D] at e c ⊢;obtain⟨l1,v1,t1⟩:=@q (gP (dq p en s f) a k) ((s.prf.length:Int)+1) (f.set k.toNat 1) T n1 (by omega);generalize R:b (gP (dq p en s f) a k) ((s.prf.length:Int)+1) (f.set k.toNat 1)=I at*;obtain⟨l2,V,Z⟩:=@q I (s.prf.length:Int) (f.set k.toNat (-1)) f2 Y (by omega);generalize X:b I (s.prf.length:Int) (f.set k.toNat (-1))=P at*;obtain⟨N,F,U,w2⟩:=Z e c;obtain⟨J,H,w3,w4⟩:=t1 U w2;have M:∀i:Nat,i<s.prf.length+2->(gP (dq p en s f) a k).prf[i]?=if i=a.toNat then some (kg k s.prf.length) else(s.prf++[zN,zN])[i]?:=λi u=>by
   unfold gP;simp only[D];rw[List.getElem?_set];by_cases h:a.toNat=i;·simp_all
   ·rw[if_neg h,if_neg (λm=>h m.symm)]
  have E:((s.prf.length:Int)).toNat=s.prf.length:=by omega
  have z:((s.prf.length:Int)+1).toNat=s.prf.length+1:=by omega
  rw[E] at N F;rw[z] at J H;rw[S] at J H;have o:∀i:Nat,i<s.prf.length->P.prf[i]?=(gP (dq p en s f) a k).prf[i]?:=λi u=>by rw[F i (by omega) (by omega),H i (by omega) (by omega)]
  refine⟨.qT (k:=k) (mid:=I.prf.length) ?_ B l v ?_ N,λi u j=>?_,G⟩;·rw[o _ B,M _ (by omega),if_pos rfl]
  ·exact J.mono V λi u=>F i (by omega) (by omega)
  ·rw[o i u,M i (by omega),if_neg j,List.getElem?_append_left u]
 intro n;induction n with
 |zero=>
  intro s a f t W C e c;exact y t C (λ{s a g} _ h _=>by omega) e c;|succ n ih=>
  intro s a f t W C e c;refine y t C (λ{s a g} x m w=>?_) e c;have A:=@rU p en most n s a g x;exact⟨A.1,A.2.2.1,λe c=>ih x (by omega) w e c⟩
theorem UH {p:bz} {en:Int->Bool} {most:Int} {G:List Int->Int->Bool->Prop} (u:∀c w b q w',G c w b->cH p q=0->dJ p q=w'->w<w'->G q w' (b||en w')):
  ∀{n:Nat} {s:dh} {a:Int} {f:List Int},eQ p f->G s.ch s.val s.found->G (dG p en most n s a f).ch (dG p en most n s a f).val (dG p en most n s a f).found:=by
 have k:∀{d:dh->Int->List Int->dh},(∀{s:dh} {a:Int} {f:List Int},eQ p f->G s.ch s.val s.found->G (d s a f).ch (d s a f).val (d s a f).found)->
   ∀{s:dh} {a:Int} {f:List Int},eQ p f->G s.ch s.val s.found->G (fK p en most d s a f).ch (fK p en most d s a f).val (fK p en most d s a f).found:=by
  intro d e s a f i j;unfold fK;split;·exact j
  split;·exact j
  rename_i t;have y:iY p f=true:=by simp_all
  have m:G (dq p en s f).ch (dq p en s f).val (dq p en s f).found:=by
   unfold dq;split
   ·rename_i A;unfold ek;split
    ·rename_i o;obtain⟨z,B⟩:=Uz (i.ok y) i.r A.2;have g:fu p.offers.length (eO (dE p f)):=by
      have:=@Uy (dE p f);rw[rT,i.l] at this;exact this
     refine u _ _ _ _ _ j ?_ ?_ o;·exact(E4 i.c g).2 z
     ·exact wy i.c g
    ·exact j
   ·exact j
  split;·exact m
  split;·exact m
  split;·exact m
  ·exact e (i.set (by omega)) (e (i.set (by omega)) m)
 intro n;induction n with
 |zero=>exact k λ_ h=>h;|succ n x=>exact k λv t=>x v t
theorem two_pow_pos (n:Nat):1<=2^n:=Nat.one_le_two_pow
theorem UI {p:bz} {en:Int->Bool} {most:Int}:∀{n:Nat} {s:dh} {a:Int} {f:List Int},eQ p f->nF f<=n->s.err=0->((s.prf.length+2^(nF f+1):Nat):Int)<=most+2->(dG p en most n s a f).err=0/\(dG p en most n s a f).prf.length+2<=s.prf.length+2^(nF f+1):=by
 have l:∀{c:dh->Int->List Int->dh} {s:dh} {a:Int} {f:List Int},eQ p f->s.err=0->((s.prf.length+2^(nF f+1):Nat):Int)<=most+2->
   (∀{s:dh} {a:Int} {g:List Int},eQ p g->nF f=nF g+1->s.err=0->((s.prf.length+2^(nF g+1):Nat):Int)<=most+2->(c s a g).err=0/\(c s a g).prf.length+2<=s.prf.length+2^(nF g+1))->
   (fK p en most c s a f).err=0/\(fK p en most c s a f).prf.length+2<=s.prf.length+2^(nF f+1):=by
  intro c s a f b t u C;obtain⟨L,J,T,X,e5⟩:=@E3 p en s f;have F:2<=2^(nF f+1):=by grind
  unfold fK;split;·omega
  split;·simp_all
  rename_i E N;have x:iY p f=true:=by simp_all
  split;·simp_all
  rename_i v;cases A:jP (dE p f) with
  |none=>
   exfalso;apply v;have o:mW (dE p f)=true:=by
    unfold mW;rw[ξ];intro q H;obtain⟨i,B,rfl⟩:=γB H;have w:=aep A i B;obtain⟨M,I,_⟩:=EY (b.ok x) b.r (show i<f.length by grind[rT]);rw[dj B] at w M I;rcases(show(dE p f)[i]=0\/(dE p f)[i]=1 by grind) with e|e<;>simp_all
   obtain⟨Y,K⟩:=Uz (b.ok x) b.r o;have P:((px p f).value:Rat)=jk p f:=K;by_cases D:((s.val+1:Int):Rat)<=jk p f
   ·have O:s.val<(px p f).value:=by
     rw[<-P] at D;have:s.val+1<=(px p f).value:=by exact_mod_cast D
     omega
    have:(dq p en s f).val=(px p f).value:=by
     simp_all[dq,ek]
    grind
   grind;|some k=>
   simp only;obtain⟨j,z,y⟩:=s7 A;rw[rT] at j;have m:bp f k.toNat 0=0:=sZ (b.ok x) b.r (by omega) z y;have n1:=mD j m (d:=1) (by omega);have n2:=mD j m (d:= -1) (by omega);have W:eQ p (f.set k.toNat 1):=b.set (by omega);have Z:eQ p (f.set k.toNat (-1)):=b.set (by omega);have V:(gP (dq p en s f) a k).prf.length=s.prf.length+2:=by
    grind[gP]
   have U:2^(nF f+1)=2^(nF (f.set k.toNat 1)+1)+2^(nF (f.set k.toNat 1)+1):=by
    grind
   have ne:nF (f.set k.toNat (-1))=nF (f.set k.toNat 1):=by omega
   have Q:2<=2^(nF (f.set k.toNat 1)+1):=by omega
   rw[if_neg (by rw[L];omega)];have S:(gP (dq p en s f) a k).err=0:=by show(dq p en s f).err=0;rw[J,t]
   grind
 intro n;induction n with
 |zero=>
  intro s a f b G t u;exact l b t u λ{s a g} _ h _ _=>by omega;|succ n R=>
  intro s a f b G t u;exact l b t u λ{s a g} E N v w=>R E (by omega) v w
theorem aev {p:bz} {f:List Int} {d:Int} (h:f.length=p.offers.length):fu p.offers.length (bE f d):=⟨uI,λi a=>by grind[kW]⟩
theorem uJ {a:Type} {l:List a} {i:Nat} {x d:a} (h:l[i]?=some x):bp l i d=x/\i<l.length:=by
 grind[bp]
theorem iK.top {p:bz} {v:Int} {t:List cB} {a lo b:Nat} {f:List Int} (h:iK p v t a f lo b):a<t.length/\(lo<b->b<=t.length):=by
 induction h with
 |bnd c _ _=>grind;|con c _=>grind;|@qT a f lo d b k c _ _ _ g e i j=>
  omega
def E6:bL:=⟨35,bz×List Int,.cons dO (.one (cV (.i .i64))),λa=>bH a.1=0/\a.2.length<=9223372036854775807,λa=> .si .i64 (dJ a.1 a.2)⟩
def aew (p:bz) (c:List Int):Nat->cC
 |6=> .inv Int (λi=>⟨[(7,.si .i64 (cK ((dy p c).take i.toNat))),(23,.row .off (dy p c)),(24,.si .i64 (dy p c).length),(25,.si .i64 i)],[.cells p.ss 27 20 false]⟩)
   (λs=>iS s 25) (λi=>0<=i/\i<=(dy p c).length) (λi=>((dy p c).length - i).toNat) λ_ _=> .look
 |_=> .look
theorem h437:Holds Tryz.prog E6:=by
 refine cq (L:=[Dl,qF]) E6 (λa=>aew a.1 a.2) (by grind[h133,h79]) ?_;rintro⟨p,c⟩ ⟨f,A⟩;simp only at f A;refine bQ (let a:=Ω .i64;let f:=(0:Int);let k:=γo .i64 0;let m:=a (dJ p c);let z:=decide (bH p≠f);let j:=Δ bw.off (dy p c);let B:=(↑(dy p c).length:Int);let d:=(↑(dy p c).length:Int);let r:=a d;let g:=bA.cells (bz.ss p) 27 20 false;(c.length<=9223372036854775807/\p.offers.length<=1000)/\((!gp p c)=true->k.same m)/\((!gp p c)=false->True/\(z=true->k.same m)/\(z=false->(((k.same (a (cK []))/\j.same j/\(a B).same r/\k.same (a 0)/\True)/\g.same g/\True)/\f<=f/\f<=d)/\∀(x:Int),let w:=cK (τ x.toNat (dy p c));let y:=w+(bp (dy p c) x.toNat bw.off.dflt).value;let b:=x+(1:Int);let e:=a b;f<=x/\x<=d->(decide (x<d)=true->f<=x/\x<B/\x.toNat<(dy p c).length/\bU .i64 y/\bU .i64 b/\(((a y).same (a (cK (τ b.toNat (dy p c))))/\j.same j/\r.same r/\e.same e/\True)/\g.same g/\True)/\(f<=b/\b<=d)/\(d - b).toNat<(d - x).toNat)/\(decide (x<d)=false->(a w).same m)))) (by kernel_rfl) ?_;simp only[vcs];have t:=dR f;obtain⟨G,v⟩:=Qq (c:=c) f;have u:=t.2.1;have q:gp p c=false->0=dJ p c:=λh=>by
  unfold dJ;rw[if_pos f];unfold dy;unfold gp at h;rw[Option.isSome_eq_false_iff,Option.isNone_iff_eq_none] at h;rw[h];rfl
 refine⟨⟨A,by omega⟩,q,λ_=>⟨λh=>absurd f h,λ_=>⟨⟨by simp[cK],by omega,by omega⟩,?_⟩⟩⟩;rintro i ⟨n,D⟩;refine⟨λo=>?_,λE=>?_⟩
 ·have H:=Qp n o;have F:=qG t (l:=(dy p c).take i.toNat) λx s=>v x (γi s);have C:=qG t (l:=(dy p c).take (i+1).toNat) λx s=>v x (γi s);grind
 ·rw[show i.toNat=(dy p c).length from by omega,χ];grind[dJ]
def K1:bL:=⟨116,Int×Int,.cons (ef .i64) (.one (ef .i64)),λa=>(-9223372036854775808<=a.1/\a.1<=9223372036854775807)/\0<a.2/\a.2<=9223372036854775807,λa=> .bN [lr (ey (decide (a.1<0)) (a.1.natAbs:Int) a.2),.si .i64 0]⟩
theorem h451:Holds Tryz.prog K1:=by
 refine cq (L:=[DZ,Au]) K1 lk (by grind[h127,h151]) ?_;rintro⟨n,d⟩ ⟨⟨u,w⟩,q,r⟩;simp only at u w q r;refine bQ (let e:=(-9223372036854775808:Int);let h:=(9223372036854775807:Int);let k:=(0:Int);let l:=Δ;let g:=bO (↑n.natAbs:Int);let b:=bO (↑d.natAbs:Int);let f:=bu (ey (!decide (n<k)==decide (d<k)) (bq g) (bq b));let a:=bw.i .u32;let j:=[Ω .i64 0];let c:=bu (ey (decide (n<k)) (↑n.natAbs:Int) d);(e<=n/\n<=h)/\(e<=d/\d<=h)/\((bB g/\bB b)/\(g.length<=1000000000/\b.length<=1000000000)/\k<bq b)/\(SV.bN (γF [γn f.fst,l a f.snd.fst,l a f.snd.snd]::j)).same (SV.bN (γF [γn c.fst,l a c.snd.fst,l a c.snd.snd]::j))) (by kernel_rfl) ?_;simp only[vcs];obtain⟨v,s,t⟩:=ec (show(0:Int)<=(n.natAbs:Int) by omega);obtain⟨o,l,h⟩:=ec (show(0:Int)<=(d.natAbs:Int) by omega);have x:=jv (k:=2) (show(0:Int)<=(n.natAbs:Int) by omega) (by omega);have p:=jv (k:=2) (show(0:Int)<=(d.natAbs:Int) by omega) (by omega);have e:(d.natAbs:Int)=d:=by omega
 have m:(!(decide (n<0)==decide (d<0)))=decide (n<0):=by
  grind
 rw[m,v,o,e];rw[e] at l h p;repeat' refine And.intro ?_ ?_
 all_goals first|omega|exact s|exact l|exact t|exact h|rfl
def py (x:List bM):Prop:=∃l,x=fL l/\x.length<=1000000/\∀q∈l,Sz 1000 q
theorem aex (q:Rat):q.den=1↔(bu q).2.2=[1]:=by
 have c:bO 1=[1]:=by decide
 constructor
 ·intro h;show bO (q.den:Int)=[1];simp_all
 ·intro h;have a:=(ec (show(0:Int)<=(q.den:Int) by omega)).1;have b:bO (q.den:Int)=[1]:=h;grind[bq]
theorem Bg (q:Rat):okF (bu q)=true:=decide_eq_true (by rw[dU])
def K2:bL:=⟨75,List bM,.one (cV sF),py,λx=> .sb (mW (vL x))⟩
def aey (x:List bM):Nat->cC
 |2=> .inv Int (λi=>⟨[(5,.row sF x),(6,.si .i64 x.length),(7,.si .i64 i)],[]⟩)
   (λs=>iS s 7) (λi=>(0<=i/\i<=x.length)/\mW ((vL x).take i.toNat)=true) (λi=>(x.length - i).toNat) λ_ _=> .look
 |_=> .look
theorem h445:Holds Tryz.prog K2:=by
 refine cq (L:=[uE]) K2 aey (by grind[h407]) ?_;rintro(x:List bM) ⟨l,v,G,H⟩;refine bQ (let c:=(0:Int);let d:=Ω .i64;let f:=γ0 false;let h:=Δ;let i:=(1:Int);let b:=(↑x.length:Int);let w:=d b;((((h sF x).same (h sF x)/\(d (↑x.length:Int)).same w/\(γo .i64 0).same (d 0)/\True)/\True)/\(c<=c/\c<=b)/\mW []=true)/\∀(a:Int),let p:=bp x a.toNat sF.dflt;let e:=p.snd.snd;let C:=(↑(Φ e):Int);let r:=γn (mW (vL x));let g:=a+i;let o:=d g;let A:=λ(u:Bool) ↦decide (bp e 0 c≠i)=u;let D:=λ(u:Bool) ↦decide (C≠i)=u;let E:=λ(u:Bool) ↦(!okF (p.fst,p.snd.fst,e))=u;(c<=a/\a<=b)/\mW (τ a.toNat (vL x))=true->(decide (a<b)=true->c<=a/\a<(↑x.length:Int)/\a.toNat<x.length/\((bB p.snd.fst/\bB e)/\Φ p.snd.fst<=10000000/\Φ e<=10000000)/\(E true->(f).same r)/\(E false->(D true->(f).same r)/\(D false->c<=c/\c<C/\0<Φ e/\(A true->(f).same r)/\(A false->bU .i64 g/\(((h sF x).same (h sF x)/\w.same w/\o.same o/\True)/\True)/\((c<=g/\g<=b)/\mW (τ g.toNat (vL x))=true)/\(b - g).toNat<(b - a).toNat))))/\(decide (a<b)=false->(γ0 true).same r)) (by kernel_rfl) ?_;simp only[vcs];subst v;rw[fy] at G ⊢;rw[jY];have s:∀k:Nat,((k:Nat):Int).toNat=k:=λk=>γb k;refine⟨⟨⟨by omega,by omega⟩,rfl⟩,?_⟩;rintro i ⟨⟨z,T⟩,c⟩;refine⟨λy=>?_,λy=>?_⟩
 ·have J:bp (fL l) i.toNat sF.dflt=bu (bp l i.toNat 0):=jj (by omega);have B:=dn (d:=0) (show i.toNat<l.length by omega);have N:=H _ B;have K:=jN (d:=0) z y;rw[J];generalize bp l i.toNat 0=q at*;obtain⟨_,⟨I,U,V⟩,⟨M,P,W⟩⟩:=jg q;obtain⟨R,S⟩:=lM N;have m:=aex q;have j:q.den≠1->false=mW l:=λQ=>by
   refine(δo.2 λf=>?_).symm;have:=ξ.1 f _ B;simp_all
  have t:=Bg q;refine⟨z,y,by omega,⟨⟨I,M⟩,by omega,by omega⟩,λh=>absurd t (by simp_all),λ_=>⟨λh=>j λf=>h ?_,λh=>⟨by omega,by omega,by omega,λf=>j λO=>f ?_,λf=>⟨by omega,⟨by omega,?_⟩,by omega⟩⟩⟩⟩;·simp_all
  ·rw[(m.1 O)];rfl
  ·rw[K];unfold mW at c ⊢;rw[List.all_append,c];have:q.den=1:=m.2 (by
    have n:(bu q).2.2.length=1:=by omega
    have F:bp (bu q).2.2 0 0=1:=γa.1 f;match v:(bu q).2.2,n with
    |[x],_=>
     rw[v] at F;have:x=1:=F;rw[this]);simp[this]
 grind
end Go.Vi
