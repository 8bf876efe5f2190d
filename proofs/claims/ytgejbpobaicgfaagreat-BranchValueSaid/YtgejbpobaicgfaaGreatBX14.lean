/-
  Contracts: the reference's bound from prices.
  Conditions: none.
-/
import Derived.Test.YtgejbpobaicgfaaGreatBX13
import Derived.Test.YtgejbpobaicgfaaGreatBX06
import Derived.Test.YtgejbpobaicgfaaGreatBX10
import Derived.Test.YtgejbpobaicgfaaGreatBX07
import Derived.Test.YtgejbpobaicgfaaGreatBX09
import Derived.Test.YtgejbpobaicgfaaGreatBX08
import Derived.Test.YtgejbpobaicgfaaGreatBX11
import Derived.Test.YtgejbpobaicgfaaGreatBX12
set_option maxRecDepth 100000
set_option maxHeartbeats 4000000
set_option linter.all false
open Bool renaming and_eq_true->μ,false_eq_true->Γ,true_eq_false->δ9
open Classical renaming not_not->Ψ
open Go.Vi.AV.os renaming injEq->δ7
open Go.Vi.SV renaming row->Ξ,agg->γL,sb->γv,si->γa,il->γu,ow->γQ,ptr->γ5,bl->δe
open Int renaming le_of_lt->φ,toNat_natCast->γm,reduceEq->ζW,reduceNe->ζX,ofNat_lt->εV
open IntCast renaming intCast->ξ
open List renaming length->γb,length_map->γs,length_take->γd,map_append->γj,take->ω,take_length->τ,map_cons->ψ,map_nil->γy,getElem_map->δW,ext_getElem->γ2,length_set->χ,mem_map->γk,drop_zero->δK,length_nil->εE,replicate->δ,length_replicate->γN,getElem_of_mem->δb,length_append->θ
open List.cons renaming injEq->Δ
open Nat renaming mul_le_mul_right->γC,le_refl->Θ,lt_of_lt_of_le->γo
open Option renaming isSome_eq_false_iff->γZ,isNone_iff_eq_none->γM,isSome_iff_exists->γp,getD_some->γA
open Option.some renaming injEq->γ
open Rat renaming not_lt->ζp
namespace Go.Vi
open Go.Proofs.YtgejbpobaicgfaaGreat.Ir
open Go.Proofs
def asc:fN:=⟨135,fi×fi,.cons (Ac sF) (.one (Ac sF)),λa=>xN a.1/\xN a.2,λa=>XA (fa a.1*fa a.2)⟩
theorem h456:Holds Tryz.prog asc:=by
 refine kh (L:=[amB,ajU]) asc lk (by simpa using⟨h104,h105⟩) ?_
 rintro⟨x,y⟩ ⟨⟨p,i,o,f,E⟩,⟨q,j,s,e,S⟩⟩
 simp only at o s
 subst o s
 refine gp (let e:=Ξ;let d:=(cC p).snd.fst;let h:=(cC q).snd.fst;let m:=(cC p).snd.snd;let k:=(cC q).snd.snd;let c:=ey (bD d*bD h);let a:=ey (bD m*bD k);let l:=cC (sY (!(cC p).fst==(cC q).fst) (bD c) (bD a));let b:=cn.i .u32;let g:=cC (fa (cC p)*fa (cC q));((cQ d/\cQ h)/\γb d<=1000000000/\γb h<=1000000000)/\((cQ m/\cQ k)/\γb m<=1000000000/\γb k<=1000000000)/\((cQ c/\cQ a)/\(c.length<=100000000/\a.length<=100000000)/\(qH c/\qH a)/\(0:Int)<bD a)/\(γL [γv l.fst,e b l.snd.fst,e b l.snd.snd]).same (γL [γv g.fst,e b g.snd.fst,e b g.snd.snd])) (by kernel_rfl) ?_
 conv=>zeta
 obtain⟨w,⟨K,W,C⟩,⟨U,H,v⟩⟩:=QY p
 obtain⟨u,⟨I,X,A⟩,⟨V,T,B⟩⟩:=QY q
 obtain⟨Q,F⟩:=aaD f
 obtain⟨J,N⟩:=aaD e
 have O:=p.den_pos
 have Z:=q.den_pos
 rw[C,v,A,B,w,u,sy,sy]
 have r:0<=(p.num.natAbs:Int)*(q.num.natAbs:Int):=Int.mul_nonneg (by omega) (by omega)
 have n:0<(p.den:Int)*(q.den:Int):=Int.mul_pos (by omega) (by omega)
 have Y:=Lq r (aa8 (by omega) f.1 e.1)
 have D:=Lq (φ n) (aa8 (by omega) f.2 e.2)
 obtain⟨z,R,G⟩:=ri r
 obtain⟨t,P,M⟩:=ri (φ n)
 rw[z,t]
 grind[afo,aqP]
def ant:fN:=⟨132,dd,.one qa,λ_=>True,λp=> .si .i64 (if fO p=0 then ki p else 0)⟩
theorem h454:Holds Tryz.prog ant:=by
 refine kh (L:=[r24]) ant lk (by grind[h24]) ?_
 rintro(p:dd) -
 refine gp (let d:=(0:Int);let b:=decide (fO p≠d);let a:=γa .i64 (if fO p=d then ki p else d);let c:=(↑p.classes.length:Int)+(12:Int);True/\(b=true->(γu .i64 0).same a)/\(b=false->ie .i64 c/\(γa .i64 c).same a)) (by kernel_rfl) ?_
 simp only[vcs]
 refine⟨λh=>by rw[if_neg h],λh=>?_⟩
 have d:fO p=0:=Ψ.1 h
 rw[if_pos d]
 have:=(uw d).1
 exact⟨by omega,rfl⟩
def ase:fN:=⟨134,dd×Int,.cons qa (.one (sx .i64)),λa=>fO a.1=0/\0<=a.2/\a.2<ki a.1,λa=> .eW [.row (.i .i64) (uD a.1 a.2 a.1.offers.length),.si .i64 (nn a.1 a.2)]⟩
def aHe (a:dd×Int):Nat->jY
 |5=> .inv Int (λi=>⟨[(1,.si .i64 a.2),(2,.ptr 0 0 20),(6,.ow 1 (uD a.1 a.2 i.toNat).length 1),(7,.si .i64 i)],[.cells a.1.ss 27 20 false,.row (.i .i64) (uD a.1 a.2 i.toNat) 3 true]⟩)
   (λs=>iS s 7) (λi=>0<=i/\i<=a.1.offers.length) (λi=>(a.1.offers.length - i).toNat) λ_ _=> .look
 |_=> .look
theorem h455:Holds Tryz.prog ase:=by
 refine kh (L:=[ant,alN]) ase aHe (by simpa using⟨h454,h110⟩) ?_
 rintro⟨p,r⟩ ⟨hc,r0,r1⟩
 simp only at hc r0 r1
 refine gp (let a:=γa .i64;let b:=(0:Int);let c:=Ξ;let d:=cJ.row;let e:=SV.eW;let f:=γQ;let s:=decide (r<b);let g:=cn.i .i64;let n:=γu .i64 0;let t:=[a (nn p r)];let o:=e (c g (uD p r p.offers.length)::t);let u:=decide ((if fO p=b then ki p else b)<=r);let l:=γ5 0 0 20;let m:=cJ.cells [a p.supply.a0,a p.supply.a1,a p.supply.a2,a p.supply.a3,a p.supply.a4,a p.supply.a5,a p.opn.a0,a p.opn.a1,a p.opn.a2,a p.opn.a3,a p.opn.a4,a p.opn.a5,a p.cls.a0,a p.cls.a1,a p.cls.a2,a p.cls.a3,a p.cls.a4,a p.cls.a5,c g p.classes,c cn.off p.offers] 27 20 false;let k:=(↑p.offers.length:Int);let q:=(↑p.offers.length:Int);(s=true->(e [c g [],n]).same o)/\(s=false->True/\(u=true->(e [c g [],n]).same o)/\(u=false->((((a r).same (a r)/\l.same l/\(f 1 0 1).same (f 1 (uD p r 0).length 1)/\n.same (a 0)/\True)/\m.same m/\(d g [] 3 true).same (d g (uD p r 0) 3 true)/\True)/\b<=b/\b<=k)/\∀(x:Int),let v:=bC p.offers x.toNat cn.off.dflt;let h:=uD p r x.toNat;let w:=h.length+1;let j:=x+(1:Int);let y:=h++[abZ p r v];let z:=a j;b<=x/\x<=k->(decide (x<q)=true->b<=x/\x<q/\x.toNat<p.offers.length/\(p.classes.length<=8/\b<=r/\r<ki p/\b<=v.jV)/\h.length=h.length/\w*8<=140737488355328/\w<=1000000000000/\ie .i64 j/\(((a r).same (a r)/\l.same l/\(f 1 y.length 1).same (f 1 (uD p r j.toNat).length 1)/\z.same z/\True)/\m.same m/\(d g y 3 true).same (d g (uD p r j.toNat) 3 true)/\True)/\(b<=j/\j<=k)/\(k - j).toNat<(k - x).toNat)/\(decide (x<q)=false->(p.classes.length<=8/\b<=r/\r<ki p/\b<=b)/\h.length=h.length/\(e (c g h::t)).same o)))) (by kernel_rfl) ?_
 simp only[vcs]
 obtain⟨g1,g2,g3,g4,g5⟩:=uw hc
 have how:∀{x y:Nat},x=y->(γQ 1 x 1).same (γQ 1 y 1):=by rintro _ _ rfl;rfl
 have hrow:∀{x y:List Int},x=y->(cJ.row (.i .i64) x 3 true).same (cJ.row (.i .i64) y 3 true):=by rintro _ _ rfl;rfl
 rw[if_pos hc]
 refine⟨λh=>by omega,λ_=>⟨λh=>by omega,λ_=>⟨⟨⟨how rfl,hrow rfl⟩,by omega,by omega⟩,?_⟩⟩⟩
 rintro i ⟨i0,i1⟩
 have hL:(uD p r i.toNat).length<=160:=by unfold uD;rw[γs,γd];omega
 refine⟨λhi=>?_,λhi=>?_⟩
 ·have hx:=g5 _ (pz (d:=cn.off.dflt) (show i.toNat<p.offers.length by omega))
  have e:uD p r (i+1).toNat=uD p r i.toNat++[abZ p r (bC p.offers i.toNat cn.off.dflt)]:=by
   unfold uD;rw[Xx (d:=cn.off.dflt) i0 hi,γj,avh hx.2.1];rfl
  rw[e]
  refine⟨i0,hi,?_,⟨g1,r0,r1,hx.1⟩,?_,?_,?_,⟨how rfl,hrow rfl⟩,?_,?_⟩<;>omega
 ·rw[show i.toNat=p.offers.length by omega]
  exact⟨⟨g1,r0,r1,by omega⟩,rfl⟩
def asf:fN:=⟨131,dd×List Int,.cons qa (.one (mA (.i .i64))),λa=>a.2.length<=1000000000000,λa=> .si .i64 (DU a.1 a.2)⟩
def aHf (p:dd) (f:List Int):Nat->jY
 |7=> .inv Int (λi=>⟨[(1,.row (.i .i64) f),(6,.si .i64 i)],[.cells p.ss 27 20 false]⟩)
   (λs=>iS s 6) (λi=>(0<=i/\i<=f.length)/\Fj (f.take i.toNat)=true) (λi=>(f.length - i).toNat) λ_ _=> .look
 |_=> .look
theorem h453:Holds Tryz.prog asf:=by
 refine kh (L:=[r24]) asf (λa=>aHf a.1 a.2) (by simpa using h24) ?_
 rintro⟨p,f⟩ (hl:f.length<=1000000000000)
 refine gp (let a:=(0:Int);let b:=γa .i64;let c:=γu .i64;let l:=decide (fO p≠a);let e:=b (DU p f);let g:=(↑f.length:Int);let m:=decide (g≠(↑p.offers.length:Int));let j:=Ξ (cn.i .i64) f;let n:=c 0;let k:=cJ.cells (dd.ss p) 27 20 false;let h:=(↑f.length:Int);True/\(l=true->(b (fO p)).same e)/\(l=false->(m=true->(c 3).same e)/\(m=false->(((j.same j/\n.same (b 0)/\True)/\k.same k/\True)/\(a<=a/\a<=h)/\Fj []=true)/\∀(x:Int),let o:=bC f x.toNat a;let q:=decide (o<(-1:Int));let r:=decide ((1:Int)<o);let d:=x+(1:Int);let s:=b d;(a<=x/\x<=h)/\Fj (ω x.toNat f)=true->(decide (x<g)=true->a<=x/\x<g/\x.toNat<f.length/\(q=true->(c 4).same e)/\(q=false->a<=x/\x<g/\x.toNat<f.length/\(r=true->(c 4).same e)/\(r=false->ie .i64 d/\((j.same j/\s.same s/\True)/\k.same k/\True)/\((a<=d/\d<=h)/\Fj (ω d.toNat f)=true)/\(h - d).toNat<(h - x).toNat)))/\(decide (x<g)=false->n.same e)))) (by kernel_rfl) ?_
 simp only[vcs]
 refine⟨λh=>by simp[DU,h],λh=>?_⟩
 have hc:fO p=0:=Ψ.1 h
 refine⟨λh1=>by
  have h2:f.length≠p.offers.length:=λh=>h1 (by rw[h])
  simp[DU,hc,h2],λh1=>⟨⟨⟨by omega,by omega⟩,rfl⟩,?_⟩⟩
 have hlen:f.length=p.offers.length:=by omega
 rintro i ⟨⟨i0,i1⟩,hall⟩
 refine⟨λhi=>?_,λhi=>?_⟩
 ·have hm:=pz (d:=0) (show i.toNat<f.length by omega)
  have et:=Xx (d:=0) i0 hi
  have bad:¬(-1<=bC f i.toNat 0/\bC f i.toNat 0<=1)->(4:Int)=DU p f:=λhn=>by
   have:Fj f=false:=by
    rw[Bool.eq_false_iff];intro h2
    have:=List.all_eq_true.1 h2 _ hm
    simp only[μ,decide_eq_true_eq] at this
    exact hn this
   simp[DU,hc,hlen,this]
  have good: -1<=bC f i.toNat 0/\bC f i.toNat 0<=1->Fj (f.take (i+1).toNat)=true:=λhn=>by
   unfold Fj at hall ⊢;rw[et,List.all_append,hall]
   simp[hn]
  exact⟨i0,hi,by omega,λh2=>bad (by omega),λh2=>⟨i0,hi,by omega,λh3=>bad (by omega),λh3=>⟨by omega,⟨⟨by omega,by omega⟩,good (by omega)⟩,by omega⟩⟩⟩
 ·rw[show i.toNat=f.length by omega,τ] at hall
  simp[DU,hc,hlen,hall]
def aHg (f:FuncId) (β:Type) (A:acX β) (dom:dd->List Int->β->Prop) (res:dd->List Int->β->SV):og where
 f:=f
 α:=dd×Nat×Nat×List Int×β
 put a:=qa.put a.1:: .os 0 0 a.2.1 a.2.2.1 1::A.put a.2.2.2.2
 st a:=[.row (.i .i64) a.2.2.2.1 3 true]
 dec v o:=match v,o with
  |p:: .os 0 0 n m 1::r,[.row s l 3 true]=>match qa.dec p,AW s (.i .i64) l,A.dec r with
   |some p,some l,some b=>some (p,n,m,l,b)
   |_,_,_=>none
  |p:: .ow 0 n 1::r,[.row s l 3 true]=>match qa.dec p,AW s (.i .i64) l,A.dec r with
   |some p,some l,some b=>some (p,n,n,l,b)
   |_,_,_=>none
  |_,_=>none
 ok v o a h:=by
  split at h
  ·split at h
   ·rename_i h1 h2 h3
    simp only[γ] at h;subst h
    obtain⟨rfl,e1⟩:=KA h2
    cases e1
    exact⟨by simp only[gL,qa.ok _ _ h1,A.ok _ _ h3],rfl⟩
   ·cases h
  ·split at h
   ·rename_i h1 h2 h3
    simp only[γ] at h;subst h
    obtain⟨rfl,e1⟩:=KA h2
    cases e1
    exact⟨by simp only[gL,qa.ok _ _ h1,A.ok _ _ h3,SV.g,Nat.zero_mul],rfl⟩
   ·cases h
  ·cases h
 inj a b h1 h2:=by
  obtain⟨p,n,m,l,x⟩:=a
  obtain⟨p',n',m',l',x'⟩:=b
  simp only[gL,Δ,and_true,SV.g,δ7,true_and] at h1;simp only[gO,ψ,γy,cJ.g,Δ,ig.cells.injEq,and_true] at h2
  obtain⟨q1,⟨q2,q3⟩,q4⟩:=h1
  have q3:m=m':=by simpa using q3
  rw[qa.inj p p' q1,aaG (s:=.i .i64) h2,q2,q3,A.inj _ _ q4]
 dom a:=(a.2.1=a.2.2.2.1.length/\a.2.2.1=a.2.2.2.1.length)/\dom a.1 a.2.2.2.1 a.2.2.2.2
 res a:=res a.1 a.2.2.2.1 a.2.2.2.2
 out a:=[.row (.i .i64) a.2.2.2.1 3 true]
def exQ (p:dd) (y:List Rat) (r:Nat) (i:Int):Rat:=((oI p i).value:Rat) - jd r λk=>bC y k 0*((sV p k (oI p i):Int):Rat)
def QR (p:dd) (y:List Rat) (r k:Nat):List fi:=(rb p.offers.length).map λ(i:Int)=>cC (exQ p y (if i<(k:Int) then r+1 else r) i)
def exA (p:dd) (k:Nat):List fi:=(rb k).map λ(i:Int)=>cC (((oI p i).value:Int):Rat)
def suQ (p:dd) (f:List Int) (y:List Rat) (r:Nat):Rat:=((Gv p f:Int):Rat)+jd r λk=>bC y k 0*((nn p k - li p ((dV f 1).map (oI p)) k:Int):Rat)
def bdP (p:dd) (f:List Int) (r:Int) (k:Nat):Int:=nn p r - li p ((dV (f.take k) 1).map (oI p)) r
theorem aks {p:dd} {k:Nat}:(exA p k).length=k:=by unfold exA;rw[γs,Qk]
theorem aHh {p:dd} {i:Int} (i0:0<=i):exA p i.toNat++[cC (ξ (oI p i).value)]=exA p (i+1).toNat:=by
 unfold exA
 rw[show(i+1).toNat=i.toNat+1 by omega,agu,γj,Int.toNat_of_nonneg i0]
 rfl
theorem ayI {α:Type} {n j:Nat} (g:Int->α) (d:α) (h:j<n):bC ((rb n).map g) j d=g j:=by
 rw[my (by rw[γs,Qk];exact h),δW]
 congr 1
 simp[rb]
theorem ayJ {p:dd} {k j:Nat} (h:j<k) {d:fi}:bC (exA p k) j d=cC (((oI p j).value:Int):Rat):=ayI _ _ h
theorem abk {p:dd} {y:List Rat} {r k:Nat}:(QR p y r k).length=p.offers.length:=by unfold QR;rw[γs,Qk]
theorem agM {p:dd} {y:List Rat} {r k j:Nat} (h:j<p.offers.length) {d:fi}:bC (QR p y r k) j d=cC (exQ p y (if j<k then r+1 else r) j):=by
 unfold QR;rw[ayI _ _ h]
 congr 2
 by_cases h2:j<k
 ·rw[if_pos h2,if_pos (by omega)]
 ·rw[if_neg h2,if_neg (by omega)]
theorem ash {α:Type} {a b:List α} (d:α) (hl:a.length=b.length) (h:∀j,j<a.length->bC a j d=bC b j d):a=b:=by
 refine γ2 hl λj h1 h2=>?_
 have:=h j h1
 rwa [my h1,my h2] at this
theorem aHi {p:dd} {y:List Rat} {r:Nat} {k:Int} (k0:0<=k) (h:k<p.offers.length):(QR p y r k.toNat).set k.toNat (cC (exQ p y (r+1) k))=QR p y r (k+1).toNat:=by
 refine ash (false,([],[])) (by rw[χ,abk,abk]) λj hj=>?_
 rw[χ,abk] at hj
 rw[ab4 (by rw[abk];omega),agM hj,agM hj]
 by_cases e:j=k.toNat
 ·rw[if_pos e,if_pos (by omega),show((j:Nat):Int)=k by omega]
 ·rw[if_neg e]
  by_cases h2:j<k.toNat
  ·rw[if_pos h2,if_pos (by omega)]
  ·rw[if_neg h2,if_neg (by omega)]
theorem aHj {p:dd} {y:List Rat} {r:Nat}:QR p y r p.offers.length=QR p y (r+1) 0:=by
 refine ash (false,([],[])) (by rw[abk,abk]) λj hj=>?_
 rw[abk] at hj
 rw[agM hj,agM hj,if_pos hj,if_neg (by omega)]
theorem aHk {p:dd} {y:List Rat}:exA p p.offers.length=QR p y 0 0:=by
 refine ash (false,([],[])) (by rw[aks,abk]) λj hj=>?_
 rw[aks] at hj
 rw[ayJ hj,agM hj,if_neg (by omega)]
 congr 1
 unfold exQ;simp only[jd]
 grind
theorem aHl {p:dd} {f:List Int} {y:List Rat}:suQ p f y 0=((Gv p f:Int):Rat):=by
 unfold suQ;simp only[jd]
 grind
theorem aHm {p:dd} {f:List Int} {y:List Rat} {r:Nat}:suQ p f y (r+1)=suQ p f y r+bC y r 0*((nn p r - li p ((dV f 1).map (oI p)) r:Int):Rat):=by
 unfold suQ;simp only[jd]
 grind
theorem aHn {p:dd} {y:List Rat} {r:Nat} {i:Int}:exQ p y (r+1) i=exQ p y r i - bC y r 0*((sV p r (oI p i):Int):Rat):=by
 unfold exQ;simp only[jd]
 grind
theorem asi {g:Nat->Rat} {K:Nat}:∀{n:Nat},(∀k,k<n->Sz K (g k))->Sz (n*(K+1)+1) (jd n g)
 |0,_=>by
  simp only[jd]
  exact(show Sz 1 0 by unfold Sz;decide).mono (by omega)
 |n+1,h=>by
  simp only[jd]
  have h1:Sz (n*(K+1)+1) (jd n g):=asi λk hk=>h k (by omega)
  have h2:=ah2 h1 (h n (by omega))
  exact h2.mono (by rw[Nat.add_mul];omega)
theorem adh {q:Rat} {k:Nat} (h:Sz k q) (hk:k<=10000000):xN (cC q):=⟨q,k,rfl,h,hk⟩
theorem aHo {p:dd} {r:Int}:(uD p r p.offers.length).length=p.offers.length:=by unfold uD;rw[γs,τ]
theorem aHp {p:dd} {r i:Int} (h:0<=i/\i<p.offers.length):bC (uD p r p.offers.length) i.toNat 0=sV p r (oI p i):=by
 unfold uD
 rw[my (by rw[γs,τ];omega),δW]
 unfold oI
 rw[my (by omega)]
 simp
theorem aHq {p:dd} {f:List Int} {r:Int}:bdP p f r 0=nn p r:=by
 unfold bdP
 simp[dV,rb,li]
theorem aHr {p:dd} {f:List Int} {r k:Int} (k0:0<=k) (h:k<f.length):bdP p f r (k+1).toNat=bdP p f r k.toNat - if bC f k.toNat 0=1 then sV p r (oI p k) else 0:=by
 unfold bdP;rw[akb k0 h,γj];unfold li;rw[γj,List.sum_append];split
 ·simp;omega
 ·simp
theorem asj {p:dd} {f:List Int} {r:Int}:bdP p f r f.length=nn p r - li p ((dV f 1).map (oI p)) r:=by
 unfold bdP;rw[τ]
theorem ayK {p:dd} {f:List Int} {r:Int} {k:Nat} (hc:fO p=0) (hl:f.length=p.offers.length): -640<=bdP p f r k/\bdP p f r k<=4:=by
 have h1:=@ajO p hc r
 have h2:=@aeg p r ((dV (f.take k) 1).map (oI p)) λx hx=>by
  obtain⟨i,hi,rfl⟩:=γk.1 hx
  have:=(Ui.1 hi).1
  rw[γd] at this
  exact(aaf hc (i:=i) (by omega)).2.2.1
 have h3:=@afw (f.take k) 1
 rw[γs] at h2;rw[γd] at h3
 have h4:=(uw hc).2.1
 unfold bdP;omega
section
variable {p:dd} {f:List Int}
theorem ayL (h:xJ p f) {r:Nat} (hr:r<=mF p) {i:Int} (hi:0<=i/\i<p.offers.length):Sz 30000 (exQ p (s5 p f) r i):=by
 have ho:=aaf h.1 hi
 have hm:mF p<=20:=by have:=(uw h.1).1;unfold mF;omega
 have h1:Sz (r*1003+1) (jd r λk=>bC (s5 p f) k 0*((sV p k (oI p i):Int):Rat)):=asi (K:=1002) λk hk=>by
  have hb:=@acA p k _ ho.2.2.1
  have h3:Sz 2 ((sV p k (oI p i):Int):Rat):=szI (by omega) (by omega)
  exact(aev (anb h (show k<mF p by omega)).2 h3).mono (by omega)
 have h2:=ah2 (szI (W:=(oI p i).value) (by omega) (by omega)) (afl h1)
 unfold exQ;rw[Rat.sub_eq_add_neg]
 refine h2.mono ?_
 have:r*1003<=20*1003:=γC _ (by omega)
 omega
theorem aHs (h:xJ p f) {r:Nat} (hr:r<=mF p):Sz 30000 (suQ p f (s5 p f) r):=by
 have hl:f.length=p.offers.length:=h.2.1
 have hm:mF p<=20:=by have:=(uw h.1).1;unfold mF;omega
 have ha:=@akc p h.1 f f.length hl
 rw[τ] at ha
 have h1:Sz (r*1003+1) (jd r λk=>bC (s5 p f) k 0*((nn p k - li p ((dV f 1).map (oI p)) k:Int):Rat)):=asi (K:=1002) λk hk=>by
  have hb:=@ayK p f k f.length h.1 hl
  rw[asj] at hb
  have h3:Sz 2 ((nn p k - li p ((dV f 1).map (oI p)) k:Int):Rat):=szI (by omega) (by omega)
  exact(aev (anb h (show k<mF p by omega)).2 h3).mono (by omega)
 have h2:=ah2 (szI (W:=Gv p f) (by omega) (by omega)) h1
 unfold suQ
 refine h2.mono ?_
 have:r*1003<=20*1003:=γC _ (by omega)
 omega
theorem aHt (h:xJ p f) {i:Int} (hi:0<=i/\i<f.length) (h0:bC f i.toNat 0=0):exQ p (s5 p f) (mF p) i<=0:=by
 have hm:i∈dV f 0:=Ui.2 ⟨hi,h0⟩
 have hl:(dV f 0).idxOf i<nF f:=List.idxOf_lt_length_of_mem hm
 have h1:=aGE h hl
 have e:bC (dV f 0) ((dV f 0).idxOf i) 0=i:=by rw[my hl];exact List.getElem_idxOf hl
 rw[aj1 hl,e,q0 (g:=λk=>bC (s5 p f) k 0*((sV p k (oI p i):Int):Rat)) λk hk=>by rw[ail hk hl,e]] at h1
 unfold exQ
 grind
theorem aHu (h:xJ p f):suQ p f (s5 p f) (mF p)=DV p f:=by
 unfold suQ DV
 rw[ayl h,q0 (g:=λk=>bC (s5 p f) k 0*(kz p f).bd k) λk hk=>by rw[ain hk]]
end
noncomputable def asl:og:=aHg 88 (List fi) (.one (mA sF)) (λp f x=>xJ p f/\Fj f=true/\x=fL (s5 p f)) λp f _=> .eW [XA (DV p f),.si .i64 0]
def anu (p:dd) (f:List Int) (q:Rat) (ex:List fi):jr:=[.row (.i .i64) f 3 true,.cells p.ss 27 20 false,.cells [.bl false,.sc (.slice none 0 0),.sc (.slice none 0 0)] 70 3 false,.cells [.sb (cC q).1,.row (.i .u32) (cC q).2.1,.row (.i .u32) (cC q).2.2] 70 3 false,.row sF ex 70 false]
noncomputable def aHv (p:dd) (f:List Int) (x:List fi):Nat->jY
 |8=> .inv Int (λi=>⟨[(1,.os 0 0 f.length f.length 1),(2,.row sF x),(3,.ptr 1 0 20),(6,.ptr 2 0 3),(9,.si .i64 (ki p)),(10,.si .i64 i)],[.row (.i .i64) f 3 true,.cells p.ss 27 20 false,.cells [.bl false,.sc (.slice none 0 0),.sc (.slice none 0 0)] 70 3 false]⟩)
   (λs=>iS s 10) (λi=>0<=i/\i<=ki p) (λi=>(ki p - i).toNat) λ_ _=> .look
 |17=> .inv Int (λi=>⟨[(1,.os 0 0 f.length f.length 1),(2,.row sF x),(3,.ptr 1 0 20),(6,.ptr 2 0 3),(9,.si .i64 (ki p)),(11,.ptr 3 0 3),(12,.ow 4 (exA p i.toNat).length 3),(13,.si .i64 i)],anu p f ((Gv p (f.take i.toNat):Int):Rat) (exA p i.toNat)⟩)
   (λs=>iS s 13) (λi=>0<=i/\i<=f.length) (λi=>(f.length - i).toNat) λ_ _=> .look
 |23=> .inv Int (λr=>⟨[(1,.os 0 0 f.length f.length 1),(2,.row sF x),(3,.ptr 1 0 20),(6,.ptr 2 0 3),(9,.si .i64 (ki p)),(11,.ptr 3 0 3),(12,.ow 4 (QR p (vL x) r.toNat 0).length 3),(14,.si .i64 r)],anu p f (suQ p f (vL x) r.toNat) (QR p (vL x) r.toNat 0)⟩)
   (λs=>iS s 14) (λr=>0<=r/\r<=ki p) (λr=>(ki p - r).toNat) λr k=>match k with
   |27=> .inv Int (λk=>⟨[(1,.os 0 0 f.length f.length 1),(2,.row sF x),(3,.ptr 1 0 20),(6,.ptr 2 0 3),(9,.si .i64 (ki p)),(11,.ptr 3 0 3),(12,.ow 4 (QR p (vL x) r.toNat k.toNat).length 3),(14,.si .i64 r),(15,.row (.i .i64) (uD p r p.offers.length)),(16,.si .i64 (bdP p f r k.toNat)),(17,.si .i64 k)],anu p f (suQ p f (vL x) r.toNat) (QR p (vL x) r.toNat k.toNat)⟩)
     (λs=>iS s 17) (λk=>0<=k/\k<=f.length) (λk=>(f.length - k).toNat) λ_ _=> .look
   |_=> .look
 |34=> .inv Int (λi=>⟨[(1,.os 0 0 f.length f.length 1),(6,.ptr 2 0 3),(11,.ptr 3 0 3),(12,.ow 4 (QR p (vL x) (mF p) 0).length 3),(18,.si .i64 i)],anu p f (suQ p f (vL x) (mF p)) (QR p (vL x) (mF p) 0)⟩)
   (λs=>iS s 18) (λi=>0<=i/\i<=f.length) (λi=>(f.length - i).toNat) λ_ _=> .look
 |_=> .look
theorem h449:sd Tryz.prog asl:=by
 refine Sj (L:=[asf,ant,r93,r51,r52,ase,asc,amJ,r48]) (W:=[]) asl (λa=>aHv a.1 a.2.2.2.1 a.2.2.2.2) (by simp) (by simpa using⟨h453,h454,h93,h51,h52,h455,h456,h108,h48⟩) ?_
 rintro⟨p,n,m,f,x⟩ ⟨⟨hn,hm⟩,hf,hr,hx⟩
 simp only at hn hm hf hr hx
 subst hn hm
 refine gp (let a:=(0:Int);let c:=γa .i64;let d:=Ξ;let e:=cJ.cells;let g:=(-9223372036854775808:Int);let h:=(9223372036854775807:Int);let j:=cJ.row;let k:=γv;let l:=ie .i64;let m:=γQ;let n:=(1:Int);let o:=γu .i64;let q:=γL;let r:=SV.eW;let s:=sF.dflt;let t:=γ5;let aG:=SV.sc (Value.slice none 0 0);let a9:=[δe false,aG,aG];let y:=cn.i .u32;let aH:=(cC (DV p f)).snd;let Q:=c 0;let aa:=r [q [k (cC (DV p f)).fst,d y aH.fst,d y aH.snd],Q];let R:=cn.i .i64;let v:=j R f 3 true;let ab:=ω f.length f;let S:=(↑x.length:Int);let ah:=if fO p=a then ki p else a;let z:=SV.os 0 0 f.length f.length 1;let E:=t 1 0 20;let A:=t 2 0 3;let G:=c (ki p);let T:=o 0;let B:=e [c p.supply.a0,c p.supply.a1,c p.supply.a2,c p.supply.a3,c p.supply.a4,c p.supply.a5,c p.opn.a0,c p.opn.a1,c p.opn.a2,c p.opn.a3,c p.opn.a4,c p.opn.a5,c p.cls.a0,c p.cls.a1,c p.cls.a2,c p.cls.a3,c p.cls.a4,c p.cls.a5,d R p.classes,d cn.off p.offers] 27 20 false;let C:=e a9 70 3 false;let D:=t 3 0 3;let ai:=cC (ξ a);let aj:=cC (ξ (Gv p []));let ak:=cn.b.pair (y.fK.pair y.fK);let w:=(↑f.length:Int);let aI:=QR p (vL x) 0 0;let al:=cC (suQ p f (vL x) 0);let K:=QR p (vL x) (mF p) 0;let Y:=m 4 K.length 3;let U:=cC (suQ p f (vL x) (mF p));let aJ:=[k U.fst,d y U.snd.fst,d y U.snd.snd];let ac:=e aJ 70 3 false;let Z:=j sF K 70 false;let L:=K.length;let aK:=(U.fst,U.snd.fst,U.snd.snd);let aL:=λ(u u_1:Int) (u_2:SV) ↦decide (u≠u_1)=true->(r [q a9,u_2]).same aa/\v.same v/\True;f.length=f.length/\0+f.length<=f.length/\ab.length<=1000000000000/\aL (DU p ab) a (c (DU p ab))/\(decide (DU p ab≠a)=false->True/\aL S ah (o 3)/\(decide (S≠ah)=false->(((z.same z/\(d sF x).same (d sF x)/\E.same E/\A.same A/\(c ah).same G/\T.same Q/\True)/\v.same v/\B.same B/\C.same C/\True)/\a<=a/\a<=ki p)/\∀(x_1:Int),let H:=bC x x_1.toNat s;let aM:=decide (x_1<ki p);let a6:=x_1+n;let aN:=c a6;let aO:=λ(u:Bool) ↦(!okF (H.fst,H.snd.fst,H.snd.snd))=u;a<=x_1/\x_1<=ki p->(aM=true->a<=x_1/\x_1<S/\x_1.toNat<x.length/\((cQ H.snd.fst/\cQ H.snd.snd)/\γb H.snd.fst<=1000000/\γb H.snd.snd<=1000000)/\(aO true->(r [q a9,o 2]).same aa/\v.same v/\True)/\(aO false->a<=x_1/\x_1<S/\x_1.toNat<x.length/\(H.fst=true->(r [q a9,o 4]).same aa/\v.same v/\True)/\(H.fst=false->l a6/\((z.same z/\(d sF x).same (d sF x)/\E.same E/\A.same A/\G.same G/\aN.same aN/\True)/\v.same v/\B.same B/\C.same C/\True)/\(a<=a6/\a6<=ki p)/\(ki p - a6).toNat<(ki p - x_1).toNat)))/\(aM=false->(g<=a/\a<=h)/\(((z.same z/\(d sF x).same (d sF x)/\E.same E/\A.same A/\G.same G/\D.same D/\(m 4 0 3).same (m 4 (exA p 0).length 3)/\T.same Q/\True)/\v.same v/\B.same B/\C.same C/\(e [k ai.fst,d y ai.snd.fst,d y ai.snd.snd] 70 3 false).same (e [k aj.fst,d y aj.snd.fst,d y aj.snd.snd] 70 3 false)/\(j ak [] 70 false).same (j sF (exA p 0) 70 false)/\True)/\a<=a/\a<=w)/\∀(x_2:Int),let V:=exA p x_2.toNat;let am:=(bC p.offers x_2.toNat cn.off.dflt).value;let an:=cC (ξ am);let ao:=V++[(an.fst,an.snd.fst,an.snd.snd)];let a7:=ao.length;let M:=x_2+n;let aP:=c M;let ap:=cC (ξ (Gv p (ω M.toNat f)));let aQ:=V.length+1;let aR:=decide (bC f (0+x_2.toNat) 0=n);let N:=cC (ξ (Gv p (ω x_2.toNat f)));let aS:=(N.fst,N.snd.fst,N.snd.snd);let aq:=bC ao x_2.toNat ak.dflt;let aT:=(aq.fst,aq.snd.fst,aq.snd.snd);let ar:=cC (fa aS+fa aT);let aU:=d y N.snd.fst;let aV:=d y N.snd.snd;let aW:=a7=a7;let bj:=z.same z/\(d sF x).same (d sF x)/\E.same E/\A.same A/\G.same G/\D.same D/\(m 4 a7 3).same (m 4 (exA p M.toNat).length 3)/\aP.same aP/\True;let bk:=(j ak ao 70 false).same (j sF (exA p M.toNat) 70 false)/\True;let aX:=λ(u u_1 u_2:SV) ↦l M/\(bj/\v.same v/\B.same B/\C.same C/\(e [u,u_1,u_2] 70 3 false).same (e [k ap.fst,d y ap.snd.fst,d y ap.snd.snd] 70 3 false)/\bk)/\(a<=M/\M<=w)/\(w - M).toNat<(w - x_2).toNat;a<=x_2/\x_2<=w->(decide (x_2<w)=true->a<=x_2/\x_2<(↑p.offers.length:Int)/\x_2.toNat<p.offers.length/\(g<=am/\am<=h)/\V.length=V.length/\aQ*56<=140737488355328/\aQ<=1000000000000/\f.length=f.length/\a<=x_2/\x_2<w/\0+f.length<=f.length/\f.length=f.length/\0+x_2.toNat<f.length/\(aR=true->aW/\a<=x_2/\x_2<(↑a7:Int)/\aW/\x_2.toNat<a7/\(xN aS/\xN aT)/\aX (k ar.fst) (d y ar.snd.fst) (d y ar.snd.snd))/\(aR=false->aX (k N.fst) aU aV))/\(decide (x_2<w)=false->(((z.same z/\(d sF x).same (d sF x)/\E.same E/\A.same A/\G.same G/\D.same D/\(m 4 V.length 3).same (m 4 aI.length 3)/\T.same Q/\True)/\v.same v/\B.same B/\C.same C/\(e [k N.fst,aU,aV] 70 3 false).same (e [k al.fst,d y al.snd.fst,d y al.snd.snd] 70 3 false)/\(j sF V 70 false).same (j sF aI 70 false)/\True)/\a<=a/\a<=ki p)/\∀(x_3:Int),let W:=cC (suQ p f (vL x) x_3.toNat);let ad:=e [k W.fst,d y W.snd.fst,d y W.snd.snd] 70 3 false;let aY:=QR p (vL x) x_3.toNat 0;let aZ:=j sF aY 70 false;let b0:=decide (x_3<ki p);let au:=m 4 aY.length 3;let I:=uD p x_3 p.offers.length;let av:=bC x x_3.toNat s;let ae:=(av.fst,av.snd.fst,av.snd.snd);let b1:=(W.fst,W.snd.fst,W.snd.snd);let O:=x_3+n;let b2:=QR p (vL x) O.toNat 0;let b3:=c O;let aw:=cC (suQ p f (vL x) O.toNat);let b4:=λ(u u_1:cJ) ↦v.same v/\B.same B/\C.same C/\ad.same u/\aZ.same u_1/\True;a<=x_3/\x_3<=ki p->(b0=true->(fO p=a/\a<=x_3/\x_3<ki p)/\(((z.same z/\(d sF x).same (d sF x)/\E.same E/\A.same A/\G.same G/\D.same D/\au.same au/\(c x_3).same (c x_3)/\(d R I).same (d R I)/\(c (nn p x_3)).same (c (bdP p f x_3 0))/\T.same Q/\True)/\b4 ad aZ)/\a<=a/\a<=w)/\∀(J6:Int),let F:=QR p (vL x) x_3.toNat J6.toNat;let ax:=bC F J6.toNat s;let b5:=(ax.fst,ax.snd.fst,ax.snd.snd);let a8:=bC I J6.toNat a;let ay:=cC (ξ a8);let b6:=(ay.fst,ay.snd.fst,ay.snd.snd);let az:=cC (fa ae*fa b6);let b7:=(az.fst,az.snd.fst,az.snd.snd);let aA:=cC (fa b5 - fa b7);let P:=J6+n;let b8:=QR p (vL x) x_3.toNat P.toNat;let b9:=m 4 F.length 3;let ba:=c x_3;let bb:=c P;let bc:=decide (bC f (0+J6.toNat) 0=n);let X:=bdP p f x_3 J6.toNat;let aB:=cC (ξ X);let bd:=(aB.fst,aB.snd.fst,aB.snd.snd);let aC:=cC (fa ae*fa bd);let be:=(aC.fst,aC.snd.fst,aC.snd.snd);let aD:=cC (fa b1+fa be);let bm:=v.same v/\B.same B/\C.same C/\ad.same ad/\(j sF (F.set J6.toNat (aA.fst,aA.snd.fst,aA.snd.snd)) 70 false).same (j sF b8 70 false)/\True;let bn:=xN b5/\xN b7;let bo:=xN ae/\xN b6;let bf:=λ(u:Int) ↦F.length=F.length/\a<=J6/\J6<(↑F.length:Int)/\F.length=F.length/\J6.toNat<F.length/\a<=x_3/\x_3<S/\x_3.toNat<x.length/\a<=J6/\J6<(↑I.length:Int)/\J6.toNat<I.length/\(g<=a8/\a8<=h)/\bo/\bn/\F.length=F.length/\a<=J6/\J6<(↑F.length:Int)/\F.length=F.length/\J6.toNat<F.length/\l P/\((z.same z/\(d sF x).same (d sF x)/\E.same E/\A.same A/\G.same G/\D.same D/\b9.same (m 4 b8.length 3)/\ba.same ba/\(d R I).same (d R I)/\(c u).same (c (bdP p f x_3 P.toNat))/\bb.same bb/\True)/\bm)/\(a<=P/\P<=w)/\(w - P).toNat<(w - J6).toNat;a<=J6/\J6<=w->(decide (J6<w)=true->f.length=f.length/\a<=J6/\J6<w/\0+f.length<=f.length/\f.length=f.length/\0+J6.toNat<f.length/\(bc=true->a<=J6/\J6<(↑I.length:Int)/\J6.toNat<I.length/\l (X - a8)/\bf (X - a8))/\(bc=false->bf X))/\(decide (J6<w)=false->a<=x_3/\x_3<S/\x_3.toNat<x.length/\(g<=X/\X<=h)/\(xN ae/\xN bd)/\(xN b1/\xN be)/\l O/\((z.same z/\(d sF x).same (d sF x)/\E.same E/\A.same A/\G.same G/\D.same D/\b9.same (m 4 b2.length 3)/\b3.same b3/\True)/\v.same v/\B.same B/\C.same C/\(e [k aD.fst,d y aD.snd.fst,d y aD.snd.snd] 70 3 false).same (e [k aw.fst,d y aw.snd.fst,d y aw.snd.snd] 70 3 false)/\(j sF F 70 false).same (j sF b2 70 false)/\True)/\(a<=O/\O<=ki p)/\(ki p - O).toNat<(ki p - x_3).toNat))/\(b0=false->(((z.same z/\A.same A/\D.same D/\au.same Y/\T.same Q/\True)/\b4 ac Z)/\a<=a/\a<=w)/\∀(x:Int),let J:=x+n;let af:=c J;let aE:=bC K x.toNat s;let ag:=(aE.fst,aE.snd.fst,aE.snd.snd);let bg:=decide (bC f (0+x.toNat) 0=a);let aF:=cC (fa aK+fa ag);let bh:=l J/\((z.same z/\A.same A/\D.same D/\Y.same Y/\af.same af/\True)/\v.same v/\B.same B/\C.same C/\ac.same ac/\Z.same Z/\True)/\(a<=J/\J<=w)/\(w - J).toNat<(w - x).toNat;let bi:=λ(u:Bool) ↦decide (a<HW (fa ag))=u;a<=x/\x<=w->(decide (x<w)=true->f.length=f.length/\a<=x/\x<w/\0+f.length<=f.length/\f.length=f.length/\0+x.toNat<f.length/\(bg=true->K.length=L/\a<=x/\x<(↑L:Int)/\K.length=L/\x.toNat<L/\lT ag/\(bi true->K.length=L/\a<=x/\x<(↑L:Int)/\K.length=L/\x.toNat<L/\(xN aK/\xN ag)/\l J/\((z.same z/\A.same A/\D.same D/\Y.same Y/\af.same af/\True)/\v.same v/\B.same B/\C.same C/\(e [k aF.fst,d y aF.snd.fst,d y aF.snd.snd] 70 3 false).same ac/\Z.same Z/\True)/\(a<=J/\J<=w)/\(w - J).toNat<(w - x).toNat)/\(bi false->bh))/\(bg=false->bh))/\(decide (x<w)=false->(r [q aJ,T]).same aa/\v.same v/\True))))))) (by kernel_rfl) ?_
 simp only[vcs]
 have hc:=hf.1
 have hl:f.length=p.offers.length:=hf.2.1
 have hgo:=uw hc
 have h160:=hgo.2.1
 have hfe:DU p f=0:=by simp[DU,hc,hl,hr]
 have hnr:ki p=mF p:=by unfold ki mF;omega
 have hxl:x.length=mF p:=by rw[hx,AX,ayk]
 have hvl:vL x=s5 p f:=by rw[hx,YB]
 have aIh:mF p<=20:=by have:=hgo.1;unfold mF;omega
 have hxn:∀r:Int,0<=r->r<mF p->bC x r.toNat sF.dflt=cC (bC (s5 p f) r.toNat 0):=λr h0 h1=>by rw[hx];exact MB (by rw[ayk];omega)
 have hrC:∀{q q':Rat},q=q'->(cJ.cells [.sb (cC q).1,.row (.i .u32) (cC q).2.1,.row (.i .u32) (cC q).2.2] 70 3 false).same (cJ.cells [.sb (cC q').1,.row (.i .u32) (cC q').2.1,.row (.i .u32) (cC q').2.2] 70 3 false):=by rintro _ _ rfl;rfl
 have hrL:∀{a b:List fi},a=b->(cJ.row sF a 70 false).same (cJ.row sF b 70 false):=by rintro _ _ rfl;rfl
 have XI:∀{a b:Nat},a=b->(γQ 4 a 3).same (γQ 4 b 3):=by rintro _ _ rfl;rfl
 have hval:∀i:Int,(bC p.offers i.toNat cn.off.dflt).value=(oI p i).value:=λi=>rfl
 rw[if_pos hc,hnr,hvl];simp only[SD,sy,hval,Nat.zero_add,δK,τ,Θ,true_and]
 refine⟨by omega,λh=>absurd hfe h,λ_=>⟨λh=>absurd (by rw[hxl]) h,λ_=>⟨⟨by omega,by omega⟩,?_⟩⟩⟩
 rintro i ⟨i0,i1⟩
 refine⟨λhi=>?_,λ_=>⟨by omega,⟨⟨XI rfl,hrC (by simp[Gv,dV,rb,o5]),hrL rfl⟩,by omega,by omega⟩,?_⟩⟩
 ·obtain⟨hy0,hys⟩:=anb hf (r:=i.toNat) (by omega)
  have hok:=ar1 (bC (s5 p f) i.toNat 0)
  obtain⟨s1,⟨u1,u2,u3⟩,⟨u4,u5,u6⟩⟩:=QY (bC (s5 p f) i.toNat 0)
  obtain⟨m1,m2⟩:=aaD hys
  rw[hxn i i0 hi]
  have hneg:(cC (bC (s5 p f) i.toNat 0)).1=false:=by rw[s1,decide_eq_false_iff_not];exact ζp.2 hy0
  exact⟨i0,by omega,by omega,⟨⟨u1,u4⟩,by omega,by omega⟩,(λh=>by rw[hok] at h;cases h),λ_=>⟨i0,by omega,by omega,(λh=>by rw[hneg] at h;cases h),λ_=>⟨by omega,by omega,by omega⟩⟩⟩
 rintro i ⟨i0,i1⟩
 have hal:=@aks p i.toNat
 have hab:=@akc p hc f i.toNat hl
 refine⟨λhi=>?_,λhi=>?_⟩
 ·have ho:=aaf hc (i:=i) ⟨i0,by omega⟩
  have aHw:=@aks p (i+1).toNat
  have hs:=@ax5 p f i i0 hi
  rw[aHh i0,ayJ (show i.toNat<(i+1).toNat by omega),aHw,hal,show((i.toNat:Nat):Int)=i by omega]
  have g1:xN (cC (ξ (Gv p (f.take i.toNat)))):=adh (szI (W:=Gv p (f.take i.toNat)) (by omega) (by omega)) (by omega)
  have g2:xN (cC (ξ (oI p i).value)):=adh (szI (W:=(oI p i).value) (by omega) (by omega)) (by omega)
  refine⟨i0,by omega,by omega,by omega,by omega,by omega,i0,hi,by omega,λh1=>?_,λh1=>?_⟩
  ·rw[if_pos h1] at hs
   refine⟨i0,by omega,by omega,⟨g1,g2⟩,by omega,⟨XI rfl,hrC ?_,hrL rfl⟩,by omega,by omega⟩
   rw[hs,sy]
   exact(Rat.intCast_add _ _).symm
  ·rw[if_neg h1] at hs
   refine⟨by omega,⟨XI rfl,hrC ?_,hrL rfl⟩,by omega,by omega⟩
   rw[hs]
   simp
 rw[show i.toNat=f.length by omega,τ,hl]
 refine⟨⟨⟨XI (by rw[aks,abk]),hrC aHl.symm,hrL aHk⟩,by omega,by omega⟩,?_⟩
 rintro r ⟨r0,r1⟩
 refine⟨λhr1=>?_,λhr1=>?_⟩
 ·refine⟨⟨hc,r0,by omega⟩,⟨aHq.symm,by omega,by omega⟩,?_⟩
  obtain⟨hy0,hys⟩:=anb hf (r:=r.toNat) (by omega)
  have hx1:=hxn r r0 (by omega)
  have gy:xN (cC (bC (s5 p f) r.toNat 0)):=adh hys (by omega)
  rintro k ⟨k0,k1⟩
  have hbd:=@ayK p f r k.toNat hc hl
  have hel:=@abk p (s5 p f) r.toNat k.toNat
  have hrl:=@aHo p r
  refine⟨λhk=>?_,λhk=>?_⟩
  ·have ho:=aaf hc (i:=k) ⟨k0,by omega⟩
   have hcb:=@acA p r _ ho.2.2.1
   have hrn:=@aHp p r k ⟨k0,by omega⟩
   have hen:=@agM p (s5 p f) r.toNat k.toNat k.toNat (by omega) sF.dflt
   rw[if_neg (by omega),show((k.toNat:Nat):Int)=k by omega] at hen
   have hbs:=@aHr p f r k k0 (by omega)
   have gx:xN (cC (exQ p (s5 p f) r.toNat k)):=adh (ayL hf (by omega) ⟨k0,by omega⟩) (by omega)
   have gc:xN (cC (ξ (sV p r (oI p k)))):=adh (szI (W:=sV p r (oI p k)) (by omega) (by omega)) (by omega)
   have gm:xN (cC (bC (s5 p f) r.toNat 0*ξ (sV p r (oI p k)))):=adh (aev hys (szI (W:=sV p r (oI p k)) (by omega) (by omega))) (by omega)
   have hset:=@aHi p (s5 p f) r.toNat k k0 (by omega)
   rw[aHn,show((r.toNat:Nat):Int)=r by omega] at hset
   rw[hx1,hrn,hen];simp only[sy]
   have aHx:(QR p (s5 p f) r.toNat k.toNat).set k.toNat (cC (exQ p (s5 p f) r.toNat k - bC (s5 p f) r.toNat 0*ξ (sV p r (oI p k))))=QR p (s5 p f) r.toNat (k+1).toNat:=hset
   rw[aHx]
   have aHy:=@abk p (s5 p f) r.toNat (k+1).toNat
   refine⟨k0,by omega,by omega,λh1=>?_,λh1=>?_⟩
   ·rw[if_pos h1] at hbs
    exact⟨k0,by omega,by omega,by omega,k0,by omega,by omega,r0,by omega,by omega,k0,by omega,by omega,by omega,⟨gy,gc⟩,⟨gx,gm⟩,k0,by omega,by omega,by omega,⟨⟨XI (by omega),by omega⟩,hrL rfl⟩,by omega,by omega⟩
   ·rw[if_neg h1] at hbs
    exact⟨k0,by omega,by omega,r0,by omega,by omega,k0,by omega,by omega,by omega,⟨gy,gc⟩,⟨gx,gm⟩,k0,by omega,by omega,by omega,⟨⟨XI (by omega),by omega⟩,hrL rfl⟩,by omega,by omega⟩
  ·have hk2:k.toNat=f.length:=by omega
   rw[hx1,hk2,asj];rw[hk2,asj] at hbd
   have aHy:=@abk p (s5 p f) (r+1).toNat 0
   have hrt:(r+1).toNat=r.toNat+1:=by omega
   have gb:xN (cC (ξ (nn p r - li p ((dV f 1).map (oI p)) r))):=adh (szI (W:=nn p r - li p ((dV f 1).map (oI p)) r) (by omega) (by omega)) (by omega)
   have gs:xN (cC (suQ p f (s5 p f) r.toNat)):=adh (aHs hf (by omega)) (by omega)
   have gm:xN (cC (bC (s5 p f) r.toNat 0*ξ (nn p r - li p ((dV f 1).map (oI p)) r))):=adh (aev hys (szI (W:=nn p r - li p ((dV f 1).map (oI p)) r) (by omega) (by omega))) (by omega)
   simp only[sy]
   have hrr:((r.toNat:Nat):Int)=r:=by omega
   refine⟨r0,by omega,by omega,by omega,⟨gy,gb⟩,⟨gs,gm⟩,by omega,⟨XI ?_,hrC ?_,hrL ?_⟩,by omega,by omega⟩
   ·rw[abk,abk]
   ·rw[hrt,aHm,hrr]
   ·rw[hrt,hl]
    exact aHj
 ·have hr2:r.toNat=mF p:=by omega
  rw[hr2]
  have hel:=@abk p (s5 p f) (mF p) 0
  refine⟨⟨⟨XI rfl,hrC rfl,hrL rfl⟩,by omega,by omega⟩,?_⟩
  rintro i ⟨i0,i1⟩
  refine⟨λhi=>?_,λhi=>?_⟩
  ·have hen:=@agM p (s5 p f) (mF p) 0 i.toNat (by omega) sF.dflt
   rw[if_neg (by omega),show((i.toNat:Nat):Int)=i by omega] at hen
   rw[hen];simp only[sy]
   have gx:lT (cC (exQ p (s5 p f) (mF p) i)):=uf (ayL hf (Θ _) ⟨i0,by omega⟩) (by omega)
   refine⟨i0,by omega,by omega,λh0=>⟨i0,by omega,by omega,gx,λh1=>?_,λh1=>⟨by omega,by omega,by omega⟩⟩,λh0=>⟨by omega,by omega,by omega⟩⟩
   have h2:=aHt hf (i:=i) ⟨i0,by omega⟩ h0
   exact absurd (agF.1 h1) (ζp.2 h2)
  ·rw[aHu hf]
   rfl
section
variable {p:dd} {v:Int} {t:List XH} {a lo mid hi n:Nat} {f:List Int} {k:Int} {s:List Bool}
theorem aHz (h1:t[a]?=some (acH p f)) (h3:DV p f<((v+1:Int):Rat)) (hs:bC s a false=false):zp p v t (n+1) a f s=(true,s.set a true):=by
 obtain⟨e1,e2⟩:=aeC (d:=zN) h1
 have c1:(acH p f).1=1:=rfl
 have c2:adf (acH p f)=false:=by simp[adf,acH]
 unfold zp
 rw[γm,e1,if_neg (by rw[hs];simp),if_neg (by rw[c2];simp),if_pos c1,decide_eq_true h3]
theorem aHA (hf:uz p f) (h1:t[a]?=some cfN) (h2:FC p f=false) (hs:bC s a false=false):zp p v t (n+1) a f s=(true,s.set a true):=by
 obtain⟨e1,e2⟩:=aeC (d:=zN) h1
 have hfe:lj p (dV f 1)≠0:=λh=>by
  have:=(ake hf.c (arY hf.l)).1 h
  unfold FC at h2;rw[this] at h2;cases h2
 have c2:adf cfN=false:=by decide
 unfold zp
 rw[γm,e1,if_neg (by rw[hs];simp),if_neg (by rw[c2];simp),if_neg (by decide),if_pos (by decide),decide_eq_true hfe]
theorem aHB (h1:t[a]?=some (An k lo)) (h2:a<lo) (h3:0<=k/\k<f.length) (h4:bC f k.toNat 0=0) (h5:lo+1<t.length) (hs:bC s a false=false) (p1:(zp p v t n lo (f.set k.toNat (-1)) (s.set a true)).1=true):
  zp p v t (n+1) a f s=zp p v t n ((lo+1:Nat):Int) (f.set k.toNat 1) (zp p v t n lo (f.set k.toNat (-1)) (s.set a true)).2:=by
 obtain⟨e1,e2⟩:=aeC (d:=zN) h1
 have c2:adf (An k lo)=false:=by simp[adf,An]
 have c3:arX t.length f a (An k lo)=false:=by
  show(decide ((2:Int)≠2)||decide (k<0)||decide ((f.length:Int)<=k)||decide (bC f k.toNat 0≠0)||decide ((lo:Int)=lo+1)||decide ((lo:Int)<=a)||decide ((lo:Int)+1<=a)||decide ((t.length:Int)<=lo)||decide ((t.length:Int)<=lo+1))=false
  simp only[Bool.or_eq_false_iff,decide_eq_false_iff_not];omega
 conv=>lhs;unfold zp
 rw[γm,e1,if_neg (by rw[hs];simp),if_neg (by rw[c2];simp),if_neg (by simp[An]),if_neg (by simp[An]),if_neg (by rw[c3];simp)]
 have d1:(An k lo).2.1=k:=rfl
 have d2:(An k lo).2.2.1=lo:=rfl
 have d3:(An k lo).2.2.2.1=((lo+1:Nat):Int):=by show(lo:Int)+1=_;omega
 rw[d1,d2,d3,if_pos p1]
theorem BD.fuel (h:BD p v t a f lo hi) (hf:uz p f) {n m:Nat} (h1:t.length<=n+a) (h2:t.length<=m+a) (hl:s.length=t.length) (hs:∀i:Nat,i=a\/(lo<=i/\i<hi)->bC s i false=false):zp p v t n a f s=zp p v t m a f s:=by
 obtain⟨a1,a2,a3⟩:=h.cor hf h1 hl hs
 obtain⟨b1,b2,b3⟩:=h.cor hf h2 hl hs
 refine Prod.ext (by rw[a1,b1]) ?_
 refine γ2 (by rw[a2,b2]) λi hi1 hi2=>?_
 have e1:=a3 i (by omega)
 have e2:=b3 i (by omega)
 rw[my hi1] at e1;rw[my hi2] at e2;rw[e1,e2]
end
structure agN where
 p:dd
 v:Int
 t:List XH
 at_:Int
 n1:Nat
 m1:Nat
 f:List Int
 n2:Nat
 s:List Bool
def afz (n:Nat) (a:agN):Prop:=∃m lo hi:Nat,a.at_=m/\(BD a.p a.v a.t m a.f lo hi/\uz a.p a.f)/\((a.n1=a.f.length/\a.m1=a.f.length)/\a.n2=a.s.length/\a.s.length=a.t.length)/\(∀i:Nat,i=m\/(lo<=i/\i<hi)->bC a.s i false=false)/\a.t.length<=n+m/\(0<=a.v/\a.v<=1000000000)/\a.t.length<=65536
noncomputable def acd (n:Nat):og where
 f:=52
 α:=agN
 put a:=[qa.put a.p,.si .i64 a.v,.row sf a.t,.si .i64 a.at_,.os 0 0 a.n1 a.m1 1,.ow 1 a.n2 1]
 st a:=[.row (.i .i64) a.f 3 true,.row .b a.s 4 true]
 dec v o:=match v,o with
  |[p,v,.row s1 t,at_,.os 0 0 n1 m1 1,.ow 1 n2 1],[.row s2 f 3 true,.row s3 s 4 true]=>match qa.dec p,v.int .i64,AW s1 sf t,at_.int .i64,AW s2 (.i .i64) f,AW s3 .b s with
   |some p,some v,some t,some at_,some f,some s=>some ⟨p,v,t,at_,n1,m1,f,n2,s⟩
   |_,_,_,_,_,_=>none
  |[p,v,.row s1 t,at_,.ow 0 n1 1,.ow 1 n2 1],[.row s2 f 3 true,.row s3 s 4 true]=>match qa.dec p,v.int .i64,AW s1 sf t,at_.int .i64,AW s2 (.i .i64) f,AW s3 .b s with
   |some p,some v,some t,some at_,some f,some s=>some ⟨p,v,t,at_,n1,n1,f,n2,s⟩
   |_,_,_,_,_,_=>none
  |_,_=>none
 ok v o a h:=by
  split at h
  ·split at h
   ·rename_i h1 h2 h3 h4 h5 h6
    simp only[γ] at h;subst h
    obtain⟨rfl,e3⟩:=KA h3
    obtain⟨rfl,e5⟩:=KA h5
    obtain⟨rfl,e6⟩:=KA h6
    cases e3;cases e5;cases e6
    exact⟨by simp only[gL,qa.ok _ _ h1,F2 h2,F2 h4,SV.g],rfl⟩
   ·cases h
  ·split at h
   ·rename_i h1 h2 h3 h4 h5 h6
    simp only[γ] at h;subst h
    obtain⟨rfl,e3⟩:=KA h3
    obtain⟨rfl,e5⟩:=KA h5
    obtain⟨rfl,e6⟩:=KA h6
    cases e3;cases e5;cases e6
    exact⟨by simp only[gL,qa.ok _ _ h1,F2 h2,F2 h4,SV.g,Nat.zero_mul],rfl⟩
   ·cases h
  ·cases h
 inj a b h1 h2:=by
  obtain⟨p,v,t,c,n1,m1,f,n2,s⟩:=a
  obtain⟨p',v',t',c',n1',m1',f',n2',s'⟩:=b
  simp only[gL,Δ,and_true] at h1
  obtain⟨q1,q2,q3,q4,q5,q6⟩:=h1
  simp only[gO,ψ,γy,cJ.g,Δ,ig.cells.injEq,and_true] at h2;simp only[SV.g,AV.sc.injEq,Value.int.injEq,δ7,true_and] at q2 q4 q5 q6
  have q7:m1=m1':=by simpa using q5.2
  rw[qa.inj p p' q1,q2,(mA sf).inj t t' q3,q4,q5.1,q7,aaG (s:=.i .i64) h2.1,q6.1,aaG (s:=.b) h2.2]
 dom a:=afz n a
 res a:=.sb true
 out a:=[.row (.i .i64) a.f 3 true,.row .b (zp a.p a.v a.t a.t.length a.at_ a.f a.s).2 4 true]
def ayM (x:agN):Nat->jY
 |13=> .inv Int (λi=>⟨[(4,.os 0 0 x.f.length x.f.length 1),(6,.ptr 2 0 20),(16,.ow 4 (dV (x.f.take i.toNat) 1).length 1),(17,.si .i64 i)],[.row (.i .i64) x.f 3 true,.row .b (x.s.set x.at_.toNat true) 4 true,.cells x.p.ss 27 20 false,.cells [.si .i64 3,.si .i64 0,.si .i64 0,.si .i64 0,.row sF []] 139 5 false,.row (.i .i64) (dV (x.f.take i.toNat) 1) 3 true]⟩)
   (λs=>iS s 17) (λi=>0<=i/\i<=x.f.length) (λi=>(x.f.length - i).toNat) λ_ _=> .look
 |_=> .look
noncomputable def akt (n:Nat):List og:=[acd n,asl]
theorem aHD (n:Nat) (a:agN) (ha:(acd (n+1)).dom a):
  Vc (afZ (SR [r51,r53,r55] (CN (akt n)) tyN mtN Da) (ayM a) (fG 52) ((acd (n+1)).put a) ((acd (n+1)).st a) λv t=>v.same ((acd (n+1)).res a)/\N1 t ((acd (n+1)).out a)):=by
 obtain⟨p,v,t,at_,n1,m1,f,n2,s⟩:=a
 obtain⟨m,lo,hi,ha,⟨hT,hf⟩,⟨⟨hn1,hm1⟩,hn2,hsl⟩,hs,hn,⟨v0,v1⟩,ht⟩:=ha
 simp only at ha hT hf hn1 hm1 hn2 hsl hs hn v0 v1 ht
 subst ha hn1 hm1 hn2
 refine gp (let a:=γa .i64;let c:=δe false;let d:=(0:Int);let e:=γv;let g:=cJ.row;let h:=(1:Int);let j:=cJ.cells;let k:=Ξ;let l:=γQ;let D:=(↑m:Int).toNat;let H:=(bC t D sf.dflt).fst;let W:=decide (H=(3:Int));let J:=SV.os 0 0 f.length f.length 1;let K:=γ5 2 0 20;let L:=a 0;let E:=cn.i .i64;let o:=g E f 3 true;let P:=s.set D true;let q:=g cn.b P 4 true;let M:=j [a p.supply.a0,a p.supply.a1,a p.supply.a2,a p.supply.a3,a p.supply.a4,a p.supply.a5,a p.opn.a0,a p.opn.a1,a p.opn.a2,a p.opn.a3,a p.opn.a4,a p.opn.a5,a p.cls.a0,a p.cls.a1,a p.cls.a2,a p.cls.a3,a p.cls.a4,a p.cls.a5,k E p.classes,k cn.off p.offers] 27 20 false;let N:=(bC t D sf.dflt).snd;let y:=N.fst;let B:=N.snd.fst;let C:=N.snd.snd.fst;let Q:=N.snd.snd.snd;let R:=j [a 3,L,L,L,k sF []] 139 5 false;let z:=(↑f.length:Int);let w:=g cn.b (zp p v t t.length (↑m:Int) f s).snd 4 true;let S:=decide (H≠(2:Int));let X:=decide (y<d);let F:=Int.toNat y;let Y:=decide (bC f (0+F) 0≠d);let Z:=decide (B<=(↑m:Int));let a6:=decide (C<=(↑m:Int));let I:=(↑t.length:Int);let T:=ω f.length f;let r:=T.length;let a7:=T.set F (-1:Int);let a8:=T.set F h;let U:=(zp p v t t.length B a7 P).snd;let a9:=decide (H≠h);let aa:=decide (d<(↑(γb Q):Int));let ab:=decide (H=h);let O:=v+h;let ac:=(cC (DV p f)).snd;let ad:=((cC (DV p f)).fst,ac.fst,ac.snd);let V:=cC (ξ O);let ae:=(V.fst,V.snd.fst,V.snd.snd);let aq:=(W=true->(((J.same J/\K.same K/\(l 4 0 1).same (l 4 (dV [] h).length 1)/\(γu .i64 0).same L/\True)/\o.same o/\q.same q/\M.same M/\(j [a H,a y,a B,a C,k sF Q] 139 5 false).same R/\(g E [] 3 true).same (g E (dV [] h) 3 true)/\True)/\d<=d/\d<=z)/\∀(x:Int),let G:=x+h;let af:=dV (ω G.toNat f) h;let ag:=a G;let ah:=decide (bC f (0+x.toNat) 0=h);let A:=dV (ω x.toNat f) h;let ai:=A.length+1;let aj:=λ(u:Nat) (u_1:cJ) ↦ie .i64 G/\((J.same J/\K.same K/\(l 4 u 1).same (l 4 af.length 1)/\ag.same ag/\True)/\o.same o/\q.same q/\M.same M/\R.same R/\u_1.same (g E af 3 true)/\True)/\(d<=G/\G<=z)/\(z - G).toNat<(z - x).toNat;d<=x/\x<=z->(decide (x<z)=true->f.length=f.length/\d<=x/\x<z/\0+f.length<=f.length/\f.length=f.length/\0+x.toNat<f.length/\(ah=true->A.length=A.length/\ai*8<=140737488355328/\ai<=1000000000000/\aj (A++[x]).length (g E (A++[x]) 3 true))/\(ah=false->aj A.length (g E A 3 true)))/\(decide (x<z)=false->A.length=A.length/\A.length<=9223372036854775807/\(e (decide (lj p A≠d))).same (e true)/\o.same o/\q.same w/\True))/\(W=false->(S=true->(c).same (e true)/\o.same o/\q.same w/\True)/\(S=false->(X=true->(c).same (e true)/\o.same o/\q.same w/\True)/\(X=false->(decide (z<=y)=true->(c).same (e true)/\o.same o/\q.same w/\True)/\(decide (z<=y)=false->f.length=f.length/\d<=y/\y<z/\0+f.length<=f.length/\f.length=f.length/\0+F<f.length/\(Y=true->(c).same (e true)/\o.same o/\q.same w/\True)/\(Y=false->(decide (B=C)=true->(c).same (e true)/\o.same o/\q.same w/\True)/\(decide (B=C)=false->(Z=true->(c).same (e true)/\o.same o/\q.same w/\True)/\(Z=false->(a6=true->(c).same (e true)/\o.same o/\q.same w/\True)/\(a6=false->(decide (I<=B)=true->(c).same (e true)/\o.same o/\q.same w/\True)/\(decide (I<=B)=false->(decide (I<=C)=true->(c).same (e true)/\o.same o/\q.same w/\True)/\(decide (I<=C)=false->f.length=f.length/\0+f.length<=f.length/\0=0/\(0+r)*8<=140737488355328/\0+r<=1000000000000/\f.length=f.length/\0+f.length<=f.length/\0=0/\(0+r)*8<=140737488355328/\0+r<=1000000000000/\r=r/\d<=y/\y<(↑r:Int)/\r=r/\F<r/\r=r/\d<=y/\y<(↑r:Int)/\r=r/\F<r/\afz n (agN.mk p v t B r r a7 s.length P)/\(true=true->afz n (agN.mk p v t C r r a8 s.length U)/\(e true).same (e true)/\o.same o/\(g cn.b (zp p v t t.length C a8 U).snd 4 true).same w/\True)/\(true=false->(c).same (e true)/\o.same o/\(g cn.b U 4 true).same w/\True)))))))))));let ak:=let al:=(ab=true->((f.length=f.length/\f.length=f.length)/\xJ p f/\Fj f=true/\Q=fL (s5 p f))/\(true=true->ie .i64 O/\((-9223372036854775808:Int)<=O/\O<=(9223372036854775807:Int))/\(xN ad/\xN ae)/\(e (decide (Kr (fa ad) (fa ae)<d))).same (e true)/\o.same o/\q.same w/\True)/\(true=false->(c).same (e true)/\o.same o/\q.same w/\True))/\(ab=false->aq);(a9=true->(aa=true->(c).same (e true)/\o.same o/\q.same w/\True)/\(aa=false->al))/\(a9=false->al);let am:=λ(u:Bool) ↦decide (C≠d)=u;let an:=λ(u:Bool) ↦decide (B≠d)=u;let ao:=λ(u:Bool) ↦decide (y≠d)=u;let ap:=λ(u:Bool) ↦S=u;d<=(↑m:Int)/\(↑m:Int)<I/\D<t.length/\s.length=s.length/\d<=(↑m:Int)/\(↑m:Int)<(↑s.length:Int)/\s.length=s.length/\D<s.length/\(bC s D false=true->(c).same (e true)/\o.same o/\(g cn.b s 4 true).same w/\True)/\(bC s D false=false->s.length=s.length/\d<=(↑m:Int)/\(↑m:Int)<(↑s.length:Int)/\s.length=s.length/\D<s.length/\(ap true->(ao true->(c).same (e true)/\o.same o/\q.same w/\True)/\(ao false->(an true->(c).same (e true)/\o.same o/\q.same w/\True)/\(an false->(am true->(c).same (e true)/\o.same o/\q.same w/\True)/\(am false->ak))))/\(ap false->ak))) (by kernel_rfl) ?_
 simp only[vcs]
 have hat:=hT.top.1
 have hsm:bC s m false=false:=hs m (.inl rfl)
 have hrB:∀{x y:List Bool},x=y->(cJ.row .b x 4 true).same (cJ.row .b y 4 true):=by rintro _ _ rfl;rfl
 have hfl:f.length=p.offers.length:=hf.l
 have h160:=(uw hf.c).2.1
 simp only[γm,hsm,Nat.zero_add,δK,τ]
 have hT2:=hT
 cases hT with
 |bnd h1 h2 h3=>
  have e1:bC t m sf.dflt=acH p f:=(aeC h1).1
  have akv:=aHz (n:=t.length - 1) h1 h3 hsm
  rw[show t.length - 1+1=t.length by omega] at akv
  simp only[e1,acH,akv,ζW,ζX,ne_eq,not_true_eq_false,not_false_eq_true,false_implies,true_implies,implies_true,forall_const,and_true,true_and,Γ,δ9,SD,sy]
  have hfx:=hf.ok h2
  have g1:xN (cC (DV p f)):=adh (arW (by rw[hf.Qy];exact h2)) (by omega)
  have g2:xN (cC (ξ (v+1))):=adh (szI (W:=v+1) (by omega) (by omega)) (by omega)
  refine⟨?_,?_,?_,?_,?_,?_,?_,?_,?_,⟨hfx,hf.r⟩,?_,?_,⟨g1,g2⟩,afx.2 h3,hrB rfl⟩<;>omega
 |con h1 h2=>
  have e1:bC t m sf.dflt=cfN:=(aeC h1).1
  have akv:=aHA (v:=v) (n:=t.length - 1) hf h1 h2 hsm
  rw[show t.length - 1+1=t.length by omega] at akv
  simp only[e1,cfN,akv,ζW,ζX,ne_eq,not_true_eq_false,not_false_eq_true,false_implies,true_implies,implies_true,forall_const,and_true,true_and,Γ,δ9,εE,Int.lt_irrefl]
  have hrI:∀{x y:List Int},x=y->(cJ.row (.i .i64) x 3 true).same (cJ.row (.i .i64) y 3 true):=by rintro _ _ rfl;rfl
  have XI:∀{x y:Nat},x=y->(γQ 4 x 1).same (γQ 4 y 1):=by rintro _ _ rfl;rfl
  refine⟨by omega,by omega,by omega,by omega,by omega,by omega,by omega,by omega,by omega,λh=>absurd h (by decide),λ_=>⟨⟨⟨XI rfl,rfl,hrI rfl⟩,by omega,by omega⟩,?_⟩⟩
  rintro i ⟨i0,i1⟩
  have hdl:=@afw (f.take i.toNat) 1
  have htl:(f.take i.toNat).length<=f.length:=by rw[γd];omega
  refine⟨λhi=>?_,λhi=>?_⟩
  ·have hs1:=@akb f 1 i i0 hi
   refine⟨i0,hi,by omega,by omega,λh=>?_,λh=>?_⟩
   ·rw[if_pos h] at hs1
    rw[hs1]
    refine⟨?_,?_,?_,⟨XI rfl,hrI rfl⟩,?_,?_⟩<;>omega
   ·rw[if_neg h,List.append_nil] at hs1
    rw[hs1]
    refine⟨?_,⟨XI rfl,hrI rfl⟩,?_,?_⟩<;>omega
  ·rw[show i.toNat=f.length by omega,τ] at hdl ⊢
   refine⟨by omega,λh=>?_,hrB rfl⟩
   have:=(ake hf.c (arY hf.l)).1 h
   unfold FC at h2;rw[this] at h2;cases h2
 |@bra _ _ _ mid _ k h1 h2 h3 h4 h5 h6=>
  have e1:bC t m sf.dflt=An k lo:=(aeC h1).1
  simp only[e1,An,h4,ζW,ζX,ne_eq,not_true_eq_false,not_false_eq_true,false_implies,true_implies,implies_true,forall_const,and_true,true_and,Γ,δ9,εE,Int.lt_irrefl]
  have l1:=h5.le
  have l2:=h6.le
  have t1:=h5.top.1
  have t2:=hT2.top.2 (by omega)
  have hf1:uz p (f.set k.toNat 1):=hf.set (by omega)
  have hf2:uz p (f.set k.toNat (-1)):=hf.set (by omega)
  have hs1:∀i:Nat,i=lo\/(mid<=i/\i<hi)->bC (s.set m true) i false=false:=λi hi=>by
   rw[ab4 (by omega),if_neg (by omega)]
   exact hs i (by omega)
  obtain⟨p1,p2,p3⟩:=h6.cor hf2 (n:=t.length) (s:=s.set m true) (by omega) (by rw[χ];exact hsl) hs1
  have hs2:∀i:Nat,i=lo+1\/(lo+2<=i/\i<mid)->bC (zp p v t t.length lo (f.set k.toNat (-1)) (s.set m true)).2 i false=false:=λi hi=>by
   rw[p3 i (by omega),ab4 (by omega),if_neg (by omega),hs i (by omega)]
   simp only[Bool.false_or,decide_eq_false_iff_not];omega
  have hc1:=aHB (n:=t.length - 1) h1 h2 h3 h4 t1 hsm (by
   have e:=h6.fuel hf2 (n:=t.length - 1) (m:=t.length) (s:=s.set m true) (by omega) (by omega) (by rw[χ];exact hsl) hs1
   rw[e];exact p1)
  rw[show t.length - 1+1=t.length by omega,h6.fuel hf2 (n:=t.length - 1) (m:=t.length) (s:=s.set m true) (by omega) (by omega) (by rw[χ];exact hsl) hs1,
   h5.fuel hf1 (n:=t.length - 1) (m:=t.length) (by omega) (by omega) (by rw[p2,χ];exact hsl) hs2] at hc1
  refine⟨by omega,by omega,by omega,by omega,by omega,by omega,by omega,by omega,by omega,λh=>absurd h (by decide),λ_=>⟨λh=>absurd h (by omega),λ_=>⟨λh=>absurd h (by omega),λ_=>⟨by omega,by omega,by omega,by omega,λh=>absurd h (by omega),λ_=>⟨λh=>absurd h (by omega),λ_=>⟨λh=>absurd h (by omega),λ_=>⟨λh=>absurd h (by omega),λ_=>⟨λh=>absurd h (by omega),λ_=>⟨by omega,by omega,by omega,by omega,by omega,by omega,by omega,by omega,by omega,by omega,by omega,by omega,?_,?_,?_⟩⟩⟩⟩⟩⟩⟩⟩⟩
  ·unfold afz
   dsimp only
   exact⟨lo,mid,hi,rfl,⟨h6,hf2⟩,⟨⟨by rw[χ],by rw[χ]⟩,by rw[χ],by rw[χ];exact hsl⟩,hs1,by omega,⟨v0,v1⟩,ht⟩
  ·unfold afz
   dsimp only
   exact⟨lo+1,lo+2,mid,by omega,⟨h5,hf1⟩,⟨⟨by rw[χ],by rw[χ]⟩,by rw[p2,χ],by rw[p2,χ];exact hsl⟩,hs2,by omega,⟨v0,v1⟩,ht⟩
  ·refine hrB ?_
   rw[hc1,show(((lo+1:Nat)):Int)=(lo:Int)+1 by omega]
theorem asn:∀n,sd Tryz.prog (acd n)
 |0=>λa ha=>by
  obtain⟨m,lo,hi,_,⟨hT,_⟩,_,_,hn,_⟩:=ha
  have:=hT.top.1
  omega
 |n+1=>by
  intro a ha
  by_cases hc:(acd n).dom a
  ·exact asn n a hc
  ·refine alr (acd (n+1)) (W:=akt n) (Λ:=ayM) acY (by simp only[akt,List.forall_mem_cons,List.not_mem_nil,false_implies,implies_true,and_true];exact⟨asn n,h449⟩) (by simpa using⟨h51,h53,h55⟩)
    (show Da 52=some (fG 52) by kernel_rfl) (λ_=>rfl) a ?_ (aHD n a ha).out
   intro d hd b hb1 hb2 hb3
   have hd2:d=acd n:=by
    have:Xm 52 (akt n)=some (acd n):=rfl
    have hd3:Xm 52 (akt n)=some d:=hd
    rw[this] at hd3;injection hd3 with hd3;exact hd3.symm
   subst hd2
   have hb:a=b:=(acd n).inj a b hb1 hb2
   subst hb
   exact hc hb3
noncomputable def akw:fN:=⟨22,dd×Int×List XH,.cons qa (.cons (sx .i64) (.one (mA sf))),λa=>(fO a.1=0/\BD a.1 a.2.1 a.2.2 0 (uA a.1) 1 a.2.2.length)/\(0<=a.2.1/\a.2.1<=1000000000)/\a.2.2.length<=65536,λa=> .sb true⟩
def aHF (p:dd) (v:Int) (t:List XH) (s:List Bool):Nat->jY
 |7=> .inv Int (λi=>⟨[(2,.row sf t),(7,.ow 1 s.length 1),(8,.si .i64 i)],[.cells p.ss 27 20 false,.row .b s 4 true,.row (.i .i64) (uA p) 3 true]⟩)
   (λst=>iS st 8) (λi=>0<=i/\i<=t.length) (λi=>(t.length - i).toNat) λ_ _=> .look
 |_=> .look
theorem h432:Holds Tryz.prog akw:=by
 refine con (L:=[]) (W:=CN [acd 65537]) akw (λa=>aHF a.1 a.2.1 a.2.2 (zp a.1 a.2.1 a.2.2 a.2.2.length 0 (uA a.1) (δ a.2.2.length false)).2) (XX (by simpa using asn 65537)) (by simp) ?_
 rintro⟨p,v,t⟩ ⟨⟨hc,hT⟩,⟨v0,v1⟩,ht⟩
 simp only at hc hT v0 v1 ht
 refine gp (let a:=γa .i64;let c:=(0:Int);let d:=(140737488355328:Int);let e:=(1000000000000:Int);let f:=Ξ;let g:=δe false;let h:=cJ.row;let j:=(1:Int);let k:=γv;let l:=(↑t.length:Int);let A:=decide (l<j);let n:=(↑p.offers.length:Int);let s:=δ n.toNat c;let B:=δ l.toNat false;let m:=(zp p v t t.length c (uA p) (δ t.length false)).snd;let u:=γQ 1 m.length 1;let w:=cn.i .i64;let r:=cJ.cells [a p.supply.a0,a p.supply.a1,a p.supply.a2,a p.supply.a3,a p.supply.a4,a p.supply.a5,a p.opn.a0,a p.opn.a1,a p.opn.a2,a p.opn.a3,a p.opn.a4,a p.opn.a5,a p.cls.a0,a p.cls.a1,a p.cls.a2,a p.cls.a3,a p.cls.a4,a p.cls.a5,f w p.classes,f cn.off p.offers] 27 20 false;let y:=h cn.b m 4 true;let z:=h w (uA p) 3 true;let o:=(↑t.length:Int);(A=true->(g).same (k true))/\(A=false->c<=l/\l<=l/\l*j<=d/\l<=e/\c<=n/\n<=n/\n*(8:Int)<=d/\n<=e/\afz 65537 (agN.mk p v t c n.toNat n.toNat s l.toNat B)/\(false=true->(g).same (k true))/\(false=false->((((f sf t).same (f sf t)/\(γQ 1 l.toNat 1).same u/\(γu .i64 0).same (a 0)/\True)/\r.same r/\(h cn.b (zp p v t t.length c s B).snd 4 true).same y/\(h w s 3 true).same z/\True)/\c<=c/\c<=o)/\∀(x:Int),let C:=!bC m x.toNat false;let q:=x+j;let D:=a q;c<=x/\x<=o->(decide (x<l)=true->m.length=m.length/\c<=x/\x<(↑m.length:Int)/\m.length=m.length/\x.toNat<m.length/\(C=true->(g).same (k true))/\(C=false->ie .i64 q/\(((f sf t).same (f sf t)/\u.same u/\D.same D/\True)/\r.same r/\y.same y/\z.same z/\True)/\(c<=q/\q<=o)/\(o - q).toNat<(o - x).toNat))/\(decide (x<l)=false->(δe true).same (k true))))) (by kernel_rfl) ?_
 simp only[vcs]
 have hrB:∀{x y:List Bool},x=y->(cJ.row .b x 4 true).same (cJ.row .b y 4 true):=by rintro _ _ rfl;rfl
 have hrI:∀{x y:List Int},x=y->(cJ.row (.i .i64) x 3 true).same (cJ.row (.i .i64) y 3 true):=by rintro _ _ rfl;rfl
 have XI:∀{x y:Nat},x=y->(γQ 1 x 1).same (γQ 1 y 1):=by rintro _ _ rfl;rfl
 have hz:(δ ((p.offers.length:Int)).toNat 0:List Int)=uA p:=by unfold uA;rw[γm]
 have hzl:(uA p).length=p.offers.length:=γN
 have h160:=(uw hc).2.1
 have hat:=hT.top.1
 have hf:=ab7 hc
 have hun:∀i:Nat,i=0\/(1<=i/\i<t.length)->bC (δ t.length false) i false=false:=λi hi=>by
  rw[my (by rw[γN];omega),List.getElem_replicate]
 obtain⟨q1,q2,q3⟩:=hT.cor hf (n:=t.length) (s:=δ t.length false) (by omega) γN hun
 simp only[hz,γm]
 have q2:(zp p v t t.length 0 (uA p) (δ t.length false)).2.length=t.length:=by
  have:=q2
  rw[γN] at this;exact this
 refine⟨λh=>absurd h (by omega),λ_=>⟨by omega,by omega,by omega,by omega,by omega,by omega,by omega,by omega,(show afz _ _ from by unfold afz;dsimp only;exact⟨0,1,t.length,rfl,⟨hT,hf⟩,⟨⟨hzl.symm,hzl.symm⟩,γN.symm,γN⟩,hun,by omega,⟨v0,v1⟩,ht⟩),(λh=>by cases h),λ_=>⟨⟨⟨XI q2.symm,hrB rfl,hrI rfl⟩,by omega,by omega⟩,?_⟩⟩⟩
 rintro i ⟨i0,i1⟩
 refine⟨λhi=>⟨i0,by omega,by omega,λh=>?_,λ_=>⟨by omega,by omega,by omega⟩⟩,λ_=>trivial⟩
 have:=q3 i.toNat (by omega)
 have h2:bC (zp p v t t.length 0 (uA p) (δ t.length false)).2 i.toNat false=(bC (δ t.length false) i.toNat false||decide (i.toNat=0\/(1<=i.toNat/\i.toNat<t.length))):=this
 rw[h,decide_eq_true (by omega),Bool.or_true] at h2
 cases h2
theorem aHG {n:Nat} (hD:sd Tryz.prog (anr n)):sd Tryz.prog (agL (n+1)):=by
 refine aCm (L:=[r94,r97,ar2,asa]) (W:=[ar8,ar9,akg,anr n]) (agL (n+1)) (fG 49) lk (by simpa using⟨h390w,h446,h439,hD⟩) (by simpa using⟨h94,h97,h445,h447⟩) ?_
 rintro⟨⟨p,ch,val,found,en,k1,k2,most,err,prf,fx⟩,a⟩ ⟨hok,ha,hn⟩
 simp only at hok ha hn
 have e1:k1=prf.length:=hok.k1
 have e2:k2=fx.length:=hok.k2
 subst e1;subst e2
 have hf:uz p fx:=hok.f
 have h160:=(uw hf.c).2.1
 have hfl:fx.length=p.offers.length:=hf.l
 have hfe:=hf.e
 have hfo:=hf.Qy
 have hv0:0<=val:=hok.v0
 have hv1:val<=9223372036854775806:=hok.v1
 have hm0:1<=most:=hok.m0
 have hm1:most<=65536:=hok.m1
 have hpl:prf.length<=65536:=hok.l
 rcases en with _|m
 ·refine gp (let b:=γa .i64;let c:=(0:Int);let d:=(1:Int);let e:=cJ.cells;let f:=SV.eW;let g:=cJ.row;let h:=ie .i64;let j:=(-9223372036854775808:Int);let k:=(-1:Int);let l:=(9223372036854775807:Int);let m:=(2:Int);let o:=Ξ;let q:=γv;let r:=γQ;let v:=vL (SG p fx);let x:=b p.supply.a0;let y:=b p.supply.a1;let z:=b p.supply.a2;let A:=b p.supply.a3;let B:=b p.supply.a4;let C:=b p.supply.a5;let D:=b p.opn.a0;let E:=b p.opn.a1;let F:=b p.opn.a2;let G:=b p.opn.a3;let H:=b p.opn.a4;let I:=b p.opn.a5;let J:=b p.cls.a0;let K:=b p.cls.a1;let L:=b p.cls.a2;let M:=b p.cls.a3;let N:=b p.cls.a4;let O:=b p.cls.a5;let U:=cn.i .i64;let P:=o U p.classes;let Q:=o cn.off p.offers;let ah:=o U ch;let ai:=b val;let R:=SV.fn (Fn.func 45) [] [];let aj:=r 1 prf.length 5;let V:=r 2 fx.length 1;let W:=b most;let aw:=[V,W,γu .i64 12];let ax:=lU.mk ch val found prf err;let a7:=pA p (jW none) most (nF fx) ax a fx;let X:=e [x,y,z,A,B,C,D,E,F,G,H,I,J,K,L,M,N,O,P,Q,o U a7.ch,b a7.val,q a7.found,R,r 1 a7.prf.length 5,V,W,b a7.err] 84 28 false;let an:=g sf prf 139 true;let Y:=g sf a7.prf 139 true;let t:=g U fx 3 true;let Z:=(↑prf.length:Int);let ay:=decide (most<Z+m);let az:=prf.length+2;let a8:=Z+d;let ao:=(c,c,c,[]);let ak:=[(c,ao),(c,ao)];let z50:Nat:=(prf++ak).length;let w:=(QJ v).getD c;let ap:=(prf++ak).set a.toNat (m,w,Z,a8,[]);let a9:=w.toNat;let ac:=fx.set a9 d;let S:=pA p (jW none) most (nF ac) (lU.mk ch val found ap err) a8 ac;let ad:=fx.set a9 k;let aa:=pA p (jW none) most (nF ad) S Z ad;let ae:=((SE p fx).fst,(SE p fx).snd.fst,(SE p fx).snd.snd);let al:=val+d;let aq:=cC (ξ al);let ar:=(aq.fst,aq.snd.fst,aq.snd.snd);let aA:=Kr (fa ae) (fa ar);let aB:=decide (aA<c);let aC:=(d,c,c,c,adb p fx);let s:=sr (jW none) ax (Alloc.mk (uy v) (o5 (List.map (oI p) (uy v))));let z66:Nat:=(s.prf++ak).length;let af:=s.prf.length;let am:=s.val+d;let au:=cC (ξ am);let aD:=(au.fst,au.snd.fst,au.snd.snd);let aE:=decide (err≠c);let aF:=decide (DU p fx≠c);let aG:=decide (c<=aA);let a6:=s.prf.length;let ab:=(↑af:Int);let aH:=decide (most<ab+m);let ag:=ab+d;let av:=(s.prf++ak).set a.toNat (m,w,ab,ag,[]);let T:=pA p (jW none) most (nF ac) (lU.mk s.ch s.val s.found av s.err) ag ac;let aI:=pA p (jW none) most (nF ad) T ab ad;let aS:=let aJ:=(f []).same (f [])/\(e (x::y::z::A::B::C::D::E::F::G::H::I::J::K::L::M::N::O::P::Q::ah::ai::q found::R::aj::aw) 84 28 false).same X/\an.same Y/\t.same t/\True;okL (SG p fx)/\((!(QJ v).isSome)=true->aJ)/\((!(QJ v).isSome)=false->h (Z+m)/\(ay=true->aJ)/\(ay=false->2=2/\prf.length=prf.length/\az*56<=140737488355328/\az<=1000000000000/\h a8/\z50=z50/\c<=a/\a<(↑z50:Int)/\z50=z50/\a.toNat<z50/\h a8/\(zo (pZ.mk p ch val found none z50 fx.length most err ap fx)/\(c<=a8/\a8<(↑ap.length:Int))/\(c<=w/\w<(↑fx.length:Int))/\bC fx a9 c=c/\(d=d\/d=k)/\nF ac<n)/\(zo (pZ.mk p S.ch S.val S.found none S.prf.length fx.length most S.err S.prf fx)/\(c<=Z/\Z<(↑S.prf.length:Int))/\(c<=w/\w<(↑fx.length:Int))/\bC fx a9 c=c/\(k=d\/k=k)/\nF ad<n)/\(f []).same (f [])/\(e [x,y,z,A,B,C,D,E,F,G,H,I,J,K,L,M,N,O,P,Q,o U aa.ch,b aa.val,q aa.found,R,r 1 aa.prf.length 5,V,W,b aa.err] 84 28 false).same X/\(g sf aa.prf 139 true).same Y/\t.same t/\True));let aK:=(lT ae/\lT ar)/\(aB=true->prf.length=prf.length/\c<=a/\a<(↑prf.length:Int)/\prf.length=prf.length/\a.toNat<prf.length/\(f []).same (f [])/\(e [x,y,z,A,B,C,D,E,F,G,H,I,J,K,L,M,N,O,P,Q,ah,ai,q found,R,aj,V,W,b err] 84 28 false).same X/\(g sf (prf.set a.toNat aC) 139 true).same Y/\t.same t/\True)/\(aB=false->aS);let aL:=z66=z66;let aM:=(f []).same (f [])/\(e (x::y::z::A::B::C::D::E::F::G::H::I::J::K::L::M::N::O::P::Q::o U s.ch::b s.val::q s.found::R::r 1 af 5::aw) 84 28 false).same X/\(g sf s.prf 139 true).same Y/\t.same t/\True;let aN:=(f []).same (f [])/\(e [x,y,z,A,B,C,D,E,F,G,H,I,J,K,L,M,N,O,P,Q,ah,ai,q found,R,aj,V,W,b err] 84 28 false).same X/\an.same Y/\t.same t/\True;let aO:=λ(u:lU) (u_1:cJ) ↦(f []).same (f [])/\(e [x,y,z,A,B,C,D,E,F,G,H,I,J,K,L,M,N,O,P,Q,o U u.ch,b u.val,q u.found,R,r 1 u.prf.length 5,V,W,b u.err] 84 28 false).same X/\u_1.same Y/\t.same t/\True;let aP:=λ(u:pZ) (u_1:Int) (u_2:Nat) (u_3:Int) ↦zo u/\(c<=u_1/\u_1<(↑u_2:Int))/\(c<=w/\w<(↑fx.length:Int))/\bC fx a9 c=c/\(u_3=d\/u_3=k)/\nF (fx.set a9 u_3)<n;let aQ:=λ(u:Int) (u_1:cJ) ↦(f []).same (f [])/\(e [x,y,z,A,B,C,D,E,F,G,H,I,J,K,L,M,N,O,P,Q,ah,ai,q found,R,aj,V,W,b u] 84 28 false).same X/\u_1.same Y/\t.same t/\True;let aR:=λ(u:Bool) ↦decide (Kr (fa ae) (fa aD)<c)=u;(aE=true->aN)/\(aE=false->(found=true->aN)/\(found=false->(fx.length=fx.length/\fx.length<=1000000000000)/\(aF=true->aQ (DU p fx) an)/\(aF=false->((!Qy p fx)=true->prf.length=prf.length/\c<=a/\a<(↑prf.length:Int)/\prf.length=prf.length/\a.toNat<prf.length/\aQ err (g sf (prf.set a.toNat ((3:Int),ao)) 139 true))/\((!Qy p fx)=false->h al/\(j<=al/\al<=l)/\(lT ae/\lT ar)/\(aG=true->okL (SG p fx)/\(aaJ v=true->(zo (pZ.mk p ch val found none prf.length fx.length most err prf fx)/\okL (SG p fx)/\(SG p fx).length=p.offers.length)/\prf.length=prf.length/\h am/\(j<=am/\am<=l)/\(lT ae/\lT aD)/\(aR true->af=a6/\c<=a/\a<(↑a6:Int)/\af=a6/\a.toNat<a6/\aO s (g sf (s.prf.set a.toNat aC) 139 true))/\(aR false->okL (SG p fx)/\((!(QJ v).isSome)=true->aM)/\((!(QJ v).isSome)=false->h (ab+m)/\(aH=true->aM)/\(aH=false->2=2/\af=a6/\(a6+2)*56<=140737488355328/\a6+2<=1000000000000/\h ag/\aL/\c<=a/\a<(↑z66:Int)/\aL/\a.toNat<z66/\h ag/\aP (pZ.mk p s.ch s.val s.found none z66 fx.length most s.err av fx) ag av.length d/\aP (pZ.mk p T.ch T.val T.found none T.prf.length fx.length most T.err T.prf fx) ab T.prf.length k/\aO aI (g sf aI.prf 139 true)))))/\(aaJ v=false->aK))/\(aG=false->aK)))))) (by kernel_rfl) ?_
  simp only[vcs]
  refine⟨λh=>by rw[akr hf (.inl h)];exact⟨rfl,rfl⟩,λh0=>⟨λh=>by rw[akr hf (.inr h)];exact⟨rfl,rfl⟩,λh1=>⟨by omega,λh=>absurd hfe h,λ_=>⟨λh=>?_,λhb=>?_⟩⟩⟩⟩
  ·have hs:¬((⟨ch,val,found,prf,err⟩:lU).err≠0\/(⟨ch,val,found,prf,err⟩:lU).found=true):=by
    rintro(h|h)
    ·exact h0 h
    ·rw[show found=true from h] at h1;cases h1
   rw[ayG hf hs (by rw[<-hfo];exact h)]
   refine⟨ha.1,ha.2,by omega,?_,rfl⟩
   simp only[χ];rfl
  ·have hs:¬((⟨ch,val,found,prf,err⟩:lU).err≠0\/(⟨ch,val,found,prf,err⟩:lU).found=true):=by
    rintro(h|h)
    ·exact h0 h
    ·rw[show found=true from h] at h1;cases h1
   have hbf:FC p fx=true:=by rw[<-hfo];exact hb
   have hfix:=hf.ok hbf
   have eB:SE p fx=cC (DV p fx):=by unfold SE;rw[if_pos hb]
   have eS:SG p fx=fL (pg p fx):=by unfold SG pg;rw[if_pos hb]
   have eP:adb p fx=fL (s5 p fx):=by unfold adb;rw[if_pos hb]
   have hsl:(pg p fx).length=fx.length:=adT
   have oS:okL (fL (pg p fx)):=⟨pg p fx,rfl,by rw[AX];omega,λq hq=>by
    obtain⟨i,hi,rfl⟩:=δb hq
    have:=(am9 hfix hf.r (i:=i) (by omega)).2.2
    rwa [my hi] at this⟩
   have fB:lT (cC (DV p fx)):=uf (arW hb) (by omega)
   have fI:∀v:Int,0<=v->v<=9223372036854775807->lT (cC (ξ v)):=λv h0 h1=>uf (szI (by omega) h1) (by omega)
   have hcv:∀v:Int,Kr (DV p fx) (ξ v)<0↔DV p fx<((v:Int):Rat):=λv=>afx
   simp only[eB,eS,eP,YB,SD,sy]
   have hcm:uy (pg p fx)=(abj p fx).chosen:=rfl
   refine⟨by omega,by omega,⟨fB,fI _ (by omega) (by omega)⟩,λhge=>⟨oS,λhi=>?_,λhi=>?_⟩,λhlt=>?_⟩
   ·have hO:np p (jW none) ⟨ch,val,found,prf,err⟩ fx=sr (jW none) ⟨ch,val,found,prf,err⟩ ⟨uy (pg p fx),o5 ((uy (pg p fx)).map (oI p))⟩:=by
     unfold np
     rw[if_pos ⟨ζp.1 λh=>absurd ((hcv (val+1)).2 h) (Int.not_lt.2 hge),hi⟩]
     rfl
    have hok':zo (pZ.upd ⟨p,ch,val,found,none,prf.length,fx.length,most,err,prf,fx⟩ (np p (jW none) ⟨ch,val,found,prf,err⟩ fx)):=hok.itg
    rw[hO] at hok'
    obtain⟨e1,e2,_⟩:=@anc (jW none) ⟨ch,val,found,prf,err⟩ ⟨uy (pg p fx),o5 ((uy (pg p fx)).map (oI p))⟩
    generalize sr (jW none) ⟨ch,val,found,prf,err⟩ ⟨uy (pg p fx),o5 ((uy (pg p fx)).map (oI p))⟩=O at*
    obtain⟨ch',val',found',prf',aeD⟩:=O
    have e1:prf=prf':=Eq.symm e1
    have e2:err=aeD:=Eq.symm e2
    subst e1;subst e2
    have w0:0<=val':=hok'.v0
    have w1:val'<=9223372036854775806:=hok'.v1
    dsimp only
    refine⟨⟨hok,oS,by rw[AX];omega⟩,by omega,by omega,⟨fB,fI _ (by omega) (by omega)⟩,?_⟩
    refine⟨λh=>?_,λh=>⟨oS,λhk=>?_,λhk=>⟨by omega,λhm=>?_,λhm=>?_⟩⟩⟩
    ·rw[aiy hf hs hbf hO ((hcv _).1 h)]
     refine⟨ha.1,ha.2,by omega,?_,rfl⟩
     simp only[χ];rfl
    ·rw[acI hf hs hbf hO (λh'=>h ((hcv _).2 h')) (.inl (γZ.1 hk |>γM.1))]
     exact⟨rfl,rfl⟩
    ·rw[acI hf hs hbf hO (λh'=>h ((hcv _).2 h')) (.inr hm)]
     exact⟨rfl,rfl⟩
    ·obtain⟨k,hk'⟩:=γp.1 hk
     rw[aiz hf hs hbf hO (λh'=>h ((hcv _).2 h')) hk' hm];simp only[hk',γA]
     obtain⟨hk1,hk2,hk3⟩:=aeA hk'
     rw[hsl] at hk1
     have hk0:bC fx k.toNat 0=0:=aey hfix hf.r (by omega) hk2 hk3
     have n1:=aal hk1 hk0 (d:=1) (by omega)
     have n2:=aal hk1 hk0 (d:= -1) (by omega)
     have hl2:((prf++[zN,zN]).set a.toNat (An k prf.length)).length=prf.length+2:=by rw[χ,θ];rfl
     have hl1:(prf++[zN,zN]).length=prf.length+2:=by rw[θ];rfl
     have o1:=zo.spl (x:=⟨p,ch',val',found',none,prf.length,fx.length,most,aeD,prf,fx⟩) hok' (k:=(prf++[zN,zN]).length) (l:=(prf++[zN,zN]).set a.toNat (An k prf.length)) hm (by rw[hl1,hl2]) hl2
     have o2:=o1.vis (f:=fx.set k.toNat 1) (hf.set (by omega)) (n:=nF (fx.set k.toNat 1)) (a:=(prf.length:Int)+1)
     have o3:=(@adU p (jW none) most (nF (fx.set k.toNat 1)) (DW ⟨ch',val',found',prf,aeD⟩ a k) ((prf.length:Int)+1) (fx.set k.toNat 1) (hf.set (by omega))).1
     have o4:prf.length+2<=(pA p (jW none) most (nF (fx.set k.toNat 1)) (DW ⟨ch',val',found',prf,aeD⟩ a k) ((prf.length:Int)+1) (fx.set k.toNat 1)).prf.length:=by rw[<-hl2];exact o3
     have q1:a<((prf++[zN,zN]).length:Int):=by omega
     have q3:(prf.length:Int)+1<(((prf++[zN,zN]).set a.toNat (An k prf.length)).length:Int):=by rw[hl2];omega
     have q2:a.toNat<(prf++[zN,zN]).length:=by omega
     exact⟨by omega,by omega,by omega,ha.1,q1,q2,by omega,⟨o1,⟨by omega,q3⟩,hk1,hk0,.inl trivial,by omega⟩,⟨o2,⟨by omega,εV.2 (γo (by omega) o4)⟩,hk1,hk0,.inr trivial,by omega⟩,rfl,rfl⟩
   ·have hO:np p (jW none) ⟨ch,val,found,prf,err⟩ fx=⟨ch,val,found,prf,err⟩:=by
     unfold np
     rw[if_neg (λh=>by rw[h.2] at hi;cases hi)]
    refine⟨⟨fB,fI _ (by omega) (by omega)⟩,?_⟩
    refine⟨λh=>?_,λh=>⟨oS,λhk=>?_,λhk=>⟨by omega,λhm=>?_,λhm=>?_⟩⟩⟩
    ·rw[aiy hf hs hbf hO ((hcv _).1 h)]
     refine⟨ha.1,ha.2,by omega,?_,rfl⟩
     simp only[χ];rfl
    ·rw[acI hf hs hbf hO (λh'=>h ((hcv _).2 h')) (.inl (γZ.1 hk |>γM.1))]
     exact⟨rfl,rfl⟩
    ·rw[acI hf hs hbf hO (λh'=>h ((hcv _).2 h')) (.inr hm)]
     exact⟨rfl,rfl⟩
    ·obtain⟨k,hk'⟩:=γp.1 hk
     rw[aiz hf hs hbf hO (λh'=>h ((hcv _).2 h')) hk' hm];simp only[hk',γA]
     obtain⟨hk1,hk2,hk3⟩:=aeA hk'
     rw[hsl] at hk1
     have hk0:bC fx k.toNat 0=0:=aey hfix hf.r (by omega) hk2 hk3
     have n1:=aal hk1 hk0 (d:=1) (by omega)
     have n2:=aal hk1 hk0 (d:= -1) (by omega)
     have hl2:((prf++[zN,zN]).set a.toNat (An k prf.length)).length=prf.length+2:=by rw[χ,θ];rfl
     have hl1:(prf++[zN,zN]).length=prf.length+2:=by rw[θ];rfl
     have o1:=zo.spl hok (k:=(prf++[zN,zN]).length) (l:=(prf++[zN,zN]).set a.toNat (An k prf.length)) hm (by rw[hl1,hl2]) hl2
     have o2:=o1.vis (f:=fx.set k.toNat 1) (hf.set (by omega)) (n:=nF (fx.set k.toNat 1)) (a:=(prf.length:Int)+1)
     have o3:=(@adU p (jW none) most (nF (fx.set k.toNat 1)) (DW ⟨ch,val,found,prf,err⟩ a k) ((prf.length:Int)+1) (fx.set k.toNat 1) (hf.set (by omega))).1
     have o4:prf.length+2<=(pA p (jW none) most (nF (fx.set k.toNat 1)) (DW ⟨ch,val,found,prf,err⟩ a k) ((prf.length:Int)+1) (fx.set k.toNat 1)).prf.length:=by rw[<-hl2];exact o3
     have q1:a<((prf++[zN,zN]).length:Int):=by omega
     have q3:(prf.length:Int)+1<(((prf++[zN,zN]).set a.toNat (An k prf.length)).length:Int):=by rw[hl2];omega
     have q2:a.toNat<(prf++[zN,zN]).length:=by omega
     exact⟨by omega,by omega,by omega,ha.1,q1,q2,by omega,⟨o1,⟨by omega,q3⟩,hk1,hk0,.inl trivial,by omega⟩,⟨o2,⟨by omega,εV.2 (γo (by omega) o4)⟩,hk1,hk0,.inr trivial,by omega⟩,rfl,rfl⟩
   ·have hO:np p (jW none) ⟨ch,val,found,prf,err⟩ fx=⟨ch,val,found,prf,err⟩:=by
     unfold np;rw[if_neg (λh=>ζp.2 h.1 ((hcv (val+1)).1 (Int.not_le.1 hlt)))]
    refine⟨⟨fB,fI _ (by omega) (by omega)⟩,?_⟩
    refine⟨λh=>?_,λh=>⟨oS,λhk=>?_,λhk=>⟨by omega,λhm=>?_,λhm=>?_⟩⟩⟩
    ·rw[aiy hf hs hbf hO ((hcv _).1 h)]
     refine⟨ha.1,ha.2,by omega,?_,rfl⟩
     simp only[χ];rfl
    ·rw[acI hf hs hbf hO (λh'=>h ((hcv _).2 h')) (.inl (γZ.1 hk |>γM.1))]
     exact⟨rfl,rfl⟩
    ·rw[acI hf hs hbf hO (λh'=>h ((hcv _).2 h')) (.inr hm)]
     exact⟨rfl,rfl⟩
    ·obtain⟨k,hk'⟩:=γp.1 hk
     rw[aiz hf hs hbf hO (λh'=>h ((hcv _).2 h')) hk' hm];simp only[hk',γA]
     obtain⟨hk1,hk2,hk3⟩:=aeA hk'
     rw[hsl] at hk1
     have hk0:bC fx k.toNat 0=0:=aey hfix hf.r (by omega) hk2 hk3
     have n1:=aal hk1 hk0 (d:=1) (by omega)
     have n2:=aal hk1 hk0 (d:= -1) (by omega)
     have hl2:((prf++[zN,zN]).set a.toNat (An k prf.length)).length=prf.length+2:=by rw[χ,θ];rfl
     have hl1:(prf++[zN,zN]).length=prf.length+2:=by rw[θ];rfl
     have o1:=zo.spl hok (k:=(prf++[zN,zN]).length) (l:=(prf++[zN,zN]).set a.toNat (An k prf.length)) hm (by rw[hl1,hl2]) hl2
     have o2:=o1.vis (f:=fx.set k.toNat 1) (hf.set (by omega)) (n:=nF (fx.set k.toNat 1)) (a:=(prf.length:Int)+1)
     have o3:=(@adU p (jW none) most (nF (fx.set k.toNat 1)) (DW ⟨ch,val,found,prf,err⟩ a k) ((prf.length:Int)+1) (fx.set k.toNat 1) (hf.set (by omega))).1
     have o4:prf.length+2<=(pA p (jW none) most (nF (fx.set k.toNat 1)) (DW ⟨ch,val,found,prf,err⟩ a k) ((prf.length:Int)+1) (fx.set k.toNat 1)).prf.length:=by rw[<-hl2];exact o3
     have q1:a<((prf++[zN,zN]).length:Int):=by omega
     have q3:(prf.length:Int)+1<(((prf++[zN,zN]).set a.toNat (An k prf.length)).length:Int):=by rw[hl2];omega
     have q2:a.toNat<(prf++[zN,zN]).length:=by omega
     exact⟨by omega,by omega,by omega,ha.1,q1,q2,by omega,⟨o1,⟨by omega,q3⟩,hk1,hk0,.inl trivial,by omega⟩,⟨o2,⟨by omega,εV.2 (γo (by omega) o4)⟩,hk1,hk0,.inr trivial,by omega⟩,rfl,rfl⟩
 ·refine gp (let b:=γa .i64;let c:=(0:Int);let d:=cJ.cells;let e:=(1:Int);let f:=SV.eW;let g:=cJ.row;let h:=ie .i64;let j:=(-9223372036854775808:Int);let k:=(-1:Int);let l:=(9223372036854775807:Int);let o:=(2:Int);let q:=Ξ;let r:=γv;let s:=γQ;let ae:=((SE p fx).fst,(SE p fx).snd.fst,(SE p fx).snd.snd);let aj:=val+e;let ap:=cC (ξ aj);let aq:=(ap.fst,ap.snd.fst,ap.snd.snd);let ay:=Kr (fa ae) (fa aq);let az:=decide (ay<c);let z:=b p.supply.a0;let A:=b p.supply.a1;let B:=b p.supply.a2;let C:=b p.supply.a3;let D:=b p.supply.a4;let E:=b p.supply.a5;let F:=b p.opn.a0;let G:=b p.opn.a1;let H:=b p.opn.a2;let I:=b p.opn.a3;let J:=b p.opn.a4;let K:=b p.opn.a5;let L:=b p.cls.a0;let M:=b p.cls.a1;let N:=b p.cls.a2;let O:=b p.cls.a3;let P:=b p.cls.a4;let Q:=b p.cls.a5;let W:=cn.i .i64;let R:=q W p.classes;let S:=q cn.off p.offers;let ak:=q W ch;let al:=b val;let T:=SV.fn (Fn.func 53) [] [γ5 1 0 1];let am:=s 2 prf.length 5;let X:=s 3 fx.length 1;let Y:=b most;let aA:=lU.mk ch val found prf err;let a9:=pA p (jW (some m)) most (nF fx) aA a fx;let Z:=d [z,A,B,C,D,E,F,G,H,I,J,K,L,M,N,O,P,Q,R,S,q W a9.ch,b a9.val,r a9.found,T,s 2 a9.prf.length 5,X,Y,b a9.err] 84 28 false;let v:=d [b m] 2 1 false;let aB:=(e,c,c,c,adb p fx);let a6:=g sf a9.prf 139 true;let w:=g W fx 3 true;let x:=vL (SG p fx);let aC:=[X,Y,γu .i64 12];let ar:=g sf prf 139 true;let a7:=(↑prf.length:Int);let aD:=decide (most<a7+o);let aE:=prf.length+2;let aa:=a7+e;let au:=(c,c,c,[]);let an:=[(c,au),(c,au)];let z58:Nat:=(prf++an).length;let y:=(QJ x).getD c;let av:=(prf++an).set a.toNat (o,y,a7,aa,[]);let ab:=y.toNat;let af:=fx.set ab e;let U:=pA p (jW (some m)) most (nF af) (lU.mk ch val found av err) aa af;let ag:=fx.set ab k;let ac:=pA p (jW (some m)) most (nF ag) U a7 ag;let t:=sr (jW (some m)) aA (Alloc.mk (uy x) (o5 (List.map (oI p) (uy x))));let ah:=t.prf.length;let z68:Nat:=(t.prf++an).length;let ao:=t.val+e;let aw:=cC (ξ ao);let aF:=(aw.fst,aw.snd.fst,aw.snd.snd);let aG:=decide (err≠c);let aH:=decide (DU p fx≠c);let aI:=decide (c<=ay);let a8:=t.prf.length;let ad:=(↑ah:Int);let aJ:=decide (most<ad+o);let ai:=ad+e;let ax:=(t.prf++an).set a.toNat (o,y,ad,ai,[]);let V:=pA p (jW (some m)) most (nF af) (lU.mk t.ch t.val t.found ax t.err) ai af;let aK:=pA p (jW (some m)) most (nF ag) V ad ag;let aU:=let aL:=(f []).same (f [])/\(d (z::A::B::C::D::E::F::G::H::I::J::K::L::M::N::O::P::Q::R::S::ak::al::r found::T::am::aC) 84 28 false).same Z/\v.same v/\ar.same a6/\w.same w/\True;(az=true->prf.length=prf.length/\c<=a/\a<(↑prf.length:Int)/\prf.length=prf.length/\a.toNat<prf.length/\(f []).same (f [])/\(d [z,A,B,C,D,E,F,G,H,I,J,K,L,M,N,O,P,Q,R,S,ak,al,r found,T,am,X,Y,b err] 84 28 false).same Z/\v.same v/\(g sf (prf.set a.toNat aB) 139 true).same a6/\w.same w/\True)/\(az=false->okL (SG p fx)/\((!(QJ x).isSome)=true->aL)/\((!(QJ x).isSome)=false->h (a7+o)/\(aD=true->aL)/\(aD=false->2=2/\prf.length=prf.length/\aE*56<=140737488355328/\aE<=1000000000000/\h aa/\z58=z58/\c<=a/\a<(↑z58:Int)/\z58=z58/\a.toNat<z58/\h aa/\(zo (pZ.mk p ch val found (some m) z58 fx.length most err av fx)/\(c<=aa/\aa<(↑av.length:Int))/\(c<=y/\y<(↑fx.length:Int))/\bC fx ab c=c/\(e=e\/e=k)/\nF af<n)/\(zo (pZ.mk p U.ch U.val U.found (some m) U.prf.length fx.length most U.err U.prf fx)/\(c<=a7/\a7<(↑U.prf.length:Int))/\(c<=y/\y<(↑fx.length:Int))/\bC fx ab c=c/\(k=e\/k=k)/\nF ag<n)/\(f []).same (f [])/\(d [z,A,B,C,D,E,F,G,H,I,J,K,L,M,N,O,P,Q,R,S,q W ac.ch,b ac.val,r ac.found,T,s 2 ac.prf.length 5,X,Y,b ac.err] 84 28 false).same Z/\v.same v/\(g sf ac.prf 139 true).same a6/\w.same w/\True)));let aM:=(f []).same (f [])/\(d (z::A::B::C::D::E::F::G::H::I::J::K::L::M::N::O::P::Q::R::S::q W t.ch::b t.val::r t.found::T::s 2 ah 5::aC) 84 28 false).same Z/\v.same v/\(g sf t.prf 139 true).same a6/\w.same w/\True;let aN:=z68=z68;let aO:=(f []).same (f [])/\(d [z,A,B,C,D,E,F,G,H,I,J,K,L,M,N,O,P,Q,R,S,ak,al,r found,T,am,X,Y,b err] 84 28 false).same Z/\v.same v/\ar.same a6/\w.same w/\True;let aP:=(lT ae/\lT aq)/\aU;let aQ:=λ(u:lU) (u_1:cJ) ↦(f []).same (f [])/\(d [z,A,B,C,D,E,F,G,H,I,J,K,L,M,N,O,P,Q,R,S,q W u.ch,b u.val,r u.found,T,s 2 u.prf.length 5,X,Y,b u.err] 84 28 false).same Z/\v.same v/\u_1.same a6/\w.same w/\True;let aR:=λ(u:pZ) (u_1:Int) (u_2:Nat) (u_3:Int) ↦zo u/\(c<=u_1/\u_1<(↑u_2:Int))/\(c<=y/\y<(↑fx.length:Int))/\bC fx ab c=c/\(u_3=e\/u_3=k)/\nF (fx.set ab u_3)<n;let aS:=λ(u:Int) (u_1:cJ) ↦(f []).same (f [])/\(d [z,A,B,C,D,E,F,G,H,I,J,K,L,M,N,O,P,Q,R,S,ak,al,r found,T,am,X,Y,b u] 84 28 false).same Z/\v.same v/\u_1.same a6/\w.same w/\True;let aT:=λ(u:Bool) ↦decide (Kr (fa ae) (fa aF)<c)=u;(aG=true->aO)/\(aG=false->(found=true->aO)/\(found=false->(fx.length=fx.length/\fx.length<=1000000000000)/\(aH=true->aS (DU p fx) ar)/\(aH=false->((!Qy p fx)=true->prf.length=prf.length/\c<=a/\a<(↑prf.length:Int)/\prf.length=prf.length/\a.toNat<prf.length/\aS err (g sf (prf.set a.toNat ((3:Int),au)) 139 true))/\((!Qy p fx)=false->h aj/\(j<=aj/\aj<=l)/\(lT ae/\lT aq)/\(aI=true->okL (SG p fx)/\(aaJ x=true->(zo (pZ.mk p ch val found (some m) prf.length fx.length most err prf fx)/\okL (SG p fx)/\(SG p fx).length=p.offers.length)/\prf.length=prf.length/\h ao/\(j<=ao/\ao<=l)/\(lT ae/\lT aF)/\(aT true->ah=a8/\c<=a/\a<(↑a8:Int)/\ah=a8/\a.toNat<a8/\aQ t (g sf (t.prf.set a.toNat aB) 139 true))/\(aT false->okL (SG p fx)/\((!(QJ x).isSome)=true->aM)/\((!(QJ x).isSome)=false->h (ad+o)/\(aJ=true->aM)/\(aJ=false->2=2/\ah=a8/\(a8+2)*56<=140737488355328/\a8+2<=1000000000000/\h ai/\aN/\c<=a/\a<(↑z68:Int)/\aN/\a.toNat<z68/\h ai/\aR (pZ.mk p t.ch t.val t.found (some m) z68 fx.length most t.err ax fx) ai ax.length e/\aR (pZ.mk p V.ch V.val V.found (some m) V.prf.length fx.length most V.err V.prf fx) ad V.prf.length k/\aQ aK (g sf aK.prf 139 true)))))/\(aaJ x=false->aP))/\(aI=false->aP)))))) (by kernel_rfl) ?_
  simp only[vcs]
  refine⟨λh=>by rw[akr hf (.inl h)];exact⟨rfl,rfl⟩,λh0=>⟨λh=>by rw[akr hf (.inr h)];exact⟨rfl,rfl⟩,λh1=>⟨by omega,λh=>absurd hfe h,λ_=>⟨λh=>?_,λhb=>?_⟩⟩⟩⟩
  ·have hs:¬((⟨ch,val,found,prf,err⟩:lU).err≠0\/(⟨ch,val,found,prf,err⟩:lU).found=true):=by
    rintro(h|h)
    ·exact h0 h
    ·rw[show found=true from h] at h1;cases h1
   rw[ayG hf hs (by rw[<-hfo];exact h)]
   refine⟨ha.1,ha.2,by omega,?_,rfl⟩
   simp only[χ];rfl
  ·have hs:¬((⟨ch,val,found,prf,err⟩:lU).err≠0\/(⟨ch,val,found,prf,err⟩:lU).found=true):=by
    rintro(h|h)
    ·exact h0 h
    ·rw[show found=true from h] at h1;cases h1
   have hbf:FC p fx=true:=by rw[<-hfo];exact hb
   have hfix:=hf.ok hbf
   have eB:SE p fx=cC (DV p fx):=by unfold SE;rw[if_pos hb]
   have eS:SG p fx=fL (pg p fx):=by unfold SG pg;rw[if_pos hb]
   have eP:adb p fx=fL (s5 p fx):=by unfold adb;rw[if_pos hb]
   have hsl:(pg p fx).length=fx.length:=adT
   have oS:okL (fL (pg p fx)):=⟨pg p fx,rfl,by rw[AX];omega,λq hq=>by
    obtain⟨i,hi,rfl⟩:=δb hq
    have:=(am9 hfix hf.r (i:=i) (by omega)).2.2
    rwa [my hi] at this⟩
   have fB:lT (cC (DV p fx)):=uf (arW hb) (by omega)
   have fI:∀v:Int,0<=v->v<=9223372036854775807->lT (cC (ξ v)):=λv h0 h1=>uf (szI (by omega) h1) (by omega)
   have hcv:∀v:Int,Kr (DV p fx) (ξ v)<0↔DV p fx<((v:Int):Rat):=λv=>afx
   simp only[eB,eS,eP,YB,SD,sy]
   have hcm:uy (pg p fx)=(abj p fx).chosen:=rfl
   refine⟨by omega,by omega,⟨fB,fI _ (by omega) (by omega)⟩,λhge=>⟨oS,λhi=>?_,λhi=>?_⟩,λhlt=>?_⟩
   ·have hO:np p (jW (some m)) ⟨ch,val,found,prf,err⟩ fx=sr (jW (some m)) ⟨ch,val,found,prf,err⟩ ⟨uy (pg p fx),o5 ((uy (pg p fx)).map (oI p))⟩:=by
     unfold np
     rw[if_pos ⟨ζp.1 λh=>absurd ((hcv (val+1)).2 h) (Int.not_lt.2 hge),hi⟩]
     rfl
    have hok':zo (pZ.upd ⟨p,ch,val,found,(some m),prf.length,fx.length,most,err,prf,fx⟩ (np p (jW (some m)) ⟨ch,val,found,prf,err⟩ fx)):=hok.itg
    rw[hO] at hok'
    obtain⟨e1,e2,_⟩:=@anc (jW (some m)) ⟨ch,val,found,prf,err⟩ ⟨uy (pg p fx),o5 ((uy (pg p fx)).map (oI p))⟩
    generalize sr (jW (some m)) ⟨ch,val,found,prf,err⟩ ⟨uy (pg p fx),o5 ((uy (pg p fx)).map (oI p))⟩=O at*
    obtain⟨ch',val',found',prf',aeD⟩:=O
    have e1:prf=prf':=Eq.symm e1
    have e2:err=aeD:=Eq.symm e2
    subst e1;subst e2
    have w0:0<=val':=hok'.v0
    have w1:val'<=9223372036854775806:=hok'.v1
    dsimp only
    refine⟨⟨hok,oS,by rw[AX];omega⟩,by omega,by omega,⟨fB,fI _ (by omega) (by omega)⟩,?_⟩
    refine⟨λh=>?_,λh=>⟨oS,λhk=>?_,λhk=>⟨by omega,λhm=>?_,λhm=>?_⟩⟩⟩
    ·rw[aiy hf hs hbf hO ((hcv _).1 h)]
     refine⟨ha.1,ha.2,by omega,?_,rfl⟩
     simp only[χ];rfl
    ·rw[acI hf hs hbf hO (λh'=>h ((hcv _).2 h')) (.inl (γZ.1 hk |>γM.1))]
     exact⟨rfl,rfl⟩
    ·rw[acI hf hs hbf hO (λh'=>h ((hcv _).2 h')) (.inr hm)]
     exact⟨rfl,rfl⟩
    ·obtain⟨k,hk'⟩:=γp.1 hk
     rw[aiz hf hs hbf hO (λh'=>h ((hcv _).2 h')) hk' hm];simp only[hk',γA]
     obtain⟨hk1,hk2,hk3⟩:=aeA hk'
     rw[hsl] at hk1
     have hk0:bC fx k.toNat 0=0:=aey hfix hf.r (by omega) hk2 hk3
     have n1:=aal hk1 hk0 (d:=1) (by omega)
     have n2:=aal hk1 hk0 (d:= -1) (by omega)
     have hl2:((prf++[zN,zN]).set a.toNat (An k prf.length)).length=prf.length+2:=by rw[χ,θ];rfl
     have hl1:(prf++[zN,zN]).length=prf.length+2:=by rw[θ];rfl
     have o1:=zo.spl (x:=⟨p,ch',val',found',(some m),prf.length,fx.length,most,aeD,prf,fx⟩) hok' (k:=(prf++[zN,zN]).length) (l:=(prf++[zN,zN]).set a.toNat (An k prf.length)) hm (by rw[hl1,hl2]) hl2
     have o2:=o1.vis (f:=fx.set k.toNat 1) (hf.set (by omega)) (n:=nF (fx.set k.toNat 1)) (a:=(prf.length:Int)+1)
     have o3:=(@adU p (jW (some m)) most (nF (fx.set k.toNat 1)) (DW ⟨ch',val',found',prf,aeD⟩ a k) ((prf.length:Int)+1) (fx.set k.toNat 1) (hf.set (by omega))).1
     have o4:prf.length+2<=(pA p (jW (some m)) most (nF (fx.set k.toNat 1)) (DW ⟨ch',val',found',prf,aeD⟩ a k) ((prf.length:Int)+1) (fx.set k.toNat 1)).prf.length:=by rw[<-hl2];exact o3
     have q1:a<((prf++[zN,zN]).length:Int):=by omega
     have q3:(prf.length:Int)+1<(((prf++[zN,zN]).set a.toNat (An k prf.length)).length:Int):=by rw[hl2];omega
     have q2:a.toNat<(prf++[zN,zN]).length:=by omega
     exact⟨by omega,by omega,by omega,ha.1,q1,q2,by omega,⟨o1,⟨by omega,q3⟩,hk1,hk0,.inl trivial,by omega⟩,⟨o2,⟨by omega,εV.2 (γo (by omega) o4)⟩,hk1,hk0,.inr trivial,by omega⟩,rfl,rfl⟩
   ·have hO:np p (jW (some m)) ⟨ch,val,found,prf,err⟩ fx=⟨ch,val,found,prf,err⟩:=by
     unfold np
     rw[if_neg (λh=>by rw[h.2] at hi;cases hi)]
    refine⟨⟨fB,fI _ (by omega) (by omega)⟩,?_⟩
    refine⟨λh=>?_,λh=>⟨oS,λhk=>?_,λhk=>⟨by omega,λhm=>?_,λhm=>?_⟩⟩⟩
    ·rw[aiy hf hs hbf hO ((hcv _).1 h)]
     refine⟨ha.1,ha.2,by omega,?_,rfl⟩
     simp only[χ];rfl
    ·rw[acI hf hs hbf hO (λh'=>h ((hcv _).2 h')) (.inl (γZ.1 hk |>γM.1))]
     exact⟨rfl,rfl⟩
    ·rw[acI hf hs hbf hO (λh'=>h ((hcv _).2 h')) (.inr hm)]
     exact⟨rfl,rfl⟩
    ·obtain⟨k,hk'⟩:=γp.1 hk
     rw[aiz hf hs hbf hO (λh'=>h ((hcv _).2 h')) hk' hm];simp only[hk',γA]
     obtain⟨hk1,hk2,hk3⟩:=aeA hk'
     rw[hsl] at hk1
     have hk0:bC fx k.toNat 0=0:=aey hfix hf.r (by omega) hk2 hk3
     have n1:=aal hk1 hk0 (d:=1) (by omega)
     have n2:=aal hk1 hk0 (d:= -1) (by omega)
     have hl2:((prf++[zN,zN]).set a.toNat (An k prf.length)).length=prf.length+2:=by rw[χ,θ];rfl
     have hl1:(prf++[zN,zN]).length=prf.length+2:=by rw[θ];rfl
     have o1:=zo.spl hok (k:=(prf++[zN,zN]).length) (l:=(prf++[zN,zN]).set a.toNat (An k prf.length)) hm (by rw[hl1,hl2]) hl2
     have o2:=o1.vis (f:=fx.set k.toNat 1) (hf.set (by omega)) (n:=nF (fx.set k.toNat 1)) (a:=(prf.length:Int)+1)
     have o3:=(@adU p (jW (some m)) most (nF (fx.set k.toNat 1)) (DW ⟨ch,val,found,prf,err⟩ a k) ((prf.length:Int)+1) (fx.set k.toNat 1) (hf.set (by omega))).1
     have o4:prf.length+2<=(pA p (jW (some m)) most (nF (fx.set k.toNat 1)) (DW ⟨ch,val,found,prf,err⟩ a k) ((prf.length:Int)+1) (fx.set k.toNat 1)).prf.length:=by rw[<-hl2];exact o3
     have q1:a<((prf++[zN,zN]).length:Int):=by omega
     have q3:(prf.length:Int)+1<(((prf++[zN,zN]).set a.toNat (An k prf.length)).length:Int):=by rw[hl2];omega
     have q2:a.toNat<(prf++[zN,zN]).length:=by omega
     exact⟨by omega,by omega,by omega,ha.1,q1,q2,by omega,⟨o1,⟨by omega,q3⟩,hk1,hk0,.inl trivial,by omega⟩,⟨o2,⟨by omega,εV.2 (γo (by omega) o4)⟩,hk1,hk0,.inr trivial,by omega⟩,rfl,rfl⟩
   ·have hO:np p (jW (some m)) ⟨ch,val,found,prf,err⟩ fx=⟨ch,val,found,prf,err⟩:=by
     unfold np;rw[if_neg (λh=>ζp.2 h.1 ((hcv (val+1)).1 (Int.not_le.1 hlt)))]
    refine⟨⟨fB,fI _ (by omega) (by omega)⟩,?_⟩
    refine⟨λh=>?_,λh=>⟨oS,λhk=>?_,λhk=>⟨by omega,λhm=>?_,λhm=>?_⟩⟩⟩
    ·rw[aiy hf hs hbf hO ((hcv _).1 h)]
     refine⟨ha.1,ha.2,by omega,?_,rfl⟩
     simp only[χ];rfl
    ·rw[acI hf hs hbf hO (λh'=>h ((hcv _).2 h')) (.inl (γZ.1 hk |>γM.1))]
     exact⟨rfl,rfl⟩
    ·rw[acI hf hs hbf hO (λh'=>h ((hcv _).2 h')) (.inr hm)]
     exact⟨rfl,rfl⟩
    ·obtain⟨k,hk'⟩:=γp.1 hk
     rw[aiz hf hs hbf hO (λh'=>h ((hcv _).2 h')) hk' hm];simp only[hk',γA]
     obtain⟨hk1,hk2,hk3⟩:=aeA hk'
     rw[hsl] at hk1
     have hk0:bC fx k.toNat 0=0:=aey hfix hf.r (by omega) hk2 hk3
     have n1:=aal hk1 hk0 (d:=1) (by omega)
     have n2:=aal hk1 hk0 (d:= -1) (by omega)
     have hl2:((prf++[zN,zN]).set a.toNat (An k prf.length)).length=prf.length+2:=by rw[χ,θ];rfl
     have hl1:(prf++[zN,zN]).length=prf.length+2:=by rw[θ];rfl
     have o1:=zo.spl hok (k:=(prf++[zN,zN]).length) (l:=(prf++[zN,zN]).set a.toNat (An k prf.length)) hm (by rw[hl1,hl2]) hl2
     have o2:=o1.vis (f:=fx.set k.toNat 1) (hf.set (by omega)) (n:=nF (fx.set k.toNat 1)) (a:=(prf.length:Int)+1)
     have o3:=(@adU p (jW (some m)) most (nF (fx.set k.toNat 1)) (DW ⟨ch,val,found,prf,err⟩ a k) ((prf.length:Int)+1) (fx.set k.toNat 1) (hf.set (by omega))).1
     have o4:prf.length+2<=(pA p (jW (some m)) most (nF (fx.set k.toNat 1)) (DW ⟨ch,val,found,prf,err⟩ a k) ((prf.length:Int)+1) (fx.set k.toNat 1)).prf.length:=by rw[<-hl2];exact o3
     have q1:a<((prf++[zN,zN]).length:Int):=by omega
     have q3:(prf.length:Int)+1<(((prf++[zN,zN]).set a.toNat (An k prf.length)).length:Int):=by rw[hl2];omega
     have q2:a.toNat<(prf++[zN,zN]).length:=by omega
     exact⟨by omega,by omega,by omega,ha.1,q1,q2,by omega,⟨o1,⟨by omega,q3⟩,hk1,hk0,.inl trivial,by omega⟩,⟨o2,⟨by omega,εV.2 (γo (by omega) o4)⟩,hk1,hk0,.inr trivial,by omega⟩,rfl,rfl⟩
theorem aso:∀n,sd Tryz.prog (agL n)
 |0=>λa ha=>absurd ha.2.2 (by omega)
 |n+1=>aHG (aHd (aso n))
theorem agO {p:dd} (hc:fO p=0) {c:List Int} (hf:lj p c=0):0<=qX p c/\qX p c<=160000000/\c.length<=160:=by
 obtain⟨_,ha⟩:=aa7 hf
 have h160:=(uw hc).2.1
 have hl:c.length<=p.offers.length:=ah4 ha
 have h1:=adG (uw hc) (l:=c.map (oI p)) λx hx=>by
  obtain⟨i,hi,rfl⟩:=γk.1 hx
  have:=ha.2 i hi
  exact pz (by omega)
 rw[γs] at h1;rw[ait hc ha]
 have e:o5 (c.map (oI p))=o5 (rc p c):=rfl
 omega
theorem ayN {p:dd} (hc:fO p=0):(YA p).length<=160:=(agO hc (axF hc)).2.2
theorem aHH {p:dd} {c:List Int} {most:Int} {k:Nat} (hc:fO p=0) (hf:lj p c=0) (m0:1<=most) (m1:most<=65536) (hk:k=p.offers.length):zo ⟨p,(QL p c).ch,(QL p c).val,(QL p c).found,none,(QL p c).prf.length,k,most,(QL p c).err,(QL p c).prf,uA p⟩:=by
 have h1:=ard hc hf
 have h2:=ank hc
 have hG:lj p (QL p c).ch=0/\qX p (QL p c).ch=(QL p c).val:=
  aix (G:=λc w _=>lj p c=0/\qX p c=w) (λ_ _ _ _ _ _ h1 h2 _=>⟨h1,h2⟩) (aix (G:=λc w _=>lj p c=0/\qX p c=w) (λ_ _ _ _ _ _ h1 h2 _=>⟨h1,h2⟩) (s:=⟨c,qX p c,false,[zN],0⟩) ⟨hf,rfl⟩ h1.2.1 h1.2.2.1) h2.1 h2.2
 obtain⟨b0,b1,b2⟩:=agO hc hG.1
 obtain⟨e1,_,_⟩:=@arQ p c
 rw[hG.2] at b0 b1
 exact⟨ab7 hc,rfl,by rw[hk];exact(γN).symm,b0,by show(QL p c).val<=_;omega,m0,m1,by show(QL p c).prf.length<=_;rw[e1];decide,by show(QL p c).ch.length<=_;omega⟩
theorem aHI {p:dd} {m most:Int} {k:Nat} (hc:fO p=0) (hm:0<m/\m<=9223372036854775807) (m0:1<=most) (m1:most<=65536) (hk:k=p.offers.length):zo ⟨p,(QM p m).ch,(QM p m).val,(QM p m).found,some m,(QM p m).prf.length,k,most,(QM p m).err,(QM p m).prf,uA p⟩:=by
 have h2:=ank hc
 have hG:(0<=(QM p m).val/\(QM p m).val<=9223372036854775806)/\(QM p m).ch.length<=160:=
  aix (G:=λc w _=>(0<=w/\w<=9223372036854775806)/\c.length<=160) (λ_ _ _ c' w' _ h1 h2 _=>by
   obtain⟨b0,b1,b2⟩:=agO hc h1
   omega) (s:=⟨[],m - 1,false,[zN],0⟩) ⟨⟨by show 0<=m - 1;omega,by show m - 1<=_;omega⟩,by show([]:List Int).length<=160;decide⟩ h2.1 h2.2
 obtain⟨e1,_⟩:=@arR p m
 exact⟨ab7 hc,rfl,by rw[hk];exact(γN).symm,hG.1.1,hG.1.2,m0,m1,by show(QM p m).prf.length<=_;rw[e1];decide,by show(QM p m).ch.length<=_;omega⟩
noncomputable def agP:fN:=⟨16,dd×Alloc×Int,.cons qa (.cons Xh (.one (sx .i64))),λa=>a.1.offers.length<=40/\a.2.1.chosen.length<=9223372036854775807,
 λa=> .eW [.agg [.row (.i .i64) (if tc a.1 a.2.1.chosen a.2.2=0 then(sg a.1 a.2.1.chosen a.2.2).ch else[]),.si .i64 (if tc a.1 a.2.1.chosen a.2.2=0 then(sg a.1 a.2.1.chosen a.2.2).val else 0)],.row sf (if tc a.1 a.2.1.chosen a.2.2=0 then(sg a.1 a.2.1.chosen a.2.2).prf else[]),.si .i64 (tc a.1 a.2.1.chosen a.2.2)]⟩
theorem h429:Holds Tryz.prog agP:=by
 refine con (L:=[alH,arZ,amn,amk]) (W:=CN [akg,agL 161]) agP lk (XX (by simpa using⟨h439,aso 161⟩)) (by simpa using⟨h100,h437,h315,h312⟩) ?_
 rintro⟨p,⟨c,v⟩,most⟩ ⟨h40,hcl⟩
 simp only at h40 hcl
 refine gp (let a:=(0:Int);let b:=γa .i64;let d:=(140737488355328:Int);let e:=(1000000000000:Int);let f:=(1:Int);let g:=Ξ;let h:=γL;let j:=SV.eW;let r:=cn.i .i64;let n:=g r [];let o:=γu .i64 0;let s:=sg p c most;let w:=j [h [g r (if tc p c most=a then s.ch else[]),b (if tc p c most=a then s.val else a)],g sf (if tc p c most=a then s.prf else[]),b (tc p c most)];let l:=(↑p.offers.length:Int);let q:=δ l.toNat a;let t:=sr (jW none) (lU.mk c (qX p c) false [(a,a,a,a,[])] a) (HU p c);let k:=sr (jW none) t (HU p (YA p));let m:=pA p (jW none) most (nF q) k a q;let x:=decide (lj p c≠a);let y:=decide (most<f);let z:=decide ((65536:Int)<most);let A:=0+c.length;let B:=(j [h [n,o],n,γu .i64 4]).same w;let v:=λ(u:List Int) (u_1 u_2 u_3:SV) ↦(j [h [g r u,u_1],u_2,u_3]).same w;let C:=λ(u:Bool) ↦decide (m.err≠a)=u;c.length<=9223372036854775807/\(x=true->v [] o n (b (lj p c)))/\(x=false->(y=true->B)/\(y=false->(z=true->B)/\(z=false->0=0/\A*8<=140737488355328/\A<=1000000000000/\(fO p=a/\c.length<=9223372036854775807)/\a<=f/\f<=f/\(56:Int)<=d/\f<=e/\a<=l/\l<=l/\l*(8:Int)<=d/\l<=e/\c.length=c.length/\c.length=c.length/\c.length<=9223372036854775807/\1=1/\p.offers.length<=40/\(YA p).length<=9223372036854775807/\t.prf.length=t.prf.length/\(zo (pZ.mk p k.ch k.val k.found none k.prf.length l.toNat most k.err k.prf q)/\(a<=a/\a<(↑k.prf.length:Int))/\nF q<161)/\(C true->v [] o n (b m.err))/\(C false->m.prf.length=m.prf.length/\v m.ch (b m.val) (g sf m.prf) o))))) (by kernel_rfl) ?_
 simp only[vcs]
 have hz:(δ ((p.offers.length:Int)).toNat 0:List Int)=uA p:=by unfold uA;rw[γm]
 have e0:sr (jW none) (sr (jW none) ⟨c,qX p c,false,[(0,(0,(0,(0,[]))))],0⟩ (HU p c)) (HU p (YA p))=QL p c:=rfl
 have en:nF (uA p)=p.offers.length:=aiw
 simp only[hz,e0,en]
 refine⟨hcl,λh=>?_,λh=>⟨λh1=>?_,λh1=>⟨λh2=>?_,λh2=>?_⟩⟩⟩
 ·have e:tc p c most=lj p c:=by unfold tc;rw[if_pos h]
  rw[e,if_neg h,if_neg h,if_neg h]
  exact⟨rfl,rfl,rfl⟩
 ·have e:tc p c most=4:=by unfold tc;rw[if_neg h,if_pos (.inl h1)]
  rw[e]
  exact⟨rfl,rfl,rfl⟩
 ·have e:tc p c most=4:=by unfold tc;rw[if_neg h,if_pos (.inr h2)]
  rw[e]
  exact⟨rfl,rfl,rfl⟩
 ·have hf:lj p c=0:=Ψ.1 h
  have hc:fO p=0:=(aa7 hf).1
  obtain⟨b0,b1,b2⟩:=agO hc hf
  obtain⟨e1,e2,e3⟩:=@arQ p c
  have e:tc p c most=(sg p c most).err:=by unfold tc;rw[if_neg h,if_neg (by omega)]
  have hv:pA p (jW none) most p.offers.length (QL p c) 0 (uA p)=sg p c most:=rfl
  have hst:=ayN hc
  rw[hv,e]
  refine⟨by omega,by omega,⟨hc,hcl⟩,by omega,by omega,by omega,by omega,by omega,by omega,by omega,by omega,hcl,h40,by omega,⟨aHH hc hf (by omega) (by omega) (by omega),⟨by omega,by rw[e1];decide⟩,by omega⟩,λh3=>?_,λh3=>?_⟩
  ·rw[if_neg h3,if_neg h3,if_neg h3]
   exact⟨rfl,rfl,rfl⟩
  ·rw[Ψ] at h3
   rw[h3]
   exact⟨rfl,rfl,rfl⟩
noncomputable def akx:fN:=⟨24,dd×Int×Int,.cons qa (.cons (sx .i64) (.one (sx .i64))),λa=>a.1.offers.length<=40/\ -9223372036854775808<=a.2.1/\a.2.1<=9223372036854775807,
 λa=> .eW [.agg [.row (.i .i64) (DX a.1 a.2.1 a.2.2).chosen,.si .i64 (DX a.1 a.2.1 a.2.2).value],.sb (vd a.1 a.2.1 a.2.2),.si .i64 (x4 a.1 a.2.1 a.2.2)]⟩
theorem h434:Holds Tryz.prog akx:=by
 refine con (L:=[r79,amn,amk]) (W:=CN [akg,agL 161]) akx lk (XX (by simpa using⟨h439,aso 161⟩)) (by simpa using⟨h79,h315,h312⟩) ?_
 rintro⟨p,m,most⟩ ⟨h40,m0,m1⟩
 simp only at h40 m0 m1
 refine gp (let a:=(0:Int);let b:=γa .i64;let c:=(1:Int);let d:=(140737488355328:Int);let e:=SV.eW;let f:=(1000000000000:Int);let g:=γu .i64;let h:=Ξ;let j:=γL;let t:=cn.i .i64;let r:=[g 0];let l:=e [j [h t (DX p m most).chosen,b (DX p m most).value],γv (vd p m most),b (x4 p m most)];let o:=j (h t []::r);let q:=δe false;let k:=sr (jW (some m)) (lU.mk [] (m - c) false [(a,a,a,a,[])] a) (HU p (YA p));let v:=decide (fO p≠a);let w:=decide (most<c);let x:=decide ((65536:Int)<most);let y:=decide (m<=a);let n:=(↑p.offers.length:Int);let s:=δ n.toNat a;let z:=λ(u:lU) ↦let A:=decide (u.err≠a);(u.found=true->(e (j [h t u.ch,b u.val]::δe true::r)).same l)/\(u.found=false->(A=true->(e [o,q,b u.err]).same l)/\(A=false->(e (o::q::r)).same l));let B:=λ(u:Bool) ↦(!k.found)=u;True/\(v=true->(e [o,q,b (fO p)]).same l)/\(v=false->(w=true->(e [o,q,g 4]).same l)/\(w=false->(x=true->(e [o,q,g 4]).same l)/\(x=false->(y=true->(e (o::δe true::r)).same l)/\(y=false->ie .i64 (m - c)/\a<=c/\c<=c/\(56:Int)<=d/\c<=f/\a<=n/\n<=n/\n*(8:Int)<=d/\n<=f/\0=0/\p.offers.length<=40/\(YA p).length<=9223372036854775807/\1=1/\(B true->(zo (pZ.mk p k.ch k.val k.found (some m) k.prf.length n.toNat most k.err k.prf s)/\(a<=a/\a<(↑k.prf.length:Int))/\nF s<161)/\z (pA p (jW (some m)) most (nF s) k a s))/\(B false->z k)))))) (by kernel_rfl) ?_
 simp only[vcs]
 have hz:(δ ((p.offers.length:Int)).toNat 0:List Int)=uA p:=by unfold uA;rw[γm]
 have e0:sr (jW (some m)) ⟨[],m - 1,false,[(0,(0,(0,(0,[]))))],0⟩ (HU p (YA p))=QM p m:=rfl
 have en:nF (uA p)=p.offers.length:=aiw
 simp only[hz,e0,en]
 have key:∀e:Int,x4 p m most=e->vd p m most=(decide (e=0)&&(decide (m<=0)||(y5 p m most).found)):=λe h=>by unfold vd;rw[h]
 have XQ:vd p m most=false\/m<=0->DX p m most=⟨[],0⟩:=λh=>by
  unfold DX;rw[if_neg]
  rintro⟨h1,h2⟩
  rcases h with h|h
  ·rw[h] at h1;cases h1
  ·omega
 refine⟨λh=>?_,λh=>⟨λh1=>?_,λh1=>⟨λh2=>?_,λh2=>⟨λh3=>?_,λh3=>?_⟩⟩⟩⟩
 ·have e:x4 p m most=fO p:=by unfold x4;rw[if_pos h]
  have f:vd p m most=false:=by rw[key _ e,decide_eq_false h];rfl
  rw[e,f,XQ (.inl f)]
  exact⟨rfl,rfl,rfl⟩
 ·have e:x4 p m most=4:=by unfold x4;rw[if_neg h,if_pos (.inl h1)]
  have f:vd p m most=false:=by rw[key _ e];rfl
  rw[e,f,XQ (.inl f)]
  exact⟨rfl,rfl,rfl⟩
 ·have e:x4 p m most=4:=by unfold x4;rw[if_neg h,if_pos (.inr h2)]
  have f:vd p m most=false:=by rw[key _ e];rfl
  rw[e,f,XQ (.inl f)]
  exact⟨rfl,rfl,rfl⟩
 ·have e:x4 p m most=0:=by unfold x4;rw[if_neg h,if_neg (by omega),if_pos h3]
  have f:vd p m most=true:=by rw[key _ e,decide_eq_true h3];rfl
  rw[e,f,XQ (.inr h3)]
  exact⟨rfl,rfl,rfl⟩
 ·have hc:fO p=0:=Ψ.1 h
  obtain⟨e1,e2⟩:=@arR p m
  have hv:pA p (jW (some m)) most p.offers.length (QM p m) 0 (uA p)=y5 p m most:=rfl
  have hst:=ayN hc
  have hE:x4 p m most=if(y5 p m most).found=true then 0 else(y5 p m most).err:=by unfold x4;rw[if_neg h,if_neg (by omega),if_neg h3]
  have tail:((y5 p m most).found=true->(γL [Ξ (cn.i .i64) (y5 p m most).ch,γa .i64 (y5 p m most).val]).same (γL [Ξ (cn.i .i64) (DX p m most).chosen,γa .i64 (DX p m most).value])/\true=vd p m most/\0=x4 p m most)/\
    ((y5 p m most).found=false->((y5 p m most).err≠0->(γL [Ξ (cn.i .i64) [],γu .i64 0]).same (γL [Ξ (cn.i .i64) (DX p m most).chosen,γa .i64 (DX p m most).value])/\false=vd p m most/\(y5 p m most).err=x4 p m most)/\
     (¬(y5 p m most).err≠0->(γL [Ξ (cn.i .i64) [],γu .i64 0]).same (γL [Ξ (cn.i .i64) (DX p m most).chosen,γa .i64 (DX p m most).value])/\false=vd p m most/\0=x4 p m most)):=by
   refine⟨λhf=>?_,λhf=>⟨λhe=>?_,λhe=>?_⟩⟩
   ·rw[if_pos hf] at hE
    have f:vd p m most=true:=by rw[key _ hE,hf,Bool.or_true];rfl
    have a:DX p m most=⟨(y5 p m most).ch,(y5 p m most).val⟩:=by unfold DX;rw[if_pos ⟨f,by omega⟩]
    rw[hE,f,a]
    exact⟨rfl,rfl,rfl⟩
   ·rw[if_neg (by rw[hf];simp)] at hE
    have f:vd p m most=false:=by rw[key _ hE,decide_eq_false he];rfl
    rw[hE,f,XQ (.inl f)]
    exact⟨rfl,rfl,rfl⟩
   ·rw[if_neg (by rw[hf];simp),Ψ.1 he] at hE
    have f:vd p m most=false:=by rw[key _ hE,hf,decide_eq_false h3];rfl
    rw[hE,f,XQ (.inl f)]
    exact⟨rfl,rfl,rfl⟩
  rw[hv]
  refine⟨by omega,by omega,by omega,by omega,by omega,by omega,by omega,by omega,by omega,h40,by omega,λh4=>⟨⟨aHI hc (by omega) (by omega) (by omega) (by omega),⟨by omega,by rw[e1];decide⟩,by omega⟩,tail⟩,λh4=>?_⟩
  have hb:y5 p m most=QM p m:=by
   have:=akr (f:=uA p) (en:=jW (some m)) (most:=most) (a:=0) (ab7 hc) (.inr h4)
   rw[en] at this;exact this
  rw[hb] at tail;exact tail
theorem aeE {p:dd} {n:Int} (h:aaB p n=true):(p.offers.length:Int)<=n:=by
 unfold aaB at h;simp only[μ,decide_eq_true_eq] at h;omega
theorem ayO {p:dd}:lj p []=fO p:=by
 by_cases hc:fO p=0
 ·rw[hc]
  exact(agi hc).2 (apv (uw hc))
 ·unfold lj
  rw[if_pos hc]
theorem ayP {p:dd} {m:Int} (h:adV p m=true):((1+2^(p.offers.length+1):Nat):Int)<=m+2:=by
 unfold adV at h;rw[decide_eq_true_eq] at h;omega
theorem ayQ {p:dd} (h:p.offers.length<=15):((1+2^(p.offers.length+1):Nat):Int)<=65536+2:=by
 have:2^(p.offers.length+1)<=2^16:=Nat.pow_le_pow_right (by omega) (by omega)
 have h16:(2:Nat)^16=65536:=rfl
 omega
theorem anv {p:dd} (hc:fO p=0):0<=(yh p).value/\(yh p).value<=160000000:=by
 obtain⟨t,h1,h2⟩:=arO hc
 have:=agO hc h1
 omega
theorem aiB {p:dd} {c:List Int} {m:Int} (h:aam p c m=0):lj p c=0/\1<=m/\m<=65536:=by
 unfold aam at h;split at h
 ·rename_i h1;exact absurd h h1
 ·rename_i h1
  split at h
  ·cases h
  ·exact⟨Ψ.1 h1,by omega,by omega⟩
theorem ayR {p:dd} {c:List Int} {m:Int} (h:aam p c m≠0):tc p c m=aam p c m:=by
 unfold aam at h ⊢;unfold tc;split
 ·rfl
 ·rename_i h1
  rw[if_neg h1] at h;split
  ·rfl
  ·rename_i h2
   rw[if_neg h2] at h
   exact absurd rfl h
theorem aHJ {p:dd} {m k:Int} (h:aam p [] k≠0):x4 p m k=aam p [] k:=by
 unfold aam at h ⊢;unfold x4;rw[ayO] at h ⊢;split
 ·rfl
 ·rename_i h1
  rw[if_neg h1] at h;split
  ·rfl
  ·rename_i h2
   rw[if_neg h2] at h
   exact absurd rfl h
theorem ayS {p:dd} {m k:Int} (h:x4 p m k≠0):vd p m k=false:=by
 unfold vd;rw[decide_eq_false h];rfl
theorem asq {p:dd} {m k:Int} (h:vd p m k=false):DX p m k=⟨[],0⟩:=by
 unfold DX;rw[h]
 simp
theorem aHK {p:dd} {c:List Int} {m:Int} (h:aam p c m=0):tc p c m=0\/tc p c m=12:=by
 obtain⟨h1,h2,h3⟩:=aiB h
 rw[akl h1 ⟨h2,h3⟩]
 exact(aki (aa7 h1).1 h1 h2).1
theorem anw {p:dd} {c:List Int} {m:Int} (hf:lj p c=0) (h2:1<=m) (h3:m<=65536) (he:tc p c m=0):fO p=0/\lj p (sg p c m).ch=0/\qX p (sg p c m).ch=(sg p c m).val/\(sg p c m).val=(yh p).value/\(sg p c m).prf.length<=m/\BD p (yh p).value (sg p c m).prf 0 (uA p) 1 (sg p c m).prf.length/\(qX p c=(yh p).value->(sg p c m).ch=c)/\(sg p c m).ch.length<=160/\qX p c<=(yh p).value:=by
 have hc:=(aa7 hf).1
 rw[akl hf ⟨h2,h3⟩] at he
 obtain⟨⟨a1,a2⟩,a3,a4,a5,a6⟩:=(aki hc hf h2).2.1 he
 exact⟨hc,a1,a2,a3,a4,a5,a6,(agO hc a1).2.2,akh hc hf⟩
theorem aHL:tc three [0] 100=0/\(sg three [0] 100).ch=[1,2]/\(sg three [0] 100).val=12/\(sg three [0] 100).prf.length<=100/\BD three 12 (sg three [0] 100).prf 0 (uA three) 1 (sg three [0] 100).prf.length:=by
 have hf:lj three [0]=0:=by kernel_rfl
 have h0:tc three [0] 100=0:=akm adW hf (by decide) (by decide)
 have he:(sg three [0] 100).err=0:=by rw[<-akl hf (m:=100) (by decide)];exact h0
 obtain⟨⟨a1,a2⟩,a3,a4,a5,_⟩:=(aki adW hf (most:=100) (by decide)).2.1 he
 rw[arU] at a3 a5
 have h1:(sg three [0] 100).ch=[1,2]:=ayw a1 (by rw[a2,a3];decide)
 exact⟨h0,h1,a3,by omega,a5⟩
theorem aHM:tc zP [] 1=0/\(sg zP [] 1).ch=[]/\(sg zP [] 1).val=0/\(sg zP [] 1).prf.length<=1/\BD zP 0 (sg zP [] 1).prf 0 (uA zP) 1 (sg zP [] 1).prf.length:=by
 have hf:lj zP []=0:=by kernel_rfl
 have h0:tc zP [] 1=0:=akm arV hf (by decide) (by decide)
 have he:(sg zP [] 1).err=0:=by rw[<-akl hf (m:=1) (by decide)];exact h0
 obtain⟨⟨a1,a2⟩,a3,a4,a5,_⟩:=(aki arV hf (most:=1) (by decide)).2.1 he
 rw[aGV] at a3 a5
 exact⟨h0,aGW a1,a3,by omega,a5⟩
theorem aHN:x4 three 11 100=0/\vd three 11 100=true/\(DX three 11 100).value=12:=by
 have h0:x4 three 11 100=0:=anm adW (by decide) (by decide)
 have h1:vd three 11 100=true:=(akn adW h0).2 (by rw[arU];decide)
 obtain⟨a1,a2,a3⟩:=arT adW h1 (by decide)
 have h2:=ayw a1 (by rw[a2];exact a3)
 refine⟨h0,h1,?_⟩
 rw[<-a2,h2]
 kernel_rfl
theorem aHO:x4 three 13 100=0/\vd three 13 100=false:=by
 have h0:x4 three 13 100=0:=anm adW (by decide) (by decide)
 refine⟨h0,?_⟩
 cases h:vd three 13 100 with
 |false=>rfl
 |true=>
  have:=(akn adW h0).1 h
  rw[arU] at this;omega
def agQ:fN:=⟨15,Unit,.nil,λ_=>True,λ_=> .sb true⟩
theorem h428:Holds Tryz.prog agQ:=by
 refine kh (L:=[r60,agP,akw,akj,akx]) agQ lk (by simpa using⟨h60,h429,h432,h433,h434⟩) ?_
 rintro⟨⟩ -
 refine gp (let a:=(0:Int);let b:=δe false;let c:=γv;let d:=(100:Int);let e:=(-9223372036854775808:Int);let f:=(9223372036854775807:Int);let g:=(1:Int);let h:=(11:Int);let i:=(12:Int);let j:=(1000000000:Int);let k:=(13:Int);let n:=fZ.mk a a a a a a;let l:=dd.mk n n n [] [];let r:=sg l [] g;let m:=tc three [a] d;let o:=sg three [a] d;let s:=if m=a then o.ch else[];let t:=decide (m≠a);let p:=if m=a then o.prf else[];let v:=decide (x4 three h d=a);let w:=vd three h d;let x:=decide ((DX three h d).value=i);let y:=decide (x4 three k d=a);let z:=!vd three k d;let F:=λ(u:dd) (u_1:Int) (u_2:List Int) (u_3 u_4:Int) ↦let q:=if tc u u_2 u_3=a then(sg u u_2 u_3).prf else[];(fO u=a/\BD u u_1 q 0 (uA u) 1 q.length)/\(a<=u_1/\u_1<=j)/\q.length<=65536;let A:=λ(u:Bool) ↦decide ((↑(if tc l [] g=a then r.ch else[]).length:Int)=a)=u;let B:=λ(u:Bool) ↦decide ((if tc l [] g=a then r.val else a)=a)=u;let C:=λ(u:Bool) ↦decide ((if m=a then o.val else a)≠i)=u;let D:=λ(u:Bool) ↦decide (tc l [] g=a)=u;let E:=λ(u:Bool) ↦(!eqB s [g,(2:Int)])=u;True/\(three.offers.length<=40/\1<=9223372036854775807)/\True/\(three.offers.length<=40/\0<=9223372036854775807)/\True/\(three.offers.length<=40/\2<=9223372036854775807)/\True/\(three.offers.length<=40/\e<=h/\h<=f)/\True/\(three.offers.length<=40/\e<=k/\k<=f)/\(0<=40/\0<=9223372036854775807)/\(t=true->(b).same (c true))/\(t=false->(s.length<=9223372036854775807/\2<=9223372036854775807)/\(E true->(b).same (c true))/\(E false->(C true->(b).same (c true))/\(C false->True/\((fO three=a/\BD three i p 0 (uA three) 1 p.length)/\(a<=i/\i<=j)/\p.length<=65536)/\(false=true->(b).same (c true))/\(false=false->(false=true->(b).same (c true))/\(false=false->(false=true->(b).same (c true))/\(false=false->(v=true->(w=true->(x=true->(y=true->(z=true->(D true->(A true->(B true->F l a [] g a/\(c true).same (c true))/\(B false->(b).same (c true)))/\(A false->(b).same (c true)))/\(D false->(b).same (c true)))/\(z=false->(b).same (c true)))/\(y=false->(b).same (c true)))/\(x=false->(b).same (c true)))/\(w=false->(b).same (c true)))/\(v=false->(b).same (c true))))))))) (by kernel_rfl) ?_
 simp only[vcs]
 obtain⟨a1,a2,a3,a4,a5⟩:=aHL
 obtain⟨b1,b2,b3,b4,b5⟩:=aHM
 obtain⟨c1,c2,c3⟩:=aHN
 obtain⟨d1,d2⟩:=aHO
 have hz:(⟨⟨0,0,0,0,0,0⟩,⟨0,0,0,0,0,0⟩,⟨0,0,0,0,0,0⟩,[],[]⟩:dd)=zP:=rfl
 have hl:three.offers.length=3:=rfl
 simp only[hz,a1,if_true,b1,hl];rw[a2,a3,b2,b3]
 have he:eqB [1,2] [1,2]=true:=by decide
 refine⟨⟨by omega,by omega⟩,⟨by omega,by omega⟩,⟨by omega,by omega⟩,⟨by omega,by omega,by omega⟩,⟨by omega,by omega,by omega⟩,⟨by omega,by omega⟩,λh=>absurd rfl h,λ_=>⟨⟨by decide,by omega⟩,(λh=>by rw[he] at h;cases h),λ_=>⟨λh=>absurd rfl h,λ_=>⟨⟨⟨adW,a5⟩,⟨by omega,by omega⟩,by omega⟩,λh=>h,λ_=>⟨λh=>h,λ_=>⟨λh=>h,λ_=>?_⟩⟩⟩⟩⟩⟩
 refine⟨λ_=>⟨λ_=>⟨λ_=>⟨λ_=>⟨λ_=>⟨λ_=>⟨λ_=>⟨λ_=>⟨⟨arV,b5⟩,⟨by omega,by omega⟩,by omega⟩,(λh=>by first|exact absurd rfl h|exact absurd trivial h)⟩,(λh=>by first|exact absurd rfl h|exact absurd trivial h)⟩,(λh=>by first|exact absurd rfl h|exact absurd trivial h)⟩,(λh=>by rw[d2] at h;cases h)⟩,λh=>absurd d1 h⟩,λh=>absurd c3 h⟩,(λh=>by rw[c2] at h;cases h)⟩,λh=>absurd c1 h⟩
def asr:fN:=⟨4,dd×List Int×Int,.cons qa (.cons (mA (.i .i64)) (.one (sx .i64))),λa=>a.2.1.length<=9223372036854775807,λ_=> .sb true⟩
theorem h420:Holds Tryz.prog asr:=by
 refine kh (L:=[r59,agQ,agP,anl,r431,r25,r55,r58,akw,akj]) asr lk (by simpa using⟨h59,h428,h429,h430,h431,h25,h55,h58,h432,h433⟩) ?_
 rintro⟨p,c,most⟩ (hcl:c.length<=9223372036854775807)
 refine gp (let a:=δe false;let b:=γv;let d:=(0:Int);let e:=tc p c most;let i:=sg p c most;let f:=if e=d then i.prf else[];let l:=decide ((↑f.length:Int)=d);let g:=if e=d then i.ch else[];let m:=decide ((↑g.length:Int)=d);let j:=if e=d then i.val else d;let n:=decide (j=d);let h:=(yh p).value;let o:=decide ((20:Int)<(↑c.length:Int));let q:=decide (aam p c most≠d);let r:=decide (e=aam p c most);let s:=decide (e=(12:Int));let t:=decide (e≠d);let v:=decide (qX p c≠h);let w:=l=false;let x:=l=true;let y:=m=false;let z:=m=true;let A:=n=true;let B:=n=false;let k:=g.length<=9223372036854775807;let C:=λ(u:Bool) ↦decide (qX p g≠j)=u;let D:=λ(u:Bool) ↦decide (lj p g≠d)=u;let E:=λ(u:Bool) ↦decide (j≠h)=u;let F:=λ(u:Bool) ↦decide (most<(↑f.length:Int))=u;let G:=λ(u:Bool) ↦eqB g c=u;True/\((!aaB p (9:Int))=true->True/\(b true).same (b true))/\((!aaB p (9:Int))=false->(o=true->True/\(b true).same (b true))/\(o=false->(p.offers.length<=40/\c.length<=9223372036854775807)/\c.length<=9223372036854775807/\(q=true->(r=true->(z->(A->(x->True/\(b true).same (b true))/\(w->(a).same (b true)))/\(B->(a).same (b true)))/\(y->(a).same (b true)))/\(r=false->(a).same (b true)))/\(q=false->(s=true->p.offers.length<=15/\((!adV p most)=true->(z->(A->(x->True/\(b true).same (b true))/\(w->(a).same (b true)))/\(B->(a).same (b true)))/\(y->(a).same (b true)))/\((!adV p most)=false->(a).same (b true)))/\(s=false->Good p/\(t=true->(a).same (b true))/\(t=false->k/\(D true->(a).same (b true))/\(D false->k/\(C true->(a).same (b true))/\(C false->(E true->(a).same (b true))/\(E false->(F true->(a).same (b true))/\(F false->((fO p=d/\BD p h f 0 (uA p) 1 f.length)/\(d<=h/\h<=(1000000000:Int))/\f.length<=65536)/\(false=true->(a).same (b true))/\(false=false->c.length<=9223372036854775807/\(v=true->True/\(b true).same (b true))/\(v=false->(k/\c.length<=9223372036854775807)/\(G true->True/\(b true).same (b true))/\(G false->(a).same (b true)))))))))))))) (by kernel_rfl) ?_
 simp only[vcs]
 refine⟨λ_=>trivial,λh9=>⟨λ_=>trivial,λh20=>⟨⟨by have:=aeE h9;omega,hcl⟩,hcl,λhw=>?_,λhw=>⟨λh12=>⟨by have:=aeE h9;omega,λhno=>?_,λhen=>?_⟩,λh12=>?_⟩⟩⟩⟩
 ·have e:=ayR hw
  have hne:tc p c most≠0:=by rw[e];exact hw
  rw[if_neg hne,if_neg hne,if_neg hne]
  exact⟨λ_=>⟨λ_=>⟨λ_=>⟨λ_=>trivial,λh=>absurd rfl h⟩,λh=>absurd rfl h⟩,λh=>absurd rfl h⟩,λh=>absurd e h⟩
 ·have hne:tc p c most≠0:=by rw[h12];decide
  rw[if_neg hne,if_neg hne,if_neg hne]
  exact⟨λ_=>⟨λ_=>⟨λ_=>trivial,λh=>absurd rfl h⟩,λh=>absurd rfl h⟩,λh=>absurd rfl h⟩
 ·obtain⟨f1,f2,f3⟩:=aiB (Ψ.1 hw)
  have:=akm (aa7 f1).1 f1 f3 (ayP hen)
  rw[this] at h12;cases h12
 ·have hfa:=Ψ.1 hw
  obtain⟨f1,f2,f3⟩:=aiB hfa
  have he:tc p c most=0:=by
   rcases aHK hfa with h|h
   ·exact h
   ·exact absurd h h12
  obtain⟨hc,a1,a2,a3,a4,a5,a6,a7,a8⟩:=anw f1 f2 f3 he
  obtain⟨b0,b1⟩:=anv hc
  simp only[he,if_true]
  refine⟨uw hc,λh=>absurd rfl h,λ_=>⟨by omega,λh=>absurd a1 h,λ_=>⟨by omega,λh=>absurd a2 h,λ_=>⟨λh=>absurd a3 h,λ_=>⟨λh=>absurd h (by omega),λ_=>⟨⟨⟨hc,a5⟩,⟨b0,by omega⟩,by omega⟩,λh=>h,λ_=>⟨hcl,λ_=>trivial,λhv=>⟨⟨by omega,hcl⟩,λ_=>trivial,λh=>?_⟩⟩⟩⟩⟩⟩⟩⟩
  rw[a6 (Ψ.1 hv)] at h;unfold eqB at h;simp at h
def asu:fN:=⟨5,dd×Int×Int,.cons qa (.cons (sx .i64) (.one (sx .i64))),λa=> -9223372036854775808<=a.2.1/\a.2.1<=9223372036854775807,λ_=> .sb true⟩
theorem h421:Holds Tryz.prog asu:=by
 refine kh (L:=[r59,agQ,anl,r431,r25,r55,r58,akx]) asu lk (by simpa using⟨h59,h428,h430,h431,h25,h55,h58,h434⟩) ?_
 rintro⟨p,m,most⟩ ⟨m0,m1⟩
 simp only at m0 m1
 refine gp (let a:=δe false;let b:=γv;let c:=(0:Int);let h:=decide (aam p [] most≠c);let g:=x4 p m most;let i:=decide (g=aam p [] most);let e:=(DX p m most).chosen;let d:=decide ((↑e.length:Int)=c);let j:=decide (g=(12:Int));let k:=decide (g≠c);let l:=!vd p m most==decide (m<=(yh p).value);let f:=(DX p m most).value;let n:=decide (f=c);let o:=decide (lj p e=c);let q:=decide (qX p e=f);True/\((!aaB p (9:Int))=true->True/\(b true).same (b true))/\((!aaB p (9:Int))=false->(p.offers.length<=40/\(-9223372036854775808:Int)<=m/\m<=(9223372036854775807:Int))/\0<=9223372036854775807/\(h=true->(i=true->((!vd p m most)=true->(d=true->True/\(b true).same (b true))/\(d=false->(a).same (b true)))/\((!vd p m most)=false->(a).same (b true)))/\(i=false->(a).same (b true)))/\(h=false->(j=true->p.offers.length<=15/\((!adV p most)=true->((!vd p m most)=true->(d=true->True/\(b true).same (b true))/\(d=false->(a).same (b true)))/\((!vd p m most)=false->(a).same (b true)))/\((!adV p most)=false->(a).same (b true)))/\(j=false->(k=true->(a).same (b true))/\(k=false->Good p/\(l=true->(a).same (b true))/\(l=false->((!vd p m most)=true->(d=true->(n=true->True/\(b true).same (b true))/\(n=false->(a).same (b true)))/\(d=false->(a).same (b true)))/\((!vd p m most)=false->e.length<=9223372036854775807/\(o=true->e.length<=9223372036854775807/\(q=true->(decide (m<=f)=true->True/\(b true).same (b true))/\(decide (m<=f)=false->(a).same (b true)))/\(q=false->(a).same (b true)))/\(o=false->(a).same (b true))))))))) (by kernel_rfl) ?_
 simp only[vcs]
 refine⟨λ_=>trivial,λh9=>⟨⟨by have:=aeE h9;omega,m0,m1⟩,by omega,λhw=>?_,λhw=>⟨λh12=>⟨by have:=aeE h9;omega,λhno=>?_,λhen=>?_⟩,λh12=>?_⟩⟩⟩
 ·have e:=aHJ (m:=m) hw
  have hne:x4 p m most≠0:=by rw[e];exact hw
  have hf:=ayS hne
  rw[asq hf,hf]
  exact⟨λ_=>⟨λ_=>⟨λ_=>trivial,λh=>absurd rfl h⟩,λh=>h⟩,λh=>absurd e h⟩
 ·have hne:x4 p m most≠0:=by rw[h12];decide
  have hf:=ayS hne
  rw[asq hf,hf]
  exact⟨λ_=>⟨λ_=>trivial,λh=>absurd rfl h⟩,λh=>h⟩
 ·obtain⟨f1,f2,f3⟩:=aiB (Ψ.1 hw)
  have:=anm (m:=m) (aa7 f1).1 f3 (ayP hen)
  rw[this] at h12;cases h12
 ·have hfa:=Ψ.1 hw
  obtain⟨f1,f2,f3⟩:=aiB hfa
  have hc:=(aa7 f1).1
  have he:x4 p m most=0:=by
   have h1:=(@arS p hc m most).1
   have h2:x4 p m most=if m<=0 then 0 else if(y5 p m most).found=true then 0 else(y5 p m most).err:=by unfold x4;rw[if_neg (by rw[hc];simp),if_neg (by omega)]
   rw[h2] at h12 ⊢;split
   ·rfl
   ·rename_i h3
    rw[if_neg h3] at h12;split
    ·rfl
    ·rename_i h4
     rw[if_neg h4] at h12
     rcases h1 with h|h
     ·exact h
     ·exact absurd h h12
  have hi:=akn hc he
  obtain⟨b0,b1⟩:=anv hc
  refine⟨λh=>absurd he h,λ_=>⟨uw hc,λh=>?_,λ_=>⟨λhf=>?_,λhf=>?_⟩⟩⟩
  ·have:vd p m most=decide (m<=(yh p).value):=by rw[Bool.eq_iff_iff,hi,decide_eq_true_eq]
   rw[this] at h;simp at h
  ·rw[asq hf]
   exact⟨λ_=>⟨λ_=>trivial,λh=>absurd rfl h⟩,λh=>absurd rfl h⟩
  ·by_cases hm:0<m
   ·obtain⟨a1,a2,a3⟩:=arT hc hf hm
    have a4:=(agO hc a1).2.2
    exact⟨by omega,λ_=>⟨by omega,λ_=>⟨λ_=>trivial,λh=>absurd a3 h⟩,λh=>absurd a2 h⟩,λh=>absurd a1 h⟩
   ·have ha:DX p m most=⟨[],0⟩:=by
     unfold DX;rw[if_neg (λh=>hm h.2)]
    have hv:qX p []=0:=by rw[aDh hc (apv (uw hc))];rfl
    rw[ha]
    exact⟨by simp,λ_=>⟨by simp,λ_=>⟨λ_=>trivial,λh=>absurd (by simp only;omega) h⟩,λh=>absurd hv h⟩,λh=>absurd f1 h⟩
def asv:fN:=⟨6,dd×List Int×List Int,.cons qa (.cons (mA (.i .i64)) (.one (mA (.i .i64)))),λa=>a.2.1.length<=9223372036854775807/\a.2.2.length<=9223372036854775807,λ_=> .sb true⟩
theorem h422:Holds Tryz.prog asv:=by
 refine kh (L:=[r59,agQ,agP,r55,r58,akw]) asv lk (by simpa using⟨h59,h428,h429,h55,h58,h432⟩) ?_
 rintro⟨p,c,d⟩ ⟨hcl,hdl⟩
 simp only at hcl hdl
 refine gp (let a:=(0:Int);let b:=δe false;let e:=γv;let f:=(65536:Int);let i:=sg p c f;let j:=if tc p c f=a then i.ch else[];let g:=if tc p c f=a then i.val else a;let l:=decide (lj p c≠a);let m:=decide (lj p d≠a);let n:=decide (tc p c f=a);let k:=if tc p c f=a then i.prf else[];let o:=j.length<=9223372036854775807;let q:=λ(u:Bool) ↦decide (qX p j=g)=u;let r:=λ(u:Bool) ↦decide (lj p j=a)=u;let h:=λ(u:List Int) (u_1:Bool) ↦decide (qX p u<=g)=u_1;True/\((!aaB p (13:Int))=true->True/\(e true).same (e true))/\((!aaB p (13:Int))=false->c.length<=9223372036854775807/\(l=true->True/\(e true).same (e true))/\(l=false->d.length<=9223372036854775807/\(m=true->True/\(e true).same (e true))/\(m=false->(p.offers.length<=40/\c.length<=9223372036854775807)/\(n=true->o/\(r true->o/\(q true->d.length<=9223372036854775807/\(h d true->c.length<=9223372036854775807/\(h c true->((fO p=a/\BD p g k 0 (uA p) 1 k.length)/\(a<=g/\g<=(1000000000:Int))/\k.length<=65536)/\(true=true->True/\(e true).same (e true))/\(true=false->(b).same (e true)))/\(h c false->(b).same (e true)))/\(h d false->(b).same (e true)))/\(q false->(b).same (e true)))/\(r false->(b).same (e true)))/\(n=false->(b).same (e true)))))) (by kernel_rfl) ?_
 simp only[vcs]
 refine⟨λ_=>trivial,λh9=>⟨hcl,λ_=>trivial,λhf=>⟨hdl,λ_=>trivial,λhg=>⟨⟨by have:=aeE h9;omega,hcl⟩,?_⟩⟩⟩⟩
 have f1:=Ψ.1 hf
 have f2:=Ψ.1 hg
 have hc:=(aa7 f1).1
 have he:tc p c 65536=0:=akm hc f1 (by omega) (ayQ (by have:=aeE h9;omega))
 obtain⟨_,a1,a2,a3,a4,a5,a6,a7,a8⟩:=anw f1 (by omega) (by omega) he
 obtain⟨b0,b1⟩:=anv hc
 have hd:=akh hc f2
 simp only[he,if_true];rw[a3] at a2 ⊢
 exact⟨λ_=>⟨by omega,λ_=>⟨by omega,λ_=>⟨hdl,λ_=>⟨hcl,λ_=>⟨⟨⟨hc,a5⟩,⟨b0,by omega⟩,by omega⟩,λ_=>trivial,(λh=>by cases h)⟩,λh=>absurd a8 h⟩,λh=>absurd hd h⟩,λh=>absurd a2 h⟩,λh=>absurd a1 h⟩,λh=>absurd trivial h⟩
def asw:fN:=⟨7,dd,.one qa,λ_=>True,λ_=> .sb true⟩
theorem h423:Holds Tryz.prog asw:=by
 refine kh (L:=[r24,r59,agQ,agP,akx]) asw lk (by simpa using⟨h24,h59,h428,h429,h434⟩) ?_
 rintro(p:dd) -
 refine gp (let a:=(65536:Int);let b:=δe false;let c:=(-9223372036854775808:Int);let d:=(9223372036854775807:Int);let e:=γv;let f:=(0:Int);let g:=if tc p [] a=f then(sg p [] a).val else f;let h:=g+(1:Int);let i:=decide (fO p≠f);let j:=decide (tc p [] a=f);let k:=λ(u:Bool) ↦decide ((DX p g a).value=g)=u;let l:=λ(u:Bool) ↦decide (x4 p h a=f)=u;let m:=λ(u:Bool) ↦decide (x4 p g a=f)=u;let n:=λ(u:Bool) ↦(!vd p h a)=u;let o:=λ(u:Bool) ↦vd p g a=u;True/\((!aaB p (12:Int))=true->True/\(e true).same (e true))/\((!aaB p (12:Int))=false->True/\(i=true->True/\(e true).same (e true))/\(i=false->(p.offers.length<=40/\0<=9223372036854775807)/\(p.offers.length<=40/\c<=g/\g<=d)/\ie .i64 h/\(p.offers.length<=40/\c<=h/\h<=d)/\(j=true->(m true->(l true->(o true->(n true->(k true->True/\(e true).same (e true))/\(k false->(b).same (e true)))/\(n false->(b).same (e true)))/\(o false->(b).same (e true)))/\(l false->(b).same (e true)))/\(m false->(b).same (e true)))/\(j=false->(b).same (e true))))) (by kernel_rfl) ?_
 simp only[vcs]
 refine⟨λ_=>trivial,λh9=>⟨λ_=>trivial,λhc=>?_⟩⟩
 have hc:fO p=0:=Ψ.1 hc
 have hl:=aeE h9
 have f1:lj p []=0:=by rw[ayO];exact hc
 have hr:=ayQ (p:=p) (by omega)
 have he:tc p [] 65536=0:=akm hc f1 (by omega) hr
 obtain⟨_,a1,a2,a3,a4,a5,a6,a7,a8⟩:=anw f1 (by omega) (by omega) he
 obtain⟨b0,b1⟩:=anv hc
 have e1:∀m,x4 p m 65536=0:=λm=>anm hc (by omega) hr
 have i1:=akn hc (e1 (yh p).value)
 have i2:=akn hc (e1 ((yh p).value+1))
 simp only[he,if_true];rw[a3]
 have k1:vd p (yh p).value 65536=true:=i1.2 (by omega)
 have k2:vd p ((yh p).value+1) 65536=false:=by
  cases h:vd p ((yh p).value+1) 65536 with
  |false=>rfl
  |true=>have:=i2.1 h;omega
 have k3:(DX p (yh p).value 65536).value=(yh p).value:=by
  by_cases hm:0<(yh p).value
  ·obtain⟨c1,c2,c3⟩:=arT hc k1 hm
   have:=akh hc c1
   omega
  ·have ha:DX p (yh p).value 65536=⟨[],0⟩:=by
    unfold DX;rw[if_neg (λh=>hm h.2)]
   rw[ha]
   simp only
   omega
 rw[k1,k2]
 refine⟨⟨by omega,by omega⟩,⟨by omega,by omega,by omega⟩,⟨by omega,by omega⟩,⟨by omega,by omega,by omega⟩,λ_=>⟨λ_=>⟨λ_=>⟨λ_=>⟨λ_=>⟨λ_=>trivial,λh=>absurd k3 h⟩,(λh=>by cases h)⟩,(λh=>by cases h)⟩,λh=>absurd (e1 _) h⟩,λh=>absurd (e1 _) h⟩,λh=>absurd trivial h⟩
def asx:fN:=⟨8,dd×Alloc×Int,.cons qa (.cons Xh (.one (sx .i64))),λa=>a.2.1.chosen.length<=9223372036854775807,λ_=> .sb true⟩
theorem h424:Holds Tryz.prog asx:=by
 refine kh (L:=[r59,agQ,agP,akj]) asx lk (by simpa using⟨h59,h428,h429,h433⟩) ?_
 rintro⟨p,⟨c,v⟩,most⟩ (hcl:c.length<=9223372036854775807)
 refine gp (let a:=(0:Int);let b:=γv;let d:=δe false;let e:=tc p c most;let f:=sg p c most;let g:=decide ((20:Int)<(↑c.length:Int));let h:=decide (e≠a);let i:=λ(u:Bool) ↦decide ((↑(if e=a then f.prf else[]).length:Int)=(↑(if e=a then f.prf else[]).length:Int))=u;let j:=λ(u:Bool) ↦decide ((if e=a then f.val else a)=if e=a then f.val else a)=u;let k:=λ(u:Bool) ↦eqB (if e=a then f.ch else[]) (if e=a then f.ch else[])=u;let l:=λ(u:Int) ↦(if e=a then f.ch else[]).length<=9223372036854775807;True/\((!aaB p (9:Int))=true->True/\(b true).same (b true))/\((!aaB p (9:Int))=false->(g=true->True/\(b true).same (b true))/\(g=false->(p.offers.length<=40/\c.length<=9223372036854775807)/\(p.offers.length<=40/\c.length<=9223372036854775807)/\(decide (e≠e)=true->(decide (e=e)=true->True/\(b true).same (b true))/\(decide (e=e)=false->(d).same (b true)))/\(decide (e≠e)=false->(h=true->(decide (e=e)=true->True/\(b true).same (b true))/\(decide (e=e)=false->(d).same (b true)))/\(h=false->(l v/\l a)/\(k true->(j true->(i true->True/\(b true).same (b true))/\(i false->(d).same (b true)))/\(j false->(d).same (b true)))/\(k false->(d).same (b true))))))) (by kernel_rfl) ?_
 simp only[vcs]
 have he:∀l:List Int,eqB l l=true:=λl=>by unfold eqB;simp
 refine⟨λ_=>trivial,λh9=>⟨λ_=>trivial,λh20=>⟨⟨by have:=aeE h9;omega,hcl⟩,⟨by have:=aeE h9;omega,hcl⟩,λh=>absurd rfl h,λ_=>⟨λ_=>⟨λ_=>trivial,λh=>absurd trivial h⟩,λhs=>⟨?_,λ_=>⟨λ_=>⟨λ_=>trivial,λh=>absurd trivial h⟩,λh=>absurd trivial h⟩,(λh=>by rw[he] at h;cases h)⟩⟩⟩⟩⟩
 have hs:tc p c most=0:=Ψ.1 hs
 have hfa:aam p c most=0:=Classical.byContradiction λh=>h (by rw[<-ayR h];exact hs)
 obtain⟨f1,f2,f3⟩:=aiB hfa
 obtain⟨_,a1,a2,a3,a4,a5,a6,a7,a8⟩:=anw f1 f2 f3 hs
 simp only[hs,if_true]
 exact⟨by omega,by omega⟩
end Go.Vi
