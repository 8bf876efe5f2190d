/-
  Contracts: fractions in lowest terms (the reference), small payments; the law of the coalitions that block.
  Conditions: none.
-/
import Derived.Test.YtigbjjkijfkeeaaGreatRA06
import Derived.Test.YtigbjjkijfkeeaaGreatRA07
import Derived.Test.YtigbjjkijfkeeaaGreatRA08
import Derived.Test.YtigbjjkijfkeeaaGreatRA09
import Derived.Test.YtigbjjkijfkeeaaGreatRA10
set_option maxRecDepth 100000
set_option maxHeartbeats 4000000
set_option linter.unusedSimpArgs false
set_option linter.unusedVariables false
namespace Go.Vi
open Go.Proofs.YtigbjjkijfkeeaaGreat.Ir
open Go.Proofs
theorem natL_one {g:Int} (h:0≤g):natL g=[1]↔g=1:=by
 constructor
 ·intro hg
  have:=(natL_ok h).1
  rw[hg] at this
  simp[valN] at this
  omega
 ·rintro rfl
  rfl
theorem val_pos {a:List Int} (h:Dig a) (hn:Nrm a) (hne:a≠[]):0<valN a:=by
 have:=val_nonneg h
 by_cases hz:valN a=0
 ·exact absurd (val_zero h hn hz) hne
 ·omega
def okF (x:Fra):Bool:=decide (frE (valF x)=x)
theorem gcdN_pos {n d:Int} (h:0<d):0<gcdN n d:=by
 unfold gcdN
 have:0<Nat.gcd n.toNat d.toNat:=Nat.gcd_pos_of_pos_right _ (by omega)
 omega
theorem okF_nrm {s:Bool} {n d:List Int} (h:okF (s,(n,d))=true):Nrm n∧Nrm d∧d≠[]:=by
 have h:=of_decide_eq_true h
 have h1:=natL_ok (show(0:Int)≤((valF (s,(n,d))).num.natAbs:Int) by omega)
 have h2:=natL_ok (show(0:Int)≤((valF (s,(n,d))).den:Int) by omega)
 have e1:natL ((valF (s,(n,d))).num.natAbs:Int)=n:=congrArg (fun x=>x.2.1) h
 have e2:natL ((valF (s,(n,d))).den:Int)=d:=congrArg (fun x=>x.2.2) h
 rw[e1] at h1
 rw[e2] at h2
 refine⟨h1.2.2,h2.2.2,fun hd=>?_⟩
 have h3:=h2.1
 rw[hd] at h3
 have:=(valF (s,(n,d))).den_pos
 simp only[valN] at h3
 rw[hd] at this
 omega
theorem okF_eq {s:Bool} {n d:List Int} (hn:Dig n) (hd:Dig d) (nn:Nrm n) (nd:Nrm d) (hd0:d≠[]):
  okF (s,(n,d))=if n=[] then !s&&decide (d=[1]) else decide (gcdN (valN n) (valN d)=1):=by
 have dp:=val_pos hd nd hd0
 have n0:=val_nonneg hn
 have hv:valF (s,(n,d))=mkRat (if s then -valN n else valN n) (valN d).toNat:=rfl
 have hm:=@frE_mk s (valN n) (valN d) n0 dp
 have gp:=@gcdN_pos (valN n) (valN d) dp
 unfold okF
 rw[hv,hm]
 by_cases h0:n=[]
 ·rw[if_pos h0,h0]
  have hg:gcdN (valN []) (valN d)=valN d:=by unfold gcdN;simp[valN];omega
  have e1:natL (valN d / gcdN (valN []) (valN d))=[1]:=by rw[hg,Int.ediv_self (by omega)];rfl
  have e2:natL (valN [] / gcdN (valN []) (valN d))=[]:=by
   have:valN []=0:=rfl
   rw[this,Int.zero_ediv];rfl
  rw[e1,e2]
  have e3:decide (0<valN [])=false:=rfl
  rw[e3,Bool.and_false]
  rw[Bool.eq_iff_iff,Bool.and_eq_true,decide_eq_true_eq,decide_eq_true_eq,Bool.not_eq_true']
  constructor
  ·intro h
   injection h with h1 h2
   injection h2 with h2 h3
   exact⟨h1.symm,h3.symm⟩
  ·rintro⟨h1,h2⟩
   rw[h1,h2]
 ·rw[if_neg h0]
  have np:=val_pos hn nn h0
  rw[decide_eq_true (show 0<valN n from np),Bool.and_true]
  rw[Bool.eq_iff_iff,decide_eq_true_eq,decide_eq_true_eq]
  constructor
  ·intro h
   injection h with h1 h2
   injection h2 with h2 h3
   have h4:=(natL_ok (show 0≤valN d / gcdN (valN n) (valN d) from Int.ediv_nonneg (by omega) (by omega))).1
   rw[h3] at h4
   by_cases h5:gcdN (valN n) (valN d)=1
   ·exact h5
   ·have:=Int.ediv_lt_self_of_pos_of_ne_one dp (by omega:gcdN (valN n) (valN d)≠1)
    omega
  ·intro h
   rw[h,Int.ediv_one,Int.ediv_one,natL_val hn nn,natL_val hd nd]
def r93:SCtr:=⟨11,Fra,.one (codE sF),fun x=>(Dig x.2.1∧Dig x.2.2)∧x.2.1.length≤1000000∧x.2.2.length≤1000000,fun x=> .sb (okF x)⟩
theorem h93:Holds Tryz.prog r93:=by
 refine con (L:=[r124,r125]) r93 F93 (fun _ _=> .look) (OwnOK.none _) (by simpa using⟨h124,h125⟩) (by kernel_rfl) (by kernel_rfl) (fun _=>rfl) ?_
 rintro⟨s,n,d⟩ ⟨⟨hn,hd⟩,hl1,hl2⟩
 refine vcOf (let z0:=SV.sb (okF (s,n,d));let z1:=(↑d.length:Int);let z2:=decide (z1=(0:Int));let z3:=decide ((↑n.length:Int)=(0:Int));let z4:=decide (z1=(1:Int));let z5:=natL (gcdN (valN n) (valN d));let z6:=decide ((↑z5.length:Int)=(1:Int));n.length≤1000000000∧((!nrmB n)=true→(SV.bl false).same z0)∧((!nrmB n)=false→d.length≤1000000000∧((!nrmB d)=true→(SV.bl false).same z0)∧((!nrmB d)=false→(z2=true→(SV.bl false).same z0)∧(z2=false→(z3=true→((!s)=true→(z4=true→(0:Int)≤(0:Int)∧(0:Int)<z1∧0<d.length∧(SV.sb (decide (nthD d 0 (0:Int)=(1:Int)))).same z0)∧(z4=false→(SV.bl false).same z0))∧((!s)=false→(SV.bl false).same z0))∧(z3=false→((Dig n∧Dig d)∧(n.length≤100000000∧d.length≤100000000)∧Nrm d)∧(z6=true→(0:Int)≤(0:Int)∧(0:Int)<(↑z5.length:Int)∧0<z5.length∧(SV.sb (decide (nthD z5 0 (0:Int)=(1:Int)))).same z0)∧(z6=false→(SV.bl false).same z0)))))) (by kernel_rfl) ?_
 simp only[vcs]
 have hn:Dig n:=hn
 have hd:Dig d:=hd
 have hl1:n.length≤1000000:=hl1
 have hl2:d.length≤1000000:=hl2
 have nope:¬(Nrm n∧Nrm d∧d≠[])→false=okF (s,n,d):=fun h=>by
  cases hb:okF (s,n,d) with
  |false=>rfl
  |true=>exact absurd (okF_nrm hb) h
 have nil_of:∀{a:List Int},((a.length:Nat):Int)=0→a=[]:=fun h=>List.eq_nil_of_length_eq_zero (by omega)
 have ne_of:∀{a:List Int},¬((a.length:Nat):Int)=0→a≠[]:=fun h h2=>h (by rw[h2];rfl)
 refine⟨by omega,fun h1=>nope fun h=>?_,fun h1=>⟨by omega,fun h2=>nope fun h=>?_,fun h2=>⟨fun h3=>nope fun h=>h.2.2 (nil_of h3),fun h3=>?_⟩⟩⟩
 ·have:=nrmB_iff.2 h.1
  rw[h1] at this
  cases this
 ·have:=nrmB_iff.2 h.2.1
  rw[h2] at this
  cases this
 have he:=okF_eq (s:=s) hn hd (nrmB_iff.1 h1) (nrmB_iff.1 h2) (ne_of h3)
 have hg:=@gcdN_pos (valN n) (valN d) (val_pos hd (nrmB_iff.1 h2) (ne_of h3))
 obtain⟨g1,g2,g3⟩:=natL_ok (show 0≤gcdN (valN n) (valN d) by omega)
 rw[he]
 have one:∀{a:List Int},((a.length:Nat):Int)=1→a=[nthD a 0 0]:=fun {a} h=>by
  match a,h with
  |[x],_=>rfl
  |[],h=>simp at h
  |_::_::_,h=>simp at h;omega
 refine⟨fun h4=>?_,fun h4=>?_⟩
 ·rw[if_pos (nil_of h4)]
  refine⟨fun h5=>⟨fun h6=>⟨by omega,by omega,by omega,?_⟩,fun h6=>?_⟩,fun h5=>?_⟩
  ·rw[h5]
   have:=one h6
   rw[this]
   simp[nthD]
  ·have:¬d=[1]:=fun h=>h6 (by rw[h];rfl)
   rw[h5]
   simp[this]
  ·rw[h5]
   rfl
 ·rw[if_neg (ne_of h4)]
  refine⟨⟨⟨hn,hd⟩,⟨by omega,by omega⟩,nrmB_iff.1 h2⟩,fun h5=>⟨by omega,by omega,by omega,?_⟩,fun h5=>?_⟩
  ·have h6:=one h5
   have h7:=@natL_one (gcdN (valN n) (valN d)) (by omega)
   rw[Bool.eq_iff_iff,decide_eq_true_eq,decide_eq_true_eq,←h7]
   constructor
   ·intro h8
    rw[h6,h8]
   ·intro h8
    rw[h8]
    rfl
  ·have h7:¬gcdN (valN n) (valN d)=1:=fun h8=>h5 (by rw[(natL_one (by omega)).2 h8];rfl)
   simp[h7]
def okS (x:Fra):Bool:=decide (x.2.1.length≤3)&&decide (x.2.2.length≤3)&&okF x
def smallB (l:List Fra):Bool:=l.all okS&&decide (l.length≤10)
def rowD (l:List Fra):Prop:=∀x∈l,Dig x.2.1∧Dig x.2.2
theorem small_pay {l:List Fra} (hd:rowD l) (h:smallB l=true):payOk l:=by
 unfold smallB at h
 rw[Bool.and_eq_true,decide_eq_true_eq,List.all_eq_true] at h
 refine⟨h.2,fun x hx=>⟨valF x,?_,?_⟩⟩
 ·have:=h.1 x hx
  unfold okS at this
  simp only[Bool.and_eq_true,decide_eq_true_eq] at this
  exact(of_decide_eq_true this.2).symm
 ·have:=h.1 x hx
  unfold okS at this
  simp only[Bool.and_eq_true,decide_eq_true_eq] at this
  obtain⟨⟨l1,l2⟩,l3⟩:=this
  have l3:=of_decide_eq_true l3
  obtain⟨d1,d2⟩:=hd x hx
  have e1:natL ((valF x).num.natAbs:Int)=x.2.1:=congrArg (fun x=>x.2.1) l3
  have e2:natL ((valF x).den:Int)=x.2.2:=congrArg (fun x=>x.2.2) l3
  have v1:=(natL_ok (show(0:Int)≤((valF x).num.natAbs:Int) by omega)).1
  have v2:=(natL_ok (show(0:Int)≤((valF x).den:Int) by omega)).1
  rw[e1] at v1
  rw[e2] at v2
  have b1:=lt_of_len d1 l1
  have b2:=lt_of_len d2 l2
  exact⟨by omega,by omega⟩
def r43:SCtr:=⟨5,List Fra,.one (codR sF),fun l=>rowD (show List Fra from l)∧(show List Fra from l).length≤9223372036854775807,fun l=> .sb (smallB l)⟩
def Λ43 (a:List Fra):Nat→LoopAnn
 |2=> .inv Int (fun x=>⟨[(0,.row sF a),(5,.row sF a),(6,.si .i64 a.length),(7,.si .i64 x)],[]⟩) (fun s=>iS s 7) (fun x=>(0≤x∧x≤a.length)∧∀j:Nat,(j:Int)<x→okS (nthD a j sF.dflt)=true) (fun x=>(a.length - x).toNat) fun _ _=> .look
 |_=> .look
theorem h43:Holds Tryz.prog r43:=by
 refine con (L:=[r93]) r43 F43 Λ43 (OwnOK.none _) (by simpa using h93) (by kernel_rfl) (by kernel_rfl) (fun _=>rfl) ?_
 rintro(l:List Fra) ⟨hd,hl⟩
 refine vcOf (let z0:=(↑l.length:Int);let z1:=(↑l.length:Int);let z2:=SV.si .i64 z1;((((SV.row sF l).same (SV.row sF l)∧(SV.row sF l).same (SV.row sF l)∧(SV.si .i64 z0).same z2∧(SV.il .i64 0).same (SV.si .i64 0)∧True)∧True)∧((0:Int)≤(0:Int)∧(0:Int)≤z1)∧∀(j:Nat),(↑j:Int)<(0:Int)→okS (nthD l j sF.dflt)=true)∧∀(x:Int),let z3:=nthD l x.toNat sF.dflt;let z4:=z3.snd.fst;let z5:=decide ((3:Int)<(↑(List.length z4):Int));let z6:=z3.snd.snd;let z7:=decide ((3:Int)<(↑(List.length z6):Int));let z8:=!okF (z3.fst,z4,z6);let z9:=x+(1:Int);let z10:=SV.si .i64 z9;(((0:Int)≤x∧x≤z1)∧∀(j:Nat),(↑j:Int)<x→okS (nthD l j sF.dflt)=true)→(decide (x<z1)=true→(0:Int)≤x∧x<z0∧x.toNat<l.length∧(z5=true→(SV.bl false).same (SV.sb (smallB l)))∧(z5=false→(z7=true→(SV.bl false).same (SV.sb (smallB l)))∧(z7=false→((Dig z4∧Dig z6)∧List.length z4≤1000000∧List.length z6≤1000000)∧(z8=true→(SV.bl false).same (SV.sb (smallB l)))∧(z8=false→inR .i64 z9∧(((SV.row sF l).same (SV.row sF l)∧(SV.row sF l).same (SV.row sF l)∧z2.same z2∧z10.same z10∧True)∧True)∧(((0:Int)≤z9∧z9≤z1)∧∀(j:Nat),(↑j:Int)<z9→okS (nthD l j sF.dflt)=true)∧(z1 - z9).toNat<(z1 - x).toNat))))∧(decide (x<z1)=false→(SV.sb (decide (z0≤(10:Int)))).same (SV.sb (smallB l)))) (by kernel_rfl) ?_
 simp only[vcs]
 have hd:rowD l:=hd
 have hl:l.length≤9223372036854775807:=hl
 have nope:(∃x∈l,okS x=false)→false=smallB l:=fun⟨x,hx,h⟩=>by
  cases hb:smallB l with
  |false=>rfl
  |true=>
   unfold smallB at hb
   rw[Bool.and_eq_true,List.all_eq_true] at hb
   have:=hb.1 x hx
   rw[h] at this
   cases this
 refine⟨⟨⟨by omega,by omega⟩,fun j hj=>by omega⟩,?_⟩
 rintro i ⟨⟨i0,i1⟩,hj⟩
 refine⟨fun hi=>?_,fun hi=>?_⟩
 ·have hm:=nthD_mem (d:=sF.dflt) (show i.toNat<l.length by omega)
  obtain⟨d1,d2⟩:=hd _ hm
  have e3:((nthD l i.toNat sF.dflt).1,(nthD l i.toNat sF.dflt).2.1,(nthD l i.toNat sF.dflt).2.2)=nthD l i.toNat sF.dflt:=rfl
  rw[e3]
  generalize hx:nthD l i.toNat sF.dflt=x at*
  refine⟨by omega,by omega,by omega,fun h1=>nope ⟨x,hm,?_⟩,fun h1=>⟨fun h2=>nope ⟨x,hm,?_⟩,fun h2=>⟨⟨⟨d1,d2⟩,by omega,by omega⟩,fun h3=>nope ⟨x,hm,?_⟩,fun h3=>⟨by omega,⟨⟨by omega,by omega⟩,fun j hj2=>?_⟩,by omega⟩⟩⟩⟩
  ·have:¬x.2.1.length≤3:=by omega
   simp[okS,this]
  ·have:¬x.2.2.length≤3:=by omega
   simp[okS,this]
  ·simp[okS,h3]
  ·by_cases hji:(j:Int)<i
   ·exact hj j hji
   ·have:j=i.toNat:=by omega
    subst this
    rw[hx]
    have h4:x.2.1.length≤3:=by omega
    have h5:x.2.2.length≤3:=by omega
    simp[okS,h3,h4,h5]
 ·unfold smallB
  have:l.all okS=true:=by
   rw[List.all_eq_true]
   intro x hx
   obtain⟨j,hj2,rfl⟩:=List.getElem_of_mem hx
   have:=hj j (by omega)
   rwa [nthD_eq hj2] at this
  rw[this,Bool.true_and,Bool.eq_iff_iff,decide_eq_true_eq,decide_eq_true_eq]
  omega
theorem blk_top {V T:List Int} {l:List Fra}:∀{k:Nat},(((blkU V T l k).g=0∧(blkU V T l k).m=0∧(blkU V T l k).w=0)∨(0<(blkU V T l k).g∧∃j,j<k∧(blkU V T l k).g=gainQ V l j (nthD T j 0)))∧∀j:Nat,j<k→gainQ V l j (nthD T j 0)≤(blkU V T l k).g
 |0=>⟨.inl ⟨rfl,rfl,rfl⟩,fun j hj=>absurd hj (Nat.not_lt_zero _)⟩
 |k+1=>by
  obtain⟨h1,h2⟩:=@blk_top V T l k
  have h0:0≤(blkU V T l k).g:=by
   rcases h1 with h|h
   ·rw[h.1];exact Rat.le_refl
   ·have:=h.1;grind
  rw[blkU_succ]
  by_cases h:(blkU V T l k).g<gainQ V l k (nthD T k 0)
  ·rw[if_pos h]
   refine⟨.inr ⟨by simp only;grind,k,by omega,rfl⟩,fun j hj=>?_⟩
   simp only
   by_cases hjk:j=k
   ·subst hjk;exact Rat.le_refl
   ·have:=h2 j (by omega)
    grind
  ·rw[if_neg h]
   refine⟨?_,fun j hj=>?_⟩
   ·rcases h1 with h1|⟨h3,j,h4,h5⟩
    ·exact .inl h1
    ·exact .inr ⟨h3,j,by omega,h5⟩
   ·by_cases hjk:j=k
    ·subst hjk;grind
    ·exact h2 j (by omega)
theorem core_iff {p:Prob} {c:List Int} {l:List Fra} (hb:blkE p c l=0):coreE p c l=0↔ratB p c l=true∧¬0<(blkS p c l).g:=by
 unfold coreE
 rw[if_neg (by omega)]
 by_cases hr:ratB p c l=true
 ·rw[if_neg (by rw[hr];decide)]
  have ht:=(@blk_top (valsS p c) (tabS p) l (tabS p).length).1
  by_cases hg:0<(blkS p c l).g
  ·rw[if_pos (.inr hg)]
   constructor
   ·intro h;omega
   ·intro h;exact absurd hg h.2
  ·have hx:¬(((blkS p c l).m≠0∨(blkS p c l).w≠0)∨0<(blkS p c l).g):=by
    rcases ht with ht|ht
    ·rintro((h|h)|h)
     ·exact h ht.2.1
     ·exact h ht.2.2
     ·exact hg h
    ·exact absurd ht.1 hg
   rw[if_neg hx]
   simp[hr,hg]
 ·have hr':ratB p c l=false:=by simpa using hr
  rw[if_pos hr']
  constructor
  ·intro h;omega
  ·intro h;exact absurd h.1 hr
def r302:SCtr:=⟨10,Prob×Alloc×List Fra,.cons codP (.cons codA (.one (codR sF))),fun a=>a.2.1.chosen.length≤9223372036854775807∧payOk a.2.2,fun a=> .sb (ratB a.1 a.2.1.chosen a.2.2)⟩
def Λ302 (a:Prob×Alloc×List Fra):Nat→LoopAnn
 |5=> .inv Int (fun x=>⟨[(2,.row sF a.2.2),(7,.row (.i .i64) (valsS a.1 a.2.1.chosen)),(8,.si .i64 x)],[.cells a.1.ss 27 20 false,.cells [.row (.i .i64) a.2.1.chosen,.si .i64 a.2.1.value] 29 2 false]⟩)
   (fun s=>iS s 8) (fun x=>(0≤x∧x≤a.2.2.length)∧∀j:Nat,(j:Int)<x→rat1 (valsS a.1 a.2.1.chosen) a.2.2 j=true) (fun x=>(a.2.2.length - x).toNat) fun _ _=> .look
 |_=> .look
theorem h302:Holds Tryz.prog r302:=by
 refine con (L:=[r55,r57,r48,r51,r53]) r302 F302 Λ302 (OwnOK.none _) (by simpa using⟨h55,h57,h48,h51,h53⟩) (by kernel_rfl) (by kernel_rfl) (fun _=>rfl) ?_
 rintro⟨p,⟨c,v⟩,l⟩ ⟨h,hl⟩
 refine vcOf (let z0:=decide (feasE p c≠(0:Int));let z1:=(↑l.length:Int);let z2:=decide (z1≠(↑p.classes.length:Int));let z3:=SId.i .i64;let z4:=SV.row z3 (valsS p c);let z5:=SObj.cells [SV.si .i64 p.supply.a0,SV.si .i64 p.supply.a1,SV.si .i64 p.supply.a2,SV.si .i64 p.supply.a3,SV.si .i64 p.supply.a4,SV.si .i64 p.supply.a5,SV.si .i64 p.opn.a0,SV.si .i64 p.opn.a1,SV.si .i64 p.opn.a2,SV.si .i64 p.opn.a3,SV.si .i64 p.opn.a4,SV.si .i64 p.opn.a5,SV.si .i64 p.cls.a0,SV.si .i64 p.cls.a1,SV.si .i64 p.cls.a2,SV.si .i64 p.cls.a3,SV.si .i64 p.cls.a4,SV.si .i64 p.cls.a5,SV.row z3 p.classes,SV.row SId.off p.offers] 27 20 false;let z6:=SObj.cells [SV.row z3 c,SV.si .i64 v] 29 2 false;let z7:=(↑l.length:Int);c.length≤9223372036854775807∧(z0=true→(SV.bl false).same (SV.sb (ratB p c l)))∧(z0=false→(z2=true→(SV.bl false).same (SV.sb (ratB p c l)))∧(z2=false→feasE p c=(0:Int)∧((((SV.row sF l).same (SV.row sF l)∧z4.same z4∧(SV.il .i64 0).same (SV.si .i64 0)∧True)∧z5.same z5∧z6.same z6∧True)∧((0:Int)≤(0:Int)∧(0:Int)≤z7)∧∀(j:Nat),(↑j:Int)<(0:Int)→rat1 (valsS p c) l j=true)∧∀(x:Int),let z8:=nthD l x.toNat sF.dflt;let z9:=(z8.fst,z8.snd.fst,z8.snd.snd);let z10:=decide (sgnQ (valF z9)<(0:Int));let z11:=nthD (valsS p c) x.toNat (0:Int);let z12:=frE (IntCast.intCast z11);let z13:=(z12.fst,z12.snd.fst,z12.snd.snd);let z14:=decide ((0:Int)<cmpQ (valF z9) (valF z13));let z15:=x+(1:Int);let z16:=SV.si .i64 z15;(((0:Int)≤x∧x≤z7)∧∀(j:Nat),(↑j:Int)<x→rat1 (valsS p c) l j=true)→(decide (x<z1)=true→(0:Int)≤x∧x<z1∧x.toNat<l.length∧isF z9∧(z10=true→(SV.bl false).same (SV.sb (ratB p c l)))∧(z10=false→(0:Int)≤x∧x<z1∧x.toNat<l.length∧(0:Int)≤x∧x<(↑(valsS p c).length:Int)∧x.toNat<(valsS p c).length∧((-9223372036854775808:Int)≤z11∧z11≤(9223372036854775807:Int))∧(isG z9∧isG z13)∧(z14=true→(SV.bl false).same (SV.sb (ratB p c l)))∧(z14=false→inR .i64 z15∧(((SV.row sF l).same (SV.row sF l)∧z4.same z4∧z16.same z16∧True)∧z5.same z5∧z6.same z6∧True)∧(((0:Int)≤z15∧z15≤z7)∧∀(j:Nat),(↑j:Int)<z15→rat1 (valsS p c) l j=true)∧(z7 - z15).toNat<(z7 - x).toNat)))∧(decide (x<z1)=false→(SV.bl true).same (SV.sb (ratB p c l)))))) (by kernel_rfl) ?_
 simp only[vcs]
 have hl:payOk l:=hl
 have hll:=hl.1
 have h:c.length≤9223372036854775807:=h
 have nope:(¬(feasE p c=0∧l.length=p.classes.length∧∀j:Nat,j<l.length→rat1 (valsS p c) l j=true))→ratB p c l=false:=fun hn=>by
  cases hb:ratB p c l with
  |false=>rfl
  |true=>exact absurd (ratB_iff.1 hb) hn
 refine⟨h,fun hne=>?_,fun hz=>?_⟩
 ·exact(nope fun h=>hne h.1).symm
 have hz:feasE p c=0:=by simpa using hz
 obtain⟨hV,h8,hv⟩:=vals_good hz
 refine⟨fun hne=>?_,fun hle=>?_⟩
 ·exact(nope fun h=>by omega).symm
 have hle:l.length=p.classes.length:=by omega
 refine⟨hz,⟨⟨by omega,by omega⟩,fun j hj=>by omega⟩,?_⟩
 rintro i ⟨⟨i0,i1⟩,hj⟩
 refine⟨fun hi=>?_,fun hi=>?_⟩
 ·obtain⟨q,hq,hsz⟩:=payOk_get hl (show i.toNat<l.length by omega)
  have hx:=hv _ (nthD_mem (d:=0) (show i.toNat<(valsS p c).length by omega))
  have e1:valF ((nthD l i.toNat sF.dflt).1,(nthD l i.toNat sF.dflt).2.1,(nthD l i.toNat sF.dflt).2.2)=valF (nthD l i.toNat sF.dflt):=rfl
  have e2:∀q:Rat,valF ((frE q).1,(frE q).2.1,(frE q).2.2)=q:=valF_frE
  simp only[e1,e2,cmpQ_pos,sgn_neg]
  have hF:isF ((nthD l i.toNat sF.dflt).1,(nthD l i.toNat sF.dflt).2.1,(nthD l i.toNat sF.dflt).2.2):=⟨q,3,hq,hsz,by omega⟩
  have hG:isG ((nthD l i.toNat sF.dflt).1,(nthD l i.toNat sF.dflt).2.1,(nthD l i.toNat sF.dflt).2.2):=⟨q,3,hq,hsz,by omega⟩
  refine⟨by omega,by omega,by omega,hF,fun h1=>?_,fun h1=>⟨by omega,by omega,by omega,by omega,by omega,by omega,⟨by omega,by omega⟩,⟨hG,⟨_,2,rfl,szI (by omega) (by omega),by omega⟩⟩,fun h2=>?_,fun h2=>?_⟩⟩
  ·refine(nope fun h=>h1 ?_).symm
   have:=h.2.2 i.toNat (by omega)
   unfold rat1 at this
   simp only[Bool.and_eq_true,decide_eq_true_eq] at this
   exact this.1
  ·refine(nope fun h=>?_).symm
   have:=h.2.2 i.toNat (by omega)
   unfold rat1 at this
   simp only[Bool.and_eq_true,decide_eq_true_eq] at this
   have h2:((nthD (valsS p c) i.toNat 0:Int):Rat)<valF (nthD l i.toNat sF.dflt):=h2
   have h3:=this.2
   grind
  ·refine⟨by omega,⟨⟨by omega,by omega⟩,fun j hj2=>?_⟩,by omega⟩
   by_cases hji:(j:Int)<i
   ·exact hj j hji
   ·have:j=i.toNat:=by omega
    subst this
    unfold rat1
    simp only[Bool.and_eq_true,decide_eq_true_eq]
    have h1:¬¬0≤valF (nthD l i.toNat sF.dflt):=by simpa using h1
    have h2:¬((nthD (valsS p c) i.toNat 0:Int):Rat)<valF (nthD l i.toNat sF.dflt):=h2
    exact⟨by grind,by grind⟩
 ·exact(ratB_iff.2 ⟨hz,hle,fun j h=>hj j (by omega)⟩).symm
def r301:SCtr:=⟨8,Prob×Alloc×List Fra,.cons codP (.cons codA (.one (codR sF))),fun a=>a.2.1.chosen.length≤9223372036854775807∧payOk a.2.2,fun a=> .si .i64 (coreE a.1 a.2.1.chosen a.2.2)⟩
theorem h301:Holds Tryz.prog r301:=by
 refine con (L:=[r45,r302,r48]) r301 F301 (fun _ _=> .look) (OwnOK.none _) (by simpa using⟨h45,h302,h48⟩) (by kernel_rfl) (by kernel_rfl) (fun _=>rfl) ?_
 rintro⟨p,⟨c,v⟩,l⟩ ⟨h,hl⟩
 refine vcOf (let z0:=decide (blkE p c l≠(0:Int));let z1:=SV.si .i64 (coreE p c l);let z2:=if blkE p c l=(0:Int) then frE (blkS p c l).g else(false,[],[]);let z3:=(z2.fst,z2.snd.fst,z2.snd.snd);let z4:=decide ((0:Int)<sgnQ (valF z3));(c.length≤9223372036854775807∧payOk l)∧(z0=true→(SV.si .i64 (blkE p c l)).same z1)∧(z0=false→(c.length≤9223372036854775807∧payOk l)∧((!ratB p c l)=true→(SV.il .i64 4).same z1)∧((!ratB p c l)=false→isF z3∧(z4=true→(SV.il .i64 13).same z1)∧(z4=false→(SV.il .i64 0).same z1)))) (by kernel_rfl) ?_
 simp only[vcs]
 have hl:payOk l:=hl
 have h:c.length≤9223372036854775807:=h
 have e2:∀q:Rat,valF ((frE q).1,(frE q).2.1,(frE q).2.2)=q:=valF_frE
 refine⟨⟨h,hl⟩,fun hne=>?_,fun hz=>⟨⟨h,hl⟩,fun hr=>?_,fun hr=>?_⟩⟩
 ·unfold coreE
  rw[if_pos hne]
 ·unfold coreE
  rw[if_neg hz,if_pos hr]
 have hb:blkE p c l=0:=by simpa using hz
 have hsz:=blkS_sz hb hl
 have hE:=core_iff hb
 simp only[hb,if_true,e2,sgn_pos]
 refine⟨⟨_,44,rfl,hsz,by omega⟩,fun hg=>?_,fun hg=>(hE.2 ⟨hr,hg⟩).symm⟩
 unfold coreE
 rw[if_neg (by omega),if_neg (by rw[hr];decide),if_pos (.inr hg)]
def r300:SCtr:=⟨3,Prob×Alloc×List Fra,.cons codP (.cons codA (.one (codR sF))),fun a=>a.2.1.chosen.length≤9223372036854775807∧rowD a.2.2∧a.2.2.length≤9223372036854775807,fun _=> .sb true⟩
theorem h300:Holds Tryz.prog r300:=by
 refine con (L:=[r38,r43,r39,r47,r301,r49,r302]) r300 F300 (fun _ _=> .look) (OwnOK.none _) (by simpa using⟨h38,h43,h39,h47,h301,h49,h302⟩) (by kernel_rfl) (by kernel_rfl) (fun _=>rfl) ?_
 rintro⟨p,⟨c,v⟩,l⟩ ⟨h,hd,hl⟩
 refine vcOf (let z0:=!(decide (p.offers.length≤12)&&decide (p.classes.length≤6));let z1:=decide (coreE p c l=coreE p c l);let z2:=ratB p c l==ratB p c l;True∧(z0=true→True∧(SV.sb true).same (SV.sb true))∧(z0=false→(rowD l∧l.length≤9223372036854775807)∧((!smallB l)=true→True∧(SV.sb true).same (SV.sb true))∧((!smallB l)=false→(c.length≤9223372036854775807∧payOk l)∧(c.length≤9223372036854775807∧payOk l)∧(z1=true→(c.length≤9223372036854775807∧payOk l)∧(c.length≤9223372036854775807∧payOk l)∧(z2=true→True∧(SV.sb true).same (SV.sb true))∧(z2=false→(SV.bl false).same (SV.sb true)))∧(z1=false→(SV.bl false).same (SV.sb true))))) (by kernel_rfl) ?_
 simp only[vcs]
 have h:c.length≤9223372036854775807:=h
 have hd:rowD l:=hd
 have hl:l.length≤9223372036854775807:=hl
 refine⟨fun _=>trivial,fun hf=>⟨⟨hd,hl⟩,fun _=>trivial,fun hs=>?_⟩⟩
 have hp:=small_pay hd hs
 simp[h,hp]
end Go.Vi
