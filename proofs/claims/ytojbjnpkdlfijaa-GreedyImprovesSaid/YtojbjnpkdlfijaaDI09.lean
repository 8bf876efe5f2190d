/-
  Contracts: the reference's step and improvement; the law.
  Conditions: none.
-/
import Derived.Test.YtojbjnpkdlfijaaDI06
import Derived.Test.YtojbjnpkdlfijaaDI07
import Derived.Test.YtojbjnpkdlfijaaDI08
set_option maxRecDepth 100000
set_option maxHeartbeats 4000000
set_option linter.unusedSimpArgs false
set_option linter.unusedVariables false
namespace Go.Vi
open Go.Proofs.Ytojbjnpkdlfijaa.Ir
open Go.Proofs
theorem out_off {c:List Int} {i:Nat} (hn:c.Nodup) (h:i<c.length):offI c (nthD c i 0)=outI c i:=by
 have e:c=c.take i++c[i]::c.drop (i+1):=by rw[←List.drop_eq_getElem_cons h,List.take_append_drop]
 have hc:nthD c i 0=c[i]:=nthD_eq h
 rw[hc]
 generalize c[i]=y at*
 have hn2:=hn
 rw[e,List.nodup_append] at hn2
 have e2:offI c y=offI (c.take i++y::c.drop (i+1)) y:=by rw[←e]
 rw[e2]
 unfold offI outI
 rw[List.filter_append,List.filter_cons_of_neg (by simp)]
 rw[List.filter_eq_self.2 (fun z hz=>decide_eq_true (hn2.2.2 z hz y (by simp))),List.filter_eq_self.2 (fun z hz=>by
  refine decide_eq_true ?_
  intro e3
  rw[e3] at hz
  exact(List.nodup_cons.1 hn2.2.1).1 hz)]
def r332:SCtr:=⟨38,Prob×List Int,.cons codP (.one (codR (.i .i64))),fun a=>goodC a.1 a.2,fun a=> .tup [.row (.i .i64) ((exG (gameR a.1) a.2).getD a.2),.sb (exG (gameR a.1) a.2).isSome]⟩
def Λ332 (p:Prob) (c:List Int):Nat→LoopAnn
 |2=> .inv Int (fun i=>⟨[(1,.row (.i .i64) c),(2,.ptr 0 0 20),(6,.si .i64 i)],[.cells p.ss 27 20 false]⟩)
   (fun s=>iS s 6) (fun i=>(0≤i∧i≤c.length)∧∀k:Nat,(k:Int)<i→ex1 (gameR p) c (valG (gameR p) c) k=none) (fun i=>(c.length - i).toNat) fun i k=>match k with
   |5=> .inv Int (fun o=>⟨[(1,.row (.i .i64) c),(2,.ptr 0 0 20),(6,.si .i64 i),(7,.si .i64 o)],[.cells p.ss 27 20 false]⟩)
     (fun s=>iS s 7) (fun o=>(0≤o∧o≤p.offers.length)∧∀k:Nat,(k:Int)<o→exOf p c (nthD c i.toNat 0) k=none) (fun o=>(p.offers.length - o).toNat) fun _ _=> .look
   |_=> .look
 |_=> .look
theorem h332:Holds Try.prog r332:=by
 refine con (L:=[r341,r342]) r332 F332 (fun a=>Λ332 a.1 a.2) (OwnOK.none _) (by simpa using⟨h341,h342⟩) (by kernel_rfl) (by kernel_rfl) (fun _=>rfl) ?_
 rintro⟨p,c⟩ ⟨hc,ha⟩
 simp only at hc ha
 have hl:=asc_len ha
 have hn160:=(good_of hc).2.1
 refine vcOf (let z0:=SId.i .i64;let z1:=SV.ptr 0 0 20;let z2:=SObj.cells [SV.si .i64 p.supply.a0,SV.si .i64 p.supply.a1,SV.si .i64 p.supply.a2,SV.si .i64 p.supply.a3,SV.si .i64 p.supply.a4,SV.si .i64 p.supply.a5,SV.si .i64 p.opn.a0,SV.si .i64 p.opn.a1,SV.si .i64 p.opn.a2,SV.si .i64 p.opn.a3,SV.si .i64 p.opn.a4,SV.si .i64 p.opn.a5,SV.si .i64 p.cls.a0,SV.si .i64 p.cls.a1,SV.si .i64 p.cls.a2,SV.si .i64 p.cls.a3,SV.si .i64 p.cls.a4,SV.si .i64 p.cls.a5,SV.row z0 p.classes,SV.row SId.off p.offers] 27 20 false;let z3:=(↑c.length:Int);let z4:=(↑p.offers.length:Int);let z5:=SV.tup [SV.row z0 ((exG (gameR p) c).getD c),SV.sb (exG (gameR p) c).isSome];((((SV.row z0 c).same (SV.row z0 c)∧z1.same z1∧(SV.il .i64 0).same (SV.si .i64 0)∧True)∧z2.same z2∧True)∧((0:Int)≤(0:Int)∧(0:Int)≤z3)∧∀(k:Nat),(↑k:Int)<(0:Int)→ex1 (gameR p) c (valG (gameR p) c) k=none)∧∀(x:Int),let z6:=decide (x<(↑c.length:Int));let z7:=nthD c x.toNat (0:Int);let z8:=x+(1:Int);let z9:=SV.si .i64 z8;(((0:Int)≤x∧x≤z3)∧∀(k:Nat),(↑k:Int)<x→ex1 (gameR p) c (valG (gameR p) c) k=none)→(z6=true→((((SV.row z0 c).same (SV.row z0 c)∧z1.same z1∧(SV.si .i64 x).same (SV.si .i64 x)∧(SV.il .i64 0).same (SV.si .i64 0)∧True)∧z2.same z2∧True)∧((0:Int)≤(0:Int)∧(0:Int)≤z4)∧∀(k:Nat),(↑k:Int)<(0:Int)→exOf p c z7 (↑k:Int)=none)∧∀(x_1:Int),let z10:=decide (x_1<(↑p.offers.length:Int));let z11:=x_1+(1:Int);let z12:=SV.si .i64 x;let z13:=SV.si .i64 z11;let z14:=(exOf p c z7 x_1).isSome;(((0:Int)≤x_1∧x_1≤z4)∧∀(k:Nat),(↑k:Int)<x_1→exOf p c z7 (↑k:Int)=none)→(z10=true→c.length≤100000∧(decide (x_1∈c)=true→inR .i64 z11∧(((SV.row z0 c).same (SV.row z0 c)∧z1.same z1∧z12.same z12∧z13.same z13∧True)∧z2.same z2∧True)∧(((0:Int)≤z11∧z11≤z4)∧∀(k:Nat),(↑k:Int)<z11→exOf p c z7 (↑k:Int)=none)∧(z4 - z11).toNat<(z4 - x_1).toNat)∧(decide (x_1∈c)=false→(0:Int)≤x∧x<(↑c.length:Int)∧x.toNat<c.length∧(goodC p c∧inO p x_1∧(x_1∈c→False))∧(z14=true→(SV.tup [SV.row z0 ((exOf p c z7 x_1).getD []),SV.bl true]).same z5)∧(z14=false→inR .i64 z11∧(((SV.row z0 c).same (SV.row z0 c)∧z1.same z1∧z12.same z12∧z13.same z13∧True)∧z2.same z2∧True)∧(((0:Int)≤z11∧z11≤z4)∧∀(k:Nat),(↑k:Int)<z11→exOf p c z7 (↑k:Int)=none)∧(z4 - z11).toNat<(z4 - x_1).toNat)))∧(z10=false→inR .i64 z8∧(((SV.row z0 c).same (SV.row z0 c)∧z1.same z1∧z9.same z9∧True)∧z2.same z2∧True)∧(((0:Int)≤z8∧z8≤z3)∧∀(k:Nat),(↑k:Int)<z8→ex1 (gameR p) c (valG (gameR p) c) k=none)∧(z3 - z8).toNat<(z3 - x).toNat))∧(z6=false→(SV.tup [SV.row z0 c,SV.bl false]).same z5)) (by kernel_rfl) ?_
 conv=>zeta
 try simp only[vcs]
 have hex:∀i:Nat,i<c.length→∀o:Int,exOf p c (nthD c i 0) o=ex2 (gameR p) c (valG (gameR p) c) (outI c i) o:=fun i hi o=>by
  unfold exOf
  rw[out_off (asc_nodup ha) hi]
 refine⟨⟨by omega,fun k h=>by omega⟩,?_⟩
 rintro i ⟨⟨i0,i1⟩,hi⟩
 refine⟨fun hil=>⟨⟨by omega,fun k h=>by omega⟩,?_⟩,fun hil=>?_⟩
 ·have found:∀t,ex1 (gameR p) c (valG (gameR p) c) i.toNat=some t→exG (gameR p) c=some t:=fun t ht=>find_some (i:=i.toNat) (by omega) (fun j hj=>hi j (by omega)) ht
  rintro o ⟨⟨o0,o1⟩,hk⟩
  refine⟨fun hol=>⟨by omega,fun hin=>⟨by omega,⟨by omega,fun k h=>?_⟩,by omega⟩,fun hin=>⟨i0,hil,by omega,⟨⟨hc,ha⟩,⟨o0,hol⟩,hin⟩,fun hb=>?_,fun hb=>⟨by omega,⟨by omega,fun k h=>?_⟩,by omega⟩⟩⟩,fun hol=>⟨by omega,⟨by omega,fun k h=>?_⟩,by omega⟩⟩
  ·by_cases h2:(k:Int)<o
   ·exact hk k h2
   ·rw[show(k:Int)=o by omega]
    unfold exOf ex2
    rw[if_pos hin]
  ·obtain⟨t,ht⟩:=Option.isSome_iff_exists.1 hb
   have h2:=found t (find_some (f:=fun o:Nat=>ex2 (gameR p) c (valG (gameR p) c) (outI c i.toNat) o) (i:=o.toNat) (by show o.toNat<p.offers.length;omega) (fun j hj=>by
    have:=hk j (by omega)
    rw[hex _ (by omega)] at this
    exact this) (by
    simp only[show((o.toNat:Nat):Int)=o by omega]
    rw[←hex _ (by omega)]
    exact ht))
   rw[h2,ht]
   exact⟨rfl,rfl⟩
  ·by_cases h2:(k:Int)<o
   ·exact hk k h2
   ·rw[show(k:Int)=o by omega]
    cases he:exOf p c (nthD c i.toNat 0) o with
    |none=>rfl
    |some t=>rw[he] at hb;cases hb
  ·by_cases h2:(k:Int)<i
   ·exact hi k h2
   ·rw[show k=i.toNat by omega]
    refine find_none fun j hj=>?_
    have h3:j<p.offers.length:=hj
    have:=hk j (by omega)
    rw[hex _ (by omega)] at this
    exact this
 ·have:exG (gameR p) c=none:=find_none fun j hj=>hi j (by omega)
  rw[this]
  exact⟨rfl,rfl⟩
def r316:SCtr:=⟨17,Prob×Alloc,.cons codP (.one codA),fun a=>a.2.chosen.length≤9223372036854775807,fun a=>codA.put (impS a.1 a.2.chosen)⟩
def Λ316 (p:Prob) (a:Alloc):Nat→LoopAnn
 |5=> .inv (List Int×Bool) (fun x=>⟨[(2,.ptr 0 0 20),(4,.ptr 2 0 2),(5,.row (.i .i64) x.1),(6,.sb x.2)],[.cells p.ss 27 20 false,.cells [.row (.i .i64) a.chosen,.si .i64 a.value] 34 2 false,.cells [.sc (.slice none 0 0),.il .i64 0] 34 2 false]⟩)
   (fun s=>(rS (.i .i64) s 5,bS s 6)) (fun x=>ascOk p.offers.length x.1∧(x.2=false→exG (gameR p) x.1=none)∧impR (gameR p) x.1=impR (gameR p) a.chosen) (fun x=>(2*(1000000000 - valG (gameR p) x.1)).toNat+if x.2=true then 1 else 0) fun _ _=> .look
 |_=> .look
theorem h316:Holds Try.prog r316:=by
 refine con (L:=[r55,r332,r58]) r316 F316 (fun a=>Λ316 a.1 a.2) (OwnOK.none _) (by simpa using⟨h55,h332,h58⟩) (by kernel_rfl) (by kernel_rfl) (fun _=>rfl) ?_
 rintro⟨p,⟨c,v⟩⟩ hl
 replace hl:c.length≤9223372036854775807:=hl
 refine vcOf (let z0:=decide (feasE p c≠(0:Int));let z1:=SId.i .i64;let z2:=[SV.il .i64 0];let z3:=SV.agg [SV.row z1 (impS p c).chosen,SV.si .i64 (impS p c).value];let z4:=SV.ptr 0 0 20;let z5:=SV.ptr 2 0 2;let z6:=SObj.cells [SV.si .i64 p.supply.a0,SV.si .i64 p.supply.a1,SV.si .i64 p.supply.a2,SV.si .i64 p.supply.a3,SV.si .i64 p.supply.a4,SV.si .i64 p.supply.a5,SV.si .i64 p.opn.a0,SV.si .i64 p.opn.a1,SV.si .i64 p.opn.a2,SV.si .i64 p.opn.a3,SV.si .i64 p.opn.a4,SV.si .i64 p.opn.a5,SV.si .i64 p.cls.a0,SV.si .i64 p.cls.a1,SV.si .i64 p.cls.a2,SV.si .i64 p.cls.a3,SV.si .i64 p.cls.a4,SV.si .i64 p.cls.a5,SV.row z1 p.classes,SV.row SId.off p.offers] 27 20 false;let z7:=SObj.cells [SV.row z1 c,SV.si .i64 v] 34 2 false;let z8:=SObj.cells (SV.sc (Value.slice none 0 0)::z2) 34 2 false;let z9:=p.offers.length;let z10:=impR (gameR p) c;c.length≤9223372036854775807∧(z0=true→(SV.agg (SV.row z1 []::z2)).same z3)∧(z0=false→(((z4.same z4∧z5.same z5∧(SV.row z1 c).same (SV.row z1 c)∧(SV.bl true).same (SV.sb true)∧True)∧z6.same z6∧z7.same z7∧z8.same z8∧True)∧ascOk z9 c∧(true=false→exG (gameR p) c=none)∧z10=z10)∧∀(x:List Int×Bool),let z11:=exG (gameR p) x.fst;let z12:=z11.getD x.fst;let z13:=x.fst.length;ascOk z9 x.fst∧(x.snd=false→z11=none)∧impR (gameR p) x.fst=z10→(x.snd=true→goodC p x.fst∧((z4.same z4∧z5.same z5∧(SV.row z1 z12).same (SV.row z1 z12)∧(SV.sb z11.isSome).same (SV.sb z11.isSome)∧True)∧z6.same z6∧z7.same z7∧z8.same z8∧True)∧(ascOk z9 z12∧(z11.isSome=false→exG (gameR p) z12=none)∧impR (gameR p) z12=z10)∧(((2:Int)*((1000000000:Int) - valG (gameR p) z12)).toNat+if z11.isSome=true then 1 else 0)<((2:Int)*((1000000000:Int) - valG (gameR p) x.fst)).toNat+if x.snd=true then 1 else 0)∧(x.snd=false→0=0∧(0+z13)*8≤140737488355328∧0+z13≤1000000000000∧x.fst.length≤9223372036854775807∧z13=z13∧(SV.agg [SV.row z1 x.fst,SV.si .i64 (valueS p x.fst)]).same z3))) (by kernel_rfl) ?_
 conv=>zeta
 try simp only[vcs]
 refine⟨by omega,fun h=>by simp only[impS,if_neg h];rfl,fun h=>?_⟩
 have hf:feasE p c=0:=Classical.not_not.1 h
 obtain⟨hc,ha⟩:=feas_good hf
 have hg:=gall_ok hc
 have hn160:=(good_of hc).2.1
 refine⟨⟨ha,fun h=>by cases h⟩,?_⟩
 rintro⟨d,b⟩ ⟨hd,hb,hi⟩
 simp only at hd hb hi ⊢
 have hdl:=asc_len hd
 refine⟨fun hbt=>?_,fun hbf=>?_⟩
 ·subst hbt
  refine⟨⟨hc,hd⟩,?_⟩
  cases he:exG (gameR p) d with
  |none=>
   refine⟨⟨hd,fun _=>he,hi⟩,?_⟩
   simp
  |some t=>
   obtain⟨h1,h2⟩:=ex_some he hd
   have hb2:=valBd hg h2
   have hb1:=valBd hg (c:=d) hd
   unfold betG at h1
   simp only[Bool.and_eq_true,decide_eq_true_eq] at h1
   refine⟨⟨h2,⟨fun h=>?_,?_⟩⟩,?_⟩
   ·simp at h
   ·rw[←hi,imp_some hg hd he]
    rfl
   simp only[Option.getD_some,Option.isSome_some,if_true]
   omega
 ·have he:=hb hbf
  have h1:impR (gameR p) c=d:=by rw[←hi,imp_none he]
  refine⟨by omega,by omega,by omega,?_⟩
  simp only[impS,if_pos hf,h1,val_eq hc hd]
  rfl
def r314:SCtr:=⟨15,Prob,.one codP,fun _=>True,fun p=> .sb (decide (p.offers.length≤16))⟩
theorem h314:Holds Try.prog r314:=by
 refine con (L:=[]) r314 F314 (fun _ _=> .look) (OwnOK.none _) (by simp) (by kernel_rfl) (by kernel_rfl) (fun _=>rfl) ?_
 rintro(p:Prob) -
 refine vcOf ((SV.sb (decide ((↑p.offers.length:Int)≤(16:Int)))).same (SV.sb (decide (p.offers.length≤16)))) (by kernel_rfl) ?_
 try simp only[vcs]
 by_cases h:p.offers.length≤16
 ·rw[decide_eq_true h];exact decide_eq_true (by omega)
 ·rw[decide_eq_false h];exact decide_eq_false (by omega)
def r305:SCtr:=⟨5,Prob×Alloc,.cons codP (.one codA),fun a=>a.2.chosen.length≤9223372036854775807,fun _=> .sb true⟩
theorem imp_len {p:Prob} {c:List Int}:(impS p c).chosen.length≤1000:=by
 unfold impS
 split
 ·rename_i hf
  obtain⟨hc,ha⟩:=feas_good hf
  have hg:=gall_ok hc
  have hn:=(good_of hc).2.1
  have h:∀n d,ascOk p.offers.length d→ascOk p.offers.length (impG (gameR p) n d):=by
   intro n
   induction n with
   |zero=>intro d hd;exact hd
   |succ n ih=>
    intro d hd
    unfold impG
    cases he:exG (gameR p) d with
    |none=>exact hd
    |some t=>exact ih t (ex_some he hd).2
  have h2:=asc_len (h (1000000000 - valG (gameR p) c).toNat c ha)
  show(impG (gameR p) (1000000000 - valG (gameR p) c).toNat c).length≤1000
  omega
 ·simp
theorem h305:Holds Try.prog r305:=by
 refine con (L:=[r314,r315,r316,r311,r310]) r305 F305 (fun _ _=> .look) (OwnOK.none _) (by simpa using⟨h314,h315,h316,h311,h310⟩) (by kernel_rfl) (by kernel_rfl) (fun _=>rfl) ?_
 rintro⟨p,⟨c,v⟩⟩ hl
 replace hl:c.length≤9223372036854775807:=hl
 refine vcOf (let z0:=!decide (p.offers.length≤16);let z1:=sameA (impS p c) (impS p c);True∧(z0=true→(SV.bl true).same (SV.sb true))∧(z0=false→c.length≤9223372036854775807∧c.length≤9223372036854775807∧((impS p c).chosen.length≤1000000∧(impS p c).chosen.length≤1000000)∧(z1=true→True∧(SV.sb true).same (SV.sb true))∧(z1=false→(SV.bl false).same (SV.sb true)))) (by kernel_rfl) ?_
 conv=>zeta
 try simp only[vcs]
 have hs:∀a:Alloc,sameA a a=true:=fun a=>by simp[sameA,cmp_same]
 have h1:=@imp_len p c
 simp only[hs]
 exact⟨fun _=>trivial,fun _=>⟨hl,hl,⟨by omega,by omega⟩,fun _=>trivial,fun h=>absurd h (by simp)⟩⟩
end Go.Vi
