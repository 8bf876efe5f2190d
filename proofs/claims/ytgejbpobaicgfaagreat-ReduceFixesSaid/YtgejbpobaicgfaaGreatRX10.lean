/-
  Plain law: the choice of the pivot, the run to the end, and that it ends.
  Conditions: none.
-/
import Derived.Test.YtgejbpobaicgfaaGreatRX07
import Derived.Test.YtgejbpobaicgfaaGreatRX08
import Derived.Test.YtgejbpobaicgfaaGreatRX09
import Derived.Test.YtgejbpobaicgfaaGreatRX06
set_option maxRecDepth 100000
set_option maxHeartbeats 4000000
set_option linter.unusedSimpArgs false
set_option linter.unusedVariables false
namespace Go.Vi
def cj (t:Tb):Nat→Int
 |0=> -1
 |k+1=>if 0<t.cs k∧(cj t k<0∨t.fv k<t.fv (cj t k).toNat) then(k:Int) else cj t k
def bU (t:Tb) (c:Nat):Nat→Int
 |0=> -1
 |k+1=>if t.cf k c≤0 then bU t c k
  else if 0≤bU t c k∧(t.bd (bU t c k).toNat / t.cf (bU t c k).toNat c<t.bd k / t.cf k c∨(t.bd k / t.cf k c=t.bd (bU t c k).toNat / t.cf (bU t c k).toNat c∧t.bv (bU t c k).toNat<t.bv k)) then bU t c k
  else(k:Int)
section
variable {n m:Nat} {t t0:Tb} {r c:Nat}
theorem sG:∀{k:Nat},(cj t k= -1∧∀j,j<k→¬0<t.cs j)∨(∃b:Nat,cj t k=b∧b<k∧0<t.cs b∧∀j,j<k→0<t.cs j→t.fv b≤t.fv j)
 |0=> .inl ⟨rfl,fun j h=>by omega⟩
 |k+1=>by
  unfold cj
  rcases @sG k with⟨h1,h2⟩|⟨b,h1,h2,h3,h4⟩
  ·by_cases hk:0<t.cs k
   ·rw[if_pos ⟨hk,.inl (by omega)⟩]
    refine .inr ⟨k,rfl,by omega,hk,fun j hj hc=>?_⟩
    by_cases hjk:j=k
    ·subst hjk;exact Int.le_refl _
    ·exact absurd hc (h2 j (by omega))
   ·rw[if_neg fun h=>hk h.1]
    refine .inl ⟨h1,fun j hj=>?_⟩
    by_cases hjk:j=k
    ·subst hjk;exact hk
    ·exact h2 j (by omega)
  ·have hb:(cj t k).toNat=b:=by omega
   by_cases hk:0<t.cs k∧(cj t k<0∨t.fv k<t.fv (cj t k).toNat)
   ·rw[if_pos hk]
    have h5:t.fv k<t.fv b:=by
     rcases hk.2 with h|h
     ·omega
     ·rwa [hb] at h
    refine .inr ⟨k,rfl,by omega,hk.1,fun j hj hc=>?_⟩
    by_cases hjk:j=k
    ·subst hjk;exact Int.le_refl _
    ·have:=h4 j (by omega) hc;omega
   ·rw[if_neg hk]
    refine .inr ⟨b,h1,by omega,h3,fun j hj hc=>?_⟩
    by_cases hjk:j=k
    ·subst hjk
     rw[hb] at hk
     have:¬t.fv j<t.fv b:=fun h=>hk ⟨hc,.inr h⟩
     omega
    ·exact h4 j (by omega) hc
theorem qk {c:Nat}:∀{k:Nat},(bU t c k= -1∧∀j,j<k→t.cf j c≤0)∨(∃b:Nat,bU t c k=b∧b<k∧0<t.cf b c∧∀j,j<k→0<t.cf j c→t.bd b / t.cf b c<t.bd j / t.cf j c∨(t.bd b / t.cf b c=t.bd j / t.cf j c∧t.bv b≤t.bv j))
 |0=> .inl ⟨rfl,fun j h=>by omega⟩
 |k+1=>by
  unfold bU
  by_cases hk:t.cf k c≤0
  ·rw[if_pos hk]
   rcases @qk c k with⟨h1,h2⟩|⟨b,h1,h2,h3,h4⟩
   ·refine .inl ⟨h1,fun j hj=>?_⟩
    by_cases hjk:j=k
    ·subst hjk;exact hk
    ·exact h2 j (by omega)
   ·refine .inr ⟨b,h1,by omega,h3,fun j hj hc=>?_⟩
    by_cases hjk:j=k
    ·subst hjk;grind
    ·exact h4 j (by omega) hc
  ·rw[if_neg hk]
   have hk0:0<t.cf k c:=Rat.not_le.1 hk
   rcases @qk c k with⟨h1,h2⟩|⟨b,h1,h2,h3,h4⟩
   ·rw[if_neg fun h=>by omega]
    refine .inr ⟨k,rfl,by omega,hk0,fun j hj hc=>?_⟩
    by_cases hjk:j=k
    ·subst hjk;exact .inr ⟨rfl,Int.le_refl _⟩
    ·have:=h2 j (by omega);grind
   ·have hb:(bU t c k).toNat=b:=by omega
    rw[hb]
    by_cases hx:0≤bU t c k∧(t.bd b / t.cf b c<t.bd k / t.cf k c∨(t.bd k / t.cf k c=t.bd b / t.cf b c∧t.bv b<t.bv k))
    ·rw[if_pos hx]
     refine .inr ⟨b,h1,by omega,h3,fun j hj hc=>?_⟩
     by_cases hjk:j=k
     ·subst hjk
      rcases hx.2 with h|h
      ·exact .inl h
      ·exact .inr ⟨h.1.symm,by omega⟩
     ·exact h4 j (by omega) hc
    ·rw[if_neg hx]
     have hx1:¬t.bd b / t.cf b c<t.bd k / t.cf k c:=fun h=>hx ⟨by omega,.inl h⟩
     have hx2:t.bd k / t.cf k c=t.bd b / t.cf b c→¬t.bv b<t.bv k:=fun h h2=>hx ⟨by omega,.inr ⟨h,h2⟩⟩
     refine .inr ⟨k,rfl,by omega,hk0,fun j hj hc=>?_⟩
     by_cases hjk:j=k
     ·subst hjk;exact .inr ⟨rfl,Int.le_refl _⟩
     ·rcases h4 j (by omega) hc with h|h
      ·exact .inl (by grind)
      ·rcases Classical.em (t.bd k / t.cf k c=t.bd b / t.cf b c) with h5|h5
       ·exact .inr ⟨by rw[h5];exact h.1,by have:=hx2 h5;omega⟩
       ·exact .inl (by grind)
end
def stepT (n m:Nat) (t:Tb):Option Tb:=
 if cj t n<0 then none
 else if bU t (cj t n).toNat m<0 then none
 else some (dB t (bU t (cj t n).toNat m).toNat (cj t n).toNat)
def cF (n m:Nat):Nat→Tb→Bool
 |0,t=>(stepT n m t).isNone
 |k+1,t=>match stepT n m t with
  |none=>true
  |some t'=>cF n m k t'
def runT (n m:Nat):Nat→Tb→Tb
 |0,t=>t
 |k+1,t=>match stepT n m t with
  |none=>t
  |some t'=>runT n m k t'
def sH (n m N:Nat) (t:Tb):Nat:=((List.range N).filter fun k=>!cF n m k t).length
section
variable {n m:Nat} {t t0 t':Tb}
theorem Lu (h:stepT n m t=some t'):∃r c,lr n m t r c∧t'=dB t r c∧cj t n=(c:Int)∧bU t c m=(r:Int):=by
 unfold stepT at h
 split at h
 ·cases h
 ·rename_i h1
  split at h
  ·cases h
  ·rename_i h2
   injection h with h
   rcases @sG t n with⟨e1,_⟩|⟨c,e1,e2,e3,e4⟩
   ·omega
   ·have hc:(cj t n).toNat=c:=by omega
    rw[hc] at h h2
    rcases @qk t c m with⟨l1,_⟩|⟨r,l1,l2,l3,l4⟩
    ·omega
    ·have hr:(bU t c m).toNat=r:=by omega
     rw[hr] at h
     exact⟨r,c,⟨l2,e2,e3,e4,l3,l4⟩,h.symm,e1,l1⟩
theorem EO (hR:Run n m t0 t) (hF:fz m t) (h:stepT n m t=some t'):Run n m t0 t'∧fz m t':=by
 obtain⟨r,c,hp,rfl,_⟩:=Lu h
 exact⟨hR.piv hp.hr hp.hc (by have:=hp.pos;grind),hp.sE hR.wf hF⟩
theorem EP:∀{k:Nat} {t:Tb},cF n m k t=true→cF n m (k+1) t=true
 |0,t,h=>by
  unfold cF
  unfold cF at h
  rw[Option.isNone_iff_eq_none.1 h]
 |k+1,t,h=>by
  unfold cF at h ⊢
  split
  ·rfl
  ·rename_i t' ht
   rw[ht] at h
   exact EP h
theorem left_step {N:Nat} (hN:cF n m N t=true) (h:stepT n m t=some t'):sH n m N t'<sH n m N t:=by
 unfold sH
 have e:∀k,cF n m k t'=cF n m (k+1) t:=fun k=>by simp only[cF,h]
 have h0:cF n m 0 t=false:=by simp[cF,h]
 simp only[e]
 cases N with
 |zero=>rw[h0] at hN;cases hN
 |succ N=>
  have h1:∀f:Nat→Bool,((List.range (N+1)).filter f).length=(if f 0 then 1 else 0)+((List.range N).filter fun k=>f (k+1)).length:=fun f=>by
   rw[List.range_succ_eq_map,List.filter_cons,List.filter_map,]
   split
   ·rw[List.length_cons,List.length_map];simp only[Function.comp_def,Nat.succ_eq_add_one];omega
   ·rw[List.length_map];simp only[Function.comp_def,Nat.succ_eq_add_one];omega
  rw[h1 (fun k=>!cF n m k t),h0]
  rw[List.range_succ,List.filter_append,List.length_append]
  simp[hN]
theorem Lx {N:Nat} (hN:cF n m N t=true) (h:stepT n m t=some t'):cF n m N t'=true:=by
 cases N with
 |zero=>simp[cF,h] at hN
 |succ N=>
  simp only[cF,h] at hN
  exact EP hN
theorem EQ (hR:Run n m t0 t) (hF:fz m t):∃N,cF n m N t=true:=by
 apply Classical.byContradiction
 intro hno
 have hne:∀N,cF n m N t=false:=fun N=>by
  cases h:cF n m N t with
  |false=>rfl
  |true=>exact absurd ⟨N,h⟩ hno
 let T:Nat→Tb:=fun k=>Nat.rec t (fun _ s=>(stepT n m s).getD s) k
 have hT1:∀k,T (k+1)=(stepT n m (T k)).getD (T k):=fun k=>rfl
 have hE:∀k N,cF n m N (T k)=false:=by
  intro k
  induction k with
  |zero=>exact hne
  |succ k ih=>
   intro N
   rw[hT1]
   cases hs:stepT n m (T k) with
   |none=>have:=ih 0;simp[cF,hs] at this
   |some t'=>
    have:=ih (N+1)
    simp only[cF,hs] at this
    exact this
 have hS:∀k,stepT n m (T k)=some (T (k+1)):=fun k=>by
  rw[hT1]
  cases hs:stepT n m (T k) with
  |none=>have:=hE k 0;simp[cF,hs] at this
  |some t'=>rfl
 have ql:∀k,Run n m t0 (T k)∧fz m (T k):=by
  intro k
  induction k with
  |zero=>exact⟨hR,hF⟩
  |succ k ih=>exact EO ih.1 ih.2 (hS k)
 have Ly:∀k,∃p:Nat×Nat,lr n m (T k) p.1 p.2∧T (k+1)=dB (T k) p.1 p.2:=fun k=>by
  obtain⟨r,c,h1,h2,_⟩:=Lu (hS k)
  exact⟨(r,c),h1,h2⟩
 let p:Nat→Nat×Nat:=fun k=>Classical.choose (Ly k)
 have hp:∀k,lr n m (T k) (p k).1 (p k).2∧T (k+1)=dB (T k) (p k).1 (p k).2:=fun k=>Classical.choose_spec (Ly k)
 obtain⟨i,j,hij,he⟩:=EJ (uM (t0.basic++t0.free) (m+n)) (fun k=>(T k).basic++(T k).free) fun k=>by
  have h1:=@Lj (t0.basic++t0.free) ((T k).basic++(T k).free) fun v hv=>(ql k).1.perm.mem_iff.1 hv
  rwa [List.length_append,(ql k).1.wf.basic,(ql k).1.wf.free] at h1
 obtain⟨e1,e2⟩:=List.append_inj he (by rw[(ql i).1.wf.basic,(ql j).1.wf.basic])
 exact Yz (fun k=>(ql k).1) (fun k=>(ql k).2) (fun k=>(hp k).1) (fun k=>(hp k).2) hij e1 e2
end
open Go.Proofs.YtgejbpobaicgfaaGreat.Ir
open Go.Proofs
theorem LA (p q:Rat):(if(!(decide (p<0)==decide (q<0)))=true then -((p.num.natAbs:Int)*(q.num.natAbs:Int)) else(p.num.natAbs:Int)*(q.num.natAbs:Int))=p.num*q.num:=by
 have h1:=qg p
 have h2:=qg q
 by_cases hp:p<0<;>by_cases hq:q<0<;>simp only[hp,hq,decide_true,decide_false,if_true,Bool.false_eq_true,if_false] at h1 h2<;>rw[h1,h2]<;>simp[hp,hq,Int.neg_mul,Int.mul_neg]
theorem LC (p q:Rat):cE (!(decide (p<0)==decide (q<0))) ((p.num.natAbs:Int)*(q.num.natAbs:Int)) ((p.den:Int)*(q.den:Int))=p*q:=by
 unfold cE
 rw[LA,show((p.den:Int)*(q.den:Int)).toNat=p.den*q.den by rw[←Int.natCast_mul,Int.toNat_natCast],Rat.mkRat_eq_div]
 have h1:(p.num:Rat) / (p.den:Rat)=p:=by rw[←Rat.mkRat_eq_div,Rat.mkRat_self]
 have h2:(q.num:Rat) / (q.den:Rat)=q:=by rw[←Rat.mkRat_eq_div,Rat.mkRat_self]
 have h3:(p.den:Rat)≠0:=by have:=p.den_nz;exact_mod_cast this
 have h4:(q.den:Rat)≠0:=by have:=q.den_nz;exact_mod_cast this
 rw[Rat.intCast_mul,Rat.natCast_mul]
 conv=>rhs;rw[←h1,←h2]
 grind
theorem LD {p q:Rat} (hq0:q≠0):cE (!(decide (p<0)==decide (q<0))) ((p.num.natAbs:Int)*(q.den:Int)) ((p.den:Int)*(q.num.natAbs:Int))=p / q:=by
 unfold cE
 rw[show((p.den:Int)*(q.num.natAbs:Int)).toNat=p.den*q.num.natAbs by rw[←Int.natCast_mul,Int.toNat_natCast],Rat.mkRat_eq_div]
 have h1:(p.num:Rat) / (p.den:Rat)=p:=by rw[←Rat.mkRat_eq_div,Rat.mkRat_self]
 have h2:(q.num:Rat) / (q.den:Rat)=q:=by rw[←Rat.mkRat_eq_div,Rat.mkRat_self]
 have h3:(p.den:Rat)≠0:=by have:=p.den_nz;exact_mod_cast this
 have h4:(q.den:Rat)≠0:=by have:=q.den_nz;exact_mod_cast this
 have h5:=qg p
 have h6:=qg q
 have h7:(q.num:Rat)≠0:=fun h=>hq0 (by rw[←h2,h];grind)
 rw[Rat.natCast_mul]
 conv=>rhs;rw[←h1,←h2]
 have h8:((p.num.natAbs:Int):Rat)=(p.num.natAbs:Rat):=Rat.intCast_natCast _
 have h9:((q.num.natAbs:Int):Rat)=(q.num.natAbs:Rat):=Rat.intCast_natCast _
 have h10:((q.den:Int):Rat)=(q.den:Rat):=Rat.intCast_natCast _
 have h5':(p.num:Rat)=if decide (p<0)=true then -(p.num.natAbs:Rat) else(p.num.natAbs:Rat):=by
  rw[←h8];conv=>lhs;rw[h5]
  split
  ·rw[Rat.intCast_neg]
  ·rfl
 have h6':(q.num:Rat)=if decide (q<0)=true then -(q.num.natAbs:Rat) else(q.num.natAbs:Rat):=by
  rw[←h9];conv=>lhs;rw[h6]
  split
  ·rw[Rat.intCast_neg]
  ·rfl
 have hc:((if(!(decide (p<0)==decide (q<0)))=true then -((p.num.natAbs:Int)*(q.den:Int)) else(p.num.natAbs:Int)*(q.den:Int):Int):Rat)=if(!(decide (p<0)==decide (q<0)))=true then -((p.num.natAbs:Rat)*(q.den:Rat)) else(p.num.natAbs:Rat)*(q.den:Rat):=by
  split
  ·rw[Rat.intCast_neg,Rat.intCast_mul,h8,h10]
  ·rw[Rat.intCast_mul,h8,h10]
 rw[hc]
 generalize (p.num:Rat)=pn at*
 generalize (q.num:Rat)=qn at*
 generalize (p.num.natAbs:Rat)=pa at*
 generalize (q.num.natAbs:Rat)=qa at*
 generalize (p.den:Rat)=pd at*
 generalize (q.den:Rat)=qd at*
 by_cases hp:p<0<;>by_cases hq:q<0<;>simp only[hp,hq,decide_true,decide_false,if_true,Bool.false_eq_true,if_false,BEq.rfl,Bool.not_true,beq_iff_eq,reduceCtorEq] at h5' h6' ⊢<;>(try simp)<;>subst h5' h6'<;>grind
def Ad:bf:=⟨145,aW×aW,.cons (dc sF) (.one (dc sF)),fun a=>bM a.1∧bM a.2,fun a=>iH (aO a.1*aO a.2)⟩
theorem h410:Holds Tryz.prog Ad:=by
 refine con (L:=[r7,su]) Ad xt (fun _ _=> .look) (bu.none _) (by simpa using⟨h153,h126⟩) (by kernel_rfl) (by kernel_rfl) (fun _=>rfl) ?_
 rintro⟨x,y⟩ ⟨⟨p,i,hx,hz,hi⟩,⟨q,j,hy,hw,hj⟩⟩
 simp only at hx hy
 subst hx hy
 refine bh (let z0:=(ah p).snd.fst;let z1:=(ah q).snd.fst;let z2:=(ah p).snd.snd;let z3:=(ah q).snd.snd;let z4:=aM (ac z0*ac z1);let z5:=aM (ac z2*ac z3);let z6:=ah (cE (!(ah p).fst==(ah q).fst) (ac z4) (ac z5));let z7:=ai.i .u32;let z8:=ah (aO (ah p)*aO (ah q));((ag z0∧ag z1)∧List.length z0≤100000000000∧List.length z1≤100000000000)∧((ag z2∧ag z3)∧List.length z2≤100000000000∧List.length z3≤100000000000)∧((ag z4∧ag z5)∧(z4.length≤1000000000∧z5.length≤1000000000)∧(0:Int)<ac z5)∧(SV.agg [SV.sb z6.fst,SV.row z7 z6.snd.fst,SV.row z7 z6.snd.snd]).same (SV.agg [SV.sb z8.fst,SV.row z7 z8.snd.fst,SV.row z7 z8.snd.snd])) (by kernel_rfl) ?_
 conv=>zeta
 obtain⟨e1,⟨u1,_,v1⟩,⟨u2,_,v2⟩⟩:=ij p
 obtain⟨e2,⟨u3,_,v3⟩,⟨u4,_,v4⟩⟩:=ij q
 obtain⟨m1,m2⟩:=ln hz
 obtain⟨m3,m4⟩:=ln hw
 have d1:=p.den_pos
 have d2:=q.den_pos
 rw[v1,v2,v3,v4,e1,e2,cb,cb]
 have X0:0≤(p.num.natAbs:Int)*(q.num.natAbs:Int):=Int.mul_nonneg (by omega) (by omega)
 have D0:0<(p.den:Int)*(q.den:Int):=Int.mul_pos (by omega) (by omega)
 have l1:=fQ X0 (jX (by omega) hz.1 hw.1)
 have l2:=fQ (Int.le_of_lt D0) (jX (by omega) hz.2 hw.2)
 obtain⟨c1,c2,c3⟩:=bZ X0
 obtain⟨c7,c8,c9⟩:=bZ (Int.le_of_lt D0)
 rw[c1,c7]
 exact⟨⟨⟨u1,u3⟩,by omega,by omega⟩,⟨⟨u2,u4⟩,by omega,by omega⟩,⟨⟨c2,c8⟩,⟨by omega,by omega⟩,D0⟩,qf (LC p q)⟩
def Ae:bf:=⟨169,aW×aW,.cons (dc sF) (.one (dc sF)),fun a=>(bM a.1∧bM a.2)∧aO a.2≠0,fun a=> .aD [iH (aO a.1 / aO a.2),.si .i64 0]⟩
theorem h416:Holds Tryz.prog Ae:=by
 refine con (L:=[r7,zB]) Ae xB (fun _ _=> .look) (bu.none _) (by simpa using⟨h153,h151⟩) (by kernel_rfl) (by kernel_rfl) (fun _=>rfl) ?_
 rintro⟨x,y⟩ ⟨⟨⟨p,i,hx,hz,hi⟩,⟨q,j,hy,hw,hj⟩⟩,hq0⟩
 simp only at hx hy hq0
 subst hx hy
 refine bh (let z0:=(ah p).snd.fst;let z1:=(ah q).snd.snd;let z2:=(ah p).snd.snd;let z3:=(ah q).snd.fst;let z4:=aM (ac z0*ac z1);let z5:=aM (ac z2*ac z3);let z6:=ah (cE (!(ah p).fst==(ah q).fst) (ac z4) (ac z5));let z7:=ai.i .u32;let z8:=[SV.si .i64 0];let z9:=ah (aO (ah p) / aO (ah q));((ag z0∧ag z1)∧List.length z0≤100000000000∧List.length z1≤100000000000)∧((ag z2∧ag z3)∧List.length z2≤100000000000∧List.length z3≤100000000000)∧((ag z4∧ag z5)∧(z4.length≤1000000000∧z5.length≤1000000000)∧(0:Int)<ac z5)∧(SV.aD (SV.agg [SV.sb z6.fst,SV.row z7 z6.snd.fst,SV.row z7 z6.snd.snd]::z8)).same (SV.aD (SV.agg [SV.sb z9.fst,SV.row z7 z9.snd.fst,SV.row z7 z9.snd.snd]::z8))) (by kernel_rfl) ?_
 conv=>zeta
 rw[cb] at hq0
 obtain⟨e1,⟨u1,_,v1⟩,⟨u2,_,v2⟩⟩:=ij p
 obtain⟨e2,⟨u3,_,v3⟩,⟨u4,_,v4⟩⟩:=ij q
 obtain⟨m1,m2⟩:=ln hz
 obtain⟨m3,m4⟩:=ln hw
 have d1:=p.den_pos
 have d2:=q.den_pos
 have d3:q.num≠0:=fun h=>hq0 (Rat.num_eq_zero.1 h)
 rw[v1,v2,v3,v4,e1,e2,cb,cb]
 have X0:0≤(p.num.natAbs:Int)*(q.den:Int):=Int.mul_nonneg (by omega) (by omega)
 have D0:0<(p.den:Int)*(q.num.natAbs:Int):=Int.mul_pos (by omega) (by omega)
 have l1:=fQ X0 (jX (by omega) hz.1 hw.2)
 have l2:=fQ (Int.le_of_lt D0) (jX (by omega) hz.2 hw.1)
 obtain⟨c1,c2,c3⟩:=bZ X0
 obtain⟨c7,c8,c9⟩:=bZ (Int.le_of_lt D0)
 rw[c1,c7,LD hq0]
 exact⟨⟨⟨u1,u4⟩,by omega,by omega⟩,⟨⟨u2,u3⟩,by omega,by omega⟩,⟨⟨c2,c8⟩,⟨by omega,by omega⟩,D0⟩,rfl⟩
def ER:bf:=⟨161,List Int,.one (bR (.i .u32)),fun a=>ag (show List Int from a)∧(show List Int from a).length≤1000000000,fun a=> .sb (mV a)⟩
theorem h414:Holds Tryz.prog ER:=by
 refine con (L:=[lQ]) ER xy (fun _ _=> .look) (bu.none _) (by simpa using h152) (by kernel_rfl) (by kernel_rfl) (fun _=>rfl) ?_
 rintro(a:List Int) h
 refine bh (a.length≤1000000000000∧(SV.sb (decide ((↑(aJ a).length:Int)=(↑a.length:Int)))).same (SV.sb (mV a))) (by kernel_rfl) ?_
 simp only[vcs]
 obtain⟨hd,hl⟩:ag a∧a.length≤1000000000:=h
 refine⟨by omega,?_⟩
 cases hb:mV a with
 |true=>
  rw[lg hd,jS hd (ou.1 hb)]
  exact decide_eq_true rfl
 |false=>
  refine decide_eq_false fun h2=>?_
  have h3:aJ a=a:=by
   unfold aJ at h2 ⊢
   rw[List.length_take] at h2
   exact List.take_of_length_le (by omega)
  have h4:=(@lS a).2
  rw[h3] at h4
  rw[ou.2 h4] at hb
  cases hb
def ES:bf:=⟨162,aW,.one (dc sF),fun x=>x.2.1.length≤1000000000,fun x=> .agg [.sb x.1,.sb (decide (x.2.1=[]))]⟩
theorem h415:Holds Tryz.prog ES:=by
 refine con (L:=[]) ES xA (fun _ _=> .look) (bu.none _) (by simp) (by kernel_rfl) (by kernel_rfl) (fun _=>rfl) ?_
 rintro⟨s,n,d⟩ h
 refine bh ((SV.agg [SV.sb s,SV.sb (decide ((↑n.length:Int)=(0:Int)))]).same (SV.agg [SV.sb s,SV.sb (decide (n=[]))])) (by kernel_rfl) ?_
 have e:decide ((n.length:Int)=0)=decide (n=[]):=by
  rw[decide_eq_decide]
  exact⟨fun h=>List.eq_nil_of_length_eq_zero (by omega),fun h=>by rw[h];rfl⟩
 rw[e]
 rfl
def Af:bf:=⟨125,aW,.one (dc sF),fun x=>(ag x.2.1∧ag x.2.2)∧x.2.1.length≤1000000∧x.2.2.length≤1000000,fun x=> .sb (okF x)⟩
theorem h407:Holds Tryz.prog Af:=by
 refine con (L:=[ER,ES,zz,rW,rV]) Af xq (fun _ _=> .look) (bu.none _) (by simpa using⟨h414,h415,h165g,h128,h132⟩) (by kernel_rfl) (by kernel_rfl) (fun _=>rfl) ?_
 rintro⟨s,n,d⟩ ⟨⟨hn,hd⟩,hl1,hl2⟩
 refine bh (let z0:=SV.sb (okF (s,n,d));let z1:=decide ((↑d.length:Int)=(0:Int));let z2:=s==true&&(decide (n=[])==true&&true);let z3:=aM (bT (ac n) (ac d));let z4:=aM (1:Int);(ag n∧n.length≤1000000000)∧((!mV n)=true→(SV.bl false).same z0)∧((!mV n)=false→(ag d∧d.length≤1000000000)∧((!mV d)=true→(SV.bl false).same z0)∧((!mV d)=false→(z1=true→(SV.bl false).same z0)∧(z1=false→n.length≤1000000000∧(z2=true→(SV.bl false).same z0)∧(z2=false→((ag n∧ag d)∧n.length≤1000000000∧d.length≤1000000000)∧((0:Int)≤(1:Int)∧(1:Int)<(18446744073709551616:Int))∧((ag z3∧ag z4)∧z3.length≤1000000000000∧z4.length≤1000000000000)∧(SV.sb (decide (dS (ac z3) (ac z4)=(0:Int)))).same z0))))) (by kernel_rfl) ?_
 simp only[vcs]
 have hn:ag n:=hn
 have hd:ag d:=hd
 have hl1:n.length≤1000000:=hl1
 have hl2:d.length≤1000000:=hl2
 have ET:¬(bO n∧bO d∧d≠[])→false=okF (s,n,d):=fun h=>by
  cases hb:okF (s,n,d) with
  |false=>rfl
  |true=>exact absurd (Yl hb) h
 have YF:∀{a:List Int},((a.length:Nat):Int)=0→a=[]:=fun h=>List.eq_nil_of_length_eq_zero (by omega)
 have ne_of:∀{a:List Int},¬((a.length:Nat):Int)=0→a≠[]:=fun h h2=>h (by rw[h2];rfl)
 refine⟨⟨hn,by omega⟩,fun h1=>ET fun h=>?_,fun h1=>⟨⟨hd,by omega⟩,fun h2=>ET fun h=>?_,fun h2=>⟨fun h3=>ET fun h=>h.2.2 (YF h3),fun h3=>⟨by omega,fun h4=>?_,fun h4=>?_⟩⟩⟩⟩
 ·have:=ou.2 h.1
  rw[h1] at this
  cases this
 ·have:=ou.2 h.2.1
  rw[h2] at this
  cases this
 all_goals
  have he:=okF_eq (s:=s) hn hd (ou.1 h1) (ou.1 h2) (ne_of h3)
  have dp:=Et hd (ou.1 h2) (ne_of h3)
  have hg:=@KU (ac n) (ac d) dp
  obtain⟨g1,g2,g3⟩:=bZ (show 0≤bT (ac n) (ac d) by omega)
  obtain⟨o1,o2,o3⟩:=bZ (show(0:Int)≤1 by omega)
  have uD:bT (ac n) (ac d)≤ac d:=by
   unfold bT
   have:=Nat.gcd_le_right (ac n).toNat (show 0<(ac d).toNat by omega)
   omega
  rw[he]
 ·simp only[beq_iff_eq,Bool.and_true,Bool.and_eq_true,decide_eq_true_eq] at h4
  rw[if_pos h4.2,h4.1]
  rfl
 ·have hgl:=qc g2 hd g3 (by rw[g1];exact uD)
  refine⟨⟨⟨hn,hd⟩,by omega,by omega⟩,by omega,⟨⟨g2,o2⟩,by omega,by decide⟩,?_⟩
  rw[g1,o1]
  have hcm:(dS (bT (ac n) (ac d)) 1=0)=(bT (ac n) (ac d)=1):=by
   unfold dS
   apply propext
   constructor
   ·intro h
    split at h
    ·omega
    ·split at h<;>omega
   ·intro h
    rw[h]
    rfl
  simp only[hcm]
  by_cases hn0:n=[]
  ·rw[if_pos hn0]
   have hs:s=false:=by
    cases s with
    |false=>rfl
    |true=>exact absurd h4 (by simp[hn0])
   have hgd:bT (ac n) (ac d)=ac d:=by
    rw[hn0];unfold bT;simp[ac];omega
   rw[hgd,hs,Bool.not_false,Bool.true_and,decide_eq_decide]
   constructor
   ·intro h
    rw[←jS hd (ou.1 h2),h]
    rfl
   ·intro h
    rw[h]
    rfl
  ·rw[if_neg hn0]
theorem uO {p q:Rat} {i j:Nat} (hp:Sz i p) (hq:Sz j q):Sz (i+j) (p*q):=by
 rw[←LC]
 unfold cE
 rw[LA]
 have d1:=p.den_pos
 have d2:=q.den_pos
 have D0:0<(p.den:Int)*(q.den:Int):=Int.mul_pos (by omega) (by omega)
 refine zA (by omega) ?_ ?_
 ·rw[Int.natAbs_mul,Int.natCast_mul]
  exact jX (by omega) hp.1 hq.1
 ·rw[Int.toNat_of_nonneg (by omega)]
  exact jX (by omega) hp.2 hq.2
theorem EU {p q:Rat} {i j:Nat} (hp:Sz i p) (hq:Sz j q) (h0:q≠0):Sz (i+j) (p / q):=by
 rw[←LD h0]
 unfold cE
 have d1:=p.den_pos
 have d2:=q.den_pos
 have d3:q.num≠0:=fun h=>h0 (Rat.num_eq_zero.1 h)
 have D0:0<(p.den:Int)*(q.num.natAbs:Int):=Int.mul_pos (by omega) (by omega)
 have hX:=jX (a:=(p.num.natAbs:Int)) (by omega) hp.1 hq.2
 refine zA (by omega) ?_ ?_
 ·have e:(if(!(decide (p<0)==decide (q<0)))=true then -((p.num.natAbs:Int)*(q.den:Int)) else(p.num.natAbs:Int)*(q.den:Int)).natAbs=((p.num.natAbs:Int)*(q.den:Int)).natAbs:=by
   split
   ·rw[Int.natAbs_neg]
   ·rfl
  rw[e]
  have X0:0≤(p.num.natAbs:Int)*(q.den:Int):=Int.mul_nonneg (by omega) (by omega)
  omega
 ·rw[Int.toNat_of_nonneg (by omega)]
  exact jX (by omega) hp.2 hq.1
theorem YG {p q:Rat}:0<ik p q↔q<p:=by
 unfold ik
 split
 ·rename_i h;constructor<;>intro h2<;>first|omega|grind
 ·split
  ·rename_i h;exact⟨fun _=>h,fun _=>by omega⟩
  ·rename_i h;exact⟨fun h2=>by omega,fun h2=>absurd h2 h⟩
theorem YH {p q:Rat}:ik p q=0↔p=q:=by
 unfold ik
 split
 ·rename_i h;constructor<;>intro h2<;>first|omega|grind
 ·split
  ·rename_i h;constructor<;>intro h2<;>first|omega|grind
  ·constructor<;>intro h2<;>first|rfl|grind
theorem LE {p q:Rat}:ik p q<0↔p<q:=by
 unfold ik
 split
 ·rename_i h;exact⟨fun _=>h,fun _=>by omega⟩
 ·rename_i h
  split
  ·exact⟨fun h2=>by omega,fun h2=>absurd h2 h⟩
  ·exact⟨fun h2=>by omega,fun h2=>absurd h2 h⟩
def fL (l:List Rat):List aW:=l.map ah
def fM (l:List (List Rat)):List (List aW):=l.map fL
def vL (l:List aW):List Rat:=l.map aO
theorem mW (l:List Rat):vL (fL l)=l:=by
 unfold vL fL
 rw[List.map_map]
 conv=>rhs;rw[←List.map_id l]
 exact List.map_congr_left fun q _=>cb q
theorem gP (x:aW):(x.1,x.2.1,x.2.2)=x:=rfl
theorem ed {l:List Rat}:(fL l).length=l.length:=List.length_map _
theorem Ag {l:List (List Rat)}:(fM l).length=l.length:=List.length_map _
theorem gl {l:List Rat} {i:Nat} (h:i<l.length) {d:aW}:ae (fL l) i d=ah (ae l i 0):=by
 rw[bF (by rw[ed];exact h),bF h]
 simp[fL]
theorem EV {l:List (List Rat)} {i:Nat} (h:i<l.length) {d:List aW}:ae (fM l) i d=fL (ae l i []):=by
 rw[bF (by rw[Ag];exact h),bF h]
 simp[fM]
structure jf where
 n:Int
 m:Int
 k0:Nat
 k1:Nat
 k3:Nat
 k4:Nat
 a7:List (List aW)
 bound:List aW
 cost:List aW
 v:aW
 basic:List Int
 free:List Int
def jf.gQ (x:jf):a8:=
 [.cells [.si .i64 x.n,.si .i64 x.m,.ow 1 x.k0 1,.ow 2 x.k1 3,.row sF x.cost,.sb x.v.1,.row (.i .u32) x.v.2.1,.row (.i .u32) x.v.2.2,.ow 3 x.k3 1,.ow 4 x.k4 1] 179 10 false,
  .row (.aY sF) x.a7 72 false,.row sF x.bound 70 false,.row (.i .i64) x.basic 3 false,.row (.i .i64) x.free 3 false]
def Ah:a8→Option jf
 |[.cells [a,b,.ow 1 k0 1,.ow 2 k1 3,c,v0,v1,v2,.ow 3 k3 1,.ow 4 k4 1] 179 10 false,.row s1 l1 72 false,.row s2 l2 70 false,.row s3 l3 3 false,.row s4 l4 3 false]=>
  match a.int .i64,b.int .i64,jM sF c,fj sF [v0,v1,v2] with
  |some a,some b,some c,some v=>match gh s1 (.aY sF) l1,gh s2 sF l2,gh s3 (.i .i64) l3,gh s4 (.i .i64) l4 with
   |some l1,some l2,some l3,some l4=>some ⟨a,b,k0,k1,k3,k4,l1,l2,c,v,l3,l4⟩
   |_,_,_,_=>none
  |_,_,_,_=>none
 |_=>none
theorem YI {o:a8} {x:jf} (h:Ah o=some x):gO o=gO x.gQ:=by
 unfold Ah at h
 split at h
 ·split at h
  ·rename_i h1 h2 h3 h4
   split at h
   ·rename_i g1 g2 g3 g4
    simp only[Option.some.injEq] at h
    subst h
    obtain⟨rfl,e1⟩:=nE g1
    obtain⟨rfl,e2⟩:=nE g2
    obtain⟨rfl,e3⟩:=nE g3
    obtain⟨rfl,e4⟩:=nE g4
    cases e1;cases e2;cases e3;cases e4
    have hv:=js h4
    simp only[List.map_cons,List.map_nil,bP,bN,List.cons.injEq,and_true,List.nil_append,List.cons_append] at hv
    simp only[jf.gQ,gO,List.map_cons,List.map_nil,af.g,gL,jN h1,jN h2,nS h3,SV.g]
    simp only[hv]
    rfl
   ·cases h
  ·cases h
 ·cases h
theorem ov {s:ai} {a b:List s.T} (h:bn s a=bn s b):a=b:=by
 by_cases hz:s.sz=0
 ·exact absurd hz (by
   have:∀s:ai,0<s.sz:=fun s=>by
    induction s<;>simp only[ai.sz]<;>omega
   have:=this s
   omega)
 ·have hl:=congrArg List.length h
  rw[dD,dD] at hl
  exact mO s (Nat.eq_of_mul_eq_mul_right (by omega) hl) h
theorem YJ {x y:jf} (h:gO x.gQ=gO y.gQ):x=y:=by
 obtain⟨n,m,k0,k1,k3,k4,c,b,g,⟨v0,v1,v2⟩,bs,fr⟩:=x
 obtain⟨n',m',k0',k1',k3',k4',c',b',g',⟨v0',v1',v2'⟩,bs',fr'⟩:=y
 simp only[jf.gQ,gO,List.map_cons,List.map_nil,af.g,gL,SV.g,List.cons.injEq,aP.cells.injEq,and_true,true_and,AV.sc.injEq,Value.int.injEq,Value.bool.injEq,AV.os.injEq,AV.sl.injEq] at h
 obtain⟨⟨rfl,rfl,⟨rfl,_⟩,⟨rfl,_⟩,⟨_,h1⟩,rfl,⟨_,h2⟩,⟨_,h3⟩,⟨rfl,_⟩,⟨rfl,_⟩⟩,h4,h5,h6,h7⟩:=h
 rw[ov (s:=sF) h1,ov (s:=.i .u32) h2,ov (s:=.i .u32) h3,ov (s:=.aY sF) h4,ov (s:=sF) h5,ov (s:=.i .i64) h6,ov (s:=.i .i64) h7]
abbrev aF (n m:Int) (t:Tb):jf:=⟨n,m,t.a7.length,t.bound.length,t.basic.length,t.free.length,fM t.a7,fL t.bound,fL t.cost,ah t.value,t.basic,t.free⟩
def jf.t (x:jf):Tb:=⟨x.a7.map vL,vL x.bound,vL x.cost,aO x.v,x.basic,x.free⟩
theorem mX {n m:Int} {t:Tb}:(aF n m t).t=t:=by
 have e:(fM t.a7).map vL=t.a7:=by
  unfold fM
  rw[List.map_map]
  conv=>rhs;rw[←List.map_id t.a7]
  exact List.map_congr_left fun q _=>mW q
 unfold jf.t aF
 simp only[e,mW,cb]
theorem YK (x:jf):(⟨x.n,x.m,x.k0,x.k1,x.k3,x.k4,x.a7,x.bound,x.cost,(x.v.1,x.v.2.1,x.v.2.2),x.basic,x.free⟩:jf)=x:=rfl
theorem LG {n m:Int} {t:Tb}:(aF n m t).n=n:=rfl
theorem LH {n m:Int} {t:Tb}:(aF n m t).m=m:=rfl
def qm (k:Nat) (t:Tb):Prop:=(∀l∈t.a7,∀q∈l,Sz k q)∧(∀q∈t.bound,Sz k q)∧(∀q∈t.cost,Sz k q)∧Sz k t.value
def fA (n m:Int) (t:Tb):Prop:=((0≤n∧n≤1000)∧(0≤m∧m≤1000))∧t.WF n.toNat m.toNat∧qm 1000000 t
def ox (f:FuncId) (β:Type) (A:mL β) (dom:Int→Int→Tb→β→Prop) (res:Int→Int→Tb→β→SV) (out:Int→Int→Tb→β→Tb):cK where
 f:=f
 α:=jf×β
 put a:=.ptr 0 0 10::A.put a.2
 st a:=a.1.gQ
 dec v o:=match v with
  | .ptr 0 0 10::r=>match Ah o,A.dec r with
   |some s,some b=>some (s,b)
   |_,_=>none
  |_=>none
 ok v o a h:=by
  split at h
  ·split at h
   ·rename_i h1 h2
    simp only[Option.some.injEq] at h;subst h
    exact⟨by simp only[gL,A.ok _ _ h2],YI h1⟩
   ·cases h
  ·cases h
 inj a b h1 h2:=by
  simp only[gL,List.cons.injEq,true_and] at h1
  exact Prod.ext (YJ h2) (A.inj _ _ h1)
 dom a:=∃n m t,a.1=aF n m t∧fA n m t∧dom n m t a.2
 res a:=res a.1.n a.1.m a.1.t a.2
 out a:=(aF a.1.n a.1.m (out a.1.n a.1.m a.1.t a.2)).gQ
theorem dm {q:Rat} {k:Nat} (h:Sz k q) (hk:k≤100000000):bM (ah q):=⟨q,k,rfl,h,hk⟩
section
variable {n m:Int} {t:Tb}
theorem fA.cf (h:fA n m t) {i j:Nat} (hi:i<m.toNat) (hj:j<n.toNat):Sz 1000000 (t.cf i j):=by
 have h1:=dQ (l:=t.a7) (d:=[]) (show i<t.a7.length by rw[h.2.1.a7];exact hi)
 exact h.2.2.1 _ h1 _ (dQ (by rw[h.2.1.row i hi];exact hj))
theorem fA.bd (h:fA n m t) {i:Nat} (hi:i<m.toNat):Sz 1000000 (t.bd i):=h.2.2.2.1 _ (dQ (by rw[h.2.1.bound];exact hi))
theorem fA.cs (h:fA n m t) {j:Nat} (hj:j<n.toNat):Sz 1000000 (t.cs j):=h.2.2.2.2.1 _ (dQ (by rw[h.2.1.cost];exact hj))
end
theorem LI {q:Rat}:0<e7 q↔0<q:=by
 unfold e7
 split
 ·rename_i h;constructor<;>intro h2<;>first|omega|grind
 ·split
  ·rename_i h;exact⟨fun _=>h,fun _=>by omega⟩
  ·rename_i h;exact⟨fun h2=>by omega,fun h2=>absurd h2 h⟩
theorem LJ {q:Rat}:e7 q=0↔q=0:=by
 unfold e7
 split
 ·rename_i h;constructor<;>intro h2<;>first|omega|grind
 ·split
  ·rename_i h;constructor<;>intro h2<;>first|omega|grind
  ·constructor<;>intro h2<;>first|rfl|grind
theorem YL {q:Rat}:e7 q<0↔q<0:=by
 unfold e7
 split
 ·rename_i h;exact⟨fun _=>h,fun _=>by omega⟩
 ·rename_i h
  split
  ·exact⟨fun h2=>by omega,fun h2=>absurd h2 h⟩
  ·exact⟨fun h2=>by omega,fun h2=>absurd h2 h⟩
def EW:cK:=ox 146 Unit .nil (fun _ _ _ _=>True) (fun n _ t _=> .si .i64 (cj t n.toNat)) (fun _ _ t _=>t)
def YM (n m:Int) (t:Tb):Nat→bz
 |3=> .inv Int (fun j=>⟨[(0,.ptr 0 0 10),(3,.si .i64 (cj t j.toNat)),(9,.ow 4 t.free.length 1),(10,.si .i64 t.free.length),(11,.si .i64 j)],(aF n m t).gQ⟩)
   (fun s=>iS s 11) (fun j=>0≤j∧j≤n) (fun j=>(n - j).toNat) fun _ _=> .look
 |_=> .look
theorem h411:eh Tryz.prog EW:=by
 refine lN (L:=[sw]) (W:=[]) EW xu (fun a=>YM a.1.n a.1.m a.1.t) (by simp) (by simpa using h99) (by kernel_rfl) (fun _=>rfl) (by kernel_rfl) ?_
 rintro⟨x,u⟩ ⟨n,m,t,hx,hok, -⟩
 simp only at hx
 subst hx
 refine bh (let z0:=SV.ptr 0 0 10;let z1:=(aF n m t).t;let z2:=SV.ow 4 (aF n m t).k4 1;let z3:=z1.free.length;let z4:=SV.ow 4 z3 1;let z5:=SV.si .i64 (↑z3:Int);let z6:=(aF n m t).n;let z7:=ai.i .u32;let z8:=aF z6 (aF n m t).m z1;let z9:=af.cells [SV.si .i64 z8.n,SV.si .i64 z8.m,SV.ow 1 z8.k0 1,SV.ow 2 z8.k1 3,SV.row sF z8.cost,SV.sb z8.v.fst,SV.row z7 z8.v.snd.fst,SV.row z7 z8.v.snd.snd,SV.ow 3 z8.k3 1,SV.ow 4 z8.k4 1] 179 10 false;let ak:=af.row sF.aY z8.a7 72 false;let al:=af.row sF z8.bound 70 false;let z12:=ai.i .i64;let au:=af.row z12 z8.basic 3 false;let ar:=af.row z12 z8.free 3 false;let ax:=z8.free.length;(((z0.same z0∧(SV.il .i64 (-1:Int)).same (SV.si .i64 (cj z1 0))∧z2.same z4∧(SV.si .i64 (↑(aF n m t).k4:Int)).same z5∧(SV.il .i64 0).same (SV.si .i64 0)∧True)∧(af.cells [SV.si .i64 z6,SV.si .i64 (aF n m t).m,SV.ow 1 (aF n m t).k0 1,SV.ow 2 (aF n m t).k1 3,SV.row sF (aF n m t).cost,SV.sb (aF n m t).v.fst,SV.row z7 (aF n m t).v.snd.fst,SV.row z7 (aF n m t).v.snd.snd,SV.ow 3 (aF n m t).k3 1,z2] 179 10 false).same z9∧(af.row sF.aY (aF n m t).a7 72 false).same ak∧(af.row sF (aF n m t).bound 70 false).same al∧(af.row z12 (aF n m t).basic 3 false).same au∧(af.row z12 (aF n m t).free 3 false).same ar∧True)∧(0:Int)≤(0:Int)∧(0:Int)≤z6)∧∀(x:Int),let ay:=decide (x<(↑z3:Int));let z17:=ae z8.cost x.toNat sF.dflt;let aG:=(z17.fst,z17.snd.fst,z17.snd.snd);let aH:=decide ((0:Int)<e7 (aO aG));let z20:=cj z1 x.toNat;let z21:=decide (z20<(0:Int));let z22:=x+(1:Int);let z23:=SV.si .i64 (cj z1 z22.toNat);let z24:=SV.si .i64 z22;let z25:=decide (ae z8.free x.toNat (0:Int)<ae z8.free z20.toNat (0:Int));let z26:=SV.si .i64 z20;(0:Int)≤x∧x≤z6→(ay=true→z3=ax∧(0:Int)≤x∧x<(↑ax:Int)∧z3=ax∧x.toNat<ax∧(0:Int)≤x∧x<(↑z8.cost.length:Int)∧x.toNat<z8.cost.length∧bM aG∧(aH=true→(z21=true→aC .i64 z22∧((z0.same z0∧(SV.si .i64 x).same z23∧z4.same z4∧z5.same z5∧z24.same z24∧True)∧z9.same z9∧ak.same ak∧al.same al∧au.same au∧ar.same ar∧True)∧((0:Int)≤z22∧z22≤z6)∧(z6 - z22).toNat<(z6 - x).toNat)∧(z21=false→z8.k4=ax∧(0:Int)≤z20∧z20<(↑ax:Int)∧z8.k4=ax∧z20.toNat<ax∧(z25=true→aC .i64 z22∧((z0.same z0∧(SV.si .i64 x).same z23∧z4.same z4∧z5.same z5∧z24.same z24∧True)∧z9.same z9∧ak.same ak∧al.same al∧au.same au∧ar.same ar∧True)∧((0:Int)≤z22∧z22≤z6)∧(z6 - z22).toNat<(z6 - x).toNat)∧(z25=false→aC .i64 z22∧((z0.same z0∧z26.same z23∧z4.same z4∧z5.same z5∧z24.same z24∧True)∧z9.same z9∧ak.same ak∧al.same al∧au.same au∧ar.same ar∧True)∧((0:Int)≤z22∧z22≤z6)∧(z6 - z22).toNat<(z6 - x).toNat)))∧(aH=false→aC .i64 z22∧((z0.same z0∧z26.same z23∧z4.same z4∧z5.same z5∧z24.same z24∧True)∧z9.same z9∧ak.same ak∧al.same al∧au.same au∧ar.same ar∧True)∧((0:Int)≤z22∧z22≤z6)∧(z6 - z22).toNat<(z6 - x).toNat))∧(ay=false→z26.same (SV.si .i64 (cj z1 z6.toNat))∧z9.same z9∧ak.same ak∧al.same al∧au.same au∧ar.same ar∧True)) (by kernel_rfl) ?_
 simp only[mX]
 try simp only[aF]
 simp only[vcs]
 obtain⟨⟨⟨n0,n1⟩,m0,m1⟩,hw,hz⟩:=id hok
 have hfl:=hw.free
 have hcl:=hw.cost
 have hfc:=@ed t.cost
 refine⟨⟨rfl,by omega,by omega⟩,?_⟩
 rintro j ⟨j0,j1⟩
 have hs:cj t (j+1).toNat=if 0<t.cs j.toNat∧(cj t j.toNat<0∨t.fv j.toNat<t.fv (cj t j.toNat).toNat) then(j.toNat:Int) else cj t j.toNat:=by
  rw[show(j+1).toNat=j.toNat+1 by omega]
  rfl
 have hb:cj t j.toNat<j.toNat:=by
  rcases @sG t j.toNat with⟨h,_⟩|⟨b,h,hlt,_⟩<;>omega
 refine⟨fun hj=>?_,fun hj=>by rw[show j.toNat=n.toNat by omega]⟩
 have hc:ae (fL t.cost) j.toNat sF.dflt=ah (t.cs j.toNat):=gl (by omega)
 simp only[hc,gP,cb,decide_eq_true_eq,decide_eq_false_iff_not,LI]
 have Ai:∀k:Nat,ae t.free k 0=t.fv k:=fun k=>rfl
 rw[Ai,Ai,hs]
 refine⟨j0,hj,by omega,j0,by omega,by omega,dm (hok.cs (by omega)) (by omega),fun hp=>⟨fun hn=>?_,fun hn=>⟨by omega,by omega,by omega,fun hl=>?_,fun hl=>?_⟩⟩,fun hp=>?_⟩
 ·rw[if_pos ⟨hp,.inl hn⟩]
  omega
 ·rw[if_pos ⟨hp,.inr hl⟩]
  omega
 ·rw[if_neg fun h=>h.2.elim hn hl]
  omega
 ·rw[if_neg fun h=>hp h.1]
  omega
def jg (t:Tb) (c k:Nat):aW:=if bU t c k<0 then(false,([],[])) else ah (t.bd (bU t c k).toNat / t.cf (bU t c k).toNat c)
def EX:cK:=ox 147 Int (.one (cT .i64)) (fun n _ _ c=>0≤c∧c<n) (fun _ m t c=> .si .i64 (bU t c.toNat m.toNat)) (fun _ _ t _=>t)
def YN (n m:Int) (t:Tb) (c:Int):Nat→bz
 |4=> .inv Int (fun i=>⟨[(0,.ptr 0 0 10),(1,.si .i64 c),(5,.si .i64 (bU t c.toNat i.toNat)),(6,.ptr 5 0 3),(15,.ow 1 t.a7.length 1),(16,.si .i64 t.a7.length),(17,.si .i64 i)],(aF n m t).gQ++[.cells [.sb (jg t c.toNat i.toNat).1,.row (.i .u32) (jg t c.toNat i.toNat).2.1,.row (.i .u32) (jg t c.toNat i.toNat).2.2] 70 3 false,.dead,.dead]⟩)
   (fun s=>iS s 17) (fun i=>0≤i∧i≤m) (fun i=>(m - i).toNat) fun _ _=> .look
 |_=> .look
theorem h412:eh Tryz.prog EX:=by
 refine lN (L:=[sw,zE,Ae]) (W:=[]) EX xw (fun a=>YN a.1.n a.1.m a.1.t a.2) (by simp) (by simpa using⟨h99,h97,h416⟩) (by kernel_rfl) (fun _=>rfl) (by kernel_rfl) ?_
 rintro⟨x,c⟩ ⟨n,m,t,hx,hok,hd⟩
 simp only at hx hd
 subst hx
 refine bh (let z0:=SV.ptr 0 0 10;let z1:=(aF n m t).t;let z2:=SV.ptr 5 0 3;let z3:=SV.ow 1 (aF n m t).k0 1;let z4:=z1.a7.length;let z5:=SV.ow 1 z4 1;let z6:=SV.si .i64 (↑z4:Int);let z7:=(aF n m t).m;let z8:=ai.i .u32;let z9:=aF (aF n m t).n z7 z1;let ak:=af.cells [SV.si .i64 z9.n,SV.si .i64 z9.m,SV.ow 1 z9.k0 1,SV.ow 2 z9.k1 3,SV.row sF z9.cost,SV.sb z9.v.fst,SV.row z8 z9.v.snd.fst,SV.row z8 z9.v.snd.snd,SV.ow 3 z9.k3 1,SV.ow 4 z9.k4 1] 179 10 false;let al:=z9.a7;let z12:=af.row sF.aY al 72 false;let au:=z9.bound;let ar:=af.row sF au 70 false;let ax:=ai.i .i64;let ay:=af.row ax z9.basic 3 false;let z17:=af.row ax z9.free 3 false;let aG:=jg z1 c.toNat 0;let aH:=sF.aY.dflt;let z20:=z9.basic.length;0=0∧0=0∧(((z0.same z0∧(SV.si .i64 c).same (SV.si .i64 c)∧(SV.il .i64 (-1:Int)).same (SV.si .i64 (bU z1 c.toNat 0))∧z2.same z2∧z3.same z5∧(SV.si .i64 (↑(aF n m t).k0:Int)).same z6∧(SV.il .i64 0).same (SV.si .i64 0)∧True)∧(af.cells [SV.si .i64 (aF n m t).n,SV.si .i64 z7,z3,SV.ow 2 (aF n m t).k1 3,SV.row sF (aF n m t).cost,SV.sb (aF n m t).v.fst,SV.row z8 (aF n m t).v.snd.fst,SV.row z8 (aF n m t).v.snd.snd,SV.ow 3 (aF n m t).k3 1,SV.ow 4 (aF n m t).k4 1] 179 10 false).same ak∧(af.row sF.aY (aF n m t).a7 72 false).same z12∧(af.row sF (aF n m t).bound 70 false).same ar∧(af.row ax (aF n m t).basic 3 false).same ay∧(af.row ax (aF n m t).free 3 false).same z17∧(af.cells [SV.bl false,SV.row z8 [],SV.row z8 []] 70 3 false).same (af.cells [SV.sb aG.fst,SV.row z8 aG.snd.fst,SV.row z8 aG.snd.snd] 70 3 false)∧af.dead.same af.dead∧af.dead.same af.dead∧True)∧(0:Int)≤(0:Int)∧(0:Int)≤z7)∧∀(x:Int),let z21:=decide (x<(↑z4:Int));let z22:=ae al x.toNat aH;let z23:=ae z22 c.toNat sF.dflt;let z24:=(z23.fst,z23.snd.fst,z23.snd.snd);let z25:=decide (e7 (aO z24)≤(0:Int));let z26:=x+(1:Int);let z27:=bU z1 c.toNat x.toNat;let z28:=SV.si .i64 z27;let z29:=SV.si .i64 (bU z1 c.toNat z26.toNat);let z30:=SV.si .i64 z26;let z31:=jg z1 c.toNat x.toNat;let z32:=jg z1 c.toNat z26.toNat;let z33:=af.cells [SV.sb z32.fst,SV.row z8 z32.snd.fst,SV.row z8 z32.snd.snd] 70 3 false;let z34:=ae au x.toNat sF.dflt;let z35:=(z34.fst,z34.snd.fst,z34.snd.snd);let z36:=decide ((0:Int)≤z27);let z37:=ah (aO z35 / aO z24);let z38:=(z37.fst,z37.snd.fst,z37.snd.snd);let z39:=(z31.fst,z31.snd.fst,z31.snd.snd);let z40:=ik (aO z38) (aO z39);let z41:=decide ((0:Int)<z40);let z42:=decide (z40=(0:Int));let z43:=decide (ae z9.basic z27.toNat (0:Int)<ae z9.basic x.toNat (0:Int));(0:Int)≤x∧x≤z7→(z21=true→z4=al.length∧(0:Int)≤x∧x<(↑al.length:Int)∧z4=al.length∧x.toNat<al.length∧(0:Int)≤c∧c<(↑z22.length:Int)∧c.toNat<z22.length∧bM z24∧(z25=true→aC .i64 z26∧((z0.same z0∧(SV.si .i64 c).same (SV.si .i64 c)∧z28.same z29∧z2.same z2∧z5.same z5∧z6.same z6∧z30.same z30∧True)∧ak.same ak∧z12.same z12∧ar.same ar∧ay.same ay∧z17.same z17∧(af.cells [SV.sb z31.fst,SV.row z8 z31.snd.fst,SV.row z8 z31.snd.snd] 70 3 false).same z33∧af.dead.same af.dead∧af.dead.same af.dead∧True)∧((0:Int)≤z26∧z26≤z7)∧(z7 - z26).toNat<(z7 - x).toNat)∧(z25=false→z9.k1=au.length∧(0:Int)≤x∧x<(↑au.length:Int)∧z9.k1=au.length∧x.toNat<au.length∧(0:Int)≤c∧c<(↑z22.length:Int)∧c.toNat<z22.length∧((bM z35∧bM z24)∧aO z24≠(0:Rat))∧(z36=true→(bM z38∧bM z39)∧(z41=true→aC .i64 z26∧((z0.same z0∧(SV.si .i64 c).same (SV.si .i64 c)∧z28.same z29∧z2.same z2∧z5.same z5∧z6.same z6∧z30.same z30∧True)∧ak.same ak∧z12.same z12∧ar.same ar∧ay.same ay∧z17.same z17∧(af.cells [SV.sb z31.fst,SV.row z8 z31.snd.fst,SV.row z8 z31.snd.snd] 70 3 false).same z33∧af.dead.same af.dead∧af.dead.same af.dead∧True)∧((0:Int)≤z26∧z26≤z7)∧(z7 - z26).toNat<(z7 - x).toNat)∧(z41=false→(z42=true→z9.k3=z20∧(0:Int)≤x∧x<(↑z20:Int)∧z9.k3=z20∧x.toNat<z20∧z9.k3=z20∧(0:Int)≤z27∧z27<(↑z20:Int)∧z9.k3=z20∧z27.toNat<z20∧(z43=true→aC .i64 z26∧((z0.same z0∧(SV.si .i64 c).same (SV.si .i64 c)∧z28.same z29∧z2.same z2∧z5.same z5∧z6.same z6∧z30.same z30∧True)∧ak.same ak∧z12.same z12∧ar.same ar∧ay.same ay∧z17.same z17∧(af.cells [SV.sb z31.fst,SV.row z8 z31.snd.fst,SV.row z8 z31.snd.snd] 70 3 false).same z33∧af.dead.same af.dead∧af.dead.same af.dead∧True)∧((0:Int)≤z26∧z26≤z7)∧(z7 - z26).toNat<(z7 - x).toNat)∧(z43=false→aC .i64 z26∧((z0.same z0∧(SV.si .i64 c).same (SV.si .i64 c)∧(SV.si .i64 x).same z29∧z2.same z2∧z5.same z5∧z6.same z6∧z30.same z30∧True)∧ak.same ak∧z12.same z12∧ar.same ar∧ay.same ay∧z17.same z17∧(af.cells [SV.sb z37.fst,SV.row z8 z37.snd.fst,SV.row z8 z37.snd.snd] 70 3 false).same z33∧af.dead.same af.dead∧af.dead.same af.dead∧True)∧((0:Int)≤z26∧z26≤z7)∧(z7 - z26).toNat<(z7 - x).toNat))∧(z42=false→aC .i64 z26∧((z0.same z0∧(SV.si .i64 c).same (SV.si .i64 c)∧(SV.si .i64 x).same z29∧z2.same z2∧z5.same z5∧z6.same z6∧z30.same z30∧True)∧ak.same ak∧z12.same z12∧ar.same ar∧ay.same ay∧z17.same z17∧(af.cells [SV.sb z37.fst,SV.row z8 z37.snd.fst,SV.row z8 z37.snd.snd] 70 3 false).same z33∧af.dead.same af.dead∧af.dead.same af.dead∧True)∧((0:Int)≤z26∧z26≤z7)∧(z7 - z26).toNat<(z7 - x).toNat)))∧(z36=false→aC .i64 z26∧((z0.same z0∧(SV.si .i64 c).same (SV.si .i64 c)∧(SV.si .i64 x).same z29∧z2.same z2∧z5.same z5∧z6.same z6∧z30.same z30∧True)∧ak.same ak∧z12.same z12∧ar.same ar∧ay.same ay∧z17.same z17∧(af.cells [SV.sb z37.fst,SV.row z8 z37.snd.fst,SV.row z8 z37.snd.snd] 70 3 false).same z33∧af.dead.same af.dead∧af.dead.same af.dead∧True)∧((0:Int)≤z26∧z26≤z7)∧(z7 - z26).toNat<(z7 - x).toNat)))∧(z21=false→z28.same (SV.si .i64 (bU z1 c.toNat z7.toNat))∧ak.same ak∧z12.same z12∧ar.same ar∧ay.same ay∧z17.same z17∧True)) (by kernel_rfl) ?_
 simp only[mX]
 try simp only[aF]
 simp only[vcs]
 obtain⟨⟨⟨n0,n1⟩,m0,m1⟩,hw,hz⟩:=id hok
 have hkl:=hw.a7
 have hbl:=hw.bound
 have hbb:=hw.basic
 have hfm:=@Ag t.a7
 have pj:=@ed t.bound
 have hcell:∀{x y:aW},x=y→(af.cells [SV.sb x.1,SV.row (ai.i IntKind.u32) x.2.1,SV.row (ai.i IntKind.u32) x.2.2] 70 3 false).same (af.cells [SV.sb y.1,SV.row (ai.i IntKind.u32) y.2.1,SV.row (ai.i IntKind.u32) y.2.2] 70 3 false):=by rintro _ _ rfl;rfl
 have hl0:jg t c.toNat 0=(false,([],[])):=rfl
 refine⟨⟨⟨rfl,by rw[hl0];rfl⟩,by omega,by omega⟩,?_⟩
 rintro i ⟨i0,i1⟩
 refine⟨fun hi=>?_,fun hi=>by rw[show i.toNat=m.toNat by omega]⟩
 have him:i.toNat<m.toNat:=by omega
 have hrow:ae (fM t.a7) i.toNat sF.aY.dflt=fL (ae t.a7 i.toNat []):=EV (by omega)
 have hrl:=hw.row i.toNat him
 have hfr:=@ed (ae t.a7 i.toNat [])
 have hA:ae (fL (ae t.a7 i.toNat [])) c.toNat sF.dflt=ah (t.cf i.toNat c.toNat):=gl (by omega)
 have hB:ae (fL t.bound) i.toNat sF.dflt=ah (t.bd i.toNat):=gl (by omega)
 have hbv:∀k:Nat,ae t.basic k 0=t.bv k:=fun k=>rfl
 have hsA:=hok.cf (i:=i.toNat) (j:=c.toNat) him (by omega)
 have hsB:=hok.bd (i:=i.toNat) him
 have hs:bU t c.toNat (i+1).toNat=if t.cf i.toNat c.toNat≤0 then bU t c.toNat i.toNat
  else if 0≤bU t c.toNat i.toNat∧(t.bd (bU t c.toNat i.toNat).toNat / t.cf (bU t c.toNat i.toNat).toNat c.toNat<t.bd i.toNat / t.cf i.toNat c.toNat∨(t.bd i.toNat / t.cf i.toNat c.toNat=t.bd (bU t c.toNat i.toNat).toNat / t.cf (bU t c.toNat i.toNat).toNat c.toNat∧t.bv (bU t c.toNat i.toNat).toNat<t.bv i.toNat)) then bU t c.toNat i.toNat
  else(i.toNat:Int):=by
  rw[show(i+1).toNat=i.toNat+1 by omega]
  rfl
 have hlb:bU t c.toNat i.toNat<i.toNat:=by
  rcases @qk t c.toNat i.toNat with⟨h,_⟩|⟨b,h,hlt,_⟩<;>omega
 have hlp:0≤bU t c.toNat i.toNat→0<t.cf (bU t c.toNat i.toNat).toNat c.toNat:=fun h=>by
  rcases @qk t c.toNat i.toNat with⟨h2,_⟩|⟨b,h2,hlt,hp,_⟩
  ·omega
  ·rw[h2,Int.toNat_natCast];exact hp
 have YP:∀q:Rat,e7 q≤0↔q≤0:=fun q=>by
  have:=@LI q
  constructor
  ·intro h;exact Rat.not_lt.1 fun h2=>by have:=this.2 h2;omega
  ·intro h;exact Int.not_lt.1 fun h2=>Rat.not_lt.2 h (this.1 h2)
 simp only[hrow,hA,hB,gP,cb,hbv,YP,YG,YH]
 have YQ:0≤bU t c.toNat i.toNat→jg t c.toNat i.toNat=ah (t.bd (bU t c.toNat i.toNat).toNat / t.cf (bU t c.toNat i.toNat).toNat c.toNat):=fun h=>by
  unfold jg
  rw[if_neg (by omega)]
 have tail:(0≤i+1∧i+1≤m)∧(m - (i+1)).toNat<(m - i).toNat:=by omega
 have keep:bU t c.toNat (i+1).toNat=bU t c.toNat i.toNat→jg t c.toNat i.toNat=jg t c.toNat (i+1).toNat:=fun h=>by
  unfold jg
  rw[h]
 have new:bU t c.toNat (i+1).toNat=(i.toNat:Int)→ah (t.bd i.toNat / t.cf i.toNat c.toNat)=jg t c.toNat (i+1).toNat:=fun h=>by
  unfold jg
  rw[h,if_neg (by omega),Int.toNat_natCast]
 have hnz:0<t.cf i.toNat c.toNat→t.cf i.toNat c.toNat≠0:=fun h=>by grind
 refine⟨by omega,i0,by omega,by omega,by omega,hd.1,by omega,by omega,dm hsA (by omega),fun hle=>?_,fun hgt=>?_⟩
 ·have e:bU t c.toNat (i+1).toNat=bU t c.toNat i.toNat:=by rw[hs,if_pos hle]
  exact⟨by omega,⟨e.symm,hcell (keep e)⟩,tail⟩
 ·have hp:0<t.cf i.toNat c.toNat:=Rat.not_le.1 hgt
  rw[if_neg hgt] at hs
  have YR:=EU hsB hsA (hnz hp)
  refine⟨by omega,i0,by omega,by omega,by omega,hd.1,by omega,by omega,⟨⟨dm hsB (by omega),dm hsA (by omega)⟩,hnz hp⟩,fun h0=>?_,fun h0=>?_⟩
  ·have hl:=YQ h0
   have hsl:=EU (hok.bd (i:=(bU t c.toNat i.toNat).toNat) (by omega)) (hok.cf (i:=(bU t c.toNat i.toNat).toNat) (j:=c.toNat) (by omega) (by omega)) (by have:=hlp h0;grind)
   have hvl:aO (jg t c.toNat i.toNat)=t.bd (bU t c.toNat i.toNat).toNat / t.cf (bU t c.toNat i.toNat).toNat c.toNat:=by rw[hl,cb]
   simp only[hvl]
   refine⟨⟨dm YR (by omega),by rw[hl];exact dm hsl (by omega)⟩,fun hlt=>?_,fun hlt=>⟨fun heq=>⟨i0,by omega,by omega,h0,by omega,by omega,fun hbl=>?_,fun hbl=>?_⟩,fun heq=>?_⟩⟩
   ·rw[if_pos ⟨h0,.inl hlt⟩] at hs
    exact⟨by omega,⟨hs.symm,hcell (keep hs)⟩,tail⟩
   ·rw[if_pos ⟨h0,.inr ⟨heq,hbl⟩⟩] at hs
    exact⟨by omega,⟨hs.symm,hcell (keep hs)⟩,tail⟩
   ·rw[if_neg fun h=>h.2.elim hlt fun h2=>hbl h2.2] at hs
    exact⟨by omega,⟨by omega,hcell (new hs)⟩,tail⟩
   ·rw[if_neg fun h=>h.2.elim hlt fun h2=>heq h2.1] at hs
    exact⟨by omega,⟨by omega,hcell (new hs)⟩,tail⟩
  ·rw[if_neg fun h=>h0 h.1] at hs
   exact⟨by omega,⟨by omega,hcell (new hs)⟩,tail⟩
def eL (t0:Tb) (v:Int):Rat:=if v∈t0.free then t0.cs (t0.free.idxOf v) else 0
section
variable {n m:Nat} {t t0:Tb}
theorem Run.goal (h:Run n m t0 t) {x:Int→Rat} {z:Rat} (hx:t.holds n m x z):z=t0.value+(bi m (fun k=>eL t0 (t.bv k)*x (t.bv k))+bi n (fun j=>eL t0 (t.fv j)*x (t.fv j))):=by
 have key:∀t:Tb,t.WF n m→jC (fun v=>eL t0 v*x v) (t.basic++t.free)=bi m (fun k=>eL t0 (t.bv k)*x (t.bv k))+bi n (fun j=>eL t0 (t.fv j)*x (t.fv j)):=fun t ht=>by
  rw[EI,uK,uK,ht.basic,ht.free]
  rfl
 rw[←key t h.wf,K9 h.perm,key t0 h.jD]
 rw[cy (n:=m) (g:=fun _=>0) fun k hk=>by
  unfold eL
  rw[if_neg (zY h.jD h.nd hk)]
  grind,gk]
 rw[cy (n:=n) (g:=fun j=>t0.cs j*x (t0.fv j)) fun j hj=>by
  have hl:j<t0.free.length:=by rw[h.jD.free];exact hj
  unfold eL
  rw[if_pos (uN h.jD hj),show t0.free.idxOf (t0.fv j)=j from lp (List.nodup_append.1 h.nd).2.1 hl]]
 have h2:=(((h.jY _ _).1 hx).2)
 rw[h2]
 grind
theorem Run.val (h:Run n m t0 t):t.value=t0.value+bi m fun k=>eL t0 (t.bv k)*t.bd k:=by
 have h1:=h.goal (asg_holds h.wf h.eC (y:=fun _=>0))
 rw[cy (n:=n) (f:=fun j=>t.cs j*(fun _=>(0:Rat)) j) (g:=fun _=>0) fun j _=>by grind,gk] at h1
 rw[cy (n:=n) (f:=fun j=>eL t0 (t.fv j)*dG n t (fun _=>0) (t.fv j)) (g:=fun _=>0) fun j hj=>by rw[kE h.wf h.eC hj];grind,gk] at h1
 rw[cy (n:=m) (g:=fun k=>eL t0 (t.bv k)*t.bd k) fun k hk=>by
  rw[lq h.wf h.eC hk,cy (g:=fun _=>0) fun j _=>by grind,gk]
  grind] at h1
 grind
theorem uP {n c:Nat} {q:Rat} (hc:c<n):bi n (fun j=>if j=c then q else 0)=q:=by
 induction n with
 |zero=>omega
 |succ n ih=>
  unfold bi
  by_cases h:c=n
  ·subst h
   rw[if_pos rfl,cy (g:=fun _=>0) fun j hj=>by rw[if_neg (by omega)],gk]
   grind
  ·rw[ih (by omega),if_neg (fun h2=>h h2.symm)]
   grind
theorem LK {f g:Nat→Rat}:∀{n:Nat},bi n (fun j=>f j - g j)=bi n f - bi n g
 |0=>by simp only[bi];grind
 |n+1=>by simp only[bi,@LK f g n];grind
theorem Run.YT (h:Run n m t0 t) {c:Nat} (hc:c<n):t.cs c=eL t0 (t.fv c) - bi m fun k=>eL t0 (t.bv k)*t.cf k c:=by
 have h1:=h.goal (asg_holds h.wf h.eC (y:=fun j=>if j=c then 1 else 0))
 rw[cy (n:=n) (f:=fun j=>t.cs j*(if j=c then(1:Rat) else 0)) (g:=fun j=>if j=c then t.cs c else 0) fun j _=>by
  by_cases hj:j=c
  ·subst hj;rw[if_pos rfl,if_pos rfl];grind
  ·rw[if_neg hj,if_neg hj];grind,uP hc] at h1
 rw[cy (n:=n) (f:=fun j=>eL t0 (t.fv j)*dG n t (fun j=>if j=c then 1 else 0) (t.fv j)) (g:=fun j=>if j=c then eL t0 (t.fv c) else 0) fun j hj=>by
  rw[kE h.wf h.eC hj]
  by_cases hj:j=c
  ·subst hj;rw[if_pos rfl,if_pos rfl];grind
  ·rw[if_neg hj,if_neg hj];grind,uP hc] at h1
 rw[cy (n:=m) (g:=fun k=>eL t0 (t.bv k)*t.bd k - eL t0 (t.bv k)*t.cf k c) fun k hk=>by
  rw[lq h.wf h.eC hk,cy (g:=fun j=>if j=c then t.cf k c else 0) fun j _=>by
   by_cases hj:j=c
   ·subst hj;rw[if_pos rfl,if_pos rfl];grind
   ·rw[if_neg hj,if_neg hj];grind,uP hc]
  grind,LK,h.val] at h1
 grind
end
theorem EY {M K:Nat} {p q:Rat} (hp:cV M p) (hq:cV K q):cV (M*K) (p*q):=by
 obtain⟨a,rfl,ha⟩:=hp
 obtain⟨b,rfl,hb⟩:=hq
 exact⟨a*b,by rw[Rat.intCast_mul],by rw[Int.natAbs_mul];exact Nat.mul_le_mul ha hb⟩
theorem LL {M K:Nat} {p q:Rat} (hp:cV M p) (hq:cV K q):cV (M+K) (p+q):=by
 obtain⟨a,rfl,ha⟩:=hp
 obtain⟨b,rfl,hb⟩:=hq
 exact⟨a+b,by rw[Rat.intCast_add],by omega⟩
theorem YU {M:Nat} {p:Rat} (hp:cV M p):cV M (-p):=by
 obtain⟨a,rfl,ha⟩:=hp
 exact⟨-a,by rw[Rat.intCast_neg],by omega⟩
theorem LM {M:Nat}:cV M 0:=⟨0,rfl,by simp⟩
theorem cV.le {M K:Nat} {p:Rat} (hp:cV M p) (h:M≤K):cV K p:=by
 obtain⟨a,rfl,ha⟩:=hp
 exact⟨a,rfl,by omega⟩
theorem EZ {M:Nat} {f:Nat→Rat}:∀{n:Nat},(∀k,k<n→cV M (f k))→cV (n*M) (bi n f)
 |0,_=>by simpa[bi] using LM
 |n+1,h=>by
  have h1:=LL (@EZ M f n fun k hk=>h k (by omega)) (h n (by omega))
  rw[bi,show(n+1)*M=n*M+M by rw[Nat.succ_mul]]
  exact h1
theorem E0 {f:Nat→Rat} {d:Rat}:∀{n:Nat},bi n f*d=bi n fun k=>f k*d
 |0=>by simp only[bi];grind
 |n+1=>by
  have:=@E0 f d n
  simp only[bi]
  rw[←this]
  grind
theorem YV {X k:Nat} {q D:Rat} (h1:cV X (q*D)) (h2:cV X D) (hD:D≠0) (hX:X<4294967296^k):Sz k q:=by
 obtain⟨a,e1,ha⟩:=h1
 obtain⟨d,rfl,hd⟩:=h2
 have hd0:d≠0:=fun h=>hD (by subst h;rfl)
 have hp:((4294967296^k:Nat):Int)=(4294967296:Int)^k:=by
  rw[Int.natCast_pow]
  rfl
 have hX':(X:Int)<4294967296^k:=by
  rw[←hp]
  exact Int.ofNat_lt.2 hX
 have e:q=mkRat (a*d.sign) d.natAbs:=by
  have h1:mkRat (a*d.sign) d.natAbs=((a*d.sign:Int):Rat) / ((d.natAbs:Int):Rat):=by
   rw[Rat.mkRat_eq_div]
   rfl
  have h2:((d.natAbs:Int):Rat)=(d:Rat)*(d.sign:Rat):=by
   rw[←Rat.intCast_mul]
   congr 1
   rw[Int.mul_sign_self]
  have hs:(d.sign:Rat)*(d.sign:Rat)=1:=by
   rw[←Rat.intCast_mul]
   rcases Int.lt_or_lt_of_ne hd0 with h|h
   ·rw[Int.sign_eq_neg_one_of_neg h];rfl
   ·rw[Int.sign_eq_one_of_pos h];rfl
  rw[h1,h2,Rat.intCast_mul,←e1]
  have hs0:(d.sign:Rat)≠0:=fun h=>by rw[h] at hs;grind
  grind
 rw[e]
 refine zA (by omega) ?_ (by omega)
 rw[Int.natAbs_mul]
 have:d.sign.natAbs=1:=by
  rw[Int.natAbs_sign]
  exact if_neg hd0
 rw[this]
 omega
structure Small (n m M G:Nat) (t0:Tb):Prop where
 wf:t0.WF n m
 nd:(t0.basic++t0.free).Nodup
 cf:∀i j,i<m→j<n→cV M (t0.cf i j)
 bd:∀i,i<m→cV M (t0.bd i)
 cs:∀j,j<n→cV G (t0.cs j)
 v:t0.value=0
 M1:1≤M
 G1:M≤G
 X:(m+2)*(G*je M m)<4294967296^1000
theorem YW {a b c:Nat} (h:1≤a) (h2:1≤b):c≤a*(b*c):=by
 have h3:1*(1*c)≤a*(b*c):=Nat.mul_le_mul h (Nat.mul_le_mul h2 (Nat.le_refl _))
 omega
theorem Small.goal {n m M G:Nat} {t0:Tb} (h:Small n m M G t0) {v:Int}:cV G (eL t0 v):=by
 unfold eL
 split
 ·rename_i hv
  exact h.cs _ (by rw[←h.wf.free];exact List.idxOf_lt_length_of_mem hv)
 ·exact LM
theorem Small.YX {n m M G:Nat} {t0 t:Tb} (h:Small n m M G t0) (hR:Run n m t0 t):(∀i,i<m→Sz 1000 (t.bd i))∧(∀j,j<n→Sz 1000 (t.cs j))∧Sz 1000 t.value∧∀i j,i<m→j<n→Sz 1000 (t.cf i j):=by
 have hD:=hR.Yt h.M1 h.cf
 have hX:=h.X
 have g1:1≤G:=Nat.le_trans h.M1 h.G1
 have hF:je M m≤(m+2)*(G*je M m):=YW (by omega) g1
 have sz:∀{q:Rat},cV ((m+2)*(G*je M m)) (q*eS m t0 t)→Sz 1000 q:=fun h1=>YV h1 (hD.le hF) hR.dt hX
 have hc:∀r c,r<m→c<n→cV (je M m) (t.cf r c*eS m t0 t):=fun r c hr hc=>hR.Yu h.M1 h.cf hr hc
 have hb:∀r,r<m→cV (je M m) (t.bd r*eS m t0 t):=fun r hr=>hR.Yv h.M1 h.cf h.bd hr
 refine⟨fun i hi=>sz ((hb i hi).le hF),fun j hj=>sz ?_,sz ?_,fun i j hi hj=>sz ((hc i j hi hj).le hF)⟩
 ·have e:=hR.YT hj
  have e2:t.cs j*eS m t0 t=eL t0 (t.fv j)*eS m t0 t+ -(bi m fun k=>eL t0 (t.bv k)*(t.cf k j*eS m t0 t)):=by
   rw[e,cy (f:=fun k=>eL t0 (t.bv k)*(t.cf k j*eS m t0 t)) (g:=fun k=>(eL t0 (t.bv k)*t.cf k j)*eS m t0 t) fun k _=>by grind,←E0]
   grind
  rw[e2]
  refine(LL (EY h.goal hD) (YU (EZ fun k hk=>EY h.goal (hc k j hk hj)))).le ?_
  rw[Nat.add_mul]
  omega
 ·have e2:t.value*eS m t0 t=bi m fun k=>eL t0 (t.bv k)*(t.bd k*eS m t0 t):=by
   rw[hR.val,h.v,cy (f:=fun k=>eL t0 (t.bv k)*(t.bd k*eS m t0 t)) (g:=fun k=>(eL t0 (t.bv k)*t.bd k)*eS m t0 t) fun k _=>by grind,←E0]
   grind
  rw[e2]
  refine(EZ fun k hk=>EY h.goal (hb k hk)).le ?_
  rw[Nat.add_mul]
  omega
theorem Small.qm {n m M G:Nat} {t0 t:Tb} (h:Small n m M G t0) (hR:Run n m t0 t):qm 1000000 t:=by
 obtain⟨h1,h2,h3,h4⟩:=h.YX hR
 have mg:∀{α:Type} {l:List α} {P:α→Prop} {d:α},(∀i,i<l.length→P (ae l i d))→∀q∈l,P q:=fun h q hq=>by
  obtain⟨i,hi,rfl⟩:=List.getElem_of_mem hq
  have:=h i hi
  rwa [bF hi] at this
 refine⟨mg (d:=[]) fun i hi=>?_,mg (d:=0) fun i hi=>?_,mg (d:=0) fun j hj=>?_,h3.mono (by omega)⟩
 ·rw[hR.wf.a7] at hi
  refine mg (d:=0) fun j hj=>?_
  rw[hR.wf.row i hi] at hj
  exact(h4 i j hi hj).mono (by omega)
 ·rw[hR.wf.bound] at hi
  exact(h1 i hi).mono (by omega)
 ·rw[hR.wf.cost] at hj
  exact(h2 j hj).mono (by omega)
theorem LN {n m:Int} {M G:Nat} {t0 t:Tb} (h:Small n.toNat m.toNat M G t0) (hR:Run n.toNat m.toNat t0 t) (hn:0≤n∧n≤1000) (hm:0≤m∧m≤1000):fA n m t:=⟨⟨hn,hm⟩,hR.wf,h.qm hR⟩
section
variable {n m:Nat} {t t0:Tb}
theorem LO:∀{N:Nat} {t:Tb},Run n m t0 t→fz m t→Run n m t0 (runT n m N t)∧fz m (runT n m N t)
 |0,t,hR,hF=>⟨hR,hF⟩
 |N+1,t,hR,hF=>by
  unfold runT
  split
  ·exact⟨hR,hF⟩
  ·rename_i t' ht
   have:=EO hR hF ht
   exact LO this.1 this.2
theorem run_end:∀{N:Nat} {t:Tb},cF n m N t=true→stepT n m (runT n m N t)=none
 |0,t,h=>Option.isNone_iff_eq_none.1 h
 |N+1,t,h=>by
  unfold cF at h
  unfold runT
  split
  ·assumption
  ·rename_i t' ht
   rw[ht] at h
   exact run_end h
theorem E1:∀{N K:Nat} {t:Tb},cF n m N t=true→N≤K→runT n m K t=runT n m N t
 |0,K,t,h,hK=>by
  have h2:=Option.isNone_iff_eq_none.1 h
  cases K with
  |zero=>rfl
  |succ K=>simp only[runT,h2]
 |N+1,K,t,h,hK=>by
  obtain⟨K,rfl⟩:∃k,K=k+1:=⟨K - 1,by omega⟩
  unfold cF at h
  unfold runT
  split
  ·rfl
  ·rename_i t' ht
   rw[ht] at h
   exact E1 h (by omega)
theorem YY {a b:Rat} (ha:a≤0) (hb:0≤b):a*b≤0:=by
 have:=Rat.mul_nonneg (a:= -a) (b:=b) (by grind) hb
 grind
theorem Run.bnd (h:Run n m t0 t) (hF:fz m t) {B:Rat} (hB:∀x z,t0.holds n m x z→(∀v∈t0.basic++t0.free,0≤x v)→z≤B) {c:Nat} (he:cj t n=(c:Int)) (hl:bU t c m<0):False:=by
 rcases @sG t n with⟨e1,e2⟩|⟨c',e1,e2,e3,e4⟩
 ·omega
 ·have hc:c'=c:=by omega
  subst hc
  rcases @qk t c' m with⟨l1,l2⟩|⟨r,l1,_⟩
  ·
   have key:∀s:Rat,0≤s→t.value+s*t.cs c'≤B:=fun s hs=>by
    have hh:=asg_holds h.wf h.eC (y:=fun j=>if j=c' then s else 0)
    have e:bi n (fun j=>t.cs j*(fun j=>if j=c' then s else 0) j)=s*t.cs c':=by
     rw[cy (g:=fun j=>if j=c' then s*t.cs c' else 0) fun j _=>by
      by_cases hj:j=c'
      ·subst hj;simp only[if_pos rfl];grind
      ·simp only[if_neg hj];grind,uP e2]
    rw[e] at hh
    refine hB _ _ ((h.jY _ _).1 hh) fun v hv=>?_
    rw[←h.perm.mem_iff,List.mem_append] at hv
    rcases hv with hv|hv
    ·obtain⟨i,hi,rfl⟩:=EM h.wf hv
     rw[lq h.wf h.eC hi]
     have e3:bi n (fun j=>t.cf i j*(if j=c' then s else 0))=t.cf i c'*s:=by
      rw[cy (g:=fun j=>if j=c' then t.cf i c'*s else 0) fun j _=>by
       by_cases hj:j=c'
       ·subst hj;simp
       ·simp only[if_neg hj];grind,uP e2]
     rw[e3]
     have:=YY (l2 i hi) hs
     have:=hF i hi
     grind
    ·obtain⟨j,hj,rfl⟩:=EL h.wf hv
     rw[kE h.wf h.eC hj]
     split
     ·exact hs
     ·grind
   have hv0:=key 0 (by grind)
   have hs:0≤(B - t.value+1) / t.cs c':=Lh (by grind) e3
   have h1:=key _ hs
   rw[div_mul e3] at h1
   grind
  ·omega
end
open Classical in
noncomputable def mY (n m:Nat) (t:Tb):Nat:=if h:∃N,cF n m N t=true then Classical.choose h else 0
noncomputable def lastT (n m:Nat) (t:Tb):Tb:=runT n m (mY n m t) t
section
variable {n m:Nat} {t t0 t':Tb}
theorem uQ {N:Nat} (h:cF n m N t=true):lastT n m t=runT n m N t:=by
 have hx:∃N,cF n m N t=true:=⟨N,h⟩
 have h2:cF n m (mY n m t) t=true:=by
  unfold mY
  rw[dif_pos hx]
  exact Classical.choose_spec hx
 unfold lastT
 rcases Nat.le_total N (mY n m t) with hl|hl
 ·exact E1 h hl
 ·exact(E1 h2 hl).symm
theorem LP (h:stepT n m t=none):lastT n m t=t:=by
 have h0:cF n m 0 t=true:=by simp[cF,h]
 rw[uQ h0]
 rfl
theorem YZ (hN:∃N,cF n m N t=true) (h:stepT n m t=some t'):lastT n m t'=lastT n m t:=by
 obtain⟨N,hN⟩:=hN
 have h1:=Lx hN h
 rw[uQ h1,uQ (EP hN)]
 show _=runT n m (N+1) t
 simp only[runT,h]
theorem E2 (hR:Run n m t0 t) (hF:fz m t):Run n m t0 (lastT n m t)∧fz m (lastT n m t)∧stepT n m (lastT n m t)=none:=by
 obtain⟨N,hN⟩:=EQ hR hF
 rw[uQ hN]
 have:=LO (N:=N) hR hF
 exact⟨this.1,this.2,run_end hN⟩
theorem LQ (hR:Run n m t0 t) (hF:fz m t) {B:Rat} (hB:∀x z,t0.holds n m x z→(∀v∈t0.basic++t0.free,0≤x v)→z≤B):cj (lastT n m t) n<0:=by
 obtain⟨h1,h2,h3⟩:=E2 hR hF
 rcases @sG (lastT n m t) n with⟨e1,e2⟩|⟨c,e1,e2,e3,e4⟩
 ·omega
 ·exfalso
  unfold stepT at h3
  rw[if_neg (by omega),show(cj (lastT n m t) n).toNat=c by omega] at h3
  split at h3
  ·rename_i hl
   exact h1.bnd h2 hB e1 hl
  ·cases h3
end
def aI (f:List Int) (d:Int):List Int:=(bW f.length).filter fun i=>decide (ae f i.toNat 0=d)
theorem mZ {f:List Int} {d x:Int}:x∈aI f d↔(0≤x∧x<f.length)∧ae f x.toNat 0=d:=by
 unfold aI
 rw[List.mem_filter,lX,decide_eq_true_eq]
theorem Aj {f:List Int} {d:Int}:(aI f d).Pairwise (·<·):=Eu.sublist List.filter_sublist
theorem oz {f:List Int} {d:Int}:(aI f d).length≤f.length:=by
 have:=List.length_filter_le (fun i:Int=>decide (ae f i.toNat 0=d)) (bW f.length)
 rw[e8] at this
 exact this
theorem uR {α β:Type} {g:α→β} {l:List α} {i:Nat} {d:β} {e:α} (h:i<l.length):ae (l.map g) i d=g (ae l i e):=by
 rw[bF (by rw[List.length_map];exact h),bF h,List.getElem_map]
theorem uS {n j:Nat} {d:Int} (h:j<n):ae (bW n) j d=j:=by
 unfold bW
 exact lY h
def ck (p:aE) (f:List Int):Tb where
 a7:=(List.range (p.classes.length+12)).map fun r:Nat=>(aI f 0).map fun i=>((fF p r (oI p i):Int):Rat)
 bound:=(List.range (p.classes.length+12)).map fun r:Nat=>((b9 p r - ca p ((aI f 1).map (oI p)) r:Int):Rat)
 cost:=(aI f 0).map fun i=>(((oI p i).value:Int):Rat)
 value:=0
 basic:=(List.range (p.classes.length+12)).map fun i:Nat=>(((aI f 0).length+i:Nat):Int)
 free:=bW (aI f 0).length
def kF (p:aE) (f:List Int):Prop:=bw p=0∧f.length=p.offers.length∧fG p ((aI f 1).map (oI p))=true
abbrev nF (f:List Int):Nat:=(aI f 0).length
abbrev mF (p:aE):Nat:=p.classes.length+12
section
variable {p:aE} {f:List Int}
theorem Ak:(ck p f).WF (nF f) (mF p) where
 a7:=by simp[ck]
 row i hi:=by
  simp only[ck]
  rw[lY hi,List.length_map]
 bound:=by simp[ck]
 cost:=by simp[ck]
 basic:=by simp[ck]
 free:=by simp[ck,e8]
theorem E3 {i j:Nat} (hi:i<mF p) (hj:j<nF f):(ck p f).cf i j=((fF p i (oI p (ae (aI f 0) j 0)):Int):Rat):=by
 unfold Tb.cf
 simp only[ck]
 rw[lY hi,uR (e:=0) hj]
theorem E4 {i:Nat} (hi:i<mF p):(ck p f).bd i=((b9 p i - ca p ((aI f 1).map (oI p)) i:Int):Rat):=by
 unfold Tb.bd
 simp only[ck]
 rw[lY hi]
theorem LS {j:Nat} (hj:j<nF f):(ck p f).cs j=(((oI p (ae (aI f 0) j 0)).value:Int):Rat):=by
 unfold Tb.cs
 simp only[ck]
 rw[uR (e:=0) hj]
theorem LU:((ck p f).basic++(ck p f).free).Nodup:=by
 rw[List.nodup_append]
 refine⟨?_,Eu.imp fun h=>by omega,?_⟩
 ·simp only[ck]
  refine List.Pairwise.map _ (fun a b h=>?_) List.nodup_range
  intro h2
  exact h (by omega)
 ·intro a ha b hb
  simp only[ck,List.mem_map,List.mem_range] at ha
  simp only[ck,lX] at hb
  obtain⟨i,hi,rfl⟩:=ha
  omega
theorem uT (h:kF p f) {j:Nat} (hj:j<nF f):(0≤ae (aI f 0) j 0∧ae (aI f 0) j 0<p.offers.length)∧ae f (ae (aI f 0) j 0).toNat 0=0:=by
 have:=mZ.1 (dQ (d:=0) hj)
 rw[h.2.1] at this
 exact this
theorem lZ (hc:bw p=0) {i:Int} (h:0≤i∧i<p.offers.length):0≤(oI p i).bD∧(oI p i).bD<p.classes.length∧(oI p i).want.ok=true∧1≤(oI p i).value∧(oI p i).value≤1000000:=(i6 hc).2.2.2.2 _ (dQ (show i.toNat<p.offers.length by omega))
theorem Am (h:kF p f) {d:Int}:∀x∈(aI f d).map (oI p),0≤x.bD∧x.bD<p.classes.length∧x.want.ok=true∧1≤x.value∧x.value≤1000000:=fun x hx=>by
 obtain⟨i,hi,rfl⟩:=List.mem_map.1 hx
 have:=(mZ.1 hi).1
 rw[h.2.1] at this
 exact lZ h.1 this
theorem E5 {z:Int} {M:Nat} (h:z.natAbs≤M):cV M (z:Rat):=⟨z,rfl,h⟩
theorem LV (h:kF p f) {i:Nat} (hi:i<mF p):0≤b9 p i - ca p ((aI f 1).map (oI p)) i∧b9 p i - ca p ((aI f 1).map (oI p)) i≤4:=by
 have hi2:i<p.classes.length+12:=hi
 have h1:=rR.1 h.2.2 i (by unfold bY;omega)
 have h2:=@Ew p h.1 i
 have h3:=@rQ p i ((aI f 1).map (oI p)) fun x hx=>(Am h x hx).2.2.1
 omega
theorem Y1:∀m:Nat,m≤20→(m+2)*(1000000*je 4 m)<4294967296^1000:=by
 have h:((List.range 21).all fun m=>Nat.blt ((m+2)*(1000000*je 4 m)) (4294967296^1000))=true:=by decide+kernel
 intro m hm
 have:=List.all_eq_true.1 h m (List.mem_range.2 (by omega))
 rw[Nat.blt_eq] at this
 exact this
theorem E6 (h:kF p f):Small (nF f) (mF p) 4 1000000 (ck p f) where
 wf:=Ak
 nd:=LU
 cf i j hi hj:=by
  rw[E3 hi hj]
  have:=(lZ h.1 (uT h hj).1).2.2.1
  have:=@pS p i _ this
  exact E5 (by omega)
 bd i hi:=by
  rw[E4 hi]
  have:=LV h hi
  exact E5 (by omega)
 cs j hj:=by
  rw[LS hj]
  have:=lZ h.1 (uT h hj).1
  exact E5 (by omega)
 v:=rfl
 M1:=by omega
 G1:=by omega
 X:=Y1 _ (by have:=(i6 h.1).1;unfold mF;omega)
theorem E7 {z:Int} (h:0≤z):(0:Rat)≤(z:Rat):=by exact_mod_cast h
theorem E8 (h:kF p f):fz (mF p) (ck p f):=fun i hi=>by
 rw[E4 hi]
 exact E7 (LV h hi).1
theorem LW {g:Nat→Rat}:∀{n:Nat},(∀k,k<n→0≤g k)→0≤bi n g
 |0,_=>by simp only[bi];grind
 |n+1,h=>by
  have h1:=@LW g n fun k hk=>h k (by omega)
  have h2:=h n (by omega)
  simp only[bi]
  grind
theorem LX {g k:Nat→Rat}:∀{n:Nat},(∀i,i<n→g i≤k i)→bi n g≤bi n k
 |0,_=>by simp only[bi];grind
 |n+1,h=>by
  have h1:=@LX g k n fun k hk=>h k (by omega)
  have h2:=h n (by omega)
  simp only[bi]
  grind
theorem Y2 {g:Nat→Rat} {n j:Nat} (h:∀k,k<n→0≤g k) (hj:j<n):g j≤bi n g:=by
 rw[zS hj]
 have:=@LW (fun i=>if i=j then 0 else g i) n fun k hk=>by
  split
  ·grind
  ·exact h k hk
 grind
theorem Y3 (h:kF p f) {x:Int→Rat} {z:Rat} (hx:(ck p f).holds (nF f) (mF p) x z) (h0:∀v∈(ck p f).basic++(ck p f).free,0≤x v) {j:Nat} (hj:j<nF f):x ((ck p f).fv j)≤1:=by
 obtain⟨hi,_⟩:=uT h hj
 have hg:=lZ h.1 hi
 have hb:(oI p (ae (aI f 0) j 0)).bD.toNat<mF p:=by unfold mF;omega
 have h1:=hx.1 _ hb
 have hs:=h0 _ (List.mem_append_left _ (EK Ak hb))
 have hc:(ck p f).cf (oI p (ae (aI f 0) j 0)).bD.toNat j=1:=by
  rw[E3 hb hj]
  unfold fF
  rw[if_pos (by omega),if_pos (by omega)]
  rfl
 have ht:=@Y2 (fun k=>(ck p f).cf (oI p (ae (aI f 0) j 0)).bD.toNat k*x ((ck p f).fv k)) (nF f) j (fun k hk=>by
  refine Rat.mul_nonneg ?_ (h0 _ (List.mem_append_right _ (uN Ak hk)))
  rw[E3 hb hk]
  exact E7 (pS (lZ h.1 (uT h hk).1).2.2.1).1) hj
 simp only[hc] at ht
 have h2:(ck p f).bd (oI p (ae (aI f 0) j 0)).bD.toNat≤1:=by
  rw[E4 hb]
  have h3:b9 p (oI p (ae (aI f 0) j 0)).bD.toNat=1:=by
   unfold b9
   rw[if_pos (by omega)]
  have h4:=@rQ p (oI p (ae (aI f 0) j 0)).bD.toNat ((aI f 1).map (oI p)) fun x hx=>(Am h x hx).2.2.1
  have h5:b9 p (oI p (ae (aI f 0) j 0)).bD.toNat - ca p ((aI f 1).map (oI p)) (oI p (ae (aI f 0) j 0)).bD.toNat≤1:=by omega
  exact_mod_cast h5
 grind
theorem LY (h:kF p f) {x:Int→Rat} {z:Rat} (hx:(ck p f).holds (nF f) (mF p) x z) (h0:∀v∈(ck p f).basic++(ck p f).free,0≤x v):z≤bi (nF f) (ck p f).cs:=by
 have h1:=hx.2
 have hv:(ck p f).value=0:=rfl
 have:=@LX (fun j=>(ck p f).cs j*x ((ck p f).fv j)) (ck p f).cs (nF f) fun j hj=>by
  have h2:=Y3 h hx h0 hj
  have h3:0≤(ck p f).cs j:=by
   rw[LS hj]
   exact E7 (by have:=lZ h.1 (uT h hj).1;omega)
  have:=Rat.mul_nonneg h3 (b:=1 - x ((ck p f).fv j)) (by grind)
  grind
 grind
noncomputable def e9 (p:aE) (f:List Int):Tb:=lastT (nF f) (mF p) (ck p f)
theorem LZ (h:kF p f):Run (nF f) (mF p) (ck p f) (e9 p f)∧fz (mF p) (e9 p f)∧cj (e9 p f) (nF f)<0:=by
 have hr:=Run.refl (n:=nF f) (m:=mF p) (t0:=ck p f) Ak LU
 have:=E2 hr (E8 h)
 exact⟨this.1,this.2.1,LQ hr (E8 h) fun x z hx h0=>LY h hx h0⟩
end
def de (d:List aW) (j:Nat) (z:aW):List aW:=d.take j++List.replicate (d.length - j) z
theorem uU {d:List aW} {j:Nat} {z:aW} (h:j≤d.length):(de d j z).length=d.length:=by
 unfold de
 rw[List.length_append,List.length_take,List.length_replicate]
 omega
theorem uV {d:List aW} {z:aW}:de d 0 z=List.replicate d.length z:=by simp[de]
theorem uW {d:List aW} {z:aW}:de d d.length z=d:=by simp[de]
theorem uX {d:List aW} {j:Nat} {z x:aW} (h:j<d.length) (hx:x=ae d j z):(de d j z).set j x=de d (j+1) z:=by
 unfold de
 have h1:d.length - j=(d.length - (j+1))+1:=by omega
 rw[h1,List.replicate_succ,List.set_append_right _ _ (by rw[List.length_take];omega),List.length_take,show j - min j d.length=0 by omega,List.set_cons_zero,List.take_succ_eq_append_getElem h,List.append_assoc,hx,bF h]
 rfl
theorem sJ {l:List Rat} {i:Nat} {q:Rat}:(fL l).set i (ah q)=fL (l.set i q):=by
 unfold fL
 rw[List.map_set]
theorem elim_none {l p:List Rat} {c:Nat} (h:ae l c 0=0) (hc:c<l.length):fy l c p=l:=by
 refine List.ext_getElem zU fun i h1 h2=>?_
 have e1:=@zV c l p i h2
 rw[bF h1,h] at e1
 rw[e1]
 split
 ·rename_i hic
  subst hic
  rw[bF hc] at h
  rw[h]
  grind
 ·rw[bF h2]
  grind
def r413:cK where
 f:=148
 α:=Int
 put a:=[.si .i64 a]
 st _:=[]
 dec v o:=match v,o with
  |[v],[]=>v.int .i64
  |_,_=>none
 ok v o a h:=by
  split at h
  ·exact⟨by simp only[gL,jN h];rfl,rfl⟩
  ·cases h
 inj a b h _:=by simpa[gL,SV.g] using h
 dom n:=0≤n∧n≤1000
 res n:=.ow 0 n.toNat 3
 out n:=[.row sF (fL (List.replicate n.toNat 0)) 70 false]
def Y4 (n:Int):Nat→bz
 |3=> .inv Int (fun j=>⟨[(3,.ow 0 n.toNat 3),(8,.si .i64 n.toNat),(9,.si .i64 j)],[.row sF (de (fL (List.replicate n.toNat 0)) j.toNat (false,([],[]))) 70 true]⟩)
   (fun s=>iS s 9) (fun j=>0≤j∧j≤n) (fun j=>(n - j).toNat) fun _ _=> .look
 |_=> .look
theorem h413:eh Tryz.prog r413:=by
 refine C0 (L:=[lW]) (W:=[]) r413 xx (fun _=>none) Y4 (by simp) (by simpa using h94) (by kernel_rfl) (fun _=>rfl) (fun _=>rfl) (by kernel_rfl) ?_
 rintro(n:Int) ⟨n0,n1⟩
 refine bh (let z0:=SV.ow 0 n.toNat 3;let z1:=SV.si .i64 (↑n.toNat:Int);let z2:=(ai.i .u32).aY;let z3:=(false,[],[]);let z4:=fL (List.replicate n.toNat (0:Rat));let z5:=ah (IntCast.intCast (0:Int));(0:Int)≤n∧n≤n∧n*(56:Int)≤(140737488355328:Int)∧n≤(1000000000000:Int)∧(((z0.same z0∧z1.same z1∧(SV.il .i64 0).same (SV.si .i64 0)∧True)∧(af.row (ai.b.pair (z2.pair z2)) (List.replicate n.toNat z3) 70 true).same (af.row sF (de z4 0 z3) 70 true)∧True)∧(0:Int)≤(0:Int)∧(0:Int)≤n)∧∀(x:Int),let z6:=decide (x<(↑n.toNat:Int));let z7:=de z4 x.toNat z3;let z8:=x+(1:Int);let z9:=SV.si .i64 z8;(0:Int)≤x∧x≤n→(z6=true→((-9223372036854775808:Int)≤(0:Int)∧(0:Int)≤(9223372036854775807:Int))∧n.toNat=z7.length∧(0:Int)≤x∧x<(↑z7.length:Int)∧n.toNat=z7.length∧x.toNat<z7.length∧aC .i64 z8∧((z0.same z0∧z1.same z1∧z9.same z9∧True)∧(af.row sF (z7.set x.toNat (z5.fst,z5.snd.fst,z5.snd.snd)) 70 true).same (af.row sF (de z4 z8.toNat z3) 70 true)∧True)∧((0:Int)≤z8∧z8≤n)∧(n - z8).toNat<(n - x).toNat)∧(z6=false→z0.same z0∧(af.row sF z7 70 false).same (af.row sF z4 70 false)∧True)) (by kernel_rfl) ?_
 conv=>zeta
 try simp only[vcs]
 have hcast:∀k:Nat,((k:Nat):Int).toNat=k:=fun k=>Int.toNat_natCast k
 have hl:(fL (List.replicate n.toNat 0)).length=n.toNat:=by rw[ed,List.length_replicate]
 have hrow:∀{x y:List aW},x=y→(af.row sF x 70 true).same (af.row sF y 70 true):=by rintro _ _ rfl;rfl
 refine⟨n0,by omega,by omega,by omega,⟨hrow (by rw[uV,hl]),by omega,by omega⟩,?_⟩
 rintro j ⟨j0,j1⟩
 have eW:=@uU (fL (List.replicate n.toNat 0)) j.toNat (false,([],[])) (by omega)
 refine⟨fun hj=>?_,fun hj=>?_⟩
 ·have hE:ae (fL (List.replicate n.toNat 0)) j.toNat (false,([],[]))=ah 0:=by
   rw[gl (by rw[List.length_replicate];omega),bF (by rw[List.length_replicate];omega),List.getElem_replicate]
  have h0:(IntCast.intCast 0:Rat)=0:=rfl
  simp only[h0,gP]
  exact⟨by omega,by omega,j0,by omega,by omega,by omega,by omega,hrow (by rw[uX (by omega) hE.symm,show(j+1).toNat=j.toNat+1 by omega]),by omega,by omega⟩
 ·rw[show j.toNat=(fL (List.replicate n.toNat 0)).length by omega,uW]
  rfl
def r417:bf:=⟨170,List aW×aW×Int×List aW×aW,.cons (bR sF) (.cons (dc sF) (.cons (cT .i64) (.cons (bR sF) (.one (dc sF))))),
 fun a=>∃l b p pb,(a.1=fL l∧a.2.1=ah b∧a.2.2.2.1=fL p∧a.2.2.2.2=ah pb)∧(l.length=p.length∧l.length≤1000)∧(0≤a.2.2.1∧a.2.2.1<l.length)∧(∀q∈l,Sz 10000000 q)∧(∀q∈p,Sz 10000000 q)∧Sz 10000000 b∧Sz 10000000 pb,
 fun a=> .aD [.row sF (fL (fy (vL a.1) a.2.2.1.toNat (vL a.2.2.2.1))),iH (aO a.2.1 - ae (vL a.1) a.2.2.1.toNat 0*aO a.2.2.2.2)]⟩
def Y5 (l:List Rat) (b:Rat) (c:Int) (p:List Rat) (pb:Rat):Nat→bz
 |6=> .inv Int (fun j=>⟨[(2,.si .i64 c),(3,.row sF (fL p)),(6,.ptr 0 0 3),(9,.ptr 1 0 3),(11,.ptr 2 0 3),(12,.ptr 3 0 3),(13,.ow 4 l.length 3),(28,.row sF (fL l)),(29,.si .i64 l.length),(30,.si .i64 j)],
   [.cells [.sb (ah b).1,.row (.i .u32) (ah b).2.1,.row (.i .u32) (ah b).2.2] 70 3 false,.cells [.sb (ah pb).1,.row (.i .u32) (ah pb).2.1,.row (.i .u32) (ah pb).2.2] 70 3 false,
    .cells [.bl false,.sc (.slice none 0 0),.sc (.slice none 0 0)] 70 3 false,.cells [.sb (ah (ae l c.toNat 0)).1,.row (.i .u32) (ah (ae l c.toNat 0)).2.1,.row (.i .u32) (ah (ae l c.toNat 0)).2.2] 70 3 false,
    .row sF (de (fL (fy l c.toNat p)) j.toNat (false,([],[]))) 70 true]⟩)
   (fun s=>iS s 30) (fun j=>0≤j∧j≤l.length) (fun j=>(l.length - j).toNat) fun _ _=> .look
 |_=> .look
theorem h417:Holds Tryz.prog r417:=by
 refine con (L:=[sw,Ad,uE,D4]) r417 xC (fun a=>Y5 (vL a.1) (aO a.2.1) a.2.2.1 (vL a.2.2.2.1) (aO a.2.2.2.2)) (bu.none _) (by simpa using⟨h99,h410,h130,h95⟩) (by kernel_rfl) (by kernel_rfl) (fun _=>rfl) ?_
 rintro⟨l',b',c,p',pb'⟩ ⟨l,b,p,pb,⟨e1,e2,e3,e4⟩,⟨g1,g2⟩,⟨c0,c1⟩,hl,hp,hb,hpb⟩
 simp only at e1 e2 e3 e4 c0 c1
 subst e1 e2 e3 e4
 refine bh (let z0:=(↑(fL l).length:Int);let z1:=ae (fL l) c.toNat sF.dflt;let z2:=(z1.fst,z1.snd.fst,z1.snd.snd);let z3:=decide (e7 (aO z2)=(0:Int));let z4:=ai.i .u32;let z5:=[SV.sb (ah b).fst,SV.row z4 (ah b).snd.fst,SV.row z4 (ah b).snd.snd];let z6:=fL (fy (vL (fL l)) c.toNat (vL (fL p)));let z7:=ae (vL (fL l)) c.toNat (0:Rat);let z8:=ah (aO (ah b) - z7*aO (ah pb));let z9:=SV.aD [SV.row sF z6,SV.agg [SV.sb z8.fst,SV.row z4 z8.snd.fst,SV.row z4 z8.snd.snd]];let ak:=fL (vL (fL p));let al:=SV.row sF ak;let z12:=SV.ptr 0 0 3;let au:=SV.ptr 1 0 3;let ar:=SV.ptr 2 0 3;let ax:=SV.ptr 3 0 3;let ay:=(vL (fL l)).length;let z17:=SV.ow 4 ay 3;let aG:=fL (vL (fL l));let aH:=SV.row sF aG;let z20:=(↑ay:Int);let z21:=SV.si .i64 z20;let z22:=(ah (aO (ah b))).fst;let z23:=(ah (aO (ah b))).snd;let z24:=af.cells [SV.sb z22,SV.row z4 z23.fst,SV.row z4 z23.snd] 70 3 false;let z25:=(ah (aO (ah pb))).fst;let z26:=(ah (aO (ah pb))).snd;let z27:=af.cells [SV.sb z25,SV.row z4 z26.fst,SV.row z4 z26.snd] 70 3 false;let z28:=SV.sc (Value.slice none 0 0);let z29:=af.cells [SV.bl false,z28,z28] 70 3 false;let z30:=af.cells [SV.sb (ah z7).fst,SV.row z4 (ah z7).snd.fst,SV.row z4 (ah z7).snd.snd] 70 3 false;let z31:=(false,[],[]);let z32:=((ah z7).fst,(ah z7).snd.fst,(ah z7).snd.snd);let z33:=(z25,z26.fst,z26.snd);let z34:=(z22,z23.fst,z23.snd);let z35:=ah (aO z32*aO z33);let z36:=(z35.fst,z35.snd.fst,z35.snd.snd);let z37:=ah (aO z34 - aO z36);(0:Int)≤c∧c<z0∧c.toNat<(fL l).length∧bM z2∧(z3=true→(SV.aD [SV.row sF (fL l),SV.agg z5]).same z9)∧(z3=false→(0:Int)≤z0∧z0≤z0∧z0*(56:Int)≤(140737488355328:Int)∧z0≤(1000000000000:Int)∧((((SV.si .i64 c).same (SV.si .i64 c)∧(SV.row sF (fL p)).same al∧z12.same z12∧au.same au∧ar.same ar∧ax.same ax∧(SV.ow 4 z0.toNat 3).same z17∧(SV.row sF (fL l)).same aH∧(SV.si .i64 z0).same z21∧(SV.il .i64 0).same (SV.si .i64 0)∧True)∧(af.cells z5 70 3 false).same z24∧(af.cells [SV.sb (ah pb).fst,SV.row z4 (ah pb).snd.fst,SV.row z4 (ah pb).snd.snd] 70 3 false).same z27∧z29.same z29∧(af.cells [SV.sb z1.fst,SV.row z4 z1.snd.fst,SV.row z4 z1.snd.snd] 70 3 false).same z30∧(af.row (ai.b.pair (z4.aY.pair z4.aY)) (List.replicate z0.toNat z31) 70 true).same (af.row sF (de z6 0 z31) 70 true)∧True)∧(0:Int)≤(0:Int)∧(0:Int)≤z20)∧∀(x:Int),let z38:=ae ak x.toNat sF.dflt;let z39:=(z38.fst,z38.snd.fst,z38.snd.snd);let z40:=ah (aO z32*aO z39);let z41:=(z40.fst,z40.snd.fst,z40.snd.snd);let z42:=de z6 x.toNat z31;let z43:=x+(1:Int);let z44:=SV.si .i64 z43;let z45:=(ah (-aO z41)).snd;let z46:=af.row sF (de z6 z43.toNat z31) 70 true;let z47:=decide (e7 (aO z39)=(0:Int));let z48:=ae aG x.toNat sF.dflt;let z49:=(z48.fst,z48.snd.fst,z48.snd.snd);let z50:=ah (aO z49 - aO z41);(0:Int)≤x∧x≤z20→(decide (x<z20)=true→(0:Int)≤x∧x<(↑aG.length:Int)∧x.toNat<aG.length∧(decide (x=c)=true→(0:Int)≤x∧x<(↑ak.length:Int)∧x.toNat<ak.length∧(bM z32∧bM z39)∧bM z41∧ay=z42.length∧(0:Int)≤x∧x<(↑z42.length:Int)∧ay=z42.length∧x.toNat<z42.length∧aC .i64 z43∧(((SV.si .i64 c).same (SV.si .i64 c)∧al.same al∧z12.same z12∧au.same au∧ar.same ar∧ax.same ax∧z17.same z17∧aH.same aH∧z21.same z21∧z44.same z44∧True)∧z24.same z24∧z27.same z27∧z29.same z29∧z30.same z30∧(af.row sF (z42.set x.toNat ((ah (-aO z41)).fst,z45.fst,z45.snd)) 70 true).same z46∧True)∧((0:Int)≤z43∧z43≤z20)∧(z20 - z43).toNat<(z20 - x).toNat)∧(decide (x=c)=false→(0:Int)≤x∧x<(↑ak.length:Int)∧x.toNat<ak.length∧bM z39∧(z47=true→ay=z42.length∧(0:Int)≤x∧x<(↑z42.length:Int)∧ay=z42.length∧x.toNat<z42.length∧aC .i64 z43∧(((SV.si .i64 c).same (SV.si .i64 c)∧al.same al∧z12.same z12∧au.same au∧ar.same ar∧ax.same ax∧z17.same z17∧aH.same aH∧z21.same z21∧z44.same z44∧True)∧z24.same z24∧z27.same z27∧z29.same z29∧z30.same z30∧(af.row sF (z42.set x.toNat z49) 70 true).same z46∧True)∧((0:Int)≤z43∧z43≤z20)∧(z20 - z43).toNat<(z20 - x).toNat)∧(z47=false→(0:Int)≤x∧x<(↑ak.length:Int)∧x.toNat<ak.length∧(bM z32∧bM z39)∧(bM z49∧bM z41)∧ay=z42.length∧(0:Int)≤x∧x<(↑z42.length:Int)∧ay=z42.length∧x.toNat<z42.length∧aC .i64 z43∧(((SV.si .i64 c).same (SV.si .i64 c)∧al.same al∧z12.same z12∧au.same au∧ar.same ar∧ax.same ax∧z17.same z17∧aH.same aH∧z21.same z21∧z44.same z44∧True)∧z24.same z24∧z27.same z27∧z29.same z29∧z30.same z30∧(af.row sF (z42.set x.toNat (z50.fst,z50.snd.fst,z50.snd.snd)) 70 true).same z46∧True)∧((0:Int)≤z43∧z43≤z20)∧(z20 - z43).toNat<(z20 - x).toNat)))∧(decide (x<z20)=false→(bM z32∧bM z33)∧(bM z34∧bM z36)∧ay=z42.length∧(SV.aD [SV.row sF z42,SV.agg [SV.sb z37.fst,SV.row z4 z37.snd.fst,SV.row z4 z37.snd.snd]]).same z9))) (by kernel_rfl) ?_
 simp only[mW,cb]
 try simp only[vcs]
 have hfl:=@ed l
 have hfp:=@ed p
 have hel:(fy l c.toNat p).length=l.length:=zU
 have hfe:=@ed (fy l c.toNat p)
 have hA:ae (fL l) c.toNat sF.dflt=ah (ae l c.toNat 0):=gl (by omega)
 have hzc:=hl _ (dQ (d:=0) (show c.toNat<l.length by omega))
 have hcast:∀k:Nat,((k:Nat):Int).toNat=k:=fun k=>Int.toNat_natCast k
 have hag:∀{x y:Rat},x=y→(SV.agg [SV.sb (ah x).1,SV.row (ai.i IntKind.u32) (ah x).2.1,SV.row (ai.i IntKind.u32) (ah x).2.2]).same (SV.agg [SV.sb (ah y).1,SV.row (ai.i IntKind.u32) (ah y).2.1,SV.row (ai.i IntKind.u32) (ah y).2.2]):=by rintro _ _ rfl;rfl
 have hrow:∀{x y:List aW},x=y→(af.row sF x 70 true).same (af.row sF y 70 true):=by rintro _ _ rfl;rfl
 simp only[hA,gP,cb,LJ,hcast]
 refine⟨c0,by omega,by omega,dm hzc (by omega),fun hz=>⟨by rw[elim_none hz (by omega)],hag (by rw[hz];grind)⟩,fun hz=>⟨by omega,by omega,by omega,by omega,⟨⟨⟨by rw[hfl];rfl,by omega⟩,rfl,hrow (by rw[uV,hfe,hel,hfl])⟩,by omega,by omega⟩,?_⟩⟩
 rintro j ⟨j0,j1⟩
 have eW:=@uU (fL (fy l c.toNat p)) j.toNat (false,([],[])) (by omega)
 refine⟨fun hj=>?_,fun hj=>?_⟩
 ·have hP:ae (fL p) j.toNat sF.dflt=ah (ae p j.toNat 0):=gl (by omega)
  have hL:ae (fL l) j.toNat sF.dflt=ah (ae l j.toNat 0):=gl (by omega)
  have An:=hp _ (dQ (d:=0) (show j.toNat<p.length by omega))
  have hzl:=hl _ (dQ (d:=0) (show j.toNat<l.length by omega))
  have hE:ae (fL (fy l c.toNat p)) j.toNat (false,([],[]))=ah (if j.toNat=c.toNat then -(ae l c.toNat 0*ae p j.toNat 0) else ae l j.toNat 0 - ae l c.toNat 0*ae p j.toNat 0):=by
   rw[gl (by omega),zV (by omega)]
  have hm:=uO hzc An
  have tail:(0≤j+1∧j+1≤(l.length:Int))∧((l.length:Int) - (j+1)).toNat<((l.length:Int) - j).toNat:=by omega
  have step:∀{x:aW},x=ae (fL (fy l c.toNat p)) j.toNat (false,([],[]))→(af.row sF ((de (fL (fy l c.toNat p)) j.toNat (false,([],[]))).set j.toNat x) 70 true).same (af.row sF (de (fL (fy l c.toNat p)) (j+1).toNat (false,([],[]))) 70 true):=fun h=>hrow (by
   rw[uX (by omega) h,show(j+1).toNat=j.toNat+1 by omega])
  simp only[hP,hL,gP,cb,LJ]
  refine⟨j0,by omega,by omega,fun hjc=>⟨j0,by omega,by omega,⟨dm hzc (by omega),dm An (by omega)⟩,dm hm (by omega),by omega,j0,by omega,by omega,by omega,by omega,step ?_,tail⟩,fun hjc=>⟨j0,by omega,by omega,dm An (by omega),fun hpz=>⟨by omega,j0,by omega,by omega,by omega,by omega,step ?_,tail⟩,fun hpz=>⟨j0,by omega,by omega,⟨dm hzc (by omega),dm An (by omega)⟩,⟨dm hzl (by omega),dm hm (by omega)⟩,by omega,j0,by omega,by omega,by omega,by omega,step ?_,tail⟩⟩⟩
  ·rw[hE,if_pos (by omega)]
  ·rw[hE,if_neg (by omega),hpz]
   congr 1
   grind
  ·rw[hE,if_neg (by omega)]
 ·rw[show j.toNat=(fL (fy l c.toNat p)).length by omega,uW]
  exact⟨⟨dm hzc (by omega),dm hpb (by omega)⟩,⟨dm hb (by omega),dm (uO hzc hpb) (by omega)⟩,by omega,rfl,rfl⟩
def r408:cK:=ox 143 (Int×Int) (.cons (cT .i64) (.one (cT .i64))) (fun n m t a=>(0≤a.1∧a.1<m)∧(0≤a.2∧a.2<n)∧t.cf a.1.toNat a.2.toNat≠0) (fun _ _ _ _=> .aD []) (fun _ _ t a=>dB t a.1.toNat a.2.toNat)
def jZ (l:List Rat) (q:Rat):List Rat:=l.map fun x=>x*q
def fC (q:Rat):af:=.cells [.sb (ah q).1,.row (.i .u32) (ah q).2.1,.row (.i .u32) (ah q).2.2] 70 3 false
def eu {α:Type} (f g:Nat→α) (n r i:Nat):List α:=(List.range n).map fun k=>if k<i∧k≠r then g k else f k
theorem qo {α:Type} {f g:Nat→α} {n r i:Nat}:(eu f g n r i).length=n:=by simp[eu]
theorem L0 {α:Type} {l:List α} {g:Nat→α} {r:Nat} {d:α}:eu (fun k=>ae l k d) g l.length r 0=l:=by
 refine List.ext_getElem qo fun i h1 h2=>?_
 simp[eu,ae,h2]
theorem L1 {α:Type} {f g:Nat→α} {n r i:Nat} {d:α} (h:i<n):ae (eu f g n r i) i d=f i:=by
 unfold eu
 rw[lY h,if_neg (by omega)]
theorem L9 {α:Type} {f g:Nat→α} {n r i:Nat} (h:i<n) (hr:i≠r):(eu f g n r i).set i (g i)=eu f g n r (i+1):=by
 refine List.ext_getElem (by simp[eu]) fun k h1 h2=>?_
 have hk:k<n:=by simpa[eu] using h2
 rw[List.getElem_set]
 simp only[eu,List.getElem_map,List.getElem_range]
 by_cases hik:i=k
 ·subst hik
  rw[if_pos rfl,if_pos ⟨by omega,hr⟩]
 ·rw[if_neg hik]
  by_cases h3:k<i∧k≠r
  ·rw[if_pos h3,if_pos ⟨by omega,h3.2⟩]
  ·rw[if_neg h3,if_neg (fun h4=>h3 ⟨by omega,h4.2⟩)]
theorem Mc {α:Type} {f g:Nat→α} {n r:Nat}:eu f g n r (r+1)=eu f g n r r:=by
 unfold eu
 refine List.map_congr_left fun k _=>?_
 by_cases h3:k<r∧k≠r
 ·rw[if_pos h3,if_pos ⟨by omega,h3.2⟩]
 ·rw[if_neg h3,if_neg (fun h4=>h3 ⟨by omega,h4.2⟩)]
theorem Me {α:Type} {f g:Nat→α} {n r:Nat} {x:α} (h:r<n):(eu f g n r n).set r x=(List.range n).map fun k=>if k=r then x else g k:=by
 refine List.ext_getElem (by simp[eu]) fun k h1 h2=>?_
 have hk:k<n:=by simpa[eu] using h2
 rw[List.getElem_set]
 simp only[eu,List.getElem_map,List.getElem_range]
 by_cases hik:r=k
 ·subst hik
  rw[if_pos rfl,if_pos rfl]
 ·rw[if_neg hik,if_pos ⟨hk,fun h=>hik h.symm⟩,if_neg fun h=>hik h.symm]
theorem MA {l:List (List Rat)} {i:Nat} {x:List Rat}:(fM l).set i (fL x)=fM (l.set i x):=by
 unfold fM
 rw[List.map_set]
theorem Y6 {l:List Rat} {c:Nat} (h:c<l.length):(fL (jZ l (1 / ae l c 0))).set c (ah (1 / ae l c 0))=fL (fR l c):=by
 rw[sJ]
 congr 1
 refine List.ext_getElem (by simp[jZ,fR]) fun k h1 h2=>?_
 have hk:k<l.length:=by simpa[fR] using h2
 rw[List.getElem_set]
 simp only[jZ,fR,List.getElem_map,List.getElem_range]
 by_cases hik:c=k
 ·subst hik
  rw[if_pos rfl,if_pos rfl]
 ·rw[if_neg hik,if_neg fun h=>hik h.symm,bF (i:=k) hk]
def gm (t:Tb) (r c i:Nat):Tb:={t with
 a7:=eu (fun k=>ae t.a7 k []) (fun k=>fy (ae t.a7 k []) c (fR (ae t.a7 r []) c)) t.a7.length r i
 bound:=eu t.bd (fun k=>t.bd k - t.cf k c*(t.bd r*(1 / t.cf r c))) t.bound.length r i}
theorem Y7 {t:Tb} {r c:Nat}:gm t r c 0=t:=by
 unfold gm
 have h1:=@L0 (List Rat) t.a7 (fun k=>fy (ae t.a7 k []) c (fR (ae t.a7 r []) c)) r []
 have h2:=@L0 Rat t.bound (fun k=>t.bd k - t.cf k c*(t.bd r*(1 / t.cf r c))) r 0
 have h2':eu t.bd (fun k=>t.bd k - t.cf k c*(t.bd r*(1 / t.cf r c))) t.bound.length r 0=t.bound:=h2
 rw[h1,h2']
def Y8 (n m:Int) (t:Tb) (r c:Int):Nat→bz
 |3=> .inv Int (fun j=>⟨[(0,.ptr 0 0 10),(1,.si .i64 r),(2,.si .i64 c),(6,.ptr 5 0 3),(8,.ow 6 n.toNat 3),(41,.row sF (fL (ae t.a7 r.toNat []))),(42,.si .i64 n),(43,.si .i64 j)],
   (aF n m t).gQ++[fC (1 / t.cf r.toNat c.toNat),.row sF (de (fL (jZ (ae t.a7 r.toNat []) (1 / t.cf r.toNat c.toNat))) j.toNat (false,([],[]))) 70 true]⟩)
   (fun s=>iS s 43) (fun j=>0≤j∧j≤n) (fun j=>(n - j).toNat) fun _ _=> .look
 |10=> .inv Int (fun i=>⟨[(0,.ptr 0 0 10),(1,.si .i64 r),(2,.si .i64 c),(8,.row sF (fL (fR (ae t.a7 r.toNat []) c.toNat))),(11,.ptr 7 0 3),(72,.si .i64 m),(73,.si .i64 i)],
   (aF n m (gm t r.toNat c.toNat i.toNat)).gQ++[fC (1 / t.cf r.toNat c.toNat),.dead,fC (t.bd r.toNat*(1 / t.cf r.toNat c.toNat))]⟩)
   (fun s=>iS s 73) (fun j=>0≤j∧j≤m) (fun j=>(m - j).toNat) fun _ _=> .look
 |_=> .look
theorem h408:eh Tryz.prog r408:=by
 refine lN (L:=[lW,Ae,Ad,r417,uF]) (W:=[]) r408 xr (fun a=>Y8 a.1.n a.1.m a.1.t a.2.1 a.2.2) (by simp) (by simpa using⟨h94,h416,h410,h417,h129⟩) (by kernel_rfl) (fun _=>rfl) (by kernel_rfl) ?_
 rintro⟨x,r,c⟩ ⟨n,m,t,hx,hok,⟨r0,r1⟩,⟨c0,c1⟩,ha⟩
 simp only at hx r0 r1 c0 c1 ha
 subst hx
 refine bh (let z0:=(aF n m t).a7;let z1:=ae z0 r.toNat sF.aY.dflt;let z2:=ah (IntCast.intCast (1:Int));let z3:=(z2.fst,z2.snd.fst,z2.snd.snd);let z4:=ae z1 c.toNat sF.dflt;let z5:=(z4.fst,z4.snd.fst,z4.snd.snd);let z6:=(↑(aF n m t).k4:Int);let z7:=SV.ptr 0 0 10;let z8:=SV.ptr 5 0 3;let z9:=(aF n m t).n;let ak:=SV.ow 6 z9.toNat 3;let al:=(aF n m t).t;let z12:=ae al.a7 r.toNat [];let au:=SV.row sF (fL z12);let ar:=SV.si .i64 z9;let ax:=(aF n m t).m;let ay:=SV.si .i64 ax;let z17:=ai.i .u32;let aG:=aF z9 ax al;let aH:=af.cells [SV.si .i64 aG.n,SV.si .i64 aG.m,SV.ow 1 aG.k0 1,SV.ow 2 aG.k1 3,SV.row sF aG.cost,SV.sb aG.v.fst,SV.row z17 aG.v.snd.fst,SV.row z17 aG.v.snd.snd,SV.ow 3 aG.k3 1,SV.ow 4 aG.k4 1] 179 10 false;let z20:=af.row sF.aY aG.a7 72 false;let z21:=af.row sF aG.bound 70 false;let z22:=ai.i .i64;let z23:=af.row z22 aG.basic 3 false;let z24:=af.row z22 aG.free 3 false;let z25:=ah (aO z3 / aO z5);let z26:=(1:Rat) / al.cf r.toNat c.toNat;let z27:=af.cells [SV.sb (ah z26).fst,SV.row z17 (ah z26).snd.fst,SV.row z17 (ah z26).snd.snd] 70 3 false;let z28:=(false,[],[]);let z29:=fL (jZ z12 z26);let z30:=((ah z26).fst,(ah z26).snd.fst,(ah z26).snd.snd);let z31:=aG.bound.length;let z32:=ae aG.bound r.toNat sF.dflt;let z33:=(z32.fst,z32.snd.fst,z32.snd.snd);let z34:=fL (fR z12 c.toNat);let z35:=SV.row sF z34;let z36:=SV.ptr 7 0 3;let z37:=aF z9 ax (gm al r.toNat c.toNat 0);let z38:=ah (aO z33*aO z30);let z39:=ah (al.bd r.toNat*z26);let z40:=af.cells [SV.sb z39.fst,SV.row z17 z39.snd.fst,SV.row z17 z39.snd.snd] 70 3 false;let z41:=(z39.fst,z39.snd.fst,z39.snd.snd);let z42:=aF z9 ax (dB al r.toNat c.toNat);((-9223372036854775808:Int)≤(1:Int)∧(1:Int)≤(9223372036854775807:Int))∧(aF n m t).k0=z0.length∧(0:Int)≤r∧r<(↑z0.length:Int)∧(aF n m t).k0=z0.length∧r.toNat<z0.length∧(0:Int)≤c∧c<(↑z1.length:Int)∧c.toNat<z1.length∧((bM z3∧bM z5)∧aO z5≠(0:Rat))∧(0:Int)≤z6∧z6≤z6∧z6*(56:Int)≤(140737488355328:Int)∧z6≤(1000000000000:Int)∧(aF n m t).k0=z0.length∧(0:Int)≤r∧r<(↑z0.length:Int)∧(aF n m t).k0=z0.length∧r.toNat<z0.length∧(((z7.same z7∧(SV.si .i64 r).same (SV.si .i64 r)∧(SV.si .i64 c).same (SV.si .i64 c)∧z8.same z8∧(SV.ow 6 z6.toNat 3).same ak∧(SV.row sF z1).same au∧(SV.si .i64 (↑z1.length:Int)).same ar∧(SV.il .i64 0).same (SV.si .i64 0)∧True)∧(af.cells [ar,ay,SV.ow 1 (aF n m t).k0 1,SV.ow 2 (aF n m t).k1 3,SV.row sF (aF n m t).cost,SV.sb (aF n m t).v.fst,SV.row z17 (aF n m t).v.snd.fst,SV.row z17 (aF n m t).v.snd.snd,SV.ow 3 (aF n m t).k3 1,SV.ow 4 (aF n m t).k4 1] 179 10 false).same aH∧(af.row sF.aY z0 72 false).same z20∧(af.row sF (aF n m t).bound 70 false).same z21∧(af.row z22 (aF n m t).basic 3 false).same z23∧(af.row z22 (aF n m t).free 3 false).same z24∧(af.cells [SV.sb z25.fst,SV.row z17 z25.snd.fst,SV.row z17 z25.snd.snd] 70 3 false).same z27∧(af.row (ai.b.pair (z17.aY.pair z17.aY)) (List.replicate z6.toNat z28) 70 true).same (af.row sF (de z29 0 z28) 70 true)∧True)∧(0:Int)≤(0:Int)∧(0:Int)≤z9)∧∀(x:Int),let z43:=ae (fL z12) x.toNat sF.dflt;let z44:=(z43.fst,z43.snd.fst,z43.snd.snd);let z45:=de z29 x.toNat z28;let z46:=z45.length;let z47:=x+(1:Int);let z48:=SV.si .i64 z47;let z49:=ah (aO z44*aO z30);(0:Int)≤x∧x≤z9→(decide (x<z9)=true→(0:Int)≤x∧x<(↑(fL z12).length:Int)∧x.toNat<(fL z12).length∧(bM z44∧bM z30)∧z9.toNat=z46∧(0:Int)≤x∧x<(↑z46:Int)∧z9.toNat=z46∧x.toNat<z46∧aC .i64 z47∧((z7.same z7∧(SV.si .i64 r).same (SV.si .i64 r)∧(SV.si .i64 c).same (SV.si .i64 c)∧z8.same z8∧ak.same ak∧au.same au∧ar.same ar∧z48.same z48∧True)∧aH.same aH∧z20.same z20∧z21.same z21∧z23.same z23∧z24.same z24∧z27.same z27∧(af.row sF (z45.set x.toNat (z49.fst,z49.snd.fst,z49.snd.snd)) 70 true).same (af.row sF (de z29 z47.toNat z28) 70 true)∧True)∧((0:Int)≤z47∧z47≤z9)∧(z9 - z47).toNat<(z9 - x).toNat)∧(decide (x<z9)=false→z9.toNat=z46∧(0:Int)≤c∧c<(↑z46:Int)∧z9.toNat=z46∧c.toNat<z46∧aG.k1=z31∧(0:Int)≤r∧r<(↑z31:Int)∧aG.k1=z31∧r.toNat<z31∧(bM z33∧bM z30)∧z9.toNat=(z45.set c.toNat z30).length∧(((z7.same z7∧(SV.si .i64 r).same (SV.si .i64 r)∧(SV.si .i64 c).same (SV.si .i64 c)∧(SV.row sF (z45.set c.toNat z30)).same z35∧z36.same z36∧(SV.si .i64 (↑aG.k0:Int)).same ay∧(SV.il .i64 0).same (SV.si .i64 0)∧True)∧aH.same (af.cells [SV.si .i64 z37.n,SV.si .i64 z37.m,SV.ow 1 z37.k0 1,SV.ow 2 z37.k1 3,SV.row sF z37.cost,SV.sb z37.v.fst,SV.row z17 z37.v.snd.fst,SV.row z17 z37.v.snd.snd,SV.ow 3 z37.k3 1,SV.ow 4 z37.k4 1] 179 10 false)∧z20.same (af.row sF.aY z37.a7 72 false)∧z21.same (af.row sF z37.bound 70 false)∧z23.same (af.row z22 z37.basic 3 false)∧z24.same (af.row z22 z37.free 3 false)∧z27.same z27∧af.dead.same af.dead∧(af.cells [SV.sb z38.fst,SV.row z17 z38.snd.fst,SV.row z17 z38.snd.snd] 70 3 false).same z40∧True)∧(0:Int)≤(0:Int)∧(0:Int)≤ax)∧∀(x:Int),let z50:=aF z9 ax (gm al r.toNat c.toNat x.toNat);let z51:=z50.a7;let z52:=z51.length;let z53:=z50.bound;let z54:=z53.length;let z55:=ae z51 x.toNat sF.aY.dflt;let z56:=ae z53 x.toNat sF.dflt;let z57:=(z56.fst,z56.snd.fst,z56.snd.snd);let z58:=x+(1:Int);let z59:=SV.si .i64 z58;let z60:=SV.si .i64 z50.n;let z61:=SV.si .i64 z50.m;let z62:=SV.ow 1 z50.k0 1;let z63:=SV.ow 2 z50.k1 3;let z64:=z50.cost;let z65:=[SV.ow 3 z50.k3 1,SV.ow 4 z50.k4 1];let z66:=aF z9 ax (gm al r.toNat c.toNat z58.toNat);let z67:=af.row sF.aY z66.a7 72 false;let z68:=ah (aO z57 - ae (vL z55) c.toNat (0:Rat)*aO z41);let z69:=af.row sF z66.bound 70 false;let z70:=z50.basic;let z71:=(z50.v.fst,z50.v.snd.fst,z50.v.snd.snd);let z72:=ae z64 c.toNat sF.dflt;let z73:=(z72.fst,z72.snd.fst,z72.snd.snd);let z74:=ah (aO z73*aO z41);let z75:=(z74.fst,z74.snd.fst,z74.snd.snd);let z76:=z50.free.length;let z77:=ah (aO z71+aO z75);(0:Int)≤x∧x≤ax→(decide (x<ax)=true→(decide (x≠r)=true→z50.k0=z52∧(0:Int)≤x∧x<(↑z52:Int)∧z50.k0=z52∧x.toNat<z52∧z50.k1=z54∧(0:Int)≤x∧x<(↑z54:Int)∧z50.k1=z54∧x.toNat<z54∧(∃l b p pb,(z55=fL l∧z57=ah b∧z34=fL p∧z41=ah pb)∧(l.length=p.length∧l.length≤1000)∧((0:Int)≤c∧c<(↑l.length:Int))∧(∀(q:Rat),q∈l→Sz 10000000 q)∧(∀(q:Rat),q∈p→Sz 10000000 q)∧Sz 10000000 b∧Sz 10000000 pb)∧z50.k0=z52∧(0:Int)≤x∧x<(↑z52:Int)∧z50.k0=z52∧x.toNat<z52∧z50.k1=z54∧(0:Int)≤x∧x<(↑z54:Int)∧z50.k1=z54∧x.toNat<z54∧aC .i64 z58∧((z7.same z7∧(SV.si .i64 r).same (SV.si .i64 r)∧(SV.si .i64 c).same (SV.si .i64 c)∧z35.same z35∧z36.same z36∧ay.same ay∧z59.same z59∧True)∧(af.cells (z60::z61::z62::z63::SV.row sF z64::SV.sb z50.v.fst::SV.row z17 z50.v.snd.fst::SV.row z17 z50.v.snd.snd::z65) 179 10 false).same (af.cells [SV.si .i64 z66.n,SV.si .i64 z66.m,SV.ow 1 z66.k0 1,SV.ow 2 z66.k1 3,SV.row sF z66.cost,SV.sb z66.v.fst,SV.row z17 z66.v.snd.fst,SV.row z17 z66.v.snd.snd,SV.ow 3 z66.k3 1,SV.ow 4 z66.k4 1] 179 10 false)∧(af.row sF.aY (z51.set x.toNat (fL (fy (vL z55) c.toNat (vL z34)))) 72 false).same z67∧(af.row sF (z53.set x.toNat (z68.fst,z68.snd.fst,z68.snd.snd)) 70 false).same z69∧(af.row z22 z70 3 false).same (af.row z22 z66.basic 3 false)∧(af.row z22 z50.free 3 false).same (af.row z22 z66.free 3 false)∧z27.same z27∧af.dead.same af.dead∧z40.same z40∧True)∧((0:Int)≤z58∧z58≤ax)∧(ax - z58).toNat<(ax - x).toNat)∧(decide (x≠r)=false→aC .i64 z58∧((z7.same z7∧(SV.si .i64 r).same (SV.si .i64 r)∧(SV.si .i64 c).same (SV.si .i64 c)∧z35.same z35∧z36.same z36∧ay.same ay∧z59.same z59∧True)∧(af.cells (z60::z61::z62::z63::SV.row sF z64::SV.sb z50.v.fst::SV.row z17 z50.v.snd.fst::SV.row z17 z50.v.snd.snd::z65) 179 10 false).same (af.cells [SV.si .i64 z66.n,SV.si .i64 z66.m,SV.ow 1 z66.k0 1,SV.ow 2 z66.k1 3,SV.row sF z66.cost,SV.sb z66.v.fst,SV.row z17 z66.v.snd.fst,SV.row z17 z66.v.snd.snd,SV.ow 3 z66.k3 1,SV.ow 4 z66.k4 1] 179 10 false)∧(af.row sF.aY z51 72 false).same z67∧(af.row sF z53 70 false).same z69∧(af.row z22 z70 3 false).same (af.row z22 z66.basic 3 false)∧(af.row z22 z50.free 3 false).same (af.row z22 z66.free 3 false)∧z27.same z27∧af.dead.same af.dead∧z40.same z40∧True)∧((0:Int)≤z58∧z58≤ax)∧(ax - z58).toNat<(ax - x).toNat))∧(decide (x<ax)=false→(0:Int)≤c∧c<(↑z64.length:Int)∧c.toNat<z64.length∧(∃l b p pb,(z64=fL l∧z71=ah b∧z34=fL p∧z41=ah pb)∧(l.length=p.length∧l.length≤1000)∧((0:Int)≤c∧c<(↑l.length:Int))∧(∀(q:Rat),q∈l→Sz 10000000 q)∧(∀(q:Rat),q∈p→Sz 10000000 q)∧Sz 10000000 b∧Sz 10000000 pb)∧(bM z73∧bM z41)∧(bM z71∧bM z75)∧z50.k0=z52∧(0:Int)≤r∧r<(↑z52:Int)∧z50.k0=z52∧r.toNat<z52∧z50.k1=z54∧(0:Int)≤r∧r<(↑z54:Int)∧z50.k1=z54∧r.toNat<z54∧z50.k4=z76∧(0:Int)≤c∧c<(↑z76:Int)∧z50.k4=z76∧c.toNat<z76∧z50.k3=z70.length∧(0:Int)≤r∧r<(↑z70.length:Int)∧z50.k3=z70.length∧r.toNat<z70.length∧z50.k3=z70.length∧(0:Int)≤r∧r<(↑z70.length:Int)∧z50.k3=z70.length∧r.toNat<z70.length∧z50.k4=z76∧(0:Int)≤c∧c<(↑z76:Int)∧z50.k4=z76∧c.toNat<z76∧(SV.aD []).same (SV.aD [])∧(af.cells (z60::z61::z62::z63::SV.row sF (fL (fy (vL z64) c.toNat (vL z34)))::SV.sb z77.fst::SV.row z17 z77.snd.fst::SV.row z17 z77.snd.snd::z65) 179 10 false).same (af.cells [SV.si .i64 z42.n,SV.si .i64 z42.m,SV.ow 1 z42.k0 1,SV.ow 2 z42.k1 3,SV.row sF z42.cost,SV.sb z42.v.fst,SV.row z17 z42.v.snd.fst,SV.row z17 z42.v.snd.snd,SV.ow 3 z42.k3 1,SV.ow 4 z42.k4 1] 179 10 false)∧(af.row sF.aY (z51.set r.toNat z34) 72 false).same (af.row sF.aY z42.a7 72 false)∧(af.row sF (z53.set r.toNat z41) 70 false).same (af.row sF z42.bound 70 false)∧(af.row z22 (z70.set r.toNat (ae z50.free c.toNat (0:Int))) 3 false).same (af.row z22 z42.basic 3 false)∧(af.row z22 (z50.free.set c.toNat (ae z70 r.toNat (0:Int))) 3 false).same (af.row z22 z42.free 3 false)∧True))) (by kernel_rfl) ?_
 conv=>zeta
 try simp only[mX]
 try simp only[aF]
 try simp only[vcs]
 obtain⟨⟨⟨n0,n1⟩,m0,m1⟩,hw,hz⟩:=id hok
 have hkl:=hw.a7
 have hbl:=hw.bound
 have hbb:=hw.basic
 have hfl:=hw.free
 have hcl:=hw.cost
 have hfm:=@Ag t.a7
 have pj:=@ed t.bound
 have hrl:=hw.row r.toNat (by omega)
 have hcast:∀k:Nat,((k:Nat):Int).toNat=k:=fun k=>Int.toNat_natCast k
 have h1:(IntCast.intCast 1:Rat)=1:=rfl
 have hR:ae (fM t.a7) r.toNat sF.aY.dflt=fL (ae t.a7 r.toNat []):=EV (by omega)
 have hA:ae (fL (ae t.a7 r.toNat [])) c.toNat sF.dflt=ah (t.cf r.toNat c.toNat):=gl (by omega)
 have hB:ae (fL t.bound) r.toNat sF.dflt=ah (t.bd r.toNat):=gl (by omega)
 simp only[hR,hA,hB,gP,cb,hcast,h1]
 have hsA:=hok.cf (i:=r.toNat) (j:=c.toNat) (by omega) (by omega)
 have hsB:=hok.bd (i:=r.toNat) (by omega)
 have s1:Sz 1 (1:Rat):=by unfold Sz;decide
 have hsI:=EU s1 hsA ha
 have hsP:=uO hsB hsI
 have hfr:=@ed (ae t.a7 r.toNat [])
 have hsl:(jZ (ae t.a7 r.toNat []) (1 / t.cf r.toNat c.toNat)).length=n.toNat:=by unfold jZ;rw[List.length_map];exact hrl
 have hfs:=@ed (jZ (ae t.a7 r.toNat []) (1 / t.cf r.toNat c.toNat))
 have hrow:∀{x y:List aW},x=y→(af.row sF x 70 true).same (af.row sF y 70 true):=by rintro _ _ rfl;rfl
 refine⟨by omega,by omega,r0,by omega,by omega,by omega,c0,by omega,by omega,⟨⟨dm s1 (by omega),dm hsA (by omega)⟩,ha⟩,by omega,by omega,by omega,by omega,by omega,r0,by omega,by omega,by omega,⟨⟨⟨by rw[hfl];rfl,trivial,by omega⟩,rfl,hrow (by rw[uV,hfs,hsl,hfl])⟩,by omega,by omega⟩,?_⟩
 rintro j ⟨j0,j1⟩
 have eW:=@uU (fL (jZ (ae t.a7 r.toNat []) (1 / t.cf r.toNat c.toNat))) j.toNat (false,([],[])) (by omega)
 refine⟨fun hj=>?_,fun hj=>?_⟩
 ·have hL:ae (fL (ae t.a7 r.toNat [])) j.toNat sF.dflt=ah (t.cf r.toNat j.toNat):=gl (by omega)
  have hS:ae (fL (jZ (ae t.a7 r.toNat []) (1 / t.cf r.toNat c.toNat))) j.toNat (false,([],[]))=ah (t.cf r.toNat j.toNat*(1 / t.cf r.toNat c.toNat)):=by
   rw[gl (by omega),bF (by omega)]
   unfold jZ Tb.cf
   rw[List.getElem_map,bF (l:=ae t.a7 r.toNat []) (i:=j.toNat) (by omega)]
  simp only[hL,cb]
  refine⟨j0,by omega,by omega,⟨dm (hok.cf (by omega) (by omega)) (by omega),dm hsI (by omega)⟩,by omega,j0,by omega,by omega,by omega,by omega,hrow ?_,by omega,by omega⟩
  rw[uX (by omega) hS.symm,show(j+1).toNat=j.toNat+1 by omega]
 ·have hset:(de (fL (jZ (ae t.a7 r.toNat []) (1 / t.cf r.toNat c.toNat))) j.toNat (false,([],[]))).set c.toNat (ah (1 / t.cf r.toNat c.toNat))=fL (fR (ae t.a7 r.toNat []) c.toNat):=by
   rw[show j.toNat=(fL (jZ (ae t.a7 r.toNat []) (1 / t.cf r.toNat c.toNat))).length by omega,uW]
   exact Y6 (by omega)
  have hpl:(fR (ae t.a7 r.toNat []) c.toNat).length=n.toNat:=by rw[K6];exact hrl
  have hfp:=@ed (fR (ae t.a7 r.toNat []) c.toNat)
  simp only[hset,Y7]
  have MB:∀q∈fR (ae t.a7 r.toNat []) c.toNat,Sz 10000000 q:=fun q hq=>by
   obtain⟨k,hk,rfl⟩:=List.mem_map.1 hq
   rw[List.mem_range] at hk
   split
   ·exact hsI.mono (by omega)
   ·exact(uO (hok.cf (i:=r.toNat) (j:=k) (by omega) (by omega)) hsI).mono (by omega)
  refine⟨by omega,c0,by omega,by omega,by omega,by omega,r0,by omega,by omega,by omega,⟨dm hsB (by omega),dm hsI (by omega)⟩,by omega,⟨⟨⟨trivial,by omega⟩,rfl,rfl,rfl,rfl,rfl,rfl⟩,by omega,by omega⟩,?_⟩
  rintro i ⟨i0,i1⟩
  have Y9:(gm t r.toNat c.toNat i.toNat).a7.length=m.toNat:=by show(eu _ _ _ _ _).length=_;rw[qo];exact hkl
  have Za:(gm t r.toNat c.toNat i.toNat).bound.length=m.toNat:=by show(eu _ _ _ _ _).length=_;rw[qo];exact hbl
  have efm:=@Ag (gm t r.toNat c.toNat i.toNat).a7
  have efb:=@ed (gm t r.toNat c.toNat i.toNat).bound
  have hfc:=@ed t.cost
  have Zb:∀{a b:Tb},a.a7.length=b.a7.length→a.bound.length=b.bound.length→a.cost=b.cost→a.value=b.value→a.basic.length=b.basic.length→a.free.length=b.free.length→
    (af.cells [.si .i64 n,.si .i64 m,.ow 1 a.a7.length 1,.ow 2 a.bound.length 3,.row sF (fL a.cost),.sb (ah a.value).1,.row (.i .u32) (ah a.value).2.1,.row (.i .u32) (ah a.value).2.2,.ow 3 a.basic.length 1,.ow 4 a.free.length 1] 179 10 false).same
    (af.cells [.si .i64 n,.si .i64 m,.ow 1 b.a7.length 1,.ow 2 b.bound.length 3,.row sF (fL b.cost),.sb (ah b.value).1,.row (.i .u32) (ah b.value).2.1,.row (.i .u32) (ah b.value).2.2,.ow 3 b.basic.length 1,.ow 4 b.free.length 1] 179 10 false):=fun h1 h2 h3 h4 h5 h6=>by
   rw[h1,h2,h3,h4,h5,h6];rfl
  have MC:∀{x y:List (List aW)},x=y→(af.row sF.aY x 72 false).same (af.row sF.aY y 72 false):=by rintro _ _ rfl;rfl
  have MD:∀{x y:List aW},x=y→(af.row sF x 70 false).same (af.row sF y 70 false):=by rintro _ _ rfl;rfl
  have ME:∀{x y:List Int},x=y→(af.row (.i .i64) x 3 false).same (af.row (.i .i64) y 3 false):=by rintro _ _ rfl;rfl
  refine⟨fun hi=>⟨fun hir=>?_,fun hir=>?_⟩,fun hi=>?_⟩
  ·have Zc:ae (fM (gm t r.toNat c.toNat i.toNat).a7) i.toNat sF.aY.dflt=fL (ae t.a7 i.toNat []):=by
    rw[EV (by omega)]
    congr 1
    exact L1 (by omega)
   have Zd:ae (fL (gm t r.toNat c.toNat i.toNat).bound) i.toNat sF.dflt=ah (t.bd i.toNat):=by
    rw[gl (by omega)]
    congr 1
    exact L1 (by omega)
   have hli:=hw.row i.toNat (by omega)
   simp only[Zc,Zd,mW,cb]
   refine⟨by omega,i0,by omega,by omega,by omega,by omega,i0,by omega,by omega,by omega,⟨ae t.a7 i.toNat [],t.bd i.toNat,fR (ae t.a7 r.toNat []) c.toNat,t.bd r.toNat*(1 / t.cf r.toNat c.toNat),⟨rfl,rfl,rfl,rfl⟩,⟨by omega,by omega⟩,⟨c0,by omega⟩,fun q hq=>?_,MB,(hok.bd (by omega)).mono (by omega),hsP.mono (by omega)⟩,by omega,i0,by omega,by omega,by omega,by omega,i0,by omega,by omega,by omega,by omega,⟨Zb ?_ ?_ rfl rfl rfl rfl,MC ?_,MD ?_,rfl,rfl⟩,by omega,by omega⟩
   ·exact(hz.1 _ (dQ (d:=[]) (by omega)) q hq).mono (by omega)
   ·show(eu _ _ _ _ _).length=(eu _ _ _ _ _).length
    rw[qo,qo]
   ·show(eu _ _ _ _ _).length=(eu _ _ _ _ _).length
    rw[qo,qo]
   ·rw[MA,show(i+1).toNat=i.toNat+1 by omega]
    congr 1
    exact L9 (by omega) (by omega)
   ·rw[sJ,show(i+1).toNat=i.toNat+1 by omega]
    congr 1
    exact L9 (f:=t.bd) (g:=fun k=>t.bd k - t.cf k c.toNat*(t.bd r.toNat*(1 / t.cf r.toNat c.toNat))) (by omega) (by omega)
  ·have e:gm t r.toNat c.toNat (i+1).toNat=gm t r.toNat c.toNat i.toNat:=by
    rw[show(i+1).toNat=r.toNat+1 by omega,show i.toNat=r.toNat by omega]
    unfold gm
    rw[Mc,Mc]
   rw[e]
   exact⟨by omega,⟨rfl,rfl,rfl,rfl,rfl⟩,by omega,by omega⟩
  ·have MF:=hok.cs (j:=c.toNat) (by omega)
   have hC:ae (fL t.cost) c.toNat sF.dflt=ah (t.cs c.toNat):=gl (by omega)
   have hcc:(gm t r.toNat c.toNat i.toNat).cost=t.cost:=rfl
   have hvv:(gm t r.toNat c.toNat i.toNat).value=t.value:=rfl
   have Ze:(gm t r.toNat c.toNat i.toNat).free=t.free:=rfl
   have hbs:(gm t r.toNat c.toNat i.toNat).basic=t.basic:=rfl
   simp only[hC,hcc,hvv,Ze,hbs,mW,cb]
   refine⟨c0,by omega,by omega,⟨t.cost,t.value,fR (ae t.a7 r.toNat []) c.toNat,t.bd r.toNat*(1 / t.cf r.toNat c.toNat),⟨rfl,rfl,rfl,rfl⟩,⟨by omega,by omega⟩,⟨c0,by omega⟩,fun q hq=>(hz.2.2.1 q hq).mono (by omega),MB,hz.2.2.2.mono (by omega),hsP.mono (by omega)⟩,⟨dm MF (by omega),dm hsP (by omega)⟩,⟨dm hz.2.2.2 (by omega),dm (uO MF hsP) (by omega)⟩,
    by omega,r0,by omega,by omega,by omega,by omega,r0,by omega,by omega,by omega,c0,by omega,by omega,r0,by omega,by omega,r0,by omega,by omega,c0,by omega,by omega,?_,MC ?_,MD ?_,ME rfl,ME rfl⟩
   ·have hpw:=K7 (r:=r.toNat) (c:=c.toNat) hw
    rw[Y9,Za,hbb,hfl,hpw.a7,hpw.bound,hpw.basic,hpw.free]
    rfl
   ·rw[MA,show i.toNat=t.a7.length by omega]
    congr 1
    exact Me (by omega)
   ·rw[sJ,show i.toNat=t.bound.length by omega]
    congr 1
    exact Me (by omega)
def okO (n m:Nat) (t:Tb):Prop:=∃t0 M G,Small n m M G t0∧Run n m t0 t∧fz m t
theorem Zf {n m:Nat} {t:Tb} (h:okO n m t):cF n m (mY n m t) t=true:=by
 obtain⟨t0,M,G,h1,h2,h3⟩:=h
 have hx:=EQ h2 h3
 unfold mY
 rw[dif_pos hx]
 exact Classical.choose_spec hx
noncomputable def E9:cK:=ox 104 Unit .nil (fun n m t _=>okO n.toNat m.toNat t) (fun n m t _=> .aD [.si .i64 (if cj (lastT n.toNat m.toNat t) n.toNat<0 then 0 else cj (lastT n.toNat m.toNat t) n.toNat),.sb (decide (cj (lastT n.toNat m.toNat t) n.toNat<0))]) (fun n m t _=>lastT n.toNat m.toNat t)
def tS (t:Tb) (s:aN):Tb:=match Ah s.o with
 |some x=>x.t
 |none=>t
noncomputable def Zg (n m:Int) (t:Tb):Nat→bz
 |1=> .inv Tb (fun x=>⟨[(0,.ptr 0 0 10)],(aF n m x).gQ⟩) (tS t) (fun x=>okO n.toNat m.toNat x∧lastT n.toNat m.toNat x=lastT n.toNat m.toNat t∧cF n.toNat m.toNat (mY n.toNat m.toNat t) x=true) (fun x=>sH n.toNat m.toNat (mY n.toNat m.toNat t) x) fun _ _=> .look
 |_=> .look
theorem Zh {n m:Int} {t:Tb} (h:okO n.toNat m.toNat t) (hn:0≤n∧n≤1000) (hm:0≤m∧m≤1000):fA n m t:=by
 obtain⟨t0,M,G,h1,h2,h3⟩:=h
 exact LN h1 h2 hn hm
theorem h402:eh Tryz.prog E9:=by
 refine lN (L:=[]) (W:=[EW,EX,r408]) E9 xm (fun a=>Zg a.1.n a.1.m a.1.t) (by simpa using⟨h411,h412,h408⟩) (by simp) (by kernel_rfl) (fun _=>rfl) (by kernel_rfl) ?_
 rintro⟨x,u⟩ ⟨n,m,t,hx,hok,hd⟩
 simp only at hx hd
 subst hx
 refine bh (let z0:=SV.ptr 0 0 10;let z1:=(aF n m t).n;let z2:=(aF n m t).m;let z3:=ai.i .u32;let z4:=(aF n m t).t;let z5:=aF z1 z2 z4;let z6:=ai.i .i64;let z7:=z1.toNat;let z8:=z2.toNat;let z9:=lastT z7 z8 z4;let ak:=mY z7 z8 z4;let al:=SV.aD [SV.si .i64 (if cj z9 z7<(0:Int) then(0:Int) else cj z9 z7),SV.sb (decide (cj z9 z7<(0:Int)))];let z12:=aF z1 z2 z9;let au:=af.cells [SV.si .i64 z12.n,SV.si .i64 z12.m,SV.ow 1 z12.k0 1,SV.ow 2 z12.k1 3,SV.row sF z12.cost,SV.sb z12.v.fst,SV.row z3 z12.v.snd.fst,SV.row z3 z12.v.snd.snd,SV.ow 3 z12.k3 1,SV.ow 4 z12.k4 1] 179 10 false;let ar:=af.row sF.aY z12.a7 72 false;let ax:=af.row sF z12.bound 70 false;let ay:=af.row z6 z12.basic 3 false;let z17:=af.row z6 z12.free 3 false;(((z0.same z0∧True)∧(af.cells [SV.si .i64 z1,SV.si .i64 z2,SV.ow 1 (aF n m t).k0 1,SV.ow 2 (aF n m t).k1 3,SV.row sF (aF n m t).cost,SV.sb (aF n m t).v.fst,SV.row z3 (aF n m t).v.snd.fst,SV.row z3 (aF n m t).v.snd.snd,SV.ow 3 (aF n m t).k3 1,SV.ow 4 (aF n m t).k4 1] 179 10 false).same (af.cells [SV.si .i64 z5.n,SV.si .i64 z5.m,SV.ow 1 z5.k0 1,SV.ow 2 z5.k1 3,SV.row sF z5.cost,SV.sb z5.v.fst,SV.row z3 z5.v.snd.fst,SV.row z3 z5.v.snd.snd,SV.ow 3 z5.k3 1,SV.ow 4 z5.k4 1] 179 10 false)∧(af.row sF.aY (aF n m t).a7 72 false).same (af.row sF.aY z5.a7 72 false)∧(af.row sF (aF n m t).bound 70 false).same (af.row sF z5.bound 70 false)∧(af.row z6 (aF n m t).basic 3 false).same (af.row z6 z5.basic 3 false)∧(af.row z6 (aF n m t).free 3 false).same (af.row z6 z5.free 3 false)∧True)∧okO z7 z8 z4∧z9=z9∧cF z7 z8 ak z4=true)∧∀(x:Tb),let aG:=aF z1 z2 x;let aH:=cj aG.t aG.n.toNat;let z20:=decide (aH<(0:Int));let z21:=aF aG.n aG.m aG.t;let z22:=bU z21.t aH.toNat z21.m.toNat;let z23:=decide (z22<(0:Int));let z24:=aF z21.n z21.m z21.t;let z25:=aF z24.n z24.m (dB z24.t z22.toNat aH.toNat);let z26:=aF z1 z2 z25.t;okO z7 z8 x∧lastT z7 z8 x=z9∧cF z7 z8 ak x=true→(∃n m t,aG=aF n m t∧fA n m t∧True)∧(z20=true→(SV.aD [SV.il .i64 0,SV.bl true]).same al∧(af.cells [SV.si .i64 z21.n,SV.si .i64 z21.m,SV.ow 1 z21.k0 1,SV.ow 2 z21.k1 3,SV.row sF z21.cost,SV.sb z21.v.fst,SV.row z3 z21.v.snd.fst,SV.row z3 z21.v.snd.snd,SV.ow 3 z21.k3 1,SV.ow 4 z21.k4 1] 179 10 false).same au∧(af.row sF.aY z21.a7 72 false).same ar∧(af.row sF z21.bound 70 false).same ax∧(af.row z6 z21.basic 3 false).same ay∧(af.row z6 z21.free 3 false).same z17∧True)∧(z20=false→(∃n m t,z21=aF n m t∧fA n m t∧(0:Int)≤aH∧aH<n)∧(z23=true→(SV.aD [SV.si .i64 aH,SV.bl false]).same al∧(af.cells [SV.si .i64 z24.n,SV.si .i64 z24.m,SV.ow 1 z24.k0 1,SV.ow 2 z24.k1 3,SV.row sF z24.cost,SV.sb z24.v.fst,SV.row z3 z24.v.snd.fst,SV.row z3 z24.v.snd.snd,SV.ow 3 z24.k3 1,SV.ow 4 z24.k4 1] 179 10 false).same au∧(af.row sF.aY z24.a7 72 false).same ar∧(af.row sF z24.bound 70 false).same ax∧(af.row z6 z24.basic 3 false).same ay∧(af.row z6 z24.free 3 false).same z17∧True)∧(z23=false→(∃n m t,z24=aF n m t∧fA n m t∧((0:Int)≤z22∧z22<m)∧((0:Int)≤aH∧aH<n)∧t.cf z22.toNat aH.toNat≠(0:Rat))∧0=0∧((z0.same z0∧True)∧(af.cells [SV.si .i64 z25.n,SV.si .i64 z25.m,SV.ow 1 z25.k0 1,SV.ow 2 z25.k1 3,SV.row sF z25.cost,SV.sb z25.v.fst,SV.row z3 z25.v.snd.fst,SV.row z3 z25.v.snd.snd,SV.ow 3 z25.k3 1,SV.ow 4 z25.k4 1] 179 10 false).same (af.cells [SV.si .i64 z26.n,SV.si .i64 z26.m,SV.ow 1 z26.k0 1,SV.ow 2 z26.k1 3,SV.row sF z26.cost,SV.sb z26.v.fst,SV.row z3 z26.v.snd.fst,SV.row z3 z26.v.snd.snd,SV.ow 3 z26.k3 1,SV.ow 4 z26.k4 1] 179 10 false)∧(af.row sF.aY z25.a7 72 false).same (af.row sF.aY z26.a7 72 false)∧(af.row sF z25.bound 70 false).same (af.row sF z26.bound 70 false)∧(af.row z6 z25.basic 3 false).same (af.row z6 z26.basic 3 false)∧(af.row z6 z25.free 3 false).same (af.row z6 z26.free 3 false)∧True)∧(okO z7 z8 z25.t∧lastT z7 z8 z25.t=z9∧cF z7 z8 ak z25.t=true)∧sH z7 z8 ak z25.t<sH z7 z8 ak x))) (by kernel_rfl) ?_
 simp only[YK,mX,LG,LH]
 try simp only[vcs]
 obtain⟨⟨hn,hm⟩,hw,hz⟩:=id hok
 refine⟨⟨hd,Zf hd⟩,?_⟩
 rintro x ⟨hx,hl,he⟩
 have Ao:=Zh hx hn hm
 have hs:stepT n.toNat m.toNat x=if cj x n.toNat<0 then none else if bU x (cj x n.toNat).toNat m.toNat<0 then none else some (dB x (bU x (cj x n.toNat).toNat m.toNat).toNat (cj x n.toNat).toNat):=rfl
 have hwx:=Ao.2.1
 have fin:∀{y:Tb},y=lastT n.toNat m.toNat t→aF n m y=aF n m (lastT n.toNat m.toNat t):=by rintro _ rfl;rfl
 refine⟨⟨n,m,x,rfl,Ao⟩,fun h0=>?_,fun h0=>?_⟩
 ·rw[if_pos h0] at hs
  have e:=LP hs
  rw[hl] at e
  rw[←e] at h0 ⊢
  rw[if_pos h0,decide_eq_true h0]
  exact⟨⟨rfl,rfl⟩,rfl,rfl,rfl,rfl,rfl⟩
 ·have h0':¬cj x n.toNat<0:=h0
  rw[if_neg h0'] at hs
  rcases @sG x n.toNat with⟨e1,e2⟩|⟨c,e1,e2,e3,e4⟩
  ·omega
  ·refine⟨⟨n,m,x,rfl,Ao,by omega,by omega⟩,fun h1=>?_,fun h1=>?_⟩
   ·rw[if_pos h1] at hs
    have e:=LP hs
    rw[hl] at e
    rw[e,if_neg h0',decide_eq_false h0']
    exact⟨⟨rfl,rfl⟩,rfl,rfl,rfl,rfl,rfl⟩
   ·have h1':¬bU x (cj x n.toNat).toNat m.toNat<0:=h1
    rw[if_neg h1'] at hs
    rcases @qk x (cj x n.toNat).toNat m.toNat with⟨l1,l2⟩|⟨r,l1,l2,l3,l4⟩
    ·omega
    ·refine⟨⟨n,m,x,rfl,Ao,⟨by omega,by omega⟩,⟨by omega,by omega⟩,?_⟩,?_⟩
     ·rw[l1,Int.toNat_natCast];grind
     ·obtain⟨t0,M,G,g1,g2,g3⟩:=hx
      have hsr:=EO g2 g3 hs
      have Zi:=EQ g2 g3
      refine⟨⟨⟨t0,M,G,g1,hsr.1,hsr.2⟩,?_,Lx he hs⟩,left_step he hs⟩
      rw[YZ Zi hs,hl]
def ew (t:Tb) (n:Nat):Nat→List Rat
 |0=>List.replicate n 0
 |k+1=>if t.bv k<n then(ew t n k).set (t.bv k).toNat (t.bd k) else ew t n k
def fS (t:Tb) (n m:Nat):Nat→List Rat
 |0=>List.replicate m 0
 |k+1=>if(n:Int)≤t.fv k∧t.fv k<n+m then(fS t n m k).set (t.fv k - n).toNat (-(t.cs k)) else fS t n m k
theorem Fa {t:Tb} {n:Nat}:∀{k:Nat},(ew t n k).length=n
 |0=>by simp[ew]
 |k+1=>by
  have:=@Fa t n k
  unfold ew
  split
  ·rw[List.length_set,this]
  ·exact this
theorem MG {t:Tb} {n m:Nat}:∀{k:Nat},(fS t n m k).length=m
 |0=>by simp[fS]
 |k+1=>by
  have:=@MG t n m k
  unfold fS
  split
  ·rw[List.length_set,this]
  ·exact this
def Ap:cK:=ox 105 Unit .nil (fun _ _ t _=>∀v∈t.basic,0≤v) (fun n m t _=> .row sF (fL (ew t n.toNat m.toNat))) (fun _ _ t _=>t)
def Zj (n m:Int) (t:Tb):Nat→bz
 |3=> .inv Int (fun i=>⟨[(0,.ptr 0 0 10),(3,.ow 5 n.toNat 3),(14,.ow 3 t.basic.length 1),(15,.si .i64 t.basic.length),(16,.si .i64 i)],(aF n m t).gQ++[.row sF (fL (ew t n.toNat i.toNat)) 70 false]⟩)
   (fun s=>iS s 16) (fun i=>0≤i∧i≤m) (fun i=>(m - i).toNat) fun _ _=> .look
 |_=> .look
theorem h403:eh Tryz.prog Ap:=by
 refine lN (L:=[]) (W:=[r413]) Ap xn (fun a=>Zj a.1.n a.1.m a.1.t) (by simpa using h413) (by simp) (by kernel_rfl) (fun _=>rfl) (by kernel_rfl) ?_
 rintro⟨x,u⟩ ⟨n,m,t,hx,hok,hd⟩
 simp only at hx hd
 subst hx
 refine bh (let z0:=(aF n m t).n;let z1:=SV.ptr 0 0 10;let z2:=z0.toNat;let z3:=SV.ow 5 z2 3;let z4:=SV.ow 3 (aF n m t).k3 1;let z5:=(aF n m t).t;let z6:=z5.basic.length;let z7:=SV.ow 3 z6 1;let z8:=SV.si .i64 (↑z6:Int);let z9:=(aF n m t).m;let ak:=ai.i .u32;let al:=aF z0 z9 z5;let z12:=af.cells [SV.si .i64 al.n,SV.si .i64 al.m,SV.ow 1 al.k0 1,SV.ow 2 al.k1 3,SV.row sF al.cost,SV.sb al.v.fst,SV.row ak al.v.snd.fst,SV.row ak al.v.snd.snd,SV.ow 3 al.k3 1,SV.ow 4 al.k4 1] 179 10 false;let au:=af.row sF.aY al.a7 72 false;let ar:=af.row sF al.bound 70 false;let ax:=ai.i .i64;let ay:=al.basic;let z17:=af.row ax ay 3 false;let aG:=af.row ax al.free 3 false;let aH:=al.bound.length;((0:Int)≤z0∧z0≤(1000:Int))∧(((z1.same z1∧z3.same z3∧z4.same z7∧(SV.si .i64 (↑(aF n m t).k3:Int)).same z8∧(SV.il .i64 0).same (SV.si .i64 0)∧True)∧(af.cells [SV.si .i64 z0,SV.si .i64 z9,SV.ow 1 (aF n m t).k0 1,SV.ow 2 (aF n m t).k1 3,SV.row sF (aF n m t).cost,SV.sb (aF n m t).v.fst,SV.row ak (aF n m t).v.snd.fst,SV.row ak (aF n m t).v.snd.snd,z4,SV.ow 4 (aF n m t).k4 1] 179 10 false).same z12∧(af.row sF.aY (aF n m t).a7 72 false).same au∧(af.row sF (aF n m t).bound 70 false).same ar∧(af.row ax (aF n m t).basic 3 false).same z17∧(af.row ax (aF n m t).free 3 false).same aG∧(af.row sF (fL (List.replicate z2 (0:Rat))) 70 false).same (af.row sF (fL (ew z5 z2 0)) 70 false)∧True)∧(0:Int)≤(0:Int)∧(0:Int)≤z9)∧∀(x:Int),let z20:=decide (x<(↑z6:Int));let z21:=ae ay x.toNat (0:Int);let z22:=decide (z21<al.n);let z23:=fL (ew z5 z2 x.toNat);let z24:=x+(1:Int);let z25:=SV.si .i64 z24;let z26:=ae al.bound x.toNat sF.dflt;let z27:=af.row sF (fL (ew z5 z2 z24.toNat)) 70 false;(0:Int)≤x∧x≤z9→(z20=true→z6=ay.length∧(0:Int)≤x∧x<(↑ay.length:Int)∧z6=ay.length∧x.toNat<ay.length∧(z22=true→al.k1=aH∧(0:Int)≤x∧x<(↑aH:Int)∧al.k1=aH∧x.toNat<aH∧z2=z23.length∧(0:Int)≤z21∧z21<(↑z23.length:Int)∧z2=z23.length∧z21.toNat<z23.length∧aC .i64 z24∧((z1.same z1∧z3.same z3∧z7.same z7∧z8.same z8∧z25.same z25∧True)∧z12.same z12∧au.same au∧ar.same ar∧z17.same z17∧aG.same aG∧(af.row sF (z23.set z21.toNat (z26.fst,z26.snd.fst,z26.snd.snd)) 70 false).same z27∧True)∧((0:Int)≤z24∧z24≤z9)∧(z9 - z24).toNat<(z9 - x).toNat)∧(z22=false→aC .i64 z24∧((z1.same z1∧z3.same z3∧z7.same z7∧z8.same z8∧z25.same z25∧True)∧z12.same z12∧au.same au∧ar.same ar∧z17.same z17∧aG.same aG∧(af.row sF z23 70 false).same z27∧True)∧((0:Int)≤z24∧z24≤z9)∧(z9 - z24).toNat<(z9 - x).toNat))∧(z20=false→z2=z23.length∧(SV.row sF z23).same (SV.row sF (fL (ew z5 z2 z9.toNat)))∧z12.same z12∧au.same au∧ar.same ar∧z17.same z17∧aG.same aG∧True)) (by kernel_rfl) ?_
 simp only[mX]
 try simp only[aF]
 simp only[vcs]
 obtain⟨⟨⟨n0,n1⟩,m0,m1⟩,hw,hz⟩:=id hok
 have hbb:=hw.basic
 have hbl:=hw.bound
 have pj:=@ed t.bound
 have hbv:∀k:Nat,ae t.basic k 0=t.bv k:=fun k=>rfl
 have hrow:∀{x y:List aW},x=y→(af.row sF x 70 false).same (af.row sF y 70 false):=by rintro _ _ rfl;rfl
 refine⟨⟨n0,n1⟩,⟨hrow rfl,by omega,by omega⟩,?_⟩
 rintro i ⟨i0,i1⟩
 have hpl:=@Fa t n.toNat i.toNat
 have hfp:=@ed (ew t n.toNat i.toNat)
 refine⟨fun hi=>?_,fun hi=>⟨by omega,by rw[show i.toNat=m.toNat by omega]⟩⟩
 have hv:=hd _ (EK hw (show i.toNat<m.toNat by omega))
 have hB:ae (fL t.bound) i.toNat sF.dflt=ah (t.bd i.toNat):=gl (by omega)
 have hs:ew t n.toNat (i+1).toNat=if t.bv i.toNat<n.toNat then(ew t n.toNat i.toNat).set (t.bv i.toNat).toNat (t.bd i.toNat) else ew t n.toNat i.toNat:=by
  rw[show(i+1).toNat=i.toNat+1 by omega]
  rfl
 simp only[hbv,hB,gP,hs]
 refine⟨i0,hi,by omega,fun hlt=>⟨by omega,i0,by omega,by omega,by omega,by omega,hv,by omega,by omega,by omega,by omega,hrow ?_,by omega,by omega⟩,fun hlt=>⟨by omega,hrow ?_,by omega,by omega⟩⟩
 ·rw[sJ,if_pos (by omega)]
 ·rw[if_neg (by omega)]
def Aq:cK:=ox 107 Unit .nil (fun _ _ t _=>True) (fun n m t _=> .row sF (fL (fS t n.toNat m.toNat n.toNat))) (fun _ _ t _=>t)
def Zk (n m:Int) (t:Tb):Nat→bz
 |3=> .inv Int (fun i=>⟨[(0,.ptr 0 0 10),(3,.ow 5 m.toNat 3),(14,.ow 4 t.free.length 1),(15,.si .i64 t.free.length),(16,.si .i64 i)],(aF n m t).gQ++[.row sF (fL (fS t n.toNat m.toNat i.toNat)) 70 false]⟩)
   (fun s=>iS s 16) (fun i=>0≤i∧i≤n) (fun i=>(n - i).toNat) fun _ _=> .look
 |_=> .look
theorem h405:eh Tryz.prog Aq:=by
 refine lN (L:=[uE]) (W:=[r413]) Aq xo (fun a=>Zk a.1.n a.1.m a.1.t) (by simpa using h413) (by simpa using h130) (by kernel_rfl) (fun _=>rfl) (by kernel_rfl) ?_
 rintro⟨x,u⟩ ⟨n,m,t,hx,hok,hd⟩
 simp only at hx hd
 subst hx
 refine bh (let z0:=(aF n m t).m;let z1:=SV.ptr 0 0 10;let z2:=z0.toNat;let z3:=SV.ow 5 z2 3;let z4:=SV.ow 4 (aF n m t).k4 1;let z5:=(aF n m t).t;let z6:=z5.free.length;let z7:=SV.ow 4 z6 1;let z8:=SV.si .i64 (↑z6:Int);let z9:=(aF n m t).n;let ak:=ai.i .u32;let al:=aF z9 z0 z5;let z12:=af.cells [SV.si .i64 al.n,SV.si .i64 al.m,SV.ow 1 al.k0 1,SV.ow 2 al.k1 3,SV.row sF al.cost,SV.sb al.v.fst,SV.row ak al.v.snd.fst,SV.row ak al.v.snd.snd,SV.ow 3 al.k3 1,SV.ow 4 al.k4 1] 179 10 false;let au:=af.row sF.aY al.a7 72 false;let ar:=af.row sF al.bound 70 false;let ax:=ai.i .i64;let ay:=af.row ax al.basic 3 false;let z17:=al.free;let aG:=af.row ax z17 3 false;let aH:=z9.toNat;((0:Int)≤z0∧z0≤(1000:Int))∧(((z1.same z1∧z3.same z3∧z4.same z7∧(SV.si .i64 (↑(aF n m t).k4:Int)).same z8∧(SV.il .i64 0).same (SV.si .i64 0)∧True)∧(af.cells [SV.si .i64 z9,SV.si .i64 z0,SV.ow 1 (aF n m t).k0 1,SV.ow 2 (aF n m t).k1 3,SV.row sF (aF n m t).cost,SV.sb (aF n m t).v.fst,SV.row ak (aF n m t).v.snd.fst,SV.row ak (aF n m t).v.snd.snd,SV.ow 3 (aF n m t).k3 1,z4] 179 10 false).same z12∧(af.row sF.aY (aF n m t).a7 72 false).same au∧(af.row sF (aF n m t).bound 70 false).same ar∧(af.row ax (aF n m t).basic 3 false).same ay∧(af.row ax (aF n m t).free 3 false).same aG∧(af.row sF (fL (List.replicate z2 (0:Rat))) 70 false).same (af.row sF (fL (fS z5 aH z2 0)) 70 false)∧True)∧(0:Int)≤(0:Int)∧(0:Int)≤z9)∧∀(x:Int),let z20:=decide (x<(↑z6:Int));let z21:=ae z17 x.toNat (0:Int);let z22:=decide (al.n≤z21);let z23:=decide (z21<al.n+al.m);let z24:=z21 - al.n;let z25:=ae al.cost x.toNat sF.dflt;let z26:=(z25.fst,z25.snd.fst,z25.snd.snd);let z27:=fL (fS z5 aH z2 x.toNat);let z28:=x+(1:Int);let z29:=SV.si .i64 z28;let z30:=(ah (-aO z26)).snd;let z31:=af.row sF (fL (fS z5 aH z2 z28.toNat)) 70 false;(0:Int)≤x∧x≤z9→(z20=true→z6=z17.length∧(0:Int)≤x∧x<(↑z17.length:Int)∧z6=z17.length∧x.toNat<z17.length∧(z22=true→aC .i64 (al.n+al.m)∧(z23=true→aC .i64 z24∧(0:Int)≤x∧x<(↑al.cost.length:Int)∧x.toNat<al.cost.length∧bM z26∧z2=z27.length∧(0:Int)≤z24∧z24<(↑z27.length:Int)∧z2=z27.length∧z24.toNat<z27.length∧aC .i64 z28∧((z1.same z1∧z3.same z3∧z7.same z7∧z8.same z8∧z29.same z29∧True)∧z12.same z12∧au.same au∧ar.same ar∧ay.same ay∧aG.same aG∧(af.row sF (z27.set z24.toNat ((ah (-aO z26)).fst,z30.fst,z30.snd)) 70 false).same z31∧True)∧((0:Int)≤z28∧z28≤z9)∧(z9 - z28).toNat<(z9 - x).toNat)∧(z23=false→aC .i64 z28∧((z1.same z1∧z3.same z3∧z7.same z7∧z8.same z8∧z29.same z29∧True)∧z12.same z12∧au.same au∧ar.same ar∧ay.same ay∧aG.same aG∧(af.row sF z27 70 false).same z31∧True)∧((0:Int)≤z28∧z28≤z9)∧(z9 - z28).toNat<(z9 - x).toNat))∧(z22=false→aC .i64 z28∧((z1.same z1∧z3.same z3∧z7.same z7∧z8.same z8∧z29.same z29∧True)∧z12.same z12∧au.same au∧ar.same ar∧ay.same ay∧aG.same aG∧(af.row sF z27 70 false).same z31∧True)∧((0:Int)≤z28∧z28≤z9)∧(z9 - z28).toNat<(z9 - x).toNat))∧(z20=false→z2=z27.length∧(SV.row sF z27).same (SV.row sF (fL (fS z5 aH z2 aH)))∧z12.same z12∧au.same au∧ar.same ar∧ay.same ay∧aG.same aG∧True)) (by kernel_rfl) ?_
 simp only[mX]
 try simp only[aF]
 simp only[vcs]
 obtain⟨⟨⟨n0,n1⟩,m0,m1⟩,hw,hz⟩:=id hok
 have hfl:=hw.free
 have hcl:=hw.cost
 have hfc:=@ed t.cost
 have Ai:∀k:Nat,ae t.free k 0=t.fv k:=fun k=>rfl
 have hrow:∀{x y:List aW},x=y→(af.row sF x 70 false).same (af.row sF y 70 false):=by rintro _ _ rfl;rfl
 refine⟨⟨m0,m1⟩,⟨hrow rfl,by omega,by omega⟩,?_⟩
 rintro i ⟨i0,i1⟩
 have hpl:=@MG t n.toNat m.toNat i.toNat
 have hfp:=@ed (fS t n.toNat m.toNat i.toNat)
 refine⟨fun hi=>?_,fun hi=>⟨by omega,by rw[show i.toNat=n.toNat by omega]⟩⟩
 have hC:ae (fL t.cost) i.toNat sF.dflt=ah (t.cs i.toNat):=gl (by omega)
 have hs:fS t n.toNat m.toNat (i+1).toNat=if(n.toNat:Int)≤t.fv i.toNat∧t.fv i.toNat<n.toNat+m.toNat then(fS t n.toNat m.toNat i.toNat).set (t.fv i.toNat - n.toNat).toNat (-(t.cs i.toNat)) else fS t n.toNat m.toNat i.toNat:=by
  rw[show(i+1).toNat=i.toNat+1 by omega]
  rfl
 simp only[Ai,hC,gP,hs,cb]
 refine⟨i0,hi,by omega,fun h1=>⟨by omega,fun h2=>⟨by omega,i0,by omega,by omega,dm (hok.cs (by omega)) (by omega),by omega,by omega,by omega,by omega,by omega,by omega,hrow ?_,by omega,by omega⟩,fun h2=>⟨by omega,hrow ?_,by omega,by omega⟩⟩,fun h1=>⟨by omega,hrow ?_,by omega,by omega⟩⟩
 ·rw[sJ,if_pos (by omega),show(n.toNat:Int)=n by omega]
 ·rw[if_neg (by omega)]
 ·rw[if_neg (by omega)]
@[reducible] def sR:ai:=.pair (.aY sF) sF
abbrev nc:=List aW×List (List aW×aW)
def sK:nP nc where
 put a:=.agg [.row sF a.1,.row sR a.2]
 dec
  | .agg [r,v]=>match jM sF r,jM sR v with
   |some c,some v=>some (c,v)
   |_,_=>none
  |_=>none
 ok v a h:=by
  split at h
  ·split at h
   ·rename_i h1 h2
    simp only[Option.some.injEq] at h;subst h
    simp only[SV.g,gL,nS h1,nS h2]
   ·cases h
  ·cases h
 inj a b h:=by
  obtain⟨c,v⟩:=a
  obtain⟨c',v'⟩:=b
  simp only[SV.g,gL,AV.agg.injEq,List.cons.injEq,and_true,AV.sl.injEq] at h
  have m1:=mO sF h.1.1 h.1.2
  have m2:=mO sR h.2.1 h.2.2
  rw[m1,m2]
def iI (x:aW):Prop:=(ag x.2.1∧ag x.2.2)∧x.2.1.length≤1000000∧x.2.2.length≤1000000
def Fb:bf:=⟨142,List aW,.one (bR sF),fun l=>(show List aW from l).length≤1000∧∀x∈(show List aW from l),iI x,fun l=> .sb ((show List aW from l).all okF)⟩
def Zl (l:List aW):Nat→bz
 |2=> .inv Int (fun i=>⟨[(5,.row sF l),(6,.si .i64 l.length),(7,.si .i64 i)],[]⟩)
   (fun s=>iS s 7) (fun i=>(0≤i∧i≤l.length)∧(l.take i.toNat).all okF=true) (fun i=>(l.length - i).toNat) fun _ _=> .look
 |_=> .look
theorem h406:Holds Tryz.prog Fb:=by
 refine con (L:=[Af]) Fb xp Zl (bu.none _) (by simpa using h407) (by kernel_rfl) (by kernel_rfl) (fun _=>rfl) ?_
 rintro(l:List aW) ⟨(hl:l.length≤1000),(hx:∀x∈l,iI x)⟩
 refine bh (let z0:=(↑l.length:Int);let z1:=SV.si .i64 z0;((((SV.row sF l).same (SV.row sF l)∧(SV.si .i64 (↑l.length:Int)).same z1∧(SV.il .i64 0).same (SV.si .i64 0)∧True)∧True)∧((0:Int)≤(0:Int)∧(0:Int)≤z0)∧true=true)∧∀(x:Int),let z2:=ae l x.toNat sF.dflt;let z3:=!okF (z2.fst,z2.snd.fst,z2.snd.snd);let z4:=x+(1:Int);let z5:=SV.si .i64 z4;((0:Int)≤x∧x≤z0)∧(List.take x.toNat l).all okF=true→(decide (x<z0)=true→(0:Int)≤x∧x<(↑l.length:Int)∧x.toNat<l.length∧((ag z2.snd.fst∧ag z2.snd.snd)∧List.length z2.snd.fst≤1000000∧List.length z2.snd.snd≤1000000)∧(z3=true→(SV.bl false).same (SV.sb (l.all okF)))∧(z3=false→aC .i64 z4∧(((SV.row sF l).same (SV.row sF l)∧z1.same z1∧z5.same z5∧True)∧True)∧(((0:Int)≤z4∧z4≤z0)∧(List.take z4.toNat l).all okF=true)∧(z0 - z4).toNat<(z0 - x).toNat))∧(decide (x<z0)=false→(SV.bl true).same (SV.sb (l.all okF)))) (by kernel_rfl) ?_
 simp only[vcs]
 refine⟨⟨by omega,by omega⟩,?_⟩
 rintro i ⟨⟨i0,i1⟩,hall⟩
 refine⟨fun hi=>?_,fun hi=>?_⟩
 ·have hm:=dQ (d:=sF.dflt) (show i.toNat<l.length by omega)
  have et:=k9 (d:=sF.dflt) i0 hi
  have h1:=hx _ hm
  have h2:okF ((ae l i.toNat sF.dflt).1,(ae l i.toNat sF.dflt).2.1,(ae l i.toNat sF.dflt).2.2)=okF (ae l i.toNat sF.dflt):=rfl
  rw[h2]
  refine⟨i0,hi,by omega,⟨h1.1,h1.2.1,h1.2.2⟩,fun hf=>?_,fun ht=>⟨by omega,⟨⟨by omega,by omega⟩,?_⟩,by omega⟩⟩
  ·symm
   rw[Bool.eq_false_iff]
   intro ha
   rw[List.all_eq_true.1 ha _ hm] at hf
   cases hf
  ·rw[et,List.all_append,hall]
   simp[ht]
 ·rw[show i.toNat=l.length by omega,List.take_length] at hall
  exact hall.symm
def Fe:bf:=⟨100,nc,.one sK,fun a=>(a.1.length≤160∧a.2.length≤40)∧(∀x∈a.1,iI x∧okF x=true)∧∀r∈a.2,r.1.length=a.1.length∧(∀x∈r.1,iI x∧okF x=true)∧iI r.2∧okF r.2=true,fun _=> .si .i64 0⟩
def Zm (a:nc):Nat→bz
 |6=> .inv Int (fun i=>⟨[(1,.ptr 0 0 2),(20,.row sR a.2),(21,.si .i64 a.2.length),(22,.si .i64 i)],[.cells [.row sF a.1,.row sR a.2] 110 2 false]⟩)
   (fun s=>iS s 22) (fun i=>0≤i∧i≤a.2.length) (fun i=>(a.2.length - i).toNat) fun _ _=> .look
 |_=> .look
theorem h398:Holds Tryz.prog Fe:=by
 refine con (L:=[Fb,Af]) Fe xh Zm (bu.none _) (by simpa using⟨h406,h407⟩) (by kernel_rfl) (by kernel_rfl) (fun _=>rfl) ?_
 rintro⟨g,rs⟩ ⟨⟨hl1,hl2⟩,hg,hr⟩
 simp only at hl1 hl2 hg hr
 refine bh (let z0:=decide ((160:Int)<(↑g.length:Int));let z1:=SV.si .i64 0;let z2:=(↑rs.length:Int);let z3:=decide ((40:Int)<z2);let z4:=SV.ptr 0 0 2;let z5:=SV.row sR rs;let z6:=(↑rs.length:Int);let z7:=SV.si .i64 z6;let z8:=af.cells [SV.row sF g,z5] 110 2 false;(z0=true→(SV.il .i64 3).same z1)∧(z0=false→(z3=true→(SV.il .i64 3).same z1)∧(z3=false→(g.length≤1000∧∀(x:aW),x∈g→iI x)∧((!g.all okF)=true→(SV.il .i64 2).same z1)∧((!g.all okF)=false→(((z4.same z4∧z5.same z5∧(SV.si .i64 z2).same z7∧(SV.il .i64 0).same z1∧True)∧z8.same z8∧True)∧(0:Int)≤(0:Int)∧(0:Int)≤z6)∧∀(x:Int),let z9:=ae rs x.toNat sR.dflt;let ak:=decide ((↑(List.length z9.fst):Int)≠(↑g.length:Int));let al:=!List.all z9.fst okF;let z12:=z9.snd.snd.fst;let au:=z9.snd.snd.snd;let ar:=!okF (z9.snd.fst,z12,au);let ax:=x+(1:Int);let ay:=SV.si .i64 ax;(0:Int)≤x∧x≤z6→(decide (x<z6)=true→(0:Int)≤x∧x<z2∧x.toNat<rs.length∧(ak=true→(SV.il .i64 2).same z1)∧(ak=false→(List.length z9.fst≤1000∧∀(x:aW),x∈z9.fst→iI x)∧(al=true→(SV.il .i64 2).same z1)∧(al=false→((ag z12∧ag au)∧List.length z12≤1000000∧List.length au≤1000000)∧(ar=true→(SV.il .i64 2).same z1)∧(ar=false→aC .i64 ax∧((z4.same z4∧z5.same z5∧z7.same z7∧ay.same ay∧True)∧z8.same z8∧True)∧((0:Int)≤ax∧ax≤z6)∧(z6 - ax).toNat<(z6 - x).toNat))))∧(decide (x<z6)=false→(SV.il .i64 0).same z1))))) (by kernel_rfl) ?_
 simp only[vcs]
 have hall:∀{l:List aW},(∀x∈l,iI x∧okF x=true)→l.all okF=true:=fun h=>List.all_eq_true.2 fun x hx=>(h x hx).2
 refine⟨fun h=>by omega,fun _=>⟨fun h=>by omega,fun _=>⟨⟨by omega,fun x hx=>(hg x hx).1⟩,fun h=>(by rw[hall hg] at h;cases h),fun _=>⟨⟨by omega,by omega⟩,?_⟩⟩⟩⟩
 rintro i ⟨i0,i1⟩
 refine⟨fun hi=>?_,fun _=>trivial⟩
 have hm:=hr _ (dQ (d:=sR.dflt) (show i.toNat<rs.length by omega))
 have h2:okF ((ae rs i.toNat sR.dflt).2.1,(ae rs i.toNat sR.dflt).2.2.1,(ae rs i.toNat sR.dflt).2.2.2)=okF (ae rs i.toNat sR.dflt).2:=rfl
 rw[h2]
 refine⟨i0,hi,by omega,fun h=>absurd (by rw[hm.1]) h,fun _=>⟨⟨by have:=hm.1;omega,fun x hx=>(hm.2.1 x hx).1⟩,fun h=>?_,fun _=>⟨⟨hm.2.2.1.1,hm.2.2.1.2.1,hm.2.2.1.2.2⟩,fun h=>?_,fun _=>⟨by omega,⟨by omega,by omega⟩,by omega⟩⟩⟩⟩
 ·have:=hall hm.2.1
  rw[show List.all (ae rs i.toNat sR.dflt).1 okF=true from this] at h
  cases h
 ·rw[hm.2.2.2] at h
  cases h
end Go.Vi
