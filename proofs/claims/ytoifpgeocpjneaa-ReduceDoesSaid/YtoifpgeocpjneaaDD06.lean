/-
  The symbolic run is sound: regions, hints, code, calls.
  Conditions: none.
-/
import Derived.Test.YtoifpgeocpjneaaDD05
import Derived.Test.YtoifpgeocpjneaaDD01
import Derived.KernelRfl
import Derived.Deep.Slices
import Derived.OpenShut
import Derived.ProofKit
import Derived.Test.YtoifpgeocpjneaaRows
set_option maxRecDepth 100000
set_option maxHeartbeats 4000000
set_option linter.unusedSimpArgs false
set_option linter.unusedVariables false
namespace Go.Vi
theorem setE_g:∀{env:SEnv} {s:Nat} {v:SV},(getS env s).g=v.g→gE (setE env s v)=gE env
 |[],_,_,_=>rfl
 |p::r,s,v,h=>by
  simp only[setE,getS] at h ⊢
  cases hq:Nat.beq p.1 s with
  |true=>
   rw[hq] at h
   simp only[cond_true] at h ⊢
   simp[gE,h]
  |false=>
   rw[hq] at h
   simp only[cond_false] at h ⊢
   have:=setE_g h
   simp only[gE,List.map_cons] at this ⊢
   rw[this]
theorem wantK_sound {env:SEnv} {g:Option (Option Nat×Bool)} {K:SEnv→Bool→Prop} (h:wantK env g K):∃env' w,gE env'=gE env∧wantA (gE env) g=some w∧K env' w:=by
 unfold wantK at h
 split at h
 ·exact⟨_,_,rfl,rfl,h⟩
 ·exact h.elim
 ·rename_i s b
  split at h
  ·rename_i c hc
   exact⟨_,_,rfl,by simp[wantA,getS_g,hc,SV.g],h⟩
  ·rename_i c hc
   cases c with
   |true=>exact⟨_,_,setE_g (by rw[hc];rfl),by simp[wantA,getS_g,hc,SV.g],h.1 rfl⟩
   |false=>exact⟨_,_,setE_g (by rw[hc];rfl),by simp[wantA,getS_g,hc,SV.g],h.2 rfl⟩
  ·rename_i hc
   exact⟨_,_,rfl,by simp[wantA,getS_g,hc,SV.g,gL],h⟩
  ·exact h.elim
section
variable {call:Oracle} {p:SPar}
theorem sameO_gg:∀{a b:SStore},sameO a b→gO a=gO b
 |[],[],_=>rfl
 |x::a,y::b,h=>by
  obtain⟨h1,h2⟩:=h
  have h3:x.g=y.g:=h1
  simp only[gO,List.map_cons,h3]
  congr 1
  exact sameO_gg h2
def TrLe:Trace→Trace→Prop
 |[],[]=>True
 |x::a,y::b=>(x.1=y.1∧x.2.1=y.2.1∧∀j∈x.2.2,j∈y.2.2)∧TrLe a b
 |_,_=>False
theorem TrLe.look:∀{a b:Trace} {i:Nat},TrLe a b→(lookT a i).1=(lookT b i).1∧∀j∈(lookT a i).2,j∈(lookT b i).2
 |[],[],_,_=>⟨rfl,fun j h=>h⟩
 |(k,x)::a,(k',y)::b,i,h=>by
  obtain⟨⟨h1,h2,h3⟩,h4⟩:=h
  simp only at h1 h2 h3
  subst h1
  simp only[lookT]
  split
  ·exact⟨h2,h3⟩
  ·exact TrLe.look h4
theorem apartL_mono {a b a' b':List Nat} (ha:∀j∈a,j∈a') (hb:∀j∈b,j∈b') (h:apartL a' b'=true):apartL a b=true:=by
 unfold apartL at h ⊢
 rw[List.all_eq_true] at h ⊢
 intro j hj
 have h1:=h j (ha j hj)
 simp only[Bool.not_eq_true',List.contains_eq_mem,decide_eq_false_iff_not] at h1 ⊢
 exact fun h2=>h1 (hb j h2)
theorem chkOk_mono {n:Nat} {a b:Trace} {chk:List (Nat×Nat)} (h:TrLe a b) (hc:chkOk n b chk=true):chkOk n a chk=true:=by
 unfold chkOk at hc ⊢
 rw[List.all_eq_true] at hc ⊢
 intro p hp
 have h1:=hc p hp
 obtain⟨e1,s1⟩:=h.look (i:=p.1)
 obtain⟨e2,s2⟩:=h.look (i:=p.2)
 simp only[Bool.and_eq_true] at h1 ⊢
 rw[e1,e2]
 exact⟨⟨⟨apartL_mono s1 (fun j h=>h) h1.1.1.1,apartL_mono s2 (fun j h=>h) h1.1.1.2⟩,h1.1.2⟩,h1.2⟩
theorem opsK_sound (hC:SCallsOK call p.C) {base:Nat}:∀{ops:List IOper} {st:SSt} {tr:Trace} {K:SSt→Trace→Prop},opsK p base ops st tr K→
  ∃st' T,runOps call base ops st.g=some st'.g∧TrLe (traceOps call base ops st.g) T∧K st' (T.reverse++tr)
 |[],st,tr,K,h=>⟨st,[],rfl,trivial,h⟩
 |i::r,st,tr,K,h=>by
  simp only[opsK] at h
  obtain⟨env,w,he,hw,h2⟩:=wantK_sound h
  have hg:st.g=⟨gE env,gO st.o⟩:=by simp[SSt.g,he]
  rw[←he] at hw
  cases w with
  |true=>
   simp only[if_true] at h2
   obtain⟨v,o',h3,h4⟩:=opK_sound hC h2
   have hrun:runOp call base i st.g=some (SSt.g ⟨putS env i.dst v,o'⟩):=by
    rw[hg]
    simp only[runOp,hw,evS_fun]
    rw[eff_eq,h3]
    simp only[SSt.g,putS_g]
   have key:∀W:List Nat,(∀j∈wrtC call i.op (fun x=>(evS env x).g) (gO st.o) (base+i.nid),j∈W)→
     opsK p base r ⟨putS env i.dst v,o'⟩ ((i.idx,tch i.op (fun x=>(evS env x).g) (st.o.map SObj.g) (base+i.nid),W)::tr) K→
     ∃st' T,runOps call base (i::r) st.g=some st'.g∧TrLe (traceOps call base (i::r) st.g) T∧K st' (T.reverse++tr):=fun W hW h4=>by
    obtain⟨st',T,h5,hT,h6⟩:=opsK_sound hC h4
    refine⟨st',(i.idx,tch i.op (fun x=>(evS env x).g) (st.o.map SObj.g) (base+i.nid),W)::T,by simp only[runOps,hrun];exact h5,?_,?_⟩
    ·simp only[traceOps,hrun]
     rw[hg]
     simp only[hw,evS_fun]
     exact⟨⟨rfl,rfl,hW⟩,hT⟩
    ·rw[List.reverse_cons,List.append_assoc,List.singleton_append]
     exact h6
   unfold roK at h4
   split at h4
   ·rename_i f args hop
    split at h4
    ·obtain⟨hs,h4⟩:=h4
     refine key [] (fun j hj=>?_) h4
     rw[hop] at h3 hj
     have hcall:callOwn call f (args.map fun x=>(evS env x).g) (gO st.o)=some (v.g,gO o'):=by simpa only[effS,callA,if_true] using h3
     simp only[wrtC,hcall,List.mem_filter,decide_eq_true_eq] at hj
     exact absurd (by rw[sameO_gg hs]) hj.2
    ·exact key _ (fun j hj=>wrtC_sub hj) h4
   ·exact key _ (fun j hj=>wrtC_sub hj) h4
  |false=>
   simp only[Bool.false_eq_true,if_false] at h2
   obtain⟨st',T,h5,hT,h6⟩:=opsK_sound hC h2
   have hrun:runOp call base i st.g=some (SSt.g ⟨putS env i.dst (.tup []),st.o⟩):=by
    rw[hg]
    simp only[runOp,hw,SSt.g,putS_g,SV.g,gL]
   refine⟨st',(i.idx,[],[])::T,by simp only[runOps,hrun];exact h5,?_,?_⟩
   ·simp only[traceOps,hrun]
    rw[hg]
    simp only[hw]
    exact⟨⟨rfl,rfl,fun j h=>h⟩,hT⟩
   ·rw[List.reverse_cons,List.append_assoc,List.singleton_append]
    exact h6
theorem deads_g (k:Nat):gO (List.replicate k .dead)=deads k:=by simp[gO,deads,SObj.g]
theorem gO_app (a b:SStore):gO (a++b)=gO a++gO b:=by simp[gO]
theorem isDead_g (x:SObj):x.g.isDead=x.isDead:=by cases x<;>rfl
theorem sweepS_g (base:Nat) (o:SStore):gO (sweepS base o)=sweep base (gO o):=by
 unfold sweepS sweep
 have:((gO o).drop base).all (·.isDead)=(o.drop base).all (·.isDead):=by
  simp only[gO,←List.map_drop,List.all_map]
  congr 1
  funext x
  exact isDead_g x
 rw[this]
 cases(o.drop base).all (·.isDead)
 ·rfl
 ·simp[gO]
theorem regK_sound (hC:SCallsOK call p.C) {k:Nat} {ops:List IOper} {chk:List (Nat×Nat)} {st:SSt} {K:SSt→Prop} (h:regK p k ops chk st K):∃st',runReg call k ops chk st.g=some st'.g∧K st':=by
 unfold regK at h
 obtain⟨st',T,h1,hT,h2⟩:=opsK_sound hC h
 rw[List.append_nil,List.reverse_reverse] at h2
 have hst:(SSt.mk st.env (st.o++List.replicate k .dead)).g=⟨st.g.env,st.g.o++deads k⟩:=by simp[SSt.g,gO_app,deads_g]
 rw[hst] at h1 hT
 have hlen:st.g.o.length=st.o.length:=by simp[SSt.g,gO_len]
 split at h2
 ·rename_i hc
  refine⟨_,?_,h2⟩
  simp only[runReg,hlen]
  rw[h1]
  simp only
  rw[if_pos (by
   rw[List.length_append,hlen,deads,List.length_replicate]
   rw[Bool.or_eq_true] at hc ⊢
   exact hc.imp_right fun h=>chkOk_mono hT h)]
  simp only[SSt.g]
  by_cases hk:k=0
  ·simp[hk]
  ·simp[hk,sweepS_g]
 ·exact h2.elim
end
theorem isNil_g {v:SV}:isNil v=true↔v.g= .sc (.slice none 0 0):=by
 constructor
 ·intro h
  unfold isNil at h
  split at h
  ·rfl
  ·cases h
 ·intro h
  cases v<;>simp only[SV.g,reduceCtorEq,AV.sc.injEq] at h
  subst h
  rfl
section
variable {o:SStore} {id:Nat} {s:SId} {l:List s.T} {e:TypeId}
def pid (id:Nat):Nat→Bool:=fun i=>i==id
mutual
theorem frzV_sound (ho:o[id]?=some (.row s l e true)):∀{v:SV} {K:SV→Prop},frzV id s l v K→∃v':SV,v.g.frz (gO o) (pid id)=some v'.g∧K v'
 | .ow j n sz,K,h=>by
  simp only[frzV] at h
  split at h
  ·rename_i hj
   subst hj
   split at h
   ·rename_i hsz
    subst hsz
    obtain⟨rfl,hk⟩:=h
    refine⟨_,?_,hk⟩
    have htk:List.take (l.length*s.sz) (flatA s l)=flatA s l:=List.take_of_length_le (by rw[flatA_len];omega)
    simp only[SV.g,AV.frz,pid,BEq.rfl,if_true,getI ho,SObj.g,flatA_len,Nat.zero_add,Nat.le_refl,and_self,List.drop_zero,htk]
   ·exact h.elim
  ·rename_i hj
   refine⟨_,?_,h⟩
   simp only[SV.g,AV.frz,pid,beq_iff_eq,if_neg hj]
 | .os j off len n sz,K,h=>by
  simp only[frzV] at h
  split at h
  ·rename_i hj
   subst hj
   split at h
   ·rename_i hsz
    subst hsz
    obtain⟨rfl,hle,hk⟩:=h
    refine⟨_,?_,hk⟩
    have hm:(off+len)*s.sz≤l.length*s.sz:=Nat.mul_le_mul_right _ hle
    rw[Nat.add_mul] at hm
    have hll:((l.drop off).take len).length=len:=by simp;omega
    simp only[SV.g,AV.frz,pid,BEq.rfl,if_true,getI ho,SObj.g,flatA_len,hm,and_self,flatA_sub,hll]
   ·exact h.elim
  ·rename_i hj
   refine⟨_,?_,h⟩
   simp only[SV.g,AV.frz,pid,beq_iff_eq,if_neg hj]
 | .oc j off len n sz,K,h=>by
  simp only[frzV] at h
  split at h
  ·exact h.elim
  ·rename_i hj
   exact⟨_,by simp only[SV.g,AV.frz,pid,beq_iff_eq,if_neg hj],h⟩
 | .rp j i f n sz,K,h=>by
  simp only[frzV] at h
  split at h
  ·exact h.elim
  ·rename_i hj
   exact⟨_,by simp only[SV.g,AV.frz,pid,beq_iff_eq,if_neg hj],h⟩
 | .ptr j f t,K,h=>by
  simp only[frzV] at h
  split at h
  ·exact h.elim
  ·rename_i hj
   exact⟨_,by simp only[SV.g,AV.frz,pid,beq_iff_eq,if_neg hj],h⟩
 | .ap j a b c d i,K,h=>by
  simp only[frzV] at h
  split at h
  ·exact h.elim
  ·rename_i hj
   exact⟨_,by simp only[SV.g,AV.frz,pid,beq_iff_eq,if_neg hj],h⟩
 | .agg cs,K,h=>by
  simp only[frzV] at h
  obtain⟨cs',h1,h2⟩:=frzVL_sound ho h
  exact⟨_,by simp only[SV.g,AV.frz,h1,Option.map_some],h2⟩
 | .tup cs,K,h=>by
  simp only[frzV] at h
  obtain⟨cs',h1,h2⟩:=frzVL_sound ho h
  exact⟨_,by simp only[SV.g,AV.frz,h1,Option.map_some],h2⟩
 | .fn f a b,K,h=>by
  simp only[frzV] at h
  obtain⟨a',h1,h2⟩:=frzVL_sound ho h
  obtain⟨b',h3,h4⟩:=frzVL_sound ho h2
  exact⟨_,by simp only[SV.g,AV.frz,h1,h3],h4⟩
 | .ud,K,h=>⟨.ud,by simp only[SV.g,AV.frz],by simpa only[frzV] using h⟩
 | .sc v,K,h=>⟨.sc v,by simp only[SV.g,AV.frz],by simpa only[frzV] using h⟩
 | .il k n,K,h=>⟨.il k n,by simp only[SV.g,AV.frz],by simpa only[frzV] using h⟩
 | .si k n,K,h=>⟨.si k n,by simp only[SV.g,AV.frz],by simpa only[frzV] using h⟩
 | .bl b,K,h=>⟨.bl b,by simp only[SV.g,AV.frz],by simpa only[frzV] using h⟩
 | .sb b,K,h=>⟨.sb b,by simp only[SV.g,AV.frz],by simpa only[frzV] using h⟩
 | .row s l,K,h=>⟨.row s l,by simp only[SV.g,AV.frz],by simpa only[frzV] using h⟩
 | .ep s l i f,K,h=>⟨.ep s l i f,by simp only[SV.g,AV.frz],by simpa only[frzV] using h⟩
 | .mp i,K,h=>⟨.mp i,by simp only[SV.g,AV.frz],by simpa only[frzV] using h⟩
theorem frzVL_sound (ho:o[id]?=some (.row s l e true)):∀{cs:List SV} {K:List SV→Prop},frzVL id s l cs K→∃cs':List SV,frzL (gO o) (pid id) (gL cs)=some (gL cs')∧K cs'
 |[],K,h=>⟨[],by simp[gL,frzL],by simpa only[frzVL] using h⟩
 |c::cs,K,h=>by
  simp only[frzVL] at h
  obtain⟨c',h1,h2⟩:=frzV_sound ho h
  obtain⟨cs',h3,h4⟩:=frzVL_sound ho h2
  exact⟨c'::cs',by simp only[gL,frzL,h1,h3],h4⟩
end
theorem frzEK_sound (ho:o[id]?=some (.row s l e true)):∀{env:SEnv} {K:SEnv→Prop},frzEK id s l env K→∃env',frzE (gO o) (pid id) (gE env)=some (gE env')∧K env'
 |[],K,h=>⟨[],rfl,h⟩
 |(k,v)::r,K,h=>by
  simp only[frzEK] at h
  obtain⟨v',h1,h2⟩:=frzV_sound ho h
  obtain⟨r',h3,h4⟩:=frzEK_sound ho h2
  refine⟨(k,v')::r',?_,h4⟩
  simp only[gE,List.map_cons] at h3 ⊢
  simp only[frzE,h1,h3]
theorem frzL_plain {o:Store} {q:Nat→Bool}:∀{cs:List AV},(∀a∈cs,Plain a)→frzL o q cs=some cs
 |[],_=>by simp[frzL]
 |a::cs,h=>by
  have ih:=frzL_plain (o:=o) (q:=q) (cs:=cs) fun b hb=>h b (by simp[hb])
  rcases h a (by simp) with⟨v,rfl,_⟩|⟨n,ds,rfl,_⟩<;>simp only[frzL,AV.frz,ih]
theorem frzL_sc {o:Store} {q:Nat→Bool}:∀{cs:List AV},(∀a∈cs,∃v,a= .sc v)→frzL o q cs=some cs
 |[],_=>by simp[frzL]
 |c::cs,h=>by
  obtain⟨v,rfl⟩:=h c (by simp)
  simp only[frzL,AV.frz,frzL_sc (cs:=cs) fun a ha=>h a (by simp[ha])]
theorem frzM_sc {o:Store} {q:Nat→Bool}:∀{es:List (Value×AV)},(∀a∈es,∃v,a.2= .sc v)→frzM o q es=some es
 |[],_=>by simp[frzM]
 |(k,a)::es,h=>by
  obtain⟨v,hv⟩:=h (k,a) (by simp)
  simp only at hv
  subst hv
  simp only[frzM,AV.frz,frzM_sc (es:=es) fun a ha=>h a (by simp[ha])]
theorem frzOK_sound (ho:o[id]?=some (.row s l e true)):∀{i:Nat} {r:SStore} {K:SStore→Prop},frzOK id s l i r K→∃r' mid,frzS (gO o) (pid id) (gO r)=some mid∧dropPu (pid id) i mid=gO r'∧K r'
 |i,[],K,h=>⟨[],[],rfl,rfl,h⟩
 |i,x::r,K,h=>by
  cases x with
  |dead=>
   simp only[frzOK] at h
   obtain⟨r',mid,h1,h2,h3⟩:=frzOK_sound ho h
   refine⟨_,.dead::mid,?_,?_,h3⟩
   ·simp only[gO,List.map_cons,SObj.g] at h1 ⊢
    simp only[frzS,AObj.frz,h1]
   ·simp only[dropPu,h2];rfl
  |cells cs e' sz pu=>
   simp only[frzOK] at h
   cases pu with
   |true=>
    simp only[if_true] at h
    split at h
    ·exact h.elim
    ·rename_i hi
     obtain⟨r',mid,h1,h2,h3⟩:=frzOK_sound ho h
     refine⟨_,.cells (gL cs) e' sz true::mid,?_,?_,h3⟩
     ·simp only[gO,List.map_cons,SObj.g] at h1 ⊢
      simp only[frzS,AObj.frz,if_true,h1]
     ·simp only[dropPu,h2,pid,beq_iff_eq,if_neg hi];rfl
   |false=>
    simp only[Bool.false_eq_true,if_false] at h
    obtain⟨cs',hc1,hc2⟩:=frzVL_sound ho h
    obtain⟨r',mid,h1,h2,h3⟩:=frzOK_sound ho hc2
    refine⟨_,.cells (gL cs') e' sz false::mid,?_,?_,h3⟩
    ·simp only[gO,List.map_cons,SObj.g] at h1 hc1 ⊢
     simp only[frzS,AObj.frz,Bool.false_eq_true,if_false,hc1,Option.map_some,h1]
    ·simp only[dropPu,h2];rfl
  |rowp s' l' e' t=>
   simp only[frzOK] at h
   split at h
   ·exact h.elim
   ·obtain⟨t',hc1,hc2⟩:=frzVL_sound ho h
    split at hc2
    ·rename_i m hm
     obtain⟨hm1,_⟩:=decL_g hm
     obtain⟨r',mid,h1,h2,h3⟩:=frzOK_sound ho hc2
     refine⟨_,(SObj.row s' (l'++m) e' false).g::mid,?_,?_,h3⟩
     ·simp only[gO,List.map_cons,SObj.g] at h1 hc1 ⊢
      have happ:∀(a b c:List AV),frzL (List.map SObj.g o) (pid id) a=some a→frzL (List.map SObj.g o) (pid id) b=some c→frzL (List.map SObj.g o) (pid id) (a++b)=some (a++c):=fun a b c h1 h2=>by
       induction a with
       |nil=>exact h2
       |cons x a ih=>
        simp only[frzL] at h1
        split at h1
        ·rename_i x' a' hx ha
         injection h1 with h1
         injection h1 with e1 e2
         subst e1 e2
         simp only[List.cons_append,frzL,hx,ih ha]
        ·cases h1
      have hp:frzL (List.map SObj.g o) (pid id) (flatA s' l')=some (flatA s' l'):=frzL_plain (fun a ha=>flatA_plain ha)
      simp only[frzS,AObj.frz,Bool.false_eq_true,if_false,happ _ _ _ hp hc1,Option.map_some,h1,flatA_app,hm1]
     ·simp only[SObj.g,dropPu,h2];rfl
    ·exact hc2.elim
  |row s' l' e' pu=>
   simp only[frzOK] at h
   have hobj:(SObj.row s' l' e' pu).g.frz (gO o) (pid id)=some (SObj.row s' l' e' pu).g:=by
    cases pu with
    |true=>simp only[SObj.g,AObj.frz,if_true]
    |false=>
     simp only[SObj.g,AObj.frz,Bool.false_eq_true,if_false]
     rw[frzL_plain (fun a ha=>flatA_plain ha),Option.map_some]
   split at h
   ·rename_i hi
    cases pu with
    |false=>simp only[Bool.false_eq_true,if_false] at h
    |true=>
     simp only[if_true] at h
     obtain⟨r',mid,h1,h2,h3⟩:=frzOK_sound ho h
     refine⟨_,(SObj.row s' l' e' true).g::mid,?_,?_,h3⟩
     ·simp only[gO,List.map_cons] at h1 ⊢
      simp only[frzS,gO] at hobj h1 ⊢
      simp only[hobj,h1]
     ·simp only[SObj.g,dropPu,pid,hi,BEq.rfl,if_true]
      rw[hi] at h2
      rw[h2]
      rfl
   ·rename_i hi
    obtain⟨r',mid,h1,h2,h3⟩:=frzOK_sound ho h
    refine⟨_,(SObj.row s' l' e' pu).g::mid,?_,?_,h3⟩
    ·simp only[gO,List.map_cons] at h1 ⊢
     simp only[frzS,gO] at hobj h1 ⊢
     simp only[hobj,h1]
    ·cases pu<;>simp only[SObj.g,dropPu,h2,pid,beq_iff_eq,if_neg hi]<;>rfl
  |map sk sv ka es kt pu=>
   simp only[frzOK] at h
   have hobj:(SObj.map sk sv ka es kt pu).g.frz (gO o) (pid id)=some (SObj.map sk sv ka es kt pu).g:=by
    cases pu with
    |true=>simp only[SObj.g,AObj.frz,if_true]
    |false=>
     simp only[SObj.g,AObj.frz,Bool.false_eq_true,if_false]
     rw[frzM_sc (fun a ha=>by obtain⟨q,_,rfl⟩:=List.mem_map.1 ha;exact⟨_,rfl⟩),Option.map_some]
   obtain⟨r',mid,h1,h2,h3⟩:=frzOK_sound ho h
   refine⟨_,(SObj.map sk sv ka es kt pu).g::mid,?_,?_,h3⟩
   ·simp only[gO,List.map_cons] at h1 ⊢
    simp only[frzS,gO] at hobj h1 ⊢
    simp only[hobj,h1]
   ·simp only[SObj.g,dropPu,h2];rfl
end
theorem idOf_g {v:SV}:(∃id,hintK.idOf v=some id∧∃a b c,v.g= .os id a b c)∨(hintK.idOf v=none∧∀id a b c,v.g≠ .os id a b c):=by
 cases v<;>simp[hintK.idOf,SV.g]
theorem hint_frz {p:SPar} {lo:Nat} {h:OwnH} {st:SSt} {K:SSt→Prop} {v:SV} (hno:h.own=false) (hcell:cellH h st.g=some v.g)
  (hh:match hintK.idOf v with
   |some id=>if Nat.ble lo id then(match st.o[id]? with
    |some (.row s l e pu)=>frzEK id s l st.env fun env=>frzOK id s l 0 (if pu then st.o else st.o.set id (.row s l e true)) fun o=>K ⟨env,o⟩
    |_=>False) else K st
   |none=>K st):∃st',ownH lo h st.g=st'.g∧K st':=by
 let _:=p
 unfold ownH
 rw[if_neg (by simp[hno]),hcell]
 rcases @idOf_g v with⟨id,h1,a,b,c,h2⟩|⟨h1,h2⟩
 ·rw[h1] at hh
  rw[h2]
  simp only at hh ⊢
  split at hh
  ·rename_i hlo
   rw[if_pos hlo]
   split at hh
   ·rename_i s l e pu ho
    have e1:(fun i=>i==id)=pid id:=rfl
    cases pu with
    |true=>
     simp only[if_true] at hh
     obtain⟨env',h3,h4⟩:=frzEK_sound ho hh
     obtain⟨r',mid,h5,h6,h7⟩:=frzOK_sound ho h4
     refine⟨_,?_,h7⟩
     have e2:purH id st.g=st.g:=by
      unfold purH
      simp only[SSt.g,getI ho,SObj.g]
     rw[e2]
     simp only[frzH,SSt.g,e1,h3,h5,h6]
    |false=>
     simp only[Bool.false_eq_true,if_false] at hh
     have hid:id<st.o.length:=(List.getElem?_eq_some_iff.1 ho).1
     have ho2:(st.o.set id (.row s l e true))[id]?=some (.row s l e true):=by rw[List.getElem?_set_self hid]
     obtain⟨env',h3,h4⟩:=frzEK_sound (o:=st.o.set id (.row s l e true)) ho2 hh
     obtain⟨r',mid,h5,h6,h7⟩:=frzOK_sound ho2 h4
     refine⟨_,?_,h7⟩
     have e2:purH id st.g=SSt.g ⟨st.env,st.o.set id (.row s l e true)⟩:=by
      unfold purH
      simp only[SSt.g,getI ho,SObj.g,flatA_pure,if_true,gO_set]
     rw[e2]
     simp only[frzH,SSt.g,e1,h3,h5,h6]
   ·exact hh.elim
  ·rename_i hlo
   rw[if_neg hlo]
   exact⟨st,rfl,hh⟩
 ·rw[h1] at hh
  refine⟨st,?_,hh⟩
  split
  ·rename_i id a b c hx
   simp only[Option.some.injEq] at hx
   exact absurd hx (h2 _ _ _ _)
  ·rfl
section
variable {p:SPar} {lo:Nat}
theorem hintK_sound {h:OwnH} {st:SSt} {K:SSt→Prop} (hk:hintK p lo h st K):∃st',ownH lo h st.g=st'.g∧K st':=by
 unfold hintK at hk
 split at hk
 ·rename_i how
  unfold ownH
  rw[if_pos how]
  unfold ownH1
  split at hk
  ·rename_i hoff
   simp only[hoff]
   split at hk
   ·rename_i hn
    have hn2:=isNil_g.1 hn
    rw[←getS_g] at hn2
    have hn3:getE st.g.env h.slot= .sc (.slice none 0 0):=hn2
    rw[hn3]
    split at hk
    ·rename_i s hs
     split at hk
     ·rename_i hsz
      refine⟨_,?_,hk⟩
      simp[SSt.g,gE,gO,SV.g,SObj.g,flatA,hsz]
     ·exact hk.elim
    ·exact hk.elim
   ·rename_i hn
    split at hk
    ·rename_i hsz0
     split at hk
     ·rename_i id n2 sz2 hslot
      have hs2:getE st.g.env h.slot= .os id 0 n2 (n2*sz2):=by
       show getE (gE st.env) h.slot=_
       rw[getS_g,hslot];rfl
      rw[hs2]
      split at hk
      ·rename_i s l e ho
       refine⟨_,?_,hk⟩
       simp only[hsz0,if_true]
       unfold unpH
       simp only[SSt.g,getI ho,SObj.g,gO_set]
      ·exact hk.elim
     ·exact hk.elim
    ·rename_i hsz0
     refine⟨st,?_,hk⟩
     split
     ·rename_i hx
      have:getE (gE st.env) h.slot= .sc (.slice none 0 0):=hx
      rw[getS_g] at this
      exact absurd (isNil_g.2 this) hn
     ·rw[if_neg hsz0]
     ·rfl
  ·rename_i k hoff
   simp only[hoff]
   split at hk
   ·rename_i id off tot hslot
    have hs2:getE st.g.env h.slot= .ptr id off tot:=by
     show getE (gE st.env) h.slot=_
     rw[getS_g,hslot];rfl
    rw[hs2]
    split at hk
    ·rename_i cs e sz pu ho
     have ho2:st.g.o[id]?=some (.cells (gL cs) e sz pu):=getI ho
     simp only[ho2]
     split at hk
     ·rename_i hn
      cases hc:cs[off+k]? with
      |none=>rw[hc] at hn;simp at hn
      |some v=>
       rw[hc] at hn
       simp only[Option.any_some] at hn
       have hv:=isNil_g.1 hn
       have hc2:(gL cs)[off+k]?=some (.sc (.slice none 0 0)):=by rw[gL_get,hc,Option.map_some,hv]
       simp only[hc2,gL_len]
       split at hk
       ·rename_i hh
        rw[if_pos hh]
        split at hk
        ·rename_i s hs
         split at hk
         ·rename_i hsz
          refine⟨_,?_,hk⟩
          have e1:gL (cs.set (off+k) (.ow st.o.length 0 h.sz))=(gL cs).set (off+k) (.os st.o.length 0 0 0):=by
           rw[gL_map,gL_map,List.map_set];simp[SV.g]
          simp only[SSt.g,gO_app,gO_set,SObj.g,e1,gO_len]
          simp[gO,SObj.g,flatA,hsz]
         ·exact hk.elim
        ·exact hk.elim
       ·exact hk.elim
     ·rename_i hn
      refine⟨st,?_,hk⟩
      split
      ·rename_i hx
       rw[gL_get] at hx
       obtain⟨v,hv1,hv2⟩:=Option.map_eq_some_iff.1 hx
       rw[hv1] at hn
       exact absurd (isNil_g.2 hv2) (by simpa using hn)
      ·rfl
    ·exact hk.elim
   ·exact hk.elim
 ·rename_i how
  have how:h.own=false:=by simpa using how
  unfold hintK.cellK at hk
  cases hoff:h.off with
  |none=>
   rw[hoff] at hk
   simp only at hk
   refine hint_frz (p:=p) (v:=getS st.env h.slot) how ?_ ?_
   ·unfold cellH
    rw[hoff]
    simp only[SSt.g,getS_g]
   ·split at hk
    ·rename_i id hid
     simp only[Option.some.injEq] at hid
     rw[hid]
     exact hk
    ·rename_i hid
     simp only[Option.some.injEq] at hid
     rw[hid]
     exact hk
    ·exact hk.elim
  |some k=>
   rw[hoff] at hk
   simp only at hk
   cases hsl:getS st.env h.slot with
   |ptr id off tot=>
    rw[hsl] at hk
    simp only at hk
    cases ho:st.o[id]? with
    |none=>rw[ho] at hk;exact hk.elim
    |some x=>
     rw[ho] at hk
     cases x with
     |cells cs e sz pu=>
      simp only at hk
      by_cases hl:cs.length=tot
      ·rw[if_pos hl] at hk
       cases hc:cs[off+k]? with
       |none=>rw[hc] at hk;exact hk.elim
       |some v=>
        rw[hc] at hk
        refine hint_frz (p:=p) (v:=v) how ?_ ?_
        ·unfold cellH
         rw[hoff]
         have:getE st.g.env h.slot= .ptr id off tot:=by
          show getE (gE st.env) h.slot=_
          rw[getS_g,hsl];rfl
         have ho2:st.g.o[id]?=some (.cells (gL cs) e sz pu):=getI ho
         simp only[this,behind,ho2,gL_len,hl,if_true,gL_get,hc,Option.map_some]
        ·simp only[Option.map_some] at hk
         split at hk
         ·rename_i id hid
          simp only[Option.some.injEq] at hid
          rw[hid]
          exact hk
         ·rename_i hid
          simp only[Option.some.injEq] at hid
          rw[hid]
          exact hk
         ·exact hk.elim
      ·rw[if_neg hl] at hk
       exact hk.elim
     |_=>exact hk.elim
   |_=>rw[hsl] at hk;exact hk.elim
theorem hintsK_sound:∀{hs:List OwnH} {st:SSt} {K:SSt→Prop},hintsK p lo hs st K→∃st',hs.foldl (fun s h=>ownH lo h s) st.g=st'.g∧K st'
 |[],st,K,h=>⟨st,rfl,h⟩
 |h::hs,st,K,hk=>by
  simp only[hintsK] at hk
  obtain⟨st1,h1,h2⟩:=hintK_sound hk
  obtain⟨st2,h3,h4⟩:=hintsK_sound h2
  exact⟨st2,by rw[List.foldl_cons,h1,h3],h4⟩
theorem pruneS_g (live:List Nat) (env:SEnv):gE (pruneS live env)=prune live (gE env):=by
 simp[pruneS,prune,gE,←getS_g]
theorem trimS_g (k:Nat) (st:SSt):(trimS k st).g=trim k st.g:=by
 unfold trimS trim
 have h1:st.g.o.length=st.o.length:=by simp[SSt.g,gO_len]
 have h2:(st.g.env.all fun p=>p.2.bel k)=(st.env.all fun p=>p.2.bel k):=by
  simp only[SSt.g,gE,List.all_map]
  congr 1
  funext q
  exact bel_g k q.2
 have h3:((st.g.o.take k).all fun x=>x.bel k)=((st.o.take k).all fun x=>x.bel k):=by
  simp only[SSt.g,gO,←List.map_take,List.all_map]
  congr 1
  funext x
  exact obel_g k x
 rw[h1,h2,h3]
 by_cases hk:st.o.length≤k
 ·rw[if_pos hk,if_pos hk]
 ·rw[if_neg hk,if_neg hk]
  split
  ·simp[SSt.g,gO]
  ·rfl
variable {T:Tab}
theorem splitN_sound {v:Int} {n:Nat} {K:Nat→Prop}:∀{j:Nat},j≤n→splitN v n K j→(n - j:Nat)≤v→∃i:Nat,v=i∧K i
 |0,_,h,hv=>by
  simp only[splitN] at h
  omega
 |j+1,hj,h,hv=>by
  simp only[splitN] at h
  by_cases he:v=(n - (j+1):Nat)
  ·exact⟨_,he,h.1 he⟩
  ·exact splitN_sound (by omega) h.2 (by omega)
theorem splitN_nonneg {v:Int} {n:Nat} {K:Nat→Prop}:∀{j:Nat},splitN v n K j→0≤v
 |0,h=>h.1
 |j+1,h=>splitN_nonneg h.2
theorem splitK_sound {x:Option (Nat×Nat×Nat)} {st:SSt} {K:SSt→Prop} (h:splitK x st K):∃st',st'.g=st.g∧K st':=by
 unfold splitK at h
 split at h
 ·exact⟨st,rfl,h⟩
 ·rename_i id off n
  split at h
  ·rename_i cs e sz pu ho
   split at h
   ·rename_i k v hc
    obtain⟨i,rfl,hk⟩:=splitN_sound (Nat.le_refl _) h (by have:=splitN_nonneg h;omega)
    refine⟨_,?_,hk⟩
    have e1:gL (cs.set off (.il k i))=gL cs:=by
     rw[gL_map,gL_map,List.map_set]
     apply List.ext_getElem?
     intro j
     rw[List.getElem?_set]
     split
     ·rename_i hj
      subst hj
      obtain⟨h1,h2⟩:=List.getElem?_eq_some_iff.1 hc
      simp[h1,h2,SV.g]
     ·rfl
    simp only[SSt.g,gO_set,SObj.g,e1,SSt.mk.injEq,St.mk.injEq,true_and]
    apply List.ext_getElem?
    intro j
    rw[List.getElem?_set]
    split
    ·rename_i hj
     subst hj
     have hl:=(List.getElem?_eq_some_iff.1 ho).1
     rw[if_pos (by rw[gO_len];exact hl),gO_get,ho]
     rfl
    ·rfl
   ·exact h.elim
  ·exact h.elim
theorem sameE_g:∀{e e':SEnv},sameE e e'→gE e=gE e'
 |[],[],_=>rfl
 |[],_::_,h=>by simp[sameE] at h
 |_::_,[],h=>by simp[sameE] at h
 |(k,v)::e,(k',v')::e',h=>by
  simp only[sameE] at h
  split at h
  ·rename_i hk
   subst hk
   have:=sameE_g h.2
   simp only[gE,List.map_cons] at this ⊢
   rw[this,show v.g=v'.g from h.1]
  ·exact h.elim
theorem sameO_g:∀{o o':SStore},sameO o o'→gO o=gO o'
 |[],[],_=>rfl
 |[],_::_,h=>by simp[sameO] at h
 |_::_,[],h=>by simp[sameO] at h
 |x::o,y::o',h=>by
  simp only[sameO] at h
  have:=sameO_g h.2
  simp only[gO,List.map_cons] at this ⊢
  rw[this,show x.g=y.g from h.1]
theorem sameSt_g {s t:SSt} (h:sameSt s t):s.g=t.g:=by
 simp only[SSt.g,sameE_g h.1,sameO_g h.2]
def YOK (T:Tab) (md:Nat→Md):Option YS→Prop
 |none=>∀m,md m= .plain∨md m= .round
 |some Y=>∃y:Nat→YO,md=(fun m=> .iter (y m))∧∀vs o K,Y vs o K→∃(r:SV) (o':SStore),(∃N,∀m,N≤m→y m (gL vs) (gO o)=some (r.g,gO o'))∧K r o'
theorem map_evS (env:SEnv) (args:List Operand):args.map (evA (gE env))=gL (args.map (evS env)):=by
 rw[gL_map,List.map_map]
 apply List.map_congr_left
 intro x _
 exact evS_g env x
theorem opsYK_sound (hC:SCallsOK T.K p.C) {Y:YS} {y:Nat→YO} (hy:∀vs o K,Y vs o K→∃(r:SV) (o':SStore),(∃N,∀m,N≤m→y m (gL vs) (gO o)=some (r.g,gO o'))∧K r o') {base:Nat}:∀{ops:List IOper} {st:SSt} {K:SSt→Prop},opsYK p Y base ops st K→
  ∃st',(∃N,∀m,N≤m→∀call,OLe T.K call→runOpsY call (y m) base ops st.g=some st'.g)∧K st'
 |[],st,K,h=>⟨st,⟨0,fun _ _ _ _=>rfl⟩,h⟩
 |i::r,st,K,h=>by
  simp only[opsYK] at h
  obtain⟨env,w,he,hw,h2⟩:=wantK_sound h
  have hg:st.g=⟨gE env,gO st.o⟩:=by simp[SSt.g,he]
  rw[←he] at hw
  cases w with
  |false=>
   simp only[Bool.false_eq_true,if_false] at h2
   obtain⟨st',⟨N,h5⟩,h6⟩:=opsYK_sound hC hy h2
   refine⟨st',⟨N,fun m hm call hle=>?_⟩,h6⟩
   have hrun:runOpY call (y m) base i st.g=some (SSt.g ⟨putS env i.dst (.tup []),st.o⟩):=by
    have h0:runOp call base i st.g=some (SSt.g ⟨putS env i.dst (.tup []),st.o⟩):=by
     rw[hg]
     simp only[runOp,hw,SSt.g,putS_g,SV.g,gL]
    unfold runOpY
    split
    ·split
     ·rw[hg];simp only[hw,SSt.g,putS_g,SV.g,gL]
     ·exact h0
    ·exact h0
   simp only[runOpsY,hrun]
   exact h5 m hm call hle
  |true=>
   simp only[if_true] at h2
   split at h2
   ·rename_i vs hv
    obtain⟨v,o',⟨N1,h3⟩,h4⟩:=hy _ _ _ h2
    obtain⟨st',⟨N2,h5⟩,h6⟩:=opsYK_sound hC hy h4
    refine⟨st',⟨N1+N2,fun m hm call hle=>?_⟩,h6⟩
    have hrun:runOpY call (y m) base i st.g=some (SSt.g ⟨putS env i.dst v,o'⟩):=by
     unfold yArg at hv
     split at hv
     ·rename_i x args own hop
      split at hv
      ·rename_i l hx
       injection hv with hv
       subst hv
       have hxa:evA (gE env) x= .fn (.yield l) [] []:=by rw[evS_g,hx];rfl
       unfold runOpY
       rw[hop,hg]
       simp only[hxa,hw,map_evS,h3 m (by omega)]
       simp only[SSt.g,putS_g]
      ·cases hv
     ·cases hv
    simp only[runOpsY,hrun]
    exact h5 m (by omega) call hle
   ·rename_i hv
    obtain⟨v,o',h3,h4⟩:=opK_sound hC h2
    obtain⟨st',⟨N,h5⟩,h6⟩:=opsYK_sound hC hy h4
    refine⟨st',⟨N,fun m hm call hle=>?_⟩,h6⟩
    have hrun0:runOp T.K base i st.g=some (SSt.g ⟨putS env i.dst v,o'⟩):=by
     rw[hg]
     simp only[runOp,hw,evS_fun]
     rw[eff_eq,h3]
     simp only[SSt.g,putS_g]
    have hrun:runOpY call (y m) base i st.g=some (SSt.g ⟨putS env i.dst v,o'⟩):=by
     have h0:=hle.runOp hrun0
     unfold runOpY
     split
     ·rename_i x args own hop
      split
      ·rename_i l hx
       exfalso
       rw[hg] at hx
       simp only[evS_g] at hx
       unfold yArg at hv
       rw[hop] at hv
       simp only at hv
       have:evS env x= .fn (.yield l) [] []:=by
        cases hq:evS env x<;>rw[hq] at hx<;>simp only[SV.g,reduceCtorEq,AV.fn.injEq] at hx
        rename_i f a b
        obtain⟨rfl,h1,h2⟩:=hx
        cases a<;>simp[gL] at h1
        cases b<;>simp[gL] at h2
        rfl
       rw[this] at hv
       simp at hv
      ·exact h0
     ·exact h0
    simp only[runOpsY,hrun]
    exact h5 m hm call hle
theorem regYK_sound (hC:SCallsOK T.K p.C) {Y:YS} {y:Nat→YO} (hy:∀vs o K,Y vs o K→∃(r:SV) (o':SStore),(∃N,∀m,N≤m→y m (gL vs) (gO o)=some (r.g,gO o'))∧K r o') {k:Nat} {ops:List IOper} {st:SSt} {K:SSt→Prop} (h:regYK p Y k ops st K):
  ∃st',(∃N,∀m,N≤m→∀call,OLe T.K call→runRegY call (y m) k ops st.g=some st'.g)∧K st':=by
 unfold regYK at h
 obtain⟨st',⟨N,h1⟩,h2⟩:=opsYK_sound hC hy h
 have hst:(SSt.mk st.env (st.o++List.replicate k .dead)).g=⟨st.g.env,st.g.o++deads k⟩:=by simp[SSt.g,gO_app,deads_g]
 rw[hst] at h1
 have hlen:st.g.o.length=st.o.length:=by simp[SSt.g,gO_len]
 refine⟨_,⟨N,fun m hm call hle=>?_⟩,h2⟩
 simp only[runRegY,hlen]
 rw[h1 m hm call hle]
 simp only[SSt.g]
 by_cases hk:k=0
 ·simp[hk]
 ·simp[hk,sweepS_g]
theorem wpG_sound (hC:SCallsOK T.K p.C) {md:Nat→Md} {E:Operand→List Nat→IR→IR→(Nat→LoopAnn)→SSt→(Out→SSt→Prop)→Prop} {Y:Option YS} (hY:YOK T md Y) (hE:∀x ps az bd Λ st Q,E x ps az bd Λ st Q→VW T md lo (.each x ps az bd) st.g fun out s=>∃ss,s=ss.g∧Q out ss):∀{c:IR} {Λ:Nat→LoopAnn} {st:SSt} {Q:Out→SSt→Prop},wpG p E Y lo c Λ st Q→VW T md lo c st.g fun out s=>∃ss,s=ss.g∧Q out ss:=by
 intro c
 induction c with
 |skip=>intro Λ st Q h;exact VW.skip ⟨st,rfl,h⟩
 |exit id=>intro Λ st Q h;exact VW.exit ⟨st,rfl,h⟩
 |ret=>intro Λ st Q h;exact VW.ret ⟨st,rfl,h⟩
 |goto l=>intro Λ st Q h;exact VW.goto ⟨st,rfl,h⟩
 |condK x a b iha ihb=>
  intro Λ st Q h
  simp only[wpG] at h
  have hx:evA st.g.env x=(evS st.env x).g:=evS_g _ _
  split at h
  ·rename_i he
   rw[he] at hx
   exact VW.condK hx (by rw[if_pos rfl];exact iha h)
  ·rename_i he
   rw[he] at hx
   exact VW.condK hx (by rw[if_neg (by simp)];exact ihb h)
  ·rename_i c he
   rw[he] at hx
   have hset:∀v:SV,(SV.sb c).g=v.g→(SSt.mk (setX st.env x v) st.o).g=st.g:=fun v hv=>by
    cases x with
    |tmp t=>
     have:getS st.env t= .sb c:=he
     simp only[SSt.g,setX]
     rw[setE_g (by rw[this];exact hv)]
    |_=>rfl
   refine VW.condK hx ?_
   cases c with
   |true=>
    have:=iha (h.1 rfl)
    rw[hset (.bl true) rfl] at this
    rw[if_pos rfl];exact this
   |false=>
    have:=ihb (h.2 rfl)
    rw[hset (.bl false) rfl] at this
    rw[if_neg (by simp)];exact this
  ·exact h.elim
 |turns l b ih=>
  intro Λ st Q h
  cases l with
  |none=>
   simp only[wpG] at h
   refine VW.turn_no ((ih h).mono ?_)
   rintro out s ⟨ss,rfl,h2⟩
   cases out with
   |norm=>exact⟨by simp,ss,rfl,h2⟩
   |exit id=>exact⟨by simp,ss,rfl,h2⟩
   |ret=>exact⟨by simp,ss,rfl,h2⟩
   |goto l=>exact h2.elim
  |some l=>
   simp only[wpG] at h
   split at h
   ·rename_i X shape next J m inner _
    obtain⟨⟨h0,hx⟩,hstep⟩:=h
    refine VW.turn_inv (fun k s=>∃x,s=(shape x).g∧J x∧m x=k) ?_ (m (next st)) _ ⟨next st,sameSt_g h0,hx,rfl⟩
    rintro k s ⟨x,rfl,hj,rfl⟩
    refine(ih (hstep x hj)).mono ?_
    rintro out s ⟨ss,rfl,h2⟩
    cases out with
    |goto l'=>
     obtain⟨rfl,h3,h4,h5⟩:=h2
     refine .inl ⟨rfl,_,h5,_,?_,h4,rfl⟩
     have h6:=sameSt_g h3
     rw[←h6,trimS_g,show(shape x).o.length=(shape x).g.o.length from by simp[SSt.g,gO_len]]
    |norm=>exact .inr ⟨by simp,ss,rfl,h2⟩
    |exit id=>exact .inr ⟨by simp,ss,rfl,h2⟩
    |ret=>exact .inr ⟨by simp,ss,rfl,h2⟩
   ·exact h.elim
 |region id draw k ops chk live pre post=>
  intro Λ st Q h
  simp only[wpG] at h
  obtain⟨st0,h0,h⟩:=splitK_sound h
  obtain⟨st1,h1,h2⟩:=hintsK_sound h
  have plain:(∀m,draw=true∨md m= .plain∨md m= .round)→regK p k ops chk st1 (fun st2=>hintsK p lo post ⟨pruneS live st2.env,st2.o⟩ fun st3=>Q .norm st3)→VW T md lo (.region id draw k ops chk live pre post) st.g fun out s=>∃ss,s=ss.g∧Q out ss:=by
   intro hm h2
   obtain⟨st2,h3,h4⟩:=regK_sound hC h2
   obtain⟨st3,h5,h6⟩:=hintsK_sound h4
   refine VW.regionD hm ?_
   rw[←h0,h1,h3]
   refine⟨st3,?_,h6⟩
   rw[←h5]
   simp only[SSt.g,pruneS_g]
  unfold regMK at h2
  split at h2
  ·exact plain (fun m=> .inr (hY m)) h2
  ·exact plain (fun m=> .inl rfl) h2
  ·obtain⟨y,rfl,hy⟩:=hY
   obtain⟨st2,⟨N,h3⟩,h4⟩:=regYK_sound hC hy h2
   obtain⟨st3,h5,h6⟩:=hintsK_sound h4
   refine VW.regionY (st':=st2.g) ⟨N,fun m hm call hle=>?_⟩ ⟨st3,?_,h6⟩
   ·rw[←h0,h1];exact h3 m hm call hle
   ·rw[←h5]
    simp only[SSt.g,pruneS_g]
 |each x ps az bd _ _=>intro Λ st Q h;exact hE _ _ _ _ _ _ _ h
 |seq a b iha ihb=>
  intro Λ st Q h
  simp only[wpG] at h
  refine VW.seq ((iha h).mono ?_)
  rintro out s ⟨ss,rfl,h2⟩
  cases out with
  |norm=>rw[if_pos rfl];exact ihb h2
  |exit id=>rw[if_neg (by simp)];exact⟨ss,rfl,h2⟩
  |ret=>rw[if_neg (by simp)];exact⟨ss,rfl,h2⟩
  |goto l=>rw[if_neg (by simp)];exact⟨ss,rfl,h2⟩
 |cond x a b iha ihb=>
  intro Λ st Q h
  simp only[wpG] at h
  have hx:evA st.g.env x=(evS st.env x).g:=evS_g _ _
  have hdr:(SSt.mk (dropSE x st.env) st.o).g=⟨dropE x st.g.env,st.g.o⟩:=by
   have:∀(t:Nat) (env:SEnv),(dropS t env).map (fun p=>(p.1,p.2.g))=dropL t (env.map fun p=>(p.1,p.2.g)):=by
    intro t env
    induction env with
    |nil=>rfl
    |cons p env ih=>
     simp only[dropS,dropL,List.map_cons]
     cases Nat.beq p.1 t with
     |true=>simpa using ih
     |false=>simpa using ih
   cases x with
   |tmp t=>simp only[SSt.g,gE,dropSE,dropE];rw[this]
   |_=>rfl
  split at h
  ·rename_i he
   rw[he] at hx
   exact VW.cond hx (by rw[if_pos rfl,←hdr];exact iha h)
  ·rename_i he
   rw[he] at hx
   exact VW.cond hx (by rw[if_neg (by simp),←hdr];exact ihb h)
  ·rename_i c he
   rw[he] at hx
   refine VW.cond hx ?_
   cases c with
   |true=>rw[if_pos rfl,←hdr];exact iha (h.1 rfl)
   |false=>rw[if_neg (by simp),←hdr];exact ihb (h.2 rfl)
  ·exact h.elim
 |block id b ih=>
  intro Λ st Q h
  simp only[wpG] at h
  exact VW.block ((ih h).mono fun out s ⟨ss,e,h2⟩=>⟨ss,e,h2⟩)
 |loop b ih=>
  intro Λ st Q h
  simp only[wpG] at h
  split at h
  ·rename_i n hΛ
   clear hΛ
   induction n generalizing st with
   |zero=>exact h.elim
   |succ n ihn=>
    simp only[unrollK] at h
    refine VW.loop ((ih h).mono ?_)
    rintro out s ⟨ss,rfl,h2⟩
    cases out with
    |norm=>
     rw[if_pos rfl]
     have:=ihn h2
     rwa [trimS_g,show st.o.length=st.g.o.length from by simp[SSt.g,gO_len]] at this
    |exit id=>rw[if_neg (by simp)];exact⟨ss,rfl,h2⟩
    |ret=>rw[if_neg (by simp)];exact⟨ss,rfl,h2⟩
    |goto l=>rw[if_neg (by simp)];exact⟨ss,rfl,h2⟩
  ·exact h.elim
  ·rename_i X shape next J m inner _
   obtain⟨⟨h0,hx⟩,hstep⟩:=h
   refine VW.loop_inv (fun k s=>∃x,s=(shape x).g∧J x∧m x=k) ?_ (m (next st)) _ ⟨next st,sameSt_g h0,hx,rfl⟩
   rintro k s ⟨x,rfl,hj,rfl⟩
   refine(ih (hstep x hj)).mono ?_
   rintro out s ⟨ss,rfl,h2⟩
   cases out with
   |norm=>
    rw[if_pos rfl]
    obtain⟨h3,h4,h5⟩:=h2
    refine⟨_,h5,_,?_,h4,rfl⟩
    have h6:=sameSt_g h3
    rw[←h6,trimS_g,show(shape x).o.length=(shape x).g.o.length from by simp[SSt.g,gO_len]]
   |exit id=>rw[if_neg (by simp)];exact⟨ss,rfl,h2⟩
   |ret=>rw[if_neg (by simp)];exact⟨ss,rfl,h2⟩
   |goto l=>rw[if_neg (by simp)];exact⟨ss,rfl,h2⟩
theorem resK_go {st:SSt}:∀{rs:List IRes} {K:List SV→Prop},resK.goK st rs K→∃l,rs.mapM (resA st.g)=some (gL l)∧K l
 |[],K,h=>⟨[],by simp[gL],h⟩
 |r::rs,K,h=>by
  simp only[resK.goK] at h
  have h1:∃v,resA st.g r=some v.g∧resK.goK st rs fun l=>K (v::l):=by
   unfold resK.oneK at h
   unfold resA
   split at h
   ·rename_i hc
    rw[hc]
    exact⟨_,by simp only[SSt.g,getS_g],h⟩
   ·rename_i n hc
    rw[hc]
    obtain⟨cs,off,v,h2,h3,h4⟩:=loadK_sound h
    refine⟨v,?_,h4⟩
    simp only[SSt.g,getS_g,h2,h3]
  obtain⟨v,h2,h3⟩:=h1
  obtain⟨l,h4,h5⟩:=resK_go h3
  exact⟨v::l,by simp[List.mapM_cons,h2,h4,gL],h5⟩
theorem resK_sound {st:SSt} {rs:List IRes} {K:SV→Prop} (h:resK st rs K):∃r,resultsA st.g rs=some r.g∧K r:=by
 unfold resK at h
 obtain⟨l,h1,h2⟩:=resK_go h
 unfold resultsA
 rw[h1]
 match l,h2 with
 |[],h2=>exact⟨_,rfl,h2⟩
 |[v],h2=>exact⟨v,rfl,h2⟩
 |v::w::l,h2=>exact⟨_,rfl,h2⟩
theorem bindS_g:∀(i:Nat) (args:List SV),gE (bindS i args)=bindArgs i (gL args)
 |_,[]=>rfl
 |i,v::vs=>by
  have:=bindS_g (i+1) vs
  simp only[gE] at this
  simp only[bindS,gE,List.map_cons,gL,bindArgs,this]
mutual
theorem noY_g:∀(v:SV),v.noY=true→v.g.noY=true
 | .agg cs,h=>by simp only[SV.noY,SV.g,AV.noY] at h ⊢;exact noYS_g cs h
 | .tup cs,h=>by simp only[SV.noY,SV.g,AV.noY] at h ⊢;exact noYS_g cs h
 | .fn f a b,h=>by
  cases f<;>simp only[SV.noY,Bool.and_eq_true,Bool.false_eq_true] at h<;>simp only[SV.g,AV.noY,Bool.and_eq_true]<;>first|exact⟨noYS_g a h.1,noYS_g b h.2⟩|exact h.elim
 | .ud,_| .sc _,_| .si ..,_| .il ..,_| .sb _,_| .bl _,_| .row ..,_| .ep ..,_| .ptr ..,_| .ap ..,_| .rp ..,_| .ow ..,_| .os ..,_| .oc ..,_| .mp _,_=>by simp[SV.g,AV.noY]
theorem noYS_g:∀(l:List SV),noYS l=true→noYL (gL l)=true
 |[],_=>by simp[gL,noYL]
 |c::cs,h=>by
  simp only[noYS,Bool.and_eq_true] at h
  simp only[gL,noYL,Bool.and_eq_true]
  exact⟨noY_g c h.1,noYS_g cs h.2⟩
end
theorem noYL_of:∀{l:List AV},(∀a∈l,a.noY=true)→noYL l=true
 |[],_=>rfl
 |c::cs,h=>by
  simp only[noYL,Bool.and_eq_true]
  exact⟨h c (by simp),noYL_of fun a ha=>h a (by simp[ha])⟩
theorem onoY_g {x:SObj} (h:x.noY=true):x.g.noY=true:=by
 cases x with
 |dead=>rfl
 |cells cs e sz pu=>
  simp only[SObj.noY,Bool.or_eq_true] at h
  simp only[SObj.g,AObj.noY,Bool.or_eq_true]
  exact h.imp id (noYS_g cs)
 |rowp s l e t=>
  simp only[SObj.noY] at h
  simp only[SObj.g,AObj.noY,Bool.or_eq_true]
  have happ:∀(a b:List AV),noYL a=true→noYL b=true→noYL (a++b)=true:=fun a b h1 h2=>by
   induction a with
   |nil=>exact h2
   |cons x a ih=>
    simp only[noYL,Bool.and_eq_true] at h1
    simp only[List.cons_append,noYL,h1.1,ih h1.2,Bool.and_self]
  exact .inr (happ _ _ (noYL_of fun a ha=>pure_noY a (flatA_plain ha).pure) (noYS_g t h))
 |row s l e pu=>
  simp only[SObj.g,AObj.noY,Bool.or_eq_true]
  exact .inr (noYL_of fun a ha=>pure_noY a (flatA_plain ha).pure)
 |map k v ka es kt pu=>
  simp only[SObj.g,AObj.noY,Bool.or_eq_true]
  refine .inr (noYL_of fun a ha=>?_)
  simp only[List.map_map,List.mem_map] at ha
  obtain⟨q,_,rfl⟩:=ha
  simp[valA,AV.noY]
theorem bindPS_g:∀(ps:List Nat) (vs:List SV) (env:SEnv),gE (bindPS ps vs env)=bindPs ps (gL vs) (gE env)
 |[],[],_=>rfl
 |[],_::_,_=>rfl
 |_::_,[],_=>rfl
 |p::ps,v::vs,env=>by
  simp only[bindPS,gL,bindPs]
  rw[bindPS_g ps vs]
  rfl
theorem roundK_sound (hC:SCallsOK T.K p.C) {ps:List Nat} {az bd:IR} {Λ:Nat→LoopAnn} {env:SEnv} {vs:List SV} {o:SStore} {K:SV→SStore→Prop} (h:roundK p ps az bd Λ env vs o K):
  ∃(r:SV) (o':SStore),(∃N,∀m,N≤m→roundY T ps az bd (gE env) m (gL vs) (gO o)=some (r.g,gO o'))∧K r o':=by
 unfold roundK at h
 split at h
 ·rename_i hlen
  have w1:=wpG_sound (T:=T) (md:=fun _=> .round) hC (Y:=none) (fun _=> .inr rfl) (fun _ _ _ _ _ _ _ h=>h.elim) h
  obtain⟨out1,s1,⟨N1,e1⟩,ss1,rfl,q1⟩:=w1
  cases out1 with
  |exit id=>exact q1.elim
  |ret=>exact q1.elim
  |goto l=>exact q1.elim
  |norm=>
   have w2:=wpG_sound (T:=T) (md:=fun _=> .round) hC (Y:=none) (fun _=> .inr rfl) (fun _ _ _ _ _ _ _ h=>h.elim) q1
   obtain⟨out2,s2,⟨N2,e2⟩,ss2,rfl,q2⟩:=w2
   cases out2 with
   |exit id=>exact q2.elim
   |ret=>exact q2.elim
   |goto l=>exact q2.elim
   |norm=>
    refine⟨_,_,⟨N1+N2,fun m hm=>?_⟩,q2⟩
    have e1:=e1 m m (by omega) (by omega)
    have e2:=e2 m m (by omega) (by omega)
    simp only[SSt.g,bindPS_g] at e1 e2
    unfold roundY
    rw[if_pos (by rw[gL_len];exact hlen),gO_len,e1]
    simp only
    rw[gO_len,e2]
    simp only
    have:=trimS_g o.length ⟨[],ss2.o⟩
    have e3:(trim o.length ⟨[],gO ss2.o⟩).o=gO (trimS o.length ⟨[],ss2.o⟩).o:=by
     have h4:(SSt.mk [] ss2.o).g=⟨[],gO ss2.o⟩:=rfl
     rw[←h4,←this]
     rfl
    rw[e3]
    rfl
 ·exact h.elim
theorem eachK_sound (hC:SCallsOK T.K p.C) (hI:∀f F,p.it f=some F→T.fn f=some F) {x:Operand} {ps:List Nat} {az bd:IR} {Λ:Nat→LoopAnn} {st:SSt} {Q:Out→SSt→Prop} (h:eachK p x ps az bd Λ st Q):
  VW T plainM lo (.each x ps az bd) st.g fun out s=>∃ss,s=ss.g∧Q out ss:=by
 unfold eachK at h
 split at h
 ·rename_i f first captured hx
  split at h
  ·rename_i F hF
   split at h
   ·rename_i hc
    have hxa:evA st.g.env x= .fn (.func f) (gL first) (gL captured):=by
     show evA (gE st.env) x=_
     rw[evS_g,hx];rfl
    refine VW.each hxa (hI f F hF) (by rw[gL_len,gL_len];exact hc.1) ?_ ?_ ?_
    ·rw[List.all_eq_true]
     intro q hq
     simp only[SSt.g,gE,List.mem_map] at hq
     obtain⟨q0,h0,rfl⟩:=hq
     exact noY_g _ (List.all_eq_true.1 hc.2.1 q0 h0)
    ·rw[List.all_eq_true]
     intro q hq
     simp only[SSt.g,gO,List.mem_map] at hq
     obtain⟨q0,h0,rfl⟩:=hq
     exact onoY_g (List.all_eq_true.1 hc.2.2 q0 h0)
    ·have w:=wpG_sound (T:=T) (md:=fun m=> .iter (roundY T ps az bd (gE st.env) m)) hC (Y:=some (roundK p ps az bd Λ st.env)) ⟨_,rfl,fun vs o K hk=>roundK_sound hC hk⟩ (fun _ _ _ _ _ _ _ h=>h.elim) h
     have hst:(SSt.mk (bindS 0 (first++[.fn (.yield 0) [] []]++captured)) st.o).g=⟨bindArgs 0 (gL first++[.fn (.yield 0) [] []]++gL captured),st.g.o⟩:=by
      simp only[SSt.g,bindS_g,gL_map,List.map_append]
      simp[SV.g,gL]
     rw[hst] at w
     have hol:st.g.o.length=st.o.length:=gO_len st.o
     rw[hol]
     refine w.mono ?_
     rintro out s ⟨ss,rfl,hq⟩
     have fin:∀(ss:SSt),(resK ss F.res fun r=>if r.bel st.o.length&&ss.o.all (fun x=>x.bel st.o.length)&&decide (st.o.length≤ss.o.length)&&(ss.o.take st.o.length).all SObj.noY then Q .norm ⟨st.env,ss.o.take st.o.length⟩ else False)→
       ∃r r' o',resultsA ss.g F.res=some r∧finishOwn st.o.length r ss.g.o=some (r',o')∧o'.all AObj.noY=true∧∃s1:SSt,(⟨st.g.env,o'⟩:St)=s1.g∧Q .norm s1:=by
      intro ss hq
      obtain⟨r0,h1,h2⟩:=resK_sound hq
      split at h2
      ·rename_i hcc
       simp only[Bool.and_eq_true,decide_eq_true_eq,List.all_eq_true] at hcc
       obtain⟨⟨⟨hc1,hc2⟩,hc3⟩,hc4⟩:=hcc
       have hob:∀x∈ss.g.o,x.bel st.o.length=true:=by
        intro x hx
        simp only[SSt.g,gO,List.mem_map] at hx
        obtain⟨y,hy,rfl⟩:=hx
        rw[obel_g]
        exact hc2 y hy
       refine⟨r0.g,r0.g,ss.g.o.take st.o.length,h1,finishOwn_bel (by rw[bel_g];exact hc1) hob (by simp only[SSt.g,gO_len];exact hc3),?_,_,?_,h2⟩
       ·rw[List.all_eq_true]
        intro q hq
        simp only[SSt.g,gO,←List.map_take,List.mem_map] at hq
        obtain⟨q0,h0,rfl⟩:=hq
        exact onoY_g (hc4 q0 h0)
       ·simp only[SSt.g,gO,List.map_take]
      ·exact h2.elim
     cases out with
     |exit id=>exact hq.elim
     |goto l=>exact hq.elim
     |norm=>exact⟨.inl rfl,fin ss hq⟩
     |ret=>exact⟨.inr rfl,fin ss hq⟩
   ·exact h.elim
  ·exact h.elim
 ·exact h.elim
theorem wpS_sound (hC:SCallsOK T.K p.C) (hI:∀f F,p.it f=some F→T.fn f=some F) {c:IR} {Λ:Nat→LoopAnn} {st:SSt} {Q:Out→SSt→Prop} (h:wpS p lo c Λ st Q):VW T plainM lo c st.g fun out s=>∃ss,s=ss.g∧Q out ss:=
 wpG_sound hC (Y:=none) (fun _=> .inl rfl) (fun _ _ _ _ _ _ _ h=>eachK_sound hC hI h) h
theorem fnK_sound {Λ:Nat→LoopAnn} {P:Program} (hT:TabOK P T) (hC:SCallsOK T.K p.C) (hI:∀f F,p.it f=some F→T.fn f=some F) {f:FuncId} {F:IFn} (hF:T.fn f=some F) {args:List SV} {r:AV} (hK:T.K f (gL args) [] false=none) (hlen:args.length=F.params)
  (h:fnK p Λ F args fun v=>v.g=r):goodF P f=true∧CallO P f (gL args) [] r []:=by
 unfold fnK at h
 have hw:=wpS_sound hC hI h
 have hst:(SSt.mk (bindS 0 args) []).g=⟨bindArgs 0 (gL args),[]⟩:=by simp[SSt.g,bindS_g,gO]
 rw[hst] at hw
 obtain⟨h1,h2,_⟩:=call_of_vw hT hF (o:=[]) (own:=false) hK (by rw[gL_len];exact hlen) (v:=r) (o':=[]) (hw.mono fun out s hs=>by
  obtain⟨ss,rfl,hq⟩:=hs
  cases out with
  |exit id=>exact hq.elim
  |goto l=>exact hq.elim
  |norm=>
   obtain⟨r0,h1,h2⟩:=resK_sound hq
   obtain⟨v,h3,h4⟩:=frzK_sound h2
   refine⟨.inl rfl,?_⟩
   rw[h1]
   show finish false 0 r0.g ss.g.o=_
   have:freeze ss.g.o 6 r0.g=some v.g:=h3
   simp[finish,this,h4]
  |ret=>
   obtain⟨r0,h1,h2⟩:=resK_sound hq
   obtain⟨v,h3,h4⟩:=frzK_sound h2
   refine⟨.inr rfl,?_⟩
   rw[h1]
   show finish false 0 r0.g ss.g.o=_
   have:freeze ss.g.o 6 r0.g=some v.g:=h3
   simp[finish,this,h4])
 exact⟨h1,h2⟩
end
structure Cod (α:Type) where
 put:α→SV
 dec:SV→Option α
 ok:∀v a,dec v=some a→v.g=(put a).g
 inj:∀a b,(put a).g=(put b).g→a=b
structure ACod (α:Type) where
 put:α→List SV
 dec:List SV→Option α
 ok:∀v a,dec v=some a→gL v=gL (put a)
 inj:∀a b,gL (put a)=gL (put b)→a=b
def ACod.one {α:Type} (c:Cod α):ACod α where
 put a:=[c.put a]
 dec
  |[v]=>c.dec v
  |_=>none
 ok v a h:=by
  match v,h with
  |[v],h=>simp only[gL,c.ok v a h]
 inj a b h:=by
  simp only[gL,List.cons.injEq,and_true] at h
  exact c.inj a b h
def ACod.cons {α β:Type} (c:Cod α) (d:ACod β):ACod (α×β) where
 put a:=c.put a.1::d.put a.2
 dec
  |v::vs=>match c.dec v,d.dec vs with
   |some a,some b=>some (a,b)
   |_,_=>none
  |[]=>none
 ok v a h:=by
  match v,h with
  |v::vs,h=>
   simp only at h
   split at h
   ·rename_i x y h1 h2
    simp only[Option.some.injEq] at h;subst h
    simp only[gL,c.ok v x h1,d.ok vs y h2]
   ·cases h
 inj a b h:=by
  simp only[gL,List.cons.injEq] at h
  exact Prod.ext (c.inj _ _ h.1) (d.inj _ _ h.2)
def ACod.nil:ACod Unit where
 put _:=[]
 dec
  |[]=>some ()
  |_=>none
 ok v a h:=by
  match v,h with
  |[],h=>rfl
 inj a b h:=rfl
structure SCtr where
 f:FuncId
 α:Type
 A:ACod α
 dom:α→Prop
 res:α→SV
def Holds (P:Program) (c:SCtr):Prop:=∀a,c.dom a→goodF P c.f=true∧CallO P c.f (gL (c.A.put a)) [] (c.res a).g []
def findC (f:FuncId):List SCtr→Option SCtr
 |[]=>none
 |c::r=>bif Nat.beq c.f f then some c else findC f r
def pureK (L:List SCtr) (f:FuncId) (args:List SV) (K:SV→Prop):Prop:=
 match findC f L with
 |some c=>optK (c.A.dec args) fun a=>c.dom a∧K (c.res a)
 |none=>False
structure OwnT where
 K:FuncId→List AV→Store→Option (AV×Store)
 C:FuncId→List SV→SStore→(SV→SStore→Prop)→Prop
def OwnT.none:OwnT:=⟨fun _ _ _=> .none,fun _ _ _ _=>False⟩
noncomputable def tabK (L:List SCtr) (W:OwnT):Oracle:=fun f args o own=>
 if own then W.K f args o
 else match o with
  |[]=>match findC f L with
   |some c=>(ans (fun a=>gL (c.A.put a)) c.dom (fun a=>(c.res a).g) args).map fun v=>(v,[])
   |none=> .none
  |_=> .none
noncomputable def tabL (fn:FuncId→Option IFn) (L:List SCtr) (W:OwnT):Tab:=⟨fn,tabK L W⟩
structure OwnOK (P:Program) (W:OwnT):Prop where
 K:∀f args o r o',W.K f args o=some (r,o')→goodF P f=true∧CallO P f args o r o'
 C:∀(call:Oracle),(∀f args o,call f args o true=W.K f args o)→∀f args o K,W.C f args o K→∃(r:SV) (o':SStore),callOwn call f (gL args) (gO o)=some (r.g,gO o')∧K r o'
theorem OwnOK.none (P:Program):OwnOK P OwnT.none where
 K:=fun _ _ _ _ _ h=>by cases h
 C:=fun _ _ _ _ _ _ h=>h.elim
theorem findC_f:∀{L:List SCtr} {f:FuncId} {c:SCtr},findC f L=some c→c.f=f∧c∈L
 |[],_,_,h=>by cases h
 |d::L,f,c,h=>by
  simp only[findC] at h
  cases hq:Nat.beq d.f f with
  |true=>
   rw[hq] at h
   simp only[cond_true,Option.some.injEq] at h
   subst h
   exact⟨Nat.eq_of_beq_eq_true hq,by simp⟩
  |false=>
   rw[hq] at h
   simp only[cond_false] at h
   obtain⟨h1,h2⟩:=findC_f h
   exact⟨h1,by simp[h2]⟩
variable {P:Program} {L:List SCtr} {W:OwnT} {fn:FuncId→Option IFn}
theorem tabL_ok (hW:OwnOK P W) (hL:∀c∈L,Holds P c) (h0:TabOK P ⟨fn,fun _ _ _ _=>none⟩):TabOK P (tabL fn L W) where
 fn:=h0.fn
 K:=fun g args o own r o' h=>by
  simp only[tabL,tabK] at h
  cases own with
  |true=>
   simp only[if_true] at h
   obtain⟨h1,h2⟩:=hW.K _ _ _ _ _ h
   exact⟨h1,h2,fun hh=>by cases hh⟩
  |false=>
   simp only[Bool.false_eq_true,if_false] at h
   split at h
   ·split at h
    ·rename_i c hc
     obtain⟨rfl,hm⟩:=findC_f hc
     obtain⟨v,hv,h2⟩:=Option.map_eq_some_iff.1 h
     simp only[Prod.mk.injEq] at h2
     obtain⟨rfl,rfl⟩:=h2
     obtain⟨a,rfl,hd,rfl⟩:=ans_some hv
     obtain⟨h3,h4⟩:=hL c hm a hd
     exact⟨h3,h4,fun _=>rfl⟩
    ·cases h
   ·cases h
theorem tabL_calls (hW:OwnOK P W):SCallsOK (tabL fn L W).K ⟨pureK L,W.C⟩ where
 pure:=fun f args K h=>by
  simp only[pureK] at h
  split at h
  ·rename_i c hc
   obtain⟨a,h1,h2,h3⟩:=optK_some h
   refine⟨c.res a,?_,h3⟩
   have:=c.A.ok _ _ h1
   simp only[tabL,tabK,Bool.false_eq_true,if_false,hc,this]
   rw[ans_eq (enc:=fun a=>gL (c.A.put a)) c.A.inj h2]
   rfl
  ·exact h.elim
 own:=fun f args o K h=>hW.C _ (fun f args o=>by simp[tabL,tabK]) f args o K h
theorem tabK_fresh {f:FuncId} {args:List AV} (h:findC f L=none):(tabL fn L W).K f args [] false=none:=by
 simp[tabL,tabK,h]
def parL (L:List SCtr) (W:OwnT) (ty:TypeId→Option SId) (mt:List Nat×Bool→Option (SId×SId)) (fn:FuncId→Option IFn):SPar:=⟨⟨pureK L,W.C⟩,ty,mt,fun _=>none,fn,fun _=>false⟩
theorem holds_of (c:SCtr) {F:IFn} {ty:TypeId→Option SId} {mt:List Nat×Bool→Option (SId×SId)} {Λ:c.α→Nat→LoopAnn} (h0:TabOK P ⟨fn,fun _ _ _ _=>none⟩) (hW:OwnOK P W) (hL:∀c∈L,Holds P c)
  (hF:fn c.f=some F) (hfr:findC c.f L=none) (hlen:∀a,(c.A.put a).length=F.params)
  (h:∀a,c.dom a→fnK (parL L W ty mt fn) (Λ a) F (c.A.put a) fun v=>v.same (c.res a)):Holds P c:=by
 intro a hd
 exact fnK_sound (p:=parL L W ty mt fn) (Λ:=Λ a) (tabL_ok hW hL h0) (tabL_calls hW) (fun _ _ h=>h) hF (tabK_fresh hfr) (hlen a) (h a hd)
def parR (L:List SCtr) (W:OwnT) (ty:TypeId→Option SId) (mt:List Nat×Bool→Option (SId×SId)) (fn:FuncId→Option IFn) (ro:FuncId→Bool):SPar:=⟨⟨pureK L,W.C⟩,ty,mt,fun _=>none,fn,ro⟩
theorem holds_ofR (c:SCtr) {F:IFn} {ty:TypeId→Option SId} {mt:List Nat×Bool→Option (SId×SId)} {ro:FuncId→Bool} {Λ:c.α→Nat→LoopAnn} (h0:TabOK P ⟨fn,fun _ _ _ _=>none⟩) (hW:OwnOK P W) (hL:∀c∈L,Holds P c)
  (hF:fn c.f=some F) (hfr:findC c.f L=none) (hlen:∀a,(c.A.put a).length=F.params)
  (h:∀a,c.dom a→fnK (parR L W ty mt fn ro) (Λ a) F (c.A.put a) fun v=>v.same (c.res a)):Holds P c:=by
 intro a hd
 exact fnK_sound (p:=parR L W ty mt fn ro) (Λ:=Λ a) (tabL_ok hW hL h0) (tabL_calls hW) (fun _ _ h=>h) hF (tabK_fresh hfr) (hlen a) (h a hd)
def codI (k:IntKind):Cod Int where
 put n:=.si k n
 dec v:=v.int k
 ok v a h:=by rw[int_g h];rfl
 inj a b h:=by simpa[SV.g] using h
def codB:Cod Bool where
 put b:=.sb b
 dec v:=v.boo
 ok v a h:=by rw[boo_g h];rfl
 inj a b h:=by simpa[SV.g] using h
theorem encV_inj:(s:SId)→(x y:s.T)→encV s x=encV s y→(hf:s.flat=true:=by rfl)→x=y
 | .i k,x,y,h,_=>by simpa[encV] using h
 | .b,x,y,h,_=>by simpa[encV] using h
 | .bun,⟨a0,a1,a2,a3,a4,a5⟩,⟨b0,b1,b2,b3,b4,b5⟩,h,_=>by
  simp only[encV,iv,List.cons.injEq,Value.int.injEq,true_and,and_true] at h
  simp only[Bun.mk.injEq]
  exact h
 | .off,⟨b,⟨a0,a1,a2,a3,a4,a5⟩,v⟩,⟨c,⟨b0,b1,b2,b3,b4,b5⟩,w⟩,h,_=>by
  simp only[encV,iv,List.cons.injEq,Value.int.injEq,true_and,and_true] at h
  simp only[Off.mk.injEq,Bun.mk.injEq]
  simp[h]
 | .need,⟨a,b⟩,⟨c,d⟩,h,_=>by
  simp only[encV,iv,List.cons.injEq,Value.int.injEq,true_and,and_true] at h
  simp[h]
 | .key,⟨b,⟨a0,a1,a2,a3,a4,a5⟩⟩,⟨c,⟨b0,b1,b2,b3,b4,b5⟩⟩,h,_=>by
  simp only[encV,iv,List.cons.injEq,Value.int.injEq,true_and,and_true] at h
  simp only[BKey.mk.injEq,Bun.mk.injEq]
  simp[h]
 | .sit,⟨m,⟨a0,a1,a2,a3,a4,a5⟩,⟨c0,c1,c2,c3,c4,c5⟩⟩,⟨n,⟨b0,b1,b2,b3,b4,b5⟩,⟨d0,d1,d2,d3,d4,d5⟩⟩,h,_=>by
  simp only[encV,iv,List.cons.injEq,Value.int.injEq,true_and,and_true] at h
  simp only[Sit.mk.injEq,Bun.mk.injEq]
  simp[h]
 | .lst _,_,_,_,hf=>by simp[SId.flat] at hf
 | .pair s t,(a,b),(c,d),h,hf=>by
  simp only[SId.flat,Bool.and_eq_true] at hf
  simp only[encV] at h
  obtain⟨h1,h2⟩:=List.append_inj h (by rw[encV_len,encV_len])
  rw[encV_inj s a c h1 hf.1,encV_inj t b d h2 hf.2]
theorem flatMap_inj {α β:Type} {n:Nat} {f:α→List β} (hn:∀x,(f x).length=n) (hf:∀x y,f x=f y→x=y):∀{l m:List α},l.length=m.length→l.flatMap f=m.flatMap f→l=m
 |[],[],_,_=>rfl
 |[],_::_,h,_=>by simp at h
 |_::_,[],h,_=>by simp at h
 |x::l,y::m,hl,h=>by
  simp only[List.flatMap_cons] at h
  obtain⟨h1,h2⟩:=List.append_inj h (by rw[hn,hn])
  simp only[List.length_cons,Nat.add_right_cancel_iff] at hl
  rw[hf x y h1,flatMap_inj hn hf hl h2]
theorem encA_inj:(s:SId)→(x y:s.T)→(h:encA s x=encA s y)→x=y
 | .lst s,x,y,h=>by
  simp only[encA,List.cons.injEq,AV.sl.injEq,and_true] at h
  exact flatMap_inj (encA_len s) (encA_inj s) h.1 h.2
 | .pair s t,(a,b),(c,d),h=>by
  simp only[encA] at h
  obtain⟨h1,h2⟩:=List.append_inj h (by rw[encA_len,encA_len])
  rw[encA_inj s a c h1,encA_inj t b d h2]
 | .i k,x,y,h=>encV_inj (.i k) x y (map_sc_inj h)
 | .b,x,y,h=>encV_inj .b x y (map_sc_inj h)
 | .bun,x,y,h=>encV_inj .bun x y (map_sc_inj h)
 | .off,x,y,h=>encV_inj .off x y (map_sc_inj h)
 | .need,x,y,h=>encV_inj .need x y (map_sc_inj h)
 | .key,x,y,h=>encV_inj .key x y (map_sc_inj h)
 | .sit,x,y,h=>encV_inj .sit x y (map_sc_inj h)
theorem flatA_inj (s:SId) {l m:List s.T} (hl:l.length=m.length) (h:flatA s l=flatA s m):l=m:=
 flatMap_inj (encA_len s) (encA_inj s) hl h
def codE (s:SId):Cod s.T where
 put x:=.agg (encS s x)
 dec
  | .agg cs=>decS s cs
  |_=>none
 ok v a h:=by
  match v,h with
  | .agg cs,h=>simp only at h;simp only[SV.g,gL_map,decS_g h,encS_g]
 inj a b h:=by
  simp only[SV.g,gL_map,encS_g,AV.agg.injEq] at h
  exact encA_inj s a b h
theorem decRow_ok {s:SId} {v:SV} {l:List s.T} (h:decRow s v=some l):v.g=(SV.row s l).g:=by
 cases v<;>simp only[decRow,reduceCtorEq] at h
 rename_i s' l'
 split at h
 ·rename_i l2 hc
  simp only[Option.some.injEq] at h;subst h
  obtain⟨rfl,h2,h3⟩:=castL_flat hc
  simp only[SV.g,h2,h3]
 ·split at h
  ·simp only[Option.some.injEq] at h;subst h
   simp[SV.g,flatA]
  ·cases h
def codR (s:SId):Cod (List s.T) where
 put l:=.row s l
 dec:=decRow s
 ok v a h:=decRow_ok h
 inj a b h:=by
  simp only[SV.g,AV.sl.injEq] at h
  exact flatA_inj s h.1 h.2
structure Prob where
 supply:Bun
 opn:Bun
 cls:Bun
 classes:List Int
 offers:List Off
structure Alloc where
 chosen:List Int
 value:Int
def Bun.ss (b:Bun):List SV:=[.si .i64 b.a0,.si .i64 b.a1,.si .i64 b.a2,.si .i64 b.a3,.si .i64 b.a4,.si .i64 b.a5]
def Prob.ss (p:Prob):List SV:=
 [.si .i64 p.supply.a0,.si .i64 p.supply.a1,.si .i64 p.supply.a2,.si .i64 p.supply.a3,.si .i64 p.supply.a4,.si .i64 p.supply.a5,
  .si .i64 p.opn.a0,.si .i64 p.opn.a1,.si .i64 p.opn.a2,.si .i64 p.opn.a3,.si .i64 p.opn.a4,.si .i64 p.opn.a5,
  .si .i64 p.cls.a0,.si .i64 p.cls.a1,.si .i64 p.cls.a2,.si .i64 p.cls.a3,.si .i64 p.cls.a4,.si .i64 p.cls.a5,
  .row (.i .i64) p.classes,.row .off p.offers]
def decProb:List SV→Option Prob
 |[s0,s1,s2,s3,s4,s5,o0,o1,o2,o3,o4,o5,c0,c1,c2,c3,c4,c5,k,f]=>match decS .bun [s0,s1,s2,s3,s4,s5],decS .bun [o0,o1,o2,o3,o4,o5],decS .bun [c0,c1,c2,c3,c4,c5],decRow (.i .i64) k,decRow .off f with
  |some s,some o,some c,some k,some f=>some ⟨s,o,c,k,f⟩
  |_,_,_,_,_=>none
 |_=>none
theorem decProb_ok {cs:List SV} {p:Prob} (h:decProb cs=some p):gL cs=gL p.ss:=by
 unfold decProb at h
 split at h
 ·split at h
  ·rename_i s o c k f h1 h2 h3 h4 h5
   simp only[Option.some.injEq] at h;subst h
   have h1:=decS_g h1
   have h2:=decS_g h2
   have h3:=decS_g h3
   have h4:=decRow_ok h4
   have h5:=decRow_ok h5
   simp only[List.map_cons,List.map_nil,encA,encV,List.cons.injEq,and_true] at h1 h2 h3
   simp only[Prob.ss,gL,List.cons.injEq,and_true,h4,h5]
   simp only[h1,h2,h3,SV.g,iv,and_self]
  ·cases h
 ·cases h
def codP:Cod Prob where
 put p:=.agg p.ss
 dec
  | .agg cs=>decProb cs
  |_=>none
 ok v a h:=by
  match v,h with
  | .agg cs,h=>simp only at h;simp only[SV.g,decProb_ok h]
 inj a b h:=by
  obtain⟨⟨a0,a1,a2,a3,a4,a5⟩,⟨b0,b1,b2,b3,b4,b5⟩,⟨c0,c1,c2,c3,c4,c5⟩,k,f⟩:=a
  obtain⟨⟨d0,d1,d2,d3,d4,d5⟩,⟨e0,e1,e2,e3,e4,e5⟩,⟨f0,f1,f2,f3,f4,f5⟩,k',f'⟩:=b
  simp only[SV.g,Prob.ss,gL,AV.agg.injEq,List.cons.injEq,and_true,AV.sc.injEq,Value.int.injEq,true_and,AV.sl.injEq] at h
  obtain⟨h0,h1,h2,h3,h4,h5,g0,g1,g2,g3,g4,g5,k0,k1,k2,k3,k4,k5,m,n⟩:=h
  have m2:=flatA_inj (.i .i64) m.1 m.2
  have n2:=flatA_inj .off n.1 n.2
  simp only[Prob.mk.injEq,Bun.mk.injEq]
  exact⟨⟨h0,h1,h2,h3,h4,h5⟩,⟨g0,g1,g2,g3,g4,g5⟩,⟨k0,k1,k2,k3,k4,k5⟩,m2,n2⟩
def codA:Cod Alloc where
 put a:=.agg [.row (.i .i64) a.chosen,.si .i64 a.value]
 dec
  | .agg [r,v]=>match decRow (.i .i64) r,v.int .i64 with
   |some c,some v=>some ⟨c,v⟩
   |_,_=>none
  |_=>none
 ok v a h:=by
  split at h
  ·split at h
   ·rename_i h1 h2
    simp only[Option.some.injEq] at h;subst h
    simp only[SV.g,gL,decRow_ok h1,int_g h2]
   ·cases h
  ·cases h
 inj a b h:=by
  obtain⟨c,v⟩:=a
  obtain⟨c',v'⟩:=b
  simp only[SV.g,gL,AV.agg.injEq,List.cons.injEq,and_true,AV.sc.injEq,Value.int.injEq,true_and,AV.sl.injEq] at h
  have m2:=flatA_inj (.i .i64) h.1.1 h.1.2
  rw[m2,h.2]
def tyN:TypeId→Option SId
 |2=>some (.i .i64)
 |3=>some (.i .i64)
 |24=>some (.lst (.i .i64))
 |110=>some (.i .u32)
 |58=>some (.pair .b (.pair (.lst (.i .u32)) (.lst (.i .u32))))
 |60=>some (.lst (.pair .b (.pair (.lst (.i .u32)) (.lst (.i .u32)))))
 |115=>some (.pair (.lst (.pair .b (.pair (.lst (.i .u32)) (.lst (.i .u32))))) (.pair .b (.pair (.lst (.i .u32)) (.lst (.i .u32)))))
 |48=>some .off
 |_=>none
def mtN:List Nat×Bool→Option (SId×SId)
 |([0,0,0,0,0,0,0],true)=>some (.key,.b)
 |([0,0,0,0,0,0,0,0,0,0,0,0,0],true)=>some (.sit,.i .i64)
 |_=>none
mutual
def SV.ren (m:Nat→Option Nat):SV→Option SV
 | .agg cs=>(renLS m cs).map .agg
 | .tup cs=>(renLS m cs).map .tup
 | .ptr id off tot=>(m id).map fun i=> .ptr i off tot
 | .ap id a b c d e=>(m id).map fun i=> .ap i a b c d e
 | .rp id a b c d=>(m id).map fun i=> .rp i a b c d
 | .ow id n sz=>(m id).map fun i=> .ow i n sz
 | .os id a b c d=>(m id).map fun i=> .os i a b c d
 | .oc id a b c d=>(m id).map fun i=> .oc i a b c d
 | .mp id=>(m id).map .mp
 | .fn f a b=>match renLS m a,renLS m b with
  |some a',some b'=>some (.fn f a' b')
  |_,_=>none
 | .ud=>some .ud
 | .sc v=>some (.sc v)
 | .il k n=>some (.il k n)
 | .si k n=>some (.si k n)
 | .bl b=>some (.bl b)
 | .sb b=>some (.sb b)
 | .row s l=>some (.row s l)
 | .ep s l i o=>some (.ep s l i o)
def renLS (m:Nat→Option Nat):List SV→Option (List SV)
 |[]=>some []
 |c::cs=>match c.ren m,renLS m cs with
  |some c',some cs'=>some (c'::cs')
  |_,_=>none
end
mutual
theorem ren_g {m:Nat→Option Nat}:∀{v v':SV},v.ren m=some v'→v.g.ren m=some v'.g
 | .agg cs,v',h=>by
  simp only[SV.ren] at h
  obtain⟨cs',h1,rfl⟩:=Option.map_eq_some_iff.1 h
  simp only[SV.g,AV.ren,renLS_g h1,Option.map_some]
 | .tup cs,v',h=>by
  simp only[SV.ren] at h
  obtain⟨cs',h1,rfl⟩:=Option.map_eq_some_iff.1 h
  simp only[SV.g,AV.ren,renLS_g h1,Option.map_some]
 | .fn f a b,v',h=>by
  simp only[SV.ren] at h
  split at h
  ·rename_i a' b' h1 h2
   simp only[Option.some.injEq] at h;subst h
   simp only[SV.g,AV.ren,renLS_g h1,renLS_g h2]
  ·cases h
 | .ptr id _ _,v',h| .ap id _ _ _ _ _,v',h| .rp id _ _ _ _,v',h| .ow id _ _,v',h| .os id _ _ _ _,v',h| .oc id _ _ _ _,v',h| .mp id,v',h=>by
  simp only[SV.ren] at h
  obtain⟨i,h1,rfl⟩:=Option.map_eq_some_iff.1 h
  simp only[SV.g,AV.ren,h1,Option.map_some]
 | .ud,v',h| .sc _,v',h| .il _ _,v',h| .si _ _,v',h| .bl _,v',h| .sb _,v',h| .row _ _,v',h| .ep _ _ _ _,v',h=>by
  simp only[SV.ren,Option.some.injEq] at h
  subst h
  simp only[SV.g,AV.ren]
theorem renLS_g {m:Nat→Option Nat}:∀{l l':List SV},renLS m l=some l'→renL m (gL l)=some (gL l')
 |[],l',h=>by simp[renLS] at h;subst h;simp[gL,renL]
 |c::cs,l',h=>by
  simp only[renLS] at h
  split at h
  ·rename_i c' cs' h1 h2
   simp only[Option.some.injEq] at h;subst h
   simp only[gL,renL,ren_g h1,renLS_g h2]
  ·cases h
end
def SObj.ren (m:Nat→Option Nat):SObj→Option SObj
 | .cells cs e sz pu=>if pu then some (.cells cs e sz pu) else(renLS m cs).map fun cs'=> .cells cs' e sz pu
 | .dead=>some .dead
 | .row s l e pu=>some (.row s l e pu)
 | .map sk sv ka es kt pu=>some (.map sk sv ka es kt pu)
 | .rowp .. =>none
theorem renL_plain {m:Nat→Option Nat}:∀{l:List AV},(∀a∈l,Plain a)→renL m l=some l
 |[],_=>by simp[renL]
 |a::cs,h=>by
  have ih:=renL_plain (m:=m) (l:=cs) fun b hb=>h b (by simp[hb])
  rcases h a (by simp) with⟨v,rfl,_⟩|⟨n,ds,rfl,_⟩<;>simp only[renL,AV.ren,ih]
theorem renL_sc {m:Nat→Option Nat}:∀{l:List AV},(∀a∈l,∃v,a= .sc v)→renL m l=some l
 |[],_=>by simp[renL]
 |c::cs,h=>by
  obtain⟨v,rfl⟩:=h c (by simp)
  simp only[renL,AV.ren,renL_sc (l:=cs) fun a ha=>h a (by simp[ha])]
theorem renM_sc {m:Nat→Option Nat}:∀{l:List (Value×AV)},(∀a∈l,∃v,a.2= .sc v)→renM m l=some l
 |[],_=>by simp[renM]
 |(k,c)::cs,h=>by
  obtain⟨v,hv⟩:=h (k,c) (by simp)
  simp only at hv
  subst hv
  simp only[renM,AV.ren,renM_sc (l:=cs) fun a ha=>h a (by simp[ha])]
theorem mapA_sc {sk sv:SId} {ka:Bool} {es:List (sk.T×sv.T)}:∀a∈es.map (fun p=>(keyV sk ka p.1,valA sv p.2)),∃v,a.2= .sc v:=fun a ha=>by
 obtain⟨q,_,rfl⟩:=List.mem_map.1 ha
 exact⟨_,rfl⟩
theorem oren_g {m:Nat→Option Nat} {x y:SObj} (h:x.ren m=some y):x.g.ren m=some y.g:=by
 cases x with
 |dead=>simp[SObj.ren] at h;subst h;rfl
 |cells cs e sz pu=>
  simp only[SObj.ren] at h
  cases pu with
  |true=>simp only[if_true,Option.some.injEq] at h;subst h;simp only[SObj.g,AObj.ren,if_true]
  |false=>
   simp only[Bool.false_eq_true,if_false] at h
   obtain⟨cs',h1,rfl⟩:=Option.map_eq_some_iff.1 h
   simp only[SObj.g,AObj.ren,Bool.false_eq_true,if_false,renLS_g h1,Option.map_some]
 |rowp s l e t=>simp[SObj.ren] at h
 |row s l e pu=>
  simp only[SObj.ren,Option.some.injEq] at h;subst h
  simp only[SObj.g,AObj.ren,renL_plain (fun a ha=>flatA_plain ha),Option.map_some]
  cases pu<;>rfl
 |map sk sv ka es kt pu=>
  simp only[SObj.ren,Option.some.injEq] at h;subst h
  simp only[SObj.g,AObj.ren,renM_sc mapA_sc,Option.map_some]
  cases pu<;>rfl
def renSS (m:Nat→Option Nat):SStore→Option SStore
 |[]=>some []
 |x::r=>match x.ren m,renSS m r with
  |some y,some l=>some (y::l)
  |_,_=>none
theorem renSS_g {m:Nat→Option Nat}:∀{o o':SStore},renSS m o=some o'→renS m (gO o)=some (gO o')
 |[],o',h=>by simp[renSS] at h;subst h;rfl
 |x::r,o',h=>by
  simp only[renSS] at h
  split at h
  ·rename_i y l h1 h2
   simp only[Option.some.injEq] at h;subst h
   have:=renSS_g h2
   simp only[gO,List.map_cons] at this ⊢
   simp only[renS,oren_g h1,this]
  ·cases h
def subSS (o:SStore) (ids:List Nat):List Nat→Option SStore
 |[]=>some []
 |i::r=>match o[i]?,subSS o ids r with
  |some x,some l=>match x.ren (fun j=>idxOf ids j) with
   |some y=>some (y::l)
   |none=>none
  |_,_=>none
theorem subSS_g {o:SStore} {ids:List Nat}:∀{r:List Nat} {o':SStore},subSS o ids r=some o'→subStore (gO o) ids r=some (gO o')
 |[],o',h=>by simp[subSS] at h;subst h;rfl
 |i::r,o',h=>by
  simp only[subSS] at h
  split at h
  ·rename_i x l h1 h2
   split at h
   ·rename_i y hy
    simp only[Option.some.injEq] at h;subst h
    simp only[subStore,getI h1,subSS_g h2,oren_g hy,Option.map_some]
    rfl
   ·cases h
  ·cases h
def putSS (o:SStore):List Nat→SStore→SStore
 |[],_=>o
 |_,[]=>o
 |i::r,x::l=>putSS (o.set i x) r l
theorem putSS_g:∀{ids:List Nat} {o l:SStore},gO (putSS o ids l)=putBack (gO o) ids (gO l)
 |[],o,l=>by simp[putSS,putBack]
 |_::_,o,[]=>by simp[putSS,putBack,gO]
 |i::r,o,x::l=>by
  simp only[putSS]
  rw[putSS_g,gO_set]
  simp[gO,putBack]
def reachSS (o:SStore):Nat→List SV→List Nat→List Nat
 |0,_,acc=>acc
 |_,[],acc=>acc
 |d+1,v::vs,acc=>
  let visit (id:Nat) (acc:List Nat):List Nat:=
   if acc.contains id then acc else
   match o[id]? with
   |some (.cells cs _ _ pu)=>if pu then acc++[id] else reachSS o d cs (acc++[id])
   |_=>acc++[id]
  reachSS o d vs (match v with
   | .agg cs| .tup cs=>reachSS o d cs acc
   | .ptr id _ _| .ap id _ _ _ _ _| .rp id _ _ _ _| .ow id _ _| .os id _ _ _ _| .oc id _ _ _ _| .mp id=>visit id acc
   | .fn _ a b=>reachSS o d b (reachSS o d a acc)
   |_=>acc)
theorem reachF_plain {o:Store}:∀{d:Nat} {l:List AV} {acc:List Nat},(∀a∈l,Plain a)→reachF o d l acc=acc
 |0,_,_,_=>by unfold reachF;rfl
 |d+1,[],_,_=>by unfold reachF;rfl
 |d+1,a::l,acc,h=>by
  have ih:=reachF_plain (o:=o) (d:=d) (l:=l) (acc:=acc) fun b hb=>h b (by simp[hb])
  rcases h a (by simp) with⟨v,rfl,_⟩|⟨n,ds,rfl,_⟩<;>(unfold reachF;exact ih)
theorem reachF_sc {o:Store}:∀{d:Nat} {l:List AV} {acc:List Nat},(∀a∈l,∃v,a= .sc v)→reachF o d l acc=acc
 |0,_,_,_=>by simp[reachF]
 |d+1,[],_,_=>by simp[reachF]
 |d+1,a::l,acc,h=>by
  obtain⟨v,rfl⟩:=h a (by simp)
  simp only[reachF]
  exact reachF_sc fun a ha=>h a (by simp[ha])
theorem map_snd_sc {l:List (Value×AV)} (h:∀a∈l,∃v,a.2= .sc v):∀a∈l.map (·.2),∃v,a= .sc v:=fun a ha=>by
 obtain⟨q,hq,rfl⟩:=List.mem_map.1 ha
 exact h q hq
def SObj.noPend:SObj→Bool
 | .rowp .. =>false
 |_=>true
theorem reach_g {o:SStore} (hno:o.all SObj.noPend=true):∀{d:Nat} {vs:List SV} {acc:List Nat},reachF (gO o) d (gL vs) acc=reachSS o d vs acc:=by
 intro d
 induction d with
 |zero=>intro vs acc;simp[reachF,reachSS]
 |succ d ih=>
  intro vs acc
  cases vs with
  |nil=>simp[gL,reachF,reachSS]
  |cons v vs=>
   have hv:∀(id:Nat) (acc:List Nat),(if acc.contains id then acc else
     match(gO o)[id]? with
     |some (.cells cs _ _ pu)=>if pu then acc++[id] else reachF (gO o) d cs (acc++[id])
     |some (.map es _ pu)=>if pu then acc++[id] else reachF (gO o) d (es.map (·.2)) (acc++[id])
     |_=>acc++[id])=(if acc.contains id then acc else
     match o[id]? with
     |some (.cells cs _ _ pu)=>if pu then acc++[id] else reachSS o d cs (acc++[id])
     |_=>acc++[id]):=by
    intro id acc
    rw[gO_get]
    cases hoi:o[id]? with
    |none=>rfl
    |some x=>
     cases x with
     |rowp s l e t=>
      have:=List.all_eq_true.1 hno _ (List.mem_of_getElem? hoi)
      simp[SObj.noPend] at this
     |dead=>rfl
     |cells cs e sz pu=>simp only[Option.map_some,SObj.g,ih]
     |row s l e pu=>simp only[Option.map_some,SObj.g,reachF_plain (fun a ha=>flatA_plain ha),ite_self]
     |map sk sv ka es kt pu=>simp only[Option.map_some,SObj.g,reachF_sc (map_snd_sc mapA_sc),ite_self]
   simp only[gL,reachF,reachSS]
   rw[ih]
   congr 1
   cases v<;>simp only[SV.g,ih]<;>exact hv _ _
def ownS (C:FuncId→List SV→SStore→(SV→SStore→Prop)→Prop) (f:FuncId) (args:List SV) (o:SStore) (K:SV→SStore→Prop):Prop:=
 if o.all SObj.noPend=false then False else
 let ids:=reachSS o reachD args []
 match renLS (fun j=>idxOf ids j) args,subSS o ids ids with
 |some args',some small=>C f args' small fun r small'=>
   if small'.length<ids.length∨callOwn.nodupN ids=false then False else
   match r.ren (backN ids o.length),renSS (backN ids o.length) small' with
   |some r',some big=>K r' (putSS o ids (big.take ids.length)++big.drop ids.length)
   |_,_=>False
 |_,_=>False
theorem ownS_sound {call:Oracle} {C:FuncId→List SV→SStore→(SV→SStore→Prop)→Prop}
  (hC:∀f args o K,C f args o K→∃(r:SV) (o':SStore),call f (gL args) (gO o) true=some (r.g,gO o')∧K r o')
  {f:FuncId} {args:List SV} {o:SStore} {K:SV→SStore→Prop} (h:ownS C f args o K):
  ∃(r:SV) (o':SStore),callOwn call f (gL args) (gO o)=some (r.g,gO o')∧K r o':=by
 unfold ownS at h
 split at h
 ·exact h.elim
 rename_i hno
 simp only[Bool.not_eq_false] at hno
 simp only at h
 split at h
 ·rename_i args' small h1 h2
  obtain⟨r,small',h3,h4⟩:=hC _ _ _ _ h
  split at h4
  ·exact h4.elim
  ·rename_i hn
   split at h4
   ·rename_i r' big h5 h6
    refine⟨r',_,?_,h4⟩
    unfold callOwn
    simp only[reach_g hno]
    rw[renLS_g h1,subSS_g h2]
    simp only[h3,gO_len]
    rw[if_neg hn,ren_g h5,renSS_g h6]
    simp only[gO_app,putSS_g]
    simp[gO]
   ·exact h4.elim
 ·exact h.elim
section
variable {P:Program} {T:Tab} {p:SPar} {Λ:Nat→LoopAnn}
theorem fnOwnK_sound (hT:TabOK P T) (hC:SCallsOK T.K p.C) (hI:∀f F,p.it f=some F→T.fn f=some F) {f:FuncId} {F:IFn} (hF:T.fn f=some F) {args:List SV} {o:SStore} {r:AV} {o':Store} (hK:T.K f (gL args) (gO o) true=none) (hlen:args.length=F.params)
  {Q:SV→SStore→Prop} (hQ:∀v s,Q v s→v.g=r∧gO s=o') (h:fnOwnK p Λ F args o Q):goodF P f=true∧CallO P f (gL args) (gO o) r o':=by
 unfold fnOwnK at h
 have hw:=wpS_sound hC hI h
 have hst:(SSt.mk (bindS 0 args) o).g=⟨bindArgs 0 (gL args),gO o⟩:=by simp[SSt.g,bindS_g]
 rw[hst] at hw
 have hol:(gO o).length=o.length:=gO_len o
 rw[←hol] at hw
 have fin:∀(ss:SSt),(resK ss F.res fun v=>if v.bel (gO o).length&&ss.o.all (fun x=>x.bel (gO o).length)&&decide ((gO o).length≤ss.o.length) then Q v (ss.o.take (gO o).length) else False)→
   (resultsA ss.g F.res).bind (fun r0=>finish true (gO o).length r0 ss.g.o)=some (r,o'):=by
  intro ss hq
  obtain⟨r0,h1,h2⟩:=resK_sound hq
  rw[h1]
  simp only[Option.bind_some,finish,if_true]
  split at h2
  ·rename_i hc
   simp only[Bool.and_eq_true,decide_eq_true_eq,List.all_eq_true] at hc
   obtain⟨⟨hc1,hc2⟩,hc3⟩:=hc
   have hob:∀x∈ss.g.o,x.bel (gO o).length=true:=by
    intro x hx
    simp only[SSt.g,gO,List.mem_map] at hx
    obtain⟨y,hy,rfl⟩:=hx
    rw[obel_g]
    exact hc2 y hy
   rw[finishOwn_bel (by rw[bel_g];exact hc1) hob (by simp only[SSt.g,gO_len] at hc3 ⊢;exact hc3)]
   rw[←(hQ _ _ h2).1,←(hQ _ _ h2).2]
   simp only[SSt.g,gO,List.map_take]
  ·exact h2.elim
 obtain⟨h1,h2,_⟩:=call_of_vw hT hF (o:=gO o) (own:=true) hK (by rw[gL_len];exact hlen) (v:=r) (o':=o') (hw.mono fun out s hs=>by
  obtain⟨ss,rfl,hq⟩:=hs
  cases out with
  |exit id=>exact hq.elim
  |goto l=>exact hq.elim
  |norm=>exact⟨.inl rfl,fin ss hq⟩
  |ret=>exact⟨.inr rfl,fin ss hq⟩)
 exact⟨h1,h2⟩
end
structure OCtr where
 f:FuncId
 α:Type
 put:α→List SV
 st:α→SStore
 dec:List SV→SStore→Option α
 ok:∀v o a,dec v o=some a→gL v=gL (put a)∧gO o=gO (st a)
 inj:∀a b,gL (put a)=gL (put b)→gO (st a)=gO (st b)→a=b
 dom:α→Prop
 res:α→SV
 out:α→SStore
def HoldsO (P:Program) (c:OCtr):Prop:=∀a,c.dom a→goodF P c.f=true∧CallO P c.f (gL (c.put a)) (gO (c.st a)) (c.res a).g (gO (c.out a))
def findO (f:FuncId):List OCtr→Option OCtr
 |[]=>none
 |c::r=>bif Nat.beq c.f f then some c else findO f r
theorem findO_f:∀{L:List OCtr} {f:FuncId} {c:OCtr},findO f L=some c→c.f=f∧c∈L
 |[],_,_,h=>by cases h
 |d::L,f,c,h=>by
  simp only[findO] at h
  cases hq:Nat.beq d.f f with
  |true=>
   rw[hq] at h
   simp only[cond_true,Option.some.injEq] at h
   subst h
   exact⟨Nat.eq_of_beq_eq_true hq,by simp⟩
  |false=>
   rw[hq] at h
   simp only[cond_false] at h
   obtain⟨h1,h2⟩:=findO_f h
   exact⟨h1,by simp[h2]⟩
def ownC (W:List OCtr) (f:FuncId) (args:List SV) (o:SStore) (K:SV→SStore→Prop):Prop:=
 match findO f W with
 |some c=>optK (c.dec args o) fun a=>c.dom a∧K (c.res a) (c.out a)
 |none=>False
open Classical in
noncomputable def ownA (W:List OCtr) (f:FuncId) (args:List AV) (o:Store):Option (AV×Store):=
 match findO f W with
 |some c=>if h:∃a,args=gL (c.put a)∧o=gO (c.st a)∧c.dom a then some ((c.res (Classical.choose h)).g,gO (c.out (Classical.choose h))) else none
 |none=>none
noncomputable def ownT (W:List OCtr):OwnT:=⟨ownA W,fun f args o K=>ownS (ownC W) f args o K⟩
theorem ownT_ok {P:Program} {W:List OCtr} (hW:∀c∈W,HoldsO P c):OwnOK P (ownT W) where
 K:=fun f args o r o' h=>by
  simp only[ownT,ownA] at h
  split at h
  ·rename_i c hc
   obtain⟨rfl,hm⟩:=findO_f hc
   split at h
   ·rename_i hx
    simp only[Option.some.injEq,Prod.mk.injEq] at h
    generalize hb:Classical.choose hx=b at h
    have hs:=Classical.choose_spec hx
    rw[hb] at hs
    obtain⟨h1,h2,h3⟩:=hs
    obtain⟨h4,h5⟩:=hW c hm _ h3
    refine⟨h4,?_⟩
    rw[h1,h2,←h.1,←h.2]
    exact h5
   ·cases h
  ·cases h
 C:=fun call hcall f args o K h=>by
  refine ownS_sound ?_ h
  intro f args o K hk
  simp only[ownC] at hk
  split at hk
  ·rename_i c hc
   obtain⟨a,h1,h2,h3⟩:=optK_some hk
   refine⟨_,_,?_,h3⟩
   rw[hcall]
   obtain⟨h4,h5⟩:=c.ok _ _ _ h1
   have hx:∃b,gL args=gL (c.put b)∧gO o=gO (c.st b)∧c.dom b:=⟨a,h4,h5,h2⟩
   simp only[ownT,ownA,hc,dif_pos hx]
   have:Classical.choose hx=a:=c.inj _ _ ((Classical.choose_spec hx).1.symm.trans h4) ((Classical.choose_spec hx).2.1.symm.trans h5)
   rw[this]
  ·exact hk.elim
theorem holdsO_of {P:Program} {fn:FuncId→Option IFn} {L:List SCtr} {W:List OCtr} (c:OCtr) {F:IFn} {ty:TypeId→Option SId} {mt:List Nat×Bool→Option (SId×SId)} {Λ:c.α→Nat→LoopAnn}
  (h0:TabOK P ⟨fn,fun _ _ _ _=>none⟩) (hW:∀c∈W,HoldsO P c) (hL:∀c∈L,Holds P c)
  (hF:fn c.f=some F) (hlen:∀a,(c.put a).length=F.params)
  (a:c.α) (hfr:∀d,findO c.f W=some d→∀b,gL (c.put a)=gL (d.put b)→gO (c.st a)=gO (d.st b)→¬d.dom b)
  (h:fnOwnK (parL L (ownT W) ty mt fn) (Λ a) F (c.put a) (c.st a) fun v s=>v.same (c.res a)∧sameO s (c.out a)):
  goodF P c.f=true∧CallO P c.f (gL (c.put a)) (gO (c.st a)) (c.res a).g (gO (c.out a)):=by
 refine fnOwnK_sound (p:=parL L (ownT W) ty mt fn) (Λ:=Λ a) (Q:=fun v s=>v.same (c.res a)∧sameO s (c.out a)) (tabL_ok (ownT_ok hW) hL h0) (tabL_calls (ownT_ok hW)) (fun _ _ h=>h) hF ?_ (hlen a) (fun v s hs=>⟨hs.1,sameO_g hs.2⟩) ?_
 ·simp only[tabL,tabK,if_true,ownT,ownA]
  split
  ·rename_i d hd
   rw[dif_neg]
   rintro⟨b,h1,h2,h3⟩
   exact hfr d hd b h1 h2 h3
  ·rfl
 ·exact h
mutual
def frzA (o:SStore) (k:Nat):SV→(SV→Prop)→Prop
 | .ow id n sz,K=>if k≤id then(match o[id]? with
   |some (.row s l _ true)=>if sz=s.sz then n=l.length∧K (.row s l) else False
   |some (.row _ _ _ false)=>K (.ow id n sz)
   |_=>False) else K (.ow id n sz)
 | .ptr id f t,K=>if k≤id then(match o[id]? with
   |some (.cells _ _ _ false)=>K (.ptr id f t)
   |_=>False) else K (.ptr id f t)
 | .agg cs,K=>frzAL o k cs fun cs'=>K (.agg cs')
 | .tup cs,K=>frzAL o k cs fun cs'=>K (.tup cs')
 | .ud,K=>K .ud
 | .sc v,K=>K (.sc v)
 | .il q n,K=>K (.il q n)
 | .si q n,K=>K (.si q n)
 | .bl b,K=>K (.bl b)
 | .sb b,K=>K (.sb b)
 | .row s l,K=>K (.row s l)
 | .mp i,K=>K (.mp i)
 | .fn f a b,K=>frzAL o k a fun a'=>frzAL o k b fun b'=>K (.fn f a' b')
 |_,_=>False
def frzAL (o:SStore) (k:Nat):List SV→(List SV→Prop)→Prop
 |[],K=>K []
 |c::cs,K=>frzA o k c fun c'=>frzAL o k cs fun cs'=>K (c'::cs')
end
section
variable {o:SStore} {k:Nat}
mutual
theorem frzA_sound:∀{v:SV} {K:SV→Prop},frzA o k v K→∃v':SV,v.g.frz (gO o) (fun i=>decide (k≤i))=some v'.g∧K v'
 | .ow id n sz,K,h=>by
  simp only[frzA] at h
  split at h
  ·rename_i hk
   split at h
   ·rename_i s l e ho
    split at h
    ·rename_i hsz
     subst hsz
     obtain⟨rfl,h⟩:=h
     refine⟨_,?_,h⟩
     have htk:List.take (l.length*s.sz) (flatA s l)=flatA s l:=List.take_of_length_le (by rw[flatA_len];omega)
     simp only[SV.g,AV.frz,hk,decide_true,if_true,getI ho,SObj.g,flatA_len,Nat.zero_add,Nat.le_refl,and_self,List.drop_zero,htk]
    ·exact h.elim
   ·rename_i s l e ho
    refine⟨_,?_,h⟩
    simp only[SV.g,AV.frz,hk,decide_true,if_true,getI ho,SObj.g,Bool.false_eq_true,if_false]
   ·exact h.elim
  ·rename_i hk
   refine⟨_,?_,h⟩
   simp only[SV.g,AV.frz,decide_eq_true_eq,if_neg hk]
 | .ptr id f t,K,h=>by
  simp only[frzA] at h
  split at h
  ·rename_i hk
   split at h
   ·rename_i cs e sz ho
    refine⟨_,?_,h⟩
    simp only[SV.g,AV.frz,hk,decide_true,if_true,getI ho,SObj.g,Bool.false_eq_true,if_false]
   ·exact h.elim
  ·rename_i hk
   refine⟨_,?_,h⟩
   simp only[SV.g,AV.frz,decide_eq_true_eq,if_neg hk]
 | .agg cs,K,h=>by
  simp only[frzA] at h
  obtain⟨cs',h1,h2⟩:=frzAL_sound h
  exact⟨_,by simp only[SV.g,AV.frz,h1,Option.map_some],h2⟩
 | .tup cs,K,h=>by
  simp only[frzA] at h
  obtain⟨cs',h1,h2⟩:=frzAL_sound h
  exact⟨_,by simp only[SV.g,AV.frz,h1,Option.map_some],h2⟩
 | .ud,K,h=>⟨.ud,by simp only[SV.g,AV.frz],by simpa only[frzA] using h⟩
 | .sc v,K,h=>⟨.sc v,by simp only[SV.g,AV.frz],by simpa only[frzA] using h⟩
 | .il k n,K,h=>⟨.il k n,by simp only[SV.g,AV.frz],by simpa only[frzA] using h⟩
 | .si k n,K,h=>⟨.si k n,by simp only[SV.g,AV.frz],by simpa only[frzA] using h⟩
 | .bl b,K,h=>⟨.bl b,by simp only[SV.g,AV.frz],by simpa only[frzA] using h⟩
 | .sb b,K,h=>⟨.sb b,by simp only[SV.g,AV.frz],by simpa only[frzA] using h⟩
 | .row s l,K,h=>⟨.row s l,by simp only[SV.g,AV.frz],by simpa only[frzA] using h⟩
 | .mp i,K,h=>⟨.mp i,by simp only[SV.g,AV.frz],by simpa only[frzA] using h⟩
 | .fn f a b,K,h=>by
  simp only[frzA] at h
  obtain⟨a',h1,h2⟩:=frzAL_sound h
  obtain⟨b',h3,h4⟩:=frzAL_sound h2
  exact⟨_,by simp only[SV.g,AV.frz,h1,h3],h4⟩
 | .ep ..,K,h| .ap ..,K,h| .rp ..,K,h| .os ..,K,h| .oc ..,K,h=>by simp only[frzA] at h
theorem frzAL_sound:∀{cs:List SV} {K:List SV→Prop},frzAL o k cs K→∃cs':List SV,frzL (gO o) (fun i=>decide (k≤i)) (gL cs)=some (gL cs')∧K cs'
 |[],K,h=>⟨[],by simp[gL,frzL],by simpa only[frzAL] using h⟩
 |c::cs,K,h=>by
  simp only[frzAL] at h
  obtain⟨c',h1,h2⟩:=frzA_sound h
  obtain⟨cs',h3,h4⟩:=frzAL_sound h2
  exact⟨c'::cs',by simp only[gL,frzL,h1,h3],h4⟩
end
def frzAO (o:SStore) (k:Nat):Nat→SStore→(SStore→Prop)→Prop
 |_,[],K=>K []
 |i,x::r,K=>match x with
  | .cells cs e sz false=>frzAL o k cs fun cs'=>frzAO o k (i+1) r fun r'=>K (.cells cs' e sz false::r')
  | .row s l e pu=>frzAO o k (i+1) r fun r'=>K ((if pu&&decide (k≤i) then .dead else .row s l e pu)::r')
  | .map sk sv ka es kt pu=>frzAO o k (i+1) r fun r'=>K (.map sk sv ka es kt pu::r')
  | .dead=>frzAO o k (i+1) r fun r'=>K (.dead::r')
  |_=>False
theorem frzAO_sound:∀{i:Nat} {r:SStore} {K:SStore→Prop},frzAO o k i r K→∃r' mid,frzS (gO o) (fun i=>decide (k≤i)) (gO r)=some mid∧dropPu (fun i=>decide (k≤i)) i mid=gO r'∧K r'
 |i,[],K,h=>⟨[],[],rfl,rfl,h⟩
 |i,x::r,K,h=>by
  cases x with
  |dead=>
   simp only[frzAO] at h
   obtain⟨r',mid,h1,h2,h3⟩:=frzAO_sound h
   refine⟨_,.dead::mid,?_,?_,h3⟩
   ·simp only[gO,List.map_cons,SObj.g] at h1 ⊢
    simp only[frzS,AObj.frz,h1]
   ·simp only[dropPu,h2];rfl
  |cells cs e' sz pu=>
   cases pu with
   |true=>simp only[frzAO] at h
   |false=>
    simp only[frzAO] at h
    obtain⟨cs',hc1,hc2⟩:=frzAL_sound h
    obtain⟨r',mid,h1,h2,h3⟩:=frzAO_sound hc2
    refine⟨_,.cells (gL cs') e' sz false::mid,?_,?_,h3⟩
    ·simp only[gO,List.map_cons,SObj.g] at h1 hc1 ⊢
     simp only[frzS,AObj.frz,Bool.false_eq_true,if_false,hc1,Option.map_some,h1]
    ·simp only[dropPu,h2];rfl
  |rowp s l e' t=>simp only[frzAO] at h
  |row s l e' pu=>
   simp only[frzAO] at h
   obtain⟨r',mid,h1,h2,h3⟩:=frzAO_sound h
   refine⟨_,(SObj.row s l e' pu).g::mid,?_,?_,h3⟩
   ·have hobj:(SObj.row s l e' pu).g.frz (gO o) (fun i=>decide (k≤i))=some (SObj.row s l e' pu).g:=by
     cases pu with
     |true=>simp only[SObj.g,AObj.frz,if_true]
     |false=>
      simp only[SObj.g,AObj.frz,Bool.false_eq_true,if_false]
      rw[frzL_plain (fun a ha=>flatA_plain ha),Option.map_some]
    simp only[gO,List.map_cons] at h1 ⊢
    simp only[frzS,gO] at hobj h1 ⊢
    simp only[hobj,h1]
   ·cases pu with
    |true=>
     simp only[SObj.g,dropPu,Bool.true_and]
     by_cases hk:k≤i
     ·simp only[hk,decide_true,if_true]
      rw[h2];rfl
     ·simp only[hk,decide_false,Bool.false_eq_true,if_false]
      rw[h2];rfl
    |false=>simp only[SObj.g,dropPu,Bool.false_and,Bool.false_eq_true,if_false];rw[h2];rfl
  |map sk sv ka es kt pu=>
   simp only[frzAO] at h
   obtain⟨r',mid,h1,h2,h3⟩:=frzAO_sound h
   have hobj:(SObj.map sk sv ka es kt pu).g.frz (gO o) (fun i=>decide (k≤i))=some (SObj.map sk sv ka es kt pu).g:=by
    cases pu with
    |true=>simp only[SObj.g,AObj.frz,if_true]
    |false=>
     simp only[SObj.g,AObj.frz,Bool.false_eq_true,if_false]
     rw[frzM_sc mapA_sc,Option.map_some]
   refine⟨_,(SObj.map sk sv ka es kt pu).g::mid,?_,?_,h3⟩
   ·simp only[gO,List.map_cons] at h1 ⊢
    simp only[frzS,gO] at hobj h1 ⊢
    simp only[hobj,h1]
   ·simp only[SObj.g,dropPu,h2];rfl
end
def finK (r:SV) (o:SStore) (K:SV→SStore→Prop):Prop:=
 frzA o 0 r fun r1=>frzAO o 0 0 o fun o2=>
  if o2.all SObj.noPend=false then False else
  let ids:=reachSS o2 reachD [r1] []
  if callOwn.nodupN ids then match r1.ren (fun j=>idxOf ids j),subSS o2 ids ids with
   |some r2,some s2=>K r2 s2
   |_,_=>False
  else False
theorem finK_sound {r:SV} {o:SStore} {K:SV→SStore→Prop} (h:finK r o K):∃r' o',finishOwn 0 r.g (gO o)=some (r'.g,gO o')∧K r' o':=by
 unfold finK at h
 obtain⟨r1,h1,h2⟩:=frzA_sound h
 obtain⟨o2,mid,h3,h4,h5⟩:=frzAO_sound h2
 split at h5
 ·exact h5.elim
 rename_i hno
 simp only[Bool.not_eq_false] at hno
 simp only at h5
 split at h5
 ·rename_i hn
  split at h5
  ·rename_i r2 s2 h6 h7
   refine⟨r2,s2,?_,h5⟩
   unfold finishOwn
   rw[h1,h3]
   simp only[h4,List.take_zero,List.flatMap_nil,List.range_zero]
   have hr:=reach_g (o:=o2) hno (d:=reachD) (vs:=[r1]) (acc:=[])
   simp only[gL] at hr
   rw[hr,if_pos hn,ren_g h6,subSS_g h7]
  ·exact h5.elim
 ·exact h5.elim
def fnNewK (p:SPar) (Λ:Nat→LoopAnn) (F:IFn) (args:List SV) (Q:SV→SStore→Prop):Prop:=
 wpS p 0 F.body Λ ⟨bindS 0 args,[]⟩ fun out st=>match out with
  | .exit _=>False
  | .goto _=>False
  |_=>resK st F.res fun r=>finK r st.o Q
theorem fnNewK_sound {P:Program} {T:Tab} {p:SPar} {Λ:Nat→LoopAnn} (hT:TabOK P T) (hC:SCallsOK T.K p.C) (hI:∀f F,p.it f=some F→T.fn f=some F) {f:FuncId} {F:IFn} (hF:T.fn f=some F) {args:List SV} {r:AV} {o':Store} (hK:T.K f (gL args) [] true=none) (hlen:args.length=F.params)
  {Q:SV→SStore→Prop} (hQ:∀v s,Q v s→v.g=r∧gO s=o') (h:fnNewK p Λ F args Q):goodF P f=true∧CallO P f (gL args) [] r o':=by
 unfold fnNewK at h
 have hw:=wpS_sound hC hI h
 have hst:(SSt.mk (bindS 0 args) []).g=⟨bindArgs 0 (gL args),[]⟩:=by simp[SSt.g,bindS_g,gO]
 rw[hst] at hw
 have fin:∀(ss:SSt),(resK ss F.res fun v=>finK v ss.o Q)→(resultsA ss.g F.res).bind (fun r0=>finish true 0 r0 ss.g.o)=some (r,o'):=by
  intro ss hq
  obtain⟨r0,h1,h2⟩:=resK_sound hq
  obtain⟨r',s',h3,h4⟩:=finK_sound h2
  rw[h1]
  simp only[Option.bind_some,finish,if_true]
  have:finishOwn 0 r0.g ss.g.o=some (r'.g,gO s'):=h3
  rw[this,(hQ _ _ h4).1,(hQ _ _ h4).2]
 obtain⟨h1,h2,_⟩:=call_of_vw hT hF (o:=[]) (own:=true) hK (by rw[gL_len];exact hlen) (v:=r) (o':=o') (hw.mono fun out s hs=>by
  obtain⟨ss,rfl,hq⟩:=hs
  cases out with
  |exit id=>exact hq.elim
  |goto l=>exact hq.elim
  |norm=>exact⟨.inl rfl,fin ss hq⟩
  |ret=>exact⟨.inr rfl,fin ss hq⟩)
 exact⟨h1,h2⟩
theorem ownA_fresh {W:List OCtr} {f:FuncId} {args:List AV} {o:Store} (h:findO f W=none):ownA W f args o=none:=by
 unfold ownA
 rw[h]
open Go.Proofs.Ytoifpgeocpjneaa.Ir
open Go.Proofs
structure Ent where
 f:FuncId
 F:IFn
 fn:Func
 H:List RH
def lookF (f:FuncId):List Ent→Option IFn
 |[]=>none
 |e::r=>bif Nat.beq e.f f then some e.F else lookF f r
theorem lookF_mem {f:FuncId} {F:IFn}:∀{l:List Ent},lookF f l=some F→∃e∈l,e.f=f∧e.F=F
 |[],h=>by cases h
 |e::r,h=>by
  simp only[lookF] at h
  cases hq:Nat.beq e.f f with
  |true=>
   rw[hq] at h
   simp only[cond_true,Option.some.injEq] at h
   exact⟨e,by simp,Nat.eq_of_beq_eq_true hq,h⟩
  |false=>
   rw[hq] at h
   simp only[cond_false] at h
   obtain⟨e',h1,h2⟩:=lookF_mem h
   exact⟨e',by simp[h1],h2⟩
def GoodE (P:Program) (e:Ent):Prop:=P.funcs[e.f]?=some e.fn∧compFn P e.H e.fn=some e.F∧goodF P e.f=true
theorem tab0_ok {P:Program} {l:List Ent} (h:∀e∈l,GoodE P e):TabOK P ⟨fun f=>lookF f l,fun _ _ _ _=>none⟩ where
 fn:=fun f F hF=>by
  obtain⟨e,h1,rfl,rfl⟩:=lookF_mem hF
  obtain⟨h2,h3,h4⟩:=h e h1
  exact⟨e.fn,e.H,h2,h3,h4⟩
 K:=fun _ _ _ _ _ _ h=>by cases h
theorem ge374:GoodE Try.prog ⟨6,F374,Try.f6,h374⟩:=⟨by kernel_rfl,is374,by kernel_rfl⟩
theorem ge376:GoodE Try.prog ⟨8,F376,Try.f8,h376⟩:=⟨by kernel_rfl,is376,by kernel_rfl⟩
theorem ge377:GoodE Try.prog ⟨9,F377,Try.f9,h377⟩:=⟨by kernel_rfl,is377,by kernel_rfl⟩
theorem ge378:GoodE Try.prog ⟨10,F378,Try.f10,h378⟩:=⟨by kernel_rfl,is378,by kernel_rfl⟩
theorem ge32:GoodE Try.prog ⟨11,F32,Try.f11,h32⟩:=⟨by kernel_rfl,is32,by kernel_rfl⟩
theorem ge379:GoodE Try.prog ⟨12,F379,Try.f12,h379⟩:=⟨by kernel_rfl,is379,by kernel_rfl⟩
theorem ge380:GoodE Try.prog ⟨13,F380,Try.f13,h380⟩:=⟨by kernel_rfl,is380,by kernel_rfl⟩
theorem ge381:GoodE Try.prog ⟨14,F381,Try.f14,h381⟩:=⟨by kernel_rfl,is381,by kernel_rfl⟩
theorem ge383:GoodE Try.prog ⟨16,F383,Try.f16,h383⟩:=⟨by kernel_rfl,is383,by kernel_rfl⟩
theorem ge78:GoodE Try.prog ⟨19,F78,Try.f19,h78⟩:=⟨by kernel_rfl,is78,by kernel_rfl⟩
theorem ge384:GoodE Try.prog ⟨20,F384,Try.f20,h384⟩:=⟨by kernel_rfl,is384,by kernel_rfl⟩
theorem ge24:GoodE Try.prog ⟨21,F24,Try.f21,h24⟩:=⟨by kernel_rfl,is24,by kernel_rfl⟩
theorem ge385:GoodE Try.prog ⟨22,F385,Try.f22,h385⟩:=⟨by kernel_rfl,is385,by kernel_rfl⟩
theorem ge79:GoodE Try.prog ⟨23,F79,Try.f23,h79⟩:=⟨by kernel_rfl,is79,by kernel_rfl⟩
theorem ge386:GoodE Try.prog ⟨24,F386,Try.f24,h386⟩:=⟨by kernel_rfl,is386,by kernel_rfl⟩
theorem ge387:GoodE Try.prog ⟨25,F387,Try.f25,h387⟩:=⟨by kernel_rfl,is387,by kernel_rfl⟩
theorem ge388:GoodE Try.prog ⟨26,F388,Try.f26,h388⟩:=⟨by kernel_rfl,is388,by kernel_rfl⟩
theorem ge109:GoodE Try.prog ⟨27,F109,Try.f27,h109⟩:=⟨by kernel_rfl,is109,by kernel_rfl⟩
theorem ge94:GoodE Try.prog ⟨28,F94,Try.f28,h94⟩:=⟨by kernel_rfl,is94,by kernel_rfl⟩
theorem ge389:GoodE Try.prog ⟨29,F389,Try.f29,h389⟩:=⟨by kernel_rfl,is389,by kernel_rfl⟩
theorem ge390:GoodE Try.prog ⟨30,F390,Try.f30,h390⟩:=⟨by kernel_rfl,is390,by kernel_rfl⟩
theorem ge97:GoodE Try.prog ⟨31,F97,Try.f31,h97⟩:=⟨by kernel_rfl,is97,by kernel_rfl⟩
theorem ge68:GoodE Try.prog ⟨33,F68,Try.f33,h68⟩:=⟨by kernel_rfl,is68,by kernel_rfl⟩
theorem ge69:GoodE Try.prog ⟨34,F69,Try.f34,h69⟩:=⟨by kernel_rfl,is69,by kernel_rfl⟩
theorem ge118:GoodE Try.prog ⟨35,F118,Try.f35,h118⟩:=⟨by kernel_rfl,is118,by kernel_rfl⟩
theorem ge119:GoodE Try.prog ⟨36,F119,Try.f36,h119⟩:=⟨by kernel_rfl,is119,by kernel_rfl⟩
theorem ge391:GoodE Try.prog ⟨37,F391,Try.f37,h391⟩:=⟨by kernel_rfl,is391,by kernel_rfl⟩
theorem ge392:GoodE Try.prog ⟨39,F392,Try.f39,h392⟩:=⟨by kernel_rfl,is392,by kernel_rfl⟩
theorem ge126:GoodE Try.prog ⟨40,F126,Try.f40,h126⟩:=⟨by kernel_rfl,is126,by kernel_rfl⟩
theorem ge127:GoodE Try.prog ⟨41,F127,Try.f41,h127⟩:=⟨by kernel_rfl,is127,by kernel_rfl⟩
theorem ge128:GoodE Try.prog ⟨42,F128,Try.f42,h128⟩:=⟨by kernel_rfl,is128,by kernel_rfl⟩
theorem ge393:GoodE Try.prog ⟨43,F393,Try.f43,h393⟩:=⟨by kernel_rfl,is393,by kernel_rfl⟩
theorem ge394:GoodE Try.prog ⟨44,F394,Try.f44,h394⟩:=⟨by kernel_rfl,is394,by kernel_rfl⟩
theorem ge395:GoodE Try.prog ⟨45,F395,Try.f45,h395⟩:=⟨by kernel_rfl,is395,by kernel_rfl⟩
theorem ge129:GoodE Try.prog ⟨46,F129,Try.f46,h129⟩:=⟨by kernel_rfl,is129,by kernel_rfl⟩
theorem ge396:GoodE Try.prog ⟨47,F396,Try.f47,h396⟩:=⟨by kernel_rfl,is396,by kernel_rfl⟩
theorem ge131:GoodE Try.prog ⟨48,F131,Try.f48,h131⟩:=⟨by kernel_rfl,is131,by kernel_rfl⟩
theorem ge132:GoodE Try.prog ⟨49,F132,Try.f49,h132⟩:=⟨by kernel_rfl,is132,by kernel_rfl⟩
theorem ge110:GoodE Try.prog ⟨51,F110,Try.f51,h110⟩:=⟨by kernel_rfl,is110,by kernel_rfl⟩
theorem ge146:GoodE Try.prog ⟨52,F146,Try.f52,h146⟩:=⟨by kernel_rfl,is146,by kernel_rfl⟩
theorem ge147:GoodE Try.prog ⟨53,F147,Try.f53,h147⟩:=⟨by kernel_rfl,is147,by kernel_rfl⟩
theorem ge134:GoodE Try.prog ⟨54,F134,Try.f54,h134⟩:=⟨by kernel_rfl,is134,by kernel_rfl⟩
theorem ge144:GoodE Try.prog ⟨55,F144,Try.f55,h144⟩:=⟨by kernel_rfl,is144,by kernel_rfl⟩
theorem ge358:GoodE Try.prog ⟨56,F358,Try.f56,h358⟩:=⟨by kernel_rfl,is358,by kernel_rfl⟩
theorem ge397:GoodE Try.prog ⟨57,F397,Try.f57,h397⟩:=⟨by kernel_rfl,is397,by kernel_rfl⟩
theorem ge151:GoodE Try.prog ⟨58,F151,Try.f58,h151⟩:=⟨by kernel_rfl,is151,by kernel_rfl⟩
theorem ge152:GoodE Try.prog ⟨59,F152,Try.f59,h152⟩:=⟨by kernel_rfl,is152,by kernel_rfl⟩
theorem ge157:GoodE Try.prog ⟨60,F157,Try.f60,h157⟩:=⟨by kernel_rfl,is157,by kernel_rfl⟩
theorem ge158:GoodE Try.prog ⟨61,F158,Try.f61,h158⟩:=⟨by kernel_rfl,is158,by kernel_rfl⟩
theorem ge156:GoodE Try.prog ⟨62,F156,Try.f62,h156⟩:=⟨by kernel_rfl,is156,by kernel_rfl⟩
theorem ge398:GoodE Try.prog ⟨63,F398,Try.f63,h398⟩:=⟨by kernel_rfl,is398,by kernel_rfl⟩
theorem ge399:GoodE Try.prog ⟨64,F399,Try.f64,h399⟩:=⟨by kernel_rfl,is399,by kernel_rfl⟩
theorem ge400:GoodE Try.prog ⟨65,F400,Try.f65,h400⟩:=⟨by kernel_rfl,is400,by kernel_rfl⟩
theorem ge401:GoodE Try.prog ⟨66,F401,Try.f66,h401⟩:=⟨by kernel_rfl,is401,by kernel_rfl⟩
theorem ge402:GoodE Try.prog ⟨67,F402,Try.f67,h402⟩:=⟨by kernel_rfl,is402,by kernel_rfl⟩
theorem ge403:GoodE Try.prog ⟨68,F403,Try.f68,h403⟩:=⟨by kernel_rfl,is403,by kernel_rfl⟩
theorem ge405:GoodE Try.prog ⟨70,F405,Try.f70,h405⟩:=⟨by kernel_rfl,is405,by kernel_rfl⟩
theorem ge153:GoodE Try.prog ⟨71,F153,Try.f71,h153⟩:=⟨by kernel_rfl,is153,by kernel_rfl⟩
theorem ge154:GoodE Try.prog ⟨72,F154,Try.f72,h154⟩:=⟨by kernel_rfl,is154,by kernel_rfl⟩
theorem ge155:GoodE Try.prog ⟨73,F155,Try.f73,h155⟩:=⟨by kernel_rfl,is155,by kernel_rfl⟩
theorem ge163:GoodE Try.prog ⟨74,F163,Try.f74,h163⟩:=⟨by kernel_rfl,is163,by kernel_rfl⟩
theorem ge369:GoodE Try.prog ⟨75,F369,Try.f75,h369⟩:=⟨by kernel_rfl,is369,by kernel_rfl⟩
theorem ge165:GoodE Try.prog ⟨76,F165,Try.f76,h165⟩:=⟨by kernel_rfl,is165,by kernel_rfl⟩
theorem ge166:GoodE Try.prog ⟨77,F166,Try.f77,h166⟩:=⟨by kernel_rfl,is166,by kernel_rfl⟩
theorem ge406:GoodE Try.prog ⟨78,F406,Try.f78,h406⟩:=⟨by kernel_rfl,is406,by kernel_rfl⟩
theorem ge407:GoodE Try.prog ⟨79,F407,Try.f79,h407⟩:=⟨by kernel_rfl,is407,by kernel_rfl⟩
theorem ge99:GoodE Try.prog ⟨80,F99,Try.f80,h99⟩:=⟨by kernel_rfl,is99,by kernel_rfl⟩
theorem ge408:GoodE Try.prog ⟨81,F408,Try.f81,h408⟩:=⟨by kernel_rfl,is408,by kernel_rfl⟩
theorem ge410:GoodE Try.prog ⟨83,F410,Try.f83,h410⟩:=⟨by kernel_rfl,is410,by kernel_rfl⟩
theorem ge95:GoodE Try.prog ⟨84,F95,Try.f84,h95⟩:=⟨by kernel_rfl,is95,by kernel_rfl⟩
theorem ge411:GoodE Try.prog ⟨85,F411,Try.f85,h411⟩:=⟨by kernel_rfl,is411,by kernel_rfl⟩
theorem ge412:GoodE Try.prog ⟨86,F412,Try.f86,h412⟩:=⟨by kernel_rfl,is412,by kernel_rfl⟩
theorem ge413:GoodE Try.prog ⟨87,F413,Try.f87,h413⟩:=⟨by kernel_rfl,is413,by kernel_rfl⟩
theorem ge130:GoodE Try.prog ⟨88,F130,Try.f88,h130⟩:=⟨by kernel_rfl,is130,by kernel_rfl⟩
theorem ge167:GoodE Try.prog ⟨89,F167,Try.f89,h167⟩:=⟨by kernel_rfl,is167,by kernel_rfl⟩
theorem ge168:GoodE Try.prog ⟨90,F168,Try.f90,h168⟩:=⟨by kernel_rfl,is168,by kernel_rfl⟩
theorem ge169:GoodE Try.prog ⟨91,F169,Try.f91,h169⟩:=⟨by kernel_rfl,is169,by kernel_rfl⟩
theorem ge414:GoodE Try.prog ⟨92,F414,Try.f92,h414⟩:=⟨by kernel_rfl,is414,by kernel_rfl⟩
theorem ge415:GoodE Try.prog ⟨93,F415,Try.f93,h415⟩:=⟨by kernel_rfl,is415,by kernel_rfl⟩
theorem ge416:GoodE Try.prog ⟨94,F416,Try.f94,h416⟩:=⟨by kernel_rfl,is416,by kernel_rfl⟩
theorem ge417:GoodE Try.prog ⟨95,F417,Try.f95,h417⟩:=⟨by kernel_rfl,is417,by kernel_rfl⟩
noncomputable def entL:List Ent:=[⟨6,F374,Try.f6,h374⟩,⟨8,F376,Try.f8,h376⟩,⟨9,F377,Try.f9,h377⟩,⟨10,F378,Try.f10,h378⟩,⟨11,F32,Try.f11,h32⟩,⟨12,F379,Try.f12,h379⟩,⟨13,F380,Try.f13,h380⟩,⟨14,F381,Try.f14,h381⟩,⟨16,F383,Try.f16,h383⟩,⟨19,F78,Try.f19,h78⟩,⟨20,F384,Try.f20,h384⟩,⟨21,F24,Try.f21,h24⟩,⟨22,F385,Try.f22,h385⟩,⟨23,F79,Try.f23,h79⟩,⟨24,F386,Try.f24,h386⟩,⟨25,F387,Try.f25,h387⟩,⟨26,F388,Try.f26,h388⟩,⟨27,F109,Try.f27,h109⟩,⟨28,F94,Try.f28,h94⟩,⟨29,F389,Try.f29,h389⟩,⟨30,F390,Try.f30,h390⟩,⟨31,F97,Try.f31,h97⟩,⟨33,F68,Try.f33,h68⟩,⟨34,F69,Try.f34,h69⟩,⟨35,F118,Try.f35,h118⟩,⟨36,F119,Try.f36,h119⟩,⟨37,F391,Try.f37,h391⟩,⟨39,F392,Try.f39,h392⟩,⟨40,F126,Try.f40,h126⟩,⟨41,F127,Try.f41,h127⟩,⟨42,F128,Try.f42,h128⟩,⟨43,F393,Try.f43,h393⟩,⟨44,F394,Try.f44,h394⟩,⟨45,F395,Try.f45,h395⟩,⟨46,F129,Try.f46,h129⟩,⟨47,F396,Try.f47,h396⟩,⟨48,F131,Try.f48,h131⟩,⟨49,F132,Try.f49,h132⟩,⟨51,F110,Try.f51,h110⟩,⟨52,F146,Try.f52,h146⟩,⟨53,F147,Try.f53,h147⟩,⟨54,F134,Try.f54,h134⟩,⟨55,F144,Try.f55,h144⟩,⟨56,F358,Try.f56,h358⟩,⟨57,F397,Try.f57,h397⟩,⟨58,F151,Try.f58,h151⟩,⟨59,F152,Try.f59,h152⟩,⟨60,F157,Try.f60,h157⟩,⟨61,F158,Try.f61,h158⟩,⟨62,F156,Try.f62,h156⟩,⟨63,F398,Try.f63,h398⟩,⟨64,F399,Try.f64,h399⟩,⟨65,F400,Try.f65,h400⟩,⟨66,F401,Try.f66,h401⟩,⟨67,F402,Try.f67,h402⟩,⟨68,F403,Try.f68,h403⟩,⟨70,F405,Try.f70,h405⟩,⟨71,F153,Try.f71,h153⟩,⟨72,F154,Try.f72,h154⟩,⟨73,F155,Try.f73,h155⟩,⟨74,F163,Try.f74,h163⟩,⟨75,F369,Try.f75,h369⟩,⟨76,F165,Try.f76,h165⟩,⟨77,F166,Try.f77,h166⟩,⟨78,F406,Try.f78,h406⟩,⟨79,F407,Try.f79,h407⟩,⟨80,F99,Try.f80,h99⟩,⟨81,F408,Try.f81,h408⟩,⟨83,F410,Try.f83,h410⟩,⟨84,F95,Try.f84,h95⟩,⟨85,F411,Try.f85,h411⟩,⟨86,F412,Try.f86,h412⟩,⟨87,F413,Try.f87,h413⟩,⟨88,F130,Try.f88,h130⟩,⟨89,F167,Try.f89,h167⟩,⟨90,F168,Try.f90,h168⟩,⟨91,F169,Try.f91,h169⟩,⟨92,F414,Try.f92,h414⟩,⟨93,F415,Try.f93,h415⟩,⟨94,F416,Try.f94,h416⟩,⟨95,F417,Try.f95,h417⟩]
theorem entL_ok:∀e∈entL,GoodE Try.prog e:=by
 unfold entL
 simp only[List.mem_cons,List.not_mem_nil,or_false]
 rintro e (rfl|rfl|rfl|rfl|rfl|rfl|rfl|rfl|rfl|rfl|rfl|rfl|rfl|rfl|rfl|rfl|rfl|rfl|rfl|rfl|rfl|rfl|rfl|rfl|rfl|rfl|rfl|rfl|rfl|rfl|rfl|rfl|rfl|rfl|rfl|rfl|rfl|rfl|rfl|rfl|rfl|rfl|rfl|rfl|rfl|rfl|rfl|rfl|rfl|rfl|rfl|rfl|rfl|rfl|rfl|rfl|rfl|rfl|rfl|rfl|rfl|rfl|rfl|rfl|rfl|rfl|rfl|rfl|rfl|rfl|rfl|rfl|rfl|rfl|rfl|rfl|rfl|rfl|rfl|rfl|rfl)
 ·exact ge374
 ·exact ge376
 ·exact ge377
 ·exact ge378
 ·exact ge32
 ·exact ge379
 ·exact ge380
 ·exact ge381
 ·exact ge383
 ·exact ge78
 ·exact ge384
 ·exact ge24
 ·exact ge385
 ·exact ge79
 ·exact ge386
 ·exact ge387
 ·exact ge388
 ·exact ge109
 ·exact ge94
 ·exact ge389
 ·exact ge390
 ·exact ge97
 ·exact ge68
 ·exact ge69
 ·exact ge118
 ·exact ge119
 ·exact ge391
 ·exact ge392
 ·exact ge126
 ·exact ge127
 ·exact ge128
 ·exact ge393
 ·exact ge394
 ·exact ge395
 ·exact ge129
 ·exact ge396
 ·exact ge131
 ·exact ge132
 ·exact ge110
 ·exact ge146
 ·exact ge147
 ·exact ge134
 ·exact ge144
 ·exact ge358
 ·exact ge397
 ·exact ge151
 ·exact ge152
 ·exact ge157
 ·exact ge158
 ·exact ge156
 ·exact ge398
 ·exact ge399
 ·exact ge400
 ·exact ge401
 ·exact ge402
 ·exact ge403
 ·exact ge405
 ·exact ge153
 ·exact ge154
 ·exact ge155
 ·exact ge163
 ·exact ge369
 ·exact ge165
 ·exact ge166
 ·exact ge406
 ·exact ge407
 ·exact ge99
 ·exact ge408
 ·exact ge410
 ·exact ge95
 ·exact ge411
 ·exact ge412
 ·exact ge413
 ·exact ge130
 ·exact ge167
 ·exact ge168
 ·exact ge169
 ·exact ge414
 ·exact ge415
 ·exact ge416
 ·exact ge417
noncomputable def fnN (f:FuncId):Option IFn:=lookF f entL
theorem base_ok:TabOK Try.prog ⟨fnN,fun _ _ _ _=>none⟩:=tab0_ok entL_ok
structure Vc (A:Prop):Prop where
 out:A
theorem vcOf {A:Prop} (B:Prop) (h:B=A) (hb:B):Vc A:=⟨h▸hb⟩
theorem con {L:List SCtr} {W:OwnT} (c:SCtr) (F:IFn) (Λ:c.α→Nat→LoopAnn) (hW:OwnOK Try.prog W) (hL:∀c∈L,Holds Try.prog c)
  (hF:fnN c.f=some F) (hfr:findC c.f L=none) (hlen:∀a,(c.A.put a).length=F.params)
  (h:∀a,c.dom a→Vc (fnK (parL L W tyN mtN fnN) (Λ a) F (c.A.put a) fun v=>v.same (c.res a))):Holds Try.prog c:=
 holds_of c base_ok hW hL hF hfr hlen fun a ha=>(h a ha).out
theorem conRo {L:List SCtr} {W:OwnT} (c:SCtr) (F:IFn) (ro:FuncId→Bool) (Λ:c.α→Nat→LoopAnn) (hW:OwnOK Try.prog W) (hL:∀c∈L,Holds Try.prog c)
  (hF:fnN c.f=some F) (hfr:findC c.f L=none) (hlen:∀a,(c.A.put a).length=F.params)
  (h:∀a,c.dom a→Vc (fnK (parR L W tyN mtN fnN ro) (Λ a) F (c.A.put a) fun v=>v.same (c.res a))):Holds Try.prog c:=
 holds_ofR c base_ok hW hL hF hfr hlen fun a ha=>(h a ha).out
theorem conO {L:List SCtr} {W:List OCtr} (c:OCtr) (F:IFn) (Λ:c.α→Nat→LoopAnn) (hW:∀c∈W,HoldsO Try.prog c) (hL:∀c∈L,Holds Try.prog c)
  (hF:fnN c.f=some F) (hlen:∀a,(c.put a).length=F.params) (hfr:findO c.f W=none)
  (h:∀a,c.dom a→Vc (fnOwnK (parL L (ownT W) tyN mtN fnN) (Λ a) F (c.put a) (c.st a) fun v s=>v.same (c.res a)∧sameO s (c.out a))):HoldsO Try.prog c:=
 fun a ha=>holdsO_of c base_ok hW hL hF hlen a (fun d hd=>by rw[hfr] at hd;cases hd) (h a ha).out
theorem conN {L:List SCtr} {W:List OCtr} (c:OCtr) (F:IFn) (sp:Nat→Option (Nat×Nat×Nat)) (Λ:c.α→Nat→LoopAnn) (hW:∀c∈W,HoldsO Try.prog c) (hL:∀c∈L,Holds Try.prog c)
  (hF:fnN c.f=some F) (hlen:∀a,(c.put a).length=F.params) (hst:∀a,c.st a=[]) (hfr:findO c.f W=none)
  (h:∀a,c.dom a→Vc (fnNewK ⟨⟨pureK L,(ownT W).C⟩,tyN,mtN,sp,fun _=>none,fun _=>false⟩ (Λ a) F (c.put a) fun v s=>v.same (c.res a)∧sameO s (c.out a))):HoldsO Try.prog c:=
 fun a ha=>by
  rw[hst a]
  refine fnNewK_sound (p:=⟨⟨pureK L,(ownT W).C⟩,tyN,mtN,sp,fun _=>none,fun _=>false⟩) (Λ:=Λ a) (Q:=fun v s=>v.same (c.res a)∧sameO s (c.out a)) (tabL_ok (ownT_ok hW) hL base_ok) (tabL_calls (ownT_ok hW)) (fun _ _ h=>by cases h) hF ?_ (hlen a) (fun v s hs=>⟨hs.1,sameO_g hs.2⟩) (h a ha).out
  simp only[tabL,tabK,if_true,ownT]
  exact ownA_fresh hfr
open Go.ChangeShapes Go.WideShapes Go.RowKit
abbrev noA:Clr:=⟨fun _=>False,0⟩
instance (s:SId):Inhabited s.T:=⟨s.dflt⟩
theorem fr_nil (b:Nat):Fr noA [] b:=⟨by rintro⟨i,c,h⟩;simp at h,fun h=>h⟩
theorem repL_scs {A:Clr} {w:World} {σ:Sig} {o:Store}:∀{vs:List Value},(∀v∈vs,v.oneCell'=true)→RepL A w σ o (vs.map .sc) vs
 |[],_=>by simp[RepL]
 |v::vs,h=>by
  simp only[List.map_cons,RepL]
  exact⟨v,vs,rfl,by simp[Rep,h v (by simp)],repL_scs fun u hu=>h u (by simp[hu])⟩
theorem repM_app {A:Clr} {w:World} {σ:Sig} {o:Store}:∀{a b:List AV} {x:Option Addr} {j:Nat},RepM A w σ o a x j→RepM A w σ o b x (j+a.length)→RepM A w σ o (a++b) x j
 |[],b,x,j,_,h=>by simpa using h
 |c::a,b,x,j,h,k=>by
  simp only[List.cons_append,RepM] at h ⊢
  refine⟨h.1,repM_app h.2 ?_⟩
  rw[show j+1+a.length=j+(c::a).length from by simp;omega]
  exact k
def Reads (P:Program) (t:TypeId) (s:SId):Prop:=
 ∀(H:Type) (enc:TypeId×Value→H) (w:World) (base:Nat) (spare:Nat→Bool) (held:Bool) (fuel:Nat) (cs:List Value) (x:DataW H×List MemPlace),DataW.trod enc P w base spare held fuel t cs=some x→∃y:s.T,cs=encV s y
theorem reads_int {P:Program} {t:TypeId} {k:IntKind} (ht:P.underlying t=some (.int k)):Reads P t (.i k):=fun _ _ _ _ _ _ _ cs _ h=>by
 obtain⟨n,rfl,_,_⟩:=DataW.trod_int ht h
 exact⟨n,rfl⟩
theorem repM_sc {w:World} {a:Addr}:∀{vs:List Value} {j:Nat},(∀v∈vs,v.oneCell'=true)→(∀i v,vs[i]?=some v→w.cell? (a.add (j+i))=some v)→RepM noA w [] [] (vs.map .sc) (some a) j
 |[],_,_,_=>by simp[RepM]
 |v::vs,j,h1,h2=>by
  simp only[List.map_cons,RepM]
  refine⟨⟨a,v,rfl,fr_nil _,by simpa using h2 0 v (by simp),by simp[Rep,h1 v (by simp)]⟩,repM_sc (fun u hu=>h1 u (by simp[hu])) fun i u hu=>?_⟩
  have:=h2 (i+1) u (by simpa using hu)
  rwa [show j+1+i=j+(i+1) from by omega]
theorem cells_get {w:World} {base n:Nat} {a:Addr} {cs:List Value} (h:w.cells? base a n=some cs):cs.length=n∧∀i v,cs[i]?=some v→w.cell? (a.add i)=some v:=by
 unfold World.cells? at h
 split at h
 ·obtain⟨h1,h2⟩:=mapM_get h
  simp only[List.length_range] at h1
  refine⟨h1,fun i v hv=>?_⟩
  have hi:=(List.getElem?_eq_some_iff.1 hv).1
  obtain⟨b,hb1,hb2⟩:=h2 i i (by rw[List.getElem?_range (by omega)])
  rw[hv] at hb1
  simp only[Option.some.injEq] at hb1
  subst hb1
  exact hb2
 ·cases h
def ReadsG (P:Program) (t:TypeId) (s:SId):Prop:=
 ∀(H:Type) (enc:TypeId×Value→H) (w:World) (spare:Nat→Bool) (held:Bool) (fuel:Nat) (cs:List Value) (x:DataW H×List MemPlace),DataW.trod enc P w 0 spare held fuel t cs=some x→∃y:s.T,RepL noA w [] [] (encA s y) cs
theorem Reads.g {P:Program} {t:TypeId} {s:SId} (h:Reads P t s) (hf:s.flat=true:=by rfl):ReadsG P t s:=fun H enc w spare held fuel cs x hx=>by
 obtain⟨y,rfl⟩:=h H enc w 0 spare held fuel cs x hx
 exact⟨y,by rw[flat_encA s hf];exact repL_scs (encV_one s y)⟩
theorem repM_of {w:World} {a:Addr}:∀{cs:List AV} {vs:List Value} {j:Nat},RepL noA w [] [] cs vs→(∀i v,vs[i]?=some v→w.cell? (a.add (j+i))=some v)→RepM noA w [] [] cs (some a) j
 |[],_,_,_,_=>by simp[RepM]
 |c::cs,vs,j,h1,h2=>by
  simp only[RepL] at h1
  obtain⟨v,r,rfl,hv,hl⟩:=h1
  simp only[RepM]
  refine⟨⟨a,v,rfl,fr_nil _,by simpa using h2 0 v (by simp),hv⟩,repM_of hl fun i u hu=>?_⟩
  have:=h2 (i+1) u (by simpa using hu)
  rwa [show j+1+i=j+(i+1) from by omega]
theorem repM_flat {w:World} {a:Addr} {s:SId}:∀{l:List s.T} {i0:Nat},(∀i y,l[i]?=some y→∃cs,w.cells? 0 (a.add ((i0+i)*s.sz)) s.sz=some cs∧RepL noA w [] [] (encA s y) cs)→RepM noA w [] [] (flatA s l) (some a) (i0*s.sz)
 |[],_,_=>by simp[flatA,RepM]
 |y::l,i0,h=>by
  obtain⟨cs,h0,hr⟩:=h 0 y (by simp)
  rw[Nat.add_zero] at h0
  obtain⟨h1,h2⟩:=cells_get h0
  have e:flatA s (y::l)=encA s y++flatA s l:=by simp[flatA]
  rw[e]
  refine repM_app (repM_of hr fun i v hv=>?_) ?_
  ·have:=h2 i v hv
   rwa [add_add] at this
  ·rw[encA_len,show i0*s.sz+s.sz=(i0+1)*s.sz from by rw[Nat.succ_mul]]
   refine repM_flat fun i z hz=>?_
   have:=h (i+1) z (by simpa using hz)
   rwa [show i0+1+i=i0+(i+1) from by omega]
theorem reads_sliceG {P:Program} {t e:TypeId} {s:SId} (ht:P.underlying t=some (.slice e)) (he:ReadsG P e s) (hc:P.cellsOf e=s.sz)
  {H:Type} {enc:TypeId×Value→H} {w:World} {spare:Nat→Bool} {held:Bool} {fuel:Nat} {cs:List Value} {x:DataW H×List MemPlace} (h:DataW.trod enc P w 0 spare held fuel t cs=some x):
  ∃(v:Value) (l:List s.T),cs=[v]∧Rep noA w [] [] (SV.row s l).g v:=by
 rcases Go.Deep.open_slice ht h with⟨rfl,_⟩|⟨a,len,cap,m,n,D,Pl,rfl,hb,hl,hm,hmm,_,hx⟩
 ·exact⟨_,[],rfl,by simp only[SV.g,Rep];exact⟨none,0,rfl,Nat.le_refl _,by simp[flatA,pureL],by simp[flatA,RepM]⟩⟩
 ·have hlm:len≤m:=by rw[hmm];split<;>omega
  have h1:∀i,i<len→∃y:s.T,∃cs,w.cells? 0 (a.add (i*s.sz)) s.sz=some cs∧RepL noA w [] [] (encA s y) cs:=fun i hi=>by
   obtain⟨cs',k1,k2⟩:=hx i (by omega)
   obtain⟨y,hy⟩:=he _ _ _ _ _ _ _ _ k2
   rw[hc] at k1
   exact⟨y,cs',k1,hy⟩
  obtain⟨f,hf⟩:=Go.Deep.choose_lt h1
  refine⟨_,(List.range len).map f,rfl,?_⟩
  simp only[SV.g,Rep,List.length_map,List.length_range]
  refine⟨some a,cap,rfl,hl,flatA_pure _ _,?_⟩
  have:=repM_flat (w:=w) (a:=a) (s:=s) (l:=(List.range len).map f) (i0:=0) (fun i y hy=>by
   rw[List.getElem?_map] at hy
   obtain⟨j,hj,rfl⟩:=Option.map_eq_some_iff.1 hy
   have hi:i<len:=by
    have:=(List.getElem?_eq_some_iff.1 hj).1
    simpa using this
   rw[List.getElem?_range hi] at hj
   simp only[Option.some.injEq] at hj
   subst hj
   rw[Nat.zero_add]
   exact hf i hi)
  simpa using this
theorem reads_slice {P:Program} {t e:TypeId} {s:SId} (ht:P.underlying t=some (.slice e)) (he:Reads P e s) (hc:P.cellsOf e=s.sz)
  {H:Type} {enc:TypeId×Value→H} {w:World} {spare:Nat→Bool} {held:Bool} {fuel:Nat} {cs:List Value} {x:DataW H×List MemPlace} (h:DataW.trod enc P w 0 spare held fuel t cs=some x) (hf:s.flat=true:=by rfl):
  ∃(v:Value) (l:List s.T),cs=[v]∧Rep noA w [] [] (SV.row s l).g v:=reads_sliceG ht (he.g hf) hc h
theorem readsG_lst {P:Program} {t e:TypeId} {s:SId} (ht:P.underlying t=some (.slice e)) (he:ReadsG P e s) (hc:P.cellsOf e=s.sz):ReadsG P t (.lst s):=fun H enc w spare held fuel cs x h=>by
 obtain⟨v,l,rfl,hr⟩:=reads_sliceG ht he hc h
 exact⟨l,by simp only[encA,RepL];exact⟨v,[],rfl,hr,rfl⟩⟩
theorem one_of {cs:List Value} {i:Nat} {v:Value} (h:(cs.drop i).take 1=[v]):cs[i]?=some v:=by
 have:((cs.drop i).take 1)[0]?=some v:=by rw[h];rfl
 rw[List.getElem?_take,if_pos (by omega),List.getElem?_drop] at this
 simpa using this
theorem reads_bun {P:Program} {t e:TypeId} (ht:P.underlying t=some (.array 6 e)) (hi:P.underlying e=some (.int .i64)) (hc:P.cellsOf e=1) (hn:P.cellsOf t=6):Reads P t .bun:=fun _ _ _ _ _ _ _ cs _ h=>by
 obtain⟨xs,m,_,_,hl,hxs,hf⟩:=DataW.trod_array ht h
 have get:∀i,i<6→∃n,cs[i]?=some (.int .i64 n):=fun i hi6=>by
  have h1:=hf i hi6
  rw[hc,Nat.mul_one,List.getElem?_eq_getElem (by omega)] at h1
  obtain⟨n,h2,_⟩:=DataW.trod_int hi h1
  exact⟨n,one_of h2⟩
 rw[hn] at hl
 match cs,hl,get with
 |[c0,c1,c2,c3,c4,c5],_,get=>
  obtain⟨n0,h0⟩:=get 0 (by omega)
  obtain⟨n1,h1⟩:=get 1 (by omega)
  obtain⟨n2,h2⟩:=get 2 (by omega)
  obtain⟨n3,h3⟩:=get 3 (by omega)
  obtain⟨n4,h4⟩:=get 4 (by omega)
  obtain⟨n5,h5⟩:=get 5 (by omega)
  simp only[List.getElem?_cons_zero,List.getElem?_cons_succ,Option.some.injEq] at h0 h1 h2 h3 h4 h5
  exact⟨⟨n0,n1,n2,n3,n4,n5⟩,by simp[encV,iv,h0,h1,h2,h3,h4,h5]⟩
theorem reads_off {P:Program} {t b i v:TypeId} {fs:Array Field} (ht:P.underlying t=some (.struct fs)) (hn:P.cellsOf t=8) (h0:(fs[0]?).map (fun f=>(f.type,f.offset))=some (i,0)) (h1:(fs[1]?).map (fun f=>(f.type,f.offset))=some (b,1)) (h2:(fs[2]?).map (fun f=>(f.type,f.offset))=some (v,7))
  (hi:P.underlying i=some (.int .i64)) (hci:P.cellsOf i=1) (hv:P.underlying v=some (.int .i64)) (hcv:P.cellsOf v=1) (hb:Reads P b .bun) (hcb:P.cellsOf b=6) (hsz:fs.size=3):Reads P t .off:=fun _ _ _ _ _ _ _ cs _ h=>by
 obtain⟨xs,m,_,_,hl,hxs,hf⟩:=DataW.trod_struct ht h
 rw[hn] at hl
 obtain⟨f0,e0,k0⟩:=Option.map_eq_some_iff.1 h0
 obtain⟨f1,e1,k1⟩:=Option.map_eq_some_iff.1 h1
 obtain⟨f2,e2,k2⟩:=Option.map_eq_some_iff.1 h2
 simp only[Prod.mk.injEq] at k0 k1 k2
 have g0:=hf 0 f0 e0
 have g1:=hf 1 f1 e1
 have g2:=hf 2 f2 e2
 rw[k0.1,k0.2,hci,List.getElem?_eq_getElem (by omega)] at g0
 rw[k1.1,k1.2,hcb,List.getElem?_eq_getElem (by omega)] at g1
 rw[k2.1,k2.2,hcv,List.getElem?_eq_getElem (by omega)] at g2
 obtain⟨n0,q0,_⟩:=DataW.trod_int hi g0
 obtain⟨y,q1⟩:=hb _ _ _ _ _ _ _ _ _ g1
 obtain⟨n2,q2,_⟩:=DataW.trod_int hv g2
 match cs,hl with
 |[c0,c1,c2,c3,c4,c5,c6,c7],_=>
  simp[encV] at q0 q1 q2
  exact⟨⟨n0,y,n2⟩,by simp[encV,iv,q0,q1,q2]⟩
theorem reads_prob {P:Program} {t b k o:TypeId} {fs:Array Field} (ht:P.underlying t=some (.struct fs)) (hn:P.cellsOf t=20) (hsz:fs.size=5)
  (h0:(fs[0]?).map (fun f=>(f.type,f.offset))=some (b,0)) (h1:(fs[1]?).map (fun f=>(f.type,f.offset))=some (b,6)) (h2:(fs[2]?).map (fun f=>(f.type,f.offset))=some (b,12))
  (h3:(fs[3]?).map (fun f=>(f.type,f.offset))=some (k,18)) (h4:(fs[4]?).map (fun f=>(f.type,f.offset))=some (o,19))
  (hb:Reads P b .bun) (hcb:P.cellsOf b=6) {e:TypeId} (hk:P.underlying k=some (.slice e)) (hke:Reads P e (.i .i64)) (hce:P.cellsOf e=1) (hck:P.cellsOf k=1)
  {f:TypeId} (ho:P.underlying o=some (.slice f)) (hoe:Reads P f .off) (hcf:P.cellsOf f=8) (hco:P.cellsOf o=1)
  {H:Type} {enc:TypeId×Value→H} {w:World} {spare:Nat→Bool} {held:Bool} {fuel:Nat} {cs:List Value} {x:DataW H×List MemPlace} (h:DataW.trod enc P w 0 spare held fuel t cs=some x):
  ∃p:Prob,RepL noA w [] [] (gL p.ss) cs:=by
 obtain⟨xs,m,_,_,hl,hxs,hf⟩:=DataW.trod_struct ht h
 rw[hn] at hl
 obtain⟨f0,e0,k0⟩:=Option.map_eq_some_iff.1 h0
 obtain⟨f1,e1,k1⟩:=Option.map_eq_some_iff.1 h1
 obtain⟨f2,e2,k2⟩:=Option.map_eq_some_iff.1 h2
 obtain⟨f3,e3,k3⟩:=Option.map_eq_some_iff.1 h3
 obtain⟨f4,e4,k4⟩:=Option.map_eq_some_iff.1 h4
 simp only[Prod.mk.injEq] at k0 k1 k2 k3 k4
 have g0:=hf 0 f0 e0
 have g1:=hf 1 f1 e1
 have g2:=hf 2 f2 e2
 have g3:=hf 3 f3 e3
 have g4:=hf 4 f4 e4
 rw[k0.1,k0.2,hcb,List.getElem?_eq_getElem (by omega)] at g0
 rw[k1.1,k1.2,hcb,List.getElem?_eq_getElem (by omega)] at g1
 rw[k2.1,k2.2,hcb,List.getElem?_eq_getElem (by omega)] at g2
 rw[k3.1,k3.2,hck,List.getElem?_eq_getElem (by omega)] at g3
 rw[k4.1,k4.2,hco,List.getElem?_eq_getElem (by omega)] at g4
 obtain⟨y0,q0⟩:=hb _ _ _ _ _ _ _ _ _ g0
 obtain⟨y1,q1⟩:=hb _ _ _ _ _ _ _ _ _ g1
 obtain⟨y2,q2⟩:=hb _ _ _ _ _ _ _ _ _ g2
 obtain⟨v3,l3,q3,r3⟩:=reads_slice hk hke hce g3
 obtain⟨v4,l4,q4,r4⟩:=reads_slice ho hoe hcf g4
 match cs,hl with
 |[c0,c1,c2,c3,c4,c5,c6,c7,c8,c9,c10,c11,c12,c13,c14,c15,c16,c17,c18,c19],_=>
  simp[encV,iv] at q0 q1 q2 q3 q4
  obtain⟨rfl,rfl,rfl,rfl,rfl,rfl⟩:=q0
  obtain⟨rfl,rfl,rfl,rfl,rfl,rfl⟩:=q1
  obtain⟨rfl,rfl,rfl,rfl,rfl,rfl⟩:=q2
  subst q3
  subst q4
  refine⟨⟨y0,y1,y2,l3,l4⟩,?_⟩
  have hi:∀n:Int,Rep noA w [] [] (SV.si .i64 n).g (.int .i64 n):=fun n=>by simp[SV.g,Rep,Value.oneCell']
  simp only[Prob.ss,gL,RepL]
  exact⟨_,_,rfl,hi _,_,_,rfl,hi _,_,_,rfl,hi _,_,_,rfl,hi _,_,_,rfl,hi _,_,_,rfl,hi _,_,_,rfl,hi _,_,_,rfl,hi _,_,_,rfl,hi _,_,_,rfl,hi _,_,_,rfl,hi _,_,_,rfl,hi _,
   _,_,rfl,hi _,_,_,rfl,hi _,_,_,rfl,hi _,_,_,rfl,hi _,_,_,rfl,hi _,_,_,rfl,hi _,_,_,rfl,r3,_,_,rfl,r4,rfl⟩
theorem reads_alloc {P:Program} {t k v:TypeId} {fs:Array Field} (ht:P.underlying t=some (.struct fs)) (hn:P.cellsOf t=2) (hsz:fs.size=2)
  (h0:(fs[0]?).map (fun f=>(f.type,f.offset))=some (k,0)) (h1:(fs[1]?).map (fun f=>(f.type,f.offset))=some (v,1))
  {e:TypeId} (hk:P.underlying k=some (.slice e)) (hke:Reads P e (.i .i64)) (hce:P.cellsOf e=1) (hck:P.cellsOf k=1) (hv:P.underlying v=some (.int .i64)) (hcv:P.cellsOf v=1)
  {H:Type} {enc:TypeId×Value→H} {w:World} {spare:Nat→Bool} {held:Bool} {fuel:Nat} {cs:List Value} {x:DataW H×List MemPlace} (h:DataW.trod enc P w 0 spare held fuel t cs=some x):
  ∃a:Alloc,RepL noA w [] [] (gL [.row (.i .i64) a.chosen,.si .i64 a.value]) cs:=by
 obtain⟨xs,m,_,_,hl,hxs,hf⟩:=DataW.trod_struct ht h
 rw[hn] at hl
 obtain⟨f0,e0,k0⟩:=Option.map_eq_some_iff.1 h0
 obtain⟨f1,e1,k1⟩:=Option.map_eq_some_iff.1 h1
 simp only[Prod.mk.injEq] at k0 k1
 have g0:=hf 0 f0 e0
 have g1:=hf 1 f1 e1
 rw[k0.1,k0.2,hck,List.getElem?_eq_getElem (by omega)] at g0
 rw[k1.1,k1.2,hcv,List.getElem?_eq_getElem (by omega)] at g1
 obtain⟨v0,l0,q0,r0⟩:=reads_slice hk hke hce g0
 obtain⟨n1,q1,_⟩:=DataW.trod_int hv g1
 match cs,hl with
 |[c0,c1],_=>
  simp at q0 q1
  subst q0
  subst q1
  refine⟨⟨l0,n1⟩,?_⟩
  simp only[gL,RepL]
  exact⟨_,_,rfl,r0,_,_,rfl,by simp[SV.g,Rep,Value.oneCell'],rfl⟩
theorem agg_cells {P:Program} {w:World} {r:Reach} {base:Nat} {t:TypeId} {v:Value} {fs:Array Field} (ht:P.underlying t=some (.struct fs)) (h:Value.okWide P w r base t v):∃cs,v= .agg cs∧v.cells.toList=cs.toList:=by
 unfold Value.okWide at h
 rw[ht] at h
 obtain⟨cs,rfl,_⟩:=h
 exact⟨cs,rfl,rfl⟩
theorem cell_slice {P:Program} {w:World} {r:Reach} {base:Nat} {t e:TypeId} {v:Value} (ht:P.underlying t=some (.slice e)) (h:Value.okWide P w r base t v):v.cells.toList=[v]:=by
 cases v with
 |agg cs=>simp[Value.okWide,ht,Cell.okWide,Cell.ok] at h
 |_=>rfl
theorem cell_int {P:Program} {w:World} {r:Reach} {base:Nat} {t:TypeId} {k:IntKind} {v:Value} (ht:P.underlying t=some (.int k)) (h:Value.okWide P w r base t v):v.cells.toList=[v]:=by
 cases v with
 |agg cs=>simp[Value.okWide,ht,Cell.okWide,Cell.ok] at h
 |_=>rfl
theorem stays_all {H:Type} {enc:TypeId×Value→H} {P:Program} (hl:laidOutB P=true) {W W':World} (hb:Below W.heap.size W W') {sp:Nat→Bool}:
  ∀{ts:List TypeId} {vs:List Value} {ds:List (DataW H)} {ps:List MemPlace},DataW.TrodAll enc P W 0 (fun _=>true) true ts vs ds ps→(∀t∈ts,P.readableRec t=true∧t<P.types.size)→(∀p∈ps,p.block<W.heap.size)→(∀p∈ps,sp p.block=true)→
   DataW.TrodAll enc P W' 0 sp true ts vs ds ps
 |[],_,_,_,h,_,_,_=>by
  obtain⟨rfl,rfl,rfl⟩:=trodAll_nil h
  exact rfl
 |t::ts,_,_,_,h,ht,hlt,hs=>by
  obtain⟨v,vs,d,ds,a,b,rfl,rfl,rfl,h1,h2⟩:=trodAll_cons h
  obtain⟨r1,r2⟩:=ht t (by simp)
  exact⟨a,b,WideElems.Trod_stays hl r1 r2 h1 (fun p hp=>hb.same (hlt p (by simp[hp]))) (fun p hp=>hs p (by simp[hp])),
   stays_all hl hb h2 (fun u hu=>ht u (by simp[hu])) (fun p hp=>hlt p (by simp[hp])) (fun p hp=>hs p (by simp[hp])),rfl⟩
theorem below_of_ext {W W':World} {σ':Sig} {o':Store} (h:Ext W [] [] W' σ' o'):Below W.heap.size W W':=
 ⟨h.os,h.tape,h.output,h.size,fun k hk=>(h.blk k hk (by rintro⟨i,c,hh⟩;simp at hh)).1⟩
@[simp] theorem same_si_si {k k':IntKind} {a b:Int}:(SV.si k a).same (.si k' b)↔k=k'∧a=b:=by simp[SV.same,SV.g]
@[simp] theorem same_il_si {k k':IntKind} {a b:Int}:(SV.il k a).same (.si k' b)↔k=k'∧a=b:=by simp[SV.same,SV.g]
@[simp] theorem same_sb_sb {a b:Bool}:(SV.sb a).same (.sb b)↔a=b:=by simp[SV.same,SV.g]
@[simp] theorem same_bl_sb {a b:Bool}:(SV.bl a).same (.sb b)↔a=b:=by simp[SV.same,SV.g]
@[simp] theorem same_row {s:SId} {a b:List s.T}:(SV.row s a).same (.row s b)↔a=b:=by
 constructor
 ·intro h;simp only[SV.same,SV.g,AV.sl.injEq] at h;exact flatA_inj s h.1 h.2
 ·rintro rfl;rfl
@[simp] theorem same_si_il {k k':IntKind} {a b:Int}:(SV.si k a).same (.il k' b)↔k=k'∧a=b:=by simp[SV.same,SV.g]
@[simp] theorem same_il_il {k k':IntKind} {a b:Int}:(SV.il k a).same (.il k' b)↔k=k'∧a=b:=by simp[SV.same,SV.g]
theorem same_rfl {v:SV}:v.same v↔True:=iff_true_intro rfl
theorem osame_rfl {v:SObj}:v.same v↔True:=iff_true_intro rfl
theorem same_tup2 {a b c d:SV}:(SV.tup [a,b]).same (.tup [c,d])↔a.same c∧b.same d:=by simp[SV.same,SV.g,gL]
theorem same_tup3 {a b c d e f:SV}:(SV.tup [a,b,c]).same (.tup [d,e,f])↔a.same d∧b.same e∧c.same f:=by simp[SV.same,SV.g,gL]
theorem same_nil {s t:SId}:(SV.row s []).same (.row t [])↔True:=iff_true_intro (by simp[SV.same,SV.g,flatA])
theorem same_row_nil {s:SId} {l:List s.T}:(SV.row (.i .i64) []).same (.row s l)↔l=[]:=by
 constructor
 ·intro h;simp only[SV.same,SV.g,AV.sl.injEq] at h;simpa using h.1.symm
 ·rintro rfl;exact same_nil.2 trivial
theorem bun_eq {a b:Bun}:a=b↔a.a0=b.a0∧a.a1=b.a1∧a.a2=b.a2∧a.a3=b.a3∧a.a4=b.a4∧a.a5=b.a5:=by
 obtain⟨a0,a1,a2,a3,a4,a5⟩:=a
 obtain⟨b0,b1,b2,b3,b4,b5⟩:=b
 simp only[Bun.mk.injEq]
@[simp] theorem inR_i64 {n:Int}:inR .i64 n↔ -9223372036854775808≤n∧n≤9223372036854775807:=Iff.rfl
theorem vcs:(∀{p:Prop} [inst:Decidable p],(decide p=true)=p)∧(∀{p:Prop} {x:Decidable p},decide p=false↔¬p)∧(∀{k k':IntKind} {a b:Int},(SV.il k a).same (SV.si k' b)↔k=k'∧a=b)∧(∀{k k':IntKind} {a b:Int},(SV.si k a).same (SV.si k' b)↔k=k'∧a=b)∧(∀{k k':IntKind} {a b:Int},(SV.si k a).same (SV.il k' b)↔k=k'∧a=b)∧(∀{k k':IntKind} {a b:Int},(SV.il k a).same (SV.il k' b)↔k=k'∧a=b)∧(∀{a b:Bool},(SV.sb a).same (SV.sb b)↔a=b)∧(∀{a b:Bool},(SV.bl a).same (SV.sb b)↔a=b)∧(∀{s:SId} {a b:List s.T},(SV.row s a).same (SV.row s b)↔a=b)∧(∀{a b c d:SV},(SV.tup [a,b]).same (SV.tup [c,d])↔a.same c∧b.same d)∧(∀{a b c d e f:SV},(SV.tup [a,b,c]).same (SV.tup [d,e,f])↔a.same d∧b.same e∧c.same f)∧(∀{s t:SId},(SV.row s []).same (SV.row t [])↔True)∧(∀{s:SId} {l:List s.T},(SV.row (SId.i IntKind.i64) []).same (SV.row s l)↔l=[])∧(∀{v:SV},v.same v↔True)∧(∀{v:SObj},v.same v↔True)∧(∀{n:Int},inR IntKind.i64 n↔ -9223372036854775808≤n∧n≤9223372036854775807)∧(∀p:Prop,(True∧p)=p)∧(∀p:Prop,(p∧True)=p)∧(∀a b:Bool,((a&&b)=true)=(a=true∧b=true))∧(∀b:Bool,((!b)=true)=(b=false))∧(∀b:Bool,((!b)=false)=(b=true)):=
 ⟨decide_eq_true_eq,decide_eq_false_iff_not,same_il_si,same_si_si,same_si_il,same_il_il,same_sb_sb,same_bl_sb,same_row,same_tup2,same_tup3,same_nil,same_row_nil,same_rfl,osame_rfl,inR_i64,true_and,and_true,Bool.and_eq_true,Bool.not_eq_true',Bool.not_eq_false'⟩
def Bun.ok (b:Bun):Bool:=[b.a0,b.a1,b.a2,b.a3,b.a4,b.a5].all fun n=>decide (0≤n)&&decide (n≤4)
theorem Bun.ok_iff {b:Bun}:b.ok=true↔(0≤b.a0∧b.a0≤4)∧(0≤b.a1∧b.a1≤4)∧(0≤b.a2∧b.a2≤4)∧(0≤b.a3∧b.a3≤4)∧(0≤b.a4∧b.a4≤4)∧(0≤b.a5∧b.a5≤4):=by
 simp[Bun.ok]
def r146:SCtr:=⟨52,Bun,.one (codE .bun),fun _=>True,fun b=> .si .i64 (if b.ok=true then 0 else 4)⟩
theorem h146:Holds Try.prog r146:=by
 refine con (L:=[]) r146 F146 (fun _ _=> .unroll 7) (OwnOK.none _) (by simp) (by kernel_rfl) (by kernel_rfl) (fun _=>rfl) ?_
 intro b _
 refine vcOf (let z0:=decide (b.a0<(0:Int));let z1:=SV.si .i64 (if Bun.ok b=true then(0:Int) else(4:Int));let z2:=decide ((4:Int)<b.a0);let z3:=decide (b.a1<(0:Int));let z4:=decide ((4:Int)<b.a1);let z5:=decide (b.a2<(0:Int));let z6:=decide ((4:Int)<b.a2);let z7:=decide (b.a3<(0:Int));let z8:=decide ((4:Int)<b.a3);let z9:=decide (b.a4<(0:Int));let z10:=decide ((4:Int)<b.a4);let z11:=decide (b.a5<(0:Int));let z12:=decide ((4:Int)<b.a5);(z0=true→(SV.il .i64 4).same z1)∧(z0=false→(z2=true→(SV.il .i64 4).same z1)∧(z2=false→(z3=true→(SV.il .i64 4).same z1)∧(z3=false→(z4=true→(SV.il .i64 4).same z1)∧(z4=false→(z5=true→(SV.il .i64 4).same z1)∧(z5=false→(z6=true→(SV.il .i64 4).same z1)∧(z6=false→(z7=true→(SV.il .i64 4).same z1)∧(z7=false→(z8=true→(SV.il .i64 4).same z1)∧(z8=false→(z9=true→(SV.il .i64 4).same z1)∧(z9=false→(z10=true→(SV.il .i64 4).same z1)∧(z10=false→(z11=true→(SV.il .i64 4).same z1)∧(z11=false→(z12=true→(SV.il .i64 4).same z1)∧(z12=false→(SV.il .i64 0).same z1))))))))))))) (by kernel_rfl) ?_
 conv=>zeta
 have hb:=@Bun.ok_iff b
 by_cases h:b.ok=true
 ·have h2:=hb.1 h
  simp only[decide_eq_true_eq,decide_eq_false_iff_not,same_il_si,eq_self,true_and,h,if_true]
  repeat' (first|refine And.intro ?_ ?_|intro _)
  all_goals first|trivial|omega|(exfalso;omega)
 ·have h2:=mt hb.2 h
  simp only[decide_eq_true_eq,decide_eq_false_iff_not,same_il_si,eq_self,true_and,h]
  simp only[Bool.false_eq_true,if_false]
  repeat' (first|refine And.intro ?_ ?_|intro _)
  all_goals first|trivial|omega|(exfalso;omega)
def Bun.sub (a b:Bun):Bun:=⟨a.a0 - b.a0,a.a1 - b.a1,a.a2 - b.a2,a.a3 - b.a3,a.a4 - b.a4,a.a5 - b.a5⟩
def Bun.meet (a b:Bun):Bun:=⟨min a.a0 b.a0,min a.a1 b.a1,min a.a2 b.a2,min a.a3 b.a3,min a.a4 b.a4,min a.a5 b.a5⟩
def Bun.le (a b:Bun):Bool:=decide (a.a0≤b.a0)&&decide (a.a1≤b.a1)&&decide (a.a2≤b.a2)&&decide (a.a3≤b.a3)&&decide (a.a4≤b.a4)&&decide (a.a5≤b.a5)
theorem Bun.le_iff {a b:Bun}:a.le b=true↔a.a0≤b.a0∧a.a1≤b.a1∧a.a2≤b.a2∧a.a3≤b.a3∧a.a4≤b.a4∧a.a5≤b.a5:=by
 simp[Bun.le,and_assoc]
theorem min_left {x y:Int}:min x y=x↔x≤y:=by
 rw[Int.min_def]
 split<;>omega
theorem same_agg {a b:List SV}:(SV.agg a).same (.agg b)↔gL a=gL b:=by simp[SV.same,SV.g]
def r163:SCtr:=⟨74,Bun×Bun,.cons (codE .bun) (.one (codE .bun)),fun _=>True,fun a=> .agg (encS .bun (a.1.meet a.2))⟩
theorem h163:Holds Try.prog r163:=by
 refine con (L:=[]) r163 F163 (fun _=>fun _=> .unroll 7) (OwnOK.none _) (by simp) (by kernel_rfl) (by kernel_rfl) (fun _=>rfl) ?_
 rintro⟨a,b⟩ _
 refine vcOf ((SV.agg [SV.si .i64 (min a.a0 b.a0),SV.si .i64 (min a.a1 b.a1),SV.si .i64 (min a.a2 b.a2),SV.si .i64 (min a.a3 b.a3),SV.si .i64 (min a.a4 b.a4),SV.si .i64 (min a.a5 b.a5)]).same (SV.agg [SV.si .i64 (a.meet b).a0,SV.si .i64 (a.meet b).a1,SV.si .i64 (a.meet b).a2,SV.si .i64 (a.meet b).a3,SV.si .i64 (a.meet b).a4,SV.si .i64 (a.meet b).a5])) (by kernel_rfl) ?_
 simp only[vcs,same_agg,gL,SV.g,Bun.meet,and_self]
def r144:SCtr:=⟨55,Bun×Bun,.cons (codE .bun) (.one (codE .bun)),fun _=>True,fun a=> .sb (a.1.le a.2)⟩
theorem h144:Holds Try.prog r144:=by
 refine con (L:=[r163]) r144 F144 (fun _=>fun _=> .unroll 7) (OwnOK.none _) (by simpa using h163) (by kernel_rfl) (by kernel_rfl) (fun _=>rfl) ?_
 rintro⟨a,b⟩ _
 refine vcOf (True∧(SV.sb (decide ((a.meet b).a0=a.a0)&&(decide ((a.meet b).a1=a.a1)&&(decide ((a.meet b).a2=a.a2)&&(decide ((a.meet b).a3=a.a3)&&(decide ((a.meet b).a4=a.a4)&&(decide ((a.meet b).a5=a.a5)&&true))))))).same (SV.sb (a.le b))) (by kernel_rfl) ?_
 simp only[vcs,Bun.meet]
 rw[Bool.eq_iff_iff]
 simp only[Bool.and_eq_true,decide_eq_true_eq,Bun.le_iff,Bool.and_true,min_left]
structure L8 where
 (l0 l1 l2 l3 l4 l5 l6 l7:List Off)
structure Sol where
 p:Prob
 ls:L8
 es:List (Sit×Int)
def byB (p:Prob) (j:Int):List Off:=p.offers.filter fun x=>decide (x.bidder=j)
def L8.of (p:Prob):L8:=⟨byB p 0,byB p 1,byB p 2,byB p 3,byB p 4,byB p 5,byB p 6,byB p 7⟩
def Sol.o (s:Sol):SStore:=
 [.cells [.si .i64 s.p.supply.a0,.si .i64 s.p.supply.a1,.si .i64 s.p.supply.a2,.si .i64 s.p.supply.a3,.si .i64 s.p.supply.a4,.si .i64 s.p.supply.a5,
  .si .i64 s.p.opn.a0,.si .i64 s.p.opn.a1,.si .i64 s.p.opn.a2,.si .i64 s.p.opn.a3,.si .i64 s.p.opn.a4,.si .i64 s.p.opn.a5,
  .si .i64 s.p.cls.a0,.si .i64 s.p.cls.a1,.si .i64 s.p.cls.a2,.si .i64 s.p.cls.a3,.si .i64 s.p.cls.a4,.si .i64 s.p.cls.a5,
  .row (.i .i64) s.p.classes,.row .off s.p.offers,.row .off s.ls.l0,.row .off s.ls.l1,.row .off s.ls.l2,.row .off s.ls.l3,.row .off s.ls.l4,.row .off s.ls.l5,.row .off s.ls.l6,.row .off s.ls.l7,.mp 1] 99999 29 false,
  .map .sit (.i .i64) true s.es ([0,0,0,0,0,0,0,0,0,0,0,0,0],true) true]
def oc (c w cl j k:Int):Int:=if j<k∧(c=0∨c=cl) then 0 else w
def clOf (p:Prob) (x:Off):Int:=nthD p.classes x.bidder.toNat 0
def outK (p:Prob) (x:Off) (k:Int):Bun:=⟨oc p.cls.a0 x.want.a0 (clOf p x) 0 k,oc p.cls.a1 x.want.a1 (clOf p x) 1 k,oc p.cls.a2 x.want.a2 (clOf p x) 2 k,oc p.cls.a3 x.want.a3 (clOf p x) 3 k,oc p.cls.a4 x.want.a4 (clOf p x) 4 k,oc p.cls.a5 x.want.a5 (clOf p x) 5 k⟩
def outS (p:Prob) (x:Off):Bun:=outK p x 6
def Sit.b (a:Sit):Prop:=a.left.ok=true∧a.opn.ok=true
def fitsAt (p:Prob) (a:Sit) (x:Off):Bool:=x.want.le a.left&&(outS p x).le a.opn
def nextAt (p:Prob) (a:Sit) (x:Off):Sit:=⟨binK.andNotI .i64 a.members (2^x.bidder.toNat),a.left.sub x.want,a.opn.sub (outS p x)⟩
def Sit.zero:Sit:=⟨0,Bun.zero,Bun.zero⟩
theorem oc_bd {c w cl j k:Int} (h:0≤w∧w≤4):0≤oc c w cl j k∧oc c w cl j k≤4:=by
 unfold oc
 split<;>omega
theorem out_ok {p:Prob} {x:Off} (h:x.want.ok=true):(outS p x).ok=true:=by
 have h:=Bun.ok_iff.1 h
 exact Bun.ok_iff.2 ⟨oc_bd h.1,oc_bd h.2.1,oc_bd h.2.2.1,oc_bd h.2.2.2.1,oc_bd h.2.2.2.2.1,oc_bd h.2.2.2.2.2⟩
end Go.Vi
namespace Go.Proofs.Ytoifpgeocpjneaa
open Go.ChangeShapes Go.WideShapes Go.ChangeAt Go.RowKit Go.Vi
theorem Try.own:ownKnob Try.prog.godebug=none:=by kernel_rfl
theorem Try.laidOut:laidOutB Try.prog=true:=by kernel_rfl
theorem rd_int:Reads Try.prog 3 (.i .i64):=reads_int Try.underlying3
theorem rd_bun:Reads Try.prog 23 .bun:=reads_bun Try.underlying23 Try.underlying3 (by kernel_rfl) (by kernel_rfl)
theorem rd_off:Reads Try.prog 48 .off:=reads_off Try.underlying48 (by kernel_rfl) rfl rfl rfl Try.underlying3 (by kernel_rfl) Try.underlying2 (by kernel_rfl) rd_bun (by kernel_rfl) rfl
theorem rd_prob {H:Type} {enc:TypeId×Value→H} {w:World} {spare:Nat→Bool} {held:Bool} {fuel:Nat} {cs:List Value} {x:DataW H×List MemPlace} (h:DataW.trod enc Try.prog w 0 spare held fuel 27 cs=some x):
  ∃p:Prob,RepL noA w [] [] (gL p.ss) cs:=
 reads_prob Try.underlying27 (by kernel_rfl) rfl rfl rfl rfl rfl rfl rd_bun (by kernel_rfl) Try.underlying24 rd_int (by kernel_rfl) (by kernel_rfl) Try.underlying25 rd_off (by kernel_rfl) (by kernel_rfl) h
theorem law_calls {f:FuncId} {args:List SV} (h:CallO Try.prog f (gL args) [] (SV.sb true).g []) {W:World} {vs:List Value} (hr:RepL noA W [] [] (gL args) vs):
  Calls Try.prog f vs.toArray W fun e W'=>e= .returned (.bool true)∧Below W.heap.size W W':=by
 refine(h noA W [] vs (simO_nil W (fun b hb=>hb.elim)) hr).mono ?_
 rintro e W' ⟨u,σ',rfl,_,hu,hx⟩
 simp only[SV.g,Rep] at hu
 exact⟨by rw[hu.1],below_of_ext hx⟩
theorem rep_int {W:World} (n:Int):Rep noA W [] [] ((codI .i64).put n).g (.int .i64 n):=by
 simp[codI,SV.g,Rep,Value.oneCell']
end Go.Proofs.Ytoifpgeocpjneaa
namespace Go.Vi
open Go.ChangeShapes Go.WideShapes Go.RowKit
def ReadsQ (P:Program) (t:TypeId) (s:SId) (Q:s.T→Prop):Prop:=
 ∀(H:Type) (enc:TypeId×Value→H) (w:World) (spare:Nat→Bool) (held:Bool) (fuel:Nat) (cs:List Value) (x:DataW H×List MemPlace),DataW.trod enc P w 0 spare held fuel t cs=some x→∃y:s.T,Q y∧RepL noA w [] [] (encA s y) cs
theorem ReadsG.q {P:Program} {t:TypeId} {s:SId} (h:ReadsG P t s):ReadsQ P t s fun _=>True:=fun H enc w spare held fuel cs x hx=>by
 obtain⟨y,hy⟩:=h H enc w spare held fuel cs x hx
 exact⟨y,trivial,hy⟩
theorem readsQ_int {P:Program} {t:TypeId} {k:IntKind} (ht:P.underlying t=some (.int k)):ReadsQ P t (.i k) fun n=>k.min≤(show Int from n)∧(show Int from n)≤k.max:=fun _ _ _ _ _ _ cs _ h=>by
 obtain⟨n,rfl,_,hw⟩:=DataW.trod_int ht h
 simp only[Lit.wf,Bool.and_eq_true,decide_eq_true_eq] at hw
 exact⟨n,hw,by simp[encA,encV,RepL,Rep,Value.oneCell']⟩
theorem reads_sliceQ {P:Program} {t e:TypeId} {s:SId} {Q:s.T→Prop} (ht:P.underlying t=some (.slice e)) (he:ReadsQ P e s Q) (hc:P.cellsOf e=s.sz)
  {H:Type} {enc:TypeId×Value→H} {w:World} {spare:Nat→Bool} {held:Bool} {fuel:Nat} {cs:List Value} {x:DataW H×List MemPlace} (h:DataW.trod enc P w 0 spare held fuel t cs=some x):
  ∃(v:Value) (l:List s.T),cs=[v]∧l.length≤9223372036854775807∧(∀y∈l,Q y)∧Rep noA w [] [] (SV.row s l).g v:=by
 rcases Go.Deep.open_slice ht h with⟨rfl,_⟩|⟨a,len,cap,m,n,D,Pl,rfl,hb,hl,hm,hmm,_,hx⟩
 ·exact⟨_,[],rfl,by simp,by simp,by simp only[SV.g,Rep];exact⟨none,0,rfl,Nat.le_refl _,by simp[flatA,pureL],by simp[flatA,RepM]⟩⟩
 ·have hlm:len≤m:=by rw[hmm];split<;>omega
  have h1:∀i,i<len→∃y:s.T,∃cs,Q y∧w.cells? 0 (a.add (i*s.sz)) s.sz=some cs∧RepL noA w [] [] (encA s y) cs:=fun i hi=>by
   obtain⟨cs',k1,k2⟩:=hx i (by omega)
   obtain⟨y,hq,hy⟩:=he _ _ _ _ _ _ _ _ k2
   rw[hc] at k1
   exact⟨y,cs',hq,k1,hy⟩
  obtain⟨f,hf⟩:=Go.Deep.choose_lt h1
  refine⟨_,(List.range len).map f,rfl,?_,?_,?_⟩
  ·rw[List.length_map,List.length_range]
   unfold maxLen at hm
   omega
  ·intro y hy
   obtain⟨i,hi,rfl⟩:=List.mem_map.1 hy
   obtain⟨_,hq,_⟩:=hf i (List.mem_range.1 hi)
   exact hq
  simp only[SV.g,Rep,List.length_map,List.length_range]
  refine⟨some a,cap,rfl,hl,flatA_pure _ _,?_⟩
  have:=repM_flat (w:=w) (a:=a) (s:=s) (l:=(List.range len).map f) (i0:=0) (fun i y hy=>by
   rw[List.getElem?_map] at hy
   obtain⟨j,hj,rfl⟩:=Option.map_eq_some_iff.1 hy
   have hi:i<len:=by
    have:=(List.getElem?_eq_some_iff.1 hj).1
    simpa using this
   rw[List.getElem?_range hi] at hj
   simp only[Option.some.injEq] at hj
   subst hj
   rw[Nat.zero_add]
   obtain⟨cs,_,k⟩:=hf i hi
   exact⟨cs,k⟩)
  simpa using this
theorem readsQ_lst {P:Program} {t e:TypeId} {s:SId} {Q:s.T→Prop} (ht:P.underlying t=some (.slice e)) (he:ReadsQ P e s Q) (hc:P.cellsOf e=s.sz):
  ReadsQ P t (.lst s) fun l=>(show List s.T from l).length≤9223372036854775807∧∀y∈(show List s.T from l),Q y:=fun H enc w spare held fuel cs x h=>by
 obtain⟨v,l,rfl,hl,hq,hr⟩:=reads_sliceQ ht he hc h
 exact⟨l,⟨hl,hq⟩,by simp only[encA,RepL];exact⟨v,[],rfl,hr,rfl⟩⟩
abbrev fracId:SId:=.pair .b (.pair (.lst (.i .u32)) (.lst (.i .u32)))
def digR (l:List Int):Prop:=∀d∈l,0≤d∧d<4294967296
def fracQ (x:Bool×(List Int×List Int)):Prop:=digR x.2.1∧digR x.2.2
theorem readsQ_frac {P:Program} {t b n e:TypeId} {fs:Array Field} (ht:P.underlying t=some (.struct fs)) (hn:P.cellsOf t=3) (hsz:fs.size=3)
  (h0:(fs[0]?).map (fun f=>(f.type,f.offset))=some (b,0)) (h1:(fs[1]?).map (fun f=>(f.type,f.offset))=some (n,1)) (h2:(fs[2]?).map (fun f=>(f.type,f.offset))=some (n,2))
  (hb:P.underlying b=some .bool) (hcb:P.cellsOf b=1) (hs:P.underlying n=some (.slice e)) (hcn:P.cellsOf n=1) (he:P.underlying e=some (.int .u32)) (hce:P.cellsOf e=1):
  ReadsQ P t fracId fracQ:=fun H enc w spare held fuel cs x h=>by
 obtain⟨xs,m,_,_,hl,hxs,hf⟩:=DataW.trod_struct ht h
 rw[hn] at hl
 obtain⟨f0,e0,k0⟩:=Option.map_eq_some_iff.1 h0
 obtain⟨f1,e1,k1⟩:=Option.map_eq_some_iff.1 h1
 obtain⟨f2,e2,k2⟩:=Option.map_eq_some_iff.1 h2
 simp only[Prod.mk.injEq] at k0 k1 k2
 have g0:=hf 0 f0 e0
 have g1:=hf 1 f1 e1
 have g2:=hf 2 f2 e2
 rw[k0.1,k0.2,hcb,List.getElem?_eq_getElem (by omega)] at g0
 rw[k1.1,k1.2,hcn,List.getElem?_eq_getElem (by omega)] at g1
 rw[k2.1,k2.2,hcn,List.getElem?_eq_getElem (by omega)] at g2
 obtain⟨b0,q0,_⟩:=DataW.trod_bool hb g0
 obtain⟨v1,l1,q1,n1,d1,r1⟩:=reads_sliceQ hs (readsQ_int he) hce g1
 obtain⟨v2,l2,q2,n2,d2,r2⟩:=reads_sliceQ hs (readsQ_int he) hce g2
 match cs,hl with
 |[c0,c1,c2],_=>
  simp at q0 q1 q2
  subst q0
  subst q1
  subst q2
  refine⟨(b0,(l1,l2)),⟨fun d hd=>?_,fun d hd=>?_⟩,?_⟩
  ·have:=d1 d hd
   have h3:IntKind.u32.min=0:=rfl
   have h4:IntKind.u32.max=4294967295:=rfl
   rw[h3,h4] at this
   have h5:(0:Int)≤d∧d≤4294967295:=this
   omega
  ·have:=d2 d hd
   have h3:IntKind.u32.min=0:=rfl
   have h4:IntKind.u32.max=4294967295:=rfl
   rw[h3,h4] at this
   have h5:(0:Int)≤d∧d≤4294967295:=this
   omega
  ·have e:encA fracId (b0,(l1,l2))=[AV.sc (.bool b0),(SV.row (.i .u32) l1).g,(SV.row (.i .u32) l2).g]:=by
    simp only[encA,encV,SV.g,flatA,List.map_cons,List.map_nil,List.cons_append,List.nil_append]
   rw[e]
   simp only[RepL]
   exact⟨_,_,rfl,by simp[Rep,Value.oneCell'],_,_,rfl,r1,_,_,rfl,r2,rfl⟩
theorem readsQ_alloc {P:Program} {t k v:TypeId} {fs:Array Field} (ht:P.underlying t=some (.struct fs)) (hn:P.cellsOf t=2) (hsz:fs.size=2)
  (h0:(fs[0]?).map (fun f=>(f.type,f.offset))=some (k,0)) (h1:(fs[1]?).map (fun f=>(f.type,f.offset))=some (v,1))
  {e:TypeId} (hk:P.underlying k=some (.slice e)) (hke:P.underlying e=some (.int .i64)) (hce:P.cellsOf e=1) (hck:P.cellsOf k=1) (hv:P.underlying v=some (.int .i64)) (hcv:P.cellsOf v=1)
  {H:Type} {enc:TypeId×Value→H} {w:World} {spare:Nat→Bool} {held:Bool} {fuel:Nat} {cs:List Value} {x:DataW H×List MemPlace} (h:DataW.trod enc P w 0 spare held fuel t cs=some x):
  ∃a:Alloc,a.chosen.length≤9223372036854775807∧RepL noA w [] [] (gL [.row (.i .i64) a.chosen,.si .i64 a.value]) cs:=by
 obtain⟨xs,m,_,_,hl,hxs,hf⟩:=DataW.trod_struct ht h
 rw[hn] at hl
 obtain⟨f0,e0,k0⟩:=Option.map_eq_some_iff.1 h0
 obtain⟨f1,e1,k1⟩:=Option.map_eq_some_iff.1 h1
 simp only[Prod.mk.injEq] at k0 k1
 have g0:=hf 0 f0 e0
 have g1:=hf 1 f1 e1
 rw[k0.1,k0.2,hck,List.getElem?_eq_getElem (by omega)] at g0
 rw[k1.1,k1.2,hcv,List.getElem?_eq_getElem (by omega)] at g1
 obtain⟨v0,l0,q0,n0,_,r0⟩:=reads_sliceQ hk (readsQ_int hke) hce g0
 obtain⟨n1,q1,_⟩:=DataW.trod_int hv g1
 match cs,hl with
 |[c0,c1],_=>
  simp at q0 q1
  subst q0
  subst q1
  refine⟨⟨l0,n1⟩,n0,?_⟩
  simp only[gL,RepL]
  exact⟨_,_,rfl,r0,_,_,rfl,by simp[SV.g,Rep,Value.oneCell'],rfl⟩
end Go.Vi
namespace Go.Proofs.Ytoifpgeocpjneaa
open Go.ChangeShapes Go.WideShapes Go.ChangeAt Go.RowKit Go.Vi
end Go.Proofs.Ytoifpgeocpjneaa
namespace Go.Vi
open Go.Proofs.Ytoifpgeocpjneaa.Ir
open Go.Proofs
def Bun.l (b:Bun):List Int:=[b.a0,b.a1,b.a2,b.a3,b.a4,b.a5]
def nrows (p:Prob):Int:=p.classes.length+12
def boundS (p:Prob) (r:Int):Int:=
 if r - p.classes.length<0 then 1
 else if r - p.classes.length<6 then nthD [p.supply.a0,p.supply.a1,p.supply.a2,p.supply.a3,p.supply.a4,p.supply.a5] (r - p.classes.length).toNat 0
 else nthD [p.opn.a0,p.opn.a1,p.opn.a2,p.opn.a3,p.opn.a4,p.opn.a5] (r - p.classes.length - 6).toNat 0
def coefS (p:Prob) (r:Int) (o:Off):Int:=
 if r - p.classes.length<0 then(if o.bidder=r then 1 else 0)
 else if r - p.classes.length<6 then nthD [o.want.a0,o.want.a1,o.want.a2,o.want.a3,o.want.a4,o.want.a5] (r - p.classes.length).toNat 0
 else if nthD [p.cls.a0,p.cls.a1,p.cls.a2,p.cls.a3,p.cls.a4,p.cls.a5] (r - p.classes.length - 6).toNat 0=0∨nthD [p.cls.a0,p.cls.a1,p.cls.a2,p.cls.a3,p.cls.a4,p.cls.a5] (r - p.classes.length - 6).toNat 0=nthD p.classes o.bidder.toNat 0 then 0
 else nthD [o.want.a0,o.want.a1,o.want.a2,o.want.a3,o.want.a4,o.want.a5] (r - p.classes.length - 6).toNat 0
def r157:SCtr:=⟨60,Prob,.one codP,fun p=>p.classes.length≤8,fun p=> .si .i64 (nrows p)⟩
def r158:SCtr:=⟨61,Prob×Int,.cons codP (.one (codI .i64)),fun a=>a.1.classes.length≤8∧0≤a.2∧a.2<nrows a.1,fun a=> .si .i64 (boundS a.1 a.2)⟩
def r156:SCtr:=⟨62,Prob×Int×Off,.cons codP (.cons (codI .i64) (.one (codE .off))),fun a=>a.1.classes.length≤8∧0≤a.2.1∧a.2.1<nrows a.1∧0≤a.2.2.bidder∧a.2.2.bidder<a.1.classes.length,fun a=> .si .i64 (coefS a.1 a.2.1 a.2.2)⟩
theorem h157:Holds Try.prog r157:=by
 refine con (L:=[]) r157 F157 (fun _ _=> .unroll 7) (OwnOK.none _) (by simp) (by kernel_rfl) (by kernel_rfl) (fun _=>rfl) ?_
 intro p (hp:p.classes.length≤8)
 refine vcOf (let z0:=(↑p.classes.length:Int)+(12:Int);inR .i64 z0∧(SV.si .i64 z0).same (SV.si .i64 (nrows p))) (by kernel_rfl) ?_
 simp only[vcs,nrows]
 omega
theorem h158:Holds Try.prog r158:=by
 refine con (L:=[]) r158 F158 (fun _ _=> .unroll 7) (OwnOK.none _) (by simp) (by kernel_rfl) (by kernel_rfl) (fun _=>rfl) ?_
 rintro⟨p,r⟩ ⟨hp,h1,h2⟩
 simp only[nrows] at hp h1 h2
 refine vcOf (let z0:=r - (↑p.classes.length:Int);let z1:=decide (z0<(0:Int));let z2:=SV.si .i64 (boundS p r);let z3:=decide (z0<(6:Int));let z4:=z0 - (6:Int);inR .i64 z0∧(z1=true→(SV.il .i64 1).same z2)∧(z1=false→(z3=true→(0:Int)≤z0∧z0<(6:Int)∧z0.toNat<6∧(SV.si .i64 (nthD [p.supply.a0,p.supply.a1,p.supply.a2,p.supply.a3,p.supply.a4,p.supply.a5] z0.toNat (0:Int))).same z2)∧(z3=false→inR .i64 z4∧(0:Int)≤z4∧z4<(6:Int)∧z4.toNat<6∧(SV.si .i64 (nthD [p.opn.a0,p.opn.a1,p.opn.a2,p.opn.a3,p.opn.a4,p.opn.a5] z4.toNat (0:Int))).same z2))) (by kernel_rfl) ?_
 simp only[vcs]
 repeat' (first|refine And.intro ?_ ?_|intro _)
 all_goals first
  |trivial
  |omega
  |(simp only[boundS];(repeat' split)<;>first|rfl|omega)
theorem h156:Holds Try.prog r156:=by
 refine con (L:=[]) r156 F156 (fun _ _=> .unroll 7) (OwnOK.none _) (by simp) (by kernel_rfl) (by kernel_rfl) (fun _=>rfl) ?_
 rintro⟨p,r,x⟩ ⟨hp,h1,h2,h3,h4⟩
 simp only[nrows] at hp h1 h2 h3 h4
 refine vcOf (let z0:=(↑p.classes.length:Int);let z1:=decide (r - z0<(0:Int));let z2:=decide (x.bidder=r);let z3:=SV.si .i64 (coefS p r x);let z4:=decide (r - z0<(6:Int));let z5:=[x.want.a0,x.want.a1,x.want.a2,x.want.a3,x.want.a4,x.want.a5];let z6:=r - z0 - (6:Int);let z7:=nthD [p.cls.a0,p.cls.a1,p.cls.a2,p.cls.a3,p.cls.a4,p.cls.a5] z6.toNat (0:Int);let z8:=decide (z7=(0:Int));let z9:=decide (z7=nthD p.classes x.bidder.toNat (0:Int));inR .i64 (r - z0)∧(z1=true→(z2=true→(SV.il .i64 1).same z3)∧(z2=false→(z1=true→(SV.il .i64 0).same z3)∧(z1=false→(z4=true→(0:Int)≤r - z0∧r - z0<(6:Int)∧(r - z0).toNat<6∧(SV.si .i64 (nthD z5 (r - z0).toNat (0:Int))).same z3)∧(z4=false→inR .i64 z6∧(0:Int)≤z6∧z6<(6:Int)∧z6.toNat<6∧(z8=true→(SV.il .i64 0).same z3)∧(z8=false→(0:Int)≤z6∧z6<(6:Int)∧z6.toNat<6∧(0:Int)≤x.bidder∧x.bidder<z0∧x.bidder.toNat<p.classes.length∧(z9=true→(SV.il .i64 0).same z3)∧(z9=false→(0:Int)≤z6∧z6<(6:Int)∧z6.toNat<6∧(SV.si .i64 (nthD z5 z6.toNat (0:Int))).same z3))))))∧(z1=false→(z1=true→(SV.il .i64 0).same z3)∧(z1=false→(z4=true→(0:Int)≤r - z0∧r - z0<(6:Int)∧(r - z0).toNat<6∧(SV.si .i64 (nthD z5 (r - z0).toNat (0:Int))).same z3)∧(z4=false→inR .i64 z6∧(0:Int)≤z6∧z6<(6:Int)∧z6.toNat<6∧(z8=true→(SV.il .i64 0).same z3)∧(z8=false→(0:Int)≤z6∧z6<(6:Int)∧z6.toNat<6∧(0:Int)≤x.bidder∧x.bidder<z0∧x.bidder.toNat<p.classes.length∧(z9=true→(SV.il .i64 0).same z3)∧(z9=false→(0:Int)≤z6∧z6<(6:Int)∧z6.toNat<6∧(SV.si .i64 (nthD z5 z6.toNat (0:Int))).same z3)))))) (by kernel_rfl) ?_
 simp only[vcs]
 repeat' (first|refine And.intro ?_ ?_|intro _)
 all_goals first
  |trivial
  |omega
  |(simp only[coefS];(repeat' split)<;>first|rfl|omega)
end Go.Vi
namespace Go.Proofs.Ytoifpgeocpjneaa
open Go.ChangeShapes Go.WideShapes Go.ChangeAt Go.RowKit Go.Vi
theorem rd_i64 {H:Type} {enc:TypeId×Value→H} {w:World} {spare:Nat→Bool} {held:Bool} {fuel:Nat} {cs:List Value} {x:DataW H×List MemPlace} (h:DataW.trod enc Try.prog w 0 spare held fuel 2 cs=some x):
  ∃n:Int,(-9223372036854775808≤n∧n≤9223372036854775807)∧cs=[.int .i64 n]:=by
 obtain⟨n,rfl,_,hw⟩:=DataW.trod_int Try.underlying2 h
 simp only[Lit.wf,Bool.and_eq_true,decide_eq_true_eq] at hw
 exact⟨n,hw,rfl⟩
end Go.Proofs.Ytoifpgeocpjneaa
