/-
  The symbolic run is sound: regions, hints, code, calls.
  Conditions: none.
-/
import Derived.Test.YtgejbpobaicgfaaGreatRX05
import Derived.Test.YtgejbpobaicgfaaGreatRX01
import Derived.KernelRfl
import Derived.Deep.Slices
import Derived.OpenShut
import Derived.ProofKit
set_option maxRecDepth 100000
set_option maxHeartbeats 4000000
set_option linter.unusedSimpArgs false
set_option linter.unusedVariables false
namespace Go.Vi
theorem yM:∀{env:cG} {s:Nat} {v:SV},(fo env s).g=v.g→gE (rj env s v)=gE env
 |[],_,_,_=>rfl
 |p::r,s,v,h=>by
  simp only[rj,fo] at h ⊢
  cases hq:Nat.beq p.1 s with
  |true=>
   rw[hq] at h
   simp only[cond_true] at h ⊢
   simp[gE,h]
  |false=>
   rw[hq] at h
   simp only[cond_false] at h ⊢
   have:=yM h
   simp only[gE,List.map_cons] at this ⊢
   rw[this]
theorem IW {env:cG} {g:Option (Option Nat×Bool)} {K:cG→Bool→Prop} (h:yy env g K):∃env' w,gE env'=gE env∧fY (gE env) g=some w∧K env' w:=by
 unfold yy at h
 split at h
 ·exact⟨_,_,rfl,rfl,h⟩
 ·exact h.elim
 ·rename_i s b
  split at h
  ·rename_i c hc
   exact⟨_,_,rfl,by simp[fY,iW,hc,SV.g],h⟩
  ·rename_i c hc
   cases c with
   |true=>exact⟨_,_,yM (by rw[hc];rfl),by simp[fY,iW,hc,SV.g],h.1 rfl⟩
   |false=>exact⟨_,_,yM (by rw[hc];rfl),by simp[fY,iW,hc,SV.g],h.2 rfl⟩
  ·rename_i hc
   exact⟨_,_,rfl,by simp[fY,iW,hc,SV.g,gL],h⟩
  ·exact h.elim
section
variable {call:bB} {p:dY}
theorem IX:∀{a b:a8},iF a b→gO a=gO b
 |[],[],_=>rfl
 |x::a,y::b,h=>by
  obtain⟨h1,h2⟩:=h
  have h3:x.g=y.g:=h1
  simp only[gO,List.map_cons,h3]
  congr 1
  exact IX h2
def pN:Trace→Trace→Prop
 |[],[]=>True
 |x::a,y::b=>(x.1=y.1∧x.2.1=y.2.1∧∀j∈x.2.2,j∈y.2.2)∧pN a b
 |_,_=>False
theorem pN.look:∀{a b:Trace} {i:Nat},pN a b→(kQ a i).1=(kQ b i).1∧∀j∈(kQ a i).2,j∈(kQ b i).2
 |[],[],_,_=>⟨rfl,fun j h=>h⟩
 |(k,x)::a,(k',y)::b,i,h=>by
  obtain⟨⟨h1,h2,h3⟩,h4⟩:=h
  simp only at h1 h2 h3
  subst h1
  simp only[kQ]
  split
  ·exact⟨h2,h3⟩
  ·exact pN.look h4
theorem IY {a b a' b':List Nat} (ha:∀j∈a,j∈a') (hb:∀j∈b,j∈b') (h:qx a' b'=true):qx a b=true:=by
 unfold qx at h ⊢
 rw[List.all_eq_true] at h ⊢
 intro j hj
 have h1:=h j (ha j hj)
 simp only[Bool.not_eq_true',List.contains_eq_mem,decide_eq_false_iff_not] at h1 ⊢
 exact fun h2=>h1 (hb j h2)
theorem T0 {n:Nat} {a b:Trace} {b6:List (Nat×Nat)} (h:pN a b) (hc:nj n b b6=true):nj n a b6=true:=by
 unfold nj at hc ⊢
 rw[List.all_eq_true] at hc ⊢
 intro p hp
 have h1:=hc p hp
 obtain⟨e1,s1⟩:=h.look (i:=p.1)
 obtain⟨e2,s2⟩:=h.look (i:=p.2)
 simp only[Bool.and_eq_true] at h1 ⊢
 rw[e1,e2]
 exact⟨⟨⟨IY s1 (fun j h=>h) h1.1.1.1,IY s2 (fun j h=>h) h1.1.1.2⟩,h1.1.2⟩,h1.2⟩
theorem CH (hC:iZ call p.C) {base:Nat}:∀{ops:List bA} {st:aN} {tr:Trace} {K:aN→Trace→Prop},rk p base ops st tr K→
  ∃st' T,dF call base ops st.g=some st'.g∧pN (ix call base ops st.g) T∧K st' (T.reverse++tr)
 |[],st,tr,K,h=>⟨st,[],rfl,trivial,h⟩
 |i::r,st,tr,K,h=>by
  simp only[rk] at h
  obtain⟨env,w,he,hw,h2⟩:=IW h
  have hg:st.g=⟨gE env,gO st.o⟩:=by simp[aN.g,he]
  rw[←he] at hw
  cases w with
  |true=>
   simp only[if_true] at h2
   obtain⟨v,o',h3,h4⟩:=II hC h2
   have hrun:dh call base i st.g=some (aN.g ⟨iU env i.dst v,o'⟩):=by
    rw[hg]
    simp only[dh,hw,BS]
    rw[qw,h3]
    simp only[aN.g,rC]
   have key:∀W:List Nat,(∀j∈cu call i.op (fun x=>(eX env x).g) (gO st.o) (base+i.am),j∈W)→
     rk p base r ⟨iU env i.dst v,o'⟩ ((i.idx,bV i.op (fun x=>(eX env x).g) (st.o.map af.g) (base+i.am),W)::tr) K→
     ∃st' T,dF call base (i::r) st.g=some st'.g∧pN (ix call base (i::r) st.g) T∧K st' (T.reverse++tr):=fun W hW h4=>by
    obtain⟨st',T,h5,hT,h6⟩:=CH hC h4
    refine⟨st',(i.idx,bV i.op (fun x=>(eX env x).g) (st.o.map af.g) (base+i.am),W)::T,by simp only[dF,hrun];exact h5,?_,?_⟩
    ·simp only[ix,hrun]
     rw[hg]
     simp only[hw,BS]
     exact⟨⟨rfl,rfl,hW⟩,hT⟩
    ·rw[List.reverse_cons,List.append_assoc,List.singleton_append]
     exact h6
   unfold Ic at h4
   split at h4
   ·rename_i f args hop
    split at h4
    ·obtain⟨hs,h4⟩:=h4
     refine key [] (fun j hj=>?_) h4
     rw[hop] at h3 hj
     have hcall:eA call f (args.map fun x=>(eX env x).g) (gO st.o)=some (v.g,gO o'):=by simpa only[aL,ee,if_true] using h3
     simp only[cu,hcall,List.mem_filter,decide_eq_true_eq] at hj
     exact absurd (by rw[IX hs]) hj.2
    ·exact key _ (fun j hj=>Bq hj) h4
   ·exact key _ (fun j hj=>Bq hj) h4
  |false=>
   simp only[Bool.false_eq_true,if_false] at h2
   obtain⟨st',T,h5,hT,h6⟩:=CH hC h2
   have hrun:dh call base i st.g=some (aN.g ⟨iU env i.dst (.aD []),st.o⟩):=by
    rw[hg]
    simp only[dh,hw,aN.g,rC,SV.g,gL]
   refine⟨st',(i.idx,[],[])::T,by simp only[dF,hrun];exact h5,?_,?_⟩
   ·simp only[ix,hrun]
    rw[hg]
    simp only[hw]
    exact⟨⟨rfl,rfl,fun j h=>h⟩,hT⟩
   ·rw[List.reverse_cons,List.append_assoc,List.singleton_append]
    exact h6
theorem IZ (k:Nat):gO (List.replicate k .dead)=di k:=by simp[gO,di,af.g]
theorem yN (a b:a8):gO (a++b)=gO a++gO b:=by simp[gO]
theorem T8 (x:af):x.g.iK=x.iK:=by cases x<;>rfl
theorem I0 (base:Nat) (o:a8):gO (yz base o)=kj base (gO o):=by
 unfold yz kj
 have:((gO o).drop base).all (·.iK)=(o.drop base).all (·.iK):=by
  simp only[gO,←List.map_drop,List.all_map]
  congr 1
  funext x
  exact T8 x
 rw[this]
 cases(o.drop base).all (·.iK)
 ·rfl
 ·simp[gO]
theorem T9 (hC:iZ call p.C) {k:Nat} {ops:List bA} {b6:List (Nat×Nat)} {st:aN} {K:aN→Prop} (h:tt p k ops b6 st K):∃st',km call k ops b6 st.g=some st'.g∧K st':=by
 unfold tt at h
 obtain⟨st',T,h1,hT,h2⟩:=CH hC h
 rw[List.append_nil,List.reverse_reverse] at h2
 have hst:(aN.mk st.env (st.o++List.replicate k .dead)).g=⟨st.g.env,st.g.o++di k⟩:=by simp[aN.g,yN,IZ]
 rw[hst] at h1 hT
 have hlen:st.g.o.length=st.o.length:=by simp[aN.g,ic]
 split at h2
 ·rename_i hc
  refine⟨_,?_,h2⟩
  simp only[km,hlen]
  rw[h1]
  simp only
  rw[if_pos (by
   rw[List.length_append,hlen,di,List.length_replicate]
   rw[Bool.or_eq_true] at hc ⊢
   exact hc.imp_right fun h=>T0 hT h)]
  simp only[aN.g]
  by_cases hk:k=0
  ·simp[hk]
  ·simp[hk,I0]
 ·exact h2.elim
end
theorem yO {v:SV}:isNil v=true↔v.g= .sc (.slice none 0 0):=by
 constructor
 ·intro h
  unfold isNil at h
  split at h
  ·rfl
  ·cases h
 ·intro h
  cases v<;>simp only[SV.g,reduceCtorEq,AV.sc.injEq] at h
  subst h
  rfl
section
variable {o:a8} {id:Nat} {s:ai} {l:List s.T} {e:TypeId}
def pid (id:Nat):Nat→Bool:=fun i=>i==id
mutual
theorem I1 (ho:o[id]?=some (.row s l e true)):∀{v:SV} {K:SV→Prop},fw id s l v K→∃v':SV,v.g.aX (gO o) (pid id)=some v'.g∧K v'
 | .ow j n sz,K,h=>by
  simp only[fw] at h
  split at h
  ·rename_i hj
   subst hj
   split at h
   ·rename_i hsz
    subst hsz
    obtain⟨rfl,hk⟩:=h
    refine⟨_,?_,hk⟩
    have htk:List.take (l.length*s.sz) (bn s l)=bn s l:=List.take_of_length_le (by rw[dD];omega)
    simp only[SV.g,AV.aX,pid,BEq.rfl,if_true,dA ho,af.g,dD,Nat.zero_add,Nat.le_refl,and_self,List.drop_zero,htk]
   ·exact h.elim
  ·rename_i hj
   refine⟨_,?_,h⟩
   simp only[SV.g,AV.aX,pid,beq_iff_eq,if_neg hj]
 | .os j off len n sz,K,h=>by
  simp only[fw] at h
  split at h
  ·rename_i hj
   subst hj
   split at h
   ·rename_i hsz
    subst hsz
    obtain⟨rfl,hle,hk⟩:=h
    refine⟨_,?_,hk⟩
    have hm:(off+len)*s.sz≤l.length*s.sz:=Nat.mul_le_mul_right _ hle
    rw[Nat.add_mul] at hm
    have hll:((l.drop off).take len).length=len:=by simp;omega
    simp only[SV.g,AV.aX,pid,BEq.rfl,if_true,dA ho,af.g,dD,hm,and_self,tJ,hll]
   ·exact h.elim
  ·rename_i hj
   refine⟨_,?_,h⟩
   simp only[SV.g,AV.aX,pid,beq_iff_eq,if_neg hj]
 | .oc j off len n sz,K,h=>by
  simp only[fw] at h
  split at h
  ·exact h.elim
  ·rename_i hj
   exact⟨_,by simp only[SV.g,AV.aX,pid,beq_iff_eq,if_neg hj],h⟩
 | .rp j i f n sz,K,h=>by
  simp only[fw] at h
  split at h
  ·exact h.elim
  ·rename_i hj
   exact⟨_,by simp only[SV.g,AV.aX,pid,beq_iff_eq,if_neg hj],h⟩
 | .ptr j f t,K,h=>by
  simp only[fw] at h
  split at h
  ·exact h.elim
  ·rename_i hj
   exact⟨_,by simp only[SV.g,AV.aX,pid,beq_iff_eq,if_neg hj],h⟩
 | .ap j a b c d i,K,h=>by
  simp only[fw] at h
  split at h
  ·exact h.elim
  ·rename_i hj
   exact⟨_,by simp only[SV.g,AV.aX,pid,beq_iff_eq,if_neg hj],h⟩
 | .agg cs,K,h=>by
  simp only[fw] at h
  obtain⟨cs',h1,h2⟩:=pO ho h
  exact⟨_,by simp only[SV.g,AV.aX,h1,Option.map_some],h2⟩
 | .aD cs,K,h=>by
  simp only[fw] at h
  obtain⟨cs',h1,h2⟩:=pO ho h
  exact⟨_,by simp only[SV.g,AV.aX,h1,Option.map_some],h2⟩
 | .fn f a b,K,h=>by
  simp only[fw] at h
  obtain⟨a',h1,h2⟩:=pO ho h
  obtain⟨b',h3,h4⟩:=pO ho h2
  exact⟨_,by simp only[SV.g,AV.aX,h1,h3],h4⟩
 | .ud,K,h=>⟨.ud,by simp only[SV.g,AV.aX],by simpa only[fw] using h⟩
 | .sc v,K,h=>⟨.sc v,by simp only[SV.g,AV.aX],by simpa only[fw] using h⟩
 | .il k n,K,h=>⟨.il k n,by simp only[SV.g,AV.aX],by simpa only[fw] using h⟩
 | .si k n,K,h=>⟨.si k n,by simp only[SV.g,AV.aX],by simpa only[fw] using h⟩
 | .bl b,K,h=>⟨.bl b,by simp only[SV.g,AV.aX],by simpa only[fw] using h⟩
 | .sb b,K,h=>⟨.sb b,by simp only[SV.g,AV.aX],by simpa only[fw] using h⟩
 | .row s l,K,h=>⟨.row s l,by simp only[SV.g,AV.aX],by simpa only[fw] using h⟩
 | .ep s l i f,K,h=>⟨.ep s l i f,by simp only[SV.g,AV.aX],by simpa only[fw] using h⟩
 | .mp i,K,h=>⟨.mp i,by simp only[SV.g,AV.aX],by simpa only[fw] using h⟩
theorem pO (ho:o[id]?=some (.row s l e true)):∀{cs:List SV} {K:List SV→Prop},lI id s l cs K→∃cs':List SV,dL (gO o) (pid id) (gL cs)=some (gL cs')∧K cs'
 |[],K,h=>⟨[],by simp[gL,dL],by simpa only[lI] using h⟩
 |c::cs,K,h=>by
  simp only[lI] at h
  obtain⟨c',h1,h2⟩:=I1 ho h
  obtain⟨cs',h3,h4⟩:=pO ho h2
  exact⟨c'::cs',by simp only[gL,dL,h1,h3],h4⟩
end
theorem CJ (ho:o[id]?=some (.row s l e true)):∀{env:cG} {K:cG→Prop},tu id s l env K→∃env',oO (gO o) (pid id) (gE env)=some (gE env')∧K env'
 |[],K,h=>⟨[],rfl,h⟩
 |(k,v)::r,K,h=>by
  simp only[tu] at h
  obtain⟨v',h1,h2⟩:=I1 ho h
  obtain⟨r',h3,h4⟩:=CJ ho h2
  refine⟨(k,v')::r',?_,h4⟩
  simp only[gE,List.map_cons] at h3 ⊢
  simp only[oO,h1,h3]
theorem yP {o:Store} {q:Nat→Bool}:∀{cs:List AV},(∀a∈cs,Plain a)→dL o q cs=some cs
 |[],_=>by simp[dL]
 |a::cs,h=>by
  have ih:=yP (o:=o) (q:=q) (cs:=cs) fun b hb=>h b (by simp[hb])
  rcases h a (by simp) with⟨v,rfl,_⟩|⟨n,ds,rfl,_⟩<;>simp only[dL,AV.aX,ih]
theorem CL {o:Store} {q:Nat→Bool}:∀{es:List (Value×AV)},(∀a∈es,∃v,a.2= .sc v)→kR o q es=some es
 |[],_=>by simp[kR]
 |(k,a)::es,h=>by
  obtain⟨v,hv⟩:=h (k,a) (by simp)
  simp only at hv
  subst hv
  simp only[kR,AV.aX,CL (es:=es) fun a ha=>h a (by simp[ha])]
theorem mK (ho:o[id]?=some (.row s l e true)):∀{i:Nat} {r:a8} {K:a8→Prop},jy id s l i r K→∃r' mid,eV (gO o) (pid id) (gO r)=some mid∧dx (pid id) i mid=gO r'∧K r'
 |i,[],K,h=>⟨[],[],rfl,rfl,h⟩
 |i,x::r,K,h=>by
  cases x with
  |dead=>
   simp only[jy] at h
   obtain⟨r',mid,h1,h2,h3⟩:=mK ho h
   refine⟨_,.dead::mid,?_,?_,h3⟩
   ·simp only[gO,List.map_cons,af.g] at h1 ⊢
    simp only[eV,aP.aX,h1]
   ·simp only[dx,h2];rfl
  |cells cs e' sz pu=>
   simp only[jy] at h
   cases pu with
   |true=>
    simp only[if_true] at h
    split at h
    ·exact h.elim
    ·rename_i hi
     obtain⟨r',mid,h1,h2,h3⟩:=mK ho h
     refine⟨_,.cells (gL cs) e' sz true::mid,?_,?_,h3⟩
     ·simp only[gO,List.map_cons,af.g] at h1 ⊢
      simp only[eV,aP.aX,if_true,h1]
     ·simp only[dx,h2,pid,beq_iff_eq,if_neg hi];rfl
   |false=>
    simp only[Bool.false_eq_true,if_false] at h
    obtain⟨cs',hc1,hc2⟩:=pO ho h
    obtain⟨r',mid,h1,h2,h3⟩:=mK ho hc2
    refine⟨_,.cells (gL cs') e' sz false::mid,?_,?_,h3⟩
    ·simp only[gO,List.map_cons,af.g] at h1 hc1 ⊢
     simp only[eV,aP.aX,Bool.false_eq_true,if_false,hc1,Option.map_some,h1]
    ·simp only[dx,h2];rfl
  |iT s' l' e' t=>
   simp only[jy] at h
   split at h
   ·exact h.elim
   ·obtain⟨t',hc1,hc2⟩:=pO ho h
    split at hc2
    ·rename_i m hm
     obtain⟨hm1,_⟩:=yK hm
     obtain⟨r',mid,h1,h2,h3⟩:=mK ho hc2
     refine⟨_,(af.row s' (l'++m) e' false).g::mid,?_,?_,h3⟩
     ·simp only[gO,List.map_cons,af.g] at h1 hc1 ⊢
      have happ:∀(a b c:List AV),dL (List.map af.g o) (pid id) a=some a→dL (List.map af.g o) (pid id) b=some c→dL (List.map af.g o) (pid id) (a++b)=some (a++c):=fun a b c h1 h2=>by
       induction a with
       |nil=>exact h2
       |cons x a ih=>
        simp only[dL] at h1
        split at h1
        ·rename_i x' a' hx ha
         injection h1 with h1
         injection h1 with e1 e2
         subst e1 e2
         simp only[List.cons_append,dL,hx,ih ha]
        ·cases h1
      have hp:dL (List.map af.g o) (pid id) (bn s' l')=some (bn s' l'):=yP (fun a ha=>hZ ha)
      simp only[eV,aP.aX,Bool.false_eq_true,if_false,happ _ _ _ hp hc1,Option.map_some,h1,BH,hm1]
     ·simp only[af.g,dx,h2];rfl
    ·exact hc2.elim
  |row s' l' e' pu=>
   simp only[jy] at h
   have iy:(af.row s' l' e' pu).g.aX (gO o) (pid id)=some (af.row s' l' e' pu).g:=by
    cases pu with
    |true=>simp only[af.g,aP.aX,if_true]
    |false=>
     simp only[af.g,aP.aX,Bool.false_eq_true,if_false]
     rw[yP (fun a ha=>hZ ha),Option.map_some]
   split at h
   ·rename_i hi
    cases pu with
    |false=>simp only[Bool.false_eq_true,if_false] at h
    |true=>
     simp only[if_true] at h
     obtain⟨r',mid,h1,h2,h3⟩:=mK ho h
     refine⟨_,(af.row s' l' e' true).g::mid,?_,?_,h3⟩
     ·simp only[gO,List.map_cons] at h1 ⊢
      simp only[eV,gO] at iy h1 ⊢
      simp only[iy,h1]
     ·simp only[af.g,dx,pid,hi,BEq.rfl,if_true]
      rw[hi] at h2
      rw[h2]
      rfl
   ·rename_i hi
    obtain⟨r',mid,h1,h2,h3⟩:=mK ho h
    refine⟨_,(af.row s' l' e' pu).g::mid,?_,?_,h3⟩
    ·simp only[gO,List.map_cons] at h1 ⊢
     simp only[eV,gO] at iy h1 ⊢
     simp only[iy,h1]
    ·cases pu<;>simp only[af.g,dx,h2,pid,beq_iff_eq,if_neg hi]<;>rfl
  |map sk sv ka es kt pu=>
   simp only[jy] at h
   have iy:(af.map sk sv ka es kt pu).g.aX (gO o) (pid id)=some (af.map sk sv ka es kt pu).g:=by
    cases pu with
    |true=>simp only[af.g,aP.aX,if_true]
    |false=>
     simp only[af.g,aP.aX,Bool.false_eq_true,if_false]
     rw[CL (fun a ha=>by obtain⟨q,_,rfl⟩:=List.mem_map.1 ha;exact⟨_,rfl⟩),Option.map_some]
   obtain⟨r',mid,h1,h2,h3⟩:=mK ho h
   refine⟨_,(af.map sk sv ka es kt pu).g::mid,?_,?_,h3⟩
   ·simp only[gO,List.map_cons] at h1 ⊢
    simp only[eV,gO] at iy h1 ⊢
    simp only[iy,h1]
   ·simp only[af.g,dx,h2];rfl
end
theorem Ua {v:SV}:(∃id,nL.rl v=some id∧∃a b c,v.g= .os id a b c)∨(nL.rl v=none∧∀id a b c,v.g≠ .os id a b c):=by
 cases v<;>simp[nL.rl,SV.g]
theorem I2 {p:dY} {lo:Nat} {h:gq} {st:aN} {K:aN→Prop} {v:SV} (hno:h.own=false) (hcell:vi h st.g=some v.g)
  (hh:match nL.rl v with
   |some id=>if Nat.ble lo id then(match st.o[id]? with
    |some (.row s l e pu)=>tu id s l st.env fun env=>jy id s l 0 (if pu then st.o else st.o.set id (.row s l e true)) fun o=>K ⟨env,o⟩
    |_=>False) else K st
   |none=>K st):∃st',eN lo h st.g=st'.g∧K st':=by
 let _:=p
 unfold eN
 rw[if_neg (by simp[hno]),hcell]
 rcases @Ua v with⟨id,h1,a,b,c,h2⟩|⟨h1,h2⟩
 ·rw[h1] at hh
  rw[h2]
  simp only at hh ⊢
  split at hh
  ·rename_i hlo
   rw[if_pos hlo]
   split at hh
   ·rename_i s l e pu ho
    have e1:(fun i=>i==id)=pid id:=rfl
    cases pu with
    |true=>
     simp only[if_true] at hh
     obtain⟨env',h3,h4⟩:=CJ ho hh
     obtain⟨r',mid,h5,h6,h7⟩:=mK ho h4
     refine⟨_,?_,h7⟩
     have e2:oP id st.g=st.g:=by
      unfold oP
      simp only[aN.g,dA ho,af.g]
     rw[e2]
     simp only[vl,aN.g,e1,h3,h5,h6]
    |false=>
     simp only[Bool.false_eq_true,if_false] at hh
     have hid:id<st.o.length:=(List.getElem?_eq_some_iff.1 ho).1
     have ho2:(st.o.set id (.row s l e true))[id]?=some (.row s l e true):=by rw[List.getElem?_set_self hid]
     obtain⟨env',h3,h4⟩:=CJ (o:=st.o.set id (.row s l e true)) ho2 hh
     obtain⟨r',mid,h5,h6,h7⟩:=mK ho2 h4
     refine⟨_,?_,h7⟩
     have e2:oP id st.g=aN.g ⟨st.env,st.o.set id (.row s l e true)⟩:=by
      unfold oP
      simp only[aN.g,dA ho,af.g,nG,if_true,kx]
     rw[e2]
     simp only[vl,aN.g,e1,h3,h5,h6]
   ·exact hh.elim
  ·rename_i hlo
   rw[if_neg hlo]
   exact⟨st,rfl,hh⟩
 ·rw[h1] at hh
  refine⟨st,?_,hh⟩
  split
  ·rename_i id a b c hx
   simp only[Option.some.injEq] at hx
   exact absurd hx (h2 _ _ _ _)
  ·rfl
section
variable {p:dY} {lo:Nat}
theorem Ub {h:gq} {st:aN} {K:aN→Prop} (hk:nL p lo h st K):∃st',eN lo h st.g=st'.g∧K st':=by
 unfold nL at hk
 split at hk
 ·rename_i how
  unfold eN
  rw[if_pos how]
  unfold vk
  split at hk
  ·rename_i hoff
   simp only[hoff]
   split at hk
   ·rename_i hn
    have hn2:=yO.1 hn
    rw[←iW] at hn2
    have Uc:bE st.g.env h.slot= .sc (.slice none 0 0):=hn2
    rw[Uc]
    split at hk
    ·rename_i s hs
     split at hk
     ·rename_i hsz
      refine⟨_,?_,hk⟩
      simp[aN.g,gE,gO,SV.g,af.g,bn,hsz]
     ·exact hk.elim
    ·exact hk.elim
   ·rename_i hn
    split at hk
    ·rename_i hsz0
     split at hk
     ·rename_i id n2 lF CN
      have hs2:bE st.g.env h.slot= .os id 0 n2 (n2*lF):=by
       show bE (gE st.env) h.slot=_
       rw[iW,CN];rfl
      rw[hs2]
      split at hk
      ·rename_i s l e ho
       refine⟨_,?_,hk⟩
       simp only[hsz0,if_true]
       unfold vj
       simp only[aN.g,dA ho,af.g,kx]
      ·exact hk.elim
     ·exact hk.elim
    ·rename_i hsz0
     refine⟨st,?_,hk⟩
     split
     ·rename_i hx
      have:bE (gE st.env) h.slot= .sc (.slice none 0 0):=hx
      rw[iW] at this
      exact absurd (yO.2 this) hn
     ·rw[if_neg hsz0]
     ·rfl
  ·rename_i k hoff
   simp only[hoff]
   split at hk
   ·rename_i id off tot CN
    have hs2:bE st.g.env h.slot= .ptr id off tot:=by
     show bE (gE st.env) h.slot=_
     rw[iW,CN];rfl
    rw[hs2]
    split at hk
    ·rename_i cs e sz pu ho
     have ho2:st.g.o[id]?=some (.cells (gL cs) e sz pu):=dA ho
     simp only[ho2]
     split at hk
     ·rename_i hn
      cases hc:cs[off+k]? with
      |none=>rw[hc] at hn;simp at hn
      |some v=>
       rw[hc] at hn
       simp only[Option.any_some] at hn
       have hv:=yO.1 hn
       have hc2:(gL cs)[off+k]?=some (.sc (.slice none 0 0)):=by rw[nN,hc,Option.map_some,hv]
       simp only[hc2,eY]
       split at hk
       ·rename_i hh
        rw[if_pos hh]
        split at hk
        ·rename_i s hs
         split at hk
         ·rename_i hsz
          refine⟨_,?_,hk⟩
          have e1:gL (cs.set (off+k) (.ow st.o.length 0 h.sz))=(gL cs).set (off+k) (.os st.o.length 0 0 0):=by
           rw[dj,dj,List.map_set];simp[SV.g]
          simp only[aN.g,yN,kx,af.g,e1,ic]
          simp[gO,af.g,bn,hsz]
         ·exact hk.elim
        ·exact hk.elim
       ·exact hk.elim
     ·rename_i hn
      refine⟨st,?_,hk⟩
      split
      ·rename_i hx
       rw[nN] at hx
       obtain⟨v,hv1,hv2⟩:=Option.map_eq_some_iff.1 hx
       rw[hv1] at hn
       exact absurd (yO.2 hv2) (by simpa using hn)
      ·rfl
    ·exact hk.elim
   ·exact hk.elim
 ·rename_i how
  have how:h.own=false:=by simpa using how
  unfold nL.Ie at hk
  cases hoff:h.off with
  |none=>
   rw[hoff] at hk
   simp only at hk
   refine I2 (p:=p) (v:=fo st.env h.slot) how ?_ ?_
   ·unfold vi
    rw[hoff]
    simp only[aN.g,iW]
   ·split at hk
    ·rename_i id hid
     simp only[Option.some.injEq] at hid
     rw[hid]
     exact hk
    ·rename_i hid
     simp only[Option.some.injEq] at hid
     rw[hid]
     exact hk
    ·exact hk.elim
  |some k=>
   rw[hoff] at hk
   simp only at hk
   cases hsl:fo st.env h.slot with
   |ptr id off tot=>
    rw[hsl] at hk
    simp only at hk
    cases ho:st.o[id]? with
    |none=>rw[ho] at hk;exact hk.elim
    |some x=>
     rw[ho] at hk
     cases x with
     |cells cs e sz pu=>
      simp only at hk
      by_cases hl:cs.length=tot
      ·rw[if_pos hl] at hk
       cases hc:cs[off+k]? with
       |none=>rw[hc] at hk;exact hk.elim
       |some v=>
        rw[hc] at hk
        refine I2 (p:=p) (v:=v) how ?_ ?_
        ·unfold vi
         rw[hoff]
         have:bE st.g.env h.slot= .ptr id off tot:=by
          show bE (gE st.env) h.slot=_
          rw[iW,hsl];rfl
         have ho2:st.g.o[id]?=some (.cells (gL cs) e sz pu):=dA ho
         simp only[this,behind,ho2,eY,hl,if_true,nN,hc,Option.map_some]
        ·simp only[Option.map_some] at hk
         split at hk
         ·rename_i id hid
          simp only[Option.some.injEq] at hid
          rw[hid]
          exact hk
         ·rename_i hid
          simp only[Option.some.injEq] at hid
          rw[hid]
          exact hk
         ·exact hk.elim
      ·rw[if_neg hl] at hk
       exact hk.elim
     |_=>exact hk.elim
   |_=>rw[hsl] at hk;exact hk.elim
theorem yQ:∀{hs:List gq} {st:aN} {K:aN→Prop},rm p lo hs st K→∃st',hs.foldl (fun s h=>eN lo h s) st.g=st'.g∧K st'
 |[],st,K,h=>⟨st,rfl,h⟩
 |h::hs,st,K,hk=>by
  simp only[rm] at hk
  obtain⟨st1,h1,h2⟩:=Ub hk
  obtain⟨st2,h3,h4⟩:=yQ h2
  exact⟨st2,by rw[List.foldl_cons,h1,h3],h4⟩
theorem I3 (live:List Nat) (env:cG):gE (yA live env)=prune live (gE env):=by
 simp[yA,prune,gE,←iW]
theorem yR (k:Nat) (st:aN):(trimS k st).g=trim k st.g:=by
 unfold trimS trim
 have h1:st.g.o.length=st.o.length:=by simp[aN.g,ic]
 have h2:(st.g.env.all fun p=>p.2.a6 k)=(st.env.all fun p=>p.2.a6 k):=by
  simp only[aN.g,gE,List.all_map]
  congr 1
  funext q
  exact tG k q.2
 have h3:((st.g.o.take k).all fun x=>x.a6 k)=((st.o.take k).all fun x=>x.a6 k):=by
  simp only[aN.g,gO,←List.map_take,List.all_map]
  congr 1
  funext x
  exact yH k x
 rw[h1,h2,h3]
 by_cases hk:st.o.length≤k
 ·rw[if_pos hk,if_pos hk]
 ·rw[if_neg hk,if_neg hk]
  split
  ·simp[aN.g,gO]
  ·rfl
variable {T:Tab}
theorem I4 {v:Int} {n:Nat} {K:Nat→Prop}:∀{j:Nat},j≤n→splitN v n K j→(n - j:Nat)≤v→∃i:Nat,v=i∧K i
 |0,_,h,hv=>by
  simp only[splitN] at h
  omega
 |j+1,hj,h,hv=>by
  simp only[splitN] at h
  by_cases he:v=(n - (j+1):Nat)
  ·exact⟨_,he,h.1 he⟩
  ·exact I4 (by omega) h.2 (by omega)
theorem I5 {v:Int} {n:Nat} {K:Nat→Prop}:∀{j:Nat},splitN v n K j→0≤v
 |0,h=>h.1
 |j+1,h=>I5 h.2
theorem Ud {x:Option (Nat×Nat×Nat)} {st:aN} {K:aN→Prop} (h:splitK x st K):∃st',st'.g=st.g∧K st':=by
 unfold splitK at h
 split at h
 ·exact⟨st,rfl,h⟩
 ·rename_i id off n
  split at h
  ·rename_i cs e sz pu ho
   split at h
   ·rename_i k v hc
    obtain⟨i,rfl,hk⟩:=I4 (Nat.le_refl _) h (by have:=I5 h;omega)
    refine⟨_,?_,hk⟩
    have e1:gL (cs.set off (.il k i))=gL cs:=by
     rw[dj,dj,List.map_set]
     apply List.ext_getElem?
     intro j
     rw[List.getElem?_set]
     split
     ·rename_i hj
      subst hj
      obtain⟨h1,h2⟩:=List.getElem?_eq_some_iff.1 hc
      simp[h1,h2,SV.g]
     ·rfl
    simp only[aN.g,kx,af.g,e1,aN.mk.injEq,St.mk.injEq,true_and]
    apply List.ext_getElem?
    intro j
    rw[List.getElem?_set]
    split
    ·rename_i hj
     subst hj
     have hl:=(List.getElem?_eq_some_iff.1 ho).1
     rw[if_pos (by rw[ic];exact hl),BZ,ho]
     rfl
    ·rfl
   ·exact h.elim
  ·exact h.elim
theorem I6:∀{e e':cG},rq e e'→gE e=gE e'
 |[],[],_=>rfl
 |[],_::_,h=>by simp[rq] at h
 |_::_,[],h=>by simp[rq] at h
 |(k,v)::e,(k',v')::e',h=>by
  simp only[rq] at h
  split at h
  ·rename_i hk
   subst hk
   have:=I6 h.2
   simp only[gE,List.map_cons] at this ⊢
   rw[this,show v.g=v'.g from h.1]
  ·exact h.elim
theorem tO:∀{o o':a8},iF o o'→gO o=gO o'
 |[],[],_=>rfl
 |[],_::_,h=>by simp[iF] at h
 |_::_,[],h=>by simp[iF] at h
 |x::o,y::o',h=>by
  simp only[iF] at h
  have:=tO h.2
  simp only[gO,List.map_cons] at this ⊢
  rw[this,show x.g=y.g from h.1]
theorem yS {s t:aN} (h:tB s t):s.g=t.g:=by
 simp only[aN.g,I6 h.1,tO h.2]
def Ue (T:Tab) (md:Nat→Md):Option YS→Prop
 |none=>∀m,md m= .plain∨md m= .round
 |some Y=>∃y:Nat→YO,md=(fun m=> .iter (y m))∧∀vs o K,Y vs o K→∃(r:SV) (o':a8),(∃N,∀m,N≤m→y m (gL vs) (gO o)=some (r.g,gO o'))∧K r o'
theorem Uf (env:cG) (args:List Operand):args.map (b8 (gE env))=gL (args.map (eX env)):=by
 rw[dj,List.map_map]
 apply List.map_congr_left
 intro x _
 exact pJ env x
theorem yT (hC:iZ T.K p.C) {Y:YS} {y:Nat→YO} (hy:∀vs o K,Y vs o K→∃(r:SV) (o':a8),(∃N,∀m,N≤m→y m (gL vs) (gO o)=some (r.g,gO o'))∧K r o') {base:Nat}:∀{ops:List bA} {st:aN} {K:aN→Prop},rA p Y base ops st K→
  ∃st',(∃N,∀m,N≤m→∀call,gf T.K call→mo call (y m) base ops st.g=some st'.g)∧K st'
 |[],st,K,h=>⟨st,⟨0,fun _ _ _ _=>rfl⟩,h⟩
 |i::r,st,K,h=>by
  simp only[rA] at h
  obtain⟨env,w,he,hw,h2⟩:=IW h
  have hg:st.g=⟨gE env,gO st.o⟩:=by simp[aN.g,he]
  rw[←he] at hw
  cases w with
  |false=>
   simp only[Bool.false_eq_true,if_false] at h2
   obtain⟨st',⟨N,h5⟩,h6⟩:=yT hC hy h2
   refine⟨st',⟨N,fun m hm call hle=>?_⟩,h6⟩
   have hrun:mj call (y m) base i st.g=some (aN.g ⟨iU env i.dst (.aD []),st.o⟩):=by
    have h0:dh call base i st.g=some (aN.g ⟨iU env i.dst (.aD []),st.o⟩):=by
     rw[hg]
     simp only[dh,hw,aN.g,rC,SV.g,gL]
    unfold mj
    split
    ·split
     ·rw[hg];simp only[hw,aN.g,rC,SV.g,gL]
     ·exact h0
    ·exact h0
   simp only[mo,hrun]
   exact h5 m hm call hle
  |true=>
   simp only[if_true] at h2
   split at h2
   ·rename_i vs hv
    obtain⟨v,o',⟨N1,h3⟩,h4⟩:=hy _ _ _ h2
    obtain⟨st',⟨N2,h5⟩,h6⟩:=yT hC hy h4
    refine⟨st',⟨N1+N2,fun m hm call hle=>?_⟩,h6⟩
    have hrun:mj call (y m) base i st.g=some (aN.g ⟨iU env i.dst v,o'⟩):=by
     unfold BN at hv
     split at hv
     ·rename_i x args own hop
      split at hv
      ·rename_i l hx
       injection hv with hv
       subst hv
       have hxa:b8 (gE env) x= .fn (.yield l) [] []:=by rw[pJ,hx];rfl
       unfold mj
       rw[hop,hg]
       simp only[hxa,hw,Uf,h3 m (by omega)]
       simp only[aN.g,rC]
      ·cases hv
     ·cases hv
    simp only[mo,hrun]
    exact h5 m (by omega) call hle
   ·rename_i hv
    obtain⟨v,o',h3,h4⟩:=II hC h2
    obtain⟨st',⟨N,h5⟩,h6⟩:=yT hC hy h4
    refine⟨st',⟨N,fun m hm call hle=>?_⟩,h6⟩
    have Ug:dh T.K base i st.g=some (aN.g ⟨iU env i.dst v,o'⟩):=by
     rw[hg]
     simp only[dh,hw,BS]
     rw[qw,h3]
     simp only[aN.g,rC]
    have hrun:mj call (y m) base i st.g=some (aN.g ⟨iU env i.dst v,o'⟩):=by
     have h0:=hle.dh Ug
     unfold mj
     split
     ·rename_i x args own hop
      split
      ·rename_i l hx
       exfalso
       rw[hg] at hx
       simp only[pJ] at hx
       unfold BN at hv
       rw[hop] at hv
       simp only at hv
       have:eX env x= .fn (.yield l) [] []:=by
        cases hq:eX env x<;>rw[hq] at hx<;>simp only[SV.g,reduceCtorEq,AV.fn.injEq] at hx
        rename_i f a b
        obtain⟨rfl,h1,h2⟩:=hx
        cases a<;>simp[gL] at h1
        cases b<;>simp[gL] at h2
        rfl
       rw[this] at hv
       simp at hv
      ·exact h0
     ·exact h0
    simp only[mo,hrun]
    exact h5 m hm call hle
theorem Uh (hC:iZ T.K p.C) {Y:YS} {y:Nat→YO} (hy:∀vs o K,Y vs o K→∃(r:SV) (o':a8),(∃N,∀m,N≤m→y m (gL vs) (gO o)=some (r.g,gO o'))∧K r o') {k:Nat} {ops:List bA} {st:aN} {K:aN→Prop} (h:BO p Y k ops st K):
  ∃st',(∃N,∀m,N≤m→∀call,gf T.K call→sO call (y m) k ops st.g=some st'.g)∧K st':=by
 unfold BO at h
 obtain⟨st',⟨N,h1⟩,h2⟩:=yT hC hy h
 have hst:(aN.mk st.env (st.o++List.replicate k .dead)).g=⟨st.g.env,st.g.o++di k⟩:=by simp[aN.g,yN,IZ]
 rw[hst] at h1
 have hlen:st.g.o.length=st.o.length:=by simp[aN.g,ic]
 refine⟨_,⟨N,fun m hm call hle=>?_⟩,h2⟩
 simp only[sO,hlen]
 rw[h1 m hm call hle]
 simp only[aN.g]
 by_cases hk:k=0
 ·simp[hk]
 ·simp[hk,I0]
theorem yU (hC:iZ T.K p.C) {md:Nat→Md} {E:Operand→List Nat→IR→IR→(Nat→bz)→aN→(Out→aN→Prop)→Prop} {Y:Option YS} (hY:Ue T md Y) (hE:∀x ps az bd Λ st Q,E x ps az bd Λ st Q→VW T md lo (.each x ps az bd) st.g fun out s=>∃ss,s=ss.g∧Q out ss):∀{c:IR} {Λ:Nat→bz} {st:aN} {Q:Out→aN→Prop},d6 p E Y lo c Λ st Q→VW T md lo c st.g fun out s=>∃ss,s=ss.g∧Q out ss:=by
 intro c
 induction c with
 |skip=>intro Λ st Q h;exact VW.skip ⟨st,rfl,h⟩
 |exit id=>intro Λ st Q h;exact VW.exit ⟨st,rfl,h⟩
 |ret=>intro Λ st Q h;exact VW.ret ⟨st,rfl,h⟩
 |goto l=>intro Λ st Q h;exact VW.goto ⟨st,rfl,h⟩
 |jE x a b iha ihb=>
  intro Λ st Q h
  simp only[d6] at h
  have hx:b8 st.g.env x=(eX st.env x).g:=pJ _ _
  split at h
  ·rename_i he
   rw[he] at hx
   exact VW.jE hx (by rw[if_pos rfl];exact iha h)
  ·rename_i he
   rw[he] at hx
   exact VW.jE hx (by rw[if_neg (by simp)];exact ihb h)
  ·rename_i c he
   rw[he] at hx
   have hset:∀v:SV,(SV.sb c).g=v.g→(aN.mk (yB st.env x v) st.o).g=st.g:=fun v hv=>by
    cases x with
    |tmp t=>
     have:fo st.env t= .sb c:=he
     simp only[aN.g,yB]
     rw[yM (by rw[this];exact hv)]
    |_=>rfl
   refine VW.jE hx ?_
   cases c with
   |true=>
    have:=iha (h.1 rfl)
    rw[hset (.bl true) rfl] at this
    rw[if_pos rfl];exact this
   |false=>
    have:=ihb (h.2 rfl)
    rw[hset (.bl false) rfl] at this
    rw[if_neg (by simp)];exact this
  ·exact h.elim
 |turns l b ih=>
  intro Λ st Q h
  cases l with
  |none=>
   simp only[d6] at h
   refine VW.Tj ((ih h).mono ?_)
   rintro out s ⟨ss,rfl,h2⟩
   cases out with
   |norm=>exact⟨by simp,ss,rfl,h2⟩
   |exit id=>exact⟨by simp,ss,rfl,h2⟩
   |ret=>exact⟨by simp,ss,rfl,h2⟩
   |goto l=>exact h2.elim
  |some l=>
   simp only[d6] at h
   split at h
   ·rename_i X shape next J m inner _
    obtain⟨⟨h0,hx⟩,hstep⟩:=h
    refine VW.Tm (fun k s=>∃x,s=(shape x).g∧J x∧m x=k) ?_ (m (next st)) _ ⟨next st,yS h0,hx,rfl⟩
    rintro k s ⟨x,rfl,hj,rfl⟩
    refine(ih (hstep x hj)).mono ?_
    rintro out s ⟨ss,rfl,h2⟩
    cases out with
    |goto l'=>
     obtain⟨rfl,h3,h4,h5⟩:=h2
     refine .inl ⟨rfl,_,h5,_,?_,h4,rfl⟩
     have h6:=yS h3
     rw[←h6,yR,show(shape x).o.length=(shape x).g.o.length from by simp[aN.g,ic]]
    |norm=>exact .inr ⟨by simp,ss,rfl,h2⟩
    |exit id=>exact .inr ⟨by simp,ss,rfl,h2⟩
    |ret=>exact .inr ⟨by simp,ss,rfl,h2⟩
   ·exact h.elim
 |region id draw k ops b6 live pre post=>
  intro Λ st Q h
  simp only[d6] at h
  obtain⟨st0,h0,h⟩:=Ud h
  obtain⟨st1,h1,h2⟩:=yQ h
  have plain:(∀m,draw=true∨md m= .plain∨md m= .round)→tt p k ops b6 st1 (fun st2=>rm p lo post ⟨yA live st2.env,st2.o⟩ fun pI=>Q .norm pI)→VW T md lo (.region id draw k ops b6 live pre post) st.g fun out s=>∃ss,s=ss.g∧Q out ss:=by
   intro hm h2
   obtain⟨st2,h3,h4⟩:=T9 hC h2
   obtain⟨pI,h5,h6⟩:=yQ h4
   refine VW.Td hm ?_
   rw[←h0,h1,h3]
   refine⟨pI,?_,h6⟩
   rw[←h5]
   simp only[aN.g,I3]
  unfold If at h2
  split at h2
  ·exact plain (fun m=> .inr (hY m)) h2
  ·exact plain (fun m=> .inl rfl) h2
  ·obtain⟨y,rfl,hy⟩:=hY
   obtain⟨st2,⟨N,h3⟩,h4⟩:=Uh hC hy h2
   obtain⟨pI,h5,h6⟩:=yQ h4
   refine VW.Tf (st':=st2.g) ⟨N,fun m hm call hle=>?_⟩ ⟨pI,?_,h6⟩
   ·rw[←h0,h1];exact h3 m hm call hle
   ·rw[←h5]
    simp only[aN.g,I3]
 |each x ps az bd _ _=>intro Λ st Q h;exact hE _ _ _ _ _ _ _ h
 |qt g caps d a b _ _=>intro Λ st Q h;exact h.elim
 |seq a b iha ihb=>
  intro Λ st Q h
  simp only[d6] at h
  refine VW.seq ((iha h).mono ?_)
  rintro out s ⟨ss,rfl,h2⟩
  cases out with
  |norm=>rw[if_pos rfl];exact ihb h2
  |exit id=>rw[if_neg (by simp)];exact⟨ss,rfl,h2⟩
  |ret=>rw[if_neg (by simp)];exact⟨ss,rfl,h2⟩
  |goto l=>rw[if_neg (by simp)];exact⟨ss,rfl,h2⟩
 |cond x a b iha ihb=>
  intro Λ st Q h
  simp only[d6] at h
  have hx:b8 st.g.env x=(eX st.env x).g:=pJ _ _
  have hdr:(aN.mk (ry x st.env) st.o).g=⟨kn x st.g.env,st.g.o⟩:=by
   have:∀(t:Nat) (env:cG),(tC t env).map (fun p=>(p.1,p.2.g))=lA t (env.map fun p=>(p.1,p.2.g)):=by
    intro t env
    induction env with
    |nil=>rfl
    |cons p env ih=>
     simp only[tC,lA,List.map_cons]
     cases Nat.beq p.1 t with
     |true=>simpa using ih
     |false=>simpa using ih
   cases x with
   |tmp t=>simp only[aN.g,gE,ry,kn];rw[this]
   |_=>rfl
  split at h
  ·rename_i he
   rw[he] at hx
   exact VW.cond hx (by rw[if_pos rfl,←hdr];exact iha h)
  ·rename_i he
   rw[he] at hx
   exact VW.cond hx (by rw[if_neg (by simp),←hdr];exact ihb h)
  ·rename_i c he
   rw[he] at hx
   refine VW.cond hx ?_
   cases c with
   |true=>rw[if_pos rfl,←hdr];exact iha (h.1 rfl)
   |false=>rw[if_neg (by simp),←hdr];exact ihb (h.2 rfl)
  ·exact h.elim
 |block id b ih=>
  intro Λ st Q h
  simp only[d6] at h
  exact VW.block ((ih h).mono fun out s ⟨ss,e,h2⟩=>⟨ss,e,h2⟩)
 |loop b ih=>
  intro Λ st Q h
  simp only[d6] at h
  split at h
  ·rename_i n Ui
   clear Ui
   induction n generalizing st with
   |zero=>exact h.elim
   |succ n ihn=>
    simp only[BM] at h
    refine VW.loop ((ih h).mono ?_)
    rintro out s ⟨ss,rfl,h2⟩
    cases out with
    |norm=>
     rw[if_pos rfl]
     have:=ihn h2
     rwa [yR,show st.o.length=st.g.o.length from by simp[aN.g,ic]] at this
    |exit id=>rw[if_neg (by simp)];exact⟨ss,rfl,h2⟩
    |ret=>rw[if_neg (by simp)];exact⟨ss,rfl,h2⟩
    |goto l=>rw[if_neg (by simp)];exact⟨ss,rfl,h2⟩
  ·exact h.elim
  ·rename_i X shape next J m inner _
   obtain⟨⟨h0,hx⟩,hstep⟩:=h
   refine VW.Ti (fun k s=>∃x,s=(shape x).g∧J x∧m x=k) ?_ (m (next st)) _ ⟨next st,yS h0,hx,rfl⟩
   rintro k s ⟨x,rfl,hj,rfl⟩
   refine(ih (hstep x hj)).mono ?_
   rintro out s ⟨ss,rfl,h2⟩
   cases out with
   |norm=>
    rw[if_pos rfl]
    obtain⟨h3,h4,h5⟩:=h2
    refine⟨_,h5,_,?_,h4,rfl⟩
    have h6:=yS h3
    rw[←h6,yR,show(shape x).o.length=(shape x).g.o.length from by simp[aN.g,ic]]
   |exit id=>rw[if_neg (by simp)];exact⟨ss,rfl,h2⟩
   |ret=>rw[if_neg (by simp)];exact⟨ss,rfl,h2⟩
   |goto l=>rw[if_neg (by simp)];exact⟨ss,rfl,h2⟩
theorem I7 {st:aN}:∀{rs:List iN} {K:List SV→Prop},iV.goK st rs K→∃l,rs.mapM (lz st.g)=some (gL l)∧K l
 |[],K,h=>⟨[],by simp[gL],h⟩
 |r::rs,K,h=>by
  simp only[iV.goK] at h
  have h1:∃v,lz st.g r=some v.g∧iV.goK st rs fun l=>K (v::l):=by
   unfold iV.Ig at h
   unfold lz
   split at h
   ·rename_i hc
    rw[hc]
    exact⟨_,by simp only[aN.g,iW],h⟩
   ·rename_i n hc
    rw[hc]
    obtain⟨cs,off,v,h2,h3,h4⟩:=Iq h
    refine⟨v,?_,h4⟩
    simp only[aN.g,iW,h2,h3]
  obtain⟨v,h2,h3⟩:=h1
  obtain⟨l,h4,h5⟩:=I7 h3
  exact⟨v::l,by simp[List.mapM_cons,h2,h4,gL],h5⟩
theorem rG {st:aN} {rs:List iN} {K:SV→Prop} (h:iV st rs K):∃r,gX st.g rs=some r.g∧K r:=by
 unfold iV at h
 obtain⟨l,h1,h2⟩:=I7 h
 unfold gX
 rw[h1]
 match l,h2 with
 |[],h2=>exact⟨_,rfl,h2⟩
 |[v],h2=>exact⟨v,rfl,h2⟩
 |v::w::l,h2=>exact⟨_,rfl,h2⟩
theorem rH:∀(i:Nat) (args:List SV),gE (jP i args)=dW i (gL args)
 |_,[]=>rfl
 |i,v::vs=>by
  have:=rH (i+1) vs
  simp only[gE] at this
  simp only[jP,gE,List.map_cons,gL,dW,this]
mutual
theorem I8:∀(v:SV),v.bL=true→v.g.bL=true
 | .agg cs,h=>by simp only[SV.bL,SV.g,AV.bL] at h ⊢;exact pP cs h
 | .aD cs,h=>by simp only[SV.bL,SV.g,AV.bL] at h ⊢;exact pP cs h
 | .fn f a b,h=>by
  cases f<;>simp only[SV.bL,Bool.and_eq_true,Bool.false_eq_true] at h<;>simp only[SV.g,AV.bL,Bool.and_eq_true]<;>first|exact⟨pP a h.1,pP b h.2⟩|exact h.elim
 | .ud,_| .sc _,_| .si ..,_| .il ..,_| .sb _,_| .bl _,_| .row ..,_| .ep ..,_| .ptr ..,_| .ap ..,_| .rp ..,_| .ow ..,_| .os ..,_| .oc ..,_| .mp _,_=>by simp[SV.g,AV.bL]
theorem pP:∀(l:List SV),nM l=true→dX (gL l)=true
 |[],_=>by simp[gL,dX]
 |c::cs,h=>by
  simp only[nM,Bool.and_eq_true] at h
  simp only[gL,dX,Bool.and_eq_true]
  exact⟨I8 c h.1,pP cs h.2⟩
end
theorem yV:∀{l:List AV},(∀a∈l,a.bL=true)→dX l=true
 |[],_=>rfl
 |c::cs,h=>by
  simp only[dX,Bool.and_eq_true]
  exact⟨h c (by simp),yV fun a ha=>h a (by simp[ha])⟩
theorem I9 {x:af} (h:x.bL=true):x.g.bL=true:=by
 cases x with
 |dead=>rfl
 |cells cs e sz pu=>
  simp only[af.bL,Bool.or_eq_true] at h
  simp only[af.g,aP.bL,Bool.or_eq_true]
  exact h.imp id (pP cs)
 |iT s l e t=>
  simp only[af.bL] at h
  simp only[af.g,aP.bL,Bool.or_eq_true]
  have happ:∀(a b:List AV),dX a=true→dX b=true→dX (a++b)=true:=fun a b h1 h2=>by
   induction a with
   |nil=>exact h2
   |cons x a ih=>
    simp only[dX,Bool.and_eq_true] at h1
    simp only[List.cons_append,dX,h1.1,ih h1.2,Bool.and_self]
  exact .inr (happ _ _ (yV fun a ha=>s9 a (hZ ha).pure) (pP t h))
 |row s l e pu=>
  simp only[af.g,aP.bL,Bool.or_eq_true]
  exact .inr (yV fun a ha=>s9 a (hZ ha).pure)
 |map k v ka es kt pu=>
  simp only[af.g,aP.bL,Bool.or_eq_true]
  refine .inr (yV fun a ha=>?_)
  simp only[List.map_map,List.mem_map] at ha
  obtain⟨q,_,rfl⟩:=ha
  simp[iD,AV.bL]
theorem Ja:∀(ps:List Nat) (vs:List SV) (env:cG),gE (yC ps vs env)=ko ps (gL vs) (gE env)
 |[],[],_=>rfl
 |[],_::_,_=>rfl
 |_::_,[],_=>rfl
 |p::ps,v::vs,env=>by
  simp only[yC,gL,ko]
  rw[Ja ps vs]
  rfl
theorem Uj (hC:iZ T.K p.C) {ps:List Nat} {az bd:IR} {Λ:Nat→bz} {env:cG} {vs:List SV} {o:a8} {K:SV→a8→Prop} (h:yD p ps az bd Λ env vs o K):
  ∃(r:SV) (o':a8),(∃N,∀m,N≤m→yn T ps az bd (gE env) m (gL vs) (gO o)=some (r.g,gO o'))∧K r o':=by
 unfold yD at h
 split at h
 ·rename_i hlen
  have w1:=yU (T:=T) (md:=fun _=> .round) hC (Y:=none) (fun _=> .inr rfl) (fun _ _ _ _ _ _ _ h=>h.elim) h
  obtain⟨Uk,s1,⟨N1,e1⟩,ss1,rfl,q1⟩:=w1
  cases Uk with
  |exit id=>exact q1.elim
  |ret=>exact q1.elim
  |goto l=>exact q1.elim
  |norm=>
   have w2:=yU (T:=T) (md:=fun _=> .round) hC (Y:=none) (fun _=> .inr rfl) (fun _ _ _ _ _ _ _ h=>h.elim) q1
   obtain⟨rf,s2,⟨N2,e2⟩,ss2,rfl,q2⟩:=w2
   cases rf with
   |exit id=>exact q2.elim
   |ret=>exact q2.elim
   |goto l=>exact q2.elim
   |norm=>
    refine⟨_,_,⟨N1+N2,fun m hm=>?_⟩,q2⟩
    have e1:=e1 m m (by omega) (by omega)
    have e2:=e2 m m (by omega) (by omega)
    simp only[aN.g,Ja] at e1 e2
    unfold yn
    rw[if_pos (by rw[eY];exact hlen),ic,e1]
    simp only
    rw[ic,e2]
    simp only
    have:=yR o.length ⟨[],ss2.o⟩
    have e3:(trim o.length ⟨[],gO ss2.o⟩).o=gO (trimS o.length ⟨[],ss2.o⟩).o:=by
     have h4:(aN.mk [] ss2.o).g=⟨[],gO ss2.o⟩:=rfl
     rw[←h4,←this]
     rfl
    rw[e3]
    rfl
 ·exact h.elim
theorem Ul (hC:iZ T.K p.C) (hI:∀f F,p.it f=some F→T.fn f=some F) {x:Operand} {ps:List Nat} {az bd:IR} {Λ:Nat→bz} {st:aN} {Q:Out→aN→Prop} (h:BQ p x ps az bd Λ st Q):
  VW T ti lo (.each x ps az bd) st.g fun out s=>∃ss,s=ss.g∧Q out ss:=by
 unfold BQ at h
 split at h
 ·rename_i f first captured hx
  split at h
  ·rename_i F hF
   split at h
   ·rename_i hc
    have hxa:b8 st.g.env x= .fn (.func f) (gL first) (gL captured):=by
     show b8 (gE st.env) x=_
     rw[pJ,hx];rfl
    refine VW.each hxa (hI f F hF) (by rw[eY,eY];exact hc.1) ?_ ?_ ?_
    ·rw[List.all_eq_true]
     intro q hq
     simp only[aN.g,gE,List.mem_map] at hq
     obtain⟨q0,h0,rfl⟩:=hq
     exact I8 _ (List.all_eq_true.1 hc.2.1 q0 h0)
    ·rw[List.all_eq_true]
     intro q hq
     simp only[aN.g,gO,List.mem_map] at hq
     obtain⟨q0,h0,rfl⟩:=hq
     exact I9 (List.all_eq_true.1 hc.2.2 q0 h0)
    ·have w:=yU (T:=T) (md:=fun m=> .iter (yn T ps az bd (gE st.env) m)) hC (Y:=some (yD p ps az bd Λ st.env)) ⟨_,rfl,fun vs o K hk=>Uj hC hk⟩ (fun _ _ _ _ _ _ _ h=>h.elim) h
     have hst:(aN.mk (jP 0 (first++[.fn (.yield 0) [] []]++captured)) st.o).g=⟨dW 0 (gL first++[.fn (.yield 0) [] []]++gL captured),st.g.o⟩:=by
      simp only[aN.g,rH,dj,List.map_append]
      simp[SV.g,gL]
     rw[hst] at w
     have hol:st.g.o.length=st.o.length:=ic st.o
     rw[hol]
     refine w.mono ?_
     rintro out s ⟨ss,rfl,hq⟩
     have fin:∀(ss:aN),(iV ss F.res fun r=>if r.a6 st.o.length&&ss.o.all (fun x=>x.a6 st.o.length)&&decide (st.o.length≤ss.o.length)&&(ss.o.take st.o.length).all af.bL then Q .norm ⟨st.env,ss.o.take st.o.length⟩ else False)→
       ∃r r' o',gX ss.g F.res=some r∧fe st.o.length r ss.g.o=some (r',o')∧o'.all aP.bL=true∧∃s1:aN,(⟨st.g.env,o'⟩:St)=s1.g∧Q .norm s1:=by
      intro ss hq
      obtain⟨r0,h1,h2⟩:=rG hq
      split at h2
      ·rename_i hcc
       simp only[Bool.and_eq_true,decide_eq_true_eq,List.all_eq_true] at hcc
       obtain⟨⟨⟨hc1,hc2⟩,hc3⟩,hc4⟩:=hcc
       have cQ:∀x∈ss.g.o,x.a6 st.o.length=true:=by
        intro x hx
        simp only[aN.g,gO,List.mem_map] at hx
        obtain⟨y,hy,rfl⟩:=hx
        rw[yH]
        exact hc2 y hy
       refine⟨r0.g,r0.g,ss.g.o.take st.o.length,h1,IV (by rw[tG];exact hc1) cQ (by simp only[aN.g,ic];exact hc3),?_,_,?_,h2⟩
       ·rw[List.all_eq_true]
        intro q hq
        simp only[aN.g,gO,←List.map_take,List.mem_map] at hq
        obtain⟨q0,h0,rfl⟩:=hq
        exact I9 (hc4 q0 h0)
       ·simp only[aN.g,gO,List.map_take]
      ·exact h2.elim
     cases out with
     |exit id=>exact hq.elim
     |goto l=>exact hq.elim
     |norm=>exact⟨.inl rfl,fin ss hq⟩
     |ret=>exact⟨.inr rfl,fin ss hq⟩
   ·exact h.elim
  ·exact h.elim
 ·exact h.elim
theorem yW (hC:iZ T.K p.C) (hI:∀f F,p.it f=some F→T.fn f=some F) {c:IR} {Λ:Nat→bz} {st:aN} {Q:Out→aN→Prop} (h:wpS p lo c Λ st Q):VW T ti lo c st.g fun out s=>∃ss,s=ss.g∧Q out ss:=
 yU hC (Y:=none) (fun _=> .inl rfl) (fun _ _ _ _ _ _ _ h=>Ul hC hI h) h
theorem Jb {Λ:Nat→bz} {P:Program} (hT:gd P T) (hC:iZ T.K p.C) (hI:∀f F,p.it f=some F→T.fn f=some F) {f:FuncId} {F:aT} (hF:T.fn f=some F) {args:List SV} {r:AV} (hK:T.K f (gL args) [] false=none) (hlen:args.length=F.params)
  (h:rB p Λ F args fun v=>v.g=r):eG P f=true∧iQ P f (gL args) [] r []:=by
 unfold rB at h
 have hw:=yW hC hI h
 have hst:(aN.mk (jP 0 args) []).g=⟨dW 0 (gL args),[]⟩:=by simp[aN.g,rH,gO]
 rw[hst] at hw
 obtain⟨h1,h2,_⟩:=yo hT hF (o:=[]) (own:=false) hK (by rw[eY];exact hlen) (v:=r) (o':=[]) (hw.mono fun out s hs=>by
  obtain⟨ss,rfl,hq⟩:=hs
  cases out with
  |exit id=>exact hq.elim
  |goto l=>exact hq.elim
  |norm=>
   obtain⟨r0,h1,h2⟩:=rG hq
   obtain⟨v,h3,h4⟩:=B7 h2
   refine⟨.inl rfl,?_⟩
   rw[h1]
   show finish false 0 r0.g ss.g.o=_
   have:freeze ss.g.o 6 r0.g=some v.g:=h3
   simp[finish,this,h4]
  |ret=>
   obtain⟨r0,h1,h2⟩:=rG hq
   obtain⟨v,h3,h4⟩:=B7 h2
   refine⟨.inr rfl,?_⟩
   rw[h1]
   show finish false 0 r0.g ss.g.o=_
   have:freeze ss.g.o 6 r0.g=some v.g:=h3
   simp[finish,this,h4])
 exact⟨h1,h2⟩
end
structure nP (α:Type) where
 put:α→SV
 dec:SV→Option α
 ok:∀v a,dec v=some a→v.g=(put a).g
 inj:∀a b,(put a).g=(put b).g→a=b
structure mL (α:Type) where
 put:α→List SV
 dec:List SV→Option α
 ok:∀v a,dec v=some a→gL v=gL (put a)
 inj:∀a b,gL (put a)=gL (put b)→a=b
def mL.one {α:Type} (c:nP α):mL α where
 put a:=[c.put a]
 dec
  |[v]=>c.dec v
  |_=>none
 ok v a h:=by
  match v,h with
  |[v],h=>simp only[gL,c.ok v a h]
 inj a b h:=by
  simp only[gL,List.cons.injEq,and_true] at h
  exact c.inj a b h
def mL.cons {α β:Type} (c:nP α) (d:mL β):mL (α×β) where
 put a:=c.put a.1::d.put a.2
 dec
  |v::vs=>match c.dec v,d.dec vs with
   |some a,some b=>some (a,b)
   |_,_=>none
  |[]=>none
 ok v a h:=by
  match v,h with
  |v::vs,h=>
   simp only at h
   split at h
   ·rename_i x y h1 h2
    simp only[Option.some.injEq] at h;subst h
    simp only[gL,c.ok v x h1,d.ok vs y h2]
   ·cases h
 inj a b h:=by
  simp only[gL,List.cons.injEq] at h
  exact Prod.ext (c.inj _ _ h.1) (d.inj _ _ h.2)
def mL.nil:mL Unit where
 put _:=[]
 dec
  |[]=>some ()
  |_=>none
 ok v a h:=by
  match v,h with
  |[],h=>rfl
 inj a b h:=rfl
structure bf where
 f:FuncId
 α:Type
 A:mL α
 dom:α→Prop
 res:α→SV
def Holds (P:Program) (c:bf):Prop:=∀a,c.dom a→eG P c.f=true∧iQ P c.f (gL (c.A.put a)) [] (c.res a).g []
def lJ (f:FuncId):List bf→Option bf
 |[]=>none
 |c::r=>bif Nat.beq c.f f then some c else lJ f r
def rI (L:List bf) (f:FuncId) (args:List SV) (K:SV→Prop):Prop:=
 match lJ f L with
 |some c=>eH (c.A.dec args) fun a=>c.dom a∧K (c.res a)
 |none=>False
structure kA where
 K:FuncId→List AV→Store→Option (AV×Store)
 C:FuncId→List SV→a8→(SV→a8→Prop)→Prop
def kA.none:kA:=⟨fun _ _ _=> .none,fun _ _ _ _=>False⟩
noncomputable def nQ (L:List bf) (W:kA):bB:=fun f args o own=>
 if own then W.K f args o
 else match o with
  |[]=>match lJ f L with
   |some c=>(ans (fun a=>gL (c.A.put a)) c.dom (fun a=>(c.res a).g) args).map fun v=>(v,[])
   |none=> .none
  |_=> .none
noncomputable def lK (fn:FuncId→Option aT) (L:List bf) (W:kA):Tab:=⟨fn,nQ L W⟩
structure bu (P:Program) (W:kA):Prop where
 K:∀f args o r o',W.K f args o=some (r,o')→eG P f=true∧iQ P f args o r o'
 C:∀(call:bB),(∀f args o,call f args o true=W.K f args o)→∀f args o K,W.C f args o K→∃(r:SV) (o':a8),eA call f (gL args) (gO o)=some (r.g,gO o')∧K r o'
theorem bu.none (P:Program):bu P kA.none where
 K:=fun _ _ _ _ _ h=>by cases h
 C:=fun _ _ _ _ _ _ h=>h.elim
theorem Jc:∀{L:List bf} {f:FuncId} {c:bf},lJ f L=some c→c.f=f∧c∈L
 |[],_,_,h=>by cases h
 |d::L,f,c,h=>by
  simp only[lJ] at h
  cases hq:Nat.beq d.f f with
  |true=>
   rw[hq] at h
   simp only[cond_true,Option.some.injEq] at h
   subst h
   exact⟨Nat.eq_of_beq_eq_true hq,by simp⟩
  |false=>
   rw[hq] at h
   simp only[cond_false] at h
   obtain⟨h1,h2⟩:=Jc h
   exact⟨h1,by simp[h2]⟩
variable {P:Program} {L:List bf} {W:kA} {fn:FuncId→Option aT}
theorem tP (hW:bu P W) (hL:∀c∈L,Holds P c) (h0:gd P ⟨fn,fun _ _ _ _=>none⟩):gd P (lK fn L W) where
 fn:=h0.fn
 K:=fun g args o own r o' h=>by
  simp only[lK,nQ] at h
  cases own with
  |true=>
   simp only[if_true] at h
   obtain⟨h1,h2⟩:=hW.K _ _ _ _ _ h
   exact⟨h1,h2,fun hh=>by cases hh⟩
  |false=>
   simp only[Bool.false_eq_true,if_false] at h
   split at h
   ·split at h
    ·rename_i c hc
     obtain⟨rfl,hm⟩:=Jc hc
     obtain⟨v,hv,h2⟩:=Option.map_eq_some_iff.1 h
     simp only[Prod.mk.injEq] at h2
     obtain⟨rfl,rfl⟩:=h2
     obtain⟨a,rfl,hd,rfl⟩:=Tq hv
     obtain⟨h3,h4⟩:=hL c hm a hd
     exact⟨h3,h4,fun _=>rfl⟩
    ·cases h
   ·cases h
theorem tQ (hW:bu P W):iZ (lK fn L W).K ⟨rI L,W.C⟩ where
 pure:=fun f args K h=>by
  simp only[rI] at h
  split at h
  ·rename_i c hc
   obtain⟨a,h1,h2,h3⟩:=eP h
   refine⟨c.res a,?_,h3⟩
   have:=c.A.ok _ _ h1
   simp only[lK,nQ,Bool.false_eq_true,if_false,hc,this]
   rw[Tn (enc:=fun a=>gL (c.A.put a)) c.A.inj h2]
   rfl
  ·exact h.elim
 own:=fun f args o K h=>hW.C _ (fun f args o=>by simp[lK,nQ]) f args o K h
theorem Jd {f:FuncId} {args:List AV} (h:lJ f L=none):(lK fn L W).K f args [] false=none:=by
 simp[lK,nQ,h]
def mM (L:List bf) (W:kA) (ty:TypeId→Option ai) (mt:List Nat×Bool→Option (ai×ai)) (fn:FuncId→Option aT):dY:=⟨⟨rI L,W.C⟩,ty,mt,fun _=>none,fn,fun _=>false⟩
theorem holds_of (c:bf) {F:aT} {ty:TypeId→Option ai} {mt:List Nat×Bool→Option (ai×ai)} {Λ:c.α→Nat→bz} (h0:gd P ⟨fn,fun _ _ _ _=>none⟩) (hW:bu P W) (hL:∀c∈L,Holds P c)
  (hF:fn c.f=some F) (hfr:lJ c.f L=none) (hlen:∀a,(c.A.put a).length=F.params)
  (h:∀a,c.dom a→rB (mM L W ty mt fn) (Λ a) F (c.A.put a) fun v=>v.same (c.res a)):Holds P c:=by
 intro a hd
 exact Jb (p:=mM L W ty mt fn) (Λ:=Λ a) (tP hW hL h0) (tQ hW) (fun _ _ h=>h) hF (Jd hfr) (hlen a) (h a hd)
def CO (L:List bf) (W:kA) (ty:TypeId→Option ai) (mt:List Nat×Bool→Option (ai×ai)) (fn:FuncId→Option aT) (ro:FuncId→Bool):dY:=⟨⟨rI L,W.C⟩,ty,mt,fun _=>none,fn,ro⟩
theorem Um (c:bf) {F:aT} {ty:TypeId→Option ai} {mt:List Nat×Bool→Option (ai×ai)} {ro:FuncId→Bool} {Λ:c.α→Nat→bz} (h0:gd P ⟨fn,fun _ _ _ _=>none⟩) (hW:bu P W) (hL:∀c∈L,Holds P c)
  (hF:fn c.f=some F) (hfr:lJ c.f L=none) (hlen:∀a,(c.A.put a).length=F.params)
  (h:∀a,c.dom a→rB (CO L W ty mt fn ro) (Λ a) F (c.A.put a) fun v=>v.same (c.res a)):Holds P c:=by
 intro a hd
 exact Jb (p:=CO L W ty mt fn ro) (Λ:=Λ a) (tP hW hL h0) (tQ hW) (fun _ _ h=>h) hF (Jd hfr) (hlen a) (h a hd)
def cT (k:IntKind):nP Int where
 put n:=.si k n
 dec v:=v.int k
 ok v a h:=by rw[jN h];rfl
 inj a b h:=by simpa[SV.g] using h
def CP:nP Bool where
 put b:=.sb b
 dec v:=v.boo
 ok v a h:=by rw[tj h];rfl
 inj a b h:=by simpa[SV.g] using h
theorem mN:(s:ai)→(x y:s.T)→bN s x=bN s y→(hf:s.flat=true:=by rfl)→x=y
 | .i k,x,y,h,_=>by simpa[bN] using h
 | .b,x,y,h,_=>by simpa[bN] using h
 | .dy,⟨a0,a1,a2,a3,a4,a5⟩,⟨b0,b1,b2,b3,b4,b5⟩,h,_=>by
  simp only[bN,iv,List.cons.injEq,Value.int.injEq,true_and,and_true] at h
  simp only[bp.mk.injEq]
  exact h
 | .off,⟨b,⟨a0,a1,a2,a3,a4,a5⟩,v⟩,⟨c,⟨b0,b1,b2,b3,b4,b5⟩,w⟩,h,_=>by
  simp only[bN,iv,List.cons.injEq,Value.int.injEq,true_and,and_true] at h
  simp only[Off.mk.injEq,bp.mk.injEq]
  simp[h]
 | .need,⟨a,b⟩,⟨c,d⟩,h,_=>by
  simp only[bN,iv,List.cons.injEq,Value.int.injEq,true_and,and_true] at h
  simp[h]
 | .key,⟨b,⟨a0,a1,a2,a3,a4,a5⟩⟩,⟨c,⟨b0,b1,b2,b3,b4,b5⟩⟩,h,_=>by
  simp only[bN,iv,List.cons.injEq,Value.int.injEq,true_and,and_true] at h
  simp only[iC.mk.injEq,bp.mk.injEq]
  simp[h]
 | .sit,⟨m,⟨a0,a1,a2,a3,a4,a5⟩,⟨c0,c1,c2,c3,c4,c5⟩⟩,⟨n,⟨b0,b1,b2,b3,b4,b5⟩,⟨d0,d1,d2,d3,d4,d5⟩⟩,h,_=>by
  simp only[bN,iv,List.cons.injEq,Value.int.injEq,true_and,and_true] at h
  simp only[Sit.mk.injEq,bp.mk.injEq]
  simp[h]
 | .aY _,_,_,_,hf=>by simp[ai.flat] at hf
 | .pair s t,(a,b),(c,d),h,hf=>by
  simp only[ai.flat,Bool.and_eq_true] at hf
  simp only[bN] at h
  obtain⟨h1,h2⟩:=List.append_inj h (by rw[yp,yp])
  rw[mN s a c h1 hf.1,mN t b d h2 hf.2]
theorem CQ {α β:Type} {n:Nat} {f:α→List β} (hn:∀x,(f x).length=n) (hf:∀x y,f x=f y→x=y):∀{l m:List α},l.length=m.length→l.flatMap f=m.flatMap f→l=m
 |[],[],_,_=>rfl
 |[],_::_,h,_=>by simp at h
 |_::_,[],h,_=>by simp at h
 |x::l,y::m,hl,h=>by
  simp only[List.flatMap_cons] at h
  obtain⟨h1,h2⟩:=List.append_inj h (by rw[hn,hn])
  simp only[List.length_cons,Nat.add_right_cancel_iff] at hl
  rw[hf x y h1,CQ hn hf hl h2]
theorem rJ:(s:ai)→(x y:s.T)→(h:bP s x=bP s y)→x=y
 | .aY s,x,y,h=>by
  simp only[bP,List.cons.injEq,AV.sl.injEq,and_true] at h
  exact CQ (gC s) (rJ s) h.1 h.2
 | .pair s t,(a,b),(c,d),h=>by
  simp only[bP] at h
  obtain⟨h1,h2⟩:=List.append_inj h (by rw[gC,gC])
  rw[rJ s a c h1,rJ t b d h2]
 | .i k,x,y,h=>mN (.i k) x y (nO h)
 | .b,x,y,h=>mN .b x y (nO h)
 | .dy,x,y,h=>mN .dy x y (nO h)
 | .off,x,y,h=>mN .off x y (nO h)
 | .need,x,y,h=>mN .need x y (nO h)
 | .key,x,y,h=>mN .key x y (nO h)
 | .sit,x,y,h=>mN .sit x y (nO h)
theorem mO (s:ai) {l m:List s.T} (hl:l.length=m.length) (h:bn s l=bn s m):l=m:=
 CQ (gC s) (rJ s) hl h
def dc (s:ai):nP s.T where
 put x:=.agg (encS s x)
 dec
  | .agg cs=>fj s cs
  |_=>none
 ok v a h:=by
  match v,h with
  | .agg cs,h=>simp only at h;simp only[SV.g,dj,js h,mC]
 inj a b h:=by
  simp only[SV.g,dj,mC,AV.agg.injEq] at h
  exact rJ s a b h
theorem nS {s:ai} {v:SV} {l:List s.T} (h:jM s v=some l):v.g=(SV.row s l).g:=by
 cases v<;>simp only[jM,reduceCtorEq] at h
 rename_i s' l'
 split at h
 ·rename_i l2 hc
  simp only[Option.some.injEq] at h;subst h
  obtain⟨rfl,h2,h3⟩:=tM hc
  simp only[SV.g,h2,h3]
 ·split at h
  ·simp only[Option.some.injEq] at h;subst h
   simp[SV.g,bn]
  ·cases h
def bR (s:ai):nP (List s.T) where
 put l:=.row s l
 dec:=jM s
 ok v a h:=nS h
 inj a b h:=by
  simp only[SV.g,AV.sl.injEq] at h
  exact mO s h.1 h.2
structure aE where
 supply:bp
 opn:bp
 cls:bp
 classes:List Int
 offers:List Off
def aE.ss (p:aE):List SV:=
 [.si .i64 p.supply.a0,.si .i64 p.supply.a1,.si .i64 p.supply.a2,.si .i64 p.supply.a3,.si .i64 p.supply.a4,.si .i64 p.supply.a5,
  .si .i64 p.opn.a0,.si .i64 p.opn.a1,.si .i64 p.opn.a2,.si .i64 p.opn.a3,.si .i64 p.opn.a4,.si .i64 p.opn.a5,
  .si .i64 p.cls.a0,.si .i64 p.cls.a1,.si .i64 p.cls.a2,.si .i64 p.cls.a3,.si .i64 p.cls.a4,.si .i64 p.cls.a5,
  .row (.i .i64) p.classes,.row .off p.offers]
def yX:List SV→Option aE
 |[s0,s1,s2,s3,s4,s5,o0,o1,o2,o3,o4,o5,c0,c1,c2,c3,c4,c5,k,f]=>match fj .dy [s0,s1,s2,s3,s4,s5],fj .dy [o0,o1,o2,o3,o4,o5],fj .dy [c0,c1,c2,c3,c4,c5],jM (.i .i64) k,jM .off f with
  |some s,some o,some c,some k,some f=>some ⟨s,o,c,k,f⟩
  |_,_,_,_,_=>none
 |_=>none
theorem Je {cs:List SV} {p:aE} (h:yX cs=some p):gL cs=gL p.ss:=by
 unfold yX at h
 split at h
 ·split at h
  ·rename_i s o c k f h1 h2 h3 h4 h5
   simp only[Option.some.injEq] at h;subst h
   have h1:=js h1
   have h2:=js h2
   have h3:=js h3
   have h4:=nS h4
   have h5:=nS h5
   simp only[List.map_cons,List.map_nil,bP,bN,List.cons.injEq,and_true] at h1 h2 h3
   simp only[aE.ss,gL,List.cons.injEq,and_true,h4,h5]
   simp only[h1,h2,h3,SV.g,iv,and_self]
  ·cases h
 ·cases h
def ef:nP aE where
 put p:=.agg p.ss
 dec
  | .agg cs=>yX cs
  |_=>none
 ok v a h:=by
  match v,h with
  | .agg cs,h=>simp only at h;simp only[SV.g,Je h]
 inj a b h:=by
  obtain⟨⟨a0,a1,a2,a3,a4,a5⟩,⟨b0,b1,b2,b3,b4,b5⟩,⟨c0,c1,c2,c3,c4,c5⟩,k,f⟩:=a
  obtain⟨⟨d0,d1,d2,d3,d4,d5⟩,⟨e0,e1,e2,e3,e4,e5⟩,⟨f0,f1,f2,f3,f4,f5⟩,k',f'⟩:=b
  simp only[SV.g,aE.ss,gL,AV.agg.injEq,List.cons.injEq,and_true,AV.sc.injEq,Value.int.injEq,true_and,AV.sl.injEq] at h
  obtain⟨h0,h1,h2,h3,h4,h5,g0,g1,g2,g3,g4,g5,k0,k1,k2,k3,k4,k5,m,n⟩:=h
  have m2:=mO (.i .i64) m.1 m.2
  have n2:=mO .off n.1 n.2
  simp only[aE.mk.injEq,bp.mk.injEq]
  exact⟨⟨h0,h1,h2,h3,h4,h5⟩,⟨g0,g1,g2,g3,g4,g5⟩,⟨k0,k1,k2,k3,k4,k5⟩,m2,n2⟩
def rK:TypeId→Option ai
 |2=>some (.i .i64)
 |3=>some (.i .i64)
 |24=>some (.aY (.i .i64))
 |161=>some (.i .u32)
 |70=>some (.pair .b (.pair (.aY (.i .u32)) (.aY (.i .u32))))
 |37=>some (.pair (.aY (.i .i64)) (.i .i64))
 |72=>some (.aY (.pair .b (.pair (.aY (.i .u32)) (.aY (.i .u32)))))
 |167=>some (.pair (.aY (.pair .b (.pair (.aY (.i .u32)) (.aY (.i .u32))))) (.pair .b (.pair (.aY (.i .u32)) (.aY (.i .u32)))))
 |4=>some .b
 |139=>some (.pair (.i .i64) (.pair (.i .i64) (.pair (.i .i64) (.pair (.i .i64) (.aY (.pair .b (.pair (.aY (.i .u32)) (.aY (.i .u32)))))))))
 |58=>some .off
 |_=>none
def rL:List Nat×Bool→Option (ai×ai)
 |([0,0,0,0,0,0,0],true)=>some (.key,.b)
 |([0,0,0,0,0,0,0,0,0,0,0,0,0],true)=>some (.sit,.i .i64)
 |_=>none
mutual
def SV.ren (m:Nat→Option Nat):SV→Option SV
 | .agg cs=>(lL m cs).map .agg
 | .aD cs=>(lL m cs).map .aD
 | .ptr id off tot=>(m id).map fun i=> .ptr i off tot
 | .ap id a b c d e=>(m id).map fun i=> .ap i a b c d e
 | .rp id a b c d=>(m id).map fun i=> .rp i a b c d
 | .ow id n sz=>(m id).map fun i=> .ow i n sz
 | .os id a b c d=>(m id).map fun i=> .os i a b c d
 | .oc id a b c d=>(m id).map fun i=> .oc i a b c d
 | .mp id=>(m id).map .mp
 | .fn f a b=>match lL m a,lL m b with
  |some a',some b'=>some (.fn f a' b')
  |_,_=>none
 | .ud=>some .ud
 | .sc v=>some (.sc v)
 | .il k n=>some (.il k n)
 | .si k n=>some (.si k n)
 | .bl b=>some (.bl b)
 | .sb b=>some (.sb b)
 | .row s l=>some (.row s l)
 | .ep s l i o=>some (.ep s l i o)
def lL (m:Nat→Option Nat):List SV→Option (List SV)
 |[]=>some []
 |c::cs=>match c.ren m,lL m cs with
  |some c',some cs'=>some (c'::cs')
  |_,_=>none
end
mutual
theorem CS {m:Nat→Option Nat}:∀{v v':SV},v.ren m=some v'→v.g.ren m=some v'.g
 | .agg cs,v',h=>by
  simp only[SV.ren] at h
  obtain⟨cs',h1,rfl⟩:=Option.map_eq_some_iff.1 h
  simp only[SV.g,AV.ren,pQ h1,Option.map_some]
 | .aD cs,v',h=>by
  simp only[SV.ren] at h
  obtain⟨cs',h1,rfl⟩:=Option.map_eq_some_iff.1 h
  simp only[SV.g,AV.ren,pQ h1,Option.map_some]
 | .fn f a b,v',h=>by
  simp only[SV.ren] at h
  split at h
  ·rename_i a' b' h1 h2
   simp only[Option.some.injEq] at h;subst h
   simp only[SV.g,AV.ren,pQ h1,pQ h2]
  ·cases h
 | .ptr id _ _,v',h| .ap id _ _ _ _ _,v',h| .rp id _ _ _ _,v',h| .ow id _ _,v',h| .os id _ _ _ _,v',h| .oc id _ _ _ _,v',h| .mp id,v',h=>by
  simp only[SV.ren] at h
  obtain⟨i,h1,rfl⟩:=Option.map_eq_some_iff.1 h
  simp only[SV.g,AV.ren,h1,Option.map_some]
 | .ud,v',h| .sc _,v',h| .il _ _,v',h| .si _ _,v',h| .bl _,v',h| .sb _,v',h| .row _ _,v',h| .ep _ _ _ _,v',h=>by
  simp only[SV.ren,Option.some.injEq] at h
  subst h
  simp only[SV.g,AV.ren]
theorem pQ {m:Nat→Option Nat}:∀{l l':List SV},lL m l=some l'→eM m (gL l)=some (gL l')
 |[],l',h=>by simp[lL] at h;subst h;simp[gL,eM]
 |c::cs,l',h=>by
  simp only[lL] at h
  split at h
  ·rename_i c' cs' h1 h2
   simp only[Option.some.injEq] at h;subst h
   simp only[gL,eM,CS h1,pQ h2]
  ·cases h
end
def af.ren (m:Nat→Option Nat):af→Option af
 | .cells cs e sz pu=>if pu then some (.cells cs e sz pu) else(lL m cs).map fun cs'=> .cells cs' e sz pu
 | .dead=>some .dead
 | .row s l e pu=>some (.row s l e pu)
 | .map sk sv ka es kt pu=>some (.map sk sv ka es kt pu)
 | .iT .. =>none
theorem Jf {m:Nat→Option Nat}:∀{l:List AV},(∀a∈l,Plain a)→eM m l=some l
 |[],_=>by simp[eM]
 |a::cs,h=>by
  have ih:=Jf (m:=m) (l:=cs) fun b hb=>h b (by simp[hb])
  rcases h a (by simp) with⟨v,rfl,_⟩|⟨n,ds,rfl,_⟩<;>simp only[eM,AV.ren,ih]
theorem Jg {m:Nat→Option Nat}:∀{l:List (Value×AV)},(∀a∈l,∃v,a.2= .sc v)→jF m l=some l
 |[],_=>by simp[jF]
 |(k,c)::cs,h=>by
  obtain⟨v,hv⟩:=h (k,c) (by simp)
  simp only at hv
  subst hv
  simp only[jF,AV.ren,Jg (l:=cs) fun a ha=>h a (by simp[ha])]
theorem CU {sk sv:ai} {ka:Bool} {es:List (sk.T×sv.T)}:∀a∈es.map (fun p=>(kw sk ka p.1,iD sv p.2)),∃v,a.2= .sc v:=fun a ha=>by
 obtain⟨q,_,rfl⟩:=List.mem_map.1 ha
 exact⟨_,rfl⟩
theorem Jh {m:Nat→Option Nat} {x y:af} (h:x.ren m=some y):x.g.ren m=some y.g:=by
 cases x with
 |dead=>simp[af.ren] at h;subst h;rfl
 |cells cs e sz pu=>
  simp only[af.ren] at h
  cases pu with
  |true=>simp only[if_true,Option.some.injEq] at h;subst h;simp only[af.g,aP.ren,if_true]
  |false=>
   simp only[Bool.false_eq_true,if_false] at h
   obtain⟨cs',h1,rfl⟩:=Option.map_eq_some_iff.1 h
   simp only[af.g,aP.ren,Bool.false_eq_true,if_false,pQ h1,Option.map_some]
 |iT s l e t=>simp[af.ren] at h
 |row s l e pu=>
  simp only[af.ren,Option.some.injEq] at h;subst h
  simp only[af.g,aP.ren,Jf (fun a ha=>hZ ha),Option.map_some]
  cases pu<;>rfl
 |map sk sv ka es kt pu=>
  simp only[af.ren,Option.some.injEq] at h;subst h
  simp only[af.g,aP.ren,Jg CU,Option.map_some]
  cases pu<;>rfl
def tV (m:Nat→Option Nat):a8→Option a8
 |[]=>some []
 |x::r=>match x.ren m,tV m r with
  |some y,some l=>some (y::l)
  |_,_=>none
theorem Ji {m:Nat→Option Nat}:∀{o o':a8},tV m o=some o'→mi m (gO o)=some (gO o')
 |[],o',h=>by simp[tV] at h;subst h;rfl
 |x::r,o',h=>by
  simp only[tV] at h
  split at h
  ·rename_i y l h1 h2
   simp only[Option.some.injEq] at h;subst h
   have:=Ji h2
   simp only[gO,List.map_cons] at this ⊢
   simp only[mi,Jh h1,this]
  ·cases h
def rM (o:a8) (ids:List Nat):List Nat→Option a8
 |[]=>some []
 |i::r=>match o[i]?,rM o ids r with
  |some x,some l=>match x.ren (fun j=>idxOf ids j) with
   |some y=>some (y::l)
   |none=>none
  |_,_=>none
theorem CV {o:a8} {ids:List Nat}:∀{r:List Nat} {o':a8},rM o ids r=some o'→fV (gO o) ids r=some (gO o')
 |[],o',h=>by simp[rM] at h;subst h;rfl
 |i::r,o',h=>by
  simp only[rM] at h
  split at h
  ·rename_i x l h1 h2
   split at h
   ·rename_i y hy
    simp only[Option.some.injEq] at h;subst h
    simp only[fV,dA h1,CV h2,Jh hy,Option.map_some]
    rfl
   ·cases h
  ·cases h
def rN (o:a8):List Nat→a8→a8
 |[],_=>o
 |_,[]=>o
 |i::r,x::l=>rN (o.set i x) r l
theorem Jj:∀{ids:List Nat} {o l:a8},gO (rN o ids l)=gW (gO o) ids (gO l)
 |[],o,l=>by simp[rN,gW]
 |_::_,o,[]=>by simp[rN,gW,gO]
 |i::r,o,x::l=>by
  simp only[rN]
  rw[Jj,kx]
  simp[gO,gW]
def kB (o:a8):Nat→List SV→List Nat→List Nat
 |0,_,acc=>acc
 |_,[],acc=>acc
 |d+1,v::vs,acc=>
  let visit (id:Nat) (acc:List Nat):List Nat:=
   if acc.contains id then acc else
   match o[id]? with
   |some (.cells cs _ _ pu)=>if pu then acc++[id] else kB o d cs (acc++[id])
   |_=>acc++[id]
  kB o d vs (match v with
   | .agg cs| .aD cs=>kB o d cs acc
   | .ptr id _ _| .ap id _ _ _ _ _| .rp id _ _ _ _| .ow id _ _| .os id _ _ _ _| .oc id _ _ _ _| .mp id=>visit id acc
   | .fn _ a b=>kB o d b (kB o d a acc)
   |_=>acc)
theorem tW {o:Store}:∀{d:Nat} {l:List AV} {acc:List Nat},(∀a∈l,Plain a)→bq o d l acc=acc
 |0,_,_,_=>by unfold bq;rfl
 |d+1,[],_,_=>by unfold bq;rfl
 |d+1,a::l,acc,h=>by
  have ih:=tW (o:=o) (d:=d) (l:=l) (acc:=acc) fun b hb=>h b (by simp[hb])
  rcases h a (by simp) with⟨v,rfl,_⟩|⟨n,ds,rfl,_⟩<;>(unfold bq;exact ih)
theorem Jk {o:Store}:∀{d:Nat} {l:List AV} {acc:List Nat},(∀a∈l,∃v,a= .sc v)→bq o d l acc=acc
 |0,_,_,_=>by simp[bq]
 |d+1,[],_,_=>by simp[bq]
 |d+1,a::l,acc,h=>by
  obtain⟨v,rfl⟩:=h a (by simp)
  simp only[bq]
  exact Jk fun a ha=>h a (by simp[ha])
theorem Un {l:List (Value×AV)} (h:∀a∈l,∃v,a.2= .sc v):∀a∈l.map (·.2),∃v,a= .sc v:=fun a ha=>by
 obtain⟨q,hq,rfl⟩:=List.mem_map.1 ha
 exact h q hq
def af.yY:af→Bool
 | .iT .. =>false
 |_=>true
theorem Jl {o:a8} (hno:o.all af.yY=true):∀{d:Nat} {vs:List SV} {acc:List Nat},bq (gO o) d (gL vs) acc=kB o d vs acc:=by
 intro d
 induction d with
 |zero=>intro vs acc;simp[bq,kB]
 |succ d ih=>
  intro vs acc
  cases vs with
  |nil=>simp[gL,bq,kB]
  |cons v vs=>
   have hv:∀(id:Nat) (acc:List Nat),(if acc.contains id then acc else
     match(gO o)[id]? with
     |some (.cells cs _ _ pu)=>if pu then acc++[id] else bq (gO o) d cs (acc++[id])
     |some (.map es _ pu)=>if pu then acc++[id] else bq (gO o) d (es.map (·.2)) (acc++[id])
     |_=>acc++[id])=(if acc.contains id then acc else
     match o[id]? with
     |some (.cells cs _ _ pu)=>if pu then acc++[id] else kB o d cs (acc++[id])
     |_=>acc++[id]):=by
    intro id acc
    rw[BZ]
    cases hoi:o[id]? with
    |none=>rfl
    |some x=>
     cases x with
     |iT s l e t=>
      have:=List.all_eq_true.1 hno _ (List.mem_of_getElem? hoi)
      simp[af.yY] at this
     |dead=>rfl
     |cells cs e sz pu=>simp only[Option.map_some,af.g,ih]
     |row s l e pu=>simp only[Option.map_some,af.g,tW (fun a ha=>hZ ha),ite_self]
     |map sk sv ka es kt pu=>simp only[Option.map_some,af.g,Jk (Un CU),ite_self]
   simp only[gL,bq,kB]
   rw[ih]
   congr 1
   cases v<;>simp only[SV.g,ih]<;>exact hv _ _
def CW (C:FuncId→List SV→a8→(SV→a8→Prop)→Prop) (f:FuncId) (args:List SV) (o:a8) (K:SV→a8→Prop):Prop:=
 if o.all af.yY=false then False else
 let ids:=kB o dr args []
 match lL (fun j=>idxOf ids j) args,rM o ids ids with
 |some args',some small=>C f args' small fun r kh=>
   if kh.length<ids.length∨eA.ki ids=false then False else
   match r.ren (jG ids o.length),tV (jG ids o.length) kh with
   |some r',some big=>K r' (rN o ids (big.take ids.length)++big.drop ids.length)
   |_,_=>False
 |_,_=>False
theorem Uo {call:bB} {C:FuncId→List SV→a8→(SV→a8→Prop)→Prop}
  (hC:∀f args o K,C f args o K→∃(r:SV) (o':a8),call f (gL args) (gO o) true=some (r.g,gO o')∧K r o')
  {f:FuncId} {args:List SV} {o:a8} {K:SV→a8→Prop} (h:CW C f args o K):
  ∃(r:SV) (o':a8),eA call f (gL args) (gO o)=some (r.g,gO o')∧K r o':=by
 unfold CW at h
 split at h
 ·exact h.elim
 rename_i hno
 simp only[Bool.not_eq_false] at hno
 simp only at h
 split at h
 ·rename_i args' small h1 h2
  obtain⟨r,kh,h3,h4⟩:=hC _ _ _ _ h
  split at h4
  ·exact h4.elim
  ·rename_i hn
   split at h4
   ·rename_i r' big h5 h6
    refine⟨r',_,?_,h4⟩
    unfold eA
    simp only[Jl hno]
    rw[pQ h1,CV h2]
    simp only[h3,ic]
    rw[if_neg hn,CS h5,Ji h6]
    simp only[yN,Jj]
    simp[gO]
   ·exact h4.elim
 ·exact h.elim
section
variable {P:Program} {T:Tab} {p:dY} {Λ:Nat→bz}
theorem Up (hT:gd P T) (hC:iZ T.K p.C) (hI:∀f F,p.it f=some F→T.fn f=some F) {f:FuncId} {F:aT} (hF:T.fn f=some F) {args:List SV} {o:a8} {r:AV} {o':Store} (hK:T.K f (gL args) (gO o) true=none) (hlen:args.length=F.params)
  {Q:SV→a8→Prop} (hQ:∀v s,Q v s→v.g=r∧gO s=o') (h:yE p Λ F args o Q):eG P f=true∧iQ P f (gL args) (gO o) r o':=by
 unfold yE at h
 have hw:=yW hC hI h
 have hst:(aN.mk (jP 0 args) o).g=⟨dW 0 (gL args),gO o⟩:=by simp[aN.g,rH]
 rw[hst] at hw
 have hol:(gO o).length=o.length:=ic o
 rw[←hol] at hw
 have fin:∀(ss:aN),(iV ss F.res fun v=>if v.a6 (gO o).length&&ss.o.all (fun x=>x.a6 (gO o).length)&&decide ((gO o).length≤ss.o.length) then Q v (ss.o.take (gO o).length) else False)→
   (gX ss.g F.res).bind (fun r0=>finish true (gO o).length r0 ss.g.o)=some (r,o'):=by
  intro ss hq
  obtain⟨r0,h1,h2⟩:=rG hq
  rw[h1]
  simp only[Option.bind_some,finish,if_true]
  split at h2
  ·rename_i hc
   simp only[Bool.and_eq_true,decide_eq_true_eq,List.all_eq_true] at hc
   obtain⟨⟨hc1,hc2⟩,hc3⟩:=hc
   have cQ:∀x∈ss.g.o,x.a6 (gO o).length=true:=by
    intro x hx
    simp only[aN.g,gO,List.mem_map] at hx
    obtain⟨y,hy,rfl⟩:=hx
    rw[yH]
    exact hc2 y hy
   rw[IV (by rw[tG];exact hc1) cQ (by simp only[aN.g,ic] at hc3 ⊢;exact hc3)]
   rw[←(hQ _ _ h2).1,←(hQ _ _ h2).2]
   simp only[aN.g,gO,List.map_take]
  ·exact h2.elim
 obtain⟨h1,h2,_⟩:=yo hT hF (o:=gO o) (own:=true) hK (by rw[eY];exact hlen) (v:=r) (o':=o') (hw.mono fun out s hs=>by
  obtain⟨ss,rfl,hq⟩:=hs
  cases out with
  |exit id=>exact hq.elim
  |goto l=>exact hq.elim
  |norm=>exact⟨.inl rfl,fin ss hq⟩
  |ret=>exact⟨.inr rfl,fin ss hq⟩)
 exact⟨h1,h2⟩
end
structure cK where
 f:FuncId
 α:Type
 put:α→List SV
 st:α→a8
 dec:List SV→a8→Option α
 ok:∀v o a,dec v o=some a→gL v=gL (put a)∧gO o=gO (st a)
 inj:∀a b,gL (put a)=gL (put b)→gO (st a)=gO (st b)→a=b
 dom:α→Prop
 res:α→SV
 out:α→a8
def eh (P:Program) (c:cK):Prop:=∀a,c.dom a→eG P c.f=true∧iQ P c.f (gL (c.put a)) (gO (c.st a)) (c.res a).g (gO (c.out a))
def kY (f:FuncId):List cK→Option cK
 |[]=>none
 |c::r=>bif Nat.beq c.f f then some c else kY f r
theorem Jm:∀{L:List cK} {f:FuncId} {c:cK},kY f L=some c→c.f=f∧c∈L
 |[],_,_,h=>by cases h
 |d::L,f,c,h=>by
  simp only[kY] at h
  cases hq:Nat.beq d.f f with
  |true=>
   rw[hq] at h
   simp only[cond_true,Option.some.injEq] at h
   subst h
   exact⟨Nat.eq_of_beq_eq_true hq,by simp⟩
  |false=>
   rw[hq] at h
   simp only[cond_false] at h
   obtain⟨h1,h2⟩:=Jm h
   exact⟨h1,by simp[h2]⟩
def Jn (W:List cK) (f:FuncId) (args:List SV) (o:a8) (K:SV→a8→Prop):Prop:=
 match kY f W with
 |some c=>eH (c.dec args o) fun a=>c.dom a∧K (c.res a) (c.out a)
 |none=>False
open Classical in
noncomputable def pR (W:List cK) (f:FuncId) (args:List AV) (o:Store):Option (AV×Store):=
 match kY f W with
 |some c=>if h:∃a,args=gL (c.put a)∧o=gO (c.st a)∧c.dom a then some ((c.res (Classical.choose h)).g,gO (c.out (Classical.choose h))) else none
 |none=>none
noncomputable def gi (W:List cK):kA:=⟨pR W,fun f args o K=>CW (Jn W) f args o K⟩
theorem kZ {P:Program} {W:List cK} (hW:∀c∈W,eh P c):bu P (gi W) where
 K:=fun f args o r o' h=>by
  simp only[gi,pR] at h
  split at h
  ·rename_i c hc
   obtain⟨rfl,hm⟩:=Jm hc
   split at h
   ·rename_i hx
    simp only[Option.some.injEq,Prod.mk.injEq] at h
    generalize hb:Classical.choose hx=b at h
    have hs:=Classical.choose_spec hx
    rw[hb] at hs
    obtain⟨h1,h2,h3⟩:=hs
    obtain⟨h4,h5⟩:=hW c hm _ h3
    refine⟨h4,?_⟩
    rw[h1,h2,←h.1,←h.2]
    exact h5
   ·cases h
  ·cases h
 C:=fun call hcall f args o K h=>by
  refine Uo ?_ h
  intro f args o K hk
  simp only[Jn] at hk
  split at hk
  ·rename_i c hc
   obtain⟨a,h1,h2,h3⟩:=eP hk
   refine⟨_,_,?_,h3⟩
   rw[hcall]
   obtain⟨h4,h5⟩:=c.ok _ _ _ h1
   have hx:∃b,gL args=gL (c.put b)∧gO o=gO (c.st b)∧c.dom b:=⟨a,h4,h5,h2⟩
   simp only[gi,pR,hc,dif_pos hx]
   have:Classical.choose hx=a:=c.inj _ _ ((Classical.choose_spec hx).1.symm.trans h4) ((Classical.choose_spec hx).2.1.symm.trans h5)
   rw[this]
  ·exact hk.elim
theorem Ur {P:Program} {fn:FuncId→Option aT} {L:List bf} {W:List cK} (c:cK) {F:aT} {ty:TypeId→Option ai} {mt:List Nat×Bool→Option (ai×ai)} {Λ:c.α→Nat→bz}
  (h0:gd P ⟨fn,fun _ _ _ _=>none⟩) (hW:∀c∈W,eh P c) (hL:∀c∈L,Holds P c)
  (hF:fn c.f=some F) (hlen:∀a,(c.put a).length=F.params)
  (a:c.α) (hfr:∀d,kY c.f W=some d→∀b,gL (c.put a)=gL (d.put b)→gO (c.st a)=gO (d.st b)→¬d.dom b)
  (h:yE (mM L (gi W) ty mt fn) (Λ a) F (c.put a) (c.st a) fun v s=>v.same (c.res a)∧iF s (c.out a)):
  eG P c.f=true∧iQ P c.f (gL (c.put a)) (gO (c.st a)) (c.res a).g (gO (c.out a)):=by
 refine Up (p:=mM L (gi W) ty mt fn) (Λ:=Λ a) (Q:=fun v s=>v.same (c.res a)∧iF s (c.out a)) (tP (kZ hW) hL h0) (tQ (kZ hW)) (fun _ _ h=>h) hF ?_ (hlen a) (fun v s hs=>⟨hs.1,tO hs.2⟩) ?_
 ·simp only[lK,nQ,if_true,gi,pR]
  split
  ·rename_i d hd
   rw[dif_neg]
   rintro⟨b,h1,h2,h3⟩
   exact hfr d hd b h1 h2 h3
  ·rfl
 ·exact h
mutual
def gI (o:a8) (k:Nat):SV→(SV→Prop)→Prop
 | .ow id n sz,K=>if k≤id then(match o[id]? with
   |some (.row s l _ true)=>if sz=s.sz then n=l.length∧K (.row s l) else False
   |some (.row _ _ _ false)=>K (.ow id n sz)
   |_=>False) else K (.ow id n sz)
 | .ptr id f t,K=>if k≤id then(match o[id]? with
   |some (.cells _ _ _ false)=>K (.ptr id f t)
   |_=>False) else K (.ptr id f t)
 | .agg cs,K=>mP o k cs fun cs'=>K (.agg cs')
 | .aD cs,K=>mP o k cs fun cs'=>K (.aD cs')
 | .ud,K=>K .ud
 | .sc v,K=>K (.sc v)
 | .il q n,K=>K (.il q n)
 | .si q n,K=>K (.si q n)
 | .bl b,K=>K (.bl b)
 | .sb b,K=>K (.sb b)
 | .row s l,K=>K (.row s l)
 | .mp i,K=>K (.mp i)
 | .fn f a b,K=>mP o k a fun a'=>mP o k b fun b'=>K (.fn f a' b')
 |_,_=>False
def mP (o:a8) (k:Nat):List SV→(List SV→Prop)→Prop
 |[],K=>K []
 |c::cs,K=>gI o k c fun c'=>mP o k cs fun cs'=>K (c'::cs')
end
section
variable {o:a8} {k:Nat}
mutual
theorem CX:∀{v:SV} {K:SV→Prop},gI o k v K→∃v':SV,v.g.aX (gO o) (fun i=>decide (k≤i))=some v'.g∧K v'
 | .ow id n sz,K,h=>by
  simp only[gI] at h
  split at h
  ·rename_i hk
   split at h
   ·rename_i s l e ho
    split at h
    ·rename_i hsz
     subst hsz
     obtain⟨rfl,h⟩:=h
     refine⟨_,?_,h⟩
     have htk:List.take (l.length*s.sz) (bn s l)=bn s l:=List.take_of_length_le (by rw[dD];omega)
     simp only[SV.g,AV.aX,hk,decide_true,if_true,dA ho,af.g,dD,Nat.zero_add,Nat.le_refl,and_self,List.drop_zero,htk]
    ·exact h.elim
   ·rename_i s l e ho
    refine⟨_,?_,h⟩
    simp only[SV.g,AV.aX,hk,decide_true,if_true,dA ho,af.g,Bool.false_eq_true,if_false]
   ·exact h.elim
  ·rename_i hk
   refine⟨_,?_,h⟩
   simp only[SV.g,AV.aX,decide_eq_true_eq,if_neg hk]
 | .ptr id f t,K,h=>by
  simp only[gI] at h
  split at h
  ·rename_i hk
   split at h
   ·rename_i cs e sz ho
    refine⟨_,?_,h⟩
    simp only[SV.g,AV.aX,hk,decide_true,if_true,dA ho,af.g,Bool.false_eq_true,if_false]
   ·exact h.elim
  ·rename_i hk
   refine⟨_,?_,h⟩
   simp only[SV.g,AV.aX,decide_eq_true_eq,if_neg hk]
 | .agg cs,K,h=>by
  simp only[gI] at h
  obtain⟨cs',h1,h2⟩:=rO h
  exact⟨_,by simp only[SV.g,AV.aX,h1,Option.map_some],h2⟩
 | .aD cs,K,h=>by
  simp only[gI] at h
  obtain⟨cs',h1,h2⟩:=rO h
  exact⟨_,by simp only[SV.g,AV.aX,h1,Option.map_some],h2⟩
 | .ud,K,h=>⟨.ud,by simp only[SV.g,AV.aX],by simpa only[gI] using h⟩
 | .sc v,K,h=>⟨.sc v,by simp only[SV.g,AV.aX],by simpa only[gI] using h⟩
 | .il k n,K,h=>⟨.il k n,by simp only[SV.g,AV.aX],by simpa only[gI] using h⟩
 | .si k n,K,h=>⟨.si k n,by simp only[SV.g,AV.aX],by simpa only[gI] using h⟩
 | .bl b,K,h=>⟨.bl b,by simp only[SV.g,AV.aX],by simpa only[gI] using h⟩
 | .sb b,K,h=>⟨.sb b,by simp only[SV.g,AV.aX],by simpa only[gI] using h⟩
 | .row s l,K,h=>⟨.row s l,by simp only[SV.g,AV.aX],by simpa only[gI] using h⟩
 | .mp i,K,h=>⟨.mp i,by simp only[SV.g,AV.aX],by simpa only[gI] using h⟩
 | .fn f a b,K,h=>by
  simp only[gI] at h
  obtain⟨a',h1,h2⟩:=rO h
  obtain⟨b',h3,h4⟩:=rO h2
  exact⟨_,by simp only[SV.g,AV.aX,h1,h3],h4⟩
 | .ep ..,K,h| .ap ..,K,h| .rp ..,K,h| .os ..,K,h| .oc ..,K,h=>by simp only[gI] at h
theorem rO:∀{cs:List SV} {K:List SV→Prop},mP o k cs K→∃cs':List SV,dL (gO o) (fun i=>decide (k≤i)) (gL cs)=some (gL cs')∧K cs'
 |[],K,h=>⟨[],by simp[gL,dL],by simpa only[mP] using h⟩
 |c::cs,K,h=>by
  simp only[mP] at h
  obtain⟨c',h1,h2⟩:=CX h
  obtain⟨cs',h3,h4⟩:=rO h2
  exact⟨c'::cs',by simp only[gL,dL,h1,h3],h4⟩
end
def jQ (o:a8) (k:Nat):Nat→a8→(a8→Prop)→Prop
 |_,[],K=>K []
 |i,x::r,K=>match x with
  | .cells cs e sz false=>mP o k cs fun cs'=>jQ o k (i+1) r fun r'=>K (.cells cs' e sz false::r')
  | .row s l e pu=>jQ o k (i+1) r fun r'=>K ((if pu&&decide (k≤i) then .dead else .row s l e pu)::r')
  | .map sk sv ka es kt pu=>jQ o k (i+1) r fun r'=>K (.map sk sv ka es kt pu::r')
  | .dead=>jQ o k (i+1) r fun r'=>K (.dead::r')
  |_=>False
theorem rP:∀{i:Nat} {r:a8} {K:a8→Prop},jQ o k i r K→∃r' mid,eV (gO o) (fun i=>decide (k≤i)) (gO r)=some mid∧dx (fun i=>decide (k≤i)) i mid=gO r'∧K r'
 |i,[],K,h=>⟨[],[],rfl,rfl,h⟩
 |i,x::r,K,h=>by
  cases x with
  |dead=>
   simp only[jQ] at h
   obtain⟨r',mid,h1,h2,h3⟩:=rP h
   refine⟨_,.dead::mid,?_,?_,h3⟩
   ·simp only[gO,List.map_cons,af.g] at h1 ⊢
    simp only[eV,aP.aX,h1]
   ·simp only[dx,h2];rfl
  |cells cs e' sz pu=>
   cases pu with
   |true=>simp only[jQ] at h
   |false=>
    simp only[jQ] at h
    obtain⟨cs',hc1,hc2⟩:=rO h
    obtain⟨r',mid,h1,h2,h3⟩:=rP hc2
    refine⟨_,.cells (gL cs') e' sz false::mid,?_,?_,h3⟩
    ·simp only[gO,List.map_cons,af.g] at h1 hc1 ⊢
     simp only[eV,aP.aX,Bool.false_eq_true,if_false,hc1,Option.map_some,h1]
    ·simp only[dx,h2];rfl
  |iT s l e' t=>simp only[jQ] at h
  |row s l e' pu=>
   simp only[jQ] at h
   obtain⟨r',mid,h1,h2,h3⟩:=rP h
   refine⟨_,(af.row s l e' pu).g::mid,?_,?_,h3⟩
   ·have iy:(af.row s l e' pu).g.aX (gO o) (fun i=>decide (k≤i))=some (af.row s l e' pu).g:=by
     cases pu with
     |true=>simp only[af.g,aP.aX,if_true]
     |false=>
      simp only[af.g,aP.aX,Bool.false_eq_true,if_false]
      rw[yP (fun a ha=>hZ ha),Option.map_some]
    simp only[gO,List.map_cons] at h1 ⊢
    simp only[eV,gO] at iy h1 ⊢
    simp only[iy,h1]
   ·cases pu with
    |true=>
     simp only[af.g,dx,Bool.true_and]
     by_cases hk:k≤i
     ·simp only[hk,decide_true,if_true]
      rw[h2];rfl
     ·simp only[hk,decide_false,Bool.false_eq_true,if_false]
      rw[h2];rfl
    |false=>simp only[af.g,dx,Bool.false_and,Bool.false_eq_true,if_false];rw[h2];rfl
  |map sk sv ka es kt pu=>
   simp only[jQ] at h
   obtain⟨r',mid,h1,h2,h3⟩:=rP h
   have iy:(af.map sk sv ka es kt pu).g.aX (gO o) (fun i=>decide (k≤i))=some (af.map sk sv ka es kt pu).g:=by
    cases pu with
    |true=>simp only[af.g,aP.aX,if_true]
    |false=>
     simp only[af.g,aP.aX,Bool.false_eq_true,if_false]
     rw[CL CU,Option.map_some]
   refine⟨_,(af.map sk sv ka es kt pu).g::mid,?_,?_,h3⟩
   ·simp only[gO,List.map_cons] at h1 ⊢
    simp only[eV,gO] at iy h1 ⊢
    simp only[iy,h1]
   ·simp only[af.g,dx,h2];rfl
end
def yZ (r:SV) (o:a8) (K:SV→a8→Prop):Prop:=
 gI o 0 r fun r1=>jQ o 0 0 o fun o2=>
  if o2.all af.yY=false then False else
  let ids:=kB o2 dr [r1] []
  if eA.ki ids then match r1.ren (fun j=>idxOf ids j),rM o2 ids ids with
   |some r2,some s2=>K r2 s2
   |_,_=>False
  else False
theorem Us {r:SV} {o:a8} {K:SV→a8→Prop} (h:yZ r o K):∃r' o',fe 0 r.g (gO o)=some (r'.g,gO o')∧K r' o':=by
 unfold yZ at h
 obtain⟨r1,h1,h2⟩:=CX h
 obtain⟨o2,mid,h3,h4,h5⟩:=rP h2
 split at h5
 ·exact h5.elim
 rename_i hno
 simp only[Bool.not_eq_false] at hno
 simp only at h5
 split at h5
 ·rename_i hn
  split at h5
  ·rename_i r2 s2 h6 h7
   refine⟨r2,s2,?_,h5⟩
   unfold fe
   rw[h1,h3]
   simp only[h4,List.take_zero,List.flatMap_nil,List.range_zero]
   have hr:=Jl (o:=o2) hno (d:=dr) (vs:=[r1]) (acc:=[])
   simp only[gL] at hr
   rw[hr,if_pos hn,CS h6,CV h7]
  ·exact h5.elim
 ·exact h5.elim
def CY (p:dY) (Λ:Nat→bz) (F:aT) (args:List SV) (Q:SV→a8→Prop):Prop:=
 wpS p 0 F.body Λ ⟨jP 0 args,[]⟩ fun out st=>match out with
  | .exit _=>False
  | .goto _=>False
  |_=>iV st F.res fun r=>yZ r st.o Q
theorem Ut {P:Program} {T:Tab} {p:dY} {Λ:Nat→bz} (hT:gd P T) (hC:iZ T.K p.C) (hI:∀f F,p.it f=some F→T.fn f=some F) {f:FuncId} {F:aT} (hF:T.fn f=some F) {args:List SV} {r:AV} {o':Store} (hK:T.K f (gL args) [] true=none) (hlen:args.length=F.params)
  {Q:SV→a8→Prop} (hQ:∀v s,Q v s→v.g=r∧gO s=o') (h:CY p Λ F args Q):eG P f=true∧iQ P f (gL args) [] r o':=by
 unfold CY at h
 have hw:=yW hC hI h
 have hst:(aN.mk (jP 0 args) []).g=⟨dW 0 (gL args),[]⟩:=by simp[aN.g,rH,gO]
 rw[hst] at hw
 have fin:∀(ss:aN),(iV ss F.res fun v=>yZ v ss.o Q)→(gX ss.g F.res).bind (fun r0=>finish true 0 r0 ss.g.o)=some (r,o'):=by
  intro ss hq
  obtain⟨r0,h1,h2⟩:=rG hq
  obtain⟨r',s',h3,h4⟩:=Us h2
  rw[h1]
  simp only[Option.bind_some,finish,if_true]
  have:fe 0 r0.g ss.g.o=some (r'.g,gO s'):=h3
  rw[this,(hQ _ _ h4).1,(hQ _ _ h4).2]
 obtain⟨h1,h2,_⟩:=yo hT hF (o:=[]) (own:=true) hK (by rw[eY];exact hlen) (v:=r) (o':=o') (hw.mono fun out s hs=>by
  obtain⟨ss,rfl,hq⟩:=hs
  cases out with
  |exit id=>exact hq.elim
  |goto l=>exact hq.elim
  |norm=>exact⟨.inl rfl,fin ss hq⟩
  |ret=>exact⟨.inr rfl,fin ss hq⟩)
 exact⟨h1,h2⟩
theorem Uu {W:List cK} {f:FuncId} {args:List AV} {o:Store} (h:kY f W=none):pR W f args o=none:=by
 unfold pR
 rw[h]
open Go.Proofs.YtgejbpobaicgfaaGreat.Ir
open Go.Proofs
structure tX where
 f:FuncId
 F:aT
 fn:Func
 H:List RH
def tY (f:FuncId):List tX→Option aT
 |[]=>none
 |e::r=>bif Nat.beq e.f f then some e.F else tY f r
theorem Jo {f:FuncId} {F:aT}:∀{l:List tX},tY f l=some F→∃e∈l,e.f=f∧e.F=F
 |[],h=>by cases h
 |e::r,h=>by
  simp only[tY] at h
  cases hq:Nat.beq e.f f with
  |true=>
   rw[hq] at h
   simp only[cond_true,Option.some.injEq] at h
   exact⟨e,by simp,Nat.eq_of_beq_eq_true hq,h⟩
  |false=>
   rw[hq] at h
   simp only[cond_false] at h
   obtain⟨e',h1,h2⟩:=Jo h
   exact⟨e',by simp[h1],h2⟩
def bg (P:Program) (e:tX):Prop:=P.funcs[e.f]?=some e.fn∧aB P e.H e.fn=some e.F∧eG P e.f=true
theorem Uw {P:Program} {l:List tX} (h:∀e∈l,bg P e):gd P ⟨fun f=>tY f l,fun _ _ _ _=>none⟩ where
 fn:=fun f F hF=>by
  obtain⟨e,h1,rfl,rfl⟩:=Jo hF
  obtain⟨h2,h3,h4⟩:=h e h1
  exact⟨e.fn,e.H,h2,h3,h4⟩
 K:=fun _ _ _ _ _ _ h=>by cases h
theorem Ux:bg Tryz.prog ⟨3,xE,Tryz.f3,h418⟩:=⟨by kernel_rfl,PQ,by kernel_rfl⟩
theorem Uy:bg Tryz.prog ⟨10,wQ,Tryz.f10,h376⟩:=⟨by kernel_rfl,OZ,by kernel_rfl⟩
theorem Uz:bg Tryz.prog ⟨11,wT,Tryz.f11,h383⟩:=⟨by kernel_rfl,O2,by kernel_rfl⟩
theorem UA:bg Tryz.prog ⟨12,vz,Tryz.f12,h24⟩:=⟨by kernel_rfl,NM,by kernel_rfl⟩
theorem UB:bg Tryz.prog ⟨13,xF,Tryz.f13,h425⟩:=⟨by kernel_rfl,PR,by kernel_rfl⟩
theorem UC:bg Tryz.prog ⟨27,wU,Tryz.f27,h384⟩:=⟨by kernel_rfl,O3,by kernel_rfl⟩
theorem UD:bg Tryz.prog ⟨29,wV,Tryz.f29,h385⟩:=⟨by kernel_rfl,O4,by kernel_rfl⟩
theorem UE:bg Tryz.prog ⟨30,wR,Tryz.f30,h377⟩:=⟨by kernel_rfl,O0,by kernel_rfl⟩
theorem UF:bg Tryz.prog ⟨31,wS,Tryz.f31,h379⟩:=⟨by kernel_rfl,O1,by kernel_rfl⟩
theorem UG:bg Tryz.prog ⟨32,vA,Tryz.f32,h32⟩:=⟨by kernel_rfl,is32,by kernel_rfl⟩
theorem UH:bg Tryz.prog ⟨33,vH,Tryz.f33,h79⟩:=⟨by kernel_rfl,NU,by kernel_rfl⟩
theorem UI:bg Tryz.prog ⟨34,vI,Tryz.f34,h94⟩:=⟨by kernel_rfl,NV,by kernel_rfl⟩
theorem UJ:bg Tryz.prog ⟨35,wY,Tryz.f35,h389⟩:=⟨by kernel_rfl,O7,by kernel_rfl⟩
theorem UK:bg Tryz.prog ⟨36,wZ,Tryz.f36,h390⟩:=⟨by kernel_rfl,O8,by kernel_rfl⟩
theorem UL:bg Tryz.prog ⟨37,vK,Tryz.f37,h97⟩:=⟨by kernel_rfl,NY,by kernel_rfl⟩
theorem UM:bg Tryz.prog ⟨38,vF,Tryz.f38,h68⟩:=⟨by kernel_rfl,NS,by kernel_rfl⟩
theorem UN:bg Tryz.prog ⟨39,vG,Tryz.f39,h69⟩:=⟨by kernel_rfl,NT,by kernel_rfl⟩
theorem UO:bg Tryz.prog ⟨40,vE,Tryz.f40,h53⟩:=⟨by kernel_rfl,NR,by kernel_rfl⟩
theorem UP:bg Tryz.prog ⟨41,vC,Tryz.f41,h51⟩:=⟨by kernel_rfl,NP,by kernel_rfl⟩
theorem UQ:bg Tryz.prog ⟨55,wX,Tryz.f55,h388⟩:=⟨by kernel_rfl,O6,by kernel_rfl⟩
theorem UR:bg Tryz.prog ⟨56,wW,Tryz.f56,h386⟩:=⟨by kernel_rfl,O5,by kernel_rfl⟩
theorem US:bg Tryz.prog ⟨58,vU,Tryz.f58,h118⟩:=⟨by kernel_rfl,Oa,by kernel_rfl⟩
theorem UT:bg Tryz.prog ⟨59,vV,Tryz.f59,h119⟩:=⟨by kernel_rfl,Ob,by kernel_rfl⟩
theorem UU:bg Tryz.prog ⟨60,vX,Tryz.f60,h126⟩:=⟨by kernel_rfl,Oe,by kernel_rfl⟩
theorem UV:bg Tryz.prog ⟨61,vY,Tryz.f61,h127⟩:=⟨by kernel_rfl,Of,by kernel_rfl⟩
theorem UW:bg Tryz.prog ⟨62,vZ,Tryz.f62,h128⟩:=⟨by kernel_rfl,Og,by kernel_rfl⟩
theorem UX:bg Tryz.prog ⟨63,xc,Tryz.f63,h393⟩:=⟨by kernel_rfl,Pg,by kernel_rfl⟩
theorem UY:bg Tryz.prog ⟨64,xd,Tryz.f64,h394⟩:=⟨by kernel_rfl,Ph,by kernel_rfl⟩
theorem UZ:bg Tryz.prog ⟨65,xe,Tryz.f65,h395⟩:=⟨by kernel_rfl,Pi,by kernel_rfl⟩
theorem U0:bg Tryz.prog ⟨66,v6,Tryz.f66,h129⟩:=⟨by kernel_rfl,Oh,by kernel_rfl⟩
theorem U1:bg Tryz.prog ⟨67,xf,Tryz.f67,h396⟩:=⟨by kernel_rfl,Pj,by kernel_rfl⟩
theorem U2:bg Tryz.prog ⟨68,v8,Tryz.f68,h131⟩:=⟨by kernel_rfl,Oj,by kernel_rfl⟩
theorem U3:bg Tryz.prog ⟨69,wa,Tryz.f69,h132⟩:=⟨by kernel_rfl,Ol,by kernel_rfl⟩
theorem U4:bg Tryz.prog ⟨70,vT,Tryz.f70,h110⟩:=⟨by kernel_rfl,N9,by kernel_rfl⟩
theorem U5:bg Tryz.prog ⟨71,vB,Tryz.f71,h48⟩:=⟨by kernel_rfl,NN,by kernel_rfl⟩
theorem U6:bg Tryz.prog ⟨72,vS,Tryz.f72,h108⟩:=⟨by kernel_rfl,N8,by kernel_rfl⟩
theorem U7:bg Tryz.prog ⟨73,vN,Tryz.f73,h103⟩:=⟨by kernel_rfl,N3,by kernel_rfl⟩
theorem U8:bg Tryz.prog ⟨75,wb,Tryz.f75,h134⟩:=⟨by kernel_rfl,Om,by kernel_rfl⟩
theorem U9:bg Tryz.prog ⟨89,w9,Tryz.f89,h392⟩:=⟨by kernel_rfl,Pe,by kernel_rfl⟩
theorem Va:bg Tryz.prog ⟨90,w8,Tryz.f90,h391⟩:=⟨by kernel_rfl,O9,by kernel_rfl⟩
theorem Vb:bg Tryz.prog ⟨93,wt,Tryz.f93,h146⟩:=⟨by kernel_rfl,OA,by kernel_rfl⟩
theorem Vd:bg Tryz.prog ⟨94,wu,Tryz.f94,h147⟩:=⟨by kernel_rfl,OB,by kernel_rfl⟩
theorem Ve:bg Tryz.prog ⟨95,wv,Tryz.f95,h151⟩:=⟨by kernel_rfl,OC,by kernel_rfl⟩
theorem Vf:bg Tryz.prog ⟨96,ww,Tryz.f96,h152⟩:=⟨by kernel_rfl,OD,by kernel_rfl⟩
theorem Vg:bg Tryz.prog ⟨97,wB,Tryz.f97,h157⟩:=⟨by kernel_rfl,OJ,by kernel_rfl⟩
theorem Vh:bg Tryz.prog ⟨98,wC,Tryz.f98,h158⟩:=⟨by kernel_rfl,OK,by kernel_rfl⟩
theorem Vj:bg Tryz.prog ⟨99,wA,Tryz.f99,h156⟩:=⟨by kernel_rfl,OI,by kernel_rfl⟩
theorem Vk:bg Tryz.prog ⟨100,xh,Tryz.f100,h398⟩:=⟨by kernel_rfl,Pn,by kernel_rfl⟩
theorem Vl:bg Tryz.prog ⟨101,xi,Tryz.f101,h399⟩:=⟨by kernel_rfl,Po,by kernel_rfl⟩
theorem Vm:bg Tryz.prog ⟨102,xj,Tryz.f102,h400⟩:=⟨by kernel_rfl,Pq,by kernel_rfl⟩
theorem Vn:bg Tryz.prog ⟨103,xk,Tryz.f103,h401⟩:=⟨by kernel_rfl,Pv,by kernel_rfl⟩
theorem Vo:bg Tryz.prog ⟨104,xm,Tryz.f104,h402⟩:=⟨by kernel_rfl,Px,by kernel_rfl⟩
theorem Vp:bg Tryz.prog ⟨105,xn,Tryz.f105,h403⟩:=⟨by kernel_rfl,Py,by kernel_rfl⟩
theorem Vq:bg Tryz.prog ⟨107,xo,Tryz.f107,h405⟩:=⟨by kernel_rfl,Pz,by kernel_rfl⟩
theorem Vr:bg Tryz.prog ⟨108,wx,Tryz.f108,h153⟩:=⟨by kernel_rfl,OE,by kernel_rfl⟩
theorem Vs:bg Tryz.prog ⟨109,wy,Tryz.f109,h154⟩:=⟨by kernel_rfl,OG,by kernel_rfl⟩
theorem Vt:bg Tryz.prog ⟨110,wz,Tryz.f110,h155⟩:=⟨by kernel_rfl,OH,by kernel_rfl⟩
theorem Vu:bg Tryz.prog ⟨111,vD,Tryz.f111,h52⟩:=⟨by kernel_rfl,NQ,by kernel_rfl⟩
theorem Vv:bg Tryz.prog ⟨112,wo,Tryz.f112,h142⟩:=⟨by kernel_rfl,Oy,by kernel_rfl⟩
theorem Vw:bg Tryz.prog ⟨113,vP,Tryz.f113,h105⟩:=⟨by kernel_rfl,N5,by kernel_rfl⟩
theorem Vx:bg Tryz.prog ⟨114,we,Tryz.f114,h135⟩:=⟨by kernel_rfl,On,by kernel_rfl⟩
theorem Vy:bg Tryz.prog ⟨125,xq,Tryz.f125,h407⟩:=⟨by kernel_rfl,PE,by kernel_rfl⟩
theorem Vz:bg Tryz.prog ⟨126,vM,Tryz.f126,h99⟩:=⟨by kernel_rfl,NZ,by kernel_rfl⟩
theorem VA:bg Tryz.prog ⟨128,vJ,Tryz.f128,h95⟩:=⟨by kernel_rfl,NW,by kernel_rfl⟩
theorem VB:bg Tryz.prog ⟨129,v7,Tryz.f129,h130⟩:=⟨by kernel_rfl,Oi,by kernel_rfl⟩
theorem VC:bg Tryz.prog ⟨136,wO,Tryz.f136,h358⟩:=⟨by kernel_rfl,OX,by kernel_rfl⟩
theorem VD:bg Tryz.prog ⟨137,xg,Tryz.f137,h397⟩:=⟨by kernel_rfl,Pm,by kernel_rfl⟩
theorem VE:bg Tryz.prog ⟨138,wq,Tryz.f138,h144⟩:=⟨by kernel_rfl,Oz,by kernel_rfl⟩
theorem VF:bg Tryz.prog ⟨140,wJ,Tryz.f140,h165⟩:=⟨by kernel_rfl,OS,by kernel_rfl⟩
theorem VG:bg Tryz.prog ⟨141,wK,Tryz.f141,h166⟩:=⟨by kernel_rfl,OT,by kernel_rfl⟩
theorem VH:bg Tryz.prog ⟨142,xp,Tryz.f142,h406⟩:=⟨by kernel_rfl,PD,by kernel_rfl⟩
theorem VI:bg Tryz.prog ⟨143,xr,Tryz.f143,h408⟩:=⟨by kernel_rfl,PG,by kernel_rfl⟩
theorem VJ:bg Tryz.prog ⟨145,xt,Tryz.f145,h410⟩:=⟨by kernel_rfl,PH,by kernel_rfl⟩
theorem VK:bg Tryz.prog ⟨146,xu,Tryz.f146,h411⟩:=⟨by kernel_rfl,PI,by kernel_rfl⟩
theorem VL:bg Tryz.prog ⟨147,xw,Tryz.f147,h412⟩:=⟨by kernel_rfl,PK,by kernel_rfl⟩
theorem VM:bg Tryz.prog ⟨148,xx,Tryz.f148,h413⟩:=⟨by kernel_rfl,PL,by kernel_rfl⟩
theorem VN:bg Tryz.prog ⟨149,vO,Tryz.f149,h104⟩:=⟨by kernel_rfl,N4,by kernel_rfl⟩
theorem VO:bg Tryz.prog ⟨150,vQ,Tryz.f150,h106⟩:=⟨by kernel_rfl,N6,by kernel_rfl⟩
theorem VP:bg Tryz.prog ⟨151,vR,Tryz.f151,h107⟩:=⟨by kernel_rfl,N7,by kernel_rfl⟩
theorem VQ:bg Tryz.prog ⟨152,vW,Tryz.f152,h125⟩:=⟨by kernel_rfl,Oc,by kernel_rfl⟩
theorem VR:bg Tryz.prog ⟨153,wj,Tryz.f153,h138⟩:=⟨by kernel_rfl,Ot,by kernel_rfl⟩
theorem VS:bg Tryz.prog ⟨154,wE,Tryz.f154,h159⟩:=⟨by kernel_rfl,OL,by kernel_rfl⟩
theorem VT:bg Tryz.prog ⟨161,xy,Tryz.f161,h414⟩:=⟨by kernel_rfl,PM,by kernel_rfl⟩
theorem VU:bg Tryz.prog ⟨162,xA,Tryz.f162,h415⟩:=⟨by kernel_rfl,PN,by kernel_rfl⟩
theorem VV:bg Tryz.prog ⟨164,wP,Tryz.f164,h369⟩:=⟨by kernel_rfl,OY,by kernel_rfl⟩
theorem VX:bg Tryz.prog ⟨165,wI,Tryz.f165,h163⟩:=⟨by kernel_rfl,OQ,by kernel_rfl⟩
theorem VY:bg Tryz.prog ⟨166,wL,Tryz.f166,h167⟩:=⟨by kernel_rfl,OU,by kernel_rfl⟩
theorem VZ:bg Tryz.prog ⟨167,sT,Tryz.f167,h168⟩:=⟨by kernel_rfl,OV,by kernel_rfl⟩
theorem V0:bg Tryz.prog ⟨168,wM,Tryz.f168,h169⟩:=⟨by kernel_rfl,OW,by kernel_rfl⟩
theorem V1:bg Tryz.prog ⟨169,xB,Tryz.f169,h416⟩:=⟨by kernel_rfl,PO,by kernel_rfl⟩
theorem V2:bg Tryz.prog ⟨170,xC,Tryz.f170,h417⟩:=⟨by kernel_rfl,PP,by kernel_rfl⟩
theorem V3:bg Tryz.prog ⟨171,wh,Tryz.f171,h136⟩:=⟨by kernel_rfl,Oo,by kernel_rfl⟩
theorem V4:bg Tryz.prog ⟨172,wi,Tryz.f172,h137⟩:=⟨by kernel_rfl,Oq,by kernel_rfl⟩
theorem V5:bg Tryz.prog ⟨173,wm,Tryz.f173,h139⟩:=⟨by kernel_rfl,Ou,by kernel_rfl⟩
theorem V6:bg Tryz.prog ⟨174,sS,Tryz.f174,h140⟩:=⟨by kernel_rfl,Ov,by kernel_rfl⟩
theorem V7:bg Tryz.prog ⟨175,wn,Tryz.f175,h141⟩:=⟨by kernel_rfl,Ox,by kernel_rfl⟩
theorem V8:bg Tryz.prog ⟨176,wF,Tryz.f176,h160⟩:=⟨by kernel_rfl,OM,by kernel_rfl⟩
theorem V9:bg Tryz.prog ⟨177,wG,Tryz.f177,h161⟩:=⟨by kernel_rfl,OO,by kernel_rfl⟩
theorem Wa:bg Tryz.prog ⟨178,wH,Tryz.f178,h162⟩:=⟨by kernel_rfl,OP,by kernel_rfl⟩
noncomputable def CZ:List tX:=[⟨3,xE,Tryz.f3,h418⟩,⟨10,wQ,Tryz.f10,h376⟩,⟨11,wT,Tryz.f11,h383⟩,⟨12,vz,Tryz.f12,h24⟩,⟨13,xF,Tryz.f13,h425⟩,⟨27,wU,Tryz.f27,h384⟩,⟨29,wV,Tryz.f29,h385⟩,⟨30,wR,Tryz.f30,h377⟩,⟨31,wS,Tryz.f31,h379⟩,⟨32,vA,Tryz.f32,h32⟩,⟨33,vH,Tryz.f33,h79⟩,⟨34,vI,Tryz.f34,h94⟩,⟨35,wY,Tryz.f35,h389⟩,⟨36,wZ,Tryz.f36,h390⟩,⟨37,vK,Tryz.f37,h97⟩,⟨38,vF,Tryz.f38,h68⟩,⟨39,vG,Tryz.f39,h69⟩,⟨40,vE,Tryz.f40,h53⟩,⟨41,vC,Tryz.f41,h51⟩,⟨55,wX,Tryz.f55,h388⟩,⟨56,wW,Tryz.f56,h386⟩,⟨58,vU,Tryz.f58,h118⟩,⟨59,vV,Tryz.f59,h119⟩,⟨60,vX,Tryz.f60,h126⟩,⟨61,vY,Tryz.f61,h127⟩,⟨62,vZ,Tryz.f62,h128⟩,⟨63,xc,Tryz.f63,h393⟩,⟨64,xd,Tryz.f64,h394⟩,⟨65,xe,Tryz.f65,h395⟩,⟨66,v6,Tryz.f66,h129⟩,⟨67,xf,Tryz.f67,h396⟩,⟨68,v8,Tryz.f68,h131⟩,⟨69,wa,Tryz.f69,h132⟩,⟨70,vT,Tryz.f70,h110⟩,⟨71,vB,Tryz.f71,h48⟩,⟨72,vS,Tryz.f72,h108⟩,⟨73,vN,Tryz.f73,h103⟩,⟨75,wb,Tryz.f75,h134⟩,⟨89,w9,Tryz.f89,h392⟩,⟨90,w8,Tryz.f90,h391⟩,⟨93,wt,Tryz.f93,h146⟩,⟨94,wu,Tryz.f94,h147⟩,⟨95,wv,Tryz.f95,h151⟩,⟨96,ww,Tryz.f96,h152⟩,⟨97,wB,Tryz.f97,h157⟩,⟨98,wC,Tryz.f98,h158⟩,⟨99,wA,Tryz.f99,h156⟩,⟨100,xh,Tryz.f100,h398⟩,⟨101,xi,Tryz.f101,h399⟩,⟨102,xj,Tryz.f102,h400⟩,⟨103,xk,Tryz.f103,h401⟩,⟨104,xm,Tryz.f104,h402⟩,⟨105,xn,Tryz.f105,h403⟩,⟨107,xo,Tryz.f107,h405⟩,⟨108,wx,Tryz.f108,h153⟩,⟨109,wy,Tryz.f109,h154⟩,⟨110,wz,Tryz.f110,h155⟩,⟨111,vD,Tryz.f111,h52⟩,⟨112,wo,Tryz.f112,h142⟩,⟨113,vP,Tryz.f113,h105⟩,⟨114,we,Tryz.f114,h135⟩,⟨125,xq,Tryz.f125,h407⟩,⟨126,vM,Tryz.f126,h99⟩,⟨128,vJ,Tryz.f128,h95⟩,⟨129,v7,Tryz.f129,h130⟩,⟨136,wO,Tryz.f136,h358⟩,⟨137,xg,Tryz.f137,h397⟩,⟨138,wq,Tryz.f138,h144⟩,⟨140,wJ,Tryz.f140,h165⟩,⟨141,wK,Tryz.f141,h166⟩,⟨142,xp,Tryz.f142,h406⟩,⟨143,xr,Tryz.f143,h408⟩,⟨145,xt,Tryz.f145,h410⟩,⟨146,xu,Tryz.f146,h411⟩,⟨147,xw,Tryz.f147,h412⟩,⟨148,xx,Tryz.f148,h413⟩,⟨149,vO,Tryz.f149,h104⟩,⟨150,vQ,Tryz.f150,h106⟩,⟨151,vR,Tryz.f151,h107⟩,⟨152,vW,Tryz.f152,h125⟩,⟨153,wj,Tryz.f153,h138⟩,⟨154,wE,Tryz.f154,h159⟩,⟨161,xy,Tryz.f161,h414⟩,⟨162,xA,Tryz.f162,h415⟩,⟨164,wP,Tryz.f164,h369⟩,⟨165,wI,Tryz.f165,h163⟩,⟨166,wL,Tryz.f166,h167⟩,⟨167,sT,Tryz.f167,h168⟩,⟨168,wM,Tryz.f168,h169⟩,⟨169,xB,Tryz.f169,h416⟩,⟨170,xC,Tryz.f170,h417⟩,⟨171,wh,Tryz.f171,h136⟩,⟨172,wi,Tryz.f172,h137⟩,⟨173,wm,Tryz.f173,h139⟩,⟨174,sS,Tryz.f174,h140⟩,⟨175,wn,Tryz.f175,h141⟩,⟨176,wF,Tryz.f176,h160⟩,⟨177,wG,Tryz.f177,h161⟩,⟨178,wH,Tryz.f178,h162⟩]
theorem Wb:∀e∈CZ,bg Tryz.prog e:=by
 unfold CZ
 simp only[List.mem_cons,List.not_mem_nil,or_false]
 rintro e (rfl|rfl|rfl|rfl|rfl|rfl|rfl|rfl|rfl|rfl|rfl|rfl|rfl|rfl|rfl|rfl|rfl|rfl|rfl|rfl|rfl|rfl|rfl|rfl|rfl|rfl|rfl|rfl|rfl|rfl|rfl|rfl|rfl|rfl|rfl|rfl|rfl|rfl|rfl|rfl|rfl|rfl|rfl|rfl|rfl|rfl|rfl|rfl|rfl|rfl|rfl|rfl|rfl|rfl|rfl|rfl|rfl|rfl|rfl|rfl|rfl|rfl|rfl|rfl|rfl|rfl|rfl|rfl|rfl|rfl|rfl|rfl|rfl|rfl|rfl|rfl|rfl|rfl|rfl|rfl|rfl|rfl|rfl|rfl|rfl|rfl|rfl|rfl|rfl|rfl|rfl|rfl|rfl|rfl|rfl|rfl|rfl|rfl|rfl)
 ·exact Ux
 ·exact Uy
 ·exact Uz
 ·exact UA
 ·exact UB
 ·exact UC
 ·exact UD
 ·exact UE
 ·exact UF
 ·exact UG
 ·exact UH
 ·exact UI
 ·exact UJ
 ·exact UK
 ·exact UL
 ·exact UM
 ·exact UN
 ·exact UO
 ·exact UP
 ·exact UQ
 ·exact UR
 ·exact US
 ·exact UT
 ·exact UU
 ·exact UV
 ·exact UW
 ·exact UX
 ·exact UY
 ·exact UZ
 ·exact U0
 ·exact U1
 ·exact U2
 ·exact U3
 ·exact U4
 ·exact U5
 ·exact U6
 ·exact U7
 ·exact U8
 ·exact U9
 ·exact Va
 ·exact Vb
 ·exact Vd
 ·exact Ve
 ·exact Vf
 ·exact Vg
 ·exact Vh
 ·exact Vj
 ·exact Vk
 ·exact Vl
 ·exact Vm
 ·exact Vn
 ·exact Vo
 ·exact Vp
 ·exact Vq
 ·exact Vr
 ·exact Vs
 ·exact Vt
 ·exact Vu
 ·exact Vv
 ·exact Vw
 ·exact Vx
 ·exact Vy
 ·exact Vz
 ·exact VA
 ·exact VB
 ·exact VC
 ·exact VD
 ·exact VE
 ·exact VF
 ·exact VG
 ·exact VH
 ·exact VI
 ·exact VJ
 ·exact VK
 ·exact VL
 ·exact VM
 ·exact VN
 ·exact VO
 ·exact VP
 ·exact VQ
 ·exact VR
 ·exact VS
 ·exact VT
 ·exact VU
 ·exact VV
 ·exact VX
 ·exact VY
 ·exact VZ
 ·exact V0
 ·exact V1
 ·exact V2
 ·exact V3
 ·exact V4
 ·exact V5
 ·exact V6
 ·exact V7
 ·exact V8
 ·exact V9
 ·exact Wa
noncomputable def lM (f:FuncId):Option aT:=tY f CZ
theorem tZ:gd Tryz.prog ⟨lM,fun _ _ _ _=>none⟩:=Uw Wb
structure Vc (A:Prop):Prop where
 out:A
theorem bh {A:Prop} (B:Prop) (h:B=A) (hb:B):Vc A:=⟨h▸hb⟩
theorem con {L:List bf} {W:kA} (c:bf) (F:aT) (Λ:c.α→Nat→bz) (hW:bu Tryz.prog W) (hL:∀c∈L,Holds Tryz.prog c)
  (hF:lM c.f=some F) (hfr:lJ c.f L=none) (hlen:∀a,(c.A.put a).length=F.params)
  (h:∀a,c.dom a→Vc (rB (mM L W rK rL lM) (Λ a) F (c.A.put a) fun v=>v.same (c.res a))):Holds Tryz.prog c:=
 holds_of c tZ hW hL hF hfr hlen fun a ha=>(h a ha).out
theorem Wc {L:List bf} {W:kA} (c:bf) (F:aT) (ro:FuncId→Bool) (Λ:c.α→Nat→bz) (hW:bu Tryz.prog W) (hL:∀c∈L,Holds Tryz.prog c)
  (hF:lM c.f=some F) (hfr:lJ c.f L=none) (hlen:∀a,(c.A.put a).length=F.params)
  (h:∀a,c.dom a→Vc (rB (CO L W rK rL lM ro) (Λ a) F (c.A.put a) fun v=>v.same (c.res a))):Holds Tryz.prog c:=
 Um c tZ hW hL hF hfr hlen fun a ha=>(h a ha).out
theorem lN {L:List bf} {W:List cK} (c:cK) (F:aT) (Λ:c.α→Nat→bz) (hW:∀c∈W,eh Tryz.prog c) (hL:∀c∈L,Holds Tryz.prog c)
  (hF:lM c.f=some F) (hlen:∀a,(c.put a).length=F.params) (hfr:kY c.f W=none)
  (h:∀a,c.dom a→Vc (yE (mM L (gi W) rK rL lM) (Λ a) F (c.put a) (c.st a) fun v s=>v.same (c.res a)∧iF s (c.out a))):eh Tryz.prog c:=
 fun a ha=>Ur c tZ hW hL hF hlen a (fun d hd=>by rw[hfr] at hd;cases hd) (h a ha).out
theorem C0 {L:List bf} {W:List cK} (c:cK) (F:aT) (sp:Nat→Option (Nat×Nat×Nat)) (Λ:c.α→Nat→bz) (hW:∀c∈W,eh Tryz.prog c) (hL:∀c∈L,Holds Tryz.prog c)
  (hF:lM c.f=some F) (hlen:∀a,(c.put a).length=F.params) (hst:∀a,c.st a=[]) (hfr:kY c.f W=none)
  (h:∀a,c.dom a→Vc (CY ⟨⟨rI L,(gi W).C⟩,rK,rL,sp,fun _=>none,fun _=>false⟩ (Λ a) F (c.put a) fun v s=>v.same (c.res a)∧iF s (c.out a))):eh Tryz.prog c:=
 fun a ha=>by
  rw[hst a]
  refine Ut (p:=⟨⟨rI L,(gi W).C⟩,rK,rL,sp,fun _=>none,fun _=>false⟩) (Λ:=Λ a) (Q:=fun v s=>v.same (c.res a)∧iF s (c.out a)) (tP (kZ hW) hL tZ) (tQ (kZ hW)) (fun _ _ h=>by cases h) hF ?_ (hlen a) (fun v s hs=>⟨hs.1,tO hs.2⟩) (h a ha).out
  simp only[lK,nQ,if_true,gi]
  exact Uu hfr
open Go.ChangeShapes Go.WideShapes Go.RowKit
abbrev iG:bG:=⟨fun _=>False,0⟩
instance (s:ai):Inhabited s.T:=⟨s.dflt⟩
theorem We (b:Nat):Fr iG [] b:=⟨by rintro⟨i,c,h⟩;simp at h,fun h=>h⟩
theorem Jp {A:bG} {w:World} {σ:aV} {o:Store}:∀{vs:List Value},(∀v∈vs,v.oneCell'=true)→aA A w σ o (vs.map .sc) vs
 |[],_=>by simp[aA]
 |v::vs,h=>by
  simp only[List.map_cons,aA]
  exact⟨v,vs,rfl,by simp[aj,h v (by simp)],Jp fun u hu=>h u (by simp[hu])⟩
theorem Jq {A:bG} {w:World} {σ:aV} {o:Store}:∀{a b:List AV} {x:Option Addr} {j:Nat},bH A w σ o a x j→bH A w σ o b x (j+a.length)→bH A w σ o (a++b) x j
 |[],b,x,j,_,h=>by simpa using h
 |c::a,b,x,j,h,k=>by
  simp only[List.cons_append,bH] at h ⊢
  refine⟨h.1,Jq h.2 ?_⟩
  rw[show j+1+a.length=j+(c::a).length from by simp;omega]
  exact k
def Reads (P:Program) (t:TypeId) (s:ai):Prop:=
 ∀(H:Type) (enc:TypeId×Value→H) (w:World) (base:Nat) (spare:Nat→Bool) (held:Bool) (fuel:Nat) (cs:List Value) (x:DataW H×List MemPlace),DataW.trod enc P w base spare held fuel t cs=some x→∃y:s.T,cs=bN s y
theorem Wg {P:Program} {t:TypeId} {k:IntKind} (ht:P.underlying t=some (.int k)):Reads P t (.i k):=fun _ _ _ _ _ _ _ cs _ h=>by
 obtain⟨n,rfl,_,_⟩:=DataW.trod_int ht h
 exact⟨n,rfl⟩
theorem Wh {w:World} {base n:Nat} {a:Addr} {cs:List Value} (h:w.cells? base a n=some cs):cs.length=n∧∀i v,cs[i]?=some v→w.cell? (a.add i)=some v:=by
 unfold World.cells? at h
 split at h
 ·obtain⟨h1,h2⟩:=xU h
  simp only[List.length_range] at h1
  refine⟨h1,fun i v hv=>?_⟩
  have hi:=(List.getElem?_eq_some_iff.1 hv).1
  obtain⟨b,hb1,hb2⟩:=h2 i i (by rw[List.getElem?_range (by omega)])
  rw[hv] at hb1
  simp only[Option.some.injEq] at hb1
  subst hb1
  exact hb2
 ·cases h
def y7 (P:Program) (t:TypeId) (s:ai):Prop:=
 ∀(H:Type) (enc:TypeId×Value→H) (w:World) (spare:Nat→Bool) (held:Bool) (fuel:Nat) (cs:List Value) (x:DataW H×List MemPlace),DataW.trod enc P w 0 spare held fuel t cs=some x→∃y:s.T,aA iG w [] [] (bP s y) cs
theorem Reads.g {P:Program} {t:TypeId} {s:ai} (h:Reads P t s) (hf:s.flat=true:=by rfl):y7 P t s:=fun H enc w spare held fuel cs x hx=>by
 obtain⟨y,rfl⟩:=h H enc w 0 spare held fuel cs x hx
 exact⟨y,by rw[yq s hf];exact Jp (yt s y)⟩
theorem Jr {w:World} {a:Addr}:∀{cs:List AV} {vs:List Value} {j:Nat},aA iG w [] [] cs vs→(∀i v,vs[i]?=some v→w.cell? (a.add (j+i))=some v)→bH iG w [] [] cs (some a) j
 |[],_,_,_,_=>by simp[bH]
 |c::cs,vs,j,h1,h2=>by
  simp only[aA] at h1
  obtain⟨v,r,rfl,hv,hl⟩:=h1
  simp only[bH]
  refine⟨⟨a,v,rfl,We _,by simpa using h2 0 v (by simp),hv⟩,Jr hl fun i u hu=>?_⟩
  have:=h2 (i+1) u (by simpa using hu)
  rwa [show j+1+i=j+(i+1) from by omega]
theorem Js {w:World} {a:Addr} {s:ai}:∀{l:List s.T} {i0:Nat},(∀i y,l[i]?=some y→∃cs,w.cells? 0 (a.add ((i0+i)*s.sz)) s.sz=some cs∧aA iG w [] [] (bP s y) cs)→bH iG w [] [] (bn s l) (some a) (i0*s.sz)
 |[],_,_=>by simp[bn,bH]
 |y::l,i0,h=>by
  obtain⟨cs,h0,hr⟩:=h 0 y (by simp)
  rw[Nat.add_zero] at h0
  obtain⟨h1,h2⟩:=Wh h0
  have e:bn s (y::l)=bP s y++bn s l:=by simp[bn]
  rw[e]
  refine Jq (Jr hr fun i v hv=>?_) ?_
  ·have:=h2 i v hv
   rwa [add_add] at this
  ·rw[gC,show i0*s.sz+s.sz=(i0+1)*s.sz from by rw[Nat.succ_mul]]
   refine Js fun i z hz=>?_
   have:=h (i+1) z (by simpa using hz)
   rwa [show i0+1+i=i0+(i+1) from by omega]
theorem Wi {P:Program} {t e:TypeId} {s:ai} (ht:P.underlying t=some (.slice e)) (he:y7 P e s) (hc:P.cellsOf e=s.sz)
  {H:Type} {enc:TypeId×Value→H} {w:World} {spare:Nat→Bool} {held:Bool} {fuel:Nat} {cs:List Value} {x:DataW H×List MemPlace} (h:DataW.trod enc P w 0 spare held fuel t cs=some x):
  ∃(v:Value) (l:List s.T),cs=[v]∧aj iG w [] [] (SV.row s l).g v:=by
 rcases Go.Deep.open_slice ht h with⟨rfl,_⟩|⟨a,len,cap,m,n,D,Pl,rfl,hb,hl,hm,hmm,_,hx⟩
 ·exact⟨_,[],rfl,by simp only[SV.g,aj];exact⟨none,0,rfl,Nat.le_refl _,by simp[bn,bJ],by simp[bn,bH]⟩⟩
 ·have hlm:len≤m:=by rw[hmm];split<;>omega
  have h1:∀i,i<len→∃y:s.T,∃cs,w.cells? 0 (a.add (i*s.sz)) s.sz=some cs∧aA iG w [] [] (bP s y) cs:=fun i hi=>by
   obtain⟨cs',k1,k2⟩:=hx i (by omega)
   obtain⟨y,hy⟩:=he _ _ _ _ _ _ _ _ k2
   rw[hc] at k1
   exact⟨y,cs',k1,hy⟩
  obtain⟨f,hf⟩:=Go.Deep.choose_lt h1
  refine⟨_,(List.range len).map f,rfl,?_⟩
  simp only[SV.g,aj,List.length_map,List.length_range]
  refine⟨some a,cap,rfl,hl,nG _ _,?_⟩
  have:=Js (w:=w) (a:=a) (s:=s) (l:=(List.range len).map f) (i0:=0) (fun i y hy=>by
   rw[List.getElem?_map] at hy
   obtain⟨j,hj,rfl⟩:=Option.map_eq_some_iff.1 hy
   have hi:i<len:=by
    have:=(List.getElem?_eq_some_iff.1 hj).1
    simpa using this
   rw[List.getElem?_range hi] at hj
   simp only[Option.some.injEq] at hj
   subst hj
   rw[Nat.zero_add]
   exact hf i hi)
  simpa using this
theorem Jt {P:Program} {t e:TypeId} {s:ai} (ht:P.underlying t=some (.slice e)) (he:Reads P e s) (hc:P.cellsOf e=s.sz)
  {H:Type} {enc:TypeId×Value→H} {w:World} {spare:Nat→Bool} {held:Bool} {fuel:Nat} {cs:List Value} {x:DataW H×List MemPlace} (h:DataW.trod enc P w 0 spare held fuel t cs=some x) (hf:s.flat=true:=by rfl):
  ∃(v:Value) (l:List s.T),cs=[v]∧aj iG w [] [] (SV.row s l).g v:=Wi ht (he.g hf) hc h
theorem Wj {cs:List Value} {i:Nat} {v:Value} (h:(cs.drop i).take 1=[v]):cs[i]?=some v:=by
 have:((cs.drop i).take 1)[0]?=some v:=by rw[h];rfl
 rw[List.getElem?_take,if_pos (by omega),List.getElem?_drop] at this
 simpa using this
theorem Wl {P:Program} {t e:TypeId} (ht:P.underlying t=some (.array 6 e)) (hi:P.underlying e=some (.int .i64)) (hc:P.cellsOf e=1) (hn:P.cellsOf t=6):Reads P t .dy:=fun _ _ _ _ _ _ _ cs _ h=>by
 obtain⟨xs,m,_,_,hl,hxs,hf⟩:=DataW.trod_array ht h
 have get:∀i,i<6→∃n,cs[i]?=some (.int .i64 n):=fun i Wm=>by
  have h1:=hf i Wm
  rw[hc,Nat.mul_one,List.getElem?_eq_getElem (by omega)] at h1
  obtain⟨n,h2,_⟩:=DataW.trod_int hi h1
  exact⟨n,Wj h2⟩
 rw[hn] at hl
 match cs,hl,get with
 |[c0,c1,c2,c3,c4,c5],_,get=>
  obtain⟨n0,h0⟩:=get 0 (by omega)
  obtain⟨n1,h1⟩:=get 1 (by omega)
  obtain⟨n2,h2⟩:=get 2 (by omega)
  obtain⟨n3,h3⟩:=get 3 (by omega)
  obtain⟨n4,h4⟩:=get 4 (by omega)
  obtain⟨n5,h5⟩:=get 5 (by omega)
  simp only[List.getElem?_cons_zero,List.getElem?_cons_succ,Option.some.injEq] at h0 h1 h2 h3 h4 h5
  exact⟨⟨n0,n1,n2,n3,n4,n5⟩,by simp[bN,iv,h0,h1,h2,h3,h4,h5]⟩
theorem Wn {P:Program} {t b i v:TypeId} {fs:Array Field} (ht:P.underlying t=some (.struct fs)) (hn:P.cellsOf t=8) (h0:(fs[0]?).map (fun f=>(f.type,f.offset))=some (i,0)) (h1:(fs[1]?).map (fun f=>(f.type,f.offset))=some (b,1)) (h2:(fs[2]?).map (fun f=>(f.type,f.offset))=some (v,7))
  (hi:P.underlying i=some (.int .i64)) (hci:P.cellsOf i=1) (hv:P.underlying v=some (.int .i64)) (hcv:P.cellsOf v=1) (hb:Reads P b .dy) (hcb:P.cellsOf b=6) (hsz:fs.size=3):Reads P t .off:=fun _ _ _ _ _ _ _ cs _ h=>by
 obtain⟨xs,m,_,_,hl,hxs,hf⟩:=DataW.trod_struct ht h
 rw[hn] at hl
 obtain⟨f0,e0,k0⟩:=Option.map_eq_some_iff.1 h0
 obtain⟨f1,e1,k1⟩:=Option.map_eq_some_iff.1 h1
 obtain⟨f2,e2,k2⟩:=Option.map_eq_some_iff.1 h2
 simp only[Prod.mk.injEq] at k0 k1 k2
 have g0:=hf 0 f0 e0
 have g1:=hf 1 f1 e1
 have g2:=hf 2 f2 e2
 rw[k0.1,k0.2,hci,List.getElem?_eq_getElem (by omega)] at g0
 rw[k1.1,k1.2,hcb,List.getElem?_eq_getElem (by omega)] at g1
 rw[k2.1,k2.2,hcv,List.getElem?_eq_getElem (by omega)] at g2
 obtain⟨n0,q0,_⟩:=DataW.trod_int hi g0
 obtain⟨y,q1⟩:=hb _ _ _ _ _ _ _ _ _ g1
 obtain⟨n2,q2,_⟩:=DataW.trod_int hv g2
 match cs,hl with
 |[c0,c1,c2,c3,c4,c5,c6,c7],_=>
  simp[bN] at q0 q1 q2
  exact⟨⟨n0,y,n2⟩,by simp[bN,iv,q0,q1,q2]⟩
theorem Wp {P:Program} {t b k o:TypeId} {fs:Array Field} (ht:P.underlying t=some (.struct fs)) (hn:P.cellsOf t=20) (hsz:fs.size=5)
  (h0:(fs[0]?).map (fun f=>(f.type,f.offset))=some (b,0)) (h1:(fs[1]?).map (fun f=>(f.type,f.offset))=some (b,6)) (h2:(fs[2]?).map (fun f=>(f.type,f.offset))=some (b,12))
  (h3:(fs[3]?).map (fun f=>(f.type,f.offset))=some (k,18)) (h4:(fs[4]?).map (fun f=>(f.type,f.offset))=some (o,19))
  (hb:Reads P b .dy) (hcb:P.cellsOf b=6) {e:TypeId} (hk:P.underlying k=some (.slice e)) (hke:Reads P e (.i .i64)) (hce:P.cellsOf e=1) (hck:P.cellsOf k=1)
  {f:TypeId} (ho:P.underlying o=some (.slice f)) (hoe:Reads P f .off) (hcf:P.cellsOf f=8) (hco:P.cellsOf o=1)
  {H:Type} {enc:TypeId×Value→H} {w:World} {spare:Nat→Bool} {held:Bool} {fuel:Nat} {cs:List Value} {x:DataW H×List MemPlace} (h:DataW.trod enc P w 0 spare held fuel t cs=some x):
  ∃p:aE,aA iG w [] [] (gL p.ss) cs:=by
 obtain⟨xs,m,_,_,hl,hxs,hf⟩:=DataW.trod_struct ht h
 rw[hn] at hl
 obtain⟨f0,e0,k0⟩:=Option.map_eq_some_iff.1 h0
 obtain⟨f1,e1,k1⟩:=Option.map_eq_some_iff.1 h1
 obtain⟨f2,e2,k2⟩:=Option.map_eq_some_iff.1 h2
 obtain⟨f3,e3,k3⟩:=Option.map_eq_some_iff.1 h3
 obtain⟨f4,e4,k4⟩:=Option.map_eq_some_iff.1 h4
 simp only[Prod.mk.injEq] at k0 k1 k2 k3 k4
 have g0:=hf 0 f0 e0
 have g1:=hf 1 f1 e1
 have g2:=hf 2 f2 e2
 have g3:=hf 3 f3 e3
 have g4:=hf 4 f4 e4
 rw[k0.1,k0.2,hcb,List.getElem?_eq_getElem (by omega)] at g0
 rw[k1.1,k1.2,hcb,List.getElem?_eq_getElem (by omega)] at g1
 rw[k2.1,k2.2,hcb,List.getElem?_eq_getElem (by omega)] at g2
 rw[k3.1,k3.2,hck,List.getElem?_eq_getElem (by omega)] at g3
 rw[k4.1,k4.2,hco,List.getElem?_eq_getElem (by omega)] at g4
 obtain⟨y0,q0⟩:=hb _ _ _ _ _ _ _ _ _ g0
 obtain⟨y1,q1⟩:=hb _ _ _ _ _ _ _ _ _ g1
 obtain⟨y2,q2⟩:=hb _ _ _ _ _ _ _ _ _ g2
 obtain⟨v3,l3,q3,r3⟩:=Jt hk hke hce g3
 obtain⟨v4,l4,q4,r4⟩:=Jt ho hoe hcf g4
 match cs,hl with
 |[c0,c1,c2,c3,c4,c5,c6,c7,c8,c9,c10,c11,c12,c13,c14,c15,c16,c17,c18,c19],_=>
  simp[bN,iv] at q0 q1 q2 q3 q4
  obtain⟨rfl,rfl,rfl,rfl,rfl,rfl⟩:=q0
  obtain⟨rfl,rfl,rfl,rfl,rfl,rfl⟩:=q1
  obtain⟨rfl,rfl,rfl,rfl,rfl,rfl⟩:=q2
  subst q3
  subst q4
  refine⟨⟨y0,y1,y2,l3,l4⟩,?_⟩
  have hi:∀n:Int,aj iG w [] [] (SV.si .i64 n).g (.int .i64 n):=fun n=>by simp[SV.g,aj,Value.oneCell']
  simp only[aE.ss,gL,aA]
  exact⟨_,_,rfl,hi _,_,_,rfl,hi _,_,_,rfl,hi _,_,_,rfl,hi _,_,_,rfl,hi _,_,_,rfl,hi _,_,_,rfl,hi _,_,_,rfl,hi _,_,_,rfl,hi _,_,_,rfl,hi _,_,_,rfl,hi _,_,_,rfl,hi _,
   _,_,rfl,hi _,_,_,rfl,hi _,_,_,rfl,hi _,_,_,rfl,hi _,_,_,rfl,hi _,_,_,rfl,hi _,_,_,rfl,r3,_,_,rfl,r4,rfl⟩
theorem Wq {P:Program} {w:World} {r:Reach} {base:Nat} {t:TypeId} {v:Value} {fs:Array Field} (ht:P.underlying t=some (.struct fs)) (h:Value.okWide P w r base t v):∃cs,v= .agg cs∧v.cells.toList=cs.toList:=by
 unfold Value.okWide at h
 rw[ht] at h
 obtain⟨cs,rfl,_⟩:=h
 exact⟨cs,rfl,rfl⟩
theorem Ws {P:Program} {w:World} {r:Reach} {base:Nat} {t:TypeId} {k:IntKind} {v:Value} (ht:P.underlying t=some (.int k)) (h:Value.okWide P w r base t v):v.cells.toList=[v]:=by
 cases v with
 |agg cs=>simp[Value.okWide,ht,Cell.okWide,Cell.ok] at h
 |_=>rfl
theorem Ju {H:Type} {enc:TypeId×Value→H} {P:Program} (hl:laidOutB P=true) {W W':World} (hb:Below W.heap.size W W') {sp:Nat→Bool}:
  ∀{ts:List TypeId} {vs:List Value} {ds:List (DataW H)} {ps:List MemPlace},DataW.TrodAll enc P W 0 (fun _=>true) true ts vs ds ps→(∀t∈ts,P.readableRec t=true∧t<P.types.size)→(∀p∈ps,p.block<W.heap.size)→(∀p∈ps,sp p.block=true)→
   DataW.TrodAll enc P W' 0 sp true ts vs ds ps
 |[],_,_,_,h,_,_,_=>by
  obtain⟨rfl,rfl,rfl⟩:=trodAll_nil h
  exact rfl
 |t::ts,_,_,_,h,ht,hlt,hs=>by
  obtain⟨v,vs,d,ds,a,b,rfl,rfl,rfl,h1,h2⟩:=trodAll_cons h
  obtain⟨r1,r2⟩:=ht t (by simp)
  exact⟨a,b,WideElems.Trod_stays hl r1 r2 h1 (fun p hp=>hb.same (hlt p (by simp[hp]))) (fun p hp=>hs p (by simp[hp])),
   Ju hl hb h2 (fun u hu=>ht u (by simp[hu])) (fun p hp=>hlt p (by simp[hp])) (fun p hp=>hs p (by simp[hp])),rfl⟩
theorem Wt {W W':World} {σ':aV} {o':Store} (h:Ext W [] [] W' σ' o'):Below W.heap.size W W':=
 ⟨h.os,h.tape,h.output,h.size,fun k hk=>(h.blk k hk (by rintro⟨i,c,hh⟩;simp at hh)).1⟩
@[simp] theorem Wu {k k':IntKind} {a b:Int}:(SV.si k a).same (.si k' b)↔k=k'∧a=b:=by simp[SV.same,SV.g]
@[simp] theorem C2 {k k':IntKind} {a b:Int}:(SV.il k a).same (.si k' b)↔k=k'∧a=b:=by simp[SV.same,SV.g]
@[simp] theorem y8 {a b:Bool}:(SV.sb a).same (.sb b)↔a=b:=by simp[SV.same,SV.g]
@[simp] theorem y9 {a b:Bool}:(SV.bl a).same (.sb b)↔a=b:=by simp[SV.same,SV.g]
@[simp] theorem Wv {s:ai} {a b:List s.T}:(SV.row s a).same (.row s b)↔a=b:=by
 constructor
 ·intro h;simp only[SV.same,SV.g,AV.sl.injEq] at h;exact mO s h.1 h.2
 ·rintro rfl;rfl
@[simp] theorem Ww {k k':IntKind} {a b:Int}:(SV.si k a).same (.il k' b)↔k=k'∧a=b:=by simp[SV.same,SV.g]
@[simp] theorem Wx {k k':IntKind} {a b:Int}:(SV.il k a).same (.il k' b)↔k=k'∧a=b:=by simp[SV.same,SV.g]
theorem Wy {v:SV}:v.same v↔True:=iff_true_intro rfl
theorem Wz {v:af}:v.same v↔True:=iff_true_intro rfl
theorem WA {a b c d:SV}:(SV.aD [a,b]).same (.aD [c,d])↔a.same c∧b.same d:=by simp[SV.same,SV.g,gL]
theorem WC {a b c d e f:SV}:(SV.aD [a,b,c]).same (.aD [d,e,f])↔a.same d∧b.same e∧c.same f:=by simp[SV.same,SV.g,gL]
theorem Jv {s t:ai}:(SV.row s []).same (.row t [])↔True:=iff_true_intro (by simp[SV.same,SV.g,bn])
theorem WE {s:ai} {l:List s.T}:(SV.row (.i .i64) []).same (.row s l)↔l=[]:=by
 constructor
 ·intro h;simp only[SV.same,SV.g,AV.sl.injEq] at h;simpa using h.1.symm
 ·rintro rfl;exact Jv.2 trivial
theorem C3 {a b:bp}:a=b↔a.a0=b.a0∧a.a1=b.a1∧a.a2=b.a2∧a.a3=b.a3∧a.a4=b.a4∧a.a5=b.a5:=by
 obtain⟨a0,a1,a2,a3,a4,a5⟩:=a
 obtain⟨b0,b1,b2,b3,b4,b5⟩:=b
 simp only[bp.mk.injEq]
@[simp] theorem WG {n:Int}:aC .i64 n↔ -9223372036854775808≤n∧n≤9223372036854775807:=Iff.rfl
theorem vcs:(∀{p:Prop} [inst:Decidable p],(decide p=true)=p)∧(∀{p:Prop} {x:Decidable p},decide p=false↔¬p)∧(∀{k k':IntKind} {a b:Int},(SV.il k a).same (SV.si k' b)↔k=k'∧a=b)∧(∀{k k':IntKind} {a b:Int},(SV.si k a).same (SV.si k' b)↔k=k'∧a=b)∧(∀{k k':IntKind} {a b:Int},(SV.si k a).same (SV.il k' b)↔k=k'∧a=b)∧(∀{k k':IntKind} {a b:Int},(SV.il k a).same (SV.il k' b)↔k=k'∧a=b)∧(∀{a b:Bool},(SV.sb a).same (SV.sb b)↔a=b)∧(∀{a b:Bool},(SV.bl a).same (SV.sb b)↔a=b)∧(∀{s:ai} {a b:List s.T},(SV.row s a).same (SV.row s b)↔a=b)∧(∀{a b c d:SV},(SV.aD [a,b]).same (SV.aD [c,d])↔a.same c∧b.same d)∧(∀{a b c d e f:SV},(SV.aD [a,b,c]).same (SV.aD [d,e,f])↔a.same d∧b.same e∧c.same f)∧(∀{s t:ai},(SV.row s []).same (SV.row t [])↔True)∧(∀{s:ai} {l:List s.T},(SV.row (ai.i IntKind.i64) []).same (SV.row s l)↔l=[])∧(∀{v:SV},v.same v↔True)∧(∀{v:af},v.same v↔True)∧(∀{n:Int},aC IntKind.i64 n↔ -9223372036854775808≤n∧n≤9223372036854775807)∧(∀p:Prop,(True∧p)=p)∧(∀p:Prop,(p∧True)=p)∧(∀a b:Bool,((a&&b)=true)=(a=true∧b=true))∧(∀b:Bool,((!b)=true)=(b=false))∧(∀b:Bool,((!b)=false)=(b=true)):=
 ⟨decide_eq_true_eq,decide_eq_false_iff_not,C2,Wu,Ww,Wx,y8,y9,Wv,WA,WC,Jv,WE,Wy,Wz,WG,true_and,and_true,Bool.and_eq_true,Bool.not_eq_true',Bool.not_eq_false'⟩
def bp.ok (b:bp):Bool:=[b.a0,b.a1,b.a2,b.a3,b.a4,b.a5].all fun n=>decide (0≤n)&&decide (n≤4)
theorem bp.t6 {b:bp}:b.ok=true↔(0≤b.a0∧b.a0≤4)∧(0≤b.a1∧b.a1≤4)∧(0≤b.a2∧b.a2≤4)∧(0≤b.a3∧b.a3≤4)∧(0≤b.a4∧b.a4≤4)∧(0≤b.a5∧b.a5≤4):=by
 simp[bp.ok]
def C4:bf:=⟨93,bp,.one (dc .dy),fun _=>True,fun b=> .si .i64 (if b.ok=true then 0 else 4)⟩
theorem h146:Holds Tryz.prog C4:=by
 refine con (L:=[]) C4 wt (fun _ _=> .mJ 7) (bu.none _) (by simp) (by kernel_rfl) (by kernel_rfl) (fun _=>rfl) ?_
 intro b _
 refine bh (let z0:=decide (b.a0<(0:Int));let z1:=SV.si .i64 (if bp.ok b=true then(0:Int) else(4:Int));let z2:=decide ((4:Int)<b.a0);let z3:=decide (b.a1<(0:Int));let z4:=decide ((4:Int)<b.a1);let z5:=decide (b.a2<(0:Int));let z6:=decide ((4:Int)<b.a2);let z7:=decide (b.a3<(0:Int));let z8:=decide ((4:Int)<b.a3);let z9:=decide (b.a4<(0:Int));let ak:=decide ((4:Int)<b.a4);let al:=decide (b.a5<(0:Int));let z12:=decide ((4:Int)<b.a5);(z0=true→(SV.il .i64 4).same z1)∧(z0=false→(z2=true→(SV.il .i64 4).same z1)∧(z2=false→(z3=true→(SV.il .i64 4).same z1)∧(z3=false→(z4=true→(SV.il .i64 4).same z1)∧(z4=false→(z5=true→(SV.il .i64 4).same z1)∧(z5=false→(z6=true→(SV.il .i64 4).same z1)∧(z6=false→(z7=true→(SV.il .i64 4).same z1)∧(z7=false→(z8=true→(SV.il .i64 4).same z1)∧(z8=false→(z9=true→(SV.il .i64 4).same z1)∧(z9=false→(ak=true→(SV.il .i64 4).same z1)∧(ak=false→(al=true→(SV.il .i64 4).same z1)∧(al=false→(z12=true→(SV.il .i64 4).same z1)∧(z12=false→(SV.il .i64 0).same z1))))))))))))) (by kernel_rfl) ?_
 conv=>zeta
 have hb:=@bp.t6 b
 by_cases h:b.ok=true
 ·have h2:=hb.1 h
  simp only[decide_eq_true_eq,decide_eq_false_iff_not,C2,eq_self,true_and,h,if_true]
  repeat' (first|refine And.intro ?_ ?_|intro _)
  all_goals first|trivial|omega|(exfalso;omega)
 ·have h2:=mt hb.2 h
  simp only[decide_eq_true_eq,decide_eq_false_iff_not,C2,eq_self,true_and,h]
  simp only[Bool.false_eq_true,if_false]
  repeat' (first|refine And.intro ?_ ?_|intro _)
  all_goals first|trivial|omega|(exfalso;omega)
def bp.l (b:bp):List Int:=[b.a0,b.a1,b.a2,b.a3,b.a4,b.a5]
def bY (p:aE):Int:=p.classes.length+12
def b9 (p:aE) (r:Int):Int:=
 if r - p.classes.length<0 then 1
 else if r - p.classes.length<6 then ae [p.supply.a0,p.supply.a1,p.supply.a2,p.supply.a3,p.supply.a4,p.supply.a5] (r - p.classes.length).toNat 0
 else ae [p.opn.a0,p.opn.a1,p.opn.a2,p.opn.a3,p.opn.a4,p.opn.a5] (r - p.classes.length - 6).toNat 0
def fF (p:aE) (r:Int) (o:Off):Int:=
 if r - p.classes.length<0 then(if o.bD=r then 1 else 0)
 else if r - p.classes.length<6 then ae [o.want.a0,o.want.a1,o.want.a2,o.want.a3,o.want.a4,o.want.a5] (r - p.classes.length).toNat 0
 else if ae [p.cls.a0,p.cls.a1,p.cls.a2,p.cls.a3,p.cls.a4,p.cls.a5] (r - p.classes.length - 6).toNat 0=0∨ae [p.cls.a0,p.cls.a1,p.cls.a2,p.cls.a3,p.cls.a4,p.cls.a5] (r - p.classes.length - 6).toNat 0=ae p.classes o.bD.toNat 0 then 0
 else ae [o.want.a0,o.want.a1,o.want.a2,o.want.a3,o.want.a4,o.want.a5] (r - p.classes.length - 6).toNat 0
def t7:bf:=⟨97,aE,.one ef,fun p=>p.classes.length≤8,fun p=> .si .i64 (bY p)⟩
def t8:bf:=⟨98,aE×Int,.cons ef (.one (cT .i64)),fun a=>a.1.classes.length≤8∧0≤a.2∧a.2<bY a.1,fun a=> .si .i64 (b9 a.1 a.2)⟩
def ua:bf:=⟨99,aE×Int×Off,.cons ef (.cons (cT .i64) (.one (dc .off))),fun a=>a.1.classes.length≤8∧0≤a.2.1∧a.2.1<bY a.1∧0≤a.2.2.bD∧a.2.2.bD<a.1.classes.length,fun a=> .si .i64 (fF a.1 a.2.1 a.2.2)⟩
theorem h157:Holds Tryz.prog t7:=by
 refine con (L:=[]) t7 wB (fun _ _=> .mJ 7) (bu.none _) (by simp) (by kernel_rfl) (by kernel_rfl) (fun _=>rfl) ?_
 intro p (hp:p.classes.length≤8)
 refine bh (let z0:=(↑p.classes.length:Int)+(12:Int);aC .i64 z0∧(SV.si .i64 z0).same (SV.si .i64 (bY p))) (by kernel_rfl) ?_
 simp only[vcs,bY]
 omega
theorem h158:Holds Tryz.prog t8:=by
 refine con (L:=[]) t8 wC (fun _ _=> .mJ 7) (bu.none _) (by simp) (by kernel_rfl) (by kernel_rfl) (fun _=>rfl) ?_
 rintro⟨p,r⟩ ⟨hp,h1,h2⟩
 simp only[bY] at hp h1 h2
 refine bh (let z0:=r - (↑p.classes.length:Int);let z1:=decide (z0<(0:Int));let z2:=SV.si .i64 (b9 p r);let z3:=decide (z0<(6:Int));let z4:=z0 - (6:Int);aC .i64 z0∧(z1=true→(SV.il .i64 1).same z2)∧(z1=false→(z3=true→(0:Int)≤z0∧z0<(6:Int)∧z0.toNat<6∧(SV.si .i64 (ae [p.supply.a0,p.supply.a1,p.supply.a2,p.supply.a3,p.supply.a4,p.supply.a5] z0.toNat (0:Int))).same z2)∧(z3=false→aC .i64 z4∧(0:Int)≤z4∧z4<(6:Int)∧z4.toNat<6∧(SV.si .i64 (ae [p.opn.a0,p.opn.a1,p.opn.a2,p.opn.a3,p.opn.a4,p.opn.a5] z4.toNat (0:Int))).same z2))) (by kernel_rfl) ?_
 simp only[vcs]
 repeat' (first|refine And.intro ?_ ?_|intro _)
 all_goals first
  |trivial
  |omega
  |(simp only[b9];(repeat' split)<;>first|rfl|omega)
theorem h156:Holds Tryz.prog ua:=by
 refine con (L:=[]) ua wA (fun _ _=> .mJ 7) (bu.none _) (by simp) (by kernel_rfl) (by kernel_rfl) (fun _=>rfl) ?_
 rintro⟨p,r,x⟩ ⟨hp,h1,h2,h3,h4⟩
 simp only[bY] at hp h1 h2 h3 h4
 refine bh (let z0:=(↑p.classes.length:Int);let z1:=decide (r - z0<(0:Int));let z2:=decide (x.bD=r);let z3:=SV.si .i64 (fF p r x);let z4:=decide (r - z0<(6:Int));let z5:=[x.want.a0,x.want.a1,x.want.a2,x.want.a3,x.want.a4,x.want.a5];let z6:=r - z0 - (6:Int);let z7:=ae [p.cls.a0,p.cls.a1,p.cls.a2,p.cls.a3,p.cls.a4,p.cls.a5] z6.toNat (0:Int);let z8:=decide (z7=(0:Int));let z9:=decide (z7=ae p.classes x.bD.toNat (0:Int));aC .i64 (r - z0)∧(z1=true→(z2=true→(SV.il .i64 1).same z3)∧(z2=false→(z1=true→(SV.il .i64 0).same z3)∧(z1=false→(z4=true→(0:Int)≤r - z0∧r - z0<(6:Int)∧(r - z0).toNat<6∧(SV.si .i64 (ae z5 (r - z0).toNat (0:Int))).same z3)∧(z4=false→aC .i64 z6∧(0:Int)≤z6∧z6<(6:Int)∧z6.toNat<6∧(z8=true→(SV.il .i64 0).same z3)∧(z8=false→(0:Int)≤z6∧z6<(6:Int)∧z6.toNat<6∧(0:Int)≤x.bD∧x.bD<z0∧x.bD.toNat<p.classes.length∧(z9=true→(SV.il .i64 0).same z3)∧(z9=false→(0:Int)≤z6∧z6<(6:Int)∧z6.toNat<6∧(SV.si .i64 (ae z5 z6.toNat (0:Int))).same z3))))))∧(z1=false→(z1=true→(SV.il .i64 0).same z3)∧(z1=false→(z4=true→(0:Int)≤r - z0∧r - z0<(6:Int)∧(r - z0).toNat<6∧(SV.si .i64 (ae z5 (r - z0).toNat (0:Int))).same z3)∧(z4=false→aC .i64 z6∧(0:Int)≤z6∧z6<(6:Int)∧z6.toNat<6∧(z8=true→(SV.il .i64 0).same z3)∧(z8=false→(0:Int)≤z6∧z6<(6:Int)∧z6.toNat<6∧(0:Int)≤x.bD∧x.bD<z0∧x.bD.toNat<p.classes.length∧(z9=true→(SV.il .i64 0).same z3)∧(z9=false→(0:Int)≤z6∧z6<(6:Int)∧z6.toNat<6∧(SV.si .i64 (ae z5 z6.toNat (0:Int))).same z3)))))) (by kernel_rfl) ?_
 simp only[vcs]
 repeat' (first|refine And.intro ?_ ?_|intro _)
 all_goals first
  |trivial
  |omega
  |(simp only[fF];(repeat' split)<;>first|rfl|omega)
def L2:List bf:=[ua,t7,t8]
theorem hL2:∀c∈L2,Holds Tryz.prog c:=by
 simp only[L2,List.forall_mem_cons,List.not_mem_nil,false_implies,implies_true,and_true]
 exact⟨h156,h157,h158⟩
def ca (p:aE) (l:List Off) (r:Int):Int:=(l.map (fF p r)).sum
def fG (p:aE) (l:List Off):Bool:=(List.range (p.classes.length+12)).all fun r=>decide (ca p l r≤b9 p r)
def za:bf:=⟨75,aE×List Off,.cons ef (.one (bR .off)),fun a=>a.1.classes.length≤8∧a.2.length≤1000∧(∀x∈a.2,0≤x.bD∧x.bD<a.1.classes.length∧x.want.ok=true),fun a=> .sb (fG a.1 a.2)⟩
def WH (a:aE×List Off):Nat→bz
 |3=> .inv Int (fun i=>⟨[(1,.row .off a.2),(2,.ptr 0 0 20),(5,.fn (.func 99) [] []),(11,.si .i64 (bY a.1)),(12,.si .i64 i)],[.cells a.1.ss 98 20 false]⟩) (fun s=>iS s 12)
  (fun i=>0≤i∧i≤bY a.1∧∀r:Nat,r<i→ca a.1 a.2 r≤b9 a.1 r) (fun i=>(bY a.1 - i).toNat)
  fun i=>fun
   |7=> .inv (Int×Int) (fun x=>⟨[(1,.row .off a.2),(2,.ptr 0 0 20),(5,.fn (.func 99) [] []),(6,.si .i64 i),(7,.si .i64 x.2),(11,.si .i64 (bY a.1)),(12,.si .i64 i),(15,.row .off a.2),(16,.si .i64 a.2.length),(17,.si .i64 x.1)],[.cells a.1.ss 98 20 false]⟩)
    (fun s=>(iS s 17,iS s 7))
    (fun x=>0≤x.1∧x.1≤a.2.length∧x.2=ca a.1 (a.2.take x.1.toNat) i) (fun x=>(a.2.length - x.1).toNat) fun _ _=> .look
   |_=> .look
 |_=> .look
theorem zb {b:bp} (h:b.ok=true) (k:Nat):0≤ae [b.a0,b.a1,b.a2,b.a3,b.a4,b.a5] k 0∧ae [b.a0,b.a1,b.a2,b.a3,b.a4,b.a5] k 0≤4:=by
 have:=bp.t6.1 h
 match k with
 |0|1|2|3|4|5=>simp[ae];omega
 |k+6=>simp[ae]
theorem pS {p:aE} {r:Int} {o:Off} (h:o.want.ok=true):0≤fF p r o∧fF p r o≤4:=by
 unfold fF
 have h1:=zb h (r - p.classes.length).toNat
 have h2:=zb h (r - p.classes.length - 6).toNat
 (repeat' split)<;>omega
theorem rQ {p:aE} {r:Int}:∀{l:List Off},(∀x∈l,x.want.ok=true)→0≤ca p l r∧ca p l r≤4*l.length
 |[],_=>by simp[ca]
 |x::l,h=>by
  have h1:=@pS p r x (h x (by simp))
  have h2:=@rQ p r l fun y hy=>h y (by simp[hy])
  simp only[ca,List.map_cons,List.sum_cons,List.length_cons] at h2 ⊢
  omega
theorem dQ {α:Type} {l:List α} {i:Nat} {d:α} (h:i<l.length):ae l i d∈l:=by rw[bF h];exact List.getElem_mem h
theorem k9 {α:Type} {l:List α} {i:Int} {d:α} (h0:0≤i) (h:i<l.length):l.take (i+1).toNat=l.take i.toNat++[ae l i.toNat d]:=by
 rw[show(i+1).toNat=i.toNat+1 from by omega,bF (by omega),List.take_succ_eq_append_getElem (by omega)]
theorem C5 {p:aE} {r:Int} {l:List Off} {i:Int} {d:Off} (h0:0≤i) (h:i<l.length):ca p (l.take (i+1).toNat) r=ca p (l.take i.toNat) r+fF p r (ae l i.toNat d):=by
 rw[k9 (d:=d) h0 h]
 simp[ca]
theorem rR {p:aE} {l:List Off}:fG p l=true↔∀r:Nat,r<bY p→ca p l r≤b9 p r:=by
 simp only[fG,bY,List.all_eq_true,List.mem_range,decide_eq_true_eq]
 constructor
 ·intro h r hr;exact h r (by omega)
 ·intro h r hr;exact h r (by omega)
theorem h134:Holds Tryz.prog za:=by
 refine con (L:=L2) za wb WH (bu.none _) hL2 (by kernel_rfl) (by kernel_rfl) (fun _=>rfl) ?_
 rintro⟨p,l⟩ ⟨hp,hl,hb⟩
 simp only at hp hl hb
 refine bh (let z0:=SV.ptr 0 0 20;let z1:=SV.fn (Fn.func 99) [] [];let z2:=SV.si .i64 (bY p);let z3:=af.cells (aE.ss p) 98 20 false;let z4:=(↑l.length:Int);let z5:=SV.si .i64 z4;p.classes.length≤8∧((((SV.row ai.off l).same (SV.row ai.off l)∧z0.same z0∧z1.same z1∧z2.same z2∧(SV.il .i64 0).same (SV.si .i64 0)∧True)∧z3.same z3∧True)∧(0:Int)≤(0:Int)∧(0:Int)≤bY p∧∀(r:Nat),(↑r:Int)<(0:Int)→ca p l (↑r:Int)≤b9 p (↑r:Int))∧∀(x:Int),let z6:=decide (x<bY p);let z7:=x+(1:Int);let z8:=SV.si .i64 z7;((0:Int)≤x∧x≤bY p∧∀(r:Nat),(↑r:Int)<x→ca p l (↑r:Int)≤b9 p (↑r:Int))→(z6=true→((((SV.row ai.off l).same (SV.row ai.off l)∧z0.same z0∧z1.same z1∧(SV.si .i64 x).same (SV.si .i64 x)∧(SV.il .i64 0).same (SV.si .i64 0)∧z2.same z2∧(SV.si .i64 x).same (SV.si .i64 x)∧(SV.row ai.off l).same (SV.row ai.off l)∧(SV.si .i64 (↑l.length:Int)).same z5∧(SV.il .i64 0).same (SV.si .i64 0)∧True)∧z3.same z3∧True)∧(0:Int)≤(0:Int)∧(0:Int)≤z4∧(0:Int)=ca p [] x)∧∀(x_1:Int×Int),let z9:=ae l x_1.fst.toNat ai.off.dflt;let ak:=x_1.snd+fF p x z9;let al:=x_1.fst+(1:Int);let z12:=SV.si .i64 x;let au:=SV.si .i64 ak;let ar:=SV.si .i64 al;let ax:=decide (b9 p x<x_1.snd);(0:Int)≤x_1.fst∧x_1.fst≤z4∧x_1.snd=ca p (List.take x_1.fst.toNat l) x→(decide (x_1.fst<z4)=true→(0:Int)≤x_1.fst∧x_1.fst<(↑l.length:Int)∧x_1.fst.toNat<l.length∧(p.classes.length≤8∧(0:Int)≤x∧x<bY p∧(0:Int)≤z9.bD∧z9.bD<(↑p.classes.length:Int))∧aC .i64 ak∧aC .i64 al∧(((SV.row ai.off l).same (SV.row ai.off l)∧z0.same z0∧z1.same z1∧z12.same z12∧au.same au∧z2.same z2∧z12.same z12∧(SV.row ai.off l).same (SV.row ai.off l)∧z5.same z5∧ar.same ar∧True)∧z3.same z3∧True)∧((0:Int)≤al∧al≤z4∧ak=ca p (List.take al.toNat l) x)∧(z4 - al).toNat<(z4 - x_1.fst).toNat)∧(decide (x_1.fst<z4)=false→(p.classes.length≤8∧(0:Int)≤x∧x<bY p)∧(ax=true→(SV.bl false).same (SV.sb (fG p l)))∧(ax=false→aC .i64 z7∧(((SV.row ai.off l).same (SV.row ai.off l)∧z0.same z0∧z1.same z1∧z2.same z2∧z8.same z8∧True)∧z3.same z3∧True)∧((0:Int)≤z7∧z7≤bY p∧∀(r:Nat),(↑r:Int)<z7→ca p l (↑r:Int)≤b9 p (↑r:Int))∧(bY p - z7).toNat<(bY p - x).toNat)))∧(z6=false→(SV.bl true).same (SV.sb (fG p l)))) (by kernel_rfl) ?_
 simp only[vcs]
 have hn:bY p=p.classes.length+12:=rfl
 have ho:∀x∈l,x.want.ok=true:=fun x hx=>(hb x hx).2.2
 refine⟨hp,⟨by omega,by omega,fun r hr=>by omega⟩,?_⟩
 rintro i ⟨hi0,hi1,hi⟩
 refine⟨fun hlt=>⟨⟨by omega,by omega,by simp[ca]⟩,?_⟩,?_⟩
 ·rintro⟨j,s⟩ ⟨hj0,hj1,hs⟩
  simp only at hj0 hj1 hs ⊢
  have hsb:=@rQ p i (l.take j.toNat) fun x hx=>ho x (List.mem_of_mem_take hx)
  have hlen:(l.take j.toNat).length≤l.length:=by simp;omega
  refine⟨fun hjl=>?_,fun hjl=>?_⟩
  ·have hm:=hb _ (dQ (d:=ai.off.dflt) (show j.toNat<l.length by omega))
   have hc:=@pS p i _ hm.2.2
   have hst:=@C5 p i l j ai.off.dflt hj0 hjl
   refine⟨by omega,by omega,by omega,⟨hp,by omega,by omega,hm.1,hm.2.1⟩,by omega,by omega,⟨by omega,by omega,by omega⟩,by omega⟩
  ·have:j.toNat=l.length:=by omega
   rw[this,List.take_length] at hs
   refine⟨⟨hp,by omega,by omega⟩,fun hgt=>?_,fun hle=>⟨by omega,⟨by omega,by omega,fun r hr=>?_⟩,by omega⟩⟩
   ·symm
    rw[Bool.eq_false_iff]
    intro hf
    have:=rR.1 hf i.toNat (by omega)
    rw[show((i.toNat:Nat):Int)=i from by omega] at this
    omega
   ·by_cases hr2:(r:Int)<i
    ·exact hi r hr2
    ·have:(r:Int)=i:=by omega
     rw[this]
     omega
 ·intro hge
  symm
  exact rR.2 fun r hr=>hi r (by omega)
def L3:List bf:=[za,C4,ua,t7,t8]
theorem hL3:∀c∈L3,Holds Tryz.prog c:=by
 simp only[L3,List.forall_mem_cons,List.not_mem_nil,false_implies,implies_true,and_true]
 exact⟨h134,h146,h156,h157,h158⟩
def dR (p:aE) (k:Nat):Prop:=
 let c:=ae [p.cls.a0,p.cls.a1,p.cls.a2,p.cls.a3,p.cls.a4,p.cls.a5] k 0
 let o:=ae [p.opn.a0,p.opn.a1,p.opn.a2,p.opn.a3,p.opn.a4,p.opn.a5] k 0
 let s:=ae [p.supply.a0,p.supply.a1,p.supply.a2,p.supply.a3,p.supply.a4,p.supply.a5] k 0
 0≤c∧c≤4∧0≤o∧o≤s∧(c≠0∨o=s)
instance (p:aE) (k:Nat):Decidable (dR p k):=by unfold dR;infer_instance
def zd (p:aE):Bool:=(List.range 6).all fun k=>decide (dR p k)
theorem kC {p:aE} {k:Nat}:dR p k↔(0≤ae [p.cls.a0,p.cls.a1,p.cls.a2,p.cls.a3,p.cls.a4,p.cls.a5] k 0∧ae [p.cls.a0,p.cls.a1,p.cls.a2,p.cls.a3,p.cls.a4,p.cls.a5] k 0≤4∧0≤ae [p.opn.a0,p.opn.a1,p.opn.a2,p.opn.a3,p.opn.a4,p.opn.a5] k 0∧
  ae [p.opn.a0,p.opn.a1,p.opn.a2,p.opn.a3,p.opn.a4,p.opn.a5] k 0≤ae [p.supply.a0,p.supply.a1,p.supply.a2,p.supply.a3,p.supply.a4,p.supply.a5] k 0∧
  (ae [p.cls.a0,p.cls.a1,p.cls.a2,p.cls.a3,p.cls.a4,p.cls.a5] k 0≠0∨ae [p.opn.a0,p.opn.a1,p.opn.a2,p.opn.a3,p.opn.a4,p.opn.a5] k 0=ae [p.supply.a0,p.supply.a1,p.supply.a2,p.supply.a3,p.supply.a4,p.supply.a5] k 0)):=Iff.rfl
attribute [irreducible] dR
theorem ub {p:aE}:zd p=true↔∀k,k<6→dR p k:=by simp[zd]
def eB (p:aE):Int:=
 if p.supply.ok=false then 4
 else if zd p=false then 4
 else if 8<p.classes.length∨160<p.offers.length then 3
 else if ¬∀c∈p.classes,0≤c∧c≤4 then 4
 else 0
def C6:bf:=⟨58,aE,.one ef,fun p=>True,fun p=> .si .i64 (eB p)⟩
def WI (p:aE):Nat→bz
 |5=> .inv Int (fun k=>⟨[(1,.ptr 0 0 20),(16,.si .i64 k)],[.cells p.ss 98 20 false]⟩) (fun s=>iS s 16) (fun k=>0≤k∧k≤6∧∀j:Nat,j<k→dR p j) (fun k=>(6 - k).toNat) fun _ _=> .look
 |14=> .inv Int (fun k=>⟨[(76,.row (.i .i64) p.classes),(77,.si .i64 p.classes.length),(78,.si .i64 k)],[.cells p.ss 98 20 false]⟩) (fun s=>iS s 78)
  (fun k=>0≤k∧k≤p.classes.length∧∀c∈p.classes.take k.toNat,0≤c∧c≤4) (fun k=>(p.classes.length - k).toNat) fun _ _=> .look
 |_=> .look
theorem Jw {p:aE} (h:p.supply.ok=false):eB p=4:=by simp[eB,h]
theorem Jx {p:aE} (h:p.supply.ok=true) {k:Nat} (hk:k<6) (hn:¬dR p k):eB p=4:=by
 have:zd p=false:=by
  rw[Bool.eq_false_iff]
  exact fun hh=>hn (ub.1 hh k hk)
 simp[eB,h,this]
theorem ze {p:aE} (h:p.supply.ok=true) (hp:∀j:Nat,j<6→dR p j) (hl:8<p.classes.length∨160<p.offers.length):eB p=3:=by
 simp[eB,h,ub.2 hp,hl]
theorem zf {p:aE} (h:p.supply.ok=true) (hp:∀j:Nat,j<6→dR p j) (hl:¬(8<p.classes.length∨160<p.offers.length)) {c:Int} (hc:c∈p.classes) (hn:¬(0≤c∧c≤4)):eB p=4:=by
 have:¬∀c∈p.classes,0≤c∧c≤4:=fun hh=>hn (hh c hc)
 simp only[eB,h,ub.2 hp,if_neg hl,this,Bool.true_eq_false,if_false,not_false_iff,if_true]
theorem C7 {p:aE} (h:p.supply.ok=true) (hp:∀j:Nat,j<6→dR p j) (hl:¬(8<p.classes.length∨160<p.offers.length)) (hc:∀c∈p.classes,0≤c∧c≤4):eB p=0:=by
 simp only[eB,h,ub.2 hp,if_neg hl,Bool.true_eq_false,if_false,if_neg (Classical.not_not.2 hc)]
theorem C9 {p:aE} (h:eB p=0):p.supply.ok=true∧(∀j:Nat,j<6→dR p j)∧p.classes.length≤8∧p.offers.length≤160∧∀c∈p.classes,0≤c∧c≤4:=by
 unfold eB at h
 split at h
 ·cases h
 ·split at h
  ·cases h
  ·split at h
   ·cases h
   ·split at h
    ·cases h
    ·rename_i h1 h2 h3 h4
     have h4:=Classical.not_not.1 h4
     exact⟨by simpa using h1,ub.1 (by simpa using h2),by omega,by omega,h4⟩
theorem Jy {l:List Int} {i:Int} {P:Int→Prop} (h0:0≤i) (h:i<l.length) (h1:∀c∈l.take i.toNat,P c) (h2:P (ae l i.toNat 0)):∀c∈l.take (i+1).toNat,P c:=by
 rw[k9 (d:=0) h0 h]
 intro c hc
 rcases List.mem_append.1 hc with hc|hc
 ·exact h1 c hc
 ·rw[List.mem_singleton.1 hc];exact h2
theorem h118:Holds Tryz.prog C6:=by
 refine con (L:=L3) C6 vU WI (bu.none _) hL3 (by kernel_rfl) (by kernel_rfl) (fun _=>rfl) ?_
 intro p _
 refine bh (let z0:=if p.supply.ok=true then(0:Int) else(4:Int);let z1:=decide (z0≠(0:Int));let z2:=SV.si .i64 (eB p);let z3:=SV.ptr 0 0 20;let z4:=SV.il .i64 0;let z5:=SV.row (ai.i .i64) p.classes;let z6:=af.cells [SV.si .i64 p.supply.a0,SV.si .i64 p.supply.a1,SV.si .i64 p.supply.a2,SV.si .i64 p.supply.a3,SV.si .i64 p.supply.a4,SV.si .i64 p.supply.a5,SV.si .i64 p.opn.a0,SV.si .i64 p.opn.a1,SV.si .i64 p.opn.a2,SV.si .i64 p.opn.a3,SV.si .i64 p.opn.a4,SV.si .i64 p.opn.a5,SV.si .i64 p.cls.a0,SV.si .i64 p.cls.a1,SV.si .i64 p.cls.a2,SV.si .i64 p.cls.a3,SV.si .i64 p.cls.a4,SV.si .i64 p.cls.a5,z5,SV.row ai.off p.offers] 98 20 false;let z7:=[p.cls.a0,p.cls.a1,p.cls.a2,p.cls.a3,p.cls.a4,p.cls.a5];let z8:=[p.opn.a0,p.opn.a1,p.opn.a2,p.opn.a3,p.opn.a4,p.opn.a5];let z9:=[p.supply.a0,p.supply.a1,p.supply.a2,p.supply.a3,p.supply.a4,p.supply.a5];let ak:=(↑p.classes.length:Int);let al:=decide ((8:Int)<ak);let z12:=decide ((160:Int)<(↑p.offers.length:Int));let au:=(↑p.classes.length:Int);let ar:=SV.si .i64 au;True∧(z1=true→(SV.si .i64 z0).same z2)∧(z1=false→(((z3.same z3∧z4.same (SV.si .i64 0)∧True)∧z6.same z6∧True)∧(0:Int)≤(0:Int)∧(0:Int)≤(6:Int)∧∀(j:Nat),(↑j:Int)<(0:Int)→dR p j)∧∀(x:Int),let ax:=decide (x<(6:Int));let ay:=ae z7 x.toNat (0:Int);let z17:=decide (ay<(0:Int));let aG:=decide ((4:Int)<ay);let aH:=ae z8 x.toNat (0:Int);let z20:=decide (aH<(0:Int));let z21:=ae z9 x.toNat (0:Int);let z22:=decide (ay=(0:Int));let z23:=x+(1:Int);let z24:=SV.si .i64 z23;((0:Int)≤x∧x≤(6:Int)∧∀(j:Nat),(↑j:Int)<x→dR p j)→(ax=true→(0:Int)≤x∧x<(6:Int)∧x.toNat<6∧(0:Int)≤x∧x<(6:Int)∧x.toNat<6∧(z17=true→(SV.il .i64 4).same z2)∧(z17=false→(aG=true→(SV.il .i64 4).same z2)∧(aG=false→(z20=true→(SV.il .i64 4).same z2)∧(z20=false→(0:Int)≤x∧x<(6:Int)∧x.toNat<6∧(decide (z21<aH)=true→(SV.il .i64 4).same z2)∧(decide (z21<aH)=false→(z22=true→(0:Int)≤x∧x<(6:Int)∧x.toNat<6∧(decide (aH≠z21)=true→(SV.il .i64 4).same z2)∧(decide (aH≠z21)=false→aC .i64 z23∧((z3.same z3∧z24.same z24∧True)∧z6.same z6∧True)∧((0:Int)≤z23∧z23≤(6:Int)∧∀(j:Nat),(↑j:Int)<z23→dR p j)∧((6:Int) - z23).toNat<((6:Int) - x).toNat))∧(z22=false→aC .i64 z23∧((z3.same z3∧z24.same z24∧True)∧z6.same z6∧True)∧((0:Int)≤z23∧z23≤(6:Int)∧∀(j:Nat),(↑j:Int)<z23→dR p j)∧((6:Int) - z23).toNat<((6:Int) - x).toNat))))))∧(ax=false→(al=true→(SV.il .i64 3).same z2)∧(al=false→(z12=true→(SV.il .i64 3).same z2)∧(z12=false→(((z5.same z5∧(SV.si .i64 ak).same ar∧z4.same (SV.si .i64 0)∧True)∧z6.same z6∧True)∧(0:Int)≤(0:Int)∧(0:Int)≤au∧∀(c:Int),c∈[]→(0:Int)≤c∧c≤(4:Int))∧∀(x:Int),let z25:=ae p.classes x.toNat (0:Int);let z26:=decide (z25<(0:Int));let z27:=decide ((4:Int)<z25);let z28:=x+(1:Int);let z29:=SV.si .i64 z28;((0:Int)≤x∧x≤au∧∀(c:Int),c∈List.take x.toNat p.classes→(0:Int)≤c∧c≤(4:Int))→(decide (x<au)=true→(0:Int)≤x∧x<ak∧x.toNat<p.classes.length∧(z26=true→(SV.il .i64 4).same z2)∧(z26=false→(z27=true→(SV.il .i64 4).same z2)∧(z27=false→aC .i64 z28∧((z5.same z5∧ar.same ar∧z29.same z29∧True)∧z6.same z6∧True)∧((0:Int)≤z28∧z28≤au∧∀(c:Int),c∈List.take z28.toNat p.classes→(0:Int)≤c∧c≤(4:Int))∧(au - z28).toNat<(au - x).toNat)))∧(decide (x<au)=false→z4.same z2)))))) (by kernel_rfl) ?_
 simp only[vcs]
 by_cases hs:bp.ok p.supply=true
 ·simp only[hs,if_true]
  refine⟨fun h=>absurd rfl h,fun _=>⟨⟨by omega,by omega,fun j hj=>by omega⟩,?_⟩⟩
  rintro k ⟨hk0,hk1,hk⟩
  refine⟨fun hlt=>?_,fun hge=>?_⟩
  ·have bad:¬dR p k.toNat→(4:Int)=eB p:=fun h=>(Jx hs (by omega) h).symm
   have Da:dR p k.toNat→∀(j:Nat),(j:Int)<k+1→dR p j:=fun h j hj=>by
    by_cases hj2:(j:Int)<k
    ·exact hk j hj2
    ·rw[show j=k.toNat from by omega];exact h
   repeat' (first|refine And.intro ?_ ?_|intro _)
   all_goals first
    |omega
    |exact bad fun hh=>by have h2:=kC.1 hh;omega
    |exact Da (kC.2 (by omega)) _ (by assumption)
  ·have hall:∀j:Nat,j<6→dR p j:=fun j hj=>hk j (by omega)
   refine⟨fun h=>(ze hs hall (.inl (by omega))).symm,fun h8=>⟨fun h=>(ze hs hall (.inr (by omega))).symm,fun h160=>⟨⟨by omega,by omega,by simp⟩,?_⟩⟩⟩
   rintro i ⟨hi0,hi1,hi⟩
   refine⟨fun hlt=>?_,fun hge=>?_⟩
   ·have hm:=dQ (d:=0) (show i.toNat<p.classes.length by omega)
    refine⟨by omega,by omega,by omega,fun h=>(zf hs hall (by omega) hm (by omega)).symm,fun h1=>⟨fun h=>(zf hs hall (by omega) hm (by omega)).symm,fun h2=>⟨by omega,⟨by omega,by omega,?_⟩,by omega⟩⟩⟩
    exact Jy hi0 hlt hi (by omega)
   ·rw[show i.toNat=p.classes.length from by omega,List.take_length] at hi
    exact(C7 hs hall (by omega) hi).symm
 ·have hs2:bp.ok p.supply=false:=by simpa using hs
  simp only[hs2,Bool.false_eq_true,if_false]
  exact⟨fun _=>(Jw hs2).symm,fun h=>absurd (by decide) h⟩
def fH (n:Int) (o:Off):Int:=
 if o.bD<0∨n≤o.bD then 6 else if o.value<1∨1000000<o.value then 4 else if o.want.ok then 0 else 4
def Db:bf:=⟨94,Int×Off,.cons (cT .i64) (.one (dc .off)),fun p=>True,fun p=> .si .i64 (fH p.1 p.2)⟩
theorem h147:Holds Tryz.prog Db:=by
 refine con (L:=L3) Db wu (fun p=>fun _=> .look) (bu.none _) hL3 (by kernel_rfl) (by kernel_rfl) (fun _=>rfl) ?_
 rintro⟨n,x⟩ _
 refine bh (let z0:=decide (x.bD<(0:Int));let z1:=SV.si .i64 (fH n x);let z2:=decide (n≤x.bD);let z3:=decide (x.value<(1:Int));let z4:=decide ((1000000:Int)<x.value);(z0=true→(SV.il .i64 6).same z1)∧(z0=false→(z2=true→(SV.il .i64 6).same z1)∧(z2=false→(z3=true→(SV.il .i64 4).same z1)∧(z3=false→(z4=true→(SV.il .i64 4).same z1)∧(z4=false→True∧(SV.si .i64 (if x.want.ok=true then(0:Int) else(4:Int))).same z1))))) (by kernel_rfl) ?_
 simp only[vcs]
 repeat' (first|refine And.intro ?_ ?_|intro _)
 all_goals first
  |trivial
  |omega
  |(simp only[fH];(repeat' split)<;>first|rfl|omega|simp_all)
def fp (p:aE) (o:Off):Int:=
 if fH p.classes.length o≠0 then fH p.classes.length o else if o.want=bp.zero then 4 else if fG p [o]=false then 14 else 0
def Dc:bf:=⟨59,aE×Off,.cons ef (.one (dc .off)),fun a=>a.1.classes.length≤8,fun a=> .si .i64 (fp a.1 a.2)⟩
def L4:List bf:=Db::L3
theorem hL4:∀c∈L4,Holds Tryz.prog c:=by
 simp only[L4,List.forall_mem_cons]
 exact⟨h147,hL3⟩
theorem Jz {n:Int} {o:Off} (h:fH n o=0):0≤o.bD∧o.bD<n∧1≤o.value∧o.value≤1000000∧o.want.ok=true:=by
 unfold fH at h
 split at h
 ·cases h
 ·split at h
  ·cases h
  ·split at h
   ·exact⟨by omega,by omega,by omega,by omega,by assumption⟩
   ·cases h
theorem h119:Holds Tryz.prog Dc:=by
 refine con (L:=L4) Dc vV (fun p=>fun _=> .look) (bu.none _) hL4 (by kernel_rfl) (by kernel_rfl) (fun _=>rfl) ?_
 rintro⟨p,x⟩ (hp:p.classes.length≤8)
 refine bh (let z0:=fH (↑p.classes.length:Int) x;let z1:=decide (z0≠(0:Int));let z2:=SV.si .i64 (fp p x);let z3:=decide (x.want.a0=(0:Int))&&(decide (x.want.a1=(0:Int))&&(decide (x.want.a2=(0:Int))&&(decide (x.want.a3=(0:Int))&&(decide (x.want.a4=(0:Int))&&(decide (x.want.a5=(0:Int))&&true)))));True∧(z1=true→(SV.si .i64 z0).same z2)∧(z1=false→(z3=true→(SV.il .i64 4).same z2)∧(z3=false→(p.classes.length≤8∧1≤1000∧∀(x_1:Off),x_1∈[x]→(0:Int)≤x_1.bD∧x_1.bD<(↑p.classes.length:Int)∧x_1.want.ok=true)∧((!fG p [x])=true→(SV.il .i64 14).same z2)∧((!fG p [x])=false→(SV.il .i64 0).same z2)))) (by kernel_rfl) ?_
 conv=>zeta
 have hw:(decide (x.want.a0=0)&&(decide (x.want.a1=0)&&(decide (x.want.a2=0)&&(decide (x.want.a3=0)&&(decide (x.want.a4=0)&&decide (x.want.a5=0))))))=decide (x.want=bp.zero):=by
  rw[Bool.eq_iff_iff]
  simp[C3,bp.zero]
 simp only[Bool.and_true,hw]
 simp only[vcs]
 refine⟨fun h=>by simp only[fp,if_pos h],fun h=>?_⟩
 have hz:fH p.classes.length x=0:=Classical.not_not.1 h
 have hx:=Jz hz
 refine⟨fun h3=>by simp[fp,hz,h3],fun h3=>⟨⟨hp,by omega,?_⟩,fun h4=>?_,fun h4=>?_⟩⟩
 ·intro y hy
  rw[List.mem_singleton.1 hy]
  exact⟨hx.1,hx.2.1,hx.2.2.2.2⟩
 ·simp[fp,hz,h3,h4]
 ·simp[fp,hz,h3,h4]
end Go.Vi
