/-
  The symbolic run is sound: values, lists of cells, loads, what is frozen.
  Conditions: none.
-/
import Derived.Test.YtojbjnpkdlfijaaDF04
set_option maxRecDepth 100000
set_option maxHeartbeats 4000000
set_option linter.unusedSimpArgs false
set_option linter.unusedVariables false
namespace Go.Vi
def gE (env:SEnv):EnvA:=env.map fun p=>(p.1,p.2.g)
def gO (o:SStore):Store:=o.map SObj.g
def SSt.g (st:SSt):St:=⟨gE st.env,gO st.o⟩
theorem getS_g:∀(env:SEnv) (s:Nat),getE (gE env) s=(getS env s).g
 |[],_=>by simp[gE,getE,getS,SV.g]
 |p::r,s=>by
  have:=getS_g r s
  simp only[gE,List.map_cons,getE,getS] at this ⊢
  rw[this]
  cases Nat.beq p.1 s<;>rfl
theorem putS_g (env:SEnv) (d:Option Nat) (v:SV):gE (putS env d v)=putE (gE env) d v.g:=by
 cases d<;>simp[putS,putE,gE]
theorem ofCell_g (v:Value):(SV.ofCell v).g= .sc v:=by cases v<;>simp[SV.ofCell,SV.g]
theorem map_ofCell (l:List Value):(l.map SV.ofCell).map SV.g=l.map .sc:=by simp[ofCell_g]
theorem evS_g (env:SEnv) (x:Operand):evA (gE env) x=(evS env x).g:=by
 cases x with
 |tmp t=>simp[evA,evS,getS_g]
 |const v=>
  cases v<;>simp[evA,evS,AV.ofVal,SV.ofVal,SV.g]
  split<;>simp[SV.g,gL_map,ofCell_g]
 |global g=>simp[evA,evS,SV.g]
 |func f=>simp[evA,evS,SV.g,gL]
theorem evS_fun (env:SEnv):evA (gE env)=fun x=>(evS env x).g:=funext fun x=>evS_g env x
theorem cellsOf_g (v:SV):v.g.cellsOf=gL v.cellsOf:=by
 cases v<;>simp[SV.g,AV.cellsOf,SV.cellsOf,gL]
theorem one_g (v:SV):v.g.one=v.one:=by
 cases v<;>simp[SV.g,AV.one,SV.one,Value.oneCell']
theorem oneS_g (l:List SV):oneL (gL l)=oneS l:=by
 induction l with
 |nil=>simp[gL,oneL,oneS]
 |cons v l ih=>simp only[oneL,oneS,gL,List.all_cons,one_g] at ih ⊢;rw[ih]
theorem pureS_g:∀(l:List SV),pureS l=true→pureL (gL l)=true
 |[],_=>by simp[gL,pureL]
 |v::l,h=>by
  simp only[pureS,Bool.and_eq_true] at h
  simp only[gL,pureL,pureS_g l h.2,Bool.and_true]
  have h1:=h.1
  cases v<;>simp[SV.pure] at h1<;>simp[SV.g,AV.pure,flatA_pure]
mutual
theorem bel_g (k:Nat):∀(v:SV),v.g.bel k=v.bel k
 | .agg cs=>by simp only[SV.g,AV.bel,SV.bel];exact belS_g k cs
 | .tup cs=>by simp only[SV.g,AV.bel,SV.bel];exact belS_g k cs
 | .fn _ a b=>by simp only[SV.g,AV.bel,SV.bel,belS_g k a,belS_g k b]
 | .ud| .sc _| .il .. | .si .. | .bl _| .sb _| .row .. | .ep .. | .ptr .. | .ap .. | .rp .. | .ow .. | .os .. | .oc .. | .mp _=>by simp[SV.g,AV.bel,SV.bel]
theorem belS_g (k:Nat):∀(l:List SV),belL k (gL l)=belS k l
 |[]=>by simp[gL,belL,belS]
 |v::l=>by simp only[gL,belL,belS,bel_g k v,belS_g k l]
end
theorem map_bel (k:Nat) {sk sv:SId} (ka:Bool) (es:List (sk.T×sv.T)):belL k ((es.map fun p=>(keyV sk ka p.1,valA sv p.2)).map (·.2))=true:=
 belL_all fun a h=>by
  simp only[List.map_map,List.mem_map,Function.comp] at h
  obtain⟨p,_,rfl⟩:=h
  simp[valA,AV.bel]
theorem obel_g (k:Nat) (x:SObj):x.g.bel k=x.bel k:=by
 cases x with
 |dead=>rfl
 |cells cs e sz pu=>simp[SObj.g,AObj.bel,SObj.bel,belS_g]
 |row s l e pu=>simp[SObj.g,AObj.bel,SObj.bel,flatA_bel]
 |map sk sv ka es kt pu=>simp only[SObj.g,AObj.bel,SObj.bel,map_bel,Bool.or_true]
mutual
theorem noSl_g:∀(v:SV),v.noSl=true→v.g.noSl=true
 | .agg cs,h=>by simp only[SV.noSl] at h;simp only[SV.g,AV.noSl];exact noSlS_g cs h
 | .tup cs,h=>by simp only[SV.noSl] at h;simp only[SV.g,AV.noSl];exact noSlS_g cs h
 | .ud,_| .sc _,_| .il ..,_| .si ..,_| .bl _,_| .sb _,_=>by simp[SV.g,AV.noSl]
 | .row ..,h| .ep ..,h| .ptr ..,h| .ap ..,h| .rp ..,h| .ow ..,h| .os ..,h| .oc ..,h| .mp _,h| .fn ..,h=>by simp[SV.noSl] at h
theorem noSlS_g:∀(l:List SV),noSlS l=true→noSlL (gL l)=true
 |[],_=>by simp[gL,noSlL]
 |v::l,h=>by
  simp only[noSlS,Bool.and_eq_true] at h
  simp only[gL,noSlL,noSl_g v h.1,noSlS_g l h.2,Bool.and_true]
end
theorem gL_len (l:List SV):(gL l).length=l.length:=by simp[gL_map]
theorem gL_get (l:List SV) (i:Nat):(gL l)[i]?=(l[i]?).map SV.g:=by simp[gL_map]
theorem gL_app (a b:List SV):gL (a++b)=gL a++gL b:=by simp[gL_map]
theorem partS_g {cs:List SV} {off:Nat} {n:Option Nat} {v:SV} (h:partS cs off n=some v):partA (gL cs) off n=some v.g:=by
 cases n with
 |none=>simp only[partS] at h;simp[partA,gL_get,h]
 |some m=>
  simp only[partS] at h
  split at h
  ·rename_i hl
   simp only[Option.some.injEq] at h;subst h
   simp only[partA]
   rw[if_pos (by rw[gL_len];exact hl)]
   simp only[SV.g,gL_map,List.map_take,List.map_drop]
  ·cases h
theorem writeS_g:∀(vs cs:List SV) (off:Nat),gL (writeS cs off vs)=writeL (gL cs) off (gL vs)
 |[],cs,off=>by simp[writeS,gL,writeL]
 |v::vs,cs,off=>by
  simp only[writeS,gL,writeL]
  rw[writeS_g vs]
  congr 1
  simp[gL_map]
theorem gL_qn (cs:List SV):gL (cs.map SV.qn)=(gL cs).map AV.qn:=by
 rw[gL_map,gL_map,List.map_map,List.map_map]
 exact List.map_congr_left fun v _=>qnS_g v
theorem gL_qnL (pu:Bool) (cs:List SV):gL (if pu then cs.map SV.qn else cs)=qnL pu (gL cs):=by
 unfold qnL
 split
 ·exact gL_qn cs
 ·rfl
theorem plain_qn {c:AV} (h:Plain c.qn):c.one=true∧c.pure=true:=by
 by_cases hc:c.qn=c
 ·rw[hc] at h
  exact⟨h.one,h.pure⟩
 ·unfold AV.qn at hc
  split at hc
  ·exact⟨rfl,rfl⟩
  ·exact absurd rfl hc
theorem qnL_plain {pu:Bool} {cs:List AV} (h:∀c∈qnL pu cs,Plain c):oneL cs=true∧pureL cs=true:=by
 have key:∀c∈cs,c.one=true∧c.pure=true:=by
  intro c hc
  unfold qnL at h
  split at h
  ·exact plain_qn (h _ (List.mem_map_of_mem hc))
  ·exact⟨(h c hc).one,(h c hc).pure⟩
 exact⟨by simp only[oneL,List.all_eq_true];exact fun c hc=>(key c hc).1,pureL_all fun c hc=>(key c hc).2⟩
theorem writeL_len:∀(vs cs:List AV) (off:Nat),(writeL cs off vs).length=cs.length
 |[],_,_=>rfl
 |v::vs,cs,off=>by simp only[writeL];rw[writeL_len vs];simp
theorem writeS_len:∀(vs cs:List SV) (off:Nat),(writeS cs off vs).length=cs.length
 |[],_,_=>rfl
 |v::vs,cs,off=>by simp only[writeS];rw[writeS_len vs];simp
theorem writeL_mid:∀(vs a b c:List AV) (off:Nat),off+vs.length≤b.length→writeL (a++b++c) (a.length+off) vs=a++writeL b off vs++c
 |[],a,b,c,off,_=>rfl
 |v::vs,a,b,c,off,h=>by
  simp only[List.length_cons] at h
  simp only[writeL]
  have h1:(a++b++c).set (a.length+off) v=a++b.set off v++c:=by
   rw[List.append_assoc,List.set_append_right _ _ (by omega),Nat.add_sub_cancel_left,List.set_append_left _ _ (by omega),List.append_assoc]
  rw[h1,Nat.add_assoc,writeL_mid vs a (b.set off v) c (off+1) (by simp;omega)]
theorem flatA_split {s:SId} {l:List s.T} {i:Nat} (h:i<l.length):flatA s l=flatA s (l.take i)++encA s (nthD l i s.dflt)++flatA s (l.drop (i+1)):=by
 have h1:l=l.take i++l[i]::l.drop (i+1):=by simp
 rw[nthD_eq h]
 conv=>lhs;rw[h1]
 rw[flatA_app]
 simp only[flatA,List.flatMap_cons,List.append_assoc]
theorem take_len {α:Type} {l:List α} {i:Nat} (h:i<l.length):(l.take i).length=i:=by simp;omega
theorem flatA_set {s:SId} {l:List s.T} {i off:Nat} {v:s.T} {vs:List AV} (h:i<l.length) (ho:off+vs.length≤s.sz) (hw:writeL (encA s (nthD l i s.dflt)) off vs=encA s v):
  writeL (flatA s l) (i*s.sz+off) vs=flatA s (l.set i v):=by
 have hl:(flatA s (l.take i)).length=i*s.sz:=by rw[flatA_len,take_len h]
 rw[flatA_split h,←hl,writeL_mid _ _ _ _ _ (by rw[encA_len];exact ho),hw]
 have h2:i<(l.set i v).length:=by simpa using h
 rw[flatA_split h2,nthD_eq h2]
 simp[List.take_set_of_le,List.drop_set_of_lt]
theorem flatA_part {s:SId} {l:List s.T} {i off:Nat} {n:Option Nat} {v:SV} (h:i<l.length) (hp:partS (encS s (nthD l i s.dflt)) off n=some v):partA (flatA s l) (i*s.sz+off) n=some v.g:=by
 have hg:=partS_g hp
 rw[gL_map,encS_g] at hg
 have hd:=flatA_at (s:=s) h
 have hlen:(flatA s l).length=i*s.sz+(s.sz+(flatA s (l.drop (i+1))).length):=by
  have:=congrArg List.length hd
  simp only[List.length_drop,List.length_append,encA_len] at this
  have h2:=flatA_len s l
  have h3:i*s.sz≤l.length*s.sz:=Nat.mul_le_mul_right _ (by omega)
  omega
 cases n with
 |none=>
  simp only[partA] at hg ⊢
  rw[←List.getElem?_drop,hd,List.getElem?_append_left]
  ·exact hg
  ·exact(List.getElem?_eq_some_iff.1 hg).1
 |some m=>
  simp only[partA,encA_len] at hg
  split at hg
  ·rename_i hl
   simp only[partA]
   rw[if_pos (by omega),←List.drop_drop,hd,List.drop_append_of_le_length (by rw[encA_len];omega),List.take_append_of_le_length (by rw[List.length_drop,encA_len];omega)]
   exact hg
  ·cases hg
theorem optK_some {α:Type} {x:Option α} {K:α→Prop} (h:optK x K):∃a,x=some a∧K a:=by
 cases x with
 |none=>exact h.elim
 |some a=>exact⟨a,rfl,h⟩
theorem gO_get (o:SStore) (i:Nat):(gO o)[i]?=(o[i]?).map SObj.g:=by simp[gO]
theorem gO_len (o:SStore):(gO o).length=o.length:=by simp[gO]
theorem gO_set (o:SStore) (i:Nat) (x:SObj):gO (o.set i x)=(gO o).set i x.g:=by simp[gO]
theorem getI {o:SStore} {i:Nat} {x:SObj} (h:o[i]?=some x):(gO o)[i]?=some x.g:=by rw[gO_get,h];rfl
theorem ints_all:∀{cs:List SV} {l:List Int},ints cs=some l→cs.length=l.length∧∀i,i<l.length→(cs[i]?).map SV.g=some (.sc (.int .i64 (nthD l i 0))):=by
 intro cs l h
 have h1:=ints_g h
 have h2:cs.length=l.length:=by simpa using congrArg List.length h1
 refine⟨h2,fun i hi=>?_⟩
 have:=congrArg (fun l=>l[i]?) h1
 simp only[List.getElem?_map] at this
 rw[this,List.getElem?_eq_getElem hi,nthD_eq hi]
 rfl
theorem rows_all:∀{cs:List SV} {l:List (List Off)},loadK.rowsOff cs=some l→cs.length=l.length∧∀i,i<l.length→cs[i]?=some (.row .off (nthD l i []))
 |[],l,h=>by simp[loadK.rowsOff] at h;subst h;simp
 |c::cs,l,h=>by
  cases c with
  |row s x=>
   cases s<;>simp only[loadK.rowsOff,reduceCtorEq] at h
   obtain⟨l',h1,rfl⟩:=Option.map_eq_some_iff.1 h
   obtain⟨h2,h3⟩:=rows_all h1
   refine⟨by simp[h2],fun i hi=>?_⟩
   cases i with
   |zero=>simp[nthD]
   |succ i=>simp only[List.getElem?_cons_succ];rw[h3 i (by simpa using hi)];simp[nthD]
  |_=>simp[loadK.rowsOff] at h
theorem pickK_sound {cs:List SV} {sz i:Nat} {n:Option Nat} {K:SV→Prop} (h:loadK.pickK cs sz i n K) (hi:i*sz<cs.length):∃v,partA (gL cs) (i*sz) n=some v.g∧K v:=by
 unfold loadK.pickK at h
 split at h
 ·rw[Nat.mul_one] at hi ⊢
  split at h
  ·rename_i l hl
   obtain⟨h1,h2⟩:=ints_all hl
   refine⟨_,?_,h⟩
   simp only[partA,gL_get,SV.g]
   exact h2 i (by omega)
  ·split at h
   ·rename_i l hl
    obtain⟨h1,h2⟩:=rows_all hl
    refine⟨_,?_,h⟩
    simp only[partA,gL_get,h2 i (by omega)]
    rfl
   ·exact h.elim
 ·exact h.elim
theorem partA_sub {cs:List AV} {base off m:Nat} {v:AV} (h:partA ((cs.drop base).take m) off none=some v):partA cs (base+off) none=some v:=by
 simp only[partA,List.getElem?_take] at h ⊢
 split at h
 ·rwa [List.getElem?_drop] at h
 ·cases h
theorem loadK_sound {o:SStore} {a:SV} {n:Option Nat} {K:SV→Prop} (h:loadK o a n K):∃cs off v,behind (gO o) a.g=some (cs,off)∧partA cs off n=some v.g∧K v:=by
 cases a with
 |ptr id off tot=>
  simp only[loadK] at h
  split at h
  ·rename_i cs e sz pu ho
   split at h
   ·rename_i hl
    obtain⟨v,hv,hk⟩:=optK_some h
    exact⟨gL cs,off,v,by simp[behind,SV.g,getI ho,SObj.g,gL_len,hl],partS_g hv,hk⟩
   ·exact h.elim
  ·exact h.elim
 |ap id base sz len tot i=>
  simp only[loadK] at h
  split at h
  ·rename_i cs e sz' pu ho
   split at h
   ·rename_i hl
    obtain⟨h1,h2⟩:=h
    have hm:(i+1)*sz≤len*sz:=Nat.mul_le_mul_right _ h1
    rw[Nat.succ_mul] at hm
    have hc:sz*len=len*sz:=Nat.mul_comm ..
    by_cases hz:sz=0
    ·subst hz
     unfold loadK.pickK at h2
     split at h2
     ·rename_i hh;cases hh
     ·exact h2.elim
    ·have hlt:i*sz<((cs.drop base).take (sz*len)).length:=by simp only[List.length_take,List.length_drop];omega
     obtain⟨v,hv,hk⟩:=pickK_sound h2 hlt
     have hn:n=none:=by
      unfold loadK.pickK at h2
      split at h2
      ·rfl
      ·exact h2.elim
     subst hn
     refine⟨gL cs,base+i*sz,v,by simp[behind,SV.g,getI ho,SObj.g,gL_len,hl.1],?_,hk⟩
     have:gL ((cs.drop base).take (sz*len))=((gL cs).drop base).take (sz*len):=by simp[gL_map]
     rw[this] at hv
     exact partA_sub hv
   ·exact h.elim
  ·exact h.elim
 |ep s l i off=>
  simp only[loadK] at h
  obtain⟨hi,h2⟩:=h
  obtain⟨v,hv,hk⟩:=optK_some h2
  exact⟨flatA s l,i*s.sz+off,v,by simp[behind,SV.g],flatA_part hi hv,hk⟩
 |rp id i off m sz=>
  simp only[loadK] at h
  split at h
  ·rename_i s l e pu ho
   split at h
   ·rename_i hsz
    subst hsz
    obtain⟨hm,hi,h2⟩:=h
    obtain⟨v,hv,hk⟩:=optK_some h2
    exact⟨flatA s l,i*s.sz+off,v,by simp[behind,SV.g,getI ho,SObj.g,flatA_len,hm],flatA_part hi hv,hk⟩
   ·exact h.elim
  ·exact h.elim
 |_=>simp only[loadK] at h
theorem freeze_sc (o:Store) (d:Nat) {v:Value} (h:v≠ .slice none 0 0):freeze o d (.sc v)=some (.sc v):=by
 cases d<;>unfold freeze<;>split<;>simp_all
theorem freeze_plain (o:Store) (d:Nat) {a:AV} (h:Plain a):freeze o d a=some a:=by
 rcases h with⟨v,rfl,_,h⟩|⟨n,cs,rfl,_⟩
 ·exact freeze_sc o d h
 ·cases d<;>simp[freeze]
theorem mapM_self {f:AV→Option AV}:∀{l:List AV},(∀a∈l,f a=some a)→l.mapM f=some l
 |[],_=>by simp
 |a::l,h=>by simp[List.mapM_cons,h a (by simp),mapM_self (l:=l) fun b hb=>h b (by simp[hb])]
theorem seqK_sound {o:Store} {d:Nat} {f:SV→(SV→Prop)→Prop} (hf:∀v K,f v K→∃v':SV,freeze o d v.g=some v'.g∧K v'):
  ∀{l:List SV} {K:List SV→Prop},seqK f l K→∃l',(gL l).mapM (freeze o d)=some (gL l')∧K l'
 |[],K,h=>⟨[],by simp[gL],h⟩
 |v::l,K,h=>by
  obtain⟨v',h1,h2⟩:=hf v _ h
  obtain⟨l',h3,h4⟩:=seqK_sound hf h2
  exact⟨v'::l',by simp[gL,List.mapM_cons,h1,h3],h4⟩
theorem flatA_sub {s:SId} {l:List s.T} {off len:Nat}:((flatA s l).drop (off*s.sz)).take (len*s.sz)=flatA s ((l.drop off).take len):=by
 rw[flatA_drop,flatA_take]
theorem frzK_sound {o:SStore}:∀{d:Nat} {v:SV} {K:SV→Prop},frzK o d v K→∃v',freeze (gO o) d v.g=some v'.g∧K v':=by
 intro d
 induction d with
 |zero=>
  intro v K h
  cases v<;>simp only[frzK] at h
  case sc v=>
   split at h
   ·exact⟨_,by simp[SV.g,freeze,flatA],h⟩
   ·rename_i hv
    exact⟨_,by simp only[SV.g];exact freeze_sc _ _ hv,h⟩
  all_goals first|exact h.elim|exact⟨_,by simp[SV.g,freeze],h⟩
 |succ d ih=>
  intro v K h
  cases v<;>simp only[frzK] at h
  case sc v=>
   split at h
   ·exact⟨_,by simp[SV.g,freeze,flatA],h⟩
   ·rename_i hv
    exact⟨_,by simp only[SV.g];exact freeze_sc _ _ hv,h⟩
  case agg cs=>
   obtain⟨l',h1,h2⟩:=seqK_sound (fun v K hv=>ih hv) h
   exact⟨_,by simp[SV.g,freeze,h1],h2⟩
  case tup cs=>
   obtain⟨l',h1,h2⟩:=seqK_sound (fun v K hv=>ih hv) h
   exact⟨_,by simp[SV.g,freeze,h1],h2⟩
  case fn f a b=>
   obtain⟨a',h1,h2⟩:=seqK_sound (fun v K hv=>ih hv) h
   obtain⟨b',h3,h4⟩:=seqK_sound (fun v K hv=>ih hv) h2
   exact⟨_,by simp[SV.g,freeze,h1,h3],h4⟩
  case ow id n sz=>
   split at h
   ·rename_i s l e pu ho
    split at h
    ·rename_i hsz
     obtain⟨rfl,hk⟩:=h
     subst hsz
     refine⟨_,?_,hk⟩
     have hself:(flatA s l).mapM (freeze (gO o) d)=some (flatA s l):=mapM_self fun a ha=>by
      exact freeze_plain _ _ (flatA_plain ha)
     have htk:List.take (l.length*s.sz) (flatA s l)=flatA s l:=List.take_of_length_le (by rw[flatA_len];omega)
     simp only[SV.g,freeze,getI ho,SObj.g,flatA_len,Nat.zero_add,Nat.le_refl,and_self,if_true,List.drop_zero,htk,hself,flatA_pure]
     cases pu<;>simp
    ·exact h.elim
   ·exact h.elim
  case os id off len n sz=>
   split at h
   ·rename_i s l e pu ho
    split at h
    ·rename_i hsz
     obtain⟨rfl,hle,hk⟩:=h
     subst hsz
     refine⟨_,?_,hk⟩
     have hself:(flatA s ((l.drop off).take len)).mapM (freeze (gO o) d)=some (flatA s ((l.drop off).take len)):=mapM_self fun a ha=>by
      exact freeze_plain _ _ (flatA_plain ha)
     have hm:(off+len)*s.sz≤l.length*s.sz:=Nat.mul_le_mul_right _ hle
     rw[Nat.add_mul] at hm
     have hll:((l.drop off).take len).length=len:=by simp;omega
     simp only[SV.g,freeze,getI ho,SObj.g,flatA_len,hm,and_self,if_true,flatA_sub,hself,flatA_pure,hll]
     cases pu<;>simp
    ·exact h.elim
   ·exact h.elim
  all_goals first|exact h.elim|exact⟨_,by simp[SV.g,freeze],h⟩
theorem wrapI_in {k:IntKind} {n:Int} (h:inR k n):wrapI k n=n:=by
 cases k<;>simp only[inR,wrapI] at h ⊢
 ·exact h
 ·exact h
 ·exact h
 ·simp[h.1,h.2]
 ·exact h
 ·exact h
 ·split<;>first|rfl|exact h
 ·split<;>first|rfl|exact h
theorem if_false' {c:Prop} [Decidable c] {A:Prop} (h:if c then A else False):c∧A:=by
 split at h
 ·exact⟨‹_›,h⟩
 ·exact h.elim
theorem min_bits {b:Int} {k:Nat} (h:b≤k):min b.toNat k=b.toNat:=by omega
theorem eq_dec (a b:Int):(a==b)=decide (a=b):=rfl
theorem ne_dec (a b:Int):(a !=b)=decide (a≠b):=by
 rw[Bool.eq_iff_iff]
 simp
theorem rngK_sound {k:IntKind} {n:Int} {K:Int→Prop} (h:rngK k n K):K (wrapI k n):=by
 have hu:k= .u32→wrapI k n=n % 4294967296:=by
  rintro rfl
  rw[wrapI_eq]
  simp[IntKind.wrap,IntKind.bits,IntKind.signed]
 have hv:k= .u64→wrapI k n=n % 18446744073709551616:=by
  rintro rfl
  rw[wrapI_eq]
  simp[IntKind.wrap,IntKind.bits,IntKind.signed]
 unfold rngK at h
 split at h
 ·rw[hu rfl];exact h
 ·rw[hv rfl];exact h
 ·rw[wrapI_in h.1];exact h.2
theorem go_sound {op:BinOp} {k k':IntKind} {a b:Int} {K:SV→Prop} (h:binK.go op K k a k' b):∃v v':_,scBin op (.int k a) (.int k' b)=some v∧v'.g= .sc v∧K v':=by
 cases op<;>simp only[binK.go] at h
 case shl=>
  obtain⟨h1,h2,h3⟩:=h
  refine⟨.int k (wrapI k (a*2^b.toNat)),.si k (wrapI k (a*2^b.toNat)),?_,rfl,rngK_sound h3⟩
  simp only[scBin,if_neg (Int.not_lt.2 h1),min_bits h2,powI_eq]
 case shr=>
  obtain⟨h1,h2,h4⟩:=h
  refine⟨.int k (a / 2^b.toNat),_,?_,rfl,h4⟩
  have:a.fdiv (2^b.toNat)=a / 2^b.toNat:=Int.fdiv_eq_ediv_of_nonneg _ (by exact Int.le_of_lt (Int.pow_pos (by decide)))
  simp only[scBin,if_neg (Int.not_lt.2 h1),min_bits h2,powI_eq,this]
 case add=>
  obtain⟨hk,hh⟩:=if_false' h
  subst hk
  exact⟨.int k (wrapI k (a+b)),.si k (wrapI k (a+b)),by simp only[scBin,if_true,intBin],rfl,rngK_sound hh⟩
 case sub=>
  obtain⟨hk,hh⟩:=if_false' h
  subst hk
  exact⟨.int k (wrapI k (a - b)),.si k (wrapI k (a - b)),by simp only[scBin,if_true,intBin],rfl,rngK_sound hh⟩
 case mul=>
  obtain⟨hk,hh⟩:=if_false' h
  subst hk
  exact⟨.int k (wrapI k (a*b)),.si k (wrapI k (a*b)),by simp only[scBin,if_true,intBin],rfl,rngK_sound hh⟩
 case quo=>
  obtain⟨hk,hh⟩:=if_false' h
  subst hk
  exact⟨.int k (a.tdiv b),_,by simp only[scBin,if_true,intBin,if_neg hh.1,wrapI_in hh.2.1],rfl,hh.2.2⟩
 case rem=>
  obtain⟨hk,hh⟩:=if_false' h
  subst hk
  exact⟨.int k (a.tmod b),_,by simp only[scBin,if_true,intBin,if_neg hh.1],rfl,hh.2⟩
 case and=>
  obtain⟨hk,hh⟩:=if_false' h
  subst hk
  exact⟨.int k (binK.andI k a b),_,by simp only[scBin,if_true,intBin,binK.andI],rfl,hh⟩
 case or=>
  obtain⟨hk,hh⟩:=if_false' h
  subst hk
  exact⟨.int k (binK.orI k a b),_,by simp only[scBin,if_true,intBin,binK.orI],rfl,hh⟩
 case xor=>
  obtain⟨hk,hh⟩:=if_false' h
  subst hk
  exact⟨.int k (binK.xorI k a b),_,by simp only[scBin,if_true,intBin,binK.xorI],rfl,hh⟩
 case andNot=>
  obtain⟨hk,hh⟩:=if_false' h
  subst hk
  exact⟨.int k (binK.andNotI k a b),_,by simp only[scBin,if_true,intBin,binK.andNotI],rfl,hh⟩
 case eql=>
  obtain⟨hk,hh⟩:=if_false' h
  subst hk
  exact⟨.bool (decide (a=b)),_,by simp only[scBin,if_true,intBin,Option.some.injEq,Value.bool.injEq];exact eq_dec a b,rfl,hh⟩
 case neq=>
  obtain⟨hk,hh⟩:=if_false' h
  subst hk
  exact⟨.bool (decide (a≠b)),_,by simp only[scBin,if_true,intBin,Option.some.injEq,Value.bool.injEq];exact ne_dec a b,rfl,hh⟩
 case lss=>
  obtain⟨hk,hh⟩:=if_false' h
  subst hk
  exact⟨.bool (decide (a<b)),_,by simp only[scBin,if_true,intBin],rfl,hh⟩
 case leq=>
  obtain⟨hk,hh⟩:=if_false' h
  subst hk
  exact⟨.bool (decide (a≤b)),_,by simp only[scBin,if_true,intBin],rfl,hh⟩
 case gtr=>
  obtain⟨hk,hh⟩:=if_false' h
  subst hk
  exact⟨.bool (decide (b<a)),_,by simp only[scBin,if_true,intBin],rfl,hh⟩
 case geq=>
  obtain⟨hk,hh⟩:=if_false' h
  subst hk
  exact⟨.bool (decide (b≤a)),_,by simp only[scBin,if_true,intBin],rfl,hh⟩
theorem binK_sound {op:BinOp} {x y:SV} {K:SV→Prop} (h:binK op x y K):∃a b v v',x.g= .sc a∧y.g= .sc b∧scBin op a b=some v∧v'.g= .sc v∧K v':=by
 unfold binK at h
 split at h
 ·split at h
  ·rename_i hs;exact⟨_,_,_,_,rfl,rfl,hs,rfl,h⟩
  ·rename_i hs;exact⟨_,_,_,_,rfl,rfl,hs,rfl,h⟩
  ·exact h.elim
 ·obtain⟨v,v',h1,h2,h3⟩:=go_sound h
  exact⟨_,_,v,v',rfl,rfl,h1,h2,h3⟩
 ·obtain⟨v,v',h1,h2,h3⟩:=go_sound h
  exact⟨_,_,v,v',rfl,rfl,h1,h2,h3⟩
 ·obtain⟨v,v',h1,h2,h3⟩:=go_sound h
  exact⟨_,_,v,v',rfl,rfl,h1,h2,h3⟩
 ·split at h
  ·exact⟨_,_,_,_,rfl,rfl,by simp only[scBin],rfl,h⟩
  ·exact⟨_,_,_,_,rfl,rfl,by simp only[scBin],rfl,h⟩
  ·exact h.elim
 ·exact h.elim
theorem seq1_int {k:IntKind} {a b:Int}:seq1 (.int k a) (.int k b)=some (decide (a=b)):=by
 simp only[seq1,if_true,Option.some.injEq];rfl
theorem seq1S_sound {x y:SV} {r:Bool} (h:seq1S x y=some r):∃a b,x.g= .sc a∧y.g= .sc b∧seq1 a b=some r:=by
 cases x<;>simp only[seq1S,reduceCtorEq] at h
 all_goals
  obtain⟨b,hb,rfl⟩:=Option.map_eq_some_iff.1 h
  first
   |exact⟨_,_,rfl,int_g hb,seq1_int⟩
   |exact⟨_,_,rfl,boo_g hb,by simp[seq1]⟩
theorem seqLS_sound:∀{x y:List SV} {r:Bool},seqLS x y=some r→∃a b,gL x=a.map .sc∧gL y=b.map .sc∧seqL a b=some r
 |[],[],r,h=>by simp[seqLS] at h;subst h;exact⟨[],[],rfl,rfl,rfl⟩
 |[],_::_,r,h=>by simp[seqLS] at h
 |_::_,[],r,h=>by simp[seqLS] at h
 |x::xs,y::ys,r,h=>by
  simp only[seqLS] at h
  split at h
  ·rename_i a b h1 h2
   simp only[Option.some.injEq] at h;subst h
   obtain⟨u,v,e1,e2,e3⟩:=seq1S_sound h1
   obtain⟨us,vs,f1,f2,f3⟩:=seqLS_sound h2
   exact⟨u::us,v::vs,by simp[gL,e1,f1],by simp[gL,e2,f2],by simp[seqL,e3,f3]⟩
  ·cases h
theorem scs_map:∀(l:List Value),scs (l.map .sc)=some l
 |[]=>rfl
 |v::l=>by simp[scs,scs_map l]
theorem map_sc_inj:∀{a b:List Value},a.map AV.sc=b.map AV.sc→a=b
 |[],[],_=>rfl
 |[],_::_,h=>by simp at h
 |_::_,[],h=>by simp at h
 |x::a,y::b,h=>by
  simp only[List.map_cons,List.cons.injEq,AV.sc.injEq] at h
  rw[h.1,map_sc_inj h.2]
theorem kOkS_sound:∀{ks:List Nat} {x:List SV} {a:List Value},kOkS ks x=true→gL x=a.map .sc→kOk ks a=true
 |[],[],a,_,h=>by
  cases a with
  |nil=>rfl
  |cons a as=>simp[gL] at h
 |[],_::_,a,h,_=>by simp[kOkS] at h
 |_::_,[],a,h,_=>by simp[kOkS] at h
 |k::ks,x::xs,a,h,hg=>by
  cases a with
  |nil=>simp[gL] at hg
  |cons a as=>
   simp only[gL,List.map_cons,List.cons.injEq] at hg
   obtain⟨h1,h2⟩:=hg
   match k,x,h with
   |0,.si k n,h=>simp only[kOkS] at h;simp only[SV.g,AV.sc.injEq] at h1;subst h1;simpa[kOk] using kOkS_sound h h2
   |0,.il k n,h=>simp only[kOkS] at h;simp only[SV.g,AV.sc.injEq] at h1;subst h1;simpa[kOk] using kOkS_sound h h2
   |1,.sb b,h=>simp only[kOkS] at h;simp only[SV.g,AV.sc.injEq] at h1;subst h1;simpa[kOk] using kOkS_sound h h2
   |1,.bl b,h=>simp only[kOkS] at h;simp only[SV.g,AV.sc.injEq] at h1;subst h1;simpa[kOk] using kOkS_sound h h2
theorem feq_sound {ks:List Nat} {a b:List SV} {r:Bool} (hk:(kOkS ks a&&kOkS ks b)=true) (h:seqLS a b=some r):feq ks (gL a) (gL b)=some r:=by
 obtain⟨u,v,h1,h2,h3⟩:=seqLS_sound h
 simp only[Bool.and_eq_true] at hk
 rw[h1,h2]
 simp only[feq,scs_map,kOkS_sound hk.1 h1,kOkS_sound hk.2 h2,Bool.and_self,if_true,h3]
theorem castL_some {s s':SId} {l:List s.T} {l':List s'.T} (h:castL s s' l=some l'):s=s'∧HEq l l':=by
 unfold castL at h
 split at h
 ·rename_i hs
  subst hs
  simp only[Option.some.injEq] at h
  exact⟨rfl,heq_of_eq h⟩
 ·cases h
theorem castL_flat {s s':SId} {l:List s.T} {l':List s'.T} (h:castL s s' l=some l'):s'=s∧flatA s' l'=flatA s l∧l'.length=l.length:=by
 obtain⟨rfl,h⟩:=castL_some h
 cases h
 exact⟨rfl,rfl,rfl⟩
theorem fillS_g:∀{parts:List (Nat×Nat×SV)} {cs cs':List SV},fillS parts cs=some cs'→fillA (parts.map fun q=>(q.1,q.2.1,q.2.2.g)) (gL cs)=some (gL cs')
 |[],cs,cs',h=>by simp[fillS] at h;subst h;rfl
 |(off,n,v)::r,cs,cs',h=>by
  simp only[fillS] at h
  split at h
  ·rename_i hh
   obtain⟨h1,h2,h3⟩:=hh
   have:=fillS_g h
   simp only[List.map_cons,fillA,cellsOf_g,gL_len,oneS_g]
   rw[if_pos ⟨h1,h2,h3⟩,←writeS_g]
   exact this
  ·cases h
theorem decL_g {s:SId}:∀{n:Nat} {cs:List SV} {l:List s.T},decL s n cs=some l→gL cs=flatA s l∧l.length=n
 |0,[],l,h=>by simp[decL] at h;subst h;simp[gL,flatA]
 |0,_::_,l,h=>by simp[decL] at h
 |n+1,cs,l,h=>by
  simp only[decL] at h
  split at h
  ·rename_i x l' h1 h2
   simp only[Option.some.injEq] at h;subst h
   obtain⟨h3,h4⟩:=decL_g h2
   have h5:=decS_g h1
   refine⟨?_,by simp[h4]⟩
   rw[gL_map] at h3 ⊢
   conv=>lhs;rw[←List.take_append_drop s.sz cs]
   rw[List.map_append,h5,h3]
   simp[flatA]
  ·cases h
theorem elemsK_sound {o:SStore} {s:SId} {x:SV} {K:List s.T→Prop} (h:elemsK o s x K):∃l,elemsA (gO o) s.sz x.g=some (l.length,flatA s l)∧K l:=by
 cases x with
 |row s' l=>
  simp only[elemsK] at h
  obtain⟨l',h1,h2⟩:=optK_some h
  obtain⟨rfl,h4,h5⟩:=castL_flat h1
  exact⟨l',by simp only[SV.g,elemsA,flatA_len,if_true,h4,h5],h2⟩
 |ow id n sz=>
  simp only[elemsK] at h
  split at h
  ·rename_i s' l e pu ho
   split at h
   ·rename_i hsz
    subst hsz
    obtain⟨rfl,h3⟩:=h
    obtain⟨l',h1,h6⟩:=optK_some h3
    obtain⟨rfl,h4,h5⟩:=castL_flat h1
    refine⟨l',?_,h6⟩
    have htk:List.take (l.length*s.sz) (flatA s l)=flatA s l:=List.take_of_length_le (by rw[flatA_len];omega)
    simp only[SV.g,elemsA,getI ho,SObj.g,flatA_len,Nat.zero_add,Nat.le_refl,and_self,if_true,List.drop_zero,htk,h4,h5]
   ·exact h.elim
  ·exact h.elim
 |os id off len n sz=>
  simp only[elemsK] at h
  split at h
  ·rename_i s' l e pu ho
   split at h
   ·rename_i hsz
    subst hsz
    obtain⟨rfl,hle,h3⟩:=h
    obtain⟨l',h1,h6⟩:=optK_some h3
    obtain⟨rfl,h4,h5⟩:=castL_flat h1
    refine⟨l',?_,h6⟩
    have hm:(off+len)*s.sz≤l.length*s.sz:=Nat.mul_le_mul_right _ hle
    rw[Nat.add_mul] at hm
    have hll:((l.drop off).take len).length=len:=by simp;omega
    simp only[SV.g,elemsA,getI ho,SObj.g,flatA_len,hm,and_self,if_true,flatA_sub,h4,h5,hll]
   ·exact h.elim
  ·exact h.elim
 |sc v=>
  cases v<;>simp only[elemsK] at h
  rename_i q a b
  cases q<;>try exact h.elim
  cases a<;>try exact h.elim
  cases b<;>try exact h.elim
  exact⟨[],by simp[SV.g,elemsA,flatA],h⟩
 |_=>simp only[elemsK] at h
theorem intS_g {v:SV} {n:Int} (h:intS v=some n):intA v.g=some n:=by
 cases v<;>simp[intS] at h<;>simp[SV.g,intA,h]
theorem boundK_sound {d:Nat} {x:Option SV} {K:Nat→Prop} (h:boundK d x K):∃n,boundA d (x.map SV.g)=some n∧K n:=by
 unfold boundK at h
 split at h
 ·exact⟨_,rfl,h⟩
 ·split at h
  ·rename_i hn;exact⟨_,by simp[SV.g,boundA,hn],h⟩
  ·exact h.elim
 ·exact⟨_,by simp[SV.g,boundA,h.1],h.2⟩
 ·exact h.elim
theorem mkK_sound {nid:Nat} {x:SObj} {o:SStore} {K:SStore→Prop} (h:mkK nid x o K):∃o',mkO nid x.g (gO o)=some (gO o')∧K o':=by
 unfold mkK at h
 split at h
 ·rename_i ho
  exact⟨_,by simp[mkO,getI ho,SObj.g,gO_set],h⟩
 ·exact h.elim
theorem encV_eq {s:SId} (hk:s.keyed=true) (x y:s.T):seqL (encV s x) (encV s y)=some (decide (x=y)):=by
 cases s<;>simp only[SId.keyed,reduceCtorEq] at hk
 ·simp only[encV,seqL,seq1_int,Bool.and_true]
 ·obtain⟨b,⟨a0,a1,a2,a3,a4,a5⟩⟩:=x
  obtain⟨b',⟨c0,c1,c2,c3,c4,c5⟩⟩:=y
  simp only[encV,iv,seqL,seq1_int,Option.some.injEq,Bool.and_true]
  rw[Bool.eq_iff_iff]
  simp[BKey.mk.injEq,Bun.mk.injEq]
 ·obtain⟨b,⟨a0,a1,a2,a3,a4,a5⟩,⟨d0,d1,d2,d3,d4,d5⟩⟩:=x
  obtain⟨b',⟨c0,c1,c2,c3,c4,c5⟩,⟨e0,e1,e2,e3,e4,e5⟩⟩:=y
  simp only[encV,iv,seqL,seq1_int,Option.some.injEq,Bool.and_true]
  rw[Bool.eq_iff_iff]
  simp only[Bool.and_eq_true,decide_eq_true_eq,Sit.mk.injEq,Bun.mk.injEq]
  constructor<;>intro h<;>simp_all
theorem keq_keyV {s:SId} {ka:Bool} (hk:s.keyed=true) (h1:ka=false→s.sz=1) (x y:s.T):keq (keyV s ka x) (keyV s ka y)=some (decide (x=y)):=by
 cases ka with
 |true=>simp[keyV,keq,encV_eq hk]
 |false=>
  have h2:=h1 rfl
  cases s<;>simp only[SId.keyed,reduceCtorEq] at hk<;>simp only[SId.sz,reduceCtorEq,Nat.reduceEqDiff] at h2
  simp only[keyV,encV,List.headD_cons]
  simp only[keq,Bool.false_eq_true,if_false,seq1_int]
theorem findM_sound {sk sv:SId} {ka:Bool} (hk:sk.keyed=true) (h1:ka=false→sk.sz=1) (x:sk.T):∀(es:List (sk.T×sv.T)) (i:Nat),
  ∃r,findM (keyV sk ka x) (es.map fun p=>(keyV sk ka p.1,valA sv p.2)) i=some r∧(match findT sk sv x es with|some v=>∃j,r=some (i+j,valA sv v)∧(∃p,es[j]?=some p∧p.1=x)∧(∀j'<j,∀p,es[j']?=some p→p.1≠x)|none=>r=none∧∀p∈es,p.1≠x)
 |[],i=>⟨none,by simp[findM],by simp[findT]⟩
 |p::es,i=>by
  simp only[List.map_cons,findM,keq_keyV hk h1]
  by_cases hp:p.1=x
  ·refine⟨some (i,valA sv p.2),by simp[hp],?_⟩
   simp only[findT,List.find?_cons,hp,decide_true,Option.map_some]
   exact⟨0,by simp,⟨p,by simp,hp⟩,by simp⟩
  ·obtain⟨r,hr,hm⟩:=findM_sound hk h1 x es (i+1)
   have hp':¬x=p.1:=fun h=>hp h.symm
   refine⟨r,by simp[hp',hr],?_⟩
   have hf:findT sk sv x (p::es)=findT sk sv x es:=by simp[findT,List.find?_cons,hp]
   rw[hf]
   split at hm
   ·obtain⟨j,h2,⟨q,h3,h4⟩,h5⟩:=hm
    refine⟨j+1,by rw[h2];congr 2;omega,⟨q,by simpa using h3,h4⟩,fun j' hj q' hq=>?_⟩
    cases j' with
    |zero=>simp at hq;subst hq;exact hp
    |succ j'=>exact h5 j' (by omega) q' (by simpa using hq)
   ·refine⟨hm.1,fun q hq=>?_⟩
    rcases List.mem_cons.1 hq with rfl|hq
    ·exact hp
    ·exact hm.2 q hq
theorem setT_none {sk sv:SId} {x:sk.T} {v:sv.T}:∀{es:List (sk.T×sv.T)},(∀p∈es,p.1≠x)→setT sk sv x v es=es++[(x,v)]
 |[],_=>rfl
 |p::es,h=>by
  simp only[setT,if_neg (h p (by simp)),List.cons_append]
  rw[setT_none fun q hq=>h q (by simp[hq])]
theorem setT_some {sk sv:SId} {x:sk.T} {v:sv.T}:∀{es:List (sk.T×sv.T)} {j:Nat},(∃p,es[j]?=some p∧p.1=x)→(∀j'<j,∀p,es[j']?=some p→p.1≠x)→setT sk sv x v es=es.modify j fun _=>(x,v)
 |[],j,⟨p,h,_⟩,_=>by simp at h
 |p::es,0,⟨q,h,hq⟩,_=>by
  simp at h;subst h
  simp[setT,hq,List.modify]
 |p::es,j+1,⟨q,h,hq⟩,h2=>by
  have hp:=h2 0 (by omega) p (by simp)
  simp only[setT,if_neg hp,List.modify_succ_cons]
  rw[setT_some (j:=j) ⟨q,by simpa using h,hq⟩ fun j' hj q' hq'=>h2 (j'+1) (by omega) q' (by simpa using hq')]
theorem keyA_sound {ks:List Nat} {ka:Bool} {s:SId} {v:SV} {x:s.T} (hko:kOkS ks v.cellsOf=true) (hag:aggIs ka v=true) (hf:s.flat=true) (hd:decS s v.cellsOf=some x):keyA ks ka v.g=some (keyV s ka x):=by
 have hd2:=decS_g hd
 have hg:gL v.cellsOf=(encV s x).map .sc:=by rw[gL_map,hd2];exact flat_encA s hf x
 have hk:=kOkS_sound hko hg
 by_cases hv:∃cs,v= .agg cs
 ·obtain⟨cs,rfl⟩:=hv
  simp only[SV.cellsOf] at hg hk
  simp only[aggIs] at hag
  subst hag
  simp only[SV.g,keyA,hg,scs_map,hk,Bool.and_self,if_true,keyV]
 ·have hag2:ka=false:=by
   cases v<;>simp[aggIs] at hag<;>first|exact hag|exact absurd ⟨_,rfl⟩ hv
  subst hag2
  have hc:v.cellsOf=[v]:=by
   cases v<;>first|rfl|exact absurd ⟨_,rfl⟩ hv
  rw[hc] at hg
  simp only[gL] at hg
  cases hx:encV s x with
  |nil=>rw[hx] at hg;simp at hg
  |cons a r=>
   rw[hx] at hg hk
   simp only[List.map_cons,List.cons.injEq] at hg
   cases r with
   |cons=>simp at hg
   |nil=>rw[hg.1];simp[keyA,hk,keyV,hx]
theorem valA_head {s:SId} (h:s.scal=true) (x:s.T):((encS s x).headD .ud).g=valA s x:=by
 cases s<;>simp[SId.scal] at h<;>simp[encS,valA,encV,SV.g]
theorem valA_enc {s:SId} (h:s.scal=true) (x:s.T):encA s x=[valA s x]:=by
 cases s<;>simp[SId.scal] at h<;>simp[encA,valA,encV]
theorem keyed_flat {s:SId} (h:s.keyed=true):s.flat=true:=by
 cases s<;>simp[SId.keyed] at h<;>rfl
structure SCallsOK (call:Oracle) (C:SCalls):Prop where
 pure:∀f args K,C.pure f args K→∃r:SV,call f (gL args) [] false=some (r.g,[])∧K r
 own:∀f args o K,C.own f args o K→∃(r:SV) (o':SStore),callOwn call f (gL args) (gO o)=some (r.g,gO o')∧K r o'
section
variable {call:Oracle} {p:SPar} {o:SStore} {nid:Nat} {K:SV→SStore→Prop}
theorem callK_sound (hC:SCallsOK call p.C) {f:FuncId} {args:List SV} {own:Bool} (h:opK.callK p f args o own K):
  ∃(v:SV) (o':SStore),callA call f (gL args) (gO o) own=some (v.g,gO o')∧K v o':=by
 unfold opK.callK at h
 split at h
 ·rename_i ho
  obtain⟨r,o',h1,h2⟩:=hC.own _ _ _ _ h
  exact⟨r,o',by simp only[callA,ho,if_true,h1],h2⟩
 ·rename_i ho
  have ho:own=false:=by simpa using ho
  subst ho
  obtain⟨args',h1,h2⟩:=seqK_sound (o:=gO o) (d:=6) (fun v K hv=>frzK_sound hv) h
  obtain⟨r,h3,h4⟩:=hC.pure _ _ _ h2
  split at h4
  ·rename_i ht
   refine⟨r,o,?_,h4⟩
   simp only[callA,Bool.false_eq_true,if_false,h1,h3]
   rw[if_pos]
   simp only[Bool.or_eq_true] at ht ⊢
   rcases ht with ht|ht
   ·left
    rw[gL_map,List.flatMap_map]
    exact ht
   ·exact .inr (noSl_g r ht)
  ·exact h4.elim
theorem gL_rho (ρ:Operand→SV) (l:List Operand):gL (l.map ρ)=l.map fun x=>(ρ x).g:=by simp[gL_map]
theorem fill_rho {parts:List (Nat×Nat×Operand)} {ρ:Operand→SV} {cs cs':List SV} (h:fillS (parts.map fun q=>(q.1,q.2.1,ρ q.2.2)) cs=some cs'):
  fillA (parts.map fun q=>(q.1,q.2.1,(ρ q.2.2).g)) (gL cs)=some (gL cs'):=by
 have:=fillS_g h
 simpa[List.map_map,Function.comp_def] using this
theorem fill_rho2 {parts:List (Nat×Operand)} {sz:Nat} {ρ:Operand→SV} {cs cs':List SV} (h:fillS (parts.map fun q=>(q.1,sz,ρ q.2)) cs=some cs'):
  fillA (parts.map fun q=>(q.1,sz,(ρ q.2).g)) (gL cs)=some (gL cs'):=by
 have:=fillS_g h
 simpa[List.map_map,Function.comp_def] using this
theorem gL_ofCell (z:List Value):gL (z.map SV.ofCell)=z.map .sc:=by rw[gL_map,map_ofCell]
theorem gL_rep (len:Nat) (z:List Value):gL ((List.replicate len (z.map SV.ofCell)).flatten)=(List.replicate len (z.map AV.sc)).flatten:=by
 rw[gL_map,List.map_flatten,List.map_replicate,map_ofCell]
theorem rep_flat (s:SId) (x:s.T) (n:Nat):(List.replicate n (encA s x)).flatten=flatA s (List.replicate n x):=by
 induction n with
 |zero=>simp[flatA]
 |succ n ih=>simp only[List.replicate_succ,List.flatten_cons,ih,flatA,List.flatMap_cons]
theorem boo_both {x:SV} {b:Bool} (h:x.boo=some b):x.g= .sc (.bool b):=boo_g h
theorem map_opt_rho {ρ:Operand→SV} (l:Option Operand):(l.map ρ).map SV.g=l.map fun x=>(ρ x).g:=by cases l<;>rfl
theorem set_seg:∀{l:List Int} {i:Nat} {v:Int},i<l.length→writeL (l.map fun n=>AV.sc (iv n)) 0 ((l.set i v).map fun n=>AV.sc (iv n))=(l.map fun n=>AV.sc (iv n)).set i (.sc (iv v)):=by
 intro l i v hi
 have key:∀(vs a c:List AV),vs.length=c.length→writeL (a++c) a.length vs=a++vs:=by
  intro vs
  induction vs with
  |nil=>intro a c h;cases c with
   |nil=>simp[writeL]
   |cons=>simp at h
  |cons w vs ih=>
   intro a c h
   cases c with
   |nil=>simp at h
   |cons y c=>
    simp only[List.length_cons,Nat.add_right_cancel_iff] at h
    simp only[writeL]
    have:(a++y::c).set a.length w=(a++[w])++c:=by
     rw[List.set_append_right _ _ (Nat.le_refl _)];simp
    rw[this]
    have:=ih (a++[w]) c h
    simp only[List.length_append,List.length_singleton] at this
    rw[this]
    simp
 have:=key ((l.set i v).map fun n=>AV.sc (iv n)) [] (l.map fun n=>AV.sc (iv n)) (by simp)
 simp only[List.nil_append,List.length_nil] at this
 rw[this,List.map_set]
theorem writeL_app (vs a b:List AV) (off:Nat) (h:off+vs.length≤b.length):writeL (a++b) (a.length+off) vs=a++writeL b off vs:=by
 have:=writeL_mid vs a b [] off h
 simpa using this
theorem map_modify_const {α β:Type} (f:α→β) (x:α):∀(l:List α) (j:Nat),(l.modify j fun _=>x).map f=(l.map f).modify j fun _=>f x
 |[],j=>by simp
 |a::l,0=>by simp[List.modify]
 |a::l,j+1=>by simp only[List.modify_succ_cons,List.map_cons,map_modify_const f x l j]
theorem sc_cells (v:Value):(AV.sc v).cellsOf=[.sc v]:=rfl
theorem setI_eq:∀{l:List Int} {i j:Nat} {v:Int},setI l (i+j) v j=l.set i v
 |[],_,_,_=>rfl
 |a::l,0,j,v=>by
  have h:∀(l:List Int) (j':Nat),j<j'→setI l j v j'=l:=by
   intro l
   induction l with
   |nil=>intro _ _;rfl
   |cons b l ih=>intro j' hj;simp only[setI,if_neg (show ¬j=j' by omega),ih (j'+1) (by omega)]
  simp only[setI,Nat.zero_add,if_true,List.set_cons_zero,h l (j+1) (by omega)]
 |a::l,i+1,j,v=>by
  simp only[setI,if_neg (show ¬i+1+j=j by omega),List.set_cons_succ]
  rw[show i+1+j=i+(j+1) from by omega,setI_eq]
theorem opK_store {ρ:Operand→SV} {n:Nat} {a x:Operand} (h:opK p (.store n a x) ρ o nid K):
  ∃(v:SV) (o':SStore),effS call (.store n a x) (fun x=>(ρ x).g) (gO o) nid=some (v.g,gO o')∧K v o':=by
 simp only[opK] at h
 split at h
 ·rename_i id off tot ha
  split at h
  ·rename_i cs e sz pu ho
   split at h
   ·rename_i hh
    obtain⟨h1,h2,h3,h4,h5⟩:=hh
    refine⟨.ud,_,?_,h⟩
    simp only[effS,ha,SV.g,getI ho,SObj.g,cellsOf_g,gL_len,oneS_g]
    rw[if_pos ⟨h1,h2,h3,h4,h5.imp (fun q=>q) fun hp=>pureS_g _ hp⟩,gO_set,SObj.g,writeS_g,gL_qnL]
   ·exact h.elim
  ·exact h.elim
 ·rename_i id i off m sz ha
  split at h
  ·rename_i s l e pu ho
   split at h
   ·rename_i hh
    obtain⟨rfl,h2,h3⟩:=hh
    obtain⟨rfl,hi,h4⟩:=h
    obtain⟨v,hv,h5⟩:=optK_some h4
    refine⟨.ud,_,?_,h5⟩
    have hd:=decS_g hv
    rw[←gL_map,writeS_g,gL_qnL] at hd
    have hen:gL (encS s (nthD l i s.dflt))=encA s (nthD l i s.dflt):=by rw[gL_map,encS_g]
    rw[hen] at hd
    have hmul:(i+1)*s.sz≤l.length*s.sz:=Nat.mul_le_mul_right _ hi
    rw[Nat.succ_mul] at hmul
    have hone:∀c∈qnL pu (gL (ρ x).cellsOf),Plain c:=by
     intro c hc
     obtain⟨j,hj⟩:=List.mem_iff_getElem?.1 hc
     have hjl:=(List.getElem?_eq_some_iff.1 hj).1
     rw[qnL_len,gL_len,h2] at hjl
     have key:(writeL (encA s (nthD l i s.dflt)) off (qnL pu (gL (ρ x).cellsOf)))[off+j]?=some c:=by
      have gen:∀(vs cs:List AV) (off j:Nat) (c:AV),vs[j]?=some c→off+vs.length≤cs.length→(writeL cs off vs)[off+j]?=some c:=by
       intro vs
       induction vs with
       |nil=>intro cs off j c h;simp at h
       |cons w vs ih=>
        intro cs off j c h hl
        simp only[List.length_cons] at hl
        simp only[writeL]
        cases j with
        |zero=>
         simp only[List.getElem?_cons_zero,Option.some.injEq] at h
         subst h
         have before:∀(vs cs:List AV) (o2 k:Nat),k<o2→(writeL cs o2 vs)[k]?=cs[k]?:=by
          intro vs
          induction vs with
          |nil=>intro cs o2 k _;rfl
          |cons w vs ih=>intro cs o2 k hk;simp only[writeL];rw[ih _ _ _ (by omega),List.getElem?_set_ne (by omega)]
         simp only[Nat.add_zero]
         rw[before _ _ _ _ (by omega),List.getElem?_set_self (by omega)]
        |succ j=>
         have:=ih (cs.set off w) (off+1) j c (by simpa using h) (by simp;omega)
         rwa [show off+(j+1)=off+1+j from by omega]
      exact gen _ _ _ _ _ hj (by rw[qnL_len,gL_len,h2,encA_len];exact h3)
     rw[hd] at key
     exact encA_plain _ _ _ (List.mem_of_getElem? key)
    obtain⟨ho1,ho2⟩:=qnL_plain hone
    simp only[effS,ha,SV.g,getI ho,SObj.g,cellsOf_g,flatA_len,gL_len]
    rw[if_pos ⟨trivial,h2,ho1,by omega,.inr ho2⟩,gO_set,SObj.g,flatA_set hi (by rw[qnL_len,gL_len,h2];exact h3) hd]
   ·exact h.elim
  ·exact h.elim
 ·rename_i id base sz len tot i ha
  split at h
  ·rename_i cs e sz' pu ho
   split at h
   ·rename_i v hx
    split at h
    ·rename_i l hl
     split at h
     ·rename_i hh
      obtain⟨h1,h2⟩:=hh
      rw[show setI l i v 0=l.set i v from setI_eq (j:=0)] at h
      obtain⟨hi,hk⟩:=h
      refine⟨.ud,_,?_,hk⟩
      have hcell:(ρ x).cellsOf=[ρ x]:=by
       cases hr:ρ x<;>rw[hr] at hx<;>simp[SV.int] at hx<;>rfl
      have hxg:(ρ x).g= .sc (iv v):=int_g hx
      have hig:=ints_g hl
      have hll:l.length=len:=by
       have:=congrArg List.length hig
       simp only[List.length_map,List.length_take,List.length_drop] at this
       omega
      have hdt:gL cs=gL (cs.take base)++(l.map fun n=>AV.sc (iv n))++gL (cs.drop (base+len)):=by
       rw[←hig,gL_map,gL_map,gL_map,←List.map_append,←List.map_append]
       congr 1
       rw[←List.drop_drop,List.append_assoc,List.take_append_drop,List.take_append_drop]
      have hbl:(gL (cs.take base)).length=base:=by rw[gL_len];simp;omega
      have hq:qnL pu [AV.sc (iv v)]=[AV.sc (iv v)]:=by unfold qnL;split<;>rfl
      simp only[effS,ha,SV.g,getI ho,SObj.g,hxg,sc_cells,List.length_singleton,gL_len,hq]
      rw[if_pos ⟨h1,trivial,by simp[oneL,AV.one,iv,Value.oneCell'],by omega,.inr (by simp[pureL,AV.pure])⟩,gO_set,SObj.g,writeS_g]
      congr 4
      have e1:gL ((l.set i v).map (SV.si .i64))=(l.set i v).map fun n=>AV.sc (iv n):=by
       rw[gL_map,List.map_map];rfl
      rw[e1,hdt]
      have hm:=writeL_mid ((l.set i v).map fun n=>AV.sc (iv n)) (gL (cs.take base)) (l.map fun n=>AV.sc (iv n)) (gL (cs.drop (base+len))) 0 (by simp)
      rw[hbl,Nat.add_zero] at hm
      rw[hm,set_seg (by omega)]
      simp only[writeL,Nat.mul_one]
      rw[List.append_assoc,List.set_append_right _ _ (by omega),hbl,Nat.add_sub_cancel_left,List.set_append_left _ _ (by simp;omega),List.append_assoc]
     ·exact h.elim
    ·exact h.elim
   ·exact h.elim
  ·exact h.elim
 ·exact h.elim
theorem opK_append {ρ:Operand→SV} {e:TypeId} {sz bytes:Nat} {s x:Operand} {pu:Bool} (h:opK p (.append e sz bytes s x pu) ρ o nid K):
  ∃(v:SV) (o':SStore),effS call (.append e sz bytes s x pu) (fun x=>(ρ x).g) (gO o) nid=some (v.g,gO o')∧K v o':=by
 simp only[opK] at h
 split at h
 ·rename_i t ht
  split at h
  ·rename_i hsz
   subst hsz
   obtain⟨new,hn,h2⟩:=elemsK_sound h
   have hone:oneL (flatA t new)=true:=flatA_one _ _
   have hpur:pureL (flatA t new)=true:=flatA_pure _ _
   simp only[effS,appendA,hn,hone,Bool.true_eq_false,if_false]
   split at h2
   ·rename_i hs
    rw[hs]
    simp only[SV.g]
    by_cases h0:new.length=0
    ·exact⟨_,_,by simp only[h0,if_true];rfl,h2.1 h0⟩
    ·obtain⟨h3,h4,h5⟩:=h2.2 h0
     obtain⟨o',hm,hk⟩:=mkK_sound h5
     refine⟨_,o',?_,hk⟩
     simp only[SObj.g] at hm
     rw[if_neg h0,if_pos ⟨h3,h4,.inr hpur⟩,hm]
     rfl
   ·rename_i id n sz' hs
    split at h2
    ·rename_i t' l e' pu' ho
     split at h2
     ·rename_i hh
      obtain⟨rfl,h3,rfl⟩:=hh
      obtain⟨rfl,h4,h5,h6⟩:=h2
      obtain⟨l',h7,h8⟩:=optK_some h6
      obtain⟨rfl,h9,h10⟩:=castL_flat h7
      refine⟨_,_,?_,h8⟩
      rw[hs]
      simp only[SV.g,getI ho,SObj.g,flatA_len]
      rw[if_pos ⟨trivial,trivial,trivial,trivial,h4,h5,.inr hpur⟩,gO_set,SObj.g,flatA_app,h9]
      simp only[List.length_append,h10,Nat.add_mul]
     ·exact h2.elim
    ·exact h2.elim
   ·rename_i t' l hs
    obtain⟨h3,h4⟩:=h2
    refine⟨_,_,?_,h4⟩
    rw[hs]
    simp only[SV.g,h3,if_true]
   ·exact h2.elim
  ·exact h.elim
 ·exact h.elim
theorem mm_int {mx:Bool} {a b:Int}:(if mx then(if b>a then b else a) else(if b<a then b else a))=if mx then max a b else min a b:=by
 cases mx<;>simp<;>split<;>omega
theorem opK_sound (hC:SCallsOK call p.C) {op:IOp} {ρ:Operand→SV} (h:opK p op ρ o nid K):
  ∃(v:SV) (o':SStore),effS call op (fun x=>(ρ x).g) (gO o) nid=some (v.g,gO o')∧K v o':=by
 cases op with
 |mov x=>exact⟨_,_,rfl,h⟩
 |pick c a b=>
  simp only[opK] at h
  split at h
  ·rename_i hc;exact⟨_,_,by simp only[effS,hc,SV.g],h⟩
  ·rename_i hc;exact⟨_,_,by simp only[effS,hc,SV.g],h⟩
  ·rename_i c hc
   cases c with
   |true=>exact⟨_,_,by simp only[effS,hc,SV.g],h.1 rfl⟩
   |false=>exact⟨_,_,by simp only[effS,hc,SV.g],h.2 rfl⟩
  ·exact h.elim
 |alloc z e pu=>
  obtain⟨o',hm,hk⟩:=mkK_sound h
  simp only[SObj.g,gL_ofCell] at hm
  exact⟨_,o',by simp only[effS,hm,Option.map_some,SV.g],hk⟩
 |box e x=>
  simp only[opK] at h
  split at h
  ·rename_i h1
   obtain⟨o',hm,hk⟩:=mkK_sound h
   simp only[SObj.g] at hm
   exact⟨_,o',by simp only[effS,cellsOf_g,oneS_g,h1,if_true,gL_len,hm,Option.map_some,SV.g],hk⟩
  ·exact h.elim
 |build z parts=>
  simp only[opK] at h
  obtain⟨cs,h1,h2⟩:=optK_some h
  have:=fill_rho h1
  rw[gL_ofCell] at this
  exact⟨_,_,by simp only[effS,this,Option.map_some,SV.g],h2⟩
 |mkrow z len parts e sz=>
  simp only[opK] at h
  split at h
  ·rename_i s cs hs hf
   split at h
   ·rename_i hsz
    obtain⟨l,h1,h2⟩:=optK_some h
    obtain⟨h3,h4⟩:=decL_g h1
    obtain⟨o',hm,hk⟩:=mkK_sound h2
    simp only[SObj.g] at hm
    have hfa:=fill_rho2 hf
    rw[gL_rep] at hfa
    refine⟨_,o',?_,hk⟩
    subst hsz
    rw[gL_qn] at h3
    have hp:pureL (gL cs)=true:=(qnL_plain (pu:=true) (cs:=gL cs) fun c hc=>flatA_plain (s:=s) (l:=l) (by rw[←h3];exact hc)).2
    have hq:qnL true (gL cs)=flatA s l:=h3
    simp only[effS,hfa,hp,hq,hm,Option.map_some,SV.g]
   ·exact h.elim
  ·exact h.elim
 |mkimm z len parts e sz=>
  simp only[opK] at h
  split at h
  ·rename_i s cs hs hf
   split at h
   ·rename_i hsz
    obtain⟨l,h1,h2⟩:=optK_some h
    obtain⟨h3,h4⟩:=decL_g h1
    have hfa:=fill_rho2 hf
    rw[gL_rep] at hfa
    rw[gL_qn] at h3
    have hp:pureL (gL cs)=true:=(qnL_plain (pu:=true) (cs:=gL cs) fun c hc=>flatA_plain (s:=s) (l:=l) (by rw[←h3];exact hc)).2
    have hq:qnL true (gL cs)=flatA s l:=h3
    exact⟨_,_,by simp only[effS,hfa,hp,hq,if_true,SV.g,h4],h2⟩
   ·exact h.elim
  ·exact h.elim
 |load n a=>
  simp only[opK] at h
  obtain⟨cs,off,v,h1,h2,h3⟩:=loadK_sound h
  exact⟨v,o,by simp only[effS,h1,h2,Option.map_some],h3⟩
 |store n a x=>exact opK_store h
 |nilc x=>
  simp only[opK] at h
  split at h
  ·rename_i hx;exact⟨_,_,by simp only[effS,hx,SV.g],h⟩
  ·rename_i hx;exact⟨_,_,by simp only[effS,hx,SV.g],h⟩
  ·rename_i hx;exact⟨_,_,by simp only[effS,hx,SV.g],h⟩
  ·exact h.elim
 |bin op x y=>
  simp only[opK] at h
  obtain⟨a,b,v,v',h1,h2,h3,h4,h5⟩:=binK_sound h
  exact⟨v',o,by simp only[effS,h1,h2,h3,Option.map_some,h4],h5⟩
 |beq neg x y=>
  simp only[opK] at h
  split at h
  ·rename_i a b h1 h2
   exact⟨_,_,by simp only[effS,boo_g h1,boo_g h2,SV.g],h⟩
  ·exact h.elim
 |eqf neg ks x y=>
  simp only[opK] at h
  split at h
  ·rename_i a b h1 h2
   split at h
   ·rename_i hk
    obtain⟨r,hr,h3⟩:=optK_some h
    exact⟨_,_,by simp only[effS,h1,h2,SV.g,feq_sound hk hr,Option.map_some],h3⟩
   ·exact h.elim
  ·exact h.elim
 |un op x=>
  simp only[opK] at h
  split at h
  ·rename_i hx;exact⟨_,_,by simp only[effS,hx,SV.g,unA,Option.map_some],h⟩
  ·rename_i hx;exact⟨_,_,by simp only[effS,hx,SV.g,unA,Option.map_some],h⟩
  ·rename_i k n hx
   refine⟨_,_,?_,h.2⟩
   have:(0:Int) - n= -n:=by omega
   simp only[effS,hx,SV.g,unA,Option.map_some,this,wrapI_in h.1]
  ·rename_i hx;exact⟨_,_,by simp only[effS,hx,SV.g,unA,Option.map_some],h⟩
  ·exact h.elim
 |conv k x=>
  simp only[opK] at h
  split at h
  ·rename_i hx;exact⟨_,_,by simp only[effS,hx,SV.g],h⟩
  ·rename_i hx;exact⟨_,_,by simp only[effS,hx,SV.g,wrapI_in h.1],h.2⟩
  ·rename_i kk n _ hx;exact⟨.si k (wrapI k n),_,by simp only[effS,hx,SV.g],rngK_sound h⟩
  ·exact h.elim
 |fieldA off x=>
  simp only[opK] at h
  split at h
  ·rename_i hx;exact⟨_,_,by simp only[effS,hx,SV.g,addA,Option.map_some],h⟩
  ·rename_i hx;exact⟨_,_,by simp only[effS,hx,SV.g,addA,Option.map_some,Nat.add_assoc],h⟩
  ·rename_i hx;exact⟨_,_,by simp only[effS,hx,SV.g,addA,Option.map_some,Nat.add_assoc],h⟩
  ·exact h.elim
 |field off n x=>
  simp only[opK] at h
  split at h
  ·rename_i cs hx
   obtain⟨v,h1,h2⟩:=optK_some h
   exact⟨_,_,by simp only[effS,hx,SV.g,partS_g h1,Option.map_some],h2⟩
  ·exact h.elim
 |idxA len sz x i=>
  simp only[opK] at h
  split at h
  ·rename_i k n hi
   split at h
   ·rename_i hn
    split at h
    ·rename_i hx;exact⟨_,_,by simp only[effS,hi,hx,SV.g,intA,if_pos hn,addA,Option.map_some],h⟩
    ·rename_i hx;exact⟨_,_,by simp only[effS,hi,hx,SV.g,intA,if_pos hn,addA,Option.map_some,Nat.add_assoc],h⟩
    ·rename_i hx;exact⟨_,_,by simp only[effS,hi,hx,SV.g,intA,if_pos hn,addA,Option.map_some,Nat.add_assoc],h⟩
    ·exact h.elim
   ·exact h.elim
  ·rename_i k n hi
   split at h
   ·rename_i hx;exact⟨_,_,by simp only[effS,hi,hx,SV.g,intA,if_pos (And.intro h.1 h.2.1),addA,Option.map_some],h.2.2⟩
   ·exact h.elim
  ·exact h.elim
 |idxS sz x i=>
  simp only[opK] at h
  split at h
  ·rename_i n hi
   have hi:=intS_g hi
   split at h
   ·rename_i s l hx
    split at h
    ·rename_i hsz
     subst hsz
     obtain⟨h1,h2,h3⟩:=h
     refine⟨_,_,?_,h3⟩
     simp only[effS,hi,hx,SV.g,idxSA,flatA_len]
     rw[if_pos ⟨h1,h2,trivial⟩]
     simp
    ·exact h.elim
   ·rename_i id m sz' hx
    split at h
    ·rename_i s l e pu ho
     split at h
     ·rename_i hsz
      obtain⟨rfl,rfl⟩:=hsz
      obtain⟨rfl,h1,h2,h3⟩:=h
      refine⟨_,_,?_,h3⟩
      simp only[effS,hi,hx,SV.g,idxSA,getI ho,SObj.g,flatA_len]
      rw[offR_le (Nat.zero_le _),if_pos ⟨trivial,trivial,h1,h2,by omega⟩]
      simp
     ·exact h.elim
    ·exact h.elim
   ·rename_i id off len m sz' hx
    split at h
    ·rename_i s l e pu ho
     split at h
     ·rename_i hsz
      obtain⟨rfl,rfl⟩:=hsz
      obtain⟨rfl,h1,h2,h4,h3⟩:=h
      refine⟨_,_,?_,h3⟩
      have hm:(off+len)*s.sz≤l.length*s.sz:=Nat.mul_le_mul_right _ h4
      rw[Nat.add_mul] at hm
      simp only[effS,hi,hx,SV.g,idxSA,getI ho,SObj.g,flatA_len]
      rw[offR_le (by omega),if_pos ⟨trivial,trivial,h1,h2,hm⟩]
      simp[Nat.add_mul]
     ·exact h.elim
    ·exact h.elim
   ·rename_i id off len m sz' hx
    split at h
    ·rename_i s l e pu ho
     split at h
     ·rename_i hsz
      obtain⟨rfl,rfl⟩:=hsz
      obtain⟨rfl,h1,h2,h4,h3⟩:=h
      refine⟨_,_,?_,h3⟩
      have hm:(off+len)*s.sz≤l.length*s.sz:=Nat.mul_le_mul_right _ h4
      have hp:=sz_pos s
      rw[Nat.add_mul] at hm
      simp only[effS,hi,hx,SV.g,idxSA,getI ho,SObj.g,flatA_len]
      rw[offR_gt (by omega),show off*s.sz+(l.length*s.sz+s.sz) - l.length*s.sz - s.sz=off*s.sz by omega,if_pos ⟨trivial,trivial,h1,h2,hm⟩]
      simp[Nat.add_mul]
     ·exact h.elim
    ·exact h.elim
   ·exact h.elim
  ·exact h.elim
 |idx len sz n x i=>
  simp only[opK] at h
  split at h
  ·rename_i k' k cs hi hx
   split at h
   ·rename_i hk
    obtain⟨v,h1,h2⟩:=optK_some h
    exact⟨_,_,by simp only[effS,hi,hx,SV.g,intA,if_pos hk,partS_g h1,Option.map_some],h2⟩
   ·exact h.elim
  ·rename_i k' k cs hi hx
   split at h
   ·rename_i l _ _ hl
    split at h
    ·rename_i hll
     obtain⟨h1,h2,h3⟩:=h
     refine⟨_,_,?_,h3⟩
     obtain⟨h4,h5⟩:=ints_all hl
     have h6:=h5 k.toNat (by omega)
     simp only[effS,hi,hx,SV.g,intA,if_pos (And.intro h1 h2),Nat.mul_one,partA,gL_get,h6,Option.map_some]
    ·exact h.elim
   ·exact h.elim
  ·exact h.elim
 |idxStr x i=>simp only[opK] at h
 |mkslice z e sz bytes l c pu=>
  simp only[opK] at h
  split at h
  ·rename_i n m s hn hm hs
   have hn:=intS_g hn
   have hm:=intS_g hm
   split at h
   ·rename_i hsz
    subst hsz
    obtain⟨x,hx,h1,h2,h3,h4,h5⟩:=optK_some h
    obtain⟨o',hmk,hk⟩:=mkK_sound h5
    refine⟨_,o',?_,hk⟩
    have hd:=decS_g hx
    rw[←gL_map,gL_qnL,gL_ofCell] at hd
    simp only[SObj.g] at hmk
    simp only[effS,hn,hm]
    rw[if_pos ⟨h1,h2,h3,h4⟩,hd,rep_flat,hmk]
    simp[SV.g]
   ·exact h.elim
  ·exact h.elim
 |slice sz x lo hi=>
  simp only[opK] at h
  split at h
  ·rename_i s l hx
   split at h
   ·rename_i hsz
    subst hsz
    obtain⟨a,ha,h1⟩:=boundK_sound h
    obtain⟨b,hb,h2,h3,h4⟩:=boundK_sound h1
    refine⟨_,_,?_,h4⟩
    rw[map_opt_rho] at ha hb
    have hlen:((l.drop a).take (b - a)).length=b - a:=by simp;omega
    simp only[effS,hx,SV.g,sliceA,ha,hb,flatA_len,and_true,if_pos (And.intro h2 h3),Option.map_some,flatA_sub,hlen]
   ·exact h.elim
  ·rename_i id m sz' hx
   split at h
   ·rename_i s l e pu ho
    split at h
    ·rename_i hsz
     obtain⟨rfl,rfl⟩:=hsz
     obtain⟨rfl,h⟩:=h
     obtain⟨a,ha,h1⟩:=boundK_sound h
     obtain⟨b,hb,h2,h3,h4⟩:=boundK_sound h1
     refine⟨_,_,?_,h4⟩
     rw[map_opt_rho] at ha hb
     simp only[effS,hx,SV.g,sliceA,ha,hb,getI ho,SObj.g,flatA_len]
     rw[if_pos ⟨h2,h3,trivial,trivial⟩]
     simp
    ·exact h.elim
   ·exact h.elim
  ·rename_i id off len m sz' hx
   split at h
   ·rename_i s l e pu ho
    split at h
    ·rename_i hsz
     obtain⟨rfl,rfl⟩:=hsz
     obtain⟨rfl,h⟩:=h
     obtain⟨a,ha,h1⟩:=boundK_sound h
     obtain⟨b,hb,h2,h3,h4⟩:=boundK_sound h1
     refine⟨_,_,?_,h4⟩
     rw[map_opt_rho] at ha hb
     simp only[effS,hx,SV.g,sliceA,ha,hb,getI ho,SObj.g,flatA_len]
     rw[if_pos ⟨h2,h3,trivial,trivial⟩]
     simp[Nat.add_mul]
    ·exact h.elim
   ·exact h.elim
  ·exact h.elim
 |slice3 sz x lo hi mx=>
  simp only[opK] at h
  split at h
  ·rename_i s l hx
   split at h
   ·rename_i hsz
    subst hsz
    obtain⟨a,ha,h1⟩:=boundK_sound h
    obtain⟨b,hb,h2⟩:=boundK_sound h1
    obtain⟨m,hm,h3,h4,h5,h6⟩:=boundK_sound h2
    refine⟨_,_,?_,h6⟩
    rw[map_opt_rho] at ha
    simp only[Option.map_some] at hb hm
    have hlen:((l.drop a).take (b - a)).length=b - a:=by simp;omega
    simp only[effS,hx,SV.g,sliceA3,ha,hb,hm,flatA_len,and_true,if_pos (And.intro h3 (And.intro h4 h5)),Option.map_some,flatA_sub,hlen]
   ·exact h.elim
  ·rename_i id n sz' hx
   split at h
   ·rename_i s l e pu ho
    split at h
    ·rename_i hsz
     obtain⟨rfl,rfl⟩:=hsz
     obtain⟨rfl,h⟩:=h
     obtain⟨a,ha,h1⟩:=boundK_sound h
     obtain⟨b,hb,h2⟩:=boundK_sound h1
     obtain⟨m,hm,h3,h4,h5,h6⟩:=boundK_sound h2
     refine⟨_,_,?_,h6⟩
     rw[map_opt_rho] at ha
     simp only[Option.map_some] at hb hm
     simp only[effS,hx,SV.g,sliceA3,ha,hb,hm,getI ho,SObj.g,flatA_len]
     rw[if_pos ⟨h3,h4,h5,trivial,trivial,by omega,sz_pos _⟩]
     simp
    ·exact h.elim
   ·exact h.elim
  ·exact h.elim
 |sliceStr x lo hi=>simp only[opK] at h
 |append e sz bytes s x pu=>exact opK_append h
 |len k x=>
  simp only[opK] at h
  split at h
  ·rename_i hx;exact⟨_,_,by simp only[effS,hx,SV.g,lenA,Option.map_some],h⟩
  ·rename_i hx;exact⟨_,_,by simp only[effS,hx,SV.g,lenA,Option.map_some],h⟩
  ·rename_i hx;exact⟨_,_,by simp only[effS,hx,SV.g,lenA,Option.map_some],h⟩
  ·rename_i hx;exact⟨_,_,by simp only[effS,hx,SV.g,lenA,Option.map_some],h⟩
  ·rename_i hx;exact⟨_,_,by simp only[effS,hx,SV.g,lenA,Option.map_some];rfl,h⟩
  ·rename_i hx;exact⟨_,_,by simp only[effS,hx,SV.g,lenA,Option.map_some],h⟩
  ·rename_i id hx
   split at h
   ·rename_i sk sv ka es kt pu ho
    exact⟨_,_,by simp only[effS,hx,SV.g,lenA,getI ho,SObj.g,List.length_map,Option.map_some],h⟩
   ·exact h.elim
  ·exact h.elim
 |lenArr n=>exact⟨_,_,rfl,h⟩
 |mm mx x y=>
  simp only[opK] at h
  split at h
  ·rename_i hx hy
   split at h
   ·rename_i hk
    exact⟨_,_,by simp only[effS,hx,hy,SV.g,if_pos hk],h⟩
   ·exact h.elim
  ·rename_i k a hx
   obtain⟨b,hb,h2⟩:=optK_some h
   exact⟨_,_,by simp only[effS,hx,int_g hb,SV.g,if_true,mm_int],h2⟩
  ·rename_i k a hx _
   obtain⟨b,hb,h2⟩:=optK_some h
   exact⟨_,_,by simp only[effS,hx,int_g hb,SV.g,if_true,mm_int],h2⟩
  ·exact h.elim
 |call f args own=>
  simp only[opK] at h
  obtain⟨v,o',h1,h2⟩:=callK_sound hC h
  rw[gL_rho] at h1
  exact⟨v,o',by simp only[effS,h1],h2⟩
 |callv f args own=>
  simp only[opK] at h
  split at h
  ·rename_i g first captured hf
   obtain⟨v,o',h1,h2⟩:=callK_sound hC h
   rw[gL_app,gL_app,gL_rho] at h1
   exact⟨v,o',by simp only[effS,hf,SV.g,h1],h2⟩
  ·exact h.elim
 |extract x i=>
  simp only[opK] at h
  split at h
  ·rename_i vs hx
   obtain⟨v,h1,h2⟩:=optK_some h
   exact⟨_,_,by simp only[effS,hx,SV.g,gL_get,h1,Option.map_some],h2⟩
  ·exact h.elim
 |mkfn f first captured=>exact⟨_,_,by simp only[effS,SV.g,gL_rho],h⟩
 |mkmap kt pu=>
  simp only[opK] at h
  split at h
  ·rename_i sk sv hs
   obtain⟨o',hm,hk⟩:=mkK_sound h
   simp only[SObj.g,List.map_nil] at hm
   exact⟨_,o',by simp only[effS,hm,Option.map_some,SV.g],hk⟩
  ·exact h.elim
 |lookup z agg ks ka x k ok=>
  simp only[opK] at h
  split at h
  ·rename_i id hx
   split at h
   ·rename_i sk sv ka' es kt pu ho
    split at h
    ·rename_i hh
     obtain⟨rfl,rfl,h1,h2,rfl,h4,h5,h6⟩:=hh
     obtain⟨kv,hkv,h7⟩:=optK_some h
     obtain⟨zv,hzv,h8⟩:=optK_some h7
     have hkey:=keyA_sound h5 h6 (keyed_flat h1) hkv
     have hz:zeroA z false=some (valA sv zv):=by
      have hd:=decS_g hzv
      rw[map_ofCell,valA_enc h2] at hd
      cases z with
      |nil=>simp at hd
      |cons a r=>
       cases r with
       |nil=>simp only[List.map_cons,List.map_nil,List.cons.injEq,and_true] at hd;simp[zeroA,hd]
       |cons=>simp at hd
     obtain⟨r,hr,hm⟩:=findM_sound (sv:=sv) h1 h4 kv es 0
     refine⟨_,_,?_,h8⟩
     simp only[effS,hx,SV.g,hkey,getI ho,SObj.g,if_true,hr,hz]
     cases hf:findT sk sv kv es with
     |some v=>
      rw[hf] at hm
      obtain⟨j,rfl,_⟩:=hm
      simp only[Option.getD_some]
      cases ok<;>simp only[Bool.false_eq_true,if_false,if_true,SV.g,gL,valA_head h2,Option.isSome_some,Option.isSome_none]
     |none=>
      rw[hf] at hm
      obtain⟨rfl,_⟩:=hm
      simp only[Option.getD_none]
      cases ok<;>simp only[Bool.false_eq_true,if_false,if_true,SV.g,gL,valA_head h2,Option.isSome_some,Option.isSome_none]
    ·exact h.elim
   ·exact h.elim
  ·exact h.elim
 |mapset ks ka x k v=>
  simp only[opK] at h
  split at h
  ·rename_i id hx
   split at h
   ·rename_i sk sv ka' es kt pu ho
    split at h
    ·rename_i hh
     obtain⟨rfl,rfl,h1,h2,h4,h5,h6,h9⟩:=hh
     obtain⟨kv,hkv,h7⟩:=optK_some h
     obtain⟨vv,hvv,h8⟩:=optK_some h7
     have hkey:=keyA_sound h5 h6 (keyed_flat h1) hkv
     have hv:(ρ v).g=valA sv vv:=by
      have hd:=decS_g hvv
      rw[valA_enc h2] at hd
      have hc:(ρ v).cellsOf=[ρ v]:=by
       revert h9
       cases ρ v<;>simp[SV.cellsOf,aggIs]
      rw[hc] at hd
      simpa using hd
     obtain⟨r,hr,hm⟩:=findM_sound (sv:=sv) h1 h4 kv es 0
     refine⟨_,_,?_,h8⟩
     have hpure:(valA sv vv).pure=true:=by simp[valA,AV.pure]
     simp only[effS,hx,SV.g,hkey,getI ho,SObj.g,hv,hpure,hr,gO_set]
     rw[if_neg (by simp)]
     cases hf:findT sk sv kv es with
     |some w=>
      rw[hf] at hm
      obtain⟨j,rfl,h10,h11⟩:=hm
      rw[setT_some h10 h11]
      simp only[Nat.zero_add]
      rw[map_modify_const]
     |none=>
      rw[hf] at hm
      obtain⟨rfl,h10⟩:=hm
      rw[setT_none h10]
      simp
    ·exact h.elim
   ·exact h.elim
  ·exact h.elim
end
mutual
theorem frz_bel {o:Store} {k:Nat}:∀{v:AV},v.bel k=true→v.frz o (fun i=>decide (k≤i))=some v
 | .os id off len tot,h=>by
  simp only[AV.bel,decide_eq_true_eq] at h
  simp only[AV.frz,decide_eq_true_eq,if_neg (Nat.not_le.2 h)]
 | .ptr id off tot,h=>by
  simp only[AV.bel,decide_eq_true_eq] at h
  simp only[AV.frz,decide_eq_true_eq,if_neg (Nat.not_le.2 h)]
 | .agg cs,h=>by simp only[AV.bel] at h;simp only[AV.frz,frzL_bel h,Option.map_some]
 | .tup cs,h=>by simp only[AV.bel] at h;simp only[AV.frz,frzL_bel h,Option.map_some]
 | .fn f a b,h=>by
  simp only[AV.bel,Bool.and_eq_true] at h
  simp only[AV.frz,frzL_bel h.1,frzL_bel h.2]
 | .ud,_| .sc _,_| .sl _ _,_| .ep _ _,_| .mp _,_=>by simp only[AV.frz]
theorem frzL_bel {o:Store} {k:Nat}:∀{l:List AV},belL k l=true→frzL o (fun i=>decide (k≤i)) l=some l
 |[],_=>by simp[frzL]
 |c::cs,h=>by
  simp only[belL,Bool.and_eq_true] at h
  simp only[frzL,frz_bel h.1,frzL_bel h.2]
end
theorem frzM_bel {o:Store} {k:Nat}:∀{l:List (Value×AV)},belL k (l.map (·.2))=true→frzM o (fun i=>decide (k≤i)) l=some l
 |[],_=>by simp[frzM]
 |(q,c)::cs,h=>by
  simp only[List.map_cons,belL,Bool.and_eq_true] at h
  simp only[frzM,frz_bel h.1,frzM_bel h.2]
theorem ofrz_bel {o:Store} {k:Nat} {x:AObj} (h:x.bel k=true):x.frz o (fun i=>decide (k≤i))=some x:=by
 cases x with
 |dead=>rfl
 |cells cs e sz pu=>
  cases pu with
  |true=>simp only[AObj.frz,if_true]
  |false=>simp only[AObj.bel,Bool.false_or] at h;simp only[AObj.frz,Bool.false_eq_true,if_false,frzL_bel h,Option.map_some]
 |map es kt pu=>
  cases pu with
  |true=>simp only[AObj.frz,if_true]
  |false=>simp only[AObj.bel,Bool.false_or] at h;simp only[AObj.frz,Bool.false_eq_true,if_false,frzM_bel h,Option.map_some]
theorem frzS_bel {o:Store} {k:Nat}:∀{r:Store},(∀x∈r,x.bel k=true)→frzS o (fun i=>decide (k≤i)) r=some r
 |[],_=>rfl
 |x::r,h=>by
  simp only[frzS,ofrz_bel (h x (by simp)),frzS_bel (r:=r) fun y hy=>h y (by simp[hy])]
theorem dropPu_take {k:Nat}:∀{o:Store} {i:Nat},(dropPu (fun j=>decide (k≤j)) i o).take (k - i)=o.take (k - i)
 |[],i=>by simp[dropPu]
 |x::r,i=>by
  simp only[dropPu]
  by_cases hi:i<k
  ·rw[show k - i=(k - (i+1))+1 from by omega,List.take_succ_cons,List.take_succ_cons,dropPu_take]
   congr 1
   cases x with
   |cells cs e sz pu=>cases pu<;>simp[Nat.not_le.2 hi]
   |_=>rfl
  ·rw[show k - i=0 from by omega];simp
theorem mem_range_c {k i:Nat} (h:i<k):(List.range k).contains i=true:=by simp[h]
theorem reach_bel {o:Store} {k:Nat}:∀{d:Nat} {vs:List AV},belL k vs=true→reachF o d vs (List.range k)=List.range k:=by
 intro d
 induction d with
 |zero=>intro vs _;simp[reachF]
 |succ d ih=>
  intro vs h
  cases vs with
  |nil=>simp[reachF]
  |cons v vs=>
   simp only[belL,Bool.and_eq_true] at h
   have h1:=h.1
   simp only[reachF]
   cases v with
   |agg cs=>simp only[AV.bel] at h1;simp only[ih h1,ih h.2]
   |tup cs=>simp only[AV.bel] at h1;simp only[ih h1,ih h.2]
   |fn f a b=>simp only[AV.bel,Bool.and_eq_true] at h1;simp only[ih h1.1,ih h1.2,ih h.2]
   |ptr id _ _=>simp only[AV.bel,decide_eq_true_eq] at h1;simp only[mem_range_c h1,if_true,ih h.2]
   |os id _ _ _=>simp only[AV.bel,decide_eq_true_eq] at h1;simp only[mem_range_c h1,if_true,ih h.2]
   |mp id=>simp only[AV.bel,decide_eq_true_eq] at h1;simp only[mem_range_c h1,if_true,ih h.2]
   |_=>simp only[ih h.2]
theorem idxOf_range':∀{n s i p:Nat},s≤i→i<s+n→idxOf (List.range' s n) i p=some (p+(i - s))
 |0,s,i,p,h1,h2=>by omega
 |n+1,s,i,p,h1,h2=>by
  simp only[List.range'_succ,idxOf]
  by_cases h:s=i
  ·subst h;simp
  ·have:(s==i)=false:=by simpa using h
   rw[this]
   simp only[Bool.false_eq_true,if_false]
   rw[idxOf_range' (by omega) (by omega)]
   congr 1
   omega
theorem idxOf_range {k i:Nat} (h:i<k):idxOf (List.range k) i=some i:=by
 rw[List.range_eq_range',idxOf_range' (by omega) (by omega)]
 simp
mutual
theorem ren_bel {k:Nat}:∀{v:AV},v.bel k=true→v.ren (fun j=>idxOf (List.range k) j)=some v
 | .os id off len tot,h=>by simp only[AV.bel,decide_eq_true_eq] at h;simp only[AV.ren,idxOf_range h,Option.map_some]
 | .ptr id off tot,h=>by simp only[AV.bel,decide_eq_true_eq] at h;simp only[AV.ren,idxOf_range h,Option.map_some]
 | .mp id,h=>by simp only[AV.bel,decide_eq_true_eq] at h;simp only[AV.ren,idxOf_range h,Option.map_some]
 | .agg cs,h=>by simp only[AV.bel] at h;simp only[AV.ren,renL_bel h,Option.map_some]
 | .tup cs,h=>by simp only[AV.bel] at h;simp only[AV.ren,renL_bel h,Option.map_some]
 | .fn f a b,h=>by
  simp only[AV.bel,Bool.and_eq_true] at h
  simp only[AV.ren,renL_bel h.1,renL_bel h.2]
 | .ud,_| .sc _,_| .sl _ _,_| .ep _ _,_=>by simp only[AV.ren]
theorem renL_bel {k:Nat}:∀{l:List AV},belL k l=true→renL (fun j=>idxOf (List.range k) j) l=some l
 |[],_=>by simp[renL]
 |c::cs,h=>by
  simp only[belL,Bool.and_eq_true] at h
  simp only[renL,ren_bel h.1,renL_bel h.2]
end
theorem renM_bel {k:Nat}:∀{l:List (Value×AV)},belL k (l.map (·.2))=true→renM (fun j=>idxOf (List.range k) j) l=some l
 |[],_=>by simp[renM]
 |(q,c)::cs,h=>by
  simp only[List.map_cons,belL,Bool.and_eq_true] at h
  simp only[renM,ren_bel h.1,renM_bel h.2]
theorem oren_bel {k:Nat} {x:AObj} (h:x.bel k=true):x.ren (fun j=>idxOf (List.range k) j)=some x:=by
 cases x with
 |dead=>rfl
 |cells cs e sz pu=>
  cases pu with
  |true=>simp only[AObj.ren,if_true]
  |false=>simp only[AObj.bel,Bool.false_or] at h;simp only[AObj.ren,Bool.false_eq_true,if_false,renL_bel h,Option.map_some]
 |map es kt pu=>
  cases pu with
  |true=>simp only[AObj.ren,if_true]
  |false=>simp only[AObj.bel,Bool.false_or] at h;simp only[AObj.ren,Bool.false_eq_true,if_false,renM_bel h,Option.map_some]
theorem sub_range {k:Nat} {o:Store} (hb:∀x∈o.take k,x.bel k=true) (hl:k≤o.length):∀{n s:Nat},s+n=k→subStore o (List.range k) (List.range' s n)=some ((o.take k).drop s)
 |0,s,h=>by
  simp only[Nat.add_zero] at h;subst h
  simp[subStore]
 |n+1,s,h=>by
  simp only[List.range'_succ,subStore]
  have hs:s<o.length:=by omega
  have hg:o[s]?=some o[s]:=List.getElem?_eq_getElem hs
  rw[hg,sub_range hb hl (by omega)]
  have hm:o[s]∈o.take k:=by
   rw[List.mem_take_iff_getElem]
   exact⟨s,by omega,rfl⟩
  simp only[oren_bel (hb _ hm),Option.map_some]
  congr 1
  have hk:s<(o.take k).length:=by simp;omega
  rw[List.drop_eq_getElem_cons hk]
  simp
theorem nodup_range':∀{n s:Nat},callOwn.nodupN (List.range' s n)=true
 |0,_=>by simp[callOwn.nodupN]
 |n+1,s=>by
  simp only[List.range'_succ,callOwn.nodupN,nodup_range',Bool.and_true,Bool.not_eq_true']
  simp[List.mem_range']
  intro x _
  omega
theorem belL_app {k:Nat}:∀{a b:List AV},belL k a=true→belL k b=true→belL k (a++b)=true
 |[],b,_,h=>h
 |x::a,b,h,h2=>by
  simp only[belL,Bool.and_eq_true] at h
  simp only[List.cons_append,belL,h.1,belL_app h.2 h2,Bool.and_self]
theorem avs_bel {k:Nat}:∀{o:Store},(∀x∈o,x.bel k=true)→belL k (o.flatMap finishOwn.AObj.avs)=true
 |[],_=>by simp[belL]
 |x::o,h=>by
  simp only[List.flatMap_cons]
  refine belL_app ?_ (avs_bel fun y hy=>h y (by simp[hy]))
  have hx:=h x (by simp)
  cases x with
  |dead=>simp[finishOwn.AObj.avs,belL]
  |cells cs e sz pu=>cases pu<;>simp[finishOwn.AObj.avs,belL];simpa[AObj.bel] using hx
  |map es kt pu=>cases pu<;>simp[finishOwn.AObj.avs,belL];simpa[AObj.bel] using hx
theorem finishOwn_bel {k:Nat} {r:AV} {o:Store} (hr:r.bel k=true) (ho:∀x∈o,x.bel k=true) (hl:k≤o.length):finishOwn k r o=some (r,o.take k):=by
 unfold finishOwn
 rw[frz_bel hr,frzS_bel ho]
 simp only
 have ht:(dropPu (fun i=>decide (k≤i)) 0 o).take k=o.take k:=by simpa using dropPu_take (k:=k) (o:=o) (i:=0)
 have hlen:∀{o:Store} {i:Nat},(dropPu (fun i=>decide (k≤i)) i o).length=o.length:=by
  intro o
  induction o with
  |nil=>intro i;rfl
  |cons x o ih=>intro i;simp only[dropPu,List.length_cons,ih]
 have hb:∀x∈o.take k,x.bel k=true:=fun x hx=>ho x (List.mem_of_mem_take hx)
 rw[ht,reach_bel (by simp only[belL,hr,Bool.true_and];exact avs_bel hb)]
 have hn:callOwn.nodupN (List.range k)=true:=by rw[List.range_eq_range'];exact nodup_range'
 rw[if_pos hn,ren_bel hr]
 have hs:=sub_range (k:=k) (o:=dropPu (fun i=>decide (k≤i)) 0 o) (by rw[ht];exact hb) (by rw[hlen];exact hl) (n:=k) (s:=0) (by omega)
 rw[←List.range_eq_range',ht,List.drop_zero] at hs
 rw[hs]
theorem setE_g:∀{env:SEnv} {s:Nat} {v:SV},(getS env s).g=v.g→gE (setE env s v)=gE env
 |[],_,_,_=>rfl
 |p::r,s,v,h=>by
  simp only[setE,getS] at h ⊢
  cases hq:Nat.beq p.1 s with
  |true=>
   rw[hq] at h
   simp only[cond_true] at h ⊢
   simp[gE,h]
  |false=>
   rw[hq] at h
   simp only[cond_false] at h ⊢
   have:=setE_g h
   simp only[gE,List.map_cons] at this ⊢
   rw[this]
theorem wantK_sound {env:SEnv} {g:Option (Option Nat×Bool)} {K:SEnv→Bool→Prop} (h:wantK env g K):∃env' w,gE env'=gE env∧wantA (gE env) g=some w∧K env' w:=by
 unfold wantK at h
 split at h
 ·exact⟨_,_,rfl,rfl,h⟩
 ·exact h.elim
 ·rename_i s b
  split at h
  ·rename_i c hc
   exact⟨_,_,rfl,by simp[wantA,getS_g,hc,SV.g],h⟩
  ·rename_i c hc
   cases c with
   |true=>exact⟨_,_,setE_g (by rw[hc];rfl),by simp[wantA,getS_g,hc,SV.g],h.1 rfl⟩
   |false=>exact⟨_,_,setE_g (by rw[hc];rfl),by simp[wantA,getS_g,hc,SV.g],h.2 rfl⟩
  ·rename_i hc
   exact⟨_,_,rfl,by simp[wantA,getS_g,hc,SV.g,gL],h⟩
  ·exact h.elim
section
variable {call:Oracle} {p:SPar}
theorem opsK_sound (hC:SCallsOK call p.C) {base:Nat}:∀{ops:List IOper} {st:SSt} {tr:Trace} {K:SSt→Trace→Prop},opsK p base ops st tr K→
  ∃st',runOps call base ops st.g=some st'.g∧K st' ((traceOps call base ops st.g).reverse++tr)
 |[],st,tr,K,h=>⟨st,rfl,h⟩
 |i::r,st,tr,K,h=>by
  simp only[opsK] at h
  obtain⟨env,w,he,hw,h2⟩:=wantK_sound h
  have hg:st.g=⟨gE env,gO st.o⟩:=by simp[SSt.g,he]
  rw[←he] at hw
  cases w with
  |true=>
   simp only[if_true] at h2
   obtain⟨v,o',h3,h4⟩:=opK_sound hC h2
   obtain⟨st',h5,h6⟩:=opsK_sound hC h4
   have hrun:runOp call base i st.g=some (SSt.g ⟨putS env i.dst v,o'⟩):=by
    rw[hg]
    simp only[runOp,hw,evS_fun]
    rw[eff_eq,h3]
    simp only[SSt.g,putS_g]
   refine⟨st',by simp only[runOps,hrun];exact h5,?_⟩
   simp only[traceOps,hrun]
   rw[hg]
   simp only[hw,List.reverse_cons,List.append_assoc,List.singleton_append,evS_fun]
   exact h6
  |false=>
   simp only[Bool.false_eq_true,if_false] at h2
   obtain⟨st',h5,h6⟩:=opsK_sound hC h2
   have hrun:runOp call base i st.g=some (SSt.g ⟨putS env i.dst (.tup []),st.o⟩):=by
    rw[hg]
    simp only[runOp,hw,SSt.g,putS_g,SV.g,gL]
   refine⟨st',by simp only[runOps,hrun];exact h5,?_⟩
   simp only[traceOps,hrun]
   rw[hg]
   simp only[hw,List.reverse_cons,List.append_assoc,List.singleton_append]
   exact h6
theorem deads_g (k:Nat):gO (List.replicate k .dead)=deads k:=by simp[gO,deads,SObj.g]
theorem gO_app (a b:SStore):gO (a++b)=gO a++gO b:=by simp[gO]
theorem isDead_g (x:SObj):x.g.isDead=x.isDead:=by cases x<;>rfl
theorem sweepS_g (base:Nat) (o:SStore):gO (sweepS base o)=sweep base (gO o):=by
 unfold sweepS sweep
 have:((gO o).drop base).all (·.isDead)=(o.drop base).all (·.isDead):=by
  simp only[gO,←List.map_drop,List.all_map]
  congr 1
  funext x
  exact isDead_g x
 rw[this]
 cases(o.drop base).all (·.isDead)
 ·rfl
 ·simp[gO]
theorem regK_sound (hC:SCallsOK call p.C) {k:Nat} {ops:List IOper} {chk:List (Nat×Nat)} {st:SSt} {K:SSt→Prop} (h:regK p k ops chk st K):∃st',runReg call k ops chk st.g=some st'.g∧K st':=by
 unfold regK at h
 obtain⟨st',h1,h2⟩:=opsK_sound hC h
 rw[List.append_nil,List.reverse_reverse] at h2
 have hst:(SSt.mk st.env (st.o++List.replicate k .dead)).g=⟨st.g.env,st.g.o++deads k⟩:=by simp[SSt.g,gO_app,deads_g]
 rw[hst] at h1 h2
 have hlen:st.g.o.length=st.o.length:=by simp[SSt.g,gO_len]
 split at h2
 ·rename_i hc
  refine⟨_,?_,h2⟩
  simp only[runReg,hlen]
  rw[h1]
  simp only
  rw[if_pos (by rw[List.length_append,hlen,deads,List.length_replicate];exact hc)]
  simp only[SSt.g]
  by_cases hk:k=0
  ·simp[hk]
  ·simp[hk,sweepS_g]
 ·exact h2.elim
end
theorem isNil_g {v:SV}:isNil v=true↔v.g= .sc (.slice none 0 0):=by
 constructor
 ·intro h
  unfold isNil at h
  split at h
  ·rfl
  ·cases h
 ·intro h
  cases v<;>simp only[SV.g,reduceCtorEq,AV.sc.injEq] at h
  subst h
  rfl
section
variable {o:SStore} {id:Nat} {s:SId} {l:List s.T} {e:TypeId}
def pid (id:Nat):Nat→Bool:=fun i=>i==id
mutual
theorem frzV_sound (ho:o[id]?=some (.row s l e true)):∀{v:SV} {K:SV→Prop},frzV id s l v K→∃v':SV,v.g.frz (gO o) (pid id)=some v'.g∧K v'
 | .ow j n sz,K,h=>by
  simp only[frzV] at h
  split at h
  ·rename_i hj
   subst hj
   split at h
   ·rename_i hsz
    subst hsz
    obtain⟨rfl,hk⟩:=h
    refine⟨_,?_,hk⟩
    have htk:List.take (l.length*s.sz) (flatA s l)=flatA s l:=List.take_of_length_le (by rw[flatA_len];omega)
    simp only[SV.g,AV.frz,pid,BEq.rfl,if_true,getI ho,SObj.g,flatA_len,Nat.zero_add,Nat.le_refl,and_self,List.drop_zero,htk]
   ·exact h.elim
  ·rename_i hj
   refine⟨_,?_,h⟩
   simp only[SV.g,AV.frz,pid,beq_iff_eq,if_neg hj]
 | .os j off len n sz,K,h=>by
  simp only[frzV] at h
  split at h
  ·rename_i hj
   subst hj
   split at h
   ·rename_i hsz
    subst hsz
    obtain⟨rfl,hle,hk⟩:=h
    refine⟨_,?_,hk⟩
    have hm:(off+len)*s.sz≤l.length*s.sz:=Nat.mul_le_mul_right _ hle
    rw[Nat.add_mul] at hm
    have hll:((l.drop off).take len).length=len:=by simp;omega
    simp only[SV.g,AV.frz,pid,BEq.rfl,if_true,getI ho,SObj.g,flatA_len,hm,and_self,flatA_sub,hll]
   ·exact h.elim
  ·rename_i hj
   refine⟨_,?_,h⟩
   simp only[SV.g,AV.frz,pid,beq_iff_eq,if_neg hj]
 | .oc j off len n sz,K,h=>by
  simp only[frzV] at h
  split at h
  ·exact h.elim
  ·rename_i hj
   exact⟨_,by simp only[SV.g,AV.frz,pid,beq_iff_eq,if_neg hj],h⟩
 | .rp j i f n sz,K,h=>by
  simp only[frzV] at h
  split at h
  ·exact h.elim
  ·rename_i hj
   exact⟨_,by simp only[SV.g,AV.frz,pid,beq_iff_eq,if_neg hj],h⟩
 | .ptr j f t,K,h=>by
  simp only[frzV] at h
  split at h
  ·exact h.elim
  ·rename_i hj
   exact⟨_,by simp only[SV.g,AV.frz,pid,beq_iff_eq,if_neg hj],h⟩
 | .ap j a b c d i,K,h=>by
  simp only[frzV] at h
  split at h
  ·exact h.elim
  ·rename_i hj
   exact⟨_,by simp only[SV.g,AV.frz,pid,beq_iff_eq,if_neg hj],h⟩
 | .agg cs,K,h=>by
  simp only[frzV] at h
  obtain⟨cs',h1,h2⟩:=frzVL_sound ho h
  exact⟨_,by simp only[SV.g,AV.frz,h1,Option.map_some],h2⟩
 | .tup cs,K,h=>by
  simp only[frzV] at h
  obtain⟨cs',h1,h2⟩:=frzVL_sound ho h
  exact⟨_,by simp only[SV.g,AV.frz,h1,Option.map_some],h2⟩
 | .fn f a b,K,h=>by
  simp only[frzV] at h
  obtain⟨a',h1,h2⟩:=frzVL_sound ho h
  obtain⟨b',h3,h4⟩:=frzVL_sound ho h2
  exact⟨_,by simp only[SV.g,AV.frz,h1,h3],h4⟩
 | .ud,K,h=>⟨.ud,by simp only[SV.g,AV.frz],by simpa only[frzV] using h⟩
 | .sc v,K,h=>⟨.sc v,by simp only[SV.g,AV.frz],by simpa only[frzV] using h⟩
 | .il k n,K,h=>⟨.il k n,by simp only[SV.g,AV.frz],by simpa only[frzV] using h⟩
 | .si k n,K,h=>⟨.si k n,by simp only[SV.g,AV.frz],by simpa only[frzV] using h⟩
 | .bl b,K,h=>⟨.bl b,by simp only[SV.g,AV.frz],by simpa only[frzV] using h⟩
 | .sb b,K,h=>⟨.sb b,by simp only[SV.g,AV.frz],by simpa only[frzV] using h⟩
 | .row s l,K,h=>⟨.row s l,by simp only[SV.g,AV.frz],by simpa only[frzV] using h⟩
 | .ep s l i f,K,h=>⟨.ep s l i f,by simp only[SV.g,AV.frz],by simpa only[frzV] using h⟩
 | .mp i,K,h=>⟨.mp i,by simp only[SV.g,AV.frz],by simpa only[frzV] using h⟩
theorem frzVL_sound (ho:o[id]?=some (.row s l e true)):∀{cs:List SV} {K:List SV→Prop},frzVL id s l cs K→∃cs':List SV,frzL (gO o) (pid id) (gL cs)=some (gL cs')∧K cs'
 |[],K,h=>⟨[],by simp[gL,frzL],by simpa only[frzVL] using h⟩
 |c::cs,K,h=>by
  simp only[frzVL] at h
  obtain⟨c',h1,h2⟩:=frzV_sound ho h
  obtain⟨cs',h3,h4⟩:=frzVL_sound ho h2
  exact⟨c'::cs',by simp only[gL,frzL,h1,h3],h4⟩
end
theorem frzEK_sound (ho:o[id]?=some (.row s l e true)):∀{env:SEnv} {K:SEnv→Prop},frzEK id s l env K→∃env',frzE (gO o) (pid id) (gE env)=some (gE env')∧K env'
 |[],K,h=>⟨[],rfl,h⟩
 |(k,v)::r,K,h=>by
  simp only[frzEK] at h
  obtain⟨v',h1,h2⟩:=frzV_sound ho h
  obtain⟨r',h3,h4⟩:=frzEK_sound ho h2
  refine⟨(k,v')::r',?_,h4⟩
  simp only[gE,List.map_cons] at h3 ⊢
  simp only[frzE,h1,h3]
theorem frzL_plain {o:Store} {q:Nat→Bool}:∀{cs:List AV},(∀a∈cs,Plain a)→frzL o q cs=some cs
 |[],_=>by simp[frzL]
 |a::cs,h=>by
  have ih:=frzL_plain (o:=o) (q:=q) (cs:=cs) fun b hb=>h b (by simp[hb])
  rcases h a (by simp) with⟨v,rfl,_⟩|⟨n,ds,rfl,_⟩<;>simp only[frzL,AV.frz,ih]
theorem frzL_sc {o:Store} {q:Nat→Bool}:∀{cs:List AV},(∀a∈cs,∃v,a= .sc v)→frzL o q cs=some cs
 |[],_=>by simp[frzL]
 |c::cs,h=>by
  obtain⟨v,rfl⟩:=h c (by simp)
  simp only[frzL,AV.frz,frzL_sc (cs:=cs) fun a ha=>h a (by simp[ha])]
theorem frzM_sc {o:Store} {q:Nat→Bool}:∀{es:List (Value×AV)},(∀a∈es,∃v,a.2= .sc v)→frzM o q es=some es
 |[],_=>by simp[frzM]
 |(k,a)::es,h=>by
  obtain⟨v,hv⟩:=h (k,a) (by simp)
  simp only at hv
  subst hv
  simp only[frzM,AV.frz,frzM_sc (es:=es) fun a ha=>h a (by simp[ha])]
theorem frzOK_sound (ho:o[id]?=some (.row s l e true)):∀{i:Nat} {r:SStore} {K:SStore→Prop},frzOK id s l i r K→∃r' mid,frzS (gO o) (pid id) (gO r)=some mid∧dropPu (pid id) i mid=gO r'∧K r'
 |i,[],K,h=>⟨[],[],rfl,rfl,h⟩
 |i,x::r,K,h=>by
  cases x with
  |dead=>
   simp only[frzOK] at h
   obtain⟨r',mid,h1,h2,h3⟩:=frzOK_sound ho h
   refine⟨_,.dead::mid,?_,?_,h3⟩
   ·simp only[gO,List.map_cons,SObj.g] at h1 ⊢
    simp only[frzS,AObj.frz,h1]
   ·simp only[dropPu,h2];rfl
  |cells cs e' sz pu=>
   simp only[frzOK] at h
   cases pu with
   |true=>
    simp only[if_true] at h
    split at h
    ·exact h.elim
    ·rename_i hi
     obtain⟨r',mid,h1,h2,h3⟩:=frzOK_sound ho h
     refine⟨_,.cells (gL cs) e' sz true::mid,?_,?_,h3⟩
     ·simp only[gO,List.map_cons,SObj.g] at h1 ⊢
      simp only[frzS,AObj.frz,if_true,h1]
     ·simp only[dropPu,h2,pid,beq_iff_eq,if_neg hi];rfl
   |false=>
    simp only[Bool.false_eq_true,if_false] at h
    obtain⟨cs',hc1,hc2⟩:=frzVL_sound ho h
    obtain⟨r',mid,h1,h2,h3⟩:=frzOK_sound ho hc2
    refine⟨_,.cells (gL cs') e' sz false::mid,?_,?_,h3⟩
    ·simp only[gO,List.map_cons,SObj.g] at h1 hc1 ⊢
     simp only[frzS,AObj.frz,Bool.false_eq_true,if_false,hc1,Option.map_some,h1]
    ·simp only[dropPu,h2];rfl
  |row s' l' e' pu=>
   simp only[frzOK] at h
   have hobj:(SObj.row s' l' e' pu).g.frz (gO o) (pid id)=some (SObj.row s' l' e' pu).g:=by
    cases pu with
    |true=>simp only[SObj.g,AObj.frz,if_true]
    |false=>
     simp only[SObj.g,AObj.frz,Bool.false_eq_true,if_false]
     rw[frzL_plain (fun a ha=>flatA_plain ha),Option.map_some]
   split at h
   ·rename_i hi
    cases pu with
    |false=>simp only[Bool.false_eq_true,if_false] at h
    |true=>
     simp only[if_true] at h
     obtain⟨r',mid,h1,h2,h3⟩:=frzOK_sound ho h
     refine⟨_,(SObj.row s' l' e' true).g::mid,?_,?_,h3⟩
     ·simp only[gO,List.map_cons] at h1 ⊢
      simp only[frzS,gO] at hobj h1 ⊢
      simp only[hobj,h1]
     ·simp only[SObj.g,dropPu,pid,hi,BEq.rfl,if_true]
      rw[hi] at h2
      rw[h2]
      rfl
   ·rename_i hi
    obtain⟨r',mid,h1,h2,h3⟩:=frzOK_sound ho h
    refine⟨_,(SObj.row s' l' e' pu).g::mid,?_,?_,h3⟩
    ·simp only[gO,List.map_cons] at h1 ⊢
     simp only[frzS,gO] at hobj h1 ⊢
     simp only[hobj,h1]
    ·cases pu<;>simp only[SObj.g,dropPu,h2,pid,beq_iff_eq,if_neg hi]<;>rfl
  |map sk sv ka es kt pu=>
   simp only[frzOK] at h
   have hobj:(SObj.map sk sv ka es kt pu).g.frz (gO o) (pid id)=some (SObj.map sk sv ka es kt pu).g:=by
    cases pu with
    |true=>simp only[SObj.g,AObj.frz,if_true]
    |false=>
     simp only[SObj.g,AObj.frz,Bool.false_eq_true,if_false]
     rw[frzM_sc (fun a ha=>by obtain⟨q,_,rfl⟩:=List.mem_map.1 ha;exact⟨_,rfl⟩),Option.map_some]
   obtain⟨r',mid,h1,h2,h3⟩:=frzOK_sound ho h
   refine⟨_,(SObj.map sk sv ka es kt pu).g::mid,?_,?_,h3⟩
   ·simp only[gO,List.map_cons] at h1 ⊢
    simp only[frzS,gO] at hobj h1 ⊢
    simp only[hobj,h1]
   ·simp only[SObj.g,dropPu,h2];rfl
end
theorem idOf_g {v:SV}:(∃id,hintK.idOf v=some id∧∃a b c,v.g= .os id a b c)∨(hintK.idOf v=none∧∀id a b c,v.g≠ .os id a b c):=by
 cases v<;>simp[hintK.idOf,SV.g]
theorem hint_frz {p:SPar} {lo:Nat} {h:OwnH} {st:SSt} {K:SSt→Prop} {v:SV} (hno:h.own=false) (hcell:cellH h st.g=some v.g)
  (hh:match hintK.idOf v with
   |some id=>if Nat.ble lo id then(match st.o[id]? with
    |some (.row s l _ pu)=>if pu then frzEK id s l st.env fun env=>frzOK id s l 0 st.o fun o=>K ⟨env,o⟩ else False
    |_=>False) else K st
   |none=>K st):∃st',ownH lo h st.g=st'.g∧K st':=by
 let _:=p
 unfold ownH
 rw[if_neg (by simp[hno]),hcell]
 rcases @idOf_g v with⟨id,h1,a,b,c,h2⟩|⟨h1,h2⟩
 ·rw[h1] at hh
  rw[h2]
  simp only at hh ⊢
  split at hh
  ·rename_i hlo
   rw[if_pos hlo]
   split at hh
   ·rename_i s l e pu ho
    cases pu with
    |true=>
     simp only[if_true] at hh
     obtain⟨env',h3,h4⟩:=frzEK_sound ho hh
     obtain⟨r',mid,h5,h6,h7⟩:=frzOK_sound ho h4
     refine⟨_,?_,h7⟩
     have e1:(fun i=>i==id)=pid id:=rfl
     simp only[frzH,SSt.g,e1,h3,h5,h6]
    |false=>
     simp only[Bool.false_eq_true,if_false] at hh
   ·exact hh.elim
  ·rename_i hlo
   rw[if_neg hlo]
   exact⟨st,rfl,hh⟩
 ·rw[h1] at hh
  refine⟨st,?_,hh⟩
  split
  ·rename_i id a b c hx
   simp only[Option.some.injEq] at hx
   exact absurd hx (h2 _ _ _ _)
  ·rfl
section
variable {p:SPar} {lo:Nat}
theorem hintK_sound {h:OwnH} {st:SSt} {K:SSt→Prop} (hk:hintK p lo h st K):∃st',ownH lo h st.g=st'.g∧K st':=by
 unfold hintK at hk
 split at hk
 ·rename_i how
  unfold ownH
  rw[if_pos how]
  unfold ownH1
  split at hk
  ·rename_i hoff
   simp only[hoff]
   split at hk
   ·rename_i hn
    have hn2:=isNil_g.1 hn
    rw[←getS_g] at hn2
    have hn3:getE st.g.env h.slot= .sc (.slice none 0 0):=hn2
    rw[hn3]
    split at hk
    ·rename_i s hs
     split at hk
     ·rename_i hsz
      refine⟨_,?_,hk⟩
      simp[SSt.g,gE,gO,SV.g,SObj.g,flatA,hsz]
     ·exact hk.elim
    ·exact hk.elim
   ·rename_i hn
    refine⟨st,?_,hk⟩
    split
    ·rename_i hx
     have:getE (gE st.env) h.slot= .sc (.slice none 0 0):=hx
     rw[getS_g] at this
     exact absurd (isNil_g.2 this) hn
    ·rfl
  ·rename_i k hoff
   simp only[hoff]
   split at hk
   ·rename_i id off tot hslot
    have hs2:getE st.g.env h.slot= .ptr id off tot:=by
     show getE (gE st.env) h.slot=_
     rw[getS_g,hslot];rfl
    rw[hs2]
    split at hk
    ·rename_i cs e sz pu ho
     have ho2:st.g.o[id]?=some (.cells (gL cs) e sz pu):=getI ho
     simp only[ho2]
     split at hk
     ·rename_i hn
      cases hc:cs[off+k]? with
      |none=>rw[hc] at hn;simp at hn
      |some v=>
       rw[hc] at hn
       simp only[Option.any_some] at hn
       have hv:=isNil_g.1 hn
       have hc2:(gL cs)[off+k]?=some (.sc (.slice none 0 0)):=by rw[gL_get,hc,Option.map_some,hv]
       simp only[hc2,gL_len]
       split at hk
       ·rename_i hh
        rw[if_pos hh]
        split at hk
        ·rename_i s hs
         split at hk
         ·rename_i hsz
          refine⟨_,?_,hk⟩
          have e1:gL (cs.set (off+k) (.ow st.o.length 0 h.sz))=(gL cs).set (off+k) (.os st.o.length 0 0 0):=by
           rw[gL_map,gL_map,List.map_set];simp[SV.g]
          simp only[SSt.g,gO_app,gO_set,SObj.g,e1,gO_len]
          simp[gO,SObj.g,flatA,hsz]
         ·exact hk.elim
        ·exact hk.elim
       ·exact hk.elim
     ·rename_i hn
      refine⟨st,?_,hk⟩
      split
      ·rename_i hx
       rw[gL_get] at hx
       obtain⟨v,hv1,hv2⟩:=Option.map_eq_some_iff.1 hx
       rw[hv1] at hn
       exact absurd (isNil_g.2 hv2) (by simpa using hn)
      ·rfl
    ·exact hk.elim
   ·exact hk.elim
 ·rename_i how
  have how:h.own=false:=by simpa using how
  unfold hintK.cellK at hk
  cases hoff:h.off with
  |none=>
   rw[hoff] at hk
   simp only at hk
   refine hint_frz (p:=p) (v:=getS st.env h.slot) how ?_ ?_
   ·unfold cellH
    rw[hoff]
    simp only[SSt.g,getS_g]
   ·split at hk
    ·rename_i id hid
     simp only[Option.some.injEq] at hid
     rw[hid]
     exact hk
    ·rename_i hid
     simp only[Option.some.injEq] at hid
     rw[hid]
     exact hk
    ·exact hk.elim
  |some k=>
   rw[hoff] at hk
   simp only at hk
   cases hsl:getS st.env h.slot with
   |ptr id off tot=>
    rw[hsl] at hk
    simp only at hk
    cases ho:st.o[id]? with
    |none=>rw[ho] at hk;exact hk.elim
    |some x=>
     rw[ho] at hk
     cases x with
     |cells cs e sz pu=>
      simp only at hk
      by_cases hl:cs.length=tot
      ·rw[if_pos hl] at hk
       cases hc:cs[off+k]? with
       |none=>rw[hc] at hk;exact hk.elim
       |some v=>
        rw[hc] at hk
        refine hint_frz (p:=p) (v:=v) how ?_ ?_
        ·unfold cellH
         rw[hoff]
         have:getE st.g.env h.slot= .ptr id off tot:=by
          show getE (gE st.env) h.slot=_
          rw[getS_g,hsl];rfl
         have ho2:st.g.o[id]?=some (.cells (gL cs) e sz pu):=getI ho
         simp only[this,behind,ho2,gL_len,hl,if_true,gL_get,hc,Option.map_some]
        ·simp only[Option.map_some] at hk
         split at hk
         ·rename_i id hid
          simp only[Option.some.injEq] at hid
          rw[hid]
          exact hk
         ·rename_i hid
          simp only[Option.some.injEq] at hid
          rw[hid]
          exact hk
         ·exact hk.elim
      ·rw[if_neg hl] at hk
       exact hk.elim
     |_=>exact hk.elim
   |_=>rw[hsl] at hk;exact hk.elim
theorem hintsK_sound:∀{hs:List OwnH} {st:SSt} {K:SSt→Prop},hintsK p lo hs st K→∃st',hs.foldl (fun s h=>ownH lo h s) st.g=st'.g∧K st'
 |[],st,K,h=>⟨st,rfl,h⟩
 |h::hs,st,K,hk=>by
  simp only[hintsK] at hk
  obtain⟨st1,h1,h2⟩:=hintK_sound hk
  obtain⟨st2,h3,h4⟩:=hintsK_sound h2
  exact⟨st2,by rw[List.foldl_cons,h1,h3],h4⟩
theorem pruneS_g (live:List Nat) (env:SEnv):gE (pruneS live env)=prune live (gE env):=by
 simp[pruneS,prune,gE,←getS_g]
theorem trimS_g (k:Nat) (st:SSt):(trimS k st).g=trim k st.g:=by
 unfold trimS trim
 have h1:st.g.o.length=st.o.length:=by simp[SSt.g,gO_len]
 have h2:(st.g.env.all fun p=>p.2.bel k)=(st.env.all fun p=>p.2.bel k):=by
  simp only[SSt.g,gE,List.all_map]
  congr 1
  funext q
  exact bel_g k q.2
 have h3:((st.g.o.take k).all fun x=>x.bel k)=((st.o.take k).all fun x=>x.bel k):=by
  simp only[SSt.g,gO,←List.map_take,List.all_map]
  congr 1
  funext x
  exact obel_g k x
 rw[h1,h2,h3]
 by_cases hk:st.o.length≤k
 ·rw[if_pos hk,if_pos hk]
 ·rw[if_neg hk,if_neg hk]
  split
  ·simp[SSt.g,gO]
  ·rfl
variable {T:Tab}
theorem splitN_sound {v:Int} {n:Nat} {K:Nat→Prop}:∀{j:Nat},j≤n→splitN v n K j→(n - j:Nat)≤v→∃i:Nat,v=i∧K i
 |0,_,h,hv=>by
  simp only[splitN] at h
  omega
 |j+1,hj,h,hv=>by
  simp only[splitN] at h
  by_cases he:v=(n - (j+1):Nat)
  ·exact⟨_,he,h.1 he⟩
  ·exact splitN_sound (by omega) h.2 (by omega)
theorem splitN_nonneg {v:Int} {n:Nat} {K:Nat→Prop}:∀{j:Nat},splitN v n K j→0≤v
 |0,h=>h.1
 |j+1,h=>splitN_nonneg h.2
theorem splitK_sound {x:Option (Nat×Nat×Nat)} {st:SSt} {K:SSt→Prop} (h:splitK x st K):∃st',st'.g=st.g∧K st':=by
 unfold splitK at h
 split at h
 ·exact⟨st,rfl,h⟩
 ·rename_i id off n
  split at h
  ·rename_i cs e sz pu ho
   split at h
   ·rename_i k v hc
    obtain⟨i,rfl,hk⟩:=splitN_sound (Nat.le_refl _) h (by have:=splitN_nonneg h;omega)
    refine⟨_,?_,hk⟩
    have e1:gL (cs.set off (.il k i))=gL cs:=by
     rw[gL_map,gL_map,List.map_set]
     apply List.ext_getElem?
     intro j
     rw[List.getElem?_set]
     split
     ·rename_i hj
      subst hj
      obtain⟨h1,h2⟩:=List.getElem?_eq_some_iff.1 hc
      simp[h1,h2,SV.g]
     ·rfl
    simp only[SSt.g,gO_set,SObj.g,e1,SSt.mk.injEq,St.mk.injEq,true_and]
    apply List.ext_getElem?
    intro j
    rw[List.getElem?_set]
    split
    ·rename_i hj
     subst hj
     have hl:=(List.getElem?_eq_some_iff.1 ho).1
     rw[if_pos (by rw[gO_len];exact hl),gO_get,ho]
     rfl
    ·rfl
   ·exact h.elim
  ·exact h.elim
theorem sameE_g:∀{e e':SEnv},sameE e e'→gE e=gE e'
 |[],[],_=>rfl
 |[],_::_,h=>by simp[sameE] at h
 |_::_,[],h=>by simp[sameE] at h
 |(k,v)::e,(k',v')::e',h=>by
  simp only[sameE] at h
  split at h
  ·rename_i hk
   subst hk
   have:=sameE_g h.2
   simp only[gE,List.map_cons] at this ⊢
   rw[this,show v.g=v'.g from h.1]
  ·exact h.elim
theorem sameO_g:∀{o o':SStore},sameO o o'→gO o=gO o'
 |[],[],_=>rfl
 |[],_::_,h=>by simp[sameO] at h
 |_::_,[],h=>by simp[sameO] at h
 |x::o,y::o',h=>by
  simp only[sameO] at h
  have:=sameO_g h.2
  simp only[gO,List.map_cons] at this ⊢
  rw[this,show x.g=y.g from h.1]
theorem sameSt_g {s t:SSt} (h:sameSt s t):s.g=t.g:=by
 simp only[SSt.g,sameE_g h.1,sameO_g h.2]
def YOK (T:Tab) (md:Nat→Md):Option YS→Prop
 |none=>∀m,md m= .plain∨md m= .round
 |some Y=>∃y:Nat→YO,md=(fun m=> .iter (y m))∧∀vs o K,Y vs o K→∃(r:SV) (o':SStore),(∃N,∀m,N≤m→y m (gL vs) (gO o)=some (r.g,gO o'))∧K r o'
theorem map_evS (env:SEnv) (args:List Operand):args.map (evA (gE env))=gL (args.map (evS env)):=by
 rw[gL_map,List.map_map]
 apply List.map_congr_left
 intro x _
 exact evS_g env x
theorem opsYK_sound (hC:SCallsOK T.K p.C) {Y:YS} {y:Nat→YO} (hy:∀vs o K,Y vs o K→∃(r:SV) (o':SStore),(∃N,∀m,N≤m→y m (gL vs) (gO o)=some (r.g,gO o'))∧K r o') {base:Nat}:∀{ops:List IOper} {st:SSt} {K:SSt→Prop},opsYK p Y base ops st K→
  ∃st',(∃N,∀m,N≤m→∀call,OLe T.K call→runOpsY call (y m) base ops st.g=some st'.g)∧K st'
 |[],st,K,h=>⟨st,⟨0,fun _ _ _ _=>rfl⟩,h⟩
 |i::r,st,K,h=>by
  simp only[opsYK] at h
  obtain⟨env,w,he,hw,h2⟩:=wantK_sound h
  have hg:st.g=⟨gE env,gO st.o⟩:=by simp[SSt.g,he]
  rw[←he] at hw
  cases w with
  |false=>
   simp only[Bool.false_eq_true,if_false] at h2
   obtain⟨st',⟨N,h5⟩,h6⟩:=opsYK_sound hC hy h2
   refine⟨st',⟨N,fun m hm call hle=>?_⟩,h6⟩
   have hrun:runOpY call (y m) base i st.g=some (SSt.g ⟨putS env i.dst (.tup []),st.o⟩):=by
    have h0:runOp call base i st.g=some (SSt.g ⟨putS env i.dst (.tup []),st.o⟩):=by
     rw[hg]
     simp only[runOp,hw,SSt.g,putS_g,SV.g,gL]
    unfold runOpY
    split
    ·split
     ·rw[hg];simp only[hw,SSt.g,putS_g,SV.g,gL]
     ·exact h0
    ·exact h0
   simp only[runOpsY,hrun]
   exact h5 m hm call hle
  |true=>
   simp only[if_true] at h2
   split at h2
   ·rename_i vs hv
    obtain⟨v,o',⟨N1,h3⟩,h4⟩:=hy _ _ _ h2
    obtain⟨st',⟨N2,h5⟩,h6⟩:=opsYK_sound hC hy h4
    refine⟨st',⟨N1+N2,fun m hm call hle=>?_⟩,h6⟩
    have hrun:runOpY call (y m) base i st.g=some (SSt.g ⟨putS env i.dst v,o'⟩):=by
     unfold yArg at hv
     split at hv
     ·rename_i x args own hop
      split at hv
      ·rename_i l hx
       injection hv with hv
       subst hv
       have hxa:evA (gE env) x= .fn (.yield l) [] []:=by rw[evS_g,hx];rfl
       unfold runOpY
       rw[hop,hg]
       simp only[hxa,hw,map_evS,h3 m (by omega)]
       simp only[SSt.g,putS_g]
      ·cases hv
     ·cases hv
    simp only[runOpsY,hrun]
    exact h5 m (by omega) call hle
   ·rename_i hv
    obtain⟨v,o',h3,h4⟩:=opK_sound hC h2
    obtain⟨st',⟨N,h5⟩,h6⟩:=opsYK_sound hC hy h4
    refine⟨st',⟨N,fun m hm call hle=>?_⟩,h6⟩
    have hrun0:runOp T.K base i st.g=some (SSt.g ⟨putS env i.dst v,o'⟩):=by
     rw[hg]
     simp only[runOp,hw,evS_fun]
     rw[eff_eq,h3]
     simp only[SSt.g,putS_g]
    have hrun:runOpY call (y m) base i st.g=some (SSt.g ⟨putS env i.dst v,o'⟩):=by
     have h0:=hle.runOp hrun0
     unfold runOpY
     split
     ·rename_i x args own hop
      split
      ·rename_i l hx
       exfalso
       rw[hg] at hx
       simp only[evS_g] at hx
       unfold yArg at hv
       rw[hop] at hv
       simp only at hv
       have:evS env x= .fn (.yield l) [] []:=by
        cases hq:evS env x<;>rw[hq] at hx<;>simp only[SV.g,reduceCtorEq,AV.fn.injEq] at hx
        rename_i f a b
        obtain⟨rfl,h1,h2⟩:=hx
        cases a<;>simp[gL] at h1
        cases b<;>simp[gL] at h2
        rfl
       rw[this] at hv
       simp at hv
      ·exact h0
     ·exact h0
    simp only[runOpsY,hrun]
    exact h5 m hm call hle
theorem regYK_sound (hC:SCallsOK T.K p.C) {Y:YS} {y:Nat→YO} (hy:∀vs o K,Y vs o K→∃(r:SV) (o':SStore),(∃N,∀m,N≤m→y m (gL vs) (gO o)=some (r.g,gO o'))∧K r o') {k:Nat} {ops:List IOper} {st:SSt} {K:SSt→Prop} (h:regYK p Y k ops st K):
  ∃st',(∃N,∀m,N≤m→∀call,OLe T.K call→runRegY call (y m) k ops st.g=some st'.g)∧K st':=by
 unfold regYK at h
 obtain⟨st',⟨N,h1⟩,h2⟩:=opsYK_sound hC hy h
 have hst:(SSt.mk st.env (st.o++List.replicate k .dead)).g=⟨st.g.env,st.g.o++deads k⟩:=by simp[SSt.g,gO_app,deads_g]
 rw[hst] at h1
 have hlen:st.g.o.length=st.o.length:=by simp[SSt.g,gO_len]
 refine⟨_,⟨N,fun m hm call hle=>?_⟩,h2⟩
 simp only[runRegY,hlen]
 rw[h1 m hm call hle]
 simp only[SSt.g]
 by_cases hk:k=0
 ·simp[hk]
 ·simp[hk,sweepS_g]
theorem wpG_sound (hC:SCallsOK T.K p.C) {md:Nat→Md} {E:Operand→List Nat→IR→IR→(Nat→LoopAnn)→SSt→(Out→SSt→Prop)→Prop} {Y:Option YS} (hY:YOK T md Y) (hE:∀x ps as bd Λ st Q,E x ps as bd Λ st Q→VW T md lo (.each x ps as bd) st.g fun out s=>∃ss,s=ss.g∧Q out ss):∀{c:IR} {Λ:Nat→LoopAnn} {st:SSt} {Q:Out→SSt→Prop},wpG p E Y lo c Λ st Q→VW T md lo c st.g fun out s=>∃ss,s=ss.g∧Q out ss:=by
 intro c
 induction c with
 |skip=>intro Λ st Q h;exact VW.skip ⟨st,rfl,h⟩
 |exit id=>intro Λ st Q h;exact VW.exit ⟨st,rfl,h⟩
 |ret=>intro Λ st Q h;exact VW.ret ⟨st,rfl,h⟩
 |region id draw k ops chk live pre post=>
  intro Λ st Q h
  simp only[wpG] at h
  obtain⟨st0,h0,h⟩:=splitK_sound h
  obtain⟨st1,h1,h2⟩:=hintsK_sound h
  have plain:(∀m,draw=true∨md m= .plain∨md m= .round)→regK p k ops chk st1 (fun st2=>hintsK p lo post ⟨pruneS live st2.env,st2.o⟩ fun st3=>Q .norm st3)→VW T md lo (.region id draw k ops chk live pre post) st.g fun out s=>∃ss,s=ss.g∧Q out ss:=by
   intro hm h2
   obtain⟨st2,h3,h4⟩:=regK_sound hC h2
   obtain⟨st3,h5,h6⟩:=hintsK_sound h4
   refine VW.regionD hm ?_
   rw[←h0,h1,h3]
   refine⟨st3,?_,h6⟩
   rw[←h5]
   simp only[SSt.g,pruneS_g]
  unfold regMK at h2
  split at h2
  ·exact plain (fun m=> .inr (hY m)) h2
  ·exact plain (fun m=> .inl rfl) h2
  ·obtain⟨y,rfl,hy⟩:=hY
   obtain⟨st2,⟨N,h3⟩,h4⟩:=regYK_sound hC hy h2
   obtain⟨st3,h5,h6⟩:=hintsK_sound h4
   refine VW.regionY (st':=st2.g) ⟨N,fun m hm call hle=>?_⟩ ⟨st3,?_,h6⟩
   ·rw[←h0,h1];exact h3 m hm call hle
   ·rw[←h5]
    simp only[SSt.g,pruneS_g]
 |each x ps as bd _ _=>intro Λ st Q h;exact hE _ _ _ _ _ _ _ h
 |seq a b iha ihb=>
  intro Λ st Q h
  simp only[wpG] at h
  refine VW.seq ((iha h).mono ?_)
  rintro out s ⟨ss,rfl,h2⟩
  cases out with
  |norm=>rw[if_pos rfl];exact ihb h2
  |exit id=>rw[if_neg (by simp)];exact⟨ss,rfl,h2⟩
  |ret=>rw[if_neg (by simp)];exact⟨ss,rfl,h2⟩
 |cond x a b iha ihb=>
  intro Λ st Q h
  simp only[wpG] at h
  have hx:evA st.g.env x=(evS st.env x).g:=evS_g _ _
  have hdr:(SSt.mk (dropSE x st.env) st.o).g=⟨dropE x st.g.env,st.g.o⟩:=by
   have:∀(t:Nat) (env:SEnv),(dropS t env).map (fun p=>(p.1,p.2.g))=dropL t (env.map fun p=>(p.1,p.2.g)):=by
    intro t env
    induction env with
    |nil=>rfl
    |cons p env ih=>
     simp only[dropS,dropL,List.map_cons]
     cases Nat.beq p.1 t with
     |true=>simpa using ih
     |false=>simpa using ih
   cases x with
   |tmp t=>simp only[SSt.g,gE,dropSE,dropE];rw[this]
   |_=>rfl
  split at h
  ·rename_i he
   rw[he] at hx
   exact VW.cond hx (by rw[if_pos rfl,←hdr];exact iha h)
  ·rename_i he
   rw[he] at hx
   exact VW.cond hx (by rw[if_neg (by simp),←hdr];exact ihb h)
  ·rename_i c he
   rw[he] at hx
   refine VW.cond hx ?_
   cases c with
   |true=>rw[if_pos rfl,←hdr];exact iha (h.1 rfl)
   |false=>rw[if_neg (by simp),←hdr];exact ihb (h.2 rfl)
  ·exact h.elim
 |block id b ih=>
  intro Λ st Q h
  simp only[wpG] at h
  exact VW.block ((ih h).mono fun out s ⟨ss,e,h2⟩=>⟨ss,e,h2⟩)
 |loop b ih=>
  intro Λ st Q h
  simp only[wpG] at h
  split at h
  ·rename_i n hΛ
   clear hΛ
   induction n generalizing st with
   |zero=>exact h.elim
   |succ n ihn=>
    simp only[unrollK] at h
    refine VW.loop ((ih h).mono ?_)
    rintro out s ⟨ss,rfl,h2⟩
    cases out with
    |norm=>
     rw[if_pos rfl]
     have:=ihn h2
     rwa [trimS_g,show st.o.length=st.g.o.length from by simp[SSt.g,gO_len]] at this
    |exit id=>rw[if_neg (by simp)];exact⟨ss,rfl,h2⟩
    |ret=>rw[if_neg (by simp)];exact⟨ss,rfl,h2⟩
  ·exact h.elim
  ·rename_i X shape next J m inner _
   obtain⟨⟨h0,hx⟩,hstep⟩:=h
   refine VW.loop_inv (fun k s=>∃x,s=(shape x).g∧J x∧m x=k) ?_ (m (next st)) _ ⟨next st,sameSt_g h0,hx,rfl⟩
   rintro k s ⟨x,rfl,hj,rfl⟩
   refine(ih (hstep x hj)).mono ?_
   rintro out s ⟨ss,rfl,h2⟩
   cases out with
   |norm=>
    rw[if_pos rfl]
    obtain⟨h3,h4,h5⟩:=h2
    refine⟨_,h5,_,?_,h4,rfl⟩
    have h6:=sameSt_g h3
    rw[←h6,trimS_g,show(shape x).o.length=(shape x).g.o.length from by simp[SSt.g,gO_len]]
   |exit id=>rw[if_neg (by simp)];exact⟨ss,rfl,h2⟩
   |ret=>rw[if_neg (by simp)];exact⟨ss,rfl,h2⟩
theorem resK_go {st:SSt}:∀{rs:List IRes} {K:List SV→Prop},resK.goK st rs K→∃l,rs.mapM (resA st.g)=some (gL l)∧K l
 |[],K,h=>⟨[],by simp[gL],h⟩
 |r::rs,K,h=>by
  simp only[resK.goK] at h
  have h1:∃v,resA st.g r=some v.g∧resK.goK st rs fun l=>K (v::l):=by
   unfold resK.oneK at h
   unfold resA
   split at h
   ·rename_i hc
    rw[hc]
    exact⟨_,by simp only[SSt.g,getS_g],h⟩
   ·rename_i n hc
    rw[hc]
    obtain⟨cs,off,v,h2,h3,h4⟩:=loadK_sound h
    refine⟨v,?_,h4⟩
    simp only[SSt.g,getS_g,h2,h3]
  obtain⟨v,h2,h3⟩:=h1
  obtain⟨l,h4,h5⟩:=resK_go h3
  exact⟨v::l,by simp[List.mapM_cons,h2,h4,gL],h5⟩
theorem resK_sound {st:SSt} {rs:List IRes} {K:SV→Prop} (h:resK st rs K):∃r,resultsA st.g rs=some r.g∧K r:=by
 unfold resK at h
 obtain⟨l,h1,h2⟩:=resK_go h
 unfold resultsA
 rw[h1]
 match l,h2 with
 |[],h2=>exact⟨_,rfl,h2⟩
 |[v],h2=>exact⟨v,rfl,h2⟩
 |v::w::l,h2=>exact⟨_,rfl,h2⟩
theorem bindS_g:∀(i:Nat) (args:List SV),gE (bindS i args)=bindArgs i (gL args)
 |_,[]=>rfl
 |i,v::vs=>by
  have:=bindS_g (i+1) vs
  simp only[gE] at this
  simp only[bindS,gE,List.map_cons,gL,bindArgs,this]
mutual
theorem noY_g:∀(v:SV),v.noY=true→v.g.noY=true
 | .agg cs,h=>by simp only[SV.noY,SV.g,AV.noY] at h ⊢;exact noYS_g cs h
 | .tup cs,h=>by simp only[SV.noY,SV.g,AV.noY] at h ⊢;exact noYS_g cs h
 | .fn f a b,h=>by
  cases f<;>simp only[SV.noY,Bool.and_eq_true,Bool.false_eq_true] at h<;>simp only[SV.g,AV.noY,Bool.and_eq_true]<;>first|exact⟨noYS_g a h.1,noYS_g b h.2⟩|exact h.elim
 | .ud,_| .sc _,_| .si ..,_| .il ..,_| .sb _,_| .bl _,_| .row ..,_| .ep ..,_| .ptr ..,_| .ap ..,_| .rp ..,_| .ow ..,_| .os ..,_| .oc ..,_| .mp _,_=>by simp[SV.g,AV.noY]
theorem noYS_g:∀(l:List SV),noYS l=true→noYL (gL l)=true
 |[],_=>by simp[gL,noYL]
 |c::cs,h=>by
  simp only[noYS,Bool.and_eq_true] at h
  simp only[gL,noYL,Bool.and_eq_true]
  exact⟨noY_g c h.1,noYS_g cs h.2⟩
end
theorem noYL_of:∀{l:List AV},(∀a∈l,a.noY=true)→noYL l=true
 |[],_=>rfl
 |c::cs,h=>by
  simp only[noYL,Bool.and_eq_true]
  exact⟨h c (by simp),noYL_of fun a ha=>h a (by simp[ha])⟩
theorem onoY_g {x:SObj} (h:x.noY=true):x.g.noY=true:=by
 cases x with
 |dead=>rfl
 |cells cs e sz pu=>
  simp only[SObj.noY,Bool.or_eq_true] at h
  simp only[SObj.g,AObj.noY,Bool.or_eq_true]
  exact h.imp id (noYS_g cs)
 |row s l e pu=>
  simp only[SObj.g,AObj.noY,Bool.or_eq_true]
  exact .inr (noYL_of fun a ha=>pure_noY a (flatA_plain ha).pure)
 |map k v ka es kt pu=>
  simp only[SObj.g,AObj.noY,Bool.or_eq_true]
  refine .inr (noYL_of fun a ha=>?_)
  simp only[List.map_map,List.mem_map] at ha
  obtain⟨q,_,rfl⟩:=ha
  simp[valA,AV.noY]
theorem bindPS_g:∀(ps:List Nat) (vs:List SV) (env:SEnv),gE (bindPS ps vs env)=bindPs ps (gL vs) (gE env)
 |[],[],_=>rfl
 |[],_::_,_=>rfl
 |_::_,[],_=>rfl
 |p::ps,v::vs,env=>by
  simp only[bindPS,gL,bindPs]
  rw[bindPS_g ps vs]
  rfl
theorem roundK_sound (hC:SCallsOK T.K p.C) {ps:List Nat} {as bd:IR} {Λ:Nat→LoopAnn} {env:SEnv} {vs:List SV} {o:SStore} {K:SV→SStore→Prop} (h:roundK p ps as bd Λ env vs o K):
  ∃(r:SV) (o':SStore),(∃N,∀m,N≤m→roundY T ps as bd (gE env) m (gL vs) (gO o)=some (r.g,gO o'))∧K r o':=by
 unfold roundK at h
 split at h
 ·rename_i hlen
  have w1:=wpG_sound (T:=T) (md:=fun _=> .round) hC (Y:=none) (fun _=> .inr rfl) (fun _ _ _ _ _ _ _ h=>h.elim) h
  obtain⟨out1,s1,⟨N1,e1⟩,ss1,rfl,q1⟩:=w1
  cases out1 with
  |exit id=>exact q1.elim
  |ret=>exact q1.elim
  |norm=>
   have w2:=wpG_sound (T:=T) (md:=fun _=> .round) hC (Y:=none) (fun _=> .inr rfl) (fun _ _ _ _ _ _ _ h=>h.elim) q1
   obtain⟨out2,s2,⟨N2,e2⟩,ss2,rfl,q2⟩:=w2
   cases out2 with
   |exit id=>exact q2.elim
   |ret=>exact q2.elim
   |norm=>
    refine⟨_,_,⟨N1+N2,fun m hm=>?_⟩,q2⟩
    have e1:=e1 m m (by omega) (by omega)
    have e2:=e2 m m (by omega) (by omega)
    simp only[SSt.g,bindPS_g] at e1 e2
    unfold roundY
    rw[if_pos (by rw[gL_len];exact hlen),gO_len,e1]
    simp only
    rw[gO_len,e2]
    simp only
    have:=trimS_g o.length ⟨[],ss2.o⟩
    have e3:(trim o.length ⟨[],gO ss2.o⟩).o=gO (trimS o.length ⟨[],ss2.o⟩).o:=by
     have h4:(SSt.mk [] ss2.o).g=⟨[],gO ss2.o⟩:=rfl
     rw[←h4,←this]
     rfl
    rw[e3]
    rfl
 ·exact h.elim
theorem eachK_sound (hC:SCallsOK T.K p.C) (hI:∀f F,p.it f=some F→T.fn f=some F) {x:Operand} {ps:List Nat} {as bd:IR} {Λ:Nat→LoopAnn} {st:SSt} {Q:Out→SSt→Prop} (h:eachK p x ps as bd Λ st Q):
  VW T plainM lo (.each x ps as bd) st.g fun out s=>∃ss,s=ss.g∧Q out ss:=by
 unfold eachK at h
 split at h
 ·rename_i f first captured hx
  split at h
  ·rename_i F hF
   split at h
   ·rename_i hc
    have hxa:evA st.g.env x= .fn (.func f) (gL first) (gL captured):=by
     show evA (gE st.env) x=_
     rw[evS_g,hx];rfl
    refine VW.each hxa (hI f F hF) (by rw[gL_len,gL_len];exact hc.1) ?_ ?_ ?_
    ·rw[List.all_eq_true]
     intro q hq
     simp only[SSt.g,gE,List.mem_map] at hq
     obtain⟨q0,h0,rfl⟩:=hq
     exact noY_g _ (List.all_eq_true.1 hc.2.1 q0 h0)
    ·rw[List.all_eq_true]
     intro q hq
     simp only[SSt.g,gO,List.mem_map] at hq
     obtain⟨q0,h0,rfl⟩:=hq
     exact onoY_g (List.all_eq_true.1 hc.2.2 q0 h0)
    ·have w:=wpG_sound (T:=T) (md:=fun m=> .iter (roundY T ps as bd (gE st.env) m)) hC (Y:=some (roundK p ps as bd Λ st.env)) ⟨_,rfl,fun vs o K hk=>roundK_sound hC hk⟩ (fun _ _ _ _ _ _ _ h=>h.elim) h
     have hst:(SSt.mk (bindS 0 (first++[.fn (.yield 0) [] []]++captured)) st.o).g=⟨bindArgs 0 (gL first++[.fn (.yield 0) [] []]++gL captured),st.g.o⟩:=by
      simp only[SSt.g,bindS_g,gL_map,List.map_append]
      simp[SV.g,gL]
     rw[hst] at w
     have hol:st.g.o.length=st.o.length:=gO_len st.o
     rw[hol]
     refine w.mono ?_
     rintro out s ⟨ss,rfl,hq⟩
     have fin:∀(ss:SSt),(resK ss F.res fun r=>if r.bel st.o.length&&ss.o.all (fun x=>x.bel st.o.length)&&decide (st.o.length≤ss.o.length)&&(ss.o.take st.o.length).all SObj.noY then Q .norm ⟨st.env,ss.o.take st.o.length⟩ else False)→
       ∃r r' o',resultsA ss.g F.res=some r∧finishOwn st.o.length r ss.g.o=some (r',o')∧o'.all AObj.noY=true∧∃s1:SSt,(⟨st.g.env,o'⟩:St)=s1.g∧Q .norm s1:=by
      intro ss hq
      obtain⟨r0,h1,h2⟩:=resK_sound hq
      split at h2
      ·rename_i hcc
       simp only[Bool.and_eq_true,decide_eq_true_eq,List.all_eq_true] at hcc
       obtain⟨⟨⟨hc1,hc2⟩,hc3⟩,hc4⟩:=hcc
       have hob:∀x∈ss.g.o,x.bel st.o.length=true:=by
        intro x hx
        simp only[SSt.g,gO,List.mem_map] at hx
        obtain⟨y,hy,rfl⟩:=hx
        rw[obel_g]
        exact hc2 y hy
       refine⟨r0.g,r0.g,ss.g.o.take st.o.length,h1,finishOwn_bel (by rw[bel_g];exact hc1) hob (by simp only[SSt.g,gO_len];exact hc3),?_,_,?_,h2⟩
       ·rw[List.all_eq_true]
        intro q hq
        simp only[SSt.g,gO,←List.map_take,List.mem_map] at hq
        obtain⟨q0,h0,rfl⟩:=hq
        exact onoY_g (hc4 q0 h0)
       ·simp only[SSt.g,gO,List.map_take]
      ·exact h2.elim
     cases out with
     |exit id=>exact hq.elim
     |norm=>exact⟨.inl rfl,fin ss hq⟩
     |ret=>exact⟨.inr rfl,fin ss hq⟩
   ·exact h.elim
  ·exact h.elim
 ·exact h.elim
theorem wpS_sound (hC:SCallsOK T.K p.C) (hI:∀f F,p.it f=some F→T.fn f=some F) {c:IR} {Λ:Nat→LoopAnn} {st:SSt} {Q:Out→SSt→Prop} (h:wpS p lo c Λ st Q):VW T plainM lo c st.g fun out s=>∃ss,s=ss.g∧Q out ss:=
 wpG_sound hC (Y:=none) (fun _=> .inl rfl) (fun _ _ _ _ _ _ _ h=>eachK_sound hC hI h) h
theorem fnK_sound {Λ:Nat→LoopAnn} {P:Program} (hT:TabOK P T) (hC:SCallsOK T.K p.C) (hI:∀f F,p.it f=some F→T.fn f=some F) {f:FuncId} {F:IFn} (hF:T.fn f=some F) {args:List SV} {r:AV} (hK:T.K f (gL args) [] false=none) (hlen:args.length=F.params)
  (h:fnK p Λ F args fun v=>v.g=r):goodF P f=true∧CallO P f (gL args) [] r []:=by
 unfold fnK at h
 have hw:=wpS_sound hC hI h
 have hst:(SSt.mk (bindS 0 args) []).g=⟨bindArgs 0 (gL args),[]⟩:=by simp[SSt.g,bindS_g,gO]
 rw[hst] at hw
 obtain⟨h1,h2,_⟩:=call_of_vw hT hF (o:=[]) (own:=false) hK (by rw[gL_len];exact hlen) (v:=r) (o':=[]) (hw.mono fun out s hs=>by
  obtain⟨ss,rfl,hq⟩:=hs
  cases out with
  |exit id=>exact hq.elim
  |norm=>
   obtain⟨r0,h1,h2⟩:=resK_sound hq
   obtain⟨v,h3,h4⟩:=frzK_sound h2
   refine⟨.inl rfl,?_⟩
   rw[h1]
   show finish false 0 r0.g ss.g.o=_
   have:freeze ss.g.o 6 r0.g=some v.g:=h3
   simp[finish,this,h4]
  |ret=>
   obtain⟨r0,h1,h2⟩:=resK_sound hq
   obtain⟨v,h3,h4⟩:=frzK_sound h2
   refine⟨.inr rfl,?_⟩
   rw[h1]
   show finish false 0 r0.g ss.g.o=_
   have:freeze ss.g.o 6 r0.g=some v.g:=h3
   simp[finish,this,h4])
 exact⟨h1,h2⟩
end
structure Cod (α:Type) where
 put:α→SV
 dec:SV→Option α
 ok:∀v a,dec v=some a→v.g=(put a).g
 inj:∀a b,(put a).g=(put b).g→a=b
structure ACod (α:Type) where
 put:α→List SV
 dec:List SV→Option α
 ok:∀v a,dec v=some a→gL v=gL (put a)
 inj:∀a b,gL (put a)=gL (put b)→a=b
def ACod.one {α:Type} (c:Cod α):ACod α where
 put a:=[c.put a]
 dec
  |[v]=>c.dec v
  |_=>none
 ok v a h:=by
  match v,h with
  |[v],h=>simp only[gL,c.ok v a h]
 inj a b h:=by
  simp only[gL,List.cons.injEq,and_true] at h
  exact c.inj a b h
def ACod.cons {α β:Type} (c:Cod α) (d:ACod β):ACod (α×β) where
 put a:=c.put a.1::d.put a.2
 dec
  |v::vs=>match c.dec v,d.dec vs with
   |some a,some b=>some (a,b)
   |_,_=>none
  |[]=>none
 ok v a h:=by
  match v,h with
  |v::vs,h=>
   simp only at h
   split at h
   ·rename_i x y h1 h2
    simp only[Option.some.injEq] at h;subst h
    simp only[gL,c.ok v x h1,d.ok vs y h2]
   ·cases h
 inj a b h:=by
  simp only[gL,List.cons.injEq] at h
  exact Prod.ext (c.inj _ _ h.1) (d.inj _ _ h.2)
def ACod.nil:ACod Unit where
 put _:=[]
 dec
  |[]=>some ()
  |_=>none
 ok v a h:=by
  match v,h with
  |[],h=>rfl
 inj a b h:=rfl
structure SCtr where
 f:FuncId
 α:Type
 A:ACod α
 dom:α→Prop
 res:α→SV
def Holds (P:Program) (c:SCtr):Prop:=∀a,c.dom a→goodF P c.f=true∧CallO P c.f (gL (c.A.put a)) [] (c.res a).g []
def findC (f:FuncId):List SCtr→Option SCtr
 |[]=>none
 |c::r=>bif Nat.beq c.f f then some c else findC f r
def pureK (L:List SCtr) (f:FuncId) (args:List SV) (K:SV→Prop):Prop:=
 match findC f L with
 |some c=>optK (c.A.dec args) fun a=>c.dom a∧K (c.res a)
 |none=>False
structure OwnT where
 K:FuncId→List AV→Store→Option (AV×Store)
 C:FuncId→List SV→SStore→(SV→SStore→Prop)→Prop
def OwnT.none:OwnT:=⟨fun _ _ _=> .none,fun _ _ _ _=>False⟩
noncomputable def tabK (L:List SCtr) (W:OwnT):Oracle:=fun f args o own=>
 if own then W.K f args o
 else match o with
  |[]=>match findC f L with
   |some c=>(ans (fun a=>gL (c.A.put a)) c.dom (fun a=>(c.res a).g) args).map fun v=>(v,[])
   |none=> .none
  |_=> .none
noncomputable def tabL (fn:FuncId→Option IFn) (L:List SCtr) (W:OwnT):Tab:=⟨fn,tabK L W⟩
structure OwnOK (P:Program) (W:OwnT):Prop where
 K:∀f args o r o',W.K f args o=some (r,o')→goodF P f=true∧CallO P f args o r o'
 C:∀(call:Oracle),(∀f args o,call f args o true=W.K f args o)→∀f args o K,W.C f args o K→∃(r:SV) (o':SStore),callOwn call f (gL args) (gO o)=some (r.g,gO o')∧K r o'
theorem OwnOK.none (P:Program):OwnOK P OwnT.none where
 K:=fun _ _ _ _ _ h=>by cases h
 C:=fun _ _ _ _ _ _ h=>h.elim
theorem findC_f:∀{L:List SCtr} {f:FuncId} {c:SCtr},findC f L=some c→c.f=f∧c∈L
 |[],_,_,h=>by cases h
 |d::L,f,c,h=>by
  simp only[findC] at h
  cases hq:Nat.beq d.f f with
  |true=>
   rw[hq] at h
   simp only[cond_true,Option.some.injEq] at h
   subst h
   exact⟨Nat.eq_of_beq_eq_true hq,by simp⟩
  |false=>
   rw[hq] at h
   simp only[cond_false] at h
   obtain⟨h1,h2⟩:=findC_f h
   exact⟨h1,by simp[h2]⟩
variable {P:Program} {L:List SCtr} {W:OwnT} {fn:FuncId→Option IFn}
theorem tabL_ok (hW:OwnOK P W) (hL:∀c∈L,Holds P c) (h0:TabOK P ⟨fn,fun _ _ _ _=>none⟩):TabOK P (tabL fn L W) where
 fn:=h0.fn
 K:=fun g args o own r o' h=>by
  simp only[tabL,tabK] at h
  cases own with
  |true=>
   simp only[if_true] at h
   obtain⟨h1,h2⟩:=hW.K _ _ _ _ _ h
   exact⟨h1,h2,fun hh=>by cases hh⟩
  |false=>
   simp only[Bool.false_eq_true,if_false] at h
   split at h
   ·split at h
    ·rename_i c hc
     obtain⟨rfl,hm⟩:=findC_f hc
     obtain⟨v,hv,h2⟩:=Option.map_eq_some_iff.1 h
     simp only[Prod.mk.injEq] at h2
     obtain⟨rfl,rfl⟩:=h2
     obtain⟨a,rfl,hd,rfl⟩:=ans_some hv
     obtain⟨h3,h4⟩:=hL c hm a hd
     exact⟨h3,h4,fun _=>rfl⟩
    ·cases h
   ·cases h
theorem tabL_calls (hW:OwnOK P W):SCallsOK (tabL fn L W).K ⟨pureK L,W.C⟩ where
 pure:=fun f args K h=>by
  simp only[pureK] at h
  split at h
  ·rename_i c hc
   obtain⟨a,h1,h2,h3⟩:=optK_some h
   refine⟨c.res a,?_,h3⟩
   have:=c.A.ok _ _ h1
   simp only[tabL,tabK,Bool.false_eq_true,if_false,hc,this]
   rw[ans_eq (enc:=fun a=>gL (c.A.put a)) c.A.inj h2]
   rfl
  ·exact h.elim
 own:=fun f args o K h=>hW.C _ (fun f args o=>by simp[tabL,tabK]) f args o K h
theorem tabK_fresh {f:FuncId} {args:List AV} (h:findC f L=none):(tabL fn L W).K f args [] false=none:=by
 simp[tabL,tabK,h]
def parL (L:List SCtr) (W:OwnT) (ty:TypeId→Option SId) (mt:List Nat×Bool→Option (SId×SId)) (fn:FuncId→Option IFn):SPar:=⟨⟨pureK L,W.C⟩,ty,mt,fun _=>none,fn⟩
theorem holds_of (c:SCtr) {F:IFn} {ty:TypeId→Option SId} {mt:List Nat×Bool→Option (SId×SId)} {Λ:c.α→Nat→LoopAnn} (h0:TabOK P ⟨fn,fun _ _ _ _=>none⟩) (hW:OwnOK P W) (hL:∀c∈L,Holds P c)
  (hF:fn c.f=some F) (hfr:findC c.f L=none) (hlen:∀a,(c.A.put a).length=F.params)
  (h:∀a,c.dom a→fnK (parL L W ty mt fn) (Λ a) F (c.A.put a) fun v=>v.same (c.res a)):Holds P c:=by
 intro a hd
 exact fnK_sound (p:=parL L W ty mt fn) (Λ:=Λ a) (tabL_ok hW hL h0) (tabL_calls hW) (fun _ _ h=>h) hF (tabK_fresh hfr) (hlen a) (h a hd)
def codI (k:IntKind):Cod Int where
 put n:=.si k n
 dec v:=v.int k
 ok v a h:=by rw[int_g h];rfl
 inj a b h:=by simpa[SV.g] using h
def codB:Cod Bool where
 put b:=.sb b
 dec v:=v.boo
 ok v a h:=by rw[boo_g h];rfl
 inj a b h:=by simpa[SV.g] using h
theorem encV_inj:(s:SId)→(x y:s.T)→encV s x=encV s y→(hf:s.flat=true:=by rfl)→x=y
 | .i k,x,y,h,_=>by simpa[encV] using h
 | .b,x,y,h,_=>by simpa[encV] using h
 | .bun,⟨a0,a1,a2,a3,a4,a5⟩,⟨b0,b1,b2,b3,b4,b5⟩,h,_=>by
  simp only[encV,iv,List.cons.injEq,Value.int.injEq,true_and,and_true] at h
  simp only[Bun.mk.injEq]
  exact h
 | .off,⟨b,⟨a0,a1,a2,a3,a4,a5⟩,v⟩,⟨c,⟨b0,b1,b2,b3,b4,b5⟩,w⟩,h,_=>by
  simp only[encV,iv,List.cons.injEq,Value.int.injEq,true_and,and_true] at h
  simp only[Off.mk.injEq,Bun.mk.injEq]
  simp[h]
 | .need,⟨a,b⟩,⟨c,d⟩,h,_=>by
  simp only[encV,iv,List.cons.injEq,Value.int.injEq,true_and,and_true] at h
  simp[h]
 | .key,⟨b,⟨a0,a1,a2,a3,a4,a5⟩⟩,⟨c,⟨b0,b1,b2,b3,b4,b5⟩⟩,h,_=>by
  simp only[encV,iv,List.cons.injEq,Value.int.injEq,true_and,and_true] at h
  simp only[BKey.mk.injEq,Bun.mk.injEq]
  simp[h]
 | .sit,⟨m,⟨a0,a1,a2,a3,a4,a5⟩,⟨c0,c1,c2,c3,c4,c5⟩⟩,⟨n,⟨b0,b1,b2,b3,b4,b5⟩,⟨d0,d1,d2,d3,d4,d5⟩⟩,h,_=>by
  simp only[encV,iv,List.cons.injEq,Value.int.injEq,true_and,and_true] at h
  simp only[Sit.mk.injEq,Bun.mk.injEq]
  simp[h]
 | .lst _,_,_,_,hf=>by simp[SId.flat] at hf
 | .pair s t,(a,b),(c,d),h,hf=>by
  simp only[SId.flat,Bool.and_eq_true] at hf
  simp only[encV] at h
  obtain⟨h1,h2⟩:=List.append_inj h (by rw[encV_len,encV_len])
  rw[encV_inj s a c h1 hf.1,encV_inj t b d h2 hf.2]
theorem flatMap_inj {α β:Type} {n:Nat} {f:α→List β} (hn:∀x,(f x).length=n) (hf:∀x y,f x=f y→x=y):∀{l m:List α},l.length=m.length→l.flatMap f=m.flatMap f→l=m
 |[],[],_,_=>rfl
 |[],_::_,h,_=>by simp at h
 |_::_,[],h,_=>by simp at h
 |x::l,y::m,hl,h=>by
  simp only[List.flatMap_cons] at h
  obtain⟨h1,h2⟩:=List.append_inj h (by rw[hn,hn])
  simp only[List.length_cons,Nat.add_right_cancel_iff] at hl
  rw[hf x y h1,flatMap_inj hn hf hl h2]
theorem encA_inj:(s:SId)→(x y:s.T)→(h:encA s x=encA s y)→x=y
 | .lst s,x,y,h=>by
  simp only[encA,List.cons.injEq,AV.sl.injEq,and_true] at h
  exact flatMap_inj (encA_len s) (encA_inj s) h.1 h.2
 | .pair s t,(a,b),(c,d),h=>by
  simp only[encA] at h
  obtain⟨h1,h2⟩:=List.append_inj h (by rw[encA_len,encA_len])
  rw[encA_inj s a c h1,encA_inj t b d h2]
 | .i k,x,y,h=>encV_inj (.i k) x y (map_sc_inj h)
 | .b,x,y,h=>encV_inj .b x y (map_sc_inj h)
 | .bun,x,y,h=>encV_inj .bun x y (map_sc_inj h)
 | .off,x,y,h=>encV_inj .off x y (map_sc_inj h)
 | .need,x,y,h=>encV_inj .need x y (map_sc_inj h)
 | .key,x,y,h=>encV_inj .key x y (map_sc_inj h)
 | .sit,x,y,h=>encV_inj .sit x y (map_sc_inj h)
theorem flatA_inj (s:SId) {l m:List s.T} (hl:l.length=m.length) (h:flatA s l=flatA s m):l=m:=
 flatMap_inj (encA_len s) (encA_inj s) hl h
def codE (s:SId):Cod s.T where
 put x:=.agg (encS s x)
 dec
  | .agg cs=>decS s cs
  |_=>none
 ok v a h:=by
  match v,h with
  | .agg cs,h=>simp only at h;simp only[SV.g,gL_map,decS_g h,encS_g]
 inj a b h:=by
  simp only[SV.g,gL_map,encS_g,AV.agg.injEq] at h
  exact encA_inj s a b h
theorem decRow_ok {s:SId} {v:SV} {l:List s.T} (h:decRow s v=some l):v.g=(SV.row s l).g:=by
 cases v<;>simp only[decRow,reduceCtorEq] at h
 rename_i s' l'
 split at h
 ·rename_i l2 hc
  simp only[Option.some.injEq] at h;subst h
  obtain⟨rfl,h2,h3⟩:=castL_flat hc
  simp only[SV.g,h2,h3]
 ·split at h
  ·simp only[Option.some.injEq] at h;subst h
   simp[SV.g,flatA]
  ·cases h
def codR (s:SId):Cod (List s.T) where
 put l:=.row s l
 dec:=decRow s
 ok v a h:=decRow_ok h
 inj a b h:=by
  simp only[SV.g,AV.sl.injEq] at h
  exact flatA_inj s h.1 h.2
structure Prob where
 supply:Bun
 opn:Bun
 cls:Bun
 classes:List Int
 offers:List Off
structure Alloc where
 chosen:List Int
 value:Int
def Bun.ss (b:Bun):List SV:=[.si .i64 b.a0,.si .i64 b.a1,.si .i64 b.a2,.si .i64 b.a3,.si .i64 b.a4,.si .i64 b.a5]
def Prob.ss (p:Prob):List SV:=
 [.si .i64 p.supply.a0,.si .i64 p.supply.a1,.si .i64 p.supply.a2,.si .i64 p.supply.a3,.si .i64 p.supply.a4,.si .i64 p.supply.a5,
  .si .i64 p.opn.a0,.si .i64 p.opn.a1,.si .i64 p.opn.a2,.si .i64 p.opn.a3,.si .i64 p.opn.a4,.si .i64 p.opn.a5,
  .si .i64 p.cls.a0,.si .i64 p.cls.a1,.si .i64 p.cls.a2,.si .i64 p.cls.a3,.si .i64 p.cls.a4,.si .i64 p.cls.a5,
  .row (.i .i64) p.classes,.row .off p.offers]
def decProb:List SV→Option Prob
 |[s0,s1,s2,s3,s4,s5,o0,o1,o2,o3,o4,o5,c0,c1,c2,c3,c4,c5,k,f]=>match decS .bun [s0,s1,s2,s3,s4,s5],decS .bun [o0,o1,o2,o3,o4,o5],decS .bun [c0,c1,c2,c3,c4,c5],decRow (.i .i64) k,decRow .off f with
  |some s,some o,some c,some k,some f=>some ⟨s,o,c,k,f⟩
  |_,_,_,_,_=>none
 |_=>none
theorem decProb_ok {cs:List SV} {p:Prob} (h:decProb cs=some p):gL cs=gL p.ss:=by
 unfold decProb at h
 split at h
 ·split at h
  ·rename_i s o c k f h1 h2 h3 h4 h5
   simp only[Option.some.injEq] at h;subst h
   have h1:=decS_g h1
   have h2:=decS_g h2
   have h3:=decS_g h3
   have h4:=decRow_ok h4
   have h5:=decRow_ok h5
   simp only[List.map_cons,List.map_nil,encA,encV,List.cons.injEq,and_true] at h1 h2 h3
   simp only[Prob.ss,gL,List.cons.injEq,and_true,h4,h5]
   simp only[h1,h2,h3,SV.g,iv,and_self]
  ·cases h
 ·cases h
def codP:Cod Prob where
 put p:=.agg p.ss
 dec
  | .agg cs=>decProb cs
  |_=>none
 ok v a h:=by
  match v,h with
  | .agg cs,h=>simp only at h;simp only[SV.g,decProb_ok h]
 inj a b h:=by
  obtain⟨⟨a0,a1,a2,a3,a4,a5⟩,⟨b0,b1,b2,b3,b4,b5⟩,⟨c0,c1,c2,c3,c4,c5⟩,k,f⟩:=a
  obtain⟨⟨d0,d1,d2,d3,d4,d5⟩,⟨e0,e1,e2,e3,e4,e5⟩,⟨f0,f1,f2,f3,f4,f5⟩,k',f'⟩:=b
  simp only[SV.g,Prob.ss,gL,AV.agg.injEq,List.cons.injEq,and_true,AV.sc.injEq,Value.int.injEq,true_and,AV.sl.injEq] at h
  obtain⟨h0,h1,h2,h3,h4,h5,g0,g1,g2,g3,g4,g5,k0,k1,k2,k3,k4,k5,m,n⟩:=h
  have m2:=flatA_inj (.i .i64) m.1 m.2
  have n2:=flatA_inj .off n.1 n.2
  simp only[Prob.mk.injEq,Bun.mk.injEq]
  exact⟨⟨h0,h1,h2,h3,h4,h5⟩,⟨g0,g1,g2,g3,g4,g5⟩,⟨k0,k1,k2,k3,k4,k5⟩,m2,n2⟩
def codA:Cod Alloc where
 put a:=.agg [.row (.i .i64) a.chosen,.si .i64 a.value]
 dec
  | .agg [r,v]=>match decRow (.i .i64) r,v.int .i64 with
   |some c,some v=>some ⟨c,v⟩
   |_,_=>none
  |_=>none
 ok v a h:=by
  split at h
  ·split at h
   ·rename_i h1 h2
    simp only[Option.some.injEq] at h;subst h
    simp only[SV.g,gL,decRow_ok h1,int_g h2]
   ·cases h
  ·cases h
 inj a b h:=by
  obtain⟨c,v⟩:=a
  obtain⟨c',v'⟩:=b
  simp only[SV.g,gL,AV.agg.injEq,List.cons.injEq,and_true,AV.sc.injEq,Value.int.injEq,true_and,AV.sl.injEq] at h
  have m2:=flatA_inj (.i .i64) h.1.1 h.1.2
  rw[m2,h.2]
def tyN:TypeId→Option SId
 |2=>some (.i .i64)
 |3=>some (.i .i64)
 |24=>some (.lst (.i .i64))
 |109=>some (.i .u32)
 |34=>some (.pair (.lst (.i .i64)) (.i .i64))
 |45=>some .off
 |_=>none
def mtN:List Nat×Bool→Option (SId×SId)
 |([0,0,0,0,0,0,0],true)=>some (.key,.b)
 |([0,0,0,0,0,0,0,0,0,0,0,0,0],true)=>some (.sit,.i .i64)
 |_=>none
mutual
def SV.ren (m:Nat→Option Nat):SV→Option SV
 | .agg cs=>(renLS m cs).map .agg
 | .tup cs=>(renLS m cs).map .tup
 | .ptr id off tot=>(m id).map fun i=> .ptr i off tot
 | .ap id a b c d e=>(m id).map fun i=> .ap i a b c d e
 | .rp id a b c d=>(m id).map fun i=> .rp i a b c d
 | .ow id n sz=>(m id).map fun i=> .ow i n sz
 | .os id a b c d=>(m id).map fun i=> .os i a b c d
 | .oc id a b c d=>(m id).map fun i=> .oc i a b c d
 | .mp id=>(m id).map .mp
 | .fn f a b=>match renLS m a,renLS m b with
  |some a',some b'=>some (.fn f a' b')
  |_,_=>none
 | .ud=>some .ud
 | .sc v=>some (.sc v)
 | .il k n=>some (.il k n)
 | .si k n=>some (.si k n)
 | .bl b=>some (.bl b)
 | .sb b=>some (.sb b)
 | .row s l=>some (.row s l)
 | .ep s l i o=>some (.ep s l i o)
def renLS (m:Nat→Option Nat):List SV→Option (List SV)
 |[]=>some []
 |c::cs=>match c.ren m,renLS m cs with
  |some c',some cs'=>some (c'::cs')
  |_,_=>none
end
mutual
theorem ren_g {m:Nat→Option Nat}:∀{v v':SV},v.ren m=some v'→v.g.ren m=some v'.g
 | .agg cs,v',h=>by
  simp only[SV.ren] at h
  obtain⟨cs',h1,rfl⟩:=Option.map_eq_some_iff.1 h
  simp only[SV.g,AV.ren,renLS_g h1,Option.map_some]
 | .tup cs,v',h=>by
  simp only[SV.ren] at h
  obtain⟨cs',h1,rfl⟩:=Option.map_eq_some_iff.1 h
  simp only[SV.g,AV.ren,renLS_g h1,Option.map_some]
 | .fn f a b,v',h=>by
  simp only[SV.ren] at h
  split at h
  ·rename_i a' b' h1 h2
   simp only[Option.some.injEq] at h;subst h
   simp only[SV.g,AV.ren,renLS_g h1,renLS_g h2]
  ·cases h
 | .ptr id _ _,v',h| .ap id _ _ _ _ _,v',h| .rp id _ _ _ _,v',h| .ow id _ _,v',h| .os id _ _ _ _,v',h| .oc id _ _ _ _,v',h| .mp id,v',h=>by
  simp only[SV.ren] at h
  obtain⟨i,h1,rfl⟩:=Option.map_eq_some_iff.1 h
  simp only[SV.g,AV.ren,h1,Option.map_some]
 | .ud,v',h| .sc _,v',h| .il _ _,v',h| .si _ _,v',h| .bl _,v',h| .sb _,v',h| .row _ _,v',h| .ep _ _ _ _,v',h=>by
  simp only[SV.ren,Option.some.injEq] at h
  subst h
  simp only[SV.g,AV.ren]
theorem renLS_g {m:Nat→Option Nat}:∀{l l':List SV},renLS m l=some l'→renL m (gL l)=some (gL l')
 |[],l',h=>by simp[renLS] at h;subst h;simp[gL,renL]
 |c::cs,l',h=>by
  simp only[renLS] at h
  split at h
  ·rename_i c' cs' h1 h2
   simp only[Option.some.injEq] at h;subst h
   simp only[gL,renL,ren_g h1,renLS_g h2]
  ·cases h
end
def SObj.ren (m:Nat→Option Nat):SObj→Option SObj
 | .cells cs e sz pu=>if pu then some (.cells cs e sz pu) else(renLS m cs).map fun cs'=> .cells cs' e sz pu
 | .dead=>some .dead
 | .row s l e pu=>some (.row s l e pu)
 | .map sk sv ka es kt pu=>some (.map sk sv ka es kt pu)
theorem renL_plain {m:Nat→Option Nat}:∀{l:List AV},(∀a∈l,Plain a)→renL m l=some l
 |[],_=>by simp[renL]
 |a::cs,h=>by
  have ih:=renL_plain (m:=m) (l:=cs) fun b hb=>h b (by simp[hb])
  rcases h a (by simp) with⟨v,rfl,_⟩|⟨n,ds,rfl,_⟩<;>simp only[renL,AV.ren,ih]
theorem renL_sc {m:Nat→Option Nat}:∀{l:List AV},(∀a∈l,∃v,a= .sc v)→renL m l=some l
 |[],_=>by simp[renL]
 |c::cs,h=>by
  obtain⟨v,rfl⟩:=h c (by simp)
  simp only[renL,AV.ren,renL_sc (l:=cs) fun a ha=>h a (by simp[ha])]
theorem renM_sc {m:Nat→Option Nat}:∀{l:List (Value×AV)},(∀a∈l,∃v,a.2= .sc v)→renM m l=some l
 |[],_=>by simp[renM]
 |(k,c)::cs,h=>by
  obtain⟨v,hv⟩:=h (k,c) (by simp)
  simp only at hv
  subst hv
  simp only[renM,AV.ren,renM_sc (l:=cs) fun a ha=>h a (by simp[ha])]
theorem mapA_sc {sk sv:SId} {ka:Bool} {es:List (sk.T×sv.T)}:∀a∈es.map (fun p=>(keyV sk ka p.1,valA sv p.2)),∃v,a.2= .sc v:=fun a ha=>by
 obtain⟨q,_,rfl⟩:=List.mem_map.1 ha
 exact⟨_,rfl⟩
theorem oren_g {m:Nat→Option Nat} {x y:SObj} (h:x.ren m=some y):x.g.ren m=some y.g:=by
 cases x with
 |dead=>simp[SObj.ren] at h;subst h;rfl
 |cells cs e sz pu=>
  simp only[SObj.ren] at h
  cases pu with
  |true=>simp only[if_true,Option.some.injEq] at h;subst h;simp only[SObj.g,AObj.ren,if_true]
  |false=>
   simp only[Bool.false_eq_true,if_false] at h
   obtain⟨cs',h1,rfl⟩:=Option.map_eq_some_iff.1 h
   simp only[SObj.g,AObj.ren,Bool.false_eq_true,if_false,renLS_g h1,Option.map_some]
 |row s l e pu=>
  simp only[SObj.ren,Option.some.injEq] at h;subst h
  simp only[SObj.g,AObj.ren,renL_plain (fun a ha=>flatA_plain ha),Option.map_some]
  cases pu<;>rfl
 |map sk sv ka es kt pu=>
  simp only[SObj.ren,Option.some.injEq] at h;subst h
  simp only[SObj.g,AObj.ren,renM_sc mapA_sc,Option.map_some]
  cases pu<;>rfl
def renSS (m:Nat→Option Nat):SStore→Option SStore
 |[]=>some []
 |x::r=>match x.ren m,renSS m r with
  |some y,some l=>some (y::l)
  |_,_=>none
theorem renSS_g {m:Nat→Option Nat}:∀{o o':SStore},renSS m o=some o'→renS m (gO o)=some (gO o')
 |[],o',h=>by simp[renSS] at h;subst h;rfl
 |x::r,o',h=>by
  simp only[renSS] at h
  split at h
  ·rename_i y l h1 h2
   simp only[Option.some.injEq] at h;subst h
   have:=renSS_g h2
   simp only[gO,List.map_cons] at this ⊢
   simp only[renS,oren_g h1,this]
  ·cases h
def subSS (o:SStore) (ids:List Nat):List Nat→Option SStore
 |[]=>some []
 |i::r=>match o[i]?,subSS o ids r with
  |some x,some l=>match x.ren (fun j=>idxOf ids j) with
   |some y=>some (y::l)
   |none=>none
  |_,_=>none
theorem subSS_g {o:SStore} {ids:List Nat}:∀{r:List Nat} {o':SStore},subSS o ids r=some o'→subStore (gO o) ids r=some (gO o')
 |[],o',h=>by simp[subSS] at h;subst h;rfl
 |i::r,o',h=>by
  simp only[subSS] at h
  split at h
  ·rename_i x l h1 h2
   split at h
   ·rename_i y hy
    simp only[Option.some.injEq] at h;subst h
    simp only[subStore,getI h1,subSS_g h2,oren_g hy,Option.map_some]
    rfl
   ·cases h
  ·cases h
def putSS (o:SStore):List Nat→SStore→SStore
 |[],_=>o
 |_,[]=>o
 |i::r,x::l=>putSS (o.set i x) r l
theorem putSS_g:∀{ids:List Nat} {o l:SStore},gO (putSS o ids l)=putBack (gO o) ids (gO l)
 |[],o,l=>by simp[putSS,putBack]
 |_::_,o,[]=>by simp[putSS,putBack,gO]
 |i::r,o,x::l=>by
  simp only[putSS]
  rw[putSS_g,gO_set]
  simp[gO,putBack]
def reachSS (o:SStore):Nat→List SV→List Nat→List Nat
 |0,_,acc=>acc
 |_,[],acc=>acc
 |d+1,v::vs,acc=>
  let visit (id:Nat) (acc:List Nat):List Nat:=
   if acc.contains id then acc else
   match o[id]? with
   |some (.cells cs _ _ pu)=>if pu then acc++[id] else reachSS o d cs (acc++[id])
   |_=>acc++[id]
  reachSS o d vs (match v with
   | .agg cs| .tup cs=>reachSS o d cs acc
   | .ptr id _ _| .ap id _ _ _ _ _| .rp id _ _ _ _| .ow id _ _| .os id _ _ _ _| .oc id _ _ _ _| .mp id=>visit id acc
   | .fn _ a b=>reachSS o d b (reachSS o d a acc)
   |_=>acc)
theorem reachF_plain {o:Store}:∀{d:Nat} {l:List AV} {acc:List Nat},(∀a∈l,Plain a)→reachF o d l acc=acc
 |0,_,_,_=>by unfold reachF;rfl
 |d+1,[],_,_=>by unfold reachF;rfl
 |d+1,a::l,acc,h=>by
  have ih:=reachF_plain (o:=o) (d:=d) (l:=l) (acc:=acc) fun b hb=>h b (by simp[hb])
  rcases h a (by simp) with⟨v,rfl,_⟩|⟨n,ds,rfl,_⟩<;>(unfold reachF;exact ih)
theorem reachF_sc {o:Store}:∀{d:Nat} {l:List AV} {acc:List Nat},(∀a∈l,∃v,a= .sc v)→reachF o d l acc=acc
 |0,_,_,_=>by simp[reachF]
 |d+1,[],_,_=>by simp[reachF]
 |d+1,a::l,acc,h=>by
  obtain⟨v,rfl⟩:=h a (by simp)
  simp only[reachF]
  exact reachF_sc fun a ha=>h a (by simp[ha])
theorem map_snd_sc {l:List (Value×AV)} (h:∀a∈l,∃v,a.2= .sc v):∀a∈l.map (·.2),∃v,a= .sc v:=fun a ha=>by
 obtain⟨q,hq,rfl⟩:=List.mem_map.1 ha
 exact h q hq
theorem reach_g {o:SStore}:∀{d:Nat} {vs:List SV} {acc:List Nat},reachF (gO o) d (gL vs) acc=reachSS o d vs acc:=by
 intro d
 induction d with
 |zero=>intro vs acc;simp[reachF,reachSS]
 |succ d ih=>
  intro vs acc
  cases vs with
  |nil=>simp[gL,reachF,reachSS]
  |cons v vs=>
   have hv:∀(id:Nat) (acc:List Nat),(if acc.contains id then acc else
     match(gO o)[id]? with
     |some (.cells cs _ _ pu)=>if pu then acc++[id] else reachF (gO o) d cs (acc++[id])
     |some (.map es _ pu)=>if pu then acc++[id] else reachF (gO o) d (es.map (·.2)) (acc++[id])
     |_=>acc++[id])=(if acc.contains id then acc else
     match o[id]? with
     |some (.cells cs _ _ pu)=>if pu then acc++[id] else reachSS o d cs (acc++[id])
     |_=>acc++[id]):=by
    intro id acc
    rw[gO_get]
    cases o[id]? with
    |none=>rfl
    |some x=>
     cases x with
     |dead=>rfl
     |cells cs e sz pu=>simp only[Option.map_some,SObj.g,ih]
     |row s l e pu=>simp only[Option.map_some,SObj.g,reachF_plain (fun a ha=>flatA_plain ha),ite_self]
     |map sk sv ka es kt pu=>simp only[Option.map_some,SObj.g,reachF_sc (map_snd_sc mapA_sc),ite_self]
   simp only[gL,reachF,reachSS]
   rw[ih]
   congr 1
   cases v<;>simp only[SV.g,ih]<;>exact hv _ _
def ownS (C:FuncId→List SV→SStore→(SV→SStore→Prop)→Prop) (f:FuncId) (args:List SV) (o:SStore) (K:SV→SStore→Prop):Prop:=
 let ids:=reachSS o reachD args []
 match renLS (fun j=>idxOf ids j) args,subSS o ids ids with
 |some args',some small=>C f args' small fun r small'=>
   if small'.length<ids.length∨callOwn.nodupN ids=false then False else
   match r.ren (backN ids o.length),renSS (backN ids o.length) small' with
   |some r',some big=>K r' (putSS o ids (big.take ids.length)++big.drop ids.length)
   |_,_=>False
 |_,_=>False
theorem ownS_sound {call:Oracle} {C:FuncId→List SV→SStore→(SV→SStore→Prop)→Prop}
  (hC:∀f args o K,C f args o K→∃(r:SV) (o':SStore),call f (gL args) (gO o) true=some (r.g,gO o')∧K r o')
  {f:FuncId} {args:List SV} {o:SStore} {K:SV→SStore→Prop} (h:ownS C f args o K):
  ∃(r:SV) (o':SStore),callOwn call f (gL args) (gO o)=some (r.g,gO o')∧K r o':=by
 unfold ownS at h
 simp only at h
 split at h
 ·rename_i args' small h1 h2
  obtain⟨r,small',h3,h4⟩:=hC _ _ _ _ h
  split at h4
  ·exact h4.elim
  ·rename_i hn
   split at h4
   ·rename_i r' big h5 h6
    refine⟨r',_,?_,h4⟩
    unfold callOwn
    simp only[reach_g]
    rw[renLS_g h1,subSS_g h2]
    simp only[h3,gO_len]
    rw[if_neg hn,ren_g h5,renSS_g h6]
    simp only[gO_app,putSS_g]
    simp[gO]
   ·exact h4.elim
 ·exact h.elim
section
variable {P:Program} {T:Tab} {p:SPar} {Λ:Nat→LoopAnn}
theorem fnOwnK_sound (hT:TabOK P T) (hC:SCallsOK T.K p.C) (hI:∀f F,p.it f=some F→T.fn f=some F) {f:FuncId} {F:IFn} (hF:T.fn f=some F) {args:List SV} {o:SStore} {r:AV} {o':Store} (hK:T.K f (gL args) (gO o) true=none) (hlen:args.length=F.params)
  {Q:SV→SStore→Prop} (hQ:∀v s,Q v s→v.g=r∧gO s=o') (h:fnOwnK p Λ F args o Q):goodF P f=true∧CallO P f (gL args) (gO o) r o':=by
 unfold fnOwnK at h
 have hw:=wpS_sound hC hI h
 have hst:(SSt.mk (bindS 0 args) o).g=⟨bindArgs 0 (gL args),gO o⟩:=by simp[SSt.g,bindS_g]
 rw[hst] at hw
 have hol:(gO o).length=o.length:=gO_len o
 rw[←hol] at hw
 have fin:∀(ss:SSt),(resK ss F.res fun v=>if v.bel (gO o).length&&ss.o.all (fun x=>x.bel (gO o).length)&&decide ((gO o).length≤ss.o.length) then Q v (ss.o.take (gO o).length) else False)→
   (resultsA ss.g F.res).bind (fun r0=>finish true (gO o).length r0 ss.g.o)=some (r,o'):=by
  intro ss hq
  obtain⟨r0,h1,h2⟩:=resK_sound hq
  rw[h1]
  simp only[Option.bind_some,finish,if_true]
  split at h2
  ·rename_i hc
   simp only[Bool.and_eq_true,decide_eq_true_eq,List.all_eq_true] at hc
   obtain⟨⟨hc1,hc2⟩,hc3⟩:=hc
   have hob:∀x∈ss.g.o,x.bel (gO o).length=true:=by
    intro x hx
    simp only[SSt.g,gO,List.mem_map] at hx
    obtain⟨y,hy,rfl⟩:=hx
    rw[obel_g]
    exact hc2 y hy
   rw[finishOwn_bel (by rw[bel_g];exact hc1) hob (by simp only[SSt.g,gO_len] at hc3 ⊢;exact hc3)]
   rw[←(hQ _ _ h2).1,←(hQ _ _ h2).2]
   simp only[SSt.g,gO,List.map_take]
  ·exact h2.elim
 obtain⟨h1,h2,_⟩:=call_of_vw hT hF (o:=gO o) (own:=true) hK (by rw[gL_len];exact hlen) (v:=r) (o':=o') (hw.mono fun out s hs=>by
  obtain⟨ss,rfl,hq⟩:=hs
  cases out with
  |exit id=>exact hq.elim
  |norm=>exact⟨.inl rfl,fin ss hq⟩
  |ret=>exact⟨.inr rfl,fin ss hq⟩)
 exact⟨h1,h2⟩
end
structure OCtr where
 f:FuncId
 α:Type
 put:α→List SV
 st:α→SStore
 dec:List SV→SStore→Option α
 ok:∀v o a,dec v o=some a→gL v=gL (put a)∧gO o=gO (st a)
 inj:∀a b,gL (put a)=gL (put b)→gO (st a)=gO (st b)→a=b
 dom:α→Prop
 res:α→SV
 out:α→SStore
def HoldsO (P:Program) (c:OCtr):Prop:=∀a,c.dom a→goodF P c.f=true∧CallO P c.f (gL (c.put a)) (gO (c.st a)) (c.res a).g (gO (c.out a))
def findO (f:FuncId):List OCtr→Option OCtr
 |[]=>none
 |c::r=>bif Nat.beq c.f f then some c else findO f r
theorem findO_f:∀{L:List OCtr} {f:FuncId} {c:OCtr},findO f L=some c→c.f=f∧c∈L
 |[],_,_,h=>by cases h
 |d::L,f,c,h=>by
  simp only[findO] at h
  cases hq:Nat.beq d.f f with
  |true=>
   rw[hq] at h
   simp only[cond_true,Option.some.injEq] at h
   subst h
   exact⟨Nat.eq_of_beq_eq_true hq,by simp⟩
  |false=>
   rw[hq] at h
   simp only[cond_false] at h
   obtain⟨h1,h2⟩:=findO_f h
   exact⟨h1,by simp[h2]⟩
def ownC (W:List OCtr) (f:FuncId) (args:List SV) (o:SStore) (K:SV→SStore→Prop):Prop:=
 match findO f W with
 |some c=>optK (c.dec args o) fun a=>c.dom a∧K (c.res a) (c.out a)
 |none=>False
open Classical in
noncomputable def ownA (W:List OCtr) (f:FuncId) (args:List AV) (o:Store):Option (AV×Store):=
 match findO f W with
 |some c=>if h:∃a,args=gL (c.put a)∧o=gO (c.st a)∧c.dom a then some ((c.res (Classical.choose h)).g,gO (c.out (Classical.choose h))) else none
 |none=>none
noncomputable def ownT (W:List OCtr):OwnT:=⟨ownA W,fun f args o K=>ownS (ownC W) f args o K⟩
theorem ownT_ok {P:Program} {W:List OCtr} (hW:∀c∈W,HoldsO P c):OwnOK P (ownT W) where
 K:=fun f args o r o' h=>by
  simp only[ownT,ownA] at h
  split at h
  ·rename_i c hc
   obtain⟨rfl,hm⟩:=findO_f hc
   split at h
   ·rename_i hx
    simp only[Option.some.injEq,Prod.mk.injEq] at h
    generalize hb:Classical.choose hx=b at h
    have hs:=Classical.choose_spec hx
    rw[hb] at hs
    obtain⟨h1,h2,h3⟩:=hs
    obtain⟨h4,h5⟩:=hW c hm _ h3
    refine⟨h4,?_⟩
    rw[h1,h2,←h.1,←h.2]
    exact h5
   ·cases h
  ·cases h
 C:=fun call hcall f args o K h=>by
  refine ownS_sound ?_ h
  intro f args o K hk
  simp only[ownC] at hk
  split at hk
  ·rename_i c hc
   obtain⟨a,h1,h2,h3⟩:=optK_some hk
   refine⟨_,_,?_,h3⟩
   rw[hcall]
   obtain⟨h4,h5⟩:=c.ok _ _ _ h1
   have hx:∃b,gL args=gL (c.put b)∧gO o=gO (c.st b)∧c.dom b:=⟨a,h4,h5,h2⟩
   simp only[ownT,ownA,hc,dif_pos hx]
   have:Classical.choose hx=a:=c.inj _ _ ((Classical.choose_spec hx).1.symm.trans h4) ((Classical.choose_spec hx).2.1.symm.trans h5)
   rw[this]
  ·exact hk.elim
theorem holdsO_of {P:Program} {fn:FuncId→Option IFn} {L:List SCtr} {W:List OCtr} (c:OCtr) {F:IFn} {ty:TypeId→Option SId} {mt:List Nat×Bool→Option (SId×SId)} {Λ:c.α→Nat→LoopAnn}
  (h0:TabOK P ⟨fn,fun _ _ _ _=>none⟩) (hW:∀c∈W,HoldsO P c) (hL:∀c∈L,Holds P c)
  (hF:fn c.f=some F) (hlen:∀a,(c.put a).length=F.params)
  (a:c.α) (hfr:∀d,findO c.f W=some d→∀b,gL (c.put a)=gL (d.put b)→gO (c.st a)=gO (d.st b)→¬d.dom b)
  (h:fnOwnK (parL L (ownT W) ty mt fn) (Λ a) F (c.put a) (c.st a) fun v s=>v.same (c.res a)∧sameO s (c.out a)):
  goodF P c.f=true∧CallO P c.f (gL (c.put a)) (gO (c.st a)) (c.res a).g (gO (c.out a)):=by
 refine fnOwnK_sound (p:=parL L (ownT W) ty mt fn) (Λ:=Λ a) (Q:=fun v s=>v.same (c.res a)∧sameO s (c.out a)) (tabL_ok (ownT_ok hW) hL h0) (tabL_calls (ownT_ok hW)) (fun _ _ h=>h) hF ?_ (hlen a) (fun v s hs=>⟨hs.1,sameO_g hs.2⟩) ?_
 ·simp only[tabL,tabK,if_true,ownT,ownA]
  split
  ·rename_i d hd
   rw[dif_neg]
   rintro⟨b,h1,h2,h3⟩
   exact hfr d hd b h1 h2 h3
  ·rfl
 ·exact h
mutual
def frzA (o:SStore) (k:Nat):SV→(SV→Prop)→Prop
 | .ow id n sz,K=>if k≤id then(match o[id]? with
   |some (.row s l _ true)=>if sz=s.sz then n=l.length∧K (.row s l) else False
   |some (.row _ _ _ false)=>K (.ow id n sz)
   |_=>False) else K (.ow id n sz)
 | .ptr id f t,K=>if k≤id then(match o[id]? with
   |some (.cells _ _ _ false)=>K (.ptr id f t)
   |_=>False) else K (.ptr id f t)
 | .agg cs,K=>frzAL o k cs fun cs'=>K (.agg cs')
 | .tup cs,K=>frzAL o k cs fun cs'=>K (.tup cs')
 | .ud,K=>K .ud
 | .sc v,K=>K (.sc v)
 | .il q n,K=>K (.il q n)
 | .si q n,K=>K (.si q n)
 | .bl b,K=>K (.bl b)
 | .sb b,K=>K (.sb b)
 | .row s l,K=>K (.row s l)
 | .mp i,K=>K (.mp i)
 | .fn f a b,K=>frzAL o k a fun a'=>frzAL o k b fun b'=>K (.fn f a' b')
 |_,_=>False
def frzAL (o:SStore) (k:Nat):List SV→(List SV→Prop)→Prop
 |[],K=>K []
 |c::cs,K=>frzA o k c fun c'=>frzAL o k cs fun cs'=>K (c'::cs')
end
section
variable {o:SStore} {k:Nat}
mutual
theorem frzA_sound:∀{v:SV} {K:SV→Prop},frzA o k v K→∃v':SV,v.g.frz (gO o) (fun i=>decide (k≤i))=some v'.g∧K v'
 | .ow id n sz,K,h=>by
  simp only[frzA] at h
  split at h
  ·rename_i hk
   split at h
   ·rename_i s l e ho
    split at h
    ·rename_i hsz
     subst hsz
     obtain⟨rfl,h⟩:=h
     refine⟨_,?_,h⟩
     have htk:List.take (l.length*s.sz) (flatA s l)=flatA s l:=List.take_of_length_le (by rw[flatA_len];omega)
     simp only[SV.g,AV.frz,hk,decide_true,if_true,getI ho,SObj.g,flatA_len,Nat.zero_add,Nat.le_refl,and_self,List.drop_zero,htk]
    ·exact h.elim
   ·rename_i s l e ho
    refine⟨_,?_,h⟩
    simp only[SV.g,AV.frz,hk,decide_true,if_true,getI ho,SObj.g,Bool.false_eq_true,if_false]
   ·exact h.elim
  ·rename_i hk
   refine⟨_,?_,h⟩
   simp only[SV.g,AV.frz,decide_eq_true_eq,if_neg hk]
 | .ptr id f t,K,h=>by
  simp only[frzA] at h
  split at h
  ·rename_i hk
   split at h
   ·rename_i cs e sz ho
    refine⟨_,?_,h⟩
    simp only[SV.g,AV.frz,hk,decide_true,if_true,getI ho,SObj.g,Bool.false_eq_true,if_false]
   ·exact h.elim
  ·rename_i hk
   refine⟨_,?_,h⟩
   simp only[SV.g,AV.frz,decide_eq_true_eq,if_neg hk]
 | .agg cs,K,h=>by
  simp only[frzA] at h
  obtain⟨cs',h1,h2⟩:=frzAL_sound h
  exact⟨_,by simp only[SV.g,AV.frz,h1,Option.map_some],h2⟩
 | .tup cs,K,h=>by
  simp only[frzA] at h
  obtain⟨cs',h1,h2⟩:=frzAL_sound h
  exact⟨_,by simp only[SV.g,AV.frz,h1,Option.map_some],h2⟩
 | .ud,K,h=>⟨.ud,by simp only[SV.g,AV.frz],by simpa only[frzA] using h⟩
 | .sc v,K,h=>⟨.sc v,by simp only[SV.g,AV.frz],by simpa only[frzA] using h⟩
 | .il k n,K,h=>⟨.il k n,by simp only[SV.g,AV.frz],by simpa only[frzA] using h⟩
 | .si k n,K,h=>⟨.si k n,by simp only[SV.g,AV.frz],by simpa only[frzA] using h⟩
 | .bl b,K,h=>⟨.bl b,by simp only[SV.g,AV.frz],by simpa only[frzA] using h⟩
 | .sb b,K,h=>⟨.sb b,by simp only[SV.g,AV.frz],by simpa only[frzA] using h⟩
 | .row s l,K,h=>⟨.row s l,by simp only[SV.g,AV.frz],by simpa only[frzA] using h⟩
 | .mp i,K,h=>⟨.mp i,by simp only[SV.g,AV.frz],by simpa only[frzA] using h⟩
 | .fn f a b,K,h=>by
  simp only[frzA] at h
  obtain⟨a',h1,h2⟩:=frzAL_sound h
  obtain⟨b',h3,h4⟩:=frzAL_sound h2
  exact⟨_,by simp only[SV.g,AV.frz,h1,h3],h4⟩
 | .ep ..,K,h| .ap ..,K,h| .rp ..,K,h| .os ..,K,h| .oc ..,K,h=>by simp only[frzA] at h
theorem frzAL_sound:∀{cs:List SV} {K:List SV→Prop},frzAL o k cs K→∃cs':List SV,frzL (gO o) (fun i=>decide (k≤i)) (gL cs)=some (gL cs')∧K cs'
 |[],K,h=>⟨[],by simp[gL,frzL],by simpa only[frzAL] using h⟩
 |c::cs,K,h=>by
  simp only[frzAL] at h
  obtain⟨c',h1,h2⟩:=frzA_sound h
  obtain⟨cs',h3,h4⟩:=frzAL_sound h2
  exact⟨c'::cs',by simp only[gL,frzL,h1,h3],h4⟩
end
def frzAO (o:SStore) (k:Nat):Nat→SStore→(SStore→Prop)→Prop
 |_,[],K=>K []
 |i,x::r,K=>match x with
  | .cells cs e sz false=>frzAL o k cs fun cs'=>frzAO o k (i+1) r fun r'=>K (.cells cs' e sz false::r')
  | .row s l e pu=>frzAO o k (i+1) r fun r'=>K ((if pu&&decide (k≤i) then .dead else .row s l e pu)::r')
  | .map sk sv ka es kt pu=>frzAO o k (i+1) r fun r'=>K (.map sk sv ka es kt pu::r')
  | .dead=>frzAO o k (i+1) r fun r'=>K (.dead::r')
  |_=>False
theorem frzAO_sound:∀{i:Nat} {r:SStore} {K:SStore→Prop},frzAO o k i r K→∃r' mid,frzS (gO o) (fun i=>decide (k≤i)) (gO r)=some mid∧dropPu (fun i=>decide (k≤i)) i mid=gO r'∧K r'
 |i,[],K,h=>⟨[],[],rfl,rfl,h⟩
 |i,x::r,K,h=>by
  cases x with
  |dead=>
   simp only[frzAO] at h
   obtain⟨r',mid,h1,h2,h3⟩:=frzAO_sound h
   refine⟨_,.dead::mid,?_,?_,h3⟩
   ·simp only[gO,List.map_cons,SObj.g] at h1 ⊢
    simp only[frzS,AObj.frz,h1]
   ·simp only[dropPu,h2];rfl
  |cells cs e' sz pu=>
   cases pu with
   |true=>simp only[frzAO] at h
   |false=>
    simp only[frzAO] at h
    obtain⟨cs',hc1,hc2⟩:=frzAL_sound h
    obtain⟨r',mid,h1,h2,h3⟩:=frzAO_sound hc2
    refine⟨_,.cells (gL cs') e' sz false::mid,?_,?_,h3⟩
    ·simp only[gO,List.map_cons,SObj.g] at h1 hc1 ⊢
     simp only[frzS,AObj.frz,Bool.false_eq_true,if_false,hc1,Option.map_some,h1]
    ·simp only[dropPu,h2];rfl
  |row s l e' pu=>
   simp only[frzAO] at h
   obtain⟨r',mid,h1,h2,h3⟩:=frzAO_sound h
   refine⟨_,(SObj.row s l e' pu).g::mid,?_,?_,h3⟩
   ·have hobj:(SObj.row s l e' pu).g.frz (gO o) (fun i=>decide (k≤i))=some (SObj.row s l e' pu).g:=by
     cases pu with
     |true=>simp only[SObj.g,AObj.frz,if_true]
     |false=>
      simp only[SObj.g,AObj.frz,Bool.false_eq_true,if_false]
      rw[frzL_plain (fun a ha=>flatA_plain ha),Option.map_some]
    simp only[gO,List.map_cons] at h1 ⊢
    simp only[frzS,gO] at hobj h1 ⊢
    simp only[hobj,h1]
   ·cases pu with
    |true=>
     simp only[SObj.g,dropPu,Bool.true_and]
     by_cases hk:k≤i
     ·simp only[hk,decide_true,if_true]
      rw[h2];rfl
     ·simp only[hk,decide_false,Bool.false_eq_true,if_false]
      rw[h2];rfl
    |false=>simp only[SObj.g,dropPu,Bool.false_and,Bool.false_eq_true,if_false];rw[h2];rfl
  |map sk sv ka es kt pu=>
   simp only[frzAO] at h
   obtain⟨r',mid,h1,h2,h3⟩:=frzAO_sound h
   have hobj:(SObj.map sk sv ka es kt pu).g.frz (gO o) (fun i=>decide (k≤i))=some (SObj.map sk sv ka es kt pu).g:=by
    cases pu with
    |true=>simp only[SObj.g,AObj.frz,if_true]
    |false=>
     simp only[SObj.g,AObj.frz,Bool.false_eq_true,if_false]
     rw[frzM_sc mapA_sc,Option.map_some]
   refine⟨_,(SObj.map sk sv ka es kt pu).g::mid,?_,?_,h3⟩
   ·simp only[gO,List.map_cons] at h1 ⊢
    simp only[frzS,gO] at hobj h1 ⊢
    simp only[hobj,h1]
   ·simp only[SObj.g,dropPu,h2];rfl
end
def finK (r:SV) (o:SStore) (K:SV→SStore→Prop):Prop:=
 frzA o 0 r fun r1=>frzAO o 0 0 o fun o2=>
  let ids:=reachSS o2 reachD [r1] []
  if callOwn.nodupN ids then match r1.ren (fun j=>idxOf ids j),subSS o2 ids ids with
   |some r2,some s2=>K r2 s2
   |_,_=>False
  else False
theorem finK_sound {r:SV} {o:SStore} {K:SV→SStore→Prop} (h:finK r o K):∃r' o',finishOwn 0 r.g (gO o)=some (r'.g,gO o')∧K r' o':=by
 unfold finK at h
 obtain⟨r1,h1,h2⟩:=frzA_sound h
 obtain⟨o2,mid,h3,h4,h5⟩:=frzAO_sound h2
 simp only at h5
 split at h5
 ·rename_i hn
  split at h5
  ·rename_i r2 s2 h6 h7
   refine⟨r2,s2,?_,h5⟩
   unfold finishOwn
   rw[h1,h3]
   simp only[h4,List.take_zero,List.flatMap_nil,List.range_zero]
   have hr:=reach_g (o:=o2) (d:=reachD) (vs:=[r1]) (acc:=[])
   simp only[gL] at hr
   rw[hr,if_pos hn,ren_g h6,subSS_g h7]
  ·exact h5.elim
 ·exact h5.elim
def fnNewK (p:SPar) (Λ:Nat→LoopAnn) (F:IFn) (args:List SV) (Q:SV→SStore→Prop):Prop:=
 wpS p 0 F.body Λ ⟨bindS 0 args,[]⟩ fun out st=>match out with
  | .exit _=>False
  |_=>resK st F.res fun r=>finK r st.o Q
theorem fnNewK_sound {P:Program} {T:Tab} {p:SPar} {Λ:Nat→LoopAnn} (hT:TabOK P T) (hC:SCallsOK T.K p.C) (hI:∀f F,p.it f=some F→T.fn f=some F) {f:FuncId} {F:IFn} (hF:T.fn f=some F) {args:List SV} {r:AV} {o':Store} (hK:T.K f (gL args) [] true=none) (hlen:args.length=F.params)
  {Q:SV→SStore→Prop} (hQ:∀v s,Q v s→v.g=r∧gO s=o') (h:fnNewK p Λ F args Q):goodF P f=true∧CallO P f (gL args) [] r o':=by
 unfold fnNewK at h
 have hw:=wpS_sound hC hI h
 have hst:(SSt.mk (bindS 0 args) []).g=⟨bindArgs 0 (gL args),[]⟩:=by simp[SSt.g,bindS_g,gO]
 rw[hst] at hw
 have fin:∀(ss:SSt),(resK ss F.res fun v=>finK v ss.o Q)→(resultsA ss.g F.res).bind (fun r0=>finish true 0 r0 ss.g.o)=some (r,o'):=by
  intro ss hq
  obtain⟨r0,h1,h2⟩:=resK_sound hq
  obtain⟨r',s',h3,h4⟩:=finK_sound h2
  rw[h1]
  simp only[Option.bind_some,finish,if_true]
  have:finishOwn 0 r0.g ss.g.o=some (r'.g,gO s'):=h3
  rw[this,(hQ _ _ h4).1,(hQ _ _ h4).2]
 obtain⟨h1,h2,_⟩:=call_of_vw hT hF (o:=[]) (own:=true) hK (by rw[gL_len];exact hlen) (v:=r) (o':=o') (hw.mono fun out s hs=>by
  obtain⟨ss,rfl,hq⟩:=hs
  cases out with
  |exit id=>exact hq.elim
  |norm=>exact⟨.inl rfl,fin ss hq⟩
  |ret=>exact⟨.inr rfl,fin ss hq⟩)
 exact⟨h1,h2⟩
theorem ownA_fresh {W:List OCtr} {f:FuncId} {args:List AV} {o:Store} (h:findO f W=none):ownA W f args o=none:=by
 unfold ownA
 rw[h]
end Go.Vi
