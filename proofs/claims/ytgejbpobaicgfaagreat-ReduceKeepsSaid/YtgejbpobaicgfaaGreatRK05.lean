/-
  The symbolic run is sound: values, lists of cells, loads, what is frozen.
  Conditions: none.
-/
import Derived.Test.YtgejbpobaicgfaaGreatRK04
set_option maxRecDepth 100000
set_option maxHeartbeats 4000000
set_option linter.all false
namespace Go.Vi
def gE (env:xJ):Ku:=env.map fun p=>(p.1,p.2.g)
def gO (o:ie):Store:=o.map cC.g
def iz.g (st:iz):St:=⟨gE st.env,gO st.o⟩
theorem abh:∀(env:xJ) (s:Nat),pI (gE env) s=(MD env s).g
 |[],_=>by simp[gE,pI,MD,SV.g]
 |p::r,s=>by
  have:=abh r s
  grind[gE,pI,MD]
theorem atq (env:xJ) (d:Option Nat) (v:SV):gE (afy env d v)=abx (gE env) d v.g:=by
 cases d<;>simp[afy,abx,gE]
theorem atr (v:Value):(SV.abG v).g= .sc v:=by cases v<;>simp[SV.abG,SV.g]
theorem anR (l:List Value):(l.map SV.abG).map SV.g=l.map .sc:=by simp[atr]
theorem aiI (env:xJ) (x:Operand):s4 (gE env) x=(Ky env x).g:=by
 cases x with
 |tmp t=>simp[s4,Ky,abh]
 |const v=>
  cases v<;>simp[s4,Ky,AV.aff,SV.aff,SV.g]
  split<;>simp[SV.g,yh,atr]
 |global g=>simp[s4,Ky,SV.g]
 |func f=>simp[s4,Ky,SV.g,gL]
theorem att (env:xJ):s4 (gE env)=fun x=>(Ky env x).g:=funext fun x=>aiI env x
theorem akW (v:SV):v.g.cellsOf=gL v.cellsOf:=by
 cases v<;>simp[SV.g,AV.cellsOf,SV.cellsOf,gL]
theorem aBe (v:SV):v.g.one=v.one:=by
 cases v<;>simp[SV.g,AV.one,SV.one,Value.oneCell']
theorem akX (l:List SV):s5 (gL l)=agZ l:=by
 induction l<;>grind[gL,s5,agZ,aBe]
theorem atu:∀(l:List SV),akR l=true->pZ (gL l)=true
 |[],_=>by simp[gL,pZ]
 |v::l,h=>by
  simp only[akR,Bool.and_eq_true] at h;simp only[gL,pZ,atu l h.2,Bool.and_true]
  have a:=h.1
  cases v<;>simp[SV.pure] at a<;>simp[SV.g,AV.pure,acQ]
mutual
theorem aiJ (k:Nat):∀(v:SV),v.g.ig k=v.ig k
 | .agg c=>by simp only[SV.g,AV.ig,SV.ig];exact afF k c
 | .eW c=>by simp only[SV.g,AV.ig,SV.ig];exact afF k c
 | .fn _ a b=>by simp only[SV.g,AV.ig,SV.ig,afF k a,afF k b]
 | .ud| .sc _| .il .. | .si .. | .bl _| .sb _| .row .. | .ep .. | .ptr .. | .ap .. | .rp .. | .ow .. | .os .. | .oc .. | .mp _=>by simp[SV.g,AV.ig,SV.ig]
theorem afF (k:Nat):∀(l:List SV),sf k (gL l)=ad2 k l
 |[]=>by simp[gL,sf,ad2]
 |v::l=>by simp only[gL,sf,ad2,aiJ k v,afF k l]
end
theorem aBf (k:Nat) {b sv:bD} (c:Bool) (es:List (b.T×sv.T)):sf k ((es.map fun p=>(ab7 b c p.1,aaI sv p.2)).map (·.2))=true:=
 anG fun a h=>by
  simp only[List.map_map,List.mem_map,Function.comp] at h
  grind[aaI,AV.ig]
theorem akY (k:Nat) (x:cC):x.g.ig k=x.ig k:=by
 cases x with
 |dead=>rfl
 |cells n e m d=>simp[cC.g,fZ.ig,cC.ig,afF]
 |row s l e d=>simp[cC.g,fZ.ig,cC.ig,atg]
 |abE s l e t=>
  have c:∀a b:List AV,sf k (a++b)=(sf k a&&sf k b):=fun a b=>by
   induction a<;>grind[sf]
  grind[cC.g,fZ.ig,cC.ig,atg,afF]
 |map i o f j h d=>simp only[cC.g,fZ.ig,cC.ig,aBf,Bool.or_true]
mutual
theorem atv:∀(v:SV),v.S1=true->v.g.S1=true
 | .agg a,h=>by simp only[SV.S1] at h;simp only[SV.g,AV.S1];exact anS a h
 | .eW a,h=>by simp only[SV.S1] at h;simp only[SV.g,AV.S1];exact anS a h
 | .ud,_| .sc _,_| .il ..,_| .si ..,_| .bl _,_| .sb _,_=>by simp[SV.g,AV.S1]
 | .row ..,h| .ep ..,h| .ptr ..,h| .ap ..,h| .rp ..,h| .ow ..,h| .os ..,h| .oc ..,h| .mp _,h| .fn ..,h=>by simp[SV.S1] at h
theorem anS:∀(l:List SV),akS l=true->afm (gL l)=true
 |[],_=>by simp[gL,afm]
 |v::l,h=>by
  simp only[akS,Bool.and_eq_true] at h;simp only[gL,afm,atv v h.1,anS l h.2,Bool.and_true]
end
theorem MF (l:List SV):(gL l).length=l.length:=by simp[yh]
theorem aeO (l:List SV) (i:Nat):(gL l)[i]?=(l[i]?).map SV.g:=by simp[yh]
theorem afG (a b:List SV):gL (a++b)=gL a++gL b:=by simp[yh]
theorem akZ {cs:List SV} {a:Nat} {n:Option Nat} {v:SV} (h:ad3 cs a n=some v):AX (gL cs) a n=some v.g:=by
 cases n with
 |none=>grind[ad3,AX,aeO]
 |some m=>
  simp only[ad3] at h;split at h
  ·rename_i b
   simp only[Option.some.injEq] at h;subst h
   simp_all[AX,SV.g,yh]
  ·cases h
theorem aiK:∀(vs cs:List SV) (a:Nat),gL (aeJ cs a vs)=Ai (gL cs) a (gL vs)
 |[],cs,a=>by simp[aeJ,gL,Ai]
 |v::vs,cs,a=>by
  simp only[aeJ,gL,Ai];rw[aiK vs]
  simp_all[yh]
theorem anT (cs:List SV):gL (cs.map SV.qn)=(gL cs).map AV.qn:=by
 simp_all[yh,aBa]
theorem anU (pu:Bool) (cs:List SV):gL (if pu then cs.map SV.qn else cs)=sy pu (gL cs):=by
 grind[sy,anT]
theorem aBg {c:AV} (h:Plain c.qn):c.one=true/\c.pure=true:=by
 by_cases a:c.qn=c
 ·rw[a] at h
  exact⟨h.one,h.pure⟩
 ·unfold AV.qn at a
  split at a
  ·exact⟨rfl,rfl⟩
  simp_all
theorem anV {pu:Bool} {cs:List AV} (h:∀c∈sy pu cs,Plain c):s5 cs=true/\pZ cs=true:=by
 have b:∀c∈cs,c.one=true/\c.pure=true:=by
  intro c a;unfold sy at h;split at h
  ·grind[aBg]
  ·exact⟨(h c a).one,(h c a).pure⟩
 grind[s5,akP]
theorem anW:∀(vs a b c:List AV) (d:Nat),d+vs.length<=b.length->Ai (a++b++c) (a.length+d) vs=a++Ai b d vs++c
 |[],a,b,c,d,_=>rfl
 |v::vs,a,b,c,d,h=>by
  simp only[List.length_cons] at h;simp only[Ai]
  have e:(a++b++c).set (a.length+d) v=a++b.set d v++c:=by
   grind
  rw[e,Nat.add_assoc,anW vs a (b.set d v) c (d+1) (by simp;omega)]
theorem atw {s:bD} {l:List s.T} {i:Nat} (h:i<l.length):jY s l=jY s (l.take i)++qd s (bo l i s.dflt)++jY s (l.drop (i+1)):=by
 have a:l=l.take i++l[i]::l.drop (i+1):=by simp
 grind[jV,jY]
theorem take_len {a:Type} {l:List a} {i:Nat} (h:i<l.length):(l.take i).length=i:=by simp;omega
theorem aBh {s:bD} {l:List s.T} {i a:Nat} {v:s.T} {vs:List AV} (h:i<l.length) (e:a+vs.length<=s.sz) (c:Ai (qd s (bo l i s.dflt)) a vs=qd s v):
  Ai (jY s l) (i*s.sz+a) vs=jY s (l.set i v):=by
 have d:(jY s (l.take i)).length=i*s.sz:=by rw[xl,take_len h]
 rw[atw h,<-d,anW _ _ _ _ _ (by grind[X0]),c]
 have b:i<(l.set i v).length:=by simpa using h
 rw[atw b,jV b]
 simp[List.take_set_of_le,List.drop_set_of_lt]
theorem atx {s:bD} {l:List s.T} {i b:Nat} {n:Option Nat} {v:SV} (h:i<l.length) (e:ad3 (encS s (bo l i s.dflt)) b n=some v):AX (jY s l) (i*s.sz+b) n=some v.g:=by
 have a:=akZ e
 rw[yh,acP] at a
 have c:=aBb (s:=s) h
 have d:(jY s l).length=i*s.sz+(s.sz+(jY s (l.drop (i+1))).length):=by
  have:=congrArg List.length c
  grind[X0]
 cases n with
 |none=>
  simp only[AX] at a ⊢
  rw[<-List.getElem?_drop,c,List.getElem?_append_left]<;>grind
 |some m=>
  simp only[AX,X0] at a;split at a
  ·rename_i f
   simp only[AX]
   rw[if_pos (by omega),<-List.drop_drop,c,List.drop_append_of_le_length (by grind[X0]),List.take_append_of_le_length (by grind[X0])]
   exact a
  ·cases a
theorem J8 {b:Type} {x:Option b} {K:b->Prop} (h:HU x K):∃a,x=some a/\K a:=by
 cases x with
 |none=>exact h.elim
 |some a=>exact⟨a,rfl,h⟩
theorem anX (o:ie) (i:Nat):(gO o)[i]?=(o[i]?).map cC.g:=by simp[gO]
theorem abj (o:ie):(gO o).length=o.length:=by simp[gO]
theorem acR (o:ie) (i:Nat) (x:cC):gO (o.set i x)=(gO o).set i x.g:=by simp[gO]
theorem zo {o:ie} {i:Nat} {x:cC} (h:o[i]?=some x):(gO o)[i]?=some x.g:=by grind[anX]
theorem aty:∀{cs:List SV} {l:List Int},ints cs=some l->cs.length=l.length/\∀i,i<l.length->(cs[i]?).map SV.g=some (.sc (.int .i64 (bo l i 0))):=by
 intro cs l h
 have a:=akN h
 have c:cs.length=l.length:=by simpa using congrArg List.length a
 refine⟨c,fun i b=>?_⟩
 have:=congrArg (fun l=>l[i]?) a
 simp only[List.getElem?_map] at this;rw[this,List.getElem?_eq_getElem b,jV b];rfl
theorem atz:∀{cs:List SV} {l:List (List Off)},ZX.rowsOff cs=some l->cs.length=l.length/\∀i,i<l.length->cs[i]?=some (.row .off (bo l i []))
 |[],l,h=>by grind[ZX.rowsOff]
 |c::cs,l,h=>by
  cases c with
  |row s x=>
   cases s<;>simp only[ZX.rowsOff,reduceCtorEq] at h
   obtain⟨e,a,rfl⟩:=Option.map_eq_some_iff.1 h
   obtain⟨b,d⟩:=atz a
   grind[bo]
  |_=>simp[ZX.rowsOff] at h
theorem aBi {cs:List SV} {sz i:Nat} {n:Option Nat} {K:SV->Prop} (h:ZX.aiC cs sz i n K) (d:i*sz<cs.length):∃v,AX (gL cs) (i*sz) n=some v.g/\K v:=by
 unfold ZX.aiC at h;split at h
 ·rw[Nat.mul_one] at d ⊢
  split at h
  ·rename_i l a
   obtain⟨b,c⟩:=aty a
   grind[AX,aeO,SV.g]
  ·split at h
   ·rename_i l a
    obtain⟨b,c⟩:=atz a
    grind[AX,aeO]
   simp_all
 simp_all
theorem aBj {cs:List AV} {base a m:Nat} {v:AV} (h:AX ((cs.drop base).take m) a none=some v):AX cs (base+a) none=some v:=by
 grind[AX]
theorem atA {o:ie} {a:SV} {n:Option Nat} {K:SV->Prop} (h:ZX o a n K):∃cs b v,behind (gO o) a.g=some (cs,b)/\AX cs b n=some v.g/\K v:=by
 cases a with
 |ptr x b t=>
  simp only[ZX] at h;split at h
  ·rename_i cs e f z y
   split at h
   ·rename_i D
    obtain⟨v,k,j⟩:=J8 h
    exact⟨gL cs,b,v,by simp_all[behind,SV.g,zo,cC.g,MF],akZ k,j⟩
   simp_all
  simp_all
 |ap x c f d t i=>
  simp only[ZX] at h;split at h
  ·rename_i cs e A z y
   split at h
   ·rename_i D
    obtain⟨C,p⟩:=h
    have w:(i+1)*f<=d*f:=Nat.mul_le_mul_right _ C
    rw[Nat.succ_mul] at w
    have F:f*d=d*f:=Nat.mul_comm ..
    by_cases E:f=0
    ·grind[ZX.aiC]
    ·have q:i*f<((cs.drop c).take (f*d)).length:=by grind
     obtain⟨v,k,j⟩:=aBi p q
     have B:n=none:=by
      grind[ZX.aiC]
     subst B
     refine⟨gL cs,c+i*f,v,by simp_all[behind,SV.g,zo,cC.g,MF],?_,j⟩
     have:gL ((cs.drop c).take (f*d))=((gL cs).drop c).take (f*d):=by simp[yh]
     grind[aBj]
   simp_all
  simp_all
 |ep s l i b=>
  simp only[ZX] at h
  obtain⟨u,p⟩:=h
  obtain⟨v,k,j⟩:=J8 p
  exact⟨jY s l,i*s.sz+b,v,by simp[behind,SV.g],atx u k,j⟩
 |rp x i b m f=>
  simp only[ZX] at h;split at h
  ·rename_i s l e z y
   split at h
   ·rename_i r
    subst r
    obtain⟨w,u,p⟩:=h
    obtain⟨v,k,j⟩:=J8 p
    exact⟨jY s l,i*s.sz+b,v,by simp_all[behind,SV.g,zo,cC.g,xl],atx u k,j⟩
   simp_all
  simp_all
 |_=>simp only[ZX] at h
theorem atB (o:Store) (d:Nat) {v:Value} (h:v≠ .slice none 0 0):freeze o d (.sc v)=some (.sc v):=by
 grind[freeze]
theorem atC (o:Store) (d:Nat) {a:AV} (h:Plain a):freeze o d a=some a:=by
 rcases h with⟨v,rfl,_,h⟩|⟨n,b,rfl,_⟩<;>grind[atB,freeze]
theorem anY {f:AV->Option AV}:∀{l:List AV},(∀a∈l,f a=some a)->l.mapM f=some l
 |[],_=>by simp
 |a::l,h=>by simp[List.mapM_cons,h a (by simp),anY (l:=l) fun b c=>h b (by simp[c])]
theorem ag7 {o:Store} {d:Nat} {f:SV->(SV->Prop)->Prop} (c:∀v K,f v K->∃b:SV,freeze o d v.g=some b.g/\K b):
  ∀{l:List SV} {K:List SV->Prop},afA f l K->∃a,(gL l).mapM (freeze o d)=some (gL a)/\K a
 |[],K,h=>⟨[],by simp[gL],h⟩
 |v::l,K,h=>by
  obtain⟨b,j,i⟩:=c v _ h
  obtain⟨a,k,e⟩:=ag7 c i
  exact⟨b::a,by simp_all[gL],e⟩
theorem aiL {s:bD} {l:List s.T} {b a:Nat}:((jY s l).drop (b*s.sz)).take (a*s.sz)=jY s ((l.drop b).take a):=by
 rw[anH,ati]
theorem anZ {o:ie}:∀{d:Nat} {v:SV} {K:SV->Prop},adl o d v K->∃y,freeze (gO o) d v.g=some y.g/\K y:=by
 intro d
 induction d with
 |zero=>
  intro v K h
  cases v<;>simp only[adl] at h<;>grind[adl,SV.g,freeze,jY,atB]
 |succ d p=>
  intro v K h
  cases v<;>simp only[adl] at h
  case sc v=>
   grind[SV.g,freeze,jY]
  case agg B=>
   obtain⟨A,z,r⟩:=ag7 (fun v K m=>p m) h
   grind[SV.g,freeze]
  case eW B=>
   obtain⟨A,z,r⟩:=ag7 (fun v K m=>p m) h
   grind[SV.g,freeze]
  case fn f a b=>
   obtain⟨I,z,r⟩:=ag7 (fun v K m=>p m) h
   obtain⟨J,L,H⟩:=ag7 (fun v K m=>p m) r
   grind[SV.g,freeze]
  case ow E n F=>
   split at h
   ·rename_i s l e G w
    split at h
    ·rename_i k
     obtain⟨rfl,t⟩:=h
     subst k
     refine⟨_,?_,t⟩
     have i:(jY s l).mapM (freeze (gO o) d)=some (jY s l):=anY fun a C=>by
      grind[atC,aaL]
     have D:List.take (l.length*s.sz) (jY s l)=jY s l:=List.take_of_length_le (by grind[xl])
     simp_all[SV.g,freeze,zo,cC.g,xl,acQ]
    simp_all
   simp_all
  case os E j c n F=>
   split at h
   ·rename_i s l e G w
    split at h
    ·rename_i k
     obtain⟨rfl,u,t⟩:=h
     subst k
     refine⟨_,?_,t⟩
     have i:(jY s ((l.drop j).take c)).mapM (freeze (gO o) d)=some (jY s ((l.drop j).take c)):=anY fun a C=>by
      grind[atC,aaL]
     have x:(j+c)*s.sz<=l.length*s.sz:=Nat.mul_le_mul_right _ u
     rw[Nat.add_mul] at x
     have q:((l.drop j).take c).length=c:=by simp;omega
     simp only[SV.g,freeze,zo w,cC.g,xl,x,and_self,if_true,aiL,i,acQ,q]
     simp_all
    simp_all
   simp_all
  all_goals grind[SV.g,freeze]
theorem ak0 {k:IntKind} {n:Int} (h:iR k n):um k n=n:=by
 cases k<;>simp only[iR,um] at h ⊢<;>simp_all
theorem aaN {c:Prop} [Decidable c] {A:Prop} (h:if c then A else False):c/\A:=by
 simp_all
theorem aHJ {b:Int} {k:Nat} (h:b<=k):min b.toNat k=b.toNat:=by omega
theorem aBk (a b:Int):(a==b)=decide (a=b):=rfl
theorem aBl (a b:Int):(a !=b)=decide (a≠b):=by
 grind
theorem aiM {k:IntKind} {n:Int} {K:Int->Prop} (h:afz k n K):K (um k n):=by
 have a:k= .u32->um k n=n % 4294967296:=by
  grind[aeB,IntKind.wrap,IntKind.bits,IntKind.signed]
 have b:k= .u64->um k n=n % 18446744073709551616:=by
  grind[aeB,IntKind.wrap,IntKind.bits,IntKind.signed]
 unfold afz at h
 grind[ak0]
theorem go_sound {e:BinOp} {k i:IntKind} {a b:Int} {K:SV->Prop} (h:B2.go e K k a i b):∃v f:_,BJ e (.int k a) (.int i b)=some v/\f.g= .sc v/\K f:=by
 cases e<;>simp only[B2.go] at h
 case shl=>
  obtain⟨j,m,l⟩:=h
  refine⟨.int k (um k (a*2^b.toNat)),.si k (um k (a*2^b.toNat)),?_,rfl,aiM l⟩
  simp_all[BJ,am4]
 case shr=>
  obtain⟨j,m,n⟩:=h
  refine⟨.int k (a / 2^b.toNat),_,?_,rfl,n⟩
  have:a.fdiv (2^b.toNat)=a / 2^b.toNat:=Int.fdiv_eq_ediv_of_nonneg _ (by grind)
  simp_all[BJ,am4]
 case add=>
  obtain⟨d,c⟩:=aaN h
  subst d
  exact⟨.int k (um k (a+b)),.si k (um k (a+b)),by simp only[BJ,if_true,W2],rfl,aiM c⟩
 case sub=>
  obtain⟨d,c⟩:=aaN h
  subst d
  exact⟨.int k (um k (a - b)),.si k (um k (a - b)),by simp only[BJ,if_true,W2],rfl,aiM c⟩
 case mul=>
  obtain⟨d,c⟩:=aaN h
  subst d
  exact⟨.int k (um k (a*b)),.si k (um k (a*b)),by simp only[BJ,if_true,W2],rfl,aiM c⟩
 case quo=>
  obtain⟨d,c⟩:=aaN h
  subst d
  exact⟨.int k (a.tdiv b),_,by simp_all[BJ,W2,ak0],rfl,c.2.2⟩
 case rem=>
  obtain⟨d,c⟩:=aaN h
  subst d
  exact⟨.int k (a.tmod b),_,by simp_all[BJ,W2],rfl,c.2⟩
 case and=>
  obtain⟨d,c⟩:=aaN h
  subst d
  exact⟨.int k (B2.afC k a b),_,by simp only[BJ,if_true,W2,B2.afC],rfl,c⟩
 case or=>
  obtain⟨d,c⟩:=aaN h
  subst d
  exact⟨.int k (B2.orI k a b),_,by simp only[BJ,if_true,W2,B2.orI],rfl,c⟩
 case xor=>
  obtain⟨d,c⟩:=aaN h
  subst d
  exact⟨.int k (B2.anI k a b),_,by simp only[BJ,if_true,W2,B2.anI],rfl,c⟩
 case andNot=>
  obtain⟨d,c⟩:=aaN h
  subst d
  exact⟨.int k (B2.akT k a b),_,by simp only[BJ,if_true,W2,B2.akT],rfl,c⟩
 case eql=>
  obtain⟨d,c⟩:=aaN h
  subst d
  exact⟨.bool (decide (a=b)),_,by simp_all[BJ,W2,aBk],rfl,c⟩
 case neq=>
  obtain⟨d,c⟩:=aaN h
  subst d
  exact⟨.bool (decide (a≠b)),_,by simp_all[BJ,W2,aBl],rfl,c⟩
 case lss=>
  obtain⟨d,c⟩:=aaN h
  subst d
  exact⟨.bool (decide (a<b)),_,by simp only[BJ,if_true,W2],rfl,c⟩
 case leq=>
  obtain⟨d,c⟩:=aaN h
  subst d
  exact⟨.bool (decide (a<=b)),_,by simp only[BJ,if_true,W2],rfl,c⟩
 case gtr=>
  obtain⟨d,c⟩:=aaN h
  subst d
  exact⟨.bool (decide (b<a)),_,by simp only[BJ,if_true,W2],rfl,c⟩
 case geq=>
  obtain⟨d,c⟩:=aaN h
  subst d
  exact⟨.bool (decide (b<=a)),_,by simp only[BJ,if_true,W2],rfl,c⟩
theorem aBm {j:BinOp} {x y:SV} {K:SV->Prop} (h:B2 j x y K):∃a b v c,x.g= .sc a/\y.g= .sc b/\BJ j a b=some v/\c.g= .sc v/\K c:=by
 unfold B2 at h;split at h
 ·split at h
  ·rename_i i;exact⟨_,_,_,_,rfl,rfl,i,rfl,h⟩
  ·rename_i i;exact⟨_,_,_,_,rfl,rfl,i,rfl,h⟩
  simp_all
 ·obtain⟨v,c,d,e,f⟩:=go_sound h
  exact⟨_,_,v,c,rfl,rfl,d,e,f⟩
 ·obtain⟨v,c,d,e,f⟩:=go_sound h
  exact⟨_,_,v,c,rfl,rfl,d,e,f⟩
 ·obtain⟨v,c,d,e,f⟩:=go_sound h
  exact⟨_,_,v,c,rfl,rfl,d,e,f⟩
 ·split at h
  ·exact⟨_,_,_,_,rfl,rfl,by grind[BJ],rfl,h⟩
  ·exact⟨_,_,_,_,rfl,rfl,by grind[BJ],rfl,h⟩
  simp_all
 simp_all
theorem aiN {k:IntKind} {a b:Int}:seq1 (.int k a) (.int k b)=some (decide (a=b)):=by
 simp only[seq1,if_true,Option.some.injEq];rfl
theorem aBn {x y:SV} {r:Bool} (h:anJ x y=some r):∃a b,x.g= .sc a/\y.g= .sc b/\seq1 a b=some r:=by
 cases x<;>simp only[anJ,reduceCtorEq] at h
 all_goals
  obtain⟨b,c,rfl⟩:=Option.map_eq_some_iff.1 h
  first
   |exact⟨_,_,rfl,EG c,aiN⟩
   |exact⟨_,_,rfl,agY c,by simp[seq1]⟩
theorem atD:∀{x y:List SV} {r:Bool},aeL x y=some r->∃a b,gL x=a.map .sc/\gL y=b.map .sc/\A0 a b=some r
 |[],[],r,h=>by simp[aeL] at h;subst h;exact⟨[],[],rfl,rfl,rfl⟩
 |[],_::_,r,h=>by grind[aeL]
 |_::_,[],r,h=>by grind[aeL]
 |x::l,y::n,r,h=>by
  simp only[aeL] at h;split at h
  ·rename_i a b e f
   simp only[Option.some.injEq] at h;subst h
   obtain⟨u,v,g,j,k⟩:=aBn e
   obtain⟨d,c,i,o,m⟩:=atD f
   exact⟨u::d,v::c,by grind[gL],by grind[gL],by grind[A0]⟩
  ·cases h
theorem an0:∀(l:List Value),scs (l.map .sc)=some l
 |[]=>rfl
 |v::l=>by simp[scs,an0 l]
theorem aeP:∀{a b:List Value},a.map AV.sc=b.map AV.sc->a=b
 |[],[],_=>rfl
 |[],_::_,h=>by simp at h
 |_::_,[],h=>by simp at h
 |x::a,y::b,h=>by
  simp only[List.map_cons,List.cons.injEq,AV.sc.injEq] at h;rw[h.1,aeP h.2]
theorem afH:∀{e:List Nat} {x:List SV} {a:List Value},Xx e x=true->gL x=a.map .sc->sV e a=true
 |[],[],a,_,h=>by
  cases a with
  |nil=>rfl
  |cons a i=>simp[gL] at h
 |[],_::_,a,h,_=>by grind[Xx]
 |_::_,[],a,h,_=>by grind[Xx]
 |k::e,x::j,a,h,f=>by
  cases a with
  |nil=>grind[gL]
  |cons a i=>
   simp only[gL,List.map_cons,List.cons.injEq] at f
   obtain⟨c,d⟩:=f
   match k,x,h with
   |0,.si k n,h=>simp only[Xx] at h;simp only[SV.g,AV.sc.injEq] at c;subst c;simpa[sV] using afH h d
   |0,.il k n,h=>simp only[Xx] at h;simp only[SV.g,AV.sc.injEq] at c;subst c;simpa[sV] using afH h d
   |1,.sb b,h=>simp only[Xx] at h;simp only[SV.g,AV.sc.injEq] at c;subst c;simpa[sV] using afH h d
   |1,.bl b,h=>simp only[Xx] at h;simp only[SV.g,AV.sc.injEq] at c;subst c;simpa[sV] using afH h d
theorem aBo {c:List Nat} {a b:List SV} {r:Bool} (d:(Xx c a&&Xx c b)=true) (h:aeL a b=some r):feq c (gL a) (gL b)=some r:=by
 obtain⟨u,v,f,e,g⟩:=atD h
 simp only[Bool.and_eq_true] at d;rw[f,e];simp only[feq,an0,afH d.1 f,afH d.2 e,Bool.and_self,if_true,g]
theorem aBp {s s':bD} {l:List s.T} {a:List s'.T} (h:Hj s s' l=some a):s=s'/\HEq l a:=by
 unfold Hj at h
 grind
theorem aiO {s s':bD} {l:List s.T} {l':List s'.T} (h:Hj s s' l=some l'):s'=s/\jY s' l'=jY s l/\l'.length=l.length:=by
 grind[aBp]
theorem an1:∀{a:List (Nat×Nat×SV)} {cs b:List SV},ad4 a cs=some b->Xm (a.map fun q=>(q.1,q.2.1,q.2.2.g)) (gL cs)=some (gL b)
 |[],cs,b,h=>by simp[ad4] at h;subst h;rfl
 |(d,n,v)::r,cs,b,h=>by
  simp only[ad4] at h;split at h
  ·rename_i c
   obtain⟨i,f,e⟩:=c
   have:=an1 h
   simp_all[Xm,akW,MF,akX,aiK]
  ·cases h
theorem ak1 {s:bD}:∀{n:Nat} {cs:List SV} {l:List s.T},aeK s n cs=some l->gL cs=jY s l/\l.length=n
 |0,[],l,h=>by grind[aeK,gL,jY]
 |0,_::_,l,h=>by simp[aeK] at h
 |n+1,cs,l,h=>by
  simp only[aeK] at h;split at h
  ·rename_i x f a b
   simp only[Option.some.injEq] at h;subst h
   obtain⟨d,c⟩:=ak1 b
   have e:=aaK a
   refine⟨?_,by simp[c]⟩
   rw[yh] at d ⊢
   conv=>lhs;rw[<-List.take_append_drop s.sz cs]
   grind[jY]
  ·cases h
theorem aBq {o:ie} {s:bD} {x:SV} {K:List s.T->Prop} (h:afB o s x K):∃l,aaC (gO o) s.sz x.g=some (l.length,jY s l)/\K l:=by
 cases x with
 |row q l=>
  simp only[afB] at h
  obtain⟨f,c,w⟩:=J8 h
  obtain⟨rfl,p,m⟩:=aiO c
  exact⟨f,by simp_all[SV.g,aaC,xl],w⟩
 |ow y n u=>
  simp only[afB] at h;split at h
  ·rename_i q l e A B
   split at h
   ·rename_i b
    subst b
    obtain⟨rfl,k⟩:=h
    obtain⟨f,c,i⟩:=J8 k
    obtain⟨rfl,p,m⟩:=aiO c
    refine⟨f,?_,i⟩
    have t:List.take (l.length*s.sz) (jY s l)=jY s l:=List.take_of_length_le (by grind[xl])
    simp_all[SV.g,aaC,zo,cC.g,xl]
   simp_all
  simp_all
 |os y d a n u=>
  simp only[afB] at h;split at h
  ·rename_i q l e A B
   split at h
   ·rename_i b
    subst b
    obtain⟨rfl,j,k⟩:=h
    obtain⟨f,c,i⟩:=J8 k
    obtain⟨rfl,p,m⟩:=aiO c
    refine⟨f,?_,i⟩
    have r:(d+a)*s.sz<=l.length*s.sz:=Nat.mul_le_mul_right _ j
    rw[Nat.add_mul] at r
    have z:((l.drop d).take a).length=a:=by simp;omega
    simp_all[SV.g,aaC,zo,cC.g,xl,aiL]
   simp_all
  simp_all
 |sc v=>
  grind[afB,SV.g,aaC,jY]
 |_=>simp only[afB] at h
theorem an2 {v:SV} {n:Int} (h:aiD v=some n):DW v.g=some n:=by
 cases v<;>simp[aiD] at h<;>simp[SV.g,DW,h]
theorem ab9 {d:Nat} {x:Option SV} {K:Nat->Prop} (h:abe d x K):∃n,DX d (x.map SV.g)=some n/\K n:=by
 unfold abe at h
 grind[SV.g,DX]
theorem afI {ei:Nat} {x:cC} {o:ie} {K:ie->Prop} (h:mkK ei x o K):∃o',SU ei x.g (gO o)=some (gO o')/\K o':=by
 grind[mkK,SU,zo,cC.g,acR]
theorem aBr {s:bD} (e:s.keyed=true) (x y:s.T):A0 (qb s x) (qb s y)=some (decide (x=y)):=by
 cases s<;>simp only[bD.keyed,reduceCtorEq] at e
 ·grind[qb,A0,aiN]
 ·obtain⟨b,⟨m,o,a,l,c,i⟩⟩:=x
  obtain⟨g,⟨k,h,j,n,d,f⟩⟩:=y
  simp_all[qb,iv,A0,aiN]
 ·obtain⟨b,⟨m,o,a,l,c,i⟩,⟨C,t,B,A,D,w⟩⟩:=x
  obtain⟨g,⟨k,h,j,n,d,f⟩,⟨p,z,r,u,v,q⟩⟩:=y
  simp only[qb,iv,A0,aiN,Option.some.injEq,Bool.and_true]
  grind
theorem aBs {s:bD} {a:Bool} (d:s.keyed=true) (b:a=false->s.sz=1) (x y:s.T):keq (ab7 s a x) (ab7 s a y)=some (decide (x=y)):=by
 cases a with
 |true=>grind[ab7,keq,aBr]
 |false=>
  have c:=b rfl
  cases s<;>simp only[bD.keyed,reduceCtorEq] at d<;>simp only[bD.sz,reduceCtorEq,Nat.reduceEqDiff] at c
  simp_all[ab7,qb,keq,aiN]
theorem an3 {a sv:bD} {c:Bool} (f:a.keyed=true) (e:c=false->a.sz=1) (x:a.T):∀(es:List (a.T×sv.T)) (i:Nat),
  ∃r,aa7 (ab7 a c x) (es.map fun p=>(ab7 a c p.1,aaI sv p.2)) i=some r/\(match abd a sv x es with|some v=>∃j,r=some (i+j,aaI sv v)/\(∃p,es[j]?=some p/\p.1=x)/\(∀g<j,∀p,es[g]?=some p->p.1≠x)|none=>r=none/\∀p∈es,p.1≠x)
 |[],i=>⟨none,by simp[aa7],by simp[abd]⟩
 |p::es,i=>by
  simp only[List.map_cons,aa7,aBs f e]
  by_cases b:p.1=x
  ·refine⟨some (i,aaI sv p.2),by simp[b],?_⟩
   simp only[abd,List.find?_cons,b,decide_true,Option.map_some]
   exact⟨0,by simp,⟨p,by simp,b⟩,by simp⟩
  ·obtain⟨r,m,k⟩:=an3 f e x es (i+1)
   have d:¬x=p.1:=fun h=>b h.symm
   refine⟨r,by simp[d,m],?_⟩
   have n:abd a sv x (p::es)=abd a sv x es:=by grind[abd]
   rw[n];split at k
   ·obtain⟨j,w,⟨q,t,l⟩,o⟩:=k
    refine⟨j+1,by grind,⟨q,by simp_all,l⟩,fun g u s y=>?_⟩
    grind
   grind
theorem an4 {a sv:bD} {x:a.T} {v:sv.T}:∀{es:List (a.T×sv.T)},(∀p∈es,p.1≠x)->ad5 a sv x v es=es++[(x,v)]
 |[],_=>rfl
 |p::es,h=>by
  simp only[ad5,if_neg (h p (by simp)),List.cons_append]
  rw[an4 fun q b=>h q (by simp[b])]
theorem atE {a sv:bD} {x:a.T} {v:sv.T}:∀{es:List (a.T×sv.T)} {j:Nat},(∃p,es[j]?=some p/\p.1=x)->(∀b<j,∀p,es[b]?=some p->p.1≠x)->ad5 a sv x v es=es.modify j fun _=>(x,v)
 |[],j,⟨p,h,_⟩,_=>by simp at h
 |p::es,0,⟨q,h,d⟩,_=>by
  grind[ad5]
 |p::es,j+1,⟨q,h,d⟩,c=>by
  have g:=c 0 (by omega) p (by simp)
  simp only[ad5,if_neg g,List.modify_succ_cons]
  rw[atE (j:=j) ⟨q,by simpa using h,d⟩ fun b i e f=>c (b+1) (by omega) e (by simp_all)]
theorem atF {f:List Nat} {d:Bool} {s:bD} {v:SV} {x:s.T} (e:Xx f v.cellsOf=true) (o:afD d v=true) (p:s.flat=true) (n:Kx s v.cellsOf=some x):Xh f d v.g=some (ab7 s d x):=by
 have k:=aaK n
 have c:gL v.cellsOf=(qb s x).map .sc:=by grind[yh,akM]
 have i:=afH e c
 by_cases l:∃h,v= .agg h
 ·obtain⟨h,rfl⟩:=l
  simp_all[SV.cellsOf,afD,SV.g,Xh,an0,ab7]
 ·have b:d=false:=by
   simp_all[afD]
  subst b
  have j:v.cellsOf=[v]:=by
   cases v<;>first|rfl|simp_all
  rw[j] at c;simp only[gL] at c
  cases m:qb s x with
  |nil=>simp_all
  |cons a r=>
   rw[m] at c i;simp only[List.map_cons,List.cons.injEq] at c
   simp_all[Xh,ab7]
theorem atG {s:bD} (h:s.agX=true) (x:s.T):((encS s x).headD .ud).g=aaI s x:=by
 cases s<;>simp[bD.agX] at h<;>simp[encS,aaI,qb,SV.g]
theorem atH {s:bD} (h:s.agX=true) (x:s.T):qd s x=[aaI s x]:=by
 cases s<;>simp[bD.agX] at h<;>simp[qd,aaI,qb]
theorem atI {s:bD} (h:s.keyed=true):s.flat=true:=by
 cases s<;>simp[bD.keyed] at h<;>rfl
structure acd (call:lU) (C:atj):Prop where
 pure:∀f args K,C.pure f args K->∃r:SV,call f (gL args) [] false=some (r.g,[])/\K r
 own:∀f args o K,C.own f args o K->∃(r:SV) (o':ie),Hh call f (gL args) (gO o)=some (r.g,gO o')/\K r o'
section
variable {call:lU} {p:HT} {o:ie} {ei:Nat} {K:SV->ie->Prop}
theorem atJ (j:acd call p.C) {f:FuncId} {args:List SV} {own:Bool} (h:uq.akU p f args o own K):
  ∃(v:SV) (o':ie),Gj call f (gL args) (gO o) own=some (v.g,gO o')/\K v o':=by
 unfold uq.akU at h;split at h
 ·rename_i c
  obtain⟨r,o',k,e⟩:=j.own _ _ _ _ h
  exact⟨r,o',by simp_all[Gj],e⟩
 ·rename_i c
  have c:own=false:=by simp_all
  subst c
  obtain⟨b,k,e⟩:=ag7 (o:=gO o) (d:=6) (fun v K m=>anZ m) h
  obtain⟨r,l,i⟩:=j.pure _ _ _ e
  split at i
  ·rename_i a
   refine⟨r,o,?_,i⟩
   simp only[Gj,Bool.false_eq_true,if_false,k,l];rw[if_pos];simp only[Bool.or_eq_true] at a ⊢
   rcases a with a|a
   ·left
    rw[yh,List.flatMap_map];exact a
   grind[atv]
  simp_all
theorem an5 (ρ:Operand->SV) (l:List Operand):gL (l.map ρ)=l.map fun x=>(ρ x).g:=by simp[yh]
theorem aBt {a:List (Nat×Nat×Operand)} {ρ:Operand->SV} {cs b:List SV} (h:ad4 (a.map fun q=>(q.1,q.2.1,ρ q.2.2)) cs=some b):
  Xm (a.map fun q=>(q.1,q.2.1,(ρ q.2.2).g)) (gL cs)=some (gL b):=by
 have:=an1 h
 grind[Function.comp_def]
theorem an6 {a:List (Nat×Operand)} {sz:Nat} {ρ:Operand->SV} {cs b:List SV} (h:ad4 (a.map fun q=>(q.1,sz,ρ q.2)) cs=some b):
  Xm (a.map fun q=>(q.1,sz,(ρ q.2).g)) (gL cs)=some (gL b):=by
 have:=an1 h
 grind[Function.comp_def]
theorem an7 (z:List Value):gL (z.map SV.abG)=z.map .sc:=by rw[yh,anR]
theorem an8 (a:Nat) (z:List Value):gL ((List.replicate a (z.map SV.abG)).flatten)=(List.replicate a (z.map AV.sc)).flatten:=by
 rw[yh,List.map_flatten,List.map_replicate,anR]
theorem aBu (s:bD) (x:s.T) (n:Nat):(List.replicate n (qd s x)).flatten=jY s (List.replicate n x):=by
 induction n<;>grind[jY]
theorem aiP {ρ:Operand->SV} (l:Option Operand):(l.map ρ).map SV.g=l.map fun x=>(ρ x).g:=by cases l<;>rfl
theorem aBv:∀{l:List Int} {i:Nat} {v:Int},i<l.length->Ai (l.map fun n=>AV.sc (iv n)) 0 ((l.set i v).map fun n=>AV.sc (iv n))=(l.map fun n=>AV.sc (iv n)).set i (.sc (iv v)):=by
 intro l i v e
 have d:∀(b a c:List AV),b.length=c.length->Ai (a++c) a.length b=a++b:=by
  intro b
  induction b with
  |nil=>grind[Ai]
  |cons w b f=>
   intro a c h
   cases c with
   |nil=>simp at h
   |cons y c=>
    simp only[List.length_cons,Nat.add_right_cancel_iff] at h;simp only[Ai]
    have:(a++y::c).set a.length w=(a++[w])++c:=by
     simp_all
    grind
 have:=d ((l.set i v).map fun n=>AV.sc (iv n)) [] (l.map fun n=>AV.sc (iv n)) (by simp)
 simp_all
theorem atK {b c:Type} (f:b->c) (x:b):∀(l:List b) (j:Nat),(l.modify j fun _=>x).map f=(l.map f).modify j fun _=>f x
 |[],j=>by simp
 |a::l,0=>by simp_all
 |a::l,j+1=>by simp only[List.modify_succ_cons,List.map_cons,atK f x l j]
theorem aBw (v:Value):(AV.sc v).cellsOf=[.sc v]:=rfl
theorem atL:∀{l:List Int} {i j:Nat} {v:Int},aeM l (i+j) v j=l.set i v
 |[],_,_,_=>rfl
 |a::l,0,j,v=>by
  have h:∀(l:List Int) (c:Nat),j<c->aeM l j v c=l:=by
   intro l
   induction l with
   |nil=>intro _ _;rfl
   |cons b l d=>intro c e;simp only[aeM,if_neg (show ¬j=c by omega),d (c+1) (by omega)]
  simp_all[aeM]
 |a::l,i+1,j,v=>by
  simp only[aeM,if_neg (show ¬i+1+j=j by omega),List.set_cons_succ]
  rw[show i+1+j=i+(j+1) from by omega,atL]
theorem aBx {ρ:Operand->SV} {n:Nat} {a x:Operand} (h:uq p (.store n a x) ρ o ei K):
  ∃(v:SV) (o':ie),fi call (.store n a x) (fun x=>(ρ x).g) (gO o) ei=some (v.g,gO o')/\K v o':=by
 simp only[uq] at h;split at h
 ·rename_i W b L B
  split at h
  ·rename_i f e Y E z
   split at h
   ·rename_i D
    obtain⟨V,C,X,P,R⟩:=D
    refine⟨.ud,_,?_,h⟩
    simp only[fi,B,SV.g,zo z,cC.g,akW,MF,akX]
    rw[if_pos ⟨V,C,X,P,R.imp (fun q=>q) fun hp=>atu _ hp⟩,acR,cC.g,aiK,anU]
   simp_all
  simp_all
 ·rename_i W i b m Y B
  split at h
  ·rename_i s l e E z
   split at h
   ·rename_i D
    obtain⟨rfl,C,X⟩:=D
    obtain⟨rfl,N,P⟩:=h
    obtain⟨v,hv,R⟩:=J8 P
    refine⟨.ud,_,?_,R⟩
    have T:=aaK hv
    rw[<-yh,aiK,anU] at T
    have O:gL (encS s (bo l i s.dflt))=qd s (bo l i s.dflt):=by rw[yh,acP]
    rw[O] at T
    have y:(i+1)*s.sz<=l.length*s.sz:=Nat.mul_le_mul_right _ N
    rw[Nat.succ_mul] at y
    have u:∀c∈sy E (gL (ρ x).cellsOf),Plain c:=by
     intro c hc
     obtain⟨j,hj⟩:=List.mem_iff_getElem?.1 hc
     have U:=(List.getElem?_eq_some_iff.1 hj).1
     rw[aez,MF,C] at U
     have a1:(Ai (qd s (bo l i s.dflt)) b (sy E (gL (ρ x).cellsOf)))[b+j]?=some c:=by
      have a0:∀(r f:List AV) (b j:Nat) (c:AV),r[j]?=some c->b+r.length<=f.length->(Ai f b r)[b+j]?=some c:=by
       intro r
       induction r with
       |nil=>simp_all
       |cons w r ih=>
        intro f b j c h M;simp only[List.length_cons] at M;simp only[Ai]
        cases j with
        |zero=>
         simp only[List.getElem?_cons_zero,Option.some.injEq] at h;subst h
         have F:∀(r f:List AV) (Z k:Nat),k<Z->(Ai f Z r)[k]?=f[k]?:=by
          intro r
          induction r<;>grind[Ai]
         grind
        |succ j=>
         have:=ih (f.set b w) (b+1) j c (by simpa using h) (by simp;omega)
         grind
      grind[aez,MF,X0]
     grind[aiB]
    obtain⟨G,Q⟩:=anV u
    simp only[fi,B,SV.g,zo z,cC.g,akW,xl,MF]
    rw[if_pos ⟨trivial,C,G,by omega,.inr Q⟩,acR,cC.g,aBh N (by grind[aez,MF]) T]
   simp_all
  simp_all
 ·rename_i W d Y t L i B
  split at h
  ·rename_i f e a3 E z
   split at h
   ·rename_i v H
    split at h
    ·rename_i l M
     split at h
     ·rename_i D
      obtain⟨V,C⟩:=D
      rw[show aeM l i v 0=l.set i v from atL (j:=0)] at h
      obtain⟨N,hk⟩:=h
      refine⟨.ud,_,?_,hk⟩
      have S:(ρ x).cellsOf=[ρ x]:=by
       cases hr:ρ x<;>rw[hr] at H<;>simp[SV.int] at H<;>rfl
      have I:(ρ x).g= .sc (iv v):=EG H
      have A:=akN M
      have a2:l.length=t:=by
       have:=congrArg List.length A
       grind
      have J:gL f=gL (f.take d)++(l.map fun n=>AV.sc (iv n))++gL (f.drop (d+t)):=by
       rw[<-A,yh,yh,yh,<-List.map_append,<-List.map_append]
       congr 1
       rw[<-List.drop_drop,List.append_assoc,List.take_append_drop,List.take_append_drop]
      have a4:(gL (f.take d)).length=d:=by grind[MF]
      have hq:sy E [AV.sc (iv v)]=[AV.sc (iv v)]:=by unfold sy;split<;>rfl
      simp only[fi,B,SV.g,zo z,cC.g,I,aBw,List.length_singleton,MF,hq]
      rw[if_pos ⟨V,trivial,by simp[s5,AV.one,iv,Value.oneCell'],by omega,.inr (by simp[pZ,AV.pure])⟩,acR,cC.g,aiK]
      congr 4
      have e1:gL ((l.set i v).map (SV.si .i64))=(l.set i v).map fun n=>AV.sc (iv n):=by
       rw[yh,List.map_map];rfl
      rw[e1,J]
      have hm:=anW ((l.set i v).map fun n=>AV.sc (iv n)) (gL (f.take d)) (l.map fun n=>AV.sc (iv n)) (gL (f.drop (d+t))) 0 (by simp)
      grind[aBv,Ai]
     simp_all
    simp_all
   simp_all
  simp_all
 simp_all
theorem aBy {ρ:Operand->SV} {e:TypeId} {sz b:Nat} {s x:Operand} {pu:Bool} (h:uq p (.append e sz b s x pu) ρ o ei K):
  ∃(v:SV) (o':ie),fi call (.append e sz b s x pu) (fun x=>(ρ x).g) (gO o) ei=some (v.g,gO o')/\K v o':=by
 simp only[uq] at h;split at h
 ·rename_i t tl U a
  split at h
  ·rename_i S n G j m R k M
   split at h
   ·rename_i O l Z I H
    split at h
    ·rename_i F
     obtain⟨rfl,q,rfl,rfl,rfl,rfl,i,w⟩:=F
     obtain⟨rfl,C,y,B⟩:=h
     rw[M] at a;unfold atl at a;split at a
     ·rename_i j' W Y
      injection Y with e1 N e3;subst e1 N e3;split at a
      ·rename_i s2 N L D
       split at a
       ·rename_i A
        injection a with a;subst a
        refine⟨_,_,?_,B⟩
        have E:aaC (gO o) t.sz (.os j 0 1 (1*t.sz))=some (1,gL L):=by
         simp only[aaC,zo D,cC.g,jY,List.flatMap_nil,List.nil_append,MF]
         rw[if_pos ⟨by omega,A,by omega⟩,List.drop_zero,List.take_of_length_le (by grind[MF])]
        have J:s5 (gL L)=true:=by grind[akX]
        simp only[fi,k,M,SV.g,acF];simp only[E,J,Bool.true_eq_false,if_false,zo H,cC.g,xl,q]
        rw[if_pos ⟨trivial,trivial,trivial,trivial,C,y,.inl trivial⟩,acR,cC.g]
        grind
       ·cases a
      ·cases a
     ·cases a
    simp_all
   simp_all
  simp_all
 ·rename_i t U _
  split at h
  ·rename_i z
   subst z
   obtain⟨f,V,d⟩:=aBq h
   have r:s5 (jY t f)=true:=akQ _ _
   have c:pZ (jY t f)=true:=acQ _ _
   simp only[fi,acF,V,r,Bool.true_eq_false,if_false];split at d
   ·rename_i k
    rw[k];simp only[SV.g]
    by_cases u:f.length=0
    ·exact⟨_,_,by simp only[u,if_true];rfl,d.1 u⟩
    ·obtain⟨q,i,w⟩:=d.2 u
     obtain⟨o',P,Q⟩:=afI w
     refine⟨_,o',?_,Q⟩
     simp only[cC.g] at P
     rw[if_neg u,if_pos ⟨q,i,.inr c⟩,P]
     rfl
   ·rename_i S n G k
    split at d
    ·rename_i O l Z I H
     split at d
     ·rename_i F
      obtain⟨rfl,q,rfl⟩:=F
      obtain⟨rfl,i,w,C⟩:=d
      obtain⟨l',y,B⟩:=J8 C
      obtain⟨rfl,T,X⟩:=aiO y
      refine⟨_,_,?_,B⟩
      rw[k];simp only[SV.g,zo H,cC.g,xl]
      rw[if_pos ⟨trivial,trivial,trivial,trivial,i,w,.inr c⟩,acR,cC.g,ath,T]
      grind
     simp_all
    simp_all
   ·rename_i O l k
    obtain⟨q,i⟩:=d
    refine⟨_,_,?_,i⟩
    simp_all[SV.g]
   simp_all
  simp_all
 simp_all
theorem atM {mx:Bool} {a b:Int}:(if mx then(if b>a then b else a) else(if b<a then b else a))=if mx then max a b else min a b:=by
 grind
theorem aBz (hC:acd call p.C) {op:kh} {ρ:Operand->SV} (h:uq p op ρ o ei K):
  ∃(v:SV) (o':ie),fi call op (fun x=>(ρ x).g) (gO o) ei=some (v.g,gO o')/\K v o':=by
 cases op with
 |mov x=>exact⟨_,_,rfl,h⟩
 |pick c a b=>
  simp only[uq] at h;split at h
  ·grind[fi,SV.g]
  ·grind[fi,SV.g]
  ·rename_i c hc
   cases c<;>grind[fi,SV.g]
  simp_all
 |alloc z e pu=>
  obtain⟨o',hm,hk⟩:=afI h
  grind[cC.g,an7,fi,SV.g]
 |box e x=>
  simp only[uq] at h;split at h
  ·rename_i h1
   obtain⟨o',hm,hk⟩:=afI h
   simp only[cC.g] at hm
   exact⟨_,o',by simp_all[fi,akW,akX,MF,SV.g],hk⟩
  simp_all
 |build z parts=>
  simp only[uq] at h
  obtain⟨cs,h1,h2⟩:=J8 h
  have:=aBt h1
  grind[an7,fi,SV.g]
 |abZ z len parts e sz=>
  simp only[uq] at h;split at h
  ·rename_i s cs hs hf
   split at h
   ·rename_i hsz
    split at h
    ·rename_i hany
     split at h
     ·rename_i hlen
      obtain⟨o',hm,hk⟩:=afI h
      simp only[cC.g,jY,List.flatMap_nil,List.nil_append] at hm
      have hfa:=an6 hf
      rw[an8] at hfa
      refine⟨_,o',?_,hk⟩
      subst hsz
      have hp:pZ (gL cs)=false:=by
       clear hf hfa hm hlen h
       induction cs with
       |nil=>simp at hany
       |cons c cs ih=>
        simp only[List.any_cons,Bool.or_eq_true] at hany;simp only[gL,pZ]
        rcases hany with hc|hc
        ·have h9:c.g.pure=false:=by
          cases c<;>grind[SV.g,AV.pure,SV.atm]
         simp_all
        simp_all
      simp_all[fi,sy,SV.g]
     simp_all
    obtain⟨l,h1,h2⟩:=J8 h
    obtain⟨h3,h4⟩:=ak1 h1
    obtain⟨o',hm,hk⟩:=afI h2
    simp only[cC.g] at hm
    have hfa:=an6 hf
    rw[an8] at hfa
    refine⟨_,o',?_,hk⟩
    subst hsz;rw[anT] at h3
    have hp:pZ (gL cs)=true:=(anV (pu:=true) (cs:=gL cs) fun c hc=>aaL (s:=s) (l:=l) (by rw[<-h3];exact hc)).2
    grind[sy,fi,SV.g]
   simp_all
  simp_all
 |aes z len parts e sz=>
  simp only[uq] at h;split at h
  ·rename_i s cs hs hf
   split at h
   ·rename_i hsz
    obtain⟨l,h1,h2⟩:=J8 h
    obtain⟨h3,h4⟩:=ak1 h1
    have hfa:=an6 hf
    rw[an8] at hfa;rw[anT] at h3
    have hp:pZ (gL cs)=true:=(anV (pu:=true) (cs:=gL cs) fun c hc=>aaL (s:=s) (l:=l) (by rw[<-h3];exact hc)).2
    have hq:sy true (gL cs)=jY s l:=h3
    exact⟨_,_,by simp_all[fi,SV.g],h2⟩
   simp_all
  simp_all
 |load n a=>
  simp only[uq] at h
  grind[atA,fi]
 |store n a x=>exact aBx h
 |afh x=>
  simp only[uq] at h
  grind[fi,SV.g]
 |bin op x y=>
  simp only[uq] at h
  grind[aBm,fi]
 |beq neg x y=>
  simp only[uq] at h;split at h
  ·rename_i a b h1 h2
   exact⟨_,_,by simp_all[fi,agY,SV.g],h⟩
  simp_all
 |eqf neg ks x y=>
  simp only[uq] at h;split at h
  ·rename_i a b h1 h2
   split at h
   ·rename_i hk
    obtain⟨r,hr,h3⟩:=J8 h
    grind[fi,SV.g,aBo]
   simp_all
  simp_all
 |un op x=>
  simp only[uq] at h
  split at h<;>grind[fi,SV.g,unA,ak0]
 |conv k x=>
  simp only[uq] at h;split at h
  ·grind[fi,SV.g]
  ·grind[fi,SV.g,ak0]
  ·rename_i kk n _ hx;exact⟨.si k (um k n),_,by grind[fi,SV.g],aiM h⟩
  simp_all
 |afi off x=>
  simp only[uq] at h
  grind[fi,SV.g,abz]
 |field off n x=>
  simp only[uq] at h;split at h
  ·rename_i cs hx
   obtain⟨v,h1,h2⟩:=J8 h
   grind[fi,SV.g,akZ]
  simp_all
 |afj len sz x i=>
  simp only[uq] at h;split at h
  ·rename_i k n hi
   split at h
   ·rename_i hn
    split at h
    ·rename_i hx;exact⟨_,_,by simp_all[fi,SV.g,DW,abz],h⟩
    ·rename_i hx;exact⟨_,_,by simp only[fi,hi,hx,SV.g,DW,if_pos hn,abz,Option.map_some,Nat.add_assoc],h⟩
    ·rename_i hx;exact⟨_,_,by simp only[fi,hi,hx,SV.g,DW,if_pos hn,abz,Option.map_some,Nat.add_assoc],h⟩
    simp_all
   simp_all
  ·rename_i k n hi
   split at h
   ·rename_i hx;exact⟨_,_,by simp_all[fi,SV.g,DW,abz],h.2.2⟩
   simp_all
  simp_all
 |adT sz x i=>
  simp only[uq] at h;split at h
  ·rename_i n hi
   have hi:=an2 hi
   split at h
   ·rename_i s l hx
    split at h
    ·rename_i hsz
     subst hsz
     obtain⟨h1,h2,h3⟩:=h
     refine⟨_,_,?_,h3⟩
     simp_all[fi,SV.g,acE,xl]
    simp_all
   ·rename_i id m sz' hx
    split at h
    ·rename_i s l e pu ho
     split at h
     ·rename_i hsz
      obtain⟨rfl,rfl⟩:=hsz
      obtain⟨rfl,h1,h2,h3⟩:=h
      refine⟨_,_,?_,h3⟩
      simp_all[fi,SV.g,acE,zo,cC.g,xl,ab4]
     simp_all
    simp_all
   ·rename_i id off len m sz' hx
    split at h
    ·rename_i s l e pu ho
     split at h
     ·rename_i hsz
      obtain⟨rfl,rfl⟩:=hsz
      obtain⟨rfl,h1,h2,h4,h3⟩:=h
      refine⟨_,_,?_,h3⟩
      have hm:(off+len)*s.sz<=l.length*s.sz:=Nat.mul_le_mul_right _ h4
      rw[Nat.add_mul] at hm;simp only[fi,hi,hx,SV.g,acE,zo ho,cC.g,xl]
      rw[ab4 (by omega),if_pos ⟨trivial,trivial,h1,h2,hm⟩]
      grind
     simp_all
    simp_all
   ·rename_i id off len m sz' hx
    split at h
    ·rename_i s l e pu ho
     split at h
     ·rename_i hsz
      obtain⟨rfl,rfl⟩:=hsz
      obtain⟨rfl,h1,h2,h4,h3⟩:=h
      refine⟨_,_,?_,h3⟩
      have hm:(off+len)*s.sz<=l.length*s.sz:=Nat.mul_le_mul_right _ h4
      have hp:=anE s
      rw[Nat.add_mul] at hm;simp only[fi,hi,hx,SV.g,acE,zo ho,cC.g,xl]
      rw[akp (by omega),show off*s.sz+(l.length*s.sz+s.sz) - l.length*s.sz - s.sz=off*s.sz by omega,if_pos ⟨trivial,trivial,h1,h2,hm⟩]
      grind
     simp_all
    simp_all
   simp_all
  simp_all
 |idx len sz n x i=>
  simp only[uq] at h;split at h
  ·rename_i k' k cs hi hx
   split at h
   ·rename_i hk
    obtain⟨v,h1,h2⟩:=J8 h
    exact⟨_,_,by simp_all[fi,SV.g,DW,akZ],h2⟩
   simp_all
  ·rename_i k' k cs hi hx
   split at h
   ·rename_i l _ _ hl
    split at h
    ·rename_i hll
     obtain⟨h1,h2,h3⟩:=h
     refine⟨_,_,?_,h3⟩
     obtain⟨h4,h5⟩:=aty hl
     simp_all[fi,SV.g,DW,AX,aeO]
    simp_all
   simp_all
  simp_all
 |agv x i=>simp_all[uq]
 |acC z e sz bytes l c pu=>
  simp only[uq] at h;split at h
  ·rename_i n m s hn hm hs
   have hn:=an2 hn
   have hm:=an2 hm
   split at h
   ·rename_i hsz
    subst hsz
    obtain⟨x,hx,h1,h2,h3,h4,h5⟩:=J8 h
    obtain⟨o',hmk,hk⟩:=afI h5
    refine⟨_,o',?_,hk⟩
    have hd:=aaK hx
    rw[<-yh,anU,an7] at hd
    simp_all[cC.g,fi,aBu,SV.g]
   simp_all
  simp_all
 |slice sz x lo hi=>
  simp only[uq] at h;split at h
  ·rename_i s l hx
   split at h
   ·rename_i hsz
    subst hsz
    obtain⟨a,ha,h1⟩:=ab9 h
    obtain⟨b,hb,h2,h3,h4⟩:=ab9 h1
    refine⟨_,_,?_,h4⟩
    rw[aiP] at ha hb
    have hlen:((l.drop a).take (b - a)).length=b - a:=by simp;omega
    simp_all[fi,SV.g,acG,xl,aiL]
   simp_all
  ·rename_i id m sz' hx
   split at h
   ·rename_i s l e pu ho
    split at h
    ·rename_i hsz
     obtain⟨rfl,rfl⟩:=hsz
     obtain⟨rfl,h⟩:=h
     obtain⟨a,ha,h1⟩:=ab9 h
     obtain⟨b,hb,h2,h3,h4⟩:=ab9 h1
     refine⟨_,_,?_,h4⟩
     rw[aiP] at ha hb
     simp_all[fi,SV.g,acG,zo,cC.g,xl]
    simp_all
   simp_all
  ·rename_i id off len m sz' hx
   split at h
   ·rename_i s l e pu ho
    split at h
    ·rename_i hsz
     obtain⟨rfl,rfl⟩:=hsz
     obtain⟨rfl,h⟩:=h
     obtain⟨a,ha,h1⟩:=ab9 h
     obtain⟨b,hb,h2,h3,h4⟩:=ab9 h1
     refine⟨_,_,?_,h4⟩
     rw[aiP] at ha hb;simp only[fi,hx,SV.g,acG,ha,hb,zo ho,cC.g,xl]
     grind
    simp_all
   simp_all
  simp_all
 |slice3 sz x lo hi mx=>
  simp only[uq] at h;split at h
  ·rename_i s l hx
   split at h
   ·rename_i hsz
    subst hsz
    obtain⟨a,ha,h1⟩:=ab9 h
    obtain⟨b,hb,h2⟩:=ab9 h1
    obtain⟨m,hm,h3,h4,h5,h6⟩:=ab9 h2
    refine⟨_,_,?_,h6⟩
    rw[aiP] at ha;simp only[Option.map_some] at hb hm
    have hlen:((l.drop a).take (b - a)).length=b - a:=by simp;omega
    simp_all[fi,SV.g,adW,xl,aiL]
   simp_all
  ·rename_i id n sz' hx
   split at h
   ·rename_i s l e pu ho
    split at h
    ·rename_i hsz
     obtain⟨rfl,rfl⟩:=hsz
     obtain⟨rfl,h⟩:=h
     obtain⟨a,ha,h1⟩:=ab9 h
     obtain⟨b,hb,h2⟩:=ab9 h1
     obtain⟨m,hm,h3,h4,h5,h6⟩:=ab9 h2
     refine⟨_,_,?_,h6⟩
     rw[aiP] at ha;simp only[Option.map_some] at hb hm;simp only[fi,hx,SV.g,adW,ha,hb,hm,zo ho,cC.g,xl]
     simp_all[anE]
    simp_all
   simp_all
  simp_all
 |afk x lo hi=>simp_all[uq]
 |append e sz bytes s x pu=>exact aBy h
 |len k x=>
  simp only[uq] at h;split at h
  ·grind[fi,SV.g,W7]
  ·grind[fi,SV.g,W7]
  ·grind[fi,SV.g,W7]
  ·grind[fi,SV.g,W7]
  ·grind[fi,SV.g,W7]
  ·grind[fi,SV.g,W7]
  ·rename_i id hx
   split at h
   ·rename_i sk sv ka es kt pu ho
    exact⟨_,_,by simp_all[fi,SV.g,W7,zo,cC.g],h⟩
   simp_all
  simp_all
 |afl n=>exact⟨_,_,rfl,h⟩
 |mm mx x y=>
  simp only[uq] at h;split at h
  ·rename_i hx hy
   split at h
   ·rename_i hk
    exact⟨_,_,by simp_all[fi,SV.g],h⟩
   simp_all
  ·rename_i k a hx
   obtain⟨b,hb,h2⟩:=J8 h
   exact⟨_,_,by simp only[fi,hx,EG hb,SV.g,if_true,atM],h2⟩
  ·rename_i k a hx _
   obtain⟨b,hb,h2⟩:=J8 h
   exact⟨_,_,by simp only[fi,hx,EG hb,SV.g,if_true,atM],h2⟩
  simp_all
 |call f args own=>
  simp only[uq] at h
  grind[atJ,an5,fi]
 |MC f args own=>
  simp only[uq] at h
  grind[atJ,afG,an5,fi,SV.g]
 |extract x i=>
  simp only[uq] at h;split at h
  ·rename_i vs hx
   obtain⟨v,h1,h2⟩:=J8 h
   grind[fi,SV.g,aeO]
  simp_all
 |aeu f first captured=>exact⟨_,_,by grind[fi,SV.g,an5],h⟩
 |acD kt pu=>
  simp only[uq] at h
  grind[afI,cC.g,fi,SV.g]
 |lookup z agg ks ka x k ok=>
  simp only[uq] at h;split at h
  ·rename_i id hx
   split at h
   ·rename_i sk sv ka' es kt pu ho
    split at h
    ·rename_i hh
     obtain⟨rfl,rfl,h1,h2,rfl,h4,h5,h6⟩:=hh
     obtain⟨kv,hkv,h7⟩:=J8 h
     obtain⟨zv,hzv,h8⟩:=J8 h7
     have hkey:=atF h5 h6 (atI h1) hkv
     have hz:ac5 z false=some (aaI sv zv):=by
      have hd:=aaK hzv
      rw[anR,atH h2] at hd
      cases z with
      |nil=>simp at hd
      |cons a r=>
       simp_all[ac5]
     obtain⟨r,hr,hm⟩:=an3 (sv:=sv) h1 h4 kv es 0
     refine⟨_,_,?_,h8⟩
     simp only[fi,hx,SV.g,hkey,zo ho,cC.g,if_true,hr,hz]
     cases hf:abd sk sv kv es with
     |some v=>
      rw[hf] at hm
      obtain⟨j,rfl,_⟩:=hm
      simp only[Option.getD_some]
      cases ok<;>simp only[Bool.false_eq_true,if_false,if_true,SV.g,gL,atG h2,Option.isSome_some,Option.isSome_none]
     |none=>
      rw[hf] at hm
      obtain⟨rfl,_⟩:=hm
      simp only[Option.getD_none]
      cases ok<;>simp only[Bool.false_eq_true,if_false,if_true,SV.g,gL,atG h2,Option.isSome_some,Option.isSome_none]
    simp_all
   simp_all
  simp_all
 |ac4 ks ka x k v=>
  simp only[uq] at h;split at h
  ·rename_i id hx
   split at h
   ·rename_i sk sv ka' es kt pu ho
    split at h
    ·rename_i hh
     obtain⟨rfl,rfl,h1,h2,h4,h5,h6,h9⟩:=hh
     obtain⟨kv,hkv,h7⟩:=J8 h
     obtain⟨vv,hvv,h8⟩:=J8 h7
     have hkey:=atF h5 h6 (atI h1) hkv
     have hv:(ρ v).g=aaI sv vv:=by
      have hd:=aaK hvv
      rw[atH h2] at hd
      have hc:(ρ v).cellsOf=[ρ v]:=by
       revert h9
       cases ρ v<;>simp[SV.cellsOf,afD]
      simp_all
     obtain⟨r,hr,hm⟩:=an3 (sv:=sv) h1 h4 kv es 0
     refine⟨_,_,?_,h8⟩
     have hpure:(aaI sv vv).pure=true:=by simp[aaI,AV.pure]
     simp only[fi,hx,SV.g,hkey,zo ho,cC.g,hv,hpure,hr,acR]
     rw[if_neg (by simp)]
     cases hf:abd sk sv kv es with
     |some w=>
      rw[hf] at hm
      obtain⟨j,rfl,h10,h11⟩:=hm
      rw[atE h10 h11]
      simp_all[atK]
     |none=>
      grind[an4]
    simp_all
   simp_all
  simp_all
end
mutual
theorem an9 {o:Store} {k:Nat}:∀{v:AV},v.ig k=true->v.gy o (fun i=>decide (k<=i))=some v
 | .os m d j e,h=>by
  simp_all[AV.ig,AV.gy,if_neg]
 | .ptr m d e,h=>by
  simp_all[AV.ig,AV.gy,if_neg]
 | .agg g,h=>by simp only[AV.ig] at h;simp only[AV.gy,ag8 h,Option.map_some]
 | .eW g,h=>by simp only[AV.ig] at h;simp only[AV.gy,ag8 h,Option.map_some]
 | .fn f a b,h=>by
  simp only[AV.ig,Bool.and_eq_true] at h;simp only[AV.gy,ag8 h.1,ag8 h.2]
 | .ud,_| .sc _,_| .sl _ _,_| .ep _ _,_| .mp _,_=>by simp only[AV.gy]
theorem ag8 {o:Store} {k:Nat}:∀{l:List AV},sf k l=true->BK o (fun i=>decide (k<=i)) l=some l
 |[],_=>by simp[BK]
 |c::g,h=>by
  simp only[sf,Bool.and_eq_true] at h;simp only[BK,an9 h.1,ag8 h.2]
end
theorem atN {o:Store} {k:Nat}:∀{l:List (Value×AV)},sf k (l.map (·.2))=true->acI o (fun i=>decide (k<=i)) l=some l
 |[],_=>by simp[acI]
 |(q,c)::a,h=>by
  simp only[List.map_cons,sf,Bool.and_eq_true] at h;simp only[acI,an9 h.1,atN h.2]
theorem aBA {o:Store} {k:Nat} {x:fZ} (h:x.ig k=true):x.gy o (fun i=>decide (k<=i))=some x:=by
 cases x with
 |dead=>rfl
 |cells b e f a=>
  cases a with
  |true=>simp only[fZ.gy,if_true]
  |false=>simp_all[fZ.ig,fZ.gy,ag8]
 |map d c a=>
  cases a with
  |true=>simp only[fZ.gy,if_true]
  |false=>simp_all[fZ.ig,fZ.gy,atN]
theorem atO {o:Store} {k:Nat}:∀{r:Store},(∀x∈r,x.ig k=true)->Kv o (fun i=>decide (k<=i)) r=some r
 |[],_=>rfl
 |x::r,h=>by
  simp only[Kv,aBA (h x (by simp)),atO (r:=r) fun y a=>h y (by simp[a])]
theorem atP {k:Nat}:∀{o:Store} {i:Nat},(zl (fun j=>decide (k<=j)) i o).take (k - i)=o.take (k - i)
 |[],i=>by simp[zl]
 |x::r,i=>by
  simp only[zl]
  by_cases a:i<k
  ·rw[show k - i=(k - (i+1))+1 from by omega,List.take_succ_cons,List.take_succ_cons,atP]
   grind
  simp_all
theorem aHK {k i:Nat} (h:i<k):(List.range k).contains i=true:=by simp[h]
theorem atQ {o:Store} {k:Nat}:∀{d:Nat} {vs:List AV},sf k vs=true->kD o d vs (List.range k)=List.range k:=by
 intro d
 induction d with
 |zero=>grind[kD]
 |succ d e=>
  intro vs h
  cases vs with
  |nil=>simp[kD]
  |cons v vs=>
   simp only[sf,Bool.and_eq_true] at h
   have i:=h.1
   simp only[kD]
   cases v with
   |agg g=>grind[AV.ig]
   |eW g=>grind[AV.ig]
   |fn f a b=>grind[AV.ig]
   |ptr c _ _=>simp_all[AV.ig]
   |os c _ _ _=>simp_all[AV.ig]
   |mp c=>simp_all[AV.ig]
   |_=>simp only[e h.2]
theorem atS:∀{n s i p:Nat},s<=i->i<s+n->idxOf (List.range' s n) i p=some (p+(i - s))
 |0,s,i,p,a,b=>by omega
 |n+1,s,i,p,a,b=>by
  simp only[List.range'_succ,idxOf]
  by_cases h:s=i
  ·subst h;simp
  ·have:(s==i)=false:=by simpa using h
   rw[this];simp only[Bool.false_eq_true,if_false]
   rw[atS (by omega) (by omega)]
   grind
theorem aoa {k i:Nat} (h:i<k):idxOf (List.range k) i=some i:=by
 rw[List.range_eq_range',atS (by omega) (by omega)]
 simp
mutual
theorem ak2 {k:Nat}:∀{v:AV},v.ig k=true->v.ren (fun j=>idxOf (List.range k) j)=some v
 | .os g d m e,h=>by simp_all[AV.ig,AV.ren,aoa]
 | .ptr g d e,h=>by simp_all[AV.ig,AV.ren,aoa]
 | .mp g,h=>by simp_all[AV.ig,AV.ren,aoa]
 | .agg i,h=>by simp only[AV.ig] at h;simp only[AV.ren,ag9 h,Option.map_some]
 | .eW i,h=>by simp only[AV.ig] at h;simp only[AV.ren,ag9 h,Option.map_some]
 | .fn f a b,h=>by
  simp only[AV.ig,Bool.and_eq_true] at h;simp only[AV.ren,ag9 h.1,ag9 h.2]
 | .ud,_| .sc _,_| .sl _ _,_| .ep _ _,_=>by simp only[AV.ren]
theorem ag9 {k:Nat}:∀{l:List AV},sf k l=true->J1 (fun j=>idxOf (List.range k) j) l=some l
 |[],_=>by simp[J1]
 |c::i,h=>by
  simp only[sf,Bool.and_eq_true] at h;simp only[J1,ak2 h.1,ag9 h.2]
end
theorem atT {k:Nat}:∀{l:List (Value×AV)},sf k (l.map (·.2))=true->abA (fun j=>idxOf (List.range k) j) l=some l
 |[],_=>by simp[abA]
 |(q,c)::a,h=>by
  simp only[List.map_cons,sf,Bool.and_eq_true] at h;simp only[abA,ak2 h.1,atT h.2]
theorem aBB {k:Nat} {x:fZ} (h:x.ig k=true):x.ren (fun j=>idxOf (List.range k) j)=some x:=by
 cases x with
 |dead=>rfl
 |cells b e f a=>
  cases a with
  |true=>simp only[fZ.ren,if_true]
  |false=>simp_all[fZ.ig,fZ.ren,ag9]
 |map d c a=>
  cases a with
  |true=>simp only[fZ.ren,if_true]
  |false=>simp_all[fZ.ig,fZ.ren,atT]
theorem aob {k:Nat} {o:Store} (a:∀x∈o.take k,x.ig k=true) (c:k<=o.length):∀{n s:Nat},s+n=k->S0 o (List.range k) (List.range' s n)=some ((o.take k).drop s)
 |0,s,h=>by
  grind[S0]
 |n+1,s,h=>by
  simp only[List.range'_succ,S0]
  have d:s<o.length:=by omega
  have e:o[s]?=some o[s]:=List.getElem?_eq_getElem d
  rw[e,aob a c (by omega)]
  have f:o[s]∈o.take k:=by
   rw[List.mem_take_iff_getElem]
   grind
  simp only[aBB (a _ f),Option.map_some]
  congr 1
  have b:s<(o.take k).length:=by simp;omega
  rw[List.drop_eq_getElem_cons b]
  simp
theorem nodup_range':∀{n s:Nat},Hh.ab0 (List.range' s n)=true
 |0,_=>by simp[Hh.ab0]
 |n+1,s=>by
  simp only[List.range'_succ,Hh.ab0,nodup_range',Bool.and_true,Bool.not_eq_true']
  grind
theorem atU {k:Nat}:∀{a b:List AV},sf k a=true->sf k b=true->sf k (a++b)=true
 |[],b,_,h=>h
 |x::a,b,h,c=>by
  simp only[sf,Bool.and_eq_true] at h;simp only[List.cons_append,sf,h.1,atU h.2 c,Bool.and_self]
theorem aoc {k:Nat}:∀{o:Store},(∀x∈o,x.ig k=true)->sf k (o.flatMap XP.fZ.avs)=true
 |[],_=>by simp[sf]
 |x::o,h=>by
  simp only[List.flatMap_cons]
  refine atU ?_ (aoc fun y a=>h y (by simp[a]))
  have b:=h x (by simp)
  cases x<;>grind[XP.fZ.avs,sf,fZ.ig]
theorem atV {k:Nat} {r:AV} {o:Store} (e:r.ig k=true) (b:∀x∈o,x.ig k=true) (j:k<=o.length):XP k r o=some (r,o.take k):=by
 unfold XP;rw[an9 e,atO b]
 simp only
 have a:(zl (fun i=>decide (k<=i)) 0 o).take k=o.take k:=by simpa using atP (k:=k) (o:=o) (i:=0)
 have d:∀{o:Store} {i:Nat},(zl (fun i=>decide (k<=i)) i o).length=o.length:=by
  intro o
  induction o with
  |nil=>intro i;rfl
  |cons x o l=>simp_all[zl]
 have h:∀x∈o.take k,x.ig k=true:=fun x g=>b x (List.mem_of_mem_take g)
 rw[a,atQ (by grind[sf,aoc])]
 have f:Hh.ab0 (List.range k)=true:=by rw[List.range_eq_range'];exact nodup_range'
 rw[if_pos f,ak2 e]
 have c:=aob (k:=k) (o:=zl (fun i=>decide (k<=i)) 0 o) (by simp_all) (by simp_all) (n:=k) (s:=0) (by omega)
 rw[<-List.range_eq_range',a,List.drop_zero] at c;rw[c]
theorem aod:∀{env:xJ} {s:Nat} {v:SV},(MD env s).g=v.g->gE (ag1 env s v)=gE env
 |[],_,_,_=>rfl
 |p::r,s,v,h=>by
  simp only[ag1,MD] at h ⊢
  cases a:Nat.beq p.1 s with
  |true=>
   simp_all[gE]
  |false=>
   rw[a] at h;simp only[cond_false] at h ⊢
   have:=aod h
   grind[gE]
theorem aBC {env:xJ} {g:Option (Option Nat×Bool)} {K:xJ->Bool->Prop} (h:anL env g K):∃a w,gE a=gE env/\Zo (gE env) g=some w/\K a w:=by
 unfold anL at h;split at h
 ·exact⟨_,_,rfl,rfl,h⟩
 ·exact h.elim
 ·rename_i s b
  split at h
  ·grind[Zo,abh,SV.g]
  ·rename_i c d
   cases c<;>grind[aod,Zo,abh,SV.g]
  all_goals grind[Zo,abh,SV.g,gL]
section
variable {call:lU} {p:HT}
theorem atW:∀{a b:ie},ME a b->gO a=gO b
 |[],[],_=>rfl
 |x::a,y::b,h=>by
  obtain⟨c,d⟩:=h
  have e:x.g=y.g:=c
  simp only[gO,List.map_cons,e]
  congr 1
  exact atW d
def afJ:Trace->Trace->Prop
 |[],[]=>True
 |x::a,y::b=>(x.1=y.1/\x.2.1=y.2.1/\∀j∈x.2.2,j∈y.2.2)/\afJ a b
 |_,_=>False
theorem afJ.look:∀{a b:Trace} {i:Nat},afJ a b->(acH a i).1=(acH b i).1/\∀j∈(acH a i).2,j∈(acH b i).2
 |[],[],_,_=>⟨rfl,fun j h=>h⟩
 |(k,x)::a,(g,y)::b,i,h=>by
  obtain⟨⟨c,e,d⟩,f⟩:=h
  simp only at c e d
  subst c;simp only[acH];split
  ·exact⟨e,d⟩
  ·exact afJ.look f
theorem aBD {a b d c:List Nat} (f:∀j∈a,j∈d) (e:∀j∈b,j∈c) (h:agx d c=true):agx a b=true:=by
 grind[agx]
theorem aBE {n:Nat} {a b:Trace} {c:List (Nat×Nat)} (h:afJ a b) (d:aew n b c=true):aew n a c=true:=by
 unfold aew at d ⊢;rw[List.all_eq_true] at d ⊢;intro p e
 have l:=d p e
 obtain⟨g,k⟩:=h.look (i:=p.1)
 obtain⟨f,j⟩:=h.look (i:=p.2)
 grind[aBD]
theorem aoe (u:acd call p.C) {base:Nat}:∀{d:List og} {st:iz} {l:Trace} {K:iz->Trace->Prop},ag2 p base d st l K->
  ∃st' T,An call base d st.g=some st'.g/\afJ (Zp call base d st.g) T/\K st' (T.reverse++l)
 |[],st,l,K,h=>⟨st,[],rfl,trivial,h⟩
 |i::r,st,l,K,h=>by
  simp only[ag2] at h
  obtain⟨a,w,B,s,q⟩:=aBC h
  have A:st.g=⟨gE a,gO st.o⟩:=by grind[iz.g]
  rw[<-B] at s
  cases w with
  |true=>
   simp only[if_true] at q
   obtain⟨v,y,E,c⟩:=aBz u q
   have b:EE call base i st.g=some (iz.g ⟨afy a i.dst v,y⟩):=by
    grind[EE,att,aif,iz.g,atq]
   have k:∀W:List Nat,(∀j∈sX call i.op (fun x=>(Ky a x).g) (gO st.o) (base+i.ei),j∈W)->
     ag2 p base r ⟨afy a i.dst v,y⟩ ((i.idx,qq i.op (fun x=>(Ky a x).g) (st.o.map cC.g) (base+i.ei),W)::l) K->
     ∃st' T,An call base (i::r) st.g=some st'.g/\afJ (Zp call base (i::r) st.g) T/\K st' (T.reverse++l):=fun W G c=>by
    obtain⟨st',T,D,z,F⟩:=aoe u c
    refine⟨st',(i.idx,qq i.op (fun x=>(Ky a x).g) (st.o.map cC.g) (base+i.ei),W)::T,by grind[An],?_,?_⟩
    ·simp only[Zp,b]
     rw[A];simp only[s,att]
     exact⟨⟨rfl,rfl,G⟩,z⟩
    simp_all
   unfold roK at c;split at c
   ·rename_i f n t
    split at c
    ·obtain⟨H,c⟩:=c
     refine k [] (fun j m=>?_) c
     rw[t] at E m
     have e:Hh call f (n.map fun x=>(Ky a x).g) (gO st.o)=some (v.g,gO y):=by simp_all[fi,Gj]
     simp only[sX,e,List.mem_filter,decide_eq_true_eq] at m
     grind[atW]
    ·exact k _ (fun j m=>anu m) c
   ·exact k _ (fun j m=>anu m) c
  |false=>
   simp only[Bool.false_eq_true,if_false] at q
   obtain⟨st',T,D,z,F⟩:=aoe u q
   have b:EE call base i st.g=some (iz.g ⟨afy a i.dst (.eW []),st.o⟩):=by
    grind[EE,iz.g,atq,SV.g,gL]
   refine⟨st',(i.idx,[],[])::T,by grind[An],?_,?_⟩
   ·simp only[Zp,b]
    rw[A];simp only[s]
    exact⟨⟨rfl,rfl,fun j h=>h⟩,z⟩
   simp_all
theorem aBF (k:Nat):gO (List.replicate k .dead)=Ao k:=by simp[gO,Ao,cC.g]
theorem atX (a b:ie):gO (a++b)=gO a++gO b:=by simp[gO]
theorem aBG (x:cC):x.g.aaB=x.aaB:=by cases x<;>rfl
theorem aBH (base:Nat) (o:ie):gO (anM base o)=ac7 base (gO o):=by
 unfold anM ac7
 have:((gO o).drop base).all (·.aaB)=(o.drop base).all (·.aaB):=by
  simp only[gO,<-List.map_drop,List.all_map]
  grind[aBG]
 rw[this]
 cases(o.drop base).all (·.aaB)
 ·rfl
 ·simp[gO]
theorem aBI (i:acd call p.C) {k:Nat} {b:List og} {a:List (Nat×Nat)} {st:iz} {K:iz->Prop} (h:anN p k b a st K):∃st',ab1 call k b a st.g=some st'.g/\K st':=by
 unfold anN at h
 obtain⟨st',T,f,j,d⟩:=aoe i h
 rw[List.append_nil,List.reverse_reverse] at d
 have e:(iz.mk st.env (st.o++List.replicate k .dead)).g=⟨st.g.env,st.g.o++Ao k⟩:=by simp[iz.g,atX,aBF]
 rw[e] at f j
 have c:st.g.o.length=st.o.length:=by simp[iz.g,abj]
 split at d
 ·rename_i l
  refine⟨_,?_,d⟩
  simp only[ab1,c];rw[f]
  simp only
  rw[if_pos (by
   grind[Ao,aBE])]
  grind[iz.g,aBH]
 simp_all
end
theorem ak3 {v:SV}:isNil v=true↔v.g= .sc (.slice none 0 0):=by
 constructor
 ·intro h
  unfold isNil at h;split at h
  ·rfl
  ·cases h
 ·intro h
  cases v<;>simp only[SV.g,reduceCtorEq,AV.sc.injEq] at h
  subst h;rfl
section
variable {o:ie} {id:Nat} {s:bD} {l:List s.T} {e:TypeId}
def pid (id:Nat):Nat->Bool:=fun i=>i==id
mutual
theorem atY (r:o[id]?=some (.row s l e true)):∀{v:SV} {K:SV->Prop},QU id s l v K->∃E:SV,v.g.gy (gO o) (pid id)=some E.g/\K E
 | .ow j n A,K,h=>by
  simp only[QU] at h;split at h
  ·rename_i q
   subst q;split at h
   ·rename_i u
    subst u
    obtain⟨rfl,D⟩:=h
    refine⟨_,?_,D⟩
    have I:List.take (l.length*s.sz) (jY s l)=jY s l:=List.take_of_length_le (by grind[xl])
    simp_all[SV.g,AV.gy,pid,zo,cC.g,xl]
   simp_all
  ·rename_i q
   refine⟨_,?_,h⟩
   simp_all[SV.g,AV.gy,pid]
 | .os j w p n A,K,h=>by
  simp only[QU] at h;split at h
  ·rename_i q
   subst q;split at h
   ·rename_i u
    subst u
    obtain⟨rfl,C,D⟩:=h
    refine⟨_,?_,D⟩
    have F:(w+p)*s.sz<=l.length*s.sz:=Nat.mul_le_mul_right _ C
    rw[Nat.add_mul] at F
    have B:((l.drop w).take p).length=p:=by simp;omega
    simp only[SV.g,AV.gy,pid,BEq.rfl,if_true,zo r,cC.g,xl,F,and_self,aiL,B]
   simp_all
  ·rename_i q
   refine⟨_,?_,h⟩
   simp_all[SV.g,AV.gy,pid]
 | .oc j w p n A,K,h=>by
  simp only[QU] at h;split at h
  ·exact h.elim
  ·rename_i q
   exact⟨_,by simp_all[SV.g,AV.gy,pid],h⟩
 | .rp j i f n A,K,h=>by
  simp only[QU] at h;split at h
  ·exact h.elim
  ·rename_i q
   exact⟨_,by simp_all[SV.g,AV.gy,pid],h⟩
 | .ptr j f t,K,h=>by
  simp only[QU] at h;split at h
  ·exact h.elim
  ·rename_i q
   exact⟨_,by simp_all[SV.g,AV.gy,pid],h⟩
 | .ap j a b c d i,K,h=>by
  simp only[QU] at h;split at h
  ·exact h.elim
  ·rename_i q
   exact⟨_,by simp_all[SV.g,AV.gy,pid],h⟩
 | .agg y,K,h=>by
  simp only[QU] at h
  obtain⟨m,z,x⟩:=afK r h
  grind[SV.g,AV.gy]
 | .eW y,K,h=>by
  simp only[QU] at h
  obtain⟨m,z,x⟩:=afK r h
  grind[SV.g,AV.gy]
 | .fn f a b,K,h=>by
  simp only[QU] at h
  obtain⟨M,z,x⟩:=afK r h
  obtain⟨L,G,H⟩:=afK r x
  grind[SV.g,AV.gy]
 | .ud,K,h=>⟨.ud,by grind[SV.g,AV.gy],by grind[QU]⟩
 | .sc v,K,h=>⟨.sc v,by grind[SV.g,AV.gy],by grind[QU]⟩
 | .il k n,K,h=>⟨.il k n,by grind[SV.g,AV.gy],by grind[QU]⟩
 | .si k n,K,h=>⟨.si k n,by grind[SV.g,AV.gy],by grind[QU]⟩
 | .bl b,K,h=>⟨.bl b,by grind[SV.g,AV.gy],by grind[QU]⟩
 | .sb b,K,h=>⟨.sb b,by grind[SV.g,AV.gy],by grind[QU]⟩
 | .row s l,K,h=>⟨.row s l,by grind[SV.g,AV.gy],by grind[QU]⟩
 | .ep s l i f,K,h=>⟨.ep s l i f,by grind[SV.g,AV.gy],by grind[QU]⟩
 | .mp i,K,h=>⟨.mp i,by grind[SV.g,AV.gy],by grind[QU]⟩
theorem afK (r:o[id]?=some (.row s l e true)):∀{y:List SV} {K:List SV->Prop},adn id s l y K->∃m:List SV,BK (gO o) (pid id) (gL y)=some (gL m)/\K m
 |[],K,h=>⟨[],by simp[gL,BK],by grind[adn]⟩
 |c::y,K,h=>by
  simp only[adn] at h
  obtain⟨J,z,x⟩:=atY r h
  obtain⟨m,G,H⟩:=afK r x
  grind[gL,BK]
end
theorem aof (b:o[id]?=some (.row s l e true)):∀{env:xJ} {K:xJ->Prop},aiE id s l env K->∃a,afn (gO o) (pid id) (gE env)=some (gE a)/\K a
 |[],K,h=>⟨[],rfl,h⟩
 |(k,v)::r,K,h=>by
  simp only[aiE] at h
  obtain⟨f,d,c⟩:=atY b h
  obtain⟨j,g,i⟩:=aof b c
  grind[gE,afn]
theorem ak4 {o:Store} {q:Nat->Bool}:∀{cs:List AV},(∀a∈cs,Plain a)->BK o q cs=some cs
 |[],_=>by simp[BK]
 |a::cs,h=>by
  have d:=ak4 (o:=o) (q:=q) (cs:=cs) fun b c=>h b (by simp[c])
  rcases h a (by simp) with⟨v,rfl,_⟩|⟨n,e,rfl,_⟩<;>simp only[BK,AV.gy,d]
theorem aog {o:Store} {q:Nat->Bool}:∀{es:List (Value×AV)},(∀a∈es,∃v,a.2= .sc v)->acI o q es=some es
 |[],_=>by simp[acI]
 |(k,a)::es,h=>by
  obtain⟨v,b⟩:=h (k,a) (by simp)
  simp only at b
  subst b
  simp only[acI,AV.gy,aog (es:=es) fun a c=>h a (by simp[c])]
theorem ad6 (j:o[id]?=some (.row s l e true)):∀{i:Nat} {r:ie} {K:ie->Prop},abf id s l i r K->∃r' mid,Kv (gO o) (pid id) (gO r)=some mid/\zl (pid id) i mid=gO r'/\K r'
 |i,[],K,h=>⟨[],[],rfl,rfl,h⟩
 |i,x::r,K,h=>by
  cases x with
  |dead=>
   simp only[abf] at h
   obtain⟨r',mid,w,n,f⟩:=ad6 j h
   grind[gO,cC.g,Kv,fZ.gy,zl]
  |cells N p F d=>
   simp only[abf] at h
   cases d with
   |true=>
    simp only[if_true] at h;split at h
    ·exact h.elim
    ·rename_i B
     obtain⟨r',mid,w,n,f⟩:=ad6 j h
     refine⟨_,.cells (gL N) p F true::mid,?_,?_,f⟩
     all_goals simp_all[gO,cC.g,Kv,fZ.gy,zl,pid]
   |false=>
    simp only[Bool.false_eq_true,if_false] at h
    obtain⟨A,z,k⟩:=afK j h
    obtain⟨r',mid,w,n,f⟩:=ad6 j k
    refine⟨_,.cells (gL A) p F false::mid,?_,?_,f⟩
    all_goals simp_all[gO,cC.g,Kv,fZ.gy,zl]
  |abE v u p t=>
   simp only[abf] at h;split at h
   ·exact h.elim
   ·obtain⟨O,z,k⟩:=afK j h
    split at k
    ·rename_i m M
     obtain⟨L,_⟩:=ak1 M
     obtain⟨r',mid,w,n,f⟩:=ad6 j k
     refine⟨_,(cC.row v (u++m) p false).g::mid,?_,?_,f⟩
     ·simp only[gO,List.map_cons,cC.g] at w z ⊢
      have G:∀(a b c:List AV),BK (List.map cC.g o) (pid id) a=some a->BK (List.map cC.g o) (pid id) b=some c->BK (List.map cC.g o) (pid id) (a++b)=some (a++c):=fun a b c w n=>by
       induction a<;>grind[BK]
      have P:BK (List.map cC.g o) (pid id) (jY v u)=some (jY v u):=ak4 (fun a C=>aaL C)
      simp_all[Kv,fZ.gy,ath]
     ·simp only[cC.g,zl,n];rfl
    simp_all
  |row v u p d=>
   simp only[abf] at h
   have y:(cC.row v u p d).g.gy (gO o) (pid id)=some (cC.row v u p d).g:=by
    cases d with
    |true=>simp only[cC.g,fZ.gy,if_true]
    |false=>
     simp only[cC.g,fZ.gy,Bool.false_eq_true,if_false]
     grind[ak4,aaL]
   split at h
   ·rename_i B
    cases d with
    |false=>simp_all
    |true=>
     simp only[if_true] at h
     obtain⟨r',mid,w,n,f⟩:=ad6 j h
     refine⟨_,(cC.row v u p true).g::mid,?_,?_,f⟩
     all_goals simp_all[gO,Kv,cC.g,zl,pid]
   ·rename_i B
    obtain⟨r',mid,w,n,f⟩:=ad6 j h
    refine⟨_,(cC.row v u p d).g::mid,?_,?_,f⟩
    ·grind[gO,Kv]
    ·cases d<;>simp only[cC.g,zl,n,pid,beq_iff_eq,if_neg B]<;>rfl
  |map H D I E J d=>
   simp only[abf] at h
   have y:(cC.map H D I E J d).g.gy (gO o) (pid id)=some (cC.map H D I E J d).g:=by
    cases d with
    |true=>simp only[cC.g,fZ.gy,if_true]
    |false=>
     simp only[cC.g,fZ.gy,Bool.false_eq_true,if_false]
     rw[aog (fun a C=>by obtain⟨q,_,rfl⟩:=List.mem_map.1 C;exact⟨_,rfl⟩),Option.map_some]
   obtain⟨r',mid,w,n,f⟩:=ad6 j h
   grind[gO,Kv,cC.g,zl]
end
theorem aBJ {v:SV}:(∃id,aeN.ag3 v=some id/\∃a b c,v.g= .os id a b c)\/(aeN.ag3 v=none/\∀id a b c,v.g≠ .os id a b c):=by
 cases v<;>simp[aeN.ag3,SV.g]
theorem atZ {p:HT} {lo:Nat} {h:Sm} {st:iz} {K:iz->Prop} {v:SV} (t:h.own=false) (f:ake h st.g=some v.g)
  (d:match aeN.ag3 v with
   |some id=>if Nat.ble lo id then(match st.o[id]? with
    |some (.row s l e pu)=>aiE id s l st.env fun env=>abf id s l 0 (if pu then st.o else st.o.set id (.row s l e true)) fun o=>K ⟨env,o⟩
    |_=>False) else K st
   |none=>K st):∃st',QJ lo h st.g=st'.g/\K st':=by
 let _:=p
 unfold QJ
 rw[if_neg (by simp[t]),f]
 rcases @aBJ v with⟨id,w,a,b,c,x⟩|⟨w,x⟩
 ·rw[w] at d
  rw[x]
  simp only at d ⊢
  split at d
  ·rename_i q
   rw[if_pos q];split at d
   ·rename_i s l e pu m
    have D:(fun i=>i==id)=pid id:=rfl
    cases pu with
    |true=>
     simp only[if_true] at d
     obtain⟨j,A,n⟩:=aof m d
     obtain⟨B,u,C,y,r⟩:=ad6 m n
     refine⟨_,?_,r⟩
     simp_all[aii,iz.g,zo,cC.g,akh]
    |false=>
     simp only[Bool.false_eq_true,if_false] at d
     have z:id<st.o.length:=(List.getElem?_eq_some_iff.1 m).1
     have k:(st.o.set id (.row s l e true))[id]?=some (.row s l e true):=by simp_all
     obtain⟨j,A,n⟩:=aof (o:=st.o.set id (.row s l e true)) k d
     obtain⟨B,u,C,y,r⟩:=ad6 k n
     refine⟨_,?_,r⟩
     simp_all[aii,iz.g,zo,cC.g,acQ,acR,akh]
   simp_all
  grind
 grind
section
variable {p:HT} {lo:Nat}
theorem aBK {h:Sm} {st:iz} {K:iz->Prop} (a:aeN p lo h st K):∃st',QJ lo h st.g=st'.g/\K st':=by
 unfold aeN at a;split at a
 ·rename_i f
  unfold QJ;rw[if_pos f];unfold akg;split at a
  ·rename_i b
   simp only[b];split at a
   ·rename_i r
    have t:=ak3.1 r
    rw[<-abh] at t
    have B:pI st.g.env h.slot= .sc (.slice none 0 0):=t
    rw[B];split at a
    ·rename_i s J
     split at a
     ·rename_i w
      refine⟨_,?_,a⟩
      simp[iz.g,gE,gO,SV.g,cC.g,jY,w]
     simp_all
    simp_all
   ·rename_i r
    split at a
    ·rename_i z
     split at a
     ·rename_i m G D d
      have n:pI st.g.env h.slot= .os m 0 G (G*D):=by
       show pI (gE st.env) h.slot=_
       rw[abh,d];rfl
      rw[n];split at a
      ·rename_i s l e y
       refine⟨_,?_,a⟩
       simp_all[akf,iz.g,zo,cC.g,acR]
      simp_all
     simp_all
    ·rename_i z
     refine⟨st,?_,a⟩
     split
     ·rename_i L
      have:pI (gE st.env) h.slot= .sc (.slice none 0 0):=L
      grind[abh,ak3]
     all_goals simp_all
  ·rename_i k b
   simp only[b];split at a
   ·rename_i m c j d
    have n:pI st.g.env h.slot= .ptr m c j:=by
     show pI (gE st.env) h.slot=_
     rw[abh,d];rfl
    rw[n];split at a
    ·rename_i i e F E y
     have u:st.g.o[m]?=some (.cells (gL i) e F E):=zo y
     simp only[u];split at a
     ·rename_i r
      cases C:i[c+k]? with
      |none=>simp_all
      |some v=>
       rw[C] at r;simp only[Option.any_some] at r
       have M:=ak3.1 r
       have A:(gL i)[c+k]?=some (.sc (.slice none 0 0)):=by grind[aeO]
       simp only[A,MF];split at a
       ·rename_i I
        rw[if_pos I];split at a
        ·rename_i s J
         split at a
         ·rename_i w
          refine⟨_,?_,a⟩
          have N:gL (i.set (c+k) (.ow st.o.length 0 h.sz))=(gL i).set (c+k) (.os st.o.length 0 0 0):=by
           simp_all[yh,SV.g]
          simp_all[iz.g,cC.g,gO,jY]
         simp_all
        simp_all
       simp_all
     grind[aeO,ak3]
    simp_all
   simp_all
 ·rename_i f
  have f:h.own=false:=by simpa using f
  unfold aeN.ato at a
  cases b:h.off with
  |none=>
   rw[b] at a
   simp only at a
   refine atZ (p:=p) (v:=MD st.env h.slot) f ?_ ?_
   all_goals grind[ake,iz.g,abh]
  |some k=>
   rw[b] at a
   simp only at a
   cases q:MD st.env h.slot with
   |ptr m c j=>
    rw[q] at a
    simp only at a
    cases y:st.o[m]? with
    |none=>simp_all
    |some x=>
     rw[y] at a
     cases x with
     |cells i e F E=>
      simp only at a
      by_cases H:i.length=j
      ·rw[if_pos H] at a
       cases C:i[c+k]? with
       |none=>simp_all
       |some v=>
        rw[C] at a
        refine atZ (p:=p) (v:=v) f ?_ ?_
        ·unfold ake
         rw[b]
         have:pI st.g.env h.slot= .ptr m c j:=by
          show pI (gE st.env) h.slot=_
          rw[abh,q];rfl
         have u:st.g.o[m]?=some (.cells (gL i) e F E):=zo y
         simp_all[behind,MF,aeO]
        grind
      simp_all
     |_=>exact a.elim
   |_=>rw[q] at a;exact a.elim
theorem aoh:∀{hs:List Sm} {st:iz} {K:iz->Prop},aiF p lo hs st K->∃st',hs.foldl (fun s h=>QJ lo h s) st.g=st'.g/\K st'
 |[],st,K,h=>⟨st,rfl,h⟩
 |h::hs,st,K,hk=>by
  simp only[aiF] at hk
  obtain⟨st1,h1,h2⟩:=aBK hk
  obtain⟨st2,h3,h4⟩:=aoh h2
  exact⟨st2,by rw[List.foldl_cons,h1,h3],h4⟩
theorem aBL (a:List Nat) (env:xJ):gE (anO a env)=prune a (gE env):=by
 simp[anO,prune,gE,<-abh]
theorem aoi (k:Nat) (st:iz):(trimS k st).g=trim k st.g:=by
 unfold trimS trim
 have b:st.g.o.length=st.o.length:=by simp[iz.g,abj]
 have c:(st.g.env.all fun p=>p.2.ig k)=(st.env.all fun p=>p.2.ig k):=by
  simp only[iz.g,gE,List.all_map]
  grind[aiJ]
 have d:((st.g.o.take k).all fun x=>x.ig k)=((st.o.take k).all fun x=>x.ig k):=by
  simp only[iz.g,gO,<-List.map_take,List.all_map]
  grind[akY]
 rw[b,c,d]
 by_cases a:st.o.length<=k
 ·simp_all
 ·rw[if_neg a,if_neg a]
  split
  ·simp[iz.g,gO]
  ·rfl
variable {T:Tab}
theorem at0 {v:Int} {n:Nat} {K:Nat->Prop}:∀{j:Nat},j<=n->splitN v n K j->(n - j:Nat)<=v->∃i:Nat,v=i/\K i
 |0,_,h,a=>by
  grind[splitN]
 |j+1,c,h,a=>by
  simp only[splitN] at h
  by_cases b:v=(n - (j+1):Nat)
  ·grind
  ·exact at0 (by omega) h.2 (by omega)
theorem at1 {v:Int} {n:Nat} {K:Nat->Prop}:∀{j:Nat},splitN v n K j->0<=v
 |0,h=>h.1
 |j+1,h=>at1 h.2
theorem aBM {x:Option (Nat×Nat×Nat)} {st:iz} {K:iz->Prop} (h:splitK x st K):∃st',st'.g=st.g/\K st':=by
 unfold splitK at h;split at h
 ·grind
 ·rename_i p a n
  split at h
  ·rename_i c e q r b
   split at h
   ·rename_i k v o
    obtain⟨i,rfl,f⟩:=at0 (Nat.le_refl _) h (by have:=at1 h;omega)
    refine⟨_,?_,f⟩
    have l:gL (c.set a (.il k i))=gL c:=by
     rw[yh,yh,List.map_set]
     apply List.ext_getElem?
     grind[SV.g]
    simp only[iz.g,acR,cC.g,l,iz.mk.injEq,St.mk.injEq,true_and]
    apply List.ext_getElem?
    intro j;rw[List.getElem?_set];split
    ·rename_i d
     subst d
     have m:=(List.getElem?_eq_some_iff.1 b).1
     rw[if_pos (by grind[abj]),anX,b]
     rfl
    ·rfl
   simp_all
  simp_all
theorem at6:∀{e a:xJ},ag4 e a->gE e=gE a
 |[],[],_=>rfl
 |[],_::_,h=>by grind[ag4]
 |_::_,[],h=>by grind[ag4]
 |(k,v)::e,(d,c)::a,h=>by
  simp only[ag4] at h;split at h
  ·rename_i b
   subst b
   have:=at6 h.2
   simp only[gE,List.map_cons] at this ⊢;rw[this,show v.g=c.g from h.1]
  simp_all
theorem aha:∀{o o':ie},ME o o'->gO o=gO o'
 |[],[],_=>rfl
 |[],_::_,h=>by grind[ME]
 |_::_,[],h=>by grind[ME]
 |x::o,y::o',h=>by
  simp only[ME] at h
  have:=aha h.2
  simp only[gO,List.map_cons] at this ⊢;rw[this,show x.g=y.g from h.1]
theorem ak5 {s t:iz} (h:aiG s t):s.g=t.g:=by
 simp only[iz.g,at6 h.1,aha h.2]
theorem aHL (env:xJ) (args:List Operand):args.map (s4 (gE env))=gL (args.map (Ky env)):=by
 simp_all[yh,aiI]
theorem afL (hC:acd T.K p.C) (hI:∀f F,p.it f=some F->T.fn f=some F):∀{c:IR} {Λ:Nat->jW} {st:iz} {Q:Out->iz->Prop},wpS p lo c Λ st Q->VW T aiA lo c st.g fun out s=>∃ss,s=ss.g/\Q out ss:=by
 intro c
 induction c with
 |skip=>intro Λ st Q h;exact VW.skip ⟨st,rfl,h⟩
 |exit id=>intro Λ st Q h;exact VW.exit ⟨st,rfl,h⟩
 |ret=>intro Λ st Q h;exact VW.ret ⟨st,rfl,h⟩
 |goto l=>intro Λ st Q h;exact VW.goto ⟨st,rfl,h⟩
 |aby x a b iha ihb=>
  intro Λ st Q h;simp only[wpS] at h
  have hx:s4 st.g.env x=(Ky st.env x).g:=aiI _ _
  split at h
  ·rename_i he
   rw[he] at hx
   exact VW.aby hx (by rw[if_pos rfl];exact iha h)
  ·rename_i he
   rw[he] at hx
   exact VW.aby hx (by rw[if_neg (by simp)];exact ihb h)
  ·rename_i c he
   rw[he] at hx
   have hset:∀v:SV,(SV.sb c).g=v.g->(iz.mk (akV st.env x v) st.o).g=st.g:=fun v hv=>by
    cases x with
    |tmp t=>
     have:MD st.env t= .sb c:=he
     simp only[iz.g,akV]
     rw[aod (by rw[this];exact hv)]
    |_=>rfl
   refine VW.aby hx ?_
   cases c with
   |true=>
    have:=iha (h.1 rfl)
    rw[hset (.bl true) rfl] at this
    rw[if_pos rfl];exact this
   |false=>
    have:=ihb (h.2 rfl)
    rw[hset (.bl false) rfl] at this
    rw[if_neg (by simp)];exact this
  ·exact h.elim
 |turns l b ih=>
  intro Λ st Q h
  cases l with
  |none=>
   simp only[wpS] at h
   refine VW.aA5 ((ih h).mono ?_)
   rintro out s ⟨ss,rfl,h2⟩
   cases out with
   |norm=>exact⟨by simp,ss,rfl,h2⟩
   |exit id=>exact⟨by simp,ss,rfl,h2⟩
   |ret=>exact⟨by simp,ss,rfl,h2⟩
   |goto l=>exact h2.elim
  |some l=>
   simp only[wpS] at h;split at h
   ·rename_i X shape next J m inner _
    obtain⟨⟨h0,hx⟩,hstep⟩:=h
    refine VW.aA6 (fun k s=>∃x,s=(shape x).g/\J x/\m x=k) ?_ (m (next st)) _ ⟨next st,ak5 h0,hx,rfl⟩
    rintro k s ⟨x,rfl,hj,rfl⟩
    refine(ih (hstep x hj)).mono ?_
    rintro out s ⟨ss,rfl,h2⟩
    cases out with
    |goto l'=>
     obtain⟨rfl,h3,h4,h5⟩:=h2
     refine .inl ⟨rfl,_,h5,_,?_,h4,rfl⟩
     have h6:=ak5 h3
     rw[<-h6,aoi,show(shape x).o.length=(shape x).g.o.length from by simp[iz.g,abj]]
    |norm=>exact .inr ⟨by simp,ss,rfl,h2⟩
    |exit id=>exact .inr ⟨by simp,ss,rfl,h2⟩
    |ret=>exact .inr ⟨by simp,ss,rfl,h2⟩
   ·exact h.elim
 |region id draw k ops Sr live pre post=>
  intro Λ st Q h;simp only[wpS] at h
  obtain⟨st0,h0,h⟩:=aBM h
  obtain⟨st1,h1,h2⟩:=aoh h
  obtain⟨st2,h3,h4⟩:=aBI hC h2
  obtain⟨st3,h5,h6⟩:=aoh h4
  refine VW.region ?_
  rw[<-h0,h1,h3]
  refine⟨st3,?_,h6⟩
  rw[<-h5];simp only[iz.g,aBL]
 |dfr g caps d a b _ _=>intro Λ st Q h;exact h.elim
 |seq a b iha ihb=>
  intro Λ st Q h;simp only[wpS] at h
  refine VW.seq ((iha h).mono ?_)
  rintro out s ⟨ss,rfl,h2⟩
  cases out with
  |norm=>rw[if_pos rfl];exact ihb h2
  |exit id=>rw[if_neg (by simp)];exact⟨ss,rfl,h2⟩
  |ret=>rw[if_neg (by simp)];exact⟨ss,rfl,h2⟩
  |goto l=>rw[if_neg (by simp)];exact⟨ss,rfl,h2⟩
 |cond x a b iha ihb=>
  intro Λ st Q h;simp only[wpS] at h
  have hx:s4 st.g.env x=(Ky st.env x).g:=aiI _ _
  have hdr:(iz.mk (ag5 x st.env) st.o).g=⟨ab2 x st.g.env,st.g.o⟩:=by
   have:∀(t:Nat) (env:xJ),(aiH t env).map (fun p=>(p.1,p.2.g))=adb t (env.map fun p=>(p.1,p.2.g)):=by
    intro t env
    induction env with
    |nil=>rfl
    |cons p env ih=>
     simp only[aiH,adb,List.map_cons]
     cases Nat.beq p.1 t with
     |true=>simpa using ih
     |false=>simpa using ih
   cases x with
   |tmp t=>simp only[iz.g,gE,ag5,ab2];rw[this]
   |_=>rfl
  split at h
  ·rename_i he
   rw[he] at hx
   exact VW.cond hx (by rw[if_pos rfl,<-hdr];exact iha h)
  ·rename_i he
   rw[he] at hx
   exact VW.cond hx (by rw[if_neg (by simp),<-hdr];exact ihb h)
  ·rename_i c he
   rw[he] at hx
   refine VW.cond hx ?_
   cases c with
   |true=>rw[if_pos rfl,<-hdr];exact iha (h.1 rfl)
   |false=>rw[if_neg (by simp),<-hdr];exact ihb (h.2 rfl)
  ·exact h.elim
 |block id b ih=>
  intro Λ st Q h;simp only[wpS] at h
  exact VW.block ((ih h).mono fun out s ⟨ss,e,h2⟩=>⟨ss,e,h2⟩)
 |loop b ih=>
  intro Λ st Q h;simp only[wpS] at h;split at h
  ·rename_i n hΛ
   clear hΛ
   induction n generalizing st with
   |zero=>exact h.elim
   |succ n ihn=>
    simp only[anP] at h
    refine VW.loop ((ih h).mono ?_)
    rintro out s ⟨ss,rfl,h2⟩
    cases out with
    |norm=>
     rw[if_pos rfl]
     have:=ihn h2
     rwa [aoi,show st.o.length=st.g.o.length from by simp[iz.g,abj]] at this
    |exit id=>rw[if_neg (by simp)];exact⟨ss,rfl,h2⟩
    |ret=>rw[if_neg (by simp)];exact⟨ss,rfl,h2⟩
    |goto l=>rw[if_neg (by simp)];exact⟨ss,rfl,h2⟩
  ·exact h.elim
  ·rename_i X shape next J m inner _
   obtain⟨⟨h0,hx⟩,hstep⟩:=h
   refine VW.aA4 (fun k s=>∃x,s=(shape x).g/\J x/\m x=k) ?_ (m (next st)) _ ⟨next st,ak5 h0,hx,rfl⟩
   rintro k s ⟨x,rfl,hj,rfl⟩
   refine(ih (hstep x hj)).mono ?_
   rintro out s ⟨ss,rfl,h2⟩
   cases out with
   |norm=>
    rw[if_pos rfl]
    obtain⟨h3,h4,h5⟩:=h2
    refine⟨_,h5,_,?_,h4,rfl⟩
    have h6:=ak5 h3
    rw[<-h6,aoi,show(shape x).o.length=(shape x).g.o.length from by simp[iz.g,abj]]
   |exit id=>rw[if_neg (by simp)];exact⟨ss,rfl,h2⟩
   |ret=>rw[if_neg (by simp)];exact⟨ss,rfl,h2⟩
   |goto l=>rw[if_neg (by simp)];exact⟨ss,rfl,h2⟩
theorem at7 {st:iz}:∀{a:List aaD} {K:List SV->Prop},abg.goK st a K->∃l,a.mapM (ac8 st.g)=some (gL l)/\K l
 |[],K,h=>⟨[],by simp[gL],h⟩
 |r::a,K,h=>by
  simp only[abg.goK] at h
  have b:∃v,ac8 st.g r=some v.g/\abg.goK st a fun l=>K (v::l):=by
   unfold abg.atp at h;unfold ac8;split at h
   ·rename_i c
    rw[c]
    exact⟨_,by grind[iz.g,abh],h⟩
   grind[atA,iz.g,abh]
  obtain⟨v,i,d⟩:=b
  obtain⟨l,f,e⟩:=at7 d
  exact⟨v::l,by simp_all[gL],e⟩
theorem ahb {st:iz} {b:List aaD} {K:SV->Prop} (h:abg st b K):∃r,aa8 st.g b=some r.g/\K r:=by
 unfold abg at h
 obtain⟨l,c,a⟩:=at7 h
 unfold aa8;rw[c]
 match l,a with
 |[],a=>exact⟨_,rfl,a⟩
 |[v],a=>exact⟨v,rfl,a⟩
 |v::w::l,a=>exact⟨_,rfl,a⟩
theorem afM:∀(i:Nat) (args:List SV),gE (aaM i args)=EF i (gL args)
 |_,[]=>rfl
 |i,v::a=>by
  have:=afM (i+1) a
  grind[gE,aaM,gL,EF]
theorem aiQ {Λ:Nat->jW} {P:Program} (x:Sv P T) (y:acd T.K p.C) (u:∀f F,p.it f=some F->T.fn f=some F) {f:FuncId} {F:uC} (w:T.fn f=some F) {args:List SV} {r:AV} (t:T.K f (gL args) [] false=none) (m:args.length=F.params)
  (h:fnK p Λ F args fun v=>v.g=r):By P f=true/\Uc P f (gL args) [] r []:=by
 unfold fnK at h
 have n:=afL y u h
 have k:(iz.mk (aaM 0 args) []).g=⟨EF 0 (gL args),[]⟩:=by simp[iz.g,afM,gO]
 rw[k] at n
 obtain⟨c,d,_⟩:=akL x w (o:=[]) (own:=false) t (by grind[MF]) (v:=r) (o':=[]) (n.mono fun i s q=>by
  obtain⟨b,rfl,e⟩:=q
  cases i with
  |exit A=>exact e.elim
  |goto l=>exact e.elim
  |norm=>
   obtain⟨a,c,d⟩:=ahb e
   obtain⟨v,j,z⟩:=anZ d
   refine⟨.inl rfl,?_⟩
   rw[c]
   show finish false 0 a.g b.g.o=_
   have:freeze b.g.o 6 a.g=some v.g:=j
   grind[finish]
  |ret=>
   obtain⟨a,c,d⟩:=ahb e
   obtain⟨v,j,z⟩:=anZ d
   refine⟨.inr rfl,?_⟩
   rw[c]
   show finish false 0 a.g b.g.o=_
   have:freeze b.g.o 6 a.g=some v.g:=j
   grind[finish])
 simp_all
end
structure Cod (α:Type) where
 put:α->SV
 dec:SV->Option α
 ok:∀v a,dec v=some a->v.g=(put a).g
 inj:∀a b,(put a).g=(put b).g->a=b
structure adq (α:Type) where
 put:α->List SV
 dec:List SV->Option α
 ok:∀v a,dec v=some a->gL v=gL (put a)
 inj:∀a b,gL (put a)=gL (put b)->a=b
def adq.one {d:Type} (c:Cod d):adq d where
 put a:=[c.put a]
 dec
  |[v]=>c.dec v
  |_=>none
 ok v a h:=by
  match v,h with
  |[v],h=>simp only[gL,c.ok v a h]
 inj a b h:=by
  simp only[gL,List.cons.injEq,and_true] at h
  exact c.inj a b h
def adq.cons {f g:Type} (c:Cod f) (d:adq g):adq (f×g) where
 put a:=c.put a.1::d.put a.2
 dec
  |v::e=>match c.dec v,d.dec e with
   |some a,some b=>some (a,b)
   |_,_=>none
  |[]=>none
 ok v a h:=by
  match v,h with
  |v::e,h=>
   simp only at h
   split at h
   ·rename_i x y j i
    simp only[Option.some.injEq] at h;subst h
    simp only[gL,c.ok v x j,d.ok e y i]
   ·cases h
 inj a b h:=by
  simp only[gL,List.cons.injEq] at h
  exact Prod.ext (c.inj _ _ h.1) (d.inj _ _ h.2)
def adq.nil:adq Unit where
 put _:=[]
 dec
  |[]=>some ()
  |_=>none
 ok v a h:=by
  grind
 inj a b h:=rfl
structure fN where
 f:FuncId
 α:Type
 A:adq α
 dom:α->Prop
 res:α->SV
def Holds (P:Program) (c:fN):Prop:=∀a,c.dom a->By P c.f=true/\Uc P c.f (gL (c.A.put a)) [] (c.res a).g []
def Yf (f:FuncId):List fN->Option fN
 |[]=>none
 |c::r=>bif Nat.beq c.f f then some c else Yf f r
def afN (L:List fN) (f:FuncId) (args:List SV) (K:SV->Prop):Prop:=
 match Yf f L with
 |some c=>HU (c.A.dec args) fun a=>c.dom a/\K (c.res a)
 |none=>False
structure Ug where
 K:FuncId->List AV->Store->Option (AV×Store)
 C:FuncId->List SV->ie->(SV->ie->Prop)->Prop
def Ug.none:Ug:=⟨fun _ _ _=> .none,fun _ _ _ _=>False⟩
noncomputable def adr (L:List fN) (W:Ug):lU:=fun f b o d=>
 if d then W.K f b o
 else match o with
  |[]=>match Yf f L with
   |some c=>(ans (fun a=>gL (c.A.put a)) c.dom (fun a=>(c.res a).g) b).map fun v=>(v,[])
   |none=> .none
  |_=> .none
noncomputable def ace (a:FuncId->Option uC) (L:List fN) (W:Ug):Tab:=⟨a,adr L W⟩
structure aaO (P:Program) (W:Ug):Prop where
 K:∀f args o r o',W.K f args o=some (r,o')->By P f=true/\Uc P f args o r o'
 C:∀(call:lU),(∀f args o,call f args o true=W.K f args o)->∀f args o K,W.C f args o K->∃(r:SV) (o':ie),Hh call f (gL args) (gO o)=some (r.g,gO o')/\K r o'
theorem aaO.none (P:Program):aaO P Ug.none where
 K:=fun _ _ _ _ _ h=>by cases h
 C:=fun _ _ _ _ _ _ h=>h.elim
theorem aua:∀{L:List fN} {f:FuncId} {c:fN},Yf f L=some c->c.f=f/\c∈L
 |[],_,_,h=>by cases h
 |d::L,f,c,h=>by
  simp only[Yf] at h
  cases a:Nat.beq d.f f with
  |true=>
   simp_all
  |false=>
   rw[a] at h;simp only[cond_false] at h
   obtain⟨b,e⟩:=aua h
   simp_all
variable {P:Program} {L:List fN} {W:Ug} {fn:FuncId->Option uC}
theorem ad7 (j:aaO P W) (k:∀c∈L,Holds P c) (n:Sv P ⟨fn,fun _ _ _ _=>none⟩):Sv P (ace fn L W) where
 fn:=n.fn
 K:=fun g e o b r q h=>by
  simp only[ace,adr] at h
  cases b with
  |true=>
   simp only[if_true] at h
   obtain⟨p,d⟩:=j.K _ _ _ _ _ h
   simp_all
  |false=>
   simp only[Bool.false_eq_true,if_false] at h;split at h
   ·split at h
    ·rename_i c l
     obtain⟨rfl,f⟩:=aua l
     obtain⟨v,m,d⟩:=Option.map_eq_some_iff.1 h
     simp only[Prod.mk.injEq] at d
     obtain⟨rfl,rfl⟩:=d
     obtain⟨a,rfl,i,rfl⟩:=aA8 m
     obtain⟨t,s⟩:=k c f a i
     simp_all
    ·cases h
   ·cases h
theorem ad8 (e:aaO P W):acd (ace fn L W).K ⟨afN L,W.C⟩ where
 pure:=fun f b K h=>by
  simp only[afN] at h;split at h
  ·rename_i c i
   obtain⟨a,d,j,g⟩:=J8 h
   refine⟨c.res a,?_,g⟩
   have:=c.A.ok _ _ d
   simp only[ace,adr,Bool.false_eq_true,if_false,i,this];rw[aA7 (enc:=fun a=>gL (c.A.put a)) c.A.inj j];rfl
  simp_all
 own:=fun f b o K h=>e.C _ (fun f b o=>by simp[ace,adr]) f b o K h
theorem ak6 {f:FuncId} {args:List AV} (h:Yf f L=none):(ace fn L W).K f args [] false=none:=by
 simp[ace,adr,h]
def SC (L:List fN) (W:Ug) (a:TypeId->Option bD) (c:List Nat×Bool->Option (bD×bD)) (b:FuncId->Option uC):HT:=⟨⟨afN L,W.C⟩,a,c,fun _=>none,b,fun _=>false⟩
theorem holds_of (c:fN) {F:uC} {g:TypeId->Option bD} {i:List Nat×Bool->Option (bD×bD)} {Λ:c.α->Nat->jW} (l:Sv P ⟨fn,fun _ _ _ _=>none⟩) (e:aaO P W) (m:∀c∈L,Holds P c)
  (k:fn c.f=some F) (d:Yf c.f L=none) (b:∀a,(c.A.put a).length=F.params)
  (h:∀a,c.dom a->fnK (SC L W g i fn) (Λ a) F (c.A.put a) fun v=>v.same (c.res a)):Holds P c:=by
 intro a j
 exact aiQ (p:=SC L W g i fn) (Λ:=Λ a) (ad7 e m l) (ad8 e) (fun _ _ h=>h) k (ak6 d) (b a) (h a j)
def aoj (L:List fN) (W:Ug) (a:TypeId->Option bD) (c:List Nat×Bool->Option (bD×bD)) (b:FuncId->Option uC) (d:FuncId->Bool):HT:=⟨⟨afN L,W.C⟩,a,c,fun _=>none,b,d⟩
theorem aBO (c:fN) {F:uC} {i:TypeId->Option bD} {j:List Nat×Bool->Option (bD×bD)} {g:FuncId->Bool} {Λ:c.α->Nat->jW} (k:Sv P ⟨fn,fun _ _ _ _=>none⟩) (e:aaO P W) (n:∀c∈L,Holds P c)
  (m:fn c.f=some F) (d:Yf c.f L=none) (b:∀a,(c.A.put a).length=F.params)
  (h:∀a,c.dom a->fnK (aoj L W i j fn g) (Λ a) F (c.A.put a) fun v=>v.same (c.res a)):Holds P c:=by
 intro a l
 exact aiQ (p:=aoj L W i j fn g) (Λ:=Λ a) (ad7 e n k) (ad8 e) (fun _ _ h=>h) m (ak6 d) (b a) (h a l)
def sj (k:IntKind):Cod Int where
 put n:=.si k n
 dec v:=v.int k
 ok v a h:=by rw[EG h];rfl
 inj a b h:=by grind[SV.g]
def aub:Cod Bool where
 put b:=.sb b
 dec v:=v.boo
 ok v a h:=by rw[agY h];rfl
 inj a b h:=by grind[SV.g]
theorem ad9:(s:bD)->(x y:s.T)->qb s x=qb s y->(e:s.flat=true:=by rfl)->x=y
 | .i k,x,y,h,_=>by grind[qb]
 | .b,x,y,h,_=>by grind[qb]
 | .uo,⟨o,B,r,f,j,q⟩,⟨p,l,g,u,A,z⟩,h,_=>by
  simp_all[qb,iv]
 | .off,⟨b,⟨o,B,r,f,j,q⟩,v⟩,⟨c,⟨p,l,g,u,A,z⟩,w⟩,h,_=>by
  simp_all[qb,iv]
 | .need,⟨a,b⟩,⟨c,d⟩,h,_=>by
  simp_all[qb,iv]
 | .key,⟨b,⟨o,B,r,f,j,q⟩⟩,⟨c,⟨p,l,g,u,A,z⟩⟩,h,_=>by
  simp_all[qb,iv]
 | .sit,⟨m,⟨o,B,r,f,j,q⟩,⟨K,F,G,N,L,P⟩⟩,⟨n,⟨p,l,g,u,A,z⟩,⟨O,J,M,I,H,E⟩⟩,h,_=>by
  simp_all[qb,iv]
 | .fa _,_,_,_,e=>by grind[bD.flat]
 | .pair s t,(a,b),(c,d),h,e=>by
  simp only[bD.flat,Bool.and_eq_true] at e;simp only[qb] at h
  obtain⟨D,C⟩:=List.append_inj h (by grind[anF])
  rw[ad9 s a c D e.1,ad9 t b d C e.2]
theorem aok {d i:Type} {n:Nat} {f:d->List i} (a:∀x,(f x).length=n) (c:∀x y,f x=f y->x=y):∀{l m:List d},l.length=m.length->l.flatMap f=m.flatMap f->l=m
 |[],[],_,_=>rfl
 |[],_::_,h,_=>by simp at h
 |_::_,[],h,_=>by simp at h
 |x::l,y::m,b,h=>by
  simp only[List.flatMap_cons] at h
  obtain⟨e,g⟩:=List.append_inj h (by rw[a,a])
  simp only[List.length_cons,Nat.add_right_cancel_iff] at b;rw[c x y e,aok a c b g]
theorem afO:(s:bD)->(x y:s.T)->(h:qd s x=qd s y)->x=y
 | .fa s,x,y,h=>by
  simp only[qd,List.cons.injEq,AV.sl.injEq,and_true] at h
  exact aok (X0 s) (afO s) h.1 h.2
 | .pair s t,(a,b),(c,d),h=>by
  simp only[qd] at h
  obtain⟨e,f⟩:=List.append_inj h (by grind[X0])
  rw[afO s a c e,afO t b d f]
 | .i k,x,y,h=>ad9 (.i k) x y (aeP h)
 | .b,x,y,h=>ad9 .b x y (aeP h)
 | .uo,x,y,h=>ad9 .uo x y (aeP h)
 | .off,x,y,h=>ad9 .off x y (aeP h)
 | .need,x,y,h=>ad9 .need x y (aeP h)
 | .key,x,y,h=>ad9 .key x y (aeP h)
 | .sit,x,y,h=>ad9 .sit x y (aeP h)
theorem Yg (s:bD) {l m:List s.T} (a:l.length=m.length) (h:jY s l=jY s m):l=m:=
 aok (X0 s) (afO s) a h
def yl (s:bD):Cod s.T where
 put x:=.agg (encS s x)
 dec
  | .agg c=>Kx s c
  |_=>none
 ok v a h:=by
  grind[SV.g,yh,aaK,acP]
 inj a b h:=by
  grind[SV.g,yh,acP,afO]
theorem abH {s:bD} {v:SV} {l:List s.T} (h:J6 s v=some l):v.g=(SV.row s l).g:=by
 cases v<;>simp only[J6,reduceCtorEq] at h
 grind[aiO,SV.g,jY]
def qX (s:bD):Cod (List s.T) where
 put l:=.row s l
 dec:=J6 s
 ok v a h:=abH h
 inj a b h:=by
  grind[SV.g,Yg]
structure cn where
 supply:dp
 opn:dp
 cls:dp
 classes:List Int
 offers:List Off
structure Alloc where
 chosen:List Int
 value:Int
def cn.ss (p:cn):List SV:=
 [.si .i64 p.supply.a0,.si .i64 p.supply.a1,.si .i64 p.supply.a2,.si .i64 p.supply.a3,.si .i64 p.supply.a4,.si .i64 p.supply.a5,
  .si .i64 p.opn.a0,.si .i64 p.opn.a1,.si .i64 p.opn.a2,.si .i64 p.opn.a3,.si .i64 p.opn.a4,.si .i64 p.opn.a5,
  .si .i64 p.cls.a0,.si .i64 p.cls.a1,.si .i64 p.cls.a2,.si .i64 p.cls.a3,.si .i64 p.cls.a4,.si .i64 p.cls.a5,
  .row (.i .i64) p.classes,.row .off p.offers]
def aeQ:List SV->Option cn
 |[g,v,b,q,d,x,a,n,w,h,j,l,t,p,r,u,e,m,k,f]=>match Kx .uo [g,v,b,q,d,x],Kx .uo [a,n,w,h,j,l],Kx .uo [t,p,r,u,e,m],J6 (.i .i64) k,J6 .off f with
  |some s,some o,some c,some k,some f=>some ⟨s,o,c,k,f⟩
  |_,_,_,_,_=>none
 |_=>none
theorem ahc {cs:List SV} {p:cn} (h:aeQ cs=some p):gL cs=gL p.ss:=by
 unfold aeQ at h;split at h
 ·split at h
  ·rename_i s o c k f a i b e d
   simp only[Option.some.injEq] at h;subst h
   have a:=aaK a
   have i:=aaK i
   have b:=aaK b
   have e:=abH e
   have d:=abH d
   simp_all[qd,qb,cn.ss,gL,SV.g,iv]
  ·cases h
 ·cases h
def ql:Cod cn where
 put p:=.agg p.ss
 dec
  | .agg c=>aeQ c
  |_=>none
 ok v a h:=by
  grind[SV.g,ahc]
 inj a b h:=by
  obtain⟨⟨a0,a1,a2,a3,M,o⟩,⟨A,l,e,b3,I,b5⟩,⟨H,V,Y,J,x,j⟩,k,f⟩:=a
  obtain⟨⟨d,t,d2,Z,d4,X⟩,⟨N,R,u,y,S,e5⟩,⟨f0,E,f2,f3,O,q⟩,W,B⟩:=b
  simp only[SV.g,cn.ss,gL,AV.agg.injEq,List.cons.injEq,and_true,AV.sc.injEq,Value.int.injEq,true_and,AV.sl.injEq] at h
  obtain⟨h0,h1,F,P,Q,z,C,L,g2,U,G,T,w,K,k2,r,D,k5,m,n⟩:=h
  have s:=Yg (.i .i64) m.1 m.2
  have n2:=Yg .off n.1 n.2
  simp_all
def Yo:Cod Alloc where
 put a:=.agg [.row (.i .i64) a.chosen,.si .i64 a.value]
 dec
  | .agg [r,v]=>match J6 (.i .i64) r,v.int .i64 with
   |some c,some v=>some ⟨c,v⟩
   |_,_=>none
  |_=>none
 ok v a h:=by
  grind[SV.g,gL,abH,EG]
 inj a b h:=by
  obtain⟨c,v⟩:=a
  obtain⟨e,f⟩:=b
  simp only[SV.g,gL,AV.agg.injEq,List.cons.injEq,and_true,AV.sc.injEq,Value.int.injEq,true_and,AV.sl.injEq] at h
  have d:=Yg (.i .i64) h.1.1 h.1.2
  rw[d,h.2]
def ZZ:TypeId->Option bD
 |2=>some (.i .i64)
 |3=>some (.i .i64)
 |24=>some (.fa (.i .i64))
 |161=>some (.i .u32)
 |70=>some (.pair .b (.pair (.fa (.i .u32)) (.fa (.i .u32))))
 |37=>some (.pair (.fa (.i .i64)) (.i .i64))
 |72=>some (.fa (.pair .b (.pair (.fa (.i .u32)) (.fa (.i .u32)))))
 |167=>some (.pair (.fa (.pair .b (.pair (.fa (.i .u32)) (.fa (.i .u32))))) (.pair .b (.pair (.fa (.i .u32)) (.fa (.i .u32)))))
 |4=>some .b
 |139=>some (.pair (.i .i64) (.pair (.i .i64) (.pair (.i .i64) (.pair (.i .i64) (.fa (.pair .b (.pair (.fa (.i .u32)) (.fa (.i .u32)))))))))
 |58=>some .off
 |_=>none
def mtN:List Nat×Bool->Option (bD×bD)
 |([0,0,0,0,0,0,0],true)=>some (.key,.b)
 |([0,0,0,0,0,0,0,0,0,0,0,0,0],true)=>some (.sit,.i .i64)
 |_=>none
mutual
def SV.ren (m:Nat->Option Nat):SV->Option SV
 | .agg h=>(ads m h).map .agg
 | .eW h=>(ads m h).map .eW
 | .ptr g j q=>(m g).map fun i=> .ptr i j q
 | .ap g a b c d e=>(m g).map fun i=> .ap i a b c d e
 | .rp g a b c d=>(m g).map fun i=> .rp i a b c d
 | .ow g n u=>(m g).map fun i=> .ow i n u
 | .os g a b c d=>(m g).map fun i=> .os i a b c d
 | .oc g a b c d=>(m g).map fun i=> .oc i a b c d
 | .mp g=>(m g).map .mp
 | .fn f a b=>match ads m a,ads m b with
  |some r,some t=>some (.fn f r t)
  |_,_=>none
 | .ud=>some .ud
 | .sc v=>some (.sc v)
 | .il k n=>some (.il k n)
 | .si k n=>some (.si k n)
 | .bl b=>some (.bl b)
 | .sb b=>some (.sb b)
 | .row s l=>some (.row s l)
 | .ep s l i o=>some (.ep s l i o)
def ads (m:Nat->Option Nat):List SV->Option (List SV)
 |[]=>some []
 |c::h=>match c.ren m,ads m h with
  |some w,some p=>some (w::p)
  |_,_=>none
end
mutual
theorem aol {m:Nat->Option Nat}:∀{v d:SV},v.ren m=some d->v.g.ren m=some d.g
 | .agg p,d,h=>by
  simp only[SV.ren] at h
  obtain⟨k,e,rfl⟩:=Option.map_eq_some_iff.1 h
  simp only[SV.g,AV.ren,afP e,Option.map_some]
 | .eW p,d,h=>by
  simp only[SV.ren] at h
  obtain⟨k,e,rfl⟩:=Option.map_eq_some_iff.1 h
  simp only[SV.g,AV.ren,afP e,Option.map_some]
 | .fn f a b,d,h=>by
  simp only[SV.ren] at h;split at h
  ·rename_i r q e o
   simp only[Option.some.injEq] at h;subst h
   simp only[SV.g,AV.ren,afP e,afP o]
  ·cases h
 | .ptr j _ _,d,h| .ap j _ _ _ _ _,d,h| .rp j _ _ _ _,d,h| .ow j _ _,d,h| .os j _ _ _ _,d,h| .oc j _ _ _ _,d,h| .mp j,d,h=>by
  simp only[SV.ren] at h
  obtain⟨i,e,rfl⟩:=Option.map_eq_some_iff.1 h
  simp only[SV.g,AV.ren,e,Option.map_some]
 | .ud,d,h| .sc _,d,h| .il _ _,d,h| .si _ _,d,h| .bl _,d,h| .sb _,d,h| .row _ _,d,h| .ep _ _ _ _,d,h=>by
  simp only[SV.ren,Option.some.injEq] at h;subst h;simp only[SV.g,AV.ren]
theorem afP {m:Nat->Option Nat}:∀{l n:List SV},ads m l=some n->J1 m (gL l)=some (gL n)
 |[],n,h=>by grind[ads,gL,J1]
 |c::p,n,h=>by
  simp only[ads] at h;split at h
  ·rename_i s k e o
   simp only[Option.some.injEq] at h;subst h
   simp only[gL,J1,aol e,afP o]
  ·cases h
end
def cC.ren (m:Nat->Option Nat):cC->Option cC
 | .cells d e c a=>if a then some (.cells d e c a) else(ads m d).map fun b=> .cells b e c a
 | .dead=>some .dead
 | .row s l e a=>some (.row s l e a)
 | .map j f g h i a=>some (.map j f g h i a)
 | .abE .. =>none
theorem auc {m:Nat->Option Nat}:∀{l:List AV},(∀a∈l,Plain a)->J1 m l=some l
 |[],_=>by simp[J1]
 |a::e,h=>by
  have d:=auc (m:=m) (l:=e) fun b c=>h b (by simp[c])
  rcases h a (by simp) with⟨v,rfl,_⟩|⟨n,f,rfl,_⟩<;>simp only[J1,AV.ren,d]
theorem aud {m:Nat->Option Nat}:∀{l:List (Value×AV)},(∀a∈l,∃v,a.2= .sc v)->abA m l=some l
 |[],_=>by simp[abA]
 |(k,c)::e,h=>by
  obtain⟨v,b⟩:=h (k,c) (by simp)
  simp only at b
  subst b
  simp only[abA,AV.ren,aud (l:=e) fun a d=>h a (by simp[d])]
theorem aom {b sv:bD} {d:Bool} {es:List (b.T×sv.T)}:∀a∈es.map (fun p=>(ab7 b d p.1,aaI sv p.2)),∃v,a.2= .sc v:=fun a c=>by
 obtain⟨q,_,rfl⟩:=List.mem_map.1 c
 exact⟨_,rfl⟩
theorem aue {m:Nat->Option Nat} {x y:cC} (h:x.ren m=some y):x.g.ren m=some y.g:=by
 cases x with
 |dead=>simp[cC.ren] at h;subst h;rfl
 |cells o e k a=>
  simp only[cC.ren] at h
  cases a with
  |true=>simp only[if_true,Option.some.injEq] at h;subst h;simp only[cC.g,fZ.ren,if_true]
  |false=>
   simp only[Bool.false_eq_true,if_false] at h
   obtain⟨b,c,rfl⟩:=Option.map_eq_some_iff.1 h
   simp_all[cC.g,fZ.ren,afP]
 |abE s l e t=>grind[cC.ren]
 |row s l e a=>
  grind[cC.ren,cC.g,fZ.ren,auc,aaL]
 |map f n i j d a=>
  simp only[cC.ren,Option.some.injEq] at h;subst h
  simp only[cC.g,fZ.ren,aud aom,Option.map_some]
  grind
def aiR (m:Nat->Option Nat):ie->Option ie
 |[]=>some []
 |x::r=>match x.ren m,aiR m r with
  |some y,some l=>some (y::l)
  |_,_=>none
theorem auf {m:Nat->Option Nat}:∀{o o':ie},aiR m o=some o'->adX m (gO o)=some (gO o')
 |[],o',h=>by simp[aiR] at h;subst h;rfl
 |x::r,o',h=>by
  simp only[aiR] at h;split at h
  ·rename_i y l b a
   simp only[Option.some.injEq] at h;subst h
   have:=auf a
   grind[gO,adX,aue]
  ·cases h
def ahd (o:ie) (a:List Nat):List Nat->Option ie
 |[]=>some []
 |i::r=>match o[i]?,ahd o a r with
  |some x,some l=>match x.ren (fun j=>idxOf a j) with
   |some y=>some (y::l)
   |none=>none
  |_,_=>none
theorem aon {o:ie} {a:List Nat}:∀{r:List Nat} {o':ie},ahd o a r=some o'->S0 (gO o) a r=some (gO o')
 |[],o',h=>by simp[ahd] at h;subst h;rfl
 |i::r,o',h=>by
  simp only[ahd] at h;split at h
  ·rename_i x l d b
   split at h
   ·rename_i y c
    simp only[Option.some.injEq] at h;subst h
    simp only[S0,zo d,aon b,aue c,Option.map_some];rfl
   ·cases h
  ·cases h
def ahe (o:ie):List Nat->ie->ie
 |[],_=>o
 |_,[]=>o
 |i::r,x::l=>ahe (o.set i x) r l
theorem aug:∀{a:List Nat} {o l:ie},gO (ahe o a l)=XL (gO o) a (gO l)
 |[],o,l=>by simp[ahe,XL]
 |_::_,o,[]=>by simp[ahe,XL,gO]
 |i::r,o,x::l=>by
  simp only[ahe];rw[aug,acR]
  simp[gO,XL]
def acf (o:ie):Nat->List SV->List Nat->List Nat
 |0,_,c=>c
 |_,[],c=>c
 |d+1,v::i,c=>
  let f (e:Nat) (c:List Nat):List Nat:=
   if c.contains e then c else
   match o[e]? with
   |some (.cells g _ _ h)=>if h then c++[e] else acf o d g (c++[e])
   |_=>c++[e]
  acf o d i (match v with
   | .agg g| .eW g=>acf o d g c
   | .ptr e _ _| .ap e _ _ _ _ _| .rp e _ _ _ _| .ow e _ _| .os e _ _ _ _| .oc e _ _ _ _| .mp e=>f e c
   | .fn _ a b=>acf o d b (acf o d a c)
   |_=>c)
theorem aiS {o:Store}:∀{d:Nat} {l:List AV} {acc:List Nat},(∀a∈l,Plain a)->kD o d l acc=acc
 |0,_,_,_=>by grind[kD]
 |d+1,[],_,_=>by grind[kD]
 |d+1,a::l,acc,h=>by
  have e:=aiS (o:=o) (d:=d) (l:=l) (acc:=acc) fun b c=>h b (by simp[c])
  rcases h a (by simp) with⟨v,rfl,_⟩|⟨n,f,rfl,_⟩<;>(grind[kD])
theorem auh {o:Store}:∀{d:Nat} {l:List AV} {acc:List Nat},(∀a∈l,∃v,a= .sc v)->kD o d l acc=acc
 |0,_,_,_=>by simp[kD]
 |d+1,[],_,_=>by simp[kD]
 |d+1,a::l,acc,h=>by
  obtain⟨v,rfl⟩:=h a (by simp)
  simp only[kD]
  exact auh fun a b=>h a (by simp[b])
theorem aBP {l:List (Value×AV)} (h:∀a∈l,∃v,a.2= .sc v):∀a∈l.map (·.2),∃v,a= .sc v:=fun a b=>by
 grind
def cC.ak7:cC->Bool
 | .abE .. =>false
 |_=>true
theorem aui {o:ie} (h:o.all cC.ak7=true):∀{d:Nat} {vs:List SV} {acc:List Nat},kD (gO o) d (gL vs) acc=acf o d vs acc:=by
 intro d
 induction d with
 |zero=>grind[kD,acf]
 |succ d k=>
  intro vs acc
  cases vs with
  |nil=>simp[gL,kD,acf]
  |cons v vs=>
   have m:∀(b:Nat) (acc:List Nat),(if acc.contains b then acc else
     match(gO o)[b]? with
     |some (.cells f _ _ c)=>if c then acc++[b] else kD (gO o) d f (acc++[b])
     |some (.map j _ c)=>if c then acc++[b] else kD (gO o) d (j.map (·.2)) (acc++[b])
     |_=>acc++[b])=(if acc.contains b then acc else
     match o[b]? with
     |some (.cells f _ _ c)=>if c then acc++[b] else acf o d f (acc++[b])
     |_=>acc++[b]):=by
    intro b acc;rw[anX]
    cases i:o[b]? with
    |none=>rfl
    |some x=>
     cases x with
     |abE s l e t=>
      have:=List.all_eq_true.1 h _ (List.mem_of_getElem? i)
      grind[cC.ak7]
     |dead=>rfl
     |cells f e r c=>grind[cC.g]
     |row s l e c=>simp only[Option.map_some,cC.g,aiS (fun a n=>aaL n),ite_self]
     |map p u q j w c=>simp only[Option.map_some,cC.g,auh (aBP aom),ite_self]
   simp only[gL,kD,acf];rw[k]
   congr 1
   cases v<;>simp only[SV.g,k]<;>exact m _ _
def aoo (C:FuncId->List SV->ie->(SV->ie->Prop)->Prop) (f:FuncId) (args:List SV) (o:ie) (K:SV->ie->Prop):Prop:=
 if o.all cC.ak7=false then False else
 let a:=acf o zd args []
 match ads (fun j=>idxOf a j) args,ahd o a a with
 |some c,some d=>C f c d fun r b=>
   if b.length<a.length\/Hh.ab0 a=false then False else
   match r.ren (abB a o.length),aiR (abB a o.length) b with
   |some g,some e=>K g (ahe o a (e.take a.length)++e.drop a.length)
   |_,_=>False
 |_,_=>False
theorem aBQ {call:lU} {C:FuncId->List SV->ie->(SV->ie->Prop)->Prop}
  (n:∀f args o K,C f args o K->∃(r:SV) (o':ie),call f (gL args) (gO o) true=some (r.g,gO o')/\K r o')
  {f:FuncId} {args:List SV} {o:ie} {K:SV->ie->Prop} (h:aoo C f args o K):
  ∃(r:SV) (o':ie),Hh call f (gL args) (gO o)=some (r.g,gO o')/\K r o':=by
 unfold aoo at h;split at h
 ·exact h.elim
 rename_i a;simp only[Bool.not_eq_false] at a
 simp only at h
 split at h
 ·rename_i d e i l
  obtain⟨r,c,j,b⟩:=n _ _ _ _ h
  split at b
  ·exact b.elim
  ·rename_i p
   split at b
   ·rename_i k q m s
    refine⟨k,_,?_,b⟩
    unfold Hh;simp only[aui a];rw[afP i,aon l];simp only[j,abj];rw[if_neg p,aol m,auf s];simp only[atX,aug]
    simp[gO]
   simp_all
 simp_all
section
variable {P:Program} {T:Tab} {p:HT} {Λ:Nat->jW}
theorem aBR (A:Sv P T) (y:acd T.K p.C) (w:∀f F,p.it f=some F->T.fn f=some F) {f:FuncId} {F:uC} (u:T.fn f=some F) {args:List SV} {o:ie} {r:AV} {o':Store} (G:T.K f (gL args) (gO o) true=none) (n:args.length=F.params)
  {Q:SV->ie->Prop} (m:∀v s,Q v s->v.g=r/\gO s=o') (h:ag6 p Λ F args o Q):By P f=true/\Uc P f (gL args) (gO o) r o':=by
 unfold ag6 at h
 have i:=afL y w h
 have e:(iz.mk (aaM 0 args) o).g=⟨EF 0 (gL args),gO o⟩:=by simp[iz.g,afM]
 rw[e] at i
 have j:(gO o).length=o.length:=abj o
 rw[<-j] at i
 have E:∀(a:iz),(abg a F.res fun v=>if v.ig (gO o).length&&a.o.all (fun x=>x.ig (gO o).length)&&decide ((gO o).length<=a.o.length) then Q v (a.o.take (gO o).length) else False)->
   (aa8 a.g F.res).bind (fun l=>finish true (gO o).length l a.g.o)=some (r,o'):=by
  intro a t
  obtain⟨l,k,b⟩:=ahb t
  rw[k];simp only[Option.bind_some,finish,if_true];split at b
  ·rename_i q
   simp only[Bool.and_eq_true,decide_eq_true_eq,List.all_eq_true] at q
   obtain⟨⟨z,D⟩,B⟩:=q
   have d:∀x∈a.g.o,x.ig (gO o).length=true:=by
    grind[iz.g,gO,akY]
   rw[atV (by grind[aiJ]) d (by grind[iz.g,abj])]
   rw[<-(m _ _ b).1,<-(m _ _ b).2]
   simp_all[iz.g,gO]
  ·exact b.elim
 obtain⟨k,b,_⟩:=akL A u (o:=gO o) (own:=true) G (by grind[MF]) (v:=r) (o':=o') (i.mono fun c s H=>by
  obtain⟨a,rfl,t⟩:=H
  cases c<;>grind)
 simp_all
end
structure ob where
 f:FuncId
 α:Type
 put:α->List SV
 st:α->ie
 dec:List SV->ie->Option α
 ok:∀v o a,dec v o=some a->gL v=gL (put a)/\gO o=gO (st a)
 inj:∀a b,gL (put a)=gL (put b)->gO (st a)=gO (st b)->a=b
 dom:α->Prop
 res:α->SV
 out:α->ie
def qH (P:Program) (c:ob):Prop:=∀a,c.dom a->By P c.f=true/\Uc P c.f (gL (c.put a)) (gO (c.st a)) (c.res a).g (gO (c.out a))
def YA (f:FuncId):List ob->Option ob
 |[]=>none
 |c::r=>bif Nat.beq c.f f then some c else YA f r
theorem auj:∀{L:List ob} {f:FuncId} {c:ob},YA f L=some c->c.f=f/\c∈L
 |[],_,_,h=>by cases h
 |d::L,f,c,h=>by
  simp only[YA] at h
  cases a:Nat.beq d.f f with
  |true=>
   simp_all
  |false=>
   rw[a] at h;simp only[cond_false] at h
   obtain⟨b,e⟩:=auj h
   simp_all
def auk (W:List ob) (f:FuncId) (args:List SV) (o:ie) (K:SV->ie->Prop):Prop:=
 match YA f W with
 |some c=>HU (c.dec args o) fun a=>c.dom a/\K (c.res a) (c.out a)
 |none=>False
open Classical in
noncomputable def aeR (W:List ob) (f:FuncId) (args:List AV) (o:Store):Option (AV×Store):=
 match YA f W with
 |some c=>if h:∃a,args=gL (c.put a)/\o=gO (c.st a)/\c.dom a then some ((c.res (Classical.choose h)).g,gO (c.out (Classical.choose h))) else none
 |none=>none
noncomputable def A2 (W:List ob):Ug:=⟨aeR W,fun f a o K=>aoo (auk W) f a o K⟩
theorem Xy {P:Program} {W:List ob} (u:∀c∈W,qH P c):aaO P (A2 W) where
 K:=fun f d o r w h=>by
  simp only[A2,aeR] at h;split at h
  ·rename_i c k
   obtain⟨rfl,v⟩:=auj k
   split at h
   ·rename_i e
    simp only[Option.some.injEq,Prod.mk.injEq] at h
    generalize t:Classical.choose e=b at h
    have n:=Classical.choose_spec e
    rw[t] at n
    obtain⟨p,s,l⟩:=n
    obtain⟨j,m⟩:=u c v _ l
    simp_all
   ·cases h
  ·cases h
 C:=fun q g f d o K h=>by
  refine aBQ ?_ h
  intro f d o K i;simp only[auk] at i;split at i
  ·rename_i c k
   obtain⟨a,p,s,l⟩:=J8 i
   refine⟨_,_,?_,l⟩
   rw[g]
   obtain⟨j,m⟩:=c.ok _ _ _ p
   have e:∃b,gL d=gL (c.put b)/\gO o=gO (c.st b)/\c.dom b:=⟨a,j,m,s⟩
   simp only[A2,aeR,k,dif_pos e]
   have:Classical.choose e=a:=c.inj _ _ ((Classical.choose_spec e).1.symm.trans j) ((Classical.choose_spec e).2.1.symm.trans m)
   rw[this]
  simp_all
theorem aop {P:Program} {i:FuncId->Option uC} {L:List fN} {W:List ob} (c:ob) {F:uC} {m:TypeId->Option bD} {j:List Nat×Bool->Option (bD×bD)} {Λ:c.α->Nat->jW}
  (q:Sv P ⟨i,fun _ _ _ _=>none⟩) (k:∀c∈W,qH P c) (r:∀c∈L,Holds P c)
  (n:i c.f=some F) (e:∀a,(c.put a).length=F.params)
  (a:c.α) (o:∀d,YA c.f W=some d->∀b,gL (c.put a)=gL (d.put b)->gO (c.st a)=gO (d.st b)->¬d.dom b)
  (h:ag6 (SC L (A2 W) m j i) (Λ a) F (c.put a) (c.st a) fun v s=>v.same (c.res a)/\ME s (c.out a)):
  By P c.f=true/\Uc P c.f (gL (c.put a)) (gO (c.st a)) (c.res a).g (gO (c.out a)):=by
 refine aBR (p:=SC L (A2 W) m j i) (Λ:=Λ a) (Q:=fun v s=>v.same (c.res a)/\ME s (c.out a)) (ad7 (Xy k) r q) (ad8 (Xy k)) (fun _ _ h=>h) n ?_ (e a) (fun v s l=>⟨l.1,aha l.2⟩) ?_
 ·simp only[ace,adr,if_true,A2,aeR]
  grind
 ·exact h
mutual
def Xz (o:ie) (k:Nat):SV->(SV->Prop)->Prop
 | .ow e n h,K=>if k<=e then(match o[e]? with
   |some (.row s l _ true)=>if h=s.sz then n=l.length/\K (.row s l) else False
   |some (.row _ _ _ false)=>K (.ow e n h)
   |_=>False) else K (.ow e n h)
 | .ptr e f t,K=>if k<=e then(match o[e]? with
   |some (.cells _ _ _ false)=>K (.ptr e f t)
   |_=>False) else K (.ptr e f t)
 | .agg g,K=>aea o k g fun d=>K (.agg d)
 | .eW g,K=>aea o k g fun d=>K (.eW d)
 | .ud,K=>K .ud
 | .sc v,K=>K (.sc v)
 | .il q n,K=>K (.il q n)
 | .si q n,K=>K (.si q n)
 | .bl b,K=>K (.bl b)
 | .sb b,K=>K (.sb b)
 | .row s l,K=>K (.row s l)
 | .mp i,K=>K (.mp i)
 | .fn f a b,K=>aea o k a fun m=>aea o k b fun j=>K (.fn f m j)
 |_,_=>False
def aea (o:ie) (k:Nat):List SV->(List SV->Prop)->Prop
 |[],K=>K []
 |c::g,K=>Xz o k c fun p=>aea o k g fun d=>K (p::d)
end
section
variable {o:ie} {k:Nat}
mutual
theorem aoq:∀{v:SV} {K:SV->Prop},Xz o k v K->∃u:SV,v.g.gy (gO o) (fun i=>decide (k<=i))=some u.g/\K u
 | .ow B n A,K,h=>by
  simp only[Xz] at h;split at h
  ·rename_i q
   split at h
   ·rename_i s l e w
    split at h
    ·rename_i r
     subst r
     obtain⟨rfl,h⟩:=h
     refine⟨_,?_,h⟩
     have y:List.take (l.length*s.sz) (jY s l)=jY s l:=List.take_of_length_le (by grind[xl])
     simp_all[SV.g,AV.gy,zo,cC.g,xl]
    simp_all
   ·rename_i s l e w
    refine⟨_,?_,h⟩
    simp_all[SV.g,AV.gy,zo,cC.g]
   simp_all
  ·rename_i q
   refine⟨_,?_,h⟩
   simp_all[SV.g,AV.gy,if_neg]
 | .ptr B f t,K,h=>by
  simp only[Xz] at h;split at h
  ·rename_i q
   split at h
   ·rename_i j e A w
    refine⟨_,?_,h⟩
    simp_all[SV.g,AV.gy,zo,cC.g]
   simp_all
  ·rename_i q
   refine⟨_,?_,h⟩
   simp_all[SV.g,AV.gy,if_neg]
 | .agg j,K,h=>by
  simp only[Xz] at h
  obtain⟨d,p,m⟩:=ahf h
  grind[SV.g,AV.gy]
 | .eW j,K,h=>by
  simp only[Xz] at h
  obtain⟨d,p,m⟩:=ahf h
  grind[SV.g,AV.gy]
 | .ud,K,h=>⟨.ud,by grind[SV.g,AV.gy],by grind[Xz]⟩
 | .sc v,K,h=>⟨.sc v,by grind[SV.g,AV.gy],by grind[Xz]⟩
 | .il k n,K,h=>⟨.il k n,by grind[SV.g,AV.gy],by grind[Xz]⟩
 | .si k n,K,h=>⟨.si k n,by grind[SV.g,AV.gy],by grind[Xz]⟩
 | .bl b,K,h=>⟨.bl b,by grind[SV.g,AV.gy],by grind[Xz]⟩
 | .sb b,K,h=>⟨.sb b,by grind[SV.g,AV.gy],by grind[Xz]⟩
 | .row s l,K,h=>⟨.row s l,by grind[SV.g,AV.gy],by grind[Xz]⟩
 | .mp i,K,h=>⟨.mp i,by grind[SV.g,AV.gy],by grind[Xz]⟩
 | .fn f a b,K,h=>by
  simp only[Xz] at h
  obtain⟨D,p,m⟩:=ahf h
  obtain⟨C,z,x⟩:=ahf m
  grind[SV.g,AV.gy]
 | .ep ..,K,h| .ap ..,K,h| .rp ..,K,h| .os ..,K,h| .oc ..,K,h=>by simp only[Xz] at h
theorem ahf:∀{j:List SV} {K:List SV->Prop},aea o k j K->∃d:List SV,BK (gO o) (fun i=>decide (k<=i)) (gL j)=some (gL d)/\K d
 |[],K,h=>⟨[],by simp[gL,BK],by grind[aea]⟩
 |c::j,K,h=>by
  simp only[aea] at h
  obtain⟨E,p,m⟩:=aoq h
  obtain⟨d,z,x⟩:=ahf m
  grind[gL,BK]
end
def abI (o:ie) (k:Nat):Nat->ie->(ie->Prop)->Prop
 |_,[],K=>K []
 |i,x::r,K=>match x with
  | .cells f e m false=>aea o k f fun c=>abI o k (i+1) r fun a=>K (.cells c e m false::a)
  | .row s l e b=>abI o k (i+1) r fun a=>K ((if b&&decide (k<=i) then .dead else .row s l e b)::a)
  | .map g n d j h b=>abI o k (i+1) r fun a=>K (.map g n d j h b::a)
  | .dead=>abI o k (i+1) r fun a=>K (.dead::a)
  |_=>False
theorem ahg:∀{i:Nat} {r:ie} {K:ie->Prop},abI o k i r K->∃r' mid,Kv (gO o) (fun i=>decide (k<=i)) (gO r)=some mid/\zl (fun i=>decide (k<=i)) i mid=gO r'/\K r'
 |i,[],K,h=>⟨[],[],rfl,rfl,h⟩
 |i,x::r,K,h=>by
  cases x with
  |dead=>
   simp only[abI] at h
   obtain⟨r',mid,m,b,e⟩:=ahg h
   grind[gO,cC.g,Kv,fZ.gy,zl]
  |cells A c z a=>
   cases a with
   |true=>grind[abI]
   |false=>
    simp only[abI] at h
    obtain⟨j,y,f⟩:=ahf h
    obtain⟨r',mid,m,b,e⟩:=ahg f
    refine⟨_,.cells (gL j) c z false::mid,?_,?_,e⟩
    all_goals simp_all[gO,cC.g,Kv,fZ.gy,zl]
  |abE s l c t=>grind[abI]
  |row s l c a=>
   simp only[abI] at h
   obtain⟨r',mid,m,b,e⟩:=ahg h
   refine⟨_,(cC.row s l c a).g::mid,?_,?_,e⟩
   ·have d:(cC.row s l c a).g.gy (gO o) (fun i=>decide (k<=i))=some (cC.row s l c a).g:=by
     cases a with
     |true=>simp only[cC.g,fZ.gy,if_true]
     |false=>
      simp only[cC.g,fZ.gy,Bool.false_eq_true,if_false]
      grind[ak4,aaL]
    grind[gO,Kv]
   ·cases a with
    |true=>
     simp only[cC.g,zl,Bool.true_and]
     by_cases n:k<=i
     ·simp only[n,decide_true,if_true]
      rw[b];rfl
     ·simp only[n,decide_false,Bool.false_eq_true,if_false]
      rw[b];rfl
    |false=>simp only[cC.g,zl,Bool.false_and,Bool.false_eq_true,if_false];rw[b];rfl
  |map u p q w v a=>
   simp only[abI] at h
   obtain⟨r',mid,m,b,e⟩:=ahg h
   have d:(cC.map u p q w v a).g.gy (gO o) (fun i=>decide (k<=i))=some (cC.map u p q w v a).g:=by
    cases a with
    |true=>simp only[cC.g,fZ.gy,if_true]
    |false=>
     simp only[cC.g,fZ.gy,Bool.false_eq_true,if_false];rw[aog aom,Option.map_some]
   grind[gO,Kv,cC.g,zl]
end
def ak8 (r:SV) (o:ie) (K:SV->ie->Prop):Prop:=
 Xz o 0 r fun c=>abI o 0 0 o fun b=>
  if b.all cC.ak7=false then False else
  let a:=acf b zd [c] []
  if Hh.ab0 a then match c.ren (fun j=>idxOf a j),ahd b a a with
   |some e,some d=>K e d
   |_,_=>False
  else False
theorem aBS {r:SV} {o:ie} {K:SV->ie->Prop} (h:ak8 r o K):∃r' o',XP 0 r.g (gO o)=some (r'.g,gO o')/\K r' o':=by
 unfold ak8 at h
 obtain⟨m,n,k⟩:=aoq h
 obtain⟨c,i,e,f,a⟩:=ahg k
 split at a
 ·exact a.elim
 rename_i b;simp only[Bool.not_eq_false] at b
 simp only at a
 split at a
 ·rename_i t
  split at a
  ·rename_i j l p q
   refine⟨j,l,?_,a⟩
   unfold XP;rw[n,e];simp only[f,List.take_zero,List.flatMap_nil,List.range_zero]
   have s:=aui (o:=c) b (d:=zd) (vs:=[m]) (acc:=[])
   simp_all[gL,aol,aon]
  simp_all
 simp_all
def aor (p:HT) (Λ:Nat->jW) (F:uC) (args:List SV) (Q:SV->ie->Prop):Prop:=
 wpS p 0 F.body Λ ⟨aaM 0 args,[]⟩ fun a b=>match a with
  | .exit _=>False
  | .goto _=>False
  |_=>abg b F.res fun r=>ak8 r b.o Q
theorem aBT {P:Program} {T:Tab} {p:HT} {Λ:Nat->jW} (y:Sv P T) (t:acd T.K p.C) (x:∀f F,p.it f=some F->T.fn f=some F) {f:FuncId} {F:uC} (m:T.fn f=some F) {args:List SV} {r:AV} {o':Store} (A:T.K f (gL args) [] true=none) (j:args.length=F.params)
  {Q:SV->ie->Prop} (D:∀v s,Q v s->v.g=r/\gO s=o') (h:aor p Λ F args Q):By P f=true/\Uc P f (gL args) [] r o':=by
 unfold aor at h
 have k:=afL t x h
 have b:(iz.mk (aaM 0 args) []).g=⟨EF 0 (gL args),[]⟩:=by simp[iz.g,afM,gO]
 rw[b] at k
 have n:∀(a:iz),(abg a F.res fun v=>ak8 v a.o Q)->(aa8 a.g F.res).bind (fun c=>finish true 0 c a.g.o)=some (r,o'):=by
  intro a l
  obtain⟨c,e,i⟩:=ahb l
  obtain⟨u,q,w,B⟩:=aBS i
  rw[e];simp only[Option.bind_some,finish,if_true]
  have:XP 0 c.g a.g.o=some (u.g,gO q):=w
  grind
 obtain⟨e,i,_⟩:=akL y m (o:=[]) (own:=true) A (by grind[MF]) (v:=r) (o':=o') (k.mono fun d s z=>by
  obtain⟨a,rfl,l⟩:=z
  cases d<;>simp_all)
 simp_all
theorem aBU {W:List ob} {f:FuncId} {args:List AV} {o:Store} (h:YA f W=none):aeR W f args o=none:=by
 grind[aeR]
end Go.Vi
