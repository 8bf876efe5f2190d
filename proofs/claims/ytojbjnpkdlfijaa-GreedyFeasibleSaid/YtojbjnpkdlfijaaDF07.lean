/-
  Plain law: lists in the order of a key; parts of lists that are exchanged.
  Conditions: none.
-/
import Derived.Test.YtojbjnpkdlfijaaDF06
import Derived.Test.YtojbjnpkdlfijaaProg
import Derived.Shelf.Sort.AssemblyIn
import Derived.Shelf.SlicesE.Clone
import Derived.Shelf.SlicesE.Delete
import Derived.KernelRfl
import Derived.Sort.EveryDepth
import Derived.Sort.OwnSortedInts
import Derived.WalkKit
import Derived.Deep.LoopGhost
import Derived.Lib.Walk
import Derived.Lib.SliceRun
import Derived.Shelf.RegionOpenPlain
set_option maxRecDepth 100000
set_option maxHeartbeats 4000000
set_option linter.unusedSimpArgs false
set_option linter.unusedVariables false
namespace Go.Vi
def leD (D:Int→Int) (x y:Int):Bool:=decide (D y<D x)||(decide (D x=D y)&&decide (x≤y))
theorem leD_iff {D:Int→Int} {x y:Int}:leD D x y=true↔D y<D x∨(D x=D y∧x≤y):=by unfold leD;simp
theorem leD_trans {D:Int→Int} (a b c:Int) (h1:leD D a b=true) (h2:leD D b c=true):leD D a c=true:=by
 rw[leD_iff] at*
 rcases h1 with h1|⟨h1,k1⟩
 ·rcases h2 with h2|⟨h2,k2⟩
  ·exact .inl (by omega)
  ·exact .inl (by omega)
 ·rcases h2 with h2|⟨h2,k2⟩
  ·exact .inl (by omega)
  ·exact .inr ⟨by omega,by omega⟩
theorem leD_total {D:Int→Int} (a b:Int):(leD D a b||leD D b a)=true:=by
 rw[Bool.or_eq_true,leD_iff,leD_iff]
 by_cases h1:D b<D a
 ·exact .inl (.inl h1)
 ·by_cases h2:D a<D b
  ·exact .inr (.inl h2)
  ·have h3:D a=D b:=by omega
   by_cases h4:a≤b
   ·exact .inl (.inr ⟨h3,h4⟩)
   ·exact .inr (.inr ⟨h3.symm,by omega⟩)
theorem leD_anti {D:Int→Int} {a b:Int} (h1:leD D a b=true) (h2:leD D b a=true):a=b:=by
 rw[leD_iff] at*
 rcases h1 with h1|⟨h1,k1⟩
 ·rcases h2 with h2|⟨h2,k2⟩
  ·exact absurd h1 (by omega)
  ·exact absurd h1 (by omega)
 ·rcases h2 with h2|⟨h2,k2⟩
  ·exact absurd h2 (by omega)
  ·omega
abbrev Srt (D:Int→Int) (l:List Int):Prop:=l.Pairwise fun a b=>leD D a b=true
def srt (D:Int→Int) (l:List Int):List Int:=l.mergeSort (leD D)
theorem srt_perm {D:Int→Int} {l:List Int}:(srt D l).Perm l:=List.mergeSort_perm _ _
theorem srt_srt {D:Int→Int} {l:List Int}:Srt D (srt D l):=List.pairwise_mergeSort leD_trans leD_total l
theorem srt_len {D:Int→Int} {l:List Int}:(srt D l).length=l.length:=srt_perm.length_eq
theorem srt_mem {D:Int→Int} {l:List Int} {x:Int}:x∈srt D l↔x∈l:=srt_perm.mem_iff
theorem srt_eq {D:Int→Int} {l m:List Int} (hp:m.Perm l) (hs:Srt D m):m=srt D l:=
 List.Perm.eq_of_pairwise (fun a b _ _ h1 h2=>leD_anti h1 h2) hs srt_srt (hp.trans srt_perm.symm)
theorem srt_of {D:Int→Int} {l:List Int} (h:Srt D l):srt D l=l:=(srt_eq (List.Perm.refl _) h).symm
def seg (l:List Int) (a b:Nat):List Int:=(l.drop a).take (b - a)
def srtP (D:Int→Int) (l:List Int) (a b:Nat):List Int:=l.take a++srt D (seg l a b)++l.drop b
theorem seg_len {l:List Int} {a b:Nat} (h1:a≤b) (h2:b≤l.length):(seg l a b).length=b - a:=by
 unfold seg
 rw[List.length_take,List.length_drop]
 omega
theorem seg_succ {l:List Int} {a b:Nat} (h1:a≤b) (h2:b<l.length):seg l a (b+1)=seg l a b++[nthD l b 0]:=by
 unfold seg
 rw[show b+1 - a=(b - a)+1 by omega,List.take_succ_eq_append_getElem (by rw[List.length_drop];omega),List.getElem_drop]
 congr 2
 rw[nthD_eq h2]
 congr 1
 omega
theorem seg_nil {l:List Int} {a:Nat}:seg l a a=[]:=by unfold seg;simp
theorem srtP_len {D:Int→Int} {l:List Int} {a b:Nat} (h1:a≤b) (h2:b≤l.length):(srtP D l a b).length=l.length:=by
 unfold srtP
 rw[List.length_append,List.length_append,srt_len,seg_len h1 h2,List.length_take,List.length_drop]
 omega
theorem drop_nthI {l:List Int} {i:Nat} (h:i<l.length):l.drop i=nthD l i 0::l.drop (i+1):=by
 rw[List.drop_eq_getElem_cons h,nthD_eq h]
theorem srtP_nil {D:Int→Int} {l:List Int} {a:Nat}:srtP D l a a=l:=by
 unfold srtP
 rw[seg_nil]
 simp[srt]
theorem srtP_one {D:Int→Int} {l:List Int} {a:Nat} (h:a<l.length):srtP D l a (a+1)=l:=by
 have e:seg l a (a+1)=[nthD l a 0]:=by rw[seg_succ (Nat.le_refl _) h,seg_nil];rfl
 unfold srtP
 rw[e,srt_of (by simp),List.append_assoc]
 simp only[List.singleton_append]
 rw[←drop_nthI h,List.take_append_drop]
def insP (D:Int→Int) (l:List Int) (a i j:Nat):List Int:=l.take a++((srt D (seg l a i)).take (j - a)++nthD l i 0::(srt D (seg l a i)).drop (j - a))++l.drop (i+1)
theorem insP_len {D:Int→Int} {l:List Int} {a i j:Nat} (h1:a≤i) (h2:i<l.length):(insP D l a i j).length=l.length:=by
 have hs:=@srt_len D (seg l a i)
 rw[seg_len h1 (by omega)] at hs
 unfold insP
 simp only[List.length_append,List.length_cons,List.length_take,List.length_drop,hs]
 omega
theorem insP_start {D:Int→Int} {l:List Int} {a i:Nat} (h1:a≤i) (h2:i<l.length):insP D l a i i=srtP D l a i:=by
 have hs:=@srt_len D (seg l a i)
 rw[seg_len h1 (by omega)] at hs
 have e1:(srt D (seg l a i)).take (i - a)=srt D (seg l a i):=List.take_of_length_le (by omega)
 have e2:(srt D (seg l a i)).drop (i - a)=[]:=List.drop_of_length_le (by omega)
 unfold insP srtP
 rw[e1,e2,drop_nthI h2]
 simp
theorem swap_at {A B:List Int} {y x:Int}:((A++y::x::B).set (A.length+1) y).set A.length x=A++x::y::B:=by
 rw[List.set_append_right _ _ (by omega),List.set_append_right _ _ (by omega)]
 simp
theorem nth_app {A B:List Int} {y:Int}:nthD (A++y::B) A.length 0=y:=by unfold nthD;simp
theorem nth_app1 {A B:List Int} {y x:Int}:nthD (A++y::x::B) (A.length+1) 0=x:=by unfold nthD;simp
theorem insP_form {D:Int→Int} {l:List Int} {a i k:Nat} (h1:a+k+1≤i) (h2:i<l.length):
  insP D l a i (a+k+1)=(l.take a++(srt D (seg l a i)).take k)++nthD (srt D (seg l a i)) k 0::nthD l i 0::((srt D (seg l a i)).drop (k+1)++l.drop (i+1))∧
  insP D l a i (a+k)=(l.take a++(srt D (seg l a i)).take k)++nthD l i 0::nthD (srt D (seg l a i)) k 0::((srt D (seg l a i)).drop (k+1)++l.drop (i+1))∧
  (l.take a++(srt D (seg l a i)).take k).length=a+k:=by
 have hs:=@srt_len D (seg l a i)
 rw[seg_len (by omega) (by omega)] at hs
 have hk:k<(srt D (seg l a i)).length:=by omega
 have t1:(srt D (seg l a i)).take (k+1)=(srt D (seg l a i)).take k++[nthD (srt D (seg l a i)) k 0]:=by rw[List.take_succ_eq_append_getElem hk,nthD_eq hk]
 have t2:(srt D (seg l a i)).drop k=nthD (srt D (seg l a i)) k 0::(srt D (seg l a i)).drop (k+1):=by rw[List.drop_eq_getElem_cons hk,nthD_eq hk]
 unfold insP
 rw[show a+k+1 - a=k+1 by omega,show a+k - a=k by omega]
 refine⟨by rw[t1];simp,by rw[t2];simp,?_⟩
 rw[List.length_append,List.length_take,List.length_take]
 omega
theorem insP_at {D:Int→Int} {l:List Int} {a i j:Nat} (h0:a<j) (h1:j≤i) (h2:i<l.length):
  nthD (insP D l a i j) j 0=nthD l i 0∧nthD (insP D l a i j) (j - 1) 0=nthD (srt D (seg l a i)) (j - 1 - a) 0∧
  ((insP D l a i j).set j (nthD (srt D (seg l a i)) (j - 1 - a) 0)).set (j - 1) (nthD l i 0)=insP D l a i (j - 1):=by
 obtain⟨f1,f2,f3⟩:=@insP_form D l a i (j - 1 - a) (by omega) h2
 rw[show a+(j - 1 - a)+1=j by omega] at f1
 rw[show a+(j - 1 - a)=j - 1 by omega] at f2 f3
 rw[f1,f2]
 generalize l.take a++(srt D (seg l a i)).take (j - 1 - a)=A at*
 generalize nthD (srt D (seg l a i)) (j - 1 - a) 0=y at*
 generalize nthD l i 0=x at*
 generalize (srt D (seg l a i)).drop (j - 1 - a+1)++l.drop (i+1)=B at*
 have e1:j=A.length+1:=by omega
 have e2:j - 1=A.length:=by omega
 refine⟨?_,?_,?_⟩
 ·rw[e1]
  exact nth_app1
 ·rw[e2]
  exact nth_app
 ·rw[e2,e1]
  exact swap_at
theorem ins_srt {D:Int→Int} {S:List Int} {x:Int} {k:Nat} (hS:Srt D S) (h1:∀s∈S.drop k,leD D x s=true) (h2:k=0∨(k≤S.length∧leD D (nthD S (k - 1) 0) x=true)):Srt D (S.take k++x::S.drop k):=by
 have hsplit:Srt D (S.take k++S.drop k):=by rw[List.take_append_drop];exact hS
 obtain⟨p1,p2,p3⟩:=List.pairwise_append.1 hsplit
 have hx:∀s∈S.take k,leD D s x=true:=by
  rcases h2 with rfl|⟨hk,h2⟩
  ·simp
  ·intro s hs
   by_cases h0:k=0
   ·subst h0;simp at hs
   have hk1:k - 1<S.length:=by omega
   have e:S.take k=S.take (k - 1)++[nthD S (k - 1) 0]:=by
    conv=>lhs;rw[show k=(k - 1)+1 by omega]
    rw[List.take_succ_eq_append_getElem hk1,nthD_eq hk1]
   rw[e] at hs p1
   rcases List.mem_append.1 hs with hs|hs
   ·exact leD_trans _ _ _ ((List.pairwise_append.1 p1).2.2 s hs _ (by simp)) h2
   ·simp only[List.mem_singleton] at hs
    rw[hs];exact h2
 rw[Srt,List.pairwise_append]
 refine⟨p1,List.pairwise_cons.2 ⟨h1,p2⟩,fun s hs t ht=>?_⟩
 rcases List.mem_cons.1 ht with rfl|ht
 ·exact hx s hs
 ·exact p3 s hs t ht
theorem perm_ins {S:List Int} {x:Int} {k:Nat}:(S.take k++x::S.drop k).Perm (S++[x]):=by
 refine(List.perm_middle).trans ?_
 rw[List.take_append_drop]
 exact(List.perm_append_singleton x S).symm
theorem insP_done {D:Int→Int} {l:List Int} {a i j:Nat} (h0:a≤j) (h1:j≤i) (h2:i<l.length) (h3:∀s∈(srt D (seg l a i)).drop (j - a),leD D (nthD l i 0) s=true) (h4:j=a∨leD D (nthD (srt D (seg l a i)) (j - 1 - a) 0) (nthD l i 0)=true):
  insP D l a i j=srtP D l a (i+1):=by
 have hs:=@srt_len D (seg l a i)
 rw[seg_len (by omega) (by omega)] at hs
 have key:Srt D ((srt D (seg l a i)).take (j - a)++nthD l i 0::(srt D (seg l a i)).drop (j - a)):=by
  refine ins_srt srt_srt h3 ?_
  rcases h4 with rfl|h4
  ·exact .inl (by omega)
  ·exact .inr ⟨by omega,by rw[show j - a - 1=j - 1 - a by omega];exact h4⟩
 have hp:((srt D (seg l a i)).take (j - a)++nthD l i 0::(srt D (seg l a i)).drop (j - a)).Perm (seg l a (i+1)):=by
  rw[seg_succ (by omega) h2]
  exact perm_ins.trans (List.Perm.append srt_perm (List.Perm.refl _))
 unfold insP srtP
 rw[srt_eq hp key]
def swR (l:List Int) (a b n:Nat):List Int:=(List.range l.length).map fun k=>if a≤k∧k<a+n then nthD l (k - a+b) 0 else if b≤k∧k<b+n then nthD l (k - b+a) 0 else nthD l k 0
theorem swR_len {l:List Int} {a b n:Nat}:(swR l a b n).length=l.length:=by simp[swR]
theorem swR_nth {l:List Int} {a b n k:Nat} (h:k<l.length):nthD (swR l a b n) k 0=if a≤k∧k<a+n then nthD l (k - a+b) 0 else if b≤k∧k<b+n then nthD l (k - b+a) 0 else nthD l k 0:=by
 show(((List.range l.length).map _)[k]?).getD 0=_
 rw[List.getElem?_map,List.getElem?_range h]
 rfl
theorem swR_zero {l:List Int} {a b:Nat}:swR l a b 0=l:=by
 apply List.ext_getElem swR_len
 intro k h1 h2
 have:=@swR_nth l a b 0 k h2
 rw[nthD_eq h1,if_neg (by omega),if_neg (by omega),nthD_eq h2] at this
 exact this
theorem ext_nth {l m:List Int} (hl:l.length=m.length) (h:∀k,k<l.length→nthD l k 0=nthD m k 0):l=m:=
 List.ext_getElem hl fun k h1 h2=>by
  have:=h k h1
  rwa [nthD_eq h1,nthD_eq h2] at this
theorem nth_set {l:List Int} {i k:Nat} {v:Int} (h:k<l.length):nthD (l.set i v) k 0=if i=k then v else nthD l k 0:=by
 unfold nthD
 rw[List.getElem?_set]
 by_cases hi:i=k
 ·subst hi;simp[h]
 ·simp[hi]
theorem swR_succ {l:List Int} {a b n:Nat} (h1:a+n<b) (h2:b+n<l.length):
  ((swR l a b n).set (a+n) (nthD (swR l a b n) (b+n) 0)).set (b+n) (nthD (swR l a b n) (a+n) 0)=swR l a b (n+1):=by
 have e1:nthD (swR l a b n) (a+n) 0=nthD l (a+n) 0:=by rw[swR_nth (by omega),if_neg (by omega),if_neg (by omega)]
 have e2:nthD (swR l a b n) (b+n) 0=nthD l (b+n) 0:=by rw[swR_nth (by omega),if_neg (by omega),if_neg (by omega)]
 rw[e1,e2]
 refine ext_nth (by simp[swR_len]) fun k hk=>?_
 simp only[List.length_set,swR_len] at hk
 rw[nth_set (by simp[swR_len];exact hk),nth_set (by simp[swR_len];exact hk),swR_nth hk,swR_nth hk]
 by_cases c1:b+n=k
 ·rw[if_pos c1,if_neg (by omega),if_pos (by omega)]
  congr 1
  omega
 ·rw[if_neg c1]
  by_cases c2:a+n=k
  ·rw[if_pos c2,if_pos (by omega)]
   congr 1
   omega
  ·rw[if_neg c2]
   by_cases c3:a≤k∧k<a+n
   ·rw[if_pos c3,if_pos (by omega)]
   ·have d1:¬(a≤k∧k<a+(n+1)):=by omega
    rw[if_neg c3,if_neg d1]
    by_cases c4:b≤k∧k<b+n
    ·have d2:b≤k∧k<b+(n+1):=by omega
     rw[if_pos c4,if_pos d2]
    ·have d2:¬(b≤k∧k<b+(n+1)):=by omega
     rw[if_neg c4,if_neg d2]
theorem nth_append {A B:List Int} {k:Nat}:nthD (A++B) k 0=if k<A.length then nthD A k 0 else nthD B (k - A.length) 0:=by
 unfold nthD
 rw[List.getElem?_append]
 split<;>rfl
theorem swR_blocks {A X M Y B:List Int} (h:X.length=Y.length):swR (A++(X++(M++(Y++B)))) A.length (A.length+X.length+M.length) X.length=A++(Y++(M++(X++B))):=by
 refine ext_nth (by simp[swR_len];omega) fun k hk=>?_
 rw[swR_len] at hk
 rw[swR_nth hk]
 simp only[nth_append]
 simp only[List.length_append] at hk
 by_cases c1:k<A.length
 ·rw[if_neg (by omega),if_neg (by omega),if_pos c1,if_pos c1]
 by_cases c2:k<A.length+X.length
 ·rw[if_pos (by omega),if_neg (by omega),if_neg (by omega),if_neg (by omega),if_pos (by omega),if_neg c1,if_pos (by omega)]
  congr 1
  omega
 by_cases c3:k<A.length+X.length+M.length
 ·rw[if_neg (by omega),if_neg (by omega),if_neg c1,if_neg (by omega),if_pos (by omega),if_neg c1,if_neg (by omega),if_pos (by omega)]
  congr 1
  omega
 by_cases c4:k<A.length+X.length+M.length+Y.length
 ·rw[if_neg (by omega),if_pos (by omega),if_neg (by omega),if_pos (by omega),if_neg c1,if_neg (by omega),if_neg (by omega),if_pos (by omega)]
  congr 1
  omega
 ·rw[if_neg (by omega),if_neg (by omega),if_neg c1,if_neg (by omega),if_neg (by omega),if_neg (by omega),if_neg c1,if_neg (by omega),if_neg (by omega),if_neg (by omega)]
  congr 1
  omega
def rotR (l:List Int) (a m b:Nat):List Int:=l.take a++(seg l m b++(seg l a m++l.drop b))
theorem split4 {l:List Int} {a m b:Nat} (h1:a≤m) (h2:m≤b) (h3:b≤l.length):l=l.take a++(seg l a m++(seg l m b++l.drop b)):=by
 have e1:l.drop a=seg l a m++l.drop m:=by
  have:=List.take_append_drop (m - a) (l.drop a)
  rw[List.drop_drop,show a+(m - a)=m by omega] at this
  exact this.symm
 have e2:l.drop m=seg l m b++l.drop b:=by
  have:=List.take_append_drop (b - m) (l.drop m)
  rw[List.drop_drop,show m+(b - m)=b by omega] at this
  exact this.symm
 rw[←e2,←e1,List.take_append_drop]
open Go.Proofs.Ytojbjnpkdlfijaa.Ir
open Go.Proofs
def decI:Nat→List SV→Option (List Int)
 |0,[.fn (.func 25) [] [.ptr 1 0 20]]=>some []
 |k+1,x::r=>match x.int .i64,decI k r with
  |some n,some l=>some (n::l)
  |_,_=>none
 |_,_=>none
theorem decI_ok:∀{k:Nat} {r:List SV} {l:List Int},decI k r=some l→gL r=gL (l.map (SV.si .i64)++[.fn (.func 25) [] [.ptr 1 0 20]])
 |0,r,l,h=>by
  unfold decI at h
  split at h
  ·simp only[Option.some.injEq] at h;subst h;rfl
  ·rename_i h0;cases h0
  ·cases h
 |k+1,[],l,h=>by simp[decI] at h
 |k+1,x::r,l,h=>by
  simp only[decI] at h
  split at h
  ·rename_i n l' h1 h2
   simp only[Option.some.injEq] at h;subst h
   simp only[gL,List.map_cons,List.cons_append,decI_ok h2,int_g h1]
   rfl
  ·cases h
theorem gL_ints:∀{l m:List Int} {z:List SV},l.length=m.length→gL (l.map (SV.si .i64)++z)=gL (m.map (SV.si .i64)++z)→l=m
 |[],[],_,_,_=>rfl
 |[],_::_,_,h,_=>by simp at h
 |_::_,[],_,h,_=>by simp at h
 |x::l,y::m,z,hl,h=>by
  simp only[List.map_cons,List.cons_append,gL,List.cons.injEq,SV.g,AV.sc.injEq,Value.int.injEq,true_and] at h
  rw[h.1,gL_ints (by simpa using hl) h.2]
def sortCtr (f:FuncId) (k:Nat) (β:Type) (toL:β→List Int) (ofL:List Int→Option β) (h0:∀b,(toL b).length=k) (h1:∀l b,ofL l=some b→l=toL b) (h2:∀b c,toL b=toL c→b=c) (dom:(Nat×List Int×Prob)×β→Prop) (out:(Nat×List Int×Prob)×β→List Int):OCtr where
 f:=f
 α:=(Nat×List Int×Prob)×β
 put a:=.ow 0 a.1.1 1::((toL a.2).map (SV.si .i64)++[.fn (.func 25) [] [.ptr 1 0 20]])
 st a:=[.row (.i .i64) a.1.2.1 3 true,.cells a.1.2.2.ss 27 20 false]
 dec v o:=match v,o with
  | .ow 0 n 1::r,[.row t l 3 true,.cells cs 27 20 false]=>match decI k r,castL t (.i .i64) l,decProb cs with
   |some xs,some l,some p=>match ofL xs with
    |some b=>some ((n,l,p),b)
    |none=>none
   |_,_,_=>none
  |_,_=>none
 ok v o a h:=by
  split at h
  ·split at h
   ·rename_i h3 h4 h5
    split at h
    ·rename_i b hb
     simp only[Option.some.injEq] at h;subst h
     obtain⟨rfl,hh⟩:=castL_eq h4
     cases hh
     have:=h1 _ _ hb
     subst this
     refine⟨by simp only[gL,decI_ok h3],?_⟩
     simp only[gO,List.map_cons,List.map_nil,SObj.g,decProb_ok h5]
    ·cases h
   ·cases h
  ·cases h
 inj a b e1 e2:=by
  obtain⟨⟨n,l,p⟩,x⟩:=a
  obtain⟨⟨n',l',p'⟩,x'⟩:=b
  simp only[gL,List.cons.injEq,SV.g,AV.os.injEq,true_and] at e1
  simp only[gO,List.map_cons,List.map_nil,SObj.g,List.cons.injEq,AObj.cells.injEq,and_true,true_and] at e2
  have h3:p=p':=codP.inj p p' (by simp only[codP,SV.g,e2.2])
  have h4:l=l':=by
   have hf:=congrArg List.length e2.1
   rw[flatA_len,flatA_len] at hf
   exact flatA_inj (.i .i64) (by simpa[SId.sz] using hf) e2.1
  have h5:x=x':=h2 _ _ (gL_ints (by rw[h0,h0]) e1.2)
  rw[e1.1.1,h3,h4,h5]
 dom:=dom
 res _:=.tup []
 out a:=[.row (.i .i64) (out a) 3 true,.cells a.1.2.2.ss 27 20 false]
abbrev Srg:=Nat×List Int×Prob
def to2 (b:Int×Int):List Int:=[b.1,b.2]
def of2:List Int→Option (Int×Int)
 |[a,b]=>some (a,b)
 |_=>none
theorem of2_ok:∀l b,of2 l=some b→l=to2 b:=fun l b h=>by
 unfold of2 at h
 split at h
 ·simp only[Option.some.injEq] at h;subst h;rfl
 ·cases h
theorem to2_inj:∀b c,to2 b=to2 c→b=c:=fun b c h=>by
 unfold to2 at h
 simp only[List.cons.injEq,and_true] at h
 exact Prod.ext h.1 h.2
def to3 (b:Int×Int×Int):List Int:=[b.1,b.2.1,b.2.2]
def of3:List Int→Option (Int×Int×Int)
 |[a,b,c]=>some (a,b,c)
 |_=>none
theorem of3_ok:∀l b,of3 l=some b→l=to3 b:=fun l b h=>by
 unfold of3 at h
 split at h
 ·simp only[Option.some.injEq] at h;subst h;rfl
 ·cases h
theorem to3_inj:∀b c,to3 b=to3 c→b=c:=fun b c h=>by
 unfold to3 at h
 simp only[List.cons.injEq,and_true] at h
 exact Prod.ext h.1 (Prod.ext h.2.1 h.2.2)
def offL (a:Srg):Prop:=(checkE a.2.2=0∧a.1=a.2.1.length)∧a.2.1.length≤1000∧∀x∈a.2.1,inO a.2.2 x
def rngL (l:List Int) (a b:Int):Prop:=0≤a∧a≤b∧b≤l.length
theorem orow {l m:List Int} (h:l=m):(SObj.row (.i .i64) l 3 true).same (SObj.row (.i .i64) m 3 true):=by subst h;rfl
def r363:OCtr:=sortCtr 82 3 (Int×Int×Int) to3 of3 (fun _=>rfl) of3_ok to3_inj (fun a=>a.1.1=a.1.2.1.length∧a.1.2.1.length≤1000∧0≤a.2.1∧0≤a.2.2.2∧a.2.1+a.2.2.2≤a.2.2.1∧a.2.2.1+a.2.2.2≤a.1.2.1.length) fun a=>swR a.1.2.1 a.2.1.toNat a.2.2.1.toNat a.2.2.2.toNat
def Λ363 (n:Nat) (l:List Int) (p:Prob) (a b k:Int):Nat→LoopAnn
 |1=> .inv (Int×List Int) (fun x=>⟨[(0,.ow 0 n 1),(1,.si .i64 a),(2,.si .i64 b),(3,.si .i64 k),(10,.si .i64 x.1)],[.row (.i .i64) x.2 3 true,.cells p.ss 27 20 false]⟩) (fun s=>(iS s 10,oS (.i .i64) s 0))
   (fun x=>(0≤x.1∧x.1≤k)∧x.2=swR l a.toNat b.toNat x.1.toNat) (fun x=>(k - x.1).toNat) fun _ _=> .look
 |_=> .look
theorem h363:HoldsO Try.prog r363:=by
 refine conO (L:=[]) (W:=[]) r363 F363 (fun a=>Λ363 a.1.1 a.1.2.1 a.1.2.2 a.2.1 a.2.2.1 a.2.2.2) (by simp) (by simp) (by kernel_rfl) (fun _=>rfl) (by kernel_rfl) ?_
 rintro⟨⟨n,l,p⟩,a,b,k⟩ ⟨hn,hl,a0,k0,h1,h2⟩
 refine vcOf (let z0:=SV.ow 0 n 1;let z1:=SId.i .i64;let z2:=SObj.row z1 l 3 true;let z3:=SObj.cells [SV.si .i64 p.supply.a0,SV.si .i64 p.supply.a1,SV.si .i64 p.supply.a2,SV.si .i64 p.supply.a3,SV.si .i64 p.supply.a4,SV.si .i64 p.supply.a5,SV.si .i64 p.opn.a0,SV.si .i64 p.opn.a1,SV.si .i64 p.opn.a2,SV.si .i64 p.opn.a3,SV.si .i64 p.opn.a4,SV.si .i64 p.opn.a5,SV.si .i64 p.cls.a0,SV.si .i64 p.cls.a1,SV.si .i64 p.cls.a2,SV.si .i64 p.cls.a3,SV.si .i64 p.cls.a4,SV.si .i64 p.cls.a5,SV.row z1 p.classes,SV.row SId.off p.offers] 27 20 false;(((z0.same z0∧(SV.si .i64 a).same (SV.si .i64 a)∧(SV.si .i64 b).same (SV.si .i64 b)∧(SV.si .i64 k).same (SV.si .i64 k)∧(SV.il .i64 0).same (SV.si .i64 0)∧True)∧z2.same z2∧z3.same z3∧True)∧((0:Int)≤(0:Int)∧(0:Int)≤k)∧l=swR l a.toNat b.toNat 0)∧∀(x:Int×List Int),let z4:=x.snd.length;let z5:=(b+x.fst).toNat;let z6:=(a+x.fst).toNat;let z7:=x.snd.set z6 (nthD x.snd z5 (0:Int));let z8:=x.fst+(1:Int);let z9:=SV.si .i64 z8;let z10:=z7.set z5 (nthD x.snd z6 (0:Int));let z11:=SObj.row z1 z10 3 true;((0:Int)≤x.fst∧x.fst≤k)∧x.snd=swR l a.toNat b.toNat x.fst.toNat→(decide (x.fst<k)=true→inR .i64 (a+x.fst)∧inR .i64 (b+x.fst)∧inR .i64 (b+x.fst)∧n=z4∧(0:Int)≤b+x.fst∧b+x.fst<(↑z4:Int)∧n=z4∧z5<z4∧inR .i64 (a+x.fst)∧n=z4∧(0:Int)≤a+x.fst∧a+x.fst<(↑z4:Int)∧n=z4∧z6<z4∧n=z4∧(0:Int)≤a+x.fst∧a+x.fst<(↑z4:Int)∧n=z4∧z6<z4∧n=z7.length∧(0:Int)≤b+x.fst∧b+x.fst<(↑z7.length:Int)∧n=z7.length∧z5<z7.length∧inR .i64 z8∧((z0.same z0∧(SV.si .i64 a).same (SV.si .i64 a)∧(SV.si .i64 b).same (SV.si .i64 b)∧(SV.si .i64 k).same (SV.si .i64 k)∧z9.same z9∧True)∧z11.same z11∧z3.same z3∧True)∧(((0:Int)≤z8∧z8≤k)∧z10=swR l a.toNat b.toNat z8.toNat)∧(k - z8).toNat<(k - x.fst).toNat)∧(decide (x.fst<k)=false→(SV.tup []).same (SV.tup [])∧(SObj.row z1 x.snd 3 true).same (SObj.row z1 (swR l a.toNat b.toNat k.toNat) 3 true)∧z3.same z3∧True)) (by kernel_rfl) ?_
 simp only[vcs]
 have hn:n=l.length:=hn
 have hl:l.length≤1000:=hl
 have a0:0≤a:=a0
 have k0:0≤k:=k0
 have h1:a+k≤b:=h1
 have h2:b+k≤l.length:=h2
 refine⟨⟨⟨by omega,by omega⟩,swR_zero.symm⟩,?_⟩
 rintro⟨i,m⟩ ⟨⟨i0,i1⟩,hm⟩
 simp only at i0 i1 hm ⊢
 have hml:m.length=l.length:=by rw[hm,swR_len]
 have e:(i+1).toNat=i.toNat+1:=by omega
 have ea:(a+i).toNat=a.toNat+i.toNat:=by omega
 have eb:(b+i).toNat=b.toNat+i.toNat:=by omega
 simp only[List.length_set,hml]
 refine⟨fun hi=>?_,fun hi=>orow ?_⟩
 ·have hs:=@swR_succ l a.toNat b.toNat i.toNat (by omega) (by omega)
  rw[←hm] at hs
  rw[e,ea,eb,hs]
  repeat' refine And.intro ?_ ?_
  all_goals first|omega|rfl
 ·rw[hm,show i=k by omega]
def r343:OCtr:=sortCtr 59 2 (Int×Int) to2 of2 (fun _=>rfl) of2_ok to2_inj (fun a=>offL a.1∧rngL a.1.2.1 a.2.1 a.2.2∧(seg a.1.2.1 a.2.1.toNat a.2.2.toNat).Pairwise (·<·)) fun a=>srtP (denI a.1.2.2) a.1.2.1 a.2.1.toNat a.2.2.toNat
def Λ343 (n:Nat) (l:List Int) (p:Prob) (a b:Int):Nat→LoopAnn
 |1=> .inv (Int×List Int) (fun x=>⟨[(0,.ow 0 n 1),(1,.si .i64 a),(2,.si .i64 b),(3,.fn (.func 25) [] [.ptr 1 0 20]),(8,.si .i64 x.1)],[.row (.i .i64) x.2 3 true,.cells p.ss 27 20 false]⟩) (fun s=>(iS s 8,oS (.i .i64) s 0))
   (fun x=>(a<x.1∧(x.1≤b∨x.1=a+1))∧x.2=srtP (denI p) l a.toNat (if a<b then x.1 else a).toNat) (fun x=>(b - x.1).toNat) fun x k=>match k with
    |4=> .inv (Int×List Int) (fun y=>⟨[(0,.ow 0 n 1),(1,.si .i64 a),(2,.si .i64 b),(3,.fn (.func 25) [] [.ptr 1 0 20]),(8,.si .i64 x.1),(9,.si .i64 y.1)],[.row (.i .i64) y.2 3 true,.cells p.ss 27 20 false]⟩) (fun s=>(iS s 9,oS (.i .i64) s 0))
      (fun y=>(a≤y.1∧y.1≤x.1)∧y.2=insP (denI p) l a.toNat x.1.toNat y.1.toNat∧∀s∈(srt (denI p) (seg l a.toNat x.1.toNat)).drop (y.1 - a).toNat,leD (denI p) (nthD l x.1.toNat 0) s=true) (fun y=>(y.1 - a).toNat) fun _ _=> .look
    |_=> .look
 |_=> .look
theorem h343:HoldsO Try.prog r343:=by
 refine conO (L:=[]) (W:=[r320]) r343 F343 (fun a=>Λ343 a.1.1 a.1.2.1 a.1.2.2 a.2.1 a.2.2) (by simpa using h320) (by simp) (by kernel_rfl) (fun _=>rfl) (by kernel_rfl) ?_
 rintro⟨⟨n,l,p⟩,a,b⟩ ⟨⟨⟨hc,hn⟩,hl,ho⟩,⟨a0,a1,a2⟩,hi⟩
 refine vcOf (let z0:=a+(1:Int);let z1:=SV.ow 0 n 1;let z2:=SV.fn (Fn.func 25) [] [SV.ptr 1 0 20];let z3:=SV.si .i64 z0;let z4:=SId.i .i64;let z5:=SObj.row z4 l 3 true;let z6:=SObj.cells [SV.si .i64 p.supply.a0,SV.si .i64 p.supply.a1,SV.si .i64 p.supply.a2,SV.si .i64 p.supply.a3,SV.si .i64 p.supply.a4,SV.si .i64 p.supply.a5,SV.si .i64 p.opn.a0,SV.si .i64 p.opn.a1,SV.si .i64 p.opn.a2,SV.si .i64 p.opn.a3,SV.si .i64 p.opn.a4,SV.si .i64 p.opn.a5,SV.si .i64 p.cls.a0,SV.si .i64 p.cls.a1,SV.si .i64 p.cls.a2,SV.si .i64 p.cls.a3,SV.si .i64 p.cls.a4,SV.si .i64 p.cls.a5,SV.row z4 p.classes,SV.row SId.off p.offers] 27 20 false;inR .i64 z0∧(((z1.same z1∧(SV.si .i64 a).same (SV.si .i64 a)∧(SV.si .i64 b).same (SV.si .i64 b)∧z2.same z2∧z3.same z3∧True)∧z5.same z5∧z6.same z6∧True)∧(a<z0∧(z0≤b∨z0=z0))∧l=srtP (denI p) l a.toNat (if a<b then z0 else a).toNat)∧∀(x:Int×List Int),let z7:=SV.si .i64 x.fst;let z8:=SObj.row z4 x.snd 3 true;let z9:=x.fst.toNat;let z10:=srt (denI p) (seg l a.toNat z9);let z11:=x.fst+(1:Int);let z12:=SV.si .i64 z11;let z13:=srtP (denI p) l a.toNat (if a<b then z11 else a).toNat;(a<x.fst∧(x.fst≤b∨x.fst=z0))∧x.snd=srtP (denI p) l a.toNat (if a<b then x.fst else a).toNat→(decide (x.fst<b)=true→(((z1.same z1∧(SV.si .i64 a).same (SV.si .i64 a)∧(SV.si .i64 b).same (SV.si .i64 b)∧z2.same z2∧z7.same z7∧z7.same z7∧True)∧z8.same z8∧z6.same z6∧True)∧(a≤x.fst∧x.fst≤x.fst)∧x.snd=insP (denI p) l a.toNat z9 z9∧∀(s:Int),s∈List.drop (x.fst - a).toNat z10→leD (denI p) (nthD l z9 (0:Int)) s=true)∧∀(x_1:Int×List Int),let z14:=x_1.fst.toNat;let z15:=x_1.snd.length;let z16:=x_1.fst - (1:Int);let z17:=z16.toNat;let z18:=nthD x_1.snd z14 (0:Int);let z19:=nthD x_1.snd z17 (0:Int);let z20:=decide (cmpO p z18 z19<(0:Int));let z21:=(x_1.snd.set z14 z19).length;let z22:=SV.si .i64 z16;let z23:=(x_1.snd.set z14 z19).set z17 z18;let z24:=SObj.row z4 z23 3 true;let z25:=SObj.row z4 x_1.snd 3 true;((a≤x_1.fst∧x_1.fst≤x.fst)∧x_1.snd=insP (denI p) l a.toNat z9 z14∧∀(s:Int),s∈List.drop (x_1.fst - a).toNat z10→leD (denI p) (nthD l z9 (0:Int)) s=true)→(decide (a<x_1.fst)=true→n=z15∧(0:Int)≤x_1.fst∧x_1.fst<(↑z15:Int)∧n=z15∧z14<z15∧inR .i64 z16∧n=z15∧(0:Int)≤z16∧z16<(↑z15:Int)∧n=z15∧z17<z15∧(checkE p=(0:Int)∧inO p z18∧inO p z19)∧(z20=true→inR .i64 z16∧inR .i64 z16∧n=z15∧(0:Int)≤z16∧z16<(↑z15:Int)∧n=z15∧z17<z15∧n=z15∧(0:Int)≤x_1.fst∧x_1.fst<(↑z15:Int)∧n=z15∧z14<z15∧n=z15∧(0:Int)≤x_1.fst∧x_1.fst<(↑z15:Int)∧n=z15∧z14<z15∧n=z21∧(0:Int)≤z16∧z16<(↑z21:Int)∧n=z21∧z17<z21∧inR .i64 z16∧((z1.same z1∧(SV.si .i64 a).same (SV.si .i64 a)∧(SV.si .i64 b).same (SV.si .i64 b)∧z2.same z2∧z7.same z7∧z22.same z22∧True)∧z24.same z24∧z6.same z6∧True)∧((a≤z16∧z16≤x.fst)∧z23=insP (denI p) l a.toNat z9 z17∧∀(s:Int),s∈List.drop (z16 - a).toNat z10→leD (denI p) (nthD l z9 (0:Int)) s=true)∧(z16 - a).toNat<(x_1.fst - a).toNat)∧(z20=false→inR .i64 z11∧((z1.same z1∧(SV.si .i64 a).same (SV.si .i64 a)∧(SV.si .i64 b).same (SV.si .i64 b)∧z2.same z2∧z12.same z12∧True)∧z25.same z25∧z6.same z6∧True)∧((a<z11∧(z11≤b∨z11=z0))∧x_1.snd=z13)∧(b - z11).toNat<(b - x.fst).toNat))∧(decide (a<x_1.fst)=false→inR .i64 z11∧((z1.same z1∧(SV.si .i64 a).same (SV.si .i64 a)∧(SV.si .i64 b).same (SV.si .i64 b)∧z2.same z2∧z12.same z12∧True)∧z25.same z25∧z6.same z6∧True)∧((a<z11∧(z11≤b∨z11=z0))∧x_1.snd=z13)∧(b - z11).toNat<(b - x.fst).toNat))∧(decide (x.fst<b)=false→(SV.tup []).same (SV.tup [])∧z8.same (SObj.row z4 (srtP (denI p) l a.toNat b.toNat) 3 true)∧z6.same z6∧True)) (by kernel_rfl) ?_
 simp only[vcs]
 have hc:checkE p=0:=hc
 have hn:n=l.length:=hn
 have hl:l.length≤1000:=hl
 have ho:∀x∈l,inO p x:=ho
 have a0:0≤a:=a0
 have a1:a≤b:=a1
 have a2:b≤l.length:=a2
 have hi:(seg l a.toNat b.toNat).Pairwise (·<·):=hi
 generalize hD:denI p=D at*
 have sl:∀{i:Int},a≤i→i≤b→(srtP D l a.toNat i.toNat).length=l.length:=fun h1 h2=>srtP_len (by omega) (by omega)
 refine⟨by omega,⟨⟨by omega,.inr trivial⟩,?_⟩,?_⟩
 ·by_cases hab:a<b
  ·rw[if_pos hab,show(a+1).toNat=a.toNat+1 by omega,srtP_one (by omega)]
  ·rw[if_neg hab,srtP_nil]
 rintro⟨i,m⟩ ⟨⟨i0,i1⟩,hm⟩
 simp only at i0 i1 hm ⊢
 refine⟨fun hib=>?_,fun hib=>orow ?_⟩
 ·rw[if_pos (by omega)] at hm
  have hx:=ho _ (nthD_mem (d:=(0:Int)) (show i.toNat<l.length by omega))
  have hS:∀s∈srt D (seg l a.toNat i.toNat),s<nthD l i.toNat 0∧inO p s:=fun s hs=>by
   have h1:=srt_mem.1 hs
   have h2:(seg l a.toNat (i.toNat+1)).Pairwise (·<·):=by
    refine hi.sublist ?_
    unfold seg
    exact List.take_sublist_take_left (by omega)
   rw[seg_succ (by omega) (by omega)] at h2
   refine⟨(List.pairwise_append.1 h2).2.2 s h1 _ (by simp),ho s ?_⟩
   unfold seg at h1
   exact List.mem_of_mem_drop (List.mem_of_mem_take h1)
  have hSl:(srt D (seg l a.toNat i.toNat)).length=i.toNat - a.toNat:=by rw[srt_len,seg_len (by omega) (by omega)]
  have il:∀{j:Nat},(insP D l a.toNat i.toNat j).length=l.length:=fun {j}=>insP_len (by omega) (by omega)
  refine⟨⟨⟨by omega,by omega⟩,?_,?_⟩,?_⟩
  ·rw[hm,insP_start (by omega) (by omega)]
  ·intro s hs
   rw[List.drop_of_length_le (by omega)] at hs
   simp at hs
  rintro⟨j,m2⟩ ⟨⟨j0,j1⟩,hm2,hle⟩
  simp only at j0 j1 hm2 hle ⊢
  subst hm2
  simp only[List.length_set,il]
  have fin:(j=a∨leD D (nthD (srt D (seg l a.toNat i.toNat)) (j.toNat - 1 - a.toNat) 0) (nthD l i.toNat 0)=true)→insP D l a.toNat i.toNat j.toNat=srtP D l a.toNat (if a<b then i+1 else a).toNat:=fun h=>by
   rw[if_pos (by omega),show(i+1).toNat=i.toNat+1 by omega]
   refine insP_done (by omega) (by omega) (by omega) ?_ ?_
   ·rw[show j.toNat - a.toNat=(j - a).toNat by omega];exact hle
   ·rcases h with h|h
    ·exact .inl (by omega)
    ·exact .inr h
  refine⟨fun hj=>?_,fun hj=>?_⟩
  ·obtain⟨k1,k2,k3⟩:=@insP_at D l a.toNat i.toNat j.toNat (by omega) (by omega) (by omega)
   have ej:(j - 1).toNat=j.toNat - 1:=by omega
   rw[ej,k1,k2,k3]
   have hs:=nthD_mem (d:=(0:Int)) (show j.toNat - 1 - a.toNat<(srt D (seg l a.toNat i.toNat)).length by omega)
   obtain⟨s1,s2⟩:=hS _ hs
   have hcmp:=cmpO_neg hc hx s2
   rw[hD] at hcmp
   rw[hcmp]
   refine⟨by omega,by omega,by omega,by omega,by omega,by omega,by omega,by omega,by omega,by omega,by omega,⟨hc,hx,s2⟩,fun h1=>?_,fun h1=>?_⟩
   ·repeat' refine And.intro ?_ ?_
    all_goals first|omega|rfl|skip
    intro s hs2
    rw[show(j - 1 - a).toNat=j.toNat - 1 - a.toNat by omega,List.drop_eq_getElem_cons (show j.toNat - 1 - a.toNat<(srt D (seg l a.toNat i.toNat)).length by omega)] at hs2
    rcases List.mem_cons.1 hs2 with rfl|hs2
    ·rw[←nthD_eq (d:=(0:Int))]
     exact leD_iff.2 (.inl h1)
    ·refine hle s ?_
     rw[show(j - a).toNat=j.toNat - 1 - a.toNat+1 by omega]
     exact hs2
   ·have:=fin (.inr (leD_iff.2 (by omega)))
    repeat' refine And.intro ?_ ?_
    all_goals first|omega|exact this|rfl
  ·have:=fin (.inl (by omega))
   repeat' refine And.intro ?_ ?_
   all_goals first|omega|exact this|rfl
 ·rw[hm]
  by_cases hab:a<b
  ·rw[if_pos hab,show i=b by omega]
  ·rw[if_neg hab,show a=b by omega]
theorem drop_seg {l:List Int} {a b:Nat} (h1:a≤b):l.drop a=seg l a b++l.drop b:=by
 have:=List.take_append_drop (b - a) (l.drop a)
 rw[List.drop_drop,show a+(b - a)=b by omega] at this
 exact this.symm
theorem seg_mid {P Q R:List Int} {a b:Nat} (ha:a=P.length) (hb:b=P.length+Q.length):seg (P++(Q++R)) a b=Q:=by
 subst ha
 subst hb
 unfold seg
 rw[List.drop_left,show P.length+Q.length - P.length=Q.length by omega,List.take_left]
theorem srtP_mid {D:Int→Int} {P Q R:List Int} {a b:Nat} (ha:a=P.length) (hb:b=P.length+Q.length):srtP D (P++(Q++R)) a b=P++(srt D Q++R):=by
 have h:=@seg_mid P Q R a b ha hb
 unfold srtP
 rw[h,ha,hb,List.take_left]
 have:(P++(Q++R)).drop (P.length+Q.length)=R:=by rw[←List.append_assoc,←List.length_append,List.drop_left]
 rw[this]
 simp
theorem seg_mem {l:List Int} {a b:Nat} {x:Int}:x∈seg l a b↔∃k,a≤k∧k<b∧k<l.length∧nthD l k 0=x:=by
 unfold seg
 constructor
 ·intro h
  obtain⟨j,hj,rfl⟩:=List.getElem_of_mem h
  simp only[List.length_take,List.length_drop] at hj
  refine⟨a+j,by omega,by omega,by omega,?_⟩
  rw[List.getElem_take,List.getElem_drop,nthD_eq (show a+j<l.length by omega)]
 ·rintro⟨k,h1,h2,h3,rfl⟩
  have hj:k - a<((l.drop a).take (b - a)).length:=by simp only[List.length_take,List.length_drop];omega
  have:((l.drop a).take (b - a))[k - a]=nthD l k 0:=by
   rw[List.getElem_take,List.getElem_drop,nthD_eq h3]
   congr 1
   omega
  rw[←this]
  exact List.getElem_mem hj
theorem srt_idx {D:Int→Int} {l:List Int} {a b:Nat} (h:Srt D (seg l a b)) {i j:Nat} (h1:a≤i) (h2:i<j) (h3:j<b) (h4:b≤l.length):leD D (nthD l i 0) (nthD l j 0)=true:=by
 have hl:=seg_len (l:=l) (show a≤b by omega) h4
 have:=List.pairwise_iff_getElem.1 h (i - a) (j - a) (by omega) (by omega) (by omega)
 have e1:(seg l a b)[i - a]'(by omega)=nthD l i 0:=by
  unfold seg
  rw[List.getElem_take,List.getElem_drop,nthD_eq (show i<l.length by omega)]
  congr 1
  omega
 have e2:(seg l a b)[j - a]'(by omega)=nthD l j 0:=by
  unfold seg
  rw[List.getElem_take,List.getElem_drop,nthD_eq (show j<l.length by omega)]
  congr 1
  omega
 rwa [e1,e2] at this
theorem leD_den {D:Int→Int} {x y:Int} (h:leD D x y=true):D y≤D x:=by rw[leD_iff] at h;omega
theorem leD_refl {D:Int→Int} {x:Int}:leD D x x=true:=leD_iff.2 (by omega)
theorem srt_idx' {D:Int→Int} {l:List Int} {a b:Nat} (h:Srt D (seg l a b)) {i j:Nat} (h1:a≤i) (h2:i≤j) (h3:j<b) (h4:b≤l.length):leD D (nthD l i 0) (nthD l j 0)=true:=by
 by_cases hij:i=j
 ·subst hij;exact leD_refl
 ·exact srt_idx h h1 (by omega) h3 h4
theorem seg_sub {l:List Int} {a b c d:Nat} (h1:a≤c) (h2:d≤b):(seg l c d).Sublist (seg l a b):=by
 by_cases hcd:c≤d
 ·by_cases hb:d≤l.length
  ·have e:seg l a b=seg l a c++(seg l c d++(seg (l.take b) d b)):=by
    apply List.append_cancel_right (bs:=l.drop b)
    have e1:=drop_seg (l:=l) (show a≤b by omega)
    have e2:=drop_seg (l:=l) (show a≤c by omega)
    have e3:=drop_seg (l:=l) hcd
    have e4:=drop_seg (l:=l) (show d≤b by omega)
    have e5:seg (l.take b) d b=seg l d b:=by
     unfold seg
     rw[List.drop_take,List.take_take]
     congr 1
     omega
    rw[←e1,e2,e3,e4,e5]
    simp
   rw[e]
   exact(List.sublist_append_left _ _).trans (List.sublist_append_right _ _)
  ·have e:seg l c d=l.drop c:=by unfold seg;exact List.take_of_length_le (by rw[List.length_drop];omega)
   have e2:seg l a b=l.drop a:=by unfold seg;exact List.take_of_length_le (by rw[List.length_drop];omega)
   rw[e,e2,drop_seg (l:=l) h1]
   exact List.sublist_append_right _ _
 ·have:seg l c d=[]:=by unfold seg;rw[show d - c=0 by omega];simp
  rw[this]
  exact List.nil_sublist _
theorem rotR_len {l:List Int} {a m b:Nat} (h1:a≤m) (h2:m≤b) (h3:b≤l.length):(rotR l a m b).length=l.length:=by
 unfold rotR
 simp only[List.length_append,List.length_take,List.length_drop,seg_len h1 (show m≤l.length by omega),seg_len h2 h3]
 omega
theorem mem_seg {l:List Int} {a b:Nat} {x:Int} (h:x∈seg l a b):x∈l:=by
 unfold seg at h
 exact List.mem_of_mem_drop (List.mem_of_mem_take h)
theorem rotR_mem {l:List Int} {a m b:Nat} {x:Int} (h:x∈rotR l a m b):x∈l:=by
 unfold rotR at h
 simp only[List.mem_append] at h
 rcases h with h|h|h|h
 ·exact List.mem_of_mem_take h
 ·exact mem_seg h
 ·exact mem_seg h
 ·exact List.mem_of_mem_drop h
theorem srtP_mem {D:Int→Int} {l:List Int} {a b:Nat} {x:Int} (h:x∈srtP D l a b):x∈l:=by
 unfold srtP at h
 simp only[List.mem_append] at h
 rcases h with(h|h)|h
 ·exact List.mem_of_mem_take h
 ·exact mem_seg (srt_mem.1 h)
 ·exact List.mem_of_mem_drop h
theorem rotR_triv {l:List Int} {a m b:Nat} (h1:a≤m) (h2:m≤b) (h3:b≤l.length) (h:a=m∨m=b):rotR l a m b=l:=by
 have:=split4 h1 h2 h3
 conv=>rhs;rw[this]
 unfold rotR
 rcases h with rfl|rfl
 ·rw[seg_nil];simp
 ·rw[seg_nil];simp
theorem srtP_triv {D:Int→Int} {l:List Int} {a b:Nat} (h1:a≤b) (h:Srt D (seg l a b)):srtP D l a b=l:=by
 unfold srtP
 rw[srt_of h,List.append_assoc,←drop_seg h1,List.take_append_drop]
theorem sym_law {D:Int→Int} {l:List Int} {a s m e b mid:Nat} (h1:a≤s) (h2:s≤m) (h3:m≤e) (h4:e≤b) (h5:b≤l.length) (hmid:mid=s+(e - m)) (hL:Srt D (seg l a m)) (hR:Srt D (seg l m b))
  (H1:∀x∈seg l a s,∀y∈seg l e b,leD D x y=true) (H2:∀x∈seg l m e,∀y∈seg l s m,leD D x y=true):
  (seg (rotR l s m e) a s=seg l a s∧seg (rotR l s m e) s mid=seg l m e∧seg (rotR l s m e) a mid=seg l a s++seg l m e)∧
  (seg (srtP D (rotR l s m e) a mid) mid e=seg l s m∧seg (srtP D (rotR l s m e) a mid) e b=seg l e b∧seg (srtP D (rotR l s m e) a mid) mid b=seg l s m++seg l e b)∧
  srtP D (srtP D (rotR l s m e) a mid) mid b=srtP D l a b:=by
 have la:(l.take a).length=a:=by rw[List.length_take];omega
 have l1:=seg_len (l:=l) h1 (show s≤l.length by omega)
 have l2:=seg_len (l:=l) h2 (show m≤l.length by omega)
 have l3:=seg_len (l:=l) h3 (show e≤l.length by omega)
 have l4:=seg_len (l:=l) h4 h5
 have hsp:l=l.take a++(seg l a s++(seg l s m++(seg l m e++(seg l e b++l.drop b)))):=by
  rw[←drop_seg h4,←drop_seg h3,←drop_seg h2,←drop_seg h1,List.take_append_drop]
 have hts:l.take s=l.take a++seg l a s:=by
  conv=>lhs;rw[hsp]
  rw[←List.append_assoc]
  exact List.take_left' (by rw[List.length_append,la,l1];omega)
 have hrot:rotR l s m e=l.take a++(seg l a s++(seg l m e++(seg l s m++(seg l e b++l.drop b)))):=by
  unfold rotR
  rw[hts,drop_seg h4]
  simp
 have hLL:seg l a m=seg l a s++seg l s m:=by
  have:=drop_seg (l:=l) (show a≤m by omega)
  rw[drop_seg h1,drop_seg h2,←List.append_assoc] at this
  exact(List.append_cancel_right this).symm
 have hRR:seg l m b=seg l m e++seg l e b:=by
  have:=drop_seg (l:=l) (show m≤b by omega)
  rw[drop_seg h3,drop_seg h4,←List.append_assoc] at this
  exact(List.append_cancel_right this).symm
 have hWh:seg l a b=seg l a s++(seg l s m++(seg l m e++seg l e b)):=by
  have:=drop_seg (l:=l) (show a≤b by omega)
  rw[drop_seg (show a≤m by omega),drop_seg (show m≤b by omega),←List.append_assoc] at this
  rw[←List.append_cancel_right this,hLL,hRR]
  simp
 have hsr:srtP D l a b=l.take a++srt D (seg l a b)++l.drop b:=rfl
 rw[hrot,hsr,hWh]
 rw[hLL,Srt,List.pairwise_append] at hL
 rw[hRR,Srt,List.pairwise_append] at hR
 generalize l.take a=A at*
 generalize seg l a s=X1 at*
 generalize seg l s m=X2 at*
 generalize seg l m e=Y1 at*
 generalize seg l e b=Y2 at*
 generalize l.drop b=Z at*
 have hs1:A++(X1++(Y1++(X2++(Y2++Z))))=A++((X1++Y1)++(X2++(Y2++Z))):=by simp
 have g1:srtP D (A++(X1++(Y1++(X2++(Y2++Z))))) a mid=A++(srt D (X1++Y1)++(X2++(Y2++Z))):=by
  rw[hs1]
  exact srtP_mid (by omega) (by rw[List.length_append];omega)
 have hs2:A++(srt D (X1++Y1)++(X2++(Y2++Z)))=(A++srt D (X1++Y1))++((X2++Y2)++Z):=by simp
 have lS:(srt D (X1++Y1)).length=X1.length+Y1.length:=by rw[srt_len,List.length_append]
 refine⟨⟨seg_mid (by omega) (by omega),?_,?_⟩,⟨?_,?_,?_⟩,?_⟩
 ·rw[←List.append_assoc]
  exact seg_mid (by rw[List.length_append];omega) (by rw[List.length_append];omega)
 ·rw[hs1]
  exact seg_mid (by omega) (by rw[List.length_append];omega)
 ·rw[g1,←List.append_assoc]
  exact seg_mid (by rw[List.length_append,lS];omega) (by rw[List.length_append,lS];omega)
 ·rw[g1,←List.append_assoc,←List.append_assoc]
  exact seg_mid (by rw[List.length_append,List.length_append,lS];omega) (by rw[List.length_append,List.length_append,lS];omega)
 ·rw[g1,hs2]
  exact seg_mid (by rw[List.length_append,lS];omega) (by rw[List.length_append,List.length_append,lS];omega)
 ·rw[g1,hs2,srtP_mid (by rw[List.length_append,lS];omega) (by rw[List.length_append,List.length_append,lS];omega)]
  have:srt D (X1++Y1)++srt D (X2++Y2)=srt D (X1++(X2++(Y1++Y2))):=by
   refine srt_eq ?_ ?_
   ·refine(List.Perm.append srt_perm srt_perm).trans ?_
    rw[List.append_assoc]
    refine List.Perm.append_left X1 ?_
    rw[←List.append_assoc,←List.append_assoc]
    exact List.Perm.append_right Y2 List.perm_append_comm
   ·rw[Srt,List.pairwise_append]
    refine⟨srt_srt,srt_srt,fun x hx y hy=>?_⟩
    have hx:=srt_mem.1 hx
    have hy:=srt_mem.1 hy
    rcases List.mem_append.1 hx with hx|hx
    ·rcases List.mem_append.1 hy with hy|hy
     ·exact hL.2.2 x hx y hy
     ·exact H1 x hx y hy
    ·rcases List.mem_append.1 hy with hy|hy
     ·exact H2 x hx y hy
     ·exact hR.2.2 x hx y hy
  rw[←this]
  simp
theorem rot_gt {A X Y B:List Int} {i j:Nat} (hi:X.length=i) (hj:Y.length=j) (h:j<i) {m:Nat} (hm:A.length+i=m):
  swR (A++(X++(Y++B))) (m - i) m j=(A++Y)++(X.drop j++(X.take j++B)):=by
 have e:A++(X++(Y++B))=A++(X.take j++(X.drop j++(Y++B))):=by
  rw[←List.append_assoc (X.take j),List.take_append_drop]
 have lt:(X.take j).length=j:=by rw[List.length_take];omega
 have ld:(X.drop j).length=i - j:=by rw[List.length_drop];omega
 have hs:=@swR_blocks A (X.take j) (X.drop j) Y B (by omega)
 rw[lt,ld,show A.length+j+(i - j)=m by omega] at hs
 rw[e,show m - i=A.length by omega,hs]
 simp
theorem rot_lt {A X Y B:List Int} {i j:Nat} (hi:X.length=i) (hj:Y.length=j) (h:i<j) {m:Nat} (hm:A.length+i=m):
  swR (A++(X++(Y++B))) (m - i) (m+j - i) i=A++(Y.drop (j - i)++(Y.take (j - i)++(X++B))):=by
 have e:A++(X++(Y++B))=A++(X++(Y.take (j - i)++(Y.drop (j - i)++B))):=by
  rw[←List.append_assoc (Y.take (j - i)),List.take_append_drop]
 have lt:(Y.take (j - i)).length=j - i:=by rw[List.length_take];omega
 have ld:(Y.drop (j - i)).length=i:=by rw[List.length_drop];omega
 have hs:=@swR_blocks A X (Y.take (j - i)) (Y.drop (j - i)) B (by omega)
 rw[hi,lt,show A.length+i+(j - i)=m+j - i by omega] at hs
 rw[e,show m - i=A.length by omega,hs]
theorem rot_eq {A X Y B:List Int} {i:Nat} (hi:X.length=i) (hj:Y.length=i) {m:Nat} (hm:A.length+i=m):
  swR (A++(X++(Y++B))) (m - i) m i=A++(Y++(X++B)):=by
 have hs:=@swR_blocks A X [] Y B (by omega)
 simp only[List.nil_append,List.length_nil,Nat.add_zero] at hs
 rw[hi,hm] at hs
 rw[show m - i=A.length by omega,hs]
theorem seg_get {l:List Int} {a b k:Nat} (h:k<(seg l a b).length):(seg l a b)[k]=nthD l (a+k) 0:=by
 have h2:nthD (seg l a b) k 0=nthD l (a+k) 0:=by
  have h3:k<b - a:=by
   unfold seg at h
   rw[List.length_take] at h
   omega
  unfold seg nthD
  rw[List.getElem?_take,if_pos h3,List.getElem?_drop]
 rwa [nthD_eq h] at h2
def mvP (l:List Int) (a b c:Nat):List Int:=l.take a++((seg l (a+1) b).take c++nthD l a 0::((seg l (a+1) b).drop c++l.drop b))
theorem mvP_start {l:List Int} {a b:Nat} (h1:a<b) (h2:b≤l.length):mvP l a b 0=l:=by
 unfold mvP
 rw[List.take_zero,List.drop_zero,List.nil_append,←drop_seg (by omega),←drop_nthI (by omega),List.take_append_drop]
theorem mvP_len {l:List Int} {a b c:Nat} (h1:a<b) (h2:b≤l.length):(mvP l a b c).length=l.length:=by
 have:=seg_len (l:=l) (show a+1≤b by omega) h2
 unfold mvP
 simp only[List.length_append,List.length_cons,List.length_take,List.length_drop,this]
 omega
theorem mvP_at {l:List Int} {a b c:Nat} (h1:a+1+c<b) (h2:b≤l.length):
  nthD (mvP l a b c) (a+c) 0=nthD l a 0∧nthD (mvP l a b c) (a+c+1) 0=nthD l (a+1+c) 0∧((mvP l a b c).set (a+c) (nthD l (a+1+c) 0)).set (a+c+1) (nthD l a 0)=mvP l a b (c+1):=by
 have hl:=seg_len (l:=l) (show a+1≤b by omega) h2
 have hc:c<(seg l (a+1) b).length:=by omega
 have hy:(seg l (a+1) b)[c]=nthD l (a+1+c) 0:=seg_get hc
 have t1:(seg l (a+1) b).take (c+1)=(seg l (a+1) b).take c++[nthD l (a+1+c) 0]:=by rw[List.take_succ_eq_append_getElem hc,hy]
 have t2:(seg l (a+1) b).drop c=nthD l (a+1+c) 0::(seg l (a+1) b).drop (c+1):=by rw[List.drop_eq_getElem_cons hc,hy]
 have f1:mvP l a b c=(l.take a++(seg l (a+1) b).take c)++nthD l a 0::nthD l (a+1+c) 0::((seg l (a+1) b).drop (c+1)++l.drop b):=by
  unfold mvP
  rw[t2]
  simp
 have f2:mvP l a b (c+1)=(l.take a++(seg l (a+1) b).take c)++nthD l (a+1+c) 0::nthD l a 0::((seg l (a+1) b).drop (c+1)++l.drop b):=by
  unfold mvP
  rw[t1]
  simp
 have f3:(l.take a++(seg l (a+1) b).take c).length=a+c:=by
  rw[List.length_append,List.length_take,List.length_take]
  omega
 rw[f1,f2]
 generalize l.take a++(seg l (a+1) b).take c=A at*
 generalize (seg l (a+1) b).drop (c+1)++l.drop b=B at*
 generalize nthD l a 0=x at*
 generalize nthD l (a+1+c) 0=y at*
 rw[←f3]
 refine⟨nth_app,nth_app1,?_⟩
 rw[List.set_append_right _ _ (by omega),List.set_append_right _ _ (by omega)]
 simp
theorem mvP_done {D:Int→Int} {l:List Int} {a b c:Nat} (h1:a+1+c≤b) (h2:b≤l.length) (hT:Srt D (seg l (a+1) b)) (h3:∀s∈(seg l (a+1) b).drop c,leD D (nthD l a 0) s=true) (h4:c=0∨leD D (nthD l (a+c) 0) (nthD l a 0)=true):mvP l a b c=srtP D l a b:=by
 have hl:=seg_len (l:=l) (show a+1≤b by omega) h2
 have key:Srt D ((seg l (a+1) b).take c++nthD l a 0::(seg l (a+1) b).drop c):=by
  refine ins_srt hT h3 ?_
  rcases h4 with rfl|h4
  ·exact .inl rfl
  ·by_cases hc:c=0
   ·exact .inl hc
   ·refine .inr ⟨by omega,?_⟩
    have:nthD (seg l (a+1) b) (c - 1) 0=nthD l (a+c) 0:=by
     rw[nthD_eq (show c - 1<(seg l (a+1) b).length by omega),seg_get]
     congr 1
     omega
    rw[this]
    exact h4
 have hs:seg l a b=nthD l a 0::seg l (a+1) b:=by
  have e1:=drop_seg (l:=l) (show a≤b by omega)
  rw[drop_nthI (show a<l.length by omega),drop_seg (show a+1≤b by omega),←List.cons_append] at e1
  exact(List.append_cancel_right e1).symm
 have hp:((seg l (a+1) b).take c++nthD l a 0::(seg l (a+1) b).drop c).Perm (seg l a b):=by
  rw[hs]
  refine List.perm_middle.trans ?_
  rw[List.take_append_drop]
 unfold mvP srtP
 rw[←srt_eq hp key]
 simp
theorem u64_in {n:Int} (h0:0≤n) (h1:n<18446744073709551616):inR .u64 n:=by
 show IntKind.u64.wrap n=n
 simp only[IntKind.wrap,IntKind.bits,IntKind.signed]
 simp
 omega
theorem pow_mono {a b:Nat} (h:a≤b):(4294967296:Int)^a≤4294967296^b:=by
 obtain⟨m,rfl⟩:=Nat.exists_eq_add_of_le h
 rw[Int.pow_add]
 have q1:=pow_pos a
 have q2:=pow_pos m
 have:=Int.mul_le_mul_of_nonneg_left (show(1:Int)≤4294967296^m by omega) (Int.le_of_lt q1)
 rwa [Int.mul_one] at this
@[reducible] def sF:SId:=.pair .b (.pair (.lst (.i .u32)) (.lst (.i .u32)))
def Sz (k:Nat) (q:Rat):Prop:=(q.num.natAbs:Int)<4294967296^k∧(q.den:Int)<4294967296^k
theorem Sz.mono {j k:Nat} {q:Rat} (h:Sz j q) (hk:j≤k):Sz k q:=by
 have:=pow_mono hk
 exact⟨by have:=h.1;omega,by have:=h.2;omega⟩
def r351:OCtr:=sortCtr 70 3 (Int×Int×Int) to3 of3 (fun _=>rfl) of3_ok to3_inj (fun a=>a.1.1=a.1.2.1.length∧a.1.2.1.length≤1000∧0≤a.2.1∧a.2.1<a.2.2.1∧a.2.2.1<a.2.2.2∧a.2.2.2≤a.1.2.1.length) fun a=>rotR a.1.2.1 a.2.1.toNat a.2.2.1.toNat a.2.2.2.toNat
def Λ351 (n:Nat) (l:List Int) (p:Prob) (a m b:Int):Nat→LoopAnn
 |2=> .inv (Int×Int×List Int) (fun x=>⟨[(0,.ow 0 n 1),(2,.si .i64 m),(4,.fn (.func 25) [] [.ptr 1 0 20]),(10,.si .i64 x.1),(11,.si .i64 x.2.1)],[.row (.i .i64) x.2.2 3 true,.cells p.ss 27 20 false]⟩) (fun s=>(iS s 10,iS s 11,oS (.i .i64) s 0))
   (fun x=>(0<x.1∧0<x.2.1)∧∃A X Y B:List Int,x.2.2=A++(X++(Y++B))∧(A.length:Int)+x.1=m∧(X.length:Int)=x.1∧(Y.length:Int)=x.2.1∧A++(Y++(X++B))=rotR l a.toNat m.toNat b.toNat) (fun x=>(x.1+x.2.1).toNat) fun _ _=> .look
 |_=> .look
theorem h351:HoldsO Try.prog r351:=by
 refine conO (L:=[]) (W:=[r363]) r351 F351 (fun a=>Λ351 a.1.1 a.1.2.1 a.1.2.2 a.2.1 a.2.2.1 a.2.2.2) (by simpa using h363) (by simp) (by kernel_rfl) (fun _=>rfl) (by kernel_rfl) ?_
 rintro⟨⟨n,l,p⟩,a,m,b⟩ ⟨hn,hl,a0,h1,h2,h3⟩
 refine vcOf (let z0:=SV.ow 0 n 1;let z1:=SV.fn (Fn.func 25) [] [SV.ptr 1 0 20];let z2:=SV.si .i64 (m - a);let z3:=SV.si .i64 (b - m);let z4:=SId.i .i64;let z5:=SObj.row z4 l 3 true;let z6:=SObj.cells [SV.si .i64 p.supply.a0,SV.si .i64 p.supply.a1,SV.si .i64 p.supply.a2,SV.si .i64 p.supply.a3,SV.si .i64 p.supply.a4,SV.si .i64 p.supply.a5,SV.si .i64 p.opn.a0,SV.si .i64 p.opn.a1,SV.si .i64 p.opn.a2,SV.si .i64 p.opn.a3,SV.si .i64 p.opn.a4,SV.si .i64 p.opn.a5,SV.si .i64 p.cls.a0,SV.si .i64 p.cls.a1,SV.si .i64 p.cls.a2,SV.si .i64 p.cls.a3,SV.si .i64 p.cls.a4,SV.si .i64 p.cls.a5,SV.row z4 p.classes,SV.row SId.off p.offers] 27 20 false;let z7:=rotR l a.toNat m.toNat b.toNat;inR .i64 (m - a)∧inR .i64 (b - m)∧(((z0.same z0∧(SV.si .i64 m).same (SV.si .i64 m)∧z1.same z1∧z2.same z2∧z3.same z3∧True)∧z5.same z5∧z6.same z6∧True)∧((0:Int)<m - a∧(0:Int)<b - m)∧∃A X Y B,l=A++(X++(Y++B))∧(↑A.length:Int)+(m - a)=m∧(↑X.length:Int)=m - a∧(↑Y.length:Int)=b - m∧A++(Y++(X++B))=z7)∧∀(x:Int×Int×List Int),let z8:=decide (x.fst≠x.snd.fst);let z9:=decide (x.snd.fst<x.fst);let z10:=x.snd.snd.length;let z11:=m+x.snd.fst;let z12:=(↑z10:Int);let z13:=x.fst - x.snd.fst;let z14:=SV.si .i64 z13;let z15:=SV.si .i64 x.snd.fst;let z16:=(m - x.fst).toNat;let z17:=swR x.snd.snd z16 m.toNat x.snd.fst.toNat;let z18:=SObj.row z4 z17 3 true;let z19:=(x.fst+x.snd.fst).toNat;let z20:=z11 - x.fst;let z21:=x.snd.fst - x.fst;let z22:=SV.si .i64 x.fst;let z23:=SV.si .i64 z21;let z24:=swR x.snd.snd z16 z20.toNat x.fst.toNat;let z25:=SObj.row z4 z24 3 true;(((0:Int)<x.fst∧(0:Int)<x.snd.fst)∧∃A X Y B,x.snd.snd=A++(X++(Y++B))∧(↑A.length:Int)+x.fst=m∧(↑X.length:Int)=x.fst∧(↑Y.length:Int)=x.snd.fst∧A++(Y++(X++B))=z7)→(z8=true→(z9=true→inR .i64 (m - x.fst)∧(n=z10∧z10≤1000∧(0:Int)≤m - x.fst∧(0:Int)≤x.snd.fst∧m - x.fst+x.snd.fst≤m∧z11≤z12)∧inR .i64 z13∧((z0.same z0∧(SV.si .i64 m).same (SV.si .i64 m)∧z1.same z1∧z14.same z14∧z15.same z15∧True)∧z18.same z18∧z6.same z6∧True)∧(((0:Int)<z13∧(0:Int)<x.snd.fst)∧∃A X Y B,z17=A++(X++(Y++B))∧(↑A.length:Int)+z13=m∧(↑X.length:Int)=z13∧(↑Y.length:Int)=x.snd.fst∧A++(Y++(X++B))=z7)∧(z13+x.snd.fst).toNat<z19)∧(z9=false→inR .i64 (m - x.fst)∧inR .i64 z11∧inR .i64 z20∧(n=z10∧z10≤1000∧(0:Int)≤m - x.fst∧(0:Int)≤x.fst∧m - x.fst+x.fst≤z20∧z20+x.fst≤z12)∧inR .i64 z21∧((z0.same z0∧(SV.si .i64 m).same (SV.si .i64 m)∧z1.same z1∧z22.same z22∧z23.same z23∧True)∧z25.same z25∧z6.same z6∧True)∧(((0:Int)<x.fst∧(0:Int)<z21)∧∃A X Y B,z24=A++(X++(Y++B))∧(↑A.length:Int)+x.fst=m∧(↑X.length:Int)=x.fst∧(↑Y.length:Int)=z21∧A++(Y++(X++B))=z7)∧(x.fst+z21).toNat<z19))∧(z8=false→inR .i64 (m - x.fst)∧(n=z10∧z10≤1000∧(0:Int)≤m - x.fst∧(0:Int)≤x.fst∧m - x.fst+x.fst≤m∧m+x.fst≤z12)∧(SV.tup []).same (SV.tup [])∧(SObj.row z4 (swR x.snd.snd z16 m.toNat x.fst.toNat) 3 true).same (SObj.row z4 z7 3 true)∧z6.same z6∧True)) (by kernel_rfl) ?_
 simp only[vcs]
 have hn:n=l.length:=hn
 have hl:l.length≤1000:=hl
 have a0:0≤a:=a0
 have h1:a<m:=h1
 have h2:m<b:=h2
 have h3:b≤l.length:=h3
 have la:(l.take a.toNat).length=a.toNat:=by rw[List.length_take];omega
 have l1:=seg_len (l:=l) (a:=a.toNat) (b:=m.toNat) (by omega) (by omega)
 have l2:=seg_len (l:=l) (a:=m.toNat) (b:=b.toNat) (by omega) (by omega)
 refine⟨by omega,by omega,⟨⟨by omega,by omega⟩,l.take a.toNat,seg l a.toNat m.toNat,seg l m.toNat b.toNat,l.drop b.toNat,split4 (by omega) (by omega) (by omega),by omega,by omega,by omega,rfl⟩,?_⟩
 rintro⟨i,j,w⟩ ⟨⟨i0,j0⟩,A,X,Y,B,hw,hA,hX,hY,hf⟩
 simp only at i0 j0 hw hA hX hY ⊢
 have hfl:=congrArg List.length hf
 rw[rotR_len (by omega) (by omega) (by omega)] at hfl
 simp only[List.length_append] at hfl
 have hwl:w.length=l.length:=by rw[hw];simp only[List.length_append];omega
 rw[hwl]
 refine⟨fun hne=>⟨fun hgt=>?_,fun hle=>?_⟩,fun heq=>?_⟩
 ·have hs:=rot_gt (A:=A) (X:=X) (Y:=Y) (B:=B) (i:=i.toNat) (j:=j.toNat) (by omega) (by omega) (by omega) (m:=m.toNat) (by omega)
  rw[←hw,show m.toNat - i.toNat=(m - i).toNat by omega] at hs
  refine⟨by omega,⟨by omega,by omega,by omega,by omega,by omega,by omega⟩,by omega,⟨⟨by omega,by omega⟩,A++Y,X.drop j.toNat,X.take j.toNat,B,hs,?_,?_,?_,?_⟩,by omega⟩
  ·rw[List.length_append];omega
  ·rw[List.length_drop];omega
  ·rw[List.length_take];omega
  ·rw[←hf]
   rw[←List.append_assoc (X.take j.toNat),List.take_append_drop]
   simp
 ·have hs:=rot_lt (A:=A) (X:=X) (Y:=Y) (B:=B) (i:=i.toNat) (j:=j.toNat) (by omega) (by omega) (by omega) (m:=m.toNat) (by omega)
  rw[←hw,show m.toNat - i.toNat=(m - i).toNat by omega,show m.toNat+j.toNat - i.toNat=(m+j - i).toNat by omega] at hs
  refine⟨by omega,by omega,by omega,⟨by omega,by omega,by omega,by omega,by omega,by omega⟩,by omega,⟨⟨by omega,by omega⟩,A,Y.drop (j.toNat - i.toNat),Y.take (j.toNat - i.toNat),X++B,hs,by omega,?_,?_,?_⟩,by omega⟩
  ·rw[List.length_drop];omega
  ·rw[List.length_take];omega
  ·rw[←hf]
   rw[←List.append_assoc (Y.take (j.toNat - i.toNat)),List.take_append_drop]
 ·have hij:i=j:=by omega
  have hs:=rot_eq (A:=A) (X:=X) (Y:=Y) (B:=B) (i:=i.toNat) (by omega) (by omega) (m:=m.toNat) (by omega)
  rw[←hw,show m.toNat - i.toNat=(m - i).toNat by omega,hf] at hs
  exact⟨by omega,⟨by omega,by omega,by omega,by omega,by omega,by omega⟩,orow hs⟩
theorem drop_seg2 {l:List Int} {a b c:Nat}:(seg l a b).drop c=seg l (a+c) b:=by
 unfold seg
 rw[List.drop_take,List.drop_drop,show b - a - c=b - (a+c) by omega]
abbrev SyA:=Srg×Int×Int×Int
def symD (a:SyA):Prop:=offL a.1∧(0≤a.2.1∧a.2.1<a.2.2.1∧a.2.2.1<a.2.2.2∧a.2.2.2≤a.1.2.1.length)∧Srt (denI a.1.2.2) (seg a.1.2.1 a.2.1.toNat a.2.2.1.toNat)∧Srt (denI a.1.2.2) (seg a.1.2.1 a.2.2.1.toNat a.2.2.2.toNat)∧
 ∀x∈seg a.1.2.1 a.2.1.toNat a.2.2.1.toNat,∀y∈seg a.1.2.1 a.2.2.1.toNat a.2.2.2.toNat,x<y
def symC (k:Nat):OCtr:=sortCtr 60 3 (Int×Int×Int) to3 of3 (fun _=>rfl) of3_ok to3_inj (fun a=>symD a∧(a.2.2.2 - a.2.1).toNat<k) fun a=>srtP (denI a.1.2.2) a.1.2.1 a.2.1.toNat a.2.2.2.toNat
def W344 (k:Nat):List OCtr:=[symC k,r351,r320]
def st344 (l:List Int) (p:Prob):SStore:=[.row (.i .i64) l 3 true,.cells p.ss 27 20 false]
def Λ344 (n:Nat) (l:List Int) (p:Prob) (a m b:Int):Nat→LoopAnn
 |3=> .inv (Int×Int) (fun x=>⟨[(0,.ow 0 n 1),(1,.si .i64 a),(4,.fn (.func 25) [] [.ptr 1 0 20]),(10,.si .i64 x.1),(11,.si .i64 x.2)],st344 l p⟩) (fun s=>(iS s 10,iS s 11))
   (fun x=>(m≤x.1∧x.1≤x.2∧x.2≤b)∧(∀k:Nat,m≤k→(k:Int)<x.1→denI p (nthD l a.toNat 0)<denI p (nthD l k 0))∧∀k:Nat,x.2≤k→(k:Int)<b→¬denI p (nthD l a.toNat 0)<denI p (nthD l k 0)) (fun x=>(x.2 - x.1).toNat) fun _ _=> .look
 |9=> .inv (Int×Int×List Int) (fun x=>⟨[(0,.ow 0 n 1),(10,.si .i64 x.2.1),(13,.si .i64 x.1)],st344 x.2.2 p⟩) (fun s=>(iS s 13,iS s 10,oS (.i .i64) s 0))
   (fun x=>(a≤x.1∧x.1≤x.2.1 - 1∧m≤x.2.1∧x.2.1≤b)∧((∀k:Nat,m≤k→(k:Int)<x.2.1→denI p (nthD l a.toNat 0)<denI p (nthD l k 0))∧∀k:Nat,x.2.1≤k→(k:Int)<b→¬denI p (nthD l a.toNat 0)<denI p (nthD l k 0))∧x.2.2=mvP l a.toNat b.toNat (x.1 - a).toNat) (fun x=>(x.2.1 - x.1).toNat) fun _ _=> .look
 |15=> .inv (Int×Int) (fun x=>⟨[(0,.ow 0 n 1),(2,.si .i64 m),(4,.fn (.func 25) [] [.ptr 1 0 20]),(14,.si .i64 x.1),(15,.si .i64 x.2)],st344 l p⟩) (fun s=>(iS s 14,iS s 15))
   (fun x=>(a≤x.1∧x.1≤x.2∧x.2≤m)∧(∀k:Nat,a≤k→(k:Int)<x.1→¬denI p (nthD l k 0)<denI p (nthD l m.toNat 0))∧∀k:Nat,x.2≤k→(k:Int)<m→denI p (nthD l k 0)<denI p (nthD l m.toNat 0)) (fun x=>(x.2 - x.1).toNat) fun _ _=> .look
 |21=> .inv (Int×Int×List Int) (fun x=>⟨[(0,.ow 0 n 1),(14,.si .i64 x.2.1),(17,.si .i64 x.1)],st344 x.2.2 p⟩) (fun s=>(iS s 17,iS s 14,oS (.i .i64) s 0))
   (fun x=>(x.2.1≤x.1∧x.1≤m∧a≤x.2.1)∧((∀k:Nat,a≤k→(k:Int)<x.2.1→¬denI p (nthD l k 0)<denI p (nthD l m.toNat 0))∧∀k:Nat,x.2.1≤k→(k:Int)<m→denI p (nthD l k 0)<denI p (nthD l m.toNat 0))∧x.2.2=insP (denI p) l a.toNat m.toNat x.1.toNat) (fun x=>(x.1 - x.2.1).toNat) fun _ _=> .look
 |33=> .inv (Int×Int) (fun x=>⟨[(0,.ow 0 n 1),(1,.si .i64 a),(2,.si .i64 m),(3,.si .i64 b),(4,.fn (.func 25) [] [.ptr 1 0 20]),(18,.si .i64 ((a+b) / 2^1)),(19,.si .i64 ((a+b) / 2^1+m)),(20,.si .i64 x.1),(21,.si .i64 x.2),(22,.si .i64 ((a+b) / 2^1+m - 1))],st344 l p⟩) (fun s=>(iS s 20,iS s 21))
   (fun x=>((if(a+b) / 2<m then(a+b) / 2+m - b else a)≤x.1∧x.1≤x.2∧x.2≤(if(a+b) / 2<m then(a+b) / 2 else m))∧(∀k:Nat,(if(a+b) / 2<m then(a+b) / 2+m - b else a)≤k→(k:Int)<x.1→¬denI p (nthD l k 0)<denI p (nthD l ((a+b) / 2+m - 1 - k).toNat 0))∧
    ∀k:Nat,x.2≤k→(k:Int)<(if(a+b) / 2<m then(a+b) / 2 else m)→denI p (nthD l k 0)<denI p (nthD l ((a+b) / 2+m - 1 - k).toNat 0)) (fun x=>(x.2 - x.1).toNat) fun _ _=> .look
 |_=> .look
def symU (D:Int→Int) (n k:Nat) (l V:List Int) (p:Prob) (a b mid e:Int):Prop:=
 (mid<e→(e<b→(symD ((n,V,p),mid,e,b)∧(b - mid).toNat<k)∧(SObj.row (SId.i IntKind.i64) (srtP D V mid.toNat b.toNat) 3 true).same (SObj.row (SId.i IntKind.i64) (srtP D l a.toNat b.toNat) 3 true))∧
  (¬e<b→(SObj.row (SId.i IntKind.i64) V 3 true).same (SObj.row (SId.i IntKind.i64) (srtP D l a.toNat b.toNat) 3 true)))∧(¬mid<e→(SObj.row (SId.i IntKind.i64) V 3 true).same (SObj.row (SId.i IntKind.i64) (srtP D l a.toNat b.toNat) 3 true))
def symW (D:Int→Int) (n k:Nat) (l W:List Int) (p:Prob) (a b mid e s:Int):Prop:=
 (a<s→(s<mid→(symD ((n,W,p),a,s,mid)∧(mid - a).toNat<k)∧symU D n k l (srtP D W a.toNat mid.toNat) p a b mid e)∧(¬s<mid→symU D n k l W p a b mid e))∧(¬a<s→symU D n k l W p a b mid e)
def symT (D:Int→Int) (n k:Nat) (l:List Int) (p:Prob) (a m b mid s:Int):Prop:=
 (-9223372036854775808≤mid+m - s∧mid+m - s≤9223372036854775807)∧
 (s<m→(m<mid+m - s→(n=l.length∧l.length≤1000∧0≤s∧s<m∧m<mid+m - s∧mid+m - s≤l.length)∧symW D n k l (rotR l s.toNat m.toNat (mid+m - s).toNat) p a b mid (mid+m - s) s)∧
  (¬m<mid+m - s→symW D n k l l p a b mid (mid+m - s) s))∧(¬s<m→symW D n k l l p a b mid (mid+m - s) s)
theorem symT_ok {D:Int→Int} {n k:Nat} {l:List Int} {p:Prob} {a m b mid s:Int} (hD:denI p=D) (hc:checkE p=0) (hn:n=l.length) (hl:l.length≤1000) (ho:∀x∈l,inO p x) (a0:0≤a) (a1:a≤s) (s1:s≤m) (sm:s≤mid) (am:a<mid) (mb:mid<b)
  (e1:m≤mid+m - s) (e2:mid+m - s≤b) (a3:b≤l.length) (hL:Srt D (seg l a.toNat m.toNat)) (hR:Srt D (seg l m.toNat b.toNat)) (hx:∀x∈seg l a.toNat m.toNat,∀y∈seg l m.toNat b.toNat,x<y)
  (H1:∀x y,x∈seg l a.toNat s.toNat→y∈seg l (mid+m - s).toNat b.toNat→leD D x y=true) (H2:∀x y,x∈seg l m.toNat (mid+m - s).toNat→y∈seg l s.toNat m.toNat→leD D x y=true) (hk:(b - a).toNat<k+1):
  symT D n k l p a m b mid s:=by
 generalize he:mid+m - s=e at*
 obtain⟨⟨x1,x2,x3⟩,⟨y1,y2,y3⟩,z1⟩:=@sym_law D l a.toNat s.toNat m.toNat e.toNat b.toNat mid.toNat (by omega) (by omega) (by omega) (by omega) (by omega) (by omega) hL hR (fun x h y h'=>H1 x y h h') (fun x h y h'=>H2 x y h h')
 have rl:(rotR l s.toNat m.toNat e.toNat).length=l.length:=rotR_len (by omega) (by omega) (by omega)
 have rm:∀x∈rotR l s.toNat m.toNat e.toNat,inO p x:=fun x h=>ho x (rotR_mem h)
 have r0:(¬s<m∨¬m<e)→rotR l s.toNat m.toNat e.toNat=l:=fun h=>rotR_triv (by omega) (by omega) (by omega) (by omega)
 generalize hRd:rotR l s.toNat m.toNat e.toNat=R at*
 have tl:(srtP D R a.toNat mid.toNat).length=R.length:=srtP_len (by omega) (by omega)
 have tm:∀x∈srtP D R a.toNat mid.toNat,inO p x:=fun x h=>rm x (srtP_mem h)
 have s_as:Srt D (seg l a.toNat s.toNat):=List.Pairwise.sublist (seg_sub (by omega) (by omega)) hL
 have s_sm:Srt D (seg l s.toNat m.toNat):=List.Pairwise.sublist (seg_sub (by omega) (by omega)) hL
 have s_me:Srt D (seg l m.toNat e.toNat):=List.Pairwise.sublist (seg_sub (by omega) (by omega)) hR
 have s_eb:Srt D (seg l e.toNat b.toNat):=List.Pairwise.sublist (seg_sub (by omega) (by omega)) hR
 have t0:(¬a<s∨¬s<mid)→srtP D R a.toNat mid.toNat=R:=by
  intro h
  refine srtP_triv (by omega) ?_
  rcases h with h|h
  ·rw[show a.toNat=s.toNat by omega,x2];exact s_me
  ·rw[show mid.toNat=s.toNat by omega,x1];exact s_as
 generalize hT:srtP D R a.toNat mid.toNat=T at*
 have u0:(¬mid<e∨¬e<b)→srtP D T mid.toNat b.toNat=T:=by
  intro h
  refine srtP_triv (by omega) ?_
  rcases h with h|h
  ·rw[show mid.toNat=e.toNat by omega,y2];exact s_eb
  ·rw[show b.toNat=e.toNat by omega,y1];exact s_sm
 have hU:symU D n k l T p a b mid e:=by
  refine⟨fun q1=>⟨fun q2=>⟨⟨⟨⟨⟨hc,by simp only;omega⟩,by simp only;omega,tm⟩,⟨by simp only;omega,q1,q2,by simp only;omega⟩,?_,?_,?_⟩,by omega⟩,orow z1⟩,fun q2=>orow ((u0 (.inr q2)).symm.trans z1)⟩,fun q1=>orow ((u0 (.inl q1)).symm.trans z1)⟩
  ·simp only[hD,y1];exact s_sm
  ·simp only[hD,y2];exact s_eb
  ·simp only[y1,y2]
   exact fun x hX y hY=>hx x ((seg_sub (by omega) (by omega)).subset hX) y ((seg_sub (by omega) (by omega)).subset hY)
 have hW:symW D n k l R p a b mid e s:=by
  refine⟨fun q1=>⟨fun q2=>⟨⟨⟨⟨⟨hc,by simp only;omega⟩,by simp only;omega,rm⟩,⟨by simp only;omega,q1,q2,by simp only;omega⟩,?_,?_,?_⟩,by omega⟩,by rw[hT];exact hU⟩,fun q2=>t0 (.inr q2)▸hU⟩,fun q1=>t0 (.inl q1)▸hU⟩
  ·simp only[hD,x1];exact s_as
  ·simp only[hD,x2];exact s_me
  ·simp only[x1,x2]
   exact fun x hX y hY=>hx x ((seg_sub (by omega) (by omega)).subset hX) y ((seg_sub (by omega) (by omega)).subset hY)
 refine⟨by omega,fun q1=>⟨fun q2=>⟨⟨hn,hl,by omega,q1,by omega,by omega⟩,by rw[he,hRd];exact hW⟩,fun q2=>?_⟩,fun q1=>?_⟩
 ·rw[he];exact r0 (.inr (by omega))▸hW
 ·rw[he];exact r0 (.inl q1)▸hW
theorem symX (k n:Nat) (l:List Int) (p:Prob) (a m b:Int) (hd:symD ((n,l,p),a,m,b)) (hk:(b - a).toNat<k+1):
  Vc (fnOwnK (parL [] (ownT (W344 k)) tyN mtN fnN) (Λ344 n l p a m b) F344 ((symC (k+1)).put ((n,l,p),a,m,b)) ((symC (k+1)).st ((n,l,p),a,m,b)) fun v t=>v.same ((symC (k+1)).res ((n,l,p),a,m,b))∧sameO t ((symC (k+1)).out ((n,l,p),a,m,b))):=by
 obtain⟨⟨⟨hc,hn⟩,hl,ho⟩,⟨a0,a1,a2,a3⟩,hL,hR,hx⟩:=hd
 simp only at hc hn hl ho a0 a1 a2 a3 hL hR hx
 refine vcOf (let z0:=decide (m - a=(1:Int));let z1:=SV.ow 0 n 1;let z2:=SV.fn (Fn.func 25) [] [SV.ptr 1 0 20];let z3:=SId.i .i64;let z4:=SObj.row z3 l 3 true;let z5:=SObj.cells [SV.si .i64 p.supply.a0,SV.si .i64 p.supply.a1,SV.si .i64 p.supply.a2,SV.si .i64 p.supply.a3,SV.si .i64 p.supply.a4,SV.si .i64 p.supply.a5,SV.si .i64 p.opn.a0,SV.si .i64 p.opn.a1,SV.si .i64 p.opn.a2,SV.si .i64 p.opn.a3,SV.si .i64 p.opn.a4,SV.si .i64 p.opn.a5,SV.si .i64 p.cls.a0,SV.si .i64 p.cls.a1,SV.si .i64 p.cls.a2,SV.si .i64 p.cls.a3,SV.si .i64 p.cls.a4,SV.si .i64 p.cls.a5,SV.row z3 p.classes,SV.row SId.off p.offers] 27 20 false;let z6:=nthD l a.toNat (0:Int);let z7:=(↑l.length:Int);let z8:=SObj.row z3 (srtP (denI p) l a.toNat b.toNat) 3 true;let z9:=decide (b - m=(1:Int));let z10:=nthD l m.toNat (0:Int);let z11:=(a+b) / (2:Int);let z12:=z11+m;let z13:=z12 - b;let z14:=z12 - (1:Int);let z15:=SV.si .i64 z11;let z16:=SV.si .i64 z12;let z17:=SV.si .i64 z13;let z18:=SV.si .i64 z14;let z19:=if z11<m then z13 else a;let z20:=if z11<m then z11 else m;let z21:=z11.toNat;let z22:=srtP (denI p) l a.toNat z21;inR .i64 (m - a)∧(z0=true→(((z1.same z1∧(SV.si .i64 a).same (SV.si .i64 a)∧z2.same z2∧(SV.si .i64 m).same (SV.si .i64 m)∧(SV.si .i64 b).same (SV.si .i64 b)∧True)∧z4.same z4∧z5.same z5∧True)∧(m≤m∧m≤b∧b≤b)∧(∀(k:Nat),m≤(↑k:Int)→(↑k:Int)<m→denI p z6<denI p (nthD l k (0:Int)))∧∀(k:Nat),b≤(↑k:Int)→(↑k:Int)<b→denI p z6<denI p (nthD l k (0:Int))→False)∧∀(x:Int×Int),let z23:=decide (x.fst<x.snd);let z24:=x.fst+x.snd;let z25:=z24 / (2:Int);let z26:=nthD l z25.toNat (0:Int);let z27:=decide (cmpO p z26 z6<(0:Int));let z28:=z25+(1:Int);let z29:=SV.si .i64 z28;let z30:=SV.si .i64 x.snd;let z31:=(x.snd - x.fst).toNat;let z32:=SV.si .i64 x.fst;let z33:=SV.si .i64 z25;((m≤x.fst∧x.fst≤x.snd∧x.snd≤b)∧(∀(k:Nat),m≤(↑k:Int)→(↑k:Int)<x.fst→denI p z6<denI p (nthD l k (0:Int)))∧∀(k:Nat),x.snd≤(↑k:Int)→(↑k:Int)<b→denI p z6<denI p (nthD l k (0:Int))→False)→(z23=true→inR .i64 z24∧inR .u64 z24∧(0:Int)≤(1:Int)∧(1:Int)≤(64:Int)∧inR .i64 z25∧n=l.length∧(0:Int)≤z25∧z25<z7∧n=l.length∧z25.toNat<l.length∧n=l.length∧(0:Int)≤a∧a<z7∧n=l.length∧a.toNat<l.length∧(checkE p=(0:Int)∧inO p z26∧inO p z6)∧(z27=true→inR .i64 z28∧((z1.same z1∧(SV.si .i64 a).same (SV.si .i64 a)∧z2.same z2∧z29.same z29∧z30.same z30∧True)∧z4.same z4∧z5.same z5∧True)∧((m≤z28∧z28≤x.snd∧x.snd≤b)∧(∀(k:Nat),m≤(↑k:Int)→(↑k:Int)<z28→denI p z6<denI p (nthD l k (0:Int)))∧∀(k:Nat),x.snd≤(↑k:Int)→(↑k:Int)<b→denI p z6<denI p (nthD l k (0:Int))→False)∧(x.snd - z28).toNat<z31)∧(z27=false→((z1.same z1∧(SV.si .i64 a).same (SV.si .i64 a)∧z2.same z2∧z32.same z32∧z33.same z33∧True)∧z4.same z4∧z5.same z5∧True)∧((m≤x.fst∧x.fst≤z25∧z25≤b)∧(∀(k:Nat),m≤(↑k:Int)→(↑k:Int)<x.fst→denI p z6<denI p (nthD l k (0:Int)))∧∀(k:Nat),z25≤(↑k:Int)→(↑k:Int)<b→denI p z6<denI p (nthD l k (0:Int))→False)∧(z25 - x.fst).toNat<z31))∧(z23=false→(((z1.same z1∧z32.same z32∧(SV.si .i64 a).same (SV.si .i64 a)∧True)∧z4.same z4∧z5.same z5∧True)∧(a≤a∧a≤x.fst - (1:Int)∧m≤x.fst∧x.fst≤b)∧((∀(k:Nat),m≤(↑k:Int)→(↑k:Int)<x.fst→denI p z6<denI p (nthD l k (0:Int)))∧∀(k:Nat),x.fst≤(↑k:Int)→(↑k:Int)<b→denI p z6<denI p (nthD l k (0:Int))→False)∧l=mvP l a.toNat b.toNat (a - a).toNat)∧∀(x:Int×Int×List Int),let z34:=x.snd.fst - (1:Int);let z35:=decide (x.fst<z34);let z36:=x.fst+(1:Int);let z37:=x.snd.snd.length;let z38:=z36.toNat;let z39:=x.snd.snd.set x.fst.toNat (nthD x.snd.snd z38 (0:Int));let z40:=SV.si .i64 x.snd.fst;let z41:=SV.si .i64 z36;let z42:=z39.set z38 (nthD x.snd.snd x.fst.toNat (0:Int));let z43:=SObj.row z3 z42 3 true;(a≤x.fst∧x.fst≤z34∧m≤x.snd.fst∧x.snd.fst≤b)∧((∀(k:Nat),m≤(↑k:Int)→(↑k:Int)<x.snd.fst→denI p z6<denI p (nthD l k (0:Int)))∧∀(k:Nat),x.snd.fst≤(↑k:Int)→(↑k:Int)<b→denI p z6<denI p (nthD l k (0:Int))→False)∧x.snd.snd=mvP l a.toNat b.toNat (x.fst - a).toNat→inR .i64 z34∧(z35=true→inR .i64 z36∧inR .i64 z36∧n=z37∧(0:Int)≤z36∧z36<(↑z37:Int)∧n=z37∧z38<z37∧n=z37∧(0:Int)≤x.fst∧x.fst<(↑z37:Int)∧n=z37∧x.fst.toNat<z37∧n=z37∧(0:Int)≤x.fst∧x.fst<(↑z37:Int)∧n=z37∧x.fst.toNat<z37∧n=z39.length∧(0:Int)≤z36∧z36<(↑z39.length:Int)∧n=z39.length∧z38<z39.length∧inR .i64 z36∧((z1.same z1∧z40.same z40∧z41.same z41∧True)∧z43.same z43∧z5.same z5∧True)∧((a≤z36∧z36≤z34∧m≤x.snd.fst∧x.snd.fst≤b)∧((∀(k:Nat),m≤(↑k:Int)→(↑k:Int)<x.snd.fst→denI p z6<denI p (nthD l k (0:Int)))∧∀(k:Nat),x.snd.fst≤(↑k:Int)→(↑k:Int)<b→denI p z6<denI p (nthD l k (0:Int))→False)∧z42=mvP l a.toNat b.toNat (z36 - a).toNat)∧(x.snd.fst - z36).toNat<(x.snd.fst - x.fst).toNat)∧(z35=false→(SV.tup []).same (SV.tup [])∧(SObj.row z3 x.snd.snd 3 true).same z8∧z5.same z5∧True)))∧(z0=false→inR .i64 (b - m)∧(z9=true→(((z1.same z1∧(SV.si .i64 m).same (SV.si .i64 m)∧z2.same z2∧(SV.si .i64 a).same (SV.si .i64 a)∧(SV.si .i64 m).same (SV.si .i64 m)∧True)∧z4.same z4∧z5.same z5∧True)∧(a≤a∧a≤m∧m≤m)∧(∀(k:Nat),a≤(↑k:Int)→(↑k:Int)<a→denI p (nthD l k (0:Int))<denI p z10→False)∧∀(k:Nat),m≤(↑k:Int)→(↑k:Int)<m→denI p (nthD l k (0:Int))<denI p z10)∧∀(x:Int×Int),let z44:=decide (x.fst<x.snd);let z45:=x.fst+x.snd;let z46:=z45 / (2:Int);let z47:=nthD l z46.toNat (0:Int);let z48:=!decide (cmpO p z10 z47<(0:Int));let z49:=z46+(1:Int);let z50:=SV.si .i64 z49;let z51:=SV.si .i64 x.snd;let z52:=(x.snd - x.fst).toNat;let z53:=SV.si .i64 x.fst;let z54:=SV.si .i64 z46;((a≤x.fst∧x.fst≤x.snd∧x.snd≤m)∧(∀(k:Nat),a≤(↑k:Int)→(↑k:Int)<x.fst→denI p (nthD l k (0:Int))<denI p z10→False)∧∀(k:Nat),x.snd≤(↑k:Int)→(↑k:Int)<m→denI p (nthD l k (0:Int))<denI p z10)→(z44=true→inR .i64 z45∧inR .u64 z45∧(0:Int)≤(1:Int)∧(1:Int)≤(64:Int)∧inR .i64 z46∧n=l.length∧(0:Int)≤m∧m<z7∧n=l.length∧m.toNat<l.length∧n=l.length∧(0:Int)≤z46∧z46<z7∧n=l.length∧z46.toNat<l.length∧(checkE p=(0:Int)∧inO p z10∧inO p z47)∧(z48=true→inR .i64 z49∧((z1.same z1∧(SV.si .i64 m).same (SV.si .i64 m)∧z2.same z2∧z50.same z50∧z51.same z51∧True)∧z4.same z4∧z5.same z5∧True)∧((a≤z49∧z49≤x.snd∧x.snd≤m)∧(∀(k:Nat),a≤(↑k:Int)→(↑k:Int)<z49→denI p (nthD l k (0:Int))<denI p z10→False)∧∀(k:Nat),x.snd≤(↑k:Int)→(↑k:Int)<m→denI p (nthD l k (0:Int))<denI p z10)∧(x.snd - z49).toNat<z52)∧(z48=false→((z1.same z1∧(SV.si .i64 m).same (SV.si .i64 m)∧z2.same z2∧z53.same z53∧z54.same z54∧True)∧z4.same z4∧z5.same z5∧True)∧((a≤x.fst∧x.fst≤z46∧z46≤m)∧(∀(k:Nat),a≤(↑k:Int)→(↑k:Int)<x.fst→denI p (nthD l k (0:Int))<denI p z10→False)∧∀(k:Nat),z46≤(↑k:Int)→(↑k:Int)<m→denI p (nthD l k (0:Int))<denI p z10)∧(z46 - x.fst).toNat<z52))∧(z44=false→(((z1.same z1∧z53.same z53∧(SV.si .i64 m).same (SV.si .i64 m)∧True)∧z4.same z4∧z5.same z5∧True)∧(x.fst≤m∧m≤m∧a≤x.fst)∧((∀(k:Nat),a≤(↑k:Int)→(↑k:Int)<x.fst→denI p (nthD l k (0:Int))<denI p z10→False)∧∀(k:Nat),x.fst≤(↑k:Int)→(↑k:Int)<m→denI p (nthD l k (0:Int))<denI p z10)∧l=insP (denI p) l a.toNat m.toNat m.toNat)∧∀(x:Int×Int×List Int),let z55:=x.fst.toNat;let z56:=decide (x.snd.fst<x.fst);let z57:=x.fst - (1:Int);let z58:=x.snd.snd.length;let z59:=z57.toNat;let z60:=x.snd.snd.set z55 (nthD x.snd.snd z59 (0:Int));let z61:=SV.si .i64 x.snd.fst;let z62:=SV.si .i64 z57;let z63:=z60.set z59 (nthD x.snd.snd z55 (0:Int));let z64:=SObj.row z3 z63 3 true;(x.snd.fst≤x.fst∧x.fst≤m∧a≤x.snd.fst)∧((∀(k:Nat),a≤(↑k:Int)→(↑k:Int)<x.snd.fst→denI p (nthD l k (0:Int))<denI p z10→False)∧∀(k:Nat),x.snd.fst≤(↑k:Int)→(↑k:Int)<m→denI p (nthD l k (0:Int))<denI p z10)∧x.snd.snd=insP (denI p) l a.toNat m.toNat z55→(z56=true→inR .i64 z57∧inR .i64 z57∧n=z58∧(0:Int)≤z57∧z57<(↑z58:Int)∧n=z58∧z59<z58∧n=z58∧(0:Int)≤x.fst∧x.fst<(↑z58:Int)∧n=z58∧z55<z58∧n=z58∧(0:Int)≤x.fst∧x.fst<(↑z58:Int)∧n=z58∧z55<z58∧n=z60.length∧(0:Int)≤z57∧z57<(↑z60.length:Int)∧n=z60.length∧z59<z60.length∧inR .i64 z57∧((z1.same z1∧z61.same z61∧z62.same z62∧True)∧z64.same z64∧z5.same z5∧True)∧((x.snd.fst≤z57∧z57≤m∧a≤x.snd.fst)∧((∀(k:Nat),a≤(↑k:Int)→(↑k:Int)<x.snd.fst→denI p (nthD l k (0:Int))<denI p z10→False)∧∀(k:Nat),x.snd.fst≤(↑k:Int)→(↑k:Int)<m→denI p (nthD l k (0:Int))<denI p z10)∧z63=insP (denI p) l a.toNat m.toNat z59)∧(z57 - x.snd.fst).toNat<(x.fst - x.snd.fst).toNat)∧(z56=false→(SV.tup []).same (SV.tup [])∧(SObj.row z3 x.snd.snd 3 true).same z8∧z5.same z5∧True)))∧(z9=false→inR .i64 (a+b)∧inR .u64 (a+b)∧(0:Int)≤(1:Int)∧(1:Int)≤(64:Int)∧inR .i64 z11∧inR .i64 z12∧(decide (z11<m)=true→inR .i64 z13∧inR .i64 z14∧(((z1.same z1∧(SV.si .i64 a).same (SV.si .i64 a)∧(SV.si .i64 m).same (SV.si .i64 m)∧(SV.si .i64 b).same (SV.si .i64 b)∧z2.same z2∧z15.same z15∧z16.same z16∧z17.same z17∧z15.same z15∧z18.same z18∧True)∧z4.same z4∧z5.same z5∧True)∧(z19≤z13∧z13≤z11∧z11≤z20)∧(∀(k:Nat),z19≤(↑k:Int)→(↑k:Int)<z13→denI p (nthD l k (0:Int))<denI p (nthD l (z14 - (↑k:Int)).toNat (0:Int))→False)∧∀(k:Nat),z11≤(↑k:Int)→(↑k:Int)<z20→denI p (nthD l k (0:Int))<denI p (nthD l (z14 - (↑k:Int)).toNat (0:Int)))∧∀(x:Int×Int),let z65:=decide (x.fst<x.snd);let z66:=x.fst+x.snd;let z67:=z66 / (2:Int);let z68:=z14 - z67;let z69:=nthD l z68.toNat (0:Int);let z70:=nthD l z67.toNat (0:Int);let z71:=!decide (cmpO p z69 z70<(0:Int));let z72:=z67+(1:Int);let z73:=SV.si .i64 z72;let z74:=SV.si .i64 x.snd;let z75:=(x.snd - x.fst).toNat;let z76:=SV.si .i64 x.fst;let z77:=SV.si .i64 z67;let z78:=z12 - x.fst;let z79:=decide (x.fst<z11);let z80:=rotR l x.fst.toNat m.toNat z78.toNat;let z81:=srtP (denI p) z80 a.toNat z21;let z82:=(z11,z78,b);((z19≤x.fst∧x.fst≤x.snd∧x.snd≤z20)∧(∀(k:Nat),z19≤(↑k:Int)→(↑k:Int)<x.fst→denI p (nthD l k (0:Int))<denI p (nthD l (z14 - (↑k:Int)).toNat (0:Int))→False)∧∀(k:Nat),x.snd≤(↑k:Int)→(↑k:Int)<z20→denI p (nthD l k (0:Int))<denI p (nthD l (z14 - (↑k:Int)).toNat (0:Int)))→(z65=true→inR .i64 z66∧inR .u64 z66∧(0:Int)≤(1:Int)∧(1:Int)≤(64:Int)∧inR .i64 z67∧inR .i64 z68∧n=l.length∧(0:Int)≤z68∧z68<z7∧n=l.length∧z68.toNat<l.length∧n=l.length∧(0:Int)≤z67∧z67<z7∧n=l.length∧z67.toNat<l.length∧(checkE p=(0:Int)∧inO p z69∧inO p z70)∧(z71=true→inR .i64 z72∧((z1.same z1∧(SV.si .i64 a).same (SV.si .i64 a)∧(SV.si .i64 m).same (SV.si .i64 m)∧(SV.si .i64 b).same (SV.si .i64 b)∧z2.same z2∧z15.same z15∧z16.same z16∧z73.same z73∧z74.same z74∧z18.same z18∧True)∧z4.same z4∧z5.same z5∧True)∧((z19≤z72∧z72≤x.snd∧x.snd≤z20)∧(∀(k:Nat),z19≤(↑k:Int)→(↑k:Int)<z72→denI p (nthD l k (0:Int))<denI p (nthD l (z14 - (↑k:Int)).toNat (0:Int))→False)∧∀(k:Nat),x.snd≤(↑k:Int)→(↑k:Int)<z20→denI p (nthD l k (0:Int))<denI p (nthD l (z14 - (↑k:Int)).toNat (0:Int)))∧(x.snd - z72).toNat<z75)∧(z71=false→((z1.same z1∧(SV.si .i64 a).same (SV.si .i64 a)∧(SV.si .i64 m).same (SV.si .i64 m)∧(SV.si .i64 b).same (SV.si .i64 b)∧z2.same z2∧z15.same z15∧z16.same z16∧z76.same z76∧z77.same z77∧z18.same z18∧True)∧z4.same z4∧z5.same z5∧True)∧((z19≤x.fst∧x.fst≤z67∧z67≤z20)∧(∀(k:Nat),z19≤(↑k:Int)→(↑k:Int)<x.fst→denI p (nthD l k (0:Int))<denI p (nthD l (z14 - (↑k:Int)).toNat (0:Int))→False)∧∀(k:Nat),z67≤(↑k:Int)→(↑k:Int)<z20→denI p (nthD l k (0:Int))<denI p (nthD l (z14 - (↑k:Int)).toNat (0:Int)))∧(z67 - x.fst).toNat<z75))∧(z65=false→inR .i64 z78∧(decide (x.fst<m)=true→(decide (m<z78)=true→(n=l.length∧l.length≤1000∧(0:Int)≤x.fst∧x.fst<m∧m<z78∧z78≤(↑l.length:Int))∧(decide (a<x.fst)=true→(z79=true→(symD ((n,z80,p),a,x.fst,z11)∧(z11 - a).toNat<k)∧(decide (z11<z78)=true→(decide (z78<b)=true→(symD ((n,z81,p),z82)∧(b - z11).toNat<k)∧(SV.tup []).same (SV.tup [])∧(SObj.row z3 (srtP (denI p) z81 z21 b.toNat) 3 true).same z8∧z5.same z5∧True)∧(decide (z78<b)=false→(SV.tup []).same (SV.tup [])∧(SObj.row z3 z81 3 true).same z8∧z5.same z5∧True))∧(decide (z11<z78)=false→(SV.tup []).same (SV.tup [])∧(SObj.row z3 z81 3 true).same z8∧z5.same z5∧True))∧(z79=false→(decide (z11<z78)=true→(decide (z78<b)=true→(symD ((n,z80,p),z82)∧(b - z11).toNat<k)∧(SV.tup []).same (SV.tup [])∧(SObj.row z3 (srtP (denI p) z80 z21 b.toNat) 3 true).same z8∧z5.same z5∧True)∧(decide (z78<b)=false→(SV.tup []).same (SV.tup [])∧(SObj.row z3 z80 3 true).same z8∧z5.same z5∧True))∧(decide (z11<z78)=false→(SV.tup []).same (SV.tup [])∧(SObj.row z3 z80 3 true).same z8∧z5.same z5∧True)))∧(decide (a<x.fst)=false→(decide (z11<z78)=true→(decide (z78<b)=true→(symD ((n,z80,p),z82)∧(b - z11).toNat<k)∧(SV.tup []).same (SV.tup [])∧(SObj.row z3 (srtP (denI p) z80 z21 b.toNat) 3 true).same z8∧z5.same z5∧True)∧(decide (z78<b)=false→(SV.tup []).same (SV.tup [])∧(SObj.row z3 z80 3 true).same z8∧z5.same z5∧True))∧(decide (z11<z78)=false→(SV.tup []).same (SV.tup [])∧(SObj.row z3 z80 3 true).same z8∧z5.same z5∧True)))∧(decide (m<z78)=false→(decide (a<x.fst)=true→(z79=true→(symD ((n,l,p),a,x.fst,z11)∧(z11 - a).toNat<k)∧(decide (z11<z78)=true→(decide (z78<b)=true→(symD ((n,z22,p),z82)∧(b - z11).toNat<k)∧(SV.tup []).same (SV.tup [])∧(SObj.row z3 (srtP (denI p) z22 z21 b.toNat) 3 true).same z8∧z5.same z5∧True)∧(decide (z78<b)=false→(SV.tup []).same (SV.tup [])∧(SObj.row z3 z22 3 true).same z8∧z5.same z5∧True))∧(decide (z11<z78)=false→(SV.tup []).same (SV.tup [])∧(SObj.row z3 z22 3 true).same z8∧z5.same z5∧True))∧(z79=false→(decide (z11<z78)=true→(decide (z78<b)=true→(symD ((n,l,p),z82)∧(b - z11).toNat<k)∧(SV.tup []).same (SV.tup [])∧(SObj.row z3 (srtP (denI p) l z21 b.toNat) 3 true).same z8∧z5.same z5∧True)∧(decide (z78<b)=false→(SV.tup []).same (SV.tup [])∧z4.same z8∧z5.same z5∧True))∧(decide (z11<z78)=false→(SV.tup []).same (SV.tup [])∧z4.same z8∧z5.same z5∧True)))∧(decide (a<x.fst)=false→(decide (z11<z78)=true→(decide (z78<b)=true→(symD ((n,l,p),z82)∧(b - z11).toNat<k)∧(SV.tup []).same (SV.tup [])∧(SObj.row z3 (srtP (denI p) l z21 b.toNat) 3 true).same z8∧z5.same z5∧True)∧(decide (z78<b)=false→(SV.tup []).same (SV.tup [])∧z4.same z8∧z5.same z5∧True))∧(decide (z11<z78)=false→(SV.tup []).same (SV.tup [])∧z4.same z8∧z5.same z5∧True))))∧(decide (x.fst<m)=false→(decide (a<x.fst)=true→(z79=true→(symD ((n,l,p),a,x.fst,z11)∧(z11 - a).toNat<k)∧(decide (z11<z78)=true→(decide (z78<b)=true→(symD ((n,z22,p),z82)∧(b - z11).toNat<k)∧(SV.tup []).same (SV.tup [])∧(SObj.row z3 (srtP (denI p) z22 z21 b.toNat) 3 true).same z8∧z5.same z5∧True)∧(decide (z78<b)=false→(SV.tup []).same (SV.tup [])∧(SObj.row z3 z22 3 true).same z8∧z5.same z5∧True))∧(decide (z11<z78)=false→(SV.tup []).same (SV.tup [])∧(SObj.row z3 z22 3 true).same z8∧z5.same z5∧True))∧(z79=false→(decide (z11<z78)=true→(decide (z78<b)=true→(symD ((n,l,p),z82)∧(b - z11).toNat<k)∧(SV.tup []).same (SV.tup [])∧(SObj.row z3 (srtP (denI p) l z21 b.toNat) 3 true).same z8∧z5.same z5∧True)∧(decide (z78<b)=false→(SV.tup []).same (SV.tup [])∧z4.same z8∧z5.same z5∧True))∧(decide (z11<z78)=false→(SV.tup []).same (SV.tup [])∧z4.same z8∧z5.same z5∧True)))∧(decide (a<x.fst)=false→(decide (z11<z78)=true→(decide (z78<b)=true→(symD ((n,l,p),z82)∧(b - z11).toNat<k)∧(SV.tup []).same (SV.tup [])∧(SObj.row z3 (srtP (denI p) l z21 b.toNat) 3 true).same z8∧z5.same z5∧True)∧(decide (z78<b)=false→(SV.tup []).same (SV.tup [])∧z4.same z8∧z5.same z5∧True))∧(decide (z11<z78)=false→(SV.tup []).same (SV.tup [])∧z4.same z8∧z5.same z5∧True)))))∧(decide (z11<m)=false→inR .i64 z14∧(((z1.same z1∧(SV.si .i64 a).same (SV.si .i64 a)∧(SV.si .i64 m).same (SV.si .i64 m)∧(SV.si .i64 b).same (SV.si .i64 b)∧z2.same z2∧z15.same z15∧z16.same z16∧(SV.si .i64 a).same (SV.si .i64 a)∧(SV.si .i64 m).same (SV.si .i64 m)∧z18.same z18∧True)∧z4.same z4∧z5.same z5∧True)∧(z19≤a∧a≤m∧m≤z20)∧(∀(k:Nat),z19≤(↑k:Int)→(↑k:Int)<a→denI p (nthD l k (0:Int))<denI p (nthD l (z14 - (↑k:Int)).toNat (0:Int))→False)∧∀(k:Nat),m≤(↑k:Int)→(↑k:Int)<z20→denI p (nthD l k (0:Int))<denI p (nthD l (z14 - (↑k:Int)).toNat (0:Int)))∧∀(x:Int×Int),let z83:=decide (x.fst<x.snd);let z84:=x.fst+x.snd;let z85:=z84 / (2:Int);let z86:=z14 - z85;let z87:=nthD l z86.toNat (0:Int);let z88:=nthD l z85.toNat (0:Int);let z89:=!decide (cmpO p z87 z88<(0:Int));let z90:=z85+(1:Int);let z91:=SV.si .i64 z90;let z92:=SV.si .i64 x.snd;let z93:=(x.snd - x.fst).toNat;let z94:=SV.si .i64 x.fst;let z95:=SV.si .i64 z85;let z96:=z12 - x.fst;let z97:=decide (x.fst<z11);let z98:=rotR l x.fst.toNat m.toNat z96.toNat;let z99:=srtP (denI p) z98 a.toNat z21;let z100:=(z11,z96,b);((z19≤x.fst∧x.fst≤x.snd∧x.snd≤z20)∧(∀(k:Nat),z19≤(↑k:Int)→(↑k:Int)<x.fst→denI p (nthD l k (0:Int))<denI p (nthD l (z14 - (↑k:Int)).toNat (0:Int))→False)∧∀(k:Nat),x.snd≤(↑k:Int)→(↑k:Int)<z20→denI p (nthD l k (0:Int))<denI p (nthD l (z14 - (↑k:Int)).toNat (0:Int)))→(z83=true→inR .i64 z84∧inR .u64 z84∧(0:Int)≤(1:Int)∧(1:Int)≤(64:Int)∧inR .i64 z85∧inR .i64 z86∧n=l.length∧(0:Int)≤z86∧z86<z7∧n=l.length∧z86.toNat<l.length∧n=l.length∧(0:Int)≤z85∧z85<z7∧n=l.length∧z85.toNat<l.length∧(checkE p=(0:Int)∧inO p z87∧inO p z88)∧(z89=true→inR .i64 z90∧((z1.same z1∧(SV.si .i64 a).same (SV.si .i64 a)∧(SV.si .i64 m).same (SV.si .i64 m)∧(SV.si .i64 b).same (SV.si .i64 b)∧z2.same z2∧z15.same z15∧z16.same z16∧z91.same z91∧z92.same z92∧z18.same z18∧True)∧z4.same z4∧z5.same z5∧True)∧((z19≤z90∧z90≤x.snd∧x.snd≤z20)∧(∀(k:Nat),z19≤(↑k:Int)→(↑k:Int)<z90→denI p (nthD l k (0:Int))<denI p (nthD l (z14 - (↑k:Int)).toNat (0:Int))→False)∧∀(k:Nat),x.snd≤(↑k:Int)→(↑k:Int)<z20→denI p (nthD l k (0:Int))<denI p (nthD l (z14 - (↑k:Int)).toNat (0:Int)))∧(x.snd - z90).toNat<z93)∧(z89=false→((z1.same z1∧(SV.si .i64 a).same (SV.si .i64 a)∧(SV.si .i64 m).same (SV.si .i64 m)∧(SV.si .i64 b).same (SV.si .i64 b)∧z2.same z2∧z15.same z15∧z16.same z16∧z94.same z94∧z95.same z95∧z18.same z18∧True)∧z4.same z4∧z5.same z5∧True)∧((z19≤x.fst∧x.fst≤z85∧z85≤z20)∧(∀(k:Nat),z19≤(↑k:Int)→(↑k:Int)<x.fst→denI p (nthD l k (0:Int))<denI p (nthD l (z14 - (↑k:Int)).toNat (0:Int))→False)∧∀(k:Nat),z85≤(↑k:Int)→(↑k:Int)<z20→denI p (nthD l k (0:Int))<denI p (nthD l (z14 - (↑k:Int)).toNat (0:Int)))∧(z85 - x.fst).toNat<z93))∧(z83=false→inR .i64 z96∧(decide (x.fst<m)=true→(decide (m<z96)=true→(n=l.length∧l.length≤1000∧(0:Int)≤x.fst∧x.fst<m∧m<z96∧z96≤(↑l.length:Int))∧(decide (a<x.fst)=true→(z97=true→(symD ((n,z98,p),a,x.fst,z11)∧(z11 - a).toNat<k)∧(decide (z11<z96)=true→(decide (z96<b)=true→(symD ((n,z99,p),z100)∧(b - z11).toNat<k)∧(SV.tup []).same (SV.tup [])∧(SObj.row z3 (srtP (denI p) z99 z21 b.toNat) 3 true).same z8∧z5.same z5∧True)∧(decide (z96<b)=false→(SV.tup []).same (SV.tup [])∧(SObj.row z3 z99 3 true).same z8∧z5.same z5∧True))∧(decide (z11<z96)=false→(SV.tup []).same (SV.tup [])∧(SObj.row z3 z99 3 true).same z8∧z5.same z5∧True))∧(z97=false→(decide (z11<z96)=true→(decide (z96<b)=true→(symD ((n,z98,p),z100)∧(b - z11).toNat<k)∧(SV.tup []).same (SV.tup [])∧(SObj.row z3 (srtP (denI p) z98 z21 b.toNat) 3 true).same z8∧z5.same z5∧True)∧(decide (z96<b)=false→(SV.tup []).same (SV.tup [])∧(SObj.row z3 z98 3 true).same z8∧z5.same z5∧True))∧(decide (z11<z96)=false→(SV.tup []).same (SV.tup [])∧(SObj.row z3 z98 3 true).same z8∧z5.same z5∧True)))∧(decide (a<x.fst)=false→(decide (z11<z96)=true→(decide (z96<b)=true→(symD ((n,z98,p),z100)∧(b - z11).toNat<k)∧(SV.tup []).same (SV.tup [])∧(SObj.row z3 (srtP (denI p) z98 z21 b.toNat) 3 true).same z8∧z5.same z5∧True)∧(decide (z96<b)=false→(SV.tup []).same (SV.tup [])∧(SObj.row z3 z98 3 true).same z8∧z5.same z5∧True))∧(decide (z11<z96)=false→(SV.tup []).same (SV.tup [])∧(SObj.row z3 z98 3 true).same z8∧z5.same z5∧True)))∧(decide (m<z96)=false→(decide (a<x.fst)=true→(z97=true→(symD ((n,l,p),a,x.fst,z11)∧(z11 - a).toNat<k)∧(decide (z11<z96)=true→(decide (z96<b)=true→(symD ((n,z22,p),z100)∧(b - z11).toNat<k)∧(SV.tup []).same (SV.tup [])∧(SObj.row z3 (srtP (denI p) z22 z21 b.toNat) 3 true).same z8∧z5.same z5∧True)∧(decide (z96<b)=false→(SV.tup []).same (SV.tup [])∧(SObj.row z3 z22 3 true).same z8∧z5.same z5∧True))∧(decide (z11<z96)=false→(SV.tup []).same (SV.tup [])∧(SObj.row z3 z22 3 true).same z8∧z5.same z5∧True))∧(z97=false→(decide (z11<z96)=true→(decide (z96<b)=true→(symD ((n,l,p),z100)∧(b - z11).toNat<k)∧(SV.tup []).same (SV.tup [])∧(SObj.row z3 (srtP (denI p) l z21 b.toNat) 3 true).same z8∧z5.same z5∧True)∧(decide (z96<b)=false→(SV.tup []).same (SV.tup [])∧z4.same z8∧z5.same z5∧True))∧(decide (z11<z96)=false→(SV.tup []).same (SV.tup [])∧z4.same z8∧z5.same z5∧True)))∧(decide (a<x.fst)=false→(decide (z11<z96)=true→(decide (z96<b)=true→(symD ((n,l,p),z100)∧(b - z11).toNat<k)∧(SV.tup []).same (SV.tup [])∧(SObj.row z3 (srtP (denI p) l z21 b.toNat) 3 true).same z8∧z5.same z5∧True)∧(decide (z96<b)=false→(SV.tup []).same (SV.tup [])∧z4.same z8∧z5.same z5∧True))∧(decide (z11<z96)=false→(SV.tup []).same (SV.tup [])∧z4.same z8∧z5.same z5∧True))))∧(decide (x.fst<m)=false→(decide (a<x.fst)=true→(z97=true→(symD ((n,l,p),a,x.fst,z11)∧(z11 - a).toNat<k)∧(decide (z11<z96)=true→(decide (z96<b)=true→(symD ((n,z22,p),z100)∧(b - z11).toNat<k)∧(SV.tup []).same (SV.tup [])∧(SObj.row z3 (srtP (denI p) z22 z21 b.toNat) 3 true).same z8∧z5.same z5∧True)∧(decide (z96<b)=false→(SV.tup []).same (SV.tup [])∧(SObj.row z3 z22 3 true).same z8∧z5.same z5∧True))∧(decide (z11<z96)=false→(SV.tup []).same (SV.tup [])∧(SObj.row z3 z22 3 true).same z8∧z5.same z5∧True))∧(z97=false→(decide (z11<z96)=true→(decide (z96<b)=true→(symD ((n,l,p),z100)∧(b - z11).toNat<k)∧(SV.tup []).same (SV.tup [])∧(SObj.row z3 (srtP (denI p) l z21 b.toNat) 3 true).same z8∧z5.same z5∧True)∧(decide (z96<b)=false→(SV.tup []).same (SV.tup [])∧z4.same z8∧z5.same z5∧True))∧(decide (z11<z96)=false→(SV.tup []).same (SV.tup [])∧z4.same z8∧z5.same z5∧True)))∧(decide (a<x.fst)=false→(decide (z11<z96)=true→(decide (z96<b)=true→(symD ((n,l,p),z100)∧(b - z11).toNat<k)∧(SV.tup []).same (SV.tup [])∧(SObj.row z3 (srtP (denI p) l z21 b.toNat) 3 true).same z8∧z5.same z5∧True)∧(decide (z96<b)=false→(SV.tup []).same (SV.tup [])∧z4.same z8∧z5.same z5∧True))∧(decide (z11<z96)=false→(SV.tup []).same (SV.tup [])∧z4.same z8∧z5.same z5∧True)))))))) (by kernel_rfl) ?_
 simp only[vcs]
 have hV:∀k:Nat,k<l.length→inO p (nthD l k 0):=fun k hk=>ho _ (nthD_mem hk)
 have hcmp:∀i j:Nat,i<l.length→j<l.length→(cmpO p (nthD l i 0) (nthD l j 0)<0↔denI p (nthD l j 0)<denI p (nthD l i 0)):=fun i j hi hj=>cmpO_neg hc (hV i hi) (hV j hj)
 have hxi:∀i j:Nat,a≤i→(i:Int)<m→m≤j→(j:Int)<b→nthD l i 0<nthD l j 0:=fun i j h1 h2 h3 h4=>hx _ (seg_mem.2 ⟨i,by omega,by omega,by omega,rfl⟩) _ (seg_mem.2 ⟨j,by omega,by omega,by omega,rfl⟩)
 have u64:∀{v:Int},0≤v→v≤100000→inR .u64 v:=fun h1 h2=>u64_in h1 (by omega)
 generalize hD:denI p=D at*
 refine⟨by omega,fun h1=>?_,fun h1=>⟨by omega,fun h2=>?_,fun h2=>?_⟩⟩
 ·have hm:m=a+1:=by omega
  have mono:∀i j:Nat,m≤i→i≤j→(j:Int)<b→D (nthD l j 0)≤D (nthD l i 0):=fun i j q1 q2 q3=>leD_den (srt_idx' hR (by omega) q2 (by omega) (by omega))
  refine⟨⟨⟨by omega,by omega,by omega⟩,fun k q1 q2=>by omega,fun k q1 q2=>by omega⟩,?_⟩
  rintro⟨i,j⟩ ⟨⟨i0,i1,i2⟩,q1,q2⟩
  simp only at i0 i1 i2 q1 q2 ⊢
  refine⟨fun hij=>?_,fun hij=>⟨⟨⟨by omega,by omega,by omega,by omega⟩,⟨q1,fun k w1 w2=>q2 k (by omega) w2⟩,?_⟩,?_⟩⟩
  ·rw[hcmp _ _ (by omega) (by omega)]
   generalize hh:(i+j) / 2=h
   have hh1:i≤h∧h<j:=by omega
   refine⟨by omega,u64 (by omega) (by omega),by omega,by omega,by omega,by omega,by omega,by omega,by omega,by omega,by omega,by omega,by omega,by omega,by omega,⟨hc,hV _ (by omega),hV _ (by omega)⟩,fun hlt=>⟨by omega,⟨⟨by omega,by omega,by omega⟩,fun k w1 w2=>?_,fun k w1 w2=>q2 k w1 w2⟩,by omega⟩,fun hge=>⟨⟨⟨by omega,by omega,by omega⟩,fun k w1 w2=>q1 k w1 w2,fun k w1 w2=>?_⟩,by omega⟩⟩
   ·have:=mono k h.toNat (by omega) (by omega) (by omega)
    omega
   ·have:=mono h.toNat k (by omega) (by omega) (by omega)
    omega
  ·rw[show(a - a).toNat=0 by omega,mvP_start (by omega) (by omega)]
  ·rintro⟨k,i',w⟩ ⟨⟨k0,k1,k2,k3⟩,⟨q1,q2⟩,hw⟩
   simp only at k0 k1 k2 k3 q1 q2 hw ⊢
   have hwl:w.length=l.length:=by rw[hw,mvP_len (by omega) (by omega)]
   refine⟨by omega,fun hk=>?_,fun hk=>?_⟩
   ·obtain⟨e1,e2,e3⟩:=@mvP_at l a.toNat b.toNat (k - a).toNat (by omega) (by omega)
    rw[←hw] at e1 e2 e3
    rw[show a.toNat+(k - a).toNat=k.toNat by omega] at e1 e2 e3
    rw[show k.toNat+1=(k+1).toNat by omega] at e2 e3
    rw[show(k - a).toNat+1=(k+1 - a).toNat by omega] at e3
    rw[e1,e2,e3]
    simp only[List.length_set,hwl]
    refine⟨by omega,by omega,by omega,by omega,by omega,by omega,by omega,by omega,by omega,by omega,by omega,by omega,by omega,by omega,by omega,by omega,by omega,by omega,by omega,by omega,by omega,by omega,by omega,⟨⟨by omega,by omega,by omega,by omega⟩,⟨q1,q2⟩,trivial⟩,by omega⟩
   ·have hki:k=i' - 1:=by omega
    refine orow ?_
    rw[hw]
    refine mvP_done (by omega) (by omega) (by rw[show a.toNat+1=m.toNat by omega];exact hR) ?_ ?_
    ·intro s hs
     rw[drop_seg2,seg_mem] at hs
     obtain⟨k',w1,w2,w3,rfl⟩:=hs
     have h9:¬D (nthD l a.toNat 0)<D (nthD l k' 0):=q2 k' (by omega) (by omega)
     have:=hxi a.toNat k' (by omega) (by omega) (by omega) (by omega)
     exact leD_iff.2 (by omega)
    ·by_cases hka:k=a
     ·exact .inl (by omega)
     ·refine .inr (leD_iff.2 (.inl ?_))
      rw[show a.toNat+(k - a).toNat=k.toNat by omega]
      exact q1 k.toNat (by omega) (by omega)
 ·have hb:b=m+1:=by omega
  have mono:∀i j:Nat,a≤i→i≤j→(j:Int)<m→D (nthD l j 0)≤D (nthD l i 0):=fun i j q1 q2 q3=>leD_den (srt_idx' hL (by omega) q2 (by omega) (by omega))
  refine⟨⟨⟨by omega,by omega,by omega⟩,fun k q1 q2=>by omega,fun k q1 q2=>by omega⟩,?_⟩
  rintro⟨i,j⟩ ⟨⟨i0,i1,i2⟩,q1,q2⟩
  simp only at i0 i1 i2 q1 q2 ⊢
  refine⟨fun hij=>?_,fun hij=>⟨⟨⟨by omega,by omega,by omega⟩,⟨q1,fun k w1 w2=>q2 k (by omega) w2⟩,?_⟩,?_⟩⟩
  ·rw[hcmp _ _ (by omega) (by omega)]
   generalize hh:(i+j) / 2=h
   have hh1:i≤h∧h<j:=by omega
   refine⟨by omega,u64 (by omega) (by omega),by omega,by omega,by omega,by omega,by omega,by omega,by omega,by omega,by omega,by omega,by omega,by omega,by omega,⟨hc,hV _ (by omega),hV _ (by omega)⟩,fun hge=>⟨by omega,⟨⟨by omega,by omega,by omega⟩,fun k w1 w2=>?_,fun k w1 w2=>q2 k w1 w2⟩,by omega⟩,fun hlt=>⟨⟨⟨by omega,by omega,by omega⟩,fun k w1 w2=>q1 k w1 w2,fun k w1 w2=>?_⟩,by omega⟩⟩
   ·have:=mono k h.toNat (by omega) (by omega) (by omega)
    omega
   ·have:=mono h.toNat k (by omega) (by omega) (by omega)
    omega
  ·rw[insP_start (by omega) (by omega),srtP_triv (by omega) hL]
  ·rintro⟨k,i',w⟩ ⟨⟨k0,k1,k2⟩,⟨q1,q2⟩,hw⟩
   simp only at k0 k1 k2 q1 q2 hw ⊢
   have hwl:w.length=l.length:=by rw[hw,insP_len (by omega) (by omega)]
   have hso:srt D (seg l a.toNat m.toNat)=seg l a.toNat m.toNat:=srt_of hL
   have hsl:=seg_len (l:=l) (a:=a.toNat) (b:=m.toNat) (by omega) (by omega)
   refine⟨fun hk=>?_,fun hk=>?_⟩
   ·obtain⟨e1,e2,e3⟩:=@insP_at D l a.toNat m.toNat k.toNat (by omega) (by omega) (by omega)
    rw[←hw] at e1 e2 e3
    rw[show k.toNat - 1=(k - 1).toNat by omega] at e2 e3
    rw[e1,e2,e3]
    simp only[List.length_set,hwl]
    refine⟨by omega,by omega,by omega,by omega,by omega,by omega,by omega,by omega,by omega,by omega,by omega,by omega,by omega,by omega,by omega,by omega,by omega,by omega,by omega,by omega,by omega,by omega,by omega,⟨⟨by omega,by omega,by omega⟩,⟨q1,q2⟩,trivial⟩,by omega⟩
   ·have hki:k=i':=by omega
    refine orow ?_
    rw[hw,show b.toNat=m.toNat+1 by omega]
    refine insP_done (by omega) (by omega) (by omega) ?_ ?_
    ·intro s hs
     rw[hso,drop_seg2,seg_mem] at hs
     obtain⟨k',w1,w2,w3,rfl⟩:=hs
     have h9:D (nthD l k' 0)<D (nthD l m.toNat 0):=q2 k' (by omega) (by omega)
     exact leD_iff.2 (by omega)
    ·by_cases hka:k=a
     ·exact .inl (by omega)
     ·refine .inr ?_
      rw[hso,nthD_eq (show k.toNat - 1 - a.toNat<(seg l a.toNat m.toNat).length by omega),seg_get]
      have h9:¬D (nthD l (a.toNat+(k.toNat - 1 - a.toNat)) 0)<D (nthD l m.toNat 0):=q1 (a.toNat+(k.toNat - 1 - a.toNat)) (by omega) (by omega)
      have:=hxi (a.toNat+(k.toNat - 1 - a.toNat)) m.toNat (by omega) (by omega) (by omega) (by omega)
      exact leD_iff.2 (by omega)
 ·generalize hmd:(a+b) / 2=mid
  have md:2*mid≤a+b∧a+b≤2*mid+1:=by omega
  clear hmd
  have hlh:∃lo hi,lo=(if mid<m then mid+m - b else a)∧hi=(if mid<m then mid else m):=⟨_,_,rfl,rfl⟩
  obtain⟨lo,hi,elo,ehi⟩:=hlh
  rw[←elo,←ehi]
  have hlo:(mid<m∧lo=mid+m - b∧hi=mid)∨(m≤mid∧lo=a∧hi=m):=by
   rcases Int.lt_or_le mid m with h|h
   ·exact .inl ⟨h,by rw[elo,if_pos h],by rw[ehi,if_pos h]⟩
   ·exact .inr ⟨h,by rw[elo,if_neg (by omega)],by rw[ehi,if_neg (by omega)]⟩
  clear elo ehi
  have moL:∀i j:Nat,a≤i→i≤j→(j:Int)<m→D (nthD l j 0)≤D (nthD l i 0):=fun i j q1 q2 q3=>leD_den (srt_idx' hL (by omega) q2 (by omega) (by omega))
  have moR:∀i j:Nat,m≤i→i≤j→(j:Int)<b→D (nthD l j 0)≤D (nthD l i 0):=fun i j q1 q2 q3=>leD_den (srt_idx' hR (by omega) q2 (by omega) (by omega))
  have tail:∀s:Int,lo≤s→s≤hi→(∀k:Nat,lo≤k→(k:Int)<s→D (nthD l k 0)<D (nthD l (mid+m - 1 - k).toNat 0)→False)→(∀k:Nat,s≤k→(k:Int)<hi→D (nthD l k 0)<D (nthD l (mid+m - 1 - k).toNat 0))→
    symT D n k l p a m b mid s:=by
   intro s s1 s2 q1 q2
   refine symT_ok hD hc hn hl ho a0 (by omega) (by omega) (by omega) (by omega) (by omega) (by omega) (by omega) a3 hL hR hx ?_ ?_ hk
   ·rintro x y hX hY
    rw[seg_mem] at hX hY
    obtain⟨i,i1,i2,i3,rfl⟩:=hX
    obtain⟨j,j1,j2,j3,rfl⟩:=hY
    have h3:=q1 (s - 1).toNat (by omega) (by omega)
    rw[show(mid+m - 1 - ((s - 1).toNat:Int)).toNat=(mid+m - s).toNat by omega] at h3
    have h4:=moL i (s - 1).toNat (by omega) (by omega) (by omega)
    have h5:=moR (mid+m - s).toNat j (by omega) (by omega) (by omega)
    have h6:=hxi i j (by omega) (by omega) (by omega) (by omega)
    have h7:¬D (nthD l (s - 1).toNat 0)<D (nthD l (mid+m - s).toNat 0):=h3
    exact leD_iff.2 (by omega)
   ·rintro x y hX hY
    rw[seg_mem] at hX hY
    obtain⟨j,j1,j2,j3,rfl⟩:=hX
    obtain⟨i,i1,i2,i3,rfl⟩:=hY
    have h3:=q2 s.toNat (by omega) (by omega)
    have h4:=moL s.toNat i (by omega) (by omega) (by omega)
    have h5:=moR j (mid+m - 1 - (s.toNat:Int)).toNat (by omega) (by omega) (by omega)
    exact leD_iff.2 (by omega)
  refine⟨by omega,u64 (by omega) (by omega),by omega,by omega,by omega,by omega,fun hm=>⟨by omega,by omega,⟨⟨by omega,by omega,by omega⟩,fun k w1 w2=>by omega,fun k w1 w2=>by omega⟩,?_⟩,fun hm=>⟨by omega,⟨⟨by omega,by omega,by omega⟩,fun k w1 w2=>by omega,fun k w1 w2=>by omega⟩,?_⟩⟩
  all_goals
   rintro⟨i,j⟩ ⟨⟨i0,i1,i2⟩,q1,q2⟩
   simp only at i0 i1 i2 q1 q2 ⊢
   refine⟨fun hij=>?_,fun hij=>?_⟩
   ·generalize hh:(i+j) / 2=h
    have hh1:i≤h∧h<j:=by omega
    rw[hcmp _ _ (by omega) (by omega)]
    refine⟨by omega,u64 (by omega) (by omega),by omega,by omega,by omega,by omega,by omega,by omega,by omega,by omega,by omega,by omega,by omega,by omega,by omega,by omega,⟨hc,hV _ (by omega),hV _ (by omega)⟩,fun hge=>⟨by omega,⟨⟨by omega,by omega,by omega⟩,fun k w1 w2=>?_,fun k w1 w2=>q2 k w1 w2⟩,by omega⟩,fun hlt=>⟨⟨⟨by omega,by omega,by omega⟩,fun k w1 w2=>q1 k w1 w2,fun k w1 w2=>?_⟩,by omega⟩⟩
    ·have h3:=moL k h.toNat (by omega) (by omega) (by omega)
     have h4:=moR (mid+m - 1 - h).toNat (mid+m - 1 - (k:Int)).toNat (by omega) (by omega) (by omega)
     omega
    ·have h3:=moL h.toNat k (by omega) (by omega) (by omega)
     have h4:=moR (mid+m - 1 - (k:Int)).toNat (mid+m - 1 - h).toNat (by omega) (by omega) (by omega)
     omega
   ·have hij':i=j:=by omega
    have h3:=tail i i0 (by omega) q1 (fun k w1 w2=>q2 k (by omega) w2)
    exact h3
theorem hSym:∀n,HoldsO Try.prog (symC n)
 |0=>by
  rintro⟨⟨c,l,p⟩,a,m,b⟩ ⟨_,h⟩
  exact absurd h (Nat.not_lt_zero _)
 |n+1=>by
  rintro⟨⟨c,l,p⟩,a,m,b⟩ ⟨h1,h2⟩
  by_cases hc:(b - a).toNat<n
  ·exact hSym n ⟨⟨c,l,p⟩,a,m,b⟩ ⟨h1,hc⟩
  ·refine holdsO_of (symC (n+1)) (W:=W344 n) (Λ:=fun x=>Λ344 x.1.1 x.1.2.1 x.1.2.2 x.2.1 x.2.2.1 x.2.2.2) base_ok (by simp only[W344,List.forall_mem_cons,List.not_mem_nil,false_implies,implies_true,and_true];exact⟨hSym n,h351,h320⟩) (by simp)
    (show fnN 60=some F344 by kernel_rfl) (fun _=>rfl) ⟨⟨c,l,p⟩,a,m,b⟩ ?_ (symX n c l p a m b h1 h2).out
   intro d hd b' hb1 hb2 hb3
   have hd2:d=symC n:=by
    have:findO 60 (W344 n)=some (symC n):=rfl
    have hd3:findO 60 (W344 n)=some d:=hd
    rw[this] at hd3
    injection hd3 with hd3
    exact hd3.symm
   subst hd2
   have hb:(⟨⟨c,l,p⟩,a,m,b⟩:Srg×Int×Int×Int)=b':=(symC n).inj ⟨⟨c,l,p⟩,a,m,b⟩ b' hb1 hb2
   subst hb
   exact hc hb3.2
def to1 (b:Int):List Int:=[b]
def of1:List Int→Option Int
 |[a]=>some a
 |_=>none
theorem of1_ok:∀l b,of1 l=some b→l=to1 b:=fun l b h=>by
 unfold of1 at h
 split at h
 ·simp only[Option.some.injEq] at h;subst h;rfl
 ·cases h
theorem to1_inj:∀b c,to1 b=to1 c→b=c:=fun b c h=>by
 unfold to1 at h
 simp only[List.cons.injEq,and_true] at h
 exact h
def to0 (_:Unit):List Int:=[]
def of0:List Int→Option Unit
 |[]=>some ()
 |_=>none
theorem of0_ok:∀l b,of0 l=some b→l=to0 b:=fun l b h=>by
 unfold of0 at h
 split at h
 ·rfl
 ·cases h
theorem to0_inj:∀b c,to0 b=to0 c→b=c:=fun _ _ _=>rfl
theorem srtP_all {D:Int→Int} {l:List Int} {n:Nat} (h:n=l.length):srtP D l 0 n=srt D l:=by
 subst h
 unfold srtP seg
 simp
def m20 (D:Int→Int) (l:List Int):List Int:=srt D (l.take 20)++(srt D (l.drop 20)++[])
theorem srtP_20 {D:Int→Int} {l:List Int} (h:20≤l.length):srtP D l 0 20=srt D (l.take 20)++(l.drop 20++[]):=by
 unfold srtP seg
 simp
theorem srtP_m20 {D:Int→Int} {l:List Int} {n:Nat} (hn:n=l.length) (h:20≤l.length):srtP D (srtP D l 0 20) 20 n=m20 D l:=by
 have hl:(srt D (l.take 20)).length=20:=by rw[srt_len,List.length_take];omega
 rw[srtP_20 h]
 exact srtP_mid hl.symm (by rw[List.length_drop];omega)
theorem m20_len {D:Int→Int} {l:List Int}:(m20 D l).length=l.length:=by
 unfold m20
 rw[List.append_nil,List.length_append,srt_len,srt_len,←List.length_append,List.take_append_drop]
theorem m20_perm {D:Int→Int} {l:List Int}:(m20 D l).Perm l:=by
 unfold m20
 rw[List.append_nil]
 refine(srt_perm.append srt_perm).trans ?_
 rw[List.take_append_drop]
theorem m20_seg {D:Int→Int} {l:List Int} {n:Nat} (hn:n=l.length) (h:20≤l.length):seg (m20 D l) 0 20=srt D (l.take 20)∧seg (m20 D l) 20 n=srt D (l.drop 20):=by
 have hl:(srt D (l.take 20)).length=20:=by rw[srt_len,List.length_take];omega
 refine⟨?_,?_⟩
 ·have:=@seg_mid [] (srt D (l.take 20)) (srt D (l.drop 20)++[]) 0 20 rfl (by rw[hl];rfl)
  exact this
 ·exact seg_mid hl.symm (by rw[srt_len,srt_len,List.length_take,List.length_drop];omega)
theorem m20_srt {D:Int→Int} {l:List Int} {n:Nat} (hn:n=l.length):srtP D (m20 D l) 0 n=srt D l:=by
 rw[srtP_all (by rw[m20_len];exact hn)]
 exact srt_eq (srt_perm.trans m20_perm) srt_srt
theorem seg_after {D:Int→Int} {l:List Int} {b c d:Nat} (h:b≤c) (hb:b≤l.length):seg (srtP D l 0 b) c d=seg l c d:=by
 have hl:(srt D (seg l 0 b)).length=b:=by rw[srt_len,seg_len (by omega) hb];omega
 unfold srtP
 have:(l.take 0++srt D (seg l 0 b)++l.drop b).drop c=l.drop c:=by
  rw[List.take_zero,List.nil_append,List.drop_append,List.drop_eq_nil_of_le (by omega),List.nil_append,List.drop_drop,hl,show b+(c - b)=c by omega]
 show((l.take 0++srt D (seg l 0 b)++l.drop b).drop c).take (d - c)=(l.drop c).take (d - c)
 rw[this]
theorem m20_dom {l:List Int} {p:Prob} {n:Nat} (hc:checkE p=0) (hn:n=l.length) (h:20<l.length) (hl:l.length≤1000) (ho:∀x∈l,inO p x) (hi:l.Pairwise (·<·)):symD ((n,m20 (denI p) l,p),0,20,(l.length:Int)):=by
 obtain⟨s1,s2⟩:=@m20_seg (denI p) l l.length rfl (by omega)
 refine⟨⟨⟨hc,by simp only[m20_len];exact hn⟩,by simp only[m20_len];exact hl,fun x hx=>ho x (m20_perm.mem_iff.1 hx)⟩,⟨by simp only;omega,by simp only;omega,by simp only;omega,by simp only[m20_len];omega⟩,?_,?_,?_⟩
 ·show Srt _ (seg _ 0 20)
  rw[s1];exact srt_srt
 ·show Srt _ (seg _ 20 _)
  rw[show((l.length:Int)).toNat=l.length by omega,s2];exact srt_srt
 ·show ∀x∈seg _ 0 20,∀y∈seg _ 20 _,x<y
  rw[show((l.length:Int)).toNat=l.length by omega,s1,s2]
  intro x hx y hy
  rw[srt_mem] at hx hy
  have:=List.take_append_drop 20 l
  rw[←this,List.pairwise_append] at hi
  exact hi.2.2 x hx y hy
def r333:OCtr:=sortCtr 44 1 Int to1 of1 (fun _=>rfl) of1_ok to1_inj (fun a=>(offL a.1∧a.1.2.1.Pairwise (·<·))∧a.2=a.1.2.1.length∧a.1.2.1.length≤40) fun a=>srt (denI a.1.2.2) a.1.2.1
def Λ333 (n:Nat) (l:List Int) (p:Prob):Nat→LoopAnn
 |2=> .inv (Int×Int×List Int) (fun x=>⟨[(0,.ow 0 n 1),(1,.si .i64 l.length),(2,.fn (.func 25) [] [.ptr 1 0 20]),(6,.si .i64 20),(7,.si .i64 x.1),(8,.si .i64 x.2.1)],[.row (.i .i64) x.2.2 3 true,.cells p.ss 27 20 false]⟩) (fun s=>(iS s 7,iS s 8,oS (.i .i64) s 0))
   (fun x=>x.2.1=x.1+20∧(x.1=0∧x.2.2=l∨x.1=20∧20≤l.length∧x.2.2=srtP (denI p) l 0 20∨x.1=40∧l.length=40∧x.2.2=srtP (denI p) (srtP (denI p) l 0 20) 20 40)) (fun x=>(1000 - x.1).toNat) fun _ _=> .look
 |7=> .inv (Int×List Int) (fun x=>⟨[(0,.ow 0 n 1),(1,.si .i64 l.length),(2,.fn (.func 25) [] [.ptr 1 0 20]),(6,.si .i64 x.1)],[.row (.i .i64) x.2 3 true,.cells p.ss 27 20 false]⟩) (fun s=>(iS s 6,oS (.i .i64) s 0))
   (fun x=>x.1=20∧(l.length≤20∧x.2=srt (denI p) l∨20<l.length∧x.2=m20 (denI p) l)∨x.1=40∧x.2=srt (denI p) l) (fun x=>(1000 - x.1).toNat) fun x k=>match k with
    |9=> .inv (Int×Int×List Int) (fun y=>⟨[(0,.ow 0 n 1),(1,.si .i64 l.length),(2,.fn (.func 25) [] [.ptr 1 0 20]),(6,.si .i64 x.1),(7,.si .i64 y.1),(8,.si .i64 y.2.1)],[.row (.i .i64) y.2.2 3 true,.cells p.ss 27 20 false]⟩) (fun s=>(iS s 7,iS s 8,oS (.i .i64) s 0))
      (fun y=>y.1=0∧y.2.1=40∧y.2.2=m20 (denI p) l∨y.1=40∧y.2.1=80∧l.length=40∧y.2.2=srt (denI p) l) (fun y=>(1000 - y.1).toNat) fun _ _=> .look
    |_=> .look
 |_=> .look
theorem h333:HoldsO Try.prog r333:=by
 refine conO (L:=[]) (W:=[r343,symC 1001]) r333 F333 (fun a=>Λ333 a.1.1 a.1.2.1 a.1.2.2) (by simp only[List.forall_mem_cons,List.not_mem_nil,false_implies,implies_true,and_true];exact⟨h343,hSym 1001⟩) (by simp) (by kernel_rfl) (fun _=>rfl) (by kernel_rfl) ?_
 rintro⟨⟨n,l,p⟩,N⟩ ⟨⟨⟨⟨hc,hn⟩,hl,ho⟩,hi⟩,hN,h40⟩
 simp only at hc hn hl ho hi hN h40
 subst hN
 refine vcOf (let z0:=SV.ow 0 n 1;let z1:=(↑l.length:Int);let z2:=SV.si .i64 z1;let z3:=SV.fn (Fn.func 25) [] [SV.ptr 1 0 20];let z4:=SV.si .i64 20;let z5:=SId.i .i64;let z6:=SObj.row z5 l 3 true;let z7:=SObj.cells [SV.si .i64 p.supply.a0,SV.si .i64 p.supply.a1,SV.si .i64 p.supply.a2,SV.si .i64 p.supply.a3,SV.si .i64 p.supply.a4,SV.si .i64 p.supply.a5,SV.si .i64 p.opn.a0,SV.si .i64 p.opn.a1,SV.si .i64 p.opn.a2,SV.si .i64 p.opn.a3,SV.si .i64 p.opn.a4,SV.si .i64 p.opn.a5,SV.si .i64 p.cls.a0,SV.si .i64 p.cls.a1,SV.si .i64 p.cls.a2,SV.si .i64 p.cls.a3,SV.si .i64 p.cls.a4,SV.si .i64 p.cls.a5,SV.row z5 p.classes,SV.row SId.off p.offers] 27 20 false;let z8:=srtP (denI p) l 0 20;let z9:=srtP (denI p) z8 20 40;let z10:=srt (denI p) l;let z11:=m20 (denI p) l;(((z0.same z0∧z2.same z2∧z3.same z3∧(SV.il .i64 20).same z4∧(SV.il .i64 0).same (SV.si .i64 0)∧(SV.il .i64 20).same z4∧True)∧z6.same z6∧z7.same z7∧True)∧(20:Int)=(20:Int)∧((0:Int)=(0:Int)∧l=l∨(0:Int)=(20:Int)∧20≤l.length∧l=z8∨(0:Int)=(40:Int)∧l.length=40∧l=z9))∧∀(x:Int×Int×List Int),let z12:=decide (x.snd.fst≤z1);let z13:=x.fst.toNat;let z14:=x.snd.fst+(20:Int);let z15:=SV.si .i64 x.snd.fst;let z16:=SV.si .i64 z14;let z17:=srtP (denI p) x.snd.snd z13 x.snd.fst.toNat;let z18:=SObj.row z5 z17 3 true;let z19:=srtP (denI p) x.snd.snd z13 z1.toNat;let z20:=SObj.row z5 z19 3 true;x.snd.fst=x.fst+(20:Int)∧(x.fst=(0:Int)∧x.snd.snd=l∨x.fst=(20:Int)∧20≤l.length∧x.snd.snd=z8∨x.fst=(40:Int)∧l.length=40∧x.snd.snd=z9)→(z12=true→(offL (n,x.snd.snd,p)∧rngL x.snd.snd x.fst x.snd.fst∧List.Pairwise (fun x1 x2 ↦x1<x2) (seg x.snd.snd z13 x.snd.fst.toNat))∧inR .i64 z14∧((z0.same z0∧z2.same z2∧z3.same z3∧z4.same z4∧z15.same z15∧z16.same z16∧True)∧z18.same z18∧z7.same z7∧True)∧(z14=z14∧(x.snd.fst=(0:Int)∧z17=l∨x.snd.fst=(20:Int)∧20≤l.length∧z17=z8∨x.snd.fst=(40:Int)∧l.length=40∧z17=z9))∧((1000:Int) - x.snd.fst).toNat<((1000:Int) - x.fst).toNat)∧(z12=false→(offL (n,x.snd.snd,p)∧rngL x.snd.snd x.fst z1∧List.Pairwise (fun x1 x2 ↦x1<x2) (seg x.snd.snd z13 z1.toNat))∧(((z0.same z0∧z2.same z2∧z3.same z3∧z4.same z4∧True)∧z20.same z20∧z7.same z7∧True)∧((20:Int)=(20:Int)∧(l.length≤20∧z19=z10∨20<l.length∧z19=z11)∨(20:Int)=(40:Int)∧z19=z10))∧∀(x:Int×List Int),let z21:=(2:Int)*x.fst;let z22:=SV.si .i64 x.fst;let z23:=SV.si .i64 z21;let z24:=SObj.row z5 x.snd 3 true;let z25:=x.fst*(2:Int);let z26:=SV.si .i64 z25;x.fst=(20:Int)∧(l.length≤20∧x.snd=z10∨20<l.length∧x.snd=z11)∨x.fst=(40:Int)∧x.snd=z10→(decide (x.fst<z1)=true→inR .i64 z21∧(((z0.same z0∧z2.same z2∧z3.same z3∧z22.same z22∧(SV.il .i64 0).same (SV.si .i64 0)∧z23.same z23∧True)∧z24.same z24∧z7.same z7∧True)∧((0:Int)=(0:Int)∧z21=(40:Int)∧x.snd=z11∨(0:Int)=(40:Int)∧z21=(80:Int)∧l.length=40∧x.snd=z10))∧∀(x_1:Int×Int×List Int),let z27:=decide (x_1.snd.fst≤z1);let z28:=x_1.fst+x.fst;let z29:=x_1.snd.fst+z21;let z30:=SV.si .i64 x_1.snd.fst;let z31:=SV.si .i64 z29;let z32:=srtP (denI p) x_1.snd.snd x_1.fst.toNat x_1.snd.fst.toNat;let z33:=SObj.row z5 z32 3 true;let z34:=srtP (denI p) x_1.snd.snd x_1.fst.toNat z1.toNat;let z35:=SObj.row z5 z34 3 true;let z36:=SObj.row z5 x_1.snd.snd 3 true;x_1.fst=(0:Int)∧x_1.snd.fst=(40:Int)∧x_1.snd.snd=z11∨x_1.fst=(40:Int)∧x_1.snd.fst=(80:Int)∧l.length=40∧x_1.snd.snd=z10→(z27=true→inR .i64 z28∧(symD ((n,x_1.snd.snd,p),x_1.fst,z28,x_1.snd.fst)∧(x_1.snd.fst - x_1.fst).toNat<1001)∧inR .i64 z21∧inR .i64 z29∧((z0.same z0∧z2.same z2∧z3.same z3∧z22.same z22∧z30.same z30∧z31.same z31∧True)∧z33.same z33∧z7.same z7∧True)∧(x_1.snd.fst=(0:Int)∧z29=(40:Int)∧z32=z11∨x_1.snd.fst=(40:Int)∧z29=(80:Int)∧l.length=40∧z32=z10)∧((1000:Int) - x_1.snd.fst).toNat<((1000:Int) - x_1.fst).toNat)∧(z27=false→inR .i64 z28∧(decide (z28<z1)=true→(symD ((n,x_1.snd.snd,p),x_1.fst,z28,z1)∧(z1 - x_1.fst).toNat<1001)∧inR .i64 z25∧((z0.same z0∧z2.same z2∧z3.same z3∧z26.same z26∧True)∧z35.same z35∧z7.same z7∧True)∧(z25=(20:Int)∧(l.length≤20∧z34=z10∨20<l.length∧z34=z11)∨z25=(40:Int)∧z34=z10)∧((1000:Int) - z25).toNat<((1000:Int) - x.fst).toNat)∧(decide (z28<z1)=false→inR .i64 z25∧((z0.same z0∧z2.same z2∧z3.same z3∧z26.same z26∧True)∧z36.same z36∧z7.same z7∧True)∧(z25=(20:Int)∧(l.length≤20∧x_1.snd.snd=z10∨20<l.length∧x_1.snd.snd=z11)∨z25=(40:Int)∧x_1.snd.snd=z10)∧((1000:Int) - z25).toNat<((1000:Int) - x.fst).toNat)))∧(decide (x.fst<z1)=false→(SV.tup []).same (SV.tup [])∧z24.same (SObj.row z5 z10 3 true)∧z7.same z7∧True))) (by kernel_rfl) ?_
 simp only[vcs]
 have pw:∀a b,(seg l a b).Pairwise (·<·):=fun a b=>List.Pairwise.sublist ((List.take_sublist _ _).trans (List.drop_sublist _ _)) hi
 have e0:((l.length:Int)).toNat=l.length:=by omega
 rw[e0]
 refine⟨.inl trivial,?_⟩
 rintro⟨a,b,w⟩ ⟨hb,hw⟩
 simp only at hb hw ⊢
 subst hb
 refine⟨fun h=>?_,fun h=>?_⟩
 ·rcases hw with⟨rfl,rfl⟩|⟨rfl,h2,rfl⟩|⟨rfl,h2,rfl⟩
  ·exact⟨⟨⟨⟨hc,hn⟩,hl,ho⟩,⟨by omega,by omega,by omega⟩,pw _ _⟩,by omega,.inr (.inl ⟨by omega,by omega,rfl⟩),by omega⟩
  ·have hw:=@srtP_len (denI p) l 0 20 (by omega) (by omega)
   exact⟨⟨⟨⟨hc,by simp only[hw];exact hn⟩,by simp only[hw];exact hl,fun x hx=>ho x (srtP_mem hx)⟩,⟨by omega,by omega,by rw[hw];omega⟩,by rw[seg_after (by omega) (by omega)];exact pw _ _⟩,by omega,.inr (.inr ⟨by omega,by omega,rfl⟩),by omega⟩
  ·omega
 ·refine⟨?_,?_,?_⟩
  ·rcases hw with⟨rfl,rfl⟩|⟨rfl,h2,rfl⟩|⟨rfl,h2,rfl⟩
   ·exact⟨⟨⟨hc,hn⟩,hl,ho⟩,⟨by omega,by omega,by omega⟩,pw _ _⟩
   ·have hw:=@srtP_len (denI p) l 0 20 (by omega) (by omega)
    exact⟨⟨⟨hc,by simp only[hw];exact hn⟩,by simp only[hw];exact hl,fun x hx=>ho x (srtP_mem hx)⟩,⟨by omega,by omega,by rw[hw];omega⟩,by rw[seg_after (by omega) (by omega)];exact pw _ _⟩
   ·have hw:=@srtP_len (denI p) l 0 20 (by omega) (by omega)
    have hw2:=@srtP_len (denI p) (srtP (denI p) l 0 20) 20 40 (by omega) (by omega)
    rw[hw] at hw2
    refine⟨⟨⟨hc,by simp only[hw2];exact hn⟩,by simp only[hw2];exact hl,fun x hx=>ho x (srtP_mem (srtP_mem hx))⟩,⟨by omega,by omega,by rw[hw2];omega⟩,?_⟩
    rw[h2]
    show(seg _ 40 40).Pairwise _
    rw[seg_nil]
    exact List.Pairwise.nil
  ·left
   rcases hw with⟨rfl,rfl⟩|⟨rfl,h2,rfl⟩|⟨rfl,h2,rfl⟩
   ·exact .inl ⟨by omega,srtP_all rfl⟩
   ·rcases Nat.lt_or_ge 20 l.length with h3|h3
    ·exact .inr ⟨h3,srtP_m20 rfl (by omega)⟩
    ·refine .inl ⟨h3,?_⟩
     rw[show l.length=20 by omega]
     show srtP _ _ 20 20=_
     rw[srtP_nil]
     exact srtP_all (by omega)
   ·refine .inr ⟨by omega,?_⟩
    rw[h2]
    show srtP _ _ 40 40=_
    rw[srtP_nil]
    exact srtP_m20 h2.symm (by omega)
  ·rintro⟨s,w⟩ hw
   simp only at hw ⊢
   refine⟨fun h=>?_,fun h=>orow ?_⟩
   ·have hs:s=20∧20<l.length∧w=m20 (denI p) l:=by
     rcases hw with⟨h1,h2|h2⟩|h2
     ·omega
     ·exact⟨h1,h2⟩
     ·omega
    obtain⟨rfl,h20,rfl⟩:=hs
    refine⟨by omega,.inl ⟨by omega,rfl⟩,?_⟩
    rintro⟨a,b,w⟩ hy
    simp only at hy ⊢
    have hd:=@m20_dom l p n hc hn h20 hl ho hi
    rcases hy with⟨rfl,rfl,rfl⟩|⟨rfl,rfl,h4,rfl⟩
    ·refine⟨fun h5=>?_,fun h5=>⟨by omega,fun h6=>?_,fun h6=>by omega⟩⟩
     ·have h6:l.length=40:=by omega
      refine⟨by omega,⟨?_,by omega⟩,by omega,by omega,.inr ⟨by omega,by omega,h6,m20_srt h6.symm⟩,by omega⟩
      rw[h6] at hd
      exact hd
     ·exact⟨⟨hd,by omega⟩,by omega,.inr ⟨by omega,m20_srt rfl⟩,by omega⟩
    ·refine⟨fun h5=>by omega,fun h5=>⟨by omega,fun h6=>by omega,fun h6=>⟨by omega,.inr ⟨by omega,rfl⟩,by omega⟩⟩⟩
   ·rcases hw with⟨h1,h2|h2⟩|h2
    ·exact h2.2
    ·omega
    ·exact h2.2
def r319:OCtr:=sortCtr 24 0 Unit to0 of0 (fun _=>rfl) of0_ok to0_inj (fun a=>(offL a.1∧a.1.2.1.Pairwise (·<·))∧a.1.2.1.length≤40) fun a=>srt (denI a.1.2.2) a.1.2.1
theorem h319:HoldsO Try.prog r319:=by
 refine conO (L:=[]) (W:=[r333]) r319 F319 (fun _ _=> .look) (by simpa using h333) (by simp) (by kernel_rfl) (fun _=>rfl) (by kernel_rfl) ?_
 rintro⟨⟨n,l,p⟩,u⟩ ⟨⟨⟨⟨hc,hn⟩,hl,ho⟩,hi⟩,h40⟩
 simp only at hc hn hl ho hi h40
 refine vcOf (let z0:=SObj.row (SId.i .i64) (srt (denI p) l) 3 true;let z1:=SObj.cells (Prob.ss p) 27 20 false;((offL (n,l,p)∧List.Pairwise (fun x1 x2 ↦x1<x2) l)∧(↑n:Int)=(↑l.length:Int)∧l.length≤40)∧(SV.tup []).same (SV.tup [])∧z0.same z0∧z1.same z1∧True) (by kernel_rfl) ?_
 simp only[vcs]
 exact⟨⟨⟨⟨hc,hn⟩,hl,ho⟩,hi⟩,by omega,h40⟩
def uptoI (n:Nat):List Int:=(List.range n).map fun i:Nat=>(i:Int)
theorem uptoI_len {n:Nat}:(uptoI n).length=n:=by simp[uptoI]
theorem uptoI_succ {n:Nat}:uptoI (n+1)=uptoI n++[(n:Int)]:=by simp[uptoI,List.range_succ]
theorem uptoI_lt {n:Nat}:(uptoI n).Pairwise (·<·):=by
 unfold uptoI
 rw[List.pairwise_map]
 exact List.pairwise_lt_range.imp fun h=>by omega
theorem uptoI_mem {n:Nat} {x:Int}:x∈uptoI n↔0≤x∧x<n:=by
 unfold uptoI
 rw[List.mem_map]
 constructor
 ·rintro⟨k,hk,rfl⟩
  rw[List.mem_range] at hk
  omega
 ·rintro⟨h0,h1⟩
  exact⟨x.toNat,List.mem_range.2 (by omega),by omega⟩
def filI (n i:Nat):List Int:=uptoI i++List.replicate (n - i) 0
theorem filI_len {n i:Nat} (h:i≤n):(filI n i).length=n:=by simp[filI,uptoI_len];omega
theorem filI_zero {n:Nat}:filI n 0=List.replicate n 0:=by simp[filI,uptoI]
theorem filI_all {n:Nat}:filI n n=uptoI n:=by simp[filI]
theorem filI_set {n i:Nat} (h:i<n):(filI n i).set i (i:Int)=filI n (i+1):=by
 unfold filI
 rw[List.set_append_right _ _ (by rw[uptoI_len];omega),uptoI_len,Nat.sub_self,show n - i=(n - (i+1))+1 by omega,List.replicate_succ,List.set_cons_zero,uptoI_succ,List.append_assoc]
 rfl
def ordR (p:Prob):List Int:=srt (denI p) (uptoI p.offers.length)
def r308:SCtr:=⟨9,Prob,.one codP,fun p=>p.offers.length≤40,fun p=> .row (.i .i64) (if checkE p=0 then ordR p else[])⟩
def Λ308 (p:Prob):Nat→LoopAnn
 |5=> .inv Int (fun i=>⟨[(1,.ptr 0 0 20),(3,.ow 1 (filI p.offers.length i.toNat).length 1),(13,.si .i64 p.offers.length),(14,.si .i64 i)],[.cells p.ss 27 20 false,.row (.i .i64) (filI p.offers.length i.toNat) 3 true]⟩)
   (fun s=>iS s 14) (fun i=>0≤i∧i≤p.offers.length) (fun i=>(p.offers.length - i).toNat) fun _ _=> .look
 |_=> .look
theorem h308:Holds Try.prog r308:=by
 refine con (L:=[r79]) (W:=ownT [r319]) r308 F308 Λ308 (ownT_ok (by simpa using h319)) (by simpa using h79) (by kernel_rfl) (by kernel_rfl) (fun _=>rfl) ?_
 intro(p:Prob) (hp:p.offers.length≤40)
 refine vcOf (let z0:=decide (checkE p≠(0:Int));let z1:=SId.i .i64;let z2:=SV.row z1 (if checkE p=(0:Int) then ordR p else[]);let z3:=(↑p.offers.length:Int);let z4:=SV.ptr 0 0 20;let z5:=p.offers.length;let z6:=(↑z5:Int);let z7:=SV.si .i64 z6;let z8:=SObj.cells [SV.si .i64 p.supply.a0,SV.si .i64 p.supply.a1,SV.si .i64 p.supply.a2,SV.si .i64 p.supply.a3,SV.si .i64 p.supply.a4,SV.si .i64 p.supply.a5,SV.si .i64 p.opn.a0,SV.si .i64 p.opn.a1,SV.si .i64 p.opn.a2,SV.si .i64 p.opn.a3,SV.si .i64 p.opn.a4,SV.si .i64 p.opn.a5,SV.si .i64 p.cls.a0,SV.si .i64 p.cls.a1,SV.si .i64 p.cls.a2,SV.si .i64 p.cls.a3,SV.si .i64 p.cls.a4,SV.si .i64 p.cls.a5,SV.row z1 p.classes,SV.row SId.off p.offers] 27 20 false;True∧(z0=true→(SV.row z1 []).same z2)∧(z0=false→(0:Int)≤z3∧z3≤z3∧z3*(8:Int)≤(140737488355328:Int)∧z3≤(1000000000000:Int)∧(((z4.same z4∧(SV.ow 1 z3.toNat 1).same (SV.ow 1 (filI z5 0).length 1)∧(SV.si .i64 (↑z3.toNat:Int)).same z7∧(SV.il .i64 0).same (SV.si .i64 0)∧True)∧z8.same z8∧(SObj.row z1 (List.replicate z3.toNat (0:Int)) 3 true).same (SObj.row z1 (filI z5 0) 3 true)∧True)∧(0:Int)≤(0:Int)∧(0:Int)≤z6)∧∀(x:Int),let z9:=filI z5 x.toNat;let z10:=z9.length;let z11:=x+(1:Int);let z12:=SV.si .i64 z11;(0:Int)≤x∧x≤z6→(decide (x<z6)=true→z10=z9.length∧(0:Int)≤x∧x<(↑z9.length:Int)∧z10=z9.length∧x.toNat<z9.length∧inR .i64 z11∧((z4.same z4∧(SV.ow 1 z10 1).same (SV.ow 1 (filI z5 z11.toNat).length 1)∧z7.same z7∧z12.same z12∧True)∧z8.same z8∧(SObj.row z1 (z9.set x.toNat x) 3 true).same (SObj.row z1 (filI z5 z11.toNat) 3 true)∧True)∧((0:Int)≤z11∧z11≤z6)∧(z6 - z11).toNat<(z6 - x).toNat)∧(decide (x<z6)=false→((offL (z10,z9,p)∧List.Pairwise (fun x1 x2 ↦x1<x2) z9)∧z10≤40)∧z10=(srt (denI p) z9).length∧(SV.row z1 (srt (denI p) z9)).same z2))) (by kernel_rfl) ?_
 simp only[vcs]
 refine⟨fun h=>by rw[if_neg h],fun h=>?_⟩
 have hc:checkE p=0:=Classical.not_not.1 h
 rw[if_pos hc]
 have e0:((p.offers.length:Int)).toNat=p.offers.length:=by omega
 have how:∀{x y:Nat},x=y→(SV.ow 1 x 1).same (SV.ow 1 y 1):=by rintro _ _ rfl;rfl
 rw[e0,filI_zero]
 refine⟨by omega,by omega,by omega,by omega,⟨⟨⟨how (by simp),rfl⟩,rfl⟩,by omega,by omega⟩,?_⟩
 rintro i ⟨i0,i1⟩
 have hL:=@filI_len p.offers.length i.toNat (by omega)
 refine⟨fun hi=>?_,fun hi=>?_⟩
 ·have hs:=@filI_set p.offers.length i.toNat (by omega)
  rw[show((i.toNat:Nat):Int)=i by omega] at hs
  have hL2:=@filI_len p.offers.length (i.toNat+1) (by omega)
  rw[show(i+1).toNat=i.toNat+1 by omega,hs]
  exact⟨i0,by omega,by omega,by omega,⟨how (by omega),rfl⟩,by omega,by omega⟩
 ·rw[show i.toNat=p.offers.length by omega,filI_all]
  refine⟨⟨⟨⟨⟨hc,rfl⟩,by simp only[uptoI_len];omega,fun x hx=>by have:=uptoI_mem.1 hx;exact this⟩,uptoI_lt⟩,by simp only[uptoI_len];omega⟩,by rw[srt_len],rfl⟩
end Go.Vi
namespace Go.Proofs
open Go.Shelf
def Try.layS_ren:Ren:=
 ⟨fun
  |189=>48
  |125=>65
  |257=>64
  |128=>80
  |129=>81
  |294=>71
  |295=>72
  |296=>73
  |297=>74
  |298=>75
  |299=>76
  |216=>77
  |300=>78
  |301=>79
  |328=>83
  |329=>84
  |330=>85
  |331=>86
  |332=>87
  |215=>88
  |343=>89
  |n=>n,
 fun
  |28=>24
  |3=>3
  |46=>94
  |0=>0
  |51=>109
  |53=>111
  |4=>4
  |183=>101
  |182=>100
  |131=>106
  |5=>5
  |9=>9
  |218=>112
  |222=>116
  |228=>119
  |229=>83
  |n=>n,
 fun n=>n⟩
def Try.layC_ren:Ren:=
 ⟨fun
  |41=>36
  |n=>n,
 fun
  |22=>24
  |23=>3
  |4=>4
  |n=>n,
 fun n=>n⟩
def Try.layD_ren:Ren:=
 ⟨fun
  |45=>66
  |n=>n,
 fun
  |22=>24
  |23=>3
  |3=>3
  |4=>4
  |0=>0
  |n=>n,
 fun n=>n⟩
theorem Try.layS:Lays.n189 Try.prog Try.layS_ren:={mixed:=by kernel_rfl,f125:=Try.func65.trans (by kernel_rfl),f128:=Try.func80.trans (by kernel_rfl),f129:=Try.func81.trans (by kernel_rfl),f189:=Try.func48.trans (by kernel_rfl),f215:=Try.func88.trans (by kernel_rfl),f216:=Try.func77.trans (by kernel_rfl),f257:=Try.func64.trans (by kernel_rfl),f294:=Try.func71.trans (by kernel_rfl),f295:=Try.func72.trans (by kernel_rfl),f296:=Try.func73.trans (by kernel_rfl),f297:=Try.func74.trans (by kernel_rfl),f298:=Try.func75.trans (by kernel_rfl),f299:=Try.func76.trans (by kernel_rfl),f300:=Try.func78.trans (by kernel_rfl),f301:=Try.func79.trans (by kernel_rfl),f328:=Try.func83.trans (by kernel_rfl),f329:=Try.func84.trans (by kernel_rfl),f330:=Try.func85.trans (by kernel_rfl),f331:=Try.func86.trans (by kernel_rfl),f332:=Try.func87.trans (by kernel_rfl),f343:=Try.func89.trans (by kernel_rfl),t0:=Try.underlying0,a0:=Try.isAgg0,z0:=Try.sizeOf0,v0:=Try.zeroValue0,t3:=Try.underlying3,a3:=Try.isAgg3,z3:=Try.sizeOf3,v3:=Try.zeroValue3,t4:=Try.underlying4,a4:=Try.isAgg4,z4:=Try.sizeOf4,v4:=Try.zeroValue4,t5:=Try.underlying5,a5:=Try.isAgg5,z5:=Try.sizeOf5,v5:=Try.zeroValue5,t9:=Try.underlying9,a9:=Try.isAgg9,z9:=Try.sizeOf9,v9:=Try.zeroValue9,t28:=Try.underlying24,a28:=Try.isAgg24,z28:=Try.sizeOf24,v28:=Try.zeroValue24,t46:=Try.underlying94,a46:=Try.isAgg94,z46:=Try.sizeOf94,v46:=Try.zeroValue94,t51:=Try.underlying109,a51:=Try.isAgg109,z51:=Try.sizeOf109,v51:=Try.zeroValue109,t53:=Try.underlying111,a53:=Try.isAgg111,z53:=Try.sizeOf111,v53:=Try.zeroValue111,t131:=Try.underlying106,a131:=Try.isAgg106,z131:=Try.sizeOf106,v131:=Try.zeroValue106,t182:=Try.underlying100,a182:=Try.isAgg100,z182:=Try.sizeOf100,v182:=Try.zeroValue100,t183:=Try.underlying101,a183:=Try.isAgg101,z183:=Try.sizeOf101,v183:=Try.zeroValue101,t218:=Try.underlying112,a218:=Try.isAgg112,z218:=Try.sizeOf112,v218:=Try.zeroValue112,t222:=Try.underlying116,a222:=Try.isAgg116,z222:=Try.sizeOf116,v222:=Try.zeroValue116,t228:=Try.underlying119,a228:=Try.isAgg119,z228:=Try.sizeOf119,v228:=Try.zeroValue119,t229:=Try.underlying83,a229:=Try.isAgg83,z229:=Try.sizeOf83,v229:=Try.zeroValue83}
theorem Try.layC:SlLaysE0.n41 Try.prog Try.layC_ren:={mixed:=by kernel_rfl,f41:=⟨Try.f36.name,by decide,Try.func36.trans (by kernel_rfl)⟩,t4:=Try.underlying4,a4:=Try.isAgg4,z4:=Try.sizeOf4,v4:=Try.zeroValue4,t22:=Try.underlying24,a22:=Try.isAgg24,z22:=Try.sizeOf24,v22:=Try.zeroValue24}
theorem Try.layD:SlLaysE.n45 Try.prog Try.layD_ren:={mixed:=by kernel_rfl,f45:=⟨Try.f66.name,by decide,Try.func66.trans (by kernel_rfl)⟩,t0:=Try.underlying0,a0:=Try.isAgg0,z0:=Try.sizeOf0,v0:=Try.zeroValue0,t3:=Try.underlying3,a3:=Try.isAgg3,z3:=Try.sizeOf3,v3:=Try.zeroValue3,t4:=Try.underlying4,a4:=Try.isAgg4,z4:=Try.sizeOf4,v4:=Try.zeroValue4,t22:=Try.underlying24,a22:=Try.isAgg24,z22:=Try.sizeOf24,v22:=Try.zeroValue24,a23:=Try.isAgg3,z23:=Try.sizeOf3}
end Go.Proofs
namespace Go.Proofs
open Go.Shelf Go.RowKit Go.Lib
theorem cloneW {P:Program} {ρ:Ren} (L:SlLaysE0.n41 P ρ) (i0:TypeInfo) (z:Value) (size bytes:Nat) (hi:P.info? (ρ.t 23)=some i0) (hz0:i0.zero=some z) (hz1:i0.size=size) (hz2:i0.bytes=bytes) (hzs:z.cells.size=size) (hsz:0<size)
  (z23:∀w,(Go.sizeOf (ρ.t 23)).run P w= .ok size w) (p:Addr) (n c:Nat) (news:List Value) (w:World) (hl:news.length=n*size) (hn:n≤maxLen) (hbig:n*bytes≤140737488355328)
  (hc:∀j u,news[j]?=some u→w.cell? (p.add j)=some u) (h1:∀u∈news,u.oneCell'=true):
  Calls P (ρ.f 41) #[.slice (some p) n c] w fun e w'=>∃v',e= .returned v'∧w'.ownsRow w.heap.size (ρ.t 23) size v' n news∧v'≠ .slice none 0 0∧Below w.heap.size w w':=by
 have mixed:=L.mixed;have t4:=L.t4;have a4:=L.a4;have z4:=L.z4;have v4:=L.v4;have t22:=L.t22;have a22:=L.a22;have z22:=L.z22;have v22:=L.v22
 have q22:∀(w:World) (a:Option Addr) (n c n' c':Nat),(binOp .eql (ρ.t 22) (.slice a n c) (.slice none n' c')).run P w= .ok (.bool a.isNone) w:=fun w a n c n' c'=>Lib.run_eql_slice_nil w _ _ a n c n' c' L.t22
 have u22:∀w,Sem.run P (underlying (ρ.t 22)) w= .ok (TypeDesc.slice (ρ.t 23)) w:=run_underlying t22
 have A:Aside (∀j u,news[j]?=some u→w.cell? (p.add j)=some u):=hc
 clear hc
 obtain⟨_,_,FG⟩:=L.f41
 go_enter FG,SlBodyN.n41_ntmps ρ
 go_wp2_with (at_builtin;refine wpList_append_own _ rfl _ _ (ρ.t 22) rfl w.heap.size (ρ.t 23) i0 z size bytes t22 hi hz0 hz1 hz2 hzs hsz _ _ _ rfl (World.ownsRow_made w #[] 0 (Nat.le_refl _) (Nat.zero_le _) (by simp)) p n c news rfl ?qc1 ?qc2 ?qc3 ?qc4 ?qc5 ?qc6 ?_)
 case qc1=>exact hl
 case qc2=>
  intro j u hj
  exact Lib.cell?_alloc_some _ (A.out j u hj)
 case qc3=>exact h1
 case qc4=>rw[Nat.zero_add];exact hn
 case qc5=>rw[Nat.zero_add];exact hbig
 case qc6=>simp
 intro v' w1 hown hgrow hnil
 go_wp2
 go_ret
 refine⟨v',rfl,by simpa using hown,?_,?_⟩
 ·exact hnil
 ·exact((Below.refl _ w).alloc (Nat.le_refl _) _).grown hgrow (by simp) (by intro k hk;simp[Value.ownBlock] at hk;omega)
end Go.Proofs
namespace Go.Vi
open Go.Proofs.Ytojbjnpkdlfijaa.Ir
open Go.Proofs
theorem flatI (l:List Int):flatA (.i .i64) l=l.map fun x=>AV.sc (.int .i64 x):=by
 unfold flatA
 induction l with
 |nil=>rfl
 |cons x l ih=>rw[List.flatMap_cons,ih];rfl
theorem ownRowI {A:Clr} {w:World} {σ:Sig} {l:List Int} {e:TypeId} (hS:SimO A w σ [.cells (l.map fun x=>AV.sc (.int .i64 x)) e 1 true]) (hl:1≤l.length):
  ∃b cap arr,σ=[some (b,cap)]∧cap≤maxLen∧w.heap[b]?=some (.cells arr e (0,0))∧arr.size=cap∧l.length≤cap∧arr.toList.take l.length=l.map (Value.int .i64):=by
 have ho:=hS.obj 0 _ rfl
 simp only[ObjOK] at ho
 obtain⟨_,_,h|⟨b,cap,arr,h1,h2,h3,h4,h5,h6⟩⟩:=ho
 ·rw[List.map_eq_nil_iff] at h
  rw[h.2] at hl
  simp at hl
 ·have hs:=hS.len
  simp at hs
  have h5':l.length≤arr.size:=by simpa using h5
  refine⟨b,cap,arr,?_,h2,h3,by omega,by omega,?_⟩
  ·match σ,hs,h1 with
   |[x],_,h1=>simp at h1;rw[h1]
  ·apply List.ext_getElem?
   intro j
   by_cases hj:j<l.length
   ·obtain⟨v,hv,hr⟩:=h6 j (.sc (.int .i64 l[j])) (by simp[hj])
    simp only[Rep] at hr
    rw[List.getElem?_take_of_lt hj,Array.getElem?_toList,hv,hr.1]
    simp[hj]
   ·rw[List.getElem?_take_eq_none (by omega),List.getElem?_eq_none (by simp;omega)]
def sortI (l:List Int):List Int:=l.mergeSort fun x y=>decide (x≤y)
theorem sortI_len {l:List Int}:(sortI l).length=l.length:=(List.mergeSort_perm _ _).length_eq
def r337:OCtr where
 f:=48
 α:=Nat×List Int
 put a:=[.ow 0 a.1 1]
 st a:=[.row (.i .i64) a.2 3 true]
 dec v o:=match v,o with
  |[.ow 0 n 1],[.row t l 3 true]=>match castL t (.i .i64) l with
   |some l=>some (n,l)
   |_=>none
  |_,_=>none
 ok v o a h:=by
  split at h
  ·split at h
   ·rename_i h4
    simp only[Option.some.injEq] at h;subst h
    obtain⟨rfl,hh⟩:=castL_eq h4
    cases hh
    exact⟨rfl,rfl⟩
   ·cases h
  ·cases h
 inj a b e1 e2:=by
  obtain⟨n,l⟩:=a
  obtain⟨n',l'⟩:=b
  simp only[gL,List.cons.injEq,SV.g,AV.os.injEq,true_and] at e1
  simp only[gO,List.map_cons,List.map_nil,SObj.g,List.cons.injEq,AObj.cells.injEq,and_true,true_and] at e2
  have h4:l=l':=by
   have hf:=congrArg List.length e2
   rw[flatA_len,flatA_len] at hf
   exact flatA_inj (.i .i64) (by simpa[SId.sz] using hf) e2
  rw[e1.1.1,h4]
 dom a:=a.1=a.2.length∧1≤a.2.length∧a.2.length≤1000000
 res _:=.tup []
 out a:=[.row (.i .i64) (sortI a.2) 3 true]
theorem h337:HoldsO Try.prog r337:=by
 rintro⟨n,l⟩ ⟨hn,h1,h2⟩
 simp only at hn h1 h2
 subst hn
 refine⟨by kernel_rfl,?_⟩
 intro A w σ vs hS hR
 have e0:∀m:List Int,gO [SObj.row (.i .i64) m 3 true]=[AObj.cells (m.map fun x=>AV.sc (.int .i64 x)) 3 1 true]:=fun m=>by
  simp only[gO,List.map_cons,List.map_nil,SObj.g,flatI]
  rfl
 have e1:gL (r337.put (l.length,l))=[.os 0 0 l.length (l.length*1)]:=rfl
 show Calls _ _ _ _ fun e w'=>∃u σ',e= .returned u∧SimO A w' σ' (gO [SObj.row (.i .i64) (sortI l) 3 true])∧Rep A w' σ' (gO [SObj.row (.i .i64) (sortI l) 3 true]) (.tup []) u∧Ext w σ (gO [SObj.row (.i .i64) l 3 true]) w' σ' (gO [SObj.row (.i .i64) (sortI l) 3 true])
 replace hS:SimO A w σ (gO [SObj.row (.i .i64) l 3 true]):=hS
 replace hR:RepL A w σ (gO [SObj.row (.i .i64) l 3 true]) (gL (r337.put (l.length,l))) vs:=hR
 rw[e0] at hS hR
 rw[e0,e0]
 rw[e1] at hR
 obtain⟨b,cap,arr,rfl,q2,q3,q4,q5,q6⟩:=ownRowI hS h1
 simp only[RepL] at hR
 obtain⟨v,r,rfl,hv,rfl⟩:=hR
 simp only[Rep] at hv
 obtain⟨hle,a,cp,rfl,hcp,hos⟩:=hv
 have ho:=hos 1 ⟨_,_,_,rfl,by simp⟩
 simp only[OsOk,List.getElem?_cons_zero] at ho
 obtain⟨rfl,rfl⟩:=ho.2.1 trivial trivial (by omega)
 have hb:b<w.heap.size:=hS.bnd 0 b cp rfl
 have hH:=holds_of_blockI (ss:=l) q3 q6
 have hc:Calls Try.prog (r337).f #[.slice (some ⟨b,0,none⟩) l.length cp] w fun e w'=>e= .returned (.tuple #[])∧∃n os,w'=Sort.grow (Sort.putRow (Value.int .i64) (Sort.ahead w n) b 0 (sortI l).toArray) os:=
  calls_of_every_depth fun D=>AnyS.slices_Sort_int_in Try.layS D b 0 cp l w hH hb (by omega)
 refine Calls.mono hc ?_
 rintro e w' ⟨rfl,n,os,rfl⟩
 have hg:=grownBy_sortedI (w:=w) (g:=b) (n:=n) (os:=os) (sortI l).toArray
 have hh:=heap_sortedI (w:=w) (n:=n) (os:=os) (sortI l).toArray q3
 have ht:=take_putCellsI arr (sortI l) (by rw[sortI_len];omega)
 have hz:(Sort.putCells (Value.int .i64) 0 (sortI l).toArray arr).size=arr.size:=by simp[Sort.putCells]
 generalize Sort.grow (Sort.putRow (Value.int .i64) (Sort.ahead w n) b 0 (sortI l).toArray) os=w' at*
 generalize Sort.putCells (Value.int .i64) 0 (sortI l).toArray arr=arr' at*
 have hU:=hS.upd (w':=w') (id:=0) (x':=.cells ((sortI l).map fun x=>AV.sc (.int .i64 x)) 3 1 true) (s':=some (b,cp)) rfl hg.size hg.os hg.tape hg.output
  (fun k hk hn=>hg.block k hk fun e=>by injection e with e;subst e;exact hn cp rfl) (fun b' c' e=>by injection e with e;injection e with e1 e2;subst e1;exact .inl ⟨cp,rfl⟩)
  ⟨_,_,_,rfl,by simp[sortI_len],fun _=>rfl⟩ ?_
 ·refine⟨_,[some (b,cp)],rfl,hU.1,?_,hU.2⟩
  simp only[Rep]
  exact⟨#[],rfl,by simp[RepL]⟩
 ·intro hx
  simp only[ObjOK]
  refine⟨fun _=>by rw[←flatI];exact flatA_pure _ _,by rw[←flatI];exact flatA_one _ _,.inr ⟨b,cp,arr',rfl,q2,hh,by omega,by simp[sortI_len];omega,?_⟩⟩
  intro j c hj
  rw[List.getElem?_map] at hj
  obtain⟨x,hx1,rfl⟩:=Option.map_eq_some_iff.1 hj
  have hjl:=(List.getElem?_eq_some_iff.1 hx1).1
  refine⟨.int .i64 x,?_,by simp[Rep,Value.oneCell']⟩
  have h9:(arr'.toList.take (sortI l).length)[j]?=((sortI l).map (Value.int .i64))[j]?:=by rw[ht]
  rw[List.getElem?_take_of_lt hjl,Array.getElem?_toList,List.getElem?_map,hx1] at h9
  exact h9
theorem cloneC {A:Clr} {w:World} {l:List Int} {vs:List Value} {fid:FuncId} (hfid:fid=Try.layC_ren.f 41) (hS:SimO A w [] []) (hl:l.length≤1000000) (hR:RepL A w [] [] [.sl l.length (l.map fun x=>AV.sc (.int .i64 x))] vs):
  Calls Try.prog fid vs.toArray w fun e w'=>RowKit.Below w.heap.size w w'∧((e= .returned (.slice none 0 0)∧l=[])∨∃g cap cur,e= .returned (.slice (some ⟨g,0,none⟩) l.length cap)∧w.heap.size≤g∧w'.heap[g]?=some (.cells cur 3 (0,0))∧l.length≤cap∧cap≤maxLen∧cur.size=cap∧cur.toList.take l.length=l.map (Value.int .i64)):=by
 subst hfid
 simp only[RepL] at hR
 obtain⟨v,r,rfl,hv,rfl⟩:=hR
 simp only[Rep] at hv
 obtain⟨a,cap,rfl,hcap,_,hM⟩:=hv
 cases a with
 |none=>
  have hnil:l=[]:=by
   cases l with
   |nil=>rfl
   |cons x l=>
    simp only[List.map_cons,RepM] at hM
    obtain⟨⟨b,_,e,_⟩,_⟩:=hM
    cases e
  refine Calls.mono (AnyE.slices_Clone_nil Try.layC l.length cap w) ?_
  rintro e w' ⟨rfl,rfl⟩
  exact⟨RowKit.Below.refl _ _,.inl ⟨rfl,hnil⟩⟩
 |some p=>
  have hc:∀j u,(l.map (Value.int .i64))[j]?=some u→w.cell? (p.add j)=some u:=by
   intro j u hj
   rw[List.getElem?_map] at hj
   obtain⟨x,hx,rfl⟩:=Option.map_eq_some_iff.1 hj
   obtain⟨b,v,e,_,hcell,hrep⟩:=RepM.get _ _ _ hM j (.sc (.int .i64 x)) (by simp[hx])
   injection e with e
   subst e
   simp only[Rep] at hrep
   rw[Nat.zero_add,hrep.1] at hcell
   exact hcell
  refine Calls.mono (cloneW Try.layC Try.t3 (.int .i64 0) 1 8 (by kernel_rfl) (by kernel_rfl) (by kernel_rfl) (by kernel_rfl) (by kernel_rfl) (by omega) Try.sizeOf3 p l.length cap (l.map (Value.int .i64)) w (by simp) (by have:maxLen=9223372036854775807:=rfl;omega) (by omega) hc (by simp[Value.oneCell'])) ?_
  rintro e w' ⟨v',rfl,hown,hne,hbel⟩
  refine⟨hbel,.inr ?_⟩
  obtain⟨_,h|⟨g,cap',cur,rfl,h1,h2,h3,h4,h5,h6⟩⟩:=hown
  ·exact absurd h.1 hne
  ·exact⟨g,cap',cur,rfl,h1,h2,h3,h4,by omega,by simpa using h6⟩
def r330:SCtr:=⟨36,List Int,.one (codR (.i .i64)),fun l=>l.length≤1000000,fun l=> .row (.i .i64) l⟩
theorem h330:Holds Try.prog r330:=by
 intro(l:List Int) (hl:l.length≤1000000)
 refine⟨by kernel_rfl,?_⟩
 intro A w σ vs hS hR
 have hσ:σ=[]:=by have:=hS.len;simpa using this
 subst hσ
 have e1:gL (r330.A.put l)=[.sl l.length (l.map fun x=>AV.sc (.int .i64 x))]:=by rw[←flatI];rfl
 have e2:(r330.res l).g= .sl l.length (l.map fun x=>AV.sc (.int .i64 x)):=by rw[←flatI];rfl
 rw[e1] at hR
 rw[e2]
 refine Calls.mono (cloneC (by rfl) hS hl hR) ?_
 rintro e w' ⟨hb,h⟩
 have hS':SimO A w' [] []:=⟨rfl,by simp,by simp,by simp,by simp,fun b h=>Nat.lt_of_lt_of_le (hS.avb b h) hb.size⟩
 have hE:Ext w [] [] w' [] []:=⟨hb.size,fun b h _=>⟨hb.block b h,fun⟨i,c,hi⟩=>by simp at hi⟩,Nat.le_refl _,fun _ _ ⟨_,_,_,_,h,_⟩=>by simp at h,fun _ ⟨_,_,_,h⟩=>by simp at h,hb.os,hb.tape,hb.output⟩
 rcases h with⟨rfl,rfl⟩|⟨g,cap,cur,rfl,h1,h2,h3,h4,h5,h6⟩
 ·exact⟨_,[],rfl,hS',by simp only[Rep];exact⟨none,0,rfl,by simp,by rw[←flatI];exact flatA_pure _ _,by simp[RepM]⟩,hE⟩
 ·refine⟨_,[],rfl,hS',?_,hE⟩
  simp only[Rep]
  refine⟨_,_,rfl,h3,by rw[←flatI];exact flatA_pure _ _,RepM.of_get _ _ _ fun i c hi=>?_⟩
  rw[List.getElem?_map] at hi
  obtain⟨x,hx,rfl⟩:=Option.map_eq_some_iff.1 hi
  have hil:=(List.getElem?_eq_some_iff.1 hx).1
  have h9:(cur.toList.take l.length)[i]?=(l.map (Value.int .i64))[i]?:=by rw[h6]
  rw[List.getElem?_take_of_lt hil,Array.getElem?_toList,List.getElem?_map,hx] at h9
  refine⟨⟨g,0,none⟩,.int .i64 x,rfl,⟨fun⟨i,c,hi⟩=>by simp at hi,fun hA=>by have:=hS.avb g hA;omega⟩,?_,by simp[Rep,Value.oneCell']⟩
  rw[Addr.add_lit]
  simp only[World.cell?,h2,Nat.zero_add,Option.isSome_none,Bool.false_eq_true,if_false]
  exact h9
def r330o:OCtr where
 f:=36
 α:=List Int
 put a:=[.row (.i .i64) a]
 st a:=[]
 dec v o:=match v,o with
  |[.row t l],[]=>castL t (.i .i64) l
  |_,_=>none
 ok v o a h:=by
  split at h
  ·obtain⟨rfl,hh⟩:=castL_eq h
   cases hh
   exact⟨rfl,rfl⟩
  ·cases h
 inj a b e1 e2:=by
  simp only[gL,List.cons.injEq,SV.g,AV.sl.injEq,and_true] at e1
  exact flatA_inj (.i .i64) (by simpa using e1.1) e1.2
 dom a:=a.length≤1000000
 res a:=.ow 0 a.length 1
 out a:=[.row (.i .i64) a 3 true]
theorem h330o:HoldsO Try.prog r330o:=by
 intro(l:List Int) (hl:l.length≤1000000)
 refine⟨by kernel_rfl,?_⟩
 intro A w σ vs hS hR
 replace hS:SimO A w σ []:=hS
 replace hR:RepL A w σ [] (gL (r330o.put l)) vs:=hR
 have hσ:σ=[]:=by have:=hS.len;simpa using this
 subst hσ
 have e1:gL (r330o.put l)=[.sl l.length (l.map fun x=>AV.sc (.int .i64 x))]:=by rw[←flatI];rfl
 have e2:(r330o.res l).g= .os 0 0 l.length (l.length*1):=rfl
 have e3:gO (r330o.out l)=[AObj.cells (l.map fun x=>AV.sc (.int .i64 x)) 3 1 true]:=by rw[←flatI];rfl
 rw[e1] at hR
 rw[e2,e3]
 show Calls _ _ _ _ fun e w'=>∃u σ',e= .returned u∧SimO A w' σ' [AObj.cells (l.map fun x=>AV.sc (.int .i64 x)) 3 1 true]∧Rep A w' σ' [AObj.cells (l.map fun x=>AV.sc (.int .i64 x)) 3 1 true] (.os 0 0 l.length (l.length*1)) u∧Ext w [] [] w' σ' [AObj.cells (l.map fun x=>AV.sc (.int .i64 x)) 3 1 true]
 refine Calls.mono (cloneC (by rfl) hS hl hR) ?_
 rintro e w' ⟨hb,h⟩
 have hle:LenLe [AObj.cells (l.map fun x=>AV.sc (.int .i64 x)) 3 1 true] 0 (l.length*1):=⟨_,_,_,_,rfl,by simp⟩
 rcases h with⟨rfl,rfl⟩|⟨g,cap,cur,rfl,h1,h2,h3,h4,h5,h6⟩
 ·refine⟨_,[none],rfl,⟨rfl,?_,?_,?_,?_,fun b h=>Nat.lt_of_lt_of_le (hS.avb b h) hb.size⟩,?_,hb.size,fun b h _=>⟨hb.block b h,?_⟩,Nat.zero_le _,fun _ _ ⟨_,_,_,_,h,_⟩=>by simp at h,fun _ ⟨_,_,_,h⟩=>by simp at h,hb.os,hb.tape,hb.output⟩
  ·intro i j b c d hi;cases i<;>simp at hi
  ·intro i b c hi;cases i<;>simp at hi
  ·intro i x hi
   cases i with
   |zero=>
    simp at hi;subst hi
    simp only[ObjOK]
    exact⟨fun _=>rfl,rfl,.inl (by simp)⟩
   |succ i=>simp at hi
  ·intro i b c hi;cases i<;>simp at hi
  ·simp only[Rep]
   exact⟨hle,none,0,rfl,by simp,fun sz _=>by simp[OsOk]⟩
  ·rintro⟨i,c,hi⟩;cases i<;>simp at hi
 ·have hg:g<w'.heap.size:=(Array.getElem?_eq_some_iff.1 h2).1
  refine⟨_,[some (g,cap)],rfl,⟨rfl,?_,?_,?_,?_,fun b h=>Nat.lt_of_lt_of_le (hS.avb b h) hb.size⟩,?_,hb.size,fun b h _=>⟨hb.block b h,?_⟩,Nat.zero_le _,fun _ _ ⟨_,_,_,_,h,_⟩=>by simp at h,fun _ ⟨_,_,_,h⟩=>by simp at h,hb.os,hb.tape,hb.output⟩
  ·intro i j b c d hi hj
   cases i with
   |zero=>cases j with
    |zero=>rfl
    |succ j=>simp at hj
   |succ i=>simp at hi
  ·intro i b c hi
   cases i with
   |zero=>simp at hi;omega
   |succ i=>simp at hi
  ·intro i x hi
   cases i with
   |zero=>
    simp at hi;subst hi
    simp only[ObjOK]
    refine⟨fun _=>by rw[←flatI];exact flatA_pure _ _,by rw[←flatI];exact flatA_one _ _,.inr ⟨g,cap,cur,rfl,h4,h2,by omega,by simp;omega,?_⟩⟩
    intro j c hj
    rw[List.getElem?_map] at hj
    obtain⟨x,hx1,rfl⟩:=Option.map_eq_some_iff.1 hj
    have hjl:=(List.getElem?_eq_some_iff.1 hx1).1
    refine⟨.int .i64 x,?_,by simp[Rep,Value.oneCell']⟩
    have h9:(cur.toList.take l.length)[j]?=(l.map (Value.int .i64))[j]?:=by rw[h6]
    rw[List.getElem?_take_of_lt hjl,Array.getElem?_toList,List.getElem?_map,hx1] at h9
    exact h9
   |succ i=>simp at hi
  ·intro i b c hi
   cases i with
   |zero=>
    simp at hi
    intro hA
    have:=hS.avb b hA
    omega
   |succ i=>simp at hi
  ·simp only[Rep]
   refine⟨hle,_,_,rfl,h3,fun sz hc=>?_⟩
   obtain⟨_,_,_,hc,_⟩:=hc
   simp at hc
   obtain⟨_,_,rfl,_⟩:=hc
   simp only[OsOk,List.getElem?_cons_zero]
   exact⟨fun _=>by rw[offR_le (Nat.zero_le _)],fun _ _ _=>by simp,.inl ⟨by omega,by omega⟩⟩
  ·rintro⟨i,c,hi⟩
   cases i with
   |zero=>simp at hi;omega
   |succ i=>simp at hi
def cutI (l:List Int) (i j:Nat):List Int:=l.take i++l.drop j++List.replicate (j - i) 0
theorem cutI_len {l:List Int} {i j:Nat} (h1:i≤j) (h2:j≤l.length):(cutI l i j).length=l.length:=by
 unfold cutI
 rw[List.length_append,List.length_append,List.length_take,List.length_drop,List.length_replicate]
 omega
def r347:OCtr where
 f:=66
 α:=(Nat×List Int)×Int×Int
 put a:=[.ow 0 a.1.1 1,.si .i64 a.2.1,.si .i64 a.2.2]
 st a:=[.row (.i .i64) a.1.2 3 true]
 dec v o:=match v,o with
  |[.ow 0 n 1,x,y],[.row t l 3 true]=>match castL t (.i .i64) l,x.int .i64,y.int .i64 with
   |some l,some i,some j=>some ((n,l),i,j)
   |_,_,_=>none
  |_,_=>none
 ok v o a h:=by
  split at h
  ·split at h
   ·rename_i h4 h5 h6
    simp only[Option.some.injEq] at h;subst h
    obtain⟨rfl,hh⟩:=castL_eq h4
    cases hh
    refine⟨?_,rfl⟩
    simp only[gL,int_g h5,int_g h6]
    rfl
   ·cases h
  ·cases h
 inj a b e1 e2:=by
  obtain⟨⟨n,l⟩,i,j⟩:=a
  obtain⟨⟨n',l'⟩,i',j'⟩:=b
  simp only[gL,List.cons.injEq,SV.g,AV.os.injEq,true_and,and_true,AV.sc.injEq,Value.int.injEq] at e1
  simp only[gO,List.map_cons,List.map_nil,SObj.g,List.cons.injEq,AObj.cells.injEq,and_true,true_and] at e2
  have h4:l=l':=by
   have hf:=congrArg List.length e2
   rw[flatA_len,flatA_len] at hf
   exact flatA_inj (.i .i64) (by simpa[SId.sz] using hf) e2
  rw[e1.1.1,h4,e1.2.1,e1.2.2]
 dom a:=(a.1.1=a.1.2.length∧1≤a.1.2.length∧a.1.2.length≤1000000)∧0≤a.2.1∧a.2.1≤a.2.2∧a.2.2≤a.1.2.length
 res a:=.os 0 0 (a.1.2.length - (a.2.2 - a.2.1).toNat) a.1.1 1
 out a:=[.row (.i .i64) (cutI a.1.2 a.2.1.toNat a.2.2.toNat) 3 true]
theorem h347:HoldsO Try.prog r347:=by
 rintro⟨⟨n,l⟩,i,j⟩ ⟨⟨hn,h1,h2⟩,i0,ij,jl⟩
 simp only at hn h1 h2 i0 ij jl
 subst hn
 obtain⟨i,rfl⟩:∃k:Nat,i=k:=⟨i.toNat,by omega⟩
 obtain⟨j,rfl⟩:∃k:Nat,j=k:=⟨j.toNat,by omega⟩
 refine⟨by kernel_rfl,?_⟩
 intro A w σ vs hS hR
 have e0:∀m:List Int,gO [SObj.row (.i .i64) m 3 true]=[AObj.cells (m.map fun x=>AV.sc (.int .i64 x)) 3 1 true]:=fun m=>by
  simp only[gO,List.map_cons,List.map_nil,SObj.g,flatI]
  rfl
 have e1:gL (r347.put ((l.length,l),(i:Int),(j:Int)))=[.os 0 0 l.length (l.length*1),.sc (.int .i64 i),.sc (.int .i64 j)]:=rfl
 have e2:(r347.res ((l.length,l),(i:Int),(j:Int))).g= .os 0 0 (l.length - (j - i)) (l.length*1):=by
  show AV.os 0 (0*1) (l.length - ((j:Int) - (i:Int)).toNat) (l.length*1)=_
  rw[Nat.zero_mul,show((j:Int) - (i:Int)).toNat=j - i by omega]
 show Calls _ _ _ _ fun e w'=>∃u σ',e= .returned u∧SimO A w' σ' (gO [SObj.row (.i .i64) (cutI l i j) 3 true])∧Rep A w' σ' (gO [SObj.row (.i .i64) (cutI l i j) 3 true]) (r347.res ((l.length,l),(i:Int),(j:Int))).g u∧Ext w σ (gO [SObj.row (.i .i64) l 3 true]) w' σ' (gO [SObj.row (.i .i64) (cutI l i j) 3 true])
 replace hS:SimO A w σ (gO [SObj.row (.i .i64) l 3 true]):=hS
 replace hR:RepL A w σ (gO [SObj.row (.i .i64) l 3 true]) (gL (r347.put ((l.length,l),(i:Int),(j:Int)))) vs:=hR
 rw[e0] at hS hR
 rw[e0,e0,e2]
 rw[e1] at hR
 obtain⟨b,cap,arr,rfl,q2,q3,q4,q5,q6⟩:=ownRowI hS h1
 simp only[RepL] at hR
 obtain⟨v,r,rfl,hv,v2,r2,rfl,hv2,v3,r3,rfl,hv3,rfl⟩:=hR
 simp only[Rep] at hv hv2 hv3
 obtain⟨hle,a,cp,rfl,hcp,hos⟩:=hv
 obtain⟨rfl,_⟩:=hv2
 obtain⟨rfl,_⟩:=hv3
 have ho:=hos 1 ⟨_,_,_,rfl,by simp⟩
 simp only[OsOk,List.getElem?_cons_zero] at ho
 obtain⟨rfl,rfl⟩:=ho.2.1 trivial trivial (by omega)
 have hb:b<w.heap.size:=hS.bnd 0 b cp rfl
 have hH:=holds_of_blockI (ss:=l) q3 q6
 have hmx:maxLen=9223372036854775807:=rfl
 have hdl:=@cutI_len l i j (by omega) (by omega)
 have hc:Calls Try.prog (r347).f #[.slice (some ⟨b,0,none⟩) l.length cp,.int .i64 i,.int .i64 j] w fun e w'=>e= .returned (.slice (some ⟨b,0,none⟩) (l.length - (j - i)) cp)∧∃q,w'=Sort.putRow (Value.int .i64) (Sort.ahead w q) b 0 (cutI l i j).toArray:=by
  exact AnyE.slices_Delete Try.layD (Value.int .i64) (fun _=>rfl) 0 Try.zeroValue3 Try.t3 (by kernel_rfl) (by kernel_rfl) b 0 cp i j l.toArray w hH (by simpa using q5) (by omega) (by omega) (by simp;omega)
 refine Calls.mono hc ?_
 rintro e w' ⟨rfl,q,rfl⟩
 have hg:=grownBy_sortedI (w:=w) (g:=b) (n:=q) (os:=#[]) (cutI l i j).toArray
 have hh:=heap_sortedI (w:=w) (n:=q) (os:=#[]) (cutI l i j).toArray q3
 rw[Sort.grow_empty] at hg hh
 have ht:=take_putCellsI arr (cutI l i j) (by omega)
 have hz:(Sort.putCells (Value.int .i64) 0 (cutI l i j).toArray arr).size=arr.size:=by simp[Sort.putCells]
 generalize Sort.putRow (Value.int .i64) (Sort.ahead w q) b 0 (cutI l i j).toArray=w' at*
 generalize Sort.putCells (Value.int .i64) 0 (cutI l i j).toArray arr=arr' at*
 have hU:=hS.upd (w':=w') (id:=0) (x':=.cells ((cutI l i j).map fun x=>AV.sc (.int .i64 x)) 3 1 true) (s':=some (b,cp)) rfl hg.size hg.os hg.tape hg.output
  (fun k hk hn=>hg.block k hk fun e=>by injection e with e;subst e;exact hn cp rfl) (fun b' c' e=>by injection e with e;injection e with e1 e2;subst e1;exact .inl ⟨cp,rfl⟩)
  ⟨_,_,_,rfl,by simp[hdl],fun _=>rfl⟩ ?_
 ·refine⟨_,[some (b,cp)],rfl,hU.1,?_,hU.2⟩
  simp only[Rep]
  refine⟨⟨_,_,_,_,rfl,by simp[hdl]⟩,_,_,rfl,by omega,fun sz hc=>?_⟩
  obtain⟨_,_,_,hc,_⟩:=hc
  simp at hc
  obtain⟨_,_,rfl,_⟩:=hc
  simp only[OsOk,List.getElem?_cons_zero]
  exact⟨fun _=>by rw[offR_le (Nat.zero_le _)],fun _ _ _=>by simp,.inl ⟨by omega,by omega⟩⟩
 ·intro hx
  simp only[ObjOK]
  refine⟨fun _=>by rw[←flatI];exact flatA_pure _ _,by rw[←flatI];exact flatA_one _ _,.inr ⟨b,cp,arr',rfl,q2,hh,by omega,by simp[hdl];omega,?_⟩⟩
  intro k c hj
  rw[List.getElem?_map] at hj
  obtain⟨x,hx1,rfl⟩:=Option.map_eq_some_iff.1 hj
  have hjl:=(List.getElem?_eq_some_iff.1 hx1).1
  refine⟨.int .i64 x,?_,by simp[Rep,Value.oneCell']⟩
  have h9:(arr'.toList.take (cutI l i j).length)[k]?=((cutI l i j).map (Value.int .i64))[k]?:=by rw[ht]
  rw[List.getElem?_take_of_lt hjl,Array.getElem?_toList,List.getElem?_map,hx1] at h9
  exact h9
end Go.Vi
