/-
  Contracts of the library's functions on rows of integers: sorting a row, a copy of a row, taking elements out.
  Conditions: none.
-/
import Derived.Shelf.Sort.AssemblyIn
import Derived.Shelf.SlicesE.Clone
import Derived.Shelf.SlicesE.Delete
import Derived.Test.YtlphnffeeefcdaaGreatWD09
import Derived.Sort.EveryDepth
import Derived.Sort.OwnSortedInts
import Derived.WalkKit
import Derived.Deep.LoopGhost
import Derived.Lib.Walk
import Derived.Lib.SliceRun
import Derived.Shelf.RegionOpenPlain
import Derived.Test.YtlphnffeeefcdaaGreatWD06
import Derived.Test.YtlphnffeeefcdaaGreatWD07
import Derived.Test.YtlphnffeeefcdaaGreatWD08
set_option maxRecDepth 100000
set_option maxHeartbeats 4000000
set_option linter.all false
open Bool renaming and_eq_true->ζ
open Classical renaming not_not->Ξ
open Go.Vi.AV renaming sc->δd
open Go.Vi.AV.os renaming injEq->εF
open Go.Vi.AV.sc renaming injEq->γ9
open Go.Vi.AV.sl renaming injEq->δ4
open Go.Vi.SV renaming si->γe,il->γx,row->Θ,ow->γS,ptr->γP,agg->γQ,bl->δa,sb->γw
open Int renaming toNat_natCast->Ψ
open IntCast renaming intCast->ι
open List renaming mergeSort_perm->εt,map_cons->ξ,map_nil->γs,length->γf,getElem?_cons_zero->γ2,getElem?_map->δe,getElem?_eq_some_iff->θ,replicate->δ,length_take->γq,map_append->γb,range->ψ,range_succ->εe,take->ω,take_length->π,all_eq_true->κ,mem_range->γm,length_append->γg,take_of_length_le->γn,getElem_of_mem->γF,mem_map->γa,mem_of_mem_take->γd,mem_append->γh,nodup_append->γu,map_map->δg,map_congr_left->γV,pairwise_cons->γA,exists_of_findSome?_eq_some->δV,length_replicate->γk
open List.Pairwise renaming nil->δv
open List.cons renaming injEq->Δ
open Nat renaming le_refl->φ,zero_le->εE,lt_of_lt_of_le->γo,mul_le_mul->ε6
open Option renaming map_eq_some_iff->ε,isNone_iff_eq_none->γJ
open Option.some renaming injEq->γ
open Rat renaming mul_nonneg->δw
namespace Go.Proofs
open Go.Shelf Go.RowKit Go.Lib
theorem abU {P:Program} {ρ:Ren} (L:SlLaysE0.n41 P ρ) (i0:TypeInfo) (z:Value) (b g:Nat) (I:P.info? (ρ.t 23)=some i0) (x:i0.zero=some z) (y:i0.size=b) (q:i0.bytes=g) (m:z.cells.size=b) (o:0<b)
  (Q:∀w,(Go.sizeOf (ρ.t 23)).run P w= .ok b w) (p:Addr) (n c:Nat) (d:List Value) (w:World) (K:d.length=n*b) (U:n<=maxLen) (B:n*g<=140737488355328)
  (C:∀j u,d[j]?=some u->w.cell? (p.add j)=some u) (E:∀u∈d,u.oneCell'=true):
  Calls P (ρ.f 41) #[.slice (some p) n c] w λe w'=>∃l,e= .returned l/\w'.ownsRow w.heap.size (ρ.t 23) b l n d/\l≠ .slice none 0 0/\Below w.heap.size w w':=by
 have v:=L.mixed;have W:=L.t4;have V:=L.a4;have T:=L.z4;have S:=L.v4;have i:=L.t22;have N:=L.a22;have O:=L.z22;have H:=L.v22;have G:∀(w:World) (a:Option Addr) (n c r s:Nat),(binOp .eql (ρ.t 22) (.slice a n c) (.slice none r s)).run P w= .ok (.bool a.isNone) w:=λw a n c r s=>Lib.run_eql_slice_nil w _ _ a n c r s L.t22;have F:∀w,Sem.run P (underlying (ρ.t 22)) w= .ok (TypeDesc.slice (ρ.t 23)) w:=run_underlying i;have A:Aside (∀j u,d[j]?=some u->w.cell? (p.add j)=some u):=C;clear C;obtain⟨_,_,M⟩:=L.f41;go_enter M,SlBodyN.n41_ntmps ρ;go_wp2_with (at_builtin;refine wpList_append_own _ rfl _ _ (ρ.t 22) rfl w.heap.size (ρ.t 23) i0 z b g i I x y q m o _ _ _ rfl (World.ownsRow_made w #[] 0 (φ _) (εE _) (by simp)) p n c d rfl ?qc1 ?qc2 ?qc3 ?qc4 ?qc5 ?qc6 ?_);case qc1=>exact K
 case qc2=>
  intro j u J;exact Lib.cell?_alloc_some _ (A.out j u J)
 case qc3=>exact E
 case qc4=>omega
 case qc5=>simp_all
 case qc6=>simp
 intro l R D h k;go_wp2;go_ret;refine⟨l,rfl,by omega,?_,?_⟩;·exact k
 ·exact((Below.refl _ w).alloc (φ _) _).grown h (by simp) (by grind[Value.ownBlock])
end Go.Proofs
namespace Go.Vi
open Go.Proofs.YtlphnffeeefcdaaGreat.Ir
open Go.Proofs
theorem oa (l:List Int):cE (.i .i64) l=l.map λx=>δd (.int .i64 x):=by
 unfold cE;induction l with
 |nil=>rfl;|cons x l a=>rw[List.flatMap_cons,a];rfl
theorem R9 {A:dQ} {w:World} {σ:bY} {l:List Int} {e:TypeId} (d:bV A w σ [.cells (l.map λx=>δd (.int .i64 x)) e 1 true]) (s:1<=l.length):
  ∃b cap arr,σ=[some (b,cap)]/\cap<=maxLen/\w.heap[b]?=some (.cells arr e (0,0))/\arr.size=cap/\l.length<=cap/\arr.toList.take l.length=l.map (Value.int .i64):=by
 have f:=d.obj 0 _ rfl;simp only[dD] at f;obtain⟨_,_,h|⟨b,cap,arr,a,n,g,r,p,i⟩⟩:=f;·simp_all
 ·have c:=d.len;simp at c;have m:l.length<=arr.size:=by simp_all
  refine⟨b,cap,arr,?_,n,g,by omega,by omega,?_⟩;·match σ,c,a with
   |[x],_,a=>simp_all
  ·apply List.ext_getElem?;intro j;by_cases k:j<l.length
   ·obtain⟨v,o,q⟩:=i j (.sc (.int .i64 l[j])) (by simp[k]);grind[bw]
   simp_all
def eX (l:List Int):List Int:=l.mergeSort λx y=>decide (x<=y)
theorem vV {l:List Int}:(eX l).length=l.length:=(εt _ _).length_eq
def AA:dF where
 f:=87;α:=Nat×List Int;put a:=[.ow 0 a.1 1];st a:=[.row (.i .i64) a.2 3 true];dec v o:=match v,o with
  |[.ow 0 n 1],[.row t l 3 true]=>match iJ t (.i .i64) l with
   |some l=>some (n,l)
   |_=>none
  |_,_=>none;ok v o a h:=by
  split at h
  ·split at h
   ·rename_i h4;simp only[γ] at h;subst h;obtain⟨rfl,hh⟩:=mR h4;cases hh;exact⟨rfl,rfl⟩
   ·cases h
  ·cases h
 inj a b e1 e2:=by
  obtain⟨n,l⟩:=a;obtain⟨n',l'⟩:=b;simp only[gL,Δ,SV.g,εF,true_and] at e1;simp only[gO,ξ,γs,bq.g,Δ,bR.cells.injEq,and_true,true_and] at e2;have h4:l=l':=by
   have hf:=congrArg γf e2;rw[fi,fi] at hf;exact lM (.i .i64) (by simpa[bp.sz] using hf) e2
  rw[e1.1.1,h4]
 dom a:=a.1=a.2.length/\1<=a.2.length/\a.2.length<=1000000;res _:=.bJ [];out a:=[.row (.i .i64) (eX a.2) 3 true]
theorem h337:dZ Tryz.prog AA:=by
 rintro⟨n,l⟩ ⟨E,H,V⟩;simp only at E H V;subst E;refine⟨by kernel_rfl,?_⟩;intro A w F Q q s;have C:∀m:List Int,gO [bq.row (.i .i64) m 3 true]=[bR.cells (m.map λx=>δd (.int .i64 x)) 3 1 true]:=λm=>by
  simp only[gO,ξ,γs,bq.g,oa];rfl
 have T:gL (AA.put (l.length,l))=[.os 0 0 l.length (l.length*1)]:=rfl;show Calls _ _ _ _ λe h=>∃u p,e= .returned u/\bV A h p (gO [bq.row (.i .i64) (eX l) 3 true])/\bw A h p (gO [bq.row (.i .i64) (eX l) 3 true]) (.bJ []) u/\Ext w F (gO [bq.row (.i .i64) l 3 true]) h p (gO [bq.row (.i .i64) (eX l) 3 true]);replace q:bV A w F (gO [bq.row (.i .i64) l 3 true]):=q;replace s:bF A w F (gO [bq.row (.i .i64) l 3 true]) (gL (AA.put (l.length,l))) Q:=s;rw[C] at q s;rw[C,C];rw[T] at s;obtain⟨b,Y,d,rfl,U,L,q4,q5,N⟩:=R9 q H;simp only[bF] at s;obtain⟨v,r,rfl,I,rfl⟩:=s;simp only[bw] at I;obtain⟨O,a,y,rfl,a0,B⟩:=I;have K:=B 1 ⟨_,_,_,rfl,by simp⟩;simp only[kA,γ2] at K;obtain⟨rfl,rfl⟩:=K.2.1 trivial trivial (by omega);have P:b<w.heap.size:=q.bnd 0 b y rfl;have R:=holds_of_blockI (ss:=l) L N;have S:Calls Tryz.prog (AA).f #[.slice (some ⟨b,0,none⟩) l.length y] w λe h=>e= .returned (.tuple #[])/\∃n z,h=Sort.grow (Sort.putRow (Value.int .i64) (Sort.ahead w n) b 0 (eX l).toArray) z:=
  calls_of_every_depth λD=>AnyS.slices_Sort_int_in Tryz.layS D b 0 y l w R P (by omega);refine Calls.mono S ?_;rintro e h ⟨rfl,n,z,rfl⟩;have t:=grownBy_sortedI (w:=w) (g:=b) (n:=n) (os:=z) (eX l).toArray;have W:=heap_sortedI (w:=w) (n:=n) (os:=z) (eX l).toArray L;have X:=take_putCellsI d (eX l) (by rw[vV];omega);have hz:(Sort.putCells (Value.int .i64) 0 (eX l).toArray d).size=d.size:=by simp[Sort.putCells]
 generalize Sort.grow (Sort.putRow (Value.int .i64) (Sort.ahead w n) b 0 (eX l).toArray) z=h at*;generalize Sort.putCells (Value.int .i64) 0 (eX l).toArray d=o at*;have hU:=q.upd (w':=h) (id:=0) (x':=.cells ((eX l).map λx=>δd (.int .i64 x)) 3 1 true) (s':=some (b,y)) rfl t.size t.os t.tape t.output
  (λk M E=>t.block k M λe=>by simp_all) (λb' c' e=>by simp_all)
  ⟨_,_,_,rfl,by simp[vV],λ_=>rfl⟩ ?_;·grind[bw,bF]
 ·intro hx;simp only[dD];refine⟨λ_=>by rw[<-oa];grind[oJ],by rw[<-oa];grind[B5],.inr ⟨b,y,o,rfl,U,W,by omega,by grind[vV],?_⟩⟩;intro j c J;rw[δe] at J;obtain⟨x,G,rfl⟩:=ε.1 J;have Z:=(θ.1 G).1;refine⟨.int .i64 x,?_,by simp[bw,Value.oneCell']⟩;have h9:(o.toList.take (eX l).length)[j]?=((eX l).map (Value.int .i64))[j]?:=by rw[X]
  grind
theorem Si {A:dQ} {w:World} {l:List Int} {vs:List Value} {m:FuncId} (n:m=Tryz.layC_ren.f 41) (N:bV A w [] []) (K:l.length<=1000000) (B:bF A w [] [] [.sl l.length (l.map λx=>δd (.int .i64 x))] vs):
  Calls Tryz.prog m vs.toArray w λe w'=>RowKit.Below w.heap.size w w'/\((e= .returned (.slice none 0 0)/\l=[])\/∃g cap c,e= .returned (.slice (some ⟨g,0,none⟩) l.length cap)/\w.heap.size<=g/\w'.heap[g]?=some (.cells c 3 (0,0))/\l.length<=cap/\cap<=maxLen/\c.size=cap/\c.toList.take l.length=l.map (Value.int .i64)):=by
 subst n;simp only[bF] at B;obtain⟨v,r,rfl,t,rfl⟩:=B;simp only[bw] at t;obtain⟨a,cap,rfl,q,_,C⟩:=t;cases a with
 |none=>
  have z:l=[]:=by
   cases l<;>grind[dA]
  grind[Calls.mono,AnyE.slices_Clone_nil,Tryz.layC,RowKit.Below.refl];|some p=>
  have H:∀j u,(l.map (Value.int .i64))[j]?=some u->w.cell? (p.add j)=some u:=by
   intro j u s;rw[δe] at s;obtain⟨x,F,rfl⟩:=ε.1 s;obtain⟨b,v,e,_,o,y⟩:=dA.get _ _ _ C j (.sc (.int .i64 x)) (by simp[F]);grind[bw]
  refine Calls.mono (abU Tryz.layC Tryz.t3 (.int .i64 0) 1 8 (by kernel_rfl) (by kernel_rfl) (by kernel_rfl) (by kernel_rfl) (by kernel_rfl) (by omega) Tryz.sizeOf3 p l.length cap (l.map (Value.int .i64)) w (by simp) (by grind[maxLen]) (by omega) H (by simp[Value.oneCell'])) ?_;rintro e w' ⟨L,rfl,k,E,i⟩;refine⟨i,.inr ?_⟩;obtain⟨_,h|⟨g,d,c,rfl,J,I,D,G,M,O⟩⟩:=k;·simp_all
  ·exact⟨g,d,c,rfl,J,I,D,G,by omega,by simp_all⟩
def D1:bL:=⟨49,List Int,.one (dM (.i .i64)),λl=>l.length<=1000000,λl=> .row (.i .i64) l⟩
theorem h330:Holds Tryz.prog D1:=by
 intro(l:List Int) (hl:l.length<=1000000);refine⟨by kernel_rfl,?_⟩;intro A w σ vs hS hR;have hσ:σ=[]:=by have:=hS.len;simpa using this
 subst hσ;have e1:gL (D1.A.put l)=[.sl l.length (l.map λx=>δd (.int .i64 x))]:=by rw[<-oa];rfl
 have e2:(D1.res l).G= .sl l.length (l.map λx=>δd (.int .i64 x)):=by rw[<-oa];rfl
 rw[e1] at hR;rw[e2];refine Calls.mono (Si (by rfl) hS hl hR) ?_;rintro e w' ⟨hb,h⟩;have hS':bV A w' [] []:=⟨rfl,by simp,by simp,by simp,by simp,λb h=>γo (hS.jV b h) hb.size⟩;have hE:Ext w [] [] w' [] []:=⟨hb.size,λb h _=>⟨hb.block b h,λ⟨i,c,hi⟩=>by simp at hi⟩,φ _,λ_ _ ⟨_,_,_,_,h,_⟩=>by simp at h,λ_ ⟨_,_,_,h⟩=>by simp at h,hb.os,hb.tape,hb.output⟩;rcases h with⟨rfl,rfl⟩|⟨g,cap,cur,rfl,h1,h2,h3,h4,h5,h6⟩;·exact⟨_,[],rfl,hS',by simp only[bw];exact⟨none,0,rfl,by simp,by rw[<-oa];exact oJ _ _,by simp[dA]⟩,hE⟩
 ·refine⟨_,[],rfl,hS',?_,hE⟩;simp only[bw];refine⟨_,_,rfl,h3,by rw[<-oa];exact oJ _ _,dA.lF _ _ _ λi c hi=>?_⟩;rw[δe] at hi;obtain⟨x,hx,rfl⟩:=ε.1 hi;have hil:=(θ.1 hx).1;have h9:(cur.toList.take l.length)[i]?=(l.map (Value.int .i64))[i]?:=by rw[h6]
  rw[List.getElem?_take_of_lt hil,Array.getElem?_toList,δe,hx] at h9;refine⟨⟨g,0,none⟩,.int .i64 x,rfl,⟨λ⟨i,c,hi⟩=>by simp at hi,λhA=>by have:=hS.jV g hA;omega⟩,?_,by simp[bw,Value.oneCell']⟩;rw[Addr.add_lit];simp only[World.cell?,h2,Nat.zero_add,Option.isSome_none,Bool.false_eq_true,if_false];exact h9
def vW:dF where
 f:=49;α:=List Int;put a:=[.row (.i .i64) a];st a:=[];dec v o:=match v,o with
  |[.row t l],[]=>iJ t (.i .i64) l
  |_,_=>none;ok v o a h:=by
  split at h
  ·obtain⟨rfl,hh⟩:=mR h;cases hh;exact⟨rfl,rfl⟩
  ·cases h
 inj a b e1 e2:=by
  simp only[gL,Δ,SV.g,δ4,and_true] at e1;exact lM (.i .i64) (by simpa using e1.1) e1.2
 dom a:=a.length<=1000000;res a:=.ow 0 a.length 1;out a:=[.row (.i .i64) a 3 true]
theorem h330o:dZ Tryz.prog vW:=by
 intro(l:List Int) (E:l.length<=1000000);refine⟨by kernel_rfl,?_⟩;intro A w s G k p;replace k:bV A w s []:=k;replace p:bF A w s [] (gL (vW.put l)) G:=p;have q:s=[]:=by have:=k.len;simp_all
 subst q;have F:gL (vW.put l)=[.sl l.length (l.map λx=>δd (.int .i64 x))]:=by rw[<-oa];rfl
 have B:(vW.res l).g= .os 0 0 l.length (l.length*1):=rfl;have D:gO (vW.out l)=[bR.cells (l.map λx=>δd (.int .i64 x)) 3 1 true]:=by rw[<-oa];rfl
 rw[F] at p;rw[B,D];show Calls _ _ _ _ λe n=>∃u f,e= .returned u/\bV A n f [bR.cells (l.map λx=>δd (.int .i64 x)) 3 1 true]/\bw A n f [bR.cells (l.map λx=>δd (.int .i64 x)) 3 1 true] (.os 0 0 l.length (l.length*1)) u/\Ext w [] [] n f [bR.cells (l.map λx=>δd (.int .i64 x)) 3 1 true];refine Calls.mono (Si (by rfl) k E p) ?_;rintro e n ⟨d,h⟩;have t:sZ [bR.cells (l.map λx=>δd (.int .i64 x)) 3 1 true] 0 (l.length*1):=⟨_,_,_,_,rfl,by simp⟩;rcases h with⟨rfl,rfl⟩|⟨g,m,o,rfl,P,z,C,J,O,I⟩
 ·refine⟨_,[none],rfl,⟨rfl,?_,?_,?_,?_,λb h=>γo (k.jV b h) d.size⟩,?_,d.size,λb h _=>⟨d.block b h,?_⟩,εE _,λ_ _ ⟨_,_,_,_,h,_⟩=>by simp at h,λ_ ⟨_,_,_,h⟩=>by simp at h,d.os,d.tape,d.output⟩;·grind
  ·grind
  ·intro i x a;cases i with
   |zero=>
    simp at a;subst a;simp only[dD];exact⟨λ_=>rfl,rfl,.inl (by simp)⟩;|succ i=>simp at a
  ·grind
  ·grind[bw,kA]
  ·rintro⟨i,c,a⟩;grind
 ·have L:g<n.heap.size:=(Array.getElem?_eq_some_iff.1 z).1;refine⟨_,[some (g,m)],rfl,⟨rfl,?_,?_,?_,?_,λb h=>γo (k.jV b h) d.size⟩,?_,d.size,λb h _=>⟨d.block b h,?_⟩,εE _,λ_ _ ⟨_,_,_,_,h,_⟩=>by simp at h,λ_ ⟨_,_,_,h⟩=>by simp at h,d.os,d.tape,d.output⟩;·grind
  ·grind
  ·intro i x a;cases i with
   |zero=>
    simp at a;subst a;simp only[dD];refine⟨λ_=>by rw[<-oa];grind[oJ],by rw[<-oa];grind[B5],.inr ⟨g,m,o,rfl,J,z,by omega,by simp;omega,?_⟩⟩;intro j c v;rw[δe] at v;obtain⟨x,r,rfl⟩:=ε.1 v;have H:=(θ.1 r).1;refine⟨.int .i64 x,?_,by simp[bw,Value.oneCell']⟩;have N:(o.toList.take l.length)[j]?=(l.map (Value.int .i64))[j]?:=by rw[I]
    grind;|succ i=>simp at a
  ·intro i b c a;cases i with
   |zero=>
    simp at a;intro K;have:=k.jV b K;omega;|succ i=>simp at a
  ·simp only[bw];refine⟨t,_,_,rfl,C,λM y=>?_⟩;obtain⟨_,_,_,y,_⟩:=y;grind[kA,po]
  ·rintro⟨i,c,a⟩;grind
def lv (l:List Int) (i j:Nat):List Int:=l.take i++l.drop j++δ (j - i) 0
theorem Sj {l:List Int} {i j:Nat} (a:i<=j) (b:j<=l.length):(lv l i j).length=l.length:=by
 grind[lv]
def vX:dF where
 f:=120;α:=(Nat×List Int)×Int×Int;put a:=[.ow 0 a.1.1 1,.si .i64 a.2.1,.si .i64 a.2.2];st a:=[.row (.i .i64) a.1.2 3 true];dec v o:=match v,o with
  |[.ow 0 n 1,x,y],[.row t l 3 true]=>match iJ t (.i .i64) l,x.int .i64,y.int .i64 with
   |some l,some i,some j=>some ((n,l),i,j)
   |_,_,_=>none
  |_,_=>none;ok v o a h:=by
  split at h
  ·split at h
   ·rename_i h4 h5 h6;simp only[γ] at h;subst h;obtain⟨rfl,hh⟩:=mR h4;cases hh;refine⟨?_,rfl⟩;simp only[gL,iK h5,iK h6];rfl
   ·cases h
  ·cases h
 inj a b e1 e2:=by
  obtain⟨⟨n,l⟩,i,j⟩:=a;obtain⟨⟨n',l'⟩,i',j'⟩:=b;simp only[gL,Δ,SV.g,εF,true_and,and_true,γ9,Value.int.injEq] at e1;simp only[gO,ξ,γs,bq.g,Δ,bR.cells.injEq,and_true,true_and] at e2;have h4:l=l':=by
   have hf:=congrArg γf e2;rw[fi,fi] at hf;exact lM (.i .i64) (by simpa[bp.sz] using hf) e2
  rw[e1.1.1,h4,e1.2.1,e1.2.2]
 dom a:=(a.1.1=a.1.2.length/\1<=a.1.2.length/\a.1.2.length<=1000000)/\0<=a.2.1/\a.2.1<=a.2.2/\a.2.2<=a.1.2.length;res a:=.os 0 0 (a.1.2.length - (a.2.2 - a.2.1).toNat) a.1.1 1;out a:=[.row (.i .i64) (lv a.1.2 a.2.1.toNat a.2.2.toNat) 3 true]
theorem h347:dZ Tryz.prog vX:=by
 rintro⟨⟨n,l⟩,i,j⟩ ⟨⟨H,K,h2⟩,i0,ij,Y⟩;simp only at H K h2 i0 ij Y;subst H;obtain⟨i,rfl⟩:∃k:Nat,i=k:=⟨i.toNat,by omega⟩;obtain⟨j,rfl⟩:∃k:Nat,j=k:=⟨j.toNat,by omega⟩;refine⟨by kernel_rfl,?_⟩;intro A w F X t z;have I:∀m:List Int,gO [bq.row (.i .i64) m 3 true]=[bR.cells (m.map λx=>δd (.int .i64 x)) 3 1 true]:=λm=>by
  simp only[gO,ξ,γs,bq.g,oa];rfl
 have V:gL (vX.put ((l.length,l),(i:Int),(j:Int)))=[.os 0 0 l.length (l.length*1),.sc (.int .i64 i),.sc (.int .i64 j)]:=rfl;have Z:(vX.res ((l.length,l),(i:Int),(j:Int))).g= .os 0 0 (l.length - (j - i)) (l.length*1):=by
  show AV.os 0 (0*1) (l.length - ((j:Int) - (i:Int)).toNat) (l.length*1)=_;simp_all
 show Calls _ _ _ _ λe h=>∃u p,e= .returned u/\bV A h p (gO [bq.row (.i .i64) (lv l i j) 3 true])/\bw A h p (gO [bq.row (.i .i64) (lv l i j) 3 true]) (vX.res ((l.length,l),(i:Int),(j:Int))).g u/\Ext w F (gO [bq.row (.i .i64) l 3 true]) h p (gO [bq.row (.i .i64) (lv l i j) 3 true]);replace t:bV A w F (gO [bq.row (.i .i64) l 3 true]):=t;replace z:bF A w F (gO [bq.row (.i .i64) l 3 true]) (gL (vX.put ((l.length,l),(i:Int),(j:Int)))) X:=z;rw[I] at t z;rw[I,I,Z];rw[V] at z;obtain⟨b,a2,d,rfl,S,Q,q4,q5,q6⟩:=R9 t K;simp only[bF] at z;obtain⟨v,r,rfl,M,v2,r2,rfl,C,v3,r3,rfl,D,rfl⟩:=z;simp only[bw] at M C D;obtain⟨a0,a,s,rfl,a3,J⟩:=M;obtain⟨rfl,_⟩:=C;obtain⟨rfl,_⟩:=D;have O:=J 1 ⟨_,_,_,rfl,by simp⟩;simp only[kA,γ2] at O;obtain⟨rfl,rfl⟩:=O.2.1 trivial trivial (by omega);have hb:b<w.heap.size:=t.bnd 0 b s rfl;have W:=holds_of_blockI (ss:=l) Q q6;have T:maxLen=9223372036854775807:=rfl;have B:=@Sj l i j (by omega) (by omega);have E:Calls Tryz.prog (vX).f #[.slice (some ⟨b,0,none⟩) l.length s,.int .i64 i,.int .i64 j] w λe h=>e= .returned (.slice (some ⟨b,0,none⟩) (l.length - (j - i)) s)/\∃q,h=Sort.putRow (Value.int .i64) (Sort.ahead w q) b 0 (lv l i j).toArray:=by
  exact AnyE.slices_Delete Tryz.layD (Value.int .i64) (λ_=>rfl) 0 Tryz.zeroValue3 Tryz.t3 (by kernel_rfl) (by kernel_rfl) b 0 s i j l.toArray w W (by omega) (by omega) (by omega) (by simp;omega)
 refine Calls.mono E ?_;rintro e h ⟨rfl,q,rfl⟩;have y:=grownBy_sortedI (w:=w) (g:=b) (n:=q) (os:=#[]) (lv l i j).toArray;have L:=heap_sortedI (w:=w) (n:=q) (os:=#[]) (lv l i j).toArray Q;rw[Sort.grow_empty] at y L;have R:=take_putCellsI d (lv l i j) (by omega);have hz:(Sort.putCells (Value.int .i64) 0 (lv l i j).toArray d).size=d.size:=by simp[Sort.putCells]
 generalize Sort.putRow (Value.int .i64) (Sort.ahead w q) b 0 (lv l i j).toArray=h at*;generalize Sort.putCells (Value.int .i64) 0 (lv l i j).toArray d=o at*;have N:=t.upd (w':=h) (id:=0) (x':=.cells ((lv l i j).map λx=>δd (.int .i64 x)) 3 1 true) (s':=some (b,s)) rfl y.size y.os y.tape y.output
  (λk U H=>y.block k U λe=>by simp_all) (λb' c' e=>by simp_all)
  ⟨_,_,_,rfl,by simp[B],λ_=>rfl⟩ ?_
 ·refine⟨_,[some (b,s)],rfl,N.1,?_,N.2⟩;simp only[bw];refine⟨⟨_,_,_,_,rfl,by simp[B]⟩,_,_,rfl,by omega,λsz E=>?_⟩;obtain⟨_,_,_,E,_⟩:=E;grind[kA]
 ·intro hx;simp only[dD];refine⟨λ_=>by rw[<-oa];exact oJ _ _,by rw[<-oa];exact B5 _ _,.inr ⟨b,s,o,rfl,S,L,by omega,by simp_all,?_⟩⟩;intro k c P;rw[δe] at P;obtain⟨x,G,rfl⟩:=ε.1 P;have a1:=(θ.1 G).1;refine⟨.int .i64 x,?_,by simp[bw,Value.oneCell']⟩;have h9:(o.toList.take (lv l i j).length)[k]?=((lv l i j).map (Value.int .i64))[k]?:=by rw[R]
  grind
structure Game where
 rows:List (List Int)
 bounds:List Int
 offers:List Off
def AB:qm Game where
 put a:=.agg [.row (.bH (.i .i64)) a.rows,.row (.i .i64) a.bounds,.row .off a.offers];dec
  | .agg [r,v,x]=>match jf (.bH (.i .i64)) r,jf (.i .i64) v,jf .off x with
   |some c,some v,some x=>some ⟨c,v,x⟩
   |_,_,_=>none
  |_=>none;ok v a h:=by
  grind[SV.g,gL,oL]
 inj a b h:=by
  obtain⟨c,v,x⟩:=a;obtain⟨l,k,j⟩:=b;simp only[SV.g,gL,AV.agg.injEq,Δ,and_true,true_and,δ4] at h;have e:=lM (.bH (.i .i64)) h.1.1 h.1.2;have d:=lM (.i .i64) h.2.1.1 h.2.1.2;have f:=lM .off h.2.2.1 h.2.2.2;rw[e,d,f]
def yd:bL:=⟨32,bn,.one dE,λ_=>True,λp=> .si .i64 (if bB p=0 then cZ p else 0)⟩
theorem h335:Holds Tryz.prog yd:=by
 refine cF (L:=[qs,xy]) yd lk (by grind[h79,h157]) ?_;rintro(p:bn) -;refine bO (let c:=(0:Int);let b:=decide (bB p≠c);let a:=γe .i64 (if bB p=c then cZ p else c);True/\(b=true->(γx .i64 0).same a)/\(b=false->p.classes.length<=8/\(γe .i64 (cZ p)).same a)) (by kernel_rfl) ?_;simp only[vcs];refine⟨λh=>by rw[if_neg h],λh=>?_⟩;have c:bB p=0:=Ξ.1 h;rw[if_pos c];have:=(dN c).1;omega
def iy (p:bn) (r:Int) (n:Nat):List Int:=(p.offers.take n).map (dK p r)
def D2:bL:=⟨79,bn×Int,.cons dE (.one (eK .i64)),λa=>bB a.1=0/\0<=a.2/\a.2<cZ a.1,λa=> .bJ [.row (.i .i64) (iy a.1 a.2 a.1.offers.length),.si .i64 (df a.1 a.2)]⟩
def abV (a:bn×Int):Nat->cC
 |5=> .inv Int (λi=>⟨[(1,.si .i64 a.2),(4,.ow 1 (iy a.1 a.2 i.toNat).length 1),(6,.ptr 2 0 20),(20,.row .off a.1.offers),(21,.si .i64 a.1.offers.length),(22,.si .i64 i)],[.cells a.1.ss 27 20 false,.row (.i .i64) (iy a.1 a.2 i.toNat) 3 true,.cells a.1.ss 76 20 false]⟩)
   (λs=>iS s 22) (λi=>0<=i/\i<=a.1.offers.length) (λi=>(a.1.offers.length - i).toNat) λ_ _=> .look
 |_=> .look
theorem h336:Holds Tryz.prog D2:=by
 refine cF (L:=[yd,xB,xA]) D2 abV (by simpa using⟨h335,h156,h158⟩) ?_;rintro⟨p,r⟩ ⟨hc,r0,r1⟩;simp only at hc r0 r1;refine bO (let a:=γe .i64;let b:=(0:Int);let c:=Θ;let d:=bq.row;let e:=SV.bJ;let f:=γS;let g:=bp.i .i64;let l:=c bp.off p.offers;let v:=decide (r<b);let o:=γx .i64 0;let w:=[a (df p r)];let q:=e (c g (iy p r p.offers.length)::w);let y:=decide ((if bB p=b then cZ p else b)<=r);let m:=γP 2 0 20;let z:=(↑p.offers.length:Int);let h:=(↑p.offers.length:Int);let s:=a h;let n:=λ(u:Nat) ↦let A:=bq.cells [a p.supply.a0,a p.supply.a1,a p.supply.a2,a p.supply.a3,a p.supply.a4,a p.supply.a5,a p.opn.a0,a p.opn.a1,a p.opn.a2,a p.opn.a3,a p.opn.a4,a p.opn.a5,a p.cls.a0,a p.cls.a1,a p.cls.a2,a p.cls.a3,a p.cls.a4,a p.cls.a5,c g p.classes,l] u 20 false;A.same A;(v=true->0=0/\(e [c g [],o]).same q)/\(v=false->True/\(y=true->0=0/\(e [c g [],o]).same q)/\(y=false->((((a r).same (a r)/\(f 1 0 1).same (f 1 (iy p r 0).length 1)/\m.same m/\l.same l/\(a z).same s/\o.same (a 0)/\True)/\n 27/\(d g [] 3 true).same (d g (iy p r 0) 3 true)/\n 76/\True)/\b<=b/\b<=h)/\∀(x:Int),let t:=bj p.offers x.toNat bp.off.dflt;let j:=iy p r x.toNat;let B:=j.length+1;let k:=x+(1:Int);let C:=j++[dK p r t];let D:=a k;b<=x/\x<=h->(decide (x<h)=true->b<=x/\x<z/\x.toNat<p.offers.length/\(p.classes.length<=8/\b<=r/\r<cZ p/\b<=t.bX/\t.bX<(↑p.classes.length:Int))/\j.length=j.length/\B*8<=140737488355328/\B<=1000000000000/\cn .i64 k/\(((a r).same (a r)/\(f 1 C.length 1).same (f 1 (iy p r k.toNat).length 1)/\m.same m/\l.same l/\s.same s/\D.same D/\True)/\n 27/\(d g C 3 true).same (d g (iy p r k.toNat) 3 true)/\n 76/\True)/\(b<=k/\k<=h)/\(h - k).toNat<(h - x).toNat)/\(decide (x<h)=false->(p.classes.length<=8/\b<=r/\r<cZ p)/\j.length=j.length/\(e (c g j::w)).same q)))) (by kernel_rfl) ?_;simp only[vcs];obtain⟨g1,g2,g3,g4,g5⟩:=dN hc;have how:∀{x y:Nat},x=y->(γS 1 x 1).same (γS 1 y 1):=by rintro _ _ rfl;rfl
 have hrow:∀{x y:List Int},x=y->(bq.row (.i .i64) x 3 true).same (bq.row (.i .i64) y 3 true):=by rintro _ _ rfl;rfl
 rw[if_pos hc];refine⟨λh=>by omega,λ_=>⟨λh=>by omega,λ_=>⟨⟨?_,by omega,by omega⟩,?_⟩⟩⟩;·exact⟨how rfl,hrow rfl⟩
 ·rintro i ⟨i0,i1⟩;have hL:(iy p r i.toNat).length<=160:=by unfold iy;rw[List.length_map,γq];omega
  refine⟨λhi=>?_,λhi=>?_⟩
  ·have hx:=g5 _ (dj (d:=bp.off.dflt) (show i.toNat<p.offers.length by omega));have e:iy p r (i+1).toNat=iy p r i.toNat++[dK p r (bj p.offers i.toNat bp.off.dflt)]:=by
    unfold iy;rw[kC (d:=bp.off.dflt) i0 hi,γb];rfl
   rw[e];refine⟨i0,hi,?_,⟨g1,r0,r1,hx.1,hx.2.1⟩,?_,?_,?_,⟨how rfl,hrow rfl⟩,?_,?_⟩<;>omega
  ·rw[show i.toNat=p.offers.length by omega];exact⟨⟨g1,r0,r1⟩,rfl⟩
def lX (p:bn) (n:Nat):List (List Int):=(ψ n).map λr:Nat=>iy p r p.offers.length
def kg (p:bn) (n:Nat):List Int:=(ψ n).map λr:Nat=>df p r
def nR (p:bn):Nat:=if bB p=0 then p.classes.length+12 else 0
def cO (p:bn):Game:=⟨lX p (nR p),kg p (nR p),p.offers⟩
theorem Sl {p:bn} {n:Nat}:(lX p n).length=n:=by simp[lX]
theorem D3 {p:bn} {n:Nat}:(kg p n).length=n:=by simp[kg]
theorem abW {p:bn} {i:Int} (h:0<=i):lX p (i+1).toNat=lX p i.toNat++[iy p i p.offers.length]:=by
 unfold lX;rw[show(i+1).toNat=i.toNat+1 from by omega,εe,γb];grind
theorem abX {p:bn} {i:Int} (h:0<=i):kg p (i+1).toNat=kg p i.toNat++[df p i]:=by
 unfold kg;rw[show(i+1).toNat=i.toNat+1 from by omega,εe,γb];grind
def D4:bL:=⟨48,bn,.one dE,λ_=>True,λp=>AB.put (cO p)⟩
def abY (p:bn):Nat->cC
 |3=> .inv Int (λi=>⟨[(1,.ptr 0 0 20),(2,.ptr 1 0 3),(3,.ptr 2 0 3),(11,.si .i64 (nR p)),(12,.si .i64 i)],[.cells p.ss 27 20 false,.cells [.sc (.slice none 0 0),.sc (.slice none 0 0),.sc (.slice none 0 0)] 90 3 false,.cells [.ow 4 (lX p i.toNat).length 1,.ow 3 (kg p i.toNat).length 1,.row .off p.offers] 90 3 false,.row (.i .i64) (kg p i.toNat) 3 true,.row (.bH (.i .i64)) (lX p i.toNat) 24 false]⟩)
   (λs=>iS s 12) (λi=>0<=i/\i<=nR p) (λi=>(nR p - i).toNat) λ_ _=> .look
 |_=> .look
theorem h325:Holds Tryz.prog D4:=by
 refine cF (L:=[yd,D2]) D4 abY (by simpa using⟨h335,h336⟩) ?_;rintro(p:bn) -;refine bO (let a:=γe .i64;let b:=bq.row;let c:=(0:Int);let d:=bq.cells;let e:=Θ;let f:=γS;let g:=γP;let o:=g 0 0 20;let q:=g 1 0 3;let r:=g 2 0 3;let k:=(↑(nR p):Int);let u:=a k;let h:=bp.i .i64;let n:=[e bp.off p.offers];let s:=d (a p.supply.a0::a p.supply.a1::a p.supply.a2::a p.supply.a3::a p.supply.a4::a p.supply.a5::a p.opn.a0::a p.opn.a1::a p.opn.a2::a p.opn.a3::a p.opn.a4::a p.opn.a5::a p.cls.a0::a p.cls.a1::a p.cls.a2::a p.cls.a3::a p.cls.a4::a p.cls.a5::e h p.classes::n) 27 20 false;let v:=SV.sc (Value.slice none 0 0);let t:=d [v,v,v] 90 3 false;True/\(((o.same o/\q.same q/\r.same r/\(a (if bB p=c then cZ p else c)).same u/\(γx .i64 0).same (a 0)/\True)/\s.same s/\t.same t/\(d (f 4 0 1::f 3 0 1::n) 90 3 false).same (d (f 4 (lX p 0).length 1::f 3 (kg p 0).length 1::n) 90 3 false)/\(b h [] 3 true).same (b h (kg p 0) 3 true)/\(b h.bH [] 24 false).same (b h.bH (lX p 0) 24 false)/\True)/\c<=c/\c<=k)/\∀(x:Int),let m:=lX p x.toNat;let w:=m.length+1;let l:=kg p x.toNat;let y:=l.length+1;let j:=x+(1:Int);let z:=a j;let A:=m++[iy p x p.offers.length];c<=x/\x<=k->(decide (x<k)=true->(bB p=c/\c<=x/\x<cZ p)/\1=1/\m.length=m.length/\w*24<=140737488355328/\w<=1000000000000/\1=1/\l.length=l.length/\y*8<=140737488355328/\y<=1000000000000/\cn .i64 j/\((o.same o/\q.same q/\r.same r/\u.same u/\z.same z/\True)/\s.same s/\t.same t/\(d (f 4 A.length 1::f 3 (l++[df p x]).length 1::n) 90 3 false).same (d (f 4 (lX p j.toNat).length 1::f 3 (kg p j.toNat).length 1::n) 90 3 false)/\(b h (l++[df p x]) 3 true).same (b h (kg p j.toNat) 3 true)/\(b h.bH A 24 false).same (b h.bH (lX p j.toNat) 24 false)/\True)/\(c<=j/\j<=k)/\(k - j).toNat<(k - x).toNat)/\(decide (x<k)=false->m.length=m.length/\l.length=l.length/\(γQ (e h.bH m::e h l::n)).same (γQ [e h.bH (cO p).rows,e h (cO p).bounds,e bp.off (cO p).offers]))) (by kernel_rfl) ?_;simp only[vcs];have hn:∀x:Int,0<=x->x<nR p->bB p=0/\x<cZ p/\nR p<=20:=by
  intro x hx0 hx;unfold nR at hx ⊢;split at hx
  ·rename_i hc;have:=(dN hc).1;rw[if_pos hc];exact⟨hc,by unfold cZ;omega,by omega⟩
  ·omega
 have e0:(if bB p=0 then cZ p else 0)=((nR p:Nat):Int):=by
  unfold nR cZ;split;·omega
  ·rfl
 have hcell:∀{a a' b b':Nat} {l:List Off},a=a'->b=b'->(bq.cells [.ow 4 a 1,.ow 3 b 1,.row .off l] 90 3 false).same (.cells [.ow 4 a' 1,.ow 3 b' 1,.row .off l] 90 3 false):=by rintro _ _ _ _ _ rfl rfl;rfl
 have hrow:∀{x y:List Int},x=y->(bq.row (.i .i64) x 3 true).same (bq.row (.i .i64) y 3 true):=by rintro _ _ rfl;rfl
 have hrow2:∀{x y:List (List Int)},x=y->(bq.row (.bH (.i .i64)) x 24 false).same (bq.row (.bH (.i .i64)) y 24 false):=by rintro _ _ rfl;rfl
 refine⟨⟨⟨e0,hcell rfl rfl,hrow rfl,hrow2 rfl⟩,by omega,by omega⟩,?_⟩;rintro i ⟨i0,i1⟩;refine⟨λhi=>?_,λhi=>?_⟩
 ·obtain⟨hc,h1,h2⟩:=hn i i0 hi;have l1:=@Sl p i.toNat;have l2:=@D3 p i.toNat;rw[abW i0,abX i0];refine⟨⟨hc,i0,h1⟩,?_,?_,?_,?_,?_,⟨hcell rfl rfl,hrow rfl,hrow2 rfl⟩,?_,?_⟩<;>omega
 ·rw[show i.toNat=nR p by omega];rfl
def ny (g:Game):Prop:=(g.rows.length=g.bounds.length/\g.bounds.length<=1000/\g.offers.length<=1000)/\(∀r∈g.rows,r.length=g.offers.length/\∀x∈r,0<=x/\x<=1000)/\∀b∈g.bounds, -1000<=b/\b<=1000
def pI (g:Game) (c:List Int):Prop:=∀x∈c,0<=(bj g.offers x.toNat bp.off.dflt).value/\(bj g.offers x.toNat bp.off.dflt).value<=1000000
def oV (g:Game) (c:List Int):Prop:=c.length<=1000/\∀x∈c,0<=x/\x<g.offers.length
def lY (g:Game) (c:List Int) (r:Nat):Int:=(c.map λx=>bj (bj g.rows r []) x.toNat 0).sum
def kV (g:Game) (c:List Int):Bool:=(ψ g.bounds.length).all λr=>decide (0<=bj g.bounds r 0 - lY g c r)
def dI (g:Game) (c:List Int):Int:=(c.map λx=>(bj g.offers x.toNat bp.off.dflt).value).sum
theorem Sm {f:Int->Int} {c:List Int} {i:Int} (a:0<=i) (h:i<c.length):((c.take (i+1).toNat).map f).sum=((c.take i.toNat).map f).sum+f (bj c i.toNat 0):=by
 grind[kC]
theorem Js {f:Int->Int} {c:List Int} {k:Nat} {m:Int} (b:0<=m) (h:∀x∈c,0<=f x/\f x<=m):0<=((c.take k).map f).sum/\((c.take k).map f).sum<=c.length*m:=by
 induction c generalizing k with
 |nil=>simp;|cons x c a=>
  cases k with
  |zero=>simp;exact Int.mul_nonneg (by omega) b;|succ k=>
   have i:=h x (by simp);obtain⟨g,e⟩:=a (k:=k) λy d=>h y (by simp[d]);simp only[List.take_succ_cons,ξ,List.sum_cons,List.length_cons];grind
def D5:bL:=⟨54,Game×List Int,.cons AB (.one (dM (.i .i64))),λa=>ny a.1/\oV a.1 a.2,λa=> .sb (kV a.1 a.2)⟩
def abZ (g:Game) (c:List Int):Nat->cC
 |2=> .inv Int (λi=>⟨[(1,.row (.i .i64) c),(2,.ptr 0 0 3),(10,.row (.i .i64) g.bounds),(11,.si .i64 g.bounds.length),(12,.si .i64 i)],[.cells [.row (.bH (.i .i64)) g.rows,.row (.i .i64) g.bounds,.row .off g.offers] 90 3 false]⟩)
   (λs=>iS s 12) (λi=>(0<=i/\i<=g.bounds.length)/\∀r:Nat,r<i->0<=bj g.bounds r 0 - lY g c r) (λi=>(g.bounds.length - i).toNat) λi k=>match k with
   |5=> .inv (Int×Int) (λy=>⟨[(1,.row (.i .i64) c),(2,.ptr 0 0 3),(5,.si .i64 i),(6,.si .i64 y.2),(10,.row (.i .i64) g.bounds),(11,.si .i64 g.bounds.length),(12,.si .i64 i),(17,.row (.i .i64) c),(18,.si .i64 c.length),(19,.si .i64 y.1)],[.cells [.row (.bH (.i .i64)) g.rows,.row (.i .i64) g.bounds,.row .off g.offers] 90 3 false]⟩)
     (λs=>(iS s 19,iS s 6)) (λy=>(0<=y.1/\y.1<=c.length)/\y.2=bj g.bounds i.toNat 0 - lY g (c.take y.1.toNat) i.toNat) (λy=>(c.length - y.1).toNat) λ_ _=> .look
   |_=> .look
 |_=> .look
theorem h327:Holds Tryz.prog D5:=by
 refine cF (L:=[]) D5 (λa=>abZ a.1 a.2) (by simp) ?_;rintro⟨g,c⟩ ⟨⟨⟨q1,q2,q3⟩,hr,hb⟩,hcl,hci⟩;simp only at q1 q2 q3 hr hb hcl hci;refine bO (let a:=(0:Int);let b:=γe .i64;let d:=Θ;let e:=γx .i64 0;let f:=cn .i64;let h:=bp.i .i64;let k:=γP 0 0 3;let j:=d h g.bounds;let z:=(↑g.bounds.length:Int);let l:=(↑g.bounds.length:Int);let o:=b l;let m:=bq.cells [d h.bH g.rows,j,d bp.off g.offers] 90 3 false;let n:=(↑c.length:Int);let v:=b n;((((d h c).same (d h c)/\k.same k/\j.same j/\(b z).same o/\(e).same (b 0)/\True)/\m.same m/\True)/\(a<=a/\a<=l)/\∀(r:Nat),(↑r:Int)<a->a<=bj g.bounds r a - lY g c r)/\∀(x:Int),let s:=bj g.bounds x.toNat a;let A:=b s;let w:=bj g.rows x.toNat h.bH.dflt;let p:=x+(1:Int);let B:=b p;((a<=x/\x<=l)/\∀(r:Nat),(↑r:Int)<x->a<=bj g.bounds r a - lY g c r)->(decide (x<l)=true->a<=x/\x<z/\x.toNat<g.bounds.length/\((((d h c).same (d h c)/\k.same k/\(b x).same (b x)/\A.same A/\j.same j/\o.same o/\(b x).same (b x)/\(d h c).same (d h c)/\(b (↑c.length:Int)).same v/\(e).same (b 0)/\True)/\m.same m/\True)/\(a<=a/\a<=n)/\s=s - lY g [] x.toNat)/\∀(x_1:Int×Int),let t:=bj c x_1.fst.toNat a;let y:=x_1.snd - bj w t.toNat a;let q:=x_1.fst+(1:Int);let u:=b x;let C:=b y;let D:=b q;let E:=decide (x_1.snd<a);(a<=x_1.fst/\x_1.fst<=n)/\x_1.snd=s - lY g (ω x_1.fst.toNat c) x.toNat->(decide (x_1.fst<n)=true->a<=x_1.fst/\x_1.fst<(↑c.length:Int)/\x_1.fst.toNat<c.length/\a<=x/\x<(↑g.rows.length:Int)/\x.toNat<g.rows.length/\a<=t/\t<(↑w.length:Int)/\t.toNat<w.length/\f y/\f q/\(((d h c).same (d h c)/\k.same k/\u.same u/\C.same C/\j.same j/\o.same o/\u.same u/\(d h c).same (d h c)/\v.same v/\D.same D/\True)/\m.same m/\True)/\((a<=q/\q<=n)/\y=s - lY g (ω q.toNat c) x.toNat)/\(n - q).toNat<(n - x_1.fst).toNat)/\(decide (x_1.fst<n)=false->(E=true->(δa false).same (γw (kV g c)))/\(E=false->f p/\(((d h c).same (d h c)/\k.same k/\j.same j/\o.same o/\B.same B/\True)/\m.same m/\True)/\((a<=p/\p<=l)/\∀(r:Nat),(↑r:Int)<p->a<=bj g.bounds r a - lY g c r)/\(l - p).toNat<(l - x).toNat)))/\(decide (x<l)=false->(δa true).same (γw (kV g c)))) (by kernel_rfl) ?_;simp only[vcs];have hd:(bp.i IntKind.i64).bH.dflt=([]:List Int):=rfl;rw[hd];have hrr:∀r:Nat,r<g.rows.length->(bj g.rows r []).length=g.offers.length/\∀x∈c,0<=bj (bj g.rows r []) x.toNat 0/\bj (bj g.rows r []) x.toNat 0<=1000:=λr h=>by
  have:=hr _ (dj (d:=[]) h);refine⟨this.1,λx hx=>?_⟩;have h2:=hci x hx;exact this.2 _ (dj (by rw[this.1];omega))
 refine⟨⟨by omega,λr h=>by omega⟩,?_⟩;rintro i ⟨⟨i0,i1⟩,hdone⟩;refine⟨λhi=>⟨i0,hi,by omega,⟨by omega,by simp[lY]⟩,?_⟩,λhi=>?_⟩
 ·obtain⟨hrl,hrx⟩:=hrr i.toNat (by omega);have hbi:=hb _ (dj (d:=0) (show i.toNat<g.bounds.length by omega));rintro⟨j,v⟩ ⟨⟨j0,j1⟩,hv⟩;simp only at j0 j1 hv ⊢;refine⟨λhj=>?_,λhj=>?_⟩
  ·have hx:=hci _ (dj (d:=0) (show j.toNat<c.length by omega));have hs:lY g (c.take (j+1).toNat) i.toNat=lY g (c.take j.toNat) i.toNat+bj (bj g.rows i.toNat []) (bj c j.toNat 0).toNat 0:=Sm (f:=λx=>bj (bj g.rows i.toNat []) x.toNat 0) j0 hj;have hbd:0<=lY g (c.take j.toNat) i.toNat/\lY g (c.take j.toNat) i.toNat<=c.length*1000:=Js (f:=λx=>bj (bj g.rows i.toNat []) x.toNat 0) (m:=1000) (by omega) hrx;have hvx:=hrx _ (dj (d:=0) (show j.toNat<c.length by omega));rw[hs,hrl];refine⟨j0,hj,?_,i0,?_,?_,hx.1,hx.2,?_,?_,?_,⟨?_,?_⟩,?_⟩<;>omega
  ·have hjc:j.toNat=c.length:=by omega
   rw[hjc,π] at hv;refine⟨λhneg=>?_,λhpos=>⟨by omega,⟨by omega,λr h=>?_⟩,by omega⟩⟩
   ·symm;rw[<-Bool.not_eq_true,kV,κ];intro h;have:=of_decide_eq_true (h i.toNat (γm.2 (by omega)));omega
   ·by_cases h2:(r:Int)<i;·exact hdone r h2
    ·rw[show r=i.toNat by omega,<-hv];omega
 ·symm;rw[kV,κ];intro r h;rw[γm] at h;exact decide_eq_true (hdone r (by omega))
def ye:bL:=⟨51,Game×List Int,.cons AB (.one (dM (.i .i64))),λa=>ny a.1/\oV a.1 a.2/\pI a.1 a.2,λa=> .si .i64 (dI a.1 a.2)⟩
def ab0 (g:Game) (c:List Int):Nat->cC
 |3=> .inv Int (λi=>⟨[(2,.ptr 0 0 3),(5,.si .i64 (dI g (c.take i.toNat))),(8,.row (.i .i64) c),(9,.si .i64 c.length),(10,.si .i64 i)],[.cells [.row (.bH (.i .i64)) g.rows,.row (.i .i64) g.bounds,.row .off g.offers] 90 3 false]⟩)
   (λs=>iS s 10) (λi=>0<=i/\i<=c.length) (λi=>(c.length - i).toNat) λ_ _=> .look
 |_=> .look
theorem h328:Holds Tryz.prog ye:=by
 refine cF (L:=[]) ye (λa=>ab0 a.1 a.2) (by simp) ?_;rintro⟨g,c⟩ ⟨⟨⟨q1,q2,q3⟩,hr,hb⟩,⟨hcl,hci⟩,hvv⟩;simp only[pI] at q1 q2 q3 hr hb hcl hci hvv;refine bO (let a:=γe .i64;let b:=(0:Int);let d:=Θ;let j:=γP 0 0 3;let n:=γx .i64 0;let f:=bp.i .i64;let e:=(↑c.length:Int);let m:=a e;let k:=bq.cells [d f.bH g.rows,d f g.bounds,d bp.off g.offers] 90 3 false;(((j.same j/\n.same (a (dI g []))/\(d f c).same (d f c)/\(a (↑c.length:Int)).same m/\n.same (a 0)/\True)/\k.same k/\True)/\b<=b/\b<=e)/\∀(x:Int),let l:=bj c x.toNat b;let o:=dI g (ω x.toNat c);let p:=o+(bj g.offers l.toNat bp.off.dflt).value;let h:=x+(1:Int);let q:=a h;b<=x/\x<=e->(decide (x<e)=true->b<=x/\x<(↑c.length:Int)/\x.toNat<c.length/\b<=l/\l<(↑g.offers.length:Int)/\l.toNat<g.offers.length/\cn .i64 p/\cn .i64 h/\((j.same j/\(a p).same (a (dI g (ω h.toNat c)))/\(d f c).same (d f c)/\m.same m/\q.same q/\True)/\k.same k/\True)/\(b<=h/\h<=e)/\(e - h).toNat<(e - x).toNat)/\(decide (x<e)=false->(a o).same (a (dI g c)))) (by kernel_rfl) ?_;conv=>zeta
 try simp only[vcs]
 refine⟨⟨by simp[dI],by omega,by omega⟩,?_⟩;rintro i ⟨i0,i1⟩;refine⟨λhi=>?_,λhi=>?_⟩
 ·have hx:=hci _ (dj (d:=0) (show i.toNat<c.length by omega));have hs:dI g (c.take (i+1).toNat)=dI g (c.take i.toNat)+(bj g.offers (bj c i.toNat 0).toNat bp.off.dflt).value:=Sm (f:=λx=>(bj g.offers x.toNat bp.off.dflt).value) i0 hi;have hbd:0<=dI g (c.take i.toNat)/\dI g (c.take i.toNat)<=c.length*1000000:=Js (f:=λx=>(bj g.offers x.toNat bp.off.dflt).value) (m:=1000000) (by omega) hvv;have hv1:=hvv _ (dj (d:=0) (show i.toNat<c.length by omega));rw[hs];refine⟨i0,hi,by omega,hx.1,hx.2,by omega,by omega,by omega,by first|trivial|rfl,by omega,by omega⟩
 ·rw[show i.toNat=c.length by omega,π]
def D6:bL:=⟨53,List Int×List Int,.cons (dM (.i .i64)) (.one (dM (.i .i64))),λa=>a.1.length<=1000/\1<=a.2.length/\a.2.length<=1000,λa=> .row (.i .i64) (eX (a.1++a.2))⟩
theorem h326:Holds Tryz.prog D6:=by
 refine con (L:=[]) (W:=gB [vW,AA]) D6 lk (ln (by simpa using⟨h330o,h337⟩)) (by simp) ?_;rintro⟨s,x⟩ ⟨h1,h2,h3⟩;simp only at h1 h2 h3;refine bO (let z0:Nat:=(s++x).length;s.length<=1000000/\s.length=s.length/\(s.length+x.length)*8<=140737488355328/\s.length+x.length<=1000000000000/\((s++x).length=z0/\1<=z0/\z0<=1000000)/\(s++x).length=(eX (s++x)).length/\(Θ (bp.i .i64) (eX (s++x))).same (Θ (bp.i .i64) (eX (s++x)))) (by kernel_rfl) ?_;conv=>zeta
 try simp only[vcs]
 have:=@vV (s++x);rw[γg] at this ⊢;omega
def Jt:bL:=⟨81,List Int×Int,.cons (dM (.i .i64)) (.one (eK .i64)),λa=>a.1.length<=1000/\0<=a.2/\a.2<a.1.length,λa=> .row (.i .i64) (a.1.take a.2.toNat++a.1.drop (a.2+1).toNat)⟩
theorem h339:Holds Tryz.prog Jt:=by
 refine con (L:=[]) (W:=gB [vW,vX]) Jt lk (ln (by grind[h330o,h347])) (by simp) ?_;rintro⟨s,i⟩ ⟨d,e,f⟩;simp only at d e f;refine bO (let a:=i+(1:Int);let c:=lv s i.toNat a.toNat;let b:=s.length - (a - i).toNat;s.length<=1000000/\cn .i64 a/\((s.length=s.length/\1<=s.length/\s.length<=1000000)/\(0:Int)<=i/\i<=a/\a<=(↑s.length:Int))/\s.length=c.length/\0+b<=s.length/\(Θ (bp.i .i64) (ω b c)).same (Θ (bp.i .i64) (ω i.toNat s++List.drop a.toNat s))) (by kernel_rfl) ?_;conv=>zeta
 try simp only[vcs]
 have g:=@Sj s i.toNat (i+1).toNat (by omega) (by omega);refine⟨by omega,by omega,by omega,g.symm,by omega,?_⟩;unfold lv;rw[List.take_append_of_le_length (by grind),γn (by grind)]
def sC (c:List Int) (x:Int):Int:=if x∈c then(c.idxOf x:Int) else -1
theorem ab1 {c:List Int} {x:Int} {k:Nat} (h:k<c.length) (b:∀j:Nat,j<k->bj c j 0≠x) (a:bj c k 0=x):sC c x=k:=by
 unfold sC;rw[if_pos (a▸dj h)];congr 1;rw[cV h] at a;rw[List.idxOf,List.findIdx_eq h];grind[cV]
theorem ab2 {c:List Int} {x:Int} (a:∀j:Nat,j<c.length->bj c j 0≠x):sC c x= -1:=by
 unfold sC;rw[if_neg];intro h;obtain⟨k,b,rfl⟩:=γF h;grind[cV]
theorem ab3 {c:List Int} {x:Int}:0<=sC c x↔x∈c:=by
 grind[sC]
def Ju:bL:=⟨121,List Int×Int,.cons (dM (.i .i64)) (.one (eK .i64)),λa=>a.1.length<=1000,λa=> .si .i64 (sC a.1 a.2)⟩
def ab4 (c:List Int) (x:Int):Nat->cC
 |2=> .inv Int (λi=>⟨[(0,.row (.i .i64) c),(1,.si .i64 x),(7,.si .i64 c.length),(8,.si .i64 i)],[]⟩)
   (λs=>iS s 8) (λi=>(0<=i/\i<=c.length)/\∀k:Nat,(k:Int)<i->bj c k 0≠x) (λi=>(c.length - i).toNat) λ_ _=> .look
 |_=> .look
theorem h348:Holds Tryz.prog Ju:=by
 refine cF (L:=[]) Ju (λa=>ab4 a.1 a.2) (by simp) ?_;rintro⟨c,x⟩ o;replace o:c.length<=1000:=o;refine bO (let a:=γe .i64;let h:=(0:Int);let f:=Θ (bp.i .i64) c;let d:=(↑c.length:Int);let g:=a d;let n:=a (sC c x);(((f.same f/\(a x).same (a x)/\(a (↑c.length:Int)).same g/\(γx .i64 0).same (a 0)/\True)/\True)/\(h<=h/\h<=d)/\∀(k:Nat),(↑k:Int)<h->bj c k h≠x)/\∀(b:Int),let l:=decide (x=bj c b.toNat h);let e:=b+(1:Int);let j:=a x;let m:=a e;((h<=b/\b<=d)/\∀(k:Nat),(↑k:Int)<b->bj c k h≠x)->(decide (b<d)=true->h<=b/\b<(↑c.length:Int)/\b.toNat<c.length/\(l=true->(a b).same n)/\(l=false->cn .i64 e/\((f.same f/\j.same j/\g.same g/\m.same m/\True)/\True)/\((h<=e/\e<=d)/\∀(k:Nat),(↑k:Int)<e->bj c k h≠x)/\(d - e).toNat<(d - b).toNat))/\(decide (b<d)=false->(γx .i64 (-1:Int)).same n)) (by kernel_rfl) ?_;conv=>zeta
 try simp only[vcs]
 refine⟨⟨by omega,λk h=>by omega⟩,?_⟩;grind[ab1,ab2]
def Jv:bL:=⟨82,List Int×Int,.cons (dM (.i .i64)) (.one (eK .i64)),λa=>a.1.length<=1000,λa=> .sb (decide (a.2∈a.1))⟩
theorem h340:Holds Tryz.prog Jv:=by
 refine cF (L:=[Ju]) Jv lk (by grind[h348]) ?_;rintro⟨c,x⟩ a;replace a:c.length<=1000:=a;refine bO (c.length<=1000/\(γw (decide ((0:Int)<=sC c x))).same (γw (decide (x∈c)))) (by kernel_rfl) ?_;simp_all[ab3]
theorem AE {p:bn} (a:bB p=0) {r:Int}:0<=df p r/\df p r<=4:=by
 obtain⟨_,_,b,c,_⟩:=dN a;unfold df;split;·omega
 ·split;all_goals simp_all[Hw]
theorem Sr {p:bn} (h:p.offers.length<=1000):ny (cO p):=by
 have j:nR p<=20:=by
  unfold nR;split
  ·rename_i a;have:=(dN a).1;omega
  ·omega
 have d:0<nR p->bB p=0:=by
  grind[nR]
 refine⟨⟨?_,?_,h⟩,λr f=>?_,λb g=>?_⟩
 ·show(lX p (nR p)).length=(kg p (nR p)).length;rw[Sl,D3]
 ·show(kg p (nR p)).length<=1000;grind[D3]
 ·obtain⟨k,c,rfl⟩:=γa.1 (show r∈lX p (nR p) from f);rw[γm] at c;have a:=d (by omega);refine⟨by simp[iy,cO],λx i=>?_⟩;obtain⟨o,e,rfl⟩:=γa.1 (show x∈iy p k p.offers.length from i);have:=pD (p:=p) (r:=k) ((dN a).2.2.2.2 o (γd e)).2.2.1;omega
 ·obtain⟨k,c,rfl⟩:=γa.1 (show b∈kg p (nR p) from g);rw[γm] at c;have:=AE (d (by omega)) (r:=k);omega
def stepG (g:Game) (c:List Int) (x:Int):List Int:=if kV g (eX (c++[x]))=true then eX (c++[x]) else c
def ob (g:Game) (l:List Int):List Int:=l.foldl (stepG g) []
def gJ (p:bn):List Int:=if bB p=0 then vK p else[]
def jO (p:bn):List Int:=ob (cO p) (gJ p)
theorem D7 {l:List Int} {x:Int}:x∈eX l↔x∈l:=(εt _ _).mem_iff
theorem Ss {g:Game} {c:List Int} {x y:Int} (h:y∈stepG g c x):y∈c\/y=x:=by
 grind[stepG,D7]
theorem ab5 {g:Game} {c:List Int} {x:Int}:(stepG g c x).length<=c.length+1:=by
 grind[stepG,vV]
theorem ab6 {g:Game} {l:List Int}:∀{c:List Int} {y:Int},y∈l.foldl (stepG g) c->y∈c\/y∈l:=by
 induction l<;>grind[Ss]
theorem ab7 {g:Game} {l:List Int}:∀{c:List Int},(l.foldl (stepG g) c).length<=c.length+l.length:=by
 induction l<;>grind[stepG,ab5]
theorem ab8 {g:Game} {l:List Int}:(ob g l).length<=l.length:=by
 grind[ab7,ob]
theorem ab9 {g:Game} {l:List Int} {i:Int} (a:0<=i) (h:i<l.length):ob g (l.take (i+1).toNat)=stepG g (ob g (l.take i.toNat)) (bj l i.toNat 0):=by
 grind[ob,kC]
theorem Jw {p:bn} {x:Int} (h:x∈gJ p):bB p=0/\mr p x:=by
 unfold gJ at h;split at h
 ·rename_i a;rw[vK,IE,nk] at h;exact⟨a,h⟩
 ·simp at h
theorem Sv {p:bn}:(gJ p).length<=p.offers.length:=by
 grind[gJ,vK,sw,gG]
theorem acd {p:bn} (hp:p.offers.length<=20) {k:Nat}:(ob (cO p) ((gJ p).take k)).length<=40/\∀x∈ob (cO p) ((gJ p).take k),bB p=0/\mr p x:=by
 have h1:=@ab8 (cO p) ((gJ p).take k);have h2:=@Sv p;rw[γq] at h1;refine⟨by omega,λx hx=>?_⟩;rcases ab6 hx with h|h;·simp at h
 ·exact Jw (γd h)
def AG:bL:=⟨28,bn,.one dE,λp=>p.offers.length<=20,λp=>jZ.put ⟨jO p,dI (cO p) (jO p)⟩⟩
def ace (p:bn):Nat->cC
 |4=> .inv Int (λi=>⟨[(2,.ptr 1 0 2),(3,.ptr 2 0 3),(4,.row (.i .i64) (ob (cO p) ((gJ p).take i.toNat))),(11,.row (.i .i64) (gJ p)),(12,.si .i64 (gJ p).length),(13,.si .i64 i)],[.cells p.ss 27 20 false,.cells [.sc (.slice none 0 0),.il .i64 0] 31 2 false,.cells [.row (.bH (.i .i64)) (cO p).rows,.row (.i .i64) (cO p).bounds,.row .off (cO p).offers] 90 3 false,.dead]⟩)
   (λs=>iS s 13) (λi=>0<=i/\i<=(gJ p).length) (λi=>((gJ p).length - i).toNat) λ_ _=> .look
 |_=> .look
theorem h312:Holds Tryz.prog AG:=by
 refine cF (L:=[D4,IW,D6,D5,ye]) AG ace (by simpa using⟨h325,h308,h326,h327,h328⟩) ?_;intro(p:bn) (hp:p.offers.length<=20);refine bO (let a:=γe .i64;let b:=Θ;let c:=(0:Int);let d:=bq.cells;let j:=γP 1 0 2;let k:=γP 2 0 3;let e:=bp.i .i64;let s:=if bB p=c then vK p else[];let o:=b e (gJ p);let f:=(↑(gJ p).length:Int);let q:=a f;let t:=γx .i64 0;let l:=d [a p.supply.a0,a p.supply.a1,a p.supply.a2,a p.supply.a3,a p.supply.a4,a p.supply.a5,a p.opn.a0,a p.opn.a1,a p.opn.a2,a p.opn.a3,a p.opn.a4,a p.opn.a5,a p.cls.a0,a p.cls.a1,a p.cls.a2,a p.cls.a3,a p.cls.a4,a p.cls.a5,b e p.classes,b bp.off p.offers] 27 20 false;let m:=d [SV.sc (Value.slice none 0 0),t] 31 2 false;let n:=d [b e.bH (cO p).rows,b e (cO p).bounds,b bp.off (cO p).offers] 90 3 false;True/\0=0/\p.offers.length<=20/\(((j.same j/\k.same k/\(b e []).same (b e (ob (cO p) []))/\(b e s).same o/\(a (↑s.length:Int)).same q/\t.same (a 0)/\True)/\l.same l/\m.same m/\n.same n/\bq.dead.same bq.dead/\True)/\c<=c/\c<=f)/\∀(x:Int),let g:=ob (cO p) (ω x.toNat (gJ p));let r:=eX (g++[bj (gJ p) x.toNat c]);let h:=x+(1:Int);let v:=a h;let w:=λ(u:Bool) (u_1:List Int) ↦kV (cO p) r=u->cn .i64 h/\((j.same j/\k.same k/\(b e u_1).same (b e (ob (cO p) (ω h.toNat (gJ p))))/\o.same o/\q.same q/\v.same v/\True)/\l.same l/\m.same m/\n.same n/\bq.dead.same bq.dead/\True)/\(c<=h/\h<=f)/\(f - h).toNat<(f - x).toNat;c<=x/\x<=f->(decide (x<f)=true->c<=x/\x<(↑(gJ p).length:Int)/\x.toNat<(gJ p).length/\(g.length<=1000/\1<=1/\1<=1000)/\(ny (cO p)/\oV (cO p) r)/\w true r/\w false g)/\(decide (x<f)=false->(ny (cO p)/\oV (cO p) g/\pI (cO p) g)/\(γQ [b e g,a (dI (cO p) g)]).same (γQ [b e (jO p),a (dI (cO p) (jO p))]))) (by kernel_rfl) ?_;conv=>zeta
 try simp only[vcs]
 have hg:=@Sr p (by omega);have hol:=@Sv p;have e0:(if bB p=0 then vK p else[])=gJ p:=rfl;rw[e0];refine⟨hp,⟨⟨rfl,rfl,rfl⟩,by omega,by omega⟩,?_⟩
 ·rintro i ⟨i0,i1⟩;obtain⟨hsl,hsm⟩:=@acd p hp i.toNat;refine⟨λhi=>?_,λhi=>?_⟩
  ·have hs:=@ab9 (cO p) (gJ p) i i0 hi;have hx:=Jw (dj (d:=0) (show i.toNat<(gJ p).length by omega));rw[hs];generalize ob (cO p) ((gJ p).take i.toNat)=c at*;refine⟨i0,hi,by omega,⟨by omega,by omega,by omega⟩,⟨hg,by rw[vV,γg];simp;omega,λx h=>?_⟩,λh=>⟨by omega,by unfold stepG;rw[if_pos h],by omega,by omega⟩,λh=>⟨by omega,by unfold stepG;rw[if_neg (by rw[h];simp)],by omega,by omega⟩⟩;rw[D7,γh] at h;rcases h with h|h;·exact(hsm x h).2
   ·rw[List.mem_singleton] at h;rw[h];exact hx.2
  ·have hk:(gJ p).take i.toNat=gJ p:=γn (by omega);rw[hk] at hsl hsm ⊢;refine⟨⟨hg,⟨by omega,λx h=>(hsm x h).2⟩,λx h=>?_⟩,rfl⟩;obtain⟨hc,hx⟩:=hsm x h;have:=(Aa hc hx).1;have e:(bj (cO p).offers x.toNat bp.off.dflt).value=rl p x:=rfl;rw[e];omega
def ef (t0:Tb) (v:Int):Rat:=if v∈t0.free then t0.cs (t0.free.idxOf v) else 0
section
variable {n m:Nat} {t t0:Tb}
theorem Run.goal (h:Run n m t0 t) {x:Int->Rat} {z:Rat} (d:t.holds n m x z):z=t0.value+(bN m (λk=>ef t0 (t.bv k)*x (t.bv k))+bN n (λj=>ef t0 (t.fv j)*x (t.fv j))):=by
 have a:∀t:Tb,t.WF n m->lW (λv=>ef t0 v*x v) (t.basic++t.free)=bN m (λk=>ef t0 (t.bv k)*x (t.bv k))+bN n (λj=>ef t0 (t.fv j)*x (t.fv j)):=λt c=>by
  rw[Au,pH,pH,c.basic,c.free];rfl
 rw[<-a t h.wf,Jf h.perm,a t0 h.nZ];rw[dn (n:=m) (g:=λ_=>0) λk e=>by
  unfold ef;rw[if_neg (Jg h.nZ h.nd e)];grind,hZ];rw[dn (n:=n) (g:=λj=>t0.cs j*x (t0.fv j)) λj b=>by
  have i:j<t0.free.length:=by rw[h.nZ.free];exact b
  unfold ef;rw[if_pos (vR h.nZ b),show t0.free.idxOf (t0.fv j)=j from oR (γu.1 h.nd).2.1 i]];have f:=(((h.mC _ _).1 d).2);rw[f];grind
theorem Run.val (h:Run n m t0 t):t.value=t0.value+bN m λk=>ef t0 (t.bv k)*t.bd k:=by
 have a:=h.goal (asg_holds h.wf h.fY (y:=λ_=>0));rw[dn (n:=n) (f:=λj=>t.cs j*(λ_=>(0:Rat)) j) (g:=λ_=>0) λj _=>by grind,hZ] at a;rw[dn (n:=n) (f:=λj=>ef t0 (t.fv j)*jj n t (λ_=>0) (t.fv j)) (g:=λ_=>0) λj c=>by rw[mB h.wf h.fY c];grind,hZ] at a;rw[dn (n:=m) (g:=λk=>ef t0 (t.bv k)*t.bd k) λk b=>by
  rw[np h.wf h.fY b,dn (g:=λ_=>0) λj _=>by grind,hZ];grind] at a;grind
theorem uj {n c:Nat} {q:Rat} (d:c<n):bN n (λj=>if j=c then q else 0)=q:=by
 induction n with
 |zero=>omega;|succ n b=>
  unfold bN;by_cases h:c=n
  ·subst h;rw[if_pos rfl,dn (g:=λ_=>0) λj a=>by grind,hZ];grind
  grind
theorem D8 {f g:Nat->Rat}:∀{n:Nat},bN n (λj=>f j - g j)=bN n f - bN n g
 |0=>by grind[bN];|n+1=>by simp only[bN,@D8 f g n];grind
theorem Run.acf (h:Run n m t0 t) {c:Nat} (b:c<n):t.cs c=ef t0 (t.fv c) - bN m λk=>ef t0 (t.bv k)*t.cf k c:=by
 have a:=h.goal (asg_holds h.wf h.fY (y:=λj=>if j=c then 1 else 0));rw[dn (n:=n) (f:=λj=>t.cs j*(if j=c then(1:Rat) else 0)) (g:=λj=>if j=c then t.cs c else 0) λj _=>by
  grind,uj b] at a;rw[dn (n:=n) (f:=λj=>ef t0 (t.fv j)*jj n t (λj=>if j=c then 1 else 0) (t.fv j)) (g:=λj=>if j=c then ef t0 (t.fv c) else 0) λj e=>by
  rw[mB h.wf h.fY e];grind,uj b] at a;rw[dn (n:=m) (g:=λk=>ef t0 (t.bv k)*t.bd k - ef t0 (t.bv k)*t.cf k c) λk d=>by
  rw[np h.wf h.fY d,dn (g:=λj=>if j=c then t.cf k c else 0) λj _=>by
   grind,uj b];grind,D8,h.val] at a;grind
end
theorem Jx {M K:Nat} {p q:Rat} (e:eW M p) (f:eW K q):eW (M*K) (p*q):=by
 obtain⟨a,rfl,d⟩:=e;obtain⟨b,rfl,c⟩:=f;exact⟨a*b,by simp_all,by rw[Int.natAbs_mul];exact ε6 d c⟩
theorem SA {M K:Nat} {p q:Rat} (d:eW M p) (c:eW K q):eW (M+K) (p+q):=by
 obtain⟨a,rfl,f⟩:=d;obtain⟨b,rfl,e⟩:=c;exact⟨a+b,by simp_all,by omega⟩
theorem acg {M:Nat} {p:Rat} (b:eW M p):eW M (-p):=by
 obtain⟨a,rfl,c⟩:=b;exact⟨-a,by simp_all,by omega⟩
theorem SB {M:Nat}:eW M 0:=⟨0,rfl,by simp⟩
theorem eW.le {M K:Nat} {p:Rat} (b:eW M p) (h:M<=K):eW K p:=by
 obtain⟨a,rfl,c⟩:=b;exact⟨a,rfl,by omega⟩
theorem Jy {M:Nat} {f:Nat->Rat}:∀{n:Nat},(∀k,k<n->eW M (f k))->eW (n*M) (bN n f)
 |0,_=>by grind[bN,SB];|n+1,h=>by
  have a:=SA (@Jy M f n λk b=>h k (by omega)) (h n (by omega));grind[bN]
theorem Jz {f:Nat->Rat} {d:Rat}:∀{n:Nat},bN n f*d=bN n λk=>f k*d
 |0=>by grind[bN];|n+1=>by
  have:=@Jz f d n;grind[bN]
theorem ach {X k:Nat} {q D:Rat} (f:eW X (q*D)) (c:eW X D) (g:D≠0) (o:X<4294967296^k):Sz k q:=by
 obtain⟨a,p,l⟩:=f;obtain⟨d,rfl,m⟩:=c;have b:d≠0:=λh=>g (by subst h;rfl);have n:((4294967296^k:Nat):Int)=(4294967296:Int)^k:=by
  simp_all
 have i:(X:Int)<4294967296^k:=by
  omega
 have e:q=mkRat (a*d.sign) d.natAbs:=by
  have f:mkRat (a*d.sign) d.natAbs=((a*d.sign:Int):Rat) / ((d.natAbs:Int):Rat):=by
   rw[Rat.mkRat_eq_div];rfl
  have c:((d.natAbs:Int):Rat)=(d:Rat)*(d.sign:Rat):=by
   rw[<-Rat.intCast_mul];simp_all
  have j:(d.sign:Rat)*(d.sign:Rat)=1:=by
   rw[<-Rat.intCast_mul];rcases Int.lt_or_lt_of_ne b with h|h;·rw[Int.sign_eq_neg_one_of_neg h];rfl
   grind
  grind
 rw[e];refine Ak (by omega) ?_ (by omega);grind
structure Small (n m M G:Nat) (t0:Tb):Prop where
 wf:t0.WF n m
 nd:(t0.basic++t0.free).Nodup
 cf:∀i j,i<m->j<n->eW M (t0.cf i j)
 bd:∀i,i<m->eW M (t0.bd i)
 cs:∀j,j<n->eW G (t0.cs j)
 v:t0.value=0
 M1:1<=M
 G1:M<=G
 X:(m+2)*(G*nn M m)<4294967296^1000
theorem aci {a b c:Nat} (h:1<=a) (d:1<=b):c<=a*(b*c):=by
 have e:1*(1*c)<=a*(b*c):=ε6 h (ε6 d (φ _));omega
theorem Small.goal {n m M G:Nat} {t0:Tb} (h:Small n m M G t0) {v:Int}:eW G (ef t0 v):=by
 unfold ef;split
 ·rename_i a;exact h.cs _ (by rw[<-h.wf.free];grind)
 ·exact SB
theorem Small.SC {n m M G:Nat} {t0 t:Tb} (h:Small n m M G t0) (a:Run n m t0 t):(∀i,i<m->Sz 1000 (t.bd i))/\(∀j,j<n->Sz 1000 (t.cs j))/\Sz 1000 t.value/\∀i j,i<m->j<n->Sz 1000 (t.cf i j):=by
 have y:=a.abE h.M1 h.cf;have A:=h.X;have B:1<=G:=Nat.le_trans h.M1 h.G1;have u:nn M m<=(m+2)*(G*nn M m):=aci (by omega) B;have l:∀{q:Rat},eW ((m+2)*(G*nn M m)) (q*jk m t0 t)->Sz 1000 q:=λz=>ach z (y.le u) a.dt A;have d:∀r c,r<m->c<n->eW (nn M m) (t.cf r c*jk m t0 t):=λr c o d=>a.cfZ h.M1 h.cf o d;have x:∀r,r<m->eW (nn M m) (t.bd r*jk m t0 t):=λr o=>a.bdZ h.M1 h.cf h.bd o;refine⟨λi w=>l ((x i w).le u),λj b=>l ?_,l ?_,λi j w b=>l ((d i j w b).le u)⟩
 ·have e:=a.acf b;have p:t.cs j*jk m t0 t=ef t0 (t.fv j)*jk m t0 t+ -(bN m λk=>ef t0 (t.bv k)*(t.cf k j*jk m t0 t)):=by
   rw[e,dn (f:=λk=>ef t0 (t.bv k)*(t.cf k j*jk m t0 t)) (g:=λk=>(ef t0 (t.bv k)*t.cf k j)*jk m t0 t) λk _=>by grind,<-Jz];grind
  rw[p];refine(SA (Jx h.goal y) (acg (Jy λk s=>Jx h.goal (d k j s b)))).le ?_;grind
 ·have p:t.value*jk m t0 t=bN m λk=>ef t0 (t.bv k)*(t.bd k*jk m t0 t):=by
   rw[a.val,h.v,dn (f:=λk=>ef t0 (t.bv k)*(t.bd k*jk m t0 t)) (g:=λk=>(ef t0 (t.bv k)*t.bd k)*jk m t0 t) λk _=>by grind,<-Jz];grind
  rw[p];refine(Jy λk s=>Jx h.goal (x k s)).le ?_;grind
theorem Small.vU {n m M G:Nat} {t0 t:Tb} (h:Small n m M G t0) (b:Run n m t0 t):vU 1000000 t:=by
 obtain⟨g,r,k,o⟩:=h.SC b;have e:∀{f:Type} {l:List f} {P:f->Prop} {d:f},(∀i,i<l.length->P (bj l i d))->∀q∈l,P q:=λh q p=>by
  obtain⟨i,a,rfl⟩:=γF p;grind[cV]
 refine⟨e (d:=[]) λi a=>?_,e (d:=0) λi a=>?_,e (d:=0) λj c=>?_,k.mono (by omega)⟩
 ·rw[b.wf.ck] at a;refine e (d:=0) λj c=>?_;rw[b.wf.row i a] at c;exact(o i j a c).mono (by omega)
 ·rw[b.wf.bound] at a;exact(g i a).mono (by omega)
 ·rw[b.wf.cost] at c;exact(r j c).mono (by omega)
theorem SD {n m:Int} {M G:Nat} {t0 t:Tb} (h:Small n.toNat m.toNat M G t0) (a:Run n.toNat m.toNat t0 t) (c:0<=n/\n<=1000) (b:0<=m/\m<=1000):kK n m t:=⟨⟨c,b⟩,a.wf,h.vU a⟩
section
variable {n m:Nat} {t t0:Tb}
theorem SE:∀{N:Nat} {t:Tb},Run n m t0 t->j9 m t->Run n m t0 (runT n m N t)/\j9 m (runT n m N t)
 |0,t,b,a=>⟨b,a⟩
 |N+1,t,b,a=>by
  unfold runT;split;·simp_all
  ·rename_i d c;have:=Jj b a c;exact SE this.1 this.2
theorem run_end:∀{N:Nat} {t:Tb},fc n m N t=true->stepT n m (runT n m N t)=none
 |0,t,h=>γJ.1 h
 |N+1,t,h=>by
  unfold fc at h;unfold runT;split;·assumption
  ·rename_i b a;rw[a] at h;exact run_end h
theorem SG:∀{N K:Nat} {t:Tb},fc n m N t=true->N<=K->runT n m K t=runT n m N t
 |0,K,t,h,b=>by
  have d:=γJ.1 h;cases K<;>grind[runT];|N+1,K,t,h,b=>by
  obtain⟨K,rfl⟩:∃k,K=k+1:=⟨K - 1,by omega⟩;unfold fc at h;unfold runT;split;·rfl
  ·rename_i c a;rw[a] at h;exact SG h (by omega)
theorem SH {f:Nat->Rat}:∀{n:Nat},(∀k,k<n->f k<=0)->bN n f<=0
 |0,_=>by grind[bN];|n+1,h=>by
  have a:=@SH f n λk b=>h k (by omega);grind[bN]
theorem SI {a b:Rat} (d:a<=0) (c:0<=b):a*b<=0:=by
 have:=δw (a:= -a) (b:=b) (by grind) c;grind
theorem Run.best (h:Run n m t0 t) (d:eA t n<0) {x:Int->Rat} {z:Rat} (a:t0.holds n m x z) (b:∀j,j<n->0<=x (t.fv j)):z<=t.value:=by
 have c:=(((h.mC _ _).2 a).2);grind[ug,SH,SI]
theorem Run.bnd (h:Run n m t0 t) (q:j9 m t) {B:Rat} (F:∀x z,t0.holds n m x z->(∀v∈t0.basic++t0.free,0<=x v)->z<=B) {c:Nat} (I:eA t n=(c:Int)) (H:dV t c m<0):False:=by
 rcases @ug t n with⟨C,d⟩|⟨a,C,d,f,G⟩;·omega
 ·have A:a=c:=by omega
  subst A;rcases @vT t a m with⟨D,w⟩|⟨r,D,_⟩;·
   have k:∀s:Rat,0<=s->t.value+s*t.cs a<=B:=λs o=>by
    have p:=asg_holds h.wf h.fY (y:=λj=>if j=a then s else 0);have e:bN n (λj=>t.cs j*(λj=>if j=a then s else 0) j)=s*t.cs a:=by
     rw[dn (g:=λj=>if j=a then s*t.cs a else 0) λj _=>by
      grind,uj d]
    rw[e] at p;refine F _ _ ((h.mC _ _).1 p) λv b=>?_;rw[<-h.perm.mem_iff,γh] at b;rcases b with b|b
    ·obtain⟨i,l,rfl⟩:=yb h.wf b;rw[np h.wf h.fY l];have f:bN n (λj=>t.cf i j*(if j=a then s else 0))=t.cf i a*s:=by
      rw[dn (g:=λj=>if j=a then t.cf i a*s else 0) λj _=>by
       grind,uj d]
     rw[f];have:=SI (w i l) o;have:=q i l;grind
    ·obtain⟨j,E,rfl⟩:=vS h.wf b;rw[mB h.wf h.fY E];grind
   have u:=k 0 (by grind);have o:0<=(B - t.value+1) / t.cs a:=RS (by grind) f;grind[div_mul]
  ·omega
end
open Classical in
noncomputable def uk (n m:Nat) (t:Tb):Nat:=if h:∃N,fc n m N t=true then Classical.choose h else 0
noncomputable def lastT (n m:Nat) (t:Tb):Tb:=runT n m (uk n m t) t
section
variable {n m:Nat} {t t0 t':Tb}
theorem D9 {N:Nat} (h:fc n m N t=true):lastT n m t=runT n m N t:=by
 have a:∃N,fc n m N t=true:=⟨N,h⟩;have b:fc n m (uk n m t) t=true:=by
  unfold uk;grind
 grind[lastT,SG]
theorem SJ (h:stepT n m t=none):lastT n m t=t:=by
 have a:fc n m 0 t=true:=by simp[fc,h]
 rw[D9 a];rfl
theorem acj (a:∃N,fc n m N t=true) (h:stepT n m t=some t'):lastT n m t'=lastT n m t:=by
 obtain⟨N,a⟩:=a;have b:=RZ a h;rw[D9 b,D9 (Jk a)];grind[runT]
theorem JA (b:Run n m t0 t) (c:j9 m t):Run n m t0 (lastT n m t)/\j9 m (lastT n m t)/\stepT n m (lastT n m t)=none:=by
 obtain⟨N,a⟩:=Jl b c;rw[D9 a];grind[SE,run_end]
theorem SK (i:Run n m t0 t) (e:j9 m t) {B:Rat} (h:∀x z,t0.holds n m x z->(∀v∈t0.basic++t0.free,0<=x v)->z<=B):eA (lastT n m t) n<0:=by
 obtain⟨j,g,a⟩:=JA i e;rcases @ug (lastT n m t) n with⟨b,d⟩|⟨c,b,d,l,k⟩;·omega
 ·exfalso;unfold stepT at a;rw[if_neg (by omega),show(eA (lastT n m t) n).toNat=c by omega] at a;split at a
  ·rename_i f;exact j.bnd g h b f
  ·cases a
end
def bC (f:List Int) (d:Int):List Int:=(dH f.length).filter λi=>decide (bj f i.toNat 0=d)
theorem kh {f:List Int} {d x:Int}:x∈bC f d↔(0<=x/\x<f.length)/\bj f x.toNat 0=d:=by
 simp_all[bC,nk]
theorem sD {f:List Int} {d:Int}:(bC f d).Pairwise (·<·):=vJ.sublist List.filter_sublist
theorem um {f:List Int} {d:Int}:(bC f d).length<=f.length:=by
 have:=List.length_filter_le (λi:Int=>decide (bj f i.toNat 0=d)) (dH f.length);rw[gG] at this;exact this
theorem JB {a b:Type} {g:a->b} {l:List a} {i:Nat} {d:b} {e:a} (h:i<l.length):bj (l.map g) i d=g (bj l i e):=by
 grind[cV]
theorem JC {n j:Nat} {d:Int} (h:j<n):bj (dH n) j d=j:=by
 grind[dH,qH]
def cH (p:bn) (f:List Int):Tb where
 ck:=(ψ (p.classes.length+12)).map λr:Nat=>(bC f 0).map λi=>((dK p r (oI p i):Int):Rat);bound:=(ψ (p.classes.length+12)).map λr:Nat=>((df p r - cG p ((bC f 1).map (oI p)) r:Int):Rat);cost:=(bC f 0).map λi=>(((oI p i).value:Int):Rat);value:=0;basic:=(ψ (p.classes.length+12)).map λi:Nat=>(((bC f 0).length+i:Nat):Int);free:=dH (bC f 0).length
def eT (p:bn) (f:List Int):Prop:=bB p=0/\f.length=p.offers.length/\fy p ((bC f 1).map (oI p))=true
abbrev nF (f:List Int):Nat:=(bC f 0).length
abbrev mF (p:bn):Nat:=p.classes.length+12
section
variable {p:bn} {f:List Int}
theorem lx:(cH p f).WF (nF f) (mF p) where
 ck:=by simp[cH]
 row i a:=by
  grind[cH,qH]
 bound:=by simp[cH]
 cost:=by simp[cH]
 basic:=by simp[cH]
 free:=by simp[cH,gG]
theorem yf {i j:Nat} (b:i<mF p) (a:j<nF f):(cH p f).cf i j=((dK p i (oI p (bj (bC f 0) j 0)):Int):Rat):=by
 grind[Tb.cf,cH,qH,JB]
theorem yg {i:Nat} (a:i<mF p):(cH p f).bd i=((df p i - cG p ((bC f 1).map (oI p)) i:Int):Rat):=by
 grind[Tb.bd,cH,qH]
theorem AH {j:Nat} (a:j<nF f):(cH p f).cs j=(((oI p (bj (bC f 0) j 0)).value:Int):Rat):=by
 grind[Tb.cs,cH,JB]
theorem Ea {i:Nat} (a:i<mF p):(cH p f).bv i=(((nF f)+i:Nat):Int):=by
 grind[Tb.bv,cH,qH]
theorem vY {j:Nat} (a:j<nF f):(cH p f).fv j=j:=by
 grind[Tb.fv,cH,JC]
theorem qJ:((cH p f).basic++(cH p f).free).Nodup:=by
 rw[γu];refine⟨?_,vJ.imp λh=>by omega,?_⟩
 ·simp only[cH];refine List.Pairwise.map _ (λa b h=>?_) List.nodup_range;omega
 grind[cH,nk]
theorem yh (h:eT p f) {j:Nat} (a:j<nF f):(0<=bj (bC f 0) j 0/\bj (bC f 0) j 0<p.offers.length)/\bj f (bj (bC f 0) j 0).toNat 0=0:=by
 have:=kh.1 (dj (d:=0) a);rw[h.2.1] at this;exact this
theorem ki (a:bB p=0) {i:Int} (h:0<=i/\i<p.offers.length):0<=(oI p i).bX/\(oI p i).bX<p.classes.length/\(oI p i).want.ok=true/\1<=(oI p i).value/\(oI p i).value<=1000000:=(dN a).2.2.2.2 _ (dj (show i.toNat<p.offers.length by omega))
theorem Eb (h:eT p f) {d:Int}:∀x∈(bC f d).map (oI p),0<=x.bX/\x.bX<p.classes.length/\x.want.ok=true/\1<=x.value/\x.value<=1000000:=λx a=>by
 obtain⟨i,b,rfl⟩:=γa.1 a;have:=(kh.1 b).1;rw[h.2.1] at this;exact ki h.1 this
theorem JD {z:Int} {M:Nat} (h:z.natAbs<=M):eW M (z:Rat):=⟨z,rfl,h⟩
theorem SL (h:eT p f) {i:Nat} (b:i<mF p):0<=df p i - cG p ((bC f 1).map (oI p)) i/\df p i - cG p ((bC f 1).map (oI p)) i<=4:=by
 have c:i<p.classes.length+12:=b;have d:=nS.1 h.2.2 i (by grind[cZ]);have g:=@AE p h.1 i;have e:=@sf p i ((bC f 1).map (oI p)) λx a=>(Eb h x a).2.2.1;omega
theorem acn:∀m:Nat,m<=20->(m+2)*(1000000*nn 4 m)<4294967296^1000:=by
 have h:((ψ 21).all λm=>Nat.blt ((m+2)*(1000000*nn 4 m)) (4294967296^1000))=true:=by decide+kernel
 intro m a;have:=κ.1 h m (γm.2 (by omega));rw[Nat.blt_eq] at this;exact this
theorem Ec (h:eT p f):Small (nF f) (mF p) 4 1000000 (cH p f) where
 wf:=lx;nd:=qJ;cf i j b a:=by
  rw[yf b a];have:=(ki h.1 (yh h a).1).2.2.1;grind[pD,JD]
 bd i b:=by
  rw[yg b];have:=SL h b;exact JD (by omega)
 cs j a:=by
  rw[AH a];have:=ki h.1 (yh h a).1;grind[JD]
 v:=rfl;M1:=by omega
 G1:=by omega
 X:=acn _ (by have:=(dN h.1).1;grind)
theorem Ed {z:Int} (h:0<=z):(0:Rat)<=(z:Rat):=by exact_mod_cast h
theorem JE (h:eT p f):j9 (mF p) (cH p f):=λi a=>by
 rw[yg a];exact Ed (SL h a).1
theorem SN {g:Nat->Rat}:∀{n:Nat},(∀k,k<n->0<=g k)->0<=bN n g
 |0,_=>by grind[bN];|n+1,h=>by
  have a:=@SN g n λk b=>h k (by omega);grind[bN]
theorem Ee {g k:Nat->Rat}:∀{n:Nat},(∀i,i<n->g i<=k i)->bN n g<=bN n k
 |0,_=>by grind[bN];|n+1,h=>by
  have a:=@Ee g k n λk b=>h k (by omega);grind[bN]
theorem aco {g:Nat->Rat} {n j:Nat} (h:∀k,k<n->0<=g k) (a:j<n):g j<=bN n g:=by
 rw[DT a];grind[SN]
theorem SO (h:eT p f) {x:Int->Rat} {z:Rat} (d:(cH p f).holds (nF f) (mF p) x z) (e:∀v∈(cH p f).basic++(cH p f).free,0<=x v) {j:Nat} (b:j<nF f):x ((cH p f).fv j)<=1:=by
 obtain⟨l,_⟩:=yh h b;have r:=ki h.1 l;have a:(oI p (bj (bC f 0) j 0)).bX.toNat<mF p:=by grind
 have s:=d.1 _ a;have n:=e _ (List.mem_append_left _ (Ax lx a));have i:(cH p f).cf (oI p (bj (bC f 0) j 0)).bX.toNat j=1:=by
  rw[yf a b];unfold dK;rw[if_pos (by omega),if_pos (by omega)];rfl
 have m:=@aco (λk=>(cH p f).cf (oI p (bj (bC f 0) j 0)).bX.toNat k*x ((cH p f).fv k)) (nF f) j (λk c=>by
  refine δw ?_ (e _ (List.mem_append_right _ (vR lx c)));rw[yf a c];exact Ed (pD (ki h.1 (yh h c).1).2.2.1).1) b;simp only[i] at m;have t:(cH p f).bd (oI p (bj (bC f 0) j 0)).bX.toNat<=1:=by
  rw[yg a];have o:df p (oI p (bj (bC f 0) j 0)).bX.toNat=1:=by
   unfold df;omega
  have q:=@sf p (oI p (bj (bC f 0) j 0)).bX.toNat ((bC f 1).map (oI p)) λx d=>(Eb h x d).2.2.1;have g:df p (oI p (bj (bC f 0) j 0)).bX.toNat - cG p ((bC f 1).map (oI p)) (oI p (bj (bC f 0) j 0)).bX.toNat<=1:=by omega
  exact_mod_cast g
 grind
theorem SQ (h:eT p f) {x:Int->Rat} {z:Rat} (c:(cH p f).holds (nF f) (mF p) x z) (e:∀v∈(cH p f).basic++(cH p f).free,0<=x v):z<=bN (nF f) (cH p f).cs:=by
 have g:=c.2;have k:(cH p f).value=0:=rfl;have:=@Ee (λj=>(cH p f).cs j*x ((cH p f).fv j)) (cH p f).cs (nF f) λj a=>by
  have i:=SO h c e a;have d:0<=(cH p f).cs j:=by
   rw[AH a];exact Ed (by have:=ki h.1 (yh h a).1;omega)
  have:=δw d (b:=1 - x ((cH p f).fv j)) (by grind);grind
 grind
noncomputable def dq (p:bn) (f:List Int):Tb:=lastT (nF f) (mF p) (cH p f)
theorem od (h:eT p f):Run (nF f) (mF p) (cH p f) (dq p f)/\j9 (mF p) (dq p f)/\eA (dq p f) (nF f)<0:=by
 have a:=Run.refl (n:=nF f) (m:=mF p) (t0:=cH p f) lx qJ;have:=JA a (JE h);exact⟨this.1,this.2.1,SK a (JE h) λx z c b=>SQ h c b⟩
end
def rq (g:Game):List SV:=[.row (.bH (.i .i64)) g.rows,.row (.i .i64) g.bounds,.row .off g.offers]
def JF:List SV->Option Game
 |[r,v,x]=>match jf (.bH (.i .i64)) r,jf (.i .i64) v,jf .off x with
  |some c,some v,some x=>some ⟨c,v,x⟩
  |_,_,_=>none
 |_=>none
theorem acp {cs:List SV} {g:Game} (h:JF cs=some g):gL cs=gL (rq g):=by
 unfold JF at h;grind[rq,gL,oL]
theorem acr {g a:Game} (h:gL (rq g)=gL (rq a)):g=a:=AB.inj g a (by
 show AV.agg (gL (rq g))=AV.agg (gL (rq a));rw[h])
def mD (g:Game) (v:Int) (c:List Int):Bool:=decide (v<dI g c)&&kV g c
def JG:dF where
 f:=80;α:=List Int×Game×Int;put a:=[.row (.i .i64) a.1,.ptr 0 0 3,.ptr 1 0 1];st a:=[.cells (rq a.2.1) 90 3 false,.cells [.si .i64 a.2.2] 2 1 false];dec v o:=match v,o with
  |[x,.ptr 0 0 3,.ptr 1 0 1],[.cells cs 90 3 false,.cells [y] 2 1 false]=>match jf (.i .i64) x,JF cs,y.int .i64 with
   |some x,some g,some y=>some (x,g,y)
   |_,_,_=>none
  |_,_=>none;ok v o a h:=by
  split at h
  ·split at h
   ·rename_i h1 h2 h3;simp only[γ] at h;subst h;refine⟨by simp only[gL,oL h1],?_⟩;simp only[gO,ξ,γs,bq.g,acp h2,gL,iK h3];rfl
   ·cases h
  ·cases h
 inj a b h1 h2:=by
  simp only[gL,Δ,and_true,SV.g,δ4] at h1;simp only[gO,ξ,γs,bq.g,Δ,bR.cells.injEq,and_true,gL,SV.g,γ9,Value.int.injEq,true_and] at h2;have h3:=acr h2.1;have h4:=lM (.i .i64) h1.1 h1.2;exact Prod.ext h4 (Prod.ext h3 h2.2)
 dom a:=ny a.2.1/\oV a.2.1 a.1/\pI a.2.1 a.1;res a:=.sb (mD a.2.1 a.2.2 a.1);out a:=[.cells (rq a.2.1) 90 3 false,.cells [.si .i64 a.2.2] 2 1 false]
theorem h338:dZ Tryz.prog JG:=by
 refine lp (L:=[D5,ye]) (W:=[]) JG lk (by simp) (by simpa using⟨h327,h328⟩) ?_;rintro⟨c,g,v⟩ ⟨h1,h2,h3⟩;simp only at h1 h2 h3;refine bO (let a:=Θ;let b:=bq.cells [a (bp.i .i64).bH g.rows,a (bp.i .i64) g.bounds,a bp.off g.offers] 90 3 false;let d:=bq.cells [γe .i64 v] 2 1 false;let e:=decide (v<dI g c);let f:=b.same b/\d.same d/\True;(ny g/\oV g c/\pI g c)/\(e=true->(ny g/\oV g c)/\(γw (kV g c)).same (γw (mD g v c))/\f)/\(e=false->(δa false).same (γw (mD g v c))/\f)) (by kernel_rfl) ?_;conv=>zeta
 try simp only[vcs]
 refine⟨⟨h1,h2,h3⟩,λh=>⟨⟨h1,h2⟩,?_⟩,λh=>?_⟩;·unfold mD;rw[decide_eq_true h,Bool.true_and]
 ·unfold mD;rw[decide_eq_false h,Bool.false_and]
def pJ (g:Game) (c:List Int) (v:Int) (a:List Int) (o k:Int):Option (List Int):=if k<=o\/k∈c then none else if mD g v (eX (a++[o,k]))=true then some (eX (a++[o,k])) else none
def nz (g:Game) (c:List Int) (v:Int) (a:List Int) (o:Int):Option (List Int):=if o∈c then none else if mD g v (eX (a++[o]))=true then some (eX (a++[o])) else(ψ g.offers.length).findSome? λk:Nat=>pJ g c v a o k
def iO (c:List Int) (i:Nat):List Int:=c.take i++c.drop (i+1)
def yi (g:Game) (c:List Int) (v:Int) (i:Nat):Option (List Int):=(ψ g.offers.length).findSome? λo:Nat=>nz g c v (iO c i) o
def iZ (g:Game) (c:List Int):Option (List Int):=(ψ c.length).findSome? λi=>yi g c (dI g c) i
theorem Ef {n:Nat} {f:Nat->Option (List Int)} (h:∀i,i<n->f i=none):(ψ n).findSome? f=none:=by
 simp_all
theorem Eg {n i:Nat} {f:Nat->Option (List Int)} {t:List Int} (c:i<n) (h:∀j,j<i->f j=none) (b:f i=some t):(ψ n).findSome? f=some t:=by
 have e:ψ n=ψ i++(i::(ψ (n - (i+1))).map λk=>i+1+k):=by
  have a:=@List.range_add i (n - i);rw[show i+(n - i)=n by omega] at a;rw[a,show n - i=(n - (i+1))+1 by omega,List.range_succ_eq_map];simp only[ξ,δg,Nat.add_zero];congr 2;apply γV;grind
 simp_all[Ef]
def uo (g:Game):Prop:=ny g/\∀o∈g.offers,0<=o.value/\o.value<=1000000
def JH:bL:=⟨50,Game×List Int,.cons AB (.one (dM (.i .i64))),λa=>uo a.1/\(a.2.length<=900/\∀x∈a.2,0<=x/\x<a.1.offers.length),λa=> .bJ [.row (.i .i64) ((iZ a.1 a.2).getD []),.sb (iZ a.1 a.2).isSome]⟩
def JI (g:Game) (c:List Int):bZ:=[.cells (rq g) 90 3 false,.cells [.si .i64 (dI g c)] 2 1 false]
def acs (g:Game) (c:List Int):Nat->cC
 |4=> .inv Int (λi=>⟨[(1,.row (.i .i64) c),(2,.ptr 0 0 3),(7,.fn (.func 80) [] [.ptr 0 0 3,.ptr 1 0 1]),(19,.si .i64 c.length),(20,.si .i64 i)],JI g c⟩)
   (λs=>iS s 20) (λi=>(0<=i/\i<=c.length)/\∀k:Nat,(k:Int)<i->yi g c (dI g c) k=none) (λi=>(c.length - i).toNat) λi k=>match k with
   |8=> .inv Int (λo=>⟨[(1,.row (.i .i64) c),(2,.ptr 0 0 3),(7,.fn (.func 80) [] [.ptr 0 0 3,.ptr 1 0 1]),(9,.row (.i .i64) (iO c i.toNat)),(19,.si .i64 c.length),(20,.si .i64 i),(28,.si .i64 g.offers.length),(29,.si .i64 o)],JI g c⟩)
     (λs=>iS s 29) (λo=>(0<=o/\o<=g.offers.length)/\∀k:Nat,(k:Int)<o->nz g c (dI g c) (iO c i.toNat) k=none) (λo=>(g.offers.length - o).toNat) λo k=>match k with
     |15=> .inv Int (λz=>⟨[(1,.row (.i .i64) c),(2,.ptr 0 0 3),(7,.fn (.func 80) [] [.ptr 0 0 3,.ptr 1 0 1]),(9,.row (.i .i64) (iO c i.toNat)),(10,.si .i64 o),(12,.si .i64 z),(19,.si .i64 c.length),(20,.si .i64 i),(28,.si .i64 g.offers.length),(29,.si .i64 o)],JI g c⟩)
       (λs=>iS s 12) (λz=>(o<z/\z<=g.offers.length)/\∀k:Nat,(k:Int)<z->pJ g c (dI g c) (iO c i.toNat) o k=none) (λz=>(g.offers.length - z).toNat) λ_ _=> .look
     |_=> .look
   |_=> .look
 |_=> .look
theorem h331:Holds Tryz.prog JH:=by
 refine con (L:=[D6,ye,Jt,Jv]) (W:=gB [JG]) JH (λa=>acs a.1 a.2) (ln (by simpa using h338)) (by simpa using⟨h326,h328,h339,h340⟩) ?_;rintro⟨g,c⟩ ⟨⟨hg,hv⟩,hcl,hci⟩;simp only at hg hv hcl hci;refine bO (let a:=γe .i64;let b:=Θ;let d:=(0:Int);let e:=cn .i64;let f:=γx .i64 0;let h:=SV.bJ;let j:=(1:Int);let l:=bp.i .i64;let n:=γP 0 0 3;let p:=SV.fn (Fn.func 80) [] [n,γP 1 0 1];let u:=(↑c.length:Int);let s:=a u;let q:=bq.cells [b l.bH g.rows,b l g.bounds,b bp.off g.offers] 90 3 false;let r:=bq.cells [a (dI g c)] 2 1 false;let F:=(↑g.offers.length:Int);let m:=(↑g.offers.length:Int);let v:=a m;let G:=h [b l ((iZ g c).getD []),γw (iZ g c).isSome];(ny g/\oV g c/\pI g c)/\((((b l c).same (b l c)/\n.same n/\p.same p/\(a (↑c.length:Int)).same s/\(f).same (a 0)/\True)/\q.same q/\r.same r/\True)/\(d<=d/\d<=u)/\∀(k:Nat),(↑k:Int)<d->yi g c (dI g c) k=none)/\∀(x:Int),let z:=x+j;let t:=iO c x.toNat;let w:=b l t;let H:=a z;((d<=x/\x<=u)/\∀(k:Nat),(↑k:Int)<x->yi g c (dI g c) k=none)->(decide (x<u)=true->(c.length<=1000/\d<=x/\x<u)/\((((b l c).same (b l c)/\n.same n/\p.same p/\(b l (ω x.toNat c++List.drop z.toNat c)).same w/\s.same s/\(a x).same (a x)/\(a F).same v/\(f).same (a 0)/\True)/\q.same q/\r.same r/\True)/\(d<=d/\d<=m)/\∀(k:Nat),(↑k:Int)<d->nz g c (dI g c) t (↑k:Int)=none)/\∀(x_1:Int),let o:=x_1+j;let y:=a x;let A:=a o;let C:=eX (t++[x_1]);let I:=mD g (dI g c) C;((d<=x_1/\x_1<=m)/\∀(k:Nat),(↑k:Int)<x_1->nz g c (dI g c) t (↑k:Int)=none)->(decide (x_1<m)=true->c.length<=1000/\(decide (x_1∈c)=true->e o/\(((b l c).same (b l c)/\n.same n/\p.same p/\w.same w/\s.same s/\y.same y/\v.same v/\A.same A/\True)/\q.same q/\r.same r/\True)/\((d<=o/\o<=m)/\∀(k:Nat),(↑k:Int)<o->nz g c (dI g c) t (↑k:Int)=none)/\(m - o).toNat<(m - x_1).toNat)/\(decide (x_1∈c)=false->(t.length<=1000/\1<=1/\1<=1000)/\(ny g/\oV g C/\pI g C)/\(I=true->(h [b l C,δa true]).same G)/\(I=false->e o/\((((b l c).same (b l c)/\n.same n/\p.same p/\w.same w/\(a x_1).same (a x_1)/\A.same A/\s.same s/\y.same y/\v.same v/\(a x_1).same (a x_1)/\True)/\q.same q/\r.same r/\True)/\(x_1<o/\o<=m)/\∀(k:Nat),(↑k:Int)<o->pJ g c (dI g c) t x_1 (↑k:Int)=none)/\∀(x:Int),let B:=x+j;let D:=a x_1;let J:=a B;let E:=eX (t++[x_1,x]);let K:=mD g (dI g c) E;let L:=e B/\(((b l c).same (b l c)/\n.same n/\p.same p/\w.same w/\D.same D/\J.same J/\s.same s/\y.same y/\v.same v/\D.same D/\True)/\q.same q/\r.same r/\True)/\((x_1<B/\B<=m)/\∀(k:Nat),(↑k:Int)<B->pJ g c (dI g c) t x_1 (↑k:Int)=none)/\(m - B).toNat<(m - x).toNat;((x_1<x/\x<=m)/\∀(k:Nat),(↑k:Int)<x->pJ g c (dI g c) t x_1 (↑k:Int)=none)->(decide (x<F)=true->c.length<=1000/\(decide (x∈c)=true->L)/\(decide (x∈c)=false->(t.length<=1000/\1<=2/\2<=1000)/\(ny g/\oV g E/\pI g E)/\(K=true->(h [b l E,δa true]).same G)/\(K=false->L)))/\(decide (x<F)=false->e o/\(((b l c).same (b l c)/\n.same n/\p.same p/\w.same w/\s.same s/\y.same y/\v.same v/\A.same A/\True)/\q.same q/\r.same r/\True)/\((d<=o/\o<=m)/\∀(k:Nat),(↑k:Int)<o->nz g c (dI g c) t (↑k:Int)=none)/\(m - o).toNat<(m - x_1).toNat))))/\(decide (x_1<m)=false->e z/\(((b l c).same (b l c)/\n.same n/\p.same p/\s.same s/\H.same H/\True)/\q.same q/\r.same r/\True)/\((d<=z/\z<=u)/\∀(k:Nat),(↑k:Int)<z->yi g c (dI g c) k=none)/\(u - z).toNat<(u - x).toNat))/\(decide (x<u)=false->(h [b l [],δa false]).same G)) (by kernel_rfl) ?_;conv=>zeta
 try simp only[vcs]
 have SR:∀d:List Int,(∀x∈d,0<=x/\x<g.offers.length)->pI g d:=λd hd x hx=>hv _ (dj (by have:=hd x hx;omega));have hout:∀i:Nat,(iO c i).length<=900/\∀x∈iO c i,x∈c:=λi=>by
  unfold iO;refine⟨by rw[γg,γq,List.length_drop];omega,λx hx=>?_⟩;rw[γh] at hx;exact hx.elim γd List.mem_of_mem_drop
 have hnew:∀(i:Nat) (d:List Int),d.length<=2->(∀x∈d,0<=x/\x<g.offers.length)->ny g/\oV g (eX (iO c i++d))/\pI g (eX (iO c i++d)):=λi d hd hx=>by
  have h2:∀x∈eX (iO c i++d),0<=x/\x<g.offers.length:=λx h=>by
   rw[D7,γh] at h;exact h.elim (λh=>hci x ((hout i).2 x h)) (hx x)
  have:=(hout i).1;exact⟨hg,⟨by rw[vV,γg];omega,h2⟩,SR _ h2⟩
 have hg1:=hg.1;refine⟨⟨hg,⟨by omega,hci⟩,SR c hci⟩,⟨by omega,λk h=>by omega⟩,?_⟩;rintro i ⟨⟨i0,i1⟩,hi⟩;refine⟨λhil=>⟨⟨by omega,i0,hil⟩,⟨by unfold iO;rw[show(i+1).toNat=i.toNat+1 by omega],by omega,λk h=>by omega⟩,?_⟩,λhil=>?_⟩
 ·have ho:=hout i.toNat;have found:∀t,yi g c (dI g c) i.toNat=some t->iZ g c=some t:=λt ht=>Eg (i:=i.toNat) (by omega) (λj hj=>hi j (by omega)) ht;rintro o ⟨⟨o0,o1⟩,hk⟩;refine⟨λhol=>⟨by omega,λhin=>⟨by omega,⟨by omega,λk h=>?_⟩,by omega⟩,λhin=>⟨by omega,hnew _ _ (by simp) (by simp;omega),λhb=>?_,λhb=>⟨by omega,⟨by omega,λk h=>?_⟩,?_⟩⟩⟩,λhol=>⟨by omega,⟨by omega,λk h=>?_⟩,by omega⟩⟩
  ·by_cases h2:(k:Int)<o;·exact hk k h2
   ·rw[show(k:Int)=o by omega];unfold nz;rw[if_pos hin]
  ·have h2:nz g c (dI g c) (iO c i.toNat) o=some (eX (iO c i.toNat++[o])):=by
    unfold nz;rw[if_neg hin,if_pos hb]
   have h3:=found _ (Eg (f:=λo:Nat=>nz g c (dI g c) (iO c i.toNat) o) (i:=o.toNat) (by omega) (λj hj=>hk j (by omega)) (by simp only[show((o.toNat:Nat):Int)=o by omega];exact h2));rw[h3];exact⟨rfl,rfl⟩
  ·unfold pJ;rw[if_pos (.inl (by omega))]
  ·rintro z ⟨⟨z0,z1⟩,hz⟩;refine⟨λhzl=>⟨by omega,λhin2=>⟨by omega,⟨by omega,λk h=>?_⟩,by omega⟩,λhin2=>⟨by omega,hnew _ _ (by simp) (by simp;omega),λhb2=>?_,λhb2=>⟨by omega,⟨by omega,λk h=>?_⟩,by omega⟩⟩⟩,λhzl=>⟨by omega,⟨by omega,λk h=>?_⟩,by omega⟩⟩
   ·by_cases h2:(k:Int)<z;·exact hz k h2
    ·rw[show(k:Int)=z by omega];unfold pJ;rw[if_pos (.inr hin2)]
   ·have h4:¬z<=o:=by omega
    have h5:pJ g c (dI g c) (iO c i.toNat) o z=some (eX (iO c i.toNat++[o,z])):=by
     unfold pJ;rw[if_neg (λh=>h.elim h4 hin2),if_pos hb2]
    have h2:nz g c (dI g c) (iO c i.toNat) o=some (eX (iO c i.toNat++[o,z])):=by
     unfold nz;rw[if_neg hin,if_neg (by rw[hb];simp)];exact Eg (f:=λk:Nat=>pJ g c (dI g c) (iO c i.toNat) o k) (i:=z.toNat) (by omega) (λj hj=>hz j (by omega)) (by simp only[show((z.toNat:Nat):Int)=z by omega];exact h5)
    have h3:=found _ (Eg (f:=λo:Nat=>nz g c (dI g c) (iO c i.toNat) o) (i:=o.toNat) (by omega) (λj hj=>hk j (by omega)) (by simp only[show((o.toNat:Nat):Int)=o by omega];exact h2));rw[h3];exact⟨rfl,rfl⟩
   ·by_cases h2:(k:Int)<z;·exact hz k h2
    ·rw[show(k:Int)=z by omega];unfold pJ;rw[hb2];simp
   ·by_cases h2:(k:Int)<o;·exact hk k h2
    ·rw[show(k:Int)=o by omega];unfold nz;rw[if_neg hin,if_neg (by rw[hb];simp)];exact Ef λj hj=>hz j (by omega)
  ·by_cases h2:(k:Int)<i;·exact hi k h2
   ·rw[show k=i.toNat by omega];exact Ef λj hj=>hk j (by omega)
 ·have:iZ g c=none:=Ef λj hj=>hi j (by omega);rw[this];exact⟨rfl,rfl⟩
def eL (n:Nat) (c:List Int):Prop:=c.Pairwise (·<·)/\∀x∈c,0<=x/\x<n
theorem SS {n:Nat}:∀{c:List Int} {a:Int},a<=n->c.Pairwise (·<·)->(∀x∈c,a<=x/\x<n)->(c.length:Int)<=n - a
 |[],a,e,_,_=>by simp;omega;|x::c,a,e,h,b=>by
  have f:=b x (by simp);rw[γA] at h;have:=@SS n c (x+1) (by omega) h.2 λy d=>⟨by grind,(b y (by simp[d])).2⟩;grind
theorem yj {n:Nat} {c:List Int} (h:eL n c):c.length<=n:=by
 have:=SS (n:=n) (a:=0) (by omega) h.1 h.2;omega
theorem JJ {n:Nat} {c:List Int} (f:c.Nodup) (e:∀x∈c,0<=x/\x<n):eL n (eX c):=by
 refine⟨?_,λx i=>e x (D7.1 i)⟩;have g:(eX c).Pairwise (·<=·):=by
  have:=List.pairwise_mergeSort (le:=λx y:Int=>decide (x<=y)) (λa b d f e=>by grind) (λa b=>by simp;omega) c;exact this.imp λh=>of_decide_eq_true h
 have j:(eX c).Pairwise (·≠·):=(εt _ _).symm.nodup f;exact(g.and j).imp λh=>by omega
theorem yk {n:Nat} {c:List Int} (h:eL n c):c.Nodup:=h.1.imp λh=>by omega
theorem SU {c:List Int} {i:Nat}:(iO c i).Sublist c:=by
 unfold iO;rw[List.drop_add_one_eq_tail_drop];have:=(List.Sublist.refl (c.take i)).append (List.tail_sublist (c.drop i));simp_all
theorem yl {g:Game} {c t:List Int} (h:iZ g c=some t) (d:eL g.offers.length c):mD g (dI g c) t=true/\eL g.offers.length t:=by
 obtain⟨i,l,h⟩:=δV h;obtain⟨o,m,h⟩:=δV h;rw[γm] at l m;have f:(iO c i).Nodup:=(yk d).sublist SU;have b:∀x∈iO c i,x∈c:=λx a=>SU.subset a;unfold nz at h;split at h;·cases h
 ·rename_i p;split at h
  ·rename_i e;injection h with h;subst h;refine⟨e,JJ ?_ λx a=>?_⟩;·grind
   ·rw[γh] at a;rcases a with a|a;·exact d.2 x (b x a)
    simp_all
  ·obtain⟨k,j,h⟩:=δV h;rw[γm] at j;unfold pJ at h;split at h;·cases h
   ·rename_i n;split at h
    ·rename_i e;injection h with h;subst h;refine⟨e,JJ ?_ λx a=>?_⟩;·grind
     ·rw[γh] at a;rcases a with a|a;·exact d.2 x (b x a)
      grind
    ·cases h
def lZ (g:Game):Nat->List Int->List Int
 |0,c=>c
 |n+1,c=>match iZ g c with
  |some t=>lZ g n t
  |none=>c
def kL (g:Game) (c:List Int):List Int:=lZ g (1000000000 - dI g c).toNat c
theorem ry {g:Game} (a:uo g) {c:List Int} (h:eL g.offers.length c):0<=dI g c/\dI g c<=1000000000:=by
 have d:=Js (f:=λx=>(bj g.offers x.toNat bp.off.dflt).value) (c:=c) (k:=c.length) (m:=1000000) (by omega) λx b=>a.2 _ (dj (by have:=h.2 x b;omega));rw[π] at d;have e:=yj h;have i:=a.1.1.2.2;grind[dI]
theorem acu {g:Game} (d:uo g):∀{n m:Nat} {c:List Int},eL g.offers.length c->(1000000000 - dI g c).toNat<=n->(1000000000 - dI g c).toNat<=m->lZ g n c=lZ g m c:=by
 intro n;induction n with
 |zero=>
  intro m c a k j;have h:=ry d a;cases m with
  |zero=>rfl;|succ m=>
   unfold lZ;cases f:iZ g c with
   |none=>rfl;|some t=>
    obtain⟨b,e⟩:=yl f a;have i:=ry d e;unfold mD at b;grind
 |succ n l=>
  intro m c a k j;have h:=ry d a;cases f:iZ g c with
  |none=>
   cases m<;>grind[lZ];|some t=>
   obtain⟨b,e⟩:=yl f a;have i:=ry d e;unfold mD at b;simp only[ζ,decide_eq_true_eq] at b;cases m<;>grind[lZ]
theorem acv {g:Game} (d:uo g) {c t:List Int} (b:eL g.offers.length c) (h:iZ g c=some t):kL g c=kL g t:=by
 obtain⟨a,e⟩:=yl h b;have f:=ry d b;have i:=ry d e;unfold mD at a;simp only[ζ,decide_eq_true_eq] at a;unfold kL;rw[show(1000000000 - dI g c).toNat=((1000000000 - dI g c).toNat - 1)+1 by omega];grind[lZ,acu]
theorem SX {g:Game} {c:List Int} (h:iZ g c=none):kL g c=c:=by
 unfold kL;generalize (1000000000 - dI g c).toNat=n;cases n<;>grind[lZ]
def acw (p:bn) (c:List Int):Prop:=bB p=0/\eL p.offers.length c
theorem SY {p:bn} (c:bB p=0):uo (cO p):=by
 have a:=dN c;refine⟨Sr (by have:=a.2.1;omega),λo b=>?_⟩;have:=a.2.2.2.2 o b;omega
theorem JK {l:List Off}:∀{c:List Int} {a:Int}, -1<=a->(ek l a c).isSome=true->c.Pairwise (·<·)/\∀x∈c,a<x/\x<l.length
 |[],a,_,_=>⟨δv,by simp⟩
 |i::c,a,f,h=>by
  simp only[ek] at h;split at h;·simp at h
  ·rename_i g;rw[Option.isSome_map] at h;obtain⟨d,e⟩:=@JK l c i (by omega) h;refine⟨γA.2 ⟨λx b=>(e x b).1,d⟩,λx b=>?_⟩;grind
theorem sE {p:bn} {c:List Int} (h:bW p c=0):acw p c:=by
 unfold bW at h;split at h;·omega
 ·rename_i b;split at h;·cases h
  ·rename_i d;have a:=@JK p.offers c (-1) (by omega) (by grind[fV]);exact⟨Ξ.1 b,a.1,λx e=>by grind⟩
def gn (p:bn) (c:List Int):Alloc:=if bW p c=0 then⟨kL (cO p) c,dI (cO p) (kL (cO p) c)⟩ else⟨[],0⟩
def AI:bL:=⟨27,bn×Alloc,.cons dE (.one jZ),λa=>a.2.chosen.length<=9223372036854775807,λa=>jZ.put (gn a.1 a.2.chosen)⟩
def acy (p:bn) (a:Alloc):Nat->cC
 |6=> .inv (List Int×List Int×Bool) (λx=>⟨[(4,.ptr 2 0 2),(5,.ptr 3 0 3),(6,.row (.i .i64) x.1),(7,.row (.i .i64) x.2.1),(8,.sb x.2.2)],[.cells p.ss 27 20 false,.cells [.row (.i .i64) a.chosen,.si .i64 a.value] 31 2 false,.cells [.sc (.slice none 0 0),.il .i64 0] 31 2 false,.cells (rq (cO p)) 90 3 false]⟩)
   (λs=>(rS (.i .i64) s 6,rS (.i .i64) s 7,bS s 8)) (λx=>eL p.offers.length x.1/\(x.2.1=(iZ (cO p) x.1).getD []/\x.2.2=(iZ (cO p) x.1).isSome)/\kL (cO p) x.1=kL (cO p) a.chosen) (λx=>(1000000000 - dI (cO p) x.1).toNat) λ_ _=> .look
 |_=> .look
theorem h315:Holds Tryz.prog AI:=by
 refine cF (L:=[tO,D4,D1,JH,ye]) AI (λa=>acy a.1 a.2) (by simpa using⟨h100,h325,h330,h331,h328⟩) ?_;rintro⟨p,⟨c,v⟩⟩ hl;replace hl:c.length<=9223372036854775807:=hl;refine bO (let a:=γe .i64;let b:=Θ;let d:=bq.cells;let e:=(1000000000:Int);let f:=(0:Int);let g:=γw;let h:=γQ;let y:=decide (bW p c≠f);let j:=bp.i .i64;let z:=[γx .i64 0];let A:=h [b j (gn p c).chosen,a (gn p c).value];let l:=γP 2 0 2;let m:=γP 3 0 3;let n:=(iZ (cO p) c).getD [];let o:=(iZ (cO p) c).isSome;let q:=d [a p.supply.a0,a p.supply.a1,a p.supply.a2,a p.supply.a3,a p.supply.a4,a p.supply.a5,a p.opn.a0,a p.opn.a1,a p.opn.a2,a p.opn.a3,a p.opn.a4,a p.opn.a5,a p.cls.a0,a p.cls.a1,a p.cls.a2,a p.cls.a3,a p.cls.a4,a p.cls.a5,b j p.classes,b bp.off p.offers] 27 20 false;let r:=d [b j c,a v] 31 2 false;let s:=d (SV.sc (Value.slice none 0 0)::z) 31 2 false;let t:=d [b j.bH (cO p).rows,b j (cO p).bounds,b bp.off (cO p).offers] 90 3 false;let w:=p.offers.length;let u:=kL (cO p) c;c.length<=9223372036854775807/\(y=true->(h (b j []::z)).same A)/\(y=false->True/\c.length<=1000000/\(uo (cO p)/\c.length<=900/\∀(x:Int),x∈c->f<=x/\x<(↑(cO p).offers.length:Int))/\(((l.same l/\m.same m/\(b j c).same (b j c)/\(b j n).same (b j n)/\(g o).same (g o)/\True)/\q.same q/\r.same r/\s.same s/\t.same t/\True)/\eL w c/\(n=n/\o=o)/\u=u)/\∀(x:List Int×List Int×Bool),let k:=iZ (cO p) x.snd.fst;let B:=b j (k.getD []);let C:=dI (cO p) x.fst;eL w x.fst/\(x.snd.fst=(iZ (cO p) x.fst).getD []/\x.snd.snd=(iZ (cO p) x.fst).isSome)/\kL (cO p) x.fst=u->(x.snd.snd=true->(uo (cO p)/\x.snd.fst.length<=900/\∀(x_1:Int),x_1∈x.snd.fst->f<=x_1/\x_1<(↑(cO p).offers.length:Int))/\((l.same l/\m.same m/\(b j x.snd.fst).same (b j x.snd.fst)/\B.same B/\(g k.isSome).same (g k.isSome)/\True)/\q.same q/\r.same r/\s.same s/\t.same t/\True)/\(eL w x.snd.fst/\(k.getD []=k.getD []/\k.isSome=k.isSome)/\kL (cO p) x.snd.fst=u)/\(e - dI (cO p) x.snd.fst).toNat<(e - C).toNat)/\(x.snd.snd=false->(ny (cO p)/\oV (cO p) x.fst/\pI (cO p) x.fst)/\(h [b j x.fst,a C]).same A))) (by kernel_rfl) ?_;conv=>zeta
 try simp only[vcs]
 refine⟨by omega,λh=>by simp only[gn,if_neg h];rfl,λh=>?_⟩;have hf:bW p c=0:=Ξ.1 h;obtain⟨hc,ha⟩:=sE hf;have hg:=SY hc;have h160:=(dN hc).2.1;have hval:∀d,eL p.offers.length d->ny (cO p)/\oV (cO p) d/\pI (cO p) d:=λd hd=>by
  have h1:=yj hd;exact⟨hg.1,⟨by omega,hd.2⟩,λx hx=>hg.2 _ (dj (by have:=hd.2 x hx;show x.toNat<p.offers.length;omega))⟩
 have hlen:=yj ha;refine⟨by omega,⟨hg,by omega,ha.2⟩,ha,?_⟩;rintro⟨d,t,b⟩ ⟨hd,⟨ht,hb⟩,hi⟩;simp only at hd ht hb hi ⊢;have hdl:=yj hd;refine⟨λhbt=>?_,λhbf=>?_⟩
 ·rw[hbt] at hb;obtain⟨t',he⟩:=Option.isSome_iff_exists.1 hb.symm;rw[he] at ht;simp only[Option.getD_some] at ht;subst ht;obtain⟨h1,h2⟩:=yl he hd;have h3:=yj h2;have h3':t.length<=p.offers.length:=h3;have hb2:=ry hg h2;have hb1:=ry hg (c:=d) hd;unfold mD at h1;simp only[ζ,decide_eq_true_eq] at h1;exact⟨⟨hg,by omega,h2.2⟩,⟨h2,by rw[<-acv hg hd he];exact hi⟩,by omega⟩
 ·rw[hbf] at hb;have he:iZ (cO p) d=none:=by
   cases hh:iZ (cO p) d with
   |none=>rfl;|some t=>rw[hh] at hb;cases hb
  refine⟨hval d hd,?_⟩;have h1:kL (cO p) c=d:=by rw[<-hi,SX he]
  simp only[gn,if_pos hf,h1];rfl
theorem SZ {l:List Off}:∀{c:List Int} {a:Int}, -1<=a->c.Pairwise (·<·)->(∀x∈c,a<x/\x<l.length)->ek l a c=some (c.map λx=>bj l x.toNat bp.off.dflt)
 |[],_,_,_,_=>rfl
 |i::c,a,f,h,d=>by
  rw[γA] at h;have e:=d i (by simp);simp only[ek];rw[if_neg (by omega),@SZ l c i (by omega) h.2 λx b=>⟨h.1 x b,(d x (by simp[b])).2⟩];rfl
theorem Eh {p:bn} {c:List Int} (h:eL p.offers.length c):ek p.offers (-1) c=some (c.map (oI p)):=SZ (by omega) h.1 λx a=>by have:=h.2 x a;omega
theorem JL {p:bn} (l:bB p=0) {c:List Int} (h:eL p.offers.length c):bW p c=0↔kV (cO p) c=true:=by
 have k:=Eh h;have n:fV p c=true:=by grind[fV]
 have i:dx p c=c.map (oI p):=by grind[dx]
 have m:fy p (c.map (oI p))=kV (cO p) c:=by
  have f:nR p=p.classes.length+12:=by simp_all[nR]
  have g:(cO p).bounds.length=p.classes.length+12:=by show(kg p (nR p)).length=_;rw[D3,f]
  unfold fy kV;rw[g];have d:∀r:Nat,r<p.classes.length+12->bj (cO p).bounds r 0=df p r/\lY (cO p) c r=cG p (c.map (oI p)) r:=λr j=>by
   refine⟨?_,?_⟩
   ·show bj (kg p (nR p)) r 0=_;grind[cV,kg]
   ·have a:bj (cO p).rows r []=iy p r p.offers.length:=by
     show bj (lX p (nR p)) r []=_;grind[cV,lX]
    unfold lY cG;rw[a,δg];congr 1;refine γV λx b=>?_;have:=h.2 x b;have e:x.toNat<p.offers.length:=by omega
    show bj (iy p r p.offers.length) x.toNat 0=dK p r (bj p.offers x.toNat bp.off.dflt);grind[cV,iy]
  grind
 simp_all[bW]
theorem acz {p:bn} (d:bB p=0) {c:List Int} (h:eL p.offers.length c):de p c=dI (cO p) c:=by
 have a:dx p c=c.map (oI p):=by grind[dx,Eh]
 unfold de;rw[if_pos d,a];clear h a;induction c with
 |nil=>rfl;|cons x c b=>
  have e:dI (cO p) (x::c)=(oI p x).value+dI (cO p) c:=by simp[dI];rfl
  rw[e,<-b];rfl
theorem S0 {g:Game} {n:Nat}:∀{l c:List Int},eL n c->l.Nodup->(∀x∈l,x∉c/\0<=x/\x<n)->eL n (l.foldl (stepG g) c)
 |[],c,b,_,_=>b
 |x::l,c,b,e,d=>by
  rw[List.nodup_cons] at e;have i:=d x (by simp);have f:eL n (stepG g c x):=by
   unfold stepG;split
   ·refine JJ ?_ λy a=>?_;·grind[yk]
    ·rw[γh] at a;rcases a with a|a;·exact b.2 y a
     simp_all
   ·exact b
  show eL n (l.foldl (stepG g) (stepG g c x));refine S0 f e.2 λy a=>⟨λh=>?_,(d y (by simp[a])).2⟩;grind[Ss]
theorem acA {p:bn}:(gJ p).Nodup:=by
 unfold gJ;split;·exact(Ad (D:=fp p) (l:=dH p.offers.length)).symm.nodup (vJ.imp λh=>by omega)
 simp_all
theorem acB {p:bn} {k:Nat}:eL p.offers.length (ob (cO p) ((gJ p).take k)):=
 S0 ⟨δv,by simp⟩ (acA.sublist (List.take_sublist _ _)) λx a=>⟨by simp,(Jw (γd a)).2⟩
theorem JM {l m:List Int} (h:l.Perm m):l.sum=m.sum:=by
 induction h<;>grind
theorem S1 {g:Game}:∀{l c:List Int},kV g c=true->kV g (l.foldl (stepG g) c)=true
 |[],c,h=>h
 |x::l,c,h=>by
  show kV g (l.foldl (stepG g) (stepG g c x))=true;refine S1 ?_;grind[stepG]
theorem acC {p:bn} (d:bB p=0):kV (cO p) []=true:=by
 unfold kV;rw[κ];intro r b;have a:r<(cO p).bounds.length:=γm.1 b;have c:bj (cO p).bounds r 0=df p r:=by
  show bj (kg p (nR p)) r 0=_;rw[cV (by exact a)];simp[kg]
 simp_all[AE,lY]
theorem acD {p:bn}:eL p.offers.length (jO p):=by
 have h:=@acB p (gJ p).length;rw[π] at h;exact h
theorem S3 {p:bn} (a:bB p=0):bW p (jO p)=0:=(JL a acD).2 (S1 (acC a))
theorem acE {g:Game} (i:uo g):∀{n:Nat} {c:List Int},eL g.offers.length c->kV g c=true->eL g.offers.length (lZ g n c)/\kV g (lZ g n c)=true/\dI g c<=dI g (lZ g n c)/\((1000000000 - dI g c).toNat<=n->iZ g (lZ g n c)=none):=by
 intro n;induction n with
 |zero=>
  intro c a j;refine⟨a,j,Int.le_refl _,λh=>?_⟩;show iZ g c=none;cases f:iZ g c with
  |none=>rfl;|some t=>
   obtain⟨d,b⟩:=yl f a;have k:=ry i b;unfold mD at d;grind
 |succ n l=>
  intro c a j;cases f:iZ g c with
  |none=>
   grind[lZ];|some t=>
   have e:lZ g (n+1) c=lZ g n t:=by grind[lZ]
   rw[e];obtain⟨d,b⟩:=yl f a;have k:=ry i b;unfold mD at d;grind
theorem JO {p:bn} (a:bB p=0) {c:List Int} (b:bW p c=0):eL p.offers.length (gn p c).chosen/\bW p (gn p c).chosen=0/\de p (gn p c).chosen=(gn p c).value/\de p c<=(gn p c).value/\gn p (gn p c).chosen=gn p c:=by
 obtain⟨_,d⟩:=sE b;have h:=SY a;obtain⟨i,j,l,g⟩:=acE h (n:=(1000000000 - dI (cO p) c).toNat) (c:=c) d ((JL a d).1 b);have e:gn p c=⟨kL (cO p) c,dI (cO p) (kL (cO p) c)⟩:=by simp_all[gn]
 have f:bW p (kL (cO p) c)=0:=(JL a i).2 j;have k:kL (cO p) (kL (cO p) c)=kL (cO p) c:=SX (g (φ _));simp_all[acz,gn,kL,cO]
def eQ (d:List bM) (j:Nat) (z:bM):List bM:=d.take j++δ (d.length - j) z
theorem ym {d:List bM} {j:Nat} {z:bM} (h:j<=d.length):(eQ d j z).length=d.length:=by
 grind[eQ]
theorem yn {d:List bM} {z:bM}:eQ d 0 z=δ d.length z:=by simp[eQ]
theorem yo {d:List bM} {z:bM}:eQ d d.length z=d:=by simp[eQ]
theorem yp {d:List bM} {j:Nat} {z x:bM} (h:j<d.length) (b:x=bj d j z):(eQ d j z).set j x=eQ d (j+1) z:=by
 unfold eQ;have a:d.length - j=(d.length - (j+1))+1:=by omega
 rw[a,List.replicate_succ,List.set_append_right _ _ (by grind),γq,show j - min j d.length=0 by omega,List.set_cons_zero,List.take_succ_eq_append_getElem h,List.append_assoc,b,cV h];rfl
theorem yq {l:List Rat} {i:Nat} {q:Rat}:(fL l).set i (bu q)=fL (l.set i q):=by
 simp_all[fL]
theorem elim_none {l p:List Rat} {c:Nat} (h:bj l c 0=0) (d:c<l.length):j8 l c p=l:=by
 refine List.ext_getElem DU λi b a=>?_;have e:=@DV c l p i a;grind[cV]
def r413:dF where
 f:=175;α:=Int;put a:=[.si .i64 a];st _:=[];dec v o:=match v,o with
  |[v],[]=>v.int .i64
  |_,_=>none;ok v o a h:=by
  split at h;·exact⟨by simp only[gL,iK h];rfl,rfl⟩
  ·cases h
 inj a b h _:=by simpa[gL,SV.g] using h
 dom n:=0<=n/\n<=1000;res n:=.ow 0 n.toNat 3;out n:=[.row sF (fL (δ n.toNat 0)) 126 false]
def acF (n:Int):Nat->cC
 |3=> .inv Int (λj=>⟨[(3,.ow 0 n.toNat 3),(8,.si .i64 n.toNat),(9,.si .i64 j)],[.row sF (eQ (fL (δ n.toNat 0)) j.toNat (false,([],[]))) 126 true]⟩)
   (λs=>iS s 9) (λj=>0<=j/\j<=n) (λj=>(n - j).toNat) λ_ _=> .look
 |_=> .look
theorem h413:dZ Tryz.prog r413:=by
 refine Ht (L:=[nY]) (W:=[]) r413 (λ_=>none) acF (by simp) (by simpa using h94) ?_;rintro(n:Int) ⟨n0,n1⟩;refine bO (let a:=(0:Int);let c:=bq.row;let d:=γe .i64;let e:=γS 0 n.toNat 3;let h:=d (↑n.toNat:Int);let m:=(bp.i .u32).bH;let j:=(false,[],[]);let k:=fL (δ n.toNat (0:Rat));let l:=bu (ι a);a<=n/\n<=n/\n*(56:Int)<=(140737488355328:Int)/\n<=(1000000000000:Int)/\(((e.same e/\h.same h/\(γx .i64 0).same (d 0)/\True)/\(c (bp.b.pair (m.pair m)) (δ n.toNat j) 126 true).same (c sF (eQ k 0 j) 126 true)/\True)/\a<=a/\a<=n)/\∀(x:Int),let o:=decide (x<(↑n.toNat:Int));let f:=eQ k x.toNat j;let g:=x+(1:Int);let p:=d g;a<=x/\x<=n->(o=true->((-9223372036854775808:Int)<=a/\a<=(9223372036854775807:Int))/\n.toNat=f.length/\a<=x/\x<(↑f.length:Int)/\n.toNat=f.length/\x.toNat<f.length/\cn .i64 g/\((e.same e/\h.same h/\p.same p/\True)/\(c sF (f.set x.toNat (l.fst,l.snd.fst,l.snd.snd)) 126 true).same (c sF (eQ k g.toNat j) 126 true)/\True)/\(a<=g/\g<=n)/\(n - g).toNat<(n - x).toNat)/\(o=false->e.same e/\(c sF f 126 false).same (c sF k 126 false)/\True)) (by kernel_rfl) ?_;conv=>zeta
 try simp only[vcs]
 have hcast:∀k:Nat,((k:Nat):Int).toNat=k:=λk=>Ψ k;have hl:(fL (δ n.toNat 0)).length=n.toNat:=by rw[ft,γk]
 have hrow:∀{x y:List bM},x=y->(bq.row sF x 126 true).same (bq.row sF y 126 true):=by rintro _ _ rfl;rfl
 refine⟨n0,by omega,by omega,by omega,⟨hrow (by rw[yn,hl]),by omega,by omega⟩,?_⟩;rintro j ⟨j0,j1⟩;have oG:=@ym (fL (δ n.toNat 0)) j.toNat (false,([],[])) (by omega);refine⟨λhj=>?_,λhj=>?_⟩
 ·have hE:bj (fL (δ n.toNat 0)) j.toNat (false,([],[]))=bu 0:=by
   rw[jl (by rw[γk];omega),cV (by rw[γk];omega),List.getElem_replicate]
  have h0:(ι 0:Rat)=0:=rfl;simp only[h0,jB];exact⟨by omega,by omega,j0,by omega,by omega,by omega,by omega,hrow (by rw[yp (by omega) hE.symm,show(j+1).toNat=j.toNat+1 by omega]),by omega,by omega⟩
 ·rw[show j.toNat=(fL (δ n.toNat 0)).length by omega,yo];rfl
def r417:bL:=⟨185,List bM×bM×Int×List bM×bM,.cons (dM sF) (.cons (eG sF) (.cons (eK .i64) (.cons (dM sF) (.one (eG sF))))),
 λa=>∃l b p pb,(a.1=fL l/\a.2.1=bu b/\a.2.2.2.1=fL p/\a.2.2.2.2=bu pb)/\(l.length=p.length/\l.length<=1000)/\(0<=a.2.2.1/\a.2.2.1<l.length)/\(∀q∈l,Sz 10000000 q)/\(∀q∈p,Sz 10000000 q)/\Sz 10000000 b/\Sz 10000000 pb,
 λa=> .bJ [.row sF (fL (j8 (vL a.1) a.2.2.1.toNat (vL a.2.2.2.1))),pG (bQ a.2.1 - bj (vL a.1) a.2.2.1.toNat 0*bQ a.2.2.2.2)]⟩
def acG (l:List Rat) (b:Rat) (c:Int) (p:List Rat) (pb:Rat):Nat->cC
 |6=> .inv Int (λj=>⟨[(2,.si .i64 c),(3,.row sF (fL p)),(6,.ptr 0 0 3),(9,.ptr 1 0 3),(11,.ptr 2 0 3),(12,.ptr 3 0 3),(13,.ow 4 l.length 3),(28,.row sF (fL l)),(29,.si .i64 l.length),(30,.si .i64 j)],
   [.cells [.sb (bu b).1,.row (.i .u32) (bu b).2.1,.row (.i .u32) (bu b).2.2] 126 3 false,.cells [.sb (bu pb).1,.row (.i .u32) (bu pb).2.1,.row (.i .u32) (bu pb).2.2] 126 3 false,
    .cells [.bl false,.sc (.slice none 0 0),.sc (.slice none 0 0)] 126 3 false,.cells [.sb (bu (bj l c.toNat 0)).1,.row (.i .u32) (bu (bj l c.toNat 0)).2.1,.row (.i .u32) (bu (bj l c.toNat 0)).2.2] 126 3 false,
    .row sF (eQ (fL (j8 l c.toNat p)) j.toNat (false,([],[]))) 126 true]⟩)
   (λs=>iS s 30) (λj=>0<=j/\j<=l.length) (λj=>(l.length - j).toNat) λ_ _=> .look
 |_=> .look
theorem h417:Holds Tryz.prog r417:=by
 refine cF (L:=[sx,Ar,x5,Aq]) r417 (λa=>acG (vL a.1) (bQ a.2.1) a.2.2.1 (vL a.2.2.2.1) (bQ a.2.2.2.2)) (by simpa using⟨h99,h410,h130,h95⟩) ?_;rintro⟨l',b',c,p',pb'⟩ ⟨l,b,p,pb,⟨e1,e2,e3,e4⟩,⟨g1,g2⟩,⟨c0,c1⟩,hl,hp,hb,hpb⟩;simp only at e1 e2 e3 e4 c0 c1;subst e1 e2 e3 e4;refine bO (let a:=Θ;let d:=(0:Int);let e:=γe .i64;let f:=bq.cells;let g:=bq.row;let h:=γw;let j:=sF.dflt;let k:=γP;let m:=γQ;let n:=SV.bJ;let F:=bj (fL l) c.toNat j;let a2:=(F.fst,F.snd.fst,F.snd.snd);let o:=bp.i .u32;let t:=(↑(fL l).length:Int);let L:=fL (j8 (vL (fL l)) c.toNat (vL (fL p)));let v:=bQ (bu b);let w:=bj (vL (fL l)) c.toNat (0:Rat);let y:=bQ (bu pb);let a3:=(bu (v - w*y)).snd;let a4:=n [a sF L,m [h (bu (v - w*y)).fst,a o a3.fst,a o a3.snd]];let z:=fL (vL (fL p));let G:=a sF z;let A:=k 0 0 3;let B:=k 1 0 3;let C:=k 2 0 3;let D:=k 3 0 3;let vZ:Nat:=(vL (fL l)).length;let H:=γS 4 vZ 3;let I:=fL (vL (fL l));let J:=a sF I;let r:=(↑vZ:Int);let K:=e r;let a5:=SV.sc (Value.slice none 0 0);let E:=f [δa false,a5,a5] 126 3 false;let M:=(false,[],[]);let N:=((bu w).fst,(bu w).snd.fst,(bu w).snd.snd);let O:=f [h (bu v).fst,a o (bu v).snd.fst,a o (bu v).snd.snd] 126 3 false;let P:=f [h (bu y).fst,a o (bu y).snd.fst,a o (bu y).snd.snd] 126 3 false;let Q:=f [h (bu w).fst,a o (bu w).snd.fst,a o (bu w).snd.snd] 126 3 false;let a6:=((bu y).fst,(bu y).snd.fst,(bu y).snd.snd);let a7:=((bu v).fst,(bu v).snd.fst,(bu v).snd.snd);let S:=bu (bQ N*bQ a6);let a8:=(S.fst,S.snd.fst,S.snd.snd);let U:=bu (bQ a7 - bQ a8);let a9:=λ(u:Bool) ↦decide (jA (bQ a2)=d)=u;let V:=λ(u:bp.b.T) (u_1:(o.bH.pair o.bH).T) (u_2:Rat) ↦(f [h u,a o u_1.fst,a o u_1.snd] 126 3 false).same (f [h (bu u_2).fst,a o (bu u_2).snd.fst,a o (bu u_2).snd.snd] 126 3 false);d<=c/\c<t/\c.toNat<(fL l).length/\cB a2/\(a9 true->(n [a sF (fL l),m [h (bu b).fst,a o (bu b).snd.fst,a o (bu b).snd.snd]]).same a4)/\(a9 false->d<=t/\t<=t/\t*(56:Int)<=(140737488355328:Int)/\t<=(1000000000000:Int)/\((((e c).same (e c)/\(a sF (fL p)).same G/\A.same A/\B.same B/\C.same C/\D.same D/\(γS 4 t.toNat 3).same H/\(a sF (fL l)).same J/\(e t).same K/\(γx .i64 0).same (e 0)/\True)/\V (bu b).fst (bu b).snd v/\V (bu pb).fst (bu pb).snd y/\E.same E/\V F.fst F.snd w/\(g (bp.b.pair (o.bH.pair o.bH)) (δ t.toNat M) 126 true).same (g sF (eQ L 0 M) 126 true)/\True)/\d<=d/\d<=r)/\∀(x:Int),let W:=bj z x.toNat j;let X:=(W.fst,W.snd.fst,W.snd.snd);let Y:=bu (bQ N*bQ X);let Z:=(Y.fst,Y.snd.fst,Y.snd.snd);let q:=eQ L x.toNat M;let s:=x+(1:Int);let R:=e s;let aa:=g sF (eQ L s.toNat M) 126 true;let a0:=bj I x.toNat j;let ab:=(a0.fst,a0.snd.fst,a0.snd.snd);let ac:=cB Z;let ad:=cB N/\cB X;let ae:=λ(u:Rat) ↦vZ=q.length/\d<=x/\x<(↑q.length:Int)/\vZ=q.length/\x.toNat<q.length/\cn .i64 s/\(((e c).same (e c)/\G.same G/\A.same A/\B.same B/\C.same C/\D.same D/\H.same H/\J.same J/\K.same K/\R.same R/\True)/\O.same O/\P.same P/\E.same E/\Q.same Q/\(g sF (q.set x.toNat ((bu u).fst,(bu u).snd.fst,(bu u).snd.snd)) 126 true).same aa/\True)/\(d<=s/\s<=r)/\(r - s).toNat<(r - x).toNat;let af:=λ(u:Bool) ↦decide (jA (bQ X)=d)=u;let ag:=λ(u:List bM) ↦let a1:=bj u x.toNat j;cB (a1.fst,a1.snd.fst,a1.snd.snd);d<=x/\x<=r->(decide (x<r)=true->d<=x/\x<(↑I.length:Int)/\x.toNat<I.length/\(decide (x=c)=true->d<=x/\x<(↑z.length:Int)/\x.toNat<z.length/\ad/\ac/\ae (-bQ Z))/\(decide (x=c)=false->d<=x/\x<(↑z.length:Int)/\x.toNat<z.length/\ag z/\(af true->vZ=q.length/\d<=x/\x<(↑q.length:Int)/\vZ=q.length/\x.toNat<q.length/\cn .i64 s/\(((e c).same (e c)/\G.same G/\A.same A/\B.same B/\C.same C/\D.same D/\H.same H/\J.same J/\K.same K/\R.same R/\True)/\O.same O/\P.same P/\E.same E/\Q.same Q/\(g sF (q.set x.toNat ab) 126 true).same aa/\True)/\(d<=s/\s<=r)/\(r - s).toNat<(r - x).toNat)/\(af false->d<=x/\x<(↑z.length:Int)/\x.toNat<z.length/\ad/\(ag I/\ac)/\ae (bQ ab - bQ Z))))/\(decide (x<r)=false->(cB N/\cB a6)/\(cB a7/\cB a8)/\vZ=q.length/\(n [a sF q,m [h U.fst,a o U.snd.fst,a o U.snd.snd]]).same a4))) (by kernel_rfl) ?_;simp only[kJ,ez];try simp only[vcs]
 have hfl:=@ft l;have hfp:=@ft p;have hel:(j8 l c.toNat p).length=l.length:=DU;have hfe:=@ft (j8 l c.toNat p);have hA:bj (fL l) c.toNat sF.dflt=bu (bj l c.toNat 0):=jl (by omega);have hzc:=hl _ (dj (d:=0) (show c.toNat<l.length by omega));have hcast:∀k:Nat,((k:Nat):Int).toNat=k:=λk=>Ψ k;have hag:∀{x y:Rat},x=y->(γQ [γw (bu x).1,Θ (bp.i IntKind.u32) (bu x).2.1,Θ (bp.i IntKind.u32) (bu x).2.2]).same (γQ [γw (bu y).1,Θ (bp.i IntKind.u32) (bu y).2.1,Θ (bp.i IntKind.u32) (bu y).2.2]):=by rintro _ _ rfl;rfl
 have hrow:∀{x y:List bM},x=y->(bq.row sF x 126 true).same (bq.row sF y 126 true):=by rintro _ _ rfl;rfl
 simp only[hA,jB,ez,Jo,hcast];refine⟨c0,by omega,by omega,dP hzc (by omega),λhz=>⟨by rw[elim_none hz (by omega)],hag (by rw[hz];grind)⟩,λhz=>⟨by omega,by omega,by omega,by omega,⟨⟨⟨by rw[hfl];rfl,by omega⟩,rfl,hrow (by rw[yn,hfe,hel,hfl])⟩,by omega,by omega⟩,?_⟩⟩;rintro j ⟨j0,j1⟩;have oG:=@ym (fL (j8 l c.toNat p)) j.toNat (false,([],[])) (by omega);refine⟨λhj=>?_,λhj=>?_⟩
 ·have hP:bj (fL p) j.toNat sF.dflt=bu (bj p j.toNat 0):=jl (by omega);have hL:bj (fL l) j.toNat sF.dflt=bu (bj l j.toNat 0):=jl (by omega);have Ei:=hp _ (dj (d:=0) (show j.toNat<p.length by omega));have hzl:=hl _ (dj (d:=0) (show j.toNat<l.length by omega));have hE:bj (fL (j8 l c.toNat p)) j.toNat (false,([],[]))=bu (if j.toNat=c.toNat then -(bj l c.toNat 0*bj p j.toNat 0) else bj l j.toNat 0 - bj l c.toNat 0*bj p j.toNat 0):=by
   rw[jl (by omega),DV (by omega)]
  have hm:=ub hzc Ei;have tail:(0<=j+1/\j+1<=(l.length:Int))/\((l.length:Int) - (j+1)).toNat<((l.length:Int) - j).toNat:=by omega
  have step:∀{x:bM},x=bj (fL (j8 l c.toNat p)) j.toNat (false,([],[]))->(bq.row sF ((eQ (fL (j8 l c.toNat p)) j.toNat (false,([],[]))).set j.toNat x) 126 true).same (bq.row sF (eQ (fL (j8 l c.toNat p)) (j+1).toNat (false,([],[]))) 126 true):=λh=>hrow (by
   rw[yp (by omega) h,show(j+1).toNat=j.toNat+1 by omega]);simp only[hP,hL,jB,ez,Jo];refine⟨j0,by omega,by omega,λhjc=>⟨j0,by omega,by omega,⟨dP hzc (by omega),dP Ei (by omega)⟩,dP hm (by omega),by omega,j0,by omega,by omega,by omega,by omega,step ?_,tail⟩,λhjc=>⟨j0,by omega,by omega,dP Ei (by omega),λhpz=>⟨by omega,j0,by omega,by omega,by omega,by omega,step ?_,tail⟩,λhpz=>⟨j0,by omega,by omega,⟨dP hzc (by omega),dP Ei (by omega)⟩,⟨dP hzl (by omega),dP hm (by omega)⟩,by omega,j0,by omega,by omega,by omega,by omega,step ?_,tail⟩⟩⟩;·rw[hE,if_pos (by omega)]
  ·rw[hE,if_neg (by omega),hpz];congr 1;grind
  ·rw[hE,if_neg (by omega)]
 ·rw[show j.toNat=(fL (j8 l c.toNat p)).length by omega,yo];exact⟨⟨dP hzc (by omega),dP hpb (by omega)⟩,⟨dP hb (by omega),dP (ub hzc hpb) (by omega)⟩,by omega,rfl,rfl⟩
end Go.Vi
