/-
  Contracts of the library's functions on rows of integers: sorting a row, a copy of a row, taking elements out.
  Conditions: none.
-/
import Derived.Shelf.Sort.AssemblyIn
import Derived.Shelf.SlicesE.Clone
import Derived.Shelf.SlicesE.Delete
import Derived.Test.YtjcmncmajmoiiaaGreatTX10
import Derived.Sort.EveryDepth
import Derived.Sort.OwnSortedInts
import Derived.WalkKit
import Derived.Deep.LoopGhost
import Derived.Lib.Walk
import Derived.Lib.SliceRun
import Derived.Shelf.RegionOpenPlain
import Derived.Test.YtjcmncmajmoiiaaGreatTX06
import Derived.Test.YtjcmncmajmoiiaaGreatTX07
import Derived.Test.YtjcmncmajmoiiaaGreatTX08
import Derived.Test.YtjcmncmajmoiiaaGreatTX09
set_option maxRecDepth 100000
set_option maxHeartbeats 4000000
set_option linter.all false
open Bool renaming and_eq_true->θ
open Classical renaming not_not->Γ
open Go.Vi.AV renaming sc->δj
open Go.Vi.AV.os renaming injEq->εO
open Go.Vi.AV.sc renaming injEq->γZ
open Go.Vi.AV.sl renaming injEq->εf
open Go.Vi.SV renaming si->γe,il->γq,row->Φ,ow->γ8,ptr->γW,agg->γK,bl->δs,sb->γI
open Int renaming toNat_natCast->γz
open IntCast renaming intCast->Ω
open List renaming mergeSort_perm->εC,map_cons->ι,map_nil->γs,length->γo,getElem?_cons_zero->δr,getElem?_map->δd,getElem?_eq_some_iff->ζ,replicate->ε,length_take->Ξ,map_append->γa,range->τ,range_succ->δR,take->γd,take_length->χ,all_eq_true->Θ,mem_range->γM,length_append->ν,take_of_length_le->γn,getElem_of_mem->δa,mem_map->γf,mem_of_mem_take->γm,mem_append->ω,map_map->δo,map_congr_left->γ2,pairwise_cons->γE,exists_of_findSome?_eq_some->δ6,nodup_append->γu,length_replicate->γS
open List.Pairwise renaming nil->δA
open List.cons renaming injEq->π
open Nat renaming le_refl->ψ,zero_le->εN,lt_of_lt_of_le->γr,mul_le_mul->ζj
open Option renaming map_eq_some_iff->δ,isNone_iff_eq_none->γR
open Option.some renaming injEq->γ
open Rat renaming mul_nonneg->δB
namespace Go.Proofs
open Go.Shelf Go.RowKit Go.Lib
theorem acY {P:Program} {ρ:Ren} (L:SlLaysE0.n41 P ρ) (i0:TypeInfo) (z:Value) (b g:Nat) (I:P.info? (ρ.t 23)=some i0) (x:i0.zero=some z) (y:i0.size=b) (q:i0.bytes=g) (m:z.cells.size=b) (o:0<b)
  (Q:∀w,(Go.sizeOf (ρ.t 23)).run P w= .ok b w) (p:Addr) (n c:Nat) (d:List Value) (w:World) (K:d.length=n*b) (U:n<=maxLen) (B:n*g<=140737488355328)
  (C:∀j u,d[j]?=some u->w.cell? (p.add j)=some u) (E:∀u∈d,u.oneCell'=true):
  Calls P (ρ.f 41) #[.slice (some p) n c] w λe w'=>∃l,e= .returned l/\w'.ownsRow w.heap.size (ρ.t 23) b l n d/\l≠ .slice none 0 0/\Below w.heap.size w w':=by
 have v:=L.mixed;have W:=L.t4;have V:=L.a4;have T:=L.z4;have S:=L.v4;have i:=L.t22;have N:=L.a22;have O:=L.z22;have H:=L.v22
 have G:∀(w:World) (a:Option Addr) (n c r s:Nat),(binOp .eql (ρ.t 22) (.slice a n c) (.slice none r s)).run P w= .ok (.bool a.isNone) w:=λw a n c r s=>Lib.run_eql_slice_nil w _ _ a n c r s L.t22
 have F:∀w,Sem.run P (underlying (ρ.t 22)) w= .ok (TypeDesc.slice (ρ.t 23)) w:=run_underlying i
 have A:Aside (∀j u,d[j]?=some u->w.cell? (p.add j)=some u):=C
 clear C
 obtain⟨_,_,M⟩:=L.f41
 go_enter M,SlBodyN.n41_ntmps ρ
 go_wp2_with (at_builtin;refine wpList_append_own _ rfl _ _ (ρ.t 22) rfl w.heap.size (ρ.t 23) i0 z b g i I x y q m o _ _ _ rfl (World.ownsRow_made w #[] 0 (ψ _) (εN _) (by simp)) p n c d rfl ?qc1 ?qc2 ?qc3 ?qc4 ?qc5 ?qc6 ?_)
 case qc1=>exact K
 case qc2=>
  intro j u J
  exact Lib.cell?_alloc_some _ (A.out j u J)
 case qc3=>exact E
 case qc4=>omega
 case qc5=>simp_all
 case qc6=>simp
 intro l R D h k
 go_wp2
 go_ret
 refine⟨l,rfl,by omega,?_,?_⟩
 ·exact k
 ·exact((Below.refl _ w).alloc (ψ _) _).grown h (by simp) (by grind[Value.ownBlock])
end Go.Proofs
namespace Go.Vi
open Go.Proofs.YtjcmncmajmoiiaaGreat.Ir
open Go.Proofs
theorem nY (l:List Int):cC (.i .i64) l=l.map λx=>δj (.int .i64 x):=by
 unfold cC
 induction l with
 |nil=>rfl
 |cons x l a=>rw[List.flatMap_cons,a];rfl
theorem Tf {A:dH} {w:World} {σ:bW} {l:List Int} {e:TypeId} (d:bU A w σ [.cells (l.map λx=>δj (.int .i64 x)) e 1 true]) (s:1<=l.length):
  ∃b cap arr,σ=[some (b,cap)]/\cap<=maxLen/\w.heap[b]?=some (.cells arr e (0,0))/\arr.size=cap/\l.length<=cap/\arr.toList.take l.length=l.map (Value.int .i64):=by
 have f:=d.obj 0 _ rfl
 simp only[dy] at f
 obtain⟨_,_,h|⟨b,cap,arr,a,n,g,r,p,i⟩⟩:=f
 ·simp_all
 ·have c:=d.len
  simp at c
  have m:l.length<=arr.size:=by simp_all
  refine⟨b,cap,arr,?_,n,g,by omega,by omega,?_⟩
  ·match σ,c,a with
   |[x],_,a=>simp_all
  ·apply List.ext_getElem?
   intro j
   by_cases k:j<l.length
   ·obtain⟨v,o,q⟩:=i j (.sc (.int .i64 l[j])) (by simp[k])
    grind[bw]
   simp_all
def eO (l:List Int):List Int:=l.mergeSort λx y=>decide (x<=y)
theorem vQ {l:List Int}:(eO l).length=l.length:=(εC _ _).length_eq
def Ax:cV where
 f:=130
 α:=Nat×List Int
 put a:=[.ow 0 a.1 1]
 st a:=[.row (.i .i64) a.2 3 true]
 dec v o:=match v,o with
  |[.ow 0 n 1],[.row t l 3 true]=>match iD t (.i .i64) l with
   |some l=>some (n,l)
   |_=>none
  |_,_=>none
 ok v o a h:=by
  split at h
  ·split at h
   ·rename_i h4
    simp only[γ] at h;subst h
    obtain⟨rfl,hh⟩:=mW h4
    cases hh
    exact⟨rfl,rfl⟩
   ·cases h
  ·cases h
 inj a b e1 e2:=by
  obtain⟨n,l⟩:=a
  obtain⟨n',l'⟩:=b
  simp only[gL,π,SV.g,εO,true_and] at e1;simp only[gO,ι,γs,bq.g,π,bP.cells.injEq,and_true,true_and] at e2
  have h4:l=l':=by
   have hf:=congrArg γo e2
   rw[fe,fe] at hf
   exact lK (.i .i64) (by simpa[bn.sz] using hf) e2
  rw[e1.1.1,h4]
 dom a:=a.1=a.2.length/\1<=a.2.length/\a.2.length<=1000000
 res _:=.bH []
 out a:=[.row (.i .i64) (eO a.2) 3 true]
theorem h337:dK Tryz.prog Ax:=by
 rintro⟨n,l⟩ ⟨E,H,V⟩
 simp only at E H V
 subst E
 refine⟨by kernel_rfl,?_⟩
 intro A w F Q q s
 have C:∀m:List Int,gO [bq.row (.i .i64) m 3 true]=[bP.cells (m.map λx=>δj (.int .i64 x)) 3 1 true]:=λm=>by
  simp only[gO,ι,γs,bq.g,nY];rfl
 have T:gL (Ax.put (l.length,l))=[.os 0 0 l.length (l.length*1)]:=rfl
 show Calls _ _ _ _ λe h=>∃u p,e= .returned u/\bU A h p (gO [bq.row (.i .i64) (eO l) 3 true])/\bw A h p (gO [bq.row (.i .i64) (eO l) 3 true]) (.bH []) u/\Ext w F (gO [bq.row (.i .i64) l 3 true]) h p (gO [bq.row (.i .i64) (eO l) 3 true])
 replace q:bU A w F (gO [bq.row (.i .i64) l 3 true]):=q
 replace s:bD A w F (gO [bq.row (.i .i64) l 3 true]) (gL (Ax.put (l.length,l))) Q:=s
 rw[C] at q s;rw[C,C];rw[T] at s
 obtain⟨b,Y,d,rfl,U,L,q4,q5,N⟩:=Tf q H
 simp only[bD] at s
 obtain⟨v,r,rfl,I,rfl⟩:=s
 simp only[bw] at I
 obtain⟨O,a,y,rfl,a0,B⟩:=I
 have K:=B 1 ⟨_,_,_,rfl,by simp⟩
 simp only[ko,δr] at K
 obtain⟨rfl,rfl⟩:=K.2.1 trivial trivial (by omega)
 have P:b<w.heap.size:=q.bnd 0 b y rfl
 have R:=holds_of_blockI (ss:=l) L N
 have S:Calls Tryz.prog (Ax).f #[.slice (some ⟨b,0,none⟩) l.length y] w λe h=>e= .returned (.tuple #[])/\∃n z,h=Sort.grow (Sort.putRow (Value.int .i64) (Sort.ahead w n) b 0 (eO l).toArray) z:=
  calls_of_every_depth λD=>AnyS.slices_Sort_int_in Tryz.layS D b 0 y l w R P (by omega)
 refine Calls.mono S ?_
 rintro e h ⟨rfl,n,z,rfl⟩
 have t:=grownBy_sortedI (w:=w) (g:=b) (n:=n) (os:=z) (eO l).toArray
 have W:=heap_sortedI (w:=w) (n:=n) (os:=z) (eO l).toArray L
 have X:=take_putCellsI d (eO l) (by rw[vQ];omega)
 have hz:(Sort.putCells (Value.int .i64) 0 (eO l).toArray d).size=d.size:=by simp[Sort.putCells]
 generalize Sort.grow (Sort.putRow (Value.int .i64) (Sort.ahead w n) b 0 (eO l).toArray) z=h at*
 generalize Sort.putCells (Value.int .i64) 0 (eO l).toArray d=o at*
 have hU:=q.upd (w':=h) (id:=0) (x':=.cells ((eO l).map λx=>δj (.int .i64 x)) 3 1 true) (s':=some (b,y)) rfl t.size t.os t.tape t.output
  (λk M E=>t.block k M λe=>by simp_all) (λb' c' e=>by simp_all)
  ⟨_,_,_,rfl,by simp[vQ],λ_=>rfl⟩ ?_
 ·grind[bw,bD]
 ·intro hx
  simp only[dy]
  refine⟨λ_=>by rw[<-nY];grind[qg],by rw[<-nY];grind[B0],.inr ⟨b,y,o,rfl,U,W,by omega,by grind[vQ],?_⟩⟩
  intro j c J;rw[δd] at J
  obtain⟨x,G,rfl⟩:=δ.1 J
  have Z:=(ζ.1 G).1
  refine⟨.int .i64 x,?_,by simp[bw,Value.oneCell']⟩
  have h9:(o.toList.take (eO l).length)[j]?=((eO l).map (Value.int .i64))[j]?:=by rw[X]
  grind
theorem Ti {A:dH} {w:World} {l:List Int} {vs:List Value} {m:FuncId} (n:m=Tryz.layC_ren.f 41) (N:bU A w [] []) (K:l.length<=1000000) (B:bD A w [] [] [.sl l.length (l.map λx=>δj (.int .i64 x))] vs):
  Calls Tryz.prog m vs.toArray w λe w'=>RowKit.Below w.heap.size w w'/\((e= .returned (.slice none 0 0)/\l=[])\/∃g cap c,e= .returned (.slice (some ⟨g,0,none⟩) l.length cap)/\w.heap.size<=g/\w'.heap[g]?=some (.cells c 3 (0,0))/\l.length<=cap/\cap<=maxLen/\c.size=cap/\c.toList.take l.length=l.map (Value.int .i64)):=by
 subst n;simp only[bD] at B
 obtain⟨v,r,rfl,t,rfl⟩:=B
 simp only[bw] at t
 obtain⟨a,cap,rfl,q,_,C⟩:=t
 cases a with
 |none=>
  have z:l=[]:=by
   cases l<;>grind[dx]
  grind[Calls.mono,AnyE.slices_Clone_nil,Tryz.layC,RowKit.Below.refl]
 |some p=>
  have H:∀j u,(l.map (Value.int .i64))[j]?=some u->w.cell? (p.add j)=some u:=by
   intro j u s;rw[δd] at s
   obtain⟨x,F,rfl⟩:=δ.1 s
   obtain⟨b,v,e,_,o,y⟩:=dx.get _ _ _ C j (.sc (.int .i64 x)) (by simp[F])
   grind[bw]
  refine Calls.mono (acY Tryz.layC Tryz.t3 (.int .i64 0) 1 8 (by kernel_rfl) (by kernel_rfl) (by kernel_rfl) (by kernel_rfl) (by kernel_rfl) (by omega) Tryz.sizeOf3 p l.length cap (l.map (Value.int .i64)) w (by simp) (by grind[maxLen]) (by omega) H (by simp[Value.oneCell'])) ?_
  rintro e w' ⟨L,rfl,k,E,i⟩
  refine⟨i,.inr ?_⟩
  obtain⟨_,h|⟨g,d,c,rfl,J,I,D,G,M,O⟩⟩:=k
  ·simp_all
  ·exact⟨g,d,c,rfl,J,I,D,G,by omega,by simp_all⟩
def Em:bM:=⟨86,List Int,.one (dN (.i .i64)),λl=>l.length<=1000000,λl=> .row (.i .i64) l⟩
theorem h330:Holds Tryz.prog Em:=by
 intro(l:List Int) (hl:l.length<=1000000)
 refine⟨by kernel_rfl,?_⟩
 intro A w σ vs hS hR
 have hσ:σ=[]:=by have:=hS.len;simpa using this
 subst hσ
 have e1:gL (Em.A.put l)=[.sl l.length (l.map λx=>δj (.int .i64 x))]:=by rw[<-nY];rfl
 have e2:(Em.res l).G= .sl l.length (l.map λx=>δj (.int .i64 x)):=by rw[<-nY];rfl
 rw[e1] at hR;rw[e2]
 refine Calls.mono (Ti (by rfl) hS hl hR) ?_
 rintro e w' ⟨hb,h⟩
 have hS':bU A w' [] []:=⟨rfl,by simp,by simp,by simp,by simp,λb h=>γr (hS.jS b h) hb.size⟩
 have hE:Ext w [] [] w' [] []:=⟨hb.size,λb h _=>⟨hb.block b h,λ⟨i,c,hi⟩=>by simp at hi⟩,ψ _,λ_ _ ⟨_,_,_,_,h,_⟩=>by simp at h,λ_ ⟨_,_,_,h⟩=>by simp at h,hb.os,hb.tape,hb.output⟩
 rcases h with⟨rfl,rfl⟩|⟨g,cap,cur,rfl,h1,h2,h3,h4,h5,h6⟩
 ·exact⟨_,[],rfl,hS',by simp only[bw];exact⟨none,0,rfl,by simp,by rw[<-nY];exact qg _ _,by simp[dx]⟩,hE⟩
 ·refine⟨_,[],rfl,hS',?_,hE⟩
  simp only[bw]
  refine⟨_,_,rfl,h3,by rw[<-nY];exact qg _ _,dx.lC _ _ _ λi c hi=>?_⟩
  rw[δd] at hi
  obtain⟨x,hx,rfl⟩:=δ.1 hi
  have hil:=(ζ.1 hx).1
  have h9:(cur.toList.take l.length)[i]?=(l.map (Value.int .i64))[i]?:=by rw[h6]
  rw[List.getElem?_take_of_lt hil,Array.getElem?_toList,δd,hx] at h9
  refine⟨⟨g,0,none⟩,.int .i64 x,rfl,⟨λ⟨i,c,hi⟩=>by simp at hi,λhA=>by have:=hS.jS g hA;omega⟩,?_,by simp[bw,Value.oneCell']⟩
  rw[Addr.add_lit];simp only[World.cell?,h2,Nat.zero_add,Option.isSome_none,Bool.false_eq_true,if_false];exact h9
def vR:cV where
 f:=86
 α:=List Int
 put a:=[.row (.i .i64) a]
 st a:=[]
 dec v o:=match v,o with
  |[.row t l],[]=>iD t (.i .i64) l
  |_,_=>none
 ok v o a h:=by
  split at h
  ·obtain⟨rfl,hh⟩:=mW h
   cases hh
   exact⟨rfl,rfl⟩
  ·cases h
 inj a b e1 e2:=by
  simp only[gL,π,SV.g,εf,and_true] at e1
  exact lK (.i .i64) (by simpa using e1.1) e1.2
 dom a:=a.length<=1000000
 res a:=.ow 0 a.length 1
 out a:=[.row (.i .i64) a 3 true]
theorem h330o:dK Tryz.prog vR:=by
 intro(l:List Int) (E:l.length<=1000000)
 refine⟨by kernel_rfl,?_⟩
 intro A w s G k p
 replace k:bU A w s []:=k
 replace p:bD A w s [] (gL (vR.put l)) G:=p
 have q:s=[]:=by have:=k.len;simp_all
 subst q
 have F:gL (vR.put l)=[.sl l.length (l.map λx=>δj (.int .i64 x))]:=by rw[<-nY];rfl
 have B:(vR.res l).g= .os 0 0 l.length (l.length*1):=rfl
 have D:gO (vR.out l)=[bP.cells (l.map λx=>δj (.int .i64 x)) 3 1 true]:=by rw[<-nY];rfl
 rw[F] at p;rw[B,D]
 show Calls _ _ _ _ λe n=>∃u f,e= .returned u/\bU A n f [bP.cells (l.map λx=>δj (.int .i64 x)) 3 1 true]/\bw A n f [bP.cells (l.map λx=>δj (.int .i64 x)) 3 1 true] (.os 0 0 l.length (l.length*1)) u/\Ext w [] [] n f [bP.cells (l.map λx=>δj (.int .i64 x)) 3 1 true]
 refine Calls.mono (Ti (by rfl) k E p) ?_
 rintro e n ⟨d,h⟩
 have t:sZ [bP.cells (l.map λx=>δj (.int .i64 x)) 3 1 true] 0 (l.length*1):=⟨_,_,_,_,rfl,by simp⟩
 rcases h with⟨rfl,rfl⟩|⟨g,m,o,rfl,P,z,C,J,O,I⟩
 ·refine⟨_,[none],rfl,⟨rfl,?_,?_,?_,?_,λb h=>γr (k.jS b h) d.size⟩,?_,d.size,λb h _=>⟨d.block b h,?_⟩,εN _,λ_ _ ⟨_,_,_,_,h,_⟩=>by simp at h,λ_ ⟨_,_,_,h⟩=>by simp at h,d.os,d.tape,d.output⟩
  ·grind
  ·grind
  ·intro i x a
   cases i with
   |zero=>
    simp at a;subst a
    simp only[dy]
    exact⟨λ_=>rfl,rfl,.inl (by simp)⟩
   |succ i=>simp at a
  ·grind
  ·grind[bw,ko]
  ·rintro⟨i,c,a⟩;grind
 ·have L:g<n.heap.size:=(Array.getElem?_eq_some_iff.1 z).1
  refine⟨_,[some (g,m)],rfl,⟨rfl,?_,?_,?_,?_,λb h=>γr (k.jS b h) d.size⟩,?_,d.size,λb h _=>⟨d.block b h,?_⟩,εN _,λ_ _ ⟨_,_,_,_,h,_⟩=>by simp at h,λ_ ⟨_,_,_,h⟩=>by simp at h,d.os,d.tape,d.output⟩
  ·grind
  ·grind
  ·intro i x a
   cases i with
   |zero=>
    simp at a;subst a
    simp only[dy]
    refine⟨λ_=>by rw[<-nY];grind[qg],by rw[<-nY];grind[B0],.inr ⟨g,m,o,rfl,J,z,by omega,by simp;omega,?_⟩⟩
    intro j c v;rw[δd] at v
    obtain⟨x,r,rfl⟩:=δ.1 v
    have H:=(ζ.1 r).1
    refine⟨.int .i64 x,?_,by simp[bw,Value.oneCell']⟩
    have N:(o.toList.take l.length)[j]?=(l.map (Value.int .i64))[j]?:=by rw[I]
    grind
   |succ i=>simp at a
  ·intro i b c a
   cases i with
   |zero=>
    simp at a;intro K
    have:=k.jS b K
    omega
   |succ i=>simp at a
  ·simp only[bw]
   refine⟨t,_,_,rfl,C,λM y=>?_⟩
   obtain⟨_,_,_,y,_⟩:=y
   grind[ko,pr]
  ·rintro⟨i,c,a⟩
   grind
def lv (l:List Int) (i j:Nat):List Int:=l.take i++l.drop j++ε (j - i) 0
theorem Tj {l:List Int} {i j:Nat} (a:i<=j) (b:j<=l.length):(lv l i j).length=l.length:=by
 grind[lv]
def vS:cV where
 f:=166
 α:=(Nat×List Int)×Int×Int
 put a:=[.ow 0 a.1.1 1,.si .i64 a.2.1,.si .i64 a.2.2]
 st a:=[.row (.i .i64) a.1.2 3 true]
 dec v o:=match v,o with
  |[.ow 0 n 1,x,y],[.row t l 3 true]=>match iD t (.i .i64) l,x.int .i64,y.int .i64 with
   |some l,some i,some j=>some ((n,l),i,j)
   |_,_,_=>none
  |_,_=>none
 ok v o a h:=by
  split at h
  ·split at h
   ·rename_i h4 h5 h6
    simp only[γ] at h;subst h
    obtain⟨rfl,hh⟩:=mW h4
    cases hh
    refine⟨?_,rfl⟩
    simp only[gL,gX h5,gX h6];rfl
   ·cases h
  ·cases h
 inj a b e1 e2:=by
  obtain⟨⟨n,l⟩,i,j⟩:=a
  obtain⟨⟨n',l'⟩,i',j'⟩:=b
  simp only[gL,π,SV.g,εO,true_and,and_true,γZ,Value.int.injEq] at e1;simp only[gO,ι,γs,bq.g,π,bP.cells.injEq,and_true,true_and] at e2
  have h4:l=l':=by
   have hf:=congrArg γo e2
   rw[fe,fe] at hf
   exact lK (.i .i64) (by simpa[bn.sz] using hf) e2
  rw[e1.1.1,h4,e1.2.1,e1.2.2]
 dom a:=(a.1.1=a.1.2.length/\1<=a.1.2.length/\a.1.2.length<=1000000)/\0<=a.2.1/\a.2.1<=a.2.2/\a.2.2<=a.1.2.length
 res a:=.os 0 0 (a.1.2.length - (a.2.2 - a.2.1).toNat) a.1.1 1
 out a:=[.row (.i .i64) (lv a.1.2 a.2.1.toNat a.2.2.toNat) 3 true]
theorem h347:dK Tryz.prog vS:=by
 rintro⟨⟨n,l⟩,i,j⟩ ⟨⟨H,K,h2⟩,i0,ij,Y⟩
 simp only at H K h2 i0 ij Y
 subst H
 obtain⟨i,rfl⟩:∃k:Nat,i=k:=⟨i.toNat,by omega⟩
 obtain⟨j,rfl⟩:∃k:Nat,j=k:=⟨j.toNat,by omega⟩
 refine⟨by kernel_rfl,?_⟩
 intro A w F X t z
 have I:∀m:List Int,gO [bq.row (.i .i64) m 3 true]=[bP.cells (m.map λx=>δj (.int .i64 x)) 3 1 true]:=λm=>by
  simp only[gO,ι,γs,bq.g,nY];rfl
 have V:gL (vS.put ((l.length,l),(i:Int),(j:Int)))=[.os 0 0 l.length (l.length*1),.sc (.int .i64 i),.sc (.int .i64 j)]:=rfl
 have Z:(vS.res ((l.length,l),(i:Int),(j:Int))).g= .os 0 0 (l.length - (j - i)) (l.length*1):=by
  show AV.os 0 (0*1) (l.length - ((j:Int) - (i:Int)).toNat) (l.length*1)=_
  simp_all
 show Calls _ _ _ _ λe h=>∃u p,e= .returned u/\bU A h p (gO [bq.row (.i .i64) (lv l i j) 3 true])/\bw A h p (gO [bq.row (.i .i64) (lv l i j) 3 true]) (vS.res ((l.length,l),(i:Int),(j:Int))).g u/\Ext w F (gO [bq.row (.i .i64) l 3 true]) h p (gO [bq.row (.i .i64) (lv l i j) 3 true])
 replace t:bU A w F (gO [bq.row (.i .i64) l 3 true]):=t
 replace z:bD A w F (gO [bq.row (.i .i64) l 3 true]) (gL (vS.put ((l.length,l),(i:Int),(j:Int)))) X:=z
 rw[I] at t z;rw[I,I,Z];rw[V] at z
 obtain⟨b,a2,d,rfl,S,Q,q4,q5,q6⟩:=Tf t K
 simp only[bD] at z
 obtain⟨v,r,rfl,M,v2,r2,rfl,C,v3,r3,rfl,D,rfl⟩:=z
 simp only[bw] at M C D
 obtain⟨a0,a,s,rfl,a3,J⟩:=M
 obtain⟨rfl,_⟩:=C
 obtain⟨rfl,_⟩:=D
 have O:=J 1 ⟨_,_,_,rfl,by simp⟩
 simp only[ko,δr] at O
 obtain⟨rfl,rfl⟩:=O.2.1 trivial trivial (by omega)
 have hb:b<w.heap.size:=t.bnd 0 b s rfl
 have W:=holds_of_blockI (ss:=l) Q q6
 have T:maxLen=9223372036854775807:=rfl
 have B:=@Tj l i j (by omega) (by omega)
 have E:Calls Tryz.prog (vS).f #[.slice (some ⟨b,0,none⟩) l.length s,.int .i64 i,.int .i64 j] w λe h=>e= .returned (.slice (some ⟨b,0,none⟩) (l.length - (j - i)) s)/\∃q,h=Sort.putRow (Value.int .i64) (Sort.ahead w q) b 0 (lv l i j).toArray:=by
  exact AnyE.slices_Delete Tryz.layD (Value.int .i64) (λ_=>rfl) 0 Tryz.zeroValue3 Tryz.t3 (by kernel_rfl) (by kernel_rfl) b 0 s i j l.toArray w W (by omega) (by omega) (by omega) (by simp;omega)
 refine Calls.mono E ?_
 rintro e h ⟨rfl,q,rfl⟩
 have y:=grownBy_sortedI (w:=w) (g:=b) (n:=q) (os:=#[]) (lv l i j).toArray
 have L:=heap_sortedI (w:=w) (n:=q) (os:=#[]) (lv l i j).toArray Q
 rw[Sort.grow_empty] at y L
 have R:=take_putCellsI d (lv l i j) (by omega)
 have hz:(Sort.putCells (Value.int .i64) 0 (lv l i j).toArray d).size=d.size:=by simp[Sort.putCells]
 generalize Sort.putRow (Value.int .i64) (Sort.ahead w q) b 0 (lv l i j).toArray=h at*
 generalize Sort.putCells (Value.int .i64) 0 (lv l i j).toArray d=o at*
 have N:=t.upd (w':=h) (id:=0) (x':=.cells ((lv l i j).map λx=>δj (.int .i64 x)) 3 1 true) (s':=some (b,s)) rfl y.size y.os y.tape y.output
  (λk U H=>y.block k U λe=>by simp_all) (λb' c' e=>by simp_all)
  ⟨_,_,_,rfl,by simp[B],λ_=>rfl⟩ ?_
 ·refine⟨_,[some (b,s)],rfl,N.1,?_,N.2⟩
  simp only[bw]
  refine⟨⟨_,_,_,_,rfl,by simp[B]⟩,_,_,rfl,by omega,λsz E=>?_⟩
  obtain⟨_,_,_,E,_⟩:=E
  grind[ko]
 ·intro hx
  simp only[dy]
  refine⟨λ_=>by rw[<-nY];exact qg _ _,by rw[<-nY];exact B0 _ _,.inr ⟨b,s,o,rfl,S,L,by omega,by simp_all,?_⟩⟩
  intro k c P;rw[δd] at P
  obtain⟨x,G,rfl⟩:=δ.1 P
  have a1:=(ζ.1 G).1
  refine⟨.int .i64 x,?_,by simp[bw,Value.oneCell']⟩
  have h9:(o.toList.take (lv l i j).length)[k]?=((lv l i j).map (Value.int .i64))[k]?:=by rw[R]
  grind
structure Game where
 rows:List (List Int)
 bounds:List Int
 offers:List Off
def Az:pA Game where
 put a:=.agg [.row (.bK (.i .i64)) a.rows,.row (.i .i64) a.bounds,.row .off a.offers]
 dec
  | .agg [r,v,x]=>match fW (.bK (.i .i64)) r,fW (.i .i64) v,fW .off x with
   |some c,some v,some x=>some ⟨c,v,x⟩
   |_,_,_=>none
  |_=>none
 ok v a h:=by
  grind[SV.g,gL,jE]
 inj a b h:=by
  obtain⟨c,v,x⟩:=a
  obtain⟨l,k,j⟩:=b
  simp only[SV.g,gL,AV.agg.injEq,π,and_true,true_and,εf] at h
  have e:=lK (.bK (.i .i64)) h.1.1 h.1.2
  have d:=lK (.i .i64) h.2.1.1 h.2.1.2
  have f:=lK .off h.2.2.1 h.2.2.2
  rw[e,d,f]
def En:bM:=⟨59,bp,.one dG,λ_=>True,λp=> .si .i64 (if bC p=0 then di p else 0)⟩
theorem h335:Holds Tryz.prog En:=by
 refine cK (L:=[ri,xl]) En lk (by grind[h79,h157]) ?_
 rintro(p:bp) -
 refine bR (let c:=(0:Int);let b:=decide (bC p≠c);let a:=γe .i64 (if bC p=c then di p else c);True/\(b=true->(γq .i64 0).same a)/\(b=false->p.classes.length<=8/\(γe .i64 (di p)).same a)) (by kernel_rfl) ?_
 simp only[vcs]
 refine⟨λh=>by rw[if_neg h],λh=>?_⟩
 have c:bC p=0:=Γ.1 h
 rw[if_pos c]
 have:=(dL c).1
 omega
def jJ (p:bp) (r:Int) (n:Nat):List Int:=(p.offers.take n).map (eL p r)
def J7:bM:=⟨122,bp×Int,.cons dG (.one (ez .i64)),λa=>bC a.1=0/\0<=a.2/\a.2<di a.1,λa=> .bH [.row (.i .i64) (jJ a.1 a.2 a.1.offers.length),.si .i64 (dA a.1 a.2)]⟩
def acZ (a:bp×Int):Nat->cB
 |5=> .inv Int (λi=>⟨[(1,.si .i64 a.2),(4,.ow 1 (jJ a.1 a.2 i.toNat).length 1),(6,.ptr 2 0 20),(20,.row .off a.1.offers),(21,.si .i64 a.1.offers.length),(22,.si .i64 i)],[.cells a.1.ss 27 20 false,.row (.i .i64) (jJ a.1 a.2 i.toNat) 3 true,.cells a.1.ss 110 20 false]⟩)
   (λs=>iS s 22) (λi=>0<=i/\i<=a.1.offers.length) (λi=>(a.1.offers.length - i).toNat) λ_ _=> .look
 |_=> .look
theorem h336:Holds Tryz.prog J7:=by
 refine cK (L:=[En,xn,xm]) J7 acZ (by simpa using⟨h335,h156,h158⟩) ?_
 rintro⟨p,r⟩ ⟨hc,r0,r1⟩
 simp only at hc r0 r1
 refine bR (let a:=γe .i64;let b:=(0:Int);let c:=Φ;let d:=bq.row;let e:=SV.bH;let f:=γ8;let g:=bn.i .i64;let l:=c bn.off p.offers;let v:=decide (r<b);let o:=γq .i64 0;let w:=[a (dA p r)];let q:=e (c g (jJ p r p.offers.length)::w);let y:=decide ((if bC p=b then di p else b)<=r);let m:=γW 2 0 20;let z:=(↑p.offers.length:Int);let h:=(↑p.offers.length:Int);let s:=a h;let n:=λ(u:Nat) ↦let A:=bq.cells [a p.supply.a0,a p.supply.a1,a p.supply.a2,a p.supply.a3,a p.supply.a4,a p.supply.a5,a p.opn.a0,a p.opn.a1,a p.opn.a2,a p.opn.a3,a p.opn.a4,a p.opn.a5,a p.cls.a0,a p.cls.a1,a p.cls.a2,a p.cls.a3,a p.cls.a4,a p.cls.a5,c g p.classes,l] u 20 false;A.same A;(v=true->0=0/\(e [c g [],o]).same q)/\(v=false->True/\(y=true->0=0/\(e [c g [],o]).same q)/\(y=false->((((a r).same (a r)/\(f 1 0 1).same (f 1 (jJ p r 0).length 1)/\m.same m/\l.same l/\(a z).same s/\o.same (a 0)/\True)/\n 27/\(d g [] 3 true).same (d g (jJ p r 0) 3 true)/\n 110/\True)/\b<=b/\b<=h)/\∀(x:Int),let t:=bj p.offers x.toNat bn.off.dflt;let j:=jJ p r x.toNat;let B:=j.length+1;let k:=x+(1:Int);let C:=j++[eL p r t];let D:=a k;b<=x/\x<=h->(decide (x<h)=true->b<=x/\x<z/\x.toNat<p.offers.length/\(p.classes.length<=8/\b<=r/\r<di p/\b<=t.bF/\t.bF<(↑p.classes.length:Int))/\j.length=j.length/\B*8<=140737488355328/\B<=1000000000000/\bX .i64 k/\(((a r).same (a r)/\(f 1 C.length 1).same (f 1 (jJ p r k.toNat).length 1)/\m.same m/\l.same l/\s.same s/\D.same D/\True)/\n 27/\(d g C 3 true).same (d g (jJ p r k.toNat) 3 true)/\n 110/\True)/\(b<=k/\k<=h)/\(h - k).toNat<(h - x).toNat)/\(decide (x<h)=false->(p.classes.length<=8/\b<=r/\r<di p)/\j.length=j.length/\(e (c g j::w)).same q)))) (by kernel_rfl) ?_
 simp only[vcs]
 obtain⟨g1,g2,g3,g4,g5⟩:=dL hc
 have how:∀{x y:Nat},x=y->(γ8 1 x 1).same (γ8 1 y 1):=by rintro _ _ rfl;rfl
 have hrow:∀{x y:List Int},x=y->(bq.row (.i .i64) x 3 true).same (bq.row (.i .i64) y 3 true):=by rintro _ _ rfl;rfl
 rw[if_pos hc]
 refine⟨λh=>by omega,λ_=>⟨λh=>by omega,λ_=>⟨⟨?_,by omega,by omega⟩,?_⟩⟩⟩
 ·exact⟨how rfl,hrow rfl⟩
 ·rintro i ⟨i0,i1⟩
  have hL:(jJ p r i.toNat).length<=160:=by unfold jJ;rw[List.length_map,Ξ];omega
  refine⟨λhi=>?_,λhi=>?_⟩
  ·have hx:=g5 _ (de (d:=bn.off.dflt) (show i.toNat<p.offers.length by omega))
   have e:jJ p r (i+1).toNat=jJ p r i.toNat++[eL p r (bj p.offers i.toNat bn.off.dflt)]:=by
    unfold jJ;rw[jl (d:=bn.off.dflt) i0 hi,γa];rfl
   rw[e]
   refine⟨i0,hi,?_,⟨g1,r0,r1,hx.1,hx.2.1⟩,?_,?_,?_,⟨how rfl,hrow rfl⟩,?_,?_⟩<;>omega
  ·rw[show i.toNat=p.offers.length by omega]
   exact⟨⟨g1,r0,r1⟩,rfl⟩
def lX (p:bp) (n:Nat):List (List Int):=(τ n).map λr:Nat=>jJ p r p.offers.length
def j7 (p:bp) (n:Nat):List Int:=(τ n).map λr:Nat=>dA p r
def nR (p:bp):Nat:=if bC p=0 then p.classes.length+12 else 0
def cF (p:bp):Game:=⟨lX p (nR p),j7 p (nR p),p.offers⟩
theorem Tm {p:bp} {n:Nat}:(lX p n).length=n:=by simp[lX]
theorem Eo {p:bp} {n:Nat}:(j7 p n).length=n:=by simp[j7]
theorem ac0 {p:bp} {i:Int} (h:0<=i):lX p (i+1).toNat=lX p i.toNat++[jJ p i p.offers.length]:=by
 unfold lX
 rw[show(i+1).toNat=i.toNat+1 from by omega,δR,γa]
 grind
theorem ac1 {p:bp} {i:Int} (h:0<=i):j7 p (i+1).toNat=j7 p i.toNat++[dA p i]:=by
 unfold j7
 rw[show(i+1).toNat=i.toNat+1 from by omega,δR,γa]
 grind
def Ep:bM:=⟨85,bp,.one dG,λ_=>True,λp=>Az.put (cF p)⟩
def ac2 (p:bp):Nat->cB
 |3=> .inv Int (λi=>⟨[(1,.ptr 0 0 20),(2,.ptr 1 0 3),(3,.ptr 2 0 3),(11,.si .i64 (nR p)),(12,.si .i64 i)],[.cells p.ss 27 20 false,.cells [.sc (.slice none 0 0),.sc (.slice none 0 0),.sc (.slice none 0 0)] 124 3 false,.cells [.ow 4 (lX p i.toNat).length 1,.ow 3 (j7 p i.toNat).length 1,.row .off p.offers] 124 3 false,.row (.i .i64) (j7 p i.toNat) 3 true,.row (.bK (.i .i64)) (lX p i.toNat) 24 false]⟩)
   (λs=>iS s 12) (λi=>0<=i/\i<=nR p) (λi=>(nR p - i).toNat) λ_ _=> .look
 |_=> .look
theorem h325:Holds Tryz.prog Ep:=by
 refine cK (L:=[En,J7]) Ep ac2 (by simpa using⟨h335,h336⟩) ?_
 rintro(p:bp) -
 refine bR (let a:=γe .i64;let b:=bq.row;let c:=(0:Int);let d:=bq.cells;let e:=Φ;let f:=γ8;let g:=γW;let o:=g 0 0 20;let q:=g 1 0 3;let r:=g 2 0 3;let k:=(↑(nR p):Int);let u:=a k;let h:=bn.i .i64;let n:=[e bn.off p.offers];let s:=d (a p.supply.a0::a p.supply.a1::a p.supply.a2::a p.supply.a3::a p.supply.a4::a p.supply.a5::a p.opn.a0::a p.opn.a1::a p.opn.a2::a p.opn.a3::a p.opn.a4::a p.opn.a5::a p.cls.a0::a p.cls.a1::a p.cls.a2::a p.cls.a3::a p.cls.a4::a p.cls.a5::e h p.classes::n) 27 20 false;let v:=SV.sc (Value.slice none 0 0);let t:=d [v,v,v] 124 3 false;True/\(((o.same o/\q.same q/\r.same r/\(a (if bC p=c then di p else c)).same u/\(γq .i64 0).same (a 0)/\True)/\s.same s/\t.same t/\(d (f 4 0 1::f 3 0 1::n) 124 3 false).same (d (f 4 (lX p 0).length 1::f 3 (j7 p 0).length 1::n) 124 3 false)/\(b h [] 3 true).same (b h (j7 p 0) 3 true)/\(b h.bK [] 24 false).same (b h.bK (lX p 0) 24 false)/\True)/\c<=c/\c<=k)/\∀(x:Int),let m:=lX p x.toNat;let w:=m.length+1;let l:=j7 p x.toNat;let y:=l.length+1;let j:=x+(1:Int);let z:=a j;let A:=m++[jJ p x p.offers.length];c<=x/\x<=k->(decide (x<k)=true->(bC p=c/\c<=x/\x<di p)/\1=1/\m.length=m.length/\w*24<=140737488355328/\w<=1000000000000/\1=1/\l.length=l.length/\y*8<=140737488355328/\y<=1000000000000/\bX .i64 j/\((o.same o/\q.same q/\r.same r/\u.same u/\z.same z/\True)/\s.same s/\t.same t/\(d (f 4 A.length 1::f 3 (l++[dA p x]).length 1::n) 124 3 false).same (d (f 4 (lX p j.toNat).length 1::f 3 (j7 p j.toNat).length 1::n) 124 3 false)/\(b h (l++[dA p x]) 3 true).same (b h (j7 p j.toNat) 3 true)/\(b h.bK A 24 false).same (b h.bK (lX p j.toNat) 24 false)/\True)/\(c<=j/\j<=k)/\(k - j).toNat<(k - x).toNat)/\(decide (x<k)=false->m.length=m.length/\l.length=l.length/\(γK (e h.bK m::e h l::n)).same (γK [e h.bK (cF p).rows,e h (cF p).bounds,e bn.off (cF p).offers]))) (by kernel_rfl) ?_
 simp only[vcs]
 have hn:∀x:Int,0<=x->x<nR p->bC p=0/\x<di p/\nR p<=20:=by
  intro x hx0 hx;unfold nR at hx ⊢;split at hx
  ·rename_i hc
   have:=(dL hc).1
   rw[if_pos hc]
   exact⟨hc,by unfold di;omega,by omega⟩
  ·omega
 have e0:(if bC p=0 then di p else 0)=((nR p:Nat):Int):=by
  unfold nR di;split
  ·omega
  ·rfl
 have hcell:∀{a a' b b':Nat} {l:List Off},a=a'->b=b'->(bq.cells [.ow 4 a 1,.ow 3 b 1,.row .off l] 124 3 false).same (.cells [.ow 4 a' 1,.ow 3 b' 1,.row .off l] 124 3 false):=by rintro _ _ _ _ _ rfl rfl;rfl
 have hrow:∀{x y:List Int},x=y->(bq.row (.i .i64) x 3 true).same (bq.row (.i .i64) y 3 true):=by rintro _ _ rfl;rfl
 have hrow2:∀{x y:List (List Int)},x=y->(bq.row (.bK (.i .i64)) x 24 false).same (bq.row (.bK (.i .i64)) y 24 false):=by rintro _ _ rfl;rfl
 refine⟨⟨⟨e0,hcell rfl rfl,hrow rfl,hrow2 rfl⟩,by omega,by omega⟩,?_⟩
 rintro i ⟨i0,i1⟩
 refine⟨λhi=>?_,λhi=>?_⟩
 ·obtain⟨hc,h1,h2⟩:=hn i i0 hi
  have l1:=@Tm p i.toNat
  have l2:=@Eo p i.toNat
  rw[ac0 i0,ac1 i0]
  refine⟨⟨hc,i0,h1⟩,?_,?_,?_,?_,?_,⟨hcell rfl rfl,hrow rfl,hrow2 rfl⟩,?_,?_⟩<;>omega
 ·rw[show i.toNat=nR p by omega]
  rfl
def nz (g:Game):Prop:=(g.rows.length=g.bounds.length/\g.bounds.length<=1000/\g.offers.length<=1000)/\(∀r∈g.rows,r.length=g.offers.length/\∀x∈r,0<=x/\x<=1000)/\∀b∈g.bounds, -1000<=b/\b<=1000
def pL (g:Game) (c:List Int):Prop:=∀x∈c,0<=(bj g.offers x.toNat bn.off.dflt).value/\(bj g.offers x.toNat bn.off.dflt).value<=1000000
def oY (g:Game) (c:List Int):Prop:=c.length<=1000/\∀x∈c,0<=x/\x<g.offers.length
def lY (g:Game) (c:List Int) (r:Nat):Int:=(c.map λx=>bj (bj g.rows r []) x.toNat 0).sum
def kV (g:Game) (c:List Int):Bool:=(τ g.bounds.length).all λr=>decide (0<=bj g.bounds r 0 - lY g c r)
def dC (g:Game) (c:List Int):Int:=(c.map λx=>(bj g.offers x.toNat bn.off.dflt).value).sum
theorem Tn {f:Int->Int} {c:List Int} {i:Int} (a:0<=i) (h:i<c.length):((c.take (i+1).toNat).map f).sum=((c.take i.toNat).map f).sum+f (bj c i.toNat 0):=by
 grind[jl]
theorem J8 {f:Int->Int} {c:List Int} {k:Nat} {m:Int} (b:0<=m) (h:∀x∈c,0<=f x/\f x<=m):0<=((c.take k).map f).sum/\((c.take k).map f).sum<=c.length*m:=by
 induction c generalizing k with
 |nil=>simp
 |cons x c a=>
  cases k with
  |zero=>simp;exact Int.mul_nonneg (by omega) b
  |succ k=>
   have i:=h x (by simp)
   obtain⟨g,e⟩:=a (k:=k) λy d=>h y (by simp[d])
   simp only[List.take_succ_cons,ι,List.sum_cons,List.length_cons]
   grind
def Es:bM:=⟨91,Game×List Int,.cons Az (.one (dN (.i .i64))),λa=>nz a.1/\oY a.1 a.2,λa=> .sb (kV a.1 a.2)⟩
def ac3 (g:Game) (c:List Int):Nat->cB
 |2=> .inv Int (λi=>⟨[(1,.row (.i .i64) c),(2,.ptr 0 0 3),(10,.row (.i .i64) g.bounds),(11,.si .i64 g.bounds.length),(12,.si .i64 i)],[.cells [.row (.bK (.i .i64)) g.rows,.row (.i .i64) g.bounds,.row .off g.offers] 124 3 false]⟩)
   (λs=>iS s 12) (λi=>(0<=i/\i<=g.bounds.length)/\∀r:Nat,r<i->0<=bj g.bounds r 0 - lY g c r) (λi=>(g.bounds.length - i).toNat) λi k=>match k with
   |5=> .inv (Int×Int) (λy=>⟨[(1,.row (.i .i64) c),(2,.ptr 0 0 3),(5,.si .i64 i),(6,.si .i64 y.2),(10,.row (.i .i64) g.bounds),(11,.si .i64 g.bounds.length),(12,.si .i64 i),(17,.row (.i .i64) c),(18,.si .i64 c.length),(19,.si .i64 y.1)],[.cells [.row (.bK (.i .i64)) g.rows,.row (.i .i64) g.bounds,.row .off g.offers] 124 3 false]⟩)
     (λs=>(iS s 19,iS s 6)) (λy=>(0<=y.1/\y.1<=c.length)/\y.2=bj g.bounds i.toNat 0 - lY g (c.take y.1.toNat) i.toNat) (λy=>(c.length - y.1).toNat) λ_ _=> .look
   |_=> .look
 |_=> .look
theorem h327:Holds Tryz.prog Es:=by
 refine cK (L:=[]) Es (λa=>ac3 a.1 a.2) (by simp) ?_
 rintro⟨g,c⟩ ⟨⟨⟨q1,q2,q3⟩,hr,hb⟩,hcl,hci⟩
 simp only at q1 q2 q3 hr hb hcl hci
 refine bR (let a:=(0:Int);let b:=γe .i64;let d:=Φ;let e:=γq .i64 0;let f:=bX .i64;let h:=bn.i .i64;let k:=γW 0 0 3;let j:=d h g.bounds;let z:=(↑g.bounds.length:Int);let l:=(↑g.bounds.length:Int);let o:=b l;let m:=bq.cells [d h.bK g.rows,j,d bn.off g.offers] 124 3 false;let n:=(↑c.length:Int);let v:=b n;((((d h c).same (d h c)/\k.same k/\j.same j/\(b z).same o/\(e).same (b 0)/\True)/\m.same m/\True)/\(a<=a/\a<=l)/\∀(r:Nat),(↑r:Int)<a->a<=bj g.bounds r a - lY g c r)/\∀(x:Int),let s:=bj g.bounds x.toNat a;let A:=b s;let w:=bj g.rows x.toNat h.bK.dflt;let p:=x+(1:Int);let B:=b p;((a<=x/\x<=l)/\∀(r:Nat),(↑r:Int)<x->a<=bj g.bounds r a - lY g c r)->(decide (x<l)=true->a<=x/\x<z/\x.toNat<g.bounds.length/\((((d h c).same (d h c)/\k.same k/\(b x).same (b x)/\A.same A/\j.same j/\o.same o/\(b x).same (b x)/\(d h c).same (d h c)/\(b (↑c.length:Int)).same v/\(e).same (b 0)/\True)/\m.same m/\True)/\(a<=a/\a<=n)/\s=s - lY g [] x.toNat)/\∀(x_1:Int×Int),let t:=bj c x_1.fst.toNat a;let y:=x_1.snd - bj w t.toNat a;let q:=x_1.fst+(1:Int);let u:=b x;let C:=b y;let D:=b q;let E:=decide (x_1.snd<a);(a<=x_1.fst/\x_1.fst<=n)/\x_1.snd=s - lY g (γd x_1.fst.toNat c) x.toNat->(decide (x_1.fst<n)=true->a<=x_1.fst/\x_1.fst<(↑c.length:Int)/\x_1.fst.toNat<c.length/\a<=x/\x<(↑g.rows.length:Int)/\x.toNat<g.rows.length/\a<=t/\t<(↑w.length:Int)/\t.toNat<w.length/\f y/\f q/\(((d h c).same (d h c)/\k.same k/\u.same u/\C.same C/\j.same j/\o.same o/\u.same u/\(d h c).same (d h c)/\v.same v/\D.same D/\True)/\m.same m/\True)/\((a<=q/\q<=n)/\y=s - lY g (γd q.toNat c) x.toNat)/\(n - q).toNat<(n - x_1.fst).toNat)/\(decide (x_1.fst<n)=false->(E=true->(δs false).same (γI (kV g c)))/\(E=false->f p/\(((d h c).same (d h c)/\k.same k/\j.same j/\o.same o/\B.same B/\True)/\m.same m/\True)/\((a<=p/\p<=l)/\∀(r:Nat),(↑r:Int)<p->a<=bj g.bounds r a - lY g c r)/\(l - p).toNat<(l - x).toNat)))/\(decide (x<l)=false->(δs true).same (γI (kV g c)))) (by kernel_rfl) ?_
 simp only[vcs]
 have hd:(bn.i IntKind.i64).bK.dflt=([]:List Int):=rfl
 rw[hd]
 have hrr:∀r:Nat,r<g.rows.length->(bj g.rows r []).length=g.offers.length/\∀x∈c,0<=bj (bj g.rows r []) x.toNat 0/\bj (bj g.rows r []) x.toNat 0<=1000:=λr h=>by
  have:=hr _ (de (d:=[]) h)
  refine⟨this.1,λx hx=>?_⟩
  have h2:=hci x hx
  exact this.2 _ (de (by rw[this.1];omega))
 refine⟨⟨by omega,λr h=>by omega⟩,?_⟩
 rintro i ⟨⟨i0,i1⟩,hdone⟩
 refine⟨λhi=>⟨i0,hi,by omega,⟨by omega,by simp[lY]⟩,?_⟩,λhi=>?_⟩
 ·obtain⟨hrl,hrx⟩:=hrr i.toNat (by omega)
  have hbi:=hb _ (de (d:=0) (show i.toNat<g.bounds.length by omega))
  rintro⟨j,v⟩ ⟨⟨j0,j1⟩,hv⟩
  simp only at j0 j1 hv ⊢
  refine⟨λhj=>?_,λhj=>?_⟩
  ·have hx:=hci _ (de (d:=0) (show j.toNat<c.length by omega))
   have hs:lY g (c.take (j+1).toNat) i.toNat=lY g (c.take j.toNat) i.toNat+bj (bj g.rows i.toNat []) (bj c j.toNat 0).toNat 0:=Tn (f:=λx=>bj (bj g.rows i.toNat []) x.toNat 0) j0 hj
   have hbd:0<=lY g (c.take j.toNat) i.toNat/\lY g (c.take j.toNat) i.toNat<=c.length*1000:=J8 (f:=λx=>bj (bj g.rows i.toNat []) x.toNat 0) (m:=1000) (by omega) hrx
   have hvx:=hrx _ (de (d:=0) (show j.toNat<c.length by omega))
   rw[hs,hrl]
   refine⟨j0,hj,?_,i0,?_,?_,hx.1,hx.2,?_,?_,?_,⟨?_,?_⟩,?_⟩<;>omega
  ·have hjc:j.toNat=c.length:=by omega
   rw[hjc,χ] at hv
   refine⟨λhneg=>?_,λhpos=>⟨by omega,⟨by omega,λr h=>?_⟩,by omega⟩⟩
   ·symm
    rw[<-Bool.not_eq_true,kV,Θ];intro h
    have:=of_decide_eq_true (h i.toNat (γM.2 (by omega)))
    omega
   ·by_cases h2:(r:Int)<i
    ·exact hdone r h2
    ·rw[show r=i.toNat by omega,<-hv];omega
 ·symm
  rw[kV,Θ];intro r h;rw[γM] at h
  exact decide_eq_true (hdone r (by omega))
def yj:bM:=⟨88,Game×List Int,.cons Az (.one (dN (.i .i64))),λa=>nz a.1/\oY a.1 a.2/\pL a.1 a.2,λa=> .si .i64 (dC a.1 a.2)⟩
def ac4 (g:Game) (c:List Int):Nat->cB
 |3=> .inv Int (λi=>⟨[(2,.ptr 0 0 3),(5,.si .i64 (dC g (c.take i.toNat))),(8,.row (.i .i64) c),(9,.si .i64 c.length),(10,.si .i64 i)],[.cells [.row (.bK (.i .i64)) g.rows,.row (.i .i64) g.bounds,.row .off g.offers] 124 3 false]⟩)
   (λs=>iS s 10) (λi=>0<=i/\i<=c.length) (λi=>(c.length - i).toNat) λ_ _=> .look
 |_=> .look
theorem h328:Holds Tryz.prog yj:=by
 refine cK (L:=[]) yj (λa=>ac4 a.1 a.2) (by simp) ?_
 rintro⟨g,c⟩ ⟨⟨⟨q1,q2,q3⟩,hr,hb⟩,⟨hcl,hci⟩,hvv⟩
 simp only[pL] at q1 q2 q3 hr hb hcl hci hvv
 refine bR (let a:=γe .i64;let b:=(0:Int);let d:=Φ;let j:=γW 0 0 3;let n:=γq .i64 0;let f:=bn.i .i64;let e:=(↑c.length:Int);let m:=a e;let k:=bq.cells [d f.bK g.rows,d f g.bounds,d bn.off g.offers] 124 3 false;(((j.same j/\n.same (a (dC g []))/\(d f c).same (d f c)/\(a (↑c.length:Int)).same m/\n.same (a 0)/\True)/\k.same k/\True)/\b<=b/\b<=e)/\∀(x:Int),let l:=bj c x.toNat b;let o:=dC g (γd x.toNat c);let p:=o+(bj g.offers l.toNat bn.off.dflt).value;let h:=x+(1:Int);let q:=a h;b<=x/\x<=e->(decide (x<e)=true->b<=x/\x<(↑c.length:Int)/\x.toNat<c.length/\b<=l/\l<(↑g.offers.length:Int)/\l.toNat<g.offers.length/\bX .i64 p/\bX .i64 h/\((j.same j/\(a p).same (a (dC g (γd h.toNat c)))/\(d f c).same (d f c)/\m.same m/\q.same q/\True)/\k.same k/\True)/\(b<=h/\h<=e)/\(e - h).toNat<(e - x).toNat)/\(decide (x<e)=false->(a o).same (a (dC g c)))) (by kernel_rfl) ?_
 conv=>zeta
 try simp only[vcs]
 refine⟨⟨by simp[dC],by omega,by omega⟩,?_⟩
 rintro i ⟨i0,i1⟩
 refine⟨λhi=>?_,λhi=>?_⟩
 ·have hx:=hci _ (de (d:=0) (show i.toNat<c.length by omega))
  have hs:dC g (c.take (i+1).toNat)=dC g (c.take i.toNat)+(bj g.offers (bj c i.toNat 0).toNat bn.off.dflt).value:=Tn (f:=λx=>(bj g.offers x.toNat bn.off.dflt).value) i0 hi
  have hbd:0<=dC g (c.take i.toNat)/\dC g (c.take i.toNat)<=c.length*1000000:=J8 (f:=λx=>(bj g.offers x.toNat bn.off.dflt).value) (m:=1000000) (by omega) hvv
  have hv1:=hvv _ (de (d:=0) (show i.toNat<c.length by omega))
  rw[hs]
  refine⟨i0,hi,by omega,hx.1,hx.2,by omega,by omega,by omega,by first|trivial|rfl,by omega,by omega⟩
 ·rw[show i.toNat=c.length by omega,χ]
def Et:bM:=⟨90,List Int×List Int,.cons (dN (.i .i64)) (.one (dN (.i .i64))),λa=>a.1.length<=1000/\1<=a.2.length/\a.2.length<=1000,λa=> .row (.i .i64) (eO (a.1++a.2))⟩
theorem h326:Holds Tryz.prog Et:=by
 refine con (L:=[]) (W:=fY [vR,Ax]) Et lk (ln (by simpa using⟨h330o,h337⟩)) (by simp) ?_
 rintro⟨s,x⟩ ⟨h1,h2,h3⟩
 simp only at h1 h2 h3
 refine bR (let z0:Nat:=(s++x).length;s.length<=1000000/\s.length=s.length/\(s.length+x.length)*8<=140737488355328/\s.length+x.length<=1000000000000/\((s++x).length=z0/\1<=z0/\z0<=1000000)/\(s++x).length=(eO (s++x)).length/\(Φ (bn.i .i64) (eO (s++x))).same (Φ (bn.i .i64) (eO (s++x)))) (by kernel_rfl) ?_
 conv=>zeta
 try simp only[vcs]
 have:=@vQ (s++x)
 rw[ν] at this ⊢;omega
def J9:bM:=⟨124,List Int×Int,.cons (dN (.i .i64)) (.one (ez .i64)),λa=>a.1.length<=1000/\0<=a.2/\a.2<a.1.length,λa=> .row (.i .i64) (a.1.take a.2.toNat++a.1.drop (a.2+1).toNat)⟩
theorem h339:Holds Tryz.prog J9:=by
 refine con (L:=[]) (W:=fY [vR,vS]) J9 lk (ln (by grind[h330o,h347])) (by simp) ?_
 rintro⟨s,i⟩ ⟨d,e,f⟩
 simp only at d e f
 refine bR (let a:=i+(1:Int);let c:=lv s i.toNat a.toNat;let b:=s.length - (a - i).toNat;s.length<=1000000/\bX .i64 a/\((s.length=s.length/\1<=s.length/\s.length<=1000000)/\(0:Int)<=i/\i<=a/\a<=(↑s.length:Int))/\s.length=c.length/\0+b<=s.length/\(Φ (bn.i .i64) (γd b c)).same (Φ (bn.i .i64) (γd i.toNat s++List.drop a.toNat s))) (by kernel_rfl) ?_
 conv=>zeta
 try simp only[vcs]
 have g:=@Tj s i.toNat (i+1).toNat (by omega) (by omega)
 refine⟨by omega,by omega,by omega,g.symm,by omega,?_⟩
 unfold lv
 rw[List.take_append_of_le_length (by grind),γn (by grind)]
def sN (c:List Int) (x:Int):Int:=if x∈c then(c.idxOf x:Int) else -1
theorem ac5 {c:List Int} {x:Int} {k:Nat} (h:k<c.length) (b:∀j:Nat,j<k->bj c j 0≠x) (a:bj c k 0=x):sN c x=k:=by
 unfold sN;rw[if_pos (a▸de h)]
 congr 1
 rw[cO h] at a;rw[List.idxOf,List.findIdx_eq h]
 grind[cO]
theorem ac6 {c:List Int} {x:Int} (a:∀j:Nat,j<c.length->bj c j 0≠x):sN c x= -1:=by
 unfold sN;rw[if_neg];intro h
 obtain⟨k,b,rfl⟩:=δa h
 grind[cO]
theorem ac7 {c:List Int} {x:Int}:0<=sN c x↔x∈c:=by
 grind[sN]
def Ko:bM:=⟨167,List Int×Int,.cons (dN (.i .i64)) (.one (ez .i64)),λa=>a.1.length<=1000,λa=> .si .i64 (sN a.1 a.2)⟩
def ac8 (c:List Int) (x:Int):Nat->cB
 |2=> .inv Int (λi=>⟨[(0,.row (.i .i64) c),(1,.si .i64 x),(7,.si .i64 c.length),(8,.si .i64 i)],[]⟩)
   (λs=>iS s 8) (λi=>(0<=i/\i<=c.length)/\∀k:Nat,(k:Int)<i->bj c k 0≠x) (λi=>(c.length - i).toNat) λ_ _=> .look
 |_=> .look
theorem h348:Holds Tryz.prog Ko:=by
 refine cK (L:=[]) Ko (λa=>ac8 a.1 a.2) (by simp) ?_
 rintro⟨c,x⟩ o
 replace o:c.length<=1000:=o
 refine bR (let a:=γe .i64;let h:=(0:Int);let f:=Φ (bn.i .i64) c;let d:=(↑c.length:Int);let g:=a d;let n:=a (sN c x);(((f.same f/\(a x).same (a x)/\(a (↑c.length:Int)).same g/\(γq .i64 0).same (a 0)/\True)/\True)/\(h<=h/\h<=d)/\∀(k:Nat),(↑k:Int)<h->bj c k h≠x)/\∀(b:Int),let l:=decide (x=bj c b.toNat h);let e:=b+(1:Int);let j:=a x;let m:=a e;((h<=b/\b<=d)/\∀(k:Nat),(↑k:Int)<b->bj c k h≠x)->(decide (b<d)=true->h<=b/\b<(↑c.length:Int)/\b.toNat<c.length/\(l=true->(a b).same n)/\(l=false->bX .i64 e/\((f.same f/\j.same j/\g.same g/\m.same m/\True)/\True)/\((h<=e/\e<=d)/\∀(k:Nat),(↑k:Int)<e->bj c k h≠x)/\(d - e).toNat<(d - b).toNat))/\(decide (b<d)=false->(γq .i64 (-1:Int)).same n)) (by kernel_rfl) ?_
 conv=>zeta
 try simp only[vcs]
 refine⟨⟨by omega,λk h=>by omega⟩,?_⟩
 grind[ac5,ac6]
def Kp:bM:=⟨125,List Int×Int,.cons (dN (.i .i64)) (.one (ez .i64)),λa=>a.1.length<=1000,λa=> .sb (decide (a.2∈a.1))⟩
theorem h340:Holds Tryz.prog Kp:=by
 refine cK (L:=[Ko]) Kp lk (by grind[h348]) ?_
 rintro⟨c,x⟩ a
 replace a:c.length<=1000:=a
 refine bR (c.length<=1000/\(γI (decide ((0:Int)<=sN c x))).same (γI (decide (x∈c)))) (by kernel_rfl) ?_
 simp_all[ac7]
theorem Eu {p:bp} (a:bC p=0) {r:Int}:0<=dA p r/\dA p r<=4:=by
 obtain⟨_,_,b,c,_⟩:=dL a
 unfold dA;split
 ·omega
 ·split
  all_goals simp_all[Hv]
theorem Tq {p:bp} (h:p.offers.length<=1000):nz (cF p):=by
 have j:nR p<=20:=by
  unfold nR;split
  ·rename_i a
   have:=(dL a).1
   omega
  ·omega
 have d:0<nR p->bC p=0:=by
  grind[nR]
 refine⟨⟨?_,?_,h⟩,λr f=>?_,λb g=>?_⟩
 ·show(lX p (nR p)).length=(j7 p (nR p)).length
  rw[Tm,Eo]
 ·show(j7 p (nR p)).length<=1000
  grind[Eo]
 ·obtain⟨k,c,rfl⟩:=γf.1 (show r∈lX p (nR p) from f)
  rw[γM] at c
  have a:=d (by omega)
  refine⟨by simp[jJ,cF],λx i=>?_⟩
  obtain⟨o,e,rfl⟩:=γf.1 (show x∈jJ p k p.offers.length from i)
  have:=rh (p:=p) (r:=k) ((dL a).2.2.2.2 o (γm e)).2.2.1
  omega
 ·obtain⟨k,c,rfl⟩:=γf.1 (show b∈j7 p (nR p) from g)
  rw[γM] at c
  have:=Eu (d (by omega)) (r:=k)
  omega
def stepG (g:Game) (c:List Int) (x:Int):List Int:=if kV g (eO (c++[x]))=true then eO (c++[x]) else c
def nZ (g:Game) (l:List Int):List Int:=l.foldl (stepG g) []
def gB (p:bp):List Int:=if bC p=0 then vP p else[]
def jK (p:bp):List Int:=nZ (cF p) (gB p)
theorem Ew {l:List Int} {x:Int}:x∈eO l↔x∈l:=(εC _ _).mem_iff
theorem Tt {g:Game} {c:List Int} {x y:Int} (h:y∈stepG g c x):y∈c\/y=x:=by
 grind[stepG,Ew]
theorem ac9 {g:Game} {c:List Int} {x:Int}:(stepG g c x).length<=c.length+1:=by
 grind[stepG,vQ]
theorem Tv {g:Game} {l:List Int}:∀{c:List Int} {y:Int},y∈l.foldl (stepG g) c->y∈c\/y∈l:=by
 induction l<;>grind[Tt]
theorem ada {g:Game} {l:List Int}:∀{c:List Int},(l.foldl (stepG g) c).length<=c.length+l.length:=by
 induction l<;>grind[stepG,ac9]
theorem adb {g:Game} {l:List Int}:(nZ g l).length<=l.length:=by
 grind[ada,nZ]
theorem ade {g:Game} {l:List Int} {i:Int} (a:0<=i) (h:i<l.length):nZ g (l.take (i+1).toNat)=stepG g (nZ g (l.take i.toNat)) (bj l i.toNat 0):=by
 grind[nZ,jl]
theorem Kq {p:bp} {x:Int} (h:x∈gB p):bC p=0/\iq p x:=by
 unfold gB at h;split at h
 ·rename_i a
  rw[vP,yc,rD] at h
  exact⟨a,h⟩
 ·simp at h
theorem Tz {p:bp}:(gB p).length<=p.offers.length:=by
 grind[gB,vP,nX,js]
theorem adf {p:bp} (d:p.offers.length<=40) {k:Nat}:(nZ (cF p) ((gB p).take k)).length<=40/\∀x∈nZ (cF p) ((gB p).take k),bC p=0/\iq p x:=by
 have b:=@adb (cF p) ((gB p).take k)
 have c:=@Tz p
 rw[Ξ] at b
 refine⟨by omega,λx a=>?_⟩
 rcases Tv a with h|h<;>grind[Tv,Kq]
def AA:bM:=⟨54,bp,.one dG,λp=>p.offers.length<=40,λp=>lj.put ⟨jK p,dC (cF p) (jK p)⟩⟩
def adg (p:bp):Nat->cB
 |4=> .inv Int (λi=>⟨[(2,.ptr 1 0 2),(3,.ptr 2 0 3),(4,.row (.i .i64) (nZ (cF p) ((gB p).take i.toNat))),(11,.row (.i .i64) (gB p)),(12,.si .i64 (gB p).length),(13,.si .i64 i)],[.cells p.ss 27 20 false,.cells [.sc (.slice none 0 0),.il .i64 0] 41 2 false,.cells [.row (.bK (.i .i64)) (cF p).rows,.row (.i .i64) (cF p).bounds,.row .off (cF p).offers] 124 3 false,.dead]⟩)
   (λs=>iS s 13) (λi=>0<=i/\i<=(gB p).length) (λi=>((gB p).length - i).toNat) λ_ _=> .look
 |_=> .look
theorem h312:Holds Tryz.prog AA:=by
 refine cK (L:=[Ep,J6,Et,Es,yj]) AA adg (by simpa using⟨h325,h308,h326,h327,h328⟩) ?_
 intro(p:bp) (hp:p.offers.length<=40)
 refine bR (let a:=γe .i64;let b:=Φ;let c:=(0:Int);let d:=bq.cells;let j:=γW 1 0 2;let k:=γW 2 0 3;let e:=bn.i .i64;let s:=if bC p=c then vP p else[];let o:=b e (gB p);let f:=(↑(gB p).length:Int);let q:=a f;let t:=γq .i64 0;let l:=d [a p.supply.a0,a p.supply.a1,a p.supply.a2,a p.supply.a3,a p.supply.a4,a p.supply.a5,a p.opn.a0,a p.opn.a1,a p.opn.a2,a p.opn.a3,a p.opn.a4,a p.opn.a5,a p.cls.a0,a p.cls.a1,a p.cls.a2,a p.cls.a3,a p.cls.a4,a p.cls.a5,b e p.classes,b bn.off p.offers] 27 20 false;let m:=d [SV.sc (Value.slice none 0 0),t] 41 2 false;let n:=d [b e.bK (cF p).rows,b e (cF p).bounds,b bn.off (cF p).offers] 124 3 false;True/\0=0/\p.offers.length<=40/\(((j.same j/\k.same k/\(b e []).same (b e (nZ (cF p) []))/\(b e s).same o/\(a (↑s.length:Int)).same q/\t.same (a 0)/\True)/\l.same l/\m.same m/\n.same n/\bq.dead.same bq.dead/\True)/\c<=c/\c<=f)/\∀(x:Int),let g:=nZ (cF p) (γd x.toNat (gB p));let r:=eO (g++[bj (gB p) x.toNat c]);let h:=x+(1:Int);let v:=a h;let w:=λ(u:Bool) (u_1:List Int) ↦kV (cF p) r=u->bX .i64 h/\((j.same j/\k.same k/\(b e u_1).same (b e (nZ (cF p) (γd h.toNat (gB p))))/\o.same o/\q.same q/\v.same v/\True)/\l.same l/\m.same m/\n.same n/\bq.dead.same bq.dead/\True)/\(c<=h/\h<=f)/\(f - h).toNat<(f - x).toNat;c<=x/\x<=f->(decide (x<f)=true->c<=x/\x<(↑(gB p).length:Int)/\x.toNat<(gB p).length/\(g.length<=1000/\1<=1/\1<=1000)/\(nz (cF p)/\oY (cF p) r)/\w true r/\w false g)/\(decide (x<f)=false->(nz (cF p)/\oY (cF p) g/\pL (cF p) g)/\(γK [b e g,a (dC (cF p) g)]).same (γK [b e (jK p),a (dC (cF p) (jK p))]))) (by kernel_rfl) ?_
 conv=>zeta
 try simp only[vcs]
 have hg:=@Tq p (by omega)
 have hol:=@Tz p
 have e0:(if bC p=0 then vP p else[])=gB p:=rfl
 rw[e0]
 refine⟨hp,⟨⟨rfl,rfl,rfl⟩,by omega,by omega⟩,?_⟩
 ·rintro i ⟨i0,i1⟩
  obtain⟨hsl,hsm⟩:=@adf p hp i.toNat
  refine⟨λhi=>?_,λhi=>?_⟩
  ·have hs:=@ade (cF p) (gB p) i i0 hi
   have hx:=Kq (de (d:=0) (show i.toNat<(gB p).length by omega))
   rw[hs]
   generalize nZ (cF p) ((gB p).take i.toNat)=c at*
   refine⟨i0,hi,by omega,⟨by omega,by omega,by omega⟩,⟨hg,by rw[vQ,ν];simp;omega,λx h=>?_⟩,λh=>⟨by omega,by unfold stepG;rw[if_pos h],by omega,by omega⟩,λh=>⟨by omega,by unfold stepG;rw[if_neg (by rw[h];simp)],by omega,by omega⟩⟩
   rw[Ew,ω] at h
   rcases h with h|h
   ·exact(hsm x h).2
   ·rw[List.mem_singleton] at h
    rw[h];exact hx.2
  ·have hk:(gB p).take i.toNat=gB p:=γn (by omega)
   rw[hk] at hsl hsm ⊢
   refine⟨⟨hg,⟨by omega,λx h=>(hsm x h).2⟩,λx h=>?_⟩,rfl⟩
   obtain⟨hc,hx⟩:=hsm x h
   have:=(Ak hc hx).1
   have e:(bj (cF p).offers x.toNat bn.off.dflt).value=rB p x:=rfl
   rw[e];omega
def rE (g:Game):List SV:=[.row (.bK (.i .i64)) g.rows,.row (.i .i64) g.bounds,.row .off g.offers]
def Kr:List SV->Option Game
 |[r,v,x]=>match fW (.bK (.i .i64)) r,fW (.i .i64) v,fW .off x with
  |some c,some v,some x=>some ⟨c,v,x⟩
  |_,_,_=>none
 |_=>none
theorem adh {cs:List SV} {g:Game} (h:Kr cs=some g):gL cs=gL (rE g):=by
 unfold Kr at h
 grind[rE,gL,jE]
theorem adi {g a:Game} (h:gL (rE g)=gL (rE a)):g=a:=Az.inj g a (by
 show AV.agg (gL (rE g))=AV.agg (gL (rE a))
 rw[h])
def mI (g:Game) (v:Int) (c:List Int):Bool:=decide (v<dC g c)&&kV g c
def Ks:cV where
 f:=123
 α:=List Int×Game×Int
 put a:=[.row (.i .i64) a.1,.ptr 0 0 3,.ptr 1 0 1]
 st a:=[.cells (rE a.2.1) 124 3 false,.cells [.si .i64 a.2.2] 2 1 false]
 dec v o:=match v,o with
  |[x,.ptr 0 0 3,.ptr 1 0 1],[.cells cs 124 3 false,.cells [y] 2 1 false]=>match fW (.i .i64) x,Kr cs,y.int .i64 with
   |some x,some g,some y=>some (x,g,y)
   |_,_,_=>none
  |_,_=>none
 ok v o a h:=by
  split at h
  ·split at h
   ·rename_i h1 h2 h3
    simp only[γ] at h;subst h
    refine⟨by simp only[gL,jE h1],?_⟩
    simp only[gO,ι,γs,bq.g,adh h2,gL,gX h3];rfl
   ·cases h
  ·cases h
 inj a b h1 h2:=by
  simp only[gL,π,and_true,SV.g,εf] at h1;simp only[gO,ι,γs,bq.g,π,bP.cells.injEq,and_true,gL,SV.g,γZ,Value.int.injEq,true_and] at h2
  have h3:=adi h2.1
  have h4:=lK (.i .i64) h1.1 h1.2
  exact Prod.ext h4 (Prod.ext h3 h2.2)
 dom a:=nz a.2.1/\oY a.2.1 a.1/\pL a.2.1 a.1
 res a:=.sb (mI a.2.1 a.2.2 a.1)
 out a:=[.cells (rE a.2.1) 124 3 false,.cells [.si .i64 a.2.2] 2 1 false]
theorem h338:dK Tryz.prog Ks:=by
 refine jk (L:=[Es,yj]) (W:=[]) Ks lk (by simp) (by simpa using⟨h327,h328⟩) ?_
 rintro⟨c,g,v⟩ ⟨h1,h2,h3⟩
 simp only at h1 h2 h3
 refine bR (let a:=Φ;let b:=bq.cells [a (bn.i .i64).bK g.rows,a (bn.i .i64) g.bounds,a bn.off g.offers] 124 3 false;let d:=bq.cells [γe .i64 v] 2 1 false;let e:=decide (v<dC g c);let f:=b.same b/\d.same d/\True;(nz g/\oY g c/\pL g c)/\(e=true->(nz g/\oY g c)/\(γI (kV g c)).same (γI (mI g v c))/\f)/\(e=false->(δs false).same (γI (mI g v c))/\f)) (by kernel_rfl) ?_
 conv=>zeta
 try simp only[vcs]
 refine⟨⟨h1,h2,h3⟩,λh=>⟨⟨h1,h2⟩,?_⟩,λh=>?_⟩
 ·unfold mI;rw[decide_eq_true h,Bool.true_and]
 ·unfold mI;rw[decide_eq_false h,Bool.false_and]
def pM (g:Game) (c:List Int) (v:Int) (a:List Int) (o k:Int):Option (List Int):=if k<=o\/k∈c then none else if mI g v (eO (a++[o,k]))=true then some (eO (a++[o,k])) else none
def nA (g:Game) (c:List Int) (v:Int) (a:List Int) (o:Int):Option (List Int):=if o∈c then none else if mI g v (eO (a++[o]))=true then some (eO (a++[o])) else(τ g.offers.length).findSome? λk:Nat=>pM g c v a o k
def iG (c:List Int) (i:Nat):List Int:=c.take i++c.drop (i+1)
def yk (g:Game) (c:List Int) (v:Int) (i:Nat):Option (List Int):=(τ g.offers.length).findSome? λo:Nat=>nA g c v (iG c i) o
def iM (g:Game) (c:List Int):Option (List Int):=(τ c.length).findSome? λi=>yk g c (dC g c) i
theorem Ey {n:Nat} {f:Nat->Option (List Int)} (h:∀i,i<n->f i=none):(τ n).findSome? f=none:=by
 simp_all
theorem Ez {n i:Nat} {f:Nat->Option (List Int)} {t:List Int} (c:i<n) (h:∀j,j<i->f j=none) (b:f i=some t):(τ n).findSome? f=some t:=by
 have e:τ n=τ i++(i::(τ (n - (i+1))).map λk=>i+1+k):=by
  have a:=@List.range_add i (n - i)
  rw[show i+(n - i)=n by omega] at a
  rw[a,show n - i=(n - (i+1))+1 by omega,List.range_succ_eq_map]
  simp only[ι,δo,Nat.add_zero]
  congr 2
  apply γ2
  grind
 simp_all[Ey]
def uo (g:Game):Prop:=nz g/\∀o∈g.offers,0<=o.value/\o.value<=1000000
def Kt:bM:=⟨87,Game×List Int,.cons Az (.one (dN (.i .i64))),λa=>uo a.1/\(a.2.length<=900/\∀x∈a.2,0<=x/\x<a.1.offers.length),λa=> .bH [.row (.i .i64) ((iM a.1 a.2).getD []),.sb (iM a.1 a.2).isSome]⟩
def Ku (g:Game) (c:List Int):bV:=[.cells (rE g) 124 3 false,.cells [.si .i64 (dC g c)] 2 1 false]
def adj (g:Game) (c:List Int):Nat->cB
 |4=> .inv Int (λi=>⟨[(1,.row (.i .i64) c),(2,.ptr 0 0 3),(7,.fn (.func 123) [] [.ptr 0 0 3,.ptr 1 0 1]),(19,.si .i64 c.length),(20,.si .i64 i)],Ku g c⟩)
   (λs=>iS s 20) (λi=>(0<=i/\i<=c.length)/\∀k:Nat,(k:Int)<i->yk g c (dC g c) k=none) (λi=>(c.length - i).toNat) λi k=>match k with
   |8=> .inv Int (λo=>⟨[(1,.row (.i .i64) c),(2,.ptr 0 0 3),(7,.fn (.func 123) [] [.ptr 0 0 3,.ptr 1 0 1]),(9,.row (.i .i64) (iG c i.toNat)),(19,.si .i64 c.length),(20,.si .i64 i),(28,.si .i64 g.offers.length),(29,.si .i64 o)],Ku g c⟩)
     (λs=>iS s 29) (λo=>(0<=o/\o<=g.offers.length)/\∀k:Nat,(k:Int)<o->nA g c (dC g c) (iG c i.toNat) k=none) (λo=>(g.offers.length - o).toNat) λo k=>match k with
     |15=> .inv Int (λz=>⟨[(1,.row (.i .i64) c),(2,.ptr 0 0 3),(7,.fn (.func 123) [] [.ptr 0 0 3,.ptr 1 0 1]),(9,.row (.i .i64) (iG c i.toNat)),(10,.si .i64 o),(12,.si .i64 z),(19,.si .i64 c.length),(20,.si .i64 i),(28,.si .i64 g.offers.length),(29,.si .i64 o)],Ku g c⟩)
       (λs=>iS s 12) (λz=>(o<z/\z<=g.offers.length)/\∀k:Nat,(k:Int)<z->pM g c (dC g c) (iG c i.toNat) o k=none) (λz=>(g.offers.length - z).toNat) λ_ _=> .look
     |_=> .look
   |_=> .look
 |_=> .look
theorem h331:Holds Tryz.prog Kt:=by
 refine con (L:=[Et,yj,J9,Kp]) (W:=fY [Ks]) Kt (λa=>adj a.1 a.2) (ln (by simpa using h338)) (by simpa using⟨h326,h328,h339,h340⟩) ?_
 rintro⟨g,c⟩ ⟨⟨hg,hv⟩,hcl,hci⟩
 simp only at hg hv hcl hci
 refine bR (let a:=γe .i64;let b:=Φ;let d:=(0:Int);let e:=bX .i64;let f:=γq .i64 0;let h:=SV.bH;let j:=(1:Int);let l:=bn.i .i64;let n:=γW 0 0 3;let p:=SV.fn (Fn.func 123) [] [n,γW 1 0 1];let u:=(↑c.length:Int);let s:=a u;let q:=bq.cells [b l.bK g.rows,b l g.bounds,b bn.off g.offers] 124 3 false;let r:=bq.cells [a (dC g c)] 2 1 false;let F:=(↑g.offers.length:Int);let m:=(↑g.offers.length:Int);let v:=a m;let G:=h [b l ((iM g c).getD []),γI (iM g c).isSome];(nz g/\oY g c/\pL g c)/\((((b l c).same (b l c)/\n.same n/\p.same p/\(a (↑c.length:Int)).same s/\(f).same (a 0)/\True)/\q.same q/\r.same r/\True)/\(d<=d/\d<=u)/\∀(k:Nat),(↑k:Int)<d->yk g c (dC g c) k=none)/\∀(x:Int),let z:=x+j;let t:=iG c x.toNat;let w:=b l t;let H:=a z;((d<=x/\x<=u)/\∀(k:Nat),(↑k:Int)<x->yk g c (dC g c) k=none)->(decide (x<u)=true->(c.length<=1000/\d<=x/\x<u)/\((((b l c).same (b l c)/\n.same n/\p.same p/\(b l (γd x.toNat c++List.drop z.toNat c)).same w/\s.same s/\(a x).same (a x)/\(a F).same v/\(f).same (a 0)/\True)/\q.same q/\r.same r/\True)/\(d<=d/\d<=m)/\∀(k:Nat),(↑k:Int)<d->nA g c (dC g c) t (↑k:Int)=none)/\∀(x_1:Int),let o:=x_1+j;let y:=a x;let A:=a o;let C:=eO (t++[x_1]);let I:=mI g (dC g c) C;((d<=x_1/\x_1<=m)/\∀(k:Nat),(↑k:Int)<x_1->nA g c (dC g c) t (↑k:Int)=none)->(decide (x_1<m)=true->c.length<=1000/\(decide (x_1∈c)=true->e o/\(((b l c).same (b l c)/\n.same n/\p.same p/\w.same w/\s.same s/\y.same y/\v.same v/\A.same A/\True)/\q.same q/\r.same r/\True)/\((d<=o/\o<=m)/\∀(k:Nat),(↑k:Int)<o->nA g c (dC g c) t (↑k:Int)=none)/\(m - o).toNat<(m - x_1).toNat)/\(decide (x_1∈c)=false->(t.length<=1000/\1<=1/\1<=1000)/\(nz g/\oY g C/\pL g C)/\(I=true->(h [b l C,δs true]).same G)/\(I=false->e o/\((((b l c).same (b l c)/\n.same n/\p.same p/\w.same w/\(a x_1).same (a x_1)/\A.same A/\s.same s/\y.same y/\v.same v/\(a x_1).same (a x_1)/\True)/\q.same q/\r.same r/\True)/\(x_1<o/\o<=m)/\∀(k:Nat),(↑k:Int)<o->pM g c (dC g c) t x_1 (↑k:Int)=none)/\∀(x:Int),let B:=x+j;let D:=a x_1;let J:=a B;let E:=eO (t++[x_1,x]);let K:=mI g (dC g c) E;let L:=e B/\(((b l c).same (b l c)/\n.same n/\p.same p/\w.same w/\D.same D/\J.same J/\s.same s/\y.same y/\v.same v/\D.same D/\True)/\q.same q/\r.same r/\True)/\((x_1<B/\B<=m)/\∀(k:Nat),(↑k:Int)<B->pM g c (dC g c) t x_1 (↑k:Int)=none)/\(m - B).toNat<(m - x).toNat;((x_1<x/\x<=m)/\∀(k:Nat),(↑k:Int)<x->pM g c (dC g c) t x_1 (↑k:Int)=none)->(decide (x<F)=true->c.length<=1000/\(decide (x∈c)=true->L)/\(decide (x∈c)=false->(t.length<=1000/\1<=2/\2<=1000)/\(nz g/\oY g E/\pL g E)/\(K=true->(h [b l E,δs true]).same G)/\(K=false->L)))/\(decide (x<F)=false->e o/\(((b l c).same (b l c)/\n.same n/\p.same p/\w.same w/\s.same s/\y.same y/\v.same v/\A.same A/\True)/\q.same q/\r.same r/\True)/\((d<=o/\o<=m)/\∀(k:Nat),(↑k:Int)<o->nA g c (dC g c) t (↑k:Int)=none)/\(m - o).toNat<(m - x_1).toNat))))/\(decide (x_1<m)=false->e z/\(((b l c).same (b l c)/\n.same n/\p.same p/\s.same s/\H.same H/\True)/\q.same q/\r.same r/\True)/\((d<=z/\z<=u)/\∀(k:Nat),(↑k:Int)<z->yk g c (dC g c) k=none)/\(u - z).toNat<(u - x).toNat))/\(decide (x<u)=false->(h [b l [],δs false]).same G)) (by kernel_rfl) ?_
 conv=>zeta
 try simp only[vcs]
 have TA:∀d:List Int,(∀x∈d,0<=x/\x<g.offers.length)->pL g d:=λd hd x hx=>hv _ (de (by have:=hd x hx;omega))
 have hout:∀i:Nat,(iG c i).length<=900/\∀x∈iG c i,x∈c:=λi=>by
  unfold iG
  refine⟨by rw[ν,Ξ,List.length_drop];omega,λx hx=>?_⟩
  rw[ω] at hx
  exact hx.elim γm List.mem_of_mem_drop
 have hnew:∀(i:Nat) (d:List Int),d.length<=2->(∀x∈d,0<=x/\x<g.offers.length)->nz g/\oY g (eO (iG c i++d))/\pL g (eO (iG c i++d)):=λi d hd hx=>by
  have h2:∀x∈eO (iG c i++d),0<=x/\x<g.offers.length:=λx h=>by
   rw[Ew,ω] at h
   exact h.elim (λh=>hci x ((hout i).2 x h)) (hx x)
  have:=(hout i).1
  exact⟨hg,⟨by rw[vQ,ν];omega,h2⟩,TA _ h2⟩
 have hg1:=hg.1
 refine⟨⟨hg,⟨by omega,hci⟩,TA c hci⟩,⟨by omega,λk h=>by omega⟩,?_⟩
 rintro i ⟨⟨i0,i1⟩,hi⟩
 refine⟨λhil=>⟨⟨by omega,i0,hil⟩,⟨by unfold iG;rw[show(i+1).toNat=i.toNat+1 by omega],by omega,λk h=>by omega⟩,?_⟩,λhil=>?_⟩
 ·have ho:=hout i.toNat
  have found:∀t,yk g c (dC g c) i.toNat=some t->iM g c=some t:=λt ht=>Ez (i:=i.toNat) (by omega) (λj hj=>hi j (by omega)) ht
  rintro o ⟨⟨o0,o1⟩,hk⟩
  refine⟨λhol=>⟨by omega,λhin=>⟨by omega,⟨by omega,λk h=>?_⟩,by omega⟩,λhin=>⟨by omega,hnew _ _ (by simp) (by simp;omega),λhb=>?_,λhb=>⟨by omega,⟨by omega,λk h=>?_⟩,?_⟩⟩⟩,λhol=>⟨by omega,⟨by omega,λk h=>?_⟩,by omega⟩⟩
  ·by_cases h2:(k:Int)<o
   ·exact hk k h2
   ·rw[show(k:Int)=o by omega]
    unfold nA;rw[if_pos hin]
  ·have h2:nA g c (dC g c) (iG c i.toNat) o=some (eO (iG c i.toNat++[o])):=by
    unfold nA;rw[if_neg hin,if_pos hb]
   have h3:=found _ (Ez (f:=λo:Nat=>nA g c (dC g c) (iG c i.toNat) o) (i:=o.toNat) (by omega) (λj hj=>hk j (by omega)) (by simp only[show((o.toNat:Nat):Int)=o by omega];exact h2))
   rw[h3]
   exact⟨rfl,rfl⟩
  ·unfold pM
   rw[if_pos (.inl (by omega))]
  ·rintro z ⟨⟨z0,z1⟩,hz⟩
   refine⟨λhzl=>⟨by omega,λhin2=>⟨by omega,⟨by omega,λk h=>?_⟩,by omega⟩,λhin2=>⟨by omega,hnew _ _ (by simp) (by simp;omega),λhb2=>?_,λhb2=>⟨by omega,⟨by omega,λk h=>?_⟩,by omega⟩⟩⟩,λhzl=>⟨by omega,⟨by omega,λk h=>?_⟩,by omega⟩⟩
   ·by_cases h2:(k:Int)<z
    ·exact hz k h2
    ·rw[show(k:Int)=z by omega]
     unfold pM;rw[if_pos (.inr hin2)]
   ·have h4:¬z<=o:=by omega
    have h5:pM g c (dC g c) (iG c i.toNat) o z=some (eO (iG c i.toNat++[o,z])):=by
     unfold pM;rw[if_neg (λh=>h.elim h4 hin2),if_pos hb2]
    have h2:nA g c (dC g c) (iG c i.toNat) o=some (eO (iG c i.toNat++[o,z])):=by
     unfold nA
     rw[if_neg hin,if_neg (by rw[hb];simp)]
     exact Ez (f:=λk:Nat=>pM g c (dC g c) (iG c i.toNat) o k) (i:=z.toNat) (by omega) (λj hj=>hz j (by omega)) (by simp only[show((z.toNat:Nat):Int)=z by omega];exact h5)
    have h3:=found _ (Ez (f:=λo:Nat=>nA g c (dC g c) (iG c i.toNat) o) (i:=o.toNat) (by omega) (λj hj=>hk j (by omega)) (by simp only[show((o.toNat:Nat):Int)=o by omega];exact h2))
    rw[h3]
    exact⟨rfl,rfl⟩
   ·by_cases h2:(k:Int)<z
    ·exact hz k h2
    ·rw[show(k:Int)=z by omega]
     unfold pM;rw[hb2]
     simp
   ·by_cases h2:(k:Int)<o
    ·exact hk k h2
    ·rw[show(k:Int)=o by omega]
     unfold nA
     rw[if_neg hin,if_neg (by rw[hb];simp)]
     exact Ey λj hj=>hz j (by omega)
  ·by_cases h2:(k:Int)<i
   ·exact hi k h2
   ·rw[show k=i.toNat by omega]
    exact Ey λj hj=>hk j (by omega)
 ·have:iM g c=none:=Ey λj hj=>hi j (by omega)
  rw[this]
  exact⟨rfl,rfl⟩
def fi (n:Nat) (c:List Int):Prop:=c.Pairwise (·<·)/\∀x∈c,0<=x/\x<n
theorem TB {n:Nat}:∀{c:List Int} {a:Int},a<=n->c.Pairwise (·<·)->(∀x∈c,a<=x/\x<n)->(c.length:Int)<=n - a
 |[],a,e,_,_=>by simp;omega
 |x::c,a,e,h,b=>by
  have f:=b x (by simp)
  rw[γE] at h
  have:=@TB n c (x+1) (by omega) h.2 λy d=>⟨by grind,(b y (by simp[d])).2⟩
  grind
theorem yl {n:Nat} {c:List Int} (h:fi n c):c.length<=n:=by
 have:=TB (n:=n) (a:=0) (by omega) h.1 h.2
 omega
theorem Kv {n:Nat} {c:List Int} (f:c.Nodup) (e:∀x∈c,0<=x/\x<n):fi n (eO c):=by
 refine⟨?_,λx i=>e x (Ew.1 i)⟩
 have g:(eO c).Pairwise (·<=·):=by
  have:=List.pairwise_mergeSort (le:=λx y:Int=>decide (x<=y)) (λa b d f e=>by grind) (λa b=>by simp;omega) c
  exact this.imp λh=>of_decide_eq_true h
 have j:(eO c).Pairwise (·≠·):=(εC _ _).symm.nodup f
 exact(g.and j).imp λh=>by omega
theorem EA {n:Nat} {c:List Int} (h:fi n c):c.Nodup:=h.1.imp λh=>by omega
theorem TC {c:List Int} {i:Nat}:(iG c i).Sublist c:=by
 unfold iG;rw[List.drop_add_one_eq_tail_drop]
 have:=(List.Sublist.refl (c.take i)).append (List.tail_sublist (c.drop i))
 simp_all
theorem ym {g:Game} {c t:List Int} (h:iM g c=some t) (d:fi g.offers.length c):mI g (dC g c) t=true/\fi g.offers.length t:=by
 obtain⟨i,l,h⟩:=δ6 h
 obtain⟨o,m,h⟩:=δ6 h
 rw[γM] at l m
 have f:(iG c i).Nodup:=(EA d).sublist TC
 have b:∀x∈iG c i,x∈c:=λx a=>TC.subset a
 unfold nA at h;split at h
 ·cases h
 ·rename_i p
  split at h
  ·rename_i e
   injection h with h;subst h
   refine⟨e,Kv ?_ λx a=>?_⟩
   ·grind
   ·rw[ω] at a
    rcases a with a|a
    ·exact d.2 x (b x a)
    simp_all
  ·obtain⟨k,j,h⟩:=δ6 h
   rw[γM] at j;unfold pM at h;split at h
   ·cases h
   ·rename_i n
    split at h
    ·rename_i e
     injection h with h;subst h
     refine⟨e,Kv ?_ λx a=>?_⟩
     ·grind
     ·rw[ω] at a
      rcases a with a|a
      ·exact d.2 x (b x a)
      grind
    ·cases h
def lZ (g:Game):Nat->List Int->List Int
 |0,c=>c
 |n+1,c=>match iM g c with
  |some t=>lZ g n t
  |none=>c
def kJ (g:Game) (c:List Int):List Int:=lZ g (1000000000 - dC g c).toNat c
theorem rF {g:Game} (a:uo g) {c:List Int} (h:fi g.offers.length c):0<=dC g c/\dC g c<=1000000000:=by
 have d:=J8 (f:=λx=>(bj g.offers x.toNat bn.off.dflt).value) (c:=c) (k:=c.length) (m:=1000000) (by omega) λx b=>a.2 _ (de (by have:=h.2 x b;omega))
 rw[χ] at d
 have e:=yl h
 have i:=a.1.1.2.2
 grind[dC]
theorem adk {g:Game} (d:uo g):∀{n m:Nat} {c:List Int},fi g.offers.length c->(1000000000 - dC g c).toNat<=n->(1000000000 - dC g c).toNat<=m->lZ g n c=lZ g m c:=by
 intro n
 induction n with
 |zero=>
  intro m c a k j
  have h:=rF d a
  cases m with
  |zero=>rfl
  |succ m=>
   unfold lZ
   cases f:iM g c with
   |none=>rfl
   |some t=>
    obtain⟨b,e⟩:=ym f a
    have i:=rF d e
    unfold mI at b
    grind
 |succ n l=>
  intro m c a k j
  have h:=rF d a
  cases f:iM g c with
  |none=>
   cases m<;>grind[lZ]
  |some t=>
   obtain⟨b,e⟩:=ym f a
   have i:=rF d e
   unfold mI at b;simp only[θ,decide_eq_true_eq] at b
   cases m<;>grind[lZ]
theorem adl {g:Game} (d:uo g) {c t:List Int} (b:fi g.offers.length c) (h:iM g c=some t):kJ g c=kJ g t:=by
 obtain⟨a,e⟩:=ym h b
 have f:=rF d b
 have i:=rF d e
 unfold mI at a;simp only[θ,decide_eq_true_eq] at a;unfold kJ
 rw[show(1000000000 - dC g c).toNat=((1000000000 - dC g c).toNat - 1)+1 by omega]
 grind[lZ,adk]
theorem TD {g:Game} {c:List Int} (h:iM g c=none):kJ g c=c:=by
 unfold kJ
 generalize (1000000000 - dC g c).toNat=n
 cases n<;>grind[lZ]
def adn (p:bp) (c:List Int):Prop:=bC p=0/\fi p.offers.length c
theorem TE {p:bp} (c:bC p=0):uo (cF p):=by
 have a:=dL c
 refine⟨Tq (by have:=a.2.1;omega),λo b=>?_⟩
 have:=a.2.2.2.2 o b
 omega
theorem TF {l:List Off}:∀{c:List Int} {a:Int}, -1<=a->(eA l a c).isSome=true->c.Pairwise (·<·)/\∀x∈c,a<x/\x<l.length
 |[],a,_,_=>⟨δA,by simp⟩
 |i::c,a,f,h=>by
  simp only[eA] at h;split at h
  ·simp at h
  ·rename_i g
   rw[Option.isSome_map] at h
   obtain⟨d,e⟩:=@TF l c i (by omega) h
   refine⟨γE.2 ⟨λx b=>(e x b).1,d⟩,λx b=>?_⟩
   grind
theorem uq {p:bp} {c:List Int} (h:cM p c=0):adn p c:=by
 unfold cM at h;split at h
 ·omega
 ·rename_i b
  split at h
  ·cases h
  ·rename_i d
   have a:=@TF p.offers c (-1) (by omega) (by grind[fO])
   exact⟨Γ.1 b,a.1,λx e=>by grind⟩
def gn (p:bp) (c:List Int):Alloc:=if cM p c=0 then⟨kJ (cF p) c,dC (cF p) (kJ (cF p) c)⟩ else⟨[],0⟩
def AB:bM:=⟨53,bp×Alloc,.cons dG (.one lj),λa=>a.2.chosen.length<=9223372036854775807,λa=>lj.put (gn a.1 a.2.chosen)⟩
def ado (p:bp) (a:Alloc):Nat->cB
 |6=> .inv (List Int×List Int×Bool) (λx=>⟨[(4,.ptr 2 0 2),(5,.ptr 3 0 3),(6,.row (.i .i64) x.1),(7,.row (.i .i64) x.2.1),(8,.sb x.2.2)],[.cells p.ss 27 20 false,.cells [.row (.i .i64) a.chosen,.si .i64 a.value] 41 2 false,.cells [.sc (.slice none 0 0),.il .i64 0] 41 2 false,.cells (rE (cF p)) 124 3 false]⟩)
   (λs=>(rS (.i .i64) s 6,rS (.i .i64) s 7,bS s 8)) (λx=>fi p.offers.length x.1/\(x.2.1=(iM (cF p) x.1).getD []/\x.2.2=(iM (cF p) x.1).isSome)/\kJ (cF p) x.1=kJ (cF p) a.chosen) (λx=>(1000000000 - dC (cF p) x.1).toNat) λ_ _=> .look
 |_=> .look
theorem h315:Holds Tryz.prog AB:=by
 refine cK (L:=[zy,Ep,Em,Kt,yj]) AB (λa=>ado a.1 a.2) (by simpa using⟨h100,h325,h330,h331,h328⟩) ?_
 rintro⟨p,⟨c,v⟩⟩ hl
 replace hl:c.length<=9223372036854775807:=hl
 refine bR (let a:=γe .i64;let b:=Φ;let d:=bq.cells;let e:=(1000000000:Int);let f:=(0:Int);let g:=γI;let h:=γK;let y:=decide (cM p c≠f);let j:=bn.i .i64;let z:=[γq .i64 0];let A:=h [b j (gn p c).chosen,a (gn p c).value];let l:=γW 2 0 2;let m:=γW 3 0 3;let n:=(iM (cF p) c).getD [];let o:=(iM (cF p) c).isSome;let q:=d [a p.supply.a0,a p.supply.a1,a p.supply.a2,a p.supply.a3,a p.supply.a4,a p.supply.a5,a p.opn.a0,a p.opn.a1,a p.opn.a2,a p.opn.a3,a p.opn.a4,a p.opn.a5,a p.cls.a0,a p.cls.a1,a p.cls.a2,a p.cls.a3,a p.cls.a4,a p.cls.a5,b j p.classes,b bn.off p.offers] 27 20 false;let r:=d [b j c,a v] 41 2 false;let s:=d (SV.sc (Value.slice none 0 0)::z) 41 2 false;let t:=d [b j.bK (cF p).rows,b j (cF p).bounds,b bn.off (cF p).offers] 124 3 false;let w:=p.offers.length;let u:=kJ (cF p) c;c.length<=9223372036854775807/\(y=true->(h (b j []::z)).same A)/\(y=false->True/\c.length<=1000000/\(uo (cF p)/\c.length<=900/\∀(x:Int),x∈c->f<=x/\x<(↑(cF p).offers.length:Int))/\(((l.same l/\m.same m/\(b j c).same (b j c)/\(b j n).same (b j n)/\(g o).same (g o)/\True)/\q.same q/\r.same r/\s.same s/\t.same t/\True)/\fi w c/\(n=n/\o=o)/\u=u)/\∀(x:List Int×List Int×Bool),let k:=iM (cF p) x.snd.fst;let B:=b j (k.getD []);let C:=dC (cF p) x.fst;fi w x.fst/\(x.snd.fst=(iM (cF p) x.fst).getD []/\x.snd.snd=(iM (cF p) x.fst).isSome)/\kJ (cF p) x.fst=u->(x.snd.snd=true->(uo (cF p)/\x.snd.fst.length<=900/\∀(x_1:Int),x_1∈x.snd.fst->f<=x_1/\x_1<(↑(cF p).offers.length:Int))/\((l.same l/\m.same m/\(b j x.snd.fst).same (b j x.snd.fst)/\B.same B/\(g k.isSome).same (g k.isSome)/\True)/\q.same q/\r.same r/\s.same s/\t.same t/\True)/\(fi w x.snd.fst/\(k.getD []=k.getD []/\k.isSome=k.isSome)/\kJ (cF p) x.snd.fst=u)/\(e - dC (cF p) x.snd.fst).toNat<(e - C).toNat)/\(x.snd.snd=false->(nz (cF p)/\oY (cF p) x.fst/\pL (cF p) x.fst)/\(h [b j x.fst,a C]).same A))) (by kernel_rfl) ?_
 conv=>zeta
 try simp only[vcs]
 refine⟨by omega,λh=>by simp only[gn,if_neg h];rfl,λh=>?_⟩
 have hf:cM p c=0:=Γ.1 h
 obtain⟨hc,ha⟩:=uq hf
 have hg:=TE hc
 have h160:=(dL hc).2.1
 have hval:∀d,fi p.offers.length d->nz (cF p)/\oY (cF p) d/\pL (cF p) d:=λd hd=>by
  have h1:=yl hd
  exact⟨hg.1,⟨by omega,hd.2⟩,λx hx=>hg.2 _ (de (by have:=hd.2 x hx;show x.toNat<p.offers.length;omega))⟩
 have hlen:=yl ha
 refine⟨by omega,⟨hg,by omega,ha.2⟩,ha,?_⟩
 rintro⟨d,t,b⟩ ⟨hd,⟨ht,hb⟩,hi⟩
 simp only at hd ht hb hi ⊢
 have hdl:=yl hd
 refine⟨λhbt=>?_,λhbf=>?_⟩
 ·rw[hbt] at hb
  obtain⟨t',he⟩:=Option.isSome_iff_exists.1 hb.symm
  rw[he] at ht;simp only[Option.getD_some] at ht;subst ht
  obtain⟨h1,h2⟩:=ym he hd
  have h3:=yl h2
  have h3':t.length<=p.offers.length:=h3
  have hb2:=rF hg h2
  have hb1:=rF hg (c:=d) hd
  unfold mI at h1;simp only[θ,decide_eq_true_eq] at h1
  exact⟨⟨hg,by omega,h2.2⟩,⟨h2,by rw[<-adl hg hd he];exact hi⟩,by omega⟩
 ·rw[hbf] at hb
  have he:iM (cF p) d=none:=by
   cases hh:iM (cF p) d with
   |none=>rfl
   |some t=>rw[hh] at hb;cases hb
  refine⟨hval d hd,?_⟩
  have h1:kJ (cF p) c=d:=by rw[<-hi,TD he]
  simp only[gn,if_pos hf,h1];rfl
theorem TG {l:List Off}:∀{c:List Int} {a:Int}, -1<=a->c.Pairwise (·<·)->(∀x∈c,a<x/\x<l.length)->eA l a c=some (c.map λx=>bj l x.toNat bn.off.dflt)
 |[],_,_,_,_=>rfl
 |i::c,a,f,h,d=>by
  rw[γE] at h
  have e:=d i (by simp)
  simp only[eA]
  rw[if_neg (by omega),@TG l c i (by omega) h.2 λx b=>⟨h.1 x b,(d x (by simp[b])).2⟩]
  rfl
theorem EB {p:bp} {c:List Int} (h:fi p.offers.length c):eA p.offers (-1) c=some (c.map (oI p)):=TG (by omega) h.1 λx a=>by have:=h.2 x a;omega
theorem Kw {p:bp} (l:bC p=0) {c:List Int} (h:fi p.offers.length c):cM p c=0↔kV (cF p) c=true:=by
 have k:=EB h
 have n:fO p c=true:=by grind[fO]
 have i:dQ p c=c.map (oI p):=by grind[dQ]
 have m:fN p (c.map (oI p))=kV (cF p) c:=by
  have f:nR p=p.classes.length+12:=by simp_all[nR]
  have g:(cF p).bounds.length=p.classes.length+12:=by show(j7 p (nR p)).length=_;rw[Eo,f]
  unfold fN kV;rw[g]
  have d:∀r:Nat,r<p.classes.length+12->bj (cF p).bounds r 0=dA p r/\lY (cF p) c r=cQ p (c.map (oI p)) r:=λr j=>by
   refine⟨?_,?_⟩
   ·show bj (j7 p (nR p)) r 0=_
    grind[cO,j7]
   ·have a:bj (cF p).rows r []=jJ p r p.offers.length:=by
     show bj (lX p (nR p)) r []=_
     grind[cO,lX]
    unfold lY cQ;rw[a,δo]
    congr 1
    refine γ2 λx b=>?_
    have:=h.2 x b
    have e:x.toNat<p.offers.length:=by omega
    show bj (jJ p r p.offers.length) x.toNat 0=eL p r (bj p.offers x.toNat bn.off.dflt)
    grind[cO,jJ]
  grind
 simp_all[cM]
theorem adp {p:bp} (d:bC p=0) {c:List Int} (h:fi p.offers.length c):eC p c=dC (cF p) c:=by
 have a:dQ p c=c.map (oI p):=by grind[dQ,EB]
 unfold eC;rw[if_pos d,a]
 clear h a
 induction c with
 |nil=>rfl
 |cons x c b=>
  have e:dC (cF p) (x::c)=(oI p x).value+dC (cF p) c:=by simp[dC];rfl
  rw[e,<-b];rfl
theorem TI {g:Game} {n:Nat}:∀{l c:List Int},fi n c->l.Nodup->(∀x∈l,x∉c/\0<=x/\x<n)->fi n (l.foldl (stepG g) c)
 |[],c,b,_,_=>b
 |x::l,c,b,e,d=>by
  rw[List.nodup_cons] at e
  have i:=d x (by simp)
  have f:fi n (stepG g c x):=by
   unfold stepG;split
   ·refine Kv ?_ λy a=>?_
    ·grind[EA]
    ·rw[ω] at a
     rcases a with a|a
     ·exact b.2 y a
     simp_all
   ·exact b
  show fi n (l.foldl (stepG g) (stepG g c x))
  refine TI f e.2 λy a=>⟨λh=>?_,(d y (by simp[a])).2⟩
  grind[Tt]
theorem adq {p:bp}:(gB p).Nodup:=by
 unfold gB;split
 ·exact(rC (D:=bL p) (l:=dT p.offers.length)).symm.nodup (Aw.imp λh=>by omega)
 simp_all
theorem adr {p:bp} {k:Nat}:fi p.offers.length (nZ (cF p) ((gB p).take k)):=
 TI ⟨δA,by simp⟩ (adq.sublist (List.take_sublist _ _)) λx a=>⟨by simp,(Kq (γm a)).2⟩
theorem TJ {l m:List Int} (h:l.Perm m):l.sum=m.sum:=by
 induction h<;>grind
theorem TK {g:Game}:∀{l c:List Int},kV g c=true->kV g (l.foldl (stepG g) c)=true
 |[],c,h=>h
 |x::l,c,h=>by
  show kV g (l.foldl (stepG g) (stepG g c x))=true
  refine TK ?_
  grind[stepG]
theorem ads {p:bp} (d:bC p=0):kV (cF p) []=true:=by
 unfold kV;rw[Θ];intro r b
 have a:r<(cF p).bounds.length:=γM.1 b
 have c:bj (cF p).bounds r 0=dA p r:=by
  show bj (j7 p (nR p)) r 0=_
  rw[cO (by exact a)]
  simp[j7]
 simp_all[Eu,lY]
theorem adt {p:bp}:fi p.offers.length (jK p):=by
 have h:=@adr p (gB p).length
 rw[χ] at h;exact h
theorem TL {p:bp} (a:bC p=0):cM p (jK p)=0:=(Kw a adt).2 (TK (ads a))
theorem adu {g:Game} (i:uo g):∀{n:Nat} {c:List Int},fi g.offers.length c->kV g c=true->fi g.offers.length (lZ g n c)/\kV g (lZ g n c)=true/\dC g c<=dC g (lZ g n c)/\((1000000000 - dC g c).toNat<=n->iM g (lZ g n c)=none):=by
 intro n
 induction n with
 |zero=>
  intro c a j
  refine⟨a,j,Int.le_refl _,λh=>?_⟩
  show iM g c=none
  cases f:iM g c with
  |none=>rfl
  |some t=>
   obtain⟨d,b⟩:=ym f a
   have k:=rF i b
   unfold mI at d
   grind
 |succ n l=>
  intro c a j
  cases f:iM g c with
  |none=>
   grind[lZ]
  |some t=>
   have e:lZ g (n+1) c=lZ g n t:=by grind[lZ]
   rw[e]
   obtain⟨d,b⟩:=ym f a
   have k:=rF i b
   unfold mI at d
   grind
theorem Kx {p:bp} (a:bC p=0) {c:List Int} (b:cM p c=0):fi p.offers.length (gn p c).chosen/\cM p (gn p c).chosen=0/\eC p (gn p c).chosen=(gn p c).value/\eC p c<=(gn p c).value/\gn p (gn p c).chosen=gn p c:=by
 obtain⟨_,d⟩:=uq b
 have h:=TE a
 obtain⟨i,j,l,g⟩:=adu h (n:=(1000000000 - dC (cF p) c).toNat) (c:=c) d ((Kw a d).1 b)
 have e:gn p c=⟨kJ (cF p) c,dC (cF p) (kJ (cF p) c)⟩:=by simp_all[gn]
 have f:cM p (kJ (cF p) c)=0:=(Kw a i).2 j
 have k:kJ (cF p) (kJ (cF p) c)=kJ (cF p) c:=TD (g (ψ _))
 simp_all[adp,gn,kJ,cF]
def iN (t0:Tb) (v:Int):Rat:=if v∈t0.free then t0.cs (t0.free.idxOf v) else 0
section
variable {n m:Nat} {t t0:Tb}
theorem Run.goal (h:Run n m t0 t) {x:Int->Rat} {z:Rat} (d:t.holds n m x z):z=t0.value+(cu m (λk=>iN t0 (t.bv k)*x (t.bv k))+cu n (λj=>iN t0 (t.fv j)*x (t.fv j))):=by
 have a:∀t:Tb,t.WF n m->np (λv=>iN t0 v*x v) (t.basic++t.free)=cu m (λk=>iN t0 (t.bv k)*x (t.bv k))+cu n (λj=>iN t0 (t.fv j)*x (t.fv j)):=λt c=>by
  rw[Ju,vH,vH,c.basic,c.free];rfl
 rw[<-a t h.wf,RZ h.perm,a t0 h.nW]
 rw[dY (n:=m) (g:=λ_=>0) λk e=>by
  unfold iN;rw[if_neg (R7 h.nW h.nd e)]
  grind,kD]
 rw[dY (n:=n) (g:=λj=>t0.cs j*x (t0.fv j)) λj b=>by
  have i:j<t0.free.length:=by rw[h.nW.free];exact b
  unfold iN;rw[if_pos (xY h.nW b),show t0.free.idxOf (t0.fv j)=j from pI (γu.1 h.nd).2.1 i]]
 have f:=(((h.nq _ _).1 d).2)
 rw[f]
 grind
theorem Run.val (h:Run n m t0 t):t.value=t0.value+cu m λk=>iN t0 (t.bv k)*t.bd k:=by
 have a:=h.goal (asg_holds h.wf h.gQ (y:=λ_=>0))
 rw[dY (n:=n) (f:=λj=>t.cs j*(λ_=>(0:Rat)) j) (g:=λ_=>0) λj _=>by grind,kD] at a
 rw[dY (n:=n) (f:=λj=>iN t0 (t.fv j)*jI n t (λ_=>0) (t.fv j)) (g:=λ_=>0) λj c=>by rw[nV h.wf h.gQ c];grind,kD] at a
 rw[dY (n:=m) (g:=λk=>iN t0 (t.bv k)*t.bd k) λk b=>by
  rw[oU h.wf h.gQ b,dY (g:=λ_=>0) λj _=>by grind,kD]
  grind] at a
 grind
theorem AE {n c:Nat} {q:Rat} (d:c<n):cu n (λj=>if j=c then q else 0)=q:=by
 induction n with
 |zero=>omega
 |succ n b=>
  unfold cu
  by_cases h:c=n
  ·subst h
   rw[if_pos rfl,dY (g:=λ_=>0) λj a=>by grind,kD]
   grind
  grind
theorem TM {f g:Nat->Rat}:∀{n:Nat},cu n (λj=>f j - g j)=cu n f - cu n g
 |0=>by grind[cu]
 |n+1=>by simp only[cu,@TM f g n];grind
theorem Run.adv (h:Run n m t0 t) {c:Nat} (b:c<n):t.cs c=iN t0 (t.fv c) - cu m λk=>iN t0 (t.bv k)*t.cf k c:=by
 have a:=h.goal (asg_holds h.wf h.gQ (y:=λj=>if j=c then 1 else 0))
 rw[dY (n:=n) (f:=λj=>t.cs j*(if j=c then(1:Rat) else 0)) (g:=λj=>if j=c then t.cs c else 0) λj _=>by
  grind,AE b] at a
 rw[dY (n:=n) (f:=λj=>iN t0 (t.fv j)*jI n t (λj=>if j=c then 1 else 0) (t.fv j)) (g:=λj=>if j=c then iN t0 (t.fv c) else 0) λj e=>by
  rw[nV h.wf h.gQ e]
  grind,AE b] at a
 rw[dY (n:=m) (g:=λk=>iN t0 (t.bv k)*t.bd k - iN t0 (t.bv k)*t.cf k c) λk d=>by
  rw[oU h.wf h.gQ d,dY (g:=λj=>if j=c then t.cf k c else 0) λj _=>by
   grind,AE b]
  grind,TM,h.val] at a
 grind
end
theorem Ky {M K:Nat} {p q:Rat} (e:eM M p) (f:eM K q):eM (M*K) (p*q):=by
 obtain⟨a,rfl,d⟩:=e
 obtain⟨b,rfl,c⟩:=f
 exact⟨a*b,by simp_all,by rw[Int.natAbs_mul];exact ζj d c⟩
theorem TN {M K:Nat} {p q:Rat} (d:eM M p) (c:eM K q):eM (M+K) (p+q):=by
 obtain⟨a,rfl,f⟩:=d
 obtain⟨b,rfl,e⟩:=c
 exact⟨a+b,by simp_all,by omega⟩
theorem adw {M:Nat} {p:Rat} (b:eM M p):eM M (-p):=by
 obtain⟨a,rfl,c⟩:=b
 exact⟨-a,by simp_all,by omega⟩
theorem TP {M:Nat}:eM M 0:=⟨0,rfl,by simp⟩
theorem eM.le {M K:Nat} {p:Rat} (b:eM M p) (h:M<=K):eM K p:=by
 obtain⟨a,rfl,c⟩:=b
 exact⟨a,rfl,by omega⟩
theorem Kz {M:Nat} {f:Nat->Rat}:∀{n:Nat},(∀k,k<n->eM M (f k))->eM (n*M) (cu n f)
 |0,_=>by grind[cu,TP]
 |n+1,h=>by
  have a:=TN (@Kz M f n λk b=>h k (by omega)) (h n (by omega))
  grind[cu]
theorem KA {f:Nat->Rat} {d:Rat}:∀{n:Nat},cu n f*d=cu n λk=>f k*d
 |0=>by grind[cu]
 |n+1=>by
  have:=@KA f d n
  grind[cu]
theorem adx {X k:Nat} {q D:Rat} (f:eM X (q*D)) (c:eM X D) (g:D≠0) (o:X<4294967296^k):Sz k q:=by
 obtain⟨a,p,l⟩:=f
 obtain⟨d,rfl,m⟩:=c
 have b:d≠0:=λh=>g (by subst h;rfl)
 have n:((4294967296^k:Nat):Int)=(4294967296:Int)^k:=by
  simp_all
 have i:(X:Int)<4294967296^k:=by
  omega
 have e:q=mkRat (a*d.sign) d.natAbs:=by
  have f:mkRat (a*d.sign) d.natAbs=((a*d.sign:Int):Rat) / ((d.natAbs:Int):Rat):=by
   rw[Rat.mkRat_eq_div];rfl
  have c:((d.natAbs:Int):Rat)=(d:Rat)*(d.sign:Rat):=by
   rw[<-Rat.intCast_mul]
   simp_all
  have j:(d.sign:Rat)*(d.sign:Rat)=1:=by
   rw[<-Rat.intCast_mul]
   rcases Int.lt_or_lt_of_ne b with h|h
   ·rw[Int.sign_eq_neg_one_of_neg h];rfl
   grind
  grind
 rw[e]
 refine zY (by omega) ?_ (by omega)
 grind
structure Small (n m M G:Nat) (t0:Tb):Prop where
 wf:t0.WF n m
 nd:(t0.basic++t0.free).Nodup
 cf:∀i j,i<m->j<n->eM M (t0.cf i j)
 bd:∀i,i<m->eM M (t0.bd i)
 cs:∀j,j<n->eM G (t0.cs j)
 v:t0.value=0
 M1:1<=M
 G1:M<=G
 X:(m+2)*(G*nn M m)<4294967296^1000
theorem ady {a b c:Nat} (h:1<=a) (d:1<=b):c<=a*(b*c):=by
 have e:1*(1*c)<=a*(b*c):=ζj h (ζj d (ψ _))
 omega
theorem Small.goal {n m M G:Nat} {t0:Tb} (h:Small n m M G t0) {v:Int}:eM G (iN t0 v):=by
 unfold iN;split
 ·rename_i a
  exact h.cs _ (by rw[<-h.wf.free];grind)
 ·exact TP
theorem Small.TQ {n m M G:Nat} {t0 t:Tb} (h:Small n m M G t0) (a:Run n m t0 t):(∀i,i<m->Sz 1000 (t.bd i))/\(∀j,j<n->Sz 1000 (t.cs j))/\Sz 1000 t.value/\∀i j,i<m->j<n->Sz 1000 (t.cf i j):=by
 have y:=a.abT h.M1 h.cf
 have A:=h.X
 have B:1<=G:=Nat.le_trans h.M1 h.G1
 have u:nn M m<=(m+2)*(G*nn M m):=ady (by omega) B
 have l:∀{q:Rat},eM ((m+2)*(G*nn M m)) (q*ja m t0 t)->Sz 1000 q:=λz=>adx z (y.le u) a.dt A
 have d:∀r c,r<m->c<n->eM (nn M m) (t.cf r c*ja m t0 t):=λr c o d=>a.cfZ h.M1 h.cf o d
 have x:∀r,r<m->eM (nn M m) (t.bd r*ja m t0 t):=λr o=>a.bdZ h.M1 h.cf h.bd o
 refine⟨λi w=>l ((x i w).le u),λj b=>l ?_,l ?_,λi j w b=>l ((d i j w b).le u)⟩
 ·have e:=a.adv b
  have p:t.cs j*ja m t0 t=iN t0 (t.fv j)*ja m t0 t+ -(cu m λk=>iN t0 (t.bv k)*(t.cf k j*ja m t0 t)):=by
   rw[e,dY (f:=λk=>iN t0 (t.bv k)*(t.cf k j*ja m t0 t)) (g:=λk=>(iN t0 (t.bv k)*t.cf k j)*ja m t0 t) λk _=>by grind,<-KA]
   grind
  rw[p]
  refine(TN (Ky h.goal y) (adw (Kz λk s=>Ky h.goal (d k j s b)))).le ?_
  grind
 ·have p:t.value*ja m t0 t=cu m λk=>iN t0 (t.bv k)*(t.bd k*ja m t0 t):=by
   rw[a.val,h.v,dY (f:=λk=>iN t0 (t.bv k)*(t.bd k*ja m t0 t)) (g:=λk=>(iN t0 (t.bv k)*t.bd k)*ja m t0 t) λk _=>by grind,<-KA]
   grind
  rw[p]
  refine(Kz λk s=>Ky h.goal (x k s)).le ?_
  grind
theorem Small.vK {n m M G:Nat} {t0 t:Tb} (h:Small n m M G t0) (b:Run n m t0 t):vK 1000000 t:=by
 obtain⟨g,r,k,o⟩:=h.TQ b
 have e:∀{f:Type} {l:List f} {P:f->Prop} {d:f},(∀i,i<l.length->P (bj l i d))->∀q∈l,P q:=λh q p=>by
  obtain⟨i,a,rfl⟩:=δa p
  grind[cO]
 refine⟨e (d:=[]) λi a=>?_,e (d:=0) λi a=>?_,e (d:=0) λj c=>?_,k.mono (by omega)⟩
 ·rw[b.wf.ca] at a
  refine e (d:=0) λj c=>?_
  rw[b.wf.row i a] at c
  exact(o i j a c).mono (by omega)
 ·rw[b.wf.bound] at a
  exact(g i a).mono (by omega)
 ·rw[b.wf.cost] at c
  exact(r j c).mono (by omega)
theorem TR {n m:Int} {M G:Nat} {t0 t:Tb} (h:Small n.toNat m.toNat M G t0) (a:Run n.toNat m.toNat t0 t) (c:0<=n/\n<=1000) (b:0<=m/\m<=1000):kG n m t:=⟨⟨c,b⟩,a.wf,h.vK a⟩
section
variable {n m:Nat} {t t0:Tb}
theorem TS:∀{N:Nat} {t:Tb},Run n m t0 t->j6 m t->Run n m t0 (runT n m N t)/\j6 m (runT n m N t)
 |0,t,b,a=>⟨b,a⟩
 |N+1,t,b,a=>by
  unfold runT;split
  ·simp_all
  ·rename_i d c
   have:=Jx b a c
   exact TS this.1 this.2
theorem run_end:∀{N:Nat} {t:Tb},eX n m N t=true->stepT n m (runT n m N t)=none
 |0,t,h=>γR.1 h
 |N+1,t,h=>by
  unfold eX at h;unfold runT;split
  ·assumption
  ·rename_i b a
   rw[a] at h
   exact run_end h
theorem TT:∀{N K:Nat} {t:Tb},eX n m N t=true->N<=K->runT n m K t=runT n m N t
 |0,K,t,h,b=>by
  have d:=γR.1 h
  cases K<;>grind[runT]
 |N+1,K,t,h,b=>by
  obtain⟨K,rfl⟩:∃k,K=k+1:=⟨K - 1,by omega⟩
  unfold eX at h;unfold runT;split
  ·rfl
  ·rename_i c a
   rw[a] at h
   exact TT h (by omega)
theorem TU {f:Nat->Rat}:∀{n:Nat},(∀k,k<n->f k<=0)->cu n f<=0
 |0,_=>by grind[cu]
 |n+1,h=>by
  have a:=@TU f n λk b=>h k (by omega)
  grind[cu]
theorem TV {a b:Rat} (d:a<=0) (c:0<=b):a*b<=0:=by
 have:=δB (a:= -a) (b:=b) (by grind) c
 grind
theorem Run.best (h:Run n m t0 t) (d:eh t n<0) {x:Int->Rat} {z:Rat} (a:t0.holds n m x z) (b:∀j,j<n->0<=x (t.fv j)):z<=t.value:=by
 have c:=(((h.nq _ _).2 a).2)
 grind[vI,TU,TV]
theorem Run.bnd (h:Run n m t0 t) (q:j6 m t) {B:Rat} (F:∀x z,t0.holds n m x z->(∀v∈t0.basic++t0.free,0<=x v)->z<=B) {c:Nat} (I:eh t n=(c:Int)) (H:dP t c m<0):False:=by
 rcases @vI t n with⟨C,d⟩|⟨a,C,d,f,G⟩
 ·omega
 ·have A:a=c:=by omega
  subst A
  rcases @vJ t a m with⟨D,w⟩|⟨r,D,_⟩
  ·
   have k:∀s:Rat,0<=s->t.value+s*t.cs a<=B:=λs o=>by
    have p:=asg_holds h.wf h.gQ (y:=λj=>if j=a then s else 0)
    have e:cu n (λj=>t.cs j*(λj=>if j=a then s else 0) j)=s*t.cs a:=by
     rw[dY (g:=λj=>if j=a then s*t.cs a else 0) λj _=>by
      grind,AE d]
    rw[e] at p
    refine F _ _ ((h.nq _ _).1 p) λv b=>?_
    rw[<-h.perm.mem_iff,ω] at b
    rcases b with b|b
    ·obtain⟨i,l,rfl⟩:=x8 h.wf b
     rw[oU h.wf h.gQ l]
     have f:cu n (λj=>t.cf i j*(if j=a then s else 0))=t.cf i a*s:=by
      rw[dY (g:=λj=>if j=a then t.cf i a*s else 0) λj _=>by
       grind,AE d]
     rw[f]
     have:=TV (w i l) o
     have:=q i l
     grind
    ·obtain⟨j,E,rfl⟩:=xZ h.wf b
     rw[nV h.wf h.gQ E]
     grind
   have u:=k 0 (by grind)
   have o:0<=(B - t.value+1) / t.cs a:=Sl (by grind) f
   grind[div_mul]
  ·omega
end
open Classical in
noncomputable def uu (n m:Nat) (t:Tb):Nat:=if h:∃N,eX n m N t=true then Classical.choose h else 0
noncomputable def lastT (n m:Nat) (t:Tb):Tb:=runT n m (uu n m t) t
section
variable {n m:Nat} {t t0 t':Tb}
theorem EC {N:Nat} (h:eX n m N t=true):lastT n m t=runT n m N t:=by
 have a:∃N,eX n m N t=true:=⟨N,h⟩
 have b:eX n m (uu n m t) t=true:=by
  unfold uu
  grind
 grind[lastT,TT]
theorem TW (h:stepT n m t=none):lastT n m t=t:=by
 have a:eX n m 0 t=true:=by simp[eX,h]
 rw[EC a];rfl
theorem adz (a:∃N,eX n m N t=true) (h:stepT n m t=some t'):lastT n m t'=lastT n m t:=by
 obtain⟨N,a⟩:=a
 have b:=SA a h
 rw[EC b,EC (Jy a)]
 grind[runT]
theorem KB (b:Run n m t0 t) (c:j6 m t):Run n m t0 (lastT n m t)/\j6 m (lastT n m t)/\stepT n m (lastT n m t)=none:=by
 obtain⟨N,a⟩:=Jz b c
 rw[EC a]
 grind[TS,run_end]
theorem TX (i:Run n m t0 t) (e:j6 m t) {B:Rat} (h:∀x z,t0.holds n m x z->(∀v∈t0.basic++t0.free,0<=x v)->z<=B):eh (lastT n m t) n<0:=by
 obtain⟨j,g,a⟩:=KB i e
 rcases @vI (lastT n m t) n with⟨b,d⟩|⟨c,b,d,l,k⟩
 ·omega
 ·exfalso
  unfold stepT at a
  rw[if_neg (by omega),show(eh (lastT n m t) n).toNat=c by omega] at a
  split at a
  ·rename_i f
   exact j.bnd g h b f
  ·cases a
end
def bE (f:List Int) (d:Int):List Int:=(dT f.length).filter λi=>decide (bj f i.toNat 0=d)
theorem l8 {f:List Int} {d x:Int}:x∈bE f d↔(0<=x/\x<f.length)/\bj f x.toNat 0=d:=by
 simp_all[bE,rD]
theorem vT {f:List Int} {d:Int}:(bE f d).Pairwise (·<·):=Aw.sublist List.filter_sublist
theorem yn {f:List Int} {d:Int}:(bE f d).length<=f.length:=by
 have:=List.length_filter_le (λi:Int=>decide (bj f i.toNat 0=d)) (dT f.length)
 rw[js] at this;exact this
theorem KC {a b:Type} {g:a->b} {l:List a} {i:Nat} {d:b} {e:a} (h:i<l.length):bj (l.map g) i d=g (bj l i e):=by
 grind[cO]
theorem KD {n j:Nat} {d:Int} (h:j<n):bj (dT n) j d=j:=by
 grind[dT,qE]
def dq (p:bp) (f:List Int):Tb where
 ca:=(τ (p.classes.length+12)).map λr:Nat=>(bE f 0).map λi=>((eL p r (oI p i):Int):Rat)
 bound:=(τ (p.classes.length+12)).map λr:Nat=>((dA p r - cQ p ((bE f 1).map (oI p)) r:Int):Rat)
 cost:=(bE f 0).map λi=>(((oI p i).value:Int):Rat)
 value:=0
 basic:=(τ (p.classes.length+12)).map λi:Nat=>(((bE f 0).length+i:Nat):Int)
 free:=dT (bE f 0).length
def ic (p:bp) (f:List Int):Prop:=bC p=0/\f.length=p.offers.length/\fN p ((bE f 1).map (oI p))=true
abbrev nF (f:List Int):Nat:=(bE f 0).length
abbrev mF (p:bp):Nat:=p.classes.length+12
section
variable {p:bp} {f:List Int}
theorem qH:(dq p f).WF (nF f) (mF p) where
 ca:=by simp[dq]
 row i a:=by
  grind[dq,qE]
 bound:=by simp[dq]
 cost:=by simp[dq]
 basic:=by simp[dq]
 free:=by simp[dq,js]
theorem AG {i j:Nat} (b:i<mF p) (a:j<nF f):(dq p f).cf i j=((eL p i (oI p (bj (bE f 0) j 0)):Int):Rat):=by
 grind[Tb.cf,dq,qE,KC]
theorem AH {i:Nat} (a:i<mF p):(dq p f).bd i=((dA p i - cQ p ((bE f 1).map (oI p)) i:Int):Rat):=by
 grind[Tb.bd,dq,qE]
theorem ED {j:Nat} (a:j<nF f):(dq p f).cs j=(((oI p (bj (bE f 0) j 0)).value:Int):Rat):=by
 grind[Tb.cs,dq,KC]
theorem adA {i:Nat} (a:i<mF p):(dq p f).bv i=(((nF f)+i:Nat):Int):=by
 grind[Tb.bv,dq,qE]
theorem EE {j:Nat} (a:j<nF f):(dq p f).fv j=j:=by
 grind[Tb.fv,dq,KD]
theorem AI:((dq p f).basic++(dq p f).free).Nodup:=by
 rw[γu]
 refine⟨?_,Aw.imp λh=>by omega,?_⟩
 ·simp only[dq]
  refine List.Pairwise.map _ (λa b h=>?_) List.nodup_range
  omega
 grind[dq,rD]
theorem yo (h:ic p f) {j:Nat} (a:j<nF f):(0<=bj (bE f 0) j 0/\bj (bE f 0) j 0<p.offers.length)/\bj f (bj (bE f 0) j 0).toNat 0=0:=by
 have:=l8.1 (de (d:=0) a)
 rw[h.2.1] at this;exact this
theorem oZ (a:bC p=0) {i:Int} (h:0<=i/\i<p.offers.length):0<=(oI p i).bF/\(oI p i).bF<p.classes.length/\(oI p i).want.ok=true/\1<=(oI p i).value/\(oI p i).value<=1000000:=(dL a).2.2.2.2 _ (de (show i.toNat<p.offers.length by omega))
theorem EF (h:ic p f) {d:Int}:∀x∈(bE f d).map (oI p),0<=x.bF/\x.bF<p.classes.length/\x.want.ok=true/\1<=x.value/\x.value<=1000000:=λx a=>by
 obtain⟨i,b,rfl⟩:=γf.1 a
 have:=(l8.1 b).1
 rw[h.2.1] at this
 exact oZ h.1 this
theorem KE {z:Int} {M:Nat} (h:z.natAbs<=M):eM M (z:Rat):=⟨z,rfl,h⟩
theorem TY (h:ic p f) {i:Nat} (b:i<mF p):0<=dA p i - cQ p ((bE f 1).map (oI p)) i/\dA p i - cQ p ((bE f 1).map (oI p)) i<=4:=by
 have c:i<p.classes.length+12:=b
 have d:=oM.1 h.2.2 i (by grind[di])
 have g:=@Eu p h.1 i
 have e:=@tV p i ((bE f 1).map (oI p)) λx a=>(EF h x a).2.2.1
 omega
theorem adB:∀m:Nat,m<=20->(m+2)*(1000000*nn 4 m)<4294967296^1000:=by
 have h:((τ 21).all λm=>Nat.blt ((m+2)*(1000000*nn 4 m)) (4294967296^1000))=true:=by decide+kernel
 intro m a
 have:=Θ.1 h m (γM.2 (by omega))
 rw[Nat.blt_eq] at this;exact this
theorem EG (h:ic p f):Small (nF f) (mF p) 4 1000000 (dq p f) where
 wf:=qH
 nd:=AI
 cf i j b a:=by
  rw[AG b a]
  have:=(oZ h.1 (yo h a).1).2.2.1
  grind[rh,KE]
 bd i b:=by
  rw[AH b]
  have:=TY h b
  exact KE (by omega)
 cs j a:=by
  rw[ED a]
  have:=oZ h.1 (yo h a).1
  grind[KE]
 v:=rfl
 M1:=by omega
 G1:=by omega
 X:=adB _ (by have:=(dL h.1).1;grind)
theorem EH {z:Int} (h:0<=z):(0:Rat)<=(z:Rat):=by exact_mod_cast h
theorem KF (h:ic p f):j6 (mF p) (dq p f):=λi a=>by
 rw[AH a]
 exact EH (TY h a).1
theorem T0 {g:Nat->Rat}:∀{n:Nat},(∀k,k<n->0<=g k)->0<=cu n g
 |0,_=>by grind[cu]
 |n+1,h=>by
  have a:=@T0 g n λk b=>h k (by omega)
  grind[cu]
theorem T8 {g k:Nat->Rat}:∀{n:Nat},(∀i,i<n->g i<=k i)->cu n g<=cu n k
 |0,_=>by grind[cu]
 |n+1,h=>by
  have a:=@T8 g k n λk b=>h k (by omega)
  grind[cu]
theorem adE {g:Nat->Rat} {n j:Nat} (h:∀k,k<n->0<=g k) (a:j<n):g j<=cu n g:=by
 rw[D2 a]
 grind[T0]
theorem T9 (h:ic p f) {x:Int->Rat} {z:Rat} (d:(dq p f).holds (nF f) (mF p) x z) (e:∀v∈(dq p f).basic++(dq p f).free,0<=x v) {j:Nat} (b:j<nF f):x ((dq p f).fv j)<=1:=by
 obtain⟨l,_⟩:=yo h b
 have r:=oZ h.1 l
 have a:(oI p (bj (bE f 0) j 0)).bF.toNat<mF p:=by grind
 have s:=d.1 _ a
 have n:=e _ (List.mem_append_left _ (Aj qH a))
 have i:(dq p f).cf (oI p (bj (bE f 0) j 0)).bF.toNat j=1:=by
  rw[AG a b];unfold eL
  rw[if_pos (by omega),if_pos (by omega)]
  rfl
 have m:=@adE (λk=>(dq p f).cf (oI p (bj (bE f 0) j 0)).bF.toNat k*x ((dq p f).fv k)) (nF f) j (λk c=>by
  refine δB ?_ (e _ (List.mem_append_right _ (xY qH c)))
  rw[AG a c]
  exact EH (rh (oZ h.1 (yo h c).1).2.2.1).1) b
 simp only[i] at m
 have t:(dq p f).bd (oI p (bj (bE f 0) j 0)).bF.toNat<=1:=by
  rw[AH a]
  have o:dA p (oI p (bj (bE f 0) j 0)).bF.toNat=1:=by
   unfold dA;omega
  have q:=@tV p (oI p (bj (bE f 0) j 0)).bF.toNat ((bE f 1).map (oI p)) λx d=>(EF h x d).2.2.1
  have g:dA p (oI p (bj (bE f 0) j 0)).bF.toNat - cQ p ((bE f 1).map (oI p)) (oI p (bj (bE f 0) j 0)).bF.toNat<=1:=by omega
  exact_mod_cast g
 grind
theorem Ua (h:ic p f) {x:Int->Rat} {z:Rat} (c:(dq p f).holds (nF f) (mF p) x z) (e:∀v∈(dq p f).basic++(dq p f).free,0<=x v):z<=cu (nF f) (dq p f).cs:=by
 have g:=c.2
 have k:(dq p f).value=0:=rfl
 have:=@T8 (λj=>(dq p f).cs j*x ((dq p f).fv j)) (dq p f).cs (nF f) λj a=>by
  have i:=T9 h c e a
  have d:0<=(dq p f).cs j:=by
   rw[ED a]
   exact EH (by have:=oZ h.1 (yo h a).1;omega)
  have:=δB d (b:=1 - x ((dq p f).fv j)) (by grind)
  grind
 grind
noncomputable def eY (p:bp) (f:List Int):Tb:=lastT (nF f) (mF p) (dq p f)
theorem rG (h:ic p f):Run (nF f) (mF p) (dq p f) (eY p f)/\j6 (mF p) (eY p f)/\eh (eY p f) (nF f)<0:=by
 have a:=Run.refl (n:=nF f) (m:=mF p) (t0:=dq p f) qH AI
 have:=KB a (KF h)
 exact⟨this.1,this.2.1,TX a (KF h) λx z c b=>Ua h c b⟩
end
def fj (d:List bO) (j:Nat) (z:bO):List bO:=d.take j++ε (d.length - j) z
theorem AK {d:List bO} {j:Nat} {z:bO} (h:j<=d.length):(fj d j z).length=d.length:=by
 grind[fj]
theorem AL {d:List bO} {z:bO}:fj d 0 z=ε d.length z:=by simp[fj]
theorem AO {d:List bO} {z:bO}:fj d d.length z=d:=by simp[fj]
theorem AP {d:List bO} {j:Nat} {z x:bO} (h:j<d.length) (b:x=bj d j z):(fj d j z).set j x=fj d (j+1) z:=by
 unfold fj
 have a:d.length - j=(d.length - (j+1))+1:=by omega
 rw[a,List.replicate_succ,List.set_append_right _ _ (by grind),Ξ,show j - min j d.length=0 by omega,List.set_cons_zero,List.take_succ_eq_append_getElem h,List.append_assoc,b,cO h]
 rfl
theorem yp {l:List Rat} {i:Nat} {q:Rat}:(fL l).set i (bu q)=fL (l.set i q):=by
 simp_all[fL]
theorem elim_none {l p:List Rat} {c:Nat} (h:bj l c 0=0) (d:c<l.length):j5 l c p=l:=by
 refine List.ext_getElem D3 λi b a=>?_
 have e:=@D4 c l p i a
 grind[cO]
def r413:cV where
 f:=222
 α:=Int
 put a:=[.si .i64 a]
 st _:=[]
 dec v o:=match v,o with
  |[v],[]=>v.int .i64
  |_,_=>none
 ok v o a h:=by
  split at h
  ·exact⟨by simp only[gL,gX h];rfl,rfl⟩
  ·cases h
 inj a b h _:=by simpa[gL,SV.g] using h
 dom n:=0<=n/\n<=1000
 res n:=.ow 0 n.toNat 3
 out n:=[.row sF (fL (ε n.toNat 0)) 157 false]
def adF (n:Int):Nat->cB
 |3=> .inv Int (λj=>⟨[(3,.ow 0 n.toNat 3),(8,.si .i64 n.toNat),(9,.si .i64 j)],[.row sF (fj (fL (ε n.toNat 0)) j.toNat (false,([],[]))) 157 true]⟩)
   (λs=>iS s 9) (λj=>0<=j/\j<=n) (λj=>(n - j).toNat) λ_ _=> .look
 |_=> .look
theorem h413:dK Tryz.prog r413:=by
 refine CN (L:=[qB]) (W:=[]) r413 (λ_=>none) adF (by simp) (by simpa using h94) ?_
 rintro(n:Int) ⟨n0,n1⟩
 refine bR (let a:=(0:Int);let c:=bq.row;let d:=γe .i64;let e:=γ8 0 n.toNat 3;let h:=d (↑n.toNat:Int);let m:=(bn.i .u32).bK;let j:=(false,[],[]);let k:=fL (ε n.toNat (0:Rat));let l:=bu (Ω a);a<=n/\n<=n/\n*(56:Int)<=(140737488355328:Int)/\n<=(1000000000000:Int)/\(((e.same e/\h.same h/\(γq .i64 0).same (d 0)/\True)/\(c (bn.b.pair (m.pair m)) (ε n.toNat j) 157 true).same (c sF (fj k 0 j) 157 true)/\True)/\a<=a/\a<=n)/\∀(x:Int),let o:=decide (x<(↑n.toNat:Int));let f:=fj k x.toNat j;let g:=x+(1:Int);let p:=d g;a<=x/\x<=n->(o=true->((-9223372036854775808:Int)<=a/\a<=(9223372036854775807:Int))/\n.toNat=f.length/\a<=x/\x<(↑f.length:Int)/\n.toNat=f.length/\x.toNat<f.length/\bX .i64 g/\((e.same e/\h.same h/\p.same p/\True)/\(c sF (f.set x.toNat (l.fst,l.snd.fst,l.snd.snd)) 157 true).same (c sF (fj k g.toNat j) 157 true)/\True)/\(a<=g/\g<=n)/\(n - g).toNat<(n - x).toNat)/\(o=false->e.same e/\(c sF f 157 false).same (c sF k 157 false)/\True)) (by kernel_rfl) ?_
 conv=>zeta
 try simp only[vcs]
 have hcast:∀k:Nat,((k:Nat):Int).toNat=k:=λk=>γz k
 have hl:(fL (ε n.toNat 0)).length=n.toNat:=by rw[fJ,γS]
 have hrow:∀{x y:List bO},x=y->(bq.row sF x 157 true).same (bq.row sF y 157 true):=by rintro _ _ rfl;rfl
 refine⟨n0,by omega,by omega,by omega,⟨hrow (by rw[AL,hl]),by omega,by omega⟩,?_⟩
 rintro j ⟨j0,j1⟩
 have ox:=@AK (fL (ε n.toNat 0)) j.toNat (false,([],[])) (by omega)
 refine⟨λhj=>?_,λhj=>?_⟩
 ·have hE:bj (fL (ε n.toNat 0)) j.toNat (false,([],[]))=bu 0:=by
   rw[jm (by rw[γS];omega),cO (by rw[γS];omega),List.getElem_replicate]
  have h0:(Ω 0:Rat)=0:=rfl
  simp only[h0,kF]
  exact⟨by omega,by omega,j0,by omega,by omega,by omega,by omega,hrow (by rw[AP (by omega) hE.symm,show(j+1).toNat=j.toNat+1 by omega]),by omega,by omega⟩
 ·rw[show j.toNat=(fL (ε n.toNat 0)).length by omega,AO]
  rfl
def r417:bM:=⟨232,List bO×bO×Int×List bO×bO,.cons (dN sF) (.cons (eG sF) (.cons (ez .i64) (.cons (dN sF) (.one (eG sF))))),
 λa=>∃l b p pb,(a.1=fL l/\a.2.1=bu b/\a.2.2.2.1=fL p/\a.2.2.2.2=bu pb)/\(l.length=p.length/\l.length<=1000)/\(0<=a.2.2.1/\a.2.2.1<l.length)/\(∀q∈l,Sz 10000000 q)/\(∀q∈p,Sz 10000000 q)/\Sz 10000000 b/\Sz 10000000 pb,
 λa=> .bH [.row sF (fL (j5 (vL a.1) a.2.2.1.toNat (vL a.2.2.2.1))),qA (cj a.2.1 - bj (vL a.1) a.2.2.1.toNat 0*cj a.2.2.2.2)]⟩
def adG (l:List Rat) (b:Rat) (c:Int) (p:List Rat) (pb:Rat):Nat->cB
 |6=> .inv Int (λj=>⟨[(2,.si .i64 c),(3,.row sF (fL p)),(6,.ptr 0 0 3),(9,.ptr 1 0 3),(11,.ptr 2 0 3),(12,.ptr 3 0 3),(13,.ow 4 l.length 3),(28,.row sF (fL l)),(29,.si .i64 l.length),(30,.si .i64 j)],
   [.cells [.sb (bu b).1,.row (.i .u32) (bu b).2.1,.row (.i .u32) (bu b).2.2] 157 3 false,.cells [.sb (bu pb).1,.row (.i .u32) (bu pb).2.1,.row (.i .u32) (bu pb).2.2] 157 3 false,
    .cells [.bl false,.sc (.slice none 0 0),.sc (.slice none 0 0)] 157 3 false,.cells [.sb (bu (bj l c.toNat 0)).1,.row (.i .u32) (bu (bj l c.toNat 0)).2.1,.row (.i .u32) (bu (bj l c.toNat 0)).2.2] 157 3 false,
    .row sF (fj (fL (j5 l c.toNat p)) j.toNat (false,([],[]))) 157 true]⟩)
   (λs=>iS s 30) (λj=>0<=j/\j<=l.length) (λj=>(l.length - j).toNat) λ_ _=> .look
 |_=> .look
theorem h417:Holds Tryz.prog r417:=by
 refine cK (L:=[ug,DY,xQ,DX]) r417 (λa=>adG (vL a.1) (cj a.2.1) a.2.2.1 (vL a.2.2.2.1) (cj a.2.2.2.2)) (by simpa using⟨h99,h410,h130,h95⟩) ?_
 rintro⟨l',b',c,p',pb'⟩ ⟨l,b,p,pb,⟨e1,e2,e3,e4⟩,⟨g1,g2⟩,⟨c0,c1⟩,hl,hp,hb,hpb⟩
 simp only at e1 e2 e3 e4 c0 c1
 subst e1 e2 e3 e4
 refine bR (let a:=Φ;let d:=(0:Int);let e:=γe .i64;let f:=bq.cells;let g:=bq.row;let h:=γI;let j:=sF.dflt;let k:=γW;let m:=γK;let n:=SV.bH;let F:=bj (fL l) c.toNat j;let a2:=(F.fst,F.snd.fst,F.snd.snd);let o:=bn.i .u32;let t:=(↑(fL l).length:Int);let L:=fL (j5 (vL (fL l)) c.toNat (vL (fL p)));let v:=cj (bu b);let w:=bj (vL (fL l)) c.toNat (0:Rat);let y:=cj (bu pb);let a3:=(bu (v - w*y)).snd;let a4:=n [a sF L,m [h (bu (v - w*y)).fst,a o a3.fst,a o a3.snd]];let z:=fL (vL (fL p));let G:=a sF z;let A:=k 0 0 3;let B:=k 1 0 3;let C:=k 2 0 3;let D:=k 3 0 3;let vU:Nat:=(vL (fL l)).length;let H:=γ8 4 vU 3;let I:=fL (vL (fL l));let J:=a sF I;let r:=(↑vU:Int);let K:=e r;let a5:=SV.sc (Value.slice none 0 0);let E:=f [δs false,a5,a5] 157 3 false;let M:=(false,[],[]);let N:=((bu w).fst,(bu w).snd.fst,(bu w).snd.snd);let O:=f [h (bu v).fst,a o (bu v).snd.fst,a o (bu v).snd.snd] 157 3 false;let P:=f [h (bu y).fst,a o (bu y).snd.fst,a o (bu y).snd.snd] 157 3 false;let Q:=f [h (bu w).fst,a o (bu w).snd.fst,a o (bu w).snd.snd] 157 3 false;let a6:=((bu y).fst,(bu y).snd.fst,(bu y).snd.snd);let a7:=((bu v).fst,(bu v).snd.fst,(bu v).snd.snd);let S:=bu (cj N*cj a6);let a8:=(S.fst,S.snd.fst,S.snd.snd);let U:=bu (cj a7 - cj a8);let a9:=λ(u:Bool) ↦decide (kC (cj a2)=d)=u;let V:=λ(u:bn.b.T) (u_1:(o.bK.pair o.bK).T) (u_2:Rat) ↦(f [h u,a o u_1.fst,a o u_1.snd] 157 3 false).same (f [h (bu u_2).fst,a o (bu u_2).snd.fst,a o (bu u_2).snd.snd] 157 3 false);d<=c/\c<t/\c.toNat<(fL l).length/\cY a2/\(a9 true->(n [a sF (fL l),m [h (bu b).fst,a o (bu b).snd.fst,a o (bu b).snd.snd]]).same a4)/\(a9 false->d<=t/\t<=t/\t*(56:Int)<=(140737488355328:Int)/\t<=(1000000000000:Int)/\((((e c).same (e c)/\(a sF (fL p)).same G/\A.same A/\B.same B/\C.same C/\D.same D/\(γ8 4 t.toNat 3).same H/\(a sF (fL l)).same J/\(e t).same K/\(γq .i64 0).same (e 0)/\True)/\V (bu b).fst (bu b).snd v/\V (bu pb).fst (bu pb).snd y/\E.same E/\V F.fst F.snd w/\(g (bn.b.pair (o.bK.pair o.bK)) (ε t.toNat M) 157 true).same (g sF (fj L 0 M) 157 true)/\True)/\d<=d/\d<=r)/\∀(x:Int),let W:=bj z x.toNat j;let X:=(W.fst,W.snd.fst,W.snd.snd);let Y:=bu (cj N*cj X);let Z:=(Y.fst,Y.snd.fst,Y.snd.snd);let q:=fj L x.toNat M;let s:=x+(1:Int);let R:=e s;let aa:=g sF (fj L s.toNat M) 157 true;let a0:=bj I x.toNat j;let ab:=(a0.fst,a0.snd.fst,a0.snd.snd);let ac:=cY Z;let ad:=cY N/\cY X;let ae:=λ(u:Rat) ↦vU=q.length/\d<=x/\x<(↑q.length:Int)/\vU=q.length/\x.toNat<q.length/\bX .i64 s/\(((e c).same (e c)/\G.same G/\A.same A/\B.same B/\C.same C/\D.same D/\H.same H/\J.same J/\K.same K/\R.same R/\True)/\O.same O/\P.same P/\E.same E/\Q.same Q/\(g sF (q.set x.toNat ((bu u).fst,(bu u).snd.fst,(bu u).snd.snd)) 157 true).same aa/\True)/\(d<=s/\s<=r)/\(r - s).toNat<(r - x).toNat;let af:=λ(u:Bool) ↦decide (kC (cj X)=d)=u;let ag:=λ(u:List bO) ↦let a1:=bj u x.toNat j;cY (a1.fst,a1.snd.fst,a1.snd.snd);d<=x/\x<=r->(decide (x<r)=true->d<=x/\x<(↑I.length:Int)/\x.toNat<I.length/\(decide (x=c)=true->d<=x/\x<(↑z.length:Int)/\x.toNat<z.length/\ad/\ac/\ae (-cj Z))/\(decide (x=c)=false->d<=x/\x<(↑z.length:Int)/\x.toNat<z.length/\ag z/\(af true->vU=q.length/\d<=x/\x<(↑q.length:Int)/\vU=q.length/\x.toNat<q.length/\bX .i64 s/\(((e c).same (e c)/\G.same G/\A.same A/\B.same B/\C.same C/\D.same D/\H.same H/\J.same J/\K.same K/\R.same R/\True)/\O.same O/\P.same P/\E.same E/\Q.same Q/\(g sF (q.set x.toNat ab) 157 true).same aa/\True)/\(d<=s/\s<=r)/\(r - s).toNat<(r - x).toNat)/\(af false->d<=x/\x<(↑z.length:Int)/\x.toNat<z.length/\ad/\(ag I/\ac)/\ae (cj ab - cj Z))))/\(decide (x<r)=false->(cY N/\cY a6)/\(cY a7/\cY a8)/\vU=q.length/\(n [a sF q,m [h U.fst,a o U.snd.fst,a o U.snd.snd]]).same a4))) (by kernel_rfl) ?_
 simp only[lV,eW]
 try simp only[vcs]
 have hfl:=@fJ l
 have hfp:=@fJ p
 have hel:(j5 l c.toNat p).length=l.length:=D3
 have hfe:=@fJ (j5 l c.toNat p)
 have hA:bj (fL l) c.toNat sF.dflt=bu (bj l c.toNat 0):=jm (by omega)
 have hzc:=hl _ (de (d:=0) (show c.toNat<l.length by omega))
 have hcast:∀k:Nat,((k:Nat):Int).toNat=k:=λk=>γz k
 have hag:∀{x y:Rat},x=y->(γK [γI (bu x).1,Φ (bn.i IntKind.u32) (bu x).2.1,Φ (bn.i IntKind.u32) (bu x).2.2]).same (γK [γI (bu y).1,Φ (bn.i IntKind.u32) (bu y).2.1,Φ (bn.i IntKind.u32) (bu y).2.2]):=by rintro _ _ rfl;rfl
 have hrow:∀{x y:List bO},x=y->(bq.row sF x 157 true).same (bq.row sF y 157 true):=by rintro _ _ rfl;rfl
 simp only[hA,kF,eW,SD,hcast]
 refine⟨c0,by omega,by omega,ei hzc (by omega),λhz=>⟨by rw[elim_none hz (by omega)],hag (by rw[hz];grind)⟩,λhz=>⟨by omega,by omega,by omega,by omega,⟨⟨⟨by rw[hfl];rfl,by omega⟩,rfl,hrow (by rw[AL,hfe,hel,hfl])⟩,by omega,by omega⟩,?_⟩⟩
 rintro j ⟨j0,j1⟩
 have ox:=@AK (fL (j5 l c.toNat p)) j.toNat (false,([],[])) (by omega)
 refine⟨λhj=>?_,λhj=>?_⟩
 ·have hP:bj (fL p) j.toNat sF.dflt=bu (bj p j.toNat 0):=jm (by omega)
  have hL:bj (fL l) j.toNat sF.dflt=bu (bj l j.toNat 0):=jm (by omega)
  have EI:=hp _ (de (d:=0) (show j.toNat<p.length by omega))
  have hzl:=hl _ (de (d:=0) (show j.toNat<l.length by omega))
  have hE:bj (fL (j5 l c.toNat p)) j.toNat (false,([],[]))=bu (if j.toNat=c.toNat then -(bj l c.toNat 0*bj p j.toNat 0) else bj l j.toNat 0 - bj l c.toNat 0*bj p j.toNat 0):=by
   rw[jm (by omega),D4 (by omega)]
  have hm:=Ad hzc EI
  have tail:(0<=j+1/\j+1<=(l.length:Int))/\((l.length:Int) - (j+1)).toNat<((l.length:Int) - j).toNat:=by omega
  have step:∀{x:bO},x=bj (fL (j5 l c.toNat p)) j.toNat (false,([],[]))->(bq.row sF ((fj (fL (j5 l c.toNat p)) j.toNat (false,([],[]))).set j.toNat x) 157 true).same (bq.row sF (fj (fL (j5 l c.toNat p)) (j+1).toNat (false,([],[]))) 157 true):=λh=>hrow (by
   rw[AP (by omega) h,show(j+1).toNat=j.toNat+1 by omega])
  simp only[hP,hL,kF,eW,SD]
  refine⟨j0,by omega,by omega,λhjc=>⟨j0,by omega,by omega,⟨ei hzc (by omega),ei EI (by omega)⟩,ei hm (by omega),by omega,j0,by omega,by omega,by omega,by omega,step ?_,tail⟩,λhjc=>⟨j0,by omega,by omega,ei EI (by omega),λhpz=>⟨by omega,j0,by omega,by omega,by omega,by omega,step ?_,tail⟩,λhpz=>⟨j0,by omega,by omega,⟨ei hzc (by omega),ei EI (by omega)⟩,⟨ei hzl (by omega),ei hm (by omega)⟩,by omega,j0,by omega,by omega,by omega,by omega,step ?_,tail⟩⟩⟩
  ·rw[hE,if_pos (by omega)]
  ·rw[hE,if_neg (by omega),hpz]
   congr 1
   grind
  ·rw[hE,if_neg (by omega)]
 ·rw[show j.toNat=(fL (j5 l c.toNat p)).length by omega,AO]
  exact⟨⟨ei hzc (by omega),ei hpb (by omega)⟩,⟨ei hb (by omega),ei (Ad hzc hpb) (by omega)⟩,by omega,rfl,rfl⟩
end Go.Vi
