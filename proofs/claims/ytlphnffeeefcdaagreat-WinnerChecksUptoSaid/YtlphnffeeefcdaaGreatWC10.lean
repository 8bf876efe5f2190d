/-
  Contracts of the library's functions on rows of integers: sorting a row, a copy of a row, taking elements out.
  Conditions: none.
-/
import Derived.Shelf.Sort.AssemblyIn
import Derived.Shelf.SlicesE.Clone
import Derived.Shelf.SlicesE.Delete
import Derived.Test.YtlphnffeeefcdaaGreatWC09
import Derived.Sort.EveryDepth
import Derived.Sort.OwnSortedInts
import Derived.WalkKit
import Derived.Deep.LoopGhost
import Derived.Lib.Walk
import Derived.Lib.SliceRun
import Derived.Shelf.RegionOpenPlain
import Derived.Test.YtlphnffeeefcdaaGreatWC06
import Derived.Test.YtlphnffeeefcdaaGreatWC07
import Derived.Test.YtlphnffeeefcdaaGreatWC08
import Derived.Test.YtlphnffeeefcdaaGreatWC04
set_option maxRecDepth 100000
set_option maxHeartbeats 4000000
set_option linter.all false
open Bool renaming and_eq_true->θ
open Classical renaming not_not->γa,byContradiction->δZ
open Go.Vi.AV renaming sc->δe
open Go.Vi.AV.sc renaming injEq->γ7
open Go.Vi.AV.sl renaming injEq->δ4
open Go.Vi.SV renaming si->Ω,il->γo,row->Δ,ptr->γU,agg->γF,bl->γ0,sb->γn
open List renaming mergeSort_perm->εz,map_cons->φ,map_nil->γv,length->Φ,getElem?_cons_zero->γZ,getElem?_map->δl,getElem?_eq_some_iff->ι,length_map->γT,length_take->γG,map_append->γg,range->Θ,range_succ->εe,take_succ_cons->δ3,length_cons->γy,take->τ,take_length->χ,all_eq_true->ξ,mem_range->γp,take_of_length_le->γc,getElem_of_mem->γB,mem_map->γf,mem_of_mem_take->γi,mem_append->γu,range_succ_eq_map->ζo,map_map->δn,map_congr_left->γV,pairwise_cons->γx,exists_of_findSome?_eq_some->δ0,nodup_cons->γ1,foldr_cons->εV,foldr->ζT,set_eq_take_append_cons_drop->εG,getElem_cons_drop->ζp,nodup_append->γt,length_append->γq
open List.Pairwise renaming nil->δM
open List.cons renaming injEq->Ξ
open Nat renaming le_refl->ψ,zero_le->εT,lt_of_lt_of_le->γj
open Option renaming map_eq_some_iff->ε
open Option.some renaming injEq->γ
open Rat renaming mul_nonneg->δz
namespace Go.Proofs
open Go.Shelf Go.RowKit Go.Lib
theorem acu {P:Program} {ρ:Ren} (L:SlLaysE0.n41 P ρ) (i0:TypeInfo) (z:Value) (b g:Nat) (I:P.info? (ρ.t 23)=some i0) (x:i0.zero=some z) (y:i0.size=b) (q:i0.bytes=g) (m:z.cells.size=b) (o:0<b)
  (Q:∀w,(Go.sizeOf (ρ.t 23)).run P w= .ok b w) (p:Addr) (n c:Nat) (d:List Value) (w:World) (K:d.length=n*b) (U:n<=maxLen) (B:n*g<=140737488355328)
  (C:∀j u,d[j]?=some u->w.cell? (p.add j)=some u) (E:∀u∈d,u.oneCell'=true):
  Calls P (ρ.f 41) #[.slice (some p) n c] w λe w'=>∃l,e= .returned l/\w'.ownsRow w.heap.size (ρ.t 23) b l n d/\l≠ .slice none 0 0/\Below w.heap.size w w':=by
 have v:=L.mixed;have W:=L.t4;have V:=L.a4;have T:=L.z4;have S:=L.v4;have i:=L.t22;have N:=L.a22;have O:=L.z22;have H:=L.v22;have G:∀(w:World) (a:Option Addr) (n c r s:Nat),(binOp .eql (ρ.t 22) (.slice a n c) (.slice none r s)).run P w= .ok (.bool a.isNone) w:=λw a n c r s=>Lib.run_eql_slice_nil w _ _ a n c r s L.t22;have F:∀w,Sem.run P (underlying (ρ.t 22)) w= .ok (TypeDesc.slice (ρ.t 23)) w:=run_underlying i;have A:Aside (∀j u,d[j]?=some u->w.cell? (p.add j)=some u):=C;clear C;obtain⟨_,_,M⟩:=L.f41;go_enter M,SlBodyN.n41_ntmps ρ;go_wp2_with (at_builtin;refine wpList_append_own _ rfl _ _ (ρ.t 22) rfl w.heap.size (ρ.t 23) i0 z b g i I x y q m o _ _ _ rfl (World.ownsRow_made w #[] 0 (ψ _) (εT _) (by simp)) p n c d rfl ?qc1 ?qc2 ?qc3 ?qc4 ?qc5 ?qc6 ?_);case qc1=>exact K
 case qc2=>
  intro j u J;exact Lib.cell?_alloc_some _ (A.out j u J)
 case qc3=>exact E
 case qc4=>omega
 case qc5=>simp_all
 case qc6=>simp
 intro l R D h k;go_wp2;go_ret;refine⟨l,rfl,by omega,?_,?_⟩;·exact k
 ·exact((Below.refl _ w).alloc (ψ _) _).grown h (by simp) (by grind[Value.ownBlock])
end Go.Proofs
namespace Go.Vi
open Go.Proofs.YtlphnffeeefcdaaGreat.Ir
open Go.Proofs
theorem ou (l:List Int):cM (.i .i64) l=l.map λx=>δe (.int .i64 x):=by
 unfold cM;induction l with
 |nil=>rfl;|cons x l a=>rw[List.flatMap_cons,a];rfl
theorem SD {A:dT} {w:World} {σ:cn} {l:List Int} {e:TypeId} (d:cj A w σ [.cells (l.map λx=>δe (.int .i64 x)) e 1 true]) (s:1<=l.length):
  ∃b cap arr,σ=[some (b,cap)]/\cap<=maxLen/\w.heap[b]?=some (.cells arr e (0,0))/\arr.size=cap/\l.length<=cap/\arr.toList.take l.length=l.map (Value.int .i64):=by
 have f:=d.obj 0 _ rfl;simp only[dF] at f;obtain⟨_,_,h|⟨b,cap,arr,a,n,g,r,p,i⟩⟩:=f;·simp_all
 ·have c:=d.len;simp at c;have m:l.length<=arr.size:=by simp_all
  refine⟨b,cap,arr,?_,n,g,by omega,by omega,?_⟩;·match σ,c,a with
   |[x],_,a=>simp_all
  ·apply List.ext_getElem?;intro j;by_cases k:j<l.length
   ·obtain⟨v,o,q⟩:=i j (.sc (.int .i64 l[j])) (by simp[k]);grind[bC]
   simp_all
def fh (l:List Int):List Int:=l.mergeSort λx y=>decide (x<=y)
theorem v8 {l:List Int}:(fh l).length=l.length:=(εz _ _).length_eq
def AO:dD where
 f:=87;α:=Nat×List Int;put a:=[.ow 0 a.1 1];st a:=[.row (.i .i64) a.2 3 true];dec v o:=match v,o with
  |[.ow 0 n 1],[.row t l 3 true]=>match iF t (.i .i64) l with
   |some l=>some (n,l)
   |_=>none
  |_,_=>none;ok v o a h:=by
  split at h
  ·split at h
   ·rename_i h4;simp only[γ] at h;subst h;obtain⟨rfl,hh⟩:=mM h4;cases hh;exact⟨rfl,rfl⟩
   ·cases h
  ·cases h
 inj a b e1 e2:=by
  obtain⟨n,l⟩:=a;obtain⟨n',l'⟩:=b;simp only[gL,Ξ,SV.g,AV.os.injEq,true_and] at e1;simp only[gO,φ,γv,bA.g,Ξ,bW.cells.injEq,and_true,true_and] at e2;have h4:l=l':=by
   have hf:=congrArg Φ e2;rw[ff,ff] at hf;exact lG (.i .i64) (by simpa[bw.sz] using hf) e2
  rw[e1.1.1,h4]
 dom a:=a.1=a.2.length/\1<=a.2.length/\a.2.length<=1000000;res _:=.bN [];out a:=[.row (.i .i64) (fh a.2) 3 true]
theorem h337:eu Tryz.prog AO:=by
 rintro⟨n,l⟩ ⟨E,H,V⟩;simp only at E H V;subst E;refine⟨by kernel_rfl,?_⟩;intro A w F Q q s;have C:∀m:List Int,gO [bA.row (.i .i64) m 3 true]=[bW.cells (m.map λx=>δe (.int .i64 x)) 3 1 true]:=λm=>by
  simp only[gO,φ,γv,bA.g,ou];rfl
 have T:gL (AO.put (l.length,l))=[.os 0 0 l.length (l.length*1)]:=rfl;show Calls _ _ _ _ λe h=>∃u p,e= .returned u/\cj A h p (gO [bA.row (.i .i64) (fh l) 3 true])/\bC A h p (gO [bA.row (.i .i64) (fh l) 3 true]) (.bN []) u/\Ext w F (gO [bA.row (.i .i64) l 3 true]) h p (gO [bA.row (.i .i64) (fh l) 3 true]);replace q:cj A w F (gO [bA.row (.i .i64) l 3 true]):=q;replace s:bI A w F (gO [bA.row (.i .i64) l 3 true]) (gL (AO.put (l.length,l))) Q:=s;rw[C] at q s;rw[C,C];rw[T] at s;obtain⟨b,Y,d,rfl,U,L,q4,q5,N⟩:=SD q H;simp only[bI] at s;obtain⟨v,r,rfl,I,rfl⟩:=s;simp only[bC] at I;obtain⟨O,a,y,rfl,a0,B⟩:=I;have K:=B 1 ⟨_,_,_,rfl,by simp⟩;simp only[kO,γZ] at K;obtain⟨rfl,rfl⟩:=K.2.1 trivial trivial (by omega);have P:b<w.heap.size:=q.bnd 0 b y rfl;have R:=holds_of_blockI (ss:=l) L N;have S:Calls Tryz.prog (AO).f #[.slice (some ⟨b,0,none⟩) l.length y] w λe h=>e= .returned (.tuple #[])/\∃n z,h=Sort.grow (Sort.putRow (Value.int .i64) (Sort.ahead w n) b 0 (fh l).toArray) z:=
  calls_of_every_depth λD=>AnyS.slices_Sort_int_in Tryz.layS D b 0 y l w R P (by omega);refine Calls.mono S ?_;rintro e h ⟨rfl,n,z,rfl⟩;have t:=grownBy_sortedI (w:=w) (g:=b) (n:=n) (os:=z) (fh l).toArray;have W:=heap_sortedI (w:=w) (n:=n) (os:=z) (fh l).toArray L;have X:=take_putCellsI d (fh l) (by rw[v8];omega);have hz:(Sort.putCells (Value.int .i64) 0 (fh l).toArray d).size=d.size:=by simp[Sort.putCells]
 generalize Sort.grow (Sort.putRow (Value.int .i64) (Sort.ahead w n) b 0 (fh l).toArray) z=h at*;generalize Sort.putCells (Value.int .i64) 0 (fh l).toArray d=o at*;have hU:=q.upd (w':=h) (id:=0) (x':=.cells ((fh l).map λx=>δe (.int .i64 x)) 3 1 true) (s':=some (b,y)) rfl t.size t.os t.tape t.output
  (λk M E=>t.block k M λe=>by simp_all) (λb' c' e=>by simp_all)
  ⟨_,_,_,rfl,by simp[v8],λ_=>rfl⟩ ?_;·grind[bC,bI]
 ·intro hx;simp only[dF];refine⟨λ_=>by rw[<-ou];grind[oV],by rw[<-ou];grind[CG],.inr ⟨b,y,o,rfl,U,W,by omega,by grind[v8],?_⟩⟩;intro j c J;rw[δl] at J;obtain⟨x,G,rfl⟩:=ε.1 J;have Z:=(ι.1 G).1;refine⟨.int .i64 x,?_,by simp[bC,Value.oneCell']⟩;have h9:(o.toList.take (fh l).length)[j]?=((fh l).map (Value.int .i64))[j]?:=by rw[X]
  grind
theorem SE {A:dT} {w:World} {l:List Int} {vs:List Value} {m:FuncId} (n:m=Tryz.layC_ren.f 41) (N:cj A w [] []) (K:l.length<=1000000) (B:bI A w [] [] [.sl l.length (l.map λx=>δe (.int .i64 x))] vs):
  Calls Tryz.prog m vs.toArray w λe w'=>RowKit.Below w.heap.size w w'/\((e= .returned (.slice none 0 0)/\l=[])\/∃g cap c,e= .returned (.slice (some ⟨g,0,none⟩) l.length cap)/\w.heap.size<=g/\w'.heap[g]?=some (.cells c 3 (0,0))/\l.length<=cap/\cap<=maxLen/\c.size=cap/\c.toList.take l.length=l.map (Value.int .i64)):=by
 subst n;simp only[bI] at B;obtain⟨v,r,rfl,t,rfl⟩:=B;simp only[bC] at t;obtain⟨a,cap,rfl,q,_,C⟩:=t;cases a with
 |none=>
  have z:l=[]:=by
   cases l<;>grind[dB]
  grind[Calls.mono,AnyE.slices_Clone_nil,Tryz.layC,RowKit.Below.refl];|some p=>
  have H:∀j u,(l.map (Value.int .i64))[j]?=some u->w.cell? (p.add j)=some u:=by
   intro j u s;rw[δl] at s;obtain⟨x,F,rfl⟩:=ε.1 s;obtain⟨b,v,e,_,o,y⟩:=dB.get _ _ _ C j (.sc (.int .i64 x)) (by simp[F]);grind[bC]
  refine Calls.mono (acu Tryz.layC Tryz.t3 (.int .i64 0) 1 8 (by kernel_rfl) (by kernel_rfl) (by kernel_rfl) (by kernel_rfl) (by kernel_rfl) (by omega) Tryz.sizeOf3 p l.length cap (l.map (Value.int .i64)) w (by simp) (by grind[maxLen]) (by omega) H (by simp[Value.oneCell'])) ?_;rintro e w' ⟨L,rfl,k,E,i⟩;refine⟨i,.inr ?_⟩;obtain⟨_,h|⟨g,d,c,rfl,J,I,D,G,M,O⟩⟩:=k;·simp_all
  ·exact⟨g,d,c,rfl,J,I,D,G,by omega,by simp_all⟩
def Ej:bL:=⟨49,List Int,.one (cV (.i .i64)),λl=>l.length<=1000000,λl=> .row (.i .i64) l⟩
theorem h330:Holds Tryz.prog Ej:=by
 intro(l:List Int) (hl:l.length<=1000000);refine⟨by kernel_rfl,?_⟩;intro A w σ vs hS hR;have hσ:σ=[]:=by have:=hS.len;simpa using this
 subst hσ;have e1:gL (Ej.A.put l)=[.sl l.length (l.map λx=>δe (.int .i64 x))]:=by rw[<-ou];rfl
 have e2:(Ej.res l).G= .sl l.length (l.map λx=>δe (.int .i64 x)):=by rw[<-ou];rfl
 rw[e1] at hR;rw[e2];refine Calls.mono (SE (by rfl) hS hl hR) ?_;rintro e w' ⟨hb,h⟩;have hS':cj A w' [] []:=⟨rfl,by simp,by simp,by simp,by simp,λb h=>γj (hS.kn b h) hb.size⟩;have hE:Ext w [] [] w' [] []:=⟨hb.size,λb h _=>⟨hb.block b h,λ⟨i,c,hi⟩=>by simp at hi⟩,ψ _,λ_ _ ⟨_,_,_,_,h,_⟩=>by simp at h,λ_ ⟨_,_,_,h⟩=>by simp at h,hb.os,hb.tape,hb.output⟩;rcases h with⟨rfl,rfl⟩|⟨g,cap,cur,rfl,h1,h2,h3,h4,h5,h6⟩;·exact⟨_,[],rfl,hS',by simp only[bC];exact⟨none,0,rfl,by simp,by rw[<-ou];exact oV _ _,by simp[dB]⟩,hE⟩
 ·refine⟨_,[],rfl,hS',?_,hE⟩;simp only[bC];refine⟨_,_,rfl,h3,by rw[<-ou];exact oV _ _,dB.lV _ _ _ λi c hi=>?_⟩;rw[δl] at hi;obtain⟨x,hx,rfl⟩:=ε.1 hi;have hil:=(ι.1 hx).1;have h9:(cur.toList.take l.length)[i]?=(l.map (Value.int .i64))[i]?:=by rw[h6]
  rw[List.getElem?_take_of_lt hil,Array.getElem?_toList,δl,hx] at h9;refine⟨⟨g,0,none⟩,.int .i64 x,rfl,⟨λ⟨i,c,hi⟩=>by simp at hi,λhA=>by have:=hS.kn g hA;omega⟩,?_,by simp[bC,Value.oneCell']⟩;rw[Addr.add_lit];simp only[World.cell?,h2,Nat.zero_add,Option.isSome_none,Bool.false_eq_true,if_false];exact h9
def wa:dD where
 f:=49;α:=List Int;put a:=[.row (.i .i64) a];st a:=[];dec v o:=match v,o with
  |[.row t l],[]=>iF t (.i .i64) l
  |_,_=>none;ok v o a h:=by
  split at h
  ·obtain⟨rfl,hh⟩:=mM h;cases hh;exact⟨rfl,rfl⟩
  ·cases h
 inj a b e1 e2:=by
  simp only[gL,Ξ,SV.g,δ4,and_true] at e1;exact lG (.i .i64) (by simpa using e1.1) e1.2
 dom a:=a.length<=1000000;res a:=.ow 0 a.length 1;out a:=[.row (.i .i64) a 3 true]
theorem h330o:eu Tryz.prog wa:=by
 intro(l:List Int) (E:l.length<=1000000);refine⟨by kernel_rfl,?_⟩;intro A w s G k p;replace k:cj A w s []:=k;replace p:bI A w s [] (gL (wa.put l)) G:=p;have q:s=[]:=by have:=k.len;simp_all
 subst q;have F:gL (wa.put l)=[.sl l.length (l.map λx=>δe (.int .i64 x))]:=by rw[<-ou];rfl
 have B:(wa.res l).g= .os 0 0 l.length (l.length*1):=rfl;have D:gO (wa.out l)=[bW.cells (l.map λx=>δe (.int .i64 x)) 3 1 true]:=by rw[<-ou];rfl
 rw[F] at p;rw[B,D];show Calls _ _ _ _ λe n=>∃u f,e= .returned u/\cj A n f [bW.cells (l.map λx=>δe (.int .i64 x)) 3 1 true]/\bC A n f [bW.cells (l.map λx=>δe (.int .i64 x)) 3 1 true] (.os 0 0 l.length (l.length*1)) u/\Ext w [] [] n f [bW.cells (l.map λx=>δe (.int .i64 x)) 3 1 true];refine Calls.mono (SE (by rfl) k E p) ?_;rintro e n ⟨d,h⟩;have t:tt [bW.cells (l.map λx=>δe (.int .i64 x)) 3 1 true] 0 (l.length*1):=⟨_,_,_,_,rfl,by simp⟩;rcases h with⟨rfl,rfl⟩|⟨g,m,o,rfl,P,z,C,J,O,I⟩
 ·refine⟨_,[none],rfl,⟨rfl,?_,?_,?_,?_,λb h=>γj (k.kn b h) d.size⟩,?_,d.size,λb h _=>⟨d.block b h,?_⟩,εT _,λ_ _ ⟨_,_,_,_,h,_⟩=>by simp at h,λ_ ⟨_,_,_,h⟩=>by simp at h,d.os,d.tape,d.output⟩;·grind
  ·grind
  ·intro i x a;cases i with
   |zero=>
    simp at a;subst a;simp only[dF];exact⟨λ_=>rfl,rfl,.inl (by simp)⟩;|succ i=>simp at a
  ·grind
  ·grind[bC,kO]
  ·rintro⟨i,c,a⟩;grind
 ·have L:g<n.heap.size:=(Array.getElem?_eq_some_iff.1 z).1;refine⟨_,[some (g,m)],rfl,⟨rfl,?_,?_,?_,?_,λb h=>γj (k.kn b h) d.size⟩,?_,d.size,λb h _=>⟨d.block b h,?_⟩,εT _,λ_ _ ⟨_,_,_,_,h,_⟩=>by simp at h,λ_ ⟨_,_,_,h⟩=>by simp at h,d.os,d.tape,d.output⟩;·grind
  ·grind
  ·intro i x a;cases i with
   |zero=>
    simp at a;subst a;simp only[dF];refine⟨λ_=>by rw[<-ou];grind[oV],by rw[<-ou];grind[CG],.inr ⟨g,m,o,rfl,J,z,by omega,by simp;omega,?_⟩⟩;intro j c v;rw[δl] at v;obtain⟨x,r,rfl⟩:=ε.1 v;have H:=(ι.1 r).1;refine⟨.int .i64 x,?_,by simp[bC,Value.oneCell']⟩;have N:(o.toList.take l.length)[j]?=(l.map (Value.int .i64))[j]?:=by rw[I]
    grind;|succ i=>simp at a
  ·intro i b c a;cases i with
   |zero=>
    simp at a;intro K;have:=k.kn b K;omega;|succ i=>simp at a
  ·simp only[bC];refine⟨t,_,_,rfl,C,λM y=>?_⟩;obtain⟨_,_,_,y,_⟩:=y;grind[kO,pI]
  ·rintro⟨i,c,a⟩;grind
def lO (l:List Int) (i j:Nat):List Int:=l.take i++l.drop j++List.replicate (j - i) 0
theorem SG {l:List Int} {i j:Nat} (a:i<=j) (b:j<=l.length):(lO l i j).length=l.length:=by
 grind[lO]
def wb:dD where
 f:=120;α:=(Nat×List Int)×Int×Int;put a:=[.ow 0 a.1.1 1,.si .i64 a.2.1,.si .i64 a.2.2];st a:=[.row (.i .i64) a.1.2 3 true];dec v o:=match v,o with
  |[.ow 0 n 1,x,y],[.row t l 3 true]=>match iF t (.i .i64) l,x.int .i64,y.int .i64 with
   |some l,some i,some j=>some ((n,l),i,j)
   |_,_,_=>none
  |_,_=>none;ok v o a h:=by
  split at h
  ·split at h
   ·rename_i h4 h5 h6;simp only[γ] at h;subst h;obtain⟨rfl,hh⟩:=mM h4;cases hh;refine⟨?_,rfl⟩;simp only[gL,iP h5,iP h6];rfl
   ·cases h
  ·cases h
 inj a b e1 e2:=by
  obtain⟨⟨n,l⟩,i,j⟩:=a;obtain⟨⟨n',l'⟩,i',j'⟩:=b;simp only[gL,Ξ,SV.g,AV.os.injEq,true_and,and_true,γ7,Value.int.injEq] at e1;simp only[gO,φ,γv,bA.g,Ξ,bW.cells.injEq,and_true,true_and] at e2;have h4:l=l':=by
   have hf:=congrArg Φ e2;rw[ff,ff] at hf;exact lG (.i .i64) (by simpa[bw.sz] using hf) e2
  rw[e1.1.1,h4,e1.2.1,e1.2.2]
 dom a:=(a.1.1=a.1.2.length/\1<=a.1.2.length/\a.1.2.length<=1000000)/\0<=a.2.1/\a.2.1<=a.2.2/\a.2.2<=a.1.2.length;res a:=.os 0 0 (a.1.2.length - (a.2.2 - a.2.1).toNat) a.1.1 1;out a:=[.row (.i .i64) (lO a.1.2 a.2.1.toNat a.2.2.toNat) 3 true]
theorem h347:eu Tryz.prog wb:=by
 rintro⟨⟨n,l⟩,i,j⟩ ⟨⟨H,K,h2⟩,i0,ij,Y⟩;simp only at H K h2 i0 ij Y;subst H;obtain⟨i,rfl⟩:∃k:Nat,i=k:=⟨i.toNat,by omega⟩;obtain⟨j,rfl⟩:∃k:Nat,j=k:=⟨j.toNat,by omega⟩;refine⟨by kernel_rfl,?_⟩;intro A w F X t z;have I:∀m:List Int,gO [bA.row (.i .i64) m 3 true]=[bW.cells (m.map λx=>δe (.int .i64 x)) 3 1 true]:=λm=>by
  simp only[gO,φ,γv,bA.g,ou];rfl
 have V:gL (wb.put ((l.length,l),(i:Int),(j:Int)))=[.os 0 0 l.length (l.length*1),.sc (.int .i64 i),.sc (.int .i64 j)]:=rfl;have Z:(wb.res ((l.length,l),(i:Int),(j:Int))).g= .os 0 0 (l.length - (j - i)) (l.length*1):=by
  show AV.os 0 (0*1) (l.length - ((j:Int) - (i:Int)).toNat) (l.length*1)=_;simp_all
 show Calls _ _ _ _ λe h=>∃u p,e= .returned u/\cj A h p (gO [bA.row (.i .i64) (lO l i j) 3 true])/\bC A h p (gO [bA.row (.i .i64) (lO l i j) 3 true]) (wb.res ((l.length,l),(i:Int),(j:Int))).g u/\Ext w F (gO [bA.row (.i .i64) l 3 true]) h p (gO [bA.row (.i .i64) (lO l i j) 3 true]);replace t:cj A w F (gO [bA.row (.i .i64) l 3 true]):=t;replace z:bI A w F (gO [bA.row (.i .i64) l 3 true]) (gL (wb.put ((l.length,l),(i:Int),(j:Int)))) X:=z;rw[I] at t z;rw[I,I,Z];rw[V] at z;obtain⟨b,a2,d,rfl,S,Q,q4,q5,q6⟩:=SD t K;simp only[bI] at z;obtain⟨v,r,rfl,M,v2,r2,rfl,C,v3,r3,rfl,D,rfl⟩:=z;simp only[bC] at M C D;obtain⟨a0,a,s,rfl,a3,J⟩:=M;obtain⟨rfl,_⟩:=C;obtain⟨rfl,_⟩:=D;have O:=J 1 ⟨_,_,_,rfl,by simp⟩;simp only[kO,γZ] at O;obtain⟨rfl,rfl⟩:=O.2.1 trivial trivial (by omega);have hb:b<w.heap.size:=t.bnd 0 b s rfl;have W:=holds_of_blockI (ss:=l) Q q6;have T:maxLen=9223372036854775807:=rfl;have B:=@SG l i j (by omega) (by omega);have E:Calls Tryz.prog (wb).f #[.slice (some ⟨b,0,none⟩) l.length s,.int .i64 i,.int .i64 j] w λe h=>e= .returned (.slice (some ⟨b,0,none⟩) (l.length - (j - i)) s)/\∃q,h=Sort.putRow (Value.int .i64) (Sort.ahead w q) b 0 (lO l i j).toArray:=by
  exact AnyE.slices_Delete Tryz.layD (Value.int .i64) (λ_=>rfl) 0 Tryz.zeroValue3 Tryz.t3 (by kernel_rfl) (by kernel_rfl) b 0 s i j l.toArray w W (by omega) (by omega) (by omega) (by simp;omega)
 refine Calls.mono E ?_;rintro e h ⟨rfl,q,rfl⟩;have y:=grownBy_sortedI (w:=w) (g:=b) (n:=q) (os:=#[]) (lO l i j).toArray;have L:=heap_sortedI (w:=w) (n:=q) (os:=#[]) (lO l i j).toArray Q;rw[Sort.grow_empty] at y L;have R:=take_putCellsI d (lO l i j) (by omega);have hz:(Sort.putCells (Value.int .i64) 0 (lO l i j).toArray d).size=d.size:=by simp[Sort.putCells]
 generalize Sort.putRow (Value.int .i64) (Sort.ahead w q) b 0 (lO l i j).toArray=h at*;generalize Sort.putCells (Value.int .i64) 0 (lO l i j).toArray d=o at*;have N:=t.upd (w':=h) (id:=0) (x':=.cells ((lO l i j).map λx=>δe (.int .i64 x)) 3 1 true) (s':=some (b,s)) rfl y.size y.os y.tape y.output
  (λk U H=>y.block k U λe=>by simp_all) (λb' c' e=>by simp_all)
  ⟨_,_,_,rfl,by simp[B],λ_=>rfl⟩ ?_
 ·refine⟨_,[some (b,s)],rfl,N.1,?_,N.2⟩;simp only[bC];refine⟨⟨_,_,_,_,rfl,by simp[B]⟩,_,_,rfl,by omega,λsz E=>?_⟩;obtain⟨_,_,_,E,_⟩:=E;grind[kO]
 ·intro hx;simp only[dF];refine⟨λ_=>by rw[<-ou];exact oV _ _,by rw[<-ou];exact CG _ _,.inr ⟨b,s,o,rfl,S,L,by omega,by simp_all,?_⟩⟩;intro k c P;rw[δl] at P;obtain⟨x,G,rfl⟩:=ε.1 P;have a1:=(ι.1 G).1;refine⟨.int .i64 x,?_,by simp[bC,Value.oneCell']⟩;have h9:(o.toList.take (lO l i j).length)[k]?=((lO l i j).map (Value.int .i64))[k]?:=by rw[R]
  grind
structure Game where
 rows:List (List Int)
 bounds:List Int
 offers:List Off
def AP:qA Game where
 put a:=.agg [.row (.bP (.i .i64)) a.rows,.row (.i .i64) a.bounds,.row .off a.offers];dec
  | .agg [r,v,x]=>match jH (.bP (.i .i64)) r,jH (.i .i64) v,jH .off x with
   |some c,some v,some x=>some ⟨c,v,x⟩
   |_,_,_=>none
  |_=>none;ok v a h:=by
  grind[SV.g,gL,oZ]
 inj a b h:=by
  obtain⟨c,v,x⟩:=a;obtain⟨l,k,j⟩:=b;simp only[SV.g,gL,AV.agg.injEq,Ξ,and_true,true_and,δ4] at h;have e:=lG (.bP (.i .i64)) h.1.1 h.1.2;have d:=lG (.i .i64) h.2.1.1 h.2.1.2;have f:=lG .off h.2.2.1 h.2.2.2;rw[e,d,f]
def yi:bL:=⟨32,bz,.one dO,λ_=>True,λp=> .si .i64 (if bH p=0 then cE p else 0)⟩
theorem h335:Holds Tryz.prog yi:=by
 refine cq (L:=[qF,xN]) yi lk (by grind[h79,h157]) ?_;rintro(p:bz) -;refine bQ (let c:=(0:Int);let b:=decide (bH p≠c);let a:=Ω .i64 (if bH p=c then cE p else c);True/\(b=true->(γo .i64 0).same a)/\(b=false->p.classes.length<=8/\(Ω .i64 (cE p)).same a)) (by kernel_rfl) ?_;simp only[vcs];refine⟨λh=>by rw[if_neg h],λh=>?_⟩;have c:bH p=0:=γa.1 h;rw[if_pos c];have:=(dR c).1;omega
def eM (p:bz) (r:Int) (n:Nat):List Int:=(p.offers.take n).map (dW p r)
def Ek:bL:=⟨79,bz×Int,.cons dO (.one (ef .i64)),λa=>bH a.1=0/\0<=a.2/\a.2<cE a.1,λa=> .bN [.row (.i .i64) (eM a.1 a.2 a.1.offers.length),.si .i64 (di a.1 a.2)]⟩
def acv (a:bz×Int):Nat->cC
 |5=> .inv Int (λi=>⟨[(1,.si .i64 a.2),(4,.ow 1 (eM a.1 a.2 i.toNat).length 1),(6,.ptr 2 0 20),(20,.row .off a.1.offers),(21,.si .i64 a.1.offers.length),(22,.si .i64 i)],[.cells a.1.ss 27 20 false,.row (.i .i64) (eM a.1 a.2 i.toNat) 3 true,.cells a.1.ss 76 20 false]⟩)
   (λs=>iS s 22) (λi=>0<=i/\i<=a.1.offers.length) (λi=>(a.1.offers.length - i).toNat) λ_ _=> .look
 |_=> .look
theorem h336:Holds Tryz.prog Ek:=by
 refine cq (L:=[yi,xQ,xO]) Ek acv (by simpa using⟨h335,h156,h158⟩) ?_;rintro⟨p,r⟩ ⟨hc,r0,r1⟩;simp only at hc r0 r1;refine bQ (let a:=Ω .i64;let b:=(0:Int);let c:=Δ;let d:=bA.row;let e:=SV.bN;let f:=SV.ow;let g:=bw.i .i64;let l:=c bw.off p.offers;let v:=decide (r<b);let o:=γo .i64 0;let w:=[a (di p r)];let q:=e (c g (eM p r p.offers.length)::w);let y:=decide ((if bH p=b then cE p else b)<=r);let m:=γU 2 0 20;let z:=(↑p.offers.length:Int);let h:=(↑p.offers.length:Int);let s:=a h;let n:=λ(u:Nat) ↦let A:=bA.cells [a p.supply.a0,a p.supply.a1,a p.supply.a2,a p.supply.a3,a p.supply.a4,a p.supply.a5,a p.opn.a0,a p.opn.a1,a p.opn.a2,a p.opn.a3,a p.opn.a4,a p.opn.a5,a p.cls.a0,a p.cls.a1,a p.cls.a2,a p.cls.a3,a p.cls.a4,a p.cls.a5,c g p.classes,l] u 20 false;A.same A;(v=true->0=0/\(e [c g [],o]).same q)/\(v=false->True/\(y=true->0=0/\(e [c g [],o]).same q)/\(y=false->((((a r).same (a r)/\(f 1 0 1).same (f 1 (eM p r 0).length 1)/\m.same m/\l.same l/\(a z).same s/\o.same (a 0)/\True)/\n 27/\(d g [] 3 true).same (d g (eM p r 0) 3 true)/\n 76/\True)/\b<=b/\b<=h)/\∀(x:Int),let t:=bp p.offers x.toNat bw.off.dflt;let j:=eM p r x.toNat;let B:=j.length+1;let k:=x+(1:Int);let C:=j++[dW p r t];let D:=a k;b<=x/\x<=h->(decide (x<h)=true->b<=x/\x<z/\x.toNat<p.offers.length/\(p.classes.length<=8/\b<=r/\r<cE p/\b<=t.ck/\t.ck<(↑p.classes.length:Int))/\j.length=j.length/\B*8<=140737488355328/\B<=1000000000000/\bU .i64 k/\(((a r).same (a r)/\(f 1 C.length 1).same (f 1 (eM p r k.toNat).length 1)/\m.same m/\l.same l/\s.same s/\D.same D/\True)/\n 27/\(d g C 3 true).same (d g (eM p r k.toNat) 3 true)/\n 76/\True)/\(b<=k/\k<=h)/\(h - k).toNat<(h - x).toNat)/\(decide (x<h)=false->(p.classes.length<=8/\b<=r/\r<cE p)/\j.length=j.length/\(e (c g j::w)).same q)))) (by kernel_rfl) ?_;simp only[vcs];obtain⟨g1,g2,g3,g4,g5⟩:=dR hc;have how:∀{x y:Nat},x=y->(SV.ow 1 x 1).same (SV.ow 1 y 1):=by rintro _ _ rfl;rfl
 have hrow:∀{x y:List Int},x=y->(bA.row (.i .i64) x 3 true).same (bA.row (.i .i64) y 3 true):=by rintro _ _ rfl;rfl
 rw[if_pos hc];refine⟨λh=>by omega,λ_=>⟨λh=>by omega,λ_=>⟨⟨?_,by omega,by omega⟩,?_⟩⟩⟩;·exact⟨how rfl,hrow rfl⟩
 ·rintro i ⟨i0,i1⟩;have hL:(eM p r i.toNat).length<=160:=by unfold eM;rw[γT,γG];omega
  refine⟨λhi=>?_,λhi=>?_⟩
  ·have hx:=g5 _ (dn (d:=bw.off.dflt) (show i.toNat<p.offers.length by omega));have e:eM p r (i+1).toNat=eM p r i.toNat++[dW p r (bp p.offers i.toNat bw.off.dflt)]:=by
    unfold eM;rw[jN (d:=bw.off.dflt) i0 hi,γg];rfl
   rw[e];refine⟨i0,hi,?_,⟨g1,r0,r1,hx.1,hx.2.1⟩,?_,?_,?_,⟨how rfl,hrow rfl⟩,?_,?_⟩<;>omega
  ·rw[show i.toNat=p.offers.length by omega];exact⟨⟨g1,r0,r1⟩,rfl⟩
def mr (p:bz) (n:Nat):List (List Int):=(Θ n).map λr:Nat=>eM p r p.offers.length
def kz (p:bz) (n:Nat):List Int:=(Θ n).map λr:Nat=>di p r
def nR (p:bz):Nat:=if bH p=0 then p.classes.length+12 else 0
def cZ (p:bz):Game:=⟨mr p (nR p),kz p (nR p),p.offers⟩
theorem SH {p:bz} {n:Nat}:(mr p n).length=n:=by simp[mr]
theorem Em {p:bz} {n:Nat}:(kz p n).length=n:=by simp[kz]
theorem acw {p:bz} {i:Int} (h:0<=i):mr p (i+1).toNat=mr p i.toNat++[eM p i p.offers.length]:=by
 unfold mr;rw[show(i+1).toNat=i.toNat+1 from by omega,εe,γg];grind
theorem acy {p:bz} {i:Int} (h:0<=i):kz p (i+1).toNat=kz p i.toNat++[di p i]:=by
 unfold kz;rw[show(i+1).toNat=i.toNat+1 from by omega,εe,γg];grind
def En:bL:=⟨48,bz,.one dO,λ_=>True,λp=>AP.put (cZ p)⟩
def acz (p:bz):Nat->cC
 |3=> .inv Int (λi=>⟨[(1,.ptr 0 0 20),(2,.ptr 1 0 3),(3,.ptr 2 0 3),(11,.si .i64 (nR p)),(12,.si .i64 i)],[.cells p.ss 27 20 false,.cells [.sc (.slice none 0 0),.sc (.slice none 0 0),.sc (.slice none 0 0)] 90 3 false,.cells [.ow 4 (mr p i.toNat).length 1,.ow 3 (kz p i.toNat).length 1,.row .off p.offers] 90 3 false,.row (.i .i64) (kz p i.toNat) 3 true,.row (.bP (.i .i64)) (mr p i.toNat) 24 false]⟩)
   (λs=>iS s 12) (λi=>0<=i/\i<=nR p) (λi=>(nR p - i).toNat) λ_ _=> .look
 |_=> .look
theorem h325:Holds Tryz.prog En:=by
 refine cq (L:=[yi,Ek]) En acz (by simpa using⟨h335,h336⟩) ?_;rintro(p:bz) -;refine bQ (let a:=Ω .i64;let b:=bA.row;let c:=(0:Int);let d:=bA.cells;let e:=Δ;let f:=SV.ow;let g:=γU;let o:=g 0 0 20;let q:=g 1 0 3;let r:=g 2 0 3;let k:=(↑(nR p):Int);let u:=a k;let h:=bw.i .i64;let n:=[e bw.off p.offers];let s:=d (a p.supply.a0::a p.supply.a1::a p.supply.a2::a p.supply.a3::a p.supply.a4::a p.supply.a5::a p.opn.a0::a p.opn.a1::a p.opn.a2::a p.opn.a3::a p.opn.a4::a p.opn.a5::a p.cls.a0::a p.cls.a1::a p.cls.a2::a p.cls.a3::a p.cls.a4::a p.cls.a5::e h p.classes::n) 27 20 false;let v:=SV.sc (Value.slice none 0 0);let t:=d [v,v,v] 90 3 false;True/\(((o.same o/\q.same q/\r.same r/\(a (if bH p=c then cE p else c)).same u/\(γo .i64 0).same (a 0)/\True)/\s.same s/\t.same t/\(d (f 4 0 1::f 3 0 1::n) 90 3 false).same (d (f 4 (mr p 0).length 1::f 3 (kz p 0).length 1::n) 90 3 false)/\(b h [] 3 true).same (b h (kz p 0) 3 true)/\(b h.bP [] 24 false).same (b h.bP (mr p 0) 24 false)/\True)/\c<=c/\c<=k)/\∀(x:Int),let m:=mr p x.toNat;let w:=m.length+1;let l:=kz p x.toNat;let y:=l.length+1;let j:=x+(1:Int);let z:=a j;let A:=m++[eM p x p.offers.length];c<=x/\x<=k->(decide (x<k)=true->(bH p=c/\c<=x/\x<cE p)/\1=1/\m.length=m.length/\w*24<=140737488355328/\w<=1000000000000/\1=1/\l.length=l.length/\y*8<=140737488355328/\y<=1000000000000/\bU .i64 j/\((o.same o/\q.same q/\r.same r/\u.same u/\z.same z/\True)/\s.same s/\t.same t/\(d (f 4 A.length 1::f 3 (l++[di p x]).length 1::n) 90 3 false).same (d (f 4 (mr p j.toNat).length 1::f 3 (kz p j.toNat).length 1::n) 90 3 false)/\(b h (l++[di p x]) 3 true).same (b h (kz p j.toNat) 3 true)/\(b h.bP A 24 false).same (b h.bP (mr p j.toNat) 24 false)/\True)/\(c<=j/\j<=k)/\(k - j).toNat<(k - x).toNat)/\(decide (x<k)=false->m.length=m.length/\l.length=l.length/\(γF (e h.bP m::e h l::n)).same (γF [e h.bP (cZ p).rows,e h (cZ p).bounds,e bw.off (cZ p).offers]))) (by kernel_rfl) ?_;simp only[vcs];have hn:∀x:Int,0<=x->x<nR p->bH p=0/\x<cE p/\nR p<=20:=by
  intro x hx0 hx;unfold nR at hx ⊢;split at hx
  ·rename_i hc;have:=(dR hc).1;rw[if_pos hc];exact⟨hc,by unfold cE;omega,by omega⟩
  ·omega
 have e0:(if bH p=0 then cE p else 0)=((nR p:Nat):Int):=by
  unfold nR cE;split;·omega
  ·rfl
 have hcell:∀{a a' b b':Nat} {l:List Off},a=a'->b=b'->(bA.cells [.ow 4 a 1,.ow 3 b 1,.row .off l] 90 3 false).same (.cells [.ow 4 a' 1,.ow 3 b' 1,.row .off l] 90 3 false):=by rintro _ _ _ _ _ rfl rfl;rfl
 have hrow:∀{x y:List Int},x=y->(bA.row (.i .i64) x 3 true).same (bA.row (.i .i64) y 3 true):=by rintro _ _ rfl;rfl
 have hrow2:∀{x y:List (List Int)},x=y->(bA.row (.bP (.i .i64)) x 24 false).same (bA.row (.bP (.i .i64)) y 24 false):=by rintro _ _ rfl;rfl
 refine⟨⟨⟨e0,hcell rfl rfl,hrow rfl,hrow2 rfl⟩,by omega,by omega⟩,?_⟩;rintro i ⟨i0,i1⟩;refine⟨λhi=>?_,λhi=>?_⟩
 ·obtain⟨hc,h1,h2⟩:=hn i i0 hi;have l1:=@SH p i.toNat;have l2:=@Em p i.toNat;rw[acw i0,acy i0];refine⟨⟨hc,i0,h1⟩,?_,?_,?_,?_,?_,⟨hcell rfl rfl,hrow rfl,hrow2 rfl⟩,?_,?_⟩<;>omega
 ·rw[show i.toNat=nR p by omega];rfl
def nC (g:Game):Prop:=(g.rows.length=g.bounds.length/\g.bounds.length<=1000/\g.offers.length<=1000)/\(∀r∈g.rows,r.length=g.offers.length/\∀x∈r,0<=x/\x<=1000)/\∀b∈g.bounds, -1000<=b/\b<=1000
def pY (g:Game) (c:List Int):Prop:=∀x∈c,0<=(bp g.offers x.toNat bw.off.dflt).value/\(bp g.offers x.toNat bw.off.dflt).value<=1000000
def pn (g:Game) (c:List Int):Prop:=c.length<=1000/\∀x∈c,0<=x/\x<g.offers.length
def my (g:Game) (c:List Int) (r:Nat):Int:=(c.map λx=>bp (bp g.rows r []) x.toNat 0).sum
def lv (g:Game) (c:List Int):Bool:=(Θ g.bounds.length).all λr=>decide (0<=bp g.bounds r 0 - my g c r)
def dH (g:Game) (c:List Int):Int:=(c.map λx=>(bp g.offers x.toNat bw.off.dflt).value).sum
theorem SI {f:Int->Int} {c:List Int} {i:Int} (a:0<=i) (h:i<c.length):((c.take (i+1).toNat).map f).sum=((c.take i.toNat).map f).sum+f (bp c i.toNat 0):=by
 grind[jN]
theorem JC {f:Int->Int} {c:List Int} {k:Nat} {m:Int} (b:0<=m) (h:∀x∈c,0<=f x/\f x<=m):0<=((c.take k).map f).sum/\((c.take k).map f).sum<=c.length*m:=by
 induction c generalizing k with
 |nil=>simp;|cons x c a=>
  cases k with
  |zero=>simp;exact Int.mul_nonneg (by omega) b;|succ k=>
   have i:=h x (by simp);obtain⟨g,e⟩:=a (k:=k) λy d=>h y (by simp[d]);simp only[δ3,φ,List.sum_cons,γy];grind
def Eo:bL:=⟨54,Game×List Int,.cons AP (.one (cV (.i .i64))),λa=>nC a.1/\pn a.1 a.2,λa=> .sb (lv a.1 a.2)⟩
def acA (g:Game) (c:List Int):Nat->cC
 |2=> .inv Int (λi=>⟨[(1,.row (.i .i64) c),(2,.ptr 0 0 3),(10,.row (.i .i64) g.bounds),(11,.si .i64 g.bounds.length),(12,.si .i64 i)],[.cells [.row (.bP (.i .i64)) g.rows,.row (.i .i64) g.bounds,.row .off g.offers] 90 3 false]⟩)
   (λs=>iS s 12) (λi=>(0<=i/\i<=g.bounds.length)/\∀r:Nat,r<i->0<=bp g.bounds r 0 - my g c r) (λi=>(g.bounds.length - i).toNat) λi k=>match k with
   |5=> .inv (Int×Int) (λy=>⟨[(1,.row (.i .i64) c),(2,.ptr 0 0 3),(5,.si .i64 i),(6,.si .i64 y.2),(10,.row (.i .i64) g.bounds),(11,.si .i64 g.bounds.length),(12,.si .i64 i),(17,.row (.i .i64) c),(18,.si .i64 c.length),(19,.si .i64 y.1)],[.cells [.row (.bP (.i .i64)) g.rows,.row (.i .i64) g.bounds,.row .off g.offers] 90 3 false]⟩)
     (λs=>(iS s 19,iS s 6)) (λy=>(0<=y.1/\y.1<=c.length)/\y.2=bp g.bounds i.toNat 0 - my g (c.take y.1.toNat) i.toNat) (λy=>(c.length - y.1).toNat) λ_ _=> .look
   |_=> .look
 |_=> .look
theorem h327:Holds Tryz.prog Eo:=by
 refine cq (L:=[]) Eo (λa=>acA a.1 a.2) (by simp) ?_;rintro⟨g,c⟩ ⟨⟨⟨q1,q2,q3⟩,hr,hb⟩,hcl,hci⟩;simp only at q1 q2 q3 hr hb hcl hci;refine bQ (let a:=(0:Int);let b:=Ω .i64;let d:=Δ;let e:=γo .i64 0;let f:=bU .i64;let h:=bw.i .i64;let k:=γU 0 0 3;let j:=d h g.bounds;let z:=(↑g.bounds.length:Int);let l:=(↑g.bounds.length:Int);let o:=b l;let m:=bA.cells [d h.bP g.rows,j,d bw.off g.offers] 90 3 false;let n:=(↑c.length:Int);let v:=b n;((((d h c).same (d h c)/\k.same k/\j.same j/\(b z).same o/\(e).same (b 0)/\True)/\m.same m/\True)/\(a<=a/\a<=l)/\∀(r:Nat),(↑r:Int)<a->a<=bp g.bounds r a - my g c r)/\∀(x:Int),let s:=bp g.bounds x.toNat a;let A:=b s;let w:=bp g.rows x.toNat h.bP.dflt;let p:=x+(1:Int);let B:=b p;((a<=x/\x<=l)/\∀(r:Nat),(↑r:Int)<x->a<=bp g.bounds r a - my g c r)->(decide (x<l)=true->a<=x/\x<z/\x.toNat<g.bounds.length/\((((d h c).same (d h c)/\k.same k/\(b x).same (b x)/\A.same A/\j.same j/\o.same o/\(b x).same (b x)/\(d h c).same (d h c)/\(b (↑c.length:Int)).same v/\(e).same (b 0)/\True)/\m.same m/\True)/\(a<=a/\a<=n)/\s=s - my g [] x.toNat)/\∀(x_1:Int×Int),let t:=bp c x_1.fst.toNat a;let y:=x_1.snd - bp w t.toNat a;let q:=x_1.fst+(1:Int);let u:=b x;let C:=b y;let D:=b q;let E:=decide (x_1.snd<a);(a<=x_1.fst/\x_1.fst<=n)/\x_1.snd=s - my g (τ x_1.fst.toNat c) x.toNat->(decide (x_1.fst<n)=true->a<=x_1.fst/\x_1.fst<(↑c.length:Int)/\x_1.fst.toNat<c.length/\a<=x/\x<(↑g.rows.length:Int)/\x.toNat<g.rows.length/\a<=t/\t<(↑w.length:Int)/\t.toNat<w.length/\f y/\f q/\(((d h c).same (d h c)/\k.same k/\u.same u/\C.same C/\j.same j/\o.same o/\u.same u/\(d h c).same (d h c)/\v.same v/\D.same D/\True)/\m.same m/\True)/\((a<=q/\q<=n)/\y=s - my g (τ q.toNat c) x.toNat)/\(n - q).toNat<(n - x_1.fst).toNat)/\(decide (x_1.fst<n)=false->(E=true->(γ0 false).same (γn (lv g c)))/\(E=false->f p/\(((d h c).same (d h c)/\k.same k/\j.same j/\o.same o/\B.same B/\True)/\m.same m/\True)/\((a<=p/\p<=l)/\∀(r:Nat),(↑r:Int)<p->a<=bp g.bounds r a - my g c r)/\(l - p).toNat<(l - x).toNat)))/\(decide (x<l)=false->(γ0 true).same (γn (lv g c)))) (by kernel_rfl) ?_;simp only[vcs];have hd:(bw.i IntKind.i64).bP.dflt=([]:List Int):=rfl;rw[hd];have hrr:∀r:Nat,r<g.rows.length->(bp g.rows r []).length=g.offers.length/\∀x∈c,0<=bp (bp g.rows r []) x.toNat 0/\bp (bp g.rows r []) x.toNat 0<=1000:=λr h=>by
  have:=hr _ (dn (d:=[]) h);refine⟨this.1,λx hx=>?_⟩;have h2:=hci x hx;exact this.2 _ (dn (by rw[this.1];omega))
 refine⟨⟨by omega,λr h=>by omega⟩,?_⟩;rintro i ⟨⟨i0,i1⟩,hdone⟩;refine⟨λhi=>⟨i0,hi,by omega,⟨by omega,by simp[my]⟩,?_⟩,λhi=>?_⟩
 ·obtain⟨hrl,hrx⟩:=hrr i.toNat (by omega);have hbi:=hb _ (dn (d:=0) (show i.toNat<g.bounds.length by omega));rintro⟨j,v⟩ ⟨⟨j0,j1⟩,hv⟩;simp only at j0 j1 hv ⊢;refine⟨λhj=>?_,λhj=>?_⟩
  ·have hx:=hci _ (dn (d:=0) (show j.toNat<c.length by omega));have hs:my g (c.take (j+1).toNat) i.toNat=my g (c.take j.toNat) i.toNat+bp (bp g.rows i.toNat []) (bp c j.toNat 0).toNat 0:=SI (f:=λx=>bp (bp g.rows i.toNat []) x.toNat 0) j0 hj;have hbd:0<=my g (c.take j.toNat) i.toNat/\my g (c.take j.toNat) i.toNat<=c.length*1000:=JC (f:=λx=>bp (bp g.rows i.toNat []) x.toNat 0) (m:=1000) (by omega) hrx;have hvx:=hrx _ (dn (d:=0) (show j.toNat<c.length by omega));rw[hs,hrl];refine⟨j0,hj,?_,i0,?_,?_,hx.1,hx.2,?_,?_,?_,⟨?_,?_⟩,?_⟩<;>omega
  ·have hjc:j.toNat=c.length:=by omega
   rw[hjc,χ] at hv;refine⟨λhneg=>?_,λhpos=>⟨by omega,⟨by omega,λr h=>?_⟩,by omega⟩⟩
   ·symm;rw[<-Bool.not_eq_true,lv,ξ];intro h;have:=of_decide_eq_true (h i.toNat (γp.2 (by omega)));omega
   ·by_cases h2:(r:Int)<i;·exact hdone r h2
    ·rw[show r=i.toNat by omega,<-hv];omega
 ·symm;rw[lv,ξ];intro r h;rw[γp] at h;exact decide_eq_true (hdone r (by omega))
def yj:bL:=⟨51,Game×List Int,.cons AP (.one (cV (.i .i64))),λa=>nC a.1/\pn a.1 a.2/\pY a.1 a.2,λa=> .si .i64 (dH a.1 a.2)⟩
def acB (g:Game) (c:List Int):Nat->cC
 |3=> .inv Int (λi=>⟨[(2,.ptr 0 0 3),(5,.si .i64 (dH g (c.take i.toNat))),(8,.row (.i .i64) c),(9,.si .i64 c.length),(10,.si .i64 i)],[.cells [.row (.bP (.i .i64)) g.rows,.row (.i .i64) g.bounds,.row .off g.offers] 90 3 false]⟩)
   (λs=>iS s 10) (λi=>0<=i/\i<=c.length) (λi=>(c.length - i).toNat) λ_ _=> .look
 |_=> .look
theorem h328:Holds Tryz.prog yj:=by
 refine cq (L:=[]) yj (λa=>acB a.1 a.2) (by simp) ?_;rintro⟨g,c⟩ ⟨⟨⟨q1,q2,q3⟩,hr,hb⟩,⟨hcl,hci⟩,hvv⟩;simp only[pY] at q1 q2 q3 hr hb hcl hci hvv;refine bQ (let a:=Ω .i64;let b:=(0:Int);let d:=Δ;let j:=γU 0 0 3;let n:=γo .i64 0;let f:=bw.i .i64;let e:=(↑c.length:Int);let m:=a e;let k:=bA.cells [d f.bP g.rows,d f g.bounds,d bw.off g.offers] 90 3 false;(((j.same j/\n.same (a (dH g []))/\(d f c).same (d f c)/\(a (↑c.length:Int)).same m/\n.same (a 0)/\True)/\k.same k/\True)/\b<=b/\b<=e)/\∀(x:Int),let l:=bp c x.toNat b;let o:=dH g (τ x.toNat c);let p:=o+(bp g.offers l.toNat bw.off.dflt).value;let h:=x+(1:Int);let q:=a h;b<=x/\x<=e->(decide (x<e)=true->b<=x/\x<(↑c.length:Int)/\x.toNat<c.length/\b<=l/\l<(↑g.offers.length:Int)/\l.toNat<g.offers.length/\bU .i64 p/\bU .i64 h/\((j.same j/\(a p).same (a (dH g (τ h.toNat c)))/\(d f c).same (d f c)/\m.same m/\q.same q/\True)/\k.same k/\True)/\(b<=h/\h<=e)/\(e - h).toNat<(e - x).toNat)/\(decide (x<e)=false->(a o).same (a (dH g c)))) (by kernel_rfl) ?_;conv=>zeta
 try simp only[vcs]
 refine⟨⟨by simp[dH],by omega,by omega⟩,?_⟩;rintro i ⟨i0,i1⟩;refine⟨λhi=>?_,λhi=>?_⟩
 ·have hx:=hci _ (dn (d:=0) (show i.toNat<c.length by omega));have hs:dH g (c.take (i+1).toNat)=dH g (c.take i.toNat)+(bp g.offers (bp c i.toNat 0).toNat bw.off.dflt).value:=SI (f:=λx=>(bp g.offers x.toNat bw.off.dflt).value) i0 hi;have hbd:0<=dH g (c.take i.toNat)/\dH g (c.take i.toNat)<=c.length*1000000:=JC (f:=λx=>(bp g.offers x.toNat bw.off.dflt).value) (m:=1000000) (by omega) hvv;have hv1:=hvv _ (dn (d:=0) (show i.toNat<c.length by omega));rw[hs];refine⟨i0,hi,by omega,hx.1,hx.2,by omega,by omega,by omega,by first|trivial|rfl,by omega,by omega⟩
 ·rw[show i.toNat=c.length by omega,χ]
def Ep:bL:=⟨53,List Int×List Int,.cons (cV (.i .i64)) (.one (cV (.i .i64))),λa=>a.1.length<=1000/\1<=a.2.length/\a.2.length<=1000,λa=> .row (.i .i64) (fh (a.1++a.2))⟩
theorem h326:Holds Tryz.prog Ep:=by
 refine con (L:=[]) (W:=gC [wa,AO]) Ep lk (lj (by grind[h330o,h337])) (by simp) ?_;rintro⟨s,x⟩ ⟨b,c,d⟩;simp only at b c d;refine bQ (let a:Nat:=(s++x).length;s.length<=1000000/\s.length=s.length/\(s.length+x.length)*8<=140737488355328/\s.length+x.length<=1000000000000/\((s++x).length=a/\1<=a/\a<=1000000)/\(s++x).length=(fh (s++x)).length/\(Δ (bw.i .i64) (fh (s++x))).same (Δ (bw.i .i64) (fh (s++x)))) (by kernel_rfl) ?_;conv=>zeta
 try simp only[vcs]
 grind[v8]
def JD:bL:=⟨81,List Int×Int,.cons (cV (.i .i64)) (.one (ef .i64)),λa=>a.1.length<=1000/\0<=a.2/\a.2<a.1.length,λa=> .row (.i .i64) (a.1.take a.2.toNat++a.1.drop (a.2+1).toNat)⟩
theorem h339:Holds Tryz.prog JD:=by
 refine con (L:=[]) (W:=gC [wa,wb]) JD lk (lj (by grind[h330o,h347])) (by simp) ?_;rintro⟨s,i⟩ ⟨d,e,f⟩;simp only at d e f;refine bQ (let a:=i+(1:Int);let c:=lO s i.toNat a.toNat;let b:=s.length - (a - i).toNat;s.length<=1000000/\bU .i64 a/\((s.length=s.length/\1<=s.length/\s.length<=1000000)/\(0:Int)<=i/\i<=a/\a<=(↑s.length:Int))/\s.length=c.length/\0+b<=s.length/\(Δ (bw.i .i64) (τ b c)).same (Δ (bw.i .i64) (τ i.toNat s++List.drop a.toNat s))) (by kernel_rfl) ?_;conv=>zeta
 try simp only[vcs]
 have g:=@SG s i.toNat (i+1).toNat (by omega) (by omega);refine⟨by omega,by omega,by omega,g.symm,by omega,?_⟩;unfold lO;rw[List.take_append_of_le_length (by grind),γc (by grind)]
def sV (c:List Int) (x:Int):Int:=if x∈c then(c.idxOf x:Int) else -1
theorem acC {c:List Int} {x:Int} {k:Nat} (h:k<c.length) (b:∀j:Nat,j<k->bp c j 0≠x) (a:bp c k 0=x):sV c x=k:=by
 unfold sV;rw[if_pos (a▸dn h)];congr 1;rw[dj h] at a;rw[List.idxOf,List.findIdx_eq h];grind[dj]
theorem acD {c:List Int} {x:Int} (a:∀j:Nat,j<c.length->bp c j 0≠x):sV c x= -1:=by
 unfold sV;rw[if_neg];intro h;obtain⟨k,b,rfl⟩:=γB h;grind[dj]
theorem acE {c:List Int} {x:Int}:0<=sV c x↔x∈c:=by
 grind[sV]
def JE:bL:=⟨121,List Int×Int,.cons (cV (.i .i64)) (.one (ef .i64)),λa=>a.1.length<=1000,λa=> .si .i64 (sV a.1 a.2)⟩
def acF (c:List Int) (x:Int):Nat->cC
 |2=> .inv Int (λi=>⟨[(0,.row (.i .i64) c),(1,.si .i64 x),(7,.si .i64 c.length),(8,.si .i64 i)],[]⟩)
   (λs=>iS s 8) (λi=>(0<=i/\i<=c.length)/\∀k:Nat,(k:Int)<i->bp c k 0≠x) (λi=>(c.length - i).toNat) λ_ _=> .look
 |_=> .look
theorem h348:Holds Tryz.prog JE:=by
 refine cq (L:=[]) JE (λa=>acF a.1 a.2) (by simp) ?_;rintro⟨c,x⟩ o;replace o:c.length<=1000:=o;refine bQ (let a:=Ω .i64;let h:=(0:Int);let f:=Δ (bw.i .i64) c;let d:=(↑c.length:Int);let g:=a d;let n:=a (sV c x);(((f.same f/\(a x).same (a x)/\(a (↑c.length:Int)).same g/\(γo .i64 0).same (a 0)/\True)/\True)/\(h<=h/\h<=d)/\∀(k:Nat),(↑k:Int)<h->bp c k h≠x)/\∀(b:Int),let l:=decide (x=bp c b.toNat h);let e:=b+(1:Int);let j:=a x;let m:=a e;((h<=b/\b<=d)/\∀(k:Nat),(↑k:Int)<b->bp c k h≠x)->(decide (b<d)=true->h<=b/\b<(↑c.length:Int)/\b.toNat<c.length/\(l=true->(a b).same n)/\(l=false->bU .i64 e/\((f.same f/\j.same j/\g.same g/\m.same m/\True)/\True)/\((h<=e/\e<=d)/\∀(k:Nat),(↑k:Int)<e->bp c k h≠x)/\(d - e).toNat<(d - b).toNat))/\(decide (b<d)=false->(γo .i64 (-1:Int)).same n)) (by kernel_rfl) ?_;conv=>zeta
 try simp only[vcs]
 refine⟨⟨by omega,λk h=>by omega⟩,?_⟩;grind[acC,acD]
def JF:bL:=⟨82,List Int×Int,.cons (cV (.i .i64)) (.one (ef .i64)),λa=>a.1.length<=1000,λa=> .sb (decide (a.2∈a.1))⟩
theorem h340:Holds Tryz.prog JF:=by
 refine cq (L:=[JE]) JF lk (by grind[h348]) ?_;rintro⟨c,x⟩ a;replace a:c.length<=1000:=a;refine bQ (c.length<=1000/\(γn (decide ((0:Int)<=sV c x))).same (γn (decide (x∈c)))) (by kernel_rfl) ?_;simp_all[acE]
theorem AQ {p:bz} (a:bH p=0) {r:Int}:0<=di p r/\di p r<=4:=by
 obtain⟨_,_,b,c,_⟩:=dR a;unfold di;split;·omega
 ·split;all_goals simp_all[HT]
theorem SJ {p:bz} (h:p.offers.length<=1000):nC (cZ p):=by
 have j:nR p<=20:=by
  unfold nR;split
  ·rename_i a;have:=(dR a).1;omega
  ·omega
 have d:0<nR p->bH p=0:=by
  grind[nR]
 refine⟨⟨?_,?_,h⟩,λr f=>?_,λb g=>?_⟩
 ·show(mr p (nR p)).length=(kz p (nR p)).length;rw[SH,Em]
 ·show(kz p (nR p)).length<=1000;grind[Em]
 ·obtain⟨k,c,rfl⟩:=γf.1 (show r∈mr p (nR p) from f);rw[γp] at c;have a:=d (by omega);refine⟨by simp[eM,cZ],λx i=>?_⟩;obtain⟨o,e,rfl⟩:=γf.1 (show x∈eM p k p.offers.length from i);have:=o6 (p:=p) (r:=k) ((dR a).2.2.2.2 o (γi e)).2.2.1;omega
 ·obtain⟨k,c,rfl⟩:=γf.1 (show b∈kz p (nR p) from g);rw[γp] at c;have:=AQ (d (by omega)) (r:=k);omega
def stepG (g:Game) (c:List Int) (x:Int):List Int:=if lv g (fh (c++[x]))=true then fh (c++[x]) else c
def ov (g:Game) (l:List Int):List Int:=l.foldl (stepG g) []
def gV (p:bz):List Int:=if bH p=0 then v7 p else[]
def jW (p:bz):List Int:=ov (cZ p) (gV p)
theorem Es {l:List Int} {x:Int}:x∈fh l↔x∈l:=(εz _ _).mem_iff
theorem SK {g:Game} {c:List Int} {x y:Int} (h:y∈stepG g c x):y∈c\/y=x:=by
 grind[stepG,Es]
theorem acG {g:Game} {c:List Int} {x:Int}:(stepG g c x).length<=c.length+1:=by
 grind[stepG,v8]
theorem SL {g:Game} {l:List Int}:∀{c:List Int} {y:Int},y∈l.foldl (stepG g) c->y∈c\/y∈l:=by
 induction l<;>grind[SK]
theorem acH {g:Game} {l:List Int}:∀{c:List Int},(l.foldl (stepG g) c).length<=c.length+l.length:=by
 induction l<;>grind[stepG,acG]
theorem acI {g:Game} {l:List Int}:(ov g l).length<=l.length:=by
 grind[acH,ov]
theorem acJ {g:Game} {l:List Int} {i:Int} (a:0<=i) (h:i<l.length):ov g (l.take (i+1).toNat)=stepG g (ov g (l.take i.toNat)) (bp l i.toNat 0):=by
 grind[ov,jN]
theorem JG {p:bz} {x:Int} (h:x∈gV p):bH p=0/\mQ p x:=by
 unfold gV at h;split at h
 ·rename_i a;rw[v7,Jn,rL] at h;exact⟨a,h⟩
 ·simp at h
theorem SN {p:bz}:(gV p).length<=p.offers.length:=by
 grind[gV,v7,sU,jw]
theorem acK {p:bz} (d:p.offers.length<=20) {k:Nat}:(ov (cZ p) ((gV p).take k)).length<=40/\∀x∈ov (cZ p) ((gV p).take k),bH p=0/\mQ p x:=by
 have b:=@acI (cZ p) ((gV p).take k);have c:=@SN p;rw[γG] at b;refine⟨by omega,λx a=>?_⟩;rcases SL a with h|h<;>grind[SL,JG]
def AS:bL:=⟨28,bz,.one dO,λp=>p.offers.length<=20,λp=>mf.put ⟨jW p,dH (cZ p) (jW p)⟩⟩
def acL (p:bz):Nat->cC
 |4=> .inv Int (λi=>⟨[(2,.ptr 1 0 2),(3,.ptr 2 0 3),(4,.row (.i .i64) (ov (cZ p) ((gV p).take i.toNat))),(11,.row (.i .i64) (gV p)),(12,.si .i64 (gV p).length),(13,.si .i64 i)],[.cells p.ss 27 20 false,.cells [.sc (.slice none 0 0),.il .i64 0] 31 2 false,.cells [.row (.bP (.i .i64)) (cZ p).rows,.row (.i .i64) (cZ p).bounds,.row .off (cZ p).offers] 90 3 false,.dead]⟩)
   (λs=>iS s 13) (λi=>0<=i/\i<=(gV p).length) (λi=>((gV p).length - i).toNat) λ_ _=> .look
 |_=> .look
theorem h312:Holds Tryz.prog AS:=by
 refine cq (L:=[En,JB,Ep,Eo,yj]) AS acL (by grind[h325,h308,h326,h327,h328]) ?_;intro(p:bz) (D:p.offers.length<=20);refine bQ (let c:=Ω .i64;let d:=Δ;let e:=(0:Int);let h:=bA.cells;let q:=γU 1 0 2;let o:=γU 2 0 3;let f:=bw.i .i64;let C:=if bH p=e then v7 p else[];let y:=d f (gV p);let k:=(↑(gV p).length:Int);let t:=c k;let B:=γo .i64 0;let r:=h [c p.supply.a0,c p.supply.a1,c p.supply.a2,c p.supply.a3,c p.supply.a4,c p.supply.a5,c p.opn.a0,c p.opn.a1,c p.opn.a2,c p.opn.a3,c p.opn.a4,c p.opn.a5,c p.cls.a0,c p.cls.a1,c p.cls.a2,c p.cls.a3,c p.cls.a4,c p.cls.a5,d f p.classes,d bw.off p.offers] 27 20 false;let s:=h [SV.sc (Value.slice none 0 0),B] 31 2 false;let g:=h [d f.bP (cZ p).rows,d f (cZ p).bounds,d bw.off (cZ p).offers] 90 3 false;True/\0=0/\p.offers.length<=20/\(((q.same q/\o.same o/\(d f []).same (d f (ov (cZ p) []))/\(d f C).same y/\(c (↑C.length:Int)).same t/\B.same (c 0)/\True)/\r.same r/\s.same s/\g.same g/\bA.dead.same bA.dead/\True)/\e<=e/\e<=k)/\∀(x:Int),let a:=ov (cZ p) (τ x.toNat (gV p));let l:=fh (a++[bp (gV p) x.toNat e]);let b:=x+(1:Int);let m:=c b;let n:=λ(u:Bool) (w:List Int) ↦lv (cZ p) l=u->bU .i64 b/\((q.same q/\o.same o/\(d f w).same (d f (ov (cZ p) (τ b.toNat (gV p))))/\y.same y/\t.same t/\m.same m/\True)/\r.same r/\s.same s/\g.same g/\bA.dead.same bA.dead/\True)/\(e<=b/\b<=k)/\(k - b).toNat<(k - x).toNat;e<=x/\x<=k->(decide (x<k)=true->e<=x/\x<(↑(gV p).length:Int)/\x.toNat<(gV p).length/\(a.length<=1000/\1<=1/\1<=1000)/\(nC (cZ p)/\pn (cZ p) l)/\n true l/\n false a)/\(decide (x<k)=false->(nC (cZ p)/\pn (cZ p) a/\pY (cZ p) a)/\(γF [d f a,c (dH (cZ p) a)]).same (γF [d f (jW p),c (dH (cZ p) (jW p))]))) (by kernel_rfl) ?_;conv=>zeta
 try simp only[vcs]
 have F:=@SJ p (by omega);have K:=@SN p;have H:(if bH p=0 then v7 p else[])=gV p:=rfl;rw[H];refine⟨D,⟨⟨rfl,rfl,rfl⟩,by omega,by omega⟩,?_⟩
 ·rintro i ⟨E,M⟩;obtain⟨v,j⟩:=@acK p D i.toNat;refine⟨λz=>?_,λz=>?_⟩
  ·have G:=@acJ (cZ p) (gV p) i E z;have A:=JG (dn (d:=0) (show i.toNat<(gV p).length by omega));rw[G];generalize ov (cZ p) ((gV p).take i.toNat)=c at*;refine⟨E,z,by omega,⟨by omega,by omega,by omega⟩,⟨F,by grind[v8],λx h=>?_⟩,λh=>⟨by omega,by simp_all[stepG],by omega,by omega⟩,λh=>⟨by omega,by simp_all[stepG],by omega,by omega⟩⟩;rw[Es,γu] at h;rcases h with h|h;·exact(j x h).2
   ·rw[List.mem_singleton] at h;rw[h];exact A.2
  ·have J:(gV p).take i.toNat=gV p:=γc (by omega);rw[J] at v j ⊢;refine⟨⟨F,⟨by omega,λx h=>(j x h).2⟩,λx h=>?_⟩,rfl⟩;obtain⟨I,A⟩:=j x h;have:=(AE I A).1;have e:(bp (cZ p).offers x.toNat bw.off.dflt).value=rK p x:=rfl;omega
def rM (g:Game):List SV:=[.row (.bP (.i .i64)) g.rows,.row (.i .i64) g.bounds,.row .off g.offers]
def JH:List SV->Option Game
 |[r,v,x]=>match jH (.bP (.i .i64)) r,jH (.i .i64) v,jH .off x with
  |some c,some v,some x=>some ⟨c,v,x⟩
  |_,_,_=>none
 |_=>none
theorem acM {cs:List SV} {g:Game} (h:JH cs=some g):gL cs=gL (rM g):=by
 unfold JH at h;grind[rM,gL,oZ]
theorem acN {g a:Game} (h:gL (rM g)=gL (rM a)):g=a:=AP.inj g a (by
 show AV.agg (gL (rM g))=AV.agg (gL (rM a));rw[h])
def nD (g:Game) (v:Int) (c:List Int):Bool:=decide (v<dH g c)&&lv g c
def JI:dD where
 f:=80;α:=List Int×Game×Int;put a:=[.row (.i .i64) a.1,.ptr 0 0 3,.ptr 1 0 1];st a:=[.cells (rM a.2.1) 90 3 false,.cells [.si .i64 a.2.2] 2 1 false];dec v o:=match v,o with
  |[x,.ptr 0 0 3,.ptr 1 0 1],[.cells j 90 3 false,.cells [y] 2 1 false]=>match jH (.i .i64) x,JH j,y.int .i64 with
   |some x,some g,some y=>some (x,g,y)
   |_,_,_=>none
  |_,_=>none;ok v o a h:=by
  split at h
  ·split at h
   ·rename_i d c e;simp only[γ] at h;subst h;refine⟨by grind[gL,oZ],?_⟩;simp only[gO,φ,γv,bA.g,acM c,gL,iP e];rfl
   ·cases h
  ·cases h
 inj a b d c:=by
  simp only[gL,Ξ,and_true,SV.g,δ4] at d;simp only[gO,φ,γv,bA.g,Ξ,bW.cells.injEq,and_true,gL,SV.g,γ7,Value.int.injEq,true_and] at c;have e:=acN c.1;have k:=lG (.i .i64) d.1 d.2;grind
 dom a:=nC a.2.1/\pn a.2.1 a.1/\pY a.2.1 a.1;res a:=.sb (nD a.2.1 a.2.2 a.1);out a:=[.cells (rM a.2.1) 90 3 false,.cells [.si .i64 a.2.2] 2 1 false]
theorem h338:eu Tryz.prog JI:=by
 refine lp (L:=[Eo,yj]) (W:=[]) JI lk (by simp) (by grind[h327,h328]) ?_;rintro⟨c,g,v⟩ ⟨j,f,h⟩;simp only at j f h;refine bQ (let f:=Δ;let e:=bA.cells [f (bw.i .i64).bP g.rows,f (bw.i .i64) g.bounds,f bw.off g.offers] 90 3 false;let a:=bA.cells [Ω .i64 v] 2 1 false;let b:=decide (v<dH g c);let d:=e.same e/\a.same a/\True;(nC g/\pn g c/\pY g c)/\(b=true->(nC g/\pn g c)/\(γn (lv g c)).same (γn (nD g v c))/\d)/\(b=false->(γ0 false).same (γn (nD g v c))/\d)) (by kernel_rfl) ?_;simp_all[vcs,nD,decide_eq_false]
def pZ (g:Game) (c:List Int) (v:Int) (a:List Int) (o k:Int):Option (List Int):=if k<=o\/k∈c then none else if nD g v (fh (a++[o,k]))=true then some (fh (a++[o,k])) else none
def nE (g:Game) (c:List Int) (v:Int) (a:List Int) (o:Int):Option (List Int):=if o∈c then none else if nD g v (fh (a++[o]))=true then some (fh (a++[o])) else(Θ g.offers.length).findSome? λk:Nat=>pZ g c v a o k
def iT (c:List Int) (i:Nat):List Int:=c.take i++c.drop (i+1)
def yk (g:Game) (c:List Int) (v:Int) (i:Nat):Option (List Int):=(Θ g.offers.length).findSome? λo:Nat=>nE g c v (iT c i) o
def jy (g:Game) (c:List Int):Option (List Int):=(Θ c.length).findSome? λi=>yk g c (dH g c) i
theorem JJ {n:Nat} {f:Nat->Option (List Int)} (h:∀i,i<n->f i=none):(Θ n).findSome? f=none:=by
 simp_all
theorem Et {n i:Nat} {f:Nat->Option (List Int)} {t:List Int} (c:i<n) (h:∀j,j<i->f j=none) (b:f i=some t):(Θ n).findSome? f=some t:=by
 have e:Θ n=Θ i++(i::(Θ (n - (i+1))).map λk=>i+1+k):=by
  have a:=@List.range_add i (n - i);rw[show i+(n - i)=n by omega] at a;rw[a,show n - i=(n - (i+1))+1 by omega,ζo];simp only[φ,δn,Nat.add_zero];congr 2;apply γV;grind
 simp_all[JJ]
def uC (g:Game):Prop:=nC g/\∀o∈g.offers,0<=o.value/\o.value<=1000000
def JK:bL:=⟨50,Game×List Int,.cons AP (.one (cV (.i .i64))),λa=>uC a.1/\(a.2.length<=900/\∀x∈a.2,0<=x/\x<a.1.offers.length),λa=> .bN [.row (.i .i64) ((jy a.1 a.2).getD []),.sb (jy a.1 a.2).isSome]⟩
def JL (g:Game) (c:List Int):cu:=[.cells (rM g) 90 3 false,.cells [.si .i64 (dH g c)] 2 1 false]
def acO (g:Game) (c:List Int):Nat->cC
 |4=> .inv Int (λi=>⟨[(1,.row (.i .i64) c),(2,.ptr 0 0 3),(7,.fn (.func 80) [] [.ptr 0 0 3,.ptr 1 0 1]),(19,.si .i64 c.length),(20,.si .i64 i)],JL g c⟩)
   (λs=>iS s 20) (λi=>(0<=i/\i<=c.length)/\∀k:Nat,(k:Int)<i->yk g c (dH g c) k=none) (λi=>(c.length - i).toNat) λi k=>match k with
   |8=> .inv Int (λo=>⟨[(1,.row (.i .i64) c),(2,.ptr 0 0 3),(7,.fn (.func 80) [] [.ptr 0 0 3,.ptr 1 0 1]),(9,.row (.i .i64) (iT c i.toNat)),(19,.si .i64 c.length),(20,.si .i64 i),(28,.si .i64 g.offers.length),(29,.si .i64 o)],JL g c⟩)
     (λs=>iS s 29) (λo=>(0<=o/\o<=g.offers.length)/\∀k:Nat,(k:Int)<o->nE g c (dH g c) (iT c i.toNat) k=none) (λo=>(g.offers.length - o).toNat) λo k=>match k with
     |15=> .inv Int (λz=>⟨[(1,.row (.i .i64) c),(2,.ptr 0 0 3),(7,.fn (.func 80) [] [.ptr 0 0 3,.ptr 1 0 1]),(9,.row (.i .i64) (iT c i.toNat)),(10,.si .i64 o),(12,.si .i64 z),(19,.si .i64 c.length),(20,.si .i64 i),(28,.si .i64 g.offers.length),(29,.si .i64 o)],JL g c⟩)
       (λs=>iS s 12) (λz=>(o<z/\z<=g.offers.length)/\∀k:Nat,(k:Int)<z->pZ g c (dH g c) (iT c i.toNat) o k=none) (λz=>(g.offers.length - z).toNat) λ_ _=> .look
     |_=> .look
   |_=> .look
 |_=> .look
theorem h331:Holds Tryz.prog JK:=by
 refine con (L:=[Ep,yj,JD,JF]) (W:=gC [JI]) JK (λa=>acO a.1 a.2) (lj (by grind[h338])) (by grind[h326,h328,h339,h340]) ?_;rintro⟨g,c⟩ ⟨⟨hg,hv⟩,a2,Q⟩;simp only at hg hv a2 Q;refine bQ (let a:=Ω .i64;let d:=Δ;let f:=(0:Int);let h:=bU .i64;let j:=γo .i64 0;let o:=SV.bN;let q:=(1:Int);let m:=bw.i .i64;let r:=γU 0 0 3;let v:=SV.fn (Fn.func 80) [] [r,γU 1 0 1];let H:=(↑c.length:Int);let A:=a H;let w:=bA.cells [d m.bP g.rows,d m g.bounds,d bw.off g.offers] 90 3 false;let y:=bA.cells [a (dH g c)] 2 1 false;let t:=(↑g.offers.length:Int);let s:=(↑g.offers.length:Int);let I:=a s;let P:=o [d m ((jy g c).getD []),γn (jy g c).isSome];(nC g/\pn g c/\pY g c)/\((((d m c).same (d m c)/\r.same r/\v.same v/\(a (↑c.length:Int)).same A/\(j).same (a 0)/\True)/\w.same w/\y.same y/\True)/\(f<=f/\f<=H)/\∀(k:Nat),(↑k:Int)<f->yk g c (dH g c) k=none)/\∀(x:Int),let u:=x+q;let l:=iT c x.toNat;let n:=d m l;let X:=a u;((f<=x/\x<=H)/\∀(k:Nat),(↑k:Int)<x->yk g c (dH g c) k=none)->(decide (x<H)=true->(c.length<=1000/\f<=x/\x<H)/\((((d m c).same (d m c)/\r.same r/\v.same v/\(d m (τ x.toNat c++List.drop u.toNat c)).same n/\A.same A/\(a x).same (a x)/\(a t).same I/\(j).same (a 0)/\True)/\w.same w/\y.same y/\True)/\(f<=f/\f<=s)/\∀(k:Nat),(↑k:Int)<f->nE g c (dH g c) l (↑k:Int)=none)/\∀(b:Int),let e:=b+q;let p:=a x;let B:=a e;let J:=fh (l++[b]);let R:=nD g (dH g c) J;((f<=b/\b<=s)/\∀(k:Nat),(↑k:Int)<b->nE g c (dH g c) l (↑k:Int)=none)->(decide (b<s)=true->c.length<=1000/\(decide (b∈c)=true->h e/\(((d m c).same (d m c)/\r.same r/\v.same v/\n.same n/\A.same A/\p.same p/\I.same I/\B.same B/\True)/\w.same w/\y.same y/\True)/\((f<=e/\e<=s)/\∀(k:Nat),(↑k:Int)<e->nE g c (dH g c) l (↑k:Int)=none)/\(s - e).toNat<(s - b).toNat)/\(decide (b∈c)=false->(l.length<=1000/\1<=1/\1<=1000)/\(nC g/\pn g J/\pY g J)/\(R=true->(o [d m J,γ0 true]).same P)/\(R=false->h e/\((((d m c).same (d m c)/\r.same r/\v.same v/\n.same n/\(a b).same (a b)/\B.same B/\A.same A/\p.same p/\I.same I/\(a b).same (a b)/\True)/\w.same w/\y.same y/\True)/\(b<e/\e<=s)/\∀(k:Nat),(↑k:Int)<e->pZ g c (dH g c) l b (↑k:Int)=none)/\∀(x:Int),let C:=x+q;let K:=a b;let Z:=a C;let F:=fh (l++[b,x]);let S:=nD g (dH g c) F;let V:=h C/\(((d m c).same (d m c)/\r.same r/\v.same v/\n.same n/\K.same K/\Z.same Z/\A.same A/\p.same p/\I.same I/\K.same K/\True)/\w.same w/\y.same y/\True)/\((b<C/\C<=s)/\∀(k:Nat),(↑k:Int)<C->pZ g c (dH g c) l b (↑k:Int)=none)/\(s - C).toNat<(s - x).toNat;((b<x/\x<=s)/\∀(k:Nat),(↑k:Int)<x->pZ g c (dH g c) l b (↑k:Int)=none)->(decide (x<t)=true->c.length<=1000/\(decide (x∈c)=true->V)/\(decide (x∈c)=false->(l.length<=1000/\1<=2/\2<=1000)/\(nC g/\pn g F/\pY g F)/\(S=true->(o [d m F,γ0 true]).same P)/\(S=false->V)))/\(decide (x<t)=false->h e/\(((d m c).same (d m c)/\r.same r/\v.same v/\n.same n/\A.same A/\p.same p/\I.same I/\B.same B/\True)/\w.same w/\y.same y/\True)/\((f<=e/\e<=s)/\∀(k:Nat),(↑k:Int)<e->nE g c (dH g c) l (↑k:Int)=none)/\(s - e).toNat<(s - b).toNat))))/\(decide (b<s)=false->h u/\(((d m c).same (d m c)/\r.same r/\v.same v/\A.same A/\X.same X/\True)/\w.same w/\y.same y/\True)/\((f<=u/\u<=H)/\∀(k:Nat),(↑k:Int)<u->yk g c (dH g c) k=none)/\(H - u).toNat<(H - x).toNat))/\(decide (x<H)=false->(o [d m [],γ0 false]).same P)) (by kernel_rfl) ?_;conv=>zeta
 try simp only[vcs]
 have U:∀d:List Int,(∀x∈d,0<=x/\x<g.offers.length)->pY g d:=λd hd x hx=>hv _ (dn (by simp_all));have N:∀i:Nat,(iT c i).length<=900/\∀x∈iT c i,x∈c:=λi=>by
  grind[iT]
 have M:∀(i:Nat) (d:List Int),d.length<=2->(∀x∈d,0<=x/\x<g.offers.length)->nC g/\pn g (fh (iT c i++d))/\pY g (fh (iT c i++d)):=λi d hd hx=>by
  have q:∀x∈fh (iT c i++d),0<=x/\x<g.offers.length:=λx h=>by
   grind[Es]
  have:=(N i).1;exact⟨hg,⟨by grind[v8],q⟩,U _ q⟩
 have a4:=hg.1;refine⟨⟨hg,⟨by omega,Q⟩,U c Q⟩,⟨by omega,λk h=>by omega⟩,?_⟩;rintro i ⟨⟨i0,i1⟩,hi⟩;refine⟨λa0=>⟨⟨by omega,i0,a0⟩,⟨by grind[iT],by omega,λk h=>by omega⟩,?_⟩,λa0=>?_⟩
 ·have ho:=N i.toNat;have E:∀t,yk g c (dH g c) i.toNat=some t->jy g c=some t:=λt ht=>Et (i:=i.toNat) (by omega) (λj T=>hi j (by omega)) ht;rintro o ⟨⟨o0,o1⟩,Y⟩;refine⟨λa3=>⟨by omega,λG=>⟨by omega,⟨by omega,λk h=>?_⟩,by omega⟩,λG=>⟨by omega,M _ _ (by simp) (by simp;omega),λhb=>?_,λhb=>⟨by omega,⟨by omega,λk h=>?_⟩,?_⟩⟩⟩,λa3=>⟨by omega,⟨by omega,λk h=>?_⟩,by omega⟩⟩
  ·by_cases q:(k:Int)<o;·exact Y k q
   ·rw[show(k:Int)=o by omega];unfold nE;rw[if_pos G]
  ·have q:nE g c (dH g c) (iT c i.toNat) o=some (fh (iT c i.toNat++[o])):=by
    simp_all[nE]
   have h3:=E _ (Et (f:=λo:Nat=>nE g c (dH g c) (iT c i.toNat) o) (i:=o.toNat) (by omega) (λj T=>Y j (by omega)) (by simp only[show((o.toNat:Nat):Int)=o by omega];exact q));simp_all
  ·unfold pZ;grind
  ·rintro z ⟨⟨m,r⟩,hz⟩;refine⟨λa1=>⟨by omega,λD=>⟨by omega,⟨by omega,λk h=>?_⟩,by omega⟩,λD=>⟨by omega,M _ _ (by simp) (by simp;omega),λO=>?_,λO=>⟨by omega,⟨by omega,λk h=>?_⟩,by omega⟩⟩⟩,λa1=>⟨by omega,⟨by omega,λk h=>?_⟩,by omega⟩⟩
   ·by_cases q:(k:Int)<z;·exact hz k q
    ·rw[show(k:Int)=z by omega];unfold pZ;rw[if_pos (.inr D)]
   ·have h4:¬z<=o:=by omega
    have h5:pZ g c (dH g c) (iT c i.toNat) o z=some (fh (iT c i.toNat++[o,z])):=by
     unfold pZ;rw[if_neg (λh=>h.elim h4 D),if_pos O]
    have q:nE g c (dH g c) (iT c i.toNat) o=some (fh (iT c i.toNat++[o,z])):=by
     unfold nE;rw[if_neg G,if_neg (by rw[hb];simp)];exact Et (f:=λk:Nat=>pZ g c (dH g c) (iT c i.toNat) o k) (i:=z.toNat) (by omega) (λj T=>hz j (by omega)) (by simp only[show((z.toNat:Nat):Int)=z by omega];exact h5)
    have h3:=E _ (Et (f:=λo:Nat=>nE g c (dH g c) (iT c i.toNat) o) (i:=o.toNat) (by omega) (λj T=>Y j (by omega)) (by simp only[show((o.toNat:Nat):Int)=o by omega];exact q));rw[h3];exact⟨rfl,rfl⟩
   ·by_cases q:(k:Int)<z;·exact hz k q
    ·rw[show(k:Int)=z by omega];unfold pZ;rw[O];simp
   ·by_cases q:(k:Int)<o;·exact Y k q
    ·rw[show(k:Int)=o by omega];unfold nE;rw[if_neg G,if_neg (by rw[hb];simp)];exact JJ λj T=>hz j (by omega)
  ·by_cases q:(k:Int)<i;·exact hi k q
   ·rw[show k=i.toNat by omega];exact JJ λj T=>Y j (by omega)
 grind[jy]
def fu (n:Nat) (c:List Int):Prop:=c.Pairwise (·<·)/\∀x∈c,0<=x/\x<n
theorem SO {n:Nat}:∀{c:List Int} {a:Int},a<=n->c.Pairwise (·<·)->(∀x∈c,a<=x/\x<n)->(c.length:Int)<=n - a
 |[],a,e,_,_=>by simp;omega;|x::c,a,e,h,b=>by
  have f:=b x (by simp);rw[γx] at h;have:=@SO n c (x+1) (by omega) h.2 λy d=>⟨by grind,(b y (by simp[d])).2⟩;grind
theorem ym {n:Nat} {c:List Int} (h:fu n c):c.length<=n:=by
 have:=SO (n:=n) (a:=0) (by omega) h.1 h.2;omega
theorem JM {n:Nat} {c:List Int} (f:c.Nodup) (e:∀x∈c,0<=x/\x<n):fu n (fh c):=by
 refine⟨?_,λx i=>e x (Es.1 i)⟩;have g:(fh c).Pairwise (·<=·):=by
  have:=List.pairwise_mergeSort (le:=λx y:Int=>decide (x<=y)) (λa b d f e=>by grind) (λa b=>by simp;omega) c;exact this.imp λh=>of_decide_eq_true h
 have j:(fh c).Pairwise (·≠·):=(εz _ _).symm.nodup f;exact(g.and j).imp λh=>by omega
theorem Eu {n:Nat} {c:List Int} (h:fu n c):c.Nodup:=h.1.imp λh=>by omega
theorem SQ {c:List Int} {i:Nat}:(iT c i).Sublist c:=by
 unfold iT;rw[List.drop_add_one_eq_tail_drop];have:=(List.Sublist.refl (c.take i)).append (List.tail_sublist (c.drop i));simp_all
theorem yn {g:Game} {c t:List Int} (h:jy g c=some t) (d:fu g.offers.length c):nD g (dH g c) t=true/\fu g.offers.length t:=by
 obtain⟨i,l,h⟩:=δ0 h;obtain⟨o,m,h⟩:=δ0 h;rw[γp] at l m;have f:(iT c i).Nodup:=(Eu d).sublist SQ;have b:∀x∈iT c i,x∈c:=λx a=>SQ.subset a;unfold nE at h;split at h;·cases h
 ·rename_i p;split at h
  ·rename_i e;injection h with h;subst h;refine⟨e,JM ?_ λx a=>?_⟩;·grind
   ·rw[γu] at a;rcases a with a|a;·exact d.2 x (b x a)
    simp_all
  ·obtain⟨k,j,h⟩:=δ0 h;rw[γp] at j;unfold pZ at h;split at h;·cases h
   ·rename_i n;split at h
    ·rename_i e;injection h with h;subst h;refine⟨e,JM ?_ λx a=>?_⟩;·grind
     ·rw[γu] at a;rcases a with a|a;·exact d.2 x (b x a)
      grind
    ·cases h
def mA (g:Game):Nat->List Int->List Int
 |0,c=>c
 |n+1,c=>match jy g c with
  |some t=>mA g n t
  |none=>c
def kT (g:Game) (c:List Int):List Int:=mA g (1000000000 - dH g c).toNat c
theorem rN {g:Game} (a:uC g) {c:List Int} (h:fu g.offers.length c):0<=dH g c/\dH g c<=1000000000:=by
 have d:=JC (f:=λx=>(bp g.offers x.toNat bw.off.dflt).value) (c:=c) (k:=c.length) (m:=1000000) (by omega) λx b=>a.2 _ (dn (by have:=h.2 x b;omega));rw[χ] at d;have e:=ym h;have i:=a.1.1.2.2;grind[dH]
theorem acP {g:Game} (d:uC g):∀{n m:Nat} {c:List Int},fu g.offers.length c->(1000000000 - dH g c).toNat<=n->(1000000000 - dH g c).toNat<=m->mA g n c=mA g m c:=by
 intro n;induction n with
 |zero=>
  intro m c a k j;have h:=rN d a;cases m with
  |zero=>rfl;|succ m=>
   unfold mA;cases f:jy g c with
   |none=>rfl;|some t=>
    obtain⟨b,e⟩:=yn f a;have i:=rN d e;unfold nD at b;grind
 |succ n l=>
  intro m c a k j;have h:=rN d a;cases f:jy g c with
  |none=>
   cases m<;>grind[mA];|some t=>
   obtain⟨b,e⟩:=yn f a;have i:=rN d e;unfold nD at b;simp only[θ,decide_eq_true_eq] at b;cases m<;>grind[mA]
theorem acQ {g:Game} (d:uC g) {c t:List Int} (b:fu g.offers.length c) (h:jy g c=some t):kT g c=kT g t:=by
 obtain⟨a,e⟩:=yn h b;have f:=rN d b;have i:=rN d e;unfold nD at a;simp only[θ,decide_eq_true_eq] at a;unfold kT;rw[show(1000000000 - dH g c).toNat=((1000000000 - dH g c).toNat - 1)+1 by omega];grind[mA,acP]
theorem SR {g:Game} {c:List Int} (h:jy g c=none):kT g c=c:=by
 unfold kT;generalize (1000000000 - dH g c).toNat=n;cases n<;>grind[mA]
def acR (p:bz) (c:List Int):Prop:=bH p=0/\fu p.offers.length c
theorem SS {p:bz} (c:bH p=0):uC (cZ p):=by
 have a:=dR c;refine⟨SJ (by have:=a.2.1;omega),λo b=>?_⟩;have:=a.2.2.2.2 o b;omega
theorem JO {l:List Off}:∀{c:List Int} {a:Int}, -1<=a->(eF l a c).isSome=true->c.Pairwise (·<·)/\∀x∈c,a<x/\x<l.length
 |[],a,_,_=>⟨δM,by simp⟩
 |i::c,a,f,h=>by
  simp only[eF] at h;split at h;·simp at h
  ·rename_i g;rw[Option.isSome_map] at h;obtain⟨d,e⟩:=@JO l c i (by omega) h;refine⟨γx.2 ⟨λx b=>(e x b).1,d⟩,λx b=>?_⟩;grind
theorem sW {p:bz} {c:List Int} (h:cH p c=0):acR p c:=by
 unfold cH at h;split at h;·omega
 ·rename_i b;split at h;·cases h
  ·rename_i d;have a:=@JO p.offers c (-1) (by omega) (by grind[gp]);exact⟨γa.1 b,a.1,λx e=>by grind⟩
def gJ (p:bz) (c:List Int):Alloc:=if cH p c=0 then⟨kT (cZ p) c,dH (cZ p) (kT (cZ p) c)⟩ else⟨[],0⟩
def AW:bL:=⟨27,bz×Alloc,.cons dO (.one mf),λa=>a.2.chosen.length<=9223372036854775807,λa=>mf.put (gJ a.1 a.2.chosen)⟩
def acS (p:bz) (a:Alloc):Nat->cC
 |6=> .inv (List Int×List Int×Bool) (λx=>⟨[(4,.ptr 2 0 2),(5,.ptr 3 0 3),(6,.row (.i .i64) x.1),(7,.row (.i .i64) x.2.1),(8,.sb x.2.2)],[.cells p.ss 27 20 false,.cells [.row (.i .i64) a.chosen,.si .i64 a.value] 31 2 false,.cells [.sc (.slice none 0 0),.il .i64 0] 31 2 false,.cells (rM (cZ p)) 90 3 false]⟩)
   (λs=>(rS (.i .i64) s 6,rS (.i .i64) s 7,bS s 8)) (λx=>fu p.offers.length x.1/\(x.2.1=(jy (cZ p) x.1).getD []/\x.2.2=(jy (cZ p) x.1).isSome)/\kT (cZ p) x.1=kT (cZ p) a.chosen) (λx=>(1000000000 - dH (cZ p) x.1).toNat) λ_ _=> .look
 |_=> .look
theorem h315:Holds Tryz.prog AW:=by
 refine cq (L:=[ub,En,Ej,JK,yj]) AW (λa=>acS a.1 a.2) (by grind[h100,h325,h330,h331,h328]) ?_;rintro⟨p,⟨c,v⟩⟩ N;replace N:c.length<=9223372036854775807:=N;refine bQ (let a:=Ω .i64;let b:=Δ;let d:=bA.cells;let g:=(1000000000:Int);let h:=(0:Int);let m:=γn;let r:=γF;let O:=decide (cH p c≠h);let f:=bw.i .i64;let P:=[γo .i64 0];let R:=r [b f (gJ p c).chosen,a (gJ p c).value];let B:=γU 2 0 2;let C:=γU 3 0 3;let D:=(jy (cZ p) c).getD [];let E:=(jy (cZ p) c).isSome;let w:=d [a p.supply.a0,a p.supply.a1,a p.supply.a2,a p.supply.a3,a p.supply.a4,a p.supply.a5,a p.opn.a0,a p.opn.a1,a p.opn.a2,a p.opn.a3,a p.opn.a4,a p.opn.a5,a p.cls.a0,a p.cls.a1,a p.cls.a2,a p.cls.a3,a p.cls.a4,a p.cls.a5,b f p.classes,b bw.off p.offers] 27 20 false;let F:=d [b f c,a v] 31 2 false;let j:=d (SV.sc (Value.slice none 0 0)::P) 31 2 false;let k:=d [b f.bP (cZ p).rows,b f (cZ p).bounds,b bw.off (cZ p).offers] 90 3 false;let o:=p.offers.length;let l:=kT (cZ p) c;c.length<=9223372036854775807/\(O=true->(r (b f []::P)).same R)/\(O=false->True/\c.length<=1000000/\(uC (cZ p)/\c.length<=900/\∀(x:Int),x∈c->h<=x/\x<(↑(cZ p).offers.length:Int))/\(((B.same B/\C.same C/\(b f c).same (b f c)/\(b f D).same (b f D)/\(m E).same (m E)/\True)/\w.same w/\F.same F/\j.same j/\k.same k/\True)/\fu o c/\(D=D/\E=E)/\l=l)/\∀(x:List Int×List Int×Bool),let e:=jy (cZ p) x.snd.fst;let u:=b f (e.getD []);let q:=dH (cZ p) x.fst;fu o x.fst/\(x.snd.fst=(jy (cZ p) x.fst).getD []/\x.snd.snd=(jy (cZ p) x.fst).isSome)/\kT (cZ p) x.fst=l->(x.snd.snd=true->(uC (cZ p)/\x.snd.fst.length<=900/\∀(n:Int),n∈x.snd.fst->h<=n/\n<(↑(cZ p).offers.length:Int))/\((B.same B/\C.same C/\(b f x.snd.fst).same (b f x.snd.fst)/\u.same u/\(m e.isSome).same (m e.isSome)/\True)/\w.same w/\F.same F/\j.same j/\k.same k/\True)/\(fu o x.snd.fst/\(e.getD []=e.getD []/\e.isSome=e.isSome)/\kT (cZ p) x.snd.fst=l)/\(g - dH (cZ p) x.snd.fst).toNat<(g - q).toNat)/\(x.snd.snd=false->(nC (cZ p)/\pn (cZ p) x.fst/\pY (cZ p) x.fst)/\(r [b f x.fst,a q]).same R))) (by kernel_rfl) ?_;conv=>zeta
 try simp only[vcs]
 refine⟨by omega,λh=>by simp only[gJ,if_neg h];rfl,λh=>?_⟩;have M:cH p c=0:=γa.1 h;obtain⟨S,H⟩:=sW M;have m:=SS S;have T:=(dR S).2.1;have s:∀d,fu p.offers.length d->nC (cZ p)/\pn (cZ p) d/\pY (cZ p) d:=λd g=>by
  have r:=ym g;exact⟨m.1,⟨by omega,g.2⟩,λx U=>m.2 _ (dn (by have:=g.2 x U;show x.toNat<p.offers.length;omega))⟩
 have Q:=ym H;refine⟨by omega,⟨m,by omega,H.2⟩,H,?_⟩;rintro⟨d,t,b⟩ ⟨g,⟨A,G⟩,K⟩;simp only at g A G K ⊢;have Z:=ym g;refine⟨λJ=>?_,λI=>?_⟩
 ·rw[J] at G;obtain⟨t',z⟩:=Option.isSome_iff_exists.1 G.symm;rw[z] at A;simp only[Option.getD_some] at A;subst A;obtain⟨r,y⟩:=yn z g;have Y:=ym y;have V:t.length<=p.offers.length:=Y;have X:=rN m y;have W:=rN m (c:=d) g;unfold nD at r;simp only[θ,decide_eq_true_eq] at r;exact⟨⟨m,by omega,y.2⟩,⟨y,by rw[<-acQ m g z];exact K⟩,by omega⟩
 ·rw[I] at G;have z:jy (cZ p) d=none:=by
   simp_all
  refine⟨s d g,?_⟩;have r:kT (cZ p) c=d:=by grind[SR]
  simp only[gJ,if_pos M,r];rfl
theorem SU {l:List Off}:∀{c:List Int} {a:Int}, -1<=a->c.Pairwise (·<·)->(∀x∈c,a<x/\x<l.length)->eF l a c=some (c.map λx=>bp l x.toNat bw.off.dflt)
 |[],_,_,_,_=>rfl
 |i::c,a,f,h,d=>by
  rw[γx] at h;have e:=d i (by simp);simp only[eF];rw[if_neg (by omega),@SU l c i (by omega) h.2 λx b=>⟨h.1 x b,(d x (by simp[b])).2⟩];rfl
theorem Ew {p:bz} {c:List Int} (h:fu p.offers.length c):eF p.offers (-1) c=some (c.map (oI p)):=SU (by omega) h.1 λx a=>by have:=h.2 x a;omega
theorem JP {p:bz} (l:bH p=0) {c:List Int} (h:fu p.offers.length c):cH p c=0↔lv (cZ p) c=true:=by
 have k:=Ew h;have n:gp p c=true:=by grind[gp]
 have i:dy p c=c.map (oI p):=by grind[dy]
 have m:gd p (c.map (oI p))=lv (cZ p) c:=by
  have f:nR p=p.classes.length+12:=by simp_all[nR]
  have g:(cZ p).bounds.length=p.classes.length+12:=by show(kz p (nR p)).length=_;rw[Em,f]
  unfold gd lv;rw[g];have d:∀r:Nat,r<p.classes.length+12->bp (cZ p).bounds r 0=di p r/\my (cZ p) c r=cT p (c.map (oI p)) r:=λr j=>by
   refine⟨?_,?_⟩
   ·show bp (kz p (nR p)) r 0=_;grind[dj,kz]
   ·have a:bp (cZ p).rows r []=eM p r p.offers.length:=by
     show bp (mr p (nR p)) r []=_;grind[dj,mr]
    unfold my cT;rw[a,δn];congr 1;refine γV λx b=>?_;have:=h.2 x b;have e:x.toNat<p.offers.length:=by omega
    show bp (eM p r p.offers.length) x.toNat 0=dW p r (bp p.offers x.toNat bw.off.dflt);grind[dj,eM]
  grind
 simp_all[cH]
theorem acT {p:bz} (d:bH p=0) {c:List Int} (h:fu p.offers.length c):dJ p c=dH (cZ p) c:=by
 have a:dy p c=c.map (oI p):=by grind[dy,Ew]
 unfold dJ;rw[if_pos d,a];clear h a;induction c with
 |nil=>rfl;|cons x c b=>
  have e:dH (cZ p) (x::c)=(oI p x).value+dH (cZ p) c:=by simp[dH];rfl
  rw[e,<-b];rfl
theorem SX {g:Game} {n:Nat}:∀{l c:List Int},fu n c->l.Nodup->(∀x∈l,x∉c/\0<=x/\x<n)->fu n (l.foldl (stepG g) c)
 |[],c,b,_,_=>b
 |x::l,c,b,e,d=>by
  rw[γ1] at e;have i:=d x (by simp);have f:fu n (stepG g c x):=by
   unfold stepG;split
   ·refine JM ?_ λy a=>?_;·grind[Eu]
    ·rw[γu] at a;rcases a with a|a;·exact b.2 y a
     simp_all
   ·exact b
  show fu n (l.foldl (stepG g) (stepG g c x));refine SX f e.2 λy a=>⟨λh=>?_,(d y (by simp[a])).2⟩;grind[SK]
theorem acU {p:bz}:(gV p).Nodup:=by
 unfold gV;split;·exact(AB (D:=fJ p) (l:=dL p.offers.length)).symm.nodup (AL.imp λh=>by omega)
 simp_all
theorem acV {p:bz} {k:Nat}:fu p.offers.length (ov (cZ p) ((gV p).take k)):=
 SX ⟨δM,by simp⟩ (acU.sublist (List.take_sublist _ _)) λx a=>⟨by simp,(JG (γi a)).2⟩
theorem SY {l m:List Int} (h:l.Perm m):l.sum=m.sum:=by
 induction h<;>grind
theorem SZ {g:Game}:∀{l c:List Int},lv g c=true->lv g (l.foldl (stepG g) c)=true
 |[],c,h=>h
 |x::l,c,h=>by
  show lv g (l.foldl (stepG g) (stepG g c x))=true;refine SZ ?_;grind[stepG]
theorem acW {p:bz} (d:bH p=0):lv (cZ p) []=true:=by
 unfold lv;rw[ξ];intro r b;have a:r<(cZ p).bounds.length:=γp.1 b;have c:bp (cZ p).bounds r 0=di p r:=by
  show bp (kz p (nR p)) r 0=_;rw[dj (by exact a)];simp[kz]
 simp_all[AQ,my]
theorem acX {p:bz}:fu p.offers.length (jW p):=by
 have h:=@acV p (gV p).length;rw[χ] at h;exact h
theorem S0 {p:bz} (a:bH p=0):cH p (jW p)=0:=(JP a acX).2 (SZ (acW a))
theorem acY {g:Game} (i:uC g):∀{n:Nat} {c:List Int},fu g.offers.length c->lv g c=true->fu g.offers.length (mA g n c)/\lv g (mA g n c)=true/\dH g c<=dH g (mA g n c)/\((1000000000 - dH g c).toNat<=n->jy g (mA g n c)=none):=by
 intro n;induction n with
 |zero=>
  intro c a j;refine⟨a,j,Int.le_refl _,λh=>?_⟩;show jy g c=none;cases f:jy g c with
  |none=>rfl;|some t=>
   obtain⟨d,b⟩:=yn f a;have k:=rN i b;unfold nD at d;grind
 |succ n l=>
  intro c a j;cases f:jy g c with
  |none=>
   grind[mA];|some t=>
   have e:mA g (n+1) c=mA g n t:=by grind[mA]
   rw[e];obtain⟨d,b⟩:=yn f a;have k:=rN i b;unfold nD at d;grind
theorem JQ {p:bz} (a:bH p=0) {c:List Int} (b:cH p c=0):fu p.offers.length (gJ p c).chosen/\cH p (gJ p c).chosen=0/\dJ p (gJ p c).chosen=(gJ p c).value/\dJ p c<=(gJ p c).value/\gJ p (gJ p c).chosen=gJ p c:=by
 obtain⟨_,d⟩:=sW b;have h:=SS a;obtain⟨i,j,l,g⟩:=acY h (n:=(1000000000 - dH (cZ p) c).toNat) (c:=c) d ((JP a d).1 b);have e:gJ p c=⟨kT (cZ p) c,dH (cZ p) (kT (cZ p) c)⟩:=by simp_all[gJ]
 have f:cH p (kT (cZ p) c)=0:=(JP a i).2 j;have k:kT (cZ p) (kT (cZ p) c)=kT (cZ p) c:=SR (g (ψ _));simp_all[acT,gJ,kT,cZ]
def wed (c:Nat->Rat):(List Nat->Rat)->List Nat->Rat
 |_,[]=>0
 |f,i::R=>c i*f R - wed c (λl=>f (i::l)) R
theorem JR {c:Nat->Rat}:∀{R:List Nat},wed c (λ_=>0) R=0
 |[]=>rfl
 |i::R=>by simp only[wed,JR];grind
theorem JS {c:Nat->Rat} {p q:Rat}:∀{R:List Nat} {f g:List Nat->Rat},wed c (λl=>p*f l+q*g l) R=p*wed c f R+q*wed c g R
 |[],_,_=>by grind[wed];|i::R,f,g=>by
  simp only[wed,@JS c p q R];grind
theorem S1 {c d:Nat->Rat} {p q:Rat}:∀{R:List Nat} {f:List Nat->Rat},wed (λi=>p*c i+q*d i) f R=p*wed c f R+q*wed d f R
 |[],_=>by grind[wed];|i::R,f=>by
  simp only[wed,@S1 c d p q R];grind
theorem S3 {c:Nat->Rat} {p:Rat} {R:List Nat} {f g:List Nat->Rat}:wed c (λl=>p*f l - g l) R=p*wed c f R - wed c g R:=by
 have:=@JS c p (-1) R f g;grind
theorem JU {a b:Nat->Rat}:∀{R:List Nat} {f:List Nat->Rat},wed a (wed b f) R= - wed b (wed a f) R
 |[],_=>by grind[wed];|i::R,f=>by
  have d:wed a (λl=>wed b f (i::l)) R=b i*wed a f R - wed a (wed b λl=>f (i::l)) R:=S3;have c:wed b (λl=>wed a f (i::l)) R=a i*wed b f R - wed b (wed a λl=>f (i::l)) R:=S3;have h:=@JU a b R λl=>f (i::l);grind[wed]
theorem acZ {a:Nat->Rat} {f:List Nat->Rat}:wed a (wed a f)=λ_=>0:=by
 grind[JU]
def yo (R:List Nat):Rat:=if R=[] then 1 else 0
def jX (a:List (Nat->Rat)):List Nat->Rat:=a.foldr wed yo
theorem S4 {c:Nat->Rat} {a:List (Nat->Rat)}:jX (c::a)=wed c (jX a):=rfl
theorem S5 {a:Nat->Rat}:∀{b:List (Nat->Rat)} {f:List Nat->Rat},wed a (b.foldr wed (wed a f))=λ_=>0
 |[],f=>acZ
 |c::b,f=>by
  funext R;simp only[εV];rw[JU,@S5 a b f,JR];rfl
theorem fold_zero:∀{cs:List (Nat->Rat)},cs.foldr wed (λ_=>0)=λ_=>0
 |[]=>rfl
 |c::cs=>by
  rw[εV,fold_zero];grind[JR]
theorem S7 {a:Nat->Rat} {p m q:List (Nat->Rat)}:jX (p++a::(m++a::q))=λ_=>0:=by
 grind[jX,S5,fold_zero]
theorem S8 {p q:Rat}:∀{a:List (Nat->Rat)} {f g:List Nat->Rat} {R:List Nat},a.foldr wed (λl=>p*f l+q*g l) R=p*a.foldr wed f R+q*a.foldr wed g R
 |[],_,_,_=>rfl
 |c::a,f,g,R=>by
  simp only[εV];rw[<-JS];congr 1;funext l;exact S8
theorem S9 {c d:Nat->Rat} {p q:Rat} {a b:List (Nat->Rat)} {R:List Nat}:jX (a++(λi=>p*c i+q*d i)::b) R=p*jX (a++c::b) R+q*jX (a++d::b) R:=by
 unfold jX;simp only[List.foldr_append,εV];rw[<-S8];have e:wed (λi=>p*c i+q*d i) (ζT wed yo b)=λl=>p*wed c (ζT wed yo b) l+q*wed d (ζT wed yo b) l:=by
  grind[S1]
 rw[e]
def fi (M:Nat) (q:Rat):Prop:=∃z:Int,q=(z:Rat)/\z.natAbs<=M
theorem Ta {c:Nat->Rat} {M K:Nat}:∀{R:List Nat} {f:List Nat->Rat},(∀i∈R,fi M (c i))->(∀l,l.length+1=R.length->(∀i∈l,i∈R)->fi K (f l))->fi (R.length*(M*K)) (wed c f R)
 |[],_,_,_=>⟨0,by simp[wed],by simp⟩
 |i::R,f,e,g=>by
  simp only[wed,γy];obtain⟨y,q,h⟩:=@Ta c M K R (λl=>f (i::l)) (λj a=>e j (by simp[a])) λl n p=>g _ (by simp_all) λj a=>by
   grind
  obtain⟨u,o,b⟩:=e i (by simp);obtain⟨v,k,d⟩:=g R (by simp) λj a=>by simp[a]
  refine⟨u*v - y,?_,?_⟩;·simp_all
  ·have m:(u*v).natAbs<=M*K:=by
    rw[Int.natAbs_mul];exact Nat.mul_le_mul b d
   grind
def nG (M:Nat):Nat->Nat
 |0=>1
 |n+1=>(n+1)*(M*nG M n)
theorem Ey {M:Nat}:∀{cs:List (Nat->Rat)} {R:List Nat},cs.length=R.length->(∀c∈cs,∀i∈R,fi M (c i))->fi (nG M R.length) (jX cs R)
 |[],R,b,_=>by
  have:R=[]:=List.eq_nil_of_length_eq_zero (by simp_all);subst this;exact⟨1,by simp[jX,yo],by simp[nG]⟩;|c::cs,R,b,e=>by
  rw[S4];cases R with
  |nil=>simp at b;|cons i R=>
   simp only[γy,nG];refine Ta (e c (by simp)) λl a g=>?_;simp only[γy] at b a;rw[show R.length=l.length by omega];exact Ey (by omega) λd f j h=>e d (by simp[f]) j (g j h)
def yp (k:Nat):Nat->Rat:=λi=>if i=k then 1 else 0
theorem Tc {c:Nat->Rat}:∀{R:List Nat} {f:List Nat->Rat},(∀i∈R,c i=0)->wed c f R=0
 |[],_,_=>rfl
 |i::R,f,h=>by
  simp only[wed];rw[h i (by simp),Tc λj a=>h j (by simp[a])];grind
theorem Td:∀{R:List Nat},R.Nodup->jX (R.map yp) R=1
 |[],_=>by simp[jX,yo];|i::R,h=>by
  rw[γ1] at h;rw[φ,S4];simp only[wed];rw[Tc (c:=yp i) (R:=R) λj a=>by
   unfold yp;grind];rw[Td h.2];unfold yp;grind
def bV (n:Nat) (f:Nat->Rat):Rat:=match n with
 |0=>0
 |n+1=>bV n f+f n
theorem dM:∀{n:Nat} {f g:Nat->Rat},(∀i,i<n->f i=g i)->bV n f=bV n g
 |0,_,_,_=>rfl
 |n+1,f,g,h=>by simp only[bV];rw[dM λi a=>h i (by omega),h n (by omega)]
theorem yq:∀{n:Nat} {f g:Nat->Rat},bV n (λi=>f i+g i)=bV n f+bV n g
 |0,_,_=>by grind[bV];|n+1,f,g=>by simp only[bV];rw[yq];grind
theorem wh {c:Rat}:∀{n:Nat} {f:Nat->Rat},bV n (λi=>c*f i)=c*bV n f
 |0,_=>by grind[bV];|n+1,f=>by simp only[bV];rw[wh];grind
theorem iU:∀{n:Nat},bV n (λ_=>0)=0
 |0=>rfl
 |n+1=>by simp only[bV];rw[iU];grind
theorem wi {k:Nat} {x:Rat}:∀{n:Nat},bV n (λi=>if i=k then x else 0)=if k<n then x else 0
 |0=>by simp[bV];|n+1=>by
  simp only[bV];rw[wi];grind
theorem Ez {n k:Nat} {f:Nat->Rat} (h:k<n):bV n f=f k+bV n λi=>if i=k then 0 else f i:=by
 have a:=@wi k (f k) n;rw[if_pos h] at a;rw[<-a,<-yq];grind[dM]
theorem Tf {a b:List (Nat->Rat)} {R:List Nat} {y:Nat->Rat} {T:Nat->Nat->Rat}:∀{n:Nat},jX (a++(λi=>bV n λk=>y k*T k i)::b) R=bV n λk=>y k*jX (a++T k::b) R
 |0=>by
  have e:(λi:Nat=>bV 0 λk=>y k*T k i)=λi=>(0:Rat)*(λ_=>0) i+0*(λ_=>0) i:=by grind[bV]
  rw[e,S9];grind[bV];|n+1=>by
  have e:(λi:Nat=>bV (n+1) λk=>y k*T k i)=λi=>(1:Rat)*(λi=>bV n λk=>y k*T k i) i+y n*T n i:=by
   grind[bV]
  rw[e,S9,Tf];grind[bV]
theorem ac0 {C:List (Nat->Rat)} {R:List Nat} {y:Nat->Rat} {r:Nat} (f:r<C.length):jX (C.set r (λi=>bV C.length λk=>y k*(C.getD k (λ_=>0)) i)) R=y r*jX C R:=by
 have a:∀c:Nat->Rat,C.set r c=C.take r++c::C.drop (r+1):=λc=>by rw[εG,if_pos f]
 rw[a,Tf,Ez f];have m:∀k,k<C.length->(if k=r then(0:Rat) else y k*jX (C.take r++C.getD k (λ_=>0)::C.drop (r+1)) R)=0:=by
  intro k g;split;·rfl
  ·rename_i e;have o:jX (C.take r++C.getD k (λ_=>0)::C.drop (r+1)) R=0:=by
    have n:C.getD k (λ_=>0)=C[k]:=by simp_all
    rw[n];rcases Nat.lt_or_gt_of_ne e with h|h
    ·have j:C.take r=C.take k++C[k]::(C.drop (k+1)).take (r - (k+1)):=by
      have b:C[k]::C.drop (k+1)=C.drop k:=ζp g;obtain⟨d,rfl⟩:∃d,r=k+(d+1):=⟨r - (k+1),by omega⟩;rw[List.take_add,<-b,δ3,show k+(d+1) - (k+1)=d by omega]
     grind[S7]
    ·have j:C.drop (r+1)=(C.drop (r+1)).take (k - (r+1))++C[k]::C.drop (k+1):=by
      have b:C[k]::C.drop (k+1)=C.drop k:=ζp g;rw[b];have l:=List.take_append_drop (k - (r+1)) (C.drop (r+1));rw[List.drop_drop,show r+1+(k - (r+1))=k by omega] at l;exact l.symm
     rw[j,S7]
   simp_all
 rw[dM m,iU];have b:C.take r++C.getD r (λ_=>0)::C.drop (r+1)=C:=by
  simp_all
 rw[b];grind
structure Tb where
 cz:List (List Rat)
 bound:List Rat
 cost:List Rat
 value:Rat
 basic:List Int
 free:List Int
namespace Tb
def cf (t:Tb) (i j:Nat):Rat:=bp (bp t.cz i []) j 0
def bd (t:Tb) (i:Nat):Rat:=bp t.bound i 0
def cs (t:Tb) (j:Nat):Rat:=bp t.cost j 0
def bv (t:Tb) (i:Nat):Int:=bp t.basic i 0
def fv (t:Tb) (j:Nat):Int:=bp t.free j 0
structure WF (n m:Nat) (t:Tb):Prop where
 cz:t.cz.length=m
 row:∀i,i<m->(bp t.cz i []).length=n
 bound:t.bound.length=m
 cost:t.cost.length=n
 basic:t.basic.length=m
 free:t.free.length=n
def holds (n m:Nat) (t:Tb) (x:Int->Rat) (z:Rat):Prop:=
 (∀i,i<m->x (t.bv i)+bV n (λj=>t.cf i j*x (t.fv j))=t.bd i)/\z=t.value+bV n λj=>t.cs j*x (t.fv j)
end Tb
def kA (l:List Rat) (c:Nat) (p:List Rat):List Rat:=(Θ l.length).map λj=>if j=c then -(bp l c 0*bp p j 0) else bp l j 0 - bp l c 0*bp p j 0
def kU (l:List Rat) (c:Nat):List Rat:=(Θ l.length).map λj=>if j=c then 1 / bp l c 0 else bp l j 0*(1 / bp l c 0)
def fV (t:Tb) (r c:Nat):Tb where
 cz:=(Θ t.cz.length).map λi=>if i=r then kU (bp t.cz r []) c else kA (bp t.cz i []) c (kU (bp t.cz r []) c);bound:=(Θ t.bound.length).map λi=>if i=r then t.bd r*(1 / t.cf r c) else t.bd i - t.cf i c*(t.bd r*(1 / t.cf r c));cost:=kA t.cost c (kU (bp t.cz r []) c);value:=t.value+t.cs c*(t.bd r*(1 / t.cf r c));basic:=t.basic.set r (t.fv c);free:=t.free.set c (t.bv r)
theorem qN {a:Type} {f:Nat->a} {n i:Nat} {d:a} (h:i<n):bp ((Θ n).map f) i d=f i:=by
 grind[dj]
theorem iV {a:Type} {l:List a} {r i:Nat} {x d:a} (h:r<l.length):bp (l.set r x) i d=if i=r then x else bp l i d:=by
 unfold bp;grind
section
variable {n m:Nat} {t:Tb} {r c:Nat}
theorem Ti {l:List Rat}:(kU l c).length=l.length:=by simp[kU]
theorem EA {l p:List Rat}:(kA l c p).length=l.length:=by simp[kA]
theorem JV {l:List Rat} {j:Nat} (h:j<l.length):bp (kU l c) j 0=if j=c then 1 / bp l c 0 else bp l j 0*(1 / bp l c 0):=qN h
theorem EB {l p:List Rat} {j:Nat} (h:j<l.length):bp (kA l c p) j 0=if j=c then -(bp l c 0*bp p j 0) else bp l j 0 - bp l c 0*bp p j 0:=qN h
theorem Tj (h:t.WF n m):(fV t r c).WF n m where
 cz:=by simp[fV,h.cz]
 row i a:=by
  simp only[fV];rw[qN (by rw[h.cz];exact a)];split;·rename_i e;subst e;rw[Ti,h.row _ a]
  ·rw[EA,h.row _ a]
 bound:=by simp[fV,h.bound]
 cost:=by simp only[fV];rw[EA,h.cost]
 basic:=by simp[fV,h.basic]
 free:=by simp[fV,h.free]
theorem AX (h:t.WF n m) (b:r<m) (e:c<n) {i j:Nat} (d:i<m) (a:j<n):(fV t r c).cf i j=
  if i=r then(if j=c then 1 / t.cf r c else t.cf r j*(1 / t.cf r c)) else if j=c then -(t.cf i c*(1 / t.cf r c)) else t.cf i j - t.cf i c*(t.cf r j*(1 / t.cf r c)):=by
 unfold Tb.cf;simp only[fV];rw[qN (by rw[h.cz];exact d)];split;·rw[JV (by rw[h.row _ b];exact a)]
 ·rw[EB (by rw[h.row _ d];exact a)];rw[JV (by rw[h.row _ b];exact a)];simp_all
theorem EC (h:t.WF n m) {i:Nat} (a:i<m):(fV t r c).bd i=if i=r then t.bd r*(1 / t.cf r c) else t.bd i - t.cf i c*(t.bd r*(1 / t.cf r c)):=by
 show bp _ i 0=_;simp only[fV];rw[qN (by rw[h.bound];exact a)]
theorem Tm (h:t.WF n m) (b:r<m) {j:Nat} (a:j<n):(fV t r c).cs j=if j=c then -(t.cs c*(1 / t.cf r c)) else t.cs j - t.cs c*(t.cf r j*(1 / t.cf r c)):=by
 show bp _ j 0=_;simp only[fV];rw[EB (by rw[h.cost];exact a),JV (by rw[h.row _ b];exact a)];split;·rfl
 ·rfl
theorem JW (h:t.WF n m) (a:r<m) {i:Nat}:(fV t r c).bv i=if i=r then t.fv c else t.bv i:=iV (by rw[h.basic];exact a)
theorem JX (h:t.WF n m) (a:c<n) {j:Nat}:(fV t r c).fv j=if j=c then t.bv r else t.fv j:=iV (by rw[h.free];exact a)
theorem piv_holds (h:t.WF n m) (b:r<m) (k:c<n) (K:t.cf r c≠0) {x:Int->Rat} {z:Rat}:(fV t r c).holds n m x z↔t.holds n m x z:=by
 have d:∀f:Nat->Rat,bV n (λj=>f j*x (t.fv j))=f c*x (t.fv c)+bV n (λj=>if j=c then 0 else f j*x (t.fv j)):=λf=>Ez k;have e:∀f:Nat->Rat,bV n (λj=>f j*x ((fV t r c).fv j))=f c*x (t.bv r)+bV n (λj=>if j=c then 0 else f j*x (t.fv j)):=λf=>by
  rw[Ez k,JX h k,if_pos rfl];congr 1;refine dM λj _=>?_;split;·rfl
  ·rename_i p;rw[JX h k,if_neg p]
 have I:bV n (λj=>if j=c then 0 else(fV t r c).cf r j*x (t.fv j))=(1 / t.cf r c)*bV n (λj=>if j=c then 0 else t.cf r j*x (t.fv j)):=by
  rw[<-wh];refine dM λj p=>?_;split;·grind
  ·rename_i l;rw[AX h b k b p,if_pos rfl,if_neg l];grind
 have E:∀f g:Nat->Rat,∀q:Rat,(∀j,j<n->j≠c->g j=f j - q*(t.cf r j*(1 / t.cf r c)))->bV n (λj=>if j=c then 0 else g j*x (t.fv j))=bV n (λj=>if j=c then 0 else f j*x (t.fv j))+(-(q*(1 / t.cf r c)))*bV n (λj=>if j=c then 0 else t.cf r j*x (t.fv j)):=λf g q L=>by
  rw[<-wh,<-yq];refine dM λj p=>?_;grind
 have J:∀j,j<n->j≠c->(fV t r c).cs j=t.cs j - t.cs c*(t.cf r j*(1 / t.cf r c)):=λj p l=>by rw[Tm h b p,if_neg l]
 have B:∀i,i<m->i≠r->∀j,j<n->j≠c->(fV t r c).cf i j=t.cf i j - t.cf i c*(t.cf r j*(1 / t.cf r c)):=λi o a j p l=>by rw[AX h b k o p,if_neg a,if_neg l]
 have G:=E t.cs _ _ J;have v:=Tm (c:=c) h b k;rw[if_pos rfl] at v;have s:=AX h b k b k;rw[if_pos rfl,if_pos rfl] at s;have w:=EC (r:=r) (c:=c) h b;rw[if_pos rfl] at w;have u:=JW (c:=c) (i:=r) h b;rw[if_pos rfl] at u;have H:(fV t r c).value=t.value+t.cs c*(t.bd r*(1 / t.cf r c)):=rfl;unfold Tb.holds;constructor
 ·rintro⟨A,F⟩;have C:=A r b;rw[e,I,s,u,w] at C;refine⟨λi o=>?_,?_⟩
  ·by_cases a:i=r
   ·subst a;rw[d];grind
   ·have D:=A i o;have y:=AX h b k o k;rw[if_neg a,if_pos rfl] at y;rw[e,E _ _ _ (B i o a),JW h b,if_neg a,EC h o,if_neg a,y] at D;rw[d];grind
  ·rw[e,G,v,H] at F;rw[d];grind
 ·rintro⟨A,F⟩;have C:=A r b;rw[d] at C;refine⟨λi o=>?_,?_⟩
  ·by_cases a:i=r
   ·subst a;rw[e,I,s,u,w];grind
   ·have D:=A i o;have y:=AX h b k o k;rw[if_neg a,if_pos rfl] at y;rw[e,E _ _ _ (B i o a),JW h b,if_neg a,EC h o,if_neg a,y];rw[d] at D;grind
  ·rw[e,G,v,H];rw[d] at F;grind
end
def mB (f:Int->Rat):List Int->Rat
 |[]=>0
 |x::l=>f x+mB f l
theorem AY {f:Int->Rat}:∀{l k:List Int},mB f (l++k)=mB f l+mB f k
 |[],k=>by grind[mB];|x::l,k=>by simp only[List.cons_append,mB,@AY f l k];grind
theorem JY {f:Int->Rat} {l k:List Int} (h:l.Perm k):mB f l=mB f k:=by
 induction h<;>grind[mB,swap,trans]
theorem Tn:∀{n:Nat} {f:Nat->Rat},bV (n+1) f=f 0+bV n λi=>f (i+1)
 |0,f=>by grind[bV];|n+1,f=>by
  rw[bV,Tn];grind[bV]
theorem qO {f:Int->Rat}:∀{l:List Int},mB f l=bV l.length λk=>f (bp l k 0)
 |[]=>rfl
 |x::l=>by
  rw[γy,Tn,mB,qO];rfl
def jz (n:Nat) (t:Tb) (y:Nat->Rat) (v:Int):Rat:=if v∈t.free then y (t.free.idxOf v) else t.bd (t.basic.idxOf v) - bV n λj=>t.cf (t.basic.idxOf v) j*y j
section
variable {n m:Nat} {t t0:Tb} {r c:Nat}
theorem po {l:List Int} {i:Nat} (h:l.Nodup) (a:i<l.length):l.idxOf (bp l i 0)=i:=by
 grind[dj]
theorem mT (h:t.WF n m) (c:(t.basic++t.free).Nodup) {y:Nat->Rat} {j:Nat} (a:j<n):jz n t y (t.fv j)=y j:=by
 have b:j<t.free.length:=by rw[h.free];exact a
 unfold jz Tb.fv;rw[if_pos (by grind[dj]),po (γt.1 c).2.1 b]
theorem JZ (h:t.WF n m) (b:(t.basic++t.free).Nodup) {i:Nat} (a:i<m):t.bv i∉t.free:=λc=>by
 have d:i<t.basic.length:=by rw[h.basic];exact a
 grind[Tb.bv,dj]
theorem nH (h:t.WF n m) (a:(t.basic++t.free).Nodup) {y:Nat->Rat} {i:Nat} (c:i<m):jz n t y (t.bv i)=t.bd i - bV n λj=>t.cf i j*y j:=by
 have b:i<t.basic.length:=by rw[h.basic];exact c
 have e:t.basic.idxOf (t.bv i)=i:=po (γt.1 a).1 b;unfold jz;grind
theorem asg_holds (h:t.WF n m) (a:(t.basic++t.free).Nodup) {y:Nat->Rat}:t.holds n m (jz n t y) (t.value+bV n λj=>t.cs j*y j):=by
 have e:∀f:Nat->Rat,bV n (λj=>f j*jz n t y (t.fv j))=bV n λj=>f j*y j:=λf=>dM λj c=>by grind[mT]
 refine⟨λi b=>?_,?_⟩
 ·rw[nH h a b,e];grind
 ·rw[e]
def fW (m:Nat) (a:Tb) (v:Int) (i:Nat):Rat:=if i<m then(if v∈a.free then a.cf i (a.free.idxOf v) else if a.basic.idxOf v=i then 1 else 0) else 0
def yr (m:Nat) (a:Tb) (i:Nat):Rat:=if i<m then a.bd i else 0
def jA (m:Nat) (a t:Tb):Rat:=jX (t.basic.map (fW m a)) (Θ m)
structure Run (n m:Nat) (t0 t:Tb):Prop where
 ox:t0.WF n m
 wf:t.WF n m
 nd:(t0.basic++t0.free).Nodup
 perm:(t.basic++t.free).Perm (t0.basic++t0.free)
 mU:∀x z,t.holds n m x z↔t0.holds n m x z
 dt:jA m t0 t≠0
theorem Run.gq (h:Run n m t0 t):(t.basic++t.free).Nodup:=h.perm.symm.nodup h.nd
theorem Run.refl (h:t0.WF n m) (a:(t0.basic++t0.free).Nodup):Run n m t0 t0:=by
 refine⟨h,h,a,List.Perm.refl _,λ_ _=>Iff.rfl,?_⟩;have e:t0.basic.map (fW m t0)=(Θ m).map yp:=by
  refine List.ext_getElem (by simp[h.basic]) λi g d=>?_;simp only[List.getElem_map,List.getElem_range];have f:i<m:=by simp_all
  have b:t0.basic[i]'(by simp_all)=t0.bv i:=by grind[Tb.bv,dj]
  rw[b];funext k;have c:t0.basic.idxOf (t0.bv i)=i:=po (γt.1 a).1 (by grind);unfold fW yp;grind
 grind[jA,Td]
theorem Run.rows (h:Run n m t0 t) {x:Int->Rat} {z:Rat} (l:t.holds n m x z) {i:Nat}:bV m (λk=>fW m t0 (t.bv k) i*x (t.bv k))+bV n (λj=>fW m t0 (t.fv j) i*x (t.fv j))=yr m t0 i:=by
 have b:∀t:Tb,t.WF n m->mB (λv=>fW m t0 v i*x v) (t.basic++t.free)=bV m (λk=>fW m t0 (t.bv k) i*x (t.bv k))+bV n (λj=>fW m t0 (t.fv j) i*x (t.fv j)):=λt f=>by
  rw[AY,qO,qO,f.basic,f.free];rfl
 rw[<-b t h.wf,JY h.perm,b t0 h.ox];have p:=(h.mU x z).1 l;unfold yr;by_cases a:i<m
 ·rw[if_pos a,<-p.1 i a];congr 1
  ·have e:bV m (λk=>fW m t0 (t0.bv k) i*x (t0.bv k))=bV m λk=>if k=i then x (t0.bv i) else 0:=dM λk d=>by
    have c:t0.basic.idxOf (t0.bv k)=k:=po (γt.1 h.nd).1 (by rw[h.ox.basic];exact d);unfold fW;rw[if_pos a,if_neg (JZ h.ox h.nd d),c];grind
   rw[e,wi,if_pos a]
  ·refine dM λj g=>?_;have o:j<t0.free.length:=by rw[h.ox.free];exact g
   unfold fW;rw[if_pos a,if_pos (by grind[Tb.fv,dj])];have c:t0.free.idxOf (t0.fv j)=j:=po (γt.1 h.nd).2.1 o;rw[c]
 ·rw[if_neg a];have e:∀v,fW m t0 v i=0:=λv=>by simp_all[fW,if_neg]
  simp only[e];grind[iU]
theorem Run.Tq (h:Run n m t0 t):yr m t0=λi=>bV m λk=>t.bd k*fW m t0 (t.bv k) i:=by
 funext i;have a:=h.rows (i:=i) (asg_holds h.wf h.gq (y:=λ_=>0));rw[<-a,dM (n:=n) (g:=λ_=>0) λj c=>by rw[mT h.wf h.gq c];grind,iU,dM (n:=m) (g:=λk=>t.bd k*fW m t0 (t.bv k) i) λk b=>by
  rw[nH h.wf h.gq b,dM (g:=λ_=>0) λj _=>by grind,iU];grind];grind
theorem Run.ac1 (h:Run n m t0 t) {c:Nat} (a:c<n):fW m t0 (t.fv c)=λi=>bV m λk=>t.cf k c*fW m t0 (t.bv k) i:=by
 funext i;have f:=congrFun h.Tq i;have b:=h.rows (i:=i) (asg_holds h.wf h.gq (y:=λj=>if j=c then 1 else 0));rw[dM (n:=n) (g:=λj=>if j=c then fW m t0 (t.fv c) i else 0) λj e=>by
  rw[mT h.wf h.gq e];grind,wi,if_pos a,dM (n:=m) (g:=λk=>t.bd k*fW m t0 (t.bv k) i+(-1)*(t.cf k c*fW m t0 (t.bv k) i)) λk d=>by
   rw[nH h.wf h.gq d,dM (g:=λj=>if j=c then t.cf k c else 0) λj _=>by
    grind,wi,if_pos a];grind,yq,wh] at b;grind
theorem getD_map {l:List Int} {f:Int->Nat->Rat} {k:Nat} (h:k<l.length):(l.map f).getD k (λ_=>0)=f (bp l k 0):=by
 grind[dj]
theorem Run.Tt (h:Run n m t0 t) {y:Nat->Rat} {r:Nat} (d:r<m):jX ((t.basic.map (fW m t0)).set r λi=>bV m λk=>y k*fW m t0 (t.bv k) i) (Θ m)=y r*jA m t0 t:=by
 have b:(t.basic.map (fW m t0)).length=m:=by rw[γT,h.wf.basic]
 have a:=@ac0 (t.basic.map (fW m t0)) (Θ m) y r (by omega);unfold jA;rw[<-a,b];congr 2;funext i;refine dM λk c=>?_;rw[getD_map (by simp_all)];rfl
theorem Run.Tv (h:Run n m t0 t) {r c:Nat} (a:r<m) (b:c<n):jX ((t.basic.map (fW m t0)).set r (fW m t0 (t.fv c))) (Θ m)=t.cf r c*jA m t0 t:=by
 rw[h.ac1 b];exact h.Tt (y:=λk=>t.cf k c) a
theorem Run.ac2 (h:Run n m t0 t) {r:Nat} (a:r<m):jX ((t.basic.map (fW m t0)).set r (yr m t0)) (Θ m)=t.bd r*jA m t0 t:=by
 rw[h.Tq];exact h.Tt (y:=t.bd) a
theorem set_perm {l:List Int} {r:Nat} {x:Int} (a:r<l.length):(l.set r x).Perm (x::(l.take r++l.drop (r+1))):=by
 rw[εG,if_pos a];simp_all
theorem ac3 {l:List Int} {r:Nat} (a:r<l.length):(l[r]::(l.take r++l.drop (r+1))).Perm l:=by
 have h:=@set_perm l r l[r] a;grind
theorem swap_perm {l k:List Int} {r c:Nat} (a:r<l.length) (b:c<k.length):(l.set r (bp k c 0)++k.set c (bp l r 0)).Perm (l++k):=by
 grind[dj]
theorem Run.piv (h:Run n m t0 t) {r c:Nat} (a:r<m) (b:c<n) (d:t.cf r c≠0):Run n m t0 (fV t r c) where
 ox:=h.ox;wf:=Tj h.wf;nd:=h.nd;perm:=(swap_perm (by rw[h.wf.basic];exact a) (by rw[h.wf.free];exact b)).trans h.perm;mU x z:=(piv_holds h.wf a b d).trans (h.mU x z);dt:=by
  have e:jA m t0 (fV t r c)=t.cf r c*jA m t0 t:=by
   rw[<-h.Tv a b];unfold jA;congr 1;show(t.basic.set r (t.fv c)).map (fW m t0)=_;simp_all
  rw[e];have:=h.dt;grind
theorem ED {M:Nat} (d:1<=M) (c:∀i j,i<m->j<n->fi M (t0.cf i j)) (a:t0.WF n m) {v:Int} {i:Nat}:fi M (fW m t0 v i):=by
 unfold fW;split
 ·split
  ·rename_i b e;exact c _ _ b (by rw[<-a.free];grind)
  ·split;·exact⟨1,by simp,by omega⟩
   ·exact⟨0,by simp,by simp⟩
 ·exact⟨0,by simp,by simp⟩
theorem mem_set {C:List (Nat->Rat)} {r:Nat} {c d:Nat->Rat} (h:d∈C.set r c):d∈C\/d=c:=List.mem_or_eq_of_mem_set h
theorem Run.ac4 (h:Run n m t0 t) {M:Nat} (a:1<=M) (c:∀i j,i<m->j<n->fi M (t0.cf i j)):fi (nG M m) (jA m t0 t):=by
 have:=@Ey M (t.basic.map (fW m t0)) (Θ m) (by simp[h.wf.basic]) λd b i _=>by
  obtain⟨v,_,rfl⟩:=γf.1 b;exact ED a c h.ox
 rwa [List.length_range] at this
theorem Run.cfZ (h:Run n m t0 t) {M:Nat} (e:1<=M) (b:∀i j,i<m->j<n->fi M (t0.cf i j)) {r c:Nat} (f:r<m) (g:c<n):fi (nG M m) (t.cf r c*jA m t0 t):=by
 rw[<-h.Tv f g];have:=@Ey M ((t.basic.map (fW m t0)).set r (fW m t0 (t.fv c))) (Θ m) (by simp[h.wf.basic]) λd a i _=>by
  rcases mem_set a with a|rfl
  ·obtain⟨v,_,rfl⟩:=γf.1 a;exact ED e b h.ox
  ·exact ED e b h.ox
 simp_all
theorem Run.bdZ (h:Run n m t0 t) {M:Nat} (b:1<=M) (c:∀i j,i<m->j<n->fi M (t0.cf i j)) (f:∀i,i<m->fi M (t0.bd i)) {r:Nat} (e:r<m):fi (nG M m) (t.bd r*jA m t0 t):=by
 rw[<-h.ac2 e];have:=@Ey M ((t.basic.map (fW m t0)).set r (yr m t0)) (Θ m) (by simp[h.wf.basic]) λd a i g=>by
  rcases mem_set a with a|rfl
  ·obtain⟨v,_,rfl⟩:=γf.1 a;exact ED b c h.ox
  simp_all[yr]
 simp_all
end
structure qP (n m:Nat) (t:Tb) (r c:Nat):Prop where
 hr:r<m
 hc:c<n
 cost:0<t.cs c
 least:∀j,j<n->0<t.cs j->t.fv c<=t.fv j
 pos:0<t.cf r c
 ratio:∀i,i<m->0<t.cf i c->t.bd r / t.cf r c<t.bd i / t.cf i c\/(t.bd r / t.cf r c=t.bd i / t.cf i c/\t.bv r<=t.bv i)
def kB (m:Nat) (t:Tb):Prop:=∀i,i<m->0<=t.bd i
section
variable {n m:Nat} {t t0:Tb} {r c:Nat}
theorem AZ (a b:Rat):a<=b\/b<a:=(Classical.em (a<=b)).imp id Rat.not_le.1
theorem div_mul {a b:Rat} (h:0<b):a / b*b=a:=by
 grind
theorem inv_pos {b:Rat} (h:0<b):0<1 / b:=by
 have c:(1 / b)*b=1:=div_mul h;rcases AZ (1 / b) 0 with a|a
 ·exfalso;have d:0<=(-(1 / b))*b:=δz (by grind) (by grind);grind
 ·exact a
theorem Tz {a b:Rat} (c:0<=a) (h:0<b):0<=a / b:=by
 grind[δz,inv_pos]
theorem qP.ge (h:qP n m t r c) (a:kB m t):0<=t.bd r / t.cf r c:=Tz (a r h.hr) h.pos
theorem qP.yt (h:qP n m t r c) (k:t.WF n m) (d:kB m t):kB m (fV t r c):=by
 intro i a;have f:=h.ge d;have e:t.bd r*(1 / t.cf r c)=t.bd r / t.cf r c:=by grind
 rw[EC k a,e];split;·exact f
 ·rcases AZ (t.cf i c) 0 with b|b
  ·have j:0<=(-(t.cf i c))*(t.bd r / t.cf r c):=δz (by grind) f;have:=d i a;grind
  ·have j:t.bd r / t.cf r c<=t.bd i / t.cf i c:=by
    rcases h.ratio i a b with g|g<;>grind
   have g:0<=t.cf i c*(t.bd i / t.cf i c - t.bd r / t.cf r c):=δz (by grind) (by grind);grind[div_mul]
theorem qP.value:(fV t r c).value=t.value+t.cs c*(t.bd r / t.cf r c):=by
 show t.value+t.cs c*(t.bd r*(1 / t.cf r c))=_;grind
theorem J0 {b:Type}:∀(L:List b) (f:Nat->b),(∀k,f k∈L)->∃i j,i<j/\f i=f j
 |[],f,h=>by simp_all;|a::L,f,h=>by
  by_cases c:∃i,f i=a
  ·obtain⟨i,g⟩:=c;by_cases e:∃j,i<j/\f j=a;·grind
   ·obtain⟨x,y,d,l⟩:=J0 L (λk=>f (k+i+1)) λk=>by
     grind
    grind
  ·exact J0 L f λk=>by
    simp_all
def A4 (V:List Int):Nat->List (List Int)
 |0=>[[]]
 |k+1=>(A4 V k).flatMap λl=>V.map λv=>v::l
theorem TA {V:List Int}:∀{l:List Int},(∀v∈l,v∈V)->l∈A4 V l.length
 |[],_=>by simp[A4];|x::l,h=>by
  simp only[γy,A4,List.mem_flatMap,γf];exact⟨l,TA λv a=>h v (by simp[a]),x,h x (by simp),rfl⟩
theorem ac7 {l:List Int} {r:Nat} {x v:Int} (a:r<l.length) (b:l.Nodup):v∈l.set r x↔v=x\/(v∈l/\v≠bp l r 0):=by
 grind[set_perm,dj,ac3]
theorem TB {f:Nat->Int} {i:Nat}:∀{d:Nat},∃k,(i<=k/\k<=i+d)/\∀x,i<=x->x<=i+d->f x<=f k
 |0=>⟨i,by omega,λx a b=>by grind⟩
 |d+1=>by
  obtain⟨k,a,b⟩:=@TB f i d;by_cases h:f k<=f (i+(d+1))
  ·refine⟨i+(d+1),by omega,λx c e=>?_⟩;grind
  ·refine⟨k,by omega,λx c e=>?_⟩;grind
theorem TC:∀{n:Nat} {f:Nat->Rat},0<bV n f->∃j,j<n/\0<f j
 |0,f,h=>by grind[bV];|n+1,f,h=>by
  rcases AZ (f n) 0 with a|a
  ·obtain⟨j,c,b⟩:=@TC n f (by grind[bV]);grind
  grind
theorem wj (h:t.WF n m) {j:Nat} (a:j<n):t.fv j∈t.free:=by
 have b:j<t.free.length:=by rw[h.free];exact a
 grind[Tb.fv,dj]
theorem A5 (h:t.WF n m) {j:Nat} (a:j<m):t.bv j∈t.basic:=by
 have b:j<t.basic.length:=by rw[h.basic];exact a
 grind[Tb.bv,dj]
theorem wm (h:t.WF n m) {v:Int} (b:v∈t.free):∃j,j<n/\t.fv j=v:=by
 obtain⟨j,a,rfl⟩:=γB b;exact⟨j,by rw[<-h.free];exact a,by grind[Tb.fv,dj]⟩
theorem yu (h:t.WF n m) {v:Int} (b:v∈t.basic):∃j,j<m/\t.bv j=v:=by
 obtain⟨j,a,rfl⟩:=γB b;exact⟨j,by rw[<-h.basic];exact a,by grind[Tb.bv,dj]⟩
theorem J1 (c:(t.basic++t.free).Nodup) {v:Int} (a:v∈t.basic) (b:v∈t.free):False:=(γt.1 c).2.2 _ a _ b rfl
theorem ac8 (h:t.WF n m) (c:(t.basic++t.free).Nodup) {i j:Nat} (f:i<m) (d:j<m) (e:t.bv i=t.bv j):i=j:=by
 have a:=po (γt.1 c).1 (show i<t.basic.length by rw[h.basic];exact f);have b:=po (γt.1 c).1 (show j<t.basic.length by rw[h.basic];exact d);grind[Tb.bv]
theorem ac9 (h:t.WF n m) (c:(t.basic++t.free).Nodup) {i j:Nat} (f:i<n) (d:j<n) (e:t.fv i=t.fv j):i=j:=by
 have a:=po (γt.1 c).2.1 (show i<t.free.length by rw[h.free];exact f);have b:=po (γt.1 c).2.1 (show j<t.free.length by rw[h.free];exact d);grind[Tb.fv]
theorem ada {T:Nat->Tb} {r c:Nat->Nat} (p:∀k,Run n m t0 (T k)) (hF:∀k,kB m (T k)) (B:∀k,qP n m (T k) (r k) (c k)) (hT:∀k,T (k+1)=fV (T k) (r k) (c k)) {i j:Nat} (b8:i<j) (hb:(T i).basic=(T j).basic) (hf:(T i).free=(T j).free):False:=by
 have b7:(T i).value=(T j).value:=by
  have t:=((p j).mU _ _).2 (((p i).mU _ _).1 (asg_holds (p i).wf (p i).gq (y:=λ_=>0)));have e1:bV n (λk=>(T i).cs k*(λ_=>(0:Rat)) k)=0:=by grind[iU]
  have e2:bV n (λk=>(T j).cs k*jz n (T i) (λ_=>0) ((T j).fv k))=0:=by
   rw[dM (g:=λ_=>0) λk hk=>by
    have:(T j).fv k=(T i).fv k:=by grind[Tb.fv]
    rw[this,mT (p i).wf (p i).gq hk];grind,iU]
  have K:=t.2;grind
 have L:∀k,(T k).value<=(T (k+1)).value:=λk=>by
  rw[hT k,qP.value];have:=δz (a:=(T k).cs (c k)) (by have:=(B k).cost;grind) ((B k).ge (hF k));grind
 have S:∀d a,(T a).value<=(T (a+d)).value:=λd=>by
  induction d<;>grind
 have H:∀k,i<=k->k<j->(T k).bd (r k)=0:=λk t K=>by
  have a1:=S (k - i) i;have a2:=S (j - (k+1)) (k+1);rw[show i+(k - i)=k by omega] at a1;rw[show k+1+(j - (k+1))=j by omega] at a2;have a3:=L k;rw[hT k] at a2 a3;rw[qP.value] at a2 a3;have h3:=(B k).ge (hF k);have hc:=(B k).cost;have h4:=@div_mul ((T k).bd (r k)) _ (B k).pos;grind[Rat.mul_eq_zero]
 have b6:∀k,i<=k->k<j->∀v,v∈(T k).basic++(T k).free->jz n (T (k+1)) (λ_=>0) v=jz n (T k) (λ_=>0) v:=λk t K v O=>by
  have hw:=(p k).wf;have G:=(p (k+1)).wf;have hx:=((p (k+1)).mU _ _).2 (((p k).mU _ _).1 (asg_holds hw (p k).gq (y:=λ_=>0)));have hz:∀q,q<n->jz n (T k) (λ_=>0) ((T (k+1)).fv q)=0:=λq s=>by
   rw[hT k,JX hw (B k).hc];split
   ·rw[nH hw (p k).gq (B k).hr,H k t K,dM (g:=λ_=>0) λj _=>by grind,iU];grind
   ·rw[mT hw (p k).gq s]
  have A:v∈(T (k+1)).basic++(T (k+1)).free:=((p (k+1)).perm.trans (p k).perm.symm).mem_iff.2 O;rcases γu.1 A with A|A
  ·obtain⟨q,s,rfl⟩:=yu G A;have:=hx.1 q s;rw[dM (g:=λ_=>0) λj hj=>by simp_all,iU] at this;rw[nH G (p (k+1)).gq s,dM (g:=λ_=>0) λj _=>by grind,iU];grind
  ·obtain⟨q,s,rfl⟩:=wm G A;rw[hz q s,mT G (p (k+1)).gq s]
 have w:∀a b v,v∈(T a).basic++(T a).free->v∈(T b).basic++(T b).free:=λa b v O=>((p b).perm.trans (p a).perm.symm).mem_iff.2 O;have W:∀d a,i<=a->a+d<=j->∀v,v∈(T a).basic++(T a).free->jz n (T (a+d)) (λ_=>0) v=jz n (T a) (λ_=>0) v:=λd=>by
  induction d<;>grind
 have hA:∀a b,i<=a->a<=j->i<=b->b<=j->∀v,v∈(T a).basic++(T a).free->jz n (T a) (λ_=>0) v=jz n (T b) (λ_=>0) v:=λa b t K h3 h4 v O=>by
  have e1:=W (a - i) i (by omega) (by omega) v (w _ _ v O);have e2:=W (b - i) i (by omega) (by omega) v (w _ _ v O);simp_all
 have P:∀k v,v∈(T (k+1)).basic↔v=(T k).fv (c k)\/(v∈(T k).basic/\v≠(T k).bv (r k)):=λk v=>by
  rw[hT k];exact ac7 (by rw[(p k).wf.basic];exact(B k).hr) (γt.1 (p k).gq).1
 have U:∀v a b,i<=a->a<=j->i<=b->b<=j->v∈(T a).basic->v∉(T b).basic->∃k,i<=k/\k<j/\(T k).fv (c k)=v:=λv a b a1 a2 b1 b2 ha a9=>by
  apply δZ;intro Y;have I:∀d x,i<=x->x+d<=j->v∈(T (x+d)).basic->v∈(T x).basic:=λd=>by
   induction d<;>grind
  have t:=I (a - i) i (by omega) (by omega) (by simp_all);rw[hb] at t;exact a9 (I (j - b) b (by omega) (by omega) (by simp_all))
 obtain⟨l,⟨a6,b9⟩,a0⟩:=@TB (λk=>(T k).fv (c k)) i (j - 1 - i);have J:∀x,i<=x->x<j->(T x).fv (c x)<=(T l).fv (c l):=λx t K=>a0 x t (by omega);have c2:l<j:=by omega
 have a7:(T l).fv (c l)∈(T l).free:=wj (p l).wf (B l).hc;have c0:(T l).fv (c l)∉(T l).basic:=λh=>J1 (p l).gq h a7;obtain⟨o,F,Q,hl⟩:∃o,i<=o/\o<j/\(T o).bv (r o)=(T l).fv (c l):=by
  apply δZ;intro Y;have up:∀d x,i<=x->x+d<=j->(T l).fv (c l)∈(T x).basic->(T l).fv (c l)∈(T (x+d)).basic:=λd=>by
   induction d with
   |zero=>intro x _ _ h;exact h;|succ d ih=>
    intro x t K h;exact(P (x+d) _).2 (.inr ⟨ih x t (by omega) h,λe=>Y ⟨x+d,by omega,by omega,e.symm⟩⟩)
  have t:=up (j - (l+1)) (l+1) (by omega) (by omega) ((P l _).2 (.inl rfl));rw[show l+1+(j - (l+1))=j by omega,<-hb] at t;have K:=up (l - i) i (by omega) (by omega) t;simp_all
 have w1:=(p l).wf;have C:=(p o).wf;have n1:=(p l).gq;have E:=(p o).gq;have p1:=B l;have N:=B o;have x1:=(((p l).mU _ _).2 (((p o).mU _ _).1 (asg_holds C E (y:=λq=>if q=c o then 1 else 0)))).2;have x0:=(((p l).mU _ _).2 (((p o).mU _ _).1 (asg_holds C E (y:=λ_=>0)))).2;rw[dM (f:=λq=>(T o).cs q*(λq=>if q=c o then(1:Rat) else 0) q) (g:=λq=>if q=c o then(T o).cs (c o) else 0) λq _=>by
  by_cases s:q=c o<;>grind,wi,if_pos N.hc] at x1;rw[dM (f:=λq=>(T o).cs q*(λ_=>(0:Rat)) q) (g:=λ_=>0) λq _=>by grind,iU] at x0;have hd:0<bV n λq=>(T l).cs q*(jz n (T o) (λq=>if q=c o then 1 else 0) ((T l).fv q) - jz n (T o) (λ_=>0) ((T l).fv q)):=by
  rw[dM (g:=λq=>(T l).cs q*jz n (T o) (λq=>if q=c o then 1 else 0) ((T l).fv q)+(-1)*((T l).cs q*jz n (T o) (λ_=>0) ((T l).fv q))) λq _=>by grind,yq,wh];have:=N.cost;grind
 obtain⟨q,s,u⟩:=TC hd;have a5:(T l).fv q∈(T l).free:=wj w1 s;have Z:=w l o _ (List.mem_append_right _ a5);rcases γu.1 Z with a4|X
 ·obtain⟨D,z,e⟩:=yu C a4;rw[<-e,nH C E z,nH C E z,dM (f:=λj=>(T o).cf D j*(λq=>if q=c o then(1:Rat) else 0) j) (g:=λj=>if j=c o then(T o).cf D (c o) else 0) (λj _=>by
   by_cases hj:j=c o<;>grind),wi,if_pos N.hc,dM (f:=λj=>(T o).cf D j*(λ_=>(0:Rat)) j) (g:=λ_=>0) (λj _=>by grind),iU] at u;have M:0<(T l).cs q*(-(T o).cf D (c o)):=by grind
  obtain⟨k3,b3,b5,h3⟩:=U _ o l F (by omega) a6 (by omega) a4 (λh=>J1 n1 h a5);have b0:(T l).fv q<=(T l).fv (c l):=by grind
  rcases AZ ((T l).cs q) 0 with hs|hs
  ·have a8:0<(T o).cf D (c o):=by
    rcases AZ ((T o).cf D (c o)) 0 with h4|h4
    ·exfalso;have:=δz (a:= -(T l).cs q) (b:= -(T o).cf D (c o)) (by grind) (by grind);grind
    ·exact h4
   have b4:(T o).bd D=0:=by
    have V:=hA o l F (by omega) a6 (by omega) ((T l).fv q) Z;rw[mT w1 n1 s,<-e,nH C E z,dM (g:=λ_=>0) λj _=>by grind,iU] at V;grind
   have c1:=H o F Q;have hz:∀b:Rat,(0:Rat) / b=0:=λb=>by grind
   rcases N.ratio D z a8 with h6|h6;·simp_all
   ·have h7:(T l).fv (c l)<=(T l).fv q:=by omega
    have h8:=ac9 w1 n1 s p1.hc (by omega);rw[h8] at hs;have:=p1.cost;grind
  ·have h7:=p1.least q s hs;have h8:D=r o:=ac8 C E z N.hr (by omega);rw[h8] at M;have:=δz (a:=(T l).cs q) (b:=(T o).cf (r o) (c o)) (by grind) (by have:=N.pos;grind);grind
 ·obtain⟨q2,R,e⟩:=wm C X;rw[<-e,mT C E R,mT C E R] at u;by_cases V:q2=c o
  ·rw[if_pos V] at u;have h6:=p1.least q s (by grind);have h7:=J o F Q;rw[V] at e;have h8:(T l).fv (c l)=(T o).fv (c o):=by omega
   exact J1 E (A5 C N.hr) (by grind)
  ·rw[if_neg V] at u;grind
end
def eG (t:Tb):Nat->Int
 |0=> -1
 |k+1=>if 0<t.cs k/\(eG t k<0\/t.fv k<t.fv (eG t k).toNat) then(k:Int) else eG t k
def ei (t:Tb) (c:Nat):Nat->Int
 |0=> -1
 |k+1=>if t.cf k c<=0 then ei t c k
  else if 0<=ei t c k/\(t.bd (ei t c k).toNat / t.cf (ei t c k).toNat c<t.bd k / t.cf k c\/(t.bd k / t.cf k c=t.bd (ei t c k).toNat / t.cf (ei t c k).toNat c/\t.bv (ei t c k).toNat<t.bv k)) then ei t c k
  else(k:Int)
section
variable {n m:Nat} {t t0:Tb} {r c:Nat}
theorem uD:∀{k:Nat},(eG t k= -1/\∀j,j<k->¬0<t.cs j)\/(∃b:Nat,eG t k=b/\b<k/\0<t.cs b/\∀j,j<k->0<t.cs j->t.fv b<=t.fv j)
 |0=> .inl ⟨rfl,λj h=>by omega⟩
 |k+1=>by
  unfold eG;rcases @uD k with⟨a,c⟩|⟨b,a,c,d,e⟩;·grind
  ·have f:(eG t k).toNat=b:=by omega
   grind
theorem wo {c:Nat}:∀{k:Nat},(ei t c k= -1/\∀j,j<k->t.cf j c<=0)\/(∃b:Nat,ei t c k=b/\b<k/\0<t.cf b c/\∀j,j<k->0<t.cf j c->t.bd b / t.cf b c<t.bd j / t.cf j c\/(t.bd b / t.cf b c=t.bd j / t.cf j c/\t.bv b<=t.bv j))
 |0=> .inl ⟨rfl,λj h=>by omega⟩
 |k+1=>by
  unfold ei;by_cases e:t.cf k c<=0
  ·rw[if_pos e];rcases @wo c k with⟨f,a⟩|⟨b,f,a,o,n⟩<;>grind
  ·rw[if_neg e];have g:0<t.cf k c:=Rat.not_le.1 e;rcases @wo c k with⟨f,a⟩|⟨b,f,a,o,n⟩;·grind
   ·have i:(ei t c k).toNat=b:=by omega
    rw[i];by_cases d:0<=ei t c k/\(t.bd b / t.cf b c<t.bd k / t.cf k c\/(t.bd k / t.cf k c=t.bd b / t.cf b c/\t.bv b<t.bv k));·grind
    ·rw[if_neg d];have l:¬t.bd b / t.cf b c<t.bd k / t.cf k c:=λh=>d ⟨by omega,.inl h⟩;have m:t.bd k / t.cf k c=t.bd b / t.cf b c->¬t.bv b<t.bv k:=λh a=>d ⟨by omega,.inr ⟨h,a⟩⟩;refine .inr ⟨k,rfl,by omega,g,λj p q=>?_⟩;grind
end
def stepT (n m:Nat) (t:Tb):Option Tb:=
 if eG t n<0 then none
 else if ei t (eG t n).toNat m<0 then none
 else some (fV t (ei t (eG t n).toNat m).toNat (eG t n).toNat)
def fw (n m:Nat):Nat->Tb->Bool
 |0,t=>(stepT n m t).isNone
 |k+1,t=>match stepT n m t with
  |none=>true
  |some a=>fw n m k a
def runT (n m:Nat):Nat->Tb->Tb
 |0,t=>t
 |k+1,t=>match stepT n m t with
  |none=>t
  |some a=>runT n m k a
def yv (n m N:Nat) (t:Tb):Nat:=((Θ N).filter λk=>!fw n m k t).length
section
variable {n m:Nat} {t t0 t':Tb}
theorem TD (h:stepT n m t=some t'):∃r c,qP n m t r c/\t'=fV t r c/\eG t n=(c:Int)/\ei t c m=(r:Int):=by
 unfold stepT at h;split at h;·cases h
 ·rename_i p;split at h;·cases h
  ·rename_i o;injection h with h;rcases @uD t n with⟨b,_⟩|⟨c,b,d,e,k⟩;·omega
   ·have f:(eG t n).toNat=c:=by omega
    rw[f] at h o;rcases @wo t c m with⟨a,_⟩|⟨r,a,i,j,l⟩;·omega
    ·have g:(ei t c m).toNat=r:=by omega
     rw[g] at h;exact⟨r,c,⟨i,d,e,k,j,l⟩,h.symm,b,a⟩
theorem J2 (b:Run n m t0 t) (d:kB m t) (h:stepT n m t=some t'):Run n m t0 t'/\kB m t':=by
 obtain⟨r,c,a,rfl,_⟩:=TD h;exact⟨b.piv a.hr a.hc (by have:=a.pos;grind),a.yt b.wf d⟩
theorem J3:∀{k:Nat} {t:Tb},fw n m k t=true->fw n m (k+1) t=true
 |0,t,h=>by
  grind[fw];|k+1,t,h=>by
  unfold fw at h ⊢;split;·rfl
  ·rename_i b a;rw[a] at h;exact J3 h
theorem left_step {N:Nat} (b:fw n m N t=true) (h:stepT n m t=some t'):yv n m N t'<yv n m N t:=by
 unfold yv;have e:∀k,fw n m k t'=fw n m (k+1) t:=λk=>by grind[fw]
 have c:fw n m 0 t=false:=by simp[fw,h]
 simp only[e];cases N with
 |zero=>simp_all;|succ N=>
  have a:∀f:Nat->Bool,((Θ (N+1)).filter f).length=(if f 0 then 1 else 0)+((Θ N).filter λk=>f (k+1)).length:=λf=>by
   rw[ζo,List.filter_cons,List.filter_map,];grind[Function.comp_def]
  rw[a (λk=>!fw n m k t),c];rw[εe,List.filter_append,γq];simp[b]
theorem TE {N:Nat} (a:fw n m N t=true) (h:stepT n m t=some t'):fw n m N t'=true:=by
 cases N<;>grind[fw,J3]
theorem J4 (D:Run n m t0 t) (o:kB m t):∃N,fw n m N t=true:=by
 apply δZ;intro u;have e:∀N,fw n m N t=false:=λN=>by
  simp_all
 let T:Nat->Tb:=λk=>Nat.rec t (λ_ s=>(stepT n m s).getD s) k;have d:∀k,T (k+1)=(stepT n m (T k)).getD (T k):=λk=>rfl;have A:∀k N,fw n m N (T k)=false:=by
  intro k;induction k with
  |zero=>exact e;|succ k l=>
   intro N;rw[d];cases z:stepT n m (T k) with
   |none=>simp_all;|some q=>
    have:=l (N+1);grind[fw]
 have w:∀k,stepT n m (T k)=some (T (k+1)):=λk=>by
  rw[d];cases z:stepT n m (T k) with
  |none=>have:=A k 0;grind[fw];|some q=>rfl
 have a:∀k,Run n m t0 (T k)/\kB m (T k):=by
  intro k;induction k with
  |zero=>exact⟨D,o⟩;|succ k l=>grind[J2]
 have b:∀k,∃p:Nat×Nat,qP n m (T k) p.1 p.2/\T (k+1)=fV (T k) p.1 p.2:=λk=>by
  obtain⟨r,c,f,E,_⟩:=TD (w k);exact⟨(r,c),f,E⟩
 let p:Nat->Nat×Nat:=λk=>Classical.choose (b k);have h:∀k,qP n m (T k) (p k).1 (p k).2/\T (k+1)=fV (T k) (p k).1 (p k).2:=λk=>Classical.choose_spec (b k);obtain⟨i,j,g,B⟩:=J0 (A4 (t0.basic++t0.free) (m+n)) (λk=>(T k).basic++(T k).free) λk=>by
  have f:=@TA (t0.basic++t0.free) ((T k).basic++(T k).free) λv C=>(a k).1.perm.mem_iff.1 C;rwa [γq,(a k).1.wf.basic,(a k).1.wf.free] at f
 obtain⟨y,x⟩:=List.append_inj B (by rw[(a i).1.wf.basic,(a j).1.wf.basic]);exact ada (λk=>(a k).1) (λk=>(a k).2) (λk=>(h k).1) (λk=>(h k).2) g y x
end
end Go.Vi
