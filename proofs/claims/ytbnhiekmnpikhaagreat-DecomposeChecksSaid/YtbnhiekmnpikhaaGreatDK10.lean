/-
  The library's functions at this program's numbers.
  Conditions: none.
-/
import Derived.Test.YtbnhiekmnpikhaaGreatProg
import Derived.Shelf.Sort.AssemblyIn
import Derived.Shelf.SlicesE.Clone
import Derived.Shelf.SlicesE.Delete
import Derived.Shelf.SlSortCmp.NoneTotal
import Derived.KernelRfl
import Derived.Sort.EveryDepth
import Derived.Sort.OwnSortedInts
import Derived.WalkKit
import Derived.Deep.LoopGhost
import Derived.Lib.Walk
import Derived.Lib.SliceRun
import Derived.Shelf.RegionOpenPlain
import Derived.Test.YtbnhiekmnpikhaaGreatDK06
import Derived.Test.YtbnhiekmnpikhaaGreatDK07
import Derived.Test.YtbnhiekmnpikhaaGreatDK08
import Derived.Test.YtbnhiekmnpikhaaGreatDK09
set_option maxRecDepth 100000
set_option maxHeartbeats 4000000
set_option linter.all false
open Bool renaming and_eq_true->θ
open Classical renaming not_not->γj
open Go.Vi.AV renaming sc->δd
open Go.Vi.AV.os renaming injEq->εz
open Go.Vi.AV.sc renaming injEq->δb
open Go.Vi.AV.sl renaming injEq->δ5
open Go.Vi.SV renaming si->γi,il->γy,row->Ω,ow->γ1,ptr->γT,agg->γN,bl->δf,sb->γw
open Int renaming toNat_natCast->γl
open IntCast renaming intCast->κ
open List renaming mergeSort_perm->δs,map_cons->π,map_nil->γr,length->γc,getElem?_cons_zero->δn,getElem?_map->γD,getElem?_eq_some_iff->ζ,replicate->δ,length_take->γq,map_append->γa,range->Γ,range_succ->εf,take->ω,take_length->ψ,all_eq_true->φ,mem_range->γx,take_of_length_le->γo,getElem_of_mem->γI,mem_map->Ψ,mem_of_mem_take->γm,length_append->γg,mem_append->γk,map_map->γ3,map_congr_left->γZ,pairwise_cons->γA,exists_of_findSome?_eq_some->δW,nodup_append->γs,length_replicate->γC
open List.Pairwise renaming nil->δH
open List.cons renaming injEq->Θ
open Nat renaming le_refl->ξ,zero_le->δ4,lt_of_lt_of_le->γf,mul_le_mul->ζi
open Option renaming map_eq_some_iff->ε,isNone_iff_eq_none->γM
open Option.some renaming injEq->γ
open Rat renaming mul_nonneg->δt
namespace Go.Proofs
open Go.Shelf
def Tryz.layS_ren:Ren:=
 ⟨λ
  |189=>57
  |125=>69
  |257=>82
  |128=>98
  |129=>99
  |294=>117
  |295=>118
  |296=>119
  |297=>120
  |298=>121
  |299=>122
  |216=>123
  |300=>124
  |301=>125
  |328=>151
  |329=>127
  |330=>128
  |331=>152
  |332=>153
  |215=>154
  |343=>174
  |n=>n,
 λ
  |28=>24
  |3=>3
  |46=>55
  |0=>0
  |51=>172
  |53=>53
  |4=>4
  |183=>165
  |182=>164
  |131=>169
  |5=>5
  |9=>9
  |218=>209
  |222=>213
  |228=>246
  |229=>109
  |n=>n,
 λn=>n⟩
def Tryz.layC_ren:Ren:=
 ⟨λ
  |41=>52
  |n=>n,
 λ
  |22=>24
  |23=>3
  |4=>4
  |n=>n,
 λn=>n⟩
def Tryz.layD_ren:Ren:=
 ⟨λ
  |45=>147
  |n=>n,
 λ
  |22=>24
  |23=>3
  |3=>3
  |4=>4
  |0=>0
  |n=>n,
 λn=>n⟩
def Tryz.layR_ren:Ren:=
 ⟨λ
  |6=>50
  |15=>69
  |14=>68
  |28=>98
  |29=>99
  |20=>90
  |21=>91
  |22=>92
  |23=>93
  |24=>94
  |25=>95
  |26=>96
  |27=>97
  |46=>126
  |47=>127
  |48=>128
  |49=>129
  |50=>130
  |57=>155
  |n=>n,
 λ
  |22=>30
  |24=>24
  |25=>34
  |3=>3
  |39=>55
  |0=>0
  |53=>172
  |55=>53
  |4=>4
  |46=>165
  |45=>164
  |50=>169
  |5=>5
  |9=>9
  |66=>209
  |70=>213
  |76=>246
  |77=>109
  |n=>n,
 λn=>n⟩
theorem Tryz.layS:Lays.n189 Tryz.prog Tryz.layS_ren:={mixed:=by kernel_rfl,f125:=Tryz.func69.trans (by kernel_rfl),f128:=Tryz.func98.trans (by kernel_rfl),f129:=Tryz.func99.trans (by kernel_rfl),f189:=Tryz.func57.trans (by kernel_rfl),f215:=Tryz.func154.trans (by kernel_rfl),f216:=Tryz.func123.trans (by kernel_rfl),f257:=Tryz.func82.trans (by kernel_rfl),f294:=Tryz.func117.trans (by kernel_rfl),f295:=Tryz.func118.trans (by kernel_rfl),f296:=Tryz.func119.trans (by kernel_rfl),f297:=Tryz.func120.trans (by kernel_rfl),f298:=Tryz.func121.trans (by kernel_rfl),f299:=Tryz.func122.trans (by kernel_rfl),f300:=Tryz.func124.trans (by kernel_rfl),f301:=Tryz.func125.trans (by kernel_rfl),f328:=Tryz.func151.trans (by kernel_rfl),f329:=Tryz.func127.trans (by kernel_rfl),f330:=Tryz.func128.trans (by kernel_rfl),f331:=Tryz.func152.trans (by kernel_rfl),f332:=Tryz.func153.trans (by kernel_rfl),f343:=Tryz.func174.trans (by kernel_rfl),t0:=Tryz.underlying0,a0:=Tryz.isAgg0,z0:=Tryz.sizeOf0,v0:=Tryz.zeroValue0,t3:=Tryz.underlying3,a3:=Tryz.isAgg3,z3:=Tryz.sizeOf3,v3:=Tryz.zeroValue3,t4:=Tryz.underlying4,a4:=Tryz.isAgg4,z4:=Tryz.sizeOf4,v4:=Tryz.zeroValue4,t5:=Tryz.underlying5,a5:=Tryz.isAgg5,z5:=Tryz.sizeOf5,v5:=Tryz.zeroValue5,t9:=Tryz.underlying9,a9:=Tryz.isAgg9,z9:=Tryz.sizeOf9,v9:=Tryz.zeroValue9,t28:=Tryz.underlying24,a28:=Tryz.isAgg24,z28:=Tryz.sizeOf24,v28:=Tryz.zeroValue24,t46:=Tryz.underlying55,a46:=Tryz.isAgg55,z46:=Tryz.sizeOf55,v46:=Tryz.zeroValue55,t51:=Tryz.underlying172,a51:=Tryz.isAgg172,z51:=Tryz.sizeOf172,v51:=Tryz.zeroValue172,t53:=Tryz.underlying53,a53:=Tryz.isAgg53,z53:=Tryz.sizeOf53,v53:=Tryz.zeroValue53,t131:=Tryz.underlying169,a131:=Tryz.isAgg169,z131:=Tryz.sizeOf169,v131:=Tryz.zeroValue169,t182:=Tryz.underlying164,a182:=Tryz.isAgg164,z182:=Tryz.sizeOf164,v182:=Tryz.zeroValue164,t183:=Tryz.underlying165,a183:=Tryz.isAgg165,z183:=Tryz.sizeOf165,v183:=Tryz.zeroValue165,t218:=Tryz.underlying209,a218:=Tryz.isAgg209,z218:=Tryz.sizeOf209,v218:=Tryz.zeroValue209,t222:=Tryz.underlying213,a222:=Tryz.isAgg213,z222:=Tryz.sizeOf213,v222:=Tryz.zeroValue213,t228:=Tryz.underlying246,a228:=Tryz.isAgg246,z228:=Tryz.sizeOf246,v228:=Tryz.zeroValue246,t229:=Tryz.underlying109,a229:=Tryz.isAgg109,z229:=Tryz.sizeOf109,v229:=Tryz.zeroValue109}
theorem Tryz.layC:SlLaysE0.n41 Tryz.prog Tryz.layC_ren:={mixed:=by kernel_rfl,f41:=⟨Tryz.f52.name,by decide,Tryz.func52.trans (by kernel_rfl)⟩,t4:=Tryz.underlying4,a4:=Tryz.isAgg4,z4:=Tryz.sizeOf4,v4:=Tryz.zeroValue4,t22:=Tryz.underlying24,a22:=Tryz.isAgg24,z22:=Tryz.sizeOf24,v22:=Tryz.zeroValue24}
theorem Tryz.layD:SlLaysE.n45 Tryz.prog Tryz.layD_ren:={mixed:=by kernel_rfl,f45:=⟨Tryz.f147.name,by decide,Tryz.func147.trans (by kernel_rfl)⟩,t0:=Tryz.underlying0,a0:=Tryz.isAgg0,z0:=Tryz.sizeOf0,v0:=Tryz.zeroValue0,t3:=Tryz.underlying3,a3:=Tryz.isAgg3,z3:=Tryz.sizeOf3,v3:=Tryz.zeroValue3,t4:=Tryz.underlying4,a4:=Tryz.isAgg4,z4:=Tryz.sizeOf4,v4:=Tryz.zeroValue4,t22:=Tryz.underlying24,a22:=Tryz.isAgg24,z22:=Tryz.sizeOf24,v22:=Tryz.zeroValue24,a23:=Tryz.isAgg3,z23:=Tryz.sizeOf3}
theorem Tryz.layR:SlLaysF.n6 Tryz.prog Tryz.layR_ren:={mixed:=by kernel_rfl,f6:=⟨Tryz.f50.name,by decide,Tryz.func50.trans (by kernel_rfl)⟩,f14:=⟨Tryz.f68.name,by decide,Tryz.func68.trans (by kernel_rfl)⟩,f15:=Tryz.func69.trans (by kernel_rfl),f20:=⟨Tryz.f90.name,by decide,Tryz.func90.trans (by kernel_rfl)⟩,f21:=⟨Tryz.f91.name,by decide,Tryz.func91.trans (by kernel_rfl)⟩,f22:=⟨Tryz.f92.name,by decide,Tryz.func92.trans (by kernel_rfl)⟩,f23:=⟨Tryz.f93.name,by decide,Tryz.func93.trans (by kernel_rfl)⟩,f24:=⟨Tryz.f94.name,by decide,Tryz.func94.trans (by kernel_rfl)⟩,f25:=⟨Tryz.f95.name,by decide,Tryz.func95.trans (by kernel_rfl)⟩,f26:=⟨Tryz.f96.name,by decide,Tryz.func96.trans (by kernel_rfl)⟩,f27:=⟨Tryz.f97.name,by decide,Tryz.func97.trans (by kernel_rfl)⟩,f28:=Tryz.func98.trans (by kernel_rfl),f29:=Tryz.func99.trans (by kernel_rfl),f46:=⟨Tryz.f126.name,by decide,Tryz.func126.trans (by kernel_rfl)⟩,f47:=Tryz.func127.trans (by kernel_rfl),f48:=Tryz.func128.trans (by kernel_rfl),f49:=⟨Tryz.f129.name,by decide,Tryz.func129.trans (by kernel_rfl)⟩,f50:=⟨Tryz.f130.name,by decide,Tryz.func130.trans (by kernel_rfl)⟩,f57:=⟨Tryz.f155.name,by decide,Tryz.func155.trans (by kernel_rfl)⟩,t0:=Tryz.underlying0,a0:=Tryz.isAgg0,z0:=Tryz.sizeOf0,v0:=Tryz.zeroValue0,t3:=Tryz.underlying3,a3:=Tryz.isAgg3,z3:=Tryz.sizeOf3,v3:=Tryz.zeroValue3,t4:=Tryz.underlying4,a4:=Tryz.isAgg4,z4:=Tryz.sizeOf4,v4:=Tryz.zeroValue4,t5:=Tryz.underlying5,a5:=Tryz.isAgg5,z5:=Tryz.sizeOf5,v5:=Tryz.zeroValue5,t9:=Tryz.underlying9,a9:=Tryz.isAgg9,z9:=Tryz.sizeOf9,v9:=Tryz.zeroValue9,t22:=Tryz.underlying30,a22:=Tryz.isAgg30,z22:=Tryz.sizeOf30,v22:=Tryz.zeroValue30,a24:=Tryz.isAgg24,z24:=Tryz.sizeOf24,t25:=Tryz.underlying34,a25:=Tryz.isAgg34,z25:=Tryz.sizeOf34,v25:=Tryz.zeroValue34,t39:=Tryz.underlying55,a39:=Tryz.isAgg55,z39:=Tryz.sizeOf55,v39:=Tryz.zeroValue55,t45:=Tryz.underlying164,a45:=Tryz.isAgg164,z45:=Tryz.sizeOf164,v45:=Tryz.zeroValue164,t46:=Tryz.underlying165,a46:=Tryz.isAgg165,z46:=Tryz.sizeOf165,v46:=Tryz.zeroValue165,t50:=Tryz.underlying169,a50:=Tryz.isAgg169,z50:=Tryz.sizeOf169,v50:=Tryz.zeroValue169,t53:=Tryz.underlying172,a53:=Tryz.isAgg172,z53:=Tryz.sizeOf172,v53:=Tryz.zeroValue172,t55:=Tryz.underlying53,a55:=Tryz.isAgg53,z55:=Tryz.sizeOf53,v55:=Tryz.zeroValue53,t66:=Tryz.underlying209,a66:=Tryz.isAgg209,z66:=Tryz.sizeOf209,v66:=Tryz.zeroValue209,t70:=Tryz.underlying213,a70:=Tryz.isAgg213,z70:=Tryz.sizeOf213,v70:=Tryz.zeroValue213,t76:=Tryz.underlying246,a76:=Tryz.isAgg246,z76:=Tryz.sizeOf246,v76:=Tryz.zeroValue246,t77:=Tryz.underlying109,a77:=Tryz.isAgg109,z77:=Tryz.sizeOf109,v77:=Tryz.zeroValue109}
end Go.Proofs
namespace Go.Proofs
open Go.Shelf Go.RowKit Go.Lib
theorem SL {P:Program} {ρ:Ren} (L:SlLaysE0.n41 P ρ) (i0:TypeInfo) (z:Value) (b g:Nat) (I:P.info? (ρ.t 23)=some i0) (x:i0.zero=some z) (y:i0.size=b) (q:i0.bytes=g) (m:z.cells.size=b) (o:0<b)
  (Q:∀w,(Go.sizeOf (ρ.t 23)).run P w= .ok b w) (p:Addr) (n c:Nat) (d:List Value) (w:World) (K:d.length=n*b) (U:n<=maxLen) (B:n*g<=140737488355328)
  (C:∀j u,d[j]?=some u->w.cell? (p.add j)=some u) (E:∀u∈d,u.oneCell'=true):
  Calls P (ρ.f 41) #[.slice (some p) n c] w λe w'=>∃l,e= .returned l/\w'.ownsRow w.heap.size (ρ.t 23) b l n d/\l≠ .slice none 0 0/\Below w.heap.size w w':=by
 have v:=L.mixed;have W:=L.t4;have V:=L.a4;have T:=L.z4;have S:=L.v4;have i:=L.t22;have N:=L.a22;have O:=L.z22;have H:=L.v22;have G:∀(w:World) (a:Option Addr) (n c r s:Nat),(binOp .eql (ρ.t 22) (.slice a n c) (.slice none r s)).run P w= .ok (.bool a.isNone) w:=λw a n c r s=>Lib.run_eql_slice_nil w _ _ a n c r s L.t22;have F:∀w,Sem.run P (underlying (ρ.t 22)) w= .ok (TypeDesc.slice (ρ.t 23)) w:=run_underlying i;have A:Aside (∀j u,d[j]?=some u->w.cell? (p.add j)=some u):=C;clear C;obtain⟨_,_,M⟩:=L.f41;go_enter M,SlBodyN.n41_ntmps ρ;go_wp2_with (at_builtin;refine wpList_append_own _ rfl _ _ (ρ.t 22) rfl w.heap.size (ρ.t 23) i0 z b g i I x y q m o _ _ _ rfl (World.ownsRow_made w #[] 0 (ξ _) (δ4 _) (by simp)) p n c d rfl ?qc1 ?qc2 ?qc3 ?qc4 ?qc5 ?qc6 ?_);case qc1=>exact K
 case qc2=>
  intro j u J;exact Lib.cell?_alloc_some _ (A.out j u J)
 case qc3=>exact E
 case qc4=>omega
 case qc5=>simp_all
 case qc6=>simp
 intro l R D h k;go_wp2;go_ret;refine⟨l,rfl,by omega,?_,?_⟩;·exact k
 ·exact((Below.refl _ w).alloc (ξ _) _).grown h (by simp) (by grind[Value.ownBlock])
end Go.Proofs
namespace Go.Vi
open Go.Proofs.YtbnhiekmnpikhaaGreat.Ir
open Go.Proofs
theorem mN (l:List Int):cE (.i .i64) l=l.map λx=>δd (.int .i64 x):=by
 unfold cE;induction l with
 |nil=>rfl;|cons x l a=>rw[List.flatMap_cons,a];rfl
theorem SN {A:dN} {w:World} {σ:bW} {l:List Int} {e:TypeId} (d:bT A w σ [.cells (l.map λx=>δd (.int .i64 x)) e 1 true]) (s:1<=l.length):
  ∃b cap arr,σ=[some (b,cap)]/\cap<=maxLen/\w.heap[b]?=some (.cells arr e (0,0))/\arr.size=cap/\l.length<=cap/\arr.toList.take l.length=l.map (Value.int .i64):=by
 have f:=d.obj 0 _ rfl;simp only[dF] at f;obtain⟨_,_,h|⟨b,cap,arr,a,n,g,r,p,i⟩⟩:=f;·simp_all
 ·have c:=d.len;simp at c;have m:l.length<=arr.size:=by simp_all
  refine⟨b,cap,arr,?_,n,g,by omega,by omega,?_⟩;·match σ,c,a with
   |[x],_,a=>simp_all
  ·apply List.ext_getElem?;intro j;by_cases k:j<l.length
   ·obtain⟨v,o,q⟩:=i j (.sc (.int .i64 l[j])) (by simp[k]);grind[bw]
   simp_all
def dZ (l:List Int):List Int:=l.mergeSort λx y=>decide (x<=y)
theorem qN {l:List Int}:(dZ l).length=l.length:=(δs _ _).length_eq
def A4:dH where
 f:=57;α:=Nat×List Int;put a:=[.ow 0 a.1 1];st a:=[.row (.i .i64) a.2 3 true];dec v o:=match v,o with
  |[.ow 0 n 1],[.row t l 3 true]=>match iG t (.i .i64) l with
   |some l=>some (n,l)
   |_=>none
  |_,_=>none;ok v o a h:=by
  split at h
  ·split at h
   ·rename_i h4;simp only[γ] at h;subst h;obtain⟨rfl,hh⟩:=mE h4;cases hh;exact⟨rfl,rfl⟩
   ·cases h
  ·cases h
 inj a b e1 e2:=by
  obtain⟨n,l⟩:=a;obtain⟨n',l'⟩:=b;simp only[gL,Θ,SV.g,εz,true_and] at e1;simp only[gO,π,γr,bq.g,Θ,bQ.cells.injEq,and_true,true_and] at e2;have h4:l=l':=by
   have hf:=congrArg γc e2;rw[fe,fe] at hf;exact ly (.i .i64) (by simpa[bp.sz] using hf) e2
  rw[e1.1.1,h4]
 dom a:=a.1=a.2.length/\1<=a.2.length/\a.2.length<=1000000;res _:=.bI [];out a:=[.row (.i .i64) (dZ a.2) 3 true]
theorem h337:ec Tryz.prog A4:=by
 rintro⟨n,l⟩ ⟨E,H,V⟩;simp only at E H V;subst E;refine⟨by kernel_rfl,?_⟩;intro A w F Q q s;have C:∀m:List Int,gO [bq.row (.i .i64) m 3 true]=[bQ.cells (m.map λx=>δd (.int .i64 x)) 3 1 true]:=λm=>by
  simp only[gO,π,γr,bq.g,mN];rfl
 have T:gL (A4.put (l.length,l))=[.os 0 0 l.length (l.length*1)]:=rfl;show Calls _ _ _ _ λe h=>∃u p,e= .returned u/\bT A h p (gO [bq.row (.i .i64) (dZ l) 3 true])/\bw A h p (gO [bq.row (.i .i64) (dZ l) 3 true]) (.bI []) u/\Ext w F (gO [bq.row (.i .i64) l 3 true]) h p (gO [bq.row (.i .i64) (dZ l) 3 true]);replace q:bT A w F (gO [bq.row (.i .i64) l 3 true]):=q;replace s:bG A w F (gO [bq.row (.i .i64) l 3 true]) (gL (A4.put (l.length,l))) Q:=s;rw[C] at q s;rw[C,C];rw[T] at s;obtain⟨b,Y,d,rfl,U,L,q4,q5,N⟩:=SN q H;simp only[bG] at s;obtain⟨v,r,rfl,I,rfl⟩:=s;simp only[bw] at I;obtain⟨O,a,y,rfl,a0,B⟩:=I;have K:=B 1 ⟨_,_,_,rfl,by simp⟩;simp only[kB,δn] at K;obtain⟨rfl,rfl⟩:=K.2.1 trivial trivial (by omega);have P:b<w.heap.size:=q.bnd 0 b y rfl;have R:=holds_of_blockI (ss:=l) L N;have S:Calls Tryz.prog (A4).f #[.slice (some ⟨b,0,none⟩) l.length y] w λe h=>e= .returned (.tuple #[])/\∃n z,h=Sort.grow (Sort.putRow (Value.int .i64) (Sort.ahead w n) b 0 (dZ l).toArray) z:=
  calls_of_every_depth λD=>AnyS.slices_Sort_int_in Tryz.layS D b 0 y l w R P (by omega);refine Calls.mono S ?_;rintro e h ⟨rfl,n,z,rfl⟩;have t:=grownBy_sortedI (w:=w) (g:=b) (n:=n) (os:=z) (dZ l).toArray;have W:=heap_sortedI (w:=w) (n:=n) (os:=z) (dZ l).toArray L;have X:=take_putCellsI d (dZ l) (by rw[qN];omega);have hz:(Sort.putCells (Value.int .i64) 0 (dZ l).toArray d).size=d.size:=by simp[Sort.putCells]
 generalize Sort.grow (Sort.putRow (Value.int .i64) (Sort.ahead w n) b 0 (dZ l).toArray) z=h at*;generalize Sort.putCells (Value.int .i64) 0 (dZ l).toArray d=o at*;have hU:=q.upd (w':=h) (id:=0) (x':=.cells ((dZ l).map λx=>δd (.int .i64 x)) 3 1 true) (s':=some (b,y)) rfl t.size t.os t.tape t.output
  (λk M E=>t.block k M λe=>by simp_all) (λb' c' e=>by simp_all)
  ⟨_,_,_,rfl,by simp[qN],λ_=>rfl⟩ ?_;·grind[bw,bG]
 ·intro hx;simp only[dF];refine⟨λ_=>by rw[<-mN];grind[oZ],by rw[<-mN];grind[CS],.inr ⟨b,y,o,rfl,U,W,by omega,by grind[qN],?_⟩⟩;intro j c J;rw[γD] at J;obtain⟨x,G,rfl⟩:=ε.1 J;have Z:=(ζ.1 G).1;refine⟨.int .i64 x,?_,by simp[bw,Value.oneCell']⟩;have h9:(o.toList.take (dZ l).length)[j]?=((dZ l).map (Value.int .i64))[j]?:=by rw[X]
  grind
theorem SO {A:dN} {w:World} {l:List Int} {vs:List Value} {m:FuncId} (n:m=Tryz.layC_ren.f 41) (N:bT A w [] []) (K:l.length<=1000000) (B:bG A w [] [] [.sl l.length (l.map λx=>δd (.int .i64 x))] vs):
  Calls Tryz.prog m vs.toArray w λe w'=>RowKit.Below w.heap.size w w'/\((e= .returned (.slice none 0 0)/\l=[])\/∃g cap c,e= .returned (.slice (some ⟨g,0,none⟩) l.length cap)/\w.heap.size<=g/\w'.heap[g]?=some (.cells c 3 (0,0))/\l.length<=cap/\cap<=maxLen/\c.size=cap/\c.toList.take l.length=l.map (Value.int .i64)):=by
 subst n;simp only[bG] at B;obtain⟨v,r,rfl,t,rfl⟩:=B;simp only[bw] at t;obtain⟨a,cap,rfl,q,_,C⟩:=t;cases a with
 |none=>
  have z:l=[]:=by
   cases l<;>grind[dy]
  grind[Calls.mono,AnyE.slices_Clone_nil,Tryz.layC,RowKit.Below.refl];|some p=>
  have H:∀j u,(l.map (Value.int .i64))[j]?=some u->w.cell? (p.add j)=some u:=by
   intro j u s;rw[γD] at s;obtain⟨x,F,rfl⟩:=ε.1 s;obtain⟨b,v,e,_,o,y⟩:=dy.get _ _ _ C j (.sc (.int .i64 x)) (by simp[F]);grind[bw]
  refine Calls.mono (SL Tryz.layC Tryz.t3 (.int .i64 0) 1 8 (by kernel_rfl) (by kernel_rfl) (by kernel_rfl) (by kernel_rfl) (by kernel_rfl) (by omega) Tryz.sizeOf3 p l.length cap (l.map (Value.int .i64)) w (by simp) (by grind[maxLen]) (by omega) H (by simp[Value.oneCell'])) ?_;rintro e w' ⟨L,rfl,k,E,i⟩;refine⟨i,.inr ?_⟩;obtain⟨_,h|⟨g,d,c,rfl,J,I,D,G,M,O⟩⟩:=k;·simp_all
  ·exact⟨g,d,c,rfl,J,I,D,G,by omega,by simp_all⟩
def A5:bM:=⟨52,List Int,.one (dM (.i .i64)),λl=>l.length<=1000000,λl=> .row (.i .i64) l⟩
theorem h330:Holds Tryz.prog A5:=by
 intro(l:List Int) (hl:l.length<=1000000);refine⟨by kernel_rfl,?_⟩;intro A w σ vs hS hR;have hσ:σ=[]:=by have:=hS.len;simpa using this
 subst hσ;have e1:gL (A5.A.put l)=[.sl l.length (l.map λx=>δd (.int .i64 x))]:=by rw[<-mN];rfl
 have e2:(A5.res l).G= .sl l.length (l.map λx=>δd (.int .i64 x)):=by rw[<-mN];rfl
 rw[e1] at hR;rw[e2];refine Calls.mono (SO (by rfl) hS hl hR) ?_;rintro e w' ⟨hb,h⟩;have hS':bT A w' [] []:=⟨rfl,by simp,by simp,by simp,by simp,λb h=>γf (hS.jF b h) hb.size⟩;have hE:Ext w [] [] w' [] []:=⟨hb.size,λb h _=>⟨hb.block b h,λ⟨i,c,hi⟩=>by simp at hi⟩,ξ _,λ_ _ ⟨_,_,_,_,h,_⟩=>by simp at h,λ_ ⟨_,_,_,h⟩=>by simp at h,hb.os,hb.tape,hb.output⟩;rcases h with⟨rfl,rfl⟩|⟨g,cap,cur,rfl,h1,h2,h3,h4,h5,h6⟩;·exact⟨_,[],rfl,hS',by simp only[bw];exact⟨none,0,rfl,by simp,by rw[<-mN];exact oZ _ _,by simp[dy]⟩,hE⟩
 ·refine⟨_,[],rfl,hS',?_,hE⟩;simp only[bw];refine⟨_,_,rfl,h3,by rw[<-mN];exact oZ _ _,dy.kX _ _ _ λi c hi=>?_⟩;rw[γD] at hi;obtain⟨x,hx,rfl⟩:=ε.1 hi;have hil:=(ζ.1 hx).1;have h9:(cur.toList.take l.length)[i]?=(l.map (Value.int .i64))[i]?:=by rw[h6]
  rw[List.getElem?_take_of_lt hil,Array.getElem?_toList,γD,hx] at h9;refine⟨⟨g,0,none⟩,.int .i64 x,rfl,⟨λ⟨i,c,hi⟩=>by simp at hi,λhA=>by have:=hS.jF g hA;omega⟩,?_,by simp[bw,Value.oneCell']⟩;rw[Addr.add_lit];simp only[World.cell?,h2,Nat.zero_add,Option.isSome_none,Bool.false_eq_true,if_false];exact h9
def wy:dH where
 f:=52;α:=List Int;put a:=[.row (.i .i64) a];st a:=[];dec v o:=match v,o with
  |[.row t l],[]=>iG t (.i .i64) l
  |_,_=>none;ok v o a h:=by
  split at h
  ·obtain⟨rfl,hh⟩:=mE h;cases hh;exact⟨rfl,rfl⟩
  ·cases h
 inj a b e1 e2:=by
  simp only[gL,Θ,SV.g,δ5,and_true] at e1;exact ly (.i .i64) (by simpa using e1.1) e1.2
 dom a:=a.length<=1000000;res a:=.ow 0 a.length 1;out a:=[.row (.i .i64) a 3 true]
theorem h330o:ec Tryz.prog wy:=by
 intro(l:List Int) (E:l.length<=1000000);refine⟨by kernel_rfl,?_⟩;intro A w s G k p;replace k:bT A w s []:=k;replace p:bG A w s [] (gL (wy.put l)) G:=p;have q:s=[]:=by have:=k.len;simp_all
 subst q;have F:gL (wy.put l)=[.sl l.length (l.map λx=>δd (.int .i64 x))]:=by rw[<-mN];rfl
 have B:(wy.res l).g= .os 0 0 l.length (l.length*1):=rfl;have D:gO (wy.out l)=[bQ.cells (l.map λx=>δd (.int .i64 x)) 3 1 true]:=by rw[<-mN];rfl
 rw[F] at p;rw[B,D];show Calls _ _ _ _ λe n=>∃u f,e= .returned u/\bT A n f [bQ.cells (l.map λx=>δd (.int .i64 x)) 3 1 true]/\bw A n f [bQ.cells (l.map λx=>δd (.int .i64 x)) 3 1 true] (.os 0 0 l.length (l.length*1)) u/\Ext w [] [] n f [bQ.cells (l.map λx=>δd (.int .i64 x)) 3 1 true];refine Calls.mono (SO (by rfl) k E p) ?_;rintro e n ⟨d,h⟩;have t:tK [bQ.cells (l.map λx=>δd (.int .i64 x)) 3 1 true] 0 (l.length*1):=⟨_,_,_,_,rfl,by simp⟩;rcases h with⟨rfl,rfl⟩|⟨g,m,o,rfl,P,z,C,J,O,I⟩
 ·refine⟨_,[none],rfl,⟨rfl,?_,?_,?_,?_,λb h=>γf (k.jF b h) d.size⟩,?_,d.size,λb h _=>⟨d.block b h,?_⟩,δ4 _,λ_ _ ⟨_,_,_,_,h,_⟩=>by simp at h,λ_ ⟨_,_,_,h⟩=>by simp at h,d.os,d.tape,d.output⟩;·grind
  ·grind
  ·intro i x a;cases i with
   |zero=>
    simp at a;subst a;simp only[dF];exact⟨λ_=>rfl,rfl,.inl (by simp)⟩;|succ i=>simp at a
  ·grind
  ·grind[bw,kB]
  ·rintro⟨i,c,a⟩;grind
 ·have L:g<n.heap.size:=(Array.getElem?_eq_some_iff.1 z).1;refine⟨_,[some (g,m)],rfl,⟨rfl,?_,?_,?_,?_,λb h=>γf (k.jF b h) d.size⟩,?_,d.size,λb h _=>⟨d.block b h,?_⟩,δ4 _,λ_ _ ⟨_,_,_,_,h,_⟩=>by simp at h,λ_ ⟨_,_,_,h⟩=>by simp at h,d.os,d.tape,d.output⟩;·grind
  ·grind
  ·intro i x a;cases i with
   |zero=>
    simp at a;subst a;simp only[dF];refine⟨λ_=>by rw[<-mN];grind[oZ],by rw[<-mN];grind[CS],.inr ⟨g,m,o,rfl,J,z,by omega,by simp;omega,?_⟩⟩;intro j c v;rw[γD] at v;obtain⟨x,r,rfl⟩:=ε.1 v;have H:=(ζ.1 r).1;refine⟨.int .i64 x,?_,by simp[bw,Value.oneCell']⟩;have N:(o.toList.take l.length)[j]?=(l.map (Value.int .i64))[j]?:=by rw[I]
    grind;|succ i=>simp at a
  ·intro i b c a;cases i with
   |zero=>
    simp at a;intro K;have:=k.jF b K;omega;|succ i=>simp at a
  ·simp only[bw];refine⟨t,_,_,rfl,C,λM y=>?_⟩;obtain⟨_,_,_,y,_⟩:=y;grind[kB,pF]
  ·rintro⟨i,c,a⟩;grind
def lF (l:List Int) (i j:Nat):List Int:=l.take i++l.drop j++δ (j - i) 0
theorem SQ {l:List Int} {i j:Nat} (a:i<=j) (b:j<=l.length):(lF l i j).length=l.length:=by
 grind[lF]
def wz:dH where
 f:=147;α:=(Nat×List Int)×Int×Int;put a:=[.ow 0 a.1.1 1,.si .i64 a.2.1,.si .i64 a.2.2];st a:=[.row (.i .i64) a.1.2 3 true];dec v o:=match v,o with
  |[.ow 0 n 1,x,y],[.row t l 3 true]=>match iG t (.i .i64) l,x.int .i64,y.int .i64 with
   |some l,some i,some j=>some ((n,l),i,j)
   |_,_,_=>none
  |_,_=>none;ok v o a h:=by
  split at h
  ·split at h
   ·rename_i h4 h5 h6;simp only[γ] at h;subst h;obtain⟨rfl,hh⟩:=mE h4;cases hh;refine⟨?_,rfl⟩;simp only[gL,iN h5,iN h6];rfl
   ·cases h
  ·cases h
 inj a b e1 e2:=by
  obtain⟨⟨n,l⟩,i,j⟩:=a;obtain⟨⟨n',l'⟩,i',j'⟩:=b;simp only[gL,Θ,SV.g,εz,true_and,and_true,δb,Value.int.injEq] at e1;simp only[gO,π,γr,bq.g,Θ,bQ.cells.injEq,and_true,true_and] at e2;have h4:l=l':=by
   have hf:=congrArg γc e2;rw[fe,fe] at hf;exact ly (.i .i64) (by simpa[bp.sz] using hf) e2
  rw[e1.1.1,h4,e1.2.1,e1.2.2]
 dom a:=(a.1.1=a.1.2.length/\1<=a.1.2.length/\a.1.2.length<=1000000)/\0<=a.2.1/\a.2.1<=a.2.2/\a.2.2<=a.1.2.length;res a:=.os 0 0 (a.1.2.length - (a.2.2 - a.2.1).toNat) a.1.1 1;out a:=[.row (.i .i64) (lF a.1.2 a.2.1.toNat a.2.2.toNat) 3 true]
theorem h347:ec Tryz.prog wz:=by
 rintro⟨⟨n,l⟩,i,j⟩ ⟨⟨H,K,h2⟩,i0,ij,Y⟩;simp only at H K h2 i0 ij Y;subst H;obtain⟨i,rfl⟩:∃k:Nat,i=k:=⟨i.toNat,by omega⟩;obtain⟨j,rfl⟩:∃k:Nat,j=k:=⟨j.toNat,by omega⟩;refine⟨by kernel_rfl,?_⟩;intro A w F X t z;have I:∀m:List Int,gO [bq.row (.i .i64) m 3 true]=[bQ.cells (m.map λx=>δd (.int .i64 x)) 3 1 true]:=λm=>by
  simp only[gO,π,γr,bq.g,mN];rfl
 have V:gL (wz.put ((l.length,l),(i:Int),(j:Int)))=[.os 0 0 l.length (l.length*1),.sc (.int .i64 i),.sc (.int .i64 j)]:=rfl;have Z:(wz.res ((l.length,l),(i:Int),(j:Int))).g= .os 0 0 (l.length - (j - i)) (l.length*1):=by
  show AV.os 0 (0*1) (l.length - ((j:Int) - (i:Int)).toNat) (l.length*1)=_;simp_all
 show Calls _ _ _ _ λe h=>∃u p,e= .returned u/\bT A h p (gO [bq.row (.i .i64) (lF l i j) 3 true])/\bw A h p (gO [bq.row (.i .i64) (lF l i j) 3 true]) (wz.res ((l.length,l),(i:Int),(j:Int))).g u/\Ext w F (gO [bq.row (.i .i64) l 3 true]) h p (gO [bq.row (.i .i64) (lF l i j) 3 true]);replace t:bT A w F (gO [bq.row (.i .i64) l 3 true]):=t;replace z:bG A w F (gO [bq.row (.i .i64) l 3 true]) (gL (wz.put ((l.length,l),(i:Int),(j:Int)))) X:=z;rw[I] at t z;rw[I,I,Z];rw[V] at z;obtain⟨b,a2,d,rfl,S,Q,q4,q5,q6⟩:=SN t K;simp only[bG] at z;obtain⟨v,r,rfl,M,v2,r2,rfl,C,v3,r3,rfl,D,rfl⟩:=z;simp only[bw] at M C D;obtain⟨a0,a,s,rfl,a3,J⟩:=M;obtain⟨rfl,_⟩:=C;obtain⟨rfl,_⟩:=D;have O:=J 1 ⟨_,_,_,rfl,by simp⟩;simp only[kB,δn] at O;obtain⟨rfl,rfl⟩:=O.2.1 trivial trivial (by omega);have hb:b<w.heap.size:=t.bnd 0 b s rfl;have W:=holds_of_blockI (ss:=l) Q q6;have T:maxLen=9223372036854775807:=rfl;have B:=@SQ l i j (by omega) (by omega);have E:Calls Tryz.prog (wz).f #[.slice (some ⟨b,0,none⟩) l.length s,.int .i64 i,.int .i64 j] w λe h=>e= .returned (.slice (some ⟨b,0,none⟩) (l.length - (j - i)) s)/\∃q,h=Sort.putRow (Value.int .i64) (Sort.ahead w q) b 0 (lF l i j).toArray:=by
  exact AnyE.slices_Delete Tryz.layD (Value.int .i64) (λ_=>rfl) 0 Tryz.zeroValue3 Tryz.t3 (by kernel_rfl) (by kernel_rfl) b 0 s i j l.toArray w W (by omega) (by omega) (by omega) (by simp;omega)
 refine Calls.mono E ?_;rintro e h ⟨rfl,q,rfl⟩;have y:=grownBy_sortedI (w:=w) (g:=b) (n:=q) (os:=#[]) (lF l i j).toArray;have L:=heap_sortedI (w:=w) (n:=q) (os:=#[]) (lF l i j).toArray Q;rw[Sort.grow_empty] at y L;have R:=take_putCellsI d (lF l i j) (by omega);have hz:(Sort.putCells (Value.int .i64) 0 (lF l i j).toArray d).size=d.size:=by simp[Sort.putCells]
 generalize Sort.putRow (Value.int .i64) (Sort.ahead w q) b 0 (lF l i j).toArray=h at*;generalize Sort.putCells (Value.int .i64) 0 (lF l i j).toArray d=o at*;have N:=t.upd (w':=h) (id:=0) (x':=.cells ((lF l i j).map λx=>δd (.int .i64 x)) 3 1 true) (s':=some (b,s)) rfl y.size y.os y.tape y.output
  (λk U H=>y.block k U λe=>by simp_all) (λb' c' e=>by simp_all)
  ⟨_,_,_,rfl,by simp[B],λ_=>rfl⟩ ?_
 ·refine⟨_,[some (b,s)],rfl,N.1,?_,N.2⟩;simp only[bw];refine⟨⟨_,_,_,_,rfl,by simp[B]⟩,_,_,rfl,by omega,λsz E=>?_⟩;obtain⟨_,_,_,E,_⟩:=E;grind[kB]
 ·intro hx;simp only[dF];refine⟨λ_=>by rw[<-mN];exact oZ _ _,by rw[<-mN];exact CS _ _,.inr ⟨b,s,o,rfl,S,L,by omega,by simp_all,?_⟩⟩;intro k c P;rw[γD] at P;obtain⟨x,G,rfl⟩:=ε.1 P;have a1:=(ζ.1 G).1;refine⟨.int .i64 x,?_,by simp[bw,Value.oneCell']⟩;have h9:(o.toList.take (lF l i j).length)[k]?=((lF l i j).map (Value.int .i64))[k]?:=by rw[R]
  grind
structure Game where
 rows:List (List Int)
 bounds:List Int
 offers:List Off
def A6:qx Game where
 put a:=.agg [.row (.bE (.i .i64)) a.rows,.row (.i .i64) a.bounds,.row .off a.offers];dec
  | .agg [r,v,x]=>match jH (.bE (.i .i64)) r,jH (.i .i64) v,jH .off x with
   |some c,some v,some x=>some ⟨c,v,x⟩
   |_,_,_=>none
  |_=>none;ok v a h:=by
  grind[SV.g,gL,o6]
 inj a b h:=by
  obtain⟨c,v,x⟩:=a;obtain⟨l,k,j⟩:=b;simp only[SV.g,gL,AV.agg.injEq,Θ,and_true,true_and,δ5] at h;have e:=ly (.bE (.i .i64)) h.1.1 h.1.2;have d:=ly (.i .i64) h.2.1.1 h.2.1.2;have f:=ly .off h.2.2.1 h.2.2.2;rw[e,d,f]
def yt:bM:=⟨61,bn,.one dQ,λ_=>True,λp=> .si .i64 (if bz p=0 then df p else 0)⟩
theorem h335:Holds Tryz.prog yt:=by
 refine cH (L:=[o9,xO]) yt lk (by grind[h79,h157]) ?_;rintro(p:bn) -;refine bR (let c:=(0:Int);let b:=decide (bz p≠c);let a:=γi .i64 (if bz p=c then df p else c);True/\(b=true->(γy .i64 0).same a)/\(b=false->p.classes.length<=8/\(γi .i64 (df p)).same a)) (by kernel_rfl) ?_;simp only[vcs];refine⟨λh=>by rw[if_neg h],λh=>?_⟩;have c:bz p=0:=γj.1 h;rw[if_pos c];have:=(dR c).1;omega
def iz (p:bn) (r:Int) (n:Nat):List Int:=(p.offers.take n).map (dX p r)
def Ei:bM:=⟨107,bn×Int,.cons dQ (.one (eA .i64)),λa=>bz a.1=0/\0<=a.2/\a.2<df a.1,λa=> .bI [.row (.i .i64) (iz a.1 a.2 a.1.offers.length),.si .i64 (dn a.1 a.2)]⟩
def acV (a:bn×Int):Nat->cF
 |5=> .inv Int (λi=>⟨[(1,.si .i64 a.2),(4,.ow 1 (iz a.1 a.2 i.toNat).length 1),(6,.ptr 2 0 20),(20,.row .off a.1.offers),(21,.si .i64 a.1.offers.length),(22,.si .i64 i)],[.cells a.1.ss 27 20 false,.row (.i .i64) (iz a.1 a.2 i.toNat) 3 true,.cells a.1.ss 87 20 false]⟩)
   (λs=>iS s 22) (λi=>0<=i/\i<=a.1.offers.length) (λi=>(a.1.offers.length - i).toNat) λ_ _=> .look
 |_=> .look
theorem h336:Holds Tryz.prog Ei:=by
 refine cH (L:=[yt,xR,xQ]) Ei acV (by simpa using⟨h335,h156,h158⟩) ?_;rintro⟨p,r⟩ ⟨hc,r0,r1⟩;simp only at hc r0 r1;refine bR (let a:=γi .i64;let b:=(0:Int);let c:=Ω;let d:=bq.row;let e:=SV.bI;let f:=γ1;let g:=bp.i .i64;let l:=c bp.off p.offers;let v:=decide (r<b);let o:=γy .i64 0;let w:=[a (dn p r)];let q:=e (c g (iz p r p.offers.length)::w);let y:=decide ((if bz p=b then df p else b)<=r);let m:=γT 2 0 20;let z:=(↑p.offers.length:Int);let h:=(↑p.offers.length:Int);let s:=a h;let n:=λ(u:Nat) ↦let A:=bq.cells [a p.supply.a0,a p.supply.a1,a p.supply.a2,a p.supply.a3,a p.supply.a4,a p.supply.a5,a p.opn.a0,a p.opn.a1,a p.opn.a2,a p.opn.a3,a p.opn.a4,a p.opn.a5,a p.cls.a0,a p.cls.a1,a p.cls.a2,a p.cls.a3,a p.cls.a4,a p.cls.a5,c g p.classes,l] u 20 false;A.same A;(v=true->0=0/\(e [c g [],o]).same q)/\(v=false->True/\(y=true->0=0/\(e [c g [],o]).same q)/\(y=false->((((a r).same (a r)/\(f 1 0 1).same (f 1 (iz p r 0).length 1)/\m.same m/\l.same l/\(a z).same s/\o.same (a 0)/\True)/\n 27/\(d g [] 3 true).same (d g (iz p r 0) 3 true)/\n 87/\True)/\b<=b/\b<=h)/\∀(x:Int),let t:=bj p.offers x.toNat bp.off.dflt;let j:=iz p r x.toNat;let B:=j.length+1;let k:=x+(1:Int);let C:=j++[dX p r t];let D:=a k;b<=x/\x<=h->(decide (x<h)=true->b<=x/\x<z/\x.toNat<p.offers.length/\(p.classes.length<=8/\b<=r/\r<df p/\b<=t.bX/\t.bX<(↑p.classes.length:Int))/\j.length=j.length/\B*8<=140737488355328/\B<=1000000000000/\cu .i64 k/\(((a r).same (a r)/\(f 1 C.length 1).same (f 1 (iz p r k.toNat).length 1)/\m.same m/\l.same l/\s.same s/\D.same D/\True)/\n 27/\(d g C 3 true).same (d g (iz p r k.toNat) 3 true)/\n 87/\True)/\(b<=k/\k<=h)/\(h - k).toNat<(h - x).toNat)/\(decide (x<h)=false->(p.classes.length<=8/\b<=r/\r<df p)/\j.length=j.length/\(e (c g j::w)).same q)))) (by kernel_rfl) ?_;simp only[vcs];obtain⟨g1,g2,g3,g4,g5⟩:=dR hc;have how:∀{x y:Nat},x=y->(γ1 1 x 1).same (γ1 1 y 1):=by rintro _ _ rfl;rfl
 have hrow:∀{x y:List Int},x=y->(bq.row (.i .i64) x 3 true).same (bq.row (.i .i64) y 3 true):=by rintro _ _ rfl;rfl
 rw[if_pos hc];refine⟨λh=>by omega,λ_=>⟨λh=>by omega,λ_=>⟨⟨?_,by omega,by omega⟩,?_⟩⟩⟩;·exact⟨how rfl,hrow rfl⟩
 ·rintro i ⟨i0,i1⟩;have hL:(iz p r i.toNat).length<=160:=by unfold iz;rw[List.length_map,γq];omega
  refine⟨λhi=>?_,λhi=>?_⟩
  ·have hx:=g5 _ (dr (d:=bp.off.dflt) (show i.toNat<p.offers.length by omega));have e:iz p r (i+1).toNat=iz p r i.toNat++[dX p r (bj p.offers i.toNat bp.off.dflt)]:=by
    unfold iz;rw[jX (d:=bp.off.dflt) i0 hi,γa];rfl
   rw[e];refine⟨i0,hi,?_,⟨g1,r0,r1,hx.1,hx.2.1⟩,?_,?_,?_,⟨how rfl,hrow rfl⟩,?_,?_⟩<;>omega
  ·rw[show i.toNat=p.offers.length by omega];exact⟨⟨g1,r0,r1⟩,rfl⟩
def mf (p:bn) (n:Nat):List (List Int):=(Γ n).map λr:Nat=>iz p r p.offers.length
def ko (p:bn) (n:Nat):List Int:=(Γ n).map λr:Nat=>dn p r
def nR (p:bn):Nat:=if bz p=0 then p.classes.length+12 else 0
def cO (p:bn):Game:=⟨mf p (nR p),ko p (nR p),p.offers⟩
theorem SR {p:bn} {n:Nat}:(mf p n).length=n:=by simp[mf]
theorem Ej {p:bn} {n:Nat}:(ko p n).length=n:=by simp[ko]
theorem acW {p:bn} {i:Int} (h:0<=i):mf p (i+1).toNat=mf p i.toNat++[iz p i p.offers.length]:=by
 unfold mf;rw[show(i+1).toNat=i.toNat+1 from by omega,εf,γa];grind
theorem acX {p:bn} {i:Int} (h:0<=i):ko p (i+1).toNat=ko p i.toNat++[dn p i]:=by
 unfold ko;rw[show(i+1).toNat=i.toNat+1 from by omega,εf,γa];grind
def Ek:bM:=⟨73,bn,.one dQ,λ_=>True,λp=>A6.put (cO p)⟩
def acY (p:bn):Nat->cF
 |3=> .inv Int (λi=>⟨[(1,.ptr 0 0 20),(2,.ptr 1 0 3),(3,.ptr 2 0 3),(11,.si .i64 (nR p)),(12,.si .i64 i)],[.cells p.ss 27 20 false,.cells [.sc (.slice none 0 0),.sc (.slice none 0 0),.sc (.slice none 0 0)] 130 3 false,.cells [.ow 4 (mf p i.toNat).length 1,.ow 3 (ko p i.toNat).length 1,.row .off p.offers] 130 3 false,.row (.i .i64) (ko p i.toNat) 3 true,.row (.bE (.i .i64)) (mf p i.toNat) 24 false]⟩)
   (λs=>iS s 12) (λi=>0<=i/\i<=nR p) (λi=>(nR p - i).toNat) λ_ _=> .look
 |_=> .look
theorem h325:Holds Tryz.prog Ek:=by
 refine cH (L:=[yt,Ei]) Ek acY (by grind[h335,h336]) ?_;rintro(p:bn) -;refine bR (let a:=γi .i64;let b:=bq.row;let h:=(0:Int);let j:=bq.cells;let l:=Ω;let o:=γ1;let y:=γT;let w:=y 0 0 20;let s:=y 1 0 3;let t:=y 2 0 3;let g:=(↑(nR p):Int);let z:=a g;let f:=bp.i .i64;let k:=[l bp.off p.offers];let u:=j (a p.supply.a0::a p.supply.a1::a p.supply.a2::a p.supply.a3::a p.supply.a4::a p.supply.a5::a p.opn.a0::a p.opn.a1::a p.opn.a2::a p.opn.a3::a p.opn.a4::a p.opn.a5::a p.cls.a0::a p.cls.a1::a p.cls.a2::a p.cls.a3::a p.cls.a4::a p.cls.a5::l f p.classes::k) 27 20 false;let A:=SV.sc (Value.slice none 0 0);let v:=j [A,A,A] 130 3 false;True/\(((w.same w/\s.same s/\t.same t/\(a (if bz p=h then df p else h)).same z/\(γy .i64 0).same (a 0)/\True)/\u.same u/\v.same v/\(j (o 4 0 1::o 3 0 1::k) 130 3 false).same (j (o 4 (mf p 0).length 1::o 3 (ko p 0).length 1::k) 130 3 false)/\(b f [] 3 true).same (b f (ko p 0) 3 true)/\(b f.bE [] 24 false).same (b f.bE (mf p 0) 24 false)/\True)/\h<=h/\h<=g)/\∀(x:Int),let e:=mf p x.toNat;let n:=e.length+1;let d:=ko p x.toNat;let m:=d.length+1;let c:=x+(1:Int);let r:=a c;let q:=e++[iz p x p.offers.length];h<=x/\x<=g->(decide (x<g)=true->(bz p=h/\h<=x/\x<df p)/\1=1/\e.length=e.length/\n*24<=140737488355328/\n<=1000000000000/\1=1/\d.length=d.length/\m*8<=140737488355328/\m<=1000000000000/\cu .i64 c/\((w.same w/\s.same s/\t.same t/\z.same z/\r.same r/\True)/\u.same u/\v.same v/\(j (o 4 q.length 1::o 3 (d++[dn p x]).length 1::k) 130 3 false).same (j (o 4 (mf p c.toNat).length 1::o 3 (ko p c.toNat).length 1::k) 130 3 false)/\(b f (d++[dn p x]) 3 true).same (b f (ko p c.toNat) 3 true)/\(b f.bE q 24 false).same (b f.bE (mf p c.toNat) 24 false)/\True)/\(h<=c/\c<=g)/\(g - c).toNat<(g - x).toNat)/\(decide (x<g)=false->e.length=e.length/\d.length=d.length/\(γN (l f.bE e::l f d::k)).same (γN [l f.bE (cO p).rows,l f (cO p).bounds,l bp.off (cO p).offers]))) (by kernel_rfl) ?_;simp only[vcs];have J:∀x:Int,0<=x->x<nR p->bz p=0/\x<df p/\nR p<=20:=by
  intro x H B;unfold nR at B ⊢;split at B
  ·rename_i G;have:=(dR G).1;simp_all[df]
  ·omega
 have E:(if bz p=0 then df p else 0)=((nR p:Nat):Int):=by
  grind[nR,df]
 have j:∀{a C b D:Nat} {l:List Off},a=C->b=D->(bq.cells [.ow 4 a 1,.ow 3 b 1,.row .off l] 130 3 false).same (.cells [.ow 4 C 1,.ow 3 D 1,.row .off l] 130 3 false):=by rintro _ _ _ _ _ rfl rfl;rfl
 have o:∀{x y:List Int},x=y->(bq.row (.i .i64) x 3 true).same (bq.row (.i .i64) y 3 true):=by rintro _ _ rfl;rfl
 have h:∀{x y:List (List Int)},x=y->(bq.row (.bE (.i .i64)) x 24 false).same (bq.row (.bE (.i .i64)) y 24 false):=by rintro _ _ rfl;rfl
 refine⟨⟨⟨E,j rfl rfl,o rfl,h rfl⟩,by omega,by omega⟩,?_⟩;rintro i ⟨I,K⟩;refine⟨λF=>?_,λF=>?_⟩;·grind[SR,Ej,acW,acX]
 ·rw[show i.toNat=nR p by omega];rfl
def nI (g:Game):Prop:=(g.rows.length=g.bounds.length/\g.bounds.length<=1000/\g.offers.length<=1000)/\(∀r∈g.rows,r.length=g.offers.length/\∀x∈r,0<=x/\x<=1000)/\∀b∈g.bounds, -1000<=b/\b<=1000
def pT (g:Game) (c:List Int):Prop:=∀x∈c,0<=(bj g.offers x.toNat bp.off.dflt).value/\(bj g.offers x.toNat bp.off.dflt).value<=1000000
def pr (g:Game) (c:List Int):Prop:=c.length<=1000/\∀x∈c,0<=x/\x<g.offers.length
def mg (g:Game) (c:List Int) (r:Nat):Int:=(c.map λx=>bj (bj g.rows r []) x.toNat 0).sum
def lh (g:Game) (c:List Int):Bool:=(Γ g.bounds.length).all λr=>decide (0<=bj g.bounds r 0 - mg g c r)
def dI (g:Game) (c:List Int):Int:=(c.map λx=>(bj g.offers x.toNat bp.off.dflt).value).sum
theorem SS {f:Int->Int} {c:List Int} {i:Int} (a:0<=i) (h:i<c.length):((c.take (i+1).toNat).map f).sum=((c.take i.toNat).map f).sum+f (bj c i.toNat 0):=by
 grind[jX]
theorem JD {f:Int->Int} {c:List Int} {k:Nat} {m:Int} (b:0<=m) (h:∀x∈c,0<=f x/\f x<=m):0<=((c.take k).map f).sum/\((c.take k).map f).sum<=c.length*m:=by
 induction c generalizing k with
 |nil=>simp;|cons x c a=>
  cases k with
  |zero=>simp;exact Int.mul_nonneg (by omega) b;|succ k=>
   have i:=h x (by simp);obtain⟨g,e⟩:=a (k:=k) λy d=>h y (by simp[d]);simp only[List.take_succ_cons,π,List.sum_cons,List.length_cons];grind
def Em:bM:=⟨78,Game×List Int,.cons A6 (.one (dM (.i .i64))),λa=>nI a.1/\pr a.1 a.2,λa=> .sb (lh a.1 a.2)⟩
def acZ (g:Game) (c:List Int):Nat->cF
 |2=> .inv Int (λi=>⟨[(1,.row (.i .i64) c),(2,.ptr 0 0 3),(10,.row (.i .i64) g.bounds),(11,.si .i64 g.bounds.length),(12,.si .i64 i)],[.cells [.row (.bE (.i .i64)) g.rows,.row (.i .i64) g.bounds,.row .off g.offers] 130 3 false]⟩)
   (λs=>iS s 12) (λi=>(0<=i/\i<=g.bounds.length)/\∀r:Nat,r<i->0<=bj g.bounds r 0 - mg g c r) (λi=>(g.bounds.length - i).toNat) λi k=>match k with
   |5=> .inv (Int×Int) (λy=>⟨[(1,.row (.i .i64) c),(2,.ptr 0 0 3),(5,.si .i64 i),(6,.si .i64 y.2),(10,.row (.i .i64) g.bounds),(11,.si .i64 g.bounds.length),(12,.si .i64 i),(17,.row (.i .i64) c),(18,.si .i64 c.length),(19,.si .i64 y.1)],[.cells [.row (.bE (.i .i64)) g.rows,.row (.i .i64) g.bounds,.row .off g.offers] 130 3 false]⟩)
     (λs=>(iS s 19,iS s 6)) (λy=>(0<=y.1/\y.1<=c.length)/\y.2=bj g.bounds i.toNat 0 - mg g (c.take y.1.toNat) i.toNat) (λy=>(c.length - y.1).toNat) λ_ _=> .look
   |_=> .look
 |_=> .look
theorem h327:Holds Tryz.prog Em:=by
 refine cH (L:=[]) Em (λa=>acZ a.1 a.2) (by simp) ?_;rintro⟨g,c⟩ ⟨⟨⟨Y,q2,q3⟩,hr,U⟩,O,C⟩;simp only at Y q2 q3 hr U O C;refine bR (let a:=(0:Int);let d:=γi .i64;let f:=Ω;let h:=γy .i64 0;let j:=cu .i64;let e:=bp.i .i64;let t:=γT 0 0 3;let o:=f e g.bounds;let Q:=(↑g.bounds.length:Int);let q:=(↑g.bounds.length:Int);let z:=d q;let u:=bq.cells [f e.bE g.rows,o,f bp.off g.offers] 130 3 false;let s:=(↑c.length:Int);let I:=d s;((((f e c).same (f e c)/\t.same t/\o.same o/\(d Q).same z/\(h).same (d 0)/\True)/\u.same u/\True)/\(a<=a/\a<=q)/\∀(r:Nat),(↑r:Int)<a->a<=bj g.bounds r a - mg g c r)/\∀(x:Int),let F:=bj g.bounds x.toNat a;let E:=d F;let y:=bj g.rows x.toNat e.bE.dflt;let k:=x+(1:Int);let A:=d k;((a<=x/\x<=q)/\∀(r:Nat),(↑r:Int)<x->a<=bj g.bounds r a - mg g c r)->(decide (x<q)=true->a<=x/\x<Q/\x.toNat<g.bounds.length/\((((f e c).same (f e c)/\t.same t/\(d x).same (d x)/\E.same E/\o.same o/\z.same z/\(d x).same (d x)/\(f e c).same (f e c)/\(d (↑c.length:Int)).same I/\(h).same (d 0)/\True)/\u.same u/\True)/\(a<=a/\a<=s)/\F=F - mg g [] x.toNat)/\∀(b:Int×Int),let p:=bj c b.fst.toNat a;let w:=b.snd - bj y p.toNat a;let l:=b.fst+(1:Int);let n:=d x;let H:=d w;let D:=d l;let G:=decide (b.snd<a);(a<=b.fst/\b.fst<=s)/\b.snd=F - mg g (ω b.fst.toNat c) x.toNat->(decide (b.fst<s)=true->a<=b.fst/\b.fst<(↑c.length:Int)/\b.fst.toNat<c.length/\a<=x/\x<(↑g.rows.length:Int)/\x.toNat<g.rows.length/\a<=p/\p<(↑y.length:Int)/\p.toNat<y.length/\j w/\j l/\(((f e c).same (f e c)/\t.same t/\n.same n/\H.same H/\o.same o/\z.same z/\n.same n/\(f e c).same (f e c)/\I.same I/\D.same D/\True)/\u.same u/\True)/\((a<=l/\l<=s)/\w=F - mg g (ω l.toNat c) x.toNat)/\(s - l).toNat<(s - b.fst).toNat)/\(decide (b.fst<s)=false->(G=true->(δf false).same (γw (lh g c)))/\(G=false->j k/\(((f e c).same (f e c)/\t.same t/\o.same o/\z.same z/\A.same A/\True)/\u.same u/\True)/\((a<=k/\k<=q)/\∀(r:Nat),(↑r:Int)<k->a<=bj g.bounds r a - mg g c r)/\(q - k).toNat<(q - x).toNat)))/\(decide (x<q)=false->(δf true).same (γw (lh g c)))) (by kernel_rfl) ?_;simp only[vcs];have hd:(bp.i IntKind.i64).bE.dflt=([]:List Int):=rfl;rw[hd];have M:∀r:Nat,r<g.rows.length->(bj g.rows r []).length=g.offers.length/\∀x∈c,0<=bj (bj g.rows r []) x.toNat 0/\bj (bj g.rows r []) x.toNat 0<=1000:=λr h=>by
  grind[dr]
 refine⟨⟨by omega,λr h=>by omega⟩,?_⟩;rintro i ⟨⟨Z,i1⟩,K⟩;refine⟨λP=>⟨Z,P,by omega,⟨by omega,by simp[mg]⟩,?_⟩,λP=>?_⟩
 ·obtain⟨W,B⟩:=M i.toNat (by omega);have a1:=U _ (dr (d:=0) (show i.toNat<g.bounds.length by omega));rintro⟨j,v⟩ ⟨⟨S,j1⟩,J⟩;simp only at S j1 J ⊢;refine⟨λV=>?_,λV=>?_⟩
  ·have hx:=C _ (dr (d:=0) (show j.toNat<c.length by omega));have hs:mg g (c.take (j+1).toNat) i.toNat=mg g (c.take j.toNat) i.toNat+bj (bj g.rows i.toNat []) (bj c j.toNat 0).toNat 0:=SS (f:=λx=>bj (bj g.rows i.toNat []) x.toNat 0) S V;have X:0<=mg g (c.take j.toNat) i.toNat/\mg g (c.take j.toNat) i.toNat<=c.length*1000:=JD (f:=λx=>bj (bj g.rows i.toNat []) x.toNat 0) (m:=1000) (by omega) B;have a0:=B _ (dr (d:=0) (show j.toNat<c.length by omega));omega
  ·have N:j.toNat=c.length:=by omega
   rw[N,ψ] at J;refine⟨λR=>?_,λT=>⟨by omega,⟨by omega,λr h=>?_⟩,by omega⟩⟩
   ·symm;rw[<-Bool.not_eq_true,lh,φ];intro h;have:=of_decide_eq_true (h i.toNat (γx.2 (by omega)));omega
   ·by_cases h2:(r:Int)<i;·simp_all
    ·rw[show r=i.toNat by omega,<-J];omega
 grind[lh]
def yu:bM:=⟨75,Game×List Int,.cons A6 (.one (dM (.i .i64))),λa=>nI a.1/\pr a.1 a.2/\pT a.1 a.2,λa=> .si .i64 (dI a.1 a.2)⟩
def ac0 (g:Game) (c:List Int):Nat->cF
 |3=> .inv Int (λi=>⟨[(2,.ptr 0 0 3),(5,.si .i64 (dI g (c.take i.toNat))),(8,.row (.i .i64) c),(9,.si .i64 c.length),(10,.si .i64 i)],[.cells [.row (.bE (.i .i64)) g.rows,.row (.i .i64) g.bounds,.row .off g.offers] 130 3 false]⟩)
   (λs=>iS s 10) (λi=>0<=i/\i<=c.length) (λi=>(c.length - i).toNat) λ_ _=> .look
 |_=> .look
theorem h328:Holds Tryz.prog yu:=by
 refine cH (L:=[]) yu (λa=>ac0 a.1 a.2) (by simp) ?_;rintro⟨g,c⟩ ⟨⟨⟨D,E,C⟩,B,y⟩,⟨q,l⟩,e⟩;simp only[pT] at D E C B y q l e;refine bR (let a:=γi .i64;let d:=(0:Int);let e:=Ω;let o:=γT 0 0 3;let v:=γy .i64 0;let j:=bp.i .i64;let b:=(↑c.length:Int);let r:=a b;let n:=bq.cells [e j.bE g.rows,e j g.bounds,e bp.off g.offers] 130 3 false;(((o.same o/\v.same (a (dI g []))/\(e j c).same (e j c)/\(a (↑c.length:Int)).same r/\v.same (a 0)/\True)/\n.same n/\True)/\d<=d/\d<=b)/\∀(x:Int),let p:=bj c x.toNat d;let t:=dI g (ω x.toNat c);let s:=t+(bj g.offers p.toNat bp.off.dflt).value;let h:=x+(1:Int);let k:=a h;d<=x/\x<=b->(decide (x<b)=true->d<=x/\x<(↑c.length:Int)/\x.toNat<c.length/\d<=p/\p<(↑g.offers.length:Int)/\p.toNat<g.offers.length/\cu .i64 s/\cu .i64 h/\((o.same o/\(a s).same (a (dI g (ω h.toNat c)))/\(e j c).same (e j c)/\r.same r/\k.same k/\True)/\n.same n/\True)/\(d<=h/\h<=b)/\(b - h).toNat<(b - x).toNat)/\(decide (x<b)=false->(a t).same (a (dI g c)))) (by kernel_rfl) ?_;conv=>zeta
 try simp only[vcs]
 refine⟨⟨by simp[dI],by omega,by omega⟩,?_⟩;rintro i ⟨A,H⟩;refine⟨λu=>?_,λu=>?_⟩
 ·have F:=l _ (dr (d:=0) (show i.toNat<c.length by omega));have G:dI g (c.take (i+1).toNat)=dI g (c.take i.toNat)+(bj g.offers (bj c i.toNat 0).toNat bp.off.dflt).value:=SS (f:=λx=>(bj g.offers x.toNat bp.off.dflt).value) A u;have w:0<=dI g (c.take i.toNat)/\dI g (c.take i.toNat)<=c.length*1000000:=JD (f:=λx=>(bj g.offers x.toNat bp.off.dflt).value) (m:=1000000) (by omega) e;have z:=e _ (dr (d:=0) (show i.toNat<c.length by omega));omega
 ·rw[show i.toNat=c.length by omega,ψ]
def En:bM:=⟨77,List Int×List Int,.cons (dM (.i .i64)) (.one (dM (.i .i64))),λa=>a.1.length<=1000/\1<=a.2.length/\a.2.length<=1000,λa=> .row (.i .i64) (dZ (a.1++a.2))⟩
theorem h326:Holds Tryz.prog En:=by
 refine con (L:=[]) (W:=gK [wy,A4]) En lk (kY (by grind[h330o,h337])) (by simp) ?_;rintro⟨s,x⟩ ⟨b,c,d⟩;simp only at b c d;refine bR (let a:Nat:=(s++x).length;s.length<=1000000/\s.length=s.length/\(s.length+x.length)*8<=140737488355328/\s.length+x.length<=1000000000000/\((s++x).length=a/\1<=a/\a<=1000000)/\(s++x).length=(dZ (s++x)).length/\(Ω (bp.i .i64) (dZ (s++x))).same (Ω (bp.i .i64) (dZ (s++x)))) (by kernel_rfl) ?_;conv=>zeta
 try simp only[vcs]
 grind[qN]
def JE:bM:=⟨109,List Int×Int,.cons (dM (.i .i64)) (.one (eA .i64)),λa=>a.1.length<=1000/\0<=a.2/\a.2<a.1.length,λa=> .row (.i .i64) (a.1.take a.2.toNat++a.1.drop (a.2+1).toNat)⟩
theorem h339:Holds Tryz.prog JE:=by
 refine con (L:=[]) (W:=gK [wy,wz]) JE lk (kY (by grind[h330o,h347])) (by simp) ?_;rintro⟨s,i⟩ ⟨d,e,f⟩;simp only at d e f;refine bR (let a:=i+(1:Int);let c:=lF s i.toNat a.toNat;let b:=s.length - (a - i).toNat;s.length<=1000000/\cu .i64 a/\((s.length=s.length/\1<=s.length/\s.length<=1000000)/\(0:Int)<=i/\i<=a/\a<=(↑s.length:Int))/\s.length=c.length/\0+b<=s.length/\(Ω (bp.i .i64) (ω b c)).same (Ω (bp.i .i64) (ω i.toNat s++List.drop a.toNat s))) (by kernel_rfl) ?_;conv=>zeta
 try simp only[vcs]
 have g:=@SQ s i.toNat (i+1).toNat (by omega) (by omega);refine⟨by omega,by omega,by omega,g.symm,by omega,?_⟩;unfold lF;rw[List.take_append_of_le_length (by grind),γo (by grind)]
def sZ (c:List Int) (x:Int):Int:=if x∈c then(c.idxOf x:Int) else -1
theorem ac1 {c:List Int} {x:Int} {k:Nat} (h:k<c.length) (b:∀j:Nat,j<k->bj c j 0≠x) (a:bj c k 0=x):sZ c x=k:=by
 unfold sZ;rw[if_pos (a▸dr h)];congr 1;rw[cQ h] at a;rw[List.idxOf,List.findIdx_eq h];grind[cQ]
theorem ac2 {c:List Int} {x:Int} (a:∀j:Nat,j<c.length->bj c j 0≠x):sZ c x= -1:=by
 unfold sZ;rw[if_neg];intro h;obtain⟨k,b,rfl⟩:=γI h;grind[cQ]
theorem ac3 {c:List Int} {x:Int}:0<=sZ c x↔x∈c:=by
 grind[sZ]
def JF:bM:=⟨148,List Int×Int,.cons (dM (.i .i64)) (.one (eA .i64)),λa=>a.1.length<=1000,λa=> .si .i64 (sZ a.1 a.2)⟩
def ac4 (c:List Int) (x:Int):Nat->cF
 |2=> .inv Int (λi=>⟨[(0,.row (.i .i64) c),(1,.si .i64 x),(7,.si .i64 c.length),(8,.si .i64 i)],[]⟩)
   (λs=>iS s 8) (λi=>(0<=i/\i<=c.length)/\∀k:Nat,(k:Int)<i->bj c k 0≠x) (λi=>(c.length - i).toNat) λ_ _=> .look
 |_=> .look
theorem h348:Holds Tryz.prog JF:=by
 refine cH (L:=[]) JF (λa=>ac4 a.1 a.2) (by simp) ?_;rintro⟨c,x⟩ o;replace o:c.length<=1000:=o;refine bR (let a:=γi .i64;let h:=(0:Int);let f:=Ω (bp.i .i64) c;let d:=(↑c.length:Int);let g:=a d;let n:=a (sZ c x);(((f.same f/\(a x).same (a x)/\(a (↑c.length:Int)).same g/\(γy .i64 0).same (a 0)/\True)/\True)/\(h<=h/\h<=d)/\∀(k:Nat),(↑k:Int)<h->bj c k h≠x)/\∀(b:Int),let l:=decide (x=bj c b.toNat h);let e:=b+(1:Int);let j:=a x;let m:=a e;((h<=b/\b<=d)/\∀(k:Nat),(↑k:Int)<b->bj c k h≠x)->(decide (b<d)=true->h<=b/\b<(↑c.length:Int)/\b.toNat<c.length/\(l=true->(a b).same n)/\(l=false->cu .i64 e/\((f.same f/\j.same j/\g.same g/\m.same m/\True)/\True)/\((h<=e/\e<=d)/\∀(k:Nat),(↑k:Int)<e->bj c k h≠x)/\(d - e).toNat<(d - b).toNat))/\(decide (b<d)=false->(γy .i64 (-1:Int)).same n)) (by kernel_rfl) ?_;conv=>zeta
 try simp only[vcs]
 refine⟨⟨by omega,λk h=>by omega⟩,?_⟩;grind[ac1,ac2]
def JG:bM:=⟨110,List Int×Int,.cons (dM (.i .i64)) (.one (eA .i64)),λa=>a.1.length<=1000,λa=> .sb (decide (a.2∈a.1))⟩
theorem h340:Holds Tryz.prog JG:=by
 refine cH (L:=[JF]) JG lk (by grind[h348]) ?_;rintro⟨c,x⟩ a;replace a:c.length<=1000:=a;refine bR (c.length<=1000/\(γw (decide ((0:Int)<=sZ c x))).same (γw (decide (x∈c)))) (by kernel_rfl) ?_;simp_all[ac3]
theorem A7 {p:bn} (a:bz p=0) {r:Int}:0<=dn p r/\dn p r<=4:=by
 obtain⟨_,_,b,c,_⟩:=dR a;unfold dn;split;·omega
 ·split;all_goals simp_all[HK]
theorem SU {p:bn} (h:p.offers.length<=1000):nI (cO p):=by
 have j:nR p<=20:=by
  unfold nR;split
  ·rename_i a;have:=(dR a).1;omega
  ·omega
 have d:0<nR p->bz p=0:=by
  grind[nR]
 refine⟨⟨?_,?_,h⟩,λr f=>?_,λb g=>?_⟩
 ·show(mf p (nR p)).length=(ko p (nR p)).length;rw[SR,Ej]
 ·show(ko p (nR p)).length<=1000;grind[Ej]
 ·obtain⟨k,c,rfl⟩:=Ψ.1 (show r∈mf p (nR p) from f);rw[γx] at c;have a:=d (by omega);refine⟨by simp[iz,cO],λx i=>?_⟩;obtain⟨o,e,rfl⟩:=Ψ.1 (show x∈iz p k p.offers.length from i);have:=pO (p:=p) (r:=k) ((dR a).2.2.2.2 o (γm e)).2.2.1;omega
 ·obtain⟨k,c,rfl⟩:=Ψ.1 (show b∈ko p (nR p) from g);rw[γx] at c;have:=A7 (d (by omega)) (r:=k);omega
def stepG (g:Game) (c:List Int) (x:Int):List Int:=if lh g (dZ (c++[x]))=true then dZ (c++[x]) else c
def oC (g:Game) (l:List Int):List Int:=l.foldl (stepG g) []
def gQ (p:bn):List Int:=if bz p=0 then wv p else[]
def jZ (p:bn):List Int:=oC (cO p) (gQ p)
theorem Eo {l:List Int} {x:Int}:x∈dZ l↔x∈l:=(δs _ _).mem_iff
theorem SX {g:Game} {c:List Int} {x y:Int} (h:y∈stepG g c x):y∈c\/y=x:=by
 grind[stepG,Eo]
theorem ac5 {g:Game} {c:List Int} {x:Int}:(stepG g c x).length<=c.length+1:=by
 grind[stepG,qN]
theorem SY {g:Game} {l:List Int}:∀{c:List Int} {y:Int},y∈l.foldl (stepG g) c->y∈c\/y∈l:=by
 induction l<;>grind[SX]
theorem ac6 {g:Game} {l:List Int}:∀{c:List Int},(l.foldl (stepG g) c).length<=c.length+l.length:=by
 induction l<;>grind[stepG,ac5]
theorem ac7 {g:Game} {l:List Int}:(oC g l).length<=l.length:=by
 grind[ac6,oC]
theorem ac8 {g:Game} {l:List Int} {i:Int} (a:0<=i) (h:i<l.length):oC g (l.take (i+1).toNat)=stepG g (oC g (l.take i.toNat)) (bj l i.toNat 0):=by
 grind[oC,jX]
theorem JH {p:bn} {x:Int} (h:x∈gQ p):bz p=0/\mL p x:=by
 unfold gQ at h;split at h
 ·rename_i a;rw[wv,Js,kL] at h;exact⟨a,h⟩
 ·simp at h
theorem SZ {p:bn}:(gQ p).length<=p.offers.length:=by
 grind[gQ,wv,sX,iT]
theorem ac9 {p:bn} (d:p.offers.length<=20) {k:Nat}:(oC (cO p) ((gQ p).take k)).length<=40/\∀x∈oC (cO p) ((gQ p).take k),bz p=0/\mL p x:=by
 have b:=@ac7 (cO p) ((gQ p).take k);have c:=@SZ p;rw[γq] at b;refine⟨by omega,λx a=>?_⟩;rcases SY a with h|h<;>grind[SY,JH]
def A8:bM:=⟨55,bn,.one dQ,λp=>p.offers.length<=20,λp=>nu.put ⟨jZ p,dI (cO p) (jZ p)⟩⟩
def ada (p:bn):Nat->cF
 |4=> .inv Int (λi=>⟨[(2,.ptr 1 0 2),(3,.ptr 2 0 3),(4,.row (.i .i64) (oC (cO p) ((gQ p).take i.toNat))),(11,.row (.i .i64) (gQ p)),(12,.si .i64 (gQ p).length),(13,.si .i64 i)],[.cells p.ss 27 20 false,.cells [.sc (.slice none 0 0),.il .i64 0] 40 2 false,.cells [.row (.bE (.i .i64)) (cO p).rows,.row (.i .i64) (cO p).bounds,.row .off (cO p).offers] 130 3 false,.dead]⟩)
   (λs=>iS s 13) (λi=>0<=i/\i<=(gQ p).length) (λi=>((gQ p).length - i).toNat) λ_ _=> .look
 |_=> .look
theorem h312:Holds Tryz.prog A8:=by
 refine cH (L:=[Ek,JC,En,Em,yu]) A8 ada (by simpa using⟨h325,h308,h326,h327,h328⟩) ?_;intro(p:bn) (hp:p.offers.length<=20);refine bR (let a:=γi .i64;let b:=Ω;let c:=(0:Int);let d:=bq.cells;let j:=γT 1 0 2;let k:=γT 2 0 3;let e:=bp.i .i64;let s:=if bz p=c then wv p else[];let o:=b e (gQ p);let f:=(↑(gQ p).length:Int);let q:=a f;let t:=γy .i64 0;let l:=d [a p.supply.a0,a p.supply.a1,a p.supply.a2,a p.supply.a3,a p.supply.a4,a p.supply.a5,a p.opn.a0,a p.opn.a1,a p.opn.a2,a p.opn.a3,a p.opn.a4,a p.opn.a5,a p.cls.a0,a p.cls.a1,a p.cls.a2,a p.cls.a3,a p.cls.a4,a p.cls.a5,b e p.classes,b bp.off p.offers] 27 20 false;let m:=d [SV.sc (Value.slice none 0 0),t] 40 2 false;let n:=d [b e.bE (cO p).rows,b e (cO p).bounds,b bp.off (cO p).offers] 130 3 false;True/\0=0/\p.offers.length<=20/\(((j.same j/\k.same k/\(b e []).same (b e (oC (cO p) []))/\(b e s).same o/\(a (↑s.length:Int)).same q/\t.same (a 0)/\True)/\l.same l/\m.same m/\n.same n/\bq.dead.same bq.dead/\True)/\c<=c/\c<=f)/\∀(x:Int),let g:=oC (cO p) (ω x.toNat (gQ p));let r:=dZ (g++[bj (gQ p) x.toNat c]);let h:=x+(1:Int);let v:=a h;let w:=λ(u:Bool) (u_1:List Int) ↦lh (cO p) r=u->cu .i64 h/\((j.same j/\k.same k/\(b e u_1).same (b e (oC (cO p) (ω h.toNat (gQ p))))/\o.same o/\q.same q/\v.same v/\True)/\l.same l/\m.same m/\n.same n/\bq.dead.same bq.dead/\True)/\(c<=h/\h<=f)/\(f - h).toNat<(f - x).toNat;c<=x/\x<=f->(decide (x<f)=true->c<=x/\x<(↑(gQ p).length:Int)/\x.toNat<(gQ p).length/\(g.length<=1000/\1<=1/\1<=1000)/\(nI (cO p)/\pr (cO p) r)/\w true r/\w false g)/\(decide (x<f)=false->(nI (cO p)/\pr (cO p) g/\pT (cO p) g)/\(γN [b e g,a (dI (cO p) g)]).same (γN [b e (jZ p),a (dI (cO p) (jZ p))]))) (by kernel_rfl) ?_;conv=>zeta
 try simp only[vcs]
 have hg:=@SU p (by omega);have hol:=@SZ p;have e0:(if bz p=0 then wv p else[])=gQ p:=rfl;rw[e0];refine⟨hp,⟨⟨rfl,rfl,rfl⟩,by omega,by omega⟩,?_⟩
 ·rintro i ⟨i0,i1⟩;obtain⟨hsl,hsm⟩:=@ac9 p hp i.toNat;refine⟨λhi=>?_,λhi=>?_⟩
  ·have hs:=@ac8 (cO p) (gQ p) i i0 hi;have hx:=JH (dr (d:=0) (show i.toNat<(gQ p).length by omega));rw[hs];generalize oC (cO p) ((gQ p).take i.toNat)=c at*;refine⟨i0,hi,by omega,⟨by omega,by omega,by omega⟩,⟨hg,by rw[qN,γg];simp;omega,λx h=>?_⟩,λh=>⟨by omega,by unfold stepG;rw[if_pos h],by omega,by omega⟩,λh=>⟨by omega,by unfold stepG;rw[if_neg (by rw[h];simp)],by omega,by omega⟩⟩;rw[Eo,γk] at h;rcases h with h|h;·exact(hsm x h).2
   ·rw[List.mem_singleton] at h;rw[h];exact hx.2
  ·have hk:(gQ p).take i.toNat=gQ p:=γo (by omega);rw[hk] at hsl hsm ⊢;refine⟨⟨hg,⟨by omega,λx h=>(hsm x h).2⟩,λx h=>?_⟩,rfl⟩;obtain⟨hc,hx⟩:=hsm x h;have:=(AW hc hx).1;have e:(bj (cO p).offers x.toNat bp.off.dflt).value=rH p x:=rfl;rw[e];omega
def rJ (g:Game):List SV:=[.row (.bE (.i .i64)) g.rows,.row (.i .i64) g.bounds,.row .off g.offers]
def JI:List SV->Option Game
 |[r,v,x]=>match jH (.bE (.i .i64)) r,jH (.i .i64) v,jH .off x with
  |some c,some v,some x=>some ⟨c,v,x⟩
  |_,_,_=>none
 |_=>none
theorem adb {cs:List SV} {g:Game} (h:JI cs=some g):gL cs=gL (rJ g):=by
 unfold JI at h;grind[rJ,gL,o6]
theorem ade {g a:Game} (h:gL (rJ g)=gL (rJ a)):g=a:=A6.inj g a (by
 show AV.agg (gL (rJ g))=AV.agg (gL (rJ a));rw[h])
def nJ (g:Game) (v:Int) (c:List Int):Bool:=decide (v<dI g c)&&lh g c
def JJ:dH where
 f:=108;α:=List Int×Game×Int;put a:=[.row (.i .i64) a.1,.ptr 0 0 3,.ptr 1 0 1];st a:=[.cells (rJ a.2.1) 130 3 false,.cells [.si .i64 a.2.2] 2 1 false];dec v o:=match v,o with
  |[x,.ptr 0 0 3,.ptr 1 0 1],[.cells cs 130 3 false,.cells [y] 2 1 false]=>match jH (.i .i64) x,JI cs,y.int .i64 with
   |some x,some g,some y=>some (x,g,y)
   |_,_,_=>none
  |_,_=>none;ok v o a h:=by
  split at h
  ·split at h
   ·rename_i h1 h2 h3;simp only[γ] at h;subst h;refine⟨by simp only[gL,o6 h1],?_⟩;simp only[gO,π,γr,bq.g,adb h2,gL,iN h3];rfl
   ·cases h
  ·cases h
 inj a b h1 h2:=by
  simp only[gL,Θ,and_true,SV.g,δ5] at h1;simp only[gO,π,γr,bq.g,Θ,bQ.cells.injEq,and_true,gL,SV.g,δb,Value.int.injEq,true_and] at h2;have h3:=ade h2.1;have h4:=ly (.i .i64) h1.1 h1.2;exact Prod.ext h4 (Prod.ext h3 h2.2)
 dom a:=nI a.2.1/\pr a.2.1 a.1/\pT a.2.1 a.1;res a:=.sb (nJ a.2.1 a.2.2 a.1);out a:=[.cells (rJ a.2.1) 130 3 false,.cells [.si .i64 a.2.2] 2 1 false]
theorem h338:ec Tryz.prog JJ:=by
 refine lz (L:=[Em,yu]) (W:=[]) JJ lk (by simp) (by grind[h327,h328]) ?_;rintro⟨c,g,v⟩ ⟨j,f,h⟩;simp only at j f h;refine bR (let f:=Ω;let e:=bq.cells [f (bp.i .i64).bE g.rows,f (bp.i .i64) g.bounds,f bp.off g.offers] 130 3 false;let a:=bq.cells [γi .i64 v] 2 1 false;let b:=decide (v<dI g c);let d:=e.same e/\a.same a/\True;(nI g/\pr g c/\pT g c)/\(b=true->(nI g/\pr g c)/\(γw (lh g c)).same (γw (nJ g v c))/\d)/\(b=false->(δf false).same (γw (nJ g v c))/\d)) (by kernel_rfl) ?_;simp_all[vcs,nJ,decide_eq_false]
def pU (g:Game) (c:List Int) (v:Int) (a:List Int) (o k:Int):Option (List Int):=if k<=o\/k∈c then none else if nJ g v (dZ (a++[o,k]))=true then some (dZ (a++[o,k])) else none
def nK (g:Game) (c:List Int) (v:Int) (a:List Int) (o:Int):Option (List Int):=if o∈c then none else if nJ g v (dZ (a++[o]))=true then some (dZ (a++[o])) else(Γ g.offers.length).findSome? λk:Nat=>pU g c v a o k
def iU (c:List Int) (i:Nat):List Int:=c.take i++c.drop (i+1)
def yv (g:Game) (c:List Int) (v:Int) (i:Nat):Option (List Int):=(Γ g.offers.length).findSome? λo:Nat=>nK g c v (iU c i) o
def je (g:Game) (c:List Int):Option (List Int):=(Γ c.length).findSome? λi=>yv g c (dI g c) i
theorem Ep {n:Nat} {f:Nat->Option (List Int)} (h:∀i,i<n->f i=none):(Γ n).findSome? f=none:=by
 simp_all
theorem Es {n i:Nat} {f:Nat->Option (List Int)} {t:List Int} (c:i<n) (h:∀j,j<i->f j=none) (b:f i=some t):(Γ n).findSome? f=some t:=by
 have e:Γ n=Γ i++(i::(Γ (n - (i+1))).map λk=>i+1+k):=by
  have a:=@List.range_add i (n - i);rw[show i+(n - i)=n by omega] at a;rw[a,show n - i=(n - (i+1))+1 by omega,List.range_succ_eq_map];simp only[π,γ3,Nat.add_zero];congr 2;apply γZ;grind
 simp_all[Ep]
def uG (g:Game):Prop:=nI g/\∀o∈g.offers,0<=o.value/\o.value<=1000000
def JK:bM:=⟨74,Game×List Int,.cons A6 (.one (dM (.i .i64))),λa=>uG a.1/\(a.2.length<=900/\∀x∈a.2,0<=x/\x<a.1.offers.length),λa=> .bI [.row (.i .i64) ((je a.1 a.2).getD []),.sb (je a.1 a.2).isSome]⟩
def JL (g:Game) (c:List Int):bZ:=[.cells (rJ g) 130 3 false,.cells [.si .i64 (dI g c)] 2 1 false]
def adf (g:Game) (c:List Int):Nat->cF
 |4=> .inv Int (λi=>⟨[(1,.row (.i .i64) c),(2,.ptr 0 0 3),(7,.fn (.func 108) [] [.ptr 0 0 3,.ptr 1 0 1]),(19,.si .i64 c.length),(20,.si .i64 i)],JL g c⟩)
   (λs=>iS s 20) (λi=>(0<=i/\i<=c.length)/\∀k:Nat,(k:Int)<i->yv g c (dI g c) k=none) (λi=>(c.length - i).toNat) λi k=>match k with
   |8=> .inv Int (λo=>⟨[(1,.row (.i .i64) c),(2,.ptr 0 0 3),(7,.fn (.func 108) [] [.ptr 0 0 3,.ptr 1 0 1]),(9,.row (.i .i64) (iU c i.toNat)),(19,.si .i64 c.length),(20,.si .i64 i),(28,.si .i64 g.offers.length),(29,.si .i64 o)],JL g c⟩)
     (λs=>iS s 29) (λo=>(0<=o/\o<=g.offers.length)/\∀k:Nat,(k:Int)<o->nK g c (dI g c) (iU c i.toNat) k=none) (λo=>(g.offers.length - o).toNat) λo k=>match k with
     |15=> .inv Int (λz=>⟨[(1,.row (.i .i64) c),(2,.ptr 0 0 3),(7,.fn (.func 108) [] [.ptr 0 0 3,.ptr 1 0 1]),(9,.row (.i .i64) (iU c i.toNat)),(10,.si .i64 o),(12,.si .i64 z),(19,.si .i64 c.length),(20,.si .i64 i),(28,.si .i64 g.offers.length),(29,.si .i64 o)],JL g c⟩)
       (λs=>iS s 12) (λz=>(o<z/\z<=g.offers.length)/\∀k:Nat,(k:Int)<z->pU g c (dI g c) (iU c i.toNat) o k=none) (λz=>(g.offers.length - z).toNat) λ_ _=> .look
     |_=> .look
   |_=> .look
 |_=> .look
theorem h331:Holds Tryz.prog JK:=by
 refine con (L:=[En,yu,JE,JG]) (W:=gK [JJ]) JK (λa=>adf a.1 a.2) (kY (by simpa using h338)) (by simpa using⟨h326,h328,h339,h340⟩) ?_;rintro⟨g,c⟩ ⟨⟨hg,hv⟩,hcl,hci⟩;simp only at hg hv hcl hci;refine bR (let a:=γi .i64;let b:=Ω;let d:=(0:Int);let e:=cu .i64;let f:=γy .i64 0;let h:=SV.bI;let j:=(1:Int);let l:=bp.i .i64;let n:=γT 0 0 3;let p:=SV.fn (Fn.func 108) [] [n,γT 1 0 1];let u:=(↑c.length:Int);let s:=a u;let q:=bq.cells [b l.bE g.rows,b l g.bounds,b bp.off g.offers] 130 3 false;let r:=bq.cells [a (dI g c)] 2 1 false;let F:=(↑g.offers.length:Int);let m:=(↑g.offers.length:Int);let v:=a m;let G:=h [b l ((je g c).getD []),γw (je g c).isSome];(nI g/\pr g c/\pT g c)/\((((b l c).same (b l c)/\n.same n/\p.same p/\(a (↑c.length:Int)).same s/\(f).same (a 0)/\True)/\q.same q/\r.same r/\True)/\(d<=d/\d<=u)/\∀(k:Nat),(↑k:Int)<d->yv g c (dI g c) k=none)/\∀(x:Int),let z:=x+j;let t:=iU c x.toNat;let w:=b l t;let H:=a z;((d<=x/\x<=u)/\∀(k:Nat),(↑k:Int)<x->yv g c (dI g c) k=none)->(decide (x<u)=true->(c.length<=1000/\d<=x/\x<u)/\((((b l c).same (b l c)/\n.same n/\p.same p/\(b l (ω x.toNat c++List.drop z.toNat c)).same w/\s.same s/\(a x).same (a x)/\(a F).same v/\(f).same (a 0)/\True)/\q.same q/\r.same r/\True)/\(d<=d/\d<=m)/\∀(k:Nat),(↑k:Int)<d->nK g c (dI g c) t (↑k:Int)=none)/\∀(x_1:Int),let o:=x_1+j;let y:=a x;let A:=a o;let C:=dZ (t++[x_1]);let I:=nJ g (dI g c) C;((d<=x_1/\x_1<=m)/\∀(k:Nat),(↑k:Int)<x_1->nK g c (dI g c) t (↑k:Int)=none)->(decide (x_1<m)=true->c.length<=1000/\(decide (x_1∈c)=true->e o/\(((b l c).same (b l c)/\n.same n/\p.same p/\w.same w/\s.same s/\y.same y/\v.same v/\A.same A/\True)/\q.same q/\r.same r/\True)/\((d<=o/\o<=m)/\∀(k:Nat),(↑k:Int)<o->nK g c (dI g c) t (↑k:Int)=none)/\(m - o).toNat<(m - x_1).toNat)/\(decide (x_1∈c)=false->(t.length<=1000/\1<=1/\1<=1000)/\(nI g/\pr g C/\pT g C)/\(I=true->(h [b l C,δf true]).same G)/\(I=false->e o/\((((b l c).same (b l c)/\n.same n/\p.same p/\w.same w/\(a x_1).same (a x_1)/\A.same A/\s.same s/\y.same y/\v.same v/\(a x_1).same (a x_1)/\True)/\q.same q/\r.same r/\True)/\(x_1<o/\o<=m)/\∀(k:Nat),(↑k:Int)<o->pU g c (dI g c) t x_1 (↑k:Int)=none)/\∀(x:Int),let B:=x+j;let D:=a x_1;let J:=a B;let E:=dZ (t++[x_1,x]);let K:=nJ g (dI g c) E;let L:=e B/\(((b l c).same (b l c)/\n.same n/\p.same p/\w.same w/\D.same D/\J.same J/\s.same s/\y.same y/\v.same v/\D.same D/\True)/\q.same q/\r.same r/\True)/\((x_1<B/\B<=m)/\∀(k:Nat),(↑k:Int)<B->pU g c (dI g c) t x_1 (↑k:Int)=none)/\(m - B).toNat<(m - x).toNat;((x_1<x/\x<=m)/\∀(k:Nat),(↑k:Int)<x->pU g c (dI g c) t x_1 (↑k:Int)=none)->(decide (x<F)=true->c.length<=1000/\(decide (x∈c)=true->L)/\(decide (x∈c)=false->(t.length<=1000/\1<=2/\2<=1000)/\(nI g/\pr g E/\pT g E)/\(K=true->(h [b l E,δf true]).same G)/\(K=false->L)))/\(decide (x<F)=false->e o/\(((b l c).same (b l c)/\n.same n/\p.same p/\w.same w/\s.same s/\y.same y/\v.same v/\A.same A/\True)/\q.same q/\r.same r/\True)/\((d<=o/\o<=m)/\∀(k:Nat),(↑k:Int)<o->nK g c (dI g c) t (↑k:Int)=none)/\(m - o).toNat<(m - x_1).toNat))))/\(decide (x_1<m)=false->e z/\(((b l c).same (b l c)/\n.same n/\p.same p/\s.same s/\H.same H/\True)/\q.same q/\r.same r/\True)/\((d<=z/\z<=u)/\∀(k:Nat),(↑k:Int)<z->yv g c (dI g c) k=none)/\(u - z).toNat<(u - x).toNat))/\(decide (x<u)=false->(h [b l [],δf false]).same G)) (by kernel_rfl) ?_;conv=>zeta
 try simp only[vcs]
 have S0:∀d:List Int,(∀x∈d,0<=x/\x<g.offers.length)->pT g d:=λd hd x hx=>hv _ (dr (by have:=hd x hx;omega));have hout:∀i:Nat,(iU c i).length<=900/\∀x∈iU c i,x∈c:=λi=>by
  unfold iU;refine⟨by rw[γg,γq,List.length_drop];omega,λx hx=>?_⟩;rw[γk] at hx;exact hx.elim γm List.mem_of_mem_drop
 have hnew:∀(i:Nat) (d:List Int),d.length<=2->(∀x∈d,0<=x/\x<g.offers.length)->nI g/\pr g (dZ (iU c i++d))/\pT g (dZ (iU c i++d)):=λi d hd hx=>by
  have h2:∀x∈dZ (iU c i++d),0<=x/\x<g.offers.length:=λx h=>by
   rw[Eo,γk] at h;exact h.elim (λh=>hci x ((hout i).2 x h)) (hx x)
  have:=(hout i).1;exact⟨hg,⟨by rw[qN,γg];omega,h2⟩,S0 _ h2⟩
 have hg1:=hg.1;refine⟨⟨hg,⟨by omega,hci⟩,S0 c hci⟩,⟨by omega,λk h=>by omega⟩,?_⟩;rintro i ⟨⟨i0,i1⟩,hi⟩;refine⟨λhil=>⟨⟨by omega,i0,hil⟩,⟨by unfold iU;rw[show(i+1).toNat=i.toNat+1 by omega],by omega,λk h=>by omega⟩,?_⟩,λhil=>?_⟩
 ·have ho:=hout i.toNat;have found:∀t,yv g c (dI g c) i.toNat=some t->je g c=some t:=λt ht=>Es (i:=i.toNat) (by omega) (λj hj=>hi j (by omega)) ht;rintro o ⟨⟨o0,o1⟩,hk⟩;refine⟨λhol=>⟨by omega,λhin=>⟨by omega,⟨by omega,λk h=>?_⟩,by omega⟩,λhin=>⟨by omega,hnew _ _ (by simp) (by simp;omega),λhb=>?_,λhb=>⟨by omega,⟨by omega,λk h=>?_⟩,?_⟩⟩⟩,λhol=>⟨by omega,⟨by omega,λk h=>?_⟩,by omega⟩⟩
  ·by_cases h2:(k:Int)<o;·exact hk k h2
   ·rw[show(k:Int)=o by omega];unfold nK;rw[if_pos hin]
  ·have h2:nK g c (dI g c) (iU c i.toNat) o=some (dZ (iU c i.toNat++[o])):=by
    unfold nK;rw[if_neg hin,if_pos hb]
   have h3:=found _ (Es (f:=λo:Nat=>nK g c (dI g c) (iU c i.toNat) o) (i:=o.toNat) (by omega) (λj hj=>hk j (by omega)) (by simp only[show((o.toNat:Nat):Int)=o by omega];exact h2));rw[h3];exact⟨rfl,rfl⟩
  ·unfold pU;rw[if_pos (.inl (by omega))]
  ·rintro z ⟨⟨z0,z1⟩,hz⟩;refine⟨λhzl=>⟨by omega,λhin2=>⟨by omega,⟨by omega,λk h=>?_⟩,by omega⟩,λhin2=>⟨by omega,hnew _ _ (by simp) (by simp;omega),λhb2=>?_,λhb2=>⟨by omega,⟨by omega,λk h=>?_⟩,by omega⟩⟩⟩,λhzl=>⟨by omega,⟨by omega,λk h=>?_⟩,by omega⟩⟩
   ·by_cases h2:(k:Int)<z;·exact hz k h2
    ·rw[show(k:Int)=z by omega];unfold pU;rw[if_pos (.inr hin2)]
   ·have h4:¬z<=o:=by omega
    have h5:pU g c (dI g c) (iU c i.toNat) o z=some (dZ (iU c i.toNat++[o,z])):=by
     unfold pU;rw[if_neg (λh=>h.elim h4 hin2),if_pos hb2]
    have h2:nK g c (dI g c) (iU c i.toNat) o=some (dZ (iU c i.toNat++[o,z])):=by
     unfold nK;rw[if_neg hin,if_neg (by rw[hb];simp)];exact Es (f:=λk:Nat=>pU g c (dI g c) (iU c i.toNat) o k) (i:=z.toNat) (by omega) (λj hj=>hz j (by omega)) (by simp only[show((z.toNat:Nat):Int)=z by omega];exact h5)
    have h3:=found _ (Es (f:=λo:Nat=>nK g c (dI g c) (iU c i.toNat) o) (i:=o.toNat) (by omega) (λj hj=>hk j (by omega)) (by simp only[show((o.toNat:Nat):Int)=o by omega];exact h2));rw[h3];exact⟨rfl,rfl⟩
   ·by_cases h2:(k:Int)<z;·exact hz k h2
    ·rw[show(k:Int)=z by omega];unfold pU;rw[hb2];simp
   ·by_cases h2:(k:Int)<o;·exact hk k h2
    ·rw[show(k:Int)=o by omega];unfold nK;rw[if_neg hin,if_neg (by rw[hb];simp)];exact Ep λj hj=>hz j (by omega)
  ·by_cases h2:(k:Int)<i;·exact hi k h2
   ·rw[show k=i.toNat by omega];exact Ep λj hj=>hk j (by omega)
 ·have:je g c=none:=Ep λj hj=>hi j (by omega);rw[this];exact⟨rfl,rfl⟩
def eO (n:Nat) (c:List Int):Prop:=c.Pairwise (·<·)/\∀x∈c,0<=x/\x<n
theorem JM {n:Nat}:∀{c:List Int} {a:Int},a<=n->c.Pairwise (·<·)->(∀x∈c,a<=x/\x<n)->(c.length:Int)<=n - a
 |[],a,e,_,_=>by simp;omega;|x::c,a,e,h,b=>by
  have f:=b x (by simp);rw[γA] at h;have:=@JM n c (x+1) (by omega) h.2 λy d=>⟨by grind,(b y (by simp[d])).2⟩;grind
theorem s7 {n:Nat} {c:List Int} (h:eO n c):c.length<=n:=by
 have:=JM (n:=n) (a:=0) (by omega) h.1 h.2;omega
theorem JO {n:Nat} {c:List Int} (f:c.Nodup) (e:∀x∈c,0<=x/\x<n):eO n (dZ c):=by
 refine⟨?_,λx i=>e x (Eo.1 i)⟩;have g:(dZ c).Pairwise (·<=·):=by
  have:=List.pairwise_mergeSort (le:=λx y:Int=>decide (x<=y)) (λa b d f e=>by grind) (λa b=>by simp;omega) c;exact this.imp λh=>of_decide_eq_true h
 have j:(dZ c).Pairwise (·≠·):=(δs _ _).symm.nodup f;exact(g.and j).imp λh=>by omega
theorem Ba {n:Nat} {c:List Int} (h:eO n c):c.Nodup:=h.1.imp λh=>by omega
theorem S1 {c:List Int} {i:Nat}:(iU c i).Sublist c:=by
 unfold iU;rw[List.drop_add_one_eq_tail_drop];have:=(List.Sublist.refl (c.take i)).append (List.tail_sublist (c.drop i));simp_all
theorem yw {g:Game} {c t:List Int} (h:je g c=some t) (d:eO g.offers.length c):nJ g (dI g c) t=true/\eO g.offers.length t:=by
 obtain⟨i,l,h⟩:=δW h;obtain⟨o,m,h⟩:=δW h;rw[γx] at l m;have f:(iU c i).Nodup:=(Ba d).sublist S1;have b:∀x∈iU c i,x∈c:=λx a=>S1.subset a;unfold nK at h;split at h;·cases h
 ·rename_i p;split at h
  ·rename_i e;injection h with h;subst h;refine⟨e,JO ?_ λx a=>?_⟩;·grind
   ·rw[γk] at a;rcases a with a|a;·exact d.2 x (b x a)
    simp_all
  ·obtain⟨k,j,h⟩:=δW h;rw[γx] at j;unfold pU at h;split at h;·cases h
   ·rename_i n;split at h
    ·rename_i e;injection h with h;subst h;refine⟨e,JO ?_ λx a=>?_⟩;·grind
     ·rw[γk] at a;rcases a with a|a;·exact d.2 x (b x a)
      grind
    ·cases h
def mh (g:Game):Nat->List Int->List Int
 |0,c=>c
 |n+1,c=>match je g c with
  |some t=>mh g n t
  |none=>c
def kM (g:Game) (c:List Int):List Int:=mh g (1000000000 - dI g c).toNat c
theorem rK {g:Game} (a:uG g) {c:List Int} (h:eO g.offers.length c):0<=dI g c/\dI g c<=1000000000:=by
 have d:=JD (f:=λx=>(bj g.offers x.toNat bp.off.dflt).value) (c:=c) (k:=c.length) (m:=1000000) (by omega) λx b=>a.2 _ (dr (by have:=h.2 x b;omega));rw[ψ] at d;have e:=s7 h;have i:=a.1.1.2.2;grind[dI]
theorem adg {g:Game} (d:uG g):∀{n m:Nat} {c:List Int},eO g.offers.length c->(1000000000 - dI g c).toNat<=n->(1000000000 - dI g c).toNat<=m->mh g n c=mh g m c:=by
 intro n;induction n with
 |zero=>
  intro m c a k j;have h:=rK d a;cases m with
  |zero=>rfl;|succ m=>
   unfold mh;cases f:je g c with
   |none=>rfl;|some t=>
    obtain⟨b,e⟩:=yw f a;have i:=rK d e;unfold nJ at b;grind
 |succ n l=>
  intro m c a k j;have h:=rK d a;cases f:je g c with
  |none=>
   cases m<;>grind[mh];|some t=>
   obtain⟨b,e⟩:=yw f a;have i:=rK d e;unfold nJ at b;simp only[θ,decide_eq_true_eq] at b;cases m<;>grind[mh]
theorem adh {g:Game} (d:uG g) {c t:List Int} (b:eO g.offers.length c) (h:je g c=some t):kM g c=kM g t:=by
 obtain⟨a,e⟩:=yw h b;have f:=rK d b;have i:=rK d e;unfold nJ at a;simp only[θ,decide_eq_true_eq] at a;unfold kM;rw[show(1000000000 - dI g c).toNat=((1000000000 - dI g c).toNat - 1)+1 by omega];grind[mh,adg]
theorem S3 {g:Game} {c:List Int} (h:je g c=none):kM g c=c:=by
 unfold kM;generalize (1000000000 - dI g c).toNat=n;cases n<;>grind[mh]
def adi (p:bn) (c:List Int):Prop:=bz p=0/\eO p.offers.length c
theorem S4 {p:bn} (c:bz p=0):uG (cO p):=by
 have a:=dR c;refine⟨SU (by have:=a.2.1;omega),λo b=>?_⟩;have:=a.2.2.2.2 o b;omega
theorem JP {l:List Off}:∀{c:List Int} {a:Int}, -1<=a->(eW l a c).isSome=true->c.Pairwise (·<·)/\∀x∈c,a<x/\x<l.length
 |[],a,_,_=>⟨δH,by simp⟩
 |i::c,a,f,h=>by
  simp only[eW] at h;split at h;·simp at h
  ·rename_i g;rw[Option.isSome_map] at h;obtain⟨d,e⟩:=@JP l c i (by omega) h;refine⟨γA.2 ⟨λx b=>(e x b).1,d⟩,λx b=>?_⟩;grind
theorem uH {p:bn} {c:List Int} (h:di p c=0):adi p c:=by
 unfold di at h;split at h;·omega
 ·rename_i b;split at h;·cases h
  ·rename_i d;have a:=@JP p.offers c (-1) (by omega) (by grind[jc]);exact⟨γj.1 b,a.1,λx e=>by grind⟩
def gw (p:bn) (c:List Int):Alloc:=if di p c=0 then⟨kM (cO p) c,dI (cO p) (kM (cO p) c)⟩ else⟨[],0⟩
def Bc:bM:=⟨54,bn×Alloc,.cons dQ (.one nu),λa=>a.2.chosen.length<=9223372036854775807,λa=>nu.put (gw a.1 a.2.chosen)⟩
def adj (p:bn) (a:Alloc):Nat->cF
 |6=> .inv (List Int×List Int×Bool) (λx=>⟨[(4,.ptr 2 0 2),(5,.ptr 3 0 3),(6,.row (.i .i64) x.1),(7,.row (.i .i64) x.2.1),(8,.sb x.2.2)],[.cells p.ss 27 20 false,.cells [.row (.i .i64) a.chosen,.si .i64 a.value] 40 2 false,.cells [.sc (.slice none 0 0),.il .i64 0] 40 2 false,.cells (rJ (cO p)) 130 3 false]⟩)
   (λs=>(rS (.i .i64) s 6,rS (.i .i64) s 7,bS s 8)) (λx=>eO p.offers.length x.1/\(x.2.1=(je (cO p) x.1).getD []/\x.2.2=(je (cO p) x.1).isSome)/\kM (cO p) x.1=kM (cO p) a.chosen) (λx=>(1000000000 - dI (cO p) x.1).toNat) λ_ _=> .look
 |_=> .look
theorem h315:Holds Tryz.prog Bc:=by
 refine cH (L:=[xT,Ek,A5,JK,yu]) Bc (λa=>adj a.1 a.2) (by simpa using⟨h100,h325,h330,h331,h328⟩) ?_;rintro⟨p,⟨c,v⟩⟩ hl;replace hl:c.length<=9223372036854775807:=hl;refine bR (let a:=γi .i64;let b:=Ω;let d:=bq.cells;let e:=(1000000000:Int);let f:=(0:Int);let g:=γw;let h:=γN;let y:=decide (di p c≠f);let j:=bp.i .i64;let z:=[γy .i64 0];let A:=h [b j (gw p c).chosen,a (gw p c).value];let l:=γT 2 0 2;let m:=γT 3 0 3;let n:=(je (cO p) c).getD [];let o:=(je (cO p) c).isSome;let q:=d [a p.supply.a0,a p.supply.a1,a p.supply.a2,a p.supply.a3,a p.supply.a4,a p.supply.a5,a p.opn.a0,a p.opn.a1,a p.opn.a2,a p.opn.a3,a p.opn.a4,a p.opn.a5,a p.cls.a0,a p.cls.a1,a p.cls.a2,a p.cls.a3,a p.cls.a4,a p.cls.a5,b j p.classes,b bp.off p.offers] 27 20 false;let r:=d [b j c,a v] 40 2 false;let s:=d (SV.sc (Value.slice none 0 0)::z) 40 2 false;let t:=d [b j.bE (cO p).rows,b j (cO p).bounds,b bp.off (cO p).offers] 130 3 false;let w:=p.offers.length;let u:=kM (cO p) c;c.length<=9223372036854775807/\(y=true->(h (b j []::z)).same A)/\(y=false->True/\c.length<=1000000/\(uG (cO p)/\c.length<=900/\∀(x:Int),x∈c->f<=x/\x<(↑(cO p).offers.length:Int))/\(((l.same l/\m.same m/\(b j c).same (b j c)/\(b j n).same (b j n)/\(g o).same (g o)/\True)/\q.same q/\r.same r/\s.same s/\t.same t/\True)/\eO w c/\(n=n/\o=o)/\u=u)/\∀(x:List Int×List Int×Bool),let k:=je (cO p) x.snd.fst;let B:=b j (k.getD []);let C:=dI (cO p) x.fst;eO w x.fst/\(x.snd.fst=(je (cO p) x.fst).getD []/\x.snd.snd=(je (cO p) x.fst).isSome)/\kM (cO p) x.fst=u->(x.snd.snd=true->(uG (cO p)/\x.snd.fst.length<=900/\∀(x_1:Int),x_1∈x.snd.fst->f<=x_1/\x_1<(↑(cO p).offers.length:Int))/\((l.same l/\m.same m/\(b j x.snd.fst).same (b j x.snd.fst)/\B.same B/\(g k.isSome).same (g k.isSome)/\True)/\q.same q/\r.same r/\s.same s/\t.same t/\True)/\(eO w x.snd.fst/\(k.getD []=k.getD []/\k.isSome=k.isSome)/\kM (cO p) x.snd.fst=u)/\(e - dI (cO p) x.snd.fst).toNat<(e - C).toNat)/\(x.snd.snd=false->(nI (cO p)/\pr (cO p) x.fst/\pT (cO p) x.fst)/\(h [b j x.fst,a C]).same A))) (by kernel_rfl) ?_;conv=>zeta
 try simp only[vcs]
 refine⟨by omega,λh=>by simp only[gw,if_neg h];rfl,λh=>?_⟩;have hf:di p c=0:=γj.1 h;obtain⟨hc,ha⟩:=uH hf;have hg:=S4 hc;have h160:=(dR hc).2.1;have hval:∀d,eO p.offers.length d->nI (cO p)/\pr (cO p) d/\pT (cO p) d:=λd hd=>by
  have h1:=s7 hd;exact⟨hg.1,⟨by omega,hd.2⟩,λx hx=>hg.2 _ (dr (by have:=hd.2 x hx;show x.toNat<p.offers.length;omega))⟩
 have hlen:=s7 ha;refine⟨by omega,⟨hg,by omega,ha.2⟩,ha,?_⟩;rintro⟨d,t,b⟩ ⟨hd,⟨ht,hb⟩,hi⟩;simp only at hd ht hb hi ⊢;have hdl:=s7 hd;refine⟨λhbt=>?_,λhbf=>?_⟩
 ·rw[hbt] at hb;obtain⟨t',he⟩:=Option.isSome_iff_exists.1 hb.symm;rw[he] at ht;simp only[Option.getD_some] at ht;subst ht;obtain⟨h1,h2⟩:=yw he hd;have h3:=s7 h2;have h3':t.length<=p.offers.length:=h3;have hb2:=rK hg h2;have hb1:=rK hg (c:=d) hd;unfold nJ at h1;simp only[θ,decide_eq_true_eq] at h1;exact⟨⟨hg,by omega,h2.2⟩,⟨h2,by rw[<-adh hg hd he];exact hi⟩,by omega⟩
 ·rw[hbf] at hb;have he:je (cO p) d=none:=by
   cases hh:je (cO p) d with
   |none=>rfl;|some t=>rw[hh] at hb;cases hb
  refine⟨hval d hd,?_⟩;have h1:kM (cO p) c=d:=by rw[<-hi,S3 he]
  simp only[gw,if_pos hf,h1];rfl
theorem S5 {l:List Off}:∀{c:List Int} {a:Int}, -1<=a->c.Pairwise (·<·)->(∀x∈c,a<x/\x<l.length)->eW l a c=some (c.map λx=>bj l x.toNat bp.off.dflt)
 |[],_,_,_,_=>rfl
 |i::c,a,f,h,d=>by
  rw[γA] at h;have e:=d i (by simp);simp only[eW];rw[if_neg (by omega),@S5 l c i (by omega) h.2 λx b=>⟨h.1 x b,(d x (by simp[b])).2⟩];rfl
theorem Et {p:bn} {c:List Int} (h:eO p.offers.length c):eW p.offers (-1) c=some (c.map (oI p)):=S5 (by omega) h.1 λx a=>by have:=h.2 x a;omega
theorem JQ {p:bn} (l:bz p=0) {c:List Int} (h:eO p.offers.length c):di p c=0↔lh (cO p) c=true:=by
 have k:=Et h;have n:jc p c=true:=by grind[jc]
 have i:eK p c=c.map (oI p):=by grind[eK]
 have m:gk p (c.map (oI p))=lh (cO p) c:=by
  have f:nR p=p.classes.length+12:=by simp_all[nR]
  have g:(cO p).bounds.length=p.classes.length+12:=by show(ko p (nR p)).length=_;rw[Ej,f]
  unfold gk lh;rw[g];have d:∀r:Nat,r<p.classes.length+12->bj (cO p).bounds r 0=dn p r/\mg (cO p) c r=cV p (c.map (oI p)) r:=λr j=>by
   refine⟨?_,?_⟩
   ·show bj (ko p (nR p)) r 0=_;grind[cQ,ko]
   ·have a:bj (cO p).rows r []=iz p r p.offers.length:=by
     show bj (mf p (nR p)) r []=_;grind[cQ,mf]
    unfold mg cV;rw[a,γ3];congr 1;refine γZ λx b=>?_;have:=h.2 x b;have e:x.toNat<p.offers.length:=by omega
    show bj (iz p r p.offers.length) x.toNat 0=dX p r (bj p.offers x.toNat bp.off.dflt);grind[cQ,iz]
  grind
 simp_all[di]
theorem adk {p:bn} (d:bz p=0) {c:List Int} (h:eO p.offers.length c):ef p c=dI (cO p) c:=by
 have a:eK p c=c.map (oI p):=by grind[eK,Et]
 unfold ef;rw[if_pos d,a];clear h a;induction c with
 |nil=>rfl;|cons x c b=>
  have e:dI (cO p) (x::c)=(oI p x).value+dI (cO p) c:=by simp[dI];rfl
  rw[e,<-b];rfl
theorem S7 {g:Game} {n:Nat}:∀{l c:List Int},eO n c->l.Nodup->(∀x∈l,x∉c/\0<=x/\x<n)->eO n (l.foldl (stepG g) c)
 |[],c,b,_,_=>b
 |x::l,c,b,e,d=>by
  rw[List.nodup_cons] at e;have i:=d x (by simp);have f:eO n (stepG g c x):=by
   unfold stepG;split
   ·refine JO ?_ λy a=>?_;·grind[Ba]
    ·rw[γk] at a;rcases a with a|a;·exact b.2 y a
     simp_all
   ·exact b
  show eO n (l.foldl (stepG g) (stepG g c x));refine S7 f e.2 λy a=>⟨λh=>?_,(d y (by simp[a])).2⟩;grind[SX]
theorem adl {p:bn}:(gQ p).Nodup:=by
 unfold gQ;split;·exact(AZ (D:=fH p) (l:=dp p.offers.length)).symm.nodup (rI.imp λh=>by omega)
 simp_all
theorem adn {p:bn} {k:Nat}:eO p.offers.length (oC (cO p) ((gQ p).take k)):=
 S7 ⟨δH,by simp⟩ (adl.sublist (List.take_sublist _ _)) λx a=>⟨by simp,(JH (γm a)).2⟩
theorem S8 {l m:List Int} (h:l.Perm m):l.sum=m.sum:=by
 induction h<;>grind
theorem S9 {g:Game}:∀{l c:List Int},lh g c=true->lh g (l.foldl (stepG g) c)=true
 |[],c,h=>h
 |x::l,c,h=>by
  show lh g (l.foldl (stepG g) (stepG g c x))=true;refine S9 ?_;grind[stepG]
theorem ado {p:bn} (d:bz p=0):lh (cO p) []=true:=by
 unfold lh;rw[φ];intro r b;have a:r<(cO p).bounds.length:=γx.1 b;have c:bj (cO p).bounds r 0=dn p r:=by
  show bj (ko p (nR p)) r 0=_;rw[cQ (by exact a)];simp[ko]
 simp_all[A7,mg]
theorem adp {p:bn}:eO p.offers.length (jZ p):=by
 have h:=@adn p (gQ p).length;rw[ψ] at h;exact h
theorem Ta {p:bn} (a:bz p=0):di p (jZ p)=0:=(JQ a adp).2 (S9 (ado a))
theorem adq {g:Game} (i:uG g):∀{n:Nat} {c:List Int},eO g.offers.length c->lh g c=true->eO g.offers.length (mh g n c)/\lh g (mh g n c)=true/\dI g c<=dI g (mh g n c)/\((1000000000 - dI g c).toNat<=n->je g (mh g n c)=none):=by
 intro n;induction n with
 |zero=>
  intro c a j;refine⟨a,j,Int.le_refl _,λh=>?_⟩;show je g c=none;cases f:je g c with
  |none=>rfl;|some t=>
   obtain⟨d,b⟩:=yw f a;have k:=rK i b;unfold nJ at d;grind
 |succ n l=>
  intro c a j;cases f:je g c with
  |none=>
   grind[mh];|some t=>
   have e:mh g (n+1) c=mh g n t:=by grind[mh]
   rw[e];obtain⟨d,b⟩:=yw f a;have k:=rK i b;unfold nJ at d;grind
theorem JR {p:bn} (a:bz p=0) {c:List Int} (b:di p c=0):eO p.offers.length (gw p c).chosen/\di p (gw p c).chosen=0/\ef p (gw p c).chosen=(gw p c).value/\ef p c<=(gw p c).value/\gw p (gw p c).chosen=gw p c:=by
 obtain⟨_,d⟩:=uH b;have h:=S4 a;obtain⟨i,j,l,g⟩:=adq h (n:=(1000000000 - dI (cO p) c).toNat) (c:=c) d ((JQ a d).1 b);have e:gw p c=⟨kM (cO p) c,dI (cO p) (kM (cO p) c)⟩:=by simp_all[gw]
 have f:di p (kM (cO p) c)=0:=(JQ a i).2 j;have k:kM (cO p) (kM (cO p) c)=kM (cO p) c:=S3 (g (ξ _));simp_all[adk,gw,kM,cO]
def eu (a:Tb) (v:Int):Rat:=if v∈a.free then a.cs (a.free.idxOf v) else 0
section
variable {n m:Nat} {t t0:Tb}
theorem Run.goal (h:Run n m t0 t) {x:Int->Rat} {z:Rat} (d:t.holds n m x z):z=t0.value+(bO m (λk=>eu t0 (t.bv k)*x (t.bv k))+bO n (λj=>eu t0 (t.fv j)*x (t.fv j))):=by
 have a:∀t:Tb,t.WF n m->me (λv=>eu t0 v*x v) (t.basic++t.free)=bO m (λk=>eu t0 (t.bv k)*x (t.bv k))+bO n (λj=>eu t0 (t.fv j)*x (t.fv j)):=λt c=>by
  rw[AL,qL,qL,c.basic,c.free];rfl
 rw[<-a t h.wf,Jb h.perm,a t0 h.oz];rw[dK (n:=m) (g:=λ_=>0) λk e=>by
  unfold eu;rw[if_neg (Jc h.oz h.nd e)];grind,iQ];rw[dK (n:=n) (g:=λj=>t0.cs j*x (t0.fv j)) λj b=>by
  have i:j<t0.free.length:=by rw[h.oz.free];exact b
  unfold eu;rw[if_pos (wi h.oz b),show t0.free.idxOf (t0.fv j)=j from po (γs.1 h.nd).2.1 i]];have f:=(((h.mK _ _).1 d).2);rw[f];grind
theorem Run.val (h:Run n m t0 t):t.value=t0.value+bO m λk=>eu t0 (t.bv k)*t.bd k:=by
 have a:=h.goal (asg_holds h.wf h.gn (y:=λ_=>0));rw[dK (n:=n) (f:=λj=>t.cs j*(λ_=>(0:Rat)) j) (g:=λ_=>0) λj _=>by grind,iQ] at a;rw[dK (n:=n) (f:=λj=>eu t0 (t.fv j)*ju n t (λ_=>0) (t.fv j)) (g:=λ_=>0) λj c=>by rw[mJ h.wf h.gn c];grind,iQ] at a;rw[dK (n:=m) (g:=λk=>eu t0 (t.bv k)*t.bd k) λk b=>by
  rw[nE h.wf h.gn b,dK (g:=λ_=>0) λj _=>by grind,iQ];grind] at a;grind
theorem uI {n c:Nat} {q:Rat} (d:c<n):bO n (λj=>if j=c then q else 0)=q:=by
 induction n with
 |zero=>omega;|succ n b=>
  unfold bO;by_cases h:c=n
  ·subst h;rw[if_pos rfl,dK (g:=λ_=>0) λj a=>by grind,iQ];grind
  grind
theorem JS {f g:Nat->Rat}:∀{n:Nat},bO n (λj=>f j - g j)=bO n f - bO n g
 |0=>by grind[bO];|n+1=>by simp only[bO,@JS f g n];grind
theorem Run.adr (h:Run n m t0 t) {c:Nat} (b:c<n):t.cs c=eu t0 (t.fv c) - bO m λk=>eu t0 (t.bv k)*t.cf k c:=by
 have a:=h.goal (asg_holds h.wf h.gn (y:=λj=>if j=c then 1 else 0));rw[dK (n:=n) (f:=λj=>t.cs j*(if j=c then(1:Rat) else 0)) (g:=λj=>if j=c then t.cs c else 0) λj _=>by
  grind,uI b] at a;rw[dK (n:=n) (f:=λj=>eu t0 (t.fv j)*ju n t (λj=>if j=c then 1 else 0) (t.fv j)) (g:=λj=>if j=c then eu t0 (t.fv c) else 0) λj e=>by
  rw[mJ h.wf h.gn e];grind,uI b] at a;rw[dK (n:=m) (g:=λk=>eu t0 (t.bv k)*t.bd k - eu t0 (t.bv k)*t.cf k c) λk d=>by
  rw[nE h.wf h.gn d,dK (g:=λj=>if j=c then t.cf k c else 0) λj _=>by
   grind,uI b];grind,JS,h.val] at a;grind
end
theorem JU {M K:Nat} {p q:Rat} (e:ff M p) (f:ff K q):ff (M*K) (p*q):=by
 obtain⟨a,rfl,d⟩:=e;obtain⟨b,rfl,c⟩:=f;exact⟨a*b,by simp_all,by rw[Int.natAbs_mul];exact ζi d c⟩
theorem Tc {M K:Nat} {p q:Rat} (d:ff M p) (c:ff K q):ff (M+K) (p+q):=by
 obtain⟨a,rfl,f⟩:=d;obtain⟨b,rfl,e⟩:=c;exact⟨a+b,by simp_all,by omega⟩
theorem ads {M:Nat} {p:Rat} (b:ff M p):ff M (-p):=by
 obtain⟨a,rfl,c⟩:=b;exact⟨-a,by simp_all,by omega⟩
theorem Td {M:Nat}:ff M 0:=⟨0,rfl,by simp⟩
theorem ff.le {M K:Nat} {p:Rat} (b:ff M p) (h:M<=K):ff K p:=by
 obtain⟨a,rfl,c⟩:=b;exact⟨a,rfl,by omega⟩
theorem JV {M:Nat} {f:Nat->Rat}:∀{n:Nat},(∀k,k<n->ff M (f k))->ff (n*M) (bO n f)
 |0,_=>by grind[bO,Td];|n+1,h=>by
  have a:=Tc (@JV M f n λk b=>h k (by omega)) (h n (by omega));grind[bO]
theorem JW {f:Nat->Rat} {d:Rat}:∀{n:Nat},bO n f*d=bO n λk=>f k*d
 |0=>by grind[bO];|n+1=>by
  have:=@JW f d n;grind[bO]
theorem adt {X k:Nat} {q D:Rat} (f:ff X (q*D)) (c:ff X D) (g:D≠0) (o:X<4294967296^k):Sz k q:=by
 obtain⟨a,p,l⟩:=f;obtain⟨d,rfl,m⟩:=c;have b:d≠0:=λh=>g (by subst h;rfl);have n:((4294967296^k:Nat):Int)=(4294967296:Int)^k:=by
  simp_all
 have i:(X:Int)<4294967296^k:=by
  omega
 have e:q=mkRat (a*d.sign) d.natAbs:=by
  have f:mkRat (a*d.sign) d.natAbs=((a*d.sign:Int):Rat) / ((d.natAbs:Int):Rat):=by
   rw[Rat.mkRat_eq_div];rfl
  have c:((d.natAbs:Int):Rat)=(d:Rat)*(d.sign:Rat):=by
   rw[<-Rat.intCast_mul];simp_all
  have j:(d.sign:Rat)*(d.sign:Rat)=1:=by
   rw[<-Rat.intCast_mul];rcases Int.lt_or_lt_of_ne b with h|h;·rw[Int.sign_eq_neg_one_of_neg h];rfl
   grind
  grind
 rw[e];refine Az (by omega) ?_ (by omega);grind
structure Small (n m M G:Nat) (t0:Tb):Prop where
 wf:t0.WF n m
 nd:(t0.basic++t0.free).Nodup
 cf:∀i j,i<m->j<n->ff M (t0.cf i j)
 bd:∀i,i<m->ff M (t0.bd i)
 cs:∀j,j<n->ff G (t0.cs j)
 v:t0.value=0
 M1:1<=M
 G1:M<=G
 X:(m+2)*(G*nD M m)<4294967296^1000
theorem adu {a b c:Nat} (h:1<=a) (d:1<=b):c<=a*(b*c):=by
 have e:1*(1*c)<=a*(b*c):=ζi h (ζi d (ξ _));omega
theorem Small.goal {n m M G:Nat} {t0:Tb} (h:Small n m M G t0) {v:Int}:ff G (eu t0 v):=by
 unfold eu;split
 ·rename_i a;exact h.cs _ (by rw[<-h.wf.free];grind)
 ·exact Td
theorem Small.Tf {n m M G:Nat} {t0 t:Tb} (h:Small n m M G t0) (a:Run n m t0 t):(∀i,i<m->Sz 1000 (t.bd i))/\(∀j,j<n->Sz 1000 (t.cs j))/\Sz 1000 t.value/\∀i j,i<m->j<n->Sz 1000 (t.cf i j):=by
 have y:=a.abT h.M1 h.cf;have A:=h.X;have B:1<=G:=Nat.le_trans h.M1 h.G1;have u:nD M m<=(m+2)*(G*nD M m):=adu (by omega) B;have l:∀{q:Rat},ff ((m+2)*(G*nD M m)) (q*jv m t0 t)->Sz 1000 q:=λz=>adt z (y.le u) a.dt A;have d:∀r c,r<m->c<n->ff (nD M m) (t.cf r c*jv m t0 t):=λr c o d=>a.cfZ h.M1 h.cf o d;have x:∀r,r<m->ff (nD M m) (t.bd r*jv m t0 t):=λr o=>a.bdZ h.M1 h.cf h.bd o;refine⟨λi w=>l ((x i w).le u),λj b=>l ?_,l ?_,λi j w b=>l ((d i j w b).le u)⟩
 ·have e:=a.adr b;have p:t.cs j*jv m t0 t=eu t0 (t.fv j)*jv m t0 t+ -(bO m λk=>eu t0 (t.bv k)*(t.cf k j*jv m t0 t)):=by
   rw[e,dK (f:=λk=>eu t0 (t.bv k)*(t.cf k j*jv m t0 t)) (g:=λk=>(eu t0 (t.bv k)*t.cf k j)*jv m t0 t) λk _=>by grind,<-JW];grind
  rw[p];refine(Tc (JU h.goal y) (ads (JV λk s=>JU h.goal (d k j s b)))).le ?_;grind
 ·have p:t.value*jv m t0 t=bO m λk=>eu t0 (t.bv k)*(t.bd k*jv m t0 t):=by
   rw[a.val,h.v,dK (f:=λk=>eu t0 (t.bv k)*(t.bd k*jv m t0 t)) (g:=λk=>(eu t0 (t.bv k)*t.bd k)*jv m t0 t) λk _=>by grind,<-JW];grind
  rw[p];refine(JV λk s=>JU h.goal (x k s)).le ?_;grind
theorem Small.wo {n m M G:Nat} {t0 t:Tb} (h:Small n m M G t0) (b:Run n m t0 t):wo 1000000 t:=by
 obtain⟨g,r,k,o⟩:=h.Tf b;have e:∀{f:Type} {l:List f} {P:f->Prop} {d:f},(∀i,i<l.length->P (bj l i d))->∀q∈l,P q:=λh q p=>by
  obtain⟨i,a,rfl⟩:=γI p;grind[cQ]
 refine⟨e (d:=[]) λi a=>?_,e (d:=0) λi a=>?_,e (d:=0) λj c=>?_,k.mono (by omega)⟩
 ·rw[b.wf.cj] at a;refine e (d:=0) λj c=>?_;rw[b.wf.row i a] at c;exact(o i j a c).mono (by omega)
 ·rw[b.wf.bound] at a;exact(g i a).mono (by omega)
 ·rw[b.wf.cost] at c;exact(r j c).mono (by omega)
theorem Ti {n m:Int} {M G:Nat} {t0 t:Tb} (h:Small n.toNat m.toNat M G t0) (a:Run n.toNat m.toNat t0 t) (c:0<=n/\n<=1000) (b:0<=m/\m<=1000):kK n m t:=⟨⟨c,b⟩,a.wf,h.wo a⟩
section
variable {n m:Nat} {t t0:Tb}
theorem Tj:∀{N:Nat} {t:Tb},Run n m t0 t->km m t->Run n m t0 (runT n m N t)/\km m (runT n m N t)
 |0,t,b,a=>⟨b,a⟩
 |N+1,t,b,a=>by
  unfold runT;split;·simp_all
  ·rename_i d c;have:=Jf b a c;exact Tj this.1 this.2
theorem run_end:∀{N:Nat} {t:Tb},ft n m N t=true->stepT n m (runT n m N t)=none
 |0,t,h=>γM.1 h
 |N+1,t,h=>by
  unfold ft at h;unfold runT;split;·assumption
  ·rename_i b a;rw[a] at h;exact run_end h
theorem Tm:∀{N K:Nat} {t:Tb},ft n m N t=true->N<=K->runT n m K t=runT n m N t
 |0,K,t,h,b=>by
  have d:=γM.1 h;cases K<;>grind[runT];|N+1,K,t,h,b=>by
  obtain⟨K,rfl⟩:∃k,K=k+1:=⟨K - 1,by omega⟩;unfold ft at h;unfold runT;split;·rfl
  ·rename_i c a;rw[a] at h;exact Tm h (by omega)
theorem Tn {f:Nat->Rat}:∀{n:Nat},(∀k,k<n->f k<=0)->bO n f<=0
 |0,_=>by grind[bO];|n+1,h=>by
  have a:=@Tn f n λk b=>h k (by omega);grind[bO]
theorem Tq {a b:Rat} (d:a<=0) (c:0<=b):a*b<=0:=by
 have:=δt (a:= -a) (b:=b) (by grind) c;grind
theorem Run.best (h:Run n m t0 t) (d:eE t n<0) {x:Int->Rat} {z:Rat} (a:t0.holds n m x z) (b:∀j,j<n->0<=x (t.fv j)):z<=t.value:=by
 have c:=(((h.mK _ _).2 a).2);grind[uC,Tn,Tq]
theorem Run.bnd (h:Run n m t0 t) (q:km m t) {B:Rat} (F:∀x z,t0.holds n m x z->(∀v∈t0.basic++t0.free,0<=x v)->z<=B) {c:Nat} (I:eE t n=(c:Int)) (H:dT t c m<0):False:=by
 rcases @uC t n with⟨C,d⟩|⟨a,C,d,f,G⟩;·omega
 ·have A:a=c:=by omega
  subst A;rcases @wm t a m with⟨D,w⟩|⟨r,D,_⟩;·
   have k:∀s:Rat,0<=s->t.value+s*t.cs a<=B:=λs o=>by
    have p:=asg_holds h.wf h.gn (y:=λj=>if j=a then s else 0);have e:bO n (λj=>t.cs j*(λj=>if j=a then s else 0) j)=s*t.cs a:=by
     rw[dK (g:=λj=>if j=a then s*t.cs a else 0) λj _=>by
      grind,uI d]
    rw[e] at p;refine F _ _ ((h.mK _ _).1 p) λv b=>?_;rw[<-h.perm.mem_iff,γk] at b;rcases b with b|b
    ·obtain⟨i,l,rfl⟩:=yo h.wf b;rw[nE h.wf h.gn l];have f:bO n (λj=>t.cf i j*(if j=a then s else 0))=t.cf i a*s:=by
      rw[dK (g:=λj=>if j=a then t.cf i a*s else 0) λj _=>by
       grind,uI d]
     rw[f];have:=Tq (w i l) o;have:=q i l;grind
    ·obtain⟨j,E,rfl⟩:=wj h.wf b;rw[mJ h.wf h.gn E];grind
   have u:=k 0 (by grind);have o:0<=(B - t.value+1) / t.cs a:=RY (by grind) f;grind[div_mul]
  ·omega
end
open Classical in
noncomputable def uJ (n m:Nat) (t:Tb):Nat:=if h:∃N,ft n m N t=true then Classical.choose h else 0
noncomputable def lastT (n m:Nat) (t:Tb):Tb:=runT n m (uJ n m t) t
section
variable {n m:Nat} {t t0 t':Tb}
theorem Eu {N:Nat} (h:ft n m N t=true):lastT n m t=runT n m N t:=by
 have a:∃N,ft n m N t=true:=⟨N,h⟩;have b:ft n m (uJ n m t) t=true:=by
  unfold uJ;grind
 grind[lastT,Tm]
theorem Tt (h:stepT n m t=none):lastT n m t=t:=by
 have a:ft n m 0 t=true:=by simp[ft,h]
 rw[Eu a];rfl
theorem adv (a:∃N,ft n m N t=true) (h:stepT n m t=some t'):lastT n m t'=lastT n m t:=by
 obtain⟨N,a⟩:=a;have b:=Si a h;rw[Eu b,Eu (Jg a)];grind[runT]
theorem JX (b:Run n m t0 t) (c:km m t):Run n m t0 (lastT n m t)/\km m (lastT n m t)/\stepT n m (lastT n m t)=none:=by
 obtain⟨N,a⟩:=Jh b c;rw[Eu a];grind[Tj,run_end]
theorem Tv (i:Run n m t0 t) (e:km m t) {B:Rat} (h:∀x z,t0.holds n m x z->(∀v∈t0.basic++t0.free,0<=x v)->z<=B):eE (lastT n m t) n<0:=by
 obtain⟨j,g,a⟩:=JX i e;rcases @uC (lastT n m t) n with⟨b,d⟩|⟨c,b,d,l,k⟩;·omega
 ·exfalso;unfold stepT at a;rw[if_neg (by omega),show(eE (lastT n m t) n).toNat=c by omega] at a;split at a
  ·rename_i f;exact j.bnd g h b f
  ·cases a
end
def bD (f:List Int) (d:Int):List Int:=(dp f.length).filter λi=>decide (bj f i.toNat 0=d)
theorem kN {f:List Int} {d x:Int}:x∈bD f d↔(0<=x/\x<f.length)/\bj f x.toNat 0=d:=by
 simp_all[bD,kL]
theorem uK {f:List Int} {d:Int}:(bD f d).Pairwise (·<·):=rI.sublist List.filter_sublist
theorem uL {f:List Int} {d:Int}:(bD f d).length<=f.length:=by
 have:=List.length_filter_le (λi:Int=>decide (bj f i.toNat 0=d)) (dp f.length);rw[iT] at this;exact this
theorem JY {a b:Type} {g:a->b} {l:List a} {i:Nat} {d:b} {e:a} (h:i<l.length):bj (l.map g) i d=g (bj l i e):=by
 grind[cQ]
theorem JZ {n j:Nat} {d:Int} (h:j<n):bj (dp n) j d=j:=by
 grind[dp,qK]
def cJ (p:bn) (f:List Int):Tb where
 cj:=(Γ (p.classes.length+12)).map λr:Nat=>(bD f 0).map λi=>((dX p r (oI p i):Int):Rat);bound:=(Γ (p.classes.length+12)).map λr:Nat=>((dn p r - cV p ((bD f 1).map (oI p)) r:Int):Rat);cost:=(bD f 0).map λi=>(((oI p i).value:Int):Rat);value:=0;basic:=(Γ (p.classes.length+12)).map λi:Nat=>(((bD f 0).length+i:Nat):Int);free:=dp (bD f 0).length
def eX (p:bn) (f:List Int):Prop:=bz p=0/\f.length=p.offers.length/\gk p ((bD f 1).map (oI p))=true
abbrev nF (f:List Int):Nat:=(bD f 0).length
abbrev mF (p:bn):Nat:=p.classes.length+12
section
variable {p:bn} {f:List Int}
theorem lG:(cJ p f).WF (nF f) (mF p) where
 cj:=by simp[cJ]
 row i a:=by
  grind[cJ,qK]
 bound:=by simp[cJ]
 cost:=by simp[cJ]
 basic:=by simp[cJ]
 free:=by simp[cJ,iT]
theorem yx {i j:Nat} (b:i<mF p) (a:j<nF f):(cJ p f).cf i j=((dX p i (oI p (bj (bD f 0) j 0)):Int):Rat):=by
 grind[Tb.cf,cJ,qK,JY]
theorem yz {i:Nat} (a:i<mF p):(cJ p f).bd i=((dn p i - cV p ((bD f 1).map (oI p)) i:Int):Rat):=by
 grind[Tb.bd,cJ,qK]
theorem Bd {j:Nat} (a:j<nF f):(cJ p f).cs j=(((oI p (bj (bD f 0) j 0)).value:Int):Rat):=by
 grind[Tb.cs,cJ,JY]
theorem Ew {i:Nat} (a:i<mF p):(cJ p f).bv i=(((nF f)+i:Nat):Int):=by
 grind[Tb.bv,cJ,qK]
theorem wA {j:Nat} (a:j<nF f):(cJ p f).fv j=j:=by
 grind[Tb.fv,cJ,JZ]
theorem qO:((cJ p f).basic++(cJ p f).free).Nodup:=by
 rw[γs];refine⟨?_,rI.imp λh=>by omega,?_⟩
 ·simp only[cJ];refine List.Pairwise.map _ (λa b h=>?_) List.nodup_range;omega
 grind[cJ,kL]
theorem yA (h:eX p f) {j:Nat} (a:j<nF f):(0<=bj (bD f 0) j 0/\bj (bD f 0) j 0<p.offers.length)/\bj f (bj (bD f 0) j 0).toNat 0=0:=by
 have:=kN.1 (dr (d:=0) a);rw[h.2.1] at this;exact this
theorem kO (a:bz p=0) {i:Int} (h:0<=i/\i<p.offers.length):0<=(oI p i).bX/\(oI p i).bX<p.classes.length/\(oI p i).want.ok=true/\1<=(oI p i).value/\(oI p i).value<=1000000:=(dR a).2.2.2.2 _ (dr (show i.toNat<p.offers.length by omega))
theorem Ey (h:eX p f) {d:Int}:∀x∈(bD f d).map (oI p),0<=x.bX/\x.bX<p.classes.length/\x.want.ok=true/\1<=x.value/\x.value<=1000000:=λx a=>by
 obtain⟨i,b,rfl⟩:=Ψ.1 a;have:=(kN.1 b).1;rw[h.2.1] at this;exact kO h.1 this
theorem J0 {z:Int} {M:Nat} (h:z.natAbs<=M):ff M (z:Rat):=⟨z,rfl,h⟩
theorem Tz (h:eX p f) {i:Nat} (b:i<mF p):0<=dn p i - cV p ((bD f 1).map (oI p)) i/\dn p i - cV p ((bD f 1).map (oI p)) i<=4:=by
 have c:i<p.classes.length+12:=b;have d:=o8.1 h.2.2 i (by grind[df]);have g:=@A7 p h.1 i;have e:=@sM p i ((bD f 1).map (oI p)) λx a=>(Ey h x a).2.2.1;omega
theorem adw:∀m:Nat,m<=20->(m+2)*(1000000*nD 4 m)<4294967296^1000:=by
 have h:((Γ 21).all λm=>Nat.blt ((m+2)*(1000000*nD 4 m)) (4294967296^1000))=true:=by decide+kernel
 intro m a;have:=φ.1 h m (γx.2 (by omega));rw[Nat.blt_eq] at this;exact this
theorem Ez (h:eX p f):Small (nF f) (mF p) 4 1000000 (cJ p f) where
 wf:=lG;nd:=qO;cf i j b a:=by
  rw[yx b a];have:=(kO h.1 (yA h a).1).2.2.1;grind[pO,J0]
 bd i b:=by
  rw[yz b];have:=Tz h b;exact J0 (by omega)
 cs j a:=by
  rw[Bd a];have:=kO h.1 (yA h a).1;grind[J0]
 v:=rfl;M1:=by omega
 G1:=by omega
 X:=adw _ (by have:=(dR h.1).1;grind)
theorem EA {z:Int} (h:0<=z):(0:Rat)<=(z:Rat):=by exact_mod_cast h
theorem J1 (h:eX p f):km (mF p) (cJ p f):=λi a=>by
 rw[yz a];exact EA (Tz h a).1
theorem TA {g:Nat->Rat}:∀{n:Nat},(∀k,k<n->0<=g k)->0<=bO n g
 |0,_=>by grind[bO];|n+1,h=>by
  have a:=@TA g n λk b=>h k (by omega);grind[bO]
theorem TB {g k:Nat->Rat}:∀{n:Nat},(∀i,i<n->g i<=k i)->bO n g<=bO n k
 |0,_=>by grind[bO];|n+1,h=>by
  have a:=@TB g k n λk b=>h k (by omega);grind[bO]
theorem adx {g:Nat->Rat} {n j:Nat} (h:∀k,k<n->0<=g k) (a:j<n):g j<=bO n g:=by
 rw[D6 a];grind[TA]
theorem TC (h:eX p f) {x:Int->Rat} {z:Rat} (d:(cJ p f).holds (nF f) (mF p) x z) (e:∀v∈(cJ p f).basic++(cJ p f).free,0<=x v) {j:Nat} (b:j<nF f):x ((cJ p f).fv j)<=1:=by
 obtain⟨l,_⟩:=yA h b;have r:=kO h.1 l;have a:(oI p (bj (bD f 0) j 0)).bX.toNat<mF p:=by grind
 have s:=d.1 _ a;have n:=e _ (List.mem_append_left _ (AQ lG a));have i:(cJ p f).cf (oI p (bj (bD f 0) j 0)).bX.toNat j=1:=by
  rw[yx a b];unfold dX;rw[if_pos (by omega),if_pos (by omega)];rfl
 have m:=@adx (λk=>(cJ p f).cf (oI p (bj (bD f 0) j 0)).bX.toNat k*x ((cJ p f).fv k)) (nF f) j (λk c=>by
  refine δt ?_ (e _ (List.mem_append_right _ (wi lG c)));rw[yx a c];exact EA (pO (kO h.1 (yA h c).1).2.2.1).1) b;simp only[i] at m;have t:(cJ p f).bd (oI p (bj (bD f 0) j 0)).bX.toNat<=1:=by
  rw[yz a];have o:dn p (oI p (bj (bD f 0) j 0)).bX.toNat=1:=by
   unfold dn;omega
  have q:=@sM p (oI p (bj (bD f 0) j 0)).bX.toNat ((bD f 1).map (oI p)) λx d=>(Ey h x d).2.2.1;have g:dn p (oI p (bj (bD f 0) j 0)).bX.toNat - cV p ((bD f 1).map (oI p)) (oI p (bj (bD f 0) j 0)).bX.toNat<=1:=by omega
  exact_mod_cast g
 grind
theorem TD (h:eX p f) {x:Int->Rat} {z:Rat} (c:(cJ p f).holds (nF f) (mF p) x z) (e:∀v∈(cJ p f).basic++(cJ p f).free,0<=x v):z<=bO (nF f) (cJ p f).cs:=by
 have g:=c.2;have k:(cJ p f).value=0:=rfl;have:=@TB (λj=>(cJ p f).cs j*x ((cJ p f).fv j)) (cJ p f).cs (nF f) λj a=>by
  have i:=TC h c e a;have d:0<=(cJ p f).cs j:=by
   rw[Bd a];exact EA (by have:=kO h.1 (yA h a).1;omega)
  have:=δt d (b:=1 - x ((cJ p f).fv j)) (by grind);grind
 grind
noncomputable def dA (p:bn) (f:List Int):Tb:=lastT (nF f) (mF p) (cJ p f)
theorem oD (h:eX p f):Run (nF f) (mF p) (cJ p f) (dA p f)/\km (mF p) (dA p f)/\eE (dA p f) (nF f)<0:=by
 have a:=Run.refl (n:=nF f) (m:=mF p) (t0:=cJ p f) lG qO;have:=JX a (J1 h);exact⟨this.1,this.2.1,Tv a (J1 h) λx z c b=>TD h c b⟩
end
def eV (d:List bL) (j:Nat) (z:bL):List bL:=d.take j++δ (d.length - j) z
theorem yB {d:List bL} {j:Nat} {z:bL} (h:j<=d.length):(eV d j z).length=d.length:=by
 grind[eV]
theorem yC {d:List bL} {z:bL}:eV d 0 z=δ d.length z:=by simp[eV]
theorem yD {d:List bL} {z:bL}:eV d d.length z=d:=by simp[eV]
theorem yE {d:List bL} {j:Nat} {z x:bL} (h:j<d.length) (b:x=bj d j z):(eV d j z).set j x=eV d (j+1) z:=by
 unfold eV;have a:d.length - j=(d.length - (j+1))+1:=by omega
 rw[a,List.replicate_succ,List.set_append_right _ _ (by grind),γq,show j - min j d.length=0 by omega,List.set_cons_zero,List.take_succ_eq_append_getElem h,List.append_assoc,b,cQ h];rfl
theorem yF {l:List Rat} {i:Nat} {q:Rat}:(fL l).set i (bu q)=fL (l.set i q):=by
 simp_all[fL]
theorem elim_none {l p:List Rat} {c:Nat} (h:bj l c 0=0) (d:c<l.length):kj l c p=l:=by
 refine List.ext_getElem D7 λi b a=>?_;have e:=@D8 c l p i a;grind[cQ]
def r413:dH where
 f:=181;α:=Int;put a:=[.si .i64 a];st _:=[];dec v o:=match v,o with
  |[v],[]=>v.int .i64
  |_,_=>none;ok v o a h:=by
  split at h;·exact⟨by simp only[gL,iN h];rfl,rfl⟩
  ·cases h
 inj a b h _:=by simpa[gL,SV.g] using h
 dom n:=0<=n/\n<=1000;res n:=.ow 0 n.toNat 3;out n:=[.row sF (fL (δ n.toNat 0)) 177 false]
def ady (n:Int):Nat->cF
 |3=> .inv Int (λj=>⟨[(3,.ow 0 n.toNat 3),(8,.si .i64 n.toNat),(9,.si .i64 j)],[.row sF (eV (fL (δ n.toNat 0)) j.toNat (false,([],[]))) 177 true]⟩)
   (λs=>iS s 9) (λj=>0<=j/\j<=n) (λj=>(n - j).toNat) λ_ _=> .look
 |_=> .look
theorem h413:ec Tryz.prog r413:=by
 refine HG (L:=[ox]) (W:=[]) r413 (λ_=>none) ady (by simp) (by simpa using h94) ?_;rintro(n:Int) ⟨n0,n1⟩;refine bR (let a:=(0:Int);let c:=bq.row;let d:=γi .i64;let e:=γ1 0 n.toNat 3;let h:=d (↑n.toNat:Int);let m:=(bp.i .u32).bE;let j:=(false,[],[]);let k:=fL (δ n.toNat (0:Rat));let l:=bu (κ a);a<=n/\n<=n/\n*(56:Int)<=(140737488355328:Int)/\n<=(1000000000000:Int)/\(((e.same e/\h.same h/\(γy .i64 0).same (d 0)/\True)/\(c (bp.b.pair (m.pair m)) (δ n.toNat j) 177 true).same (c sF (eV k 0 j) 177 true)/\True)/\a<=a/\a<=n)/\∀(x:Int),let o:=decide (x<(↑n.toNat:Int));let f:=eV k x.toNat j;let g:=x+(1:Int);let p:=d g;a<=x/\x<=n->(o=true->((-9223372036854775808:Int)<=a/\a<=(9223372036854775807:Int))/\n.toNat=f.length/\a<=x/\x<(↑f.length:Int)/\n.toNat=f.length/\x.toNat<f.length/\cu .i64 g/\((e.same e/\h.same h/\p.same p/\True)/\(c sF (f.set x.toNat (l.fst,l.snd.fst,l.snd.snd)) 177 true).same (c sF (eV k g.toNat j) 177 true)/\True)/\(a<=g/\g<=n)/\(n - g).toNat<(n - x).toNat)/\(o=false->e.same e/\(c sF f 177 false).same (c sF k 177 false)/\True)) (by kernel_rfl) ?_;conv=>zeta
 try simp only[vcs]
 have hcast:∀k:Nat,((k:Nat):Int).toNat=k:=λk=>γl k;have hl:(fL (δ n.toNat 0)).length=n.toNat:=by rw[fF,γC]
 have hrow:∀{x y:List bL},x=y->(bq.row sF x 177 true).same (bq.row sF y 177 true):=by rintro _ _ rfl;rfl
 refine⟨n0,by omega,by omega,by omega,⟨hrow (by rw[yC,hl]),by omega,by omega⟩,?_⟩;rintro j ⟨j0,j1⟩;have oW:=@yB (fL (δ n.toNat 0)) j.toNat (false,([],[])) (by omega);refine⟨λhj=>?_,λhj=>?_⟩
 ·have hE:bj (fL (δ n.toNat 0)) j.toNat (false,([],[]))=bu 0:=by
   rw[jw (by rw[γC];omega),cQ (by rw[γC];omega),List.getElem_replicate]
  have h0:(κ 0:Rat)=0:=rfl;simp only[h0,jM];exact⟨by omega,by omega,j0,by omega,by omega,by omega,by omega,hrow (by rw[yE (by omega) hE.symm,show(j+1).toNat=j.toNat+1 by omega]),by omega,by omega⟩
 ·rw[show j.toNat=(fL (δ n.toNat 0)).length by omega,yD];rfl
def r417:bM:=⟨185,List bL×bL×Int×List bL×bL,.cons (dM sF) (.cons (eh sF) (.cons (eA .i64) (.cons (dM sF) (.one (eh sF))))),
 λa=>∃l b p c,(a.1=fL l/\a.2.1=bu b/\a.2.2.2.1=fL p/\a.2.2.2.2=bu c)/\(l.length=p.length/\l.length<=1000)/\(0<=a.2.2.1/\a.2.2.1<l.length)/\(∀q∈l,Sz 10000000 q)/\(∀q∈p,Sz 10000000 q)/\Sz 10000000 b/\Sz 10000000 c,
 λa=> .bI [.row sF (fL (kj (vL a.1) a.2.2.1.toNat (vL a.2.2.2.1))),pR (bV a.2.1 - bj (vL a.1) a.2.2.1.toNat 0*bV a.2.2.2.2)]⟩
def adz (l:List Rat) (b:Rat) (c:Int) (p:List Rat) (pb:Rat):Nat->cF
 |6=> .inv Int (λj=>⟨[(2,.si .i64 c),(3,.row sF (fL p)),(6,.ptr 0 0 3),(9,.ptr 1 0 3),(11,.ptr 2 0 3),(12,.ptr 3 0 3),(13,.ow 4 l.length 3),(28,.row sF (fL l)),(29,.si .i64 l.length),(30,.si .i64 j)],
   [.cells [.sb (bu b).1,.row (.i .u32) (bu b).2.1,.row (.i .u32) (bu b).2.2] 177 3 false,.cells [.sb (bu pb).1,.row (.i .u32) (bu pb).2.1,.row (.i .u32) (bu pb).2.2] 177 3 false,
    .cells [.bl false,.sc (.slice none 0 0),.sc (.slice none 0 0)] 177 3 false,.cells [.sb (bu (bj l c.toNat 0)).1,.row (.i .u32) (bu (bj l c.toNat 0)).2.1,.row (.i .u32) (bu (bj l c.toNat 0)).2.2] 177 3 false,
    .row sF (eV (fL (kj l c.toNat p)) j.toNat (false,([],[]))) 177 true]⟩)
   (λs=>iS s 30) (λj=>0<=j/\j<=l.length) (λj=>(l.length - j).toNat) λ_ _=> .look
 |_=> .look
theorem h417:Holds Tryz.prog r417:=by
 refine cH (L:=[sU,AI,yh,AH]) r417 (λa=>adz (vL a.1) (bV a.2.1) a.2.2.1 (vL a.2.2.2.1) (bV a.2.2.2.2)) (by simpa using⟨h99,h410,h130,h95⟩) ?_;rintro⟨l',b',c,p',pb'⟩ ⟨l,b,p,pb,⟨e1,e2,e3,e4⟩,⟨g1,g2⟩,⟨c0,c1⟩,hl,hp,hb,hpb⟩;simp only at e1 e2 e3 e4 c0 c1;subst e1 e2 e3 e4;refine bR (let a:=Ω;let d:=(0:Int);let e:=γi .i64;let f:=bq.cells;let g:=bq.row;let h:=γw;let j:=sF.dflt;let k:=γT;let m:=γN;let n:=SV.bI;let F:=bj (fL l) c.toNat j;let a2:=(F.fst,F.snd.fst,F.snd.snd);let o:=bp.i .u32;let t:=(↑(fL l).length:Int);let L:=fL (kj (vL (fL l)) c.toNat (vL (fL p)));let v:=bV (bu b);let w:=bj (vL (fL l)) c.toNat (0:Rat);let y:=bV (bu pb);let a3:=(bu (v - w*y)).snd;let a4:=n [a sF L,m [h (bu (v - w*y)).fst,a o a3.fst,a o a3.snd]];let z:=fL (vL (fL p));let G:=a sF z;let A:=k 0 0 3;let B:=k 1 0 3;let C:=k 2 0 3;let D:=k 3 0 3;let wB:Nat:=(vL (fL l)).length;let H:=γ1 4 wB 3;let I:=fL (vL (fL l));let J:=a sF I;let r:=(↑wB:Int);let K:=e r;let a5:=SV.sc (Value.slice none 0 0);let E:=f [δf false,a5,a5] 177 3 false;let M:=(false,[],[]);let N:=((bu w).fst,(bu w).snd.fst,(bu w).snd.snd);let O:=f [h (bu v).fst,a o (bu v).snd.fst,a o (bu v).snd.snd] 177 3 false;let P:=f [h (bu y).fst,a o (bu y).snd.fst,a o (bu y).snd.snd] 177 3 false;let Q:=f [h (bu w).fst,a o (bu w).snd.fst,a o (bu w).snd.snd] 177 3 false;let a6:=((bu y).fst,(bu y).snd.fst,(bu y).snd.snd);let a7:=((bu v).fst,(bu v).snd.fst,(bu v).snd.snd);let S:=bu (bV N*bV a6);let a8:=(S.fst,S.snd.fst,S.snd.snd);let U:=bu (bV a7 - bV a8);let a9:=λ(u:Bool) ↦decide (jL (bV a2)=d)=u;let V:=λ(u:bp.b.T) (u_1:(o.bE.pair o.bE).T) (u_2:Rat) ↦(f [h u,a o u_1.fst,a o u_1.snd] 177 3 false).same (f [h (bu u_2).fst,a o (bu u_2).snd.fst,a o (bu u_2).snd.snd] 177 3 false);d<=c/\c<t/\c.toNat<(fL l).length/\cC a2/\(a9 true->(n [a sF (fL l),m [h (bu b).fst,a o (bu b).snd.fst,a o (bu b).snd.snd]]).same a4)/\(a9 false->d<=t/\t<=t/\t*(56:Int)<=(140737488355328:Int)/\t<=(1000000000000:Int)/\((((e c).same (e c)/\(a sF (fL p)).same G/\A.same A/\B.same B/\C.same C/\D.same D/\(γ1 4 t.toNat 3).same H/\(a sF (fL l)).same J/\(e t).same K/\(γy .i64 0).same (e 0)/\True)/\V (bu b).fst (bu b).snd v/\V (bu pb).fst (bu pb).snd y/\E.same E/\V F.fst F.snd w/\(g (bp.b.pair (o.bE.pair o.bE)) (δ t.toNat M) 177 true).same (g sF (eV L 0 M) 177 true)/\True)/\d<=d/\d<=r)/\∀(x:Int),let W:=bj z x.toNat j;let X:=(W.fst,W.snd.fst,W.snd.snd);let Y:=bu (bV N*bV X);let Z:=(Y.fst,Y.snd.fst,Y.snd.snd);let q:=eV L x.toNat M;let s:=x+(1:Int);let R:=e s;let aa:=g sF (eV L s.toNat M) 177 true;let a0:=bj I x.toNat j;let ab:=(a0.fst,a0.snd.fst,a0.snd.snd);let ac:=cC Z;let ad:=cC N/\cC X;let ae:=λ(u:Rat) ↦wB=q.length/\d<=x/\x<(↑q.length:Int)/\wB=q.length/\x.toNat<q.length/\cu .i64 s/\(((e c).same (e c)/\G.same G/\A.same A/\B.same B/\C.same C/\D.same D/\H.same H/\J.same J/\K.same K/\R.same R/\True)/\O.same O/\P.same P/\E.same E/\Q.same Q/\(g sF (q.set x.toNat ((bu u).fst,(bu u).snd.fst,(bu u).snd.snd)) 177 true).same aa/\True)/\(d<=s/\s<=r)/\(r - s).toNat<(r - x).toNat;let af:=λ(u:Bool) ↦decide (jL (bV X)=d)=u;let ag:=λ(u:List bL) ↦let a1:=bj u x.toNat j;cC (a1.fst,a1.snd.fst,a1.snd.snd);d<=x/\x<=r->(decide (x<r)=true->d<=x/\x<(↑I.length:Int)/\x.toNat<I.length/\(decide (x=c)=true->d<=x/\x<(↑z.length:Int)/\x.toNat<z.length/\ad/\ac/\ae (-bV Z))/\(decide (x=c)=false->d<=x/\x<(↑z.length:Int)/\x.toNat<z.length/\ag z/\(af true->wB=q.length/\d<=x/\x<(↑q.length:Int)/\wB=q.length/\x.toNat<q.length/\cu .i64 s/\(((e c).same (e c)/\G.same G/\A.same A/\B.same B/\C.same C/\D.same D/\H.same H/\J.same J/\K.same K/\R.same R/\True)/\O.same O/\P.same P/\E.same E/\Q.same Q/\(g sF (q.set x.toNat ab) 177 true).same aa/\True)/\(d<=s/\s<=r)/\(r - s).toNat<(r - x).toNat)/\(af false->d<=x/\x<(↑z.length:Int)/\x.toNat<z.length/\ad/\(ag I/\ac)/\ae (bV ab - bV Z))))/\(decide (x<r)=false->(cC N/\cC a6)/\(cC a7/\cC a8)/\wB=q.length/\(n [a sF q,m [h U.fst,a o U.snd.fst,a o U.snd.snd]]).same a4))) (by kernel_rfl) ?_;simp only[kJ,eD];try simp only[vcs]
 have hfl:=@fF l;have hfp:=@fF p;have hel:(kj l c.toNat p).length=l.length:=D7;have hfe:=@fF (kj l c.toNat p);have hA:bj (fL l) c.toNat sF.dflt=bu (bj l c.toNat 0):=jw (by omega);have hzc:=hl _ (dr (d:=0) (show c.toNat<l.length by omega));have hcast:∀k:Nat,((k:Nat):Int).toNat=k:=λk=>γl k;have hag:∀{x y:Rat},x=y->(γN [γw (bu x).1,Ω (bp.i IntKind.u32) (bu x).2.1,Ω (bp.i IntKind.u32) (bu x).2.2]).same (γN [γw (bu y).1,Ω (bp.i IntKind.u32) (bu y).2.1,Ω (bp.i IntKind.u32) (bu y).2.2]):=by rintro _ _ rfl;rfl
 have hrow:∀{x y:List bL},x=y->(bq.row sF x 177 true).same (bq.row sF y 177 true):=by rintro _ _ rfl;rfl
 simp only[hA,jM,eD,Jk,hcast];refine⟨c0,by omega,by omega,dO hzc (by omega),λhz=>⟨by rw[elim_none hz (by omega)],hag (by rw[hz];grind)⟩,λhz=>⟨by omega,by omega,by omega,by omega,⟨⟨⟨by rw[hfl];rfl,by omega⟩,rfl,hrow (by rw[yC,hfe,hel,hfl])⟩,by omega,by omega⟩,?_⟩⟩;rintro j ⟨j0,j1⟩;have oW:=@yB (fL (kj l c.toNat p)) j.toNat (false,([],[])) (by omega);refine⟨λhj=>?_,λhj=>?_⟩
 ·have hP:bj (fL p) j.toNat sF.dflt=bu (bj p j.toNat 0):=jw (by omega);have hL:bj (fL l) j.toNat sF.dflt=bu (bj l j.toNat 0):=jw (by omega);have EB:=hp _ (dr (d:=0) (show j.toNat<p.length by omega));have hzl:=hl _ (dr (d:=0) (show j.toNat<l.length by omega));have hE:bj (fL (kj l c.toNat p)) j.toNat (false,([],[]))=bu (if j.toNat=c.toNat then -(bj l c.toNat 0*bj p j.toNat 0) else bj l j.toNat 0 - bj l c.toNat 0*bj p j.toNat 0):=by
   rw[jw (by omega),D8 (by omega)]
  have hm:=uB hzc EB;have tail:(0<=j+1/\j+1<=(l.length:Int))/\((l.length:Int) - (j+1)).toNat<((l.length:Int) - j).toNat:=by omega
  have step:∀{x:bL},x=bj (fL (kj l c.toNat p)) j.toNat (false,([],[]))->(bq.row sF ((eV (fL (kj l c.toNat p)) j.toNat (false,([],[]))).set j.toNat x) 177 true).same (bq.row sF (eV (fL (kj l c.toNat p)) (j+1).toNat (false,([],[]))) 177 true):=λh=>hrow (by
   rw[yE (by omega) h,show(j+1).toNat=j.toNat+1 by omega]);simp only[hP,hL,jM,eD,Jk];refine⟨j0,by omega,by omega,λhjc=>⟨j0,by omega,by omega,⟨dO hzc (by omega),dO EB (by omega)⟩,dO hm (by omega),by omega,j0,by omega,by omega,by omega,by omega,step ?_,tail⟩,λhjc=>⟨j0,by omega,by omega,dO EB (by omega),λhpz=>⟨by omega,j0,by omega,by omega,by omega,by omega,step ?_,tail⟩,λhpz=>⟨j0,by omega,by omega,⟨dO hzc (by omega),dO EB (by omega)⟩,⟨dO hzl (by omega),dO hm (by omega)⟩,by omega,j0,by omega,by omega,by omega,by omega,step ?_,tail⟩⟩⟩;·rw[hE,if_pos (by omega)]
  ·rw[hE,if_neg (by omega),hpz];congr 1;grind
  ·rw[hE,if_neg (by omega)]
 ·rw[show j.toNat=(fL (kj l c.toNat p)).length by omega,yD];exact⟨⟨dO hzc (by omega),dO hpb (by omega)⟩,⟨dO hb (by omega),dO (uB hzc hpb) (by omega)⟩,by omega,rfl,rfl⟩
end Go.Vi
