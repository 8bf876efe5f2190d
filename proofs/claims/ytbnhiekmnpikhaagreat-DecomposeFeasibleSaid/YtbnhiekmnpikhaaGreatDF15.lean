/-
  The walk of components (a map of slices, a range over it, a sort) and of renamed.
  Conditions: none.
-/
import Derived.WalkKit
import Derived.Deep.QuietTactic
import Derived.BigQuiet
import Derived.StillTailTactics
import Derived.Shelf.SlSortCmp.NoneTotal
import Derived.Shelf.SlGeneric
import Derived.WalkSpells
import Derived.Maps.OwnRows
import Derived.Maps.RangeWalk
import Derived.Maps.Ext
import Derived.Test.YtbnhiekmnpikhaaGreatDF09
import Derived.Test.YtbnhiekmnpikhaaGreatDF14
import Derived.Test.YtbnhiekmnpikhaaGreatDF06
import Derived.Test.YtbnhiekmnpikhaaGreatDF10
import Derived.Test.YtbnhiekmnpikhaaGreatDF11
import Derived.Test.YtbnhiekmnpikhaaGreatDF07
import Derived.Test.YtbnhiekmnpikhaaGreatDF12
import Derived.Test.YtbnhiekmnpikhaaGreatDF13
import Derived.Test.YtbnhiekmnpikhaaGreatDF08
set_option maxRecDepth 100000
set_option maxHeartbeats 4000000
set_option linter.all false
open Array renaming getElem?_eq_some_iff->γz
open BitVec renaming ofInt->γi
open Classical renaming not_not->γf
open Go.Vi.SV renaming bl->δh,sb->γA,si->γd,row->Ω,il->γB,ow->γZ,ptr->γQ,agg->γR
open List renaming getElem?_take_of_lt->δA,mergeSort_perm->δu,take_succ_eq_append_getElem->γ2,map_append->γa,append_assoc->γY,getElem?_map->γG,getElem?_eq_getElem->μ,mem_or_eq_of_mem_set->δk,replicate->δ,take_succ_cons->δt,take_zero->εp,drop_succ_cons->εv,drop_zero->εo,setIfInBounds_toArray->ε8,set_cons_zero->εH,set_cons_succ->ζc,eq_nil_iff_forall_not_mem->δ2,map_map->γO,attachWith_map_subtype_val->εM,size_toArray->ζ2,length_attachWith->εJ,length_map->Φ,length_append->γh,getElem?_eq_some_iff->ζ,map_cons->ξ,length->γc,take_length->φ,map_take->ζA,mem_cons_self->γS,mem_cons_of_mem->γs,take->Δ
open Nat renaming le_trans->δ1,zero_le->δ4,le_refl->π,lt_of_lt_of_le->γj,le_succ_of_le->ζw
open Option renaming map_eq_some_iff->ε
open Prod renaming fst->εl
open Subtype renaming val->εL
namespace Go.Proofs
open Go.RowKit Go.Maps Go.Vi Go.ChangeShapes
theorem ahh:(Tryz.prog.info? 3).map (λi=>(i.zero,i.size,i.bytes))=some (some (.int .i64 0),1,8):=by kernel_rfl
theorem ahi:(Tryz.prog.info? 24).map (λi=>(i.zero,i.size,i.bytes))=some (some (.slice none 0 0),1,24):=by kernel_rfl
theorem ahj (w:World):(zeroValue 24).run Tryz.prog w= .ok (.slice none 0 0) w:=by kernel_rfl
theorem MH:Keyed Tryz.prog 3:=int_keyed Tryz.underlying3
open Go.Shelf Go.Sort Go.Lib
theorem ahk (f c:Nat) (b i d g:Nat) (x y:Int) (W:World) (o:0<b) (l:0<d) (n:W.cell? ⟨f,0,none⟩=some (.int .i64 x)) (j:W.cell? ⟨c,0,none⟩=some (.int .i64 y)) (k:0<=x/\x<256) (m:0<=y/\y<256):
  Calls Tryz.prog 51 #[.slice (some ⟨f,0,none⟩) b i,.slice (some ⟨c,0,none⟩) d g] W λe h=>e= .returned (.int .i64 (x - y))/\∃q a,h=grow (W.drewN q) a:=by
 go_enter Tryz.func51,Tryz.ntmps51;go_wp2;go_quiet (fail);go_wp2;go_ret;exact⟨rfl,nq,#[],by simp_all⟩
theorem ahl {b:Type} [Inhabited b] {enc:b->Value} {w:World} {g:Nat} {a:Array Value} {e:TypeId} {d:Array b} (i:w.heap[g]?=some (.cells a e (0,0))) (h:a.toList.take d.size=d.toList.map enc):Sort.Holds enc w g 0 d:=by
 intro j c;refine⟨?_,by grind[World.frozen?]⟩;have f:(a.toList.take d.size)[j]?=(d.toList.map enc)[j]?:=by rw[h]
 rw[δA c] at f;simp_all[World.cell?]
theorem ahm {w:World} {B:Nat} {v:Value} {x:Int} {tl:List Int} (h:w.ownsInts B 3 .i64 v (x::tl)):
  ∃(g n cap:Nat),v= .slice (some ⟨g,0,none⟩) n cap/\0<n/\g<w.heap.size/\B<=g/\w.cell? ⟨g,0,none⟩=some (.int .i64 x):=by
 obtain⟨hr,_⟩:=h;have hr2:=hr;rcases hr.2 with⟨_,h0⟩|⟨g,cap,cur,rfl,hgb,hgg,q1,q2,q3,q4⟩;·simp at h0
 ·refine⟨g,_,cap,rfl,by simp,(γz.1 hgg).1,hgb,?_⟩;rw[World.ownsRow.cellAt hr2 0 (by simp)];simp
theorem V1 {d:Type} [Inhabited d] (enc:d->Value) (W:World) (b c n:Nat) (e:Array d) (os:Array Obj) (a:Addr) (f:a.block≠b) (g:a.block<W.heap.size):(sortWorld enc W b c n e os).cell? a=W.cell? a:=by
 unfold sortWorld;rw[cell?_grow _ _ _ (by simp_all),cell?_putRow_other _ _ b c e _ (Or.inl f)];rfl
theorem ahn {b:Type} [Inhabited b] (enc:b->Value) {w:World} {g n:Nat} {os:Array Obj} {a:Array Value} {e:TypeId} {c:Nat×Nat} (d:Array b) (f:w.heap[g]?=some (.cells a e c)):
  (sortWorld enc w g 0 n d os).heap[g]?=some (.cells (putCells enc 0 d a) e c):=by
 grind[sortWorld,heap_grow_old,putRow,mapBlock,Sort.ahead,onCells]
theorem aho {a:Type} [Inhabited a] (enc:a->Value) {w:World} {g n:Nat} {os:Array Obj} (d:Array a):w.grownBy (sortWorld enc w g 0 n d os) (some g):=by
 unfold sortWorld;refine⟨rfl,rfl,rfl,by simp_all,λk c b=>?_⟩;grind[heap_grow_old,putRow,mapBlock,Sort.ahead]
theorem ahp {b:Type} [Inhabited b] (enc:b->Value) (a:Array Value) (d:Array b) (h:d.size<=a.size):(putCells enc 0 d a).toList.take d.size=d.toList.map enc:=by
 apply List.ext_getElem?;grind[putCells]
abbrev Hd (l:List Int) (n:Nat):={f:Int //f∈fc l n}
def qY {l:List Int} {n:Nat} (x y:Hd l n):Int:=x.val - y.val
theorem wP {l:List Int} {n:Nat} (x y:Hd l n):ltOf qY x y=decide (x.val<y.val):=by
 grind[ltOf,qY]
theorem ahq {l:List Int} {n:Nat}:SWO (ltOf (qY (l:=l) (n:=n))) where
 irrefl x:=by grind[wP]
 trans x y z a b:=by grind[wP]
 ntrans x y z a b:=by grind[wP]
theorem ahr {l:List Int} {n:Nat} (c:List (Hd l n)) (m:∀f,f∈c.map εL↔f∈fc l n) (i:(c.map εL).Nodup):(c.mergeSort λx y=>!ltOf qY y x).map εL=fc l n:=by
 have e:=δu c λx y=>!ltOf qY y x;have d:=List.pairwise_mergeSort (le:=λx y=>!ltOf (qY (l:=l) (n:=n)) y x) (λx y z g o=>by grind[wP]) (λx y=>by grind[wP]) c;have j:(c.mergeSort λx y=>!ltOf qY y x).Pairwise λx y=>x.val<=y.val:=d.imp λ{x y} h=>by grind[wP]
 have g:((c.mergeSort λx y=>!ltOf qY y x).map εL).Pairwise (·<=·):=by
  grind
 have k:(fc l n).Perm (c.map εL):=(List.perm_ext_iff_of_nodup (MG.imp λh=>Int.ne_of_lt h) i).2 λf=>(m f).symm;exact List.Perm.eq_of_pairwise (le:=λx y:Int=>x<=y) (λa b _ _ h p=>by omega) g (MG.imp λh=>Int.le_of_lt h) ((e.map _).trans k.symm)
def ahs (w':World) (B:Nat) (l:List Int) (n:Nat) (e:Ending):Prop:=
 (e= .returned (.slice none 0 0)/\fc l n=[])\/∃(g cap:Nat) (cur:Array Value) (sv:Int->Value),e= .returned (.slice (some ⟨g,0,none⟩) (fc l n).length cap)/\B<=g/\w'.heap[g]?=some (.cells cur 24 (0,0))/\(fc l n).length<=cap/\cap<=maxLen/\
  cur.size=cap*1/\cur.toList.take (fc l n).length=(fc l n).map sv/\∀f∈fc l n,w'.ownsInts B 3 .i64 (sv f) (gJ l n (bj l f.toNat 0))
theorem V2 {P:Program} {e:Array Oper} {c:Oper} {a:Act} {w:World} {K:Act->Prop} (f:TypeId) (x:Operand) (p:Addr) (b:List Value) (d:Array Field) (k:∀j v,b[j]?=some v->w.cell? (p.add j)=some v)
  (o:P.underlying f=some (.struct d)) (r:(P.info? f).map (·.size)=some b.length) (m:c.op= .load f x) (l:a.eval x= .pointer (some p)) (n:Region.wanted c (yielded e a.tmps)=true)
  (h:K (a.put c.dst (.agg b.toArray))):if Region.wanted c (yielded e a.tmps) then c.still P a w K else K (a.put c.dst undef):=by
 have g:(loadVar f p).run P w= .ok (.agg b.toArray) w:=by
  have g:(loadCells p b.length).run P w= .ok b.toArray w:=run_loadCells_list (P:=P) w p b k;cases q:P.info? f with
  |none=>simp_all;|some i=>
   simp_all[isAgg,run_underlying,loadVar,sizeOf,typeInfo]
 rw[if_pos n];unfold Oper.still execOp;simp only[m,l,Instr.loadAt,Instr.sureAddr,Sem.run_bind,Sem.run_pure,Result.andThen_ok,g];exact⟨rfl,h⟩
def V3 (v:Fin 8->Value):Value:=.agg #[v 0,v 1,v 2,v 3,v 4,v 5,v 6,v 7]
theorem add_block (q:Addr) (m:Nat):(q.add m).block=q.block:=by grind[Addr.add]
theorem aht {w:World} {B g n c d:Nat} {e:TypeId} {xs:List Value} (h:w.ownsRow B e d (.slice (some ⟨g,0,none⟩) n c) n xs):B<=g:=by
 rcases h.2 with⟨b,_⟩|⟨j,a,f,b,i,_⟩<;>simp_all
theorem BH {w:World} {B g n c:Nat} {l:List Int} {j:Nat} (h:w.ownsInts B 3 .i64 (.slice (some ⟨g,0,none⟩) n c) l) (b:l.length=n) (d:j<n):w.cell? ⟨g,j,none⟩=some (.int .i64 (bj l j 0)):=by
 have a:=h.1;rw[b] at a;rw[World.ownsRow.cellAt a j (by omega)];grind[bj]
theorem ahu {w:World} {b f:Nat} {e:TypeId} {a:Nat} {v:Value} {n:Nat} {xs:List Value} (h:w.ownsRow b e a v n xs) (o:f<=b):w.ownsRow f e a v n xs:=by
 obtain⟨i,l⟩:=h;refine⟨i,l.imp id ?_⟩;rintro⟨g,c,d,m,k,j⟩;exact⟨g,c,d,m,δ1 o k,j⟩
theorem V4 {w b:World} {B g n c S:Nat} {l:List Int} (h:w.ownsInts B 3 .i64 (.slice (some ⟨g,0,none⟩) n c) l) (a:Below S w b) (d:w.heap.size=S):b.ownsInts B 3 .i64 (.slice (some ⟨g,0,none⟩) n c) l:=by
 subst d;exact World.ownsInts.kept (row:=none) h ⟨a.os,a.tape,a.output,a.size,λk e _=>a.block k e⟩ (.inr (by simp[Value.ownBlock]))
theorem ahv {w:World} {B g n a:Nat} {l:List Int} (h:w.ownsInts (B+1) 3 .i64 (.slice (some ⟨g,0,none⟩) n a) l) (c:l.length=n) (b:0<n):B<w.heap.size:=by
 have:=h.1.lt g (by simp[Value.ownBlock]);omega
def qZ (x y:Int) (l:List Int) (i:Nat):List Int:=(l.take i).map (λz=>if z=x then y else z)++l.drop i
theorem MI {x y:Int} {l:List Int} {i:Nat}:(qZ x y l i).length=l.length:=by grind[qZ]
theorem ahw {x y:Int} {l:List Int} {i:Nat} (h:i<l.length):qZ x y l (i+1)=if l[i]=x then(qZ x y l i).set i y else qZ x y l i:=by
 have a:l.take (i+1)=l.take i++[l[i]]:=γ2 h;have b:l.drop i=l[i]::l.drop (i+1):=List.drop_eq_getElem_cons h;have c:((l.take i).map λz=>if z=x then y else z).length=i:=by simp;omega
 unfold qZ;rw[a,γa,γY,b];split<;>simp_all
theorem ahx (g n w:Nat) (l:List Int) (F:l.length=n) (N:n<=60) (x y:Int) (E:(Lit.int .i64 y).wf=true) (Q:∀z∈l,(Lit.int .i64 z).wf=true) (W:World) (A:g<W.heap.size)
  (G:∀j (h:j<l.length),W.cell? ⟨g,j,none⟩=some (.int .i64 l[j]))
  (p:Calls Tryz.prog 52 #[.slice (some ⟨g,0,none⟩) n w] W λe f=>∃c a,e= .returned (.slice (some ⟨c,0,none⟩) n a)/\f.ownsInts W.heap.size 3 .i64 (.slice (some ⟨c,0,none⟩) n a) l/\Below W.heap.size W f):
  Calls Tryz.prog 49 #[.slice (some ⟨g,0,none⟩) n w,.int .i64 x,.int .i64 y] W λe f=>∃c a,e= .returned (.slice (some ⟨c,0,none⟩) n a)/\f.ownsInts W.heap.size 3 .i64 (.slice (some ⟨c,0,none⟩) n a) (qZ x y l n)/\Below W.heap.size W f:=by
 go_enter Tryz.func49,Tryz.ntmps49;go_wp2_with (go_at_call 52;refine p.mono ?_;rintro e f ⟨c,a,rfl,B,L⟩);go_loopw [14] (λi v=>∃k:Nat,k<=n/\i= .int .i64 k/\v.ownsInts W.heap.size 3 .i64 (.slice (some ⟨c,0,none⟩) n a) (qZ x y l k)/\Below W.heap.size W v)
  (λi _=>n - (intOf i).toNat);case atStart=>grind[qZ]
 case round=>
  obtain⟨k,O,rfl,q,o⟩:=hrel;by_cases I:k<n
  ·have H:wr.cell? ⟨g,k,none⟩=some (.int .i64 (l[k]'(by omega))):=(o.cell (by exact A)).trans (G k (by omega));have d:=@ahw x y l k (by omega);by_cases t:l[k]'(by omega)=x
   ·rw[if_pos t] at d;have b:=q.1;rw[MI,F] at b;obtain⟨C,K⟩:=b.stored k (.int .i64 y);have D:=b.frozenAt k;have r:=b.cellAt k (by omega);rw[γG,μ (by grind[MI])] at r;go_wp2;have s:W.heap.size<=c:=by
     rcases b.2 with⟨M,_⟩|⟨R,u,J,M,P,_⟩<;>simp_all
    refine⟨⟨k+1,by omega,by simp,⟨?_,?_⟩,o.setCell (by exact s) _⟩,by simp[intOf];omega⟩;·simp_all[MI]
    ·intro z m;rw[d] at m;rcases δk m with m|rfl;·exact q.2 z m
     ·exact E
   ·rw[if_neg t] at d;go_wp2;grind[intOf]
  ·obtain rfl:k=n:=by omega
   go_wp2;go_ret;exact⟨c,a,rfl,q,o⟩
theorem ahy (x0 x1 x2 x3 x4 x5 x6 x7 x8 x9 x10 x11 x12 x13 x14 x15 x16 x17 x18:Value) (a:Option Addr) (n cap:Nat) (hn:n<=60) (nm:Nat->List Int) (hnm:∀k,(nm k).length=n) (ahG:nm 0=δ n 0) (hwf:∀k,k<=n->∀x∈nm k,(Lit.int .i64 x).wf=true)
  (nk:Nat->Nat->List Int) (hnk:∀k j,(nk k j).length=n) (hwk:∀k j,k<n->∀x∈nk k j,(Lit.int .i64 x).wf=true) (aiV:∀k,k<n->nk k 0=(nm k).set k (k:Int)) (ahH:∀k,k<n->nk k k=nm (k+1))
  (cn:Nat->Nat->Bool) (V5:∀k j,k<n->j<k->nk k (j+1)=if cn k j=true then qX (nk k j) (bj (nk k j) j 0) (bj (nk k j) k 0) else nk k j)
  (ov:Nat->Fin 8->Value) (w:World)
  (hoc:∀i,i<n->∃q,a=some q/\q.block<w.heap.size/\∀j:Fin 8,w.cell? ((q.add (i*8)).add j)=some (ov i j))
  (hcon:∀i j,i<n->j<n->∀W,Calls Tryz.prog 48 #[V3 (ov i),V3 (ov j)] W λe w'=>e= .returned (.bool (cn i j))/\Below W.heap.size W w')
  (ahI:∀(W:World) (B g cp:Nat) (l:List Int),l.length=n->W.ownsInts B 3 .i64 (.slice (some ⟨g,0,none⟩) n cp) l->∀x y,(Lit.int .i64 y).wf=true->Calls Tryz.prog 49 #[.slice (some ⟨g,0,none⟩) n cp,.int .i64 x,.int .i64 y] W λe w'=>
   ∃g2 cp2,e= .returned (.slice (some ⟨g2,0,none⟩) n cp2)/\w'.ownsInts W.heap.size 3 .i64 (.slice (some ⟨g2,0,none⟩) n cp2) (qX l x y)/\Below W.heap.size W w'):
  Calls Tryz.prog 29 #[.agg #[x0,x1,x2,x3,x4,x5,x6,x7,x8,x9,x10,x11,x12,x13,x14,x15,x16,x17,x18,.slice a n cap]] w λe w'=>∃B,w.heap.size<=B/\ahs w' B (nm n) n e/\Below w.heap.size w w':=by
 have hmm:=@run_makeMap Tryz.prog;obtain⟨i0,hi,hz0,hz1,hz2⟩:=info_parts ahh;go_enter Tryz.func29,Tryz.ntmps29;go_wp2_with (first
  |(at_make;refine wpList_make_full _ rfl _ _ 24 rfl (w.heap.size+1) 3 i0 (.int .i64 0) 1 Tryz.underlying24 hi hz0 hz1 .i64 .i64 _ _ n rfl rfl rfl rfl (by rw[hz2];omega) (by unfold maxLen;omega) (by simp) ?_;intro w0 hown0 V6);|go_in);go_loopw [18,3] (λi v wr=>∃(k:Nat) (g:Nat) (cp:Nat),k<=n/\i= .int .i64 k/\v= .slice (some ⟨g,0,none⟩) n cp/\wr.ownsInts (w.heap.size+1) 3 .i64 v (nm k)/\wr.cell? ⟨w.heap.size,19,none⟩=some (.slice a n cap)/\Below w.heap.size w wr)
  (λi _ _=>n - (intOf i).toNat);case atStart=>
  refine⟨0,w.heap.size+1,n,by omega,rfl,rfl,⟨?_,λz hz=>hwf 0 (δ4 _) z hz⟩,?_,((Below.refl _ w).alloc (π _) _).grown V6 (by simp) (by simp_all)⟩;rotate_left
  ·refine(World.cell?_of_block (V6.block w.heap.size (by simp) (by simp_all))).trans ?_;simp_all
  rw[hnm 0,ahG];have e1:(madeCells (Value.int IntKind.i64 0).cells (n*1)).toList=(δ n (0:Int)).map (Value.int .i64):=by
   rw[Nat.mul_one,List.map_replicate];exact toList_madeCells_one _ _
  simp_all
 case round=>
  obtain⟨k,g,cp,hk,rfl,rfl,hown,V7,hnx⟩:=hrel;by_cases hlt:k<n
  ·obtain⟨q,rfl,hqb,_⟩:=hoc k hlt;have uX:=hown.1;rw[hnm k] at uX;obtain⟨hs1,hs2⟩:=uX.stored k (.int .i64 k);have hfr:=uX.frozenAt k;have hce:=uX.cellAt k (by omega);rw[γG,μ (by simp_all)] at hce;go_wp2;have hgb:w.heap.size+1<=g:=aht uX;have hX:(wr.setCell ⟨g,k,none⟩ (.int .i64 k)).ownsInts (w.heap.size+1) 3 .i64 (.slice (some ⟨g,0,none⟩) n cp) (nk k 0):=by
    refine⟨?_,hwk k 0 hlt⟩;simp_all
   have hY:(wr.setCell ⟨g,k,none⟩ (.int .i64 k)).cell? ⟨w.heap.size,19,none⟩=some (.slice (some q) n cap):=by
    rw[<-V7];exact World.cell?_of_block (Below.heap_setCell _ _ _ _ (by simp;omega))
   have hZ:Below w.heap.size w (wr.setCell ⟨g,k,none⟩ (.int .i64 k)):=hnx.setCell (by simp;omega) _;clear hs1 hs2 hfr hce hown V7 hnx uX;generalize wr.setCell ⟨g,k,none⟩ (.int .i64 k)=wa at*;go_loopw [26,3] (λi v ws=>∃(j:Nat) (g:Nat) (cp:Nat),j<=k/\i= .int .i64 j/\v= .slice (some ⟨g,0,none⟩) n cp/\ws.ownsInts (w.heap.size+1) 3 .i64 v (nk k j)/\ws.cell? ⟨w.heap.size,19,none⟩=some (.slice (some q) n cap)/\Below w.heap.size w ws)
    (λi _ _=>k - (intOf i).toNat);case atStart=>exact⟨0,g,cp,δ4 _,rfl,rfl,hX,hY,hZ⟩
   case round=>
    obtain⟨j,g2,cp2,hj,rfl,rfl,ho2,hp2,hb2⟩:=hrel;by_cases hjk:j<k
    ·have hcs:∀i,i<n->∀m u,[ov i 0,ov i 1,ov i 2,ov i 3,ov i 4,ov i 5,ov i 6,ov i 7][m]?=some u->wr.cell? ((q.add (i*8)).add m)=some u:=by
      intro i hi m u hu;obtain⟨q',e,_,c⟩:=hoc i hi;injection e with e;subst e;have c0:∀m:Fin 8,wr.cell? ((q.add (i*8)).add m)=some (ov i m):=λm=>(hb2.cell (by simp_all[add_block])).trans (c m);match m,hu with
      |0,hu=>cases hu;exact c0 0;|1,hu=>cases hu;exact c0 1;|2,hu=>cases hu;exact c0 2;|3,hu=>cases hu;exact c0 3;|4,hu=>cases hu;exact c0 4;|5,hu=>cases hu;exact c0 5;|6,hu=>cases hu;exact c0 6;|7,hu=>cases hu;exact c0 7;|m+8,hu=>simp at hu
     have hjn:j<n:=by omega
     have aiX:(j:Int)<(n:Int):=by omega
     have hln:=hnk k j;have hoj:wr.cell? ⟨g2,j,none⟩=some (.int .i64 (bj (nk k j) j 0)):=BH ho2 hln (by omega);have hok:wr.cell? ⟨g2,k,none⟩=some (.int .i64 (bj (nk k j) k 0)):=BH ho2 hln (by omega);have hwy:(Lit.int .i64 (bj (nk k j) k 0)).wf=true:=hwk k j hlt _ (by simp[bj,show k<(nk k j).length by omega]);go_wp2;refine wp_region_still_tail 10 (by kernel_rfl) (by kernel_rfl) ?_;simp only[δt,εp,εv,εo];still_step;still_step;still_step;still_step;refine wpStill_step (λK hK=>?_);refine V2 65 (.tmp 32) (q.add (k*8)) _ _ (hcs k hlt) Tryz.underlying65 (by kernel_rfl) rfl rfl (by rfl) ?_;simp only[Act.put,ε8,εH,ζc];refine hK _ ?_;clear hK K;still_step;still_step;still_step;still_step;refine wpStill_step (λK hK=>?_);refine V2 65 (.tmp 37) (q.add (j*8)) _ _ (hcs j (by omega)) Tryz.underlying65 (by kernel_rfl) rfl rfl (by rfl) ?_;simp only[Act.put,ε8,εH,ζc];refine hK _ ?_;clear hK K;refine wpStill_nil ?_;change wpList _ _ _ _ _ wr.drew;have hbd:Below wr.heap.size wr wr.drew:=(Below.refl _ _).drew;have hsd:wr.drew.heap.size=wr.heap.size:=rfl;have ho3:wr.drew.ownsInts (w.heap.size+1) 3 .i64 (.slice (some ⟨g2,0,none⟩) n cp2) (nk k j):=ho2;have hp3:wr.drew.cell? ⟨w.heap.size,19,none⟩=some (.slice (some q) n cap):=hp2;have hb3:Below w.heap.size w wr.drew:=hb2.drew;have hwz:w.heap.size<wr.heap.size:=ahv ho2 hln (by omega);clear hoj hok ho2 hp2 hb2 hcs;generalize wr.drew=wd at*;have hc1:=hcon k j hlt hjn wd;rw[hsd] at hc1;cases hcj:cn k j with
     |false=>
      go_wp2_with (go_at_call 48;refine hc1.mono ?_;rintro e w' ⟨rfl,hb4⟩);have BI:=V5 k j hlt hjk;rw[hcj,if_neg (by simp)] at BI;refine⟨⟨j+1,g2,cp2,by omega,by go_num,rfl,?_,?_,?_⟩,by simp[intOf];omega⟩
      ·rw[BI];exact V4 ho3 hb4 (by rw[hsd])
      ·rw[<-hp3];exact hb4.cell (by show w.heap.size<_;omega)
      ·exact hb3.trans (hb4.mono (by omega));|true=>
      go_wp2_with (go_at_call 48;refine hc1.mono ?_;rintro e w' ⟨rfl,hb4⟩);have BI:=V5 k j hlt hjk;rw[hcj,if_pos rfl] at BI;have FK:=V4 ho3 hb4 (by rw[hsd]);have V8:w'.cell? ⟨w.heap.size,19,none⟩=some (.slice (some q) n cap):=by
       rw[<-hp3];exact hb4.cell (by show w.heap.size<_;omega)
      have hb5:=hb3.trans (hb4.mono (show w.heap.size<=wr.heap.size by omega));have aiY:w.heap.size<w'.heap.size:=γj hwz (by rw[<-hsd];exact hb4.size);have hoj:w'.cell? ⟨g2,j,none⟩=some (.int .i64 (bj (nk k j) j 0)):=BH FK hln (by omega);have hok:w'.cell? ⟨g2,k,none⟩=some (.int .i64 (bj (nk k j) k 0)):=BH FK hln (by omega);clear ho3 hp3 hb3 hb4 hc1 hsd;refine wp_region_still_tail 9 (by kernel_rfl) (by kernel_rfl) ?_;simp only[δt,εp,εv,εo];still_step;still_step;still_step;still_step;still_step;still_step;still_step;still_step;still_step;refine wpStill_nil ?_;change wpList _ _ _ _ _ w'.drew;have ho5:w'.drew.ownsInts (w.heap.size+1) 3 .i64 (.slice (some ⟨g2,0,none⟩) n cp2) (nk k j):=FK;have hp5:w'.drew.cell? ⟨w.heap.size,19,none⟩=some (.slice (some q) n cap):=V8;have hb6:Below w.heap.size w w'.drew:=hb5.drew;have hsd:w'.drew.heap.size=w'.heap.size:=rfl;clear hoj hok FK V8 hb5;generalize w'.drew=wd2 at*;have hc2:=ahI wd2 _ g2 cp2 (nk k j) hln ho5 (bj (nk k j) j 0) (bj (nk k j) k 0) hwy;go_wp2_with (go_at_call 49;refine hc2.mono ?_;rintro e w'' ⟨g3,cp3,rfl,MJ,V9⟩);rw[<-BI] at MJ;refine⟨⟨j+1,g3,cp3,by omega,by go_num,rfl,⟨ahu MJ.1 (by omega),MJ.2⟩,?_,?_⟩,by simp[intOf];omega⟩
      ·rw[<-hp5];exact V9.cell (by show w.heap.size<_;omega)
      ·exact hb6.trans (V9.mono (by omega))
    ·obtain rfl:j=k:=by omega
     go_wp2;refine⟨⟨j+1,g2,cp2,by omega,by go_num,rfl,by rw[<-ahH j hlt];exact ho2,hp2,hb2⟩,by simp[intOf];omega⟩
  ·obtain rfl:k=n:=by omega
   have hln:=hnm k;have hcl:∀j,j<k->wr.cell? ⟨g,j,none⟩=some (.int .i64 (bj (nm k) j 0)):=by
    intro j hj;have h1:=hown.1;rw[hln] at h1;rw[World.ownsRow.cellAt h1 j (by omega)];simp[bj,show j<(nm k).length by omega]
   have hg:g<wr.heap.size:=by
    rcases hown.1.2 with⟨h0,_⟩|⟨g3,aiZ,cur,h0,_,hgg,_⟩;·cases h0
    ·injection h0 with h0;injection h0 with h0;injection h0 with h0;subst h0;exact(γz.1 hgg).1
   generalize hnl:nm k=l at*;generalize wr=w1 at*;go_wp2;go_loopw [55] (λi ws=>∃j:Nat,j<=k/\i= .int .i64 j/\ws.ownsGroups Tryz.prog 3 (w1.heap.size+1) 3 .i64 w1.heap.size j (nT Unit l j)/\Below w1.heap.size w1 ws/\w1.heap.size+1<=ws.heap.size)
    (λi _=>k - (intOf i).toNat);case atStart=>exact⟨0,δ4 _,rfl,World.ownsGroups_made _ _ _ _ _,(Below.refl _ _).alloc (π _) _,by simp⟩
   case round=>
    obtain⟨j,hj,rfl,hgr,hbl,hws⟩:=hrel;have hcx:j<k->wr.cell? ⟨g,j,none⟩=some (.int .i64 (bj l j 0)):=λh=>(hbl.cell (by exact hg)).trans (hcl j h);have hkey:j<k->keyOf Tryz.prog 3 (.int .i64 (bj l j 0))=some (.int .i64 (bj l j 0)):=λh=>keyOf_int_mk Tryz.underlying3 (hwf k (π _) _ (by rw[hnl];simp[bj,show j<l.length by omega]));by_cases hjk:j<k
    ·replace hcx:=hcx hjk;replace hkey:=hkey hjk;go_wp2_with (first
      |(at_lookup;refine wpList_lookup_groups _ rfl _ _ 94 rfl 3 24 3 .i64 MH Tryz.underlying94 (ahj _) (w1.heap.size+1) w1.heap.size j _ rfl hgr (by unfold maxLen;omega) _ _ rfl hkey ?_;intro v zs hat hoi hzl hback);|(at_builtin;refine wpList_append_own_at _ rfl _ _ 24 rfl (w1.heap.size+1) 3 i0 (.int .i64 0) 1 8 Tryz.underlying24 hi hz0 hz1 hz2 rfl (by decide) _ _ _ rfl (hoi.1.alloc _) ⟨wr.heap.size,0,none⟩ 1 1 [.int .i64 j] rfl rfl (cell_one_new _ _ _) (ints_oneCell .i64 [(j:Int)]) (by unfold maxLen;omega) (by omega) (by simp;omega) ?_;intro v' w2 hown' hgrow hnil hloc);|(at_mapUpdate;refine wpList_mapUpdate_back _ rfl _ _ _ 94 rfl hback rfl rfl rfl ((World.grownBy_alloc _ _ _).trans hgrow) (hoi.appended hown' (WalkArith.wf_i64 (by omega))) (by simp;omega) (hloc.imp id (λh=>⟨_,h,by simp⟩)) ?_;intro w3 hown3 hgrow3);|go_in);have hall:=(World.grownBy_alloc wr _ _).trans hgrow;go_roundw;case rel=>
      refine⟨j+1,by omega,by go_num,?_,hbl.groups hoi hall hgrow3 hbl.size (Nat.le_succ _) (π _),δ1 hws (δ1 hall.size hgrow3.size)⟩;have hz:=ag8 hoi hat;rw[nT,<-hz,<-(hoi.appended hown' (WalkArith.wf_i64 (by omega))).datum_pos (by simp)];exact hown3
     case measure=>simp[intOf];omega
    ·obtain rfl:j=k:=by omega
     have hmap:wr.ownsMap Tryz.prog 3 (rowElem wr (w1.heap.size+1) 3 .i64) w1.heap.size j (nT Unit l j):=by
      obtain⟨es,ck,h1,h2,h3,h4,h5,h6,h7⟩:=hgr;exact⟨es,ck,h1,h2,h3,h4⟩
     generalize wr=w4 at*;go_wp2_with (first
      |(at_range;refine wpList_range_own _ rfl _ 94 rfl 3 24 MH Tryz.underlying94 _ w1.heap.size j _ rfl hmap ?_;intro w5 hrg0 hg0 hs0);|go_in);go_frame;go_loopw [9] (λu ws=>∃(left:Lit->Bool) (cnt:Nat) (hs:List (Int×Value)),ws.ranges Tryz.prog 3 (rowElem w4 (w1.heap.size+1) 3 .i64) w1.heap.size w4.heap.size j (nT Unit l j) left cnt/\
       ws.ownsRow (w4.heap.size+1) 24 1 u hs.length (hs.map Prod.snd)/\zc (λv zs=>w4.ownsInts (w1.heap.size+1) 3 .i64 v zs) l j (nT Unit l j) left cnt hs/\
       w4.heap.size+1<=ws.heap.size/\Below w4.heap.size w4 ws)
      (λ_ ws=>ws.rangeLeft w1.heap.size w4.heap.size);case atStart=>
      refine⟨Go.Maps.has (nT Unit l j),Go.Maps.size (nT Unit l j),[],hrg0,⟨by simp,.inl ⟨rfl,rfl⟩⟩,⟨List.nodup_nil,by simp,?_,?_,λ_ h=>h⟩,by omega,(Below.refl _ w4).grown hg0 (π _) (by intro k hk;cases hk)⟩
      ·intro f hf hl;rw[VX] at hl;have h2:=FI.1 hf;simp at hl;rw[hl] at h2;cases h2
      ·have:=hmap.size_le;simp;omega
     case round=>
      obtain⟨left,cnt,hs,hrg,hrow,hse,hsz,hbe⟩:=hrel;go_wp2_with (first
       |(at_next;refine wpList_next_ranges _ rfl _ rfl 3 MH (rowElem w4 (w1.heap.size+1) 3 .i64) (Value.int .i64) (λc:Option Addr×Nat×Nat=>Value.slice c.1 c.2.1 c.2.2) (λkey kl hkey=>by obtain⟨x,rfl,_⟩:=Maps.keyOf_int_inv Tryz.underlying3 hkey;exact⟨x,rfl⟩) (λv y hv=>by
        obtain⟨zs,ho,_⟩:=rowElem_inv hv;obtain⟨_,h|⟨g,cp,_,h,_⟩⟩:=ho.1;·exact⟨(none,0,0),h.1⟩
        ·exact⟨(some ⟨g,0,none⟩,zs.length,cp),h⟩) w1.heap.size w4.heap.size j _ _ _ rfl hrg ?_ ?_);|go_in)
      ·intro hc0 hl0;have eg:∀args w,(callFunc 51 args).run Tryz.prog w= .ok (.enter 51 args) w:=enters_of Tryz.func51 (by kernel_rfl) rfl;obtain⟨hmem,hO,hsrt⟩:=hse.done hl0;have hhs:hs.length<=60:=by have:=hse.c;omega
       rcases hrow.2 with⟨rfl,hn0⟩|⟨g2,cap2,cur,rfl,hgb,hgg,q1,q2,q3,q4⟩
       ·have lv:=AnyF.slices_SortFunc_none {Tryz.layR with} none 0 (.func (.func 51) #[] #[]) wr;change Calls Tryz.prog 50 _ _ _ at lv;go_wp2_with (go_at_call 50;refine lv.mono ?_;rintro e w' ⟨rfl,rfl⟩);go_ret;refine⟨w1.heap.size+1,ζw hnx.size,.inl ⟨rfl,?_⟩,hnx.trans ((hbl.trans (hbe.mono (by omega))).mono hnx.size)⟩;rw[hnl,δ2];intro f hf;have hf2:=(hmem f).2 hf;rw[List.eq_nil_of_length_eq_zero hn0] at hf2;cases hf2
       ·by_cases hne:hs=[]
        ·subst hne;have lv:=AnyF.slices_SortFunc_none {Tryz.layR with} (some ⟨g2,0,none⟩) cap2 (.func (.func 51) #[] #[]) wr;change Calls Tryz.prog 50 _ _ _ at lv;go_wp2_with (go_at_call 50;refine lv.mono ?_;rintro e w' ⟨rfl,rfl⟩);go_ret;have h0:fc l j=[]:=by
          rw[δ2];intro f hf;have hf2:=(hmem f).2 hf;cases hf2
         refine⟨w1.heap.size+1,ζw hnx.size,?_,hnx.trans ((hbl.trans (hbe.mono (by omega))).mono hnx.size)⟩;rw[hnl];refine .inr ⟨g2,cap2,cur,mY [],by rw[h0];rfl,by omega,hgg,by rw[h0];simp,q2,q3,by rw[h0];simp,λf hf=>?_⟩;rw[h0] at hf;cases hf
        have hhd:∀x:Hd l j,∃(g n cap:Nat),mY hs x.val= .slice (some ⟨g,0,none⟩) n cap/\0<n/\g<w4.heap.size/\w1.heap.size+1<=g/\w4.cell? ⟨g,0,none⟩=some (.int .i64 x.val):=λx=>by
         have h1:=hO x.val x.property;have h2:=FI.1 x.property;cases hc:gJ l j (bj l x.val.toNat 0) with
         |nil=>rw[hc] at h2;cases h2;|cons y tl=>
          rw[hc] at h1 h2;injection h2 with h2;subst h2;exact ahm h1
        have hbd:∀x:Hd l j,0<=x.val/\x.val<256:=λx=>by
         have:=ahe x.property;omega
        have ahO:((hs.map εl).attachWith (·∈fc l j) (λf hf=>(hmem f).1 hf)).map (λx:Hd l j=>mY hs x.val)=hs.map Prod.snd:=by
         have:(λx:Hd l j=>mY hs x.val)=(mY hs)∘εL:=rfl;rw[this,<-γO,εM];exact ahf hse.d
        obtain⟨q0,hq0⟩:=List.exists_mem_of_ne_nil _ hne;haveI:Inhabited (Hd l j):=⟨⟨q0.1,(hse.i q0 hq0).1⟩⟩;have lv:=Any.slices_SortFunc_total Tryz.layR (λx:Hd l j=>mY hs x.val) (λx=>by obtain⟨g,n,cap,e,_⟩:=hhd x;show(mY hs x.val).oneCell'=true;rw[e];rfl) qY ahq 51 #[] g2 0 cap2 ((hs.map εl).attachWith (·∈fc l j) (λf hf=>(hmem f).1 hf)).toArray wr eg
         (λm os dk hdk x y=>by
          obtain⟨ga,na,ca,ea,la,ba,da,fa⟩:=hhd x;obtain⟨gb,nb,cb,eb,lb,bb,db,fb⟩:=hhd y;simp only[ea,eb];have ai0:=hbe.size;exact ahk ga gb na ca nb cb x.val y.val _ la lb (by rw[V1 _ _ _ _ _ _ _ _ (by show ga≠g2;omega) (by show ga<_;omega),hbe.cell (by exact ba)];exact fa)
           (by rw[V1 _ _ _ _ _ _ _ _ (by show gb≠g2;omega) (by show gb<_;omega),hbe.cell (by exact bb)];exact fb) (hbd x) (hbd y)) (ahl hgg (by simp only[ζ2,εJ,Φ];rw[show hs.length=hs.length*1 by omega,q4];exact ahO.symm)) (γz.1 hgg).1 (by simp;omega) (λx y h1 h2=>by rw[wP] at h1 h2;simp at h1 h2;exact Subtype.ext (by omega));change Calls Tryz.prog 50 _ _ _ at lv;simp only[ζ2,εJ,Φ] at lv;go_wp2_with (go_at_call 50;refine lv.mono ?_;rintro e w' ⟨rfl,N,os,rfl⟩);go_ret;have Wa:((hs.map εl).attachWith (·∈fc l j) (λf hf=>(hmem f).1 hf)).map εL=hs.map εl:=εM _;have hT:=ahr ((hs.map εl).attachWith (·∈fc l j) (λf hf=>(hmem f).1 hf)) (by rw[Wa];exact hmem) (by rw[Wa];exact hse.d);have hpl:=(δu ((hs.map εl).attachWith (·∈fc l j) (λf hf=>(hmem f).1 hf)) λx y=>!ltOf qY y x).length_eq;generalize (((hs.map εl).attachWith (·∈fc l j) (λf hf=>(hmem f).1 hf)).mergeSort λx y=>!ltOf qY y x)=ts at hT hpl ⊢;simp only[εJ,Φ] at hpl;have hdl:(fc l j).length=hs.length:=by rw[<-hT,Φ,hpl]
        have hbs:=hbe.size;have hb':=hbe.grown (aho (λx:Hd l j=>mY hs x.val) (n:=N) (os:=os) (g:=g2) ts.toArray) hbe.size (by intro k hk;injection hk with hk;omega);refine⟨w1.heap.size+1,ζw hnx.size,?_,hnx.trans ((hbl.trans (hb'.mono (by omega))).mono hnx.size)⟩;rw[hnl];have htk:=ahp (λx:Hd l j=>mY hs x.val) cur ts.toArray (by simp;omega);refine .inr ⟨g2,cap2,_,mY hs,by rw[hdl];rfl,by omega,ahn _ _ hgg,by omega,q2,by simp[putCells,q3],?_,λf hf=>?_⟩
        ·rw[hdl,<-hpl];refine Eq.trans ?_ (congrArg (List.map (mY hs)) hT);rw[γO];simpa using htk
        ·refine World.ownsInts.kept (row:=none) (hO f hf) ⟨hb'.os,hb'.tape,hb'.output,hb'.size,λk hk _=>hb'.block k hk⟩ ?_;obtain⟨g,n,cap,e,_⟩:=hhd ⟨f,hf⟩;right;rw[show mY hs f=_ from e];simp[Value.ownBlock]
      ·intro x ca cn cc kl y yy w6 cnt1 hkx hlx hRc hat hrg1 hlt hg1 hs1 hen;obtain⟨_,e1,rfl,hwx⟩:=Maps.keyOf_int_inv Tryz.underlying3 hkx;cases e1;obtain⟨zs,hoc,hyy⟩:=rowElem_inv hRc;cases hyy;obtain⟨i1,hi1,hy0,hy1,hy2⟩:=info_parts ahi;have h1c:∀v∈[Value.slice ca cn cc],v.oneCell'=true:=by
        intro v hv;rw[List.mem_singleton] at hv;subst hv;rfl
       have hkl:=hse.h _ hlx;rw[VX] at hkl;obtain⟨f,tl,hft,hfh,hfx⟩:=aha (of_decide_eq_true hkl);have uX:=hrow.kept hg1 (by
        rcases hrow.2 with⟨rfl,_⟩|⟨g,cap,cur,rfl,hgb,_⟩;·exact .inl rfl
        ·right;simp[Value.ownBlock];omega);have hcc:=hse.c;have hhs:hs.length<=60:=by omega
       have ahS:Below w4.heap.size w4 w6:=hbe.grown hg1 hbe.size (by intro k hk;injection hk with hk;omega);go_wp2_with (first
        |(at_builtin;refine wpList_append_own _ rfl _ _ 30 rfl (w4.heap.size+1) 24 i1 (.slice none 0 0) 1 24 Tryz.underlying30 hi1 hy0 hy1 hy2 rfl (by decide) _ _ _ rfl (uX.alloc _) ⟨wr.heap.size,0,none⟩ 1 1 [Value.slice ca cn cc] rfl rfl (by rw[<-hs1];exact cell_one_new _ _ _) h1c (by unfold maxLen;omega) (by omega) (by simp;omega) ?_;intro v' w7 ahT ahU ai1);|go_in);have MK:(w6.alloc (Obj.cells #[Value.slice ca cn cc] 24)).grownBy w7 u9.ownBlock:=ahU;have hzs:zs=gJ l j x:=ahg hoc (hat .nil);have hO:w4.ownsInts (w1.heap.size+1) 3 .i64 (Value.slice ca cn cc) (gJ l j (bj l f.toNat 0)):=by
        rw[hfx,<-hzs];exact hoc
       have hrw:some w1.heap.size≠u9.ownBlock/\some w4.heap.size≠u9.ownBlock:=by
        rcases hrow.2 with⟨rfl,_⟩|⟨g,cap,cur,rfl,hgb,_⟩;·exact⟨by simp[Value.ownBlock],by simp[Value.ownBlock]⟩
        ·exact⟨by simp[Value.ownBlock];omega,by simp[Value.ownBlock];omega⟩
       have Wb:=(hrg1.alloc (Obj.cells #[Value.slice ca cn cc] 24)).kept MK hrw.1 hrw.2;have ai2:=MK.size;have hsa:(w6.alloc (Obj.cells #[Value.slice ca cn cc] 24)).heap.size=w6.heap.size+1:=by simp
       have hbs:=hbe.size;subst hfx;refine⟨⟨_,cnt1,hs++[(f,.slice ca cn cc)],Wb,?_,hse.step hfh hO hlx hlt,by omega,(ahS.alloc (by omega) _).grown MK (by omega) ?_⟩,?_⟩
       ·rw[γh,γa];exact ahT
       ·intro k hk;rcases hrow.2 with⟨rfl,_⟩|⟨g,cap,cur,rfl,hgb,_⟩;·cases hk
        ·simp[Value.ownBlock] at hk;omega
       ·rw[Wb.left_eq,hrg.left_eq];exact hlt
end Go.Proofs
namespace Go.Vi
open Go.Proofs.YtbnhiekmnpikhaaGreat.Ir
open Go.Proofs
theorem ahV {a b:Off} (d:a.want.ok=true) (c:b.want.ok=true):j7 a b=true↔a.bX=b.bX\/¬((a.want.meet b.want).a0=0/\(a.want.meet b.want).a1=0/\(a.want.meet b.want).a2=0/\(a.want.meet b.want).a3=0/\(a.want.meet b.want).a4=0/\(a.want.meet b.want).a5=0):=by
 have d:=bC.iP.1 d;have c:=bC.iP.1 c;simp only[j7,List.any_cons,List.any_nil,Bool.or_eq_true,Bool.and_eq_true,decide_eq_true_eq,Bool.false_eq_true,or_false];simp only[bC.at,MB,MC,bC.meet];omega
def Wc:bM:=⟨48,Off×Off,.cons (ei .off) (.one (ei .off)),λa=>a.1.want.ok=true/\a.2.want.ok=true,λa=> .sb (j7 a.1 a.2)⟩
theorem h565:Holds Tryz.prog Wc:=by
 refine cH (L:=[H9]) Wc (λ_=>λ_=> .look) (by grind[h163]) ?_;rintro⟨a,b⟩ ⟨e,f⟩;simp only at e f;refine bQ (let e:=(0:Int);let d:=decide (a.bX=b.bX);let c:=a.want.meet b.want;(d=true->(δh true).same (γA (j7 a b)))/\(d=false->True/\(γA !(decide (c.a0=e)&&(decide (c.a1=e)&&(decide (c.a2=e)&&(decide (c.a3=e)&&(decide (c.a4=e)&&(decide (c.a5=e)&&true))))))).same (γA (j7 a b)))) (by kernel_rfl) ?_;simp only[vcs];grind[ahV]
def BJ (p:bn) (i:Nat) (j:Fin 8):Value:=bj (dy .off (oI p i)) j .nilFunc
theorem Wg {W:World} (o:Off):bw kh W [] [] ((ei .off).put o).g (.agg (dy .off o).toArray):=by
 show bw kh W [] [] (.agg ((dy .off o).map .sc)) _;simp only[bw];exact⟨_,rfl,by simpa using vo kh W [] [] (dy .off o) (by simp[dy,iv,Value.oneCell'])⟩
theorem ahW {a b:Off} (j:a.want.ok=true) (h:b.want.ok=true) (W:World):Calls Tryz.prog 48 #[.agg (dy .off a).toArray,.agg (dy .off b).toArray] W λe g=>e= .returned (.bool (j7 a b))/\RowKit.Below W.heap.size W g:=by
 refine((h565 (a,b) ⟨j,h⟩).2 kh W [] [.agg (dy .off a).toArray,.agg (dy .off b).toArray] (zu W (λb f=>f.elim)) ⟨_,_,rfl,Wg a,_,_,rfl,Wg b,rfl⟩).mono ?_;rintro e i ⟨u,c,rfl,_,d,k⟩;have d:bw kh i c [] (.sc (.bool (j7 a b))) u:=d;grind[bw,Qd]
theorem ahX {l:List Int} {x y:Int}:qZ x y l l.length=qX l x y:=by simp[qZ,qX]
theorem ahY {n:Nat} (v:n<=60) (W:World) (B g d:Nat) (l:List Int) (i:l.length=n) (k:W.ownsInts B 3 .i64 (.slice (some ⟨g,0,none⟩) n d) l) (x y:Int) (t:(Lit.int .i64 y).wf=true):
  Calls Tryz.prog 49 #[.slice (some ⟨g,0,none⟩) n d,.int .i64 x,.int .i64 y] W λe o=>
   ∃m a,e= .returned (.slice (some ⟨m,0,none⟩) n a)/\o.ownsInts W.heap.size 3 .i64 (.slice (some ⟨m,0,none⟩) n a) (qX l x y)/\RowKit.Below W.heap.size W o:=by
 have s:∀j (h:j<l.length),W.cell? ⟨g,j,none⟩=some (.int .i64 l[j]):=λj h=>by
  rw[BH k i (by omega)];grind[bj]
 have z:=ahx g n d l i v x y t k.2 W (by have:=k.1.lt g (by simp[Value.ownBlock]);omega) s (by
  have p:Calls Tryz.prog 52 #[.slice (some ⟨g,0,none⟩) n d] W _:=SY Tryz.layC Tryz.t3 (.int .i64 0) 1 8 (by kernel_rfl) (by kernel_rfl) (by kernel_rfl) (by kernel_rfl) (by kernel_rfl) (by omega) Tryz.sizeOf3 ⟨g,0,none⟩ n d (l.map (Value.int .i64)) W (by simp[i]) (by grind[maxLen]) (by omega) (λj u w=>by
   grind[Addr.add_lit]) (by simp[Value.oneCell']);refine p.mono ?_;rintro e o ⟨A,rfl,b,q,f⟩;have c:=b;rcases c.2 with h|⟨m,a,r,rfl,_⟩;·simp_all
  ·exact⟨m,a,rfl,⟨by rw[i];exact b,k.2⟩,f⟩);grind[ahX]
theorem BK {p:bn} {i:Nat} {l:List Int}:∀{k:Nat},(mW p i l k).length=l.length
 |0=>rfl
 |k+1=>by
  unfold mW;split;·rw[VA];exact BK
  ·exact BK
theorem FM {p:bn}:∀{k:Nat},(nS p k).length=p.offers.length
 |0=>List.length_replicate
 |k+1=>by
  show(mW p k _ k).length=_;rw[BK,List.length_set];exact FM
theorem BL {p:bn} {i:Nat} {l:List Int} {B:Int} (b:i<l.length) (h:∀x∈l,0<=x/\x<=B):∀{k:Nat},∀x∈mW p i l k,0<=x/\x<=B
 |0=>h
 |k+1=>by
  intro x a;unfold mW at a;split at a
  ·unfold qX at a;obtain⟨y,c,rfl⟩:=List.mem_map.1 a;split
   ·refine BL (p:=p) b h (k:=k) _ ?_;grind[BK,cT]
   ·exact BL b h (k:=k) y c
  ·exact BL b h (k:=k) x a
theorem ML {p:bn}:∀{k:Nat},k<=p.offers.length->∀x∈nS p k,0<=x/\x<=p.offers.length
 |0,_=>λx a=>by
  have:=List.eq_of_mem_replicate a;omega;|k+1,b=>by
  refine BL (by grind[FM]) λx a=>?_;rcases δk a with a|rfl;·exact ML (by omega) x a
  ·omega
theorem ahZ {A:dM} {w:World} {B:Nat} {v:Value} {l:List Int} (e:w.ownsInts B 3 .i64 v l) (u:∀b,A b->b<B):bw A w [] [] (.sl l.length (l.map λx=>AV.sc (.int .i64 x))) v:=by
 have m:dB (l.map λx=>AV.sc (.int .i64 x))=true:=by rw[<-mQ];grind[o6]
 have d:=e.1;rcases e.1.2 with⟨rfl,y⟩|⟨g,k,o,rfl,q,p,h,r,s,t⟩;·grind[bw,dr]
 ·simp only[bw];refine⟨_,_,rfl,h,m,dr.kX _ _ _ λi c a=>?_⟩;rw[γG] at a;obtain⟨x,f,rfl⟩:=ε.1 a;have n:=(ζ.1 f).1;refine⟨⟨g,0,none⟩,.int .i64 x,rfl,⟨λ⟨i,c,a⟩=>by simp at a,λj=>by grind⟩,?_,by simp[bw,Value.oneCell']⟩;rw[Addr.add_lit,Nat.zero_add,Nat.zero_add,World.ownsRow.cellAt d i (by omega),γG,f];rfl
theorem Wh (L:List (List Int)):cF (.bB (.i .i64)) L=L.map λl=>AV.sl l.length (l.map λx=>AV.sc (.int .i64 x)):=by
 induction L with
 |nil=>rfl;|cons l L a=>
  rw[ξ,<-a,<-mQ];rfl
theorem ah0 {w:World} {a:Addr} {v:Value} (h:w.cell? a=some v):a.block<w.heap.size:=by
 grind[World.cell?]
theorem ah1 (q:Addr) (a b:Nat):(q.add a).add b=q.add (a+b):=by
 unfold Addr.add;grind
theorem ah2 {p:bn} {i:Nat} (a:i<p.offers.length) (j:Fin 8):(cF .off p.offers)[i*8+j]?=some (.sc (BJ p i j)):=by
 have h:=OP (s:=.off) a;have b:((cF .off p.offers).drop (i*bp.off.sz))[(j:Nat)]?=some (.sc (BJ p i j)):=by
  rw[h];obtain⟨j,c⟩:=j;have:j=0\/j=1\/j=2\/j=3\/j=4\/j=5\/j=6\/j=7:=by omega
  rcases this with rfl|rfl|rfl|rfl|rfl|rfl|rfl|rfl<;>rfl
 rwa [List.getElem?_drop] at b
def MM:bM:=⟨29,bn,.one dO,λp=>bz p=0/\p.offers.length<=60,λp=> .row (.bB (.i .i64)) (bW p)⟩
theorem h560:Holds Tryz.prog MM:=by
 rintro(p:bn) ⟨hc,hn⟩;refine⟨by kernel_rfl,?_⟩;intro A w σ vs Q E;have T:σ=[]:=by have:=Q.len;simp_all
 subst T;replace E:bG A w [] [] [.agg (gL p.ss)] vs:=E;simp only[bG] at E;obtain⟨v,r,rfl,hv,rfl⟩:=E;simp only[bw] at hv;obtain⟨cs,rfl,C⟩:=hv;obtain⟨cs⟩:=cs;simp only[bn.ss,gL,SV.g,bG] at C;obtain⟨x0,r0,rfl, -,x1,r1,rfl, -,x2,r2,rfl, -,x3,r3,rfl, -,x4,r4,rfl, -,x5,r5,rfl, -,x6,r6,rfl, -,x7,r7,rfl, -,x8,r8,rfl, -,x9,r9,rfl, -,J,a8,rfl, -,H,b0,rfl, -,U,a7,rfl, -,a1,b2,rfl, -,V,b4,rfl, -,a0,b5,rfl, -,I,a5,rfl, -,L,b1,rfl, -,F,a6,rfl, -,b6,b3,rfl,D,rfl⟩:=C;simp only[bw] at D;obtain⟨a,Z,rfl,a2,_,hM⟩:=D;have K:∀i,i<p.offers.length->∃q,a=some q/\q.block<w.heap.size/\∀j:Fin 8,w.cell? ((q.add (i*8)).add j)=some (BJ p i j):=by
  intro i m;have hq:∀j:Fin 8,∃b,a=some b/\w.cell? (b.add (i*8+j))=some (BJ p i j):=λj=>by
   obtain⟨b,v,e,_,M,a3⟩:=dr.get _ _ _ hM _ _ (ah2 m j);grind[bw]
  obtain⟨q,rfl,h0⟩:=hq 0;refine⟨q,rfl,?_,λj=>?_⟩
  ·have:=ah0 h0;grind[add_block]
  simp_all[ah1]
 have t:∀i:Nat,i<p.offers.length->(oI p i).want.ok=true:=λi m=>(kr hc (i:=(i:Int)) ⟨by omega,by omega⟩).2.2.1;have a4:∀k:Nat,((nS p k).set k (k:Int)).length=p.offers.length:=λk=>by grind[FM]
 have n:=ahy x0 x1 x2 x3 x4 x5 x6 x7 x8 x9 J H U a1 V a0 I L F a p.offers.length Z hn (nS p) (λ_=>FM) rfl (λk s x o=>WalkArith.wf_i64 (by have:=ML s x o;omega))
  (λk j=>mW p k ((nS p k).set k (k:Int)) j) (λk j=>by grind[BK])
  (λk j s x o=>WalkArith.wf_i64 (by
   have:=BL (p:=p) (i:=k) (B:=p.offers.length) (by simp_all) (λx o=>by
    rcases δk o with o|rfl;·exact ML (by omega) x o
    ·omega) (k:=j) x o;omega))
  (λk s=>rfl) (λk s=>rfl) (λi j=>j7 (oI p i) (oI p j)) (λk j s hj=>rfl) (BJ p) w K (λi j m hj W=>ahW (t i m) (t j hj) W) (λW B g cp l X ho x y hy=>ahY hn W B g cp l X ho x y hy);refine n.mono ?_;rintro e w' ⟨B,hB,z,d⟩;have hA:∀b,A b->b<B:=λb h=>γj (Q.jF b h) hB;have R:bT A w' [] []:=⟨rfl,by simp,by simp,by simp,by simp,λb h=>γj (Q.jF b h) d.size⟩;have hE:Ext w [] [] w' [] []:=⟨d.size,λb h _=>⟨d.block b h,λ⟨i,c,m⟩=>by simp at m⟩,π _,λ_ _ ⟨_,_,_,_,h,_⟩=>by simp at h,λ_ ⟨_,_,_,h⟩=>by simp at h,d.os,d.tape,d.output⟩;have e2:(MM.res p).G= .sl (bW p).length ((bW p).map λl=>AV.sl l.length (l.map λx=>AV.sc (.int .i64 x))):=by rw[<-Wh];rfl
 have P:dB ((bW p).map λl=>AV.sl l.length (l.map λx=>AV.sc (.int .i64 x)))=true:=by rw[<-Wh];grind[o6]
 have u:bW p=(fc (nS p p.offers.length) p.offers.length).map λf=>gJ (nS p p.offers.length) p.offers.length (bj (nS p p.offers.length) f.toNat 0):=ahd;rw[e2];rcases z with⟨rfl,h0⟩|⟨g,cp,Y,sv,rfl,hg,a9,h1,h2,h3,h4,h5⟩;·grind[bw,dr]
 ·have X:(bW p).length=(fc (nS p p.offers.length) p.offers.length).length:=by rw[u,Φ]
  refine⟨_,[],rfl,R,?_,hE⟩;rw[X];simp only[bw];refine⟨_,_,rfl,h1,P,dr.kX _ _ _ λi c m=>?_⟩;rw[u,γO,γG] at m;obtain⟨f,S,rfl⟩:=ε.1 m;have N:=(ζ.1 S).1;have h9:(Y.toList.take (fc (nS p p.offers.length) p.offers.length).length)[i]?=some (sv f):=by rw[h4,γG,S];rfl
  rw[δA N,Array.getElem?_toList] at h9;refine⟨⟨g,0,none⟩,sv f,rfl,⟨λ⟨i,c,m⟩=>by simp at m,λO=>by have:=hA g O;omega⟩,?_,ahZ (h5 f (List.mem_of_getElem? S)) hA⟩;rw[Addr.add_lit];simp_all[World.cell?]
def MN:bM:=⟨36,List Int×List Int,.cons (dG (.i .i64)) (.one (dG (.i .i64))),λa=>a.1.length<=1000000/\a.2.length<=1000000,λa=> .sb (decide (a.1=a.2))⟩
def ah3 (x y:List Int):Nat->cG
 |4=> .inv Int (λi=>⟨[(0,.row (.i .i64) x),(1,.row (.i .i64) y),(12,.si .i64 x.length),(13,.si .i64 i)],[]⟩)
   (λs=>iS s 13) (λi=>(0<=i/\i<=x.length)/\∀k:Nat,(k:Int)<i->bj x k 0=bj y k 0) (λi=>(x.length - i).toNat) λ_ _=> .look
 |_=> .look
theorem h564:Holds Tryz.prog MN:=by
 refine cH (L:=[]) MN (λa=>ah3 a.1 a.2) (by simp) ?_;rintro⟨x,y⟩ ⟨t,z⟩;simp only at t z;refine bQ (let a:=(0:Int);let e:=γd .i64;let h:=δh false;let o:=(↑x.length:Int);let q:=decide (o≠(↑y.length:Int));let j:=γA (decide (x=y));let f:=Ω (bp.i .i64) x;let g:=Ω (bp.i .i64) y;let c:=(↑x.length:Int);let l:=e c;(q=true->(h).same j)/\(q=false->(((f.same f/\g.same g/\(e o).same l/\(γB .i64 0).same (e 0)/\True)/\True)/\(a<=a/\a<=c)/\∀(k:Nat),(↑k:Int)<a->bj x k a=bj y k a)/\∀(b:Int),let p:=decide (bj x b.toNat a≠bj y b.toNat a);let d:=b+(1:Int);let s:=e d;((a<=b/\b<=c)/\∀(k:Nat),(↑k:Int)<b->bj x k a=bj y k a)->(decide (b<c)=true->a<=b/\b<o/\b.toNat<x.length/\a<=b/\b<(↑y.length:Int)/\b.toNat<y.length/\(p=true->(h).same j)/\(p=false->cu .i64 d/\((f.same f/\g.same g/\l.same l/\s.same s/\True)/\True)/\((a<=d/\d<=c)/\∀(k:Nat),(↑k:Int)<d->bj x k a=bj y k a)/\(c - d).toNat<(c - b).toNat))/\(decide (b<c)=false->(δh true).same j))) (by kernel_rfl) ?_;simp only[vcs];refine⟨λh=>(decide_eq_false λe=>h (by rw[e])).symm,λh=>⟨⟨by omega,λk w=>by omega⟩,?_⟩⟩;rintro i ⟨⟨r,D⟩,w⟩;refine⟨λn=>⟨r,n,by omega,r,by omega,by omega,λm=>(decide_eq_false λe=>m (by rw[e])).symm,λB=>⟨by omega,⟨by omega,λk u=>?_⟩,by omega⟩⟩,λv=>?_⟩;·grind
 ·refine(decide_eq_true (List.ext_getElem (by omega) λk A C=>?_)).symm;grind[cT]
@[reducible] def dA:bp:=.pair (.bB (.i .i64)) (.pair (.i .i64) (.bB (.pair (.i .i64) (.pair (.i .i64) (.pair (.i .i64) (.pair (.i .i64) (.bB (.pair .b (.pair (.bB (.i .u32)) (.bB (.i .u32)))))))))))
def gh (l:List (List Int)) (r:List dA.T) (n:Nat):List Int:=(df n).flatMap λi=>my (bj l i.toNat []) (bj r i.toNat dA.dflt).1
def iG (r:List dA.T) (n:Nat):Int:=((r.take n).map λx=>x.2.1).sum
def lK (l:List (List Int)) (r:List dA.T) (i j:Int):List Int:=gh l r i.toNat++my (bj l i.toNat []) ((bj r i.toNat dA.dflt).1.take j.toNat)
def FN:bM:=⟨34,List (List Int)×List dA.T,.cons (dG (.bB (.i .i64))) (.one (dG dA)),λa=>(a.2.length<=a.1.length/\a.1.length<=1000)/\(∀n:Nat,n<=a.2.length->(gh a.1 a.2 n).length<=100000/\ -9000000000000000000<=iG a.2 n/\iG a.2 n<=9000000000000000000)/\∀i:Nat,i<a.2.length->∀k∈(bj a.2 i dA.dflt).1,0<=k/\k<(bj a.1 i []).length,
 λa=>nA.put ⟨ec (gh a.1 a.2 a.2.length),iG a.2 a.2.length⟩⟩
def ah4 (l:List (List Int)) (r:List dA.T):Nat->cG
 |3=> .inv Int (λi=>⟨[(0,.row (.bB (.i .i64)) l),(4,.ptr 0 0 2),(5,.ptr 1 0 2),(10,.row dA r),(11,.si .i64 r.length),(12,.si .i64 i)],[.cells [.sc (.slice none 0 0),.il .i64 0] 40 2 false,.cells [.ow 2 (gh l r i.toNat).length 1,.si .i64 (iG r i.toNat)] 40 2 false,.row (.i .i64) (gh l r i.toNat) 3 true]⟩)
   (λs=>iS s 12) (λi=>0<=i/\i<=r.length) (λi=>(r.length - i).toNat) λi=>λ
   |7=> .inv Int (λj=>⟨[(0,.row (.bB (.i .i64)) l),(4,.ptr 0 0 2),(5,.ptr 1 0 2),(6,.si .i64 i),(10,.row dA r),(11,.si .i64 r.length),(12,.si .i64 i),(26,.row (.i .i64) (bj r i.toNat dA.dflt).1),(27,.si .i64 (bj r i.toNat dA.dflt).1.length),(28,.si .i64 j)],
      [.cells [.sc (.slice none 0 0),.il .i64 0] 40 2 false,.cells [.ow 2 (lK l r i j).length 1,.si .i64 (iG r (i+1).toNat)] 40 2 false,.row (.i .i64) (lK l r i j) 3 true,.cells [.row (.i .i64) (bj r i.toNat dA.dflt).1,.si .i64 (bj r i.toNat dA.dflt).2.1,.row (.pair (.i .i64) (.pair (.i .i64) (.pair (.i .i64) (.pair (.i .i64) (.bB (.pair .b (.pair (.bB (.i .u32)) (.bB (.i .u32))))))))) (bj r i.toNat dA.dflt).2.2] 51 3 false]⟩)
     (λs=>iS s 28) (λj=>0<=j/\j<=(bj r i.toNat dA.dflt).1.length) (λj=>((bj r i.toNat dA.dflt).1.length - j).toNat) λ_ _=> .look
   |_=> .look
 |_=> .look
theorem h563:Holds Tryz.prog FN:=by
 refine con (L:=[]) (W:=gP [VS]) FN (λa=>ah4 a.1 a.2) (kY (by grind[h337e])) (by simp) ?_;rintro⟨l,r⟩ ⟨⟨h1,h2⟩,Y,h4⟩;simp only at h1 h2 Y h4;refine bQ (let a:=γd .i64;let d:=(0:Int);let j:=Ω;let k:=bq.cells;let s:=bq.row;let u:=γZ;let v:=cu .i64;let c:=bp.i .i64;let F:=γQ 0 0 2;let D:=γQ 1 0 2;let t:=(↑r.length:Int);let E:=a t;let X:=γB .i64 0;let C:=k [SV.sc (Value.slice none 0 0),X] 40 2 false;let y:=(bp.i .u32).bB;let G:=c.pair (c.pair (c.pair (c.pair (bp.b.pair (y.pair y)).bB)));((((j c.bB l).same (j c.bB l)/\F.same F/\D.same D/\(j dA r).same (j dA r)/\E.same E/\X.same (a 0)/\True)/\C.same C/\(k [u 2 0 1,X] 40 2 false).same (k [u 2 (gh l r 0).length 1,a (iG r 0)] 40 2 false)/\(s c [] 3 true).same (s c (gh l r 0) 3 true)/\True)/\d<=d/\d<=t)/\∀(x:Int),let J:=bj r x.toNat dA.dflt;let M:=iG r x.toNat+J.snd.fst;let o:=j c J.fst;let f:=(↑(γc J.fst):Int);let z:=a f;let q:=gh l r x.toNat;let p:=q.length;let O:=lK l r x d;let g:=x+(1:Int);let n:=[a (iG r g.toNat)];let A:=k [o,a J.snd.fst,j G J.snd.snd] 51 3 false;let H:=bj l x.toNat c.bB.dflt;let P:=a g;d<=x/\x<=t->(decide (x<t)=true->d<=x/\x<t/\x.toNat<r.length/\v M/\((((j c.bB l).same (j c.bB l)/\F.same F/\D.same D/\(a x).same (a x)/\(j dA r).same (j dA r)/\E.same E/\(a x).same (a x)/\o.same o/\z.same z/\X.same (a 0)/\True)/\C.same C/\(k [u 2 p 1,a M] 40 2 false).same (k (u 2 O.length 1::n) 40 2 false)/\(s c q 3 true).same (s c O 3 true)/\A.same A/\True)/\d<=d/\d<=f)/\∀(e:Int),let w:=bj J.fst e.toNat d;let m:=lK l r x e;let V:=m.length+1;let h:=e+(1:Int);let B:=a x;let Q:=a h;let S:=m++[bj H w.toNat d];d<=e/\e<=f->(decide (e<f)=true->d<=e/\e<f/\e.toNat<γc J.fst/\d<=x/\x<(↑l.length:Int)/\x.toNat<l.length/\d<=w/\w<(↑H.length:Int)/\w.toNat<H.length/\1=1/\m.length=m.length/\V*8<=140737488355328/\V<=1000000000000/\v h/\(((j c.bB l).same (j c.bB l)/\F.same F/\D.same D/\B.same B/\(j dA r).same (j dA r)/\E.same E/\B.same B/\o.same o/\z.same z/\Q.same Q/\True)/\C.same C/\(k (u 2 S.length 1::n) 40 2 false).same (k (u 2 (lK l r x h).length 1::n) 40 2 false)/\(s c S 3 true).same (s c (lK l r x h) 3 true)/\A.same A/\True)/\(d<=h/\h<=f)/\(f - h).toNat<(f - e).toNat)/\(decide (e<f)=false->v g/\(((j c.bB l).same (j c.bB l)/\F.same F/\D.same D/\(j dA r).same (j dA r)/\E.same E/\P.same P/\True)/\C.same C/\(k (u 2 m.length 1::n) 40 2 false).same (k (u 2 (gh l r g.toNat).length 1::n) 40 2 false)/\(s c m 3 true).same (s c (gh l r g.toNat) 3 true)/\True)/\(d<=g/\g<=t)/\(t - g).toNat<(t - x).toNat))/\(decide (x<t)=false->(p=p/\p<=1000000)/\p=(ec q).length/\(γR [j c (ec q),a (iG r x.toNat)]).same (γR [j c (ec (gh l r r.length)),a (iG r r.length)]))) (by kernel_rfl) ?_;simp only[vcs];have k:∀{a b:Nat} {v u:Int},a=b->v=u->(bq.cells [γZ 2 a 1,γd .i64 v] 40 2 false).same (bq.cells [γZ 2 b 1,γd .i64 u] 40 2 false):=by rintro _ _ _ _ rfl rfl;rfl
 have I:∀{x y:List Int},x=y->(bq.row (.i .i64) x 3 true).same (bq.row (.i .i64) y 3 true):=by rintro _ _ rfl;rfl
 refine⟨⟨⟨rfl,rfl⟩,by omega⟩,?_⟩;rintro i ⟨i0,i1⟩;refine⟨λa0=>?_,λa3=>?_⟩
 ·have hc:=Y i.toNat (by omega);have a5:=Y (i+1).toNat (by omega);have hv:iG r (i+1).toNat=iG r i.toNat+(bj r i.toNat dA.dflt).2.1:=by
   grind[iG,jq]
  have K:gh l r (i+1).toNat=gh l r i.toNat++my (bj l i.toNat []) (bj r i.toNat dA.dflt).1:=by
   grind[gh,qQ]
  have U:lK l r i 0=gh l r i.toNat:=by simp[lK,my]
  have hk:=h4 i.toNat (by omega);have a4:γc (bj r i.toNat dA.dflt).1<=100000:=by
   grind[my]
  have a1:∀j:Int,(lK l r i j).length<=100000:=λj=>by
   have h5:(lK l r i j).length<=(gh l r (i+1).toNat).length:=by
    rw[K];unfold lK my;simp only[γh,Φ,List.length_take];omega
   omega
  refine⟨i0,a0,by omega,by omega,⟨⟨k (by rw[U]) hv.symm,I U.symm⟩,by omega,by omega⟩,?_⟩;rintro j ⟨j0,j1⟩;refine⟨λG=>?_,λa2=>?_⟩
  ·have s:=hk (bj (bj r i.toNat dA.dflt).1 j.toNat 0) (dn (by omega));have Z:lK l r i j++[bj (bj l i.toNat []) (bj (bj r i.toNat dA.dflt).1 j.toNat 0).toNat 0]=lK l r i (j+1):=by
    unfold lK my;rw[jq (d:=(0:Int)) j0 G,γa,γY];rfl
   have a6:=a1 j;have T:(bj (bj r i.toNat dA.dflt).1 j.toNat 0).toNat<(bj l i.toNat []).length:=by
    exact(Int.toNat_lt s.1).2 s.2
   have N:lK l r i j++[bj (bj l i.toNat (bp.i IntKind.i64).bB.dflt) (bj (bj r i.toNat dA.dflt).1 j.toNat 0).toNat 0]=lK l r i (j+1):=Z;rw[N];refine⟨j0,G,?_,i0,?_,?_,s.1,s.2,T,?_,?_,?_,⟨k rfl rfl,I rfl⟩,?_,?_⟩<;>omega
  ·have R:lK l r i j=gh l r (i+1).toNat:=by
    rw[K];unfold lK;rw[show j.toNat=(bj r i.toNat dA.dflt).1.length by omega,φ]
   exact⟨by omega,⟨k (by rw[R]) rfl,I R⟩,by omega,by omega⟩
 ·rw[show i.toNat=r.length by omega];have:=(Y r.length (π _)).1;exact⟨by omega,(rL).symm,rfl⟩
def zd:bM:=⟨12,bn,.one dO,λp=>bz p≠0\/p.offers.length<=60,λp=> .bI [.row (.bB (.i .i64)) (if bz p=0 then bW p else[]),.si .i64 (bz p)]⟩
theorem h552:Holds Tryz.prog zd:=by
 refine cH (L:=[pe,MM]) zd lk (by grind[h79,h560]) ?_;rintro(p:bn) (e:bz p≠0\/p.offers.length<=60);refine bQ (let e:=(0:Int);let f:=Ω;let g:=SV.bI;let b:=decide (bz p≠e);let d:=[γd .i64 (bz p)];let c:=(bp.i .i64).bB;let a:=g (f c (if bz p=e then bW p else[])::d);True/\(b=true->(g (f (bp.i .i64) []::d)).same a)/\(b=false->(bz p=e/\p.offers.length<=60)/\(g [f c (bW p),γB .i64 0]).same a)) (by kernel_rfl) ?_;simp only[vcs];refine⟨λh=>?_,λh=>?_⟩
 ·rw[if_neg h];rfl
 simp_all
noncomputable def ze (p:bn) (c:List Int):dA.T:=((cB (eO p c)).chosen,(cB (eO p c)).value,qW (eO p c))
noncomputable def eJ (p:bn):List dA.T:=(bW p).map (ze p)
noncomputable def jC (p:bn):List Int:=ec (gh (bW p) (eJ p) (eJ p).length)
noncomputable def jV (p:bn):Int:=iG (eJ p) (eJ p).length
def MO (p:bn):Prop:=bz p≠0\/(p.offers.length<=60/\∀c∈bW p,c.length<=15)
noncomputable def MP:bM:=⟨19,bn,.one dO,MO,
 λp=> .bI [.agg [.row (.i .i64) (if bz p=0 then jC p else[]),.si .i64 (if bz p=0 then jV p else 0),.row dA (if bz p=0 then eJ p else[])],.si .i64 (bz p)]⟩
theorem Wi {p:bn}:∀{n:Nat},n<=(bW p).length->gh (bW p) (eJ p) n=((bW p).take n).flatMap λc=>my c (cB (eO p c)).chosen
 |0,_=>by simp[gh,df];|n+1,h=>by
  have b:=Wi (p:=p) (n:=n) (by omega);have a:gh (bW p) (eJ p) (n+1)=gh (bW p) (eJ p) n++my (bj (bW p) n []) (bj (eJ p) n dA.dflt).1:=by
   grind[gh,qQ]
  have d:bj (eJ p) n dA.dflt=ze p (bj (bW p) n []):=by
   grind[cT,eJ]
  rw[a,b,d,γ2 (show n<(bW p).length by omega),List.flatMap_append,cT (by omega)];simp[ze]
theorem ah5 {p:bn} {n:Nat}:iG (eJ p) n=(((bW p).take n).map λc=>(cB (eO p c)).value).sum:=by
 unfold iG eJ;rw[<-ζA,γO];rfl
theorem Wj {f:List Int->List Int}:∀{L:List (List Int)},(∀c∈L,(f c).length<=160)->(L.flatMap f).length<=160*L.length
 |[],_=>by simp;|c::L,h=>by
  have b:=h c (γS ..);have e:=Wj (L:=L) λd a=>h d (γs _ a);grind
theorem Wl {f:List Int->Int}:∀{L:List (List Int)},(∀c∈L,0<=f c/\f c<=160000000)->0<=(L.map f).sum/\(L.map f).sum<=160000000*L.length
 |[],_=>by simp;|c::L,h=>by
  have b:=h c (γS ..);have e:=Wl (L:=L) λd a=>h d (γs _ a);grind
theorem MQ {p:bn} {i:Nat} (a:i<(bW p).length):bj (eJ p) i dA.dflt=ze p (bj (bW p) i []):=by
 grind[cT,eJ]
theorem Wm {p:bn} (b:bz p=0):(∀n:Nat,n<=(eJ p).length->(gh (bW p) (eJ p) n).length<=2000/\ -9000000000000000<=iG (eJ p) n/\iG (eJ p) n<=9000000000000000)/\
  ∀i:Nat,i<(eJ p).length->∀k∈(bj (eJ p) i dA.dflt).1,0<=k/\k<(bj (bW p) i []).length:=by
 have l:(eJ p).length=(bW p).length:=Φ _;have g:=FD b;have m:=(dQ b).1;have a:∀c∈bW p,bz (eO p c)=0:=λc h=>FC b (uW h);refine⟨λn r=>?_,λi q k d=>?_⟩
 ·rw[Wi (by omega),ah5];have s:=Wj (f:=λc=>my c (cB (eO p c)).chosen) (L:=(bW p).take n) λc h=>by
   grind[my,Fq]
  have e:=Wl (f:=λc=>(cB (eO p c)).value) (L:=(bW p).take n) λc h=>(Fq (a c (List.mem_of_mem_take h))).2.2.1;grind
 ·have e:=MQ (p:=p) (i:=i) (by omega);have j:bj (bW p) i []∈bW p:=dn (by omega);rw[e] at d;have o:=(VO.1 (BD (a _ j)).1.1).2 k d;grind[FB]
noncomputable def ah6 (p:bn):Nat->cG
 |6=> .inv Int (λi=>⟨[(1,.ptr 0 0 20),(2,.ptr 1 0 3),(4,.row (.bB (.i .i64)) (if bz p=0 then bW p else[])),(6,.ow 2 ((eJ p).take i.toNat).length 3),(20,.row (.bB (.i .i64)) (if bz p=0 then bW p else[])),(21,.si .i64 (if bz p=0 then bW p else[]).length),(22,.si .i64 i)],
    [.cells p.ss 27 20 false,.cells [.sc (.slice none 0 0),.il .i64 0,.sc (.slice none 0 0)] 43 3 false,.row dA ((eJ p).take i.toNat) 51 false]⟩)
   (λs=>iS s 22) (λi=>0<=i/\i<=(if bz p=0 then bW p else[]).length) (λi=>((if bz p=0 then bW p else[]).length - i).toNat) λ_ _=> .look
 |_=> .look
theorem h557:Holds Tryz.prog MP:=by
 refine cH (L:=[zd,BG,L1,FN]) MP (λp=>ah6 p) (by grind[h552,h562,h427,h563]) ?_;rintro(p:bn) K;refine bQ (let c:=γd .i64;let d:=(0:Int);let e:=Ω;let h:=bq.row;let u:=SV.bI;let v:=γR;let U:=decide (bz p≠d);let g:=bp.i .i64;let H:=γB .i64 0;let R:=v [e g [],H,e g []];let S:=[c (bz p)];let M:=u (v [e g (if bz p=d then jC p else[]),c (if bz p=d then jV p else d),e dA (if bz p=d then eJ p else[])]::S);let J:=γQ 0 0 20;let I:=γQ 1 0 3;let m:=if bz p=d then bW p else[];let X:=γZ 2 0 3;let l:=(↑(if bz p=d then bW p else[]).length:Int);let t:=c l;let r:=bq.cells [c p.supply.a0,c p.supply.a1,c p.supply.a2,c p.supply.a3,c p.supply.a4,c p.supply.a5,c p.opn.a0,c p.opn.a1,c p.opn.a2,c p.opn.a3,c p.opn.a4,c p.opn.a5,c p.cls.a0,c p.cls.a1,c p.cls.a2,c p.cls.a3,c p.cls.a4,c p.cls.a5,e g p.classes,e bp.off p.offers] 27 20 false;let A:=SV.sc (Value.slice none 0 0);let q:=bq.cells [A,H,A] 43 3 false;let w:=(bp.i .u32).bB;let z:=g.bB.pair (g.pair (g.pair (g.pair (g.pair (g.pair (bp.b.pair (w.pair w)).bB)))).bB);(bz p≠d\/p.offers.length<=60)/\(U=true->(u (R::S)).same M)/\(U=false->(((J.same J/\I.same I/\(e g.bB m).same (e g.bB m)/\X.same X/\(e g.bB m).same (e g.bB m)/\(c (↑m.length:Int)).same t/\H.same (c 0)/\True)/\r.same r/\q.same q/\(h z [] 51 false).same (h dA [] 51 false)/\True)/\d<=d/\d<=l)/\∀(x:Int),let s:=bj m x.toNat g.bB.dflt;let f:=eO p s;let F:=decide (bz f≠d);let j:=Δ x.toNat (eJ p);let a:=j.length;let o:=x+(1:Int);let D:=j++[(if bz f=d then(cB f).chosen else[],if bz f=d then(cB f).value else d,if bz f=d then qW f else[])];let C:=Δ o.toNat (eJ p);let y:=c o;d<=x/\x<=l->(decide (x<l)=true->d<=x/\x<(↑m.length:Int)/\x.toNat<m.length/\((∀(i:Int),i∈s->d<=i/\i<(↑p.offers.length:Int))/\s.length<=1000/\p.classes.length<=1000)/\(bz f≠d\/f.offers.length<=15)/\(F=true->(u [R,c (bz f)]).same M)/\(F=false->a=a/\(a+1)*56<=140737488355328/\a+1<=1000000000000/\cu .i64 o/\((J.same J/\I.same I/\(e g.bB m).same (e g.bB m)/\(γZ 2 D.length 3).same (γZ 2 C.length 3)/\(e g.bB m).same (e g.bB m)/\t.same t/\y.same y/\True)/\r.same r/\q.same q/\(h z D 51 false).same (h dA C 51 false)/\True)/\(d<=o/\o<=l)/\(l - o).toNat<(l - x).toNat))/\(decide (x<l)=false->a=a/\((a<=m.length/\m.length<=1000)/\(∀(n:Nat),n<=a->(gh m j n).length<=100000/\(-9000000000000000000:Int)<=iG j n/\iG j n<=(9000000000000000000:Int))/\∀(i:Nat),i<a->∀(k:Int),k∈(bj j i dA.dflt).fst->d<=k/\k<(↑(bj m i []).length:Int))/\(u [v [e g (ec (gh m j a)),c (iG j a),e dA j],H]).same M))) (by kernel_rfl) ?_;simp only[vcs];replace K:MO p:=K;refine⟨K.imp id (·.1),λh=>?_,λh=>?_⟩
 ·rw[if_neg h,if_neg h,if_neg h];rfl
 ·have v:=γf.1 h;obtain⟨a6,P⟩:=K.resolve_left h;simp only[if_pos v];have a8:=FD v;have a7:=(dQ v).1;refine⟨by omega,?_⟩;rintro i ⟨V,i1⟩;refine⟨λE=>?_,λZ=>?_⟩
  ·have Q:Δ i.toNat (eJ p)++[ze p (bj (bW p) i.toNat [])]=Δ (i+1).toNat (eJ p):=by
    unfold eJ;rw[<-ζA,<-ζA,jq (d:=[]) V E,γa];rfl
   have u:bj (bW p) i.toNat []∈bW p:=dn (by omega);have N:bj (bW p) i.toNat (bp.i IntKind.i64).bB.dflt=bj (bW p) i.toNat []:=rfl;rw[N];generalize bj (bW p) i.toNat []=c at Q u ⊢;have W:=uW u;have G:=FC v W;have B:=P c u;have e:(((cB (eO p c)).chosen,(cB (eO p c)).value,qW (eO p c)):dA.T)=ze p c:=rfl;simp only[if_pos G];rw[e,Q];have Y:=List.length_take_le i.toNat (eJ p);have O:(eJ p).length=(bW p).length:=Φ _;refine⟨V,E,by omega,⟨W.2,by omega,by omega⟩,.inr (by rw[FB];exact B),λh=>absurd G h,λ_=>⟨by omega,by omega,by omega,⟨rfl,rfl⟩,by omega,by omega⟩⟩
  ·have O:(eJ p).length=(bW p).length:=Φ _;obtain⟨j1,j2⟩:=Wm v;rw[show i.toNat=(eJ p).length by omega,φ];exact⟨⟨⟨by omega,by omega⟩,λn hn=>by have:=j1 n hn;omega,j2⟩,rfl,v.symm⟩
@[reducible] def sDR:bp:=.pair (.bB (.i .i64)) (.pair (.i .i64) (.bB dA))
def jR (p:bn) (r:List dA.T):Nat->Int
 |0=>0
 |n+1=>if jR p r n≠0 then jR p r n else uU (eO p (bj (bW p) n [])) (bj r n dA.dflt)
def tB (p:bn) (x:List Int×Int×List dA.T):Int:=if bz p≠0 then bz p else if x.2.2.length≠(bW p).length then 2 else if jR p x.2.2 x.2.2.length≠0 then jR p x.2.2 x.2.2.length else
 if iG x.2.2 x.2.2.length≠x.2.1\/ec (gh (bW p) x.2.2 x.2.2.length)≠x.1 then 13 else 0
def FO (p:bn) (x:List Int×Int×List dA.T):Prop:=(bz p≠0\/p.offers.length<=60)/\x.1.length<=1000000/\(bz p=0->x.2.2.length=(bW p).length->(∀i:Nat,i<x.2.2.length->(bj x.2.2 i dA.dflt).1.length<=1000000000000/\(cO (eO p (bj (bW p) i [])) (bj x.2.2 i dA.dflt).1=0->ek (eO p (bj (bW p) i [])) (bj x.2.2 i dA.dflt).1=(bj x.2.2 i dA.dflt).2.1->wM (eO p (bj (bW p) i [])) (bj x.2.2 i dA.dflt).2.1 (bj x.2.2 i dA.dflt).2.2))/\
 (jR p x.2.2 x.2.2.length=0->(∀n:Nat,n<=x.2.2.length->(gh (bW p) x.2.2 n).length<=100000/\ -9000000000000000000<=iG x.2.2 n/\iG x.2.2 n<=9000000000000000000)/\∀i:Nat,i<x.2.2.length->∀k∈(bj x.2.2 i dA.dflt).1,0<=k/\k<(bj (bW p) i []).length))
theorem Wn {p:bn} {r:List dA.T} {n:Nat} (h:jR p r n≠0):∀{m:Nat},n<=m->jR p r m=jR p r n
 |0,a=>by simp_all;|m+1,a=>by
  by_cases e:n=m+1;·rw[e]
  ·have b:=Wn h (m:=m) (by omega);simp_all[jR]
def MR:bM:=⟨21,bn×List Int×Int×List dA.T,.cons dO (.one (ei sDR)),λa=>FO a.1 a.2,λa=> .si .i64 (tB a.1 a.2)⟩
def ah8 (p:bn) (x:List Int×Int×List dA.T):Nat->cG
 |7=> .inv Int (λi=>⟨[(2,.ptr 0 0 20),(3,.ptr 1 0 3),(5,.row (.bB (.i .i64)) (if bz p=0 then bW p else[])),(25,.row (.bB (.i .i64)) (if bz p=0 then bW p else[])),(26,.si .i64 (if bz p=0 then bW p else[]).length),(27,.si .i64 i)],
    [.cells p.ss 27 20 false,.cells [.row (.i .i64) x.1,.si .i64 x.2.1,.row dA x.2.2] 43 3 false]⟩)
   (λs=>iS s 27) (λi=>(0<=i/\i<=(if bz p=0 then bW p else[]).length)/\jR p x.2.2 i.toNat=0) (λi=>((if bz p=0 then bW p else[]).length - i).toNat) λ_ _=> .look
 |_=> .look
theorem h558:Holds Tryz.prog MR:=by
 refine cH (L:=[zd,BG,LS,FN,MN]) MR (λa=>ah8 a.1 a.2) (by grind[h552,h562,h474,h563,h564]) ?_;rintro⟨p,c,v,r⟩ hd;refine bQ (let a:=γd .i64;let h:=(0:Int);let m:=Ω;let q:=γB .i64;let d:=if bz p=h then bW p else[];let P:=(↑d.length:Int);let Z:=decide (bz p≠h);let z:=a (tB p (c,v,r));let K:=γQ 0 0 20;let J:=γQ 1 0 3;let f:=bp.i .i64;let o:=(↑(if bz p=h then bW p else[]).length:Int);let O:=a o;let C:=q 0;let l:=bq.cells [a p.supply.a0,a p.supply.a1,a p.supply.a2,a p.supply.a3,a p.supply.a4,a p.supply.a5,a p.opn.a0,a p.opn.a1,a p.opn.a2,a p.opn.a3,a p.opn.a4,a p.opn.a5,a p.cls.a0,a p.cls.a1,a p.cls.a2,a p.cls.a3,a p.cls.a4,a p.cls.a5,m f p.classes,m bp.off p.offers] 27 20 false;let j:=bq.cells [m f c,a v,m dA r] 43 3 false;let F:=decide (iG r r.length≠v);let t:=ec (gh d r r.length);let w:=λ(u:Bool) ↦decide ((↑r.length:Int)≠P)=u;(bz p≠h\/p.offers.length<=60)/\(Z=true->(a (bz p)).same z)/\(Z=false->(w true->(q 2).same z)/\(w false->(((K.same K/\J.same J/\(m f.bB d).same (m f.bB d)/\(m f.bB d).same (m f.bB d)/\(a P).same O/\C.same (a 0)/\True)/\l.same l/\j.same j/\True)/\(h<=h/\h<=o)/\jR p r 0=h)/\∀(x:Int),let s:=bj d x.toNat f.bB.dflt;let g:=eO p s;let b:=bj r x.toNat dA.dflt;let D:=uU g (b.fst,b.snd.fst,b.snd.snd);let e:=x+(1:Int);let E:=a e;let I:=λ(u:Bool) ↦decide (D≠h)=u;(h<=x/\x<=o)/\jR p r x.toNat=h->(decide (x<o)=true->h<=x/\x<P/\x.toNat<d.length/\((∀(i:Int),i∈s->h<=i/\i<(↑p.offers.length:Int))/\s.length<=1000/\p.classes.length<=1000)/\h<=x/\x<(↑r.length:Int)/\x.toNat<r.length/\(γc b.fst<=1000000000000/\(cO g b.fst=h->ek g b.fst=b.snd.fst->wM g b.snd.fst b.snd.snd))/\(I true->(a D).same z)/\(I false->cu .i64 e/\((K.same K/\J.same J/\(m f.bB d).same (m f.bB d)/\(m f.bB d).same (m f.bB d)/\O.same O/\E.same E/\True)/\l.same l/\j.same j/\True)/\((h<=e/\e<=o)/\jR p r e.toNat=h)/\(o - e).toNat<(o - x).toNat))/\(decide (x<o)=false->((r.length<=d.length/\d.length<=1000)/\(∀(n:Nat),n<=r.length->(gh d r n).length<=100000/\(-9000000000000000000:Int)<=iG r n/\iG r n<=(9000000000000000000:Int))/\∀(i:Nat),i<r.length->∀(k:Int),k∈(bj r i dA.dflt).fst->h<=k/\k<(↑(bj d i []).length:Int))/\(F=true->(q 13).same z)/\(F=false->(t.length<=1000000/\c.length<=1000000)/\((!decide (t=c))=true->(q 13).same z)/\((!decide (t=c))=false->C.same z)))))) (by kernel_rfl) ?_;simp only[vcs];obtain⟨y,H,G⟩:=(hd:FO p (c,v,r));simp only at y H G;refine⟨y,λh=>by simp_all[tB],λh=>?_⟩;have M:bz p=0:=γf.1 h;simp only[if_pos M];refine⟨λhl=>?_,λhl=>⟨⟨by omega,rfl⟩,?_⟩⟩
 ·have q:r.length≠(bW p).length:=by omega
  simp_all[tB]
 have R:r.length=(bW p).length:=by omega
 obtain⟨hw,hj⟩:=G M R;have w:tB p (c,v,r)=if jR p r r.length≠0 then jR p r r.length else if iG r r.length≠v\/ec (gh (bW p) r r.length)≠c then 13 else 0:=by
  simp_all[tB]
 have X:=FD M;have a9:=(dQ M).1;have a6:=y.resolve_left h;rintro i ⟨⟨Y,i1⟩,N⟩;refine⟨λS=>?_,λa7=>?_⟩
 ·have hs:jR p r (i+1).toNat=uU (eO p (bj (bW p) i.toNat [])) (bj r i.toNat dA.dflt):=by
   rw[show(i+1).toNat=i.toNat+1 by omega];show(if jR p r i.toNat≠0 then jR p r i.toNat else _)=_;rw[if_neg (by rw[N];exact λh=>h rfl)]
  have T:=hw i.toNat (by omega);have U:bj (bW p) i.toNat []∈bW p:=dn (by omega);have V:bj (bW p) i.toNat (bp.i IntKind.i64).bB.dflt=bj (bW p) i.toNat []:=rfl;rw[V];have W:=uW U;have a8:=qR W;refine⟨Y,S,by omega,⟨W.2,by omega,by omega⟩,Y,by omega,by omega,T,λB=>?_,λB=>⟨by omega,⟨by omega,?_⟩,by omega⟩⟩
  ·have q:jR p r (i+1).toNat≠0:=by rw[hs];exact B
   have A:=Wn q (m:=r.length) (by omega);rw[w,if_pos (by rw[A];exact q),A,hs]
  simp_all
 ·have Q:i.toNat=r.length:=by omega
  rw[Q] at N;obtain⟨j1,j2⟩:=hj N;have b0:(gh (bW p) r r.length).length<=100000:=(j1 r.length (π _)).1;rw[if_neg (by rw[N];exact λh=>h rfl)] at w;rw[w];refine⟨⟨⟨by omega,by omega⟩,j1,j2⟩,λB=>(if_pos (.inl B)).symm,λB=>⟨⟨by rw[rL];omega,H⟩,λq=>(if_pos (.inr q)).symm,λq=>(if_neg ?_).symm⟩⟩;rintro(A|A);·exact B A
  ·exact A q
def fu:bn:=⟨⟨1,1,0,0,0,0⟩,⟨1,1,0,0,0,0⟩,.zero,[0,0],[⟨0,⟨1,0,0,0,0,0⟩,5⟩,⟨1,⟨0,1,0,0,0,0⟩,7⟩]⟩
def MS:bM:=⟨27,Unit,.nil,λ_=>True,λ_=>dO.put fu⟩
theorem h559:Holds Tryz.prog MS:=by
 refine cH (L:=[]) MS lk (by simp) ?_;intro _ _;refine bQ (let d:=γd .i64;let e:=(0:Int);let f:=Ω;let g:=(1:Int);let c:=γB .i64 1;let a:=γB .i64 0;let b:=fu.supply;(γR [c,c,a,a,a,a,c,c,a,a,a,a,a,a,a,a,a,a,f (bp.i .i64) [e,e],f bp.off [Off.mk e (bC.mk g e e e e e) (5:Int),Off.mk g (bC.mk e g e e e e) (7:Int)]]).same (γR [d b.a0,d b.a1,d b.a2,d b.a3,d b.a4,d b.a5,d fu.opn.a0,d fu.opn.a1,d fu.opn.a2,d fu.opn.a3,d fu.opn.a4,d fu.opn.a5,d fu.cls.a0,d fu.cls.a1,d fu.cls.a2,d fu.cls.a3,d fu.cls.a4,d fu.cls.a5,f (bp.i .i64) fu.classes,f bp.off fu.offers])) (by kernel_rfl) ?_;conv=>zeta
 try simp only[vcs]
 try rfl
theorem ah9 {p:bn} (hc:bz p=0) (h60:p.offers.length<=60) (h15:∀c∈bW p,c.length<=15):
  FO p (jC p,jV p,eJ p)/\tB p (jC p,jV p,eJ p)=0/\∀n:Nat,n<=(bW p).length->jR p (eJ p) n=0:=by
 have hpl:(eJ p).length=(bW p).length:=Φ _;have hpc:∀i,i<(bW p).length->bz (eO p (bj (bW p) i []))=0/\(eO p (bj (bW p) i [])).offers.length<=15:=λi hi=>by
  have hm:bj (bW p) i []∈bW p:=dn hi;exact⟨FC hc (uW hm),by rw[FB];exact h15 _ hm⟩
 have hk:∀n:Nat,n<=(bW p).length->jR p (eJ p) n=0:=by
  intro n;induction n with
  |zero=>exact λ_=>rfl;|succ n ih=>
   intro hn;show(if jR p (eJ p) n≠0 then jR p (eJ p) n else _)=0;rw[if_neg (by rw[ih (by omega)];exact λh=>h rfl),MQ (by omega)];obtain⟨a,b⟩:=hpc n (by omega);exact agF a b
 obtain⟨j1,j2⟩:=Wm hc;have hjl:(jC p).length<=2000:=by unfold jC;rw[rL];exact(j1 _ (π _)).1
 refine⟨⟨.inr h60,by simp only;omega,λ_ _=>⟨λi hi=>?_,λ_=>⟨λn hn=>by have:=j1 n hn;simp only;omega,j2⟩⟩⟩,?_,hk⟩
 ·simp only at hi ⊢;obtain⟨a,b⟩:=hpc i (by omega);have hbi:=Fq a;rw[MQ (by omega)];exact⟨by have:=hbi.2.2.2;show(cB _).chosen.length<=_;omega,λ_ _=>(Vy a b).1 _ (by have:=hbi.2.2.1;show _<=(cB _).value/\(cB _).value<=_;omega)⟩
 ·unfold tB;rw[if_neg (by simp[hc]),if_neg (by simp[hpl]),if_neg (by simp[hpl,hk _ (π _)]),if_neg (by simp[jC,jV])]
theorem aia:bz fu=0:=by kernel_rfl
theorem Wp:bW fu=[[0],[1]]:=by kernel_rfl
theorem aib:gh (bW fu) (eJ fu) (eJ fu).length=[0,1]:=by kernel_rfl
theorem Wq:jC fu=[0,1]:=by
 unfold jC;rw[aib];exact List.mergeSort_of_pairwise (by simp)
theorem aic:cmpL (jC fu) [0,1]=0:=by
 rw[Wq];rfl
theorem aie:mA fu [1]=0:=by kernel_rfl
def MU:bM:=⟨11,Unit,.nil,λ_=>True,λ_=> .sb true⟩
theorem h551:Holds Tryz.prog MU:=by
 refine cH (L:=[MS,zd,MP,FG,r32,MR]) MU lk (by grind[h559,h552,h557,h554,h32,h558]) ?_;intro _ _;refine bQ (let a:=δh false;let e:=γA;let f:=(0:Int);let g:=(1:Int);let b:=(jC fu,jV fu,eJ fu);let d:=decide (cmpL (jC fu) [f,g]=f);let c:=λ(u:Bool) ↦decide (tB fu b=f)=u;True/\(bz fu≠f\/fu.offers.length<=60)/\True/\MO fu/\True/\1<=1000000000000/\(true=true->(true=true->(true=true->(true=true->((jC fu).length<=1000000000000/\2<=1000000000000)/\(d=true->(true=true->True/\FO fu b/\(c true->(true=true->(true=true->f<=f/\f<g/\0<(lp fu [g]).offers.length/\(e true).same (e true))/\(true=false->(a).same (e true)))/\(true=false->(a).same (e true)))/\(c false->(a).same (e true)))/\(true=false->(a).same (e true)))/\(d=false->(a).same (e true)))/\(true=false->(a).same (e true)))/\(true=false->(a).same (e true)))/\(true=false->(a).same (e true)))/\(true=false->(a).same (e true))) (by kernel_rfl) ?_;simp only[vcs];have e:=ah9 aia (by decide) (by grind[Wp]);have g:(jC fu).length=2:=by grind[Wq]
 have a:true=false->false=true:=λh=>by cases h
 have f:(lp fu [1]).offers.length=1:=by
  unfold lp;rw[if_pos aie];rfl
 exact⟨.inr (by decide),.inr ⟨by decide,by grind[Wp]⟩,by omega,λ_=>⟨λ_=>⟨λ_=>⟨λ_=>⟨⟨by omega,by omega⟩,λ_=>⟨λ_=>⟨e.1,λ_=>⟨λ_=>⟨λ_=>⟨by omega,by omega,by omega⟩,a⟩,a⟩,λh=>absurd e.2.1 h⟩,a⟩,λh=>absurd aic h⟩,a⟩,a⟩,a⟩,a⟩
theorem aif {p:bn} (a:bz p=0) {c:List Int} (h:dS p.offers.length c):mA p c=0/\lp p c=eO p c:=by
 simp_all[fE,Bi,mA,lp]
def MV:bM:=⟨7,bn×Int,.cons dO (.one (eU .u64)),λa=>0<=a.2/\a.2<=18446744073709551615,λ_=> .sb true⟩
def allI (s:Int) (n:Nat):List Int:=(df n).filter λj=>decide (s / 2^j.toNat % 2=1)
theorem aii {p:Int} (a:0<=p) (b:p<18446744073709551616):fY.qx .u64 p 1=p % 2:=by
 obtain⟨m,rfl⟩:=Int.eq_ofNat_of_zero_le a;have e:(γi 64 ((m:Nat):Int)).toNat=m:=by grind
 have d:(γi 64 1).toNat=1:=by simp_all
 have c:(γi 64 ((m:Nat):Int) &&&γi 64 1).toNat=m % 2:=by
  simp_all
 show eY .u64 ((γi 64 ((m:Nat):Int) &&&γi 64 1).toNat:Nat)=_;grind[sy,IntKind.wrap,IntKind.bits]
theorem FP {s:Int} (a:0<=s) (b:s<=18446744073709551615) (k:Nat):fY.qx .u64 (s / 2^k) 1=s / 2^k % 2:=by
 have d:(1:Int)<=2^k:=by
  have:0<(2:Nat)^k:=Nat.two_pow_pos k;grind
 have c:0<=s / 2^k:=Int.ediv_nonneg a (by omega);have e:s / 2^k<=s:=Int.ediv_le_self _ a;grind[aii]
theorem aij {s:Int} {n:Nat}:allI s (n+1)=allI s n++if s / 2^n % 2=1 then[(n:Int)] else[]:=by
 grind[allI,qQ]
theorem Ws {s:Int} {n:Nat} {i:Int}:i∈allI s n↔(0<=i/\i<n)/\s / 2^i.toNat % 2=1:=by
 simp_all[allI,iV]
theorem Wt {s:Int} {n:Nat}:dS n (allI s n):=⟨oD.sublist List.filter_sublist,λx a=>(Ws.1 a).1⟩
def pC (c l:List Int) (n:Nat):List Int:=(df n).filter λk=>decide (bj c k.toNat 0∈l)
theorem aik {c l:List Int} {n:Nat}:pC c l (n+1)=pC c l n++if bj c n 0∈l then[(n:Int)] else[]:=by
 grind[pC,qQ]
theorem Wu {c l:List Int}:pC c l c.length=zb c l:=rfl
def q8 (p:bn) (s:Int) (n:Nat):Bool:=((bW p).take n).all λd=>decide (cO (eO p d) (zb d (allI s p.offers.length))=0)
def cntF (p:bn) (n:Nat):Int:=(((bW p).take n).map λd=>(d.length:Int)).sum
def ail (p:bn) (s:Int):Nat->cG
 |8=> .inv Int (λi=>⟨[(1,.si .u64 s),(2,.ptr 0 0 20),(5,.row (.bB (.i .i64)) (if bz p=0 then bW p else[])),(7,.ow 1 (allI s i.toNat).length 1),(8,.si .i64 i)],[.cells p.ss 27 20 false,.row (.i .i64) (allI s i.toNat) 3 true]⟩)
   (λs=>iS s 8) (λi=>0<=i/\i<=p.offers.length) (λi=>(p.offers.length - i).toNat) λ_ _=> .look
 |15=> .inv Int (λc=>⟨[(1,.si .u64 s),(2,.ptr 0 0 20),(5,.row (.bB (.i .i64)) (if bz p=0 then bW p else[])),(7,.ow 1 (allI s p.offers.length).length 1),(9,.sb (q8 p s c.toNat)),(10,.si .i64 (cntF p c.toNat)),(11,.si .i64 c)],[.cells p.ss 27 20 false,.row (.i .i64) (allI s p.offers.length) 3 true]⟩)
   (λs=>iS s 11) (λc=>0<=c/\c<=(if bz p=0 then bW p else[]).length) (λc=>((if bz p=0 then bW p else[]).length - c).toNat) λc=>λ
   |20=> .inv Int (λi=>⟨[(1,.si .u64 s),(2,.ptr 0 0 20),(5,.row (.bB (.i .i64)) (if bz p=0 then bW p else[])),(7,.ow 1 (allI s p.offers.length).length 1),(9,.sb (q8 p s c.toNat)),(10,.si .i64 (cntF p c.toNat)),(11,.si .i64 c),
      (12,.ptr 2 0 20),(13,.si .i64 (mA p (bj (if bz p=0 then bW p else[]) c.toNat []))),(14,.ow 3 (pC (bj (if bz p=0 then bW p else[]) c.toNat []) (allI s p.offers.length) i.toNat).length 1),(15,.si .i64 i)],
      [.cells p.ss 27 20 false,.row (.i .i64) (allI s p.offers.length) 3 true,.cells (lp p (bj (if bz p=0 then bW p else[]) c.toNat [])).ss 27 20 false,.row (.i .i64) (pC (bj (if bz p=0 then bW p else[]) c.toNat []) (allI s p.offers.length) i.toNat) 3 true]⟩)
     (λs=>iS s 15) (λi=>0<=i/\i<=(bj (if bz p=0 then bW p else[]) c.toNat []).length) (λi=>((bj (if bz p=0 then bW p else[]) c.toNat []).length - i).toNat) λ_ _=> .look
   |_=> .look
 |_=> .look
theorem h547:Holds Tryz.prog MV:=by
 refine cH (L:=[Dz,MU,zd,FG,Ig]) MV (λa=>ail a.1 a.2) (by grind[h24,h551,h552,h554,h55]) ?_;rintro⟨p,s⟩ ⟨h1,h2⟩;simp only at h1 h2;refine bQ (let a:=γd .i64;let b:=(0:Int);let c:=Ω;let d:=γA;let g:=bq.row;let h:=δh false;let j:=γZ;let k:=(1:Int);let l:=cu .i64;let n:=bq.cells;let y:=(64:Int);let ab:=decide ((8:Int)<(↑p.classes.length:Int));let A:=(↑p.offers.length:Int);let ac:=decide ((40:Int)<A);let L:=decide (bz p≠b);let aa:=p.offers.length;let I:=γQ 0 0 20;let f:=bp.i .i64;let C:=if bz p=b then bW p else[];let a8:=γB .i64 0;let J:=n [a p.supply.a0,a p.supply.a1,a p.supply.a2,a p.supply.a3,a p.supply.a4,a p.supply.a5,a p.opn.a0,a p.opn.a1,a p.opn.a2,a p.opn.a3,a p.opn.a4,a p.opn.a5,a p.cls.a0,a p.cls.a1,a p.cls.a2,a p.cls.a3,a p.cls.a4,a p.cls.a5,c f p.classes,c bp.off p.offers] 27 20 false;let d5:=g f [] 3 true;let W:=(↑aa:Int);let q:=allI s aa;let t:=j 1 q.length 1;let v:=g f q 3 true;let b7:=if bz p=b then bW p else[];let X:=(↑b7.length:Int);let D:=C.length;let w:=(↑D:Int);let e8:=f.bB.dflt;let Q:=γQ 2 0 20;(ab=true->True/\(d true).same (d true))/\(ab=false->(ac=true->True/\(d true).same (d true))/\(ac=false->True/\(L=true->True/\(d true).same (d true))/\(L=false->(bz p≠b\/aa<=60)/\(L=true->(h).same (d true))/\(L=false->((((γd .u64 s).same (γd .u64 s)/\I.same I/\(c f.bB C).same (c f.bB C)/\(j 1 0 1).same (j 1 (allI s 0).length 1)/\a8.same (a 0)/\True)/\J.same J/\d5.same (g f (allI s 0) 3 true)/\True)/\b<=b/\b<=W)/\∀(x:Int),let H:=x+k;let b8:=a H;let d0:=decide (fY.qx .u64 (s / (2:Int)^x.toNat) k=k);let B:=allI s x.toNat;let d9:=B.length+1;let c4:=g f B 3 true;let c7:=λ(u:Nat) (e9:bq) ↦l H/\(((γd .u64 s).same (γd .u64 s)/\I.same I/\(c f.bB C).same (c f.bB C)/\(j 1 u 1).same (j 1 (allI s H.toNat).length 1)/\b8.same b8/\True)/\J.same J/\e9.same (g f (allI s H.toNat) 3 true)/\True)/\(b<=H/\H<=W)/\(W - H).toNat<(W - x).toNat;b<=x/\x<=W->(decide (x<A)=true->cu .u64 x/\b<=x/\x<=y/\(d0=true->B.length=B.length/\d9*8<=140737488355328/\d9<=1000000000000/\c7 (B++[x]).length (g f (B++[x]) 3 true))/\(d0=false->c7 B.length c4))/\(decide (x<A)=false->((((γd .u64 s).same (γd .u64 s)/\I.same I/\(c f.bB C).same (c f.bB C)/\(j 1 B.length 1).same t/\(δh true).same (d (q8 p s 0))/\a8.same (a (cntF p 0))/\a8.same (a 0)/\True)/\J.same J/\c4.same v/\True)/\b<=b/\b<=X)/\∀(x:Int),let a7:=bj C x.toNat e8;let r:=q8 p s x.toNat;let Z:=cntF p x.toNat;let U:=a Z;let F:=bj b7 x.toNat [];let a6:=a (mA p F);let d6:=pC F q 0;let V:=lp p a7;let T:=V.supply;let O:=V.opn;let M:=V.cls;let K:=lp p F;let P:=K.supply;let N:=K.opn;let R:=K.cls;let Y:=n [a P.a0,a P.a1,a P.a2,a P.a3,a P.a4,a P.a5,a N.a0,a N.a1,a N.a2,a N.a3,a N.a4,a N.a5,a R.a0,a R.a1,a R.a2,a R.a3,a R.a4,a R.a5,c f K.classes,c bp.off K.offers] 27 20 false;let z:=(↑F.length:Int);let b0:=a7.length;let E:=(↑b0:Int);let c5:=decide (mA p F≠b);let G:=x+k;let e4:=d (q8 p s G.toNat);let d3:=a G;let d4:=r==decide (cO p q=b);b<=x/\x<=X->(decide (x<w)=true->b<=x/\x<w/\x.toNat<D/\a7.length<=1000000000000/\((((γd .u64 s).same (γd .u64 s)/\I.same I/\(c f.bB C).same (c f.bB C)/\t.same t/\(d r).same (d r)/\U.same U/\(a x).same (a x)/\Q.same Q/\(a (mA p a7)).same a6/\(j 3 0 1).same (j 3 d6.length 1)/\a8.same (a 0)/\True)/\J.same J/\v.same v/\(n [a T.a0,a T.a1,a T.a2,a T.a3,a T.a4,a T.a5,a O.a0,a O.a1,a O.a2,a O.a3,a O.a4,a O.a5,a M.a0,a M.a1,a M.a2,a M.a3,a M.a4,a M.a5,c f V.classes,c bp.off V.offers] 27 20 false).same Y/\d5.same (g f d6 3 true)/\True)/\b<=b/\b<=z)/\∀(e:Int),let o:=e+k;let b2:=a x;let m:=pC F q e.toNat;let c3:=pC F q o.toNat;let c6:=j 3 c3.length 1;let a9:=a o;let b6:=g f c3 3 true;let S:=bj a7 e.toNat b;let c8:=decide (b<=S);let b9:=decide (S<y);let c9:=m.length+1;let b3:=l o/\(((γd .u64 s).same (γd .u64 s)/\I.same I/\(c f.bB C).same (c f.bB C)/\t.same t/\(d r).same (d r)/\U.same U/\b2.same b2/\Q.same Q/\a6.same a6/\(j 3 m.length 1).same c6/\a9.same a9/\True)/\J.same J/\v.same v/\Y.same Y/\(g f m 3 true).same b6/\True)/\(b<=o/\o<=z)/\(z - o).toNat<(z - e).toNat;let d1:=λ(u:SV) ↦(c5=true->(h).same (d true))/\(c5=false->l G/\(((γd .u64 s).same (γd .u64 s)/\I.same I/\(c f.bB C).same (c f.bB C)/\t.same t/\u.same e4/\(a (Z+E)).same (a (cntF p G.toNat))/\d3.same d3/\True)/\J.same J/\v.same v/\True)/\(b<=G/\G<=X)/\(X - G).toNat<(X - x).toNat);let c2:=λ(u:Bool) ↦decide (fY.qx .u64 (s / (2:Int)^S.toNat) k=k)=u;b<=e/\e<=z->b<=x/\x<w/\x.toNat<D/\(decide (e<E)=true->b<=x/\x<w/\x.toNat<D/\b<=e/\e<E/\e.toNat<b0/\(c8=true->b<=x/\x<w/\x.toNat<D/\b<=e/\e<E/\e.toNat<b0/\(b9=true->b<=x/\x<w/\x.toNat<D/\b<=e/\e<E/\e.toNat<b0/\cu .u64 S/\b<=S/\S<=y/\(c2 true->m.length=m.length/\c9*8<=140737488355328/\c9<=1000000000000/\l o/\(((γd .u64 s).same (γd .u64 s)/\I.same I/\(c f.bB C).same (c f.bB C)/\t.same t/\(d r).same (d r)/\U.same U/\b2.same b2/\Q.same Q/\a6.same a6/\(j 3 (m++[e]).length 1).same c6/\a9.same a9/\True)/\J.same J/\v.same v/\Y.same Y/\(g f (m++[e]) 3 true).same b6/\True)/\(b<=o/\o<=z)/\(z - o).toNat<(z - e).toNat)/\(c2 false->b3))/\(b9=false->b3))/\(c8=false->b3))/\(decide (e<E)=false->b<=x/\x<w/\x.toNat<D/\l (Z+E)/\(r=true->m.length=m.length/\m.length<=9223372036854775807/\d1 (d (decide (cO K m=b))))/\(r=false->d1 (h))))/\(decide (x<w)=false->(decide (Z=A)=true->q.length=q.length/\q.length<=9223372036854775807/\(d4=true->True/\(d true).same (d true))/\(d4=false->(h).same (d true)))/\(decide (Z=A)=false->(h).same (d true))))))))) (by kernel_rfl) ?_;simp only[vcs];have a8:∀{x y:List Int},x=y->(bq.row (.i .i64) x 3 true).same (bq.row (.i .i64) y 3 true):=by rintro _ _ rfl;rfl
 have hw:∀{k a b:Nat},a=b->(γZ k a 1).same (γZ k b 1):=by rintro _ _ _ rfl;rfl
 have e0:allI s 0=[]:=by simp[allI,df]
 refine⟨λ_=>trivial,λh8=>⟨λ_=>trivial,λf2=>⟨λ_=>trivial,λh=>?_⟩⟩⟩;have hc:bz p=0:=γf.1 h;simp only[if_pos hc];refine⟨.inr (by omega),λh=>absurd hc h,λ_=>⟨⟨⟨hw (by rw[e0];rfl),a8 e0.symm⟩,by omega,by omega⟩,?_⟩⟩;rintro i ⟨i0,i1⟩;have hs:=aij (s:=s) (n:=i.toNat);rw[show((i.toNat:Nat):Int)=i by omega,show i.toNat+1=(i+1).toNat by omega] at hs;have b5:(allI s i.toNat).length<=i.toNat:=qR Wt;refine⟨λb1=>⟨u64_in (by omega) (by omega),by omega,by omega,λhb=>?_,λhb=>?_⟩,λd2=>?_⟩
 ·rw[FP h1 h2] at hb;grind
 ·rw[FP h1 h2] at hb;grind
 rw[show i.toNat=p.offers.length by omega];have f0:=FD hc;refine⟨⟨⟨⟨hw rfl,by simp[q8],by simp[cntF]⟩,a8 rfl⟩,by omega,by omega⟩,?_⟩;clear hs b5 i0 i1 d2 i;generalize hA:allI s p.offers.length=A;have b4:dS p.offers.length A:=hA▸Wt;have e5:∀j:Int,0<=j->j<p.offers.length->(j∈A↔s / 2^j.toNat % 2=1):=λj j0 j1=>by
  grind[Ws]
 have b5:=qR b4;rintro c ⟨c0,c1⟩;refine⟨λg=>?_,λf4=>?_⟩
 ·have e3:bj (bW p) c.toNat (bp.i IntKind.i64).bB.dflt=bj (bW p) c.toNat []:=rfl;rw[e3];have d8:bj (bW p) c.toNat []∈bW p:=dn (by omega);have hH:q8 p s (c+1).toNat=(q8 p s c.toNat&&decide (cO (eO p (bj (bW p) c.toNat [])) (zb (bj (bW p) c.toNat []) A)=0)):=by
   unfold q8;rw[jq (d:=[]) c0 g,List.all_append,hA];simp
  have hC:cntF p (c+1).toNat=cntF p c.toNat+(bj (bW p) c.toNat []).length:=by
   grind[cntF,jq]
  have f1:0<=cntF p c.toNat/\cntF p c.toNat<=p.offers.length:=by
   have h1:=VP (p:=p);have h2:cntF p c.toNat+(((bW p).drop c.toNat).map λd=>(d.length:Int)).sum=p.offers.length:=by
    rw[<-h1];conv=>rhs;rw[<-List.take_append_drop c.toNat (bW p),γa,List.sum_append]
    rfl
   have h3:∀L:List (List Int),0<=(L.map λd=>(d.length:Int)).sum:=λL=>by
    induction L with
    |nil=>exact Int.le_refl _;|cons d L ih=>rw[ξ,List.sum_cons];omega
   have h4:=h3 ((bW p).drop c.toNat);have h5:0<=cntF p c.toNat:=h3 ((bW p).take c.toNat);omega
  generalize bj (bW p) c.toNat []=d at d8 hH hC ⊢;have ha:=uW d8;obtain⟨d7,e1⟩:=aif hc ha;have f3:=qR ha;have k0:pC d A 0=[]:=by simp[pC,df]
  refine⟨c0,g,by omega,by omega,⟨⟨⟨rfl,hw (by rw[k0];rfl)⟩,rfl,a8 k0.symm⟩,by omega,by omega⟩,?_⟩;rintro i ⟨i0,i1⟩;have hs:=aik (c:=d) (l:=A) (n:=i.toNat);rw[show((i.toNat:Nat):Int)=i by omega,show i.toNat+1=(i+1).toNat by omega] at hs;have e2:(pC d A i.toNat).length<=i.toNat:=by
   unfold pC;refine δ1 (List.length_filter_le _ _) ?_;rw[iz];exact π _
  refine⟨c0,g,by omega,λb1=>?_,λd2=>?_⟩
  ·have hb:=ha.2 (bj d i.toNat 0) (dn (by omega));have hm:=e5 (bj d i.toNat 0) hb.1 hb.2;refine⟨c0,g,by omega,i0,b1,by omega,λ_=>⟨c0,g,by omega,i0,b1,by omega,λ_=>⟨c0,g,by omega,i0,b1,by omega,u64_in (by omega) (by omega),hb.1,by omega,λhv=>?_,λhv=>?_⟩,λh=>by omega⟩,λh=>by omega⟩
   ·rw[FP h1 h2] at hv;rw[if_pos (hm.2 hv)] at hs;rw[hs];refine⟨?_,?_,?_,⟨hw rfl,a8 rfl⟩,?_,?_⟩<;>omega
   ·rw[FP h1 h2] at hv;rw[if_neg λh=>hv (hm.1 h),List.append_nil] at hs;rw[hs];refine⟨?_,⟨hw rfl,a8 rfl⟩,?_,?_⟩<;>omega
  ·rw[show i.toNat=d.length by omega,Wu,e1,hC];refine⟨c0,g,by omega,by omega,λhh=>⟨by rw[<-Wu];rw[show i.toNat=d.length by omega] at e2;omega,λh=>absurd d7 h,λ_=>⟨by omega,⟨?_,rfl⟩,by omega,by omega⟩⟩,λhh=>⟨λh=>absurd d7 h,λ_=>⟨by omega,⟨?_,rfl⟩,by omega,by omega⟩⟩⟩;·rw[hH,hh,Bool.true_and]
   ·rw[hH,hh,Bool.false_and]
 ·have e7:cntF p c.toNat=p.offers.length:=by
   unfold cntF;rw[show c.toNat=(bW p).length by omega,φ];exact VP
  have e6:(q8 p s c.toNat==decide (cO p A=0))=true:=by
   rw[beq_iff_eq,Bool.eq_iff_iff,decide_eq_true_eq,ag3 hc b4];unfold q8;rw[show c.toNat=(bW p).length by omega,φ,List.all_eq_true,hA];exact⟨λh d hd=>of_decide_eq_true (h d hd),λh d hd=>decide_eq_true (h d hd)⟩
  exact⟨λ_=>⟨by omega,λ_=>trivial,λh=>by rw[e6] at h;cases h⟩,λh=>absurd e7 h⟩
end Go.Vi
