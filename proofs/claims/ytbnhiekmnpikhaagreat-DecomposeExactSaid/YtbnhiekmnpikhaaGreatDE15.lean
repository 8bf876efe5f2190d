import Derived.StillTailTactics
import Derived.WalkSpells
import Derived.Test.YtbnhiekmnpikhaaGreatDE14
set_option maxRecDepth 100000
set_option maxHeartbeats 4000000
set_option linter.all false
open Array renaming getElem?_eq_some_iff->γA
open Classical renaming not_not->γe
open Go.Vi.SV renaming bl->δj,sb->γB,si->γj,row->γa,il->γC,ow->γ1,ptr->γV,agg->γN
open List renaming getElem?_take_of_lt->δB,mergeSort_perm->δp,take_succ_eq_append_getElem->γ2,map_append->γb,append_assoc->γG,getElem?_map->γH,getElem?_eq_getElem->μ,mem_or_eq_of_mem_set->δm,replicate->δ,take_succ_cons->δw,take_zero->εr,drop_succ_cons->εx,drop_zero->εq,setIfInBounds_toArray->ζb,set_cons_zero->εH,set_cons_succ->ζf,eq_nil_iff_forall_not_mem->δ4,map_map->γP,attachWith_map_subtype_val->εQ,size_toArray->ζ6,length_attachWith->εL,length_map->Ξ,length_append->γh,getElem?_eq_some_iff->ζ,length->γd,take_length->φ,map_take->ζE,mem_cons_self->γv,mem_cons_of_mem->γp,take->Δ
open Nat renaming le_trans->δ3,zero_le->δ6,le_refl->π,lt_of_lt_of_le->γl,le_succ_of_le->ζA
open Option renaming map_eq_some_iff->ε
open Prod renaming fst->εm
open Subtype renaming val->εP
namespace Go.Proofs
open Go.RowKit Go.Maps Go.Vi Go.ChangeShapes
theorem Ru:(Tryz.prog.info? 3).map (λi=>(i.zero,i.size,i.bytes))=some (some (.int .i64 0),1,8):=by kernel_rfl
theorem Rt:(Tryz.prog.info? 24).map (λi=>(i.zero,i.size,i.bytes))=some (some (.slice none 0 0),1,24):=by kernel_rfl
theorem Rs (w:World):(zeroValue 24).run Tryz.prog w= .ok (.slice none 0 0) w:=by kernel_rfl
theorem Dd:Keyed Tryz.prog 3:=int_keyed Tryz.underlying3
open Go.Shelf Go.Sort Go.Lib
theorem Rr (f c:Nat) (b i d g:Nat) (x y:Int) (W:World) (o:0<b) (l:0<d) (n:W.cell? ⟨f,0,none⟩=some (.int .i64 x)) (j:W.cell? ⟨c,0,none⟩=some (.int .i64 y)) (k:0<=x/\x<256) (m:0<=y/\y<256):
  Calls Tryz.prog 51 #[.slice (some ⟨f,0,none⟩) b i,.slice (some ⟨c,0,none⟩) d g] W λe h=>e= .returned (.int .i64 (x - y))/\∃q a,h=grow (W.drewN q) a:=by
 go_enter Tryz.func51,Tryz.ntmps51;go_wp2;go_quiet (fail);go_wp2;go_ret;exact⟨rfl,nq,#[],by simp_all⟩
theorem Rq {b:Type} [Inhabited b] {enc:b->Value} {w:World} {g:Nat} {a:Array Value} {e:TypeId} {d:Array b} (i:w.heap[g]?=some (.cells a e (0,0))) (h:a.toList.take d.size=d.toList.map enc):Sort.Holds enc w g 0 d:=by
 intro j c;refine⟨?_,by grind[World.frozen?]⟩;have f:(a.toList.take d.size)[j]?=(d.toList.map enc)[j]?:=by rw[h]
 rw[δB c] at f;simp_all[World.cell?]
theorem Rp {w:World} {B:Nat} {v:Value} {x:Int} {tl:List Int} (h:w.ownsInts B 3 .i64 v (x::tl)):
  ∃(g n cap:Nat),v= .slice (some ⟨g,0,none⟩) n cap/\0<n/\g<w.heap.size/\B<=g/\w.cell? ⟨g,0,none⟩=some (.int .i64 x):=by
 obtain⟨hr,_⟩:=h;have hr2:=hr;rcases hr.2 with⟨_,h0⟩|⟨g,cap,cur,rfl,hgb,hgg,q1,q2,q3,q4⟩;·simp at h0
 ·refine⟨g,_,cap,rfl,by simp,(γA.1 hgg).1,hgb,?_⟩;rw[World.ownsRow.cellAt hr2 0 (by simp)];simp
theorem Ji {d:Type} [Inhabited d] (enc:d->Value) (W:World) (b c n:Nat) (e:Array d) (os:Array Obj) (a:Addr) (f:a.block≠b) (g:a.block<W.heap.size):(sortWorld enc W b c n e os).cell? a=W.cell? a:=by
 unfold sortWorld;rw[cell?_grow _ _ _ (by simp_all),cell?_putRow_other _ _ b c e _ (Or.inl f)];rfl
theorem Ro {b:Type} [Inhabited b] (enc:b->Value) {w:World} {g n:Nat} {os:Array Obj} {a:Array Value} {e:TypeId} {c:Nat×Nat} (d:Array b) (f:w.heap[g]?=some (.cells a e c)):
  (sortWorld enc w g 0 n d os).heap[g]?=some (.cells (putCells enc 0 d a) e c):=by
 grind[sortWorld,heap_grow_old,putRow,mapBlock,Sort.ahead,onCells]
theorem Rn {a:Type} [Inhabited a] (enc:a->Value) {w:World} {g n:Nat} {os:Array Obj} (d:Array a):w.grownBy (sortWorld enc w g 0 n d os) (some g):=by
 unfold sortWorld;refine⟨rfl,rfl,rfl,by simp_all,λk c b=>?_⟩;grind[heap_grow_old,putRow,mapBlock,Sort.ahead]
theorem Rm {b:Type} [Inhabited b] (enc:b->Value) (a:Array Value) (d:Array b) (h:d.size<=a.size):(putCells enc 0 d a).toList.take d.size=d.toList.map enc:=by
 apply List.ext_getElem?;grind[putCells]
abbrev Hd (l:List Int) (n:Nat):={f:Int //f∈dV l n}
def om {l:List Int} {n:Nat} (x y:Hd l n):Int:=x.val - y.val
theorem sY {l:List Int} {n:Nat} (x y:Hd l n):ltOf om x y=decide (x.val<y.val):=by
 grind[ltOf,om]
theorem Rl {l:List Int} {n:Nat}:SWO (ltOf (om (l:=l) (n:=n))) where
 irrefl x:=by grind[sY]
 trans x y z a b:=by grind[sY]
 ntrans x y z a b:=by grind[sY]
theorem Rk {l:List Int} {n:Nat} (c:List (Hd l n)) (m:∀f,f∈c.map εP↔f∈dV l n) (i:(c.map εP).Nodup):(c.mergeSort λx y=>!ltOf om y x).map εP=dV l n:=by
 have e:=δp c λx y=>!ltOf om y x;have d:=List.pairwise_mergeSort (le:=λx y=>!ltOf (om (l:=l) (n:=n)) y x) (λx y z g o=>by grind[sY]) (λx y=>by grind[sY]) c;have j:(c.mergeSort λx y=>!ltOf om y x).Pairwise λx y=>x.val<=y.val:=d.imp λ{x y} h=>by grind[sY]
 have g:((c.mergeSort λx y=>!ltOf om y x).map εP).Pairwise (·<=·):=by
  grind
 have k:(dV l n).Perm (c.map εP):=(List.perm_ext_iff_of_nodup (De.imp λh=>Int.ne_of_lt h) i).2 λf=>(m f).symm;exact List.Perm.eq_of_pairwise (le:=λx y:Int=>x<=y) (λa b _ _ h p=>by omega) g (De.imp λh=>Int.le_of_lt h) ((e.map _).trans k.symm)
def Rj (w':World) (B:Nat) (l:List Int) (n:Nat) (e:Ending):Prop:=
 (e= .returned (.slice none 0 0)/\dV l n=[])\/∃(g cap:Nat) (cur:Array Value) (sv:Int->Value),e= .returned (.slice (some ⟨g,0,none⟩) (dV l n).length cap)/\B<=g/\w'.heap[g]?=some (.cells cur 24 (0,0))/\(dV l n).length<=cap/\cap<=maxLen/\
  cur.size=cap*1/\cur.toList.take (dV l n).length=(dV l n).map sv/\∀f∈dV l n,w'.ownsInts B 3 .i64 (sv f) (fH l n (bN l f.toNat 0))
theorem Jh {P:Program} {e:Array Oper} {c:Oper} {a:Act} {w:World} {K:Act->Prop} (f:TypeId) (x:Operand) (p:Addr) (b:List Value) (d:Array Field) (k:∀j v,b[j]?=some v->w.cell? (p.add j)=some v)
  (o:P.underlying f=some (.struct d)) (r:(P.info? f).map (·.size)=some b.length) (m:c.op= .load f x) (l:a.eval x= .pointer (some p)) (n:Region.wanted c (yielded e a.tmps)=true)
  (h:K (a.put c.dst (.agg b.toArray))):if Region.wanted c (yielded e a.tmps) then c.still P a w K else K (a.put c.dst undef):=by
 have g:(loadVar f p).run P w= .ok (.agg b.toArray) w:=by
  have g:(loadCells p b.length).run P w= .ok b.toArray w:=run_loadCells_list (P:=P) w p b k;cases q:P.info? f with
  |none=>simp_all;|some i=>
   simp_all[isAgg,run_underlying,loadVar,sizeOf,typeInfo]
 rw[if_pos n];unfold Oper.still execOp;simp only[m,l,Instr.loadAt,Instr.sureAddr,Sem.run_bind,Sem.run_pure,Result.andThen_ok,g];exact⟨rfl,h⟩
def Jg (v:Fin 8->Value):Value:=.agg #[v 0,v 1,v 2,v 3,v 4,v 5,v 6,v 7]
theorem cZ (q:Addr) (m:Nat):(q.add m).block=q.block:=by grind[Addr.add]
theorem Ri {w:World} {B g n c d:Nat} {e:TypeId} {xs:List Value} (h:w.ownsRow B e d (.slice (some ⟨g,0,none⟩) n c) n xs):B<=g:=by
 rcases h.2 with⟨b,_⟩|⟨j,a,f,b,i,_⟩<;>simp_all
theorem xd {w:World} {B g n c:Nat} {l:List Int} {j:Nat} (h:w.ownsInts B 3 .i64 (.slice (some ⟨g,0,none⟩) n c) l) (b:l.length=n) (d:j<n):w.cell? ⟨g,j,none⟩=some (.int .i64 (bN l j 0)):=by
 have a:=h.1;rw[b] at a;rw[World.ownsRow.cellAt a j (by omega)];grind[bN]
theorem Rh {w:World} {b f:Nat} {e:TypeId} {a:Nat} {v:Value} {n:Nat} {xs:List Value} (h:w.ownsRow b e a v n xs) (o:f<=b):w.ownsRow f e a v n xs:=by
 obtain⟨i,l⟩:=h;refine⟨i,l.imp id ?_⟩;rintro⟨g,c,d,m,k,j⟩;exact⟨g,c,d,m,δ3 o k,j⟩
theorem Jf {w b:World} {B g n c S:Nat} {l:List Int} (h:w.ownsInts B 3 .i64 (.slice (some ⟨g,0,none⟩) n c) l) (a:Below S w b) (d:w.heap.size=S):b.ownsInts B 3 .i64 (.slice (some ⟨g,0,none⟩) n c) l:=by
 subst d;exact World.ownsInts.kept (row:=none) h ⟨a.os,a.tape,a.output,a.size,λk e _=>a.block k e⟩ (.inr (by simp[Value.ownBlock]))
theorem Rg {w:World} {B g n a:Nat} {l:List Int} (h:w.ownsInts (B+1) 3 .i64 (.slice (some ⟨g,0,none⟩) n a) l) (c:l.length=n) (b:0<n):B<w.heap.size:=by
 have:=h.1.lt g (by simp[Value.ownBlock]);omega
def oM (x y:Int) (l:List Int) (i:Nat):List Int:=(l.take i).map (λz=>if z=x then y else z)++l.drop i
theorem Dc {x y:Int} {l:List Int} {i:Nat}:(oM x y l i).length=l.length:=by grind[oM]
theorem RJ {x y:Int} {l:List Int} {i:Nat} (h:i<l.length):oM x y l (i+1)=if l[i]=x then(oM x y l i).set i y else oM x y l i:=by
 have a:l.take (i+1)=l.take i++[l[i]]:=γ2 h;have b:l.drop i=l[i]::l.drop (i+1):=List.drop_eq_getElem_cons h;have c:((l.take i).map λz=>if z=x then y else z).length=i:=by simp;omega
 unfold oM;rw[a,γb,γG,b];split<;>simp_all
theorem RI (g n w:Nat) (l:List Int) (F:l.length=n) (N:n<=60) (x y:Int) (E:(Lit.int .i64 y).wf=true) (Q:∀z∈l,(Lit.int .i64 z).wf=true) (W:World) (A:g<W.heap.size)
  (G:∀j (h:j<l.length),W.cell? ⟨g,j,none⟩=some (.int .i64 l[j]))
  (p:Calls Tryz.prog 52 #[.slice (some ⟨g,0,none⟩) n w] W λe f=>∃c a,e= .returned (.slice (some ⟨c,0,none⟩) n a)/\f.ownsInts W.heap.size 3 .i64 (.slice (some ⟨c,0,none⟩) n a) l/\Below W.heap.size W f):
  Calls Tryz.prog 49 #[.slice (some ⟨g,0,none⟩) n w,.int .i64 x,.int .i64 y] W λe f=>∃c a,e= .returned (.slice (some ⟨c,0,none⟩) n a)/\f.ownsInts W.heap.size 3 .i64 (.slice (some ⟨c,0,none⟩) n a) (oM x y l n)/\Below W.heap.size W f:=by
 go_enter Tryz.func49,Tryz.ntmps49;go_wp2_with (go_at_call 52;refine p.mono ?_;rintro e f ⟨c,a,rfl,B,L⟩);go_loopw [14] (λi v=>∃k:Nat,k<=n/\i= .int .i64 k/\v.ownsInts W.heap.size 3 .i64 (.slice (some ⟨c,0,none⟩) n a) (oM x y l k)/\Below W.heap.size W v)
  (λi _=>n - (intOf i).toNat);case atStart=>grind[oM]
 case round=>
  obtain⟨k,O,rfl,q,o⟩:=hrel;by_cases I:k<n
  ·have H:wr.cell? ⟨g,k,none⟩=some (.int .i64 (l[k]'(by omega))):=(o.cell (by exact A)).trans (G k (by omega));have d:=@RJ x y l k (by omega);by_cases t:l[k]'(by omega)=x
   ·rw[if_pos t] at d;have b:=q.1;rw[Dc,F] at b;obtain⟨C,K⟩:=b.stored k (.int .i64 y);have D:=b.frozenAt k;have r:=b.cellAt k (by omega);rw[γH,μ (by grind[Dc])] at r;go_wp2;have s:W.heap.size<=c:=by
     rcases b.2 with⟨M,_⟩|⟨R,u,J,M,P,_⟩<;>simp_all
    refine⟨⟨k+1,by omega,by simp,⟨?_,?_⟩,o.setCell (by exact s) _⟩,by simp[intOf];omega⟩;·simp_all[Dc]
    ·intro z m;rw[d] at m;rcases δm m with m|rfl;·exact q.2 z m
     ·exact E
   ·rw[if_neg t] at d;go_wp2;grind[intOf]
  ·obtain rfl:k=n:=by omega
   go_wp2;go_ret;exact⟨c,a,rfl,q,o⟩
theorem RG (x0 x1 x2 x3 x4 x5 x6 x7 x8 x9 x10 x11 x12 x13 x14 x15 x16 x17 x18:Value) (a:Option Addr) (n cap:Nat) (hn:n<=60) (nm:Nat->List Int) (hnm:∀k,(nm k).length=n) (aYa:nm 0=δ n 0) (hwf:∀k,k<=n->∀x∈nm k,(Lit.int .i64 x).wf=true)
  (nk:Nat->Nat->List Int) (hnk:∀k j,(nk k j).length=n) (hwk:∀k j,k<n->∀x∈nk k j,(Lit.int .i64 x).wf=true) (aZh:∀k,k<n->nk k 0=(nm k).set k (k:Int)) (aYb:∀k,k<n->nk k k=nm (k+1))
  (cn:Nat->Nat->Bool) (aNi:∀k j,k<n->j<k->nk k (j+1)=if cn k j=true then oP (nk k j) (bN (nk k j) j 0) (bN (nk k j) k 0) else nk k j)
  (ov:Nat->Fin 8->Value) (w:World)
  (hoc:∀i,i<n->∃q,a=some q/\q.block<w.heap.size/\∀j:Fin 8,w.cell? ((q.add (i*8)).add j)=some (ov i j))
  (hcon:∀i j,i<n->j<n->∀W,Calls Tryz.prog 48 #[Jg (ov i),Jg (ov j)] W λe w'=>e= .returned (.bool (cn i j))/\Below W.heap.size W w')
  (aYc:∀(W:World) (B g cp:Nat) (l:List Int),l.length=n->W.ownsInts B 3 .i64 (.slice (some ⟨g,0,none⟩) n cp) l->∀x y,(Lit.int .i64 y).wf=true->Calls Tryz.prog 49 #[.slice (some ⟨g,0,none⟩) n cp,.int .i64 x,.int .i64 y] W λe w'=>
   ∃g2 cp2,e= .returned (.slice (some ⟨g2,0,none⟩) n cp2)/\w'.ownsInts W.heap.size 3 .i64 (.slice (some ⟨g2,0,none⟩) n cp2) (oP l x y)/\Below W.heap.size W w'):
  Calls Tryz.prog 29 #[.agg #[x0,x1,x2,x3,x4,x5,x6,x7,x8,x9,x10,x11,x12,x13,x14,x15,x16,x17,x18,.slice a n cap]] w λe w'=>∃B,w.heap.size<=B/\Rj w' B (nm n) n e/\Below w.heap.size w w':=by
 have hmm:=@run_makeMap Tryz.prog;obtain⟨i0,hi,hz0,hz1,hz2⟩:=info_parts Ru;go_enter Tryz.func29,Tryz.ntmps29;go_wp2_with (first
  |(at_make;refine wpList_make_full _ rfl _ _ 24 rfl (w.heap.size+1) 3 i0 (.int .i64 0) 1 Tryz.underlying24 hi hz0 hz1 .i64 .i64 _ _ n rfl rfl rfl rfl (by rw[hz2];omega) (by unfold maxLen;omega) (by simp) ?_;intro w0 hown0 aNj);|go_in);go_loopw [18,3] (λi v wr=>∃(k:Nat) (g:Nat) (cp:Nat),k<=n/\i= .int .i64 k/\v= .slice (some ⟨g,0,none⟩) n cp/\wr.ownsInts (w.heap.size+1) 3 .i64 v (nm k)/\wr.cell? ⟨w.heap.size,19,none⟩=some (.slice a n cap)/\Below w.heap.size w wr)
  (λi _ _=>n - (intOf i).toNat);case atStart=>
  refine⟨0,w.heap.size+1,n,by omega,rfl,rfl,⟨?_,λz hz=>hwf 0 (δ6 _) z hz⟩,?_,((Below.refl _ w).alloc (π _) _).grown aNj (by simp) (by simp_all)⟩;rotate_left
  ·refine(World.cell?_of_block (aNj.block w.heap.size (by simp) (by simp_all))).trans ?_;simp_all
  rw[hnm 0,aYa];have e1:(madeCells (Value.int IntKind.i64 0).cells (n*1)).toList=(δ n (0:Int)).map (Value.int .i64):=by
   rw[Nat.mul_one,List.map_replicate];exact toList_madeCells_one _ _
  simp_all
 case round=>
  obtain⟨k,g,cp,hk,rfl,rfl,hown,aNk,hnx⟩:=hrel;by_cases hlt:k<n
  ·obtain⟨q,rfl,hqb,_⟩:=hoc k hlt;have asl:=hown.1;rw[hnm k] at asl;obtain⟨hs1,hs2⟩:=asl.stored k (.int .i64 k);have hfr:=asl.frozenAt k;have hce:=asl.cellAt k (by omega);rw[γH,μ (by simp_all)] at hce;go_wp2;have hgb:w.heap.size+1<=g:=Ri asl;have hX:(wr.setCell ⟨g,k,none⟩ (.int .i64 k)).ownsInts (w.heap.size+1) 3 .i64 (.slice (some ⟨g,0,none⟩) n cp) (nk k 0):=by
    refine⟨?_,hwk k 0 hlt⟩;simp_all
   have hY:(wr.setCell ⟨g,k,none⟩ (.int .i64 k)).cell? ⟨w.heap.size,19,none⟩=some (.slice (some q) n cap):=by
    rw[<-aNk];exact World.cell?_of_block (Below.heap_setCell _ _ _ _ (by simp;omega))
   have hZ:Below w.heap.size w (wr.setCell ⟨g,k,none⟩ (.int .i64 k)):=hnx.setCell (by simp;omega) _;clear hs1 hs2 hfr hce hown aNk hnx asl;generalize wr.setCell ⟨g,k,none⟩ (.int .i64 k)=wa at*;go_loopw [26,3] (λi v ws=>∃(j:Nat) (g:Nat) (cp:Nat),j<=k/\i= .int .i64 j/\v= .slice (some ⟨g,0,none⟩) n cp/\ws.ownsInts (w.heap.size+1) 3 .i64 v (nk k j)/\ws.cell? ⟨w.heap.size,19,none⟩=some (.slice (some q) n cap)/\Below w.heap.size w ws)
    (λi _ _=>k - (intOf i).toNat);case atStart=>exact⟨0,g,cp,δ6 _,rfl,rfl,hX,hY,hZ⟩
   case round=>
    obtain⟨j,g2,cp2,hj,rfl,rfl,ho2,hp2,hb2⟩:=hrel;by_cases hjk:j<k
    ·have hcs:∀i,i<n->∀m u,[ov i 0,ov i 1,ov i 2,ov i 3,ov i 4,ov i 5,ov i 6,ov i 7][m]?=some u->wr.cell? ((q.add (i*8)).add m)=some u:=by
      intro i hi m u hu;obtain⟨q',e,_,c⟩:=hoc i hi;injection e with e;subst e;have c0:∀m:Fin 8,wr.cell? ((q.add (i*8)).add m)=some (ov i m):=λm=>(hb2.cell (by simp_all[cZ])).trans (c m);match m,hu with
      |0,hu=>cases hu;exact c0 0;|1,hu=>cases hu;exact c0 1;|2,hu=>cases hu;exact c0 2;|3,hu=>cases hu;exact c0 3;|4,hu=>cases hu;exact c0 4;|5,hu=>cases hu;exact c0 5;|6,hu=>cases hu;exact c0 6;|7,hu=>cases hu;exact c0 7;|m+8,hu=>simp at hu
     have hjn:j<n:=by omega
     have aZj:(j:Int)<(n:Int):=by omega
     have hln:=hnk k j;have hoj:wr.cell? ⟨g2,j,none⟩=some (.int .i64 (bN (nk k j) j 0)):=xd ho2 hln (by omega);have hok:wr.cell? ⟨g2,k,none⟩=some (.int .i64 (bN (nk k j) k 0)):=xd ho2 hln (by omega);have hwy:(Lit.int .i64 (bN (nk k j) k 0)).wf=true:=hwk k j hlt _ (by simp[bN,show k<(nk k j).length by omega]);go_wp2;refine wp_region_still_tail 10 (by kernel_rfl) (by kernel_rfl) ?_;simp only[δw,εr,εx,εq];still_step;still_step;still_step;still_step;refine wpStill_step (λK hK=>?_);refine Jh 65 (.tmp 32) (q.add (k*8)) _ _ (hcs k hlt) Tryz.underlying65 (by kernel_rfl) rfl rfl (by rfl) ?_;simp only[Act.put,ζb,εH,ζf];refine hK _ ?_;clear hK K;still_step;still_step;still_step;still_step;refine wpStill_step (λK hK=>?_);refine Jh 65 (.tmp 37) (q.add (j*8)) _ _ (hcs j (by omega)) Tryz.underlying65 (by kernel_rfl) rfl rfl (by rfl) ?_;simp only[Act.put,ζb,εH,ζf];refine hK _ ?_;clear hK K;refine wpStill_nil ?_;change wpList _ _ _ _ _ wr.drew;have hbd:Below wr.heap.size wr wr.drew:=(Below.refl _ _).drew;have hsd:wr.drew.heap.size=wr.heap.size:=rfl;have ho3:wr.drew.ownsInts (w.heap.size+1) 3 .i64 (.slice (some ⟨g2,0,none⟩) n cp2) (nk k j):=ho2;have hp3:wr.drew.cell? ⟨w.heap.size,19,none⟩=some (.slice (some q) n cap):=hp2;have hb3:Below w.heap.size w wr.drew:=hb2.drew;have hwz:w.heap.size<wr.heap.size:=Rg ho2 hln (by omega);clear hoj hok ho2 hp2 hb2 hcs;generalize wr.drew=wd at*;have hc1:=hcon k j hlt hjn wd;rw[hsd] at hc1;cases hcj:cn k j with
     |false=>
      go_wp2_with (go_at_call 48;refine hc1.mono ?_;rintro e w' ⟨rfl,hb4⟩);have hkS:=aNi k j hlt hjk;rw[hcj,if_neg (by simp)] at hkS;refine⟨⟨j+1,g2,cp2,by omega,by go_num,rfl,?_,?_,?_⟩,by simp[intOf];omega⟩
      ·rw[hkS];exact Jf ho3 hb4 (by rw[hsd])
      ·rw[<-hp3];exact hb4.cell (by show w.heap.size<_;omega)
      ·exact hb3.trans (hb4.mono (by omega));|true=>
      go_wp2_with (go_at_call 48;refine hc1.mono ?_;rintro e w' ⟨rfl,hb4⟩);have hkS:=aNi k j hlt hjk;rw[hcj,if_pos rfl] at hkS;have ho4:=Jf ho3 hb4 (by rw[hsd]);have hp4:w'.cell? ⟨w.heap.size,19,none⟩=some (.slice (some q) n cap):=by
       rw[<-hp3];exact hb4.cell (by show w.heap.size<_;omega)
      have hb5:=hb3.trans (hb4.mono (show w.heap.size<=wr.heap.size by omega));have aZk:w.heap.size<w'.heap.size:=γl hwz (by rw[<-hsd];exact hb4.size);have hoj:w'.cell? ⟨g2,j,none⟩=some (.int .i64 (bN (nk k j) j 0)):=xd ho4 hln (by omega);have hok:w'.cell? ⟨g2,k,none⟩=some (.int .i64 (bN (nk k j) k 0)):=xd ho4 hln (by omega);clear ho3 hp3 hb3 hb4 hc1 hsd;refine wp_region_still_tail 9 (by kernel_rfl) (by kernel_rfl) ?_;simp only[δw,εr,εx,εq];still_step;still_step;still_step;still_step;still_step;still_step;still_step;still_step;still_step;refine wpStill_nil ?_;change wpList _ _ _ _ _ w'.drew;have ho5:w'.drew.ownsInts (w.heap.size+1) 3 .i64 (.slice (some ⟨g2,0,none⟩) n cp2) (nk k j):=ho4;have hp5:w'.drew.cell? ⟨w.heap.size,19,none⟩=some (.slice (some q) n cap):=hp4;have hb6:Below w.heap.size w w'.drew:=hb5.drew;have hsd:w'.drew.heap.size=w'.heap.size:=rfl;clear hoj hok ho4 hp4 hb5;generalize w'.drew=wd2 at*;have hc2:=aYc wd2 _ g2 cp2 (nk k j) hln ho5 (bN (nk k j) j 0) (bN (nk k j) k 0) hwy;go_wp2_with (go_at_call 49;refine hc2.mono ?_;rintro e w'' ⟨g3,cp3,rfl,ho6,hb7⟩);rw[<-hkS] at ho6;refine⟨⟨j+1,g3,cp3,by omega,by go_num,rfl,⟨Rh ho6.1 (by omega),ho6.2⟩,?_,?_⟩,by simp[intOf];omega⟩
      ·rw[<-hp5];exact hb7.cell (by show w.heap.size<_;omega)
      ·exact hb6.trans (hb7.mono (by omega))
    ·obtain rfl:j=k:=by omega
     go_wp2;refine⟨⟨j+1,g2,cp2,by omega,by go_num,rfl,by rw[<-aYb j hlt];exact ho2,hp2,hb2⟩,by simp[intOf];omega⟩
  ·obtain rfl:k=n:=by omega
   have hln:=hnm k;have hcl:∀j,j<k->wr.cell? ⟨g,j,none⟩=some (.int .i64 (bN (nm k) j 0)):=by
    intro j hj;have h1:=hown.1;rw[hln] at h1;rw[World.ownsRow.cellAt h1 j (by omega)];simp[bN,show j<(nm k).length by omega]
   have hg:g<wr.heap.size:=by
    rcases hown.1.2 with⟨h0,_⟩|⟨g3,aZl,cur,h0,_,hgg,_⟩;·cases h0
    ·injection h0 with h0;injection h0 with h0;injection h0 with h0;subst h0;exact(γA.1 hgg).1
   generalize hnl:nm k=l at*;generalize wr=w1 at*;go_wp2;go_loopw [55] (λi ws=>∃j:Nat,j<=k/\i= .int .i64 j/\ws.ownsGroups Tryz.prog 3 (w1.heap.size+1) 3 .i64 w1.heap.size j (lY Unit l j)/\Below w1.heap.size w1 ws/\w1.heap.size+1<=ws.heap.size)
    (λi _=>k - (intOf i).toNat);case atStart=>exact⟨0,δ6 _,rfl,World.ownsGroups_made _ _ _ _ _,(Below.refl _ _).alloc (π _) _,by simp⟩
   case round=>
    obtain⟨j,hj,rfl,hgr,hbl,hws⟩:=hrel;have hcx:j<k->wr.cell? ⟨g,j,none⟩=some (.int .i64 (bN l j 0)):=λh=>(hbl.cell (by exact hg)).trans (hcl j h);have hkey:j<k->keyOf Tryz.prog 3 (.int .i64 (bN l j 0))=some (.int .i64 (bN l j 0)):=λh=>keyOf_int_mk Tryz.underlying3 (hwf k (π _) _ (by rw[hnl];simp[bN,show j<l.length by omega]));by_cases hjk:j<k
    ·replace hcx:=hcx hjk;replace hkey:=hkey hjk;go_wp2_with (first
      |(at_lookup;refine wpList_lookup_groups _ rfl _ _ 94 rfl 3 24 3 .i64 Dd Tryz.underlying94 (Rs _) (w1.heap.size+1) w1.heap.size j _ rfl hgr (by unfold maxLen;omega) _ _ rfl hkey ?_;intro v zs hat hoi hzl hback);|(at_builtin;refine wpList_append_own_at _ rfl _ _ 24 rfl (w1.heap.size+1) 3 i0 (.int .i64 0) 1 8 Tryz.underlying24 hi hz0 hz1 hz2 rfl (by decide) _ _ _ rfl (hoi.1.alloc _) ⟨wr.heap.size,0,none⟩ 1 1 [.int .i64 j] rfl rfl (cell_one_new _ _ _) (ints_oneCell .i64 [(j:Int)]) (by unfold maxLen;omega) (by omega) (by simp;omega) ?_;intro v' w2 hown' hgrow hnil hloc);|(at_mapUpdate;refine wpList_mapUpdate_back _ rfl _ _ _ 94 rfl hback rfl rfl rfl ((World.grownBy_alloc _ _ _).trans hgrow) (hoi.appended hown' (WalkArith.wf_i64 (by omega))) (by simp;omega) (hloc.imp id (λh=>⟨_,h,by simp⟩)) ?_;intro w3 hown3 hgrow3);|go_in);have hall:=(World.grownBy_alloc wr _ _).trans hgrow;go_roundw;case rel=>
      refine⟨j+1,by omega,by go_num,?_,hbl.groups hoi hall hgrow3 hbl.size (Nat.le_succ _) (π _),δ3 hws (δ3 hall.size hgrow3.size)⟩;have hz:=RD hoi hat;rw[lY,<-hz,<-(hoi.appended hown' (WalkArith.wf_i64 (by omega))).datum_pos (by simp)];exact hown3
     case measure=>simp[intOf];omega
    ·obtain rfl:j=k:=by omega
     have hmap:wr.ownsMap Tryz.prog 3 (rowElem wr (w1.heap.size+1) 3 .i64) w1.heap.size j (lY Unit l j):=by
      obtain⟨es,ck,h1,h2,h3,h4,h5,h6,h7⟩:=hgr;exact⟨es,ck,h1,h2,h3,h4⟩
     generalize wr=w4 at*;go_wp2_with (first
      |(at_range;refine wpList_range_own _ rfl _ 94 rfl 3 24 Dd Tryz.underlying94 _ w1.heap.size j _ rfl hmap ?_;intro w5 hrg0 hg0 hs0);|go_in);go_frame;go_loopw [9] (λu ws=>∃(left:Lit->Bool) (cnt:Nat) (hs:List (Int×Value)),ws.ranges Tryz.prog 3 (rowElem w4 (w1.heap.size+1) 3 .i64) w1.heap.size w4.heap.size j (lY Unit l j) left cnt/\
       ws.ownsRow (w4.heap.size+1) 24 1 u hs.length (hs.map Prod.snd)/\uO (λv zs=>w4.ownsInts (w1.heap.size+1) 3 .i64 v zs) l j (lY Unit l j) left cnt hs/\
       w4.heap.size+1<=ws.heap.size/\Below w4.heap.size w4 ws)
      (λ_ ws=>ws.rangeLeft w1.heap.size w4.heap.size);case atStart=>
      refine⟨Go.Maps.has (lY Unit l j),Go.Maps.size (lY Unit l j),[],hrg0,⟨by simp,.inl ⟨rfl,rfl⟩⟩,⟨List.nodup_nil,by simp,?_,?_,λ_ h=>h⟩,by omega,(Below.refl _ w4).grown hg0 (π _) (by intro k hk;cases hk)⟩
      ·intro f hf hl;rw[Jm] at hl;have h2:=B6.1 hf;simp at hl;rw[hl] at h2;cases h2
      ·have:=hmap.size_le;simp;omega
     case round=>
      obtain⟨left,cnt,hs,hrg,hrow,hse,hsz,hbe⟩:=hrel;go_wp2_with (first
       |(at_next;refine wpList_next_ranges _ rfl _ rfl 3 Dd (rowElem w4 (w1.heap.size+1) 3 .i64) (Value.int .i64) (λc:Option Addr×Nat×Nat=>Value.slice c.1 c.2.1 c.2.2) (λkey kl hkey=>by obtain⟨x,rfl,_⟩:=Maps.keyOf_int_inv Tryz.underlying3 hkey;exact⟨x,rfl⟩) (λv y hv=>by
        obtain⟨zs,ho,_⟩:=rowElem_inv hv;obtain⟨_,h|⟨g,cp,_,h,_⟩⟩:=ho.1;·exact⟨(none,0,0),h.1⟩
        ·exact⟨(some ⟨g,0,none⟩,zs.length,cp),h⟩) w1.heap.size w4.heap.size j _ _ _ rfl hrg ?_ ?_);|go_in)
      ·intro hc0 hl0;have eg:∀args w,(callFunc 51 args).run Tryz.prog w= .ok (.enter 51 args) w:=enters_of Tryz.func51 (by kernel_rfl) rfl;obtain⟨hmem,hO,hsrt⟩:=hse.done hl0;have hhs:hs.length<=60:=by have:=hse.c;omega
       rcases hrow.2 with⟨rfl,hn0⟩|⟨g2,cap2,cur,rfl,hgb,hgg,q1,q2,q3,q4⟩
       ·have amd:=AnyF.slices_SortFunc_none {Tryz.tU with} none 0 (.func (.func 51) #[] #[]) wr;change Calls Tryz.prog 50 _ _ _ at amd;go_wp2_with (go_at_call 50;refine amd.mono ?_;rintro e w' ⟨rfl,rfl⟩);go_ret;refine⟨w1.heap.size+1,ζA hnx.size,.inl ⟨rfl,?_⟩,hnx.trans ((hbl.trans (hbe.mono (by omega))).mono hnx.size)⟩;rw[hnl,δ4];intro f hf;have hf2:=(hmem f).2 hf;rw[List.eq_nil_of_length_eq_zero hn0] at hf2;cases hf2
       ·by_cases hne:hs=[]
        ·subst hne;have amd:=AnyF.slices_SortFunc_none {Tryz.tU with} (some ⟨g2,0,none⟩) cap2 (.func (.func 51) #[] #[]) wr;change Calls Tryz.prog 50 _ _ _ at amd;go_wp2_with (go_at_call 50;refine amd.mono ?_;rintro e w' ⟨rfl,rfl⟩);go_ret;have h0:dV l j=[]:=by
          rw[δ4];intro f hf;have hf2:=(hmem f).2 hf;cases hf2
         refine⟨w1.heap.size+1,ζA hnx.size,?_,hnx.trans ((hbl.trans (hbe.mono (by omega))).mono hnx.size)⟩;rw[hnl];refine .inr ⟨g2,cap2,cur,kZ [],by rw[h0];rfl,by omega,hgg,by rw[h0];simp,q2,q3,by rw[h0];simp,λf hf=>?_⟩;rw[h0] at hf;cases hf
        have hhd:∀x:Hd l j,∃(g n cap:Nat),kZ hs x.val= .slice (some ⟨g,0,none⟩) n cap/\0<n/\g<w4.heap.size/\w1.heap.size+1<=g/\w4.cell? ⟨g,0,none⟩=some (.int .i64 x.val):=λx=>by
         have h1:=hO x.val x.property;have h2:=B6.1 x.property;cases hc:fH l j (bN l x.val.toNat 0) with
         |nil=>rw[hc] at h2;cases h2;|cons y tl=>
          rw[hc] at h1 h2;injection h2 with h2;subst h2;exact Rp h1
        have hbd:∀x:Hd l j,0<=x.val/\x.val<256:=λx=>by
         have:=Rx x.property;omega
        have aYi:((hs.map εm).attachWith (·∈dV l j) (λf hf=>(hmem f).1 hf)).map (λx:Hd l j=>kZ hs x.val)=hs.map Prod.snd:=by
         have:(λx:Hd l j=>kZ hs x.val)=(kZ hs)∘εP:=rfl;rw[this,<-γP,εQ];exact Rw hse.d
        obtain⟨q0,hq0⟩:=List.exists_mem_of_ne_nil _ hne;haveI:Inhabited (Hd l j):=⟨⟨q0.1,(hse.i q0 hq0).1⟩⟩;have amd:=Any.slices_SortFunc_total Tryz.tU (λx:Hd l j=>kZ hs x.val) (λx=>by obtain⟨g,n,cap,e,_⟩:=hhd x;show(kZ hs x.val).oneCell'=true;rw[e];rfl) om Rl 51 #[] g2 0 cap2 ((hs.map εm).attachWith (·∈dV l j) (λf hf=>(hmem f).1 hf)).toArray wr eg
         (λm os dk hdk x y=>by
          obtain⟨ga,na,ca,ea,la,ba,da,fa⟩:=hhd x;obtain⟨gb,nb,cb,eb,lb,bb,db,fb⟩:=hhd y;simp only[ea,eb];have aZm:=hbe.size;exact Rr ga gb na ca nb cb x.val y.val _ la lb (by rw[Ji _ _ _ _ _ _ _ _ (by show ga≠g2;omega) (by show ga<_;omega),hbe.cell (by exact ba)];exact fa)
           (by rw[Ji _ _ _ _ _ _ _ _ (by show gb≠g2;omega) (by show gb<_;omega),hbe.cell (by exact bb)];exact fb) (hbd x) (hbd y)) (Rq hgg (by simp only[ζ6,εL,Ξ];rw[show hs.length=hs.length*1 by omega,q4];exact aYi.symm)) (γA.1 hgg).1 (by simp;omega) (λx y h1 h2=>by rw[sY] at h1 h2;simp at h1 h2;exact Subtype.ext (by omega));change Calls Tryz.prog 50 _ _ _ at amd;simp only[ζ6,εL,Ξ] at amd;go_wp2_with (go_at_call 50;refine amd.mono ?_;rintro e w' ⟨rfl,N,os,rfl⟩);go_ret;have aNn:((hs.map εm).attachWith (·∈dV l j) (λf hf=>(hmem f).1 hf)).map εP=hs.map εm:=εQ _;have hT:=Rk ((hs.map εm).attachWith (·∈dV l j) (λf hf=>(hmem f).1 hf)) (by rw[aNn];exact hmem) (by rw[aNn];exact hse.d);have hpl:=(δp ((hs.map εm).attachWith (·∈dV l j) (λf hf=>(hmem f).1 hf)) λx y=>!ltOf om y x).length_eq;generalize (((hs.map εm).attachWith (·∈dV l j) (λf hf=>(hmem f).1 hf)).mergeSort λx y=>!ltOf om y x)=ts at hT hpl ⊢;simp only[εL,Ξ] at hpl;have hdl:(dV l j).length=hs.length:=by rw[<-hT,Ξ,hpl]
        have hbs:=hbe.size;have hb':=hbe.grown (Rn (λx:Hd l j=>kZ hs x.val) (n:=N) (os:=os) (g:=g2) ts.toArray) hbe.size (by intro k hk;injection hk with hk;omega);refine⟨w1.heap.size+1,ζA hnx.size,?_,hnx.trans ((hbl.trans (hb'.mono (by omega))).mono hnx.size)⟩;rw[hnl];have htk:=Rm (λx:Hd l j=>kZ hs x.val) cur ts.toArray (by simp;omega);refine .inr ⟨g2,cap2,_,kZ hs,by rw[hdl];rfl,by omega,Ro _ _ hgg,by omega,q2,by simp[putCells,q3],?_,λf hf=>?_⟩
        ·rw[hdl,<-hpl];refine Eq.trans ?_ (congrArg (List.map (kZ hs)) hT);rw[γP];simpa using htk
        ·refine World.ownsInts.kept (row:=none) (hO f hf) ⟨hb'.os,hb'.tape,hb'.output,hb'.size,λk hk _=>hb'.block k hk⟩ ?_;obtain⟨g,n,cap,e,_⟩:=hhd ⟨f,hf⟩;right;rw[show kZ hs f=_ from e];simp[Value.ownBlock]
      ·intro x ca cn cc kl y yy w6 cnt1 hkx hlx hRc hat hrg1 hlt hg1 hs1 hen;obtain⟨_,e1,rfl,hwx⟩:=Maps.keyOf_int_inv Tryz.underlying3 hkx;cases e1;obtain⟨zs,hoc,hyy⟩:=rowElem_inv hRc;cases hyy;obtain⟨i1,hi1,hy0,hy1,hy2⟩:=info_parts Rt;have h1c:∀v∈[Value.slice ca cn cc],v.oneCell'=true:=by
        intro v hv;rw[List.mem_singleton] at hv;subst hv;rfl
       have hkl:=hse.h _ hlx;rw[Jm] at hkl;obtain⟨f,tl,hft,hfh,hfx⟩:=RB (of_decide_eq_true hkl);have asl:=hrow.kept hg1 (by
        rcases hrow.2 with⟨rfl,_⟩|⟨g,cap,cur,rfl,hgb,_⟩;·exact .inl rfl
        ·right;simp[Value.ownBlock];omega);have hcc:=hse.c;have hhs:hs.length<=60:=by omega
       have aYm:Below w4.heap.size w4 w6:=hbe.grown hg1 hbe.size (by intro k hk;injection hk with hk;omega);go_wp2_with (first
        |(at_builtin;refine wpList_append_own _ rfl _ _ 30 rfl (w4.heap.size+1) 24 i1 (.slice none 0 0) 1 24 Tryz.underlying30 hi1 hy0 hy1 hy2 rfl (by decide) _ _ _ rfl (asl.alloc _) ⟨wr.heap.size,0,none⟩ 1 1 [Value.slice ca cn cc] rfl rfl (by rw[<-hs1];exact cell_one_new _ _ _) h1c (by unfold maxLen;omega) (by omega) (by simp;omega) ?_;intro v' w7 aYn aYo aZn);|go_in);have hg7:(w6.alloc (Obj.cells #[Value.slice ca cn cc] 24)).grownBy w7 u9.ownBlock:=aYo;have hzs:zs=fH l j x:=Rv hoc (hat .nil);have hO:w4.ownsInts (w1.heap.size+1) 3 .i64 (Value.slice ca cn cc) (fH l j (bN l f.toNat 0)):=by
        rw[hfx,<-hzs];exact hoc
       have hrw:some w1.heap.size≠u9.ownBlock/\some w4.heap.size≠u9.ownBlock:=by
        rcases hrow.2 with⟨rfl,_⟩|⟨g,cap,cur,rfl,hgb,_⟩;·exact⟨by simp[Value.ownBlock],by simp[Value.ownBlock]⟩
        ·exact⟨by simp[Value.ownBlock];omega,by simp[Value.ownBlock];omega⟩
       have aNo:=(hrg1.alloc (Obj.cells #[Value.slice ca cn cc] 24)).kept hg7 hrw.1 hrw.2;have aZo:=hg7.size;have hsa:(w6.alloc (Obj.cells #[Value.slice ca cn cc] 24)).heap.size=w6.heap.size+1:=by simp
       have hbs:=hbe.size;subst hfx;refine⟨⟨_,cnt1,hs++[(f,.slice ca cn cc)],aNo,?_,hse.step hfh hO hlx hlt,by omega,(aYm.alloc (by omega) _).grown hg7 (by omega) ?_⟩,?_⟩
       ·rw[γh,γb];exact aYn
       ·intro k hk;rcases hrow.2 with⟨rfl,_⟩|⟨g,cap,cur,rfl,hgb,_⟩;·cases hk
        ·simp[Value.ownBlock] at hk;omega
       ·rw[aNo.left_eq,hrg.left_eq];exact hlt
end Go.Proofs
namespace Go.Vi
open Go.Proofs.YtbnhiekmnpikhaaGreat.Ir
open Go.Proofs
theorem QF {a b:bC} (d:a.bx.ok=true) (c:b.bx.ok=true):jb a b=true↔a.TM=b.TM\/¬((a.bx.meet b.bx).a0=0/\(a.bx.meet b.bx).a1=0/\(a.bx.meet b.bx).a2=0/\(a.bx.meet b.bx).a3=0/\(a.bx.meet b.bx).a4=0/\(a.bx.meet b.bx).a5=0):=by
 have d:=oz.gS.1 d;have c:=oz.gS.1 c;simp only[jb,List.any_cons,List.any_nil,Bool.or_eq_true,Bool.and_eq_true,decide_eq_true_eq,Bool.false_eq_true,or_false];simp only[oz.at,CY,CX,oz.meet];omega
def Db:NG:=⟨48,bC×bC,.cons (dD .bu) (.one (dD .bu)),λa=>a.1.bx.ok=true/\a.2.bx.ok=true,λa=> .sb (jb a.1 a.2)⟩
theorem Hy:Holds Tryz.prog Db:=by
 refine bM (L:=[Fi]) Db (λ_=>λ_=> .look) (by grind[II]) ?_;rintro⟨a,b⟩ ⟨e,f⟩;simp only at e f;refine NI (let e:=(0:Int);let d:=decide (a.TM=b.TM);let c:=a.bx.meet b.bx;(d=true->(δj true).bi (γB (jb a b)))/\(d=false->True/\(γB !(decide (c.a0=e)&&(decide (c.a1=e)&&(decide (c.a2=e)&&(decide (c.a3=e)&&(decide (c.a4=e)&&(decide (c.a5=e)&&true))))))).bi (γB (jb a b)))) (by kernel_rfl) ?_;simp only[vcs];grind[QF]
def wF (p:cj) (i:Nat) (j:Fin 8):Value:=bN (cI .bu (oI p i)) j .nilFunc
theorem Je {W:World} (o:bC):nA jK W [] [] ((dD .bu).put o).g (.agg (cI .bu o).toArray):=by
 show nA jK W [] [] (.agg ((cI .bu o).map .sc)) _;simp only[nA];exact⟨_,rfl,by simpa using tC jK W [] [] (cI .bu o) (by simp[cI,iv,Value.oneCell'])⟩
theorem QE {a b:bC} (h1:a.bx.ok=true) (h2:b.bx.ok=true) (W:World):Calls Tryz.prog 48 #[.agg (cI .bu a).toArray,.agg (cI .bu b).toArray] W λe w'=>e= .returned (.bool (jb a b))/\RowKit.Below W.heap.size W w':=by
 have hq:Holds Tryz.prog Db:=by exact Hy
 refine((hq (a,b) ⟨h1,h2⟩).2 jK W [] [.agg (cI .bu a).toArray,.agg (cI .bu b).toArray] (yj W (λb hb=>hb.elim)) ⟨_,_,rfl,Je a,_,_,rfl,Je b,rfl⟩).mono ?_;rintro e W' ⟨u,σ',rfl,_,hu,hx⟩;have hu:nA jK W' σ' [] (.sc (.bool (jb a b))) u:=hu;simp only[nA] at hu;exact⟨by rw[hu.1],NW hx⟩
theorem QC {l:List Int} {x y:Int}:oM x y l l.length=oP l x y:=by simp[oM,oP]
theorem QB {n:Nat} (v:n<=60) (W:World) (B g d:Nat) (l:List Int) (i:l.length=n) (k:W.ownsInts B 3 .i64 (.slice (some ⟨g,0,none⟩) n d) l) (x y:Int) (t:(Lit.int .i64 y).wf=true):
  Calls Tryz.prog 49 #[.slice (some ⟨g,0,none⟩) n d,.int .i64 x,.int .i64 y] W λe o=>
   ∃m a,e= .returned (.slice (some ⟨m,0,none⟩) n a)/\o.ownsInts W.heap.size 3 .i64 (.slice (some ⟨m,0,none⟩) n a) (oP l x y)/\RowKit.Below W.heap.size W o:=by
 have s:∀j (h:j<l.length),W.cell? ⟨g,j,none⟩=some (.int .i64 l[j]):=λj h=>by
  rw[xd k i (by omega)];grind[bN]
 have z:=RI g n d l i v x y t k.2 W (by have:=k.1.lt g (by simp[Value.ownBlock]);omega) s (by
  have p:Calls Tryz.prog 52 #[.slice (some ⟨g,0,none⟩) n d] W _:=MJ Tryz.tV Tryz.t3 (.int .i64 0) 1 8 (by kernel_rfl) (by kernel_rfl) (by kernel_rfl) (by kernel_rfl) (by kernel_rfl) (by omega) Tryz.sizeOf3 ⟨g,0,none⟩ n d (l.map (Value.int .i64)) W (by simp[i]) (by grind[maxLen]) (by omega) (λj u w=>by
   grind[Addr.add_lit]) (by simp[Value.oneCell']);refine p.mono ?_;rintro e o ⟨A,rfl,b,q,f⟩;have c:=b;rcases c.2 with h|⟨m,a,r,rfl,_⟩;·simp_all
  ·exact⟨m,a,rfl,⟨by rw[i];exact b,k.2⟩,f⟩);grind[QC]
theorem xc {p:cj} {i:Nat} {l:List Int}:∀{k:Nat},(k8 p i l k).length=l.length
 |0=>rfl
 |k+1=>by
  unfold k8;split;·rw[JV];exact xc
  ·exact xc
theorem B5 {p:cj}:∀{k:Nat},(lF p k).length=p.bj.length
 |0=>List.length_replicate
 |k+1=>by
  show(k8 p k _ k).length=_;rw[xc,List.length_set];exact B5
theorem xb {p:cj} {i:Nat} {l:List Int} {B:Int} (b:i<l.length) (h:∀x∈l,0<=x/\x<=B):∀{k:Nat},∀x∈k8 p i l k,0<=x/\x<=B
 |0=>h
 |k+1=>by
  intro x a;unfold k8 at a;split at a
  ·unfold oP at a;obtain⟨y,c,rfl⟩:=List.mem_map.1 a;split
   ·refine xb (p:=p) b h (k:=k) _ ?_;grind[xc,bV]
   ·exact xb b h (k:=k) y c
  ·exact xb b h (k:=k) x a
theorem Cu {p:cj}:∀{k:Nat},k<=p.bj.length->∀x∈lF p k,0<=x/\x<=p.bj.length
 |0,_=>λx a=>by
  have:=List.eq_of_mem_replicate a;omega;|k+1,b=>by
  refine xb (by grind[B5]) λx a=>?_;rcases δm a with a|rfl;·exact Cu (by omega) x a
  ·omega
theorem QA {A:de} {w:World} {B:Nat} {v:Value} {l:List Int} (e:w.ownsInts B 3 .i64 v l) (u:∀b,A b->b<B):nA A w [] [] (.sl l.length (l.map λx=>AV.sc (.int .i64 x))) v:=by
 have m:cJ (l.map λx=>AV.sc (.int .i64 x))=true:=by rw[<-lD];grind[np]
 have d:=e.1;rcases e.1.2 with⟨rfl,y⟩|⟨g,k,o,rfl,q,p,h,r,s,t⟩;·grind[nA,cF]
 ·simp only[nA];refine⟨_,_,rfl,h,m,cF.ke _ _ _ λi c a=>?_⟩;rw[γH] at a;obtain⟨x,f,rfl⟩:=ε.1 a;have n:=(ζ.1 f).1;refine⟨⟨g,0,none⟩,.int .i64 x,rfl,⟨λ⟨i,c,a⟩=>by simp at a,λj=>by grind⟩,?_,by simp[nA,Value.oneCell']⟩;rw[Addr.add_lit,Nat.zero_add,Nat.zero_add,World.ownsRow.cellAt d i (by omega),γH,f];rfl
theorem Jd (L:List (List Int)):bP (.Ap (.i .i64)) L=L.map λl=>AV.sl l.length (l.map λx=>AV.sc (.int .i64 x)):=by
 induction L with
 |nil=>rfl;|cons l L a=>
  rw[List.map_cons,<-a,<-lD];rfl
theorem Qz {w:World} {a:Addr} {v:Value} (h:w.cell? a=some v):a.block<w.heap.size:=by
 grind[World.cell?]
theorem Qy (q:Addr) (a b:Nat):(q.add a).add b=q.add (a+b):=by
 unfold Addr.add;grind
theorem Qx {p:cj} {i:Nat} (a:i<p.bj.length) (j:Fin 8):(bP .bu p.bj)[i*8+j]?=some (.sc (wF p i j)):=by
 have h:=O1 (s:=.bu) a;have b:((bP .bu p.bj).drop (i*ew.bu.sz))[(j:Nat)]?=some (.sc (wF p i j)):=by
  rw[h];obtain⟨j,c⟩:=j;have:j=0\/j=1\/j=2\/j=3\/j=4\/j=5\/j=6\/j=7:=by omega
  rcases this with rfl|rfl|rfl|rfl|rfl|rfl|rfl|rfl<;>rfl
 rwa [List.getElem?_drop] at b
def Ct:NG:=⟨29,cj,.one cV,λp=>nW p=0/\p.bj.length<=60,λp=> .row (.Ap (.i .i64)) (bG p)⟩
theorem HA:Holds Tryz.prog Ct:=by
 rintro(p:cj) ⟨hc,hn⟩;refine⟨by kernel_rfl,?_⟩;intro A w σ vs Q E;have T:σ=[]:=by have:=Q.len;simp_all
 subst T;replace E:Aq A w [] [] [.agg (gL p.ss)] vs:=E;simp only[Aq] at E;obtain⟨v,r,rfl,hv,rfl⟩:=E;simp only[nA] at hv;obtain⟨cs,rfl,C⟩:=hv;obtain⟨cs⟩:=cs;simp only[cj.ss,gL,SV.g,Aq] at C;obtain⟨x0,r0,rfl, -,x1,r1,rfl, -,x2,r2,rfl, -,x3,r3,rfl, -,x4,r4,rfl, -,x5,r5,rfl, -,x6,r6,rfl, -,x7,r7,rfl, -,x8,r8,rfl, -,x9,r9,rfl, -,J,a8,rfl, -,H,b0,rfl, -,U,a7,rfl, -,a1,b2,rfl, -,V,b4,rfl, -,a0,b5,rfl, -,I,a5,rfl, -,L,b1,rfl, -,F,a6,rfl, -,b6,b3,rfl,D,rfl⟩:=C;simp only[nA] at D;obtain⟨a,Z,rfl,a2,_,hM⟩:=D;have K:∀i,i<p.bj.length->∃q,a=some q/\q.block<w.heap.size/\∀j:Fin 8,w.cell? ((q.add (i*8)).add j)=some (wF p i j):=by
  intro i m;have hq:∀j:Fin 8,∃b,a=some b/\w.cell? (b.add (i*8+j))=some (wF p i j):=λj=>by
   obtain⟨b,v,e,_,M,a3⟩:=cF.get _ _ _ hM _ _ (Qx m j);grind[nA]
  obtain⟨q,rfl,h0⟩:=hq 0;refine⟨q,rfl,?_,λj=>?_⟩
  ·have:=Qz h0;grind[cZ]
  simp_all[Qy]
 have t:∀i:Nat,i<p.bj.length->(oI p i).bx.ok=true:=λi m=>(js hc (i:=(i:Int)) ⟨by omega,by omega⟩).2.2.1;have a4:∀k:Nat,((lF p k).set k (k:Int)).length=p.bj.length:=λk=>by grind[B5]
 have n:=RG x0 x1 x2 x3 x4 x5 x6 x7 x8 x9 J H U a1 V a0 I L F a p.bj.length Z hn (lF p) (λ_=>B5) rfl (λk s x o=>WalkArith.wf_i64 (by have:=Cu s x o;omega))
  (λk j=>k8 p k ((lF p k).set k (k:Int)) j) (λk j=>by grind[xc])
  (λk j s x o=>WalkArith.wf_i64 (by
   have:=xb (p:=p) (i:=k) (B:=p.bj.length) (by simp_all) (λx o=>by
    rcases δm o with o|rfl;·exact Cu (by omega) x o
    ·omega) (k:=j) x o;omega))
  (λk s=>rfl) (λk s=>rfl) (λi j=>jb (oI p i) (oI p j)) (λk j s hj=>rfl) (wF p) w K (λi j m hj W=>QE (t i m) (t j hj) W) (λW B g cp l X ho x y hy=>QB hn W B g cp l X ho x y hy);refine n.mono ?_;rintro e w' ⟨B,hB,z,d⟩;have hA:∀b,A b->b<B:=λb h=>γl (Q.avb b h) hB;have R:OM A w' [] []:=⟨rfl,by simp,by simp,by simp,by simp,λb h=>γl (Q.avb b h) d.size⟩;have hE:Ext w [] [] w' [] []:=⟨d.size,λb h _=>⟨d.block b h,λ⟨i,c,m⟩=>by simp at m⟩,π _,λ_ _ ⟨_,_,_,_,h,_⟩=>by simp at h,λ_ ⟨_,_,_,h⟩=>by simp at h,d.os,d.tape,d.output⟩;have e2:(Ct.res p).G= .sl (bG p).length ((bG p).map λl=>AV.sl l.length (l.map λx=>AV.sc (.int .i64 x))):=by rw[<-Jd];rfl
 have P:cJ ((bG p).map λl=>AV.sl l.length (l.map λx=>AV.sc (.int .i64 x)))=true:=by rw[<-Jd];grind[np]
 have u:bG p=(dV (lF p p.bj.length) p.bj.length).map λf=>fH (lF p p.bj.length) p.bj.length (bN (lF p p.bj.length) f.toNat 0):=Ry;rw[e2];rcases z with⟨rfl,h0⟩|⟨g,cp,Y,sv,rfl,hg,a9,h1,h2,h3,h4,h5⟩;·grind[nA,cF]
 ·have X:(bG p).length=(dV (lF p p.bj.length) p.bj.length).length:=by rw[u,Ξ]
  refine⟨_,[],rfl,R,?_,hE⟩;rw[X];simp only[nA];refine⟨_,_,rfl,h1,P,cF.ke _ _ _ λi c m=>?_⟩;rw[u,γP,γH] at m;obtain⟨f,S,rfl⟩:=ε.1 m;have N:=(ζ.1 S).1;have h9:(Y.toList.take (dV (lF p p.bj.length) p.bj.length).length)[i]?=some (sv f):=by rw[h4,γH,S];rfl
  rw[δB N,Array.getElem?_toList] at h9;refine⟨⟨g,0,none⟩,sv f,rfl,⟨λ⟨i,c,m⟩=>by simp at m,λO=>by have:=hA g O;omega⟩,?_,QA (h5 f (List.mem_of_getElem? S)) hA⟩;rw[Addr.add_lit];simp_all[World.cell?]
def Cs:NG:=⟨36,List Int×List Int,.cons (cO (.i .i64)) (.one (cO (.i .i64))),λa=>a.1.length<=1000000/\a.2.length<=1000000,λa=> .sb (decide (a.1=a.2))⟩
def Qw (x y:List Int):Nat->bJ
 |4=> .inv Int (λi=>⟨[(0,.row (.i .i64) x),(1,.row (.i .i64) y),(12,.si .i64 x.length),(13,.si .i64 i)],[]⟩)
   (λs=>iS s 13) (λi=>(0<=i/\i<=x.length)/\∀k:Nat,(k:Int)<i->bN x k 0=bN y k 0) (λi=>(x.length - i).toNat) λ_ _=> .look
 |_=> .look
theorem Hz:Holds Tryz.prog Cs:=by
 refine bM (L:=[]) Cs (λa=>Qw a.1 a.2) (by simp) ?_;rintro⟨x,y⟩ ⟨t,z⟩;simp only at t z;refine NI (let a:=(0:Int);let e:=γj .i64;let h:=δj false;let o:=(↑x.length:Int);let q:=decide (o≠(↑y.length:Int));let j:=γB (decide (x=y));let f:=γa (ew.i .i64) x;let g:=γa (ew.i .i64) y;let c:=(↑x.length:Int);let l:=e c;(q=true->(h).bi j)/\(q=false->(((f.bi f/\g.bi g/\(e o).bi l/\(γC .i64 0).bi (e 0)/\True)/\True)/\(a<=a/\a<=c)/\∀(k:Nat),(↑k:Int)<a->bN x k a=bN y k a)/\∀(b:Int),let p:=decide (bN x b.toNat a≠bN y b.toNat a);let d:=b+(1:Int);let s:=e d;((a<=b/\b<=c)/\∀(k:Nat),(↑k:Int)<b->bN x k a=bN y k a)->(decide (b<c)=true->a<=b/\b<o/\b.toNat<x.length/\a<=b/\b<(↑y.length:Int)/\b.toNat<y.length/\(p=true->(h).bi j)/\(p=false->VL .i64 d/\((f.bi f/\g.bi g/\l.bi l/\s.bi s/\True)/\True)/\((a<=d/\d<=c)/\∀(k:Nat),(↑k:Int)<d->bN x k a=bN y k a)/\(c - d).toNat<(c - b).toNat))/\(decide (b<c)=false->(δj true).bi j))) (by kernel_rfl) ?_;simp only[vcs];refine⟨λh=>(decide_eq_false λe=>h (by rw[e])).symm,λh=>⟨⟨by omega,λk w=>by omega⟩,?_⟩⟩;rintro i ⟨⟨r,D⟩,w⟩;refine⟨λn=>⟨r,n,by omega,r,by omega,by omega,λm=>(decide_eq_false λe=>m (by rw[e])).symm,λB=>⟨by omega,⟨by omega,λk u=>?_⟩,by omega⟩⟩,λv=>?_⟩;·grind
 ·refine(decide_eq_true (List.ext_getElem (by omega) λk A C=>?_)).symm;grind[bV]
@[reducible] def cG:ew:=.pair (.Ap (.i .i64)) (.pair (.i .i64) (.Ap (.pair (.i .i64) (.pair (.i .i64) (.pair (.i .i64) (.pair (.i .i64) (.Ap (.pair .b (.pair (.Ap (.i .u32)) (.Ap (.i .u32)))))))))))
def ff (l:List (List Int)) (r:List cG.T) (n:Nat):List Int:=(cz n).flatMap λi=>fz (bN l i.toNat []) (bN r i.toNat cG.bw).1
def gu (r:List cG.T) (n:Nat):Int:=((r.take n).map λx=>x.2.1).sum
def kh (l:List (List Int)) (r:List cG.T) (i j:Int):List Int:=ff l r i.toNat++fz (bN l i.toNat []) ((bN r i.toNat cG.bw).1.take j.toNat)
def B4:NG:=⟨34,List (List Int)×List cG.T,.cons (cO (.Ap (.i .i64))) (.one (cO cG)),λa=>(a.2.length<=a.1.length/\a.1.length<=1000)/\(∀n:Nat,n<=a.2.length->(ff a.1 a.2 n).length<=100000/\ -9000000000000000000<=gu a.2 n/\gu a.2 n<=9000000000000000000)/\∀i:Nat,i<a.2.length->∀k∈(bN a.2 i cG.bw).1,0<=k/\k<(bN a.1 i []).length,
 λa=>kp.put ⟨dp (ff a.1 a.2 a.2.length),gu a.2 a.2.length⟩⟩
def Qv (l:List (List Int)) (r:List cG.T):Nat->bJ
 |3=> .inv Int (λi=>⟨[(0,.row (.Ap (.i .i64)) l),(4,.ptr 0 0 2),(5,.ptr 1 0 2),(10,.row cG r),(11,.si .i64 r.length),(12,.si .i64 i)],[.cells [.sc (.slice none 0 0),.il .i64 0] 40 2 false,.cells [.ow 2 (ff l r i.toNat).length 1,.si .i64 (gu r i.toNat)] 40 2 false,.row (.i .i64) (ff l r i.toNat) 3 true]⟩)
   (λs=>iS s 12) (λi=>0<=i/\i<=r.length) (λi=>(r.length - i).toNat) λi=>λ
   |7=> .inv Int (λj=>⟨[(0,.row (.Ap (.i .i64)) l),(4,.ptr 0 0 2),(5,.ptr 1 0 2),(6,.si .i64 i),(10,.row cG r),(11,.si .i64 r.length),(12,.si .i64 i),(26,.row (.i .i64) (bN r i.toNat cG.bw).1),(27,.si .i64 (bN r i.toNat cG.bw).1.length),(28,.si .i64 j)],
      [.cells [.sc (.slice none 0 0),.il .i64 0] 40 2 false,.cells [.ow 2 (kh l r i j).length 1,.si .i64 (gu r (i+1).toNat)] 40 2 false,.row (.i .i64) (kh l r i j) 3 true,.cells [.row (.i .i64) (bN r i.toNat cG.bw).1,.si .i64 (bN r i.toNat cG.bw).2.1,.row (.pair (.i .i64) (.pair (.i .i64) (.pair (.i .i64) (.pair (.i .i64) (.Ap (.pair .b (.pair (.Ap (.i .u32)) (.Ap (.i .u32))))))))) (bN r i.toNat cG.bw).2.2] 51 3 false]⟩)
     (λs=>iS s 28) (λj=>0<=j/\j<=(bN r i.toNat cG.bw).1.length) (λj=>((bN r i.toNat cG.bw).1.length - j).toNat) λ_ _=> .look
   |_=> .look
 |_=> .look
theorem yF:Holds Tryz.prog B4:=by
 refine j6 (L:=[]) (W:=fT [Kb]) B4 (λa=>Qv a.1 a.2) (kd (by grind[y6])) (by simp) ?_;rintro⟨l,r⟩ ⟨⟨h1,h2⟩,Y,h4⟩;simp only at h1 h2 Y h4;refine NI (let a:=γj .i64;let d:=(0:Int);let j:=γa;let k:=iZ.cells;let s:=iZ.row;let u:=γ1;let v:=VL .i64;let c:=ew.i .i64;let F:=γV 0 0 2;let D:=γV 1 0 2;let t:=(↑r.length:Int);let E:=a t;let X:=γC .i64 0;let C:=k [SV.sc (Value.slice none 0 0),X] 40 2 false;let y:=(ew.i .u32).Ap;let G:=c.pair (c.pair (c.pair (c.pair (ew.b.pair (y.pair y)).Ap)));((((j c.Ap l).bi (j c.Ap l)/\F.bi F/\D.bi D/\(j cG r).bi (j cG r)/\E.bi E/\X.bi (a 0)/\True)/\C.bi C/\(k [u 2 0 1,X] 40 2 false).bi (k [u 2 (ff l r 0).length 1,a (gu r 0)] 40 2 false)/\(s c [] 3 true).bi (s c (ff l r 0) 3 true)/\True)/\d<=d/\d<=t)/\∀(x:Int),let J:=bN r x.toNat cG.bw;let M:=gu r x.toNat+J.2.1;let o:=j c J.1;let f:=(↑(γd J.1):Int);let z:=a f;let q:=ff l r x.toNat;let p:=q.length;let O:=kh l r x d;let g:=x+(1:Int);let n:=[a (gu r g.toNat)];let A:=k [o,a J.2.1,j G J.2.2] 51 3 false;let H:=bN l x.toNat c.Ap.bw;let P:=a g;d<=x/\x<=t->(decide (x<t)=true->d<=x/\x<t/\x.toNat<r.length/\v M/\((((j c.Ap l).bi (j c.Ap l)/\F.bi F/\D.bi D/\(a x).bi (a x)/\(j cG r).bi (j cG r)/\E.bi E/\(a x).bi (a x)/\o.bi o/\z.bi z/\X.bi (a 0)/\True)/\C.bi C/\(k [u 2 p 1,a M] 40 2 false).bi (k (u 2 O.length 1::n) 40 2 false)/\(s c q 3 true).bi (s c O 3 true)/\A.bi A/\True)/\d<=d/\d<=f)/\∀(e:Int),let w:=bN J.1 e.toNat d;let m:=kh l r x e;let V:=m.length+1;let h:=e+(1:Int);let B:=a x;let Q:=a h;let S:=m++[bN H w.toNat d];d<=e/\e<=f->(decide (e<f)=true->d<=e/\e<f/\e.toNat<γd J.1/\d<=x/\x<(↑l.length:Int)/\x.toNat<l.length/\d<=w/\w<(↑H.length:Int)/\w.toNat<H.length/\1=1/\m.length=m.length/\V*8<=140737488355328/\V<=1000000000000/\v h/\(((j c.Ap l).bi (j c.Ap l)/\F.bi F/\D.bi D/\B.bi B/\(j cG r).bi (j cG r)/\E.bi E/\B.bi B/\o.bi o/\z.bi z/\Q.bi Q/\True)/\C.bi C/\(k (u 2 S.length 1::n) 40 2 false).bi (k (u 2 (kh l r x h).length 1::n) 40 2 false)/\(s c S 3 true).bi (s c (kh l r x h) 3 true)/\A.bi A/\True)/\(d<=h/\h<=f)/\(f - h).toNat<(f - e).toNat)/\(decide (e<f)=false->v g/\(((j c.Ap l).bi (j c.Ap l)/\F.bi F/\D.bi D/\(j cG r).bi (j cG r)/\E.bi E/\P.bi P/\True)/\C.bi C/\(k (u 2 m.length 1::n) 40 2 false).bi (k (u 2 (ff l r g.toNat).length 1::n) 40 2 false)/\(s c m 3 true).bi (s c (ff l r g.toNat) 3 true)/\True)/\(d<=g/\g<=t)/\(t - g).toNat<(t - x).toNat))/\(decide (x<t)=false->(p=p/\p<=1000000)/\p=(dp q).length/\(γN [j c (dp q),a (gu r x.toNat)]).bi (γN [j c (dp (ff l r r.length)),a (gu r r.length)]))) (by kernel_rfl) ?_;simp only[vcs];have k:∀{a b:Nat} {v u:Int},a=b->v=u->(iZ.cells [γ1 2 a 1,γj .i64 v] 40 2 false).bi (iZ.cells [γ1 2 b 1,γj .i64 u] 40 2 false):=by rintro _ _ _ _ rfl rfl;rfl
 have I:∀{x y:List Int},x=y->(iZ.row (.i .i64) x 3 true).bi (iZ.row (.i .i64) y 3 true):=by rintro _ _ rfl;rfl
 refine⟨⟨⟨rfl,rfl⟩,by omega⟩,?_⟩;rintro i ⟨i0,i1⟩;refine⟨λa0=>?_,λa3=>?_⟩
 ·have hc:=Y i.toNat (by omega);have a5:=Y (i+1).toNat (by omega);have hv:gu r (i+1).toNat=gu r i.toNat+(bN r i.toNat cG.bw).2.1:=by
   grind[gu,ji]
  have K:ff l r (i+1).toNat=ff l r i.toNat++fz (bN l i.toNat []) (bN r i.toNat cG.bw).1:=by
   grind[ff,qm]
  have U:kh l r i 0=ff l r i.toNat:=by simp[kh,fz]
  have hk:=h4 i.toNat (by omega);have a4:γd (bN r i.toNat cG.bw).1<=100000:=by
   grind[fz]
  have a1:∀j:Int,(kh l r i j).length<=100000:=λj=>by
   have h5:(kh l r i j).length<=(ff l r (i+1).toNat).length:=by
    rw[K];unfold kh fz;simp only[γh,Ξ,List.length_take];omega
   omega
  refine⟨i0,a0,by omega,by omega,⟨⟨k (by rw[U]) hv.symm,I U.symm⟩,by omega,by omega⟩,?_⟩;rintro j ⟨j0,j1⟩;refine⟨λG=>?_,λa2=>?_⟩
  ·have s:=hk (bN (bN r i.toNat cG.bw).1 j.toNat 0) (cA (by omega));have Z:kh l r i j++[bN (bN l i.toNat []) (bN (bN r i.toNat cG.bw).1 j.toNat 0).toNat 0]=kh l r i (j+1):=by
    unfold kh fz;rw[ji (d:=(0:Int)) j0 G,γb,γG];rfl
   have a6:=a1 j;have T:(bN (bN r i.toNat cG.bw).1 j.toNat 0).toNat<(bN l i.toNat []).length:=by
    exact(Int.toNat_lt s.1).2 s.2
   have N:kh l r i j++[bN (bN l i.toNat (ew.i IntKind.i64).Ap.bw) (bN (bN r i.toNat cG.bw).1 j.toNat 0).toNat 0]=kh l r i (j+1):=Z;rw[N];refine⟨j0,G,?_,i0,?_,?_,s.1,s.2,T,?_,?_,?_,⟨k rfl rfl,I rfl⟩,?_,?_⟩<;>omega
  ·have R:kh l r i j=ff l r (i+1).toNat:=by
    rw[K];unfold kh;rw[show j.toNat=(bN r i.toNat cG.bw).1.length by omega,φ]
   exact⟨by omega,⟨k (by rw[R]) rfl,I R⟩,by omega,by omega⟩
 ·rw[show i.toNat=r.length by omega];have:=(Y r.length (π _)).1;exact⟨by omega,(pE).symm,rfl⟩
def xa:NG:=⟨12,cj,.one cV,λp=>nW p≠0\/p.bj.length<=60,λp=> .Gz [.row (.Ap (.i .i64)) (if nW p=0 then bG p else[]),.si .i64 (nW p)]⟩
theorem tX:Holds Tryz.prog xa:=by
 refine bM (L:=[mV,Ct]) xa lk (by grind[oi,HA]) ?_;rintro(p:cj) (e:nW p≠0\/p.bj.length<=60);refine NI (let e:=(0:Int);let f:=γa;let g:=SV.Gz;let b:=decide (nW p≠e);let d:=[γj .i64 (nW p)];let c:=(ew.i .i64).Ap;let a:=g (f c (if nW p=e then bG p else[])::d);True/\(b=true->(g (f (ew.i .i64) []::d)).bi a)/\(b=false->(nW p=e/\p.bj.length<=60)/\(g [f c (bG p),γC .i64 0]).bi a)) (by kernel_rfl) ?_;simp only[vcs];refine⟨λh=>?_,λh=>?_⟩
 ·rw[if_neg h];rfl
 simp_all
noncomputable def uN (p:cj) (c:List Int):cG.T:=((M9 (cH p c)).bn,(M9 (cH p c)).value,oQ (cH p c))
noncomputable def dG (p:cj):List cG.T:=(bG p).map (uN p)
noncomputable def jC (p:cj):List Int:=dp (ff (bG p) (dG p) (dG p).length)
noncomputable def jV (p:cj):Int:=gu (dG p) (dG p).length
def B3 (p:cj):Prop:=nW p≠0\/(p.bj.length<=60/\∀c∈bG p,c.length<=15)
noncomputable def B2:NG:=⟨19,cj,.one cV,B3,
 λp=> .Gz [.agg [.row (.i .i64) (if nW p=0 then jC p else[]),.si .i64 (if nW p=0 then jV p else 0),.row cG (if nW p=0 then dG p else[])],.si .i64 (nW p)]⟩
theorem Cr {p:cj}:∀{n:Nat},n<=(bG p).length->ff (bG p) (dG p) n=((bG p).take n).flatMap λc=>fz c (M9 (cH p c)).bn
 |0,_=>by simp[ff,cz];|n+1,h=>by
  have b:=Cr (p:=p) (n:=n) (by omega);have a:ff (bG p) (dG p) (n+1)=ff (bG p) (dG p) n++fz (bN (bG p) n []) (bN (dG p) n cG.bw).1:=by
   grind[ff,qm]
  have d:bN (dG p) n cG.bw=uN p (bN (bG p) n []):=by
   grind[bV,dG]
  rw[a,b,d,γ2 (show n<(bG p).length by omega),List.flatMap_append,bV (by omega)];simp[uN]
theorem Jc {p:cj} {n:Nat}:gu (dG p) n=(((bG p).take n).map λc=>(M9 (cH p c)).value).sum:=by
 unfold gu dG;rw[<-ζE,γP];rfl
theorem Jb {f:List Int->List Int}:∀{L:List (List Int)},(∀c∈L,(f c).length<=160)->(L.flatMap f).length<=160*L.length
 |[],_=>by simp;|c::L,h=>by
  have b:=h c (γv ..);have e:=Jb (L:=L) λd a=>h d (γp _ a);grind
theorem Ja {f:List Int->Int}:∀{L:List (List Int)},(∀c∈L,0<=f c/\f c<=160000000)->0<=(L.map f).sum/\(L.map f).sum<=160000000*L.length
 |[],_=>by simp;|c::L,h=>by
  have b:=h c (γv ..);have e:=Ja (L:=L) λd a=>h d (γp _ a);grind
theorem Cq {p:cj} {i:Nat} (a:i<(bG p).length):bN (dG p) i cG.bw=uN p (bN (bG p) i []):=by
 grind[bV,dG]
theorem I_ {p:cj} (b:nW p=0):(∀n:Nat,n<=(dG p).length->(ff (bG p) (dG p) n).length<=2000/\ -9000000000000000<=gu (dG p) n/\gu (dG p) n<=9000000000000000)/\
  ∀i:Nat,i<(dG p).length->∀k∈(bN (dG p) i cG.bw).1,0<=k/\k<(bN (bG p) i []).length:=by
 have l:(dG p).length=(bG p).length:=Ξ _;have g:=Di b;have m:=(cL b).1;have a:∀c∈bG p,nW (cH p c)=0:=λc h=>BC b (uR h);refine⟨λn r=>?_,λi q k d=>?_⟩
 ·rw[Cr (by omega),Jc];have s:=Jb (f:=λc=>fz c (M9 (cH p c)).bn) (L:=(bG p).take n) λc h=>by
   grind[fz,xh]
  have e:=Ja (f:=λc=>(M9 (cH p c)).value) (L:=(bG p).take n) λc h=>(xh (a c (List.mem_of_mem_take h))).2.2.1;grind
 ·have e:=Cq (p:=p) (i:=i) (by omega);have j:bN (bG p) i []∈bG p:=cA (by omega);rw[e] at d;have o:=(qg.1 (oR (a _ j)).1.1).2 k d;grind[uS]
theorem Qu {p:cj} (b:nW p=0):jC p=(M9 p).bn/\jV p=(M9 p).value:=by
 have a:(dG p).length=(bG p).length:=Ξ _;unfold jC jV;rw[Cr (by omega),Jc,a,φ];exact⟨QW b,(QZ b).symm⟩
noncomputable def QS (p:cj):Nat->bJ
 |6=> .inv Int (λi=>⟨[(1,.ptr 0 0 20),(2,.ptr 1 0 3),(4,.row (.Ap (.i .i64)) (if nW p=0 then bG p else[])),(6,.ow 2 ((dG p).take i.toNat).length 3),(20,.row (.Ap (.i .i64)) (if nW p=0 then bG p else[])),(21,.si .i64 (if nW p=0 then bG p else[]).length),(22,.si .i64 i)],
    [.cells p.ss 27 20 false,.cells [.sc (.slice none 0 0),.il .i64 0,.sc (.slice none 0 0)] 43 3 false,.row cG ((dG p).take i.toNat) 51 false]⟩)
   (λs=>iS s 22) (λi=>0<=i/\i<=(if nW p=0 then bG p else[]).length) (λi=>((if nW p=0 then bG p else[]).length - i).toNat) λ_ _=> .look
 |_=> .look
theorem yH:Holds Tryz.prog B2:=by
 refine bM (L:=[xa,xe,C2,B4]) B2 (λp=>QS p) (by grind[tX,tW,H8,yF]) ?_;rintro(p:cj) K;refine NI (let c:=γj .i64;let d:=(0:Int);let e:=γa;let h:=iZ.row;let u:=SV.Gz;let v:=γN;let U:=decide (nW p≠d);let g:=ew.i .i64;let H:=γC .i64 0;let R:=v [e g [],H,e g []];let S:=[c (nW p)];let M:=u (v [e g (if nW p=d then jC p else[]),c (if nW p=d then jV p else d),e cG (if nW p=d then dG p else[])]::S);let J:=γV 0 0 20;let I:=γV 1 0 3;let m:=if nW p=d then bG p else[];let X:=γ1 2 0 3;let l:=(↑(if nW p=d then bG p else[]).length:Int);let t:=c l;let r:=iZ.cells [c p.bm.a0,c p.bm.a1,c p.bm.a2,c p.bm.a3,c p.bm.a4,c p.bm.a5,c p.bs.a0,c p.bs.a1,c p.bs.a2,c p.bs.a3,c p.bs.a4,c p.bs.a5,c p.bt.a0,c p.bt.a1,c p.bt.a2,c p.bt.a3,c p.bt.a4,c p.bt.a5,e g p.bk,e ew.bu p.bj] 27 20 false;let A:=SV.sc (Value.slice none 0 0);let q:=iZ.cells [A,H,A] 43 3 false;let w:=(ew.i .u32).Ap;let z:=g.Ap.pair (g.pair (g.pair (g.pair (g.pair (g.pair (ew.b.pair (w.pair w)).Ap)))).Ap);(nW p≠d\/p.bj.length<=60)/\(U=true->(u (R::S)).bi M)/\(U=false->(((J.bi J/\I.bi I/\(e g.Ap m).bi (e g.Ap m)/\X.bi X/\(e g.Ap m).bi (e g.Ap m)/\(c (↑m.length:Int)).bi t/\H.bi (c 0)/\True)/\r.bi r/\q.bi q/\(h z [] 51 false).bi (h cG [] 51 false)/\True)/\d<=d/\d<=l)/\∀(x:Int),let s:=bN m x.toNat g.Ap.bw;let f:=cH p s;let F:=decide (nW f≠d);let j:=Δ x.toNat (dG p);let a:=j.length;let o:=x+(1:Int);let D:=j++[(if nW f=d then(M9 f).bn else[],if nW f=d then(M9 f).value else d,if nW f=d then oQ f else[])];let C:=Δ o.toNat (dG p);let y:=c o;d<=x/\x<=l->(decide (x<l)=true->d<=x/\x<(↑m.length:Int)/\x.toNat<m.length/\((∀(i:Int),i∈s->d<=i/\i<(↑p.bj.length:Int))/\s.length<=1000/\p.bk.length<=1000)/\(nW f≠d\/f.bj.length<=15)/\(F=true->(u [R,c (nW f)]).bi M)/\(F=false->a=a/\(a+1)*56<=140737488355328/\a+1<=1000000000000/\VL .i64 o/\((J.bi J/\I.bi I/\(e g.Ap m).bi (e g.Ap m)/\(γ1 2 D.length 3).bi (γ1 2 C.length 3)/\(e g.Ap m).bi (e g.Ap m)/\t.bi t/\y.bi y/\True)/\r.bi r/\q.bi q/\(h z D 51 false).bi (h cG C 51 false)/\True)/\(d<=o/\o<=l)/\(l - o).toNat<(l - x).toNat))/\(decide (x<l)=false->a=a/\((a<=m.length/\m.length<=1000)/\(∀(n:Nat),n<=a->(ff m j n).length<=100000/\(-9000000000000000000:Int)<=gu j n/\gu j n<=(9000000000000000000:Int))/\∀(i:Nat),i<a->∀(k:Int),k∈(bN j i cG.bw).1->d<=k/\k<(↑(bN m i []).length:Int))/\(u [v [e g (dp (ff m j a)),c (gu j a),e cG j],H]).bi M))) (by kernel_rfl) ?_;simp only[vcs];replace K:B3 p:=K;refine⟨K.imp id (·.1),λh=>?_,λh=>?_⟩
 ·rw[if_neg h,if_neg h,if_neg h];rfl
 ·have v:=γe.1 h;obtain⟨a6,P⟩:=K.resolve_left h;simp only[if_pos v];have a8:=Di v;have a7:=(cL v).1;refine⟨by omega,?_⟩;rintro i ⟨V,i1⟩;refine⟨λE=>?_,λZ=>?_⟩
  ·have Q:Δ i.toNat (dG p)++[uN p (bN (bG p) i.toNat [])]=Δ (i+1).toNat (dG p):=by
    unfold dG;rw[<-ζE,<-ζE,ji (d:=[]) V E,γb];rfl
   have u:bN (bG p) i.toNat []∈bG p:=cA (by omega);have N:bN (bG p) i.toNat (ew.i IntKind.i64).Ap.bw=bN (bG p) i.toNat []:=rfl;rw[N];generalize bN (bG p) i.toNat []=c at Q u ⊢;have W:=uR u;have G:=BC v W;have B:=P c u;have e:(((M9 (cH p c)).bn,(M9 (cH p c)).value,oQ (cH p c)):cG.T)=uN p c:=rfl;simp only[if_pos G];rw[e,Q];have Y:=List.length_take_le i.toNat (dG p);have O:(dG p).length=(bG p).length:=Ξ _;refine⟨V,E,by omega,⟨W.2,by omega,by omega⟩,.inr (by rw[uS];exact B),λh=>absurd G h,λ_=>⟨by omega,by omega,by omega,⟨rfl,rfl⟩,by omega,by omega⟩⟩
  ·have O:(dG p).length=(bG p).length:=Ξ _;obtain⟨j1,j2⟩:=I_ v;rw[show i.toNat=(dG p).length by omega,φ];exact⟨⟨⟨by omega,by omega⟩,λn hn=>by have:=j1 n hn;omega,j2⟩,rfl,v.symm⟩
@[reducible] def Qh:ew:=.pair (.Ap (.i .i64)) (.pair (.i .i64) (.Ap cG))
def iU (p:cj) (r:List cG.T):Nat->Int
 |0=>0
 |n+1=>if iU p r n≠0 then iU p r n else re (cH p (bN (bG p) n [])) (bN r n cG.bw)
def po (p:cj) (x:List Int×Int×List cG.T):Int:=if nW p≠0 then nW p else if x.2.2.length≠(bG p).length then 2 else if iU p x.2.2 x.2.2.length≠0 then iU p x.2.2 x.2.2.length else
 if gu x.2.2 x.2.2.length≠x.2.1\/dp (ff (bG p) x.2.2 x.2.2.length)≠x.1 then 13 else 0
def w_ (p:cj) (x:List Int×Int×List cG.T):Prop:=(nW p≠0\/p.bj.length<=60)/\x.1.length<=1000000/\(nW p=0->x.2.2.length=(bG p).length->(∀i:Nat,i<x.2.2.length->(bN x.2.2 i cG.bw).1.length<=1000000000000/\(bT (cH p (bN (bG p) i [])) (bN x.2.2 i cG.bw).1=0->cB (cH p (bN (bG p) i [])) (bN x.2.2 i cG.bw).1=(bN x.2.2 i cG.bw).2.1->s7 (cH p (bN (bG p) i [])) (bN x.2.2 i cG.bw).2.1 (bN x.2.2 i cG.bw).2.2))/\
 (iU p x.2.2 x.2.2.length=0->(∀n:Nat,n<=x.2.2.length->(ff (bG p) x.2.2 n).length<=100000/\ -9000000000000000000<=gu x.2.2 n/\gu x.2.2 n<=9000000000000000000)/\∀i:Nat,i<x.2.2.length->∀k∈(bN x.2.2 i cG.bw).1,0<=k/\k<(bN (bG p) i []).length))
theorem I9 {p:cj} {r:List cG.T} {n:Nat} (h:iU p r n≠0):∀{m:Nat},n<=m->iU p r m=iU p r n
 |0,a=>by simp_all;|m+1,a=>by
  by_cases e:n=m+1;·rw[e]
  ·have b:=I9 h (m:=m) (by omega);simp_all[iU]
def B1:NG:=⟨21,cj×List Int×Int×List cG.T,.cons cV (.one (dD Qh)),λa=>w_ a.1 a.2,λa=> .si .i64 (po a.1 a.2)⟩
def QR (p:cj) (x:List Int×Int×List cG.T):Nat->bJ
 |7=> .inv Int (λi=>⟨[(2,.ptr 0 0 20),(3,.ptr 1 0 3),(5,.row (.Ap (.i .i64)) (if nW p=0 then bG p else[])),(25,.row (.Ap (.i .i64)) (if nW p=0 then bG p else[])),(26,.si .i64 (if nW p=0 then bG p else[]).length),(27,.si .i64 i)],
    [.cells p.ss 27 20 false,.cells [.row (.i .i64) x.1,.si .i64 x.2.1,.row cG x.2.2] 43 3 false]⟩)
   (λs=>iS s 27) (λi=>(0<=i/\i<=(if nW p=0 then bG p else[]).length)/\iU p x.2.2 i.toNat=0) (λi=>((if nW p=0 then bG p else[]).length - i).toNat) λ_ _=> .look
 |_=> .look
theorem yG:Holds Tryz.prog B1:=by
 refine bM (L:=[xa,xe,C_,B4,Cs]) B1 (λa=>QR a.1 a.2) (by grind[tX,tW,HV,yF,Hz]) ?_;rintro⟨p,c,v,r⟩ hd;refine NI (let a:=γj .i64;let h:=(0:Int);let m:=γa;let q:=γC .i64;let d:=if nW p=h then bG p else[];let P:=(↑d.length:Int);let Z:=decide (nW p≠h);let z:=a (po p (c,v,r));let K:=γV 0 0 20;let J:=γV 1 0 3;let f:=ew.i .i64;let o:=(↑(if nW p=h then bG p else[]).length:Int);let O:=a o;let C:=q 0;let l:=iZ.cells [a p.bm.a0,a p.bm.a1,a p.bm.a2,a p.bm.a3,a p.bm.a4,a p.bm.a5,a p.bs.a0,a p.bs.a1,a p.bs.a2,a p.bs.a3,a p.bs.a4,a p.bs.a5,a p.bt.a0,a p.bt.a1,a p.bt.a2,a p.bt.a3,a p.bt.a4,a p.bt.a5,m f p.bk,m ew.bu p.bj] 27 20 false;let j:=iZ.cells [m f c,a v,m cG r] 43 3 false;let F:=decide (gu r r.length≠v);let t:=dp (ff d r r.length);let w:=λ(u:Bool) ↦decide ((↑r.length:Int)≠P)=u;(nW p≠h\/p.bj.length<=60)/\(Z=true->(a (nW p)).bi z)/\(Z=false->(w true->(q 2).bi z)/\(w false->(((K.bi K/\J.bi J/\(m f.Ap d).bi (m f.Ap d)/\(m f.Ap d).bi (m f.Ap d)/\(a P).bi O/\C.bi (a 0)/\True)/\l.bi l/\j.bi j/\True)/\(h<=h/\h<=o)/\iU p r 0=h)/\∀(x:Int),let s:=bN d x.toNat f.Ap.bw;let g:=cH p s;let b:=bN r x.toNat cG.bw;let D:=re g (b.1,b.2.1,b.2.2);let e:=x+(1:Int);let E:=a e;let I:=λ(u:Bool) ↦decide (D≠h)=u;(h<=x/\x<=o)/\iU p r x.toNat=h->(decide (x<o)=true->h<=x/\x<P/\x.toNat<d.length/\((∀(i:Int),i∈s->h<=i/\i<(↑p.bj.length:Int))/\s.length<=1000/\p.bk.length<=1000)/\h<=x/\x<(↑r.length:Int)/\x.toNat<r.length/\(γd b.1<=1000000000000/\(bT g b.1=h->cB g b.1=b.2.1->s7 g b.2.1 b.2.2))/\(I true->(a D).bi z)/\(I false->VL .i64 e/\((K.bi K/\J.bi J/\(m f.Ap d).bi (m f.Ap d)/\(m f.Ap d).bi (m f.Ap d)/\O.bi O/\E.bi E/\True)/\l.bi l/\j.bi j/\True)/\((h<=e/\e<=o)/\iU p r e.toNat=h)/\(o - e).toNat<(o - x).toNat))/\(decide (x<o)=false->((r.length<=d.length/\d.length<=1000)/\(∀(n:Nat),n<=r.length->(ff d r n).length<=100000/\(-9000000000000000000:Int)<=gu r n/\gu r n<=(9000000000000000000:Int))/\∀(i:Nat),i<r.length->∀(k:Int),k∈(bN r i cG.bw).1->h<=k/\k<(↑(bN d i []).length:Int))/\(F=true->(q 13).bi z)/\(F=false->(t.length<=1000000/\c.length<=1000000)/\((!decide (t=c))=true->(q 13).bi z)/\((!decide (t=c))=false->C.bi z)))))) (by kernel_rfl) ?_;simp only[vcs];obtain⟨y,H,G⟩:=(hd:w_ p (c,v,r));simp only at y H G;refine⟨y,λh=>by simp_all[po],λh=>?_⟩;have M:nW p=0:=γe.1 h;simp only[if_pos M];refine⟨λhl=>?_,λhl=>⟨⟨by omega,rfl⟩,?_⟩⟩
 ·have q:r.length≠(bG p).length:=by omega
  simp_all[po]
 have R:r.length=(bG p).length:=by omega
 obtain⟨hw,hj⟩:=G M R;have w:po p (c,v,r)=if iU p r r.length≠0 then iU p r r.length else if gu r r.length≠v\/dp (ff (bG p) r r.length)≠c then 13 else 0:=by
  simp_all[po]
 have X:=Di M;have a9:=(cL M).1;have a6:=y.resolve_left h;rintro i ⟨⟨Y,i1⟩,N⟩;refine⟨λS=>?_,λa7=>?_⟩
 ·have hs:iU p r (i+1).toNat=re (cH p (bN (bG p) i.toNat [])) (bN r i.toNat cG.bw):=by
   rw[show(i+1).toNat=i.toNat+1 by omega];show(if iU p r i.toNat≠0 then iU p r i.toNat else _)=_;rw[if_neg (by rw[N];exact λh=>h rfl)]
  have T:=hw i.toNat (by omega);have U:bN (bG p) i.toNat []∈bG p:=cA (by omega);have V:bN (bG p) i.toNat (ew.i IntKind.i64).Ap.bw=bN (bG p) i.toNat []:=rfl;rw[V];have W:=uR U;have a8:=qk W;refine⟨Y,S,by omega,⟨W.2,by omega,by omega⟩,Y,by omega,by omega,T,λB=>?_,λB=>⟨by omega,⟨by omega,?_⟩,by omega⟩⟩
  ·have q:iU p r (i+1).toNat≠0:=by rw[hs];exact B
   have A:=I9 q (m:=r.length) (by omega);rw[w,if_pos (by rw[A];exact q),A,hs]
  simp_all
 ·have Q:i.toNat=r.length:=by omega
  rw[Q] at N;obtain⟨j1,j2⟩:=hj N;have b0:(ff (bG p) r r.length).length<=100000:=(j1 r.length (π _)).1;rw[if_neg (by rw[N];exact λh=>h rfl)] at w;rw[w];refine⟨⟨⟨by omega,by omega⟩,j1,j2⟩,λB=>(if_pos (.inl B)).symm,λB=>⟨⟨by rw[pE];omega,H⟩,λq=>(if_pos (.inr q)).symm,λq=>(if_neg ?_).symm⟩⟩;rintro(A|A);·exact B A
  ·exact A q
def pn (p:cj):Bool:=decide (p.bk.length<=8)&&(decide (p.bj.length<=12)&&decide (nW p=0))
def Cp:NG:=⟨18,cj,.one cV,λ_=>True,λp=> .sb (pn p)⟩
theorem HC:Holds Tryz.prog Cp:=by
 refine bM (L:=[za]) Cp lk (by grind[I2]) ?_;intro(p:cj) _;refine NI (let c:=δj false;let d:=γB;let b:=decide ((↑p.bk.length:Int)<=(8:Int));let a:=decide ((↑p.bj.length:Int)<=(12:Int));(b=true->(a=true->True/\(d (decide (nW p=(0:Int)))).bi (d (pn p)))/\(a=false->(c).bi (d (pn p))))/\(b=false->(c).bi (d (pn p)))) (by kernel_rfl) ?_;simp only[vcs,pn];grind
def ef:cj:=⟨⟨1,1,0,0,0,0⟩,⟨1,1,0,0,0,0⟩,.zero,[0,0],[⟨0,⟨1,0,0,0,0,0⟩,5⟩,⟨1,⟨0,1,0,0,0,0⟩,7⟩]⟩
def Co:NG:=⟨27,Unit,.nil,λ_=>True,λ_=>cV.put ef⟩
theorem HB:Holds Tryz.prog Co:=by
 refine bM (L:=[]) Co lk (by simp) ?_;intro _ _;refine NI (let d:=γj .i64;let e:=(0:Int);let f:=γa;let g:=(1:Int);let c:=γC .i64 1;let a:=γC .i64 0;let b:=ef.bm;(γN [c,c,a,a,a,a,c,c,a,a,a,a,a,a,a,a,a,a,f (ew.i .i64) [e,e],f ew.bu [bC.mk e (oz.mk g e e e e e) (5:Int),bC.mk g (oz.mk e g e e e e) (7:Int)]]).bi (γN [d b.a0,d b.a1,d b.a2,d b.a3,d b.a4,d b.a5,d ef.bs.a0,d ef.bs.a1,d ef.bs.a2,d ef.bs.a3,d ef.bs.a4,d ef.bs.a5,d ef.bt.a0,d ef.bt.a1,d ef.bt.a2,d ef.bt.a3,d ef.bt.a4,d ef.bt.a5,f (ew.i .i64) ef.bk,f ew.bu ef.bj])) (by kernel_rfl) ?_;conv=>zeta
 try simp only[vcs]
 try rfl
theorem I8 {p:cj} (hc:nW p=0) (h60:p.bj.length<=60) (h15:∀c∈bG p,c.length<=15):
  w_ p (jC p,jV p,dG p)/\po p (jC p,jV p,dG p)=0/\∀n:Nat,n<=(bG p).length->iU p (dG p) n=0:=by
 have hpl:(dG p).length=(bG p).length:=Ξ _;have hpc:∀i,i<(bG p).length->nW (cH p (bN (bG p) i []))=0/\(cH p (bN (bG p) i [])).bj.length<=15:=λi hi=>by
  have hm:bN (bG p) i []∈bG p:=cA hi;exact⟨BC hc (uR hm),by rw[uS];exact h15 _ hm⟩
 have hk:∀n:Nat,n<=(bG p).length->iU p (dG p) n=0:=by
  intro n;induction n with
  |zero=>exact λ_=>rfl;|succ n ih=>
   intro hn;show(if iU p (dG p) n≠0 then iU p (dG p) n else _)=0;rw[if_neg (by rw[ih (by omega)];exact λh=>h rfl),Cq (by omega)];obtain⟨a,b⟩:=hpc n (by omega);exact SF a b
 obtain⟨j1,j2⟩:=I_ hc;have hjl:(jC p).length<=2000:=by unfold jC;rw[pE];exact(j1 _ (π _)).1
 refine⟨⟨.inr h60,by simp only;omega,λ_ _=>⟨λi hi=>?_,λ_=>⟨λn hn=>by have:=j1 n hn;simp only;omega,j2⟩⟩⟩,?_,hk⟩
 ·simp only at hi ⊢;obtain⟨a,b⟩:=hpc i (by omega);have hbi:=xh a;rw[Cq (by omega)];exact⟨by have:=hbi.2.2.2;show(M9 _).bn.length<=_;omega,λ_ _=>(JX a b).1 _ (by have:=hbi.2.2.1;show _<=(M9 _).value/\(M9 _).value<=_;omega)⟩
 ·unfold po;rw[if_neg (by simp[hc]),if_neg (by simp[hpl]),if_neg (by simp[hpl,hk _ (π _)]),if_neg (by simp[jC,jV])]
theorem QQ:nW ef=0:=by kernel_rfl
theorem I7:bG ef=[[0],[1]]:=by kernel_rfl
theorem QP:ff (bG ef) (dG ef) (dG ef).length=[0,1]:=by kernel_rfl
theorem I6:jC ef=[0,1]:=by
 unfold jC;rw[QP];exact List.mergeSort_of_pairwise (by simp)
theorem QO:bD (jC ef) [0,1]=0:=by
 rw[I6];rfl
theorem QN:oN ef [1]=0:=by kernel_rfl
def Cm:NG:=⟨11,Unit,.nil,λ_=>True,λ_=> .sb true⟩
theorem HE:Holds Tryz.prog Cm:=by
 refine bM (L:=[Co,xa,B2,Df,y_,B1]) Cm lk (by grind[HB,tX,yH,HD,I1,yG]) ?_;intro _ _;refine NI (let a:=δj false;let e:=γB;let f:=(0:Int);let g:=(1:Int);let b:=(jC ef,jV ef,dG ef);let d:=decide (bD (jC ef) [f,g]=f);let c:=λ(u:Bool) ↦decide (po ef b=f)=u;True/\(nW ef≠f\/ef.bj.length<=60)/\True/\B3 ef/\True/\1<=1000000000000/\(true=true->(true=true->(true=true->(true=true->((jC ef).length<=1000000000000/\2<=1000000000000)/\(d=true->(true=true->True/\w_ ef b/\(c true->(true=true->(true=true->f<=f/\f<g/\0<(mr ef [g]).bj.length/\(e true).bi (e true))/\(true=false->(a).bi (e true)))/\(true=false->(a).bi (e true)))/\(c false->(a).bi (e true)))/\(true=false->(a).bi (e true)))/\(d=false->(a).bi (e true)))/\(true=false->(a).bi (e true)))/\(true=false->(a).bi (e true)))/\(true=false->(a).bi (e true)))/\(true=false->(a).bi (e true))) (by kernel_rfl) ?_;simp only[vcs];have e:=I8 QQ (by decide) (by grind[I7]);have g:(jC ef).length=2:=by grind[I6]
 have a:true=false->false=true:=λh=>by cases h
 have f:(mr ef [1]).bj.length=1:=by
  unfold mr;rw[if_pos QN];rfl
 exact⟨.inr (by decide),.inr ⟨by decide,by grind[I7]⟩,by omega,λ_=>⟨λ_=>⟨λ_=>⟨λ_=>⟨⟨by omega,by omega⟩,λ_=>⟨λ_=>⟨e.1,λ_=>⟨λ_=>⟨λ_=>⟨by omega,by omega,by omega⟩,a⟩,a⟩,λh=>absurd e.2.1 h⟩,a⟩,λh=>absurd QO h⟩,a⟩,a⟩,a⟩,a⟩
theorem I5 {p:cj} (h:pn p=true):nW p=0/\p.bj.length<=12/\p.bk.length<=8:=by
 simp_all[pn]
theorem QM {p:cj} (h:pn p=true):∀c∈bG p,c.length<=12:=λc a=>δ3 (qk (uR a)) (I5 h).2.1
noncomputable def Cl:NG:=⟨5,cj,.one cV,λ_=>True,λ_=> .sb true⟩
theorem HF:Holds Tryz.prog Cl:=by
 refine bM (L:=[Cp,Cm,B2,D9,y_,B1]) Cl lk (by grind[HC,HE,yH,H9,I1,yG]) ?_;intro(p:cj) _;refine NI (let a:=(0:Int);let b:=δj false;let c:=γB;let d:=if nW p=a then jC p else[];let g:=if nW p=a then jV p else a;let j:=(d,g,if nW p=a then dG p else[]);let l:=decide (nW p=a);let k:=decide (g=(M9 p).value);let n:=decide (bD d (M9 p).bn=a);let f:=λ(u:Bool) ↦decide (po p j=a)=u;True/\((!pn p)=true->True/\(c true).bi (c true))/\((!pn p)=false->B3 p/\nW p=a/\(l=true->(k=true->(d.length<=1000000000000/\(M9 p).bn.length<=1000000000000)/\(n=true->w_ p j/\(f true->True/\(c true).bi (c true))/\(f false->(b).bi (c true)))/\(n=false->(b).bi (c true)))/\(k=false->(b).bi (c true)))/\(l=false->(b).bi (c true)))) (by kernel_rfl) ?_;simp only[vcs];refine⟨λ_=>trivial,λh=>?_⟩;obtain⟨a,q,_⟩:=I5 h;have b:∀c∈bG p,c.length<=15:=λc s=>by grind[QM]
 obtain⟨o,i,_⟩:=I8 a (by omega) b;have t:=(xh a).2.2.2;obtain⟨e,m⟩:=Qu a;rw[e,m] at o i;have r:=FP (M9 p).bn;simp only[if_pos a,e,m];refine⟨.inr ⟨?_,b⟩,a,λ_=>⟨λ_=>⟨⟨?_,?_⟩,λ_=>⟨o,λ_=>trivial,λh=>absurd i h⟩,λh=>absurd r h⟩,λh=>absurd trivial h⟩,λh=>absurd a h⟩<;>omega
end Go.Vi
