/-
  The coalitions that were considered: the walk of Considered (a range over a map, a sort).
  Conditions: none.
-/
import Derived.Shelf.SlSortCmp.NoneTotal
import Derived.WalkKit
import Derived.WalkSpells
import Derived.Laws.Pointers
import Derived.Maps.OwnOps
import Derived.Maps.RangeWalk
import Derived.Maps.Ext
import Derived.Test.YtddpfdamlefbgaaGreatSF08
import Derived.Test.YtddpfdamlefbgaaGreatSF06
import Derived.Test.YtddpfdamlefbgaaGreatSF07
import Derived.Test.YtddpfdamlefbgaaGreatSF10
import Derived.Maps.OwnSet
import Derived.Test.YtddpfdamlefbgaaGreatSF09
set_option maxRecDepth 100000
set_option maxHeartbeats 4000000
set_option linter.all false
namespace Go.Proofs
open Go.RowKit Go.Maps Go.ChangeShapes Go.Sort Go.Shelf Go.Lib
theorem coa_info:(Tryz.prog.info? 41).map (fun i=>(i.zero,i.size,i.bytes))=some (some (.agg #[.int .i64 0,.int .i64 0]),2,16):=by kernel_rfl
theorem coa_z64 (w:World):(zeroValue 2).run Tryz.prog w= .ok (.int .i64 0) w:=by kernel_rfl
theorem coa_law:Keyed Tryz.prog 3:=int_keyed Tryz.underlying3
def encC (wf:Nat→Int) (x:Fin 256):List Value:=[.int .i64 (x.val:Int),.int .i64 (wf x.val)]
theorem coa_cmp (a b u v:Int) (h0:0≤a) (h1:a<256) (g0:0≤b) (g1:b<256) (W:World):
  Calls Tryz.prog 37 #[.agg #[.int .i64 a,.int .i64 u],.agg #[.int .i64 b,.int .i64 v]] W fun e w'=>e= .returned (.int .i64 (a - b))∧∃q os',w'=grow (W.drewN q) os':=by
 go_enter Tryz.func37,Tryz.ntmps37
 go_wp2
 go_ret
 exact⟨rfl,0,_,by rw[alloc_eq_grow,alloc_eq_grow,grow_grow];rfl⟩
theorem cell_two (w:World) (a b:Value) (t:TypeId):∀j u,[a,b][j]?=some u→(w.alloc (.cells #[a,b] t)).cell? ((⟨w.heap.size,0,none⟩:Addr).add j)=some u:=by
 intro j u hj
 have hh:(w.alloc (.cells #[a,b] t)).heap[w.heap.size]?=some (.cells #[a,b] t (0,0)):=heap_alloc_new w _
 rw[Addr.add_lit]
 simp only[World.cell?,hh,Nat.zero_add,Option.isSome_none,Bool.false_eq_true,if_false]
 match j,hj with
 |0,hj=>simpa using hj
 |1,hj=>simpa using hj
 |j+2,hj=>simp at hj
structure Seen (D:DataW Unit) (ks:List Nat) (left:Lit→Bool) (cnt:Nat) (hs:List (Fin 256)):Prop where
 d:hs.Nodup
 i:∀x∈hs,x.val∈ks∧left (.int .i64 (x.val:Int))=false
 a:∀m∈ks,left (.int .i64 (m:Int))=false→∃x∈hs,x.val=m
 c:hs.length+cnt≤256
 h:∀kl,left kl=true→Maps.has D kl=true
theorem Seen.step {D:DataW Unit} {ks:List Nat} {left:Lit→Bool} {cnt:Nat} {hs:List (Fin 256)} (h:Seen D ks left cnt hs) {x:Fin 256} (hx:x.val∈ks) (hl:left (.int .i64 (x.val:Int))=true) {cnt':Nat} (hc:cnt'<cnt):
  Seen D ks (fun z=>left z&&!z.sameKey (.int .i64 (x.val:Int))) cnt' (hs++[x]):=by
 have hsk:∀m:Nat,(Lit.int .i64 (m:Int)).sameKey (.int .i64 (x.val:Int))=decide (m=x.val):=fun m=>by
  simp[Lit.sameKey]
  omega
 refine⟨?_,?_,?_,?_,?_⟩
 ·rw[List.nodup_append]
  refine⟨h.d,by simp,?_⟩
  intro a ha b hb hab
  simp at hb
  subst hb
  subst hab
  rw[(h.i _ ha).2] at hl
  cases hl
 ·intro y hy
  rcases List.mem_append.1 hy with hy|hy
  ·refine⟨(h.i y hy).1,?_⟩
   rw[(h.i y hy).2]
   rfl
  ·simp at hy
   subst hy
   refine⟨hx,?_⟩
   rw[hsk,hl]
   simp
 ·intro m hm hlm
  rw[hsk] at hlm
  by_cases he:m=x.val
  ·exact⟨x,by simp,he.symm⟩
  ·rw[decide_eq_false he] at hlm
   simp at hlm
   obtain⟨y,hy,hv⟩:=h.a m hm hlm
   exact⟨y,by simp[hy],hv⟩
 ·have:=h.c
  simp
  omega
 ·intro kl hk
  simp only[Bool.and_eq_true] at hk
  exact h.h kl hk.1
theorem holdsV {w:World} {g:Nat} {cur:Array Value} {e:TypeId} {vs:Array Value} (hb:w.heap[g]?=some (.cells cur e (0,0))) (ht:cur.toList.take vs.size=vs.toList):Sort.Holds id w g 0 vs:=by
 intro j hj
 refine⟨?_,by simp[World.frozen?,hb]⟩
 have h1:(cur.toList.take vs.size)[j]?=vs.toList[j]?:=by rw[ht]
 rw[List.getElem?_take_of_lt hj] at h1
 simp only[World.cell?,hb,Nat.zero_add]
 simp only[Option.isSome_none,Bool.false_eq_true,if_false]
 rw[←Array.getElem?_toList,h1]
 simp[hj]
theorem heap_sortedV {w:World} {g n:Nat} {os:Array Obj} {cur:Array Value} {e:TypeId} {fr:Nat×Nat} (d:Array Value) (hb:w.heap[g]?=some (.cells cur e fr)):
  (grow (putRow id (Sort.ahead w n) g 0 d) os).heap[g]?=some (.cells (putCells id 0 d cur) e fr):=by
 have hg:g<w.heap.size:=(Array.getElem?_eq_some_iff.1 hb).1
 rw[heap_grow_old _ _ (by simpa using hg)]
 simp[putRow,mapBlock,Sort.ahead,Array.getElem?_modify,hb,onCells]
theorem grownBy_sortedV {w:World} {g n:Nat} {os:Array Obj} (d:Array Value):w.grownBy (grow (putRow id (Sort.ahead w n) g 0 d) os) (some g):=by
 refine⟨rfl,rfl,rfl,by simp,fun k hk hne=>?_⟩
 rw[heap_grow_old _ _ (by simpa using hk)]
 have:g≠k:=fun e=>hne (by rw[e])
 simp[putRow,mapBlock,Sort.ahead,Array.getElem?_modify,this]
theorem take_putCellsV (cur d:Array Value) (h:d.size≤cur.size):(putCells id 0 d cur).toList.take d.size=d.toList:=by
 apply List.ext_getElem?
 intro j
 by_cases hj:j<d.size
 ·rw[List.getElem?_take_of_lt hj,Array.getElem?_toList]
  simp[putCells,hj,show j<cur.size by omega]
 ·rw[List.getElem?_take_eq_none (by omega),List.getElem?_eq_none (by simp;omega)]
theorem flat_len (wf:Nat→Int):∀hs:List (Fin 256),(hs.flatMap (encC wf)).length=hs.length*2
 |[]=>rfl
 |x::hs=>by rw[List.flatMap_cons,List.length_append,flat_len wf hs];simp[encC];omega
theorem flat_get (wf:Nat→Int):∀(hs:List (Fin 256)) (t:Nat),t<hs.length*2→(hs.flatMap (encC wf))[t]?=some ((encC wf hs[t / 2]!)[t % 2]!)
 |[],t,h=>by simp at h
 |x::hs,0,h=>by simp[encC]
 |x::hs,1,h=>by simp[encC]
 |x::hs,t+2,h=>by
  have ih:=flat_get wf hs t (by simp at h;omega)
  have e1:(t+2) / 2=t / 2+1:=by omega
  have e2:(t+2) % 2=t % 2:=by omega
  rw[e1,e2,List.flatMap_cons]
  simp only[encC,List.cons_append,List.nil_append,List.getElem?_cons_succ]
  simp only[encC] at ih
  rw[ih]
  simp
theorem flatK_list (wf:Nat→Int) (hs:List (Fin 256)):(flatK (encC wf) 2 hs.toArray).toList=hs.flatMap (encC wf):=by
 apply List.ext_getElem?
 intro t
 by_cases ht:t<hs.length*2
 ·rw[flat_get wf hs t ht]
  simp[flatK,ht]
 ·rw[List.getElem?_eq_none (by simp[flatK];omega),List.getElem?_eq_none (by rw[flat_len];omega)]
def cfC (x y:Fin 256):Int:=(x.val:Int) - (y.val:Int)
theorem cfC_lt (x y:Fin 256):ltOf cfC x y=decide (x.val<y.val):=by
 unfold ltOf cfC
 by_cases h:x.val<y.val
 ·rw[decide_eq_true h,decide_eq_true (by omega)]
 ·rw[decide_eq_false h,decide_eq_false (by omega)]
theorem cfC_swo:SWO (ltOf cfC) where
 irrefl x:=by rw[cfC_lt];simp
 trans x y z h1 h2:=by rw[cfC_lt] at*;simp at*;omega
 ntrans x y z h1 h2:=by rw[cfC_lt] at*;simp at*;omega
theorem cfC_lays (wf:Nat→Int) (blk off size:Nat) (w:World):CmpLays Tryz.prog 37 #[] (encC wf) 2 cfC blk off size w:=
 fun _ _ _ _ x y=>coa_cmp _ _ _ _ (by omega) (by have:=x.isLt;omega) (by omega) (by have:=y.isLt;omega) _
def ConRow (w':World) (B:Nat) (wf:Nat→Int) (ks:List Nat) (e:Ending):Prop:=
 (e= .returned (.slice none 0 0)∧ks=[])∨∃(g cap:Nat) (cur:Array Value) (ts:List (Fin 256)),e= .returned (.slice (some ⟨g,0,none⟩) ts.length cap)∧B≤g∧w'.heap[g]?=some (.cells cur 41 (0,0))∧ts.length≤cap∧cap≤maxLen∧
  cur.size=cap*2∧cur.toList.take (ts.length*2)=ts.flatMap (encC wf)∧ts.Nodup∧(∀m,(∃x∈ts,x.val=m)↔m∈ks)∧ts.Pairwise fun x y=>x.val≤y.val
theorem cons_walk (w:World) (b0 b1 b2:Nat) (arr:Array Value) (hb0:w.heap[b0]?=some (.cells arr 70 (0,0))) (h22:arr[22]?=some (.map (some b1))) (h23:arr[23]?=some (.map (some b2)))
  (n1 n2:Nat) (hn2:n2≤256) (D1 D2:DataW Unit) (hm1:w.ownsMap Tryz.prog 3 (plainElem Tryz.prog 2) b1 n1 D1) (hm2:w.ownsMap Tryz.prog 3 (plainElem Tryz.prog 4) b2 n2 D2)
  (wf:Nat→Int) (hwf:∀m:Nat,m<256→D1.atKey (.int .i64 m) (.lit (.int .i64 0))= .lit (.int .i64 (wf m)))
  (ks:List Nat) (hk:ks.Nodup) (hkb:∀m∈ks,m<256) (hh:∀kl,Maps.has D2 kl=true↔∃m∈ks,kl= .int .i64 (m:Int)):
  Calls Tryz.prog 11 #[.pointer (some ⟨b0,0,none⟩)] w fun e w'=>Below w.heap.size w w'∧ConRow w' w.heap.size wf ks e:=by
 have hbl:b0<w.heap.size:=(Array.getElem?_eq_some_iff.1 hb0).1
 have c22:w.cell? ⟨b0,22,none⟩=some (.map (some b1)):=by simp only[World.cell?,hb0];simpa using h22
 have c23:w.cell? ⟨b0,23,none⟩=some (.map (some b2)):=by simp only[World.cell?,hb0];simpa using h23
 obtain⟨i0,hi,hz0,hz1,hz2⟩:=info_parts coa_info
 have hb1:=hm1.lt
 have hb2:=hm2.lt
 go_enter Tryz.func11,Tryz.ntmps11
 go_wp2_with (first
  |(at_range;refine wpList_range_own _ rfl _ 68 rfl 3 4 coa_law Tryz.underlying68 _ b2 n2 _ rfl hm2 ?_;intro w5 hrg0 hg0 hs0)
  |go_in)
 go_frame
 go_loopw [3] (fun u ws=>∃(left:Lit→Bool) (cnt:Nat) (hs:List (Fin 256)),ws.ranges Tryz.prog 3 (plainElem Tryz.prog 4) b2 w.heap.size n2 D2 left cnt∧
   ws.ownsRow (w.heap.size+1) 41 2 u hs.length (hs.flatMap (encC wf))∧Seen D2 ks left cnt hs∧w.heap.size+1≤ws.heap.size∧Below w.heap.size w ws)
  (fun _ ws=>ws.rangeLeft b2 w.heap.size)
 case atStart=>
  refine⟨Maps.has D2,Maps.size D2,[],hrg0,⟨by simp,.inl ⟨rfl,rfl⟩⟩,⟨List.nodup_nil,by simp,?_,?_,fun _ h=>h⟩,by omega,(Below.refl _ w).grown hg0 (Nat.le_refl _) (by intro k hk;cases hk)⟩
  ·intro m hm hl
   rw[(hh _).2 ⟨m,hm,rfl⟩] at hl
   cases hl
  ·have:=hm2.size_le
   simp
   omega
 case round=>
  obtain⟨left,cnt,hs,hrg,hrow,hse,hsz,hbe⟩:=hrel
  go_wp2_with (first
   |(at_next;refine wpList_next_ranges _ rfl _ rfl 3 coa_law (plainElem Tryz.prog 4) (Value.int .i64) (fun c:Nat=>Value.bool (Nat.beq c 1)) (fun key kl hkey=>by obtain⟨x,rfl,_⟩:=Maps.keyOf_int_inv Tryz.underlying3 hkey;exact⟨x,rfl⟩) (fun v y hv=>by
     unfold plainElem at hv
     rw[Tryz.underlying4] at hv
     cases v<;>simp at hv
     rename_i q
     cases q
     ·exact⟨0,rfl⟩
     ·exact⟨1,rfl⟩) b2 w.heap.size n2 _ _ _ rfl hrg ?_ ?_)
   |go_in)
  ·intro hc0 hl0
   have eg:∀args w,(callFunc 37 args).run Tryz.prog w= .ok (.enter 37 args) w:=enters_of Tryz.func37 (by kernel_rfl) rfl
   have hmem:∀m,(∃x∈hs,x.val=m)↔m∈ks:=fun m=>⟨fun⟨x,hx,e⟩=>e▸(hse.i x hx).1,fun hm=>hse.a m hm (hl0 _)⟩
   rcases hrow.2 with⟨rfl,hn⟩|⟨g,cap,cur,rfl,hgb,hgg,g1,g2,g3,g4⟩
   ·have hcal:=AnyF.slices_SortFunc_none Tryz.layQ none 0 (.func (.func 37) #[] #[]) wr
    change Calls Tryz.prog 36 _ _ _ at hcal
    go_wp2_with (go_at_call 36;refine hcal.mono ?_;rintro e w' ⟨rfl,rfl⟩)
    go_ret
    refine⟨hbe,.inl ⟨rfl,?_⟩⟩
    rw[List.eq_nil_iff_forall_not_mem]
    intro m hm
    obtain⟨x,hx,_⟩:=(hmem m).2 hm
    rw[List.eq_nil_of_length_eq_zero hn] at hx
    simp at hx
   ·have hcal:=AnyQ.slices_SortFunc_total Tryz.layQ 2 (by intro w;kernel_rfl) (by intro w;kernel_rfl) (encC wf) (fun _=>rfl) (fun x v hv=>by simp[encC] at hv;rcases hv with rfl|rfl<;>rfl) cfC cfC_swo 37 #[] g 0 cap hs.toArray wr eg (cfC_lays wf g 0 _ wr)
     (holdsV hgg (by rw[flatK_list,size_flatK];simpa using g4)) (Array.getElem?_eq_some_iff.1 hgg).1 (by have:=hse.c;simp;omega) (fun x y h1 h2=>by rw[cfC_lt] at h1 h2;simp at h1 h2;exact Fin.ext (by omega))
    change Calls Tryz.prog 36 _ _ _ at hcal
    simp only[List.size_toArray] at hcal
    go_wp2_with (go_at_call 36;refine hcal.mono ?_;rintro e w' ⟨rfl,n,os,rfl⟩)
    go_ret
    have hpm:=List.mergeSort_perm hs fun x y=>!ltOf cfC y x
    have hso:(hs.mergeSort fun x y=>!ltOf cfC y x).Pairwise fun x y=>x.val≤y.val:=by
     have h:=List.pairwise_mergeSort (le:=fun x y=>!ltOf cfC y x) (fun x y z h1 h2=>by simp only[cfC_lt] at*;simp at*;omega) (fun x y=>by simp only[cfC_lt];simp;omega) hs
     exact h.imp fun {x y} h=>by simp only[cfC_lt] at h;simp at h;omega
    generalize (hs.mergeSort fun x y=>!ltOf cfC y x)=ts at hpm hso ⊢
    have hlen:ts.length=hs.length:=hpm.length_eq
    have hsz2:(flatK (encC wf) 2 ts.toArray).size=ts.length*2:=by simp
    have hcap:hs.length≤cap:=g1
    refine⟨hbe.grown (grownBy_sortedV (flatK (encC wf) 2 ts.toArray)) hbe.size (by intro k hk;injection hk with hk;omega),.inr ⟨g,cap,_,ts,by rw[hlen];rfl,by omega,heap_sortedV _ hgg,by omega,g2,by simp[putCells,g3],?_,hpm.nodup_iff.2 hse.d,fun m=>?_,hso⟩⟩
    ·rw[←hsz2,take_putCellsV _ _ (by rw[hsz2];omega),flatK_list]
    ·rw[←hmem m]
     exact⟨fun⟨x,hx,e⟩=>⟨x,hpm.mem_iff.1 hx,e⟩,fun⟨x,hx,e⟩=>⟨x,hpm.mem_iff.2 hx,e⟩⟩
  ·intro x c kl yd yp w6 cnt1 hkx hlx hRc hat hrg1 hlt hg1 hs1 hen
   obtain⟨_,e1,rfl,hwx⟩:=Maps.keyOf_int_inv Tryz.underlying3 hkx
   cases e1
   obtain⟨m,hm,em⟩:=(hh _).1 (hse.h _ hlx)
   injection em with _ em
   subst em
   have hm256:=hkb m hm
   have hrow1:=hrow.kept hg1 (by
    rcases hrow.2 with⟨rfl,_⟩|⟨g,cap,cur,rfl,hgb,_⟩
    ·exact .inl rfl
    ·right
     simp[Value.ownBlock]
     omega)
   have hbe1:Below w.heap.size w w6:=hbe.grown hg1 hbe.size (by intro k hk;injection hk with hk;omega)
   have hc22:w6.cell? ⟨b0,22,none⟩=some (.map (some b1)):=(hbe1.cell hbl).trans c22
   have hmw:w6.ownsMap Tryz.prog 3 (plainElem Tryz.prog 2) b1 n1 D1:=by
    obtain⟨es,cl,q1,q2⟩:=hm1
    exact⟨es,cl,(hbe1.block b1 hb1).trans q1,q2⟩
   have hcc:=hse.c
   go_wp2_with (first
    |(at_lookup;refine wpList_lookup_own_int _ rfl _ _ 67 rfl 3 2 .i64 coa_law Tryz.underlying67 Tryz.underlying2 (coa_z64 _) b1 n1 _ rfl hmw _ _ rfl (keyOf_int_mk Tryz.underlying3 hwx) ?_;intro cv hatc hwc)
    |(at_builtin;refine wpList_append_own _ rfl _ _ 57 rfl (w.heap.size+1) 41 i0 _ 2 16 Tryz.underlying57 hi hz0 hz1 hz2 rfl (by decide) _ _ _ rfl (hrow1.alloc _) ⟨wr.heap.size,0,none⟩ 1 1 [Value.int .i64 m,Value.int .i64 cv] rfl rfl (by rw[←hs1];exact cell_two _ _ _ _) (by simp[Value.oneCell']) (by unfold maxLen;omega) (by omega) (by simp;omega) ?_;intro v' w7 hrow7 hgrow7 hnil7)
    |go_in)
   have hg7:(w6.alloc (Obj.cells #[Value.int .i64 m,Value.int .i64 cv] 41)).grownBy w7 u3.ownBlock:=hgrow7
   have hrw:some b2≠u3.ownBlock∧some w.heap.size≠u3.ownBlock:=by
    rcases hrow.2 with⟨rfl,_⟩|⟨g,cap,cur,rfl,hgb,_⟩
    ·exact⟨by simp[Value.ownBlock],by simp[Value.ownBlock]⟩
    ·exact⟨by simp[Value.ownBlock];omega,by simp[Value.ownBlock];omega⟩
   have hrg7:=(hrg1.alloc (Obj.cells #[Value.int .i64 m,Value.int .i64 cv] 41)).kept hg7 hrw.1 hrw.2
   have hcv:cv=wf m:=by
    have h:=(hwf m hm256).symm.trans hatc
    injection h with h
    injection h with _ h
    exact h.symm
   subst hcv
   have hsz7:=hg7.size
   have hsa:(w6.alloc (Obj.cells #[Value.int .i64 m,Value.int .i64 (wf m)] 41)).heap.size=w6.heap.size+1:=by simp
   have hbs:=hbe.size
   refine⟨⟨_,cnt1,hs++[⟨m,hm256⟩],hrg7,?_,hse.step (x:=⟨m,hm256⟩) hm hlx hlt,by omega,(hbe1.alloc (by omega) _).grown hg7 (by omega) ?_⟩,?_⟩
   ·rw[List.length_append,List.flatMap_append]
    exact hrow7
   ·intro k hk
    rcases hrow.2 with⟨rfl,_⟩|⟨g,cap,cur,rfl,hgb,_⟩
    ·cases hk
    ·simp[Value.ownBlock] at hk;omega
   ·rw[hrg7.left_eq,hrg.left_eq]
    exact hlt
end Go.Proofs
namespace Go.Vi
open Go.Proofs.YtddpfdamlefbgaaGreat.Ir
open Go.Proofs Go.RowKit Go.Maps Go.ChangeShapes Go.WideShapes
open Go.WideElems (Fit rd rg pl rd_key rd_val rg_of rd_mk)
theorem map_fit {w:World} {e:TypeId} {V:Type} {gv:V→Value} {gl:V→Lit} {es:List (Int×V)} {b cl:Nat} {en:Array MapEntry} (he:∀p∈es,plainElem (H:=Unit) Tryz.prog e (gv p.2)=some (.lit (gl p.2),[]))
  (hb:w.heap[b]?=some (.map en cl)) (hsz:en.size=es.length) (hst:Go.MapKept.Stamped en cl) (hlen:es.length≤1000)
  (hen:∀(j:Nat) (p:Int×V),es[j]?=some p→∃m:MapEntry,en[j]?=some m∧m.key= .int .i64 p.1∧m.val=gv p.2) (hk:∀p∈es,0≤p.1∧p.1<256):
  ∃D:DataW Unit,w.ownsMap Tryz.prog 3 (plainElem Tryz.prog e) b es.length D∧(∀kl,Maps.has D kl=true↔∃p∈es,kl= .int .i64 p.1)∧
   ∀(k:Int) zd,0≤k→k<256→(∃v,(k,v)∈es∧D.atKey (.int .i64 k) zd= .lit (gl v))∨((∀p∈es,p.1≠k)∧D.atKey (.int .i64 k) zd=zd):=by
 have hwf:∀k:Int,0≤k→k<256→keyOf Tryz.prog 3 (.int .i64 k)=some (.int .i64 k):=fun k h0 h1=>keyOf_int_mk Tryz.underlying3 (WalkArith.wf_i64 (by omega))
 have hrd:∀x∈en.toList,∃p∈es,x.key= .int .i64 p.1∧x.val=gv p.2∧rd Tryz.prog 3 (plainElem (H:=Unit) Tryz.prog e) x=some (.int .i64 p.1,.lit (gl p.2)):=by
  intro x hx
  obtain⟨j,hj⟩:=List.getElem?_of_mem hx
  rw[Array.getElem?_toList] at hj
  have hjl:j<es.length:=by have:=(Array.getElem?_eq_some_iff.1 hj).1;omega
  obtain⟨m,hm,h1,h2⟩:=hen j es[j] (List.getElem?_eq_getElem hjl)
  rw[hm] at hj
  injection hj with hj
  subst hj
  have hp:=List.getElem_mem hjl
  refine⟨_,hp,h1,h2,?_⟩
  obtain⟨k0,k1⟩:=hk _ hp
  obtain⟨mk,mv,mb⟩:=m
  simp only at h1 h2
  subst h1;subst h2
  exact rd_mk (hwf _ k0 k1) (he _ hp)
 have hF:Fit Tryz.prog 3 (plainElem (H:=Unit) Tryz.prog e) en cl:=⟨by have:maxLen=9223372036854775807:=rfl;omega,hst,fun x hx=>by obtain⟨p,_,_,_,h⟩:=hrd x hx;exact⟨_,h⟩⟩
 have hmem:∀p∈es,∃x∈en.toList,x.key= .int .i64 p.1∧x.val=gv p.2:=by
  intro p hp
  obtain⟨j,hj⟩:=List.getElem?_of_mem hp
  obtain⟨m,hm,h1,h2⟩:=hen j p hj
  exact⟨m,List.mem_of_getElem? (by rw[Array.getElem?_toList];exact hm),h1,h2⟩
 refine⟨_,⟨en,cl,hb,hF,by omega,rfl⟩,fun kl=>?_,fun k zd k0 k1=>?_⟩
 ·rw[Maps.has_eq,List.any_eq_true]
  constructor
  ·rintro⟨p,hp,hpk⟩
   obtain⟨x,hx,rfl⟩:=List.mem_map.1 (mem_sorted.1 hp)
   obtain⟨q,hq,_,_,hr⟩:=hrd x hx
   rw[rg_of hr] at hpk
   exact⟨q,hq,(WideAt.sameKey_eq hpk).symm⟩
  ·rintro⟨p,hp,rfl⟩
   obtain⟨x,hx,h1,_⟩:=hmem p hp
   obtain⟨q,hq,h3,_,hr⟩:=hrd x hx
   refine⟨rg Tryz.prog 3 (plainElem (H:=Unit) Tryz.prog e) x,mem_sorted.2 (List.mem_map.2 ⟨x,hx,rfl⟩),?_⟩
   rw[rg_of hr]
   rw[h1] at h3
   injection h3 with _ h3
   rw[h3]
   simp[Lit.sameKey]
 ·have hz:(zeroValue 2).run Tryz.prog w= .ok (.int .i64 0) w:=coa_z64 w
  have hat:=atKey_sorted (en.toList.map (rg Tryz.prog 3 (plainElem (H:=Unit) Tryz.prog e))) (fit_rising coa_law hF) (.int .i64 k) (coa_law.key (hwf k k0 k1))
  by_cases hex:∃p∈es,p.1=k
  ·left
   obtain⟨p,hp,rfl⟩:=hex
   obtain⟨x,hx,h1,h2⟩:=hmem p hp
   obtain⟨q,hq,h3,h4,hr⟩:=hrd x hx
   have e1:p.1=q.1:=by rw[h1] at h3;injection h3
   refine⟨q.2,by rw[e1];exact hq,?_⟩
   have:=hat.2 (rg Tryz.prog 3 (plainElem (H:=Unit) Tryz.prog e) x) (List.mem_map.2 ⟨x,hx,rfl⟩) (by rw[rg_of hr,e1])
   rw[rg_of hr] at this
   exact this zd
  ·right
   refine⟨fun p hp he=>hex ⟨p,hp,he⟩,hat.1 (fun p hp e1=>?_) zd⟩
   obtain⟨x,hx,rfl⟩:=List.mem_map.1 hp
   obtain⟨q,hq,_,_,hr⟩:=hrd x hx
   rw[rg_of hr] at e1
   injection e1 with _ e1
   exact hex ⟨q,hq,e1⟩
def wfF (x:FnF) (m:Nat):Int:=(findT (.i .i64) (.i .i64) (m:Int) x.wor).getD 0
def conS (x:FnF):List Need:=(sortI (x.seen.map (·.1))).map fun m=>⟨m,wfF x m.toNat⟩
structure seenOk (x:FnF):Prop where
 n:(x.seen.map (·.1)).Nodup
 u:(x.wor.map (·.1)).Nodup
 s:x.seen.length≤256
 w:x.wor.length≤256
 a:∀e∈x.seen,0≤e.1∧e.1<256
 b:∀e∈x.wor,(0≤e.1∧e.1<256)∧0≤e.2∧e.2≤1000000000000000
theorem find_mem1 {es:List (Int×Int)} (hn:(es.map (·.1)).Nodup) {k v:Int} (h:(k,v)∈es):findT (.i .i64) (.i .i64) k es=some v:=by
 induction es with
 |nil=>simp at h
 |cons p es ih=>
  simp only[List.map_cons,List.nodup_cons] at hn
  unfold findT
  rcases List.mem_cons.1 h with rfl|h2
  ·simp
  ·have hne:p.1≠k:=fun e=>hn.1 (by rw[e];exact List.mem_map.2 ⟨_,h2,rfl⟩)
   rw[List.find?_cons_of_neg (by simpa using hne)]
   exact ih hn.2 h2
theorem find_none1 {es:List (Int×Int)} {k:Int} (h:∀p∈es,p.1≠k):findT (.i .i64) (.i .i64) k es=none:=by
 unfold findT
 rw[Option.map_eq_none_iff,List.find?_eq_none]
 intro p hp
 simpa using h p hp
theorem con_sort {hs:List Int} {ts:List (Fin 256)} (hn:hs.Nodup) (ht:ts.Nodup) (hm:∀m,(∃x∈ts,x.val=m)↔m∈hs.map (·.toNat)) (hp:ts.Pairwise fun x y=>x.val≤y.val) (h0:∀m∈hs,0≤m):
  ts.map (fun x=>(x.val:Int))=sortI hs:=by
 have h1:(ts.map fun x=>(x.val:Int)).Pairwise (·≤·):=by
  rw[List.pairwise_map]
  exact hp.imp fun h=>by omega
 have h2:(sortI hs).Pairwise (·≤·):=(List.pairwise_mergeSort (le:=fun x y:Int=>decide (x≤y)) (fun a b c=>by simp;omega) (fun a b=>by simp;omega) hs).imp fun h=>by simpa using h
 have hperm:(ts.map fun x=>(x.val:Int)).Perm hs:=by
  refine(List.perm_ext_iff_of_nodup ?_ hn).2 fun m=>?_
  ·unfold List.Nodup at ht ⊢
   rw[List.pairwise_map]
   exact ht.imp fun h he=>h (Fin.ext (by omega))
  ·rw[List.mem_map]
   constructor
   ·rintro⟨x,hx,rfl⟩
    obtain⟨k,hk,he⟩:=List.mem_map.1 ((hm x.val).1 ⟨x,hx,rfl⟩)
    have:=h0 k hk
    rw[show(x.val:Int)=k by omega]
    exact hk
   ·intro h
    obtain⟨x,hx,he⟩:=(hm m.toNat).2 (List.mem_map.2 ⟨m,h,rfl⟩)
    have:=h0 m h
    exact⟨x,hx,by omega⟩
 exact List.Perm.eq_of_pairwise (le:=fun x y:Int=>x≤y) (fun a b _ _ h h'=>by omega) h1 h2 (hperm.trans (List.mergeSort_perm _ _).symm)
def r517:OCtr:=finCtr 11 Unit .nil (fun x _=>seenOk x) (fun x _=> .row .need (conS x)) (fun x _=>x)
theorem h517:HoldsO Tryz.prog r517:=by
 rintro⟨x,⟨⟩⟩ hd
 have hd:seenOk x:=hd
 refine⟨by kernel_rfl,?_⟩
 intro A w σ vs hS hR
 replace hS:SimO A w σ (gO x.sto):=hS
 replace hR:RepL A w σ (gO x.sto) [.ptr 0 0 24] vs:=hR
 show Calls _ _ _ _ fun e w'=>∃u σ',e= .returned u∧SimO A w' σ' (gO x.sto)∧Rep A w' σ' (gO x.sto) (.sl (conS x).length (flatA .need (conS x))) u∧Ext w σ (gO x.sto) w' σ' (gO x.sto)
 simp only[RepL] at hR
 obtain⟨v,r,rfl,hv,rfl⟩:=hR
 have o0:(gO x.sto)[0]?=some (.cells (gL (x.p.ss++x.cs)) 70 24 false):=rfl
 have o1:(gO x.sto)[1]?=some (.map (x.wor.map fun p=>(keyV (.i .i64) false p.1,valA (.i .i64) p.2)) ([0],false) true):=rfl
 have o2:(gO x.sto)[2]?=some (.map (x.seen.map fun p=>(keyV (.i .i64) false p.1,valA .b p.2)) ([0],false) true):=rfl
 simp only[Rep] at hv
 obtain⟨_,_,hcu⟩:=hv
 obtain⟨b0,c0,hσ0,rfl⟩:=hcu 24 ⟨_,_,_,o0,by rw[gL_len];rfl⟩
 have h0:=hS.obj 0 _ o0
 have h1:=hS.obj 1 _ o1
 have h2:=hS.obj 2 _ o2
 simp only[ObjOK] at h0 h1 h2
 obtain⟨_,_,h0⟩:=h0
 rcases h0 with⟨hz,_⟩|⟨b0',cap0,arr,hz,_,hb0,_,_,hcel⟩
 ·rw[hσ0] at hz;cases hz
 rw[hσ0] at hz
 injection hz with hz;injection hz with hz;injection hz with hz1 hz2
 subst hz1
 obtain⟨_,_,b1,c1,en1,cl1,hσ1,hb1,⟨hs1,hst1⟩,hen1⟩:=h1
 obtain⟨_,_,b2,c2,en2,cl2,hσ2,hb2,⟨hs2,hst2⟩,hen2⟩:=h2
 obtain⟨v22,a22,r22⟩:=hcel 22 (.mp 1) rfl
 obtain⟨v23,a23,r23⟩:=hcel 23 (.mp 2) rfl
 simp only[Rep] at r22 r23
 obtain⟨_,b1',c1',q1,rfl⟩:=r22
 obtain⟨_,b2',c2',q2,rfl⟩:=r23
 rw[hσ1] at q1
 rw[hσ2] at q2
 injection q1 with q1;injection q1 with q1;injection q1 with q1 _
 injection q2 with q2;injection q2 with q2;injection q2 with q2 _
 subst q1;subst q2
 obtain⟨D1,hm1,hh1,ha1⟩:=map_fit (e:=2) (gv:=Value.int .i64) (gl:=Lit.int .i64) (es:=x.wor) (fun p hp=>plainElem_int Tryz.underlying2 (WalkArith.wf_i64 (by have:=(hd.b p hp).2;omega))) hb1 (by simpa using hs1) hst1 (by have:=hd.w;omega)
  (fun j p hj=>by
   obtain⟨m,hm,hk,hr⟩:=hen1 j (keyV (.i .i64) false p.1,valA (.i .i64) p.2) (by rw[List.getElem?_map,hj];rfl)
   simp only[valA,encV,Rep,List.headD_cons] at hr
   exact⟨m,hm,hk,hr.1⟩) (fun p hp=>(hd.b p hp).1)
 obtain⟨D2,hm2,hh2,ha2⟩:=map_fit (e:=4) (gv:=Value.bool) (gl:=Lit.bool) (es:=x.seen) (fun p hp=>plainElem_bool Tryz.underlying4 _) hb2 (by simpa using hs2) hst2 (by have:=hd.s;omega)
  (fun j p hj=>by
   obtain⟨m,hm,hk,hr⟩:=hen2 j (keyV (.i .i64) false p.1,valA .b p.2) (by rw[List.getElem?_map,hj];rfl)
   simp only[valA,encV,Rep,List.headD_cons] at hr
   exact⟨m,hm,hk,hr.1⟩) (fun p hp=>hd.a p hp)
 have hwl:=cons_walk w b0 b1 b2 arr hb0 a22 a23 x.wor.length x.seen.length hd.s D1 D2 hm1 hm2 (wfF x)
  (fun m hm=>by
   unfold wfF
   rcases ha1 (m:Int) (.lit (.int .i64 0)) (by omega) (by omega) with⟨v,hv,h⟩|⟨hv,h⟩
   ·rw[h,find_mem1 hd.u hv];rfl
   ·rw[h,find_none1 hv];rfl)
  (x.seen.map fun p=>p.1.toNat)
  (by
   have hn:=hd.n
   unfold List.Nodup at hn ⊢
   rw[List.pairwise_map] at hn ⊢
   exact List.Pairwise.imp_of_mem (fun {a b} ha hb h he=>h (by have:=hd.a a ha;have:=hd.a b hb;omega)) hn)
  (fun m hm=>by obtain⟨p,hp,rfl⟩:=List.mem_map.1 hm;have:=hd.a p hp;omega)
  (fun kl=>by
   rw[hh2 kl]
   constructor
   ·rintro⟨p,hp,rfl⟩
    exact⟨p.1.toNat,List.mem_map.2 ⟨p,hp,rfl⟩,by have:=hd.a p hp;rw[show((p.1.toNat:Nat):Int)=p.1 by omega]⟩
   ·rintro⟨m,hm,rfl⟩
    obtain⟨p,hp,rfl⟩:=List.mem_map.1 hm
    exact⟨p,hp,by have:=hd.a p hp;rw[show((p.1.toNat:Nat):Int)=p.1 by omega]⟩)
 refine Calls.mono hwl ?_
 rintro e w' ⟨hbe,hrow⟩
 have hE:Ext w σ (gO x.sto) w' σ (gO x.sto):=⟨hbe.size,fun b h hn=>⟨hbe.block b h,hn⟩,Nat.le_refl _,fun _ _ h=>⟨h,fun _ h=>⟨h,rfl⟩⟩,fun _ h=>⟨h,rfl⟩,hbe.os,hbe.tape,hbe.output⟩
 have hS':SimO A w' σ (gO x.sto):=⟨hS.len,hS.dist,fun i b c h=>Nat.lt_of_lt_of_le (hS.bnd i b c h) hbe.size,fun i y hy=>(hS.obj i y hy).ext hE rfl fun b c h=>hbe.block b (hS.bnd i b c h),hS.av,fun b h=>Nat.lt_of_lt_of_le (hS.avb b h) hbe.size⟩
 rcases hrow with⟨rfl,hnil⟩|⟨g,cap,cur,ts,rfl,hg,hcur,q1,q2,q3,q4,q5,q6,q7⟩
 ·have hc0:conS x=[]:=by
   have:x.seen=[]:=List.map_eq_nil_iff.1 hnil
   unfold conS
   rw[this]
   simp[sortI]
  refine⟨_,σ,rfl,hS',?_,hE⟩
  rw[hc0]
  simp only[Rep]
  exact⟨none,0,rfl,by simp,by simp[flatA,pureL],by simp[flatA,RepM]⟩
 ·have hsr:=con_sort hd.n q5 (fun m=>by rw[q6 m,List.map_map];rfl) q7 (fun m hm=>by obtain⟨p,hp,rfl⟩:=List.mem_map.1 hm;exact(hd.a p hp).1)
  have hcon:conS x=ts.map fun y=>(⟨(y.val:Int),wfF x y.val⟩:Need):=by
   unfold conS
   rw[←hsr,List.map_map]
   exact List.map_congr_left fun y _=>by simp
  have hfl:flatA .need (conS x)=(ts.flatMap (encC (wfF x))).map AV.sc:=by
   rw[hcon]
   unfold flatA
   clear hcon hsr q1 q4 q5 q6 q7
   induction ts with
   |nil=>rfl
   |cons y ts ih=>rw[List.map_cons,List.flatMap_cons,ih,List.flatMap_cons,List.map_append];rfl
  have hln:(conS x).length=ts.length:=by rw[hcon];simp
  refine⟨_,σ,rfl,hS',?_,hE⟩
  rw[hfl,hln]
  simp only[Rep]
  refine⟨_,_,rfl,q1,by rw[←hfl];exact flatA_pure _ _,RepM.of_get _ _ _ fun i c hi=>?_⟩
  rw[List.getElem?_map] at hi
  obtain⟨u,hu,rfl⟩:=Option.map_eq_some_iff.1 hi
  have hil:=(List.getElem?_eq_some_iff.1 hu).1
  rw[flat_len] at hil
  have h9:(cur.toList.take (ts.length*2))[i]?=some u:=by rw[q4];exact hu
  rw[List.getElem?_take_of_lt hil,Array.getElem?_toList] at h9
  have h1c:u.oneCell'=true:=by
   obtain⟨y,_,hy⟩:=List.mem_flatMap.1 (List.mem_of_getElem? hu)
   simp[encC] at hy
   rcases hy with rfl|rfl<;>rfl
  refine⟨⟨g,0,none⟩,u,rfl,⟨fun⟨i,c,hi⟩=>by have:=hS.bnd i g c hi;omega,fun hA=>by have:=hS.avb g hA;omega⟩,?_,by simp only[Rep];exact⟨trivial,h1c⟩⟩
  rw[Addr.add_lit]
  simp only[World.cell?,hcur,Nat.zero_add,Option.isSome_none,Bool.false_eq_true,if_false]
  exact h9
open Go.Proofs
theorem raw_frE {l:List Fra} (hl:l.length≤1000) (h:∀x∈l,∃q,x=frE q∧Sz 1000 q):rawP l∧okPay l=true:=by
 refine⟨⟨by omega,fun x hx=>?_⟩,?_⟩
 ·obtain⟨q,rfl,hs⟩:=h x hx
  obtain⟨_,⟨h1,_⟩,⟨h2,_⟩⟩:=frE_ok q
  exact⟨⟨h1,h2⟩,frE_len hs⟩
 ·unfold okPay
  rw[List.all_eq_true]
  intro x hx
  obtain⟨q,rfl,_⟩:=h x hx
  unfold okF
  rw[valF_frE]
  exact decide_eq_true rfl
theorem sz_int {n:Int} (h0: -4294967296<n) (h1:n<4294967296):Sz 1 (n:Rat):=by
 unfold Sz
 simp
 omega
def exS:Prob:=⟨⟨1,1,0,0,0,0⟩,⟨1,1,0,0,0,0⟩,⟨0,0,0,0,0,0⟩,[0,0,0],[⟨0,⟨1,1,0,0,0,0⟩,10⟩,⟨1,⟨1,0,0,0,0,0⟩,6⟩,⟨2,⟨0,1,0,0,0,0⟩,6⟩]⟩
def r518:SCtr:=⟨13,Unit,.nil,fun _=>True,fun _=>codP.put exS⟩
theorem h518:Holds Tryz.prog r518:=by
 refine con0 (L:=[]) r518 lk (by simp) ?_
 rintro⟨⟩ -
 refine vcOf (let z0:=SV.il .i64 1;let z1:=SV.il .i64 0;(SV.agg [z0,z0,z1,z1,z1,z1,z0,z0,z1,z1,z1,z1,z1,z1,z1,z1,z1,z1,SV.row (SId.i .i64) [(0:Int),(0:Int),(0:Int)],SV.row SId.off [Off.mk (0:Int) (Bun.mk (1:Int) (1:Int) (0:Int) (0:Int) (0:Int) (0:Int)) (10:Int),Off.mk (1:Int) (Bun.mk (1:Int) (0:Int) (0:Int) (0:Int) (0:Int) (0:Int)) (6:Int),Off.mk (2:Int) (Bun.mk (0:Int) (1:Int) (0:Int) (0:Int) (0:Int) (0:Int)) (6:Int)]]).same (SV.agg (Prob.ss exS))) (by kernel_rfl) ?_
 conv=>zeta
 rfl
def pay4:List Fra:=[frE ((0:Int):Rat),frE ((4:Int):Rat),frE ((4:Int):Rat)]
def pay5:List Fra:=[frE ((0:Int):Rat),frE ((5:Int):Rat),frE ((5:Int):Rat)]
def worX:List (Int×Int):=[(0,0),(1,10),(2,6),(3,10),(4,6),(5,10),(6,12),(7,12)]
theorem lv_fin:finN exS [1,2]=⟨exS,[0,6,6],6,[],[]⟩:=by kernel_rfl
theorem lv_b4:bstM exS [0,6,6] pay4 8=(true,1,((2:Int):Rat)):=by kernel_rfl
theorem lv_b5:(bstM exS [0,6,6] pay5 8).1=false:=by kernel_rfl
theorem lv_s4:senM exS [0,6,6] pay4 8 []=[(1,true)]:=by kernel_rfl
theorem lv_s5:senM exS [0,6,6] pay5 8 [(1,true)]=[(1,true)]:=by kernel_rfl
theorem lv_w:worM exS 8 []=worX:=by kernel_rfl
theorem lv_w2:worM exS 8 worX=worX:=by kernel_rfl
theorem lv_st:stpM exS [0,6,6] pay4 1=(⟨1,10⟩,(⟨6,10⟩,frE ((2:Int):Rat))):=by kernel_rfl
def r512:SCtr:=⟨5,Unit,.nil,fun _=>True,fun _=> .sb true⟩
theorem h512:Holds Tryz.prog r512:=by
 refine con (L:=[r518,r515,r46]) (W:=ownT [r513,r514,r517]) r512 lk (ownT_ok (by simpa using⟨h513,h514,h517⟩)) (by simpa using⟨h518,h515,h46⟩) ?_
 rintro⟨⟩ -
 refine vcOf (let z0:=[(1:Int),(2:Int)];let z1:=finN exS z0;let z2:=frE (IntCast.intCast (0:Int));let z3:=(z2.fst,z2.snd.fst,z2.snd.snd);let z4:=frE (IntCast.intCast (4:Int));let z5:=(z4.fst,z4.snd.fst,z4.snd.snd);let z6:=[z3,z5,z5];let z7:=z1.vals;let z8:=worM z1.p (nOf z1) z1.wor;let z9:=senM z1.p z7 z6 (nOf z1) z1.seen;let z10:=FnF.mk z1.p z7 z1.wins z8 z9;let z11:=frE (IntCast.intCast (5:Int));let z12:=(z11.fst,z11.snd.fst,z11.snd.snd);let z13:=[z3,z12,z12];let z14:=FnF.mk z1.p z7 z1.wins (worM z1.p (nOf z10) z8) (senM z1.p z7 z13 (nOf z10) z9);let z15:=bstM z1.p z7 z6 (nOf z1);let z16:=(stpO z1.p z7 z6 z15).snd.snd.snd;let z17:=(frE (IntCast.intCast (2:Int))).snd;let z18:=!(bstM z1.p z7 z13 (nOf z10)).fst;True∧((feasE exS z0=(0:Int)∧(12:Int)=valueS exS z0)∧exS.classes.length≤4∧2≤1000)∧(false=true→(SV.bl false).same (SV.sb true))∧(false=false→((-9223372036854775808:Int)≤(0:Int)∧(0:Int)≤(9223372036854775807:Int))∧((-9223372036854775808:Int)≤(4:Int)∧(4:Int)≤(9223372036854775807:Int))∧((-9223372036854775808:Int)≤(4:Int)∧(4:Int)≤(9223372036854775807:Int))∧((okFn z1∧rawP z6)∧fndE z1 z6=(0:Int))∧((-9223372036854775808:Int)≤(0:Int)∧(0:Int)≤(9223372036854775807:Int))∧((-9223372036854775808:Int)≤(5:Int)∧(5:Int)≤(9223372036854775807:Int))∧((-9223372036854775808:Int)≤(5:Int)∧(5:Int)≤(9223372036854775807:Int))∧((okFn z10∧rawP z13)∧fndE z10 z13=(0:Int))∧seenOk z14∧(true=true→(z15.fst=true→(true=true→(true=true→((-9223372036854775808:Int)≤(2:Int)∧(2:Int)≤(9223372036854775807:Int))∧((List.length z16.fst≤1000000000∧List.length z16.snd≤1000000000)∧List.length z17.fst≤1000000000∧List.length z17.snd≤1000000000)∧(true=true→(true=true→(z18=true→(true=true→(0:Int)≤(0:Int)∧(0:Int)<(1:Int)∧0<(conS z14).length∧(SV.sb true).same (SV.sb true))∧(true=false→(SV.bl false).same (SV.sb true)))∧(z18=false→(SV.bl false).same (SV.sb true)))∧(true=false→(SV.bl false).same (SV.sb true)))∧(true=false→(SV.bl false).same (SV.sb true)))∧(true=false→(SV.bl false).same (SV.sb true)))∧(true=false→(SV.bl false).same (SV.sb true)))∧(z15.fst=false→(SV.bl false).same (SV.sb true)))∧(true=false→(SV.bl false).same (SV.sb true)))) (by kernel_rfl) ?_
 simp only[vcs]
 have e:∀x:Fra,(x.1,x.2.1,x.2.2)=x:=fun _=>rfl
 have en:∀v w a b,nOf ⟨exS,v,w,a,b⟩=8:=fun _ _ _ _=>rfl
 have e4:[frE (IntCast.intCast 0),frE (IntCast.intCast 4),frE (IntCast.intCast 4)]=pay4:=rfl
 have e5:[frE (IntCast.intCast 0),frE (IntCast.intCast 5),frE (IntCast.intCast 5)]=pay5:=rfl
 simp only[e,lv_fin,en,e4,e5,lv_b4,lv_b5,lv_s4,lv_s5,lv_w,lv_w2]
 have hr:∀n:Int,0≤n→n<100→∃q,frE (n:Rat)=frE q∧Sz 1000 q:=fun n h0 h1=>⟨_,rfl,(sz_int (by omega) (by omega)).mono (by omega)⟩
 have r4:=raw_frE (l:=pay4) (by decide) (fun x hx=>by
  simp[pay4] at hx
  rcases hx with rfl|rfl
  ·exact hr 0 (by omega) (by omega)
  ·exact hr 4 (by omega) (by omega))
 have r5:=raw_frE (l:=pay5) (by decide) (fun x hx=>by
  simp[pay5] at hx
  rcases hx with rfl|rfl
  ·exact hr 0 (by omega) (by omega)
  ·exact hr 5 (by omega) (by omega))
 have hw:∀e∈worX,e.2=worthS exS e.1:=fun e he=>by
  have h:(worX.all fun e=>decide (e.2=worthS exS e.1))=true:=by kernel_rfl
  simpa using List.all_eq_true.1 h e he
 have ho:∀w s,(∀e∈w,e.2=worthS exS e.1)→okFn ⟨exS,[0,6,6],6,w,s⟩:=fun w s h=>⟨by kernel_rfl,(by decide:exS.classes.length≤4),rfl,(by decide:∀v∈[(0:Int),6,6],0≤v∧v≤1000000000000000),by kernel_rfl,h⟩
 have hf:∀w s l,l.length=3→okPay l=true→fndE ⟨exS,[0,6,6],6,w,s⟩ l=0:=fun w s l h1 h2=>by
  unfold fndE
  rw[if_neg (by simp[h1]),if_neg (by rw[h2];decide)]
 have hc:conS ⟨exS,[0,6,6],6,worX,[(1,true)]⟩=[⟨1,10⟩]:=by
  unfold conS sortI
  rw[List.map_cons,List.map_nil,List.mergeSort_singleton]
  kernel_rfl
 have hst:stpO exS [0,6,6] pay4 (true,1,((2:Int):Rat))=(⟨1,10⟩,(⟨6,10⟩,frE ((2:Int):Rat))):=lv_st
 have l2:=frE_len (sz_int (n:=2) (by omega) (by omega))
 have hst2:stpO exS [0,6,6] pay4 (true,1,IntCast.intCast 2)=(⟨1,10⟩,(⟨6,10⟩,frE ((2:Int):Rat))):=lv_st
 rw[hc,hst2]
 refine⟨⟨⟨by kernel_rfl,by kernel_rfl⟩,by decide,by omega⟩,fun h=>h,fun _=>⟨by omega,by omega,by omega,⟨⟨ho _ _ (by simp),r4.1⟩,hf _ _ _ rfl r4.2⟩,by omega,by omega,by omega,⟨⟨ho _ _ hw,r5.1⟩,hf _ _ _ rfl r5.2⟩,⟨by simp,by decide,by decide,by decide,by simp,by decide⟩,?_⟩⟩
 have l3:List.length (frE ((2:Int):Rat)).2.1≤1000000000∧List.length (frE ((2:Int):Rat)).2.2≤1000000000:=⟨by omega,by omega⟩
 refine⟨fun _=>⟨fun _=>⟨fun _=>⟨fun _=>⟨by omega,⟨l3,l3⟩,fun _=>⟨fun _=>⟨fun _=>⟨fun _=>⟨by omega,by omega,by decide⟩,?_⟩,?_⟩,?_⟩,?_⟩,?_⟩,?_⟩,?_⟩,?_⟩
 all_goals (intro h;cases h)
def litX (x:Fra):Bool:=decide (x.2.1.length≤2)&&decide (x.2.2.length≤2)
def litR (r:List Fra):Bool:=decide (r.length≤8)&&r.all litX
def litB (p:Prob) (n:Int) (l:List (List Fra)):Bool:=decide ((p.offers.length:Int)≤n)&&decide (p.classes.length≤4)&&decide (l.length≤6)&&l.all litR
def r511:SCtr:=⟨4,Prob×Int×List (List Fra),.cons codP (.cons (codI .i64) (.one (codR (.lst sF)))),fun a=>True,fun a=> .sb (litB a.1 a.2.1 a.2.2)⟩
def Λ511 (a:Prob×Int×List (List Fra)):Nat→LoopAnn
 |4=> .inv Int (fun i=>⟨[(2,.row (.lst sF) a.2.2),(7,.si .i64 i)],[.cells a.1.ss 27 20 false]⟩) (fun s=>iS s 7)
   (fun i=>(0≤i∧i≤a.2.2.length)∧∀j:Nat,(j:Int)<i→litR (nthD a.2.2 j [])=true) (fun i=>(a.2.2.length - i).toNat) fun i k=>match k with
   |9=> .inv Int (fun q=>⟨[(2,.row (.lst sF) a.2.2),(7,.si .i64 i),(8,.si .i64 q)],[.cells a.1.ss 27 20 false]⟩) (fun s=>iS s 8)
    (fun q=>(0≤q∧q≤(nthD a.2.2 i.toNat []).length)∧∀j:Nat,(j:Int)<q→litX (nthD (nthD a.2.2 i.toNat []) j sF.dflt)=true) (fun q=>((nthD a.2.2 i.toNat []).length - q).toNat) fun _ _=> .look
   |_=> .look
 |_=> .look
theorem h511:Holds Tryz.prog r511:=by
 refine con0 (L:=[]) r511 Λ511 (by simp) ?_
 rintro⟨p,n,l⟩ -
 refine vcOf (let z0:=decide (n<(↑p.offers.length:Int));let z1:=decide ((4:Int)<(↑p.classes.length:Int));let z2:=(↑l.length:Int);let z3:=decide ((6:Int)<z2);let z4:=SObj.cells (Prob.ss p) 27 20 false;let z5:=(↑l.length:Int);let z6:=sF.lst.dflt;(z0=true→(SV.bl false).same (SV.sb (litB p n l)))∧(z0=false→(z1=true→(SV.bl false).same (SV.sb (litB p n l)))∧(z1=false→(z3=true→(SV.bl false).same (SV.sb (litB p n l)))∧(z3=false→((((SV.row sF.lst l).same (SV.row sF.lst l)∧(SV.il .i64 0).same (SV.si .i64 0)∧True)∧z4.same z4∧True)∧((0:Int)≤(0:Int)∧(0:Int)≤z5)∧∀(j:Nat),(↑j:Int)<(0:Int)→litR (nthD l j [])=true)∧∀(x:Int),let z7:=nthD l x.toNat z6;let z8:=(↑z7.length:Int);let z9:=decide ((8:Int)<z8);let z10:=(↑(nthD l x.toNat []).length:Int);let z11:=x+(1:Int);let z12:=SV.si .i64 z11;(((0:Int)≤x∧x≤z5)∧∀(j:Nat),(↑j:Int)<x→litR (nthD l j [])=true)→(decide (x<z2)=true→(0:Int)≤x∧x<z2∧x.toNat<l.length∧(z9=true→(SV.bl false).same (SV.sb (litB p n l)))∧(z9=false→((((SV.row sF.lst l).same (SV.row sF.lst l)∧(SV.si .i64 x).same (SV.si .i64 x)∧(SV.il .i64 0).same (SV.si .i64 0)∧True)∧z4.same z4∧True)∧((0:Int)≤(0:Int)∧(0:Int)≤z10)∧∀(j:Nat),(↑j:Int)<(0:Int)→litX (nthD (nthD l x.toNat []) j sF.dflt)=true)∧∀(x_1:Int),let z13:=(nthD z7 x_1.toNat sF.dflt).snd;let z14:=decide ((2:Int)<(↑(List.length z13.fst):Int));let z15:=decide ((2:Int)<(↑(List.length z13.snd):Int));let z16:=x_1+(1:Int);let z17:=SV.si .i64 x;let z18:=SV.si .i64 z16;(((0:Int)≤x_1∧x_1≤z10)∧∀(j:Nat),(↑j:Int)<x_1→litX (nthD (nthD l x.toNat []) j sF.dflt)=true)→(0:Int)≤x∧x<z2∧x.toNat<l.length∧(decide (x_1<z8)=true→(0:Int)≤x∧x<z2∧x.toNat<l.length∧(0:Int)≤x_1∧x_1<z8∧x_1.toNat<z7.length∧(z14=true→(SV.bl false).same (SV.sb (litB p n l)))∧(z14=false→(0:Int)≤x∧x<z2∧x.toNat<l.length∧(0:Int)≤x_1∧x_1<z8∧x_1.toNat<z7.length∧(z15=true→(SV.bl false).same (SV.sb (litB p n l)))∧(z15=false→inR .i64 z16∧(((SV.row sF.lst l).same (SV.row sF.lst l)∧z17.same z17∧z18.same z18∧True)∧z4.same z4∧True)∧(((0:Int)≤z16∧z16≤z10)∧∀(j:Nat),(↑j:Int)<z16→litX (nthD (nthD l x.toNat []) j sF.dflt)=true)∧(z10 - z16).toNat<(z10 - x_1).toNat)))∧(decide (x_1<z8)=false→inR .i64 z11∧(((SV.row sF.lst l).same (SV.row sF.lst l)∧z12.same z12∧True)∧z4.same z4∧True)∧(((0:Int)≤z11∧z11≤z5)∧∀(j:Nat),(↑j:Int)<z11→litR (nthD l j [])=true)∧(z5 - z11).toNat<(z5 - x).toNat)))∧(decide (x<z2)=false→(SV.bl true).same (SV.sb (litB p n l))))))) (by kernel_rfl) ?_
 simp only[vcs]
 have ed:(SId.lst sF).dflt=([]:List Fra):=rfl
 simp only[ed]
 have nope:(¬((p.offers.length:Int)≤n)∨¬p.classes.length≤4∨¬l.length≤6∨∃r∈l,litR r=false)→false=litB p n l:=fun h=>by
  symm
  rw[Bool.eq_false_iff]
  intro hb
  unfold litB at hb
  simp only[Bool.and_eq_true,decide_eq_true_eq,List.all_eq_true] at hb
  obtain⟨⟨⟨h1,h2⟩,h3⟩,h4⟩:=hb
  rcases h with h|h|h|⟨r,hr,h⟩
  ·exact h h1
  ·exact h h2
  ·exact h h3
  ·rw[h4 r hr] at h;cases h
 refine⟨fun h=>nope (.inl (by omega)),fun h1=>⟨fun h=>nope (.inr (.inl (by omega))),fun h2=>⟨fun h=>nope (.inr (.inr (.inl (by omega)))),fun h3=>⟨⟨⟨by omega,by omega⟩,fun j hj=>by omega⟩,?_⟩⟩⟩⟩
 rintro i ⟨⟨i0,i1⟩,hi⟩
 refine⟨fun hlt=>?_,fun hge=>?_⟩
 ·have hm:=nthD_mem (d:=([]:List Fra)) (show i.toNat<l.length by omega)
  have bad:litR (nthD l i.toNat [])=false→false=litB p n l:=fun h=>nope (.inr (.inr (.inr ⟨_,hm,h⟩)))
  generalize hr:nthD l i.toNat []=r at*
  refine⟨i0,hlt,by omega,fun h=>bad (by simp[litR];omega),fun h8=>⟨⟨⟨by omega,by omega⟩,fun j hj=>by omega⟩,?_⟩⟩
  rintro k ⟨⟨k0,k1⟩,hk⟩
  refine⟨i0,hlt,by omega,fun hkl=>?_,fun hkg=>?_⟩
  ·have hx:=nthD_mem (d:=sF.dflt) (show k.toNat<r.length by omega)
   have bad2:litX (nthD r k.toNat sF.dflt)=false→false=litB p n l:=fun h=>bad (by
    unfold litR
    rw[Bool.and_eq_false_iff]
    right
    rw[Bool.eq_false_iff]
    intro ha
    have:=List.all_eq_true.1 ha _ hx
    rw[h] at this
    cases this)
   refine⟨i0,hlt,by omega,k0,hkl,by omega,fun h=>bad2 (by simp[litX];omega),fun h9=>⟨i0,hlt,by omega,k0,hkl,by omega,fun h=>bad2 (by simp[litX];omega),fun h10=>⟨⟨by omega,by omega⟩,⟨⟨by omega,by omega⟩,fun j hj=>?_⟩,by omega⟩⟩⟩
   by_cases hjk:(j:Int)<k
   ·exact hk j hjk
   ·rw[show j=k.toNat by omega]
    simp[litX]
    omega
  ·refine⟨⟨by omega,by omega⟩,⟨⟨by omega,by omega⟩,fun j hj=>?_⟩,by omega⟩
   by_cases hji:(j:Int)<i
   ·exact hi j hji
   ·rw[show j=i.toNat by omega,hr]
    unfold litR
    rw[Bool.and_eq_true,decide_eq_true_eq,List.all_eq_true]
    refine⟨by omega,fun x hx=>?_⟩
    obtain⟨m,hm2,rfl⟩:=List.getElem_of_mem hx
    have:=hk m (by omega)
    rwa [nthD_eq hm2] at this
 ·symm
  unfold litB
  simp only[Bool.and_eq_true,decide_eq_true_eq,List.all_eq_true]
  refine⟨⟨⟨by omega,by omega⟩,by omega⟩,fun r hr=>?_⟩
  obtain⟨m,hm2,rfl⟩:=List.getElem_of_mem hr
  have:=hi m (by omega)
  rwa [nthD_eq hm2] at this
theorem newE_zero {p:Prob} {a:Alloc} (h:newE p a=0):feasE p a.chosen=0∧a.value=valueS p a.chosen:=by
 unfold newE at h
 split at h
 ·rename_i h1;exact absurd h h1
 ·rename_i h1
  split at h
  ·cases h
  ·rename_i h2
   exact⟨Classical.not_not.1 h1,Classical.not_not.1 h2⟩
theorem lit_ok {p:Prob} {n:Int} {l:List (List Fra)} (h:litB p n l=true):(p.offers.length:Int)≤n∧p.classes.length≤4∧l.length≤6∧∀r∈l,r.length≤8∧∀x∈r,x.2.1.length≤2∧x.2.2.length≤2:=by
 unfold litB at h
 simp only[Bool.and_eq_true,decide_eq_true_eq,List.all_eq_true] at h
 refine⟨h.1.1.1,h.1.1.2,h.1.2,fun r hr=>?_⟩
 have h2:=h.2 r hr
 unfold litR at h2
 simp only[Bool.and_eq_true,decide_eq_true_eq,List.all_eq_true] at h2
 refine⟨h2.1,fun x hx=>?_⟩
 have h3:=h2.2 x hx
 unfold litX at h3
 simpa only[Bool.and_eq_true,decide_eq_true_eq] using h3
theorem raw_lit {l:List Fra} (hd:rowD l) (h8:l.length≤8) (hx:∀x∈l,x.2.1.length≤2∧x.2.2.length≤2):rawP l:=
 ⟨by omega,fun x h=>⟨hd x h,by have:=hx x h;omega,by have:=hx x h;omega⟩⟩
theorem tab_get {p:Prob} {m:Int} (m0:0≤m) (m1:m<2^p.classes.length):nthD (tabS p) m.toNat 0=bestS p ⟨m,p.supply,p.opn⟩:=by
 have hpn:((2^p.classes.length:Nat):Int)=2^p.classes.length:=by push_cast;rfl
 unfold tabS tabP nthD
 have h:m.toNat<2^p.classes.length:=by omega
 simp only[List.getElem?_map,List.getElem?_range h,Option.map_some,Option.getD_some]
 rw[show((m.toNat:Nat):Int)=m by omega]
theorem conF {L:List SCtr} {W:List OCtr} (c:OCtr) (Λ:c.α→Nat→LoopAnn) (i:∀c∈W,HoldsO Tryz.prog c) (e:∀c∈L,Holds Tryz.prog c)
  
  (h:∀a,c.dom a→Vc (fnOwnFK (parL L (ownT W) tyN mtN fnN) (Λ a) (fG c.f) (c.put a) (c.st a) fun v s=>v.same (c.res a)∧sameO s (c.out a))) (j:(fnN c.f).isSome=true:=by kernel_rfl) (b:∀a,(c.put a).length=(fG c.f).params:=by intro _;kernel_rfl) (d:findO c.f W=none:=by kernel_rfl):HoldsO Tryz.prog c:=
 fun a g=>holdsF_of c base_ok i e (fG_eq j) b a d (h a g).out
structure FnR where
 p:Prob
 vals:List Int
 wor:List Int
 seen:List Need
def FnR.cs (x:FnR):List SV:=[.row (.i .i64) x.vals,.row (.i .i64) x.wor,.row .need x.seen]
def FnR.sto (x:FnR):SStore:=[.cells (x.p.ss++x.cs) 76 23 false]
def decFnR:SStore→Option FnR
 |[.cells cs 76 23 false]=>match cs.drop 20 with
  |[v,s,e]=>match decProb (cs.take 20),decRow (.i .i64) v,decRow (.i .i64) s,decRow .need e with
   |some p,some v,some s,some e=>some ⟨p,v,s,e⟩
   |_,_,_,_=>none
  |_=>none
 |_=>none
theorem decFnR_ok {o:SStore} {x:FnR} (h:decFnR o=some x):gO o=gO x.sto:=by
 unfold decFnR at h
 split at h
 ·rename_i cs
  split at h
  ·rename_i v s e hd
   split at h
   ·rename_i p v' s' e' h1 h2 h3 h4
    simp only[Option.some.injEq] at h
    subst h
    have e3:gL cs=gL p.ss++gL [v,s,e]:=by
     rw[←hd,←decProb_ok h1,←gL_app,List.take_append_drop]
    simp only[FnR.sto,FnR.cs,gO,List.map_cons,List.map_nil,SObj.g,gL_app,e3]
    simp only[gL,decRow_ok h2,decRow_ok h3,decRow_ok h4,SV.g]
   ·cases h
  ·cases h
 ·cases h
theorem fnr_inj {x y:FnR} (h:gO x.sto=gO y.sto):x=y:=by
 obtain⟨p,v,s,e⟩:=x
 obtain⟨p',v',s',e'⟩:=y
 simp only[FnR.sto,FnR.cs,gO,List.map_cons,List.map_nil,SObj.g,gL_app,List.cons.injEq,AObj.cells.injEq,and_true] at h
 obtain⟨h1,h4⟩:=List.append_inj h (by rw[gL_len,gL_len];rfl)
 simp only[gL,SV.g,List.cons.injEq,AV.sl.injEq,and_true,true_and] at h4
 obtain rfl:=ssP_inj h1
 obtain⟨⟨h5,h6⟩,⟨h7,h8⟩,h9,h10⟩:=h4
 obtain rfl:=flatA_inj (.i .i64) h5 h6
 obtain rfl:=flatA_inj (.i .i64) h7 h8
 obtain rfl:=flatA_inj .need h9 h10
 rfl
def fnrCtr (f:FuncId) (β:Type) (A:ACod β) (dom:FnR→β→Prop) (res:FnR→β→SV) (out:FnR→β→FnR):OCtr where
 f:=f
 α:=FnR×β
 put a:=.ptr 0 0 23::A.put a.2
 st a:=a.1.sto
 dec v o:=match v with
  | .ptr 0 0 23::r=>match decFnR o,A.dec r with
   |some s,some b=>some (s,b)
   |_,_=>none
  |_=>none
 ok v o a h:=by
  split at h
  ·split at h
   ·rename_i h1 h2
    simp only[Option.some.injEq] at h;subst h
    exact⟨by simp only[gL,A.ok _ _ h2],decFnR_ok h1⟩
   ·cases h
  ·cases h
 inj a b h1 h2:=by
  simp only[gL,List.cons.injEq,true_and] at h1
  exact Prod.ext (fnr_inj h2) (A.inj _ _ h1)
 dom a:=dom a.1 a.2
 res a:=res a.1 a.2
 out a:=(out a.1 a.2).sto
structure okFr (x:FnR):Prop where
 c:checkE x.p=0
 n4:x.p.classes.length≤4
 l:x.vals.length=x.p.classes.length
 v:∀v∈x.vals,0≤v∧v≤1000000000000000
 w:x.wor=tabS x.p
def finR (p:Prob) (c:List Int):FnR:=⟨p,valsS p c,tabS p,[]⟩
theorem tab_wor {p:Prob} {m:Int} (h:checkE p=0) (m0:0≤m) (m1:m<2^p.classes.length):nthD (tabS p) m.toNat 0=worthS p m:=by
 rw[tab_get m0 m1]
 unfold worthS faultE
 have hf:(if checkE p≠0 then checkE p else if m<0∨2^p.classes.length≤m then 4 else 0)=0:=by rw[if_neg (fun h2=>h2 h),if_neg (by omega)]
 rw[if_pos hf]
def r542:OCtr:=fnrCtr 35 Int (.one (codI .i64)) (fun x m=>okFr x∧0≤m∧m<2^x.p.classes.length) (fun x m=> .agg [.si .i64 (pU x.vals m),.si .i64 (lU x.vals m (worthS x.p m))]) (fun x _=>x)
def Λ542 (a:FnR×Int):Nat→LoopAnn
 |3=> .inv (Int×Int×Int) (fun y=>⟨[(0,.ptr 0 0 23),(1,.si .i64 a.2),(4,.ptr 1 0 2),(5,.ptr 2 0 2),(6,.si .i64 y.1)],a.1.sto++[nilNd,.cells [.si .i64 y.2.1,.si .i64 y.2.2] 43 2 false]⟩)
   (fun s=>(iS s 6,cS (.i .i64) s 2 0,cS (.i .i64) s 2 1)) (fun y=>(0≤y.1∧y.1≤a.1.vals.length)∧y.2.1=payU a.1.vals a.2 y.1.toNat∧y.2.2=leastU a.1.vals a.2 (worthS a.1.p a.2) y.1.toNat) (fun y=>(a.1.vals.length - y.1).toNat) fun _ _=> .look
 |_=> .look
theorem h542:HoldsO Tryz.prog r542:=by
 refine conO (L:=[]) (W:=[]) r542 Λ542 (by simp) (by simp) ?_
 rintro⟨x,m⟩ ⟨hx,m0,m1⟩
 refine vcOf (let z0:=SV.ptr 0 0 23;let z1:=SV.ptr 1 0 2;let z2:=SV.ptr 2 0 2;let z3:=SV.il .i64 0;let z4:=SV.si .i64 0;let z5:=SId.i .i64;let z6:=SObj.cells [SV.si .i64 x.p.supply.a0,SV.si .i64 x.p.supply.a1,SV.si .i64 x.p.supply.a2,SV.si .i64 x.p.supply.a3,SV.si .i64 x.p.supply.a4,SV.si .i64 x.p.supply.a5,SV.si .i64 x.p.opn.a0,SV.si .i64 x.p.opn.a1,SV.si .i64 x.p.opn.a2,SV.si .i64 x.p.opn.a3,SV.si .i64 x.p.opn.a4,SV.si .i64 x.p.opn.a5,SV.si .i64 x.p.cls.a0,SV.si .i64 x.p.cls.a1,SV.si .i64 x.p.cls.a2,SV.si .i64 x.p.cls.a3,SV.si .i64 x.p.cls.a4,SV.si .i64 x.p.cls.a5,SV.row z5 x.p.classes,SV.row SId.off x.p.offers,SV.row z5 x.vals,SV.row z5 x.wor,SV.row SId.need x.seen] 76 23 false;let z7:=SObj.cells [z3,z3] 43 2 false;let z8:=nthD x.wor m.toNat (0:Int);let z9:=[SV.si .i64 z8];let z10:=(↑x.vals.length:Int);let z11:=worthS x.p m;let z12:=(↑x.vals.length:Int);(0:Int)≤m∧m<(↑x.wor.length:Int)∧m.toNat<x.wor.length∧(((z0.same z0∧(SV.si .i64 m).same (SV.si .i64 m)∧z1.same z1∧z2.same z2∧z3.same z4∧True)∧z6.same z6∧z7.same z7∧(SObj.cells (z3::z9) 43 2 false).same (SObj.cells (z4::z9) 43 2 false)∧True)∧((0:Int)≤(0:Int)∧(0:Int)≤z10)∧(0:Int)=payU x.vals m 0∧z8=leastU x.vals m z11 0)∧∀(x_1:Int×Int×Int),let z13:=x_1.fst.toNat;let z14:=decide (x_1.fst<z12);let z15:=decide (binK.andI .i64 (m / (2:Int)^z13) (1:Int)=(1:Int));let z16:=nthD x.vals z13 (0:Int);let z17:=x_1.snd.snd - z16;let z18:=x_1.fst+(1:Int);let z19:=SV.si .i64 z18;let z20:=SV.si .i64 x_1.snd.fst;let z21:=SObj.cells [z20,SV.si .i64 z17] 43 2 false;let z22:=payU x.vals m z18.toNat;let z23:=leastU x.vals m z11 z18.toNat;let z24:=decide ((0:Int)<z16);let z25:=(1:Int)*(2:Int)^z13;let z26:=x_1.snd.fst+z25;let z27:=[SV.si .i64 x_1.snd.snd];let z28:=SObj.cells (SV.si .i64 z26::z27) 43 2 false;let z29:=SObj.cells (z20::z27) 43 2 false;((0:Int)≤x_1.fst∧x_1.fst≤z10)∧x_1.snd.fst=payU x.vals m z13∧x_1.snd.snd=leastU x.vals m z11 z13→(z14=true→inR .u64 x_1.fst∧(0:Int)≤x_1.fst∧x_1.fst≤(64:Int)∧(z15=true→(0:Int)≤x_1.fst∧x_1.fst<z12∧z13<x.vals.length∧inR .i64 z17∧inR .i64 z18∧((z0.same z0∧(SV.si .i64 m).same (SV.si .i64 m)∧z1.same z1∧z2.same z2∧z19.same z19∧True)∧z6.same z6∧z7.same z7∧z21.same z21∧True)∧(((0:Int)≤z18∧z18≤z10)∧x_1.snd.fst=z22∧z17=z23)∧(z10 - z18).toNat<(z10 - x_1.fst).toNat)∧(z15=false→(0:Int)≤x_1.fst∧x_1.fst<z12∧z13<x.vals.length∧(z24=true→(0:Int)≤x_1.fst∧x_1.fst≤(64:Int)∧inR .i64 z25∧inR .i64 z26∧inR .i64 z18∧((z0.same z0∧(SV.si .i64 m).same (SV.si .i64 m)∧z1.same z1∧z2.same z2∧z19.same z19∧True)∧z6.same z6∧z7.same z7∧z28.same z28∧True)∧(((0:Int)≤z18∧z18≤z10)∧z26=z22∧x_1.snd.snd=z23)∧(z10 - z18).toNat<(z10 - x_1.fst).toNat)∧(z24=false→inR .i64 z18∧((z0.same z0∧(SV.si .i64 m).same (SV.si .i64 m)∧z1.same z1∧z2.same z2∧z19.same z19∧True)∧z6.same z6∧z7.same z7∧z29.same z29∧True)∧(((0:Int)≤z18∧z18≤z10)∧x_1.snd.fst=z22∧x_1.snd.snd=z23)∧(z10 - z18).toNat<(z10 - x_1.fst).toNat)))∧(z14=false→(SV.agg (z20::z27)).same (SV.agg [SV.si .i64 (pU x.vals m),SV.si .i64 (lU x.vals m z11)])∧z6.same z6∧True)) (by kernel_rfl) ?_
 simp only[vcs]
 have hx:okFr x:=hx
 have m0:0≤m:=m0
 have m1:m<2^x.p.classes.length:=m1
 have h4:=hx.n4
 have hV:=hx.l
 have hp:=pow_4 h4
 have hwl:(x.wor.length:Int)=2^x.p.classes.length:=by
  rw[hx.w]
  unfold tabS tabP
  rw[List.length_map,List.length_range]
  simp
 have hwm:nthD x.wor m.toNat 0=worthS x.p m:=by rw[hx.w];exact tab_wor hx.c m0 m1
 have hwb:=worth_bd x.p m
 have hbd:=@leastU_bd x.vals m (worthS x.p m) hx.v
 rw[hwm]
 refine⟨m0,by omega,by omega,⟨rfl,⟨by omega,by omega⟩,rfl,rfl⟩,?_⟩
 rintro⟨i,P,W⟩ ⟨⟨i0,i1⟩,hP,hW⟩
 simp only at i0 i1 hP hW
 subst hP
 subst hW
 have e:(i+1).toNat=i.toNat+1:=by omega
 have ei:((i.toNat:Nat):Int)=i:=by omega
 have hsu:=@leastU_succ x.vals m (worthS x.p m) i.toNat
 have hsp:=@payU_succ x.vals m i.toNat
 rw[ei] at hsu hsp
 obtain⟨n0,n1⟩:=half_nn (i:=i.toNat) m0
 have ha:binK.andI .i64 (m / 2^i.toNat) 1=m / 2^i.toNat % 2:=and_one n0 (by omega)
 have hI:hasI m i=decide (m / 2^i.toNat % 2=1):=rfl
 have hpb:=@payU_bd x.vals m i.toNat
 simp only
 refine⟨fun hi=>?_,fun hi=>?_⟩
 ·have h16:=@pow_4 i.toNat (by omega)
  have h1b:=@hbd (i.toNat+1) (by omega)
  have h1c:((i.toNat+1:Nat):Int)≤4:=by omega
  refine⟨u64_in (by omega) (by omega),i0,by omega,fun h1=>?_,fun h1=>?_⟩
  ·have hb:hasI m i=true:=by rw[hI];rw[ha] at h1;exact decide_eq_true h1
   rw[if_pos hb] at hsu
   rw[if_neg (by rw[hb];simp)] at hsp
   rw[e,hsu,hsp]
   exact⟨i0,hi,by omega,⟨by omega,by omega⟩,⟨by omega,by omega⟩,⟨⟨by omega,by omega⟩,rfl,rfl⟩,by omega⟩
  ·have hb:hasI m i=false:=by rw[hI];rw[ha] at h1;exact decide_eq_false h1
   rw[if_neg (by rw[hb];simp)] at hsu
   rw[e,hsu,hsp]
   refine⟨i0,hi,by omega,fun h2=>?_,fun h2=>?_⟩
   ·rw[if_pos ⟨h2,hb⟩,Int.one_mul]
    exact⟨i0,by omega,⟨by omega,by omega⟩,⟨by omega,by omega⟩,⟨by omega,by omega⟩,⟨⟨by omega,by omega⟩,rfl,rfl⟩,by omega⟩
   ·rw[if_neg (fun h=>h2 h.1)]
    exact⟨⟨by omega,by omega⟩,⟨⟨by omega,by omega⟩,rfl,rfl⟩,by omega⟩
 ·rw[show i.toNat=x.vals.length by omega]
  rfl
def r540:OCtr:=fnrCtr 31 (Int×List Fra) (.cons (codI .i64) (.one (codR sF))) (fun x a=>okFr x∧(0≤a.1∧a.1<2^x.p.classes.length)∧payK 1000 a.2) (fun x a=>frS (gnQ x.p x.vals a.2 a.1)) (fun x _=>x)
def Λ540 (a:FnR×Int×List Fra):Nat→LoopAnn
 |4=> .inv (Int×Fra) (fun y=>⟨[(2,.row sF a.2.2),(6,.ptr 1 0 3),(7,.ptr 2 0 2),(8,.ptr 3 0 3),(9,.si .i64 y.1)],
   a.1.sto++[nilF,.cells [.si .i64 (pU a.1.vals a.2.1),.si .i64 (lU a.1.vals a.2.1 (worthS a.1.p a.2.1))] 43 2 false,fCells y.2]⟩)
   (fun s=>(iS s 9,cS sF s 3 0)) (fun y=>(0≤y.1∧y.1≤a.2.2.length)∧y.2=frE ((lU a.1.vals a.2.1 (worthS a.1.p a.2.1):Rat) - paidQ a.2.2 (pU a.1.vals a.2.1) y.1.toNat)) (fun y=>(a.2.2.length - y.1).toNat) fun _ _=> .look
 |_=> .look
theorem h540:HoldsO Tryz.prog r540:=by
 refine conO (L:=[r51,r108]) (W:=[r542]) r540 Λ540 (by simpa using h542) (by simpa using⟨h51,h108⟩) ?_
 rintro⟨x,m,l⟩ ⟨hx,⟨m0,m1⟩,hl⟩
 refine vcOf (let z0:=lU x.vals m (worthS x.p m);let z1:=SV.ptr 1 0 3;let z2:=SV.ptr 2 0 2;let z3:=SV.ptr 3 0 3;let z4:=SId.i .i64;let z5:=SObj.cells [SV.si .i64 x.p.supply.a0,SV.si .i64 x.p.supply.a1,SV.si .i64 x.p.supply.a2,SV.si .i64 x.p.supply.a3,SV.si .i64 x.p.supply.a4,SV.si .i64 x.p.supply.a5,SV.si .i64 x.p.opn.a0,SV.si .i64 x.p.opn.a1,SV.si .i64 x.p.opn.a2,SV.si .i64 x.p.opn.a3,SV.si .i64 x.p.opn.a4,SV.si .i64 x.p.opn.a5,SV.si .i64 x.p.cls.a0,SV.si .i64 x.p.cls.a1,SV.si .i64 x.p.cls.a2,SV.si .i64 x.p.cls.a3,SV.si .i64 x.p.cls.a4,SV.si .i64 x.p.cls.a5,SV.row z4 x.p.classes,SV.row SId.off x.p.offers,SV.row z4 x.vals,SV.row z4 x.wor,SV.row SId.need x.seen] 76 23 false;let z6:=SV.sc (Value.slice none 0 0);let z7:=SObj.cells [SV.bl false,z6,z6] 47 3 false;let z8:=pU x.vals m;let z9:=SObj.cells [SV.si .i64 z8,SV.si .i64 z0] 43 2 false;let z10:=IntCast.intCast z0;let z11:=SId.i .u32;let z12:=SObj.cells [SV.sb (frE z10).fst,SV.row z11 (frE z10).snd.fst,SV.row z11 (frE z10).snd.snd] 47 3 false;let z13:=(↑l.length:Int);let z14:=frE (gnQ x.p x.vals l m);(okFr x∧(0:Int)≤m∧m<(2:Int)^x.p.classes.length)∧((-9223372036854775808:Int)≤z0∧z0≤(9223372036854775807:Int))∧((((SV.row sF l).same (SV.row sF l)∧z1.same z1∧z2.same z2∧z3.same z3∧(SV.il .i64 0).same (SV.si .i64 0)∧True)∧z5.same z5∧z7.same z7∧z9.same z9∧z12.same z12∧True)∧((0:Int)≤(0:Int)∧(0:Int)≤z13)∧((frE z10).fst,(frE z10).snd.fst,(frE z10).snd.snd)=frE (z10 - paidQ l z8 0))∧∀(x:Int×Fra),let z15:=x.fst.toNat;let z16:=decide (x.fst<(↑l.length:Int));let z17:=decide (binK.andI .i64 (z8 / (2:Int)^z15) (1:Int)=(1:Int));let z18:=(x.snd.fst,x.snd.snd.fst,x.snd.snd.snd);let z19:=(nthD l z15 sF.dflt).snd;let z20:=((nthD l z15 sF.dflt).fst,z19.fst,z19.snd);let z21:=x.fst+(1:Int);let z22:=SV.si .i64 z21;let z23:=frE (valF z18 - valF z20);let z24:=SObj.cells [SV.sb z23.fst,SV.row z11 z23.snd.fst,SV.row z11 z23.snd.snd] 47 3 false;let z25:=frE (z10 - paidQ l z8 z21.toNat);let z26:=[SV.sb x.snd.fst,SV.row z11 x.snd.snd.fst,SV.row z11 x.snd.snd.snd];let z27:=SObj.cells z26 47 3 false;((0:Int)≤x.fst∧x.fst≤z13)∧x.snd=frE (z10 - paidQ l z8 z15)→(z16=true→inR .u64 x.fst∧(0:Int)≤x.fst∧x.fst≤(64:Int)∧(z17=true→(0:Int)≤x.fst∧x.fst<(↑l.length:Int)∧z15<l.length∧(isG z18∧isG z20)∧inR .i64 z21∧(((SV.row sF l).same (SV.row sF l)∧z1.same z1∧z2.same z2∧z3.same z3∧z22.same z22∧True)∧z5.same z5∧z7.same z7∧z9.same z9∧z24.same z24∧True)∧(((0:Int)≤z21∧z21≤z13)∧(z23.fst,z23.snd.fst,z23.snd.snd)=z25)∧(z13 - z21).toNat<(z13 - x.fst).toNat)∧(z17=false→inR .i64 z21∧(((SV.row sF l).same (SV.row sF l)∧z1.same z1∧z2.same z2∧z3.same z3∧z22.same z22∧True)∧z5.same z5∧z7.same z7∧z9.same z9∧z27.same z27∧True)∧(((0:Int)≤z21∧z21≤z13)∧z18=z25)∧(z13 - z21).toNat<(z13 - x.fst).toNat))∧(z16=false→(SV.agg z26).same (SV.agg [SV.sb z14.fst,SV.row z11 z14.snd.fst,SV.row z11 z14.snd.snd])∧z5.same z5∧True)) (by kernel_rfl) ?_
 simp only[vcs]
 have hx:okFr x:=hx
 have m0:0≤m:=m0
 have m1:m<2^x.p.classes.length:=m1
 have hl:payK 1000 l:=hl
 have h4:=hx.n4
 have hV:=hx.l
 have h16:=pow_4 h4
 have hfn:okFn ⟨x.p,x.vals,winU x.vals x.vals.length,[],[]⟩:=⟨hx.c,h4,hV,hx.v,rfl,fun e he=>by cases he⟩
 have hlb: -9000000000000000≤lU x.vals m (worthS x.p m)∧lU x.vals m (worthS x.p m)≤9000000000000000:=lU_sz hfn m
 have hP:=@payU_bd x.vals m x.vals.length
 have hll:=hl.1
 have e0:(lU x.vals m (worthS x.p m):Rat) - paidQ l (pU x.vals m) 0=(lU x.vals m (worthS x.p m):Rat):=by
  simp[paidQ,Rat.sub_eq_add_neg,Rat.add_zero]
 rw[e0]
 refine⟨⟨hx,m0,m1⟩,⟨by omega,by omega⟩,⟨⟨by omega,by omega⟩,rfl⟩,?_⟩
 rintro⟨i,s⟩ ⟨⟨i0,i1⟩,hs⟩
 simp only at i0 i1 hs
 subst hs
 have fe:∀x:Fra,(x.1,x.2.1,x.2.2)=x:=fun _=>rfl
 simp only[fe,valF_frE]
 have e:(i+1).toNat=i.toNat+1:=by omega
 have ei:((i.toNat:Nat):Int)=i:=by omega
 refine⟨fun hi=>?_,fun hi=>?_⟩
 ·have hsu:=@paidQ_succ l (pU x.vals m) i.toNat
  rw[ei] at hsu
  have hp0:0≤pU x.vals m:=hP.1
  have hp1:pU x.vals m<2^x.vals.length:=hP.2
  rw[hV] at hp1
  obtain⟨n0,n1⟩:=half_nn (i:=i.toNat) hp0
  have ha:binK.andI .i64 (pU x.vals m / 2^i.toNat) 1=pU x.vals m / 2^i.toNat % 2:=and_one n0 (by omega)
  have hI:hasI (pU x.vals m) i=decide (pU x.vals m / 2^i.toNat % 2=1):=rfl
  have hD:Sz (2+(1+(1000+1)*i.toNat)+1) ((lU x.vals m (worthS x.p m):Rat) - paidQ l (pU x.vals m) i.toNat):=gp_sz hfn hl m (n:=i.toNat) (by omega)
  rw[ha,e]
  refine⟨u64_in (by omega) (by omega),i0,by omega,fun h1=>?_,fun h1=>?_⟩
  ·obtain⟨q,hq,hsz⟩:=payK_get hl (show i.toNat<l.length by omega)
   rw[if_pos (by rw[hI];exact decide_eq_true h1)] at hsu
   have e1:(lU x.vals m (worthS x.p m):Rat) - paidQ l (pU x.vals m) i.toNat - valF (nthD l i.toNat sF.dflt)=(lU x.vals m (worthS x.p m):Rat) - paidQ l (pU x.vals m) (i.toNat+1):=by
    rw[hsu]
    grind
   rw[e1]
   exact⟨i0,hi,by omega,⟨⟨_,_,rfl,hD,by omega⟩,⟨q,1000,hq,hsz,by omega⟩⟩,⟨by omega,by omega⟩,⟨⟨by omega,by omega⟩,rfl⟩,by omega⟩
  ·rw[if_neg (by rw[hI];simpa using h1)] at hsu
   rw[hsu]
   exact⟨⟨by omega,by omega⟩,⟨⟨by omega,by omega⟩,rfl⟩,by omega⟩
 ·rw[show i.toNat=l.length by omega]
  repeat' refine And.intro ?_ ?_
  all_goals rfl
def insG:List Need→Need→List Need
 |[],c=>[c]
 |a::s,c=>if a.payers>c.payers then c::a::s else a::insG s c
def seeA (s:List Need) (c:Need):List Need:=if s.any (fun a=>decide (a.payers=c.payers))=true then s else insG s c
def seeG (c:Need) (r:List Need×Bool) (a:Need):List Need×Bool:=if a.payers>c.payers∧r.2=false then(r.1++[c]++[a],true) else(r.1++[a],r.2)
def seeF (c:Need) (s:List Need) (n:Nat):List Need×Bool:=(s.take n).foldl (seeG c) ([],false)
theorem seeF_succ {c:Need} {s:List Need} {n:Nat} (h:n<s.length):seeF c s (n+1)=seeG c (seeF c s n) (nthD s n ⟨0,0⟩):=by
 unfold seeF
 rw[List.take_succ_eq_append_getElem h,List.foldl_append,nthD_eq h]
 rfl
theorem seeF_true {c:Need}:∀{s o:List Need},s.foldl (seeG c) (o,true)=(o++s,true)
 |[],o=>by simp
 |a::s,o=>by
  rw[List.foldl_cons]
  have:seeG c (o,true) a=(o++[a],true):=by simp[seeG]
  rw[this,seeF_true]
  simp
theorem seeF_fin {c:Need}:∀{s o:List Need},(if(s.foldl (seeG c) (o,false)).2=true then(s.foldl (seeG c) (o,false)).1 else(s.foldl (seeG c) (o,false)).1++[c])=o++insG s c
 |[],o=>by simp[insG]
 |a::s,o=>by
  rw[List.foldl_cons]
  by_cases h:a.payers>c.payers
  ·have:seeG c (o,false) a=(o++[c]++[a],true):=by simp[seeG,h]
   rw[this,seeF_true]
   simp[insG,h]
  ·have:seeG c (o,false) a=(o++[a],false):=by simp[seeG,h]
   rw[this,seeF_fin]
   simp[insG,h]
theorem seeF_all {c:Need} {s:List Need}:(if(seeF c s s.length).2=true then(seeF c s s.length).1 else(seeF c s s.length).1++[c])=insG s c:=by
 unfold seeF
 rw[List.take_length,seeF_fin]
 rfl
theorem seeF_len {c:Need} {s:List Need}:∀{n:Nat},n≤s.length→(seeF c s n).1.length≤n+1∧((seeF c s n).2=false→(seeF c s n).1.length=n)
 |0,_=>by simp[seeF]
 |n+1,h=>by
  have ih:=@seeF_len c s n (by omega)
  rw[seeF_succ (by omega)]
  unfold seeG
  split
  ·rename_i hc
   have:=ih.2 hc.2
   refine⟨by simp;omega,fun h=>by cases h⟩
  ·refine⟨by simp;omega,fun h=>?_⟩
   have:=ih.2 h
   simp;omega
def r541:OCtr:=fnrCtr 33 Need (.one (codE .need)) (fun x _=>x.seen.length≤1000) (fun _ _=> .tup []) (fun x c=>⟨x.p,x.vals,x.wor,seeA x.seen c⟩)
def Λ541 (a:FnR×Need):Nat→LoopAnn
 |4=> .inv Int (fun i=>⟨[(0,.ptr 0 0 23),(3,.ptr 1 0 2),(4,.ow 2 (seeF a.2 a.1.seen i.toNat).1.length 2),(5,.sb (seeF a.2 a.1.seen i.toNat).2),(6,.si .i64 i)],a.1.sto++[.cells [.si .i64 a.2.payers,.si .i64 a.2.least] 41 2 false,.row .need (seeF a.2 a.1.seen i.toNat).1 41 true]⟩)
   (fun s=>iS s 6) (fun i=>(0≤i∧i≤a.1.seen.length)∧∀j:Nat,(j:Int)<i→(nthD a.1.seen j ⟨0,0⟩).payers≠a.2.payers) (fun i=>(a.1.seen.length - i).toNat) fun _ _=> .look
 |_=> .look
theorem h541:HoldsO Tryz.prog r541:=by
 refine conF (L:=[]) (W:=[]) r541 Λ541 (by simp) (by simp) ?_
 rintro⟨x,c⟩ hx
 refine vcOf (let z0:=SV.ptr 0 0 23;let z1:=SV.ptr 1 0 2;let z2:=seeF c x.seen 0;let z3:=SV.si .i64 x.p.supply.a0;let z4:=SV.si .i64 x.p.supply.a1;let z5:=SV.si .i64 x.p.supply.a2;let z6:=SV.si .i64 x.p.supply.a3;let z7:=SV.si .i64 x.p.supply.a4;let z8:=SV.si .i64 x.p.supply.a5;let z9:=SV.si .i64 x.p.opn.a0;let z10:=SV.si .i64 x.p.opn.a1;let z11:=SV.si .i64 x.p.opn.a2;let z12:=SV.si .i64 x.p.opn.a3;let z13:=SV.si .i64 x.p.opn.a4;let z14:=SV.si .i64 x.p.opn.a5;let z15:=SV.si .i64 x.p.cls.a0;let z16:=SV.si .i64 x.p.cls.a1;let z17:=SV.si .i64 x.p.cls.a2;let z18:=SV.si .i64 x.p.cls.a3;let z19:=SV.si .i64 x.p.cls.a4;let z20:=SV.si .i64 x.p.cls.a5;let z21:=SId.i .i64;let z22:=SV.row z21 x.p.classes;let z23:=SV.row SId.off x.p.offers;let z24:=SV.row z21 x.vals;let z25:=SV.row z21 x.wor;let z26:=SObj.cells [z3,z4,z5,z6,z7,z8,z9,z10,z11,z12,z13,z14,z15,z16,z17,z18,z19,z20,z22,z23,z24,z25,SV.row SId.need x.seen] 76 23 false;let z27:=SObj.cells [SV.si .i64 c.payers,SV.si .i64 c.least] 41 2 false;let z28:=(↑x.seen.length:Int);let z29:=x.seen.length;let z30:=(↑z29:Int);let z31:=SId.need.dflt;let z32:=SObj.cells [z3,z4,z5,z6,z7,z8,z9,z10,z11,z12,z13,z14,z15,z16,z17,z18,z19,z20,z22,z23,z24,z25,SV.row SId.need (seeA x.seen c)] 76 23 false;(((z0.same z0∧z1.same z1∧(SV.ow 2 0 2).same (SV.ow 2 z2.fst.length 2)∧(SV.bl false).same (SV.sb z2.snd)∧(SV.il .i64 0).same (SV.si .i64 0)∧True)∧z26.same z26∧z27.same z27∧(SObj.row SId.need [] 41 true).same (SObj.row SId.need z2.fst 41 true)∧True)∧((0:Int)≤(0:Int)∧(0:Int)≤z28)∧∀(j:Nat),(↑j:Int)<(0:Int)→(nthD x.seen j (Need.mk (0:Int) (0:Int))).payers≠c.payers)∧∀(x_1:Int),let z33:=nthD x.seen x_1.toNat z31;let z34:=decide (z33.payers=c.payers);let z35:=decide (c.payers<z33.payers);let z36:=seeF c x.seen x_1.toNat;let z37:=z36.fst.length+1;let z38:=z36.fst++[c];let z39:=z38.length+1;let z40:=x_1+(1:Int);let z41:=seeF c x.seen z40.toNat;let z42:=SV.ow 2 z41.fst.length 2;let z43:=SV.si .i64 z40;let z44:=SObj.row SId.need z41.fst 41 true;(((0:Int)≤x_1∧x_1≤z28)∧∀(j:Nat),(↑j:Int)<x_1→(nthD x.seen j (Need.mk (0:Int) (0:Int))).payers≠c.payers)→(decide (x_1<z30)=true→(0:Int)≤x_1∧x_1<z30∧x_1.toNat<z29∧(z34=true→(SV.tup []).same (SV.tup [])∧z26.same z32∧True)∧(z34=false→(0:Int)≤x_1∧x_1<z30∧x_1.toNat<z29∧(z35=true→((!z36.snd)=true→z36.fst.length=z36.fst.length∧z37*16≤140737488355328∧z37≤1000000000000∧(0:Int)≤x_1∧x_1<z30∧x_1.toNat<z29∧z38.length=z38.length∧z39*16≤140737488355328∧z39≤1000000000000∧inR .i64 z40∧((z0.same z0∧z1.same z1∧(SV.ow 2 (z38++[z33]).length 2).same z42∧(SV.bl true).same (SV.sb z41.snd)∧z43.same z43∧True)∧z26.same z26∧z27.same z27∧(SObj.row SId.need (z38++[z33]) 41 true).same z44∧True)∧(((0:Int)≤z40∧z40≤z28)∧∀(j:Nat),(↑j:Int)<z40→(nthD x.seen j (Need.mk (0:Int) (0:Int))).payers≠c.payers)∧(z28 - z40).toNat<(z28 - x_1).toNat)∧((!z36.snd)=false→(0:Int)≤x_1∧x_1<z30∧x_1.toNat<z29∧z36.fst.length=z36.fst.length∧z37*16≤140737488355328∧z37≤1000000000000∧inR .i64 z40∧((z0.same z0∧z1.same z1∧(SV.ow 2 (z36.fst++[z33]).length 2).same z42∧(SV.sb z36.snd).same (SV.sb z41.snd)∧z43.same z43∧True)∧z26.same z26∧z27.same z27∧(SObj.row SId.need (z36.fst++[z33]) 41 true).same z44∧True)∧(((0:Int)≤z40∧z40≤z28)∧∀(j:Nat),(↑j:Int)<z40→(nthD x.seen j (Need.mk (0:Int) (0:Int))).payers≠c.payers)∧(z28 - z40).toNat<(z28 - x_1).toNat))∧(z35=false→(0:Int)≤x_1∧x_1<z30∧x_1.toNat<z29∧z36.fst.length=z36.fst.length∧z37*16≤140737488355328∧z37≤1000000000000∧inR .i64 z40∧((z0.same z0∧z1.same z1∧(SV.ow 2 (z36.fst++[z33]).length 2).same z42∧(SV.sb z36.snd).same (SV.sb z41.snd)∧z43.same z43∧True)∧z26.same z26∧z27.same z27∧(SObj.row SId.need (z36.fst++[z33]) 41 true).same z44∧True)∧(((0:Int)≤z40∧z40≤z28)∧∀(j:Nat),(↑j:Int)<z40→(nthD x.seen j (Need.mk (0:Int) (0:Int))).payers≠c.payers)∧(z28 - z40).toNat<(z28 - x_1).toNat)))∧(decide (x_1<z30)=false→((!z36.snd)=true→z36.fst.length=z36.fst.length∧z37*16≤140737488355328∧z37≤1000000000000∧z38.length=z38.length∧(SV.tup []).same (SV.tup [])∧(SObj.cells [z3,z4,z5,z6,z7,z8,z9,z10,z11,z12,z13,z14,z15,z16,z17,z18,z19,z20,z22,z23,z24,z25,SV.row SId.need z38] 76 23 false).same z32∧True)∧((!z36.snd)=false→z36.fst.length=z36.fst.length∧(SV.tup []).same (SV.tup [])∧(SObj.cells [z3,z4,z5,z6,z7,z8,z9,z10,z11,z12,z13,z14,z15,z16,z17,z18,z19,z20,z22,z23,z24,z25,SV.row SId.need z36.fst] 76 23 false).same z32∧True))) (by kernel_rfl) ?_
 simp only[vcs]
 have hx:x.seen.length≤1000:=hx
 refine⟨⟨⟨⟨by simp[seeF,SV.same,vcs],rfl⟩,rfl⟩,⟨by omega,by omega⟩,fun j hj=>by omega⟩,?_⟩
 rintro i ⟨⟨i0,i1⟩,hj⟩
 have hD:SId.need.dflt=((⟨0,0⟩:Need)):=rfl
 have e:(i+1).toNat=i.toNat+1:=by omega
 obtain⟨hl,hl2⟩:=@seeF_len c x.seen i.toNat (by omega)
 rw[hD]
 refine⟨fun hi=>⟨i0,hi,by omega,fun h1=>?_,fun h1=>⟨i0,hi,by omega,?_⟩⟩,fun hi=>?_⟩
 ·have:seeA x.seen c=x.seen:=by
   unfold seeA
   rw[if_pos]
   rw[List.any_eq_true]
   have h2:nthD x.seen i.toNat ⟨0,0⟩=x.seen[i.toNat]'(by omega):=nthD_eq (by omega)
   exact⟨x.seen[i.toNat]'(by omega),List.getElem_mem _,by rw[←h2];exact decide_eq_true h1⟩
  rw[this]
  rfl
 ·have hsu:=@seeF_succ c x.seen i.toNat (by omega)
  have hn:∀j:Nat,(j:Int)<i+1→(nthD x.seen j ⟨0,0⟩).payers≠c.payers:=fun j h=>by
   by_cases h2:(j:Int)<i
   ·exact hj j h2
   ·have:j=i.toNat:=by omega
    rw[this];exact h1
  rw[e]
  unfold seeG at hsu
  refine⟨fun h2=>⟨fun h3=>?_,fun h3=>?_⟩,fun h2=>?_⟩
  ·rw[if_pos ⟨h2,h3⟩] at hsu
   rw[hsu]
   have h4:=hl2 h3
   exact⟨by omega,by omega,i0,hi,by omega,by simp;omega,by simp;omega,⟨by omega,by omega⟩,⟨⟨rfl,rfl⟩,rfl⟩,⟨⟨by omega,by omega⟩,hn⟩,by omega⟩
  ·rw[if_neg (fun h=>by rw[h3] at h;cases h.2)] at hsu
   rw[hsu]
   exact⟨i0,hi,by omega,by omega,by omega,⟨by omega,by omega⟩,⟨⟨rfl,rfl⟩,rfl⟩,⟨⟨by omega,by omega⟩,hn⟩,by omega⟩
  ·rw[if_neg (fun h=>h2 h.1)] at hsu
   rw[hsu]
   exact⟨i0,hi,by omega,by omega,by omega,⟨by omega,by omega⟩,⟨⟨rfl,rfl⟩,rfl⟩,⟨⟨by omega,by omega⟩,hn⟩,by omega⟩
 ·have hN:i.toNat=x.seen.length:=by omega
  have hA:seeA x.seen c=insG x.seen c:=by
   unfold seeA
   rw[if_neg]
   intro h
   obtain⟨a,ha,h2⟩:=List.any_eq_true.1 h
   obtain⟨j,h3,rfl⟩:=List.mem_iff_getElem.1 ha
   refine hj j (by omega) ?_
   rw[nthD_eq h3]
   exact of_decide_eq_true h2
  have hal:=@seeF_all c x.seen
  rw[hA,←hal,hN]
  rw[hN] at hl
  refine⟨fun h=>⟨by omega,by omega,?_⟩,fun h=>?_⟩
  ·rw[if_neg (by rw[h];simp)]
   rfl
  ·rw[if_pos h]
   rfl
def r539:OCtr:=fnrCtr 12 Unit .nil (fun x _=>x.seen.length≤1000) (fun x _=> .row .need x.seen) (fun x _=>x)
theorem h539:HoldsO Tryz.prog r539:=by
 refine conF (L:=[]) (W:=[]) r539 lk (by simp) (by simp) ?_
 rintro⟨x,⟨⟩⟩ hx
 refine vcOf (let z0:=x.seen.length;let z1:=SV.row SId.need x.seen;let z2:=SId.i .i64;let z3:=SObj.cells [SV.si .i64 x.p.supply.a0,SV.si .i64 x.p.supply.a1,SV.si .i64 x.p.supply.a2,SV.si .i64 x.p.supply.a3,SV.si .i64 x.p.supply.a4,SV.si .i64 x.p.supply.a5,SV.si .i64 x.p.opn.a0,SV.si .i64 x.p.opn.a1,SV.si .i64 x.p.opn.a2,SV.si .i64 x.p.opn.a3,SV.si .i64 x.p.opn.a4,SV.si .i64 x.p.opn.a5,SV.si .i64 x.p.cls.a0,SV.si .i64 x.p.cls.a1,SV.si .i64 x.p.cls.a2,SV.si .i64 x.p.cls.a3,SV.si .i64 x.p.cls.a4,SV.si .i64 x.p.cls.a5,SV.row z2 x.p.classes,SV.row SId.off x.p.offers,SV.row z2 x.vals,SV.row z2 x.wor,z1] 76 23 false;0=0∧(0+z0)*16≤140737488355328∧0+z0≤1000000000000∧z0=z0∧z1.same z1∧z3.same z3∧True) (by kernel_rfl) ?_
 simp only[vcs]
 have hx:x.seen.length≤1000:=hx
 exact⟨by omega,by omega⟩
def fndV (V:List Int) (l:List Fra):Int:=if l.length≠V.length then 3 else if okPay l=false then 2 else 0
def fStp (p:Prob) (V:List Int) (l:List Fra):Stp:=if fndV V l=0 then stpO p V l (bstM p V l (2^p.classes.length)) else stpZ
def fIs (p:Prob) (V:List Int) (l:List Fra):Bool:=if fndV V l=0 then(bstM p V l (2^p.classes.length)).1 else false
def sewM (p:Prob) (V:List Int) (l:List Fra):Nat→List Need→List Need
 |0,s=>s
 |m+1,s=>if 0<gnQ p V l m then seeA (sewM p V l m s) ⟨m,worthS p m⟩ else sewM p V l m s
def fSee (p:Prob) (V:List Int) (l:List Fra) (s:List Need):List Need:=if fndV V l=0 then sewM p V l (2^p.classes.length) s else s
theorem insG_len {c:Need}:∀{s:List Need},(insG s c).length=s.length+1
 |[]=>rfl
 |a::s=>by
  unfold insG
  split
  ·simp
  ·simp[@insG_len c s]
theorem seeA_len {s:List Need} {c:Need}:(seeA s c).length≤s.length+1:=by
 unfold seeA
 split
 ·omega
 ·rw[insG_len];omega
theorem sewM_len {p:Prob} {V:List Int} {l:List Fra} {s:List Need}:∀{m:Nat},(sewM p V l m s).length≤s.length+m
 |0=>Nat.le_refl _
 |m+1=>by
  have ih:=@sewM_len p V l s m
  have h:=@seeA_len (sewM p V l m s) ⟨m,worthS p m⟩
  unfold sewM
  split<;>omega
theorem fnd_okV {V:List Int} {l:List Fra} (h:fndV V l=0):l.length=V.length∧okPay l=true:=by
 unfold fndV at h
 split at h
 ·cases h
 ·rename_i h1
  split at h
  ·cases h
  ·rename_i h2
   exact⟨Classical.not_not.1 h1,by simpa using h2⟩
def r538:OCtr:=fnrCtr 9 (List Fra) (.one (codR sF)) (fun x l=>okFr x∧rawP l∧x.seen.length≤500)
 (fun x l=> .tup [.agg (encS sStp (fStp x.p x.vals l)),.sb (fIs x.p x.vals l),.si .i64 (fndV x.vals l)])
 (fun x l=>⟨x.p,x.vals,x.wor,fSee x.p x.vals l x.seen⟩)
def zSt2:SObj:=.cells [.il .i64 0,.il .i64 0,.il .i64 0,.il .i64 0,.bl false,.sc (.slice none 0 0),.sc (.slice none 0 0)] 53 7 false
def Λ538 (a:FnR×List Fra):Nat→LoopAnn
 |4=> .inv Int (fun i=>⟨[(0,.ptr 0 0 23),(1,.row sF a.2),(4,.ptr 1 0 7),(7,.si .i64 i)],a.1.sto++[zSt2]⟩)
   (fun s=>iS s 7) (fun i=>(0≤i∧i≤a.2.length)∧∀j:Nat,(j:Int)<i→okF (nthD a.2 j sF.dflt)=true) (fun i=>(a.2.length - i).toNat) fun _ _=> .look
 |11=> .inv Int (fun m=>⟨[(0,.ptr 0 0 23),(1,.row sF a.2),(4,.ptr 1 0 7),(8,.ptr 2 0 7),(9,.sb (bstM a.1.p a.1.vals a.2 m.toNat).1),(10,.si .i64 m)],
   (FnR.mk a.1.p a.1.vals a.1.wor (sewM a.1.p a.1.vals a.2 m.toNat a.1.seen)).sto++[zSt2,.cells (encS sStp (stpO a.1.p a.1.vals a.2 (bstM a.1.p a.1.vals a.2 m.toNat))) 53 7 false,.dead,.dead]⟩)
   (fun s=>iS s 10) (fun m=>0≤m∧m≤2^a.1.p.classes.length) (fun m=>(2^a.1.p.classes.length - m).toNat) fun _ _=> .look
 |_=> .look
theorem h538:HoldsO Tryz.prog r538:=by
 refine conO (L:=[r93,r48,r53]) (W:=[r540,r541,r542]) r538 Λ538 (by simpa using⟨h540,h541,h542⟩) (by simpa using⟨h93,h48,h53⟩) ?_
 rintro⟨x,l⟩ ⟨hx,hl,hs⟩
 refine vcOf (let z0:=(↑l.length:Int);let z1:=decide (z0≠(↑x.vals.length:Int));let z2:=SV.il .i64 0;let z3:=SV.bl false;let z4:=SId.i .u32;let z5:=[z2,z2,z2,z2,z3,SV.row z4 [],SV.row z4 []];let z6:=(fStp x.p x.vals l).fst;let z7:=(fStp x.p x.vals l).snd;let z8:=SV.tup [SV.agg [SV.si .i64 z6.payers,SV.si .i64 z6.least,SV.si .i64 z7.fst.payers,SV.si .i64 z7.fst.least,SV.sb z7.snd.fst,SV.row z4 z7.snd.snd.fst,SV.row z4 z7.snd.snd.snd],SV.sb (fIs x.p x.vals l),SV.si .i64 (fndV x.vals l)];let z9:=SV.si .i64 x.p.supply.a0;let z10:=SV.si .i64 x.p.supply.a1;let z11:=SV.si .i64 x.p.supply.a2;let z12:=SV.si .i64 x.p.supply.a3;let z13:=SV.si .i64 x.p.supply.a4;let z14:=SV.si .i64 x.p.supply.a5;let z15:=SV.si .i64 x.p.opn.a0;let z16:=SV.si .i64 x.p.opn.a1;let z17:=SV.si .i64 x.p.opn.a2;let z18:=SV.si .i64 x.p.opn.a3;let z19:=SV.si .i64 x.p.opn.a4;let z20:=SV.si .i64 x.p.opn.a5;let z21:=SV.si .i64 x.p.cls.a0;let z22:=SV.si .i64 x.p.cls.a1;let z23:=SV.si .i64 x.p.cls.a2;let z24:=SV.si .i64 x.p.cls.a3;let z25:=SV.si .i64 x.p.cls.a4;let z26:=SV.si .i64 x.p.cls.a5;let z27:=SId.i .i64;let z28:=SV.row z27 x.p.classes;let z29:=SV.row SId.off x.p.offers;let z30:=SV.row z27 x.vals;let z31:=SV.row z27 x.wor;let z32:=SObj.cells [z9,z10,z11,z12,z13,z14,z15,z16,z17,z18,z19,z20,z21,z22,z23,z24,z25,z26,z28,z29,z30,z31,SV.row SId.need x.seen] 76 23 false;let z33:=SObj.cells [z9,z10,z11,z12,z13,z14,z15,z16,z17,z18,z19,z20,z21,z22,z23,z24,z25,z26,z28,z29,z30,z31,SV.row SId.need (fSee x.p x.vals l x.seen)] 76 23 false;let z34:=SV.ptr 0 0 23;let z35:=SV.ptr 1 0 7;let z36:=SV.sc (Value.slice none 0 0);let z37:=SObj.cells [z2,z2,z2,z2,z3,z36,z36] 53 7 false;let z38:=(↑l.length:Int);let z39:=SV.ptr 2 0 7;let z40:=bstM x.p x.vals l 0;let z41:=stpO x.p x.vals l z40;let z42:=(2:Int)^x.p.classes.length;let z43:=(↑x.wor.length:Int);(z1=true→0=0∧0=0∧(SV.tup [SV.agg z5,z3,SV.il .i64 3]).same z8∧z32.same z33∧True)∧(z1=false→(((z34.same z34∧(SV.row sF l).same (SV.row sF l)∧z35.same z35∧z2.same (SV.si .i64 0)∧True)∧z32.same z32∧z37.same z37∧True)∧((0:Int)≤(0:Int)∧(0:Int)≤z38)∧∀(j:Nat),(↑j:Int)<(0:Int)→okF (nthD l j sF.dflt)=true)∧∀(x_1:Int),let z44:=nthD l x_1.toNat sF.dflt;let z45:=!okF (z44.fst,z44.snd.fst,z44.snd.snd);let z46:=x_1+(1:Int);let z47:=SV.si .i64 z46;(((0:Int)≤x_1∧x_1≤z38)∧∀(j:Nat),(↑j:Int)<x_1→okF (nthD l j sF.dflt)=true)→(decide (x_1<z0)=true→(0:Int)≤x_1∧x_1<z0∧x_1.toNat<l.length∧((Dig z44.snd.fst∧Dig z44.snd.snd)∧List.length z44.snd.fst≤10000000∧List.length z44.snd.snd≤10000000)∧(z45=true→0=0∧0=0∧(SV.tup [SV.agg z5,z3,SV.il .i64 2]).same z8∧z32.same z33∧True)∧(z45=false→inR .i64 z46∧((z34.same z34∧(SV.row sF l).same (SV.row sF l)∧z35.same z35∧z47.same z47∧True)∧z32.same z32∧z37.same z37∧True)∧(((0:Int)≤z46∧z46≤z38)∧∀(j:Nat),(↑j:Int)<z46→okF (nthD l j sF.dflt)=true)∧(z38 - z46).toNat<(z38 - x_1).toNat))∧(decide (x_1<z0)=false→0=0∧0=0∧(((z34.same z34∧(SV.row sF l).same (SV.row sF l)∧z35.same z35∧z39.same z39∧z3.same (SV.sb z40.fst)∧z2.same (SV.si .i64 0)∧True)∧z32.same (SObj.cells [z9,z10,z11,z12,z13,z14,z15,z16,z17,z18,z19,z20,z21,z22,z23,z24,z25,z26,z28,z29,z30,z31,SV.row SId.need (sewM x.p x.vals l 0 x.seen)] 76 23 false)∧z37.same z37∧(SObj.cells z5 53 7 false).same (SObj.cells [SV.si .i64 z41.fst.payers,SV.si .i64 z41.fst.least,SV.si .i64 z41.snd.fst.payers,SV.si .i64 z41.snd.fst.least,SV.sb z41.snd.snd.fst,SV.row z4 z41.snd.snd.snd.fst,SV.row z4 z41.snd.snd.snd.snd] 53 7 false)∧SObj.dead.same SObj.dead∧SObj.dead.same SObj.dead∧True)∧(0:Int)≤(0:Int)∧(0:Int)≤z42)∧∀(x_2:Int),let z48:=sewM x.p x.vals l x_2.toNat x.seen;let z49:=frE (gnQ x.p x.vals l x_2);let z50:=(z49.fst,z49.snd.fst,z49.snd.snd);let z51:=decide (sgnQ (valF z50)≤(0:Int));let z52:=x_2+(1:Int);let z53:=bstM x.p x.vals l x_2.toNat;let z54:=bstM x.p x.vals l z52.toNat;let z55:=SV.si .i64 z52;let z56:=SObj.cells [z9,z10,z11,z12,z13,z14,z15,z16,z17,z18,z19,z20,z21,z22,z23,z24,z25,z26,z28,z29,z30,z31,SV.row SId.need z48] 76 23 false;let z57:=SObj.cells [z9,z10,z11,z12,z13,z14,z15,z16,z17,z18,z19,z20,z21,z22,z23,z24,z25,z26,z28,z29,z30,z31,SV.row SId.need (sewM x.p x.vals l z52.toNat x.seen)] 76 23 false;let z58:=stpO x.p x.vals l z53;let z59:=[SV.si .i64 z58.fst.payers,SV.si .i64 z58.fst.least,SV.si .i64 z58.snd.fst.payers,SV.si .i64 z58.snd.fst.least,SV.sb z58.snd.snd.fst,SV.row z4 z58.snd.snd.snd.fst,SV.row z4 z58.snd.snd.snd.snd];let z60:=stpO x.p x.vals l z54;let z61:=SObj.cells [SV.si .i64 z60.fst.payers,SV.si .i64 z60.fst.least,SV.si .i64 z60.snd.fst.payers,SV.si .i64 z60.snd.fst.least,SV.sb z60.snd.snd.fst,SV.row z4 z60.snd.snd.snd.fst,SV.row z4 z60.snd.snd.snd.snd] 53 7 false;let z62:=nthD x.wor x_2.toNat (0:Int);let z63:=seeA z48 (Need.mk x_2 z62);let z64:=(z58.snd.snd.fst,z58.snd.snd.snd.fst,z58.snd.snd.snd.snd);let z65:=decide ((0:Int)<cmpQ (valF z50) (valF z64));(0:Int)≤x_2∧x_2≤z42→(decide (x_2<z43)=true→(okFr (FnR.mk x.p x.vals x.wor z48)∧((0:Int)≤x_2∧x_2<z42)∧payK 1000 l)∧isF z50∧(z51=true→inR .i64 z52∧((z34.same z34∧(SV.row sF l).same (SV.row sF l)∧z35.same z35∧z39.same z39∧(SV.sb z53.fst).same (SV.sb z54.fst)∧z55.same z55∧True)∧z56.same z57∧z37.same z37∧(SObj.cells z59 53 7 false).same z61∧SObj.dead.same SObj.dead∧SObj.dead.same SObj.dead∧True)∧((0:Int)≤z52∧z52≤z42)∧(z42 - z52).toNat<(z42 - x_2).toNat)∧(z51=false→(0:Int)≤x_2∧x_2<z43∧x_2.toNat<x.wor.length∧z48.length≤1000∧((!z53.fst)=true→(okFr (FnR.mk x.p x.vals x.wor z63)∧(0:Int)≤x_2∧x_2<z42)∧inR .i64 z52∧((z34.same z34∧(SV.row sF l).same (SV.row sF l)∧z35.same z35∧z39.same z39∧(SV.bl true).same (SV.sb z54.fst)∧z55.same z55∧True)∧(SObj.cells [z9,z10,z11,z12,z13,z14,z15,z16,z17,z18,z19,z20,z21,z22,z23,z24,z25,z26,z28,z29,z30,z31,SV.row SId.need z63] 76 23 false).same z57∧z37.same z37∧(SObj.cells [SV.si .i64 x_2,SV.si .i64 z62,SV.si .i64 (pU x.vals x_2),SV.si .i64 (lU x.vals x_2 (worthS x.p x_2)),SV.sb z49.fst,SV.row z4 z49.snd.fst,SV.row z4 z49.snd.snd] 53 7 false).same z61∧SObj.dead.same SObj.dead∧SObj.dead.same SObj.dead∧True)∧((0:Int)≤z52∧z52≤z42)∧(z42 - z52).toNat<(z42 - x_2).toNat)∧((!z53.fst)=false→(isG z50∧isG z64)∧(z65=true→(okFr (FnR.mk x.p x.vals x.wor z63)∧(0:Int)≤x_2∧x_2<z42)∧inR .i64 z52∧((z34.same z34∧(SV.row sF l).same (SV.row sF l)∧z35.same z35∧z39.same z39∧(SV.bl true).same (SV.sb z54.fst)∧z55.same z55∧True)∧(SObj.cells [z9,z10,z11,z12,z13,z14,z15,z16,z17,z18,z19,z20,z21,z22,z23,z24,z25,z26,z28,z29,z30,z31,SV.row SId.need z63] 76 23 false).same z57∧z37.same z37∧(SObj.cells [SV.si .i64 x_2,SV.si .i64 z62,SV.si .i64 (pU x.vals x_2),SV.si .i64 (lU x.vals x_2 (worthS x.p x_2)),SV.sb z49.fst,SV.row z4 z49.snd.fst,SV.row z4 z49.snd.snd] 53 7 false).same z61∧SObj.dead.same SObj.dead∧SObj.dead.same SObj.dead∧True)∧((0:Int)≤z52∧z52≤z42)∧(z42 - z52).toNat<(z42 - x_2).toNat)∧(z65=false→inR .i64 z52∧((z34.same z34∧(SV.row sF l).same (SV.row sF l)∧z35.same z35∧z39.same z39∧(SV.sb z53.fst).same (SV.sb z54.fst)∧z55.same z55∧True)∧(SObj.cells [z9,z10,z11,z12,z13,z14,z15,z16,z17,z18,z19,z20,z21,z22,z23,z24,z25,z26,z28,z29,z30,z31,SV.row SId.need z63] 76 23 false).same z57∧z37.same z37∧(SObj.cells z59 53 7 false).same z61∧SObj.dead.same SObj.dead∧SObj.dead.same SObj.dead∧True)∧((0:Int)≤z52∧z52≤z42)∧(z42 - z52).toNat<(z42 - x_2).toNat))))∧(decide (x_2<z43)=false→(SV.tup [SV.agg z59,SV.sb z53.fst,z2]).same z8∧z56.same z33∧True)))) (by kernel_rfl) ?_
 simp only[vcs]
 have hx:okFr x:=hx
 have hl:rawP l:=hl
 have hs:x.seen.length≤500:=hs
 have h4:=hx.n4
 have hV:=hx.l
 have h16:=pow_4 h4
 have hwl:(x.wor.length:Int)=2^x.p.classes.length:=by
  rw[hx.w]
  unfold tabS tabP
  rw[List.length_map,List.length_range]
  simp
 have fe:∀x:Fra,(x.1,x.2.1,x.2.2)=x:=fun _=>rfl
 simp only[fe,valF_frE]
 unfold fStp fIs fSee
 refine⟨fun h=>?_,fun hln=>⟨⟨⟨by omega,by have:=hl.1;omega⟩,fun j hj=>by omega⟩,?_⟩⟩
 ·have hz:fndV x.vals l=3:=by unfold fndV;rw[if_pos (by omega)]
  rw[hz]
  exact⟨⟨rfl,rfl,rfl⟩,rfl⟩
 have hln:l.length=x.vals.length:=by omega
 rintro i ⟨⟨i0,i1⟩,hi⟩
 refine⟨fun hlt=>?_,fun hge=>?_⟩
 ·have hm:=nthD_mem (d:=sF.dflt) (show i.toNat<l.length by omega)
  obtain⟨⟨d1,d2⟩,d3,d4⟩:=hl.2 _ hm
  have hb:=hl.1
  refine⟨i0,hlt,by omega,⟨⟨d1,d2⟩,by omega,by omega⟩,fun h=>?_,fun ho=>⟨⟨by omega,by omega⟩,⟨⟨by omega,by omega⟩,fun j hj=>?_⟩,by omega⟩⟩
  ·have hn:okPay l=false:=by
    rw[Bool.eq_false_iff]
    intro hk
    exact absurd ((List.all_eq_true.1 hk _ hm).symm.trans h) (by decide)
   have hz:fndV x.vals l=2:=by unfold fndV;rw[if_neg (by omega),if_pos hn]
   rw[hz]
   exact⟨⟨rfl,rfl,rfl⟩,rfl⟩
  ·by_cases hji:(j:Int)<i
   ·exact hi j hji
   ·rw[show j=i.toNat by omega];exact ho
 have hok:okPay l=true:=by
  unfold okPay
  rw[List.all_eq_true]
  intro y hy
  obtain⟨j,hj2,rfl⟩:=List.getElem_of_mem hy
  have:=hi j (by omega)
  rwa [nthD_eq hj2] at this
 clear hi
 have hz:fndV x.vals l=0:=by unfold fndV;rw[if_neg (by omega),if_neg (by rw[hok];simp)]
 have hp:=rawP_pay hl (by omega) hok
 have hfn:okFn ⟨x.p,x.vals,winU x.vals x.vals.length,[],[]⟩:=⟨hx.c,h4,hV,hx.v,rfl,fun e he=>by cases he⟩
 rw[if_pos hz,if_pos hz,if_pos hz,hz]
 refine⟨⟨⟨rfl,rfl,rfl⟩,by omega,by omega⟩,?_⟩
 rintro m ⟨m0,m1⟩
 obtain⟨m,rfl⟩:∃k:Nat,m=k:=⟨m.toNat,by omega⟩
 have eM:((m:Int)+1).toNat=m+1:=by omega
 have eN:((m:Int)).toNat=m:=by omega
 rw[eM,eN]
 have hokr:∀s,okFr ⟨x.p,x.vals,x.wor,s⟩:=fun s=>⟨hx.c,h4,hV,hx.v,hx.w⟩
 refine⟨fun hlt=>?_,fun hge=>?_⟩
 ·have hlt2:(m:Int)<2^x.p.classes.length:=by omega
  have hwm:nthD x.wor m 0=worthS x.p m:=by
   have:=tab_wor hx.c m0 hlt2
   rw[eN] at this
   rw[hx.w];exact this
  rw[hwm]
  have hbst:=bstM_succ x.p x.vals l m
  have hgn:=bstM_gn x.p x.vals l m
  have hgF:isF (frE (gnQ x.p x.vals l m)):=gn_isF hfn hp m
  have hsp:=@sgn_pos (gnQ x.p x.vals l m)
  have hse:sewM x.p x.vals l (m+1) x.seen=if 0<gnQ x.p x.vals l m then seeA (sewM x.p x.vals l m x.seen) ⟨m,worthS x.p m⟩ else sewM x.p x.vals l m x.seen:=rfl
  have hsl:=@sewM_len x.p x.vals l x.seen m
  refine⟨⟨hokr _,⟨m0,hlt2⟩,hp⟩,hgF,fun h1=>?_,fun h1=>?_⟩
  ·have hng:¬0<gnQ x.p x.vals l m:=fun h=>by have:=hsp.2 h;omega
   rw[if_neg (fun h=>hng h.1)] at hbst
   rw[if_neg hng] at hse
   rw[hbst,hse]
   exact⟨⟨by omega,by omega⟩,⟨rfl,rfl,rfl⟩,⟨by omega,by omega⟩,by omega⟩
  ·have hg:0<gnQ x.p x.vals l m:=hsp.1 (by omega)
   rw[if_pos hg] at hse
   rw[hse]
   refine⟨m0,hlt,by omega,by omega,fun h2=>?_,fun h2=>?_⟩
   ·rw[if_pos ⟨hg,.inl h2⟩] at hbst
    rw[hbst]
    exact⟨⟨hokr _,m0,hlt2⟩,⟨by omega,by omega⟩,⟨rfl,rfl,rfl⟩,⟨by omega,by omega⟩,by omega⟩
   ·obtain⟨g1,g2,g3,g4⟩:=hgn h2
    have est:stpO x.p x.vals l (bstM x.p x.vals l m)=stpM x.p x.vals l (bstM x.p x.vals l m).2.1:=by unfold stpO;rw[if_pos h2]
    have esF:(stpO x.p x.vals l (bstM x.p x.vals l m)).2.2=frE (gnQ x.p x.vals l (bstM x.p x.vals l m).2.1):=by rw[est];rfl
    have hcp:0<cmpQ (gnQ x.p x.vals l m) (valF (stpO x.p x.vals l (bstM x.p x.vals l m)).2.2)↔(bstM x.p x.vals l m).2.2<gnQ x.p x.vals l m:=by
     rw[esF,valF_frE,←g1]
     exact cmpQ_pos
    have hG:∀k,isG (frE (gnQ x.p x.vals l k)):=fun k=>⟨_,_,rfl,gp_sz hfn hp k (Nat.le_refl _),by have:=hp.1;omega⟩
    refine⟨⟨hG _,by rw[esF];exact hG _⟩,fun h3=>?_,fun h3=>?_⟩
    ·rw[if_pos ⟨hg,.inr (hcp.1 h3)⟩] at hbst
     rw[hbst]
     exact⟨⟨hokr _,m0,hlt2⟩,⟨by omega,by omega⟩,⟨rfl,rfl,rfl⟩,⟨by omega,by omega⟩,by omega⟩
    ·rw[if_neg (fun h=>by
      rcases h.2 with h|h
      ·rw[h2] at h;cases h
      ·exact h3 (hcp.2 h))] at hbst
     rw[hbst]
     exact⟨⟨by omega,by omega⟩,⟨rfl,rfl,rfl⟩,⟨by omega,by omega⟩,by omega⟩
 ·have en:2^x.p.classes.length=m:=by
   have:((2^x.p.classes.length:Nat):Int)=2^x.p.classes.length:=by simp
   omega
  rw[en]
  exact⟨⟨rfl,rfl,rfl⟩,rfl⟩
def O537 (p:Prob) (a:Alloc) (V:List Int):SStore:=[.cells p.ss 27 20 false,.cells [.row (.i .i64) a.chosen,.si .i64 a.value] 29 2 false,.row (.i .i64) V 2 true,.cells (p.ss++[.ow 2 V.length 1,.sc (.slice none 0 0),.row .need []]) 76 23 false,.dead]
def r537:OCtr:=newCtr 7 (fun p a=>(feasE p a.chosen=0∧a.value=valueS p a.chosen)∧p.classes.length≤4∧a.chosen.length≤1000) (fun _ _=> .tup [.ptr 0 0 23,.si .i64 0]) (fun p a=>(finR p a.chosen).sto)
def r537e:OCtr:=newCtr 7 (fun p a=>newE p a≠0∧a.chosen.length≤1000) (fun p a=> .tup [.sc (.pointer none),.si .i64 (newE p a)]) (fun _ _=>[])
def Λ537 (a:Prob×Alloc):Nat→LoopAnn
 |8=> .inv Int (fun i=>⟨[(2,.ptr 0 0 20),(3,.ptr 1 0 2),(7,.ptr 3 0 23),(8,.si .i64 i)],O537 a.1 a.2 (valsS a.1 (a.2.chosen.take i.toNat))⟩)
   (fun s=>iS s 8) (fun i=>0≤i∧i≤a.2.chosen.length) (fun i=>(a.2.chosen.length - i).toNat) fun _ _=> .look
 |_=> .look
theorem h537:HoldsO Tryz.prog r537:=by
 refine conN (L:=[r55,r58,r90]) (W:=[]) r537 (fun _=>none) Λ537 (by simp) (by simpa using⟨h55,h58,h90⟩) ?_
 rintro⟨p,⟨c,v⟩⟩ ⟨⟨hf,hv⟩,h4,hc⟩
 refine vcOf (let z0:=decide (feasE p c≠(0:Int));let z1:=SV.sc (Value.pointer none);let z2:=SV.ptr 0 0 23;let z3:=SV.si .i64 0;let z4:=SV.tup [z2,z3];let z5:=decide (v≠valueS p c);let z6:=(↑p.classes.length:Int);let z7:=SV.ptr 0 0 20;let z8:=SV.ptr 1 0 2;let z9:=SV.ptr 3 0 23;let z10:=SV.il .i64 0;let z11:=SV.si .i64 p.supply.a0;let z12:=SV.si .i64 p.supply.a1;let z13:=SV.si .i64 p.supply.a2;let z14:=SV.si .i64 p.supply.a3;let z15:=SV.si .i64 p.supply.a4;let z16:=SV.si .i64 p.supply.a5;let z17:=SV.si .i64 p.opn.a0;let z18:=SV.si .i64 p.opn.a1;let z19:=SV.si .i64 p.opn.a2;let z20:=SV.si .i64 p.opn.a3;let z21:=SV.si .i64 p.opn.a4;let z22:=SV.si .i64 p.opn.a5;let z23:=SV.si .i64 p.cls.a0;let z24:=SV.si .i64 p.cls.a1;let z25:=SV.si .i64 p.cls.a2;let z26:=SV.si .i64 p.cls.a3;let z27:=SV.si .i64 p.cls.a4;let z28:=SV.si .i64 p.cls.a5;let z29:=SId.i .i64;let z30:=SV.row z29 p.classes;let z31:=SV.row SId.off p.offers;let z32:=SObj.cells [z11,z12,z13,z14,z15,z16,z17,z18,z19,z20,z21,z22,z23,z24,z25,z26,z27,z28,z30,z31] 27 20 false;let z33:=SObj.cells [SV.row z29 c,SV.si .i64 v] 29 2 false;let z34:=[SV.row SId.need []];let z35:=SV.sc (Value.slice none 0 0)::z34;let z36:=(↑c.length:Int);let z37:=(finR p c).p;let z38:=z37.supply;let z39:=z37.opn;let z40:=z37.cls;c.length≤9223372036854775807∧(z0=true→(SV.tup [z1,SV.si .i64 (feasE p c)]).same z4∧False)∧(z0=false→c.length≤9223372036854775807∧(z5=true→(SV.tup [z1,SV.il .i64 13]).same z4∧False)∧(z5=false→(0:Int)≤z6∧z6≤z6∧z6*(8:Int)≤(140737488355328:Int)∧z6≤(1000000000000:Int)∧0=0∧(((z7.same z7∧z8.same z8∧z9.same z9∧z10.same z3∧True)∧z32.same z32∧z33.same z33∧(SObj.row z29 (List.replicate z6.toNat (0:Int)) 2 true).same (SObj.row z29 (valsS p []) 2 true)∧(SObj.cells (z11::z12::z13::z14::z15::z16::z17::z18::z19::z20::z21::z22::z23::z24::z25::z26::z27::z28::z30::z31::SV.ow 2 z6.toNat 1::z35) 76 23 false).same (SObj.cells (z11::z12::z13::z14::z15::z16::z17::z18::z19::z20::z21::z22::z23::z24::z25::z26::z27::z28::z30::z31::SV.ow 2 (valsS p []).length 1::z35) 76 23 false)∧SObj.dead.same SObj.dead∧True)∧(0:Int)≤(0:Int)∧(0:Int)≤z36)∧∀(x:Int),let z41:=decide (x<(↑c.length:Int));let z42:=nthD c x.toNat (0:Int);let z43:=valsS p (List.take x.toNat c);let z44:=nthD p.offers z42.toNat SId.off.dflt;let z45:=x+(1:Int);let z46:=SV.si .i64 z45;let z47:=valsS p (List.take z45.toNat c);(0:Int)≤x∧x≤z36→(z41=true→(0:Int)≤x∧x<(↑c.length:Int)∧x.toNat<c.length∧(0:Int)≤z42∧z42<(↑p.offers.length:Int)∧z42.toNat<p.offers.length∧z43.length=z43.length∧(0:Int)≤z44.bidder∧z44.bidder<(↑z43.length:Int)∧z43.length=z43.length∧z44.bidder.toNat<z43.length∧inR .i64 z45∧((z7.same z7∧z8.same z8∧z9.same z9∧z46.same z46∧True)∧z32.same z32∧z33.same z33∧(SObj.row z29 (z43.set z44.bidder.toNat z44.value) 2 true).same (SObj.row z29 z47 2 true)∧(SObj.cells (z11::z12::z13::z14::z15::z16::z17::z18::z19::z20::z21::z22::z23::z24::z25::z26::z27::z28::z30::z31::SV.ow 2 z43.length 1::z35) 76 23 false).same (SObj.cells (z11::z12::z13::z14::z15::z16::z17::z18::z19::z20::z21::z22::z23::z24::z25::z26::z27::z28::z30::z31::SV.ow 2 z47.length 1::z35) 76 23 false)∧SObj.dead.same SObj.dead∧True)∧((0:Int)≤z45∧z45≤z36)∧(z36 - z45).toNat<(z36 - x).toNat)∧(z41=false→True∧z43.length=z43.length∧(SV.tup [z2,z10]).same z4∧(SObj.cells (z11::z12::z13::z14::z15::z16::z17::z18::z19::z20::z21::z22::z23::z24::z25::z26::z27::z28::z30::z31::SV.row z29 z43::SV.row z29 (if checkE p=(0:Int) then tabS p else[])::z34) 76 23 false).same (SObj.cells [SV.si .i64 z38.a0,SV.si .i64 z38.a1,SV.si .i64 z38.a2,SV.si .i64 z38.a3,SV.si .i64 z38.a4,SV.si .i64 z38.a5,SV.si .i64 z39.a0,SV.si .i64 z39.a1,SV.si .i64 z39.a2,SV.si .i64 z39.a3,SV.si .i64 z39.a4,SV.si .i64 z39.a5,SV.si .i64 z40.a0,SV.si .i64 z40.a1,SV.si .i64 z40.a2,SV.si .i64 z40.a3,SV.si .i64 z40.a4,SV.si .i64 z40.a5,SV.row z29 z37.classes,SV.row SId.off z37.offers,SV.row z29 (finR p c).vals,SV.row z29 (finR p c).wor,SV.row SId.need (finR p c).seen] 76 23 false)∧True)))) (by kernel_rfl) ?_
 simp only[vcs]
 have hf:feasE p c=0:=hf
 have hv:v=valueS p c:=hv
 have h4:p.classes.length≤4:=h4
 have hc:c.length≤1000:=hc
 obtain⟨hck,_,hg,_,hm⟩:=feas_ok hf
 have hV0:valsS p []=List.replicate p.classes.length 0:=rfl
 refine⟨by omega,fun h=>absurd hf h,fun _=>⟨by omega,fun h=>absurd hv h,fun _=>⟨by omega,by omega,by omega,by omega,⟨⟨by simp[hV0];rfl,by simp[hV0];rfl⟩,by omega,by omega⟩,?_⟩⟩⟩
 rintro i ⟨i0,i1⟩
 have e:(i+1).toNat=i.toNat+1:=by omega
 refine⟨fun hi=>?_,fun hi=>?_⟩
 ·have h:=hm _ (nthD_mem (d:=(0:Int)) (show i.toNat<c.length by omega))
  obtain⟨b0,b1,_⟩:=hg.2.2.2.2 _ (nthD_mem (d:=SId.off.dflt) (show(nthD c i.toNat 0).toNat<p.offers.length by omega))
  have hvl:(valsS p (c.take i.toNat)).length=p.classes.length:=valsS_len
  have hsu:=@vals_succ p c i.toNat (by omega)
  have hvl2:(valsS p (c.take (i.toNat+1))).length=p.classes.length:=valsS_len
  rw[e,hvl2,hvl,hsu]
  exact⟨i0,hi,by omega,h.1,h.2,by omega,b0,by omega,by omega,⟨by omega,by omega⟩,⟨rfl,rfl⟩,⟨by omega,by omega⟩,by omega⟩
 ·rw[show i.toNat=c.length by omega,List.take_length,if_pos hck]
  rfl
theorem h537e:HoldsO Tryz.prog r537e:=by
 refine conN (L:=[r55,r58,r90]) (W:=[]) r537e (fun _=>none) Λ537 (by simp) (by simpa using⟨h55,h58,h90⟩) ?_
 rintro⟨p,⟨c,v⟩⟩ ⟨hf,hc⟩
 refine vcOf (let z0:=decide (feasE p c≠(0:Int));let z1:=SV.sc (Value.pointer none);let z2:=SV.tup [z1,SV.si .i64 (newE p (Alloc.mk c v))];let z3:=decide (v≠valueS p c);let z4:=(↑p.classes.length:Int);let z5:=SV.ptr 0 0 20;let z6:=SV.ptr 1 0 2;let z7:=SV.ptr 3 0 23;let z8:=SV.il .i64 0;let z9:=SV.si .i64 p.supply.a0;let z10:=SV.si .i64 p.supply.a1;let z11:=SV.si .i64 p.supply.a2;let z12:=SV.si .i64 p.supply.a3;let z13:=SV.si .i64 p.supply.a4;let z14:=SV.si .i64 p.supply.a5;let z15:=SV.si .i64 p.opn.a0;let z16:=SV.si .i64 p.opn.a1;let z17:=SV.si .i64 p.opn.a2;let z18:=SV.si .i64 p.opn.a3;let z19:=SV.si .i64 p.opn.a4;let z20:=SV.si .i64 p.opn.a5;let z21:=SV.si .i64 p.cls.a0;let z22:=SV.si .i64 p.cls.a1;let z23:=SV.si .i64 p.cls.a2;let z24:=SV.si .i64 p.cls.a3;let z25:=SV.si .i64 p.cls.a4;let z26:=SV.si .i64 p.cls.a5;let z27:=SId.i .i64;let z28:=SV.row z27 p.classes;let z29:=SV.row SId.off p.offers;let z30:=SObj.cells [z9,z10,z11,z12,z13,z14,z15,z16,z17,z18,z19,z20,z21,z22,z23,z24,z25,z26,z28,z29] 27 20 false;let z31:=SObj.cells [SV.row z27 c,SV.si .i64 v] 29 2 false;let z32:=[SV.sc (Value.slice none 0 0),SV.row SId.need []];let z33:=(↑c.length:Int);c.length≤9223372036854775807∧(z0=true→(SV.tup [z1,SV.si .i64 (feasE p c)]).same z2∧True)∧(z0=false→c.length≤9223372036854775807∧(z3=true→(SV.tup [z1,SV.il .i64 13]).same z2∧True)∧(z3=false→(0:Int)≤z4∧z4≤z4∧z4*(8:Int)≤(140737488355328:Int)∧z4≤(1000000000000:Int)∧0=0∧(((z5.same z5∧z6.same z6∧z7.same z7∧z8.same (SV.si .i64 0)∧True)∧z30.same z30∧z31.same z31∧(SObj.row z27 (List.replicate z4.toNat (0:Int)) 2 true).same (SObj.row z27 (valsS p []) 2 true)∧(SObj.cells (z9::z10::z11::z12::z13::z14::z15::z16::z17::z18::z19::z20::z21::z22::z23::z24::z25::z26::z28::z29::SV.ow 2 z4.toNat 1::z32) 76 23 false).same (SObj.cells (z9::z10::z11::z12::z13::z14::z15::z16::z17::z18::z19::z20::z21::z22::z23::z24::z25::z26::z28::z29::SV.ow 2 (valsS p []).length 1::z32) 76 23 false)∧SObj.dead.same SObj.dead∧True)∧(0:Int)≤(0:Int)∧(0:Int)≤z33)∧∀(x:Int),let z34:=decide (x<(↑c.length:Int));let z35:=nthD c x.toNat (0:Int);let z36:=valsS p (List.take x.toNat c);let z37:=nthD p.offers z35.toNat SId.off.dflt;let z38:=x+(1:Int);let z39:=SV.si .i64 z38;let z40:=valsS p (List.take z38.toNat c);(0:Int)≤x∧x≤z33→(z34=true→(0:Int)≤x∧x<(↑c.length:Int)∧x.toNat<c.length∧(0:Int)≤z35∧z35<(↑p.offers.length:Int)∧z35.toNat<p.offers.length∧z36.length=z36.length∧(0:Int)≤z37.bidder∧z37.bidder<(↑z36.length:Int)∧z36.length=z36.length∧z37.bidder.toNat<z36.length∧inR .i64 z38∧((z5.same z5∧z6.same z6∧z7.same z7∧z39.same z39∧True)∧z30.same z30∧z31.same z31∧(SObj.row z27 (z36.set z37.bidder.toNat z37.value) 2 true).same (SObj.row z27 z40 2 true)∧(SObj.cells (z9::z10::z11::z12::z13::z14::z15::z16::z17::z18::z19::z20::z21::z22::z23::z24::z25::z26::z28::z29::SV.ow 2 z36.length 1::z32) 76 23 false).same (SObj.cells (z9::z10::z11::z12::z13::z14::z15::z16::z17::z18::z19::z20::z21::z22::z23::z24::z25::z26::z28::z29::SV.ow 2 z40.length 1::z32) 76 23 false)∧SObj.dead.same SObj.dead∧True)∧((0:Int)≤z38∧z38≤z33)∧(z33 - z38).toNat<(z33 - x).toNat)∧(z34=false→True∧z36.length=z36.length∧(SV.tup [SV.ptr 0 0 23,z8]).same z2∧False)))) (by kernel_rfl) ?_
 simp only[vcs]
 have hf:newE p ⟨c,v⟩≠0:=hf
 have hc:c.length≤1000:=hc
 unfold newE at hf ⊢
 simp only at hf ⊢
 refine⟨by omega,fun h=>by rw[if_pos h],fun h=>⟨by omega,fun h2=>by rw[if_neg h,if_pos h2],fun h2=>?_⟩⟩
 rw[if_neg h,if_neg h2] at hf
 exact absurd rfl hf
def outF (x:FnF) (l:List Fra):FnF:=if fndV x.vals l=0 then⟨x.p,x.vals,x.wins,worM x.p (nOf x) x.wor,senM x.p x.vals l (nOf x) x.seen⟩ else x
def stX (p:Prob) (c:List Int) (pays:List (List Fra)):Nat→FnF
 |0=>finN p c
 |i+1=>outF (stX p c pays i) (nthD pays i [])
structure InvF (k:Nat) (x:FnF):Prop where
 n:(x.seen.map (·.1)).Nodup
 u:(x.wor.map (·.1)).Nodup
 s:x.seen.length≤16*k
 w:x.wor.length≤16*k
 a:∀e∈x.seen.map (·.1),(0≤e∧e<16)∧e∈x.wor.map (·.1)
 b:∀e∈x.wor.map (·.1),0≤e∧e<16
theorem setT_keys {V:SId} {k:Int} {v:V.T}:∀{es:List (Int×V.T)},(setT (.i .i64) V k v es).map (·.1)=if k∈es.map (·.1) then es.map (·.1) else es.map (·.1)++[k]
 |[]=>by simp[setT]
 |p::r=>by
  have ih:=@setT_keys V k v r
  unfold setT
  by_cases h:p.1=k
  ·rw[if_pos h]
   simp[h]
  ·rw[if_neg h]
   have h2:¬k=p.1:=fun e=>h e.symm
   simp only[List.map_cons,List.mem_cons,h2,false_or,ih]
   split<;>simp
theorem setT_len {V:SId} {k:Int} {v:V.T} {es:List (Int×V.T)}:(setT (.i .i64) V k v es).length≤es.length+1:=by
 have h:=congrArg List.length (@setT_keys V k v es)
 rw[List.length_map] at h
 split at h<;>simp at h<;>omega
theorem setT_nod {V:SId} {k:Int} {v:V.T} {es:List (Int×V.T)} (h:(es.map (·.1)).Nodup):((setT (.i .i64) V k v es).map (·.1)).Nodup:=by
 rw[setT_keys]
 split
 ·exact h
 ·rename_i hk
  rw[List.nodup_append]
  exact⟨h,by simp,fun a ha b hb e=>hk (by simp at hb;rw[←hb,←e];exact ha)⟩
theorem setT_mem {V:SId} {k:Int} {v:V.T} {es:List (Int×V.T)} {j:Int}:j∈(setT (.i .i64) V k v es).map (·.1)↔j=k∨j∈es.map (·.1):=by
 rw[setT_keys]
 split
 ·rename_i h
  exact⟨fun h2=> .inr h2,fun h2=>by rcases h2 with rfl|h2;exact h;exact h2⟩
 ·rw[List.mem_append,List.mem_singleton]
  exact⟨fun h=>h.symm,fun h=>h.symm⟩
theorem worU_fact {p:Prob} {es:List (Int×Int)} {m:Int} (h:(es.map (·.1)).Nodup):((worU p es m).map (·.1)).Nodup∧(worU p es m).length≤es.length+1∧∀j:Int,j∈(worU p es m).map (·.1)↔j=m∨j∈es.map (·.1):=by
 unfold worU
 split
 ·rename_i hs
  refine⟨h,by omega,fun j=>⟨fun h=> .inr h,fun h=>?_⟩⟩
  rcases h with rfl|h
  ·unfold findT at hs
   rw[Option.isSome_map,List.find?_isSome] at hs
   obtain⟨e,he,h2⟩:=hs
   exact List.mem_map.2 ⟨e,he,of_decide_eq_true h2⟩
  ·exact h
 ·exact⟨setT_nod (V:=.i .i64) h,setT_len (V:=.i .i64),fun j=>setT_mem (V:=.i .i64)⟩
theorem worM_fact {p:Prob} {es:List (Int×Int)} (h:(es.map (·.1)).Nodup):∀{m:Nat},((worM p m es).map (·.1)).Nodup∧(worM p m es).length≤es.length+m∧∀j:Int,j∈(worM p m es).map (·.1)↔(0≤j∧j<m)∨j∈es.map (·.1)
 |0=>⟨h,Nat.le_refl _,fun j=>⟨fun h=> .inr h,fun h=>by rcases h with h|h;omega;exact h⟩⟩
 |m+1=>by
  obtain⟨h1,h2,h3⟩:=@worM_fact p es h m
  obtain⟨g1,g2,g3⟩:=@worU_fact p (worM p m es) m h1
  show((worU p (worM p m es) m).map (·.1)).Nodup∧(worU p (worM p m es) m).length≤es.length+(m+1)∧∀j:Int,j∈(worU p (worM p m es) m).map (·.1)↔_
  refine⟨g1,by omega,fun j=>?_⟩
  rw[g3,h3]
  constructor
  ·rintro(h|h|h)
   ·exact .inl (by omega)
   ·exact .inl (by omega)
   ·exact .inr h
  ·rintro(h|h)
   ·by_cases e:j=m
    ·exact .inl e
    ·exact .inr (.inl (by omega))
   ·exact .inr (.inr h)
def conW (p:Prob) (ks:List Int):List Need:=(sortI ks).map fun m=>⟨m,worthS p m⟩
def insI:List Int→Int→List Int
 |[],c=>[c]
 |a::s,c=>if a>c then c::a::s else a::insI s c
theorem insI_perm {c:Int}:∀{s:List Int},(insI s c).Perm (c::s)
 |[]=>List.Perm.refl _
 |a::s=>by
  unfold insI
  split
  ·exact List.Perm.refl _
  ·exact((@insI_perm c s).cons a).trans (List.Perm.swap c a s)
theorem insI_sort {c:Int}:∀{s:List Int},s.Pairwise (·≤·)→(insI s c).Pairwise (·≤·)
 |[],_=>by simp[insI]
 |a::s,h=>by
  have h1:=List.pairwise_cons.1 h
  unfold insI
  split
  ·rename_i hc
   rw[List.pairwise_cons]
   refine⟨fun x hx=>?_,h⟩
   rcases List.mem_cons.1 hx with rfl|hx
   ·omega
   ·have:=h1.1 x hx;omega
  ·rename_i hc
   rw[List.pairwise_cons]
   refine⟨fun x hx=>?_,insI_sort h1.2⟩
   rcases List.mem_cons.1 ((@insI_perm c s).mem_iff.1 hx) with rfl|hx
   ·omega
   ·exact h1.1 x hx
theorem insI_map {p:Prob} {c:Int}:∀{s:List Int},(insI s c).map (fun m=>(⟨m,worthS p m⟩:Need))=insG (s.map fun m=>⟨m,worthS p m⟩) ⟨c,worthS p c⟩
 |[]=>rfl
 |a::s=>by
  have ih:=@insI_map p c s
  unfold insI
  rw[List.map_cons]
  unfold insG
  by_cases h:a>c
  ·rw[if_pos h,if_pos h];rfl
  ·rw[if_neg h,if_neg h,List.map_cons,ih]
theorem sortI_pw (l:List Int):(sortI l).Pairwise (·≤·):=(List.pairwise_mergeSort (le:=fun x y:Int=>decide (x≤y)) (fun a b c=>by simp;omega) (fun a b=>by simp;omega) l).imp fun h=>by simpa using h
theorem sortI_pm (l:List Int):(sortI l).Perm l:=List.mergeSort_perm _ _
theorem sort_ins {l:List Int} {c:Int}:sortI (l++[c])=insI (sortI l) c:=by
 refine List.Perm.eq_of_pairwise (le:=fun x y:Int=>x≤y) (fun a b _ _ h h'=>by omega) (sortI_pw _) (insI_sort (sortI_pw _)) ?_
 refine(sortI_pm _).trans ?_
 refine List.Perm.trans ?_ insI_perm.symm
 exact List.perm_append_comm.trans ((sortI_pm l).symm.cons c)
theorem conW_see {p:Prob} {ks:List Int} {k:Int}:seeA (conW p ks) ⟨k,worthS p k⟩=conW p (if k∈ks then ks else ks++[k]):=by
 have hm:(conW p ks).any (fun a=>decide (a.payers=k))=true↔k∈ks:=by
  rw[List.any_eq_true]
  unfold conW
  constructor
  ·rintro⟨a,ha,h⟩
   obtain⟨m,hm,rfl⟩:=List.mem_map.1 ha
   have:m=k:=of_decide_eq_true h
   rw[←this]
   exact(sortI_pm ks).mem_iff.1 hm
  ·intro h
   exact⟨_,List.mem_map.2 ⟨k,(sortI_pm ks).mem_iff.2 h,rfl⟩,decide_eq_true rfl⟩
 unfold seeA
 by_cases h:k∈ks
 ·rw[if_pos (hm.2 h),if_pos h]
 ·rw[if_neg (fun h2=>h (hm.1 h2)),if_neg h]
  unfold conW
  rw[sort_ins,insI_map]
theorem con_sew {p:Prob} {V:List Int} {l:List Fra} {es:List (Int×Bool)}:∀{m:Nat},sewM p V l m (conW p (es.map (·.1)))=conW p ((senM p V l m es).map (·.1))
 |0=>rfl
 |m+1=>by
  have ih:=@con_sew p V l es m
  show(if 0<gnQ p V l m then seeA (sewM p V l m _) ⟨m,worthS p m⟩ else sewM p V l m _)=conW p ((if 0<gnQ p V l m then setT (.i .i64) .b (m:Int) true (senM p V l m es) else senM p V l m es).map (·.1))
  split
  ·rw[ih,conW_see,setT_keys (V:=.b)]
  ·exact ih
theorem senM_fact {p:Prob} {V:List Int} {l:List Fra} {es:List (Int×Bool)} (h:(es.map (·.1)).Nodup):∀{m:Nat},((senM p V l m es).map (·.1)).Nodup∧(senM p V l m es).length≤es.length+m∧∀j:Int,j∈(senM p V l m es).map (·.1)→(0≤j∧j<m)∨j∈es.map (·.1)
 |0=>⟨h,Nat.le_refl _,fun j h=> .inr h⟩
 |m+1=>by
  obtain⟨h1,h2,h3⟩:=@senM_fact p V l es h m
  have e:senM p V l (m+1) es=if 0<gnQ p V l m then setT (.i .i64) .b (m:Int) true (senM p V l m es) else senM p V l m es:=rfl
  rw[e]
  split
  ·have h4:=@setT_len .b (m:Int) true (senM p V l m es)
   refine⟨setT_nod (V:=.b) h1,by omega,fun j hj=>?_⟩
   rcases(setT_mem (V:=.b)).1 hj with rfl|hj
   ·exact .inl (by omega)
   ·rcases h3 j hj with h|h
    ·exact .inl (by omega)
    ·exact .inr h
  ·exact⟨h1,by omega,fun j hj=>by
    rcases h3 j hj with h|h
    ·exact .inl (by omega)
    ·exact .inr h⟩
theorem con_conW {k:Nat} {x:FnF} (hi:InvF k x) (hx:okFn x):conS x=conW x.p (x.seen.map (·.1)):=by
 unfold conS conW
 refine List.map_congr_left fun m hm=>?_
 obtain⟨⟨m0,m1⟩,hw⟩:=hi.a m ((sortI_pm _).mem_iff.1 hm)
 obtain⟨⟨q,v⟩,he,rfl⟩:=List.mem_map.1 hw
 have hk:=hx.k _ he
 simp only at hk m0
 unfold wfF
 rw[show((q.toNat:Nat):Int)=q by omega,find_mem1 hi.u he,←hk]
 rfl
theorem inv_new (p:Prob) (c:List Int):InvF 0 (finN p c):=⟨by simp[finN],by simp[finN],by simp[finN],by simp[finN],by simp[finN],by simp[finN]⟩
theorem outF_ok {x:FnF} (hx:okFn x) (l:List Fra):okFn (outF x l):=by
 unfold outF
 split
 ·exact okFn_st hx l _
 ·exact hx
theorem out_inv {k:Nat} {x:FnF} (hx:okFn x) (hi:InvF k x) (l:List Fra):InvF (k+1) (outF x l):=by
 unfold outF
 split
 ·have h4:=pow_4 hx.n4
  have hn:(nOf x:Int)=2^x.p.classes.length:=by unfold nOf;simp
  obtain⟨w1,w2,w3⟩:=@worM_fact x.p x.wor hi.u (nOf x)
  obtain⟨s1,s2,s3⟩:=@senM_fact x.p x.vals l x.seen hi.n (nOf x)
  have hs:=hi.s
  have hw:=hi.w
  refine⟨s1,w1,by simp only;omega,by simp only;omega,fun e he=>?_,fun e he=>?_⟩
  ·rcases s3 e he with h|h
   ·exact⟨by omega,(w3 e).2 (.inl h)⟩
   ·exact⟨(hi.a e h).1,(w3 e).2 (.inr (hi.a e h).2)⟩
  ·rcases(w3 e).1 he with h|h
   ·omega
   ·exact hi.b e h
 ·exact⟨hi.n,hi.u,by have:=hi.s;omega,by have:=hi.w;omega,hi.a,hi.b⟩
theorem con_out {k:Nat} {x:FnF} (hx:okFn x) (hi:InvF k x) (l:List Fra):fSee x.p x.vals l (conS x)=conS (outF x l):=by
 rw[con_conW (out_inv hx hi l) (outF_ok hx l),con_conW hi hx]
 unfold fSee outF
 split
 ·exact con_sew
 ·rfl
theorem out_p (x:FnF) (l:List Fra):(outF x l).p=x.p:=by unfold outF;split<;>rfl
theorem out_v (x:FnF) (l:List Fra):(outF x l).vals=x.vals:=by unfold outF;split<;>rfl
theorem stX_p {p:Prob} {c:List Int} {pays:List (List Fra)}:∀{i:Nat},(stX p c pays i).p=p∧(stX p c pays i).vals=valsS p c
 |0=>⟨rfl,rfl⟩
 |i+1=>by
  have:=@stX_p p c pays i
  exact⟨(out_p _ _).trans this.1,(out_v _ _).trans this.2⟩
theorem stX_ok {p:Prob} {c:List Int} {pays:List (List Fra)} (h:feasE p c=0) (h4:p.classes.length≤4):∀{i:Nat},okFn (stX p c pays i)∧InvF i (stX p c pays i)
 |0=>⟨okFn_new h h4,inv_new p c⟩
 |i+1=>by
  have ih:=@stX_ok p c pays h h4 i
  exact⟨outF_ok ih.1 _,out_inv ih.1 ih.2 _⟩
theorem seen_ok {k:Nat} {x:FnF} (hx:okFn x) (hi:InvF k x) (hk:k≤16):seenOk x:=by
 have hs:=hi.s
 have hw:=hi.w
 refine⟨hi.n,hi.u,by omega,by omega,fun e he=>?_,fun e he=>?_⟩
 ·have:=(hi.a e.1 (List.mem_map.2 ⟨e,he,rfl⟩)).1
  omega
 ·have h1:=hi.b e.1 (List.mem_map.2 ⟨e,he,rfl⟩)
  have h2:=hx.k e he
  have h3:=worth_bd x.p e.1
  rw[h2]
  omega
theorem conS_len (x:FnF):(conS x).length=x.seen.length:=by
 unfold conS
 rw[List.length_map,sortI_len,List.length_map]
def r514u:OCtr:=finCtr 8 (List Fra) (.one (codR sF)) (fun x l=>okFn x∧rawP l)
 (fun x l=> .tup [.agg (encS sStp (fStp x.p x.vals l)),.sb (fIs x.p x.vals l),.si .i64 (fndV x.vals l)]) outF
theorem h514u:HoldsO Tryz.prog r514u:=by
 rintro⟨x,l⟩ ⟨hx,hl⟩
 have hx:okFn x:=hx
 have hl:rawP l:=hl
 by_cases hz:fndV x.vals l=0
 ·have hh:HoldsO Tryz.prog r514:=by exact h514
  obtain⟨h1,h2⟩:=hh (x,l) ⟨⟨hx,hl⟩,hz⟩
  have eR:r514u.res (x,l)=r514.res (x,l):=by
   show SV.tup [.agg (encS sStp (fStp x.p x.vals l)),.sb (fIs x.p x.vals l),.si .i64 (fndV x.vals l)]= .tup [.agg (encS sStp (stpO x.p x.vals l (bstM x.p x.vals l (nOf x)))),.sb (bstM x.p x.vals l (nOf x)).1,.si .i64 0]
   unfold fStp fIs
   rw[if_pos hz,if_pos hz,hz]
   rfl
  have eO:r514u.out (x,l)=r514.out (x,l):=by
   show(outF x l).sto=FnF.sto ⟨x.p,x.vals,x.wins,worM x.p (nOf x) x.wor,senM x.p x.vals l (nOf x) x.seen⟩
   unfold outF
   rw[if_pos hz]
  refine⟨h1,?_⟩
  rw[eR,eO]
  exact h2
 ·have hh:HoldsO Tryz.prog r514e:=by exact h514e
  obtain⟨h1,h2⟩:=hh (x,l) ⟨hl,hz⟩
  have eR:r514u.res (x,l)=r514e.res (x,l):=by
   show SV.tup [.agg (encS sStp (fStp x.p x.vals l)),.sb (fIs x.p x.vals l),.si .i64 (fndV x.vals l)]= .tup [.agg (encS sStp stpZ),.sb false,.si .i64 (fndE x l)]
   unfold fStp fIs
   rw[if_neg hz,if_neg hz]
   rfl
  have eO:r514u.out (x,l)=r514e.out (x,l):=by
   show(outF x l).sto=x.sto
   unfold outF
   rw[if_neg hz]
  refine⟨h1,?_⟩
  rw[eR,eO]
  exact h2
theorem few_stp {x:FnF} (hx:okFn x) {l:List Fra} (hl:rawP l):fewD (fStp x.p x.vals l).2.2:=by
 unfold fStp
 split
 ·rename_i hz
  obtain⟨hln,hok⟩:=fnd_okV hz
  have h4:=hx.n4
  have hV:=hx.l
  unfold stpO
  split
  ·obtain⟨q,k,hq,hsz,hk⟩:=gn_isF hx (rawP_pay hl (by omega) hok) (bstM x.p x.vals l (2^x.p.classes.length)).2.1
   have:=frE_len hsz
   rw[←hq] at this
   exact⟨Nat.le_trans this.1 (by omega),Nat.le_trans this.2 (by omega)⟩
  ·exact⟨by simp[stpZ],by simp[stpZ]⟩
 ·exact⟨by simp[stpZ],by simp[stpZ]⟩
abbrev A536:=Prob×Alloc×List (List Fra)
def r536v (D:A536→Prop):SCtr:=⟨3,A536,.cons codP (.cons codA (.one (codR (.lst sF)))),fun a=>(∀l∈a.2.2,rowD l)∧D a,fun _=> .sb true⟩
def O536 (a:A536) (x:FnF):SStore:=[.cells a.1.ss 27 20 false,.cells [.row (.i .i64) a.2.1.chosen,.si .i64 a.2.1.value] 29 2 false,.cells (x.p.ss++[.row (.i .i64) x.vals,.si .i64 x.wins,.mp 3,.mp 4]) 70 24 false,
  .map (.i .i64) (.i .i64) false x.wor ([0],false) true,.map (.i .i64) .b false x.seen ([0],false) true,.cells (x.p.ss++[.row (.i .i64) x.vals,.row (.i .i64) (tabS x.p),.row .need (conS x)]) 76 23 false]
def Λ536 (a:A536):Nat→LoopAnn
 |12=> .inv Int (fun i=>⟨[(2,.row (.lst sF) a.2.2),(7,.ptr 2 0 24),(9,.ptr 5 0 23),(11,.si .i64 i)],O536 a (stX a.1 a.2.1.chosen a.2.2 i.toNat)⟩)
   (fun s=>iS s 11) (fun i=>0≤i∧i≤a.2.2.length) (fun i=>(a.2.2.length - i).toNat) fun i k=>match k with
   |22=> .inv Int (fun j=>⟨[(2,.row (.lst sF) a.2.2),(7,.ptr 2 0 24),(9,.ptr 5 0 23),(11,.si .i64 i),(18,.row .need (conS (stX a.1 a.2.1.chosen a.2.2 (i.toNat+1)))),(19,.row .need (conS (stX a.1 a.2.1.chosen a.2.2 (i.toNat+1)))),(20,.si .i64 j)],
     O536 a (stX a.1 a.2.1.chosen a.2.2 (i.toNat+1))++[.cells (encS sStp (fStp a.1 (valsS a.1 a.2.1.chosen) (nthD a.2.2 i.toNat []))) 49 7 false,.cells (encS sStp (fStp a.1 (valsS a.1 a.2.1.chosen) (nthD a.2.2 i.toNat []))) 53 7 false]⟩)
    (fun s=>iS s 20) (fun j=>0≤j∧j≤(conS (stX a.1 a.2.1.chosen a.2.2 (i.toNat+1))).length) (fun j=>((conS (stX a.1 a.2.1.chosen a.2.2 (i.toNat+1))).length - j).toNat) fun _ _=> .look
   |_=> .look
 |_=> .look
theorem h536a:Holds Tryz.prog (r536v fun a=>newE a.1 a.2.1≠0):=by
 refine conE (L:=[r511,r512,r516]) (W:=ownT [r513e,r537e]) (r536v _) (fG 3) lk (ownT_ok (by simpa using⟨h513e,h537e⟩)) (by simpa using⟨h511,h512,h516⟩) ?_
 rintro⟨p,⟨c,v⟩,l⟩ ⟨hl,hE⟩
 refine vcOf (let z0:=decide ((12:Int)<(↑c.length:Int));let z1:=newE p (Alloc.mk c v);let z2:=decide (z1≠(0:Int));True∧((!litB p (8:Int) l)=true→True∧(SV.sb true).same (SV.sb true))∧((!litB p (8:Int) l)=false→(z0=true→True∧(SV.sb true).same (SV.sb true))∧(z0=false→(z1≠(0:Int)∧c.length≤1000)∧(z1≠(0:Int)∧c.length≤1000)∧(decide (z1≠z1)=true→(SV.bl false).same (SV.sb true))∧(decide (z1≠z1)=false→(z2=true→True∧(SV.sb true).same (SV.sb true))∧(z2=false→(SV.bl false).same (SV.sb true)))))) (by kernel_rfl) ?_
 simp only[vcs]
 have hE:newE p ⟨c,v⟩≠0:=hE
 exact⟨fun _=>trivial,fun hb=>⟨fun _=>trivial,fun hc=>⟨⟨hE,by omega⟩,⟨hE,by omega⟩,fun h=>absurd rfl h,fun _=>⟨fun _=>trivial,fun h=>absurd hE h⟩⟩⟩⟩
theorem h536b:Holds Tryz.prog (r536v fun a=>newE a.1 a.2.1=0):=by
 refine conE (L:=[r511,r512,r516]) (W:=ownT [r513,r537,r514u,r538,r517,r539]) (r536v _) (fG 3) Λ536 (ownT_ok (by simpa using⟨h513,h537,h514u,h538,h517,h539⟩)) (by simpa using⟨h511,h512,h516⟩) ?_
 rintro⟨p,⟨c,v⟩,l⟩ ⟨hl,hE⟩
 refine vcOf (let z0:=decide ((12:Int)<(↑c.length:Int));let z1:=SV.ptr 2 0 24;let z2:=SV.ptr 5 0 23;let z3:=SId.i .i64;let z4:=SObj.cells [SV.si .i64 p.supply.a0,SV.si .i64 p.supply.a1,SV.si .i64 p.supply.a2,SV.si .i64 p.supply.a3,SV.si .i64 p.supply.a4,SV.si .i64 p.supply.a5,SV.si .i64 p.opn.a0,SV.si .i64 p.opn.a1,SV.si .i64 p.opn.a2,SV.si .i64 p.opn.a3,SV.si .i64 p.opn.a4,SV.si .i64 p.opn.a5,SV.si .i64 p.cls.a0,SV.si .i64 p.cls.a1,SV.si .i64 p.cls.a2,SV.si .i64 p.cls.a3,SV.si .i64 p.cls.a4,SV.si .i64 p.cls.a5,SV.row z3 p.classes,SV.row SId.off p.offers] 27 20 false;let z5:=SObj.cells [SV.row z3 c,SV.si .i64 v] 29 2 false;let z6:=(finN p c).p;let z7:=z6.supply;let z8:=[SV.mp 3,SV.mp 4];let z9:=stX p c l 0;let z10:=z9.p.supply;let z11:=SV.si .i64 z10.a0;let z12:=SV.si .i64 z10.a1;let z13:=SV.si .i64 z10.a2;let z14:=SV.si .i64 z10.a3;let z15:=SV.si .i64 z10.a4;let z16:=SV.si .i64 z10.a5;let z17:=z9.p.opn;let z18:=SV.si .i64 z17.a0;let z19:=SV.si .i64 z17.a1;let z20:=SV.si .i64 z17.a2;let z21:=SV.si .i64 z17.a3;let z22:=SV.si .i64 z17.a4;let z23:=SV.si .i64 z17.a5;let z24:=z9.p.cls;let z25:=SV.si .i64 z24.a0;let z26:=SV.si .i64 z24.a1;let z27:=SV.si .i64 z24.a2;let z28:=SV.si .i64 z24.a3;let z29:=SV.si .i64 z24.a4;let z30:=SV.si .i64 z24.a5;let z31:=SV.row z3 z9.p.classes;let z32:=SV.row SId.off z9.p.offers;let z33:=([0],false);let z34:=(finR p c).p;let z35:=z34.supply;let z36:=z34.opn;let z37:=z34.cls;let z38:=(↑l.length:Int);let z39:=sF.lst.dflt;let z40:=SId.i .u32;True∧((!litB p (8:Int) l)=true→True∧(SV.sb true).same (SV.sb true))∧((!litB p (8:Int) l)=false→(z0=true→True∧(SV.sb true).same (SV.sb true))∧(z0=false→((feasE p c=(0:Int)∧v=valueS p c)∧p.classes.length≤4∧c.length≤1000)∧((feasE p c=(0:Int)∧v=valueS p c)∧p.classes.length≤4∧c.length≤1000)∧(false=true→(SV.bl false).same (SV.sb true))∧(false=false→(false=true→(SV.bl false).same (SV.sb true))∧(false=false→((((SV.row sF.lst l).same (SV.row sF.lst l)∧z1.same z1∧z2.same z2∧(SV.il .i64 0).same (SV.si .i64 0)∧True)∧z4.same z4∧z5.same z5∧(SObj.cells (SV.si .i64 z7.a0::SV.si .i64 z7.a1::SV.si .i64 z7.a2::SV.si .i64 z7.a3::SV.si .i64 z7.a4::SV.si .i64 z7.a5::SV.si .i64 z6.opn.a0::SV.si .i64 z6.opn.a1::SV.si .i64 z6.opn.a2::SV.si .i64 z6.opn.a3::SV.si .i64 z6.opn.a4::SV.si .i64 z6.opn.a5::SV.si .i64 z6.cls.a0::SV.si .i64 z6.cls.a1::SV.si .i64 z6.cls.a2::SV.si .i64 z6.cls.a3::SV.si .i64 z6.cls.a4::SV.si .i64 z6.cls.a5::SV.row z3 z6.classes::SV.row SId.off z6.offers::SV.row z3 (finN p c).vals::SV.si .i64 (finN p c).wins::z8) 70 24 false).same (SObj.cells (z11::z12::z13::z14::z15::z16::z18::z19::z20::z21::z22::z23::z25::z26::z27::z28::z29::z30::z31::z32::SV.row z3 z9.vals::SV.si .i64 z9.wins::z8) 70 24 false)∧(SObj.map z3 z3 false (finN p c).wor z33 true).same (SObj.map z3 z3 false z9.wor z33 true)∧(SObj.map z3 SId.b false (finN p c).seen z33 true).same (SObj.map z3 SId.b false z9.seen z33 true)∧(SObj.cells [SV.si .i64 z35.a0,SV.si .i64 z35.a1,SV.si .i64 z35.a2,SV.si .i64 z35.a3,SV.si .i64 z35.a4,SV.si .i64 z35.a5,SV.si .i64 z36.a0,SV.si .i64 z36.a1,SV.si .i64 z36.a2,SV.si .i64 z36.a3,SV.si .i64 z36.a4,SV.si .i64 z36.a5,SV.si .i64 z37.a0,SV.si .i64 z37.a1,SV.si .i64 z37.a2,SV.si .i64 z37.a3,SV.si .i64 z37.a4,SV.si .i64 z37.a5,SV.row z3 z34.classes,SV.row SId.off z34.offers,SV.row z3 (finR p c).vals,SV.row z3 (finR p c).wor,SV.row SId.need (finR p c).seen] 76 23 false).same (SObj.cells [z11,z12,z13,z14,z15,z16,z18,z19,z20,z21,z22,z23,z25,z26,z27,z28,z29,z30,z31,z32,SV.row z3 z9.vals,SV.row z3 (tabS z9.p),SV.row SId.need (conS z9)] 76 23 false)∧True)∧(0:Int)≤(0:Int)∧(0:Int)≤z38)∧∀(x:Int),let z41:=decide (x<(↑l.length:Int));let z42:=stX p c l x.toNat;let z43:=nthD l x.toNat z39;let z44:=z42.p;let z45:=z42.vals;let z46:=decide (fndV z45 z43≠fndV z45 z43);let z47:=!fIs z44 z45 z43==fIs z44 z45 z43;let z48:=(fStp z44 z45 z43).snd;let z49:=(z48.snd.fst,z48.snd.snd.fst,z48.snd.snd.snd);let z50:=(fStp z44 z45 z43).fst;let z51:=!decide ((z50,z48.fst,z49)=(z50,z48.fst,z49));let z52:=outF z42 z43;let z53:=fSee z44 z45 z43 (conS z42);let z54:=decide ((↑(conS z52).length:Int)≠(↑z53.length:Int));let z55:=stX p c l (x.toNat+1);let z56:=SV.row SId.need (conS z55);let z57:=z52.p.supply;let z58:=z52.p.opn;let z59:=z52.p.cls;let z60:=z55.p.supply;let z61:=SV.si .i64 z60.a0;let z62:=SV.si .i64 z60.a1;let z63:=SV.si .i64 z60.a2;let z64:=SV.si .i64 z60.a3;let z65:=SV.si .i64 z60.a4;let z66:=SV.si .i64 z60.a5;let z67:=z55.p.opn;let z68:=SV.si .i64 z67.a0;let z69:=SV.si .i64 z67.a1;let z70:=SV.si .i64 z67.a2;let z71:=SV.si .i64 z67.a3;let z72:=SV.si .i64 z67.a4;let z73:=SV.si .i64 z67.a5;let z74:=z55.p.cls;let z75:=SV.si .i64 z74.a0;let z76:=SV.si .i64 z74.a1;let z77:=SV.si .i64 z74.a2;let z78:=SV.si .i64 z74.a3;let z79:=SV.si .i64 z74.a4;let z80:=SV.si .i64 z74.a5;let z81:=SV.row z3 z55.p.classes;let z82:=SV.row SId.off z55.p.offers;let z83:=SObj.cells (z61::z62::z63::z64::z65::z66::z68::z69::z70::z71::z72::z73::z75::z76::z77::z78::z79::z80::z81::z82::SV.row z3 z55.vals::SV.si .i64 z55.wins::z8) 70 24 false;let z84:=SObj.map z3 z3 false z55.wor z33 true;let z85:=SObj.map z3 SId.b false z55.seen z33 true;let z86:=z44.supply;let z87:=z44.opn;let z88:=z44.cls;let z89:=SObj.cells [z61,z62,z63,z64,z65,z66,z68,z69,z70,z71,z72,z73,z75,z76,z77,z78,z79,z80,z81,z82,SV.row z3 z55.vals,SV.row z3 (tabS z55.p),z56] 76 23 false;let z90:=[SV.si .i64 z50.payers,SV.si .i64 z50.least,SV.si .i64 z48.fst.payers,SV.si .i64 z48.fst.least,SV.sb z48.snd.fst,SV.row z40 z48.snd.snd.fst,SV.row z40 z48.snd.snd.snd];let z91:=fStp p (valsS p c) (nthD l x.toNat []);let z92:=[SV.si .i64 z91.fst.payers,SV.si .i64 z91.fst.least,SV.si .i64 z91.snd.fst.payers,SV.si .i64 z91.snd.fst.least,SV.sb z91.snd.snd.fst,SV.row z40 z91.snd.snd.snd.fst,SV.row z40 z91.snd.snd.snd.snd];let z93:=SObj.cells z92 49 7 false;let z94:=SObj.cells z92 53 7 false;let z95:=(↑(conS z55).length:Int);let z96:=(↑(conS z55).length:Int);let z97:=x+(1:Int);let z98:=SV.si .i64 z97;let z99:=stX p c l z97.toNat;let z100:=z99.p.supply;let z101:=SV.si .i64 z100.a0;let z102:=SV.si .i64 z100.a1;let z103:=SV.si .i64 z100.a2;let z104:=SV.si .i64 z100.a3;let z105:=SV.si .i64 z100.a4;let z106:=SV.si .i64 z100.a5;let z107:=z99.p.opn;let z108:=SV.si .i64 z107.a0;let z109:=SV.si .i64 z107.a1;let z110:=SV.si .i64 z107.a2;let z111:=SV.si .i64 z107.a3;let z112:=SV.si .i64 z107.a4;let z113:=SV.si .i64 z107.a5;let z114:=z99.p.cls;let z115:=SV.si .i64 z114.a0;let z116:=SV.si .i64 z114.a1;let z117:=SV.si .i64 z114.a2;let z118:=SV.si .i64 z114.a3;let z119:=SV.si .i64 z114.a4;let z120:=SV.si .i64 z114.a5;let z121:=SV.row z3 z99.p.classes;let z122:=SV.row SId.off z99.p.offers;(0:Int)≤x∧x≤z38→(z41=true→(0:Int)≤x∧x<(↑l.length:Int)∧x.toNat<l.length∧(okFn z42∧rawP z43)∧(0:Int)≤x∧x<(↑l.length:Int)∧x.toNat<l.length∧(okFr (FnR.mk z44 z45 (tabS z44) (conS z42))∧rawP z43∧(conS z42).length≤500)∧(z46=true→(SV.bl false).same (SV.sb true))∧(z46=false→(z47=true→(SV.bl false).same (SV.sb true))∧(z47=false→(fewD z49∧fewD z49)∧(z51=true→(SV.bl false).same (SV.sb true))∧(z51=false→seenOk z52∧z53.length≤1000∧(z54=true→(SV.bl false).same (SV.sb true))∧(z54=false→((((SV.row sF.lst l).same (SV.row sF.lst l)∧z1.same z1∧z2.same z2∧(SV.si .i64 x).same (SV.si .i64 x)∧(SV.row SId.need (conS z52)).same z56∧(SV.row SId.need z53).same z56∧(SV.il .i64 0).same (SV.si .i64 0)∧True)∧z4.same z4∧z5.same z5∧(SObj.cells (SV.si .i64 z57.a0::SV.si .i64 z57.a1::SV.si .i64 z57.a2::SV.si .i64 z57.a3::SV.si .i64 z57.a4::SV.si .i64 z57.a5::SV.si .i64 z58.a0::SV.si .i64 z58.a1::SV.si .i64 z58.a2::SV.si .i64 z58.a3::SV.si .i64 z58.a4::SV.si .i64 z58.a5::SV.si .i64 z59.a0::SV.si .i64 z59.a1::SV.si .i64 z59.a2::SV.si .i64 z59.a3::SV.si .i64 z59.a4::SV.si .i64 z59.a5::SV.row z3 z52.p.classes::SV.row SId.off z52.p.offers::SV.row z3 z52.vals::SV.si .i64 z52.wins::z8) 70 24 false).same z83∧(SObj.map z3 z3 false z52.wor z33 true).same z84∧(SObj.map z3 SId.b false z52.seen z33 true).same z85∧(SObj.cells [SV.si .i64 z86.a0,SV.si .i64 z86.a1,SV.si .i64 z86.a2,SV.si .i64 z86.a3,SV.si .i64 z86.a4,SV.si .i64 z86.a5,SV.si .i64 z87.a0,SV.si .i64 z87.a1,SV.si .i64 z87.a2,SV.si .i64 z87.a3,SV.si .i64 z87.a4,SV.si .i64 z87.a5,SV.si .i64 z88.a0,SV.si .i64 z88.a1,SV.si .i64 z88.a2,SV.si .i64 z88.a3,SV.si .i64 z88.a4,SV.si .i64 z88.a5,SV.row z3 z44.classes,SV.row SId.off z44.offers,SV.row z3 z45,SV.row z3 (tabS z44),SV.row SId.need z53] 76 23 false).same z89∧(SObj.cells z90 49 7 false).same z93∧(SObj.cells z90 53 7 false).same z94∧True)∧(0:Int)≤(0:Int)∧(0:Int)≤z95)∧∀(x_1:Int),let z123:=nthD (conS z55) x_1.toNat SId.need.dflt;let z124:=!(decide (z123.payers=z123.payers)&&(decide (z123.least=z123.least)&&true));let z125:=x_1+(1:Int);let z126:=SV.si .i64 x;let z127:=SV.si .i64 z125;(0:Int)≤x_1∧x_1≤z95→(decide (x_1<z96)=true→(0:Int)≤x_1∧x_1<z96∧x_1.toNat<(conS z55).length∧(0:Int)≤x_1∧x_1<z96∧x_1.toNat<(conS z55).length∧(z124=true→(SV.bl false).same (SV.sb true))∧(z124=false→inR .i64 z125∧(((SV.row sF.lst l).same (SV.row sF.lst l)∧z1.same z1∧z2.same z2∧z126.same z126∧z56.same z56∧z56.same z56∧z127.same z127∧True)∧z4.same z4∧z5.same z5∧z83.same z83∧z84.same z84∧z85.same z85∧z89.same z89∧z93.same z93∧z94.same z94∧True)∧((0:Int)≤z125∧z125≤z95)∧(z95 - z125).toNat<(z95 - x_1).toNat))∧(decide (x_1<z96)=false→inR .i64 z97∧(((SV.row sF.lst l).same (SV.row sF.lst l)∧z1.same z1∧z2.same z2∧z98.same z98∧True)∧z4.same z4∧z5.same z5∧z83.same (SObj.cells (z101::z102::z103::z104::z105::z106::z108::z109::z110::z111::z112::z113::z115::z116::z117::z118::z119::z120::z121::z122::SV.row z3 z99.vals::SV.si .i64 z99.wins::z8) 70 24 false)∧z84.same (SObj.map z3 z3 false z99.wor z33 true)∧z85.same (SObj.map z3 SId.b false z99.seen z33 true)∧z89.same (SObj.cells [z101,z102,z103,z104,z105,z106,z108,z109,z110,z111,z112,z113,z115,z116,z117,z118,z119,z120,z121,z122,SV.row z3 z99.vals,SV.row z3 (tabS z99.p),SV.row SId.need (conS z99)] 76 23 false)∧True)∧((0:Int)≤z97∧z97≤z38)∧(z38 - z97).toNat<(z38 - x).toNat))))))∧(z41=false→True∧(SV.sb true).same (SV.sb true))))))) (by kernel_rfl) ?_
 simp only[vcs]
 have hE:newE p ⟨c,v⟩=0:=hE
 have hl:∀r∈l,rowD r:=hl
 have hz:=newE_zero hE
 have hz1:feasE p c=0:=hz.1
 refine⟨fun _=>trivial,fun hb=>⟨fun _=>trivial,fun hc=>?_⟩⟩
 obtain⟨_,h4,h6,h5⟩:=lit_ok hb
 have hc0:conS (stX p c l 0)=[]:=by
  unfold conS
  simp[stX,finN,sortI]
 rw[hc0]
 refine⟨⟨hz,h4,by omega⟩,⟨hz,h4,by omega⟩,fun h=>h,fun _=>⟨fun h=>h,fun _=>⟨⟨⟨rfl,rfl,rfl,rfl⟩,by omega,by omega⟩,?_⟩⟩⟩
 rintro i ⟨i0,i1⟩
 have e:(i+1).toNat=i.toNat+1:=by omega
 have ed:(SId.lst sF).dflt=([]:List Fra):=rfl
 obtain⟨ex,ev⟩:=@stX_p p c l i.toNat
 obtain⟨ex1,ev1⟩:=@stX_p p c l (i.toNat+1)
 obtain⟨ok,inv⟩:=@stX_ok p c l hz1 h4 i.toNat
 obtain⟨ok1,inv1⟩:=@stX_ok p c l hz1 h4 (i.toNat+1)
 have eS:outF (stX p c l i.toNat) (nthD l i.toNat [])=stX p c l (i.toNat+1):=rfl
 have hcs:fSee p (valsS p c) (nthD l i.toNat []) (conS (stX p c l i.toNat))=conS (stX p c l (i.toNat+1)):=by
  have h:=con_out ok inv (nthD l i.toNat [])
  rw[ex,ev] at h
  exact h
 have hn0:okFn (finN p c):=okFn_new hz1 h4
 have hfr:∀s,okFr ⟨p,valsS p c,tabS p,s⟩:=fun s=>⟨hn0.c,h4,hn0.l,hn0.v,rfl⟩
 have hl0:=conS_len (stX p c l i.toNat)
 have hl1:=conS_len (stX p c l (i.toNat+1))
 have hs0:=inv.s
 have hs1:=inv1.s
 simp only[ed,ex,ev,hcs,eS,ex1,ev1,e]
 refine⟨fun hi=>?_,fun _=>trivial⟩
 have hm:=nthD_mem (d:=([]:List Fra)) (show i.toNat<l.length by omega)
 obtain⟨h8,hx2⟩:=h5 _ hm
 have hraw:=raw_lit (hl _ hm) h8 hx2
 have hfw:=few_stp ok hraw
 rw[ex,ev] at hfw
 have hso:=seen_ok ok1 inv1 (by omega)
 refine⟨i0,hi,by omega,⟨ok,hraw⟩,i0,hi,by omega,⟨hfr _,hraw,by omega⟩,fun h=>absurd rfl h,fun _=>⟨fun h=>by simp at h,fun _=>⟨⟨hfw,hfw⟩,fun h=>absurd trivial h,fun _=>⟨hso,by omega,fun h=>absurd rfl h,fun _=>⟨⟨⟨(by trivial),rfl,rfl,rfl,rfl,rfl,rfl⟩,by omega,by omega⟩,?_⟩⟩⟩⟩⟩
 rintro j ⟨j0,j1⟩
 exact⟨fun hj=>⟨j0,hj,by omega,j0,hj,by omega,fun h=>by simp at h,fun _=>⟨⟨by omega,by omega⟩,⟨by omega,by omega⟩,by omega⟩⟩,fun _=>⟨⟨by omega,by omega⟩,⟨rfl,rfl,rfl,rfl⟩,⟨by omega,by omega⟩,by omega⟩⟩
def r536:SCtr:=r536v fun _=>True
theorem h536:Holds Tryz.prog r536:=by
 have ha:Holds Tryz.prog (r536v fun a=>newE a.1 a.2.1≠0):=by exact h536a
 have hb:Holds Tryz.prog (r536v fun a=>newE a.1 a.2.1=0):=by exact h536b
 intro a hd
 by_cases h:newE a.1 a.2.1=0
 ·exact hb a ⟨hd.1,h⟩
 ·exact ha a ⟨hd.1,h⟩
end Go.Vi
