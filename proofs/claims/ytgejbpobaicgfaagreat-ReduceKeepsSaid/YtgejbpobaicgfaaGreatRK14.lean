/-
  Plain law: the first best list is found by looking, offer by offer, whether the rest can still reach the best value.
  Conditions: none.
-/
import Derived.Test.YtgejbpobaicgfaaGreatRK06
import Derived.Test.YtgejbpobaicgfaaGreatRK07
import Derived.Test.YtgejbpobaicgfaaGreatRK08
import Derived.Test.YtgejbpobaicgfaaGreatRK10
import Derived.Test.YtgejbpobaicgfaaGreatRK13
import Derived.Test.YtgejbpobaicgfaaGreatRK09
import Derived.Test.YtgejbpobaicgfaaGreatRK11
import Derived.Test.YtgejbpobaicgfaaGreatRK12
set_option maxRecDepth 100000
set_option maxHeartbeats 4000000
set_option linter.all false
namespace Go.Vi
structure Kt where
 left:dp
 opn:dp
 chosen:List Int
 value:Int
 won:List Bool
def nd (c w cl:Int):Int:=if c=0\/c≠cl then w else 0
def agt (p:cn) (x:Off):dp:=⟨nd p.cls.a0 x.want.a0 (MZ p x),nd p.cls.a1 x.want.a1 (MZ p x),nd p.cls.a2 x.want.a2 (MZ p x),nd p.cls.a3 x.want.a3 (MZ p x),nd p.cls.a4 x.want.a4 (MZ p x),nd p.cls.a5 x.want.a5 (MZ p x)⟩
def dp.pos (b:dp):Bool:=decide (0<=b.a0)&&decide (0<=b.a1)&&decide (0<=b.a2)&&decide (0<=b.a3)&&decide (0<=b.a4)&&decide (0<=b.a5)
def Bd (p:cn) (u:Kt) (x:Off):dp:=(u.opn.sub (agt p x)).meet (u.left.sub x.want)
def HH (p:cn) (u:Kt) (x:Off):Bool:=!(bo u.won x.iy.toNat false)&&((u.left.sub x.want).pos&&(Bd p u x).pos)
def uB (p:cn) (u:Kt) (i:Int):Kt:=⟨u.left.sub (oI p i).want,Bd p u (oI p i),u.chosen++[i],u.value+(oI p i).value,u.won.set (oI p i).iy.toNat true⟩
def Bn (p:cn) (u:Kt) (k:Nat):cn:=⟨u.left,u.opn,p.cls,p.classes,(p.offers.drop k).filter (HH p u)⟩
theorem sB1 {x:dp}:qM [x]=x:=by simp[qM]
theorem six {P:Nat->Prop} (h0:P 0) (h1:P 1) (h2:P 2) (h3:P 3) (h4:P 4) (h5:P 5):∀k,k<6->P k:=by
 intro k hk
 rcases(show k=0\/k=1\/k=2\/k=3\/k=4\/k=5 by omega) with rfl|rfl|rfl|rfl|rfl|rfl
 ·exact h0
 ·exact h1
 ·exact h2
 ·exact h3
 ·exact h4
 ·exact h5
theorem aj1 {a b:dp}:∀k,k<6->(a.sub b).at k=a.at k - b.at k:=six rfl rfl rfl rfl rfl rfl
theorem ah8 {a b:dp}:∀k,k<6->(a.add b).at k=a.at k+b.at k:=six rfl rfl rfl rfl rfl rfl
theorem ayc {a b:dp}:∀k,k<6->(a.meet b).at k=min (a.at k) (b.at k):=six rfl rfl rfl rfl rfl rfl
theorem arq {p:cn} {x:Off}:∀k,k<6->(agt p x).at k=nd (p.cls.at k) (x.want.at k) (MZ p x):=six rfl rfl rfl rfl rfl rfl
theorem aj2 {p:cn} {x:Off}:∀k,k<6->(tf p x).at k=if p.cls.at k=0\/p.cls.at k=MZ p x then 0 else x.want.at k:=by
 refine six ?_ ?_ ?_ ?_ ?_ ?_<;>(show oc _ _ _ _ _=_;unfold oc;simp only[show((0:Int)<6)=True by simp,show((1:Int)<6)=True by simp,show((2:Int)<6)=True by simp,show((3:Int)<6)=True by simp,show((4:Int)<6)=True by simp,show((5:Int)<6)=True by simp,true_and];rfl)
theorem ayd {b:dp}:b.pos=true↔∀k,k<6->0<=b.at k:=by
 unfold dp.pos;simp only[Bool.and_eq_true,decide_eq_true_eq]
 constructor
 ·rintro⟨⟨⟨⟨⟨h0,h1⟩,h2⟩,h3⟩,h4⟩,h5⟩
  exact six h0 h1 h2 h3 h4 h5
 ·intro h
  exact⟨⟨⟨⟨⟨h 0 (by omega),h 1 (by omega)⟩,h 2 (by omega)⟩,h 3 (by omega)⟩,h 4 (by omega)⟩,h 5 (by omega)⟩
theorem aye {a b:dp} (h:∀k,k<6->a.at k=b.at k):a=b:=by
 obtain⟨a0,a1,a2,a3,a4,a5⟩:=a
 obtain⟨b0,b1,b2,b3,b4,b5⟩:=b
 have e0:a0=b0:=h 0 (by omega)
 have e1:a1=b1:=h 1 (by omega)
 have e2:a2=b2:=h 2 (by omega)
 have e3:a3=b3:=h 3 (by omega)
 have e4:a4=b4:=h 4 (by omega)
 have e5:a5=b5:=h 5 (by omega)
 subst e0 e1 e2 e3 e4 e5;rfl
theorem adO {b:dp}:b.ok=true↔∀k,k<6->0<=b.at k/\b.at k<=4:=by
 rw[dp.Kz]
 constructor
 ·rintro⟨h0,h1,h2,h3,h4,h5⟩
  exact six h0 h1 h2 h3 h4 h5
 ·intro h
  exact⟨h 0 (by omega),h 1 (by omega),h 2 (by omega),h 3 (by omega),h 4 (by omega),h 5 (by omega)⟩
theorem ars {p:cn} {k:Nat} (hk:k<6):∀L:List Off,(qM (L.map (agt p))).at k=if p.cls.at k=0 then(qM (L.map Off.want)).at k else(qM (L.map (tf p))).at k:=by
 intro L;rw[aaQ,aaQ,aaQ]
 induction L with
 |nil=>simp
 |cons x L ih=>
  simp only[List.map_cons,List.sum_cons];rw[ih,arq k hk,aj2 k hk];unfold nd
  by_cases h:p.cls.at k=0
  ·simp[h]
  ·simp only[h,false_or,if_false]
   by_cases h2:p.cls.at k=MZ p x
   ·simp[h2]
   ·simp[h2]
theorem aru {p:cn} {k:Nat} (hk:k<6) (h0:p.cls.at k=0):∀L:List Off,(qM (L.map (tf p))).at k=0:=by
 intro L;rw[aaQ]
 induction L with
 |nil=>simp
 |cons x L ih=>
  simp only[List.map_cons,List.sum_cons];rw[ih,aj2 k hk,if_pos (.inl h0)];rfl
theorem amQ {p:cn} (hg:Good p) {k:Nat} (hk:k<6):∀{L:List Off},(∀x∈L,x∈p.offers)->0<=(qM (L.map Off.want)).at k/\(qM (L.map (tf p))).at k<=(qM (L.map Off.want)).at k/\0<=(qM (L.map (tf p))).at k:=by
 intro L;rw[aaQ,aaQ]
 induction L with
 |nil=>intro _;simp
 |cons x L ih=>
  intro h
  have i1:=ih fun y hy=>h y (List.mem_cons_of_mem _ hy)
  have hw:=(adO.1 (hg.2.2.2.2 x (h x (List.mem_cons_self ..))).2.2.1 k hk)
  simp only[List.map_cons,List.sum_cons];rw[aj2 k hk]
  split<;>omega
theorem agu {p:cn} (hc:dV p=0) {k:Nat} (hk:k<6):0<=p.cls.at k/\p.cls.at k<=4/\0<=p.opn.at k/\p.opn.at k<=p.supply.at k/\(p.cls.at k=0->p.opn.at k=p.supply.at k):=by
 have h:=abl.1 ((aeT (aec hc).1).2.1 k hk)
 exact⟨h.1,h.2.1,h.2.2.1,h.2.2.2.1,fun h0=>by rcases h.2.2.2.2 with h1|h1;exact absurd h0 h1;exact h1⟩
theorem ah9 {a b:dp}:a.le b=true↔∀k,k<6->a.at k<=b.at k:=⟨fun h k _=>aoX h k,aoZ⟩
structure adP (p:cn) (u:Kt):Prop where
 f:adw p u.chosen
 v:u.value=jd (jA p u.chosen)
 l:∀k,k<6->u.left.at k=p.supply.at k - (qM ((jA p u.chosen).map Off.want)).at k
 o:∀k,k<6->u.opn.at k=min (p.opn.at k - (qM ((jA p u.chosen).map (agt p))).at k) (u.left.at k)
 wl:u.won.length=8
 w:∀b:Int,0<=b->b<8->bo u.won b.toNat false=decide (b∈(jA p u.chosen).map Off.iy)
theorem arv {p:cn} {t:List Int} (h:aaP 0 p.offers.length t):∀x∈jA p t,x∈p.offers:=fun x hx=>by
 obtain⟨i,hi,rfl⟩:=List.mem_map.1 hx
 have:=h.2 i hi
 exact nA (by omega)
section
variable {p:cn} {u:Kt}
theorem aj3 {L M:List Off}:Da p (L++M)↔((L.map Off.iy++M.map Off.iy).Nodup/\(∀k,k<6->(qM (L.map Off.want)).at k+(qM (M.map Off.want)).at k<=p.supply.at k)/\∀k,k<6->(qM (L.map (tf p))).at k+(qM (M.map (tf p))).at k<=p.opn.at k):=by
 unfold Da;rw[List.map_append,List.map_append,List.map_append,afS,afS,ah9,ah9]
 constructor
 ·rintro⟨h1,h2,h3⟩
  exact⟨h1,fun k hk=>by rw[<-ah8 k hk];exact h2 k hk,fun k hk=>by rw[<-ah8 k hk];exact h3 k hk⟩
 ·rintro⟨h1,h2,h3⟩
  exact⟨h1,fun k hk=>by rw[ah8 k hk];exact h2 k hk,fun k hk=>by rw[ah8 k hk];exact h3 k hk⟩
theorem amR (hc:dV p=0) (hg:adP p u) {x:Off} (hx:x∈p.offers):HH p u x=true↔Da p (jA p u.chosen++[x]):=by
 have hgo:=pz hc
 have hb:=hgo.2.2.2.2 x hx
 have hc8:=hgo.1
 have hm:=arv hg.f.1
 rw[aj3];unfold HH
 rw[Bool.and_eq_true,Bool.and_eq_true,ayd,ayd,Bool.not_eq_true',hg.w _ hb.1 (by omega),decide_eq_false_iff_not]
 simp only[List.map_cons,List.map_nil,sB1]
 have key:∀k,k<6->((0<=(u.left.sub x.want).at k/\0<=(Bd p u x).at k)↔((qM ((jA p u.chosen).map Off.want)).at k+x.want.at k<=p.supply.at k/\(qM ((jA p u.chosen).map (tf p))).at k+(tf p x).at k<=p.opn.at k)):=fun k hk=>by
  have e1:=hg.l k hk
  have e2:=hg.o k hk
  have e3:=ars (p:=p) hk (jA p u.chosen)
  have e4:=@arq p x k hk
  have e5:=@aj2 p x k hk
  have hp:=agu hc hk
  have hw:=adO.1 hb.2.2.1 k hk
  have hpos:=amQ hgo hk hm
  unfold Bd;rw[ayc k hk,aj1 k hk,aj1 k hk,e4,e5];unfold nd
  by_cases h0:p.cls.at k=0
  ·have e6:=aru hk h0 (jA p u.chosen)
   have:=hp.2.2.2.2 h0
   simp only[h0,true_or,if_true] at e3 ⊢;omega
  ·simp only[h0,false_or,if_false] at e3 ⊢
   by_cases h2:p.cls.at k=MZ p x
   ·simp only[h2,ne_eq,not_true_eq_false,if_false,if_true] at e3 ⊢
    omega
   ·simp only[h2,ne_eq,not_false_eq_true,if_true,if_false] at e3 ⊢
    omega
 constructor
 ·rintro⟨h1,h2,h3⟩
  refine⟨?_,fun k hk=>((key k hk).1 ⟨h2 k hk,h3 k hk⟩).1,fun k hk=>((key k hk).1 ⟨h2 k hk,h3 k hk⟩).2⟩
  rw[List.nodup_append]
  refine⟨hg.f.2.1,by simp,?_⟩
  intro a ha b hb2;simp only[List.mem_singleton] at hb2;subst hb2
  exact fun e=>h1 (e▸ha)
 ·rintro⟨h1,h2,h3⟩
  refine⟨fun hmem=>?_,fun k hk=>((key k hk).2 ⟨h2 k hk,h3 k hk⟩).1,fun k hk=>((key k hk).2 ⟨h2 k hk,h3 k hk⟩).2⟩
  rw[List.nodup_append] at h1
  exact h1.2.2 _ hmem _ (List.mem_singleton.2 rfl) rfl
theorem adP.next (hc:dV p=0) (hg:adP p u) {i:Int} (h0:∀j∈u.chosen,j<i) (hi:0<=i/\i<p.offers.length) (hw:HH p u (oI p i)=true):adP p (uB p u i):=by
 have hx:oI p i∈p.offers:=nA (by omega)
 have hF:=(amR hc hg hx).1 hw
 have hgo:=pz hc
 have hb:=hgo.2.2.2.2 _ hx
 have hc8:=hgo.1
 have e:jA p (u.chosen++[i])=jA p u.chosen++[oI p i]:=by unfold jA;rw[List.map_append];rfl
 refine⟨⟨⟨?_,?_⟩,?_⟩,?_,?_,?_,?_,?_⟩
 ·show(u.chosen++[i]).Pairwise _
  rw[List.pairwise_append]
  exact⟨hg.f.1.1,List.pairwise_singleton _ _,fun a ha b hb=>by rw[List.mem_singleton] at hb;subst hb;exact h0 a ha⟩
 ·intro j hj
  rcases List.mem_append.1 hj with h|h
  ·exact hg.f.1.2 j h
  ·rw[List.mem_singleton] at h;subst h;omega
 ·show Da p (jA p (u.chosen++[i]))
  rw[e];exact hF
 ·show u.value+_=jd (jA p (u.chosen++[i]))
  rw[e,abK,hg.v]
  simp[jd]
 ·intro k hk
  show(u.left.sub _).at k=_ - (qM ((jA p (u.chosen++[i])).map Off.want)).at k
  rw[e,List.map_append,afS,ah8 k hk,aj1 k hk,hg.l k hk];simp only[List.map_cons,List.map_nil,sB1];omega
 ·intro k hk
  show(Bd p u (oI p i)).at k=min (_ - (qM ((jA p (u.chosen++[i])).map (agt p))).at k) ((u.left.sub (oI p i).want).at k)
  unfold Bd;rw[e,List.map_append,afS,ah8 k hk,ayc k hk,aj1 k hk,aj1 k hk,hg.o k hk];simp only[List.map_cons,List.map_nil,sB1]
  have e4:=@arq p (oI p i) k hk
  have hw:=adO.1 hb.2.2.1 k hk
  have:(agt p (oI p i)).at k<=(oI p i).want.at k:=by
   rw[e4];unfold nd;split<;>omega
  omega
 ·show(u.won.set _ true).length=8
  rw[List.length_set];exact hg.wl
 ·intro b b0 b8
  show bo (u.won.set (oI p i).iy.toNat true) b.toNat false=decide (b∈(jA p (u.chosen++[i])).map Off.iy)
  have hwl:=hg.wl
  rw[e,List.map_append,adH (by omega)]
  simp only[List.map_cons,List.map_nil]
  by_cases h:b=(oI p i).iy
  ·subst h
   rw[if_pos rfl]
   exact(decide_eq_true (List.mem_append_right _ (List.mem_singleton.2 rfl))).symm
  ·rw[if_neg (by omega),hg.w b b0 b8]
   congr 1
   rw[List.mem_append,List.mem_singleton]
   simp[h]
theorem arw (hc:dV p=0) (hg:adP p u) {k:Nat} {M:List Off} (hM:∀x∈M,x∈p.offers) (hw:∀x∈M,HH p u x=true):Da (Bn p u k) M↔Da p (jA p u.chosen++M):=by
 have hgo:=pz hc
 have hc8:=hgo.1
 have hm:=arv hg.f.1
 rw[aj3];unfold Da;rw[ah9,ah9]
 have eo:∀x:Off,tf (Bn p u k) x=tf p x:=fun x=>rfl
 have eo2:M.map (tf (Bn p u k))=M.map (tf p):=rfl
 rw[eo2]
 have key:∀j,j<6->(((qM (M.map Off.want)).at j<=(Bn p u k).supply.at j/\(qM (M.map (tf p))).at j<=(Bn p u k).opn.at j)↔((qM ((jA p u.chosen).map Off.want)).at j+(qM (M.map Off.want)).at j<=p.supply.at j/\(qM ((jA p u.chosen).map (tf p))).at j+(qM (M.map (tf p))).at j<=p.opn.at j)):=fun j hj=>by
  have e1:=hg.l j hj
  have e2:=hg.o j hj
  have e3:=ars (p:=p) hj (jA p u.chosen)
  have hp:=agu hc hj
  have w1:=amQ hgo hj hm
  have w2:=amQ hgo hj hM
  have r1:(Bn p u k).supply.at j=u.left.at j:=rfl
  have r2:(Bn p u k).opn.at j=u.opn.at j:=rfl
  rw[r1,r2,e2]
  by_cases h0:p.cls.at j=0
  ·have e6:=aru hj h0 (jA p u.chosen)
   have e7:=aru hj h0 M
   have:=hp.2.2.2.2 h0
   simp only[h0,if_true] at e3;omega
  ·simp only[h0,if_false] at e3
   omega
 constructor
 ·rintro⟨h1,h2,h3⟩
  refine⟨?_,fun j hj=>((key j hj).1 ⟨h2 j hj,h3 j hj⟩).1,fun j hj=>((key j hj).1 ⟨h2 j hj,h3 j hj⟩).2⟩
  rw[List.nodup_append]
  refine⟨hg.f.2.1,h1,?_⟩
  intro a ha b hb e;subst e
  obtain⟨x,hx,rfl⟩:=List.mem_map.1 hb
  have h4:=hw x hx
  have hb:=hgo.2.2.2.2 x (hM x hx)
  unfold HH at h4
  rw[Bool.and_eq_true,Bool.not_eq_true',hg.w _ hb.1 (by omega),decide_eq_false_iff_not] at h4
  exact h4.1 ha
 ·rintro⟨h1,h2,h3⟩
  refine⟨(List.nodup_append.1 h1).2.1,fun j hj=>((key j hj).2 ⟨h2 j hj,h3 j hj⟩).1,fun j hj=>((key j hj).2 ⟨h2 j hj,h3 j hj⟩).2⟩
theorem aG3 {q:cn} (hf:EH q=0) (h:∀x∈q.offers,MR q x=0) (hn:(q.offers.map Off.key).Nodup):dV q=0:=by
 have key:∀(l:List Off) (s:List aaH),(∀x∈l,MR q x=0)->(l.map Off.key).Nodup->(∀x∈l,x.key∉s)->CN q s l=0:=by
  intro l
  induction l with
  |nil=>intro s _ _ _;rfl
  |cons x l ih=>
   intro s h1 h2 h3;unfold CN
   rw[if_neg (by rw[h1 x (List.mem_cons_self ..)];simp),if_neg (h3 x (List.mem_cons_self ..))]
   rw[List.map_cons,List.nodup_cons] at h2
   refine ih _ (fun y hy=>h1 y (List.mem_cons_of_mem _ hy)) h2.2 fun y hy hm=>?_
   rcases List.mem_append.1 hm with h|h
   ·exact h3 y (List.mem_cons_of_mem _ hy) h
   ·rw[List.mem_singleton] at h
    exact h2.1 (h▸List.mem_map_of_mem hy)
 unfold dV
 rw[if_neg (by rw[hf];simp)]
 exact key _ _ h hn fun _ _=>by simp
theorem amS (hc:dV p=0) (hg:adP p u) {k:Nat}:dV (Bn p u k)=0:=by
 have hgo:=pz hc
 have hm:=arv hg.f.1
 have hF:=(aj3 (p:=p) (L:=jA p u.chosen) (M:=[])).1 (by rw[List.append_nil];exact hg.f.2)
 obtain⟨hfr,hof⟩:=aec hc
 obtain⟨f1,f2,f3,f4,f5⟩:=aeT hfr
 have hin:∀x∈(Bn p u k).offers,x∈p.offers/\HH p u x=true:=fun x hx=>by
  obtain⟨h1,h2⟩:=List.mem_filter.1 hx
  exact⟨List.mem_of_mem_drop h1,h2⟩
 have hz:(qM (([]:List Off).map Off.want))=dp.zero:=rfl
 have hla:∀j,j<6->0<=u.left.at j/\u.left.at j<=4:=fun j hj=>by
  have e1:=hg.l j hj
  have w1:=amQ hgo hj hm
  have h2:=hF.2.1 j hj
  have h3:(qM (([]:List Off).map Off.want)).at j=0:=by rw[aaQ];rfl
  have h4:=adO.1 f1 j hj
  omega
 have hoa:∀j,j<6->0<=u.opn.at j/\u.opn.at j<=u.left.at j/\(p.cls.at j=0->u.opn.at j=u.left.at j):=fun j hj=>by
  have e1:=hg.l j hj
  have e2:=hg.o j hj
  have e3:=ars (p:=p) hj (jA p u.chosen)
  have hp:=agu hc hj
  have h2:=hF.2.1 j hj
  have h5:=hF.2.2 j hj
  have h3:(qM (([]:List Off).map Off.want)).at j=0:=by rw[aaQ];rfl
  have h6:(qM (([]:List Off).map (tf p))).at j=0:=by rw[aaQ];rfl
  by_cases h0:p.cls.at j=0
  ·have:=hp.2.2.2.2 h0
   simp only[h0,if_true] at e3;omega
  ·simp only[h0,if_false] at e3
   omega
 refine aG3 ?_ (fun x hx=>?_) ?_
 ·have a1:(Bn p u k).supply.ok=true:=adO.2 hla
  have a2:ale (Bn p u k)=true:=aiT.2 fun j hj=>abl.2 (by
   have hp:=agu hc hj
   have ho:=hoa j hj
   refine⟨hp.1,hp.2.1,ho.1,ho.2.1,?_⟩
   by_cases h0:p.cls.at j=0
   ·exact .inr (ho.2.2 h0)
   ·exact .inl h0)
  have a3:(Bn p u k).offers.length<=p.offers.length:=by
   have h1:=List.length_filter_le (HH p u) (p.offers.drop k)
   rw[List.length_drop] at h1
   show((p.offers.drop k).filter (HH p u)).length<=_
   omega
  have a4:(Bn p u k).classes=p.classes:=rfl
  unfold EH
  rw[a1,a2,a4,if_neg (by simp),if_neg (by simp),if_neg (by omega),if_neg (by simpa using f5)]
 ·obtain⟨h1,h2⟩:=hin x hx
  have ho:=hof x h1
  unfold MR at ho ⊢
  have a4:(Bn p u k).classes=p.classes:=rfl
  rw[a4];split at ho
  ·rename_i h3;exact absurd ho h3
  ·rename_i h3
   rw[if_neg h3];split at ho
   ·cases ho
   ·rename_i h4
    rw[if_neg h4]
    have hb:=hgo.2.2.2.2 x h1
    have hF:Da (Bn p u k) [x]:=(arw hc hg (fun y hy=>by rw[List.mem_singleton] at hy;subst hy;exact h1) (fun y hy=>by rw[List.mem_singleton] at hy;subst hy;exact h2)).2 ((amR hc hg h1).1 h2)
    rw[au1 hF];rfl
 ·have h1:=(aly (by
   have:=hc
   unfold dV at this
   rw[if_neg (by rw[hfr];simp)] at this
   exact this)).1
  exact((List.filter_sublist.trans (List.drop_sublist k _)).map Off.key).nodup h1
end
open Go.Proofs.YtgejbpobaicgfaaGreat.Ir
open Go.Proofs
theorem aG4 {p:cn} {c:List Int} {m:Int} (b:lF p c=0) (a:1<=m/\m<=65536):Sl p c m=(Hf p c m).err:=by
 simp_all[Sl,if_neg]
theorem aG5 {p:cn} (d:dV p=0) {c:List Int} {m:Int} (b:lF p c=0) (e:m<=65536) (f:((1+2^(p.offers.length+1):Nat):Int)<=m+2):Sl p c m=0:=by
 have a:=Nat.one_le_two_pow (n:=p.offers.length+1)
 grind[aG4,aya]
theorem arx {p:cn} (a:dV p=0) {m k:Int} (d:k<=65536) (b:((1+2^(p.offers.length+1):Nat):Int)<=k+2):JI p m k=0:=by
 have c:2<=2^(p.offers.length+1):=by grind
 unfold JI
 rw[if_neg (by simp[a]),if_neg (by omega)]
 grind[ayb]
theorem ayf {p:cn} (a:dV p=0) {m k:Int} (b:JI p m k=0):Qy p m k=true↔m<=(jD p).value:=by
 have j:0<=(jD p).value:=by
  obtain⟨t,d,e⟩:=ari a
  obtain⟨_,c⟩:=adG d
  rw[<-e,ah1 a c]
  exact(acT (pz a) (l:=t.map (oI p)) fun x g=>by
   obtain⟨i,f,rfl⟩:=List.mem_map.1 g
   have:=c.2 i f
   exact nA (by omega)).1
 have h:=@ayb p a m k
 unfold Qy;rw[b,decide_eq_true rfl,Bool.true_and,Bool.or_eq_true,decide_eq_true_eq];unfold JI at b
 grind
theorem aj6 {a b c:Alloc} (h:¬YB a b) (k:¬YB b c):¬YB a c:=fun hac=>by
 by_cases hba:YB b a
 ·exact k (avd hba hac)
 ·exact k (aC5 h hba▸hac)
theorem ayg {a b:Alloc}:¬YB a (better a b)/\¬YB b (better a b):=by
 unfold better;split
 ·rename_i h
  have h:YB a b:=h
  exact⟨ahm,fun hb=>ahm (avd h hb)⟩
 ·rename_i h
  exact⟨h,ahm⟩
theorem aj7 {p:cn}:∀{k:Nat} {i:Int} {a b:Alloc},¬YB b (QY p k i a b)
 |0,_,_,b=>by simp only[QY];exact ahm
 |k+1,i,a,b=>by
  simp only[QY]
  refine aj6 ?_ aj7
  split
  ·exact aj6 ayg.2 aj7
  ·exact ahm
theorem arz {p:cn} (hg:Good p):∀{k:Nat} {i:Int} {a b:Alloc} {t:List Int},0<=i->i+k<=p.offers.length->t≠[]->aaP i k t->SG p (a.chosen++t)=true->¬YB ⟨a.chosen++t,a.value+jd (jA p t)⟩ (QY p k i a b)
 |0,i,a,b,t,_,_,hn,ht,_=>by
  cases t with
  |nil=>exact absurd rfl hn
  |cons j t=>
   have:=ht.2 j (by simp)
   omega
 |k+1,i,a,b,t,h0,h1,hn,ht,hr=>by
  cases t with
  |nil=>exact absurd rfl hn
  |cons j t=>
   have hj:=ht.2 j (by simp)
   have hp:=List.pairwise_cons.1 ht.1
   simp only[QY]
   by_cases hji:j=i
   ·subst hji
    have hidx:alu p t:=fun m hm=>by
     have:=ht.2 m (by simp[hm])
     omega
    have hr2:SG p (a.chosen++[j]++t)=true:=by simpa using hr
    have hr1:SG p (a.chosen++[j])=true:=auK hg hidx hr2
    rw[if_pos hr1]
    refine aj6 ?_ aj7
    rw[aed];simp only[jd]
    cases t with
    |nil=>
     refine aj6 ?_ aj7
     refine aj6 ?_ ayg.1
     have e:(⟨a.chosen++[j],a.value+(bo p.offers j.toNat bD.off.dflt).value+jd (jA p [])⟩:Alloc)=⟨a.chosen++[j],a.value+KA p j⟩:=by simp[jd,jA,KA]
     have e2:(⟨a.chosen++[j],a.value+((bo p.offers j.toNat bD.off.dflt).value+jd (jA p []))⟩:Alloc)=⟨a.chosen++[j],a.value+KA p j⟩:=by simp[jd,jA,KA]
     rw[e2];exact ahm
    |cons j2 t2=>
     have:=arz hg (k:=k) (i:=j+1) (a:=⟨a.chosen++[j],a.value+KA p j⟩) (b:=better ⟨a.chosen++[j],a.value+KA p j⟩ b) (t:=j2::t2) (by omega) (by omega) (by simp) ⟨hp.2,fun m hm=>by
      have q1:=ht.2 m (List.mem_cons_of_mem _ hm)
      have q2:=hp.1 m hm
      omega⟩ hr2
     have e:(⟨a.chosen++j::j2::t2,a.value+((bo p.offers j.toNat bD.off.dflt).value+jd (jA p (j2::t2)))⟩:Alloc)=⟨a.chosen++[j]++j2::t2,a.value+KA p j+jd (jA p (j2::t2))⟩:=by
      simp only[Alloc.mk.injEq,List.append_assoc,List.cons_append,List.nil_append,KA,true_and];omega
     rw[e];exact this
   ·exact arz hg (by omega) (by omega) (by simp) ⟨ht.1,fun m hm=>by
     have q1:=ht.2 m hm
     rcases List.mem_cons.1 hm with rfl|hm
     ·omega
     ·have q2:=hp.1 m hm
      omega⟩ hr
theorem aG6 {p:cn} (hg:Good p) {t:List Int} (ht:adw p t):¬YB ⟨t,jd (jA p t)⟩ (jD p):=by
 rw[aoT]
 by_cases hn:t=[]
 ·subst hn
  exact aj7
 ·have:=arz hg (k:=p.offers.length) (i:=0) (a:=⟨[],0⟩) (b:=⟨[],0⟩) (t:=t) (by omega) (by omega) hn ht.1 (by simpa[SG] using ht.2)
  simpa using this
theorem aj8:∀{c a b:List Int},cmpL (c++a) (c++b)=cmpL a b
 |[],_,_=>rfl
 |x::c,a,b=>by
  simp only[List.cons_append,cmpL,Int.lt_irrefl,if_false];exact aj8
noncomputable def acz (p:cn) (most:Int) (u:Kt) (i:Int):Kt:=
 if u.value=most then u else if HH p u (oI p i)=true then(if Qy (Bn p (uB p u i) (i+1).toNat) (most - (uB p u i).value) 65536=true then uB p u i else u) else u
noncomputable def QF (p:cn) (most:Int):Nat->Kt
 |0=>⟨p.supply,p.opn,[],0,List.replicate 8 false⟩
 |n+1=>acz p most (QF p most n) n
theorem good_start {p:cn} (hc:dV p=0):adP p ⟨p.supply,p.opn,[],0,List.replicate 8 false⟩:=by
 have hg:=pz hc
 refine⟨au7 hg,rfl,fun k hk=>?_,fun k hk=>?_,rfl,fun b h0 h1=>?_⟩
 ·show _=_ - (qM (([]:List Off).map Off.want)).at k
  rw[aaQ]
  simp
 ·show _=min (_ - (qM (([]:List Off).map (agt p))).at k) _
  rw[aaQ]
  have:=agu hc hk
  simp only[List.map_nil,List.sum_nil]
  show p.opn.at k=min (p.opn.at k - 0) (p.supply.at k)
  omega
 ·show _=decide (b∈([]:List Int))
  rw[jV (by rw[List.length_replicate];omega),List.getElem_replicate]
  simp
theorem ayh {i:Int}:∀{L:List Int},L.Pairwise (·<·)->L=L.filter (fun j=>decide (j<i))++L.filter (fun j=>!decide (j<i))
 |[],_=>rfl
 |x::L,h=>by
  have hp:=List.pairwise_cons.1 h
  have ih:=ayh (i:=i) hp.2
  by_cases hx:x<i
  ·rw[List.filter_cons_of_pos (by simp[hx]),List.filter_cons_of_neg (by simp[hx]),List.cons_append,<-ih]
  ·have e:L.filter (fun j=>decide (j<i))=[]:=List.filter_eq_nil_iff.2 fun j hj=>by have:=hp.1 j hj;simp;omega
   have e2:L.filter (fun j=>!decide (j<i))=L:=List.filter_eq_self.2 fun j hj=>by have:=hp.1 j hj;simp;omega
   rw[List.filter_cons_of_neg (by simp[hx]),List.filter_cons_of_pos (by simp[hx]),e,e2]
   rfl
theorem aG7 {i:Int} {L:List Int} (h:i∉L):L.filter (fun j=>decide (j<i+1))=L.filter (fun j=>decide (j<i)):=by
 refine List.filter_congr fun j hj=>?_
 have:j≠i:=fun e=>h (e▸hj)
 rw[Bool.eq_iff_iff,decide_eq_true_eq,decide_eq_true_eq];omega
theorem aG8 {i:Int} {L:List Int} (hs:L.Pairwise (·<·)) (h:i∈L):L.filter (fun j=>decide (j<i+1))=L.filter (fun j=>decide (j<i))++[i]/\L=L.filter (fun j=>decide (j<i))++i::L.filter (fun j=>decide (i<j)):=by
 induction L with
 |nil=>cases h
 |cons x L ih=>
  have hp:=List.pairwise_cons.1 hs
  by_cases hx:x=i
  ·subst hx
   have e:L.filter (fun j=>decide (j<x))=[]:=List.filter_eq_nil_iff.2 fun j hj=>by have:=hp.1 j hj;simp;omega
   have e1:L.filter (fun j=>decide (j<x+1))=[]:=List.filter_eq_nil_iff.2 fun j hj=>by have:=hp.1 j hj;simp;omega
   have e2:L.filter (fun j=>decide (x<j))=L:=List.filter_eq_self.2 fun j hj=>by have:=hp.1 j hj;simp;omega
   rw[List.filter_cons_of_pos (by simp;omega),List.filter_cons_of_neg (by simp),List.filter_cons_of_neg (by simp),e,e1,e2]
   exact⟨rfl,rfl⟩
  ·rcases List.mem_cons.1 h with h|h
   ·exact absurd h.symm hx
   ·have hlt:=hp.1 i h
    obtain⟨i1,i2⟩:=ih hp.2 h
    rw[List.filter_cons_of_pos (by simp;omega),List.filter_cons_of_pos (by simp;omega),List.filter_cons_of_neg (by simp;omega),i1]
    refine⟨rfl,?_⟩
    rw[List.cons_append,<-i2]
theorem aG9 {p:cn} (hg:Good p):∀{L:List Off},(∀x∈L,x∈p.offers)->L≠[]->0<jd L
 |[],_,h=>absurd rfl h
 |x::L,h,_=>by
  have h1:=(hg.2.2.2.2 x (h x (List.mem_cons_self ..))).2.2.2.1
  have h2:=(acT hg (l:=L) fun y hy=>h y (List.mem_cons_of_mem _ hy)).1
  simp only[jd];omega
theorem aHa {p:cn} (hc:dV p=0) {k:Nat} (hk:k<=p.offers.length) {M:List Off} (hM:∀x∈M,x∈p.offers.drop k) (hn:M.Nodup):∃t:List Int,t.Pairwise (·<·)/\(∀j∈t,(k:Int)<=j/\j<p.offers.length)/\(jA p t).Perm M:=by
 obtain⟨t,h1,h2,h3⟩:=alx (fun x=>decide (x∈M)) (p.offers.drop k) (p.offers.take k)
 have hl:(p.offers.take k).length=k:=by rw[List.length_take];omega
 refine⟨t,h1,fun j hj=>?_,?_⟩
 ·have:=h2 j hj
  rw[hl,List.length_drop] at this;omega
 ·rw[List.take_append_drop] at h3
  unfold jA;rw[h3]
  refine(List.perm_ext_iff_of_nodup ?_ hn).2 fun x=>?_
  ·exact((List.filter_sublist.trans (List.drop_sublist k _))).nodup (ahl hc)
  ·rw[List.mem_filter,decide_eq_true_eq]
   exact⟨fun h=>h.2,fun h=>⟨hM x h,h⟩⟩
theorem aj9 {p:cn} (hc:dV p=0):adw p (jD p).chosen/\(jD p).value=jd (jA p (jD p).chosen):=by
 obtain⟨_,h1,h2,h3⟩:=aCZ hc
 exact⟨⟨h2,h1⟩,h3⟩
theorem arA {p:cn} (hc:dV p=0) (h15:p.offers.length<=15):∀n:Nat,n<=p.offers.length->adP p (QF p (jD p).value n)/\(QF p (jD p).value n).chosen=(jD p).chosen.filter fun(j:Int)=>decide (j<(n:Int))
 |0,_=>⟨good_start hc,by
   have h:=(aj9 hc).1.1.2
   exact(List.filter_eq_nil_iff.2 fun j hj=>by have:=h j hj;simp;omega).symm⟩
 |n+1,hn=>by
  obtain⟨hG,hC⟩:=arA hc h15 n (by omega)
  have hgo:=pz hc
  obtain⟨⟨⟨hs,hr⟩,hF⟩,hv⟩:=aj9 hc
  have hF2:adw p (jD p).chosen:=⟨⟨hs,hr⟩,hF⟩
  have hlt:∀j∈(QF p (jD p).value n).chosen,j<(n:Int):=fun j hj=>by
   rw[hC] at hj
   simpa using(List.mem_filter.1 hj).2
  have hno:((n:Nat):Int)+1=((n+1:Nat):Int):=by omega
  have hin:(0:Int)<=n/\(n:Int)<p.offers.length:=by omega
  have hx:oI p n∈p.offers:=nA (by omega)
  have hsp:=ayh (i:=(n:Int)) hs
  show adP p (acz p (jD p).value (QF p (jD p).value n) n)/\(acz p (jD p).value (QF p (jD p).value n) n).chosen=_
  generalize QF p (jD p).value n=u at*
  have hmem:∀{t:List Int},(∀j∈t,j∈(jD p).chosen)->∀x∈jA p t,x∈p.offers:=fun ht x hx=>by
   obtain⟨j,hj,rfl⟩:=List.mem_map.1 hx
   have:=hr j (ht j hj)
   exact nA (by omega)
  by_cases hval:u.value=(jD p).value
  ·unfold acz
   rw[if_pos hval]
   refine⟨hG,?_⟩
   have hd:(jD p).chosen.filter (fun j=>!decide (j<(n:Int)))=[]:=by
    refine Classical.byContradiction fun hne=>?_
    have h1:=aG9 hgo (L:=jA p ((jD p).chosen.filter (fun j=>!decide (j<(n:Int))))) (hmem fun j hj=>(List.mem_filter.1 hj).1) (by unfold jA;simpa using hne)
    rw[hG.v,hC,hv] at hval;rw[hsp] at hval;simp only[<-hsp] at hval
    have h2:jd (jA p (jD p).chosen)=jd (jA p ((jD p).chosen.filter fun j=>decide (j<(n:Int))))+jd (jA p ((jD p).chosen.filter fun j=>!decide (j<(n:Int)))):=by
     conv=>lhs;rw[hsp,aeU,abK]
    omega
   have hall:∀j∈(jD p).chosen,j<(n:Int):=fun j hj=>by
    have:=(List.filter_eq_nil_iff.1 hd) j hj
    simpa using this
   rw[hC,List.filter_eq_self.2 fun j hj=>by simpa using hall j hj]
   exact(List.filter_eq_self.2 fun j hj=>by have:=hall j hj;simp;omega).symm
  ·by_cases hiL:(n:Int)∈(jD p).chosen
   ·obtain⟨f1,f2⟩:=aG8 hs hiL
    rw[<-hC] at f1 f2
    have hFa:Da p (jA p u.chosen++[oI p n]++jA p ((jD p).chosen.filter fun j=>decide ((n:Int)<j))):=by
     have:jA p u.chosen++[oI p n]++jA p ((jD p).chosen.filter fun j=>decide ((n:Int)<j))=jA p (jD p).chosen:=by
      conv=>rhs;rw[f2]
      rw[aeU,aed,List.append_assoc];rfl
     rw[this];exact hF
    have hmd:=hmem (t:=(jD p).chosen.filter fun j=>decide ((n:Int)<j)) fun j hj=>(List.mem_filter.1 hj).1
    have hw:HH p u (oI p n)=true:=(amR hc hG hx).2 (aoQ hgo hmd hFa)
    have hG2:=hG.next hc hlt hin hw
    have hq:=amS (k:=((n:Int)+1).toNat) hc hG2
    have ech:jA p (uB p u n).chosen=jA p u.chosen++[oI p n]:=by
     show jA p (u.chosen++[(n:Int)])=_
     rw[aeU];rfl
    have hwx:∀x∈jA p ((jD p).chosen.filter fun j=>decide ((n:Int)<j)),HH p (uB p u n) x=true:=fun x hxm=>by
     refine(amR hc hG2 (hmd x hxm)).2 ?_
     rw[ech]
     obtain⟨s,t,hst⟩:=List.append_of_mem hxm
     have hperm:(jA p u.chosen++[oI p n]++jA p ((jD p).chosen.filter fun j=>decide ((n:Int)<j))).Perm (jA p u.chosen++[oI p n]++[x]++(s++t)):=by
      rw[hst,List.append_assoc (jA p u.chosen++[oI p n])]
      refine List.Perm.append_left _ ?_
      exact List.perm_middle
     refine aoQ hgo (M:=s++t) (fun y hy=>hmd y ?_) (aiZ hperm hFa)
     rw[hst]
     rcases List.mem_append.1 hy with h|h
     ·exact List.mem_append_left _ h
     ·exact List.mem_append_right _ (List.mem_cons_of_mem _ h)
    have hqF:=(arw (k:=((n:Int)+1).toNat) hc hG2 hmd hwx).2 (by rw[ech];exact hFa)
    have hqm:∀x∈jA p ((jD p).chosen.filter fun j=>decide ((n:Int)<j)),x∈(Bn p (uB p u n) ((n:Int)+1).toNat).offers:=fun x hxm=>by
     refine List.mem_filter.2 ⟨?_,hwx x hxm⟩
     obtain⟨j,hj,rfl⟩:=List.mem_map.1 hxm
     obtain⟨hj1,hj2⟩:=List.mem_filter.1 hj
     have h3:=hr j hj1
     have h4:(n:Int)<j:=by simpa using hj2
     rw[jV (by omega)]
     rw[List.mem_iff_getElem]
     exact⟨j.toNat - ((n:Int)+1).toNat,by rw[List.length_drop];omega,by rw[List.getElem_drop];congr 1;omega⟩
    have hup:=alB hq hqF hqm
    rw[aeV hq] at hup
    have hsum:(jD p).value=(uB p u n).value+jd (jA p ((jD p).chosen.filter fun j=>decide ((n:Int)<j))):=by
     rw[hG2.v,ech,hv]
     conv=>lhs;rw[f2,aeU,aed,abK]
     rw[abK];simp only[jd]
     have:(bo p.offers (n:Int).toNat bD.off.dflt).value=(oI p n).value:=rfl
     omega
    have hql:(Bn p (uB p u n) ((n:Int)+1).toNat).offers.length<=15:=by
     have h1:=List.length_filter_le (HH p (uB p u n)) (p.offers.drop ((n:Int)+1).toNat)
     rw[List.length_drop] at h1
     show((p.offers.drop _).filter _).length<=15
     omega
    have hroom:JI (Bn p (uB p u n) ((n:Int)+1).toNat) ((jD p).value - (uB p u n).value) 65536=0:=arx hq (by omega) (by
     have:2^((Bn p (uB p u n) ((n:Int)+1).toNat).offers.length+1)<=2^16:=Nat.pow_le_pow_right (by omega) (by omega)
     have h16:(2:Nat)^16=65536:=rfl
     omega)
    have hbf:Qy (Bn p (uB p u n) ((n:Int)+1).toNat) ((jD p).value - (uB p u n).value) 65536=true:=(ayf hq hroom).2 (by omega)
    unfold acz;rw[if_neg hval,if_pos hw,if_pos hbf]
    refine⟨hG2,?_⟩
    rw[<-hno,f1];rfl
   ·rw[<-hno,aG7 hiL,<-hC]
    unfold acz;rw[if_neg hval];split
    ·rename_i hw
     split
     ·rename_i hbf
      exfalso
      have hG2:=hG.next hc hlt hin hw
      have hq:=amS (k:=((n:Int)+1).toNat) hc hG2
      have ech:jA p (uB p u n).chosen=jA p u.chosen++[oI p n]:=by
       show jA p (u.chosen++[(n:Int)])=_
       rw[aeU];rfl
      have hql:(Bn p (uB p u n) ((n:Int)+1).toNat).offers.length<=15:=by
       have h1:=List.length_filter_le (HH p (uB p u n)) (p.offers.drop ((n:Int)+1).toNat)
       rw[List.length_drop] at h1
       show((p.offers.drop _).filter _).length<=15
       omega
      have hroom:JI (Bn p (uB p u n) ((n:Int)+1).toNat) ((jD p).value - (uB p u n).value) 65536=0:=arx hq (by omega) (by
       have:2^((Bn p (uB p u n) ((n:Int)+1).toNat).offers.length+1)<=2^16:=Nat.pow_le_pow_right (by omega) (by omega)
       have h16:(2:Nat)^16=65536:=rfl
       omega)
      have hge:=(ayf hq hroom).1 hbf
      obtain⟨M,m1,m2,m3⟩:=ao1 hq
      rw[aeV hq] at m3
      have hMp:∀x∈M,x∈p.offers.drop ((n:Int)+1).toNat/\HH p (uB p u n) x=true:=fun x hx=>List.mem_filter.1 (m2 x hx)
      have hFa:=(arw hc hG2 (fun x hx=>List.mem_of_mem_drop (hMp x hx).1) fun x hx=>(hMp x hx).2).1 m1
      obtain⟨t,t1,t2,t3⟩:=aHa hc (k:=((n:Int)+1).toNat) (by omega) (fun x hx=>(hMp x hx).1) (ai0 Off.iy m1.1)
      have hT:adw p (u.chosen++(n:Int)::t):=by
       refine⟨⟨?_,?_⟩,?_⟩
       ·rw[List.pairwise_append]
        refine⟨hG.f.1.1,List.pairwise_cons.2 ⟨fun j hj=>by have:=t2 j hj;omega,t1⟩,fun a ha b hb=>?_⟩
        have h1:=hlt a ha
        rcases List.mem_cons.1 hb with rfl|hb
        ·exact h1
        ·have:=t2 b hb;omega
       ·intro j hj
        rcases List.mem_append.1 hj with h|h
        ·exact hG.f.1.2 j h
        ·rcases List.mem_cons.1 h with rfl|h
         ·omega
         ·have:=t2 j h;omega
       ·rw[aeU,aed]
        refine aiZ ?_ hFa
        rw[ech,List.append_assoc]
        exact List.Perm.append_left _ (List.Perm.cons _ t3.symm)
      have hTv:jd (jA p (u.chosen++(n:Int)::t))=(uB p u n).value+jd M:=by
       rw[hG2.v,ech,aeU,aed,abK,abK,<-alv t3];simp only[jd]
       have:(bo p.offers (n:Int).toNat bD.off.dflt).value=(oI p n).value:=rfl
       omega
      have hup:=aoU hgo hT.1 (decide_eq_true hT.2)
      refine aG6 hgo hT (.inr ⟨(show jd (jA p (u.chosen++(n:Int)::t))=(jD p).value by omega),?_⟩)
      show cmpL (u.chosen++(n:Int)::t) (jD p).chosen<0
      have hd:(jD p).chosen=u.chosen++(jD p).chosen.filter (fun j=>!decide (j<(n:Int))):=by rw[hC];exact hsp
      have hdn:(jD p).chosen.filter (fun j=>!decide (j<(n:Int)))≠[]:=fun h=>by
       rw[h,List.append_nil] at hd
       refine hval ?_
       rw[hG.v,<-hd,hv]
      have hdg:∀j∈(jD p).chosen.filter (fun j=>!decide (j<(n:Int))),(n:Int)<j:=fun j hj=>by
       obtain⟨a1,a2⟩:=List.mem_filter.1 hj
       have:j≠(n:Int):=fun e=>hiL (e▸a1)
       simp at a2;omega
      rw[hd]
      generalize (jD p).chosen.filter (fun j=>!decide (j<(n:Int)))=d at*
      cases d with
      |nil=>exact absurd rfl hdn
      |cons j d=>
       rw[aj8]
       have:=hdg j (by simp)
       simp only[cmpL];rw[if_pos this]
       decide
     ·exact⟨hG,rfl⟩
    ·exact⟨hG,rfl⟩
theorem ayi {p:cn} (hc:dV p=0) (h15:p.offers.length<=15):(QF p (jD p).value p.offers.length).chosen=(jD p).chosen:=by
 rw[(arA hc h15 p.offers.length (Nat.le_refl _)).2]
 have h:=(aj9 hc).1.1.2
 exact List.filter_eq_self.2 fun j hj=>by have:=h j hj;simp;omega
abbrev Pfd:=dp×(dp×(List Int×(Int×(Bool×(Bool×(Bool×(Bool×(Bool×(Bool×(Bool×Bool))))))))))
@[reducible] def adQ:bD:=.pair .uo (.pair .uo (.pair (.fa (.i .i64)) (.pair (.i .i64) (.pair .b (.pair .b (.pair .b (.pair .b (.pair .b (.pair .b (.pair .b .b))))))))))
def xP (d:Pfd):Kt:=⟨d.1,d.2.1,d.2.2.1,d.2.2.2.1,[d.2.2.2.2.1,d.2.2.2.2.2.1,d.2.2.2.2.2.2.1,d.2.2.2.2.2.2.2.1,d.2.2.2.2.2.2.2.2.1,d.2.2.2.2.2.2.2.2.2.1,d.2.2.2.2.2.2.2.2.2.2.1,d.2.2.2.2.2.2.2.2.2.2.2]⟩
def fP (u:Kt):Pfd:=(u.left,(u.opn,(u.chosen,(u.value,(bo u.won 0 false,(bo u.won 1 false,(bo u.won 2 false,(bo u.won 3 false,(bo u.won 4 false,(bo u.won 5 false,(bo u.won 6 false,bo u.won 7 false)))))))))))
theorem ayj {u:Kt} (h:u.won.length=8):xP (fP u)=u:=by
 obtain⟨l,o,c,v,w⟩:=u
 simp only at h
 match w,h with
 |[a,b,c,d,e,f,g,i],_=>rfl
def zX:Kt:=⟨dp.zero,dp.zero,[],0,List.replicate 8 false⟩
def pk (k j:Int) (a b:Int):Bool:=decide (k<=j)||(decide (0<=a)&&decide (0<=b))
def Ly (a b:dp) (k:Int):Bool:=pk k 0 a.a0 b.a0&&(pk k 1 a.a1 b.a1&&(pk k 2 a.a2 b.a2&&(pk k 3 a.a3 b.a3&&(pk k 4 a.a4 b.a4&&pk k 5 a.a5 b.a5))))
def arD:ob where
 f:=139
 α:=Pfd×cn×Off
 put a:=[.ptr 0 0 22,ql.put a.2.1,(yl .off).put a.2.2]
 st a:=[.cells (encS adQ a.1) 153 22 false]
 dec v o:=match v,o with
  |[.ptr 0 0 22,p,x],[.cells cs 153 22 false]=>match Kx adQ cs,ql.dec p,(yl .off).dec x with
   |some d,some p,some x=>some (d,p,x)
   |_,_,_=>none
  |_,_=>none
 ok v o a h:=by
  split at h
  ·split at h
   ·rename_i h1 h2 h3
    simp only[Option.some.injEq] at h;subst h
    refine⟨by simp only[gL,ql.ok _ _ h2,(yl .off).ok _ _ h3],?_⟩
    simp only[gO,List.map_cons,List.map_nil,cC.g,yh,aaK h1,acP]
   ·cases h
  ·cases h
 inj a b h1 h2:=by
  obtain⟨d,p,x⟩:=a
  obtain⟨d',p',x'⟩:=b
  simp only[gL,List.cons.injEq,and_true,true_and] at h1;simp only[gO,List.map_cons,List.map_nil,cC.g,List.cons.injEq,fZ.cells.injEq,and_true,yh,acP] at h2;rw[afO adQ d d' h2,ql.inj p p' h1.1,(yl .off).inj x x' h1.2]
 dom a:=((∀k,k<6->(-1000<=a.1.1.at k/\a.1.1.at k<=1000)/\(-1000<=a.1.2.1.at k/\a.1.2.1.at k<=1000))/\a.2.2.want.ok=true)/\0<=a.2.2.iy/\a.2.2.iy<a.2.1.classes.length
 res a:=.sb ((a.1.1.sub a.2.2.want).pos&&(Bd a.2.1 (xP a.1) a.2.2).pos)
 out a:=[.cells (encS adQ (a.1.1.sub a.2.2.want,(Bd a.2.1 (xP a.1) a.2.2,a.1.2.2))) 153 22 false]
def aHc (d:Pfd) (p:cn) (x:Off):Nat->jW
 |3=> .inv Int (fun k=>⟨[(0,.ptr 0 0 22),(4,.ptr 1 0 20),(5,.ptr 2 0 8),(7,.sb (Ly (d.1.sub x.want) (Bd p (xP d) x) k)),(11,.agg (encS .uo x.want)),(12,.si .i64 k)],
   [.cells (encS adQ (Gv d.1 (d.1.sub x.want) k,(Gv d.2.1 (Bd p (xP d) x) k,d.2.2))) 153 22 false,.cells p.ss 27 20 false,.cells (encS .off x) 58 8 false]⟩)
   (fun s=>iS s 12) (fun k=>0<=k/\k<=6) (fun k=>(6 - k).toNat) fun _ _=> .look
 |_=> .look
theorem h450:qH Tryz.prog arD:=by
 refine SD (L:=[]) (W:=[]) arD (fun a=>aHc a.1 a.2.1 a.2.2) (by simp) (by simp) ?_
 rintro⟨d,p,x⟩ ⟨⟨hb,hw⟩,hx0,hx1⟩
 simp only at hb hw hx0 hx1
 refine gw (let a:=SV.si .i64;let b:=(0:Int);let c:=(6:Int);let e:=cC.cells;let f:=SV.sb;let g:=iR .i64;let h:=SV.row;let j:=SV.bl false;let k:=SV.ptr;let r:=k 0 0 22;let s:=k 1 0 20;let t:=k 2 0 8;let o:=d.fst.sub x.want;let q:=Bd p (xP d) x;let a8:=a x.want.a0;let a9:=a x.want.a1;let aa:=a x.want.a2;let ab:=a x.want.a3;let ac:=a x.want.a4;let ad:=a x.want.a5;let u:=SV.agg [a8,a9,aa,ab,ac,ad];let N:=bD.i .i64;let C:=d.snd.snd.snd.snd.snd;let ae:=C.snd.snd.snd.snd.snd;let D:=Gv d.fst o b;let E:=Gv d.snd.fst q b;let F:=d.snd.snd.snd.snd.snd;let af:=F.snd.snd.snd.snd.snd;let z:=[h N d.snd.snd.fst,a d.snd.snd.snd.fst,f d.snd.snd.snd.snd.fst,f F.fst,f F.snd.fst,f F.snd.snd.fst,f F.snd.snd.snd.fst,f F.snd.snd.snd.snd.fst,f af.fst,f af.snd];let v:=e [a p.supply.a0,a p.supply.a1,a p.supply.a2,a p.supply.a3,a p.supply.a4,a p.supply.a5,a p.opn.a0,a p.opn.a1,a p.opn.a2,a p.opn.a3,a p.opn.a4,a p.opn.a5,a p.cls.a0,a p.cls.a1,a p.cls.a2,a p.cls.a3,a p.cls.a4,a p.cls.a5,h N p.classes,h bD.off p.offers] 27 20 false;let w:=e [a x.iy,a8,a9,aa,ab,ac,ad,a x.value] 58 8 false;let aK:=[x.want.a0,x.want.a1,x.want.a2,x.want.a3,x.want.a4,x.want.a5];let aL:=[p.cls.a0,p.cls.a1,p.cls.a2,p.cls.a3,p.cls.a4,p.cls.a5];(((r.same r/\s.same s/\t.same t/\(SV.bl true).same (f (Ly o q b))/\u.same u/\(SV.il .i64 0).same (a 0)/\True)/\(e [a d.fst.a0,a d.fst.a1,a d.fst.a2,a d.fst.a3,a d.fst.a4,a d.fst.a5,a d.snd.fst.a0,a d.snd.fst.a1,a d.snd.fst.a2,a d.snd.fst.a3,a d.snd.fst.a4,a d.snd.fst.a5,h N d.snd.snd.fst,a d.snd.snd.snd.fst,f d.snd.snd.snd.snd.fst,f C.fst,f C.snd.fst,f C.snd.snd.fst,f C.snd.snd.snd.fst,f C.snd.snd.snd.snd.fst,f ae.fst,f ae.snd] 153 22 false).same (e (a D.a0::a D.a1::a D.a2::a D.a3::a D.a4::a D.a5::a E.a0::a E.a1::a E.a2::a E.a3::a E.a4::a E.a5::z) 153 22 false)/\v.same v/\w.same w/\True)/\b<=b/\b<=c)/\∀(x_1:Int),let K:=Ly o q x_1;let n:=Gv d.fst o x_1;let ag:=bo aK x_1.toNat b;let A:=bo [n.a0,n.a1,n.a2,n.a3,n.a4,n.a5] x_1.toNat b - ag;let ah:=if x_1.toNat=0 then A else n.a0;let ai:=if x_1.toNat=1 then A else n.a1;let aj:=if x_1.toNat=2 then A else n.a2;let ak:=if x_1.toNat=3 then A else n.a3;let al:=if x_1.toNat=4 then A else n.a4;let am:=if x_1.toNat=5 then A else n.a5;let O:=bo [ah,ai,aj,ak,al,am] x_1.toNat b;let L:=decide (b<=O);let m:=x_1+(1:Int);let l:=Gv d.snd.fst q x_1;let an:=bo [l.a0,l.a1,l.a2,l.a3,l.a4,l.a5] x_1.toNat b;let B:=an - ag;let ao:=if x_1.toNat=0 then B else l.a0;let ap:=if x_1.toNat=1 then B else l.a1;let aq:=if x_1.toNat=2 then B else l.a2;let ar:=if x_1.toNat=3 then B else l.a3;let au:=if x_1.toNat=4 then B else l.a4;let av:=if x_1.toNat=5 then B else l.a5;let G:=min (bo [ao,ap,aq,ar,au,av] x_1.toNat b) O;let P:=if x_1.toNat=0 then G else ao;let Q:=if x_1.toNat=1 then G else ap;let R:=if x_1.toNat=2 then G else aq;let S:=if x_1.toNat=3 then G else ar;let T:=if x_1.toNat=4 then G else au;let U:=if x_1.toNat=5 then G else av;let M:=f (Ly o q m);let y:=a m;let V:=a ah;let W:=a ai;let X:=a aj;let Y:=a ak;let Z:=a al;let a6:=a am;let H:=Gv d.fst o m;let I:=Gv d.snd.fst q m;let a7:=e (a H.a0::a H.a1::a H.a2::a H.a3::a H.a4::a H.a5::a I.a0::a I.a1::a I.a2::a I.a3::a I.a4::a I.a5::z) 153 22 false;let J:=min an O;let aw:=if x_1.toNat=0 then J else l.a0;let ax:=if x_1.toNat=1 then J else l.a1;let ay:=if x_1.toNat=2 then J else l.a2;let az:=if x_1.toNat=3 then J else l.a3;let aA:=if x_1.toNat=4 then J else l.a4;let aB:=if x_1.toNat=5 then J else l.a5;let aC:=decide (x_1<c);let aD:=bo aL x_1.toNat b;let aE:=decide (aD=b);let aF:=decide (aD≠bo p.classes x.iy.toNat b);let aM:=let aG:=g m/\((r.same r/\s.same s/\t.same t/\(j).same M/\u.same u/\y.same y/\True)/\(e (V::W::X::Y::Z::a6::a P::a Q::a R::a S::a T::a U::z) 153 22 false).same a7/\v.same v/\w.same w/\True)/\(b<=m/\m<=c)/\(c - m).toNat<(c - x_1).toNat;x_1.toNat<6/\b<=x_1/\x_1<c/\x_1.toNat<6/\b<=x_1/\x_1<c/\x_1.toNat<6/\(K=true->b<=x_1/\x_1<c/\x_1.toNat<6/\(L=true->b<=x_1/\x_1<c/\x_1.toNat<6/\g m/\((r.same r/\s.same s/\t.same t/\(f (decide (b<=bo [P,Q,R,S,T,U] x_1.toNat b))).same M/\u.same u/\y.same y/\True)/\(e (V::W::X::Y::Z::a6::a P::a Q::a R::a S::a T::a U::z) 153 22 false).same a7/\v.same v/\w.same w/\True)/\(b<=m/\m<=c)/\(c - m).toNat<(c - x_1).toNat)/\(L=false->aG))/\(K=false->aG);let aH:=(e (V::W::X::Y::Z::a6::a aw::a ax::a ay::a az::a aA::a aB::z) 153 22 false).same a7;let aI:=b<=x_1/\x_1<c/\x_1.toNat<6/\g B/\b<=x_1/\x_1<c/\x_1.toNat<6/\b<=x_1/\x_1<c/\aM;let aJ:=g m/\((r.same r/\s.same s/\t.same t/\(j).same M/\u.same u/\y.same y/\True)/\aH/\v.same v/\w.same w/\True)/\(b<=m/\m<=c)/\(c - m).toNat<(c - x_1).toNat;b<=x_1/\x_1<=c->(aC=true->b<=x_1/\x_1<c/\b<=x_1/\x_1<c/\x_1.toNat<6/\g A/\b<=x_1/\x_1<c/\x_1.toNat<6/\b<=x_1/\x_1<c/\x_1.toNat<6/\(aE=true->aI)/\(aE=false->b<=x_1/\x_1<c/\x_1.toNat<6/\b<=x.iy/\x.iy<(↑p.classes.length:Int)/\x.iy.toNat<p.classes.length/\(aF=true->aI)/\(aF=false->b<=x_1/\x_1<c/\x_1.toNat<6/\b<=x_1/\x_1<c/\x_1.toNat<6/\b<=x_1/\x_1<c/\x_1.toNat<6/\(K=true->b<=x_1/\x_1<c/\x_1.toNat<6/\(L=true->b<=x_1/\x_1<c/\x_1.toNat<6/\g m/\((r.same r/\s.same s/\t.same t/\(f (decide (b<=bo [aw,ax,ay,az,aA,aB] x_1.toNat b))).same M/\u.same u/\y.same y/\True)/\aH/\v.same v/\w.same w/\True)/\(b<=m/\m<=c)/\(c - m).toNat<(c - x_1).toNat)/\(L=false->aJ))/\(K=false->aJ))))/\(aC=false->(f K).same (f (o.pos&&q.pos))/\(e (a n.a0::a n.a1::a n.a2::a n.a3::a n.a4::a n.a5::a l.a0::a l.a1::a l.a2::a l.a3::a l.a4::a l.a5::z) 153 22 false).same (e (a o.a0::a o.a1::a o.a2::a o.a3::a o.a4::a o.a5::a q.a0::a q.a1::a q.a2::a q.a3::a q.a4::a q.a5::z) 153 22 false)/\True)) (by kernel_rfl) ?_
 simp only[vcs]
 refine⟨⟨⟨rfl,rfl⟩,by omega,by omega⟩,?_⟩
 rintro k ⟨k0,k6⟩
 simp only[show bo p.classes x.iy.toNat 0=MZ p x from rfl]
 generalize hcl:MZ p x=cl at*
 constructor
 ·intro hk
  rcases(show k=0\/k=1\/k=2\/k=3\/k=4\/k=5 by omega) with rfl|rfl|rfl|rfl|rfl|rfl
  ·have hb0:=hb 0 (by omega)
   have hw0:0<=x.want.a0/\x.want.a0<=4:=by have:=dp.Kz.1 hw;omega
   have b1: -1000<=d.1.a0/\d.1.a0<=1000:=hb0.1
   have b2: -1000<=d.2.1.a0/\d.2.1.a0<=1000:=hb0.2
   have eo:(Bd p (xP d) x).a0=min (d.2.1.a0 - nd p.cls.a0 x.want.a0 cl) (d.1.a0 - x.want.a0):=by rw[<-hcl];rfl
   generalize Bd p (xP d) x=O at*
   by_cases h1:p.cls.a0=0
   ·simp[Gv,bo,dp.sub,Ly,pk,eo,nd,h1,Ui];grind
   ·by_cases h2:p.cls.a0=cl
    ·subst h2
     simp[Gv,bo,dp.sub,Ly,pk,eo,nd,h1,Ui];grind
    ·simp[Gv,bo,dp.sub,Ly,pk,eo,nd,h1,h2,Ui];grind
  ·have hb0:=hb 1 (by omega)
   have hw0:0<=x.want.a1/\x.want.a1<=4:=by have:=dp.Kz.1 hw;omega
   have b1: -1000<=d.1.a1/\d.1.a1<=1000:=hb0.1
   have b2: -1000<=d.2.1.a1/\d.2.1.a1<=1000:=hb0.2
   have eo:(Bd p (xP d) x).a1=min (d.2.1.a1 - nd p.cls.a1 x.want.a1 cl) (d.1.a1 - x.want.a1):=by rw[<-hcl];rfl
   generalize Bd p (xP d) x=O at*
   by_cases h1:p.cls.a1=0
   ·simp[Gv,bo,dp.sub,Ly,pk,eo,nd,h1,Ui];grind
   ·by_cases h2:p.cls.a1=cl
    ·subst h2
     simp[Gv,bo,dp.sub,Ly,pk,eo,nd,h1,Ui];grind
    ·simp[Gv,bo,dp.sub,Ly,pk,eo,nd,h1,h2,Ui];grind
  ·have hb0:=hb 2 (by omega)
   have hw0:0<=x.want.a2/\x.want.a2<=4:=by have:=dp.Kz.1 hw;omega
   have b1: -1000<=d.1.a2/\d.1.a2<=1000:=hb0.1
   have b2: -1000<=d.2.1.a2/\d.2.1.a2<=1000:=hb0.2
   have eo:(Bd p (xP d) x).a2=min (d.2.1.a2 - nd p.cls.a2 x.want.a2 cl) (d.1.a2 - x.want.a2):=by rw[<-hcl];rfl
   generalize Bd p (xP d) x=O at*
   by_cases h1:p.cls.a2=0
   ·simp[Gv,bo,dp.sub,Ly,pk,eo,nd,h1,Ui];grind
   ·by_cases h2:p.cls.a2=cl
    ·subst h2
     simp[Gv,bo,dp.sub,Ly,pk,eo,nd,h1,Ui];grind
    ·simp[Gv,bo,dp.sub,Ly,pk,eo,nd,h1,h2,Ui];grind
  ·have hb0:=hb 3 (by omega)
   have hw0:0<=x.want.a3/\x.want.a3<=4:=by have:=dp.Kz.1 hw;omega
   have b1: -1000<=d.1.a3/\d.1.a3<=1000:=hb0.1
   have b2: -1000<=d.2.1.a3/\d.2.1.a3<=1000:=hb0.2
   have eo:(Bd p (xP d) x).a3=min (d.2.1.a3 - nd p.cls.a3 x.want.a3 cl) (d.1.a3 - x.want.a3):=by rw[<-hcl];rfl
   generalize Bd p (xP d) x=O at*
   by_cases h1:p.cls.a3=0
   ·simp[Gv,bo,dp.sub,Ly,pk,eo,nd,h1,Ui];grind
   ·by_cases h2:p.cls.a3=cl
    ·subst h2
     simp[Gv,bo,dp.sub,Ly,pk,eo,nd,h1,Ui];grind
    ·simp[Gv,bo,dp.sub,Ly,pk,eo,nd,h1,h2,Ui];grind
  ·have hb0:=hb 4 (by omega)
   have hw0:0<=x.want.a4/\x.want.a4<=4:=by have:=dp.Kz.1 hw;omega
   have b1: -1000<=d.1.a4/\d.1.a4<=1000:=hb0.1
   have b2: -1000<=d.2.1.a4/\d.2.1.a4<=1000:=hb0.2
   have eo:(Bd p (xP d) x).a4=min (d.2.1.a4 - nd p.cls.a4 x.want.a4 cl) (d.1.a4 - x.want.a4):=by rw[<-hcl];rfl
   generalize Bd p (xP d) x=O at*
   by_cases h1:p.cls.a4=0
   ·simp[Gv,bo,dp.sub,Ly,pk,eo,nd,h1,Ui];grind
   ·by_cases h2:p.cls.a4=cl
    ·subst h2
     simp[Gv,bo,dp.sub,Ly,pk,eo,nd,h1,Ui];grind
    ·simp[Gv,bo,dp.sub,Ly,pk,eo,nd,h1,h2,Ui];grind
  ·have hb0:=hb 5 (by omega)
   have hw0:0<=x.want.a5/\x.want.a5<=4:=by have:=dp.Kz.1 hw;omega
   have b1: -1000<=d.1.a5/\d.1.a5<=1000:=hb0.1
   have b2: -1000<=d.2.1.a5/\d.2.1.a5<=1000:=hb0.2
   have eo:(Bd p (xP d) x).a5=min (d.2.1.a5 - nd p.cls.a5 x.want.a5 cl) (d.1.a5 - x.want.a5):=by rw[<-hcl];rfl
   generalize Bd p (xP d) x=O at*
   by_cases h1:p.cls.a5=0
   ·simp[Gv,bo,dp.sub,Ly,pk,eo,nd,h1,Ui];grind
   ·by_cases h2:p.cls.a5=cl
    ·subst h2
     simp[Gv,bo,dp.sub,Ly,pk,eo,nd,h1,Ui];grind
    ·simp[Gv,bo,dp.sub,Ly,pk,eo,nd,h1,h2,Ui];grind
 ·intro hk
  have:k=6:=by omega
  subst this
  simp[Gv,dp.sub,Ly,pk,dp.pos,Bool.and_assoc]
  exact⟨by ac_rfl,rfl⟩
noncomputable def amT (L:List fN) (W:Ug) (sp:Nat->Option (Nat×Nat×Nat)):HT:=⟨⟨afN L,W.C⟩,ZZ,mtN,sp,ym,fun _=>false⟩
theorem aHV {L:List fN} {W:Ug} (sp:Nat->Option (Nat×Nat×Nat)) (c:fN) (Λ:c.α->Nat->jW) (hW:aaO Tryz.prog W) (hL:∀c∈L,Holds Tryz.prog c)
  
  (h:∀a,c.dom a->Vc (fnK (amT L W sp) (Λ a) (fG c.f) (c.A.put a) fun v=>v.same (c.res a))) (hF:(ym c.f).isSome=true:=by kernel_rfl) (hfr:Yf c.f L=none:=by kernel_rfl) (hlen:∀a,(c.A.put a).length=(fG c.f).params:=by intro _;kernel_rfl):Holds Tryz.prog c:=
 fun a hd=>aiQ (p:=amT L W sp) (Λ:=Λ a) (ad7 hW hL acg) (ad8 hW) (fun _ _ h=>h) (afQ hF) (ak6 hfr) (hlen a) (h a hd).out
theorem aHd {L:List fN} {W:Ug} (sp:Nat->Option (Nat×Nat×Nat)) (c:fN) (F:uC) (Λ:c.α->Nat->jW) (hW:aaO Tryz.prog W) (hL:∀c∈L,Holds Tryz.prog c)
  
  (h:∀a,c.dom a->Vc (fnK (amT L W sp) (Λ a) F (c.A.put a) fun v=>v.same (c.res a))) (hF:ym c.f=some F:=by kernel_rfl) (hfr:Yf c.f L=none:=by kernel_rfl) (hlen:∀a,(c.A.put a).length=F.params:=by intro _;kernel_rfl):Holds Tryz.prog c:=
 fun a hd=>aiQ (p:=amT L W sp) (Λ:=Λ a) (ad7 hW hL acg) (ad8 hW) (fun _ _ h=>h) hF (ak6 hfr) (hlen a) (h a hd).out
def acA (p:cn) (u:Kt) (i:Int):Kt:=if HH p u (oI p i)=true then uB p u i else zX
def akc (u:Kt):Prop:=(∀k,k<6->(-1000<=u.left.at k/\u.left.at k<=1000)/\(-1000<=u.opn.at k/\u.opn.at k<=1000))/\(0<=u.value/\u.value<=160000000)/\u.chosen.length<=1000
def amU:fN:=⟨91,Pfd×cn×Int,.cons (yl adQ) (.cons ql (.one (sj .i64))),fun a=>dV a.2.1=0/\akc (xP a.1)/\0<=a.2.2/\a.2.2<a.2.1.offers.length,
 fun a=> .eW [.agg (encS adQ (fP (acA a.2.1 (xP a.1) a.2.2))),.sb (HH a.2.1 (xP a.1) (oI a.2.1 a.2.2))]⟩
def aHe (n:Nat):Option (Nat×Nat×Nat):=if n=2 then some (3,0,8) else none
theorem h443:Holds Tryz.prog amU:=by
 refine aHd (L:=[]) (W:=A2 [arD]) aHe amU (fG 91) lk (Xy (by simpa using h450)) (by simp) ?_
 rintro⟨⟨l,o,c,v,w0,w1,w2,w3,w4,w5,w6,w7⟩,p,i⟩ ⟨hc,hd,i0,i1⟩
 simp only at hc hd i0 i1
 refine gw (let a:=SV.si .i64;let b:=SV.sb;let d:=(-1000:Int);let e:=(1000:Int);let f:=SV.agg;let g:=SV.eW;let h:=(0:Int);let j:=SV.bl true;let m:=iR .i64;let n:=(1:Int);let q:=(2:Int);let r:=(3:Int);let s:=(4:Int);let t:=(5:Int);let u:=(6:Int);let w:=(7:Int);let x:=SV.row;let L:=SV.il .i64 0;let ac:=bD.i .i64;let P:=x ac [];let Q:=SV.bl false;let M:=xP (l,o,c,v,w0,w1,w2,w3,w4,w5,w6,w7);let aa:=(fP (acA p M i)).fst;let N:=(fP (acA p M i)).snd;let ab:=N.snd.snd.snd.snd.snd;let y:=g [f [a aa.a0,a aa.a1,a aa.a2,a aa.a3,a aa.a4,a aa.a5,a N.fst.a0,a N.fst.a1,a N.fst.a2,a N.fst.a3,a N.fst.a4,a N.fst.a5,x ac N.snd.fst,a N.snd.snd.fst,b N.snd.snd.snd.fst,b N.snd.snd.snd.snd.fst,b ab.fst,b ab.snd.fst,b ab.snd.snd.fst,b ab.snd.snd.snd.fst,b ab.snd.snd.snd.snd.fst,b ab.snd.snd.snd.snd.snd],b (HH p M (oI p i))];let ad:=bo p.offers i.toNat bD.off.dflt;let O:=ad.iy;let G:=ad.want;let R:=(↑p.classes.length:Int);let a9:=l.sub G;let I:=a9.pos;let H:=ad.value;let S:=Bd p M (Off.mk h G H);let A:=a a9.a0;let B:=a a9.a1;let C:=a a9.a2;let D:=a a9.a3;let E:=a a9.a4;let F:=a a9.a5;let ae:=a S.a0;let af:=a S.a1;let ag:=a S.a2;let ah:=a S.a3;let ai:=a S.a4;let aj:=a S.a5;let T:=a (v+H);let ak:=[b w6,b w7];let al:=b w4::b w5::ak;let bc:=b w2::b w3::al;let am:=T::j::b w1::bc;let z:=[j];let U:=x ac [i];let J:=c.length+1;let V:=x ac (c++[i]);let W:=Bd p M (Off.mk n G H);let an:=a W.a0;let ao:=a W.a1;let ap:=a W.a2;let aq:=a W.a3;let ar:=a W.a4;let au:=a W.a5;let av:=T::b w0::j::bc;let X:=Bd p M (Off.mk q G H);let aw:=a X.a0;let ax:=a X.a1;let ay:=a X.a2;let az:=a X.a3;let aA:=a X.a4;let aB:=a X.a5;let aC:=T::b w0::b w1::j::b w3::al;let Y:=Bd p M (Off.mk r G H);let aD:=a Y.a0;let aE:=a Y.a1;let aF:=a Y.a2;let aG:=a Y.a3;let aH:=a Y.a4;let aI:=a Y.a5;let aJ:=T::b w0::b w1::b w2::j::al;let Z:=Bd p M (Off.mk s G H);let aK:=a Z.a0;let aL:=a Z.a1;let aM:=a Z.a2;let aN:=a Z.a3;let aO:=a Z.a4;let aP:=a Z.a5;let aQ:=T::b w0::b w1::b w2::b w3::j::b w5::ak;let a6:=Bd p M (Off.mk t G H);let aR:=a a6.a0;let aS:=a a6.a1;let aT:=a a6.a2;let aU:=a a6.a3;let aV:=a a6.a4;let aW:=a a6.a5;let aX:=T::b w0::b w1::b w2::b w3::b w4::j::ak;let a7:=Bd p M (Off.mk u G H);let aY:=a a7.a0;let aZ:=a a7.a1;let b0:=a a7.a2;let b1:=a a7.a3;let b2:=a a7.a4;let b3:=a a7.a5;let b4:=[T,b w0,b w1,b w2,b w3,b w4,b w5,j,b w7];let a8:=Bd p M (Off.mk w G H);let b5:=a a8.a0;let b6:=a a8.a1;let b7:=a a8.a2;let b8:=a a8.a3;let b9:=a a8.a4;let ba:=a a8.a5;let bb:=T::b w0::b w1::b w2::b w3::b w4::b w5::b w6::z;let K:=(g [f [L,L,L,L,L,L,L,L,L,L,L,L,P,L,Q,Q,Q,Q,Q,Q,Q,Q],Q]).same y;h<=i/\i<(↑p.offers.length:Int)/\i.toNat<p.offers.length/\(O=h->(w0=true->K)/\(w0=false->(((∀(k:Nat),k<6->(d<=l.at k/\l.at k<=e)/\d<=o.at k/\o.at k<=e)/\G.ok=true)/\h<=h/\h<R)/\((!(I&&S.pos))=true->K)/\((!(I&&S.pos))=false->m (v+H)/\(c.length=0->(1=0->(g (f (A::B::C::D::E::F::ae::af::ag::ah::ai::aj::P::am)::z)).same y)/\(1≠0->8<=140737488355328/\1<=1000000000000/\1=1/\(g (f (A::B::C::D::E::F::ae::af::ag::ah::ai::aj::U::am)::z)).same y))/\(c.length≠0->c.length*8<=140737488355328/\c.length<=1000000000000/\c.length=c.length/\J*8<=140737488355328/\J<=1000000000000/\(c++[i]).length=(c++[i]).length/\(g (f (A::B::C::D::E::F::ae::af::ag::ah::ai::aj::V::am)::z)).same y))))/\(O=n->(w1=true->K)/\(w1=false->(((∀(k:Nat),k<6->(d<=l.at k/\l.at k<=e)/\d<=o.at k/\o.at k<=e)/\G.ok=true)/\h<=n/\n<R)/\((!(I&&W.pos))=true->K)/\((!(I&&W.pos))=false->m (v+H)/\(c.length=0->(1=0->(g (f (A::B::C::D::E::F::an::ao::ap::aq::ar::au::P::av)::z)).same y)/\(1≠0->8<=140737488355328/\1<=1000000000000/\1=1/\(g (f (A::B::C::D::E::F::an::ao::ap::aq::ar::au::U::av)::z)).same y))/\(c.length≠0->c.length*8<=140737488355328/\c.length<=1000000000000/\c.length=c.length/\J*8<=140737488355328/\J<=1000000000000/\(c++[i]).length=(c++[i]).length/\(g (f (A::B::C::D::E::F::an::ao::ap::aq::ar::au::V::av)::z)).same y))))/\(O=q->(w2=true->K)/\(w2=false->(((∀(k:Nat),k<6->(d<=l.at k/\l.at k<=e)/\d<=o.at k/\o.at k<=e)/\G.ok=true)/\h<=q/\q<R)/\((!(I&&X.pos))=true->K)/\((!(I&&X.pos))=false->m (v+H)/\(c.length=0->(1=0->(g (f (A::B::C::D::E::F::aw::ax::ay::az::aA::aB::P::aC)::z)).same y)/\(1≠0->8<=140737488355328/\1<=1000000000000/\1=1/\(g (f (A::B::C::D::E::F::aw::ax::ay::az::aA::aB::U::aC)::z)).same y))/\(c.length≠0->c.length*8<=140737488355328/\c.length<=1000000000000/\c.length=c.length/\J*8<=140737488355328/\J<=1000000000000/\(c++[i]).length=(c++[i]).length/\(g (f (A::B::C::D::E::F::aw::ax::ay::az::aA::aB::V::aC)::z)).same y))))/\(O=r->(w3=true->K)/\(w3=false->(((∀(k:Nat),k<6->(d<=l.at k/\l.at k<=e)/\d<=o.at k/\o.at k<=e)/\G.ok=true)/\h<=r/\r<R)/\((!(I&&Y.pos))=true->K)/\((!(I&&Y.pos))=false->m (v+H)/\(c.length=0->(1=0->(g (f (A::B::C::D::E::F::aD::aE::aF::aG::aH::aI::P::aJ)::z)).same y)/\(1≠0->8<=140737488355328/\1<=1000000000000/\1=1/\(g (f (A::B::C::D::E::F::aD::aE::aF::aG::aH::aI::U::aJ)::z)).same y))/\(c.length≠0->c.length*8<=140737488355328/\c.length<=1000000000000/\c.length=c.length/\J*8<=140737488355328/\J<=1000000000000/\(c++[i]).length=(c++[i]).length/\(g (f (A::B::C::D::E::F::aD::aE::aF::aG::aH::aI::V::aJ)::z)).same y))))/\(O=s->(w4=true->K)/\(w4=false->(((∀(k:Nat),k<6->(d<=l.at k/\l.at k<=e)/\d<=o.at k/\o.at k<=e)/\G.ok=true)/\h<=s/\s<R)/\((!(I&&Z.pos))=true->K)/\((!(I&&Z.pos))=false->m (v+H)/\(c.length=0->(1=0->(g (f (A::B::C::D::E::F::aK::aL::aM::aN::aO::aP::P::aQ)::z)).same y)/\(1≠0->8<=140737488355328/\1<=1000000000000/\1=1/\(g (f (A::B::C::D::E::F::aK::aL::aM::aN::aO::aP::U::aQ)::z)).same y))/\(c.length≠0->c.length*8<=140737488355328/\c.length<=1000000000000/\c.length=c.length/\J*8<=140737488355328/\J<=1000000000000/\(c++[i]).length=(c++[i]).length/\(g (f (A::B::C::D::E::F::aK::aL::aM::aN::aO::aP::V::aQ)::z)).same y))))/\(O=t->(w5=true->K)/\(w5=false->(((∀(k:Nat),k<6->(d<=l.at k/\l.at k<=e)/\d<=o.at k/\o.at k<=e)/\G.ok=true)/\h<=t/\t<R)/\((!(I&&a6.pos))=true->K)/\((!(I&&a6.pos))=false->m (v+H)/\(c.length=0->(1=0->(g (f (A::B::C::D::E::F::aR::aS::aT::aU::aV::aW::P::aX)::z)).same y)/\(1≠0->8<=140737488355328/\1<=1000000000000/\1=1/\(g (f (A::B::C::D::E::F::aR::aS::aT::aU::aV::aW::U::aX)::z)).same y))/\(c.length≠0->c.length*8<=140737488355328/\c.length<=1000000000000/\c.length=c.length/\J*8<=140737488355328/\J<=1000000000000/\(c++[i]).length=(c++[i]).length/\(g (f (A::B::C::D::E::F::aR::aS::aT::aU::aV::aW::V::aX)::z)).same y))))/\(O=u->(w6=true->K)/\(w6=false->(((∀(k:Nat),k<6->(d<=l.at k/\l.at k<=e)/\d<=o.at k/\o.at k<=e)/\G.ok=true)/\h<=u/\u<R)/\((!(I&&a7.pos))=true->K)/\((!(I&&a7.pos))=false->m (v+H)/\(c.length=0->(1=0->(g (f (A::B::C::D::E::F::aY::aZ::b0::b1::b2::b3::P::b4)::z)).same y)/\(1≠0->8<=140737488355328/\1<=1000000000000/\1=1/\(g (f (A::B::C::D::E::F::aY::aZ::b0::b1::b2::b3::U::b4)::z)).same y))/\(c.length≠0->c.length*8<=140737488355328/\c.length<=1000000000000/\c.length=c.length/\J*8<=140737488355328/\J<=1000000000000/\(c++[i]).length=(c++[i]).length/\(g (f (A::B::C::D::E::F::aY::aZ::b0::b1::b2::b3::V::b4)::z)).same y))))/\(O=w->(w7=true->K)/\(w7=false->(((∀(k:Nat),k<6->(d<=l.at k/\l.at k<=e)/\d<=o.at k/\o.at k<=e)/\G.ok=true)/\h<=w/\w<R)/\((!(I&&a8.pos))=true->K)/\((!(I&&a8.pos))=false->m (v+H)/\(c.length=0->(1=0->(g (f (A::B::C::D::E::F::b5::b6::b7::b8::b9::ba::P::bb)::z)).same y)/\(1≠0->8<=140737488355328/\1<=1000000000000/\1=1/\(g (f (A::B::C::D::E::F::b5::b6::b7::b8::b9::ba::U::bb)::z)).same y))/\(c.length≠0->c.length*8<=140737488355328/\c.length<=1000000000000/\c.length=c.length/\J*8<=140737488355328/\J<=1000000000000/\(c++[i]).length=(c++[i]).length/\(g (f (A::B::C::D::E::F::b5::b6::b7::b8::b9::ba::V::bb)::z)).same y))))/\h<=O/\O<(8:Int)) (by kernel_rfl) ?_
 simp only[vcs]
 have hg:=(pz hc).2.2.2.2 (oI p i) (nA (by omega))
 have hc8:=(pz hc).1
 obtain⟨h1,h2,h3⟩:=hd
 have h1':∀k,k<6->(-1000<=l.at k/\l.at k<=1000)/\(-1000<=o.at k/\o.at k<=1000):=h1
 have h2':0<=v/\v<=160000000:=h2
 have h3':c.length<=1000:=h3
 refine⟨i0,i1,by omega,?_⟩
 have eo:bo p.offers i.toNat bD.off.dflt=oI p i:=rfl
 simp only[eo]
 generalize hr:fP (acA p (xP (l,o,c,v,w0,w1,w2,w3,w4,w5,w6,w7)) i)=r
 simp only[acA,uB] at hr
 generalize hW:HH p (xP (l,o,c,v,w0,w1,w2,w3,w4,w5,w6,w7)) (oI p i)=W at*
 simp only[HH] at hW
 generalize oI p i=x at*
 obtain⟨b,w,y⟩:=x
 simp only at hg hW hr ⊢
 refine⟨?_,?_,?_,?_,?_,?_,?_,?_,?_⟩
 case refine_9=>
  exact⟨hg.1,by omega⟩
 all_goals
  rintro rfl
  refine⟨fun hw=>?_,fun hw=>⟨⟨⟨h1',hg.2.2.1⟩,by omega,by omega⟩,fun hq=>?_,fun hq=>⟨by omega,fun hl=>⟨fun h=>absurd h (by decide),fun _=>⟨by omega,by omega,?_⟩⟩,fun hl=>⟨by omega,by omega,by omega,by omega,?_⟩⟩⟩⟩
  all_goals subst hw
  ·have e:W=false:=hW.symm
   subst e;subst hr
   exact⟨rfl,rfl⟩
  ·have e:W=false:=hW.symm.trans hq
   subst e;subst hr
   exact⟨rfl,rfl⟩
  ·have e:W=true:=hW.symm.trans (by simp only[Bool.and_eq_true];exact⟨rfl,hq⟩)
   subst e;subst hr
   have:=List.eq_nil_of_length_eq_zero hl
   subst this
   exact⟨rfl,rfl⟩
  ·have e:W=true:=hW.symm.trans (by simp only[Bool.and_eq_true];exact⟨rfl,hq⟩)
   subst e;subst hr
   exact⟨rfl,rfl⟩
def arE:fN:=⟨92,Pfd×cn×Int,.cons (yl adQ) (.cons ql (.one (sj .i64))),fun a=>dV a.2.1=0/\akc (xP a.1)/\0<=a.2.2/\a.2.2<=a.2.1.offers.length,
 fun a=> .agg (Bn a.2.1 (xP a.1) a.2.2.toNat).ss⟩
def abY (p:cn) (u:Kt) (i k:Nat):List Off:=((p.offers.take k).drop i).filter (HH p u)
theorem aHf {p:cn} {u:Kt} {i:Nat}:abY p u i i=[]:=by
 unfold abY
 rw[List.drop_eq_nil_of_le (by rw[List.length_take];omega)]
 rfl
theorem aHg {p:cn} {u:Kt} {i k:Nat} (hi:i<=k) (hk:k<p.offers.length):abY p u i (k+1)=abY p u i k++if HH p u (oI p k)=true then[oI p k] else[]:=by
 unfold abY
 have e:oI p k=p.offers[k]:=jV (by simpa using hk)
 rw[List.take_succ_eq_append_getElem hk,List.drop_append_of_le_length (by rw[List.length_take];omega),List.filter_append,e]
 congr 1
 by_cases h:HH p u p.offers[k]=true
 ·rw[if_pos h,List.filter_cons_of_pos h];rfl
 ·rw[if_neg h,List.filter_cons_of_neg h];rfl
theorem aHh {p:cn} {u:Kt} {i k:Nat}:(abY p u i k).length<=p.offers.length:=by
 unfold abY
 refine Nat.le_trans (List.length_filter_le _ _) ?_
 rw[List.length_drop,List.length_take];omega
def aHi (l o:dp) (c:List Int) (v:Int) (w0 w1 w2 w3 w4 w5 w6 w7:Bool) (p:cn) (i:Int):Nat->jW
 |3=> .inv Int (fun k=>⟨[(3,.ptr 0 0 22),(4,.ptr 1 0 20),(6,.ptr 2 0 20),(7,.ptr 3 0 20),(8,.si .i64 k)],
   [.cells (encS adQ (l,o,c,v,w0,w1,w2,w3,w4,w5,w6,w7)) 153 22 false,.cells p.ss 27 20 false,
    .cells [.il .i64 0,.il .i64 0,.il .i64 0,.il .i64 0,.il .i64 0,.il .i64 0,.il .i64 0,.il .i64 0,.il .i64 0,.il .i64 0,.il .i64 0,.il .i64 0,.il .i64 0,.il .i64 0,.il .i64 0,.il .i64 0,.il .i64 0,.il .i64 0,.sc (.slice none 0 0),.sc (.slice none 0 0)] 27 20 false,
    .cells [.si .i64 l.a0,.si .i64 l.a1,.si .i64 l.a2,.si .i64 l.a3,.si .i64 l.a4,.si .i64 l.a5,.si .i64 o.a0,.si .i64 o.a1,.si .i64 o.a2,.si .i64 o.a3,.si .i64 o.a4,.si .i64 o.a5,
     .si .i64 p.cls.a0,.si .i64 p.cls.a1,.si .i64 p.cls.a2,.si .i64 p.cls.a3,.si .i64 p.cls.a4,.si .i64 p.cls.a5,.row (.i .i64) p.classes,.ow 4 (abY p (xP (l,o,c,v,w0,w1,w2,w3,w4,w5,w6,w7)) i.toNat k.toNat).length 8] 27 20 false,
    .row .off (abY p (xP (l,o,c,v,w0,w1,w2,w3,w4,w5,w6,w7)) i.toNat k.toNat) 58 true]⟩)
   (fun s=>iS s 8) (fun k=>i<=k/\k<=p.offers.length) (fun k=>(p.offers.length - k).toNat) fun _ _=> .look
 |_=> .look
theorem h444:Holds Tryz.prog arE:=by
 refine lj (L:=[amU]) arE (fun a=>aHi a.1.1 a.1.2.1 a.1.2.2.1 a.1.2.2.2.1 a.1.2.2.2.2.1 a.1.2.2.2.2.2.1 a.1.2.2.2.2.2.2.1 a.1.2.2.2.2.2.2.2.1 a.1.2.2.2.2.2.2.2.2.1 a.1.2.2.2.2.2.2.2.2.2.1 a.1.2.2.2.2.2.2.2.2.2.2.1 a.1.2.2.2.2.2.2.2.2.2.2.2 a.2.1 a.2.2) (by simpa using h443) ?_
 rintro⟨⟨l,o,c,v,w0,w1,w2,w3,w4,w5,w6,w7⟩,p,i⟩ ⟨hc,hd,i0,i1⟩
 simp only at hc hd i0 i1
 refine gw (let a:=SV.si .i64;let b:=cC.cells;let d:=cC.row;let e:=SV.sb;let f:=SV.row;let g:=SV.ptr;let h:=(0:Int);let j:=SV.ow;let y:=a p.cls.a0;let z:=a p.cls.a1;let A:=a p.cls.a2;let B:=a p.cls.a3;let C:=a p.cls.a4;let D:=a p.cls.a5;let Z:=bD.i .i64;let E:=f Z p.classes;let G:=g 0 0 22;let H:=g 1 0 20;let I:=g 2 0 20;let J:=g 3 0 20;let K:=a l.a0;let L:=a l.a1;let M:=a l.a2;let N:=a l.a3;let O:=a l.a4;let P:=a l.a5;let Q:=a o.a0;let R:=a o.a1;let S:=a o.a2;let T:=a o.a3;let U:=a o.a4;let V:=a o.a5;let W:=b [K,L,M,N,O,P,Q,R,S,T,U,V,f Z c,a v,e w0,e w1,e w2,e w3,e w4,e w5,e w6,e w7] 153 22 false;let X:=f bD.off p.offers;let k:=SV.il .i64 0;let a8:=SV.sc (Value.slice none 0 0);let Y:=b [k,k,k,k,k,k,k,k,k,k,k,k,k,k,k,k,k,k,a8,a8] 27 20 false;let n:=xP (l,o,c,v,w0,w1,w2,w3,w4,w5,w6,w7);let a9:=abY p n i.toNat i.toNat;let q:=(↑p.offers.length:Int);let a6:=(↑p.offers.length:Int);let F:=Bn p n i.toNat;let r:=F.supply;let s:=F.opn;let t:=F.cls;let a7:=fun(u u_1:dp) (u_2 u_3:SV) ↦let aa:=a u.a0;let ab:=a u.a1;let ac:=a u.a2;let ad:=a u.a3;let ae:=a u.a4;let af:=a u.a5;let ag:=a u_1.a0;let ah:=a u_1.a1;let ai:=a u_1.a2;let aj:=a u_1.a3;let ak:=a u_1.a4;let al:=a u_1.a5;(b [aa,ab,ac,ad,ae,af,ag,ah,ai,aj,ak,al,y,z,A,B,C,D,E,u_2] 27 20 false).same (b [aa,ab,ac,ad,ae,af,ag,ah,ai,aj,ak,al,y,z,A,B,C,D,E,u_3] 27 20 false);(((G.same G/\H.same H/\I.same I/\J.same J/\(a i).same (a i)/\True)/\W.same W/\a7 p.supply p.opn X X/\Y.same Y/\a7 l o (j 4 0 8) (j 4 a9.length 8)/\(d bD.off [] 58 true).same (d bD.off a9 58 true)/\True)/\i<=i/\i<=q)/\∀(x:Int),let w:=x+(1:Int);let am:=a w;let an:=abY p n i.toNat w.toNat;let ao:=HH p n (oI p x);let m:=abY p n i.toNat x.toNat;let ap:=m.length+1;let aq:=m++[bo p.offers x.toNat bD.off.dflt];let ar:=fun(u:Nat) (u_1:cC) ↦iR .i64 w/\((G.same G/\H.same H/\I.same I/\J.same J/\am.same am/\True)/\W.same W/\a7 p.supply p.opn X X/\Y.same Y/\(b [K,L,M,N,O,P,Q,R,S,T,U,V,y,z,A,B,C,D,E,j 4 u 8] 27 20 false).same (b [K,L,M,N,O,P,Q,R,S,T,U,V,y,z,A,B,C,D,E,j 4 an.length 8] 27 20 false)/\u_1.same (d bD.off an 58 true)/\True)/\(i<=w/\w<=q)/\(q - w).toNat<(q - x).toNat;i<=x/\x<=q->(decide (x<a6)=true->(dV p=h/\akc n/\h<=x/\x<q)/\(ao=true->h<=x/\x<a6/\x.toNat<p.offers.length/\1=1/\m.length=m.length/\ap*64<=140737488355328/\ap<=1000000000000/\ar aq.length (d bD.off aq 58 true))/\(ao=false->ar m.length (d bD.off m 58 true)))/\(decide (x<a6)=false->m.length=m.length/\(SV.agg [K,L,M,N,O,P,Q,R,S,T,U,V,y,z,A,B,C,D,E,f bD.off m]).same (SV.agg [a r.a0,a r.a1,a r.a2,a r.a3,a r.a4,a r.a5,a s.a0,a s.a1,a s.a2,a s.a3,a s.a4,a s.a5,a t.a0,a t.a1,a t.a2,a t.a3,a t.a4,a t.a5,f Z F.classes,f bD.off F.offers]))) (by kernel_rfl) ?_
 simp only[vcs]
 have hl:p.offers.length<=160:=(pz hc).2.1
 generalize hu:xP (l,o,c,v,w0,w1,w2,w3,w4,w5,w6,w7)=u at*
 have e0:=@aHf p u i.toNat
 refine⟨⟨⟨by rw[e0];rfl,by rw[e0];rfl⟩,by omega,by omega⟩,?_⟩
 rintro k ⟨k0,k1⟩
 have hlen:=@aHh p u i.toNat k.toNat
 refine⟨fun hk=>?_,fun hk=>?_⟩
 ·have eS:=@aHg p u i.toNat k.toNat (by omega) (by omega)
  rw[show((k.toNat:Nat):Int)=k by omega] at eS
  have eo:bo p.offers k.toNat bD.off.dflt=oI p k:=rfl
  rw[show(k+1).toNat=k.toNat+1 by omega,eS,eo]
  refine⟨⟨hc,hd,by omega,by omega⟩,fun hw=>?_,fun hw=>?_⟩
  ·rw[if_pos hw]
   exact⟨by omega,by omega,by omega,by omega,by omega,by omega,⟨rfl,rfl⟩,by omega,by omega⟩
  ·rw[if_neg (by rw[hw];simp),List.append_nil]
   exact⟨by omega,⟨rfl,rfl⟩,by omega,by omega⟩
 ·rw[show k.toNat=p.offers.length by omega]
  subst hu;unfold abY;rw[List.take_length];rfl
noncomputable def arF:fN:=⟨57,cn×Int,.cons ql (.one (sj .i64)),fun a=>(dV a.1=0/\a.1.offers.length<=15)/\a.2=(jD a.1).value,
 fun a=> .eW [.row (.i .i64) (jD a.1).chosen,.si .i64 0]⟩
noncomputable def aHj (p:cn) (m:Int):Nat->jW
 |3=> .inv Int (fun k=>⟨[(1,.si .i64 m),(2,.ptr 0 0 20),(6,.ptr 1 0 22),(21,.si .i64 p.offers.length),(22,.si .i64 k)],
   [.cells p.ss 27 20 false,.cells (encS adQ (fP (QF p m k.toNat))) 153 22 false,.dead]⟩)
   (fun s=>iS s 22) (fun k=>0<=k/\k<=p.offers.length) (fun k=>(p.offers.length - k).toNat) fun _ _=> .look
 |_=> .look
theorem aHk {α β:Type} (x:α×β):(x.1,x.2)=x:=rfl
theorem ayk {p:cn} {m:Int} {k:Nat} (h:(QF p m k).value=m):∀n,QF p m (k+n)=QF p m k
 |0=>rfl
 |n+1=>by
  have ih:=ayk h n
  show acz p m (QF p m (k+n)) _=_
  rw[ih];unfold acz;rw[if_pos h]
theorem aHl {p:cn} {u:Kt} {i:Int} (h:u.won.length=8):(acA p u i).won.length=8:=by
 unfold acA;split
 ·show(u.won.set _ true).length=8
  rw[List.length_set];exact h
 ·rfl
theorem ayl {p:cn} {u:Kt} (hc:dV p=0) (hG:adP p u):akc u:=by
 have hq:=amS hc hG (k:=0)
 have h1:=adO.1 (aeT (aec hq).1).1
 have h2:∀k,k<6->0<=u.opn.at k/\u.opn.at k<=u.left.at k:=fun k hk=>⟨(agu hq hk).2.2.1,(agu hq hk).2.2.2.1⟩
 have hf:=(abM hc).2 hG.f
 obtain⟨v0,v1,v2⟩:=afd hc hf
 have hv:u.value=nD p u.chosen:=by rw[hG.v,afV hc hG.f]
 refine⟨fun k hk=>?_,by omega,by omega⟩
 have a:=h1 k hk
 have b:=h2 k hk
 have a':0<=u.left.at k/\u.left.at k<=4:=a
 omega
theorem h436:Holds Tryz.prog arF:=by
 refine lj (L:=[amU,arE,arp]) arF (fun a=>aHj a.1 a.2) (by simpa using⟨h443,h444,h434⟩) ?_
 rintro⟨p,m⟩ ⟨⟨hc,h15⟩,hm⟩
 simp only at hc h15 hm
 refine gw (let a:=SV.si .i64;let b:=SV.sb;let c:=(0:Int);let d:=cC.cells;let e:=SV.row;let f:=iR .i64;let g:=(65536:Int);let h:=SV.eW;let A:=SV.ptr 0 0 20;let B:=SV.ptr 1 0 22;let k:=(↑p.offers.length:Int);let M:=a k;let Q:=SV.il .i64 0;let U:=a 0;let V:=a p.supply.a0;let W:=a p.supply.a1;let X:=a p.supply.a2;let Y:=a p.supply.a3;let Z:=a p.supply.a4;let a6:=a p.supply.a5;let a7:=a p.opn.a0;let a8:=a p.opn.a1;let a9:=a p.opn.a2;let aa:=a p.opn.a3;let ab:=a p.opn.a4;let ac:=a p.opn.a5;let o:=bD.i .i64;let C:=d [V,W,X,Y,Z,a6,a7,a8,a9,aa,ab,ac,a p.cls.a0,a p.cls.a1,a p.cls.a2,a p.cls.a3,a p.cls.a4,a p.cls.a5,e o p.classes,e bD.off p.offers] 27 20 false;let q:=SV.bl false;let D:=fP (QF p m 0);let E:=D.fst;let F:=D.snd.fst;let G:=D.snd.snd.snd.snd.snd;let ad:=G.snd.snd.snd.snd.snd;let ae:=h [e o (jD p).chosen,U];0=0/\((((a m).same (a m)/\A.same A/\B.same B/\(a (↑p.offers.length:Int)).same M/\Q.same U/\True)/\C.same C/\(d [V,W,X,Y,Z,a6,a7,a8,a9,aa,ab,ac,e o [],Q,q,q,q,q,q,q,q,q] 153 22 false).same (d [a E.a0,a E.a1,a E.a2,a E.a3,a E.a4,a E.a5,a F.a0,a F.a1,a F.a2,a F.a3,a F.a4,a F.a5,e o D.snd.snd.fst,a D.snd.snd.snd.fst,b D.snd.snd.snd.snd.fst,b G.fst,b G.snd.fst,b G.snd.snd.fst,b G.snd.snd.snd.fst,b G.snd.snd.snd.snd.fst,b ad.fst,b ad.snd] 153 22 false)/\cC.dead.same cC.dead/\True)/\c<=c/\c<=k)/\∀(x:Int),let j:=x+(1:Int);let N:=a j;let s:=fP (QF p m x.toNat);let t:=s.fst;let v:=s.snd.fst;let af:=e o s.snd.snd.fst;let R:=s.snd.snd.snd.fst;let ag:=s.snd.snd.snd.snd.fst;let l:=s.snd.snd.snd.snd.snd;let ah:=l.snd.snd.snd.snd.fst;let O:=l.snd.snd.snd.snd.snd;let H:=fP (QF p m j.toNat);let I:=H.fst;let J:=H.snd.fst;let K:=H.snd.snd.snd.snd.snd;let ai:=K.snd.snd.snd.snd.snd;let aj:=d [a I.a0,a I.a1,a I.a2,a I.a3,a I.a4,a I.a5,a J.a0,a J.a1,a J.a2,a J.a3,a J.a4,a J.a5,e o H.snd.snd.fst,a H.snd.snd.snd.fst,b H.snd.snd.snd.snd.fst,b K.fst,b K.snd.fst,b K.snd.snd.fst,b K.snd.snd.snd.fst,b K.snd.snd.snd.snd.fst,b ai.fst,b ai.snd] 153 22 false;let P:=xP (t,v,s.snd.snd.fst,R,ag,l.fst,l.snd.fst,l.snd.snd.fst,l.snd.snd.snd.fst,ah,O.fst,O.snd);let w:=(fP (acA p P x)).fst;let r:=(fP (acA p P x)).snd;let y:=r.fst;let z:=r.snd.snd.fst;let ak:=r.snd.snd.snd.snd.fst;let n:=r.snd.snd.snd.snd.snd;let al:=n.snd.snd.snd.snd.fst;let am:=n.snd.snd.snd.snd.snd;let S:=Bn p (xP (w,y,r.snd.fst,z,r.snd.snd.snd.fst,ak,n.fst,n.snd.fst,n.snd.snd.fst,n.snd.snd.snd.fst,al,am)) j.toNat;let an:=JI S (m - z) g;let ao:=f j/\(((a m).same (a m)/\A.same A/\B.same B/\M.same M/\N.same N/\True)/\C.same C/\(d [a t.a0,a t.a1,a t.a2,a t.a3,a t.a4,a t.a5,a v.a0,a v.a1,a v.a2,a v.a3,a v.a4,a v.a5,af,a R,b ag,b l.fst,b l.snd.fst,b l.snd.snd.fst,b l.snd.snd.snd.fst,b ah,b O.fst,b O.snd] 153 22 false).same aj/\cC.dead.same cC.dead/\True)/\(c<=j/\j<=k)/\(k - j).toNat<(k - x).toNat;let ap:=(h [af,Q]).same ae;let aq:=fun(u:Bool) ↦Qy S (m - z) g=u;let ar:=fun(u:Bool) ↦decide (an≠c)=u;let au:=fun(u:Kt) ↦let L:=(fP u).snd.snd.snd.snd;let T:=L.snd.snd.snd.snd.snd;akc (xP ((fP u).fst,(fP u).snd.fst,(fP u).snd.snd.fst,(fP u).snd.snd.snd.fst,L.fst,L.snd.fst,L.snd.snd.fst,L.snd.snd.snd.fst,L.snd.snd.snd.snd.fst,T.fst,T.snd.fst,T.snd.snd));let av:=fun(u:Bool) ↦(!HH p P (oI p x))=u;let aw:=fun(u:Bool) ↦decide (R=m)=u;c<=x/\x<=k->(decide (x<k)=true->(aw true->ap)/\(aw false->(dV p=c/\au (QF p m x.toNat)/\c<=x/\x<k)/\(av true->ao)/\(av false->f j/\(dV p=c/\au (acA p P x)/\c<=j/\j<=k)/\f (m - z)/\(S.offers.length<=40/\(-9223372036854775808:Int)<=m - z/\m - z<=(9223372036854775807:Int))/\(ar true->(h [e o [],a an]).same ae)/\(ar false->(aq true->f j/\(((a m).same (a m)/\A.same A/\B.same B/\M.same M/\N.same N/\True)/\C.same C/\(d [a w.a0,a w.a1,a w.a2,a w.a3,a w.a4,a w.a5,a y.a0,a y.a1,a y.a2,a y.a3,a y.a4,a y.a5,e o r.snd.fst,a z,b r.snd.snd.snd.fst,b ak,b n.fst,b n.snd.fst,b n.snd.snd.fst,b n.snd.snd.snd.fst,b al,b am] 153 22 false).same aj/\cC.dead.same cC.dead/\True)/\(c<=j/\j<=k)/\(k - j).toNat<(k - x).toNat)/\(aq false->ao)))))/\(decide (x<k)=false->ap)) (by kernel_rfl) ?_
 simp only[vcs];simp only[aHk]
 refine⟨⟨rfl,by omega,by omega⟩,?_⟩
 rintro k ⟨k0,k1⟩
 obtain⟨hG,hC⟩:=arA hc h15 k.toNat (by omega)
 rw[<-hm] at hG hC
 generalize hu:QF p m k.toNat=u at*
 have hW:=@aHl p u k hG.wl
 simp only[ayj hG.wl,ayj hW]
 have hrun:QF p m (k+1).toNat=acz p m u k:=by
  rw[show(k+1).toNat=k.toNat+1 by omega]
  show acz p m (QF p m k.toNat) _=_
  rw[hu,show((k.toNat:Nat):Int)=k by omega]
 have hD:=ayl hc hG
 refine⟨fun hk=>⟨fun hv=>?_,fun hv0=>⟨⟨hc,hD,by omega,by omega⟩,fun hw=>?_,fun hw=>?_⟩⟩,fun hk=>?_⟩
 ·have h1:=@ayk p m k.toNat (by rw[hu];exact hv) (p.offers.length - k.toNat)
  rw[show k.toNat+(p.offers.length - k.toNat)=p.offers.length by omega,hu] at h1
  show u.chosen=_
  rw[<-h1,hm,ayi hc h15]
 ·have hv:¬u.value=m:=hv0
  have e:QF p m (k+1).toNat=u:=by rw[hrun];unfold acz;rw[if_neg hv,if_neg (by rw[hw];simp)]
  rw[e]
  exact⟨by omega,rfl,by omega,by omega⟩
 ·have hv:¬u.value=m:=hv0
  have hy:acA p u k=uB p u k:=by unfold acA;rw[if_pos hw]
  rw[hy]
  have hlt:∀j∈u.chosen,j<k:=fun j hj=>by
   rw[hC] at hj
   have:=of_decide_eq_true (List.mem_filter.1 hj).2
   omega
  have hG2:=hG.next hc hlt ⟨by omega,by omega⟩ hw
  have hD2:=ayl hc hG2
  have hq:=amS hc hG2 (k:=(k+1).toNat)
  have hql:(Bn p (uB p u k) (k+1).toNat).offers.length<=15:=by
   have h1:=List.length_filter_le (HH p (uB p u k)) (p.offers.drop (k+1).toNat)
   rw[List.length_drop] at h1
   show((p.offers.drop _).filter _).length<=15
   omega
  have hroom:JI (Bn p (uB p u k) (k+1).toNat) (m - (uB p u k).value) 65536=0:=arx hq (by omega) (by
   have:2^((Bn p (uB p u k) (k+1).toNat).offers.length+1)<=2^16:=Nat.pow_le_pow_right (by omega) (by omega)
   have h16:(2:Nat)^16=65536:=rfl
   omega)
  have hmb:0<=m/\m<=160000000:=by
   obtain⟨f1,f2⟩:=aj9 hc
   have:=afd hc ((abM hc).2 f1)
   rw[afV hc f1] at this;omega
  have hv2:0<=(uB p u k).value/\(uB p u k).value<=160000000:=hD2.2.1
  have ev:(fP (uB p u k)).2.2.2.1=(uB p u k).value:=rfl
  rw[ev,hroom]
  have er:QF p m (k+1).toNat=if Qy (Bn p (uB p u k) (k+1).toNat) (m - (uB p u k).value) 65536=true then uB p u k else u:=by
   rw[hrun];unfold acz;rw[if_neg hv,if_pos hw]
  refine⟨by omega,⟨hc,hD2,by omega,by omega⟩,by omega,⟨by omega,by omega,by omega⟩,fun h=>absurd rfl h,fun _=>⟨fun hb=>?_,fun hb=>?_⟩⟩
  ·rw[er,if_pos hb]
   exact⟨by omega,rfl,by omega,by omega⟩
  ·rw[er,if_neg (by rw[hb];simp)]
   exact⟨by omega,rfl,by omega,by omega⟩
 ·show u.chosen=_
  rw[<-hu,hm,show k.toNat=p.offers.length by omega,ayi hc h15]
noncomputable def aym (p:cn):List Nod:=(Hf p (A5 p (PU p)).chosen 65536).prf
noncomputable def arG:fN:=⟨28,cn,.one ql,fun p=>dV p≠0\/p.offers.length<=15,
 fun p=> .eW [.agg [.row (.i .i64) (if dV p=0 then(jD p).chosen else[]),.si .i64 (if dV p=0 then(jD p).value else 0),.row sg (if dV p=0 then aym p else[])],.si .i64 (dV p)]⟩
theorem h427:Holds Tryz.prog arG:=by
 refine lj (L:=[r79,ajq,ajr,aro,arF]) arG lk (by simpa using⟨h79,h312,h315,h429,h436⟩) ?_
 rintro(p:cn) (hd:dV p≠0\/p.offers.length<=15)
 refine gw (let a:=(0:Int);let b:=SV.si .i64;let c:=SV.row;let d:=(65536:Int);let e:=SV.eW;let f:=SV.agg;let g:=bD.i .i64;let l:=[b (dV p)];let j:=e (f [c g (if dV p=a then(jD p).chosen else[]),b (if dV p=a then(jD p).value else a),c sg (if dV p=a then aym p else[])]::l);let m:=SV.il .i64 0;let n:=f [c g [],m,c g []];let o:=decide (dV p≠a);let k:=(A5 p (PU p)).chosen;let h:=Sl p k d;let q:=decide (h≠a);let r:=Hf p k d;let s:=if h=a then r.val else a;let v:=fun(u u_1:Bool) (u_2:List SV) ↦u=u_1->(e u_2).same j;let t:=fun(u:Bool) (u_1:Int) ↦u=true->(e [n,b u_1]).same j;True/\(o=true->(e (n::l)).same j)/\(o=false->p.offers.length<=40/\(PU p).length<=9223372036854775807/\(p.offers.length<=40/\k.length<=9223372036854775807)/\t q h/\(q=false->((dV p=a/\p.offers.length<=15)/\s=(jD p).value)/\t false a/\v false false [f [c g (jD p).chosen,b s,c sg (if h=a then r.prf else[])],m]))) (by kernel_rfl) ?_
 simp only[vcs]
 by_cases hc:dV p=0
 ·have h15:p.offers.length<=15:=hd.resolve_left fun h=>h hc
  obtain⟨i1,_⟩:=ajZ hc
  have hst:=arn hc
  have hil:=(afd hc i1).2.2
  have ayn:((1+2^(p.offers.length+1):Nat):Int)<=65536+2:=by
   have:2^(p.offers.length+1)<=2^16:=Nat.pow_le_pow_right (by omega) (by omega)
   have h16:(2:Nat)^16=65536:=rfl
   omega
  have hroom:Sl p (A5 p (PU p)).chosen 65536=0:=aG5 hc i1 (by omega) ayn
  obtain⟨_,s2,s3⟩:=aya hc i1 (most:=65536) (by omega)
  have hv:=(s2 (s3 ayn)).2.1
  simp only[hroom,hc,if_true]
  refine⟨fun h=>absurd rfl h,fun _=>⟨by omega,by omega,⟨by omega,by omega⟩,fun h=>absurd rfl h,fun _=>⟨⟨⟨trivial,h15⟩,hv⟩,fun h=>(by cases h),fun _=>⟨?_,trivial⟩⟩⟩⟩
  rw[hv];rfl
 ·refine⟨fun _=>?_,fun h=>absurd hc h⟩
  rw[if_neg hc,if_neg hc,if_neg hc];rfl
def acB (p:cn) (c:List Int) (b:Alloc):Alloc:=if b.value<nD p c then⟨c,nD p c⟩ else b
noncomputable def zc (p:cn):Nat->Int->List Int->Alloc->Alloc
 |0,_,_,b=>b
 |k+1,i,c,b=>zc p k (i+1) c (if lF p (c++[i])=0 then zc p k (i+1) (c++[i]) (acB p (c++[i]) b) else b)
noncomputable def MB (p:cn) (c:List Int) (i:Int) (b:Alloc):Alloc:=zc p (om p i) i c (acB p c b)
theorem aHm {c t:List Int}:¬cmpL (c++t) c<0:=by
 have h:=@aj8 c t []
 rw[List.append_nil] at h;rw[h]
 cases t<;>simp[cmpL]
theorem arH {p:cn} {Q:List Int->Prop}:∀{k:Nat} {i:Int} {c:List Int} {b:Alloc},(∀s,Q (c++s))->Q b.chosen->Q (zc p k i c b).chosen
 |0,_,_,_,_,h=>h
 |k+1,i,c,b,hs,h=>by
  simp only[zc]
  refine arH hs ?_
  split
  ·refine arH (fun s=>by rw[List.append_assoc];exact hs _) ?_
   unfold acB;split
   ·exact hs [i]
   ·exact h
  ·exact h
theorem arI {p:cn} (hc:dV p=0):∀{k:Nat} {i:Int} {c:List Int} {b:Alloc},0<=i->i+k=p.offers.length->aaP 0 i.toNat c->lF p c=0->(∀j t,i<=j->¬cmpL (c++j::t) b.chosen<0)->QY p k i ⟨c,nD p c⟩ b=zc p k i c b
 |0,_,_,_,_,_,_,_,_=>rfl
 |k+1,i,c,b,h0,h1,hi,hf,hb=>by
  simp only[QY,zc]
  have hin:aaP 0 p.offers.length (c++[i]):=by
   refine⟨List.pairwise_append.2 ⟨hi.1,List.pairwise_singleton _ _,fun a ha b hb=>?_⟩,fun j hj=>?_⟩
   ·rw[List.mem_singleton.1 hb]
    have:=hi.2 a ha
    omega
   ·rcases List.mem_append.1 hj with hj|hj
    ·have:=hi.2 j hj
     omega
    ·rw[List.mem_singleton.1 hj]
     omega
  have hcond:SG p (c++[i])=true↔lF p (c++[i])=0:=by
   rw[abM hc];unfold SG;rw[decide_eq_true_eq]
   exact⟨fun h=>⟨hin,h⟩,fun h=>h.2⟩
  have ayo:∀{b':Alloc},(∀j t,i+1<=j->¬cmpL (c++j::t) b'.chosen<0)->QY p k (i+1) ⟨c,nD p c⟩ b'=zc p k (i+1) c b':=fun h=>
   arI hc (by omega) (by omega) ⟨hi.1,fun j hj=>by have:=hi.2 j hj;omega⟩ hf h
  by_cases h:lF p (c++[i])=0
  ·rw[if_pos (hcond.2 h),if_pos h]
   have hv:nD p c+KA p i=nD p (c++[i]):=by
    rw[afV hc ((abM hc).1 hf),afV hc ((abM hc).1 h)];unfold jA;rw[List.map_append,abK]
    simp[jd,KA,oI]
   have hu:better ⟨c++[i],nD p (c++[i])⟩ b=acB p (c++[i]) b:=by
    unfold better acB
    have:=hb i [] (by omega)
    by_cases hw:b.value<nD p (c++[i])
    ·rw[if_pos (.inl hw),if_pos hw]
    ·rw[if_neg (fun h=>h.elim hw fun h=>this h.2),if_neg hw]
   rw[hv,hu]
   have hQ:∀j t,i+1<=j->¬cmpL (c++[i]++j::t) (acB p (c++[i]) b).chosen<0:=fun j t hj=>by
    unfold acB;split
    ·exact aHm
    ·rw[List.append_assoc]
     exact hb i (j::t) (by omega)
   rw[arI hc (by omega) (by omega) ⟨hin.1,fun j hj=>by
    rcases List.mem_append.1 hj with hj|hj
    ·have:=hi.2 j hj
     omega
    ·rw[List.mem_singleton.1 hj]
     omega⟩ h hQ]
   refine ayo (arH (Q:=fun l=>∀j t,i+1<=j->¬cmpL (c++j::t) l<0) (fun s j t hj=>?_) fun j t hj=>?_)
   ·rw[List.append_assoc,aj8]
    show ¬cmpL (j::t) (i::s)<0
    simp only[cmpL]
    rw[if_neg (by omega),if_pos (by omega)]
    decide
   ·unfold acB
    split
    ·rw[aj8]
     show ¬cmpL (j::t) [i]<0
     simp only[cmpL]
     rw[if_neg (by omega),if_pos (by omega)]
     decide
    ·exact hb j t (by omega)
  ·rw[if_neg (fun q=>h (hcond.1 q)),if_neg h]
   exact ayo fun j t hj=>hb j t (by omega)
theorem aHn {p:cn} (hc:dV p=0):MB p [] 0 ⟨[],0⟩=jD p:=by
 have hn:lF p []=0:=(abM hc).2 (au7 (pz hc))
 have hv:nD p []=0:=by rw[afV hc ((abM hc).1 hn)];rfl
 have h:=arI hc (k:=om p 0) (i:=0) (c:=[]) (b:=⟨[],0⟩) (by omega) (by unfold om;omega) ⟨List.Pairwise.nil,fun j hj=>by cases hj⟩ hn (fun j t _=>by simp[cmpL])
 have hu:acB p [] ⟨[],0⟩=⟨[],0⟩:=by unfold acB;rw[hv];rfl
 have hb:better ⟨[],0⟩ ⟨[],0⟩=⟨[],0⟩:=by unfold better;simp[cmpL]
 unfold MB jD aoM;rw[hu,hb,<-h,hv]
def afe (p:cn) (c:List Int) (i:Int) (b:Alloc):Prop:=dV p=0/\(0<=i/\i<=p.offers.length)/\c.length<=i/\b.chosen.length<=160
noncomputable def abw (n:Nat):fN:=⟨54,cn×List Int×Int×Alloc,.cons ql (.cons (qX (.i .i64)) (.cons (sj .i64) (.one Yo))),fun a=>afe a.1 a.2.1 a.2.2.1 a.2.2.2/\om a.1 a.2.2.1<n,
 fun a=>Yo.put (MB a.1 a.2.1 a.2.2.1 a.2.2.2)⟩
noncomputable def M6 (n:Nat):List fN:=[abw n,r58,r55]
noncomputable def amV (p:cn) (c:List Int) (f:Int) (b:Alloc) (dd:ie):Nat->jW
 |5=> .inv (Int×Alloc) (fun x=>⟨[(1,.row (.i .i64) c),(4,.ptr 0 0 20),(7,.ptr 1 0 2),(8,.ptr 2 0 2),(10,.si .i64 x.1)],
   [.cells p.ss 27 20 false,.cells [.row (.i .i64) x.2.chosen,.si .i64 x.2.value] 37 2 false,.cells [.sc (.slice none 0 0),.il .i64 0] 37 2 false]++dd⟩)
   (fun s=>(iS s 10,aS s 1)) (fun x=>f<=x.1/\x.1<=p.offers.length/\x.2.chosen.length<=160/\MB p c f b=zc p (om p x.1) x.1 c x.2) (fun x=>om p x.1) fun _ _=> .look
 |_=> .look
theorem arJ {p:cn} (hN:p.offers.length<=160):∀{k:Nat} {i:Int} {c:List Int} {b:Alloc},c.length<=i->i+k<=p.offers.length->b.chosen.length<=160->(zc p k i c b).chosen.length<=160
 |0,_,_,_,_,_,h=>h
 |k+1,i,c,b,h1,h2,h3=>by
  simp only[zc]
  refine arJ hN (by omega) (by omega) ?_
  split
  ·refine arJ hN (by simp;omega) (by omega) ?_
   unfold acB;split
   ·simp;omega
   ·exact h3
  ·exact h3
theorem ayp {p:cn} (hN:p.offers.length<=160) {c:List Int} {i:Int} {b:Alloc} (h0:0<=i) (h1:i<=p.offers.length) (h2:c.length<=i) (h3:b.chosen.length<=160):(MB p c i b).chosen.length<=160:=by
 unfold MB
 refine arJ hN h2 (by unfold om;omega) ?_
 unfold acB;split
 ·simp only;omega
 ·exact h3
theorem aS1 {env:_} {x0:cC} {c:List Int} {v:Int} {n m:_} {b:Bool} {r:ie}:aS ⟨env,x0:: .cells [.row (.i .i64) c,.si .i64 v] n m b::r⟩ 1=⟨c,v⟩:=rfl
theorem aHo (n:Nat) (p:cn) (c:List Int) (f:Int) (b:Alloc) (h:afe p c f b) (hn:om p f<n+1) (hv:b.value<nD p c):
  Vc (fnK (SC (M6 n) Ug.none ZZ mtN ym) (amV p c f b [.dead,.dead]) (fG 54) ((abw (n+1)).A.put (p,c,f,b)) fun v=>v.same ((abw (n+1)).res (p,c,f,b))):=by
 obtain⟨d,w⟩:=b
 refine gw (let a:=SV.si .i64;let b:=cC.cells;let e:=SV.row;let g:=iR .i64;let h:=SV.agg;let j:=SV.ptr;let P:=decide (w<nD p c);let B:=0+c.length;let m:=bD.i .i64;let l:=e m c;let o:=j 0 0 20;let q:=j 1 0 2;let r:=j 2 0 2;let C:=a f;let k:=b [a p.supply.a0,a p.supply.a1,a p.supply.a2,a p.supply.a3,a p.supply.a4,a p.supply.a5,a p.opn.a0,a p.opn.a1,a p.opn.a2,a p.opn.a3,a p.opn.a4,a p.opn.a5,a p.cls.a0,a p.cls.a1,a p.cls.a2,a p.cls.a3,a p.cls.a4,a p.cls.a5,e m p.classes,e bD.off p.offers] 27 20 false;let Q:=b [l,a (nD p c)] 37 2 false;let R:=[(1,l),(4,o),(7,q),(8,r),(10,C)];let s:=b [SV.sc (Value.slice none 0 0),SV.il .i64 0] 37 2 false;let D:=[s,cC.dead,cC.dead];let I:=aS (iz.mk R (k::Q::D)) 1;let y:=(↑p.offers.length:Int);let v:=MB p c f (Alloc.mk d w);let J:=c.length+1;let S:=b [e m d,a w] 37 2 false;let K:=aS (iz.mk R [k,S,s]) 1;c.length<=9223372036854775807/\(P=true->0=0/\B*8<=140737488355328/\B<=1000000000000/\c.length=c.length/\(((l.same l/\o.same o/\q.same q/\r.same r/\C.same C/\True)/\k.same k/\Q.same (b [e m I.chosen,a I.value] 37 2 false)/\s.same s/\cC.dead.same cC.dead/\cC.dead.same cC.dead/\True)/\f<=f/\f<=y/\I.chosen.length<=160/\v=zc p (om p f) f c I)/\∀(x:Int×Alloc),let T:=decide (x.fst<(↑p.offers.length:Int));let z:=c++[x.fst];let U:=decide (lF p z=(0:Int));let t:=x.fst+(1:Int);let E:=om p t;let F:=a t;let V:=MB p z t x.snd;let W:=b [e m V.chosen,a V.value] 37 2 false;let X:=[(1,l),(4,o),(7,q),(8,r),(10,F)];let L:=aS (iz.mk X (k::W::D)) 1;let Y:=[e m x.snd.chosen,a x.snd.value];let Z:=b Y 37 2 false;let M:=aS (iz.mk X (k::Z::D)) 1;f<=x.fst/\x.fst<=y/\x.snd.chosen.length<=160/\v=zc p (om p x.fst) x.fst c x.snd->(T=true->0=0/\B*8<=140737488355328/\B<=1000000000000/\c.length=c.length/\J*8<=140737488355328/\J<=1000000000000/\z.length=z.length/\z.length<=9223372036854775807/\(U=true->z.length=z.length/\g t/\(afe p z t x.snd/\E<n)/\g t/\((l.same l/\o.same o/\q.same q/\r.same r/\F.same F/\True)/\k.same k/\W.same (b [e m L.chosen,a L.value] 37 2 false)/\s.same s/\cC.dead.same cC.dead/\cC.dead.same cC.dead/\True)/\(f<=t/\t<=y/\L.chosen.length<=160/\v=zc p E t c L)/\E<om p x.fst)/\(U=false->g t/\((l.same l/\o.same o/\q.same q/\r.same r/\F.same F/\True)/\k.same k/\Z.same (b [e m M.chosen,a M.value] 37 2 false)/\s.same s/\cC.dead.same cC.dead/\cC.dead.same cC.dead/\True)/\(f<=t/\t<=y/\M.chosen.length<=160/\v=zc p E t c M)/\E<om p x.fst))/\(T=false->(h Y).same (h [e m v.chosen,a v.value])))/\(P=false->(((l.same l/\o.same o/\q.same q/\r.same r/\C.same C/\True)/\k.same k/\S.same (b [e m K.chosen,a K.value] 37 2 false)/\s.same s/\False)/\f<=f/\f<=y/\K.chosen.length<=160/\v=zc p (om p f) f c K)/\∀(x:Int×Alloc),let a6:=decide (x.fst<(↑p.offers.length:Int));let A:=c++[x.fst];let a7:=decide (lF p A=(0:Int));let u:=x.fst+(1:Int);let G:=om p u;let H:=a u;let a8:=MB p A u x.snd;let a9:=b [e m a8.chosen,a a8.value] 37 2 false;let aa:=[(1,l),(4,o),(7,q),(8,r),(10,H)];let N:=aS (iz.mk aa (k::a9::D)) 1;let ab:=[e m x.snd.chosen,a x.snd.value];let ac:=b ab 37 2 false;let O:=aS (iz.mk aa (k::ac::D)) 1;f<=x.fst/\x.fst<=y/\x.snd.chosen.length<=160/\v=zc p (om p x.fst) x.fst c x.snd->(a6=true->0=0/\B*8<=140737488355328/\B<=1000000000000/\c.length=c.length/\J*8<=140737488355328/\J<=1000000000000/\A.length=A.length/\A.length<=9223372036854775807/\(a7=true->A.length=A.length/\g u/\(afe p A u x.snd/\G<n)/\g u/\((l.same l/\o.same o/\q.same q/\r.same r/\H.same H/\True)/\k.same k/\a9.same (b [e m N.chosen,a N.value] 37 2 false)/\s.same s/\cC.dead.same cC.dead/\cC.dead.same cC.dead/\True)/\(f<=u/\u<=y/\N.chosen.length<=160/\v=zc p G u c N)/\G<om p x.fst)/\(a7=false->g u/\((l.same l/\o.same o/\q.same q/\r.same r/\H.same H/\True)/\k.same k/\ac.same (b [e m O.chosen,a O.value] 37 2 false)/\s.same s/\cC.dead.same cC.dead/\cC.dead.same cC.dead/\True)/\(f<=u/\u<=y/\O.chosen.length<=160/\v=zc p G u c O)/\G<om p x.fst))/\(a6=false->(h ab).same (h [e m v.chosen,a v.value])))) (by kernel_rfl) ?_
 conv=>zeta
 obtain⟨hc,hf,hcl,hdl⟩:=h
 simp only at hcl hdl hv
 simp only[vcs,aS1]
 have hN:p.offers.length<=160:=(pz hc).2.1
 have upd:MB p c f ⟨d,w⟩=zc p (om p f) f c (if w<nD p c then⟨c,nD p c⟩ else⟨d,w⟩):=rfl
 have round:∀x:Int×Alloc,f<=x.1/\x.1<=p.offers.length/\x.2.chosen.length<=160/\MB p c f ⟨d,w⟩=zc p (om p x.1) x.1 c x.2->x.1<p.offers.length->
   om p x.1=om p (x.1+1)+1/\om p (x.1+1)<n/\om p (x.1+1)<om p x.1/\(c++[x.1]).length=c.length+1/\
   MB p c f ⟨d,w⟩=zc p (om p (x.1+1)) (x.1+1) c (if lF p (c++[x.1])=0 then MB p (c++[x.1]) (x.1+1) x.2 else x.2):=fun x hx hlt=>by
  obtain⟨h1,h2,h3,h4⟩:=hx
  have hl:om p x.1=om p (x.1+1)+1:=by unfold om;omega
  have hlf:om p x.1<=om p f:=by unfold om;omega
  refine⟨hl,by omega,by omega,by simp,?_⟩
  rw[h4,hl];rfl
 have len:∀{c':List Int} {i:Int} {b:Alloc},0<=i->i<=p.offers.length->c'.length<=i->b.chosen.length<=160->(MB p c' i b).chosen.length<=160:=fun h0 h1 h2 h3=>ayp hN h0 h1 h2 h3
 refine⟨by omega,fun h1=>⟨by omega,by omega,⟨by omega,by omega,by omega,?_⟩,?_⟩,fun h1=>absurd hv h1⟩
 ·rw[upd,if_pos h1]
 ·rintro⟨i,⟨e,u⟩⟩ hx
  obtain⟨hi0,hi1,hs,hi⟩:=id hx
  simp only at hi0 hi1 hs hi
  refine⟨fun hlt=>?_,fun hge=>?_⟩
  ·obtain⟨r1,r2,r3,r4,r5⟩:=round ⟨i,⟨e,u⟩⟩ hx hlt
   simp only at r1 r2 r3 r5
   have r4:(c++[i]).length=c.length+1:=r4
   refine⟨by omega,by omega,by omega,by omega,by omega,fun hr=>?_,fun hr=>?_⟩
   ·rw[if_pos hr] at r5
    exact⟨by omega,⟨⟨hc,by omega,by omega,hs⟩,r2⟩,by omega,⟨by omega,by omega,len (by omega) (by omega) (by omega) hs,r5⟩,r3⟩
   ·rw[if_neg hr] at r5
    exact⟨by omega,⟨by omega,by omega,hs,r5⟩,r3⟩
  ·have hl:om p i=0:=by unfold om;omega
   rw[hl] at hi;simp only[zc] at hi;rw[hi];exact rfl
theorem aHp (n:Nat) (p:cn) (c:List Int) (f:Int) (b:Alloc) (h:afe p c f b) (hn:om p f<n+1) (hv:¬b.value<nD p c):
  Vc (fnK (SC (M6 n) Ug.none ZZ mtN ym) (amV p c f b []) (fG 54) ((abw (n+1)).A.put (p,c,f,b)) fun v=>v.same ((abw (n+1)).res (p,c,f,b))):=by
 obtain⟨d,w⟩:=b
 refine gw (let a:=SV.si .i64;let b:=cC.cells;let e:=SV.row;let g:=iR .i64;let h:=SV.agg;let j:=SV.ptr;let O:=decide (w<nD p c);let B:=0+c.length;let o:=bD.i .i64;let m:=e o c;let q:=j 0 0 20;let r:=j 1 0 2;let s:=j 2 0 2;let C:=a f;let k:=b [a p.supply.a0,a p.supply.a1,a p.supply.a2,a p.supply.a3,a p.supply.a4,a p.supply.a5,a p.opn.a0,a p.opn.a1,a p.opn.a2,a p.opn.a3,a p.opn.a4,a p.opn.a5,a p.cls.a0,a p.cls.a1,a p.cls.a2,a p.cls.a3,a p.cls.a4,a p.cls.a5,e o p.classes,e bD.off p.offers] 27 20 false;let P:=b [m,a (nD p c)] 37 2 false;let Q:=[(1,m),(4,q),(7,r),(8,s),(10,C)];let l:=b [SV.sc (Value.slice none 0 0),SV.il .i64 0] 37 2 false;let H:=aS (iz.mk Q [k,P,l,cC.dead,cC.dead]) 1;let y:=(↑p.offers.length:Int);let v:=MB p c f (Alloc.mk d w);let I:=c.length+1;let R:=b [e o d,a w] 37 2 false;let J:=aS (iz.mk Q [k,R,l]) 1;c.length<=9223372036854775807/\(O=true->0=0/\B*8<=140737488355328/\B<=1000000000000/\c.length=c.length/\(((m.same m/\q.same q/\r.same r/\s.same s/\C.same C/\True)/\k.same k/\P.same (b [e o H.chosen,a H.value] 37 2 false)/\l.same l/\False)/\f<=f/\f<=y/\H.chosen.length<=160/\v=zc p (om p f) f c H)/\∀(x:Int×Alloc),let S:=decide (x.fst<(↑p.offers.length:Int));let z:=c++[x.fst];let T:=decide (lF p z=(0:Int));let t:=x.fst+(1:Int);let D:=om p t;let E:=a t;let U:=MB p z t x.snd;let V:=b [e o U.chosen,a U.value] 37 2 false;let W:=[(1,m),(4,q),(7,r),(8,s),(10,E)];let K:=aS (iz.mk W [k,V,l]) 1;let X:=[e o x.snd.chosen,a x.snd.value];let Y:=b X 37 2 false;let L:=aS (iz.mk W [k,Y,l]) 1;f<=x.fst/\x.fst<=y/\x.snd.chosen.length<=160/\v=zc p (om p x.fst) x.fst c x.snd->(S=true->0=0/\B*8<=140737488355328/\B<=1000000000000/\c.length=c.length/\I*8<=140737488355328/\I<=1000000000000/\z.length=z.length/\z.length<=9223372036854775807/\(T=true->z.length=z.length/\g t/\(afe p z t x.snd/\D<n)/\g t/\((m.same m/\q.same q/\r.same r/\s.same s/\E.same E/\True)/\k.same k/\V.same (b [e o K.chosen,a K.value] 37 2 false)/\l.same l/\True)/\(f<=t/\t<=y/\K.chosen.length<=160/\v=zc p D t c K)/\D<om p x.fst)/\(T=false->g t/\((m.same m/\q.same q/\r.same r/\s.same s/\E.same E/\True)/\k.same k/\Y.same (b [e o L.chosen,a L.value] 37 2 false)/\l.same l/\True)/\(f<=t/\t<=y/\L.chosen.length<=160/\v=zc p D t c L)/\D<om p x.fst))/\(S=false->(h X).same (h [e o v.chosen,a v.value])))/\(O=false->(((m.same m/\q.same q/\r.same r/\s.same s/\C.same C/\True)/\k.same k/\R.same (b [e o J.chosen,a J.value] 37 2 false)/\l.same l/\True)/\f<=f/\f<=y/\J.chosen.length<=160/\v=zc p (om p f) f c J)/\∀(x:Int×Alloc),let Z:=decide (x.fst<(↑p.offers.length:Int));let A:=c++[x.fst];let a6:=decide (lF p A=(0:Int));let u:=x.fst+(1:Int);let F:=om p u;let G:=a u;let a7:=MB p A u x.snd;let a8:=b [e o a7.chosen,a a7.value] 37 2 false;let a9:=[(1,m),(4,q),(7,r),(8,s),(10,G)];let M:=aS (iz.mk a9 [k,a8,l]) 1;let aa:=[e o x.snd.chosen,a x.snd.value];let ab:=b aa 37 2 false;let N:=aS (iz.mk a9 [k,ab,l]) 1;f<=x.fst/\x.fst<=y/\x.snd.chosen.length<=160/\v=zc p (om p x.fst) x.fst c x.snd->(Z=true->0=0/\B*8<=140737488355328/\B<=1000000000000/\c.length=c.length/\I*8<=140737488355328/\I<=1000000000000/\A.length=A.length/\A.length<=9223372036854775807/\(a6=true->A.length=A.length/\g u/\(afe p A u x.snd/\F<n)/\g u/\((m.same m/\q.same q/\r.same r/\s.same s/\G.same G/\True)/\k.same k/\a8.same (b [e o M.chosen,a M.value] 37 2 false)/\l.same l/\True)/\(f<=u/\u<=y/\M.chosen.length<=160/\v=zc p F u c M)/\F<om p x.fst)/\(a6=false->g u/\((m.same m/\q.same q/\r.same r/\s.same s/\G.same G/\True)/\k.same k/\ab.same (b [e o N.chosen,a N.value] 37 2 false)/\l.same l/\True)/\(f<=u/\u<=y/\N.chosen.length<=160/\v=zc p F u c N)/\F<om p x.fst))/\(Z=false->(h aa).same (h [e o v.chosen,a v.value])))) (by kernel_rfl) ?_
 conv=>zeta
 obtain⟨hc,hf,hcl,hdl⟩:=h
 simp only at hcl hdl hv
 simp only[vcs,aS1]
 have hN:p.offers.length<=160:=(pz hc).2.1
 have upd:MB p c f ⟨d,w⟩=zc p (om p f) f c (if w<nD p c then⟨c,nD p c⟩ else⟨d,w⟩):=rfl
 have round:∀x:Int×Alloc,f<=x.1/\x.1<=p.offers.length/\x.2.chosen.length<=160/\MB p c f ⟨d,w⟩=zc p (om p x.1) x.1 c x.2->x.1<p.offers.length->
   om p x.1=om p (x.1+1)+1/\om p (x.1+1)<n/\om p (x.1+1)<om p x.1/\(c++[x.1]).length=c.length+1/\
   MB p c f ⟨d,w⟩=zc p (om p (x.1+1)) (x.1+1) c (if lF p (c++[x.1])=0 then MB p (c++[x.1]) (x.1+1) x.2 else x.2):=fun x hx hlt=>by
  obtain⟨h1,h2,h3,h4⟩:=hx
  have hl:om p x.1=om p (x.1+1)+1:=by unfold om;omega
  have hlf:om p x.1<=om p f:=by unfold om;omega
  refine⟨hl,by omega,by omega,by simp,?_⟩
  rw[h4,hl];rfl
 have len:∀{c':List Int} {i:Int} {b:Alloc},0<=i->i<=p.offers.length->c'.length<=i->b.chosen.length<=160->(MB p c' i b).chosen.length<=160:=fun h0 h1 h2 h3=>ayp hN h0 h1 h2 h3
 refine⟨by omega,fun h1=>absurd h1 hv,fun h1=>⟨⟨by omega,by omega,by omega,?_⟩,?_⟩⟩
 ·rw[upd,if_neg h1]
 ·rintro⟨i,⟨e,u⟩⟩ hx
  obtain⟨hi0,hi1,hs,hi⟩:=id hx
  simp only at hi0 hi1 hs hi
  refine⟨fun hlt=>?_,fun hge=>?_⟩
  ·obtain⟨r1,r2,r3,r4,r5⟩:=round ⟨i,⟨e,u⟩⟩ hx hlt
   simp only at r1 r2 r3 r5
   have r4:(c++[i]).length=c.length+1:=r4
   refine⟨by omega,by omega,by omega,by omega,by omega,fun hr=>?_,fun hr=>?_⟩
   ·rw[if_pos hr] at r5
    exact⟨by omega,⟨⟨hc,by omega,by omega,hs⟩,r2⟩,by omega,⟨by omega,by omega,len (by omega) (by omega) (by omega) hs,r5⟩,r3⟩
   ·rw[if_neg hr] at r5
    exact⟨by omega,⟨by omega,by omega,hs,r5⟩,r3⟩
  ·have hl:om p i=0:=by unfold om;omega
   rw[hl] at hi;simp only[zc] at hi;rw[hi];exact rfl
theorem arK:∀n,Holds Tryz.prog (abw n)
 |0=>by
  rintro⟨p,c,f,b⟩ ⟨_,h⟩
  exact absurd h (Nat.not_lt_zero _)
 |n+1=>by
  rintro⟨p,c,f,b⟩ ⟨h1,h2⟩
  by_cases hc:om p f<n
  ·exact arK n (p,c,f,b) ⟨h1,hc⟩
  ·have hL:∀c∈M6 n,Holds Tryz.prog c:=by
    simp only[M6,List.forall_mem_cons,List.not_mem_nil,false_implies,implies_true,and_true]
    exact⟨arK n,h58,h55⟩
   have hfr:∀d,Yf (abw (n+1)).f (M6 n)=some d->∀b2,gL ((abw (n+1)).A.put (p,c,f,b))=gL (d.A.put b2)->¬d.dom b2:=by
    intro d hd b2 hb1 hb3
    have hd2:d=abw n:=by
     have:Yf 54 (M6 n)=some (abw n):=rfl
     have hd3:Yf 54 (M6 n)=some d:=hd
     rw[this] at hd3;injection hd3 with hd3;exact hd3.symm
    subst hd2
    have:=(abw n).A.inj _ _ hb1
    rw[<-this] at hb3
    exact hc hb3.2
   by_cases hv:b.value<nD p c
   ·exact auG (L:=M6 n) (abw (n+1)) (fG 54) (amV p c f b [.dead,.dead]) (aaO.none _) hL (show ym 54=some (fG 54) by kernel_rfl) (p,c,f,b) rfl hfr (aHo n p c f b h1 h2 hv)
   ·exact auG (L:=M6 n) (abw (n+1)) (fG 54) (amV p c f b []) (aaO.none _) hL (show ym 54=some (fG 54) by kernel_rfl) (p,c,f,b) rfl hfr (aHp n p c f b h1 h2 hv)
noncomputable def arL:fN:=⟨26,cn,.one ql,fun p=>dV p=0,fun p=>Yo.put (jD p)⟩
theorem h426:Holds Tryz.prog arL:=by
 refine lj (L:=[abw 161]) arL lk (by simpa using arK 161) ?_
 rintro(p:cn) (hc:dV p=0)
 refine gw (let a:=(0:Int);let b:=Alloc.mk [] a;let c:=MB p [] a b;(afe p [] a b/\om p a<161)/\(SV.agg [SV.row (bD.i .i64) c.chosen,SV.si .i64 c.value]).same (SV.agg [SV.row (bD.i .i64) (jD p).chosen,SV.si .i64 (jD p).value])) (by kernel_rfl) ?_
 conv=>zeta
 have hN:=(pz hc).2.1
 refine⟨⟨⟨hc,⟨by omega,by omega⟩,by simp,by simp⟩,by unfold om;omega⟩,?_⟩
 rw[aHn hc];exact rfl
section
variable {p:cn}
theorem aHq {l:List Int}:∀x∈(AW p l).offers,x∈p.offers:=fun x hx=>by
 obtain⟨i,hi,rfl⟩:=List.mem_map.1 hx
 have:=(afc.1 hi).1
 exact nA (by omega)
theorem ayr (hc:dV p=0) {l:List Int}:(jD (AW p l)).value<=(jD p).value:=by
 have hq:=ajQ (l:=l) hc
 obtain⟨M,m1,m2,m3⟩:=ao1 hq
 have h:=alB hc (L:=M) m1 fun x hx=>aHq x (m2 x hx)
 rw[aeV hc,m3,aeV hq] at h;exact h
theorem ays (hc:dV p=0) {l L:List Int} (hL:adw p L) (h:∀i∈L,i∉l):jd (jA p L)<=(jD (AW p l)).value:=by
 have hq:=ajQ (l:=l) hc
 have h1:=alB hq (L:=jA p L) hL.2 fun x hx=>by
  obtain⟨i,hi,rfl⟩:=List.mem_map.1 hx
  have:=hL.1.2 i hi
  exact List.mem_map.2 ⟨i,afc.2 ⟨by omega,h i hi⟩,rfl⟩
 rw[aeV hq] at h1;exact h1
def aaA (x:Off):Int:=x.want.at 0+x.want.at 1+x.want.at 2+x.want.at 3+x.want.at 4+x.want.at 5
theorem ayt (hc:dV p=0):∀{M:List Off},(∀x∈M,x∈p.offers)->0<=(M.map aaA).sum
 |[],_=>by simp
 |x::M,h=>by
  have ih:=ayt hc (M:=M) fun y hy=>h y (List.mem_cons_of_mem _ hy)
  have hw:=adO.1 ((pz hc).2.2.2.2 x (h x (List.mem_cons_self ..))).2.2.1
  have h0:=hw 0 (by omega)
  have h1:=hw 1 (by omega)
  have h2:=hw 2 (by omega)
  have h3:=hw 3 (by omega)
  have h4:=hw 4 (by omega)
  have h5:=hw 5 (by omega)
  simp only[List.map_cons,List.sum_cons,aaA];omega
theorem key_inj (hc:dV p=0) {x y:Off} (hx:x∈p.offers) (hy:y∈p.offers) (h:x.key=y.key):x=y:=by
 have h1:=(aly (by
  have:=hc
  unfold dV at this
  rw[if_neg (by rw[(aec hc).1];simp)] at this
  exact this)).1
 obtain⟨i,hi,rfl⟩:=List.getElem_of_mem hx
 obtain⟨j,hj,rfl⟩:=List.getElem_of_mem hy
 have e:(p.offers.map Off.key)[i]'(by simpa using hi)=(p.offers.map Off.key)[j]'(by simpa using hj):=by simpa using h
 have:=(List.getElem_inj (h₀:=by simpa using hi) (h₁:=by simpa using hj) h1).1 e
 subst this;rfl
theorem aHr (hc:dV p=0):∀(n:Nat) (M:List Off),Da p M->(∀x∈M,x∈p.offers)->jd M=(jD p).value->(M.map aaA).sum<=n->∃N,Da p N/\(∀x∈N,x∈p.offers)/\jd N=(jD p).value/\∀k∈x4 p,oI p k∉N:=by
 intro n
 induction n with
 |zero=>
  intro M h1 h2 h3 h4
  refine⟨M,h1,h2,h3,fun k hk hm=>?_⟩
  obtain⟨hk0,hk1⟩:=List.mem_filter.1 hk
  have hkr:=QZ.1 hk0
  obtain⟨s,t,rfl⟩:=List.append_of_mem hm
  have hx:=(pz hc).2.2.2.2 _ (h2 _ hm)
  have hp2:=ayt hc (M:=s++t) fun y hy=>h2 y (by
   rcases List.mem_append.1 hy with h|h
   ·exact List.mem_append_left _ h
   ·exact List.mem_append_right _ (List.mem_cons_of_mem _ h))
  obtain⟨i,hi,hd⟩:=List.any_eq_true.1 hk1
  have hir:=QZ.1 hi
  unfold adL at hd;simp only[Bool.and_eq_true,decide_eq_true_eq,Bool.or_eq_true] at hd
  obtain⟨d1,d2,d3,d4⟩:=hd
  have hxi:oI p i∈p.offers:=nA (by omega)
  have hxk:oI p k∈p.offers:=nA (by omega)
  have hwi:=adO.1 ((pz hc).2.2.2.2 _ hxi).2.2.1
  have hwk:=adO.1 ((pz hc).2.2.2.2 _ hxk).2.2.1
  have hle:=ah9.1 d3
  have hz:aaA (oI p k)<=0:=by
   simp only[List.map_append,List.map_cons,List.sum_append,List.sum_cons] at h4 hp2;omega
  have heq:(oI p i).want=(oI p k).want:=aye fun j hj=>by
   have a0:=hwk 0 (by omega)
   have a1:=hwk 1 (by omega)
   have a2:=hwk 2 (by omega)
   have a3:=hwk 3 (by omega)
   have a4:=hwk 4 (by omega)
   have a5:=hwk 5 (by omega)
   unfold aaA at hz
   have l1:=hle j hj
   have l2:=hwi j hj
   have:(oI p k).want.at j=0:=by
    rcases(show j=0\/j=1\/j=2\/j=3\/j=4\/j=5 by omega) with rfl|rfl|rfl|rfl|rfl|rfl<;>omega
   omega
  have hkey:(oI p i).key=(oI p k).key:=by unfold Off.key;rw[d2,heq]
  have hoff:=key_inj hc hxi hxk hkey
  refine d1 ?_
  have hnd:=ahl hc
  unfold oI at hoff
  rw[jV (by omega),jV (by omega)] at hoff
  have:=(List.getElem_inj hnd).1 hoff
  omega
 |succ n ih=>
  intro M h1 h2 h3 h4
  by_cases hno:∀k∈x4 p,oI p k∉M
  ·exact⟨M,h1,h2,h3,hno⟩
  ·have:∃k,k∈x4 p/\oI p k∈M:=by
    refine Classical.byContradiction fun hn=>hno fun k hk hm=>hn ⟨k,hk,hm⟩
   obtain⟨k,hk,hm⟩:=this
   obtain⟨hk0,hk1⟩:=List.mem_filter.1 hk
   have hkr:=QZ.1 hk0
   obtain⟨i,hi,hd⟩:=List.any_eq_true.1 hk1
   have hir:=QZ.1 hi
   unfold adL at hd;simp only[Bool.and_eq_true,decide_eq_true_eq,Bool.or_eq_true] at hd
   obtain⟨d1,d2,d3,d4⟩:=hd
   have hxi:oI p i∈p.offers:=nA (by omega)
   have hxk:oI p k∈p.offers:=nA (by omega)
   have hle:=ah9.1 d3
   obtain⟨s,t,rfl⟩:=List.append_of_mem hm
   have hst:∀y∈s++t,y∈p.offers:=fun y hy=>h2 y (by
    rcases List.mem_append.1 hy with h|h
    ·exact List.mem_append_left _ h
    ·exact List.mem_append_right _ (List.mem_cons_of_mem _ h))
   have hperm:(s++oI p k::t).Perm ([oI p k]++(s++t)):=List.perm_middle
   have hF:=aj3.1 (aiZ hperm h1)
   have hV:jd (s++oI p k::t)=(oI p k).value+jd (s++t):=by rw[alv hperm];rfl
   have hU:((s++oI p k::t).map aaA).sum=aaA (oI p k)+((s++t).map aaA).sum:=by
    simp only[List.map_append,List.map_cons,List.sum_append,List.sum_cons];omega
   have hcl:MZ p (oI p i)=MZ p (oI p k):=by unfold MZ;rw[d2]
   have hN:Da p ([oI p i]++(s++t)):=aj3.2 ⟨by
    have:=hF.1
    simp only[List.map_cons,List.map_nil] at this ⊢
    rw[d2];exact this,fun j hj=>by
    have:=hF.2.1 j hj
    have l1:=hle j hj
    simp only[List.map_cons,List.map_nil,sB1] at this ⊢
    omega,fun j hj=>by
    have:=hF.2.2 j hj
    have l1:=hle j hj
    have w1:=adO.1 ((pz hc).2.2.2.2 _ hxk).2.2.1 j hj
    simp only[List.map_cons,List.map_nil,sB1] at this ⊢;rw[aj2 j hj] at this ⊢;rw[hcl];split at this
    ·rename_i hh;rw[if_pos hh];exact this
    ·rename_i hh;rw[if_neg hh];omega⟩
   have hNm:∀x∈[oI p i]++(s++t),x∈p.offers:=fun x hx=>by
    rcases List.mem_append.1 hx with h|h
    ·rw[List.mem_singleton] at h;subst h;exact hxi
    ·exact hst x h
   have hNv:jd ([oI p i]++(s++t))=(oI p i).value+jd (s++t):=rfl
   have hup:=alB hc hN hNm
   rw[aeV hc] at hup
   have hve:(oI p i).value=(oI p k).value:=by omega
   refine ih _ hN hNm (by omega) ?_
   have hUN:(([oI p i]++(s++t)).map aaA).sum=aaA (oI p i)+((s++t).map aaA).sum:=by
    simp only[List.map_append,List.map_cons,List.map_nil,List.sum_append,List.sum_cons,List.sum_nil];omega
   have hlt:aaA (oI p i)<aaA (oI p k):=by
    refine Classical.byContradiction fun hge=>d1 ?_
    have heq:(oI p i).want=(oI p k).want:=aye fun j hj=>by
     have a0:=hle 0 (by omega)
     have a1:=hle 1 (by omega)
     have a2:=hle 2 (by omega)
     have a3:=hle 3 (by omega)
     have a4:=hle 4 (by omega)
     have a5:=hle 5 (by omega)
     unfold aaA at hge
     rcases(show j=0\/j=1\/j=2\/j=3\/j=4\/j=5 by omega) with rfl|rfl|rfl|rfl|rfl|rfl<;>omega
    have hkey:(oI p i).key=(oI p k).key:=by unfold Off.key;rw[d2,heq]
    have hoff:=key_inj hc hxi hxk hkey
    have hnd:=ahl hc
    unfold oI at hoff
    rw[jV (by omega),jV (by omega)] at hoff
    have:=(List.getElem_inj hnd).1 hoff
    omega
   omega
theorem aHs (hc:dV p=0) {m:Int} {t:List Int} (ht:lF p t=0) (hv:m<=nD p t):∀i∈t,i∉ek (GU p m) (-1):=fun i hi hm=>by
 obtain⟨_,ha⟩:=adG ht
 have hr:=ha.2 i hi
 obtain⟨h1,h2⟩:=SR.1 hm
 have e:bo (GU p m) i.toNat 0=Zd p (m:Rat) i:=by
  unfold GU
  rw[if_pos hc,jV (by rw[List.length_map,FC];omega),List.getElem_map]
  congr 1
  simp[pA]
  omega
 rw[e] at h2;unfold Zd at h2;split at h2
 ·rename_i h3
  have:=aGy hc hr (.inl rfl) h3 ht hv
  rw[if_pos rfl] at this
  exact this hi
 ·split at h2<;>omega
theorem aHt (hc:dV p=0) {m:Int} (hm:m<=(jD p).value):(jD (Ks p m)).value=(jD p).value/\dV (Ks p m)=0:=by
 have hq:dV (pF p)=0:=ajQ hc
 have e:Ks p m=AW (pF p) (DV p m):=by unfold Ks;rw[if_pos hc]
 rw[e]
 refine⟨?_,ajQ hq⟩
 have h1:(jD (AW (pF p) (DV p m))).value<=(jD (pF p)).value:=ayr hq
 have h2:(jD (pF p)).value<=(jD p).value:=ayr hc
 obtain⟨M,m1,m2,m3⟩:=ao1 hc
 rw[aeV hc] at m3
 obtain⟨N,n1,n2,n3,n4⟩:=aHr hc _ M m1 m2 m3 (show(M.map aaA).sum<=(((M.map aaA).sum.toNat:Nat):Int) by omega)
 obtain⟨t,t1,t2⟩:=aC3 hc n1 n2
 have h3:(jD p).value<=(jD (pF p)).value:=by
  have:=ays hc (l:=x4 p) t1 fun i hi hd=>n4 i hd (t2.mem_iff.1 (List.mem_map.2 ⟨i,hi,rfl⟩))
  rw[alv t2,n3] at this;exact this
 obtain⟨u,u1,u2⟩:=ari hq
 have hu:=(abM hq).1 u1
 have h4:=ays hq (l:=DV p m) hu (aHs hq u1 (by omega))
 have h5:=afV hq hu
 omega
end
theorem aHu {p:cn} {m:Int} (hc:dV p=0):(Ks p m).offers=(zy p m).map (oI p):=by
 rw[<-left_eq hc]
 have ha:=aqY (m:=m) hc
 have e:rb p (agq (zy p m) p.offers.length)=zy p m:=by
  refine ajS amG ha.1 fun x=>?_
  rw[afc];unfold agq;rw[List.mem_filter,QZ,decide_eq_true_eq]
  constructor
  ·rintro⟨h1,h2⟩
   exact Classical.byContradiction fun h3=>h2 ⟨h1,h3⟩
  ·intro h
   exact⟨ha.2 x h,fun h2=>h2.2 h⟩
 show(rb p (agq (zy p m) p.offers.length)).map (oI p)=_
 rw[e]
noncomputable def arM:fN:=⟨9,cn×Int,.cons ql (.one (sj .i64)),fun a=> -9223372036854775808<=a.2/\a.2<=9223372036854775807,fun _=> .sb true⟩
noncomputable def aHv (p:cn) (m:Int):Nat->jW
 |8=> .inv Int (fun k=>⟨[(2,.ptr 0 0 20),(5,.si .i64 (jD p).value),(6,.ptr 1 0 20),(7,.row (.i .i64) (zy p ((jD p).value - m))),(9,.si .i64 k)],[.cells p.ss 27 20 false,.cells (Ks p ((jD p).value - m)).ss 27 20 false]⟩)
   (fun s=>iS s 9) (fun k=>0<=k/\k<=(zy p ((jD p).value - m)).length) (fun k=>((zy p ((jD p).value - m)).length - k).toNat) fun _ _=> .look
 |_=> .look
theorem h419:Holds Tryz.prog arM:=by
 refine lj (L:=[aqT,aqX,arL,amH,arG]) arM (fun a=>aHv a.1 a.2) (by simpa using⟨h376,h382,h426,h384,h427⟩) ?_
 rintro⟨p,below⟩ ⟨m0,m1⟩
 simp only at m0 m1
 refine gw (let a:=SV.si .i64;let b:=(0:Int);let c:=SV.bl false;let d:=SV.sb;let e:=SV.row;let f:=iR .i64;let K:=decide (below<b);let L:=decide ((1000000:Int)<below);let G:=(jD p).value;let A:=G - below;let M:=decide (dV p≠b);let j:=zy p A;let o:=j.length;let k:=(↑o:Int);let g:=Ks p A;let q:=g.offers;let C:=(↑q.length:Int);let r:=SV.ptr 0 0 20;let s:=a G;let t:=SV.ptr 1 0 20;let m:=bD.i .i64;let u:=cC.cells [a p.supply.a0,a p.supply.a1,a p.supply.a2,a p.supply.a3,a p.supply.a4,a p.supply.a5,a p.opn.a0,a p.opn.a1,a p.opn.a2,a p.opn.a3,a p.opn.a4,a p.opn.a5,a p.cls.a0,a p.cls.a1,a p.cls.a2,a p.cls.a3,a p.cls.a4,a p.cls.a5,e m p.classes,e bD.off p.offers] 27 20 false;let v:=g.supply;let w:=cC.cells [a v.a0,a v.a1,a v.a2,a v.a3,a v.a4,a v.a5,a g.opn.a0,a g.opn.a1,a g.opn.a2,a g.opn.a3,a g.opn.a4,a g.opn.a5,a g.cls.a0,a g.cls.a1,a g.cls.a2,a g.cls.a3,a g.cls.a4,a g.cls.a5,e m g.classes,e bD.off q] 27 20 false;let n:=(↑j.length:Int);let H:=p.offers.length;let D:=(↑H:Int);let N:=bD.off.dflt;let O:=decide (dV g=b);let P:=decide ((if dV g=b then(jD g).value else b)=G);True/\((!ahZ p (9:Int))=true->True/\(d true).same (d true))/\((!ahZ p (9:Int))=false->(K=true->True/\(d true).same (d true))/\(K=false->(L=true->True/\(d true).same (d true))/\(L=false->dV p=b/\f A/\((-9223372036854775808:Int)<=A/\A<=(9223372036854775807:Int))/\(M=true->(c).same (d true))/\(M=false->(decide (k≠C)=true->(c).same (d true))/\(decide (k≠C)=false->(((r.same r/\s.same s/\t.same t/\(e m j).same (e m j)/\(SV.il .i64 0).same (a 0)/\True)/\u.same u/\w.same w/\True)/\b<=b/\b<=n)/\∀(x:Int),let h:=bo j x.toNat b;let Q:=decide (h<b);let R:=decide (b<x);let B:=x - (1:Int);let S:=decide (h<=bo j B.toNat b);let I:=bo q x.toNat N;let J:=bo p.offers h.toNat N;let y:=I.want;let z:=J.want;let E:=!(decide (I.iy=J.iy)&&(decide (y.a0=z.a0)&&(decide (y.a1=z.a1)&&(decide (y.a2=z.a2)&&(decide (y.a3=z.a3)&&(decide (y.a4=z.a4)&&(decide (y.a5=z.a5)&&(decide (I.value=J.value)&&true))))))));let l:=x+(1:Int);let F:=a l;b<=x/\x<=n->(decide (x<k)=true->b<=x/\x<k/\x.toNat<o/\(Q=true->(c).same (d true))/\(Q=false->b<=x/\x<k/\x.toNat<o/\(decide (D<=h)=true->(c).same (d true))/\(decide (D<=h)=false->(R=true->b<=x/\x<k/\x.toNat<o/\f B/\b<=B/\B<k/\B.toNat<o/\(S=true->(c).same (d true))/\(S=false->b<=x/\x<C/\x.toNat<q.length/\b<=x/\x<k/\x.toNat<o/\b<=h/\h<D/\h.toNat<H/\(E=true->(c).same (d true))/\(E=false->f l/\((r.same r/\s.same s/\t.same t/\(e m j).same (e m j)/\F.same F/\True)/\u.same u/\w.same w/\True)/\(b<=l/\l<=n)/\(n - l).toNat<(n - x).toNat)))/\(R=false->b<=x/\x<C/\x.toNat<q.length/\b<=x/\x<k/\x.toNat<o/\b<=h/\h<D/\h.toNat<H/\(E=true->(c).same (d true))/\(E=false->f l/\((r.same r/\s.same s/\t.same t/\(e m j).same (e m j)/\F.same F/\True)/\u.same u/\w.same w/\True)/\(b<=l/\l<=n)/\(n - l).toNat<(n - x).toNat)))))/\(decide (x<k)=false->(dV g≠b\/q.length<=15)/\(O=true->(P=true->True/\(d true).same (d true))/\(P=false->(c).same (d true)))/\(O=false->(c).same (d true))))))))) (by kernel_rfl) ?_
 simp only[vcs]
 refine⟨fun _=>trivial,fun hs=>⟨fun _=>trivial,fun b0=>⟨fun _=>trivial,fun b1=>?_⟩⟩⟩
 unfold ahZ at hs;simp only[Bool.and_eq_true,decide_eq_true_eq] at hs
 obtain⟨_,h9,hc⟩:=hs
 obtain⟨f1,f2⟩:=aj9 hc
 have hV:=afd hc ((abM hc).2 f1)
 rw[afV hc f1,<-f2] at hV
 generalize hm:(jD p).value - below=m at*
 obtain⟨k1,k2⟩:=aHt hc (m:=m) (by omega)
 have hS:=aqY (m:=m) hc
 have hO:=aHu (m:=m) hc
 have hlen:(Ks p m).offers.length=(zy p m).length:=by rw[hO,List.length_map]
 have hle:(zy p m).length<=p.offers.length:=agd hS
 have hlt:∀x:Int,0<=x->x<(zy p m).length->0<=bo (zy p m) x.toNat 0/\bo (zy p m) x.toNat 0<p.offers.length:=fun x x0 x1=>hS.2 _ (nA (by omega))
 have hQO:∀x:Int,0<=x->x<(zy p m).length->bo (Ks p m).offers x.toNat bD.off.dflt=bo p.offers (bo (zy p m) x.toNat 0).toNat bD.off.dflt:=fun x x0 x1=>by
  rw[hO,ahS (e:=0) (by omega)]
  rfl
 have hasc:∀x:Int,0<x->x<(zy p m).length->bo (zy p m) (x - 1).toNat 0<bo (zy p m) x.toNat 0:=fun x x0 x1=>by
  rw[jV (by omega),jV (by omega)]
  exact List.pairwise_iff_getElem.1 hS.1 _ _ (by omega) (by omega) (by omega)
 refine⟨hc,by omega,by omega,fun h=>absurd hc h,fun _=>⟨fun h=>absurd (by rw[hlen]) h,fun _=>⟨⟨by omega,by omega⟩,?_⟩⟩⟩
 rintro x ⟨x0,x1⟩
 refine⟨fun hx=>?_,fun hx=>?_⟩
 ·have a:=hlt x x0 hx
  rw[hQO x x0 hx]
  refine⟨x0,hx,by omega,fun h=>absurd h (by omega),fun _=>⟨x0,hx,by omega,fun h=>absurd h (by omega),fun _=>⟨fun h0=>?_,fun h0=>?_⟩⟩⟩
  ·have b:=hasc x h0 hx
   exact⟨x0,hx,by omega,by omega,by omega,by omega,by omega,fun h=>absurd h (by omega),fun _=>⟨x0,by omega,by omega,x0,hx,by omega,a.1,a.2,by omega,fun h=>(by simp at h),fun _=>⟨by omega,⟨by omega,by omega⟩,by omega⟩⟩⟩
  ·exact⟨x0,by omega,by omega,x0,hx,by omega,a.1,a.2,by omega,fun h=>(by simp at h),fun _=>⟨by omega,⟨by omega,by omega⟩,by omega⟩⟩
 ·refine⟨.inr (by omega),fun _=>⟨fun _=>trivial,fun h=>absurd ?_ h⟩,fun h=>absurd k2 h⟩
  rw[if_pos k2,k1]
end Go.Vi
