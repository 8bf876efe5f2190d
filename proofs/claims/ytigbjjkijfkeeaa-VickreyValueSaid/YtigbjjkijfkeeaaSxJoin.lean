/-
  From the reading of the arguments to the symbolic run's values.
  Conditions: none.
-/
import Derived.Test.YtigbjjkijfkeeaaSxF
import Derived.Test.YtigbjjkijfkeeaaSxProg
import Derived.Deep.Slices
import Derived.OpenShut
import Derived.ProofKit
namespace Go.Vi
open Go.ChangeShapes Go.WideShapes Go.RowKit

abbrev noA : Nat → Prop := fun _ => False

instance (s : SId) : Inhabited s.T := ⟨s.dflt⟩

theorem fr_nil (b : Nat) : Fr noA [] b := ⟨by rintro ⟨i, c, h⟩; simp at h, fun h => h⟩

theorem repL_scs {A : Nat → Prop} {w : World} {σ : Sig} {o : Store} : ∀ {vs : List Value}, (∀ v ∈ vs, v.oneCell' = true) → RepL A w σ o (vs.map .sc) vs
  | [], _ => by simp [RepL]
  | v :: vs, h => by
    simp only [List.map_cons, RepL]
    exact ⟨v, vs, rfl, by simp [Rep, h v (by simp)], repL_scs fun u hu => h u (by simp [hu])⟩

theorem repM_app {A : Nat → Prop} {w : World} {σ : Sig} {o : Store} : ∀ {a b : List AV} {x : Option Addr} {j : Nat}, RepM A w σ o a x j → RepM A w σ o b x (j + a.length) → RepM A w σ o (a ++ b) x j
  | [], b, x, j, _, h => by simpa using h
  | c :: a, b, x, j, h, k => by
    simp only [List.cons_append, RepM] at h ⊢
    refine ⟨h.1, repM_app h.2 ?_⟩
    rw [show j + 1 + a.length = j + (c :: a).length from by simp; omega]
    exact k

/-- What a type's cells read as. -/
def Reads (P : Program) (t : TypeId) (s : SId) : Prop :=
  ∀ (H : Type) (enc : TypeId × Value → H) (w : World) (base : Nat) (spare : Nat → Bool) (held : Bool) (fuel : Nat) (cs : List Value) (x : DataW H × List MemPlace), DataW.trod enc P w base spare held fuel t cs = some x → ∃ y : s.T, cs = encV s y

theorem reads_int {P : Program} {t : TypeId} {k : IntKind} (ht : P.underlying t = some (.int k)) : Reads P t (.i k) := fun _ _ _ _ _ _ _ cs _ h => by
  obtain ⟨n, rfl, _, _⟩ := DataW.trod_int ht h
  exact ⟨n, rfl⟩

theorem repM_sc {w : World} {a : Addr} : ∀ {vs : List Value} {j : Nat}, (∀ v ∈ vs, v.oneCell' = true) → (∀ i v, vs[i]? = some v → w.cell? (a.add (j + i)) = some v) → RepM noA w [] [] (vs.map .sc) (some a) j
  | [], _, _, _ => by simp [RepM]
  | v :: vs, j, h1, h2 => by
    simp only [List.map_cons, RepM]
    refine ⟨⟨a, v, rfl, fr_nil _, by simpa using h2 0 v (by simp), by simp [Rep, h1 v (by simp)]⟩, repM_sc (fun u hu => h1 u (by simp [hu])) fun i u hu => ?_⟩
    have := h2 (i + 1) u (by simpa using hu)
    rwa [show j + 1 + i = j + (i + 1) from by omega]

theorem cells_get {w : World} {base n : Nat} {a : Addr} {cs : List Value} (h : w.cells? base a n = some cs) : cs.length = n ∧ ∀ i v, cs[i]? = some v → w.cell? (a.add i) = some v := by
  unfold World.cells? at h
  split at h
  · obtain ⟨h1, h2⟩ := mapM_get h
    simp only [List.length_range] at h1
    refine ⟨h1, fun i v hv => ?_⟩
    have hi := (List.getElem?_eq_some_iff.1 hv).1
    obtain ⟨b, hb1, hb2⟩ := h2 i i (by rw [List.getElem?_range (by omega)])
    rw [hv] at hb1
    simp only [Option.some.injEq] at hb1
    subst hb1
    exact hb2
  · cases h

theorem repM_flat {w : World} {a : Addr} {s : SId} : ∀ {l : List s.T} {i0 : Nat}, (∀ i y, l[i]? = some y → w.cells? 0 (a.add ((i0 + i) * s.sz)) s.sz = some (encV s y)) → RepM noA w [] [] (flatA s l) (some a) (i0 * s.sz)
  | [], _, _ => by simp [flatA, RepM]
  | y :: l, i0, h => by
    have h0 := h 0 y (by simp)
    rw [Nat.add_zero] at h0
    obtain ⟨h1, h2⟩ := cells_get h0
    have e : flatA s (y :: l) = encA s y ++ flatA s l := by simp [flatA]
    rw [e]
    refine repM_app (repM_sc (encV_one s y) fun i v hv => ?_) ?_
    · have := h2 i v hv
      rwa [add_add] at this
    · rw [encA_len, show i0 * s.sz + s.sz = (i0 + 1) * s.sz from by rw [Nat.succ_mul]]
      refine repM_flat fun i z hz => ?_
      have := h (i + 1) z (by simpa using hz)
      rwa [show i0 + 1 + i = i0 + (i + 1) from by omega]

theorem reads_slice {P : Program} {t e : TypeId} {s : SId} (ht : P.underlying t = some (.slice e)) (he : Reads P e s) (hc : P.cellsOf e = s.sz)
    {H : Type} {enc : TypeId × Value → H} {w : World} {spare : Nat → Bool} {held : Bool} {fuel : Nat} {cs : List Value} {x : DataW H × List MemPlace} (h : DataW.trod enc P w 0 spare held fuel t cs = some x) :
    ∃ (v : Value) (l : List s.T), cs = [v] ∧ Rep noA w [] [] (SV.row s l).g v := by
  rcases Go.Deep.open_slice ht h with ⟨rfl, _⟩ | ⟨a, len, cap, m, n, D, Pl, rfl, hb, hl, hm, hmm, _, hx⟩
  · exact ⟨_, [], rfl, by simp only [SV.g, Rep]; exact ⟨none, 0, rfl, Nat.le_refl _, by simp [flatA, pureL], by simp [flatA, RepM]⟩⟩
  · have hlm : len ≤ m := by rw [hmm]; split <;> omega
    have h1 : ∀ i, i < len → ∃ y : s.T, w.cells? 0 (a.add (i * s.sz)) s.sz = some (encV s y) := fun i hi => by
      obtain ⟨cs', k1, k2⟩ := hx i (by omega)
      obtain ⟨y, rfl⟩ := he _ _ _ _ _ _ _ _ _ k2
      rw [hc] at k1
      exact ⟨y, k1⟩
    obtain ⟨f, hf⟩ := Go.Deep.choose_lt h1
    refine ⟨_, (List.range len).map f, rfl, ?_⟩
    simp only [SV.g, Rep, List.length_map, List.length_range]
    refine ⟨some a, cap, rfl, hl, flatA_pure _ _, ?_⟩
    have := repM_flat (w := w) (a := a) (s := s) (l := (List.range len).map f) (i0 := 0) (fun i y hy => by
      rw [List.getElem?_map] at hy
      obtain ⟨j, hj, rfl⟩ := Option.map_eq_some_iff.1 hy
      have hi : i < len := by
        have := (List.getElem?_eq_some_iff.1 hj).1
        simpa using this
      rw [List.getElem?_range hi] at hj
      simp only [Option.some.injEq] at hj
      subst hj
      rw [Nat.zero_add]
      exact hf i hi)
    simpa using this

/-- One cell of a list. -/
theorem one_of {cs : List Value} {i : Nat} {v : Value} (h : (cs.drop i).take 1 = [v]) : cs[i]? = some v := by
  have : ((cs.drop i).take 1)[0]? = some v := by rw [h]; rfl
  rw [List.getElem?_take, if_pos (by omega), List.getElem?_drop] at this
  simpa using this

theorem reads_bun {P : Program} {t e : TypeId} (ht : P.underlying t = some (.array 6 e)) (hi : P.underlying e = some (.int .i64)) (hc : P.cellsOf e = 1) (hn : P.cellsOf t = 6) : Reads P t .bun := fun _ _ _ _ _ _ _ cs _ h => by
  obtain ⟨xs, m, _, _, hl, hxs, hf⟩ := DataW.trod_array ht h
  have get : ∀ i, i < 6 → ∃ n, cs[i]? = some (.int .i64 n) := fun i hi6 => by
    have h1 := hf i hi6
    rw [hc, Nat.mul_one, List.getElem?_eq_getElem (by omega)] at h1
    obtain ⟨n, h2, _⟩ := DataW.trod_int hi h1
    exact ⟨n, one_of h2⟩
  rw [hn] at hl
  match cs, hl, get with
  | [c0, c1, c2, c3, c4, c5], _, get =>
    obtain ⟨n0, h0⟩ := get 0 (by omega)
    obtain ⟨n1, h1⟩ := get 1 (by omega)
    obtain ⟨n2, h2⟩ := get 2 (by omega)
    obtain ⟨n3, h3⟩ := get 3 (by omega)
    obtain ⟨n4, h4⟩ := get 4 (by omega)
    obtain ⟨n5, h5⟩ := get 5 (by omega)
    simp only [List.getElem?_cons_zero, List.getElem?_cons_succ, Option.some.injEq] at h0 h1 h2 h3 h4 h5
    exact ⟨⟨n0, n1, n2, n3, n4, n5⟩, by simp [encV, iv, h0, h1, h2, h3, h4, h5]⟩

theorem reads_off {P : Program} {t b i v : TypeId} {fs : Array Field} (ht : P.underlying t = some (.struct fs)) (hn : P.cellsOf t = 8) (h0 : (fs[0]?).map (fun f => (f.type, f.offset)) = some (i, 0)) (h1 : (fs[1]?).map (fun f => (f.type, f.offset)) = some (b, 1)) (h2 : (fs[2]?).map (fun f => (f.type, f.offset)) = some (v, 7))
    (hi : P.underlying i = some (.int .i64)) (hci : P.cellsOf i = 1) (hv : P.underlying v = some (.int .i64)) (hcv : P.cellsOf v = 1) (hb : Reads P b .bun) (hcb : P.cellsOf b = 6) (hsz : fs.size = 3) : Reads P t .off := fun _ _ _ _ _ _ _ cs _ h => by
  obtain ⟨xs, m, _, _, hl, hxs, hf⟩ := DataW.trod_struct ht h
  rw [hn] at hl
  obtain ⟨f0, e0, k0⟩ := Option.map_eq_some_iff.1 h0
  obtain ⟨f1, e1, k1⟩ := Option.map_eq_some_iff.1 h1
  obtain ⟨f2, e2, k2⟩ := Option.map_eq_some_iff.1 h2
  simp only [Prod.mk.injEq] at k0 k1 k2
  have g0 := hf 0 f0 e0
  have g1 := hf 1 f1 e1
  have g2 := hf 2 f2 e2
  rw [k0.1, k0.2, hci, List.getElem?_eq_getElem (by omega)] at g0
  rw [k1.1, k1.2, hcb, List.getElem?_eq_getElem (by omega)] at g1
  rw [k2.1, k2.2, hcv, List.getElem?_eq_getElem (by omega)] at g2
  obtain ⟨n0, q0, _⟩ := DataW.trod_int hi g0
  obtain ⟨y, q1⟩ := hb _ _ _ _ _ _ _ _ _ g1
  obtain ⟨n2, q2, _⟩ := DataW.trod_int hv g2
  match cs, hl with
  | [c0, c1, c2, c3, c4, c5, c6, c7], _ =>
    simp [encV] at q0 q1 q2
    exact ⟨⟨n0, y, n2⟩, by simp [encV, iv, q0, q1, q2]⟩

theorem reads_prob {P : Program} {t b k o : TypeId} {fs : Array Field} (ht : P.underlying t = some (.struct fs)) (hn : P.cellsOf t = 20) (hsz : fs.size = 5)
    (h0 : (fs[0]?).map (fun f => (f.type, f.offset)) = some (b, 0)) (h1 : (fs[1]?).map (fun f => (f.type, f.offset)) = some (b, 6)) (h2 : (fs[2]?).map (fun f => (f.type, f.offset)) = some (b, 12))
    (h3 : (fs[3]?).map (fun f => (f.type, f.offset)) = some (k, 18)) (h4 : (fs[4]?).map (fun f => (f.type, f.offset)) = some (o, 19))
    (hb : Reads P b .bun) (hcb : P.cellsOf b = 6) {e : TypeId} (hk : P.underlying k = some (.slice e)) (hke : Reads P e (.i .i64)) (hce : P.cellsOf e = 1) (hck : P.cellsOf k = 1)
    {f : TypeId} (ho : P.underlying o = some (.slice f)) (hoe : Reads P f .off) (hcf : P.cellsOf f = 8) (hco : P.cellsOf o = 1)
    {H : Type} {enc : TypeId × Value → H} {w : World} {spare : Nat → Bool} {held : Bool} {fuel : Nat} {cs : List Value} {x : DataW H × List MemPlace} (h : DataW.trod enc P w 0 spare held fuel t cs = some x) :
    ∃ p : Prob, RepL noA w [] [] (gL p.ss) cs := by
  obtain ⟨xs, m, _, _, hl, hxs, hf⟩ := DataW.trod_struct ht h
  rw [hn] at hl
  obtain ⟨f0, e0, k0⟩ := Option.map_eq_some_iff.1 h0
  obtain ⟨f1, e1, k1⟩ := Option.map_eq_some_iff.1 h1
  obtain ⟨f2, e2, k2⟩ := Option.map_eq_some_iff.1 h2
  obtain ⟨f3, e3, k3⟩ := Option.map_eq_some_iff.1 h3
  obtain ⟨f4, e4, k4⟩ := Option.map_eq_some_iff.1 h4
  simp only [Prod.mk.injEq] at k0 k1 k2 k3 k4
  have g0 := hf 0 f0 e0
  have g1 := hf 1 f1 e1
  have g2 := hf 2 f2 e2
  have g3 := hf 3 f3 e3
  have g4 := hf 4 f4 e4
  rw [k0.1, k0.2, hcb, List.getElem?_eq_getElem (by omega)] at g0
  rw [k1.1, k1.2, hcb, List.getElem?_eq_getElem (by omega)] at g1
  rw [k2.1, k2.2, hcb, List.getElem?_eq_getElem (by omega)] at g2
  rw [k3.1, k3.2, hck, List.getElem?_eq_getElem (by omega)] at g3
  rw [k4.1, k4.2, hco, List.getElem?_eq_getElem (by omega)] at g4
  obtain ⟨y0, q0⟩ := hb _ _ _ _ _ _ _ _ _ g0
  obtain ⟨y1, q1⟩ := hb _ _ _ _ _ _ _ _ _ g1
  obtain ⟨y2, q2⟩ := hb _ _ _ _ _ _ _ _ _ g2
  obtain ⟨v3, l3, q3, r3⟩ := reads_slice hk hke hce g3
  obtain ⟨v4, l4, q4, r4⟩ := reads_slice ho hoe hcf g4
  match cs, hl with
  | [c0, c1, c2, c3, c4, c5, c6, c7, c8, c9, c10, c11, c12, c13, c14, c15, c16, c17, c18, c19], _ =>
    simp [encV, iv] at q0 q1 q2 q3 q4
    obtain ⟨rfl, rfl, rfl, rfl, rfl, rfl⟩ := q0
    obtain ⟨rfl, rfl, rfl, rfl, rfl, rfl⟩ := q1
    obtain ⟨rfl, rfl, rfl, rfl, rfl, rfl⟩ := q2
    subst q3
    subst q4
    refine ⟨⟨y0, y1, y2, l3, l4⟩, ?_⟩
    have hi : ∀ n : Int, Rep noA w [] [] (SV.si .i64 n).g (.int .i64 n) := fun n => by simp [SV.g, Rep, Value.oneCell']
    simp only [Prob.ss, gL, RepL]
    exact ⟨_, _, rfl, hi _, _, _, rfl, hi _, _, _, rfl, hi _, _, _, rfl, hi _, _, _, rfl, hi _, _, _, rfl, hi _, _, _, rfl, hi _, _, _, rfl, hi _, _, _, rfl, hi _, _, _, rfl, hi _, _, _, rfl, hi _, _, _, rfl, hi _,
      _, _, rfl, hi _, _, _, rfl, hi _, _, _, rfl, hi _, _, _, rfl, hi _, _, _, rfl, hi _, _, _, rfl, hi _, _, _, rfl, r3, _, _, rfl, r4, rfl⟩

theorem reads_alloc {P : Program} {t k v : TypeId} {fs : Array Field} (ht : P.underlying t = some (.struct fs)) (hn : P.cellsOf t = 2) (hsz : fs.size = 2)
    (h0 : (fs[0]?).map (fun f => (f.type, f.offset)) = some (k, 0)) (h1 : (fs[1]?).map (fun f => (f.type, f.offset)) = some (v, 1))
    {e : TypeId} (hk : P.underlying k = some (.slice e)) (hke : Reads P e (.i .i64)) (hce : P.cellsOf e = 1) (hck : P.cellsOf k = 1) (hv : P.underlying v = some (.int .i64)) (hcv : P.cellsOf v = 1)
    {H : Type} {enc : TypeId × Value → H} {w : World} {spare : Nat → Bool} {held : Bool} {fuel : Nat} {cs : List Value} {x : DataW H × List MemPlace} (h : DataW.trod enc P w 0 spare held fuel t cs = some x) :
    ∃ a : Alloc, RepL noA w [] [] (gL [.row (.i .i64) a.chosen, .si .i64 a.value]) cs := by
  obtain ⟨xs, m, _, _, hl, hxs, hf⟩ := DataW.trod_struct ht h
  rw [hn] at hl
  obtain ⟨f0, e0, k0⟩ := Option.map_eq_some_iff.1 h0
  obtain ⟨f1, e1, k1⟩ := Option.map_eq_some_iff.1 h1
  simp only [Prod.mk.injEq] at k0 k1
  have g0 := hf 0 f0 e0
  have g1 := hf 1 f1 e1
  rw [k0.1, k0.2, hck, List.getElem?_eq_getElem (by omega)] at g0
  rw [k1.1, k1.2, hcv, List.getElem?_eq_getElem (by omega)] at g1
  obtain ⟨v0, l0, q0, r0⟩ := reads_slice hk hke hce g0
  obtain ⟨n1, q1, _⟩ := DataW.trod_int hv g1
  match cs, hl with
  | [c0, c1], _ =>
    simp at q0 q1
    subst q0
    subst q1
    refine ⟨⟨l0, n1⟩, ?_⟩
    simp only [gL, RepL]
    exact ⟨_, _, rfl, r0, _, _, rfl, by simp [SV.g, Rep, Value.oneCell'], rfl⟩

theorem agg_cells {P : Program} {w : World} {r : Reach} {base : Nat} {t : TypeId} {v : Value} {fs : Array Field} (ht : P.underlying t = some (.struct fs)) (h : Value.okWide P w r base t v) : ∃ cs, v = .agg cs ∧ v.cells.toList = cs.toList := by
  unfold Value.okWide at h
  rw [ht] at h
  obtain ⟨cs, rfl, _⟩ := h
  exact ⟨cs, rfl, rfl⟩

/-- Arguments read as they did. -/
theorem stays_all {H : Type} {enc : TypeId × Value → H} {P : Program} (hl : laidOutB P = true) {W W' : World} (hb : Below W.heap.size W W') {sp : Nat → Bool} :
    ∀ {ts : List TypeId} {vs : List Value} {ds : List (DataW H)} {ps : List MemPlace}, DataW.TrodAll enc P W 0 (fun _ => true) true ts vs ds ps → (∀ t ∈ ts, P.readableRec t = true ∧ t < P.types.size) → (∀ p ∈ ps, p.block < W.heap.size) → (∀ p ∈ ps, sp p.block = true) →
      DataW.TrodAll enc P W' 0 sp true ts vs ds ps
  | [], _, _, _, h, _, _, _ => by
    obtain ⟨rfl, rfl, rfl⟩ := trodAll_nil h
    exact rfl
  | t :: ts, _, _, _, h, ht, hlt, hs => by
    obtain ⟨v, vs, d, ds, a, b, rfl, rfl, rfl, h1, h2⟩ := trodAll_cons h
    obtain ⟨r1, r2⟩ := ht t (by simp)
    exact ⟨a, b, WideElems.Trod_stays hl r1 r2 h1 (fun p hp => hb.same (hlt p (by simp [hp]))) (fun p hp => hs p (by simp [hp])),
      stays_all hl hb h2 (fun u hu => ht u (by simp [hu])) (fun p hp => hlt p (by simp [hp])) (fun p hp => hs p (by simp [hp])), rfl⟩

theorem below_of_ext {W W' : World} {σ' : Sig} {o' : Store} (h : Ext W [] [] W' σ' o') : Below W.heap.size W W' :=
  ⟨h.os, h.tape, h.output, h.size, fun k hk => (h.blk k hk (by rintro ⟨i, c, hh⟩; simp at hh)).1⟩

end Go.Vi
