/-
  The solver's recursion.
  Conditions: none.
-/
import Derived.Test.YtigbjjkijfkeeaaTP06
set_option linter.unusedVariables false
set_option linter.unusedSimpArgs false
set_option maxRecDepth 100000
set_option maxHeartbeats 4000000
set_option linter.unusedSimpArgs false
set_option linter.unusedVariables false
namespace Go.Vi
open Go.Proofs.Ytigbjjkijfkeeaa.Ir
open Go.Proofs

/-! ### sets of bidders as numbers -/

def bitI (m f : Int) : Int := binK.andI .i64 (m / 2 ^ f.toNat) 1
def delI (m f : Int) : Int := binK.andNotI .i64 m (2 ^ f.toNat)
/-- The members of a set, ascending. -/
def memL (m : Int) : List Int := [0, 1, 2, 3, 4, 5, 6, 7].filter fun f => decide (bitI m f ≠ 0)
def cnt (m : Int) : Nat := (memL m).length

def bitsChk : Bool := (List.range 256).all fun m => decide (0 ≤ bitI m 0) && [0, 1, 2, 3, 4, 5, 6, 7].all fun f => (decide (bitI m f = 0) || decide (bitI m f = 1)) && (decide (bitI m f = 0) || (decide (0 ≤ delI m f) && decide (delI m f < 256) && decide (memL (delI m f) = (memL m).filter fun g => decide (g ≠ f))))
theorem bits_chk : bitsChk = true := by kernel_rfl

theorem bit_del {m f : Int} (h0 : 0 ≤ m) (h1 : m < 256) (g0 : 0 ≤ f) (g1 : f < 8) : (bitI m f = 0 ∨ bitI m f = 1) ∧ (bitI m f ≠ 0 → 0 ≤ delI m f ∧ delI m f < 256 ∧ memL (delI m f) = (memL m).filter fun g => decide (g ≠ f)) := by
  have h := bits_chk
  simp only [bitsChk, List.all_eq_true, List.mem_range] at h
  have h2 := h m.toNat (by omega)
  simp only [Bool.and_eq_true, List.all_eq_true] at h2
  have h3 := h2.2 f (by have : f = 0 ∨ f = 1 ∨ f = 2 ∨ f = 3 ∨ f = 4 ∨ f = 5 ∨ f = 6 ∨ f = 7 := by omega
                        rcases this with rfl | rfl | rfl | rfl | rfl | rfl | rfl | rfl <;> simp)
  rw [show ((m.toNat : Nat) : Int) = m from by omega] at h3
  simp only [Bool.and_eq_true, Bool.or_eq_true, decide_eq_true_eq] at h3
  refine ⟨h3.1, fun hb => ?_⟩
  rcases h3.2 with h4 | h4
  · exact absurd h4 hb
  · exact ⟨h4.1.1, h4.1.2, h4.2⟩

def fstB (m : Int) : Int := (memL m).headD 0

def fstChk : Bool := (List.range 256).all fun m => decide (m = 0) || (decide (0 ≤ fstB m) && decide (fstB m < 8) && decide (bitI m (fstB m) ≠ 0) && decide (memL m = fstB m :: memL (delI m (fstB m))) &&
  [0, 1, 2, 3, 4, 5, 6, 7].all fun g => decide (fstB m ≤ g) || decide (bitI m g = 0))
theorem fst_chk : fstChk = true := by kernel_rfl

theorem fst_ok {m : Int} (h0 : 0 ≤ m) (h1 : m < 256) (h : m ≠ 0) : 0 ≤ fstB m ∧ fstB m < 8 ∧ bitI m (fstB m) ≠ 0 ∧ memL m = fstB m :: memL (delI m (fstB m)) ∧ ∀ g, 0 ≤ g → g < fstB m → bitI m g = 0 := by
  have hh := fst_chk
  simp only [fstChk, List.all_eq_true, List.mem_range] at hh
  have h2 := hh m.toNat (by omega)
  rw [show ((m.toNat : Nat) : Int) = m from by omega] at h2
  simp only [Bool.or_eq_true, Bool.and_eq_true, decide_eq_true_eq, List.all_eq_true] at h2
  rcases h2 with h2 | h2
  · omega
  · obtain ⟨⟨⟨⟨a1, a2⟩, a3⟩, a4⟩, a5⟩ := h2
    refine ⟨a1, a2, a3, a4, fun g g0 g1 => ?_⟩
    have := a5 g (by have : g = 0 ∨ g = 1 ∨ g = 2 ∨ g = 3 ∨ g = 4 ∨ g = 5 ∨ g = 6 ∨ g = 7 := by omega
                     rcases this with rfl | rfl | rfl | rfl | rfl | rfl | rfl | rfl <;> simp)
    rcases this with h | h
    · omega
    · exact h

/-! ### the recursion, as the program runs it -/

abbrev Memo := List (Sit × Int)
def lstOf (s : L8) (f : Int) : List Off := nthD [s.l0, s.l1, s.l2, s.l3, s.l4, s.l5, s.l6, s.l7] f.toNat []

def skipAt (a : Sit) : Sit := ⟨delI a.members (fstB a.members), a.left, a.opn⟩

def bestM (p : Prob) : Nat → Memo → Sit → Int × Memo
  | 0, es, _ => (0, es)
  | n + 1, es, a =>
    if a.members = 0 then (0, es) else
    match findT .sit (.i .i64) a es with
    | some v => (v, es)
    | none =>
      let r := (lstOf (L8.of p) (fstB a.members)).foldl (fun r x => if fitsAt p a x = true then (max r.1 (x.value + (bestM p n r.2 (nextAt p a x)).1), (bestM p n r.2 (nextAt p a x)).2) else r) (bestM p n es (skipAt a))
      (r.1, setT .sit (.i .i64) a r.1 r.2)

def stepM (p : Prob) (n : Nat) (a : Sit) (r : Int × Memo) (x : Off) : Int × Memo :=
  if fitsAt p a x = true then (max r.1 (x.value + (bestM p n r.2 (nextAt p a x)).1), (bestM p n r.2 (nextAt p a x)).2) else r

/-- The problem's offers are valid, as far as the solver leans on it. -/
def Good (p : Prob) : Prop := p.classes.length ≤ 8 ∧ p.offers.length ≤ 160 ∧ p.supply.ok = true ∧ p.opn.ok = true ∧ ∀ x ∈ p.offers, 0 ≤ x.bidder ∧ x.bidder < p.classes.length ∧ x.want.ok = true ∧ 1 ≤ x.value ∧ x.value ≤ 1000000

def SitOk (a : Sit) : Prop := 0 ≤ a.members ∧ a.members < 256 ∧ a.b

/-- The greatest value of the members of a list, by what is left. -/
def valL (p : Prob) : List Int → Bun → Bun → Int
  | [], _, _ => 0
  | f :: fs, l, o => (byB p f).foldl (fun v x => if x.want.le l && (outS p x).le o then max v (x.value + valL p fs (l.sub x.want) (o.sub (outS p x))) else v) (valL p fs l o)

def stepV (p : Prob) (fs : List Int) (l o : Bun) (v : Int) (x : Off) : Int := if x.want.le l && (outS p x).le o then max v (x.value + valL p fs (l.sub x.want) (o.sub (outS p x))) else v

def bestS (p : Prob) (a : Sit) : Int := valL p (memL a.members) a.left a.opn

def MemoOk (p : Prob) (es : Memo) : Prop := ∀ e ∈ es, e.2 = bestS p e.1

theorem stepV_bd {p : Prob} {fs : List Int} {l o : Bun} (hg : Good p) (B : Int) (hB : ∀ l o, 0 ≤ valL p fs l o ∧ valL p fs l o ≤ B) : ∀ {xs : List Off} {v : Int}, (∀ x ∈ xs, x ∈ p.offers) → 0 ≤ v ∧ v ≤ B + 1000000 → 0 ≤ xs.foldl (stepV p fs l o) v ∧ xs.foldl (stepV p fs l o) v ≤ B + 1000000
  | [], v, _, hv => hv
  | x :: xs, v, hx, hv => by
    simp only [List.foldl_cons]
    refine stepV_bd hg B hB (fun y hy => hx y (by simp [hy])) ?_
    unfold stepV
    have h1 := hB (l.sub x.want) (o.sub (outS p x))
    have h2 := hg.2.2.2.2 x (hx x (by simp))
    split <;> omega

theorem valL_bd {p : Prob} (hg : Good p) : ∀ (fs : List Int) (l o : Bun), 0 ≤ valL p fs l o ∧ valL p fs l o ≤ 1000000 * fs.length
  | [], _, _ => by simp [valL]
  | f :: fs, l, o => by
    have ih := valL_bd hg fs
    have h := stepV_bd (l := l) (o := o) hg (1000000 * fs.length) ih (xs := byB p f) (v := valL p fs l o) (fun x hx => (List.mem_filter.1 hx).1) (by have := ih l o; omega)
    have e : valL p (f :: fs) l o = (byB p f).foldl (stepV p fs l o) (valL p fs l o) := rfl
    rw [e]
    simp only [List.length_cons]
    omega

theorem mem_len {m : Int} : (memL m).length ≤ 8 := List.length_filter_le _ _

theorem bestS_bd {p : Prob} (hg : Good p) (a : Sit) : 0 ≤ bestS p a ∧ bestS p a ≤ 8000000 := by
  have h := valL_bd hg (memL a.members) a.left a.opn
  have := @mem_len a.members
  unfold bestS
  omega

theorem find_mem {a : Sit} {es : Memo} {v : Int} (h : findT .sit (.i .i64) a es = some v) : ∃ e ∈ es, e.1 = a ∧ e.2 = v := by
  unfold findT at h
  obtain ⟨e, h1, rfl⟩ := Option.map_eq_some_iff.1 h
  have h2 := List.find?_some h1
  exact ⟨e, List.mem_of_find?_eq_some h1, by simpa using h2, rfl⟩

theorem memo_set {p : Prob} {a : Sit} {v : Int} (hv : v = bestS p a) : ∀ {es : Memo}, MemoOk p es → MemoOk p (setT .sit (.i .i64) a v es)
  | [], _ => by intro e he; simp [setT] at he; subst he; exact hv
  | q :: es, h => by
    unfold setT
    split
    · intro e he
      rcases List.mem_cons.1 he with rfl | he
      · exact hv
      · exact h e (by simp [he])
    · intro e he
      rcases List.mem_cons.1 he with rfl | he
      · exact h e (by simp)
      · exact memo_set hv (fun e he => h e (by simp [he])) e he

theorem sub_ok {a b : Bun} (ha : a.ok = true) (hb : b.ok = true) (h : b.le a = true) : (a.sub b).ok = true := by
  have ha := Bun.ok_iff.1 ha
  have hb := Bun.ok_iff.1 hb
  have h := Bun.le_iff.1 h
  refine Bun.ok_iff.2 ?_
  simp only [Bun.sub]
  omega

theorem lst_eq {p : Prob} {f : Int} (h0 : 0 ≤ f) (h1 : f < 8) : lstOf (L8.of p) f = byB p f := by
  have : f = 0 ∨ f = 1 ∨ f = 2 ∨ f = 3 ∨ f = 4 ∨ f = 5 ∨ f = 6 ∨ f = 7 := by omega
  rcases this with rfl | rfl | rfl | rfl | rfl | rfl | rfl | rfl <;> rfl

theorem next_ok {p : Prob} (hg : Good p) {a : Sit} (ha : SitOk a) (h0 : a.members ≠ 0) {x : Off} (hx : x ∈ byB p (fstB a.members)) (hf : fitsAt p a x = true) :
    SitOk (nextAt p a x) ∧ memL a.members = fstB a.members :: memL (nextAt p a x).members ∧ (nextAt p a x).members = delI a.members (fstB a.members) := by
  obtain ⟨hxo, hxb⟩ := List.mem_filter.1 hx
  have hxb : x.bidder = fstB a.members := by simpa using hxb
  have hv := hg.2.2.2.2 x hxo
  obtain ⟨f0, f1, f2, f3, f4⟩ := fst_ok ha.1 ha.2.1 h0
  have hd := (bit_del ha.1 ha.2.1 f0 f1).2 f2
  have hm : (nextAt p a x).members = delI a.members (fstB a.members) := by simp only [nextAt, hxb, delI]
  simp only [fitsAt, Bool.and_eq_true] at hf
  refine ⟨⟨by rw [hm]; exact hd.1, by rw [hm]; exact hd.2.1, sub_ok ha.2.2.1 hv.2.2.1 hf.1, sub_ok ha.2.2.2 (out_ok hv.2.2.1) hf.2⟩, by rw [hm]; exact f3, hm⟩

theorem skip_ok {a : Sit} (ha : SitOk a) (h0 : a.members ≠ 0) : SitOk (skipAt a) ∧ memL a.members = fstB a.members :: memL (skipAt a).members := by
  obtain ⟨f0, f1, f2, f3, f4⟩ := fst_ok ha.1 ha.2.1 h0
  have hd := (bit_del ha.1 ha.2.1 f0 f1).2 f2
  exact ⟨⟨hd.1, hd.2.1, ha.2.2⟩, f3⟩

theorem steps_ok {p : Prob} (hg : Good p) {n : Nat} {a : Sit} (ha : SitOk a) (h0 : a.members ≠ 0)
    (ih : ∀ (es : Memo) (b : Sit), SitOk b → MemoOk p es → cnt b.members < n → (bestM p n es b).1 = bestS p b ∧ MemoOk p (bestM p n es b).2) (hn : cnt a.members < n + 1) :
    ∀ {xs : List Off} {r : Int × Memo}, (∀ x ∈ xs, x ∈ byB p (fstB a.members)) → MemoOk p r.2 →
      (xs.foldl (stepM p n a) r).1 = xs.foldl (stepV p (memL (skipAt a).members) a.left a.opn) r.1 ∧ MemoOk p (xs.foldl (stepM p n a) r).2
  | [], r, _, hr => ⟨rfl, hr⟩
  | x :: xs, r, hx, hr => by
    simp only [List.foldl_cons]
    have hxm := hx x (by simp)
    have h1 : (stepM p n a r x).1 = stepV p (memL (skipAt a).members) a.left a.opn r.1 x ∧ MemoOk p (stepM p n a r x).2 := by
      unfold stepM stepV
      by_cases hf : fitsAt p a x = true
      · have hf2 : (x.want.le a.left && (outS p x).le a.opn) = true := hf
        rw [if_pos hf, if_pos hf2]
        obtain ⟨k1, k2, k3⟩ := next_ok hg ha h0 hxm hf
        have hc : cnt (nextAt p a x).members < n := by
          unfold cnt at hn ⊢
          rw [k2] at hn
          simpa using hn
        obtain ⟨e1, e2⟩ := ih r.2 _ k1 hr hc
        refine ⟨?_, e2⟩
        simp only [e1, bestS, k3]
        rfl
      · have hf2 : ¬ (x.want.le a.left && (outS p x).le a.opn) = true := hf
        rw [if_neg hf, if_neg hf2]
        exact ⟨rfl, hr⟩
    obtain ⟨h2, h3⟩ := steps_ok hg ha h0 ih hn (xs := xs) (fun y hy => hx y (by simp [hy])) h1.2
    exact ⟨by rw [h2, h1.1], h3⟩

theorem best_ok {p : Prob} (hg : Good p) : ∀ (n : Nat) (es : Memo) (a : Sit), SitOk a → MemoOk p es → cnt a.members < n → (bestM p n es a).1 = bestS p a ∧ MemoOk p (bestM p n es a).2
  | 0, _, _, _, _, h => absurd h (by omega)
  | n + 1, es, a, ha, he, hn => by
    unfold bestM
    by_cases h0 : a.members = 0
    · rw [if_pos h0]
      refine ⟨?_, he⟩
      unfold bestS
      rw [h0]
      rfl
    · rw [if_neg h0]
      split
      · rename_i v hv
        obtain ⟨e, h1, h2, h3⟩ := find_mem hv
        refine ⟨?_, he⟩
        rw [← h3, he e h1, h2]
      · rename_i hv
        obtain ⟨s1, s2⟩ := skip_ok ha h0
        obtain ⟨f0, f1, _⟩ := fst_ok ha.1 ha.2.1 h0
        have hc : cnt (skipAt a).members < n := by
          unfold cnt at hn ⊢
          rw [s2] at hn
          simpa using hn
        obtain ⟨e1, e2⟩ := best_ok hg n es _ s1 he hc
        rw [lst_eq f0 f1]
        obtain ⟨k1, k2⟩ := steps_ok hg ha h0 (fun es b hb h1 h2 => best_ok hg n es b hb h1 h2) hn (xs := byB p (fstB a.members)) (r := bestM p n es (skipAt a)) (fun _ h => h) e2
        have hval : ((byB p (fstB a.members)).foldl (stepM p n a) (bestM p n es (skipAt a))).1 = bestS p a := by
          rw [k1, e1]
          unfold bestS
          rw [s2]
          rfl
        exact ⟨hval, memo_set hval k2⟩

end Go.Vi
/-
  Contracts: the solver's recursion.
  Conditions: none.
-/
set_option maxRecDepth 100000
set_option maxHeartbeats 4000000
set_option linter.unusedSimpArgs false
set_option linter.unusedVariables false
namespace Go.Vi
open Go.Proofs.Ytigbjjkijfkeeaa.Ir
open Go.Proofs

def bestC (n : Nat) : OCtr := solCtr 115 Sit (.one (codE .sit)) (fun a => (Good a.1.p ∧ a.1.ls = L8.of a.1.p ∧ SitOk a.2 ∧ MemoOk a.1.p a.1.es) ∧ cnt a.2.members < n)
  (fun a => .si .i64 (bestM a.1.p (cnt a.2.members + 1) a.1.es a.2).1) (fun a => ⟨a.1.p, a.1.ls, (bestM a.1.p (cnt a.2.members + 1) a.1.es a.2).2⟩)

def W9 (n : Nat) : List OCtr := [bestC n, r116]

/-- The first 'j' offers of the first member have been looked at. -/
def runJ (s : Sol) (a : Sit) (j : Int) : Int × Memo := ((lstOf s.ls (fstB a.members)).take j.toNat).foldl (stepM s.p (cnt a.members) a) (bestM s.p (cnt a.members) s.es (skipAt a))

def Λ115 (s : Sol) (a : Sit) : Nat → LoopAnn
  | 7 => .inv Int (fun f => ⟨[(0, .ptr 0 0 29), (3, .ptr 2 0 13), (7, .si .i64 f)], s.o ++ [.cells (encS .sit a) 141 13 false]⟩) (fun t => iS t 7) (fun f => 0 ≤ f ∧ f ≤ fstB a.members) (fun f => (fstB a.members - f).toNat) fun _ _ => .look
  | 13 => .inv Int (fun j => ⟨[(0, .ptr 0 0 29), (3, .ptr 2 0 13), (9, .si .i64 (runJ s a j).1), (51, .row .off (lstOf s.ls (fstB a.members))), (52, .si .i64 (lstOf s.ls (fstB a.members)).length), (53, .si .i64 j)],
      (Sol.o ⟨s.p, s.ls, (runJ s a j).2⟩) ++ [.cells (encS .sit a) 141 13 false, .cells (encS .sit (skipAt a)) 141 13 false]⟩) (fun t => iS t 53)
    (fun j => 0 ≤ j ∧ j ≤ (lstOf s.ls (fstB a.members)).length) (fun j => ((lstOf s.ls (fstB a.members)).length - j).toNat) fun _ _ => .look
  | _ => .look

theorem bestM_zero {p : Prob} {n : Nat} {es : Memo} {a : Sit} (h : a.members = 0) : bestM p (n + 1) es a = (0, es) := by
  unfold bestM
  rw [if_pos h]

theorem bestM_hit {p : Prob} {n : Nat} {es : Memo} {a : Sit} {v : Int} (h : a.members ≠ 0) (hv : findT .sit (.i .i64) a es = some v) : bestM p (n + 1) es a = (v, es) := by
  unfold bestM
  rw [if_neg h, hv]

theorem bestM_run {s : Sol} {a : Sit} (hl : s.ls = L8.of s.p) (h : a.members ≠ 0) (hv : findT .sit (.i .i64) a s.es = none) {j : Int} (hj : j = (lstOf s.ls (fstB a.members)).length) :
    bestM s.p (cnt a.members + 1) s.es a = ((runJ s a j).1, setT .sit (.i .i64) a (runJ s a j).1 (runJ s a j).2) := by
  unfold bestM runJ
  rw [if_neg h, hv, show j.toNat = (lstOf s.ls (fstB a.members)).length from by omega, List.take_length, hl]
  rfl

theorem runJ_succ {s : Sol} {a : Sit} {j : Int} (h0 : 0 ≤ j) (h1 : j < (lstOf s.ls (fstB a.members)).length) : runJ s a (j + 1) = stepM s.p (cnt a.members) a (runJ s a j) (nthD (lstOf s.ls (fstB a.members)) j.toNat SId.off.dflt) := by
  unfold runJ
  rw [take_nth (d := SId.off.dflt) h0 h1, List.foldl_append]
  rfl

theorem map_same_eq {es es' : Memo} {kt : List Nat × Bool} (h : es = es') : (SObj.map SId.sit (SId.i IntKind.i64) true es kt true).same (SObj.map SId.sit (SId.i IntKind.i64) true es' kt true) := by rw [h]; rfl

theorem bestX (n : Nat) (s : Sol) (a : Sit) (hg : Good s.p) (hl : s.ls = L8.of s.p) (ha : SitOk a) (hm : MemoOk s.p s.es) (hn : cnt a.members < n + 1) :
    Vc (fnOwnK (parL L8l (ownT (W9 n)) tyN mtN) (Λ115 s a) F115 ((bestC (n+1)).put (s, a)) ((bestC (n+1)).st (s, a)) fun v t => v.same ((bestC (n+1)).res (s, a)) ∧ sameO t ((bestC (n+1)).out (s, a))) := by
  refine vcOf ((decide (a.members = (0 : Int)) = true → (SV.il .i64 0).same (SV.si .i64 (bestM s.p (cnt a.members + 1) s.es a).fst) ∧ (SObj.cells [SV.si .i64 s.p.supply.a0, SV.si .i64 s.p.supply.a1, SV.si .i64 s.p.supply.a2, SV.si .i64 s.p.supply.a3, SV.si .i64 s.p.supply.a4, SV.si .i64 s.p.supply.a5, SV.si .i64 s.p.opn.a0, SV.si .i64 s.p.opn.a1, SV.si .i64 s.p.opn.a2, SV.si .i64 s.p.opn.a3, SV.si .i64 s.p.opn.a4, SV.si .i64 s.p.opn.a5, SV.si .i64 s.p.cls.a0, SV.si .i64 s.p.cls.a1, SV.si .i64 s.p.cls.a2, SV.si .i64 s.p.cls.a3, SV.si .i64 s.p.cls.a4, SV.si .i64 s.p.cls.a5, SV.row (SId.i .i64) s.p.classes, SV.row SId.off s.p.offers, SV.row SId.off s.ls.l0, SV.row SId.off s.ls.l1, SV.row SId.off s.ls.l2, SV.row SId.off s.ls.l3, SV.row SId.off s.ls.l4, SV.row SId.off s.ls.l5, SV.row SId.off s.ls.l6, SV.row SId.off s.ls.l7, SV.mp 1] 174 29 false).same (SObj.cells [SV.si .i64 s.p.supply.a0, SV.si .i64 s.p.supply.a1, SV.si .i64 s.p.supply.a2, SV.si .i64 s.p.supply.a3, SV.si .i64 s.p.supply.a4, SV.si .i64 s.p.supply.a5, SV.si .i64 s.p.opn.a0, SV.si .i64 s.p.opn.a1, SV.si .i64 s.p.opn.a2, SV.si .i64 s.p.opn.a3, SV.si .i64 s.p.opn.a4, SV.si .i64 s.p.opn.a5, SV.si .i64 s.p.cls.a0, SV.si .i64 s.p.cls.a1, SV.si .i64 s.p.cls.a2, SV.si .i64 s.p.cls.a3, SV.si .i64 s.p.cls.a4, SV.si .i64 s.p.cls.a5, SV.row (SId.i .i64) s.p.classes, SV.row SId.off s.p.offers, SV.row SId.off s.ls.l0, SV.row SId.off s.ls.l1, SV.row SId.off s.ls.l2, SV.row SId.off s.ls.l3, SV.row SId.off s.ls.l4, SV.row SId.off s.ls.l5, SV.row SId.off s.ls.l6, SV.row SId.off s.ls.l7, SV.mp 1] 174 29 false) ∧ (SObj.map SId.sit (SId.i .i64) true s.es ([0, 0, 0, 0, 0, 0, 0, 0, 0, 0, 0, 0, 0], true) true).same (SObj.map SId.sit (SId.i .i64) true (bestM s.p (cnt a.members + 1) s.es a).snd ([0, 0, 0, 0, 0, 0, 0, 0, 0, 0, 0, 0, 0], true) true) ∧ True) ∧ (decide (a.members = (0 : Int)) = false → ((findT SId.sit (SId.i .i64) a s.es).isSome = true → (SV.si .i64 ((findT SId.sit (SId.i .i64) a s.es).getD (0 : Int))).same (SV.si .i64 (bestM s.p (cnt a.members + 1) s.es a).fst) ∧ (SObj.cells [SV.si .i64 s.p.supply.a0, SV.si .i64 s.p.supply.a1, SV.si .i64 s.p.supply.a2, SV.si .i64 s.p.supply.a3, SV.si .i64 s.p.supply.a4, SV.si .i64 s.p.supply.a5, SV.si .i64 s.p.opn.a0, SV.si .i64 s.p.opn.a1, SV.si .i64 s.p.opn.a2, SV.si .i64 s.p.opn.a3, SV.si .i64 s.p.opn.a4, SV.si .i64 s.p.opn.a5, SV.si .i64 s.p.cls.a0, SV.si .i64 s.p.cls.a1, SV.si .i64 s.p.cls.a2, SV.si .i64 s.p.cls.a3, SV.si .i64 s.p.cls.a4, SV.si .i64 s.p.cls.a5, SV.row (SId.i .i64) s.p.classes, SV.row SId.off s.p.offers, SV.row SId.off s.ls.l0, SV.row SId.off s.ls.l1, SV.row SId.off s.ls.l2, SV.row SId.off s.ls.l3, SV.row SId.off s.ls.l4, SV.row SId.off s.ls.l5, SV.row SId.off s.ls.l6, SV.row SId.off s.ls.l7, SV.mp 1] 174 29 false).same (SObj.cells [SV.si .i64 s.p.supply.a0, SV.si .i64 s.p.supply.a1, SV.si .i64 s.p.supply.a2, SV.si .i64 s.p.supply.a3, SV.si .i64 s.p.supply.a4, SV.si .i64 s.p.supply.a5, SV.si .i64 s.p.opn.a0, SV.si .i64 s.p.opn.a1, SV.si .i64 s.p.opn.a2, SV.si .i64 s.p.opn.a3, SV.si .i64 s.p.opn.a4, SV.si .i64 s.p.opn.a5, SV.si .i64 s.p.cls.a0, SV.si .i64 s.p.cls.a1, SV.si .i64 s.p.cls.a2, SV.si .i64 s.p.cls.a3, SV.si .i64 s.p.cls.a4, SV.si .i64 s.p.cls.a5, SV.row (SId.i .i64) s.p.classes, SV.row SId.off s.p.offers, SV.row SId.off s.ls.l0, SV.row SId.off s.ls.l1, SV.row SId.off s.ls.l2, SV.row SId.off s.ls.l3, SV.row SId.off s.ls.l4, SV.row SId.off s.ls.l5, SV.row SId.off s.ls.l6, SV.row SId.off s.ls.l7, SV.mp 1] 174 29 false) ∧ (SObj.map SId.sit (SId.i .i64) true s.es ([0, 0, 0, 0, 0, 0, 0, 0, 0, 0, 0, 0, 0], true) true).same (SObj.map SId.sit (SId.i .i64) true (bestM s.p (cnt a.members + 1) s.es a).snd ([0, 0, 0, 0, 0, 0, 0, 0, 0, 0, 0, 0, 0], true) true) ∧ True) ∧ ((findT SId.sit (SId.i .i64) a s.es).isSome = false → ((((SV.ptr 0 0 29).same (SV.ptr 0 0 29) ∧ (SV.ptr 2 0 13).same (SV.ptr 2 0 13) ∧ (SV.il .i64 0).same (SV.si .i64 0) ∧ True) ∧ (SObj.cells [SV.si .i64 s.p.supply.a0, SV.si .i64 s.p.supply.a1, SV.si .i64 s.p.supply.a2, SV.si .i64 s.p.supply.a3, SV.si .i64 s.p.supply.a4, SV.si .i64 s.p.supply.a5, SV.si .i64 s.p.opn.a0, SV.si .i64 s.p.opn.a1, SV.si .i64 s.p.opn.a2, SV.si .i64 s.p.opn.a3, SV.si .i64 s.p.opn.a4, SV.si .i64 s.p.opn.a5, SV.si .i64 s.p.cls.a0, SV.si .i64 s.p.cls.a1, SV.si .i64 s.p.cls.a2, SV.si .i64 s.p.cls.a3, SV.si .i64 s.p.cls.a4, SV.si .i64 s.p.cls.a5, SV.row (SId.i .i64) s.p.classes, SV.row SId.off s.p.offers, SV.row SId.off s.ls.l0, SV.row SId.off s.ls.l1, SV.row SId.off s.ls.l2, SV.row SId.off s.ls.l3, SV.row SId.off s.ls.l4, SV.row SId.off s.ls.l5, SV.row SId.off s.ls.l6, SV.row SId.off s.ls.l7, SV.mp 1] 174 29 false).same (SObj.cells [SV.si .i64 s.p.supply.a0, SV.si .i64 s.p.supply.a1, SV.si .i64 s.p.supply.a2, SV.si .i64 s.p.supply.a3, SV.si .i64 s.p.supply.a4, SV.si .i64 s.p.supply.a5, SV.si .i64 s.p.opn.a0, SV.si .i64 s.p.opn.a1, SV.si .i64 s.p.opn.a2, SV.si .i64 s.p.opn.a3, SV.si .i64 s.p.opn.a4, SV.si .i64 s.p.opn.a5, SV.si .i64 s.p.cls.a0, SV.si .i64 s.p.cls.a1, SV.si .i64 s.p.cls.a2, SV.si .i64 s.p.cls.a3, SV.si .i64 s.p.cls.a4, SV.si .i64 s.p.cls.a5, SV.row (SId.i .i64) s.p.classes, SV.row SId.off s.p.offers, SV.row SId.off s.ls.l0, SV.row SId.off s.ls.l1, SV.row SId.off s.ls.l2, SV.row SId.off s.ls.l3, SV.row SId.off s.ls.l4, SV.row SId.off s.ls.l5, SV.row SId.off s.ls.l6, SV.row SId.off s.ls.l7, SV.mp 1] 174 29 false) ∧ (SObj.map SId.sit (SId.i .i64) true s.es ([0, 0, 0, 0, 0, 0, 0, 0, 0, 0, 0, 0, 0], true) true).same (SObj.map SId.sit (SId.i .i64) true s.es ([0, 0, 0, 0, 0, 0, 0, 0, 0, 0, 0, 0, 0], true) true) ∧ (SObj.cells [SV.si .i64 a.members, SV.si .i64 a.left.a0, SV.si .i64 a.left.a1, SV.si .i64 a.left.a2, SV.si .i64 a.left.a3, SV.si .i64 a.left.a4, SV.si .i64 a.left.a5, SV.si .i64 a.opn.a0, SV.si .i64 a.opn.a1, SV.si .i64 a.opn.a2, SV.si .i64 a.opn.a3, SV.si .i64 a.opn.a4, SV.si .i64 a.opn.a5] 141 13 false).same (SObj.cells [SV.si .i64 a.members, SV.si .i64 a.left.a0, SV.si .i64 a.left.a1, SV.si .i64 a.left.a2, SV.si .i64 a.left.a3, SV.si .i64 a.left.a4, SV.si .i64 a.left.a5, SV.si .i64 a.opn.a0, SV.si .i64 a.opn.a1, SV.si .i64 a.opn.a2, SV.si .i64 a.opn.a3, SV.si .i64 a.opn.a4, SV.si .i64 a.opn.a5] 141 13 false) ∧ True) ∧ (0 : Int) ≤ (0 : Int) ∧ (0 : Int) ≤ fstB a.members) ∧ ∀ (x : Int), (0 : Int) ≤ x ∧ x ≤ fstB a.members → (0 : Int) ≤ x ∧ x ≤ (64 : Int) ∧ (decide (binK.andI .i64 (a.members / (2 : Int) ^ x.toNat) (1 : Int) = (0 : Int)) = true → inR .i64 (x + (1 : Int)) ∧ (((SV.ptr 0 0 29).same (SV.ptr 0 0 29) ∧ (SV.ptr 2 0 13).same (SV.ptr 2 0 13) ∧ (SV.si .i64 (x + (1 : Int))).same (SV.si .i64 (x + (1 : Int))) ∧ True) ∧ (SObj.cells [SV.si .i64 s.p.supply.a0, SV.si .i64 s.p.supply.a1, SV.si .i64 s.p.supply.a2, SV.si .i64 s.p.supply.a3, SV.si .i64 s.p.supply.a4, SV.si .i64 s.p.supply.a5, SV.si .i64 s.p.opn.a0, SV.si .i64 s.p.opn.a1, SV.si .i64 s.p.opn.a2, SV.si .i64 s.p.opn.a3, SV.si .i64 s.p.opn.a4, SV.si .i64 s.p.opn.a5, SV.si .i64 s.p.cls.a0, SV.si .i64 s.p.cls.a1, SV.si .i64 s.p.cls.a2, SV.si .i64 s.p.cls.a3, SV.si .i64 s.p.cls.a4, SV.si .i64 s.p.cls.a5, SV.row (SId.i .i64) s.p.classes, SV.row SId.off s.p.offers, SV.row SId.off s.ls.l0, SV.row SId.off s.ls.l1, SV.row SId.off s.ls.l2, SV.row SId.off s.ls.l3, SV.row SId.off s.ls.l4, SV.row SId.off s.ls.l5, SV.row SId.off s.ls.l6, SV.row SId.off s.ls.l7, SV.mp 1] 174 29 false).same (SObj.cells [SV.si .i64 s.p.supply.a0, SV.si .i64 s.p.supply.a1, SV.si .i64 s.p.supply.a2, SV.si .i64 s.p.supply.a3, SV.si .i64 s.p.supply.a4, SV.si .i64 s.p.supply.a5, SV.si .i64 s.p.opn.a0, SV.si .i64 s.p.opn.a1, SV.si .i64 s.p.opn.a2, SV.si .i64 s.p.opn.a3, SV.si .i64 s.p.opn.a4, SV.si .i64 s.p.opn.a5, SV.si .i64 s.p.cls.a0, SV.si .i64 s.p.cls.a1, SV.si .i64 s.p.cls.a2, SV.si .i64 s.p.cls.a3, SV.si .i64 s.p.cls.a4, SV.si .i64 s.p.cls.a5, SV.row (SId.i .i64) s.p.classes, SV.row SId.off s.p.offers, SV.row SId.off s.ls.l0, SV.row SId.off s.ls.l1, SV.row SId.off s.ls.l2, SV.row SId.off s.ls.l3, SV.row SId.off s.ls.l4, SV.row SId.off s.ls.l5, SV.row SId.off s.ls.l6, SV.row SId.off s.ls.l7, SV.mp 1] 174 29 false) ∧ (SObj.map SId.sit (SId.i .i64) true s.es ([0, 0, 0, 0, 0, 0, 0, 0, 0, 0, 0, 0, 0], true) true).same (SObj.map SId.sit (SId.i .i64) true s.es ([0, 0, 0, 0, 0, 0, 0, 0, 0, 0, 0, 0, 0], true) true) ∧ (SObj.cells [SV.si .i64 a.members, SV.si .i64 a.left.a0, SV.si .i64 a.left.a1, SV.si .i64 a.left.a2, SV.si .i64 a.left.a3, SV.si .i64 a.left.a4, SV.si .i64 a.left.a5, SV.si .i64 a.opn.a0, SV.si .i64 a.opn.a1, SV.si .i64 a.opn.a2, SV.si .i64 a.opn.a3, SV.si .i64 a.opn.a4, SV.si .i64 a.opn.a5] 141 13 false).same (SObj.cells [SV.si .i64 a.members, SV.si .i64 a.left.a0, SV.si .i64 a.left.a1, SV.si .i64 a.left.a2, SV.si .i64 a.left.a3, SV.si .i64 a.left.a4, SV.si .i64 a.left.a5, SV.si .i64 a.opn.a0, SV.si .i64 a.opn.a1, SV.si .i64 a.opn.a2, SV.si .i64 a.opn.a3, SV.si .i64 a.opn.a4, SV.si .i64 a.opn.a5] 141 13 false) ∧ True) ∧ ((0 : Int) ≤ x + (1 : Int) ∧ x + (1 : Int) ≤ fstB a.members) ∧ (fstB a.members - (x + (1 : Int))).toNat < (fstB a.members - x).toNat) ∧ (decide (binK.andI .i64 (a.members / (2 : Int) ^ x.toNat) (1 : Int) = (0 : Int)) = false → (0 : Int) ≤ x ∧ x ≤ (64 : Int) ∧ inR .i64 ((1 : Int) * (2 : Int) ^ x.toNat) ∧ ((Good s.p ∧ s.ls = L8.of s.p ∧ SitOk (Sit.mk (binK.andNotI .i64 a.members ((1 : Int) * (2 : Int) ^ x.toNat)) a.left a.opn) ∧ MemoOk s.p s.es) ∧ cnt (binK.andNotI .i64 a.members ((1 : Int) * (2 : Int) ^ x.toNat)) < n) ∧ (0 : Int) ≤ x ∧ x < (8 : Int) ∧ x.toNat < 8 ∧ ((((SV.ptr 0 0 29).same (SV.ptr 0 0 29) ∧ (SV.ptr 2 0 13).same (SV.ptr 2 0 13) ∧ (SV.si .i64 (bestM s.p (cnt (binK.andNotI .i64 a.members ((1 : Int) * (2 : Int) ^ x.toNat)) + 1) s.es (Sit.mk (binK.andNotI .i64 a.members ((1 : Int) * (2 : Int) ^ x.toNat)) a.left a.opn)).fst).same (SV.si .i64 (runJ s a (0 : Int)).fst) ∧ (SV.row SId.off (nthD [s.ls.l0, s.ls.l1, s.ls.l2, s.ls.l3, s.ls.l4, s.ls.l5, s.ls.l6, s.ls.l7] x.toNat [])).same (SV.row SId.off (lstOf s.ls (fstB a.members))) ∧ (SV.si .i64 (↑(nthD [s.ls.l0, s.ls.l1, s.ls.l2, s.ls.l3, s.ls.l4, s.ls.l5, s.ls.l6, s.ls.l7] x.toNat []).length : Int)).same (SV.si .i64 (↑(lstOf s.ls (fstB a.members)).length : Int)) ∧ (SV.il .i64 0).same (SV.si .i64 0) ∧ True) ∧ (SObj.cells [SV.si .i64 s.p.supply.a0, SV.si .i64 s.p.supply.a1, SV.si .i64 s.p.supply.a2, SV.si .i64 s.p.supply.a3, SV.si .i64 s.p.supply.a4, SV.si .i64 s.p.supply.a5, SV.si .i64 s.p.opn.a0, SV.si .i64 s.p.opn.a1, SV.si .i64 s.p.opn.a2, SV.si .i64 s.p.opn.a3, SV.si .i64 s.p.opn.a4, SV.si .i64 s.p.opn.a5, SV.si .i64 s.p.cls.a0, SV.si .i64 s.p.cls.a1, SV.si .i64 s.p.cls.a2, SV.si .i64 s.p.cls.a3, SV.si .i64 s.p.cls.a4, SV.si .i64 s.p.cls.a5, SV.row (SId.i .i64) s.p.classes, SV.row SId.off s.p.offers, SV.row SId.off s.ls.l0, SV.row SId.off s.ls.l1, SV.row SId.off s.ls.l2, SV.row SId.off s.ls.l3, SV.row SId.off s.ls.l4, SV.row SId.off s.ls.l5, SV.row SId.off s.ls.l6, SV.row SId.off s.ls.l7, SV.mp 1] 174 29 false).same (SObj.cells [SV.si .i64 s.p.supply.a0, SV.si .i64 s.p.supply.a1, SV.si .i64 s.p.supply.a2, SV.si .i64 s.p.supply.a3, SV.si .i64 s.p.supply.a4, SV.si .i64 s.p.supply.a5, SV.si .i64 s.p.opn.a0, SV.si .i64 s.p.opn.a1, SV.si .i64 s.p.opn.a2, SV.si .i64 s.p.opn.a3, SV.si .i64 s.p.opn.a4, SV.si .i64 s.p.opn.a5, SV.si .i64 s.p.cls.a0, SV.si .i64 s.p.cls.a1, SV.si .i64 s.p.cls.a2, SV.si .i64 s.p.cls.a3, SV.si .i64 s.p.cls.a4, SV.si .i64 s.p.cls.a5, SV.row (SId.i .i64) s.p.classes, SV.row SId.off s.p.offers, SV.row SId.off s.ls.l0, SV.row SId.off s.ls.l1, SV.row SId.off s.ls.l2, SV.row SId.off s.ls.l3, SV.row SId.off s.ls.l4, SV.row SId.off s.ls.l5, SV.row SId.off s.ls.l6, SV.row SId.off s.ls.l7, SV.mp 1] 174 29 false) ∧ (SObj.map SId.sit (SId.i .i64) true (bestM s.p (cnt (binK.andNotI .i64 a.members ((1 : Int) * (2 : Int) ^ x.toNat)) + 1) s.es (Sit.mk (binK.andNotI .i64 a.members ((1 : Int) * (2 : Int) ^ x.toNat)) a.left a.opn)).snd ([0, 0, 0, 0, 0, 0, 0, 0, 0, 0, 0, 0, 0], true) true).same (SObj.map SId.sit (SId.i .i64) true (runJ s a (0 : Int)).snd ([0, 0, 0, 0, 0, 0, 0, 0, 0, 0, 0, 0, 0], true) true) ∧ (SObj.cells [SV.si .i64 a.members, SV.si .i64 a.left.a0, SV.si .i64 a.left.a1, SV.si .i64 a.left.a2, SV.si .i64 a.left.a3, SV.si .i64 a.left.a4, SV.si .i64 a.left.a5, SV.si .i64 a.opn.a0, SV.si .i64 a.opn.a1, SV.si .i64 a.opn.a2, SV.si .i64 a.opn.a3, SV.si .i64 a.opn.a4, SV.si .i64 a.opn.a5] 141 13 false).same (SObj.cells [SV.si .i64 a.members, SV.si .i64 a.left.a0, SV.si .i64 a.left.a1, SV.si .i64 a.left.a2, SV.si .i64 a.left.a3, SV.si .i64 a.left.a4, SV.si .i64 a.left.a5, SV.si .i64 a.opn.a0, SV.si .i64 a.opn.a1, SV.si .i64 a.opn.a2, SV.si .i64 a.opn.a3, SV.si .i64 a.opn.a4, SV.si .i64 a.opn.a5] 141 13 false) ∧ (SObj.cells [SV.si .i64 (binK.andNotI .i64 a.members ((1 : Int) * (2 : Int) ^ x.toNat)), SV.si .i64 a.left.a0, SV.si .i64 a.left.a1, SV.si .i64 a.left.a2, SV.si .i64 a.left.a3, SV.si .i64 a.left.a4, SV.si .i64 a.left.a5, SV.si .i64 a.opn.a0, SV.si .i64 a.opn.a1, SV.si .i64 a.opn.a2, SV.si .i64 a.opn.a3, SV.si .i64 a.opn.a4, SV.si .i64 a.opn.a5] 141 13 false).same (SObj.cells [SV.si .i64 (skipAt a).members, SV.si .i64 (skipAt a).left.a0, SV.si .i64 (skipAt a).left.a1, SV.si .i64 (skipAt a).left.a2, SV.si .i64 (skipAt a).left.a3, SV.si .i64 (skipAt a).left.a4, SV.si .i64 (skipAt a).left.a5, SV.si .i64 (skipAt a).opn.a0, SV.si .i64 (skipAt a).opn.a1, SV.si .i64 (skipAt a).opn.a2, SV.si .i64 (skipAt a).opn.a3, SV.si .i64 (skipAt a).opn.a4, SV.si .i64 (skipAt a).opn.a5] 141 13 false) ∧ True) ∧ (0 : Int) ≤ (0 : Int) ∧ (0 : Int) ≤ (↑(lstOf s.ls (fstB a.members)).length : Int)) ∧ ∀ (x : Int), (0 : Int) ≤ x ∧ x ≤ (↑(lstOf s.ls (fstB a.members)).length : Int) → (decide (x < (↑(lstOf s.ls (fstB a.members)).length : Int)) = true → (0 : Int) ≤ x ∧ x < (↑(lstOf s.ls (fstB a.members)).length : Int) ∧ x.toNat < (lstOf s.ls (fstB a.members)).length ∧ (s.p.classes.length ≤ 8 ∧ (0 : Int) ≤ (nthD (lstOf s.ls (fstB a.members)) x.toNat SId.off.dflt).bidder ∧ (nthD (lstOf s.ls (fstB a.members)) x.toNat SId.off.dflt).bidder < (↑s.p.classes.length : Int) ∧ a.b ∧ (nthD (lstOf s.ls (fstB a.members)) x.toNat SId.off.dflt).want.ok = true) ∧ (fitsAt s.p a (nthD (lstOf s.ls (fstB a.members)) x.toNat SId.off.dflt) = true → ((Good s.p ∧ s.ls = L8.of s.p ∧ SitOk (afterS s.p a (nthD (lstOf s.ls (fstB a.members)) x.toNat SId.off.dflt)) ∧ MemoOk s.p (runJ s a x).snd) ∧ cnt (afterS s.p a (nthD (lstOf s.ls (fstB a.members)) x.toNat SId.off.dflt)).members < n) ∧ inR .i64 ((nthD (lstOf s.ls (fstB a.members)) x.toNat SId.off.dflt).value + (bestM s.p (cnt (afterS s.p a (nthD (lstOf s.ls (fstB a.members)) x.toNat SId.off.dflt)).members + 1) (runJ s a x).snd (afterS s.p a (nthD (lstOf s.ls (fstB a.members)) x.toNat SId.off.dflt))).fst) ∧ inR .i64 (x + (1 : Int)) ∧ (((SV.ptr 0 0 29).same (SV.ptr 0 0 29) ∧ (SV.ptr 2 0 13).same (SV.ptr 2 0 13) ∧ (SV.si .i64 (max (runJ s a x).fst ((nthD (lstOf s.ls (fstB a.members)) x.toNat SId.off.dflt).value + (bestM s.p (cnt (afterS s.p a (nthD (lstOf s.ls (fstB a.members)) x.toNat SId.off.dflt)).members + 1) (runJ s a x).snd (afterS s.p a (nthD (lstOf s.ls (fstB a.members)) x.toNat SId.off.dflt))).fst))).same (SV.si .i64 (runJ s a (x + (1 : Int))).fst) ∧ (SV.row SId.off (lstOf s.ls (fstB a.members))).same (SV.row SId.off (lstOf s.ls (fstB a.members))) ∧ (SV.si .i64 (↑(lstOf s.ls (fstB a.members)).length : Int)).same (SV.si .i64 (↑(lstOf s.ls (fstB a.members)).length : Int)) ∧ (SV.si .i64 (x + (1 : Int))).same (SV.si .i64 (x + (1 : Int))) ∧ True) ∧ (SObj.cells [SV.si .i64 s.p.supply.a0, SV.si .i64 s.p.supply.a1, SV.si .i64 s.p.supply.a2, SV.si .i64 s.p.supply.a3, SV.si .i64 s.p.supply.a4, SV.si .i64 s.p.supply.a5, SV.si .i64 s.p.opn.a0, SV.si .i64 s.p.opn.a1, SV.si .i64 s.p.opn.a2, SV.si .i64 s.p.opn.a3, SV.si .i64 s.p.opn.a4, SV.si .i64 s.p.opn.a5, SV.si .i64 s.p.cls.a0, SV.si .i64 s.p.cls.a1, SV.si .i64 s.p.cls.a2, SV.si .i64 s.p.cls.a3, SV.si .i64 s.p.cls.a4, SV.si .i64 s.p.cls.a5, SV.row (SId.i .i64) s.p.classes, SV.row SId.off s.p.offers, SV.row SId.off s.ls.l0, SV.row SId.off s.ls.l1, SV.row SId.off s.ls.l2, SV.row SId.off s.ls.l3, SV.row SId.off s.ls.l4, SV.row SId.off s.ls.l5, SV.row SId.off s.ls.l6, SV.row SId.off s.ls.l7, SV.mp 1] 174 29 false).same (SObj.cells [SV.si .i64 s.p.supply.a0, SV.si .i64 s.p.supply.a1, SV.si .i64 s.p.supply.a2, SV.si .i64 s.p.supply.a3, SV.si .i64 s.p.supply.a4, SV.si .i64 s.p.supply.a5, SV.si .i64 s.p.opn.a0, SV.si .i64 s.p.opn.a1, SV.si .i64 s.p.opn.a2, SV.si .i64 s.p.opn.a3, SV.si .i64 s.p.opn.a4, SV.si .i64 s.p.opn.a5, SV.si .i64 s.p.cls.a0, SV.si .i64 s.p.cls.a1, SV.si .i64 s.p.cls.a2, SV.si .i64 s.p.cls.a3, SV.si .i64 s.p.cls.a4, SV.si .i64 s.p.cls.a5, SV.row (SId.i .i64) s.p.classes, SV.row SId.off s.p.offers, SV.row SId.off s.ls.l0, SV.row SId.off s.ls.l1, SV.row SId.off s.ls.l2, SV.row SId.off s.ls.l3, SV.row SId.off s.ls.l4, SV.row SId.off s.ls.l5, SV.row SId.off s.ls.l6, SV.row SId.off s.ls.l7, SV.mp 1] 174 29 false) ∧ (SObj.map SId.sit (SId.i .i64) true (bestM s.p (cnt (afterS s.p a (nthD (lstOf s.ls (fstB a.members)) x.toNat SId.off.dflt)).members + 1) (runJ s a x).snd (afterS s.p a (nthD (lstOf s.ls (fstB a.members)) x.toNat SId.off.dflt))).snd ([0, 0, 0, 0, 0, 0, 0, 0, 0, 0, 0, 0, 0], true) true).same (SObj.map SId.sit (SId.i .i64) true (runJ s a (x + (1 : Int))).snd ([0, 0, 0, 0, 0, 0, 0, 0, 0, 0, 0, 0, 0], true) true) ∧ (SObj.cells [SV.si .i64 a.members, SV.si .i64 a.left.a0, SV.si .i64 a.left.a1, SV.si .i64 a.left.a2, SV.si .i64 a.left.a3, SV.si .i64 a.left.a4, SV.si .i64 a.left.a5, SV.si .i64 a.opn.a0, SV.si .i64 a.opn.a1, SV.si .i64 a.opn.a2, SV.si .i64 a.opn.a3, SV.si .i64 a.opn.a4, SV.si .i64 a.opn.a5] 141 13 false).same (SObj.cells [SV.si .i64 a.members, SV.si .i64 a.left.a0, SV.si .i64 a.left.a1, SV.si .i64 a.left.a2, SV.si .i64 a.left.a3, SV.si .i64 a.left.a4, SV.si .i64 a.left.a5, SV.si .i64 a.opn.a0, SV.si .i64 a.opn.a1, SV.si .i64 a.opn.a2, SV.si .i64 a.opn.a3, SV.si .i64 a.opn.a4, SV.si .i64 a.opn.a5] 141 13 false) ∧ (SObj.cells [SV.si .i64 (skipAt a).members, SV.si .i64 (skipAt a).left.a0, SV.si .i64 (skipAt a).left.a1, SV.si .i64 (skipAt a).left.a2, SV.si .i64 (skipAt a).left.a3, SV.si .i64 (skipAt a).left.a4, SV.si .i64 (skipAt a).left.a5, SV.si .i64 (skipAt a).opn.a0, SV.si .i64 (skipAt a).opn.a1, SV.si .i64 (skipAt a).opn.a2, SV.si .i64 (skipAt a).opn.a3, SV.si .i64 (skipAt a).opn.a4, SV.si .i64 (skipAt a).opn.a5] 141 13 false).same (SObj.cells [SV.si .i64 (skipAt a).members, SV.si .i64 (skipAt a).left.a0, SV.si .i64 (skipAt a).left.a1, SV.si .i64 (skipAt a).left.a2, SV.si .i64 (skipAt a).left.a3, SV.si .i64 (skipAt a).left.a4, SV.si .i64 (skipAt a).left.a5, SV.si .i64 (skipAt a).opn.a0, SV.si .i64 (skipAt a).opn.a1, SV.si .i64 (skipAt a).opn.a2, SV.si .i64 (skipAt a).opn.a3, SV.si .i64 (skipAt a).opn.a4, SV.si .i64 (skipAt a).opn.a5] 141 13 false) ∧ True) ∧ ((0 : Int) ≤ x + (1 : Int) ∧ x + (1 : Int) ≤ (↑(lstOf s.ls (fstB a.members)).length : Int)) ∧ ((↑(lstOf s.ls (fstB a.members)).length : Int) - (x + (1 : Int))).toNat < ((↑(lstOf s.ls (fstB a.members)).length : Int) - x).toNat) ∧ (fitsAt s.p a (nthD (lstOf s.ls (fstB a.members)) x.toNat SId.off.dflt) = false → inR .i64 (x + (1 : Int)) ∧ (((SV.ptr 0 0 29).same (SV.ptr 0 0 29) ∧ (SV.ptr 2 0 13).same (SV.ptr 2 0 13) ∧ (SV.si .i64 (runJ s a x).fst).same (SV.si .i64 (runJ s a (x + (1 : Int))).fst) ∧ (SV.row SId.off (lstOf s.ls (fstB a.members))).same (SV.row SId.off (lstOf s.ls (fstB a.members))) ∧ (SV.si .i64 (↑(lstOf s.ls (fstB a.members)).length : Int)).same (SV.si .i64 (↑(lstOf s.ls (fstB a.members)).length : Int)) ∧ (SV.si .i64 (x + (1 : Int))).same (SV.si .i64 (x + (1 : Int))) ∧ True) ∧ (SObj.cells [SV.si .i64 s.p.supply.a0, SV.si .i64 s.p.supply.a1, SV.si .i64 s.p.supply.a2, SV.si .i64 s.p.supply.a3, SV.si .i64 s.p.supply.a4, SV.si .i64 s.p.supply.a5, SV.si .i64 s.p.opn.a0, SV.si .i64 s.p.opn.a1, SV.si .i64 s.p.opn.a2, SV.si .i64 s.p.opn.a3, SV.si .i64 s.p.opn.a4, SV.si .i64 s.p.opn.a5, SV.si .i64 s.p.cls.a0, SV.si .i64 s.p.cls.a1, SV.si .i64 s.p.cls.a2, SV.si .i64 s.p.cls.a3, SV.si .i64 s.p.cls.a4, SV.si .i64 s.p.cls.a5, SV.row (SId.i .i64) s.p.classes, SV.row SId.off s.p.offers, SV.row SId.off s.ls.l0, SV.row SId.off s.ls.l1, SV.row SId.off s.ls.l2, SV.row SId.off s.ls.l3, SV.row SId.off s.ls.l4, SV.row SId.off s.ls.l5, SV.row SId.off s.ls.l6, SV.row SId.off s.ls.l7, SV.mp 1] 174 29 false).same (SObj.cells [SV.si .i64 s.p.supply.a0, SV.si .i64 s.p.supply.a1, SV.si .i64 s.p.supply.a2, SV.si .i64 s.p.supply.a3, SV.si .i64 s.p.supply.a4, SV.si .i64 s.p.supply.a5, SV.si .i64 s.p.opn.a0, SV.si .i64 s.p.opn.a1, SV.si .i64 s.p.opn.a2, SV.si .i64 s.p.opn.a3, SV.si .i64 s.p.opn.a4, SV.si .i64 s.p.opn.a5, SV.si .i64 s.p.cls.a0, SV.si .i64 s.p.cls.a1, SV.si .i64 s.p.cls.a2, SV.si .i64 s.p.cls.a3, SV.si .i64 s.p.cls.a4, SV.si .i64 s.p.cls.a5, SV.row (SId.i .i64) s.p.classes, SV.row SId.off s.p.offers, SV.row SId.off s.ls.l0, SV.row SId.off s.ls.l1, SV.row SId.off s.ls.l2, SV.row SId.off s.ls.l3, SV.row SId.off s.ls.l4, SV.row SId.off s.ls.l5, SV.row SId.off s.ls.l6, SV.row SId.off s.ls.l7, SV.mp 1] 174 29 false) ∧ (SObj.map SId.sit (SId.i .i64) true (runJ s a x).snd ([0, 0, 0, 0, 0, 0, 0, 0, 0, 0, 0, 0, 0], true) true).same (SObj.map SId.sit (SId.i .i64) true (runJ s a (x + (1 : Int))).snd ([0, 0, 0, 0, 0, 0, 0, 0, 0, 0, 0, 0, 0], true) true) ∧ (SObj.cells [SV.si .i64 a.members, SV.si .i64 a.left.a0, SV.si .i64 a.left.a1, SV.si .i64 a.left.a2, SV.si .i64 a.left.a3, SV.si .i64 a.left.a4, SV.si .i64 a.left.a5, SV.si .i64 a.opn.a0, SV.si .i64 a.opn.a1, SV.si .i64 a.opn.a2, SV.si .i64 a.opn.a3, SV.si .i64 a.opn.a4, SV.si .i64 a.opn.a5] 141 13 false).same (SObj.cells [SV.si .i64 a.members, SV.si .i64 a.left.a0, SV.si .i64 a.left.a1, SV.si .i64 a.left.a2, SV.si .i64 a.left.a3, SV.si .i64 a.left.a4, SV.si .i64 a.left.a5, SV.si .i64 a.opn.a0, SV.si .i64 a.opn.a1, SV.si .i64 a.opn.a2, SV.si .i64 a.opn.a3, SV.si .i64 a.opn.a4, SV.si .i64 a.opn.a5] 141 13 false) ∧ (SObj.cells [SV.si .i64 (skipAt a).members, SV.si .i64 (skipAt a).left.a0, SV.si .i64 (skipAt a).left.a1, SV.si .i64 (skipAt a).left.a2, SV.si .i64 (skipAt a).left.a3, SV.si .i64 (skipAt a).left.a4, SV.si .i64 (skipAt a).left.a5, SV.si .i64 (skipAt a).opn.a0, SV.si .i64 (skipAt a).opn.a1, SV.si .i64 (skipAt a).opn.a2, SV.si .i64 (skipAt a).opn.a3, SV.si .i64 (skipAt a).opn.a4, SV.si .i64 (skipAt a).opn.a5] 141 13 false).same (SObj.cells [SV.si .i64 (skipAt a).members, SV.si .i64 (skipAt a).left.a0, SV.si .i64 (skipAt a).left.a1, SV.si .i64 (skipAt a).left.a2, SV.si .i64 (skipAt a).left.a3, SV.si .i64 (skipAt a).left.a4, SV.si .i64 (skipAt a).left.a5, SV.si .i64 (skipAt a).opn.a0, SV.si .i64 (skipAt a).opn.a1, SV.si .i64 (skipAt a).opn.a2, SV.si .i64 (skipAt a).opn.a3, SV.si .i64 (skipAt a).opn.a4, SV.si .i64 (skipAt a).opn.a5] 141 13 false) ∧ True) ∧ ((0 : Int) ≤ x + (1 : Int) ∧ x + (1 : Int) ≤ (↑(lstOf s.ls (fstB a.members)).length : Int)) ∧ ((↑(lstOf s.ls (fstB a.members)).length : Int) - (x + (1 : Int))).toNat < ((↑(lstOf s.ls (fstB a.members)).length : Int) - x).toNat)) ∧ (decide (x < (↑(lstOf s.ls (fstB a.members)).length : Int)) = false → (SV.si .i64 (runJ s a x).fst).same (SV.si .i64 (bestM s.p (cnt a.members + 1) s.es a).fst) ∧ (SObj.cells [SV.si .i64 s.p.supply.a0, SV.si .i64 s.p.supply.a1, SV.si .i64 s.p.supply.a2, SV.si .i64 s.p.supply.a3, SV.si .i64 s.p.supply.a4, SV.si .i64 s.p.supply.a5, SV.si .i64 s.p.opn.a0, SV.si .i64 s.p.opn.a1, SV.si .i64 s.p.opn.a2, SV.si .i64 s.p.opn.a3, SV.si .i64 s.p.opn.a4, SV.si .i64 s.p.opn.a5, SV.si .i64 s.p.cls.a0, SV.si .i64 s.p.cls.a1, SV.si .i64 s.p.cls.a2, SV.si .i64 s.p.cls.a3, SV.si .i64 s.p.cls.a4, SV.si .i64 s.p.cls.a5, SV.row (SId.i .i64) s.p.classes, SV.row SId.off s.p.offers, SV.row SId.off s.ls.l0, SV.row SId.off s.ls.l1, SV.row SId.off s.ls.l2, SV.row SId.off s.ls.l3, SV.row SId.off s.ls.l4, SV.row SId.off s.ls.l5, SV.row SId.off s.ls.l6, SV.row SId.off s.ls.l7, SV.mp 1] 174 29 false).same (SObj.cells [SV.si .i64 s.p.supply.a0, SV.si .i64 s.p.supply.a1, SV.si .i64 s.p.supply.a2, SV.si .i64 s.p.supply.a3, SV.si .i64 s.p.supply.a4, SV.si .i64 s.p.supply.a5, SV.si .i64 s.p.opn.a0, SV.si .i64 s.p.opn.a1, SV.si .i64 s.p.opn.a2, SV.si .i64 s.p.opn.a3, SV.si .i64 s.p.opn.a4, SV.si .i64 s.p.opn.a5, SV.si .i64 s.p.cls.a0, SV.si .i64 s.p.cls.a1, SV.si .i64 s.p.cls.a2, SV.si .i64 s.p.cls.a3, SV.si .i64 s.p.cls.a4, SV.si .i64 s.p.cls.a5, SV.row (SId.i .i64) s.p.classes, SV.row SId.off s.p.offers, SV.row SId.off s.ls.l0, SV.row SId.off s.ls.l1, SV.row SId.off s.ls.l2, SV.row SId.off s.ls.l3, SV.row SId.off s.ls.l4, SV.row SId.off s.ls.l5, SV.row SId.off s.ls.l6, SV.row SId.off s.ls.l7, SV.mp 1] 174 29 false) ∧ (SObj.map SId.sit (SId.i .i64) true (setT SId.sit (SId.i .i64) a (runJ s a x).fst (runJ s a x).snd) ([0, 0, 0, 0, 0, 0, 0, 0, 0, 0, 0, 0, 0], true) true).same (SObj.map SId.sit (SId.i .i64) true (bestM s.p (cnt a.members + 1) s.es a).snd ([0, 0, 0, 0, 0, 0, 0, 0, 0, 0, 0, 0, 0], true) true) ∧ True))))) (by kernel_rfl) ?_
  simp only [decide_eq_true_eq, decide_eq_false_iff_not, same_il_si, same_si_si, same_si_il, same_il_il, same_sb_sb, same_bl_sb, same_row, same_tup2, same_tup3, same_nil, same_row_nil, same_rfl, osame_rfl, inR_i64, eq_self, true_and, and_true, Bool.and_eq_true, Bool.not_eq_true', Bool.not_eq_false']
  refine ⟨fun h0 => ?_, fun h0 => ⟨fun hf => ?_, fun hf => ?_⟩⟩
  · rw [bestM_zero h0]
    exact ⟨rfl, rfl⟩
  · obtain ⟨v, hv⟩ := Option.isSome_iff_exists.1 hf
    rw [bestM_hit h0 hv, hv]
    exact ⟨rfl, rfl⟩
  · have hnone : findT .sit (.i .i64) a s.es = none := by simpa using hf
    obtain ⟨f0, f1, f2, f3, f4⟩ := fst_ok ha.1 ha.2.1 h0
    obtain ⟨s1, s2⟩ := skip_ok ha h0
    have hcs : cnt (skipAt a).members + 1 = cnt a.members := by unfold cnt; rw [s2]; simp
    have hle : lstOf s.ls (fstB a.members) = byB s.p (fstB a.members) := by rw [hl]; exact lst_eq f0 f1
    have hll : (lstOf s.ls (fstB a.members)).length ≤ 160 := by rw [hle]; exact Nat.le_trans (List.length_filter_le _ _) hg.2.1
    have hb8 := best_ok hg (cnt a.members)
    obtain ⟨q1, q2⟩ := hb8 s.es _ s1 hm (by omega)
    have hrun : ∀ j : Int, 0 ≤ (runJ s a j).1 ∧ (runJ s a j).1 ≤ 9000000 ∧ MemoOk s.p (runJ s a j).2 := by
      intro j
      have hmem : ∀ x ∈ (lstOf s.ls (fstB a.members)).take j.toNat, x ∈ byB s.p (fstB a.members) := fun x hx => by rw [hle] at hx; exact List.mem_of_mem_take hx
      obtain ⟨k1, k2⟩ := steps_ok hg ha h0 (n := cnt a.members) (fun es b hb h1 h2 => hb8 es b hb h1 h2) (by omega) (xs := (lstOf s.ls (fstB a.members)).take j.toNat) (r := bestM s.p (cnt a.members) s.es (skipAt a)) hmem q2
      have hB := stepV_bd (l := a.left) (o := a.opn) (fs := memL (skipAt a).members) hg 8000000 (fun l o => by
        have := valL_bd hg (memL (skipAt a).members) l o
        have := @mem_len (skipAt a).members
        omega) (xs := (lstOf s.ls (fstB a.members)).take j.toNat) (v := (bestM s.p (cnt a.members) s.es (skipAt a)).1) (fun x hx => (List.mem_filter.1 (hmem x hx)).1) (by
          rw [q1]
          have := bestS_bd hg (skipAt a)
          omega)
      unfold runJ
      rw [k1]
      exact ⟨hB.1, hB.2, k2⟩
    refine ⟨⟨by omega, f0⟩, ?_⟩
    rintro f ⟨g0, g1⟩
    refine ⟨g0, by omega, fun hb => ⟨by omega, ⟨by omega, ?_⟩, ?_⟩, fun hb => ?_⟩
    · have : f ≠ fstB a.members := fun e => f2 (by rw [← e]; exact hb)
      omega
    · have : f ≠ fstB a.members := fun e => f2 (by rw [← e]; exact hb)
      omega
    · have hfe : f = fstB a.members := by
        by_cases hlt : f < fstB a.members
        · exact absurd (f4 f g0 hlt) hb
        · omega
      subst hfe
      simp only [Int.one_mul]
      have hp : (2 : Int) ^ (fstB a.members).toNat ≤ 256 ∧ 0 < (2 : Int) ^ (fstB a.members).toNat := by
        have : (fstB a.members).toNat = 0 ∨ (fstB a.members).toNat = 1 ∨ (fstB a.members).toNat = 2 ∨ (fstB a.members).toNat = 3 ∨ (fstB a.members).toNat = 4 ∨ (fstB a.members).toNat = 5 ∨ (fstB a.members).toNat = 6 ∨ (fstB a.members).toNat = 7 := by omega
        rcases this with h | h | h | h | h | h | h | h <;> rw [h] <;> decide
      have hsk : binK.andNotI .i64 a.members (2 ^ (fstB a.members).toNat) = (skipAt a).members := rfl
      simp only [hsk]
      have hse : (⟨(skipAt a).members, a.left, a.opn⟩ : Sit) = skipAt a := rfl
      simp only [hse, hcs]
      have hr0 : runJ s a 0 = bestM s.p (cnt a.members) s.es (skipAt a) := rfl
      refine ⟨g0, by omega, ⟨by omega, by omega⟩, ⟨⟨hg, hl, s1, hm⟩, by omega⟩, g0, f1, by omega, ⟨⟨⟨?_, rfl, rfl⟩, map_same_eq (by rw [hr0]), rfl⟩, by omega, by omega⟩, ?_⟩
      · rw [hr0]
      rintro j ⟨j0, j1⟩
      obtain ⟨b1, b2, b3⟩ := hrun j
      refine ⟨fun jlt => ?_, fun jge => ?_⟩
      · have hsucc := runJ_succ (s := s) (a := a) j0 jlt
        have hxm := nthD_mem (d := SId.off.dflt) (show j.toNat < (lstOf s.ls (fstB a.members)).length by omega)
        generalize nthD (lstOf s.ls (fstB a.members)) j.toNat SId.off.dflt = x at hsucc hxm ⊢
        rw [hle] at hxm
        have hxo := (List.mem_filter.1 hxm).1
        have hxv := hg.2.2.2.2 x hxo
        refine ⟨j0, jlt, by omega, ⟨hg.1, hxv.1, hxv.2.1, ha.2.2, hxv.2.2.1⟩, fun hfit => ?_, fun hfit => ?_⟩
        · obtain ⟨k1, k2, k3⟩ := next_ok hg ha h0 hxm hfit
          have hcn : cnt (nextAt s.p a x).members + 1 = cnt a.members := by unfold cnt; rw [k2]; simp
          have haf : afterS s.p a x = nextAt s.p a x := by unfold afterS; rw [if_pos hfit]
          simp only [haf, hcn]
          obtain ⟨e1, e2⟩ := hb8 (runJ s a j).2 _ k1 b3 (by omega)
          have hbd := bestS_bd hg (nextAt s.p a x)
          have hst : runJ s a (j + 1) = (max (runJ s a j).1 (x.value + (bestM s.p (cnt a.members) (runJ s a j).2 (nextAt s.p a x)).1), (bestM s.p (cnt a.members) (runJ s a j).2 (nextAt s.p a x)).2) := by
            rw [hsucc]; unfold stepM; rw [if_pos hfit]
          rw [hst]
          refine ⟨⟨⟨hg, hl, k1, b3⟩, by omega⟩, by rw [e1]; omega, by omega, ⟨rfl, rfl⟩, by omega, by omega⟩
        · have hst : runJ s a (j + 1) = runJ s a j := by
            rw [hsucc]; unfold stepM; rw [if_neg (by simp [hfit])]
          rw [hst]
          exact ⟨by omega, ⟨rfl, rfl⟩, by omega, by omega⟩
      · have hj : j = (lstOf s.ls (fstB a.members)).length := by omega
        rw [bestM_run hl h0 hnone hj]
        exact ⟨rfl, rfl⟩

theorem hBest : ∀ n, HoldsO Try.prog (bestC n)
  | 0 => by
    rintro ⟨s, a⟩ ⟨_, h⟩
    exact absurd h (Nat.not_lt_zero _)
  | n + 1 => by
    rintro ⟨s, a⟩ ⟨h1, h2⟩
    by_cases hc : cnt a.members < n
    · exact hBest n (s, a) ⟨h1, hc⟩
    · refine holdsO_of (bestC (n + 1)) (W := W9 n) (Λ := fun x => Λ115 x.1 x.2) base_ok (by simp only [W9, List.forall_mem_cons, List.not_mem_nil, false_implies, implies_true, and_true]; exact ⟨hBest n, h116⟩) hL8
        (show fnN 115 = some F115 by kernel_rfl) (fun _ => rfl) (s, a) ?_ (bestX n s a h1.1 h1.2.1 h1.2.2.1 h1.2.2.2 h2).out
      intro d hd b hb1 hb2 hb3
      have hd2 : d = bestC n := by
        have : findO 115 (W9 n) = some (bestC n) := rfl
        have hd3 : findO 115 (W9 n) = some d := hd
        rw [this] at hd3
        injection hd3 with hd3
        exact hd3.symm
      subst hd2
      have hb : (s, a) = b := (bestC n).inj (s, a) b hb1 hb2
      subst hb
      exact hc hb3.2

end Go.Vi
/-
  Contracts: a new solver; the worth of a coalition.
  Conditions: none.
-/
set_option maxRecDepth 100000
set_option maxHeartbeats 4000000
set_option linter.unusedSimpArgs false
set_option linter.unusedVariables false
namespace Go.Vi
open Go.Proofs.Ytigbjjkijfkeeaa.Ir
open Go.Proofs

def r113 : OCtr where
  f := 113
  α := Prob
  put p := [codP.put p]
  st _ := []
  dec v o := match v, o with
    | [v], [] => codP.dec v
    | _, _ => none
  ok v o a h := by
    split at h
    · exact ⟨by simp only [gL, codP.ok _ _ h], rfl⟩
    · cases h
  inj a b h _ := by
    simp only [gL, List.cons.injEq, and_true] at h
    exact codP.inj _ _ h
  dom p := Good p
  res _ := .ptr 0 0 29
  out p := Sol.o ⟨p, L8.of p, []⟩

def sp113 : Nat → Option (Nat × Nat × Nat)
  | 5 => some (11, 0, 8)
  | _ => none

def byT (p : Prob) (i : Int) (j : Int) : List Off := (p.offers.take i.toNat).filter fun x => decide (x.bidder = j)

def Λ113 (p : Prob) : Nat → LoopAnn
  | 3 => .inv Int (fun i => ⟨[(3, .ptr 2 0 29), (11, .row .off p.offers), (12, .si .i64 p.offers.length), (13, .si .i64 i)],
    [.cells p.ss 27 20 false, .map .sit (.i .i64) true [] ([0, 0, 0, 0, 0, 0, 0, 0, 0, 0, 0, 0, 0], true) true,
     .cells [.si .i64 p.supply.a0, .si .i64 p.supply.a1, .si .i64 p.supply.a2, .si .i64 p.supply.a3, .si .i64 p.supply.a4, .si .i64 p.supply.a5,
       .si .i64 p.opn.a0, .si .i64 p.opn.a1, .si .i64 p.opn.a2, .si .i64 p.opn.a3, .si .i64 p.opn.a4, .si .i64 p.opn.a5,
       .si .i64 p.cls.a0, .si .i64 p.cls.a1, .si .i64 p.cls.a2, .si .i64 p.cls.a3, .si .i64 p.cls.a4, .si .i64 p.cls.a5,
       .row (.i .i64) p.classes, .row .off p.offers, .ow 3 (byT p i 0).length 8, .ow 4 (byT p i 1).length 8, .ow 5 (byT p i 2).length 8, .ow 6 (byT p i 3).length 8, .ow 7 (byT p i 4).length 8, .ow 8 (byT p i 5).length 8, .ow 9 (byT p i 6).length 8, .ow 10 (byT p i 7).length 8, .mp 1] 174 29 false,
     .row .off (byT p i 0) 43 true, .row .off (byT p i 1) 43 true, .row .off (byT p i 2) 43 true, .row .off (byT p i 3) 43 true, .row .off (byT p i 4) 43 true, .row .off (byT p i 5) 43 true, .row .off (byT p i 6) 43 true, .row .off (byT p i 7) 43 true]⟩)
    (fun s => iS s 13) (fun i => 0 ≤ i ∧ i ≤ p.offers.length) (fun i => (p.offers.length - i).toNat) fun _ _ => .look
  | _ => .look

theorem byT_hit {p : Prob} {i : Int} {j : Int} (h0 : 0 ≤ i) (h1 : i < p.offers.length) (h : (nthD p.offers i.toNat SId.off.dflt).bidder = j) : byT p (i + 1) j = byT p i j ++ [nthD p.offers i.toNat SId.off.dflt] := by
  unfold byT
  rw [take_nth (d := SId.off.dflt) h0 h1, List.filter_append]
  simp [h]
theorem byT_miss {p : Prob} {i : Int} {j : Int} (h0 : 0 ≤ i) (h1 : i < p.offers.length) (h : (nthD p.offers i.toNat SId.off.dflt).bidder ≠ j) : byT p (i + 1) j = byT p i j := by
  unfold byT
  rw [take_nth (d := SId.off.dflt) h0 h1, List.filter_append]
  simp [h]

theorem h113 : HoldsO Try.prog r113 := by
  refine conN (L := []) (W := []) r113 F113 sp113 Λ113 (by simp) (by simp) (by kernel_rfl) (fun _ => rfl) (fun _ => rfl) (by kernel_rfl) ?_
  intro (p : Prob) (hp : Good p)
  refine vcOf (((((SV.ptr 2 0 29).same (SV.ptr 2 0 29) ∧ (SV.row SId.off p.offers).same (SV.row SId.off p.offers) ∧ (SV.si .i64 (↑p.offers.length : Int)).same (SV.si .i64 (↑p.offers.length : Int)) ∧ (SV.il .i64 0).same (SV.si .i64 0) ∧ True) ∧ (SObj.cells (Prob.ss p) 27 20 false).same (SObj.cells (Prob.ss p) 27 20 false) ∧ (SObj.map SId.sit (SId.i .i64) true [] ([0, 0, 0, 0, 0, 0, 0, 0, 0, 0, 0, 0, 0], true) true).same (SObj.map SId.sit (SId.i .i64) true [] ([0, 0, 0, 0, 0, 0, 0, 0, 0, 0, 0, 0, 0], true) true) ∧ (SObj.cells [SV.si .i64 p.supply.a0, SV.si .i64 p.supply.a1, SV.si .i64 p.supply.a2, SV.si .i64 p.supply.a3, SV.si .i64 p.supply.a4, SV.si .i64 p.supply.a5, SV.si .i64 p.opn.a0, SV.si .i64 p.opn.a1, SV.si .i64 p.opn.a2, SV.si .i64 p.opn.a3, SV.si .i64 p.opn.a4, SV.si .i64 p.opn.a5, SV.si .i64 p.cls.a0, SV.si .i64 p.cls.a1, SV.si .i64 p.cls.a2, SV.si .i64 p.cls.a3, SV.si .i64 p.cls.a4, SV.si .i64 p.cls.a5, SV.row (SId.i .i64) p.classes, SV.row SId.off p.offers, SV.ow 3 0 8, SV.ow 4 0 8, SV.ow 5 0 8, SV.ow 6 0 8, SV.ow 7 0 8, SV.ow 8 0 8, SV.ow 9 0 8, SV.ow 10 0 8, SV.mp 1] 174 29 false).same (SObj.cells [SV.si .i64 p.supply.a0, SV.si .i64 p.supply.a1, SV.si .i64 p.supply.a2, SV.si .i64 p.supply.a3, SV.si .i64 p.supply.a4, SV.si .i64 p.supply.a5, SV.si .i64 p.opn.a0, SV.si .i64 p.opn.a1, SV.si .i64 p.opn.a2, SV.si .i64 p.opn.a3, SV.si .i64 p.opn.a4, SV.si .i64 p.opn.a5, SV.si .i64 p.cls.a0, SV.si .i64 p.cls.a1, SV.si .i64 p.cls.a2, SV.si .i64 p.cls.a3, SV.si .i64 p.cls.a4, SV.si .i64 p.cls.a5, SV.row (SId.i .i64) p.classes, SV.row SId.off p.offers, SV.ow 3 (byT p (0 : Int) (0 : Int)).length 8, SV.ow 4 (byT p (0 : Int) (1 : Int)).length 8, SV.ow 5 (byT p (0 : Int) (2 : Int)).length 8, SV.ow 6 (byT p (0 : Int) (3 : Int)).length 8, SV.ow 7 (byT p (0 : Int) (4 : Int)).length 8, SV.ow 8 (byT p (0 : Int) (5 : Int)).length 8, SV.ow 9 (byT p (0 : Int) (6 : Int)).length 8, SV.ow 10 (byT p (0 : Int) (7 : Int)).length 8, SV.mp 1] 174 29 false) ∧ (SObj.row SId.off [] 43 true).same (SObj.row SId.off (byT p (0 : Int) (0 : Int)) 43 true) ∧ (SObj.row SId.off [] 43 true).same (SObj.row SId.off (byT p (0 : Int) (1 : Int)) 43 true) ∧ (SObj.row SId.off [] 43 true).same (SObj.row SId.off (byT p (0 : Int) (2 : Int)) 43 true) ∧ (SObj.row SId.off [] 43 true).same (SObj.row SId.off (byT p (0 : Int) (3 : Int)) 43 true) ∧ (SObj.row SId.off [] 43 true).same (SObj.row SId.off (byT p (0 : Int) (4 : Int)) 43 true) ∧ (SObj.row SId.off [] 43 true).same (SObj.row SId.off (byT p (0 : Int) (5 : Int)) 43 true) ∧ (SObj.row SId.off [] 43 true).same (SObj.row SId.off (byT p (0 : Int) (6 : Int)) 43 true) ∧ (SObj.row SId.off [] 43 true).same (SObj.row SId.off (byT p (0 : Int) (7 : Int)) 43 true) ∧ True) ∧ (0 : Int) ≤ (0 : Int) ∧ (0 : Int) ≤ (↑p.offers.length : Int)) ∧ ∀ (x : Int), (0 : Int) ≤ x ∧ x ≤ (↑p.offers.length : Int) → (decide (x < (↑p.offers.length : Int)) = true → (0 : Int) ≤ x ∧ x < (↑p.offers.length : Int) ∧ x.toNat < p.offers.length ∧ ((nthD p.offers x.toNat SId.off.dflt).bidder = (0 : Int) → 1 = 1 ∧ (byT p x (0 : Int)).length = (byT p x (0 : Int)).length ∧ ((byT p x (0 : Int)).length + 1) * 64 ≤ 140737488355328 ∧ (byT p x (0 : Int)).length + 1 ≤ 1000000000000 ∧ inR .i64 (x + (1 : Int)) ∧ (((SV.ptr 2 0 29).same (SV.ptr 2 0 29) ∧ (SV.row SId.off p.offers).same (SV.row SId.off p.offers) ∧ (SV.si .i64 (↑p.offers.length : Int)).same (SV.si .i64 (↑p.offers.length : Int)) ∧ (SV.si .i64 (x + (1 : Int))).same (SV.si .i64 (x + (1 : Int))) ∧ True) ∧ (SObj.cells (Prob.ss p) 27 20 false).same (SObj.cells (Prob.ss p) 27 20 false) ∧ (SObj.map SId.sit (SId.i .i64) true [] ([0, 0, 0, 0, 0, 0, 0, 0, 0, 0, 0, 0, 0], true) true).same (SObj.map SId.sit (SId.i .i64) true [] ([0, 0, 0, 0, 0, 0, 0, 0, 0, 0, 0, 0, 0], true) true) ∧ (SObj.cells [SV.si .i64 p.supply.a0, SV.si .i64 p.supply.a1, SV.si .i64 p.supply.a2, SV.si .i64 p.supply.a3, SV.si .i64 p.supply.a4, SV.si .i64 p.supply.a5, SV.si .i64 p.opn.a0, SV.si .i64 p.opn.a1, SV.si .i64 p.opn.a2, SV.si .i64 p.opn.a3, SV.si .i64 p.opn.a4, SV.si .i64 p.opn.a5, SV.si .i64 p.cls.a0, SV.si .i64 p.cls.a1, SV.si .i64 p.cls.a2, SV.si .i64 p.cls.a3, SV.si .i64 p.cls.a4, SV.si .i64 p.cls.a5, SV.row (SId.i .i64) p.classes, SV.row SId.off p.offers, SV.ow 3 (byT p x (0 : Int) ++ [Off.mk (0 : Int) (nthD p.offers x.toNat SId.off.dflt).want (nthD p.offers x.toNat SId.off.dflt).value]).length 8, SV.ow 4 (byT p x (1 : Int)).length 8, SV.ow 5 (byT p x (2 : Int)).length 8, SV.ow 6 (byT p x (3 : Int)).length 8, SV.ow 7 (byT p x (4 : Int)).length 8, SV.ow 8 (byT p x (5 : Int)).length 8, SV.ow 9 (byT p x (6 : Int)).length 8, SV.ow 10 (byT p x (7 : Int)).length 8, SV.mp 1] 174 29 false).same (SObj.cells [SV.si .i64 p.supply.a0, SV.si .i64 p.supply.a1, SV.si .i64 p.supply.a2, SV.si .i64 p.supply.a3, SV.si .i64 p.supply.a4, SV.si .i64 p.supply.a5, SV.si .i64 p.opn.a0, SV.si .i64 p.opn.a1, SV.si .i64 p.opn.a2, SV.si .i64 p.opn.a3, SV.si .i64 p.opn.a4, SV.si .i64 p.opn.a5, SV.si .i64 p.cls.a0, SV.si .i64 p.cls.a1, SV.si .i64 p.cls.a2, SV.si .i64 p.cls.a3, SV.si .i64 p.cls.a4, SV.si .i64 p.cls.a5, SV.row (SId.i .i64) p.classes, SV.row SId.off p.offers, SV.ow 3 (byT p (x + (1 : Int)) (0 : Int)).length 8, SV.ow 4 (byT p (x + (1 : Int)) (1 : Int)).length 8, SV.ow 5 (byT p (x + (1 : Int)) (2 : Int)).length 8, SV.ow 6 (byT p (x + (1 : Int)) (3 : Int)).length 8, SV.ow 7 (byT p (x + (1 : Int)) (4 : Int)).length 8, SV.ow 8 (byT p (x + (1 : Int)) (5 : Int)).length 8, SV.ow 9 (byT p (x + (1 : Int)) (6 : Int)).length 8, SV.ow 10 (byT p (x + (1 : Int)) (7 : Int)).length 8, SV.mp 1] 174 29 false) ∧ (SObj.row SId.off (byT p x (0 : Int) ++ [Off.mk (0 : Int) (nthD p.offers x.toNat SId.off.dflt).want (nthD p.offers x.toNat SId.off.dflt).value]) 43 true).same (SObj.row SId.off (byT p (x + (1 : Int)) (0 : Int)) 43 true) ∧ (SObj.row SId.off (byT p x (1 : Int)) 43 true).same (SObj.row SId.off (byT p (x + (1 : Int)) (1 : Int)) 43 true) ∧ (SObj.row SId.off (byT p x (2 : Int)) 43 true).same (SObj.row SId.off (byT p (x + (1 : Int)) (2 : Int)) 43 true) ∧ (SObj.row SId.off (byT p x (3 : Int)) 43 true).same (SObj.row SId.off (byT p (x + (1 : Int)) (3 : Int)) 43 true) ∧ (SObj.row SId.off (byT p x (4 : Int)) 43 true).same (SObj.row SId.off (byT p (x + (1 : Int)) (4 : Int)) 43 true) ∧ (SObj.row SId.off (byT p x (5 : Int)) 43 true).same (SObj.row SId.off (byT p (x + (1 : Int)) (5 : Int)) 43 true) ∧ (SObj.row SId.off (byT p x (6 : Int)) 43 true).same (SObj.row SId.off (byT p (x + (1 : Int)) (6 : Int)) 43 true) ∧ (SObj.row SId.off (byT p x (7 : Int)) 43 true).same (SObj.row SId.off (byT p (x + (1 : Int)) (7 : Int)) 43 true) ∧ True) ∧ ((0 : Int) ≤ x + (1 : Int) ∧ x + (1 : Int) ≤ (↑p.offers.length : Int)) ∧ ((↑p.offers.length : Int) - (x + (1 : Int))).toNat < ((↑p.offers.length : Int) - x).toNat) ∧ ((nthD p.offers x.toNat SId.off.dflt).bidder = (1 : Int) → 1 = 1 ∧ (byT p x (1 : Int)).length = (byT p x (1 : Int)).length ∧ ((byT p x (1 : Int)).length + 1) * 64 ≤ 140737488355328 ∧ (byT p x (1 : Int)).length + 1 ≤ 1000000000000 ∧ inR .i64 (x + (1 : Int)) ∧ (((SV.ptr 2 0 29).same (SV.ptr 2 0 29) ∧ (SV.row SId.off p.offers).same (SV.row SId.off p.offers) ∧ (SV.si .i64 (↑p.offers.length : Int)).same (SV.si .i64 (↑p.offers.length : Int)) ∧ (SV.si .i64 (x + (1 : Int))).same (SV.si .i64 (x + (1 : Int))) ∧ True) ∧ (SObj.cells (Prob.ss p) 27 20 false).same (SObj.cells (Prob.ss p) 27 20 false) ∧ (SObj.map SId.sit (SId.i .i64) true [] ([0, 0, 0, 0, 0, 0, 0, 0, 0, 0, 0, 0, 0], true) true).same (SObj.map SId.sit (SId.i .i64) true [] ([0, 0, 0, 0, 0, 0, 0, 0, 0, 0, 0, 0, 0], true) true) ∧ (SObj.cells [SV.si .i64 p.supply.a0, SV.si .i64 p.supply.a1, SV.si .i64 p.supply.a2, SV.si .i64 p.supply.a3, SV.si .i64 p.supply.a4, SV.si .i64 p.supply.a5, SV.si .i64 p.opn.a0, SV.si .i64 p.opn.a1, SV.si .i64 p.opn.a2, SV.si .i64 p.opn.a3, SV.si .i64 p.opn.a4, SV.si .i64 p.opn.a5, SV.si .i64 p.cls.a0, SV.si .i64 p.cls.a1, SV.si .i64 p.cls.a2, SV.si .i64 p.cls.a3, SV.si .i64 p.cls.a4, SV.si .i64 p.cls.a5, SV.row (SId.i .i64) p.classes, SV.row SId.off p.offers, SV.ow 3 (byT p x (0 : Int)).length 8, SV.ow 4 (byT p x (1 : Int) ++ [Off.mk (1 : Int) (nthD p.offers x.toNat SId.off.dflt).want (nthD p.offers x.toNat SId.off.dflt).value]).length 8, SV.ow 5 (byT p x (2 : Int)).length 8, SV.ow 6 (byT p x (3 : Int)).length 8, SV.ow 7 (byT p x (4 : Int)).length 8, SV.ow 8 (byT p x (5 : Int)).length 8, SV.ow 9 (byT p x (6 : Int)).length 8, SV.ow 10 (byT p x (7 : Int)).length 8, SV.mp 1] 174 29 false).same (SObj.cells [SV.si .i64 p.supply.a0, SV.si .i64 p.supply.a1, SV.si .i64 p.supply.a2, SV.si .i64 p.supply.a3, SV.si .i64 p.supply.a4, SV.si .i64 p.supply.a5, SV.si .i64 p.opn.a0, SV.si .i64 p.opn.a1, SV.si .i64 p.opn.a2, SV.si .i64 p.opn.a3, SV.si .i64 p.opn.a4, SV.si .i64 p.opn.a5, SV.si .i64 p.cls.a0, SV.si .i64 p.cls.a1, SV.si .i64 p.cls.a2, SV.si .i64 p.cls.a3, SV.si .i64 p.cls.a4, SV.si .i64 p.cls.a5, SV.row (SId.i .i64) p.classes, SV.row SId.off p.offers, SV.ow 3 (byT p (x + (1 : Int)) (0 : Int)).length 8, SV.ow 4 (byT p (x + (1 : Int)) (1 : Int)).length 8, SV.ow 5 (byT p (x + (1 : Int)) (2 : Int)).length 8, SV.ow 6 (byT p (x + (1 : Int)) (3 : Int)).length 8, SV.ow 7 (byT p (x + (1 : Int)) (4 : Int)).length 8, SV.ow 8 (byT p (x + (1 : Int)) (5 : Int)).length 8, SV.ow 9 (byT p (x + (1 : Int)) (6 : Int)).length 8, SV.ow 10 (byT p (x + (1 : Int)) (7 : Int)).length 8, SV.mp 1] 174 29 false) ∧ (SObj.row SId.off (byT p x (0 : Int)) 43 true).same (SObj.row SId.off (byT p (x + (1 : Int)) (0 : Int)) 43 true) ∧ (SObj.row SId.off (byT p x (1 : Int) ++ [Off.mk (1 : Int) (nthD p.offers x.toNat SId.off.dflt).want (nthD p.offers x.toNat SId.off.dflt).value]) 43 true).same (SObj.row SId.off (byT p (x + (1 : Int)) (1 : Int)) 43 true) ∧ (SObj.row SId.off (byT p x (2 : Int)) 43 true).same (SObj.row SId.off (byT p (x + (1 : Int)) (2 : Int)) 43 true) ∧ (SObj.row SId.off (byT p x (3 : Int)) 43 true).same (SObj.row SId.off (byT p (x + (1 : Int)) (3 : Int)) 43 true) ∧ (SObj.row SId.off (byT p x (4 : Int)) 43 true).same (SObj.row SId.off (byT p (x + (1 : Int)) (4 : Int)) 43 true) ∧ (SObj.row SId.off (byT p x (5 : Int)) 43 true).same (SObj.row SId.off (byT p (x + (1 : Int)) (5 : Int)) 43 true) ∧ (SObj.row SId.off (byT p x (6 : Int)) 43 true).same (SObj.row SId.off (byT p (x + (1 : Int)) (6 : Int)) 43 true) ∧ (SObj.row SId.off (byT p x (7 : Int)) 43 true).same (SObj.row SId.off (byT p (x + (1 : Int)) (7 : Int)) 43 true) ∧ True) ∧ ((0 : Int) ≤ x + (1 : Int) ∧ x + (1 : Int) ≤ (↑p.offers.length : Int)) ∧ ((↑p.offers.length : Int) - (x + (1 : Int))).toNat < ((↑p.offers.length : Int) - x).toNat) ∧ ((nthD p.offers x.toNat SId.off.dflt).bidder = (2 : Int) → 1 = 1 ∧ (byT p x (2 : Int)).length = (byT p x (2 : Int)).length ∧ ((byT p x (2 : Int)).length + 1) * 64 ≤ 140737488355328 ∧ (byT p x (2 : Int)).length + 1 ≤ 1000000000000 ∧ inR .i64 (x + (1 : Int)) ∧ (((SV.ptr 2 0 29).same (SV.ptr 2 0 29) ∧ (SV.row SId.off p.offers).same (SV.row SId.off p.offers) ∧ (SV.si .i64 (↑p.offers.length : Int)).same (SV.si .i64 (↑p.offers.length : Int)) ∧ (SV.si .i64 (x + (1 : Int))).same (SV.si .i64 (x + (1 : Int))) ∧ True) ∧ (SObj.cells (Prob.ss p) 27 20 false).same (SObj.cells (Prob.ss p) 27 20 false) ∧ (SObj.map SId.sit (SId.i .i64) true [] ([0, 0, 0, 0, 0, 0, 0, 0, 0, 0, 0, 0, 0], true) true).same (SObj.map SId.sit (SId.i .i64) true [] ([0, 0, 0, 0, 0, 0, 0, 0, 0, 0, 0, 0, 0], true) true) ∧ (SObj.cells [SV.si .i64 p.supply.a0, SV.si .i64 p.supply.a1, SV.si .i64 p.supply.a2, SV.si .i64 p.supply.a3, SV.si .i64 p.supply.a4, SV.si .i64 p.supply.a5, SV.si .i64 p.opn.a0, SV.si .i64 p.opn.a1, SV.si .i64 p.opn.a2, SV.si .i64 p.opn.a3, SV.si .i64 p.opn.a4, SV.si .i64 p.opn.a5, SV.si .i64 p.cls.a0, SV.si .i64 p.cls.a1, SV.si .i64 p.cls.a2, SV.si .i64 p.cls.a3, SV.si .i64 p.cls.a4, SV.si .i64 p.cls.a5, SV.row (SId.i .i64) p.classes, SV.row SId.off p.offers, SV.ow 3 (byT p x (0 : Int)).length 8, SV.ow 4 (byT p x (1 : Int)).length 8, SV.ow 5 (byT p x (2 : Int) ++ [Off.mk (2 : Int) (nthD p.offers x.toNat SId.off.dflt).want (nthD p.offers x.toNat SId.off.dflt).value]).length 8, SV.ow 6 (byT p x (3 : Int)).length 8, SV.ow 7 (byT p x (4 : Int)).length 8, SV.ow 8 (byT p x (5 : Int)).length 8, SV.ow 9 (byT p x (6 : Int)).length 8, SV.ow 10 (byT p x (7 : Int)).length 8, SV.mp 1] 174 29 false).same (SObj.cells [SV.si .i64 p.supply.a0, SV.si .i64 p.supply.a1, SV.si .i64 p.supply.a2, SV.si .i64 p.supply.a3, SV.si .i64 p.supply.a4, SV.si .i64 p.supply.a5, SV.si .i64 p.opn.a0, SV.si .i64 p.opn.a1, SV.si .i64 p.opn.a2, SV.si .i64 p.opn.a3, SV.si .i64 p.opn.a4, SV.si .i64 p.opn.a5, SV.si .i64 p.cls.a0, SV.si .i64 p.cls.a1, SV.si .i64 p.cls.a2, SV.si .i64 p.cls.a3, SV.si .i64 p.cls.a4, SV.si .i64 p.cls.a5, SV.row (SId.i .i64) p.classes, SV.row SId.off p.offers, SV.ow 3 (byT p (x + (1 : Int)) (0 : Int)).length 8, SV.ow 4 (byT p (x + (1 : Int)) (1 : Int)).length 8, SV.ow 5 (byT p (x + (1 : Int)) (2 : Int)).length 8, SV.ow 6 (byT p (x + (1 : Int)) (3 : Int)).length 8, SV.ow 7 (byT p (x + (1 : Int)) (4 : Int)).length 8, SV.ow 8 (byT p (x + (1 : Int)) (5 : Int)).length 8, SV.ow 9 (byT p (x + (1 : Int)) (6 : Int)).length 8, SV.ow 10 (byT p (x + (1 : Int)) (7 : Int)).length 8, SV.mp 1] 174 29 false) ∧ (SObj.row SId.off (byT p x (0 : Int)) 43 true).same (SObj.row SId.off (byT p (x + (1 : Int)) (0 : Int)) 43 true) ∧ (SObj.row SId.off (byT p x (1 : Int)) 43 true).same (SObj.row SId.off (byT p (x + (1 : Int)) (1 : Int)) 43 true) ∧ (SObj.row SId.off (byT p x (2 : Int) ++ [Off.mk (2 : Int) (nthD p.offers x.toNat SId.off.dflt).want (nthD p.offers x.toNat SId.off.dflt).value]) 43 true).same (SObj.row SId.off (byT p (x + (1 : Int)) (2 : Int)) 43 true) ∧ (SObj.row SId.off (byT p x (3 : Int)) 43 true).same (SObj.row SId.off (byT p (x + (1 : Int)) (3 : Int)) 43 true) ∧ (SObj.row SId.off (byT p x (4 : Int)) 43 true).same (SObj.row SId.off (byT p (x + (1 : Int)) (4 : Int)) 43 true) ∧ (SObj.row SId.off (byT p x (5 : Int)) 43 true).same (SObj.row SId.off (byT p (x + (1 : Int)) (5 : Int)) 43 true) ∧ (SObj.row SId.off (byT p x (6 : Int)) 43 true).same (SObj.row SId.off (byT p (x + (1 : Int)) (6 : Int)) 43 true) ∧ (SObj.row SId.off (byT p x (7 : Int)) 43 true).same (SObj.row SId.off (byT p (x + (1 : Int)) (7 : Int)) 43 true) ∧ True) ∧ ((0 : Int) ≤ x + (1 : Int) ∧ x + (1 : Int) ≤ (↑p.offers.length : Int)) ∧ ((↑p.offers.length : Int) - (x + (1 : Int))).toNat < ((↑p.offers.length : Int) - x).toNat) ∧ ((nthD p.offers x.toNat SId.off.dflt).bidder = (3 : Int) → 1 = 1 ∧ (byT p x (3 : Int)).length = (byT p x (3 : Int)).length ∧ ((byT p x (3 : Int)).length + 1) * 64 ≤ 140737488355328 ∧ (byT p x (3 : Int)).length + 1 ≤ 1000000000000 ∧ inR .i64 (x + (1 : Int)) ∧ (((SV.ptr 2 0 29).same (SV.ptr 2 0 29) ∧ (SV.row SId.off p.offers).same (SV.row SId.off p.offers) ∧ (SV.si .i64 (↑p.offers.length : Int)).same (SV.si .i64 (↑p.offers.length : Int)) ∧ (SV.si .i64 (x + (1 : Int))).same (SV.si .i64 (x + (1 : Int))) ∧ True) ∧ (SObj.cells (Prob.ss p) 27 20 false).same (SObj.cells (Prob.ss p) 27 20 false) ∧ (SObj.map SId.sit (SId.i .i64) true [] ([0, 0, 0, 0, 0, 0, 0, 0, 0, 0, 0, 0, 0], true) true).same (SObj.map SId.sit (SId.i .i64) true [] ([0, 0, 0, 0, 0, 0, 0, 0, 0, 0, 0, 0, 0], true) true) ∧ (SObj.cells [SV.si .i64 p.supply.a0, SV.si .i64 p.supply.a1, SV.si .i64 p.supply.a2, SV.si .i64 p.supply.a3, SV.si .i64 p.supply.a4, SV.si .i64 p.supply.a5, SV.si .i64 p.opn.a0, SV.si .i64 p.opn.a1, SV.si .i64 p.opn.a2, SV.si .i64 p.opn.a3, SV.si .i64 p.opn.a4, SV.si .i64 p.opn.a5, SV.si .i64 p.cls.a0, SV.si .i64 p.cls.a1, SV.si .i64 p.cls.a2, SV.si .i64 p.cls.a3, SV.si .i64 p.cls.a4, SV.si .i64 p.cls.a5, SV.row (SId.i .i64) p.classes, SV.row SId.off p.offers, SV.ow 3 (byT p x (0 : Int)).length 8, SV.ow 4 (byT p x (1 : Int)).length 8, SV.ow 5 (byT p x (2 : Int)).length 8, SV.ow 6 (byT p x (3 : Int) ++ [Off.mk (3 : Int) (nthD p.offers x.toNat SId.off.dflt).want (nthD p.offers x.toNat SId.off.dflt).value]).length 8, SV.ow 7 (byT p x (4 : Int)).length 8, SV.ow 8 (byT p x (5 : Int)).length 8, SV.ow 9 (byT p x (6 : Int)).length 8, SV.ow 10 (byT p x (7 : Int)).length 8, SV.mp 1] 174 29 false).same (SObj.cells [SV.si .i64 p.supply.a0, SV.si .i64 p.supply.a1, SV.si .i64 p.supply.a2, SV.si .i64 p.supply.a3, SV.si .i64 p.supply.a4, SV.si .i64 p.supply.a5, SV.si .i64 p.opn.a0, SV.si .i64 p.opn.a1, SV.si .i64 p.opn.a2, SV.si .i64 p.opn.a3, SV.si .i64 p.opn.a4, SV.si .i64 p.opn.a5, SV.si .i64 p.cls.a0, SV.si .i64 p.cls.a1, SV.si .i64 p.cls.a2, SV.si .i64 p.cls.a3, SV.si .i64 p.cls.a4, SV.si .i64 p.cls.a5, SV.row (SId.i .i64) p.classes, SV.row SId.off p.offers, SV.ow 3 (byT p (x + (1 : Int)) (0 : Int)).length 8, SV.ow 4 (byT p (x + (1 : Int)) (1 : Int)).length 8, SV.ow 5 (byT p (x + (1 : Int)) (2 : Int)).length 8, SV.ow 6 (byT p (x + (1 : Int)) (3 : Int)).length 8, SV.ow 7 (byT p (x + (1 : Int)) (4 : Int)).length 8, SV.ow 8 (byT p (x + (1 : Int)) (5 : Int)).length 8, SV.ow 9 (byT p (x + (1 : Int)) (6 : Int)).length 8, SV.ow 10 (byT p (x + (1 : Int)) (7 : Int)).length 8, SV.mp 1] 174 29 false) ∧ (SObj.row SId.off (byT p x (0 : Int)) 43 true).same (SObj.row SId.off (byT p (x + (1 : Int)) (0 : Int)) 43 true) ∧ (SObj.row SId.off (byT p x (1 : Int)) 43 true).same (SObj.row SId.off (byT p (x + (1 : Int)) (1 : Int)) 43 true) ∧ (SObj.row SId.off (byT p x (2 : Int)) 43 true).same (SObj.row SId.off (byT p (x + (1 : Int)) (2 : Int)) 43 true) ∧ (SObj.row SId.off (byT p x (3 : Int) ++ [Off.mk (3 : Int) (nthD p.offers x.toNat SId.off.dflt).want (nthD p.offers x.toNat SId.off.dflt).value]) 43 true).same (SObj.row SId.off (byT p (x + (1 : Int)) (3 : Int)) 43 true) ∧ (SObj.row SId.off (byT p x (4 : Int)) 43 true).same (SObj.row SId.off (byT p (x + (1 : Int)) (4 : Int)) 43 true) ∧ (SObj.row SId.off (byT p x (5 : Int)) 43 true).same (SObj.row SId.off (byT p (x + (1 : Int)) (5 : Int)) 43 true) ∧ (SObj.row SId.off (byT p x (6 : Int)) 43 true).same (SObj.row SId.off (byT p (x + (1 : Int)) (6 : Int)) 43 true) ∧ (SObj.row SId.off (byT p x (7 : Int)) 43 true).same (SObj.row SId.off (byT p (x + (1 : Int)) (7 : Int)) 43 true) ∧ True) ∧ ((0 : Int) ≤ x + (1 : Int) ∧ x + (1 : Int) ≤ (↑p.offers.length : Int)) ∧ ((↑p.offers.length : Int) - (x + (1 : Int))).toNat < ((↑p.offers.length : Int) - x).toNat) ∧ ((nthD p.offers x.toNat SId.off.dflt).bidder = (4 : Int) → 1 = 1 ∧ (byT p x (4 : Int)).length = (byT p x (4 : Int)).length ∧ ((byT p x (4 : Int)).length + 1) * 64 ≤ 140737488355328 ∧ (byT p x (4 : Int)).length + 1 ≤ 1000000000000 ∧ inR .i64 (x + (1 : Int)) ∧ (((SV.ptr 2 0 29).same (SV.ptr 2 0 29) ∧ (SV.row SId.off p.offers).same (SV.row SId.off p.offers) ∧ (SV.si .i64 (↑p.offers.length : Int)).same (SV.si .i64 (↑p.offers.length : Int)) ∧ (SV.si .i64 (x + (1 : Int))).same (SV.si .i64 (x + (1 : Int))) ∧ True) ∧ (SObj.cells (Prob.ss p) 27 20 false).same (SObj.cells (Prob.ss p) 27 20 false) ∧ (SObj.map SId.sit (SId.i .i64) true [] ([0, 0, 0, 0, 0, 0, 0, 0, 0, 0, 0, 0, 0], true) true).same (SObj.map SId.sit (SId.i .i64) true [] ([0, 0, 0, 0, 0, 0, 0, 0, 0, 0, 0, 0, 0], true) true) ∧ (SObj.cells [SV.si .i64 p.supply.a0, SV.si .i64 p.supply.a1, SV.si .i64 p.supply.a2, SV.si .i64 p.supply.a3, SV.si .i64 p.supply.a4, SV.si .i64 p.supply.a5, SV.si .i64 p.opn.a0, SV.si .i64 p.opn.a1, SV.si .i64 p.opn.a2, SV.si .i64 p.opn.a3, SV.si .i64 p.opn.a4, SV.si .i64 p.opn.a5, SV.si .i64 p.cls.a0, SV.si .i64 p.cls.a1, SV.si .i64 p.cls.a2, SV.si .i64 p.cls.a3, SV.si .i64 p.cls.a4, SV.si .i64 p.cls.a5, SV.row (SId.i .i64) p.classes, SV.row SId.off p.offers, SV.ow 3 (byT p x (0 : Int)).length 8, SV.ow 4 (byT p x (1 : Int)).length 8, SV.ow 5 (byT p x (2 : Int)).length 8, SV.ow 6 (byT p x (3 : Int)).length 8, SV.ow 7 (byT p x (4 : Int) ++ [Off.mk (4 : Int) (nthD p.offers x.toNat SId.off.dflt).want (nthD p.offers x.toNat SId.off.dflt).value]).length 8, SV.ow 8 (byT p x (5 : Int)).length 8, SV.ow 9 (byT p x (6 : Int)).length 8, SV.ow 10 (byT p x (7 : Int)).length 8, SV.mp 1] 174 29 false).same (SObj.cells [SV.si .i64 p.supply.a0, SV.si .i64 p.supply.a1, SV.si .i64 p.supply.a2, SV.si .i64 p.supply.a3, SV.si .i64 p.supply.a4, SV.si .i64 p.supply.a5, SV.si .i64 p.opn.a0, SV.si .i64 p.opn.a1, SV.si .i64 p.opn.a2, SV.si .i64 p.opn.a3, SV.si .i64 p.opn.a4, SV.si .i64 p.opn.a5, SV.si .i64 p.cls.a0, SV.si .i64 p.cls.a1, SV.si .i64 p.cls.a2, SV.si .i64 p.cls.a3, SV.si .i64 p.cls.a4, SV.si .i64 p.cls.a5, SV.row (SId.i .i64) p.classes, SV.row SId.off p.offers, SV.ow 3 (byT p (x + (1 : Int)) (0 : Int)).length 8, SV.ow 4 (byT p (x + (1 : Int)) (1 : Int)).length 8, SV.ow 5 (byT p (x + (1 : Int)) (2 : Int)).length 8, SV.ow 6 (byT p (x + (1 : Int)) (3 : Int)).length 8, SV.ow 7 (byT p (x + (1 : Int)) (4 : Int)).length 8, SV.ow 8 (byT p (x + (1 : Int)) (5 : Int)).length 8, SV.ow 9 (byT p (x + (1 : Int)) (6 : Int)).length 8, SV.ow 10 (byT p (x + (1 : Int)) (7 : Int)).length 8, SV.mp 1] 174 29 false) ∧ (SObj.row SId.off (byT p x (0 : Int)) 43 true).same (SObj.row SId.off (byT p (x + (1 : Int)) (0 : Int)) 43 true) ∧ (SObj.row SId.off (byT p x (1 : Int)) 43 true).same (SObj.row SId.off (byT p (x + (1 : Int)) (1 : Int)) 43 true) ∧ (SObj.row SId.off (byT p x (2 : Int)) 43 true).same (SObj.row SId.off (byT p (x + (1 : Int)) (2 : Int)) 43 true) ∧ (SObj.row SId.off (byT p x (3 : Int)) 43 true).same (SObj.row SId.off (byT p (x + (1 : Int)) (3 : Int)) 43 true) ∧ (SObj.row SId.off (byT p x (4 : Int) ++ [Off.mk (4 : Int) (nthD p.offers x.toNat SId.off.dflt).want (nthD p.offers x.toNat SId.off.dflt).value]) 43 true).same (SObj.row SId.off (byT p (x + (1 : Int)) (4 : Int)) 43 true) ∧ (SObj.row SId.off (byT p x (5 : Int)) 43 true).same (SObj.row SId.off (byT p (x + (1 : Int)) (5 : Int)) 43 true) ∧ (SObj.row SId.off (byT p x (6 : Int)) 43 true).same (SObj.row SId.off (byT p (x + (1 : Int)) (6 : Int)) 43 true) ∧ (SObj.row SId.off (byT p x (7 : Int)) 43 true).same (SObj.row SId.off (byT p (x + (1 : Int)) (7 : Int)) 43 true) ∧ True) ∧ ((0 : Int) ≤ x + (1 : Int) ∧ x + (1 : Int) ≤ (↑p.offers.length : Int)) ∧ ((↑p.offers.length : Int) - (x + (1 : Int))).toNat < ((↑p.offers.length : Int) - x).toNat) ∧ ((nthD p.offers x.toNat SId.off.dflt).bidder = (5 : Int) → 1 = 1 ∧ (byT p x (5 : Int)).length = (byT p x (5 : Int)).length ∧ ((byT p x (5 : Int)).length + 1) * 64 ≤ 140737488355328 ∧ (byT p x (5 : Int)).length + 1 ≤ 1000000000000 ∧ inR .i64 (x + (1 : Int)) ∧ (((SV.ptr 2 0 29).same (SV.ptr 2 0 29) ∧ (SV.row SId.off p.offers).same (SV.row SId.off p.offers) ∧ (SV.si .i64 (↑p.offers.length : Int)).same (SV.si .i64 (↑p.offers.length : Int)) ∧ (SV.si .i64 (x + (1 : Int))).same (SV.si .i64 (x + (1 : Int))) ∧ True) ∧ (SObj.cells (Prob.ss p) 27 20 false).same (SObj.cells (Prob.ss p) 27 20 false) ∧ (SObj.map SId.sit (SId.i .i64) true [] ([0, 0, 0, 0, 0, 0, 0, 0, 0, 0, 0, 0, 0], true) true).same (SObj.map SId.sit (SId.i .i64) true [] ([0, 0, 0, 0, 0, 0, 0, 0, 0, 0, 0, 0, 0], true) true) ∧ (SObj.cells [SV.si .i64 p.supply.a0, SV.si .i64 p.supply.a1, SV.si .i64 p.supply.a2, SV.si .i64 p.supply.a3, SV.si .i64 p.supply.a4, SV.si .i64 p.supply.a5, SV.si .i64 p.opn.a0, SV.si .i64 p.opn.a1, SV.si .i64 p.opn.a2, SV.si .i64 p.opn.a3, SV.si .i64 p.opn.a4, SV.si .i64 p.opn.a5, SV.si .i64 p.cls.a0, SV.si .i64 p.cls.a1, SV.si .i64 p.cls.a2, SV.si .i64 p.cls.a3, SV.si .i64 p.cls.a4, SV.si .i64 p.cls.a5, SV.row (SId.i .i64) p.classes, SV.row SId.off p.offers, SV.ow 3 (byT p x (0 : Int)).length 8, SV.ow 4 (byT p x (1 : Int)).length 8, SV.ow 5 (byT p x (2 : Int)).length 8, SV.ow 6 (byT p x (3 : Int)).length 8, SV.ow 7 (byT p x (4 : Int)).length 8, SV.ow 8 (byT p x (5 : Int) ++ [Off.mk (5 : Int) (nthD p.offers x.toNat SId.off.dflt).want (nthD p.offers x.toNat SId.off.dflt).value]).length 8, SV.ow 9 (byT p x (6 : Int)).length 8, SV.ow 10 (byT p x (7 : Int)).length 8, SV.mp 1] 174 29 false).same (SObj.cells [SV.si .i64 p.supply.a0, SV.si .i64 p.supply.a1, SV.si .i64 p.supply.a2, SV.si .i64 p.supply.a3, SV.si .i64 p.supply.a4, SV.si .i64 p.supply.a5, SV.si .i64 p.opn.a0, SV.si .i64 p.opn.a1, SV.si .i64 p.opn.a2, SV.si .i64 p.opn.a3, SV.si .i64 p.opn.a4, SV.si .i64 p.opn.a5, SV.si .i64 p.cls.a0, SV.si .i64 p.cls.a1, SV.si .i64 p.cls.a2, SV.si .i64 p.cls.a3, SV.si .i64 p.cls.a4, SV.si .i64 p.cls.a5, SV.row (SId.i .i64) p.classes, SV.row SId.off p.offers, SV.ow 3 (byT p (x + (1 : Int)) (0 : Int)).length 8, SV.ow 4 (byT p (x + (1 : Int)) (1 : Int)).length 8, SV.ow 5 (byT p (x + (1 : Int)) (2 : Int)).length 8, SV.ow 6 (byT p (x + (1 : Int)) (3 : Int)).length 8, SV.ow 7 (byT p (x + (1 : Int)) (4 : Int)).length 8, SV.ow 8 (byT p (x + (1 : Int)) (5 : Int)).length 8, SV.ow 9 (byT p (x + (1 : Int)) (6 : Int)).length 8, SV.ow 10 (byT p (x + (1 : Int)) (7 : Int)).length 8, SV.mp 1] 174 29 false) ∧ (SObj.row SId.off (byT p x (0 : Int)) 43 true).same (SObj.row SId.off (byT p (x + (1 : Int)) (0 : Int)) 43 true) ∧ (SObj.row SId.off (byT p x (1 : Int)) 43 true).same (SObj.row SId.off (byT p (x + (1 : Int)) (1 : Int)) 43 true) ∧ (SObj.row SId.off (byT p x (2 : Int)) 43 true).same (SObj.row SId.off (byT p (x + (1 : Int)) (2 : Int)) 43 true) ∧ (SObj.row SId.off (byT p x (3 : Int)) 43 true).same (SObj.row SId.off (byT p (x + (1 : Int)) (3 : Int)) 43 true) ∧ (SObj.row SId.off (byT p x (4 : Int)) 43 true).same (SObj.row SId.off (byT p (x + (1 : Int)) (4 : Int)) 43 true) ∧ (SObj.row SId.off (byT p x (5 : Int) ++ [Off.mk (5 : Int) (nthD p.offers x.toNat SId.off.dflt).want (nthD p.offers x.toNat SId.off.dflt).value]) 43 true).same (SObj.row SId.off (byT p (x + (1 : Int)) (5 : Int)) 43 true) ∧ (SObj.row SId.off (byT p x (6 : Int)) 43 true).same (SObj.row SId.off (byT p (x + (1 : Int)) (6 : Int)) 43 true) ∧ (SObj.row SId.off (byT p x (7 : Int)) 43 true).same (SObj.row SId.off (byT p (x + (1 : Int)) (7 : Int)) 43 true) ∧ True) ∧ ((0 : Int) ≤ x + (1 : Int) ∧ x + (1 : Int) ≤ (↑p.offers.length : Int)) ∧ ((↑p.offers.length : Int) - (x + (1 : Int))).toNat < ((↑p.offers.length : Int) - x).toNat) ∧ ((nthD p.offers x.toNat SId.off.dflt).bidder = (6 : Int) → 1 = 1 ∧ (byT p x (6 : Int)).length = (byT p x (6 : Int)).length ∧ ((byT p x (6 : Int)).length + 1) * 64 ≤ 140737488355328 ∧ (byT p x (6 : Int)).length + 1 ≤ 1000000000000 ∧ inR .i64 (x + (1 : Int)) ∧ (((SV.ptr 2 0 29).same (SV.ptr 2 0 29) ∧ (SV.row SId.off p.offers).same (SV.row SId.off p.offers) ∧ (SV.si .i64 (↑p.offers.length : Int)).same (SV.si .i64 (↑p.offers.length : Int)) ∧ (SV.si .i64 (x + (1 : Int))).same (SV.si .i64 (x + (1 : Int))) ∧ True) ∧ (SObj.cells (Prob.ss p) 27 20 false).same (SObj.cells (Prob.ss p) 27 20 false) ∧ (SObj.map SId.sit (SId.i .i64) true [] ([0, 0, 0, 0, 0, 0, 0, 0, 0, 0, 0, 0, 0], true) true).same (SObj.map SId.sit (SId.i .i64) true [] ([0, 0, 0, 0, 0, 0, 0, 0, 0, 0, 0, 0, 0], true) true) ∧ (SObj.cells [SV.si .i64 p.supply.a0, SV.si .i64 p.supply.a1, SV.si .i64 p.supply.a2, SV.si .i64 p.supply.a3, SV.si .i64 p.supply.a4, SV.si .i64 p.supply.a5, SV.si .i64 p.opn.a0, SV.si .i64 p.opn.a1, SV.si .i64 p.opn.a2, SV.si .i64 p.opn.a3, SV.si .i64 p.opn.a4, SV.si .i64 p.opn.a5, SV.si .i64 p.cls.a0, SV.si .i64 p.cls.a1, SV.si .i64 p.cls.a2, SV.si .i64 p.cls.a3, SV.si .i64 p.cls.a4, SV.si .i64 p.cls.a5, SV.row (SId.i .i64) p.classes, SV.row SId.off p.offers, SV.ow 3 (byT p x (0 : Int)).length 8, SV.ow 4 (byT p x (1 : Int)).length 8, SV.ow 5 (byT p x (2 : Int)).length 8, SV.ow 6 (byT p x (3 : Int)).length 8, SV.ow 7 (byT p x (4 : Int)).length 8, SV.ow 8 (byT p x (5 : Int)).length 8, SV.ow 9 (byT p x (6 : Int) ++ [Off.mk (6 : Int) (nthD p.offers x.toNat SId.off.dflt).want (nthD p.offers x.toNat SId.off.dflt).value]).length 8, SV.ow 10 (byT p x (7 : Int)).length 8, SV.mp 1] 174 29 false).same (SObj.cells [SV.si .i64 p.supply.a0, SV.si .i64 p.supply.a1, SV.si .i64 p.supply.a2, SV.si .i64 p.supply.a3, SV.si .i64 p.supply.a4, SV.si .i64 p.supply.a5, SV.si .i64 p.opn.a0, SV.si .i64 p.opn.a1, SV.si .i64 p.opn.a2, SV.si .i64 p.opn.a3, SV.si .i64 p.opn.a4, SV.si .i64 p.opn.a5, SV.si .i64 p.cls.a0, SV.si .i64 p.cls.a1, SV.si .i64 p.cls.a2, SV.si .i64 p.cls.a3, SV.si .i64 p.cls.a4, SV.si .i64 p.cls.a5, SV.row (SId.i .i64) p.classes, SV.row SId.off p.offers, SV.ow 3 (byT p (x + (1 : Int)) (0 : Int)).length 8, SV.ow 4 (byT p (x + (1 : Int)) (1 : Int)).length 8, SV.ow 5 (byT p (x + (1 : Int)) (2 : Int)).length 8, SV.ow 6 (byT p (x + (1 : Int)) (3 : Int)).length 8, SV.ow 7 (byT p (x + (1 : Int)) (4 : Int)).length 8, SV.ow 8 (byT p (x + (1 : Int)) (5 : Int)).length 8, SV.ow 9 (byT p (x + (1 : Int)) (6 : Int)).length 8, SV.ow 10 (byT p (x + (1 : Int)) (7 : Int)).length 8, SV.mp 1] 174 29 false) ∧ (SObj.row SId.off (byT p x (0 : Int)) 43 true).same (SObj.row SId.off (byT p (x + (1 : Int)) (0 : Int)) 43 true) ∧ (SObj.row SId.off (byT p x (1 : Int)) 43 true).same (SObj.row SId.off (byT p (x + (1 : Int)) (1 : Int)) 43 true) ∧ (SObj.row SId.off (byT p x (2 : Int)) 43 true).same (SObj.row SId.off (byT p (x + (1 : Int)) (2 : Int)) 43 true) ∧ (SObj.row SId.off (byT p x (3 : Int)) 43 true).same (SObj.row SId.off (byT p (x + (1 : Int)) (3 : Int)) 43 true) ∧ (SObj.row SId.off (byT p x (4 : Int)) 43 true).same (SObj.row SId.off (byT p (x + (1 : Int)) (4 : Int)) 43 true) ∧ (SObj.row SId.off (byT p x (5 : Int)) 43 true).same (SObj.row SId.off (byT p (x + (1 : Int)) (5 : Int)) 43 true) ∧ (SObj.row SId.off (byT p x (6 : Int) ++ [Off.mk (6 : Int) (nthD p.offers x.toNat SId.off.dflt).want (nthD p.offers x.toNat SId.off.dflt).value]) 43 true).same (SObj.row SId.off (byT p (x + (1 : Int)) (6 : Int)) 43 true) ∧ (SObj.row SId.off (byT p x (7 : Int)) 43 true).same (SObj.row SId.off (byT p (x + (1 : Int)) (7 : Int)) 43 true) ∧ True) ∧ ((0 : Int) ≤ x + (1 : Int) ∧ x + (1 : Int) ≤ (↑p.offers.length : Int)) ∧ ((↑p.offers.length : Int) - (x + (1 : Int))).toNat < ((↑p.offers.length : Int) - x).toNat) ∧ ((nthD p.offers x.toNat SId.off.dflt).bidder = (7 : Int) → 1 = 1 ∧ (byT p x (7 : Int)).length = (byT p x (7 : Int)).length ∧ ((byT p x (7 : Int)).length + 1) * 64 ≤ 140737488355328 ∧ (byT p x (7 : Int)).length + 1 ≤ 1000000000000 ∧ inR .i64 (x + (1 : Int)) ∧ (((SV.ptr 2 0 29).same (SV.ptr 2 0 29) ∧ (SV.row SId.off p.offers).same (SV.row SId.off p.offers) ∧ (SV.si .i64 (↑p.offers.length : Int)).same (SV.si .i64 (↑p.offers.length : Int)) ∧ (SV.si .i64 (x + (1 : Int))).same (SV.si .i64 (x + (1 : Int))) ∧ True) ∧ (SObj.cells (Prob.ss p) 27 20 false).same (SObj.cells (Prob.ss p) 27 20 false) ∧ (SObj.map SId.sit (SId.i .i64) true [] ([0, 0, 0, 0, 0, 0, 0, 0, 0, 0, 0, 0, 0], true) true).same (SObj.map SId.sit (SId.i .i64) true [] ([0, 0, 0, 0, 0, 0, 0, 0, 0, 0, 0, 0, 0], true) true) ∧ (SObj.cells [SV.si .i64 p.supply.a0, SV.si .i64 p.supply.a1, SV.si .i64 p.supply.a2, SV.si .i64 p.supply.a3, SV.si .i64 p.supply.a4, SV.si .i64 p.supply.a5, SV.si .i64 p.opn.a0, SV.si .i64 p.opn.a1, SV.si .i64 p.opn.a2, SV.si .i64 p.opn.a3, SV.si .i64 p.opn.a4, SV.si .i64 p.opn.a5, SV.si .i64 p.cls.a0, SV.si .i64 p.cls.a1, SV.si .i64 p.cls.a2, SV.si .i64 p.cls.a3, SV.si .i64 p.cls.a4, SV.si .i64 p.cls.a5, SV.row (SId.i .i64) p.classes, SV.row SId.off p.offers, SV.ow 3 (byT p x (0 : Int)).length 8, SV.ow 4 (byT p x (1 : Int)).length 8, SV.ow 5 (byT p x (2 : Int)).length 8, SV.ow 6 (byT p x (3 : Int)).length 8, SV.ow 7 (byT p x (4 : Int)).length 8, SV.ow 8 (byT p x (5 : Int)).length 8, SV.ow 9 (byT p x (6 : Int)).length 8, SV.ow 10 (byT p x (7 : Int) ++ [Off.mk (7 : Int) (nthD p.offers x.toNat SId.off.dflt).want (nthD p.offers x.toNat SId.off.dflt).value]).length 8, SV.mp 1] 174 29 false).same (SObj.cells [SV.si .i64 p.supply.a0, SV.si .i64 p.supply.a1, SV.si .i64 p.supply.a2, SV.si .i64 p.supply.a3, SV.si .i64 p.supply.a4, SV.si .i64 p.supply.a5, SV.si .i64 p.opn.a0, SV.si .i64 p.opn.a1, SV.si .i64 p.opn.a2, SV.si .i64 p.opn.a3, SV.si .i64 p.opn.a4, SV.si .i64 p.opn.a5, SV.si .i64 p.cls.a0, SV.si .i64 p.cls.a1, SV.si .i64 p.cls.a2, SV.si .i64 p.cls.a3, SV.si .i64 p.cls.a4, SV.si .i64 p.cls.a5, SV.row (SId.i .i64) p.classes, SV.row SId.off p.offers, SV.ow 3 (byT p (x + (1 : Int)) (0 : Int)).length 8, SV.ow 4 (byT p (x + (1 : Int)) (1 : Int)).length 8, SV.ow 5 (byT p (x + (1 : Int)) (2 : Int)).length 8, SV.ow 6 (byT p (x + (1 : Int)) (3 : Int)).length 8, SV.ow 7 (byT p (x + (1 : Int)) (4 : Int)).length 8, SV.ow 8 (byT p (x + (1 : Int)) (5 : Int)).length 8, SV.ow 9 (byT p (x + (1 : Int)) (6 : Int)).length 8, SV.ow 10 (byT p (x + (1 : Int)) (7 : Int)).length 8, SV.mp 1] 174 29 false) ∧ (SObj.row SId.off (byT p x (0 : Int)) 43 true).same (SObj.row SId.off (byT p (x + (1 : Int)) (0 : Int)) 43 true) ∧ (SObj.row SId.off (byT p x (1 : Int)) 43 true).same (SObj.row SId.off (byT p (x + (1 : Int)) (1 : Int)) 43 true) ∧ (SObj.row SId.off (byT p x (2 : Int)) 43 true).same (SObj.row SId.off (byT p (x + (1 : Int)) (2 : Int)) 43 true) ∧ (SObj.row SId.off (byT p x (3 : Int)) 43 true).same (SObj.row SId.off (byT p (x + (1 : Int)) (3 : Int)) 43 true) ∧ (SObj.row SId.off (byT p x (4 : Int)) 43 true).same (SObj.row SId.off (byT p (x + (1 : Int)) (4 : Int)) 43 true) ∧ (SObj.row SId.off (byT p x (5 : Int)) 43 true).same (SObj.row SId.off (byT p (x + (1 : Int)) (5 : Int)) 43 true) ∧ (SObj.row SId.off (byT p x (6 : Int)) 43 true).same (SObj.row SId.off (byT p (x + (1 : Int)) (6 : Int)) 43 true) ∧ (SObj.row SId.off (byT p x (7 : Int) ++ [Off.mk (7 : Int) (nthD p.offers x.toNat SId.off.dflt).want (nthD p.offers x.toNat SId.off.dflt).value]) 43 true).same (SObj.row SId.off (byT p (x + (1 : Int)) (7 : Int)) 43 true) ∧ True) ∧ ((0 : Int) ≤ x + (1 : Int) ∧ x + (1 : Int) ≤ (↑p.offers.length : Int)) ∧ ((↑p.offers.length : Int) - (x + (1 : Int))).toNat < ((↑p.offers.length : Int) - x).toNat) ∧ (0 : Int) ≤ (nthD p.offers x.toNat SId.off.dflt).bidder ∧ (nthD p.offers x.toNat SId.off.dflt).bidder < (8 : Int)) ∧ (decide (x < (↑p.offers.length : Int)) = false → (byT p x (0 : Int)).length = (byT p x (0 : Int)).length ∧ (byT p x (1 : Int)).length = (byT p x (1 : Int)).length ∧ (byT p x (2 : Int)).length = (byT p x (2 : Int)).length ∧ (byT p x (3 : Int)).length = (byT p x (3 : Int)).length ∧ (byT p x (4 : Int)).length = (byT p x (4 : Int)).length ∧ (byT p x (5 : Int)).length = (byT p x (5 : Int)).length ∧ (byT p x (6 : Int)).length = (byT p x (6 : Int)).length ∧ (byT p x (7 : Int)).length = (byT p x (7 : Int)).length ∧ (SV.ptr 0 0 29).same (SV.ptr 0 0 29) ∧ (SObj.cells [SV.si .i64 p.supply.a0, SV.si .i64 p.supply.a1, SV.si .i64 p.supply.a2, SV.si .i64 p.supply.a3, SV.si .i64 p.supply.a4, SV.si .i64 p.supply.a5, SV.si .i64 p.opn.a0, SV.si .i64 p.opn.a1, SV.si .i64 p.opn.a2, SV.si .i64 p.opn.a3, SV.si .i64 p.opn.a4, SV.si .i64 p.opn.a5, SV.si .i64 p.cls.a0, SV.si .i64 p.cls.a1, SV.si .i64 p.cls.a2, SV.si .i64 p.cls.a3, SV.si .i64 p.cls.a4, SV.si .i64 p.cls.a5, SV.row (SId.i .i64) p.classes, SV.row SId.off p.offers, SV.row SId.off (byT p x (0 : Int)), SV.row SId.off (byT p x (1 : Int)), SV.row SId.off (byT p x (2 : Int)), SV.row SId.off (byT p x (3 : Int)), SV.row SId.off (byT p x (4 : Int)), SV.row SId.off (byT p x (5 : Int)), SV.row SId.off (byT p x (6 : Int)), SV.row SId.off (byT p x (7 : Int)), SV.mp 1] 174 29 false).same (SObj.cells [SV.si .i64 p.supply.a0, SV.si .i64 p.supply.a1, SV.si .i64 p.supply.a2, SV.si .i64 p.supply.a3, SV.si .i64 p.supply.a4, SV.si .i64 p.supply.a5, SV.si .i64 p.opn.a0, SV.si .i64 p.opn.a1, SV.si .i64 p.opn.a2, SV.si .i64 p.opn.a3, SV.si .i64 p.opn.a4, SV.si .i64 p.opn.a5, SV.si .i64 p.cls.a0, SV.si .i64 p.cls.a1, SV.si .i64 p.cls.a2, SV.si .i64 p.cls.a3, SV.si .i64 p.cls.a4, SV.si .i64 p.cls.a5, SV.row (SId.i .i64) p.classes, SV.row SId.off p.offers, SV.row SId.off (L8.of p).l0, SV.row SId.off (L8.of p).l1, SV.row SId.off (L8.of p).l2, SV.row SId.off (L8.of p).l3, SV.row SId.off (L8.of p).l4, SV.row SId.off (L8.of p).l5, SV.row SId.off (L8.of p).l6, SV.row SId.off (L8.of p).l7, SV.mp 1] 174 29 false) ∧ (SObj.map SId.sit (SId.i .i64) true [] ([0, 0, 0, 0, 0, 0, 0, 0, 0, 0, 0, 0, 0], true) true).same (SObj.map SId.sit (SId.i .i64) true [] ([0, 0, 0, 0, 0, 0, 0, 0, 0, 0, 0, 0, 0], true) true) ∧ True)) (by kernel_rfl) ?_
  try simp only [decide_eq_true_eq, decide_eq_false_iff_not, same_il_si, same_si_si, same_si_il, same_il_il, same_sb_sb, same_bl_sb, same_row, same_tup2, same_tup3, same_nil, same_row_nil, same_rfl, osame_rfl, inR_i64, eq_self, true_and, and_true, Bool.and_eq_true, Bool.not_eq_true', Bool.not_eq_false']
  have hz : ∀ j, byT p 0 j = [] := fun j => rfl
  have hlen : ∀ i j, (byT p i j).length ≤ 160 := fun i j => by
    have h1 := List.length_filter_le (fun x : Off => decide (x.bidder = j)) (p.offers.take i.toNat)
    have h2 := hp.2.1
    simp only [List.length_take] at h1
    unfold byT
    omega
  have h160 := hp.2.1
  refine ⟨⟨by simp only [hz]; exact ⟨rfl, rfl, rfl, rfl, rfl, rfl, rfl, rfl, rfl⟩, by omega, by omega⟩, ?_⟩
  rintro i ⟨hi0, hi1⟩
  refine ⟨fun hlt => ⟨hi0, hlt, by omega, ?c0, ?c1, ?c2, ?c3, ?c4, ?c5, ?c6, ?c7, ?cb⟩, fun hge => ?ce⟩
  case c0 =>
    intro hb
    have hx : (⟨0, (nthD p.offers i.toNat SId.off.dflt).want, (nthD p.offers i.toNat SId.off.dflt).value⟩ : Off) = nthD p.offers i.toNat SId.off.dflt := by rw [← hb]
    simp only [hx]
    rw [byT_hit (j := 0) hi0 hlt hb]
    rw [byT_miss (j := 1) hi0 hlt (by rw [hb]; decide)]
    rw [byT_miss (j := 2) hi0 hlt (by rw [hb]; decide)]
    rw [byT_miss (j := 3) hi0 hlt (by rw [hb]; decide)]
    rw [byT_miss (j := 4) hi0 hlt (by rw [hb]; decide)]
    rw [byT_miss (j := 5) hi0 hlt (by rw [hb]; decide)]
    rw [byT_miss (j := 6) hi0 hlt (by rw [hb]; decide)]
    rw [byT_miss (j := 7) hi0 hlt (by rw [hb]; decide)]
    have hl := hlen i 0
    exact ⟨by omega, by omega, by omega, ⟨rfl, rfl, rfl, rfl, rfl, rfl, rfl, rfl, rfl⟩, by omega, by omega⟩
  case c1 =>
    intro hb
    have hx : (⟨1, (nthD p.offers i.toNat SId.off.dflt).want, (nthD p.offers i.toNat SId.off.dflt).value⟩ : Off) = nthD p.offers i.toNat SId.off.dflt := by rw [← hb]
    simp only [hx]
    rw [byT_miss (j := 0) hi0 hlt (by rw [hb]; decide)]
    rw [byT_hit (j := 1) hi0 hlt hb]
    rw [byT_miss (j := 2) hi0 hlt (by rw [hb]; decide)]
    rw [byT_miss (j := 3) hi0 hlt (by rw [hb]; decide)]
    rw [byT_miss (j := 4) hi0 hlt (by rw [hb]; decide)]
    rw [byT_miss (j := 5) hi0 hlt (by rw [hb]; decide)]
    rw [byT_miss (j := 6) hi0 hlt (by rw [hb]; decide)]
    rw [byT_miss (j := 7) hi0 hlt (by rw [hb]; decide)]
    have hl := hlen i 1
    exact ⟨by omega, by omega, by omega, ⟨rfl, rfl, rfl, rfl, rfl, rfl, rfl, rfl, rfl⟩, by omega, by omega⟩
  case c2 =>
    intro hb
    have hx : (⟨2, (nthD p.offers i.toNat SId.off.dflt).want, (nthD p.offers i.toNat SId.off.dflt).value⟩ : Off) = nthD p.offers i.toNat SId.off.dflt := by rw [← hb]
    simp only [hx]
    rw [byT_miss (j := 0) hi0 hlt (by rw [hb]; decide)]
    rw [byT_miss (j := 1) hi0 hlt (by rw [hb]; decide)]
    rw [byT_hit (j := 2) hi0 hlt hb]
    rw [byT_miss (j := 3) hi0 hlt (by rw [hb]; decide)]
    rw [byT_miss (j := 4) hi0 hlt (by rw [hb]; decide)]
    rw [byT_miss (j := 5) hi0 hlt (by rw [hb]; decide)]
    rw [byT_miss (j := 6) hi0 hlt (by rw [hb]; decide)]
    rw [byT_miss (j := 7) hi0 hlt (by rw [hb]; decide)]
    have hl := hlen i 2
    exact ⟨by omega, by omega, by omega, ⟨rfl, rfl, rfl, rfl, rfl, rfl, rfl, rfl, rfl⟩, by omega, by omega⟩
  case c3 =>
    intro hb
    have hx : (⟨3, (nthD p.offers i.toNat SId.off.dflt).want, (nthD p.offers i.toNat SId.off.dflt).value⟩ : Off) = nthD p.offers i.toNat SId.off.dflt := by rw [← hb]
    simp only [hx]
    rw [byT_miss (j := 0) hi0 hlt (by rw [hb]; decide)]
    rw [byT_miss (j := 1) hi0 hlt (by rw [hb]; decide)]
    rw [byT_miss (j := 2) hi0 hlt (by rw [hb]; decide)]
    rw [byT_hit (j := 3) hi0 hlt hb]
    rw [byT_miss (j := 4) hi0 hlt (by rw [hb]; decide)]
    rw [byT_miss (j := 5) hi0 hlt (by rw [hb]; decide)]
    rw [byT_miss (j := 6) hi0 hlt (by rw [hb]; decide)]
    rw [byT_miss (j := 7) hi0 hlt (by rw [hb]; decide)]
    have hl := hlen i 3
    exact ⟨by omega, by omega, by omega, ⟨rfl, rfl, rfl, rfl, rfl, rfl, rfl, rfl, rfl⟩, by omega, by omega⟩
  case c4 =>
    intro hb
    have hx : (⟨4, (nthD p.offers i.toNat SId.off.dflt).want, (nthD p.offers i.toNat SId.off.dflt).value⟩ : Off) = nthD p.offers i.toNat SId.off.dflt := by rw [← hb]
    simp only [hx]
    rw [byT_miss (j := 0) hi0 hlt (by rw [hb]; decide)]
    rw [byT_miss (j := 1) hi0 hlt (by rw [hb]; decide)]
    rw [byT_miss (j := 2) hi0 hlt (by rw [hb]; decide)]
    rw [byT_miss (j := 3) hi0 hlt (by rw [hb]; decide)]
    rw [byT_hit (j := 4) hi0 hlt hb]
    rw [byT_miss (j := 5) hi0 hlt (by rw [hb]; decide)]
    rw [byT_miss (j := 6) hi0 hlt (by rw [hb]; decide)]
    rw [byT_miss (j := 7) hi0 hlt (by rw [hb]; decide)]
    have hl := hlen i 4
    exact ⟨by omega, by omega, by omega, ⟨rfl, rfl, rfl, rfl, rfl, rfl, rfl, rfl, rfl⟩, by omega, by omega⟩
  case c5 =>
    intro hb
    have hx : (⟨5, (nthD p.offers i.toNat SId.off.dflt).want, (nthD p.offers i.toNat SId.off.dflt).value⟩ : Off) = nthD p.offers i.toNat SId.off.dflt := by rw [← hb]
    simp only [hx]
    rw [byT_miss (j := 0) hi0 hlt (by rw [hb]; decide)]
    rw [byT_miss (j := 1) hi0 hlt (by rw [hb]; decide)]
    rw [byT_miss (j := 2) hi0 hlt (by rw [hb]; decide)]
    rw [byT_miss (j := 3) hi0 hlt (by rw [hb]; decide)]
    rw [byT_miss (j := 4) hi0 hlt (by rw [hb]; decide)]
    rw [byT_hit (j := 5) hi0 hlt hb]
    rw [byT_miss (j := 6) hi0 hlt (by rw [hb]; decide)]
    rw [byT_miss (j := 7) hi0 hlt (by rw [hb]; decide)]
    have hl := hlen i 5
    exact ⟨by omega, by omega, by omega, ⟨rfl, rfl, rfl, rfl, rfl, rfl, rfl, rfl, rfl⟩, by omega, by omega⟩
  case c6 =>
    intro hb
    have hx : (⟨6, (nthD p.offers i.toNat SId.off.dflt).want, (nthD p.offers i.toNat SId.off.dflt).value⟩ : Off) = nthD p.offers i.toNat SId.off.dflt := by rw [← hb]
    simp only [hx]
    rw [byT_miss (j := 0) hi0 hlt (by rw [hb]; decide)]
    rw [byT_miss (j := 1) hi0 hlt (by rw [hb]; decide)]
    rw [byT_miss (j := 2) hi0 hlt (by rw [hb]; decide)]
    rw [byT_miss (j := 3) hi0 hlt (by rw [hb]; decide)]
    rw [byT_miss (j := 4) hi0 hlt (by rw [hb]; decide)]
    rw [byT_miss (j := 5) hi0 hlt (by rw [hb]; decide)]
    rw [byT_hit (j := 6) hi0 hlt hb]
    rw [byT_miss (j := 7) hi0 hlt (by rw [hb]; decide)]
    have hl := hlen i 6
    exact ⟨by omega, by omega, by omega, ⟨rfl, rfl, rfl, rfl, rfl, rfl, rfl, rfl, rfl⟩, by omega, by omega⟩
  case c7 =>
    intro hb
    have hx : (⟨7, (nthD p.offers i.toNat SId.off.dflt).want, (nthD p.offers i.toNat SId.off.dflt).value⟩ : Off) = nthD p.offers i.toNat SId.off.dflt := by rw [← hb]
    simp only [hx]
    rw [byT_miss (j := 0) hi0 hlt (by rw [hb]; decide)]
    rw [byT_miss (j := 1) hi0 hlt (by rw [hb]; decide)]
    rw [byT_miss (j := 2) hi0 hlt (by rw [hb]; decide)]
    rw [byT_miss (j := 3) hi0 hlt (by rw [hb]; decide)]
    rw [byT_miss (j := 4) hi0 hlt (by rw [hb]; decide)]
    rw [byT_miss (j := 5) hi0 hlt (by rw [hb]; decide)]
    rw [byT_miss (j := 6) hi0 hlt (by rw [hb]; decide)]
    rw [byT_hit (j := 7) hi0 hlt hb]
    have hl := hlen i 7
    exact ⟨by omega, by omega, by omega, ⟨rfl, rfl, rfl, rfl, rfl, rfl, rfl, rfl, rfl⟩, by omega, by omega⟩
  case cb =>
    have hv := hp.2.2.2.2 _ (nthD_mem (d := SId.off.dflt) (show i.toNat < p.offers.length by omega))
    have := hp.1
    exact ⟨hv.1, by omega⟩
  case ce =>
    have hb : ∀ j, byT p i j = byB p j := fun j => by unfold byT byB; rw [show i.toNat = p.offers.length from by omega, List.take_length]
    simp only [hb]
    rfl

end Go.Vi
/-
  Contracts: the worth of a coalition, the deal of an allocation.
  Conditions: none.
-/
set_option maxRecDepth 100000
set_option maxHeartbeats 4000000
set_option linter.unusedSimpArgs false
set_option linter.unusedVariables false
namespace Go.Vi
open Go.Proofs.Ytigbjjkijfkeeaa.Ir
open Go.Proofs

theorem good_of {p : Prob} (h : checkE p = 0) : Good p := by
  obtain ⟨hf, ho⟩ := check_zero h
  obtain ⟨f1, f2, f3, f4, f5⟩ := frame_zero hf
  refine ⟨f3, f4, f1, ?_, fun x hx => ?_⟩
  · have hs := Bun.ok_iff.1 f1
    have g0 := prodOk_iff.1 (f2 0 (by omega))
    have g1 := prodOk_iff.1 (f2 1 (by omega))
    have g2 := prodOk_iff.1 (f2 2 (by omega))
    have g3 := prodOk_iff.1 (f2 3 (by omega))
    have g4 := prodOk_iff.1 (f2 4 (by omega))
    have g5 := prodOk_iff.1 (f2 5 (by omega))
    simp [nthD] at g0 g1 g2 g3 g4 g5
    exact Bun.ok_iff.2 (by omega)
  · have hs := simple_zero (offer_zero (ho x hx)).1
    exact ⟨hs.1, hs.2.1, hs.2.2.2.2, hs.2.2.1, hs.2.2.2.1⟩

theorem pow_n {n : Nat} (h : n ≤ 8) : (2 : Int) ^ n ≤ 256 ∧ 0 < (2 : Int) ^ n := by
  have : n = 0 ∨ n = 1 ∨ n = 2 ∨ n = 3 ∨ n = 4 ∨ n = 5 ∨ n = 6 ∨ n = 7 ∨ n = 8 := by omega
  rcases this with h | h | h | h | h | h | h | h | h <;> rw [h] <;> decide

def worthS (p : Prob) (m : Int) : Int := if faultE p m = 0 then bestS p ⟨m, p.supply, p.opn⟩ else 0

theorem worth_bd (p : Prob) (m : Int) : 0 ≤ worthS p m ∧ worthS p m ≤ 8000000 := by
  unfold worthS
  split
  · rename_i h
    have hc : checkE p = 0 := by
      unfold faultE at h
      split at h
      · rename_i h1; exact absurd h h1
      · rename_i h1; exact Classical.not_not.1 h1
    exact bestS_bd (good_of hc) _
  · omega

theorem fault_zero {p : Prob} {m : Int} (h : faultE p m = 0) : checkE p = 0 ∧ 0 ≤ m ∧ m < 2 ^ p.classes.length := by
  unfold faultE at h
  split at h
  · rename_i h1; exact absurd h h1
  · rename_i h1
    split at h
    · cases h
    · rename_i h2
      exact ⟨Classical.not_not.1 h1, by omega, by omega⟩

def r80 : SCtr := ⟨80, Prob × Int, .cons codP (.one (codI .i64)), fun _ => True, fun a => .tup [.si .i64 (worthS a.1 a.2), .si .i64 (faultE a.1 a.2)]⟩
def WB : List OCtr := [r113, r114, bestC 9]
theorem hWB : ∀ c ∈ WB, HoldsO Try.prog c := by
  simp only [WB, List.forall_mem_cons, List.not_mem_nil, false_implies, implies_true, and_true]
  exact ⟨h113, h114, hBest 9⟩

theorem h80 : Holds Try.prog r80 := by
  refine con (L := L8l) (W := ownT WB) r80 F80 (fun _ _ => .look) (ownT_ok hWB) hL8 (by kernel_rfl) (by kernel_rfl) (fun _ => rfl) ?_
  rintro ⟨p, m⟩ _
  refine vcOf (True ∧ (decide (faultE p m ≠ (0 : Int)) = true → (SV.tup [SV.il .i64 0, SV.si .i64 (faultE p m)]).same (SV.tup [SV.si .i64 (worthS p m), SV.si .i64 (faultE p m)])) ∧ (decide (faultE p m ≠ (0 : Int)) = false → Good p ∧ True ∧ ((Good p ∧ L8.of p = L8.of p ∧ SitOk (Sit.mk m p.supply p.opn) ∧ MemoOk p []) ∧ cnt m < 9) ∧ (SV.tup [SV.si .i64 (bestM p (cnt m + 1) [] (Sit.mk m p.supply p.opn)).fst, SV.il .i64 0]).same (SV.tup [SV.si .i64 (worthS p m), SV.si .i64 (faultE p m)]))) (by kernel_rfl) ?_
  simp only [decide_eq_true_eq, decide_eq_false_iff_not, same_il_si, same_si_si, same_si_il, same_il_il, same_sb_sb, same_bl_sb, same_row, same_tup2, same_tup3, same_nil, same_row_nil, same_rfl, osame_rfl, inR_i64, eq_self, true_and, and_true, Bool.and_eq_true, Bool.not_eq_true', Bool.not_eq_false']
  refine ⟨fun h => by simp [worthS, h], fun h => ?_⟩
  have hz : faultE p m = 0 := Classical.not_not.1 h
  obtain ⟨hc, h1, h2⟩ := fault_zero hz
  have hg := good_of hc
  have hp := pow_n hg.1
  have ha : SitOk ⟨m, p.supply, p.opn⟩ := ⟨h1, by simp only; omega, hg.2.2.1, hg.2.2.2.1⟩
  have hm : MemoOk p [] := fun e he => by simp at he
  have hn : cnt m < 9 := by have := @mem_len m; unfold cnt; omega
  have hb := best_ok hg (cnt m + 1) [] ⟨m, p.supply, p.opn⟩ ha hm (by simp only; omega)
  refine ⟨hg, ⟨⟨hg, ha, hm⟩, hn⟩, ?_, hz.symm⟩
  rw [hb.1]
  simp [worthS, hz]

def LB : List SCtr := r80 :: L8l
theorem hLB : ∀ c ∈ LB, Holds Try.prog c := by
  simp only [LB, List.forall_mem_cons]
  exact ⟨h80, hL8⟩

structure Deal where
  p : Prob
  values : List Int
  all : Int
  worth : Int

def codD : Cod Deal where
  put d := .agg [.si .i64 d.p.supply.a0, .si .i64 d.p.supply.a1, .si .i64 d.p.supply.a2, .si .i64 d.p.supply.a3, .si .i64 d.p.supply.a4, .si .i64 d.p.supply.a5,
   .si .i64 d.p.opn.a0, .si .i64 d.p.opn.a1, .si .i64 d.p.opn.a2, .si .i64 d.p.opn.a3, .si .i64 d.p.opn.a4, .si .i64 d.p.opn.a5,
   .si .i64 d.p.cls.a0, .si .i64 d.p.cls.a1, .si .i64 d.p.cls.a2, .si .i64 d.p.cls.a3, .si .i64 d.p.cls.a4, .si .i64 d.p.cls.a5,
   .row (.i .i64) d.p.classes, .row .off d.p.offers, .row (.i .i64) d.values, .si .i64 d.all, .si .i64 d.worth]
  dec
    | .agg [s0, s1, s2, s3, s4, s5, o0, o1, o2, o3, o4, o5, c0, c1, c2, c3, c4, c5, k, f, v, a, w] =>
      match decProb [s0, s1, s2, s3, s4, s5, o0, o1, o2, o3, o4, o5, c0, c1, c2, c3, c4, c5, k, f], decRow (.i .i64) v, a.int .i64, w.int .i64 with
      | some p, some v, some a, some w => some ⟨p, v, a, w⟩
      | _, _, _, _ => none
    | _ => none
  ok v a h := by
    split at h
    · split at h
      · rename_i h1 h2 h3 h4
        simp only [Option.some.injEq] at h; subst h
        have hp := decProb_ok h1
        simp only [Prob.ss, gL, List.cons.injEq, and_true] at hp
        simp only [SV.g, gL]
        simp only [hp, decRow_ok h2, int_g h3, int_g h4]
        rfl
      · cases h
    · cases h
  inj a b h := by
    obtain ⟨p, v, al, w⟩ := a
    obtain ⟨q, v', al', w'⟩ := b
    simp only [SV.g, gL, AV.agg.injEq, List.cons.injEq, and_true, AV.sc.injEq, Value.int.injEq, true_and] at h
    have hp : p = q := by
      apply codP.inj
      show (SV.agg p.ss).g = (SV.agg q.ss).g
      simp only [SV.g, Prob.ss, gL, AV.agg.injEq, List.cons.injEq, and_true, AV.sc.injEq, Value.int.injEq, true_and]
      simp only [h, and_self]
    subst hp
    have hv : v = v' := (codR (.i .i64)).inj _ _ (by simp only [codR, SV.g]; simp only [h])
    simp only [Deal.mk.injEq, true_and]
    exact ⟨hv, by simp only [h], by simp only [h]⟩

def allM (p : Prob) : Int := 2 ^ p.classes.length - 1
def setV (p : Prob) (v : List Int) (i : Int) : List Int := v.set (nthD p.offers i.toNat SId.off.dflt).bidder.toNat (nthD p.offers i.toNat SId.off.dflt).value
def valsS (p : Prob) (c : List Int) : List Int := c.foldl (setV p) (List.replicate p.classes.length 0)
def addV (p : Prob) (s : Int) (i : Int) : Int := s + (nthD p.offers i.toNat SId.off.dflt).value
def sumC (p : Prob) (c : List Int) : Int := c.foldl (addV p) 0

def openE (p : Prob) (c : List Int) : Int := if feasE p c ≠ 0 then feasE p c else if sumC p c < worthS p (allM p) then 13 else 0
def Prob.zero : Prob := ⟨Bun.zero, Bun.zero, Bun.zero, [], []⟩
def openD (p : Prob) (c : List Int) : Deal := if openE p c = 0 then ⟨p, valsS p c, allM p, sumC p c⟩ else ⟨Prob.zero, [], 0, 0⟩

def r61 : SCtr := ⟨61, Prob × Alloc, .cons codP (.one codA), fun a => a.2.chosen.length ≤ 1000000000000, fun a => .tup [codD.put (openD a.1 a.2.chosen), .si .i64 (openE a.1 a.2.chosen)]⟩

def Λ61 (a : Prob × Alloc) : Nat → LoopAnn
  | 7 => .inv Int (fun i => ⟨[(2, .ptr 0 0 20), (4, .ptr 2 0 23), (7, .ptr 4 0 23), (8, .si .i64 (sumC a.1 (a.2.chosen.take i.toNat))), (34, .row (.i .i64) a.2.chosen), (35, .si .i64 a.2.chosen.length), (36, .si .i64 i)],
    [.cells a.1.ss 27 20 false, .cells [.row (.i .i64) a.2.chosen, .si .i64 a.2.value] 31 2 false,
     .cells [.il .i64 0, .il .i64 0, .il .i64 0, .il .i64 0, .il .i64 0, .il .i64 0, .il .i64 0, .il .i64 0, .il .i64 0, .il .i64 0, .il .i64 0, .il .i64 0, .il .i64 0, .il .i64 0, .il .i64 0, .il .i64 0, .il .i64 0, .il .i64 0, .sc (.slice none 0 0), .sc (.slice none 0 0), .sc (.slice none 0 0), .il .i64 0, .il .i64 0] 86 23 false,
     .row (.i .i64) (valsS a.1 (a.2.chosen.take i.toNat)) 2 true,
     .cells [.si .i64 a.1.supply.a0, .si .i64 a.1.supply.a1, .si .i64 a.1.supply.a2, .si .i64 a.1.supply.a3, .si .i64 a.1.supply.a4, .si .i64 a.1.supply.a5,
       .si .i64 a.1.opn.a0, .si .i64 a.1.opn.a1, .si .i64 a.1.opn.a2, .si .i64 a.1.opn.a3, .si .i64 a.1.opn.a4, .si .i64 a.1.opn.a5,
       .si .i64 a.1.cls.a0, .si .i64 a.1.cls.a1, .si .i64 a.1.cls.a2, .si .i64 a.1.cls.a3, .si .i64 a.1.cls.a4, .si .i64 a.1.cls.a5,
       .row (.i .i64) a.1.classes, .row .off a.1.offers, .ow 3 (a.1.classes.length : Int).toNat 1, .si .i64 (1 * 2 ^ (a.1.classes.length : Int).toNat - 1), .il .i64 0] 86 23 false]⟩)
    (fun s => iS s 36) (fun i => 0 ≤ i ∧ i ≤ a.2.chosen.length) (fun i => (a.2.chosen.length - i).toNat) fun _ _ => .look
  | _ => .look

theorem pick_idx {l : List Off} : ∀ {c : List Int} {last : Int} {r : List Off}, -1 ≤ last → pickGo l last c = some r → r.length = c.length ∧ ∀ i ∈ c, 0 ≤ i ∧ i < l.length
  | [], last, r, _, h => by simp [pickGo] at h; subst h; simp
  | i :: c, last, r, hl, h => by
    simp only [pickGo] at h
    split at h
    · cases h
    · rename_i h1
      obtain ⟨r', h2, rfl⟩ := Option.map_eq_some_iff.1 h
      obtain ⟨h3, h4⟩ := pick_idx (by omega) h2
      refine ⟨by simp [h3], fun j hj => ?_⟩
      rcases List.mem_cons.1 hj with rfl | hj
      · omega
      · exact h4 j hj

theorem vals_len {p : Prob} : ∀ {c : List Int} {v : List Int}, (c.foldl (setV p) v).length = v.length
  | [], v => rfl
  | i :: c, v => by simp only [List.foldl_cons]; rw [vals_len]; simp [setV]

theorem valsS_len {p : Prob} {c : List Int} : (valsS p c).length = p.classes.length := by unfold valsS; rw [vals_len]; simp

theorem sum_bd2 {p : Prob} (hg : Good p) : ∀ {c : List Int} {s : Int}, (∀ i ∈ c, 0 ≤ i ∧ i < p.offers.length) → 0 ≤ s → 0 ≤ c.foldl (addV p) s ∧ c.foldl (addV p) s ≤ s + 1000000 * c.length
  | [], s, _, hs => by simp; exact hs
  | i :: c, s, hc, hs => by
    simp only [List.foldl_cons]
    have hi := hc i (by simp)
    have hv := hg.2.2.2.2 _ (nthD_mem (d := SId.off.dflt) (show i.toNat < p.offers.length by omega))
    have h1 : 0 ≤ addV p s i ∧ addV p s i ≤ s + 1000000 := by unfold addV; omega
    have := sum_bd2 hg (c := c) (s := addV p s i) (fun j hj => hc j (by simp [hj])) h1.1
    simp only [List.length_cons]
    omega

theorem zdeal {d : Deal} (h : d = ⟨Prob.zero, [], 0, 0⟩) : (SV.agg [SV.il .i64 0, SV.il .i64 0, SV.il .i64 0, SV.il .i64 0, SV.il .i64 0, SV.il .i64 0, SV.il .i64 0, SV.il .i64 0, SV.il .i64 0, SV.il .i64 0, SV.il .i64 0, SV.il .i64 0, SV.il .i64 0, SV.il .i64 0, SV.il .i64 0, SV.il .i64 0, SV.il .i64 0, SV.il .i64 0, SV.row (.i .i64) [], SV.row (.i .i64) [], SV.row (.i .i64) [], SV.il .i64 0, SV.il .i64 0]).same (codD.put d) := by
  subst h
  simp only [SV.same, codD, SV.g, gL, Prob.zero, Bun.zero, flatA, List.flatMap_nil, List.length_nil]

theorem h61 : Holds Try.prog r61 := by
  refine con (L := LB) r61 F61 Λ61 (OwnOK.none _) hLB (by kernel_rfl) (by kernel_rfl) (fun _ => rfl) ?_
  rintro ⟨p, ⟨c, v⟩⟩ (hc : c.length ≤ 1000000000000)
  refine vcOf (c.length ≤ 1000000000000 ∧ (decide (feasE p c ≠ (0 : Int)) = true → (SV.tup [SV.agg [SV.il .i64 0, SV.il .i64 0, SV.il .i64 0, SV.il .i64 0, SV.il .i64 0, SV.il .i64 0, SV.il .i64 0, SV.il .i64 0, SV.il .i64 0, SV.il .i64 0, SV.il .i64 0, SV.il .i64 0, SV.il .i64 0, SV.il .i64 0, SV.il .i64 0, SV.il .i64 0, SV.il .i64 0, SV.il .i64 0, SV.row (SId.i .i64) [], SV.row (SId.i .i64) [], SV.row (SId.i .i64) [], SV.il .i64 0, SV.il .i64 0], SV.si .i64 (feasE p c)]).same (SV.tup [SV.agg [SV.si .i64 (openD p c).p.supply.a0, SV.si .i64 (openD p c).p.supply.a1, SV.si .i64 (openD p c).p.supply.a2, SV.si .i64 (openD p c).p.supply.a3, SV.si .i64 (openD p c).p.supply.a4, SV.si .i64 (openD p c).p.supply.a5, SV.si .i64 (openD p c).p.opn.a0, SV.si .i64 (openD p c).p.opn.a1, SV.si .i64 (openD p c).p.opn.a2, SV.si .i64 (openD p c).p.opn.a3, SV.si .i64 (openD p c).p.opn.a4, SV.si .i64 (openD p c).p.opn.a5, SV.si .i64 (openD p c).p.cls.a0, SV.si .i64 (openD p c).p.cls.a1, SV.si .i64 (openD p c).p.cls.a2, SV.si .i64 (openD p c).p.cls.a3, SV.si .i64 (openD p c).p.cls.a4, SV.si .i64 (openD p c).p.cls.a5, SV.row (SId.i .i64) (openD p c).p.classes, SV.row SId.off (openD p c).p.offers, SV.row (SId.i .i64) (openD p c).values, SV.si .i64 (openD p c).all, SV.si .i64 (openD p c).worth], SV.si .i64 (openE p c)])) ∧ (decide (feasE p c ≠ (0 : Int)) = false → (0 : Int) ≤ (↑p.classes.length : Int) ∧ (↑p.classes.length : Int) ≤ (↑p.classes.length : Int) ∧ (↑p.classes.length : Int) * (8 : Int) ≤ (140737488355328 : Int) ∧ (↑p.classes.length : Int) ≤ (1000000000000 : Int) ∧ (0 : Int) ≤ (↑p.classes.length : Int) ∧ (↑p.classes.length : Int) ≤ (64 : Int) ∧ inR .i64 ((1 : Int) * (2 : Int) ^ (↑p.classes.length : Int).toNat) ∧ inR .i64 ((1 : Int) * (2 : Int) ^ (↑p.classes.length : Int).toNat - (1 : Int)) ∧ ((((SV.ptr 0 0 20).same (SV.ptr 0 0 20) ∧ (SV.ptr 2 0 23).same (SV.ptr 2 0 23) ∧ (SV.ptr 4 0 23).same (SV.ptr 4 0 23) ∧ (SV.il .i64 0).same (SV.si .i64 (sumC p [])) ∧ (SV.row (SId.i .i64) c).same (SV.row (SId.i .i64) c) ∧ (SV.si .i64 (↑c.length : Int)).same (SV.si .i64 (↑c.length : Int)) ∧ (SV.il .i64 0).same (SV.si .i64 0) ∧ True) ∧ (SObj.cells (Prob.ss p) 27 20 false).same (SObj.cells (Prob.ss p) 27 20 false) ∧ (SObj.cells [SV.row (SId.i .i64) c, SV.si .i64 v] 31 2 false).same (SObj.cells [SV.row (SId.i .i64) c, SV.si .i64 v] 31 2 false) ∧ (SObj.cells [SV.il .i64 0, SV.il .i64 0, SV.il .i64 0, SV.il .i64 0, SV.il .i64 0, SV.il .i64 0, SV.il .i64 0, SV.il .i64 0, SV.il .i64 0, SV.il .i64 0, SV.il .i64 0, SV.il .i64 0, SV.il .i64 0, SV.il .i64 0, SV.il .i64 0, SV.il .i64 0, SV.il .i64 0, SV.il .i64 0, SV.sc (Value.slice none 0 0), SV.sc (Value.slice none 0 0), SV.sc (Value.slice none 0 0), SV.il .i64 0, SV.il .i64 0] 86 23 false).same (SObj.cells [SV.il .i64 0, SV.il .i64 0, SV.il .i64 0, SV.il .i64 0, SV.il .i64 0, SV.il .i64 0, SV.il .i64 0, SV.il .i64 0, SV.il .i64 0, SV.il .i64 0, SV.il .i64 0, SV.il .i64 0, SV.il .i64 0, SV.il .i64 0, SV.il .i64 0, SV.il .i64 0, SV.il .i64 0, SV.il .i64 0, SV.sc (Value.slice none 0 0), SV.sc (Value.slice none 0 0), SV.sc (Value.slice none 0 0), SV.il .i64 0, SV.il .i64 0] 86 23 false) ∧ (SObj.row (SId.i .i64) (List.replicate (↑p.classes.length : Int).toNat (0 : Int)) 2 true).same (SObj.row (SId.i .i64) (valsS p []) 2 true) ∧ (SObj.cells [SV.si .i64 p.supply.a0, SV.si .i64 p.supply.a1, SV.si .i64 p.supply.a2, SV.si .i64 p.supply.a3, SV.si .i64 p.supply.a4, SV.si .i64 p.supply.a5, SV.si .i64 p.opn.a0, SV.si .i64 p.opn.a1, SV.si .i64 p.opn.a2, SV.si .i64 p.opn.a3, SV.si .i64 p.opn.a4, SV.si .i64 p.opn.a5, SV.si .i64 p.cls.a0, SV.si .i64 p.cls.a1, SV.si .i64 p.cls.a2, SV.si .i64 p.cls.a3, SV.si .i64 p.cls.a4, SV.si .i64 p.cls.a5, SV.row (SId.i .i64) p.classes, SV.row SId.off p.offers, SV.ow 3 (↑p.classes.length : Int).toNat 1, SV.si .i64 ((1 : Int) * (2 : Int) ^ (↑p.classes.length : Int).toNat - (1 : Int)), SV.il .i64 0] 86 23 false).same (SObj.cells [SV.si .i64 p.supply.a0, SV.si .i64 p.supply.a1, SV.si .i64 p.supply.a2, SV.si .i64 p.supply.a3, SV.si .i64 p.supply.a4, SV.si .i64 p.supply.a5, SV.si .i64 p.opn.a0, SV.si .i64 p.opn.a1, SV.si .i64 p.opn.a2, SV.si .i64 p.opn.a3, SV.si .i64 p.opn.a4, SV.si .i64 p.opn.a5, SV.si .i64 p.cls.a0, SV.si .i64 p.cls.a1, SV.si .i64 p.cls.a2, SV.si .i64 p.cls.a3, SV.si .i64 p.cls.a4, SV.si .i64 p.cls.a5, SV.row (SId.i .i64) p.classes, SV.row SId.off p.offers, SV.ow 3 (↑p.classes.length : Int).toNat 1, SV.si .i64 ((1 : Int) * (2 : Int) ^ (↑p.classes.length : Int).toNat - (1 : Int)), SV.il .i64 0] 86 23 false) ∧ True) ∧ (0 : Int) ≤ (0 : Int) ∧ (0 : Int) ≤ (↑c.length : Int)) ∧ ∀ (x : Int), (0 : Int) ≤ x ∧ x ≤ (↑c.length : Int) → (decide (x < (↑c.length : Int)) = true → (0 : Int) ≤ x ∧ x < (↑c.length : Int) ∧ x.toNat < c.length ∧ (0 : Int) ≤ nthD c x.toNat (0 : Int) ∧ nthD c x.toNat (0 : Int) < (↑p.offers.length : Int) ∧ (nthD c x.toNat (0 : Int)).toNat < p.offers.length ∧ (↑p.classes.length : Int).toNat = (valsS p (List.take x.toNat c)).length ∧ (0 : Int) ≤ (nthD p.offers (nthD c x.toNat (0 : Int)).toNat SId.off.dflt).bidder ∧ (nthD p.offers (nthD c x.toNat (0 : Int)).toNat SId.off.dflt).bidder < (↑(valsS p (List.take x.toNat c)).length : Int) ∧ (↑p.classes.length : Int).toNat = (valsS p (List.take x.toNat c)).length ∧ (nthD p.offers (nthD c x.toNat (0 : Int)).toNat SId.off.dflt).bidder.toNat < (valsS p (List.take x.toNat c)).length ∧ inR .i64 (sumC p (List.take x.toNat c) + (nthD p.offers (nthD c x.toNat (0 : Int)).toNat SId.off.dflt).value) ∧ inR .i64 (x + (1 : Int)) ∧ (((SV.ptr 0 0 20).same (SV.ptr 0 0 20) ∧ (SV.ptr 2 0 23).same (SV.ptr 2 0 23) ∧ (SV.ptr 4 0 23).same (SV.ptr 4 0 23) ∧ (SV.si .i64 (sumC p (List.take x.toNat c) + (nthD p.offers (nthD c x.toNat (0 : Int)).toNat SId.off.dflt).value)).same (SV.si .i64 (sumC p (List.take (x + (1 : Int)).toNat c))) ∧ (SV.row (SId.i .i64) c).same (SV.row (SId.i .i64) c) ∧ (SV.si .i64 (↑c.length : Int)).same (SV.si .i64 (↑c.length : Int)) ∧ (SV.si .i64 (x + (1 : Int))).same (SV.si .i64 (x + (1 : Int))) ∧ True) ∧ (SObj.cells (Prob.ss p) 27 20 false).same (SObj.cells (Prob.ss p) 27 20 false) ∧ (SObj.cells [SV.row (SId.i .i64) c, SV.si .i64 v] 31 2 false).same (SObj.cells [SV.row (SId.i .i64) c, SV.si .i64 v] 31 2 false) ∧ (SObj.cells [SV.il .i64 0, SV.il .i64 0, SV.il .i64 0, SV.il .i64 0, SV.il .i64 0, SV.il .i64 0, SV.il .i64 0, SV.il .i64 0, SV.il .i64 0, SV.il .i64 0, SV.il .i64 0, SV.il .i64 0, SV.il .i64 0, SV.il .i64 0, SV.il .i64 0, SV.il .i64 0, SV.il .i64 0, SV.il .i64 0, SV.sc (Value.slice none 0 0), SV.sc (Value.slice none 0 0), SV.sc (Value.slice none 0 0), SV.il .i64 0, SV.il .i64 0] 86 23 false).same (SObj.cells [SV.il .i64 0, SV.il .i64 0, SV.il .i64 0, SV.il .i64 0, SV.il .i64 0, SV.il .i64 0, SV.il .i64 0, SV.il .i64 0, SV.il .i64 0, SV.il .i64 0, SV.il .i64 0, SV.il .i64 0, SV.il .i64 0, SV.il .i64 0, SV.il .i64 0, SV.il .i64 0, SV.il .i64 0, SV.il .i64 0, SV.sc (Value.slice none 0 0), SV.sc (Value.slice none 0 0), SV.sc (Value.slice none 0 0), SV.il .i64 0, SV.il .i64 0] 86 23 false) ∧ (SObj.row (SId.i .i64) ((valsS p (List.take x.toNat c)).set (nthD p.offers (nthD c x.toNat (0 : Int)).toNat SId.off.dflt).bidder.toNat (nthD p.offers (nthD c x.toNat (0 : Int)).toNat SId.off.dflt).value) 2 true).same (SObj.row (SId.i .i64) (valsS p (List.take (x + (1 : Int)).toNat c)) 2 true) ∧ (SObj.cells [SV.si .i64 p.supply.a0, SV.si .i64 p.supply.a1, SV.si .i64 p.supply.a2, SV.si .i64 p.supply.a3, SV.si .i64 p.supply.a4, SV.si .i64 p.supply.a5, SV.si .i64 p.opn.a0, SV.si .i64 p.opn.a1, SV.si .i64 p.opn.a2, SV.si .i64 p.opn.a3, SV.si .i64 p.opn.a4, SV.si .i64 p.opn.a5, SV.si .i64 p.cls.a0, SV.si .i64 p.cls.a1, SV.si .i64 p.cls.a2, SV.si .i64 p.cls.a3, SV.si .i64 p.cls.a4, SV.si .i64 p.cls.a5, SV.row (SId.i .i64) p.classes, SV.row SId.off p.offers, SV.ow 3 (↑p.classes.length : Int).toNat 1, SV.si .i64 ((1 : Int) * (2 : Int) ^ (↑p.classes.length : Int).toNat - (1 : Int)), SV.il .i64 0] 86 23 false).same (SObj.cells [SV.si .i64 p.supply.a0, SV.si .i64 p.supply.a1, SV.si .i64 p.supply.a2, SV.si .i64 p.supply.a3, SV.si .i64 p.supply.a4, SV.si .i64 p.supply.a5, SV.si .i64 p.opn.a0, SV.si .i64 p.opn.a1, SV.si .i64 p.opn.a2, SV.si .i64 p.opn.a3, SV.si .i64 p.opn.a4, SV.si .i64 p.opn.a5, SV.si .i64 p.cls.a0, SV.si .i64 p.cls.a1, SV.si .i64 p.cls.a2, SV.si .i64 p.cls.a3, SV.si .i64 p.cls.a4, SV.si .i64 p.cls.a5, SV.row (SId.i .i64) p.classes, SV.row SId.off p.offers, SV.ow 3 (↑p.classes.length : Int).toNat 1, SV.si .i64 ((1 : Int) * (2 : Int) ^ (↑p.classes.length : Int).toNat - (1 : Int)), SV.il .i64 0] 86 23 false) ∧ True) ∧ ((0 : Int) ≤ x + (1 : Int) ∧ x + (1 : Int) ≤ (↑c.length : Int)) ∧ ((↑c.length : Int) - (x + (1 : Int))).toNat < ((↑c.length : Int) - x).toNat) ∧ (decide (x < (↑c.length : Int)) = false → True ∧ (decide (faultE p ((1 : Int) * (2 : Int) ^ (↑p.classes.length : Int).toNat - (1 : Int)) ≠ (0 : Int)) = true → (SV.tup [SV.agg [SV.il .i64 0, SV.il .i64 0, SV.il .i64 0, SV.il .i64 0, SV.il .i64 0, SV.il .i64 0, SV.il .i64 0, SV.il .i64 0, SV.il .i64 0, SV.il .i64 0, SV.il .i64 0, SV.il .i64 0, SV.il .i64 0, SV.il .i64 0, SV.il .i64 0, SV.il .i64 0, SV.il .i64 0, SV.il .i64 0, SV.row (SId.i .i64) [], SV.row (SId.i .i64) [], SV.row (SId.i .i64) [], SV.il .i64 0, SV.il .i64 0], SV.si .i64 (faultE p ((1 : Int) * (2 : Int) ^ (↑p.classes.length : Int).toNat - (1 : Int)))]).same (SV.tup [SV.agg [SV.si .i64 (openD p c).p.supply.a0, SV.si .i64 (openD p c).p.supply.a1, SV.si .i64 (openD p c).p.supply.a2, SV.si .i64 (openD p c).p.supply.a3, SV.si .i64 (openD p c).p.supply.a4, SV.si .i64 (openD p c).p.supply.a5, SV.si .i64 (openD p c).p.opn.a0, SV.si .i64 (openD p c).p.opn.a1, SV.si .i64 (openD p c).p.opn.a2, SV.si .i64 (openD p c).p.opn.a3, SV.si .i64 (openD p c).p.opn.a4, SV.si .i64 (openD p c).p.opn.a5, SV.si .i64 (openD p c).p.cls.a0, SV.si .i64 (openD p c).p.cls.a1, SV.si .i64 (openD p c).p.cls.a2, SV.si .i64 (openD p c).p.cls.a3, SV.si .i64 (openD p c).p.cls.a4, SV.si .i64 (openD p c).p.cls.a5, SV.row (SId.i .i64) (openD p c).p.classes, SV.row SId.off (openD p c).p.offers, SV.row (SId.i .i64) (openD p c).values, SV.si .i64 (openD p c).all, SV.si .i64 (openD p c).worth], SV.si .i64 (openE p c)])) ∧ (decide (faultE p ((1 : Int) * (2 : Int) ^ (↑p.classes.length : Int).toNat - (1 : Int)) ≠ (0 : Int)) = false → (decide (sumC p (List.take x.toNat c) < worthS p ((1 : Int) * (2 : Int) ^ (↑p.classes.length : Int).toNat - (1 : Int))) = true → (SV.tup [SV.agg [SV.il .i64 0, SV.il .i64 0, SV.il .i64 0, SV.il .i64 0, SV.il .i64 0, SV.il .i64 0, SV.il .i64 0, SV.il .i64 0, SV.il .i64 0, SV.il .i64 0, SV.il .i64 0, SV.il .i64 0, SV.il .i64 0, SV.il .i64 0, SV.il .i64 0, SV.il .i64 0, SV.il .i64 0, SV.il .i64 0, SV.row (SId.i .i64) [], SV.row (SId.i .i64) [], SV.row (SId.i .i64) [], SV.il .i64 0, SV.il .i64 0], SV.il .i64 13]).same (SV.tup [SV.agg [SV.si .i64 (openD p c).p.supply.a0, SV.si .i64 (openD p c).p.supply.a1, SV.si .i64 (openD p c).p.supply.a2, SV.si .i64 (openD p c).p.supply.a3, SV.si .i64 (openD p c).p.supply.a4, SV.si .i64 (openD p c).p.supply.a5, SV.si .i64 (openD p c).p.opn.a0, SV.si .i64 (openD p c).p.opn.a1, SV.si .i64 (openD p c).p.opn.a2, SV.si .i64 (openD p c).p.opn.a3, SV.si .i64 (openD p c).p.opn.a4, SV.si .i64 (openD p c).p.opn.a5, SV.si .i64 (openD p c).p.cls.a0, SV.si .i64 (openD p c).p.cls.a1, SV.si .i64 (openD p c).p.cls.a2, SV.si .i64 (openD p c).p.cls.a3, SV.si .i64 (openD p c).p.cls.a4, SV.si .i64 (openD p c).p.cls.a5, SV.row (SId.i .i64) (openD p c).p.classes, SV.row SId.off (openD p c).p.offers, SV.row (SId.i .i64) (openD p c).values, SV.si .i64 (openD p c).all, SV.si .i64 (openD p c).worth], SV.si .i64 (openE p c)])) ∧ (decide (sumC p (List.take x.toNat c) < worthS p ((1 : Int) * (2 : Int) ^ (↑p.classes.length : Int).toNat - (1 : Int))) = false → (↑p.classes.length : Int).toNat = (valsS p (List.take x.toNat c)).length ∧ (SV.tup [SV.agg [SV.si .i64 p.supply.a0, SV.si .i64 p.supply.a1, SV.si .i64 p.supply.a2, SV.si .i64 p.supply.a3, SV.si .i64 p.supply.a4, SV.si .i64 p.supply.a5, SV.si .i64 p.opn.a0, SV.si .i64 p.opn.a1, SV.si .i64 p.opn.a2, SV.si .i64 p.opn.a3, SV.si .i64 p.opn.a4, SV.si .i64 p.opn.a5, SV.si .i64 p.cls.a0, SV.si .i64 p.cls.a1, SV.si .i64 p.cls.a2, SV.si .i64 p.cls.a3, SV.si .i64 p.cls.a4, SV.si .i64 p.cls.a5, SV.row (SId.i .i64) p.classes, SV.row SId.off p.offers, SV.row (SId.i .i64) (valsS p (List.take x.toNat c)), SV.si .i64 ((1 : Int) * (2 : Int) ^ (↑p.classes.length : Int).toNat - (1 : Int)), SV.si .i64 (sumC p (List.take x.toNat c))], SV.il .i64 0]).same (SV.tup [SV.agg [SV.si .i64 (openD p c).p.supply.a0, SV.si .i64 (openD p c).p.supply.a1, SV.si .i64 (openD p c).p.supply.a2, SV.si .i64 (openD p c).p.supply.a3, SV.si .i64 (openD p c).p.supply.a4, SV.si .i64 (openD p c).p.supply.a5, SV.si .i64 (openD p c).p.opn.a0, SV.si .i64 (openD p c).p.opn.a1, SV.si .i64 (openD p c).p.opn.a2, SV.si .i64 (openD p c).p.opn.a3, SV.si .i64 (openD p c).p.opn.a4, SV.si .i64 (openD p c).p.opn.a5, SV.si .i64 (openD p c).p.cls.a0, SV.si .i64 (openD p c).p.cls.a1, SV.si .i64 (openD p c).p.cls.a2, SV.si .i64 (openD p c).p.cls.a3, SV.si .i64 (openD p c).p.cls.a4, SV.si .i64 (openD p c).p.cls.a5, SV.row (SId.i .i64) (openD p c).p.classes, SV.row SId.off (openD p c).p.offers, SV.row (SId.i .i64) (openD p c).values, SV.si .i64 (openD p c).all, SV.si .i64 (openD p c).worth], SV.si .i64 (openE p c)])))))) (by kernel_rfl) ?_
  simp only [decide_eq_true_eq, decide_eq_false_iff_not, same_il_si, same_si_si, same_si_il, same_il_il, same_sb_sb, same_bl_sb, same_row, same_tup2, same_tup3, same_nil, same_row_nil, same_rfl, osame_rfl, inR_i64, eq_self, true_and, and_true, Bool.and_eq_true, Bool.not_eq_true', Bool.not_eq_false']
  refine ⟨hc, fun h => ⟨zdeal (by simp [openD, openE, h]), by simp [openE, h]⟩, fun h => ?_⟩
  have hz : feasE p c = 0 := Classical.not_not.1 h
  have hck : checkE p = 0 := by
    unfold feasE at hz
    split at hz
    · rename_i h1; exact absurd hz h1
    · rename_i h1; exact Classical.not_not.1 h1
  have hpk : pickOk p c = true := by
    unfold feasE at hz
    rw [if_neg (by simp [hck])] at hz
    split at hz
    · cases hz
    · rename_i h1; simpa using h1
  have hg := good_of hck
  have hp := pow_n hg.1
  obtain ⟨r, hr⟩ := Option.isSome_iff_exists.1 hpk
  obtain ⟨hr1, hidx⟩ := pick_idx (by omega) hr
  have hcl : c.length ≤ 160 := by
    have h1 := pick_len (by omega) hr
    have h2 := hg.2.1
    rcases h1 with h1 | rfl
    · omega
    · simp at hr1; omega
  have hn : (p.classes.length : Int).toNat = p.classes.length := by simp
  have hall : (1 : Int) * 2 ^ (p.classes.length : Int).toNat - 1 = allM p := by simp [allM]
  have hg1 := hg.1
  rw [hn] at *
  refine ⟨by omega, by omega, by omega, by omega, by omega, by omega, ⟨by omega, by omega⟩, ⟨by omega, by omega⟩, ?_⟩
  have hrow : ∀ {x y : List Int}, x = y → (SObj.row (.i .i64) x 2 true).same (SObj.row (.i .i64) y 2 true) := by rintro _ _ rfl; rfl
  refine ⟨⟨⟨rfl, hrow rfl⟩, by omega, by omega⟩, ?_⟩
  rintro i ⟨hi0, hi1⟩
  have hvl : (valsS p (c.take i.toNat)).length = p.classes.length := valsS_len
  refine ⟨fun hlt => ?_, fun hge => ?_⟩
  · have hci := hidx _ (nthD_mem (d := 0) (show i.toNat < c.length by omega))
    have htk := take_nth (d := 0) hi0 hlt
    generalize nthD c i.toNat 0 = ci at hci htk ⊢
    have hv := hg.2.2.2.2 _ (nthD_mem (d := SId.off.dflt) (show ci.toNat < p.offers.length by omega))
    have hsb := sum_bd2 hg (c := c.take i.toNat) (s := 0) (fun j hj => hidx j (List.mem_of_mem_take hj)) (by omega)
    have htl : (c.take i.toNat).length ≤ 160 := by simp only [List.length_take]; omega
    change 0 ≤ sumC p (c.take i.toNat) ∧ sumC p (c.take i.toNat) ≤ _ at hsb
    have e1 : sumC p (c.take (i + 1).toNat) = sumC p (c.take i.toNat) + (nthD p.offers ci.toNat SId.off.dflt).value := by
      rw [htk]; unfold sumC; rw [List.foldl_append]; rfl
    have e2 : valsS p (c.take (i + 1).toNat) = (valsS p (c.take i.toNat)).set (nthD p.offers ci.toNat SId.off.dflt).bidder.toNat (nthD p.offers ci.toNat SId.off.dflt).value := by
      rw [htk]; unfold valsS; rw [List.foldl_append]; rfl
    exact ⟨hi0, hlt, by omega, hci.1, hci.2, by omega, hvl.symm, hv.1, by omega, hvl.symm, by omega, by omega, by omega, ⟨e1.symm, hrow e2.symm⟩, by omega, by omega⟩
  · rw [show i.toNat = c.length from by omega, List.take_length] at hvl ⊢
    rw [hall]
    have hf : faultE p (allM p) = 0 := by
      unfold faultE allM
      rw [if_neg (by simp [hck]), if_neg (by omega)]
    refine ⟨fun h1 => absurd hf h1, fun _ => ⟨fun h1 => ?_, fun h1 => ⟨hvl.symm, ?_⟩⟩⟩
    · have ho : openE p c = 13 := by simp [openE, hz, h1]
      exact ⟨zdeal (by simp [openD, ho]), ho.symm⟩
    · have ho : openE p c = 0 := by simp [openE, hz, h1]
      have hd : openD p c = ⟨p, valsS p c, allM p, sumC p c⟩ := by simp [openD, ho]
      rw [hd, ho]
      exact ⟨rfl, rfl⟩

/-- What an accepted allocation's deal is like. -/
def DealOk (d : Deal) : Prop := checkE d.p = 0 ∧ d.values.length = d.p.classes.length ∧ d.all = allM d.p ∧ (∀ v ∈ d.values, 0 ≤ v ∧ v ≤ 1000000) ∧ 0 ≤ d.worth ∧ d.worth ≤ 200000000

def payS (d : Deal) (b : Int) : Int := if nthD d.values b.toNat 0 = 0 then 0 else worthS d.p (delI d.all b) - (d.worth - nthD d.values b.toNat 0)
def discS (d : Deal) (b : Int) : Int := nthD d.values b.toNat 0 - payS d b

theorem pay_bd {d : Deal} (h : DealOk d) {b : Int} (h0 : 0 ≤ b) (h1 : b < d.values.length) : -300000000 ≤ payS d b ∧ payS d b ≤ 300000000 := by
  obtain ⟨a1, a2, a3, a4, a5, a6⟩ := h
  have hv := a4 _ (nthD_mem (d := 0) (show b.toNat < d.values.length by omega))
  have hw := worth_bd d.p (delI d.all b)
  unfold payS
  split <;> omega

def r63 : SCtr := ⟨63, Deal × Int, .cons codD (.one (codI .i64)), fun a => DealOk a.1 ∧ 0 ≤ a.2 ∧ a.2 < a.1.values.length, fun a => .si .i64 (payS a.1 a.2)⟩
theorem h63 : Holds Try.prog r63 := by
  refine con (L := LB) r63 F63 (fun _ _ => .look) (OwnOK.none _) hLB (by kernel_rfl) (by kernel_rfl) (fun _ => rfl) ?_
  rintro ⟨d, b⟩ ⟨hd, h0, h1⟩
  simp only at hd h0 h1
  refine vcOf ((0 : Int) ≤ b ∧ b < (↑d.values.length : Int) ∧ b.toNat < d.values.length ∧ (decide (nthD d.values b.toNat (0 : Int) = (0 : Int)) = true → (SV.il .i64 0).same (SV.si .i64 (payS d b))) ∧ (decide (nthD d.values b.toNat (0 : Int) = (0 : Int)) = false → (0 : Int) ≤ b ∧ b ≤ (64 : Int) ∧ inR .i64 ((1 : Int) * (2 : Int) ^ b.toNat) ∧ True ∧ (0 : Int) ≤ b ∧ b < (↑d.values.length : Int) ∧ b.toNat < d.values.length ∧ inR .i64 (d.worth - nthD d.values b.toNat (0 : Int)) ∧ inR .i64 (worthS d.p (binK.andNotI .i64 d.all ((1 : Int) * (2 : Int) ^ b.toNat)) - (d.worth - nthD d.values b.toNat (0 : Int))) ∧ (SV.si .i64 (worthS d.p (binK.andNotI .i64 d.all ((1 : Int) * (2 : Int) ^ b.toNat)) - (d.worth - nthD d.values b.toNat (0 : Int)))).same (SV.si .i64 (payS d b)))) (by kernel_rfl) ?_
  simp only [decide_eq_true_eq, decide_eq_false_iff_not, same_il_si, same_si_si, same_si_il, same_il_il, same_sb_sb, same_bl_sb, same_row, same_tup2, same_tup3, same_nil, same_row_nil, same_rfl, osame_rfl, inR_i64, eq_self, true_and, and_true, Bool.and_eq_true, Bool.not_eq_true', Bool.not_eq_false', Int.one_mul]
  obtain ⟨a1, a2, a3, a4, a5, a6⟩ := hd
  have hg := good_of a1
  have hg1 := hg.1
  have hv := a4 _ (nthD_mem (d := 0) (show b.toNat < d.values.length by omega))
  have hp := pow_n (show b.toNat ≤ 8 by omega)
  have hw := worth_bd d.p (binK.andNotI .i64 d.all (2 ^ b.toNat))
  refine ⟨h0, by omega, by omega, fun h => ?_, fun h => ?_⟩
  · simp [payS, h]
  · refine ⟨h0, by omega, ⟨by omega, by omega⟩, h0, by omega, by omega, ⟨by omega, by omega⟩, ⟨by omega, by omega⟩, ?_⟩
    simp only [payS, if_neg h]
    rfl

def LC : List SCtr := r63 :: r61 :: LB
theorem hLC : ∀ c ∈ LC, Holds Try.prog c := by
  simp only [LC, List.forall_mem_cons]
  exact ⟨h63, h61, hLB⟩

def r66 : SCtr := ⟨66, Deal × Int, .cons codD (.one (codI .i64)), fun a => DealOk a.1 ∧ 0 ≤ a.2 ∧ a.2 < a.1.values.length, fun a => .si .i64 (discS a.1 a.2)⟩
theorem h66 : Holds Try.prog r66 := by
  refine con (L := LC) r66 F66 (fun _ _ => .look) (OwnOK.none _) hLC (by kernel_rfl) (by kernel_rfl) (fun _ => rfl) ?_
  rintro ⟨d, b⟩ ⟨hd, h0, h1⟩
  simp only at hd h0 h1
  refine vcOf ((0 : Int) ≤ b ∧ b < (↑d.values.length : Int) ∧ b.toNat < d.values.length ∧ (DealOk d ∧ (0 : Int) ≤ b ∧ b < (↑d.values.length : Int)) ∧ inR .i64 (nthD d.values b.toNat (0 : Int) - payS d b) ∧ (SV.si .i64 (nthD d.values b.toNat (0 : Int) - payS d b)).same (SV.si .i64 (discS d b))) (by kernel_rfl) ?_
  simp only [decide_eq_true_eq, decide_eq_false_iff_not, same_il_si, same_si_si, same_si_il, same_il_il, same_sb_sb, same_bl_sb, same_row, same_tup2, same_tup3, same_nil, same_row_nil, same_rfl, osame_rfl, inR_i64, eq_self, true_and, and_true, Bool.and_eq_true, Bool.not_eq_true', Bool.not_eq_false']
  have hb := pay_bd hd h0 h1
  obtain ⟨a1, a2, a3, a4, a5, a6⟩ := id hd
  have hv := a4 _ (nthD_mem (d := 0) (show b.toNat < d.values.length by omega))
  exact ⟨h0, by omega, by omega, ⟨hd, h0, by omega⟩, by omega, rfl⟩

/-- A method of a deal as a value. -/
def codF : Cod (Bool × Deal) where
  put a := match a.1 with
    | true => .fn (.func 66) [codD.put a.2] []
    | false => .fn (.func 63) [codD.put a.2] []
  dec
    | .fn (.func f) [d] [] => if f = 66 then (codD.dec d).map fun d => (true, d) else if f = 63 then (codD.dec d).map fun d => (false, d) else none
    | _ => none
  ok v a h := by
    split at h
    · split at h
      · rename_i hf
        obtain ⟨d, h1, rfl⟩ := Option.map_eq_some_iff.1 h
        simp only [SV.g, gL, codD.ok _ _ h1, hf]
      · split at h
        · rename_i hf
          obtain ⟨d, h1, rfl⟩ := Option.map_eq_some_iff.1 h
          simp only [SV.g, gL, codD.ok _ _ h1, hf]
        · cases h
    · cases h
  inj a b h := by
    obtain ⟨k, d⟩ := a
    obtain ⟨k', d'⟩ := b
    cases k <;> cases k' <;> simp only [SV.g, gL, AV.fn.injEq, Fn.func.injEq, List.cons.injEq, and_true, true_and, reduceCtorEq, Nat.reduceEqDiff, false_and] at h
    · rw [codD.inj _ _ h]
    · rw [codD.inj _ _ h]

def eachF (a : Bool × Deal) (i : Int) : Int := match a.1 with
  | true => discS a.2 i
  | false => payS a.2 i
def eachL (a : Bool × Deal) (n : Nat) : List Int := (List.range n).map fun i : Nat => eachF a i

def r62 : SCtr := ⟨62, Deal × (Bool × Deal), .cons codD (.one codF), fun a => DealOk a.2.2 ∧ a.1.values.length = a.2.2.values.length, fun a => .row (.i .i64) (eachL a.2 a.1.values.length)⟩

end Go.Vi
