/-
  The solver's recursion.
  Conditions: none.
-/
import Derived.Test.YtigbjjkijfkeeaaK7
set_option maxRecDepth 100000
set_option maxHeartbeats 4000000
set_option linter.unusedSimpArgs false
set_option linter.unusedVariables false
namespace Go.Vi
open Go.Proofs.Ytigbjjkijfkeeaa.Ir
open Go.Proofs

/-! ### sets of bidders as numbers -/

def bitI (m f : Int) : Int := binK.andI .i64 (m / 2 ^ f.toNat) 1
def delI (m f : Int) : Int := binK.andNotI .i64 m (2 ^ f.toNat)
/-- The members of a set, ascending. -/
def memL (m : Int) : List Int := [0, 1, 2, 3, 4, 5, 6, 7].filter fun f => decide (bitI m f ≠ 0)
def cnt (m : Int) : Nat := (memL m).length

def bitsChk : Bool := (List.range 256).all fun m => decide (0 ≤ bitI m 0) && [0, 1, 2, 3, 4, 5, 6, 7].all fun f => (decide (bitI m f = 0) || decide (bitI m f = 1)) && (decide (bitI m f = 0) || (decide (0 ≤ delI m f) && decide (delI m f < 256) && decide (memL (delI m f) = (memL m).filter fun g => decide (g ≠ f))))
theorem bits_chk : bitsChk = true := by kernel_rfl

def memsChk : Bool := (List.range 256).all fun m => decide (m = 0) || decide ((memL m).length ≠ 0)
theorem mems_chk : memsChk = true := by kernel_rfl

theorem bit_del {m f : Int} (h0 : 0 ≤ m) (h1 : m < 256) (g0 : 0 ≤ f) (g1 : f < 8) : (bitI m f = 0 ∨ bitI m f = 1) ∧ (bitI m f ≠ 0 → 0 ≤ delI m f ∧ delI m f < 256 ∧ memL (delI m f) = (memL m).filter fun g => decide (g ≠ f)) := by
  have h := bits_chk
  simp only [bitsChk, List.all_eq_true, List.mem_range] at h
  have h2 := h m.toNat (by omega)
  simp only [Bool.and_eq_true, List.all_eq_true] at h2
  have h3 := h2.2 f (by have : f = 0 ∨ f = 1 ∨ f = 2 ∨ f = 3 ∨ f = 4 ∨ f = 5 ∨ f = 6 ∨ f = 7 := by omega
                        rcases this with rfl | rfl | rfl | rfl | rfl | rfl | rfl | rfl <;> simp)
  rw [show ((m.toNat : Nat) : Int) = m from by omega] at h3
  simp only [Bool.and_eq_true, Bool.or_eq_true, decide_eq_true_eq] at h3
  refine ⟨h3.1, fun hb => ?_⟩
  rcases h3.2 with h4 | h4
  · exact absurd h4 hb
  · exact ⟨h4.1.1, h4.1.2, h4.2⟩

theorem mem_ne {m : Int} (h0 : 0 ≤ m) (h1 : m < 256) (h : m ≠ 0) : memL m ≠ [] := by
  have hh := mems_chk
  simp only [memsChk, List.all_eq_true, List.mem_range] at hh
  have h2 := hh m.toNat (by omega)
  rw [show ((m.toNat : Nat) : Int) = m from by omega] at h2
  simp only [Bool.or_eq_true, decide_eq_true_eq] at h2
  rcases h2 with h2 | h2
  · omega
  · intro e; rw [e] at h2; simp at h2

def fstB (m : Int) : Int := (memL m).headD 0

def fstChk : Bool := (List.range 256).all fun m => decide (m = 0) || (decide (0 ≤ fstB m) && decide (fstB m < 8) && decide (bitI m (fstB m) ≠ 0) && decide (memL m = fstB m :: memL (delI m (fstB m))) &&
  [0, 1, 2, 3, 4, 5, 6, 7].all fun g => decide (fstB m ≤ g) || decide (bitI m g = 0))
theorem fst_chk : fstChk = true := by kernel_rfl

theorem fst_ok {m : Int} (h0 : 0 ≤ m) (h1 : m < 256) (h : m ≠ 0) : 0 ≤ fstB m ∧ fstB m < 8 ∧ bitI m (fstB m) ≠ 0 ∧ memL m = fstB m :: memL (delI m (fstB m)) ∧ ∀ g, 0 ≤ g → g < fstB m → bitI m g = 0 := by
  have hh := fst_chk
  simp only [fstChk, List.all_eq_true, List.mem_range] at hh
  have h2 := hh m.toNat (by omega)
  rw [show ((m.toNat : Nat) : Int) = m from by omega] at h2
  simp only [Bool.or_eq_true, Bool.and_eq_true, decide_eq_true_eq, List.all_eq_true] at h2
  rcases h2 with h2 | h2
  · omega
  · obtain ⟨⟨⟨⟨a1, a2⟩, a3⟩, a4⟩, a5⟩ := h2
    refine ⟨a1, a2, a3, a4, fun g g0 g1 => ?_⟩
    have := a5 g (by have : g = 0 ∨ g = 1 ∨ g = 2 ∨ g = 3 ∨ g = 4 ∨ g = 5 ∨ g = 6 ∨ g = 7 := by omega
                     rcases this with rfl | rfl | rfl | rfl | rfl | rfl | rfl | rfl <;> simp)
    rcases this with h | h
    · omega
    · exact h

/-! ### the recursion, as the program runs it -/

abbrev Memo := List (Sit × Int)
def lstOf (s : L8) (f : Int) : List Off := nthD [s.l0, s.l1, s.l2, s.l3, s.l4, s.l5, s.l6, s.l7] f.toNat []

def skipAt (a : Sit) : Sit := ⟨delI a.members (fstB a.members), a.left, a.opn⟩

def bestM (p : Prob) : Nat → Memo → Sit → Int × Memo
  | 0, es, _ => (0, es)
  | n + 1, es, a =>
    if a.members = 0 then (0, es) else
    match findT .sit (.i .i64) a es with
    | some v => (v, es)
    | none =>
      let r := (lstOf (L8.of p) (fstB a.members)).foldl (fun r x => if fitsAt p a x = true then (max r.1 (x.value + (bestM p n r.2 (nextAt p a x)).1), (bestM p n r.2 (nextAt p a x)).2) else r) (bestM p n es (skipAt a))
      (r.1, setT .sit (.i .i64) a r.1 r.2)

def stepM (p : Prob) (n : Nat) (a : Sit) (r : Int × Memo) (x : Off) : Int × Memo :=
  if fitsAt p a x = true then (max r.1 (x.value + (bestM p n r.2 (nextAt p a x)).1), (bestM p n r.2 (nextAt p a x)).2) else r

/-- The problem's offers are valid, as far as the solver leans on it. -/
def Good (p : Prob) : Prop := p.classes.length ≤ 8 ∧ p.offers.length ≤ 160 ∧ p.supply.ok = true ∧ p.opn.ok = true ∧ ∀ x ∈ p.offers, 0 ≤ x.bidder ∧ x.bidder < p.classes.length ∧ x.want.ok = true ∧ 1 ≤ x.value ∧ x.value ≤ 1000000

def SitOk (a : Sit) : Prop := 0 ≤ a.members ∧ a.members < 256 ∧ a.b

/-- The greatest value of the members of a list, by what is left. -/
def valL (p : Prob) : List Int → Bun → Bun → Int
  | [], _, _ => 0
  | f :: fs, l, o => (byB p f).foldl (fun v x => if x.want.le l && (outS p x).le o then max v (x.value + valL p fs (l.sub x.want) (o.sub (outS p x))) else v) (valL p fs l o)

def stepV (p : Prob) (fs : List Int) (l o : Bun) (v : Int) (x : Off) : Int := if x.want.le l && (outS p x).le o then max v (x.value + valL p fs (l.sub x.want) (o.sub (outS p x))) else v

def bestS (p : Prob) (a : Sit) : Int := valL p (memL a.members) a.left a.opn

def MemoOk (p : Prob) (es : Memo) : Prop := ∀ e ∈ es, e.2 = bestS p e.1

theorem stepV_bd {p : Prob} {fs : List Int} {l o : Bun} (hg : Good p) (B : Int) (hB : ∀ l o, 0 ≤ valL p fs l o ∧ valL p fs l o ≤ B) : ∀ {xs : List Off} {v : Int}, (∀ x ∈ xs, x ∈ p.offers) → 0 ≤ v ∧ v ≤ B + 1000000 → 0 ≤ xs.foldl (stepV p fs l o) v ∧ xs.foldl (stepV p fs l o) v ≤ B + 1000000
  | [], v, _, hv => hv
  | x :: xs, v, hx, hv => by
    simp only [List.foldl_cons]
    refine stepV_bd hg B hB (fun y hy => hx y (by simp [hy])) ?_
    unfold stepV
    have h1 := hB (l.sub x.want) (o.sub (outS p x))
    have h2 := hg.2.2.2.2 x (hx x (by simp))
    split <;> omega

theorem valL_bd {p : Prob} (hg : Good p) : ∀ (fs : List Int) (l o : Bun), 0 ≤ valL p fs l o ∧ valL p fs l o ≤ 1000000 * fs.length
  | [], _, _ => by simp [valL]
  | f :: fs, l, o => by
    have ih := valL_bd hg fs
    have h := stepV_bd (l := l) (o := o) hg (1000000 * fs.length) ih (xs := byB p f) (v := valL p fs l o) (fun x hx => (List.mem_filter.1 hx).1) (by have := ih l o; omega)
    have e : valL p (f :: fs) l o = (byB p f).foldl (stepV p fs l o) (valL p fs l o) := rfl
    rw [e]
    simp only [List.length_cons]
    omega

theorem mem_len {m : Int} : (memL m).length ≤ 8 := List.length_filter_le _ _

theorem bestS_bd {p : Prob} (hg : Good p) (a : Sit) : 0 ≤ bestS p a ∧ bestS p a ≤ 8000000 := by
  have h := valL_bd hg (memL a.members) a.left a.opn
  have := @mem_len a.members
  unfold bestS
  omega

theorem find_mem {a : Sit} {es : Memo} {v : Int} (h : findT .sit (.i .i64) a es = some v) : ∃ e ∈ es, e.1 = a ∧ e.2 = v := by
  unfold findT at h
  obtain ⟨e, h1, rfl⟩ := Option.map_eq_some_iff.1 h
  have h2 := List.find?_some h1
  exact ⟨e, List.mem_of_find?_eq_some h1, by simpa using h2, rfl⟩

theorem memo_set {p : Prob} {a : Sit} {v : Int} (hv : v = bestS p a) : ∀ {es : Memo}, MemoOk p es → MemoOk p (setT .sit (.i .i64) a v es)
  | [], _ => by intro e he; simp [setT] at he; subst he; exact hv
  | q :: es, h => by
    unfold setT
    split
    · intro e he
      rcases List.mem_cons.1 he with rfl | he
      · exact hv
      · exact h e (by simp [he])
    · intro e he
      rcases List.mem_cons.1 he with rfl | he
      · exact h e (by simp)
      · exact memo_set hv (fun e he => h e (by simp [he])) e he

theorem sub_ok {a b : Bun} (ha : a.ok = true) (hb : b.ok = true) (h : b.le a = true) : (a.sub b).ok = true := by
  have ha := Bun.ok_iff.1 ha
  have hb := Bun.ok_iff.1 hb
  have h := Bun.le_iff.1 h
  refine Bun.ok_iff.2 ?_
  simp only [Bun.sub]
  omega

theorem lst_eq {p : Prob} {f : Int} (h0 : 0 ≤ f) (h1 : f < 8) : lstOf (L8.of p) f = byB p f := by
  have : f = 0 ∨ f = 1 ∨ f = 2 ∨ f = 3 ∨ f = 4 ∨ f = 5 ∨ f = 6 ∨ f = 7 := by omega
  rcases this with rfl | rfl | rfl | rfl | rfl | rfl | rfl | rfl <;> rfl

theorem next_ok {p : Prob} (hg : Good p) {a : Sit} (ha : SitOk a) (h0 : a.members ≠ 0) {x : Off} (hx : x ∈ byB p (fstB a.members)) (hf : fitsAt p a x = true) :
    SitOk (nextAt p a x) ∧ memL a.members = fstB a.members :: memL (nextAt p a x).members ∧ (nextAt p a x).members = delI a.members (fstB a.members) := by
  obtain ⟨hxo, hxb⟩ := List.mem_filter.1 hx
  have hxb : x.bidder = fstB a.members := by simpa using hxb
  have hv := hg.2.2.2.2 x hxo
  obtain ⟨f0, f1, f2, f3, f4⟩ := fst_ok ha.1 ha.2.1 h0
  have hd := (bit_del ha.1 ha.2.1 f0 f1).2 f2
  have hm : (nextAt p a x).members = delI a.members (fstB a.members) := by simp only [nextAt, hxb, delI]
  simp only [fitsAt, Bool.and_eq_true] at hf
  refine ⟨⟨by rw [hm]; exact hd.1, by rw [hm]; exact hd.2.1, sub_ok ha.2.2.1 hv.2.2.1 hf.1, sub_ok ha.2.2.2 (out_ok hv.2.2.1) hf.2⟩, by rw [hm]; exact f3, hm⟩

theorem skip_ok {a : Sit} (ha : SitOk a) (h0 : a.members ≠ 0) : SitOk (skipAt a) ∧ memL a.members = fstB a.members :: memL (skipAt a).members := by
  obtain ⟨f0, f1, f2, f3, f4⟩ := fst_ok ha.1 ha.2.1 h0
  have hd := (bit_del ha.1 ha.2.1 f0 f1).2 f2
  exact ⟨⟨hd.1, hd.2.1, ha.2.2⟩, f3⟩

theorem steps_ok {p : Prob} (hg : Good p) {n : Nat} {a : Sit} (ha : SitOk a) (h0 : a.members ≠ 0)
    (ih : ∀ (es : Memo) (b : Sit), SitOk b → MemoOk p es → cnt b.members < n → (bestM p n es b).1 = bestS p b ∧ MemoOk p (bestM p n es b).2) (hn : cnt a.members < n + 1) :
    ∀ {xs : List Off} {r : Int × Memo}, (∀ x ∈ xs, x ∈ byB p (fstB a.members)) → MemoOk p r.2 →
      (xs.foldl (stepM p n a) r).1 = xs.foldl (stepV p (memL (skipAt a).members) a.left a.opn) r.1 ∧ MemoOk p (xs.foldl (stepM p n a) r).2
  | [], r, _, hr => ⟨rfl, hr⟩
  | x :: xs, r, hx, hr => by
    simp only [List.foldl_cons]
    have hxm := hx x (by simp)
    have h1 : (stepM p n a r x).1 = stepV p (memL (skipAt a).members) a.left a.opn r.1 x ∧ MemoOk p (stepM p n a r x).2 := by
      unfold stepM stepV
      by_cases hf : fitsAt p a x = true
      · have hf2 : (x.want.le a.left && (outS p x).le a.opn) = true := hf
        rw [if_pos hf, if_pos hf2]
        obtain ⟨k1, k2, k3⟩ := next_ok hg ha h0 hxm hf
        have hc : cnt (nextAt p a x).members < n := by
          unfold cnt at hn ⊢
          rw [k2] at hn
          simpa using hn
        obtain ⟨e1, e2⟩ := ih r.2 _ k1 hr hc
        refine ⟨?_, e2⟩
        simp only [e1, bestS, k3]
        rfl
      · have hf2 : ¬ (x.want.le a.left && (outS p x).le a.opn) = true := hf
        rw [if_neg hf, if_neg hf2]
        exact ⟨rfl, hr⟩
    obtain ⟨h2, h3⟩ := steps_ok hg ha h0 ih hn (xs := xs) (fun y hy => hx y (by simp [hy])) h1.2
    exact ⟨by rw [h2, h1.1], h3⟩

theorem best_ok {p : Prob} (hg : Good p) : ∀ (n : Nat) (es : Memo) (a : Sit), SitOk a → MemoOk p es → cnt a.members < n → (bestM p n es a).1 = bestS p a ∧ MemoOk p (bestM p n es a).2
  | 0, _, _, _, _, h => absurd h (by omega)
  | n + 1, es, a, ha, he, hn => by
    unfold bestM
    by_cases h0 : a.members = 0
    · rw [if_pos h0]
      refine ⟨?_, he⟩
      unfold bestS
      rw [h0]
      rfl
    · rw [if_neg h0]
      split
      · rename_i v hv
        obtain ⟨e, h1, h2, h3⟩ := find_mem hv
        refine ⟨?_, he⟩
        rw [← h3, he e h1, h2]
      · rename_i hv
        obtain ⟨s1, s2⟩ := skip_ok ha h0
        obtain ⟨f0, f1, _⟩ := fst_ok ha.1 ha.2.1 h0
        have hc : cnt (skipAt a).members < n := by
          unfold cnt at hn ⊢
          rw [s2] at hn
          simpa using hn
        obtain ⟨e1, e2⟩ := best_ok hg n es _ s1 he hc
        rw [lst_eq f0 f1]
        obtain ⟨k1, k2⟩ := steps_ok hg ha h0 (fun es b hb h1 h2 => best_ok hg n es b hb h1 h2) hn (xs := byB p (fstB a.members)) (r := bestM p n es (skipAt a)) (fun _ h => h) e2
        have hval : ((byB p (fstB a.members)).foldl (stepM p n a) (bestM p n es (skipAt a))).1 = bestS p a := by
          rw [k1, e1]
          unfold bestS
          rw [s2]
          rfl
        exact ⟨hval, memo_set hval k2⟩

end Go.Vi
