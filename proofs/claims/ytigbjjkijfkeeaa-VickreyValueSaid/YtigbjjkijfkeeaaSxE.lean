/-
  The symbolic run: calls that may write to what is handed in.
  Conditions: none.
-/
import Derived.Test.YtigbjjkijfkeeaaSxCon
namespace Go.Vi

/-! ### objects by other numbers -/

mutual
def SV.ren (m : Nat → Option Nat) : SV → Option SV
  | .agg cs => (renLS m cs).map .agg
  | .tup cs => (renLS m cs).map .tup
  | .ptr id off tot => (m id).map fun i => .ptr i off tot
  | .ap id a b c d e => (m id).map fun i => .ap i a b c d e
  | .rp id a b c d => (m id).map fun i => .rp i a b c d
  | .ow id n sz => (m id).map fun i => .ow i n sz
  | .os id a b c d => (m id).map fun i => .os i a b c d
  | .mp id => (m id).map .mp
  | .fn f a b => match renLS m a, renLS m b with
    | some a', some b' => some (.fn f a' b')
    | _, _ => none
  | .ud => some .ud
  | .sc v => some (.sc v)
  | .il k n => some (.il k n)
  | .si k n => some (.si k n)
  | .bl b => some (.bl b)
  | .sb b => some (.sb b)
  | .row s l => some (.row s l)
  | .ep s l i o => some (.ep s l i o)
def renLS (m : Nat → Option Nat) : List SV → Option (List SV)
  | [] => some []
  | c :: cs => match c.ren m, renLS m cs with
    | some c', some cs' => some (c' :: cs')
    | _, _ => none
end

mutual
theorem ren_g {m : Nat → Option Nat} : ∀ {v v' : SV}, v.ren m = some v' → v.g.ren m = some v'.g
  | .agg cs, v', h => by
    simp only [SV.ren] at h
    obtain ⟨cs', h1, rfl⟩ := Option.map_eq_some_iff.1 h
    simp only [SV.g, AV.ren, renLS_g h1, Option.map_some]
  | .tup cs, v', h => by
    simp only [SV.ren] at h
    obtain ⟨cs', h1, rfl⟩ := Option.map_eq_some_iff.1 h
    simp only [SV.g, AV.ren, renLS_g h1, Option.map_some]
  | .fn f a b, v', h => by
    simp only [SV.ren] at h
    split at h
    · rename_i a' b' h1 h2
      simp only [Option.some.injEq] at h; subst h
      simp only [SV.g, AV.ren, renLS_g h1, renLS_g h2]
    · cases h
  | .ptr id _ _, v', h | .ap id _ _ _ _ _, v', h | .rp id _ _ _ _, v', h | .ow id _ _, v', h | .os id _ _ _ _, v', h | .mp id, v', h => by
    simp only [SV.ren] at h
    obtain ⟨i, h1, rfl⟩ := Option.map_eq_some_iff.1 h
    simp only [SV.g, AV.ren, h1, Option.map_some]
  | .ud, v', h | .sc _, v', h | .il _ _, v', h | .si _ _, v', h | .bl _, v', h | .sb _, v', h | .row _ _, v', h | .ep _ _ _ _, v', h => by
    simp only [SV.ren, Option.some.injEq] at h
    subst h
    simp only [SV.g, AV.ren]
theorem renLS_g {m : Nat → Option Nat} : ∀ {l l' : List SV}, renLS m l = some l' → renL m (gL l) = some (gL l')
  | [], l', h => by simp [renLS] at h; subst h; simp [gL, renL]
  | c :: cs, l', h => by
    simp only [renLS] at h
    split at h
    · rename_i c' cs' h1 h2
      simp only [Option.some.injEq] at h; subst h
      simp only [gL, renL, ren_g h1, renLS_g h2]
    · cases h
end

def SObj.ren (m : Nat → Option Nat) : SObj → Option SObj
  | .cells cs e sz pu => if pu then some (.cells cs e sz pu) else (renLS m cs).map fun cs' => .cells cs' e sz pu
  | .dead => some .dead
  | .row s l e pu => some (.row s l e pu)
  | .map sk sv ka es kt pu => some (.map sk sv ka es kt pu)

theorem renL_sc {m : Nat → Option Nat} : ∀ {l : List AV}, (∀ a ∈ l, ∃ v, a = .sc v) → renL m l = some l
  | [], _ => by simp [renL]
  | c :: cs, h => by
    obtain ⟨v, rfl⟩ := h c (by simp)
    simp only [renL, AV.ren, renL_sc (l := cs) fun a ha => h a (by simp [ha])]

theorem renM_sc {m : Nat → Option Nat} : ∀ {l : List (Value × AV)}, (∀ a ∈ l, ∃ v, a.2 = .sc v) → renM m l = some l
  | [], _ => by simp [renM]
  | (k, c) :: cs, h => by
    obtain ⟨v, hv⟩ := h (k, c) (by simp)
    simp only at hv
    subst hv
    simp only [renM, AV.ren, renM_sc (l := cs) fun a ha => h a (by simp [ha])]

theorem flatA_sc' {s : SId} {l : List s.T} : ∀ a ∈ flatA s l, ∃ v, a = .sc v := fun a ha => by
  obtain ⟨v, hv, _⟩ := flatA_sc ha
  exact ⟨v, hv⟩

theorem mapA_sc {sk sv : SId} {ka : Bool} {es : List (sk.T × sv.T)} : ∀ a ∈ es.map (fun p => (keyV sk ka p.1, valA sv p.2)), ∃ v, a.2 = .sc v := fun a ha => by
  obtain ⟨q, _, rfl⟩ := List.mem_map.1 ha
  exact ⟨_, rfl⟩

theorem oren_g {m : Nat → Option Nat} {x y : SObj} (h : x.ren m = some y) : x.g.ren m = some y.g := by
  cases x with
  | dead => simp [SObj.ren] at h; subst h; rfl
  | cells cs e sz pu =>
    simp only [SObj.ren] at h
    cases pu with
    | true => simp only [if_true, Option.some.injEq] at h; subst h; simp only [SObj.g, AObj.ren, if_true]
    | false =>
      simp only [Bool.false_eq_true, if_false] at h
      obtain ⟨cs', h1, rfl⟩ := Option.map_eq_some_iff.1 h
      simp only [SObj.g, AObj.ren, Bool.false_eq_true, if_false, renLS_g h1, Option.map_some]
  | row s l e pu =>
    simp only [SObj.ren, Option.some.injEq] at h; subst h
    simp only [SObj.g, AObj.ren, renL_sc flatA_sc', Option.map_some]
    cases pu <;> rfl
  | map sk sv ka es kt pu =>
    simp only [SObj.ren, Option.some.injEq] at h; subst h
    simp only [SObj.g, AObj.ren, renM_sc mapA_sc, Option.map_some]
    cases pu <;> rfl

def renSS (m : Nat → Option Nat) : SStore → Option SStore
  | [] => some []
  | x :: r => match x.ren m, renSS m r with
    | some y, some l => some (y :: l)
    | _, _ => none

theorem renSS_g {m : Nat → Option Nat} : ∀ {o o' : SStore}, renSS m o = some o' → renS m (gO o) = some (gO o')
  | [], o', h => by simp [renSS] at h; subst h; rfl
  | x :: r, o', h => by
    simp only [renSS] at h
    split at h
    · rename_i y l h1 h2
      simp only [Option.some.injEq] at h; subst h
      have := renSS_g h2
      simp only [gO, List.map_cons] at this ⊢
      simp only [renS, oren_g h1, this]
    · cases h

def subSS (o : SStore) (ids : List Nat) : List Nat → Option SStore
  | [] => some []
  | i :: r => match o[i]?, subSS o ids r with
    | some x, some l => match x.ren (fun j => idxOf ids j) with
      | some y => some (y :: l)
      | none => none
    | _, _ => none

theorem subSS_g {o : SStore} {ids : List Nat} : ∀ {r : List Nat} {o' : SStore}, subSS o ids r = some o' → subStore (gO o) ids r = some (gO o')
  | [], o', h => by simp [subSS] at h; subst h; rfl
  | i :: r, o', h => by
    simp only [subSS] at h
    split at h
    · rename_i x l h1 h2
      split at h
      · rename_i y hy
        simp only [Option.some.injEq] at h; subst h
        simp only [subStore, getI h1, subSS_g h2, oren_g hy, Option.map_some]
        rfl
      · cases h
    · cases h

def putSS (o : SStore) : List Nat → SStore → SStore
  | [], _ => o
  | _, [] => o
  | i :: r, x :: l => putSS (o.set i x) r l

theorem putSS_g : ∀ {ids : List Nat} {o l : SStore}, gO (putSS o ids l) = putBack (gO o) ids (gO l)
  | [], o, l => by simp [putSS, putBack]
  | _ :: _, o, [] => by simp [putSS, putBack, gO]
  | i :: r, o, x :: l => by
    simp only [putSS]
    rw [putSS_g, gO_set]
    simp [gO, putBack]

/-- The objects that are reached. -/
def reachSS (o : SStore) : Nat → List SV → List Nat → List Nat
  | 0, _, acc => acc
  | _, [], acc => acc
  | d + 1, v :: vs, acc =>
    let visit (id : Nat) (acc : List Nat) : List Nat :=
      if acc.contains id then acc else
      match o[id]? with
      | some (.cells cs _ _ pu) => if pu then acc ++ [id] else reachSS o d cs (acc ++ [id])
      | _ => acc ++ [id]
    reachSS o d vs (match v with
      | .agg cs | .tup cs => reachSS o d cs acc
      | .ptr id _ _ | .ap id _ _ _ _ _ | .rp id _ _ _ _ | .ow id _ _ | .os id _ _ _ _ | .mp id => visit id acc
      | .fn _ a b => reachSS o d b (reachSS o d a acc)
      | _ => acc)

theorem reachF_sc {o : Store} : ∀ {d : Nat} {l : List AV} {acc : List Nat}, (∀ a ∈ l, ∃ v, a = .sc v) → reachF o d l acc = acc
  | 0, _, _, _ => by simp [reachF]
  | d + 1, [], _, _ => by simp [reachF]
  | d + 1, a :: l, acc, h => by
    obtain ⟨v, rfl⟩ := h a (by simp)
    simp only [reachF]
    exact reachF_sc fun a ha => h a (by simp [ha])

theorem map_snd_sc {l : List (Value × AV)} (h : ∀ a ∈ l, ∃ v, a.2 = .sc v) : ∀ a ∈ l.map (·.2), ∃ v, a = .sc v := fun a ha => by
  obtain ⟨q, hq, rfl⟩ := List.mem_map.1 ha
  exact h q hq

theorem reach_g {o : SStore} : ∀ {d : Nat} {vs : List SV} {acc : List Nat}, reachF (gO o) d (gL vs) acc = reachSS o d vs acc := by
  intro d
  induction d with
  | zero => intro vs acc; simp [reachF, reachSS]
  | succ d ih =>
    intro vs acc
    cases vs with
    | nil => simp [gL, reachF, reachSS]
    | cons v vs =>
      have hv : ∀ (id : Nat) (acc : List Nat), (if acc.contains id then acc else
          match (gO o)[id]? with
          | some (.cells cs _ _ pu) => if pu then acc ++ [id] else reachF (gO o) d cs (acc ++ [id])
          | some (.map es _ pu) => if pu then acc ++ [id] else reachF (gO o) d (es.map (·.2)) (acc ++ [id])
          | _ => acc ++ [id]) = (if acc.contains id then acc else
          match o[id]? with
          | some (.cells cs _ _ pu) => if pu then acc ++ [id] else reachSS o d cs (acc ++ [id])
          | _ => acc ++ [id]) := by
        intro id acc
        rw [gO_get]
        cases o[id]? with
        | none => rfl
        | some x =>
          cases x with
          | dead => rfl
          | cells cs e sz pu => simp only [Option.map_some, SObj.g, ih]
          | row s l e pu => simp only [Option.map_some, SObj.g, reachF_sc flatA_sc', ite_self]
          | map sk sv ka es kt pu => simp only [Option.map_some, SObj.g, reachF_sc (map_snd_sc mapA_sc), ite_self]
      simp only [gL, reachF, reachSS]
      rw [ih]
      congr 1
      cases v <;> simp only [SV.g, ih] <;> exact hv _ _

/-- What a call that may write must come to, by what the callee's part must come to. -/
def ownS (C : FuncId → List SV → SStore → (SV → SStore → Prop) → Prop) (f : FuncId) (args : List SV) (o : SStore) (K : SV → SStore → Prop) : Prop :=
  let ids := reachSS o reachD args []
  match renLS (fun j => idxOf ids j) args, subSS o ids ids with
  | some args', some small => C f args' small fun r small' =>
      if small'.length < ids.length ∨ callOwn.nodupN ids = false then False else
      match r.ren (backN ids o.length), renSS (backN ids o.length) small' with
      | some r', some big => K r' (putSS o ids (big.take ids.length) ++ big.drop ids.length)
      | _, _ => False
  | _, _ => False

theorem ownS_sound {call : Oracle} {C : FuncId → List SV → SStore → (SV → SStore → Prop) → Prop}
    (hC : ∀ f args o K, C f args o K → ∃ (r : SV) (o' : SStore), call f (gL args) (gO o) true = some (r.g, gO o') ∧ K r o')
    {f : FuncId} {args : List SV} {o : SStore} {K : SV → SStore → Prop} (h : ownS C f args o K) :
    ∃ (r : SV) (o' : SStore), callOwn call f (gL args) (gO o) = some (r.g, gO o') ∧ K r o' := by
  unfold ownS at h
  simp only at h
  split at h
  · rename_i args' small h1 h2
    obtain ⟨r, small', h3, h4⟩ := hC _ _ _ _ h
    split at h4
    · exact h4.elim
    · rename_i hn
      split at h4
      · rename_i r' big h5 h6
        refine ⟨r', _, ?_, h4⟩
        unfold callOwn
        simp only [reach_g]
        rw [renLS_g h1, subSS_g h2]
        simp only [h3, gO_len]
        rw [if_neg hn, ren_g h5, renSS_g h6]
        simp only [gO_app, putSS_g]
        simp [gO]
      · exact h4.elim
  · exact h.elim

/-! ### the end of a call that may write -/

mutual
theorem frz_bel {o : Store} {k : Nat} : ∀ {v : AV}, v.bel k = true → v.frz o (fun i => decide (k ≤ i)) = some v
  | .os id off len tot, h => by
    simp only [AV.bel, decide_eq_true_eq] at h
    simp only [AV.frz, decide_eq_true_eq, if_neg (Nat.not_le.2 h)]
  | .ptr id off tot, h => by
    simp only [AV.bel, decide_eq_true_eq] at h
    simp only [AV.frz, decide_eq_true_eq, if_neg (Nat.not_le.2 h)]
  | .agg cs, h => by simp only [AV.bel] at h; simp only [AV.frz, frzL_bel h, Option.map_some]
  | .tup cs, h => by simp only [AV.bel] at h; simp only [AV.frz, frzL_bel h, Option.map_some]
  | .fn f a b, h => by
    simp only [AV.bel, Bool.and_eq_true] at h
    simp only [AV.frz, frzL_bel h.1, frzL_bel h.2]
  | .ud, _ | .sc _, _ | .sl _ _, _ | .ep _ _, _ | .mp _, _ => by simp only [AV.frz]
theorem frzL_bel {o : Store} {k : Nat} : ∀ {l : List AV}, belL k l = true → frzL o (fun i => decide (k ≤ i)) l = some l
  | [], _ => by simp [frzL]
  | c :: cs, h => by
    simp only [belL, Bool.and_eq_true] at h
    simp only [frzL, frz_bel h.1, frzL_bel h.2]
end

theorem frzM_bel {o : Store} {k : Nat} : ∀ {l : List (Value × AV)}, belL k (l.map (·.2)) = true → frzM o (fun i => decide (k ≤ i)) l = some l
  | [], _ => by simp [frzM]
  | (q, c) :: cs, h => by
    simp only [List.map_cons, belL, Bool.and_eq_true] at h
    simp only [frzM, frz_bel h.1, frzM_bel h.2]

theorem ofrz_bel {o : Store} {k : Nat} {x : AObj} (h : x.bel k = true) : x.frz o (fun i => decide (k ≤ i)) = some x := by
  cases x with
  | dead => rfl
  | cells cs e sz pu =>
    cases pu with
    | true => simp only [AObj.frz, if_true]
    | false => simp only [AObj.bel, Bool.false_or] at h; simp only [AObj.frz, Bool.false_eq_true, if_false, frzL_bel h, Option.map_some]
  | map es kt pu =>
    cases pu with
    | true => simp only [AObj.frz, if_true]
    | false => simp only [AObj.bel, Bool.false_or] at h; simp only [AObj.frz, Bool.false_eq_true, if_false, frzM_bel h, Option.map_some]

theorem frzS_bel {o : Store} {k : Nat} : ∀ {r : Store}, (∀ x ∈ r, x.bel k = true) → frzS o (fun i => decide (k ≤ i)) r = some r
  | [], _ => rfl
  | x :: r, h => by
    simp only [frzS, ofrz_bel (h x (by simp)), frzS_bel (r := r) fun y hy => h y (by simp [hy])]

theorem dropPu_take {k : Nat} : ∀ {o : Store} {i : Nat}, (dropPu (fun j => decide (k ≤ j)) i o).take (k - i) = o.take (k - i)
  | [], i => by simp [dropPu]
  | x :: r, i => by
    simp only [dropPu]
    by_cases hi : i < k
    · rw [show k - i = (k - (i + 1)) + 1 from by omega, List.take_succ_cons, List.take_succ_cons, dropPu_take]
      congr 1
      cases x with
      | cells cs e sz pu => cases pu <;> simp [Nat.not_le.2 hi]
      | _ => rfl
    · rw [show k - i = 0 from by omega]; simp

theorem mem_range_c {k i : Nat} (h : i < k) : (List.range k).contains i = true := by simp [h]

theorem reach_bel {o : Store} {k : Nat} : ∀ {d : Nat} {vs : List AV}, belL k vs = true → reachF o d vs (List.range k) = List.range k := by
  intro d
  induction d with
  | zero => intro vs _; simp [reachF]
  | succ d ih =>
    intro vs h
    cases vs with
    | nil => simp [reachF]
    | cons v vs =>
      simp only [belL, Bool.and_eq_true] at h
      have h1 := h.1
      simp only [reachF]
      cases v with
      | agg cs => simp only [AV.bel] at h1; simp only [ih h1, ih h.2]
      | tup cs => simp only [AV.bel] at h1; simp only [ih h1, ih h.2]
      | fn f a b => simp only [AV.bel, Bool.and_eq_true] at h1; simp only [ih h1.1, ih h1.2, ih h.2]
      | ptr id _ _ => simp only [AV.bel, decide_eq_true_eq] at h1; simp only [mem_range_c h1, if_true, ih h.2]
      | os id _ _ _ => simp only [AV.bel, decide_eq_true_eq] at h1; simp only [mem_range_c h1, if_true, ih h.2]
      | mp id => simp only [AV.bel, decide_eq_true_eq] at h1; simp only [mem_range_c h1, if_true, ih h.2]
      | _ => simp only [ih h.2]

theorem idxOf_range' : ∀ {n s i p : Nat}, s ≤ i → i < s + n → idxOf (List.range' s n) i p = some (p + (i - s))
  | 0, s, i, p, h1, h2 => by omega
  | n + 1, s, i, p, h1, h2 => by
    simp only [List.range'_succ, idxOf]
    by_cases h : s = i
    · subst h; simp
    · have : (s == i) = false := by simpa using h
      rw [this]
      simp only [Bool.false_eq_true, if_false]
      rw [idxOf_range' (by omega) (by omega)]
      congr 1
      omega

theorem idxOf_range {k i : Nat} (h : i < k) : idxOf (List.range k) i = some i := by
  rw [List.range_eq_range', idxOf_range' (by omega) (by omega)]
  simp

mutual
theorem ren_bel {k : Nat} : ∀ {v : AV}, v.bel k = true → v.ren (fun j => idxOf (List.range k) j) = some v
  | .os id off len tot, h => by simp only [AV.bel, decide_eq_true_eq] at h; simp only [AV.ren, idxOf_range h, Option.map_some]
  | .ptr id off tot, h => by simp only [AV.bel, decide_eq_true_eq] at h; simp only [AV.ren, idxOf_range h, Option.map_some]
  | .mp id, h => by simp only [AV.bel, decide_eq_true_eq] at h; simp only [AV.ren, idxOf_range h, Option.map_some]
  | .agg cs, h => by simp only [AV.bel] at h; simp only [AV.ren, renL_bel h, Option.map_some]
  | .tup cs, h => by simp only [AV.bel] at h; simp only [AV.ren, renL_bel h, Option.map_some]
  | .fn f a b, h => by
    simp only [AV.bel, Bool.and_eq_true] at h
    simp only [AV.ren, renL_bel h.1, renL_bel h.2]
  | .ud, _ | .sc _, _ | .sl _ _, _ | .ep _ _, _ => by simp only [AV.ren]
theorem renL_bel {k : Nat} : ∀ {l : List AV}, belL k l = true → renL (fun j => idxOf (List.range k) j) l = some l
  | [], _ => by simp [renL]
  | c :: cs, h => by
    simp only [belL, Bool.and_eq_true] at h
    simp only [renL, ren_bel h.1, renL_bel h.2]
end

theorem renM_bel {k : Nat} : ∀ {l : List (Value × AV)}, belL k (l.map (·.2)) = true → renM (fun j => idxOf (List.range k) j) l = some l
  | [], _ => by simp [renM]
  | (q, c) :: cs, h => by
    simp only [List.map_cons, belL, Bool.and_eq_true] at h
    simp only [renM, ren_bel h.1, renM_bel h.2]

theorem oren_bel {k : Nat} {x : AObj} (h : x.bel k = true) : x.ren (fun j => idxOf (List.range k) j) = some x := by
  cases x with
  | dead => rfl
  | cells cs e sz pu =>
    cases pu with
    | true => simp only [AObj.ren, if_true]
    | false => simp only [AObj.bel, Bool.false_or] at h; simp only [AObj.ren, Bool.false_eq_true, if_false, renL_bel h, Option.map_some]
  | map es kt pu =>
    cases pu with
    | true => simp only [AObj.ren, if_true]
    | false => simp only [AObj.bel, Bool.false_or] at h; simp only [AObj.ren, Bool.false_eq_true, if_false, renM_bel h, Option.map_some]

theorem sub_range {k : Nat} {o : Store} (hb : ∀ x ∈ o.take k, x.bel k = true) (hl : k ≤ o.length) : ∀ {n s : Nat}, s + n = k → subStore o (List.range k) (List.range' s n) = some ((o.take k).drop s)
  | 0, s, h => by
    simp only [Nat.add_zero] at h; subst h
    simp [subStore]
  | n + 1, s, h => by
    simp only [List.range'_succ, subStore]
    have hs : s < o.length := by omega
    have hg : o[s]? = some o[s] := List.getElem?_eq_getElem hs
    rw [hg, sub_range hb hl (by omega)]
    have hm : o[s] ∈ o.take k := by
      rw [List.mem_take_iff_getElem]
      exact ⟨s, by omega, rfl⟩
    simp only [oren_bel (hb _ hm), Option.map_some]
    congr 1
    have hk : s < (o.take k).length := by simp; omega
    rw [List.drop_eq_getElem_cons hk]
    simp

theorem nodup_range' : ∀ {n s : Nat}, callOwn.nodupN (List.range' s n) = true
  | 0, _ => by simp [callOwn.nodupN]
  | n + 1, s => by
    simp only [List.range'_succ, callOwn.nodupN, nodup_range', Bool.and_true, Bool.not_eq_true']
    simp [List.mem_range']
    intro x _
    omega

theorem belL_app {k : Nat} : ∀ {a b : List AV}, belL k a = true → belL k b = true → belL k (a ++ b) = true
  | [], b, _, h => h
  | x :: a, b, h, h2 => by
    simp only [belL, Bool.and_eq_true] at h
    simp only [List.cons_append, belL, h.1, belL_app h.2 h2, Bool.and_self]

theorem avs_bel {k : Nat} : ∀ {o : Store}, (∀ x ∈ o, x.bel k = true) → belL k (o.flatMap finishOwn.AObj.avs) = true
  | [], _ => by simp [belL]
  | x :: o, h => by
    simp only [List.flatMap_cons]
    refine belL_app ?_ (avs_bel fun y hy => h y (by simp [hy]))
    have hx := h x (by simp)
    cases x with
    | dead => simp [finishOwn.AObj.avs, belL]
    | cells cs e sz pu => cases pu <;> simp [finishOwn.AObj.avs, belL]; simpa [AObj.bel] using hx
    | map es kt pu => cases pu <;> simp [finishOwn.AObj.avs, belL]; simpa [AObj.bel] using hx

theorem finishOwn_bel {k : Nat} {r : AV} {o : Store} (hr : r.bel k = true) (ho : ∀ x ∈ o, x.bel k = true) (hl : k ≤ o.length) : finishOwn k r o = some (r, o.take k) := by
  unfold finishOwn
  rw [frz_bel hr, frzS_bel ho]
  simp only
  have ht : (dropPu (fun i => decide (k ≤ i)) 0 o).take k = o.take k := by simpa using dropPu_take (k := k) (o := o) (i := 0)
  have hlen : ∀ {o : Store} {i : Nat}, (dropPu (fun i => decide (k ≤ i)) i o).length = o.length := by
    intro o
    induction o with
    | nil => intro i; rfl
    | cons x o ih => intro i; simp only [dropPu, List.length_cons, ih]
  have hb : ∀ x ∈ o.take k, x.bel k = true := fun x hx => ho x (List.mem_of_mem_take hx)
  rw [ht, reach_bel (by simp only [belL, hr, Bool.true_and]; exact avs_bel hb)]
  have hn : callOwn.nodupN (List.range k) = true := by rw [List.range_eq_range']; exact nodup_range'
  rw [if_pos hn, ren_bel hr]
  have hs := sub_range (k := k) (o := dropPu (fun i => decide (k ≤ i)) 0 o) (by rw [ht]; exact hb) (by rw [hlen]; exact hl) (n := k) (s := 0) (by omega)
  rw [← List.range_eq_range', ht, List.drop_zero] at hs
  rw [hs]

section
variable {P : Program} {T : Tab} {p : SPar} {Λ : Nat → LoopAnn}

theorem fnOwnK_sound (hT : TabOK P T) (hC : SCallsOK T.K p.C) {f : FuncId} {F : IFn} (hF : T.fn f = some F) {args : List SV} {o : SStore} {r : AV} {o' : Store} (hK : T.K f (gL args) (gO o) true = none) (hlen : args.length = F.params)
    {Q : SV → SStore → Prop} (hQ : ∀ v s, Q v s → v.g = r ∧ gO s = o') (h : fnOwnK p Λ F args o Q) : goodF P f = true ∧ CallO P f (gL args) (gO o) r o' := by
  unfold fnOwnK at h
  have hw := wpS_sound hC h
  have hst : (SSt.mk (bindS 0 args) o).g = ⟨bindArgs 0 (gL args), gO o⟩ := by simp [SSt.g, bindS_g]
  rw [hst] at hw
  have hol : (gO o).length = o.length := gO_len o
  rw [← hol] at hw
  have fin : ∀ (ss : SSt), (resK ss F.res fun v => if v.bel (gO o).length && ss.o.all (fun x => x.bel (gO o).length) && decide ((gO o).length ≤ ss.o.length) then Q v (ss.o.take (gO o).length) else False) →
      (resultsA ss.g F.res).bind (fun r0 => finish true (gO o).length r0 ss.g.o) = some (r, o') := by
    intro ss hq
    obtain ⟨r0, h1, h2⟩ := resK_sound hq
    rw [h1]
    simp only [Option.bind_some, finish, if_true]
    split at h2
    · rename_i hc
      simp only [Bool.and_eq_true, decide_eq_true_eq, List.all_eq_true] at hc
      obtain ⟨⟨hc1, hc2⟩, hc3⟩ := hc
      have hob : ∀ x ∈ ss.g.o, x.bel (gO o).length = true := by
        intro x hx
        simp only [SSt.g, gO, List.mem_map] at hx
        obtain ⟨y, hy, rfl⟩ := hx
        rw [obel_g]
        exact hc2 y hy
      rw [finishOwn_bel (by rw [bel_g]; exact hc1) hob (by simp only [SSt.g, gO_len] at hc3 ⊢; exact hc3)]
      rw [← (hQ _ _ h2).1, ← (hQ _ _ h2).2]
      simp only [SSt.g, gO, List.map_take]
    · exact h2.elim
  obtain ⟨h1, h2, _⟩ := call_of_vw hT hF (o := gO o) (own := true) hK (by rw [gL_len]; exact hlen) (v := r) (o' := o') (hw.mono fun out s hs => by
    obtain ⟨ss, rfl, hq⟩ := hs
    cases out with
    | exit id => exact hq.elim
    | norm => exact ⟨.inl rfl, fin ss hq⟩
    | ret => exact ⟨.inr rfl, fin ss hq⟩)
  exact ⟨h1, h2⟩
end

/-! ### contracts of calls that may write -/

structure OCtr where
  f : FuncId
  α : Type
  put : α → List SV
  st : α → SStore
  dec : List SV → SStore → Option α
  ok : ∀ v o a, dec v o = some a → gL v = gL (put a) ∧ gO o = gO (st a)
  inj : ∀ a b, gL (put a) = gL (put b) → gO (st a) = gO (st b) → a = b
  dom : α → Prop
  res : α → SV
  out : α → SStore

def HoldsO (P : Program) (c : OCtr) : Prop := ∀ a, c.dom a → goodF P c.f = true ∧ CallO P c.f (gL (c.put a)) (gO (c.st a)) (c.res a).g (gO (c.out a))

def findO (f : FuncId) : List OCtr → Option OCtr
  | [] => none
  | c :: r => bif Nat.beq c.f f then some c else findO f r

theorem findO_f : ∀ {L : List OCtr} {f : FuncId} {c : OCtr}, findO f L = some c → c.f = f ∧ c ∈ L
  | [], _, _, h => by cases h
  | d :: L, f, c, h => by
    simp only [findO] at h
    cases hq : Nat.beq d.f f with
    | true =>
      rw [hq] at h
      simp only [cond_true, Option.some.injEq] at h
      subst h
      exact ⟨Nat.eq_of_beq_eq_true hq, by simp⟩
    | false =>
      rw [hq] at h
      simp only [cond_false] at h
      obtain ⟨h1, h2⟩ := findO_f h
      exact ⟨h1, by simp [h2]⟩

def ownC (W : List OCtr) (f : FuncId) (args : List SV) (o : SStore) (K : SV → SStore → Prop) : Prop :=
  match findO f W with
  | some c => optK (c.dec args o) fun a => c.dom a ∧ K (c.res a) (c.out a)
  | none => False

open Classical in
noncomputable def ownA (W : List OCtr) (f : FuncId) (args : List AV) (o : Store) : Option (AV × Store) :=
  match findO f W with
  | some c => if h : ∃ a, args = gL (c.put a) ∧ o = gO (c.st a) ∧ c.dom a then some ((c.res (Classical.choose h)).g, gO (c.out (Classical.choose h))) else none
  | none => none

noncomputable def ownT (W : List OCtr) : OwnT := ⟨ownA W, fun f args o K => ownS (ownC W) f args o K⟩

theorem ownT_ok {P : Program} {W : List OCtr} (hW : ∀ c ∈ W, HoldsO P c) : OwnOK P (ownT W) where
  K := fun f args o r o' h => by
    simp only [ownT, ownA] at h
    split at h
    · rename_i c hc
      obtain ⟨rfl, hm⟩ := findO_f hc
      split at h
      · rename_i hx
        simp only [Option.some.injEq, Prod.mk.injEq] at h
        generalize hb : Classical.choose hx = b at h
        have hs := Classical.choose_spec hx
        rw [hb] at hs
        obtain ⟨h1, h2, h3⟩ := hs
        obtain ⟨h4, h5⟩ := hW c hm _ h3
        refine ⟨h4, ?_⟩
        rw [h1, h2, ← h.1, ← h.2]
        exact h5
      · cases h
    · cases h
  C := fun call hcall f args o K h => by
    refine ownS_sound ?_ h
    intro f args o K hk
    simp only [ownC] at hk
    split at hk
    · rename_i c hc
      obtain ⟨a, h1, h2, h3⟩ := optK_some hk
      refine ⟨_, _, ?_, h3⟩
      rw [hcall]
      obtain ⟨h4, h5⟩ := c.ok _ _ _ h1
      have hx : ∃ b, gL args = gL (c.put b) ∧ gO o = gO (c.st b) ∧ c.dom b := ⟨a, h4, h5, h2⟩
      simp only [ownT, ownA, hc, dif_pos hx]
      have : Classical.choose hx = a := c.inj _ _ ((Classical.choose_spec hx).1.symm.trans h4) ((Classical.choose_spec hx).2.1.symm.trans h5)
      rw [this]
    · exact hk.elim

/-- A contract of a call that may write, from what must hold for the code. -/
theorem holdsO_of {P : Program} {fn : FuncId → Option IFn} {L : List SCtr} {W : List OCtr} (c : OCtr) {F : IFn} {ty : TypeId → Option SId} {mt : List Nat × Bool → Option (SId × SId)} {Λ : c.α → Nat → LoopAnn}
    (h0 : TabOK P ⟨fn, fun _ _ _ _ => none⟩) (hW : ∀ c ∈ W, HoldsO P c) (hL : ∀ c ∈ L, Holds P c)
    (hF : fn c.f = some F) (hlen : ∀ a, (c.put a).length = F.params)
    (a : c.α) (hfr : ∀ d, findO c.f W = some d → ∀ b, gL (c.put a) = gL (d.put b) → gO (c.st a) = gO (d.st b) → ¬ d.dom b)
    (h : fnOwnK (parL L (ownT W) ty mt) (Λ a) F (c.put a) (c.st a) fun v s => v.same (c.res a) ∧ sameO s (c.out a)) :
    goodF P c.f = true ∧ CallO P c.f (gL (c.put a)) (gO (c.st a)) (c.res a).g (gO (c.out a)) := by
  refine fnOwnK_sound (p := parL L (ownT W) ty mt) (Λ := Λ a) (Q := fun v s => v.same (c.res a) ∧ sameO s (c.out a)) (tabL_ok (ownT_ok hW) hL h0) (tabL_calls (ownT_ok hW)) hF ?_ (hlen a) (fun v s hs => ⟨hs.1, sameO_g hs.2⟩) ?_
  · simp only [tabL, tabK, if_true, ownT, ownA]
    split
    · rename_i d hd
      rw [dif_neg]
      rintro ⟨b, h1, h2, h3⟩
      exact hfr d hd b h1 h2 h3
    · rfl
  · exact h

end Go.Vi
