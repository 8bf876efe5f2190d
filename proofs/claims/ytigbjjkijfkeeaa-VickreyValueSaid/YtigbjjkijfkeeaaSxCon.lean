/-
  Contracts: what calls of functions come to, as plain functions on plain data; how a proved one is used in the next.
  Conditions: none.
-/
import Derived.Test.YtigbjjkijfkeeaaSxD
namespace Go.Vi

/-- How data lie in a value. -/
structure Cod (α : Type) where
  put : α → SV
  dec : SV → Option α
  ok : ∀ v a, dec v = some a → v.g = (put a).g
  inj : ∀ a b, (put a).g = (put b).g → a = b

/-- How data lie in a call's arguments. -/
structure ACod (α : Type) where
  put : α → List SV
  dec : List SV → Option α
  ok : ∀ v a, dec v = some a → gL v = gL (put a)
  inj : ∀ a b, gL (put a) = gL (put b) → a = b

def ACod.one {α : Type} (c : Cod α) : ACod α where
  put a := [c.put a]
  dec
    | [v] => c.dec v
    | _ => none
  ok v a h := by
    match v, h with
    | [v], h => simp only [gL, c.ok v a h]
  inj a b h := by
    simp only [gL, List.cons.injEq, and_true] at h
    exact c.inj a b h

def ACod.cons {α β : Type} (c : Cod α) (d : ACod β) : ACod (α × β) where
  put a := c.put a.1 :: d.put a.2
  dec
    | v :: vs => match c.dec v, d.dec vs with
      | some a, some b => some (a, b)
      | _, _ => none
    | [] => none
  ok v a h := by
    match v, h with
    | v :: vs, h =>
      simp only at h
      split at h
      · rename_i x y h1 h2
        simp only [Option.some.injEq] at h; subst h
        simp only [gL, c.ok v x h1, d.ok vs y h2]
      · cases h
  inj a b h := by
    simp only [gL, List.cons.injEq] at h
    exact Prod.ext (c.inj _ _ h.1) (d.inj _ _ h.2)

/-- No argument. -/
def ACod.nil : ACod Unit where
  put _ := []
  dec
    | [] => some ()
    | _ => none
  ok v a h := by
    match v, h with
    | [], h => rfl
  inj a b h := rfl

structure SCtr where
  f : FuncId
  α : Type
  A : ACod α
  dom : α → Prop
  res : α → SV

def Holds (P : Program) (c : SCtr) : Prop := ∀ a, c.dom a → goodF P c.f = true ∧ CallO P c.f (gL (c.A.put a)) [] (c.res a).g []

def findC (f : FuncId) : List SCtr → Option SCtr
  | [] => none
  | c :: r => bif Nat.beq c.f f then some c else findC f r

def pureK (L : List SCtr) (f : FuncId) (args : List SV) (K : SV → Prop) : Prop :=
  match findC f L with
  | some c => optK (c.A.dec args) fun a => c.dom a ∧ K (c.res a)
  | none => False

/-- Calls that may write: what is said of them holds of the table. -/
structure OwnT where
  K : FuncId → List AV → Store → Option (AV × Store)
  C : FuncId → List SV → SStore → (SV → SStore → Prop) → Prop

def OwnT.none : OwnT := ⟨fun _ _ _ => .none, fun _ _ _ _ => False⟩

noncomputable def tabK (L : List SCtr) (W : OwnT) : Oracle := fun f args o own =>
  if own then W.K f args o
  else match o with
    | [] => match findC f L with
      | some c => (ans (fun a => gL (c.A.put a)) c.dom (fun a => (c.res a).g) args).map fun v => (v, [])
      | none => .none
    | _ => .none

noncomputable def tabL (fn : FuncId → Option IFn) (L : List SCtr) (W : OwnT) : Tab := ⟨fn, tabK L W⟩

structure OwnOK (P : Program) (W : OwnT) : Prop where
  K : ∀ f args o r o', W.K f args o = some (r, o') → goodF P f = true ∧ CallO P f args o r o'
  C : ∀ (call : Oracle), (∀ f args o, call f args o true = W.K f args o) → ∀ f args o K, W.C f args o K → ∃ (r : SV) (o' : SStore), callOwn call f (gL args) (gO o) = some (r.g, gO o') ∧ K r o'

theorem OwnOK.none (P : Program) : OwnOK P OwnT.none where
  K := fun _ _ _ _ _ h => by cases h
  C := fun _ _ _ _ _ _ h => h.elim

theorem findC_f : ∀ {L : List SCtr} {f : FuncId} {c : SCtr}, findC f L = some c → c.f = f ∧ c ∈ L
  | [], _, _, h => by cases h
  | d :: L, f, c, h => by
    simp only [findC] at h
    cases hq : Nat.beq d.f f with
    | true =>
      rw [hq] at h
      simp only [cond_true, Option.some.injEq] at h
      subst h
      exact ⟨Nat.eq_of_beq_eq_true hq, by simp⟩
    | false =>
      rw [hq] at h
      simp only [cond_false] at h
      obtain ⟨h1, h2⟩ := findC_f h
      exact ⟨h1, by simp [h2]⟩

variable {P : Program} {L : List SCtr} {W : OwnT} {fn : FuncId → Option IFn}

theorem tabL_ok (hW : OwnOK P W) (hL : ∀ c ∈ L, Holds P c) (h0 : TabOK P ⟨fn, fun _ _ _ _ => none⟩) : TabOK P (tabL fn L W) where
  fn := h0.fn
  K := fun g args o own r o' h => by
    simp only [tabL, tabK] at h
    cases own with
    | true =>
      simp only [if_true] at h
      obtain ⟨h1, h2⟩ := hW.K _ _ _ _ _ h
      exact ⟨h1, h2, fun hh => by cases hh⟩
    | false =>
      simp only [Bool.false_eq_true, if_false] at h
      split at h
      · split at h
        · rename_i c hc
          obtain ⟨rfl, hm⟩ := findC_f hc
          obtain ⟨v, hv, h2⟩ := Option.map_eq_some_iff.1 h
          simp only [Prod.mk.injEq] at h2
          obtain ⟨rfl, rfl⟩ := h2
          obtain ⟨a, rfl, hd, rfl⟩ := ans_some hv
          obtain ⟨h3, h4⟩ := hL c hm a hd
          exact ⟨h3, h4, fun _ => rfl⟩
        · cases h
      · cases h

theorem tabL_calls (hW : OwnOK P W) : SCallsOK (tabL fn L W).K ⟨pureK L, W.C⟩ where
  pure := fun f args K h => by
    simp only [pureK] at h
    split at h
    · rename_i c hc
      obtain ⟨a, h1, h2, h3⟩ := optK_some h
      refine ⟨c.res a, ?_, h3⟩
      have := c.A.ok _ _ h1
      simp only [tabL, tabK, Bool.false_eq_true, if_false, hc, this]
      rw [ans_eq (enc := fun a => gL (c.A.put a)) c.A.inj h2]
      rfl
    · exact h.elim
  own := fun f args o K h => hW.C _ (fun f args o => by simp [tabL, tabK]) f args o K h

theorem tabK_fresh {f : FuncId} {args : List AV} (h : findC f L = none) : (tabL fn L W).K f args [] false = none := by
  simp [tabL, tabK, h]

def parL (L : List SCtr) (W : OwnT) (ty : TypeId → Option SId) (mt : List Nat × Bool → Option (SId × SId)) : SPar := ⟨⟨pureK L, W.C⟩, ty, mt, fun _ => none⟩

/-- A contract, from what must hold for the code. -/
theorem holds_of (c : SCtr) {F : IFn} {ty : TypeId → Option SId} {mt : List Nat × Bool → Option (SId × SId)} {Λ : c.α → Nat → LoopAnn} (h0 : TabOK P ⟨fn, fun _ _ _ _ => none⟩) (hW : OwnOK P W) (hL : ∀ c ∈ L, Holds P c)
    (hF : fn c.f = some F) (hfr : findC c.f L = none) (hlen : ∀ a, (c.A.put a).length = F.params)
    (h : ∀ a, c.dom a → fnK (parL L W ty mt) (Λ a) F (c.A.put a) fun v => v.same (c.res a)) : Holds P c := by
  intro a hd
  exact fnK_sound (p := parL L W ty mt) (Λ := Λ a) (tabL_ok hW hL h0) (tabL_calls hW) hF (tabK_fresh hfr) (hlen a) (h a hd)

/-! ### codes of values -/

def codI (k : IntKind) : Cod Int where
  put n := .si k n
  dec v := v.int k
  ok v a h := by rw [int_g h]; rfl
  inj a b h := by simpa [SV.g] using h

def codB : Cod Bool where
  put b := .sb b
  dec v := v.boo
  ok v a h := by rw [boo_g h]; rfl
  inj a b h := by simpa [SV.g] using h

theorem encV_inj (s : SId) : ∀ (x y : s.T), encV s x = encV s y → x = y := by
  intro x y h
  cases s with
  | i k => simpa [encV] using h
  | b => simpa [encV] using h
  | bun =>
    obtain ⟨a0, a1, a2, a3, a4, a5⟩ := x
    obtain ⟨b0, b1, b2, b3, b4, b5⟩ := y
    simp only [encV, iv, List.cons.injEq, Value.int.injEq, true_and, and_true] at h
    simp only [Bun.mk.injEq]
    exact h
  | off =>
    obtain ⟨b, ⟨a0, a1, a2, a3, a4, a5⟩, v⟩ := x
    obtain ⟨c, ⟨b0, b1, b2, b3, b4, b5⟩, w⟩ := y
    simp only [encV, iv, List.cons.injEq, Value.int.injEq, true_and, and_true] at h
    simp only [Off.mk.injEq, Bun.mk.injEq]
    simp [h]
  | need =>
    obtain ⟨a, b⟩ := x
    obtain ⟨c, d⟩ := y
    simp only [encV, iv, List.cons.injEq, Value.int.injEq, true_and, and_true] at h
    simp [h]
  | key =>
    obtain ⟨b, ⟨a0, a1, a2, a3, a4, a5⟩⟩ := x
    obtain ⟨c, ⟨b0, b1, b2, b3, b4, b5⟩⟩ := y
    simp only [encV, iv, List.cons.injEq, Value.int.injEq, true_and, and_true] at h
    simp only [BKey.mk.injEq, Bun.mk.injEq]
    simp [h]
  | sit =>
    obtain ⟨m, ⟨a0, a1, a2, a3, a4, a5⟩, ⟨c0, c1, c2, c3, c4, c5⟩⟩ := x
    obtain ⟨n, ⟨b0, b1, b2, b3, b4, b5⟩, ⟨d0, d1, d2, d3, d4, d5⟩⟩ := y
    simp only [encV, iv, List.cons.injEq, Value.int.injEq, true_and, and_true] at h
    simp only [Sit.mk.injEq, Bun.mk.injEq]
    simp [h]

theorem encA_inj (s : SId) (x y : s.T) (h : encA s x = encA s y) : x = y := encV_inj s x y (map_sc_inj h)

theorem flatA_inj (s : SId) : ∀ {l m : List s.T}, l.length = m.length → flatA s l = flatA s m → l = m
  | [], [], _, _ => rfl
  | [], _ :: _, h, _ => by simp at h
  | _ :: _, [], h, _ => by simp at h
  | x :: l, y :: m, hl, h => by
    simp only [flatA, List.flatMap_cons] at h
    obtain ⟨h1, h2⟩ := List.append_inj h (by simp [encA_len])
    simp only [List.length_cons, Nat.add_right_cancel_iff] at hl
    rw [encA_inj s x y h1, flatA_inj s hl h2]

/-- An element by itself. -/
def codE (s : SId) : Cod s.T where
  put x := .agg (encS s x)
  dec
    | .agg cs => decS s cs
    | _ => none
  ok v a h := by
    match v, h with
    | .agg cs, h => simp only at h; simp only [SV.g, gL_map, decS_g h, encS_g]
  inj a b h := by
    simp only [SV.g, gL_map, encS_g, AV.agg.injEq] at h
    exact encA_inj s a b h

def decRow (s : SId) : SV → Option (List s.T)
  | .row s' l => match castL s' s l with
    | some l => some l
    | none => match l with
      | [] => some []
      | _ => none
  | _ => none

theorem decRow_ok {s : SId} {v : SV} {l : List s.T} (h : decRow s v = some l) : v.g = (SV.row s l).g := by
  cases v <;> simp only [decRow, reduceCtorEq] at h
  rename_i s' l'
  split at h
  · rename_i l2 hc
    simp only [Option.some.injEq] at h; subst h
    obtain ⟨rfl, h2, h3⟩ := castL_flat hc
    simp only [SV.g, h2, h3]
  · split at h
    · simp only [Option.some.injEq] at h; subst h
      simp [SV.g, flatA]
    · cases h

/-- A slice. -/
def codR (s : SId) : Cod (List s.T) where
  put l := .row s l
  dec := decRow s
  ok v a h := decRow_ok h
  inj a b h := by
    simp only [SV.g, AV.sl.injEq] at h
    exact flatA_inj s h.1 h.2

end Go.Vi
