/-
  The abstract interpreter: one operation of a region, run.
  Conditions: none.
-/
import Derived.Test.YtigbjjkijfkeeaaViSub
namespace Go.Vi

section
variable {P : Program} {A : Nat → Prop} {w w' : World} {σ σ' : Sig} {o o' : Store}

theorem call_any {call : Oracle} (hcall : OracleOK P call) (hS : SimO A w σ o) {f : FuncId} {args : List AV} {vs : List Value} (hr : RepL A w σ o args vs) {own : Bool} {r : AV} (hc : callA call f args o own = some (r, o')) :
    goodF P f = true ∧ Calls P f vs.toArray w fun e w' => ∃ u σ', e = .returned u ∧ SimO A w' σ' o' ∧ Rep A w' σ' o' r u ∧ Ext w σ o w' σ' o' := by
  unfold callA at hc
  split at hc
  · exact call_own hcall hS hr hc
  · split at hc
    · cases hc
    · rename_i args' ha
      split at hc
      · rename_i r' hc'
        split at hc
        · rename_i hcl
          simp only [Option.some.injEq, Prod.mk.injEq] at hc
          obtain ⟨rfl, rfl⟩ := hc
          simp only [Bool.or_eq_true] at hcl
          exact call_pure hcall hS hr ha hc' hcl
        · cases hc
      · cases hc

theorem run_callFunc {f : FuncId} (hg : goodF P f = true) (args : Array Value) (w : World) : (callFunc f args).run P w = .ok (.enter f args) w := by
  unfold goodF at hg
  cases hf : P.funcs[f]? with
  | none => simp [hf] at hg
  | some fn =>
    simp only [hf, Option.any_some, Bool.and_eq_true, Bool.not_eq_true'] at hg
    have h2 : fn.body.isNone = false := by cases hb : fn.body <;> simp_all
    have h3 : ¬ fn.name = "runtime.NumGoroutine" := by
      have := hg.2
      simpa using this
    have h4 : ¬ fn.body = none := by intro hb; simp [hb] at h2
    simp [callFunc, program, Sem.run, hf, h3, h4]

theorem compOp_call {fl : Bool} {oper : Oper} {iop : IOp} (hc : compOp P fl oper = some iop) (h : iop.isCall = true) :
    ∃ c : Call, oper.op = .call c ∧ ((∃ f, c.callee = .value (.func f) ∧ iop = .call f c.args.toList fl) ∨ ∃ x, c.callee = .value x ∧ iop = .callv x c.args.toList fl) := by
  cases hop : oper.op
  case call c =>
    refine ⟨c, rfl, ?_⟩
    simp only [compOp, hop] at hc
    split at hc
    · rename_i f hcal
      split at hc
      · injection hc with hc; exact .inl ⟨f, hcal, hc.symm⟩
      · cases hc
    · rename_i x _ hcal
      injection hc with hc
      exact .inr ⟨x, hcal, hc.symm⟩
    all_goals
      exfalso
      (repeat' (split at hc)) <;> first
        | (cases hc; done)
        | (injection hc with hc; subst hc; simp [IOp.isCall] at h; done)
  case buildSlice =>
    exfalso
    simp only [compOp, hop] at hc
    (repeat' (split at hc)) <;> first
      | (cases hc; done)
      | (injection hc with hc; subst hc; simp [IOp.isCall] at h; done)
      | (injection hc with hc; subst hc; split at h <;> simp [IOp.isCall] at h; done)
  case slice t x lo hi mx =>
    exfalso
    cases mx <;> simp only [compOp, hop, reduceCtorEq] at hc
    (repeat' (split at hc)) <;> first
      | (cases hc; done)
      | (injection hc with hc; subst hc; simp [IOp.isCall] at h; done)
  case makeMap t r =>
    exfalso
    cases r <;> simp only [compOp, hop, reduceCtorEq] at hc
    (repeat' (split at hc)) <;> first
      | (cases hc; done)
      | (injection hc with hc; subst hc; simp [IOp.isCall] at h; done)
  all_goals
    exfalso
    simp only [compOp, hop, reduceCtorEq] at hc
    try (repeat' (split at hc)) <;> first
      | (cases hc; done)
      | (injection hc with hc; subst hc; simp [IOp.isCall] at h; done)
      | (obtain ⟨_, _, rfl⟩ := Option.map_eq_some_iff.1 hc; simp [IOp.isCall] at h; done)

/-- One operation. -/
theorem op_wp {call : Oracle} (hcall : OracleOK P call) {fl : Bool} {oper : Oper} {iop : IOp} (hc : compOp P fl oper = some iop) (hS : SimO A w σ o) {ρA : Operand → AV} {a : Act} (hρ : ∀ x, Rep A w σ o (ρA x) (a.eval x)) {nid : Nat} {v : AV}
    (he : eff call iop ρA o nid = some (v, o')) {next : Act → World → Prop} {Q : Exit → Act → World → Prop}
    (hk : ∀ u w' σ', SimO A w' σ' o' → Rep A w' σ' o' v u → Ext w σ o w' σ' o' → next (a.put oper.dst u) w') : oper.wp P a w next Q := by
  by_cases hcl : iop.isCall = false
  · obtain ⟨u, w1, σ1, hrun, h1, h2, h3⟩ := eff_gives hc hcl hS hρ he
    unfold Oper.wp
    rcases hrun with hrun | ⟨hrun, rfl⟩
    · rw [hrun]
      exact hk u w1 σ1 h1 h2 h3
    · rw [hrun]
      exact hk undef w1 σ1 h1 h2 h3
  · -- a call
    have fin : ∀ (f : FuncId) (args : List AV) (vs : List Value) (own : Bool), RepL A w σ o args vs → callA call f args o own = some (v, o') →
        (goodF P f = true → (execOp a.eval oper).run P w = .ok (.enter f vs.toArray) w) → oper.wp P a w next Q := by
      intro f args vs own hr hca hex
      obtain ⟨hg, hcs⟩ := call_any hcall hS hr hca
      unfold Oper.wp
      rw [hex hg]
      refine hcs.mono ?_
      rintro e w' ⟨u, σ', rfl, q1, q2, q3⟩
      exact hk u w' σ' q1 q2 q3
    obtain ⟨c, hop, hh⟩ := compOp_call hc (by simpa using hcl)
    rw [eff_eq] at he
    rcases hh with ⟨f, hcal, rfl⟩ | ⟨x, hcal, rfl⟩
    · simp only [effS] at he
      refine fin f (c.args.toList.map ρA) (c.args.toList.map a.eval) fl (repL_map hρ _) he fun hg => ?_
      simp only [execOp, hop, resolve, hcal]
      simp [Act.eval, Deferred.ofValue, invoke, run_callFunc hg]
      exact Array.ext' (by simp)
    · simp only [effS] at he
      split at he
      · rename_i g first captured hx
        have h1 := hρ x
        rw [hx] at h1
        simp only [Rep] at h1
        obtain ⟨f', c', hv, hf, hcp⟩ := h1
        refine fin g (first ++ c.args.toList.map ρA ++ captured) (f'.toList ++ c.args.toList.map a.eval ++ c'.toList) fl (RepL.append (RepL.append hf (repL_map hρ _)) hcp) he fun hg => ?_
        simp only [execOp, hop, resolve, hcal]
        simp [hv, Deferred.ofValue, invoke, run_callFunc hg]
      · cases he

/-! ### a frame -/

/-- A frame's temporaries and the world, as the interpreter has them. -/
structure Sim (A : Nat → Prop) (nt : Nat) (w0 : World) (σ0 : Sig) (o0 : Store) (st : St) (a : Act) (w : World) (σ : Sig) : Prop where
  sim : SimO A w σ st.o
  env : ∀ s, Rep A w σ st.o (getE st.env s) (a.tmps.getD s undef)
  size : a.tmps.size = nt
  defers : a.defers = []
  ext : Ext w0 σ0 o0 w σ st.o

theorem rep_ofVal (v : Value) : Rep A w σ o (.ofVal v) v := by
  cases v <;> simp only [AV.ofVal] <;> try (simp [Rep, Value.oneCell']; done)
  rename_i cs
  split
  · rename_i h
    simp only [Rep]
    refine ⟨cs, rfl, repL_sc A w σ o cs.toList fun u hu => ?_⟩
    exact List.all_eq_true.1 h u hu
  · simp [Rep]

theorem Sim.ev {nt : Nat} {w0 : World} {σ0 : Sig} {o0 : Store} {st : St} {a : Act} (h : Sim A nt w0 σ0 o0 st a w σ) (x : Operand) : Rep A w σ st.o (evA st.env x) (a.eval x) := by
  cases x with
  | tmp t => exact h.env t
  | const v => exact rep_ofVal v
  | global g => simp [evA, Rep]
  | func f => simp only [evA, Act.eval, Rep]; exact ⟨#[], #[], rfl, by simp [RepL], by simp [RepL]⟩

theorem put_getD {a : Act} {dst : Option Tmp} {u : Value} {nt : Nat} (hs : a.tmps.size = nt) (hd : dstOk nt dst = true) (s : Nat) :
    (a.put dst u).tmps.getD s undef = if dst = some s then u else a.tmps.getD s undef := by
  cases dst with
  | none => simp [Act.put]
  | some d =>
    simp only [dstOk, decide_eq_true_eq] at hd
    simp only [Act.put, Option.some.injEq]
    by_cases h : d = s
    · subst h
      rw [if_pos rfl]
      simp [Array.getD_eq_getD_getElem?, hs, hd]
    · rw [if_neg h]
      simp [Array.getD_eq_getD_getElem?, Array.getElem?_setIfInBounds_ne h]

theorem put_size (a : Act) (dst : Option Tmp) (u : Value) : (a.put dst u).tmps.size = a.tmps.size ∧ (a.put dst u).defers = a.defers := by
  cases dst <;> simp [Act.put]

theorem getE_put (env : EnvA) (dst : Option Nat) (v : AV) (s : Nat) : getE (putE env dst v) s = if dst = some s then v else getE env s := by
  cases dst with
  | none => simp [putE]
  | some d =>
    simp only [putE, getE, Option.some.injEq]
    by_cases h : d = s
    · subst h; simp
    · have : Nat.beq d s = false := by
        cases hq : Nat.beq d s with
        | false => rfl
        | true => exact absurd (Nat.eq_of_beq_eq_true hq) h
      simp [this, h]

/-- A value is put into its slot. -/
theorem Sim.put {nt : Nat} {w0 : World} {σ0 : Sig} {o0 : Store} {st : St} {a : Act} (h : Sim A nt w0 σ0 o0 st a w σ) (hS : SimO A w' σ' o') (hE : Ext w σ st.o w' σ' o') {dst : Option Tmp} (hd : dstOk nt dst = true) {v : AV} {u : Value} (hr : Rep A w' σ' o' v u) :
    Sim A nt w0 σ0 o0 ⟨putE st.env dst v, o'⟩ (a.put dst u) w' σ' where
  sim := hS
  env := fun s => by
    simp only [getE_put, put_getD h.size hd]
    split
    · exact hr
    · exact (h.env s).ext hE
  size := by rw [(put_size _ _ _).1]; exact h.size
  defers := by rw [(put_size _ _ _).2]; exact h.defers
  ext := h.ext.trans hE

theorem wanted_of {nt : Nat} {w0 : World} {σ0 : Sig} {o0 : Store} {st : St} {a : Act} (h : Sim A nt w0 σ0 o0 st a w σ) {ops : Array Oper} {oper : Oper} {b : Bool}
    (hw : wantA st.env (oper.guard.map fun g => (((ops[g.1]?).bind (·.dst)), g.2)) = some b) : Region.wanted oper (yielded ops a.tmps) = b := by
  unfold Region.wanted
  cases hg : oper.guard with
  | none => simp [hg, wantA] at hw; simp [hw]
  | some g =>
    obtain ⟨j, q⟩ := g
    simp only [hg, Option.map_some, wantA] at hw
    cases hd : (ops[j]?).bind (·.dst) with
    | none => simp [hd] at hw
    | some s =>
      simp only [hd] at hw
      have hs := h.env s
      simp only [yielded, hd, Option.bind_some]
      split at hw
      · rename_i c hc
        injection hw with hw
        rw [hc] at hs
        have h2 := rep_sc hs
        have h3 : a.tmps[s]? = some (.bool c) := by
          rw [Array.getD_eq_getD_getElem?] at h2
          cases hq : a.tmps[s]? with
          | none => rw [hq] at h2; simp [undef] at h2
          | some x => rw [hq] at h2; simp at h2; rw [h2]
        rw [h3]
        simp only
        rw [← hw]
        cases c <;> cases q <;> rfl
      · rename_i hc
        injection hw with hw
        rw [hc] at hs
        simp only [Rep, RepL] at hs
        obtain ⟨vs, h2, h3⟩ := hs
        have h4 : vs = #[] := Array.ext' (by simpa using h3)
        subst h4
        have h3 : a.tmps[s]? = some (.tuple #[]) ∨ a.tmps[s]? = none := by
          rw [Array.getD_eq_getD_getElem?] at h2
          cases hq : a.tmps[s]? with
          | none => exact .inr rfl
          | some x => rw [hq] at h2; simp at h2; rw [h2]; exact .inl rfl
        rw [← hw]
        rcases h3 with h3 | h3 <;> rw [h3] <;> cases q <;> rfl
      · cases hw

/-- One operation of a region. -/
theorem runOp_wp {call : Oracle} (hcall : OracleOK P call) {nt : Nat} {fl : List Nat} {ops : Array Oper} {nid k : Nat} {i : IOper} (hc : compOper P nt fl ops nid k = some i) {base : Nat} {st st' : St} (hr : runOp call base i st = some st')
    {w0 : World} {σ0 : Sig} {o0 : Store} {a : Act} (h : Sim A nt w0 σ0 o0 st a w σ) {K : Act → World → Prop} {Q : Exit → Act → World → Prop} (hk : ∀ a' w' σ', Sim A nt w0 σ0 o0 st' a' w' σ' → K a' w') : wpOp P ops Q k K a w := by
  unfold compOper at hc
  cases ho : ops[k]? with
  | none => simp [ho] at hc
  | some oper =>
    simp only [ho] at hc
    split at hc
    · rename_i hd
      obtain ⟨op, hop, rfl⟩ := Option.map_eq_some_iff.1 hc
      unfold wpOp
      simp only [ho]
      simp only [runOp] at hr
      split at hr
      · cases hr
      · rename_i hw
        have := wanted_of h hw
        rw [this]
        injection hr with hr
        subst hr
        simp only [Bool.false_eq_true, if_false]
        exact hk _ _ σ (h.put h.sim (Ext.refl _ _ _) hd (by simp only [Rep]; exact ⟨#[], rfl, by simp [RepL]⟩))
      · rename_i hw
        have := wanted_of h hw
        rw [this]
        simp only [if_true]
        left
        split at hr
        · rename_i v o' he
          injection hr with hr
          subst hr
          exact op_wp hcall hop h.sim h.ev he fun u w' σ' q1 q2 q3 => hk _ _ σ' (h.put q1 q3 hd q2)
        · cases hr
    · cases hc

/-- A plain region: the operations in their order. -/
theorem runOps_wp {call : Oracle} (hcall : OracleOK P call) {nt : Nat} {fl : List Nat} {ops : Array Oper} {base : Nat} {w0 : World} {σ0 : Sig} {o0 : Store} {Q : Exit → Act → World → Prop} :
    ∀ (l : List IOper) (idx : List Nat), l.length = idx.length → (∀ (j : Nat) (i : IOper) (k : Nat), l[j]? = some i → idx[j]? = some k → ∃ nid, compOper P nt fl ops nid k = some i) → ∀ (st st' : St) (a : Act) (w : World) (σ : Sig),
      runOps call base l st = some st' → Sim A nt w0 σ0 o0 st a w σ → (∀ a' w' σ', Sim A nt w0 σ0 o0 st' a' w' σ' → Q .normal a' w') → wpOps P ops Q idx a w
  | [], [], _, _, st, st', a, w, σ, hr, h, hQ => by
    simp only [runOps, Option.some.injEq] at hr
    subst hr
    exact hQ a w σ h
  | [], _ :: _, hl, _, _, _, _, _, _, _, _, _ => by simp at hl
  | _ :: _, [], hl, _, _, _, _, _, _, _, _, _ => by simp at hl
  | i :: l, k :: idx, hl, hc, st, st', a, w, σ, hr, h, hQ => by
    simp only [runOps] at hr
    split at hr
    · rename_i st1 h1
      obtain ⟨nid, hci⟩ := hc 0 i k (by simp) (by simp)
      rw [wpOps_cons]
      exact runOp_wp hcall hci h1 h fun a' w' σ' h' => runOps_wp hcall l idx (by simpa using hl) (fun j i' k' hi hk => hc (j + 1) i' k' (by simpa using hi) (by simpa using hk)) st1 st' a' w' σ' hr h' hQ
    · cases hr

theorem compOpers_get {nt : Nat} {fl : List Nat} {ops : Array Oper} : ∀ {k : Nat} {idx : List Nat} {l : List IOper} {n : Nat}, compOpers P nt fl ops k idx = some (l, n) →
    l.length = idx.length ∧ (∀ (j : Nat) (i : IOper) (q : Nat), l[j]? = some i → idx[j]? = some q → ∃ nid, compOper P nt fl ops nid q = some i)
  | k, [], l, n, h => by simp only [compOpers, Option.some.injEq, Prod.mk.injEq] at h; obtain ⟨rfl, _⟩ := h; simp
  | k, i :: r, l, n, h => by
    simp only [compOpers] at h
    split at h
    · cases h
    · rename_i x hx
      split at h
      · cases h
      · rename_i l' n' hl'
        simp only [Option.some.injEq, Prod.mk.injEq] at h
        obtain ⟨rfl, _⟩ := h
        obtain ⟨h1, h2⟩ := compOpers_get hl'
        refine ⟨by simp [h1], fun j y q hy hq => ?_⟩
        cases j with
        | zero => simp at hy hq; subst hy hq; exact ⟨k, hx⟩
        | succ j => exact h2 j y q (by simpa using hy) (by simpa using hq)
end

end Go.Vi
