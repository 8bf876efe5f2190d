/-
  The abstract interpreter: what a run comes to, with no word of how long it takes.
  Conditions: none.
-/
import Derived.Test.YtigbjjkijfkeeaaViExec
namespace Go.Vi

/-- With fuel enough the run comes to this. -/
def Ev (T : Tab) (lo : Nat) (c : IR) (st : St) (r : Out × St) : Prop := ∃ N, ∀ n, N ≤ n → exec T n lo c st = some r

section
variable {T : Tab} {lo : Nat} {st st1 st' : St} {r : Out × St} {a b : IR} {out : Out}

theorem Ev.mk (N : Nat) (h : ∀ n, N ≤ n → exec T (n + 1) lo a st = some r) : Ev T lo a st r :=
  ⟨N + 1, fun n hn => by
    match n, hn with
    | n + 1, hn => exact h n (by omega)⟩

theorem Ev.skip : Ev T lo .skip st (.norm, st) := .mk 0 fun _ _ => rfl
theorem Ev.ret : Ev T lo .ret st (.ret, st) := .mk 0 fun _ _ => rfl
theorem Ev.exit {id : Nat} : Ev T lo (.exit id) st (.exit id, st) := .mk 0 fun _ _ => rfl

theorem Ev.seq (h : Ev T lo a st (.norm, st1)) (k : Ev T lo b st1 r) : Ev T lo (.seq a b) st r := by
  obtain ⟨N, h⟩ := h
  obtain ⟨M, k⟩ := k
  exact .mk (N + M) fun n hn => by simp only [exec, h n (by omega), k n (by omega)]

theorem Ev.seq_out (h : Ev T lo a st (out, st1)) (hne : out ≠ .norm) : Ev T lo (.seq a b) st (out, st1) := by
  obtain ⟨N, h⟩ := h
  exact .mk N fun n hn => by
    simp only [exec, h n hn]
    cases out <;> first | rfl | exact absurd rfl hne

theorem Ev.condT {x : Operand} (hx : evA st.env x = .sc (.bool true)) (h : Ev T lo a st r) : Ev T lo (.cond x a b) st r := by
  obtain ⟨N, h⟩ := h
  exact .mk N fun n hn => by simp only [exec, hx]; exact h n hn

theorem Ev.condF {x : Operand} (hx : evA st.env x = .sc (.bool false)) (h : Ev T lo b st r) : Ev T lo (.cond x a b) st r := by
  obtain ⟨N, h⟩ := h
  exact .mk N fun n hn => by simp only [exec, hx]; exact h n hn

theorem Ev.cond {x : Operand} {q : Bool} (hx : evA st.env x = .sc (.bool q)) (ht : q = true → Ev T lo a st r) (hf : q = false → Ev T lo b st r) : Ev T lo (.cond x a b) st r := by
  cases q with
  | true => exact .condT hx (ht rfl)
  | false => exact .condF hx (hf rfl)

/-- What a block makes of an outcome. -/
def Out.inBlock (id : Nat) : Out → Out
  | .exit id' => if id' = id then .norm else .exit id'
  | o => o

theorem Ev.block {id : Nat} (h : Ev T lo a st (out, st1)) : Ev T lo (.block id a) st (out.inBlock id, st1) := by
  obtain ⟨N, h⟩ := h
  exact .mk N fun n hn => by
    simp only [exec, h n hn]
    cases out with
    | exit id' => simp only [Out.inBlock]; split <;> rfl
    | _ => rfl

theorem Ev.loop_step (h : Ev T lo a st (.norm, st1)) (k : Ev T lo (.loop a) (trim st.o.length st1) r) : Ev T lo (.loop a) st r := by
  obtain ⟨N, h⟩ := h
  obtain ⟨M, k⟩ := k
  exact .mk (N + M) fun n hn => by
    simp only [exec, h n (by omega)]
    exact k n (by omega)

theorem Ev.loop_out (h : Ev T lo a st (out, st1)) (hne : out ≠ .norm) : Ev T lo (.loop a) st (out, st1) := by
  obtain ⟨N, h⟩ := h
  exact .mk N fun n hn => by
    simp only [exec, h n hn]
    cases out <;> first | rfl | exact absurd rfl hne

theorem Ev.region {id k : Nat} {draw : Bool} {ops : List IOper} {chk : List (Nat × Nat)} {live : List Nat} {pre post : List OwnH}
    (h : ∀ ex, runReg (callF T ex) k ops chk (pre.foldl (fun s h => ownH lo h s) st) = some st') :
    Ev T lo (.region id draw k ops chk live pre post) st (.norm, post.foldl (fun s h => ownH lo h s) ⟨prune live st'.env, st'.o⟩) :=
  .mk 0 fun n _ => by simp only [exec, h]

/-- A call's contract, from the run of its body. -/
theorem call_of {P : Program} (hT : TabOK P T) {f : FuncId} {F : IFn} (hF : T.fn f = some F) {args : List AV} {o : Store} {own : Bool} (hK : T.K f args o own = none) (hlen : args.length = F.params)
    (h : Ev T o.length F.body ⟨bindArgs 0 args, o⟩ (out, st')) (hout : out = .norm ∨ out = .ret) {r0 v : AV} {o' : Store} (hr : resultsA st' F.res = some r0) (hfin : finish own o.length r0 st'.o = some (v, o')) :
    goodF P f = true ∧ CallO P f args o v o' ∧ (own = false → o' = []) := by
  obtain ⟨N, h⟩ := h
  refine call_sound hT N f args o own v o' ?_
  unfold callF
  rw [hK]
  simp only [hF, if_pos hlen, h N (Nat.le_refl _)]
  rcases hout with rfl | rfl <;> simp only [hr, hfin]
end

/-! ### calls answered by what is known -/

section
variable {call call' : Oracle}

/-- The second oracle answers what the first one answers. -/
def OLe (call call' : Oracle) : Prop := ∀ f args o own r, call f args o own = some r → call' f args o own = some r

theorem OLe.callF (T : Tab) (ex : Nat → IR → St → Option (Out × St)) : OLe T.K (callF T ex) := by
  intro f args o own r h
  unfold Go.Vi.callF
  rw [h]

theorem OLe.callA (h : OLe call call') {f : FuncId} {args : List AV} {o : Store} {own : Bool} {r : AV × Store} (hc : callA call f args o own = some r) : callA call' f args o own = some r := by
  unfold Go.Vi.callA at hc ⊢
  split at hc
  · rename_i how
    rw [if_pos how]
    unfold callOwn at hc ⊢
    simp only at hc ⊢
    split at hc
    · split at hc
      · rename_i r1 s1 h1
        rw [h _ _ _ _ _ h1]
        exact hc
      · cases hc
    · cases hc
  · rename_i how
    rw [if_neg how]
    split at hc
    · cases hc
    · split at hc
      · rename_i h1
        rw [h _ _ _ _ _ h1]
        exact hc
      · cases hc

theorem OLe.eff (h : OLe call call') {op : IOp} {ρ : Operand → AV} {o : Store} {nid : Nat} {r : AV × Store} (hc : eff call op ρ o nid = some r) : eff call' op ρ o nid = some r := by
  cases op with
  | call f args own => exact h.callA hc
  | callv f args own =>
    simp only [Go.Vi.eff, effD, e_callv] at hc ⊢
    split at hc
    · exact h.callA hc
    · cases hc
  | _ => exact hc

theorem OLe.runOp (h : OLe call call') {base : Nat} {i : IOper} {st st' : St} (hc : runOp call base i st = some st') : runOp call' base i st = some st' := by
  unfold Go.Vi.runOp at hc ⊢
  split at hc
  · cases hc
  · exact hc
  · split at hc
    · rename_i h1
      rw [h.eff h1]
      exact hc
    · cases hc

theorem OLe.runOps (h : OLe call call') {base : Nat} : ∀ {l : List IOper} {st st' : St}, runOps call base l st = some st' → runOps call' base l st = some st' ∧ traceOps call' base l st = traceOps call base l st
  | [], _, _, hc => ⟨hc, rfl⟩
  | i :: l, st, st', hc => by
    simp only [Go.Vi.runOps] at hc ⊢
    split at hc
    · rename_i s1 h1
      obtain ⟨k1, k2⟩ := h.runOps hc
      have h2 := h.runOp h1
      refine ⟨by rw [h2]; exact k1, ?_⟩
      simp only [traceOps, h1, h2, k2]
    · cases hc

theorem OLe.runReg (h : OLe call call') {k : Nat} {ops : List IOper} {chk : List (Nat × Nat)} {st st' : St} (hc : runReg call k ops chk st = some st') : runReg call' k ops chk st = some st' := by
  unfold Go.Vi.runReg at hc ⊢
  simp only at hc ⊢
  split at hc
  · rename_i s1 h1
    obtain ⟨k1, k2⟩ := h.runOps h1
    rw [k1, k2]
    exact hc
  · cases hc
end

/-! ### the run, backwards -/

def VW (T : Tab) (lo : Nat) (c : IR) (st : St) (Q : Out → St → Prop) : Prop := ∃ out st', Ev T lo c st (out, st') ∧ Q out st'

/-- What a region's run must come to. -/
def RQ (x : Option St) (Q : St → Prop) : Prop := match x with | some st => Q st | none => False

section
variable {T : Tab} {lo : Nat} {st : St} {a b : IR} {Q Q' : Out → St → Prop}

theorem VW.mono (h : VW T lo a st Q) (hq : ∀ o s, Q o s → Q' o s) : VW T lo a st Q' := by
  obtain ⟨o, s, h1, h2⟩ := h
  exact ⟨o, s, h1, hq o s h2⟩

theorem VW.skip (h : Q .norm st) : VW T lo .skip st Q := ⟨_, _, .skip, h⟩
theorem VW.ret (h : Q .ret st) : VW T lo .ret st Q := ⟨_, _, .ret, h⟩
theorem VW.exit {id : Nat} (h : Q (.exit id) st) : VW T lo (.exit id) st Q := ⟨_, _, .exit, h⟩

theorem VW.seq (h : VW T lo a st fun out s => if out = .norm then VW T lo b s Q else Q out s) : VW T lo (.seq a b) st Q := by
  obtain ⟨o, s, h1, h2⟩ := h
  by_cases ho : o = .norm
  · subst ho
    rw [if_pos rfl] at h2
    obtain ⟨o2, s2, k1, k2⟩ := h2
    exact ⟨o2, s2, h1.seq k1, k2⟩
  · rw [if_neg ho] at h2
    exact ⟨o, s, h1.seq_out ho, h2⟩

theorem VW.cond {x : Operand} {q : Bool} (hx : evA st.env x = .sc (.bool q)) (h : if q = true then VW T lo a st Q else VW T lo b st Q) : VW T lo (.cond x a b) st Q := by
  cases q with
  | true => obtain ⟨o, s, h1, h2⟩ := (by simpa using h : VW T lo a st Q); exact ⟨o, s, .condT hx h1, h2⟩
  | false => obtain ⟨o, s, h1, h2⟩ := (by simpa using h : VW T lo b st Q); exact ⟨o, s, .condF hx h1, h2⟩

theorem VW.block {id : Nat} (h : VW T lo a st fun out s => Q (out.inBlock id) s) : VW T lo (.block id a) st Q := by
  obtain ⟨o, s, h1, h2⟩ := h
  exact ⟨_, _, h1.block, h2⟩

theorem VW.region {id k : Nat} {draw : Bool} {ops : List IOper} {chk : List (Nat × Nat)} {live : List Nat} {pre post : List OwnH}
    (h : RQ (runReg T.K k ops chk (pre.foldl (fun s h => ownH lo h s) st)) fun st' => Q .norm (post.foldl (fun s h => ownH lo h s) ⟨prune live st'.env, st'.o⟩)) :
    VW T lo (.region id draw k ops chk live pre post) st Q := by
  unfold RQ at h
  split at h
  · rename_i st' hs
    exact ⟨_, _, Ev.region fun ex => (OLe.callF T ex).runReg hs, h⟩
  · exact h.elim

/-- One round of a loop. -/
theorem VW.loop (h : VW T lo a st fun out s => if out = .norm then VW T lo (.loop a) (trim st.o.length s) Q else Q out s) : VW T lo (.loop a) st Q := by
  obtain ⟨o, s, h1, h2⟩ := h
  by_cases ho : o = .norm
  · subst ho
    rw [if_pos rfl] at h2
    obtain ⟨o2, s2, k1, k2⟩ := h2
    exact ⟨o2, s2, h1.loop_step k1, k2⟩
  · rw [if_neg ho] at h2
    exact ⟨o, s, h1.loop_out ho, h2⟩

/-- A loop by an invariant whose measure falls. -/
theorem VW.loop_inv (I : Nat → St → Prop) (hstep : ∀ m s, I m s → VW T lo a s fun out s' => if out = .norm then ∃ m', m' < m ∧ I m' (trim s.o.length s') else Q out s') :
    ∀ (m : Nat) (s : St), I m s → VW T lo (.loop a) s Q := by
  intro m
  induction m using Nat.strongRecOn with
  | _ m ih =>
    intro s hs
    refine VW.loop ((hstep m s hs).mono fun o s' h => ?_)
    split
    · rename_i ho
      rw [if_pos ho] at h
      obtain ⟨m', h1, h2⟩ := h
      exact ih m' h1 _ h2
    · rename_i ho
      rwa [if_neg ho] at h

/-- A call's contract, from the run of its body. -/
theorem call_of_vw {P : Program} (hT : TabOK P T) {f : FuncId} {F : IFn} (hF : T.fn f = some F) {args : List AV} {o : Store} {own : Bool} (hK : T.K f args o own = none) (hlen : args.length = F.params) {v : AV} {o' : Store}
    (h : VW T o.length F.body ⟨bindArgs 0 args, o⟩ fun out st' => (out = .norm ∨ out = .ret) ∧ (resultsA st' F.res).bind (fun r0 => finish own o.length r0 st'.o) = some (v, o')) :
    goodF P f = true ∧ CallO P f args o v o' ∧ (own = false → o' = []) := by
  obtain ⟨out, st', h1, h2, h3⟩ := h
  obtain ⟨r0, hr, hfin⟩ := Option.bind_eq_some_iff.1 h3
  exact call_of hT hF hK hlen h1 h2 hr hfin
end
end Go.Vi
