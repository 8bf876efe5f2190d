/-
  The abstract interpreter: what 'exec' gives, the model's run gives.
  Conditions: none.
-/
import Derived.Test.YtigbjjkijfkeeaaViOrd
import Derived.Test.YtigbjjkijfkeeaaViHint
import Derived.LoopN
import Derived.Tactics
namespace Go.Vi

def Out.toExit : Out → Exit
  | .norm => .normal
  | .exit id => .exit id
  | .ret => .ret

section
variable {P : Program} {A : Nat → Prop} {w w' : World} {σ σ' : Sig} {o o' : Store}

theorem getE_prune (live : List Nat) (env : EnvA) (s : Nat) : getE (prune live env) s = getE env s ∨ getE (prune live env) s = .ud := by
  unfold prune
  induction live with
  | nil => right; rfl
  | cons x live ih =>
    simp only [List.map_cons, getE]
    cases hq : Nat.beq x s with
    | true => left; have := Nat.eq_of_beq_eq_true hq; subst this; rfl
    | false => exact ih

theorem Sim.prune {nt : Nat} {w0 : World} {σ0 : Sig} {o0 : Store} {st : St} {a : Act} (h : Sim A nt w0 σ0 o0 st a w σ) (live : List Nat) : Sim A nt w0 σ0 o0 ⟨Go.Vi.prune live st.env, st.o⟩ a w σ where
  sim := h.sim
  env := fun s => by
    rcases getE_prune live st.env s with h1 | h1
    · simp only [h1]; exact h.env s
    · simp only [h1]; simp [Rep]
  size := h.size
  defers := h.defers
  ext := h.ext

theorem getE_mem {env : EnvA} {s : Nat} : getE env s = .ud ∨ ∃ p ∈ env, p.2 = getE env s := by
  induction env with
  | nil => left; rfl
  | cons p env ih =>
    obtain ⟨k, v⟩ := p
    simp only [getE]
    cases hq : Nat.beq k s with
    | true => right; exact ⟨(k, v), by simp, by simp⟩
    | false =>
      rcases ih with ih | ⟨p, hp, h2⟩
      · exact .inl ih
      · exact .inr ⟨p, by simp [hp], h2⟩

theorem trim_le (k : Nat) (st : St) (h : k ≤ st.o.length) : k ≤ (trim k st).o.length := by
  unfold trim
  split
  · exact h
  · split
    · simp; omega
    · exact h

theorem Sim.trim {nt : Nat} {w0 : World} {σ0 : Sig} {o0 : Store} {st : St} {a : Act} (h : Sim A nt w0 σ0 o0 st a w σ) {k : Nat} (hk : o0.length ≤ k) : ∃ σ', Sim A nt w0 σ0 o0 (Go.Vi.trim k st) a w σ' := by
  unfold Go.Vi.trim
  split
  · exact ⟨σ, h⟩
  · split
    · rename_i hc
      simp only [Bool.and_eq_true, List.all_eq_true] at hc
      refine ⟨σ.take k, ⟨h.sim.take hc.2, fun s => ?_, h.size, h.defers, h.ext.take hk⟩⟩
      have hr := h.env s
      simp only
      rcases getE_mem (env := st.env) (s := s) with h1 | ⟨p, hp, h1⟩
      · rw [h1]; simp [Rep]
      · refine Rep.take hr ?_
        rw [← h1]; exact hc.1 p hp
    · exact ⟨σ, h⟩

theorem Sim.deads {nt : Nat} {w0 : World} {σ0 : Sig} {o0 : Store} {st : St} {a : Act} (h : Sim A nt w0 σ0 o0 st a w σ) (n : Nat) : ∃ σ', Sim A nt w0 σ0 o0 ⟨st.env, st.o ++ Go.Vi.deads n⟩ a w σ' := by
  obtain ⟨h1, h2⟩ := h.sim.deads n
  exact ⟨_, h1, fun s => (h.env s).ext h2, h.size, h.defers, h.ext.trans h2⟩

theorem Sim.sweep {nt : Nat} {w0 : World} {σ0 : Sig} {o0 : Store} {st : St} {a : Act} (h : Sim A nt w0 σ0 o0 st a w σ) {k : Nat} (hk : o0.length ≤ k) : ∃ σ', Sim A nt w0 σ0 o0 ⟨st.env, Go.Vi.sweep k st.o⟩ a w σ' := by
  obtain ⟨σ', h1, h2, h3⟩ := sweep_sim h.sim k
  exact ⟨σ', h1, fun s => h2 _ _ (h.env s), h.size, h.defers, h3 _ _ _ hk h.ext⟩

theorem Sim.len {nt : Nat} {w0 : World} {σ0 : Sig} {o0 : Store} {st : St} {a : Act} (h : Sim A nt w0 σ0 o0 st a w σ) : o0.length ≤ st.o.length := h.ext.len

theorem Sim.hints {nt : Nat} {w0 : World} {σ0 : Sig} {o0 : Store} {lo : Nat} (hlo : o0.length ≤ lo) (l : List OwnH) : ∀ {st : St} {a : Act} {σ : Sig}, Sim A nt w0 σ0 o0 st a w σ → ∃ σ', Sim A nt w0 σ0 o0 (l.foldl (fun s h => ownH lo h s) st) a w σ' := by
  induction l with
  | nil => intro st a σ h; exact ⟨σ, h⟩
  | cons x l ih =>
    intro st a σ h
    obtain ⟨σ1, h1⟩ := Sim.hint hlo h x
    exact ih h1

/-- A region. -/
theorem region_wp {call : Oracle} (hcall : OracleOK P call) {lo nt : Nat} {H : List RH} {id : Nat} {ops : Array Oper} {draw : Bool} {c : IR} (hc : compReg P nt H id ops draw = some c) :
    ∃ k l chk live pre post, c = .region id draw k l chk live pre post ∧ ∀ {st st' : St}, runReg call k l chk (pre.foldl (fun s h => ownH lo h s) st) = some st' → ∀ {w0 : World} {σ0 : Sig} {o0 : Store} {a : Act} {w : World} {σ : Sig}, o0.length ≤ lo → Sim A nt w0 σ0 o0 st a w σ →
      (Code.region id ops draw).wp P (fun e a' w' => e = .normal ∧ ∃ σ', Sim A nt w0 σ0 o0 (post.foldl (fun s h => ownH lo h s) ⟨Go.Vi.prune live st'.env, st'.o⟩) a' w' σ') a w := by
  unfold compReg at hc
  split at hc
  · cases hc
  · rename_i h hh
    have fin : ∀ (k : Nat) (l : List IOper) (chk : List (Nat × Nat)), (∀ {st1 st2 : St}, runOps call st1.o.length l ⟨st1.env, st1.o ++ deads k⟩ = some st2 → (chk.isEmpty || chkOk (st1.o ++ deads k).length (traceOps call st1.o.length l ⟨st1.env, st1.o ++ deads k⟩) chk) = true →
          ∀ {w0 : World} {σ0 : Sig} {o0 : Store} {a : Act} {w : World} {σ : Sig} {Q : Exit → Act → World → Prop}, Sim A nt w0 σ0 o0 ⟨st1.env, st1.o ++ deads k⟩ a w σ → (∀ a' w' σ', Sim A nt w0 σ0 o0 st2 a' w' σ' → Q .normal a' w') → (Code.region id ops draw).wp P Q a w) →
        ∀ {st st' : St}, runReg call k l chk (h.pre.foldl (fun s h => ownH lo h s) st) = some st' → ∀ {w0 : World} {σ0 : Sig} {o0 : Store} {a : Act} {w : World} {σ : Sig}, o0.length ≤ lo → Sim A nt w0 σ0 o0 st a w σ →
          (Code.region id ops draw).wp P (fun e a' w' => e = .normal ∧ ∃ σ', Sim A nt w0 σ0 o0 (h.post.foldl (fun s h => ownH lo h s) ⟨Go.Vi.prune h.live st'.env, st'.o⟩) a' w' σ') a w := by
      intro k l chk hrun st st' hr w0 σ0 o0 a w σ hlo hs
      obtain ⟨σ1, hs1⟩ := Sim.hints hlo h.pre hs
      generalize hst1 : h.pre.foldl (fun s h => ownH lo h s) st = st1 at hr hs1
      unfold runReg at hr
      simp only at hr
      split at hr
      · rename_i st2 h2
        split at hr
        · rename_i hchk
          injection hr with hr
          obtain ⟨σ2, hs2⟩ := hs1.deads k
          refine hrun h2 hchk hs2 fun a' w' σ' h3 => ⟨rfl, ?_⟩
          have h4 : ∃ σ4, Sim A nt w0 σ0 o0 st' a' w' σ4 := by
            subst hr
            by_cases hk : k = 0
            · simp only [hk, if_true]; exact ⟨σ', h3⟩
            · simp only [hk, if_false]; exact h3.sweep hs1.len
          obtain ⟨σ4, h4⟩ := h4
          exact Sim.hints hlo h.post (h4.prune h.live)
        · cases hr
      · cases hr
    cases draw with
    | false =>
      simp only [Bool.false_eq_true, if_false] at hc
      obtain ⟨⟨l, k⟩, hl, rfl⟩ := Option.map_eq_some_iff.1 hc
      refine ⟨k, l, [], h.live, h.pre, h.post, rfl, fin k l [] fun {st1 st2} h2 _ w0 σ0 o0 a w σ Q hs hQ => ?_⟩
      obtain ⟨g1, g2⟩ := compOpers_get hl
      exact wp_region (runOps_wp hcall l (List.range ops.size) g1 g2 _ _ a w σ h2 hs hQ)
    | true =>
      simp only [if_true] at hc
      generalize (if h.perm.isEmpty = true then List.range ops.size else h.perm) = perm at hc
      split at hc
      · rename_i l k hl
        split at hc
        · rename_i hcond
          injection hc with hc
          refine ⟨k, l, pairsOf (ancs ops) l, h.live, h.pre, h.post, hc.symm, fin k l _ fun {st1 st2} h2 hchk w0 σ0 o0 a w σ Q hs hQ => ?_⟩
          simp only [Bool.and_eq_true, beq_iff_eq] at hcond
          exact draw_wp hcall hl hcond.1.1.1.1.1 hcond.1.1.1.1.2 hcond.1.1.1.2 hcond.1.1.2 hcond.1.2 hcond.2 h2 hchk hs hQ
        · cases hc
      · cases hc

/-- The functions' code is the program's, and the known results are right. -/
structure TabOK (P : Program) (T : Tab) : Prop where
  fn : ∀ f F, T.fn f = some F → ∃ fn H, P.funcs[f]? = some fn ∧ compFn P H fn = some F ∧ goodF P f = true
  K : ∀ f args o own r o', T.K f args o own = some (r, o') → goodF P f = true ∧ CallO P f args o r o' ∧ (own = false → o' = [])

/-- What is claimed of the runs with less fuel than 'n'. -/
def ExecOK (P : Program) (T : Tab) (n : Nat) : Prop :=
  ∀ (lo : Nat) (c : IR) (st : St) (out : Out) (st' : St), exec T n lo c st = some (out, st') → ∀ (nt : Nat) (H : List RH) (code : Code), comp P nt H code = some c → ∀ (A : Nat → Prop) (w0 : World) (σ0 : Sig) (o0 : Store) (a : Act) (w : World) (σ : Sig), o0.length ≤ lo → Sim A nt w0 σ0 o0 st a w σ →
    code.wp P (fun e a' w' => e = out.toExit ∧ ∃ σ', Sim A nt w0 σ0 o0 st' a' w' σ') a w

theorem getE_bind : ∀ (k : Nat) (args : List AV) (s : Nat), getE (bindArgs k args) s = if k ≤ s then (args[s - k]?).getD .ud else .ud
  | k, [], s => by simp [bindArgs, getE]
  | k, v :: vs, s => by
    simp only [bindArgs, getE]
    by_cases h : k = s
    · subst h; simp
    · have hq : Nat.beq k s = false := by
        cases hq : Nat.beq k s with
        | false => rfl
        | true => exact absurd (Nat.eq_of_beq_eq_true hq) h
      simp only [hq, cond_false]
      rw [getE_bind (k + 1) vs s]
      by_cases h2 : k ≤ s
      · rw [if_pos h2, if_pos (by omega), show s - k = (s - (k + 1)) + 1 from by omega]; simp
      · rw [if_neg h2, if_neg (by omega)]

def resF (tmps : Array Value) : ResultVar → Sem Value
  | .tmp t => pure (tmps.getD t undef)
  | .cell x t => do loadVar t (← asAddr (tmps.getD x undef))

theorem results_eq (fn : Func) (tmps : Array Value) : results fn tmps = (do let vs ← fn.results.mapM (resF tmps); pure (if h : vs.size = 1 then vs[0] else .tuple vs)) := by
  unfold results
  congr 1

theorem resA_rep {nt : Nat} {w0 : World} {σ0 : Sig} {o0 : Store} {st : St} {a : Act} (h : Sim A nt w0 σ0 o0 st a w σ) {rv : ResultVar} {ir : IRes} (hc : compRes P rv = some ir) {r : AV} (hr : resA st ir = some r) :
    ∃ u, (resF a.tmps rv).run P w = .ok u w ∧ Rep A w σ st.o r u := by
  cases rv with
  | tmp t =>
    simp only [compRes, Option.some.injEq] at hc
    subst hc
    simp only [resA, Option.some.injEq] at hr
    subst hr
    exact ⟨_, rfl, h.env t⟩
  | cell x t =>
    simp only [compRes, Option.map_eq_some_iff] at hc
    obtain ⟨n, hn, rfl⟩ := hc
    simp only [resA] at hr
    split at hr
    · rename_i cs off hb
      obtain ⟨p, hp, hcells⟩ := (h.env x).behindA h.sim hb
      obtain ⟨u, hu, hru⟩ := run_loadVar' (P := P) hn hcells hr
      exact ⟨u, by simp only [resF, hp]; simp [asAddr, hu], hru⟩
    · cases hr

theorem results_rep {nt : Nat} {w0 : World} {σ0 : Sig} {o0 : Store} {st : St} {a : Act} (h : Sim A nt w0 σ0 o0 st a w σ) {fn : Func} {rs : List IRes} (hc : optAll (compRes P) fn.results.toList = some rs) {r : AV} (hr : resultsA st rs = some r) :
    ∃ u, (results fn a.tmps).run P w = .ok u w ∧ Rep A w σ st.o r u := by
  obtain ⟨h1, h2⟩ := optAll_get hc
  unfold resultsA at hr
  have key : ∀ (rvs : List ResultVar) (irs : List IRes) (vs : List AV), rvs.length = irs.length → (∀ (i : Nat) (x : ResultVar) (y : IRes), rvs[i]? = some x → irs[i]? = some y → compRes P x = some y) → irs.mapM (resA st) = some vs →
      ∃ us : List Value, (rvs.mapM (resF a.tmps)).run P w = .ok us w ∧ RepL A w σ st.o vs us := by
    intro rvs
    induction rvs with
    | nil =>
      intro irs vs hl _ hm
      have : irs = [] := List.eq_nil_of_length_eq_zero (by simpa using hl.symm)
      subst this
      simp at hm
      subst hm
      exact ⟨[], by simp, by simp [RepL]⟩
    | cons x rvs ih =>
      intro irs vs hl hg hm
      match irs, hl with
      | y :: irs, hl =>
        rw [List.mapM_cons] at hm
        cases hy : resA st y with
        | none => simp [hy] at hm
        | some v =>
          cases hrest : irs.mapM (resA st) with
          | none => simp [hy, hrest] at hm
          | some vs' =>
            simp [hy, hrest] at hm
            subst hm
            obtain ⟨u, hu, hru⟩ := resA_rep h (hg 0 x y (by simp) (by simp)) hy
            obtain ⟨us, hus, hrus⟩ := ih irs vs' (by simpa using hl) (fun i p q hp hq => hg (i + 1) p q (by simpa using hp) (by simpa using hq)) hrest
            refine ⟨u :: us, ?_, by simp only [RepL]; exact ⟨u, us, rfl, hru, hrus⟩⟩
            rw [List.mapM_cons]
            simp only [Sem.run_bind]
            rw [hu]
            simp only [Result.andThen_ok, hus, Sem.run_pure]
  have conv : ∀ us : List Value, (fn.results.toList.mapM (resF a.tmps)).run P w = .ok us w →
      (results fn a.tmps).run P w = .ok (if h : us.length = 1 then us[0]'(by omega) else .tuple us.toArray) w := by
    intro us hus
    rw [results_eq, Array.mapM_eq_mapM_toList]
    simp only [Sem.run_bind, Sem.run_map, hus, Result.andThen_ok, Sem.run_pure]
    by_cases h1 : us.length = 1
    · simp [h1]
    · simp [h1]
  split at hr
  · rename_i v hm
    injection hr with hr; subst hr
    obtain ⟨us, hus, hl⟩ := key _ _ _ h1 h2 hm
    simp only [RepL] at hl
    obtain ⟨u, rest, rfl, hu, rfl⟩ := hl
    exact ⟨u, by rw [conv _ hus]; simp, hu⟩
  · rename_i vs hne hm
    injection hr with hr; subst hr
    obtain ⟨us, hus, hl⟩ := key _ _ _ h1 h2 hm
    have hlen := RepL.length _ _ hl
    have h1' : ¬ us.length = 1 := by
      intro h1
      match vs, hlen.trans h1 with
      | [v], _ => exact hne v rfl
    refine ⟨.tuple us.toArray, by rw [conv _ hus]; simp [h1'], ?_⟩
    simp only [Rep]
    exact ⟨_, rfl, by simpa using hl⟩
  · cases hr

/-- A function's call, from the run of its code. -/
theorem callF_ok {T : Tab} (hT : TabOK P T) {n : Nat} (ih : ExecOK P T n) : OracleOK P (callF T (exec T n)) := by
  intro f args o own r o' hc
  unfold callF at hc
  split at hc
  · rename_i x hK
    injection hc with hc
    subst hc
    exact hT.K _ _ _ _ _ _ hK
  · split at hc
    · cases hc
    · rename_i F hF
      obtain ⟨fn, H, hfn, hcomp, hg⟩ := hT.fn f F hF
      split at hc
      · rename_i hlen
        unfold compFn at hcomp
        split at hcomp
        · cases hcomp
        · rename_i code hcode
          split at hcomp
          · rename_i b rs hb hrs
            split at hcomp
            · cases hcomp
            · rename_i hnt
              injection hcomp with hcomp
              subst hcomp
              simp only at hc hlen
              have fin : ∀ (out : Out) (st : St), (out = .norm ∨ out = .ret) → exec T n o.length b ⟨bindArgs 0 args, o⟩ = some (out, st) → ∀ r0, resultsA st rs = some r0 → finish own o.length r0 st.o = some (r, o') →
                  goodF P f = true ∧ CallO P f args o r o' ∧ (own = false → o' = []) := by
                intro out st hout hex r0 hr0 hfi
                refine ⟨hg, fun A w σ vs hS hr => ?_, fun ho => ?_⟩
                · have hvl := RepL.length _ _ hr
                  refine calls_of_wp hfn hcode (wp_mono (ih _ b _ out st hex fn.ntmps H code hb A w σ o { tmps := vs.toArray ++ Array.replicate (fn.ntmps - vs.toArray.size) undef, defers := [] } w σ (Nat.le_refl _) ⟨hS, fun s => ?_, ?_, rfl, Ext.refl _ _ _⟩) ?_)
                  · simp only [getE_bind, Nat.zero_le, if_true, Nat.sub_zero]
                    cases hs : args[s]? with
                    | none => simp [Rep]
                    | some c =>
                      obtain ⟨v, hv, hrv⟩ := RepL.get _ _ hr s c hs
                      have hsl : s < vs.length := (List.getElem?_eq_some_iff.1 hv).1
                      have : (vs.toArray ++ Array.replicate (fn.ntmps - vs.toArray.size) undef).getD s undef = v := by
                        rw [Array.getD_eq_getD_getElem?, Array.getElem?_append_left (by simpa using hsl)]
                        simp [hv]
                      rw [this]
                      simpa using hrv
                  · simp; omega
                  · rintro e a' w' ⟨rfl, σ', hs'⟩
                    obtain ⟨u, hu, hru⟩ := results_rep hs' hrs hr0
                    have hfin := finish_sound hs'.sim hs'.ext hru hfi
                    rcases hout with rfl | rfl
                    · exact ⟨hs'.defers, u, hu, u, hfin.choose, rfl, hfin.choose_spec⟩
                    · exact ⟨hs'.defers, u, hu, u, hfin.choose, rfl, hfin.choose_spec⟩
                · subst ho
                  unfold finish at hfi
                  simp only [Bool.false_eq_true, if_false] at hfi
                  split at hfi
                  · split at hfi
                    · simp only [Option.some.injEq, Prod.mk.injEq] at hfi; exact hfi.2.symm
                    · cases hfi
                  · cases hfi
              split at hc
              · rename_i st hex
                split at hc
                · rename_i r0 hr0; exact fin .norm st (.inl rfl) hex r0 hr0 hc
                · cases hc
              · rename_i st hex
                split at hc
                · rename_i r0 hr0; exact fin .ret st (.inr rfl) hex r0 hr0 hc
                · cases hc
              · cases hc
          · cases hcomp
      · cases hc

theorem exec_ok {T : Tab} (hT : TabOK P T) : ∀ n, ExecOK P T n ∧ ∀ (lo : Nat) (b : IR) (st : St) (out : Out) (st' : St), exec T n lo (.loop b) st = some (out, st') → ∀ (nt : Nat) (H : List RH) (code : Code), comp P nt H code = some b → ∀ (A : Nat → Prop) (w0 : World) (σ0 : Sig) (o0 : Store) (a : Act) (w : World) (σ : Sig),
      o0.length ≤ lo → Sim A nt w0 σ0 o0 st a w σ → Code.rounds P code (fun e a' w' => e = out.toExit ∧ ∃ σ', Sim A nt w0 σ0 o0 st' a' w' σ') n a w
  | 0 => ⟨fun lo c st out st' h => by simp [exec] at h, fun lo b st out st' h => by simp [exec] at h⟩
  | n + 1 => by
    obtain ⟨ih, ihl⟩ := exec_ok hT n
    have hloop : ∀ (lo : Nat) (b : IR) (st : St) (out : Out) (st' : St), exec T (n + 1) lo (.loop b) st = some (out, st') → ∀ (nt : Nat) (H : List RH) (code : Code), comp P nt H code = some b → ∀ (A : Nat → Prop) (w0 : World) (σ0 : Sig) (o0 : Store) (a : Act) (w : World) (σ : Sig),
        o0.length ≤ lo → Sim A nt w0 σ0 o0 st a w σ → Code.rounds P code (fun e a' w' => e = out.toExit ∧ ∃ σ', Sim A nt w0 σ0 o0 st' a' w' σ') (n + 1) a w := by
      intro lo b st out st' h nt H code hc A w0 σ0 o0 a w σ hlo hs
      simp only [exec] at h
      split at h
      · rename_i st1 h1
        have hb := ih lo b st .norm st1 h1 nt H code hc A w0 σ0 o0 a w σ hlo hs
        rw [rounds_succ]
        refine wp_mono hb ?_
        rintro e a' w' ⟨rfl, σ', hs'⟩
        obtain ⟨σ2, hs2⟩ := hs'.trim (k := st.o.length) hs.len
        exact ihl lo b _ out st' h nt H code hc A w0 σ0 o0 a' w' σ2 hlo hs2
      · rename_i hne
        have hb := ih lo b st out st' h nt H code hc A w0 σ0 o0 a w σ hlo hs
        rw [rounds_succ]
        refine wp_mono hb ?_
        rintro e a' w' ⟨rfl, hs'⟩
        cases out with
        | norm => exact absurd h (hne st')
        | exit id => exact ⟨rfl, hs'⟩
        | ret => exact ⟨rfl, hs'⟩
    refine ⟨fun lo c st out st' h nt H code hc A w0 σ0 o0 a w σ hlo hs => ?_, hloop⟩
    cases code with
    | skip =>
      simp only [comp, Option.some.injEq] at hc
      subst hc
      simp only [exec, Option.some.injEq, Prod.mk.injEq] at h
      obtain ⟨rfl, rfl⟩ := h
      exact wp_skip ⟨rfl, σ, hs⟩
    | region id ops draw =>
      simp only [comp] at hc
      obtain ⟨k, l, chk, live, pre, post, rfl, hw⟩ := region_wp (callF_ok hT ih) (A := A) (lo := lo) hc
      simp only [exec] at h
      split at h
      · rename_i st2 h2
        simp only [Option.some.injEq, Prod.mk.injEq] at h
        obtain ⟨rfl, rfl⟩ := h
        exact hw h2 hlo hs
      · cases h
    | seq x y =>
      simp only [comp] at hc
      split at hc
      · rename_i x' y' hx hy
        injection hc with hc; subst hc
        simp only [exec] at h
        split at h
        · rename_i st1 h1
          refine wp_seq (wp_mono (ih lo x' st .norm st1 h1 nt H x hx A w0 σ0 o0 a w σ hlo hs) ?_)
          rintro e a' w' ⟨rfl, σ', hs'⟩
          exact ih lo y' st1 out st' h nt H y hy A w0 σ0 o0 a' w' σ' hlo hs'
        · rename_i hne
          refine wp_seq (wp_mono (ih lo x' st out st' h nt H x hx A w0 σ0 o0 a w σ hlo hs) ?_)
          rintro e a' w' ⟨rfl, hs'⟩
          cases out with
          | norm => exact absurd h (hne st')
          | exit id => exact ⟨rfl, hs'⟩
          | ret => exact ⟨rfl, hs'⟩
      · cases hc
    | cond x y z =>
      simp only [comp] at hc
      split at hc
      · rename_i y' z' hy hz
        injection hc with hc; subst hc
        simp only [exec] at h
        have hx := hs.ev x
        split at h
        · rename_i hxx
          rw [hxx] at hx
          exact wp_cond_true (rep_sc hx) (ih lo y' st out st' h nt H y hy A w0 σ0 o0 a w σ hlo hs)
        · rename_i hxx
          rw [hxx] at hx
          exact wp_cond_false (rep_sc hx) (ih lo z' st out st' h nt H z hz A w0 σ0 o0 a w σ hlo hs)
        · cases h
      · cases hc
    | block id b =>
      simp only [comp] at hc
      obtain ⟨b', hb, rfl⟩ := Option.map_eq_some_iff.1 hc
      simp only [exec] at h
      split at h
      · rename_i id' st1 h1
        refine wp_block (wp_mono (ih lo b' st (.exit id') st1 h1 nt H b hb A w0 σ0 o0 a w σ hlo hs) ?_)
        rintro e a' w' ⟨rfl, hs'⟩
        simp only [Out.toExit, Exit.inBlock]
        split at h
        · rename_i hid
          simp only [Option.some.injEq, Prod.mk.injEq] at h
          obtain ⟨rfl, rfl⟩ := h
          rw [if_pos hid]
          exact ⟨rfl, hs'⟩
        · rename_i hid
          simp only [Option.some.injEq, Prod.mk.injEq] at h
          obtain ⟨rfl, rfl⟩ := h
          rw [if_neg hid]
          exact ⟨rfl, hs'⟩
      · rename_i hne
        refine wp_block (wp_mono (ih lo b' st out st' h nt H b hb A w0 σ0 o0 a w σ hlo hs) ?_)
        rintro e a' w' ⟨rfl, hs'⟩
        cases out with
        | norm => exact ⟨rfl, hs'⟩
        | exit id2 => exact absurd h (hne id2 st')
        | ret => exact ⟨rfl, hs'⟩
    | loop b =>
      simp only [comp] at hc
      obtain ⟨b', hb, rfl⟩ := Option.map_eq_some_iff.1 hc
      exact wp_loop_rounds (n + 1) (hloop lo b' st out st' h nt H b hb A w0 σ0 o0 a w σ hlo hs)
    | exit id =>
      simp only [comp, Option.some.injEq] at hc
      subst hc
      simp only [exec, Option.some.injEq, Prod.mk.injEq] at h
      obtain ⟨rfl, rfl⟩ := h
      exact wp_exit ⟨rfl, σ, hs⟩
    | ret =>
      simp only [comp, Option.some.injEq] at hc
      subst hc
      simp only [exec, Option.some.injEq, Prod.mk.injEq] at h
      obtain ⟨rfl, rfl⟩ := h
      exact wp_ret ⟨rfl, σ, hs⟩
    | _ => simp only [comp, reduceCtorEq] at hc

/-- What the interpreter computes of a call, the model's call computes. -/
theorem call_sound {T : Tab} (hT : TabOK P T) (n : Nat) : OracleOK P (callF T (exec T n)) := callF_ok hT (exec_ok hT n).1
end

end Go.Vi
