/-
  The symbolic run is sound: regions, hints, code, calls.
  Conditions: none.
-/
import Derived.Test.YtigbjjkijfkeeaaSxC
namespace Go.Vi

theorem setE_g : ∀ {env : SEnv} {s : Nat} {v : SV}, (getS env s).g = v.g → gE (setE env s v) = gE env
  | [], _, _, _ => rfl
  | p :: r, s, v, h => by
    simp only [setE, getS] at h ⊢
    cases hq : Nat.beq p.1 s with
    | true =>
      rw [hq] at h
      simp only [cond_true] at h ⊢
      simp [gE, h]
    | false =>
      rw [hq] at h
      simp only [cond_false] at h ⊢
      have := setE_g h
      simp only [gE, List.map_cons] at this ⊢
      rw [this]

theorem wantK_sound {env : SEnv} {g : Option (Option Nat × Bool)} {K : SEnv → Bool → Prop} (h : wantK env g K) : ∃ env' w, gE env' = gE env ∧ wantA (gE env) g = some w ∧ K env' w := by
  unfold wantK at h
  split at h
  · exact ⟨_, _, rfl, rfl, h⟩
  · exact h.elim
  · rename_i s b
    split at h
    · rename_i c hc
      exact ⟨_, _, rfl, by simp [wantA, getS_g, hc, SV.g], h⟩
    · rename_i c hc
      cases c with
      | true => exact ⟨_, _, setE_g (by rw [hc]; rfl), by simp [wantA, getS_g, hc, SV.g], h.1 rfl⟩
      | false => exact ⟨_, _, setE_g (by rw [hc]; rfl), by simp [wantA, getS_g, hc, SV.g], h.2 rfl⟩
    · rename_i hc
      exact ⟨_, _, rfl, by simp [wantA, getS_g, hc, SV.g, gL], h⟩
    · exact h.elim

section
variable {call : Oracle} {p : SPar}

theorem opsK_sound (hC : SCallsOK call p.C) {base : Nat} : ∀ {ops : List IOper} {st : SSt} {tr : Trace} {K : SSt → Trace → Prop}, opsK p base ops st tr K →
    ∃ st', runOps call base ops st.g = some st'.g ∧ K st' ((traceOps call base ops st.g).reverse ++ tr)
  | [], st, tr, K, h => ⟨st, rfl, h⟩
  | i :: r, st, tr, K, h => by
    simp only [opsK] at h
    obtain ⟨env, w, he, hw, h2⟩ := wantK_sound h
    have hg : st.g = ⟨gE env, gO st.o⟩ := by simp [SSt.g, he]
    rw [← he] at hw
    cases w with
    | true =>
      simp only [if_true] at h2
      obtain ⟨v, o', h3, h4⟩ := opK_sound hC h2
      obtain ⟨st', h5, h6⟩ := opsK_sound hC h4
      have hrun : runOp call base i st.g = some (SSt.g ⟨putS env i.dst v, o'⟩) := by
        rw [hg]
        simp only [runOp, hw, evS_fun]
        rw [eff_eq, h3]
        simp only [SSt.g, putS_g]
      refine ⟨st', by simp only [runOps, hrun]; exact h5, ?_⟩
      simp only [traceOps, hrun]
      rw [hg]
      simp only [hw, List.reverse_cons, List.append_assoc, List.singleton_append, evS_fun]
      exact h6
    | false =>
      simp only [Bool.false_eq_true, if_false] at h2
      obtain ⟨st', h5, h6⟩ := opsK_sound hC h2
      have hrun : runOp call base i st.g = some (SSt.g ⟨putS env i.dst (.tup []), st.o⟩) := by
        rw [hg]
        simp only [runOp, hw, SSt.g, putS_g, SV.g, gL]
      refine ⟨st', by simp only [runOps, hrun]; exact h5, ?_⟩
      simp only [traceOps, hrun]
      rw [hg]
      simp only [hw, List.reverse_cons, List.append_assoc, List.singleton_append]
      exact h6

theorem deads_g (k : Nat) : gO (List.replicate k .dead) = deads k := by simp [gO, deads, SObj.g]

theorem gO_app (a b : SStore) : gO (a ++ b) = gO a ++ gO b := by simp [gO]

theorem isDead_g (x : SObj) : x.g.isDead = x.isDead := by cases x <;> rfl

theorem sweepS_g (base : Nat) (o : SStore) : gO (sweepS base o) = sweep base (gO o) := by
  unfold sweepS sweep
  have : ((gO o).drop base).all (·.isDead) = (o.drop base).all (·.isDead) := by
    simp only [gO, ← List.map_drop, List.all_map]
    congr 1
    funext x
    exact isDead_g x
  rw [this]
  cases (o.drop base).all (·.isDead)
  · rfl
  · simp [gO]

theorem regK_sound (hC : SCallsOK call p.C) {k : Nat} {ops : List IOper} {chk : List (Nat × Nat)} {st : SSt} {K : SSt → Prop} (h : regK p k ops chk st K) : ∃ st', runReg call k ops chk st.g = some st'.g ∧ K st' := by
  unfold regK at h
  obtain ⟨st', h1, h2⟩ := opsK_sound hC h
  rw [List.append_nil, List.reverse_reverse] at h2
  have hst : (SSt.mk st.env (st.o ++ List.replicate k .dead)).g = ⟨st.g.env, st.g.o ++ deads k⟩ := by simp [SSt.g, gO_app, deads_g]
  rw [hst] at h1 h2
  have hlen : st.g.o.length = st.o.length := by simp [SSt.g, gO_len]
  split at h2
  · rename_i hc
    refine ⟨_, ?_, h2⟩
    simp only [runReg, hlen]
    rw [h1]
    simp only
    rw [if_pos (by rw [List.length_append, hlen, deads, List.length_replicate]; exact hc)]
    simp only [SSt.g]
    by_cases hk : k = 0
    · simp [hk]
    · simp [hk, sweepS_g]
  · exact h2.elim
end

/-! ### hints -/

theorem isNil_g {v : SV} : isNil v = true ↔ v.g = .sc (.slice none 0 0) := by
  constructor
  · intro h
    unfold isNil at h
    split at h
    · rfl
    · cases h
  · intro h
    cases v <;> simp only [SV.g, reduceCtorEq, AV.sc.injEq] at h
    subst h
    rfl

section
variable {o : SStore} {id : Nat} {s : SId} {l : List s.T} {e : TypeId}

def pid (id : Nat) : Nat → Bool := fun i => i == id

mutual
theorem frzV_sound (ho : o[id]? = some (.row s l e true)) : ∀ {v : SV} {K : SV → Prop}, frzV id s l v K → ∃ v' : SV, v.g.frz (gO o) (pid id) = some v'.g ∧ K v'
  | .ow j n sz, K, h => by
    simp only [frzV] at h
    split at h
    · rename_i hj
      subst hj
      split at h
      · rename_i hsz
        subst hsz
        obtain ⟨rfl, hk⟩ := h
        refine ⟨_, ?_, hk⟩
        have htk : List.take (l.length * s.sz) (flatA s l) = flatA s l := List.take_of_length_le (by rw [flatA_len]; omega)
        simp only [SV.g, AV.frz, pid, BEq.rfl, if_true, getI ho, SObj.g, flatA_len, Nat.zero_add, Nat.le_refl, and_self, List.drop_zero, htk]
      · exact h.elim
    · rename_i hj
      refine ⟨_, ?_, h⟩
      simp only [SV.g, AV.frz, pid, beq_iff_eq, if_neg hj]
  | .os j off len n sz, K, h => by
    simp only [frzV] at h
    split at h
    · rename_i hj
      subst hj
      split at h
      · rename_i hsz
        subst hsz
        obtain ⟨rfl, hle, hk⟩ := h
        refine ⟨_, ?_, hk⟩
        have hm : (off + len) * s.sz ≤ l.length * s.sz := Nat.mul_le_mul_right _ hle
        rw [Nat.add_mul] at hm
        have hll : ((l.drop off).take len).length = len := by simp; omega
        simp only [SV.g, AV.frz, pid, BEq.rfl, if_true, getI ho, SObj.g, flatA_len, hm, and_self, flatA_sub, hll]
      · exact h.elim
    · rename_i hj
      refine ⟨_, ?_, h⟩
      simp only [SV.g, AV.frz, pid, beq_iff_eq, if_neg hj]
  | .rp j i f n sz, K, h => by
    simp only [frzV] at h
    split at h
    · exact h.elim
    · rename_i hj
      exact ⟨_, by simp only [SV.g, AV.frz, pid, beq_iff_eq, if_neg hj], h⟩
  | .ptr j f t, K, h => by
    simp only [frzV] at h
    split at h
    · exact h.elim
    · rename_i hj
      exact ⟨_, by simp only [SV.g, AV.frz, pid, beq_iff_eq, if_neg hj], h⟩
  | .ap j a b c d i, K, h => by
    simp only [frzV] at h
    split at h
    · exact h.elim
    · rename_i hj
      exact ⟨_, by simp only [SV.g, AV.frz, pid, beq_iff_eq, if_neg hj], h⟩
  | .agg cs, K, h => by
    simp only [frzV] at h
    obtain ⟨cs', h1, h2⟩ := frzVL_sound ho h
    exact ⟨_, by simp only [SV.g, AV.frz, h1, Option.map_some], h2⟩
  | .tup cs, K, h => by
    simp only [frzV] at h
    obtain ⟨cs', h1, h2⟩ := frzVL_sound ho h
    exact ⟨_, by simp only [SV.g, AV.frz, h1, Option.map_some], h2⟩
  | .fn f a b, K, h => by
    simp only [frzV] at h
    obtain ⟨a', h1, h2⟩ := frzVL_sound ho h
    obtain ⟨b', h3, h4⟩ := frzVL_sound ho h2
    exact ⟨_, by simp only [SV.g, AV.frz, h1, h3], h4⟩
  | .ud, K, h => ⟨.ud, by simp only [SV.g, AV.frz], by simpa only [frzV] using h⟩
  | .sc v, K, h => ⟨.sc v, by simp only [SV.g, AV.frz], by simpa only [frzV] using h⟩
  | .il k n, K, h => ⟨.il k n, by simp only [SV.g, AV.frz], by simpa only [frzV] using h⟩
  | .si k n, K, h => ⟨.si k n, by simp only [SV.g, AV.frz], by simpa only [frzV] using h⟩
  | .bl b, K, h => ⟨.bl b, by simp only [SV.g, AV.frz], by simpa only [frzV] using h⟩
  | .sb b, K, h => ⟨.sb b, by simp only [SV.g, AV.frz], by simpa only [frzV] using h⟩
  | .row s l, K, h => ⟨.row s l, by simp only [SV.g, AV.frz], by simpa only [frzV] using h⟩
  | .ep s l i f, K, h => ⟨.ep s l i f, by simp only [SV.g, AV.frz], by simpa only [frzV] using h⟩
  | .mp i, K, h => ⟨.mp i, by simp only [SV.g, AV.frz], by simpa only [frzV] using h⟩
theorem frzVL_sound (ho : o[id]? = some (.row s l e true)) : ∀ {cs : List SV} {K : List SV → Prop}, frzVL id s l cs K → ∃ cs' : List SV, frzL (gO o) (pid id) (gL cs) = some (gL cs') ∧ K cs'
  | [], K, h => ⟨[], by simp [gL, frzL], by simpa only [frzVL] using h⟩
  | c :: cs, K, h => by
    simp only [frzVL] at h
    obtain ⟨c', h1, h2⟩ := frzV_sound ho h
    obtain ⟨cs', h3, h4⟩ := frzVL_sound ho h2
    exact ⟨c' :: cs', by simp only [gL, frzL, h1, h3], h4⟩
end

theorem frzEK_sound (ho : o[id]? = some (.row s l e true)) : ∀ {env : SEnv} {K : SEnv → Prop}, frzEK id s l env K → ∃ env', frzE (gO o) (pid id) (gE env) = some (gE env') ∧ K env'
  | [], K, h => ⟨[], rfl, h⟩
  | (k, v) :: r, K, h => by
    simp only [frzEK] at h
    obtain ⟨v', h1, h2⟩ := frzV_sound ho h
    obtain ⟨r', h3, h4⟩ := frzEK_sound ho h2
    refine ⟨(k, v') :: r', ?_, h4⟩
    simp only [gE, List.map_cons] at h3 ⊢
    simp only [frzE, h1, h3]

theorem frzL_sc {o : Store} {q : Nat → Bool} : ∀ {cs : List AV}, (∀ a ∈ cs, ∃ v, a = .sc v) → frzL o q cs = some cs
  | [], _ => by simp [frzL]
  | c :: cs, h => by
    obtain ⟨v, rfl⟩ := h c (by simp)
    simp only [frzL, AV.frz, frzL_sc (cs := cs) fun a ha => h a (by simp [ha])]

theorem frzM_sc {o : Store} {q : Nat → Bool} : ∀ {es : List (Value × AV)}, (∀ a ∈ es, ∃ v, a.2 = .sc v) → frzM o q es = some es
  | [], _ => by simp [frzM]
  | (k, a) :: es, h => by
    obtain ⟨v, hv⟩ := h (k, a) (by simp)
    simp only at hv
    subst hv
    simp only [frzM, AV.frz, frzM_sc (es := es) fun a ha => h a (by simp [ha])]

theorem frzOK_sound (ho : o[id]? = some (.row s l e true)) : ∀ {i : Nat} {r : SStore} {K : SStore → Prop}, frzOK id s l i r K → ∃ r' mid, frzS (gO o) (pid id) (gO r) = some mid ∧ dropPu (pid id) i mid = gO r' ∧ K r'
  | i, [], K, h => ⟨[], [], rfl, rfl, h⟩
  | i, x :: r, K, h => by
    cases x with
    | dead =>
      simp only [frzOK] at h
      obtain ⟨r', mid, h1, h2, h3⟩ := frzOK_sound ho h
      refine ⟨_, .dead :: mid, ?_, ?_, h3⟩
      · simp only [gO, List.map_cons, SObj.g] at h1 ⊢
        simp only [frzS, AObj.frz, h1]
      · simp only [dropPu, h2]; rfl
    | cells cs e' sz pu =>
      simp only [frzOK] at h
      cases pu with
      | true =>
        simp only [if_true] at h
        split at h
        · exact h.elim
        · rename_i hi
          obtain ⟨r', mid, h1, h2, h3⟩ := frzOK_sound ho h
          refine ⟨_, .cells (gL cs) e' sz true :: mid, ?_, ?_, h3⟩
          · simp only [gO, List.map_cons, SObj.g] at h1 ⊢
            simp only [frzS, AObj.frz, if_true, h1]
          · simp only [dropPu, h2, pid, beq_iff_eq, if_neg hi]; rfl
      | false =>
        simp only [Bool.false_eq_true, if_false] at h
        obtain ⟨cs', hc1, hc2⟩ := frzVL_sound ho h
        obtain ⟨r', mid, h1, h2, h3⟩ := frzOK_sound ho hc2
        refine ⟨_, .cells (gL cs') e' sz false :: mid, ?_, ?_, h3⟩
        · simp only [gO, List.map_cons, SObj.g] at h1 hc1 ⊢
          simp only [frzS, AObj.frz, Bool.false_eq_true, if_false, hc1, Option.map_some, h1]
        · simp only [dropPu, h2]; rfl
    | row s' l' e' pu =>
      simp only [frzOK] at h
      have hobj : (SObj.row s' l' e' pu).g.frz (gO o) (pid id) = some (SObj.row s' l' e' pu).g := by
        cases pu with
        | true => simp only [SObj.g, AObj.frz, if_true]
        | false =>
          simp only [SObj.g, AObj.frz, Bool.false_eq_true, if_false]
          rw [frzL_sc (fun a ha => by obtain ⟨v, hv, _⟩ := flatA_sc ha; exact ⟨v, hv⟩), Option.map_some]
      split at h
      · rename_i hi
        cases pu with
        | false => simp only [Bool.false_eq_true, if_false] at h
        | true =>
          simp only [if_true] at h
          obtain ⟨r', mid, h1, h2, h3⟩ := frzOK_sound ho h
          refine ⟨_, (SObj.row s' l' e' true).g :: mid, ?_, ?_, h3⟩
          · simp only [gO, List.map_cons] at h1 ⊢
            simp only [frzS, gO] at hobj h1 ⊢
            simp only [hobj, h1]
          · simp only [SObj.g, dropPu, pid, hi, BEq.rfl, if_true]
            rw [hi] at h2
            rw [h2]
            rfl
      · rename_i hi
        obtain ⟨r', mid, h1, h2, h3⟩ := frzOK_sound ho h
        refine ⟨_, (SObj.row s' l' e' pu).g :: mid, ?_, ?_, h3⟩
        · simp only [gO, List.map_cons] at h1 ⊢
          simp only [frzS, gO] at hobj h1 ⊢
          simp only [hobj, h1]
        · cases pu <;> simp only [SObj.g, dropPu, h2, pid, beq_iff_eq, if_neg hi] <;> rfl
    | map sk sv ka es kt pu =>
      simp only [frzOK] at h
      have hobj : (SObj.map sk sv ka es kt pu).g.frz (gO o) (pid id) = some (SObj.map sk sv ka es kt pu).g := by
        cases pu with
        | true => simp only [SObj.g, AObj.frz, if_true]
        | false =>
          simp only [SObj.g, AObj.frz, Bool.false_eq_true, if_false]
          rw [frzM_sc (fun a ha => by obtain ⟨q, _, rfl⟩ := List.mem_map.1 ha; exact ⟨_, rfl⟩), Option.map_some]
      obtain ⟨r', mid, h1, h2, h3⟩ := frzOK_sound ho h
      refine ⟨_, (SObj.map sk sv ka es kt pu).g :: mid, ?_, ?_, h3⟩
      · simp only [gO, List.map_cons] at h1 ⊢
        simp only [frzS, gO] at hobj h1 ⊢
        simp only [hobj, h1]
      · simp only [SObj.g, dropPu, h2]; rfl
end

theorem idOf_g {v : SV} : (∃ id, hintK.idOf v = some id ∧ ∃ a b c, v.g = .os id a b c) ∨ (hintK.idOf v = none ∧ ∀ id a b c, v.g ≠ .os id a b c) := by
  cases v <;> simp [hintK.idOf, SV.g]

theorem hint_frz {p : SPar} {lo : Nat} {h : OwnH} {st : SSt} {K : SSt → Prop} {v : SV} (hno : h.own = false) (hcell : cellH h st.g = some v.g)
    (hh : match hintK.idOf v with
      | some id => if Nat.ble lo id then (match st.o[id]? with
        | some (.row s l _ pu) => if pu then frzEK id s l st.env fun env => frzOK id s l 0 st.o fun o => K ⟨env, o⟩ else False
        | _ => False) else K st
      | none => K st) : ∃ st', ownH lo h st.g = st'.g ∧ K st' := by
  let _ := p
  unfold ownH
  rw [if_neg (by simp [hno]), hcell]
  rcases @idOf_g v with ⟨id, h1, a, b, c, h2⟩ | ⟨h1, h2⟩
  · rw [h1] at hh
    rw [h2]
    simp only at hh ⊢
    split at hh
    · rename_i hlo
      rw [if_pos hlo]
      split at hh
      · rename_i s l e pu ho
        cases pu with
        | true =>
          simp only [if_true] at hh
          obtain ⟨env', h3, h4⟩ := frzEK_sound ho hh
          obtain ⟨r', mid, h5, h6, h7⟩ := frzOK_sound ho h4
          refine ⟨_, ?_, h7⟩
          have e1 : (fun i => i == id) = pid id := rfl
          simp only [frzH, SSt.g, e1, h3, h5, h6]
        | false =>
          simp only [Bool.false_eq_true, if_false] at hh
      · exact hh.elim
    · rename_i hlo
      rw [if_neg hlo]
      exact ⟨st, rfl, hh⟩
  · rw [h1] at hh
    refine ⟨st, ?_, hh⟩
    split
    · rename_i id a b c hx
      simp only [Option.some.injEq] at hx
      exact absurd hx (h2 _ _ _ _)
    · rfl

section
variable {p : SPar} {lo : Nat}

theorem hintK_sound {h : OwnH} {st : SSt} {K : SSt → Prop} (hk : hintK p lo h st K) : ∃ st', ownH lo h st.g = st'.g ∧ K st' := by
  unfold hintK at hk
  split at hk
  · rename_i how
    unfold ownH
    rw [if_pos how]
    unfold ownH1
    split at hk
    · rename_i hoff
      simp only [hoff]
      split at hk
      · rename_i hn
        have hn2 := isNil_g.1 hn
        rw [← getS_g] at hn2
        have hn3 : getE st.g.env h.slot = .sc (.slice none 0 0) := hn2
        rw [hn3]
        split at hk
        · rename_i s hs
          split at hk
          · rename_i hsz
            refine ⟨_, ?_, hk⟩
            simp [SSt.g, gE, gO, SV.g, SObj.g, flatA, hsz]
          · exact hk.elim
        · exact hk.elim
      · rename_i hn
        refine ⟨st, ?_, hk⟩
        split
        · rename_i hx
          have : getE (gE st.env) h.slot = .sc (.slice none 0 0) := hx
          rw [getS_g] at this
          exact absurd (isNil_g.2 this) hn
        · rfl
    · rename_i k hoff
      simp only [hoff]
      split at hk
      · rename_i id off tot hslot
        have hs2 : getE st.g.env h.slot = .ptr id off tot := by
          show getE (gE st.env) h.slot = _
          rw [getS_g, hslot]; rfl
        rw [hs2]
        split at hk
        · rename_i cs e sz pu ho
          have ho2 : st.g.o[id]? = some (.cells (gL cs) e sz pu) := getI ho
          simp only [ho2]
          split at hk
          · rename_i hn
            cases hc : cs[off + k]? with
            | none => rw [hc] at hn; simp at hn
            | some v =>
              rw [hc] at hn
              simp only [Option.any_some] at hn
              have hv := isNil_g.1 hn
              have hc2 : (gL cs)[off + k]? = some (.sc (.slice none 0 0)) := by rw [gL_get, hc, Option.map_some, hv]
              simp only [hc2, gL_len]
              split at hk
              · rename_i hh
                rw [if_pos hh]
                split at hk
                · rename_i s hs
                  split at hk
                  · rename_i hsz
                    refine ⟨_, ?_, hk⟩
                    have e1 : gL (cs.set (off + k) (.ow st.o.length 0 h.sz)) = (gL cs).set (off + k) (.os st.o.length 0 0 0) := by
                      rw [gL_map, gL_map, List.map_set]; simp [SV.g]
                    simp only [SSt.g, gO_app, gO_set, SObj.g, e1, gO_len]
                    simp [gO, SObj.g, flatA, hsz]
                  · exact hk.elim
                · exact hk.elim
              · exact hk.elim
          · rename_i hn
            refine ⟨st, ?_, hk⟩
            split
            · rename_i hx
              rw [gL_get] at hx
              obtain ⟨v, hv1, hv2⟩ := Option.map_eq_some_iff.1 hx
              rw [hv1] at hn
              exact absurd (isNil_g.2 hv2) (by simpa using hn)
            · rfl
        · exact hk.elim
      · exact hk.elim
  · rename_i how
    have how : h.own = false := by simpa using how
    unfold hintK.cellK at hk
    cases hoff : h.off with
    | none =>
      rw [hoff] at hk
      simp only at hk
      refine hint_frz (p := p) (v := getS st.env h.slot) how ?_ ?_
      · unfold cellH
        rw [hoff]
        simp only [SSt.g, getS_g]
      · split at hk
        · rename_i id hid
          simp only [Option.some.injEq] at hid
          rw [hid]
          exact hk
        · rename_i hid
          simp only [Option.some.injEq] at hid
          rw [hid]
          exact hk
        · exact hk.elim
    | some k =>
      rw [hoff] at hk
      simp only at hk
      cases hsl : getS st.env h.slot with
      | ptr id off tot =>
        rw [hsl] at hk
        simp only at hk
        cases ho : st.o[id]? with
        | none => rw [ho] at hk; exact hk.elim
        | some x =>
          rw [ho] at hk
          cases x with
          | cells cs e sz pu =>
            simp only at hk
            by_cases hl : cs.length = tot
            · rw [if_pos hl] at hk
              cases hc : cs[off + k]? with
              | none => rw [hc] at hk; exact hk.elim
              | some v =>
                rw [hc] at hk
                refine hint_frz (p := p) (v := v) how ?_ ?_
                · unfold cellH
                  rw [hoff]
                  have : getE st.g.env h.slot = .ptr id off tot := by
                    show getE (gE st.env) h.slot = _
                    rw [getS_g, hsl]; rfl
                  have ho2 : st.g.o[id]? = some (.cells (gL cs) e sz pu) := getI ho
                  simp only [this, behind, ho2, gL_len, hl, if_true, gL_get, hc, Option.map_some]
                · simp only [Option.map_some] at hk
                  split at hk
                  · rename_i id hid
                    simp only [Option.some.injEq] at hid
                    rw [hid]
                    exact hk
                  · rename_i hid
                    simp only [Option.some.injEq] at hid
                    rw [hid]
                    exact hk
                  · exact hk.elim
            · rw [if_neg hl] at hk
              exact hk.elim
          | _ => exact hk.elim
      | _ => rw [hsl] at hk; exact hk.elim

theorem hintsK_sound : ∀ {hs : List OwnH} {st : SSt} {K : SSt → Prop}, hintsK p lo hs st K → ∃ st', hs.foldl (fun s h => ownH lo h s) st.g = st'.g ∧ K st'
  | [], st, K, h => ⟨st, rfl, h⟩
  | h :: hs, st, K, hk => by
    simp only [hintsK] at hk
    obtain ⟨st1, h1, h2⟩ := hintK_sound hk
    obtain ⟨st2, h3, h4⟩ := hintsK_sound h2
    exact ⟨st2, by rw [List.foldl_cons, h1, h3], h4⟩

theorem pruneS_g (live : List Nat) (env : SEnv) : gE (pruneS live env) = prune live (gE env) := by
  simp [pruneS, prune, gE, ← getS_g]

theorem trimS_g (k : Nat) (st : SSt) : (trimS k st).g = trim k st.g := by
  unfold trimS trim
  have h1 : st.g.o.length = st.o.length := by simp [SSt.g, gO_len]
  have h2 : (st.g.env.all fun p => p.2.bel k) = (st.env.all fun p => p.2.bel k) := by
    simp only [SSt.g, gE, List.all_map]
    congr 1
    funext q
    exact bel_g k q.2
  have h3 : ((st.g.o.take k).all fun x => x.bel k) = ((st.o.take k).all fun x => x.bel k) := by
    simp only [SSt.g, gO, ← List.map_take, List.all_map]
    congr 1
    funext x
    exact obel_g k x
  rw [h1, h2, h3]
  by_cases hk : st.o.length ≤ k
  · rw [if_pos hk, if_pos hk]
  · rw [if_neg hk, if_neg hk]
    split
    · simp [SSt.g, gO]
    · rfl

/-! ### code -/

variable {T : Tab}

theorem splitN_sound {v : Int} {n : Nat} {K : Nat → Prop} : ∀ {j : Nat}, j ≤ n → splitN v n K j → (n - j : Nat) ≤ v → ∃ i : Nat, v = i ∧ K i
  | 0, _, h, hv => by
    simp only [splitN] at h
    omega
  | j + 1, hj, h, hv => by
    simp only [splitN] at h
    by_cases he : v = (n - (j + 1) : Nat)
    · exact ⟨_, he, h.1 he⟩
    · exact splitN_sound (by omega) h.2 (by omega)

theorem splitN_nonneg {v : Int} {n : Nat} {K : Nat → Prop} : ∀ {j : Nat}, splitN v n K j → 0 ≤ v
  | 0, h => h.1
  | j + 1, h => splitN_nonneg h.2

theorem splitK_sound {x : Option (Nat × Nat × Nat)} {st : SSt} {K : SSt → Prop} (h : splitK x st K) : ∃ st', st'.g = st.g ∧ K st' := by
  unfold splitK at h
  split at h
  · exact ⟨st, rfl, h⟩
  · rename_i id off n
    split at h
    · rename_i cs e sz pu ho
      split at h
      · rename_i k v hc
        obtain ⟨i, rfl, hk⟩ := splitN_sound (Nat.le_refl _) h (by have := splitN_nonneg h; omega)
        refine ⟨_, ?_, hk⟩
        have e1 : gL (cs.set off (.il k i)) = gL cs := by
          rw [gL_map, gL_map, List.map_set]
          apply List.ext_getElem?
          intro j
          rw [List.getElem?_set]
          split
          · rename_i hj
            subst hj
            obtain ⟨h1, h2⟩ := List.getElem?_eq_some_iff.1 hc
            simp [h1, h2, SV.g]
          · rfl
        simp only [SSt.g, gO_set, SObj.g, e1, SSt.mk.injEq, St.mk.injEq, true_and]
        apply List.ext_getElem?
        intro j
        rw [List.getElem?_set]
        split
        · rename_i hj
          subst hj
          have hl := (List.getElem?_eq_some_iff.1 ho).1
          rw [if_pos (by rw [gO_len]; exact hl), gO_get, ho]
          rfl
        · rfl
      · exact h.elim
    · exact h.elim

theorem sameE_g : ∀ {e e' : SEnv}, sameE e e' → gE e = gE e'
  | [], [], _ => rfl
  | [], _ :: _, h => by simp [sameE] at h
  | _ :: _, [], h => by simp [sameE] at h
  | (k, v) :: e, (k', v') :: e', h => by
    simp only [sameE] at h
    split at h
    · rename_i hk
      subst hk
      have := sameE_g h.2
      simp only [gE, List.map_cons] at this ⊢
      rw [this, show v.g = v'.g from h.1]
    · exact h.elim

theorem sameO_g : ∀ {o o' : SStore}, sameO o o' → gO o = gO o'
  | [], [], _ => rfl
  | [], _ :: _, h => by simp [sameO] at h
  | _ :: _, [], h => by simp [sameO] at h
  | x :: o, y :: o', h => by
    simp only [sameO] at h
    have := sameO_g h.2
    simp only [gO, List.map_cons] at this ⊢
    rw [this, show x.g = y.g from h.1]

theorem sameSt_g {s t : SSt} (h : sameSt s t) : s.g = t.g := by
  simp only [SSt.g, sameE_g h.1, sameO_g h.2]

theorem wpS_sound (hC : SCallsOK T.K p.C) : ∀ {c : IR} {Λ : Nat → LoopAnn} {st : SSt} {Q : Out → SSt → Prop}, wpS p lo c Λ st Q → VW T lo c st.g fun out s => ∃ ss, s = ss.g ∧ Q out ss := by
  intro c
  induction c with
  | skip => intro Λ st Q h; exact VW.skip ⟨st, rfl, h⟩
  | exit id => intro Λ st Q h; exact VW.exit ⟨st, rfl, h⟩
  | ret => intro Λ st Q h; exact VW.ret ⟨st, rfl, h⟩
  | region id draw k ops chk live pre post =>
    intro Λ st Q h
    simp only [wpS] at h
    obtain ⟨st0, h0, h⟩ := splitK_sound h
    obtain ⟨st1, h1, h2⟩ := hintsK_sound h
    obtain ⟨st2, h3, h4⟩ := regK_sound hC h2
    obtain ⟨st3, h5, h6⟩ := hintsK_sound h4
    refine VW.region ?_
    rw [← h0, h1, h3]
    refine ⟨st3, ?_, h6⟩
    rw [← h5]
    simp only [SSt.g, pruneS_g]
  | seq a b iha ihb =>
    intro Λ st Q h
    simp only [wpS] at h
    refine VW.seq ((iha h).mono ?_)
    rintro out s ⟨ss, rfl, h2⟩
    cases out with
    | norm => rw [if_pos rfl]; exact ihb h2
    | exit id => rw [if_neg (by simp)]; exact ⟨ss, rfl, h2⟩
    | ret => rw [if_neg (by simp)]; exact ⟨ss, rfl, h2⟩
  | cond x a b iha ihb =>
    intro Λ st Q h
    simp only [wpS] at h
    have hx : evA st.g.env x = (evS st.env x).g := evS_g _ _
    split at h
    · rename_i he
      rw [he] at hx
      exact VW.cond hx (by simpa using iha h)
    · rename_i he
      rw [he] at hx
      exact VW.cond hx (by simpa using ihb h)
    · rename_i c he
      rw [he] at hx
      refine VW.cond hx ?_
      cases c with
      | true => rw [if_pos rfl]; exact iha (h.1 rfl)
      | false => rw [if_neg (by simp)]; exact ihb (h.2 rfl)
    · exact h.elim
  | block id b ih =>
    intro Λ st Q h
    simp only [wpS] at h
    exact VW.block ((ih h).mono fun out s ⟨ss, e, h2⟩ => ⟨ss, e, h2⟩)
  | loop b ih =>
    intro Λ st Q h
    simp only [wpS] at h
    split at h
    · rename_i n hΛ
      clear hΛ
      induction n generalizing st with
      | zero => exact h.elim
      | succ n ihn =>
        simp only [unrollK] at h
        refine VW.loop ((ih h).mono ?_)
        rintro out s ⟨ss, rfl, h2⟩
        cases out with
        | norm =>
          rw [if_pos rfl]
          have := ihn h2
          rwa [trimS_g, show st.o.length = st.g.o.length from by simp [SSt.g, gO_len]] at this
        | exit id => rw [if_neg (by simp)]; exact ⟨ss, rfl, h2⟩
        | ret => rw [if_neg (by simp)]; exact ⟨ss, rfl, h2⟩
    · exact h.elim
    · rename_i X shape next J m inner _
      obtain ⟨⟨h0, hx⟩, hstep⟩ := h
      refine VW.loop_inv (fun k s => ∃ x, s = (shape x).g ∧ J x ∧ m x = k) ?_ (m (next st)) _ ⟨next st, sameSt_g h0, hx, rfl⟩
      rintro k s ⟨x, rfl, hj, rfl⟩
      refine (ih (hstep x hj)).mono ?_
      rintro out s ⟨ss, rfl, h2⟩
      cases out with
      | norm =>
        rw [if_pos rfl]
        obtain ⟨h3, h4, h5⟩ := h2
        refine ⟨_, h5, _, ?_, h4, rfl⟩
        have h6 := sameSt_g h3
        rw [← h6, trimS_g, show (shape x).o.length = (shape x).g.o.length from by simp [SSt.g, gO_len]]
      | exit id => rw [if_neg (by simp)]; exact ⟨ss, rfl, h2⟩
      | ret => rw [if_neg (by simp)]; exact ⟨ss, rfl, h2⟩

theorem resK_go {st : SSt} : ∀ {rs : List IRes} {K : List SV → Prop}, resK.goK st rs K → ∃ l, rs.mapM (resA st.g) = some (gL l) ∧ K l
  | [], K, h => ⟨[], by simp [gL], h⟩
  | r :: rs, K, h => by
    simp only [resK.goK] at h
    have h1 : ∃ v, resA st.g r = some v.g ∧ resK.goK st rs fun l => K (v :: l) := by
      unfold resK.oneK at h
      unfold resA
      split at h
      · rename_i hc
        rw [hc]
        exact ⟨_, by simp only [SSt.g, getS_g], h⟩
      · rename_i n hc
        rw [hc]
        obtain ⟨cs, off, v, h2, h3, h4⟩ := loadK_sound h
        refine ⟨v, ?_, h4⟩
        simp only [SSt.g, getS_g, h2, h3]
    obtain ⟨v, h2, h3⟩ := h1
    obtain ⟨l, h4, h5⟩ := resK_go h3
    exact ⟨v :: l, by simp [List.mapM_cons, h2, h4, gL], h5⟩

theorem resK_sound {st : SSt} {rs : List IRes} {K : SV → Prop} (h : resK st rs K) : ∃ r, resultsA st.g rs = some r.g ∧ K r := by
  unfold resK at h
  obtain ⟨l, h1, h2⟩ := resK_go h
  unfold resultsA
  rw [h1]
  match l, h2 with
  | [], h2 => exact ⟨_, rfl, h2⟩
  | [v], h2 => exact ⟨v, rfl, h2⟩
  | v :: w :: l, h2 => exact ⟨_, rfl, h2⟩

theorem bindS_g : ∀ (i : Nat) (args : List SV), gE (bindS i args) = bindArgs i (gL args)
  | _, [] => rfl
  | i, v :: vs => by
    have := bindS_g (i + 1) vs
    simp only [gE] at this
    simp only [bindS, gE, List.map_cons, gL, bindArgs, this]

/-- A call that does not write to what is handed in. -/
theorem fnK_sound {Λ : Nat → LoopAnn} {P : Program} (hT : TabOK P T) (hC : SCallsOK T.K p.C) {f : FuncId} {F : IFn} (hF : T.fn f = some F) {args : List SV} {r : AV} (hK : T.K f (gL args) [] false = none) (hlen : args.length = F.params)
    (h : fnK p Λ F args fun v => v.g = r) : goodF P f = true ∧ CallO P f (gL args) [] r [] := by
  unfold fnK at h
  have hw := wpS_sound hC h
  have hst : (SSt.mk (bindS 0 args) []).g = ⟨bindArgs 0 (gL args), []⟩ := by simp [SSt.g, bindS_g, gO]
  rw [hst] at hw
  obtain ⟨h1, h2, _⟩ := call_of_vw hT hF (o := []) (own := false) hK (by rw [gL_len]; exact hlen) (v := r) (o' := []) (hw.mono fun out s hs => by
    obtain ⟨ss, rfl, hq⟩ := hs
    cases out with
    | exit id => exact hq.elim
    | norm =>
      obtain ⟨r0, h1, h2⟩ := resK_sound hq
      obtain ⟨v, h3, h4⟩ := frzK_sound h2
      refine ⟨.inl rfl, ?_⟩
      rw [h1]
      show finish false 0 r0.g ss.g.o = _
      have : freeze ss.g.o 6 r0.g = some v.g := h3
      simp [finish, this, h4]
    | ret =>
      obtain ⟨r0, h1, h2⟩ := resK_sound hq
      obtain ⟨v, h3, h4⟩ := frzK_sound h2
      refine ⟨.inr rfl, ?_⟩
      rw [h1]
      show finish false 0 r0.g ss.g.o = _
      have : freeze ss.g.o 6 r0.g = some v.g := h3
      simp [finish, this, h4])
  exact ⟨h1, h2⟩
end

end Go.Vi
