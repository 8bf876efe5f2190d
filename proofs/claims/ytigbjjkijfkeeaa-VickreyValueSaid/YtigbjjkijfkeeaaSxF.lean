/-
  The symbolic run: calls that hand back objects of their own.
  Conditions: none.
-/
import Derived.Test.YtigbjjkijfkeeaaSxE
namespace Go.Vi

mutual
/-- Rows from 'k' on are let go as plain slices. -/
def frzA (o : SStore) (k : Nat) : SV → (SV → Prop) → Prop
  | .ow id n sz, K => if k ≤ id then (match o[id]? with
      | some (.row s l _ true) => if sz = s.sz then n = l.length ∧ K (.row s l) else False
      | some (.row _ _ _ false) => K (.ow id n sz)
      | _ => False) else K (.ow id n sz)
  | .ptr id f t, K => if k ≤ id then (match o[id]? with
      | some (.cells _ _ _ false) => K (.ptr id f t)
      | _ => False) else K (.ptr id f t)
  | .agg cs, K => frzAL o k cs fun cs' => K (.agg cs')
  | .tup cs, K => frzAL o k cs fun cs' => K (.tup cs')
  | .ud, K => K .ud
  | .sc v, K => K (.sc v)
  | .il q n, K => K (.il q n)
  | .si q n, K => K (.si q n)
  | .bl b, K => K (.bl b)
  | .sb b, K => K (.sb b)
  | .row s l, K => K (.row s l)
  | .mp i, K => K (.mp i)
  | _, _ => False
def frzAL (o : SStore) (k : Nat) : List SV → (List SV → Prop) → Prop
  | [], K => K []
  | c :: cs, K => frzA o k c fun c' => frzAL o k cs fun cs' => K (c' :: cs')
end

section
variable {o : SStore} {k : Nat}
mutual
theorem frzA_sound : ∀ {v : SV} {K : SV → Prop}, frzA o k v K → ∃ v' : SV, v.g.frz (gO o) (fun i => decide (k ≤ i)) = some v'.g ∧ K v'
  | .ow id n sz, K, h => by
    simp only [frzA] at h
    split at h
    · rename_i hk
      split at h
      · rename_i s l e ho
        split at h
        · rename_i hsz
          subst hsz
          obtain ⟨rfl, h⟩ := h
          refine ⟨_, ?_, h⟩
          have htk : List.take (l.length * s.sz) (flatA s l) = flatA s l := List.take_of_length_le (by rw [flatA_len]; omega)
          simp only [SV.g, AV.frz, hk, decide_true, if_true, getI ho, SObj.g, flatA_len, Nat.zero_add, Nat.le_refl, and_self, List.drop_zero, htk]
        · exact h.elim
      · rename_i s l e ho
        refine ⟨_, ?_, h⟩
        simp only [SV.g, AV.frz, hk, decide_true, if_true, getI ho, SObj.g, Bool.false_eq_true, if_false]
      · exact h.elim
    · rename_i hk
      refine ⟨_, ?_, h⟩
      simp only [SV.g, AV.frz, decide_eq_true_eq, if_neg hk]
  | .ptr id f t, K, h => by
    simp only [frzA] at h
    split at h
    · rename_i hk
      split at h
      · rename_i cs e sz ho
        refine ⟨_, ?_, h⟩
        simp only [SV.g, AV.frz, hk, decide_true, if_true, getI ho, SObj.g, Bool.false_eq_true, if_false]
      · exact h.elim
    · rename_i hk
      refine ⟨_, ?_, h⟩
      simp only [SV.g, AV.frz, decide_eq_true_eq, if_neg hk]
  | .agg cs, K, h => by
    simp only [frzA] at h
    obtain ⟨cs', h1, h2⟩ := frzAL_sound h
    exact ⟨_, by simp only [SV.g, AV.frz, h1, Option.map_some], h2⟩
  | .tup cs, K, h => by
    simp only [frzA] at h
    obtain ⟨cs', h1, h2⟩ := frzAL_sound h
    exact ⟨_, by simp only [SV.g, AV.frz, h1, Option.map_some], h2⟩
  | .ud, K, h => ⟨.ud, by simp only [SV.g, AV.frz], by simpa only [frzA] using h⟩
  | .sc v, K, h => ⟨.sc v, by simp only [SV.g, AV.frz], by simpa only [frzA] using h⟩
  | .il k n, K, h => ⟨.il k n, by simp only [SV.g, AV.frz], by simpa only [frzA] using h⟩
  | .si k n, K, h => ⟨.si k n, by simp only [SV.g, AV.frz], by simpa only [frzA] using h⟩
  | .bl b, K, h => ⟨.bl b, by simp only [SV.g, AV.frz], by simpa only [frzA] using h⟩
  | .sb b, K, h => ⟨.sb b, by simp only [SV.g, AV.frz], by simpa only [frzA] using h⟩
  | .row s l, K, h => ⟨.row s l, by simp only [SV.g, AV.frz], by simpa only [frzA] using h⟩
  | .mp i, K, h => ⟨.mp i, by simp only [SV.g, AV.frz], by simpa only [frzA] using h⟩
  | .ep .., K, h | .ap .., K, h | .rp .., K, h | .os .., K, h | .fn .., K, h => by simp only [frzA] at h
theorem frzAL_sound : ∀ {cs : List SV} {K : List SV → Prop}, frzAL o k cs K → ∃ cs' : List SV, frzL (gO o) (fun i => decide (k ≤ i)) (gL cs) = some (gL cs') ∧ K cs'
  | [], K, h => ⟨[], by simp [gL, frzL], by simpa only [frzAL] using h⟩
  | c :: cs, K, h => by
    simp only [frzAL] at h
    obtain ⟨c', h1, h2⟩ := frzA_sound h
    obtain ⟨cs', h3, h4⟩ := frzAL_sound h2
    exact ⟨c' :: cs', by simp only [gL, frzL, h1, h3], h4⟩
end

/-- The same of all objects; the rows that were let go are no objects any more. -/
def frzAO (o : SStore) (k : Nat) : Nat → SStore → (SStore → Prop) → Prop
  | _, [], K => K []
  | i, x :: r, K => match x with
    | .cells cs e sz false => frzAL o k cs fun cs' => frzAO o k (i + 1) r fun r' => K (.cells cs' e sz false :: r')
    | .row s l e pu => frzAO o k (i + 1) r fun r' => K ((if pu && decide (k ≤ i) then .dead else .row s l e pu) :: r')
    | .map sk sv ka es kt pu => frzAO o k (i + 1) r fun r' => K (.map sk sv ka es kt pu :: r')
    | .dead => frzAO o k (i + 1) r fun r' => K (.dead :: r')
    | _ => False

theorem frzAO_sound : ∀ {i : Nat} {r : SStore} {K : SStore → Prop}, frzAO o k i r K → ∃ r' mid, frzS (gO o) (fun i => decide (k ≤ i)) (gO r) = some mid ∧ dropPu (fun i => decide (k ≤ i)) i mid = gO r' ∧ K r'
  | i, [], K, h => ⟨[], [], rfl, rfl, h⟩
  | i, x :: r, K, h => by
    cases x with
    | dead =>
      simp only [frzAO] at h
      obtain ⟨r', mid, h1, h2, h3⟩ := frzAO_sound h
      refine ⟨_, .dead :: mid, ?_, ?_, h3⟩
      · simp only [gO, List.map_cons, SObj.g] at h1 ⊢
        simp only [frzS, AObj.frz, h1]
      · simp only [dropPu, h2]; rfl
    | cells cs e' sz pu =>
      cases pu with
      | true => simp only [frzAO] at h
      | false =>
        simp only [frzAO] at h
        obtain ⟨cs', hc1, hc2⟩ := frzAL_sound h
        obtain ⟨r', mid, h1, h2, h3⟩ := frzAO_sound hc2
        refine ⟨_, .cells (gL cs') e' sz false :: mid, ?_, ?_, h3⟩
        · simp only [gO, List.map_cons, SObj.g] at h1 hc1 ⊢
          simp only [frzS, AObj.frz, Bool.false_eq_true, if_false, hc1, Option.map_some, h1]
        · simp only [dropPu, h2]; rfl
    | row s l e' pu =>
      simp only [frzAO] at h
      obtain ⟨r', mid, h1, h2, h3⟩ := frzAO_sound h
      refine ⟨_, (SObj.row s l e' pu).g :: mid, ?_, ?_, h3⟩
      · have hobj : (SObj.row s l e' pu).g.frz (gO o) (fun i => decide (k ≤ i)) = some (SObj.row s l e' pu).g := by
          cases pu with
          | true => simp only [SObj.g, AObj.frz, if_true]
          | false =>
            simp only [SObj.g, AObj.frz, Bool.false_eq_true, if_false]
            rw [frzL_sc flatA_sc', Option.map_some]
        simp only [gO, List.map_cons] at h1 ⊢
        simp only [frzS, gO] at hobj h1 ⊢
        simp only [hobj, h1]
      · cases pu with
        | true =>
          simp only [SObj.g, dropPu, Bool.true_and]
          by_cases hk : k ≤ i
          · simp only [hk, decide_true, if_true]
            rw [h2]; rfl
          · simp only [hk, decide_false, Bool.false_eq_true, if_false]
            rw [h2]; rfl
        | false => simp only [SObj.g, dropPu, Bool.false_and, Bool.false_eq_true, if_false]; rw [h2]; rfl
    | map sk sv ka es kt pu =>
      simp only [frzAO] at h
      obtain ⟨r', mid, h1, h2, h3⟩ := frzAO_sound h
      have hobj : (SObj.map sk sv ka es kt pu).g.frz (gO o) (fun i => decide (k ≤ i)) = some (SObj.map sk sv ka es kt pu).g := by
        cases pu with
        | true => simp only [SObj.g, AObj.frz, if_true]
        | false =>
          simp only [SObj.g, AObj.frz, Bool.false_eq_true, if_false]
          rw [frzM_sc mapA_sc, Option.map_some]
      refine ⟨_, (SObj.map sk sv ka es kt pu).g :: mid, ?_, ?_, h3⟩
      · simp only [gO, List.map_cons] at h1 ⊢
        simp only [frzS, gO] at hobj h1 ⊢
        simp only [hobj, h1]
      · simp only [SObj.g, dropPu, h2]; rfl
end

/-- The end of a call that was handed no objects. -/
def finK (r : SV) (o : SStore) (K : SV → SStore → Prop) : Prop :=
  frzA o 0 r fun r1 => frzAO o 0 0 o fun o2 =>
    let ids := reachSS o2 reachD [r1] []
    if callOwn.nodupN ids then match r1.ren (fun j => idxOf ids j), subSS o2 ids ids with
      | some r2, some s2 => K r2 s2
      | _, _ => False
    else False

theorem finK_sound {r : SV} {o : SStore} {K : SV → SStore → Prop} (h : finK r o K) : ∃ r' o', finishOwn 0 r.g (gO o) = some (r'.g, gO o') ∧ K r' o' := by
  unfold finK at h
  obtain ⟨r1, h1, h2⟩ := frzA_sound h
  obtain ⟨o2, mid, h3, h4, h5⟩ := frzAO_sound h2
  simp only at h5
  split at h5
  · rename_i hn
    split at h5
    · rename_i r2 s2 h6 h7
      refine ⟨r2, s2, ?_, h5⟩
      unfold finishOwn
      rw [h1, h3]
      simp only [h4, List.take_zero, List.flatMap_nil, List.range_zero]
      have hr := reach_g (o := o2) (d := reachD) (vs := [r1]) (acc := [])
      simp only [gL] at hr
      rw [hr, if_pos hn, ren_g h6, subSS_g h7]
    · exact h5.elim
  · exact h5.elim

/-- A call that hands back objects of its own. -/
def fnNewK (p : SPar) (Λ : Nat → LoopAnn) (F : IFn) (args : List SV) (Q : SV → SStore → Prop) : Prop :=
  wpS p 0 F.body Λ ⟨bindS 0 args, []⟩ fun out st => match out with
    | .exit _ => False
    | _ => resK st F.res fun r => finK r st.o Q

theorem fnNewK_sound {P : Program} {T : Tab} {p : SPar} {Λ : Nat → LoopAnn} (hT : TabOK P T) (hC : SCallsOK T.K p.C) {f : FuncId} {F : IFn} (hF : T.fn f = some F) {args : List SV} {r : AV} {o' : Store} (hK : T.K f (gL args) [] true = none) (hlen : args.length = F.params)
    {Q : SV → SStore → Prop} (hQ : ∀ v s, Q v s → v.g = r ∧ gO s = o') (h : fnNewK p Λ F args Q) : goodF P f = true ∧ CallO P f (gL args) [] r o' := by
  unfold fnNewK at h
  have hw := wpS_sound hC h
  have hst : (SSt.mk (bindS 0 args) []).g = ⟨bindArgs 0 (gL args), []⟩ := by simp [SSt.g, bindS_g, gO]
  rw [hst] at hw
  have fin : ∀ (ss : SSt), (resK ss F.res fun v => finK v ss.o Q) → (resultsA ss.g F.res).bind (fun r0 => finish true 0 r0 ss.g.o) = some (r, o') := by
    intro ss hq
    obtain ⟨r0, h1, h2⟩ := resK_sound hq
    obtain ⟨r', s', h3, h4⟩ := finK_sound h2
    rw [h1]
    simp only [Option.bind_some, finish, if_true]
    have : finishOwn 0 r0.g ss.g.o = some (r'.g, gO s') := h3
    rw [this, (hQ _ _ h4).1, (hQ _ _ h4).2]
  obtain ⟨h1, h2, _⟩ := call_of_vw hT hF (o := []) (own := true) hK (by rw [gL_len]; exact hlen) (v := r) (o' := o') (hw.mono fun out s hs => by
    obtain ⟨ss, rfl, hq⟩ := hs
    cases out with
    | exit id => exact hq.elim
    | norm => exact ⟨.inl rfl, fin ss hq⟩
    | ret => exact ⟨.inr rfl, fin ss hq⟩)
  exact ⟨h1, h2⟩

theorem ownA_fresh {W : List OCtr} {f : FuncId} {args : List AV} {o : Store} (h : findO f W = none) : ownA W f args o = none := by
  unfold ownA
  rw [h]

end Go.Vi
