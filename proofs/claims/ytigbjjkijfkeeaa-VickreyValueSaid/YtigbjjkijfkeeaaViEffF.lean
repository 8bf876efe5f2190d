/-
  The abstract interpreter: append.
  Conditions: none.
-/
import Derived.Test.YtigbjjkijfkeeaaViEffE
import Derived.Maps.AppendAt
namespace Go.Vi

section
variable {P : Program} {A : Nat → Prop} {w w' : World} {σ σ' : Sig} {o o' : Store} {ρA : Operand → AV} {ρC : Operand → Value} {oper : Oper} {v : AV}

theorem add_own (b off j : Nat) : (⟨b, off, none⟩ : Addr).add j = ⟨b, off + j, none⟩ := by unfold Addr.add; split <;> simp_all

/-- The elements of a slice stand in memory. -/
theorem elems_rep (hS : SimO A w σ o) {sz : Nat} (hsz0 : 0 < sz) {a : AV} {u : Value} (h : Rep A w σ o a u) {m : Nat} {new : List AV} (he : elemsA o sz a = some (m, new)) :
    ∃ Z c, u = .slice Z m c ∧ m ≤ c ∧ new.length = m * sz ∧ ∀ (j : Nat) (d : AV), new[j]? = some d → ∃ (p : Addr) (v : Value), Z = some p ∧ w.cell? (p.add j) = some v ∧ Rep A w σ o d v := by
  unfold elemsA at he
  split at he
  · rename_i n cs
    split at he
    · rename_i hlen
      simp only [Option.some.injEq, Prod.mk.injEq] at he
      obtain ⟨rfl, rfl⟩ := he
      simp only [Rep] at h
      obtain ⟨Z, cap, rfl, hc, _, hm⟩ := h
      refine ⟨Z, cap, rfl, hc, hlen, fun j d hd => ?_⟩
      obtain ⟨b, v, hb, _, hcell, hr⟩ := RepM.get _ _ _ hm j d hd
      exact ⟨b, v, hb, by simpa using hcell, hr⟩
    · cases he
  · rename_i id off len tot
    simp only [Rep] at h
    obtain ⟨hle, Z, cap, rfl, hc, hcur⟩ := h
    split at he
    · rename_i cs e sz' pu ho
      split at he
      · rename_i hcond
        obtain ⟨htot, rfl, hrange⟩ := hcond
        simp only [Option.some.injEq, Prod.mk.injEq] at he
        obtain ⟨rfl, rfl⟩ := he
        have hk := hcur sz' ⟨cs, e, pu, ho, htot⟩
        refine ⟨Z, cap, rfl, hc, by simp; omega, fun j d hd => ?_⟩
        rw [List.getElem?_take] at hd
        split at hd
        · rename_i hj
          rw [List.getElem?_drop] at hd
          have hpos : 0 < len := by
            rcases Nat.eq_zero_or_pos len with h0 | h0
            · subst h0; simp at hj
            · exact h0
          unfold OsOk at hk
          split at hk
          · omega
          · rename_i b c hσ
            have hx := hS.obj id _ ho
            simp only [ObjOK] at hx
            rcases hx.2.2 with ⟨h0, _⟩ | ⟨b', cap', arr, h1, _, h3, _, _, h6⟩
            · rw [hσ] at h0; cases h0
            · rw [hσ] at h1
              simp only [Option.some.injEq, Prod.mk.injEq] at h1
              obtain ⟨rfl, rfl⟩ := h1
              obtain ⟨v, hv, hr⟩ := h6 _ d hd
              refine ⟨⟨b, off, none⟩, v, hk.1 hpos, ?_, hr⟩
              rw [add_own]
              simp [World.cell?, h3, hv]
          · exact hk.elim
        · cases hd
      · cases he
    · cases he
  · simp only [Option.some.injEq, Prod.mk.injEq] at he
    obtain ⟨rfl, rfl⟩ := he
    exact ⟨none, 0, rep_sc h, Nat.le_refl _, by simp, by simp⟩
  · cases he

theorem run_append_zero {t ty e : TypeId} {i : TypeInfo} (ht : P.underlying t = some (.slice e)) (hi : P.info? e = some i) (B Z : Option Addr) (n c c' : Nat) (hnc : n ≤ c) (w : World) :
    (Builtin.append_ #[t, t] ty #[.slice B n c, .slice Z 0 c']).run P w = .ok (.slice B n c) w := by
  cases B <;> cases Z <;> simp [Builtin.append_, run_underlying ht, sizeOf, typeInfo, hi, Builtin.lenOf, Builtin.firstCells, hnc, loadCells, loadCellsFrom, storeCells]

theorem exec_append {t : TypeId} {c : Call} {s x : Operand} (hop : oper.op = .call c) (hc : c.callee = .builtin .append) (ha : c.args = #[s, x]) (hty : c.argTypes = #[t, t]) {u : Value}
    (h : (Builtin.append_ #[t, t] oper.type #[ρC s, ρC x]).run P w = .ok u w') : (execOp ρC oper).run P w = .ok (.value u) w' := by
  simp [execOp, hop, resolve, hc, ha, hty, invoke, builtin, h]

/-- The values behind the cells of a list, in order. -/
theorem vals_of {A : Nat → Prop} {w : World} {σ : Sig} {o : Store} {Z : Option Addr} : ∀ (new : List AV) (k : Nat), (∀ (j : Nat) (d : AV), new[j]? = some d → ∃ (p : Addr) (v : Value), Z = some p ∧ w.cell? (p.add (k + j)) = some v ∧ Rep A w σ o d v) →
    ∃ vs : List Value, RepL A w σ o new vs ∧ ∀ (p : Addr), Z = some p → ∀ (j : Nat) (u : Value), vs[j]? = some u → w.cell? (p.add (k + j)) = some u
  | [], _, _ => ⟨[], by simp [RepL], by simp⟩
  | d :: new, k, h => by
    obtain ⟨p, v, hp, hv, hr⟩ := h 0 d (by simp)
    obtain ⟨vs, h1, h2⟩ := vals_of new (k + 1) (fun j d' hd => by
      have := h (j + 1) d' (by simpa using hd)
      rwa [show k + 1 + j = k + (j + 1) from by omega])
    refine ⟨v :: vs, by simp only [RepL]; exact ⟨v, vs, rfl, hr, h1⟩, fun q hq j u hu => ?_⟩
    rw [hp] at hq
    injection hq with hq
    subst hq
    cases j with
    | zero => simp at hu; subst hu; simpa using hv
    | succ j =>
      have := h2 p hp j u (by simpa using hu)
      rwa [show k + (j + 1) = k + 1 + j from by omega]

theorem repL_one {A : Nat → Prop} {w : World} {σ : Sig} {o : Store} : ∀ {cs : List AV} {vs : List Value}, RepL A w σ o cs vs → oneL cs = true → ∀ u ∈ vs, u.oneCell' = true
  | [], vs, hr, _ => by simp only [RepL] at hr; subst hr; simp
  | c :: cs, vs, hr, h1 => by
    simp only [RepL] at hr
    obtain ⟨v, r, rfl, hc, hl⟩ := hr
    simp only [oneL, List.all_cons, Bool.and_eq_true] at h1
    intro u hu
    rcases List.mem_cons.1 hu with rfl | hu
    · exact hc.one h1.1
    · exact repL_one hl h1.2 u hu

theorem g_append (hS : SimO A w σ o) (hρ : ∀ x, Rep A w σ o (ρA x) (ρC x)) {t e sz bytes nid : Nat} {z : List Value} {c : Call} {s x : Operand} {pu : Bool} (hop : oper.op = .call c) (hc : c.callee = .builtin .append) (ha : c.args = #[s, x]) (hty : c.argTypes = #[t, t])
    (ht : P.underlying t = some (.slice e)) (hz : zeroT P e = some z) (hb : bytesT P e = some bytes) (hsz : sz = z.length) (hsz0 : 0 < sz) (h : appendA e sz bytes pu (ρA s) (ρA x) o nid = some (v, o')) : Gives A P ρC oper w σ o v o' := by
  obtain ⟨i, zv, hi, hzv, hcells, hsize, hone⟩ := zeroT_some hz
  have hib : i.bytes = bytes := by simp [bytesT, hi] at hb; exact hb
  have his : i.size = sz := by omega
  have hzs : zv.cells.size = sz := by rw [hsz, ← hcells]; simp
  unfold appendA at h
  split at h
  · cases h
  rename_i m new hel
  split at h
  · cases h
  rename_i h1
  have h1' : oneL new = true := by simpa using h1
  obtain ⟨Z, cx, hxv, hmc, hnl, hnew⟩ := elems_rep hS hsz0 (hρ x) hel
  have hzero : ∀ (B : Option Addr) (n cap : Nat), m = 0 → ρC s = .slice B n cap → n ≤ cap → (execOp ρC oper).run P w = .ok (.value (.slice B n cap)) w := by
    intro B n cap hm hsv hn
    subst hm
    exact exec_append (ρC := ρC) hop hc ha hty (by rw [hsv, hxv]; exact run_append_zero ht hi B Z n cap cx hn w)
  obtain ⟨vs, hvl, hvc⟩ := vals_of (w := w) (σ := σ) (o := o) (Z := Z) new 0 (fun j d hd => by simpa using hnew j d hd)
  have hvlen : vs.length = m * sz := by rw [← hnl]; exact (RepL.length _ _ hvl).symm
  have hvone := repL_one hvl h1'
  have hs := hρ s
  split at h
  · -- the nil slice
    rename_i hsa
    rw [hsa] at hs
    have hsv := rep_sc hs
    split at h
    · rename_i hm0
      simp only [Option.some.injEq, Prod.mk.injEq] at h
      obtain ⟨rfl, rfl⟩ := h
      exact Gives.same hS (hzero none 0 0 hm0 hsv (Nat.le_refl _)) (by simp [Rep, nilSl, Value.oneCell'])
    · rename_i hm0
      split at h
      · rename_i hcond
        obtain ⟨hby, hbig, hpu⟩ := hcond
        cases hmk : mkO nid (.cells new e sz pu) o with
        | none => simp [hmk] at h
        | some o2 =>
          simp only [hmk, Option.map_some, Option.some.injEq, Prod.mk.injEq] at h
          obtain ⟨rfl, rfl⟩ := h
          obtain ⟨hd, rfl⟩ := mkO_some hmk
          have hid : nid < o.length := (List.getElem?_eq_some_iff.1 hd).1
          have hidσ : nid < σ.length := by rw [hS.len]; exact hid
          have hlt : 0 < new.length := by rw [hnl]; exact Nat.mul_pos (by omega) hsz0
          obtain ⟨p, _, hp, _⟩ := hnew 0 _ (List.getElem?_eq_getElem hlt)
          obtain ⟨v', w1, hrun, hown, hgrow, hnil, hat⟩ := run_append_own_at (P := P) w w.heap.size t oper.type e i zv sz bytes ht hi hzv his hib hzs hsz0 (.slice none 0 0) 0 [] (World.ownsRow_nil w _ _ _) p m cx vs hvlen
            (fun j u hu => by simpa using hvc p hp j u hu) hvone (by simp only [maxLen]; omega) (by simpa using hby) (Nat.le_refl _)
          have hexec := exec_append (P := P) (w := w) (w' := w1) (ρC := ρC) hop hc ha hty (u := v') (by rw [hsv, hxv, hp]; exact hrun)
          simp only [Nat.zero_add, List.nil_append] at hown
          rcases hown.2 with ⟨hv', hmz⟩ | ⟨g, cap, cur, hv', hg, hh, hncap, hcm, hcs, htk⟩
          · omega
          · have hwf : g < w1.heap.size := (Array.getElem?_eq_some_iff.1 hh).1
            obtain ⟨hS', hE⟩ := SimO.upd (w' := w1) (x := .dead) (x' := .cells new e sz pu) (s' := some (g, cap)) hS hd hgrow.size hgrow.os hgrow.tape hgrow.output (fun b hb2 _ => hgrow.block b hb2 (by simp [Value.ownBlock]))
              (fun b c2 h2 => .inr (by injection h2 with h2; injection h2 with h3 h4; subst h3; exact ⟨hg, hwf⟩)) trivial (fun hE => by
                simp only [ObjOK]
                refine ⟨fun hpt => hpu.resolve_left (by simp [hpt]), h1', .inr ⟨g, cap, cur, by rw [List.getElem?_set_self hidσ], hcm, hh, hcs, by
                  have : (cur.toList.take (m * sz)).length = vs.length := by rw [htk]
                  simp at this; omega, fun j d hd2 => ?_⟩⟩
                obtain ⟨u, hu, hr⟩ := RepL.get _ _ hvl j d hd2
                refine ⟨u, ?_, hr.ext hE⟩
                rw [← htk, List.getElem?_take] at hu
                split at hu
                · simpa using hu
                · cases hu)
            refine ⟨v', w1, _, .inl hexec, hS', ?_, hE⟩
            simp only [Rep]
            refine ⟨⟨_, _, _, _, by rw [List.getElem?_set_self hid], by omega⟩, _, _, hv', hncap, fun sz2 hcu => ?_⟩
            obtain ⟨cs2, e2, pu2, ho2, _⟩ := hcu
            rw [List.getElem?_set_self hid] at ho2
            injection ho2 with ho2
            injection ho2 with _ _ hsz2 _
            subst hsz2
            unfold OsOk
            rw [List.getElem?_set_self hidσ]
            exact ⟨fun _ => rfl, fun _ _ _ => ⟨rfl, rfl⟩, by omega⟩
      · cases h
  · -- a row of the call's own
    rename_i id len tot hsa
    rw [hsa] at hs
    simp only [Rep] at hs
    obtain ⟨hle, B, capv, hsv, hlcap, hcur⟩ := hs
    split at h
    · rename_i cs e' sz' pu' ho
      split at h
      · rename_i hcond
        obtain ⟨htot, rfl, rfl, hfull, hby, hbig, hpu⟩ := hcond
        simp only [Option.some.injEq, Prod.mk.injEq] at h
        obtain ⟨rfl, rfl⟩ := h
        have hid : id < o.length := (List.getElem?_eq_some_iff.1 ho).1
        have hidσ : id < σ.length := by rw [hS.len]; exact hid
        have hk := hcur sz' ⟨cs, e', pu', ho, htot⟩
        have hobj := hS.obj id _ ho
        simp only [ObjOK] at hobj
        obtain ⟨q1, q2, q3⟩ := hobj
        rcases Nat.eq_zero_or_pos m with hm0 | hmpos
        · -- nothing is appended
          have hn0 : new = [] := List.eq_nil_of_length_eq_zero (by rw [hnl, hm0]; simp)
          subst hm0 hn0
          have hset : o.set id (.cells (cs ++ []) e' sz' pu') = o := by
            apply List.ext_getElem?
            intro j
            by_cases hj : id = j
            · subst hj; rw [List.getElem?_set_self hid, ho]; simp
            · rw [List.getElem?_set_ne hj]
          rw [hset]
          refine Gives.same hS (hzero B len capv rfl hsv hlcap) ?_
          simp only [Rep]
          exact ⟨by simpa using hle, _, _, rfl, hlcap, by simpa using hcur⟩
        · have hlt : 0 < new.length := by rw [hnl]; exact Nat.mul_pos hmpos hsz0
          obtain ⟨p, _, hp, _⟩ := hnew 0 _ (List.getElem?_eq_getElem hlt)
          -- the row that it owns
          have hrow : ∃ xs : List Value, w.ownsRow 0 e' sz' (.slice B len capv) len xs ∧ RepL A w σ o cs xs ∧ (∀ k, (Value.slice B len capv).ownBlock = some k → ∃ d, σ[id]? = some (some (k, d))) := by
            unfold OsOk at hk
            split at hk
            · rename_i hσ
              obtain ⟨k1, rfl, rfl, rfl⟩ := hk
              refine ⟨[], World.ownsRow_nil w _ _ _, ?_, by simp [Value.ownBlock]⟩
              have : cs = [] := List.eq_nil_of_length_eq_zero (by omega)
              subst this; simp [RepL]
            · rename_i b cap hσ
              obtain ⟨k1, k2, k3⟩ := hk
              obtain ⟨k4, k5⟩ := k2 rfl hfull hsz0
              subst k4 k5
              rcases q3 with ⟨h0, _⟩ | ⟨b', cap', arr, r1, r2, r3, r4, r5, r6⟩
              · rw [hσ] at h0; cases h0
              rw [hσ] at r1
              simp only [Option.some.injEq, Prod.mk.injEq] at r1
              obtain ⟨rfl, rfl⟩ := r1
              refine ⟨arr.toList.take (len * sz'), ⟨by simp; omega, .inr ⟨b, capv, arr, rfl, Nat.zero_le _, r3, hlcap, r2, r4, rfl⟩⟩, RepL.of_get _ _ (by simp; omega) fun j d hd => ?_, fun k hk => ⟨capv, by simp [Value.ownBlock] at hk; subst hk; exact hσ⟩⟩
              obtain ⟨u, hu, hr⟩ := r6 j d hd
              have hjl : j < cs.length := (List.getElem?_eq_some_iff.1 hd).1
              exact ⟨u, by rw [List.getElem?_take_of_lt (by omega)]; simpa using hu, hr⟩
            · exact hk.elim
          obtain ⟨xs, hown0, hxl, hblk⟩ := hrow
          obtain ⟨v', w1, hrun, hown, hgrow, hnil, hat⟩ := run_append_own_at (P := P) w 0 t oper.type e' i zv sz' bytes ht hi hzv his hib hzs hsz0 (.slice B len capv) len xs hown0 p m cx vs hvlen
            (fun j u hu => by simpa using hvc p hp j u hu) hvone (by simp only [maxLen]; omega) hby (Nat.zero_le _)
          have hexec := exec_append (P := P) (w := w) (w' := w1) (ρC := ρC) hop hc ha hty (u := v') (by rw [hsv, hxv, hp]; exact hrun)
          rcases hown.2 with ⟨hv', hmz⟩ | ⟨g, cap, cur, hv', hg, hh, hncap, hcm, hcs, htk⟩
          · omega
          · have hwf : g < w1.heap.size := (Array.getElem?_eq_some_iff.1 hh).1
            have hgb : (∃ d, σ[id]? = some (some (g, d))) ∨ g = w.heap.size := by
              have hob : v'.ownBlock = some g := by rw [hv']; rfl
              rcases hat with h2 | h2
              · rw [hob] at h2
                exact .inl (hblk g h2.symm)
              · rw [hob] at h2
                exact .inr (by injection h2)
            have hcl : (cs ++ new).length = (len + m) * sz' := by rw [List.length_append, hnl, Nat.add_mul]; omega
            obtain ⟨hS', hE⟩ := SimO.upd (w' := w1) (x' := .cells (cs ++ new) e' sz' pu') (s' := some (g, cap)) hS ho hgrow.size hgrow.os hgrow.tape hgrow.output
              (fun b hb2 hnb => hgrow.block b hb2 (fun he => by obtain ⟨d, hd⟩ := hblk b he.symm; exact hnb d hd))
              (fun b c2 h2 => by
                injection h2 with h2
                injection h2 with h3 h4
                subst h3
                rcases hgb with hgb | hgb
                · exact .inl hgb
                · exact .inr ⟨by omega, hwf⟩)
              ⟨_, _, _, rfl, by simp, fun hll => by simp at hll; subst hll; simp at hlt⟩ (fun hE => by
                simp only [ObjOK]
                refine ⟨fun hpt => pureL_of fun d hd => ?_, oneL_of.2 fun d hd => ?_, .inr ⟨g, cap, cur, by rw [List.getElem?_set_self hidσ], hcm, hh, hcs, by
                  have : (cur.toList.take ((len + m) * sz')).length = (xs ++ vs).length := by rw [htk]
                  rw [hown.1] at this
                  simp at this; omega, fun j d hd2 => ?_⟩⟩
                · rcases List.mem_append.1 hd with hd | hd
                  · exact pureL_get (q1 hpt) d hd
                  · exact pureL_get (hpu.resolve_left (by simp [hpt])) d hd
                · rcases List.mem_append.1 hd with hd | hd
                  · exact oneL_of.1 q2 d hd
                  · exact oneL_of.1 h1' d hd
                · obtain ⟨u, hu, hr⟩ := RepL.get _ _ (RepL.append hxl hvl) j d hd2
                  refine ⟨u, ?_, hr.ext hE⟩
                  rw [← htk, List.getElem?_take] at hu
                  split at hu
                  · simpa using hu
                  · cases hu)
            refine ⟨v', w1, _, .inl hexec, hS', ?_, hE⟩
            simp only [Rep]
            refine ⟨⟨_, _, _, _, by rw [List.getElem?_set_self hid], by rw [hcl, Nat.add_mul]; omega⟩, _, _, hv', hncap, fun sz2 hcu => ?_⟩
            obtain ⟨cs2, e2, pu2, ho2, _⟩ := hcu
            rw [List.getElem?_set_self hid] at ho2
            injection ho2 with ho2
            injection ho2 with _ _ hsz2 _
            subst hsz2
            unfold OsOk
            rw [List.getElem?_set_self hidσ]
            refine ⟨fun _ => rfl, fun _ _ _ => ⟨rfl, rfl⟩, by rw [Nat.add_mul]; omega⟩
      · cases h
    · cases h
  · -- nothing onto a plain slice
    rename_i n cs hsa
    rw [hsa] at hs
    split at h
    · rename_i hm0
      simp only [Option.some.injEq, Prod.mk.injEq] at h
      obtain ⟨rfl, rfl⟩ := h
      have hs2 := hs
      simp only [Rep] at hs
      obtain ⟨B, cap, hsv, hn, _⟩ := hs
      exact Gives.same hS (hzero B n cap hm0 hsv hn) (by rw [hsv] at hs2; exact hs2)
    · cases h
  · cases h
end

end Go.Vi
