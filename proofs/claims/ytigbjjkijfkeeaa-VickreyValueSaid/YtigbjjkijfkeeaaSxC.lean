/-
  The symbolic run is sound: every operation.
  Conditions: none.
-/
import Derived.Test.YtigbjjkijfkeeaaSxB
namespace Go.Vi

/-- What is said of calls holds of the oracle. -/
structure SCallsOK (call : Oracle) (C : SCalls) : Prop where
  pure : ∀ f args K, C.pure f args K → ∃ r : SV, call f (gL args) [] false = some (r.g, []) ∧ K r
  own : ∀ f args o K, C.own f args o K → ∃ (r : SV) (o' : SStore), callOwn call f (gL args) (gO o) = some (r.g, gO o') ∧ K r o'

section
variable {call : Oracle} {p : SPar} {o : SStore} {nid : Nat} {K : SV → SStore → Prop}

theorem callK_sound (hC : SCallsOK call p.C) {f : FuncId} {args : List SV} {own : Bool} (h : opK.callK p f args o own K) :
    ∃ (v : SV) (o' : SStore), callA call f (gL args) (gO o) own = some (v.g, gO o') ∧ K v o' := by
  unfold opK.callK at h
  split at h
  · rename_i ho
    obtain ⟨r, o', h1, h2⟩ := hC.own _ _ _ _ h
    exact ⟨r, o', by simp only [callA, ho, if_true, h1], h2⟩
  · rename_i ho
    have ho : own = false := by simpa using ho
    subst ho
    obtain ⟨args', h1, h2⟩ := seqK_sound (o := gO o) (d := 6) (fun v K hv => frzK_sound hv) h
    obtain ⟨r, h3, h4⟩ := hC.pure _ _ _ h2
    split at h4
    · rename_i ht
      refine ⟨r, o, ?_, h4⟩
      simp only [callA, Bool.false_eq_true, if_false, h1, h3]
      rw [if_pos]
      simp only [Bool.or_eq_true] at ht ⊢
      rcases ht with ht | ht
      · left
        rw [gL_map, List.flatMap_map]
        exact ht
      · exact .inr (noSl_g r ht)
    · exact h4.elim

theorem gL_rho (ρ : Operand → SV) (l : List Operand) : gL (l.map ρ) = l.map fun x => (ρ x).g := by simp [gL_map]

theorem fill_rho {parts : List (Nat × Nat × Operand)} {ρ : Operand → SV} {cs cs' : List SV} (h : fillS (parts.map fun q => (q.1, q.2.1, ρ q.2.2)) cs = some cs') :
    fillA (parts.map fun q => (q.1, q.2.1, (ρ q.2.2).g)) (gL cs) = some (gL cs') := by
  have := fillS_g h
  simpa [List.map_map, Function.comp_def] using this

theorem fill_rho2 {parts : List (Nat × Operand)} {sz : Nat} {ρ : Operand → SV} {cs cs' : List SV} (h : fillS (parts.map fun q => (q.1, sz, ρ q.2)) cs = some cs') :
    fillA (parts.map fun q => (q.1, sz, (ρ q.2).g)) (gL cs) = some (gL cs') := by
  have := fillS_g h
  simpa [List.map_map, Function.comp_def] using this

theorem gL_ofCell (z : List Value) : gL (z.map SV.ofCell) = z.map .sc := by rw [gL_map, map_ofCell]

theorem gL_rep (len : Nat) (z : List Value) : gL ((List.replicate len (z.map SV.ofCell)).flatten) = (List.replicate len (z.map AV.sc)).flatten := by
  rw [gL_map, List.map_flatten, List.map_replicate, map_ofCell]

theorem rep_flat (s : SId) (x : s.T) (n : Nat) : (List.replicate n (encA s x)).flatten = flatA s (List.replicate n x) := by
  induction n with
  | zero => simp [flatA]
  | succ n ih => simp only [List.replicate_succ, List.flatten_cons, ih, flatA, List.flatMap_cons]

theorem boo_both {x : SV} {b : Bool} (h : x.boo = some b) : x.g = .sc (.bool b) := boo_g h

theorem map_opt_rho {ρ : Operand → SV} (l : Option Operand) : (l.map ρ).map SV.g = l.map fun x => (ρ x).g := by cases l <;> rfl

theorem set_seg : ∀ {l : List Int} {i : Nat} {v : Int}, i < l.length → writeL (l.map fun n => AV.sc (iv n)) 0 ((l.set i v).map fun n => AV.sc (iv n)) = (l.map fun n => AV.sc (iv n)).set i (.sc (iv v)) := by
  intro l i v hi
  have key : ∀ (vs a c : List AV), vs.length = c.length → writeL (a ++ c) a.length vs = a ++ vs := by
    intro vs
    induction vs with
    | nil => intro a c h; cases c with
      | nil => simp [writeL]
      | cons => simp at h
    | cons w vs ih =>
      intro a c h
      cases c with
      | nil => simp at h
      | cons y c =>
        simp only [List.length_cons, Nat.add_right_cancel_iff] at h
        simp only [writeL]
        have : (a ++ y :: c).set a.length w = (a ++ [w]) ++ c := by
          rw [List.set_append_right _ _ (Nat.le_refl _)]; simp
        rw [this]
        have := ih (a ++ [w]) c h
        simp only [List.length_append, List.length_singleton] at this
        rw [this]
        simp
  have := key ((l.set i v).map fun n => AV.sc (iv n)) [] (l.map fun n => AV.sc (iv n)) (by simp)
  simp only [List.nil_append, List.length_nil] at this
  rw [this, List.map_set]

theorem writeL_app (vs a b : List AV) (off : Nat) (h : off + vs.length ≤ b.length) : writeL (a ++ b) (a.length + off) vs = a ++ writeL b off vs := by
  have := writeL_mid vs a b [] off h
  simpa using this

theorem map_modify_const {α β : Type} (f : α → β) (x : α) : ∀ (l : List α) (j : Nat), (l.modify j fun _ => x).map f = (l.map f).modify j fun _ => f x
  | [], j => by simp
  | a :: l, 0 => by simp [List.modify]
  | a :: l, j + 1 => by simp only [List.modify_succ_cons, List.map_cons, map_modify_const f x l j]

theorem sc_cells (v : Value) : (AV.sc v).cellsOf = [.sc v] := rfl

theorem setI_eq : ∀ {l : List Int} {i j : Nat} {v : Int}, setI l (i + j) v j = l.set i v
  | [], _, _, _ => rfl
  | a :: l, 0, j, v => by
    have h : ∀ (l : List Int) (j' : Nat), j < j' → setI l j v j' = l := by
      intro l
      induction l with
      | nil => intro _ _; rfl
      | cons b l ih => intro j' hj; simp only [setI, if_neg (show ¬ j = j' by omega), ih (j' + 1) (by omega)]
    simp only [setI, Nat.zero_add, if_true, List.set_cons_zero, h l (j + 1) (by omega)]
  | a :: l, i + 1, j, v => by
    simp only [setI, if_neg (show ¬ i + 1 + j = j by omega), List.set_cons_succ]
    rw [show i + 1 + j = i + (j + 1) from by omega, setI_eq]

theorem opK_store {ρ : Operand → SV} {n : Nat} {a x : Operand} (h : opK p (.store n a x) ρ o nid K) :
    ∃ (v : SV) (o' : SStore), effS call (.store n a x) (fun x => (ρ x).g) (gO o) nid = some (v.g, gO o') ∧ K v o' := by
  simp only [opK] at h
  split at h
  · rename_i id off tot ha
    split at h
    · rename_i cs e sz pu ho
      split at h
      · rename_i hh
        obtain ⟨h1, h2, h3, h4, h5⟩ := hh
        refine ⟨.ud, _, ?_, h⟩
        simp only [effS, ha, SV.g, getI ho, SObj.g, cellsOf_g, gL_len, oneS_g]
        rw [if_pos ⟨h1, h2, h3, h4, h5.imp (fun q => q) fun hp => pureS_g _ hp⟩, gO_set, SObj.g, writeS_g]
      · exact h.elim
    · exact h.elim
  · rename_i id i off m sz ha
    split at h
    · rename_i s l e pu ho
      split at h
      · rename_i hh
        obtain ⟨rfl, h2, h3⟩ := hh
        obtain ⟨rfl, hi, h4⟩ := h
        obtain ⟨v, hv, h5⟩ := optK_some h4
        refine ⟨.ud, _, ?_, h5⟩
        have hd := decS_g hv
        rw [← gL_map, writeS_g] at hd
        have hen : gL (encS s (nthD l i s.dflt)) = encA s (nthD l i s.dflt) := by rw [gL_map, encS_g]
        rw [hen] at hd
        have hmul : (i + 1) * s.sz ≤ l.length * s.sz := Nat.mul_le_mul_right _ hi
        rw [Nat.succ_mul] at hmul
        have hone : ∀ c ∈ gL (ρ x).cellsOf, ∃ v, c = .sc v ∧ v.oneCell' = true := by
          intro c hc
          obtain ⟨j, hj⟩ := List.mem_iff_getElem?.1 hc
          have hjl := (List.getElem?_eq_some_iff.1 hj).1
          rw [gL_len, h2] at hjl
          have key : (writeL (encA s (nthD l i s.dflt)) off (gL (ρ x).cellsOf))[off + j]? = some c := by
            have gen : ∀ (vs cs : List AV) (off j : Nat) (c : AV), vs[j]? = some c → off + vs.length ≤ cs.length → (writeL cs off vs)[off + j]? = some c := by
              intro vs
              induction vs with
              | nil => intro cs off j c h; simp at h
              | cons w vs ih =>
                intro cs off j c h hl
                simp only [List.length_cons] at hl
                simp only [writeL]
                cases j with
                | zero =>
                  simp only [List.getElem?_cons_zero, Option.some.injEq] at h
                  subst h
                  have before : ∀ (vs cs : List AV) (o2 k : Nat), k < o2 → (writeL cs o2 vs)[k]? = cs[k]? := by
                    intro vs
                    induction vs with
                    | nil => intro cs o2 k _; rfl
                    | cons w vs ih => intro cs o2 k hk; simp only [writeL]; rw [ih _ _ _ (by omega), List.getElem?_set_ne (by omega)]
                  simp only [Nat.add_zero]
                  rw [before _ _ _ _ (by omega), List.getElem?_set_self (by omega)]
                | succ j =>
                  have := ih (cs.set off w) (off + 1) j c (by simpa using h) (by simp; omega)
                  rwa [show off + (j + 1) = off + 1 + j from by omega]
            exact gen _ _ _ _ _ hj (by rw [gL_len, h2, encA_len]; exact h3)
          rw [hd] at key
          obtain ⟨v, hv1, hv2, _⟩ := encA_sc (List.mem_of_getElem? key)
          exact ⟨v, hv1, hv2⟩
        have ho1 : oneL (gL (ρ x).cellsOf) = true := by
          simp only [oneL, List.all_eq_true]
          intro c hc
          obtain ⟨v, rfl, hv⟩ := hone c hc
          simpa [AV.one] using hv
        have ho2 : pureL (gL (ρ x).cellsOf) = true := pureL_all fun c hc => by
          obtain ⟨v, rfl, hv⟩ := hone c hc
          simp [AV.pure]
        simp only [effS, ha, SV.g, getI ho, SObj.g, cellsOf_g, flatA_len, gL_len]
        rw [if_pos ⟨trivial, h2, ho1, by omega, .inr ho2⟩, gO_set, SObj.g, flatA_set hi (by rw [gL_len, h2]; exact h3) hd]
      · exact h.elim
    · exact h.elim
  · rename_i id base sz len tot i ha
    split at h
    · rename_i cs e sz' pu ho
      split at h
      · rename_i v hx
        split at h
        · rename_i l hl
          split at h
          · rename_i hh
            obtain ⟨h1, h2⟩ := hh
            rw [show setI l i v 0 = l.set i v from setI_eq (j := 0)] at h
            obtain ⟨hi, hk⟩ := h
            refine ⟨.ud, _, ?_, hk⟩
            have hcell : (ρ x).cellsOf = [ρ x] := by
              cases hr : ρ x <;> rw [hr] at hx <;> simp [SV.int] at hx <;> rfl
            have hxg : (ρ x).g = .sc (iv v) := int_g hx
            have hig := ints_g hl
            have hll : l.length = len := by
              have := congrArg List.length hig
              simp only [List.length_map, List.length_take, List.length_drop] at this
              omega
            have hdt : gL cs = gL (cs.take base) ++ (l.map fun n => AV.sc (iv n)) ++ gL (cs.drop (base + len)) := by
              rw [← hig, gL_map, gL_map, gL_map, ← List.map_append, ← List.map_append]
              congr 1
              rw [← List.drop_drop, List.append_assoc, List.take_append_drop, List.take_append_drop]
            have hbl : (gL (cs.take base)).length = base := by rw [gL_len]; simp; omega
            simp only [effS, ha, SV.g, getI ho, SObj.g, hxg, sc_cells, List.length_singleton, gL_len]
            rw [if_pos ⟨h1, trivial, by simp [oneL, AV.one, iv, Value.oneCell'], by omega, .inr (by simp [pureL, AV.pure])⟩, gO_set, SObj.g, writeS_g]
            congr 4
            have e1 : gL ((l.set i v).map (SV.si .i64)) = (l.set i v).map fun n => AV.sc (iv n) := by
              rw [gL_map, List.map_map]; rfl
            rw [e1, hdt]
            have hm := writeL_mid ((l.set i v).map fun n => AV.sc (iv n)) (gL (cs.take base)) (l.map fun n => AV.sc (iv n)) (gL (cs.drop (base + len))) 0 (by simp)
            rw [hbl, Nat.add_zero] at hm
            rw [hm, set_seg (by omega)]
            simp only [writeL, Nat.mul_one]
            rw [List.append_assoc, List.set_append_right _ _ (by omega), hbl, Nat.add_sub_cancel_left, List.set_append_left _ _ (by simp; omega), List.append_assoc]
          · exact h.elim
        · exact h.elim
      · exact h.elim
    · exact h.elim
  · exact h.elim

theorem opK_append {ρ : Operand → SV} {e : TypeId} {sz bytes : Nat} {s x : Operand} {pu : Bool} (h : opK p (.append e sz bytes s x pu) ρ o nid K) :
    ∃ (v : SV) (o' : SStore), effS call (.append e sz bytes s x pu) (fun x => (ρ x).g) (gO o) nid = some (v.g, gO o') ∧ K v o' := by
  simp only [opK] at h
  split at h
  · rename_i t ht
    split at h
    · rename_i hsz
      subst hsz
      obtain ⟨new, hn, h2⟩ := elemsK_sound h
      have hone : oneL (flatA t new) = true := flatA_one _ _
      have hpur : pureL (flatA t new) = true := flatA_pure _ _
      simp only [effS, appendA, hn, hone, Bool.true_eq_false, if_false]
      split at h2
      · rename_i hs
        rw [hs]
        simp only [SV.g]
        by_cases h0 : new.length = 0
        · exact ⟨_, _, by simp only [h0, if_true]; rfl, h2.1 h0⟩
        · obtain ⟨h3, h4, h5⟩ := h2.2 h0
          obtain ⟨o', hm, hk⟩ := mkK_sound h5
          refine ⟨_, o', ?_, hk⟩
          simp only [SObj.g] at hm
          rw [if_neg h0, if_pos ⟨h3, h4, .inr hpur⟩, hm]
          rfl
      · rename_i id n sz' hs
        split at h2
        · rename_i t' l e' pu' ho
          split at h2
          · rename_i hh
            obtain ⟨rfl, h3, rfl⟩ := hh
            obtain ⟨rfl, h4, h5, h6⟩ := h2
            obtain ⟨l', h7, h8⟩ := optK_some h6
            obtain ⟨rfl, h9, h10⟩ := castL_flat h7
            refine ⟨_, _, ?_, h8⟩
            rw [hs]
            simp only [SV.g, getI ho, SObj.g, flatA_len]
            rw [if_pos ⟨trivial, trivial, trivial, trivial, h4, h5, .inr hpur⟩, gO_set, SObj.g, flatA_app, h9]
            simp only [List.length_append, h10, Nat.add_mul]
          · exact h2.elim
        · exact h2.elim
      · rename_i t' l hs
        obtain ⟨h3, h4⟩ := h2
        refine ⟨_, _, ?_, h4⟩
        rw [hs]
        simp only [SV.g, h3, if_true]
      · exact h2.elim
    · exact h.elim
  · exact h.elim

theorem mm_int {mx : Bool} {a b : Int} : (if mx then (if b > a then b else a) else (if b < a then b else a)) = if mx then max a b else min a b := by
  cases mx <;> simp <;> split <;> omega

theorem opK_sound (hC : SCallsOK call p.C) {op : IOp} {ρ : Operand → SV} (h : opK p op ρ o nid K) :
    ∃ (v : SV) (o' : SStore), effS call op (fun x => (ρ x).g) (gO o) nid = some (v.g, gO o') ∧ K v o' := by
  cases op with
  | mov x => exact ⟨_, _, rfl, h⟩
  | pick c a b =>
    simp only [opK] at h
    split at h
    · rename_i hc; exact ⟨_, _, by simp only [effS, hc, SV.g], h⟩
    · rename_i hc; exact ⟨_, _, by simp only [effS, hc, SV.g], h⟩
    · rename_i c hc
      cases c with
      | true => exact ⟨_, _, by simp only [effS, hc, SV.g], h.1 rfl⟩
      | false => exact ⟨_, _, by simp only [effS, hc, SV.g], h.2 rfl⟩
    · exact h.elim
  | alloc z e pu =>
    obtain ⟨o', hm, hk⟩ := mkK_sound h
    simp only [SObj.g, gL_ofCell] at hm
    exact ⟨_, o', by simp only [effS, hm, Option.map_some, SV.g], hk⟩
  | box e x =>
    simp only [opK] at h
    split at h
    · rename_i h1
      obtain ⟨o', hm, hk⟩ := mkK_sound h
      simp only [SObj.g] at hm
      exact ⟨_, o', by simp only [effS, cellsOf_g, oneS_g, h1, if_true, gL_len, hm, Option.map_some, SV.g], hk⟩
    · exact h.elim
  | build z parts =>
    simp only [opK] at h
    obtain ⟨cs, h1, h2⟩ := optK_some h
    have := fill_rho h1
    rw [gL_ofCell] at this
    exact ⟨_, _, by simp only [effS, this, Option.map_some, SV.g], h2⟩
  | mkrow z len parts e sz =>
    simp only [opK] at h
    split at h
    · rename_i s cs hs hf
      split at h
      · rename_i hsz
        obtain ⟨l, h1, h2⟩ := optK_some h
        obtain ⟨h3, h4⟩ := decL_g h1
        obtain ⟨o', hm, hk⟩ := mkK_sound h2
        simp only [SObj.g] at hm
        have hfa := fill_rho2 hf
        rw [gL_rep, h3] at hfa
        refine ⟨_, o', ?_, hk⟩
        subst hsz
        simp only [effS, hfa, flatA_pure, hm, Option.map_some, SV.g]
      · exact h.elim
    · exact h.elim
  | mkimm z len parts e sz =>
    simp only [opK] at h
    split at h
    · rename_i s cs hs hf
      split at h
      · rename_i hsz
        obtain ⟨l, h1, h2⟩ := optK_some h
        obtain ⟨h3, h4⟩ := decL_g h1
        have hfa := fill_rho2 hf
        rw [gL_rep, h3] at hfa
        exact ⟨_, _, by simp only [effS, hfa, flatA_pure, if_true, SV.g, h4], h2⟩
      · exact h.elim
    · exact h.elim
  | load n a =>
    simp only [opK] at h
    obtain ⟨cs, off, v, h1, h2, h3⟩ := loadK_sound h
    exact ⟨v, o, by simp only [effS, h1, h2, Option.map_some], h3⟩
  | store n a x => exact opK_store h
  | nilc x =>
    simp only [opK] at h
    split at h
    · rename_i hx; exact ⟨_, _, by simp only [effS, hx, SV.g], h⟩
    · rename_i hx; exact ⟨_, _, by simp only [effS, hx, SV.g], h⟩
    · rename_i hx; exact ⟨_, _, by simp only [effS, hx, SV.g], h⟩
    · exact h.elim
  | bin op x y =>
    simp only [opK] at h
    obtain ⟨a, b, v, v', h1, h2, h3, h4, h5⟩ := binK_sound h
    exact ⟨v', o, by simp only [effS, h1, h2, h3, Option.map_some, h4], h5⟩
  | beq neg x y =>
    simp only [opK] at h
    split at h
    · rename_i a b h1 h2
      exact ⟨_, _, by simp only [effS, boo_g h1, boo_g h2, SV.g], h⟩
    · exact h.elim
  | eqf neg ks x y =>
    simp only [opK] at h
    split at h
    · rename_i a b h1 h2
      split at h
      · rename_i hk
        obtain ⟨r, hr, h3⟩ := optK_some h
        exact ⟨_, _, by simp only [effS, h1, h2, SV.g, feq_sound hk hr, Option.map_some], h3⟩
      · exact h.elim
    · exact h.elim
  | un op x =>
    simp only [opK] at h
    split at h
    · rename_i hx; exact ⟨_, _, by simp only [effS, hx, SV.g, unA, Option.map_some], h⟩
    · rename_i hx; exact ⟨_, _, by simp only [effS, hx, SV.g, unA, Option.map_some], h⟩
    · rename_i k n hx
      refine ⟨_, _, ?_, h.2⟩
      have : (0 : Int) - n = -n := by omega
      simp only [effS, hx, SV.g, unA, Option.map_some, this, wrapI_in h.1]
    · rename_i hx; exact ⟨_, _, by simp only [effS, hx, SV.g, unA, Option.map_some], h⟩
    · exact h.elim
  | conv k x =>
    simp only [opK] at h
    split at h
    · rename_i hx; exact ⟨_, _, by simp only [effS, hx, SV.g], h⟩
    · rename_i hx; exact ⟨_, _, by simp only [effS, hx, SV.g, wrapI_in h.1], h.2⟩
    · exact h.elim
  | fieldA off x =>
    simp only [opK] at h
    split at h
    · rename_i hx; exact ⟨_, _, by simp only [effS, hx, SV.g, addA, Option.map_some], h⟩
    · rename_i hx; exact ⟨_, _, by simp only [effS, hx, SV.g, addA, Option.map_some, Nat.add_assoc], h⟩
    · rename_i hx; exact ⟨_, _, by simp only [effS, hx, SV.g, addA, Option.map_some, Nat.add_assoc], h⟩
    · exact h.elim
  | field off n x =>
    simp only [opK] at h
    split at h
    · rename_i cs hx
      obtain ⟨v, h1, h2⟩ := optK_some h
      exact ⟨_, _, by simp only [effS, hx, SV.g, partS_g h1, Option.map_some], h2⟩
    · exact h.elim
  | idxA len sz x i =>
    simp only [opK] at h
    split at h
    · rename_i k n hi
      split at h
      · rename_i hn
        split at h
        · rename_i hx; exact ⟨_, _, by simp only [effS, hi, hx, SV.g, intA, if_pos hn, addA, Option.map_some], h⟩
        · rename_i hx; exact ⟨_, _, by simp only [effS, hi, hx, SV.g, intA, if_pos hn, addA, Option.map_some, Nat.add_assoc], h⟩
        · rename_i hx; exact ⟨_, _, by simp only [effS, hi, hx, SV.g, intA, if_pos hn, addA, Option.map_some, Nat.add_assoc], h⟩
        · exact h.elim
      · exact h.elim
    · rename_i k n hi
      split at h
      · rename_i hx; exact ⟨_, _, by simp only [effS, hi, hx, SV.g, intA, if_pos (And.intro h.1 h.2.1), addA, Option.map_some], h.2.2⟩
      · exact h.elim
    · exact h.elim
  | idxS sz x i =>
    simp only [opK] at h
    split at h
    · rename_i n hi
      have hi := intS_g hi
      split at h
      · rename_i s l hx
        split at h
        · rename_i hsz
          subst hsz
          obtain ⟨h1, h2, h3⟩ := h
          refine ⟨_, _, ?_, h3⟩
          simp only [effS, hi, hx, SV.g, idxSA, flatA_len]
          rw [if_pos ⟨h1, h2, trivial⟩]
          simp
        · exact h.elim
      · rename_i id m sz' hx
        split at h
        · rename_i s l e pu ho
          split at h
          · rename_i hsz
            obtain ⟨rfl, rfl⟩ := hsz
            obtain ⟨rfl, h1, h2, h3⟩ := h
            refine ⟨_, _, ?_, h3⟩
            simp only [effS, hi, hx, SV.g, idxSA, getI ho, SObj.g, flatA_len]
            rw [if_pos ⟨trivial, trivial, h1, h2, by omega⟩]
            simp
          · exact h.elim
        · exact h.elim
      · rename_i id off len m sz' hx
        split at h
        · rename_i s l e pu ho
          split at h
          · rename_i hsz
            obtain ⟨rfl, rfl⟩ := hsz
            obtain ⟨rfl, h1, h2, h4, h3⟩ := h
            refine ⟨_, _, ?_, h3⟩
            have hm : (off + len) * s.sz ≤ l.length * s.sz := Nat.mul_le_mul_right _ h4
            rw [Nat.add_mul] at hm
            simp only [effS, hi, hx, SV.g, idxSA, getI ho, SObj.g, flatA_len]
            rw [if_pos ⟨trivial, trivial, h1, h2, hm⟩]
            simp [Nat.add_mul]
          · exact h.elim
        · exact h.elim
      · exact h.elim
    · exact h.elim
  | idx len sz n x i =>
    simp only [opK] at h
    split at h
    · rename_i k' k cs hi hx
      split at h
      · rename_i hk
        obtain ⟨v, h1, h2⟩ := optK_some h
        exact ⟨_, _, by simp only [effS, hi, hx, SV.g, intA, if_pos hk, partS_g h1, Option.map_some], h2⟩
      · exact h.elim
    · rename_i k' k cs hi hx
      split at h
      · rename_i l _ _ hl
        split at h
        · rename_i hll
          obtain ⟨h1, h2, h3⟩ := h
          refine ⟨_, _, ?_, h3⟩
          obtain ⟨h4, h5⟩ := ints_all hl
          have h6 := h5 k.toNat (by omega)
          simp only [effS, hi, hx, SV.g, intA, if_pos (And.intro h1 h2), Nat.mul_one, partA, gL_get, h6, Option.map_some]
        · exact h.elim
      · exact h.elim
    · exact h.elim
  | idxStr x i => simp only [opK] at h
  | mkslice z e sz bytes l c pu =>
    simp only [opK] at h
    split at h
    · rename_i n m s hn hm hs
      have hn := intS_g hn
      have hm := intS_g hm
      split at h
      · rename_i hsz
        subst hsz
        obtain ⟨x, hx, h1, h2, h3, h4, h5⟩ := optK_some h
        obtain ⟨o', hmk, hk⟩ := mkK_sound h5
        refine ⟨_, o', ?_, hk⟩
        have hd := decS_g hx
        rw [map_ofCell] at hd
        simp only [SObj.g] at hmk
        simp only [effS, hn, hm]
        rw [if_pos ⟨h1, h2, h3, h4⟩, hd, rep_flat, hmk]
        simp [SV.g]
      · exact h.elim
    · exact h.elim
  | slice sz x lo hi =>
    simp only [opK] at h
    split at h
    · rename_i s l hx
      split at h
      · rename_i hsz
        subst hsz
        obtain ⟨a, ha, h1⟩ := boundK_sound h
        obtain ⟨b, hb, h2, h3, h4⟩ := boundK_sound h1
        refine ⟨_, _, ?_, h4⟩
        rw [map_opt_rho] at ha hb
        have hlen : ((l.drop a).take (b - a)).length = b - a := by simp; omega
        simp only [effS, hx, SV.g, sliceA, ha, hb, flatA_len, and_true, if_pos (And.intro h2 h3), Option.map_some, flatA_sub, hlen]
      · exact h.elim
    · rename_i id m sz' hx
      split at h
      · rename_i s l e pu ho
        split at h
        · rename_i hsz
          obtain ⟨rfl, rfl⟩ := hsz
          obtain ⟨rfl, h⟩ := h
          obtain ⟨a, ha, h1⟩ := boundK_sound h
          obtain ⟨b, hb, h2, h3, h4⟩ := boundK_sound h1
          refine ⟨_, _, ?_, h4⟩
          rw [map_opt_rho] at ha hb
          simp only [effS, hx, SV.g, sliceA, ha, hb, getI ho, SObj.g, flatA_len]
          rw [if_pos ⟨h2, h3, trivial, trivial⟩]
          simp
        · exact h.elim
      · exact h.elim
    · exact h.elim
  | sliceStr x lo hi => simp only [opK] at h
  | append e sz bytes s x pu => exact opK_append h
  | len k x =>
    simp only [opK] at h
    split at h
    · rename_i hx; exact ⟨_, _, by simp only [effS, hx, SV.g, lenA, Option.map_some], h⟩
    · rename_i hx; exact ⟨_, _, by simp only [effS, hx, SV.g, lenA, Option.map_some], h⟩
    · rename_i hx; exact ⟨_, _, by simp only [effS, hx, SV.g, lenA, Option.map_some], h⟩
    · rename_i hx; exact ⟨_, _, by simp only [effS, hx, SV.g, lenA, Option.map_some]; rfl, h⟩
    · rename_i hx; exact ⟨_, _, by simp only [effS, hx, SV.g, lenA, Option.map_some], h⟩
    · rename_i id hx
      split at h
      · rename_i sk sv ka es kt pu ho
        exact ⟨_, _, by simp only [effS, hx, SV.g, lenA, getI ho, SObj.g, List.length_map, Option.map_some], h⟩
      · exact h.elim
    · exact h.elim
  | lenArr n => exact ⟨_, _, rfl, h⟩
  | mm mx x y =>
    simp only [opK] at h
    split at h
    · rename_i hx hy
      split at h
      · rename_i hk
        exact ⟨_, _, by simp only [effS, hx, hy, SV.g, if_pos hk], h⟩
      · exact h.elim
    · rename_i k a hx
      obtain ⟨b, hb, h2⟩ := optK_some h
      exact ⟨_, _, by simp only [effS, hx, int_g hb, SV.g, if_true, mm_int], h2⟩
    · rename_i k a hx _
      obtain ⟨b, hb, h2⟩ := optK_some h
      exact ⟨_, _, by simp only [effS, hx, int_g hb, SV.g, if_true, mm_int], h2⟩
    · exact h.elim
  | call f args own =>
    simp only [opK] at h
    obtain ⟨v, o', h1, h2⟩ := callK_sound hC h
    rw [gL_rho] at h1
    exact ⟨v, o', by simp only [effS, h1], h2⟩
  | callv f args own =>
    simp only [opK] at h
    split at h
    · rename_i g first captured hf
      obtain ⟨v, o', h1, h2⟩ := callK_sound hC h
      rw [gL_app, gL_app, gL_rho] at h1
      exact ⟨v, o', by simp only [effS, hf, SV.g, h1], h2⟩
    · exact h.elim
  | extract x i =>
    simp only [opK] at h
    split at h
    · rename_i vs hx
      obtain ⟨v, h1, h2⟩ := optK_some h
      exact ⟨_, _, by simp only [effS, hx, SV.g, gL_get, h1, Option.map_some], h2⟩
    · exact h.elim
  | mkfn f first captured => exact ⟨_, _, by simp only [effS, SV.g, gL_rho], h⟩
  | mkmap kt pu =>
    simp only [opK] at h
    split at h
    · rename_i sk sv hs
      obtain ⟨o', hm, hk⟩ := mkK_sound h
      simp only [SObj.g, List.map_nil] at hm
      exact ⟨_, o', by simp only [effS, hm, Option.map_some, SV.g], hk⟩
    · exact h.elim
  | lookup z agg ks ka x k ok =>
    simp only [opK] at h
    split at h
    · rename_i id hx
      split at h
      · rename_i sk sv ka' es kt pu ho
        split at h
        · rename_i hh
          obtain ⟨rfl, rfl, h1, h2, rfl, h4, h5, h6⟩ := hh
          obtain ⟨kv, hkv, h7⟩ := optK_some h
          obtain ⟨zv, hzv, h8⟩ := optK_some h7
          have hkey := keyA_sound h5 h6 hkv
          have hz : zeroA z false = some (valA sv zv) := by
            have hd := decS_g hzv
            rw [map_ofCell, valA_enc h2] at hd
            cases z with
            | nil => simp at hd
            | cons a r =>
              cases r with
              | nil => simp only [List.map_cons, List.map_nil, List.cons.injEq, and_true] at hd; simp [zeroA, hd]
              | cons => simp at hd
          obtain ⟨r, hr, hm⟩ := findM_sound (sv := sv) h1 h4 kv es 0
          refine ⟨_, _, ?_, h8⟩
          simp only [effS, hx, SV.g, hkey, getI ho, SObj.g, if_true, hr, hz]
          cases hf : findT sk sv kv es with
          | some v =>
            rw [hf] at hm
            obtain ⟨j, rfl, _⟩ := hm
            simp only [Option.getD_some]
            cases ok <;> simp only [Bool.false_eq_true, if_false, if_true, SV.g, gL, valA_head h2, Option.isSome_some, Option.isSome_none]
          | none =>
            rw [hf] at hm
            obtain ⟨rfl, _⟩ := hm
            simp only [Option.getD_none]
            cases ok <;> simp only [Bool.false_eq_true, if_false, if_true, SV.g, gL, valA_head h2, Option.isSome_some, Option.isSome_none]
        · exact h.elim
      · exact h.elim
    · exact h.elim
  | mapset ks ka x k v =>
    simp only [opK] at h
    split at h
    · rename_i id hx
      split at h
      · rename_i sk sv ka' es kt pu ho
        split at h
        · rename_i hh
          obtain ⟨rfl, rfl, h1, h2, h4, h5, h6, h9⟩ := hh
          obtain ⟨kv, hkv, h7⟩ := optK_some h
          obtain ⟨vv, hvv, h8⟩ := optK_some h7
          have hkey := keyA_sound h5 h6 hkv
          have hv : (ρ v).g = valA sv vv := by
            have hd := decS_g hvv
            rw [valA_enc h2] at hd
            have hc : (ρ v).cellsOf = [ρ v] := by
              revert h9
              cases ρ v <;> simp [SV.cellsOf, aggIs]
            rw [hc] at hd
            simpa using hd
          obtain ⟨r, hr, hm⟩ := findM_sound (sv := sv) h1 h4 kv es 0
          refine ⟨_, _, ?_, h8⟩
          have hpure : (valA sv vv).pure = true := by simp [valA, AV.pure]
          simp only [effS, hx, SV.g, hkey, getI ho, SObj.g, hv, hpure, hr, gO_set]
          rw [if_neg (by simp)]
          cases hf : findT sk sv kv es with
          | some w =>
            rw [hf] at hm
            obtain ⟨j, rfl, h10, h11⟩ := hm
            rw [setT_some h10 h11]
            simp only [Nat.zero_add]
            rw [map_modify_const]
          | none =>
            rw [hf] at hm
            obtain ⟨rfl, h10⟩ := hm
            rw [setT_none h10]
            simp
        · exact h.elim
      · exact h.elim
    · exact h.elim
end

end Go.Vi
