/-
  The symbolic run is sound: values, lists of cells, loads, what is frozen.
  Conditions: none.
-/
import Derived.Test.YtigbjjkijfkeeaaSxDef
namespace Go.Vi

def gE (env : SEnv) : EnvA := env.map fun p => (p.1, p.2.g)
def gO (o : SStore) : Store := o.map SObj.g
def SSt.g (st : SSt) : St := ⟨gE st.env, gO st.o⟩

theorem getS_g : ∀ (env : SEnv) (s : Nat), getE (gE env) s = (getS env s).g
  | [], _ => by simp [gE, getE, getS, SV.g]
  | p :: r, s => by
    have := getS_g r s
    simp only [gE, List.map_cons, getE, getS] at this ⊢
    rw [this]
    cases Nat.beq p.1 s <;> rfl

theorem putS_g (env : SEnv) (d : Option Nat) (v : SV) : gE (putS env d v) = putE (gE env) d v.g := by
  cases d <;> simp [putS, putE, gE]

theorem ofCell_g (v : Value) : (SV.ofCell v).g = .sc v := by cases v <;> simp [SV.ofCell, SV.g]

theorem map_ofCell (l : List Value) : (l.map SV.ofCell).map SV.g = l.map .sc := by simp [ofCell_g]

theorem evS_g (env : SEnv) (x : Operand) : evA (gE env) x = (evS env x).g := by
  cases x with
  | tmp t => simp [evA, evS, getS_g]
  | const v =>
    cases v <;> simp [evA, evS, AV.ofVal, SV.ofVal, SV.g]
    split <;> simp [SV.g, gL_map, ofCell_g]
  | global g => simp [evA, evS, SV.g]
  | func f => simp [evA, evS, SV.g, gL]

theorem evS_fun (env : SEnv) : evA (gE env) = fun x => (evS env x).g := funext fun x => evS_g env x

theorem cellsOf_g (v : SV) : v.g.cellsOf = gL v.cellsOf := by
  cases v <;> simp [SV.g, AV.cellsOf, SV.cellsOf, gL]

theorem one_g (v : SV) : v.g.one = v.one := by
  cases v <;> simp [SV.g, AV.one, SV.one, Value.oneCell']

theorem oneS_g (l : List SV) : oneL (gL l) = oneS l := by
  induction l with
  | nil => simp [gL, oneL, oneS]
  | cons v l ih => simp only [oneL, oneS, gL, List.all_cons, one_g] at ih ⊢; rw [ih]

theorem pureS_g : ∀ (l : List SV), pureS l = true → pureL (gL l) = true
  | [], _ => by simp [gL, pureL]
  | v :: l, h => by
    simp only [pureS, Bool.and_eq_true] at h
    simp only [gL, pureL, pureS_g l h.2, Bool.and_true]
    have h1 := h.1
    cases v <;> simp [SV.pure] at h1 <;> simp [SV.g, AV.pure, flatA_pure]

mutual
theorem bel_g (k : Nat) : ∀ (v : SV), v.g.bel k = v.bel k
  | .agg cs => by simp only [SV.g, AV.bel, SV.bel]; exact belS_g k cs
  | .tup cs => by simp only [SV.g, AV.bel, SV.bel]; exact belS_g k cs
  | .fn _ a b => by simp only [SV.g, AV.bel, SV.bel, belS_g k a, belS_g k b]
  | .ud | .sc _ | .il .. | .si .. | .bl _ | .sb _ | .row .. | .ep .. | .ptr .. | .ap .. | .rp .. | .ow .. | .os .. | .mp _ => by simp [SV.g, AV.bel, SV.bel]
theorem belS_g (k : Nat) : ∀ (l : List SV), belL k (gL l) = belS k l
  | [] => by simp [gL, belL, belS]
  | v :: l => by simp only [gL, belL, belS, bel_g k v, belS_g k l]
end

theorem map_bel (k : Nat) {sk sv : SId} (ka : Bool) (es : List (sk.T × sv.T)) : belL k ((es.map fun p => (keyV sk ka p.1, valA sv p.2)).map (·.2)) = true :=
  belL_all fun a h => by
    simp only [List.map_map, List.mem_map, Function.comp] at h
    obtain ⟨p, _, rfl⟩ := h
    simp [valA, AV.bel]

theorem obel_g (k : Nat) (x : SObj) : x.g.bel k = x.bel k := by
  cases x with
  | dead => rfl
  | cells cs e sz pu => simp [SObj.g, AObj.bel, SObj.bel, belS_g]
  | row s l e pu => simp [SObj.g, AObj.bel, SObj.bel, flatA_bel]
  | map sk sv ka es kt pu => simp only [SObj.g, AObj.bel, SObj.bel, map_bel, Bool.or_true]

mutual
theorem noSl_g : ∀ (v : SV), v.noSl = true → v.g.noSl = true
  | .agg cs, h => by simp only [SV.noSl] at h; simp only [SV.g, AV.noSl]; exact noSlS_g cs h
  | .tup cs, h => by simp only [SV.noSl] at h; simp only [SV.g, AV.noSl]; exact noSlS_g cs h
  | .ud, _ | .sc _, _ | .il .., _ | .si .., _ | .bl _, _ | .sb _, _ => by simp [SV.g, AV.noSl]
  | .row .., h | .ep .., h | .ptr .., h | .ap .., h | .rp .., h | .ow .., h | .os .., h | .mp _, h | .fn .., h => by simp [SV.noSl] at h
theorem noSlS_g : ∀ (l : List SV), noSlS l = true → noSlL (gL l) = true
  | [], _ => by simp [gL, noSlL]
  | v :: l, h => by
    simp only [noSlS, Bool.and_eq_true] at h
    simp only [gL, noSlL, noSl_g v h.1, noSlS_g l h.2, Bool.and_true]
end

theorem gL_len (l : List SV) : (gL l).length = l.length := by simp [gL_map]
theorem gL_get (l : List SV) (i : Nat) : (gL l)[i]? = (l[i]?).map SV.g := by simp [gL_map]
theorem gL_app (a b : List SV) : gL (a ++ b) = gL a ++ gL b := by simp [gL_map]

theorem partS_g {cs : List SV} {off : Nat} {n : Option Nat} {v : SV} (h : partS cs off n = some v) : partA (gL cs) off n = some v.g := by
  cases n with
  | none => simp only [partS] at h; simp [partA, gL_get, h]
  | some m =>
    simp only [partS] at h
    split at h
    · rename_i hl
      simp only [Option.some.injEq] at h; subst h
      simp only [partA]
      rw [if_pos (by rw [gL_len]; exact hl)]
      simp only [SV.g, gL_map, List.map_take, List.map_drop]
    · cases h

theorem writeS_g : ∀ (vs cs : List SV) (off : Nat), gL (writeS cs off vs) = writeL (gL cs) off (gL vs)
  | [], cs, off => by simp [writeS, gL, writeL]
  | v :: vs, cs, off => by
    simp only [writeS, gL, writeL]
    rw [writeS_g vs]
    congr 1
    simp [gL_map]

theorem writeL_len : ∀ (vs cs : List AV) (off : Nat), (writeL cs off vs).length = cs.length
  | [], _, _ => rfl
  | v :: vs, cs, off => by simp only [writeL]; rw [writeL_len vs]; simp

theorem writeS_len : ∀ (vs cs : List SV) (off : Nat), (writeS cs off vs).length = cs.length
  | [], _, _ => rfl
  | v :: vs, cs, off => by simp only [writeS]; rw [writeS_len vs]; simp

theorem writeL_mid : ∀ (vs a b c : List AV) (off : Nat), off + vs.length ≤ b.length → writeL (a ++ b ++ c) (a.length + off) vs = a ++ writeL b off vs ++ c
  | [], a, b, c, off, _ => rfl
  | v :: vs, a, b, c, off, h => by
    simp only [List.length_cons] at h
    simp only [writeL]
    have h1 : (a ++ b ++ c).set (a.length + off) v = a ++ b.set off v ++ c := by
      rw [List.append_assoc, List.set_append_right _ _ (by omega), Nat.add_sub_cancel_left, List.set_append_left _ _ (by omega), List.append_assoc]
    rw [h1, Nat.add_assoc, writeL_mid vs a (b.set off v) c (off + 1) (by simp; omega)]

theorem flatA_split {s : SId} {l : List s.T} {i : Nat} (h : i < l.length) : flatA s l = flatA s (l.take i) ++ encA s (nthD l i s.dflt) ++ flatA s (l.drop (i + 1)) := by
  have h1 : l = l.take i ++ l[i] :: l.drop (i + 1) := by simp
  rw [nthD_eq h]
  conv => lhs; rw [h1]
  rw [flatA_app]
  simp only [flatA, List.flatMap_cons, List.append_assoc]

theorem take_len {α : Type} {l : List α} {i : Nat} (h : i < l.length) : (l.take i).length = i := by simp; omega

theorem flatA_set {s : SId} {l : List s.T} {i off : Nat} {v : s.T} {vs : List AV} (h : i < l.length) (ho : off + vs.length ≤ s.sz) (hw : writeL (encA s (nthD l i s.dflt)) off vs = encA s v) :
    writeL (flatA s l) (i * s.sz + off) vs = flatA s (l.set i v) := by
  have hl : (flatA s (l.take i)).length = i * s.sz := by rw [flatA_len, take_len h]
  rw [flatA_split h, ← hl, writeL_mid _ _ _ _ _ (by rw [encA_len]; exact ho), hw]
  have h2 : i < (l.set i v).length := by simpa using h
  rw [flatA_split h2, nthD_eq h2]
  simp [List.take_set_of_le, List.drop_set_of_lt]

theorem flatA_part {s : SId} {l : List s.T} {i off : Nat} {n : Option Nat} {v : SV} (h : i < l.length) (hp : partS (encS s (nthD l i s.dflt)) off n = some v) : partA (flatA s l) (i * s.sz + off) n = some v.g := by
  have hg := partS_g hp
  rw [gL_map, encS_g] at hg
  have hd := flatA_at (s := s) h
  have hlen : (flatA s l).length = i * s.sz + (s.sz + (flatA s (l.drop (i + 1))).length) := by
    have := congrArg List.length hd
    simp only [List.length_drop, List.length_append, encA_len] at this
    have h2 := flatA_len s l
    have h3 : i * s.sz ≤ l.length * s.sz := Nat.mul_le_mul_right _ (by omega)
    omega
  cases n with
  | none =>
    simp only [partA] at hg ⊢
    rw [← List.getElem?_drop, hd, List.getElem?_append_left]
    · exact hg
    · exact (List.getElem?_eq_some_iff.1 hg).1
  | some m =>
    simp only [partA, encA_len] at hg
    split at hg
    · rename_i hl
      simp only [partA]
      rw [if_pos (by omega), ← List.drop_drop, hd, List.drop_append_of_le_length (by rw [encA_len]; omega), List.take_append_of_le_length (by rw [List.length_drop, encA_len]; omega)]
      exact hg
    · cases hg

theorem optK_some {α : Type} {x : Option α} {K : α → Prop} (h : optK x K) : ∃ a, x = some a ∧ K a := by
  cases x with
  | none => exact h.elim
  | some a => exact ⟨a, rfl, h⟩

theorem gO_get (o : SStore) (i : Nat) : (gO o)[i]? = (o[i]?).map SObj.g := by simp [gO]
theorem gO_len (o : SStore) : (gO o).length = o.length := by simp [gO]
theorem gO_set (o : SStore) (i : Nat) (x : SObj) : gO (o.set i x) = (gO o).set i x.g := by simp [gO]

theorem getI {o : SStore} {i : Nat} {x : SObj} (h : o[i]? = some x) : (gO o)[i]? = some x.g := by rw [gO_get, h]; rfl

theorem ints_all : ∀ {cs : List SV} {l : List Int}, ints cs = some l → cs.length = l.length ∧ ∀ i, i < l.length → (cs[i]?).map SV.g = some (.sc (.int .i64 (nthD l i 0))) := by
  intro cs l h
  have h1 := ints_g h
  have h2 : cs.length = l.length := by simpa using congrArg List.length h1
  refine ⟨h2, fun i hi => ?_⟩
  have := congrArg (fun l => l[i]?) h1
  simp only [List.getElem?_map] at this
  rw [this, List.getElem?_eq_getElem hi, nthD_eq hi]
  rfl

theorem rows_all : ∀ {cs : List SV} {l : List (List Off)}, loadK.rowsOff cs = some l → cs.length = l.length ∧ ∀ i, i < l.length → cs[i]? = some (.row .off (nthD l i []))
  | [], l, h => by simp [loadK.rowsOff] at h; subst h; simp
  | c :: cs, l, h => by
    cases c with
    | row s x =>
      cases s <;> simp only [loadK.rowsOff, reduceCtorEq] at h
      obtain ⟨l', h1, rfl⟩ := Option.map_eq_some_iff.1 h
      obtain ⟨h2, h3⟩ := rows_all h1
      refine ⟨by simp [h2], fun i hi => ?_⟩
      cases i with
      | zero => simp [nthD]
      | succ i => simp only [List.getElem?_cons_succ]; rw [h3 i (by simpa using hi)]; simp [nthD]
    | _ => simp [loadK.rowsOff] at h

theorem pickK_sound {cs : List SV} {sz i : Nat} {n : Option Nat} {K : SV → Prop} (h : loadK.pickK cs sz i n K) (hi : i * sz < cs.length) : ∃ v, partA (gL cs) (i * sz) n = some v.g ∧ K v := by
  unfold loadK.pickK at h
  split at h
  · rw [Nat.mul_one] at hi ⊢
    split at h
    · rename_i l hl
      obtain ⟨h1, h2⟩ := ints_all hl
      refine ⟨_, ?_, h⟩
      simp only [partA, gL_get, SV.g]
      exact h2 i (by omega)
    · split at h
      · rename_i l hl
        obtain ⟨h1, h2⟩ := rows_all hl
        refine ⟨_, ?_, h⟩
        simp only [partA, gL_get, h2 i (by omega)]
        rfl
      · exact h.elim
  · exact h.elim

theorem partA_sub {cs : List AV} {base off m : Nat} {v : AV} (h : partA ((cs.drop base).take m) off none = some v) : partA cs (base + off) none = some v := by
  simp only [partA, List.getElem?_take] at h ⊢
  split at h
  · rwa [List.getElem?_drop] at h
  · cases h

theorem loadK_sound {o : SStore} {a : SV} {n : Option Nat} {K : SV → Prop} (h : loadK o a n K) : ∃ cs off v, behind (gO o) a.g = some (cs, off) ∧ partA cs off n = some v.g ∧ K v := by
  cases a with
  | ptr id off tot =>
    simp only [loadK] at h
    split at h
    · rename_i cs e sz pu ho
      split at h
      · rename_i hl
        obtain ⟨v, hv, hk⟩ := optK_some h
        exact ⟨gL cs, off, v, by simp [behind, SV.g, getI ho, SObj.g, gL_len, hl], partS_g hv, hk⟩
      · exact h.elim
    · exact h.elim
  | ap id base sz len tot i =>
    simp only [loadK] at h
    split at h
    · rename_i cs e sz' pu ho
      split at h
      · rename_i hl
        obtain ⟨h1, h2⟩ := h
        have hm : (i + 1) * sz ≤ len * sz := Nat.mul_le_mul_right _ h1
        rw [Nat.succ_mul] at hm
        have hc : sz * len = len * sz := Nat.mul_comm ..
        by_cases hz : sz = 0
        · subst hz
          unfold loadK.pickK at h2
          split at h2
          · rename_i hh; cases hh
          · exact h2.elim
        · have hlt : i * sz < ((cs.drop base).take (sz * len)).length := by simp only [List.length_take, List.length_drop]; omega
          obtain ⟨v, hv, hk⟩ := pickK_sound h2 hlt
          have hn : n = none := by
            unfold loadK.pickK at h2
            split at h2
            · rfl
            · exact h2.elim
          subst hn
          refine ⟨gL cs, base + i * sz, v, by simp [behind, SV.g, getI ho, SObj.g, gL_len, hl.1], ?_, hk⟩
          have : gL ((cs.drop base).take (sz * len)) = ((gL cs).drop base).take (sz * len) := by simp [gL_map]
          rw [this] at hv
          exact partA_sub hv
      · exact h.elim
    · exact h.elim
  | ep s l i off =>
    simp only [loadK] at h
    obtain ⟨hi, h2⟩ := h
    obtain ⟨v, hv, hk⟩ := optK_some h2
    exact ⟨flatA s l, i * s.sz + off, v, by simp [behind, SV.g], flatA_part hi hv, hk⟩
  | rp id i off m sz =>
    simp only [loadK] at h
    split at h
    · rename_i s l e pu ho
      split at h
      · rename_i hsz
        subst hsz
        obtain ⟨hm, hi, h2⟩ := h
        obtain ⟨v, hv, hk⟩ := optK_some h2
        exact ⟨flatA s l, i * s.sz + off, v, by simp [behind, SV.g, getI ho, SObj.g, flatA_len, hm], flatA_part hi hv, hk⟩
      · exact h.elim
    · exact h.elim
  | _ => simp only [loadK] at h

/-! ### what is frozen -/

theorem freeze_sc (o : Store) (d : Nat) {v : Value} (h : v ≠ .slice none 0 0) : freeze o d (.sc v) = some (.sc v) := by
  cases d <;> unfold freeze <;> split <;> simp_all

theorem mapM_self {f : AV → Option AV} : ∀ {l : List AV}, (∀ a ∈ l, f a = some a) → l.mapM f = some l
  | [], _ => by simp
  | a :: l, h => by simp [List.mapM_cons, h a (by simp), mapM_self (l := l) fun b hb => h b (by simp [hb])]

theorem seqK_sound {o : Store} {d : Nat} {f : SV → (SV → Prop) → Prop} (hf : ∀ v K, f v K → ∃ v' : SV, freeze o d v.g = some v'.g ∧ K v') :
    ∀ {l : List SV} {K : List SV → Prop}, seqK f l K → ∃ l', (gL l).mapM (freeze o d) = some (gL l') ∧ K l'
  | [], K, h => ⟨[], by simp [gL], h⟩
  | v :: l, K, h => by
    obtain ⟨v', h1, h2⟩ := hf v _ h
    obtain ⟨l', h3, h4⟩ := seqK_sound hf h2
    exact ⟨v' :: l', by simp [gL, List.mapM_cons, h1, h3], h4⟩

theorem flatA_sub {s : SId} {l : List s.T} {off len : Nat} : ((flatA s l).drop (off * s.sz)).take (len * s.sz) = flatA s ((l.drop off).take len) := by
  rw [flatA_drop, flatA_take]

theorem frzK_sound {o : SStore} : ∀ {d : Nat} {v : SV} {K : SV → Prop}, frzK o d v K → ∃ v', freeze (gO o) d v.g = some v'.g ∧ K v' := by
  intro d
  induction d with
  | zero =>
    intro v K h
    cases v <;> simp only [frzK] at h
    case sc v =>
      split at h
      · exact ⟨_, by simp [SV.g, freeze, flatA], h⟩
      · rename_i hv
        exact ⟨_, by simp only [SV.g]; exact freeze_sc _ _ hv, h⟩
    all_goals first | exact h.elim | exact ⟨_, by simp [SV.g, freeze], h⟩
  | succ d ih =>
    intro v K h
    cases v <;> simp only [frzK] at h
    case sc v =>
      split at h
      · exact ⟨_, by simp [SV.g, freeze, flatA], h⟩
      · rename_i hv
        exact ⟨_, by simp only [SV.g]; exact freeze_sc _ _ hv, h⟩
    case agg cs =>
      obtain ⟨l', h1, h2⟩ := seqK_sound (fun v K hv => ih hv) h
      exact ⟨_, by simp [SV.g, freeze, h1], h2⟩
    case tup cs =>
      obtain ⟨l', h1, h2⟩ := seqK_sound (fun v K hv => ih hv) h
      exact ⟨_, by simp [SV.g, freeze, h1], h2⟩
    case fn f a b =>
      obtain ⟨a', h1, h2⟩ := seqK_sound (fun v K hv => ih hv) h
      obtain ⟨b', h3, h4⟩ := seqK_sound (fun v K hv => ih hv) h2
      exact ⟨_, by simp [SV.g, freeze, h1, h3], h4⟩
    case ow id n sz =>
      split at h
      · rename_i s l e pu ho
        split at h
        · rename_i hsz
          obtain ⟨rfl, hk⟩ := h
          subst hsz
          refine ⟨_, ?_, hk⟩
          have hself : (flatA s l).mapM (freeze (gO o) d) = some (flatA s l) := mapM_self fun a ha => by
            obtain ⟨v, rfl, _, hv⟩ := flatA_sc ha
            exact freeze_sc _ _ hv
          have htk : List.take (l.length * s.sz) (flatA s l) = flatA s l := List.take_of_length_le (by rw [flatA_len]; omega)
          simp only [SV.g, freeze, getI ho, SObj.g, flatA_len, Nat.zero_add, Nat.le_refl, and_self, if_true, List.drop_zero, htk, hself, flatA_pure]
          cases pu <;> simp
        · exact h.elim
      · exact h.elim
    case os id off len n sz =>
      split at h
      · rename_i s l e pu ho
        split at h
        · rename_i hsz
          obtain ⟨rfl, hle, hk⟩ := h
          subst hsz
          refine ⟨_, ?_, hk⟩
          have hself : (flatA s ((l.drop off).take len)).mapM (freeze (gO o) d) = some (flatA s ((l.drop off).take len)) := mapM_self fun a ha => by
            obtain ⟨v, rfl, _, hv⟩ := flatA_sc ha
            exact freeze_sc _ _ hv
          have hm : (off + len) * s.sz ≤ l.length * s.sz := Nat.mul_le_mul_right _ hle
          rw [Nat.add_mul] at hm
          have hll : ((l.drop off).take len).length = len := by simp; omega
          simp only [SV.g, freeze, getI ho, SObj.g, flatA_len, hm, and_self, if_true, flatA_sub, hself, flatA_pure, hll]
          cases pu <;> simp
        · exact h.elim
      · exact h.elim
    all_goals first | exact h.elim | exact ⟨_, by simp [SV.g, freeze], h⟩

end Go.Vi
