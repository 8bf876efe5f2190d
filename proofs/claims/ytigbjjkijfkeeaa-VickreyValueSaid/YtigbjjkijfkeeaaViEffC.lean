/-
  The abstract interpreter: addresses, parts, slices, lengths, tuples, functions, aggregates.
  Conditions: none.
-/
import Derived.Test.YtigbjjkijfkeeaaViEffB
namespace Go.Vi

section
variable {P : Program} {A : Nat → Prop} {w w' : World} {σ σ' : Sig} {o o' : Store} {ρA : Operand → AV} {ρC : Operand → Value} {oper : Oper} {v : AV}

theorem g_fieldA (hS : SimO A w σ o) (hρ : ∀ x, Rep A w σ o (ρA x) (ρC x)) {s f n : Nat} {fs : Array Field} {g : Field} {x : Operand} (hop : oper.op = .fieldAddr s x f) (hs : P.underlying s = some (.struct fs)) (hg : fs[f]? = some g)
    (hn : sizeT P g.type = some n) (hn0 : n ≠ 0) (h : addA g.offset (ρA x) = some v) : Gives A P ρC oper w σ o v o := by
  obtain ⟨p, hp, hr⟩ := rep_addA (hρ x) h
  refine Gives.same hS ?_ hr
  simp [execOp, hop, Instr.fieldAt, run_underlying hs, hg, hp, Instr.sureAddr, fieldPlace, run_sizeOf' hn, hn0]

theorem g_field (hS : SimO A w σ o) (hρ : ∀ x, Rep A w σ o (ρA x) (ρC x)) {s f : Nat} {fs : Array Field} {g : Field} {x : Operand} {n : Option Nat} (hop : oper.op = .field s x f) (hs : P.underlying s = some (.struct fs)) (hg : fs[f]? = some g)
    (hn : shapeT P g.type = some n) {cs : List AV} (hx : ρA x = .agg cs) (h : partA cs g.offset n = some v) : Gives A P ρC oper w σ o v o := by
  have h1 := hρ x
  rw [hx] at h1
  simp only [Rep] at h1
  obtain ⟨vs, hv, hl⟩ := h1
  obtain ⟨u, hu, hr⟩ := run_part (P := P) vs cs g.offset g.type n hn hl h
  refine Gives.same hS (u := u) ?_ hr
  simp [execOp, hop, Instr.field, run_underlying hs, hg, hv, asAgg, hu]

theorem intA_rep {a : AV} {n : Int} {u : Value} (h : Rep A w σ o a u) (ha : intA a = some n) : ∃ k, u = .int k n := by
  unfold intA at ha
  split at ha
  · rename_i k m
    injection ha with ha
    subst ha
    exact ⟨k, rep_sc h⟩
  · cases ha

theorem g_idxA (hS : SimO A w σ o) (hρ : ∀ x, Rep A w σ o (ρA x) (ρC x)) {t len e sz : Nat} {x i : Operand} {n : Int} (hop : oper.op = .indexAddr t x i) (ht : P.underlying t = some (.array len e)) (hsz : sizeT P e = some sz)
    (hi : intA (ρA i) = some n) (h0 : 0 ≤ n) (h1 : n < len) (h : addA (n.toNat * sz) (ρA x) = some v) : Gives A P ρC oper w σ o v o := by
  obtain ⟨p, hp, hr⟩ := rep_addA (hρ x) h
  obtain ⟨k, hk⟩ := intA_rep (hρ i) hi
  refine Gives.same hS ?_ hr
  simp only [execOp, hop, Instr.indexAt, hk, hp]
  simp only [Sem.run_bind, asIntOf, Sem.run_pure, Result.andThen_ok, run_underlying ht, Instr.sureAddr]
  rw [if_pos ⟨h0, h1⟩]
  simp [run_sizeOf' hsz]

theorem g_idxS (hS : SimO A w σ o) (hρ : ∀ x, Rep A w σ o (ρA x) (ρC x)) {t e sz : Nat} {x i : Operand} {n : Int} (hop : oper.op = .indexAddr t x i) (ht : P.underlying t = some (.slice e)) (hsz : sizeT P e = some sz) (hsz0 : sz ≠ 0)
    (hi : intA (ρA i) = some n) (h : idxSA o sz (ρA x) n = some v) : Gives A P ρC oper w σ o v o := by
  obtain ⟨k, hk⟩ := intA_rep (hρ i) hi
  have hx := hρ x
  have main : ∀ (a : Option Addr) (len cap : Nat) (p : Addr), ρC x = .slice a len cap → a = some p → 0 ≤ n → n < len → Rep A w σ o v (.pointer (some (p.add (n.toNat * sz)))) → Gives A P ρC oper w σ o v o := by
    intro a len cap p hxv ha h0 h1 hr
    refine Gives.same hS ?_ hr
    simp only [execOp, hop, Instr.indexAt, hk, hxv, ha]
    simp only [Sem.run_bind, asIntOf, Sem.run_pure, Result.andThen_ok, run_underlying ht]
    rw [if_pos ⟨h0, h1⟩]
    simp [run_sizeOf' hsz]
  unfold idxSA at h
  split at h
  · rename_i m cs hxa
    rw [hxa] at hx
    simp only [Rep] at hx
    obtain ⟨a, cap, hxv, hn, hp, hm⟩ := hx
    split at h
    · rename_i hc
      injection h with h; subst h
      obtain ⟨h0, h1, hlen⟩ := hc
      have hne : n.toNat * sz < cs.length := by
        rw [hlen]
        have : n.toNat < m := by omega
        exact (Nat.mul_lt_mul_right (by omega)).2 this
      obtain ⟨b, u, hb, _⟩ := RepM.get _ _ _ hm _ _ (List.getElem?_eq_getElem hne)
      refine main a m cap b hxv hb h0 h1 ?_
      simp only [Rep]
      subst hb
      exact ⟨b, rfl, hp, hm⟩
    · cases h
  · rename_i id off len tot hxa
    rw [hxa] at hx
    simp only [Rep] at hx
    obtain ⟨hle, a, cap, hxv, hlc, hcur⟩ := hx
    split at h
    · rename_i cs e' sz' pu ho
      split at h
      · rename_i hc
        obtain ⟨htot, rfl, h0, h1, hrange⟩ := hc
        injection h with h; subst h
        have hk' := hcur sz' ⟨cs, e', pu, ho, htot⟩
        have hcl : CurO o id sz' tot := ⟨cs, e', pu, ho, htot⟩
        unfold OsOk at hk'
        split at hk'
        · omega
        · rename_i b c hσ
          have ha := hk'.1 (by omega)
          refine main a len cap _ hxv ha h0 h1 ?_
          simp only [Rep]
          refine ⟨hle, ⟨_, rfl⟩, fun sz hc => ⟨b, c, hσ, ?_⟩⟩
          have : (⟨b, off, none⟩ : Addr).add (n.toNat * sz') = ⟨b, off + n.toNat * sz', none⟩ := by unfold Addr.add; split <;> simp_all
          rw [this]
        · exact hk'.elim
      · cases h
    · cases h
  · cases h

theorem g_idx (hS : SimO A w σ o) (hρ : ∀ x, Rep A w σ o (ρA x) (ρC x)) {t len e sz : Nat} {x i : Operand} {n : Int} {m : Option Nat} (hop : oper.op = .index t x i) (ht : P.underlying t = some (.array len e)) (hsz : sizeT P e = some sz)
    (hm : shapeT P e = some m) (hi : intA (ρA i) = some n) (h0 : 0 ≤ n) (h1 : n < len) {cs : List AV} (hx : ρA x = .agg cs) (h : partA cs (n.toNat * sz) m = some v) : Gives A P ρC oper w σ o v o := by
  obtain ⟨k, hk⟩ := intA_rep (hρ i) hi
  have hx' := hρ x
  rw [hx] at hx'
  simp only [Rep] at hx'
  obtain ⟨vs, hv, hl⟩ := hx'
  obtain ⟨u, hu, hr⟩ := run_part (P := P) vs cs _ e m hm hl h
  refine Gives.same hS (u := u) ?_ hr
  simp only [execOp, hop, Instr.index, hk, hv]
  simp only [Sem.run_bind, asIntOf, Sem.run_pure, Result.andThen_ok, run_underlying ht]
  rw [if_pos ⟨h0, h1⟩]
  simp [run_sizeOf' hsz, hu]

theorem g_idxStr (hS : SimO A w σ o) (hρ : ∀ x, Rep A w σ o (ρA x) (ρC x)) {t : Nat} {x i : Operand} {n : Int} {s : ByteArray} {b : UInt8} (hop : oper.op = .index t x i) (ht : P.underlying t = some .string)
    (hi : intA (ρA i) = some n) (h0 : 0 ≤ n) (hx : ρA x = .sc (.string s)) (h : s[n.toNat]? = some b) : Gives A P ρC oper w σ o (.sc (.int .u8 b.toNat)) o := by
  obtain ⟨k, hk⟩ := intA_rep (hρ i) hi
  have hx' := hρ x
  rw [hx] at hx'
  have hv := rep_sc hx'
  refine Gives.same hS (u := .int .u8 b.toNat) ?_ (by simp [Rep, Value.oneCell'])
  simp only [execOp, hop, Instr.index, hk, hv]
  simp only [Sem.run_bind, asIntOf, Sem.run_pure, Result.andThen_ok, run_underlying ht]
  simp [h0, h]

theorem g_len (hS : SimO A w σ o) (hρ : ∀ x, Rep A w σ o (ρA x) (ρC x)) {t : TypeId} {x : Operand} {c : Call} {k n : Nat} (hop : oper.op = .call c) (hc : c.callee = .builtin .len) (ha : c.args = #[x]) (hty : c.argTypes = #[t])
    (ht : (k = 0 ∧ ∃ e, P.underlying t = some (.slice e)) ∨ (k = 1 ∧ P.underlying t = some .string) ∨ (k = 2 ∧ ∃ a b, P.underlying t = some (.map a b))) (hn : lenA o k (ρA x) = some n) : Gives A P ρC oper w σ o (.sc (.int .i64 n)) o := by
  refine Gives.same hS (u := .int .i64 n) ?_ (by simp [Rep, Value.oneCell'])
  simp only [execOp, hop, resolve, hc, ha, hty, invoke, builtin]
  have hx := hρ x
  rcases ht with ⟨rfl, e, ht⟩ | ⟨rfl, ht⟩ | ⟨rfl, a, b, ht⟩
  · have : ∃ A c, ρC x = .slice A n c := by
      cases hxa : ρA x <;> rw [hxa] at hn hx <;> simp only [lenA, reduceCtorEq] at hn
      · rename_i u
        cases u <;> simp only [reduceCtorEq, Option.some.injEq] at hn
        subst hn
        exact ⟨_, _, rep_sc hx⟩
      · simp only [Option.some.injEq] at hn
        subst hn
        simp only [Rep] at hx
        obtain ⟨A, cap, hv, _⟩ := hx
        exact ⟨A, cap, hv⟩
      · simp only [Option.some.injEq] at hn
        subst hn
        simp only [Rep] at hx
        obtain ⟨_, A, cap, hv, _⟩ := hx
        exact ⟨A, cap, hv⟩
    obtain ⟨A, c', hv⟩ := this
    simp [hv, Builtin.len_, run_underlying ht, goInt]
  · cases hxa : ρA x <;> rw [hxa] at hn hx <;> simp only [lenA, reduceCtorEq] at hn
    rename_i u
    cases u <;> simp only [reduceCtorEq, Option.some.injEq] at hn
    subst hn
    simp [rep_sc hx, Builtin.len_, run_underlying ht, goInt]
  · cases hxa : ρA x <;> rw [hxa] at hn hx <;> simp only [lenA, reduceCtorEq] at hn
    rename_i id
    split at hn
    · rename_i es kt pu ho
      simp only [Option.some.injEq] at hn
      subst hn
      simp only [Rep] at hx
      obtain ⟨_, b', c', hσ, hv⟩ := hx
      have hob := hS.obj id _ ho
      simp only [ObjOK] at hob
      obtain ⟨_, _, b2, c2, en, cl, h3, h4, h5, _⟩ := hob
      rw [hσ] at h3
      simp only [Option.some.injEq, Prod.mk.injEq] at h3
      obtain ⟨rfl, rfl⟩ := h3
      simp [hv, Builtin.len_, run_underlying ht, goInt, getObj, Sem.run, h4, h5]
    · cases hn

theorem g_lenArr (hS : SimO A w σ o) {t : TypeId} {x : Operand} {c : Call} {n e : Nat} (hop : oper.op = .call c) (hc : c.callee = .builtin .len) (ha : c.args = #[x]) (hty : c.argTypes = #[t])
    (ht : P.underlying t = some (.array n e)) : Gives A P ρC oper w σ o (.sc (.int .i64 n)) o := by
  refine Gives.same hS (u := .int .i64 n) ?_ (by simp [Rep, Value.oneCell'])
  simp [execOp, hop, resolve, hc, ha, hty, invoke, builtin, Builtin.len_, run_underlying ht, goInt]

theorem g_mm (hS : SimO A w σ o) (hρ : ∀ x, Rep A w σ o (ρA x) (ρC x)) {mx : Bool} {x y : Operand} {c : Call} {k : IntKind} {a b : Int} (hop : oper.op = .call c) (hc : c.callee = .builtin (if mx then .max else .min)) (ha : c.args = #[x, y])
    (hx : ρA x = .sc (.int k a)) (hy : ρA y = .sc (.int k b)) : Gives A P ρC oper w σ o (.sc (.int k (if mx then (if b > a then b else a) else (if b < a then b else a)))) o := by
  have h1 := hρ x
  have h2 := hρ y
  rw [hx] at h1
  rw [hy] at h2
  refine Gives.same hS (u := .int k (if mx then (if b > a then b else a) else (if b < a then b else a))) ?_ (by simp [Rep, Value.oneCell'])
  cases mx <;> simp [execOp, hop, resolve, hc, ha, invoke, builtin, Builtin.min_, Builtin.max_, rep_sc h1, rep_sc h2, Builtin.min2, Builtin.max2]

theorem g_extract (hS : SimO A w σ o) (hρ : ∀ x, Rep A w σ o (ρA x) (ρC x)) {x : Operand} {i : Nat} (hop : oper.op = .extract x i) {vs : List AV} (hx : ρA x = .tup vs) (h : vs[i]? = some v) : Gives A P ρC oper w σ o v o := by
  have h1 := hρ x
  rw [hx] at h1
  simp only [Rep] at h1
  obtain ⟨us, hu, hl⟩ := h1
  obtain ⟨u, hu', hr⟩ := RepL.get _ _ hl i v h
  refine Gives.same hS (u := u) ?_ hr
  simp at hu'
  simp [execOp, hop, hu, Instr.extract, hu']

theorem repL_map (hρ : ∀ x, Rep A w σ o (ρA x) (ρC x)) : ∀ l : List Operand, RepL A w σ o (l.map ρA) (l.map ρC)
  | [] => by simp [RepL]
  | x :: l => by simp only [List.map_cons, RepL]; exact ⟨_, _, rfl, hρ x, repL_map hρ l⟩

theorem g_mkfn (hS : SimO A w σ o) (hρ : ∀ x, Rep A w σ o (ρA x) (ρC x)) {f : Fn} {a b : Array Operand} (hop : oper.op = .makeFunc f a b) : Gives A P ρC oper w σ o (.fn f (a.toList.map ρA) (b.toList.map ρA)) o := by
  refine Gives.same hS (u := .func f (a.map ρC) (b.map ρC)) (by simp [execOp, hop, Instr.makeFunc]) ?_
  simp only [Rep]
  exact ⟨_, _, rfl, by simpa using repL_map hρ a.toList, by simpa using repL_map hρ b.toList⟩
end

end Go.Vi
