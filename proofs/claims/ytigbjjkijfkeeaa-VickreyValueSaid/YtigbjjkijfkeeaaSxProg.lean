/-
  The auction's problems and allocations, and how they lie in values.
  Conditions: none.
-/
import Derived.Test.YtigbjjkijfkeeaaSxCon
namespace Go.Vi

structure Prob where
  supply : Bun
  opn : Bun
  cls : Bun
  classes : List Int
  offers : List Off

structure Alloc where
  chosen : List Int
  value : Int

def Bun.ss (b : Bun) : List SV := [.si .i64 b.a0, .si .i64 b.a1, .si .i64 b.a2, .si .i64 b.a3, .si .i64 b.a4, .si .i64 b.a5]

def Prob.ss (p : Prob) : List SV :=
  [.si .i64 p.supply.a0, .si .i64 p.supply.a1, .si .i64 p.supply.a2, .si .i64 p.supply.a3, .si .i64 p.supply.a4, .si .i64 p.supply.a5,
   .si .i64 p.opn.a0, .si .i64 p.opn.a1, .si .i64 p.opn.a2, .si .i64 p.opn.a3, .si .i64 p.opn.a4, .si .i64 p.opn.a5,
   .si .i64 p.cls.a0, .si .i64 p.cls.a1, .si .i64 p.cls.a2, .si .i64 p.cls.a3, .si .i64 p.cls.a4, .si .i64 p.cls.a5,
   .row (.i .i64) p.classes, .row .off p.offers]

def decProb : List SV → Option Prob
  | [s0, s1, s2, s3, s4, s5, o0, o1, o2, o3, o4, o5, c0, c1, c2, c3, c4, c5, k, f] => match decS .bun [s0, s1, s2, s3, s4, s5], decS .bun [o0, o1, o2, o3, o4, o5], decS .bun [c0, c1, c2, c3, c4, c5], decRow (.i .i64) k, decRow .off f with
    | some s, some o, some c, some k, some f => some ⟨s, o, c, k, f⟩
    | _, _, _, _, _ => none
  | _ => none

theorem decProb_ok {cs : List SV} {p : Prob} (h : decProb cs = some p) : gL cs = gL p.ss := by
  unfold decProb at h
  split at h
  · split at h
    · rename_i s o c k f h1 h2 h3 h4 h5
      simp only [Option.some.injEq] at h; subst h
      have h1 := decS_g h1
      have h2 := decS_g h2
      have h3 := decS_g h3
      have h4 := decRow_ok h4
      have h5 := decRow_ok h5
      simp only [List.map_cons, List.map_nil, encA, encV, List.cons.injEq, and_true] at h1 h2 h3
      simp only [Prob.ss, gL, List.cons.injEq, and_true, h4, h5]
      simp only [h1, h2, h3, SV.g, iv, and_self]
    · cases h
  · cases h

def codP : Cod Prob where
  put p := .agg p.ss
  dec
    | .agg cs => decProb cs
    | _ => none
  ok v a h := by
    match v, h with
    | .agg cs, h => simp only at h; simp only [SV.g, decProb_ok h]
  inj a b h := by
    obtain ⟨⟨a0, a1, a2, a3, a4, a5⟩, ⟨b0, b1, b2, b3, b4, b5⟩, ⟨c0, c1, c2, c3, c4, c5⟩, k, f⟩ := a
    obtain ⟨⟨d0, d1, d2, d3, d4, d5⟩, ⟨e0, e1, e2, e3, e4, e5⟩, ⟨f0, f1, f2, f3, f4, f5⟩, k', f'⟩ := b
    simp only [SV.g, Prob.ss, gL, AV.agg.injEq, List.cons.injEq, and_true, AV.sc.injEq, Value.int.injEq, true_and, AV.sl.injEq] at h
    obtain ⟨h0, h1, h2, h3, h4, h5, g0, g1, g2, g3, g4, g5, k0, k1, k2, k3, k4, k5, m, n⟩ := h
    have m2 := flatA_inj (.i .i64) m.1 m.2
    have n2 := flatA_inj .off n.1 n.2
    simp only [Prob.mk.injEq, Bun.mk.injEq]
    exact ⟨⟨h0, h1, h2, h3, h4, h5⟩, ⟨g0, g1, g2, g3, g4, g5⟩, ⟨k0, k1, k2, k3, k4, k5⟩, m2, n2⟩

def codA : Cod Alloc where
  put a := .agg [.row (.i .i64) a.chosen, .si .i64 a.value]
  dec
    | .agg [r, v] => match decRow (.i .i64) r, v.int .i64 with
      | some c, some v => some ⟨c, v⟩
      | _, _ => none
    | _ => none
  ok v a h := by
    split at h
    · split at h
      · rename_i h1 h2
        simp only [Option.some.injEq] at h; subst h
        simp only [SV.g, gL, decRow_ok h1, int_g h2]
      · cases h
    · cases h
  inj a b h := by
    obtain ⟨c, v⟩ := a
    obtain ⟨c', v'⟩ := b
    simp only [SV.g, gL, AV.agg.injEq, List.cons.injEq, and_true, AV.sc.injEq, Value.int.injEq, true_and, AV.sl.injEq] at h
    have m2 := flatA_inj (.i .i64) h.1.1 h.1.2
    rw [m2, h.2]

/-- The types of elements, by their numbers. -/
def tyN : TypeId → Option SId
  | 2 => some (.i .i64)
  | 3 => some (.i .i64)
  | 126 => some (.i .u32)
  | 43 => some .off
  | 83 => some .need
  | _ => none

/-- The kinds of maps. -/
def mtN : List Nat × Bool → Option (SId × SId)
  | ([0, 0, 0, 0, 0, 0, 0], true) => some (.key, .b)
  | ([0, 0, 0, 0, 0, 0, 0, 0, 0, 0, 0, 0, 0], true) => some (.sit, .i .i64)
  | _ => none

end Go.Vi
