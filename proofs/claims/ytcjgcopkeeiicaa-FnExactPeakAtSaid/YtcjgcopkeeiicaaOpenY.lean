/- What an argument that can be read as data looks like in memory. -/
import Derived.Test.YtcjgcopkeeiicaaMem
import Derived.ProofKit
import Derived.OpenShut
import Derived.ShutString
import Derived.ChangeOld
import Derived.Deep.Slices
import Derived.Deep.Fields
import Derived.Lib.SmallJoins
import Derived.Test.YtcjgcopkeeiicaaMat
import Derived.Test.YtcjgcopkeeiicaaSys
namespace Go.Proofs.Ytcjgcopkeeiicaa
open Go.RowKit Go.ChangeShapes Go.WideShapes Go.Deep
set_option linter.unusedVariables false

section
variable {H : Type} {enc : TypeId × Value → H} {P : Program} {W : World} {base : Nat} {spare : Nat → Bool} {held : Bool}

theorem read_slice64 {t e : TypeId} {fuel : Nat} {cs : List Value} {x : DataW H × List MemPlace} (ht : P.underlying t = some (.slice e)) (he : P.underlying e = some (.int .i64)) (hc : P.cellsOf e = 1)
    (h : DataW.trod enc P W base spare held fuel t cs = some x) : ∃ A n c zs, cs = [.slice A n c] ∧ RI W A n zs ∧ n ≤ maxLen := by
  rcases open_ints ht he hc h with ⟨hcs, _⟩ | ⟨a, l, c, zs, hcs, _, hl, hm, hz, _, hcell, _⟩
  · exact ⟨none, 0, 0, [], hcs, ⟨rfl, fun h => by omega⟩, by simp [maxLen]⟩
  · have hlz : l ≤ zs.length := by rw [hz]; split <;> omega
    refine ⟨some a, l, c, zs.take l, hcs, ⟨by rw [List.length_take]; omega, fun h0 => ?_⟩, by omega⟩
    obtain ⟨b, off, spot⟩ := a
    have hc0 := hcell 0 (by omega)
    have hspot : spot = none := by simpa [Addr.add] using World.cell?_spot hc0
    subst hspot
    refine ⟨b, off, rfl, fun k hk => ?_⟩
    have := hcell k (by omega)
    have e1 : (⟨b, off, none⟩ : Addr).add k = ⟨b, off + k, none⟩ := by unfold Addr.add; split <;> simp_all
    rw [e1] at this
    rw [this]
    simp [List.getD_eq_getElem?_getD, hk]

theorem open_slice64 {r : Reach} {b0 : Nat} {t e : TypeId} {v : Value} {d : DataW H} {p : List MemPlace} (ht : P.underlying t = some (.slice e)) (he : P.underlying e = some (.int .i64)) (hc : P.cellsOf e = 1)
    (hv : Value.okWide P W r b0 t v) (h : DataW.Trod enc P W base spare held t v d p) : ∃ A n c zs, v = .slice A n c ∧ RI W A n zs ∧ n ≤ maxLen := by
  obtain ⟨a0, len, cap, rfl⟩ := okWide_slice ht hv
  obtain ⟨fuel, hf⟩ := h
  obtain ⟨A, n, c, zs, hcs, hR, hn⟩ := read_slice64 ht he hc hf
  simp only [Value.cells, List.cons.injEq, and_true] at hcs
  exact ⟨A, n, c, zs, by simpa using hcs, hR, hn⟩

/-- A struct of one slice of numbers, by value. -/
theorem open_one {r : Reach} {b0 : Nat} {t s e : TypeId} {f0 : Field} {v : Value} {d : DataW H} {p : List MemPlace} (hs : P.underlying t = some (.struct #[f0])) (hC : P.cellsOf t = 1) (hf0 : f0.type = s) (ho : f0.offset = 0) (hk : P.cellsOf s = 1)
    (ht : P.underlying s = some (.slice e)) (he : P.underlying e = some (.int .i64)) (hc : P.cellsOf e = 1)
    (hv : Value.okWide P W r b0 t v) (h : DataW.Trod enc P W base spare held t v d p) : ∃ A n c zs, v = .agg #[.slice A n c] ∧ RI W A n zs ∧ n ≤ maxLen := by
  obtain ⟨cs, rfl, hsz⟩ := okWide_struct hs hv
  obtain ⟨l⟩ := cs
  match l, hsz.trans hC with
  | [c0], _ =>
    obtain ⟨fuel, hf⟩ := h
    obtain ⟨xs, n, _, hx, _, hlen, hg⟩ := DataW.trod_struct hs hf
    match xs, hlen with
    | [y0], _ =>
      have h0 := hg 0 f0 rfl
      rw [hf0, ho, hk] at h0
      obtain ⟨A, n, c, zs, hcs, hR, hn⟩ := read_slice64 ht he hc h0
      have : c0 = .slice A n c := by simpa [Value.cells] using hcs
      subst this
      exact ⟨A, n, c, zs, rfl, hR, hn⟩

/-- A struct of two slices of numbers, by value. -/
theorem open_two {r : Reach} {b0 : Nat} {t s e : TypeId} {f0 f1 : Field} {v : Value} {d : DataW H} {p : List MemPlace} (hs : P.underlying t = some (.struct #[f0, f1])) (hC : P.cellsOf t = 2) (hf0 : f0.type = s) (ho0 : f0.offset = 0) (hf1 : f1.type = s) (ho1 : f1.offset = 1) (hk : P.cellsOf s = 1)
    (ht : P.underlying s = some (.slice e)) (he : P.underlying e = some (.int .i64)) (hc : P.cellsOf e = 1)
    (hv : Value.okWide P W r b0 t v) (h : DataW.Trod enc P W base spare held t v d p) : ∃ A n c zs B m d' ys, v = .agg #[.slice A n c, .slice B m d'] ∧ RI W A n zs ∧ n ≤ maxLen ∧ RI W B m ys ∧ m ≤ maxLen := by
  obtain ⟨cs, rfl, hsz⟩ := okWide_struct hs hv
  obtain ⟨l⟩ := cs
  match l, hsz.trans hC with
  | [c0, c1], _ =>
    obtain ⟨fuel, hf⟩ := h
    obtain ⟨xs, n, _, hx, _, hlen, hg⟩ := DataW.trod_struct hs hf
    match xs, hlen with
    | [y0, y1], _ =>
      have h0 := hg 0 f0 rfl
      have h1 := hg 1 f1 rfl
      rw [hf0, ho0, hk] at h0
      rw [hf1, ho1, hk] at h1
      obtain ⟨A, n, c, zs, hcs, hR, hn⟩ := read_slice64 ht he hc h0
      obtain ⟨B, m, d', ys, hcs1, hR1, hm⟩ := read_slice64 ht he hc h1
      have e0 : c0 = .slice A n c := by simpa [Value.cells] using hcs
      have e1 : c1 = .slice B m d' := by simpa [Value.cells] using hcs1
      subst e0 e1
      exact ⟨A, n, c, zs, B, m, d', ys, rfl, hR, hn, hR1, hm⟩
end
end Go.Proofs.Ytcjgcopkeeiicaa
/-! What a substitution that can be read as data looks like in memory. -/

namespace Go.Proofs.Ytcjgcopkeeiicaa
open Go.RowKit Go.ChangeShapes Go.WideShapes Go.Deep
set_option linter.unusedVariables false

section
variable {H : Type} {enc : TypeId × Value → H} {P : Program} {W : World} {base : Nat} {held : Bool}

theorem read_rows {t e q : TypeId} {fuel : Nat} {cs : List Value} {x : DataW H × List MemPlace} (ht : P.underlying t = some (.slice e)) (ce : P.cellsOf e = 1) (he : P.underlying e = some (.slice q)) (hq : P.underlying q = some (.int .i64)) (cq : P.cellsOf q = 1)
    (h : DataW.trod enc P W base (fun _ => true) held fuel t cs = some x) : ∃ A n c zs, cs = [.slice A n c] ∧ RR W A n zs ∧ n ≤ maxLen := by
  rcases open_slice1 ht ce h with ⟨hcs, _⟩ | ⟨a, l, c, m, fuel', V, D, Pl, hcs, _, hl, hm, hmm, _, hx⟩
  · exact ⟨none, 0, 0, [], hcs, ⟨rfl, fun h => by omega⟩, by simp [maxLen]⟩
  · simp only [if_true] at hmm
    have hlm : l ≤ m := by omega
    have each : ∀ r, r < l → ∃ y : Option Addr × Nat × Nat × List Int, W.cell? (a.add r) = some (.slice y.1 y.2.1 y.2.2.1) ∧ RI W y.1 y.2.1 y.2.2.2 ∧ y.2.1 ≤ maxLen := by
      intro r hr
      obtain ⟨h1, h2⟩ := hx r (by omega)
      obtain ⟨A, n, c', zs, hv, hR, hn⟩ := read_slice64 he hq cq h2
      have e1 : V r = .slice A n c' := by simpa using hv
      exact ⟨(A, n, c', zs), by rw [h1, e1], hR, hn⟩
    obtain ⟨Y, hY⟩ := choose_lt (α := Option Addr × Nat × Nat × List Int) each
    refine ⟨some a, l, c, (List.range l).map fun r => (Y r).2.2.2, hcs, ⟨by simp, fun h0 => ?_⟩, by omega⟩
    obtain ⟨b, off, spot⟩ := a
    have hc0 := (hY 0 (by omega)).1
    have hspot : spot = none := by simpa [Addr.add] using World.cell?_spot hc0
    subst hspot
    refine ⟨b, off, rfl, fun k hk => ?_⟩
    obtain ⟨h1, h2, h3⟩ := hY k hk
    have e1 : (⟨b, off, none⟩ : Addr).add k = ⟨b, off + k, none⟩ := by unfold Addr.add; split <;> simp_all
    rw [e1] at h1
    unfold maxLen at h3
    refine ⟨_, _, _, h1, ?_, by omega⟩
    have e2 : ((List.range l).map fun r => (Y r).2.2.2).getD k [] = (Y k).2.2.2 := by
      simp [List.getD_eq_getElem?_getD, hk]
    rw [e2]; exact h2

/-- A struct of one slice of slices of numbers, by value. -/
theorem open_subst {r : Reach} {b0 : Nat} {t s q e : TypeId} {f0 : Field} {v : Value} {d : DataW H} {p : List MemPlace} (hs : P.underlying t = some (.struct #[f0])) (hC : P.cellsOf t = 1) (hf0 : f0.type = s) (ho : f0.offset = 0) (hk : P.cellsOf s = 1)
    (hss : P.underlying s = some (.slice q)) (cq : P.cellsOf q = 1) (ht : P.underlying q = some (.slice e)) (he : P.underlying e = some (.int .i64)) (hc : P.cellsOf e = 1)
    (hv : Value.okWide P W r b0 t v) (h : DataW.Trod enc P W base (fun _ => true) held t v d p) : ∃ A n c zs, v = .agg #[.slice A n c] ∧ RR W A n zs ∧ n ≤ maxLen := by
  obtain ⟨cs, rfl, hsz⟩ := okWide_struct hs hv
  obtain ⟨l⟩ := cs
  match l, hsz.trans hC with
  | [c0], _ =>
    obtain ⟨fuel, hf⟩ := h
    obtain ⟨xs, n, _, hx, _, hlen, hg⟩ := DataW.trod_struct hs hf
    match xs, hlen with
    | [y0], _ =>
      have h0 := hg 0 f0 rfl
      rw [hf0, ho, hk] at h0
      obtain ⟨A, n, c, zs, hcs, hR, hn⟩ := read_rows hss cq ht he hc h0
      have : c0 = .slice A n c := by simpa [Value.cells] using hcs
      subst this
      exact ⟨A, n, c, zs, rfl, hR, hn⟩
end
end Go.Proofs.Ytcjgcopkeeiicaa
/-! What a system that can be read as data looks like in memory. -/

namespace Go.Proofs.Ytcjgcopkeeiicaa
open Go.RowKit Go.ChangeShapes Go.WideShapes Go.Deep
set_option linter.unusedVariables false

section
variable {H : Type} {enc : TypeId × Value → H} {P : Program} {W : World} {base : Nat} {held : Bool} {spare : Nat → Bool}

theorem read_slice64c {t e : TypeId} {fuel : Nat} {cs : List Value} {x : DataW H × List MemPlace} (ht : P.underlying t = some (.slice e)) (he : P.underlying e = some (.int .i64)) (hc : P.cellsOf e = 1)
    (h : DataW.trod enc P W base spare held fuel t cs = some x) : ∃ A n c zs, cs = [.slice A n c] ∧ RI W A n zs ∧ n ≤ c ∧ c ≤ maxLen := by
  obtain ⟨A, n, c, zs, hcs, hR, _⟩ := read_slice64 ht he hc h
  refine ⟨A, n, c, zs, hcs, hR, ?_⟩
  rcases open_ints ht he hc h with ⟨hcs2, _⟩ | ⟨a, l, c2, zs2, hcs2, _, hl, hm, _⟩
  · rw [hcs] at hcs2
    simp only [List.cons.injEq, Value.slice.injEq, and_true] at hcs2
    obtain ⟨_, rfl, rfl⟩ := hcs2
    exact ⟨Nat.le_refl _, Nat.zero_le _⟩
  · rw [hcs] at hcs2
    simp only [List.cons.injEq, Value.slice.injEq, and_true] at hcs2
    obtain ⟨_, rfl, rfl⟩ := hcs2
    exact ⟨hl, hm⟩

theorem read_rules {t tr ts e : TypeId} {r0 r1 : Field} {fuel : Nat} {cs : List Value} {x : DataW H × List MemPlace} (ht : P.underlying t = some (.slice tr)) (hr : P.underlying tr = some (.struct #[r0, r1])) (cr : P.cellsOf tr = 2)
    (h0 : r0.type = ts) (o0 : r0.offset = 0) (h1 : r1.type = ts) (o1 : r1.offset = 1) (cs1 : P.cellsOf ts = 1) (hs : P.underlying ts = some (.slice e)) (he : P.underlying e = some (.int .i64)) (hc : P.cellsOf e = 1)
    (h : DataW.trod enc P W base (fun _ => true) held fuel t cs = some x) : ∃ A n c zs, cs = [.slice A n c] ∧ RU W A n zs ∧ n ≤ maxLen := by
  rcases open_slice ht h with ⟨hcs, _⟩ | ⟨a, l, c, m, fuel', D, Pl, hcs, _, hl, hm, hmm, _, hx⟩
  · exact ⟨none, 0, 0, [], hcs, ⟨rfl, fun h => by omega⟩, by simp [maxLen]⟩
  · simp only [if_true] at hmm
    rw [cr] at hx
    have each : ∀ q, q < l → ∃ y : (Option Addr × Nat × Nat × List Int) × (Option Addr × Nat × Nat × List Int), W.cell? (a.add (q * 2)) = some (.slice y.1.1 y.1.2.1 y.1.2.2.1) ∧ W.cell? (a.add (q * 2 + 1)) = some (.slice y.2.1 y.2.2.1 y.2.2.2.1) ∧
        RI W y.1.1 y.1.2.1 y.1.2.2.2 ∧ RI W y.2.1 y.2.2.1 y.2.2.2.2 ∧ y.1.2.1 ≤ y.1.2.2.1 ∧ y.1.2.2.1 ≤ maxLen ∧ y.2.2.1 ≤ y.2.2.2.1 ∧ y.2.2.2.1 ≤ maxLen := by
      intro q hq
      obtain ⟨cs', hcells, htr⟩ := hx q (by omega)
      obtain ⟨_, hlen, hget⟩ := World.cells?_some hcells
      match cs', hlen, hget, htr with
      | [v0, v1], _, hget, htr =>
        obtain ⟨xs, n, _, hxx, _, hlen2, hg⟩ := DataW.trod_struct hr htr
        match xs, hlen2 with
        | [y0, y1], _ =>
          have g0 := hg 0 r0 rfl
          have g1 := hg 1 r1 rfl
          rw [h0, o0, cs1] at g0
          rw [h1, o1, cs1] at g1
          obtain ⟨A1, n1, c1, z1, e1, R1, l1, m1⟩ := read_slice64c hs he hc g0
          obtain ⟨A2, n2, c2, z2, e2, R2, l2, m2⟩ := read_slice64c hs he hc g1
          have e1' : v0 = .slice A1 n1 c1 := by simpa using e1
          have e2' : v1 = .slice A2 n2 c2 := by simpa using e2
          subst e1' e2'
          refine ⟨((A1, n1, c1, z1), (A2, n2, c2, z2)), ?_, ?_, R1, R2, l1, m1, l2, m2⟩
          · have := hget 0 (by simp)
            simpa [Addr.add] using this
          · have := hget 1 (by simp)
            rw [add_add] at this
            simpa using this
    obtain ⟨Y, hY⟩ := choose_lt (α := (Option Addr × Nat × Nat × List Int) × (Option Addr × Nat × Nat × List Int)) each
    refine ⟨some a, l, c, (List.range l).map fun q => ((Y q).1.2.2.2, (Y q).2.2.2.2), hcs, ⟨by simp, fun h0 => ?_⟩, by omega⟩
    obtain ⟨b, off, spot⟩ := a
    have hc0 := (hY 0 (by omega)).1
    have hspot : spot = none := by simpa [Addr.add] using World.cell?_spot hc0
    subst hspot
    refine ⟨b, off, rfl, fun k hk => ?_⟩
    obtain ⟨a1, a2, a3, a4, a5, a6, a7, a8⟩ := hY k hk
    have e1 : ∀ j, (⟨b, off, none⟩ : Addr).add j = ⟨b, off + j, none⟩ := fun j => by unfold Addr.add; split <;> simp_all
    rw [e1] at a1 a2
    unfold maxLen at a6 a8
    have e2 : ((List.range l).map fun q => ((Y q).1.2.2.2, (Y q).2.2.2.2)).getD k ([], []) = ((Y k).1.2.2.2, (Y k).2.2.2.2) := by
      simp [List.getD_eq_getElem?_getD, hk]
    rw [e2]
    exact ⟨_, _, _, _, _, _, a1, a2, a3, a4, a5, by omega, a7, by omega⟩

/-- A struct of a signature and a slice of rules, by value. -/
theorem open_system {r : Reach} {b0 : Nat} {t tg tu tr ts e : TypeId} {f0 f1 g0 r0 r1 : Field} {v : Value} {d : DataW H} {p : List MemPlace} (hS : P.underlying t = some (.struct #[f0, f1])) (hG : P.underlying tg = some (.struct #[g0])) (hU : P.underlying tu = some (.slice tr)) (hR : P.underlying tr = some (.struct #[r0, r1]))
    (cS : P.cellsOf t = 2) (cG : P.cellsOf tg = 1) (cU : P.cellsOf tu = 1) (cR : P.cellsOf tr = 2) (ci : P.cellsOf ts = 1) (hf0 : f0.type = tg) (of0 : f0.offset = 0) (hf1 : f1.type = tu) (of1 : f1.offset = 1) (hg0 : g0.type = ts) (og0 : g0.offset = 0)
    (hr0 : r0.type = ts) (or0 : r0.offset = 0) (hr1 : r1.type = ts) (or1 : r1.offset = 1) (ht : P.underlying ts = some (.slice e)) (he : P.underlying e = some (.int .i64)) (hc : P.cellsOf e = 1)
    (hv : Value.okWide P W r b0 t v) (h : DataW.Trod enc P W base (fun _ => true) held t v d p) : ∃ A n c zs B m d' x, v = .agg #[.slice A n c, .slice B m d'] ∧ RI W A n zs ∧ n ≤ maxLen ∧ RU W B m x ∧ m ≤ maxLen := by
  obtain ⟨cs, rfl, hsz⟩ := okWide_struct hS hv
  obtain ⟨l⟩ := cs
  match l, hsz.trans cS with
  | [c0, c1], _ =>
    obtain ⟨fuel, hf⟩ := h
    obtain ⟨xs, n, _, hx, _, hlen, hg⟩ := DataW.trod_struct hS hf
    match xs, hlen with
    | [y0, y1], _ =>
      have h0 := hg 0 f0 rfl
      have h1 := hg 1 f1 rfl
      rw [hf0, of0, cG] at h0
      rw [hf1, of1, cU] at h1
      obtain ⟨xs2, n2, _, hx2, _, hlen2, hg2⟩ := DataW.trod_struct hG h0
      match xs2, hlen2 with
      | [z0], _ =>
        have h2 := hg2 0 g0 rfl
        rw [hg0, og0, ci] at h2
        obtain ⟨A, n, c, zs, hcs, hR1, hn⟩ := read_slice64 ht he hc h2
        obtain ⟨B, m, d', x, hcs2, hR2, hm⟩ := read_rules hU hR cR hr0 or0 hr1 or1 ci ht he hc h1
        have e0 : c0 = .slice A n c := by simpa [Value.cells] using hcs
        have e1 : c1 = .slice B m d' := by simpa [Value.cells] using hcs2
        subst e0 e1
        exact ⟨A, n, c, zs, B, m, d', x, rfl, hR1, hn, hR2, hm⟩
end
end Go.Proofs.Ytcjgcopkeeiicaa
