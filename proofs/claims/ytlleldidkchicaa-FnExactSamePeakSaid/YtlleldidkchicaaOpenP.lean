/- What a peak that can be read as data looks like in memory. -/
import Derived.Test.YtlleldidkchicaaOpen
namespace Go.Proofs.Ytlleldidkchicaa
open Go.RowKit Go.ChangeShapes Go.WideShapes Go.Deep
set_option linter.unusedVariables false

section
variable {H : Type} {enc : TypeId × Value → H} {P : Program} {W : World} {base : Nat} {spare : Nat → Bool} {held : Bool}

theorem read_int64 {t : TypeId} {fuel : Nat} {cs : List Value} {x : DataW H × List MemPlace} (ht : P.underlying t = some (.int .i64)) (h : DataW.trod enc P W base spare held fuel t cs = some x) : ∃ n, cs = [.int .i64 n] := by
  obtain ⟨n, hcs, _, _⟩ := DataW.trod_int ht h
  exact ⟨n, hcs⟩

/-- A struct of three slices of numbers and three numbers, by value. -/
theorem open_peak {r : Reach} {b0 : Nat} {t s e : TypeId} {f0 f1 f2 f3 f4 f5 : Field} {v : Value} {d : DataW H} {p : List MemPlace} (hs : P.underlying t = some (.struct #[f0, f1, f2, f3, f4, f5])) (hC : P.cellsOf t = 6)
    (hf0 : f0.type = s) (ho0 : f0.offset = 0) (hf1 : f1.type = s) (ho1 : f1.offset = 1) (hf2 : f2.type = s) (ho2 : f2.offset = 2) (hf3 : f3.type = e) (ho3 : f3.offset = 3) (hf4 : f4.type = e) (ho4 : f4.offset = 4) (hf5 : f5.type = e) (ho5 : f5.offset = 5) (hk : P.cellsOf s = 1)
    (ht : P.underlying s = some (.slice e)) (he : P.underlying e = some (.int .i64)) (hc : P.cellsOf e = 1)
    (hv : Value.okWide P W r b0 t v) (h : DataW.Trod enc P W base spare held t v d p) : ∃ A0 n0 c0 z0 A1 n1 c1 z1 A2 n2 c2 z2 p3 p4 p5, v = .agg #[.slice A0 n0 c0, .slice A1 n1 c1, .slice A2 n2 c2, .int .i64 p3, .int .i64 p4, .int .i64 p5] ∧ RI W A0 n0 z0 ∧ n0 ≤ maxLen ∧ RI W A1 n1 z1 ∧ n1 ≤ maxLen ∧ RI W A2 n2 z2 ∧ n2 ≤ maxLen := by
  obtain ⟨cs, rfl, hsz⟩ := okWide_struct hs hv
  obtain ⟨l⟩ := cs
  match l, hsz.trans hC with
  | [c0, c1, c2, c3, c4, c5], _ =>
    obtain ⟨fuel, hf⟩ := h
    obtain ⟨xs, n, _, hx, _, hlen, hg⟩ := DataW.trod_struct hs hf
    match xs, hlen with
    | [y0, y1, y2, y3, y4, y5], _ =>
      have h0 := hg 0 f0 rfl
      have h1 := hg 1 f1 rfl
      have h2 := hg 2 f2 rfl
      have h3 := hg 3 f3 rfl
      have h4 := hg 4 f4 rfl
      have h5 := hg 5 f5 rfl
      rw [hf0, ho0, hk] at h0
      rw [hf1, ho1, hk] at h1
      rw [hf2, ho2, hk] at h2
      rw [hf3, ho3, hc] at h3
      rw [hf4, ho4, hc] at h4
      rw [hf5, ho5, hc] at h5
      obtain ⟨A0, n0, d0, z0, e0, R0, M0⟩ := read_slice64 ht he hc h0
      obtain ⟨A1, n1, d1, z1, e1, R1, M1⟩ := read_slice64 ht he hc h1
      obtain ⟨A2, n2, d2, z2, e2, R2, M2⟩ := read_slice64 ht he hc h2
      obtain ⟨p3, e3⟩ := read_int64 he h3
      obtain ⟨p4, e4⟩ := read_int64 he h4
      obtain ⟨p5, e5⟩ := read_int64 he h5
      have k0 : c0 = .slice A0 n0 d0 := by simpa [Value.cells] using e0
      have k1 : c1 = .slice A1 n1 d1 := by simpa [Value.cells] using e1
      have k2 : c2 = .slice A2 n2 d2 := by simpa [Value.cells] using e2
      have k3 : c3 = .int .i64 p3 := by simpa [Value.cells] using e3
      have k4 : c4 = .int .i64 p4 := by simpa [Value.cells] using e4
      have k5 : c5 = .int .i64 p5 := by simpa [Value.cells] using e5
      subst k0 k1 k2 k3 k4 k5
      exact ⟨A0, n0, d0, z0, A1, n1, d1, z1, A2, n2, d2, z2, p3, p4, p5, rfl, R0, M0, R1, M1, R2, M2⟩
end
end Go.Proofs.Ytlleldidkchicaa
