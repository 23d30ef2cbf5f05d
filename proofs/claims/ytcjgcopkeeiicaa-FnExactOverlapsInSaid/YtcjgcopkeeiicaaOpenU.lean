/- What a substitution that can be read as data looks like in memory. -/
import Derived.Test.YtcjgcopkeeiicaaOpen
import Derived.Test.YtcjgcopkeeiicaaMat
namespace Go.Proofs.Ytcjgcopkeeiicaa
open Go.RowKit Go.ChangeShapes Go.WideShapes Go.Deep
set_option linter.unusedVariables false

section
variable {H : Type} {enc : TypeId × Value → H} {P : Program} {W : World} {base : Nat} {held : Bool}

theorem read_rows {t e q : TypeId} {fuel : Nat} {cs : List Value} {x : DataW H × List MemPlace} (ht : P.underlying t = some (.slice e)) (ce : P.cellsOf e = 1) (he : P.underlying e = some (.slice q)) (hq : P.underlying q = some (.int .i64)) (cq : P.cellsOf q = 1)
    (h : DataW.trod enc P W base (fun _ => true) held fuel t cs = some x) : ∃ A n c zs, cs = [.slice A n c] ∧ RR W A n zs ∧ n ≤ maxLen := by
  rcases open_slice1 ht ce h with ⟨hcs, _⟩ | ⟨a, l, c, m, fuel', V, D, Pl, hcs, _, hl, hm, hmm, _, hx⟩
  · exact ⟨none, 0, 0, [], hcs, ⟨rfl, fun h => by omega⟩, by simp [maxLen]⟩
  · simp only [if_true] at hmm
    have hlm : l ≤ m := by omega
    have each : ∀ r, r < l → ∃ y : Option Addr × Nat × Nat × List Int, W.cell? (a.add r) = some (.slice y.1 y.2.1 y.2.2.1) ∧ RI W y.1 y.2.1 y.2.2.2 ∧ y.2.1 ≤ maxLen := by
      intro r hr
      obtain ⟨h1, h2⟩ := hx r (by omega)
      obtain ⟨A, n, c', zs, hv, hR, hn⟩ := read_slice64 he hq cq h2
      have e1 : V r = .slice A n c' := by simpa using hv
      exact ⟨(A, n, c', zs), by rw [h1, e1], hR, hn⟩
    obtain ⟨Y, hY⟩ := choose_lt (α := Option Addr × Nat × Nat × List Int) each
    refine ⟨some a, l, c, (List.range l).map fun r => (Y r).2.2.2, hcs, ⟨by simp, fun h0 => ?_⟩, by omega⟩
    obtain ⟨b, off, spot⟩ := a
    have hc0 := (hY 0 (by omega)).1
    have hspot : spot = none := by simpa [Addr.add] using World.cell?_spot hc0
    subst hspot
    refine ⟨b, off, rfl, fun k hk => ?_⟩
    obtain ⟨h1, h2, h3⟩ := hY k hk
    have e1 : (⟨b, off, none⟩ : Addr).add k = ⟨b, off + k, none⟩ := by unfold Addr.add; split <;> simp_all
    rw [e1] at h1
    unfold maxLen at h3
    refine ⟨_, _, _, h1, ?_, by omega⟩
    have e2 : ((List.range l).map fun r => (Y r).2.2.2).getD k [] = (Y k).2.2.2 := by
      simp [List.getD_eq_getElem?_getD, hk]
    rw [e2]; exact h2

/-- A struct of one slice of slices of numbers, by value. -/
theorem open_subst {r : Reach} {b0 : Nat} {t s q e : TypeId} {f0 : Field} {v : Value} {d : DataW H} {p : List MemPlace} (hs : P.underlying t = some (.struct #[f0])) (hC : P.cellsOf t = 1) (hf0 : f0.type = s) (ho : f0.offset = 0) (hk : P.cellsOf s = 1)
    (hss : P.underlying s = some (.slice q)) (cq : P.cellsOf q = 1) (ht : P.underlying q = some (.slice e)) (he : P.underlying e = some (.int .i64)) (hc : P.cellsOf e = 1)
    (hv : Value.okWide P W r b0 t v) (h : DataW.Trod enc P W base (fun _ => true) held t v d p) : ∃ A n c zs, v = .agg #[.slice A n c] ∧ RR W A n zs ∧ n ≤ maxLen := by
  obtain ⟨cs, rfl, hsz⟩ := okWide_struct hs hv
  obtain ⟨l⟩ := cs
  match l, hsz.trans hC with
  | [c0], _ =>
    obtain ⟨fuel, hf⟩ := h
    obtain ⟨xs, n, _, hx, _, hlen, hg⟩ := DataW.trod_struct hs hf
    match xs, hlen with
    | [y0], _ =>
      have h0 := hg 0 f0 rfl
      rw [hf0, ho, hk] at h0
      obtain ⟨A, n, c, zs, hcs, hR, hn⟩ := read_rows hss cq ht he hc h0
      have : c0 = .slice A n c := by simpa [Value.cells] using hcs
      subst this
      exact ⟨A, n, c, zs, rfl, hR, hn⟩
end
end Go.Proofs.Ytcjgcopkeeiicaa
