/- What an argument that can be read as data looks like in memory. -/
import Derived.Test.YtcjgcopkeeiicaaMem
import Derived.ProofKit
import Derived.OpenShut
import Derived.ShutString
import Derived.ChangeOld
import Derived.Deep.Slices
import Derived.Deep.Fields
import Derived.Lib.SmallJoins
namespace Go.Proofs.Ytcjgcopkeeiicaa
open Go.RowKit Go.ChangeShapes Go.WideShapes Go.Deep
set_option linter.unusedVariables false

section
variable {H : Type} {enc : TypeId × Value → H} {P : Program} {W : World} {base : Nat} {spare : Nat → Bool} {held : Bool}

theorem read_slice64 {t e : TypeId} {fuel : Nat} {cs : List Value} {x : DataW H × List MemPlace} (ht : P.underlying t = some (.slice e)) (he : P.underlying e = some (.int .i64)) (hc : P.cellsOf e = 1)
    (h : DataW.trod enc P W base spare held fuel t cs = some x) : ∃ A n c zs, cs = [.slice A n c] ∧ RI W A n zs ∧ n ≤ maxLen := by
  rcases open_ints ht he hc h with ⟨hcs, _⟩ | ⟨a, l, c, zs, hcs, _, hl, hm, hz, _, hcell, _⟩
  · exact ⟨none, 0, 0, [], hcs, ⟨rfl, fun h => by omega⟩, by simp [maxLen]⟩
  · have hlz : l ≤ zs.length := by rw [hz]; split <;> omega
    refine ⟨some a, l, c, zs.take l, hcs, ⟨by rw [List.length_take]; omega, fun h0 => ?_⟩, by omega⟩
    obtain ⟨b, off, spot⟩ := a
    have hc0 := hcell 0 (by omega)
    have hspot : spot = none := by simpa [Addr.add] using World.cell?_spot hc0
    subst hspot
    refine ⟨b, off, rfl, fun k hk => ?_⟩
    have := hcell k (by omega)
    have e1 : (⟨b, off, none⟩ : Addr).add k = ⟨b, off + k, none⟩ := by unfold Addr.add; split <;> simp_all
    rw [e1] at this
    rw [this]
    simp [List.getD_eq_getElem?_getD, hk]

theorem open_slice64 {r : Reach} {b0 : Nat} {t e : TypeId} {v : Value} {d : DataW H} {p : List MemPlace} (ht : P.underlying t = some (.slice e)) (he : P.underlying e = some (.int .i64)) (hc : P.cellsOf e = 1)
    (hv : Value.okWide P W r b0 t v) (h : DataW.Trod enc P W base spare held t v d p) : ∃ A n c zs, v = .slice A n c ∧ RI W A n zs ∧ n ≤ maxLen := by
  obtain ⟨a0, len, cap, rfl⟩ := okWide_slice ht hv
  obtain ⟨fuel, hf⟩ := h
  obtain ⟨A, n, c, zs, hcs, hR, hn⟩ := read_slice64 ht he hc hf
  simp only [Value.cells, List.cons.injEq, and_true] at hcs
  exact ⟨A, n, c, zs, by simpa using hcs, hR, hn⟩

/-- A struct of one slice of numbers, by value. -/
theorem open_one {r : Reach} {b0 : Nat} {t s e : TypeId} {f0 : Field} {v : Value} {d : DataW H} {p : List MemPlace} (hs : P.underlying t = some (.struct #[f0])) (hC : P.cellsOf t = 1) (hf0 : f0.type = s) (ho : f0.offset = 0) (hk : P.cellsOf s = 1)
    (ht : P.underlying s = some (.slice e)) (he : P.underlying e = some (.int .i64)) (hc : P.cellsOf e = 1)
    (hv : Value.okWide P W r b0 t v) (h : DataW.Trod enc P W base spare held t v d p) : ∃ A n c zs, v = .agg #[.slice A n c] ∧ RI W A n zs ∧ n ≤ maxLen := by
  obtain ⟨cs, rfl, hsz⟩ := okWide_struct hs hv
  obtain ⟨l⟩ := cs
  match l, hsz.trans hC with
  | [c0], _ =>
    obtain ⟨fuel, hf⟩ := h
    obtain ⟨xs, n, _, hx, _, hlen, hg⟩ := DataW.trod_struct hs hf
    match xs, hlen with
    | [y0], _ =>
      have h0 := hg 0 f0 rfl
      rw [hf0, ho, hk] at h0
      obtain ⟨A, n, c, zs, hcs, hR, hn⟩ := read_slice64 ht he hc h0
      have : c0 = .slice A n c := by simpa [Value.cells] using hcs
      subst this
      exact ⟨A, n, c, zs, rfl, hR, hn⟩

/-- A struct of two slices of numbers, by value. -/
theorem open_two {r : Reach} {b0 : Nat} {t s e : TypeId} {f0 f1 : Field} {v : Value} {d : DataW H} {p : List MemPlace} (hs : P.underlying t = some (.struct #[f0, f1])) (hC : P.cellsOf t = 2) (hf0 : f0.type = s) (ho0 : f0.offset = 0) (hf1 : f1.type = s) (ho1 : f1.offset = 1) (hk : P.cellsOf s = 1)
    (ht : P.underlying s = some (.slice e)) (he : P.underlying e = some (.int .i64)) (hc : P.cellsOf e = 1)
    (hv : Value.okWide P W r b0 t v) (h : DataW.Trod enc P W base spare held t v d p) : ∃ A n c zs B m d' ys, v = .agg #[.slice A n c, .slice B m d'] ∧ RI W A n zs ∧ n ≤ maxLen ∧ RI W B m ys ∧ m ≤ maxLen := by
  obtain ⟨cs, rfl, hsz⟩ := okWide_struct hs hv
  obtain ⟨l⟩ := cs
  match l, hsz.trans hC with
  | [c0, c1], _ =>
    obtain ⟨fuel, hf⟩ := h
    obtain ⟨xs, n, _, hx, _, hlen, hg⟩ := DataW.trod_struct hs hf
    match xs, hlen with
    | [y0, y1], _ =>
      have h0 := hg 0 f0 rfl
      have h1 := hg 1 f1 rfl
      rw [hf0, ho0, hk] at h0
      rw [hf1, ho1, hk] at h1
      obtain ⟨A, n, c, zs, hcs, hR, hn⟩ := read_slice64 ht he hc h0
      obtain ⟨B, m, d', ys, hcs1, hR1, hm⟩ := read_slice64 ht he hc h1
      have e0 : c0 = .slice A n c := by simpa [Value.cells] using hcs
      have e1 : c1 = .slice B m d' := by simpa [Value.cells] using hcs1
      subst e0 e1
      exact ⟨A, n, c, zs, B, m, d', ys, rfl, hR, hn, hR1, hm⟩
end
end Go.Proofs.Ytcjgcopkeeiicaa
