/- What a slice of bytes that can be read as data looks like in memory; the end of a law over bytes. -/
import Derived.Test.YtlcchafcgidpeaaGreatDoorOpen
import Derived.Test.YtlcchafcgidpeaaGreatDoorDraw
namespace Go.Proofs.YtlcchafcgidpeaaGreatDoor
open Go.RowKit Go.ChangeShapes Go.WideShapes Go.Deep
set_option linter.unusedVariables false
set_option linter.unusedSimpArgs false

section
variable {H : Type} {enc : TypeId × Value → H} {P : Program} {W : World} {base : Nat} {spare : Nat → Bool} {held : Bool}

theorem open_raw {r : Reach} {b0 : Nat} {t e : TypeId} {v : Value} {d : DataW H} {p : List MemPlace} (ht : P.underlying t = some (.slice e)) (he : P.underlying e = some (.int .u8)) (hc : P.cellsOf e = 1)
    (hv : Value.okWide P W r b0 t v) (h : DataW.Trod enc P W base spare held t v d p) : ∃ A n c, v = .slice A n c ∧ BI W A n ∧ n ≤ maxLen := by
  obtain ⟨a0, len, cap, rfl⟩ := okWide_slice ht hv
  obtain ⟨fuel, hf⟩ := h
  rcases open_ints ht he hc hf with ⟨hcs, _⟩ | ⟨a, l, c, zs, hcs, _, hl, hm, hz, _, hcell, hwf⟩
  · simp only [Value.cells, List.cons.injEq, and_true] at hcs
    exact ⟨none, 0, 0, by simpa using hcs, fun h => by omega, by simp [maxLen]⟩
  · have hlz : l ≤ zs.length := by rw [hz]; split <;> omega
    simp only [Value.cells, List.cons.injEq, and_true] at hcs
    refine ⟨some a, l, c, by simpa using hcs, fun h0 => ?_, by omega⟩
    obtain ⟨b, off, spot⟩ := a
    have hc0 := hcell 0 (by omega)
    have hspot : spot = none := by simpa [Addr.add] using World.cell?_spot hc0
    subst hspot
    refine ⟨b, off, rfl, fun k hk => ⟨zs.getD k 0, ?_, ?_⟩⟩
    · have := hcell k (by omega)
      have e1 : (⟨b, off, none⟩ : Addr).add k = ⟨b, off + k, none⟩ := by unfold Addr.add; split <;> simp_all
      rw [e1] at this
      exact this
    · have hk' : k < zs.length := by omega
      have := hwf (zs.getD k 0) (by rw [List.getD_eq_getElem?_getD, List.getElem?_eq_getElem hk', Option.getD_some]; exact List.getElem_mem hk')
      simp [Lit.wf, IntKind.min, IntKind.max, IntKind.signed, IntKind.bits] at this ⊢
      omega
end
end Go.Proofs.YtlcchafcgidpeaaGreatDoor
