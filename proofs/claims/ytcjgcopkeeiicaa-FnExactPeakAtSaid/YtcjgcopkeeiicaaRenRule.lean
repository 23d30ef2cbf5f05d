/- Contracts: rules with their variables renumbered. -/
import Derived.Test.YtcjgcopkeeiicaaRenum
import Derived.Test.YtcjgcopkeeiicaaRuleOk
import Derived.Deep.RegionHeld3
namespace Go.Proofs.Ytcjgcopkeeiicaa
open Go.RowKit
set_option linter.unusedVariables false

/-- A rule's right side, its variables renumbered by the left side. -/
def rnR (l r : List Int) : List Int := r.map (rn (ord [] l))
theorem rnR_len (l r : List Int) : (rnR l r).length = r.length := by simp [rnR]
theorem ruleOk_vars {xs l r : List Int} (h : ruleOk xs l r = true) : ∀ x ∈ r, x < 0 → x ∈ ord [] l := by
  unfold ruleOk at h
  simp only [Bool.and_eq_true] at h
  have h2 := h.2
  unfold rvTo at h2
  rw [List.all_eq_true] at h2
  intro x hx h0
  obtain ⟨k, hk, rfl⟩ := List.mem_iff_getElem.1 hx
  have h3 := h2 k (by simpa using hk)
  have e : r.getD k 0 = r[k] := by rw [List.getD_eq_getElem?_getD, List.getElem?_eq_getElem hk, Option.getD_some]
  rw [e] at h3
  simp only [Bool.not_eq_true', Bool.and_eq_false_iff, decide_eq_false_iff_not, Bool.not_eq_false'] at h3
  rcases h3 with h3 | h3
  · omega
  · exact ord_map l _ (by simpa using h3) h0
theorem ruleOk_lens {xs l r : List Int} (h : ruleOk xs l r = true) : l.length ≤ 60 ∧ r.length ≤ 60 := by
  unfold ruleOk at h
  simp only [Bool.and_eq_true] at h
  exact ⟨(Pl.termOk_iff.1 h.1.1.1).2.1.2, (Pl.termOk_iff.1 h.1.1.2).2.1.2⟩
theorem ren_two {l r : List Int} (h : ∀ x ∈ r, x < 0 → x ∈ ord [] l) : ren [l, r] 2 = [rnT l, rnR l r] := by
  have e : ord [] (l ++ r) = ord [] l := by rw [ord_app, ord_same h]
  simp [ren, flat, e, rnT, rnR]
def V_RenamedRule (xs l r : List Int) : List Int × List Int := if ruleOk xs l r then (rnT l, rnR l r) else ([], [])
theorem renRule_no {xs l r : List Int} (h : ruleOk xs l r = false) : V_RenamedRule xs l r = ([], []) := by unfold V_RenamedRule; rw [h]; rfl
theorem renRule_yes {xs l r : List Int} (h : ruleOk xs l r = true) : V_RenamedRule xs l r = (rnT l, rnR l r) := by unfold V_RenamedRule; rw [h]; rfl
theorem bd_RenamedRule (xs l r : List Int) : (V_RenamedRule xs l r).1.length + (V_RenamedRule xs l r).2.length ≤ 120 := by
  unfold V_RenamedRule
  split
  · rename_i h
    have := ruleOk_lens h
    show (rnT l).length + (rnR l r).length ≤ 120
    rw [rnT_len, rnR_len]; omega
  · simp
theorem rows_two {w : World} {B : Nat} {A : Option Addr} {c : Nat} {rs : List (Option Addr × Nat)} {x0 x1 : List Int} (h : w.ownsRow B 22 1 (.slice A 2 c) 2 (List.zipWith rowV rs [x0, x1])) (hr : Rows w B rs [x0, x1]) :
    ∃ g L c1 R c2, A = some ⟨g, 0, none⟩ ∧ w.cell? ⟨g, 0, none⟩ = some (.slice L x0.length c1) ∧ w.cell? ⟨g, 1, none⟩ = some (.slice R x1.length c2) ∧ OI w B L x0.length c1 x0 ∧ OI w B R x1.length c2 x1 ∧ (∀ b, blk L = some b → blk R ≠ some b) ∧ B ≤ g := by
  match rs, hr.1 with
  | [r0, r1], _ =>
    rcases h.2 with ⟨_, h0⟩ | ⟨g, cap, cur, hv, hB, _⟩
    · omega
    · simp only [Value.slice.injEq] at hv
      obtain ⟨rfl, _, rfl⟩ := hv
      have hc0 := h.cellAt 0 (by omega)
      have hc1 := h.cellAt 1 (by omega)
      exact ⟨g, r0.1, r0.2, r1.1, r1.2, rfl, by simpa [rowV] using hc0, by simpa [rowV] using hc1, hr.2.1 0 (by simp), hr.2.1 1 (by simp), hr.2.2 0 1 (by omega) (by simp), hB⟩
end Go.Proofs.Ytcjgcopkeeiicaa
