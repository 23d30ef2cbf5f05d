/- Contracts: a rule with a property among the rules of a system. -/
import Derived.Test.YtkmkopfkhpgagaaSysOk
namespace Go.Proofs.Ytkmkopfkhpgagaa
open Go.RowKit
set_option linter.unusedVariables false

theorem any_hit {x : List (List Int × List Int)} {p : List Int × List Int → Bool} {k : Nat} {t : List Int × List Int} (hk : k < x.length) (ht : t = x.getD k ([], [])) (h : p t = true) : x.any p = true := by
  rw [List.any_eq_true]
  rw [List.getD_eq_getElem?_getD, List.getElem?_eq_getElem hk, Option.getD_some] at ht
  exact ⟨t, by rw [ht]; exact List.getElem_mem hk, h⟩
theorem any_step {x : List (List Int × List Int)} {p : List Int × List Int → Bool} {k : Nat} {t : List Int × List Int} (hs : (x.take k).any p = false) (hk : k < x.length) (ht : t = x.getD k ([], [])) (h : p t = false) : (x.take (k + 1)).any p = false := by
  rw [takeU_snoc hk ht, List.any_append, hs]; simp [h]
theorem any_end {x : List (List Int × List Int)} {p : List Int × List Int → Bool} {n : Nat} (hl : x.length = n) (hs : (x.take n).any p = false) : x.any p = false := by
  rwa [List.take_of_length_le (by omega)] at hs
/-- A rule that ends in a variable. -/
def falls (t : List Int × List Int) : Bool := decide (t.2.getD 0 0 < 0)
def collapsingIn (xs : List Int) (x : List (List Int × List Int)) : Bool := systemOk xs x && x.any falls
theorem collapsing_no {xs : List Int} {x : List (List Int × List Int)} (h : systemOk xs x = false) : collapsingIn xs x = false := by unfold collapsingIn; rw [h]; rfl
theorem collapsing_yes {xs : List Int} {x : List (List Int × List Int)} (h : systemOk xs x = true) : collapsingIn xs x = x.any falls := by unfold collapsingIn; rw [h]; rfl
theorem rule_lens {xs : List Int} {x : List (List Int × List Int)} (h : systemOk xs x = true) {k : Nat} (hk : k < x.length) {l r : List Int} (ht : (l, r) = x.getD k ([], [])) : (1 ≤ l.length ∧ l.length ≤ 60) ∧ (1 ≤ r.length ∧ r.length ≤ 60) ∧ 0 ≤ l.getD 0 0 ∧ Pl.termOk xs l = true ∧ Pl.termOk xs r = true ∧ ruleOk xs l r = true := by
  have h1 := (systemOk_iff.1 h).2.2 k hk
  rw [← ht] at h1
  have h2 := h1
  unfold ruleOk at h1
  simp only [Bool.and_eq_true, decide_eq_true_eq] at h1
  exact ⟨(Pl.termOk_iff.1 h1.1.1.1).2.1, (Pl.termOk_iff.1 h1.1.1.2).2.1, h1.1.2, h1.1.1.1, h1.1.1.2, h2⟩
end Go.Proofs.Ytkmkopfkhpgagaa
