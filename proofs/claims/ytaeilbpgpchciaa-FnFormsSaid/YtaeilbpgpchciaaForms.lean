/- Plain: the properties of a system are those of its rules one by one. -/
import Derived.Test.YtaeilbpgpchciaaSysOk
import Derived.Test.YtaeilbpgpchciaaSysB
import Derived.Test.YtaeilbpgpchciaaSysC
import Derived.Test.YtaeilbpgpchciaaSysD
namespace Go.Proofs.Ytaeilbpgpchciaa
set_option linter.unusedVariables false

theorem range_all_list {α : Type} (x : List α) (d : α) (p : α → Bool) : ((List.range x.length).all fun i => p (x.getD i d)) = x.all p := by
  rw [Bool.eq_iff_iff, List.all_eq_true, List.all_eq_true]
  constructor
  · intro h r hr
    obtain ⟨i, hi, rfl⟩ := List.getElem_of_mem hr
    have := h i (by simpa using hi)
    simpa [List.getD_eq_getElem?_getD, hi] using this
  · intro h i hi
    have hi' : i < x.length := by simpa using hi
    have := h _ (List.getElem_mem hi')
    simpa [List.getD_eq_getElem?_getD, hi'] using this
theorem systemOk_one {xs : List Int} {x : List (List Int × List Int)} (h : systemOk xs x = true) {r : List Int × List Int} (hr : r ∈ x) : systemOk xs [r] = true := by
  unfold systemOk at h ⊢
  have e1 : syTo xs x x.length = x.all fun r => ruleOk xs r.1 r.2 := range_all_list x ([], []) fun r => ruleOk xs r.1 r.2
  have e2 : syTo xs [r] [r].length = [r].all fun r => ruleOk xs r.1 r.2 := range_all_list [r] ([], []) fun r => ruleOk xs r.1 r.2
  rw [e1] at h
  rw [e2]
  simp only [Bool.and_eq_true, List.all_eq_true] at h
  simp [h.1.1, h.2 r hr]
theorem leftLinear_one {xs : List Int} {x : List (List Int × List Int)} (h : systemOk xs x = true) : leftLinearIn xs x = x.all fun r => leftLinearIn xs [r] := by
  have e : ∀ y : List (List Int × List Int), llTo y y.length = y.all fun r => linTo r.1 r.1.length := fun y => range_all_list y ([], []) fun r => linTo r.1 r.1.length
  unfold leftLinearIn
  rw [e, h, Bool.true_and, Bool.eq_iff_iff, List.all_eq_true, List.all_eq_true]
  constructor
  · intro k r hr; rw [systemOk_one h hr, e]; simp [k r hr]
  · intro k r hr; have := k r hr; rw [systemOk_one h hr, e] at this; simpa using this
theorem duplicating_one {xs : List Int} {x : List (List Int × List Int)} (h : systemOk xs x = true) : duplicatingIn xs x = x.any fun r => duplicatingIn xs [r] := by
  unfold duplicatingIn
  rw [h, Bool.true_and, Bool.eq_iff_iff, List.any_eq_true, List.any_eq_true]
  constructor
  · rintro ⟨r, hr, k⟩; exact ⟨r, hr, by rw [systemOk_one h hr]; simpa using k⟩
  · rintro ⟨r, hr, k⟩; exact ⟨r, hr, by rw [systemOk_one h hr] at k; simpa using k⟩
theorem collapsing_one {xs : List Int} {x : List (List Int × List Int)} (h : systemOk xs x = true) : collapsingIn xs x = x.any fun r => collapsingIn xs [r] := by
  unfold collapsingIn
  rw [h, Bool.true_and, Bool.eq_iff_iff, List.any_eq_true, List.any_eq_true]
  constructor
  · rintro ⟨r, hr, k⟩; exact ⟨r, hr, by rw [systemOk_one h hr]; simpa using k⟩
  · rintro ⟨r, hr, k⟩; exact ⟨r, hr, by rw [systemOk_one h hr] at k; simpa using k⟩
end Go.Proofs.Ytaeilbpgpchciaa
