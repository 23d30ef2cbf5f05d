/- Contracts: counting; linear terms. -/
import Derived.Test.YtcjgcopkeeiicaaTerm2
import Derived.Test.YtcjgcopkeeiicaaCmp
namespace Go.Proofs.Ytcjgcopkeeiicaa
open Go.RowKit
set_option linter.unusedVariables false

theorem cnt_le (xs : List Int) (v : Int) (k : Nat) : (xs.take k).count v ≤ k := by
  have h1 := List.count_le_length (a := v) (l := xs.take k)
  have h2 := List.length_take_le k xs
  omega
theorem cnt_no {xs : List Int} {v x : Int} {k : Nat} (hk : k < xs.length) (hx : x = xs.getD k 0) (h : (x == v) = false) : (xs.take (k + 1)).count v = (xs.take k).count v := by
  rw [List.getD_eq_getElem?_getD, List.getElem?_eq_getElem hk, Option.getD_some] at hx
  rw [List.take_succ_eq_append_getElem hk, List.count_append, ← hx]
  simp [List.count_cons, h]
theorem cnt_yes {xs : List Int} {v x : Int} {k : Nat} (hk : k < xs.length) (hx : x = xs.getD k 0) (h : (x == v) = true) : (xs.take (k + 1)).count v = (xs.take k).count v + 1 := by
  rw [List.getD_eq_getElem?_getD, List.getElem?_eq_getElem hk, Option.getD_some] at hx
  rw [List.take_succ_eq_append_getElem hk, List.count_append, ← hx]
  simp [List.count_cons, h]

def countOf (xs t : List Int) (v : Int) : Int := if Pl.termOk xs t then (t.count v : Nat) else 0
theorem countOf_no {xs t : List Int} {v : Int} (h : Pl.termOk xs t = false) : countOf xs t v = 0 := by unfold countOf; rw [h]; rfl
theorem countOf_yes {xs t : List Int} {v : Int} (h : Pl.termOk xs t = true) : countOf xs t v = (t.count v : Nat) := by unfold countOf; rw [h]; rfl
/-- No variable stands twice among the first k numbers. -/
def linTo (t : List Int) (k : Nat) : Bool := (List.range k).all fun i => !(decide (t.getD i 0 < 0) && (t.take i).contains (t.getD i 0))
def lin2 (t : List Int) (k : Nat) : Bool := (List.range k).all fun i => !(decide (t.getD i 0 < 0) && decide (1 < t.count (t.getD i 0)))
theorem lin_eq (t : List Int) : lin2 t t.length = linTo t t.length := by
  have hg : ∀ i (h : i < t.length), t.getD i 0 = t[i] := fun i h => by simp [List.getD_eq_getElem?_getD, h]
  have key : (∃ i, i < t.length ∧ t.getD i 0 < 0 ∧ t.getD i 0 ∈ t.take i) ↔ (∃ i, i < t.length ∧ t.getD i 0 < 0 ∧ 1 < t.count (t.getD i 0)) := by
    constructor
    · rintro ⟨i, hi, h0, hm⟩
      refine ⟨i, hi, h0, ?_⟩
      have h1 : 1 ≤ (t.take i).count (t.getD i 0) := List.count_pos_iff.2 hm
      have h2 : 1 ≤ (t.drop i).count (t.getD i 0) := List.count_pos_iff.2 (by rw [hg i hi, List.drop_eq_getElem_cons hi]; exact List.mem_cons_self)
      have h3 : t.count (t.getD i 0) = (t.take i).count (t.getD i 0) + (t.drop i).count (t.getD i 0) := by rw [← List.count_append, List.take_append_drop]
      omega
    · rintro ⟨i, hi, h0, hc⟩
      refine Classical.byContradiction fun hno => ?_
      have hle : ∀ k, k ≤ t.length → (t.take k).count (t.getD i 0) ≤ 1 := by
        intro k
        induction k with
        | zero => intro _; simp
        | succ k ih =>
          intro hk
          have hkl : k < t.length := by omega
          rw [List.take_succ_eq_append_getElem hkl, List.count_append]
          by_cases he : t[k] = t.getD i 0
          · have hn : t.getD i 0 ∉ t.take k := fun hm => hno ⟨k, hkl, by rw [hg k hkl, he]; exact h0, by rw [hg k hkl, he]; exact hm⟩
            have h0 := List.count_eq_zero.2 hn
            rw [he, h0]
            simp
          · have := ih (by omega)
            have h1 : [t[k]].count (t.getD i 0) = 0 := List.count_eq_zero.2 (by simp only [List.mem_singleton]; exact fun e => he e.symm)
            omega
      have := hle t.length (Nat.le_refl _)
      rw [List.take_length] at this
      omega
  rw [Bool.eq_iff_iff]
  simp only [lin2, linTo, List.all_eq_true, List.mem_range, Bool.not_eq_true', Bool.and_eq_false_iff, decide_eq_false_iff_not]
  constructor
  · intro h i hi
    refine Classical.byContradiction fun hc => ?_
    simp only [not_or, Decidable.not_not, Bool.not_eq_false, List.contains_iff_mem] at hc
    obtain ⟨j, hj, h1, h2⟩ := key.1 ⟨i, hi, hc⟩
    rcases h j hj with h3 | h3 <;> omega
  · intro h i hi
    refine Classical.byContradiction fun hc => ?_
    simp only [not_or, Decidable.not_not] at hc
    obtain ⟨j, hj, h1, h2⟩ := key.2 ⟨i, hi, hc⟩
    rcases h j hj with h3 | h3
    · omega
    · rw [← Bool.not_eq_true, List.contains_iff_mem] at h3; exact h3 h2

def linearIn (xs t : List Int) : Bool := Pl.termOk xs t && linTo t t.length
theorem linearIn_no {xs t : List Int} (h : Pl.termOk xs t = false) : linearIn xs t = false := by unfold linearIn; rw [h]; rfl
theorem linearIn_yes {xs t : List Int} {m : Nat} (hl : t.length = m) (h : Pl.termOk xs t = true) : linearIn xs t = linTo t m := by unfold linearIn; rw [h, hl]; rfl
end Go.Proofs.Ytcjgcopkeeiicaa
