/- Plain: the order of terms. -/
import Derived.Test.YtihgolhpdnoooaaPlainB
namespace Go.Proofs.Ytihgolhpdnoooaa.Pl
set_option linter.unusedVariables false
theorem cmpL_refl : ∀ (a : List Int), cmpL a a = 0
  | [] => rfl
  | x :: xs => by simp [cmpL, cmpL_refl xs]
theorem cmpL_eq : ∀ {a b : List Int}, cmpL a b = 0 → a = b
  | [], [], _ => rfl
  | [], _ :: _, h => by simp [cmpL] at h
  | _ :: _, [], h => by simp [cmpL] at h
  | x :: xs, y :: ys, h => by
    simp only [cmpL] at h
    split at h
    · simp at h
    · split at h
      · simp at h
      · rw [cmpL_eq h, show x = y by omega]
theorem cmpL_neg : ∀ (a b : List Int), cmpL b a = - cmpL a b
  | [], [] => rfl
  | [], _ :: _ => rfl
  | _ :: _, [] => rfl
  | x :: xs, y :: ys => by
    simp only [cmpL]
    by_cases h1 : x < y
    · rw [if_pos h1, if_neg (by omega), if_pos h1]; rfl
    · by_cases h2 : y < x
      · rw [if_pos h2, if_neg h1, if_pos h2]
      · rw [if_neg h1, if_neg h2, if_neg h2, if_neg h1, cmpL_neg xs ys]
theorem cmpL_trans : ∀ {a b c : List Int}, cmpL a b < 0 → cmpL b c < 0 → cmpL a c < 0
  | [], [], _, h, _ => by simp [cmpL] at h
  | [], _ :: _, [], _, h => by simp [cmpL] at h
  | [], _ :: _, _ :: _, _, _ => by simp [cmpL]
  | _ :: _, [], _, h, _ => by simp [cmpL] at h
  | _ :: _, _ :: _, [], _, h => by simp [cmpL] at h
  | x :: xs, y :: ys, z :: zs, h1, h2 => by
    simp only [cmpL] at h1 h2 ⊢
    by_cases a1 : x < y
    · by_cases a2 : y < z
      · rw [if_pos (by omega)]; omega
      · rw [if_neg a2] at h2
        by_cases a3 : z < y
        · rw [if_pos a3] at h2; omega
        · rw [if_pos (by omega)]; omega
    · rw [if_neg a1] at h1
      by_cases a3 : y < x
      · rw [if_pos a3] at h1; omega
      · rw [if_neg a3] at h1
        obtain rfl : x = y := by omega
        by_cases a2 : x < z
        · rw [if_pos a2]; omega
        · rw [if_neg a2] at h2 ⊢
          by_cases a4 : z < x
          · rw [if_pos a4] at h2; omega
          · rw [if_neg a4] at h2 ⊢
            exact cmpL_trans h1 h2
theorem lessT_same {a b : List Int} (h : a.length = b.length) : lessT a b = decide (cmpL a b < 0) := by unfold lessT; rw [if_neg (by omega)]
theorem lessT_diff {a b : List Int} (h : a.length ≠ b.length) : lessT a b = decide (a.length < b.length) := by unfold lessT; rw [if_pos h]
/-- Of two lists just one holds: less, greater, the same. -/
theorem less_three (a b : List Int) : (if lessT a b = true then (1 : Int) else 0) + (if lessT b a = true then 1 else 0) + (if a = b then 1 else 0) = 1 := by
  by_cases hl : a.length = b.length
  · rw [lessT_same hl, lessT_same hl.symm]
    have hn := cmpL_neg a b
    by_cases he : a = b
    · subst he
      rw [cmpL_refl]; simp
    · have h0 : cmpL a b ≠ 0 := fun h => he (cmpL_eq h)
      rw [if_neg he, hn]
      rcases Int.lt_or_lt_of_ne h0 with h | h
      · have e1 : decide (cmpL a b < 0) = true := by simpa using h
        have e2 : decide (-cmpL a b < 0) = false := by simp; omega
        rw [e1, e2]; rfl
      · have e1 : decide (cmpL a b < 0) = false := by simp; omega
        have e2 : decide (-cmpL a b < 0) = true := by simp; omega
        rw [e1, e2]; rfl
  · rw [lessT_diff hl, lessT_diff (fun h => hl h.symm), if_neg (show ¬ a = b from fun h => hl (by rw [h]))]
    rcases Nat.lt_or_gt_of_ne hl with h | h
    · have e1 : decide (a.length < b.length) = true := by simpa using h
      have e2 : decide (b.length < a.length) = false := by simp; omega
      rw [e1, e2]; rfl
    · have e1 : decide (a.length < b.length) = false := by simp; omega
      have e2 : decide (b.length < a.length) = true := by simpa using h
      rw [e1, e2]; rfl
theorem less_trans {a b c : List Int} (h1 : lessT a b = true) (h2 : lessT b c = true) : lessT a c = true := by
  unfold lessT at *
  by_cases l1 : a.length = b.length
  · rw [if_neg (by omega)] at h1
    by_cases l2 : b.length = c.length
    · rw [if_neg (by omega)] at h2 ⊢
      rw [decide_eq_true_eq] at *
      exact cmpL_trans h1 h2
    · rw [if_pos l2] at h2
      rw [if_pos (by omega)]
      rw [decide_eq_true_eq] at *
      omega
  · rw [if_pos l1] at h1
    rw [decide_eq_true_eq] at h1
    by_cases l2 : b.length = c.length
    · rw [if_pos (by omega), decide_eq_true_eq]; omega
    · rw [if_pos l2, decide_eq_true_eq] at h2
      rw [if_pos (by omega), decide_eq_true_eq]; omega
/-- How many of a list's numbers lie from lo on, k of them. -/
def cntIn (t : List Int) (lo : Int) (k : Nat) : Nat := (t.filter fun x => decide (lo ≤ x ∧ x < lo + k)).length
theorem cntIn_zero (t : List Int) (lo : Int) : cntIn t lo 0 = 0 := by
  unfold cntIn
  rw [List.filter_eq_nil_iff.2 (by intro x _; simp)]; rfl
theorem cntIn_step : ∀ (t : List Int) (lo : Int) (k : Nat), cntIn t lo (k + 1) = cntIn t lo k + t.count (lo + k)
  | [], lo, k => rfl
  | x :: t, lo, k => by
    have ih := cntIn_step t lo k
    unfold cntIn at ih ⊢
    rw [List.filter_cons, List.filter_cons, List.count_cons]
    by_cases h1 : lo ≤ x ∧ x < lo + k
    · rw [if_pos (by simp; omega), if_pos (by simpa using h1)]
      have : (x == lo + (k : Int)) = false := by simp; omega
      rw [this]
      simp only [List.length_cons, Bool.false_eq_true, if_false]
      omega
    · rw [if_neg (show ¬ (decide (lo ≤ x ∧ x < lo + k) = true) by simpa using h1)]
      by_cases h2 : x = lo + k
      · rw [if_pos (by simp; omega)]
        have : (x == lo + (k : Int)) = true := by simpa using h2
        rw [this]
        simp only [List.length_cons, if_true]
        omega
      · rw [if_neg (by simp; omega)]
        have : (x == lo + (k : Int)) = false := by simpa using h2
        rw [this]
        simp only [Bool.false_eq_true, if_false]
        omega
theorem cntIn_all {ar t : List Int} (h : termOk ar t = true) : cntIn t (-24) 32 = t.length := by
  unfold cntIn
  rw [List.filter_eq_self.2 (by intro x hx; have := termOk_bd h x hx; simp; omega)]
end Go.Proofs.Ytihgolhpdnoooaa.Pl
