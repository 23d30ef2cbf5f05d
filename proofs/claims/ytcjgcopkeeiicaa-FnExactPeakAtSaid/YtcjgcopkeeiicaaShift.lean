/- Contracts: a term with greater variables. -/
import Derived.Test.YtcjgcopkeeiicaaAbove
import Derived.Test.YtcjgcopkeeiicaaCmp
import Derived.Test.YtcjgcopkeeiicaaCopy
import Derived.Test.YtcjgcopkeeiicaaTerm2
namespace Go.Proofs.Ytcjgcopkeeiicaa
open Go.RowKit
set_option linter.unusedVariables false

def sh (k x : Int) : Int := if x < 0 then x - k else x
theorem sh_sym {k x : Int} (h : ¬ x < 0) : sh k x = x := if_neg h
theorem sh_var {k x : Int} (h : x < 0) : sh k x = x - k := if_pos h
/-- None of the first j numbers becomes too small. -/
def shTo (k : Int) (t : List Int) (j : Nat) : Bool := (List.range j).all fun i => decide (-24 ≤ sh k (t.getD i 0))
def V_Shifted (xs t : List Int) (k : Int) : List Int × Bool := if Pl.termOk xs t && inB k 0 24 && shTo k t t.length then (t.map (sh k), true) else ([], false)
def shL (k : Int) (t : List Int) (n : Nat) : List Int := if shTo k t n then t.map (sh k) else []
theorem shL_no {k : Int} {t : List Int} {n : Nat} (h : shTo k t n = false) : shL k t n = [] := by unfold shL; rw [h]; rfl
theorem shL_yes {k : Int} {t : List Int} {n : Nat} (h : shTo k t n = true) : shL k t n = t.map (sh k) := by unfold shL; rw [h]; rfl
theorem shifted_no {xs t : List Int} {k : Int} (h : (Pl.termOk xs t && inB k 0 24 && shTo k t t.length) = false) : V_Shifted xs t k = ([], false) := by unfold V_Shifted; rw [h]; rfl
theorem shifted_yes {xs t : List Int} {k : Int} (h : (Pl.termOk xs t && inB k 0 24 && shTo k t t.length) = true) : V_Shifted xs t k = (t.map (sh k), true) := by unfold V_Shifted; rw [h]; rfl
theorem bd_Shifted (xs t : List Int) (k : Int) : (V_Shifted xs t k).1.length ≤ 60 := by
  unfold V_Shifted
  split
  · rename_i h
    simp only [Bool.and_eq_true] at h
    have := (Pl.termOk_iff.1 h.1.1).2.1
    simpa using this.2
  · simp
theorem shTo_bad {k : Int} {t : List Int} {j m : Nat} {x : Int} (hj : j < m) (hx : x = t.getD j 0) (h : sh k x < -24) : shTo k t m = false :=
  range_all_stop hj (by rw [← hx]; simpa using h)
theorem shTo_ok {k : Int} {t : List Int} {j : Nat} {x : Int} (ht : shTo k t j = true) (hx : x = t.getD j 0) (h : ¬ sh k x < -24) : shTo k t (j + 1) = true :=
  range_all_step ht (by rw [← hx]; simp; omega)
theorem shMap_step {k : Int} {t : List Int} {j : Nat} {x : Int} (hj : j < t.length) (hx : x = t.getD j 0) : (t.take (j + 1)).map (sh k) = (t.take j).map (sh k) ++ [sh k x] := by
  rw [List.take_succ_eq_append_getElem hj, List.map_append]
  simp [hx, List.getD_eq_getElem?_getD, List.getElem?_eq_getElem hj]
/-- What stands in the copy behind j rounds. -/
def shMid (k : Int) (t : List Int) (j : Nat) : List Int := (t.take j).map (sh k) ++ t.drop j
theorem shMid_len (k : Int) (t : List Int) (j : Nat) (h : j ≤ t.length) : (shMid k t j).length = t.length := by
  unfold shMid; simp; omega
theorem shMid_at (k : Int) (t : List Int) (j : Nat) (h : j < t.length) : (shMid k t j).getD j 0 = t.getD j 0 := by
  unfold shMid
  simp only [List.getD_eq_getElem?_getD]
  rw [List.getElem?_append_right (by simp; omega)]
  simp
  congr 2
  omega
theorem shMid_set (k : Int) (t : List Int) (j : Nat) (h : j < t.length) : (shMid k t j).set j (sh k (t.getD j 0)) = shMid k t (j + 1) := by
  unfold shMid
  have hl : ((t.take j).map (sh k)).length = j := by simp; omega
  rw [List.set_append_right _ _ (by omega), hl, Nat.sub_self, List.drop_eq_getElem_cons h, List.set_cons_zero, shMap_step h rfl, List.append_assoc]
  rfl
theorem shMid_sym (k : Int) (t : List Int) (j : Nat) {x : Int} (h : j < t.length) (hx : x = t.getD j 0) (h0 : ¬ x < 0) : shMid k t (j + 1) = shMid k t j := by
  have h1 := shMid_set k t j h
  rw [← hx, sh_sym h0, hx, ← shMid_at k t j h] at h1
  rw [← h1]
  have hl := shMid_len k t j (by omega)
  simp only [List.getD_eq_getElem?_getD]
  rw [List.getElem?_eq_getElem (by omega)]
  simp
theorem shMid_end (k : Int) (t : List Int) : shMid k t t.length = t.map (sh k) := by simp [shMid]
theorem shMid_zero (k : Int) (t : List Int) : shMid k t 0 = t := by simp [shMid]
end Go.Proofs.Ytcjgcopkeeiicaa
