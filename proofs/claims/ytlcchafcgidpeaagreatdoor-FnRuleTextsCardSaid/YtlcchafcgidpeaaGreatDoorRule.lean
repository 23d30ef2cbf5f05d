/- Contracts: rules: their size, copy, comparison. -/
import Derived.Test.YtlcchafcgidpeaaGreatDoorSig
import Derived.Test.YtlcchafcgidpeaaGreatDoorTerm
import Derived.Deep.RegionHeld3
namespace Go.Proofs.YtlcchafcgidpeaaGreatDoor
open Go.RowKit
set_option linter.unusedVariables false
set_option linter.unusedSimpArgs false

def szR (left : Int) (n m : Nat) : Int := if szF left n < 0 then -1 else szF (szF left n) m
theorem szR_1 {left : Int} {n m : Nat} (h : szF left n < 0) : szR left n m = -1 := if_pos h
theorem szR_2 {left : Int} {n m : Nat} (h : ¬ szF left n < 0) : szR left n m = szF (szF left n) m := if_neg h
theorem szR_sum {left : Int} (n m : Nat) (h0 : 0 ≤ left) : szR left n m = szF left (n + m) := by
  by_cases h : left - (n : Int) < 0
  · rw [szR_1 (by rw [szF_neg h]; omega), szF_neg (by omega)]
  · have e := szF_pos h
    rw [szR_2 (by rw [e]; exact h), e]
    by_cases h2 : left - (n : Int) - m < 0
    · rw [szF_neg h2, szF_neg (by omega)]
    · rw [szF_pos h2, szF_pos (by omega)]; omega
end Go.Proofs.YtlcchafcgidpeaaGreatDoor
