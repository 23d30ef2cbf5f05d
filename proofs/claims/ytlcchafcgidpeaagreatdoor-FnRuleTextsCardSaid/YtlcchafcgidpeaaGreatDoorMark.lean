/- Contracts: the marks that a statement lays into memory and asks for again. -/
import Derived.Test.YtlcchafcgidpeaaGreatDoorSig
namespace Go.Proofs.YtlcchafcgidpeaaGreatDoor
open Go.RowKit
set_option linter.unusedVariables false

def marks (k : Int) (n : Nat) : List Int := (List.range n).map fun i : Nat => k + (i : Int)
theorem marks_length (k : Int) (n : Nat) : (marks k n).length = n := by simp [marks]
theorem marks_getD (k : Int) (n i : Nat) (h : i < n) : (marks k n).getD i 0 = k + i := by
  simp [marks, List.getD_eq_getElem?_getD, h]
/-- Behind i rounds. -/
def markTo (k : Int) (xs : List Int) (i : Nat) : List Int := marks k i ++ xs.drop i
theorem markTo_step (k : Int) (xs : List Int) (i : Nat) (h : i < xs.length) : (markTo k xs i).set i (k + i) = markTo k xs (i + 1) := by
  unfold markTo
  have hl := marks_length k i
  rw [List.set_append_right _ _ (by omega), hl, Nat.sub_self, List.drop_eq_getElem_cons h, List.set_cons_zero]
  unfold marks
  rw [List.range_succ, List.map_append]
  simp
theorem markTo_len (k : Int) (xs : List Int) (i : Nat) (h : i ≤ xs.length) : (markTo k xs i).length = xs.length := by
  unfold markTo; rw [List.length_append, marks_length, List.length_drop]; omega
theorem markTo_end (k : Int) (xs : List Int) : markTo k xs xs.length = marks k xs.length := by simp [markTo]

end Go.Proofs.YtlcchafcgidpeaaGreatDoor
