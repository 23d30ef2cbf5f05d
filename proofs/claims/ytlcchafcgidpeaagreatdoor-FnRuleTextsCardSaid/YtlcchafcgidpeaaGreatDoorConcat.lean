/- Contracts: slices.Grow of nothing, slices.Concat. -/
import Derived.Test.YtlcchafcgidpeaaGreatDoorMat
import Derived.Test.YtlcchafcgidpeaaGreatDoorApp
import Derived.Test.YtlcchafcgidpeaaGreatDoorTerm
import Derived.Lib.AppendZeros
namespace Go.Proofs.YtlcchafcgidpeaaGreatDoor
open Go.RowKit
set_option linter.unusedVariables false

theorem zero_size (z : Value) (hz : z.cells.size = 1) (n : Nat) : (Builtin.zeroCells z.cells n).size = n := by
  have := @toList_madeCells_one
  simp [Builtin.zeroCells, hz]
/-- The first k rows, one behind the other. -/
def flat (x : List (List Int)) (k : Nat) : List Int := (x.take k).flatten
theorem flat_zero (x : List (List Int)) : flat x 0 = [] := by simp [flat]
theorem flat_step {x : List (List Int)} {k : Nat} (h : k < x.length) : flat x (k + 1) = flat x k ++ x.getD k [] := by
  unfold flat
  rw [List.take_succ_eq_append_getElem h, List.flatten_append]
  simp [List.getD_eq_getElem?_getD, h]
theorem flat_le (x : List (List Int)) {k n : Nat} (hk : k ≤ n) : (flat x k).length ≤ (flat x n).length := by
  unfold flat
  have h := congrArg List.length (congrArg List.flatten (List.take_append_drop k (x.take n)))
  rw [List.flatten_append, List.length_append, List.take_take, Nat.min_eq_left hk] at h
  omega
theorem RR.three {w : World} {A B C : Option Addr} {n c m d o f : Nat} {x y z : List Int} {T : TypeId} (h : RI w A n x) (hc : n ≤ c) (hc2 : c ≤ 9223372036854775807) (h' : RI w B m y) (hd : m ≤ d) (hd2 : d ≤ 9223372036854775807) (h'' : RI w C o z) (hf : o ≤ f) (hf2 : f ≤ 9223372036854775807) :
    RR (w.alloc (.cells #[.slice A n c, .slice B m d, .slice C o f] T)) (some ⟨w.heap.size, 0, none⟩) 3 [x, y, z] := by
  refine ⟨rfl, fun _ => ⟨w.heap.size, 0, rfl, fun k hk => ?_⟩⟩
  have hn := (Blk.new w T #[.slice A n c, .slice B m d, .slice C o f])
  match k, hk with
  | 0, _ => exact ⟨A, n, c, by rw [Nat.zero_add, hn.cell]; rfl, h.alloc _, by omega⟩
  | 1, _ => exact ⟨B, m, d, by rw [Nat.zero_add, hn.cell]; rfl, h'.alloc _, by omega⟩
  | 2, _ => exact ⟨C, o, f, by rw [Nat.zero_add, hn.cell]; rfl, h''.alloc _, by omega⟩
end Go.Proofs.YtlcchafcgidpeaaGreatDoor
