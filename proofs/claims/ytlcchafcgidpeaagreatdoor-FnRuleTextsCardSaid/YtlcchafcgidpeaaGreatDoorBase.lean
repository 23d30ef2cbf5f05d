/- Contracts of the statements' own helpers: copies of the arguments, comparisons, sizes. -/
import Derived.Test.YtlcchafcgidpeaaGreatDoorProg
import Derived.Test.YtlcchafcgidpeaaGreatDoorMem
import Derived.Outline
import Derived.KernelRfl
namespace Go.Proofs.YtlcchafcgidpeaaGreatDoor
open Go.RowKit
set_option linter.unusedVariables false

theorem infoInt64 : (Tryz.prog.info? 2).map (fun i => (i.zero, i.size, i.bytes)) = some (some (.int .i64 0), 1, 8) := by kernel_rfl

set_option maxHeartbeats 400000 in
theorem slicesEqual_any (A : Option Addr) (n c : Nat) (xs : List Int) (B : Option Addr) (m d : Nat) (ys : List Int) (w : World) (h : RI w A n xs) (h' : RI w B m ys) (hn : n ≤ 9223372036854775806) :
    Calls Tryz.prog 36 #[.slice A n c, .slice B m d] w fun e w' => e = .returned (.bool (decide (xs = ys))) ∧ Below w.heap.size w w' := by
  by_cases hnm : n = m
  · subst hnm
    go_enter Tryz.func36, Tryz.ntmps36
    go_wp2
    go_loopw [13] (fun i wr => ∃ k : Nat, k ≤ n ∧ i = .int .i64 k ∧ xs.take k = ys.take k ∧ Below w.heap.size w wr) (fun i _ => n - (intOf i).toNat)
    case atStart => exact ⟨0, Nat.zero_le _, rfl, rfl, Below.refl _ _⟩
    case round =>
      obtain ⟨k, hk, rfl, ht, hb⟩ := hrel
      by_cases hlt : k < n
      · obtain ⟨g, off, x, rfl, hc, hx⟩ := (h.below hb).at_ hlt
        obtain ⟨g', off', y, rfl, hc', hy⟩ := (h'.below hb).at_ hlt
        cases he : (x != y)
        · go_wp2
          go_quiet (fail)
          go_wp2
          go_roundw
          case rel => exact ⟨k + 1, by omega, by go_num, take_step ht (by rw [h.1]; omega) (by rw [h'.1]; omega) (by rw [← hx.out, ← hy.out]; simpa using he), below_drewN hb _⟩
          case measure => simp [intOf]; omega
        · go_wp2
          go_quiet (fail)
          go_wp2
          go_ret
          exact ⟨ret_bool (by
            have hne : xs.getD k 0 ≠ ys.getD k 0 := by rw [← hx.out, ← hy.out]; simpa using he
            have : xs ≠ ys := fun e => hne (by rw [e])
            simp [this]), below_drewN hb _⟩
      · have hkn : k = n := by omega
        go_wp2
        go_ret
        refine ⟨ret_bool ?_, hb⟩
        subst hkn
        rw [List.take_of_length_le (by rw [h.1]; omega), List.take_of_length_le (by rw [h'.1]; omega)] at ht
        simp [ht]
  · have hne : ¬ xs = ys := fun e => hnm (by rw [← h.1, ← h'.1, e])
    go_enter Tryz.func36, Tryz.ntmps36
    go_wp2
    go_ret
    exact ⟨ret_bool (by simp [hne]), Below.refl _ _⟩
end Go.Proofs.YtlcchafcgidpeaaGreatDoor
