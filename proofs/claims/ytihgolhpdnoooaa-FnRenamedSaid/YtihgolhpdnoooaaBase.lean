/- Contracts of the statements' own helpers: copies of the arguments, comparisons, sizes. -/
import Derived.Test.YtihgolhpdnoooaaProg
import Derived.Test.YtihgolhpdnoooaaMem
import Derived.Outline
import Derived.KernelRfl
namespace Go.Proofs.Ytihgolhpdnoooaa
open Go.RowKit
set_option linter.unusedVariables false

theorem infoInt64 : (Try.prog.info? 2).map (fun i => (i.zero, i.size, i.bytes)) = some (some (.int .i64 0), 1, 8) := by kernel_rfl

set_option maxHeartbeats 400000 in
theorem likeInts_any (A : Option Addr) (n c : Nat) (xs : List Int) (B : Option Addr) (m d : Nat) (ys : List Int) (w : World) (h : RI w A n xs) (h' : RI w B m ys) (hn : n ≤ 9223372036854775806) :
    Calls Try.prog 37 #[.slice A n c, .slice B m d] w fun e w' => e = .returned (.bool (decide (xs = ys))) ∧ Below w.heap.size w w' := by
  by_cases hnm : n = m
  · subst hnm
    go_enter Try.func37, Try.ntmps37
    go_wp2
    go_loopw [5] (fun i wr => ∃ k : Nat, k ≤ n ∧ i = .int .i64 k ∧ xs.take k = ys.take k ∧ Below w.heap.size w wr) (fun i _ => n - (intOf i).toNat)
    case atStart => exact ⟨0, Nat.zero_le _, rfl, rfl, Below.refl _ _⟩
    case round =>
      obtain ⟨k, hk, rfl, ht, hb⟩ := hrel
      by_cases hlt : k < n
      · obtain ⟨g, off, x, rfl, hc, hx⟩ := (h.below hb).at_ hlt
        obtain ⟨g', off', y, rfl, hc', hy⟩ := (h'.below hb).at_ hlt
        cases he : (x != y)
        · go_wp2
          go_quiet (fail)
          go_wp2
          go_roundw
          case rel => exact ⟨k + 1, by omega, by go_num, take_step ht (by rw [h.1]; omega) (by rw [h'.1]; omega) (by rw [← hx.out, ← hy.out]; simpa using he), below_drewN hb _⟩
          case measure => simp [intOf]; omega
        · go_wp2
          go_quiet (fail)
          go_wp2
          go_ret
          exact ⟨ret_bool (by
            have hne : xs.getD k 0 ≠ ys.getD k 0 := by rw [← hx.out, ← hy.out]; simpa using he
            have : xs ≠ ys := fun e => hne (by rw [e])
            simp [this]), below_drewN hb _⟩
      · have hkn : k = n := by omega
        go_wp2
        go_ret
        refine ⟨ret_bool ?_, hb⟩
        subst hkn
        rw [List.take_of_length_le (by rw [h.1]; omega), List.take_of_length_le (by rw [h'.1]; omega)] at ht
        simp [ht]
  · have hne : ¬ xs = ys := fun e => hnm (by rw [← h.1, ← h'.1, e])
    go_enter Try.func37, Try.ntmps37
    go_wp2
    go_ret
    exact ⟨ret_bool (by simp [hne]), Below.refl _ _⟩
set_option maxHeartbeats 400000 in
theorem specSameTerm_any (A : Option Addr) (n c : Nat) (xs : List Int) (B : Option Addr) (m d : Nat) (ys : List Int) (w : World) (h : RI w A n xs) (h' : RI w B m ys) (hn : n ≤ 9223372036854775806) :
    Calls Try.prog 27 #[.slice A n c, .slice B m d] w fun e w' => e = .returned (.bool (decide (xs = ys))) ∧ Below w.heap.size w w' := by
  by_cases hnm : n = m
  · subst hnm
    go_enter Try.func27, Try.ntmps27
    go_wp2
    go_loopw [5] (fun i wr => ∃ k : Nat, k ≤ n ∧ i = .int .i64 k ∧ xs.take k = ys.take k ∧ Below w.heap.size w wr) (fun i _ => n - (intOf i).toNat)
    case atStart => exact ⟨0, Nat.zero_le _, rfl, rfl, Below.refl _ _⟩
    case round =>
      obtain ⟨k, hk, rfl, ht, hb⟩ := hrel
      by_cases hlt : k < n
      · obtain ⟨g, off, x, rfl, hc, hx⟩ := (h.below hb).at_ hlt
        obtain ⟨g', off', y, rfl, hc', hy⟩ := (h'.below hb).at_ hlt
        cases he : (x != y)
        · go_wp2
          go_quiet (fail)
          go_wp2
          go_roundw
          case rel => exact ⟨k + 1, by omega, by go_num, take_step ht (by rw [h.1]; omega) (by rw [h'.1]; omega) (by rw [← hx.out, ← hy.out]; simpa using he), below_drewN hb _⟩
          case measure => simp [intOf]; omega
        · go_wp2
          go_quiet (fail)
          go_wp2
          go_ret
          exact ⟨ret_bool (by
            have hne : xs.getD k 0 ≠ ys.getD k 0 := by rw [← hx.out, ← hy.out]; simpa using he
            have : xs ≠ ys := fun e => hne (by rw [e])
            simp [this]), below_drewN hb _⟩
      · have hkn : k = n := by omega
        go_wp2
        go_ret
        refine ⟨ret_bool ?_, hb⟩
        subst hkn
        rw [List.take_of_length_le (by rw [h.1]; omega), List.take_of_length_le (by rw [h'.1]; omega)] at ht
        simp [ht]
  · have hne : ¬ xs = ys := fun e => hnm (by rw [← h.1, ← h'.1, e])
    go_enter Try.func27, Try.ntmps27
    go_wp2
    go_ret
    exact ⟨ret_bool (by simp [hne]), Below.refl _ _⟩
set_option maxHeartbeats 400000 in
theorem slicesEqual_any (A : Option Addr) (n c : Nat) (xs : List Int) (B : Option Addr) (m d : Nat) (ys : List Int) (w : World) (h : RI w A n xs) (h' : RI w B m ys) (hn : n ≤ 9223372036854775806) :
    Calls Try.prog 90 #[.slice A n c, .slice B m d] w fun e w' => e = .returned (.bool (decide (xs = ys))) ∧ Below w.heap.size w w' := by
  by_cases hnm : n = m
  · subst hnm
    go_enter Try.func90, Try.ntmps90
    go_wp2
    go_loopw [13] (fun i wr => ∃ k : Nat, k ≤ n ∧ i = .int .i64 k ∧ xs.take k = ys.take k ∧ Below w.heap.size w wr) (fun i _ => n - (intOf i).toNat)
    case atStart => exact ⟨0, Nat.zero_le _, rfl, rfl, Below.refl _ _⟩
    case round =>
      obtain ⟨k, hk, rfl, ht, hb⟩ := hrel
      by_cases hlt : k < n
      · obtain ⟨g, off, x, rfl, hc, hx⟩ := (h.below hb).at_ hlt
        obtain ⟨g', off', y, rfl, hc', hy⟩ := (h'.below hb).at_ hlt
        cases he : (x != y)
        · go_wp2
          go_quiet (fail)
          go_wp2
          go_roundw
          case rel => exact ⟨k + 1, by omega, by go_num, take_step ht (by rw [h.1]; omega) (by rw [h'.1]; omega) (by rw [← hx.out, ← hy.out]; simpa using he), below_drewN hb _⟩
          case measure => simp [intOf]; omega
        · go_wp2
          go_quiet (fail)
          go_wp2
          go_ret
          exact ⟨ret_bool (by
            have hne : xs.getD k 0 ≠ ys.getD k 0 := by rw [← hx.out, ← hy.out]; simpa using he
            have : xs ≠ ys := fun e => hne (by rw [e])
            simp [this]), below_drewN hb _⟩
      · have hkn : k = n := by omega
        go_wp2
        go_ret
        refine ⟨ret_bool ?_, hb⟩
        subst hkn
        rw [List.take_of_length_le (by rw [h.1]; omega), List.take_of_length_le (by rw [h'.1]; omega)] at ht
        simp [ht]
  · have hne : ¬ xs = ys := fun e => hnm (by rw [← h.1, ← h'.1, e])
    go_enter Try.func90, Try.ntmps90
    go_wp2
    go_ret
    exact ⟨ret_bool (by simp [hne]), Below.refl _ _⟩
theorem implSameTerm_any (A : Option Addr) (n c : Nat) (xs : List Int) (B : Option Addr) (m d : Nat) (ys : List Int) (w : World) (h : RI w A n xs) (h' : RI w B m ys) (hn : n ≤ 9223372036854775806) :
    Calls Try.prog 22 #[.slice A n c, .slice B m d] w fun e w' => e = .returned (.bool (decide (xs = ys))) ∧ Below w.heap.size w w' := by
  go_enter Try.func22, Try.ntmps22
  go_wp2_with fail
  refine (slicesEqual_any A n c xs B m d ys _ h h' hn).mono ?_
  rintro e w1 ⟨rfl, hb⟩
  go_wp2_with fail
  go_ret
  exact ⟨rfl, hb⟩
end Go.Proofs.Ytihgolhpdnoooaa
