/- Contracts: does a list hold a number? -/
import Derived.Test.YtcjgcopkeeiicaaTerm2
import Derived.Test.YtcjgcopkeeiicaaCmp
namespace Go.Proofs.Ytcjgcopkeeiicaa
open Go.RowKit
set_option linter.unusedVariables false

set_option maxHeartbeats 400000 in
theorem l1Has_any (A : Option Addr) (n c : Nat) (xs : List Int) (v : Int) (w : World) (h : RI w A n xs) (hn : n ≤ 9223372036854775806) :
    Calls Try.prog 60 #[.slice A n c, .int .i64 v] w fun e w' => e = .returned (.bool (xs.contains v)) ∧ Below w.heap.size w w' := by
  go_enter Try.func60, Try.ntmps60
  go_wp2
  go_loopw [5] (fun i wr => ∃ k : Nat, k ≤ n ∧ i = .int .i64 k ∧ Hid (v ∉ xs.take k) ∧ Below w.heap.size w wr) (fun i _ => n - (intOf i).toNat)
  case atStart => exact ⟨0, Nat.zero_le _, rfl, Lib.hid (by simp), Below.refl _ _⟩
  case round =>
    obtain ⟨k, hk, rfl, hno, hb⟩ := hrel
    by_cases hlt : k < n
    · obtain ⟨g, off, x, rfl, hc, hx⟩ := (h.below hb).at_ hlt
      by_cases hxv : x = v
      · subst hxv
        have HE : Hid (xs.contains x = true) := Lib.hid (by simpa using contains_hit (by rw [h.1]; exact hlt) hx.out)
        clear hx
        go_wp2
        go_ret
        exact ⟨ret_bool HE.out.symm, hb⟩
      · have HS := Lib.hid (contains_step hno.out (by rw [h.1]; exact hlt) (by rw [← hx.out]; exact fun e => hxv e.symm))
        clear hx
        go_wp2
        go_roundw
        case rel => exact ⟨k + 1, by omega, by go_num, HS, hb⟩
        case measure => simp [intOf]; omega
    · have hkn : k = n := by omega
      subst hkn
      have HE : Hid (xs.contains v = false) := Lib.hid (by have := hno.out; rw [List.take_of_length_le (by rw [h.1]; omega)] at this; simpa using this)
      go_wp2
      go_ret
      exact ⟨ret_bool HE.out.symm, hb⟩
end Go.Proofs.Ytcjgcopkeeiicaa
