/- Contracts: the order of terms; ranks. -/
import Derived.Test.YtcjgcopkeeiicaaTerm2
namespace Go.Proofs.Ytcjgcopkeeiicaa
open Go.RowKit
set_option linter.unusedVariables false

def cmp3 (x y : Int) : Int := if x < y then -1 else if y < x then 1 else 0
theorem cmp3_ne {x y : Int} (h : x ≠ y) : (cmp3 x y != 0) = true := by
  unfold cmp3
  split
  · rfl
  · rw [if_pos (by omega)]; rfl
theorem cmp3_lt (x y : Int) : decide (cmp3 x y < 0) = decide (x < y) := by
  unfold cmp3
  split
  · simp [*]
  · rename_i h
    simp only [h, decide_false]
    split <;> simp
theorem lessT_len {xs ys : List Int} {n m : Nat} (hx : xs.length = n) (hy : ys.length = m) (h : n ≠ m) : Pl.lessT xs ys = decide (n < m) := by
  unfold Pl.lessT; rw [hx, hy, if_pos h]
theorem lessT_cmp {xs ys : List Int} {n : Nat} (hx : xs.length = n) (hy : ys.length = n) : Pl.lessT xs ys = decide (Pl.cmpL xs ys < 0) := by
  unfold Pl.lessT; rw [hx, hy, if_neg (by omega)]
theorem contains_step {xs : List Int} {k : Nat} {v : Int} (h : v ∉ xs.take k) (hk : k < xs.length) (hv : v ≠ xs.getD k 0) : v ∉ xs.take (k + 1) := by
  rw [List.getD_eq_getElem?_getD, List.getElem?_eq_getElem hk, Option.getD_some] at hv
  rw [List.take_succ_eq_append_getElem hk, List.mem_append]
  rintro (h1 | h1)
  · exact h h1
  · exact hv (by simpa using h1)
theorem contains_hit {xs : List Int} {k : Nat} {v : Int} (hk : k < xs.length) (hv : v = xs.getD k 0) : v ∈ xs := by
  rw [hv]; exact Pl.getD_mem hk
/-- Where a number stands first in a list; -1 where it does not. -/
def idx (xs : List Int) (v : Int) : Int := if xs.contains v then (xs.idxOf v : Nat) else -1
theorem idx_no {xs : List Int} {v : Int} (h : v ∉ xs) : idx xs v = -1 := by unfold idx; rw [if_neg (by simpa using h)]
theorem idx_at {xs : List Int} {k : Nat} {v : Int} (h : v ∉ xs.take k) (hk : k < xs.length) (hv : v = xs.getD k 0) : idx xs v = k := by
  unfold idx
  rw [if_pos (by simpa using contains_hit hk hv)]
  congr 1
  rw [← List.take_append_drop k xs, List.idxOf_append, if_neg h, List.drop_eq_getElem_cons hk]
  rw [List.getD_eq_getElem?_getD, List.getElem?_eq_getElem hk, Option.getD_some] at hv
  rw [← hv]
  simp
  omega

set_option maxHeartbeats 400000 in
theorem slicesIndex_any (A : Option Addr) (n c : Nat) (xs : List Int) (v : Int) (w : World) (h : RI w A n xs) (hn : n ≤ 9223372036854775806) :
    Calls Try.prog 69 #[.slice A n c, .int .i64 v] w fun e w' => e = .returned (.int .i64 (idx xs v)) ∧ Below w.heap.size w w' := by
  go_enter Try.func69, Try.ntmps69
  go_wp2
  go_loopw [8, 5] (fun i _ wr => ∃ k : Nat, k ≤ n ∧ i = .int .i64 k ∧ Hid (v ∉ xs.take k) ∧ Below w.heap.size w wr) (fun i _ _ => n - (intOf i).toNat)
  case atStart => exact ⟨0, Nat.zero_le _, rfl, by simp [Hid], Below.refl _ _⟩
  case round =>
    obtain ⟨k, hk, rfl, ht, hb⟩ := hrel
    by_cases hlt : k < n
    · obtain ⟨g, off, x, rfl, hc, hx⟩ := (h.below hb).at_ hlt
      cases hvx : (v == x)
      · go_wp2
        go_roundw
        case rel => exact ⟨k + 1, by omega, by go_num, contains_step ht.out (by rw [h.1]; exact hlt) (by rw [← hx.out]; simpa using hvx), hb⟩
        case measure => simp [intOf]; omega
      · have HE := Lib.hid (idx_at ht.out (by rw [h.1]; exact hlt) (by rw [← hx.out]; simpa using hvx))
        go_wp2
        go_ret
        exact ⟨ret_int HE.out.symm, hb⟩
    · have hkn : k = n := by omega
      have HE := Lib.hid (idx_no (by have := ht.out; rwa [List.take_of_length_le (by rw [h.1]; omega)] at this))
      go_wp2
      go_ret
      exact ⟨ret_int HE.out.symm, hb⟩
theorem idx_ge (xs : List Int) (v : Int) : decide (0 ≤ idx xs v) = xs.contains v := by
  unfold idx
  cases xs.contains v
  · rfl
  · simp
theorem slicesContains_any (A : Option Addr) (n c : Nat) (xs : List Int) (v : Int) (w : World) (h : RI w A n xs) (hn : n ≤ 9223372036854775806) :
    Calls Try.prog 63 #[.slice A n c, .int .i64 v] w fun e w' => e = .returned (.bool (xs.contains v)) ∧ Below w.heap.size w w' := by
  have HE := Lib.hid (idx_ge xs v)
  go_enter Try.func63, Try.ntmps63
  go_wp2_with fail
  refine (slicesIndex_any A n c xs v _ h hn).mono ?_
  rintro e w1 ⟨rfl, hb1⟩
  go_wp2_with fail
  go_ret
  exact ⟨ret_bool HE.out, hb1⟩
end Go.Proofs.Ytcjgcopkeeiicaa
