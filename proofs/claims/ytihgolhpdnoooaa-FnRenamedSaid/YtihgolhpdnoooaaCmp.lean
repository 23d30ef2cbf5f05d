/- Contracts: the order of terms; ranks. -/
import Derived.Test.YtihgolhpdnoooaaTerm2
namespace Go.Proofs.Ytihgolhpdnoooaa
open Go.RowKit
set_option linter.unusedVariables false

def cmp3 (x y : Int) : Int := if x < y then -1 else if y < x then 1 else 0
theorem cmp3_ne {x y : Int} (h : x ≠ y) : (cmp3 x y != 0) = true := by
  unfold cmp3
  split
  · rfl
  · rw [if_pos (by omega)]; rfl
theorem cmp3_lt (x y : Int) : decide (cmp3 x y < 0) = decide (x < y) := by
  unfold cmp3
  split
  · simp [*]
  · rename_i h
    simp only [h, decide_false]
    split <;> simp
theorem isNaN_any (x : Int) (w : World) : Calls Try.prog 161 #[.int .i64 x] w fun e w' => e = .returned (.bool false) ∧ w = w' := by
  go_enter Try.func161, Try.ntmps161
  go_wp2
  go_ret
  exact ⟨rfl, rfl⟩
theorem cmpCompare_any (x y : Int) (w : World) : Calls Try.prog 140 #[.int .i64 x, .int .i64 y] w fun e w' => e = .returned (.int .i64 (cmp3 x y)) ∧ w = w' := by
  by_cases h1 : x < y
  · have HE : Hid (cmp3 x y = -1) := Lib.hid (by unfold cmp3; rw [if_pos h1])
    go_enter Try.func140, Try.ntmps140
    go_wp2_with (go_at_call 161; refine (isNaN_any _ _).mono ?_; rintro e w1 ⟨rfl, rfl⟩)
    go_ret
    exact ⟨ret_int HE.out.symm, rfl⟩
  · by_cases h2 : y < x
    · have HE : Hid (cmp3 x y = 1) := Lib.hid (by unfold cmp3; rw [if_neg h1, if_pos h2])
      go_enter Try.func140, Try.ntmps140
      go_wp2_with (go_at_call 161; refine (isNaN_any _ _).mono ?_; rintro e w1 ⟨rfl, rfl⟩)
      go_ret
      exact ⟨ret_int HE.out.symm, rfl⟩
    · have HE : Hid (cmp3 x y = 0) := Lib.hid (by unfold cmp3; rw [if_neg h1, if_neg h2])
      go_enter Try.func140, Try.ntmps140
      go_wp2_with (go_at_call 161; refine (isNaN_any _ _).mono ?_; rintro e w1 ⟨rfl, rfl⟩)
      go_ret
      exact ⟨ret_int HE.out.symm, rfl⟩
theorem cmp_eq {xs ys : List Int} {k : Nat} {x y : Int} (hx : k < xs.length) (hy : k < ys.length) (ex : x = xs.getD k 0) (ey : y = ys.getD k 0) (h : x = y) :
    Pl.cmpL (xs.drop k) (ys.drop k) = Pl.cmpL (xs.drop (k + 1)) (ys.drop (k + 1)) := by
  rw [Pl.cmpL_step hx hy, ← ex, ← ey, if_neg (by omega), if_neg (by omega)]
theorem cmp_ne {xs ys : List Int} {k : Nat} {x y : Int} (hx : k < xs.length) (hy : k < ys.length) (ex : x = xs.getD k 0) (ey : y = ys.getD k 0) (h : x ≠ y) :
    Pl.cmpL (xs.drop k) (ys.drop k) = cmp3 x y := by
  rw [Pl.cmpL_step hx hy, ← ex, ← ey]
  unfold cmp3
  by_cases h1 : x < y
  · rw [if_pos h1, if_pos h1]
  · rw [if_neg h1, if_neg h1, if_pos (by omega), if_pos (by omega)]

set_option maxHeartbeats 400000 in
theorem slicesCompare_any (A : Option Addr) (n c : Nat) (xs : List Int) (B : Option Addr) (d : Nat) (ys : List Int) (w : World) (h : RI w A n xs) (h' : RI w B n ys) (hn : n ≤ 9223372036854775806) :
    Calls Try.prog 92 #[.slice A n c, .slice B n d] w fun e w' => e = .returned (.int .i64 (Pl.cmpL xs ys)) ∧ Below w.heap.size w w' := by
  go_enter Try.func92, Try.ntmps92
  go_wp2
  go_loopw [11, 5, 6, 7, 8] (fun i _ _ _ _ wr => ∃ k : Nat, k ≤ n ∧ i = .int .i64 k ∧ Hid (Pl.cmpL xs ys = Pl.cmpL (xs.drop k) (ys.drop k)) ∧ Below w.heap.size w wr) (fun i _ _ _ _ _ => n - (intOf i).toNat)
  case atStart => exact ⟨0, Nat.zero_le _, rfl, rfl, Below.refl _ _⟩
  case round =>
    obtain ⟨k, hk, rfl, ht, hb⟩ := hrel
    by_cases hlt : k < n
    · obtain ⟨g, off, x, rfl, hc, hx⟩ := (h.below hb).at_ hlt
      obtain ⟨g', off', y, rfl, hc', hy⟩ := (h'.below hb).at_ hlt
      by_cases hxy : x = y
      · subst hxy
        have HE := Lib.hid (cmp_eq (xs := xs) (ys := ys) (by rw [h.1]; exact hlt) (by rw [h'.1]; exact hlt) hx.out hy.out rfl)
        have HC : Hid (cmp3 x x = 0) := Lib.hid (by unfold cmp3; rw [if_neg (by omega), if_neg (by omega)])
        go_wp2_with fail
        refine (cmpCompare_any _ _ _).mono ?_
        rintro e w1 ⟨rfl, rfl⟩
        rw [HC.out]
        go_wp2_with fail
        go_roundw
        case rel => exact ⟨k + 1, by omega, by go_num, ht.out.trans HE.out, hb⟩
        case measure => simp [intOf]; omega
      · have HE := Lib.hid (cmp_ne (xs := xs) (ys := ys) (by rw [h.1]; exact hlt) (by rw [h'.1]; exact hlt) hx.out hy.out hxy)
        have HC := cmp3_ne hxy
        go_wp2_with fail
        refine (cmpCompare_any _ _ _).mono ?_
        rintro e w1 ⟨rfl, rfl⟩
        go_wp2_with fail
        go_ret
        exact ⟨ret_int (ht.out.trans HE.out).symm, hb⟩
    · have hkn : k = n := by omega
      have HE := Lib.hid (Pl.cmpL_end (xs := xs) (ys := ys) (k := k) (by rw [h.1]; omega) (by rw [h'.1]; omega))
      go_wp2
      go_ret
      exact ⟨ret_int (ht.out.trans HE.out).symm, hb⟩
theorem lessT_len {xs ys : List Int} {n m : Nat} (hx : xs.length = n) (hy : ys.length = m) (h : n ≠ m) : Pl.lessT xs ys = decide (n < m) := by
  unfold Pl.lessT; rw [hx, hy, if_pos h]
theorem lessT_cmp {xs ys : List Int} {n : Nat} (hx : xs.length = n) (hy : ys.length = n) : Pl.lessT xs ys = decide (Pl.cmpL xs ys < 0) := by
  unfold Pl.lessT; rw [hx, hy, if_neg (by omega)]
theorem I_LessTerm (A : Option Addr) (n c : Nat) (xs : List Int) (B : Option Addr) (m d : Nat) (ys : List Int) (w : World) (h : RI w A n xs) (h' : RI w B m ys) (hn : n ≤ 1048576) (hm : m ≤ 1048576) :
    Calls Try.prog 25 #[.slice A n c, .slice B m d] w fun e w' => e = .returned (.bool (Pl.lessT xs ys)) ∧ Below w.heap.size w w' := by
  by_cases hnm : n = m
  · subst hnm
    have HE := Lib.hid (lessT_cmp h.1 h'.1)
    go_enter Try.func25, Try.ntmps25
    go_wp2_with fail
    refine (slicesCompare_any A n c xs B d ys _ h h' (by omega)).mono ?_
    rintro e w1 ⟨rfl, hb1⟩
    go_wp2_with fail
    go_ret
    exact ⟨ret_bool HE.out.symm, hb1⟩
  · have HE := Lib.hid (lessT_len h.1 h'.1 hnm)
    go_enter Try.func25, Try.ntmps25
    go_wp2_with fail
    go_ret
    exact ⟨ret_bool (HE.out.symm), Below.refl _ _⟩
set_option maxHeartbeats 400000 in
theorem S_LessTerm (A : Option Addr) (n c : Nat) (xs : List Int) (B : Option Addr) (m d : Nat) (ys : List Int) (w : World) (h : RI w A n xs) (h' : RI w B m ys) (hn : n ≤ 1048576) (hm : m ≤ 1048576) :
    Calls Try.prog 26 #[.slice A n c, .slice B m d] w fun e w' => e = .returned (.bool (Pl.lessT xs ys)) ∧ Below w.heap.size w w' := by
  by_cases hnm : n = m
  · subst hnm
    have HE := Lib.hid (lessT_cmp h.1 h'.1)
    go_enter Try.func26, Try.ntmps26
    go_wp2
    go_loopw [5] (fun i wr => ∃ k : Nat, k ≤ n ∧ i = .int .i64 k ∧ Hid (Pl.cmpL xs ys = Pl.cmpL (xs.drop k) (ys.drop k)) ∧ Below w.heap.size w wr) (fun i _ => n - (intOf i).toNat)
    case atStart => exact ⟨0, Nat.zero_le _, rfl, rfl, Below.refl _ _⟩
    case round =>
      obtain ⟨k, hk, rfl, ht, hb⟩ := hrel
      by_cases hlt : k < n
      · obtain ⟨g, off, x, rfl, hc, hx⟩ := (h.below hb).at_ hlt
        obtain ⟨g', off', y, rfl, hc', hy⟩ := (h'.below hb).at_ hlt
        cases hxy : (x != y)
        · have HS := Lib.hid (cmp_eq (xs := xs) (ys := ys) (by rw [h.1]; exact hlt) (by rw [h'.1]; exact hlt) hx.out hy.out (by simpa using hxy))
          go_wp2
          go_quiet (fail)
          go_wp2
          go_roundw
          case rel => exact ⟨k + 1, by omega, by go_num, ht.out.trans HS.out, below_drewN hb _⟩
          case measure => simp [intOf]; omega
        · have hne : x ≠ y := by simpa using hxy
          have HS := Lib.hid (cmp_ne (xs := xs) (ys := ys) (by rw [h.1]; exact hlt) (by rw [h'.1]; exact hlt) hx.out hy.out hne)
          have HC := Lib.hid (cmp3_lt x y)
          clear hne
          go_wp2
          go_quiet (fail)
          go_wp2
          go_quiet (fail)
          go_wp2
          go_ret
          exact ⟨ret_bool (by rw [HE.out, ht.out, HS.out, HC.out]), below_drewN (below_drewN hb _) _⟩
      · have hkn : k = n := by omega
        have HS := Lib.hid (Pl.cmpL_end (xs := xs) (ys := ys) (k := k) (by rw [h.1]; omega) (by rw [h'.1]; omega))
        go_wp2
        go_ret
        exact ⟨ret_bool (by rw [HE.out, ht.out, HS.out]; rfl), hb⟩
  · have HE := Lib.hid (lessT_len h.1 h'.1 hnm)
    go_enter Try.func26, Try.ntmps26
    go_wp2_with fail
    go_ret
    exact ⟨ret_bool (HE.out.symm), Below.refl _ _⟩
theorem contains_step {xs : List Int} {k : Nat} {v : Int} (h : v ∉ xs.take k) (hk : k < xs.length) (hv : v ≠ xs.getD k 0) : v ∉ xs.take (k + 1) := by
  rw [List.getD_eq_getElem?_getD, List.getElem?_eq_getElem hk, Option.getD_some] at hv
  rw [List.take_succ_eq_append_getElem hk, List.mem_append]
  rintro (h1 | h1)
  · exact h h1
  · exact hv (by simpa using h1)
theorem contains_hit {xs : List Int} {k : Nat} {v : Int} (hk : k < xs.length) (hv : v = xs.getD k 0) : v ∈ xs := by
  rw [hv]; exact Pl.getD_mem hk
/-- Where a number stands first in a list; -1 where it does not. -/
def idx (xs : List Int) (v : Int) : Int := if xs.contains v then (xs.idxOf v : Nat) else -1
theorem idx_no {xs : List Int} {v : Int} (h : v ∉ xs) : idx xs v = -1 := by unfold idx; rw [if_neg (by simpa using h)]
theorem idx_at {xs : List Int} {k : Nat} {v : Int} (h : v ∉ xs.take k) (hk : k < xs.length) (hv : v = xs.getD k 0) : idx xs v = k := by
  unfold idx
  rw [if_pos (by simpa using contains_hit hk hv)]
  congr 1
  rw [← List.take_append_drop k xs, List.idxOf_append, if_neg h, List.drop_eq_getElem_cons hk]
  rw [List.getD_eq_getElem?_getD, List.getElem?_eq_getElem hk, Option.getD_some] at hv
  rw [← hv]
  simp
  omega

set_option maxHeartbeats 400000 in
theorem slicesIndex_any (A : Option Addr) (n c : Nat) (xs : List Int) (v : Int) (w : World) (h : RI w A n xs) (hn : n ≤ 9223372036854775806) :
    Calls Try.prog 164 #[.slice A n c, .int .i64 v] w fun e w' => e = .returned (.int .i64 (idx xs v)) ∧ Below w.heap.size w w' := by
  go_enter Try.func164, Try.ntmps164
  go_wp2
  go_loopw [8, 5] (fun i _ wr => ∃ k : Nat, k ≤ n ∧ i = .int .i64 k ∧ Hid (v ∉ xs.take k) ∧ Below w.heap.size w wr) (fun i _ _ => n - (intOf i).toNat)
  case atStart => exact ⟨0, Nat.zero_le _, rfl, by simp [Hid], Below.refl _ _⟩
  case round =>
    obtain ⟨k, hk, rfl, ht, hb⟩ := hrel
    by_cases hlt : k < n
    · obtain ⟨g, off, x, rfl, hc, hx⟩ := (h.below hb).at_ hlt
      cases hvx : (v == x)
      · go_wp2
        go_roundw
        case rel => exact ⟨k + 1, by omega, by go_num, contains_step ht.out (by rw [h.1]; exact hlt) (by rw [← hx.out]; simpa using hvx), hb⟩
        case measure => simp [intOf]; omega
      · have HE := Lib.hid (idx_at ht.out (by rw [h.1]; exact hlt) (by rw [← hx.out]; simpa using hvx))
        go_wp2
        go_ret
        exact ⟨ret_int HE.out.symm, hb⟩
    · have hkn : k = n := by omega
      have HE := Lib.hid (idx_no (by have := ht.out; rwa [List.take_of_length_le (by rw [h.1]; omega)] at this))
      go_wp2
      go_ret
      exact ⟨ret_int HE.out.symm, hb⟩
theorem idx_ge (xs : List Int) (v : Int) : decide (0 ≤ idx xs v) = xs.contains v := by
  unfold idx
  cases xs.contains v
  · rfl
  · simp
theorem slicesContains_any (A : Option Addr) (n c : Nat) (xs : List Int) (v : Int) (w : World) (h : RI w A n xs) (hn : n ≤ 9223372036854775806) :
    Calls Try.prog 153 #[.slice A n c, .int .i64 v] w fun e w' => e = .returned (.bool (xs.contains v)) ∧ Below w.heap.size w w' := by
  have HE := Lib.hid (idx_ge xs v)
  go_enter Try.func153, Try.ntmps153
  go_wp2_with fail
  refine (slicesIndex_any A n c xs v _ h hn).mono ?_
  rintro e w1 ⟨rfl, hb1⟩
  go_wp2_with fail
  go_ret
  exact ⟨ret_bool HE.out, hb1⟩
end Go.Proofs.Ytihgolhpdnoooaa
