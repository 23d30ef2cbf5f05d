/- Contracts: signatures. -/
import Derived.Test.YtlcchafcgidpeaaGreatDoorBase
import Derived.Test.YtlcchafcgidpeaaGreatDoorPlain
import Derived.Deep.RegionHeld3
namespace Go.Proofs.YtlcchafcgidpeaaGreatDoor
open Go.RowKit
set_option linter.unusedVariables false

def inB (x lo hi : Int) : Bool := decide (lo ≤ x ∧ x ≤ hi)
theorem inB_true {x lo hi : Int} (h : inB x lo hi = true) : lo ≤ x ∧ x ≤ hi := by simpa [inB] using h
theorem inB_false {x lo hi : Int} (h : inB x lo hi = false) : ¬ (lo ≤ x ∧ x ≤ hi) := by simpa [inB] using h
theorem inB_mk {x lo hi : Int} (h : lo ≤ x ∧ x ≤ hi) : inB x lo hi = true := by simp [inB, h]
theorem inB_no {x lo hi : Int} (h : ¬ (lo ≤ x ∧ x ≤ hi)) : inB x lo hi = false := by simp only [inB, decide_eq_false_iff_not]; exact h

def szF (left : Int) (n : Nat) : Int := if left - n < 0 then -1 else left - n
theorem szF_neg {left : Int} {n : Nat} (h : left - n < 0) : szF left n = -1 := if_pos h
theorem szF_pos {left : Int} {n : Nat} (h : ¬ left - n < 0) : szF left n = left - n := if_neg h
theorem szF_bd {left : Int} (n : Nat) (h0 : 0 ≤ left) : -1 ≤ szF left n ∧ szF left n ≤ left ∧ (0 ≤ szF left n → (n : Int) ≤ left) := by unfold szF; split <;> omega

theorem l1In_any (x lo hi : Int) (w : World) : Calls Tryz.prog 61 #[.int .i64 x, .int .i64 lo, .int .i64 hi] w fun e w' => e = .returned (.bool (inB x lo hi)) ∧ w = w' := by
  by_cases h1 : lo ≤ x
  · by_cases h2 : x ≤ hi
    · have e1 : decide (lo ≤ x) = true := by simpa using h1
      have e2 : decide (x ≤ hi) = true := by simpa using h2
      go_enter Tryz.func61, Tryz.ntmps61
      go_wp2
      go_ret
      exact ⟨ret_bool (by rw [inB_mk ⟨h1, h2⟩]), rfl⟩
    · have e1 : decide (lo ≤ x) = true := by simpa using h1
      have e2 : decide (x ≤ hi) = false := by simpa using h2
      go_enter Tryz.func61, Tryz.ntmps61
      go_wp2
      go_ret
      exact ⟨ret_bool (by rw [inB_no (by omega)]), rfl⟩
  · have e1 : decide (lo ≤ x) = false := by simpa using h1
    go_enter Tryz.func61, Tryz.ntmps61
    go_wp2
    go_ret
    exact ⟨ret_bool (by rw [inB_no (by omega)]), rfl⟩
theorem all_step {xs : List Int} {p : Int → Bool} {k : Nat} (h : (xs.take k).all p = true) (hk : k < xs.length) (hp : p (xs.getD k 0) = true) : (xs.take (k + 1)).all p = true := by
  rw [List.take_succ_eq_append_getElem hk, List.all_append, h]
  rw [List.getD_eq_getElem?_getD, List.getElem?_eq_getElem hk, Option.getD_some] at hp
  simp [hp]
theorem all_stop {xs : List Int} {p : Int → Bool} {k : Nat} (hk : k < xs.length) (hp : p (xs.getD k 0) = false) : xs.all p = false := by
  rw [List.getD_eq_getElem?_getD, List.getElem?_eq_getElem hk, Option.getD_some] at hp
  rw [List.all_eq_false]
  exact ⟨_, List.getElem_mem hk, by simp [hp]⟩

theorem sigOk_all (xs : List Int) (n : Nat) (hl : xs.length = n) (h : 1 ≤ n ∧ n ≤ 8) : Pl.sigOk xs = xs.all fun x => inB x 0 3 := by
  unfold Pl.sigOk inB
  rw [hl]
  simp [h]
theorem sigOk_len (xs : List Int) (n : Nat) (hl : xs.length = n) (h : ¬ (1 ≤ n ∧ n ≤ 8)) : Pl.sigOk xs = false := by
  unfold Pl.sigOk
  rw [hl]
  simp [h]

set_option maxHeartbeats 400000 in
theorem specSigOk_any (A : Option Addr) (n c : Nat) (xs : List Int) (w : World) (h : RI w A n xs) (hn : n ≤ 9223372036854775806) :
    Calls Tryz.prog 31 #[.agg #[.slice A n c]] w fun e w' => e = .returned (.bool (Pl.sigOk xs)) ∧ Below w.heap.size w w' := by
  cases hq : inB (n : Int) 1 8
  · go_enter Tryz.func31, Tryz.ntmps31
    go_wp2_with (go_at_call 61; refine (l1In_any _ _ _ _).mono ?_; rintro e w1 ⟨rfl, rfl⟩)
    go_ret
    exact ⟨ret_bool (by rw [sigOk_len xs n h.1 (by have := inB_false hq; omega)]), (Below.refl _ _).alloc (Nat.le_refl _) _⟩
  · have hall := sigOk_all xs n h.1 (by have := inB_true hq; omega)
    have HA := Lib.hid hall
    clear hall
    go_enter Tryz.func31, Tryz.ntmps31
    go_wp2_with (go_at_call 61; refine (l1In_any _ _ _ _).mono ?_; rintro e w1 ⟨rfl, rfl⟩)
    go_loopw [3] (fun i wr => ∃ k : Nat, k ≤ n ∧ i = .int .i64 k ∧ (xs.take k).all (fun x => inB x 0 3) = true ∧ Below (w.alloc (.cells #[.slice A n c] 26)).heap.size (w.alloc (.cells #[.slice A n c] 26)) wr) (fun i _ => n - (intOf i).toNat)
    case atStart => exact ⟨0, Nat.zero_le _, rfl, rfl, Below.refl _ _⟩
    case round =>
      obtain ⟨k, hk, rfl, hall, hb⟩ := hrel
      have hbox : wr.cell? ⟨w.heap.size, 0, none⟩ = some (.slice A n c) := (hb.cell (by simp)).trans (by simp)
      by_cases hlt : k < n
      · obtain ⟨g, off, x, rfl, hc, hx⟩ := ((h.alloc _).below hb).at_ hlt
        cases hxq : inB x 0 3
        · go_wp2_with (go_at_call 61; refine (l1In_any _ _ _ _).mono ?_; rintro e w1 ⟨rfl, rfl⟩)
          go_ret
          exact ⟨ret_bool (by rw [HA.out, all_stop (p := fun x => inB x 0 3) (by rw [h.1]; omega) (by rw [← hx.out]; exact hxq)]), below_then ((Below.refl _ _).alloc (Nat.le_refl _) _) hb (by simp)⟩
        · go_wp2_with (go_at_call 61; refine (l1In_any _ _ _ _).mono ?_; rintro e w1 ⟨rfl, rfl⟩)
          go_roundw
          case rel => exact ⟨k + 1, by omega, by go_num, all_step (p := fun x => inB x 0 3) hall (by rw [h.1]; omega) (by rw [← hx.out]; exact hxq), hb⟩
          case measure => simp [intOf]; omega
      · have hkn : k = n := by omega
        go_wp2
        go_ret
        refine ⟨ret_bool ?_, below_then ((Below.refl _ _).alloc (Nat.le_refl _) _) hb (by simp)⟩
        rw [List.take_of_length_le (by rw [h.1]; omega)] at hall
        rw [HA.out, hall]
set_option maxHeartbeats 400000 in
theorem implSigOk_any (A : Option Addr) (n c : Nat) (xs : List Int) (w : World) (h : RI w A n xs) (hn : n ≤ 9223372036854775806) :
    Calls Tryz.prog 33 #[.agg #[.slice A n c]] w fun e w' => e = .returned (.bool (Pl.sigOk xs)) ∧ Below w.heap.size w w' := by
  cases hq : inB (n : Int) 1 8
  · have HN := Lib.hid (sigOk_len xs n h.1 (by have := inB_false hq; omega))
    have hq' := inB_false hq
    clear hq
    by_cases h1 : (n : Int) < 1
    · have d1 : decide ((n : Int) < 1) = true := by simpa using h1
      go_enter Tryz.func33, Tryz.ntmps33
      go_wp2
      go_ret
      exact ⟨ret_bool HN.out.symm, (Below.refl _ _).alloc (Nat.le_refl _) _⟩
    · have d1 : decide ((n : Int) < 1) = false := by simpa using h1
      have d2 : (8 : Int) < n := by omega
      go_enter Tryz.func33, Tryz.ntmps33
      go_wp2
      go_ret
      exact ⟨ret_bool HN.out.symm, (Below.refl _ _).alloc (Nat.le_refl _) _⟩
  · have hall := sigOk_all xs n h.1 (by have := inB_true hq; omega)
    have HA := Lib.hid hall
    have hq' := inB_true hq
    clear hall hq
    have d1 : decide ((n : Int) < 1) = false := by simp; omega
    have d2 : ¬ (8 : Int) < n := by omega
    go_enter Tryz.func33, Tryz.ntmps33
    go_wp2
    go_loopw [18] (fun i wr => ∃ k : Nat, k ≤ n ∧ i = .int .i64 k ∧ (xs.take k).all (fun x => inB x 0 3) = true ∧ Below (w.alloc (.cells #[.slice A n c] 26)).heap.size (w.alloc (.cells #[.slice A n c] 26)) wr) (fun i _ => n - (intOf i).toNat)
    case atStart => exact ⟨0, Nat.zero_le _, rfl, rfl, Below.refl _ _⟩
    case round =>
      obtain ⟨k, hk, rfl, hall, hb⟩ := hrel
      by_cases hlt : k < n
      · obtain ⟨g, off, x, rfl, hc, hx⟩ := ((h.alloc _).below hb).at_ hlt
        cases hxq : inB x 0 3
        · have hno := inB_false hxq
          have HX := Lib.hid hxq
          clear hxq
          by_cases h1 : x < 0
          · have e1 : decide (x < 0) = true := by simpa using h1
            go_wp2
            go_ret
            exact ⟨ret_bool (by rw [HA.out, all_stop (p := fun x => inB x 0 3) (by rw [h.1]; omega) (by rw [← hx.out]; exact HX.out)]), below_then ((Below.refl _ _).alloc (Nat.le_refl _) _) hb (by simp)⟩
          · have e1 : decide (x < 0) = false := by simpa using h1
            have e2 : (3 : Int) < x := by omega
            go_wp2
            go_ret
            exact ⟨ret_bool (by rw [HA.out, all_stop (p := fun x => inB x 0 3) (by rw [h.1]; omega) (by rw [← hx.out]; exact HX.out)]), below_then ((Below.refl _ _).alloc (Nat.le_refl _) _) hb (by simp)⟩
        · have hno := inB_true hxq
          have HX := Lib.hid hxq
          clear hxq
          have e1 : decide (x < 0) = false := by simp; omega
          have e2 : ¬ (3 : Int) < x := by omega
          go_wp2
          go_roundw
          case rel => exact ⟨k + 1, by omega, by go_num, all_step (p := fun x => inB x 0 3) hall (by rw [h.1]; omega) (by rw [← hx.out]; exact HX.out), hb⟩
          case measure => simp [intOf]; omega
      · have hkn : k = n := by omega
        go_wp2
        go_ret
        refine ⟨ret_bool ?_, below_then ((Below.refl _ _).alloc (Nat.le_refl _) _) hb (by simp)⟩
        rw [List.take_of_length_le (by rw [h.1]; omega)] at hall
        rw [HA.out, hall]
end Go.Proofs.YtlcchafcgidpeaaGreatDoor
