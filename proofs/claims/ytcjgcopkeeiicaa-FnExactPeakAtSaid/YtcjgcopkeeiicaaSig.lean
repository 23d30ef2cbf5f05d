/- Contracts: signatures. -/
import Derived.Test.YtcjgcopkeeiicaaBase
import Derived.Test.YtcjgcopkeeiicaaPlainB
import Derived.Deep.RegionHeld3
namespace Go.Proofs.Ytcjgcopkeeiicaa
open Go.RowKit
set_option linter.unusedVariables false

def inB (x lo hi : Int) : Bool := decide (lo ≤ x ∧ x ≤ hi)
theorem inB_true {x lo hi : Int} (h : inB x lo hi = true) : lo ≤ x ∧ x ≤ hi := by simpa [inB] using h
theorem inB_false {x lo hi : Int} (h : inB x lo hi = false) : ¬ (lo ≤ x ∧ x ≤ hi) := by simpa [inB] using h
theorem inB_mk {x lo hi : Int} (h : lo ≤ x ∧ x ≤ hi) : inB x lo hi = true := by simp [inB, h]
theorem inB_no {x lo hi : Int} (h : ¬ (lo ≤ x ∧ x ≤ hi)) : inB x lo hi = false := by simp only [inB, decide_eq_false_iff_not]; exact h

def szF (left : Int) (n : Nat) : Int := if left - n < 0 then -1 else left - n
theorem szF_neg {left : Int} {n : Nat} (h : left - n < 0) : szF left n = -1 := if_pos h
theorem szF_pos {left : Int} {n : Nat} (h : ¬ left - n < 0) : szF left n = left - n := if_neg h
theorem szF_bd {left : Int} (n : Nat) (h0 : 0 ≤ left) : -1 ≤ szF left n ∧ szF left n ≤ left ∧ (0 ≤ szF left n → (n : Int) ≤ left) := by unfold szF; split <;> omega

theorem szInt64S_any (A : Option Addr) (n c : Nat) (left : Int) (w : World) (h0 : 0 ≤ left) (h1 : left ≤ 1048576) (hn : n ≤ 9223372036854775807) :
    Calls Try.prog 36 #[.slice A n c, .int .i64 left] w fun e w' => e = .returned (.int .i64 (szF left n)) ∧ w = w' := by
  by_cases hlt : left - n < 0
  · go_enter Try.func36, Try.ntmps36
    go_wp2
    go_ret
    exact ⟨ret_int (by rw [szF_neg (by omega)]), rfl⟩
  · go_enter Try.func36, Try.ntmps36
    go_wp2
    go_ret
    exact ⟨ret_int (by rw [szF_pos (by omega)]), rfl⟩
theorem szSig_any (A : Option Addr) (n c : Nat) (left : Int) (w : World) (h0 : 0 ≤ left) (h1 : left ≤ 1048576) (hn : n ≤ 9223372036854775807) :
    Calls Try.prog 19 #[.agg #[.slice A n c], .int .i64 left] w fun e w' => e = .returned (.int .i64 (szF left n)) ∧ Below w.heap.size w w' := by
  by_cases hlt : szF left n < 0
  · go_enter Try.func19, Try.ntmps19
    go_wp2_with fail
    refine (szInt64S_any A n c left _ h0 h1 hn).mono ?_
    rintro e w1 ⟨rfl, rfl⟩
    go_wp2_with fail
    go_ret
    exact ⟨ret_int (by have := szF_bd n h0; omega), (Below.refl _ _).alloc (Nat.le_refl _) _⟩
  · go_enter Try.func19, Try.ntmps19
    go_wp2_with fail
    refine (szInt64S_any A n c left _ h0 h1 hn).mono ?_
    rintro e w1 ⟨rfl, rfl⟩
    go_wp2_with fail
    go_ret
    exact ⟨rfl, (Below.refl _ _).alloc (Nat.le_refl _) _⟩
theorem toSig_any (A : Option Addr) (n c : Nat) (xs : List Int) (w : World) (h : RI w A n xs) (hn : n ≤ 1048576) :
    Calls Try.prog 24 #[.agg #[.slice A n c]] w fun e w' => ∃ g, e = .returned (.agg #[.slice (some ⟨g, 0, none⟩) n n]) ∧ OI w' w.heap.size (some ⟨g, 0, none⟩) n n xs ∧ Below w.heap.size w w' := by
  go_enter Try.func24, Try.ntmps24
  go_wp2_with fail
  refine (toInt64S_any A n c xs _ (((h.alloc _).alloc _).alloc _) hn).mono ?_
  rintro e w1 ⟨g, rfl, ho, hb⟩
  obtain ⟨hc, hf⟩ := bcell hb
  have hz : w.heap.size + 2 < w1.heap.size := by have := hb.size; simp at this; omega
  go_wp2_with fail
  refine bodyPost_ret (v := .agg #[.slice (some ⟨g, 0, none⟩) n n]) (by simp [results, Try.results24, go_sem, hc]) rfl ⟨g, rfl, ?_, ?_⟩
  · exact ((ho.setBelow (by simp) _).setBelow (by simp) _).base (by simp; omega)
  · exact (((below_then ((((Below.refl _ _).alloc (Nat.le_refl _) _).alloc (by simp) _).alloc (by simp; omega) _) hb (by simp; omega)).setCell (by simp; omega) _).setCell (by simp) _)
theorem eqSig_any (A : Option Addr) (n c : Nat) (xs : List Int) (B : Option Addr) (m d : Nat) (ys : List Int) (w : World) (h : RI w A n xs) (h' : RI w B m ys) (hn : n ≤ 9223372036854775806) :
    Calls Try.prog 30 #[.agg #[.slice A n c], .agg #[.slice B m d]] w fun e w' => e = .returned (.bool (decide (xs = ys))) ∧ Below w.heap.size w w' := by
  cases hq : decide (xs = ys)
  · go_enter Try.func30, Try.ntmps30
    go_wp2_with fail
    refine (eqInt64S_any A n c xs B m d ys _ ((h.alloc _).alloc _) ((h'.alloc _).alloc _) hn).mono ?_
    rintro e w1 ⟨rfl, hb⟩
    go_wp2_with fail
    go_ret
    exact ⟨rfl, below_then (((Below.refl _ _).alloc (Nat.le_refl _) _).alloc (by simp) _) hb (by simp <;> omega)⟩
  · go_enter Try.func30, Try.ntmps30
    go_wp2_with fail
    refine (eqInt64S_any A n c xs B m d ys _ ((h.alloc _).alloc _) ((h'.alloc _).alloc _) hn).mono ?_
    rintro e w1 ⟨rfl, hb⟩
    go_wp2_with fail
    go_ret
    exact ⟨rfl, below_then (((Below.refl _ _).alloc (Nat.le_refl _) _).alloc (by simp) _) hb (by simp <;> omega)⟩
theorem eqSig_same (A : Option Addr) (n c : Nat) (xs : List Int) (B : Option Addr) (d : Nat) (w : World) (h : RI w A n xs) (h' : RI w B n xs) (hn : n ≤ 1048576) :
    Calls Try.prog 30 #[.agg #[.slice A n c], .agg #[.slice B n d]] w fun e w' => e = .returned (.bool true) ∧ Below w.heap.size w w' :=
  (eqSig_any A n c xs B n d xs w h h' (by omega)).mono fun e w' ⟨he, hb⟩ => ⟨by rw [he]; simp, hb⟩
theorem l1In_any (x lo hi : Int) (w : World) : Calls Try.prog 40 #[.int .i64 x, .int .i64 lo, .int .i64 hi] w fun e w' => e = .returned (.bool (inB x lo hi)) ∧ w = w' := by
  by_cases h1 : lo ≤ x
  · by_cases h2 : x ≤ hi
    · have e1 : decide (lo ≤ x) = true := by simpa using h1
      have e2 : decide (x ≤ hi) = true := by simpa using h2
      go_enter Try.func40, Try.ntmps40
      go_wp2
      go_ret
      exact ⟨ret_bool (by rw [inB_mk ⟨h1, h2⟩]), rfl⟩
    · have e1 : decide (lo ≤ x) = true := by simpa using h1
      have e2 : decide (x ≤ hi) = false := by simpa using h2
      go_enter Try.func40, Try.ntmps40
      go_wp2
      go_ret
      exact ⟨ret_bool (by rw [inB_no (by omega)]), rfl⟩
  · have e1 : decide (lo ≤ x) = false := by simpa using h1
    go_enter Try.func40, Try.ntmps40
    go_wp2
    go_ret
    exact ⟨ret_bool (by rw [inB_no (by omega)]), rfl⟩
theorem all_step {xs : List Int} {p : Int → Bool} {k : Nat} (h : (xs.take k).all p = true) (hk : k < xs.length) (hp : p (xs.getD k 0) = true) : (xs.take (k + 1)).all p = true := by
  rw [List.take_succ_eq_append_getElem hk, List.all_append, h]
  rw [List.getD_eq_getElem?_getD, List.getElem?_eq_getElem hk, Option.getD_some] at hp
  simp [hp]
theorem all_stop {xs : List Int} {p : Int → Bool} {k : Nat} (hk : k < xs.length) (hp : p (xs.getD k 0) = false) : xs.all p = false := by
  rw [List.getD_eq_getElem?_getD, List.getElem?_eq_getElem hk, Option.getD_some] at hp
  rw [List.all_eq_false]
  exact ⟨_, List.getElem_mem hk, by simp [hp]⟩

theorem sigOk_all (xs : List Int) (n : Nat) (hl : xs.length = n) (h : 1 ≤ n ∧ n ≤ 8) : Pl.sigOk xs = xs.all fun x => inB x 0 3 := by
  unfold Pl.sigOk inB
  rw [hl]
  simp [h]
theorem sigOk_len (xs : List Int) (n : Nat) (hl : xs.length = n) (h : ¬ (1 ≤ n ∧ n ≤ 8)) : Pl.sigOk xs = false := by
  unfold Pl.sigOk
  rw [hl]
  simp [h]

set_option maxHeartbeats 400000 in
theorem specSigOk_any (A : Option Addr) (n c : Nat) (xs : List Int) (w : World) (h : RI w A n xs) (hn : n ≤ 9223372036854775806) :
    Calls Try.prog 38 #[.agg #[.slice A n c]] w fun e w' => e = .returned (.bool (Pl.sigOk xs)) ∧ Below w.heap.size w w' := by
  cases hq : inB (n : Int) 1 8
  · go_enter Try.func38, Try.ntmps38
    go_wp2_with (go_at_call 40; refine (l1In_any _ _ _ _).mono ?_; rintro e w1 ⟨rfl, rfl⟩)
    go_ret
    exact ⟨ret_bool (by rw [sigOk_len xs n h.1 (by have := inB_false hq; omega)]), (Below.refl _ _).alloc (Nat.le_refl _) _⟩
  · have hall := sigOk_all xs n h.1 (by have := inB_true hq; omega)
    have HA := Lib.hid hall
    clear hall
    go_enter Try.func38, Try.ntmps38
    go_wp2_with (go_at_call 40; refine (l1In_any _ _ _ _).mono ?_; rintro e w1 ⟨rfl, rfl⟩)
    go_loopw [3] (fun i wr => ∃ k : Nat, k ≤ n ∧ i = .int .i64 k ∧ (xs.take k).all (fun x => inB x 0 3) = true ∧ Below (w.alloc (.cells #[.slice A n c] 30)).heap.size (w.alloc (.cells #[.slice A n c] 30)) wr) (fun i _ => n - (intOf i).toNat)
    case atStart => exact ⟨0, Nat.zero_le _, rfl, rfl, Below.refl _ _⟩
    case round =>
      obtain ⟨k, hk, rfl, hall, hb⟩ := hrel
      have hbox : wr.cell? ⟨w.heap.size, 0, none⟩ = some (.slice A n c) := (hb.cell (by simp)).trans (by simp)
      by_cases hlt : k < n
      · obtain ⟨g, off, x, rfl, hc, hx⟩ := ((h.alloc _).below hb).at_ hlt
        cases hxq : inB x 0 3
        · go_wp2_with (go_at_call 40; refine (l1In_any _ _ _ _).mono ?_; rintro e w1 ⟨rfl, rfl⟩)
          go_ret
          exact ⟨ret_bool (by rw [HA.out, all_stop (p := fun x => inB x 0 3) (by rw [h.1]; omega) (by rw [← hx.out]; exact hxq)]), below_then ((Below.refl _ _).alloc (Nat.le_refl _) _) hb (by simp)⟩
        · go_wp2_with (go_at_call 40; refine (l1In_any _ _ _ _).mono ?_; rintro e w1 ⟨rfl, rfl⟩)
          go_roundw
          case rel => exact ⟨k + 1, by omega, by go_num, all_step (p := fun x => inB x 0 3) hall (by rw [h.1]; omega) (by rw [← hx.out]; exact hxq), hb⟩
          case measure => simp [intOf]; omega
      · have hkn : k = n := by omega
        go_wp2
        go_ret
        refine ⟨ret_bool ?_, below_then ((Below.refl _ _).alloc (Nat.le_refl _) _) hb (by simp)⟩
        rw [List.take_of_length_le (by rw [h.1]; omega)] at hall
        rw [HA.out, hall]
set_option maxHeartbeats 400000 in
theorem implSigOk_any (A : Option Addr) (n c : Nat) (xs : List Int) (w : World) (h : RI w A n xs) (hn : n ≤ 9223372036854775806) :
    Calls Try.prog 44 #[.agg #[.slice A n c]] w fun e w' => e = .returned (.bool (Pl.sigOk xs)) ∧ Below w.heap.size w w' := by
  cases hq : inB (n : Int) 1 8
  · have HN := Lib.hid (sigOk_len xs n h.1 (by have := inB_false hq; omega))
    have hq' := inB_false hq
    clear hq
    by_cases h1 : (n : Int) < 1
    · have d1 : decide ((n : Int) < 1) = true := by simpa using h1
      go_enter Try.func44, Try.ntmps44
      go_wp2
      go_ret
      exact ⟨ret_bool HN.out.symm, (Below.refl _ _).alloc (Nat.le_refl _) _⟩
    · have d1 : decide ((n : Int) < 1) = false := by simpa using h1
      have d2 : (8 : Int) < n := by omega
      go_enter Try.func44, Try.ntmps44
      go_wp2
      go_ret
      exact ⟨ret_bool HN.out.symm, (Below.refl _ _).alloc (Nat.le_refl _) _⟩
  · have hall := sigOk_all xs n h.1 (by have := inB_true hq; omega)
    have HA := Lib.hid hall
    have hq' := inB_true hq
    clear hall hq
    have d1 : decide ((n : Int) < 1) = false := by simp; omega
    have d2 : ¬ (8 : Int) < n := by omega
    go_enter Try.func44, Try.ntmps44
    go_wp2
    go_loopw [18] (fun i wr => ∃ k : Nat, k ≤ n ∧ i = .int .i64 k ∧ (xs.take k).all (fun x => inB x 0 3) = true ∧ Below (w.alloc (.cells #[.slice A n c] 30)).heap.size (w.alloc (.cells #[.slice A n c] 30)) wr) (fun i _ => n - (intOf i).toNat)
    case atStart => exact ⟨0, Nat.zero_le _, rfl, rfl, Below.refl _ _⟩
    case round =>
      obtain ⟨k, hk, rfl, hall, hb⟩ := hrel
      by_cases hlt : k < n
      · obtain ⟨g, off, x, rfl, hc, hx⟩ := ((h.alloc _).below hb).at_ hlt
        cases hxq : inB x 0 3
        · have hno := inB_false hxq
          have HX := Lib.hid hxq
          clear hxq
          by_cases h1 : x < 0
          · have e1 : decide (x < 0) = true := by simpa using h1
            go_wp2
            go_ret
            exact ⟨ret_bool (by rw [HA.out, all_stop (p := fun x => inB x 0 3) (by rw [h.1]; omega) (by rw [← hx.out]; exact HX.out)]), below_then ((Below.refl _ _).alloc (Nat.le_refl _) _) hb (by simp)⟩
          · have e1 : decide (x < 0) = false := by simpa using h1
            have e2 : (3 : Int) < x := by omega
            go_wp2
            go_ret
            exact ⟨ret_bool (by rw [HA.out, all_stop (p := fun x => inB x 0 3) (by rw [h.1]; omega) (by rw [← hx.out]; exact HX.out)]), below_then ((Below.refl _ _).alloc (Nat.le_refl _) _) hb (by simp)⟩
        · have hno := inB_true hxq
          have HX := Lib.hid hxq
          clear hxq
          have e1 : decide (x < 0) = false := by simp; omega
          have e2 : ¬ (3 : Int) < x := by omega
          go_wp2
          go_roundw
          case rel => exact ⟨k + 1, by omega, by go_num, all_step (p := fun x => inB x 0 3) hall (by rw [h.1]; omega) (by rw [← hx.out]; exact HX.out), hb⟩
          case measure => simp [intOf]; omega
      · have hkn : k = n := by omega
        go_wp2
        go_ret
        refine ⟨ret_bool ?_, below_then ((Below.refl _ _).alloc (Nat.le_refl _) _) hb (by simp)⟩
        rw [List.take_of_length_le (by rw [h.1]; omega)] at hall
        rw [HA.out, hall]
end Go.Proofs.Ytcjgcopkeeiicaa
