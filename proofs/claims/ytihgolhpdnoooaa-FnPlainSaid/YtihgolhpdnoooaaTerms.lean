/- Contracts: are two lists of terms the same? -/
import Derived.Test.YtihgolhpdnoooaaMat
import Derived.Test.YtihgolhpdnoooaaTerm
import Derived.Test.YtihgolhpdnoooaaBase
namespace Go.Proofs.Ytihgolhpdnoooaa
open Go.RowKit
set_option linter.unusedVariables false

theorem takeR_step {x y : List (List Int)} {k : Nat} (h : x.take k = y.take k) (hx : k < x.length) (hy : k < y.length) (he : x.getD k [] = y.getD k []) : x.take (k + 1) = y.take (k + 1) := by
  rw [List.take_succ_eq_append_getElem hx, List.take_succ_eq_append_getElem hy, h]
  simp only [List.getD_eq_getElem?_getD, List.getElem?_eq_getElem hx, List.getElem?_eq_getElem hy, Option.getD_some] at he
  rw [he]
set_option maxHeartbeats 1000000 in
set_option maxRecDepth 20000 in
theorem equalFuncR_any (A : Option Addr) (n c : Nat) (x : List (List Int)) (B : Option Addr) (m d : Nat) (y : List (List Int)) (w : World) (h : RR w A n x) (h' : RR w B m y) (hn : n ≤ 1048576) (hs : wtR x ≤ 2097152) (hm : m ≤ 1048576) :
    Calls Try.prog 147 #[.slice A n c, .slice B m d, .func (.func 90) #[] #[]] w fun e w' => e = .returned (.bool (decide (x = y))) ∧ Below w.heap.size w w' := by
  have hl := h.1
  have hl' := h'.1
  by_cases hnm : n = m
  · subst hnm
    go_enter Try.func147, Try.ntmps147
    go_wp2_with fail
    go_loopw [17, 7, 8, 9] (fun i _ _ _ wr => ∃ k : Nat, k ≤ n ∧ i = .int .i64 k ∧ Hid (x.take k = y.take k) ∧ Below w.heap.size w wr) (fun i _ _ _ _ => n - (intOf i).toNat)
    case atStart => exact ⟨0, Nat.zero_le _, rfl, Lib.hid rfl, Below.refl _ _⟩
    case round =>
      obtain ⟨k, hk, rfl, hso, hb⟩ := hrel
      by_cases hlt : k < n
      · obtain ⟨g, off, L, ml, dl, l, rfl, hcl, hL, hmx, hx⟩ := (h.below hb).at_ hlt
        obtain ⟨g', off', L', ml', dl', l', rfl, hcl', hL', hmx', hx'⟩ := (h'.below hb).at_ hlt
        have hrow := wtR_row (x := x) (k := k) (by omega)
        rw [← hx.out, hL.1] at hrow
        have hrow1 : ml ≤ 2097152 := by omega
        have hCALL := fun (W : World) (k1 : RI W L ml l) (k3 : RI W L' ml' l') => slicesEqual_any L ml dl l L' ml' dl' l' W k1 k3 (by omega)
        have HC := Lib.hid hCALL
        have hk0 : (0 : Int) ≤ k := by omega
        have hk1 : (k : Int) < n := by omega
        clear hCALL
        by_cases he : l = l'
        · have HS := Lib.hid (takeR_step hso.out (by omega) (by omega) (by rw [← hx.out, ← hx'.out, he]))
          have HD : Hid (decide (l = l') = true) := Lib.hid (by rw [decide_eq_true_eq]; exact he)
          clear hx hx' he
          go_wp2_with fail
          refine (HC.out _ hL hL').mono ?_
          rintro e w1 ⟨rfl, hb1⟩
          rw [HD.out]
          go_wp2_with fail
          go_roundw
          case rel => exact ⟨k + 1, by omega, by go_num, HS, below_then hb hb1 hb.size⟩
          case measure => simp [intOf]; omega
        · have HS : Hid (decide (x = y) = false) := Lib.hid (by
            rw [decide_eq_false_iff_not]
            intro e
            exact he (by rw [hx.out, hx'.out, e]))
          have HD : Hid (decide (l = l') = false) := Lib.hid (by rw [decide_eq_false_iff_not]; exact he)
          clear hx hx' he
          go_wp2_with fail
          refine (HC.out _ hL hL').mono ?_
          rintro e w1 ⟨rfl, hb1⟩
          rw [HD.out]
          go_wp2_with fail
          go_ret
          exact ⟨ret_bool HS.out.symm, below_then hb hb1 hb.size⟩
      · have hkn : k = n := by omega
        subst hkn
        have HS : Hid (decide (x = y) = true) := Lib.hid (by
          have := hso.out
          rw [List.take_of_length_le (by omega), List.take_of_length_le (by omega)] at this
          rw [decide_eq_true_eq]; exact this)
        go_wp2_with fail
        go_ret
        exact ⟨ret_bool HS.out.symm, hb⟩
  · have hne : ¬ x = y := fun e => hnm (by rw [← hl, ← hl', e])
    have hnm1 : ((n : Int) == (m : Int)) = false := by simp; omega
    go_enter Try.func147, Try.ntmps147
    go_wp2_with fail
    go_ret
    exact ⟨ret_bool (by simp [hne]), Below.refl _ _⟩
set_option maxHeartbeats 400000 in
theorem sameTerms_any (A : Option Addr) (n c : Nat) (x : List (List Int)) (B : Option Addr) (m d : Nat) (y : List (List Int)) (w : World) (h : RR w A n x) (h' : RR w B m y) (hn : n ≤ 1048576) (hs : wtR x ≤ 2097152) (hm : m ≤ 1048576) :
    Calls Try.prog 108 #[.slice A n c, .slice B m d] w fun e w' => e = .returned (.bool (decide (x = y))) ∧ Below w.heap.size w w' := by
  go_enter Try.func108, Try.ntmps108
  go_wp2_with fail
  refine (equalFuncR_any A n c x B m d y _ h h' hn hs hm).mono ?_
  rintro e w1 ⟨rfl, hb⟩
  go_wp2_with fail
  go_ret
  exact ⟨rfl, hb⟩
end Go.Proofs.Ytihgolhpdnoooaa
