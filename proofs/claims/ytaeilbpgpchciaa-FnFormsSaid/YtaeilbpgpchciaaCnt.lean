/- Contracts: counting; linear terms. -/
import Derived.Test.YtaeilbpgpchciaaTerm2
import Derived.Test.YtaeilbpgpchciaaCmp
namespace Go.Proofs.Ytaeilbpgpchciaa
open Go.RowKit
set_option linter.unusedVariables false

theorem cnt_le (xs : List Int) (v : Int) (k : Nat) : (xs.take k).count v ≤ k := by
  have h1 := List.count_le_length (a := v) (l := xs.take k)
  have h2 := List.length_take_le k xs
  omega
theorem cnt_no {xs : List Int} {v x : Int} {k : Nat} (hk : k < xs.length) (hx : x = xs.getD k 0) (h : (x == v) = false) : (xs.take (k + 1)).count v = (xs.take k).count v := by
  rw [List.getD_eq_getElem?_getD, List.getElem?_eq_getElem hk, Option.getD_some] at hx
  rw [List.take_succ_eq_append_getElem hk, List.count_append, ← hx]
  simp [List.count_cons, h]
theorem cnt_yes {xs : List Int} {v x : Int} {k : Nat} (hk : k < xs.length) (hx : x = xs.getD k 0) (h : (x == v) = true) : (xs.take (k + 1)).count v = (xs.take k).count v + 1 := by
  rw [List.getD_eq_getElem?_getD, List.getElem?_eq_getElem hk, Option.getD_some] at hx
  rw [List.take_succ_eq_append_getElem hk, List.count_append, ← hx]
  simp [List.count_cons, h]

set_option maxHeartbeats 400000 in
theorem l1Count_any (A : Option Addr) (n c : Nat) (xs : List Int) (v : Int) (w : World) (h : RI w A n xs) (hn : n ≤ 1048576) :
    Calls Try.prog 39 #[.slice A n c, .int .i64 v] w fun e w' => e = .returned (.int .i64 (xs.count v : Nat)) ∧ Below w.heap.size w w' := by
  go_enter Try.func39, Try.ntmps39
  go_wp2
  go_loopw [5, 6] (fun u i wr => ∃ k : Nat, k ≤ n ∧ i = .int .i64 k ∧ u = .int .i64 ((xs.take k).count v : Nat) ∧ Below w.heap.size w wr) (fun u i _ => n - (intOf i).toNat)
  case atStart => exact ⟨0, Nat.zero_le _, rfl, by simp, Below.refl _ _⟩
  case round =>
    obtain ⟨k, hk, rfl, rfl, hb⟩ := hrel
    by_cases hlt : k < n
    · obtain ⟨g, off, x, rfl, hc, hx⟩ := (h.below hb).at_ hlt
      have hcl := cnt_le xs v k
      cases hxv : (x == v)
      · have HS := Lib.hid (cnt_no (by rw [h.1]; exact hlt) hx.out hxv)
        go_wp2
        go_roundw
        case rel => exact ⟨k + 1, by omega, by go_num, by rw [HS.out], hb⟩
        case measure => simp [intOf]; omega
      · have HS := Lib.hid (cnt_yes (by rw [h.1]; exact hlt) hx.out hxv)
        go_wp2
        go_roundw
        case rel => exact ⟨k + 1, by omega, by go_num, by rw [HS.out]; go_num, hb⟩
        case measure => simp [intOf]; omega
    · have hkn : k = n := by omega
      go_wp2
      go_ret
      refine ⟨ret_int ?_, hb⟩
      rw [List.take_of_length_le (by rw [h.1]; omega)]
set_option maxHeartbeats 400000 in
theorem countIn_any (A : Option Addr) (n c : Nat) (xs : List Int) (v : Int) (w : World) (h : RI w A n xs) (hn : n ≤ 1048576) :
    Calls Try.prog 38 #[.slice A n c, .int .i64 v] w fun e w' => e = .returned (.int .i64 (xs.count v : Nat)) ∧ Below w.heap.size w w' := by
  go_enter Try.func38, Try.ntmps38
  go_wp2
  go_loopw [5, 10, 7] (fun u i _ wr => ∃ k : Nat, k ≤ n ∧ i = .int .i64 k ∧ u = .int .i64 ((xs.take k).count v : Nat) ∧ Below w.heap.size w wr) (fun _ i _ _ => n - (intOf i).toNat)
  case atStart => exact ⟨0, Nat.zero_le _, rfl, by simp, Below.refl _ _⟩
  case round =>
    obtain ⟨k, hk, rfl, rfl, hb⟩ := hrel
    by_cases hlt : k < n
    · obtain ⟨g, off, x, rfl, hc, hx⟩ := (h.below hb).at_ hlt
      have hcl := cnt_le xs v k
      cases hxv : (x == v)
      · have HS := Lib.hid (cnt_no (by rw [h.1]; exact hlt) hx.out hxv)
        go_wp2
        go_roundw
        case rel => exact ⟨k + 1, by omega, by go_num, by rw [HS.out], hb⟩
        case measure => simp [intOf]; omega
      · have HS := Lib.hid (cnt_yes (by rw [h.1]; exact hlt) hx.out hxv)
        go_wp2
        go_roundw
        case rel => exact ⟨k + 1, by omega, by go_num, by rw [HS.out]; go_num, hb⟩
        case measure => simp [intOf]; omega
    · have hkn : k = n := by omega
      go_wp2
      go_ret
      refine ⟨ret_int ?_, hb⟩
      rw [List.take_of_length_le (by rw [h.1]; omega)]
def countOf (xs t : List Int) (v : Int) : Int := if Pl.termOk xs t then (t.count v : Nat) else 0
theorem countOf_no {xs t : List Int} {v : Int} (h : Pl.termOk xs t = false) : countOf xs t v = 0 := by unfold countOf; rw [h]; rfl
theorem countOf_yes {xs t : List Int} {v : Int} (h : Pl.termOk xs t = true) : countOf xs t v = (t.count v : Nat) := by unfold countOf; rw [h]; rfl
/-- No variable stands twice among the first k numbers. -/
def linTo (t : List Int) (k : Nat) : Bool := (List.range k).all fun i => !(decide (t.getD i 0 < 0) && (t.take i).contains (t.getD i 0))
def lin2 (t : List Int) (k : Nat) : Bool := (List.range k).all fun i => !(decide (t.getD i 0 < 0) && decide (1 < t.count (t.getD i 0)))
theorem lin_eq (t : List Int) : lin2 t t.length = linTo t t.length := by
  have hg : ∀ i (h : i < t.length), t.getD i 0 = t[i] := fun i h => by simp [List.getD_eq_getElem?_getD, h]
  have key : (∃ i, i < t.length ∧ t.getD i 0 < 0 ∧ t.getD i 0 ∈ t.take i) ↔ (∃ i, i < t.length ∧ t.getD i 0 < 0 ∧ 1 < t.count (t.getD i 0)) := by
    constructor
    · rintro ⟨i, hi, h0, hm⟩
      refine ⟨i, hi, h0, ?_⟩
      have h1 : 1 ≤ (t.take i).count (t.getD i 0) := List.count_pos_iff.2 hm
      have h2 : 1 ≤ (t.drop i).count (t.getD i 0) := List.count_pos_iff.2 (by rw [hg i hi, List.drop_eq_getElem_cons hi]; exact List.mem_cons_self)
      have h3 : t.count (t.getD i 0) = (t.take i).count (t.getD i 0) + (t.drop i).count (t.getD i 0) := by rw [← List.count_append, List.take_append_drop]
      omega
    · rintro ⟨i, hi, h0, hc⟩
      refine Classical.byContradiction fun hno => ?_
      have hle : ∀ k, k ≤ t.length → (t.take k).count (t.getD i 0) ≤ 1 := by
        intro k
        induction k with
        | zero => intro _; simp
        | succ k ih =>
          intro hk
          have hkl : k < t.length := by omega
          rw [List.take_succ_eq_append_getElem hkl, List.count_append]
          by_cases he : t[k] = t.getD i 0
          · have hn : t.getD i 0 ∉ t.take k := fun hm => hno ⟨k, hkl, by rw [hg k hkl, he]; exact h0, by rw [hg k hkl, he]; exact hm⟩
            have h0 := List.count_eq_zero.2 hn
            rw [he, h0]
            simp
          · have := ih (by omega)
            have h1 : [t[k]].count (t.getD i 0) = 0 := List.count_eq_zero.2 (by simp only [List.mem_singleton]; exact fun e => he e.symm)
            omega
      have := hle t.length (Nat.le_refl _)
      rw [List.take_length] at this
      omega
  rw [Bool.eq_iff_iff]
  simp only [lin2, linTo, List.all_eq_true, List.mem_range, Bool.not_eq_true', Bool.and_eq_false_iff, decide_eq_false_iff_not]
  constructor
  · intro h i hi
    refine Classical.byContradiction fun hc => ?_
    simp only [not_or, Decidable.not_not, Bool.not_eq_false, List.contains_iff_mem] at hc
    obtain ⟨j, hj, h1, h2⟩ := key.1 ⟨i, hi, hc⟩
    rcases h j hj with h3 | h3 <;> omega
  · intro h i hi
    refine Classical.byContradiction fun hc => ?_
    simp only [not_or, Decidable.not_not] at hc
    obtain ⟨j, hj, h1, h2⟩ := key.2 ⟨i, hi, hc⟩
    rcases h j hj with h3 | h3
    · omega
    · rw [← Bool.not_eq_true, List.contains_iff_mem] at h3; exact h3 h2

set_option maxHeartbeats 1000000 in
theorem l2Linear_any (B : Option Addr) (m d : Nat) (t : List Int) (w : World) (h' : RI w B m t) (hm : m ≤ 1048576) :
    Calls Try.prog 22 #[.slice B m d] w fun e w' => e = .returned (.bool (linTo t m)) ∧ Below w.heap.size w w' := by
  have HE : Hid (lin2 t m = linTo t m) := Lib.hid (by have := lin_eq t; rwa [h'.1] at this)
  go_enter Try.func22, Try.ntmps22
  go_wp2
  go_loopw [3] (fun i wr => ∃ k : Nat, k ≤ m ∧ i = .int .i64 k ∧ Hid (lin2 t k = true) ∧ Below w.heap.size w wr) (fun i _ => m - (intOf i).toNat)
  case atStart => exact ⟨0, Nat.zero_le _, rfl, rfl, Below.refl _ _⟩
  case round =>
    obtain ⟨k, hk, rfl, ht, hb⟩ := hrel
    by_cases hlt : k < m
    · obtain ⟨g, off, x, rfl, hc, hx⟩ := (h'.below hb).at_ hlt
      by_cases h0 : x < 0
      · have e0 : decide (x < 0) = true := by simpa using h0
        by_cases hcn : 1 < t.count x
        · have hS : lin2 t m = false := range_all_stop hlt (by rw [← hx.out]; simp [h0, hcn])
          have HS := Lib.hid (HE.out.symm.trans hS)
          have hc1 : (1 : Int) < (t.count x : Nat) := by omega
          clear hS hcn
          go_wp2_with fail
          refine (l1Count_any _ m d t x _ (h'.below hb) hm).mono ?_
          rintro e w1 ⟨rfl, hb1⟩
          go_wp2_with fail
          go_ret
          exact ⟨ret_bool HS.out.symm, below_then hb hb1 hb.size⟩
        · have hS := range_all_step (p := fun i => !(decide (t.getD i 0 < 0) && decide (1 < t.count (t.getD i 0)))) ht.out (by rw [← hx.out]; simp only [hcn, decide_false, Bool.and_false, Bool.not_false])
          have HS : Hid (lin2 t (k + 1) = true) := Lib.hid hS
          have hc1 : ¬ (1 : Int) < (t.count x : Nat) := by omega
          clear hS hcn
          go_wp2_with fail
          refine (l1Count_any _ m d t x _ (h'.below hb) hm).mono ?_
          rintro e w1 ⟨rfl, hb1⟩
          go_wp2_with fail
          go_roundw
          case rel => exact ⟨k + 1, by omega, by go_num, HS, below_then hb hb1 hb.size⟩
          case measure => simp [intOf]; omega
      · have e0 : decide (x < 0) = false := by simpa using h0
        have hS := range_all_step (p := fun i => !(decide (t.getD i 0 < 0) && decide (1 < t.count (t.getD i 0)))) ht.out (by rw [← hx.out]; simp only [h0, decide_false, Bool.false_and, Bool.not_false])
        have HS : Hid (lin2 t (k + 1) = true) := Lib.hid hS
        clear hS
        go_wp2_with fail
        go_roundw
        case rel => exact ⟨k + 1, by omega, by go_num, HS, hb⟩
        case measure => simp [intOf]; omega
    · have hkm : k = m := by omega
      subst hkm
      go_wp2
      go_ret
      exact ⟨ret_bool (by rw [← HE.out, ht.out]), hb⟩
set_option maxHeartbeats 1000000 in
theorem linear_any (B : Option Addr) (m d : Nat) (t : List Int) (w : World) (h' : RI w B m t) (hm : m ≤ 1048576) (hd : m ≤ d) (hd2 : d ≤ 9223372036854775807) :
    Calls Try.prog 36 #[.slice B m d] w fun e w' => e = .returned (.bool (linTo t m)) ∧ Below w.heap.size w w' := by
  go_enter Try.func36, Try.ntmps36
  go_wp2
  go_loopw [7, 3, 4] (fun i _ _ wr => ∃ k : Nat, k ≤ m ∧ i = .int .i64 k ∧ Hid (linTo t k = true) ∧ Below w.heap.size w wr) (fun i _ _ _ => m - (intOf i).toNat)
  case atStart => exact ⟨0, Nat.zero_le _, rfl, rfl, Below.refl _ _⟩
  case round =>
    obtain ⟨k, hk, rfl, ht, hb⟩ := hrel
    by_cases hlt : k < m
    · obtain ⟨g, off, x, rfl, hc, hx⟩ := (h'.below hb).at_ hlt
      have hk0 : (0 : Int) ≤ k := by omega
      have hkd : (k : Int) ≤ d := by omega
      by_cases h0 : x < 0
      · have e0 : decide (x < 0) = true := by simpa using h0
        have hpart : RI wr (some ⟨g, off, none⟩) k (t.take k) := by
          have := ri_part (h'.below hb) 0 k (by omega) (by omega)
          simpa using this
        cases hcn : (t.take k).contains x
        · have hS := range_all_step (p := fun i => !(decide (t.getD i 0 < 0) && (t.take i).contains (t.getD i 0))) ht.out (by show (!(decide (t.getD k 0 < 0) && (t.take k).contains (t.getD k 0))) = true; rw [← hx.out, hcn]; simp)
          have HS : Hid (linTo t (k + 1) = true) := Lib.hid hS
          have HC := Lib.hid hcn
          clear hS hcn
          go_wp2_with fail
          refine (slicesContains_any _ k _ (t.take k) x _ hpart (by omega)).mono ?_
          rintro e w1 ⟨rfl, hb1⟩
          rw [HC.out]
          go_wp2_with fail
          go_roundw
          case rel => exact ⟨k + 1, by omega, by go_num, HS, below_then hb hb1 hb.size⟩
          case measure => simp [intOf]; omega
        · have hS : linTo t m = false := range_all_stop hlt (by rw [← hx.out, hcn, e0]; rfl)
          have HS := Lib.hid hS
          have HC := Lib.hid hcn
          clear hS hcn
          go_wp2_with fail
          refine (slicesContains_any _ k _ (t.take k) x _ hpart (by omega)).mono ?_
          rintro e w1 ⟨rfl, hb1⟩
          rw [HC.out]
          go_wp2_with fail
          go_ret
          exact ⟨ret_bool HS.out.symm, below_then hb hb1 hb.size⟩
      · have e0 : decide (x < 0) = false := by simpa using h0
        have hS := range_all_step (p := fun i => !(decide (t.getD i 0 < 0) && (t.take i).contains (t.getD i 0))) ht.out (by rw [← hx.out]; simp only [h0, decide_false, Bool.false_and, Bool.not_false])
        have HS : Hid (linTo t (k + 1) = true) := Lib.hid hS
        clear hS
        go_wp2_with fail
        go_roundw
        case rel => exact ⟨k + 1, by omega, by go_num, HS, hb⟩
        case measure => simp [intOf]; omega
    · have hkm : k = m := by omega
      subst hkm
      go_wp2
      go_ret
      exact ⟨ret_bool (by rw [ht.out]), hb⟩
def linearIn (xs t : List Int) : Bool := Pl.termOk xs t && linTo t t.length
theorem linearIn_no {xs t : List Int} (h : Pl.termOk xs t = false) : linearIn xs t = false := by unfold linearIn; rw [h]; rfl
theorem linearIn_yes {xs t : List Int} {m : Nat} (hl : t.length = m) (h : Pl.termOk xs t = true) : linearIn xs t = linTo t m := by unfold linearIn; rw [h, hl]; rfl
end Go.Proofs.Ytaeilbpgpchciaa
