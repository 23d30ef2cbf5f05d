/- Contracts: are two systems the same? -/
import Derived.Test.YtkmkopfkhpgagaaSysOk
namespace Go.Proofs.Ytkmkopfkhpgagaa
open Go.RowKit
set_option linter.unusedVariables false

theorem takeU_step {x y : List (List Int × List Int)} {k : Nat} (h : x.take k = y.take k) (hx : k < x.length) (hy : k < y.length) (he : x.getD k ([], []) = y.getD k ([], [])) : x.take (k + 1) = y.take (k + 1) := by
  rw [takeU_snoc hx rfl, takeU_snoc hy rfl, h, he]
set_option maxHeartbeats 1000000 in
theorem l6SameRule_any (A : Option Addr) (n c : Nat) (B : Option Addr) (m d : Nat) (A' : Option Addr) (n' c' : Nat) (B' : Option Addr) (m' d' : Nat) (l r l' r' : List Int) (w : World) (h : RI w A n l) (k : RI w B m r) (h' : RI w A' n' l') (k' : RI w B' m' r') (hn : n ≤ 1048576) (hm : m ≤ 1048576) :
    Calls Try.prog 38 #[.agg #[.slice A n c, .slice B m d], .agg #[.slice A' n' c', .slice B' m' d']] w fun e w' => e = .returned (.bool (decide ((l, r) = (l', r')))) ∧ Below w.heap.size w w' := by
  cases hq : decide (l = l')
  · have HQ := Lib.hid hq
    have HE : Hid (decide ((l, r) = (l', r')) = false) := Lib.hid (by
      rw [decide_eq_false_iff_not] at hq ⊢
      exact fun e => hq (Prod.mk.inj e).1)
    clear hq
    go_enter Try.func38, Try.ntmps38
    go_wp2_with fail
    refine (specSameTerm_any A n c l A' n' c' l' _ ((h.alloc _).alloc _) ((h'.alloc _).alloc _) (by omega)).mono ?_
    rintro e w1 ⟨rfl, hb1⟩
    rw [HQ.out]
    have hB : Below w.heap.size w w1 := below_then (((Below.refl _ _).alloc (Nat.le_refl _) _).alloc (by simp <;> omega) _) hb1 (by simp <;> omega)
    go_wp2_with fail
    go_ret
    exact ⟨ret_bool HE.out.symm, hB⟩
  · have HQ := Lib.hid hq
    have HE : Hid (decide ((l, r) = (l', r')) = decide (r = r')) := Lib.hid (by
      rw [decide_eq_true_eq] at hq
      rw [hq]; simp)
    clear hq
    go_enter Try.func38, Try.ntmps38
    go_wp2_with fail
    refine (specSameTerm_any A n c l A' n' c' l' _ ((h.alloc _).alloc _) ((h'.alloc _).alloc _) (by omega)).mono ?_
    rintro e w1 ⟨rfl, hb1⟩
    rw [HQ.out]
    have hB : Below w.heap.size w w1 := below_then (((Below.refl _ _).alloc (Nat.le_refl _) _).alloc (by simp <;> omega) _) hb1 (by simp <;> omega)
    have b1 : w1.cell? ⟨w.heap.size, 1, none⟩ = some (.slice B m d) := (hb1.cell (by simp <;> omega)).trans (by simp)
    have b1' : w1.cell? ⟨w.heap.size + 1, 1, none⟩ = some (.slice B' m' d') := (hb1.cell (by simp <;> omega)).trans (by simp)
    clear hb1
    go_wp2_with fail
    refine (specSameTerm_any B m d r B' m' d' r' _ (k.below hB) (k'.below hB) (by omega)).mono ?_
    rintro e w2 ⟨rfl, hb2⟩
    go_wp2_with fail
    go_ret
    exact ⟨ret_bool HE.out.symm, below_then hB hb2 hB.size⟩
set_option maxHeartbeats 1000000 in
theorem sameRule_any (A : Option Addr) (n c : Nat) (B : Option Addr) (m d : Nat) (A' : Option Addr) (n' c' : Nat) (B' : Option Addr) (m' d' : Nat) (l r l' r' : List Int) (w : World) (h : RI w A n l) (k : RI w B m r) (h' : RI w A' n' l') (k' : RI w B' m' r') (hn : n ≤ 1048576) (hm : m ≤ 1048576) :
    Calls Try.prog 73 #[.agg #[.slice A n c, .slice B m d], .agg #[.slice A' n' c', .slice B' m' d']] w fun e w' => e = .returned (.bool (decide ((l, r) = (l', r')))) ∧ Below w.heap.size w w' := by
  cases hq : decide (l = l')
  · have HQ := Lib.hid hq
    have HE : Hid (decide ((l, r) = (l', r')) = false) := Lib.hid (by
      rw [decide_eq_false_iff_not] at hq ⊢
      exact fun e => hq (Prod.mk.inj e).1)
    clear hq
    go_enter Try.func73, Try.ntmps73
    go_wp2_with fail
    refine (slicesEqual_any A n c l A' n' c' l' _ ((h.alloc _).alloc _) ((h'.alloc _).alloc _) (by omega)).mono ?_
    rintro e w1 ⟨rfl, hb1⟩
    rw [HQ.out]
    have hB : Below w.heap.size w w1 := below_then (((Below.refl _ _).alloc (Nat.le_refl _) _).alloc (by simp <;> omega) _) hb1 (by simp <;> omega)
    go_wp2_with fail
    go_ret
    exact ⟨ret_bool HE.out.symm, hB⟩
  · have HQ := Lib.hid hq
    have HE : Hid (decide ((l, r) = (l', r')) = decide (r = r')) := Lib.hid (by
      rw [decide_eq_true_eq] at hq
      rw [hq]; simp)
    clear hq
    go_enter Try.func73, Try.ntmps73
    go_wp2_with fail
    refine (slicesEqual_any A n c l A' n' c' l' _ ((h.alloc _).alloc _) ((h'.alloc _).alloc _) (by omega)).mono ?_
    rintro e w1 ⟨rfl, hb1⟩
    rw [HQ.out]
    have hB : Below w.heap.size w w1 := below_then (((Below.refl _ _).alloc (Nat.le_refl _) _).alloc (by simp <;> omega) _) hb1 (by simp <;> omega)
    have b1 : w1.cell? ⟨w.heap.size, 1, none⟩ = some (.slice B m d) := (hb1.cell (by simp <;> omega)).trans (by simp)
    have b1' : w1.cell? ⟨w.heap.size + 1, 1, none⟩ = some (.slice B' m' d') := (hb1.cell (by simp <;> omega)).trans (by simp)
    clear hb1
    go_wp2_with fail
    refine (slicesEqual_any B m d r B' m' d' r' _ (k.below hB) (k'.below hB) (by omega)).mono ?_
    rintro e w2 ⟨rfl, hb2⟩
    go_wp2_with fail
    go_ret
    exact ⟨ret_bool HE.out.symm, below_then hB hb2 hB.size⟩
set_option maxHeartbeats 1000000 in
set_option maxRecDepth 20000 in
theorem equalFunc_any (A : Option Addr) (n c : Nat) (x : List (List Int × List Int)) (B : Option Addr) (m d : Nat) (y : List (List Int × List Int)) (w : World) (h : RU w A n x) (h' : RU w B m y) (hn : n ≤ 1048576) (hs : wtU x ≤ 1048576) (hm : m ≤ 1048576) :
    Calls Try.prog 72 #[.slice A n c, .slice B m d, .func (.func 73) #[] #[]] w fun e w' => e = .returned (.bool (decide (x = y))) ∧ Below w.heap.size w w' := by
  have hl := h.1
  have hl' := h'.1
  by_cases hnm : n = m
  · subst hnm
    go_enter Try.func72, Try.ntmps72
    go_wp2_with fail
    go_loopw [17, 7, 8, 9] (fun i _ _ _ wr => ∃ k : Nat, k ≤ n ∧ i = .int .i64 k ∧ Hid (x.take k = y.take k) ∧ Below w.heap.size w wr) (fun i _ _ _ _ => n - (intOf i).toNat)
    case atStart => exact ⟨0, Nat.zero_le _, rfl, Lib.hid rfl, Below.refl _ _⟩
    case round =>
      obtain ⟨k, hk, rfl, hso, hb⟩ := hrel
      by_cases hlt : k < n
      · obtain ⟨g, off, L, ml, dl, R, mr, dr, l, r, rfl, hcl, hcr, hL, hR, _, _, _, _, hx⟩ := (h.below hb).at_ hlt
        obtain ⟨g', off', L', ml', dl', R', mr', dr', l', r', rfl, hcl', hcr', hL', hR', _, _, _, _, hx'⟩ := (h'.below hb).at_ hlt
        have hrow := wtU_row (x := x) (k := k) (by omega)
        rw [← hx.out] at hrow
        have hrl : rlen (l, r) = ml + mr := by unfold rlen; rw [hL.1, hR.1]
        rw [hrl] at hrow
        have hrow1 : ml ≤ 1048576 := by omega
        have hrow2 : mr ≤ 1048576 := by omega
        have hCALL := fun (W : World) (k1 : RI W L ml l) (k2 : RI W R mr r) (k3 : RI W L' ml' l') (k4 : RI W R' mr' r') => sameRule_any L ml dl R mr dr L' ml' dl' R' mr' dr' l r l' r' W k1 k2 k3 k4 hrow1 hrow2
        have HC := Lib.hid hCALL
        have hA0 : Below wr.heap.size wr (wr.alloc (.cells #[.slice L ml dl, .slice R mr dr] 56)) := (Below.refl _ _).alloc (Nat.le_refl _) _
        have hcl1 := keepC hA0 hcl'
        have hcr1 := keepC hA0 hcr'
        clear hA0
        have hk0 : (0 : Int) ≤ k := by omega
        have hk1 : (k : Int) < n := by omega
        clear hCALL hrl
        by_cases he : (l, r) = (l', r')
        · have HS := Lib.hid (takeU_step hso.out (by omega) (by omega) (by rw [← hx.out, ← hx'.out, he]))
          have HD : Hid (decide ((l, r) = (l', r')) = true) := Lib.hid (by rw [decide_eq_true_eq]; exact he)
          clear hx hx' he
          go_wp2_with fail
          refine (HC.out _ ((hL.alloc _).alloc _) ((hR.alloc _).alloc _) ((hL'.alloc _).alloc _) ((hR'.alloc _).alloc _)).mono ?_
          rintro e w1 ⟨rfl, hb1⟩
          rw [HD.out]
          replace hb1 := below_then (((Below.refl wr.heap.size wr).alloc (Nat.le_refl _) (.cells #[.slice L ml dl, .slice R mr dr] 56)).alloc (by simp) (.cells #[.slice L' ml' dl', .slice R' mr' dr'] 56)) hb1 (by simp <;> omega)
          go_wp2_with fail
          go_roundw
          case rel => exact ⟨k + 1, by omega, by go_num, HS, below_then hb hb1 hb.size⟩
          case measure => simp [intOf]; omega
        · have HS : Hid (decide (x = y) = false) := Lib.hid (by
            rw [decide_eq_false_iff_not]
            intro e
            exact he (by rw [hx.out, hx'.out, e]))
          have HD : Hid (decide ((l, r) = (l', r')) = false) := Lib.hid (by rw [decide_eq_false_iff_not]; exact he)
          clear hx hx' he
          go_wp2_with fail
          refine (HC.out _ ((hL.alloc _).alloc _) ((hR.alloc _).alloc _) ((hL'.alloc _).alloc _) ((hR'.alloc _).alloc _)).mono ?_
          rintro e w1 ⟨rfl, hb1⟩
          rw [HD.out]
          replace hb1 := below_then (((Below.refl wr.heap.size wr).alloc (Nat.le_refl _) (.cells #[.slice L ml dl, .slice R mr dr] 56)).alloc (by simp) (.cells #[.slice L' ml' dl', .slice R' mr' dr'] 56)) hb1 (by simp <;> omega)
          go_wp2_with fail
          go_ret
          exact ⟨ret_bool HS.out.symm, below_then hb hb1 hb.size⟩
      · have hkn : k = n := by omega
        subst hkn
        have HS : Hid (decide (x = y) = true) := Lib.hid (by
          have := hso.out
          rw [List.take_of_length_le (by omega), List.take_of_length_le (by omega)] at this
          rw [decide_eq_true_eq]; exact this)
        go_wp2_with fail
        go_ret
        exact ⟨ret_bool HS.out.symm, hb⟩
  · have hne : ¬ x = y := fun e => hnm (by rw [← hl, ← hl', e])
    have hnm1 : ((n : Int) == (m : Int)) = false := by simp; omega
    go_enter Try.func72, Try.ntmps72
    go_wp2_with fail
    go_ret
    exact ⟨ret_bool (by simp [hne]), Below.refl _ _⟩
end Go.Proofs.Ytkmkopfkhpgagaa
