/- Contracts: right systems. -/
import Derived.Test.YtcjgcopkeeiicaaRuleOk
import Derived.Test.YtcjgcopkeeiicaaSys
namespace Go.Proofs.Ytcjgcopkeeiicaa
open Go.RowKit
set_option linter.unusedVariables false

/-- The first k rules are right. -/
def syTo (xs : List Int) (x : List (List Int × List Int)) (k : Nat) : Bool := (List.range k).all fun i => ruleOk xs (x.getD i ([], [])).1 (x.getD i ([], [])).2
def systemOk (xs : List Int) (x : List (List Int × List Int)) : Bool := Pl.sigOk xs && decide (x.length ≤ 12) && syTo xs x x.length
theorem systemOk_no1 {xs : List Int} {x : List (List Int × List Int)} (h : Pl.sigOk xs = false) : systemOk xs x = false := by unfold systemOk; rw [h]; rfl
theorem systemOk_no2 {xs : List Int} {x : List (List Int × List Int)} (h1 : Pl.sigOk xs = true) (h : ¬ x.length ≤ 12) : systemOk xs x = false := by unfold systemOk; rw [h1, decide_eq_false h]; rfl
theorem systemOk_yes {xs : List Int} {x : List (List Int × List Int)} {m : Nat} (h1 : Pl.sigOk xs = true) (hm : x.length = m) (h : m ≤ 12) : systemOk xs x = syTo xs x m := by unfold systemOk; rw [h1, hm, decide_eq_true h]; rfl
theorem systemOk_iff {xs : List Int} {x : List (List Int × List Int)} : systemOk xs x = true ↔ Pl.sigOk xs = true ∧ x.length ≤ 12 ∧ ∀ k, k < x.length → ruleOk xs (x.getD k ([], [])).1 (x.getD k ([], [])).2 = true := by
  unfold systemOk syTo
  simp only [Bool.and_eq_true, decide_eq_true_eq, List.all_eq_true, List.mem_range, and_assoc]
theorem sy_bad {xs : List Int} {x : List (List Int × List Int)} {k m : Nat} {l r : List Int} (hk : k < m) (ht : (l, r) = x.getD k ([], [])) (h : ruleOk xs l r = false) : syTo xs x m = false :=
  range_all_stop hk (by rw [← ht]; exact h)
theorem sy_ok {xs : List Int} {x : List (List Int × List Int)} {k : Nat} {l r : List Int} (hs : syTo xs x k = true) (ht : (l, r) = x.getD k ([], [])) (h : ruleOk xs l r = true) : syTo xs x (k + 1) = true :=
  range_all_step hs (by rw [← ht]; exact h)
set_option maxHeartbeats 2000000 in
theorem specSystemOk_any (A : Option Addr) (n c : Nat) (xs : List Int) (B : Option Addr) (m d : Nat) (x : List (List Int × List Int)) (w : World) (h : RI w A n xs) (h' : RU w B m x) (hw : n + wtU x ≤ 1048576) :
    Calls Try.prog 21 #[.agg #[.slice A n c, .slice B m d]] w fun e w' => e = .returned (.bool (systemOk xs x)) ∧ Below w.heap.size w w' := by
  have hl := h'.1
  have hm1 : n + m ≤ 1048576 := by unfold wtU at hw; omega
  cases hs : Pl.sigOk xs
  · have HE := Lib.hid (systemOk_no1 (x := x) hs)
    go_enter Try.func21, Try.ntmps21
    go_wp2_with fail
    refine (specSigOk_any A n c xs _ (h.alloc _) (by omega)).mono ?_
    rintro e w1 ⟨rfl, hb1⟩
    have hB : Below w.heap.size w w1 := below_then ((Below.refl _ _).alloc (Nat.le_refl _) _) hb1 (by simp)
    go_wp2_with fail
    go_ret
    exact ⟨ret_bool (by exact HE.out.symm), hB⟩
  · by_cases hm : m ≤ 12
    · have HE := Lib.hid (systemOk_yes hs hl hm)
      have hm2 : ¬ (12 : Int) < m := by omega
      go_enter Try.func21, Try.ntmps21
      go_wp2_with fail
      refine (specSigOk_any A n c xs _ (h.alloc _) (by omega)).mono ?_
      rintro e w1 ⟨rfl, hb1⟩
      have hB : Below w.heap.size w w1 := below_then ((Below.refl _ _).alloc (Nat.le_refl _) _) hb1 (by simp)
      have bx : w1.cell? ⟨w.heap.size, 0, none⟩ = some (.slice A n c) := (hb1.cell (by simp)).trans (by simp)
      have by0 : w1.cell? ⟨w.heap.size, 1, none⟩ = some (.slice B m d) := (hb1.cell (by simp)).trans (by simp)
      replace h := (h.alloc _).below hb1
      replace h' := (h'.alloc _).below hb1
      clear hb1
      go_wp2_with fail
      go_loopw [3] (fun i wr => ∃ k : Nat, k ≤ m ∧ i = .int .i64 k ∧ Hid (syTo xs x k = true) ∧ Below w1.heap.size w1 wr) (fun i _ => m - (intOf i).toNat)
      case atStart => exact ⟨0, Nat.zero_le _, rfl, Lib.hid rfl, Below.refl _ _⟩
      case round =>
        obtain ⟨k, hk, rfl, hso, hb⟩ := hrel
        have bx' := keepC hb bx
        have by0' := keepC hb by0
        have hBr := below_then hB hb hB.size
        have hszr : w.heap.size < wr.heap.size := World.block_lt_of_cell? _ _ bx'
        by_cases hlt : k < m
        · obtain ⟨g, off, L, ml, dl, R, mr, dr, l, r, rfl, hcl, hcr, hL, hR, _, _, _, _, hx⟩ := (h'.below hb).at_ hlt
          have hrow := wtU_row (x := x) (k := k) (by omega)
          rw [← hx.out] at hrow
          have hrl : rlen (l, r) = ml + mr := by unfold rlen; rw [hL.1, hR.1]
          rw [hrl] at hrow
          have hk0 : (0 : Int) ≤ k := by omega
          have hk1 : (k : Int) < m := by omega
          cases hT : ruleOk xs l r
          · have HS := Lib.hid (sy_bad hlt hx.out hT)
            have HT := Lib.hid hT
            clear hx hT
            go_wp2_with fail
            go_region_held3 (fun w' => Below wr.heap.size wr w' ∧ w'.cell? ⟨w.heap.size, 0, none⟩ = some (.slice A n c) ∧ w'.cell? ⟨w.heap.size, 1, none⟩ = some (.slice (some ⟨g, off, none⟩) m d) ∧ w'.cell? ⟨g, off + k * 2, none⟩ = some (.slice L ml dl) ∧ w'.cell? ⟨g, off + k * 2 + 1, none⟩ = some (.slice R mr dr))
              (first | exact ⟨(Below.refl _ _).drew, bx', by0', hcl, hcr⟩ | exact keepS4 hb3 (by assumption))
              ((go_at_call 39; refine (S_RuleOk A n c xs L ml dl l R mr dr r _ ?_ ?_ ?_ (by omega) (by omega)).mono ?_; exact riS (h.below hb) (by assumption); exact riS hL (by assumption); exact riS hR (by assumption); rintro e w3 ⟨rfl, hb3⟩))
            rename_i hS
            replace hb3 := hS.1
            clear hS
            rw [HT.out]
            go_wp2_with fail
            go_ret
            exact ⟨ret_bool (by rw [HE.out, HS.out]), below_then hBr hb3 hBr.size⟩
          · have HS := Lib.hid (sy_ok hso.out hx.out hT)
            have HT := Lib.hid hT
            clear hx hT
            go_wp2_with fail
            go_region_held3 (fun w' => Below wr.heap.size wr w' ∧ w'.cell? ⟨w.heap.size, 0, none⟩ = some (.slice A n c) ∧ w'.cell? ⟨w.heap.size, 1, none⟩ = some (.slice (some ⟨g, off, none⟩) m d) ∧ w'.cell? ⟨g, off + k * 2, none⟩ = some (.slice L ml dl) ∧ w'.cell? ⟨g, off + k * 2 + 1, none⟩ = some (.slice R mr dr))
              (first | exact ⟨(Below.refl _ _).drew, bx', by0', hcl, hcr⟩ | exact keepS4 hb3 (by assumption))
              ((go_at_call 39; refine (S_RuleOk A n c xs L ml dl l R mr dr r _ ?_ ?_ ?_ (by omega) (by omega)).mono ?_; exact riS (h.below hb) (by assumption); exact riS hL (by assumption); exact riS hR (by assumption); rintro e w3 ⟨rfl, hb3⟩))
            rename_i hS
            replace hb3 := hS.1
            clear hS
            rw [HT.out]
            go_wp2_with fail
            go_roundw
            case rel => exact ⟨k + 1, by omega, by go_num, HS, below_then hb hb3 hb.size⟩
            case measure => simp [intOf]; omega
        · have hkm : k = m := by omega
          subst hkm
          go_wp2_with fail
          go_ret
          exact ⟨ret_bool (by rw [HE.out, hso.out]), hBr⟩
    · have HE := Lib.hid (systemOk_no2 (x := x) hs (by omega))
      have hm2 : (12 : Int) < m := by omega
      go_enter Try.func21, Try.ntmps21
      go_wp2_with fail
      refine (specSigOk_any A n c xs _ (h.alloc _) (by omega)).mono ?_
      rintro e w1 ⟨rfl, hb1⟩
      have hB : Below w.heap.size w w1 := below_then ((Below.refl _ _).alloc (Nat.le_refl _) _) hb1 (by simp)
      have by0 : w1.cell? ⟨w.heap.size, 1, none⟩ = some (.slice B m d) := (hb1.cell (by simp)).trans (by simp)
      clear hb1
      go_wp2_with fail
      go_ret
      exact ⟨ret_bool (by exact HE.out.symm), hB⟩
set_option maxHeartbeats 2000000 in
theorem implSystemOk_any (A : Option Addr) (n c : Nat) (xs : List Int) (B : Option Addr) (m d : Nat) (x : List (List Int × List Int)) (w : World) (h : RI w A n xs) (h' : RU w B m x) (hw : n + wtU x ≤ 1048576) :
    Calls Try.prog 26 #[.agg #[.slice A n c, .slice B m d]] w fun e w' => e = .returned (.bool (systemOk xs x)) ∧ Below w.heap.size w w' := by
  have hl := h'.1
  have hm1 : n + m ≤ 1048576 := by unfold wtU at hw; omega
  cases hs : Pl.sigOk xs
  · have HE := Lib.hid (systemOk_no1 (x := x) hs)
    go_enter Try.func26, Try.ntmps26
    go_wp2_with fail
    refine (implSigOk_any A n c xs _ (h.alloc _) (by omega)).mono ?_
    rintro e w1 ⟨rfl, hb1⟩
    have hB : Below w.heap.size w w1 := below_then ((Below.refl _ _).alloc (Nat.le_refl _) _) hb1 (by simp)
    go_wp2_with fail
    go_ret
    exact ⟨ret_bool (by exact HE.out.symm), hB⟩
  · by_cases hm : m ≤ 12
    · have HE := Lib.hid (systemOk_yes hs hl hm)
      have hm2 : ¬ (12 : Int) < m := by omega
      go_enter Try.func26, Try.ntmps26
      go_wp2_with fail
      refine (implSigOk_any A n c xs _ (h.alloc _) (by omega)).mono ?_
      rintro e w1 ⟨rfl, hb1⟩
      have hB : Below w.heap.size w w1 := below_then ((Below.refl _ _).alloc (Nat.le_refl _) _) hb1 (by simp)
      have bx : w1.cell? ⟨w.heap.size, 0, none⟩ = some (.slice A n c) := (hb1.cell (by simp)).trans (by simp)
      have by0 : w1.cell? ⟨w.heap.size, 1, none⟩ = some (.slice B m d) := (hb1.cell (by simp)).trans (by simp)
      replace h := (h.alloc _).below hb1
      replace h' := (h'.alloc _).below hb1
      clear hb1
      go_wp2_with fail
      go_loopw [18, 4] (fun i _ wr => ∃ k : Nat, k ≤ m ∧ i = .int .i64 k ∧ Hid (syTo xs x k = true) ∧ Below w1.heap.size w1 wr) (fun i _ _ => m - (intOf i).toNat)
      case atStart => exact ⟨0, Nat.zero_le _, rfl, Lib.hid rfl, Below.refl _ _⟩
      case round =>
        obtain ⟨k, hk, rfl, hso, hb⟩ := hrel
        have bx' := keepC hb bx
        have by0' := keepC hb by0
        have hBr := below_then hB hb hB.size
        have hszr : w.heap.size < wr.heap.size := World.block_lt_of_cell? _ _ bx'
        by_cases hlt : k < m
        · obtain ⟨g, off, L, ml, dl, R, mr, dr, l, r, rfl, hcl, hcr, hL, hR, _, _, _, _, hx⟩ := (h'.below hb).at_ hlt
          have hrow := wtU_row (x := x) (k := k) (by omega)
          rw [← hx.out] at hrow
          have hrl : rlen (l, r) = ml + mr := by unfold rlen; rw [hL.1, hR.1]
          rw [hrl] at hrow
          have hk0 : (0 : Int) ≤ k := by omega
          have hk1 : (k : Int) < m := by omega
          cases hT : ruleOk xs l r
          · have HS := Lib.hid (sy_bad hlt hx.out hT)
            have HT := Lib.hid hT
            clear hx hT
            go_wp2_with fail
            refine (I_RuleOk A n c xs L ml dl l R mr dr r _ ((h.below hb).alloc _) (hL.alloc _) (hR.alloc _) (by omega) (by omega)).mono ?_
            rintro e w3 ⟨rfl, hb3⟩
            replace hb3 := below_then ((Below.refl wr.heap.size wr).alloc (Nat.le_refl _) (.cells #[.slice L ml dl, .slice R mr dr] 52)) hb3 (by simp)
            rw [HT.out]
            go_wp2_with fail
            go_ret
            exact ⟨ret_bool (by rw [HE.out, HS.out]), below_then hBr hb3 hBr.size⟩
          · have HS := Lib.hid (sy_ok hso.out hx.out hT)
            have HT := Lib.hid hT
            clear hx hT
            go_wp2_with fail
            refine (I_RuleOk A n c xs L ml dl l R mr dr r _ ((h.below hb).alloc _) (hL.alloc _) (hR.alloc _) (by omega) (by omega)).mono ?_
            rintro e w3 ⟨rfl, hb3⟩
            replace hb3 := below_then ((Below.refl wr.heap.size wr).alloc (Nat.le_refl _) (.cells #[.slice L ml dl, .slice R mr dr] 52)) hb3 (by simp)
            rw [HT.out]
            go_wp2_with fail
            go_roundw
            case rel => exact ⟨k + 1, by omega, by go_num, HS, below_then hb hb3 hb.size⟩
            case measure => simp [intOf]; omega
        · have hkm : k = m := by omega
          subst hkm
          go_wp2_with fail
          go_ret
          exact ⟨ret_bool (by rw [HE.out, hso.out]), hBr⟩
    · have HE := Lib.hid (systemOk_no2 (x := x) hs (by omega))
      have hm2 : (12 : Int) < m := by omega
      go_enter Try.func26, Try.ntmps26
      go_wp2_with fail
      refine (implSigOk_any A n c xs _ (h.alloc _) (by omega)).mono ?_
      rintro e w1 ⟨rfl, hb1⟩
      have hB : Below w.heap.size w w1 := below_then ((Below.refl _ _).alloc (Nat.le_refl _) _) hb1 (by simp)
      have by0 : w1.cell? ⟨w.heap.size, 1, none⟩ = some (.slice B m d) := (hb1.cell (by simp)).trans (by simp)
      clear hb1
      go_wp2_with fail
      go_ret
      exact ⟨ret_bool (by exact HE.out.symm), hB⟩
theorem S_SystemOk (A : Option Addr) (n c : Nat) (xs : List Int) (B : Option Addr) (m d : Nat) (x : List (List Int × List Int)) (w : World) (h : RI w A n xs) (h' : RU w B m x) (hs : n + wtU x ≤ 1048576) :
    Calls Try.prog 21 #[.agg #[.slice A n c, .slice B m d]] w fun e w' => e = .returned (.bool (systemOk xs x)) ∧ Below w.heap.size w w' := specSystemOk_any A n c xs B m d x w h h' hs
theorem I_SystemOk (A : Option Addr) (n c : Nat) (xs : List Int) (B : Option Addr) (m d : Nat) (x : List (List Int × List Int)) (w : World) (h : RI w A n xs) (h' : RU w B m x) (hs : n + wtU x ≤ 1048576) :
    Calls Try.prog 26 #[.agg #[.slice A n c, .slice B m d]] w fun e w' => e = .returned (.bool (systemOk xs x)) ∧ Below w.heap.size w w' := implSystemOk_any A n c xs B m d x w h h' hs
end Go.Proofs.Ytcjgcopkeeiicaa
