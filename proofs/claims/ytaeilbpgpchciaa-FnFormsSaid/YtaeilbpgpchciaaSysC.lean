/- Contracts: a rule with a property among the rules of a system. -/
import Derived.Test.YtaeilbpgpchciaaSysOk
namespace Go.Proofs.Ytaeilbpgpchciaa
open Go.RowKit
set_option linter.unusedVariables false

theorem any_hit {x : List (List Int × List Int)} {p : List Int × List Int → Bool} {k : Nat} {t : List Int × List Int} (hk : k < x.length) (ht : t = x.getD k ([], [])) (h : p t = true) : x.any p = true := by
  rw [List.any_eq_true]
  rw [List.getD_eq_getElem?_getD, List.getElem?_eq_getElem hk, Option.getD_some] at ht
  exact ⟨t, by rw [ht]; exact List.getElem_mem hk, h⟩
theorem any_step {x : List (List Int × List Int)} {p : List Int × List Int → Bool} {k : Nat} {t : List Int × List Int} (hs : (x.take k).any p = false) (hk : k < x.length) (ht : t = x.getD k ([], [])) (h : p t = false) : (x.take (k + 1)).any p = false := by
  rw [takeU_snoc hk ht, List.any_append, hs]; simp [h]
theorem any_end {x : List (List Int × List Int)} {p : List Int × List Int → Bool} {n : Nat} (hl : x.length = n) (hs : (x.take n).any p = false) : x.any p = false := by
  rwa [List.take_of_length_le (by omega)] at hs
set_option maxHeartbeats 1000000 in
set_option maxRecDepth 20000 in
theorem indexFalls_any (p : List Int × List Int → Bool) (A : Option Addr) (n c : Nat) (x : List (List Int × List Int)) (w : World) (h : RU w A n x) (hn : n ≤ 1048576)
    (hf : ∀ (W : World) (k : Nat) (B : Option Addr) (m d : Nat) (C : Option Addr) (o f : Nat) (l r : List Int), k < x.length → (l, r) = x.getD k ([], []) → RI W B m l → RI W C o r → Calls Try.prog 21 #[.agg #[.slice B m d, .slice C o f]] W fun e w' => e = .returned (.bool (p (l, r))) ∧ Below W.heap.size W w') :
    Calls Try.prog 37 #[.slice A n c, .func (.func 21) #[] #[]] w fun e w' => ∃ j : Int, e = .returned (.int .i64 j) ∧ decide (0 ≤ j) = x.any p ∧ Below w.heap.size w w' := by
  have hl := h.1
  have HF := Lib.hid hf
  clear hf
  go_enter Try.func37, Try.ntmps37
  go_wp2_with fail
  go_loopw [8, 5] (fun i _ wr => ∃ k : Nat, k ≤ n ∧ i = .int .i64 k ∧ Hid ((x.take k).any p = false) ∧ Below w.heap.size w wr) (fun i _ _ => n - (intOf i).toNat)
  case atStart => exact ⟨0, Nat.zero_le _, rfl, Lib.hid (by simp), Below.refl _ _⟩
  case round =>
    obtain ⟨k, hk, rfl, hso, hb⟩ := hrel
    by_cases hlt : k < n
    · obtain ⟨g, off, L, ml, dl, R, mr, dr, l, r, rfl, hcl, hcr, hL, hR, _, _, _, _, hx⟩ := (h.below hb).at_ hlt
      cases hT : p (l, r)
      · have HS := Lib.hid (any_step hso.out (by omega) hx.out hT)
        have HT := Lib.hid hT
        have HC := Lib.hid (HF.out wr k L ml dl R mr dr l r (by omega) hx.out hL hR)
        clear hx hT
        go_wp2_with fail
        refine HC.out.mono ?_
        rintro e w1 ⟨rfl, hb1⟩
        rw [HT.out]
        go_wp2_with fail
        go_roundw
        case rel => exact ⟨k + 1, by omega, by go_num, HS, below_then hb hb1 hb.size⟩
        case measure => simp [intOf]; omega
      · have HS := Lib.hid (any_hit (p := p) (by omega) hx.out hT)
        have HT := Lib.hid hT
        have HC := Lib.hid (HF.out wr k L ml dl R mr dr l r (by omega) hx.out hL hR)
        clear hx hT
        go_wp2_with fail
        refine HC.out.mono ?_
        rintro e w1 ⟨rfl, hb1⟩
        rw [HT.out]
        go_wp2_with fail
        go_ret
        exact ⟨k, rfl, by rw [HS.out]; simp, below_then hb hb1 hb.size⟩
    · have hkn : k = n := by omega
      subst hkn
      have HS := Lib.hid (any_end hl hso.out)
      go_wp2_with fail
      go_ret
      exact ⟨-1, rfl, by rw [HS.out]; rfl, hb⟩
set_option maxHeartbeats 400000 in
theorem containsFalls_any (p : List Int × List Int → Bool) (A : Option Addr) (n c : Nat) (x : List (List Int × List Int)) (w : World) (h : RU w A n x) (hn : n ≤ 1048576)
    (hf : ∀ (W : World) (k : Nat) (B : Option Addr) (m d : Nat) (C : Option Addr) (o f : Nat) (l r : List Int), k < x.length → (l, r) = x.getD k ([], []) → RI W B m l → RI W C o r → Calls Try.prog 21 #[.agg #[.slice B m d, .slice C o f]] W fun e w' => e = .returned (.bool (p (l, r))) ∧ Below W.heap.size W w') :
    Calls Try.prog 19 #[.slice A n c, .func (.func 21) #[] #[]] w fun e w' => e = .returned (.bool (x.any p)) ∧ Below w.heap.size w w' := by
  have HF := Lib.hid hf
  clear hf
  go_enter Try.func19, Try.ntmps19
  go_wp2_with fail
  refine (indexFalls_any p A n c x _ h hn HF.out).mono ?_
  rintro e w1 ⟨j, rfl, hj, hb1⟩
  have HJ := Lib.hid hj
  clear hj
  go_wp2_with fail
  go_ret
  exact ⟨ret_bool HJ.out, hb1⟩
/-- A rule that ends in a variable. -/
def falls (t : List Int × List Int) : Bool := decide (t.2.getD 0 0 < 0)
def collapsingIn (xs : List Int) (x : List (List Int × List Int)) : Bool := systemOk xs x && x.any falls
theorem collapsing_no {xs : List Int} {x : List (List Int × List Int)} (h : systemOk xs x = false) : collapsingIn xs x = false := by unfold collapsingIn; rw [h]; rfl
theorem collapsing_yes {xs : List Int} {x : List (List Int × List Int)} (h : systemOk xs x = true) : collapsingIn xs x = x.any falls := by unfold collapsingIn; rw [h]; rfl
theorem rule_lens {xs : List Int} {x : List (List Int × List Int)} (h : systemOk xs x = true) {k : Nat} (hk : k < x.length) {l r : List Int} (ht : (l, r) = x.getD k ([], [])) : (1 ≤ l.length ∧ l.length ≤ 60) ∧ (1 ≤ r.length ∧ r.length ≤ 60) ∧ 0 ≤ l.getD 0 0 ∧ Pl.termOk xs l = true ∧ Pl.termOk xs r = true ∧ ruleOk xs l r = true := by
  have h1 := (systemOk_iff.1 h).2.2 k hk
  rw [← ht] at h1
  have h2 := h1
  unfold ruleOk at h1
  simp only [Bool.and_eq_true, decide_eq_true_eq] at h1
  exact ⟨(Pl.termOk_iff.1 h1.1.1.1).2.1, (Pl.termOk_iff.1 h1.1.1.2).2.1, h1.1.2, h1.1.1.1, h1.1.1.2, h2⟩
set_option maxHeartbeats 400000 in
theorem fallsFn_any (B : Option Addr) (m d : Nat) (C : Option Addr) (o f : Nat) (l r : List Int) (w : World) (h : RI w C o r) (ho : 1 ≤ o) (ho2 : o ≤ 60) :
    Calls Try.prog 21 #[.agg #[.slice B m d, .slice C o f]] w fun e w' => e = .returned (.bool (falls (l, r))) ∧ Below w.heap.size w w' := by
  obtain ⟨g, off, v, rfl, hc, hv⟩ := h.at_ (k := 0) (by omega)
  rw [Nat.add_zero] at hc
  have hlt : g < w.heap.size := World.block_lt_of_cell? _ _ hc
  have HE : Hid (falls (l, r) = decide (v < 0)) := Lib.hid (by unfold falls; rw [hv.out])
  have ho1 : (0 : Int) < o := by omega
  clear hv
  go_enter Try.func21, Try.ntmps21
  go_wp2_with fail
  go_ret
  exact ⟨ret_bool HE.out.symm, (Below.refl _ _).alloc (Nat.le_refl _) _⟩
set_option maxHeartbeats 1000000 in
theorem I_CollapsingIn (A : Option Addr) (n c : Nat) (xs : List Int) (B : Option Addr) (m d : Nat) (x : List (List Int × List Int)) (w : World) (h : RI w A n xs) (h' : RU w B m x) (hs : n + wtU x ≤ 1048576) :
    Calls Try.prog 8 #[.agg #[.slice A n c, .slice B m d]] w fun e w' => e = .returned (.bool (collapsingIn xs x)) ∧ Below w.heap.size w w' := by
  have hl := h'.1
  have hm1 : m ≤ 1048576 := by unfold wtU at hs; omega
  cases hq : systemOk xs x
  · have HE := Lib.hid (collapsing_no hq)
    have HQ := Lib.hid hq
    go_enter Try.func8, Try.ntmps8
    go_wp2_with fail
    refine (implSystemOk_any A n c xs B m d x _ (h.alloc _) (h'.alloc _) hs).mono ?_
    rintro e w1 ⟨rfl, hb1⟩
    rw [HQ.out]
    have hB : Below w.heap.size w w1 := below_then ((Below.refl _ _).alloc (Nat.le_refl _) _) hb1 (by simp)
    go_wp2_with fail
    go_ret
    exact ⟨ret_bool (by exact HE.out.symm), hB⟩
  · have HE := Lib.hid (collapsing_yes hq)
    have HQ := Lib.hid hq
    have HF := Lib.hid (fun (W : World) (k : Nat) (B : Option Addr) (m d : Nat) (C : Option Addr) (o f : Nat) (l r : List Int) (hk : k < x.length) (ht : (l, r) = x.getD k ([], [])) (h1 : RI W B m l) (h2 : RI W C o r) => fallsFn_any B m d C o f l r W h2 (by have := (rule_lens hq hk ht).2.1; rw [h2.1] at this; exact this.1) (by have := (rule_lens hq hk ht).2.1; rw [h2.1] at this; exact this.2))
    clear hq
    go_enter Try.func8, Try.ntmps8
    go_wp2_with fail
    refine (implSystemOk_any A n c xs B m d x _ (h.alloc _) (h'.alloc _) hs).mono ?_
    rintro e w1 ⟨rfl, hb1⟩
    rw [HQ.out]
    have hB : Below w.heap.size w w1 := below_then ((Below.refl _ _).alloc (Nat.le_refl _) _) hb1 (by simp)
    have by0 : w1.cell? ⟨w.heap.size, 1, none⟩ = some (.slice B m d) := (hb1.cell (by simp)).trans (by simp)
    clear hb1
    go_wp2_with fail
    refine (containsFalls_any falls B m d x _ (h'.below hB) hm1 HF.out).mono ?_
    rintro e w2 ⟨rfl, hb2⟩
    replace hB := below_then hB hb2 hB.size
    go_wp2_with fail
    go_ret
    exact ⟨ret_bool (by exact HE.out.symm), hB⟩
set_option maxHeartbeats 2000000 in
theorem S_CollapsingIn (A : Option Addr) (n c : Nat) (xs : List Int) (B : Option Addr) (m d : Nat) (x : List (List Int × List Int)) (w : World) (h : RI w A n xs) (h' : RU w B m x) (hs : n + wtU x ≤ 1048576) :
    Calls Try.prog 11 #[.agg #[.slice A n c, .slice B m d]] w fun e w' => e = .returned (.bool (collapsingIn xs x)) ∧ Below w.heap.size w w' := by
  have hl := h'.1
  have hm1 : m ≤ 1048576 := by unfold wtU at hs; omega
  have hB0 : Below w.heap.size w (w.alloc (.cells #[.slice A n c, .slice B m d] 29)) := (Below.refl _ _).alloc (Nat.le_refl _) _
  have bx : (w.alloc (.cells #[.slice A n c, .slice B m d] 29)).cell? ⟨w.heap.size, 0, none⟩ = some (.slice A n c) := by simp
  have by0 : (w.alloc (.cells #[.slice A n c, .slice B m d] 29)).cell? ⟨w.heap.size, 1, none⟩ = some (.slice B m d) := by simp
  have HQ : Hid (∀ b, systemOk xs x = b → True) := Lib.hid (fun _ _ => trivial)
  have HNO : Hid (systemOk xs x = false → collapsingIn xs x = false) := Lib.hid collapsing_no
  have HM : Hid (m = 0 → collapsingIn xs x = false) := Lib.hid (fun h0 => by
    have : x = [] := List.eq_nil_of_length_eq_zero (by omega)
    subst this; unfold collapsingIn; simp)
  go_enter Try.func11, Try.ntmps11
  go_wp2_with fail
  generalize w.alloc (.cells #[.slice A n c, .slice B m d] 29) = W0 at *
  go_loopw [3] (fun i wr => ∃ k : Nat, k ≤ m ∧ i = .int .i64 k ∧ Hid (0 < k → systemOk xs x = true) ∧ Hid ((x.take k).any falls = false) ∧ Below W0.heap.size W0 wr) (fun i _ => m - (intOf i).toNat)
  case atStart => exact ⟨0, Nat.zero_le _, rfl, Lib.hid (fun h => absurd h (by omega)), Lib.hid (by simp), Below.refl _ _⟩
  case round =>
    obtain ⟨k, hk, rfl, hok, hso, hb⟩ := hrel
    have bx' := keepC hb bx
    have by0' := keepC hb by0
    have hBr := below_then hB0 hb hB0.size
    by_cases hlt : k < m
    · have hlt' : (k : Int) < m := by omega
      cases hq : systemOk xs x
      · have HS := Lib.hid hq
        have HC := Lib.hid (HNO.out hq)
        clear hok hq
        go_wp2_with fail
        refine (specSystemOk_any A n c xs B m d x _ (h.below hBr) (h'.below hBr) hs).mono ?_
        rintro e w1 ⟨rfl, hb1⟩
        rw [HS.out]
        go_wp2_with fail
        go_ret
        exact ⟨ret_bool HC.out.symm, below_then hBr hb1 hBr.size⟩
      · obtain ⟨g, off, L, ml, dl, R, mr, dr, l, r, rfl, hcl, hcr, hL, hR, _, _, _, _, hx⟩ := (h'.below hBr).at_ hlt
        have hrl := rule_lens hq (by omega) hx.out
        rw [hR.1] at hrl
        have hr1 := hrl.2.1
        clear hrl
        obtain ⟨g2, off2, v, rfl, hcv, hv⟩ := hR.at_ (k := 0) (by omega)
        rw [Nat.add_zero] at hcv
        have HY := Lib.hid (collapsing_yes hq)
        have HS := Lib.hid hq
        have hr0 : (0 : Int) < mr := by omega
        by_cases h0 : v < 0
        · have e0 : decide (v < 0) = true := by simpa using h0
          have HA := Lib.hid (any_hit (p := falls) (by omega) hx.out (by unfold falls; rw [← hv.out]; exact e0))
          clear hok hq hx hv
          go_wp2_with fail
          refine (specSystemOk_any A n c xs _ m d x _ (h.below hBr) (h'.below hBr) hs).mono ?_
          rintro e w1 ⟨rfl, hb1⟩
          rw [HS.out]
          replace by0' := keepC hb1 by0'
          replace hcr := keepC hb1 hcr
          replace hcv := keepC hb1 hcv
          have hB1 := below_then hBr hb1 hBr.size
          clear hb1
          go_wp2_with fail
          go_ret
          exact ⟨ret_bool (by rw [HY.out, HA.out]), hB1⟩
        · have e0 : decide (v < 0) = false := by simpa using h0
          have HA := Lib.hid (any_step (p := falls) hso.out (by omega) hx.out (by unfold falls; rw [← hv.out]; exact e0))
          clear hok hq hx hv
          go_wp2_with fail
          refine (specSystemOk_any A n c xs _ m d x _ (h.below hBr) (h'.below hBr) hs).mono ?_
          rintro e w1 ⟨rfl, hb1⟩
          rw [HS.out]
          replace by0' := keepC hb1 by0'
          replace hcr := keepC hb1 hcr
          replace hcv := keepC hb1 hcv
          have hB1 := below_then hb hb1 hb.size
          clear hb1
          go_wp2_with fail
          go_roundw
          case rel => exact ⟨k + 1, by omega, by go_num, (by first | exact Lib.hid (fun _ => HS.out) | exact Lib.hid (fun _ => trivial) | exact Lib.hid trivial), HA, hB1⟩
          case measure => simp [intOf]; omega
    · have hkm : k = m := by omega
      have HC : Hid (collapsingIn xs x = false) := Lib.hid (by
        by_cases h0 : m = 0
        · exact HM.out h0
        · rw [collapsing_yes (hok.out (by omega))]
          exact any_end hl (by rw [← hkm]; exact hso.out))
      have hlt' : ¬ (k : Int) < m := by omega
      clear hok
      go_wp2_with fail
      go_ret
      exact ⟨ret_bool HC.out.symm, hBr⟩
end Go.Proofs.Ytaeilbpgpchciaa
