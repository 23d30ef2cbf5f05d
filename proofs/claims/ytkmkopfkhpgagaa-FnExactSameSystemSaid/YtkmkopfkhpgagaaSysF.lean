/- Contracts: are two systems the same? The two sides. -/
import Derived.Test.YtkmkopfkhpgagaaSysE
namespace Go.Proofs.Ytkmkopfkhpgagaa
open Go.RowKit
set_option linter.unusedVariables false

theorem keepS6 {W w1 w2 : World} {p q r s t o : Addr} {u v x y z a : Value} (hb : Below w1.heap.size w1 w2) (h : Below W.heap.size W w1 ∧ w1.cell? p = some u ∧ w1.cell? q = some v ∧ w1.cell? r = some x ∧ w1.cell? s = some y ∧ w1.cell? t = some z ∧ w1.cell? o = some a) :
    Below W.heap.size W w2 ∧ w2.cell? p = some u ∧ w2.cell? q = some v ∧ w2.cell? r = some x ∧ w2.cell? s = some y ∧ w2.cell? t = some z ∧ w2.cell? o = some a :=
  ⟨keepS0 hb h.1, keepC hb h.2.1, keepC hb h.2.2.1, keepC hb h.2.2.2.1, keepC hb h.2.2.2.2.1, keepC hb h.2.2.2.2.2.1, keepC hb h.2.2.2.2.2.2⟩
set_option maxHeartbeats 400000 in
theorem sameRules_any (A : Option Addr) (n c : Nat) (x : List (List Int × List Int)) (B : Option Addr) (m d : Nat) (y : List (List Int × List Int)) (w : World) (h : RU w A n x) (h' : RU w B m y) (hn : n ≤ 1048576) (hs : wtU x ≤ 1048576) (hm : m ≤ 1048576) :
    Calls Try.prog 40 #[.slice A n c, .slice B m d] w fun e w' => e = .returned (.bool (decide (x = y))) ∧ Below w.heap.size w w' := by
  have HC := Lib.hid (equalFunc_any A n c x B m d y w h h' hn hs hm)
  go_enter Try.func40, Try.ntmps40
  go_wp2_with fail
  refine HC.out.mono ?_
  rintro e w1 ⟨rfl, hb1⟩
  go_wp2_with fail
  go_ret
  exact ⟨ret_bool rfl, hb1⟩
def sameSystem (xs : List Int) (x : List (List Int × List Int)) (ys : List Int) (y : List (List Int × List Int)) : Bool := systemOk xs x && systemOk ys y && decide (xs = ys) && decide (x = y)
section
variable {xs ys : List Int} {x y : List (List Int × List Int)}
theorem ss_no1 (h : systemOk xs x = false) : sameSystem xs x ys y = false := by unfold sameSystem; rw [h]; rfl
theorem ss_no2 (h : systemOk ys y = false) : sameSystem xs x ys y = false := by unfold sameSystem; rw [h]; simp
theorem ss_no3 (h : decide (xs = ys) = false) : sameSystem xs x ys y = false := by unfold sameSystem; rw [h]; simp
theorem ss_no4 (h : x.length ≠ y.length) : sameSystem xs x ys y = false := by
  have : ¬ x = y := fun e => h (by rw [e])
  unfold sameSystem; simp [this]
theorem ss_no5 {k : Nat} {t t' : List Int × List Int} (ht : t = x.getD k ([], [])) (ht' : t' = y.getD k ([], [])) (h : ¬ t = t') : sameSystem xs x ys y = false := by
  have : ¬ x = y := fun e => h (by rw [ht, ht', e])
  unfold sameSystem; simp [this]
theorem ss_yes (h1 : systemOk xs x = true) (h2 : systemOk ys y = true) (h3 : decide (xs = ys) = true) : sameSystem xs x ys y = decide (x = y) := by unfold sameSystem; rw [h1, h2, h3]; simp
theorem ss_all {m : Nat} (h1 : systemOk xs x = true) (h2 : systemOk ys y = true) (h3 : decide (xs = ys) = true) (hl : x.length = m) (hl' : y.length = m) (h : x.take m = y.take m) : sameSystem xs x ys y = true := by
  rw [ss_yes h1 h2 h3, decide_eq_true_eq]
  rwa [List.take_of_length_le (by omega), List.take_of_length_le (by omega)] at h
end
set_option maxHeartbeats 2000000 in
set_option maxRecDepth 20000 in
theorem I_SameSystem (A : Option Addr) (n c : Nat) (xs : List Int) (B : Option Addr) (m d : Nat) (x : List (List Int × List Int)) (A' : Option Addr) (n' c' : Nat) (xs' : List Int) (B' : Option Addr) (m' d' : Nat) (x' : List (List Int × List Int)) (w : World) (h : RI w A n xs) (h' : RU w B m x) (k : RI w A' n' xs') (k' : RU w B' m' x') (hs : n + wtU x ≤ 1048576) (hs' : n' + wtU x' ≤ 1048576) :
    Calls Try.prog 14 #[.agg #[.slice A n c, .slice B m d], .agg #[.slice A' n' c', .slice B' m' d']] w fun e w' => e = .returned (.bool (sameSystem xs x xs' x')) ∧ Below w.heap.size w w' := by
  have hl := h'.1
  have hl' := k'.1
  have hm1 : n + m ≤ 1048576 := by unfold wtU at hs; omega
  have hm1' : n' + m' ≤ 1048576 := by unfold wtU at hs'; omega
  cases hq1 : systemOk xs x
  · have HE := Lib.hid (ss_no1 (ys := xs') (y := x') hq1)
    have H1 := Lib.hid hq1
    clear hq1
    go_enter Try.func14, Try.ntmps14
    go_wp2_with fail
    refine (implSystemOk_any A n c xs B m d x _ ((h.alloc _).alloc _) ((h'.alloc _).alloc _) hs).mono ?_
    rintro e w1 ⟨rfl, hb1⟩
    rw [H1.out]
    have hB : Below w.heap.size w w1 := below_then (((Below.refl _ _).alloc (Nat.le_refl _) _).alloc (by simp <;> omega) _) hb1 (by simp <;> omega)
    have b0 : w1.cell? ⟨w.heap.size, 0, none⟩ = some (.slice A n c) := (hb1.cell (by simp <;> omega)).trans (by simp)
    have b1 : w1.cell? ⟨w.heap.size, 1, none⟩ = some (.slice B m d) := (hb1.cell (by simp <;> omega)).trans (by simp)
    have c0 : w1.cell? ⟨w.heap.size + 1, 0, none⟩ = some (.slice A' n' c') := (hb1.cell (by simp <;> omega)).trans (by simp)
    have c1 : w1.cell? ⟨w.heap.size + 1, 1, none⟩ = some (.slice B' m' d') := (hb1.cell (by simp <;> omega)).trans (by simp)
    clear hb1
    go_wp2_with fail
    go_ret
    exact ⟨ret_bool HE.out.symm, hB⟩
  · skip
    cases hq2 : systemOk xs' x'
    · have HE := Lib.hid (ss_no2 (xs := xs) (x := x) hq2)
      have H1 := Lib.hid hq1
      have H2 := Lib.hid hq2
      clear hq1 hq2
      go_enter Try.func14, Try.ntmps14
      go_wp2_with fail
      refine (implSystemOk_any A n c xs B m d x _ ((h.alloc _).alloc _) ((h'.alloc _).alloc _) hs).mono ?_
      rintro e w1 ⟨rfl, hb1⟩
      rw [H1.out]
      have hB : Below w.heap.size w w1 := below_then (((Below.refl _ _).alloc (Nat.le_refl _) _).alloc (by simp <;> omega) _) hb1 (by simp <;> omega)
      have b0 : w1.cell? ⟨w.heap.size, 0, none⟩ = some (.slice A n c) := (hb1.cell (by simp <;> omega)).trans (by simp)
      have b1 : w1.cell? ⟨w.heap.size, 1, none⟩ = some (.slice B m d) := (hb1.cell (by simp <;> omega)).trans (by simp)
      have c0 : w1.cell? ⟨w.heap.size + 1, 0, none⟩ = some (.slice A' n' c') := (hb1.cell (by simp <;> omega)).trans (by simp)
      have c1 : w1.cell? ⟨w.heap.size + 1, 1, none⟩ = some (.slice B' m' d') := (hb1.cell (by simp <;> omega)).trans (by simp)
      clear hb1
      go_wp2_with fail
      refine (implSystemOk_any A' n' c' xs' B' m' d' x' _ (k.below hB) (k'.below hB) hs').mono ?_
      rintro e w2 ⟨rfl, hb2⟩
      rw [H2.out]
      replace hB := below_then hB hb2 hB.size
      replace b0 := keepC hb2 b0
      replace b1 := keepC hb2 b1
      replace c0 := keepC hb2 c0
      replace c1 := keepC hb2 c1
      clear hb2
      go_wp2_with fail
      go_ret
      exact ⟨ret_bool HE.out.symm, hB⟩
    · skip
      cases hq3 : decide (xs = xs')
      · have HE := Lib.hid (ss_no3 (x := x) (y := x') hq3)
        have H1 := Lib.hid hq1
        have H2 := Lib.hid hq2
        have H3 := Lib.hid hq3
        clear hq1 hq2 hq3
        go_enter Try.func14, Try.ntmps14
        go_wp2_with fail
        refine (implSystemOk_any A n c xs B m d x _ ((h.alloc _).alloc _) ((h'.alloc _).alloc _) hs).mono ?_
        rintro e w1 ⟨rfl, hb1⟩
        rw [H1.out]
        have hB : Below w.heap.size w w1 := below_then (((Below.refl _ _).alloc (Nat.le_refl _) _).alloc (by simp <;> omega) _) hb1 (by simp <;> omega)
        have b0 : w1.cell? ⟨w.heap.size, 0, none⟩ = some (.slice A n c) := (hb1.cell (by simp <;> omega)).trans (by simp)
        have b1 : w1.cell? ⟨w.heap.size, 1, none⟩ = some (.slice B m d) := (hb1.cell (by simp <;> omega)).trans (by simp)
        have c0 : w1.cell? ⟨w.heap.size + 1, 0, none⟩ = some (.slice A' n' c') := (hb1.cell (by simp <;> omega)).trans (by simp)
        have c1 : w1.cell? ⟨w.heap.size + 1, 1, none⟩ = some (.slice B' m' d') := (hb1.cell (by simp <;> omega)).trans (by simp)
        clear hb1
        go_wp2_with fail
        refine (implSystemOk_any A' n' c' xs' B' m' d' x' _ (k.below hB) (k'.below hB) hs').mono ?_
        rintro e w2 ⟨rfl, hb2⟩
        rw [H2.out]
        replace hB := below_then hB hb2 hB.size
        replace b0 := keepC hb2 b0
        replace b1 := keepC hb2 b1
        replace c0 := keepC hb2 c0
        replace c1 := keepC hb2 c1
        clear hb2
        go_wp2_with fail
        refine (slicesEqual_any A n c xs A' n' c' xs' _ (h.below hB) (k.below hB) (by omega)).mono ?_
        rintro e w3 ⟨rfl, hb3⟩
        rw [H3.out]
        replace hB := below_then hB hb3 hB.size
        replace b0 := keepC hb3 b0
        replace b1 := keepC hb3 b1
        replace c0 := keepC hb3 c0
        replace c1 := keepC hb3 c1
        clear hb3
        go_wp2_with fail
        go_ret
        exact ⟨ret_bool HE.out.symm, hB⟩
      · skip
        have H1 := Lib.hid hq1
        have H2 := Lib.hid hq2
        have H3 := Lib.hid hq3
        have HE := Lib.hid (ss_yes hq1 hq2 hq3)
        have hw1 : wtU x ≤ 1048576 := by omega
        clear hq1 hq2 hq3
        go_enter Try.func14, Try.ntmps14
        go_wp2_with fail
        refine (implSystemOk_any A n c xs B m d x _ ((h.alloc _).alloc _) ((h'.alloc _).alloc _) hs).mono ?_
        rintro e w1 ⟨rfl, hb1⟩
        rw [H1.out]
        have hB : Below w.heap.size w w1 := below_then (((Below.refl _ _).alloc (Nat.le_refl _) _).alloc (by simp <;> omega) _) hb1 (by simp <;> omega)
        have b0 : w1.cell? ⟨w.heap.size, 0, none⟩ = some (.slice A n c) := (hb1.cell (by simp <;> omega)).trans (by simp)
        have b1 : w1.cell? ⟨w.heap.size, 1, none⟩ = some (.slice B m d) := (hb1.cell (by simp <;> omega)).trans (by simp)
        have c0 : w1.cell? ⟨w.heap.size + 1, 0, none⟩ = some (.slice A' n' c') := (hb1.cell (by simp <;> omega)).trans (by simp)
        have c1 : w1.cell? ⟨w.heap.size + 1, 1, none⟩ = some (.slice B' m' d') := (hb1.cell (by simp <;> omega)).trans (by simp)
        clear hb1
        go_wp2_with fail
        refine (implSystemOk_any A' n' c' xs' B' m' d' x' _ (k.below hB) (k'.below hB) hs').mono ?_
        rintro e w2 ⟨rfl, hb2⟩
        rw [H2.out]
        replace hB := below_then hB hb2 hB.size
        replace b0 := keepC hb2 b0
        replace b1 := keepC hb2 b1
        replace c0 := keepC hb2 c0
        replace c1 := keepC hb2 c1
        clear hb2
        go_wp2_with fail
        refine (slicesEqual_any A n c xs A' n' c' xs' _ (h.below hB) (k.below hB) (by omega)).mono ?_
        rintro e w3 ⟨rfl, hb3⟩
        rw [H3.out]
        replace hB := below_then hB hb3 hB.size
        replace b0 := keepC hb3 b0
        replace b1 := keepC hb3 b1
        replace c0 := keepC hb3 c0
        replace c1 := keepC hb3 c1
        clear hb3
        go_wp2_with fail
        refine (sameRules_any B m d x B' m' d' x' _ (h'.below hB) (k'.below hB) (by omega) hw1 (by omega)).mono ?_
        rintro e w4 ⟨rfl, hb4⟩
        replace hB := below_then hB hb4 hB.size
        go_wp2_with fail
        go_ret
        exact ⟨ret_bool HE.out.symm, hB⟩
set_option maxHeartbeats 4000000 in
set_option maxRecDepth 20000 in
theorem S_SameSystem (A : Option Addr) (n c : Nat) (xs : List Int) (B : Option Addr) (m d : Nat) (x : List (List Int × List Int)) (A' : Option Addr) (n' c' : Nat) (xs' : List Int) (B' : Option Addr) (m' d' : Nat) (x' : List (List Int × List Int)) (w : World) (h : RI w A n xs) (h' : RU w B m x) (k : RI w A' n' xs') (k' : RU w B' m' x') (hs : n + wtU x ≤ 1048576) (hs' : n' + wtU x' ≤ 1048576) :
    Calls Try.prog 13 #[.agg #[.slice A n c, .slice B m d], .agg #[.slice A' n' c', .slice B' m' d']] w fun e w' => e = .returned (.bool (sameSystem xs x xs' x')) ∧ Below w.heap.size w w' := by
  have hl := h'.1
  have hl' := k'.1
  have hm1 : n + m ≤ 1048576 := by unfold wtU at hs; omega
  have hm1' : n' + m' ≤ 1048576 := by unfold wtU at hs'; omega
  cases hq1 : systemOk xs x
  · have HE := Lib.hid (ss_no1 (ys := xs') (y := x') hq1)
    have H1 := Lib.hid hq1
    clear hq1
    go_enter Try.func13, Try.ntmps13
    go_wp2_with fail
    refine (specSystemOk_any A n c xs B m d x _ ((h.alloc _).alloc _) ((h'.alloc _).alloc _) hs).mono ?_
    rintro e w1 ⟨rfl, hb1⟩
    rw [H1.out]
    have hB : Below w.heap.size w w1 := below_then (((Below.refl _ _).alloc (Nat.le_refl _) _).alloc (by simp <;> omega) _) hb1 (by simp <;> omega)
    have b0 : w1.cell? ⟨w.heap.size, 0, none⟩ = some (.slice A n c) := (hb1.cell (by simp <;> omega)).trans (by simp)
    have b1 : w1.cell? ⟨w.heap.size, 1, none⟩ = some (.slice B m d) := (hb1.cell (by simp <;> omega)).trans (by simp)
    have c0 : w1.cell? ⟨w.heap.size + 1, 0, none⟩ = some (.slice A' n' c') := (hb1.cell (by simp <;> omega)).trans (by simp)
    have c1 : w1.cell? ⟨w.heap.size + 1, 1, none⟩ = some (.slice B' m' d') := (hb1.cell (by simp <;> omega)).trans (by simp)
    clear hb1
    go_wp2_with fail
    go_ret
    exact ⟨ret_bool HE.out.symm, hB⟩
  · skip
    cases hq2 : systemOk xs' x'
    · have HE := Lib.hid (ss_no2 (xs := xs) (x := x) hq2)
      have H1 := Lib.hid hq1
      have H2 := Lib.hid hq2
      clear hq1 hq2
      go_enter Try.func13, Try.ntmps13
      go_wp2_with fail
      refine (specSystemOk_any A n c xs B m d x _ ((h.alloc _).alloc _) ((h'.alloc _).alloc _) hs).mono ?_
      rintro e w1 ⟨rfl, hb1⟩
      rw [H1.out]
      have hB : Below w.heap.size w w1 := below_then (((Below.refl _ _).alloc (Nat.le_refl _) _).alloc (by simp <;> omega) _) hb1 (by simp <;> omega)
      have b0 : w1.cell? ⟨w.heap.size, 0, none⟩ = some (.slice A n c) := (hb1.cell (by simp <;> omega)).trans (by simp)
      have b1 : w1.cell? ⟨w.heap.size, 1, none⟩ = some (.slice B m d) := (hb1.cell (by simp <;> omega)).trans (by simp)
      have c0 : w1.cell? ⟨w.heap.size + 1, 0, none⟩ = some (.slice A' n' c') := (hb1.cell (by simp <;> omega)).trans (by simp)
      have c1 : w1.cell? ⟨w.heap.size + 1, 1, none⟩ = some (.slice B' m' d') := (hb1.cell (by simp <;> omega)).trans (by simp)
      clear hb1
      go_wp2_with fail
      refine (specSystemOk_any A' n' c' xs' B' m' d' x' _ (k.below hB) (k'.below hB) hs').mono ?_
      rintro e w2 ⟨rfl, hb2⟩
      rw [H2.out]
      replace hB := below_then hB hb2 hB.size
      replace b0 := keepC hb2 b0
      replace b1 := keepC hb2 b1
      replace c0 := keepC hb2 c0
      replace c1 := keepC hb2 c1
      clear hb2
      go_wp2_with fail
      go_ret
      exact ⟨ret_bool HE.out.symm, hB⟩
    · skip
      cases hq3 : decide (xs = xs')
      · have HE := Lib.hid (ss_no3 (x := x) (y := x') hq3)
        have H1 := Lib.hid hq1
        have H2 := Lib.hid hq2
        have H3 := Lib.hid hq3
        clear hq1 hq2 hq3
        go_enter Try.func13, Try.ntmps13
        go_wp2_with fail
        refine (specSystemOk_any A n c xs B m d x _ ((h.alloc _).alloc _) ((h'.alloc _).alloc _) hs).mono ?_
        rintro e w1 ⟨rfl, hb1⟩
        rw [H1.out]
        have hB : Below w.heap.size w w1 := below_then (((Below.refl _ _).alloc (Nat.le_refl _) _).alloc (by simp <;> omega) _) hb1 (by simp <;> omega)
        have b0 : w1.cell? ⟨w.heap.size, 0, none⟩ = some (.slice A n c) := (hb1.cell (by simp <;> omega)).trans (by simp)
        have b1 : w1.cell? ⟨w.heap.size, 1, none⟩ = some (.slice B m d) := (hb1.cell (by simp <;> omega)).trans (by simp)
        have c0 : w1.cell? ⟨w.heap.size + 1, 0, none⟩ = some (.slice A' n' c') := (hb1.cell (by simp <;> omega)).trans (by simp)
        have c1 : w1.cell? ⟨w.heap.size + 1, 1, none⟩ = some (.slice B' m' d') := (hb1.cell (by simp <;> omega)).trans (by simp)
        clear hb1
        go_wp2_with fail
        refine (specSystemOk_any A' n' c' xs' B' m' d' x' _ (k.below hB) (k'.below hB) hs').mono ?_
        rintro e w2 ⟨rfl, hb2⟩
        rw [H2.out]
        replace hB := below_then hB hb2 hB.size
        replace b0 := keepC hb2 b0
        replace b1 := keepC hb2 b1
        replace c0 := keepC hb2 c0
        replace c1 := keepC hb2 c1
        clear hb2
        go_wp2_with fail
        refine (specSameTerm_any A n c xs A' n' c' xs' _ (h.below hB) (k.below hB) (by omega)).mono ?_
        rintro e w3 ⟨rfl, hb3⟩
        rw [H3.out]
        replace hB := below_then hB hb3 hB.size
        replace b0 := keepC hb3 b0
        replace b1 := keepC hb3 b1
        replace c0 := keepC hb3 c0
        replace c1 := keepC hb3 c1
        clear hb3
        go_wp2_with fail
        go_ret
        exact ⟨ret_bool HE.out.symm, hB⟩
      · skip
        have H1 := Lib.hid hq1
        have H2 := Lib.hid hq2
        have H3 := Lib.hid hq3
        by_cases hmm : m = m'
        · subst hmm
          have HA := Lib.hid (fun (ht : x.take m = x'.take m) => ss_all hq1 hq2 hq3 hl hl' ht)
          have HN := Lib.hid (fun (k : Nat) (t t' : List Int × List Int) => ss_no5 (xs := xs) (ys := xs') (x := x) (y := x') (k := k) (t := t) (t' := t'))
          clear hq1 hq2 hq3
          go_enter Try.func13, Try.ntmps13
          go_wp2_with fail
          refine (specSystemOk_any A n c xs B m d x _ ((h.alloc _).alloc _) ((h'.alloc _).alloc _) hs).mono ?_
          rintro e w1 ⟨rfl, hb1⟩
          rw [H1.out]
          have hB : Below w.heap.size w w1 := below_then (((Below.refl _ _).alloc (Nat.le_refl _) _).alloc (by simp <;> omega) _) hb1 (by simp <;> omega)
          have b0 : w1.cell? ⟨w.heap.size, 0, none⟩ = some (.slice A n c) := (hb1.cell (by simp <;> omega)).trans (by simp)
          have b1 : w1.cell? ⟨w.heap.size, 1, none⟩ = some (.slice B m d) := (hb1.cell (by simp <;> omega)).trans (by simp)
          have c0 : w1.cell? ⟨w.heap.size + 1, 0, none⟩ = some (.slice A' n' c') := (hb1.cell (by simp <;> omega)).trans (by simp)
          have c1 : w1.cell? ⟨w.heap.size + 1, 1, none⟩ = some (.slice B' m d') := (hb1.cell (by simp <;> omega)).trans (by simp)
          clear hb1
          go_wp2_with fail
          refine (specSystemOk_any A' n' c' xs' B' m d' x' _ (k.below hB) (k'.below hB) hs').mono ?_
          rintro e w2 ⟨rfl, hb2⟩
          rw [H2.out]
          replace hB := below_then hB hb2 hB.size
          replace b0 := keepC hb2 b0
          replace b1 := keepC hb2 b1
          replace c0 := keepC hb2 c0
          replace c1 := keepC hb2 c1
          clear hb2
          go_wp2_with fail
          refine (specSameTerm_any A n c xs A' n' c' xs' _ (h.below hB) (k.below hB) (by omega)).mono ?_
          rintro e w3 ⟨rfl, hb3⟩
          rw [H3.out]
          replace hB := below_then hB hb3 hB.size
          replace b0 := keepC hb3 b0
          replace b1 := keepC hb3 b1
          replace c0 := keepC hb3 c0
          replace c1 := keepC hb3 c1
          clear hb3
          have hsz : w.heap.size + 1 < w3.heap.size := World.block_lt_of_cell? _ _ c0
          go_wp2_with fail
          go_loopw [5] (fun i wr => ∃ k : Nat, k ≤ m ∧ i = .int .i64 k ∧ Hid (x.take k = x'.take k) ∧ Below w3.heap.size w3 wr) (fun i _ => m - (intOf i).toNat)
          case atStart => exact ⟨0, Nat.zero_le _, rfl, Lib.hid rfl, Below.refl _ _⟩
          case round =>
            obtain ⟨j, hj, rfl, hso, hb⟩ := hrel
            have b1' := keepC hb b1
            have c1' := keepC hb c1
            have hBr := below_then hB hb hB.size
            have hszr : w.heap.size + 1 < wr.heap.size := World.block_lt_of_cell? _ _ c1'
            by_cases hlt : j < m
            · obtain ⟨g, off, L, ml, dl, R, mr, dr, l, r, rfl, hcl, hcr, hL, hR, _, _, _, _, hx⟩ := (h'.below hBr).at_ hlt
              obtain ⟨g', off', L', ml', dl', R', mr', dr', l', r', rfl, hcl', hcr', hL', hR', _, _, _, _, hx'⟩ := (k'.below hBr).at_ hlt
              have hrow := wtU_row (x := x) (k := j) (by omega)
              rw [← hx.out] at hrow
              have hrl : rlen (l, r) = ml + mr := by unfold rlen; rw [hL.1, hR.1]
              rw [hrl] at hrow
              have hrow1 : ml ≤ 1048576 := by omega
              have hrow2 : mr ≤ 1048576 := by omega
              have hk0 : (0 : Int) ≤ j := by omega
              have hk1 : (j : Int) < m := by omega
              clear hrl hrow
              by_cases he : (l, r) = (l', r')
              · have HS := Lib.hid (takeU_step hso.out (by omega) (by omega) (by rw [← hx.out, ← hx'.out, he]))
                have HD : Hid (decide ((l, r) = (l', r')) = true) := Lib.hid (by rw [decide_eq_true_eq]; exact he)
                clear hx hx' he
                go_wp2_with fail
                go_region_held3 (fun w' => Below wr.heap.size wr w' ∧ w'.cell? ⟨w.heap.size, 1, none⟩ = some (.slice (some ⟨g, off, none⟩) m d) ∧ w'.cell? ⟨w.heap.size + 1, 1, none⟩ = some (.slice (some ⟨g', off', none⟩) m d') ∧ w'.cell? ⟨g, off + j * 2, none⟩ = some (.slice L ml dl) ∧ w'.cell? ⟨g, off + j * 2 + 1, none⟩ = some (.slice R mr dr) ∧ w'.cell? ⟨g', off' + j * 2, none⟩ = some (.slice L' ml' dl') ∧ w'.cell? ⟨g', off' + j * 2 + 1, none⟩ = some (.slice R' mr' dr'))
                  (first | exact ⟨(Below.refl _ _).drew, b1', c1', hcl, hcr, hcl', hcr'⟩ | exact keepS6 hb3 (by assumption))
                  ((go_at_call 38; refine (l6SameRule_any L ml dl R mr dr L' ml' dl' R' mr' dr' l r l' r' _ ?_ ?_ ?_ ?_ hrow1 hrow2).mono ?_; exact riS hL (by assumption); exact riS hR (by assumption); exact riS hL' (by assumption); exact riS hR' (by assumption); rintro e w4 ⟨rfl, hb3⟩; rw [HD.out]))
                rename_i hS
                replace hb3 := hS.1
                clear hS
                go_wp2_with fail
                go_roundw
                case rel => exact ⟨j + 1, by omega, by go_num, HS, below_then hb hb3 hb.size⟩
                case measure => simp [intOf]; omega
              · have HS := Lib.hid (HN.out j _ _ hx.out hx'.out he)
                have HD : Hid (decide ((l, r) = (l', r')) = false) := Lib.hid (by rw [decide_eq_false_iff_not]; exact he)
                clear hx hx' he
                go_wp2_with fail
                go_region_held3 (fun w' => Below wr.heap.size wr w' ∧ w'.cell? ⟨w.heap.size, 1, none⟩ = some (.slice (some ⟨g, off, none⟩) m d) ∧ w'.cell? ⟨w.heap.size + 1, 1, none⟩ = some (.slice (some ⟨g', off', none⟩) m d') ∧ w'.cell? ⟨g, off + j * 2, none⟩ = some (.slice L ml dl) ∧ w'.cell? ⟨g, off + j * 2 + 1, none⟩ = some (.slice R mr dr) ∧ w'.cell? ⟨g', off' + j * 2, none⟩ = some (.slice L' ml' dl') ∧ w'.cell? ⟨g', off' + j * 2 + 1, none⟩ = some (.slice R' mr' dr'))
                  (first | exact ⟨(Below.refl _ _).drew, b1', c1', hcl, hcr, hcl', hcr'⟩ | exact keepS6 hb3 (by assumption))
                  ((go_at_call 38; refine (l6SameRule_any L ml dl R mr dr L' ml' dl' R' mr' dr' l r l' r' _ ?_ ?_ ?_ ?_ hrow1 hrow2).mono ?_; exact riS hL (by assumption); exact riS hR (by assumption); exact riS hL' (by assumption); exact riS hR' (by assumption); rintro e w4 ⟨rfl, hb3⟩; rw [HD.out]))
                rename_i hS
                replace hb3 := hS.1
                clear hS
                go_wp2_with fail
                go_ret
                exact ⟨ret_bool HS.out.symm, below_then hBr hb3 hBr.size⟩
            · have hjm : j = m := by omega
              subst hjm
              have HE := Lib.hid (HA.out hso.out)
              go_wp2_with fail
              go_ret
              exact ⟨ret_bool HE.out.symm, hBr⟩
        · have HE := Lib.hid (ss_no4 (xs := xs) (ys := xs') (x := x) (y := x') (by omega))
          have hne : ((m : Int) != (m' : Int)) = true := by simp; omega
          clear hq1 hq2 hq3
          go_enter Try.func13, Try.ntmps13
          go_wp2_with fail
          refine (specSystemOk_any A n c xs B m d x _ ((h.alloc _).alloc _) ((h'.alloc _).alloc _) hs).mono ?_
          rintro e w1 ⟨rfl, hb1⟩
          rw [H1.out]
          have hB : Below w.heap.size w w1 := below_then (((Below.refl _ _).alloc (Nat.le_refl _) _).alloc (by simp <;> omega) _) hb1 (by simp <;> omega)
          have b0 : w1.cell? ⟨w.heap.size, 0, none⟩ = some (.slice A n c) := (hb1.cell (by simp <;> omega)).trans (by simp)
          have b1 : w1.cell? ⟨w.heap.size, 1, none⟩ = some (.slice B m d) := (hb1.cell (by simp <;> omega)).trans (by simp)
          have c0 : w1.cell? ⟨w.heap.size + 1, 0, none⟩ = some (.slice A' n' c') := (hb1.cell (by simp <;> omega)).trans (by simp)
          have c1 : w1.cell? ⟨w.heap.size + 1, 1, none⟩ = some (.slice B' m' d') := (hb1.cell (by simp <;> omega)).trans (by simp)
          clear hb1
          go_wp2_with fail
          refine (specSystemOk_any A' n' c' xs' B' m' d' x' _ (k.below hB) (k'.below hB) hs').mono ?_
          rintro e w2 ⟨rfl, hb2⟩
          rw [H2.out]
          replace hB := below_then hB hb2 hB.size
          replace b0 := keepC hb2 b0
          replace b1 := keepC hb2 b1
          replace c0 := keepC hb2 c0
          replace c1 := keepC hb2 c1
          clear hb2
          go_wp2_with fail
          refine (specSameTerm_any A n c xs A' n' c' xs' _ (h.below hB) (k.below hB) (by omega)).mono ?_
          rintro e w3 ⟨rfl, hb3⟩
          rw [H3.out]
          replace hB := below_then hB hb3 hB.size
          replace b0 := keepC hb3 b0
          replace b1 := keepC hb3 b1
          replace c0 := keepC hb3 c0
          replace c1 := keepC hb3 c1
          clear hb3
          go_wp2_with fail
          go_ret
          exact ⟨ret_bool HE.out.symm, hB⟩
end Go.Proofs.Ytkmkopfkhpgagaa
