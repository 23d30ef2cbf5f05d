/- Contracts: rules: their size, copy, comparison. -/
import Derived.Test.YtcjgcopkeeiicaaSig
import Derived.Test.YtcjgcopkeeiicaaTerm
import Derived.Deep.RegionHeld3
import Derived.Test.YtcjgcopkeeiicaaTerm2
import Derived.Test.YtcjgcopkeeiicaaCmp
import Derived.Test.YtcjgcopkeeiicaaHas
namespace Go.Proofs.Ytcjgcopkeeiicaa
open Go.RowKit
set_option linter.unusedVariables false
set_option linter.unusedSimpArgs false

def szR (left : Int) (n m : Nat) : Int := if szF left n < 0 then -1 else szF (szF left n) m
theorem szR_1 {left : Int} {n m : Nat} (h : szF left n < 0) : szR left n m = -1 := if_pos h
theorem szR_2 {left : Int} {n m : Nat} (h : ¬ szF left n < 0) : szR left n m = szF (szF left n) m := if_neg h
theorem szR_sum {left : Int} (n m : Nat) (h0 : 0 ≤ left) : szR left n m = szF left (n + m) := by
  by_cases h : left - (n : Int) < 0
  · rw [szR_1 (by rw [szF_neg h]; omega), szF_neg (by omega)]
  · have e := szF_pos h
    rw [szR_2 (by rw [e]; exact h), e]
    by_cases h2 : left - (n : Int) - m < 0
    · rw [szF_neg h2, szF_neg (by omega)]
    · rw [szF_pos h2, szF_pos (by omega)]; omega
set_option maxHeartbeats 400000 in
theorem szRule_any (A : Option Addr) (n c : Nat) (B : Option Addr) (m d : Nat) (left : Int) (w : World) (h0 : 0 ≤ left) (h1 : left ≤ 1048576) (hn : n ≤ 9223372036854775807) (hm : m ≤ 9223372036854775807) :
    Calls Try.prog 37 #[.agg #[.slice A n c, .slice B m d], .int .i64 left] w fun e w' => e = .returned (.int .i64 (szF left (n + m))) ∧ Below w.heap.size w w' := by
  rw [← szR_sum n m h0]
  have hb1 := szF_bd n h0
  by_cases hz1 : szF left n < 0
  · have HE := Lib.hid (szR_1 (m := m) hz1)
    go_enter Try.func37, Try.ntmps37
    go_wp2_with fail
    refine (szInt64S_any A n c left _ h0 h1 hn).mono ?_
    rintro e w1 ⟨rfl, rfl⟩
    go_wp2_with fail
    go_ret
    exact ⟨ret_int HE.out.symm, (Below.refl _ _).alloc (Nat.le_refl _) _⟩
  · have HE := Lib.hid (szR_2 (m := m) hz1)
    have hb2 := szF_bd (left := szF left n) m (by omega)
    by_cases hz2 : szF (szF left n) m < 0
    · go_enter Try.func37, Try.ntmps37
      go_wp2_with fail
      refine (szInt64S_any A n c left _ h0 h1 hn).mono ?_
      rintro e w1 ⟨rfl, rfl⟩
      go_wp2_with fail
      refine (szInt64S_any B m d _ _ (by omega) (by omega) hm).mono ?_
      rintro e w1 ⟨rfl, rfl⟩
      go_wp2_with fail
      go_ret
      exact ⟨ret_int (by rw [HE.out]; omega), (Below.refl _ _).alloc (Nat.le_refl _) _⟩
    · go_enter Try.func37, Try.ntmps37
      go_wp2_with fail
      refine (szInt64S_any A n c left _ h0 h1 hn).mono ?_
      rintro e w1 ⟨rfl, rfl⟩
      go_wp2_with fail
      refine (szInt64S_any B m d _ _ (by omega) (by omega) hm).mono ?_
      rintro e w1 ⟨rfl, rfl⟩
      go_wp2_with fail
      go_ret
      exact ⟨ret_int HE.out.symm, (Below.refl _ _).alloc (Nat.le_refl _) _⟩
set_option maxHeartbeats 2000000 in
theorem toRule_any (A : Option Addr) (n c : Nat) (xs : List Int) (B : Option Addr) (m d : Nat) (ys : List Int) (w : World)
    (h : RI w A n xs) (h' : RI w B m ys) (hs : n + m ≤ 1048576) :
    Calls Try.prog 43 #[.agg #[.slice A n c, .slice B m d]] w fun e w' => ∃ g1 g2,
      e = .returned (.agg #[.slice (some ⟨g1, 0, none⟩) n n, .slice (some ⟨g2, 0, none⟩) m m]) ∧
      OI w' w.heap.size (some ⟨g1, 0, none⟩) n n xs ∧ OI w' w.heap.size (some ⟨g2, 0, none⟩) m m ys ∧ g1 ≠ g2 ∧ Below w.heap.size w w' := by
  go_enter Try.func43, Try.ntmps43
  go_wp2_with fail
  refine (toInt64S_any A n c xs _ (((h.alloc _).alloc _).alloc _) (by omega)).mono ?_
  rintro e w1 ⟨g1, rfl, o1, hb1⟩
  have hB : Below w.heap.size w w1 := below_then ((((Below.refl _ _).alloc (Nat.le_refl _) _).alloc (by simp <;> omega) _).alloc (by simp <;> omega) _) hb1 (by simp <;> omega)
  have bk0 : Blk w1 w.heap.size 65 #[.slice A n c, .slice B m d] := (((Blk.new w _ _).alloc _).alloc _).below hb1
  have bk1 : Blk w1 (w.heap.size + 1) 52 #[.slice none 0 0, .slice none 0 0] := (((by have := Blk.new (w.alloc (.cells #[.slice A n c, .slice B m d] 65)) 52 #[.slice none 0 0, .slice none 0 0]; simpa only [World.size_alloc] using this)) : Blk ((w.alloc (.cells #[.slice A n c, .slice B m d] 65)).alloc (.cells #[.slice none 0 0, .slice none 0 0] 52)) (w.heap.size + 1) 52 #[.slice none 0 0, .slice none 0 0]).alloc _ |>.below hb1
  have bk2 : Blk w1 (w.heap.size + 1 + 1) 52 #[.slice none 0 0, .slice none 0 0] := by
    have := (Blk.new ((w.alloc (.cells #[.slice A n c, .slice B m d] 65)).alloc (.cells #[.slice none 0 0, .slice none 0 0] 52)) 52 #[.slice none 0 0, .slice none 0 0]).below hb1
    simpa only [World.size_alloc] using this
  replace o1 : OI w1 (w.heap.size + 1 + 1 + 1) (some ⟨g1, 0, none⟩) n n xs := by simpa only [World.size_alloc] using o1
  clear hb1
  have K0 : ∀ i, w1.cell? ⟨w.heap.size, i, none⟩ = #[.slice A n c, .slice B m d][i]? := fun i => bk0.cell i
  have c2 : w1.cell? ⟨w.heap.size + 1 + 1, 0, none⟩ = some (.slice none 0 0) := by have := bk2.cell 0; simpa using this
  have f2 : w1.frozen? ⟨w.heap.size + 1 + 1, 0, none⟩ = false := bk2.frozen 0
  have hlt := bk2.lt
  go_wp2_with fail
  clear K0 c2 f2
  replace bk0 := bk0.far (p := ⟨w.heap.size + 1 + 1, 0, none⟩) (by simp <;> omega) (.slice (some ⟨g1, 0, none⟩) n n)
  replace bk1 := bk1.far (p := ⟨w.heap.size + 1 + 1, 0, none⟩) (by simp <;> omega) (.slice (some ⟨g1, 0, none⟩) n n)
  replace bk2 := bk2.set_ 0 (.slice (some ⟨g1, 0, none⟩) n n)
  replace hB := hB.setCell (p := ⟨w.heap.size + 1 + 1, 0, none⟩) (by simp <;> omega) (.slice (some ⟨g1, 0, none⟩) n n)
  replace o1 := o1.setBelow (p := ⟨w.heap.size + 1 + 1, 0, none⟩) (by simp <;> omega) (.slice (some ⟨g1, 0, none⟩) n n)
  clear hlt
  generalize w1.setCell ⟨w.heap.size + 1 + 1, 0, none⟩ (.slice (some ⟨g1, 0, none⟩) n n) = W0 at *
  refine (toInt64S_any B m d ys _ (h'.below hB) (by omega)).mono ?_
  rintro e w2 ⟨g2, rfl, o2, hb1⟩
  have hne : g1 ≠ g2 := by have h1 := (World.ownsRow.lt o1 g1 rfl).2; have h2 := (World.ownsRow.lt o2 g2 rfl).1; omega
  replace o2 : OI w2 (w.heap.size + 1 + 1 + 1) (some ⟨g2, 0, none⟩) m m ys := o2.base (by have := bk2.lt; omega)
  replace o1 := o1.below hb1
  replace bk0 := bk0.below hb1
  replace bk1 := bk1.below hb1
  replace bk2 := bk2.below hb1
  replace hB := below_then hB hb1 hB.size
  clear hb1
  simp only [List.setIfInBounds_toArray, List.set_cons_zero, List.set_cons_succ] at bk2
  have K1 : ∀ i, w2.cell? ⟨w.heap.size + 1, i, none⟩ = #[.slice none 0 0, .slice none 0 0][i]? := fun i => bk1.cell i
  have K2 : ∀ i, w2.cell? ⟨w.heap.size + 1 + 1, i, none⟩ = #[.slice (some ⟨g1, 0, none⟩) n n, .slice none 0 0][i]? := fun i => bk2.cell i
  have F1 : ∀ i, w2.frozen? ⟨w.heap.size + 1, i, none⟩ = false := fun i => bk1.frozen i
  have F2 : ∀ i, w2.frozen? ⟨w.heap.size + 1 + 1, i, none⟩ = false := fun i => bk2.frozen i
  have hlt := bk2.lt
  go_wp2_with fail
  refine bodyPost_ret (v := .agg #[.slice (some ⟨g1, 0, none⟩) n n, .slice (some ⟨g2, 0, none⟩) m m]) (by simp [results, Try.results43, go_sem, K1]) rfl ⟨g1, g2, rfl, ?_, ?_, hne, ?_⟩
  · refine OI.base (B := w.heap.size + 1 + 1 + 1) ?_ (by omega)
    repeat (first | exact o1 | refine OI.setBelow ?_ (by simp <;> omega) _)
  · refine OI.base (B := w.heap.size + 1 + 1 + 1) ?_ (by omega)
    repeat (first | exact o2 | refine OI.setBelow ?_ (by simp <;> omega) _)
  · repeat (first | exact hB | refine Below.setCell ?_ (by simp <;> omega) _)
set_option maxHeartbeats 2000000 in
theorem eqRule_same (A : Option Addr) (n c : Nat) (xs : List Int) (B : Option Addr) (m d : Nat) (ys : List Int)
    (A' : Option Addr) (c' : Nat) (B' : Option Addr) (d' : Nat) (w : World)
    (h : RI w A n xs) (h' : RI w B m ys) (k : RI w A' n xs) (k' : RI w B' m ys) (hs : n + m ≤ 1048576) :
    Calls Try.prog 47 #[.agg #[.slice A n c, .slice B m d], .agg #[.slice A' n c', .slice B' m d']] w fun e w' =>
      e = .returned (.bool true) ∧ Below w.heap.size w w' := by
  go_enter Try.func47, Try.ntmps47
  go_wp2_with fail
  refine (eqInt64S_any A n c xs A' n c' xs _ ((h.alloc _).alloc _) ((k.alloc _).alloc _) (by omega)).mono ?_
  rintro e w1 ⟨rfl, hb1⟩
  have hB : Below w.heap.size w w1 := below_then (((Below.refl _ _).alloc (Nat.le_refl _) _).alloc (by simp <;> omega) _) hb1 (by simp <;> omega)
  have bk0 : Blk w1 w.heap.size 52 #[.slice A n c, .slice B m d] := ((Blk.new w _ _).alloc _).below hb1
  have bk1 : Blk w1 (w.heap.size + 1) 52 #[.slice A' n c', .slice B' m d'] := by
    have := (Blk.new (w.alloc (.cells #[.slice A n c, .slice B m d] 52)) 52 #[.slice A' n c', .slice B' m d']).below hb1
    simpa only [World.size_alloc] using this
  clear hb1
  have K0 : ∀ i, w1.cell? ⟨w.heap.size, i, none⟩ = #[.slice A n c, .slice B m d][i]? := fun i => bk0.cell i
  have K1 : ∀ i, w1.cell? ⟨w.heap.size + 1, i, none⟩ = #[.slice A' n c', .slice B' m d'][i]? := fun i => bk1.cell i
  go_wp2_with fail
  refine (eqInt64S_any B m d ys B' m d' ys _ (h'.below hB) (k'.below hB) (by omega)).mono ?_
  rintro e w2 ⟨rfl, hb1⟩
  replace hB := below_then hB hb1 hB.size
  clear hb1 K0 K1
  go_wp2_with fail
  go_ret
  exact ⟨rfl, hB⟩
end Go.Proofs.Ytcjgcopkeeiicaa
/-! Contracts: right rules. -/

namespace Go.Proofs.Ytcjgcopkeeiicaa
open Go.RowKit
set_option linter.unusedVariables false

/-- No variable stands on the right alone, among the first k numbers there. -/
def rvTo (l r : List Int) (k : Nat) : Bool := (List.range k).all fun i => !(decide (r.getD i 0 < 0) && !l.contains (r.getD i 0))
def ruleOk (xs l r : List Int) : Bool := Pl.termOk xs l && Pl.termOk xs r && decide (0 ≤ l.getD 0 0) && rvTo l r r.length
theorem ruleOk_no1 {xs l r : List Int} (h : Pl.termOk xs l = false) : ruleOk xs l r = false := by unfold ruleOk; rw [h]; rfl
theorem ruleOk_no2 {xs l r : List Int} (h1 : Pl.termOk xs l = true) (h : Pl.termOk xs r = false) : ruleOk xs l r = false := by unfold ruleOk; rw [h, h1]; rfl
theorem ruleOk_no3 {xs l r : List Int} (h1 : Pl.termOk xs l = true) (h2 : Pl.termOk xs r = true) (h : l.getD 0 0 < 0) : ruleOk xs l r = false := by unfold ruleOk; rw [h2, h1, decide_eq_false (by omega)]; rfl
theorem ruleOk_yes {xs l r : List Int} {o : Nat} (hl : r.length = o) (h1 : Pl.termOk xs l = true) (h2 : Pl.termOk xs r = true) (h : ¬ l.getD 0 0 < 0) : ruleOk xs l r = rvTo l r o := by unfold ruleOk; rw [h2, h1, hl, decide_eq_true (by omega)]; rfl
theorem rv_bad {l r : List Int} {k o : Nat} {x : Int} (hk : k < o) (hx : x = r.getD k 0) (h0 : x < 0) (hc : l.contains x = false) : rvTo l r o = false :=
  range_all_stop hk (by show (!(decide (r.getD k 0 < 0) && !l.contains (r.getD k 0))) = false; rw [← hx, hc, decide_eq_true h0]; rfl)
theorem rv_ok1 {l r : List Int} {k : Nat} {x : Int} (h : rvTo l r k = true) (hx : x = r.getD k 0) (h0 : ¬ x < 0) : rvTo l r (k + 1) = true :=
  range_all_step h (by show (!(decide (r.getD k 0 < 0) && !l.contains (r.getD k 0))) = true; rw [← hx, decide_eq_false h0]; rfl)
theorem rv_ok2 {l r : List Int} {k : Nat} {x : Int} (h : rvTo l r k = true) (hx : x = r.getD k 0) (hc : l.contains x = true) : rvTo l r (k + 1) = true :=
  range_all_step h (by show (!(decide (r.getD k 0 < 0) && !l.contains (r.getD k 0))) = true; rw [← hx, hc]; simp)
set_option maxHeartbeats 1000000 in
theorem S_RuleOk (A : Option Addr) (n c : Nat) (xs : List Int) (B : Option Addr) (m d : Nat) (l : List Int) (C : Option Addr) (o f : Nat) (r : List Int) (w : World) (h : RI w A n xs) (h' : RI w B m l) (h'' : RI w C o r) (hn : n ≤ 1048576) (hs : m + o ≤ 1048576) :
    Calls Try.prog 39 #[.agg #[.slice A n c], .agg #[.slice B m d, .slice C o f]] w fun e w' => e = .returned (.bool (ruleOk xs l r)) ∧ Below w.heap.size w w' := by
  cases hT1 : Pl.termOk xs l
  · have HE := Lib.hid (ruleOk_no1 (r := r) hT1)
    go_enter Try.func39, Try.ntmps39
    go_wp2_with fail
    refine (specTermOk_any A n c xs B m d l _ ((h.alloc _).alloc _) ((h'.alloc _).alloc _) (by omega) (by omega)).mono ?_
    rintro e w1 ⟨rfl, hb1⟩
    have hB : Below w.heap.size w w1 := below_then (((Below.refl _ _).alloc (Nat.le_refl _) _).alloc (by simp <;> omega) _) hb1 (by simp <;> omega)
    have bx : w1.cell? ⟨w.heap.size, 0, none⟩ = some (.slice A n c) := (hb1.cell (by simp <;> omega)).trans (by simp)
    have by0 : w1.cell? ⟨w.heap.size + 1, 0, none⟩ = some (.slice B m d) := (hb1.cell (by simp <;> omega)).trans (by simp)
    have by1 : w1.cell? ⟨w.heap.size + 1, 1, none⟩ = some (.slice C o f) := (hb1.cell (by simp <;> omega)).trans (by simp)
    replace h := ((h.alloc _).alloc _).below hb1
    replace h' := ((h'.alloc _).alloc _).below hb1
    replace h'' := ((h''.alloc _).alloc _).below hb1
    clear hb1
    go_wp2_with fail
    go_ret
    exact ⟨ret_bool (by exact HE.out.symm), hB⟩
  · cases hT2 : Pl.termOk xs r
    · have HE := Lib.hid (ruleOk_no2 hT1 hT2)
      go_enter Try.func39, Try.ntmps39
      go_wp2_with fail
      refine (specTermOk_any A n c xs B m d l _ ((h.alloc _).alloc _) ((h'.alloc _).alloc _) (by omega) (by omega)).mono ?_
      rintro e w1 ⟨rfl, hb1⟩
      have hB : Below w.heap.size w w1 := below_then (((Below.refl _ _).alloc (Nat.le_refl _) _).alloc (by simp <;> omega) _) hb1 (by simp <;> omega)
      have bx : w1.cell? ⟨w.heap.size, 0, none⟩ = some (.slice A n c) := (hb1.cell (by simp <;> omega)).trans (by simp)
      have by0 : w1.cell? ⟨w.heap.size + 1, 0, none⟩ = some (.slice B m d) := (hb1.cell (by simp <;> omega)).trans (by simp)
      have by1 : w1.cell? ⟨w.heap.size + 1, 1, none⟩ = some (.slice C o f) := (hb1.cell (by simp <;> omega)).trans (by simp)
      replace h := ((h.alloc _).alloc _).below hb1
      replace h' := ((h'.alloc _).alloc _).below hb1
      replace h'' := ((h''.alloc _).alloc _).below hb1
      clear hb1
      go_wp2_with fail
      refine (specTermOk_any A n c xs C o f r _ h h'' (by omega) (by omega)).mono ?_
      rintro e w2 ⟨rfl, hb2⟩
      replace hB := below_then hB hb2 hB.size
      replace bx := keepC hb2 bx
      replace by0 := keepC hb2 by0
      replace by1 := keepC hb2 by1
      replace h := h.below hb2
      replace h' := h'.below hb2
      replace h'' := h''.below hb2
      clear hb2
      go_wp2_with fail
      go_ret
      exact ⟨ret_bool (by exact HE.out.symm), hB⟩
    · have hm1 := (Pl.termOk_iff.1 hT1).2.1
      rw [h'.1] at hm1
      obtain ⟨g, off, y, rfl, hc, hy⟩ := h'.at_ (k := 0) (by omega)
      rw [Nat.add_zero] at hc
      have hm0 : (0 : Int) < m := by omega
      by_cases hy0 : y < 0
      · have HE := Lib.hid (ruleOk_no3 hT1 hT2 (by rw [← hy.out]; exact hy0))
        have e0 : decide (y < 0) = true := by simpa using hy0
        clear hy
        go_enter Try.func39, Try.ntmps39
        go_wp2_with fail
        refine (specTermOk_any A n c xs _ m d l _ ((h.alloc _).alloc _) ((h'.alloc _).alloc _) (by omega) (by omega)).mono ?_
        rintro e w1 ⟨rfl, hb1⟩
        have hB : Below w.heap.size w w1 := below_then (((Below.refl _ _).alloc (Nat.le_refl _) _).alloc (by simp <;> omega) _) hb1 (by simp <;> omega)
        have bx : w1.cell? ⟨w.heap.size, 0, none⟩ = some (.slice A n c) := (hb1.cell (by simp <;> omega)).trans (by simp)
        have by0 : w1.cell? ⟨w.heap.size + 1, 0, none⟩ = some (.slice (some ⟨g, off, none⟩) m d) := (hb1.cell (by simp <;> omega)).trans (by simp)
        have by1 : w1.cell? ⟨w.heap.size + 1, 1, none⟩ = some (.slice C o f) := (hb1.cell (by simp <;> omega)).trans (by simp)
        replace h := ((h.alloc _).alloc _).below hb1
        replace h' := ((h'.alloc _).alloc _).below hb1
        replace h'' := ((h''.alloc _).alloc _).below hb1
        clear hb1
        go_wp2_with fail
        refine (specTermOk_any A n c xs C o f r _ h h'' (by omega) (by omega)).mono ?_
        rintro e w2 ⟨rfl, hb2⟩
        replace hB := below_then hB hb2 hB.size
        replace bx := keepC hb2 bx
        replace by0 := keepC hb2 by0
        replace by1 := keepC hb2 by1
        replace h := h.below hb2
        replace h' := h'.below hb2
        replace h'' := h''.below hb2
        clear hb2
        replace hc := keepC hB hc
        go_wp2_with fail
        go_ret
        exact ⟨ret_bool (by exact HE.out.symm), hB⟩
      · have HE := Lib.hid (ruleOk_yes h''.1 hT1 hT2 (by rw [← hy.out]; exact hy0))
        have e0 : decide (y < 0) = false := by simpa using hy0
        clear hy
        go_enter Try.func39, Try.ntmps39
        go_wp2_with fail
        refine (specTermOk_any A n c xs _ m d l _ ((h.alloc _).alloc _) ((h'.alloc _).alloc _) (by omega) (by omega)).mono ?_
        rintro e w1 ⟨rfl, hb1⟩
        have hB : Below w.heap.size w w1 := below_then (((Below.refl _ _).alloc (Nat.le_refl _) _).alloc (by simp <;> omega) _) hb1 (by simp <;> omega)
        have bx : w1.cell? ⟨w.heap.size, 0, none⟩ = some (.slice A n c) := (hb1.cell (by simp <;> omega)).trans (by simp)
        have by0 : w1.cell? ⟨w.heap.size + 1, 0, none⟩ = some (.slice (some ⟨g, off, none⟩) m d) := (hb1.cell (by simp <;> omega)).trans (by simp)
        have by1 : w1.cell? ⟨w.heap.size + 1, 1, none⟩ = some (.slice C o f) := (hb1.cell (by simp <;> omega)).trans (by simp)
        replace h := ((h.alloc _).alloc _).below hb1
        replace h' := ((h'.alloc _).alloc _).below hb1
        replace h'' := ((h''.alloc _).alloc _).below hb1
        clear hb1
        go_wp2_with fail
        refine (specTermOk_any A n c xs C o f r _ h h'' (by omega) (by omega)).mono ?_
        rintro e w2 ⟨rfl, hb2⟩
        replace hB := below_then hB hb2 hB.size
        replace bx := keepC hb2 bx
        replace by0 := keepC hb2 by0
        replace by1 := keepC hb2 by1
        replace h := h.below hb2
        replace h' := h'.below hb2
        replace h'' := h''.below hb2
        clear hb2
        replace hc := keepC hB hc
        go_wp2_with fail
        go_loopw [5] (fun i wr => ∃ k : Nat, k ≤ o ∧ i = .int .i64 k ∧ Hid (rvTo l r k = true) ∧ Below w2.heap.size w2 wr) (fun i _ => o - (intOf i).toNat)
        case atStart => exact ⟨0, Nat.zero_le _, rfl, Lib.hid rfl, Below.refl _ _⟩
        case round =>
          obtain ⟨k, hk, rfl, ht, hb⟩ := hrel
          have by0' := keepC hb by0
          have by1' := keepC hb by1
          have hBr := below_then hB hb hB.size
          by_cases hlt : k < o
          · obtain ⟨g', off', x, rfl, hcx, hx⟩ := (h''.below hb).at_ hlt
            by_cases h0 : x < 0
            · have e1 : decide (x < 0) = true := by simpa using h0
              cases hcn : l.contains x
              · have HS := Lib.hid (rv_bad hlt hx.out h0 hcn)
                have HC : Hid (decide (x ∈ l) = false) := Lib.hid (by simpa using hcn)
                clear hcn hx
                go_wp2_with fail
                go_region_held3 (fun w' => Below wr.heap.size wr w' ∧ w'.cell? ⟨w.heap.size + 1, 0, none⟩ = some (.slice (some ⟨g, off, none⟩) m d) ∧ w'.cell? ⟨w.heap.size + 1, 1, none⟩ = some (.slice (some ⟨g', off', none⟩) o f) ∧ w'.cell? ⟨g', off' + k, none⟩ = some (.int .i64 x))
                  (first | exact ⟨(Below.refl _ _).drew, by0', by1', hcx⟩ | exact keepS3 hb3 (by assumption))
                  ((go_at_call 60; refine (l1Has_any _ m d l x _ ?_ (by omega)).mono ?_; exact riS (h'.below hb) (by assumption); rintro e w3 ⟨rfl, hb3⟩))
                rename_i hS
                replace hb3 := hS.1
                clear hS
                rw [HC.out]
                go_wp2_with fail
                go_ret
                exact ⟨ret_bool (by rw [HE.out, HS.out]), below_then hBr hb3 hBr.size⟩
              · have HS := Lib.hid (rv_ok2 ht.out hx.out hcn)
                have HC : Hid (decide (x ∈ l) = true) := Lib.hid (by simpa using hcn)
                clear hcn hx
                go_wp2_with fail
                go_region_held3 (fun w' => Below wr.heap.size wr w' ∧ w'.cell? ⟨w.heap.size + 1, 0, none⟩ = some (.slice (some ⟨g, off, none⟩) m d) ∧ w'.cell? ⟨w.heap.size + 1, 1, none⟩ = some (.slice (some ⟨g', off', none⟩) o f) ∧ w'.cell? ⟨g', off' + k, none⟩ = some (.int .i64 x))
                  (first | exact ⟨(Below.refl _ _).drew, by0', by1', hcx⟩ | exact keepS3 hb3 (by assumption))
                  ((go_at_call 60; refine (l1Has_any _ m d l x _ ?_ (by omega)).mono ?_; exact riS (h'.below hb) (by assumption); rintro e w3 ⟨rfl, hb3⟩))
                rename_i hS
                replace hb3 := hS.1
                clear hS
                rw [HC.out]
                go_wp2_with fail
                go_roundw
                case rel => exact ⟨k + 1, by omega, by go_num, HS, below_then hb hb3 hb.size⟩
                case measure => simp [intOf]; omega
            · have e1 : decide (x < 0) = false := by simpa using h0
              have HS := Lib.hid (rv_ok1 ht.out hx.out h0)
              clear hx
              go_wp2_with fail
              go_quiet (fail)
              go_wp2_with fail
              go_roundw
              case rel => exact ⟨k + 1, by omega, by go_num, HS, below_drewN hb _⟩
              case measure => simp [intOf]; omega
          · have hkm : k = o := by omega
            subst hkm
            go_wp2_with fail
            go_ret
            exact ⟨ret_bool (by rw [HE.out, ht.out]), hBr⟩
set_option maxHeartbeats 1000000 in
theorem I_RuleOk (A : Option Addr) (n c : Nat) (xs : List Int) (B : Option Addr) (m d : Nat) (l : List Int) (C : Option Addr) (o f : Nat) (r : List Int) (w : World) (h : RI w A n xs) (h' : RI w B m l) (h'' : RI w C o r) (hn : n ≤ 1048576) (hs : m + o ≤ 1048576) :
    Calls Try.prog 45 #[.agg #[.slice A n c], .agg #[.slice B m d, .slice C o f]] w fun e w' => e = .returned (.bool (ruleOk xs l r)) ∧ Below w.heap.size w w' := by
  cases hT1 : Pl.termOk xs l
  · have HE := Lib.hid (ruleOk_no1 (r := r) hT1)
    go_enter Try.func45, Try.ntmps45
    go_wp2_with fail
    refine (implTermOk_any A n c xs B m d l _ ((h.alloc _).alloc _) ((h'.alloc _).alloc _) (by omega) (by omega)).mono ?_
    rintro e w1 ⟨rfl, hb1⟩
    have hB : Below w.heap.size w w1 := below_then (((Below.refl _ _).alloc (Nat.le_refl _) _).alloc (by simp <;> omega) _) hb1 (by simp <;> omega)
    have bx : w1.cell? ⟨w.heap.size, 0, none⟩ = some (.slice A n c) := (hb1.cell (by simp <;> omega)).trans (by simp)
    have by0 : w1.cell? ⟨w.heap.size + 1, 0, none⟩ = some (.slice B m d) := (hb1.cell (by simp <;> omega)).trans (by simp)
    have by1 : w1.cell? ⟨w.heap.size + 1, 1, none⟩ = some (.slice C o f) := (hb1.cell (by simp <;> omega)).trans (by simp)
    replace h := ((h.alloc _).alloc _).below hb1
    replace h' := ((h'.alloc _).alloc _).below hb1
    replace h'' := ((h''.alloc _).alloc _).below hb1
    clear hb1
    go_wp2_with fail
    go_ret
    exact ⟨ret_bool (by exact HE.out.symm), hB⟩
  · cases hT2 : Pl.termOk xs r
    · have HE := Lib.hid (ruleOk_no2 hT1 hT2)
      go_enter Try.func45, Try.ntmps45
      go_wp2_with fail
      refine (implTermOk_any A n c xs B m d l _ ((h.alloc _).alloc _) ((h'.alloc _).alloc _) (by omega) (by omega)).mono ?_
      rintro e w1 ⟨rfl, hb1⟩
      have hB : Below w.heap.size w w1 := below_then (((Below.refl _ _).alloc (Nat.le_refl _) _).alloc (by simp <;> omega) _) hb1 (by simp <;> omega)
      have bx : w1.cell? ⟨w.heap.size, 0, none⟩ = some (.slice A n c) := (hb1.cell (by simp <;> omega)).trans (by simp)
      have by0 : w1.cell? ⟨w.heap.size + 1, 0, none⟩ = some (.slice B m d) := (hb1.cell (by simp <;> omega)).trans (by simp)
      have by1 : w1.cell? ⟨w.heap.size + 1, 1, none⟩ = some (.slice C o f) := (hb1.cell (by simp <;> omega)).trans (by simp)
      replace h := ((h.alloc _).alloc _).below hb1
      replace h' := ((h'.alloc _).alloc _).below hb1
      replace h'' := ((h''.alloc _).alloc _).below hb1
      clear hb1
      go_wp2_with fail
      refine (implTermOk_any A n c xs C o f r _ h h'' (by omega) (by omega)).mono ?_
      rintro e w2 ⟨rfl, hb2⟩
      replace hB := below_then hB hb2 hB.size
      replace bx := keepC hb2 bx
      replace by0 := keepC hb2 by0
      replace by1 := keepC hb2 by1
      replace h := h.below hb2
      replace h' := h'.below hb2
      replace h'' := h''.below hb2
      clear hb2
      go_wp2_with fail
      go_ret
      exact ⟨ret_bool (by exact HE.out.symm), hB⟩
    · have hm1 := (Pl.termOk_iff.1 hT1).2.1
      rw [h'.1] at hm1
      obtain ⟨g, off, y, rfl, hc, hy⟩ := h'.at_ (k := 0) (by omega)
      rw [Nat.add_zero] at hc
      have hm0 : (0 : Int) < m := by omega
      by_cases hy0 : y < 0
      · have HE := Lib.hid (ruleOk_no3 hT1 hT2 (by rw [← hy.out]; exact hy0))
        have e0 : decide (y < 0) = true := by simpa using hy0
        clear hy
        go_enter Try.func45, Try.ntmps45
        go_wp2_with fail
        refine (implTermOk_any A n c xs _ m d l _ ((h.alloc _).alloc _) ((h'.alloc _).alloc _) (by omega) (by omega)).mono ?_
        rintro e w1 ⟨rfl, hb1⟩
        have hB : Below w.heap.size w w1 := below_then (((Below.refl _ _).alloc (Nat.le_refl _) _).alloc (by simp <;> omega) _) hb1 (by simp <;> omega)
        have bx : w1.cell? ⟨w.heap.size, 0, none⟩ = some (.slice A n c) := (hb1.cell (by simp <;> omega)).trans (by simp)
        have by0 : w1.cell? ⟨w.heap.size + 1, 0, none⟩ = some (.slice (some ⟨g, off, none⟩) m d) := (hb1.cell (by simp <;> omega)).trans (by simp)
        have by1 : w1.cell? ⟨w.heap.size + 1, 1, none⟩ = some (.slice C o f) := (hb1.cell (by simp <;> omega)).trans (by simp)
        replace h := ((h.alloc _).alloc _).below hb1
        replace h' := ((h'.alloc _).alloc _).below hb1
        replace h'' := ((h''.alloc _).alloc _).below hb1
        clear hb1
        go_wp2_with fail
        refine (implTermOk_any A n c xs C o f r _ h h'' (by omega) (by omega)).mono ?_
        rintro e w2 ⟨rfl, hb2⟩
        replace hB := below_then hB hb2 hB.size
        replace bx := keepC hb2 bx
        replace by0 := keepC hb2 by0
        replace by1 := keepC hb2 by1
        replace h := h.below hb2
        replace h' := h'.below hb2
        replace h'' := h''.below hb2
        clear hb2
        replace hc := keepC hB hc
        go_wp2_with fail
        go_ret
        exact ⟨ret_bool (by exact HE.out.symm), hB⟩
      · have HE := Lib.hid (ruleOk_yes h''.1 hT1 hT2 (by rw [← hy.out]; exact hy0))
        have e0 : decide (y < 0) = false := by simpa using hy0
        clear hy
        go_enter Try.func45, Try.ntmps45
        go_wp2_with fail
        refine (implTermOk_any A n c xs _ m d l _ ((h.alloc _).alloc _) ((h'.alloc _).alloc _) (by omega) (by omega)).mono ?_
        rintro e w1 ⟨rfl, hb1⟩
        have hB : Below w.heap.size w w1 := below_then (((Below.refl _ _).alloc (Nat.le_refl _) _).alloc (by simp <;> omega) _) hb1 (by simp <;> omega)
        have bx : w1.cell? ⟨w.heap.size, 0, none⟩ = some (.slice A n c) := (hb1.cell (by simp <;> omega)).trans (by simp)
        have by0 : w1.cell? ⟨w.heap.size + 1, 0, none⟩ = some (.slice (some ⟨g, off, none⟩) m d) := (hb1.cell (by simp <;> omega)).trans (by simp)
        have by1 : w1.cell? ⟨w.heap.size + 1, 1, none⟩ = some (.slice C o f) := (hb1.cell (by simp <;> omega)).trans (by simp)
        replace h := ((h.alloc _).alloc _).below hb1
        replace h' := ((h'.alloc _).alloc _).below hb1
        replace h'' := ((h''.alloc _).alloc _).below hb1
        clear hb1
        go_wp2_with fail
        refine (implTermOk_any A n c xs C o f r _ h h'' (by omega) (by omega)).mono ?_
        rintro e w2 ⟨rfl, hb2⟩
        replace hB := below_then hB hb2 hB.size
        replace bx := keepC hb2 bx
        replace by0 := keepC hb2 by0
        replace by1 := keepC hb2 by1
        replace h := h.below hb2
        replace h' := h'.below hb2
        replace h'' := h''.below hb2
        clear hb2
        replace hc := keepC hB hc
        go_wp2_with fail
        go_loopw [29, 6] (fun i _ wr => ∃ k : Nat, k ≤ o ∧ i = .int .i64 k ∧ Hid (rvTo l r k = true) ∧ Below w2.heap.size w2 wr) (fun i _ _ => o - (intOf i).toNat)
        case atStart => exact ⟨0, Nat.zero_le _, rfl, Lib.hid rfl, Below.refl _ _⟩
        case round =>
          obtain ⟨k, hk, rfl, ht, hb⟩ := hrel
          have by0' := keepC hb by0
          have by1' := keepC hb by1
          have hBr := below_then hB hb hB.size
          by_cases hlt : k < o
          · obtain ⟨g', off', x, rfl, hcx, hx⟩ := (h''.below hb).at_ hlt
            by_cases h0 : x < 0
            · have e1 : decide (x < 0) = true := by simpa using h0
              cases hcn : l.contains x
              · have HS := Lib.hid (rv_bad hlt hx.out h0 hcn)
                have HC := Lib.hid hcn
                clear hcn hx
                go_wp2_with fail
                refine (slicesContains_any _ m d l x _ (h'.below hb) (by omega)).mono ?_
                rintro e w3 ⟨rfl, hb3⟩
                rw [HC.out]
                go_wp2_with fail
                go_ret
                exact ⟨ret_bool (by rw [HE.out, HS.out]), below_then hBr hb3 hBr.size⟩
              · have HS := Lib.hid (rv_ok2 ht.out hx.out hcn)
                have HC := Lib.hid hcn
                clear hcn hx
                go_wp2_with fail
                refine (slicesContains_any _ m d l x _ (h'.below hb) (by omega)).mono ?_
                rintro e w3 ⟨rfl, hb3⟩
                rw [HC.out]
                go_wp2_with fail
                go_roundw
                case rel => exact ⟨k + 1, by omega, by go_num, HS, below_then hb hb3 hb.size⟩
                case measure => simp [intOf]; omega
            · have e1 : decide (x < 0) = false := by simpa using h0
              have HS := Lib.hid (rv_ok1 ht.out hx.out h0)
              clear hx
              go_wp2_with fail
              go_roundw
              case rel => exact ⟨k + 1, by omega, by go_num, HS, hb⟩
              case measure => simp [intOf]; omega
          · have hkm : k = o := by omega
            subst hkm
            go_wp2_with fail
            go_ret
            exact ⟨ret_bool (by rw [HE.out, ht.out]), hBr⟩
end Go.Proofs.Ytcjgcopkeeiicaa
