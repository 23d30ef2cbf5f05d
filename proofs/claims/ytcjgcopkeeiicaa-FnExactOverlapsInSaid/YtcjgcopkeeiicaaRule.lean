/- Contracts: rules: their size, copy, comparison. -/
import Derived.Test.YtcjgcopkeeiicaaSig
import Derived.Test.YtcjgcopkeeiicaaTerm
import Derived.Deep.RegionHeld3
namespace Go.Proofs.Ytcjgcopkeeiicaa
open Go.RowKit
set_option linter.unusedVariables false
set_option linter.unusedSimpArgs false

def szR (left : Int) (n m : Nat) : Int := if szF left n < 0 then -1 else szF (szF left n) m
theorem szR_1 {left : Int} {n m : Nat} (h : szF left n < 0) : szR left n m = -1 := if_pos h
theorem szR_2 {left : Int} {n m : Nat} (h : ¬ szF left n < 0) : szR left n m = szF (szF left n) m := if_neg h
theorem szR_sum {left : Int} (n m : Nat) (h0 : 0 ≤ left) : szR left n m = szF left (n + m) := by
  by_cases h : left - (n : Int) < 0
  · rw [szR_1 (by rw [szF_neg h]; omega), szF_neg (by omega)]
  · have e := szF_pos h
    rw [szR_2 (by rw [e]; exact h), e]
    by_cases h2 : left - (n : Int) - m < 0
    · rw [szF_neg h2, szF_neg (by omega)]
    · rw [szF_pos h2, szF_pos (by omega)]; omega
set_option maxHeartbeats 400000 in
theorem szRule_any (A : Option Addr) (n c : Nat) (B : Option Addr) (m d : Nat) (left : Int) (w : World) (h0 : 0 ≤ left) (h1 : left ≤ 1048576) (hn : n ≤ 9223372036854775807) (hm : m ≤ 9223372036854775807) :
    Calls Try.prog 37 #[.agg #[.slice A n c, .slice B m d], .int .i64 left] w fun e w' => e = .returned (.int .i64 (szF left (n + m))) ∧ Below w.heap.size w w' := by
  rw [← szR_sum n m h0]
  have hb1 := szF_bd n h0
  by_cases hz1 : szF left n < 0
  · have HE := Lib.hid (szR_1 (m := m) hz1)
    go_enter Try.func37, Try.ntmps37
    go_wp2_with fail
    refine (szInt64S_any A n c left _ h0 h1 hn).mono ?_
    rintro e w1 ⟨rfl, rfl⟩
    go_wp2_with fail
    go_ret
    exact ⟨ret_int HE.out.symm, (Below.refl _ _).alloc (Nat.le_refl _) _⟩
  · have HE := Lib.hid (szR_2 (m := m) hz1)
    have hb2 := szF_bd (left := szF left n) m (by omega)
    by_cases hz2 : szF (szF left n) m < 0
    · go_enter Try.func37, Try.ntmps37
      go_wp2_with fail
      refine (szInt64S_any A n c left _ h0 h1 hn).mono ?_
      rintro e w1 ⟨rfl, rfl⟩
      go_wp2_with fail
      refine (szInt64S_any B m d _ _ (by omega) (by omega) hm).mono ?_
      rintro e w1 ⟨rfl, rfl⟩
      go_wp2_with fail
      go_ret
      exact ⟨ret_int (by rw [HE.out]; omega), (Below.refl _ _).alloc (Nat.le_refl _) _⟩
    · go_enter Try.func37, Try.ntmps37
      go_wp2_with fail
      refine (szInt64S_any A n c left _ h0 h1 hn).mono ?_
      rintro e w1 ⟨rfl, rfl⟩
      go_wp2_with fail
      refine (szInt64S_any B m d _ _ (by omega) (by omega) hm).mono ?_
      rintro e w1 ⟨rfl, rfl⟩
      go_wp2_with fail
      go_ret
      exact ⟨ret_int HE.out.symm, (Below.refl _ _).alloc (Nat.le_refl _) _⟩
set_option maxHeartbeats 2000000 in
theorem toRule_any (A : Option Addr) (n c : Nat) (xs : List Int) (B : Option Addr) (m d : Nat) (ys : List Int) (w : World)
    (h : RI w A n xs) (h' : RI w B m ys) (hs : n + m ≤ 1048576) :
    Calls Try.prog 43 #[.agg #[.slice A n c, .slice B m d]] w fun e w' => ∃ g1 g2,
      e = .returned (.agg #[.slice (some ⟨g1, 0, none⟩) n n, .slice (some ⟨g2, 0, none⟩) m m]) ∧
      OI w' w.heap.size (some ⟨g1, 0, none⟩) n n xs ∧ OI w' w.heap.size (some ⟨g2, 0, none⟩) m m ys ∧ g1 ≠ g2 ∧ Below w.heap.size w w' := by
  go_enter Try.func43, Try.ntmps43
  go_wp2_with fail
  refine (toInt64S_any A n c xs _ (((h.alloc _).alloc _).alloc _) (by omega)).mono ?_
  rintro e w1 ⟨g1, rfl, o1, hb1⟩
  have hB : Below w.heap.size w w1 := below_then ((((Below.refl _ _).alloc (Nat.le_refl _) _).alloc (by simp <;> omega) _).alloc (by simp <;> omega) _) hb1 (by simp <;> omega)
  have bk0 : Blk w1 w.heap.size 65 #[.slice A n c, .slice B m d] := (((Blk.new w _ _).alloc _).alloc _).below hb1
  have bk1 : Blk w1 (w.heap.size + 1) 52 #[.slice none 0 0, .slice none 0 0] := (((by have := Blk.new (w.alloc (.cells #[.slice A n c, .slice B m d] 65)) 52 #[.slice none 0 0, .slice none 0 0]; simpa only [World.size_alloc] using this)) : Blk ((w.alloc (.cells #[.slice A n c, .slice B m d] 65)).alloc (.cells #[.slice none 0 0, .slice none 0 0] 52)) (w.heap.size + 1) 52 #[.slice none 0 0, .slice none 0 0]).alloc _ |>.below hb1
  have bk2 : Blk w1 (w.heap.size + 1 + 1) 52 #[.slice none 0 0, .slice none 0 0] := by
    have := (Blk.new ((w.alloc (.cells #[.slice A n c, .slice B m d] 65)).alloc (.cells #[.slice none 0 0, .slice none 0 0] 52)) 52 #[.slice none 0 0, .slice none 0 0]).below hb1
    simpa only [World.size_alloc] using this
  replace o1 : OI w1 (w.heap.size + 1 + 1 + 1) (some ⟨g1, 0, none⟩) n n xs := by simpa only [World.size_alloc] using o1
  clear hb1
  have K0 : ∀ i, w1.cell? ⟨w.heap.size, i, none⟩ = #[.slice A n c, .slice B m d][i]? := fun i => bk0.cell i
  have c2 : w1.cell? ⟨w.heap.size + 1 + 1, 0, none⟩ = some (.slice none 0 0) := by have := bk2.cell 0; simpa using this
  have f2 : w1.frozen? ⟨w.heap.size + 1 + 1, 0, none⟩ = false := bk2.frozen 0
  have hlt := bk2.lt
  go_wp2_with fail
  clear K0 c2 f2
  replace bk0 := bk0.far (p := ⟨w.heap.size + 1 + 1, 0, none⟩) (by simp <;> omega) (.slice (some ⟨g1, 0, none⟩) n n)
  replace bk1 := bk1.far (p := ⟨w.heap.size + 1 + 1, 0, none⟩) (by simp <;> omega) (.slice (some ⟨g1, 0, none⟩) n n)
  replace bk2 := bk2.set_ 0 (.slice (some ⟨g1, 0, none⟩) n n)
  replace hB := hB.setCell (p := ⟨w.heap.size + 1 + 1, 0, none⟩) (by simp <;> omega) (.slice (some ⟨g1, 0, none⟩) n n)
  replace o1 := o1.setBelow (p := ⟨w.heap.size + 1 + 1, 0, none⟩) (by simp <;> omega) (.slice (some ⟨g1, 0, none⟩) n n)
  clear hlt
  generalize w1.setCell ⟨w.heap.size + 1 + 1, 0, none⟩ (.slice (some ⟨g1, 0, none⟩) n n) = W0 at *
  refine (toInt64S_any B m d ys _ (h'.below hB) (by omega)).mono ?_
  rintro e w2 ⟨g2, rfl, o2, hb1⟩
  have hne : g1 ≠ g2 := by have h1 := (World.ownsRow.lt o1 g1 rfl).2; have h2 := (World.ownsRow.lt o2 g2 rfl).1; omega
  replace o2 : OI w2 (w.heap.size + 1 + 1 + 1) (some ⟨g2, 0, none⟩) m m ys := o2.base (by have := bk2.lt; omega)
  replace o1 := o1.below hb1
  replace bk0 := bk0.below hb1
  replace bk1 := bk1.below hb1
  replace bk2 := bk2.below hb1
  replace hB := below_then hB hb1 hB.size
  clear hb1
  simp only [List.setIfInBounds_toArray, List.set_cons_zero, List.set_cons_succ] at bk2
  have K1 : ∀ i, w2.cell? ⟨w.heap.size + 1, i, none⟩ = #[.slice none 0 0, .slice none 0 0][i]? := fun i => bk1.cell i
  have K2 : ∀ i, w2.cell? ⟨w.heap.size + 1 + 1, i, none⟩ = #[.slice (some ⟨g1, 0, none⟩) n n, .slice none 0 0][i]? := fun i => bk2.cell i
  have F1 : ∀ i, w2.frozen? ⟨w.heap.size + 1, i, none⟩ = false := fun i => bk1.frozen i
  have F2 : ∀ i, w2.frozen? ⟨w.heap.size + 1 + 1, i, none⟩ = false := fun i => bk2.frozen i
  have hlt := bk2.lt
  go_wp2_with fail
  refine bodyPost_ret (v := .agg #[.slice (some ⟨g1, 0, none⟩) n n, .slice (some ⟨g2, 0, none⟩) m m]) (by simp [results, Try.results43, go_sem, K1]) rfl ⟨g1, g2, rfl, ?_, ?_, hne, ?_⟩
  · refine OI.base (B := w.heap.size + 1 + 1 + 1) ?_ (by omega)
    repeat (first | exact o1 | refine OI.setBelow ?_ (by simp <;> omega) _)
  · refine OI.base (B := w.heap.size + 1 + 1 + 1) ?_ (by omega)
    repeat (first | exact o2 | refine OI.setBelow ?_ (by simp <;> omega) _)
  · repeat (first | exact hB | refine Below.setCell ?_ (by simp <;> omega) _)
set_option maxHeartbeats 2000000 in
theorem eqRule_same (A : Option Addr) (n c : Nat) (xs : List Int) (B : Option Addr) (m d : Nat) (ys : List Int)
    (A' : Option Addr) (c' : Nat) (B' : Option Addr) (d' : Nat) (w : World)
    (h : RI w A n xs) (h' : RI w B m ys) (k : RI w A' n xs) (k' : RI w B' m ys) (hs : n + m ≤ 1048576) :
    Calls Try.prog 47 #[.agg #[.slice A n c, .slice B m d], .agg #[.slice A' n c', .slice B' m d']] w fun e w' =>
      e = .returned (.bool true) ∧ Below w.heap.size w w' := by
  go_enter Try.func47, Try.ntmps47
  go_wp2_with fail
  refine (eqInt64S_any A n c xs A' n c' xs _ ((h.alloc _).alloc _) ((k.alloc _).alloc _) (by omega)).mono ?_
  rintro e w1 ⟨rfl, hb1⟩
  have hB : Below w.heap.size w w1 := below_then (((Below.refl _ _).alloc (Nat.le_refl _) _).alloc (by simp <;> omega) _) hb1 (by simp <;> omega)
  have bk0 : Blk w1 w.heap.size 52 #[.slice A n c, .slice B m d] := ((Blk.new w _ _).alloc _).below hb1
  have bk1 : Blk w1 (w.heap.size + 1) 52 #[.slice A' n c', .slice B' m d'] := by
    have := (Blk.new (w.alloc (.cells #[.slice A n c, .slice B m d] 52)) 52 #[.slice A' n c', .slice B' m d']).below hb1
    simpa only [World.size_alloc] using this
  clear hb1
  have K0 : ∀ i, w1.cell? ⟨w.heap.size, i, none⟩ = #[.slice A n c, .slice B m d][i]? := fun i => bk0.cell i
  have K1 : ∀ i, w1.cell? ⟨w.heap.size + 1, i, none⟩ = #[.slice A' n c', .slice B' m d'][i]? := fun i => bk1.cell i
  go_wp2_with fail
  refine (eqInt64S_any B m d ys B' m d' ys _ (h'.below hB) (k'.below hB) (by omega)).mono ?_
  rintro e w2 ⟨rfl, hb1⟩
  replace hB := below_then hB hb1 hB.size
  clear hb1 K0 K1
  go_wp2_with fail
  go_ret
  exact ⟨rfl, hB⟩
end Go.Proofs.Ytcjgcopkeeiicaa
