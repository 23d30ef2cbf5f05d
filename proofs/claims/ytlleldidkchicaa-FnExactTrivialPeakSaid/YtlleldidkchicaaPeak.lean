/- Contracts: peaks. -/
import Derived.Test.YtlleldidkchicaaSig
import Derived.Deep.RegionHeld3
namespace Go.Proofs.Ytlleldidkchicaa
open Go.RowKit
set_option linter.unusedVariables false

def szP (left : Int) (n m o : Nat) : Int := if szF left n < 0 then -1 else if szF (szF left n) m < 0 then -1 else szF (szF (szF left n) m) o
theorem szP_1 {left : Int} {n m o : Nat} (h : szF left n < 0) : szP left n m o = -1 := if_pos h
theorem szP_2 {left : Int} {n m o : Nat} (h : ¬ szF left n < 0) (h2 : szF (szF left n) m < 0) : szP left n m o = -1 := by unfold szP; rw [if_neg h, if_pos h2]
theorem szP_3 {left : Int} {n m o : Nat} (h : ¬ szF left n < 0) (h2 : ¬ szF (szF left n) m < 0) : szP left n m o = szF (szF (szF left n) m) o := by unfold szP; rw [if_neg h, if_neg h2]
theorem szP_bd {left : Int} (n m o : Nat) (h0 : 0 ≤ left) : -1 ≤ szP left n m o ∧ szP left n m o ≤ left ∧ (0 ≤ szP left n m o → (n : Int) ≤ left ∧ (m : Int) ≤ left ∧ (o : Int) ≤ left) := by
  have h1 := szF_bd n h0
  unfold szP
  split
  · omega
  · have h2 := szF_bd (left := szF left n) m (by omega)
    split
    · omega
    · have h3 := szF_bd (left := szF (szF left n) m) o (by omega)
      omega

theorem szP_sum {left : Int} (n m o : Nat) (h0 : 0 ≤ left) : szP left n m o = szF left (n + m + o) := by
  by_cases h1 : left - (n : Int) < 0
  · rw [szP_1 (by rw [szF_neg (left := left) (n := n) h1]; omega), szF_neg (left := left) (n := n + m + o) (by omega)]
  · have e1 := szF_pos (left := left) (n := n) h1
    by_cases h2 : left - (n : Int) - (m : Int) < 0
    · rw [szP_2 (by rw [e1]; omega) (by rw [e1, szF_neg (left := left - (n : Int)) (n := m) h2]; omega), szF_neg (left := left) (n := n + m + o) (by omega)]
    · have e2 := szF_pos (left := left - (n : Int)) (n := m) h2
      rw [szP_3 (by rw [e1]; omega) (by rw [e1, e2]; omega), e1, e2]
      by_cases h3 : left - (n : Int) - (m : Int) - (o : Int) < 0
      · rw [szF_neg (left := left - (n : Int) - (m : Int)) (n := o) h3, szF_neg (left := left) (n := n + m + o) (by omega)]
      · rw [szF_pos (left := left - (n : Int) - (m : Int)) (n := o) h3, szF_pos (left := left) (n := n + m + o) (by omega)]
        omega

set_option maxHeartbeats 400000 in
theorem szPeak_all (A : Option Addr) (n c : Nat) (B : Option Addr) (m d : Nat) (C : Option Addr) (o e : Nat) (p q r left : Int) (w : World) (h0 : 0 ≤ left) (h1 : left ≤ 1048576) (hn : n ≤ 9223372036854775807) (hm : m ≤ 9223372036854775807) (ho : o ≤ 9223372036854775807) :
    Calls Try.prog 26 #[.agg #[.slice A n c, .slice B m d, .slice C o e, .int .i64 p, .int .i64 q, .int .i64 r], .int .i64 left] w fun e w' => e = .returned (.int .i64 (szP left n m o)) ∧ Below w.heap.size w w' := by
  have hb1 := szF_bd n h0
  by_cases hz1 : szF left n < 0
  · have HE := Lib.hid (szP_1 (m := m) (o := o) hz1)
    go_enter Try.func26, Try.ntmps26
    go_wp2_with fail
    refine (szInt64S_any A n c left _ h0 h1 hn).mono ?_
    rintro e w1 ⟨rfl, rfl⟩
    go_wp2_with fail
    go_ret
    exact ⟨ret_int HE.out.symm, (Below.refl _ _).alloc (Nat.le_refl _) _⟩
  · have hb2 := szF_bd (left := szF left n) m (by omega)
    by_cases hz2 : szF (szF left n) m < 0
    · have HE := Lib.hid (szP_2 (o := o) hz1 hz2)
      go_enter Try.func26, Try.ntmps26
      go_wp2_with fail
      refine (szInt64S_any A n c left _ h0 h1 hn).mono ?_
      rintro e w1 ⟨rfl, rfl⟩
      go_wp2_with fail
      refine (szInt64S_any B m d _ _ (by omega) (by omega) hm).mono ?_
      rintro e w1 ⟨rfl, rfl⟩
      go_wp2_with fail
      go_ret
      exact ⟨ret_int HE.out.symm, (Below.refl _ _).alloc (Nat.le_refl _) _⟩
    · have HE := Lib.hid (szP_3 (o := o) hz1 hz2)
      have hb3 := szF_bd (left := szF (szF left n) m) o (by omega)
      by_cases hz3 : szF (szF (szF left n) m) o < 0
      · go_enter Try.func26, Try.ntmps26
        go_wp2_with fail
        refine (szInt64S_any A n c left _ h0 h1 hn).mono ?_
        rintro e w1 ⟨rfl, rfl⟩
        go_wp2_with fail
        refine (szInt64S_any B m d _ _ (by omega) (by omega) hm).mono ?_
        rintro e w1 ⟨rfl, rfl⟩
        go_wp2_with fail
        refine (szInt64S_any C o _ _ _ (by omega) (by omega) ho).mono ?_
        rintro e w1 ⟨rfl, rfl⟩
        go_wp2_with fail
        go_ret
        exact ⟨ret_int (by rw [HE.out]; omega), (Below.refl _ _).alloc (Nat.le_refl _) _⟩
      · go_enter Try.func26, Try.ntmps26
        go_wp2_with fail
        refine (szInt64S_any A n c left _ h0 h1 hn).mono ?_
        rintro e w1 ⟨rfl, rfl⟩
        go_wp2_with fail
        refine (szInt64S_any B m d _ _ (by omega) (by omega) hm).mono ?_
        rintro e w1 ⟨rfl, rfl⟩
        go_wp2_with fail
        refine (szInt64S_any C o _ _ _ (by omega) (by omega) ho).mono ?_
        rintro e w1 ⟨rfl, rfl⟩
        go_wp2_with fail
        go_ret
        exact ⟨ret_int HE.out.symm, (Below.refl _ _).alloc (Nat.le_refl _) _⟩
theorem szPeak_any (A : Option Addr) (n c : Nat) (B : Option Addr) (m d : Nat) (C : Option Addr) (o e : Nat) (p q r left : Int) (w : World) (h0 : 0 ≤ left) (h1 : left ≤ 1048576) (hn : n ≤ 9223372036854775807) (hm : m ≤ 9223372036854775807) (ho : o ≤ 9223372036854775807) :
    Calls Try.prog 26 #[.agg #[.slice A n c, .slice B m d, .slice C o e, .int .i64 p, .int .i64 q, .int .i64 r], .int .i64 left] w fun e w' => e = .returned (.int .i64 (szF left (n + m + o))) ∧ Below w.heap.size w w' := by
  rw [← szP_sum n m o h0]
  exact szPeak_all A n c B m d C o e p q r left w h0 h1 hn hm ho
set_option maxHeartbeats 2000000 in
theorem toPeak_any (A : Option Addr) (n c : Nat) (xs : List Int) (B : Option Addr) (m d : Nat) (ys : List Int) (C : Option Addr) (o f : Nat) (zs : List Int) (p q r : Int) (w : World)
    (h : RI w A n xs) (h' : RI w B m ys) (h'' : RI w C o zs) (hs : n + m + o ≤ 1048576) :
    Calls Try.prog 28 #[.agg #[.slice A n c, .slice B m d, .slice C o f, .int .i64 p, .int .i64 q, .int .i64 r]] w fun e w' => ∃ g1 g2 g3,
      e = .returned (.agg #[.slice (some ⟨g1, 0, none⟩) n n, .slice (some ⟨g2, 0, none⟩) m m, .slice (some ⟨g3, 0, none⟩) o o, .int .i64 p, .int .i64 q, .int .i64 r]) ∧
      OI w' w.heap.size (some ⟨g1, 0, none⟩) n n xs ∧ OI w' w.heap.size (some ⟨g2, 0, none⟩) m m ys ∧ OI w' w.heap.size (some ⟨g3, 0, none⟩) o o zs ∧ Below w.heap.size w w' := by
  go_enter Try.func28, Try.ntmps28
  go_wp2_with fail
  refine (toInt64S_any A n c xs _ (((h.alloc _).alloc _).alloc _) (by omega)).mono ?_
  rintro e w1 ⟨g1, rfl, o1, hb1⟩
  have hB : Below w.heap.size w w1 := below_then ((((Below.refl _ _).alloc (Nat.le_refl _) _).alloc (by simp <;> omega) _).alloc (by simp <;> omega) _) hb1 (by simp <;> omega)
  have bk0 : Blk w1 w.heap.size 35 #[.slice A n c, .slice B m d, .slice C o f, .int .i64 p, .int .i64 q, .int .i64 r] := (((Blk.new w _ _).alloc _).alloc _).below hb1
  have bk1 : Blk w1 (w.heap.size + 1) 38 #[.slice none 0 0, .slice none 0 0, .slice none 0 0, .int .i64 0, .int .i64 0, .int .i64 0] := (((by have := Blk.new (w.alloc (.cells #[.slice A n c, .slice B m d, .slice C o f, .int .i64 p, .int .i64 q, .int .i64 r] 35)) 38 #[.slice none 0 0, .slice none 0 0, .slice none 0 0, .int .i64 0, .int .i64 0, .int .i64 0]; simpa only [World.size_alloc] using this)) : Blk ((w.alloc (.cells #[.slice A n c, .slice B m d, .slice C o f, .int .i64 p, .int .i64 q, .int .i64 r] 35)).alloc (.cells #[.slice none 0 0, .slice none 0 0, .slice none 0 0, .int .i64 0, .int .i64 0, .int .i64 0] 38)) (w.heap.size + 1) 38 #[.slice none 0 0, .slice none 0 0, .slice none 0 0, .int .i64 0, .int .i64 0, .int .i64 0]).alloc _ |>.below hb1
  have bk2 : Blk w1 (w.heap.size + 1 + 1) 38 #[.slice none 0 0, .slice none 0 0, .slice none 0 0, .int .i64 0, .int .i64 0, .int .i64 0] := by
    have := (Blk.new ((w.alloc (.cells #[.slice A n c, .slice B m d, .slice C o f, .int .i64 p, .int .i64 q, .int .i64 r] 35)).alloc (.cells #[.slice none 0 0, .slice none 0 0, .slice none 0 0, .int .i64 0, .int .i64 0, .int .i64 0] 38)) 38 #[.slice none 0 0, .slice none 0 0, .slice none 0 0, .int .i64 0, .int .i64 0, .int .i64 0]).below hb1
    simpa only [World.size_alloc] using this
  replace o1 : OI w1 (w.heap.size + 1 + 1 + 1) (some ⟨g1, 0, none⟩) n n xs := by simpa only [World.size_alloc] using o1
  clear hb1
  have K0 : ∀ i, w1.cell? ⟨w.heap.size, i, none⟩ = #[.slice A n c, .slice B m d, .slice C o f, .int .i64 p, .int .i64 q, .int .i64 r][i]? := fun i => bk0.cell i
  have c2 : w1.cell? ⟨w.heap.size + 1 + 1, 0, none⟩ = some (.slice none 0 0) := by have := bk2.cell 0; simpa using this
  have f2 : w1.frozen? ⟨w.heap.size + 1 + 1, 0, none⟩ = false := bk2.frozen 0
  have hlt := bk2.lt
  go_wp2_with fail
  clear K0 c2 f2
  replace bk0 := bk0.far (p := ⟨w.heap.size + 1 + 1, 0, none⟩) (by simp <;> omega) (.slice (some ⟨g1, 0, none⟩) n n)
  replace bk1 := bk1.far (p := ⟨w.heap.size + 1 + 1, 0, none⟩) (by simp <;> omega) (.slice (some ⟨g1, 0, none⟩) n n)
  replace bk2 := bk2.set_ 0 (.slice (some ⟨g1, 0, none⟩) n n)
  replace hB := hB.setCell (p := ⟨w.heap.size + 1 + 1, 0, none⟩) (by simp <;> omega) (.slice (some ⟨g1, 0, none⟩) n n)
  replace o1 := o1.setBelow (p := ⟨w.heap.size + 1 + 1, 0, none⟩) (by simp <;> omega) (.slice (some ⟨g1, 0, none⟩) n n)
  clear hlt
  generalize w1.setCell ⟨w.heap.size + 1 + 1, 0, none⟩ (.slice (some ⟨g1, 0, none⟩) n n) = W0 at *
  refine (toInt64S_any B m d ys _ (h'.below hB) (by omega)).mono ?_
  rintro e w2 ⟨g2, rfl, o2, hb1⟩
  replace o2 : OI w2 (w.heap.size + 1 + 1 + 1) (some ⟨g2, 0, none⟩) m m ys := o2.base (by have := bk2.lt; omega)
  replace o1 := o1.below hb1
  replace bk0 := bk0.below hb1
  replace bk1 := bk1.below hb1
  replace bk2 := bk2.below hb1
  replace hB := below_then hB hb1 hB.size
  clear hb1
  have K0 : ∀ i, w2.cell? ⟨w.heap.size, i, none⟩ = #[.slice A n c, .slice B m d, .slice C o f, .int .i64 p, .int .i64 q, .int .i64 r][i]? := fun i => bk0.cell i
  have c2 : w2.cell? ⟨w.heap.size + 1 + 1, 1, none⟩ = some (.slice none 0 0) := by have := bk2.cell 1; simpa using this
  have f2 : w2.frozen? ⟨w.heap.size + 1 + 1, 1, none⟩ = false := bk2.frozen 1
  have hlt := bk2.lt
  go_wp2_with fail
  clear K0 c2 f2
  replace bk0 := bk0.far (p := ⟨w.heap.size + 1 + 1, 1, none⟩) (by simp <;> omega) (.slice (some ⟨g2, 0, none⟩) m m)
  replace bk1 := bk1.far (p := ⟨w.heap.size + 1 + 1, 1, none⟩) (by simp <;> omega) (.slice (some ⟨g2, 0, none⟩) m m)
  replace bk2 := bk2.set_ 1 (.slice (some ⟨g2, 0, none⟩) m m)
  replace hB := hB.setCell (p := ⟨w.heap.size + 1 + 1, 1, none⟩) (by simp <;> omega) (.slice (some ⟨g2, 0, none⟩) m m)
  replace o1 := o1.setBelow (p := ⟨w.heap.size + 1 + 1, 1, none⟩) (by simp <;> omega) (.slice (some ⟨g2, 0, none⟩) m m)
  replace o2 := o2.setBelow (p := ⟨w.heap.size + 1 + 1, 1, none⟩) (by simp <;> omega) (.slice (some ⟨g2, 0, none⟩) m m)
  clear hlt
  generalize w2.setCell ⟨w.heap.size + 1 + 1, 1, none⟩ (.slice (some ⟨g2, 0, none⟩) m m) = W1 at *
  refine (toInt64S_any C o f zs _ (h''.below hB) (by omega)).mono ?_
  rintro e w3 ⟨g3, rfl, o3, hb1⟩
  replace o3 : OI w3 (w.heap.size + 1 + 1 + 1) (some ⟨g3, 0, none⟩) o o zs := o3.base (by have := bk2.lt; omega)
  replace o1 := o1.below hb1
  replace o2 := o2.below hb1
  replace bk0 := bk0.below hb1
  replace bk1 := bk1.below hb1
  replace bk2 := bk2.below hb1
  replace hB := below_then hB hb1 hB.size
  clear hb1
  have K0 : ∀ i, w3.cell? ⟨w.heap.size, i, none⟩ = #[.slice A n c, .slice B m d, .slice C o f, .int .i64 p, .int .i64 q, .int .i64 r][i]? := fun i => bk0.cell i
  simp only [List.setIfInBounds_toArray, List.set_cons_zero, List.set_cons_succ] at bk2
  have K1 : ∀ i, w3.cell? ⟨w.heap.size + 1, i, none⟩ = #[.slice none 0 0, .slice none 0 0, .slice none 0 0, .int .i64 0, .int .i64 0, .int .i64 0][i]? := fun i => bk1.cell i
  have K2 : ∀ i, w3.cell? ⟨w.heap.size + 1 + 1, i, none⟩ = #[.slice (some ⟨g1, 0, none⟩) n n, .slice (some ⟨g2, 0, none⟩) m m, .slice none 0 0, .int .i64 0, .int .i64 0, .int .i64 0][i]? := fun i => bk2.cell i
  have F1 : ∀ i, w3.frozen? ⟨w.heap.size + 1, i, none⟩ = false := fun i => bk1.frozen i
  have F2 : ∀ i, w3.frozen? ⟨w.heap.size + 1 + 1, i, none⟩ = false := fun i => bk2.frozen i
  have hlt := bk2.lt
  go_wp2_with fail
  refine bodyPost_ret (v := .agg #[.slice (some ⟨g1, 0, none⟩) n n, .slice (some ⟨g2, 0, none⟩) m m, .slice (some ⟨g3, 0, none⟩) o o, .int .i64 p, .int .i64 q, .int .i64 r]) (by simp [results, Try.results28, go_sem, K1]) rfl ⟨g1, g2, g3, rfl, ?_, ?_, ?_, ?_⟩
  · refine OI.base (B := w.heap.size + 1 + 1 + 1) ?_ (by omega)
    iterate 10 refine OI.setBelow ?_ (by simp <;> omega) _
    exact o1
  · refine OI.base (B := w.heap.size + 1 + 1 + 1) ?_ (by omega)
    iterate 10 refine OI.setBelow ?_ (by simp <;> omega) _
    exact o2
  · refine OI.base (B := w.heap.size + 1 + 1 + 1) ?_ (by omega)
    iterate 10 refine OI.setBelow ?_ (by simp <;> omega) _
    exact o3
  · iterate 10 refine Below.setCell ?_ (by simp <;> omega) _
    exact hB
/-- Are two peaks the same? -/
def eqP (xs ys zs xs' ys' zs' : List Int) (p q r p' q' r' : Int) : Bool := decide (xs = xs') && decide (ys = ys') && decide (zs = zs') && decide (p = p') && decide (q = q') && decide (r = r')

set_option maxHeartbeats 2000000 in
theorem eqPeak_same (A : Option Addr) (n c : Nat) (xs : List Int) (B : Option Addr) (m d : Nat) (ys : List Int) (C : Option Addr) (o f : Nat) (zs : List Int) (p q r : Int)
    (A' : Option Addr) (c' : Nat) (B' : Option Addr) (d' : Nat) (C' : Option Addr) (f' : Nat) (w : World)
    (h : RI w A n xs) (h' : RI w B m ys) (h'' : RI w C o zs) (k : RI w A' n xs) (k' : RI w B' m ys) (k'' : RI w C' o zs) (hs : n + m + o ≤ 1048576) :
    Calls Try.prog 30 #[.agg #[.slice A n c, .slice B m d, .slice C o f, .int .i64 p, .int .i64 q, .int .i64 r], .agg #[.slice A' n c', .slice B' m d', .slice C' o f', .int .i64 p, .int .i64 q, .int .i64 r]] w fun e w' =>
      e = .returned (.bool true) ∧ Below w.heap.size w w' := by
  go_enter Try.func30, Try.ntmps30
  go_wp2_with fail
  refine (eqInt64S_any A n c xs A' n c' xs _ ((h.alloc _).alloc _) ((k.alloc _).alloc _) (by omega)).mono ?_
  rintro e w1 ⟨rfl, hb1⟩
  have hB : Below w.heap.size w w1 := below_then (((Below.refl _ _).alloc (Nat.le_refl _) _).alloc (by simp <;> omega) _) hb1 (by simp <;> omega)
  have bk0 : Blk w1 w.heap.size 38 #[.slice A n c, .slice B m d, .slice C o f, .int .i64 p, .int .i64 q, .int .i64 r] := ((Blk.new w _ _).alloc _).below hb1
  have bk1 : Blk w1 (w.heap.size + 1) 38 #[.slice A' n c', .slice B' m d', .slice C' o f', .int .i64 p, .int .i64 q, .int .i64 r] := by
    have := (Blk.new (w.alloc (.cells #[.slice A n c, .slice B m d, .slice C o f, .int .i64 p, .int .i64 q, .int .i64 r] 38)) 38 #[.slice A' n c', .slice B' m d', .slice C' o f', .int .i64 p, .int .i64 q, .int .i64 r]).below hb1
    simpa only [World.size_alloc] using this
  clear hb1
  have K0 : ∀ i, w1.cell? ⟨w.heap.size, i, none⟩ = #[.slice A n c, .slice B m d, .slice C o f, .int .i64 p, .int .i64 q, .int .i64 r][i]? := fun i => bk0.cell i
  have K1 : ∀ i, w1.cell? ⟨w.heap.size + 1, i, none⟩ = #[.slice A' n c', .slice B' m d', .slice C' o f', .int .i64 p, .int .i64 q, .int .i64 r][i]? := fun i => bk1.cell i
  go_wp2_with fail
  refine (eqInt64S_any B m d ys B' m d' ys _ (h'.below hB) (k'.below hB) (by omega)).mono ?_
  rintro e w2 ⟨rfl, hb1⟩
  replace hB := below_then hB hb1 hB.size
  replace bk0 := bk0.below hb1
  replace bk1 := bk1.below hb1
  clear hb1 K0 K1
  have K0 : ∀ i, w2.cell? ⟨w.heap.size, i, none⟩ = #[.slice A n c, .slice B m d, .slice C o f, .int .i64 p, .int .i64 q, .int .i64 r][i]? := fun i => bk0.cell i
  have K1 : ∀ i, w2.cell? ⟨w.heap.size + 1, i, none⟩ = #[.slice A' n c', .slice B' m d', .slice C' o f', .int .i64 p, .int .i64 q, .int .i64 r][i]? := fun i => bk1.cell i
  go_wp2_with fail
  refine (eqInt64S_any C o f zs C' o f' zs _ (h''.below hB) (k''.below hB) (by omega)).mono ?_
  rintro e w3 ⟨rfl, hb1⟩
  replace hB := below_then hB hb1 hB.size
  replace bk0 := bk0.below hb1
  replace bk1 := bk1.below hb1
  clear hb1 K0 K1
  have K0 : ∀ i, w3.cell? ⟨w.heap.size, i, none⟩ = #[.slice A n c, .slice B m d, .slice C o f, .int .i64 p, .int .i64 q, .int .i64 r][i]? := fun i => bk0.cell i
  have K1 : ∀ i, w3.cell? ⟨w.heap.size + 1, i, none⟩ = #[.slice A' n c', .slice B' m d', .slice C' o f', .int .i64 p, .int .i64 q, .int .i64 r][i]? := fun i => bk1.cell i
  go_wp2_with fail
  go_ret
  exact ⟨rfl, hB⟩
theorem S_TrivialPeak (A : Option Addr) (n c : Nat) (xs : List Int) (B : Option Addr) (m d : Nat) (ys : List Int) (C : Option Addr) (o f : Nat) (zs : List Int) (p q r : Int) (w : World)
    (h : RI w A n xs) (h' : RI w B m ys) (h'' : RI w C o zs) (hs : n + m + o ≤ 1048576) :
    Calls Try.prog 27 #[.agg #[.slice A n c, .slice B m d, .slice C o f, .int .i64 p, .int .i64 q, .int .i64 r]] w fun e w' => e = .returned (.bool (decide (ys = zs))) ∧ Below w.heap.size w w' := by
  go_enter Try.func27, Try.ntmps27
  go_wp2_with fail
  refine (specSameTerm_any B m d ys C o f zs _ (h'.alloc _) (h''.alloc _) (by omega)).mono ?_
  rintro e w1 ⟨rfl, hb1⟩
  go_wp2_with fail
  go_ret
  exact ⟨rfl, below_then ((Below.refl _ _).alloc (Nat.le_refl _) _) hb1 (by simp)⟩
theorem I_TrivialPeak (A : Option Addr) (n c : Nat) (xs : List Int) (B : Option Addr) (m d : Nat) (ys : List Int) (C : Option Addr) (o f : Nat) (zs : List Int) (p q r : Int) (w : World)
    (h : RI w A n xs) (h' : RI w B m ys) (h'' : RI w C o zs) (hs : n + m + o ≤ 1048576) :
    Calls Try.prog 29 #[.agg #[.slice A n c, .slice B m d, .slice C o f, .int .i64 p, .int .i64 q, .int .i64 r]] w fun e w' => e = .returned (.bool (decide (ys = zs))) ∧ Below w.heap.size w w' := by
  go_enter Try.func29, Try.ntmps29
  go_wp2_with fail
  refine (slicesEqual_any B m d ys C o f zs _ (h'.alloc _) (h''.alloc _) (by omega)).mono ?_
  rintro e w1 ⟨rfl, hb1⟩
  go_wp2_with fail
  go_ret
  exact ⟨rfl, below_then ((Below.refl _ _).alloc (Nat.le_refl _) _) hb1 (by simp)⟩
end Go.Proofs.Ytlleldidkchicaa
