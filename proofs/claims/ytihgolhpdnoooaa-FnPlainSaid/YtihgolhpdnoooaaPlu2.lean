/- Contracts: PlainOf. -/
import Derived.Test.YtihgolhpdnoooaaPlu
namespace Go.Proofs.Ytihgolhpdnoooaa
open Go.RowKit
set_option linter.unusedVariables false

theorem QR.setBelow {w : World} {B : Nat} {A : Option Addr} {n c : Nat} {x : List (List Int)} (h : QR w B A n c x) {p : Addr} (hp : p.block < B) (u : Value) : QR (w.setCell p u) B A n c x := by
  obtain ⟨h1, rs, h2, h3⟩ := h
  exact ⟨h1, rs, ownsRow_setCell_below h2 hp u, h3.set_ p u fun i hi b hb e => by have := (h3.lt hi hb).1; injection e with e; omega⟩
def V_PlainOf (xs : List Int) (x : List (List Int)) : List (List Int) := if substOk xs x then plainU x else []
theorem plainOf_no {xs : List Int} {x : List (List Int)} (h : substOk xs x = false) : V_PlainOf xs x = [] := by unfold V_PlainOf; rw [h]; rfl
theorem plainOf_yes {xs : List Int} {x : List (List Int)} (h : substOk xs x = true) : V_PlainOf xs x = plainU x := by unfold V_PlainOf; rw [h]; rfl
theorem cl1_len (i : Nat) (t : List Int) : (cl1 i t).length ≤ t.length := by unfold cl1; split <;> simp
theorem wtR_all {y : List (List Int)} {n m : Nat} (hn : y.length ≤ n) (h : ∀ i, (y.getD i []).length ≤ m) : wtR y ≤ n + n * m := by
  unfold wtR
  have key : ∀ (l : List (List Int)), (∀ t ∈ l, t.length ≤ m) → (l.map List.length).sum ≤ l.length * m := by
    intro l
    induction l with
    | nil => intro _; simp
    | cons a r ih =>
      intro hl
      have h1 := hl a (by simp)
      have h2 := ih (fun t ht => hl t (by simp [ht]))
      rw [List.map_cons, List.sum_cons, List.length_cons, Nat.add_mul]
      omega
  have h1 := key y (fun t ht => by
    obtain ⟨i, hi, rfl⟩ := List.getElem_of_mem ht
    have := h i
    rwa [List.getD_eq_getElem?_getD, List.getElem?_eq_getElem hi, Option.getD_some] at this)
  have h2 : y.length * m ≤ n * m := Nat.mul_le_mul_right _ hn
  omega
theorem plainU_wt {x : List (List Int)} {n m : Nat} (hn : x.length ≤ n) (h : ∀ i, (hasV x i).length ≤ m) : wtR (plainU x) ≤ n + n * m :=
  wtR_all (Nat.le_trans (plainU_len x) hn) fun i => by rw [plainU_get]; exact Nat.le_trans (cl1_len i _) (h i)
theorem bd_PlainOf (xs : List Int) (x : List (List Int)) : (V_PlainOf xs x).length ≤ 24 := by
  unfold V_PlainOf
  split
  · rename_i h
    have := plainU_len x
    have := (substOk_iff.1 h).2.1
    omega
  · simp
theorem bw_PlainOf (xs : List Int) (x : List (List Int)) : wtR (V_PlainOf xs x) ≤ 1464 := by
  unfold V_PlainOf
  split
  · rename_i h
    have := plainU_wt (x := x) (n := 24) (m := 60) (substOk_iff.1 h).2.1 (hasV_len h)
    omega
  · simp [wtR]
set_option maxHeartbeats 1000000 in
set_option maxRecDepth 20000 in
theorem S_PlainOf (A : Option Addr) (n c : Nat) (xs : List Int) (B : Option Addr) (m d : Nat) (x : List (List Int)) (w : World) (h : RI w A n xs) (h' : RR w B m x) (hn : n ≤ 1048576) (hw : wtR x ≤ 1048576) :
    Calls Try.prog 106 #[.agg #[.slice A n c], .agg #[.slice B m d]] w fun e w' => ∃ A' c', e = .returned (.agg #[.slice A' (V_PlainOf xs x).length c']) ∧ QR w' w.heap.size A' (V_PlainOf xs x).length c' (V_PlainOf xs x) ∧ Below w.heap.size w w' := by
  have hl := h'.1
  have hB0 : Below w.heap.size w (((w.alloc (.cells #[.slice A n c] 26)).alloc (.cells #[.slice B m d] 51)).alloc (.cells #[.slice none 0 0] 51)) := (((Below.refl _ _).alloc (Nat.le_refl _) _).alloc (by simp) _).alloc (by simp <;> omega) _
  have bk1 : Blk (((w.alloc (.cells #[.slice A n c] 26)).alloc (.cells #[.slice B m d] 51)).alloc (.cells #[.slice none 0 0] 51)) (w.heap.size + 1) 51 #[.slice B m d] := by
    have := (Blk.new (w.alloc (.cells #[.slice A n c] 26)) 51 #[.slice B m d]).alloc (.cells #[.slice none 0 0] 51)
    simpa only [World.size_alloc] using this
  have bk2 : Blk (((w.alloc (.cells #[.slice A n c] 26)).alloc (.cells #[.slice B m d] 51)).alloc (.cells #[.slice none 0 0] 51)) (w.heap.size + 1 + 1) 51 #[.slice none 0 0] := by
    have := Blk.new ((w.alloc (.cells #[.slice A n c] 26)).alloc (.cells #[.slice B m d] 51)) 51 #[.slice none 0 0]
    simpa only [World.size_alloc] using this
  cases hq : substOk xs x
  · have HE := plainOf_no hq
    rw [HE]
    have HQ := Lib.hid hq
    clear HE hq
    go_enter Try.func106, Try.ntmps106
    go_wp2_with fail
    generalize ((w.alloc (.cells #[.slice A n c] 26)).alloc (.cells #[.slice B m d] 51)).alloc (.cells #[.slice none 0 0] 51) = W0 at *
    refine (specSubstOk_any A n c xs B m d x _ (h.below hB0) (h'.below hB0) hn hw).mono ?_
    rintro e w1 ⟨rfl, hb1⟩
    rw [HQ.out]
    replace bk2 := bk2.below hb1
    have hB := below_then hB0 hb1 hB0.size
    clear hb1 bk1
    have K0 : w1.cell? ⟨w.heap.size + 1 + 1, 0, none⟩ = some (.slice none 0 0) := by simpa using bk2.cell 0
    have F0 : w1.frozen? ⟨w.heap.size + 1 + 1, 0, none⟩ = false := bk2.frozen 0
    have bk := bk2.set_ 0 (.slice none 0 0)
    simp only [List.setIfInBounds_toArray, List.set_cons_zero] at bk
    have E3 : Below w.heap.size w (w1.setCell ⟨w.heap.size + 1 + 1, 0, none⟩ (.slice none 0 0)) := hB.setCell (p := ⟨w.heap.size + 1 + 1, 0, none⟩) (by simp <;> omega) _
    have hlt := bk2.lt
    go_wp2_with fail
    have K2 : ∀ i, (w1.setCell ⟨w.heap.size + 1 + 1, 0, none⟩ (.slice none 0 0)).cell? ⟨w.heap.size + 1 + 1, i, none⟩ = #[.slice none 0 0][i]? := fun i => bk.cell i
    generalize (w1.setCell ⟨w.heap.size + 1 + 1, 0, none⟩ (.slice none 0 0)) = W2 at *
    exact bodyPost_ret (v := .agg #[.slice none 0 0]) (by simp [results, Try.results106, go_sem, K2]) rfl ⟨none, 0, rfl, ⟨rfl, [], World.ownsRow_nil _ _ _ _, Rows.nil _ _⟩, E3⟩
  · have HE := plainOf_yes hq
    rw [HE]
    have HQ := Lib.hid hq
    have hm24 : m ≤ 24 := by have := (substOk_iff.1 hq).2.1; omega
    clear HE hq
    go_enter Try.func106, Try.ntmps106
    go_wp2_with fail
    generalize ((w.alloc (.cells #[.slice A n c] 26)).alloc (.cells #[.slice B m d] 51)).alloc (.cells #[.slice none 0 0] 51) = W0 at *
    refine (specSubstOk_any A n c xs B m d x _ (h.below hB0) (h'.below hB0) hn hw).mono ?_
    rintro e w1 ⟨rfl, hb1⟩
    rw [HQ.out]
    replace bk1 := bk1.below hb1
    replace bk2 := bk2.below hb1
    have hB := below_then hB0 hb1 hB0.size
    clear hb1
    have K0 : w1.cell? ⟨w.heap.size + 1, 0, none⟩ = some (.slice B m d) := by simpa using bk1.cell 0
    have hlt := bk2.lt
    go_wp2_with fail
    refine (l2Plain_any B m d x _ (h'.below hB) hw hm24).mono ?_
    rintro e w2 ⟨A', c', rfl, hL, hb2⟩
    replace bk2 := bk2.below hb2
    have hB2 := below_then hB hb2 hB.size
    clear hb2 bk1 K0
    have K0 : w2.cell? ⟨w.heap.size + 1 + 1, 0, none⟩ = some (.slice none 0 0) := by simpa using bk2.cell 0
    have F0 : w2.frozen? ⟨w.heap.size + 1 + 1, 0, none⟩ = false := bk2.frozen 0
    have bk := bk2.set_ 0 (.slice A' (plainU x).length c')
    simp only [List.setIfInBounds_toArray, List.set_cons_zero] at bk
    have E1 : QR (w2.setCell ⟨w.heap.size + 1 + 1, 0, none⟩ (.slice A' (plainU x).length c')) w.heap.size A' (plainU x).length c' (plainU x) :=
      QR.base (B := w1.heap.size) (hL.setBelow (p := ⟨w.heap.size + 1 + 1, 0, none⟩) hlt _) hB.size
    have E3 : Below w.heap.size w (w2.setCell ⟨w.heap.size + 1 + 1, 0, none⟩ (.slice A' (plainU x).length c')) := hB2.setCell (p := ⟨w.heap.size + 1 + 1, 0, none⟩) (by simp <;> omega) _
    have HK := Lib.hid bk
    clear hL bk
    go_wp2_with fail
    have K2 : ∀ i, (w2.setCell ⟨w.heap.size + 1 + 1, 0, none⟩ (.slice A' (plainU x).length c')).cell? ⟨w.heap.size + 1 + 1, i, none⟩ = #[.slice A' (plainU x).length c'][i]? := fun i => HK.out.cell i
    generalize (w2.setCell ⟨w.heap.size + 1 + 1, 0, none⟩ (.slice A' (plainU x).length c')) = W2 at *
    exact bodyPost_ret (v := .agg #[.slice A' (plainU x).length c']) (by simp [results, Try.results106, go_sem, K2]) rfl ⟨A', c', rfl, E1, E3⟩
set_option maxHeartbeats 1000000 in
set_option maxRecDepth 20000 in
theorem I_PlainOf (A : Option Addr) (n c : Nat) (xs : List Int) (B : Option Addr) (m d : Nat) (x : List (List Int)) (w : World) (h : RI w A n xs) (h' : RR w B m x) (hn : n ≤ 1048576) (hw : wtR x ≤ 1048576) :
    Calls Try.prog 45 #[.agg #[.slice A n c], .agg #[.slice B m d]] w fun e w' => ∃ A' c', e = .returned (.agg #[.slice A' (V_PlainOf xs x).length c']) ∧ QR w' w.heap.size A' (V_PlainOf xs x).length c' (V_PlainOf xs x) ∧ Below w.heap.size w w' := by
  have hl := h'.1
  have hB0 : Below w.heap.size w (((w.alloc (.cells #[.slice A n c] 26)).alloc (.cells #[.slice B m d] 51)).alloc (.cells #[.slice none 0 0] 51)) := (((Below.refl _ _).alloc (Nat.le_refl _) _).alloc (by simp) _).alloc (by simp <;> omega) _
  have bk1 : Blk (((w.alloc (.cells #[.slice A n c] 26)).alloc (.cells #[.slice B m d] 51)).alloc (.cells #[.slice none 0 0] 51)) (w.heap.size + 1) 51 #[.slice B m d] := by
    have := (Blk.new (w.alloc (.cells #[.slice A n c] 26)) 51 #[.slice B m d]).alloc (.cells #[.slice none 0 0] 51)
    simpa only [World.size_alloc] using this
  have bk2 : Blk (((w.alloc (.cells #[.slice A n c] 26)).alloc (.cells #[.slice B m d] 51)).alloc (.cells #[.slice none 0 0] 51)) (w.heap.size + 1 + 1) 51 #[.slice none 0 0] := by
    have := Blk.new ((w.alloc (.cells #[.slice A n c] 26)).alloc (.cells #[.slice B m d] 51)) 51 #[.slice none 0 0]
    simpa only [World.size_alloc] using this
  cases hq : substOk xs x
  · have HE := plainOf_no hq
    rw [HE]
    have HQ := Lib.hid hq
    clear HE hq
    go_enter Try.func45, Try.ntmps45
    go_wp2_with fail
    generalize ((w.alloc (.cells #[.slice A n c] 26)).alloc (.cells #[.slice B m d] 51)).alloc (.cells #[.slice none 0 0] 51) = W0 at *
    refine (implSubstOk_any A n c xs B m d x _ (h.below hB0) (h'.below hB0) hn hw).mono ?_
    rintro e w1 ⟨rfl, hb1⟩
    rw [HQ.out]
    replace bk2 := bk2.below hb1
    have hB := below_then hB0 hb1 hB0.size
    clear hb1 bk1
    have K0 : w1.cell? ⟨w.heap.size + 1 + 1, 0, none⟩ = some (.slice none 0 0) := by simpa using bk2.cell 0
    have F0 : w1.frozen? ⟨w.heap.size + 1 + 1, 0, none⟩ = false := bk2.frozen 0
    have bk := bk2.set_ 0 (.slice none 0 0)
    simp only [List.setIfInBounds_toArray, List.set_cons_zero] at bk
    have E3 : Below w.heap.size w (w1.setCell ⟨w.heap.size + 1 + 1, 0, none⟩ (.slice none 0 0)) := hB.setCell (p := ⟨w.heap.size + 1 + 1, 0, none⟩) (by simp <;> omega) _
    have hlt := bk2.lt
    go_wp2_with fail
    have K2 : ∀ i, (w1.setCell ⟨w.heap.size + 1 + 1, 0, none⟩ (.slice none 0 0)).cell? ⟨w.heap.size + 1 + 1, i, none⟩ = #[.slice none 0 0][i]? := fun i => bk.cell i
    generalize (w1.setCell ⟨w.heap.size + 1 + 1, 0, none⟩ (.slice none 0 0)) = W2 at *
    exact bodyPost_ret (v := .agg #[.slice none 0 0]) (by simp [results, Try.results45, go_sem, K2]) rfl ⟨none, 0, rfl, ⟨rfl, [], World.ownsRow_nil _ _ _ _, Rows.nil _ _⟩, E3⟩
  · have HE := plainOf_yes hq
    rw [HE]
    have HQ := Lib.hid hq
    have hm24 : m ≤ 24 := by have := (substOk_iff.1 hq).2.1; omega
    clear HE hq
    go_enter Try.func45, Try.ntmps45
    go_wp2_with fail
    generalize ((w.alloc (.cells #[.slice A n c] 26)).alloc (.cells #[.slice B m d] 51)).alloc (.cells #[.slice none 0 0] 51) = W0 at *
    refine (implSubstOk_any A n c xs B m d x _ (h.below hB0) (h'.below hB0) hn hw).mono ?_
    rintro e w1 ⟨rfl, hb1⟩
    rw [HQ.out]
    replace bk1 := bk1.below hb1
    replace bk2 := bk2.below hb1
    have hB := below_then hB0 hb1 hB0.size
    clear hb1
    have K0 : w1.cell? ⟨w.heap.size + 1, 0, none⟩ = some (.slice B m d) := by simpa using bk1.cell 0
    have hlt := bk2.lt
    go_wp2_with fail
    refine (plain_any B m d x _ (h'.below hB) hw hm24).mono ?_
    rintro e w2 ⟨A', c', rfl, hL, hb2⟩
    replace bk2 := bk2.below hb2
    have hB2 := below_then hB hb2 hB.size
    clear hb2 bk1 K0
    have K0 : w2.cell? ⟨w.heap.size + 1 + 1, 0, none⟩ = some (.slice none 0 0) := by simpa using bk2.cell 0
    have F0 : w2.frozen? ⟨w.heap.size + 1 + 1, 0, none⟩ = false := bk2.frozen 0
    have bk := bk2.set_ 0 (.slice A' (plainU x).length c')
    simp only [List.setIfInBounds_toArray, List.set_cons_zero] at bk
    have E1 : QR (w2.setCell ⟨w.heap.size + 1 + 1, 0, none⟩ (.slice A' (plainU x).length c')) w.heap.size A' (plainU x).length c' (plainU x) :=
      QR.base (B := w1.heap.size) (hL.setBelow (p := ⟨w.heap.size + 1 + 1, 0, none⟩) hlt _) hB.size
    have E3 : Below w.heap.size w (w2.setCell ⟨w.heap.size + 1 + 1, 0, none⟩ (.slice A' (plainU x).length c')) := hB2.setCell (p := ⟨w.heap.size + 1 + 1, 0, none⟩) (by simp <;> omega) _
    have HK := Lib.hid bk
    clear hL bk
    go_wp2_with fail
    have K2 : ∀ i, (w2.setCell ⟨w.heap.size + 1 + 1, 0, none⟩ (.slice A' (plainU x).length c')).cell? ⟨w.heap.size + 1 + 1, i, none⟩ = #[.slice A' (plainU x).length c'][i]? := fun i => HK.out.cell i
    generalize (w2.setCell ⟨w.heap.size + 1 + 1, 0, none⟩ (.slice A' (plainU x).length c')) = W2 at *
    exact bodyPost_ret (v := .agg #[.slice A' (plainU x).length c']) (by simp [results, Try.results45, go_sem, K2]) rfl ⟨A', c', rfl, E1, E3⟩
end Go.Proofs.Ytihgolhpdnoooaa
