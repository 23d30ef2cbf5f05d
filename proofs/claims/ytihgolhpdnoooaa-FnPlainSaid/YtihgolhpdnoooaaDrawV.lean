/- Contracts: what the laws draw: a signature with substitutions. -/
import Derived.Test.YtihgolhpdnoooaaDrawU
import Derived.Test.YtihgolhpdnoooaaPlu2
namespace Go.Proofs.Ytihgolhpdnoooaa
open Go.RowKit
set_option linter.unusedVariables false
set_option linter.unusedSimpArgs false

theorem qrU {w w' : World} {B lo hi : Nat} {A : Option Addr} {n c : Nat} {x : List (List Int)} (h : QR w B A n c x) (ho : Only lo hi w w') (hB : hi ≤ B) : QR w' B A n c x := by
  obtain ⟨h1, rs, h2, h3⟩ := h
  exact ⟨h1, rs, ownsRow_upO h2 ho hB, h3.same fun i hii b hbl => ho.block b (h3.lt hii hbl).2 (Or.inr (by have := (h3.lt hii hbl).1; omega))⟩

set_option maxHeartbeats 4000000 in
set_option maxRecDepth 20000 in
theorem DrawFilled_any (A : Option Addr) (n c : Nat) (w : World) (h : BI w A n) (hn : n ≤ 4096) :
    Calls Try.prog 49 #[.slice A n c] w fun e w' => ∃ (S : Option Addr) (m d' : Nat) (xs : List Int) (U : Option Addr) (j b : Nat) (x : List (List Int)) (T : Option Addr) (k d : Nat) (t : List Int), e = .returned (.tuple #[.agg #[.slice S m d'], .agg #[.slice U j b], .slice T k d]) ∧ RI w' S m xs ∧ m ≤ 9 ∧ (RR w' U j x ∧ wtR x ≤ 2000 ∧ j ≤ 25) ∧ RI w' T k t ∧ k ≤ 60 ∧ (k ≤ d ∧ d ≤ 9223372036854775807) ∧ Below w.heap.size w w' := by
  have bk0 := (Blk.new w 26 #[.slice none 0 0]).alloc (.cells #[.slice none 0 0] 51)
  have bk1 : Blk ((w.alloc (.cells #[.slice none 0 0] 26)).alloc (.cells #[.slice none 0 0] 51)) (w.heap.size + 1) 51 #[.slice none 0 0] := by
    have := Blk.new (w.alloc (.cells #[.slice none 0 0] 26)) 51 #[.slice none 0 0]
    simpa only [World.size_alloc] using this
  have hB := ((Below.refl w.heap.size w).alloc (Nat.le_refl _) (.cells #[.slice none 0 0] 26)).alloc (by simp) (.cells #[.slice none 0 0] 51)
  have hs0 : ((w.alloc (.cells #[.slice none 0 0] 26)).alloc (.cells #[.slice none 0 0] 51)).heap.size = w.heap.size + 1 + 1 := by simp
  go_enter Try.func49, Try.ntmps49
  go_wp2_with fail
  generalize (w.alloc (.cells #[.slice none 0 0] 26)).alloc (.cells #[.slice none 0 0] 51) = W0 at *
  refine (l1New_any A n c W0 (h.below (hB.mono (Nat.le_refl _))) hn).mono ?_
  rintro e w1 ⟨rfl, hC, hb1⟩
  replace bk0 := bk0.below hb1
  replace bk1 := bk1.below hb1
  replace hB := below_then hB hb1 (by omega)
  rw [hs0] at hC
  have hlt := hC.lt
  clear hb1
  go_wp2_with fail
  refine (l1DrawSigAny_any _ A n c w1 hC).mono ?_
  rintro e w2 ⟨S, m, d', xs, rfl, hI, hm, hC2, ho2⟩
  have hs2 := ho2.size
  replace bk0 := (bk0.only ho2 (Or.inl (by omega))).alloc (.cells #[.slice S m d'] 26)
  replace bk1 := (bk1.only ho2 (Or.inl (by omega))).alloc (.cells #[.slice S m d'] 26)
  replace hB := (hB.trans (ho2.below (B := w.heap.size) (by omega) (by omega))).alloc (by omega) (.cells #[.slice S m d'] 26)
  have hI2 := (hI.rb.base (B' := w.heap.size + 1 + 1 + 1) (by omega)).below ((Below.refl _ _).alloc (Nat.le_refl _) (.cells #[.slice S m d'] 26))
  have bx := Blk.new w2 26 #[.slice S m d']
  replace hC2 := hC2.alloc (.cells #[.slice S m d'] 26)
  clear ho2 hI hC
  have KX : ∀ i, (w2.alloc (.cells #[.slice S m d'] 26)).cell? ⟨w2.heap.size, i, none⟩ = #[Value.slice S m d'][i]? := fun i => bx.cell i
  go_wp2_with fail
  generalize w2.alloc (.cells #[.slice S m d'] 26) = W2 at *
  have hsW := bx.lt
  refine (l2DrawAny_any _ A n c S m d' xs W2 hC2 hI2 hm).mono ?_
  rintro e w3 ⟨U, j, b, x, rfl, hD, hj, hC3, ho3⟩
  have hs3 := ho3.size
  have HD := Lib.hid ((hD.base (B' := w.heap.size + 1 + 1 + 1) (by omega)).below ((Below.refl _ _).alloc (Nat.le_refl _) (.cells #[.slice U j b] 51)))
  replace bk0 := (bk0.only ho3 (Or.inl (by omega))).alloc (.cells #[.slice U j b] 51)
  replace bk1 := (bk1.only ho3 (Or.inl (by omega))).alloc (.cells #[.slice U j b] 51)
  replace bx := (bx.only ho3 (Or.inr (by omega))).alloc (.cells #[.slice U j b] 51)
  replace hB := (hB.trans (ho3.below (B := w.heap.size) (by omega) (by omega))).alloc (by omega) (.cells #[.slice U j b] 51)
  replace hI2 := (hI2.up ho3 (by omega)).below ((Below.refl _ _).alloc (Nat.le_refl _) (.cells #[.slice U j b] 51))
  have by_ := Blk.new w3 51 #[.slice U j b]
  replace hC3 := hC3.alloc (.cells #[.slice U j b] 51)
  clear ho3 hD hC2 KX
  have KX : ∀ i, (w3.alloc (.cells #[.slice U j b] 51)).cell? ⟨w2.heap.size, i, none⟩ = #[Value.slice S m d'][i]? := fun i => bx.cell i
  have KY : ∀ i, (w3.alloc (.cells #[.slice U j b] 51)).cell? ⟨w3.heap.size, i, none⟩ = #[Value.slice U j b][i]? := fun i => by_.cell i
  go_wp2_with fail
  generalize w3.alloc (.cells #[.slice U j b] 51) = W3 at *
  have hsY := by_.lt
  go_region_law (go_simp; go_at_call 76; refine (l1DrawAny_any _ A n c S m d' xs _ ?_ ?_ hm).mono ?_; (first | exact hC3.drew); (first | exact (hI2.base (by omega)).drew); rintro e w4 ⟨T, k, d, t, rfl, hT, hk, hkd, hC4, ho4⟩; have bk4 := bk0.only (Only.drewL ho4) (Or.inl (by omega)); have K4 : ∀ i, w4.cell? ⟨w.heap.size, i, none⟩ = #[Value.slice none 0 0][i]? := fun i => bk4.cell i; have F4 : ∀ i, w4.frozen? ⟨w.heap.size, i, none⟩ = false := fun i => bk4.frozen i; have bl4 := bk1.only (Only.drewL ho4) (Or.inl (by omega)); have L4 : ∀ i, w4.cell? ⟨w.heap.size + 1, i, none⟩ = #[Value.slice none 0 0][i]? := fun i => bl4.cell i; have G4 : ∀ i, w4.frozen? ⟨w.heap.size + 1, i, none⟩ = false := fun i => bl4.frozen i; have bx4 := bx.only (Only.drewL ho4) (Or.inr (by omega)); have KX4 : ∀ i, w4.cell? ⟨w2.heap.size, i, none⟩ = #[Value.slice S m d'][i]? := fun i => bx4.cell i; have by4 := by_.only (Only.drewL ho4) (Or.inr (by omega)); have KY4 : ∀ i, w4.cell? ⟨w3.heap.size, i, none⟩ = #[Value.slice U j b][i]? := fun i => by4.cell i)
  all_goals (
    have hOw := Only.drewL ho4
    have hs4 := hOw.size
    have ho5 : Only w.heap.size (w.heap.size + 1) w4 (w4.setCell ⟨w.heap.size, 0, none⟩ (.slice S m d')) := (Only.refl _ _ _).setCell (by simp) _
    have ho6 : Only (w.heap.size + 1) (w.heap.size + 1 + 1) (w4.setCell ⟨w.heap.size, 0, none⟩ (.slice S m d')) ((w4.setCell ⟨w.heap.size, 0, none⟩ (.slice S m d')).setCell ⟨w.heap.size + 1, 0, none⟩ (.slice U j b)) := (Only.refl _ _ _).setCell (by simp) _
    have hB4 := hB.trans (hOw.below (B := w.heap.size) (by omega) (by omega))
    have hI4 := ((hI2.up hOw (by omega)).up ho5 (by omega)).up ho6 (by omega)
    have hD4 := ((HD.out.up hOw (by omega)).up ho5 (by omega)).up ho6 (by omega)
    have hT4 := ((hT.base (B' := w.heap.size + 1 + 1 + 1) (by show _ ≤ W3.heap.size; omega)).up ho5 (by omega)).up ho6 (by omega)
    have hB6 := (hB4.trans (ho5.below (B := w.heap.size) (by omega) (by omega))).trans (ho6.below (B := w.heap.size) (by omega) (by simp [World.setCell]; omega))
    have hwt := HD.out.wt
    go_wp2_with fail
    refine bodyPost_ret (v := .tuple #[.agg #[.slice S m d'], .agg #[.slice U j b], .slice T k d]) (by simp [results, Try.results49, go_sem, K4, L4]) rfl ⟨S, m, d', xs, U, j, b, x, T, k, d, t, rfl, hI4.1, hm, ⟨hD4.rr, by omega, hj⟩, hT4.1, by omega, hkd, hB6⟩)
set_option maxHeartbeats 4000000 in
set_option maxRecDepth 20000 in
theorem DrawComposed_any (A : Option Addr) (n c : Nat) (w : World) (h : BI w A n) (hn : n ≤ 4096) :
    Calls Try.prog 50 #[.slice A n c] w fun e w' => ∃ (S : Option Addr) (m d' : Nat) (xs : List Int) (U : Option Addr) (j b : Nat) (x : List (List Int)) (T : Option Addr) (k d : Nat) (y : List (List Int)), e = .returned (.tuple #[.agg #[.slice S m d'], .agg #[.slice U j b], .agg #[.slice T k d]]) ∧ RI w' S m xs ∧ m ≤ 9 ∧ (RR w' U j x ∧ wtR x ≤ 2000 ∧ j ≤ 25) ∧ (RR w' T k y ∧ wtR y ≤ 2000 ∧ k ≤ 25) ∧ Below w.heap.size w w' := by
  have bk0 := ((Blk.new w 26 #[.slice none 0 0]).alloc (.cells #[.slice none 0 0] 51)).alloc (.cells #[.slice none 0 0] 51)
  have bk1 : Blk (((w.alloc (.cells #[.slice none 0 0] 26)).alloc (.cells #[.slice none 0 0] 51)).alloc (.cells #[.slice none 0 0] 51)) (w.heap.size + 1) 51 #[.slice none 0 0] := by
    have := (Blk.new (w.alloc (.cells #[.slice none 0 0] 26)) 51 #[.slice none 0 0]).alloc (.cells #[.slice none 0 0] 51)
    simpa only [World.size_alloc] using this
  have bk2 : Blk (((w.alloc (.cells #[.slice none 0 0] 26)).alloc (.cells #[.slice none 0 0] 51)).alloc (.cells #[.slice none 0 0] 51)) (w.heap.size + 1 + 1) 51 #[.slice none 0 0] := by
    have := Blk.new ((w.alloc (.cells #[.slice none 0 0] 26)).alloc (.cells #[.slice none 0 0] 51)) 51 #[.slice none 0 0]
    simpa only [World.size_alloc] using this
  have hB := (((Below.refl w.heap.size w).alloc (Nat.le_refl _) (.cells #[.slice none 0 0] 26)).alloc (by simp) (.cells #[.slice none 0 0] 51)).alloc (by simp; omega) (.cells #[.slice none 0 0] 51)
  have hs0 : (((w.alloc (.cells #[.slice none 0 0] 26)).alloc (.cells #[.slice none 0 0] 51)).alloc (.cells #[.slice none 0 0] 51)).heap.size = w.heap.size + 1 + 1 + 1 := by simp
  go_enter Try.func50, Try.ntmps50
  go_wp2_with fail
  generalize ((w.alloc (.cells #[.slice none 0 0] 26)).alloc (.cells #[.slice none 0 0] 51)).alloc (.cells #[.slice none 0 0] 51) = W0 at *
  refine (l1New_any A n c W0 (h.below (hB.mono (Nat.le_refl _))) hn).mono ?_
  rintro e w1 ⟨rfl, hC, hb1⟩
  replace bk0 := bk0.below hb1
  replace bk1 := bk1.below hb1
  replace bk2 := bk2.below hb1
  replace hB := below_then hB hb1 (by omega)
  rw [hs0] at hC
  have hlt := hC.lt
  clear hb1
  go_wp2_with fail
  refine (l1DrawSigAny_any _ A n c w1 hC).mono ?_
  rintro e w2 ⟨S, m, d', xs, rfl, hI, hm, hC2, ho2⟩
  have hs2 := ho2.size
  replace bk0 := (bk0.only ho2 (Or.inl (by omega))).alloc (.cells #[.slice S m d'] 26)
  replace bk1 := (bk1.only ho2 (Or.inl (by omega))).alloc (.cells #[.slice S m d'] 26)
  replace bk2 := (bk2.only ho2 (Or.inl (by omega))).alloc (.cells #[.slice S m d'] 26)
  replace hB := (hB.trans (ho2.below (B := w.heap.size) (by omega) (by omega))).alloc (by omega) (.cells #[.slice S m d'] 26)
  have hI2 := (hI.rb.base (B' := w.heap.size + 1 + 1 + 1 + 1) (by omega)).below ((Below.refl _ _).alloc (Nat.le_refl _) (.cells #[.slice S m d'] 26))
  have bx := Blk.new w2 26 #[.slice S m d']
  replace hC2 := hC2.alloc (.cells #[.slice S m d'] 26)
  clear ho2 hI hC
  have KX : ∀ i, (w2.alloc (.cells #[.slice S m d'] 26)).cell? ⟨w2.heap.size, i, none⟩ = #[Value.slice S m d'][i]? := fun i => bx.cell i
  go_wp2_with fail
  generalize w2.alloc (.cells #[.slice S m d'] 26) = W2 at *
  have hsW := bx.lt
  refine (l2DrawAny_any _ A n c S m d' xs W2 hC2 hI2 hm).mono ?_
  rintro e w3 ⟨U, j, b, x, rfl, hD, hj, hC3, ho3⟩
  have hs3 := ho3.size
  have HD := Lib.hid ((hD.base (B' := w.heap.size + 1 + 1 + 1 + 1) (by omega)).below ((Below.refl _ _).alloc (Nat.le_refl _) (.cells #[.slice U j b] 51)))
  replace bk0 := (bk0.only ho3 (Or.inl (by omega))).alloc (.cells #[.slice U j b] 51)
  replace bk1 := (bk1.only ho3 (Or.inl (by omega))).alloc (.cells #[.slice U j b] 51)
  replace bk2 := (bk2.only ho3 (Or.inl (by omega))).alloc (.cells #[.slice U j b] 51)
  replace bx := (bx.only ho3 (Or.inr (by omega))).alloc (.cells #[.slice U j b] 51)
  replace hB := (hB.trans (ho3.below (B := w.heap.size) (by omega) (by omega))).alloc (by omega) (.cells #[.slice U j b] 51)
  replace hI2 := (hI2.up ho3 (by omega)).below ((Below.refl _ _).alloc (Nat.le_refl _) (.cells #[.slice U j b] 51))
  have by_ := Blk.new w3 51 #[.slice U j b]
  replace hC3 := hC3.alloc (.cells #[.slice U j b] 51)
  clear ho3 hD hC2 KX
  have KX : ∀ i, (w3.alloc (.cells #[.slice U j b] 51)).cell? ⟨w2.heap.size, i, none⟩ = #[Value.slice S m d'][i]? := fun i => bx.cell i
  have KY : ∀ i, (w3.alloc (.cells #[.slice U j b] 51)).cell? ⟨w3.heap.size, i, none⟩ = #[Value.slice U j b][i]? := fun i => by_.cell i
  go_wp2_with fail
  generalize w3.alloc (.cells #[.slice U j b] 51) = W3 at *
  have hsY := by_.lt
  go_region_law (go_simp; go_at_call 105; refine (l2DrawAny_any _ A n c S m d' xs _ ?_ ?_ hm).mono ?_; (first | exact hC3.drew); (first | exact (hI2.base (by omega)).drew); rintro e w4 ⟨T, k, d, y, rfl, hT, hk, hC4, ho4⟩; have bk4 := bk0.only (Only.drewL ho4) (Or.inl (by omega)); have K4 : ∀ i, w4.cell? ⟨w.heap.size, i, none⟩ = #[Value.slice none 0 0][i]? := fun i => bk4.cell i; have F4 : ∀ i, w4.frozen? ⟨w.heap.size, i, none⟩ = false := fun i => bk4.frozen i; have bl4 := bk1.only (Only.drewL ho4) (Or.inl (by omega)); have L4 : ∀ i, w4.cell? ⟨w.heap.size + 1, i, none⟩ = #[Value.slice none 0 0][i]? := fun i => bl4.cell i; have G4 : ∀ i, w4.frozen? ⟨w.heap.size + 1, i, none⟩ = false := fun i => bl4.frozen i; have bm4 := bk2.only (Only.drewL ho4) (Or.inl (by omega)); have M4 : ∀ i, w4.cell? ⟨w.heap.size + 1 + 1, i, none⟩ = #[Value.slice none 0 0][i]? := fun i => bm4.cell i; have N4 : ∀ i, w4.frozen? ⟨w.heap.size + 1 + 1, i, none⟩ = false := fun i => bm4.frozen i; have bx4 := bx.only (Only.drewL ho4) (Or.inr (by omega)); have KX4 : ∀ i, w4.cell? ⟨w2.heap.size, i, none⟩ = #[Value.slice S m d'][i]? := fun i => bx4.cell i; have by4 := by_.only (Only.drewL ho4) (Or.inr (by omega)); have KY4 : ∀ i, w4.cell? ⟨w3.heap.size, i, none⟩ = #[Value.slice U j b][i]? := fun i => by4.cell i)
  all_goals (
    have hOw := Only.drewL ho4
    have hs4 := hOw.size
    have ho5 : Only w.heap.size (w.heap.size + 1) w4 (w4.setCell ⟨w.heap.size, 0, none⟩ (.slice S m d')) := (Only.refl _ _ _).setCell (by simp) _
    have ho6 : Only (w.heap.size + 1) (w.heap.size + 1 + 1) (w4.setCell ⟨w.heap.size, 0, none⟩ (.slice S m d')) ((w4.setCell ⟨w.heap.size, 0, none⟩ (.slice S m d')).setCell ⟨w.heap.size + 1, 0, none⟩ (.slice U j b)) := (Only.refl _ _ _).setCell (by simp) _
    have ho7 : Only (w.heap.size + 1 + 1) (w.heap.size + 1 + 1 + 1) ((w4.setCell ⟨w.heap.size, 0, none⟩ (.slice S m d')).setCell ⟨w.heap.size + 1, 0, none⟩ (.slice U j b)) (((w4.setCell ⟨w.heap.size, 0, none⟩ (.slice S m d')).setCell ⟨w.heap.size + 1, 0, none⟩ (.slice U j b)).setCell ⟨w.heap.size + 1 + 1, 0, none⟩ (.slice T k d)) := (Only.refl _ _ _).setCell (by simp) _
    have hB4 := hB.trans (hOw.below (B := w.heap.size) (by omega) (by omega))
    have hI4 := (((hI2.up hOw (by omega)).up ho5 (by omega)).up ho6 (by omega)).up ho7 (by omega)
    have hD4 := (((HD.out.up hOw (by omega)).up ho5 (by omega)).up ho6 (by omega)).up ho7 (by omega)
    have hB6 := ((hB4.trans (ho5.below (B := w.heap.size) (by omega) (by omega))).trans (ho6.below (B := w.heap.size) (by omega) (by simp [World.setCell]; omega))).trans (ho7.below (B := w.heap.size) (by omega) (by simp [World.setCell]; omega))
    have hwt := HD.out.wt
    have hT4 := (((hT.base (B' := w.heap.size + 1 + 1 + 1 + 1) (by show _ ≤ W3.heap.size; omega)).up ho5 (by omega)).up ho6 (by omega)).up ho7 (by omega)
    have hwt2 := hT.wt
    go_wp2_with fail
    refine bodyPost_ret (v := .tuple #[.agg #[.slice S m d'], .agg #[.slice U j b], .agg #[.slice T k d]]) (by simp [results, Try.results50, go_sem, K4, L4, M4]) rfl ⟨S, m, d', xs, U, j, b, x, T, k, d, y, rfl, hI4.1, hm, ⟨hD4.rr, by omega, hj⟩, ⟨hT4.rr, by omega, hk⟩, hB6⟩)
set_option maxHeartbeats 4000000 in
set_option maxRecDepth 20000 in
theorem DrawSameSubst_any (A : Option Addr) (n c : Nat) (w : World) (h : BI w A n) (hn : n ≤ 4096) :
    Calls Try.prog 44 #[.slice A n c] w fun e w' => ∃ (S : Option Addr) (m d' : Nat) (xs : List Int) (U : Option Addr) (j b : Nat) (x : List (List Int)) (T : Option Addr) (k d : Nat) (y : List (List Int)), e = .returned (.tuple #[.agg #[.slice S m d'], .agg #[.slice U j b], .agg #[.slice T k d]]) ∧ RI w' S m xs ∧ m ≤ 9 ∧ (RR w' U j x ∧ wtR x ≤ 2000 ∧ j ≤ 25) ∧ (RR w' T k y ∧ wtR y ≤ 2000 ∧ k ≤ 25) ∧ Below w.heap.size w w' := by
  have bk0 := ((Blk.new w 26 #[.slice none 0 0]).alloc (.cells #[.slice none 0 0] 51)).alloc (.cells #[.slice none 0 0] 51)
  have bk1 : Blk (((w.alloc (.cells #[.slice none 0 0] 26)).alloc (.cells #[.slice none 0 0] 51)).alloc (.cells #[.slice none 0 0] 51)) (w.heap.size + 1) 51 #[.slice none 0 0] := by
    have := (Blk.new (w.alloc (.cells #[.slice none 0 0] 26)) 51 #[.slice none 0 0]).alloc (.cells #[.slice none 0 0] 51)
    simpa only [World.size_alloc] using this
  have bk2 : Blk (((w.alloc (.cells #[.slice none 0 0] 26)).alloc (.cells #[.slice none 0 0] 51)).alloc (.cells #[.slice none 0 0] 51)) (w.heap.size + 1 + 1) 51 #[.slice none 0 0] := by
    have := Blk.new ((w.alloc (.cells #[.slice none 0 0] 26)).alloc (.cells #[.slice none 0 0] 51)) 51 #[.slice none 0 0]
    simpa only [World.size_alloc] using this
  have hB := (((Below.refl w.heap.size w).alloc (Nat.le_refl _) (.cells #[.slice none 0 0] 26)).alloc (by simp) (.cells #[.slice none 0 0] 51)).alloc (by simp; omega) (.cells #[.slice none 0 0] 51)
  have hs0 : (((w.alloc (.cells #[.slice none 0 0] 26)).alloc (.cells #[.slice none 0 0] 51)).alloc (.cells #[.slice none 0 0] 51)).heap.size = w.heap.size + 1 + 1 + 1 := by simp
  go_enter Try.func44, Try.ntmps44
  go_wp2_with fail
  generalize ((w.alloc (.cells #[.slice none 0 0] 26)).alloc (.cells #[.slice none 0 0] 51)).alloc (.cells #[.slice none 0 0] 51) = W0 at *
  refine (l1New_any A n c W0 (h.below (hB.mono (Nat.le_refl _))) hn).mono ?_
  rintro e w1 ⟨rfl, hC, hb1⟩
  replace bk0 := bk0.below hb1
  replace bk1 := bk1.below hb1
  replace bk2 := bk2.below hb1
  replace hB := below_then hB hb1 (by omega)
  rw [hs0] at hC
  have hlt := hC.lt
  clear hb1
  go_wp2_with fail
  refine (l1DrawSigAny_any _ A n c w1 hC).mono ?_
  rintro e w2 ⟨S, m, d', xs, rfl, hI, hm, hC2, ho2⟩
  have hs2 := ho2.size
  replace bk0 := (bk0.only ho2 (Or.inl (by omega))).alloc (.cells #[.slice S m d'] 26)
  replace bk1 := (bk1.only ho2 (Or.inl (by omega))).alloc (.cells #[.slice S m d'] 26)
  replace bk2 := (bk2.only ho2 (Or.inl (by omega))).alloc (.cells #[.slice S m d'] 26)
  replace hB := (hB.trans (ho2.below (B := w.heap.size) (by omega) (by omega))).alloc (by omega) (.cells #[.slice S m d'] 26)
  have hI2 := (hI.rb.base (B' := w.heap.size + 1 + 1 + 1 + 1) (by omega)).below ((Below.refl _ _).alloc (Nat.le_refl _) (.cells #[.slice S m d'] 26))
  have bx := Blk.new w2 26 #[.slice S m d']
  replace hC2 := hC2.alloc (.cells #[.slice S m d'] 26)
  clear ho2 hI hC
  have KX : ∀ i, (w2.alloc (.cells #[.slice S m d'] 26)).cell? ⟨w2.heap.size, i, none⟩ = #[Value.slice S m d'][i]? := fun i => bx.cell i
  go_wp2_with fail
  generalize w2.alloc (.cells #[.slice S m d'] 26) = W2 at *
  have hsW := bx.lt
  refine (l2DrawAny_any _ A n c S m d' xs W2 hC2 hI2 hm).mono ?_
  rintro e w3 ⟨U, j, b, x, rfl, hD, hj, hC3, ho3⟩
  have hs3 := ho3.size
  have HD := Lib.hid ((hD.base (B' := w.heap.size + 1 + 1 + 1 + 1) (by omega)).below ((Below.refl _ _).alloc (Nat.le_refl _) (.cells #[.slice U j b] 51)))
  replace bk0 := (bk0.only ho3 (Or.inl (by omega))).alloc (.cells #[.slice U j b] 51)
  replace bk1 := (bk1.only ho3 (Or.inl (by omega))).alloc (.cells #[.slice U j b] 51)
  replace bk2 := (bk2.only ho3 (Or.inl (by omega))).alloc (.cells #[.slice U j b] 51)
  replace bx := (bx.only ho3 (Or.inr (by omega))).alloc (.cells #[.slice U j b] 51)
  replace hB := (hB.trans (ho3.below (B := w.heap.size) (by omega) (by omega))).alloc (by omega) (.cells #[.slice U j b] 51)
  replace hI2 := (hI2.up ho3 (by omega)).below ((Below.refl _ _).alloc (Nat.le_refl _) (.cells #[.slice U j b] 51))
  have by_ := Blk.new w3 51 #[.slice U j b]
  replace hC3 := hC3.alloc (.cells #[.slice U j b] 51)
  clear ho3 hD hC2 KX
  have KX : ∀ i, (w3.alloc (.cells #[.slice U j b] 51)).cell? ⟨w2.heap.size, i, none⟩ = #[Value.slice S m d'][i]? := fun i => bx.cell i
  have KY : ∀ i, (w3.alloc (.cells #[.slice U j b] 51)).cell? ⟨w3.heap.size, i, none⟩ = #[Value.slice U j b][i]? := fun i => by_.cell i
  go_wp2_with fail
  generalize w3.alloc (.cells #[.slice U j b] 51) = W3 at *
  have hsY := by_.lt
  clear KX KY
  refine (l1Once_any _ A n c 2 W3 hC3 (by omega)).mono ?_
  rintro e w9 ⟨q, rfl, hC9, ho9⟩
  have hs9 := ho9.size
  replace HD := Lib.hid (HD.out.up ho9 (by omega))
  replace bk0 := bk0.only ho9 (Or.inl (by omega))
  replace bk1 := bk1.only ho9 (Or.inl (by omega))
  replace bk2 := bk2.only ho9 (Or.inl (by omega))
  replace bx := bx.only ho9 (Or.inr (by omega))
  replace by_ := by_.only ho9 (Or.inr (by omega))
  replace hI2 := hI2.up ho9 (by omega)
  replace hB := hB.trans (ho9.below (B := w.heap.size) (by omega) (by omega))
  have hsZ := by_.lt
  clear ho9 hC3
  have KX : ∀ i, w9.cell? ⟨w2.heap.size, i, none⟩ = #[Value.slice S m d'][i]? := fun i => bx.cell i
  have KY : ∀ i, w9.cell? ⟨w3.heap.size, i, none⟩ = #[Value.slice U j b][i]? := fun i => by_.cell i
  have hwx := HD.out.wt
  cases q
  · go_wp2_with fail
    go_region_law (go_simp; go_at_call 105; refine (l2DrawAny_any _ A n c S m d' xs _ ?_ ?_ hm).mono ?_; (first | exact hC9.drew); (first | exact (hI2.base (by omega)).drew); rintro e w4 ⟨T, k, d, y, rfl, hT, hk, hC4, ho4⟩; have bk4 := bk0.only (Only.drewL ho4) (Or.inl (by omega)); have K4 : ∀ i, w4.cell? ⟨w.heap.size, i, none⟩ = #[Value.slice none 0 0][i]? := fun i => bk4.cell i; have F4 : ∀ i, w4.frozen? ⟨w.heap.size, i, none⟩ = false := fun i => bk4.frozen i; have bl4 := bk1.only (Only.drewL ho4) (Or.inl (by omega)); have L4 : ∀ i, w4.cell? ⟨w.heap.size + 1, i, none⟩ = #[Value.slice none 0 0][i]? := fun i => bl4.cell i; have G4 : ∀ i, w4.frozen? ⟨w.heap.size + 1, i, none⟩ = false := fun i => bl4.frozen i; have bm4 := bk2.only (Only.drewL ho4) (Or.inl (by omega)); have M4 : ∀ i, w4.cell? ⟨w.heap.size + 1 + 1, i, none⟩ = #[Value.slice none 0 0][i]? := fun i => bm4.cell i; have N4 : ∀ i, w4.frozen? ⟨w.heap.size + 1 + 1, i, none⟩ = false := fun i => bm4.frozen i; have bx4 := bx.only (Only.drewL ho4) (Or.inr (by omega)); have KX4 : ∀ i, w4.cell? ⟨w2.heap.size, i, none⟩ = #[Value.slice S m d'][i]? := fun i => bx4.cell i; have by4 := by_.only (Only.drewL ho4) (Or.inr (by omega)); have KY4 : ∀ i, w4.cell? ⟨w3.heap.size, i, none⟩ = #[Value.slice U j b][i]? := fun i => by4.cell i)
    all_goals (
      have hOw := Only.drewL ho4
      have hs4 := hOw.size
      have ho5 : Only w.heap.size (w.heap.size + 1) w4 (w4.setCell ⟨w.heap.size, 0, none⟩ (.slice S m d')) := (Only.refl _ _ _).setCell (by simp) _
      have ho6 : Only (w.heap.size + 1) (w.heap.size + 1 + 1) (w4.setCell ⟨w.heap.size, 0, none⟩ (.slice S m d')) ((w4.setCell ⟨w.heap.size, 0, none⟩ (.slice S m d')).setCell ⟨w.heap.size + 1, 0, none⟩ (.slice U j b)) := (Only.refl _ _ _).setCell (by simp) _
      have ho7 : Only (w.heap.size + 1 + 1) (w.heap.size + 1 + 1 + 1) ((w4.setCell ⟨w.heap.size, 0, none⟩ (.slice S m d')).setCell ⟨w.heap.size + 1, 0, none⟩ (.slice U j b)) (((w4.setCell ⟨w.heap.size, 0, none⟩ (.slice S m d')).setCell ⟨w.heap.size + 1, 0, none⟩ (.slice U j b)).setCell ⟨w.heap.size + 1 + 1, 0, none⟩ (.slice T k d)) := (Only.refl _ _ _).setCell (by simp) _
      have hB4 := hB.trans (hOw.below (B := w.heap.size) (by omega) (by omega))
      have hI4 := (((hI2.up hOw (by omega)).up ho5 (by omega)).up ho6 (by omega)).up ho7 (by omega)
      have hD4 := (((HD.out.up hOw (by omega)).up ho5 (by omega)).up ho6 (by omega)).up ho7 (by omega)
      have hB6 := ((hB4.trans (ho5.below (B := w.heap.size) (by omega) (by omega))).trans (ho6.below (B := w.heap.size) (by omega) (by simp [World.setCell]; omega))).trans (ho7.below (B := w.heap.size) (by omega) (by simp [World.setCell]; omega))
      have hwt := HD.out.wt
      have hT4 := (((hT.base (B' := w.heap.size + 1 + 1 + 1 + 1) (by show _ ≤ w9.heap.size; omega)).up ho5 (by omega)).up ho6 (by omega)).up ho7 (by omega)
      have hwt2 := hT.wt
      go_wp2_with fail
      refine bodyPost_ret (v := .tuple #[.agg #[.slice S m d'], .agg #[.slice U j b], .agg #[.slice T k d]]) (by simp [results, Try.results44, go_sem, K4, L4, M4]) rfl ⟨S, m, d', xs, U, j, b, x, T, k, d, y, rfl, hI4.1, hm, ⟨hD4.rr, by omega, hj⟩, ⟨hT4.rr, by omega, hk⟩, hB6⟩)
  · go_wp2_with fail
    go_region_law (go_simp; go_at_call 106; refine (S_PlainOf S m d' xs U j b x _ ?_ ?_ (by omega) (by omega)).mono ?_; (first | exact hI2.1.drew); (first | exact HD.out.rr); rintro e w4 ⟨T, d, rfl, hT, hb4⟩; have ho4 : Only (w.heap.size + 1 + 1 + 1) (w.heap.size + 1 + 1 + 1 + 1) w9.drew w4 := Only.of hb4; have bk4 := bk0.only (Only.drewL ho4) (Or.inl (by omega)); have K4 : ∀ i, w4.cell? ⟨w.heap.size, i, none⟩ = #[Value.slice none 0 0][i]? := fun i => bk4.cell i; have F4 : ∀ i, w4.frozen? ⟨w.heap.size, i, none⟩ = false := fun i => bk4.frozen i; have bl4 := bk1.only (Only.drewL ho4) (Or.inl (by omega)); have L4 : ∀ i, w4.cell? ⟨w.heap.size + 1, i, none⟩ = #[Value.slice none 0 0][i]? := fun i => bl4.cell i; have G4 : ∀ i, w4.frozen? ⟨w.heap.size + 1, i, none⟩ = false := fun i => bl4.frozen i; have bm4 := bk2.only (Only.drewL ho4) (Or.inl (by omega)); have M4 : ∀ i, w4.cell? ⟨w.heap.size + 1 + 1, i, none⟩ = #[Value.slice none 0 0][i]? := fun i => bm4.cell i; have N4 : ∀ i, w4.frozen? ⟨w.heap.size + 1 + 1, i, none⟩ = false := fun i => bm4.frozen i; have bx4 := bx.only (Only.drewL ho4) (Or.inr (by omega)); have KX4 : ∀ i, w4.cell? ⟨w2.heap.size, i, none⟩ = #[Value.slice S m d'][i]? := fun i => bx4.cell i; have by4 := by_.only (Only.drewL ho4) (Or.inr (by omega)); have KY4 : ∀ i, w4.cell? ⟨w3.heap.size, i, none⟩ = #[Value.slice U j b][i]? := fun i => by4.cell i)
    all_goals (
      have hOw := Only.drewL ho4
      have hs4 := hOw.size
      have ho5 : Only w.heap.size (w.heap.size + 1) w4 (w4.setCell ⟨w.heap.size, 0, none⟩ (.slice S m d')) := (Only.refl _ _ _).setCell (by simp) _
      have ho6 : Only (w.heap.size + 1) (w.heap.size + 1 + 1) (w4.setCell ⟨w.heap.size, 0, none⟩ (.slice S m d')) ((w4.setCell ⟨w.heap.size, 0, none⟩ (.slice S m d')).setCell ⟨w.heap.size + 1, 0, none⟩ (.slice U j b)) := (Only.refl _ _ _).setCell (by simp) _
      have ho7 : Only (w.heap.size + 1 + 1) (w.heap.size + 1 + 1 + 1) ((w4.setCell ⟨w.heap.size, 0, none⟩ (.slice S m d')).setCell ⟨w.heap.size + 1, 0, none⟩ (.slice U j b)) (((w4.setCell ⟨w.heap.size, 0, none⟩ (.slice S m d')).setCell ⟨w.heap.size + 1, 0, none⟩ (.slice U j b)).setCell ⟨w.heap.size + 1 + 1, 0, none⟩ (.slice T (V_PlainOf xs x).length d)) := (Only.refl _ _ _).setCell (by simp) _
      have hB4 := hB.trans (hOw.below (B := w.heap.size) (by omega) (by omega))
      have hI4 := (((hI2.up hOw (by omega)).up ho5 (by omega)).up ho6 (by omega)).up ho7 (by omega)
      have hD4 := (((HD.out.up hOw (by omega)).up ho5 (by omega)).up ho6 (by omega)).up ho7 (by omega)
      have hB6 := ((hB4.trans (ho5.below (B := w.heap.size) (by omega) (by omega))).trans (ho6.below (B := w.heap.size) (by omega) (by simp [World.setCell]; omega))).trans (ho7.below (B := w.heap.size) (by omega) (by simp [World.setCell]; omega))
      have hwt := HD.out.wt
      have hwt2 := bw_PlainOf xs x
      have hlt2 := bd_PlainOf xs x
      go_wp2_with fail
      refine bodyPost_ret (v := .tuple #[.agg #[.slice S m d'], .agg #[.slice U j b], .agg #[.slice T (V_PlainOf xs x).length d]]) (by simp [results, Try.results44, go_sem, K4, L4, M4]) rfl ⟨S, m, d', xs, U, j, b, x, T, _, d, _, rfl, hI4.1, hm, ⟨hD4.rr, by omega, hj⟩, ⟨QR.rd (qrU (qrU (qrU hT ho5 (by show _ ≤ w9.heap.size; omega)) ho6 (by show _ ≤ w9.heap.size; omega)) ho7 (by show _ ≤ w9.heap.size; omega)), by omega, by omega⟩, hB6⟩)
end Go.Proofs.Ytihgolhpdnoooaa
