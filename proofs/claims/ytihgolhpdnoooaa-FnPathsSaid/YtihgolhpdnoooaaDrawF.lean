/- Contracts: drawn terms with a place. -/
import Derived.Test.YtihgolhpdnoooaaDrawE
namespace Go.Proofs.Ytihgolhpdnoooaa
open Go.RowKit
set_option linter.unusedVariables false
set_option linter.unusedSimpArgs false

set_option maxHeartbeats 4000000 in
set_option maxRecDepth 20000 in
theorem l1DrawAt_any (cb : Nat) (A : Option Addr) (n c : Nat) (w : World) (h : Dcur w cb A n c) :
    Calls Try.prog 94 #[.pointer (some ⟨cb, 0, none⟩)] w fun e w' => ∃ (S : Option Addr) (m d' : Nat) (xs : List Int) (T : Option Addr) (k d : Nat) (t : List Int) (p : Int), e = .returned (.tuple #[.agg #[.slice S m d'], .slice T k d, .int .i64 p]) ∧ RB w' (w.heap.size + 1) S m xs ∧ m ≤ 9 ∧ RB w' (w.heap.size + 1) T k t ∧ k ≤ 60 ∧ (k ≤ d ∧ d ≤ 9223372036854775807) ∧ (-1 ≤ p ∧ p ≤ k) ∧ Dcur w' cb A n c ∧ Only cb (cb + 1) w w' := by
  have hlt := h.lt
  have bk0 := Blk.new w 26 #[.slice none 0 0]
  have hC := h.alloc (.cells #[.slice none 0 0] 26)
  have hO := (Only.refl cb (cb + 1) w).alloc (.cells #[.slice none 0 0] 26)
  have hs0 : (w.alloc (.cells #[.slice none 0 0] 26)).heap.size = w.heap.size + 1 := by simp
  go_enter Try.func94, Try.ntmps94
  go_wp2_with fail
  refine (l1DrawSigAny_any _ A n c _ hC).mono ?_
  rintro e w2 ⟨S, m, d', xs, rfl, hI, hm, hC2, ho2⟩
  have hs2 := ho2.size
  have bk2 := (bk0.only ho2 (Or.inr (by omega))).alloc (.cells #[.slice S m d'] 26)
  have hI2 := (hI.rb.base (B' := w.heap.size + 1) (by omega)).below ((Below.refl _ _).alloc (Nat.le_refl _) (.cells #[.slice S m d'] 26))
  have bx := Blk.new w2 26 #[.slice S m d']
  replace hC2 := hC2.alloc (.cells #[.slice S m d'] 26)
  replace hO := (hO.trans ho2).alloc (.cells #[.slice S m d'] 26)
  clear ho2 hI bk0 hC
  have hsz : (w2.alloc (.cells #[.slice S m d'] 26)).heap.size = w2.heap.size + 1 := by simp
  have KX : ∀ i, (w2.alloc (.cells #[.slice S m d'] 26)).cell? ⟨w2.heap.size, i, none⟩ = #[Value.slice S m d'][i]? := fun i => bx.cell i
  go_wp2_with fail
  refine (l1DrawAny_any _ A n c S m d' xs _ hC2 (hI2.base (by omega)) hm).mono ?_
  rintro e W ⟨T, k, d, t, rfl, hT, hk, hkd, hC3, ho3⟩
  replace hT := hT.base (B' := w.heap.size + 1) (by omega)
  replace hI2 := hI2.up ho3 (by omega)
  replace bk2 := bk2.only ho3 (Or.inr (by omega))
  replace bx := bx.only ho3 (Or.inr (by omega))
  replace hO := hO.trans ho3
  have hs3 := hO.size
  have hs4 := bx.lt
  clear ho3 hC2 KX
  have KX : ∀ i, W.cell? ⟨w2.heap.size, i, none⟩ = #[Value.slice S m d'][i]? := fun i => bx.cell i
  have K0 : ∀ i, W.cell? ⟨w.heap.size, i, none⟩ = #[Value.slice none 0 0][i]? := fun i => bk2.cell i
  have F0 : ∀ i, W.frozen? ⟨w.heap.size, i, none⟩ = false := fun i => bk2.frozen i
  go_wp2_with fail
  go_region_law (go_simp; go_at_call 132; refine (l1From_any _ A n c (-1) k _ ?_ (by omega) (by omega) (by omega) (by omega)).mono ?_; (first | exact hC3.drew); rintro e w3 ⟨p, rfl, hp0, hp1, hC4, ho4⟩; have bk3 := bk2.only (Only.drewL ho4) (Or.inr (by omega)); have K3 : ∀ i, w3.cell? ⟨w.heap.size, i, none⟩ = #[Value.slice none 0 0][i]? := fun i => bk3.cell i; have F3 : ∀ i, w3.frozen? ⟨w.heap.size, i, none⟩ = false := fun i => bk3.frozen i; have bx3 := bx.only (Only.drewL ho4) (Or.inr (by omega)); have KX3 : ∀ i, w3.cell? ⟨w2.heap.size, i, none⟩ = #[Value.slice S m d'][i]? := fun i => bx3.cell i)
  all_goals (
    have hs5 := (Only.drewL ho4).size
    have ho5 : Only w.heap.size (w.heap.size + 1) w3 (w3.setCell ⟨w.heap.size, 0, none⟩ (.slice S m d')) := (Only.refl _ _ _).setCell (by simp) _
    have hB5 : Below w.heap.size w3 (w3.setCell ⟨w.heap.size, 0, none⟩ (.slice S m d')) := (Below.refl _ _).setCell (p := ⟨w.heap.size, 0, none⟩) (Nat.le_refl _) _
    have hI3 := hI2.up (Only.drewL ho4) (by omega)
    have hT3 := hT.up (Only.drewL ho4) (by omega)
    go_wp2_with fail
    refine bodyPost_ret (v := .tuple #[.agg #[.slice S m d'], .slice T k d, .int .i64 p]) (by simp [results, Try.results94, go_sem, K3]) rfl ⟨S, m, d', xs, T, k, d, t, p, rfl, hI3.up ho5 (by omega), hm, hT3.up ho5 (by omega), by omega, hkd, ⟨hp0, hp1⟩, hC4.belowB hB5 (by omega), (hO.trans (Only.drewL ho4)).thenB hB5 (Nat.le_refl _)⟩)
set_option maxHeartbeats 4000000 in
set_option maxRecDepth 20000 in
theorem DrawPathOf_any (A : Option Addr) (n c : Nat) (w : World) (h : BI w A n) (hn : n ≤ 4096) :
    Calls Try.prog 36 #[.slice A n c] w fun e w' => ∃ (S : Option Addr) (m d' : Nat) (xs : List Int) (T : Option Addr) (k d : Nat) (t : List Int) (p : Int), e = .returned (.tuple #[.agg #[.slice S m d'], .slice T k d, .int .i64 p]) ∧ RI w' S m xs ∧ m ≤ 9 ∧ RI w' T k t ∧ k ≤ 60 ∧ (k ≤ d ∧ d ≤ 9223372036854775807) ∧ (-1 ≤ p ∧ p ≤ k) ∧ Below w.heap.size w w' := by
  have bk0 := Blk.new w 26 #[.slice none 0 0]
  go_enter Try.func36, Try.ntmps36
  go_wp2_with fail
  refine (l1New_any A n c _ (h.below ((Below.refl _ _).alloc (Nat.le_refl _) _)) hn).mono ?_
  rintro e w1 ⟨rfl, hC, hb1⟩
  have hs0 : (w.alloc (.cells #[.slice none 0 0] 26)).heap.size = w.heap.size + 1 := by simp
  replace bk0 := bk0.below hb1
  have hB := ((Below.refl w.heap.size w).alloc (Nat.le_refl _) (.cells #[.slice none 0 0] 26)).trans (hb1.mono (by omega))
  rw [hs0] at hC
  have hlt := hC.lt
  clear hb1
  go_wp2_with fail
  refine (l1DrawAt_any _ A n c w1 hC).mono ?_
  rintro e w3 ⟨S, m, d', xs, T, k, d, t, p, rfl, hI, hm, hT, hk, hkd, hp, hC2, ho2⟩
  have hs2 := ho2.size
  have bk2 := bk0.only ho2 (Or.inl (by omega))
  have hB2 := hB.trans (ho2.below (B := w.heap.size) (by omega) (by omega))
  have K0 : ∀ i, w3.cell? ⟨w.heap.size, i, none⟩ = #[Value.slice none 0 0][i]? := fun i => bk2.cell i
  have F0 : ∀ i, w3.frozen? ⟨w.heap.size, i, none⟩ = false := fun i => bk2.frozen i
  have ho5 : Only w.heap.size (w.heap.size + 1) w3 (w3.setCell ⟨w.heap.size, 0, none⟩ (.slice S m d')) := (Only.refl _ _ _).setCell (by simp) _
  have hB5 : Below w.heap.size w3 (w3.setCell ⟨w.heap.size, 0, none⟩ (.slice S m d')) := (Below.refl _ _).setCell (p := ⟨w.heap.size, 0, none⟩) (Nat.le_refl _) _
  go_wp2_with fail
  refine bodyPost_ret (v := .tuple #[.agg #[.slice S m d'], .slice T k d, .int .i64 p]) (by simp [results, Try.results36, go_sem, K0]) rfl ⟨S, m, d', xs, T, k, d, t, p, rfl, (hI.up ho5 (by omega)).1, hm, (hT.up ho5 (by omega)).1, hk, hkd, hp, hB2.trans hB5⟩
set_option maxHeartbeats 4000000 in
set_option maxRecDepth 20000 in
theorem DrawPutAt_any (A : Option Addr) (n c : Nat) (w : World) (h : BI w A n) (hn : n ≤ 4096) :
    Calls Try.prog 29 #[.slice A n c] w fun e w' => ∃ (S : Option Addr) (m d' : Nat) (xs : List Int) (T : Option Addr) (k d : Nat) (t : List Int) (p : Int) (U : Option Addr) (j b : Nat) (u : List Int), e = .returned (.tuple #[.agg #[.slice S m d'], .slice T k d, .int .i64 p, .slice U j b]) ∧ RI w' S m xs ∧ m ≤ 9 ∧ RI w' T k t ∧ k ≤ 60 ∧ (k ≤ d ∧ d ≤ 9223372036854775807) ∧ (-1 ≤ p ∧ p ≤ k) ∧ RI w' U j u ∧ j ≤ 60 ∧ (j ≤ b ∧ b ≤ 9223372036854775807) ∧ Below w.heap.size w w' := by
  have bk0 := Blk.new w 26 #[.slice none 0 0]
  go_enter Try.func29, Try.ntmps29
  go_wp2_with fail
  refine (l1New_any A n c _ (h.below ((Below.refl _ _).alloc (Nat.le_refl _) _)) hn).mono ?_
  rintro e w1 ⟨rfl, hC, hb1⟩
  have hs0 : (w.alloc (.cells #[.slice none 0 0] 26)).heap.size = w.heap.size + 1 := by simp
  replace bk0 := bk0.below hb1
  have hB := ((Below.refl w.heap.size w).alloc (Nat.le_refl _) (.cells #[.slice none 0 0] 26)).trans (hb1.mono (by omega))
  rw [hs0] at hC
  have hlt := hC.lt
  clear hb1
  go_wp2_with fail
  refine (l1DrawAt_any _ A n c w1 hC).mono ?_
  rintro e w2 ⟨S, m, d', xs, T, k, d, t, p, rfl, hI, hm, hT, hk, hkd, hp, hC2, ho2⟩
  have hs2 := ho2.size
  have bk2 := bk0.only ho2 (Or.inl (by omega))
  have hB2 := hB.trans (ho2.below (B := w.heap.size) (by omega) (by omega))
  replace bk2 := bk2.alloc (.cells #[.slice S m d'] 26)
  replace hC2 := hC2.alloc (.cells #[.slice S m d'] 26)
  replace hB2 := hB2.alloc (by omega) (.cells #[.slice S m d'] 26)
  replace hI := (hI.base (B' := w.heap.size + 1 + 1) (by omega)).below ((Below.refl _ _).alloc (Nat.le_refl _) (.cells #[.slice S m d'] 26))
  replace hT := (hT.base (B' := w.heap.size + 1 + 1) (by omega)).below ((Below.refl _ _).alloc (Nat.le_refl _) (.cells #[.slice S m d'] 26))
  have bx := Blk.new w2 26 #[.slice S m d']
  have hsz : (w2.alloc (.cells #[.slice S m d'] 26)).heap.size = w2.heap.size + 1 := by simp
  have KX : ∀ i, (w2.alloc (.cells #[.slice S m d'] 26)).cell? ⟨w2.heap.size, i, none⟩ = #[Value.slice S m d'][i]? := fun i => bx.cell i
  clear ho2 bk0 hB
  go_wp2_with fail
  generalize w2.alloc (.cells #[.slice S m d'] 26) = W at *
  have K0 : ∀ i, W.cell? ⟨w.heap.size, i, none⟩ = #[Value.slice none 0 0][i]? := fun i => bk2.cell i
  have F0 : ∀ i, W.frozen? ⟨w.heap.size, i, none⟩ = false := fun i => bk2.frozen i
  go_region_law (go_simp; go_at_call 76; refine (l1DrawAny_any _ A n c S m d' xs _ ?_ ?_ hm).mono ?_; (first | exact hC2.drew); (first | exact hI.drew); rintro e w3 ⟨U, j, b, u, rfl, hU, hj, hjb, hC3, ho3⟩; have bk3 := bk2.only (Only.drewL ho3) (Or.inl (by omega)); have K3 : ∀ i, w3.cell? ⟨w.heap.size, i, none⟩ = #[Value.slice none 0 0][i]? := fun i => bk3.cell i; have F3 : ∀ i, w3.frozen? ⟨w.heap.size, i, none⟩ = false := fun i => bk3.frozen i; have bx3 := bx.only (Only.drewL ho3) (Or.inr (by omega)); have KX3 : ∀ i, w3.cell? ⟨w2.heap.size, i, none⟩ = #[Value.slice S m d'][i]? := fun i => bx3.cell i)
  all_goals (
    have hs3 := (Only.drewL ho3).size
    have ho5 : Only w.heap.size (w.heap.size + 1) w3 (w3.setCell ⟨w.heap.size, 0, none⟩ (.slice S m d')) := (Only.refl _ _ _).setCell (by simp) _
    have hB3 := hB2.trans ((Only.drewL ho3).below (B := w.heap.size) (by omega) (by omega))
    have hI3 := hI.up (Only.drewL ho3) (by omega)
    have hT3 := hT.up (Only.drewL ho3) (by omega)
    replace hU := hU.base (B' := w.heap.size + 1 + 1) (by show _ ≤ W.heap.size; omega)
    go_wp2_with fail
    refine bodyPost_ret (v := .tuple #[.agg #[.slice S m d'], .slice T k d, .int .i64 p, .slice U j b]) (by simp [results, Try.results29, go_sem, K3]) rfl ⟨S, m, d', xs, T, k, d, t, p, U, j, b, u, rfl, (hI3.up ho5 (by omega)).1, hm, (hT3.up ho5 (by omega)).1, hk, hkd, hp, (hU.up ho5 (by omega)).1, hj, hjb, hB3.trans (ho5.below (B := w.heap.size) (by omega) (by omega))⟩)
end Go.Proofs.Ytihgolhpdnoooaa
