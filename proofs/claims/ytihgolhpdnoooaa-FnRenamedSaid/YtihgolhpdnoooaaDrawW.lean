/- Contracts: what the laws draw: a signature with two terms. -/
import Derived.Test.YtihgolhpdnoooaaDrawE
import Derived.Test.YtihgolhpdnoooaaShift
namespace Go.Proofs.Ytihgolhpdnoooaa
open Go.RowKit
set_option linter.unusedVariables false
set_option linter.unusedSimpArgs false

set_option maxHeartbeats 4000000 in
set_option maxRecDepth 20000 in
theorem l2DrawOne_any (cb : Nat) (A : Option Addr) (n c : Nat) (w : World) (h : Dcur w cb A n c) :
    Calls Try.prog 113 #[.pointer (some ⟨cb, 0, none⟩)] w fun e w' => ∃ (S : Option Addr) (m d' : Nat) (xs : List Int) (T : Option Addr) (k d : Nat) (t : List Int), e = .returned (.tuple #[.agg #[.slice S m d'], .slice T k d]) ∧ RB w' (w.heap.size + 1) S m xs ∧ m ≤ 9 ∧ RB w' (w.heap.size + 1) T k t ∧ k ≤ 60 ∧ (k ≤ d ∧ d ≤ 9223372036854775807) ∧ Dcur w' cb A n c ∧ Only cb (cb + 1) w w' := by
  have hlt := h.lt
  have bk0 := Blk.new w 26 #[.slice none 0 0]
  have hC := h.alloc (.cells #[.slice none 0 0] 26)
  have hO := (Only.refl cb (cb + 1) w).alloc (.cells #[.slice none 0 0] 26)
  have hs0 : (w.alloc (.cells #[.slice none 0 0] 26)).heap.size = w.heap.size + 1 := by simp
  go_enter Try.func113, Try.ntmps113
  go_wp2_with fail
  refine (l1DrawSigAny_any _ A n c _ hC).mono ?_
  rintro e w2 ⟨S, m, d', xs, rfl, hI, hm, hC2, ho2⟩
  have hs2 := ho2.size
  have bk2 := (bk0.only ho2 (Or.inr (by omega))).alloc (.cells #[.slice S m d'] 26)
  have hI2 := (hI.rb.base (B' := w.heap.size + 1) (by omega)).below ((Below.refl _ _).alloc (Nat.le_refl _) (.cells #[.slice S m d'] 26))
  have bx := Blk.new w2 26 #[.slice S m d']
  replace hC2 := hC2.alloc (.cells #[.slice S m d'] 26)
  replace hO := (hO.trans ho2).alloc (.cells #[.slice S m d'] 26)
  clear ho2 hI bk0 hC
  have hsz : (w2.alloc (.cells #[.slice S m d'] 26)).heap.size = w2.heap.size + 1 := by simp
  have KX : ∀ i, (w2.alloc (.cells #[.slice S m d'] 26)).cell? ⟨w2.heap.size, i, none⟩ = #[Value.slice S m d'][i]? := fun i => bx.cell i
  go_wp2_with fail
  generalize w2.alloc (.cells #[.slice S m d'] 26) = W at *
  go_region_law (go_simp; go_at_call 76; refine (l1DrawAny_any _ A n c S m d' xs _ ?_ ?_ hm).mono ?_; (first | exact hC2.drew); (first | exact (hI2.base (by omega)).drew); rintro e w3 ⟨T, k, d, t, rfl, hT, hk, hkd, hC4, ho4⟩; have bk3 := bk2.only (Only.drewL ho4) (Or.inr (by omega)); have K3 : ∀ i, w3.cell? ⟨w.heap.size, i, none⟩ = #[Value.slice none 0 0][i]? := fun i => bk3.cell i; have F3 : ∀ i, w3.frozen? ⟨w.heap.size, i, none⟩ = false := fun i => bk3.frozen i; have bx3 := bx.only (Only.drewL ho4) (Or.inr (by omega)); have KX3 : ∀ i, w3.cell? ⟨w2.heap.size, i, none⟩ = #[Value.slice S m d'][i]? := fun i => bx3.cell i)
  all_goals (
    have hs5 := (Only.drewL ho4).size
    have ho5 : Only w.heap.size (w.heap.size + 1) w3 (w3.setCell ⟨w.heap.size, 0, none⟩ (.slice S m d')) := (Only.refl _ _ _).setCell (by simp) _
    have hB5 : Below w.heap.size w3 (w3.setCell ⟨w.heap.size, 0, none⟩ (.slice S m d')) := (Below.refl _ _).setCell (p := ⟨w.heap.size, 0, none⟩) (Nat.le_refl _) _
    have hI3 := hI2.up (Only.drewL ho4) (by omega)
    have hT3 := hT.base (B' := w.heap.size + 1) (by show _ ≤ W.heap.size; omega)
    go_wp2_with fail
    refine bodyPost_ret (v := .tuple #[.agg #[.slice S m d'], .slice T k d]) (by simp [results, Try.results113, go_sem, K3]) rfl ⟨S, m, d', xs, T, k, d, t, rfl, hI3.up ho5 (by omega), hm, hT3.up ho5 (by omega), by omega, hkd, hC4.belowB hB5 (by omega), (hO.trans (Only.drewL ho4)).thenB hB5 (Nat.le_refl _)⟩)
def VarD (w : World) (e : Ending) (w' : World) : Prop := ∃ (S : Option Addr) (m d' : Nat) (xs : List Int) (T : Option Addr) (k d : Nat) (t : List Int) (U : Option Addr) (j b : Nat) (u : List Int), e = .returned (.tuple #[.agg #[.slice S m d'], .slice T k d, .slice U j b]) ∧ RI w' S m xs ∧ m ≤ 9 ∧ RI w' T k t ∧ k ≤ 60 ∧ (k ≤ d ∧ d ≤ 9223372036854775807) ∧ RI w' U j u ∧ j ≤ 60 ∧ Below w.heap.size w w'
set_option maxHeartbeats 8000000 in
set_option maxRecDepth 20000 in
theorem DrawVariantIn_d (A : Option Addr) (n c : Nat) (w : World) (h : BI w A n) (hn : n ≤ 4096) :
    Calls Try.prog 55 #[.slice A n c] w (VarD w) := by
  have bk0 := Blk.new w 26 #[.slice none 0 0]
  go_enter Try.func55, Try.ntmps55
  go_wp2_with fail
  refine (l1New_any A n c _ (h.below ((Below.refl _ _).alloc (Nat.le_refl _) _)) hn).mono ?_
  rintro e w1 ⟨rfl, hC, hb1⟩
  have hs0 : (w.alloc (.cells #[.slice none 0 0] 26)).heap.size = w.heap.size + 1 := by simp
  replace bk0 := bk0.below hb1
  have hB := ((Below.refl w.heap.size w).alloc (Nat.le_refl _) (.cells #[.slice none 0 0] 26)).trans (hb1.mono (by omega))
  rw [hs0] at hC
  have hlt := hC.lt
  clear hb1
  go_wp2_with fail
  refine (l2DrawOne_any _ A n c w1 hC).mono ?_
  rintro e w2 ⟨S, m, d', xs, T, k, d, t, rfl, hI, hm, hT, hk, hkd, hC2, ho2⟩
  have hs2 := ho2.size
  have bk2 := bk0.only ho2 (Or.inl (by omega))
  have hB2 := hB.trans (ho2.below (B := w.heap.size) (by omega) (by omega))
  replace bk2 := bk2.alloc (.cells #[.slice S m d'] 26)
  replace hC2 := hC2.alloc (.cells #[.slice S m d'] 26)
  replace hB2 := hB2.alloc (by omega) (.cells #[.slice S m d'] 26)
  replace hI := (hI.base (B' := w.heap.size + 1 + 1) (by omega)).below ((Below.refl _ _).alloc (Nat.le_refl _) (.cells #[.slice S m d'] 26))
  replace hT := (hT.base (B' := w.heap.size + 1 + 1) (by omega)).below ((Below.refl _ _).alloc (Nat.le_refl _) (.cells #[.slice S m d'] 26))
  have bx := Blk.new w2 26 #[.slice S m d']
  clear ho2 bk0 hB hC
  go_wp2_with fail
  generalize w2.alloc (.cells #[.slice S m d'] 26) = W at *
  have hsW := bx.lt
  refine (l1Once_any _ A n c 2 W hC2 (by omega)).mono ?_
  rintro e w3 ⟨q, rfl, hC, ho3⟩
  have hs3 := ho3.size
  replace bk2 := bk2.only ho3 (Or.inl (by omega))
  replace bx := bx.only ho3 (Or.inr (by omega))
  replace hB2 := hB2.trans (ho3.below (B := w.heap.size) (by omega) (by omega))
  replace hI := hI.up ho3 (by omega)
  replace hT := hT.up ho3 (by omega)
  clear ho3 hC2
  have KX : ∀ i, w3.cell? ⟨w2.heap.size, i, none⟩ = #[Value.slice S m d'][i]? := fun i => bx.cell i
  have K0 : ∀ i, w3.cell? ⟨w.heap.size, i, none⟩ = #[Value.slice none 0 0][i]? := fun i => bk2.cell i
  have F0 : ∀ i, w3.frozen? ⟨w.heap.size, i, none⟩ = false := fun i => bk2.frozen i
  cases q
  · go_wp2_with fail
    have hlx := hT.1.1
    go_region_law (first
      | (go_simp; go_at_call 78; refine (l1Below_any _ A n c 3 _ ?_ (by omega)).mono ?_; (first | exact hC.drew); rintro e w4 ⟨y, rfl, hy0, hy1, _, hC4, ho4⟩; have bx4 := bx.only (Only.drewL ho4) (Or.inr (by omega)); have KX4 : ∀ i, w4.cell? ⟨w2.heap.size, i, none⟩ = #[Value.slice S m d'][i]? := fun i => bx4.cell i; have hI4 := hI.up (Only.drewL ho4) (by omega); have hT4 := hT.up (Only.drewL ho4) (by omega); have bk4 := bk2.only (Only.drewL ho4) (Or.inl (by omega)); have hs4 := bx4.lt)
      | (go_simp; go_at_call 114; refine (S_Shifted S m d' xs T k d t y _ ?_ ?_ (by omega) (by omega)).mono ?_; exact hI4.1; exact hT4.1; rintro e w5 ⟨U, b, rfl, hU, hb5⟩))
    all_goals (
      have hB4 := hB2.trans ((Only.drewL ho4).below (B := w.heap.size) (by omega) (by omega))
      have hB5 := hB4.trans (hb5.mono (by omega))
      have bk5 := bk4.below hb5
      have bx5 := bx4.below hb5
      have hI5 := hI4.below hb5
      have hT5 := hT4.below hb5
      have hs5 := hb5.size
      have hU5 := hU.rb.base (B' := w.heap.size + 1 + 1) (by omega)
      have hU60 := bd_Shifted xs t y
      clear KX K0 F0 KX4 hy1
      generalize V_Shifted xs t y = V at *
      obtain ⟨v, is⟩ := V
      dsimp only at hU5 hU60 ⊢
      have KX5 : ∀ i, w5.cell? ⟨w2.heap.size, i, none⟩ = #[Value.slice S m d'][i]? := fun i => bx5.cell i
      have K5 : ∀ i, w5.cell? ⟨w.heap.size, i, none⟩ = #[Value.slice none 0 0][i]? := fun i => bk5.cell i
      have F5 : ∀ i, w5.frozen? ⟨w.heap.size, i, none⟩ = false := fun i => bk5.frozen i
      go_wp2_with fail
      have ho6 : Only w.heap.size (w.heap.size + 1) w5 (w5.setCell ⟨w.heap.size, 0, none⟩ (.slice S m d')) := (Only.refl _ _ _).setCell (by simp) _
      refine bodyPost_ret (v := .tuple #[.agg #[.slice S m d'], .slice T k d, .slice U v.length b]) (by simp [results, Try.results55, go_sem, K5]) rfl (show VarD w _ _ from ⟨S, m, d', xs, T, k, d, t, U, v.length, b, v, rfl, (hI5.up ho6 (by omega)).1, hm, (hT5.up ho6 (by omega)).1, hk, hkd, (hU5.up ho6 (by omega)).1, hU60, hB5.trans (ho6.below (B := w.heap.size) (by omega) (by omega))⟩))
  · go_wp2_with fail
    go_region_law (go_simp; go_at_call 76; refine (l1DrawAny_any _ A n c S m d' xs _ ?_ ?_ hm).mono ?_; (first | exact hC.drew); (first | exact hI.drew); rintro e w4 ⟨U, j, b, u, rfl, hU, hj, hjb, hC3, ho4⟩; have bk3 := bk2.only (Only.drewL ho4) (Or.inl (by omega)); have K3 : ∀ i, w4.cell? ⟨w.heap.size, i, none⟩ = #[Value.slice none 0 0][i]? := fun i => bk3.cell i; have F3 : ∀ i, w4.frozen? ⟨w.heap.size, i, none⟩ = false := fun i => bk3.frozen i; have bx3 := bx.only (Only.drewL ho4) (Or.inr (by omega)); have KX3 : ∀ i, w4.cell? ⟨w2.heap.size, i, none⟩ = #[Value.slice S m d'][i]? := fun i => bx3.cell i)
    all_goals (
      have hs4 := (Only.drewL ho4).size
      have ho6 : Only w.heap.size (w.heap.size + 1) w4 (w4.setCell ⟨w.heap.size, 0, none⟩ (.slice S m d')) := (Only.refl _ _ _).setCell (by simp) _
      have hB3 := hB2.trans ((Only.drewL ho4).below (B := w.heap.size) (by omega) (by omega))
      have hI3 := hI.up (Only.drewL ho4) (by omega)
      have hT3 := hT.up (Only.drewL ho4) (by omega)
      replace hU := hU.base (B' := w.heap.size + 1 + 1) (by show _ ≤ w3.heap.size; omega)
      go_wp2_with fail
      refine bodyPost_ret (v := .tuple #[.agg #[.slice S m d'], .slice T k d, .slice U j b]) (by simp [results, Try.results55, go_sem, K3]) rfl (show VarD w _ _ from ⟨S, m, d', xs, T, k, d, t, U, j, b, u, rfl, (hI3.up ho6 (by omega)).1, hm, (hT3.up ho6 (by omega)).1, hk, hkd, (hU.up ho6 (by omega)).1, hj, hB3.trans (ho6.below (B := w.heap.size) (by omega) (by omega))⟩))
theorem DrawVariantIn_any (A : Option Addr) (n c : Nat) (w : World) (h : BI w A n) (hn : n ≤ 4096) :
    Calls Try.prog 55 #[.slice A n c] w fun e w' => ∃ (S : Option Addr) (m d' : Nat) (xs : List Int) (T : Option Addr) (k d : Nat) (t : List Int) (U : Option Addr) (j b : Nat) (u : List Int), e = .returned (.tuple #[.agg #[.slice S m d'], .slice T k d, .slice U j b]) ∧ RI w' S m xs ∧ m ≤ 9 ∧ RI w' T k t ∧ k ≤ 60 ∧ (k ≤ d ∧ d ≤ 9223372036854775807) ∧ RI w' U j u ∧ j ≤ 60 ∧ Below w.heap.size w w' := DrawVariantIn_d A n c w h hn
end Go.Proofs.Ytihgolhpdnoooaa
