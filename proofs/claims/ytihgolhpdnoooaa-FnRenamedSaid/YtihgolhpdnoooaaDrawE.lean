/- Contracts: drawn pairs of terms; a drawn signature with a term. -/
import Derived.Test.YtihgolhpdnoooaaDrawA
import Derived.Test.YtihgolhpdnoooaaCopy
namespace Go.Proofs.Ytihgolhpdnoooaa
open Go.RowKit
set_option linter.unusedVariables false
set_option linter.unusedSimpArgs false

theorem RB.drew {w : World} {B : Nat} {A : Option Addr} {n : Nat} {xs : List Int} (h : RB w B A n xs) : RB w.drew B A n xs := h
set_option maxHeartbeats 4000000 in
set_option maxRecDepth 20000 in
theorem l1DrawTwo_any (cb : Nat) (A : Option Addr) (n c : Nat) (w : World) (h : Dcur w cb A n c) :
    Calls Try.prog 91 #[.pointer (some ⟨cb, 0, none⟩)] w fun e w' => ∃ (S : Option Addr) (m d' : Nat) (xs : List Int) (T : Option Addr) (k d : Nat) (t : List Int), e = .returned (.tuple #[.slice S m d', .slice T k d]) ∧ RI w' S m xs ∧ m ≤ 60 ∧ RI w' T k t ∧ k ≤ 60 ∧ Dcur w' cb A n c ∧ Only cb (cb + 1) w w' := by
  have hlt := h.lt
  go_enter Try.func91, Try.ntmps91
  go_wp2_with fail
  refine (l1DrawSig_any cb A n c w h).mono ?_
  rintro e w1 ⟨S, m, d', xs, rfl, hI, hm, _, hC, hO⟩
  have hs1 := hO.size
  have bx := Blk.new w1 26 #[.slice S m d']
  have hR := (hI.rb.base (B' := cb + 1) (by omega)).below ((Below.refl _ _).alloc (Nat.le_refl _) (.cells #[.slice S m d'] 26))
  replace hC := hC.alloc (.cells #[.slice S m d'] 26)
  replace hO := hO.alloc (.cells #[.slice S m d'] 26)
  have KX : ∀ i, (w1.alloc (.cells #[.slice S m d'] 26)).cell? ⟨w1.heap.size, i, none⟩ = #[Value.slice S m d'][i]? := fun i => bx.cell i
  clear hI
  go_wp2_with fail
  refine (l1DrawAny_any cb A n c S m d' xs _ hC hR (by omega)).mono ?_
  rintro e w2 ⟨T, k, d, t, rfl, hT, hk, _, hC2, ho2⟩
  replace bx := bx.only ho2 (Or.inr (by omega))
  replace hR := hR.up ho2 (Nat.le_refl _)
  replace hO := hO.trans ho2
  replace hT := hT.base (B' := cb + 1) (by simp; omega)
  have hs2 := hO.size
  clear hC ho2 KX
  have KX : ∀ i, w2.cell? ⟨w1.heap.size, i, none⟩ = #[Value.slice S m d'][i]? := fun i => bx.cell i
  go_wp2_with fail
  refine (l1DrawAny_any cb A n c S m d' xs _ hC2 hR (by omega)).mono ?_
  rintro e w3 ⟨T2, k2, d2, t2, rfl, hT2, hk2, _, hC, ho3⟩
  replace hT := hT.up ho3 (Nat.le_refl _)
  replace hT2 := hT2.base (B' := cb + 1) (by omega)
  replace hO := hO.trans ho3
  have hs3 := hO.size
  clear hC2 ho3 KX bx hR
  go_wp2_with fail
  refine (l1Once_any cb A n c 3 w3 hC (by omega)).mono ?_
  rintro e w4 ⟨b, rfl, hC2, ho4⟩
  replace hT := hT.up ho4 (Nat.le_refl _)
  replace hT2 := hT2.up ho4 (Nat.le_refl _)
  replace hO := hO.trans ho4
  have hs4 := hO.size
  clear hC ho4
  cases b
  · go_wp2_with fail
    go_ret2
    exact ⟨T, k, d, t, T2, k2, d2, t2, rfl, hT.1, hk, hT2.1, hk2, hC2, hO⟩
  · go_wp2_with fail
    refine (l1Copy_any T k d t w4 hT.1 (by omega)).mono ?_
    rintro e w5 ⟨T3, d3, rfl, hI3, hb5⟩
    have hO4 : Only cb (cb + 1) w4 w5 := Only.of hb5
    have hC := hC2.below hb5
    have hs5 := hb5.size
    clear hC2 hb5 hT2
    go_wp2_with fail
    refine (l1Once_any cb A n c 2 w5 hC (by omega)).mono ?_
    rintro e w6 ⟨b, rfl, hC2, ho6⟩
    replace hI3 := hI3.up ho6 (by omega)
    replace hO4 := hO4.trans ho6
    clear hC ho6
    cases b
    · go_wp2_with fail
      go_ret2
      exact ⟨T, k, d, t, T3, k, d3, t, rfl, (hT.up hO4 (Nat.le_refl _)).1, hk, hI3.ri, hk, hC2, hO.trans hO4⟩
    · by_cases h0 : 0 < k
      rotate_left
      · have e0 : decide (0 < k) = false := by simpa using h0
        go_wp2_with fail
        go_ret2
        exact ⟨T, k, d, t, T3, k, d3, t, rfl, (hT.up hO4 (Nat.le_refl _)).1, hk, hI3.ri, hk, hC2, hO.trans hO4⟩
      have e0 : decide (0 < k) = true := by simpa using h0
      go_wp2_with fail
      refine (l1Below_any cb A n c k w6 hC2 (by omega)).mono ?_
      rintro e w7 ⟨x, rfl, hx0, hx1, _, hC, ho7⟩
      replace hI3 := hI3.up ho7 (by omega)
      replace hO4 := hO4.trans ho7
      have hx2 := hx1 (by omega)
      obtain ⟨i, rfl⟩ : ∃ i : Nat, x = i := ⟨x.toNat, by omega⟩
      clear hC2 ho7 hx1
      go_wp2_with fail
      refine (l1From_any cb A n c (-3) 3 w7 hC (by omega) (by omega) (by omega) (by omega)).mono ?_
      rintro e w8 ⟨y, rfl, hy0, hy1, hC2, ho8⟩
      replace hI3 := hI3.up ho8 (by omega)
      replace hO4 := hO4.trans ho8
      have hs8 := hO4.size
      clear hC ho8
      obtain ⟨g, hA, hg1⟩ : ∃ g, T3 = some ⟨g, 0, none⟩ ∧ w4.heap.size ≤ g := by
        rcases hI3.2 with ⟨_, h0⟩ | ⟨g, cap, cur, hv, hB, _⟩
        · omega
        · have hA : T3 = some ⟨g, 0, none⟩ := by injection hv
          exact ⟨g, hA, hB⟩
      subst hA
      have hf := World.ownsRow.frozenAt hI3 i
      obtain ⟨vv, hcc⟩ := own_some hI3 (k := i) (by omega)
      have hst := (World.ownsRow.stored hI3 i (.int .i64 y)).1
      rw [← List.map_set] at hst
      have hB9 := (Below.refl w4.heap.size w8).setCell (p := ⟨g, i, none⟩) hg1 (.int .i64 y)
      have hO9 := hO4.thenB hB9 (Nat.le_refl _)
      go_wp2_with fail
      go_ret2
      exact ⟨T, k, d, t, _, k, d3, t.set i y, rfl, (hT.up hO9 (Nat.le_refl _)).1, hk, OI.ri (show OI _ _ _ _ _ _ from hst), hk, hC2.belowB hB9 (by omega), hO.trans hO9⟩
set_option maxHeartbeats 1000000 in
theorem DrawLessTerm_any (A : Option Addr) (n c : Nat) (w : World) (h : BI w A n) (hn : n ≤ 4096) :
    Calls Try.prog 23 #[.slice A n c] w fun e w' => ∃ (S : Option Addr) (m d' : Nat) (xs : List Int) (T : Option Addr) (k d : Nat) (t : List Int), e = .returned (.tuple #[.slice S m d', .slice T k d]) ∧ RI w' S m xs ∧ m ≤ 60 ∧ RI w' T k t ∧ k ≤ 60 ∧ Below w.heap.size w w' := by
  go_enter Try.func23, Try.ntmps23
  go_wp2_with fail
  refine (l1New_any A n c _ h hn).mono ?_
  rintro e w1 ⟨rfl, hC, hb1⟩
  go_wp2_with fail
  refine (l1DrawTwo_any _ A n c w1 hC).mono ?_
  rintro e w2 ⟨S, m, d', xs, T, k, d, t, rfl, hS, hm, hT, hk, hC2, ho2⟩
  have hB := hb1.trans (ho2.below (B := w.heap.size) (Nat.le_refl _) hb1.size)
  go_wp2_with fail
  go_ret2
  exact ⟨S, m, d', xs, T, k, d, t, rfl, hS, hm, hT, hk, hB⟩
set_option maxHeartbeats 4000000 in
set_option maxRecDepth 20000 in
theorem DrawDepthOf_any (A : Option Addr) (n c : Nat) (w : World) (h : BI w A n) (hn : n ≤ 4096) :
    Calls Try.prog 24 #[.slice A n c] w fun e w' => ∃ (S : Option Addr) (m d' : Nat) (xs : List Int) (T : Option Addr) (k d : Nat) (t : List Int), e = .returned (.tuple #[.agg #[.slice S m d'], .slice T k d]) ∧ RI w' S m xs ∧ m ≤ 9 ∧ RI w' T k t ∧ k ≤ 61 ∧ (k ≤ d ∧ d ≤ 9223372036854775807) ∧ Below w.heap.size w w' := by
  have bk0 := Blk.new w 26 #[.slice none 0 0]
  go_enter Try.func24, Try.ntmps24
  go_wp2_with fail
  refine (l1New_any A n c _ (h.below ((Below.refl _ _).alloc (Nat.le_refl _) _)) hn).mono ?_
  rintro e w1 ⟨rfl, hC, hb1⟩
  have hs0 : (w.alloc (.cells #[.slice none 0 0] 26)).heap.size = w.heap.size + 1 := by simp
  replace bk0 := bk0.below hb1
  have hB := ((Below.refl w.heap.size w).alloc (Nat.le_refl _) (.cells #[.slice none 0 0] 26)).trans (hb1.mono (by omega))
  rw [hs0] at hC
  have hlt := hC.lt
  clear hb1
  go_wp2_with fail
  refine (l1DrawSigAny_any _ A n c w1 hC).mono ?_
  rintro e w2 ⟨S, m, d', xs, rfl, hI, hm, hC2, ho2⟩
  have bk2 := bk0.only ho2 (Or.inl (by omega))
  have hB2 := hB.trans (ho2.below (B := w.heap.size) (by omega) (by omega))
  have hI2 := (hI.rb.base (B' := w.heap.size + 1 + 1) (by omega)).below ((Below.refl _ _).alloc (Nat.le_refl _) (.cells #[.slice S m d'] 26))
  have hs2 : w1.heap.size ≤ w2.heap.size := ho2.size
  have bx := Blk.new w2 26 #[.slice S m d']
  replace bk2 := bk2.alloc (.cells #[.slice S m d'] 26)
  replace hC2 := hC2.alloc (.cells #[.slice S m d'] 26)
  replace hB2 := hB2.alloc (by omega) (.cells #[.slice S m d'] 26)
  clear ho2 hI bk0 hB
  have hsz : (w2.alloc (.cells #[.slice S m d'] 26)).heap.size = w2.heap.size + 1 := by simp
  have KX : ∀ i, (w2.alloc (.cells #[.slice S m d'] 26)).cell? ⟨w2.heap.size, i, none⟩ = #[Value.slice S m d'][i]? := fun i => bx.cell i
  go_wp2_with fail
  generalize w2.alloc (.cells #[.slice S m d'] 26) = W at *
  have K0 : ∀ i, W.cell? ⟨w.heap.size, i, none⟩ = #[Value.slice none 0 0][i]? := fun i => bk2.cell i
  have F0 : ∀ i, W.frozen? ⟨w.heap.size, i, none⟩ = false := fun i => bk2.frozen i
  have oS : Only w.heap.size (w.heap.size + 1) W (W.setCell ⟨w.heap.size, 0, none⟩ (.slice S m d')) := (Only.refl _ _ _).setCell (by simp) _
  go_region_law (go_simp; go_at_call 76; refine (l1DrawAny_any _ A n c S m d' xs _ ?_ ?_ hm).mono ?_; (first | exact hC2.drew); (first | exact hI2.drew); rintro e w3 ⟨T, k, d, t, rfl, hT, hk, hkd, hC3, ho3⟩; have bk3 := bk2.only (Only.drewL ho3) (Or.inl (by omega)); have K3 : ∀ i, w3.cell? ⟨w.heap.size, i, none⟩ = #[Value.slice none 0 0][i]? := fun i => bk3.cell i; have F3 : ∀ i, w3.frozen? ⟨w.heap.size, i, none⟩ = false := fun i => bk3.frozen i; have bx3 := bx.only (Only.drewL ho3) (Or.inr (by omega)); have KX3 : ∀ i, w3.cell? ⟨w2.heap.size, i, none⟩ = #[Value.slice S m d'][i]? := fun i => bx3.cell i)
  all_goals (
    have hs3 := (Only.drewL ho3).size
    have ho5 : Only w.heap.size (w.heap.size + 1) w3 (w3.setCell ⟨w.heap.size, 0, none⟩ (.slice S m d')) := (Only.refl _ _ _).setCell (by simp) _
    have hB3 := hB2.trans ((Only.drewL ho3).below (B := w.heap.size) (by omega) (by omega))
    have hI3 := hI2.up (Only.drewL ho3) (by omega)
    replace hT := hT.base (B' := w.heap.size + 1 + 1) (by show _ ≤ W.heap.size; omega)
    go_wp2_with fail
    refine bodyPost_ret (v := .tuple #[.agg #[.slice S m d'], .slice T k d]) (by simp [results, Try.results24, go_sem, K3]) rfl ⟨S, m, d', xs, T, k, d, t, rfl, (hI3.up ho5 (by omega)).1, hm, (hT.up ho5 (by omega)).1, by omega, hkd, hB3.trans (ho5.below (B := w.heap.size) (by omega) (by omega))⟩)
end Go.Proofs.Ytihgolhpdnoooaa
