/- Contracts: draws of rules and of their texts. -/
import Derived.Test.YtlcchafcgidpeaaGreatDoorDrawY
import Derived.Test.YtlcchafcgidpeaaGreatDoorBendB
import Derived.Test.YtlcchafcgidpeaaGreatDoorRuleT
import Derived.Deep.RegionHeld3
import Derived.Deep.RegionLaw
import Derived.Test.YtlcchafcgidpeaaGreatDoorDrawU
import Derived.Test.YtlcchafcgidpeaaGreatDoorSigT
namespace Go.Proofs.YtlcchafcgidpeaaGreatDoor
open Go.RowKit
set_option linter.unusedVariables false
set_option linter.unusedSimpArgs false

theorem V_RuleText_len (xs l r : List Int) : (V_RuleText xs l r).length ≤ 700 := by
  unfold V_RuleText
  split
  · rename_i h
    obtain ⟨h1, h2⟩ := ruleOk_terms h
    have e1 := (Pl.txt_tk h1).2
    have e2 := (Pl.txt_tk h2).2
    simp only [List.length_append, Pl.arrow, List.length_cons, List.length_nil]
    omega
  · simp
set_option maxHeartbeats 8000000 in
set_option maxRecDepth 20000 in
theorem DrawRuleOk_any (A : Option Addr) (n c : Nat) (w : World) (h : BI w A n) (hn : n ≤ 4096) :
    Calls Tryz.prog 17 #[.slice A n c] w fun e w' => ∃ (S : Option Addr) (m d' : Nat) (xs : List Int) (P : Option Addr) (p p' : Nat) (l : List Int) (Q : Option Addr) (q q' : Nat) (r : List Int), e = .returned (.tuple #[.agg #[.slice S m d'], .agg #[.slice P p p', .slice Q q q']]) ∧ RB w' w.heap.size S m xs ∧ m ≤ 9 ∧ RI w' P p l ∧ p ≤ 60 ∧ RI w' Q q r ∧ q ≤ 60 ∧ Below w.heap.size w w' := by
  have bk0 := (Blk.new w 26 #[.slice none 0 0]).alloc (.cells #[.slice none 0 0, .slice none 0 0] 30)
  have bk1 : Blk ((w.alloc (.cells #[.slice none 0 0] 26)).alloc (.cells #[.slice none 0 0, .slice none 0 0] 30)) (w.heap.size + 1) 30 #[.slice none 0 0, .slice none 0 0] := by
    have := Blk.new (w.alloc (.cells #[.slice none 0 0] 26)) 30 #[.slice none 0 0, .slice none 0 0]
    simpa only [World.size_alloc] using this
  have hB := ((Below.refl w.heap.size w).alloc (Nat.le_refl _) (.cells #[.slice none 0 0] 26)).alloc (by simp) (.cells #[.slice none 0 0, .slice none 0 0] 30)
  have hs0 : ((w.alloc (.cells #[.slice none 0 0] 26)).alloc (.cells #[.slice none 0 0, .slice none 0 0] 30)).heap.size = w.heap.size + 1 + 1 := by simp
  go_enter Tryz.func17, Tryz.ntmps17
  go_wp2_with fail
  generalize (w.alloc (.cells #[.slice none 0 0] 26)).alloc (.cells #[.slice none 0 0, .slice none 0 0] 30) = W0 at *
  refine (l1New_any A n c W0 (h.below (hB.mono (Nat.le_refl _))) hn).mono ?_
  rintro e w1 ⟨rfl, hC, hb1⟩
  replace bk0 := bk0.below hb1
  replace bk1 := bk1.below hb1
  replace hB := below_then hB hb1 (by omega)
  rw [hs0] at hC
  have hlt := hC.lt
  clear hb1
  go_wp2_with fail
  refine (l1DrawSigAny_any _ A n c w1 hC).mono ?_
  rintro e w2 ⟨S, m, d', xs, rfl, hI, hm, hC2, ho2⟩
  have hs2 := ho2.size
  replace bk0 := (bk0.only ho2 (Or.inl (by omega))).alloc (.cells #[.slice S m d'] 26)
  replace bk1 := (bk1.only ho2 (Or.inl (by omega))).alloc (.cells #[.slice S m d'] 26)
  replace hB := (hB.trans (ho2.below (B := w.heap.size) (by omega) (by omega))).alloc (by omega) (.cells #[.slice S m d'] 26)
  have hI2 := (hI.rb.base (B' := w.heap.size + 1 + 1 + 1) (by omega)).below ((Below.refl _ _).alloc (Nat.le_refl _) (.cells #[.slice S m d'] 26))
  have bx := Blk.new w2 26 #[.slice S m d']
  replace hC2 := hC2.alloc (.cells #[.slice S m d'] 26)
  clear ho2 hI hC
  have KX : ∀ i, (w2.alloc (.cells #[.slice S m d'] 26)).cell? ⟨w2.heap.size, i, none⟩ = #[Value.slice S m d'][i]? := fun i => bx.cell i
  go_wp2_with fail
  generalize w2.alloc (.cells #[.slice S m d'] 26) = W3 at *
  have hsW := bx.lt
  refine (specSigOk_any S m d' xs W3 hI2.1 (by omega)).mono ?_
  rintro e w4 ⟨rfl, hb4⟩
  replace bk0 := bk0.below hb4
  replace bk1 := bk1.below hb4
  replace bx := bx.below hb4
  replace hB := hB.trans (hb4.mono (by omega))
  replace hI2 := hI2.below hb4
  replace hC2 := hC2.below hb4
  have hs4 := hb4.size
  clear hb4 KX
  have KX : ∀ i, w4.cell? ⟨w2.heap.size, i, none⟩ = #[Value.slice S m d'][i]? := fun i => bx.cell i
  cases hok : Pl.sigOk xs
  · go_wp2_with fail
    refine (l1DrawAny_any _ A n c S m d' xs w4 hC2 (hI2.base (by omega)) hm).mono ?_
    rintro e w7 ⟨P, p, p', l, rfl, hP, hp, hpd, hC7, ho7⟩
    have hs7 := ho7.size
    have hP3 := hP.base (B' := w.heap.size + 1 + 1 + 1) (by omega)
    replace bk0 := bk0.only ho7 (Or.inl (by omega))
    replace bk1 := bk1.only ho7 (Or.inl (by omega))
    replace bx := bx.only ho7 (Or.inr (by omega))
    replace hB := hB.trans (ho7.below (B := w.heap.size) (by omega) (by omega))
    replace hI2 := hI2.up ho7 (by omega)
    clear KX ho7 hP
    have KX : ∀ i, w7.cell? ⟨w2.heap.size, i, none⟩ = #[Value.slice S m d'][i]? := fun i => bx.cell i
    have K3 : ∀ i, w7.cell? ⟨w.heap.size, i, none⟩ = #[Value.slice none 0 0][i]? := fun i => bk0.cell i
    have L3 : ∀ i, w7.cell? ⟨w.heap.size + 1, i, none⟩ = #[Value.slice none 0 0, Value.slice none 0 0][i]? := fun i => bk1.cell i
    have F3 : ∀ i, w7.frozen? ⟨w.heap.size, i, none⟩ = false := fun i => bk0.frozen i
    have G3 : ∀ i, w7.frozen? ⟨w.heap.size + 1, i, none⟩ = false := fun i => bk1.frozen i
    go_wp2_with fail
    go_region_law (go_simp; go_at_call 46; refine (l1DrawAny_any _ A n c S m d' xs _ ?_ ?_ hm).mono ?_; (first | exact hC7.drew); (first | exact (hI2.base (by omega)).drew); rintro e w6 ⟨Q, q, q', r, rfl, hQ, hq, hqd, hC6, ho6⟩; have bk6 := bk0.only (Only.drewL ho6) (Or.inl (by omega)); have K6 : ∀ i, w6.cell? ⟨w.heap.size, i, none⟩ = #[Value.slice none 0 0][i]? := fun i => bk6.cell i; have F6 : ∀ i, w6.frozen? ⟨w.heap.size, i, none⟩ = false := fun i => bk6.frozen i; have bl6 := bk1.only (Only.drewL ho6) (Or.inl (by omega)); have L6 : ∀ i, w6.cell? ⟨w.heap.size + 1, i, none⟩ = #[Value.slice none 0 0, Value.slice none 0 0][i]? := fun i => bl6.cell i; have G6 : ∀ i, w6.frozen? ⟨w.heap.size + 1, i, none⟩ = false := fun i => bl6.frozen i; have bx6 := bx.only (Only.drewL ho6) (Or.inr (by omega)); have KX6 : ∀ i, w6.cell? ⟨w2.heap.size, i, none⟩ = #[Value.slice S m d'][i]? := fun i => bx6.cell i)
    all_goals (
      have hOw := Only.drewL ho6
      have hs6 := hOw.size
      have ho7 : Only w.heap.size (w.heap.size + 1) w6 (w6.setCell ⟨w.heap.size, 0, none⟩ (.slice S m d')) := (Only.refl _ _ _).setCell (by simp) _
      have ho8 : Only (w.heap.size + 1) (w.heap.size + 1 + 1) (w6.setCell ⟨w.heap.size, 0, none⟩ (.slice S m d')) (((w6.setCell ⟨w.heap.size, 0, none⟩ (.slice S m d')).setCell ⟨w.heap.size + 1, 0, none⟩ (.slice P p p')).setCell ⟨w.heap.size + 1, 1, none⟩ (.slice Q q q')) := ((Only.refl _ _ _).setCell (by simp) _).setCell (by simp) _
      have hB6 := hB.trans (hOw.below (B := w.heap.size) (by omega) (by omega))
      have hI6 := ((hI2.up hOw (by omega)).up ho7 (by omega)).up ho8 (by omega)
      have hP6 := ((hP3.up hOw (by omega)).up ho7 (by omega)).up ho8 (by omega)
      have hQ6 := ((hQ.base (B' := w.heap.size + 1 + 1 + 1) (by show _ ≤ w7.heap.size; omega)).up ho7 (by omega)).up ho8 (by omega)
      have hB8 := (hB6.trans (ho7.below (B := w.heap.size) (by omega) (by omega))).trans (ho8.below (B := w.heap.size) (by omega) (by simp [World.setCell]; omega))
      go_wp2_with fail
      exact bodyPost_ret (v := .tuple #[.agg #[.slice S m d'], .agg #[.slice P p p', .slice Q q q']]) (by simp [results, Tryz.results17, go_sem, K6, L6]) rfl ⟨S, m, d', xs, P, p, p', l, Q, q, q', r, rfl, hI6.base (by omega), hm, hP6.1, hp, hQ6.1, hq, hB8⟩)
  · go_wp2_with fail
    refine (l1Once_any _ A n c 2 w4 hC2 (by omega)).mono ?_
    rintro e w5 ⟨b, rfl, hC5, ho5⟩
    have hs5 := ho5.size
    replace bk0 := bk0.only ho5 (Or.inl (by omega))
    replace bk1 := bk1.only ho5 (Or.inl (by omega))
    replace bx := bx.only ho5 (Or.inr (by omega))
    replace hB := hB.trans (ho5.below (B := w.heap.size) (by omega) (by omega))
    replace hI2 := hI2.up ho5 (by omega)
    replace hC2 := hC5
    clear KX hC5 ho5
    have KX : ∀ i, w5.cell? ⟨w2.heap.size, i, none⟩ = #[Value.slice S m d'][i]? := fun i => bx.cell i
    cases b
    · go_wp2_with fail
      refine (l1DrawAny_any _ A n c S m d' xs w5 hC2 (hI2.base (by omega)) hm).mono ?_
      rintro e w7 ⟨P, p, p', l, rfl, hP, hp, hpd, hC7, ho7⟩
      have hs7 := ho7.size
      have hP3 := hP.base (B' := w.heap.size + 1 + 1 + 1) (by omega)
      replace bk0 := bk0.only ho7 (Or.inl (by omega))
      replace bk1 := bk1.only ho7 (Or.inl (by omega))
      replace bx := bx.only ho7 (Or.inr (by omega))
      replace hB := hB.trans (ho7.below (B := w.heap.size) (by omega) (by omega))
      replace hI2 := hI2.up ho7 (by omega)
      clear KX ho7 hP
      have KX : ∀ i, w7.cell? ⟨w2.heap.size, i, none⟩ = #[Value.slice S m d'][i]? := fun i => bx.cell i
      have K3 : ∀ i, w7.cell? ⟨w.heap.size, i, none⟩ = #[Value.slice none 0 0][i]? := fun i => bk0.cell i
      have L3 : ∀ i, w7.cell? ⟨w.heap.size + 1, i, none⟩ = #[Value.slice none 0 0, Value.slice none 0 0][i]? := fun i => bk1.cell i
      have F3 : ∀ i, w7.frozen? ⟨w.heap.size, i, none⟩ = false := fun i => bk0.frozen i
      have G3 : ∀ i, w7.frozen? ⟨w.heap.size + 1, i, none⟩ = false := fun i => bk1.frozen i
      go_wp2_with fail
      go_region_law (go_simp; go_at_call 46; refine (l1DrawAny_any _ A n c S m d' xs _ ?_ ?_ hm).mono ?_; (first | exact hC7.drew); (first | exact (hI2.base (by omega)).drew); rintro e w6 ⟨Q, q, q', r, rfl, hQ, hq, hqd, hC6, ho6⟩; have bk6 := bk0.only (Only.drewL ho6) (Or.inl (by omega)); have K6 : ∀ i, w6.cell? ⟨w.heap.size, i, none⟩ = #[Value.slice none 0 0][i]? := fun i => bk6.cell i; have F6 : ∀ i, w6.frozen? ⟨w.heap.size, i, none⟩ = false := fun i => bk6.frozen i; have bl6 := bk1.only (Only.drewL ho6) (Or.inl (by omega)); have L6 : ∀ i, w6.cell? ⟨w.heap.size + 1, i, none⟩ = #[Value.slice none 0 0, Value.slice none 0 0][i]? := fun i => bl6.cell i; have G6 : ∀ i, w6.frozen? ⟨w.heap.size + 1, i, none⟩ = false := fun i => bl6.frozen i; have bx6 := bx.only (Only.drewL ho6) (Or.inr (by omega)); have KX6 : ∀ i, w6.cell? ⟨w2.heap.size, i, none⟩ = #[Value.slice S m d'][i]? := fun i => bx6.cell i)
      all_goals (
        have hOw := Only.drewL ho6
        have hs6 := hOw.size
        have ho7 : Only w.heap.size (w.heap.size + 1) w6 (w6.setCell ⟨w.heap.size, 0, none⟩ (.slice S m d')) := (Only.refl _ _ _).setCell (by simp) _
        have ho8 : Only (w.heap.size + 1) (w.heap.size + 1 + 1) (w6.setCell ⟨w.heap.size, 0, none⟩ (.slice S m d')) (((w6.setCell ⟨w.heap.size, 0, none⟩ (.slice S m d')).setCell ⟨w.heap.size + 1, 0, none⟩ (.slice P p p')).setCell ⟨w.heap.size + 1, 1, none⟩ (.slice Q q q')) := ((Only.refl _ _ _).setCell (by simp) _).setCell (by simp) _
        have hB6 := hB.trans (hOw.below (B := w.heap.size) (by omega) (by omega))
        have hI6 := ((hI2.up hOw (by omega)).up ho7 (by omega)).up ho8 (by omega)
        have hP6 := ((hP3.up hOw (by omega)).up ho7 (by omega)).up ho8 (by omega)
        have hQ6 := ((hQ.base (B' := w.heap.size + 1 + 1 + 1) (by show _ ≤ w7.heap.size; omega)).up ho7 (by omega)).up ho8 (by omega)
        have hB8 := (hB6.trans (ho7.below (B := w.heap.size) (by omega) (by omega))).trans (ho8.below (B := w.heap.size) (by omega) (by simp [World.setCell]; omega))
        go_wp2_with fail
        exact bodyPost_ret (v := .tuple #[.agg #[.slice S m d'], .agg #[.slice P p p', .slice Q q q']]) (by simp [results, Tryz.results17, go_sem, K6, L6]) rfl ⟨S, m, d', xs, P, p, p', l, Q, q, q', r, rfl, hI6.base (by omega), hm, hP6.1, hp, hQ6.1, hq, hB8⟩)
    · have K3 : ∀ i, w5.cell? ⟨w.heap.size, i, none⟩ = #[Value.slice none 0 0][i]? := fun i => bk0.cell i
      have L3 : ∀ i, w5.cell? ⟨w.heap.size + 1, i, none⟩ = #[Value.slice none 0 0, Value.slice none 0 0][i]? := fun i => bk1.cell i
      have F3 : ∀ i, w5.frozen? ⟨w.heap.size, i, none⟩ = false := fun i => bk0.frozen i
      have G3 : ∀ i, w5.frozen? ⟨w.heap.size + 1, i, none⟩ = false := fun i => bk1.frozen i
      go_wp2_with fail
      go_region_law (go_simp; go_at_call 45; refine (l6DrawRule_any _ A n c S m d' xs hok _ ?_ ?_).mono ?_; (first | exact hC2.drew); (first | exact (hI2.base (by omega)).drew); rintro e w6 ⟨P, p, p', l, Q, q, q', r, rfl, hP, hp, hpd, hQ, hq, hqd, hC6, ho6⟩; have bk6 := bk0.only (Only.drewL ho6) (Or.inl (by omega)); have K6 : ∀ i, w6.cell? ⟨w.heap.size, i, none⟩ = #[Value.slice none 0 0][i]? := fun i => bk6.cell i; have F6 : ∀ i, w6.frozen? ⟨w.heap.size, i, none⟩ = false := fun i => bk6.frozen i; have bl6 := bk1.only (Only.drewL ho6) (Or.inl (by omega)); have L6 : ∀ i, w6.cell? ⟨w.heap.size + 1, i, none⟩ = #[Value.slice none 0 0, Value.slice none 0 0][i]? := fun i => bl6.cell i; have G6 : ∀ i, w6.frozen? ⟨w.heap.size + 1, i, none⟩ = false := fun i => bl6.frozen i; have bx6 := bx.only (Only.drewL ho6) (Or.inr (by omega)); have KX6 : ∀ i, w6.cell? ⟨w2.heap.size, i, none⟩ = #[Value.slice S m d'][i]? := fun i => bx6.cell i)
      all_goals (
        have hOw := Only.drewL ho6
        have hs6 := hOw.size
        have ho7 : Only w.heap.size (w.heap.size + 1) w6 (w6.setCell ⟨w.heap.size, 0, none⟩ (.slice S m d')) := (Only.refl _ _ _).setCell (by simp) _
        have ho8 : Only (w.heap.size + 1) (w.heap.size + 1 + 1) (w6.setCell ⟨w.heap.size, 0, none⟩ (.slice S m d')) (((w6.setCell ⟨w.heap.size, 0, none⟩ (.slice S m d')).setCell ⟨w.heap.size + 1, 0, none⟩ (.slice P p p')).setCell ⟨w.heap.size + 1, 1, none⟩ (.slice Q q q')) := ((Only.refl _ _ _).setCell (by simp) _).setCell (by simp) _
        have hB6 := hB.trans (hOw.below (B := w.heap.size) (by omega) (by omega))
        have hI6 := ((hI2.up hOw (by omega)).up ho7 (by omega)).up ho8 (by omega)
        have hP6 := ((hP.base (B' := w.heap.size + 1 + 1 + 1) (by show _ ≤ w5.heap.size; omega)).up ho7 (by omega)).up ho8 (by omega)
        have hQ6 := ((hQ.base (B' := w.heap.size + 1 + 1 + 1) (by show _ ≤ w5.heap.size; omega)).up ho7 (by omega)).up ho8 (by omega)
        have hB8 := (hB6.trans (ho7.below (B := w.heap.size) (by omega) (by omega))).trans (ho8.below (B := w.heap.size) (by omega) (by simp [World.setCell]; omega))
        go_wp2_with fail
        exact bodyPost_ret (v := .tuple #[.agg #[.slice S m d'], .agg #[.slice P p p', .slice Q q q']]) (by simp [results, Tryz.results17, go_sem, K6, L6]) rfl ⟨S, m, d', xs, P, p, p', l, Q, q, q', r, rfl, hI6.base (by omega), hm, hP6.1, hp, hQ6.1, hq, hB8⟩)
end Go.Proofs.YtlcchafcgidpeaaGreatDoor
/-! Contracts: draws of texts of rules. -/

namespace Go.Proofs.YtlcchafcgidpeaaGreatDoor
open Go.RowKit
set_option linter.unusedVariables false
set_option linter.unusedSimpArgs false

set_option maxHeartbeats 4000000 in
set_option maxRecDepth 20000 in
theorem DrawTextRule_any (A : Option Addr) (n c : Nat) (w : World) (h : BI w A n) (hn : n ≤ 4096) :
    Calls Tryz.prog 5 #[.slice A n c] w fun e w' => ∃ (S : Option Addr) (m d' : Nat) (xs : List Int) (z : ByteArray), e = .returned (.tuple #[.agg #[.slice S m d'], .string z]) ∧ RI w' S m xs ∧ m ≤ 9 ∧ z.size ≤ 1000 ∧ Below w.heap.size w w' := by
  have bk0 := Blk.new w 26 #[.slice none 0 0]
  have hB0 : Below w.heap.size w (w.alloc (.cells #[.slice none 0 0] 26)) := (Below.refl _ _).alloc (Nat.le_refl _) _
  have hs0 : (w.alloc (.cells #[.slice none 0 0] 26)).heap.size = w.heap.size + 1 := by simp
  have h0 := h.below hB0
  go_enter Tryz.func5, Tryz.ntmps5
  go_wp2_with fail
  generalize w.alloc (.cells #[.slice none 0 0] 26) = W0 at *
  have HS := Lib.hid hs0
  clear hs0
  refine (l1New_any A n c W0 h0 hn).mono ?_
  rintro e w1 ⟨rfl, hC, hb1⟩
  obtain ⟨cb, hcb⟩ : ∃ cb, Hid (cb = W0.heap.size) := ⟨_, Lib.hid rfl⟩
  rw [← hcb.out] at hC ⊢
  have hcb1 : cb = w.heap.size + 1 := by rw [hcb.out, HS.out]
  have HCB := Lib.hid hcb1
  have bk1 := bk0.below hb1
  have hB1 := hB0.trans (hb1.mono (by have := HS.out; omega))
  have hs1 : w.heap.size + 1 < w1.heap.size := by have := hC.lt; omega
  have h1 := h0.below hb1
  clear bk0 hB0 h0 hb1 hcb1
  go_wp2_with fail
  refine (DrawRuleOk_any A n c w1 (h1.below (Below.refl _ _)) hn).mono ?_
  rintro e w2 ⟨S, m, d', xs, P, p, p', l, Q, q, q', r, rfl, hS, hm, hP, hp, hQ, hq, hb2⟩
  have bk2 := bk1.below hb2
  have hB2 := hB1.trans (hb2.mono (by omega))
  have hs2 := hb2.size
  have hC2 := hC.below hb2
  clear hC hb2 bk1 hB1
  have hal : Below w2.heap.size w2 ((w2.alloc (.cells #[.slice S m d'] 26)).alloc (.cells #[.slice P p p', .slice Q q q'] 30)) := ((Below.refl _ _).alloc (Nat.le_refl _) _).alloc (by simp) _
  have bx := (Blk.new w2 26 #[.slice S m d']).alloc (.cells #[.slice P p p', .slice Q q q'] 30)
  have by_ : Blk ((w2.alloc (.cells #[.slice S m d'] 26)).alloc (.cells #[.slice P p p', .slice Q q q'] 30)) (w2.heap.size + 1) 30 #[.slice P p p', .slice Q q q'] := by
    have := Blk.new (w2.alloc (.cells #[.slice S m d'] 26)) 30 #[.slice P p p', .slice Q q q']
    simpa only [World.size_alloc] using this
  have hS3 := hS.1.below hal
  have hP3 := hP.below hal
  have hQ3 := hQ.below hal
  have bk3 := bk2.below hal
  have hC3 := hC2.below hal
  have hB3 := hB2.trans (hal.mono (by omega))
  have hs3 := bx.lt
  have hSB := fun hm a ha => hS.2 hm a ha
  have KX3 : ∀ i, ((w2.alloc (.cells #[.slice S m d'] 26)).alloc (.cells #[.slice P p p', .slice Q q q'] 30)).cell? ⟨w2.heap.size, i, none⟩ = #[Value.slice S m d'][i]? := fun i => bx.cell i
  have KY3 : ∀ i, ((w2.alloc (.cells #[.slice S m d'] 26)).alloc (.cells #[.slice P p p', .slice Q q q'] 30)).cell? ⟨w2.heap.size + 1, i, none⟩ = #[Value.slice P p p', Value.slice Q q q'][i]? := fun i => by_.cell i
  clear hal hS hP hQ bk2 hC2 hB2
  go_wp2_with fail
  generalize (w2.alloc (.cells #[.slice S m d'] 26)).alloc (.cells #[.slice P p p', .slice Q q q'] 30) = W3 at *
  refine (S_RuleText S m d' xs P p p' l Q q q' r W3 hS3 hP3 hQ3 (by omega) (by omega)).mono ?_
  rintro e w4 ⟨rfl, hb4⟩
  have htl := V_RuleText_len xs l r
  generalize V_RuleText xs l r = TX at *
  replace bx := bx.below hb4
  have bk4 := bk3.below hb4
  have hC4 := hC3.below hb4
  have hB4 := hB3.trans (hb4.mono (by omega))
  have hs4 := hb4.size
  have hS4 := hS3.below hb4
  clear KX3 KY3 bk3 hC3 hB3 hb4 hS3 hP3 hQ3
  go_wp2_with fail
  refine (l1Once_any cb A n c 2 w4 hC4 (by omega)).mono ?_
  rintro e w5 ⟨b, rfl, hC5, ho5⟩
  replace bx := bx.only ho5 (Or.inr (by have := HCB.out; omega))
  have bk5 := bk4.only ho5 (Or.inl (by have := HCB.out; omega))
  have hB5 := hB4.trans (ho5.below (B := w.heap.size) (by have := HCB.out; omega) (by omega))
  have hs5 := ho5.size
  have hR5 : RB w5 (cb + 1) S m xs := (show RB w4 (cb + 1) S m xs from ⟨hS4, fun hm a ha => by have := hSB hm a ha; have := HCB.out; omega⟩).up ho5 (Nat.le_refl _)
  clear bk4 hC4 hB4 ho5 hS4 hSB
  have KX5 : ∀ i, w5.cell? ⟨w2.heap.size, i, none⟩ = #[Value.slice S m d'][i]? := fun i => bx.cell i
  have KR5 : ∀ i, w5.cell? ⟨w.heap.size, i, none⟩ = #[Value.slice none 0 0][i]? := fun i => bk5.cell i
  have FR5 : ∀ i, w5.frozen? ⟨w.heap.size, i, none⟩ = false := fun i => bk5.frozen i
  cases b
  · go_wp2_with fail
    go_region_law (go_simp; go_at_call 20; refine (l1Bend_any cb A n c ⟨TX.toArray⟩ ⟨#[102, 120, 48, 49, 40, 44, 41, 45, 62, 32]⟩ _ ?_ (by simp [ByteArray.size]; omega) (by decide) (by decide)).mono ?_; (first | exact hC5.drew); rintro e w6 ⟨z, rfl, hz, hC6, ho6⟩; have bk6 := bk5.only (Only.drewL ho6) (Or.inl (by have := HCB.out; omega)); have K6 : ∀ i, w6.cell? ⟨w.heap.size, i, none⟩ = #[Value.slice none 0 0][i]? := fun i => bk6.cell i; have F6 : ∀ i, w6.frozen? ⟨w.heap.size, i, none⟩ = false := fun i => bk6.frozen i; have bx6 := bx.only (Only.drewL ho6) (Or.inr (by have := HCB.out; omega)); have KX6 : ∀ i, w6.cell? ⟨w2.heap.size, i, none⟩ = #[Value.slice S m d'][i]? := fun i => bx6.cell i)
    all_goals (
      have hs6 := (Only.drewL ho6).size
      have ho7 : Only w.heap.size (w.heap.size + 1) w6 (w6.setCell ⟨w.heap.size, 0, none⟩ (.slice S m d')) := (Only.refl _ _ _).setCell (by simp) _
      have hB6 := hB5.trans ((Only.drewL ho6).below (B := w.heap.size) (by have := HCB.out; omega) (by omega))
      have hR6 := hR5.up (Only.drewL ho6) (Nat.le_refl _)
      have hz2 : z.size ≤ 1000 := by rw [show (⟨TX.toArray⟩ : ByteArray).size = TX.length from by simp [ByteArray.size]] at hz; omega
      go_wp2_with fail
      exact bodyPost_ret (v := .tuple #[.agg #[.slice S m d'], .string z]) (by simp [results, Tryz.results5, go_sem, K6]) rfl ⟨S, m, d', xs, z, rfl, (hR6.up ho7 (by have := HCB.out; omega)).1, hm, hz2, hB6.trans (ho7.below (Nat.le_refl _) (by omega))⟩)
  · have ho6 : Only w.heap.size (w.heap.size + 1) w5 (w5.setCell ⟨w.heap.size, 0, none⟩ (.slice S m d')) := (Only.refl _ _ _).setCell (by simp) _
    go_wp2_with fail
    exact bodyPost_ret (v := .tuple #[.agg #[.slice S m d'], .string ⟨TX.toArray⟩]) (by simp [results, Tryz.results5, go_sem, KR5]) rfl ⟨S, m, d', xs, _, rfl, (hR5.up ho6 (by have := HCB.out; omega)).1, hm, by simp [ByteArray.size]; omega, hB5.trans (ho6.below (Nat.le_refl _) (by omega))⟩
end Go.Proofs.YtlcchafcgidpeaaGreatDoor
/-! Contracts: draws of texts of signatures and of substitutions. -/

namespace Go.Proofs.YtlcchafcgidpeaaGreatDoor
open Go.RowKit
open Go.Lib (decDigits)
set_option linter.unusedVariables false
set_option linter.unusedSimpArgs false

theorem V_SigText_len (xs : List Int) : (V_SigText xs).length ≤ 3000 := by
  cases h : Pl.sigOk xs
  · rw [V_SigText_no h]; simp
  · rw [V_SigText_yes h]
    obtain ⟨h1, h2⟩ := sig_small h rfl
    have hb := join_bd (b := [32]) (W := decs xs) (m := 2) (fun x hx => by
      obtain ⟨n, hn, rfl⟩ := List.mem_map.1 hx
      obtain ⟨k, hk, rfl⟩ := List.getElem_of_mem hn
      have := h2 k hk
      rw [List.getD_eq_getElem?_getD, List.getElem?_eq_getElem hk, Option.getD_some] at this
      exact dec_two (by omega))
    have hl : (decs xs).length = xs.length := decs_len xs
    have h3 : (decs xs).length * (2 + [32].length) ≤ 8 * 3 := Nat.mul_le_mul (by omega) (by simp)
    exact Nat.le_trans hb (by omega)
set_option maxHeartbeats 2000000 in
set_option maxRecDepth 20000 in
theorem DrawTextSig_any (A : Option Addr) (n c : Nat) (w : World) (h : BI w A n) (hn : n ≤ 4096) :
    Calls Tryz.prog 9 #[.slice A n c] w fun e w' => ∃ z : ByteArray, e = .returned (.string z) ∧ z.size ≤ 4000 ∧ Below w.heap.size w w' := by
  go_enter Tryz.func9, Tryz.ntmps9
  go_wp2_with fail
  refine (l1New_any A n c w h hn).mono ?_
  rintro e w1 ⟨rfl, hC, hb1⟩
  have hlt := hC.lt
  go_wp2_with fail
  refine (l1DrawSigAny_any _ A n c w1 hC).mono ?_
  rintro e w2 ⟨S, m, d', xs, rfl, hI, hm, hC2, ho2⟩
  have hB2 := hb1.trans (ho2.below (B := w.heap.size) (Nat.le_refl _) (by omega))
  have hs2 := ho2.size
  have hR2 := hI.ri
  clear hI hb1 hC ho2
  go_wp2_with fail
  refine (S_SigText S m d' xs w2 hR2 (by omega)).mono ?_
  rintro e w3 ⟨rfl, hb3⟩
  have htl := V_SigText_len xs
  generalize V_SigText xs = TX at *
  have hC3 := hC2.below hb3
  have hB3 := hB2.trans (hb3.mono (by omega))
  have hs3 := hb3.size
  clear hC2 hB2 hb3 hR2
  go_wp2_with fail
  refine (l1Once_any _ A n c 2 w3 hC3 (by omega)).mono ?_
  rintro e w4 ⟨b, rfl, hC4, ho4⟩
  have hB4 := hB3.trans (ho4.below (B := w.heap.size) (Nat.le_refl _) (by omega))
  have hs4 := ho4.size
  clear hC3 hB3 ho4
  cases b
  · go_wp2_with fail
    refine (l1Bend_any _ A n c ⟨TX.toArray⟩ ⟨#[48, 49, 50, 51, 32, 45]⟩ w4 hC4 (by simp [ByteArray.size]; omega) (by decide) (by decide)).mono ?_
    rintro e w5 ⟨z, rfl, hz, hC5, ho5⟩
    rw [show (⟨TX.toArray⟩ : ByteArray).size = TX.length from by simp [ByteArray.size]] at hz
    go_wp2_with fail
    go_ret
    exact ⟨z, rfl, by omega, hB4.trans (ho5.below (B := w.heap.size) (Nat.le_refl _) (by omega))⟩
  · go_wp2_with fail
    go_ret
    exact ⟨_, rfl, by simp [ByteArray.size]; omega, hB4⟩
set_option maxHeartbeats 4000000 in
set_option maxRecDepth 20000 in
theorem DrawSubstText_any (A : Option Addr) (n c : Nat) (w : World) (h : BI w A n) (hn : n ≤ 4096) :
    Calls Tryz.prog 12 #[.slice A n c] w fun e w' => ∃ (S : Option Addr) (m d' : Nat) (xs : List Int) (U : Option Addr) (j b : Nat) (x : List (List Int)), e = .returned (.tuple #[.agg #[.slice S m d'], .agg #[.slice U j b]]) ∧ RI w' S m xs ∧ m ≤ 9 ∧ (RR w' U j x ∧ wtR x ≤ 2000 ∧ j ≤ 25) ∧ Below w.heap.size w w' := by
  have bk0 := (Blk.new w 26 #[.slice none 0 0]).alloc (.cells #[.slice none 0 0] 39)
  have bk1 : Blk ((w.alloc (.cells #[.slice none 0 0] 26)).alloc (.cells #[.slice none 0 0] 39)) (w.heap.size + 1) 39 #[.slice none 0 0] := by
    have := Blk.new (w.alloc (.cells #[.slice none 0 0] 26)) 39 #[.slice none 0 0]
    simpa only [World.size_alloc] using this
  have hB := ((Below.refl w.heap.size w).alloc (Nat.le_refl _) (.cells #[.slice none 0 0] 26)).alloc (by simp) (.cells #[.slice none 0 0] 39)
  have hs0 : ((w.alloc (.cells #[.slice none 0 0] 26)).alloc (.cells #[.slice none 0 0] 39)).heap.size = w.heap.size + 1 + 1 := by simp
  go_enter Tryz.func12, Tryz.ntmps12
  go_wp2_with fail
  generalize (w.alloc (.cells #[.slice none 0 0] 26)).alloc (.cells #[.slice none 0 0] 39) = W0 at *
  refine (l1New_any A n c W0 (h.below (hB.mono (Nat.le_refl _))) hn).mono ?_
  rintro e w1 ⟨rfl, hC, hb1⟩
  replace bk0 := bk0.below hb1
  replace bk1 := bk1.below hb1
  replace hB := below_then hB hb1 (by omega)
  rw [hs0] at hC
  have hlt := hC.lt
  clear hb1
  go_wp2_with fail
  refine (l1DrawSigAny_any _ A n c w1 hC).mono ?_
  rintro e w2 ⟨S, m, d', xs, rfl, hI, hm, hC2, ho2⟩
  have hs2 := ho2.size
  replace bk0 := (bk0.only ho2 (Or.inl (by omega))).alloc (.cells #[.slice S m d'] 26)
  replace bk1 := (bk1.only ho2 (Or.inl (by omega))).alloc (.cells #[.slice S m d'] 26)
  replace hB := (hB.trans (ho2.below (B := w.heap.size) (by omega) (by omega))).alloc (by omega) (.cells #[.slice S m d'] 26)
  have hI2 := (hI.rb.base (B' := w.heap.size + 1 + 1 + 1) (by omega)).below ((Below.refl _ _).alloc (Nat.le_refl _) (.cells #[.slice S m d'] 26))
  have bx := Blk.new w2 26 #[.slice S m d']
  replace hC2 := hC2.alloc (.cells #[.slice S m d'] 26)
  clear ho2 hI hC
  have KX : ∀ i, (w2.alloc (.cells #[.slice S m d'] 26)).cell? ⟨w2.heap.size, i, none⟩ = #[Value.slice S m d'][i]? := fun i => bx.cell i
  go_wp2_with fail
  generalize w2.alloc (.cells #[.slice S m d'] 26) = W3 at *
  have hsW := bx.lt
  have K3 : ∀ i, W3.cell? ⟨w.heap.size, i, none⟩ = #[Value.slice none 0 0][i]? := fun i => bk0.cell i
  have L3 : ∀ i, W3.cell? ⟨w.heap.size + 1, i, none⟩ = #[Value.slice none 0 0][i]? := fun i => bk1.cell i
  have F3 : ∀ i, W3.frozen? ⟨w.heap.size, i, none⟩ = false := fun i => bk0.frozen i
  have G3 : ∀ i, W3.frozen? ⟨w.heap.size + 1, i, none⟩ = false := fun i => bk1.frozen i
  go_region_law (go_simp; go_at_call 32; refine (l2DrawAny_any _ A n c S m d' xs _ ?_ ?_ hm).mono ?_; (first | exact hC2.drew); (first | exact (hI2.base (by omega)).drew); rintro e w4 ⟨U, j, b, x, rfl, hD, hj, hC4, ho4⟩; have bk4 := bk0.only (Only.drewL ho4) (Or.inl (by omega)); have K4 : ∀ i, w4.cell? ⟨w.heap.size, i, none⟩ = #[Value.slice none 0 0][i]? := fun i => bk4.cell i; have F4 : ∀ i, w4.frozen? ⟨w.heap.size, i, none⟩ = false := fun i => bk4.frozen i; have bl4 := bk1.only (Only.drewL ho4) (Or.inl (by omega)); have L4 : ∀ i, w4.cell? ⟨w.heap.size + 1, i, none⟩ = #[Value.slice none 0 0][i]? := fun i => bl4.cell i; have G4 : ∀ i, w4.frozen? ⟨w.heap.size + 1, i, none⟩ = false := fun i => bl4.frozen i; have bx4 := bx.only (Only.drewL ho4) (Or.inr (by omega)); have KX4 : ∀ i, w4.cell? ⟨w2.heap.size, i, none⟩ = #[Value.slice S m d'][i]? := fun i => bx4.cell i)
  all_goals (
    have hOw := Only.drewL ho4
    have hs4 := hOw.size
    have ho5 : Only w.heap.size (w.heap.size + 1) w4 (w4.setCell ⟨w.heap.size, 0, none⟩ (.slice S m d')) := (Only.refl _ _ _).setCell (by simp) _
    have ho6 : Only (w.heap.size + 1) (w.heap.size + 1 + 1) (w4.setCell ⟨w.heap.size, 0, none⟩ (.slice S m d')) ((w4.setCell ⟨w.heap.size, 0, none⟩ (.slice S m d')).setCell ⟨w.heap.size + 1, 0, none⟩ (.slice U j b)) := (Only.refl _ _ _).setCell (by simp) _
    have hB4 := hB.trans (hOw.below (B := w.heap.size) (by omega) (by omega))
    have hI4 := ((hI2.up hOw (by omega)).up ho5 (by omega)).up ho6 (by omega)
    have hD4 := ((hD.base (B' := w.heap.size + 1 + 1 + 1) (by show _ ≤ W3.heap.size; omega)).up ho5 (by omega)).up ho6 (by omega)
    have hB6 := (hB4.trans (ho5.below (B := w.heap.size) (by omega) (by omega))).trans (ho6.below (B := w.heap.size) (by omega) (by simp [World.setCell]; omega))
    have hwt := hD.wt
    go_wp2_with fail
    exact bodyPost_ret (v := .tuple #[.agg #[.slice S m d'], .agg #[.slice U j b]]) (by simp [results, Tryz.results12, go_sem, K4, L4]) rfl ⟨S, m, d', xs, U, j, b, x, rfl, hI4.1, hm, ⟨hD4.rr, by omega, hj⟩, hB6⟩)
end Go.Proofs.YtlcchafcgidpeaaGreatDoor
