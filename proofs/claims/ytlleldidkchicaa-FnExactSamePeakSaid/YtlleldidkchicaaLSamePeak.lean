/- The statement FnExactSamePeak: whatever the input, it returns true and leaves its arguments alone. No conditions. -/
import Derived.Test.YtlleldidkchicaaPeak2
import Derived.Test.YtlleldidkchicaaOpenP
import Derived.Test.YtlleldidkchicaaTerm
import Derived.Test.YtlleldidkchicaaOpen
import Derived.Test.YtlleldidkchicaaRows
import Derived.Deep.RegionHeld3
namespace Go.Proofs.Ytlleldidkchicaa.lSamePeak
open Go.RowKit Go.ChangeShapes Go.WideShapes Go.ChangeAt
open Go.ChangeMaps (open_string shut_string)
set_option linter.unusedVariables false
set_option linter.unusedSimpArgs false

set_option maxHeartbeats 8000000 in
set_option maxRecDepth 100000 in
theorem walk (A0_0 : Option Addr) (n0_0 c0_0 : Nat) (x0_0 : List Int) (A0_1 : Option Addr) (n0_1 c0_1 : Nat) (x0_1 : List Int) (A0_2 : Option Addr) (n0_2 c0_2 : Nat) (x0_2 : List Int) (p0_3 : Int) (p0_4 : Int) (p0_5 : Int) (A1_0 : Option Addr) (n1_0 c1_0 : Nat) (x1_0 : List Int) (A1_1 : Option Addr) (n1_1 c1_1 : Nat) (x1_1 : List Int) (A1_2 : Option Addr) (n1_2 c1_2 : Nat) (x1_2 : List Int) (p1_3 : Int) (p1_4 : Int) (p1_5 : Int) (w : World) (h0_0 : RI w A0_0 n0_0 x0_0) (h0_1 : RI w A0_1 n0_1 x0_1) (h0_2 : RI w A0_2 n0_2 x0_2) (h1_0 : RI w A1_0 n1_0 x1_0) (h1_1 : RI w A1_1 n1_1 x1_1) (h1_2 : RI w A1_2 n1_2 x1_2) (m0_0 : n0_0 ≤ 9223372036854775807) (m0_1 : n0_1 ≤ 9223372036854775807) (m0_2 : n0_2 ≤ 9223372036854775807) (m1_0 : n1_0 ≤ 9223372036854775807) (m1_1 : n1_1 ≤ 9223372036854775807) (m1_2 : n1_2 ≤ 9223372036854775807) :
    Calls Try.prog 9 #[.agg #[.slice A0_0 n0_0 c0_0, .slice A0_1 n0_1 c0_1, .slice A0_2 n0_2 c0_2, .int .i64 p0_3, .int .i64 p0_4, .int .i64 p0_5], .agg #[.slice A1_0 n1_0 c1_0, .slice A1_1 n1_1 c1_1, .slice A1_2 n1_2 c1_2, .int .i64 p1_3, .int .i64 p1_4, .int .i64 p1_5]] w fun e w' => e = .returned (.bool true) ∧ Below w.heap.size w w' := by
  go_enter Try.func9, Try.ntmps9
  have hB : Below w.heap.size w w := Below.refl _ _
  go_wp2_with fail
  refine (szPeak_any A0_0 n0_0 c0_0 A0_1 n0_1 c0_1 A0_2 n0_2 c0_2 p0_3 p0_4 p0_5 (1048576) _ (by omega) (by omega) m0_0 m0_1 m0_2).mono ?_
  rintro e w1 ⟨rfl, hb1⟩
  have s1 : w.heap.size + 2 ≤ w1.heap.size := by have := hb1.size; first | omega | (simp at this; omega)
  have bx0_0 : w1.cell? ⟨w.heap.size, 0, none⟩ = some (.slice A0_0 n0_0 c0_0) := (hb1.cell (by simp <;> omega)).trans (by simp)
  have bx0_1 : w1.cell? ⟨w.heap.size, 1, none⟩ = some (.slice A0_1 n0_1 c0_1) := (hb1.cell (by simp <;> omega)).trans (by simp)
  have bx0_2 : w1.cell? ⟨w.heap.size, 2, none⟩ = some (.slice A0_2 n0_2 c0_2) := (hb1.cell (by simp <;> omega)).trans (by simp)
  have bx0_3 : w1.cell? ⟨w.heap.size, 3, none⟩ = some (.int .i64 p0_3) := (hb1.cell (by simp <;> omega)).trans (by simp)
  have bx0_4 : w1.cell? ⟨w.heap.size, 4, none⟩ = some (.int .i64 p0_4) := (hb1.cell (by simp <;> omega)).trans (by simp)
  have bx0_5 : w1.cell? ⟨w.heap.size, 5, none⟩ = some (.int .i64 p0_5) := (hb1.cell (by simp <;> omega)).trans (by simp)
  have bx1_0 : w1.cell? ⟨w.heap.size + 1, 0, none⟩ = some (.slice A1_0 n1_0 c1_0) := (hb1.cell (by simp <;> omega)).trans (by simp)
  have bx1_1 : w1.cell? ⟨w.heap.size + 1, 1, none⟩ = some (.slice A1_1 n1_1 c1_1) := (hb1.cell (by simp <;> omega)).trans (by simp)
  have bx1_2 : w1.cell? ⟨w.heap.size + 1, 2, none⟩ = some (.slice A1_2 n1_2 c1_2) := (hb1.cell (by simp <;> omega)).trans (by simp)
  have bx1_3 : w1.cell? ⟨w.heap.size + 1, 3, none⟩ = some (.int .i64 p1_3) := (hb1.cell (by simp <;> omega)).trans (by simp)
  have bx1_4 : w1.cell? ⟨w.heap.size + 1, 4, none⟩ = some (.int .i64 p1_4) := (hb1.cell (by simp <;> omega)).trans (by simp)
  have bx1_5 : w1.cell? ⟨w.heap.size + 1, 5, none⟩ = some (.int .i64 p1_5) := (hb1.cell (by simp <;> omega)).trans (by simp)
  replace hB : Below w.heap.size w w1 := below_then ((hB.alloc (by have := hB.size; simp <;> omega) _).alloc (by have := hB.size; simp <;> omega) _) hb1 (by have := hB.size; simp <;> omega)
  clear hb1
  have sb1 : w.heap.size + 1 < w1.heap.size := by omega
  have z0 := szF_bd (left := 1048576) (n0_0 + n0_1 + n0_2) (by omega)
  obtain ⟨v0, e0⟩ : ∃ v, v = szF (1048576) (n0_0 + n0_1 + n0_2) := ⟨_, rfl⟩
  rw [← e0] at z0 ⊢
  clear e0
  by_cases q0 : v0 < 0
  · go_wp2_with fail
    go_ret
    exact ⟨rfl, hB⟩
  have g0 : n0_0 + n0_1 + n0_2 ≤ 1048576 := by omega
  go_wp2_with fail
  refine (szPeak_any A1_0 n1_0 c1_0 A1_1 n1_1 c1_1 A1_2 n1_2 c1_2 p1_3 p1_4 p1_5 (v0) _ (by omega) (by omega) m1_0 m1_1 m1_2).mono ?_
  rintro e w2 ⟨rfl, hb2⟩
  have s2 : w1.heap.size + 0 ≤ w2.heap.size := by have := hb2.size; first | omega | (simp at this; omega)
  replace bx0_0 := keepC hb2 bx0_0
  replace bx0_1 := keepC hb2 bx0_1
  replace bx0_2 := keepC hb2 bx0_2
  replace bx0_3 := keepC hb2 bx0_3
  replace bx0_4 := keepC hb2 bx0_4
  replace bx0_5 := keepC hb2 bx0_5
  replace bx1_0 := keepC hb2 bx1_0
  replace bx1_1 := keepC hb2 bx1_1
  replace bx1_2 := keepC hb2 bx1_2
  replace bx1_3 := keepC hb2 bx1_3
  replace bx1_4 := keepC hb2 bx1_4
  replace bx1_5 := keepC hb2 bx1_5
  replace hB : Below w.heap.size w w2 := below_then hB hb2 (by have := hB.size; simp <;> omega)
  clear hb2
  replace sb1 : w.heap.size + 1 < w2.heap.size := by omega
  have z1 := szF_bd (left := v0) (n1_0 + n1_1 + n1_2) (by omega)
  obtain ⟨v1, e1⟩ : ∃ v, v = szF (v0) (n1_0 + n1_1 + n1_2) := ⟨_, rfl⟩
  rw [← e1] at z1 ⊢
  clear e1
  by_cases q1 : v1 < 0
  · go_wp2_with fail
    go_ret
    exact ⟨rfl, hB⟩
  have g1 : n1_0 + n1_1 + n1_2 ≤ 1048576 := by omega
  go_wp2_with fail
  have HKS : Hid (∀ w', Below w2.heap.size w2 w' → (fun w' => Below w2.heap.size w2 w' ∧ w'.cell? ⟨w.heap.size, 0, none⟩ = some (.slice A0_0 n0_0 c0_0) ∧ w'.cell? ⟨w.heap.size, 1, none⟩ = some (.slice A0_1 n0_1 c0_1) ∧ w'.cell? ⟨w.heap.size, 2, none⟩ = some (.slice A0_2 n0_2 c0_2) ∧ w'.cell? ⟨w.heap.size, 3, none⟩ = some (.int .i64 p0_3) ∧ w'.cell? ⟨w.heap.size, 4, none⟩ = some (.int .i64 p0_4) ∧ w'.cell? ⟨w.heap.size, 5, none⟩ = some (.int .i64 p0_5) ∧ w'.cell? ⟨w.heap.size + 1, 0, none⟩ = some (.slice A1_0 n1_0 c1_0) ∧ w'.cell? ⟨w.heap.size + 1, 1, none⟩ = some (.slice A1_1 n1_1 c1_1) ∧ w'.cell? ⟨w.heap.size + 1, 2, none⟩ = some (.slice A1_2 n1_2 c1_2) ∧ w'.cell? ⟨w.heap.size + 1, 3, none⟩ = some (.int .i64 p1_3) ∧ w'.cell? ⟨w.heap.size + 1, 4, none⟩ = some (.int .i64 p1_4) ∧ w'.cell? ⟨w.heap.size + 1, 5, none⟩ = some (.int .i64 p1_5)) w') := Lib.hid (fun w' h_ => ⟨h_, keepC h_ bx0_0, keepC h_ bx0_1, keepC h_ bx0_2, keepC h_ bx0_3, keepC h_ bx0_4, keepC h_ bx0_5, keepC h_ bx1_0, keepC h_ bx1_1, keepC h_ bx1_2, keepC h_ bx1_3, keepC h_ bx1_4, keepC h_ bx1_5⟩)
  go_region_held3 (fun w' => Below w2.heap.size w2 w' ∧ w'.cell? ⟨w.heap.size, 0, none⟩ = some (.slice A0_0 n0_0 c0_0) ∧ w'.cell? ⟨w.heap.size, 1, none⟩ = some (.slice A0_1 n0_1 c0_1) ∧ w'.cell? ⟨w.heap.size, 2, none⟩ = some (.slice A0_2 n0_2 c0_2) ∧ w'.cell? ⟨w.heap.size, 3, none⟩ = some (.int .i64 p0_3) ∧ w'.cell? ⟨w.heap.size, 4, none⟩ = some (.int .i64 p0_4) ∧ w'.cell? ⟨w.heap.size, 5, none⟩ = some (.int .i64 p0_5) ∧ w'.cell? ⟨w.heap.size + 1, 0, none⟩ = some (.slice A1_0 n1_0 c1_0) ∧ w'.cell? ⟨w.heap.size + 1, 1, none⟩ = some (.slice A1_1 n1_1 c1_1) ∧ w'.cell? ⟨w.heap.size + 1, 2, none⟩ = some (.slice A1_2 n1_2 c1_2) ∧ w'.cell? ⟨w.heap.size + 1, 3, none⟩ = some (.int .i64 p1_3) ∧ w'.cell? ⟨w.heap.size + 1, 4, none⟩ = some (.int .i64 p1_4) ∧ w'.cell? ⟨w.heap.size + 1, 5, none⟩ = some (.int .i64 p1_5))
    (first | exact HKS.out _ (Below.refl _ _).drew | exact HKS.out _ (keepS0 ha_0 (And.left (by assumption))) | exact HKS.out _ (keepS0 ha_1 (And.left (by assumption))) | exact HKS.out _ (keepS0 haf (And.left (by assumption))))
    ((first | (go_at_call 28; with_reducible (show Calls Try.prog 28 #[.agg #[.slice A0_0 n0_0 c0_0, .slice A0_1 n0_1 c0_1, .slice A0_2 n0_2 c0_2, .int .i64 p0_3, .int .i64 p0_4, .int .i64 p0_5]] _ _); refine (toPeak_any A0_0 n0_0 c0_0 x0_0 A0_1 n0_1 c0_1 x0_1 A0_2 n0_2 c0_2 x0_2 p0_3 p0_4 p0_5 _ ?_ ?_ ?_ g0).mono ?_; exact riS (h0_0.below hB) (by assumption); exact riS (h0_1.below hB) (by assumption); exact riS (h0_2.below hB) (by assumption); rintro e wa_0 ⟨as0_0, as0_1, as0_2, rfl, os0_0, os0_1, os0_2, ha_0⟩) | (go_at_call 28; with_reducible (show Calls Try.prog 28 #[.agg #[.slice A1_0 n1_0 c1_0, .slice A1_1 n1_1 c1_1, .slice A1_2 n1_2 c1_2, .int .i64 p1_3, .int .i64 p1_4, .int .i64 p1_5]] _ _); refine (toPeak_any A1_0 n1_0 c1_0 x1_0 A1_1 n1_1 c1_1 x1_1 A1_2 n1_2 c1_2 x1_2 p1_3 p1_4 p1_5 _ ?_ ?_ ?_ g1).mono ?_; exact riS (h1_0.below hB) (by assumption); exact riS (h1_1.below hB) (by assumption); exact riS (h1_2.below hB) (by assumption); rintro e wa_1 ⟨as1_0, as1_1, as1_2, rfl, os1_0, os1_1, os1_2, ha_1⟩; replace os0_0 := os0_0.below ha_1; replace os0_1 := os0_1.below ha_1; replace os0_2 := os0_2.below ha_1) | (go_at_call 33; refine (S_SamePeak (some ⟨as0_0, 0, none⟩) n0_0 n0_0 x0_0 (some ⟨as0_1, 0, none⟩) n0_1 n0_1 x0_1 (some ⟨as0_2, 0, none⟩) n0_2 n0_2 x0_2 p0_3 p0_4 p0_5 (some ⟨as1_0, 0, none⟩) n1_0 n1_0 x1_0 (some ⟨as1_1, 0, none⟩) n1_1 n1_1 x1_1 (some ⟨as1_2, 0, none⟩) n1_2 n1_2 x1_2 p1_3 p1_4 p1_5 _ os0_0.rd os0_1.rd os0_2.rd os1_0.rd os1_1.rd os1_2.rd g0 g1).mono ?_; rintro e w3 ⟨rfl, haf⟩)))
  rename_i hS
  have hb3 := hS.1
  have sz3 : w2.heap.size ≤ wa_1.heap.size := by have e_ : w2.drew.heap.size = w2.heap.size := rfl; have q_0 := ha_0.size; have q_1 := ha_1.size; have qf := haf.size; omega
  clear HKS hS haf ha_0 ha_1 os0_0 os0_1 os0_2 os1_0 os1_1 os1_2
  have s3 : w2.heap.size + 0 ≤ w3.heap.size := by have := hb3.size; first | omega | (simp at this; omega)
  replace bx0_0 := keepC hb3 bx0_0
  replace bx0_1 := keepC hb3 bx0_1
  replace bx0_2 := keepC hb3 bx0_2
  replace bx0_3 := keepC hb3 bx0_3
  replace bx0_4 := keepC hb3 bx0_4
  replace bx0_5 := keepC hb3 bx0_5
  replace bx1_0 := keepC hb3 bx1_0
  replace bx1_1 := keepC hb3 bx1_1
  replace bx1_2 := keepC hb3 bx1_2
  replace bx1_3 := keepC hb3 bx1_3
  replace bx1_4 := keepC hb3 bx1_4
  replace bx1_5 := keepC hb3 bx1_5
  replace hB : Below w.heap.size w w3 := below_then hB hb3 (by have := hB.size; simp <;> omega)
  clear hb3
  replace sb1 : w.heap.size + 1 < w3.heap.size := by omega
  go_wp2_with fail
  refine (toPeak_any A0_0 n0_0 c0_0 x0_0 A0_1 n0_1 c0_1 x0_1 A0_2 n0_2 c0_2 x0_2 p0_3 p0_4 p0_5 _ (h0_0.below hB) (h0_1.below hB) (h0_2.below hB) g0).mono ?_
  rintro e w4 ⟨ax0_0, ax0_1, ax0_2, rfl, ox0_0, ox0_1, ox0_2, hb4⟩
  have s4 : w3.heap.size + 0 ≤ w4.heap.size := by have := hb4.size; first | omega | (simp at this; omega)
  replace bx0_0 := keepC hb4 bx0_0
  replace bx0_1 := keepC hb4 bx0_1
  replace bx0_2 := keepC hb4 bx0_2
  replace bx0_3 := keepC hb4 bx0_3
  replace bx0_4 := keepC hb4 bx0_4
  replace bx0_5 := keepC hb4 bx0_5
  replace bx1_0 := keepC hb4 bx1_0
  replace bx1_1 := keepC hb4 bx1_1
  replace bx1_2 := keepC hb4 bx1_2
  replace bx1_3 := keepC hb4 bx1_3
  replace bx1_4 := keepC hb4 bx1_4
  replace bx1_5 := keepC hb4 bx1_5
  replace hB : Below w.heap.size w w4 := below_then hB hb4 (by have := hB.size; simp <;> omega)
  clear hb4
  replace sb1 : w.heap.size + 1 < w4.heap.size := by omega
  go_wp2_with fail
  refine (toPeak_any A1_0 n1_0 c1_0 x1_0 A1_1 n1_1 c1_1 x1_1 A1_2 n1_2 c1_2 x1_2 p1_3 p1_4 p1_5 _ (h1_0.below (hB.alloc (by have := hB.size; simp <;> omega) _)) (h1_1.below (hB.alloc (by have := hB.size; simp <;> omega) _)) (h1_2.below (hB.alloc (by have := hB.size; simp <;> omega) _)) g1).mono ?_
  rintro e w5 ⟨ax1_0, ax1_1, ax1_2, rfl, ox1_0, ox1_1, ox1_2, hb5⟩
  have s5 : w4.heap.size + 1 ≤ w5.heap.size := by have := hb5.size; first | omega | (simp at this; omega)
  replace ox0_0 := (ox0_0.below ((Below.refl _ _).alloc (Nat.le_refl _) _)).below hb5
  replace ox0_1 := (ox0_1.below ((Below.refl _ _).alloc (Nat.le_refl _) _)).below hb5
  replace ox0_2 := (ox0_2.below ((Below.refl _ _).alloc (Nat.le_refl _) _)).below hb5
  replace bx0_0 := keepC hb5 (keepC ((Below.refl _ _).alloc (Nat.le_refl _) _) bx0_0)
  replace bx0_1 := keepC hb5 (keepC ((Below.refl _ _).alloc (Nat.le_refl _) _) bx0_1)
  replace bx0_2 := keepC hb5 (keepC ((Below.refl _ _).alloc (Nat.le_refl _) _) bx0_2)
  replace bx0_3 := keepC hb5 (keepC ((Below.refl _ _).alloc (Nat.le_refl _) _) bx0_3)
  replace bx0_4 := keepC hb5 (keepC ((Below.refl _ _).alloc (Nat.le_refl _) _) bx0_4)
  replace bx0_5 := keepC hb5 (keepC ((Below.refl _ _).alloc (Nat.le_refl _) _) bx0_5)
  replace bx1_0 := keepC hb5 (keepC ((Below.refl _ _).alloc (Nat.le_refl _) _) bx1_0)
  replace bx1_1 := keepC hb5 (keepC ((Below.refl _ _).alloc (Nat.le_refl _) _) bx1_1)
  replace bx1_2 := keepC hb5 (keepC ((Below.refl _ _).alloc (Nat.le_refl _) _) bx1_2)
  replace bx1_3 := keepC hb5 (keepC ((Below.refl _ _).alloc (Nat.le_refl _) _) bx1_3)
  replace bx1_4 := keepC hb5 (keepC ((Below.refl _ _).alloc (Nat.le_refl _) _) bx1_4)
  replace bx1_5 := keepC hb5 (keepC ((Below.refl _ _).alloc (Nat.le_refl _) _) bx1_5)
  have by0_0 : w5.cell? ⟨w4.heap.size, 0, none⟩ = some (.slice (some ⟨ax0_0, 0, none⟩) n0_0 n0_0) := (hb5.cell (by simp <;> omega)).trans (by simp)
  have by0_1 : w5.cell? ⟨w4.heap.size, 1, none⟩ = some (.slice (some ⟨ax0_1, 0, none⟩) n0_1 n0_1) := (hb5.cell (by simp <;> omega)).trans (by simp)
  have by0_2 : w5.cell? ⟨w4.heap.size, 2, none⟩ = some (.slice (some ⟨ax0_2, 0, none⟩) n0_2 n0_2) := (hb5.cell (by simp <;> omega)).trans (by simp)
  have by0_3 : w5.cell? ⟨w4.heap.size, 3, none⟩ = some (.int .i64 p0_3) := (hb5.cell (by simp <;> omega)).trans (by simp)
  have by0_4 : w5.cell? ⟨w4.heap.size, 4, none⟩ = some (.int .i64 p0_4) := (hb5.cell (by simp <;> omega)).trans (by simp)
  have by0_5 : w5.cell? ⟨w4.heap.size, 5, none⟩ = some (.int .i64 p0_5) := (hb5.cell (by simp <;> omega)).trans (by simp)
  replace hB : Below w.heap.size w w5 := below_then (hB.alloc (by have := hB.size; simp <;> omega) _) hb5 (by have := hB.size; simp <;> omega)
  clear hb5
  have sy0 : w4.heap.size < w5.heap.size := by omega
  replace sb1 : w.heap.size + 1 < w5.heap.size := by omega
  go_wp2_with fail
  refine (I_SamePeak (some ⟨ax0_0, 0, none⟩) n0_0 n0_0 x0_0 (some ⟨ax0_1, 0, none⟩) n0_1 n0_1 x0_1 (some ⟨ax0_2, 0, none⟩) n0_2 n0_2 x0_2 p0_3 p0_4 p0_5 (some ⟨ax1_0, 0, none⟩) n1_0 n1_0 x1_0 (some ⟨ax1_1, 0, none⟩) n1_1 n1_1 x1_1 (some ⟨ax1_2, 0, none⟩) n1_2 n1_2 x1_2 p1_3 p1_4 p1_5 _ (ox0_0.rd.below ((Below.refl _ _).alloc (Nat.le_refl _) _)) (ox0_1.rd.below ((Below.refl _ _).alloc (Nat.le_refl _) _)) (ox0_2.rd.below ((Below.refl _ _).alloc (Nat.le_refl _) _)) (ox1_0.rd.below ((Below.refl _ _).alloc (Nat.le_refl _) _)) (ox1_1.rd.below ((Below.refl _ _).alloc (Nat.le_refl _) _)) (ox1_2.rd.below ((Below.refl _ _).alloc (Nat.le_refl _) _)) g0 g1).mono ?_
  rintro e w6 ⟨rfl, hb6⟩
  have s6 : w5.heap.size + 1 ≤ w6.heap.size := by have := hb6.size; first | omega | (simp at this; omega)
  replace ox0_0 := (ox0_0.below ((Below.refl _ _).alloc (Nat.le_refl _) _)).below hb6
  replace ox0_1 := (ox0_1.below ((Below.refl _ _).alloc (Nat.le_refl _) _)).below hb6
  replace ox0_2 := (ox0_2.below ((Below.refl _ _).alloc (Nat.le_refl _) _)).below hb6
  replace ox1_0 := (ox1_0.below ((Below.refl _ _).alloc (Nat.le_refl _) _)).below hb6
  replace ox1_1 := (ox1_1.below ((Below.refl _ _).alloc (Nat.le_refl _) _)).below hb6
  replace ox1_2 := (ox1_2.below ((Below.refl _ _).alloc (Nat.le_refl _) _)).below hb6
  replace bx0_0 := keepC hb6 (keepC ((Below.refl _ _).alloc (Nat.le_refl _) _) bx0_0)
  replace bx0_1 := keepC hb6 (keepC ((Below.refl _ _).alloc (Nat.le_refl _) _) bx0_1)
  replace bx0_2 := keepC hb6 (keepC ((Below.refl _ _).alloc (Nat.le_refl _) _) bx0_2)
  replace bx0_3 := keepC hb6 (keepC ((Below.refl _ _).alloc (Nat.le_refl _) _) bx0_3)
  replace bx0_4 := keepC hb6 (keepC ((Below.refl _ _).alloc (Nat.le_refl _) _) bx0_4)
  replace bx0_5 := keepC hb6 (keepC ((Below.refl _ _).alloc (Nat.le_refl _) _) bx0_5)
  replace bx1_0 := keepC hb6 (keepC ((Below.refl _ _).alloc (Nat.le_refl _) _) bx1_0)
  replace bx1_1 := keepC hb6 (keepC ((Below.refl _ _).alloc (Nat.le_refl _) _) bx1_1)
  replace bx1_2 := keepC hb6 (keepC ((Below.refl _ _).alloc (Nat.le_refl _) _) bx1_2)
  replace bx1_3 := keepC hb6 (keepC ((Below.refl _ _).alloc (Nat.le_refl _) _) bx1_3)
  replace bx1_4 := keepC hb6 (keepC ((Below.refl _ _).alloc (Nat.le_refl _) _) bx1_4)
  replace bx1_5 := keepC hb6 (keepC ((Below.refl _ _).alloc (Nat.le_refl _) _) bx1_5)
  replace by0_0 := keepC hb6 (keepC ((Below.refl _ _).alloc (Nat.le_refl _) _) by0_0)
  replace by0_1 := keepC hb6 (keepC ((Below.refl _ _).alloc (Nat.le_refl _) _) by0_1)
  replace by0_2 := keepC hb6 (keepC ((Below.refl _ _).alloc (Nat.le_refl _) _) by0_2)
  replace by0_3 := keepC hb6 (keepC ((Below.refl _ _).alloc (Nat.le_refl _) _) by0_3)
  replace by0_4 := keepC hb6 (keepC ((Below.refl _ _).alloc (Nat.le_refl _) _) by0_4)
  replace by0_5 := keepC hb6 (keepC ((Below.refl _ _).alloc (Nat.le_refl _) _) by0_5)
  have by1_0 : w6.cell? ⟨w5.heap.size, 0, none⟩ = some (.slice (some ⟨ax1_0, 0, none⟩) n1_0 n1_0) := (hb6.cell (by simp <;> omega)).trans (by simp)
  have by1_1 : w6.cell? ⟨w5.heap.size, 1, none⟩ = some (.slice (some ⟨ax1_1, 0, none⟩) n1_1 n1_1) := (hb6.cell (by simp <;> omega)).trans (by simp)
  have by1_2 : w6.cell? ⟨w5.heap.size, 2, none⟩ = some (.slice (some ⟨ax1_2, 0, none⟩) n1_2 n1_2) := (hb6.cell (by simp <;> omega)).trans (by simp)
  have by1_3 : w6.cell? ⟨w5.heap.size, 3, none⟩ = some (.int .i64 p1_3) := (hb6.cell (by simp <;> omega)).trans (by simp)
  have by1_4 : w6.cell? ⟨w5.heap.size, 4, none⟩ = some (.int .i64 p1_4) := (hb6.cell (by simp <;> omega)).trans (by simp)
  have by1_5 : w6.cell? ⟨w5.heap.size, 5, none⟩ = some (.int .i64 p1_5) := (hb6.cell (by simp <;> omega)).trans (by simp)
  replace hB : Below w.heap.size w w6 := below_then (hB.alloc (by have := hB.size; simp <;> omega) _) hb6 (by have := hB.size; simp <;> omega)
  clear hb6
  replace sy0 : w4.heap.size < w6.heap.size := by omega
  replace sb1 : w.heap.size + 1 < w6.heap.size := by omega
  have sy1 : w5.heap.size < w6.heap.size := by omega
  go_wp2_with fail
  go_region_held3 (fun w' => Below w6.heap.size w6 w' ∧ w'.cell? ⟨w4.heap.size, 0, none⟩ = some (.slice (some ⟨ax0_0, 0, none⟩) n0_0 n0_0) ∧ w'.cell? ⟨w4.heap.size, 1, none⟩ = some (.slice (some ⟨ax0_1, 0, none⟩) n0_1 n0_1) ∧ w'.cell? ⟨w4.heap.size, 2, none⟩ = some (.slice (some ⟨ax0_2, 0, none⟩) n0_2 n0_2) ∧ w'.cell? ⟨w4.heap.size, 3, none⟩ = some (.int .i64 p0_3) ∧ w'.cell? ⟨w4.heap.size, 4, none⟩ = some (.int .i64 p0_4) ∧ w'.cell? ⟨w4.heap.size, 5, none⟩ = some (.int .i64 p0_5) ∧ w'.cell? ⟨w.heap.size, 0, none⟩ = some (.slice A0_0 n0_0 c0_0) ∧ w'.cell? ⟨w.heap.size, 1, none⟩ = some (.slice A0_1 n0_1 c0_1) ∧ w'.cell? ⟨w.heap.size, 2, none⟩ = some (.slice A0_2 n0_2 c0_2) ∧ w'.cell? ⟨w.heap.size, 3, none⟩ = some (.int .i64 p0_3) ∧ w'.cell? ⟨w.heap.size, 4, none⟩ = some (.int .i64 p0_4) ∧ w'.cell? ⟨w.heap.size, 5, none⟩ = some (.int .i64 p0_5))
    (first | exact ⟨(Below.refl _ _).drew, by0_0, by0_1, by0_2, by0_3, by0_4, by0_5, bx0_0, bx0_1, bx0_2, bx0_3, bx0_4, bx0_5⟩ | exact And.imp (keepS0 ha1) (And.imp (keepC ha1) (And.imp (keepC ha1) (And.imp (keepC ha1) (And.imp (keepC ha1) (And.imp (keepC ha1) (And.imp (keepC ha1) (And.imp (keepC ha1) (And.imp (keepC ha1) (And.imp (keepC ha1) (And.imp (keepC ha1) (And.imp (keepC ha1) (keepC ha1)))))))))))) (by assumption) | exact And.imp (keepS0 ha2) (And.imp (keepC ha2) (And.imp (keepC ha2) (And.imp (keepC ha2) (And.imp (keepC ha2) (And.imp (keepC ha2) (And.imp (keepC ha2) (And.imp (keepC ha2) (And.imp (keepC ha2) (And.imp (keepC ha2) (And.imp (keepC ha2) (And.imp (keepC ha2) (keepC ha2)))))))))))) (by assumption))
    ((first | (go_at_call 28; refine (toPeak_any A0_0 n0_0 c0_0 x0_0 A0_1 n0_1 c0_1 x0_1 A0_2 n0_2 c0_2 x0_2 p0_3 p0_4 p0_5 _ ?_ ?_ ?_ g0).mono ?_; exact riS (h0_0.below hB) (by assumption); exact riS (h0_1.below hB) (by assumption); exact riS (h0_2.below hB) (by assumption); rintro e wa ⟨a0, a1, a2, rfl, oa0, oa1, oa2, ha1⟩) | (go_at_call 30; refine (eqPeak_same (some ⟨ax0_0, 0, none⟩) n0_0 n0_0 x0_0 (some ⟨ax0_1, 0, none⟩) n0_1 n0_1 x0_1 (some ⟨ax0_2, 0, none⟩) n0_2 n0_2 x0_2 p0_3 p0_4 p0_5 _ _ _ _ _ _ _ ?_ ?_ ?_ ?_ ?_ ?_ (by omega)).mono ?_; exact ox0_0.rd.below (And.left (by assumption)); exact ox0_1.rd.below (And.left (by assumption)); exact ox0_2.rd.below (And.left (by assumption)); exact oa0.rd; exact oa1.rd; exact oa2.rd; rintro e w7 ⟨rfl, ha2⟩)))
  rename_i hS
  have hb7 := hS.1
  clear hS oa0 oa1 oa2 ha1 ha2
  have s7 : w6.heap.size + 0 ≤ w7.heap.size := by have := hb7.size; first | omega | (simp at this; omega)
  replace ox0_0 := ox0_0.below hb7
  replace ox0_1 := ox0_1.below hb7
  replace ox0_2 := ox0_2.below hb7
  replace ox1_0 := ox1_0.below hb7
  replace ox1_1 := ox1_1.below hb7
  replace ox1_2 := ox1_2.below hb7
  replace bx0_0 := keepC hb7 bx0_0
  replace bx0_1 := keepC hb7 bx0_1
  replace bx0_2 := keepC hb7 bx0_2
  replace bx0_3 := keepC hb7 bx0_3
  replace bx0_4 := keepC hb7 bx0_4
  replace bx0_5 := keepC hb7 bx0_5
  replace bx1_0 := keepC hb7 bx1_0
  replace bx1_1 := keepC hb7 bx1_1
  replace bx1_2 := keepC hb7 bx1_2
  replace bx1_3 := keepC hb7 bx1_3
  replace bx1_4 := keepC hb7 bx1_4
  replace bx1_5 := keepC hb7 bx1_5
  replace by0_0 := keepC hb7 by0_0
  replace by0_1 := keepC hb7 by0_1
  replace by0_2 := keepC hb7 by0_2
  replace by0_3 := keepC hb7 by0_3
  replace by0_4 := keepC hb7 by0_4
  replace by0_5 := keepC hb7 by0_5
  replace by1_0 := keepC hb7 by1_0
  replace by1_1 := keepC hb7 by1_1
  replace by1_2 := keepC hb7 by1_2
  replace by1_3 := keepC hb7 by1_3
  replace by1_4 := keepC hb7 by1_4
  replace by1_5 := keepC hb7 by1_5
  replace hB : Below w.heap.size w w7 := below_then hB hb7 (by have := hB.size; simp <;> omega)
  clear hb7
  replace sy0 : w4.heap.size < w7.heap.size := by omega
  replace sb1 : w.heap.size + 1 < w7.heap.size := by omega
  replace sy1 : w5.heap.size < w7.heap.size := by omega
  go_wp2_with fail
  go_region_held3 (fun w' => Below w7.heap.size w7 w' ∧ w'.cell? ⟨w5.heap.size, 0, none⟩ = some (.slice (some ⟨ax1_0, 0, none⟩) n1_0 n1_0) ∧ w'.cell? ⟨w5.heap.size, 1, none⟩ = some (.slice (some ⟨ax1_1, 0, none⟩) n1_1 n1_1) ∧ w'.cell? ⟨w5.heap.size, 2, none⟩ = some (.slice (some ⟨ax1_2, 0, none⟩) n1_2 n1_2) ∧ w'.cell? ⟨w5.heap.size, 3, none⟩ = some (.int .i64 p1_3) ∧ w'.cell? ⟨w5.heap.size, 4, none⟩ = some (.int .i64 p1_4) ∧ w'.cell? ⟨w5.heap.size, 5, none⟩ = some (.int .i64 p1_5) ∧ w'.cell? ⟨w.heap.size + 1, 0, none⟩ = some (.slice A1_0 n1_0 c1_0) ∧ w'.cell? ⟨w.heap.size + 1, 1, none⟩ = some (.slice A1_1 n1_1 c1_1) ∧ w'.cell? ⟨w.heap.size + 1, 2, none⟩ = some (.slice A1_2 n1_2 c1_2) ∧ w'.cell? ⟨w.heap.size + 1, 3, none⟩ = some (.int .i64 p1_3) ∧ w'.cell? ⟨w.heap.size + 1, 4, none⟩ = some (.int .i64 p1_4) ∧ w'.cell? ⟨w.heap.size + 1, 5, none⟩ = some (.int .i64 p1_5))
    (first | exact ⟨(Below.refl _ _).drew, by1_0, by1_1, by1_2, by1_3, by1_4, by1_5, bx1_0, bx1_1, bx1_2, bx1_3, bx1_4, bx1_5⟩ | exact And.imp (keepS0 ha1) (And.imp (keepC ha1) (And.imp (keepC ha1) (And.imp (keepC ha1) (And.imp (keepC ha1) (And.imp (keepC ha1) (And.imp (keepC ha1) (And.imp (keepC ha1) (And.imp (keepC ha1) (And.imp (keepC ha1) (And.imp (keepC ha1) (And.imp (keepC ha1) (keepC ha1)))))))))))) (by assumption) | exact And.imp (keepS0 ha2) (And.imp (keepC ha2) (And.imp (keepC ha2) (And.imp (keepC ha2) (And.imp (keepC ha2) (And.imp (keepC ha2) (And.imp (keepC ha2) (And.imp (keepC ha2) (And.imp (keepC ha2) (And.imp (keepC ha2) (And.imp (keepC ha2) (And.imp (keepC ha2) (keepC ha2)))))))))))) (by assumption))
    ((first | (go_at_call 28; refine (toPeak_any A1_0 n1_0 c1_0 x1_0 A1_1 n1_1 c1_1 x1_1 A1_2 n1_2 c1_2 x1_2 p1_3 p1_4 p1_5 _ ?_ ?_ ?_ g1).mono ?_; exact riS (h1_0.below hB) (by assumption); exact riS (h1_1.below hB) (by assumption); exact riS (h1_2.below hB) (by assumption); rintro e wa ⟨a0, a1, a2, rfl, oa0, oa1, oa2, ha1⟩) | (go_at_call 30; refine (eqPeak_same (some ⟨ax1_0, 0, none⟩) n1_0 n1_0 x1_0 (some ⟨ax1_1, 0, none⟩) n1_1 n1_1 x1_1 (some ⟨ax1_2, 0, none⟩) n1_2 n1_2 x1_2 p1_3 p1_4 p1_5 _ _ _ _ _ _ _ ?_ ?_ ?_ ?_ ?_ ?_ (by omega)).mono ?_; exact ox1_0.rd.below (And.left (by assumption)); exact ox1_1.rd.below (And.left (by assumption)); exact ox1_2.rd.below (And.left (by assumption)); exact oa0.rd; exact oa1.rd; exact oa2.rd; rintro e w8 ⟨rfl, ha2⟩)))
  rename_i hS
  have hb8 := hS.1
  clear hS oa0 oa1 oa2 ha1 ha2
  have s8 : w7.heap.size + 0 ≤ w8.heap.size := by have := hb8.size; first | omega | (simp at this; omega)
  replace ox0_0 := ox0_0.below hb8
  replace ox0_1 := ox0_1.below hb8
  replace ox0_2 := ox0_2.below hb8
  replace ox1_0 := ox1_0.below hb8
  replace ox1_1 := ox1_1.below hb8
  replace ox1_2 := ox1_2.below hb8
  replace bx0_0 := keepC hb8 bx0_0
  replace bx0_1 := keepC hb8 bx0_1
  replace bx0_2 := keepC hb8 bx0_2
  replace bx0_3 := keepC hb8 bx0_3
  replace bx0_4 := keepC hb8 bx0_4
  replace bx0_5 := keepC hb8 bx0_5
  replace bx1_0 := keepC hb8 bx1_0
  replace bx1_1 := keepC hb8 bx1_1
  replace bx1_2 := keepC hb8 bx1_2
  replace bx1_3 := keepC hb8 bx1_3
  replace bx1_4 := keepC hb8 bx1_4
  replace bx1_5 := keepC hb8 bx1_5
  replace by0_0 := keepC hb8 by0_0
  replace by0_1 := keepC hb8 by0_1
  replace by0_2 := keepC hb8 by0_2
  replace by0_3 := keepC hb8 by0_3
  replace by0_4 := keepC hb8 by0_4
  replace by0_5 := keepC hb8 by0_5
  replace by1_0 := keepC hb8 by1_0
  replace by1_1 := keepC hb8 by1_1
  replace by1_2 := keepC hb8 by1_2
  replace by1_3 := keepC hb8 by1_3
  replace by1_4 := keepC hb8 by1_4
  replace by1_5 := keepC hb8 by1_5
  replace hB : Below w.heap.size w w8 := below_then hB hb8 (by have := hB.size; simp <;> omega)
  clear hb8
  replace sy0 : w4.heap.size < w8.heap.size := by omega
  replace sb1 : w.heap.size + 1 < w8.heap.size := by omega
  replace sy1 : w5.heap.size < w8.heap.size := by omega
  go_wp2_with fail
  go_ret
  exact ⟨rfl, hB⟩

theorem own : ownKnob Try.prog.godebug = none := by kernel_rfl
theorem laidOut : laidOutB Try.prog = true := by kernel_rfl

set_option maxRecDepth 100000 in
theorem lifted (os : Os) (started : os.Started) (H : Type) (enc : TypeId × Value → H) :
    ReturnsInHanded {} Try.checked os 9 .any (Rows.fnExactSamePeakSpec.pre6 enc Try.prog Try.f9 Rows.fnExactSamePeakRow.domain false) (Rows.fnExactSamePeakSpec.post enc Try.prog Try.f9 false true false false) := by
  refine returnsInHanded_of_change (C := Try.checked) own started (by kernel_rfl) Try.func9
    (ChangeSpec.witness6 (enc := enc) (C := Try.checked) false ⟨#[], #[.agg #[.slice none 0 0, .slice none 0 0, .slice none 0 0, .int .i64 0, .int .i64 0, .int .i64 0], .agg #[.slice none 0 0, .slice none 0 0, .slice none 0 0, .int .i64 0, .int .i64 0, .int .i64 0]], []⟩ 8 (by kernel_rfl) (by kernel_rfl) (by kernel_rfl) (by kernel_rfl)) ?_
  intro W base args ds gs before hval0 hW hcnd _
  have hval : ∀ (j : Nat) t v, Try.f9.params[j]? = some t → args[j]? = some v → Value.okWide Try.prog W .any base t v := hval0
  have hW' := hW
  obtain ⟨p, q, hA0, hV, rfl, hfz, hnd⟩ := hW
  have hA : DataW.TrodAll enc Try.prog W 0 (fun _ => true) true Try.f9.params.toList args.toList ds p := hA0
  rw [Try.params9] at hA hval
  obtain ⟨v0, vs0, d0, ds0, p0, q0, hargs, rfl, rfl, h0, r0⟩ := trodAll_cons hA
  obtain ⟨v1, vs1, d1, ds1, p1, q1, rfl, rfl, rfl, h1, r1⟩ := trodAll_cons r0
  obtain ⟨rfl, rfl, rfl⟩ := trodAll_nil r1
  obtain rfl : args = #[v0, v1] := by cases args; simp_all
  obtain ⟨rfl, rfl⟩ := trodVars_none hV
  have k0 := h0
  have lt0 : ∀ x ∈ p0, x.block < W.heap.size := by obtain ⟨m, hm⟩ := k0; exact DataW.trod_lt m _ _ _ hm
  obtain ⟨A0_0, n0_0, c0_0, z0_0, A1_0, n1_0, c1_0, z1_0, A2_0, n2_0, c2_0, z2_0, p3_0, p4_0, p5_0, rfl, R0_0, M0_0, R1_0, M1_0, R2_0, M2_0⟩ := open_peak Try.underlying35 (by kernel_rfl) rfl rfl rfl rfl rfl rfl rfl rfl rfl rfl rfl rfl (by kernel_rfl) Try.underlying23 Try.underlying2 (by kernel_rfl) (hval 0 35 v0 rfl rfl) h0
  unfold maxLen at M0_0
  unfold maxLen at M1_0
  unfold maxLen at M2_0
  have k1 := h1
  have lt1 : ∀ x ∈ p1, x.block < W.heap.size := by obtain ⟨m, hm⟩ := k1; exact DataW.trod_lt m _ _ _ hm
  obtain ⟨A0_1, n0_1, c0_1, z0_1, A1_1, n1_1, c1_1, z1_1, A2_1, n2_1, c2_1, z2_1, p3_1, p4_1, p5_1, rfl, R0_1, M0_1, R1_1, M1_1, R2_1, M2_1⟩ := open_peak Try.underlying35 (by kernel_rfl) rfl rfl rfl rfl rfl rfl rfl rfl rfl rfl rfl rfl (by kernel_rfl) Try.underlying23 Try.underlying2 (by kernel_rfl) (hval 1 35 v1 rfl rfl) h1
  unfold maxLen at M0_1
  unfold maxLen at M1_1
  unfold maxLen at M2_1
  clear hA0 hval0
  refine (walk A0_0 n0_0 c0_0 z0_0 A1_0 n1_0 c1_0 z1_0 A2_0 n2_0 c2_0 z2_0 p3_0 p4_0 p5_0 A0_1 n0_1 c0_1 z0_1 A1_1 n1_1 c1_1 z1_1 A2_1 n2_1 c2_1 z2_1 p3_1 p4_1 p5_1 W R0_0 R1_0 R2_0 R0_1 R1_1 R2_1 (by omega) (by omega) (by omega) (by omega) (by omega) (by omega)).mono fun e W' ⟨he, bel⟩ => ?_
  subst he
  exact ⟨_, rfl, _, _, _, [], _, [], hW', trodAll_mk1 (shut_bool Try.underlying4 _), (trodAll_cons_mk (Below.trod laidOut (by kernel_rfl) (of_decide_eq_true (by kernel_rfl)) k0 bel lt0) (trodAll_cons_mk (Below.trod laidOut (by kernel_rfl) (of_decide_eq_true (by kernel_rfl)) k1 bel lt1) trodAll_mk0)), rfl, bel.frame _, fun h => by cases h⟩

theorem over : Rows.fnExactSamePeakRow.holds Try.pinned (OpenSpec.ofChange Rows.fnExactSamePeakSpec) :=
  OpenClaim.holds_of_wide 9 Try.f9 rfl rfl rfl rfl rfl rfl rfl ⟨rfl, rfl, rfl, rfl, rfl⟩ rfl rfl rfl rfl rfl (by kernel_rfl) Try.func9 (by kernel_rfl)
    (of_decide_eq_true (by kernel_rfl)) (by unfold Func.isWrapper; first | (rw [if_pos (by decide +kernel)]; kernel_rfl) | (rw [if_neg (by decide +kernel)]; exact ⟨rfl, rfl⟩))
    (fun os started H enc _ => lifted os started H enc)

theorem proved : Rows.FnExactSamePeakSaid := over
end Go.Proofs.Ytlleldidkchicaa.lSamePeak
