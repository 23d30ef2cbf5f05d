/- The statement FnExactPeakAt: whatever the input, it returns true and leaves its arguments alone. No conditions. -/
import Derived.Test.YtcjgcopkeeiicaaPkT
import Derived.Test.YtcjgcopkeeiicaaPkJ
import Derived.Test.YtcjgcopkeeiicaaMarkY
import Derived.Test.YtcjgcopkeeiicaaOpenY
import Derived.Test.YtcjgcopkeeiicaaRows
import Derived.Deep.RegionHeld3
namespace Go.Proofs.Ytcjgcopkeeiicaa.lPeakAt
open Go.RowKit Go.ChangeShapes Go.WideShapes Go.ChangeAt
open Go.ChangeMaps (open_string shut_string)
set_option linter.unusedVariables false
set_option linter.unusedSimpArgs false

theorem belA {W w : World} {o : Obj} (h : Below W.heap.size W w) : Below W.heap.size W (w.alloc o) := h.alloc h.size o
theorem belR {W w : World} {o o2 : Obj} (hs : W.heap.size ≤ w.heap.size) (h : Below W.heap.size W (w.alloc o)) : Below W.heap.size W (w.alloc o2) :=
  (show Below W.heap.size W w from ⟨h.os, h.tape, h.output, hs, fun k hk => (Below.heap_alloc w o k (by omega)).symm.trans (h.block k hk)⟩).alloc hs o2

set_option maxHeartbeats 8000000 in
set_option maxRecDepth 100000 in
theorem walk (A0_0 : Option Addr) (n0_0 c0_0 : Nat) (x0_0 : List Int) (A0_1 : Option Addr) (n0_1 c0_1 : Nat) (x0_1 : List (List Int × List Int)) (p1_0 : Int) (p2_0 : Int) (p3_0 : Int) (w : World) (h0_0 : RI w A0_0 n0_0 x0_0) (h0_1 : RU w A0_1 n0_1 x0_1) (m0_0 : n0_0 ≤ 9223372036854775807) (m0_1 : n0_1 ≤ 9223372036854775807) :
    Calls Try.prog 4 #[.agg #[.slice A0_0 n0_0 c0_0, .slice A0_1 n0_1 c0_1], .int .i64 p1_0, .int .i64 p2_0, .int .i64 p3_0] w fun e w' => e = .returned (.bool true) ∧ Below w.heap.size w w' := by
  go_enter Try.func4, Try.ntmps4
  have hB : Below w.heap.size w w := Below.refl _ _
  go_wp2_with fail
  refine (szSystem_any A0_0 n0_0 c0_0 A0_1 n0_1 c0_1 x0_1 (1048576) _ (h0_0.below (hB.alloc (by have := hB.size; simp <;> omega) _)) (h0_1.below (hB.alloc (by have := hB.size; simp <;> omega) _)) (by omega) (by omega) m0_0 m0_1).mono ?_
  rintro e w1 ⟨rfl, hb1⟩
  have s1 : w.heap.size + 1 ≤ w1.heap.size := by have := hb1.size; first | omega | (simp at this; omega)
  have bx0_0 : w1.cell? ⟨w.heap.size, 0, none⟩ = some (.slice A0_0 n0_0 c0_0) := (hb1.cell (by simp <;> omega)).trans (by simp)
  have bx0_1 : w1.cell? ⟨w.heap.size, 1, none⟩ = some (.slice A0_1 n0_1 c0_1) := (hb1.cell (by simp <;> omega)).trans (by simp)
  replace hB : Below w.heap.size w w1 := below_then (hB.alloc (by have := hB.size; simp <;> omega) _) hb1 (by have := hB.size; simp <;> omega)
  clear hb1
  have sb0 : w.heap.size < w1.heap.size := by omega
  have z0 := szF_bd (left := 1048576) (n0_0 + wtU x0_1) (by omega)
  obtain ⟨v0, e0⟩ : ∃ v, v = szF (1048576) (n0_0 + wtU x0_1) := ⟨_, rfl⟩
  rw [← e0] at z0 ⊢
  clear e0
  by_cases q0 : v0 < 0
  · go_wp2_with fail
    go_ret
    exact ⟨rfl, hB⟩
  have g0 : n0_0 + wtU x0_1 ≤ 1048576 := by omega
  go_wp2_with fail
  refine (toSystem_any A0_0 n0_0 c0_0 x0_0 A0_1 n0_1 c0_1 x0_1 _ (h0_0.below hB) (h0_1.below hB) g0).mono ?_
  rintro e w2 ⟨as0_0, as0_1, rfl, os0_0, os0_1, hb2⟩
  have s2 : w1.heap.size + 0 ≤ w2.heap.size := by have := hb2.size; first | omega | (simp at this; omega)
  replace bx0_0 := keepC hb2 bx0_0
  replace bx0_1 := keepC hb2 bx0_1
  replace hB : Below w.heap.size w w2 := below_then hB hb2 (by have := hB.size; simp <;> omega)
  clear hb2
  replace sb0 : w.heap.size < w2.heap.size := by omega
  replace os0_0 : OX w2 (w1.heap.size) w2.heap.size (some ⟨as0_0, 0, none⟩) n0_0 n0_0 x0_0 := os0_0.hi_ (by simp)
  replace os0_1 : OU w2 (w1.heap.size) w2.heap.size (some ⟨as0_1, 0, none⟩) n0_1 n0_1 x0_1 := os0_1.hi_ (by simp)
  go_wp2_with fail
  refine (S_PeakAt (some ⟨as0_0, 0, none⟩) n0_0 n0_0 x0_0 (some ⟨as0_1, 0, none⟩) n0_1 n0_1 x0_1 p1_0 p2_0 p3_0 _ os0_0.rd os0_1.rd g0).mono ?_
  rintro e w3 ⟨Aw_0, cw_0, Aw_1, cw_1, Aw_2, cw_2, rfl, ow_0, ow_1, ow_2, new1, new2, new3, hb3⟩
  have s3 : w2.heap.size + 0 ≤ w3.heap.size := by have := hb3.size; first | omega | (simp at this; omega)
  replace os0_0 := os0_0.below hb3
  replace os0_1 := os0_1.below hb3
  replace bx0_0 := keepC hb3 bx0_0
  replace bx0_1 := keepC hb3 bx0_1
  replace hB : Below w.heap.size w w3 := below_then hB hb3 (by have := hB.size; simp <;> omega)
  clear hb3
  replace sb0 : w.heap.size < w3.heap.size := by omega
  replace ow_0 := ow_0.hi_ (Nat.le_refl _)
  replace ow_1 := ow_1.hi_ (Nat.le_refl _)
  replace ow_2 := ow_2.hi_ (Nat.le_refl _)
  clear new1 new2 new3
  clear os0_0
  clear os0_1
  go_wp2_with fail
  refine (toSystem_m A0_0 n0_0 c0_0 x0_0 A0_1 n0_1 c0_1 x0_1 _ (h0_0.below (hB.alloc (by have := hB.size; simp <;> omega) _)) (h0_1.below (hB.alloc (by have := hB.size; simp <;> omega) _)) g0).mono ?_
  rintro e w4 ⟨ax0_0, ax0_1, mid, rfl, ox0_0, hm1, hm2, ox0_1, hb4⟩
  have s4 : w3.heap.size + 1 ≤ w4.heap.size := by have := hb4.size; first | omega | (simp at this; omega)
  replace ow_0 := (ow_0.below ((Below.refl _ _).alloc (Nat.le_refl _) _)).below hb4
  replace ow_1 := (ow_1.below ((Below.refl _ _).alloc (Nat.le_refl _) _)).below hb4
  replace ow_2 := (ow_2.below ((Below.refl _ _).alloc (Nat.le_refl _) _)).below hb4
  replace bx0_0 := keepC hb4 (keepC ((Below.refl _ _).alloc (Nat.le_refl _) _) bx0_0)
  replace bx0_1 := keepC hb4 (keepC ((Below.refl _ _).alloc (Nat.le_refl _) _) bx0_1)
  have bw_0 : w4.cell? ⟨w3.heap.size, 0, none⟩ = some (.slice Aw_0 (V_PeakAt x0_0 x0_1 p1_0 p2_0 p3_0).1.1.length cw_0) := (hb4.cell (by simp <;> omega)).trans (by simp)
  have bw_1 : w4.cell? ⟨w3.heap.size, 1, none⟩ = some (.slice Aw_1 (V_PeakAt x0_0 x0_1 p1_0 p2_0 p3_0).1.2.1.length cw_1) := (hb4.cell (by simp <;> omega)).trans (by simp)
  have bw_2 : w4.cell? ⟨w3.heap.size, 2, none⟩ = some (.slice Aw_2 (V_PeakAt x0_0 x0_1 p1_0 p2_0 p3_0).1.2.2.length cw_2) := (hb4.cell (by simp <;> omega)).trans (by simp)
  have bw_3 : w4.cell? ⟨w3.heap.size, 3, none⟩ = some (.int .i64 (pkI (V_PeakAt x0_0 x0_1 p1_0 p2_0 p3_0) p2_0)) := (hb4.cell (by simp <;> omega)).trans (by simp)
  have bw_4 : w4.cell? ⟨w3.heap.size, 4, none⟩ = some (.int .i64 (pkI (V_PeakAt x0_0 x0_1 p1_0 p2_0 p3_0) p3_0)) := (hb4.cell (by simp <;> omega)).trans (by simp)
  have bw_5 : w4.cell? ⟨w3.heap.size, 5, none⟩ = some (.int .i64 (pkI (V_PeakAt x0_0 x0_1 p1_0 p2_0 p3_0) p1_0)) := (hb4.cell (by simp <;> omega)).trans (by simp)
  replace hB : Below w.heap.size w w4 := below_then (hB.alloc (by have := hB.size; simp <;> omega) _) hb4 (by have := hB.size; simp <;> omega)
  clear hb4
  replace sb0 : w.heap.size < w4.heap.size := by omega
  have hhw : w3.heap.size < w4.heap.size := by omega
  replace ox0_0 : OX w4 (w3.heap.size + 1) w4.heap.size (some ⟨ax0_0, 0, none⟩) n0_0 n0_0 x0_0 := ox0_0.hi_ (by simp)
  (try simp only [World.size_alloc] at hm2)
  replace ox0_1 : OU w4 mid w4.heap.size (some ⟨ax0_1, 0, none⟩) n0_1 n0_1 x0_1 := ox0_1.hi_ (by simp)
  go_wp2_with fail
  refine (I_PeakAt (some ⟨ax0_0, 0, none⟩) n0_0 n0_0 x0_0 (some ⟨ax0_1, 0, none⟩) n0_1 n0_1 x0_1 p1_0 p2_0 p3_0 _ (ox0_0.rd.below ((Below.refl _ _).alloc (Nat.le_refl _) _)) (ox0_1.rd.below ((Below.refl _ _).alloc (Nat.le_refl _) _)) g0).mono ?_
  rintro e w5 ⟨Ag_0, cg_0, Ag_1, cg_1, Ag_2, cg_2, rfl, og_0, og_1, og_2, neg1, neg2, neg3, hb5⟩
  have s5 : w4.heap.size + 1 ≤ w5.heap.size := by have := hb5.size; first | omega | (simp at this; omega)
  replace ow_0 := (ow_0.below ((Below.refl _ _).alloc (Nat.le_refl _) _)).below hb5
  replace ow_1 := (ow_1.below ((Below.refl _ _).alloc (Nat.le_refl _) _)).below hb5
  replace ow_2 := (ow_2.below ((Below.refl _ _).alloc (Nat.le_refl _) _)).below hb5
  replace ox0_0 := (ox0_0.below ((Below.refl _ _).alloc (Nat.le_refl _) _)).below hb5
  replace ox0_1 := (ox0_1.below ((Below.refl _ _).alloc (Nat.le_refl _) _)).below hb5
  replace bx0_0 := keepC hb5 (keepC ((Below.refl _ _).alloc (Nat.le_refl _) _) bx0_0)
  replace bx0_1 := keepC hb5 (keepC ((Below.refl _ _).alloc (Nat.le_refl _) _) bx0_1)
  replace bw_0 := keepC hb5 (keepC ((Below.refl _ _).alloc (Nat.le_refl _) _) bw_0)
  replace bw_1 := keepC hb5 (keepC ((Below.refl _ _).alloc (Nat.le_refl _) _) bw_1)
  replace bw_2 := keepC hb5 (keepC ((Below.refl _ _).alloc (Nat.le_refl _) _) bw_2)
  replace bw_3 := keepC hb5 (keepC ((Below.refl _ _).alloc (Nat.le_refl _) _) bw_3)
  replace bw_4 := keepC hb5 (keepC ((Below.refl _ _).alloc (Nat.le_refl _) _) bw_4)
  replace bw_5 := keepC hb5 (keepC ((Below.refl _ _).alloc (Nat.le_refl _) _) bw_5)
  have by0_0 : w5.cell? ⟨w4.heap.size, 0, none⟩ = some (.slice (some ⟨ax0_0, 0, none⟩) n0_0 n0_0) := (hb5.cell (by simp <;> omega)).trans (by simp)
  have by0_1 : w5.cell? ⟨w4.heap.size, 1, none⟩ = some (.slice (some ⟨ax0_1, 0, none⟩) n0_1 n0_1) := (hb5.cell (by simp <;> omega)).trans (by simp)
  replace hB : Below w.heap.size w w5 := below_then (hB.alloc (by have := hB.size; simp <;> omega) _) hb5 (by have := hB.size; simp <;> omega)
  clear hb5
  replace sb0 : w.heap.size < w5.heap.size := by omega
  replace hhw : w3.heap.size < w5.heap.size := by omega
  replace og_0 : OX w5 (w4.heap.size + 1) w5.heap.size Ag_0 (V_PeakAt x0_0 x0_1 p1_0 p2_0 p3_0).1.1.length cg_0 (V_PeakAt x0_0 x0_1 p1_0 p2_0 p3_0).1.1 := og_0.hi_ (by simp)
  replace og_1 : OX w5 (w4.heap.size + 1) w5.heap.size Ag_1 (V_PeakAt x0_0 x0_1 p1_0 p2_0 p3_0).1.2.1.length cg_1 (V_PeakAt x0_0 x0_1 p1_0 p2_0 p3_0).1.2.1 := og_1.hi_ (by simp)
  replace og_2 : OX w5 (w4.heap.size + 1) w5.heap.size Ag_2 (V_PeakAt x0_0 x0_1 p1_0 p2_0 p3_0).1.2.2.length cg_2 (V_PeakAt x0_0 x0_1 p1_0 p2_0 p3_0).1.2.2 := og_2.hi_ (by simp)
  go_wp2_with fail
  refine (eqPeak_same Ag_0 _ cg_0 (V_PeakAt x0_0 x0_1 p1_0 p2_0 p3_0).1.1 Ag_1 _ cg_1 (V_PeakAt x0_0 x0_1 p1_0 p2_0 p3_0).1.2.1 Ag_2 _ cg_2 (V_PeakAt x0_0 x0_1 p1_0 p2_0 p3_0).1.2.2 (pkI (V_PeakAt x0_0 x0_1 p1_0 p2_0 p3_0) p2_0) (pkI (V_PeakAt x0_0 x0_1 p1_0 p2_0 p3_0) p3_0) (pkI (V_PeakAt x0_0 x0_1 p1_0 p2_0 p3_0) p1_0) Aw_0 cw_0 Aw_1 cw_1 Aw_2 cw_2 _ (og_0.rd.below ((Below.refl _ _).alloc (Nat.le_refl _) _)) (og_1.rd.below ((Below.refl _ _).alloc (Nat.le_refl _) _)) (og_2.rd.below ((Below.refl _ _).alloc (Nat.le_refl _) _)) (ow_0.rd.below ((Below.refl _ _).alloc (Nat.le_refl _) _)) (ow_1.rd.below ((Below.refl _ _).alloc (Nat.le_refl _) _)) (ow_2.rd.below ((Below.refl _ _).alloc (Nat.le_refl _) _)) (by have := bd_PeakAt x0_0 x0_1 p1_0 p2_0 p3_0; omega)).mono ?_
  rintro e w6 ⟨rfl, hb6⟩
  have s6 : w5.heap.size + 1 ≤ w6.heap.size := by have := hb6.size; first | omega | (simp at this; omega)
  replace ow_0 := (ow_0.below ((Below.refl _ _).alloc (Nat.le_refl _) _)).below hb6
  replace ow_1 := (ow_1.below ((Below.refl _ _).alloc (Nat.le_refl _) _)).below hb6
  replace ow_2 := (ow_2.below ((Below.refl _ _).alloc (Nat.le_refl _) _)).below hb6
  replace ox0_0 := (ox0_0.below ((Below.refl _ _).alloc (Nat.le_refl _) _)).below hb6
  replace ox0_1 := (ox0_1.below ((Below.refl _ _).alloc (Nat.le_refl _) _)).below hb6
  replace og_0 := (og_0.below ((Below.refl _ _).alloc (Nat.le_refl _) _)).below hb6
  replace og_1 := (og_1.below ((Below.refl _ _).alloc (Nat.le_refl _) _)).below hb6
  replace og_2 := (og_2.below ((Below.refl _ _).alloc (Nat.le_refl _) _)).below hb6
  replace bx0_0 := keepC hb6 (keepC ((Below.refl _ _).alloc (Nat.le_refl _) _) bx0_0)
  replace bx0_1 := keepC hb6 (keepC ((Below.refl _ _).alloc (Nat.le_refl _) _) bx0_1)
  replace bw_0 := keepC hb6 (keepC ((Below.refl _ _).alloc (Nat.le_refl _) _) bw_0)
  replace bw_1 := keepC hb6 (keepC ((Below.refl _ _).alloc (Nat.le_refl _) _) bw_1)
  replace bw_2 := keepC hb6 (keepC ((Below.refl _ _).alloc (Nat.le_refl _) _) bw_2)
  replace bw_3 := keepC hb6 (keepC ((Below.refl _ _).alloc (Nat.le_refl _) _) bw_3)
  replace bw_4 := keepC hb6 (keepC ((Below.refl _ _).alloc (Nat.le_refl _) _) bw_4)
  replace bw_5 := keepC hb6 (keepC ((Below.refl _ _).alloc (Nat.le_refl _) _) bw_5)
  replace by0_0 := keepC hb6 (keepC ((Below.refl _ _).alloc (Nat.le_refl _) _) by0_0)
  replace by0_1 := keepC hb6 (keepC ((Below.refl _ _).alloc (Nat.le_refl _) _) by0_1)
  have bg_0 : w6.cell? ⟨w5.heap.size, 0, none⟩ = some (.slice Ag_0 (V_PeakAt x0_0 x0_1 p1_0 p2_0 p3_0).1.1.length cg_0) := (hb6.cell (by simp <;> omega)).trans (by simp)
  have bg_1 : w6.cell? ⟨w5.heap.size, 1, none⟩ = some (.slice Ag_1 (V_PeakAt x0_0 x0_1 p1_0 p2_0 p3_0).1.2.1.length cg_1) := (hb6.cell (by simp <;> omega)).trans (by simp)
  have bg_2 : w6.cell? ⟨w5.heap.size, 2, none⟩ = some (.slice Ag_2 (V_PeakAt x0_0 x0_1 p1_0 p2_0 p3_0).1.2.2.length cg_2) := (hb6.cell (by simp <;> omega)).trans (by simp)
  have bg_3 : w6.cell? ⟨w5.heap.size, 3, none⟩ = some (.int .i64 (pkI (V_PeakAt x0_0 x0_1 p1_0 p2_0 p3_0) p2_0)) := (hb6.cell (by simp <;> omega)).trans (by simp)
  have bg_4 : w6.cell? ⟨w5.heap.size, 4, none⟩ = some (.int .i64 (pkI (V_PeakAt x0_0 x0_1 p1_0 p2_0 p3_0) p3_0)) := (hb6.cell (by simp <;> omega)).trans (by simp)
  have bg_5 : w6.cell? ⟨w5.heap.size, 5, none⟩ = some (.int .i64 (pkI (V_PeakAt x0_0 x0_1 p1_0 p2_0 p3_0) p1_0)) := (hb6.cell (by simp <;> omega)).trans (by simp)
  replace hB : Below w.heap.size w w6 := below_then (hB.alloc (by have := hB.size; simp <;> omega) _) hb6 (by have := hB.size; simp <;> omega)
  clear hb6
  replace sb0 : w.heap.size < w6.heap.size := by omega
  replace hhw : w3.heap.size < w6.heap.size := by omega
  have hhg : w5.heap.size < w6.heap.size := by omega
  go_wp2_with fail
  go_region_held3 (fun w' => Below w6.heap.size w6 w' ∧ w'.cell? ⟨w4.heap.size, 0, none⟩ = some (.slice (some ⟨ax0_0, 0, none⟩) n0_0 n0_0) ∧ w'.cell? ⟨w4.heap.size, 1, none⟩ = some (.slice (some ⟨ax0_1, 0, none⟩) n0_1 n0_1) ∧ w'.cell? ⟨w.heap.size, 0, none⟩ = some (.slice A0_0 n0_0 c0_0) ∧ w'.cell? ⟨w.heap.size, 1, none⟩ = some (.slice A0_1 n0_1 c0_1))
    (first | exact ⟨(Below.refl _ _).drew, by0_0, by0_1, bx0_0, bx0_1⟩ | exact keepS4 ha1 (by assumption) | exact keepS4 ha2 (by assumption))
    ((first | (go_at_call 7; refine (toSystem_any A0_0 n0_0 c0_0 x0_0 A0_1 n0_1 c0_1 x0_1 _ ?_ ?_ g0).mono ?_; exact riS (h0_0.below hB) (by assumption); exact (h0_1.below hB).below (And.left (by assumption)); rintro e wa ⟨a0, a1, rfl, oa0, oa1, ha1⟩) | (go_at_call 10; refine (eqSystem_same (some ⟨ax0_0, 0, none⟩) n0_0 n0_0 x0_0 (some ⟨ax0_1, 0, none⟩) n0_1 n0_1 x0_1 _ _ _ _ _ ?_ ?_ ?_ ?_ (by omega)).mono ?_; exact ox0_0.rd.below (And.left (by assumption)); exact ox0_1.rd.below (And.left (by assumption)); exact oa0.rd; exact oa1.rd; rintro e w7 ⟨rfl, ha2⟩)))
  rename_i hS
  have hb7 := hS.1
  clear hS oa0 oa1 ha1 ha2
  have s7 : w6.heap.size + 0 ≤ w7.heap.size := by have := hb7.size; first | omega | (simp at this; omega)
  replace ow_0 := ow_0.below hb7
  replace ow_1 := ow_1.below hb7
  replace ow_2 := ow_2.below hb7
  replace ox0_0 := ox0_0.below hb7
  replace ox0_1 := ox0_1.below hb7
  replace og_0 := og_0.below hb7
  replace og_1 := og_1.below hb7
  replace og_2 := og_2.below hb7
  replace bx0_0 := keepC hb7 bx0_0
  replace bx0_1 := keepC hb7 bx0_1
  replace bw_0 := keepC hb7 bw_0
  replace bw_1 := keepC hb7 bw_1
  replace bw_2 := keepC hb7 bw_2
  replace bw_3 := keepC hb7 bw_3
  replace bw_4 := keepC hb7 bw_4
  replace bw_5 := keepC hb7 bw_5
  replace by0_0 := keepC hb7 by0_0
  replace by0_1 := keepC hb7 by0_1
  replace bg_0 := keepC hb7 bg_0
  replace bg_1 := keepC hb7 bg_1
  replace bg_2 := keepC hb7 bg_2
  replace bg_3 := keepC hb7 bg_3
  replace bg_4 := keepC hb7 bg_4
  replace bg_5 := keepC hb7 bg_5
  replace hB : Below w.heap.size w w7 := below_then hB hb7 (by have := hB.size; simp <;> omega)
  clear hb7
  replace sb0 : w.heap.size < w7.heap.size := by omega
  replace hhw : w3.heap.size < w7.heap.size := by omega
  replace hhg : w5.heap.size < w7.heap.size := by omega
  have sr0_1 := sumU_le x0_1
  have sn0_1 : n0_1 ≤ 1048576 := by have := ox0_1.1; unfold wtU at g0; omega
  go_wp2_with fail
  have mk8 := markSystem_any _ mid _ (some ⟨ax0_0, 0, none⟩) n0_0 n0_0 x0_0 (some ⟨ax0_1, 0, none⟩) n0_1 n0_1 x0_1 (1) _ ox0_0 ox0_1 (fun b hb => by simp [blk] at hb; omega) hm2 (by omega) (by omega) sn0_1
  refine mk8.mono ?_
  clear mk8
  rintro e w8 ⟨rfl, _, _, ho8⟩
  have s8 : w7.heap.size ≤ w8.heap.size := ho8.size
  replace ow_0 := ow_0.only ho8 (by first | omega | (dsimp only; omega))
  replace ow_1 := ow_1.only ho8 (by first | omega | (dsimp only; omega))
  replace ow_2 := ow_2.only ho8 (by first | omega | (dsimp only; omega))
  replace og_0 := og_0.only ho8 (by first | omega | (dsimp only; omega))
  replace og_1 := og_1.only ho8 (by first | omega | (dsimp only; omega))
  replace og_2 := og_2.only ho8 (by first | omega | (dsimp only; omega))
  replace bx0_0 := keepO ho8 (by first | omega | (dsimp only; omega)) bx0_0
  replace bx0_1 := keepO ho8 (by first | omega | (dsimp only; omega)) bx0_1
  replace bw_0 := keepO ho8 (by first | omega | (dsimp only; omega)) bw_0
  replace bw_1 := keepO ho8 (by first | omega | (dsimp only; omega)) bw_1
  replace bw_2 := keepO ho8 (by first | omega | (dsimp only; omega)) bw_2
  replace bw_3 := keepO ho8 (by first | omega | (dsimp only; omega)) bw_3
  replace bw_4 := keepO ho8 (by first | omega | (dsimp only; omega)) bw_4
  replace bw_5 := keepO ho8 (by first | omega | (dsimp only; omega)) bw_5
  replace by0_0 := keepO ho8 (by first | omega | (dsimp only; omega)) by0_0
  replace by0_1 := keepO ho8 (by first | omega | (dsimp only; omega)) by0_1
  replace bg_0 := keepO ho8 (by first | omega | (dsimp only; omega)) bg_0
  replace bg_1 := keepO ho8 (by first | omega | (dsimp only; omega)) bg_1
  replace bg_2 := keepO ho8 (by first | omega | (dsimp only; omega)) bg_2
  replace bg_3 := keepO ho8 (by first | omega | (dsimp only; omega)) bg_3
  replace bg_4 := keepO ho8 (by first | omega | (dsimp only; omega)) bg_4
  replace bg_5 := keepO ho8 (by first | omega | (dsimp only; omega)) bg_5
  replace hB : Below w.heap.size w w8 := hB.trans (ho8.below (by first | omega | (dsimp only; omega)) hB.size)
  clear ho8
  replace hhw : w3.heap.size < w8.heap.size := by omega
  replace hhg : w5.heap.size < w8.heap.size := by omega
  clear ox0_0
  clear ox0_1
  have kn : decide ((1 + ↑(n0_0 + sumU x0_1) : Int) < 0) = false := by simp; omega
  go_wp2_with fail
  refine (eqPeak_same Ag_0 _ cg_0 (V_PeakAt x0_0 x0_1 p1_0 p2_0 p3_0).1.1 Ag_1 _ cg_1 (V_PeakAt x0_0 x0_1 p1_0 p2_0 p3_0).1.2.1 Ag_2 _ cg_2 (V_PeakAt x0_0 x0_1 p1_0 p2_0 p3_0).1.2.2 (pkI (V_PeakAt x0_0 x0_1 p1_0 p2_0 p3_0) p2_0) (pkI (V_PeakAt x0_0 x0_1 p1_0 p2_0 p3_0) p3_0) (pkI (V_PeakAt x0_0 x0_1 p1_0 p2_0 p3_0) p1_0) Aw_0 cw_0 Aw_1 cw_1 Aw_2 cw_2 _ og_0.rd og_1.rd og_2.rd ow_0.rd ow_1.rd ow_2.rd (by have := bd_PeakAt x0_0 x0_1 p1_0 p2_0 p3_0; omega)).mono ?_
  rintro e w9 ⟨rfl, hb9⟩
  have s9 : w8.heap.size + 0 ≤ w9.heap.size := by have := hb9.size; first | omega | (simp at this; omega)
  replace ow_0 := ow_0.below hb9
  replace ow_1 := ow_1.below hb9
  replace ow_2 := ow_2.below hb9
  replace og_0 := og_0.below hb9
  replace og_1 := og_1.below hb9
  replace og_2 := og_2.below hb9
  replace bx0_0 := keepC hb9 bx0_0
  replace bx0_1 := keepC hb9 bx0_1
  replace bw_0 := keepC hb9 bw_0
  replace bw_1 := keepC hb9 bw_1
  replace bw_2 := keepC hb9 bw_2
  replace bw_3 := keepC hb9 bw_3
  replace bw_4 := keepC hb9 bw_4
  replace bw_5 := keepC hb9 bw_5
  replace by0_0 := keepC hb9 by0_0
  replace by0_1 := keepC hb9 by0_1
  replace bg_0 := keepC hb9 bg_0
  replace bg_1 := keepC hb9 bg_1
  replace bg_2 := keepC hb9 bg_2
  replace bg_3 := keepC hb9 bg_3
  replace bg_4 := keepC hb9 bg_4
  replace bg_5 := keepC hb9 bg_5
  replace hB : Below w.heap.size w w9 := below_then hB hb9 (by have := hB.size; simp <;> omega)
  clear hb9
  replace sb0 : w.heap.size < w9.heap.size := by omega
  replace hhw : w3.heap.size < w9.heap.size := by omega
  replace hhg : w5.heap.size < w9.heap.size := by omega
  have bdl := bd_PeakAt x0_0 x0_1 p1_0 p2_0 p3_0
  go_wp2_with fail
  have mk10 := markPeak_any _ _ Ag_0 _ cg_0 (V_PeakAt x0_0 x0_1 p1_0 p2_0 p3_0).1.1 Ag_1 _ cg_1 (V_PeakAt x0_0 x0_1 p1_0 p2_0 p3_0).1.2.1 Ag_2 _ cg_2 (V_PeakAt x0_0 x0_1 p1_0 p2_0 p3_0).1.2.2 (pkI (V_PeakAt x0_0 x0_1 p1_0 p2_0 p3_0) p2_0) (pkI (V_PeakAt x0_0 x0_1 p1_0 p2_0 p3_0) p3_0) (pkI (V_PeakAt x0_0 x0_1 p1_0 p2_0 p3_0) p1_0) 1 _ og_0 og_1 og_2 neg1 neg2 neg3 (by omega) (by omega)
  refine mk10.mono ?_
  clear mk10
  rintro e w10 ⟨rfl, og_0, og_1, og_2, ho10⟩
  have s10 : w9.heap.size ≤ w10.heap.size := ho10.size
  replace ow_0 := ow_0.only ho10 (by first | omega | (dsimp only; omega))
  replace ow_1 := ow_1.only ho10 (by first | omega | (dsimp only; omega))
  replace ow_2 := ow_2.only ho10 (by first | omega | (dsimp only; omega))
  replace bx0_0 := keepO ho10 (by first | omega | (dsimp only; omega)) bx0_0
  replace bx0_1 := keepO ho10 (by first | omega | (dsimp only; omega)) bx0_1
  replace bw_0 := keepO ho10 (by first | omega | (dsimp only; omega)) bw_0
  replace bw_1 := keepO ho10 (by first | omega | (dsimp only; omega)) bw_1
  replace bw_2 := keepO ho10 (by first | omega | (dsimp only; omega)) bw_2
  replace bw_3 := keepO ho10 (by first | omega | (dsimp only; omega)) bw_3
  replace bw_4 := keepO ho10 (by first | omega | (dsimp only; omega)) bw_4
  replace bw_5 := keepO ho10 (by first | omega | (dsimp only; omega)) bw_5
  replace by0_0 := keepO ho10 (by first | omega | (dsimp only; omega)) by0_0
  replace by0_1 := keepO ho10 (by first | omega | (dsimp only; omega)) by0_1
  replace bg_0 := keepO ho10 (by first | omega | (dsimp only; omega)) bg_0
  replace bg_1 := keepO ho10 (by first | omega | (dsimp only; omega)) bg_1
  replace bg_2 := keepO ho10 (by first | omega | (dsimp only; omega)) bg_2
  replace bg_3 := keepO ho10 (by first | omega | (dsimp only; omega)) bg_3
  replace bg_4 := keepO ho10 (by first | omega | (dsimp only; omega)) bg_4
  replace bg_5 := keepO ho10 (by first | omega | (dsimp only; omega)) bg_5
  replace hB : Below w.heap.size w w10 := hB.trans (ho10.below (by first | omega | (dsimp only; omega)) hB.size)
  clear ho10
  replace hhw : w3.heap.size < w10.heap.size := by omega
  replace hhg : w5.heap.size < w10.heap.size := by omega
  go_wp2_with fail
  refine (heldPeak_any Ag_0 _ cg_0 Ag_1 _ cg_1 Ag_2 _ cg_2 (pkI (V_PeakAt x0_0 x0_1 p1_0 p2_0 p3_0) p2_0) (pkI (V_PeakAt x0_0 x0_1 p1_0 p2_0 p3_0) p3_0) (pkI (V_PeakAt x0_0 x0_1 p1_0 p2_0 p3_0) p1_0) 1 _ og_0.rd og_1.rd og_2.rd (by omega) (by omega)).mono ?_
  rintro e w11 ⟨rfl, hb11⟩
  have s11 : w10.heap.size + 0 ≤ w11.heap.size := by have := hb11.size; first | omega | (simp at this; omega)
  replace ow_0 := ow_0.below hb11
  replace ow_1 := ow_1.below hb11
  replace ow_2 := ow_2.below hb11
  replace og_0 := og_0.below hb11
  replace og_1 := og_1.below hb11
  replace og_2 := og_2.below hb11
  replace bx0_0 := keepC hb11 bx0_0
  replace bx0_1 := keepC hb11 bx0_1
  replace bw_0 := keepC hb11 bw_0
  replace bw_1 := keepC hb11 bw_1
  replace bw_2 := keepC hb11 bw_2
  replace bw_3 := keepC hb11 bw_3
  replace bw_4 := keepC hb11 bw_4
  replace bw_5 := keepC hb11 bw_5
  replace by0_0 := keepC hb11 by0_0
  replace by0_1 := keepC hb11 by0_1
  replace bg_0 := keepC hb11 bg_0
  replace bg_1 := keepC hb11 bg_1
  replace bg_2 := keepC hb11 bg_2
  replace bg_3 := keepC hb11 bg_3
  replace bg_4 := keepC hb11 bg_4
  replace bg_5 := keepC hb11 bg_5
  replace hB : Below w.heap.size w w11 := below_then hB hb11 (by have := hB.size; simp <;> omega)
  clear hb11
  replace sb0 : w.heap.size < w11.heap.size := by omega
  replace hhw : w3.heap.size < w11.heap.size := by omega
  replace hhg : w5.heap.size < w11.heap.size := by omega
  go_wp2_with fail
  refine (toSystem_any A0_0 n0_0 c0_0 x0_0 A0_1 n0_1 c0_1 x0_1 _ (h0_0.below hB) (h0_1.below hB) g0).mono ?_
  rintro e w12 ⟨at0_0, at0_1, rfl, ot0_0, ot0_1, hb12⟩
  have s12 : w11.heap.size + 0 ≤ w12.heap.size := by have := hb12.size; first | omega | (simp at this; omega)
  replace ow_0 := ow_0.below hb12
  replace ow_1 := ow_1.below hb12
  replace ow_2 := ow_2.below hb12
  replace og_0 := og_0.below hb12
  replace og_1 := og_1.below hb12
  replace og_2 := og_2.below hb12
  replace bx0_0 := keepC hb12 bx0_0
  replace bx0_1 := keepC hb12 bx0_1
  replace bw_0 := keepC hb12 bw_0
  replace bw_1 := keepC hb12 bw_1
  replace bw_2 := keepC hb12 bw_2
  replace bw_3 := keepC hb12 bw_3
  replace bw_4 := keepC hb12 bw_4
  replace bw_5 := keepC hb12 bw_5
  replace by0_0 := keepC hb12 by0_0
  replace by0_1 := keepC hb12 by0_1
  replace bg_0 := keepC hb12 bg_0
  replace bg_1 := keepC hb12 bg_1
  replace bg_2 := keepC hb12 bg_2
  replace bg_3 := keepC hb12 bg_3
  replace bg_4 := keepC hb12 bg_4
  replace bg_5 := keepC hb12 bg_5
  replace hB : Below w.heap.size w w12 := below_then hB hb12 (by have := hB.size; simp <;> omega)
  clear hb12
  replace sb0 : w.heap.size < w12.heap.size := by omega
  replace hhw : w3.heap.size < w12.heap.size := by omega
  replace hhg : w5.heap.size < w12.heap.size := by omega
  replace ot0_0 : OX w12 (w11.heap.size) w12.heap.size (some ⟨at0_0, 0, none⟩) n0_0 n0_0 x0_0 := ot0_0.hi_ (by simp)
  replace ot0_1 : OU w12 (w11.heap.size) w12.heap.size (some ⟨at0_1, 0, none⟩) n0_1 n0_1 x0_1 := ot0_1.hi_ (by simp)
  go_wp2_with fail
  refine (I_PeakAt (some ⟨at0_0, 0, none⟩) n0_0 n0_0 x0_0 (some ⟨at0_1, 0, none⟩) n0_1 n0_1 x0_1 p1_0 p2_0 p3_0 _ ot0_0.rd ot0_1.rd g0).mono ?_
  rintro e w13 ⟨Ah_0, ch_0, Ah_1, ch_1, Ah_2, ch_2, rfl, oh_0, oh_1, oh_2, neh1, neh2, neh3, hb13⟩
  have s13 : w12.heap.size + 0 ≤ w13.heap.size := by have := hb13.size; first | omega | (simp at this; omega)
  replace ow_0 := ow_0.below hb13
  replace ow_1 := ow_1.below hb13
  replace ow_2 := ow_2.below hb13
  replace og_0 := og_0.below hb13
  replace og_1 := og_1.below hb13
  replace og_2 := og_2.below hb13
  replace ot0_0 := ot0_0.below hb13
  replace ot0_1 := ot0_1.below hb13
  replace bx0_0 := keepC hb13 bx0_0
  replace bx0_1 := keepC hb13 bx0_1
  replace bw_0 := keepC hb13 bw_0
  replace bw_1 := keepC hb13 bw_1
  replace bw_2 := keepC hb13 bw_2
  replace bw_3 := keepC hb13 bw_3
  replace bw_4 := keepC hb13 bw_4
  replace bw_5 := keepC hb13 bw_5
  replace by0_0 := keepC hb13 by0_0
  replace by0_1 := keepC hb13 by0_1
  replace bg_0 := keepC hb13 bg_0
  replace bg_1 := keepC hb13 bg_1
  replace bg_2 := keepC hb13 bg_2
  replace bg_3 := keepC hb13 bg_3
  replace bg_4 := keepC hb13 bg_4
  replace bg_5 := keepC hb13 bg_5
  replace hB : Below w.heap.size w w13 := below_then hB hb13 (by have := hB.size; simp <;> omega)
  clear hb13
  replace sb0 : w.heap.size < w13.heap.size := by omega
  replace hhw : w3.heap.size < w13.heap.size := by omega
  replace hhg : w5.heap.size < w13.heap.size := by omega
  replace oh_0 := oh_0.hi_ (Nat.le_refl _)
  replace oh_1 := oh_1.hi_ (Nat.le_refl _)
  replace oh_2 := oh_2.hi_ (Nat.le_refl _)
  clear neh1 neh2 neh3
  clear ot0_0
  clear ot0_1
  go_wp2_with fail
  refine (eqPeak_same Ah_0 _ ch_0 (V_PeakAt x0_0 x0_1 p1_0 p2_0 p3_0).1.1 Ah_1 _ ch_1 (V_PeakAt x0_0 x0_1 p1_0 p2_0 p3_0).1.2.1 Ah_2 _ ch_2 (V_PeakAt x0_0 x0_1 p1_0 p2_0 p3_0).1.2.2 (pkI (V_PeakAt x0_0 x0_1 p1_0 p2_0 p3_0) p2_0) (pkI (V_PeakAt x0_0 x0_1 p1_0 p2_0 p3_0) p3_0) (pkI (V_PeakAt x0_0 x0_1 p1_0 p2_0 p3_0) p1_0) Aw_0 cw_0 Aw_1 cw_1 Aw_2 cw_2 _ (oh_0.rd.below ((Below.refl _ _).alloc (Nat.le_refl _) _)) (oh_1.rd.below ((Below.refl _ _).alloc (Nat.le_refl _) _)) (oh_2.rd.below ((Below.refl _ _).alloc (Nat.le_refl _) _)) (ow_0.rd.below ((Below.refl _ _).alloc (Nat.le_refl _) _)) (ow_1.rd.below ((Below.refl _ _).alloc (Nat.le_refl _) _)) (ow_2.rd.below ((Below.refl _ _).alloc (Nat.le_refl _) _)) (by have := bd_PeakAt x0_0 x0_1 p1_0 p2_0 p3_0; omega)).mono ?_
  rintro e w14 ⟨rfl, hb14⟩
  have s14 : w13.heap.size + 1 ≤ w14.heap.size := by have := hb14.size; first | omega | (simp at this; omega)
  replace ow_0 := (ow_0.below ((Below.refl _ _).alloc (Nat.le_refl _) _)).below hb14
  replace ow_1 := (ow_1.below ((Below.refl _ _).alloc (Nat.le_refl _) _)).below hb14
  replace ow_2 := (ow_2.below ((Below.refl _ _).alloc (Nat.le_refl _) _)).below hb14
  replace og_0 := (og_0.below ((Below.refl _ _).alloc (Nat.le_refl _) _)).below hb14
  replace og_1 := (og_1.below ((Below.refl _ _).alloc (Nat.le_refl _) _)).below hb14
  replace og_2 := (og_2.below ((Below.refl _ _).alloc (Nat.le_refl _) _)).below hb14
  replace oh_0 := (oh_0.below ((Below.refl _ _).alloc (Nat.le_refl _) _)).below hb14
  replace oh_1 := (oh_1.below ((Below.refl _ _).alloc (Nat.le_refl _) _)).below hb14
  replace oh_2 := (oh_2.below ((Below.refl _ _).alloc (Nat.le_refl _) _)).below hb14
  replace bx0_0 := keepC hb14 (keepC ((Below.refl _ _).alloc (Nat.le_refl _) _) bx0_0)
  replace bx0_1 := keepC hb14 (keepC ((Below.refl _ _).alloc (Nat.le_refl _) _) bx0_1)
  replace bw_0 := keepC hb14 (keepC ((Below.refl _ _).alloc (Nat.le_refl _) _) bw_0)
  replace bw_1 := keepC hb14 (keepC ((Below.refl _ _).alloc (Nat.le_refl _) _) bw_1)
  replace bw_2 := keepC hb14 (keepC ((Below.refl _ _).alloc (Nat.le_refl _) _) bw_2)
  replace bw_3 := keepC hb14 (keepC ((Below.refl _ _).alloc (Nat.le_refl _) _) bw_3)
  replace bw_4 := keepC hb14 (keepC ((Below.refl _ _).alloc (Nat.le_refl _) _) bw_4)
  replace bw_5 := keepC hb14 (keepC ((Below.refl _ _).alloc (Nat.le_refl _) _) bw_5)
  replace by0_0 := keepC hb14 (keepC ((Below.refl _ _).alloc (Nat.le_refl _) _) by0_0)
  replace by0_1 := keepC hb14 (keepC ((Below.refl _ _).alloc (Nat.le_refl _) _) by0_1)
  replace bg_0 := keepC hb14 (keepC ((Below.refl _ _).alloc (Nat.le_refl _) _) bg_0)
  replace bg_1 := keepC hb14 (keepC ((Below.refl _ _).alloc (Nat.le_refl _) _) bg_1)
  replace bg_2 := keepC hb14 (keepC ((Below.refl _ _).alloc (Nat.le_refl _) _) bg_2)
  replace bg_3 := keepC hb14 (keepC ((Below.refl _ _).alloc (Nat.le_refl _) _) bg_3)
  replace bg_4 := keepC hb14 (keepC ((Below.refl _ _).alloc (Nat.le_refl _) _) bg_4)
  replace bg_5 := keepC hb14 (keepC ((Below.refl _ _).alloc (Nat.le_refl _) _) bg_5)
  have bh_0 : w14.cell? ⟨w13.heap.size, 0, none⟩ = some (.slice Ah_0 (V_PeakAt x0_0 x0_1 p1_0 p2_0 p3_0).1.1.length ch_0) := (hb14.cell (by simp <;> omega)).trans (by simp)
  have bh_1 : w14.cell? ⟨w13.heap.size, 1, none⟩ = some (.slice Ah_1 (V_PeakAt x0_0 x0_1 p1_0 p2_0 p3_0).1.2.1.length ch_1) := (hb14.cell (by simp <;> omega)).trans (by simp)
  have bh_2 : w14.cell? ⟨w13.heap.size, 2, none⟩ = some (.slice Ah_2 (V_PeakAt x0_0 x0_1 p1_0 p2_0 p3_0).1.2.2.length ch_2) := (hb14.cell (by simp <;> omega)).trans (by simp)
  have bh_3 : w14.cell? ⟨w13.heap.size, 3, none⟩ = some (.int .i64 (pkI (V_PeakAt x0_0 x0_1 p1_0 p2_0 p3_0) p2_0)) := (hb14.cell (by simp <;> omega)).trans (by simp)
  have bh_4 : w14.cell? ⟨w13.heap.size, 4, none⟩ = some (.int .i64 (pkI (V_PeakAt x0_0 x0_1 p1_0 p2_0 p3_0) p3_0)) := (hb14.cell (by simp <;> omega)).trans (by simp)
  have bh_5 : w14.cell? ⟨w13.heap.size, 5, none⟩ = some (.int .i64 (pkI (V_PeakAt x0_0 x0_1 p1_0 p2_0 p3_0) p1_0)) := (hb14.cell (by simp <;> omega)).trans (by simp)
  replace hB : Below w.heap.size w w14 := below_then (hB.alloc (by have := hB.size; simp <;> omega) _) hb14 (by have := hB.size; simp <;> omega)
  clear hb14
  replace sb0 : w.heap.size < w14.heap.size := by omega
  replace hhw : w3.heap.size < w14.heap.size := by omega
  replace hhg : w5.heap.size < w14.heap.size := by omega
  have hhh : w13.heap.size < w14.heap.size := by omega
  go_wp2_with fail
  refine (heldPeak_any Ag_0 _ cg_0 Ag_1 _ cg_1 Ag_2 _ cg_2 (pkI (V_PeakAt x0_0 x0_1 p1_0 p2_0 p3_0) p2_0) (pkI (V_PeakAt x0_0 x0_1 p1_0 p2_0 p3_0) p3_0) (pkI (V_PeakAt x0_0 x0_1 p1_0 p2_0 p3_0) p1_0) 1 _ og_0.rd og_1.rd og_2.rd (by omega) (by omega)).mono ?_
  rintro e w15 ⟨rfl, hb15⟩
  have s15 : w14.heap.size + 0 ≤ w15.heap.size := by have := hb15.size; first | omega | (simp at this; omega)
  replace ow_0 := ow_0.below hb15
  replace ow_1 := ow_1.below hb15
  replace ow_2 := ow_2.below hb15
  replace og_0 := og_0.below hb15
  replace og_1 := og_1.below hb15
  replace og_2 := og_2.below hb15
  replace oh_0 := oh_0.below hb15
  replace oh_1 := oh_1.below hb15
  replace oh_2 := oh_2.below hb15
  replace bx0_0 := keepC hb15 bx0_0
  replace bx0_1 := keepC hb15 bx0_1
  replace bw_0 := keepC hb15 bw_0
  replace bw_1 := keepC hb15 bw_1
  replace bw_2 := keepC hb15 bw_2
  replace bw_3 := keepC hb15 bw_3
  replace bw_4 := keepC hb15 bw_4
  replace bw_5 := keepC hb15 bw_5
  replace by0_0 := keepC hb15 by0_0
  replace by0_1 := keepC hb15 by0_1
  replace bg_0 := keepC hb15 bg_0
  replace bg_1 := keepC hb15 bg_1
  replace bg_2 := keepC hb15 bg_2
  replace bg_3 := keepC hb15 bg_3
  replace bg_4 := keepC hb15 bg_4
  replace bg_5 := keepC hb15 bg_5
  replace bh_0 := keepC hb15 bh_0
  replace bh_1 := keepC hb15 bh_1
  replace bh_2 := keepC hb15 bh_2
  replace bh_3 := keepC hb15 bh_3
  replace bh_4 := keepC hb15 bh_4
  replace bh_5 := keepC hb15 bh_5
  replace hB : Below w.heap.size w w15 := below_then hB hb15 (by have := hB.size; simp <;> omega)
  clear hb15
  replace sb0 : w.heap.size < w15.heap.size := by omega
  replace hhw : w3.heap.size < w15.heap.size := by omega
  replace hhg : w5.heap.size < w15.heap.size := by omega
  replace hhh : w13.heap.size < w15.heap.size := by omega
  go_wp2_with fail
  go_ret
  exact ⟨rfl, hB⟩

theorem own : ownKnob Try.prog.godebug = none := by kernel_rfl
theorem laidOut : laidOutB Try.prog = true := by kernel_rfl

set_option maxRecDepth 100000 in
theorem lifted (os : Os) (started : os.Started) (H : Type) (enc : TypeId × Value → H) :
    ReturnsInHanded {} Try.checked os 4 .any (Rows.fnExactPeakAtSpec.pre6 enc Try.prog Try.f4 Rows.fnExactPeakAtRow.domain false) (Rows.fnExactPeakAtSpec.post enc Try.prog Try.f4 false true false false) := by
  refine returnsInHanded_of_change (C := Try.checked) own started (by kernel_rfl) Try.func4
    (ChangeSpec.witness6 (enc := enc) (C := Try.checked) false ⟨#[], #[.agg #[.slice none 0 0, .slice none 0 0], .int .i64 0, .int .i64 0, .int .i64 0], []⟩ 8 (by kernel_rfl) (by kernel_rfl) (by kernel_rfl) (by kernel_rfl)) ?_
  intro W base args ds gs before hval0 hW hcnd _
  have hval : ∀ (j : Nat) t v, Try.f4.params[j]? = some t → args[j]? = some v → Value.okWide Try.prog W .any base t v := hval0
  have hW' := hW
  obtain ⟨p, q, hA0, hV, rfl, hfz, hnd⟩ := hW
  have hA : DataW.TrodAll enc Try.prog W 0 (fun _ => true) true Try.f4.params.toList args.toList ds p := hA0
  rw [Try.params4] at hA hval
  obtain ⟨v0, vs0, d0, ds0, p0, q0, hargs, rfl, rfl, h0, r0⟩ := trodAll_cons hA
  obtain ⟨v1, vs1, d1, ds1, p1, q1, rfl, rfl, rfl, h1, r1⟩ := trodAll_cons r0
  obtain ⟨v2, vs2, d2, ds2, p2, q2, rfl, rfl, rfl, h2, r2⟩ := trodAll_cons r1
  obtain ⟨v3, vs3, d3, ds3, p3, q3, rfl, rfl, rfl, h3, r3⟩ := trodAll_cons r2
  obtain ⟨rfl, rfl, rfl⟩ := trodAll_nil r3
  obtain rfl : args = #[v0, v1, v2, v3] := by cases args; simp_all
  obtain ⟨rfl, rfl⟩ := trodVars_none hV
  have k0 := h0
  have lt0 : ∀ x ∈ p0, x.block < W.heap.size := by obtain ⟨m, hm⟩ := k0; exact DataW.trod_lt m _ _ _ hm
  obtain ⟨A0_0, n0_0, c0_0, z0_0, A1_0, n1_0, c1_0, z1_0, rfl, R0_0, M0_0, R1_0, M1_0⟩ := open_system Try.underlying27 Try.underlying24 Try.underlying25 Try.underlying65 (by kernel_rfl) (by kernel_rfl) (by kernel_rfl) (by kernel_rfl) (by kernel_rfl) rfl rfl rfl rfl rfl rfl rfl rfl rfl rfl Try.underlying22 Try.underlying2 (by kernel_rfl) (hval 0 27 v0 rfl rfl) h0
  unfold maxLen at M0_0
  unfold maxLen at M1_0
  obtain ⟨p1_0, rfl, rfl, rfl, w1⟩ := open_int Try.underlying2 (hval 1 2 v1 rfl rfl) h1
  obtain ⟨p2_0, rfl, rfl, rfl, w2⟩ := open_int Try.underlying2 (hval 2 2 v2 rfl rfl) h2
  obtain ⟨p3_0, rfl, rfl, rfl, w3⟩ := open_int Try.underlying2 (hval 3 2 v3 rfl rfl) h3
  clear hA0 hval0
  refine (walk A0_0 n0_0 c0_0 z0_0 A1_0 n1_0 c1_0 z1_0 p1_0 p2_0 p3_0 W R0_0 R1_0 (by omega) (by omega)).mono fun e W' ⟨he, bel⟩ => ?_
  subst he
  exact ⟨_, rfl, _, _, _, [], _, [], hW', trodAll_mk1 (shut_bool Try.underlying4 _), (trodAll_cons_mk (Below.trod laidOut (by kernel_rfl) (of_decide_eq_true (by kernel_rfl)) k0 bel lt0) (trodAll_cons_mk (shut_int Try.underlying2 w1) (trodAll_cons_mk (shut_int Try.underlying2 w2) (trodAll_cons_mk (shut_int Try.underlying2 w3) trodAll_mk0)))), rfl, bel.frame _, fun h => by cases h⟩

theorem over : Rows.fnExactPeakAtRow.holds Try.pinned (OpenSpec.ofChange Rows.fnExactPeakAtSpec) :=
  OpenClaim.holds_of_wide 4 Try.f4 rfl rfl rfl rfl rfl rfl rfl ⟨rfl, rfl, rfl, rfl, rfl⟩ rfl rfl rfl rfl rfl (by kernel_rfl) Try.func4 (by kernel_rfl)
    (of_decide_eq_true (by kernel_rfl)) (by unfold Func.isWrapper; first | (rw [if_pos (by decide +kernel)]; kernel_rfl) | (rw [if_neg (by decide +kernel)]; exact ⟨rfl, rfl⟩))
    (fun os started H enc _ => lifted os started H enc)

theorem proved : Rows.FnExactPeakAtSaid := over
end Go.Proofs.Ytcjgcopkeeiicaa.lPeakAt
