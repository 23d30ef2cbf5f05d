/- The statement FnExactTextRule: whatever the input, it returns true and leaves its arguments alone. No conditions. -/
import Derived.Test.YtlcchafcgidpeaaDoorTxtW
import Derived.Test.YtlcchafcgidpeaaDoorMarkRule
import Derived.Test.YtlcchafcgidpeaaDoorMark
import Derived.Test.YtlcchafcgidpeaaDoorRule
import Derived.Test.YtlcchafcgidpeaaDoorTerm2
import Derived.Test.YtlcchafcgidpeaaDoorOpen
import Derived.Test.YtlcchafcgidpeaaDoorRows
import Derived.Deep.RegionHeld3
import Derived.Test.YtlcchafcgidpeaaDoorTie
import Derived.Test.YtlcchafcgidpeaaDoorCards
import Derived.ProofKit
import Derived.Lay
import Derived.SevenTiedAt
import Derived.Test.YtlcchafcgidpeaaDoorCard
namespace Go.Proofs.YtlcchafcgidpeaaDoor.lTextRule
open Go.RowKit Go.ChangeShapes Go.WideShapes Go.ChangeAt
open Go.ChangeMaps (open_string shut_string)
set_option linter.unusedVariables false
set_option linter.unusedSimpArgs false

theorem belA {W w : World} {o : Obj} (h : Below W.heap.size W w) : Below W.heap.size W (w.alloc o) := h.alloc h.size o
theorem belR {W w : World} {o o2 : Obj} (hs : W.heap.size ≤ w.heap.size) (h : Below W.heap.size W (w.alloc o)) : Below W.heap.size W (w.alloc o2) :=
  (show Below W.heap.size W w from ⟨h.os, h.tape, h.output, hs, fun k hk => (Below.heap_alloc w o k (by omega)).symm.trans (h.block k hk)⟩).alloc hs o2

set_option maxHeartbeats 8000000 in
set_option maxRecDepth 100000 in
theorem walk (A0_0 : Option Addr) (n0_0 c0_0 : Nat) (x0_0 : List Int) (t1_0 : ByteArray) (w : World) (h0_0 : RI w A0_0 n0_0 x0_0) (m0_0 : n0_0 ≤ 9223372036854775807) (m1_0 : t1_0.size ≤ 9223372036854775807) (hM : ML w) :
    Calls Tryd.prog 3 #[.agg #[.slice A0_0 n0_0 c0_0], .string t1_0] w fun e w' => e = .returned (.bool true) ∧ Below w.heap.size w w' := by
  go_enter Tryd.func3, Tryd.ntmps3
  have hB : Below w.heap.size w w := Below.refl _ _
  have hML := hM.lt
  by_cases q1 : t1_0.size ≤ 1048576
  rotate_left
  · go_wp2_with fail
    go_ret
    exact ⟨rfl, (hB.alloc (by have := hB.size; simp <;> omega) _)⟩
  go_wp2_with fail
  refine (szSig_any A0_0 n0_0 c0_0 (1048576) _ (by omega) (by omega) m0_0).mono ?_
  rintro e w1 ⟨rfl, hb1⟩
  have s1 : w.heap.size + 1 ≤ w1.heap.size := by have := hb1.size; first | omega | (simp at this; omega)
  replace hM := (hM.below ((Below.refl _ _).alloc (Nat.le_refl _) _)).below hb1
  have bx0 : w1.cell? ⟨w.heap.size, 0, none⟩ = some (.slice A0_0 n0_0 c0_0) := (hb1.cell (by simp <;> omega)).trans (by simp)
  replace hB : Below w.heap.size w w1 := below_then (hB.alloc (by have := hB.size; simp <;> omega) _) hb1 (by have := hB.size; simp <;> omega)
  clear hb1
  have sb0 : w.heap.size < w1.heap.size := by omega
  have z0 := szF_bd (left := 1048576) (n0_0) (by omega)
  obtain ⟨v0, e0⟩ : ∃ v, v = szF (1048576) (n0_0) := ⟨_, rfl⟩
  rw [← e0] at z0 ⊢
  clear e0
  by_cases q0 : v0 < 0
  · go_wp2_with fail
    go_ret
    exact ⟨rfl, hB⟩
  have g0 : n0_0 ≤ 1048576 := by omega
  have g1 := q1
  go_wp2_with fail
  refine (toSig_any A0_0 n0_0 c0_0 x0_0 _ (h0_0.below hB) g0).mono ?_
  rintro e w2 ⟨as0_0, rfl, os0_0, hb2⟩
  have s2 : w1.heap.size + 0 ≤ w2.heap.size := by have := hb2.size; first | omega | (simp at this; omega)
  replace hM := hM.below hb2
  replace bx0 := keepC hb2 bx0
  replace hB : Below w.heap.size w w2 := below_then hB hb2 (by have := hB.size; simp <;> omega)
  clear hb2
  replace sb0 : w.heap.size < w2.heap.size := by omega
  replace os0_0 : OX w2 (w1.heap.size) w2.heap.size (some ⟨as0_0, 0, none⟩) n0_0 n0_0 x0_0 := os0_0.hi_ (by simp)
  go_wp2_with fail
  refine (S_TextRule (some ⟨as0_0, 0, none⟩) n0_0 n0_0 x0_0 t1_0 _ os0_0.rd g0 g1).mono ?_
  rintro e w3 ⟨Aw_0, cw_0, Aw_1, cw_1, rfl, ow_0, ow_1, new, hb3⟩
  have s3 : w2.heap.size + 0 ≤ w3.heap.size := by have := hb3.size; first | omega | (simp at this; omega)
  replace hM := hM.below hb3
  replace os0_0 := os0_0.below hb3
  replace bx0 := keepC hb3 bx0
  replace hB : Below w.heap.size w w3 := below_then hB hb3 (by have := hB.size; simp <;> omega)
  clear hb3
  replace sb0 : w.heap.size < w3.heap.size := by omega
  replace ow_0 := ow_0.hi_ (Nat.le_refl _)
  replace ow_1 := ow_1.hi_ (Nat.le_refl _)
  clear new
  clear os0_0
  go_wp2_with fail
  refine (toSig_any A0_0 n0_0 c0_0 x0_0 _ (h0_0.below (hB.alloc (by have := hB.size; simp <;> omega) _)) g0).mono ?_
  rintro e w4 ⟨ax0_0, rfl, ox0_0, hb4⟩
  have s4 : w3.heap.size + 1 ≤ w4.heap.size := by have := hb4.size; first | omega | (simp at this; omega)
  replace hM := (hM.below ((Below.refl _ _).alloc (Nat.le_refl _) _)).below hb4
  replace ow_0 := (ow_0.below ((Below.refl _ _).alloc (Nat.le_refl _) _)).below hb4
  replace ow_1 := (ow_1.below ((Below.refl _ _).alloc (Nat.le_refl _) _)).below hb4
  replace bx0 := keepC hb4 (keepC ((Below.refl _ _).alloc (Nat.le_refl _) _) bx0)
  have bw_0 : w4.cell? ⟨w3.heap.size, 0, none⟩ = some (.slice Aw_0 (V_TextRule x0_0 t1_0).1.1.length cw_0) := (hb4.cell (by simp <;> omega)).trans (by simp)
  have bw_1 : w4.cell? ⟨w3.heap.size, 1, none⟩ = some (.slice Aw_1 (V_TextRule x0_0 t1_0).1.2.length cw_1) := (hb4.cell (by simp <;> omega)).trans (by simp)
  replace hB : Below w.heap.size w w4 := below_then (hB.alloc (by have := hB.size; simp <;> omega) _) hb4 (by have := hB.size; simp <;> omega)
  clear hb4
  replace sb0 : w.heap.size < w4.heap.size := by omega
  have hhw : w3.heap.size < w4.heap.size := by omega
  replace ox0_0 : OX w4 (w3.heap.size + 1) w4.heap.size (some ⟨ax0_0, 0, none⟩) n0_0 n0_0 x0_0 := ox0_0.hi_ (by simp)
  go_wp2_with fail
  refine (I_TextRule (some ⟨ax0_0, 0, none⟩) n0_0 n0_0 x0_0 t1_0 _ (ox0_0.rd.below ((Below.refl _ _).alloc (Nat.le_refl _) _)) g0 g1 (hM.below ((Below.refl _ _).alloc (Nat.le_refl _) _))).mono ?_
  rintro e w5 ⟨Ag_0, cg_0, Ag_1, cg_1, rfl, og_0, og_1, neg, hb5⟩
  have s5 : w4.heap.size + 1 ≤ w5.heap.size := by have := hb5.size; first | omega | (simp at this; omega)
  replace hM := (hM.below ((Below.refl _ _).alloc (Nat.le_refl _) _)).below hb5
  replace ow_0 := (ow_0.below ((Below.refl _ _).alloc (Nat.le_refl _) _)).below hb5
  replace ow_1 := (ow_1.below ((Below.refl _ _).alloc (Nat.le_refl _) _)).below hb5
  replace ox0_0 := (ox0_0.below ((Below.refl _ _).alloc (Nat.le_refl _) _)).below hb5
  replace bx0 := keepC hb5 (keepC ((Below.refl _ _).alloc (Nat.le_refl _) _) bx0)
  replace bw_0 := keepC hb5 (keepC ((Below.refl _ _).alloc (Nat.le_refl _) _) bw_0)
  replace bw_1 := keepC hb5 (keepC ((Below.refl _ _).alloc (Nat.le_refl _) _) bw_1)
  have by0 : w5.cell? ⟨w4.heap.size, 0, none⟩ = some (.slice (some ⟨ax0_0, 0, none⟩) n0_0 n0_0) := (hb5.cell (by simp <;> omega)).trans (by simp)
  replace hB : Below w.heap.size w w5 := below_then (hB.alloc (by have := hB.size; simp <;> omega) _) hb5 (by have := hB.size; simp <;> omega)
  clear hb5
  replace sb0 : w.heap.size < w5.heap.size := by omega
  replace hhw : w3.heap.size < w5.heap.size := by omega
  replace og_0 : OX w5 (w4.heap.size + 1) w5.heap.size Ag_0 (V_TextRule x0_0 t1_0).1.1.length cg_0 (V_TextRule x0_0 t1_0).1.1 := og_0.hi_ (by simp)
  replace og_1 : OX w5 (w4.heap.size + 1) w5.heap.size Ag_1 (V_TextRule x0_0 t1_0).1.2.length cg_1 (V_TextRule x0_0 t1_0).1.2 := og_1.hi_ (by simp)
  go_wp2_with fail
  refine (eqRule_same Ag_0 _ cg_0 (V_TextRule x0_0 t1_0).1.1 Ag_1 _ cg_1 (V_TextRule x0_0 t1_0).1.2 Aw_0 cw_0 Aw_1 cw_1 _ (og_0.rd.below ((Below.refl _ _).alloc (Nat.le_refl _) _)) (og_1.rd.below ((Below.refl _ _).alloc (Nat.le_refl _) _)) (ow_0.rd.below ((Below.refl _ _).alloc (Nat.le_refl _) _)) (ow_1.rd.below ((Below.refl _ _).alloc (Nat.le_refl _) _)) (by have := bd_TextRule x0_0 t1_0; omega)).mono ?_
  rintro e w6 ⟨rfl, hb6⟩
  have s6 : w5.heap.size + 1 ≤ w6.heap.size := by have := hb6.size; first | omega | (simp at this; omega)
  replace hM := (hM.below ((Below.refl _ _).alloc (Nat.le_refl _) _)).below hb6
  replace ow_0 := (ow_0.below ((Below.refl _ _).alloc (Nat.le_refl _) _)).below hb6
  replace ow_1 := (ow_1.below ((Below.refl _ _).alloc (Nat.le_refl _) _)).below hb6
  replace ox0_0 := (ox0_0.below ((Below.refl _ _).alloc (Nat.le_refl _) _)).below hb6
  replace og_0 := (og_0.below ((Below.refl _ _).alloc (Nat.le_refl _) _)).below hb6
  replace og_1 := (og_1.below ((Below.refl _ _).alloc (Nat.le_refl _) _)).below hb6
  replace bx0 := keepC hb6 (keepC ((Below.refl _ _).alloc (Nat.le_refl _) _) bx0)
  replace bw_0 := keepC hb6 (keepC ((Below.refl _ _).alloc (Nat.le_refl _) _) bw_0)
  replace bw_1 := keepC hb6 (keepC ((Below.refl _ _).alloc (Nat.le_refl _) _) bw_1)
  replace by0 := keepC hb6 (keepC ((Below.refl _ _).alloc (Nat.le_refl _) _) by0)
  have bg_0 : w6.cell? ⟨w5.heap.size, 0, none⟩ = some (.slice Ag_0 (V_TextRule x0_0 t1_0).1.1.length cg_0) := (hb6.cell (by simp <;> omega)).trans (by simp)
  have bg_1 : w6.cell? ⟨w5.heap.size, 1, none⟩ = some (.slice Ag_1 (V_TextRule x0_0 t1_0).1.2.length cg_1) := (hb6.cell (by simp <;> omega)).trans (by simp)
  replace hB : Below w.heap.size w w6 := below_then (hB.alloc (by have := hB.size; simp <;> omega) _) hb6 (by have := hB.size; simp <;> omega)
  clear hb6
  replace sb0 : w.heap.size < w6.heap.size := by omega
  replace hhw : w3.heap.size < w6.heap.size := by omega
  have hhg : w5.heap.size < w6.heap.size := by omega
  go_wp2_with fail
  go_region_held3 (fun w' => Below w6.heap.size w6 w' ∧ w'.cell? ⟨w4.heap.size, 0, none⟩ = some (.slice (some ⟨ax0_0, 0, none⟩) n0_0 n0_0) ∧ w'.cell? ⟨w.heap.size, 0, none⟩ = some (.slice A0_0 n0_0 c0_0))
    (first | exact ⟨(Below.refl _ _).drew, by0, bx0⟩ | exact keepS2 ha1 (by assumption) | exact keepS2 ha2 (by assumption))
    ((first | (go_at_call 13; refine (toSig_any A0_0 n0_0 c0_0 x0_0 _ ?_ g0).mono ?_; exact riS (h0_0.below hB) (by assumption); rintro e wa ⟨a0, rfl, oa0, ha1⟩) | (go_at_call 16; refine (eqSig_same (some ⟨ax0_0, 0, none⟩) n0_0 n0_0 x0_0 _ _ _ ?_ ?_ (by omega)).mono ?_; exact ox0_0.rd.below (And.left (by assumption)); exact oa0.rd; rintro e w7 ⟨rfl, ha2⟩)))
  rename_i hS
  have hb7 := hS.1
  clear hS oa0 ha1 ha2
  have s7 : w6.heap.size + 0 ≤ w7.heap.size := by have := hb7.size; first | omega | (simp at this; omega)
  replace hM := hM.below hb7
  replace ow_0 := ow_0.below hb7
  replace ow_1 := ow_1.below hb7
  replace ox0_0 := ox0_0.below hb7
  replace og_0 := og_0.below hb7
  replace og_1 := og_1.below hb7
  replace bx0 := keepC hb7 bx0
  replace bw_0 := keepC hb7 bw_0
  replace bw_1 := keepC hb7 bw_1
  replace by0 := keepC hb7 by0
  replace bg_0 := keepC hb7 bg_0
  replace bg_1 := keepC hb7 bg_1
  replace hB : Below w.heap.size w w7 := below_then hB hb7 (by have := hB.size; simp <;> omega)
  clear hb7
  replace sb0 : w.heap.size < w7.heap.size := by omega
  replace hhw : w3.heap.size < w7.heap.size := by omega
  replace hhg : w5.heap.size < w7.heap.size := by omega
  go_wp2_with fail
  have mk8 := markSig_any _ _ (some ⟨ax0_0, 0, none⟩) n0_0 n0_0 x0_0 (1) _ ox0_0 (by omega) (by omega) 
  refine mk8.mono ?_
  clear mk8
  rintro e w8 ⟨rfl, _, ho8⟩
  have s8 : w7.heap.size ≤ w8.heap.size := ho8.size
  replace hM := hM.only ho8 (by first | omega | (dsimp only; omega))
  replace ow_0 := ow_0.only ho8 (by first | omega | (dsimp only; omega))
  replace ow_1 := ow_1.only ho8 (by first | omega | (dsimp only; omega))
  replace og_0 := og_0.only ho8 (by first | omega | (dsimp only; omega))
  replace og_1 := og_1.only ho8 (by first | omega | (dsimp only; omega))
  replace bx0 := keepO ho8 (by first | omega | (dsimp only; omega)) bx0
  replace bw_0 := keepO ho8 (by first | omega | (dsimp only; omega)) bw_0
  replace bw_1 := keepO ho8 (by first | omega | (dsimp only; omega)) bw_1
  replace by0 := keepO ho8 (by first | omega | (dsimp only; omega)) by0
  replace bg_0 := keepO ho8 (by first | omega | (dsimp only; omega)) bg_0
  replace bg_1 := keepO ho8 (by first | omega | (dsimp only; omega)) bg_1
  replace hB : Below w.heap.size w w8 := hB.trans (ho8.below (by first | omega | (dsimp only; omega)) hB.size)
  clear ho8
  replace hhw : w3.heap.size < w8.heap.size := by omega
  replace hhg : w5.heap.size < w8.heap.size := by omega
  clear ox0_0
  have kn : decide ((1 + ↑(n0_0) : Int) < 0) = false := by simp; omega
  go_wp2_with fail
  refine (eqRule_same Ag_0 _ cg_0 (V_TextRule x0_0 t1_0).1.1 Ag_1 _ cg_1 (V_TextRule x0_0 t1_0).1.2 Aw_0 cw_0 Aw_1 cw_1 _ og_0.rd og_1.rd ow_0.rd ow_1.rd (by have := bd_TextRule x0_0 t1_0; omega)).mono ?_
  rintro e w9 ⟨rfl, hb9⟩
  have s9 : w8.heap.size + 0 ≤ w9.heap.size := by have := hb9.size; first | omega | (simp at this; omega)
  replace hM := hM.below hb9
  replace ow_0 := ow_0.below hb9
  replace ow_1 := ow_1.below hb9
  replace og_0 := og_0.below hb9
  replace og_1 := og_1.below hb9
  replace bx0 := keepC hb9 bx0
  replace bw_0 := keepC hb9 bw_0
  replace bw_1 := keepC hb9 bw_1
  replace by0 := keepC hb9 by0
  replace bg_0 := keepC hb9 bg_0
  replace bg_1 := keepC hb9 bg_1
  replace hB : Below w.heap.size w w9 := below_then hB hb9 (by have := hB.size; simp <;> omega)
  clear hb9
  replace sb0 : w.heap.size < w9.heap.size := by omega
  replace hhw : w3.heap.size < w9.heap.size := by omega
  replace hhg : w5.heap.size < w9.heap.size := by omega
  have bdl := bd_TextRule x0_0 t1_0
  go_wp2_with fail
  have mk10 := markRule_any _ _ Ag_0 _ cg_0 (V_TextRule x0_0 t1_0).1.1 Ag_1 _ cg_1 (V_TextRule x0_0 t1_0).1.2 1 _ og_0 og_1 neg (by omega) (by omega)
  refine mk10.mono ?_
  clear mk10
  rintro e w10 ⟨rfl, og_0, og_1, ho10⟩
  have s10 : w9.heap.size ≤ w10.heap.size := ho10.size
  replace hM := hM.only ho10 (by first | omega | (dsimp only; omega))
  replace ow_0 := ow_0.only ho10 (by first | omega | (dsimp only; omega))
  replace ow_1 := ow_1.only ho10 (by first | omega | (dsimp only; omega))
  replace bx0 := keepO ho10 (by first | omega | (dsimp only; omega)) bx0
  replace bw_0 := keepO ho10 (by first | omega | (dsimp only; omega)) bw_0
  replace bw_1 := keepO ho10 (by first | omega | (dsimp only; omega)) bw_1
  replace by0 := keepO ho10 (by first | omega | (dsimp only; omega)) by0
  replace bg_0 := keepO ho10 (by first | omega | (dsimp only; omega)) bg_0
  replace bg_1 := keepO ho10 (by first | omega | (dsimp only; omega)) bg_1
  replace hB : Below w.heap.size w w10 := hB.trans (ho10.below (by first | omega | (dsimp only; omega)) hB.size)
  clear ho10
  replace hhw : w3.heap.size < w10.heap.size := by omega
  replace hhg : w5.heap.size < w10.heap.size := by omega
  go_wp2_with fail
  refine (heldRule_any Ag_0 _ cg_0 Ag_1 _ cg_1 1 _ og_0.rd og_1.rd (by omega) (by omega)).mono ?_
  rintro e w11 ⟨rfl, hb11⟩
  have s11 : w10.heap.size + 0 ≤ w11.heap.size := by have := hb11.size; first | omega | (simp at this; omega)
  replace hM := hM.below hb11
  replace ow_0 := ow_0.below hb11
  replace ow_1 := ow_1.below hb11
  replace og_0 := og_0.below hb11
  replace og_1 := og_1.below hb11
  replace bx0 := keepC hb11 bx0
  replace bw_0 := keepC hb11 bw_0
  replace bw_1 := keepC hb11 bw_1
  replace by0 := keepC hb11 by0
  replace bg_0 := keepC hb11 bg_0
  replace bg_1 := keepC hb11 bg_1
  replace hB : Below w.heap.size w w11 := below_then hB hb11 (by have := hB.size; simp <;> omega)
  clear hb11
  replace sb0 : w.heap.size < w11.heap.size := by omega
  replace hhw : w3.heap.size < w11.heap.size := by omega
  replace hhg : w5.heap.size < w11.heap.size := by omega
  go_wp2_with fail
  refine (toSig_any A0_0 n0_0 c0_0 x0_0 _ (h0_0.below hB) g0).mono ?_
  rintro e w12 ⟨at0_0, rfl, ot0_0, hb12⟩
  have s12 : w11.heap.size + 0 ≤ w12.heap.size := by have := hb12.size; first | omega | (simp at this; omega)
  replace hM := hM.below hb12
  replace ow_0 := ow_0.below hb12
  replace ow_1 := ow_1.below hb12
  replace og_0 := og_0.below hb12
  replace og_1 := og_1.below hb12
  replace bx0 := keepC hb12 bx0
  replace bw_0 := keepC hb12 bw_0
  replace bw_1 := keepC hb12 bw_1
  replace by0 := keepC hb12 by0
  replace bg_0 := keepC hb12 bg_0
  replace bg_1 := keepC hb12 bg_1
  replace hB : Below w.heap.size w w12 := below_then hB hb12 (by have := hB.size; simp <;> omega)
  clear hb12
  replace sb0 : w.heap.size < w12.heap.size := by omega
  replace hhw : w3.heap.size < w12.heap.size := by omega
  replace hhg : w5.heap.size < w12.heap.size := by omega
  replace ot0_0 : OX w12 (w11.heap.size) w12.heap.size (some ⟨at0_0, 0, none⟩) n0_0 n0_0 x0_0 := ot0_0.hi_ (by simp)
  go_wp2_with fail
  refine (I_TextRule (some ⟨at0_0, 0, none⟩) n0_0 n0_0 x0_0 t1_0 _ ot0_0.rd g0 g1 hM).mono ?_
  rintro e w13 ⟨Ah_0, ch_0, Ah_1, ch_1, rfl, oh_0, oh_1, neh, hb13⟩
  have s13 : w12.heap.size + 0 ≤ w13.heap.size := by have := hb13.size; first | omega | (simp at this; omega)
  replace hM := hM.below hb13
  replace ow_0 := ow_0.below hb13
  replace ow_1 := ow_1.below hb13
  replace og_0 := og_0.below hb13
  replace og_1 := og_1.below hb13
  replace ot0_0 := ot0_0.below hb13
  replace bx0 := keepC hb13 bx0
  replace bw_0 := keepC hb13 bw_0
  replace bw_1 := keepC hb13 bw_1
  replace by0 := keepC hb13 by0
  replace bg_0 := keepC hb13 bg_0
  replace bg_1 := keepC hb13 bg_1
  replace hB : Below w.heap.size w w13 := below_then hB hb13 (by have := hB.size; simp <;> omega)
  clear hb13
  replace sb0 : w.heap.size < w13.heap.size := by omega
  replace hhw : w3.heap.size < w13.heap.size := by omega
  replace hhg : w5.heap.size < w13.heap.size := by omega
  replace oh_0 := oh_0.hi_ (Nat.le_refl _)
  replace oh_1 := oh_1.hi_ (Nat.le_refl _)
  clear neh
  clear ot0_0
  go_wp2_with fail
  refine (eqRule_same Ah_0 _ ch_0 (V_TextRule x0_0 t1_0).1.1 Ah_1 _ ch_1 (V_TextRule x0_0 t1_0).1.2 Aw_0 cw_0 Aw_1 cw_1 _ (oh_0.rd.below ((Below.refl _ _).alloc (Nat.le_refl _) _)) (oh_1.rd.below ((Below.refl _ _).alloc (Nat.le_refl _) _)) (ow_0.rd.below ((Below.refl _ _).alloc (Nat.le_refl _) _)) (ow_1.rd.below ((Below.refl _ _).alloc (Nat.le_refl _) _)) (by have := bd_TextRule x0_0 t1_0; omega)).mono ?_
  rintro e w14 ⟨rfl, hb14⟩
  have s14 : w13.heap.size + 1 ≤ w14.heap.size := by have := hb14.size; first | omega | (simp at this; omega)
  replace hM := (hM.below ((Below.refl _ _).alloc (Nat.le_refl _) _)).below hb14
  replace ow_0 := (ow_0.below ((Below.refl _ _).alloc (Nat.le_refl _) _)).below hb14
  replace ow_1 := (ow_1.below ((Below.refl _ _).alloc (Nat.le_refl _) _)).below hb14
  replace og_0 := (og_0.below ((Below.refl _ _).alloc (Nat.le_refl _) _)).below hb14
  replace og_1 := (og_1.below ((Below.refl _ _).alloc (Nat.le_refl _) _)).below hb14
  replace oh_0 := (oh_0.below ((Below.refl _ _).alloc (Nat.le_refl _) _)).below hb14
  replace oh_1 := (oh_1.below ((Below.refl _ _).alloc (Nat.le_refl _) _)).below hb14
  replace bx0 := keepC hb14 (keepC ((Below.refl _ _).alloc (Nat.le_refl _) _) bx0)
  replace bw_0 := keepC hb14 (keepC ((Below.refl _ _).alloc (Nat.le_refl _) _) bw_0)
  replace bw_1 := keepC hb14 (keepC ((Below.refl _ _).alloc (Nat.le_refl _) _) bw_1)
  replace by0 := keepC hb14 (keepC ((Below.refl _ _).alloc (Nat.le_refl _) _) by0)
  replace bg_0 := keepC hb14 (keepC ((Below.refl _ _).alloc (Nat.le_refl _) _) bg_0)
  replace bg_1 := keepC hb14 (keepC ((Below.refl _ _).alloc (Nat.le_refl _) _) bg_1)
  have bh_0 : w14.cell? ⟨w13.heap.size, 0, none⟩ = some (.slice Ah_0 (V_TextRule x0_0 t1_0).1.1.length ch_0) := (hb14.cell (by simp <;> omega)).trans (by simp)
  have bh_1 : w14.cell? ⟨w13.heap.size, 1, none⟩ = some (.slice Ah_1 (V_TextRule x0_0 t1_0).1.2.length ch_1) := (hb14.cell (by simp <;> omega)).trans (by simp)
  replace hB : Below w.heap.size w w14 := below_then (hB.alloc (by have := hB.size; simp <;> omega) _) hb14 (by have := hB.size; simp <;> omega)
  clear hb14
  replace sb0 : w.heap.size < w14.heap.size := by omega
  replace hhw : w3.heap.size < w14.heap.size := by omega
  replace hhg : w5.heap.size < w14.heap.size := by omega
  have hhh : w13.heap.size < w14.heap.size := by omega
  go_wp2_with fail
  refine (heldRule_any Ag_0 _ cg_0 Ag_1 _ cg_1 1 _ og_0.rd og_1.rd (by omega) (by omega)).mono ?_
  rintro e w15 ⟨rfl, hb15⟩
  have s15 : w14.heap.size + 0 ≤ w15.heap.size := by have := hb15.size; first | omega | (simp at this; omega)
  replace hM := hM.below hb15
  replace ow_0 := ow_0.below hb15
  replace ow_1 := ow_1.below hb15
  replace og_0 := og_0.below hb15
  replace og_1 := og_1.below hb15
  replace oh_0 := oh_0.below hb15
  replace oh_1 := oh_1.below hb15
  replace bx0 := keepC hb15 bx0
  replace bw_0 := keepC hb15 bw_0
  replace bw_1 := keepC hb15 bw_1
  replace by0 := keepC hb15 by0
  replace bg_0 := keepC hb15 bg_0
  replace bg_1 := keepC hb15 bg_1
  replace bh_0 := keepC hb15 bh_0
  replace bh_1 := keepC hb15 bh_1
  replace hB : Below w.heap.size w w15 := below_then hB hb15 (by have := hB.size; simp <;> omega)
  clear hb15
  replace sb0 : w.heap.size < w15.heap.size := by omega
  replace hhw : w3.heap.size < w15.heap.size := by omega
  replace hhg : w5.heap.size < w15.heap.size := by omega
  replace hhh : w13.heap.size < w15.heap.size := by omega
  go_wp2_with fail
  go_ret
  exact ⟨rfl, hB⟩

theorem own : ownKnob Tryd.prog.godebug = none := by kernel_rfl
theorem laidOut : laidOutB Tryd.prog = true := by kernel_rfl

set_option maxRecDepth 100000 in
theorem lifted (os : Os) (started : os.Started) (H : Type) (enc : TypeId × Value → H) :
    ReturnsInHanded {} Tryd.checked os 3 .any (fun w args => (Rows.fnExactTextRuleSpec.pre enc Tryd.prog Tryd.f3 [] false w args ∧ laidMetH Tryd.prog Rows.fnExactTextRuleRow.laid w) ∧ sizedMet enc Tryd.prog Tryd.f3 (OpenSpec.ofChange Rows.fnExactTextRuleSpec) false w args) (Rows.fnExactTextRuleSpec.post enc Tryd.prog Tryd.f3 false true false false) := by
  refine handed_and_shaped (C := Tryd.checked) (X := fun w _ => laidMetH Tryd.prog Rows.fnExactTextRuleRow.laid w) (fun _ _ _ hh h => h.of_heap hh) own started (by kernel_rfl) Tryd.func3
    (ChangeSpec.witness_shaped (enc := enc) (C := Tryd.checked) (os := os) (X := fun w _ => laidMetH Tryd.prog Rows.fnExactTextRuleRow.laid w) false (World.laidAll Tryd.prog os Rows.fnExactTextRuleRow.laid) #[.agg #[.slice none 0 0], .string ByteArray.empty] 8 (World.laidAll_os _ _ _)
      (World.shaped_of_ZipB (by kernel_rfl) (by kernel_rfl)) (by kernel_rfl) (by kernel_rfl) (by kernel_rfl)
      (by rw [MakeChecks.laidMetH_plain _ _ _ (by kernel_rfl)]; exact laidMet_laidAll _ (by kernel_rfl) (by kernel_rfl))) ?_
  intro W base args ds gs before hval0 hW hcnd _ hL hShape _
  have hval : ∀ (j : Nat) t v, Tryd.f3.params[j]? = some t → args[j]? = some v → Value.okWide Tryd.prog W .any base t v := hval0
  have hW' := hW
  obtain ⟨p, q, hA0, hV, rfl, hfz, hnd⟩ := hW
  have hA : DataW.TrodAll enc Tryd.prog W 0 (fun _ => true) true Tryd.f3.params.toList args.toList ds p := hA0
  rw [Tryd.params3] at hA hval
  obtain ⟨v0, vs0, d0, ds0, p0, q0, hargs, rfl, rfl, h0, r0⟩ := trodAll_cons hA
  obtain ⟨v1, vs1, d1, ds1, p1, q1, rfl, rfl, rfl, h1, r1⟩ := trodAll_cons r0
  obtain ⟨rfl, rfl, rfl⟩ := trodAll_nil r1
  obtain rfl : args = #[v0, v1] := by cases args; simp_all
  obtain ⟨rfl, rfl⟩ := trodVars_none hV
  have k0 := h0
  have lt0 : ∀ x ∈ p0, x.block < W.heap.size := by obtain ⟨m, hm⟩ := k0; exact DataW.trod_lt m _ _ _ hm
  obtain ⟨A0_0, n0_0, c0_0, z0_0, rfl, R0_0, M0_0⟩ := open_one Tryd.underlying24 (by kernel_rfl) rfl rfl (by kernel_rfl) Tryd.underlying22 Tryd.underlying2 (by kernel_rfl) (hval 0 24 v0 rfl rfl) h0
  unfold maxLen at M0_0
  obtain ⟨t1_0, rfl, rfl, rfl, w1⟩ := open_string Tryd.underlying9 (hval 1 9 v1 rfl rfl) h1
  clear hA0 hval0
  refine (walk A0_0 n0_0 c0_0 z0_0 t1_0 W R0_0 (by omega) w1 (ML.of hShape)).mono fun e W' ⟨he, bel⟩ => ?_
  subst he
  exact ⟨_, rfl, _, _, _, [], _, [], hW', trodAll_mk1 (shut_bool Tryd.underlying4 _), (trodAll_cons_mk (Below.trod laidOut (by kernel_rfl) (of_decide_eq_true (by kernel_rfl)) k0 bel lt0) (trodAll_cons_mk (shut_string Tryd.underlying9 w1) trodAll_mk0)), rfl, bel.frame _, fun h => by cases h⟩

theorem over : Rows.fnExactTextRuleRow.holds Tryd.pinned (OpenSpec.ofChange Rows.fnExactTextRuleSpec) :=
  OpenClaim.holds_of_wide 3 Tryd.f3 rfl rfl rfl rfl rfl rfl rfl ⟨rfl, rfl, rfl, rfl, rfl⟩ rfl rfl rfl rfl rfl (by kernel_rfl) Tryd.func3 (by kernel_rfl)
    (of_decide_eq_true (by kernel_rfl)) (by unfold Func.isWrapper; first | (rw [if_pos (by decide +kernel)]; kernel_rfl) | (rw [if_neg (by decide +kernel)]; exact ⟨rfl, rfl⟩))
    (fun os started H enc _ => lifted os started H enc)

/-- The tied card, out of the row's statement and the given tie. -/
theorem proved : Rows.FnExactTextRuleCardSaid :=
  Claim7.holds_tied_plain_at .later [] [.data, .data, .data] true _ false
    over (fun _ h => by cases h) (by kernel_rfl) (fun _ h => by cases h) fnExactTextRule_row_tie rfl ⟨rfl, rfl⟩ (by kernel_rfl) rfl
    (fun f fn hf hfn => by
      obtain rfl : f = 3 := Option.some.inj ((show Tryd.prog.funcNamed Rows.fnExactTextRuleRow.func = some 3 by kernel_rfl).symm.trans hf) |>.symm
      obtain rfl : fn = Tryd.f3 := (Option.some.inj (Tryd.func3.symm.trans hfn)).symm
      exact ⟨by kernel_rfl, fun j t ht => by
        rw [Tryd.params3] at ht
        have hm : t ∈ [24, 9] := by simpa using Array.mem_of_getElem? ht
        have hall : ([24, 9].all fun u => !Tryd.prog.wantsStandIn u) = true := by kernel_rfl
        exact (show Tryd.prog.wantsStandIn t = false by simpa using List.all_eq_true.1 hall t hm)⟩)
    (by kernel_rfl)
end Go.Proofs.YtlcchafcgidpeaaDoor.lTextRule
