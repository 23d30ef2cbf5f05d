/- The statement FnExactSameSubst: whatever the input, it returns true and leaves its arguments alone. No conditions. -/
import Derived.Test.YtkonnbkldjgomaaPlu3
import Derived.Test.YtkonnbkldjgomaaOpenU
import Derived.Test.YtkonnbkldjgomaaOpen
import Derived.Test.YtkonnbkldjgomaaRows
import Derived.Deep.RegionHeld3
namespace Go.Proofs.Ytkonnbkldjgomaa.lSameSubst
open Go.RowKit Go.ChangeShapes Go.WideShapes Go.ChangeAt
open Go.ChangeMaps (open_string shut_string)
set_option linter.unusedVariables false
set_option linter.unusedSimpArgs false

set_option maxHeartbeats 8000000 in
set_option maxRecDepth 100000 in
theorem walk (A0_0 : Option Addr) (n0_0 c0_0 : Nat) (x0_0 : List Int) (A1_0 : Option Addr) (n1_0 c1_0 : Nat) (x1_0 : List (List Int)) (A2_0 : Option Addr) (n2_0 c2_0 : Nat) (x2_0 : List (List Int)) (w : World) (h0_0 : RI w A0_0 n0_0 x0_0) (h1_0 : RR w A1_0 n1_0 x1_0) (h2_0 : RR w A2_0 n2_0 x2_0) (m0_0 : n0_0 ≤ 9223372036854775807) (m1_0 : n1_0 ≤ 9223372036854775807) (m2_0 : n2_0 ≤ 9223372036854775807) :
    Calls Try.prog 10 #[.agg #[.slice A0_0 n0_0 c0_0], .agg #[.slice A1_0 n1_0 c1_0], .agg #[.slice A2_0 n2_0 c2_0]] w fun e w' => e = .returned (.bool true) ∧ Below w.heap.size w w' := by
  go_enter Try.func10, Try.ntmps10
  have hB : Below w.heap.size w w := Below.refl _ _
  go_wp2_with fail
  refine (szSig_any A0_0 n0_0 c0_0 (1048576) _ (by omega) (by omega) m0_0).mono ?_
  rintro e w1 ⟨rfl, hb1⟩
  have s1 : w.heap.size + 3 ≤ w1.heap.size := by have := hb1.size; first | omega | (simp at this; omega)
  have bx0 : w1.cell? ⟨w.heap.size, 0, none⟩ = some (.slice A0_0 n0_0 c0_0) := (hb1.cell (by simp <;> omega)).trans (by have k_ := (((Blk.new w 24 #[.slice A0_0 n0_0 c0_0]).alloc (.cells #[.slice A1_0 n1_0 c1_0] 56)).alloc (.cells #[.slice A2_0 n2_0 c2_0] 56)).cell 0; simpa only [World.size_alloc, List.getElem?_toArray, List.getElem?_cons_zero, List.getElem?_cons_succ] using k_)
  have bx1 : w1.cell? ⟨w.heap.size + 1, 0, none⟩ = some (.slice A1_0 n1_0 c1_0) := (hb1.cell (by simp <;> omega)).trans (by have k_ := ((Blk.new (w.alloc (.cells #[.slice A0_0 n0_0 c0_0] 24)) 56 #[.slice A1_0 n1_0 c1_0]).alloc (.cells #[.slice A2_0 n2_0 c2_0] 56)).cell 0; simpa only [World.size_alloc, List.getElem?_toArray, List.getElem?_cons_zero, List.getElem?_cons_succ] using k_)
  have bx2 : w1.cell? ⟨w.heap.size + 1 + 1, 0, none⟩ = some (.slice A2_0 n2_0 c2_0) := (hb1.cell (by simp <;> omega)).trans (by have k_ := (Blk.new ((w.alloc (.cells #[.slice A0_0 n0_0 c0_0] 24)).alloc (.cells #[.slice A1_0 n1_0 c1_0] 56)) 56 #[.slice A2_0 n2_0 c2_0]).cell 0; simpa only [World.size_alloc, List.getElem?_toArray, List.getElem?_cons_zero, List.getElem?_cons_succ] using k_)
  replace hB : Below w.heap.size w w1 := below_then (((hB.alloc (by have := hB.size; simp <;> omega) _).alloc (by have := hB.size; simp <;> omega) _).alloc (by have := hB.size; simp <;> omega) _) hb1 (by have := hB.size; simp <;> omega)
  clear hb1
  have sb1 : w.heap.size + 1 < w1.heap.size := by omega
  have sb2 : w.heap.size + 1 + 1 < w1.heap.size := by omega
  have z0 := szF_bd (left := 1048576) (n0_0) (by omega)
  obtain ⟨v0, e0⟩ : ∃ v, v = szF (1048576) (n0_0) := ⟨_, rfl⟩
  rw [← e0] at z0 ⊢
  clear e0
  by_cases q0 : v0 < 0
  · go_wp2_with fail
    go_ret
    exact ⟨rfl, hB⟩
  have g0 : n0_0 ≤ 1048576 := by omega
  go_wp2_with fail
  refine (szSubst_any A1_0 n1_0 c1_0 x1_0 (v0) _ (h1_0.below hB) (by omega) (by omega) m1_0).mono ?_
  rintro e w2 ⟨rfl, hb2⟩
  have s2 : w1.heap.size + 0 ≤ w2.heap.size := by have := hb2.size; first | omega | (simp at this; omega)
  replace bx0 := keepC hb2 bx0
  replace bx1 := keepC hb2 bx1
  replace bx2 := keepC hb2 bx2
  replace hB : Below w.heap.size w w2 := below_then hB hb2 (by have := hB.size; simp <;> omega)
  clear hb2
  replace sb1 : w.heap.size + 1 < w2.heap.size := by omega
  replace sb2 : w.heap.size + 1 + 1 < w2.heap.size := by omega
  have z1 := szF_bd (left := v0) (wtR x1_0) (by omega)
  obtain ⟨v1, e1⟩ : ∃ v, v = szF (v0) (wtR x1_0) := ⟨_, rfl⟩
  rw [← e1] at z1 ⊢
  clear e1
  by_cases q1 : v1 < 0
  · go_wp2_with fail
    go_ret
    exact ⟨rfl, hB⟩
  have g1 : wtR x1_0 ≤ 1048576 := by omega
  go_wp2_with fail
  refine (szSubst_any A2_0 n2_0 c2_0 x2_0 (v1) _ (h2_0.below hB) (by omega) (by omega) m2_0).mono ?_
  rintro e w3 ⟨rfl, hb3⟩
  have s3 : w2.heap.size + 0 ≤ w3.heap.size := by have := hb3.size; first | omega | (simp at this; omega)
  replace bx0 := keepC hb3 bx0
  replace bx1 := keepC hb3 bx1
  replace bx2 := keepC hb3 bx2
  replace hB : Below w.heap.size w w3 := below_then hB hb3 (by have := hB.size; simp <;> omega)
  clear hb3
  replace sb1 : w.heap.size + 1 < w3.heap.size := by omega
  replace sb2 : w.heap.size + 1 + 1 < w3.heap.size := by omega
  have z2 := szF_bd (left := v1) (wtR x2_0) (by omega)
  obtain ⟨v2, e2⟩ : ∃ v, v = szF (v1) (wtR x2_0) := ⟨_, rfl⟩
  rw [← e2] at z2 ⊢
  clear e2
  by_cases q2 : v2 < 0
  · go_wp2_with fail
    go_ret
    exact ⟨rfl, hB⟩
  have g2 : wtR x2_0 ≤ 1048576 := by omega
  go_wp2_with fail
  have HKS : Hid (∀ w', Below w3.heap.size w3 w' → (fun w' => Below w3.heap.size w3 w' ∧ w'.cell? ⟨w.heap.size, 0, none⟩ = some (.slice A0_0 n0_0 c0_0) ∧ w'.cell? ⟨w.heap.size + 1, 0, none⟩ = some (.slice A1_0 n1_0 c1_0) ∧ w'.cell? ⟨w.heap.size + 1 + 1, 0, none⟩ = some (.slice A2_0 n2_0 c2_0)) w') := Lib.hid (fun w' h_ => ⟨h_, keepC h_ bx0, keepC h_ bx1, keepC h_ bx2⟩)
  go_region_held3 (fun w' => Below w3.heap.size w3 w' ∧ w'.cell? ⟨w.heap.size, 0, none⟩ = some (.slice A0_0 n0_0 c0_0) ∧ w'.cell? ⟨w.heap.size + 1, 0, none⟩ = some (.slice A1_0 n1_0 c1_0) ∧ w'.cell? ⟨w.heap.size + 1 + 1, 0, none⟩ = some (.slice A2_0 n2_0 c2_0))
    (first | exact HKS.out _ (Below.refl _ _).drew | exact HKS.out _ (keepS0 ha_0 (And.left (by assumption))) | exact HKS.out _ (keepS0 ha_1 (And.left (by assumption))) | exact HKS.out _ (keepS0 ha_2 (And.left (by assumption))) | exact HKS.out _ (keepS0 haf (And.left (by assumption))))
    ((first | (go_at_call 17; refine (toSig_any A0_0 n0_0 c0_0 x0_0 _ ?_ g0).mono ?_; exact riS (h0_0.below hB) (by assumption); rintro e wa_0 ⟨as0_0, rfl, os0_0, ha_0⟩) | (go_at_call 42; with_reducible (show Calls Try.prog 42 #[.agg #[.slice A1_0 n1_0 c1_0]] _ _); refine (toSubst_any A1_0 n1_0 c1_0 x1_0 _ ?_ g1).mono ?_; exact (h1_0.below hB).below (And.left (by assumption)); rintro e wa_1 ⟨as1_0, rfl, os1_0, ha_1⟩; replace os0_0 := os0_0.below ha_1) | (go_at_call 42; with_reducible (show Calls Try.prog 42 #[.agg #[.slice A2_0 n2_0 c2_0]] _ _); refine (toSubst_any A2_0 n2_0 c2_0 x2_0 _ ?_ g2).mono ?_; exact (h2_0.below hB).below (And.left (by assumption)); rintro e wa_2 ⟨as2_0, rfl, os2_0, ha_2⟩; replace os0_0 := os0_0.below ha_2; replace os1_0 := os1_0.below ha_2) | (go_at_call 41; refine (S_SameSubst (some ⟨as0_0, 0, none⟩) n0_0 n0_0 x0_0 (some ⟨as1_0, 0, none⟩) n1_0 n1_0 x1_0 (some ⟨as2_0, 0, none⟩) n2_0 n2_0 x2_0 _ os0_0.rd os1_0.rd os2_0.rd g0 g1 g2).mono ?_; rintro e w4 ⟨rfl, haf⟩)))
  rename_i hS
  have hb4 := hS.1
  have sz4 : w3.heap.size ≤ wa_2.heap.size := by have e_ : w3.drew.heap.size = w3.heap.size := rfl; have q_0 := ha_0.size; have q_1 := ha_1.size; have q_2 := ha_2.size; have qf := haf.size; omega
  clear HKS hS haf ha_0 ha_1 ha_2 os0_0 os1_0 os2_0
  have s4 : w3.heap.size + 0 ≤ w4.heap.size := by have := hb4.size; first | omega | (simp at this; omega)
  replace bx0 := keepC hb4 bx0
  replace bx1 := keepC hb4 bx1
  replace bx2 := keepC hb4 bx2
  replace hB : Below w.heap.size w w4 := below_then hB hb4 (by have := hB.size; simp <;> omega)
  clear hb4
  replace sb1 : w.heap.size + 1 < w4.heap.size := by omega
  replace sb2 : w.heap.size + 1 + 1 < w4.heap.size := by omega
  go_wp2_with fail
  refine (toSig_any A0_0 n0_0 c0_0 x0_0 _ (h0_0.below hB) g0).mono ?_
  rintro e w5 ⟨ax0_0, rfl, ox0_0, hb5⟩
  have s5 : w4.heap.size + 0 ≤ w5.heap.size := by have := hb5.size; first | omega | (simp at this; omega)
  replace bx0 := keepC hb5 bx0
  replace bx1 := keepC hb5 bx1
  replace bx2 := keepC hb5 bx2
  replace hB : Below w.heap.size w w5 := below_then hB hb5 (by have := hB.size; simp <;> omega)
  clear hb5
  replace sb1 : w.heap.size + 1 < w5.heap.size := by omega
  replace sb2 : w.heap.size + 1 + 1 < w5.heap.size := by omega
  go_wp2_with fail
  refine (toSubst_any A1_0 n1_0 c1_0 x1_0 _ (h1_0.below (hB.alloc (by have := hB.size; simp <;> omega) _)) g1).mono ?_
  rintro e w6 ⟨ax1_0, rfl, ox1_0, hb6⟩
  have s6 : w5.heap.size + 1 ≤ w6.heap.size := by have := hb6.size; first | omega | (simp at this; omega)
  replace ox0_0 := (ox0_0.below ((Below.refl _ _).alloc (Nat.le_refl _) _)).below hb6
  replace bx0 := keepC hb6 (keepC ((Below.refl _ _).alloc (Nat.le_refl _) _) bx0)
  replace bx1 := keepC hb6 (keepC ((Below.refl _ _).alloc (Nat.le_refl _) _) bx1)
  replace bx2 := keepC hb6 (keepC ((Below.refl _ _).alloc (Nat.le_refl _) _) bx2)
  have by0 : w6.cell? ⟨w5.heap.size, 0, none⟩ = some (.slice (some ⟨ax0_0, 0, none⟩) n0_0 n0_0) := (hb6.cell (by simp <;> omega)).trans (by simp)
  replace hB : Below w.heap.size w w6 := below_then (hB.alloc (by have := hB.size; simp <;> omega) _) hb6 (by have := hB.size; simp <;> omega)
  clear hb6
  have sy0 : w5.heap.size < w6.heap.size := by omega
  replace sb1 : w.heap.size + 1 < w6.heap.size := by omega
  replace sb2 : w.heap.size + 1 + 1 < w6.heap.size := by omega
  go_wp2_with fail
  refine (toSubst_any A2_0 n2_0 c2_0 x2_0 _ (h2_0.below (hB.alloc (by have := hB.size; simp <;> omega) _)) g2).mono ?_
  rintro e w7 ⟨ax2_0, rfl, ox2_0, hb7⟩
  have s7 : w6.heap.size + 1 ≤ w7.heap.size := by have := hb7.size; first | omega | (simp at this; omega)
  replace ox0_0 := (ox0_0.below ((Below.refl _ _).alloc (Nat.le_refl _) _)).below hb7
  replace ox1_0 := (ox1_0.below ((Below.refl _ _).alloc (Nat.le_refl _) _)).below hb7
  replace bx0 := keepC hb7 (keepC ((Below.refl _ _).alloc (Nat.le_refl _) _) bx0)
  replace bx1 := keepC hb7 (keepC ((Below.refl _ _).alloc (Nat.le_refl _) _) bx1)
  replace bx2 := keepC hb7 (keepC ((Below.refl _ _).alloc (Nat.le_refl _) _) bx2)
  replace by0 := keepC hb7 (keepC ((Below.refl _ _).alloc (Nat.le_refl _) _) by0)
  have by1 : w7.cell? ⟨w6.heap.size, 0, none⟩ = some (.slice (some ⟨ax1_0, 0, none⟩) n1_0 n1_0) := (hb7.cell (by simp <;> omega)).trans (by simp)
  replace hB : Below w.heap.size w w7 := below_then (hB.alloc (by have := hB.size; simp <;> omega) _) hb7 (by have := hB.size; simp <;> omega)
  clear hb7
  replace sy0 : w5.heap.size < w7.heap.size := by omega
  replace sb1 : w.heap.size + 1 < w7.heap.size := by omega
  have sy1 : w6.heap.size < w7.heap.size := by omega
  replace sb2 : w.heap.size + 1 + 1 < w7.heap.size := by omega
  go_wp2_with fail
  refine (I_SameSubst (some ⟨ax0_0, 0, none⟩) n0_0 n0_0 x0_0 (some ⟨ax1_0, 0, none⟩) n1_0 n1_0 x1_0 (some ⟨ax2_0, 0, none⟩) n2_0 n2_0 x2_0 _ (ox0_0.rd.below ((Below.refl _ _).alloc (Nat.le_refl _) _)) (ox1_0.rd.below ((Below.refl _ _).alloc (Nat.le_refl _) _)) (ox2_0.rd.below ((Below.refl _ _).alloc (Nat.le_refl _) _)) g0 g1 g2).mono ?_
  rintro e w8 ⟨rfl, hb8⟩
  have s8 : w7.heap.size + 1 ≤ w8.heap.size := by have := hb8.size; first | omega | (simp at this; omega)
  replace ox0_0 := (ox0_0.below ((Below.refl _ _).alloc (Nat.le_refl _) _)).below hb8
  replace ox1_0 := (ox1_0.below ((Below.refl _ _).alloc (Nat.le_refl _) _)).below hb8
  replace ox2_0 := (ox2_0.below ((Below.refl _ _).alloc (Nat.le_refl _) _)).below hb8
  replace bx0 := keepC hb8 (keepC ((Below.refl _ _).alloc (Nat.le_refl _) _) bx0)
  replace bx1 := keepC hb8 (keepC ((Below.refl _ _).alloc (Nat.le_refl _) _) bx1)
  replace bx2 := keepC hb8 (keepC ((Below.refl _ _).alloc (Nat.le_refl _) _) bx2)
  replace by0 := keepC hb8 (keepC ((Below.refl _ _).alloc (Nat.le_refl _) _) by0)
  replace by1 := keepC hb8 (keepC ((Below.refl _ _).alloc (Nat.le_refl _) _) by1)
  have by2 : w8.cell? ⟨w7.heap.size, 0, none⟩ = some (.slice (some ⟨ax2_0, 0, none⟩) n2_0 n2_0) := (hb8.cell (by simp <;> omega)).trans (by simp)
  replace hB : Below w.heap.size w w8 := below_then (hB.alloc (by have := hB.size; simp <;> omega) _) hb8 (by have := hB.size; simp <;> omega)
  clear hb8
  replace sy0 : w5.heap.size < w8.heap.size := by omega
  replace sb1 : w.heap.size + 1 < w8.heap.size := by omega
  replace sy1 : w6.heap.size < w8.heap.size := by omega
  replace sb2 : w.heap.size + 1 + 1 < w8.heap.size := by omega
  have sy2 : w7.heap.size < w8.heap.size := by omega
  go_wp2_with fail
  go_region_held3 (fun w' => Below w8.heap.size w8 w' ∧ w'.cell? ⟨w5.heap.size, 0, none⟩ = some (.slice (some ⟨ax0_0, 0, none⟩) n0_0 n0_0) ∧ w'.cell? ⟨w.heap.size, 0, none⟩ = some (.slice A0_0 n0_0 c0_0))
    (first | exact ⟨(Below.refl _ _).drew, by0, bx0⟩ | exact keepS2 ha1 (by assumption) | exact keepS2 ha2 (by assumption))
    ((first | (go_at_call 17; refine (toSig_any A0_0 n0_0 c0_0 x0_0 _ ?_ g0).mono ?_; exact riS (h0_0.below hB) (by assumption); rintro e wa ⟨a0, rfl, oa0, ha1⟩) | (go_at_call 21; refine (eqSig_same (some ⟨ax0_0, 0, none⟩) n0_0 n0_0 x0_0 _ _ _ ?_ ?_ (by omega)).mono ?_; exact ox0_0.rd.below (And.left (by assumption)); exact oa0.rd; rintro e w9 ⟨rfl, ha2⟩)))
  rename_i hS
  have hb9 := hS.1
  clear hS oa0 ha1 ha2
  have s9 : w8.heap.size + 0 ≤ w9.heap.size := by have := hb9.size; first | omega | (simp at this; omega)
  replace ox0_0 := ox0_0.below hb9
  replace ox1_0 := ox1_0.below hb9
  replace ox2_0 := ox2_0.below hb9
  replace bx0 := keepC hb9 bx0
  replace bx1 := keepC hb9 bx1
  replace bx2 := keepC hb9 bx2
  replace by0 := keepC hb9 by0
  replace by1 := keepC hb9 by1
  replace by2 := keepC hb9 by2
  replace hB : Below w.heap.size w w9 := below_then hB hb9 (by have := hB.size; simp <;> omega)
  clear hb9
  replace sy0 : w5.heap.size < w9.heap.size := by omega
  replace sb1 : w.heap.size + 1 < w9.heap.size := by omega
  replace sy1 : w6.heap.size < w9.heap.size := by omega
  replace sb2 : w.heap.size + 1 + 1 < w9.heap.size := by omega
  replace sy2 : w7.heap.size < w9.heap.size := by omega
  go_wp2_with fail
  go_region_held3 (fun w' => Below w9.heap.size w9 w' ∧ w'.cell? ⟨w6.heap.size, 0, none⟩ = some (.slice (some ⟨ax1_0, 0, none⟩) n1_0 n1_0) ∧ w'.cell? ⟨w.heap.size + 1, 0, none⟩ = some (.slice A1_0 n1_0 c1_0))
    (first | exact ⟨(Below.refl _ _).drew, by1, bx1⟩ | exact keepS2 ha1 (by assumption) | exact keepS2 ha2 (by assumption))
    ((first | (go_at_call 42; refine (toSubst_any A1_0 n1_0 c1_0 x1_0 _ ?_ g1).mono ?_; exact (h1_0.below hB).below (And.left (by assumption)); rintro e wa ⟨a0, rfl, oa0, ha1⟩) | (go_at_call 44; refine (eqSubst_same (some ⟨ax1_0, 0, none⟩) n1_0 n1_0 x1_0 _ _ _ ?_ ?_ (by omega)).mono ?_; exact ox1_0.rd.below (And.left (by assumption)); exact oa0.rd; rintro e w10 ⟨rfl, ha2⟩)))
  rename_i hS
  have hb10 := hS.1
  clear hS oa0 ha1 ha2
  have s10 : w9.heap.size + 0 ≤ w10.heap.size := by have := hb10.size; first | omega | (simp at this; omega)
  replace ox0_0 := ox0_0.below hb10
  replace ox1_0 := ox1_0.below hb10
  replace ox2_0 := ox2_0.below hb10
  replace bx0 := keepC hb10 bx0
  replace bx1 := keepC hb10 bx1
  replace bx2 := keepC hb10 bx2
  replace by0 := keepC hb10 by0
  replace by1 := keepC hb10 by1
  replace by2 := keepC hb10 by2
  replace hB : Below w.heap.size w w10 := below_then hB hb10 (by have := hB.size; simp <;> omega)
  clear hb10
  replace sy0 : w5.heap.size < w10.heap.size := by omega
  replace sb1 : w.heap.size + 1 < w10.heap.size := by omega
  replace sy1 : w6.heap.size < w10.heap.size := by omega
  replace sb2 : w.heap.size + 1 + 1 < w10.heap.size := by omega
  replace sy2 : w7.heap.size < w10.heap.size := by omega
  go_wp2_with fail
  go_region_held3 (fun w' => Below w10.heap.size w10 w' ∧ w'.cell? ⟨w7.heap.size, 0, none⟩ = some (.slice (some ⟨ax2_0, 0, none⟩) n2_0 n2_0) ∧ w'.cell? ⟨w.heap.size + 1 + 1, 0, none⟩ = some (.slice A2_0 n2_0 c2_0))
    (first | exact ⟨(Below.refl _ _).drew, by2, bx2⟩ | exact keepS2 ha1 (by assumption) | exact keepS2 ha2 (by assumption))
    ((first | (go_at_call 42; refine (toSubst_any A2_0 n2_0 c2_0 x2_0 _ ?_ g2).mono ?_; exact (h2_0.below hB).below (And.left (by assumption)); rintro e wa ⟨a0, rfl, oa0, ha1⟩) | (go_at_call 44; refine (eqSubst_same (some ⟨ax2_0, 0, none⟩) n2_0 n2_0 x2_0 _ _ _ ?_ ?_ (by omega)).mono ?_; exact ox2_0.rd.below (And.left (by assumption)); exact oa0.rd; rintro e w11 ⟨rfl, ha2⟩)))
  rename_i hS
  have hb11 := hS.1
  clear hS oa0 ha1 ha2
  have s11 : w10.heap.size + 0 ≤ w11.heap.size := by have := hb11.size; first | omega | (simp at this; omega)
  replace ox0_0 := ox0_0.below hb11
  replace ox1_0 := ox1_0.below hb11
  replace ox2_0 := ox2_0.below hb11
  replace bx0 := keepC hb11 bx0
  replace bx1 := keepC hb11 bx1
  replace bx2 := keepC hb11 bx2
  replace by0 := keepC hb11 by0
  replace by1 := keepC hb11 by1
  replace by2 := keepC hb11 by2
  replace hB : Below w.heap.size w w11 := below_then hB hb11 (by have := hB.size; simp <;> omega)
  clear hb11
  replace sy0 : w5.heap.size < w11.heap.size := by omega
  replace sb1 : w.heap.size + 1 < w11.heap.size := by omega
  replace sy1 : w6.heap.size < w11.heap.size := by omega
  replace sb2 : w.heap.size + 1 + 1 < w11.heap.size := by omega
  replace sy2 : w7.heap.size < w11.heap.size := by omega
  go_wp2_with fail
  go_ret
  exact ⟨rfl, hB⟩

theorem own : ownKnob Try.prog.godebug = none := by kernel_rfl
theorem laidOut : laidOutB Try.prog = true := by kernel_rfl

set_option maxRecDepth 100000 in
theorem lifted (os : Os) (started : os.Started) (H : Type) (enc : TypeId × Value → H) :
    ReturnsInHanded {} Try.checked os 10 .any (Rows.fnExactSameSubstSpec.pre6 enc Try.prog Try.f10 Rows.fnExactSameSubstRow.domain false) (Rows.fnExactSameSubstSpec.post enc Try.prog Try.f10 false true false false) := by
  refine returnsInHanded_of_change (C := Try.checked) own started (by kernel_rfl) Try.func10
    (ChangeSpec.witness6 (enc := enc) (C := Try.checked) false ⟨#[], #[.agg #[.slice none 0 0], .agg #[.slice none 0 0], .agg #[.slice none 0 0]], []⟩ 8 (by kernel_rfl) (by kernel_rfl) (by kernel_rfl) (by kernel_rfl)) ?_
  intro W base args ds gs before hval0 hW hcnd _
  have hval : ∀ (j : Nat) t v, Try.f10.params[j]? = some t → args[j]? = some v → Value.okWide Try.prog W .any base t v := hval0
  have hW' := hW
  obtain ⟨p, q, hA0, hV, rfl, hfz, hnd⟩ := hW
  have hA : DataW.TrodAll enc Try.prog W 0 (fun _ => true) true Try.f10.params.toList args.toList ds p := hA0
  rw [Try.params10] at hA hval
  obtain ⟨v0, vs0, d0, ds0, p0, q0, hargs, rfl, rfl, h0, r0⟩ := trodAll_cons hA
  obtain ⟨v1, vs1, d1, ds1, p1, q1, rfl, rfl, rfl, h1, r1⟩ := trodAll_cons r0
  obtain ⟨v2, vs2, d2, ds2, p2, q2, rfl, rfl, rfl, h2, r2⟩ := trodAll_cons r1
  obtain ⟨rfl, rfl, rfl⟩ := trodAll_nil r2
  obtain rfl : args = #[v0, v1, v2] := by cases args; simp_all
  obtain ⟨rfl, rfl⟩ := trodVars_none hV
  have k0 := h0
  have lt0 : ∀ x ∈ p0, x.block < W.heap.size := by obtain ⟨m, hm⟩ := k0; exact DataW.trod_lt m _ _ _ hm
  obtain ⟨A0_0, n0_0, c0_0, z0_0, rfl, R0_0, M0_0⟩ := open_one Try.underlying24 (by kernel_rfl) rfl rfl (by kernel_rfl) Try.underlying22 Try.underlying2 (by kernel_rfl) (hval 0 24 v0 rfl rfl) h0
  unfold maxLen at M0_0
  have k1 := h1
  have lt1 : ∀ x ∈ p1, x.block < W.heap.size := by obtain ⟨m, hm⟩ := k1; exact DataW.trod_lt m _ _ _ hm
  obtain ⟨A0_1, n0_1, c0_1, z0_1, rfl, R0_1, M0_1⟩ := open_subst Try.underlying56 (by kernel_rfl) rfl rfl (by kernel_rfl) Try.underlying54 (by kernel_rfl) Try.underlying22 Try.underlying2 (by kernel_rfl) (hval 1 56 v1 rfl rfl) h1
  unfold maxLen at M0_1
  have k2 := h2
  have lt2 : ∀ x ∈ p2, x.block < W.heap.size := by obtain ⟨m, hm⟩ := k2; exact DataW.trod_lt m _ _ _ hm
  obtain ⟨A0_2, n0_2, c0_2, z0_2, rfl, R0_2, M0_2⟩ := open_subst Try.underlying56 (by kernel_rfl) rfl rfl (by kernel_rfl) Try.underlying54 (by kernel_rfl) Try.underlying22 Try.underlying2 (by kernel_rfl) (hval 2 56 v2 rfl rfl) h2
  unfold maxLen at M0_2
  clear hA0 hval0
  refine (walk A0_0 n0_0 c0_0 z0_0 A0_1 n0_1 c0_1 z0_1 A0_2 n0_2 c0_2 z0_2 W R0_0 R0_1 R0_2 (by omega) (by omega) (by omega)).mono fun e W' ⟨he, bel⟩ => ?_
  subst he
  exact ⟨_, rfl, _, _, _, [], _, [], hW', trodAll_mk1 (shut_bool Try.underlying4 _), (trodAll_cons_mk (Below.trod laidOut (by kernel_rfl) (of_decide_eq_true (by kernel_rfl)) k0 bel lt0) (trodAll_cons_mk (Below.trod laidOut (by kernel_rfl) (of_decide_eq_true (by kernel_rfl)) k1 bel lt1) (trodAll_cons_mk (Below.trod laidOut (by kernel_rfl) (of_decide_eq_true (by kernel_rfl)) k2 bel lt2) trodAll_mk0))), rfl, bel.frame _, fun h => by cases h⟩

theorem over : Rows.fnExactSameSubstRow.holds Try.pinned (OpenSpec.ofChange Rows.fnExactSameSubstSpec) :=
  OpenClaim.holds_of_wide 10 Try.f10 rfl rfl rfl rfl rfl rfl rfl ⟨rfl, rfl, rfl, rfl, rfl⟩ rfl rfl rfl rfl rfl (by kernel_rfl) Try.func10 (by kernel_rfl)
    (of_decide_eq_true (by kernel_rfl)) (by unfold Func.isWrapper; first | (rw [if_pos (by decide +kernel)]; kernel_rfl) | (rw [if_neg (by decide +kernel)]; exact ⟨rfl, rfl⟩))
    (fun os started H enc _ => lifted os started H enc)

theorem proved : Rows.FnExactSameSubstSaid := over
end Go.Proofs.Ytkonnbkldjgomaa.lSameSubst
