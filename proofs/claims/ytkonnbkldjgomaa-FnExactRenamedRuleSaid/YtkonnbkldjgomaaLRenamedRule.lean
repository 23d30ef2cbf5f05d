/- The statement FnExactRenamedRule: whatever the input, it returns true and leaves its arguments alone. No conditions. -/
import Derived.Test.YtkonnbkldjgomaaRenRule2
import Derived.Test.YtkonnbkldjgomaaRenRule3
import Derived.Test.YtkonnbkldjgomaaMarkRule
import Derived.Test.YtkonnbkldjgomaaOpen
import Derived.Test.YtkonnbkldjgomaaOpen
import Derived.Test.YtkonnbkldjgomaaRows
import Derived.Deep.RegionHeld3
import Derived.Deep.Cut
namespace Go.Proofs.Ytkonnbkldjgomaa.lRenamedRule
open Go.RowKit Go.ChangeShapes Go.WideShapes Go.ChangeAt
open Go.ChangeMaps (open_string shut_string)
set_option linter.unusedVariables false
set_option linter.unusedSimpArgs false

theorem belA {W w : World} {o : Obj} (h : Below W.heap.size W w) : Below W.heap.size W (w.alloc o) := h.alloc h.size o
theorem belR {W w : World} {o o2 : Obj} (hs : W.heap.size ≤ w.heap.size) (h : Below W.heap.size W (w.alloc o)) : Below W.heap.size W (w.alloc o2) :=
  (show Below W.heap.size W w from ⟨h.os, h.tape, h.output, hs, fun k hk => (Below.heap_alloc w o k (by omega)).symm.trans (h.block k hk)⟩).alloc hs o2

set_option maxHeartbeats 8000000 in
set_option maxRecDepth 100000 in
theorem walk (A0_0 : Option Addr) (n0_0 c0_0 : Nat) (x0_0 : List Int) (A1_0 : Option Addr) (n1_0 c1_0 : Nat) (x1_0 : List Int) (A1_1 : Option Addr) (n1_1 c1_1 : Nat) (x1_1 : List Int) (w : World) (h0_0 : RI w A0_0 n0_0 x0_0) (h1_0 : RI w A1_0 n1_0 x1_0) (h1_1 : RI w A1_1 n1_1 x1_1) (m0_0 : n0_0 ≤ 9223372036854775807) (m1_0 : n1_0 ≤ 9223372036854775807) (m1_1 : n1_1 ≤ 9223372036854775807) :
    Calls Try.prog 13 #[.agg #[.slice A0_0 n0_0 c0_0], .agg #[.slice A1_0 n1_0 c1_0, .slice A1_1 n1_1 c1_1]] w fun e w' => e = .returned (.bool true) ∧ Below w.heap.size w w' := by
  go_enter Try.func13, Try.ntmps13
  have hB : Below w.heap.size w w := Below.refl _ _
  go_wp2_with fail
  refine (szSig_any A0_0 n0_0 c0_0 (1048576) _ (by omega) (by omega) m0_0).mono ?_
  rintro e w1 ⟨rfl, hb1⟩
  have s1 : w.heap.size + 2 ≤ w1.heap.size := by have := hb1.size; first | omega | (simp at this; omega)
  have bx0 : w1.cell? ⟨w.heap.size, 0, none⟩ = some (.slice A0_0 n0_0 c0_0) := (hb1.cell (by simp <;> omega)).trans (by simp)
  have bx1_0 : w1.cell? ⟨w.heap.size + 1, 0, none⟩ = some (.slice A1_0 n1_0 c1_0) := (hb1.cell (by simp <;> omega)).trans (by simp)
  have bx1_1 : w1.cell? ⟨w.heap.size + 1, 1, none⟩ = some (.slice A1_1 n1_1 c1_1) := (hb1.cell (by simp <;> omega)).trans (by simp)
  replace hB : Below w.heap.size w w1 := below_then ((hB.alloc (by have := hB.size; simp <;> omega) _).alloc (by have := hB.size; simp <;> omega) _) hb1 (by have := hB.size; simp <;> omega)
  clear hb1
  have sb1 : w.heap.size + 1 < w1.heap.size := by omega
  have z0 := szF_bd (left := 1048576) (n0_0) (by omega)
  obtain ⟨v0, e0⟩ : ∃ v, v = szF (1048576) (n0_0) := ⟨_, rfl⟩
  rw [← e0] at z0 ⊢
  clear e0
  by_cases q0 : v0 < 0
  · go_wp2_with fail
    go_ret
    exact ⟨rfl, hB⟩
  have g0 : n0_0 ≤ 1048576 := by omega
  go_wp2_with fail
  refine (szRule_any A1_0 n1_0 c1_0 A1_1 n1_1 c1_1 (v0) _ (by omega) (by omega) m1_0 m1_1).mono ?_
  rintro e w2 ⟨rfl, hb2⟩
  have s2 : w1.heap.size + 0 ≤ w2.heap.size := by have := hb2.size; first | omega | (simp at this; omega)
  replace bx0 := keepC hb2 bx0
  replace bx1_0 := keepC hb2 bx1_0
  replace bx1_1 := keepC hb2 bx1_1
  replace hB : Below w.heap.size w w2 := below_then hB hb2 (by have := hB.size; simp <;> omega)
  clear hb2
  replace sb1 : w.heap.size + 1 < w2.heap.size := by omega
  have z1 := szF_bd (left := v0) (n1_0 + n1_1) (by omega)
  obtain ⟨v1, e1⟩ : ∃ v, v = szF (v0) (n1_0 + n1_1) := ⟨_, rfl⟩
  rw [← e1] at z1 ⊢
  clear e1
  by_cases q1 : v1 < 0
  · go_wp2_with fail
    go_ret
    exact ⟨rfl, hB⟩
  have g1 : n1_0 + n1_1 ≤ 1048576 := by omega
  go_wp2_with fail
  go_cut [6] from 14 (fun s6 w' => ∃ (bw : Nat) (Aw_0 : Option Addr) (cw_0 : Nat) (Aw_1 : Option Addr) (cw_1 : Nat), s6 = .pointer (some ⟨bw, 0, none⟩) ∧ w2.heap.size ≤ bw ∧ bw < w'.heap.size ∧ Blk w' bw 69 #[.slice Aw_0 (V_RenamedRule x0_0 x1_0 x1_1).1.length cw_0, .slice Aw_1 (V_RenamedRule x0_0 x1_0 x1_1).2.length cw_1] ∧ OX w' w2.heap.size w'.heap.size Aw_0 (V_RenamedRule x0_0 x1_0 x1_1).1.length cw_0 (V_RenamedRule x0_0 x1_0 x1_1).1 ∧ OX w' w2.heap.size w'.heap.size Aw_1 (V_RenamedRule x0_0 x1_0 x1_1).2.length cw_1 (V_RenamedRule x0_0 x1_0 x1_1).2 ∧ Below w2.heap.size w2 w')
  case first =>
    have HKS : Hid (∀ w', Below w2.heap.size w2 w' → (fun w' => Below w2.heap.size w2 w' ∧ w'.cell? ⟨w.heap.size, 0, none⟩ = some (.slice A0_0 n0_0 c0_0) ∧ w'.cell? ⟨w.heap.size + 1, 0, none⟩ = some (.slice A1_0 n1_0 c1_0) ∧ w'.cell? ⟨w.heap.size + 1, 1, none⟩ = some (.slice A1_1 n1_1 c1_1)) w') := Lib.hid (fun w' h_ => ⟨h_, keepC h_ bx0, keepC h_ bx1_0, keepC h_ bx1_1⟩)
    go_region_held3 (fun w' => Below w2.heap.size w2 w' ∧ w'.cell? ⟨w.heap.size, 0, none⟩ = some (.slice A0_0 n0_0 c0_0) ∧ w'.cell? ⟨w.heap.size + 1, 0, none⟩ = some (.slice A1_0 n1_0 c1_0) ∧ w'.cell? ⟨w.heap.size + 1, 1, none⟩ = some (.slice A1_1 n1_1 c1_1))
      (first | exact HKS.out _ (Below.refl _ _).drew | exact HKS.out _ (keepS0 ha_0 (And.left (by assumption))) | exact HKS.out _ (keepS0 ha_1 (And.left (by assumption))) | exact HKS.out _ (keepS0 haf (And.left (by assumption))) | exact HKS.out _ (belA (And.left (by assumption))) | exact HKS.out _ (belR (by have e_ : w2.drew.heap.size = w2.heap.size := rfl; have q_0 := ha_0.size; have q_1 := ha_1.size; have qf := haf.size; (try simp only [World.size_alloc, World.size_drew] at q_0 q_1 qf ⊢); first | omega | (dsimp only; omega)) (And.left (by assumption))) | exact HKS.out _ (Below.setCell (Below.setCell (And.left (by assumption)) (by have e_ : w2.drew.heap.size = w2.heap.size := rfl; have q_0 := ha_0.size; have q_1 := ha_1.size; have qf := haf.size; (try simp only [World.size_alloc, World.size_drew] at q_0 q_1 qf ⊢); first | omega | (dsimp only; omega)) _) (by have e_ : w2.drew.heap.size = w2.heap.size := rfl; have q_0 := ha_0.size; have q_1 := ha_1.size; have qf := haf.size; (try simp only [World.size_alloc, World.size_drew] at q_0 q_1 qf ⊢); first | omega | (dsimp only; omega)) _))
      ((first | (go_at_call 17; refine (toSig_any A0_0 n0_0 c0_0 x0_0 _ ?_ g0).mono ?_; exact riS (h0_0.below hB) (by assumption); rintro e wa_0 ⟨as0_0, rfl, os0_0, ha_0⟩; (first | have hbx_0 := (Blk.new _ 69 #[.slice none 0 0, .slice none 0 0]).below ha_0 | have hbx_0 := (Blk.new _ 69 #[.slice none 0 0, .slice none 0 0]).drew.below ha_0 | skip)) | (go_at_call 52; refine (toRule_any A1_0 n1_0 c1_0 x1_0 A1_1 n1_1 c1_1 x1_1 _ ?_ ?_ g1).mono ?_; exact riS (h1_0.below hB) (by assumption); exact riS (h1_1.below hB) (by assumption); rintro e wa_1 ⟨as1_0, as1_1, rfl, os1_0, os1_1, nes1, ha_1⟩; (first | replace os0_0 := os0_0.below ha_1 | replace os0_0 := (os0_0.below ((Below.refl _ _).alloc (Nat.le_refl _) _)).below ha_1); (first | have hbx_1 := hbx_0.below ha_1 | have hbx_1 := (Blk.new _ 69 #[.slice none 0 0, .slice none 0 0]).below ha_1 | have hbx_1 := (Blk.new _ 69 #[.slice none 0 0, .slice none 0 0]).drew.below ha_1 | skip)) | (go_at_call 51; refine (S_RenamedRule (some ⟨as0_0, 0, none⟩) n0_0 n0_0 x0_0 (some ⟨as1_0, 0, none⟩) n1_0 n1_0 x1_0 (some ⟨as1_1, 0, none⟩) n1_1 n1_1 x1_1 _ ?_ ?_ ?_ g0 g1).mono ?_; (first | exact os0_0.rd | exact os0_0.rd.below ((Below.refl _ _).alloc (Nat.le_refl _) _)); (first | exact os1_0.rd | exact os1_0.rd.below ((Below.refl _ _).alloc (Nat.le_refl _) _)); (first | exact os1_1.rd | exact os1_1.rd.below ((Below.refl _ _).alloc (Nat.le_refl _) _)); rintro e w3 ⟨Aw_0, cw_0, Aw_1, cw_1, rfl, ow_0, ow_1, new, haf⟩; (first | have hbxf := hbx_1.below haf | have hbxf := (Blk.new _ 69 #[.slice none 0 0, .slice none 0 0]).below haf | have hbxf := (Blk.new _ 69 #[.slice none 0 0, .slice none 0 0]).drew.below haf | skip); (try have hx0 := hbxf.cell 0); (try simp only [List.getElem?_toArray, List.getElem?_cons_zero, List.getElem?_cons_succ] at hx0); (try have hf0 := hbxf.frozen 0); (try have hx1 := hbxf.cell 1); (try simp only [List.getElem?_toArray, List.getElem?_cons_zero, List.getElem?_cons_succ] at hx1); (try have hf1 := hbxf.frozen 1))))
    all_goals (rename_i hS; go_wp2_with fail; go_meet)
    all_goals (first
      | exact ⟨_, Aw_0, cw_0, Aw_1, cw_1, rfl, (by have e_ : w2.drew.heap.size = w2.heap.size := rfl; have q_0 := ha_0.size; have q_1 := ha_1.size; have qf := haf.size; (try simp only [World.size_alloc, World.size_drew] at q_0 q_1 qf ⊢); first | omega | (dsimp only; omega)), (by simp), Blk.new _ _ _, (ow_0.below ((Below.refl _ _).alloc (Nat.le_refl _) _)).hi_ (by have e_ : w2.drew.heap.size = w2.heap.size := rfl; have q_0 := ha_0.size; have q_1 := ha_1.size; have qf := haf.size; (try simp only [World.size_alloc, World.size_drew] at q_0 q_1 qf ⊢); first | omega | (dsimp only; omega)), (ow_1.below ((Below.refl _ _).alloc (Nat.le_refl _) _)).hi_ (by have e_ : w2.drew.heap.size = w2.heap.size := rfl; have q_0 := ha_0.size; have q_1 := ha_1.size; have qf := haf.size; (try simp only [World.size_alloc, World.size_drew] at q_0 q_1 qf ⊢); first | omega | (dsimp only; omega)), hS.1⟩
      | exact ⟨_, Aw_0, cw_0, Aw_1, cw_1, rfl, (by have e_ : w2.drew.heap.size = w2.heap.size := rfl; have q_0 := ha_0.size; have q_1 := ha_1.size; have qf := haf.size; (try simp only [World.size_alloc, World.size_drew] at q_0 q_1 qf ⊢); first | omega | (dsimp only; omega)), (by simp only [World.size_setCell]; exact hbxf.lt), (by simpa using ((hbxf.set_ 0 _).set_ 1 _)), (OI.setBelow (OI.setBelow ow_0 (by have e_ : w2.drew.heap.size = w2.heap.size := rfl; have q_0 := ha_0.size; have q_1 := ha_1.size; have qf := haf.size; (try simp only [World.size_alloc, World.size_drew] at q_0 q_1 qf ⊢); first | omega | (dsimp only; omega)) _) (by have e_ : w2.drew.heap.size = w2.heap.size := rfl; have q_0 := ha_0.size; have q_1 := ha_1.size; have qf := haf.size; (try simp only [World.size_alloc, World.size_drew] at q_0 q_1 qf ⊢); first | omega | (dsimp only; omega)) _).hi_ (by have e_ : w2.drew.heap.size = w2.heap.size := rfl; have q_0 := ha_0.size; have q_1 := ha_1.size; have qf := haf.size; (try simp only [World.size_alloc, World.size_drew] at q_0 q_1 qf ⊢); first | omega | (dsimp only; omega)), (OI.setBelow (OI.setBelow ow_1 (by have e_ : w2.drew.heap.size = w2.heap.size := rfl; have q_0 := ha_0.size; have q_1 := ha_1.size; have qf := haf.size; (try simp only [World.size_alloc, World.size_drew] at q_0 q_1 qf ⊢); first | omega | (dsimp only; omega)) _) (by have e_ : w2.drew.heap.size = w2.heap.size := rfl; have q_0 := ha_0.size; have q_1 := ha_1.size; have qf := haf.size; (try simp only [World.size_alloc, World.size_drew] at q_0 q_1 qf ⊢); first | omega | (dsimp only; omega)) _).hi_ (by have e_ : w2.drew.heap.size = w2.heap.size := rfl; have q_0 := ha_0.size; have q_1 := ha_1.size; have qf := haf.size; (try simp only [World.size_alloc, World.size_drew] at q_0 q_1 qf ⊢); first | omega | (dsimp only; omega)), hS.1⟩)
  rename World => w3
  obtain ⟨bw, Aw_0, cw_0, Aw_1, cw_1, rfl, low, hhw, hkw, ow_0, ow_1, hb3⟩ := hcut
  have zzw := hhw
  have s3 : w2.heap.size + 0 ≤ w3.heap.size := by have := hb3.size; first | omega | (simp at this; omega)
  replace bx0 := keepC hb3 bx0
  replace bx1_0 := keepC hb3 bx1_0
  replace bx1_1 := keepC hb3 bx1_1
  replace hB : Below w.heap.size w w3 := below_then hB hb3 (by have := hB.size; simp <;> omega)
  clear hb3
  replace sb1 : w.heap.size + 1 < w3.heap.size := by omega
  have bwc_0 : w3.cell? ⟨bw, 0, none⟩ = some (.slice Aw_0 (V_RenamedRule x0_0 x1_0 x1_1).1.length cw_0) := by simpa using hkw.cell 0
  have bwc_1 : w3.cell? ⟨bw, 1, none⟩ = some (.slice Aw_1 (V_RenamedRule x0_0 x1_0 x1_1).2.length cw_1) := by simpa using hkw.cell 1
  clear hkw
  go_wp2_with fail
  refine (toSig_any A0_0 n0_0 c0_0 x0_0 _ (h0_0.below hB) g0).mono ?_
  rintro e w4 ⟨ax0_0, rfl, ox0_0, hb4⟩
  have s4 : w3.heap.size + 0 ≤ w4.heap.size := by have := hb4.size; first | omega | (simp at this; omega)
  replace ow_0 := ow_0.below hb4
  replace ow_1 := ow_1.below hb4
  replace bx0 := keepC hb4 bx0
  replace bx1_0 := keepC hb4 bx1_0
  replace bx1_1 := keepC hb4 bx1_1
  replace bwc_0 := keepC hb4 bwc_0
  replace bwc_1 := keepC hb4 bwc_1
  replace hB : Below w.heap.size w w4 := below_then hB hb4 (by have := hB.size; simp <;> omega)
  clear hb4
  replace sb1 : w.heap.size + 1 < w4.heap.size := by omega
  replace hhw : bw < w4.heap.size := by omega
  replace ox0_0 : OX w4 (w3.heap.size) w4.heap.size (some ⟨ax0_0, 0, none⟩) n0_0 n0_0 x0_0 := ox0_0.hi_ (by simp)
  go_wp2_with fail
  refine (toRule_any A1_0 n1_0 c1_0 x1_0 A1_1 n1_1 c1_1 x1_1 _ (h1_0.below (hB.alloc (by have := hB.size; simp <;> omega) _)) (h1_1.below (hB.alloc (by have := hB.size; simp <;> omega) _)) g1).mono ?_
  rintro e w5 ⟨ax1_0, ax1_1, rfl, ox1_0, ox1_1, nex1, hb5⟩
  have s5 : w4.heap.size + 1 ≤ w5.heap.size := by have := hb5.size; first | omega | (simp at this; omega)
  replace ow_0 := (ow_0.below ((Below.refl _ _).alloc (Nat.le_refl _) _)).below hb5
  replace ow_1 := (ow_1.below ((Below.refl _ _).alloc (Nat.le_refl _) _)).below hb5
  replace ox0_0 := (ox0_0.below ((Below.refl _ _).alloc (Nat.le_refl _) _)).below hb5
  replace bx0 := keepC hb5 (keepC ((Below.refl _ _).alloc (Nat.le_refl _) _) bx0)
  replace bx1_0 := keepC hb5 (keepC ((Below.refl _ _).alloc (Nat.le_refl _) _) bx1_0)
  replace bx1_1 := keepC hb5 (keepC ((Below.refl _ _).alloc (Nat.le_refl _) _) bx1_1)
  replace bwc_0 := keepC hb5 (keepC ((Below.refl _ _).alloc (Nat.le_refl _) _) bwc_0)
  replace bwc_1 := keepC hb5 (keepC ((Below.refl _ _).alloc (Nat.le_refl _) _) bwc_1)
  have by0 : w5.cell? ⟨w4.heap.size, 0, none⟩ = some (.slice (some ⟨ax0_0, 0, none⟩) n0_0 n0_0) := (hb5.cell (by simp <;> omega)).trans (by simp)
  replace hB : Below w.heap.size w w5 := below_then (hB.alloc (by have := hB.size; simp <;> omega) _) hb5 (by have := hB.size; simp <;> omega)
  clear hb5
  have sy0 : w4.heap.size < w5.heap.size := by omega
  replace sb1 : w.heap.size + 1 < w5.heap.size := by omega
  replace hhw : bw < w5.heap.size := by omega
  replace nex1 := ne_blk nex1
  replace ox1_0 : OX w5 (w4.heap.size + 1) w5.heap.size (some ⟨ax1_0, 0, none⟩) n1_0 n1_0 x1_0 := ox1_0.hi_ (by simp)
  replace ox1_1 : OX w5 (w4.heap.size + 1) w5.heap.size (some ⟨ax1_1, 0, none⟩) n1_1 n1_1 x1_1 := ox1_1.hi_ (by simp)
  go_wp2_with fail
  refine (I_RenamedRule (some ⟨ax0_0, 0, none⟩) n0_0 n0_0 x0_0 (some ⟨ax1_0, 0, none⟩) n1_0 n1_0 x1_0 (some ⟨ax1_1, 0, none⟩) n1_1 n1_1 x1_1 _ (ox0_0.rd.below ((Below.refl _ _).alloc (Nat.le_refl _) _)) (ox1_0.rd.below ((Below.refl _ _).alloc (Nat.le_refl _) _)) (ox1_1.rd.below ((Below.refl _ _).alloc (Nat.le_refl _) _)) g0 g1).mono ?_
  rintro e w6 ⟨Ag_0, cg_0, Ag_1, cg_1, rfl, og_0, og_1, neg, hb6⟩
  have s6 : w5.heap.size + 1 ≤ w6.heap.size := by have := hb6.size; first | omega | (simp at this; omega)
  replace ow_0 := (ow_0.below ((Below.refl _ _).alloc (Nat.le_refl _) _)).below hb6
  replace ow_1 := (ow_1.below ((Below.refl _ _).alloc (Nat.le_refl _) _)).below hb6
  replace ox0_0 := (ox0_0.below ((Below.refl _ _).alloc (Nat.le_refl _) _)).below hb6
  replace ox1_0 := (ox1_0.below ((Below.refl _ _).alloc (Nat.le_refl _) _)).below hb6
  replace ox1_1 := (ox1_1.below ((Below.refl _ _).alloc (Nat.le_refl _) _)).below hb6
  replace bx0 := keepC hb6 (keepC ((Below.refl _ _).alloc (Nat.le_refl _) _) bx0)
  replace bx1_0 := keepC hb6 (keepC ((Below.refl _ _).alloc (Nat.le_refl _) _) bx1_0)
  replace bx1_1 := keepC hb6 (keepC ((Below.refl _ _).alloc (Nat.le_refl _) _) bx1_1)
  replace bwc_0 := keepC hb6 (keepC ((Below.refl _ _).alloc (Nat.le_refl _) _) bwc_0)
  replace bwc_1 := keepC hb6 (keepC ((Below.refl _ _).alloc (Nat.le_refl _) _) bwc_1)
  replace by0 := keepC hb6 (keepC ((Below.refl _ _).alloc (Nat.le_refl _) _) by0)
  have by1_0 : w6.cell? ⟨w5.heap.size, 0, none⟩ = some (.slice (some ⟨ax1_0, 0, none⟩) n1_0 n1_0) := (hb6.cell (by simp <;> omega)).trans (by simp)
  have by1_1 : w6.cell? ⟨w5.heap.size, 1, none⟩ = some (.slice (some ⟨ax1_1, 0, none⟩) n1_1 n1_1) := (hb6.cell (by simp <;> omega)).trans (by simp)
  replace hB : Below w.heap.size w w6 := below_then (hB.alloc (by have := hB.size; simp <;> omega) _) hb6 (by have := hB.size; simp <;> omega)
  clear hb6
  replace sy0 : w4.heap.size < w6.heap.size := by omega
  replace sb1 : w.heap.size + 1 < w6.heap.size := by omega
  have sy1 : w5.heap.size < w6.heap.size := by omega
  replace hhw : bw < w6.heap.size := by omega
  replace og_0 : OX w6 (w5.heap.size + 1) w6.heap.size Ag_0 (V_RenamedRule x0_0 x1_0 x1_1).1.length cg_0 (V_RenamedRule x0_0 x1_0 x1_1).1 := og_0.hi_ (by simp)
  replace og_1 : OX w6 (w5.heap.size + 1) w6.heap.size Ag_1 (V_RenamedRule x0_0 x1_0 x1_1).2.length cg_1 (V_RenamedRule x0_0 x1_0 x1_1).2 := og_1.hi_ (by simp)
  go_wp2_with fail
  refine (eqRule_same Ag_0 _ cg_0 (V_RenamedRule x0_0 x1_0 x1_1).1 Ag_1 _ cg_1 (V_RenamedRule x0_0 x1_0 x1_1).2 Aw_0 cw_0 Aw_1 cw_1 _ (og_0.rd.below ((Below.refl _ _).alloc (Nat.le_refl _) _)) (og_1.rd.below ((Below.refl _ _).alloc (Nat.le_refl _) _)) (ow_0.rd.below ((Below.refl _ _).alloc (Nat.le_refl _) _)) (ow_1.rd.below ((Below.refl _ _).alloc (Nat.le_refl _) _)) (by have := bd_RenamedRule x0_0 x1_0 x1_1; omega)).mono ?_
  rintro e w7 ⟨rfl, hb7⟩
  have s7 : w6.heap.size + 1 ≤ w7.heap.size := by have := hb7.size; first | omega | (simp at this; omega)
  replace ow_0 := (ow_0.below ((Below.refl _ _).alloc (Nat.le_refl _) _)).below hb7
  replace ow_1 := (ow_1.below ((Below.refl _ _).alloc (Nat.le_refl _) _)).below hb7
  replace ox0_0 := (ox0_0.below ((Below.refl _ _).alloc (Nat.le_refl _) _)).below hb7
  replace ox1_0 := (ox1_0.below ((Below.refl _ _).alloc (Nat.le_refl _) _)).below hb7
  replace ox1_1 := (ox1_1.below ((Below.refl _ _).alloc (Nat.le_refl _) _)).below hb7
  replace og_0 := (og_0.below ((Below.refl _ _).alloc (Nat.le_refl _) _)).below hb7
  replace og_1 := (og_1.below ((Below.refl _ _).alloc (Nat.le_refl _) _)).below hb7
  replace bx0 := keepC hb7 (keepC ((Below.refl _ _).alloc (Nat.le_refl _) _) bx0)
  replace bx1_0 := keepC hb7 (keepC ((Below.refl _ _).alloc (Nat.le_refl _) _) bx1_0)
  replace bx1_1 := keepC hb7 (keepC ((Below.refl _ _).alloc (Nat.le_refl _) _) bx1_1)
  replace bwc_0 := keepC hb7 (keepC ((Below.refl _ _).alloc (Nat.le_refl _) _) bwc_0)
  replace bwc_1 := keepC hb7 (keepC ((Below.refl _ _).alloc (Nat.le_refl _) _) bwc_1)
  replace by0 := keepC hb7 (keepC ((Below.refl _ _).alloc (Nat.le_refl _) _) by0)
  replace by1_0 := keepC hb7 (keepC ((Below.refl _ _).alloc (Nat.le_refl _) _) by1_0)
  replace by1_1 := keepC hb7 (keepC ((Below.refl _ _).alloc (Nat.le_refl _) _) by1_1)
  have bg_0 : w7.cell? ⟨w6.heap.size, 0, none⟩ = some (.slice Ag_0 (V_RenamedRule x0_0 x1_0 x1_1).1.length cg_0) := (hb7.cell (by simp <;> omega)).trans (by simp)
  have bg_1 : w7.cell? ⟨w6.heap.size, 1, none⟩ = some (.slice Ag_1 (V_RenamedRule x0_0 x1_0 x1_1).2.length cg_1) := (hb7.cell (by simp <;> omega)).trans (by simp)
  replace hB : Below w.heap.size w w7 := below_then (hB.alloc (by have := hB.size; simp <;> omega) _) hb7 (by have := hB.size; simp <;> omega)
  clear hb7
  replace sy0 : w4.heap.size < w7.heap.size := by omega
  replace sb1 : w.heap.size + 1 < w7.heap.size := by omega
  replace sy1 : w5.heap.size < w7.heap.size := by omega
  replace hhw : bw < w7.heap.size := by omega
  have hhg : w6.heap.size < w7.heap.size := by omega
  go_wp2_with fail
  go_region_held3 (fun w' => Below w7.heap.size w7 w' ∧ w'.cell? ⟨w4.heap.size, 0, none⟩ = some (.slice (some ⟨ax0_0, 0, none⟩) n0_0 n0_0) ∧ w'.cell? ⟨w.heap.size, 0, none⟩ = some (.slice A0_0 n0_0 c0_0))
    (first | exact ⟨(Below.refl _ _).drew, by0, bx0⟩ | exact keepS2 ha1 (by assumption) | exact keepS2 ha2 (by assumption))
    ((first | (go_at_call 17; refine (toSig_any A0_0 n0_0 c0_0 x0_0 _ ?_ g0).mono ?_; exact riS (h0_0.below hB) (by assumption); rintro e wa ⟨a0, rfl, oa0, ha1⟩) | (go_at_call 21; refine (eqSig_same (some ⟨ax0_0, 0, none⟩) n0_0 n0_0 x0_0 _ _ _ ?_ ?_ (by omega)).mono ?_; exact ox0_0.rd.below (And.left (by assumption)); exact oa0.rd; rintro e w8 ⟨rfl, ha2⟩)))
  rename_i hS
  have hb8 := hS.1
  clear hS oa0 ha1 ha2
  have s8 : w7.heap.size + 0 ≤ w8.heap.size := by have := hb8.size; first | omega | (simp at this; omega)
  replace ow_0 := ow_0.below hb8
  replace ow_1 := ow_1.below hb8
  replace ox0_0 := ox0_0.below hb8
  replace ox1_0 := ox1_0.below hb8
  replace ox1_1 := ox1_1.below hb8
  replace og_0 := og_0.below hb8
  replace og_1 := og_1.below hb8
  replace bx0 := keepC hb8 bx0
  replace bx1_0 := keepC hb8 bx1_0
  replace bx1_1 := keepC hb8 bx1_1
  replace bwc_0 := keepC hb8 bwc_0
  replace bwc_1 := keepC hb8 bwc_1
  replace by0 := keepC hb8 by0
  replace by1_0 := keepC hb8 by1_0
  replace by1_1 := keepC hb8 by1_1
  replace bg_0 := keepC hb8 bg_0
  replace bg_1 := keepC hb8 bg_1
  replace hB : Below w.heap.size w w8 := below_then hB hb8 (by have := hB.size; simp <;> omega)
  clear hb8
  replace sy0 : w4.heap.size < w8.heap.size := by omega
  replace sb1 : w.heap.size + 1 < w8.heap.size := by omega
  replace sy1 : w5.heap.size < w8.heap.size := by omega
  replace hhw : bw < w8.heap.size := by omega
  replace hhg : w6.heap.size < w8.heap.size := by omega
  go_wp2_with fail
  go_region_held3 (fun w' => Below w8.heap.size w8 w' ∧ w'.cell? ⟨w5.heap.size, 0, none⟩ = some (.slice (some ⟨ax1_0, 0, none⟩) n1_0 n1_0) ∧ w'.cell? ⟨w5.heap.size, 1, none⟩ = some (.slice (some ⟨ax1_1, 0, none⟩) n1_1 n1_1) ∧ w'.cell? ⟨w.heap.size + 1, 0, none⟩ = some (.slice A1_0 n1_0 c1_0) ∧ w'.cell? ⟨w.heap.size + 1, 1, none⟩ = some (.slice A1_1 n1_1 c1_1))
    (first | exact ⟨(Below.refl _ _).drew, by1_0, by1_1, bx1_0, bx1_1⟩ | exact keepS4 ha1 (by assumption) | exact keepS4 ha2 (by assumption))
    ((first | (go_at_call 52; refine (toRule_any A1_0 n1_0 c1_0 x1_0 A1_1 n1_1 c1_1 x1_1 _ ?_ ?_ g1).mono ?_; exact riS (h1_0.below hB) (by assumption); exact riS (h1_1.below hB) (by assumption); rintro e wa ⟨a0, a1, rfl, oa0, oa1, nea, ha1⟩) | (go_at_call 54; refine (eqRule_same (some ⟨ax1_0, 0, none⟩) n1_0 n1_0 x1_0 (some ⟨ax1_1, 0, none⟩) n1_1 n1_1 x1_1 _ _ _ _ _ ?_ ?_ ?_ ?_ (by omega)).mono ?_; exact ox1_0.rd.below (And.left (by assumption)); exact ox1_1.rd.below (And.left (by assumption)); exact oa0.rd; exact oa1.rd; rintro e w9 ⟨rfl, ha2⟩)))
  rename_i hS
  have hb9 := hS.1
  clear hS oa0 oa1 ha1 ha2 nea
  have s9 : w8.heap.size + 0 ≤ w9.heap.size := by have := hb9.size; first | omega | (simp at this; omega)
  replace ow_0 := ow_0.below hb9
  replace ow_1 := ow_1.below hb9
  replace ox0_0 := ox0_0.below hb9
  replace ox1_0 := ox1_0.below hb9
  replace ox1_1 := ox1_1.below hb9
  replace og_0 := og_0.below hb9
  replace og_1 := og_1.below hb9
  replace bx0 := keepC hb9 bx0
  replace bx1_0 := keepC hb9 bx1_0
  replace bx1_1 := keepC hb9 bx1_1
  replace bwc_0 := keepC hb9 bwc_0
  replace bwc_1 := keepC hb9 bwc_1
  replace by0 := keepC hb9 by0
  replace by1_0 := keepC hb9 by1_0
  replace by1_1 := keepC hb9 by1_1
  replace bg_0 := keepC hb9 bg_0
  replace bg_1 := keepC hb9 bg_1
  replace hB : Below w.heap.size w w9 := below_then hB hb9 (by have := hB.size; simp <;> omega)
  clear hb9
  replace sy0 : w4.heap.size < w9.heap.size := by omega
  replace sb1 : w.heap.size + 1 < w9.heap.size := by omega
  replace sy1 : w5.heap.size < w9.heap.size := by omega
  replace hhw : bw < w9.heap.size := by omega
  replace hhg : w6.heap.size < w9.heap.size := by omega
  go_wp2_with fail
  have mk10 := markSig_any _ _ (some ⟨ax0_0, 0, none⟩) n0_0 n0_0 x0_0 (1) _ ox0_0 (by omega) (by omega) 
  refine mk10.mono ?_
  clear mk10
  rintro e w10 ⟨rfl, _, ho10⟩
  have s10 : w9.heap.size ≤ w10.heap.size := ho10.size
  replace ow_0 := ow_0.only ho10 (by first | omega | (dsimp only; omega))
  replace ow_1 := ow_1.only ho10 (by first | omega | (dsimp only; omega))
  replace ox1_0 := ox1_0.only ho10 (by first | omega | (dsimp only; omega))
  replace ox1_1 := ox1_1.only ho10 (by first | omega | (dsimp only; omega))
  replace og_0 := og_0.only ho10 (by first | omega | (dsimp only; omega))
  replace og_1 := og_1.only ho10 (by first | omega | (dsimp only; omega))
  replace bx0 := keepO ho10 (by first | omega | (dsimp only; omega)) bx0
  replace bx1_0 := keepO ho10 (by first | omega | (dsimp only; omega)) bx1_0
  replace bx1_1 := keepO ho10 (by first | omega | (dsimp only; omega)) bx1_1
  replace bwc_0 := keepO ho10 (by first | omega | (dsimp only; omega)) bwc_0
  replace bwc_1 := keepO ho10 (by first | omega | (dsimp only; omega)) bwc_1
  replace by0 := keepO ho10 (by first | omega | (dsimp only; omega)) by0
  replace by1_0 := keepO ho10 (by first | omega | (dsimp only; omega)) by1_0
  replace by1_1 := keepO ho10 (by first | omega | (dsimp only; omega)) by1_1
  replace bg_0 := keepO ho10 (by first | omega | (dsimp only; omega)) bg_0
  replace bg_1 := keepO ho10 (by first | omega | (dsimp only; omega)) bg_1
  replace hB : Below w.heap.size w w10 := hB.trans (ho10.below (by first | omega | (dsimp only; omega)) hB.size)
  clear ho10
  replace sy0 : w4.heap.size < w10.heap.size := by omega
  replace sb1 : w.heap.size + 1 < w10.heap.size := by omega
  replace sy1 : w5.heap.size < w10.heap.size := by omega
  replace hhw : bw < w10.heap.size := by omega
  replace hhg : w6.heap.size < w10.heap.size := by omega
  clear ox0_0
  go_wp2_with fail
  have mk11 := markRule_any _ _ (some ⟨ax1_0, 0, none⟩) n1_0 n1_0 x1_0 (some ⟨ax1_1, 0, none⟩) n1_1 n1_1 x1_1 (1 + ↑(n0_0)) _ ox1_0 ox1_1 nex1 (by omega) (by omega) 
  refine mk11.mono ?_
  clear mk11
  rintro e w11 ⟨rfl, _, _, ho11⟩
  have s11 : w10.heap.size ≤ w11.heap.size := ho11.size
  replace ow_0 := ow_0.only ho11 (by first | omega | (dsimp only; omega))
  replace ow_1 := ow_1.only ho11 (by first | omega | (dsimp only; omega))
  replace og_0 := og_0.only ho11 (by first | omega | (dsimp only; omega))
  replace og_1 := og_1.only ho11 (by first | omega | (dsimp only; omega))
  replace bx0 := keepO ho11 (by first | omega | (dsimp only; omega)) bx0
  replace bx1_0 := keepO ho11 (by first | omega | (dsimp only; omega)) bx1_0
  replace bx1_1 := keepO ho11 (by first | omega | (dsimp only; omega)) bx1_1
  replace bwc_0 := keepO ho11 (by first | omega | (dsimp only; omega)) bwc_0
  replace bwc_1 := keepO ho11 (by first | omega | (dsimp only; omega)) bwc_1
  replace by0 := keepO ho11 (by first | omega | (dsimp only; omega)) by0
  replace by1_0 := keepO ho11 (by first | omega | (dsimp only; omega)) by1_0
  replace by1_1 := keepO ho11 (by first | omega | (dsimp only; omega)) by1_1
  replace bg_0 := keepO ho11 (by first | omega | (dsimp only; omega)) bg_0
  replace bg_1 := keepO ho11 (by first | omega | (dsimp only; omega)) bg_1
  replace hB : Below w.heap.size w w11 := hB.trans (ho11.below (by first | omega | (dsimp only; omega)) hB.size)
  clear ho11
  replace sy0 : w4.heap.size < w11.heap.size := by omega
  replace sb1 : w.heap.size + 1 < w11.heap.size := by omega
  replace sy1 : w5.heap.size < w11.heap.size := by omega
  replace hhw : bw < w11.heap.size := by omega
  replace hhg : w6.heap.size < w11.heap.size := by omega
  clear ox1_0
  clear ox1_1
  have kn : decide ((1 + ↑(n0_0) + ↑(n1_0 + n1_1) : Int) < 0) = false := by simp; omega
  go_wp2_with fail
  refine (eqRule_same Ag_0 _ cg_0 (V_RenamedRule x0_0 x1_0 x1_1).1 Ag_1 _ cg_1 (V_RenamedRule x0_0 x1_0 x1_1).2 Aw_0 cw_0 Aw_1 cw_1 _ og_0.rd og_1.rd ow_0.rd ow_1.rd (by have := bd_RenamedRule x0_0 x1_0 x1_1; omega)).mono ?_
  rintro e w12 ⟨rfl, hb12⟩
  have s12 : w11.heap.size + 0 ≤ w12.heap.size := by have := hb12.size; first | omega | (simp at this; omega)
  replace ow_0 := ow_0.below hb12
  replace ow_1 := ow_1.below hb12
  replace og_0 := og_0.below hb12
  replace og_1 := og_1.below hb12
  replace bx0 := keepC hb12 bx0
  replace bx1_0 := keepC hb12 bx1_0
  replace bx1_1 := keepC hb12 bx1_1
  replace bwc_0 := keepC hb12 bwc_0
  replace bwc_1 := keepC hb12 bwc_1
  replace by0 := keepC hb12 by0
  replace by1_0 := keepC hb12 by1_0
  replace by1_1 := keepC hb12 by1_1
  replace bg_0 := keepC hb12 bg_0
  replace bg_1 := keepC hb12 bg_1
  replace hB : Below w.heap.size w w12 := below_then hB hb12 (by have := hB.size; simp <;> omega)
  clear hb12
  replace sy0 : w4.heap.size < w12.heap.size := by omega
  replace sb1 : w.heap.size + 1 < w12.heap.size := by omega
  replace sy1 : w5.heap.size < w12.heap.size := by omega
  replace hhw : bw < w12.heap.size := by omega
  replace hhg : w6.heap.size < w12.heap.size := by omega
  have bdl := bd_RenamedRule x0_0 x1_0 x1_1
  go_wp2_with fail
  have mk13 := markRule_any _ _ Ag_0 _ cg_0 (V_RenamedRule x0_0 x1_0 x1_1).1 Ag_1 _ cg_1 (V_RenamedRule x0_0 x1_0 x1_1).2 1 _ og_0 og_1 neg (by omega) (by omega)
  refine mk13.mono ?_
  clear mk13
  rintro e w13 ⟨rfl, og_0, og_1, ho13⟩
  have s13 : w12.heap.size ≤ w13.heap.size := ho13.size
  replace ow_0 := ow_0.only ho13 (by first | omega | (dsimp only; omega))
  replace ow_1 := ow_1.only ho13 (by first | omega | (dsimp only; omega))
  replace bx0 := keepO ho13 (by first | omega | (dsimp only; omega)) bx0
  replace bx1_0 := keepO ho13 (by first | omega | (dsimp only; omega)) bx1_0
  replace bx1_1 := keepO ho13 (by first | omega | (dsimp only; omega)) bx1_1
  replace bwc_0 := keepO ho13 (by first | omega | (dsimp only; omega)) bwc_0
  replace bwc_1 := keepO ho13 (by first | omega | (dsimp only; omega)) bwc_1
  replace by0 := keepO ho13 (by first | omega | (dsimp only; omega)) by0
  replace by1_0 := keepO ho13 (by first | omega | (dsimp only; omega)) by1_0
  replace by1_1 := keepO ho13 (by first | omega | (dsimp only; omega)) by1_1
  replace bg_0 := keepO ho13 (by first | omega | (dsimp only; omega)) bg_0
  replace bg_1 := keepO ho13 (by first | omega | (dsimp only; omega)) bg_1
  replace hB : Below w.heap.size w w13 := hB.trans (ho13.below (by first | omega | (dsimp only; omega)) hB.size)
  clear ho13
  replace sy0 : w4.heap.size < w13.heap.size := by omega
  replace sb1 : w.heap.size + 1 < w13.heap.size := by omega
  replace sy1 : w5.heap.size < w13.heap.size := by omega
  replace hhw : bw < w13.heap.size := by omega
  replace hhg : w6.heap.size < w13.heap.size := by omega
  go_wp2_with fail
  refine (heldRule_any Ag_0 _ cg_0 Ag_1 _ cg_1 1 _ og_0.rd og_1.rd (by omega) (by omega)).mono ?_
  rintro e w14 ⟨rfl, hb14⟩
  have s14 : w13.heap.size + 0 ≤ w14.heap.size := by have := hb14.size; first | omega | (simp at this; omega)
  replace ow_0 := ow_0.below hb14
  replace ow_1 := ow_1.below hb14
  replace og_0 := og_0.below hb14
  replace og_1 := og_1.below hb14
  replace bx0 := keepC hb14 bx0
  replace bx1_0 := keepC hb14 bx1_0
  replace bx1_1 := keepC hb14 bx1_1
  replace bwc_0 := keepC hb14 bwc_0
  replace bwc_1 := keepC hb14 bwc_1
  replace by0 := keepC hb14 by0
  replace by1_0 := keepC hb14 by1_0
  replace by1_1 := keepC hb14 by1_1
  replace bg_0 := keepC hb14 bg_0
  replace bg_1 := keepC hb14 bg_1
  replace hB : Below w.heap.size w w14 := below_then hB hb14 (by have := hB.size; simp <;> omega)
  clear hb14
  replace sy0 : w4.heap.size < w14.heap.size := by omega
  replace sb1 : w.heap.size + 1 < w14.heap.size := by omega
  replace sy1 : w5.heap.size < w14.heap.size := by omega
  replace hhw : bw < w14.heap.size := by omega
  replace hhg : w6.heap.size < w14.heap.size := by omega
  go_wp2_with fail
  go_cut [13] from 14 (fun s13 w' => ∃ (bh : Nat) (Ah_0 : Option Addr) (ch_0 : Nat) (Ah_1 : Option Addr) (ch_1 : Nat), s13 = .pointer (some ⟨bh, 0, none⟩) ∧ w14.heap.size ≤ bh ∧ bh < w'.heap.size ∧ Blk w' bh 69 #[.slice Ah_0 (V_RenamedRule x0_0 x1_0 x1_1).1.length ch_0, .slice Ah_1 (V_RenamedRule x0_0 x1_0 x1_1).2.length ch_1] ∧ OX w' w14.heap.size w'.heap.size Ah_0 (V_RenamedRule x0_0 x1_0 x1_1).1.length ch_0 (V_RenamedRule x0_0 x1_0 x1_1).1 ∧ OX w' w14.heap.size w'.heap.size Ah_1 (V_RenamedRule x0_0 x1_0 x1_1).2.length ch_1 (V_RenamedRule x0_0 x1_0 x1_1).2 ∧ Below w14.heap.size w14 w')
  case first =>
    have HKS : Hid (∀ w', Below w14.heap.size w14 w' → (fun w' => Below w14.heap.size w14 w' ∧ w'.cell? ⟨w.heap.size, 0, none⟩ = some (.slice A0_0 n0_0 c0_0) ∧ w'.cell? ⟨w.heap.size + 1, 0, none⟩ = some (.slice A1_0 n1_0 c1_0) ∧ w'.cell? ⟨w.heap.size + 1, 1, none⟩ = some (.slice A1_1 n1_1 c1_1)) w') := Lib.hid (fun w' h_ => ⟨h_, keepC h_ bx0, keepC h_ bx1_0, keepC h_ bx1_1⟩)
    go_region_held3 (fun w' => Below w14.heap.size w14 w' ∧ w'.cell? ⟨w.heap.size, 0, none⟩ = some (.slice A0_0 n0_0 c0_0) ∧ w'.cell? ⟨w.heap.size + 1, 0, none⟩ = some (.slice A1_0 n1_0 c1_0) ∧ w'.cell? ⟨w.heap.size + 1, 1, none⟩ = some (.slice A1_1 n1_1 c1_1))
      (first | exact HKS.out _ (Below.refl _ _).drew | exact HKS.out _ (keepS0 ha_0 (And.left (by assumption))) | exact HKS.out _ (keepS0 ha_1 (And.left (by assumption))) | exact HKS.out _ (keepS0 haf (And.left (by assumption))) | exact HKS.out _ (belA (And.left (by assumption))) | exact HKS.out _ (belR (by have e_ : w14.drew.heap.size = w14.heap.size := rfl; have q_0 := ha_0.size; have q_1 := ha_1.size; have qf := haf.size; (try simp only [World.size_alloc, World.size_drew] at q_0 q_1 qf ⊢); first | omega | (dsimp only; omega)) (And.left (by assumption))) | exact HKS.out _ (Below.setCell (Below.setCell (And.left (by assumption)) (by have e_ : w14.drew.heap.size = w14.heap.size := rfl; have q_0 := ha_0.size; have q_1 := ha_1.size; have qf := haf.size; (try simp only [World.size_alloc, World.size_drew] at q_0 q_1 qf ⊢); first | omega | (dsimp only; omega)) _) (by have e_ : w14.drew.heap.size = w14.heap.size := rfl; have q_0 := ha_0.size; have q_1 := ha_1.size; have qf := haf.size; (try simp only [World.size_alloc, World.size_drew] at q_0 q_1 qf ⊢); first | omega | (dsimp only; omega)) _))
      ((first | (go_at_call 17; refine (toSig_any A0_0 n0_0 c0_0 x0_0 _ ?_ g0).mono ?_; exact riS (h0_0.below hB) (by assumption); rintro e wa_0 ⟨at0_0, rfl, ot0_0, ha_0⟩; (first | have hbx_0 := (Blk.new _ 69 #[.slice none 0 0, .slice none 0 0]).below ha_0 | have hbx_0 := (Blk.new _ 69 #[.slice none 0 0, .slice none 0 0]).drew.below ha_0 | skip)) | (go_at_call 52; refine (toRule_any A1_0 n1_0 c1_0 x1_0 A1_1 n1_1 c1_1 x1_1 _ ?_ ?_ g1).mono ?_; exact riS (h1_0.below hB) (by assumption); exact riS (h1_1.below hB) (by assumption); rintro e wa_1 ⟨at1_0, at1_1, rfl, ot1_0, ot1_1, net1, ha_1⟩; (first | replace ot0_0 := ot0_0.below ha_1 | replace ot0_0 := (ot0_0.below ((Below.refl _ _).alloc (Nat.le_refl _) _)).below ha_1); (first | have hbx_1 := hbx_0.below ha_1 | have hbx_1 := (Blk.new _ 69 #[.slice none 0 0, .slice none 0 0]).below ha_1 | have hbx_1 := (Blk.new _ 69 #[.slice none 0 0, .slice none 0 0]).drew.below ha_1 | skip)) | (go_at_call 53; refine (I_RenamedRule (some ⟨at0_0, 0, none⟩) n0_0 n0_0 x0_0 (some ⟨at1_0, 0, none⟩) n1_0 n1_0 x1_0 (some ⟨at1_1, 0, none⟩) n1_1 n1_1 x1_1 _ ?_ ?_ ?_ g0 g1).mono ?_; (first | exact ot0_0.rd | exact ot0_0.rd.below ((Below.refl _ _).alloc (Nat.le_refl _) _)); (first | exact ot1_0.rd | exact ot1_0.rd.below ((Below.refl _ _).alloc (Nat.le_refl _) _)); (first | exact ot1_1.rd | exact ot1_1.rd.below ((Below.refl _ _).alloc (Nat.le_refl _) _)); rintro e w15 ⟨Ah_0, ch_0, Ah_1, ch_1, rfl, oh_0, oh_1, neh, haf⟩; (first | have hbxf := hbx_1.below haf | have hbxf := (Blk.new _ 69 #[.slice none 0 0, .slice none 0 0]).below haf | have hbxf := (Blk.new _ 69 #[.slice none 0 0, .slice none 0 0]).drew.below haf | skip); (try have hx0 := hbxf.cell 0); (try simp only [List.getElem?_toArray, List.getElem?_cons_zero, List.getElem?_cons_succ] at hx0); (try have hf0 := hbxf.frozen 0); (try have hx1 := hbxf.cell 1); (try simp only [List.getElem?_toArray, List.getElem?_cons_zero, List.getElem?_cons_succ] at hx1); (try have hf1 := hbxf.frozen 1))))
    all_goals (rename_i hS; go_wp2_with fail; go_meet)
    all_goals (first
      | exact ⟨_, Ah_0, ch_0, Ah_1, ch_1, rfl, (by have e_ : w14.drew.heap.size = w14.heap.size := rfl; have q_0 := ha_0.size; have q_1 := ha_1.size; have qf := haf.size; (try simp only [World.size_alloc, World.size_drew] at q_0 q_1 qf ⊢); first | omega | (dsimp only; omega)), (by simp), Blk.new _ _ _, (oh_0.below ((Below.refl _ _).alloc (Nat.le_refl _) _)).hi_ (by have e_ : w14.drew.heap.size = w14.heap.size := rfl; have q_0 := ha_0.size; have q_1 := ha_1.size; have qf := haf.size; (try simp only [World.size_alloc, World.size_drew] at q_0 q_1 qf ⊢); first | omega | (dsimp only; omega)), (oh_1.below ((Below.refl _ _).alloc (Nat.le_refl _) _)).hi_ (by have e_ : w14.drew.heap.size = w14.heap.size := rfl; have q_0 := ha_0.size; have q_1 := ha_1.size; have qf := haf.size; (try simp only [World.size_alloc, World.size_drew] at q_0 q_1 qf ⊢); first | omega | (dsimp only; omega)), hS.1⟩
      | exact ⟨_, Ah_0, ch_0, Ah_1, ch_1, rfl, (by have e_ : w14.drew.heap.size = w14.heap.size := rfl; have q_0 := ha_0.size; have q_1 := ha_1.size; have qf := haf.size; (try simp only [World.size_alloc, World.size_drew] at q_0 q_1 qf ⊢); first | omega | (dsimp only; omega)), (by simp only [World.size_setCell]; exact hbxf.lt), (by simpa using ((hbxf.set_ 0 _).set_ 1 _)), (OI.setBelow (OI.setBelow oh_0 (by have e_ : w14.drew.heap.size = w14.heap.size := rfl; have q_0 := ha_0.size; have q_1 := ha_1.size; have qf := haf.size; (try simp only [World.size_alloc, World.size_drew] at q_0 q_1 qf ⊢); first | omega | (dsimp only; omega)) _) (by have e_ : w14.drew.heap.size = w14.heap.size := rfl; have q_0 := ha_0.size; have q_1 := ha_1.size; have qf := haf.size; (try simp only [World.size_alloc, World.size_drew] at q_0 q_1 qf ⊢); first | omega | (dsimp only; omega)) _).hi_ (by have e_ : w14.drew.heap.size = w14.heap.size := rfl; have q_0 := ha_0.size; have q_1 := ha_1.size; have qf := haf.size; (try simp only [World.size_alloc, World.size_drew] at q_0 q_1 qf ⊢); first | omega | (dsimp only; omega)), (OI.setBelow (OI.setBelow oh_1 (by have e_ : w14.drew.heap.size = w14.heap.size := rfl; have q_0 := ha_0.size; have q_1 := ha_1.size; have qf := haf.size; (try simp only [World.size_alloc, World.size_drew] at q_0 q_1 qf ⊢); first | omega | (dsimp only; omega)) _) (by have e_ : w14.drew.heap.size = w14.heap.size := rfl; have q_0 := ha_0.size; have q_1 := ha_1.size; have qf := haf.size; (try simp only [World.size_alloc, World.size_drew] at q_0 q_1 qf ⊢); first | omega | (dsimp only; omega)) _).hi_ (by have e_ : w14.drew.heap.size = w14.heap.size := rfl; have q_0 := ha_0.size; have q_1 := ha_1.size; have qf := haf.size; (try simp only [World.size_alloc, World.size_drew] at q_0 q_1 qf ⊢); first | omega | (dsimp only; omega)), hS.1⟩)
  rename World => w15
  obtain ⟨bh, Ah_0, ch_0, Ah_1, ch_1, rfl, loh, hhh, hkh, oh_0, oh_1, hb15⟩ := hcut
  have zzh := hhh
  have s15 : w14.heap.size + 0 ≤ w15.heap.size := by have := hb15.size; first | omega | (simp at this; omega)
  replace ow_0 := ow_0.below hb15
  replace ow_1 := ow_1.below hb15
  replace og_0 := og_0.below hb15
  replace og_1 := og_1.below hb15
  replace bx0 := keepC hb15 bx0
  replace bx1_0 := keepC hb15 bx1_0
  replace bx1_1 := keepC hb15 bx1_1
  replace bwc_0 := keepC hb15 bwc_0
  replace bwc_1 := keepC hb15 bwc_1
  replace by0 := keepC hb15 by0
  replace by1_0 := keepC hb15 by1_0
  replace by1_1 := keepC hb15 by1_1
  replace bg_0 := keepC hb15 bg_0
  replace bg_1 := keepC hb15 bg_1
  replace hB : Below w.heap.size w w15 := below_then hB hb15 (by have := hB.size; simp <;> omega)
  clear hb15
  replace sy0 : w4.heap.size < w15.heap.size := by omega
  replace sb1 : w.heap.size + 1 < w15.heap.size := by omega
  replace sy1 : w5.heap.size < w15.heap.size := by omega
  replace hhw : bw < w15.heap.size := by omega
  replace hhg : w6.heap.size < w15.heap.size := by omega
  have bhc_0 : w15.cell? ⟨bh, 0, none⟩ = some (.slice Ah_0 (V_RenamedRule x0_0 x1_0 x1_1).1.length ch_0) := by simpa using hkh.cell 0
  have bhc_1 : w15.cell? ⟨bh, 1, none⟩ = some (.slice Ah_1 (V_RenamedRule x0_0 x1_0 x1_1).2.length ch_1) := by simpa using hkh.cell 1
  clear hkh
  go_wp2_with fail
  refine (eqRule_same Ah_0 _ ch_0 (V_RenamedRule x0_0 x1_0 x1_1).1 Ah_1 _ ch_1 (V_RenamedRule x0_0 x1_0 x1_1).2 Aw_0 cw_0 Aw_1 cw_1 _ oh_0.rd oh_1.rd ow_0.rd ow_1.rd (by have := bd_RenamedRule x0_0 x1_0 x1_1; omega)).mono ?_
  rintro e w16 ⟨rfl, hb16⟩
  have s16 : w15.heap.size + 0 ≤ w16.heap.size := by have := hb16.size; first | omega | (simp at this; omega)
  replace ow_0 := ow_0.below hb16
  replace ow_1 := ow_1.below hb16
  replace og_0 := og_0.below hb16
  replace og_1 := og_1.below hb16
  replace oh_0 := oh_0.below hb16
  replace oh_1 := oh_1.below hb16
  replace bx0 := keepC hb16 bx0
  replace bx1_0 := keepC hb16 bx1_0
  replace bx1_1 := keepC hb16 bx1_1
  replace bwc_0 := keepC hb16 bwc_0
  replace bwc_1 := keepC hb16 bwc_1
  replace by0 := keepC hb16 by0
  replace by1_0 := keepC hb16 by1_0
  replace by1_1 := keepC hb16 by1_1
  replace bg_0 := keepC hb16 bg_0
  replace bg_1 := keepC hb16 bg_1
  replace bhc_0 := keepC hb16 bhc_0
  replace bhc_1 := keepC hb16 bhc_1
  replace hB : Below w.heap.size w w16 := below_then hB hb16 (by have := hB.size; simp <;> omega)
  clear hb16
  replace sy0 : w4.heap.size < w16.heap.size := by omega
  replace sb1 : w.heap.size + 1 < w16.heap.size := by omega
  replace sy1 : w5.heap.size < w16.heap.size := by omega
  replace hhw : bw < w16.heap.size := by omega
  replace hhg : w6.heap.size < w16.heap.size := by omega
  replace hhh : bh < w16.heap.size := by omega
  go_wp2_with fail
  refine (heldRule_any Ag_0 _ cg_0 Ag_1 _ cg_1 1 _ og_0.rd og_1.rd (by omega) (by omega)).mono ?_
  rintro e w17 ⟨rfl, hb17⟩
  have s17 : w16.heap.size + 0 ≤ w17.heap.size := by have := hb17.size; first | omega | (simp at this; omega)
  replace ow_0 := ow_0.below hb17
  replace ow_1 := ow_1.below hb17
  replace og_0 := og_0.below hb17
  replace og_1 := og_1.below hb17
  replace oh_0 := oh_0.below hb17
  replace oh_1 := oh_1.below hb17
  replace bx0 := keepC hb17 bx0
  replace bx1_0 := keepC hb17 bx1_0
  replace bx1_1 := keepC hb17 bx1_1
  replace bwc_0 := keepC hb17 bwc_0
  replace bwc_1 := keepC hb17 bwc_1
  replace by0 := keepC hb17 by0
  replace by1_0 := keepC hb17 by1_0
  replace by1_1 := keepC hb17 by1_1
  replace bg_0 := keepC hb17 bg_0
  replace bg_1 := keepC hb17 bg_1
  replace bhc_0 := keepC hb17 bhc_0
  replace bhc_1 := keepC hb17 bhc_1
  replace hB : Below w.heap.size w w17 := below_then hB hb17 (by have := hB.size; simp <;> omega)
  clear hb17
  replace sy0 : w4.heap.size < w17.heap.size := by omega
  replace sb1 : w.heap.size + 1 < w17.heap.size := by omega
  replace sy1 : w5.heap.size < w17.heap.size := by omega
  replace hhw : bw < w17.heap.size := by omega
  replace hhg : w6.heap.size < w17.heap.size := by omega
  replace hhh : bh < w17.heap.size := by omega
  go_wp2_with fail
  go_ret
  exact ⟨rfl, hB⟩

theorem own : ownKnob Try.prog.godebug = none := by kernel_rfl
theorem laidOut : laidOutB Try.prog = true := by kernel_rfl

set_option maxRecDepth 100000 in
theorem lifted (os : Os) (started : os.Started) (H : Type) (enc : TypeId × Value → H) :
    ReturnsInHanded {} Try.checked os 13 .any (Rows.fnExactRenamedRuleSpec.pre6 enc Try.prog Try.f13 Rows.fnExactRenamedRuleRow.domain false) (Rows.fnExactRenamedRuleSpec.post enc Try.prog Try.f13 false true false false) := by
  refine returnsInHanded_of_change (C := Try.checked) own started (by kernel_rfl) Try.func13
    (ChangeSpec.witness6 (enc := enc) (C := Try.checked) false ⟨#[], #[.agg #[.slice none 0 0], .agg #[.slice none 0 0, .slice none 0 0]], []⟩ 8 (by kernel_rfl) (by kernel_rfl) (by kernel_rfl) (by kernel_rfl)) ?_
  intro W base args ds gs before hval0 hW hcnd _
  have hval : ∀ (j : Nat) t v, Try.f13.params[j]? = some t → args[j]? = some v → Value.okWide Try.prog W .any base t v := hval0
  have hW' := hW
  obtain ⟨p, q, hA0, hV, rfl, hfz, hnd⟩ := hW
  have hA : DataW.TrodAll enc Try.prog W 0 (fun _ => true) true Try.f13.params.toList args.toList ds p := hA0
  rw [Try.params13] at hA hval
  obtain ⟨v0, vs0, d0, ds0, p0, q0, hargs, rfl, rfl, h0, r0⟩ := trodAll_cons hA
  obtain ⟨v1, vs1, d1, ds1, p1, q1, rfl, rfl, rfl, h1, r1⟩ := trodAll_cons r0
  obtain ⟨rfl, rfl, rfl⟩ := trodAll_nil r1
  obtain rfl : args = #[v0, v1] := by cases args; simp_all
  obtain ⟨rfl, rfl⟩ := trodVars_none hV
  have k0 := h0
  have lt0 : ∀ x ∈ p0, x.block < W.heap.size := by obtain ⟨m, hm⟩ := k0; exact DataW.trod_lt m _ _ _ hm
  obtain ⟨A0_0, n0_0, c0_0, z0_0, rfl, R0_0, M0_0⟩ := open_one Try.underlying24 (by kernel_rfl) rfl rfl (by kernel_rfl) Try.underlying22 Try.underlying2 (by kernel_rfl) (hval 0 24 v0 rfl rfl) h0
  unfold maxLen at M0_0
  have k1 := h1
  have lt1 : ∀ x ∈ p1, x.block < W.heap.size := by obtain ⟨m, hm⟩ := k1; exact DataW.trod_lt m _ _ _ hm
  obtain ⟨A0_1, n0_1, c0_1, z0_1, A1_1, n1_1, c1_1, z1_1, rfl, R0_1, M0_1, R1_1, M1_1⟩ := open_two Try.underlying67 (by kernel_rfl) rfl rfl rfl rfl (by kernel_rfl) Try.underlying22 Try.underlying2 (by kernel_rfl) (hval 1 67 v1 rfl rfl) h1
  unfold maxLen at M0_1
  unfold maxLen at M1_1
  clear hA0 hval0
  refine (walk A0_0 n0_0 c0_0 z0_0 A0_1 n0_1 c0_1 z0_1 A1_1 n1_1 c1_1 z1_1 W R0_0 R0_1 R1_1 (by omega) (by omega) (by omega)).mono fun e W' ⟨he, bel⟩ => ?_
  subst he
  exact ⟨_, rfl, _, _, _, [], _, [], hW', trodAll_mk1 (shut_bool Try.underlying4 _), (trodAll_cons_mk (Below.trod laidOut (by kernel_rfl) (of_decide_eq_true (by kernel_rfl)) k0 bel lt0) (trodAll_cons_mk (Below.trod laidOut (by kernel_rfl) (of_decide_eq_true (by kernel_rfl)) k1 bel lt1) trodAll_mk0)), rfl, bel.frame _, fun h => by cases h⟩

theorem over : Rows.fnExactRenamedRuleRow.holds Try.pinned (OpenSpec.ofChange Rows.fnExactRenamedRuleSpec) :=
  OpenClaim.holds_of_wide 13 Try.f13 rfl rfl rfl rfl rfl rfl rfl ⟨rfl, rfl, rfl, rfl, rfl⟩ rfl rfl rfl rfl rfl (by kernel_rfl) Try.func13 (by kernel_rfl)
    (of_decide_eq_true (by kernel_rfl)) (by unfold Func.isWrapper; first | (rw [if_pos (by decide +kernel)]; kernel_rfl) | (rw [if_neg (by decide +kernel)]; exact ⟨rfl, rfl⟩))
    (fun os started H enc _ => lifted os started H enc)

theorem proved : Rows.FnExactRenamedRuleSaid := over
end Go.Proofs.Ytkonnbkldjgomaa.lRenamedRule
