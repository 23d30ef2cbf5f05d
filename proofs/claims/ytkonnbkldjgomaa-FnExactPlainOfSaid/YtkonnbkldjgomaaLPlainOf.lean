/- The statement FnExactPlainOf: whatever the input, it returns true and leaves its arguments alone. No conditions. -/
import Derived.Test.YtkonnbkldjgomaaPlu2
import Derived.Test.YtkonnbkldjgomaaOpenU
import Derived.Test.YtkonnbkldjgomaaMarkR
import Derived.Test.YtkonnbkldjgomaaMark
import Derived.Test.YtkonnbkldjgomaaOpen
import Derived.Test.YtkonnbkldjgomaaRows
import Derived.Deep.RegionHeld3
import Derived.Deep.Cut
namespace Go.Proofs.Ytkonnbkldjgomaa.lPlainOf
open Go.RowKit Go.ChangeShapes Go.WideShapes Go.ChangeAt
open Go.ChangeMaps (open_string shut_string)
set_option linter.unusedVariables false
set_option linter.unusedSimpArgs false

theorem belA {W w : World} {o : Obj} (h : Below W.heap.size W w) : Below W.heap.size W (w.alloc o) := h.alloc h.size o
theorem belR {W w : World} {o o2 : Obj} (hs : W.heap.size ≤ w.heap.size) (h : Below W.heap.size W (w.alloc o)) : Below W.heap.size W (w.alloc o2) :=
  (show Below W.heap.size W w from ⟨h.os, h.tape, h.output, hs, fun k hk => (Below.heap_alloc w o k (by omega)).symm.trans (h.block k hk)⟩).alloc hs o2

set_option maxHeartbeats 8000000 in
set_option maxRecDepth 100000 in
theorem walk (A0_0 : Option Addr) (n0_0 c0_0 : Nat) (x0_0 : List Int) (A1_0 : Option Addr) (n1_0 c1_0 : Nat) (x1_0 : List (List Int)) (w : World) (h0_0 : RI w A0_0 n0_0 x0_0) (h1_0 : RR w A1_0 n1_0 x1_0) (m0_0 : n0_0 ≤ 9223372036854775807) (m1_0 : n1_0 ≤ 9223372036854775807) :
    Calls Try.prog 14 #[.agg #[.slice A0_0 n0_0 c0_0], .agg #[.slice A1_0 n1_0 c1_0]] w fun e w' => e = .returned (.bool true) ∧ Below w.heap.size w w' := by
  go_enter Try.func14, Try.ntmps14
  have hB : Below w.heap.size w w := Below.refl _ _
  go_wp2_with fail
  refine (szSig_any A0_0 n0_0 c0_0 (1048576) _ (by omega) (by omega) m0_0).mono ?_
  rintro e w1 ⟨rfl, hb1⟩
  have s1 : w.heap.size + 2 ≤ w1.heap.size := by have := hb1.size; first | omega | (simp at this; omega)
  have bx0 : w1.cell? ⟨w.heap.size, 0, none⟩ = some (.slice A0_0 n0_0 c0_0) := (hb1.cell (by simp <;> omega)).trans (by simp)
  have bx1 : w1.cell? ⟨w.heap.size + 1, 0, none⟩ = some (.slice A1_0 n1_0 c1_0) := (hb1.cell (by simp <;> omega)).trans (by simp)
  replace hB : Below w.heap.size w w1 := below_then ((hB.alloc (by have := hB.size; simp <;> omega) _).alloc (by have := hB.size; simp <;> omega) _) hb1 (by have := hB.size; simp <;> omega)
  clear hb1
  have sb1 : w.heap.size + 1 < w1.heap.size := by omega
  have z0 := szF_bd (left := 1048576) (n0_0) (by omega)
  obtain ⟨v0, e0⟩ : ∃ v, v = szF (1048576) (n0_0) := ⟨_, rfl⟩
  rw [← e0] at z0 ⊢
  clear e0
  by_cases q0 : v0 < 0
  · go_wp2_with fail
    go_ret
    exact ⟨rfl, hB⟩
  have g0 : n0_0 ≤ 1048576 := by omega
  go_wp2_with fail
  refine (szSubst_any A1_0 n1_0 c1_0 x1_0 (v0) _ (h1_0.below hB) (by omega) (by omega) m1_0).mono ?_
  rintro e w2 ⟨rfl, hb2⟩
  have s2 : w1.heap.size + 0 ≤ w2.heap.size := by have := hb2.size; first | omega | (simp at this; omega)
  replace bx0 := keepC hb2 bx0
  replace bx1 := keepC hb2 bx1
  replace hB : Below w.heap.size w w2 := below_then hB hb2 (by have := hB.size; simp <;> omega)
  clear hb2
  replace sb1 : w.heap.size + 1 < w2.heap.size := by omega
  have z1 := szF_bd (left := v0) (wtR x1_0) (by omega)
  obtain ⟨v1, e1⟩ : ∃ v, v = szF (v0) (wtR x1_0) := ⟨_, rfl⟩
  rw [← e1] at z1 ⊢
  clear e1
  by_cases q1 : v1 < 0
  · go_wp2_with fail
    go_ret
    exact ⟨rfl, hB⟩
  have g1 : wtR x1_0 ≤ 1048576 := by omega
  go_wp2_with fail
  go_cut [6] from 14 (fun s6 w' => ∃ (bw : Nat) (Aw : Option Addr) (cw : Nat), s6 = .pointer (some ⟨bw, 0, none⟩) ∧ w2.heap.size ≤ bw ∧ bw < w'.heap.size ∧ Blk w' bw 59 #[.slice Aw (V_PlainOf x0_0 x1_0).length cw] ∧ OR w' w2.heap.size w'.heap.size Aw (V_PlainOf x0_0 x1_0).length cw (V_PlainOf x0_0 x1_0) ∧ Below w2.heap.size w2 w')
  case first =>
    have HKS : Hid (∀ w', Below w2.heap.size w2 w' → (fun w' => Below w2.heap.size w2 w' ∧ w'.cell? ⟨w.heap.size, 0, none⟩ = some (.slice A0_0 n0_0 c0_0) ∧ w'.cell? ⟨w.heap.size + 1, 0, none⟩ = some (.slice A1_0 n1_0 c1_0)) w') := Lib.hid (fun w' h_ => ⟨h_, keepC h_ bx0, keepC h_ bx1⟩)
    go_region_held3 (fun w' => Below w2.heap.size w2 w' ∧ w'.cell? ⟨w.heap.size, 0, none⟩ = some (.slice A0_0 n0_0 c0_0) ∧ w'.cell? ⟨w.heap.size + 1, 0, none⟩ = some (.slice A1_0 n1_0 c1_0))
      (first | exact HKS.out _ (Below.refl _ _).drew | exact HKS.out _ (keepS0 ha_0 (And.left (by assumption))) | exact HKS.out _ (keepS0 ha_1 (And.left (by assumption))) | exact HKS.out _ (keepS0 haf (And.left (by assumption))) | exact HKS.out _ (belA (And.left (by assumption))) | exact HKS.out _ (belR (by have e_ : w2.drew.heap.size = w2.heap.size := rfl; have q_0 := ha_0.size; have q_1 := ha_1.size; have qf := haf.size; (try simp only [World.size_alloc, World.size_drew] at q_0 q_1 qf ⊢); first | omega | (dsimp only; omega)) (And.left (by assumption))) | exact HKS.out _ (Below.setCell (And.left (by assumption)) (by have e_ : w2.drew.heap.size = w2.heap.size := rfl; have q_0 := ha_0.size; have q_1 := ha_1.size; have qf := haf.size; (try simp only [World.size_alloc, World.size_drew] at q_0 q_1 qf ⊢); first | omega | (dsimp only; omega)) _))
      ((first | (go_at_call 17; refine (toSig_any A0_0 n0_0 c0_0 x0_0 _ ?_ g0).mono ?_; exact riS (h0_0.below hB) (by assumption); rintro e wa_0 ⟨as0_0, rfl, os0_0, ha_0⟩; (first | have hbx_0 := (Blk.new _ 59 #[.slice none 0 0]).below ha_0 | have hbx_0 := (Blk.new _ 59 #[.slice none 0 0]).drew.below ha_0 | skip)) | (go_at_call 42; refine (toSubst_any A1_0 n1_0 c1_0 x1_0 _ ?_ g1).mono ?_; exact (h1_0.below hB).below (And.left (by assumption)); rintro e wa_1 ⟨as1_0, rfl, os1_0, ha_1⟩; (first | replace os0_0 := os0_0.below ha_1 | replace os0_0 := (os0_0.below ((Below.refl _ _).alloc (Nat.le_refl _) _)).below ha_1); (first | have hbx_1 := hbx_0.below ha_1 | have hbx_1 := (Blk.new _ 59 #[.slice none 0 0]).below ha_1 | have hbx_1 := (Blk.new _ 59 #[.slice none 0 0]).drew.below ha_1 | skip)) | (go_at_call 57; refine (S_PlainOf (some ⟨as0_0, 0, none⟩) n0_0 n0_0 x0_0 (some ⟨as1_0, 0, none⟩) n1_0 n1_0 x1_0 _ ?_ ?_ g0 g1).mono ?_; (first | exact os0_0.rd | exact os0_0.rd.below ((Below.refl _ _).alloc (Nat.le_refl _) _)); (first | exact os1_0.rd | exact os1_0.rd.below ((Below.refl _ _).alloc (Nat.le_refl _) _)); rintro e w3 ⟨Aw, cw, rfl, ow, haf⟩; (first | have hbxf := hbx_1.below haf | have hbxf := (Blk.new _ 59 #[.slice none 0 0]).below haf | have hbxf := (Blk.new _ 59 #[.slice none 0 0]).drew.below haf | skip); (try have hx0 := hbxf.cell 0); (try simp only [List.getElem?_toArray, List.getElem?_cons_zero, List.getElem?_cons_succ] at hx0); (try have hf0 := hbxf.frozen 0))))
    all_goals (rename_i hS; go_wp2_with fail; go_meet)
    all_goals (first
      | exact ⟨_, Aw, cw, rfl, (by have e_ : w2.drew.heap.size = w2.heap.size := rfl; have q_0 := ha_0.size; have q_1 := ha_1.size; have qf := haf.size; (try simp only [World.size_alloc, World.size_drew] at q_0 q_1 qf ⊢); first | omega | (dsimp only; omega)), (by simp), Blk.new _ _ _, (ow.below ((Below.refl _ _).alloc (Nat.le_refl _) _)).hi_ (by have e_ : w2.drew.heap.size = w2.heap.size := rfl; have q_0 := ha_0.size; have q_1 := ha_1.size; have qf := haf.size; (try simp only [World.size_alloc, World.size_drew] at q_0 q_1 qf ⊢); first | omega | (dsimp only; omega)), hS.1⟩
      | exact ⟨_, Aw, cw, rfl, (by have e_ : w2.drew.heap.size = w2.heap.size := rfl; have q_0 := ha_0.size; have q_1 := ha_1.size; have qf := haf.size; (try simp only [World.size_alloc, World.size_drew] at q_0 q_1 qf ⊢); first | omega | (dsimp only; omega)), (by simp only [World.size_setCell]; exact hbxf.lt), (by simpa using (hbxf.set_ 0 _)), (QR.setBelow ow (by have e_ : w2.drew.heap.size = w2.heap.size := rfl; have q_0 := ha_0.size; have q_1 := ha_1.size; have qf := haf.size; (try simp only [World.size_alloc, World.size_drew] at q_0 q_1 qf ⊢); first | omega | (dsimp only; omega)) _).hi_ (by have e_ : w2.drew.heap.size = w2.heap.size := rfl; have q_0 := ha_0.size; have q_1 := ha_1.size; have qf := haf.size; (try simp only [World.size_alloc, World.size_drew] at q_0 q_1 qf ⊢); first | omega | (dsimp only; omega)), hS.1⟩)
  rename World => w3
  obtain ⟨bw, Aw, cw, rfl, low, hhw, hkw, ow, hb3⟩ := hcut
  have zzw := hhw
  have s3 : w2.heap.size + 0 ≤ w3.heap.size := by have := hb3.size; first | omega | (simp at this; omega)
  replace bx0 := keepC hb3 bx0
  replace bx1 := keepC hb3 bx1
  replace hB : Below w.heap.size w w3 := below_then hB hb3 (by have := hB.size; simp <;> omega)
  clear hb3
  replace sb1 : w.heap.size + 1 < w3.heap.size := by omega
  have bwc : w3.cell? ⟨bw, 0, none⟩ = some (.slice Aw (V_PlainOf x0_0 x1_0).length cw) := by simpa using hkw.cell 0
  clear hkw
  go_wp2_with fail
  refine (toSig_any A0_0 n0_0 c0_0 x0_0 _ (h0_0.below hB) g0).mono ?_
  rintro e w4 ⟨ax0_0, rfl, ox0_0, hb4⟩
  have s4 : w3.heap.size + 0 ≤ w4.heap.size := by have := hb4.size; first | omega | (simp at this; omega)
  replace ow := ow.below hb4
  replace bx0 := keepC hb4 bx0
  replace bx1 := keepC hb4 bx1
  replace bwc := keepC hb4 bwc
  replace hB : Below w.heap.size w w4 := below_then hB hb4 (by have := hB.size; simp <;> omega)
  clear hb4
  replace sb1 : w.heap.size + 1 < w4.heap.size := by omega
  replace hhw : bw < w4.heap.size := by omega
  replace ox0_0 : OX w4 (w3.heap.size) w4.heap.size (some ⟨ax0_0, 0, none⟩) n0_0 n0_0 x0_0 := ox0_0.hi_ (by simp)
  go_wp2_with fail
  refine (toSubst_any A1_0 n1_0 c1_0 x1_0 _ (h1_0.below (hB.alloc (by have := hB.size; simp <;> omega) _)) g1).mono ?_
  rintro e w5 ⟨ax1_0, rfl, ox1_0, hb5⟩
  have s5 : w4.heap.size + 1 ≤ w5.heap.size := by have := hb5.size; first | omega | (simp at this; omega)
  replace ow := (ow.below ((Below.refl _ _).alloc (Nat.le_refl _) _)).below hb5
  replace ox0_0 := (ox0_0.below ((Below.refl _ _).alloc (Nat.le_refl _) _)).below hb5
  replace bx0 := keepC hb5 (keepC ((Below.refl _ _).alloc (Nat.le_refl _) _) bx0)
  replace bx1 := keepC hb5 (keepC ((Below.refl _ _).alloc (Nat.le_refl _) _) bx1)
  replace bwc := keepC hb5 (keepC ((Below.refl _ _).alloc (Nat.le_refl _) _) bwc)
  have by0 : w5.cell? ⟨w4.heap.size, 0, none⟩ = some (.slice (some ⟨ax0_0, 0, none⟩) n0_0 n0_0) := (hb5.cell (by simp <;> omega)).trans (by simp)
  replace hB : Below w.heap.size w w5 := below_then (hB.alloc (by have := hB.size; simp <;> omega) _) hb5 (by have := hB.size; simp <;> omega)
  clear hb5
  have sy0 : w4.heap.size < w5.heap.size := by omega
  replace sb1 : w.heap.size + 1 < w5.heap.size := by omega
  replace hhw : bw < w5.heap.size := by omega
  replace ox1_0 : OR w5 (w4.heap.size + 1) w5.heap.size (some ⟨ax1_0, 0, none⟩) n1_0 n1_0 x1_0 := ox1_0.hi_ (by simp)
  go_wp2_with fail
  refine (I_PlainOf (some ⟨ax0_0, 0, none⟩) n0_0 n0_0 x0_0 (some ⟨ax1_0, 0, none⟩) n1_0 n1_0 x1_0 _ (ox0_0.rd.below ((Below.refl _ _).alloc (Nat.le_refl _) _)) (ox1_0.rd.below ((Below.refl _ _).alloc (Nat.le_refl _) _)) g0 g1).mono ?_
  rintro e w6 ⟨Ag, cg, rfl, og, hb6⟩
  have s6 : w5.heap.size + 1 ≤ w6.heap.size := by have := hb6.size; first | omega | (simp at this; omega)
  replace ow := (ow.below ((Below.refl _ _).alloc (Nat.le_refl _) _)).below hb6
  replace ox0_0 := (ox0_0.below ((Below.refl _ _).alloc (Nat.le_refl _) _)).below hb6
  replace ox1_0 := (ox1_0.below ((Below.refl _ _).alloc (Nat.le_refl _) _)).below hb6
  replace bx0 := keepC hb6 (keepC ((Below.refl _ _).alloc (Nat.le_refl _) _) bx0)
  replace bx1 := keepC hb6 (keepC ((Below.refl _ _).alloc (Nat.le_refl _) _) bx1)
  replace bwc := keepC hb6 (keepC ((Below.refl _ _).alloc (Nat.le_refl _) _) bwc)
  replace by0 := keepC hb6 (keepC ((Below.refl _ _).alloc (Nat.le_refl _) _) by0)
  have by1 : w6.cell? ⟨w5.heap.size, 0, none⟩ = some (.slice (some ⟨ax1_0, 0, none⟩) n1_0 n1_0) := (hb6.cell (by simp <;> omega)).trans (by simp)
  replace hB : Below w.heap.size w w6 := below_then (hB.alloc (by have := hB.size; simp <;> omega) _) hb6 (by have := hB.size; simp <;> omega)
  clear hb6
  replace sy0 : w4.heap.size < w6.heap.size := by omega
  replace sb1 : w.heap.size + 1 < w6.heap.size := by omega
  have sy1 : w5.heap.size < w6.heap.size := by omega
  replace hhw : bw < w6.heap.size := by omega
  replace og : OR w6 (w5.heap.size + 1) w6.heap.size Ag (V_PlainOf x0_0 x1_0).length cg (V_PlainOf x0_0 x1_0) := og.hi_ (by simp)
  go_wp2_with fail
  refine (eqSubst_same Ag _ cg (V_PlainOf x0_0 x1_0) Aw cw _ (og.rd.below ((Below.refl _ _).alloc (Nat.le_refl _) _)) (ow.rd.below ((Below.refl _ _).alloc (Nat.le_refl _) _)) (by have := bw_PlainOf x0_0 x1_0; omega)).mono ?_
  rintro e w7 ⟨rfl, hb7⟩
  have s7 : w6.heap.size + 1 ≤ w7.heap.size := by have := hb7.size; first | omega | (simp at this; omega)
  replace ow := (ow.below ((Below.refl _ _).alloc (Nat.le_refl _) _)).below hb7
  replace ox0_0 := (ox0_0.below ((Below.refl _ _).alloc (Nat.le_refl _) _)).below hb7
  replace ox1_0 := (ox1_0.below ((Below.refl _ _).alloc (Nat.le_refl _) _)).below hb7
  replace og := (og.below ((Below.refl _ _).alloc (Nat.le_refl _) _)).below hb7
  replace bx0 := keepC hb7 (keepC ((Below.refl _ _).alloc (Nat.le_refl _) _) bx0)
  replace bx1 := keepC hb7 (keepC ((Below.refl _ _).alloc (Nat.le_refl _) _) bx1)
  replace bwc := keepC hb7 (keepC ((Below.refl _ _).alloc (Nat.le_refl _) _) bwc)
  replace by0 := keepC hb7 (keepC ((Below.refl _ _).alloc (Nat.le_refl _) _) by0)
  replace by1 := keepC hb7 (keepC ((Below.refl _ _).alloc (Nat.le_refl _) _) by1)
  have bg : w7.cell? ⟨w6.heap.size, 0, none⟩ = some (.slice Ag (V_PlainOf x0_0 x1_0).length cg) := (hb7.cell (by simp <;> omega)).trans (by simp)
  replace hB : Below w.heap.size w w7 := below_then (hB.alloc (by have := hB.size; simp <;> omega) _) hb7 (by have := hB.size; simp <;> omega)
  clear hb7
  replace sy0 : w4.heap.size < w7.heap.size := by omega
  replace sb1 : w.heap.size + 1 < w7.heap.size := by omega
  replace sy1 : w5.heap.size < w7.heap.size := by omega
  replace hhw : bw < w7.heap.size := by omega
  have hhg : w6.heap.size < w7.heap.size := by omega
  go_wp2_with fail
  go_region_held3 (fun w' => Below w7.heap.size w7 w' ∧ w'.cell? ⟨w4.heap.size, 0, none⟩ = some (.slice (some ⟨ax0_0, 0, none⟩) n0_0 n0_0) ∧ w'.cell? ⟨w.heap.size, 0, none⟩ = some (.slice A0_0 n0_0 c0_0))
    (first | exact ⟨(Below.refl _ _).drew, by0, bx0⟩ | exact keepS2 ha1 (by assumption) | exact keepS2 ha2 (by assumption))
    ((first | (go_at_call 17; refine (toSig_any A0_0 n0_0 c0_0 x0_0 _ ?_ g0).mono ?_; exact riS (h0_0.below hB) (by assumption); rintro e wa ⟨a0, rfl, oa0, ha1⟩) | (go_at_call 21; refine (eqSig_same (some ⟨ax0_0, 0, none⟩) n0_0 n0_0 x0_0 _ _ _ ?_ ?_ (by omega)).mono ?_; exact ox0_0.rd.below (And.left (by assumption)); exact oa0.rd; rintro e w8 ⟨rfl, ha2⟩)))
  rename_i hS
  have hb8 := hS.1
  clear hS oa0 ha1 ha2
  have s8 : w7.heap.size + 0 ≤ w8.heap.size := by have := hb8.size; first | omega | (simp at this; omega)
  replace ow := ow.below hb8
  replace ox0_0 := ox0_0.below hb8
  replace ox1_0 := ox1_0.below hb8
  replace og := og.below hb8
  replace bx0 := keepC hb8 bx0
  replace bx1 := keepC hb8 bx1
  replace bwc := keepC hb8 bwc
  replace by0 := keepC hb8 by0
  replace by1 := keepC hb8 by1
  replace bg := keepC hb8 bg
  replace hB : Below w.heap.size w w8 := below_then hB hb8 (by have := hB.size; simp <;> omega)
  clear hb8
  replace sy0 : w4.heap.size < w8.heap.size := by omega
  replace sb1 : w.heap.size + 1 < w8.heap.size := by omega
  replace sy1 : w5.heap.size < w8.heap.size := by omega
  replace hhw : bw < w8.heap.size := by omega
  replace hhg : w6.heap.size < w8.heap.size := by omega
  go_wp2_with fail
  go_region_held3 (fun w' => Below w8.heap.size w8 w' ∧ w'.cell? ⟨w5.heap.size, 0, none⟩ = some (.slice (some ⟨ax1_0, 0, none⟩) n1_0 n1_0) ∧ w'.cell? ⟨w.heap.size + 1, 0, none⟩ = some (.slice A1_0 n1_0 c1_0))
    (first | exact ⟨(Below.refl _ _).drew, by1, bx1⟩ | exact keepS2 ha1 (by assumption) | exact keepS2 ha2 (by assumption))
    ((first | (go_at_call 42; refine (toSubst_any A1_0 n1_0 c1_0 x1_0 _ ?_ g1).mono ?_; exact (h1_0.below hB).below (And.left (by assumption)); rintro e wa ⟨a0, rfl, oa0, ha1⟩) | (go_at_call 44; refine (eqSubst_same (some ⟨ax1_0, 0, none⟩) n1_0 n1_0 x1_0 _ _ _ ?_ ?_ (by omega)).mono ?_; exact ox1_0.rd.below (And.left (by assumption)); exact oa0.rd; rintro e w9 ⟨rfl, ha2⟩)))
  rename_i hS
  have hb9 := hS.1
  clear hS oa0 ha1 ha2
  have s9 : w8.heap.size + 0 ≤ w9.heap.size := by have := hb9.size; first | omega | (simp at this; omega)
  replace ow := ow.below hb9
  replace ox0_0 := ox0_0.below hb9
  replace ox1_0 := ox1_0.below hb9
  replace og := og.below hb9
  replace bx0 := keepC hb9 bx0
  replace bx1 := keepC hb9 bx1
  replace bwc := keepC hb9 bwc
  replace by0 := keepC hb9 by0
  replace by1 := keepC hb9 by1
  replace bg := keepC hb9 bg
  replace hB : Below w.heap.size w w9 := below_then hB hb9 (by have := hB.size; simp <;> omega)
  clear hb9
  replace sy0 : w4.heap.size < w9.heap.size := by omega
  replace sb1 : w.heap.size + 1 < w9.heap.size := by omega
  replace sy1 : w5.heap.size < w9.heap.size := by omega
  replace hhw : bw < w9.heap.size := by omega
  replace hhg : w6.heap.size < w9.heap.size := by omega
  go_wp2_with fail
  have mk10 := markSig_any _ _ (some ⟨ax0_0, 0, none⟩) n0_0 n0_0 x0_0 (1) _ ox0_0 (by omega) (by omega) 
  refine mk10.mono ?_
  clear mk10
  rintro e w10 ⟨rfl, _, ho10⟩
  have s10 : w9.heap.size ≤ w10.heap.size := ho10.size
  replace ow := ow.only ho10 (by first | omega | (dsimp only; omega))
  replace ox1_0 := ox1_0.only ho10 (by first | omega | (dsimp only; omega))
  replace og := og.only ho10 (by first | omega | (dsimp only; omega))
  replace bx0 := keepO ho10 (by first | omega | (dsimp only; omega)) bx0
  replace bx1 := keepO ho10 (by first | omega | (dsimp only; omega)) bx1
  replace bwc := keepO ho10 (by first | omega | (dsimp only; omega)) bwc
  replace by0 := keepO ho10 (by first | omega | (dsimp only; omega)) by0
  replace by1 := keepO ho10 (by first | omega | (dsimp only; omega)) by1
  replace bg := keepO ho10 (by first | omega | (dsimp only; omega)) bg
  replace hB : Below w.heap.size w w10 := hB.trans (ho10.below (by first | omega | (dsimp only; omega)) hB.size)
  clear ho10
  replace sy0 : w4.heap.size < w10.heap.size := by omega
  replace sb1 : w.heap.size + 1 < w10.heap.size := by omega
  replace sy1 : w5.heap.size < w10.heap.size := by omega
  replace hhw : bw < w10.heap.size := by omega
  replace hhg : w6.heap.size < w10.heap.size := by omega
  clear ox0_0
  have sr1_0 := sumR_le x1_0
  have sn1_0 : n1_0 ≤ 1048576 := by have := ox1_0.1; unfold wtR at g1; omega
  go_wp2_with fail
  have mk11 := markSubst_any _ _ (some ⟨ax1_0, 0, none⟩) n1_0 n1_0 x1_0 (1 + ↑(n0_0)) _ ox1_0 (by omega) (by omega) sn1_0
  refine mk11.mono ?_
  clear mk11
  rintro e w11 ⟨rfl, _, ho11⟩
  have s11 : w10.heap.size ≤ w11.heap.size := ho11.size
  replace ow := ow.only ho11 (by first | omega | (dsimp only; omega))
  replace og := og.only ho11 (by first | omega | (dsimp only; omega))
  replace bx0 := keepO ho11 (by first | omega | (dsimp only; omega)) bx0
  replace bx1 := keepO ho11 (by first | omega | (dsimp only; omega)) bx1
  replace bwc := keepO ho11 (by first | omega | (dsimp only; omega)) bwc
  replace by0 := keepO ho11 (by first | omega | (dsimp only; omega)) by0
  replace by1 := keepO ho11 (by first | omega | (dsimp only; omega)) by1
  replace bg := keepO ho11 (by first | omega | (dsimp only; omega)) bg
  replace hB : Below w.heap.size w w11 := hB.trans (ho11.below (by first | omega | (dsimp only; omega)) hB.size)
  clear ho11
  replace sy0 : w4.heap.size < w11.heap.size := by omega
  replace sb1 : w.heap.size + 1 < w11.heap.size := by omega
  replace sy1 : w5.heap.size < w11.heap.size := by omega
  replace hhw : bw < w11.heap.size := by omega
  replace hhg : w6.heap.size < w11.heap.size := by omega
  clear ox1_0
  have kn : decide ((1 + ↑(n0_0) + ↑(sumR x1_0) : Int) < 0) = false := by simp; omega
  go_wp2_with fail
  refine (eqSubst_same Ag _ cg (V_PlainOf x0_0 x1_0) Aw cw _ og.rd ow.rd (by have := bw_PlainOf x0_0 x1_0; omega)).mono ?_
  rintro e w12 ⟨rfl, hb12⟩
  have s12 : w11.heap.size + 0 ≤ w12.heap.size := by have := hb12.size; first | omega | (simp at this; omega)
  replace ow := ow.below hb12
  replace og := og.below hb12
  replace bx0 := keepC hb12 bx0
  replace bx1 := keepC hb12 bx1
  replace bwc := keepC hb12 bwc
  replace by0 := keepC hb12 by0
  replace by1 := keepC hb12 by1
  replace bg := keepC hb12 bg
  replace hB : Below w.heap.size w w12 := below_then hB hb12 (by have := hB.size; simp <;> omega)
  clear hb12
  replace sy0 : w4.heap.size < w12.heap.size := by omega
  replace sb1 : w.heap.size + 1 < w12.heap.size := by omega
  replace sy1 : w5.heap.size < w12.heap.size := by omega
  replace hhw : bw < w12.heap.size := by omega
  replace hhg : w6.heap.size < w12.heap.size := by omega
  have bdl := bd_PlainOf x0_0 x1_0
  have bwl := bw_PlainOf x0_0 x1_0
  have bsl := sumR_le (V_PlainOf x0_0 x1_0)
  go_wp2_with fail
  have mk13 := markSubst_any _ _ Ag _ cg (V_PlainOf x0_0 x1_0) 1 _ og (by omega) (by omega) (by omega)
  refine mk13.mono ?_
  clear mk13
  rintro e w13 ⟨rfl, og, ho13⟩
  have s13 : w12.heap.size ≤ w13.heap.size := ho13.size
  replace ow := ow.only ho13 (by first | omega | (dsimp only; omega))
  replace bx0 := keepO ho13 (by first | omega | (dsimp only; omega)) bx0
  replace bx1 := keepO ho13 (by first | omega | (dsimp only; omega)) bx1
  replace bwc := keepO ho13 (by first | omega | (dsimp only; omega)) bwc
  replace by0 := keepO ho13 (by first | omega | (dsimp only; omega)) by0
  replace by1 := keepO ho13 (by first | omega | (dsimp only; omega)) by1
  replace bg := keepO ho13 (by first | omega | (dsimp only; omega)) bg
  replace hB : Below w.heap.size w w13 := hB.trans (ho13.below (by first | omega | (dsimp only; omega)) hB.size)
  clear ho13
  replace sy0 : w4.heap.size < w13.heap.size := by omega
  replace sb1 : w.heap.size + 1 < w13.heap.size := by omega
  replace sy1 : w5.heap.size < w13.heap.size := by omega
  replace hhw : bw < w13.heap.size := by omega
  replace hhg : w6.heap.size < w13.heap.size := by omega
  go_wp2_with fail
  refine (heldSubst_any Ag _ cg (V_PlainOf x0_0 x1_0) 1 _ og.rd (by omega) (by omega) (by omega)).mono ?_
  rintro e w14 ⟨rfl, hb14⟩
  have s14 : w13.heap.size + 0 ≤ w14.heap.size := by have := hb14.size; first | omega | (simp at this; omega)
  replace ow := ow.below hb14
  replace og := og.below hb14
  replace bx0 := keepC hb14 bx0
  replace bx1 := keepC hb14 bx1
  replace bwc := keepC hb14 bwc
  replace by0 := keepC hb14 by0
  replace by1 := keepC hb14 by1
  replace bg := keepC hb14 bg
  replace hB : Below w.heap.size w w14 := below_then hB hb14 (by have := hB.size; simp <;> omega)
  clear hb14
  replace sy0 : w4.heap.size < w14.heap.size := by omega
  replace sb1 : w.heap.size + 1 < w14.heap.size := by omega
  replace sy1 : w5.heap.size < w14.heap.size := by omega
  replace hhw : bw < w14.heap.size := by omega
  replace hhg : w6.heap.size < w14.heap.size := by omega
  go_wp2_with fail
  go_cut [13] from 14 (fun s13 w' => ∃ (bh : Nat) (Ah : Option Addr) (ch : Nat), s13 = .pointer (some ⟨bh, 0, none⟩) ∧ w14.heap.size ≤ bh ∧ bh < w'.heap.size ∧ Blk w' bh 59 #[.slice Ah (V_PlainOf x0_0 x1_0).length ch] ∧ OR w' w14.heap.size w'.heap.size Ah (V_PlainOf x0_0 x1_0).length ch (V_PlainOf x0_0 x1_0) ∧ Below w14.heap.size w14 w')
  case first =>
    have HKS : Hid (∀ w', Below w14.heap.size w14 w' → (fun w' => Below w14.heap.size w14 w' ∧ w'.cell? ⟨w.heap.size, 0, none⟩ = some (.slice A0_0 n0_0 c0_0) ∧ w'.cell? ⟨w.heap.size + 1, 0, none⟩ = some (.slice A1_0 n1_0 c1_0)) w') := Lib.hid (fun w' h_ => ⟨h_, keepC h_ bx0, keepC h_ bx1⟩)
    go_region_held3 (fun w' => Below w14.heap.size w14 w' ∧ w'.cell? ⟨w.heap.size, 0, none⟩ = some (.slice A0_0 n0_0 c0_0) ∧ w'.cell? ⟨w.heap.size + 1, 0, none⟩ = some (.slice A1_0 n1_0 c1_0))
      (first | exact HKS.out _ (Below.refl _ _).drew | exact HKS.out _ (keepS0 ha_0 (And.left (by assumption))) | exact HKS.out _ (keepS0 ha_1 (And.left (by assumption))) | exact HKS.out _ (keepS0 haf (And.left (by assumption))) | exact HKS.out _ (belA (And.left (by assumption))) | exact HKS.out _ (belR (by have e_ : w14.drew.heap.size = w14.heap.size := rfl; have q_0 := ha_0.size; have q_1 := ha_1.size; have qf := haf.size; (try simp only [World.size_alloc, World.size_drew] at q_0 q_1 qf ⊢); first | omega | (dsimp only; omega)) (And.left (by assumption))) | exact HKS.out _ (Below.setCell (And.left (by assumption)) (by have e_ : w14.drew.heap.size = w14.heap.size := rfl; have q_0 := ha_0.size; have q_1 := ha_1.size; have qf := haf.size; (try simp only [World.size_alloc, World.size_drew] at q_0 q_1 qf ⊢); first | omega | (dsimp only; omega)) _))
      ((first | (go_at_call 17; refine (toSig_any A0_0 n0_0 c0_0 x0_0 _ ?_ g0).mono ?_; exact riS (h0_0.below hB) (by assumption); rintro e wa_0 ⟨at0_0, rfl, ot0_0, ha_0⟩; (first | have hbx_0 := (Blk.new _ 59 #[.slice none 0 0]).below ha_0 | have hbx_0 := (Blk.new _ 59 #[.slice none 0 0]).drew.below ha_0 | skip)) | (go_at_call 42; refine (toSubst_any A1_0 n1_0 c1_0 x1_0 _ ?_ g1).mono ?_; exact (h1_0.below hB).below (And.left (by assumption)); rintro e wa_1 ⟨at1_0, rfl, ot1_0, ha_1⟩; (first | replace ot0_0 := ot0_0.below ha_1 | replace ot0_0 := (ot0_0.below ((Below.refl _ _).alloc (Nat.le_refl _) _)).below ha_1); (first | have hbx_1 := hbx_0.below ha_1 | have hbx_1 := (Blk.new _ 59 #[.slice none 0 0]).below ha_1 | have hbx_1 := (Blk.new _ 59 #[.slice none 0 0]).drew.below ha_1 | skip)) | (go_at_call 58; refine (I_PlainOf (some ⟨at0_0, 0, none⟩) n0_0 n0_0 x0_0 (some ⟨at1_0, 0, none⟩) n1_0 n1_0 x1_0 _ ?_ ?_ g0 g1).mono ?_; (first | exact ot0_0.rd | exact ot0_0.rd.below ((Below.refl _ _).alloc (Nat.le_refl _) _)); (first | exact ot1_0.rd | exact ot1_0.rd.below ((Below.refl _ _).alloc (Nat.le_refl _) _)); rintro e w15 ⟨Ah, ch, rfl, oh, haf⟩; (first | have hbxf := hbx_1.below haf | have hbxf := (Blk.new _ 59 #[.slice none 0 0]).below haf | have hbxf := (Blk.new _ 59 #[.slice none 0 0]).drew.below haf | skip); (try have hx0 := hbxf.cell 0); (try simp only [List.getElem?_toArray, List.getElem?_cons_zero, List.getElem?_cons_succ] at hx0); (try have hf0 := hbxf.frozen 0))))
    all_goals (rename_i hS; go_wp2_with fail; go_meet)
    all_goals (first
      | exact ⟨_, Ah, ch, rfl, (by have e_ : w14.drew.heap.size = w14.heap.size := rfl; have q_0 := ha_0.size; have q_1 := ha_1.size; have qf := haf.size; (try simp only [World.size_alloc, World.size_drew] at q_0 q_1 qf ⊢); first | omega | (dsimp only; omega)), (by simp), Blk.new _ _ _, (oh.below ((Below.refl _ _).alloc (Nat.le_refl _) _)).hi_ (by have e_ : w14.drew.heap.size = w14.heap.size := rfl; have q_0 := ha_0.size; have q_1 := ha_1.size; have qf := haf.size; (try simp only [World.size_alloc, World.size_drew] at q_0 q_1 qf ⊢); first | omega | (dsimp only; omega)), hS.1⟩
      | exact ⟨_, Ah, ch, rfl, (by have e_ : w14.drew.heap.size = w14.heap.size := rfl; have q_0 := ha_0.size; have q_1 := ha_1.size; have qf := haf.size; (try simp only [World.size_alloc, World.size_drew] at q_0 q_1 qf ⊢); first | omega | (dsimp only; omega)), (by simp only [World.size_setCell]; exact hbxf.lt), (by simpa using (hbxf.set_ 0 _)), (QR.setBelow oh (by have e_ : w14.drew.heap.size = w14.heap.size := rfl; have q_0 := ha_0.size; have q_1 := ha_1.size; have qf := haf.size; (try simp only [World.size_alloc, World.size_drew] at q_0 q_1 qf ⊢); first | omega | (dsimp only; omega)) _).hi_ (by have e_ : w14.drew.heap.size = w14.heap.size := rfl; have q_0 := ha_0.size; have q_1 := ha_1.size; have qf := haf.size; (try simp only [World.size_alloc, World.size_drew] at q_0 q_1 qf ⊢); first | omega | (dsimp only; omega)), hS.1⟩)
  rename World => w15
  obtain ⟨bh, Ah, ch, rfl, loh, hhh, hkh, oh, hb15⟩ := hcut
  have zzh := hhh
  have s15 : w14.heap.size + 0 ≤ w15.heap.size := by have := hb15.size; first | omega | (simp at this; omega)
  replace ow := ow.below hb15
  replace og := og.below hb15
  replace bx0 := keepC hb15 bx0
  replace bx1 := keepC hb15 bx1
  replace bwc := keepC hb15 bwc
  replace by0 := keepC hb15 by0
  replace by1 := keepC hb15 by1
  replace bg := keepC hb15 bg
  replace hB : Below w.heap.size w w15 := below_then hB hb15 (by have := hB.size; simp <;> omega)
  clear hb15
  replace sy0 : w4.heap.size < w15.heap.size := by omega
  replace sb1 : w.heap.size + 1 < w15.heap.size := by omega
  replace sy1 : w5.heap.size < w15.heap.size := by omega
  replace hhw : bw < w15.heap.size := by omega
  replace hhg : w6.heap.size < w15.heap.size := by omega
  have bhc : w15.cell? ⟨bh, 0, none⟩ = some (.slice Ah (V_PlainOf x0_0 x1_0).length ch) := by simpa using hkh.cell 0
  clear hkh
  go_wp2_with fail
  refine (eqSubst_same Ah _ ch (V_PlainOf x0_0 x1_0) Aw cw _ oh.rd ow.rd (by have := bw_PlainOf x0_0 x1_0; omega)).mono ?_
  rintro e w16 ⟨rfl, hb16⟩
  have s16 : w15.heap.size + 0 ≤ w16.heap.size := by have := hb16.size; first | omega | (simp at this; omega)
  replace ow := ow.below hb16
  replace og := og.below hb16
  replace oh := oh.below hb16
  replace bx0 := keepC hb16 bx0
  replace bx1 := keepC hb16 bx1
  replace bwc := keepC hb16 bwc
  replace by0 := keepC hb16 by0
  replace by1 := keepC hb16 by1
  replace bg := keepC hb16 bg
  replace bhc := keepC hb16 bhc
  replace hB : Below w.heap.size w w16 := below_then hB hb16 (by have := hB.size; simp <;> omega)
  clear hb16
  replace sy0 : w4.heap.size < w16.heap.size := by omega
  replace sb1 : w.heap.size + 1 < w16.heap.size := by omega
  replace sy1 : w5.heap.size < w16.heap.size := by omega
  replace hhw : bw < w16.heap.size := by omega
  replace hhg : w6.heap.size < w16.heap.size := by omega
  replace hhh : bh < w16.heap.size := by omega
  go_wp2_with fail
  refine (heldSubst_any Ag _ cg (V_PlainOf x0_0 x1_0) 1 _ og.rd (by omega) (by omega) (by omega)).mono ?_
  rintro e w17 ⟨rfl, hb17⟩
  have s17 : w16.heap.size + 0 ≤ w17.heap.size := by have := hb17.size; first | omega | (simp at this; omega)
  replace ow := ow.below hb17
  replace og := og.below hb17
  replace oh := oh.below hb17
  replace bx0 := keepC hb17 bx0
  replace bx1 := keepC hb17 bx1
  replace bwc := keepC hb17 bwc
  replace by0 := keepC hb17 by0
  replace by1 := keepC hb17 by1
  replace bg := keepC hb17 bg
  replace bhc := keepC hb17 bhc
  replace hB : Below w.heap.size w w17 := below_then hB hb17 (by have := hB.size; simp <;> omega)
  clear hb17
  replace sy0 : w4.heap.size < w17.heap.size := by omega
  replace sb1 : w.heap.size + 1 < w17.heap.size := by omega
  replace sy1 : w5.heap.size < w17.heap.size := by omega
  replace hhw : bw < w17.heap.size := by omega
  replace hhg : w6.heap.size < w17.heap.size := by omega
  replace hhh : bh < w17.heap.size := by omega
  go_wp2_with fail
  go_ret
  exact ⟨rfl, hB⟩

theorem own : ownKnob Try.prog.godebug = none := by kernel_rfl
theorem laidOut : laidOutB Try.prog = true := by kernel_rfl

set_option maxRecDepth 100000 in
theorem lifted (os : Os) (started : os.Started) (H : Type) (enc : TypeId × Value → H) :
    ReturnsInHanded {} Try.checked os 14 .any (Rows.fnExactPlainOfSpec.pre6 enc Try.prog Try.f14 Rows.fnExactPlainOfRow.domain false) (Rows.fnExactPlainOfSpec.post enc Try.prog Try.f14 false true false false) := by
  refine returnsInHanded_of_change (C := Try.checked) own started (by kernel_rfl) Try.func14
    (ChangeSpec.witness6 (enc := enc) (C := Try.checked) false ⟨#[], #[.agg #[.slice none 0 0], .agg #[.slice none 0 0]], []⟩ 8 (by kernel_rfl) (by kernel_rfl) (by kernel_rfl) (by kernel_rfl)) ?_
  intro W base args ds gs before hval0 hW hcnd _
  have hval : ∀ (j : Nat) t v, Try.f14.params[j]? = some t → args[j]? = some v → Value.okWide Try.prog W .any base t v := hval0
  have hW' := hW
  obtain ⟨p, q, hA0, hV, rfl, hfz, hnd⟩ := hW
  have hA : DataW.TrodAll enc Try.prog W 0 (fun _ => true) true Try.f14.params.toList args.toList ds p := hA0
  rw [Try.params14] at hA hval
  obtain ⟨v0, vs0, d0, ds0, p0, q0, hargs, rfl, rfl, h0, r0⟩ := trodAll_cons hA
  obtain ⟨v1, vs1, d1, ds1, p1, q1, rfl, rfl, rfl, h1, r1⟩ := trodAll_cons r0
  obtain ⟨rfl, rfl, rfl⟩ := trodAll_nil r1
  obtain rfl : args = #[v0, v1] := by cases args; simp_all
  obtain ⟨rfl, rfl⟩ := trodVars_none hV
  have k0 := h0
  have lt0 : ∀ x ∈ p0, x.block < W.heap.size := by obtain ⟨m, hm⟩ := k0; exact DataW.trod_lt m _ _ _ hm
  obtain ⟨A0_0, n0_0, c0_0, z0_0, rfl, R0_0, M0_0⟩ := open_one Try.underlying24 (by kernel_rfl) rfl rfl (by kernel_rfl) Try.underlying22 Try.underlying2 (by kernel_rfl) (hval 0 24 v0 rfl rfl) h0
  unfold maxLen at M0_0
  have k1 := h1
  have lt1 : ∀ x ∈ p1, x.block < W.heap.size := by obtain ⟨m, hm⟩ := k1; exact DataW.trod_lt m _ _ _ hm
  obtain ⟨A0_1, n0_1, c0_1, z0_1, rfl, R0_1, M0_1⟩ := open_subst Try.underlying56 (by kernel_rfl) rfl rfl (by kernel_rfl) Try.underlying54 (by kernel_rfl) Try.underlying22 Try.underlying2 (by kernel_rfl) (hval 1 56 v1 rfl rfl) h1
  unfold maxLen at M0_1
  clear hA0 hval0
  refine (walk A0_0 n0_0 c0_0 z0_0 A0_1 n0_1 c0_1 z0_1 W R0_0 R0_1 (by omega) (by omega)).mono fun e W' ⟨he, bel⟩ => ?_
  subst he
  exact ⟨_, rfl, _, _, _, [], _, [], hW', trodAll_mk1 (shut_bool Try.underlying4 _), (trodAll_cons_mk (Below.trod laidOut (by kernel_rfl) (of_decide_eq_true (by kernel_rfl)) k0 bel lt0) (trodAll_cons_mk (Below.trod laidOut (by kernel_rfl) (of_decide_eq_true (by kernel_rfl)) k1 bel lt1) trodAll_mk0)), rfl, bel.frame _, fun h => by cases h⟩

theorem over : Rows.fnExactPlainOfRow.holds Try.pinned (OpenSpec.ofChange Rows.fnExactPlainOfSpec) :=
  OpenClaim.holds_of_wide 14 Try.f14 rfl rfl rfl rfl rfl rfl rfl ⟨rfl, rfl, rfl, rfl, rfl⟩ rfl rfl rfl rfl rfl (by kernel_rfl) Try.func14 (by kernel_rfl)
    (of_decide_eq_true (by kernel_rfl)) (by unfold Func.isWrapper; first | (rw [if_pos (by decide +kernel)]; kernel_rfl) | (rw [if_neg (by decide +kernel)]; exact ⟨rfl, rfl⟩))
    (fun os started H enc _ => lifted os started H enc)

theorem proved : Rows.FnExactPlainOfSaid := over
end Go.Proofs.Ytkonnbkldjgomaa.lPlainOf
