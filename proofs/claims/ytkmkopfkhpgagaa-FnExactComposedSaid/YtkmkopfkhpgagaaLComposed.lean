/- The statement FnExactComposed: whatever the input, it returns true and leaves its arguments alone. No conditions. -/
import Derived.Test.YtkmkopfkhpgagaaComp
import Derived.Test.YtkmkopfkhpgagaaOpenU
import Derived.Test.YtkmkopfkhpgagaaMarkR
import Derived.Test.YtkmkopfkhpgagaaMark
import Derived.Test.YtkmkopfkhpgagaaOpen
import Derived.Test.YtkmkopfkhpgagaaRows
import Derived.Deep.RegionHeld3
import Derived.Deep.Cut
namespace Go.Proofs.Ytkmkopfkhpgagaa.lComposed
open Go.RowKit Go.ChangeShapes Go.WideShapes Go.ChangeAt
open Go.ChangeMaps (open_string shut_string)
set_option linter.unusedVariables false
set_option linter.unusedSimpArgs false

theorem belA {W w : World} {o : Obj} (h : Below W.heap.size W w) : Below W.heap.size W (w.alloc o) := h.alloc h.size o
theorem belR {W w : World} {o o2 : Obj} (hs : W.heap.size ≤ w.heap.size) (h : Below W.heap.size W (w.alloc o)) : Below W.heap.size W (w.alloc o2) :=
  (show Below W.heap.size W w from ⟨h.os, h.tape, h.output, hs, fun k hk => (Below.heap_alloc w o k (by omega)).symm.trans (h.block k hk)⟩).alloc hs o2

set_option maxHeartbeats 8000000 in
set_option maxRecDepth 100000 in
theorem walk (A0_0 : Option Addr) (n0_0 c0_0 : Nat) (x0_0 : List Int) (A1_0 : Option Addr) (n1_0 c1_0 : Nat) (x1_0 : List (List Int)) (A2_0 : Option Addr) (n2_0 c2_0 : Nat) (x2_0 : List (List Int)) (w : World) (h0_0 : RI w A0_0 n0_0 x0_0) (h1_0 : RR w A1_0 n1_0 x1_0) (h2_0 : RR w A2_0 n2_0 x2_0) (m0_0 : n0_0 ≤ 9223372036854775807) (m1_0 : n1_0 ≤ 9223372036854775807) (m2_0 : n2_0 ≤ 9223372036854775807) :
    Calls Try.prog 7 #[.agg #[.slice A0_0 n0_0 c0_0], .agg #[.slice A1_0 n1_0 c1_0], .agg #[.slice A2_0 n2_0 c2_0]] w fun e w' => e = .returned (.bool true) ∧ Below w.heap.size w w' := by
  go_enter Try.func7, Try.ntmps7
  have hB : Below w.heap.size w w := Below.refl _ _
  go_wp2_with fail
  refine (szSig_any A0_0 n0_0 c0_0 (1048576) _ (by omega) (by omega) m0_0).mono ?_
  rintro e w1 ⟨rfl, hb1⟩
  have s1 : w.heap.size + 3 ≤ w1.heap.size := by have := hb1.size; first | omega | (simp at this; omega)
  have bx0 : w1.cell? ⟨w.heap.size, 0, none⟩ = some (.slice A0_0 n0_0 c0_0) := (hb1.cell (by simp <;> omega)).trans (by have k_ := (((Blk.new w 24 #[.slice A0_0 n0_0 c0_0]).alloc (.cells #[.slice A1_0 n1_0 c1_0] 40)).alloc (.cells #[.slice A2_0 n2_0 c2_0] 40)).cell 0; simpa only [World.size_alloc, List.getElem?_toArray, List.getElem?_cons_zero, List.getElem?_cons_succ] using k_)
  have bx1 : w1.cell? ⟨w.heap.size + 1, 0, none⟩ = some (.slice A1_0 n1_0 c1_0) := (hb1.cell (by simp <;> omega)).trans (by have k_ := ((Blk.new (w.alloc (.cells #[.slice A0_0 n0_0 c0_0] 24)) 40 #[.slice A1_0 n1_0 c1_0]).alloc (.cells #[.slice A2_0 n2_0 c2_0] 40)).cell 0; simpa only [World.size_alloc, List.getElem?_toArray, List.getElem?_cons_zero, List.getElem?_cons_succ] using k_)
  have bx2 : w1.cell? ⟨w.heap.size + 1 + 1, 0, none⟩ = some (.slice A2_0 n2_0 c2_0) := (hb1.cell (by simp <;> omega)).trans (by have k_ := (Blk.new ((w.alloc (.cells #[.slice A0_0 n0_0 c0_0] 24)).alloc (.cells #[.slice A1_0 n1_0 c1_0] 40)) 40 #[.slice A2_0 n2_0 c2_0]).cell 0; simpa only [World.size_alloc, List.getElem?_toArray, List.getElem?_cons_zero, List.getElem?_cons_succ] using k_)
  replace hB : Below w.heap.size w w1 := below_then (((hB.alloc (by have := hB.size; simp <;> omega) _).alloc (by have := hB.size; simp <;> omega) _).alloc (by have := hB.size; simp <;> omega) _) hb1 (by have := hB.size; simp <;> omega)
  clear hb1
  have sb1 : w.heap.size + 1 < w1.heap.size := by omega
  have sb2 : w.heap.size + 1 + 1 < w1.heap.size := by omega
  have z0 := szF_bd (left := 1048576) (n0_0) (by omega)
  obtain ⟨v0, e0⟩ : ∃ v, v = szF (1048576) (n0_0) := ⟨_, rfl⟩
  rw [← e0] at z0 ⊢
  clear e0
  by_cases q0 : v0 < 0
  · go_wp2_with fail
    go_ret
    exact ⟨rfl, hB⟩
  have g0 : n0_0 ≤ 1048576 := by omega
  go_wp2_with fail
  refine (szSubst_any A1_0 n1_0 c1_0 x1_0 (v0) _ (h1_0.below hB) (by omega) (by omega) m1_0).mono ?_
  rintro e w2 ⟨rfl, hb2⟩
  have s2 : w1.heap.size + 0 ≤ w2.heap.size := by have := hb2.size; first | omega | (simp at this; omega)
  replace bx0 := keepC hb2 bx0
  replace bx1 := keepC hb2 bx1
  replace bx2 := keepC hb2 bx2
  replace hB : Below w.heap.size w w2 := below_then hB hb2 (by have := hB.size; simp <;> omega)
  clear hb2
  replace sb1 : w.heap.size + 1 < w2.heap.size := by omega
  replace sb2 : w.heap.size + 1 + 1 < w2.heap.size := by omega
  have z1 := szF_bd (left := v0) (wtR x1_0) (by omega)
  obtain ⟨v1, e1⟩ : ∃ v, v = szF (v0) (wtR x1_0) := ⟨_, rfl⟩
  rw [← e1] at z1 ⊢
  clear e1
  by_cases q1 : v1 < 0
  · go_wp2_with fail
    go_ret
    exact ⟨rfl, hB⟩
  have g1 : wtR x1_0 ≤ 1048576 := by omega
  go_wp2_with fail
  refine (szSubst_any A2_0 n2_0 c2_0 x2_0 (v1) _ (h2_0.below hB) (by omega) (by omega) m2_0).mono ?_
  rintro e w3 ⟨rfl, hb3⟩
  have s3 : w2.heap.size + 0 ≤ w3.heap.size := by have := hb3.size; first | omega | (simp at this; omega)
  replace bx0 := keepC hb3 bx0
  replace bx1 := keepC hb3 bx1
  replace bx2 := keepC hb3 bx2
  replace hB : Below w.heap.size w w3 := below_then hB hb3 (by have := hB.size; simp <;> omega)
  clear hb3
  replace sb1 : w.heap.size + 1 < w3.heap.size := by omega
  replace sb2 : w.heap.size + 1 + 1 < w3.heap.size := by omega
  have z2 := szF_bd (left := v1) (wtR x2_0) (by omega)
  obtain ⟨v2, e2⟩ : ∃ v, v = szF (v1) (wtR x2_0) := ⟨_, rfl⟩
  rw [← e2] at z2 ⊢
  clear e2
  by_cases q2 : v2 < 0
  · go_wp2_with fail
    go_ret
    exact ⟨rfl, hB⟩
  have g2 : wtR x2_0 ≤ 1048576 := by omega
  go_wp2_with fail
  go_cut [8, 9] from 20 (fun s8 s9 w' => ∃ (bw : Nat) (Aw : Option Addr) (cw : Nat), s8 = .pointer (some ⟨bw, 0, none⟩) ∧ s9 = .bool (V_Composed x0_0 x1_0 x2_0).2 ∧ w3.heap.size ≤ bw ∧ bw < w'.heap.size ∧ Blk w' bw 43 #[.slice Aw (V_Composed x0_0 x1_0 x2_0).1.length cw] ∧ OR w' w3.heap.size w'.heap.size Aw (V_Composed x0_0 x1_0 x2_0).1.length cw (V_Composed x0_0 x1_0 x2_0).1 ∧ Below w3.heap.size w3 w')
  case first =>
    have HKS : Hid (∀ w', Below w3.heap.size w3 w' → (fun w' => Below w3.heap.size w3 w' ∧ w'.cell? ⟨w.heap.size, 0, none⟩ = some (.slice A0_0 n0_0 c0_0) ∧ w'.cell? ⟨w.heap.size + 1, 0, none⟩ = some (.slice A1_0 n1_0 c1_0) ∧ w'.cell? ⟨w.heap.size + 1 + 1, 0, none⟩ = some (.slice A2_0 n2_0 c2_0)) w') := Lib.hid (fun w' h_ => ⟨h_, keepC h_ bx0, keepC h_ bx1, keepC h_ bx2⟩)
    go_region_held3 (fun w' => Below w3.heap.size w3 w' ∧ w'.cell? ⟨w.heap.size, 0, none⟩ = some (.slice A0_0 n0_0 c0_0) ∧ w'.cell? ⟨w.heap.size + 1, 0, none⟩ = some (.slice A1_0 n1_0 c1_0) ∧ w'.cell? ⟨w.heap.size + 1 + 1, 0, none⟩ = some (.slice A2_0 n2_0 c2_0))
      (first | exact HKS.out _ (Below.refl _ _).drew | exact HKS.out _ (keepS0 ha_0 (And.left (by assumption))) | exact HKS.out _ (keepS0 ha_1 (And.left (by assumption))) | exact HKS.out _ (keepS0 ha_2 (And.left (by assumption))) | exact HKS.out _ (keepS0 haf (And.left (by assumption))) | exact HKS.out _ (belA (And.left (by assumption))) | exact HKS.out _ (belR (by have e_ : w3.drew.heap.size = w3.heap.size := rfl; have q_0 := ha_0.size; have q_1 := ha_1.size; have q_2 := ha_2.size; have qf := haf.size; (try simp only [World.size_alloc, World.size_drew] at q_0 q_1 q_2 qf ⊢); first | omega | (dsimp only; omega)) (And.left (by assumption))) | exact HKS.out _ (Below.setCell (And.left (by assumption)) (by have e_ : w3.drew.heap.size = w3.heap.size := rfl; have q_0 := ha_0.size; have q_1 := ha_1.size; have q_2 := ha_2.size; have qf := haf.size; (try simp only [World.size_alloc, World.size_drew] at q_0 q_1 q_2 qf ⊢); first | omega | (dsimp only; omega)) _))
      ((first | (go_at_call 22; refine (toSig_any A0_0 n0_0 c0_0 x0_0 _ ?_ g0).mono ?_; exact riS (h0_0.below hB) (by assumption); rintro e wa_0 ⟨as0_0, rfl, os0_0, ha_0⟩; (first | have hbx_0 := (Blk.new _ 43 #[.slice none 0 0]).below ha_0 | have hbx_0 := (Blk.new _ 43 #[.slice none 0 0]).drew.below ha_0 | skip)) | (go_at_call 23; with_reducible (show Calls Try.prog 23 #[.agg #[.slice A1_0 n1_0 c1_0]] _ _); refine (toSubst_any A1_0 n1_0 c1_0 x1_0 _ ?_ g1).mono ?_; exact (h1_0.below hB).below (And.left (by assumption)); rintro e wa_1 ⟨as1_0, rfl, os1_0, ha_1⟩; (first | replace os0_0 := os0_0.below ha_1 | replace os0_0 := (os0_0.below ((Below.refl _ _).alloc (Nat.le_refl _) _)).below ha_1); (first | have hbx_1 := hbx_0.below ha_1 | have hbx_1 := (Blk.new _ 43 #[.slice none 0 0]).below ha_1 | have hbx_1 := (Blk.new _ 43 #[.slice none 0 0]).drew.below ha_1 | skip)) | (go_at_call 23; with_reducible (show Calls Try.prog 23 #[.agg #[.slice A2_0 n2_0 c2_0]] _ _); refine (toSubst_any A2_0 n2_0 c2_0 x2_0 _ ?_ g2).mono ?_; exact (h2_0.below hB).below (And.left (by assumption)); rintro e wa_2 ⟨as2_0, rfl, os2_0, ha_2⟩; (first | replace os0_0 := os0_0.below ha_2 | replace os0_0 := (os0_0.below ((Below.refl _ _).alloc (Nat.le_refl _) _)).below ha_2); (first | replace os1_0 := os1_0.below ha_2 | replace os1_0 := (os1_0.below ((Below.refl _ _).alloc (Nat.le_refl _) _)).below ha_2); (first | have hbx_2 := hbx_1.below ha_2 | have hbx_2 := (Blk.new _ 43 #[.slice none 0 0]).below ha_2 | have hbx_2 := (Blk.new _ 43 #[.slice none 0 0]).drew.below ha_2 | skip)) | (go_at_call 21; refine (S_Composed (some ⟨as0_0, 0, none⟩) n0_0 n0_0 x0_0 (some ⟨as1_0, 0, none⟩) n1_0 n1_0 x1_0 (some ⟨as2_0, 0, none⟩) n2_0 n2_0 x2_0 _ ?_ ?_ ?_ g0 g1 g2).mono ?_; (first | exact os0_0.rd | exact os0_0.rd.below ((Below.refl _ _).alloc (Nat.le_refl _) _)); (first | exact os1_0.rd | exact os1_0.rd.below ((Below.refl _ _).alloc (Nat.le_refl _) _)); (first | exact os2_0.rd | exact os2_0.rd.below ((Below.refl _ _).alloc (Nat.le_refl _) _)); rintro e w4 ⟨Aw, cw, rfl, ow, haf⟩; (first | have hbxf := hbx_2.below haf | have hbxf := (Blk.new _ 43 #[.slice none 0 0]).below haf | have hbxf := (Blk.new _ 43 #[.slice none 0 0]).drew.below haf | skip); (try have hx0 := hbxf.cell 0); (try simp only [List.getElem?_toArray, List.getElem?_cons_zero, List.getElem?_cons_succ] at hx0); (try have hf0 := hbxf.frozen 0))))
    all_goals (rename_i hS; go_wp2_with fail; go_meet)
    all_goals (first
      | exact ⟨_, Aw, cw, rfl, rfl, (by have e_ : w3.drew.heap.size = w3.heap.size := rfl; have q_0 := ha_0.size; have q_1 := ha_1.size; have q_2 := ha_2.size; have qf := haf.size; (try simp only [World.size_alloc, World.size_drew] at q_0 q_1 q_2 qf ⊢); first | omega | (dsimp only; omega)), (by simp), Blk.new _ _ _, (ow.below ((Below.refl _ _).alloc (Nat.le_refl _) _)).hi_ (by have e_ : w3.drew.heap.size = w3.heap.size := rfl; have q_0 := ha_0.size; have q_1 := ha_1.size; have q_2 := ha_2.size; have qf := haf.size; (try simp only [World.size_alloc, World.size_drew] at q_0 q_1 q_2 qf ⊢); first | omega | (dsimp only; omega)), hS.1⟩
      | exact ⟨_, Aw, cw, rfl, rfl, (by have e_ : w3.drew.heap.size = w3.heap.size := rfl; have q_0 := ha_0.size; have q_1 := ha_1.size; have q_2 := ha_2.size; have qf := haf.size; (try simp only [World.size_alloc, World.size_drew] at q_0 q_1 q_2 qf ⊢); first | omega | (dsimp only; omega)), (by simp only [World.size_setCell]; exact hbxf.lt), (by simpa using (hbxf.set_ 0 _)), (QR.setBelow ow (by have e_ : w3.drew.heap.size = w3.heap.size := rfl; have q_0 := ha_0.size; have q_1 := ha_1.size; have q_2 := ha_2.size; have qf := haf.size; (try simp only [World.size_alloc, World.size_drew] at q_0 q_1 q_2 qf ⊢); first | omega | (dsimp only; omega)) _).hi_ (by have e_ : w3.drew.heap.size = w3.heap.size := rfl; have q_0 := ha_0.size; have q_1 := ha_1.size; have q_2 := ha_2.size; have qf := haf.size; (try simp only [World.size_alloc, World.size_drew] at q_0 q_1 q_2 qf ⊢); first | omega | (dsimp only; omega)), hS.1⟩)
  rename World => w4
  obtain ⟨bw, Aw, cw, rfl, rfl, low, hhw, hkw, ow, hb4⟩ := hcut
  have zzw := hhw
  have s4 : w3.heap.size + 0 ≤ w4.heap.size := by have := hb4.size; first | omega | (simp at this; omega)
  replace bx0 := keepC hb4 bx0
  replace bx1 := keepC hb4 bx1
  replace bx2 := keepC hb4 bx2
  replace hB : Below w.heap.size w w4 := below_then hB hb4 (by have := hB.size; simp <;> omega)
  clear hb4
  replace sb1 : w.heap.size + 1 < w4.heap.size := by omega
  replace sb2 : w.heap.size + 1 + 1 < w4.heap.size := by omega
  have bwc : w4.cell? ⟨bw, 0, none⟩ = some (.slice Aw (V_Composed x0_0 x1_0 x2_0).1.length cw) := by simpa using hkw.cell 0
  clear hkw
  go_wp2_with fail
  refine (toSig_any A0_0 n0_0 c0_0 x0_0 _ (h0_0.below hB) g0).mono ?_
  rintro e w5 ⟨ax0_0, rfl, ox0_0, hb5⟩
  have s5 : w4.heap.size + 0 ≤ w5.heap.size := by have := hb5.size; first | omega | (simp at this; omega)
  replace ow := ow.below hb5
  replace bx0 := keepC hb5 bx0
  replace bx1 := keepC hb5 bx1
  replace bx2 := keepC hb5 bx2
  replace bwc := keepC hb5 bwc
  replace hB : Below w.heap.size w w5 := below_then hB hb5 (by have := hB.size; simp <;> omega)
  clear hb5
  replace sb1 : w.heap.size + 1 < w5.heap.size := by omega
  replace sb2 : w.heap.size + 1 + 1 < w5.heap.size := by omega
  replace hhw : bw < w5.heap.size := by omega
  replace ox0_0 : OX w5 (w4.heap.size) w5.heap.size (some ⟨ax0_0, 0, none⟩) n0_0 n0_0 x0_0 := ox0_0.hi_ (by simp)
  go_wp2_with fail
  refine (toSubst_any A1_0 n1_0 c1_0 x1_0 _ (h1_0.below (hB.alloc (by have := hB.size; simp <;> omega) _)) g1).mono ?_
  rintro e w6 ⟨ax1_0, rfl, ox1_0, hb6⟩
  have s6 : w5.heap.size + 1 ≤ w6.heap.size := by have := hb6.size; first | omega | (simp at this; omega)
  replace ow := (ow.below ((Below.refl _ _).alloc (Nat.le_refl _) _)).below hb6
  replace ox0_0 := (ox0_0.below ((Below.refl _ _).alloc (Nat.le_refl _) _)).below hb6
  replace bx0 := keepC hb6 (keepC ((Below.refl _ _).alloc (Nat.le_refl _) _) bx0)
  replace bx1 := keepC hb6 (keepC ((Below.refl _ _).alloc (Nat.le_refl _) _) bx1)
  replace bx2 := keepC hb6 (keepC ((Below.refl _ _).alloc (Nat.le_refl _) _) bx2)
  replace bwc := keepC hb6 (keepC ((Below.refl _ _).alloc (Nat.le_refl _) _) bwc)
  have by0 : w6.cell? ⟨w5.heap.size, 0, none⟩ = some (.slice (some ⟨ax0_0, 0, none⟩) n0_0 n0_0) := (hb6.cell (by simp <;> omega)).trans (by simp)
  replace hB : Below w.heap.size w w6 := below_then (hB.alloc (by have := hB.size; simp <;> omega) _) hb6 (by have := hB.size; simp <;> omega)
  clear hb6
  have sy0 : w5.heap.size < w6.heap.size := by omega
  replace sb1 : w.heap.size + 1 < w6.heap.size := by omega
  replace sb2 : w.heap.size + 1 + 1 < w6.heap.size := by omega
  replace hhw : bw < w6.heap.size := by omega
  replace ox1_0 : OR w6 (w5.heap.size + 1) w6.heap.size (some ⟨ax1_0, 0, none⟩) n1_0 n1_0 x1_0 := ox1_0.hi_ (by simp)
  go_wp2_with fail
  refine (toSubst_any A2_0 n2_0 c2_0 x2_0 _ (h2_0.below (hB.alloc (by have := hB.size; simp <;> omega) _)) g2).mono ?_
  rintro e w7 ⟨ax2_0, rfl, ox2_0, hb7⟩
  have s7 : w6.heap.size + 1 ≤ w7.heap.size := by have := hb7.size; first | omega | (simp at this; omega)
  replace ow := (ow.below ((Below.refl _ _).alloc (Nat.le_refl _) _)).below hb7
  replace ox0_0 := (ox0_0.below ((Below.refl _ _).alloc (Nat.le_refl _) _)).below hb7
  replace ox1_0 := (ox1_0.below ((Below.refl _ _).alloc (Nat.le_refl _) _)).below hb7
  replace bx0 := keepC hb7 (keepC ((Below.refl _ _).alloc (Nat.le_refl _) _) bx0)
  replace bx1 := keepC hb7 (keepC ((Below.refl _ _).alloc (Nat.le_refl _) _) bx1)
  replace bx2 := keepC hb7 (keepC ((Below.refl _ _).alloc (Nat.le_refl _) _) bx2)
  replace bwc := keepC hb7 (keepC ((Below.refl _ _).alloc (Nat.le_refl _) _) bwc)
  replace by0 := keepC hb7 (keepC ((Below.refl _ _).alloc (Nat.le_refl _) _) by0)
  have by1 : w7.cell? ⟨w6.heap.size, 0, none⟩ = some (.slice (some ⟨ax1_0, 0, none⟩) n1_0 n1_0) := (hb7.cell (by simp <;> omega)).trans (by simp)
  replace hB : Below w.heap.size w w7 := below_then (hB.alloc (by have := hB.size; simp <;> omega) _) hb7 (by have := hB.size; simp <;> omega)
  clear hb7
  replace sy0 : w5.heap.size < w7.heap.size := by omega
  replace sb1 : w.heap.size + 1 < w7.heap.size := by omega
  have sy1 : w6.heap.size < w7.heap.size := by omega
  replace sb2 : w.heap.size + 1 + 1 < w7.heap.size := by omega
  replace hhw : bw < w7.heap.size := by omega
  replace ox2_0 : OR w7 (w6.heap.size + 1) w7.heap.size (some ⟨ax2_0, 0, none⟩) n2_0 n2_0 x2_0 := ox2_0.hi_ (by simp)
  go_wp2_with fail
  refine (I_Composed (some ⟨ax0_0, 0, none⟩) n0_0 n0_0 x0_0 (some ⟨ax1_0, 0, none⟩) n1_0 n1_0 x1_0 (some ⟨ax2_0, 0, none⟩) n2_0 n2_0 x2_0 _ (ox0_0.rd.below ((Below.refl _ _).alloc (Nat.le_refl _) _)) (ox1_0.rd.below ((Below.refl _ _).alloc (Nat.le_refl _) _)) (ox2_0.rd.below ((Below.refl _ _).alloc (Nat.le_refl _) _)) g0 g1 g2).mono ?_
  rintro e w8 ⟨Ag, cg, rfl, og, hb8⟩
  have s8 : w7.heap.size + 1 ≤ w8.heap.size := by have := hb8.size; first | omega | (simp at this; omega)
  replace ow := (ow.below ((Below.refl _ _).alloc (Nat.le_refl _) _)).below hb8
  replace ox0_0 := (ox0_0.below ((Below.refl _ _).alloc (Nat.le_refl _) _)).below hb8
  replace ox1_0 := (ox1_0.below ((Below.refl _ _).alloc (Nat.le_refl _) _)).below hb8
  replace ox2_0 := (ox2_0.below ((Below.refl _ _).alloc (Nat.le_refl _) _)).below hb8
  replace bx0 := keepC hb8 (keepC ((Below.refl _ _).alloc (Nat.le_refl _) _) bx0)
  replace bx1 := keepC hb8 (keepC ((Below.refl _ _).alloc (Nat.le_refl _) _) bx1)
  replace bx2 := keepC hb8 (keepC ((Below.refl _ _).alloc (Nat.le_refl _) _) bx2)
  replace bwc := keepC hb8 (keepC ((Below.refl _ _).alloc (Nat.le_refl _) _) bwc)
  replace by0 := keepC hb8 (keepC ((Below.refl _ _).alloc (Nat.le_refl _) _) by0)
  replace by1 := keepC hb8 (keepC ((Below.refl _ _).alloc (Nat.le_refl _) _) by1)
  have by2 : w8.cell? ⟨w7.heap.size, 0, none⟩ = some (.slice (some ⟨ax2_0, 0, none⟩) n2_0 n2_0) := (hb8.cell (by simp <;> omega)).trans (by simp)
  replace hB : Below w.heap.size w w8 := below_then (hB.alloc (by have := hB.size; simp <;> omega) _) hb8 (by have := hB.size; simp <;> omega)
  clear hb8
  replace sy0 : w5.heap.size < w8.heap.size := by omega
  replace sb1 : w.heap.size + 1 < w8.heap.size := by omega
  replace sy1 : w6.heap.size < w8.heap.size := by omega
  replace sb2 : w.heap.size + 1 + 1 < w8.heap.size := by omega
  have sy2 : w7.heap.size < w8.heap.size := by omega
  replace hhw : bw < w8.heap.size := by omega
  replace og : OR w8 (w7.heap.size + 1) w8.heap.size Ag (V_Composed x0_0 x1_0 x2_0).1.length cg (V_Composed x0_0 x1_0 x2_0).1 := og.hi_ (by simp)
  go_wp2_with fail
  refine (eqSubst_same Ag _ cg (V_Composed x0_0 x1_0 x2_0).1 Aw cw _ (og.rd.below ((Below.refl _ _).alloc (Nat.le_refl _) _)) (ow.rd.below ((Below.refl _ _).alloc (Nat.le_refl _) _)) (by have := bw_Composed x0_0 x1_0 x2_0; omega)).mono ?_
  rintro e w9 ⟨rfl, hb9⟩
  have s9 : w8.heap.size + 1 ≤ w9.heap.size := by have := hb9.size; first | omega | (simp at this; omega)
  replace ow := (ow.below ((Below.refl _ _).alloc (Nat.le_refl _) _)).below hb9
  replace ox0_0 := (ox0_0.below ((Below.refl _ _).alloc (Nat.le_refl _) _)).below hb9
  replace ox1_0 := (ox1_0.below ((Below.refl _ _).alloc (Nat.le_refl _) _)).below hb9
  replace ox2_0 := (ox2_0.below ((Below.refl _ _).alloc (Nat.le_refl _) _)).below hb9
  replace og := (og.below ((Below.refl _ _).alloc (Nat.le_refl _) _)).below hb9
  replace bx0 := keepC hb9 (keepC ((Below.refl _ _).alloc (Nat.le_refl _) _) bx0)
  replace bx1 := keepC hb9 (keepC ((Below.refl _ _).alloc (Nat.le_refl _) _) bx1)
  replace bx2 := keepC hb9 (keepC ((Below.refl _ _).alloc (Nat.le_refl _) _) bx2)
  replace bwc := keepC hb9 (keepC ((Below.refl _ _).alloc (Nat.le_refl _) _) bwc)
  replace by0 := keepC hb9 (keepC ((Below.refl _ _).alloc (Nat.le_refl _) _) by0)
  replace by1 := keepC hb9 (keepC ((Below.refl _ _).alloc (Nat.le_refl _) _) by1)
  replace by2 := keepC hb9 (keepC ((Below.refl _ _).alloc (Nat.le_refl _) _) by2)
  have bg : w9.cell? ⟨w8.heap.size, 0, none⟩ = some (.slice Ag (V_Composed x0_0 x1_0 x2_0).1.length cg) := (hb9.cell (by simp <;> omega)).trans (by simp)
  replace hB : Below w.heap.size w w9 := below_then (hB.alloc (by have := hB.size; simp <;> omega) _) hb9 (by have := hB.size; simp <;> omega)
  clear hb9
  replace sy0 : w5.heap.size < w9.heap.size := by omega
  replace sb1 : w.heap.size + 1 < w9.heap.size := by omega
  replace sy1 : w6.heap.size < w9.heap.size := by omega
  replace sb2 : w.heap.size + 1 + 1 < w9.heap.size := by omega
  replace sy2 : w7.heap.size < w9.heap.size := by omega
  replace hhw : bw < w9.heap.size := by omega
  have hhg : w8.heap.size < w9.heap.size := by omega
  go_wp2_with fail
  go_region_held3 (fun w' => Below w9.heap.size w9 w' ∧ w'.cell? ⟨w5.heap.size, 0, none⟩ = some (.slice (some ⟨ax0_0, 0, none⟩) n0_0 n0_0) ∧ w'.cell? ⟨w.heap.size, 0, none⟩ = some (.slice A0_0 n0_0 c0_0))
    (first | exact ⟨(Below.refl _ _).drew, by0, bx0⟩ | exact keepS2 ha1 (by assumption) | exact keepS2 ha2 (by assumption))
    ((first | (go_at_call 22; refine (toSig_any A0_0 n0_0 c0_0 x0_0 _ ?_ g0).mono ?_; exact riS (h0_0.below hB) (by assumption); rintro e wa ⟨a0, rfl, oa0, ha1⟩) | (go_at_call 26; refine (eqSig_same (some ⟨ax0_0, 0, none⟩) n0_0 n0_0 x0_0 _ _ _ ?_ ?_ (by omega)).mono ?_; exact ox0_0.rd.below (And.left (by assumption)); exact oa0.rd; rintro e w10 ⟨rfl, ha2⟩)))
  rename_i hS
  have hb10 := hS.1
  clear hS oa0 ha1 ha2
  have s10 : w9.heap.size + 0 ≤ w10.heap.size := by have := hb10.size; first | omega | (simp at this; omega)
  replace ow := ow.below hb10
  replace ox0_0 := ox0_0.below hb10
  replace ox1_0 := ox1_0.below hb10
  replace ox2_0 := ox2_0.below hb10
  replace og := og.below hb10
  replace bx0 := keepC hb10 bx0
  replace bx1 := keepC hb10 bx1
  replace bx2 := keepC hb10 bx2
  replace bwc := keepC hb10 bwc
  replace by0 := keepC hb10 by0
  replace by1 := keepC hb10 by1
  replace by2 := keepC hb10 by2
  replace bg := keepC hb10 bg
  replace hB : Below w.heap.size w w10 := below_then hB hb10 (by have := hB.size; simp <;> omega)
  clear hb10
  replace sy0 : w5.heap.size < w10.heap.size := by omega
  replace sb1 : w.heap.size + 1 < w10.heap.size := by omega
  replace sy1 : w6.heap.size < w10.heap.size := by omega
  replace sb2 : w.heap.size + 1 + 1 < w10.heap.size := by omega
  replace sy2 : w7.heap.size < w10.heap.size := by omega
  replace hhw : bw < w10.heap.size := by omega
  replace hhg : w8.heap.size < w10.heap.size := by omega
  go_wp2_with fail
  go_region_held3 (fun w' => Below w10.heap.size w10 w' ∧ w'.cell? ⟨w6.heap.size, 0, none⟩ = some (.slice (some ⟨ax1_0, 0, none⟩) n1_0 n1_0) ∧ w'.cell? ⟨w.heap.size + 1, 0, none⟩ = some (.slice A1_0 n1_0 c1_0))
    (first | exact ⟨(Below.refl _ _).drew, by1, bx1⟩ | exact keepS2 ha1 (by assumption) | exact keepS2 ha2 (by assumption))
    ((first | (go_at_call 23; refine (toSubst_any A1_0 n1_0 c1_0 x1_0 _ ?_ g1).mono ?_; exact (h1_0.below hB).below (And.left (by assumption)); rintro e wa ⟨a0, rfl, oa0, ha1⟩) | (go_at_call 25; refine (eqSubst_same (some ⟨ax1_0, 0, none⟩) n1_0 n1_0 x1_0 _ _ _ ?_ ?_ (by omega)).mono ?_; exact ox1_0.rd.below (And.left (by assumption)); exact oa0.rd; rintro e w11 ⟨rfl, ha2⟩)))
  rename_i hS
  have hb11 := hS.1
  clear hS oa0 ha1 ha2
  have s11 : w10.heap.size + 0 ≤ w11.heap.size := by have := hb11.size; first | omega | (simp at this; omega)
  replace ow := ow.below hb11
  replace ox0_0 := ox0_0.below hb11
  replace ox1_0 := ox1_0.below hb11
  replace ox2_0 := ox2_0.below hb11
  replace og := og.below hb11
  replace bx0 := keepC hb11 bx0
  replace bx1 := keepC hb11 bx1
  replace bx2 := keepC hb11 bx2
  replace bwc := keepC hb11 bwc
  replace by0 := keepC hb11 by0
  replace by1 := keepC hb11 by1
  replace by2 := keepC hb11 by2
  replace bg := keepC hb11 bg
  replace hB : Below w.heap.size w w11 := below_then hB hb11 (by have := hB.size; simp <;> omega)
  clear hb11
  replace sy0 : w5.heap.size < w11.heap.size := by omega
  replace sb1 : w.heap.size + 1 < w11.heap.size := by omega
  replace sy1 : w6.heap.size < w11.heap.size := by omega
  replace sb2 : w.heap.size + 1 + 1 < w11.heap.size := by omega
  replace sy2 : w7.heap.size < w11.heap.size := by omega
  replace hhw : bw < w11.heap.size := by omega
  replace hhg : w8.heap.size < w11.heap.size := by omega
  go_wp2_with fail
  go_region_held3 (fun w' => Below w11.heap.size w11 w' ∧ w'.cell? ⟨w7.heap.size, 0, none⟩ = some (.slice (some ⟨ax2_0, 0, none⟩) n2_0 n2_0) ∧ w'.cell? ⟨w.heap.size + 1 + 1, 0, none⟩ = some (.slice A2_0 n2_0 c2_0))
    (first | exact ⟨(Below.refl _ _).drew, by2, bx2⟩ | exact keepS2 ha1 (by assumption) | exact keepS2 ha2 (by assumption))
    ((first | (go_at_call 23; refine (toSubst_any A2_0 n2_0 c2_0 x2_0 _ ?_ g2).mono ?_; exact (h2_0.below hB).below (And.left (by assumption)); rintro e wa ⟨a0, rfl, oa0, ha1⟩) | (go_at_call 25; refine (eqSubst_same (some ⟨ax2_0, 0, none⟩) n2_0 n2_0 x2_0 _ _ _ ?_ ?_ (by omega)).mono ?_; exact ox2_0.rd.below (And.left (by assumption)); exact oa0.rd; rintro e w12 ⟨rfl, ha2⟩)))
  rename_i hS
  have hb12 := hS.1
  clear hS oa0 ha1 ha2
  have s12 : w11.heap.size + 0 ≤ w12.heap.size := by have := hb12.size; first | omega | (simp at this; omega)
  replace ow := ow.below hb12
  replace ox0_0 := ox0_0.below hb12
  replace ox1_0 := ox1_0.below hb12
  replace ox2_0 := ox2_0.below hb12
  replace og := og.below hb12
  replace bx0 := keepC hb12 bx0
  replace bx1 := keepC hb12 bx1
  replace bx2 := keepC hb12 bx2
  replace bwc := keepC hb12 bwc
  replace by0 := keepC hb12 by0
  replace by1 := keepC hb12 by1
  replace by2 := keepC hb12 by2
  replace bg := keepC hb12 bg
  replace hB : Below w.heap.size w w12 := below_then hB hb12 (by have := hB.size; simp <;> omega)
  clear hb12
  replace sy0 : w5.heap.size < w12.heap.size := by omega
  replace sb1 : w.heap.size + 1 < w12.heap.size := by omega
  replace sy1 : w6.heap.size < w12.heap.size := by omega
  replace sb2 : w.heap.size + 1 + 1 < w12.heap.size := by omega
  replace sy2 : w7.heap.size < w12.heap.size := by omega
  replace hhw : bw < w12.heap.size := by omega
  replace hhg : w8.heap.size < w12.heap.size := by omega
  go_wp2_with fail
  have mk13 := markSig_any _ _ (some ⟨ax0_0, 0, none⟩) n0_0 n0_0 x0_0 (1) _ ox0_0 (by omega) (by omega) 
  refine mk13.mono ?_
  clear mk13
  rintro e w13 ⟨rfl, _, ho13⟩
  have s13 : w12.heap.size ≤ w13.heap.size := ho13.size
  replace ow := ow.only ho13 (by first | omega | (dsimp only; omega))
  replace ox1_0 := ox1_0.only ho13 (by first | omega | (dsimp only; omega))
  replace ox2_0 := ox2_0.only ho13 (by first | omega | (dsimp only; omega))
  replace og := og.only ho13 (by first | omega | (dsimp only; omega))
  replace bx0 := keepO ho13 (by first | omega | (dsimp only; omega)) bx0
  replace bx1 := keepO ho13 (by first | omega | (dsimp only; omega)) bx1
  replace bx2 := keepO ho13 (by first | omega | (dsimp only; omega)) bx2
  replace bwc := keepO ho13 (by first | omega | (dsimp only; omega)) bwc
  replace by0 := keepO ho13 (by first | omega | (dsimp only; omega)) by0
  replace by1 := keepO ho13 (by first | omega | (dsimp only; omega)) by1
  replace by2 := keepO ho13 (by first | omega | (dsimp only; omega)) by2
  replace bg := keepO ho13 (by first | omega | (dsimp only; omega)) bg
  replace hB : Below w.heap.size w w13 := hB.trans (ho13.below (by first | omega | (dsimp only; omega)) hB.size)
  clear ho13
  replace sy0 : w5.heap.size < w13.heap.size := by omega
  replace sb1 : w.heap.size + 1 < w13.heap.size := by omega
  replace sy1 : w6.heap.size < w13.heap.size := by omega
  replace sb2 : w.heap.size + 1 + 1 < w13.heap.size := by omega
  replace sy2 : w7.heap.size < w13.heap.size := by omega
  replace hhw : bw < w13.heap.size := by omega
  replace hhg : w8.heap.size < w13.heap.size := by omega
  clear ox0_0
  have sr1_0 := sumR_le x1_0
  have sn1_0 : n1_0 ≤ 1048576 := by have := ox1_0.1; unfold wtR at g1; omega
  go_wp2_with fail
  have mk14 := markSubst_any _ _ (some ⟨ax1_0, 0, none⟩) n1_0 n1_0 x1_0 (1 + ↑(n0_0)) _ ox1_0 (by omega) (by omega) sn1_0
  refine mk14.mono ?_
  clear mk14
  rintro e w14 ⟨rfl, _, ho14⟩
  have s14 : w13.heap.size ≤ w14.heap.size := ho14.size
  replace ow := ow.only ho14 (by first | omega | (dsimp only; omega))
  replace ox2_0 := ox2_0.only ho14 (by first | omega | (dsimp only; omega))
  replace og := og.only ho14 (by first | omega | (dsimp only; omega))
  replace bx0 := keepO ho14 (by first | omega | (dsimp only; omega)) bx0
  replace bx1 := keepO ho14 (by first | omega | (dsimp only; omega)) bx1
  replace bx2 := keepO ho14 (by first | omega | (dsimp only; omega)) bx2
  replace bwc := keepO ho14 (by first | omega | (dsimp only; omega)) bwc
  replace by0 := keepO ho14 (by first | omega | (dsimp only; omega)) by0
  replace by1 := keepO ho14 (by first | omega | (dsimp only; omega)) by1
  replace by2 := keepO ho14 (by first | omega | (dsimp only; omega)) by2
  replace bg := keepO ho14 (by first | omega | (dsimp only; omega)) bg
  replace hB : Below w.heap.size w w14 := hB.trans (ho14.below (by first | omega | (dsimp only; omega)) hB.size)
  clear ho14
  replace sy0 : w5.heap.size < w14.heap.size := by omega
  replace sb1 : w.heap.size + 1 < w14.heap.size := by omega
  replace sy1 : w6.heap.size < w14.heap.size := by omega
  replace sb2 : w.heap.size + 1 + 1 < w14.heap.size := by omega
  replace sy2 : w7.heap.size < w14.heap.size := by omega
  replace hhw : bw < w14.heap.size := by omega
  replace hhg : w8.heap.size < w14.heap.size := by omega
  clear ox1_0
  have sr2_0 := sumR_le x2_0
  have sn2_0 : n2_0 ≤ 1048576 := by have := ox2_0.1; unfold wtR at g2; omega
  go_wp2_with fail
  have mk15 := markSubst_any _ _ (some ⟨ax2_0, 0, none⟩) n2_0 n2_0 x2_0 (1 + ↑(n0_0) + ↑(sumR x1_0)) _ ox2_0 (by omega) (by omega) sn2_0
  refine mk15.mono ?_
  clear mk15
  rintro e w15 ⟨rfl, _, ho15⟩
  have s15 : w14.heap.size ≤ w15.heap.size := ho15.size
  replace ow := ow.only ho15 (by first | omega | (dsimp only; omega))
  replace og := og.only ho15 (by first | omega | (dsimp only; omega))
  replace bx0 := keepO ho15 (by first | omega | (dsimp only; omega)) bx0
  replace bx1 := keepO ho15 (by first | omega | (dsimp only; omega)) bx1
  replace bx2 := keepO ho15 (by first | omega | (dsimp only; omega)) bx2
  replace bwc := keepO ho15 (by first | omega | (dsimp only; omega)) bwc
  replace by0 := keepO ho15 (by first | omega | (dsimp only; omega)) by0
  replace by1 := keepO ho15 (by first | omega | (dsimp only; omega)) by1
  replace by2 := keepO ho15 (by first | omega | (dsimp only; omega)) by2
  replace bg := keepO ho15 (by first | omega | (dsimp only; omega)) bg
  replace hB : Below w.heap.size w w15 := hB.trans (ho15.below (by first | omega | (dsimp only; omega)) hB.size)
  clear ho15
  replace sy0 : w5.heap.size < w15.heap.size := by omega
  replace sb1 : w.heap.size + 1 < w15.heap.size := by omega
  replace sy1 : w6.heap.size < w15.heap.size := by omega
  replace sb2 : w.heap.size + 1 + 1 < w15.heap.size := by omega
  replace sy2 : w7.heap.size < w15.heap.size := by omega
  replace hhw : bw < w15.heap.size := by omega
  replace hhg : w8.heap.size < w15.heap.size := by omega
  clear ox2_0
  have kn : decide ((1 + ↑(n0_0) + ↑(sumR x1_0) + ↑(sumR x2_0) : Int) < 0) = false := by simp; omega
  go_wp2_with fail
  refine (eqSubst_same Ag _ cg (V_Composed x0_0 x1_0 x2_0).1 Aw cw _ og.rd ow.rd (by have := bw_Composed x0_0 x1_0 x2_0; omega)).mono ?_
  rintro e w16 ⟨rfl, hb16⟩
  have s16 : w15.heap.size + 0 ≤ w16.heap.size := by have := hb16.size; first | omega | (simp at this; omega)
  replace ow := ow.below hb16
  replace og := og.below hb16
  replace bx0 := keepC hb16 bx0
  replace bx1 := keepC hb16 bx1
  replace bx2 := keepC hb16 bx2
  replace bwc := keepC hb16 bwc
  replace by0 := keepC hb16 by0
  replace by1 := keepC hb16 by1
  replace by2 := keepC hb16 by2
  replace bg := keepC hb16 bg
  replace hB : Below w.heap.size w w16 := below_then hB hb16 (by have := hB.size; simp <;> omega)
  clear hb16
  replace sy0 : w5.heap.size < w16.heap.size := by omega
  replace sb1 : w.heap.size + 1 < w16.heap.size := by omega
  replace sy1 : w6.heap.size < w16.heap.size := by omega
  replace sb2 : w.heap.size + 1 + 1 < w16.heap.size := by omega
  replace sy2 : w7.heap.size < w16.heap.size := by omega
  replace hhw : bw < w16.heap.size := by omega
  replace hhg : w8.heap.size < w16.heap.size := by omega
  have bdl := bd_Composed x0_0 x1_0 x2_0
  have bwl := bw_Composed x0_0 x1_0 x2_0
  have bsl := sumR_le (V_Composed x0_0 x1_0 x2_0).1
  go_wp2_with fail
  have mk17 := markSubst_any _ _ Ag _ cg (V_Composed x0_0 x1_0 x2_0).1 1 _ og (by omega) (by omega) (by omega)
  refine mk17.mono ?_
  clear mk17
  rintro e w17 ⟨rfl, og, ho17⟩
  have s17 : w16.heap.size ≤ w17.heap.size := ho17.size
  replace ow := ow.only ho17 (by first | omega | (dsimp only; omega))
  replace bx0 := keepO ho17 (by first | omega | (dsimp only; omega)) bx0
  replace bx1 := keepO ho17 (by first | omega | (dsimp only; omega)) bx1
  replace bx2 := keepO ho17 (by first | omega | (dsimp only; omega)) bx2
  replace bwc := keepO ho17 (by first | omega | (dsimp only; omega)) bwc
  replace by0 := keepO ho17 (by first | omega | (dsimp only; omega)) by0
  replace by1 := keepO ho17 (by first | omega | (dsimp only; omega)) by1
  replace by2 := keepO ho17 (by first | omega | (dsimp only; omega)) by2
  replace bg := keepO ho17 (by first | omega | (dsimp only; omega)) bg
  replace hB : Below w.heap.size w w17 := hB.trans (ho17.below (by first | omega | (dsimp only; omega)) hB.size)
  clear ho17
  replace sy0 : w5.heap.size < w17.heap.size := by omega
  replace sb1 : w.heap.size + 1 < w17.heap.size := by omega
  replace sy1 : w6.heap.size < w17.heap.size := by omega
  replace sb2 : w.heap.size + 1 + 1 < w17.heap.size := by omega
  replace sy2 : w7.heap.size < w17.heap.size := by omega
  replace hhw : bw < w17.heap.size := by omega
  replace hhg : w8.heap.size < w17.heap.size := by omega
  go_wp2_with fail
  refine (heldSubst_any Ag _ cg (V_Composed x0_0 x1_0 x2_0).1 1 _ og.rd (by omega) (by omega) (by omega)).mono ?_
  rintro e w18 ⟨rfl, hb18⟩
  have s18 : w17.heap.size + 0 ≤ w18.heap.size := by have := hb18.size; first | omega | (simp at this; omega)
  replace ow := ow.below hb18
  replace og := og.below hb18
  replace bx0 := keepC hb18 bx0
  replace bx1 := keepC hb18 bx1
  replace bx2 := keepC hb18 bx2
  replace bwc := keepC hb18 bwc
  replace by0 := keepC hb18 by0
  replace by1 := keepC hb18 by1
  replace by2 := keepC hb18 by2
  replace bg := keepC hb18 bg
  replace hB : Below w.heap.size w w18 := below_then hB hb18 (by have := hB.size; simp <;> omega)
  clear hb18
  replace sy0 : w5.heap.size < w18.heap.size := by omega
  replace sb1 : w.heap.size + 1 < w18.heap.size := by omega
  replace sy1 : w6.heap.size < w18.heap.size := by omega
  replace sb2 : w.heap.size + 1 + 1 < w18.heap.size := by omega
  replace sy2 : w7.heap.size < w18.heap.size := by omega
  replace hhw : bw < w18.heap.size := by omega
  replace hhg : w8.heap.size < w18.heap.size := by omega
  go_wp2_with fail
  go_cut [18, 19] from 20 (fun s18 s19 w' => ∃ (bh : Nat) (Ah : Option Addr) (ch : Nat), s18 = .pointer (some ⟨bh, 0, none⟩) ∧ s19 = .bool (V_Composed x0_0 x1_0 x2_0).2 ∧ w18.heap.size ≤ bh ∧ bh < w'.heap.size ∧ Blk w' bh 43 #[.slice Ah (V_Composed x0_0 x1_0 x2_0).1.length ch] ∧ OR w' w18.heap.size w'.heap.size Ah (V_Composed x0_0 x1_0 x2_0).1.length ch (V_Composed x0_0 x1_0 x2_0).1 ∧ Below w18.heap.size w18 w')
  case first =>
    have HKS : Hid (∀ w', Below w18.heap.size w18 w' → (fun w' => Below w18.heap.size w18 w' ∧ w'.cell? ⟨w.heap.size, 0, none⟩ = some (.slice A0_0 n0_0 c0_0) ∧ w'.cell? ⟨w.heap.size + 1, 0, none⟩ = some (.slice A1_0 n1_0 c1_0) ∧ w'.cell? ⟨w.heap.size + 1 + 1, 0, none⟩ = some (.slice A2_0 n2_0 c2_0)) w') := Lib.hid (fun w' h_ => ⟨h_, keepC h_ bx0, keepC h_ bx1, keepC h_ bx2⟩)
    go_region_held3 (fun w' => Below w18.heap.size w18 w' ∧ w'.cell? ⟨w.heap.size, 0, none⟩ = some (.slice A0_0 n0_0 c0_0) ∧ w'.cell? ⟨w.heap.size + 1, 0, none⟩ = some (.slice A1_0 n1_0 c1_0) ∧ w'.cell? ⟨w.heap.size + 1 + 1, 0, none⟩ = some (.slice A2_0 n2_0 c2_0))
      (first | exact HKS.out _ (Below.refl _ _).drew | exact HKS.out _ (keepS0 ha_0 (And.left (by assumption))) | exact HKS.out _ (keepS0 ha_1 (And.left (by assumption))) | exact HKS.out _ (keepS0 ha_2 (And.left (by assumption))) | exact HKS.out _ (keepS0 haf (And.left (by assumption))) | exact HKS.out _ (belA (And.left (by assumption))) | exact HKS.out _ (belR (by have e_ : w18.drew.heap.size = w18.heap.size := rfl; have q_0 := ha_0.size; have q_1 := ha_1.size; have q_2 := ha_2.size; have qf := haf.size; (try simp only [World.size_alloc, World.size_drew] at q_0 q_1 q_2 qf ⊢); first | omega | (dsimp only; omega)) (And.left (by assumption))) | exact HKS.out _ (Below.setCell (And.left (by assumption)) (by have e_ : w18.drew.heap.size = w18.heap.size := rfl; have q_0 := ha_0.size; have q_1 := ha_1.size; have q_2 := ha_2.size; have qf := haf.size; (try simp only [World.size_alloc, World.size_drew] at q_0 q_1 q_2 qf ⊢); first | omega | (dsimp only; omega)) _))
      ((first | (go_at_call 22; refine (toSig_any A0_0 n0_0 c0_0 x0_0 _ ?_ g0).mono ?_; exact riS (h0_0.below hB) (by assumption); rintro e wa_0 ⟨at0_0, rfl, ot0_0, ha_0⟩; (first | have hbx_0 := (Blk.new _ 43 #[.slice none 0 0]).below ha_0 | have hbx_0 := (Blk.new _ 43 #[.slice none 0 0]).drew.below ha_0 | skip)) | (go_at_call 23; with_reducible (show Calls Try.prog 23 #[.agg #[.slice A1_0 n1_0 c1_0]] _ _); refine (toSubst_any A1_0 n1_0 c1_0 x1_0 _ ?_ g1).mono ?_; exact (h1_0.below hB).below (And.left (by assumption)); rintro e wa_1 ⟨at1_0, rfl, ot1_0, ha_1⟩; (first | replace ot0_0 := ot0_0.below ha_1 | replace ot0_0 := (ot0_0.below ((Below.refl _ _).alloc (Nat.le_refl _) _)).below ha_1); (first | have hbx_1 := hbx_0.below ha_1 | have hbx_1 := (Blk.new _ 43 #[.slice none 0 0]).below ha_1 | have hbx_1 := (Blk.new _ 43 #[.slice none 0 0]).drew.below ha_1 | skip)) | (go_at_call 23; with_reducible (show Calls Try.prog 23 #[.agg #[.slice A2_0 n2_0 c2_0]] _ _); refine (toSubst_any A2_0 n2_0 c2_0 x2_0 _ ?_ g2).mono ?_; exact (h2_0.below hB).below (And.left (by assumption)); rintro e wa_2 ⟨at2_0, rfl, ot2_0, ha_2⟩; (first | replace ot0_0 := ot0_0.below ha_2 | replace ot0_0 := (ot0_0.below ((Below.refl _ _).alloc (Nat.le_refl _) _)).below ha_2); (first | replace ot1_0 := ot1_0.below ha_2 | replace ot1_0 := (ot1_0.below ((Below.refl _ _).alloc (Nat.le_refl _) _)).below ha_2); (first | have hbx_2 := hbx_1.below ha_2 | have hbx_2 := (Blk.new _ 43 #[.slice none 0 0]).below ha_2 | have hbx_2 := (Blk.new _ 43 #[.slice none 0 0]).drew.below ha_2 | skip)) | (go_at_call 24; refine (I_Composed (some ⟨at0_0, 0, none⟩) n0_0 n0_0 x0_0 (some ⟨at1_0, 0, none⟩) n1_0 n1_0 x1_0 (some ⟨at2_0, 0, none⟩) n2_0 n2_0 x2_0 _ ?_ ?_ ?_ g0 g1 g2).mono ?_; (first | exact ot0_0.rd | exact ot0_0.rd.below ((Below.refl _ _).alloc (Nat.le_refl _) _)); (first | exact ot1_0.rd | exact ot1_0.rd.below ((Below.refl _ _).alloc (Nat.le_refl _) _)); (first | exact ot2_0.rd | exact ot2_0.rd.below ((Below.refl _ _).alloc (Nat.le_refl _) _)); rintro e w19 ⟨Ah, ch, rfl, oh, haf⟩; (first | have hbxf := hbx_2.below haf | have hbxf := (Blk.new _ 43 #[.slice none 0 0]).below haf | have hbxf := (Blk.new _ 43 #[.slice none 0 0]).drew.below haf | skip); (try have hx0 := hbxf.cell 0); (try simp only [List.getElem?_toArray, List.getElem?_cons_zero, List.getElem?_cons_succ] at hx0); (try have hf0 := hbxf.frozen 0))))
    all_goals (rename_i hS; go_wp2_with fail; go_meet)
    all_goals (first
      | exact ⟨_, Ah, ch, rfl, rfl, (by have e_ : w18.drew.heap.size = w18.heap.size := rfl; have q_0 := ha_0.size; have q_1 := ha_1.size; have q_2 := ha_2.size; have qf := haf.size; (try simp only [World.size_alloc, World.size_drew] at q_0 q_1 q_2 qf ⊢); first | omega | (dsimp only; omega)), (by simp), Blk.new _ _ _, (oh.below ((Below.refl _ _).alloc (Nat.le_refl _) _)).hi_ (by have e_ : w18.drew.heap.size = w18.heap.size := rfl; have q_0 := ha_0.size; have q_1 := ha_1.size; have q_2 := ha_2.size; have qf := haf.size; (try simp only [World.size_alloc, World.size_drew] at q_0 q_1 q_2 qf ⊢); first | omega | (dsimp only; omega)), hS.1⟩
      | exact ⟨_, Ah, ch, rfl, rfl, (by have e_ : w18.drew.heap.size = w18.heap.size := rfl; have q_0 := ha_0.size; have q_1 := ha_1.size; have q_2 := ha_2.size; have qf := haf.size; (try simp only [World.size_alloc, World.size_drew] at q_0 q_1 q_2 qf ⊢); first | omega | (dsimp only; omega)), (by simp only [World.size_setCell]; exact hbxf.lt), (by simpa using (hbxf.set_ 0 _)), (QR.setBelow oh (by have e_ : w18.drew.heap.size = w18.heap.size := rfl; have q_0 := ha_0.size; have q_1 := ha_1.size; have q_2 := ha_2.size; have qf := haf.size; (try simp only [World.size_alloc, World.size_drew] at q_0 q_1 q_2 qf ⊢); first | omega | (dsimp only; omega)) _).hi_ (by have e_ : w18.drew.heap.size = w18.heap.size := rfl; have q_0 := ha_0.size; have q_1 := ha_1.size; have q_2 := ha_2.size; have qf := haf.size; (try simp only [World.size_alloc, World.size_drew] at q_0 q_1 q_2 qf ⊢); first | omega | (dsimp only; omega)), hS.1⟩)
  rename World => w19
  obtain ⟨bh, Ah, ch, rfl, rfl, loh, hhh, hkh, oh, hb19⟩ := hcut
  have zzh := hhh
  have s19 : w18.heap.size + 0 ≤ w19.heap.size := by have := hb19.size; first | omega | (simp at this; omega)
  replace ow := ow.below hb19
  replace og := og.below hb19
  replace bx0 := keepC hb19 bx0
  replace bx1 := keepC hb19 bx1
  replace bx2 := keepC hb19 bx2
  replace bwc := keepC hb19 bwc
  replace by0 := keepC hb19 by0
  replace by1 := keepC hb19 by1
  replace by2 := keepC hb19 by2
  replace bg := keepC hb19 bg
  replace hB : Below w.heap.size w w19 := below_then hB hb19 (by have := hB.size; simp <;> omega)
  clear hb19
  replace sy0 : w5.heap.size < w19.heap.size := by omega
  replace sb1 : w.heap.size + 1 < w19.heap.size := by omega
  replace sy1 : w6.heap.size < w19.heap.size := by omega
  replace sb2 : w.heap.size + 1 + 1 < w19.heap.size := by omega
  replace sy2 : w7.heap.size < w19.heap.size := by omega
  replace hhw : bw < w19.heap.size := by omega
  replace hhg : w8.heap.size < w19.heap.size := by omega
  have bhc : w19.cell? ⟨bh, 0, none⟩ = some (.slice Ah (V_Composed x0_0 x1_0 x2_0).1.length ch) := by simpa using hkh.cell 0
  clear hkh
  go_wp2_with fail
  refine (eqSubst_same Ah _ ch (V_Composed x0_0 x1_0 x2_0).1 Aw cw _ oh.rd ow.rd (by have := bw_Composed x0_0 x1_0 x2_0; omega)).mono ?_
  rintro e w20 ⟨rfl, hb20⟩
  have s20 : w19.heap.size + 0 ≤ w20.heap.size := by have := hb20.size; first | omega | (simp at this; omega)
  replace ow := ow.below hb20
  replace og := og.below hb20
  replace oh := oh.below hb20
  replace bx0 := keepC hb20 bx0
  replace bx1 := keepC hb20 bx1
  replace bx2 := keepC hb20 bx2
  replace bwc := keepC hb20 bwc
  replace by0 := keepC hb20 by0
  replace by1 := keepC hb20 by1
  replace by2 := keepC hb20 by2
  replace bg := keepC hb20 bg
  replace bhc := keepC hb20 bhc
  replace hB : Below w.heap.size w w20 := below_then hB hb20 (by have := hB.size; simp <;> omega)
  clear hb20
  replace sy0 : w5.heap.size < w20.heap.size := by omega
  replace sb1 : w.heap.size + 1 < w20.heap.size := by omega
  replace sy1 : w6.heap.size < w20.heap.size := by omega
  replace sb2 : w.heap.size + 1 + 1 < w20.heap.size := by omega
  replace sy2 : w7.heap.size < w20.heap.size := by omega
  replace hhw : bw < w20.heap.size := by omega
  replace hhg : w8.heap.size < w20.heap.size := by omega
  replace hhh : bh < w20.heap.size := by omega
  go_wp2_with fail
  refine (heldSubst_any Ag _ cg (V_Composed x0_0 x1_0 x2_0).1 1 _ og.rd (by omega) (by omega) (by omega)).mono ?_
  rintro e w21 ⟨rfl, hb21⟩
  have s21 : w20.heap.size + 0 ≤ w21.heap.size := by have := hb21.size; first | omega | (simp at this; omega)
  replace ow := ow.below hb21
  replace og := og.below hb21
  replace oh := oh.below hb21
  replace bx0 := keepC hb21 bx0
  replace bx1 := keepC hb21 bx1
  replace bx2 := keepC hb21 bx2
  replace bwc := keepC hb21 bwc
  replace by0 := keepC hb21 by0
  replace by1 := keepC hb21 by1
  replace by2 := keepC hb21 by2
  replace bg := keepC hb21 bg
  replace bhc := keepC hb21 bhc
  replace hB : Below w.heap.size w w21 := below_then hB hb21 (by have := hB.size; simp <;> omega)
  clear hb21
  replace sy0 : w5.heap.size < w21.heap.size := by omega
  replace sb1 : w.heap.size + 1 < w21.heap.size := by omega
  replace sy1 : w6.heap.size < w21.heap.size := by omega
  replace sb2 : w.heap.size + 1 + 1 < w21.heap.size := by omega
  replace sy2 : w7.heap.size < w21.heap.size := by omega
  replace hhw : bw < w21.heap.size := by omega
  replace hhg : w8.heap.size < w21.heap.size := by omega
  replace hhh : bh < w21.heap.size := by omega
  go_wp2_with fail
  go_ret
  exact ⟨rfl, hB⟩

theorem own : ownKnob Try.prog.godebug = none := by kernel_rfl
theorem laidOut : laidOutB Try.prog = true := by kernel_rfl

set_option maxRecDepth 100000 in
theorem lifted (os : Os) (started : os.Started) (H : Type) (enc : TypeId × Value → H) :
    ReturnsInHanded {} Try.checked os 7 .any (Rows.fnExactComposedSpec.pre6 enc Try.prog Try.f7 Rows.fnExactComposedRow.domain false) (Rows.fnExactComposedSpec.post enc Try.prog Try.f7 false true false false) := by
  refine returnsInHanded_of_change (C := Try.checked) own started (by kernel_rfl) Try.func7
    (ChangeSpec.witness6 (enc := enc) (C := Try.checked) false ⟨#[], #[.agg #[.slice none 0 0], .agg #[.slice none 0 0], .agg #[.slice none 0 0]], []⟩ 8 (by kernel_rfl) (by kernel_rfl) (by kernel_rfl) (by kernel_rfl)) ?_
  intro W base args ds gs before hval0 hW hcnd _
  have hval : ∀ (j : Nat) t v, Try.f7.params[j]? = some t → args[j]? = some v → Value.okWide Try.prog W .any base t v := hval0
  have hW' := hW
  obtain ⟨p, q, hA0, hV, rfl, hfz, hnd⟩ := hW
  have hA : DataW.TrodAll enc Try.prog W 0 (fun _ => true) true Try.f7.params.toList args.toList ds p := hA0
  rw [Try.params7] at hA hval
  obtain ⟨v0, vs0, d0, ds0, p0, q0, hargs, rfl, rfl, h0, r0⟩ := trodAll_cons hA
  obtain ⟨v1, vs1, d1, ds1, p1, q1, rfl, rfl, rfl, h1, r1⟩ := trodAll_cons r0
  obtain ⟨v2, vs2, d2, ds2, p2, q2, rfl, rfl, rfl, h2, r2⟩ := trodAll_cons r1
  obtain ⟨rfl, rfl, rfl⟩ := trodAll_nil r2
  obtain rfl : args = #[v0, v1, v2] := by cases args; simp_all
  obtain ⟨rfl, rfl⟩ := trodVars_none hV
  have k0 := h0
  have lt0 : ∀ x ∈ p0, x.block < W.heap.size := by obtain ⟨m, hm⟩ := k0; exact DataW.trod_lt m _ _ _ hm
  obtain ⟨A0_0, n0_0, c0_0, z0_0, rfl, R0_0, M0_0⟩ := open_one Try.underlying24 (by kernel_rfl) rfl rfl (by kernel_rfl) Try.underlying22 Try.underlying2 (by kernel_rfl) (hval 0 24 v0 rfl rfl) h0
  unfold maxLen at M0_0
  have k1 := h1
  have lt1 : ∀ x ∈ p1, x.block < W.heap.size := by obtain ⟨m, hm⟩ := k1; exact DataW.trod_lt m _ _ _ hm
  obtain ⟨A0_1, n0_1, c0_1, z0_1, rfl, R0_1, M0_1⟩ := open_subst Try.underlying40 (by kernel_rfl) rfl rfl (by kernel_rfl) Try.underlying38 (by kernel_rfl) Try.underlying22 Try.underlying2 (by kernel_rfl) (hval 1 40 v1 rfl rfl) h1
  unfold maxLen at M0_1
  have k2 := h2
  have lt2 : ∀ x ∈ p2, x.block < W.heap.size := by obtain ⟨m, hm⟩ := k2; exact DataW.trod_lt m _ _ _ hm
  obtain ⟨A0_2, n0_2, c0_2, z0_2, rfl, R0_2, M0_2⟩ := open_subst Try.underlying40 (by kernel_rfl) rfl rfl (by kernel_rfl) Try.underlying38 (by kernel_rfl) Try.underlying22 Try.underlying2 (by kernel_rfl) (hval 2 40 v2 rfl rfl) h2
  unfold maxLen at M0_2
  clear hA0 hval0
  refine (walk A0_0 n0_0 c0_0 z0_0 A0_1 n0_1 c0_1 z0_1 A0_2 n0_2 c0_2 z0_2 W R0_0 R0_1 R0_2 (by omega) (by omega) (by omega)).mono fun e W' ⟨he, bel⟩ => ?_
  subst he
  exact ⟨_, rfl, _, _, _, [], _, [], hW', trodAll_mk1 (shut_bool Try.underlying4 _), (trodAll_cons_mk (Below.trod laidOut (by kernel_rfl) (of_decide_eq_true (by kernel_rfl)) k0 bel lt0) (trodAll_cons_mk (Below.trod laidOut (by kernel_rfl) (of_decide_eq_true (by kernel_rfl)) k1 bel lt1) (trodAll_cons_mk (Below.trod laidOut (by kernel_rfl) (of_decide_eq_true (by kernel_rfl)) k2 bel lt2) trodAll_mk0))), rfl, bel.frame _, fun h => by cases h⟩

theorem over : Rows.fnExactComposedRow.holds Try.pinned (OpenSpec.ofChange Rows.fnExactComposedSpec) :=
  OpenClaim.holds_of_wide 7 Try.f7 rfl rfl rfl rfl rfl rfl rfl ⟨rfl, rfl, rfl, rfl, rfl⟩ rfl rfl rfl rfl rfl (by kernel_rfl) Try.func7 (by kernel_rfl)
    (of_decide_eq_true (by kernel_rfl)) (by unfold Func.isWrapper; first | (rw [if_pos (by decide +kernel)]; kernel_rfl) | (rw [if_neg (by decide +kernel)]; exact ⟨rfl, rfl⟩))
    (fun os started H enc _ => lifted os started H enc)

theorem proved : Rows.FnExactComposedSaid := over
end Go.Proofs.Ytkmkopfkhpgagaa.lComposed
