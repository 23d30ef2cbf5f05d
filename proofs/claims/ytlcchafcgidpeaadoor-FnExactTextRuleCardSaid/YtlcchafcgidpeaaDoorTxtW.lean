/- Contracts: TextRule, the reference's. -/
import Derived.Test.YtlcchafcgidpeaaDoorTxtV
import Derived.Deep.RegionHeld3
namespace Go.Proofs.YtlcchafcgidpeaaDoor
open Go.RowKit
set_option linter.unusedVariables false
set_option linter.unusedSimpArgs false

theorem VT_false {xs y : List Int} {s : ByteArray} (h4 : ¬ 400 < s.size) (h : V_TextTerm xs s = (y, false)) : Pl.readT xs s.data.toList = none := by
  cases hq : Pl.readT xs s.data.toList with
  | none => rfl
  | some t => rw [V_TextTerm_some h4 hq] at h; cases h
theorem VT_true {xs y : List Int} {s : ByteArray} (h4 : ¬ 400 < s.size) (h : V_TextTerm xs s = (y, true)) : Pl.readT xs s.data.toList = some y := by
  cases hq : Pl.readT xs s.data.toList with
  | none => rw [V_TextTerm_none hq] at h; cases h
  | some t => rw [V_TextTerm_some h4 hq] at h; cases h; rfl
theorem sides_w0 {xs : List Int} {l : List UInt8} (h : (Pl.words 32 l).length ≠ 3) : Pl.sides xs l = none := by
  unfold Pl.sides
  split
  · rename_i hw; rw [hw] at h; simp at h
  · rfl
theorem sides_w1 {xs : List Int} {l a m b : List UInt8} (h : Pl.words 32 l = [a, m, b]) (h2 : m ≠ [45, 62]) : Pl.sides xs l = none := by
  unfold Pl.sides
  rw [h]
  exact if_neg h2
theorem sides_w2 {xs : List Int} {l a m b : List UInt8} (h : Pl.words 32 l = [a, m, b]) (h2 : Pl.readT xs a = none) : Pl.sides xs l = none := by
  unfold Pl.sides
  rw [h]
  simp only [h2]
  split <;> rfl
theorem sides_w3 {xs : List Int} {l a m b : List UInt8} (h : Pl.words 32 l = [a, m, b]) (h2 : Pl.readT xs b = none) : Pl.sides xs l = none := by
  unfold Pl.sides
  rw [h]
  simp only [h2]
  split
  · cases Pl.readT xs a <;> rfl
  · rfl
theorem sides_w4 {xs : List Int} {l a m b : List UInt8} {x y : List Int} (h : Pl.words 32 l = [a, m, b]) (hm : m = [45, 62]) (h1 : Pl.readT xs a = some x) (h2 : Pl.readT xs b = some y) : Pl.sides xs l = some (x, y) := by
  unfold Pl.sides
  rw [h]
  simp only [h1, h2, hm]
  rfl
theorem three_of {W : List (List UInt8)} (h : W.length = 3) : ∃ a m b, W = [a, m, b] := by
  match W, h with
  | [a, m, b], _ => exact ⟨a, m, b, rfl⟩
set_option maxHeartbeats 8000000 in
set_option maxRecDepth 20000 in
theorem S_TextRule (A : Option Addr) (n c : Nat) (xs : List Int) (s : ByteArray) (w : World) (h : RI w A n xs) (hn : n ≤ 1048576) (_ : s.size ≤ 1048576) :
    Calls Tryd.prog 12 #[.agg #[.slice A n c], .string s] w fun e w' => ∃ A0 c0 A1 c1, e = .returned (.tuple #[.agg #[.slice A0 (V_TextRule xs s).1.1.length c0, .slice A1 (V_TextRule xs s).1.2.length c1], .bool (V_TextRule xs s).2]) ∧ OI w' w.heap.size A0 (V_TextRule xs s).1.1.length c0 (V_TextRule xs s).1.1 ∧ OI w' w.heap.size A1 (V_TextRule xs s).1.2.length c1 (V_TextRule xs s).1.2 ∧ (∀ b, blk A0 = some b → blk A1 ≠ some b) ∧ Below w.heap.size w w' := by
  have hB0 : Below w.heap.size w ((w.alloc (.cells #[.slice A n c] 30)).alloc (.cells #[.slice none 0 0, .slice none 0 0] 27)) := ((Below.refl _ _).alloc (Nat.le_refl _) _).alloc (by simp) _
  by_cases h4 : 400 < s.size
  · have HE := Lib.hid (V_TextRule_long (xs := xs) h4)
    go_enter Tryd.func12, Tryd.ntmps12
    go_wp2_with fail
    rw [HE.out]
    exact bodyPost_ret (v := .tuple #[.agg #[.slice none 0 0, .slice none 0 0], .bool false]) (by simp [results, Tryd.results12, go_sem]) rfl ⟨none, 0, none, 0, rfl, World.ownsRow_nil _ _ _ _, World.ownsRow_nil _ _ _ _, blk_none2 _, hB0⟩
  have bx0 := (Blk.new w 30 #[.slice A n c]).alloc (.cells #[.slice none 0 0, .slice none 0 0] 27)
  have bo : Blk ((w.alloc (.cells #[.slice A n c] 30)).alloc (.cells #[.slice none 0 0, .slice none 0 0] 27)) (w.heap.size + 1) 27 #[.slice none 0 0, .slice none 0 0] := by
    have := Blk.new (w.alloc (.cells #[.slice A n c] 30)) 27 #[.slice none 0 0, .slice none 0 0]
    simpa only [World.size_alloc] using this
  have hsz : ((w.alloc (.cells #[.slice A n c] 30)).alloc (.cells #[.slice none 0 0, .slice none 0 0] 27)).heap.size = w.heap.size + 1 + 1 := by simp
  have r0 := h.below hB0
  go_enter Tryd.func12, Tryd.ntmps12
  go_wp2_with fail
  generalize (w.alloc (.cells #[.slice A n c] 30)).alloc (.cells #[.slice none 0 0, .slice none 0 0] 27) = W0 at *
  have HS := Lib.hid hsz
  clear hsz
  refine (l1Split_any s 32 W0 (by omega)).mono ?_
  rintro e w1 ⟨Aw, cw, rfl, hW, hb1⟩
  have bx1 := bx0.below hb1
  have bo1 := bo.below hb1
  have r1 := r0.below hb1
  have hB1 := hB0.trans (hb1.mono (by have := HS.out; omega))
  have hs1 : w.heap.size + 1 + 1 ≤ w1.heap.size := by have := HS.out; have := hb1.size; omega
  have hWI := hW.wi
  have HNO := Lib.hid (fun hq => V_TextRule_none (xs := xs) (s := s) hq)
  have hwe := fun a ha => Pl.words_each 32 s.data.toList a ha
  have hwl := Pl.words_len 32 s.data.toList
  rw [size_len] at hwe hwl
  clear bx0 bo r0 hB0 hb1 hW HS
  by_cases h3 : (Pl.words 32 s.data.toList).length = 3
  rotate_left
  · have HE := Lib.hid (HNO.out (sides_w0 h3))
    have bo := bo1
    have hneq : (((Pl.words 32 s.data.toList).length : Int) != 3) = true := bne_iff_ne.2 (by omega)
    clear HNO bo1
    generalize Pl.words 32 s.data.toList = W at *
    have K0 : w1.cell? ⟨w.heap.size + 1, 0, none⟩ = some (.slice none 0 0) := by simpa using bo.cell 0
    have K1 : w1.cell? ⟨w.heap.size + 1, 1, none⟩ = some (.slice none 0 0) := by simpa using bo.cell 1
    have F0 : w1.frozen? ⟨w.heap.size + 1, 0, none⟩ = false := bo.frozen 0
    have F1 : w1.frozen? ⟨w.heap.size + 1, 1, none⟩ = false := bo.frozen 1
    obtain ⟨bk, ho⟩ := setPair bo (.slice none 0 0) (.slice none 0 0)
    go_wp2_with fail
    have K2 : ∀ i, ((w1.setCell ⟨w.heap.size + 1, 0, none⟩ (.slice none 0 0)).setCell ⟨w.heap.size + 1, 1, none⟩ (.slice none 0 0)).cell? ⟨w.heap.size + 1, i, none⟩ = #[(.slice none 0 0), (.slice none 0 0)][i]? := fun i => bk.cell i
    generalize ((w1.setCell ⟨w.heap.size + 1, 0, none⟩ (.slice none 0 0)).setCell ⟨w.heap.size + 1, 1, none⟩ (.slice none 0 0)) = WZ at *
    try rw [HE.out]
    exact bodyPost_ret (v := .tuple #[.agg #[(.slice none 0 0), (.slice none 0 0)], .bool false]) (by simp [results, Tryd.results12, go_sem, K2]) rfl ⟨none, 0, none, 0, rfl, World.ownsRow_nil _ _ _ _, World.ownsRow_nil _ _ _ _, blk_none2 _, hB1.trans (ho.below (by omega) (by omega))⟩
  obtain ⟨a, m, b, hW3⟩ := three_of h3
  have HW3 := Lib.hid hW3
  rw [hW3] at hWI hwe ⊢
  have ha4 : a.length ≤ 400 := by have := hwe a (by simp); omega
  have hb4 : b.length ≤ 400 := by have := hwe b (by simp); omega
  clear hW3 h3 hwe hwl
  rw [show [a, m, b].length = 3 from rfl] at hWI ⊢
  obtain ⟨g, off, x0, rfl, hk0, hx0⟩ := hWI.at_ (k := 0) (by omega)
  obtain ⟨g', off', x1, he1, hk1, hx1⟩ := hWI.at_ (k := 1) (by omega)
  obtain ⟨rfl, rfl⟩ : g = g' ∧ off = off' := by simp only [Option.some.injEq, Addr.mk.injEq] at he1; exact ⟨he1.1, he1.2.1⟩
  obtain ⟨g', off', x2, he2, hk2, hx2⟩ := hWI.at_ (k := 2) (by omega)
  obtain ⟨rfl, rfl⟩ : g = g' ∧ off = off' := by simp only [Option.some.injEq, Addr.mk.injEq] at he2; exact ⟨he2.1, he2.2.1⟩
  obtain rfl : x0 = a := hx0.out
  obtain rfl : x1 = m := hx1.out
  obtain rfl : x2 = b := hx2.out
  clear he1 he2 hx0 hx1 hx2
  have KX1 : ∀ i, w1.cell? ⟨w.heap.size, i, none⟩ = #[Value.slice A n c][i]? := fun i => bx1.cell i
  by_cases hm : x1 = [45, 62]
  rotate_left
  · have hz2 : (!x1 == [45, 62]) = true := by rw [beq_false_of_ne hm]; rfl
    have HE := Lib.hid (HNO.out (sides_w1 HW3.out hm))
    have bo := bo1
    clear HNO bo1 hm HW3
    have K0 : w1.cell? ⟨w.heap.size + 1, 0, none⟩ = some (.slice none 0 0) := by simpa using bo.cell 0
    have K1 : w1.cell? ⟨w.heap.size + 1, 1, none⟩ = some (.slice none 0 0) := by simpa using bo.cell 1
    have F0 : w1.frozen? ⟨w.heap.size + 1, 0, none⟩ = false := bo.frozen 0
    have F1 : w1.frozen? ⟨w.heap.size + 1, 1, none⟩ = false := bo.frozen 1
    obtain ⟨bk, ho⟩ := setPair bo (.slice none 0 0) (.slice none 0 0)
    go_wp2_with fail
    have K2 : ∀ i, ((w1.setCell ⟨w.heap.size + 1, 0, none⟩ (.slice none 0 0)).setCell ⟨w.heap.size + 1, 1, none⟩ (.slice none 0 0)).cell? ⟨w.heap.size + 1, i, none⟩ = #[(.slice none 0 0), (.slice none 0 0)][i]? := fun i => bk.cell i
    generalize ((w1.setCell ⟨w.heap.size + 1, 0, none⟩ (.slice none 0 0)).setCell ⟨w.heap.size + 1, 1, none⟩ (.slice none 0 0)) = WZ at *
    try rw [HE.out]
    exact bodyPost_ret (v := .tuple #[.agg #[(.slice none 0 0), (.slice none 0 0)], .bool false]) (by simp [results, Tryd.results12, go_sem, K2]) rfl ⟨none, 0, none, 0, rfl, World.ownsRow_nil _ _ _ _, World.ownsRow_nil _ _ _ _, blk_none2 _, hB1.trans (ho.below (by omega) (by omega))⟩
  have HM := Lib.hid hm
  have hz2 : (!x1 == [45, 62]) = false := by rw [hm]; rfl
  clear hm
  have KS : w1.cell? ⟨w.heap.size, 0, none⟩ = some (.slice A n c) := by simpa using bx1.cell 0
  rw [Nat.add_zero] at hk0
  go_wp2_with fail
  clear hWI hk1 hz2
  go_region_held3 (fun w' => Below w1.heap.size w1 w' ∧ w'.cell? ⟨w.heap.size, 0, none⟩ = some (.slice A n c) ∧ w'.cell? ⟨g, off, none⟩ = some (.string ⟨x0.toArray⟩))
    (first | exact ⟨(Below.refl _ _).drew, KS, hk0⟩ | exact keepS2 ha1 (by assumption))
    ((go_at_call 33; refine (S_TextTerm A n c xs ⟨x0.toArray⟩ _ ?_ hn (by simp [ByteArray.size]; omega)).mono ?_; exact riS r1 (by assumption); rintro e wa ⟨A0, c0, rfl, hO0, ha1⟩))
  rename_i hS
  have hb2 := hS.1
  have KS2 := hS.2.1
  have hk22 := keepC hb2 hk2
  have r2 := r1.below hb2
  have bo2 := bo1.below hb2
  have hB2 := hB1.trans (hb2.mono (by omega))
  have hs2 := hb2.size
  obtain ⟨⟨y0, b0⟩, hv0⟩ : ∃ z, V_TextTerm xs ⟨x0.toArray⟩ = z := ⟨_, rfl⟩
  have hy0 := bd_TextTerm xs ⟨x0.toArray⟩
  rw [hv0] at hO0 hy0 ⊢
  dsimp only at hO0 hy0 ⊢
  have HV0 := Lib.hid hv0
  have HO0 := Lib.hid (OI.base (B' := w1.heap.size) hO0 (Nat.le_refl _))
  clear hS ha1 hO0 hv0 r1 bo1 bx1 hB1 hb2 KS hk0 hk2 KX1
  go_wp2_with fail
  go_region_held3 (fun w' => Below wa.heap.size wa w' ∧ w'.cell? ⟨w.heap.size, 0, none⟩ = some (.slice A n c) ∧ w'.cell? ⟨g, off + 2, none⟩ = some (.string ⟨x2.toArray⟩))
    (first | exact ⟨(Below.refl _ _).drew, KS2, hk22⟩ | exact keepS2 ha1 (by assumption))
    ((go_at_call 33; refine (S_TextTerm A n c xs ⟨x2.toArray⟩ _ ?_ hn (by simp [ByteArray.size]; omega)).mono ?_; exact riS r2 (by assumption); rintro e wb ⟨A1, c1, rfl, hO1, ha1⟩))
  rename_i hS
  have hb3 := hS.1
  have KS3 := hS.2.1
  have r3 := r2.below hb3
  have bo3 := bo2.below hb3
  have hB3 := hB2.trans (hb3.mono (by omega))
  have hs3 := hb3.size
  obtain ⟨⟨y1, b1⟩, hv1⟩ : ∃ z, V_TextTerm xs ⟨x2.toArray⟩ = z := ⟨_, rfl⟩
  have hy1 := bd_TextTerm xs ⟨x2.toArray⟩
  rw [hv1] at hO1 hy1 ⊢
  dsimp only at hO1 hy1 ⊢
  have HV1 := Lib.hid hv1
  have hO1 := OI.base (B' := wa.heap.size) hO1 (Nat.le_refl _)
  have HNE : ∀ b, blk A0 = some b → blk A1 ≠ some b := fun b e e2 => by have := (HO0.out.lt_ e).2; have := (hO1.lt_ e2).1; omega
  have HP0 := Lib.hid ((HO0.out.below hb3).base (B' := w.heap.size + 1 + 1) (by omega))
  have HP1 := Lib.hid (hO1.base (B' := w.heap.size + 1 + 1) (by omega))
  clear hS ha1 hO1 hv1 r2 bo2 hB2 hb3 KS2 hk22 HO0
  have r4 := r3.alloc (.cells #[.slice A0 y0.length c0, .slice A1 y1.length c1] 27)
  have bo := bo3.alloc (.cells #[.slice A0 y0.length c0, .slice A1 y1.length c1] 27)
  have hB4 := hB3.alloc hB3.size (.cells #[.slice A0 y0.length c0, .slice A1 y1.length c1] 27)
  have hal : Below wb.heap.size wb (wb.alloc (.cells #[.slice A0 y0.length c0, .slice A1 y1.length c1] 27)) := (Below.refl _ _).alloc (Nat.le_refl _) _
  have KS4 := keepC hal KS3
  have hs4 := hal.size
  clear r3 bo3 hB3
  cases b0
  · have HE := Lib.hid (HNO.out (sides_w2 HW3.out (VT_false (by simp [ByteArray.size]; omega) HV0.out)))
    clear HNO HV0 HV1 HW3 HM
    have K0 : (wb.alloc (.cells #[.slice A0 y0.length c0, .slice A1 y1.length c1] 27)).cell? ⟨w.heap.size + 1, 0, none⟩ = some (.slice none 0 0) := by simpa using bo.cell 0
    have K1 : (wb.alloc (.cells #[.slice A0 y0.length c0, .slice A1 y1.length c1] 27)).cell? ⟨w.heap.size + 1, 1, none⟩ = some (.slice none 0 0) := by simpa using bo.cell 1
    have F0 : (wb.alloc (.cells #[.slice A0 y0.length c0, .slice A1 y1.length c1] 27)).frozen? ⟨w.heap.size + 1, 0, none⟩ = false := bo.frozen 0
    have F1 : (wb.alloc (.cells #[.slice A0 y0.length c0, .slice A1 y1.length c1] 27)).frozen? ⟨w.heap.size + 1, 1, none⟩ = false := bo.frozen 1
    obtain ⟨bk, ho⟩ := setPair bo (.slice none 0 0) (.slice none 0 0)
    go_wp2_with fail
    have K2 : ∀ i, (((wb.alloc (.cells #[.slice A0 y0.length c0, .slice A1 y1.length c1] 27)).setCell ⟨w.heap.size + 1, 0, none⟩ (.slice none 0 0)).setCell ⟨w.heap.size + 1, 1, none⟩ (.slice none 0 0)).cell? ⟨w.heap.size + 1, i, none⟩ = #[(.slice none 0 0), (.slice none 0 0)][i]? := fun i => bk.cell i
    generalize (((wb.alloc (.cells #[.slice A0 y0.length c0, .slice A1 y1.length c1] 27)).setCell ⟨w.heap.size + 1, 0, none⟩ (.slice none 0 0)).setCell ⟨w.heap.size + 1, 1, none⟩ (.slice none 0 0)) = WZ at *
    try rw [HE.out]
    exact bodyPost_ret (v := .tuple #[.agg #[(.slice none 0 0), (.slice none 0 0)], .bool false]) (by simp [results, Tryd.results12, go_sem, K2]) rfl ⟨none, 0, none, 0, rfl, World.ownsRow_nil _ _ _ _, World.ownsRow_nil _ _ _ _, blk_none2 _, hB4.trans (ho.below (by omega) (by omega))⟩
  cases b1
  · have HE := Lib.hid (HNO.out (sides_w3 HW3.out (VT_false (by simp [ByteArray.size]; omega) HV1.out)))
    clear HNO HV0 HV1 HW3 HM
    have K0 : (wb.alloc (.cells #[.slice A0 y0.length c0, .slice A1 y1.length c1] 27)).cell? ⟨w.heap.size + 1, 0, none⟩ = some (.slice none 0 0) := by simpa using bo.cell 0
    have K1 : (wb.alloc (.cells #[.slice A0 y0.length c0, .slice A1 y1.length c1] 27)).cell? ⟨w.heap.size + 1, 1, none⟩ = some (.slice none 0 0) := by simpa using bo.cell 1
    have F0 : (wb.alloc (.cells #[.slice A0 y0.length c0, .slice A1 y1.length c1] 27)).frozen? ⟨w.heap.size + 1, 0, none⟩ = false := bo.frozen 0
    have F1 : (wb.alloc (.cells #[.slice A0 y0.length c0, .slice A1 y1.length c1] 27)).frozen? ⟨w.heap.size + 1, 1, none⟩ = false := bo.frozen 1
    obtain ⟨bk, ho⟩ := setPair bo (.slice none 0 0) (.slice none 0 0)
    go_wp2_with fail
    have K2 : ∀ i, (((wb.alloc (.cells #[.slice A0 y0.length c0, .slice A1 y1.length c1] 27)).setCell ⟨w.heap.size + 1, 0, none⟩ (.slice none 0 0)).setCell ⟨w.heap.size + 1, 1, none⟩ (.slice none 0 0)).cell? ⟨w.heap.size + 1, i, none⟩ = #[(.slice none 0 0), (.slice none 0 0)][i]? := fun i => bk.cell i
    generalize (((wb.alloc (.cells #[.slice A0 y0.length c0, .slice A1 y1.length c1] 27)).setCell ⟨w.heap.size + 1, 0, none⟩ (.slice none 0 0)).setCell ⟨w.heap.size + 1, 1, none⟩ (.slice none 0 0)) = WZ at *
    try rw [HE.out]
    exact bodyPost_ret (v := .tuple #[.agg #[(.slice none 0 0), (.slice none 0 0)], .bool false]) (by simp [results, Tryd.results12, go_sem, K2]) rfl ⟨none, 0, none, 0, rfl, World.ownsRow_nil _ _ _ _, World.ownsRow_nil _ _ _ _, blk_none2 _, hB4.trans (ho.below (by omega) (by omega))⟩
  have HSD := Lib.hid (sides_w4 HW3.out HM.out (VT_true (by simp [ByteArray.size]; omega) HV0.out) (VT_true (by simp [ByteArray.size]; omega) HV1.out))
  have HN2 := Lib.hid (fun h2 => V_TextRule_no (s := s) HSD.out h2)
  have HY2 := Lib.hid (fun h2 => V_TextRule_yes (s := s) h4 HSD.out h2)
  clear HNO HV0 HV1 HW3 HM HSD
  go_wp2_with fail
  refine (S_RuleOk A n c xs A0 y0.length c0 y0 A1 y1.length c1 y1 (wb.alloc (.cells #[.slice A0 y0.length c0, .slice A1 y1.length c1] 27)) r4 (HP0.out.ri.below hal) (HP1.out.ri.below hal) hn (by omega)).mono ?_
  rintro e w5 ⟨rfl, hb5⟩
  replace bo := bo.below hb5
  have hB5 := hB4.trans (hb5.mono (by omega))
  have hs5 := hb5.size
  have HQ0 := Lib.hid ((HP0.out.below hal).below hb5)
  have HQ1 := Lib.hid ((HP1.out.below hal).below hb5)
  have bt := (Blk.new wb 27 #[.slice A0 y0.length c0, .slice A1 y1.length c1]).below hb5
  have KT0 : w5.cell? ⟨wb.heap.size, 0, none⟩ = some (.slice A0 y0.length c0) := by simpa using bt.cell 0
  have KT1 : w5.cell? ⟨wb.heap.size, 1, none⟩ = some (.slice A1 y1.length c1) := by simpa using bt.cell 1
  clear r4 hB4 hal KS4 HP0 HP1 hb5 bt
  cases hok : ruleOk xs y0 y1
  · have HE := Lib.hid (HN2.out hok)
    clear HN2 HY2 hok
    have K0 : w5.cell? ⟨w.heap.size + 1, 0, none⟩ = some (.slice none 0 0) := by simpa using bo.cell 0
    have K1 : w5.cell? ⟨w.heap.size + 1, 1, none⟩ = some (.slice none 0 0) := by simpa using bo.cell 1
    have F0 : w5.frozen? ⟨w.heap.size + 1, 0, none⟩ = false := bo.frozen 0
    have F1 : w5.frozen? ⟨w.heap.size + 1, 1, none⟩ = false := bo.frozen 1
    obtain ⟨bk, ho⟩ := setPair bo (.slice none 0 0) (.slice none 0 0)
    go_wp2_with fail
    have K2 : ∀ i, ((w5.setCell ⟨w.heap.size + 1, 0, none⟩ (.slice none 0 0)).setCell ⟨w.heap.size + 1, 1, none⟩ (.slice none 0 0)).cell? ⟨w.heap.size + 1, i, none⟩ = #[(.slice none 0 0), (.slice none 0 0)][i]? := fun i => bk.cell i
    generalize ((w5.setCell ⟨w.heap.size + 1, 0, none⟩ (.slice none 0 0)).setCell ⟨w.heap.size + 1, 1, none⟩ (.slice none 0 0)) = WZ at *
    try rw [HE.out]
    exact bodyPost_ret (v := .tuple #[.agg #[(.slice none 0 0), (.slice none 0 0)], .bool false]) (by simp [results, Tryd.results12, go_sem, K2]) rfl ⟨none, 0, none, 0, rfl, World.ownsRow_nil _ _ _ _, World.ownsRow_nil _ _ _ _, blk_none2 _, hB5.trans (ho.below (by omega) (by omega))⟩
  · have HE := Lib.hid (HY2.out hok)
    clear HN2 HY2 hok
    have K0 : w5.cell? ⟨w.heap.size + 1, 0, none⟩ = some (.slice none 0 0) := by simpa using bo.cell 0
    have K1 : w5.cell? ⟨w.heap.size + 1, 1, none⟩ = some (.slice none 0 0) := by simpa using bo.cell 1
    have F0 : w5.frozen? ⟨w.heap.size + 1, 0, none⟩ = false := bo.frozen 0
    have F1 : w5.frozen? ⟨w.heap.size + 1, 1, none⟩ = false := bo.frozen 1
    obtain ⟨bk, ho⟩ := setPair bo (.slice A0 y0.length c0) (.slice A1 y1.length c1)
    go_wp2_with fail
    have K2 : ∀ i, ((w5.setCell ⟨w.heap.size + 1, 0, none⟩ (.slice A0 y0.length c0)).setCell ⟨w.heap.size + 1, 1, none⟩ (.slice A1 y1.length c1)).cell? ⟨w.heap.size + 1, i, none⟩ = #[(.slice A0 y0.length c0), (.slice A1 y1.length c1)][i]? := fun i => bk.cell i
    generalize ((w5.setCell ⟨w.heap.size + 1, 0, none⟩ (.slice A0 y0.length c0)).setCell ⟨w.heap.size + 1, 1, none⟩ (.slice A1 y1.length c1)) = WZ at *
    try rw [HE.out]
    exact bodyPost_ret (v := .tuple #[.agg #[(.slice A0 y0.length c0), (.slice A1 y1.length c1)], .bool true]) (by simp [results, Tryd.results12, go_sem, K2]) rfl ⟨A0, c0, A1, c1, rfl, (by have k_ := HQ0.out.up ho (Nat.le_refl _); exact k_.base (by omega)), (by have k_ := HQ1.out.up ho (Nat.le_refl _); exact k_.base (by omega)), HNE, hB5.trans (ho.below (by omega) (by omega))⟩
end Go.Proofs.YtlcchafcgidpeaaDoor
