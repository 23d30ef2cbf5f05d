/- Contracts: variables replaced, by the reference; Filled. -/
import Derived.Test.YtihgolhpdnoooaaFill
namespace Go.Proofs.Ytihgolhpdnoooaa
open Go.RowKit
set_option linter.unusedVariables false

set_option maxHeartbeats 4000000 in
set_option maxRecDepth 20000 in
theorem l2Filled_any (A : Option Addr) (n c : Nat) (x : List (List Int)) (B : Option Addr) (m d : Nat) (t : List Int) (w : World) (h : RR w A n x) (h' : RI w B m t) (hw : wtR x ≤ 1048576) (hlen : ∀ i, (hasV x i).length ≤ 60) (hbd : ∀ v ∈ t, -24 ≤ v ∧ v ≤ 7) (hm : m ≤ 60) :
    Calls Try.prog 111 #[.agg #[.slice A n c], .slice B m d] w fun e w' => ∃ A' c', e = .returned (.tuple #[.slice A' (fillL x t m).length c', .bool (fillOk x t m)]) ∧ OI w' w.heap.size A' (fillL x t m).length c' (fillL x t m) ∧ Below w.heap.size w w' := by
  obtain ⟨i0, hi, hz0, hz1, hz2⟩ := info_parts infoInt64
  have hl := h'.1
  have HBD := Lib.hid hbd
  have HLEN := Lib.hid hlen
  clear hbd hlen
  have hO : OI ((w.alloc (.cells #[.slice A n c] 51)).alloc (.cells #[] 2)) (w.heap.size + 1) (some ⟨w.heap.size + 1, 0, none⟩) 0 0 [] := by
    have := OI.empty (w.alloc (.cells #[.slice A n c] 51)) (B := w.heap.size + 1) (by simp)
    simpa only [World.size_alloc] using this
  have HO := Lib.hid hO
  have hB0 : Below w.heap.size w ((w.alloc (.cells #[.slice A n c] 51)).alloc (.cells #[] 2)) := ((Below.refl _ _).alloc (Nat.le_refl _) _).alloc (by simp) _
  have hbox : ((w.alloc (.cells #[.slice A n c] 51)).alloc (.cells #[] 2)).cell? ⟨w.heap.size, 0, none⟩ = some (.slice A n c) := by simp
  have hsz0 : w.heap.size + 1 ≤ ((w.alloc (.cells #[.slice A n c] 51)).alloc (.cells #[] 2)).heap.size := by simp
  clear hO
  go_enter Try.func111, Try.ntmps111
  go_wp2_with fail
  generalize (w.alloc (.cells #[.slice A n c] 51)).alloc (.cells #[] 2) = W0 at *
  go_loopw [6, 7] (fun u i wr => ∃ (k : Nat) (F : List Int) (A' : Option Addr) (c' : Nat), k ≤ m ∧ i = .int .i64 k ∧ Hid (F = flTo x t k) ∧ F.length ≤ 60 ∧ u = .slice A' F.length c' ∧ Hid (OI wr (w.heap.size + 1) A' F.length c' F) ∧ Below w.heap.size w wr ∧ wr.cell? ⟨w.heap.size, 0, none⟩ = some (.slice A n c) ∧ w.heap.size + 1 ≤ wr.heap.size) (fun _ i _ => m - (intOf i).toNat)
  case atStart => exact ⟨0, [], _, 0, Nat.zero_le _, rfl, Lib.hid (by rw [flTo_zero]), Nat.zero_le _, rfl, HO, hB0, hbox, hsz0⟩
  case round =>
    obtain ⟨k, F, A', c', hk, rfl, hF, hF60, rfl, ho, hb, bx, hsz⟩ := hrel
    by_cases hlt : k < m
    · obtain ⟨g, off, v, rfl, hc, hx⟩ := (h'.below hb).at_ hlt
      have hvb := HBD.out v (by rw [hx.out]; exact Pl.getD_mem (by omega))
      have HST := Lib.hid (flTo_step (x := x) (by omega) hx.out)
      have hk0 : (0 : Int) ≤ k := by omega
      have hk1 : (k : Int) < m := by omega
      have hgw : g < w.heap.size := by
        obtain ⟨g', off', he, hc'⟩ := h'.2 (by omega)
        obtain ⟨rfl, rfl⟩ : g = g' ∧ off = off' := by simpa using he
        exact World.block_lt_of_cell? w _ (hc' k hlt)
      clear hx
      by_cases h0 : v < 0
      · have e0 : decide (v < 0) = true := by simpa using h0
        obtain ⟨q, hq⟩ : ∃ q : Nat, v = -1 - (q : Int) := ⟨(-1 - v).toNat, by omega⟩
        have hwrap : IntKind.i64.wrap (-1 - v) = (q : Int) := by rw [IntKind.wrap_i64]; omega
        have hq24 : q < 24 := by omega
        obtain ⟨G, hG⟩ : ∃ G, gives x q = G := ⟨_, rfl⟩
        have hG60 : G.length ≤ 60 := by
          rw [← hG]
          by_cases hh : (hasV x q).length = 0
          · rw [gives_no hh]; simp
          · rw [gives_yes hh]; exact HLEN.out q
        have HS : Hid (flTo x t (k + 1) = F ++ G) := Lib.hid (by rw [HST.out, fl_var hq, hG, hF.out])
        clear hq
        go_wp2_with fail
        go_region_held3 (fun w' => Below (w.heap.size + 1) wr w' ∧ w'.cell? ⟨w.heap.size, 0, none⟩ = some (.slice A n c) ∧ w'.cell? ⟨g, off + k, none⟩ = some (.int .i64 v))
          (first | exact ⟨(Below.refl _ _).drew, bx, hc⟩ | exact keepB2 hb1 (by first | exact hsz | omega) (by assumption) | exact keepG2 hgb (by simp) (by simp; omega) (by assumption))
          ((first
            | (go_at_call 109; refine (l2Gives_at A n c x q (q : Int) G rfl hG _ ?_ hw (by omega)).mono ?_; exact rrS h hb (by assumption) (by omega); rintro e w1 ⟨A1, c1, rfl, o1, hb1⟩)
            | (refine step_append_any rfl _ _ 24 rfl (w.heap.size + 1) 2 i0 (.int .i64 0) 1 8 Try.underlying24 hi hz0 hz1 hz2 rfl (by omega) A' F.length c' (F.map (Value.int .i64)) rfl (ownsRow_below (w := wr.drew) ho.out hb1) A1 G.length c1 (G.map (Value.int .i64)) rfl (Src.ints o1.ri) (by unfold maxLen; omega) (by omega) (by have := hb1.size; have e_ : wr.drew.heap.size = wr.heap.size := rfl; omega) ?_; intro A2 c2 w2 ho2 hg2 hnil2 hwh2; have hgb := grown_below hg2 (ownsRow_below (w := wr.drew) ho.out hb1) (by have := hb1.size; have e_ : wr.drew.heap.size = wr.heap.size := rfl; omega))))
        rename_i hS
        have hB2 := hb.trans (hS.1.mono (by omega))
        have bx2 := hS.2.1
        have HO2 : Hid (OI w2 (w.heap.size + 1) A2 (F ++ G).length c2 (F ++ G)) := Lib.hid (by rw [List.length_append]; unfold OI; rw [List.map_append]; exact ho2)
        have hsz2 : w.heap.size + 1 ≤ w2.heap.size := by have := hS.1.size; omega
        clear hS hgb ho2 hg2 hwh2 hnil2 o1 hb1 ho
        by_cases hov : F.length + G.length ≤ 60
        · have hi1 : ¬ (60 : Int) < (F.length : Int) + (G.length : Int) := by omega
          go_wp2_with fail
          go_roundw
          case rel => exact ⟨k + 1, F ++ G, A2, c2, by omega, by go_num, Lib.hid HS.out.symm, by rw [List.length_append]; exact hov, by rw [List.length_append], HO2, hB2, bx2, hsz2⟩
          case measure => simp [intOf]; omega
        · have hi1 : (60 : Int) < (F.length : Int) + (G.length : Int) := by omega
          have HOK := Lib.hid (fillOk_no (x := x) (t := t) (k := k + 1) (m := m) (by omega) (by rw [HS.out, List.length_append]; exact hov))
          have HL := Lib.hid (fillL_no HOK.out)
          go_wp2_with fail
          go_ret2
          exact ⟨some ⟨w2.heap.size, 0, none⟩, 0, by rw [HOK.out, HL.out]; rfl, by rw [HL.out]; exact OI.empty w2 hB2.size, hB2.alloc hB2.size _⟩
      · have e0 : decide (v < 0) = false := by simpa using h0
        have HS : Hid (flTo x t (k + 1) = F ++ [v]) := Lib.hid (by rw [HST.out, fl_sym h0, hF.out])
        have howa := Lib.hid (ownsRow_below ho.out ((Below.refl _ wr).alloc (Nat.le_refl _) (.cells #[.int .i64 v] 2)))
        by_cases hov : F.length + 1 ≤ 60
        · have hi1 : ¬ (60 : Int) < (F.length : Int) + 1 := by omega
          go_wp2_with (at_builtin; refine wpList_append_any rfl _ _ 24 rfl (w.heap.size + 1) 2 i0 (.int .i64 0) 1 8 Try.underlying24 hi hz0 hz1 hz2 rfl (by omega) A' F.length c' (F.map (Value.int .i64)) rfl howa.out _ 1 _ [.int .i64 v] rfl (Src.new _ [.int .i64 v] _ 1 1 rfl (by simp [Value.oneCell'])) (by unfold maxLen; omega) (by omega) (by simp; omega) ?_; intro A3 c3 w3 ho3 hg hnil; have hgb := app_below hg howa.out (by omega); (have bx3 := (hgb.cell (p := ⟨w.heap.size, 0, none⟩) (by simp)).trans bx))
          have hb3 := hb.trans (hgb.mono (by omega))
          have hsz3 : w.heap.size + 1 ≤ w3.heap.size := by have := hgb.size; omega
          have HO3 : Hid (OI w3 (w.heap.size + 1) A3 (F ++ [v]).length c3 (F ++ [v])) := Lib.hid (OI.snoc ho3)
          clear hgb howa ho3 hg hb ho
          go_roundw
          case rel => exact ⟨k + 1, F ++ [v], A3, c3, by omega, by go_num, Lib.hid HS.out.symm, by simp; omega, by simp, HO3, hb3, bx3, hsz3⟩
          case measure => simp [intOf]; omega
        · have hi1 : (60 : Int) < (F.length : Int) + 1 := by omega
          have HOK := Lib.hid (fillOk_no (x := x) (t := t) (k := k + 1) (m := m) (by omega) (by rw [HS.out, List.length_append]; simpa using hov))
          have HL := Lib.hid (fillL_no HOK.out)
          go_wp2_with (at_builtin; refine wpList_append_any rfl _ _ 24 rfl (w.heap.size + 1) 2 i0 (.int .i64 0) 1 8 Try.underlying24 hi hz0 hz1 hz2 rfl (by omega) A' F.length c' (F.map (Value.int .i64)) rfl howa.out _ 1 _ [.int .i64 v] rfl (Src.new _ [.int .i64 v] _ 1 1 rfl (by simp [Value.oneCell'])) (by unfold maxLen; omega) (by omega) (by simp; omega) ?_; intro A3 c3 w3 ho3 hg hnil; have hgb := app_below hg howa.out (by omega))
          have hb3 := hb.trans (hgb.mono (by omega))
          clear hgb howa ho3 hg hb ho
          go_ret2
          exact ⟨some ⟨w3.heap.size, 0, none⟩, 0, by rw [HOK.out, HL.out]; rfl, by rw [HL.out]; exact OI.empty w3 hb3.size, hb3.alloc hb3.size _⟩
    · have hkm : k = m := by omega
      subst hkm
      have HOK := Lib.hid (fillOk_yes (x := x) (t := t) (m := k) (by rw [← hF.out]; exact hF60))
      have HL := Lib.hid (fillL_yes HOK.out)
      go_wp2_with fail
      go_ret2
      exact ⟨A', c', by rw [HOK.out, HL.out, ← hF.out]; rfl, by rw [HL.out, ← hF.out]; exact ho.out.base (by omega), hb⟩
def V_Filled (xs : List Int) (x : List (List Int)) (t : List Int) : List Int × Bool := if substOk xs x && Pl.termOk xs t then (fillL x t t.length, fillOk x t t.length) else ([], false)
theorem filled_no {xs : List Int} {x : List (List Int)} {t : List Int} (h : (substOk xs x && Pl.termOk xs t) = false) : V_Filled xs x t = ([], false) := by unfold V_Filled; rw [h]; rfl
theorem filled_yes {xs : List Int} {x : List (List Int)} {t : List Int} {m : Nat} (hm : t.length = m) (h : (substOk xs x && Pl.termOk xs t) = true) : V_Filled xs x t = (fillL x t m, fillOk x t m) := by unfold V_Filled; rw [h, hm]; rfl
theorem bd_Filled (xs : List Int) (x : List (List Int)) (t : List Int) : (V_Filled xs x t).1.length ≤ 60 := by
  unfold V_Filled; split
  · exact fillL_le x t t.length
  · simp
set_option maxHeartbeats 1000000 in
theorem S_Filled (A : Option Addr) (n c : Nat) (xs : List Int) (B : Option Addr) (m d : Nat) (x : List (List Int)) (C : Option Addr) (o f : Nat) (t : List Int) (w : World) (h : RI w A n xs) (h' : RR w B m x) (h'' : RI w C o t) (hn : n ≤ 1048576) (hw : wtR x ≤ 1048576) (ho : o ≤ 1048576) :
    Calls Try.prog 52 #[.agg #[.slice A n c], .agg #[.slice B m d], .slice C o f] w fun e w' => ∃ A' c', e = .returned (.tuple #[.slice A' (V_Filled xs x t).1.length c', .bool (V_Filled xs x t).2]) ∧ OI w' w.heap.size A' (V_Filled xs x t).1.length c' (V_Filled xs x t).1 ∧ Below w.heap.size w w' := by
  have hl := h''.1
  cases hs : substOk xs x
  · have HE := filled_no (xs := xs) (x := x) (t := t) (by rw [hs]; rfl)
    rw [HE]
    have HS := Lib.hid hs
    clear HE hs
    go_enter Try.func52, Try.ntmps52
    go_wp2_with fail
    refine (specSubstOk_any A n c xs B m d x _ ((h.alloc _).alloc _) ((h'.alloc _).alloc _) hn hw).mono ?_
    rintro e w1 ⟨rfl, hb1⟩
    rw [HS.out]
    have hB : Below w.heap.size w w1 := below_then (((Below.refl _ _).alloc (Nat.le_refl _) _).alloc (by simp <;> omega) _) hb1 (by simp <;> omega)
    go_wp2_with fail
    go_ret2
    exact ⟨_, _, rfl, OI.empty _ hB.size, hB.alloc hB.size _⟩
  · cases hT : Pl.termOk xs t
    · have HE := filled_no (xs := xs) (x := x) (t := t) (by rw [hs, hT]; rfl)
      rw [HE]
      have HS := Lib.hid hs
      have HT := Lib.hid hT
      clear HE hs
      go_enter Try.func52, Try.ntmps52
      go_wp2_with fail
      refine (specSubstOk_any A n c xs B m d x _ ((h.alloc _).alloc _) ((h'.alloc _).alloc _) hn hw).mono ?_
      rintro e w1 ⟨rfl, hb1⟩
      rw [HS.out]
      have hB : Below w.heap.size w w1 := below_then (((Below.refl _ _).alloc (Nat.le_refl _) _).alloc (by simp <;> omega) _) hb1 (by simp <;> omega)
      have bx : w1.cell? ⟨w.heap.size, 0, none⟩ = some (.slice A n c) := (hb1.cell (by simp <;> omega)).trans (by simp)
      clear hb1
      go_wp2_with fail
      refine (specTermOk_any A n c xs C o f t _ (h.below hB) (h''.below hB) (by omega) (by omega)).mono ?_
      rintro e w2 ⟨rfl, hb2⟩
      rw [HT.out]
      replace hB := below_then hB hb2 hB.size
      clear hb2
      go_wp2_with fail
      go_ret2
      exact ⟨_, _, rfl, OI.empty _ hB.size, hB.alloc hB.size _⟩
    · have HE := filled_yes (xs := xs) (x := x) (t := t) hl (by rw [hs, hT]; rfl)
      rw [HE]
      have ho1 := (Pl.termOk_iff.1 hT).2.1
      rw [hl] at ho1
      have hbd := Lib.hid (Pl.termOk_bd hT)
      have hlen := Lib.hid (hasV_len hs)
      have HS := Lib.hid hs
      have HT := Lib.hid hT
      clear HE hs hT
      go_enter Try.func52, Try.ntmps52
      go_wp2_with fail
      refine (specSubstOk_any A n c xs B m d x _ ((h.alloc _).alloc _) ((h'.alloc _).alloc _) hn hw).mono ?_
      rintro e w1 ⟨rfl, hb1⟩
      rw [HS.out]
      have hB : Below w.heap.size w w1 := below_then (((Below.refl _ _).alloc (Nat.le_refl _) _).alloc (by simp <;> omega) _) hb1 (by simp <;> omega)
      have bx : w1.cell? ⟨w.heap.size, 0, none⟩ = some (.slice A n c) := (hb1.cell (by simp <;> omega)).trans (by simp)
      have by0 : w1.cell? ⟨w.heap.size + 1, 0, none⟩ = some (.slice B m d) := (hb1.cell (by simp <;> omega)).trans (by simp)
      clear hb1
      go_wp2_with fail
      refine (specTermOk_any A n c xs C o f t _ (h.below hB) (h''.below hB) (by omega) (by omega)).mono ?_
      rintro e w2 ⟨rfl, hb2⟩
      rw [HT.out]
      replace by0 := keepC hb2 by0
      replace hB := below_then hB hb2 hB.size
      clear hb2
      go_wp2_with fail
      refine (l2Filled_any B m d x C o f t _ (h'.below hB) (h''.below hB) hw hlen.out hbd.out (by omega)).mono ?_
      rintro e w3 ⟨A', c', rfl, ho, hb3⟩
      go_wp2_with fail
      go_ret2
      exact ⟨A', c', rfl, ho.base hB.size, below_then hB hb3 hB.size⟩
set_option maxHeartbeats 1000000 in
theorem I_Filled (A : Option Addr) (n c : Nat) (xs : List Int) (B : Option Addr) (m d : Nat) (x : List (List Int)) (C : Option Addr) (o f : Nat) (t : List Int) (w : World) (h : RI w A n xs) (h' : RR w B m x) (h'' : RI w C o t) (hn : n ≤ 1048576) (hw : wtR x ≤ 1048576) (ho : o ≤ 1048576) :
    Calls Try.prog 51 #[.agg #[.slice A n c], .agg #[.slice B m d], .slice C o f] w fun e w' => ∃ A' c', e = .returned (.tuple #[.slice A' (V_Filled xs x t).1.length c', .bool (V_Filled xs x t).2]) ∧ OI w' w.heap.size A' (V_Filled xs x t).1.length c' (V_Filled xs x t).1 ∧ Below w.heap.size w w' := by
  have hl := h''.1
  cases hs : substOk xs x
  · have HE := filled_no (xs := xs) (x := x) (t := t) (by rw [hs]; rfl)
    rw [HE]
    have HS := Lib.hid hs
    clear HE hs
    go_enter Try.func51, Try.ntmps51
    go_wp2_with fail
    refine (implSubstOk_any A n c xs B m d x _ ((h.alloc _).alloc _) ((h'.alloc _).alloc _) hn hw).mono ?_
    rintro e w1 ⟨rfl, hb1⟩
    rw [HS.out]
    have hB : Below w.heap.size w w1 := below_then (((Below.refl _ _).alloc (Nat.le_refl _) _).alloc (by simp <;> omega) _) hb1 (by simp <;> omega)
    go_wp2_with fail
    go_ret2
    exact ⟨none, 0, rfl, World.ownsRow_nil _ _ _ _, hB⟩
  · cases hT : Pl.termOk xs t
    · have HE := filled_no (xs := xs) (x := x) (t := t) (by rw [hs, hT]; rfl)
      rw [HE]
      have HS := Lib.hid hs
      have HT := Lib.hid hT
      clear HE hs
      go_enter Try.func51, Try.ntmps51
      go_wp2_with fail
      refine (implSubstOk_any A n c xs B m d x _ ((h.alloc _).alloc _) ((h'.alloc _).alloc _) hn hw).mono ?_
      rintro e w1 ⟨rfl, hb1⟩
      rw [HS.out]
      have hB : Below w.heap.size w w1 := below_then (((Below.refl _ _).alloc (Nat.le_refl _) _).alloc (by simp <;> omega) _) hb1 (by simp <;> omega)
      have bx : w1.cell? ⟨w.heap.size, 0, none⟩ = some (.slice A n c) := (hb1.cell (by simp <;> omega)).trans (by simp)
      clear hb1
      go_wp2_with fail
      refine (implTermOk_any A n c xs C o f t _ (h.below hB) (h''.below hB) (by omega) (by omega)).mono ?_
      rintro e w2 ⟨rfl, hb2⟩
      rw [HT.out]
      replace hB := below_then hB hb2 hB.size
      clear hb2
      go_wp2_with fail
      go_ret2
      exact ⟨none, 0, rfl, World.ownsRow_nil _ _ _ _, hB⟩
    · have HE := filled_yes (xs := xs) (x := x) (t := t) hl (by rw [hs, hT]; rfl)
      rw [HE]
      have ho1 := (Pl.termOk_iff.1 hT).2.1
      rw [hl] at ho1
      have hbd := Lib.hid (Pl.termOk_bd hT)
      have hlen := Lib.hid (hasV_len hs)
      have HS := Lib.hid hs
      have HT := Lib.hid hT
      clear HE hs hT
      go_enter Try.func51, Try.ntmps51
      go_wp2_with fail
      refine (implSubstOk_any A n c xs B m d x _ ((h.alloc _).alloc _) ((h'.alloc _).alloc _) hn hw).mono ?_
      rintro e w1 ⟨rfl, hb1⟩
      rw [HS.out]
      have hB : Below w.heap.size w w1 := below_then (((Below.refl _ _).alloc (Nat.le_refl _) _).alloc (by simp <;> omega) _) hb1 (by simp <;> omega)
      have bx : w1.cell? ⟨w.heap.size, 0, none⟩ = some (.slice A n c) := (hb1.cell (by simp <;> omega)).trans (by simp)
      have by0 : w1.cell? ⟨w.heap.size + 1, 0, none⟩ = some (.slice B m d) := (hb1.cell (by simp <;> omega)).trans (by simp)
      clear hb1
      go_wp2_with fail
      refine (implTermOk_any A n c xs C o f t _ (h.below hB) (h''.below hB) (by omega) (by omega)).mono ?_
      rintro e w2 ⟨rfl, hb2⟩
      rw [HT.out]
      replace by0 := keepC hb2 by0
      replace hB := below_then hB hb2 hB.size
      clear hb2
      go_wp2_with fail
      refine (fill_any B m d x C o f t _ (h'.below hB) (h''.below hB) hw hlen.out hbd.out (by omega)).mono ?_
      rintro e w3 ⟨A', c', rfl, ho, hb3⟩
      go_wp2_with fail
      go_ret2
      exact ⟨A', c', rfl, ho.base hB.size, below_then hB hb3 hB.size⟩
end Go.Proofs.Ytihgolhpdnoooaa
