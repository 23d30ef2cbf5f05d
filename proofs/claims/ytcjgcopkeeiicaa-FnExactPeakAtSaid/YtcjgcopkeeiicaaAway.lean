/- Contracts: a term with variables that no other term has. -/
import Derived.Test.YtcjgcopkeeiicaaShift
import Derived.Test.YtcjgcopkeeiicaaBase
import Derived.Test.YtcjgcopkeeiicaaApp
namespace Go.Proofs.Ytcjgcopkeeiicaa
open Go.RowKit
set_option linter.unusedVariables false
set_option linter.unusedSimpArgs false

set_option maxHeartbeats 2000000 in
set_option maxRecDepth 20000 in
theorem away_any (A : Option Addr) (n c : Nat) (t : List Int) (w : World) (h : RI w A n t) (hn : n ≤ 60) (hbd : ∀ x ∈ t, -24 ≤ x ∧ x ≤ 7) :
    Calls Try.prog 54 #[.slice A n c] w fun e w' => ∃ A' c', e = .returned (.slice A' n c') ∧ OI w' w.heap.size A' n c' (t.map (sh 24)) ∧ Below w.heap.size w w' := by
  have hl := h.1
  go_enter Try.func54, Try.ntmps54
  go_wp2_with fail
  refine (slicesClone_any A n c t _ h (by omega)).mono ?_
  rintro e w1 ⟨A1, c1, rfl, ho1, hb1⟩
  go_wp2_with fail
  go_loopw [10] (fun i wr => ∃ j : Nat, j ≤ n ∧ i = .int .i64 j ∧ Hid (OI wr w.heap.size A1 n c1 (shMid 24 t j)) ∧ Below w.heap.size w wr) (fun i _ => n - (intOf i).toNat)
  case atStart => exact ⟨0, Nat.zero_le _, rfl, Lib.hid (by rw [shMid_zero]; exact ho1), hb1⟩
  case round =>
    obtain ⟨j, hj, rfl, ho, hb⟩ := hrel
    by_cases hlt : j < n
    · obtain ⟨g, hA, hg1⟩ : ∃ g, A1 = some ⟨g, 0, none⟩ ∧ w.heap.size ≤ g := by
        rcases ho.out.2 with ⟨_, h0⟩ | ⟨g, cap, cur, hv, hB, _⟩
        · omega
        · have hA : A1 = some ⟨g, 0, none⟩ := by injection hv
          exact ⟨g, hA, hB⟩
      subst hA
      obtain ⟨x, hx⟩ : ∃ x, x = t.getD j 0 := ⟨_, rfl⟩
      have hcx : wr.cell? ⟨g, j, none⟩ = some (.int .i64 x) := by
        obtain ⟨g', off', he, hc⟩ := ho.out.ri.2 (by omega)
        obtain ⟨rfl, rfl⟩ : g = g' ∧ 0 = off' := by simpa using he
        have := hc j hlt
        rw [shMid_at 24 t j (by omega), ← hx, Nat.zero_add] at this
        exact this
      have hxb := hbd x (by rw [hx]; exact Pl.getD_mem (by omega))
      have HX := Lib.hid hx
      clear hx
      by_cases h0 : x < 0
      · have e1 : decide (x < 0) = true := by simpa using h0
        have hsx := sh_var (k := 24) h0
        have hf := World.ownsRow.frozenAt ho.out j
        have hst := (World.ownsRow.stored ho.out j (.int .i64 (sh 24 x))).1
        rw [← List.map_set, HX.out, shMid_set 24 t j (by omega), ← HX.out, hsx] at hst
        have HST : Hid (OI (wr.setCell ⟨g, j, none⟩ (.int .i64 (x - 24))) w.heap.size (some ⟨g, 0, none⟩) n c1 (shMid 24 t (j + 1))) := Lib.hid hst
        have hb' := hb.setCell (p := ⟨g, j, none⟩) hg1 (.int .i64 (x - 24))
        clear hst hsx
        go_wp2_with fail
        go_roundw
        case rel => exact ⟨j + 1, by omega, by go_num, HST, hb'⟩
        case measure => simp [intOf]; omega
      · have e1 : decide (x < 0) = false := by simpa using h0
        have HST : Hid (OI wr w.heap.size (some ⟨g, 0, none⟩) n c1 (shMid 24 t (j + 1))) := Lib.hid (by rw [shMid_sym 24 t j (by omega) HX.out h0]; exact ho.out)
        go_wp2_with fail
        go_roundw
        case rel => exact ⟨j + 1, by omega, by go_num, HST, hb⟩
        case measure => simp [intOf]; omega
    · have hjn : j = n := by omega
      subst hjn
      have HE : Hid (OI wr w.heap.size A1 j c1 (t.map (sh 24))) := by have := ho.out; rw [← hl, shMid_end, hl] at this; exact Lib.hid this
      go_wp2_with fail
      go_ret
      exact ⟨A1, c1, rfl, HE.out, hb⟩
set_option maxHeartbeats 2000000 in
set_option maxRecDepth 20000 in
theorem l11Away_any (A : Option Addr) (n c : Nat) (t : List Int) (w : World) (h : RI w A n t) (hn : n ≤ 60) (hbd : ∀ x ∈ t, -24 ≤ x ∧ x ≤ 7) :
    Calls Try.prog 49 #[.slice A n c, .int .i64 24] w fun e w' => ∃ A' c', e = .returned (.slice A' n c') ∧ OI w' w.heap.size A' n c' (t.map (sh 24)) ∧ Below w.heap.size w w' := by
  obtain ⟨i0, hi, hz0, hz1, hz2⟩ := info_parts infoInt64
  have hl := h.1
  have HBD := Lib.hid hbd
  have hHL := Lib.hid hl
  clear hbd hl
  go_enter Try.func49, Try.ntmps49
  go_wp2_with fail
  have hO := Lib.hid (OI.empty w (Nat.le_refl _))
  have hB0 : Below w.heap.size w (w.alloc (.cells #[] 2)) := (Below.refl _ _).alloc (Nat.le_refl _) _
  generalize w.alloc (.cells #[] 2) = W0 at *
  go_loopw [5, 6] (fun u i wr => ∃ (j : Nat) (A' : Option Addr) (c' : Nat), j ≤ n ∧ i = .int .i64 j ∧ u = .slice A' j c' ∧ Hid (OI wr w.heap.size A' j c' ((t.take j).map (sh 24))) ∧ Below w.heap.size w wr) (fun _ i _ => n - (intOf i).toNat)
  case atStart => exact ⟨0, _, _, Nat.zero_le _, rfl, rfl, Lib.hid (by simpa using hO.out), hB0⟩
  case round =>
    obtain ⟨j, A', c', hj, rfl, rfl, ho, hb⟩ := hrel
    by_cases hlt : j < n
    · obtain ⟨g, off, x, rfl, hc, hx⟩ := (h.below hb).at_ hlt
      have hxb := HBD.out x (by rw [hx.out]; exact Pl.getD_mem (by rw [hHL.out]; omega))
      have HM := Lib.hid (shMap_step (k := 24) (by rw [hHL.out]; exact hlt) hx.out)
      have hsz := hb.size
      by_cases h0 : x < 0
      · have e0 : decide (x < 0) = true := by simpa using h0
        have hsx := sh_var (k := 24) h0
        rw [hsx] at HM
        clear hsx hx
        have howa := Lib.hid (ownsRow_below ho.out ((Below.refl _ wr).alloc (Nat.le_refl _) (.cells #[.int .i64 (x - 24)] 2)))
        go_wp2_with (at_builtin; refine wpList_append_any rfl _ _ 22 rfl w.heap.size 2 i0 (.int .i64 0) 1 8 Try.underlying22 hi hz0 hz1 hz2 rfl (by omega) A' j c' (((t.take j).map (sh 24)).map (Value.int .i64)) rfl howa.out _ 1 _ [.int .i64 (x - 24)] rfl (Src.new _ [.int .i64 (x - 24)] _ 1 1 rfl (by simp [Value.oneCell'])) (by unfold maxLen; omega) (by omega) (by simp; omega) ?_; intro A2 c2 w2 ho2 hg hnil; have hgb := app_below hg howa.out hsz)
        have hb2 := hb.trans hgb
        have hO2 : Hid (OI w2 w.heap.size A2 (j + 1) c2 ((t.take (j + 1)).map (sh 24))) := Lib.hid (by rw [HM.out]; unfold OI; rw [List.map_append]; exact ho2)
        clear hgb howa ho ho2 hg hb
        go_roundw
        case rel => exact ⟨j + 1, A2, c2, by omega, by go_num, rfl, hO2, hb2⟩
        case measure => simp [intOf]; omega
      · have e0 : decide (x < 0) = false := by simpa using h0
        have hsx := sh_sym (k := 24) h0
        rw [hsx] at HM
        clear hsx hx
        have howa := Lib.hid (ownsRow_below ho.out ((Below.refl _ wr).alloc (Nat.le_refl _) (.cells #[.int .i64 x] 2)))
        go_wp2_with (at_builtin; refine wpList_append_any rfl _ _ 22 rfl w.heap.size 2 i0 (.int .i64 0) 1 8 Try.underlying22 hi hz0 hz1 hz2 rfl (by omega) A' j c' (((t.take j).map (sh 24)).map (Value.int .i64)) rfl howa.out _ 1 _ [.int .i64 x] rfl (Src.new _ [.int .i64 x] _ 1 1 rfl (by simp [Value.oneCell'])) (by unfold maxLen; omega) (by omega) (by simp; omega) ?_; intro A2 c2 w2 ho2 hg hnil; have hgb := app_below hg howa.out hsz)
        have hb2 := hb.trans hgb
        have hO2 : Hid (OI w2 w.heap.size A2 (j + 1) c2 ((t.take (j + 1)).map (sh 24))) := Lib.hid (by rw [HM.out]; unfold OI; rw [List.map_append]; exact ho2)
        clear hgb howa ho ho2 hg hb
        go_roundw
        case rel => exact ⟨j + 1, A2, c2, by omega, by go_num, rfl, hO2, hb2⟩
        case measure => simp [intOf]; omega
    · have hjm : j = n := by omega
      subst hjm
      have HE : Hid (OI wr w.heap.size A' j c' (t.map (sh 24))) := by have := ho.out; rw [List.take_of_length_le (by rw [hHL.out]; exact Nat.le_refl _)] at this; exact Lib.hid this
      go_wp2_with fail
      go_ret
      exact ⟨A', c', rfl, HE.out, hb⟩
end Go.Proofs.Ytcjgcopkeeiicaa
