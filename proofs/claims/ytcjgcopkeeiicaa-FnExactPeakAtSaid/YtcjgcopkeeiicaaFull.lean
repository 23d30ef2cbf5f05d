/- Contracts: a term with all that variables have, the reference's way. -/
import Derived.Test.YtcjgcopkeeiicaaRes
namespace Go.Proofs.Ytcjgcopkeeiicaa
open Go.RowKit
set_option linter.unusedVariables false
set_option linter.unusedSimpArgs false

theorem keepF {X w1 w2 : World} {p q r : Addr} {x y z : Value} (hb : Below w1.heap.size w1 w2) (h : Below X.heap.size X w1 ∧ w1.cell? p = some x ∧ w1.cell? q = some y ∧ w1.cell? r = some z) : Below X.heap.size X w2 ∧ w2.cell? p = some x ∧ w2.cell? q = some y ∧ w2.cell? r = some z :=
  ⟨below_then h.1 hb h.1.size, keepC hb h.2.1, keepC hb h.2.2.1, keepC hb h.2.2.2⟩
set_option maxHeartbeats 4000000 in
set_option maxRecDepth 20000 in
theorem l11Full_any (f : Int → Int) (p G : Nat) (w0 : World) (B : Un.Bd) (σ : Int → List Int) (rk : Int → Nat) (gd : Un.Good f 48 B σ rk) :
    ∀ (K : Nat) (t : List Int) (v : Value) (w : World), (∀ x ∈ t, x < 0 → rk x < K) → Un.In 48 t → SW w0 G v t → w.cell? ⟨p, 0, none⟩ = some (.slice (some ⟨G, 0, none⟩) 48 48) → Bnd w0 w G 22 [] B → Only G (G + 1) w0 w →
    Calls Try.prog 50 #[.pointer (some ⟨p, 0, none⟩), v] w fun e w' => ∃ A' c', e = .returned (.slice A' (fullL (Un.ap σ t)).length c') ∧ OI w' w.heap.size A' (fullL (Un.ap σ t)).length c' (fullL (Un.ap σ t)) ∧ Below w.heap.size w w' := by
  intro K
  induction K using Nat.strongRecOn with
  | ind K ih =>
    intro t v w hK hin hv hp hb ho
    obtain ⟨i0, hi, hz0, hz1, hz2⟩ := info_parts infoInt64
    obtain ⟨A0, c0, rfl, hr, hg, ht60⟩ := hv
    have GD := Lib.hid gd
    have HAP := Lib.hid (ap_take_le σ t)
    have hplt := World.block_lt_of_cell? w _ hp
    have hGlt := hb.lt
    clear gd
    go_enter Try.func50, Try.ntmps50
    go_wp2_with fail
    have hO := Lib.hid (OI.empty w (Nat.le_refl _))
    have hB0 := (Below.refl w.heap.size w).alloc (Nat.le_refl _) (.cells #[] 2)
    generalize w.alloc (.cells #[] 2) = W0 at *
    go_loopw [5, 6] (fun u i wr => ∃ (k : Nat) (A' : Option Addr) (c' m : Nat), k ≤ t.length ∧ i = .int .i64 k ∧ u = .slice A' m c' ∧ m ≤ 60 ∧ Hid (m = (Un.ap σ (t.take k)).length) ∧ Hid (OI wr w.heap.size A' m c' (Un.ap σ (t.take k))) ∧ Below w.heap.size w wr) (fun _ i _ => t.length - (intOf i).toNat)
    case atStart => exact ⟨0, _, 0, 0, Nat.zero_le _, rfl, rfl, by omega, Lib.hid (by rw [List.take_zero, Un.ap_nil]; rfl), Lib.hid (by rw [List.take_zero, Un.ap_nil]; exact hO.out), hB0⟩
    case round =>
      obtain ⟨k, A', c', m, hk, rfl, rfl, hm60, hm, hOr, hbr⟩ := hrel
      have hor := ho.trans (Only.of hbr)
      have hbd := hb.below hbr
      have hpr := keepC hbr hp
      clear hO hB0
      by_cases hlt : k < t.length
      · obtain ⟨gt, ot, x, rfl, hc, hx⟩ := ri_sw hr hg hor hlt
        have HTK := Lib.hid (ap_take_snoc σ hlt hx.out)
        have hmem : x ∈ t := by rw [hx.out]; exact Pl.getD_mem hlt
        have hk0 : (0 : Int) ≤ (k : Int) := by omega
        have hk1 : (k : Int) < (t.length : Int) := by omega
        have hplain : Un.sg σ x = [x] → (m = 60 → fullL (Un.ap σ t) = []) ∧ (Un.ap σ (t.take (k + 1)) = Un.ap σ (t.take k) ++ [x]) := fun hsg => by
          have h1 := HAP.out (k + 1)
          rw [HTK.out, hsg, List.length_append, List.length_singleton] at h1
          have h2 := hm.out
          exact ⟨fun h60 => fullL_no (by omega), by rw [HTK.out, hsg]⟩
        by_cases hx0 : x < 0
        · have e0 : decide (0 ≤ x) = false := by simpa using hx0
          have hix : Un.ix x < 48 := hin x hmem hx0
          have e1 : IntKind.i64.wrap (-1 - x) = (Un.ix x : Int) := by have := Un.ix_neg hx0; rw [this]; exact IntWalk.i64_in _ (by omega)
          obtain ⟨vb, hcb, hsb⟩ := hbd.cell hix
          simp only [List.length_nil, Nat.zero_add] at hcb
          by_cases hbe : B (Un.ix x) = []
          · have hp := hplain (by rw [Un.sg_var hx0]; exact GD.out.free x hx0 hbe)
            have HP1 := Lib.hid hp.1
            have HP2 := Lib.hid hp.2
            rw [hbe] at hsb
            obtain ⟨cb, rfl⟩ := hsb.none_
            clear hplain hp hmem hx hbe
            generalize Un.ix x = i at *
            have j0 : (0 : Int) ≤ (i : Int) := by omega
            have j1 : (i : Int) < 48 := by omega
            go_wp2
            go_quiet (fail)
            have hcq : (wr.drewN nq).cell? ⟨gt, ot + k, none⟩ = some (.int .i64 x) := hc
            have hOq : Hid (OI (wr.drewN nq) w.heap.size A' m c' (Un.ap σ (t.take k))) := Lib.hid hOr.out
            have hbq := below_drewN hbr nq
            clear hOr hbr hor hbd hpr hc
            generalize wr.drewN nq = wq at *
            have hsq := hbq.size
            have howa := Lib.hid (ownsRow_below hOq.out ((Below.refl _ wq).alloc (Nat.le_refl _) (.cells #[.int .i64 x] 2)))
            by_cases h60 : m = 60
            · have hbig : (60 : Int) < (m : Int) + 1 := by omega
              have HL := Lib.hid (HP1.out h60)
              go_wp2_with (at_builtin; refine wpList_append_any rfl _ _ 22 rfl w.heap.size 2 i0 (.int .i64 0) 1 8 Try.underlying22 hi hz0 hz1 hz2 rfl (by omega) A' m c' ((Un.ap σ (t.take k)).map (Value.int .i64)) rfl howa.out _ 1 _ [.int .i64 x] rfl (Src.new _ [.int .i64 x] _ 1 1 rfl (by simp [Value.oneCell'])) (by unfold maxLen; omega) (by omega) (by simp; omega) ?_; intro A2 c2 w2 ho2 hg hnil; have hgb := app_below hg howa.out hsq)
              have hb2 := hbq.trans hgb
              go_ret
              exact ⟨_, _, by rw [HL.out]; rfl, by rw [HL.out]; exact OI.empty w2 hb2.size, hb2.alloc hb2.size _⟩
            · have hsm : ¬ (60 : Int) < (m : Int) + 1 := by omega
              have hm59 : m < 60 := by omega
              go_wp2_with (at_builtin; refine wpList_append_any rfl _ _ 22 rfl w.heap.size 2 i0 (.int .i64 0) 1 8 Try.underlying22 hi hz0 hz1 hz2 rfl (by omega) A' m c' ((Un.ap σ (t.take k)).map (Value.int .i64)) rfl howa.out _ 1 _ [.int .i64 x] rfl (Src.new _ [.int .i64 x] _ 1 1 rfl (by simp [Value.oneCell'])) (by unfold maxLen; omega) (by omega) (by simp; omega) ?_; intro A2 c2 w2 ho2 hg hnil; have hgb := app_below hg howa.out hsq)
              have hb2 := hbq.trans hgb
              have hO2 : Hid (OI w2 w.heap.size A2 (m + 1) c2 (Un.ap σ (t.take (k + 1)))) := Lib.hid (by rw [HP2.out]; exact ois_snoc hm.out ho2)
              have hM2 : Hid (m + 1 = (Un.ap σ (t.take (k + 1))).length) := Lib.hid (by rw [HP2.out, List.length_append, ← hm.out]; rfl)
              clear hgb howa hOq ho2 hg hbq
              go_roundw
              case rel => exact ⟨k + 1, A2, c2, m + 1, by omega, by go_num, rfl, by omega, hM2, hO2, hb2⟩
              case measure => simp [intOf]; omega
          · obtain ⟨g2, o2, c2, rfl, hri2, hg2, q1, q2, q3, q4⟩ := hsb.some_ hbe
            have hhas := GD.out.has x hx0 hbe
            have hsg : Un.sg σ x = Un.ap σ (B (Un.ix x)) := by rw [Un.sg_var hx0]; exact hhas.2.2.1
            have hpos : 1 ≤ (Un.ap σ (B (Un.ix x))).length := Nat.le_trans q4 (Un.ap_pos GD.out.su _)
            have hIH : ∀ W, (Below wr.heap.size wr W ∧ W.cell? ⟨p, 0, none⟩ = some (.slice (some ⟨G, 0, none⟩) 48 48) ∧ W.cell? ⟨G, Un.ix x, none⟩ = some (.slice (some ⟨g2, o2, none⟩) (B (Un.ix x)).length c2) ∧ W.cell? ⟨gt, ot + k, none⟩ = some (.int .i64 x)) → _ := fun W hW => ih (rk x) (hK x hmem hx0) (B (Un.ix x)) (.slice (some ⟨g2, o2, none⟩) (B (Un.ix x)).length c2) W (fun y hy h0 => hhas.2.2.2 y hy h0) hhas.2.1 hsb.sw hW.2.1 (hbd.below hW.1) (hor.trans (Only.of hW.1))
            have hstep : Un.ap σ (t.take (k + 1)) = Un.ap σ (t.take k) ++ Un.ap σ (B (Un.ix x)) := by rw [HTK.out, hsg]
            have hbad : 60 < m + (Un.ap σ (B (Un.ix x))).length → fullL (Un.ap σ t) = [] := fun h => by
              have h1 := HAP.out (k + 1)
              have h2 := hm.out
              rw [hstep, List.length_append] at h1
              exact fullL_no (by omega)
            have HST := Lib.hid hstep
            have HBD := Lib.hid hbad
            have HIH := Lib.hid hIH
            have hbx : B (Un.ix x) ≠ [] := hbe
            have HBX := Lib.hid hbx
            clear hplain hmem hx hbe hhas hsg hIH hstep hbad hsb hbx hK hin
            generalize Un.ix x = i at *
            have j0 : (0 : Int) ≤ (i : Int) := by omega
            have j1 : (i : Int) < 48 := by omega
            generalize hU : Un.ap σ (B i) = u at *
            clear hU
            have hri2' := ri_only hri2 (fun _ a ha => by injection ha with ha; subst ha; exact hg2) hor
            go_wp2
            go_quiet (fail)
            go_wp2
            go_region_held3 (fun w' => Below wr.heap.size wr w' ∧ w'.cell? ⟨p, 0, none⟩ = some (.slice (some ⟨G, 0, none⟩) 48 48) ∧ w'.cell? ⟨G, i, none⟩ = some (.slice (some ⟨g2, o2, none⟩) (B i).length c2) ∧ w'.cell? ⟨gt, ot + k, none⟩ = some (.int .i64 x))
              (first | exact ⟨((Below.refl _ _).drew), hpr, hcb, hc⟩ | exact ⟨below_drewN (Below.refl _ _) _, hpr, hcb, hc⟩ | exact ⟨(below_drewN (Below.refl _ _) _).drew, hpr, hcb, hc⟩ | exact keepF hb1 (by assumption))
              ((go_at_call 50; refine (HIH.out _ (by assumption)).mono ?_; rintro e w1 ⟨A2, c2', rfl, ho2, hb1⟩))
            rename_i hS
            have hb2 := below_then hbr hS.1 hbr.size
            have hO1 := Lib.hid (hOr.out.below hS.1)
            have HO2 := Lib.hid ho2
            have hsz1 := hb2.size
            clear hS hb1 ho2 hbr hbd hor hOr hri2' hpr hcb hc
            by_cases hu60 : u.length ≤ 60
            · rw [fullL_yes hu60] at HO2 ⊢
              have hu00 : ¬ (u.length = 0) := by omega
              by_cases hbig : 60 < m + u.length
              · have hbi : (60 : Int) < (m : Int) + (u.length : Int) := by omega
                have HL := Lib.hid (HBD.out hbig)
                go_wp2_with (at_builtin; refine wpList_append_any rfl _ _ 22 rfl w.heap.size 2 i0 (.int .i64 0) 1 8 Try.underlying22 hi hz0 hz1 hz2 rfl (by omega) A' m c' ((Un.ap σ (t.take k)).map (Value.int .i64)) rfl hO1.out A2 u.length c2' (u.map (Value.int .i64)) rfl (Src.ints HO2.out.ri) (by unfold maxLen; omega) (by omega) hsz1 ?_; intro A3 c3 w3 ho3 hg3 hnil3; have hgb := grown_below hg3 hO1.out hsz1)
                have hb3 := hb2.trans hgb
                go_ret
                exact ⟨_, _, by rw [HL.out]; rfl, by rw [HL.out]; exact OI.empty w3 hb3.size, hb3.alloc hb3.size _⟩
              · have hbi : ¬ (60 : Int) < (m : Int) + (u.length : Int) := by omega
                go_wp2_with (at_builtin; refine wpList_append_any rfl _ _ 22 rfl w.heap.size 2 i0 (.int .i64 0) 1 8 Try.underlying22 hi hz0 hz1 hz2 rfl (by omega) A' m c' ((Un.ap σ (t.take k)).map (Value.int .i64)) rfl hO1.out A2 u.length c2' (u.map (Value.int .i64)) rfl (Src.ints HO2.out.ri) (by unfold maxLen; omega) (by omega) hsz1 ?_; intro A3 c3 w3 ho3 hg3 hnil3; have hgb := grown_below hg3 hO1.out hsz1)
                have hb3 := hb2.trans hgb
                have hO3 : Hid (OI w3 w.heap.size A3 (m + u.length) c3 (Un.ap σ (t.take (k + 1)))) := Lib.hid (by rw [HST.out]; unfold OI; rw [List.map_append]; exact ho3)
                have hM3 : Hid (m + u.length = (Un.ap σ (t.take (k + 1))).length) := Lib.hid (by rw [HST.out, List.length_append, ← hm.out])
                clear hgb hg3 ho3 hb2
                go_roundw
                case rel => exact ⟨k + 1, A3, c3, m + u.length, by omega, by go_num, rfl, by omega, hM3, hO3, hb3⟩
                case measure => simp [intOf]; omega
            · rw [fullL_no hu60] at HO2 ⊢
              have HL := Lib.hid (HBD.out (by omega))
              go_wp2
              go_ret
              exact ⟨_, _, by rw [HL.out]; rfl, by rw [HL.out]; exact OI.empty w1 hb2.size, hb2.alloc hb2.size _⟩
        · have e0 : decide (0 ≤ x) = true := by simpa using hx0
          have hp := hplain (Un.sg_sym hx0)
          have HP1 := Lib.hid hp.1
          have HP2 := Lib.hid hp.2
          clear hplain hp hmem hx
          go_wp2
          go_quiet (fail)
          have hcq : (wr.drewN nq).cell? ⟨gt, ot + k, none⟩ = some (.int .i64 x) := hc
          have hOq : Hid (OI (wr.drewN nq) w.heap.size A' m c' (Un.ap σ (t.take k))) := Lib.hid hOr.out
          have hbq := below_drewN hbr nq
          clear hOr hbr hor hbd hpr hc
          generalize wr.drewN nq = wq at *
          have hsq := hbq.size
          have howa := Lib.hid (ownsRow_below hOq.out ((Below.refl _ wq).alloc (Nat.le_refl _) (.cells #[.int .i64 x] 2)))
          by_cases h60 : m = 60
          · have hbig : (60 : Int) < (m : Int) + 1 := by omega
            have HL := Lib.hid (HP1.out h60)
            go_wp2_with (at_builtin; refine wpList_append_any rfl _ _ 22 rfl w.heap.size 2 i0 (.int .i64 0) 1 8 Try.underlying22 hi hz0 hz1 hz2 rfl (by omega) A' m c' ((Un.ap σ (t.take k)).map (Value.int .i64)) rfl howa.out _ 1 _ [.int .i64 x] rfl (Src.new _ [.int .i64 x] _ 1 1 rfl (by simp [Value.oneCell'])) (by unfold maxLen; omega) (by omega) (by simp; omega) ?_; intro A2 c2 w2 ho2 hg hnil; have hgb := app_below hg howa.out hsq)
            have hb2 := hbq.trans hgb
            go_ret
            exact ⟨_, _, by rw [HL.out]; rfl, by rw [HL.out]; exact OI.empty w2 hb2.size, hb2.alloc hb2.size _⟩
          · have hsm : ¬ (60 : Int) < (m : Int) + 1 := by omega
            have hm59 : m < 60 := by omega
            go_wp2_with (at_builtin; refine wpList_append_any rfl _ _ 22 rfl w.heap.size 2 i0 (.int .i64 0) 1 8 Try.underlying22 hi hz0 hz1 hz2 rfl (by omega) A' m c' ((Un.ap σ (t.take k)).map (Value.int .i64)) rfl howa.out _ 1 _ [.int .i64 x] rfl (Src.new _ [.int .i64 x] _ 1 1 rfl (by simp [Value.oneCell'])) (by unfold maxLen; omega) (by omega) (by simp; omega) ?_; intro A2 c2 w2 ho2 hg hnil; have hgb := app_below hg howa.out hsq)
            have hb2 := hbq.trans hgb
            have hO2 : Hid (OI w2 w.heap.size A2 (m + 1) c2 (Un.ap σ (t.take (k + 1)))) := Lib.hid (by rw [HP2.out]; exact ois_snoc hm.out ho2)
            have hM2 : Hid (m + 1 = (Un.ap σ (t.take (k + 1))).length) := Lib.hid (by rw [HP2.out, List.length_append, ← hm.out]; rfl)
            clear hgb howa hOq ho2 hg hbq
            go_roundw
            case rel => exact ⟨k + 1, A2, c2, m + 1, by omega, by go_num, rfl, by omega, hM2, hO2, hb2⟩
            case measure => simp [intOf]; omega
      · have hkt : k = t.length := by omega
        subst hkt
        have HM : Hid (m = (Un.ap σ t).length) := by have := hm.out; rw [List.take_of_length_le (Nat.le_refl _)] at this; exact Lib.hid this
        have HE : Hid (OI wr w.heap.size A' m c' (Un.ap σ t)) := by have := hOr.out; rw [List.take_of_length_le (Nat.le_refl _)] at this; exact Lib.hid this
        have HL := Lib.hid (fullL_yes (u := Un.ap σ t) (by have := HM.out; omega))
        go_wp2
        go_ret
        exact ⟨A', c', by rw [HL.out, ← HM.out]; rfl, by rw [HL.out, ← HM.out]; exact HE.out, hbr⟩
end Go.Proofs.Ytcjgcopkeeiicaa
