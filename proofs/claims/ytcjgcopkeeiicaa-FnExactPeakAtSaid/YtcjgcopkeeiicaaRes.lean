/- Contracts: a term with all that variables have. -/
import Derived.Test.YtcjgcopkeeiicaaOccS
import Derived.Test.YtcjgcopkeeiicaaApp
namespace Go.Proofs.Ytcjgcopkeeiicaa
open Go.RowKit
set_option linter.unusedVariables false
set_option linter.unusedSimpArgs false

/-- A slice that reads as a list in a world in which block G alone has been written since w0. -/
def SW (w0 : World) (G : Nat) (v : Value) (t : List Int) : Prop := ∃ A c, v = .slice A t.length c ∧ RI w0 A t.length t ∧ (0 < t.length → ∀ a, A = some a → a.block ≠ G) ∧ t.length ≤ 1000
theorem SV.sw {w0 : World} {G : Nat} {v : Value} {t : List Int} (h : SV w0 G v t) : SW w0 G v t := by
  obtain ⟨A, n, c, rfl, hr, hg, _, _, h60, _⟩ := h
  have hl := hr.1
  subst hl
  exact ⟨A, c, rfl, hr, hg, by omega⟩
def resB (o u : List Int) : Bool := decide (o.length + u.length ≤ 60)
def resL (o u : List Int) : List Int := if resB o u then o ++ u else []
theorem resL_yes {o u : List Int} (h : resB o u = true) : resL o u = o ++ u := by unfold resL; rw [h]; rfl
theorem resL_no {o u : List Int} (h : resB o u = false) : resL o u = [] := by unfold resL; rw [h]; rfl
theorem resB_iff {o u : List Int} : resB o u = true ↔ o.length + u.length ≤ 60 := by simp [resB]
theorem resB_no {o u : List Int} (h : 60 < o.length + u.length) : resB o u = false := by unfold resB; exact decide_eq_false (by omega)
def fullL (u : List Int) : List Int := if u.length ≤ 60 then u else []
theorem fullL_yes {u : List Int} (h : u.length ≤ 60) : fullL u = u := if_pos h
theorem fullL_no {u : List Int} (h : ¬ u.length ≤ 60) : fullL u = [] := if_neg h
theorem ap_take_le (σ : Int → List Int) (t : List Int) (k : Nat) : (Un.ap σ (t.take k)).length ≤ (Un.ap σ t).length := by
  have := congrArg (fun l => (Un.ap σ l).length) (List.take_append_drop k t)
  simp only [Un.ap_app, List.length_append] at this
  omega
theorem ap_take_snoc (σ : Int → List Int) {t : List Int} {k : Nat} {y : Int} (hk : k < t.length) (hy : y = t.getD k 0) : Un.ap σ (t.take (k + 1)) = Un.ap σ (t.take k) ++ Un.sg σ y := by
  rw [take_snocI hk hy, Un.ap_app, Un.ap_one]
theorem bnd_lo {w0 w w' : World} {G lo : Nat} {T : TypeId} {hd : List Value} {B : Un.Bd} (h : Bnd w0 w G T hd B) (hb : Below lo w w') (hG : G < lo) : Bnd w0 w' G T hd B := by
  obtain ⟨vs, hl, hk, hv⟩ := h
  exact ⟨vs, hl, (hb.block G hG).trans hk, hv⟩
theorem only_lo {w0 w w' : World} {G lo : Nat} (h : Only G (G + 1) w0 w) (hb : Below lo w w') (hl : w0.heap.size ≤ lo) : Only G (G + 1) w0 w' :=
  ⟨hb.os.trans h.os, hb.tape.trans h.tape, hb.output.trans h.output, Nat.le_trans h.size hb.size, fun k hk hd => (hb.block k (by omega)).trans (h.block k hk hd)⟩
theorem ri_sw {w0 w : World} {G : Nat} {A : Option Addr} {t : List Int} (h : RI w0 A t.length t) (hg : 0 < t.length → ∀ a, A = some a → a.block ≠ G) (ho : Only G (G + 1) w0 w) {k : Nat} (hk : k < t.length) :
    ∃ g off x, A = some ⟨g, off, none⟩ ∧ w.cell? ⟨g, off + k, none⟩ = some (.int .i64 x) ∧ Hid (x = t.getD k 0) := (ri_only h hg ho).at_ hk
theorem ois_snoc {w : World} {lo : Nat} {A : Option Addr} {c : Nat} {l : List Int} {q : Int} {k : Nat} (hk : k = l.length) (h : w.ownsRow lo 2 1 (.slice A (k + 1) c) (k + 1) (l.map (Value.int .i64) ++ [.int .i64 q])) : OI w lo A (k + 1) c (l ++ [q]) := by
  subst hk; unfold OI; rw [List.map_append]; exact h
set_option maxHeartbeats 4000000 in
set_option maxRecDepth 20000 in
theorem resolve_any (f : Int → Int) (U lo : Nat) (S : Value) (w0 : World) (B : Un.Bd) (σ : Int → List Int) (rk : Int → Nat) (gd : Un.Good f 48 B σ rk) (hU : U < w0.heap.size) (hlo : w0.heap.size ≤ lo) :
    ∀ (K : Nat) (t : List Int) (v : Value) (A : Option Addr) (n c : Nat) (o : List Int) (w : World), (∀ x ∈ t, x < 0 → rk x < K) → Un.In 48 t → SW w0 U v t → Bnd w0 w U 95 [S] B → Only U (U + 1) w0 w → lo ≤ w.heap.size → n = o.length → n ≤ 60 → OI w lo A n c o →
    Calls Try.prog 53 #[.pointer (some ⟨U, 0, none⟩), .slice A n c, v] w fun e w' => ∃ A' c', e = .returned (.tuple #[.slice A' (resL o (Un.ap σ t)).length c', .bool (resB o (Un.ap σ t))]) ∧ OI w' lo A' (resL o (Un.ap σ t)).length c' (resL o (Un.ap σ t)) ∧ Below lo w w' := by
  intro K
  induction K using Nat.strongRecOn with
  | ind K ih =>
    intro t v A n c o w hK hin hv hb ho hlw hn hn60 hO
    obtain ⟨i0, hi, hz0, hz1, hz2⟩ := info_parts infoInt64
    obtain ⟨A0, c0, rfl, hr, hg, ht60⟩ := hv
    have GD := Lib.hid gd
    have HN := Lib.hid hn
    have HO := Lib.hid hO
    have HAP := Lib.hid (ap_take_le σ t)
    have hUl : U < lo := by omega
    clear gd hn hO
    go_enter Try.func53, Try.ntmps53
    go_wp2_with fail
    go_loopw [1, 13] (fun u i wr => ∃ (k : Nat) (A' : Option Addr) (c' m : Nat), k ≤ t.length ∧ i = .int .i64 k ∧ u = .slice A' m c' ∧ m ≤ 60 ∧ Hid (m = (o ++ Un.ap σ (t.take k)).length) ∧ Hid (OI wr lo A' m c' (o ++ Un.ap σ (t.take k))) ∧ Below lo w wr ∧ lo ≤ wr.heap.size) (fun _ i _ => t.length - (intOf i).toNat)
    case atStart => exact ⟨0, A, c, n, Nat.zero_le _, rfl, rfl, hn60, Lib.hid (by rw [List.take_zero, Un.ap_nil, List.append_nil]; exact HN.out), Lib.hid (by rw [List.take_zero, Un.ap_nil, List.append_nil]; exact HO.out), Below.refl _ _, hlw⟩
    case round =>
      obtain ⟨k, A', c', m, hk, rfl, rfl, hm60, hm, hOr, hbr, hlr⟩ := hrel
      have hor := only_lo ho hbr hlo
      have hbd := bnd_lo hb hbr hUl
      by_cases hlt : k < t.length
      · obtain ⟨gt, ot, x, rfl, hc, hx⟩ := ri_sw hr hg hor hlt
        have HTK := Lib.hid (ap_take_snoc σ hlt hx.out)
        have hmem : x ∈ t := by rw [hx.out]; exact Pl.getD_mem hlt
        have hk0 : (0 : Int) ≤ (k : Int) := by omega
        have hk1 : (k : Int) < (t.length : Int) := by omega
        have hplain : Un.sg σ x = [x] → (m = 60 → resB o (Un.ap σ t) = false) ∧ (o ++ Un.ap σ (t.take (k + 1)) = (o ++ Un.ap σ (t.take k)) ++ [x]) := fun hsg => by
          have h1 := HAP.out (k + 1)
          rw [HTK.out, hsg, List.length_append, List.length_singleton] at h1
          have h2 := hm.out
          rw [List.length_append] at h2
          exact ⟨fun h60 => resB_no (by omega), by rw [HTK.out, hsg, List.append_assoc]⟩
        cases hx0 : decide (x < 0)
        · have hp := hplain (Un.sg_sym (by simpa using hx0))
          have HP1 := Lib.hid hp.1
          have HP2 := Lib.hid hp.2
          clear hplain hp hmem hx
          by_cases h60 : m = 60
          · have HR := Lib.hid (HP1.out h60)
            have HL := Lib.hid (resL_no HR.out)
            go_wp2
            go_ret2
            exact ⟨none, 0, by rw [HR.out, HL.out]; rfl, by rw [HL.out]; exact World.ownsRow_nil _ _ _ _, hbr⟩
          · have h60' : ((m : Int) == 60) = false := by simp; omega
            have howa := Lib.hid (ownsRow_below hOr.out ((Below.refl _ wr).alloc (Nat.le_refl _) (.cells #[.int .i64 x] 2)))
            have hm59 : m < 60 := by omega
            go_wp2_with (at_builtin; refine wpList_append_any rfl _ _ 22 rfl lo 2 i0 (.int .i64 0) 1 8 Try.underlying22 hi hz0 hz1 hz2 rfl (by omega) A' m c' ((o ++ Un.ap σ (t.take k)).map (Value.int .i64)) rfl howa.out _ 1 _ [.int .i64 x] rfl (Src.new _ [.int .i64 x] _ 1 1 rfl (by simp [Value.oneCell'])) (by unfold maxLen; omega) (by omega) (by simp; omega) ?_; intro A2 c2 w2 ho2 hg hnil; have hgb := app_below hg howa.out hlr)
            have hb2 := hbr.trans hgb
            have hO2 : Hid (OI w2 lo A2 (m + 1) c2 (o ++ Un.ap σ (t.take (k + 1)))) := Lib.hid (by rw [HP2.out]; exact ois_snoc hm.out ho2)
            have hM2 : Hid (m + 1 = (o ++ Un.ap σ (t.take (k + 1))).length) := Lib.hid (by rw [HP2.out, List.length_append, ← hm.out]; rfl)
            have hl2 : lo ≤ w2.heap.size := by have := hgb.size; omega
            clear hgb howa hOr ho2 hg hbr hbd hor
            go_roundw
            case rel => exact ⟨k + 1, A2, c2, m + 1, by omega, by go_num, rfl, by omega, hM2, hO2, hb2, hl2⟩
            case measure => simp [intOf]; omega
        · have hneg : x < 0 := by simpa using hx0
          have hix : Un.ix x < 48 := hin x hmem hneg
          have e1 : IntKind.i64.wrap (-1 - x) = (Un.ix x : Int) := by have := Un.ix_neg hneg; rw [this]; exact IntWalk.i64_in _ (by omega)
          obtain ⟨vb, hcb, hsb⟩ := hbd.cell hix
          simp only [List.length_singleton] at hcb
          by_cases hbe : B (Un.ix x) = []
          · have hp := hplain (by rw [Un.sg_var hneg]; exact GD.out.free x hneg hbe)
            have HP1 := Lib.hid hp.1
            have HP2 := Lib.hid hp.2
            rw [hbe] at hsb
            obtain ⟨cb, rfl⟩ := hsb.none_
            clear hplain hp hmem hx hbe
            generalize Un.ix x = i at *
            have j0 : (0 : Int) ≤ (i : Int) := by omega
            have j1 : (i : Int) < 48 := by omega
            by_cases h60 : m = 60
            · have HR := Lib.hid (HP1.out h60)
              have HL := Lib.hid (resL_no HR.out)
              go_wp2
              go_ret2
              exact ⟨none, 0, by rw [HR.out, HL.out]; rfl, by rw [HL.out]; exact World.ownsRow_nil _ _ _ _, hbr⟩
            · have h60' : ((m : Int) == 60) = false := by simp; omega
              have howa := Lib.hid (ownsRow_below hOr.out ((Below.refl _ wr).alloc (Nat.le_refl _) (.cells #[.int .i64 x] 2)))
              have hm59 : m < 60 := by omega
              go_wp2_with (at_builtin; refine wpList_append_any rfl _ _ 22 rfl lo 2 i0 (.int .i64 0) 1 8 Try.underlying22 hi hz0 hz1 hz2 rfl (by omega) A' m c' ((o ++ Un.ap σ (t.take k)).map (Value.int .i64)) rfl howa.out _ 1 _ [.int .i64 x] rfl (Src.new _ [.int .i64 x] _ 1 1 rfl (by simp [Value.oneCell'])) (by unfold maxLen; omega) (by omega) (by simp; omega) ?_; intro A2 c2 w2 ho2 hg hnil; have hgb := app_below hg howa.out hlr)
              have hb2 := hbr.trans hgb
              have hO2 : Hid (OI w2 lo A2 (m + 1) c2 (o ++ Un.ap σ (t.take (k + 1)))) := Lib.hid (by rw [HP2.out]; exact ois_snoc hm.out ho2)
              have hM2 : Hid (m + 1 = (o ++ Un.ap σ (t.take (k + 1))).length) := Lib.hid (by rw [HP2.out, List.length_append, ← hm.out]; rfl)
              have hl2 : lo ≤ w2.heap.size := by have := hgb.size; omega
              clear hgb howa hOr ho2 hg hbr hbd hor
              go_roundw
              case rel => exact ⟨k + 1, A2, c2, m + 1, by omega, by go_num, rfl, by omega, hM2, hO2, hb2, hl2⟩
              case measure => simp [intOf]; omega
          · obtain ⟨g2, o2, c2, rfl, hri2, hg2, q1, q2, q3, q4⟩ := hsb.some_ hbe
            have hhas := GD.out.has x hneg hbe
            have hsg : Un.sg σ x = Un.ap σ (B (Un.ix x)) := by rw [Un.sg_var hneg]; exact hhas.2.2.1
            have hIH := ih (rk x) (hK x hmem hneg) (B (Un.ix x)) (.slice (some ⟨g2, o2, none⟩) (B (Un.ix x)).length c2) A' m c' (o ++ Un.ap σ (t.take k)) wr (fun y hy h0 => hhas.2.2.2 y hy h0) hhas.2.1 hsb.sw hbd hor hlr hm.out hm60 hOr.out
            have hstep : resB (o ++ Un.ap σ (t.take k)) (Un.ap σ (B (Un.ix x))) = true → o ++ Un.ap σ (t.take (k + 1)) = resL (o ++ Un.ap σ (t.take k)) (Un.ap σ (B (Un.ix x))) := fun h => by rw [resL_yes h, HTK.out, hsg, List.append_assoc]
            have hbad : resB (o ++ Un.ap σ (t.take k)) (Un.ap σ (B (Un.ix x))) = false → resB o (Un.ap σ t) = false := fun h => by
              have h1 := HAP.out (k + 1)
              rw [HTK.out, hsg, List.length_append] at h1
              simp only [resB, decide_eq_false_iff_not, List.length_append] at h
              exact resB_no (by omega)
            have HST := Lib.hid hstep
            have HBD := Lib.hid hbad
            have HIH := Lib.hid hIH
            have hbx : B (Un.ix x) ≠ [] := hbe
            have HBX := Lib.hid hbx
            clear hplain hmem hx hbe hhas hsg hIH hstep hbad hsb hbx
            generalize Un.ix x = i at *
            have j0 : (0 : Int) ≤ (i : Int) := by omega
            have j1 : (i : Int) < 48 := by omega
            go_wp2_with fail
            refine HIH.out.mono ?_
            rintro e w2 ⟨A2, c2', rfl, ho2, hb2⟩
            have hb3 := hbr.trans hb2
            have hl2 : lo ≤ w2.heap.size := by have := hb2.size; omega
            clear hb2 hbr hor hbd hOr
            cases hrb : resB (o ++ Un.ap σ (t.take k)) (Un.ap σ (B i))
            · have HR := Lib.hid (HBD.out hrb)
              have HL := Lib.hid (resL_no HR.out)
              clear ho2
              go_wp2
              go_ret2
              exact ⟨none, 0, by rw [HR.out, HL.out]; rfl, by rw [HL.out]; exact World.ownsRow_nil _ _ _ _, hb3⟩
            · have HE := Lib.hid (HST.out hrb)
              have hl60 : (resL (o ++ Un.ap σ (t.take k)) (Un.ap σ (B i))).length ≤ 60 := by
                rw [resL_yes hrb]
                have := resB_iff.1 hrb
                rw [List.length_append]; exact this
              have HO2 := Lib.hid ho2
              have HL60 := Lib.hid hl60
              have HK1 := Lib.hid (show k + 1 ≤ t.length ∧ t.length - (k + 1) < t.length - k by omega)
              clear ho2 hl60
              go_wp2
              go_roundw
              case rel => exact ⟨k + 1, A2, c2', _, HK1.out.1, by go_num, rfl, HL60.out, Lib.hid (by rw [HE.out]), Lib.hid (by rw [HE.out]; exact HO2.out), hb3, hl2⟩
              case measure =>
                have := HK1.out.2
                simp [intOf]; omega
      · have hkt : k = t.length := by omega
        subst hkt
        have HE : Hid (OI wr lo A' m c' (o ++ Un.ap σ t)) := by have := hOr.out; rw [List.take_of_length_le (Nat.le_refl _)] at this; exact Lib.hid this
        have HM : Hid (m = (o ++ Un.ap σ t).length) := by have := hm.out; rw [List.take_of_length_le (Nat.le_refl _)] at this; exact Lib.hid this
        have HR := Lib.hid ((resB_iff (o := o) (u := Un.ap σ t)).2 (by have := HM.out; rw [List.length_append] at this; omega))
        have HL := Lib.hid (resL_yes HR.out)
        go_wp2
        go_ret2
        exact ⟨A', c', by rw [HR.out, HL.out, ← HM.out]; rfl, by rw [HL.out, ← HM.out]; exact HE.out, hbr⟩
end Go.Proofs.Ytcjgcopkeeiicaa
