/- The statement FnExactSubstText: whatever the input, it returns true and leaves its arguments alone. No conditions. -/
import Derived.Test.YtlcchafcgidpeaaDoorTxtY
import Derived.Test.YtlcchafcgidpeaaDoorOpenU
import Derived.Test.YtlcchafcgidpeaaDoorSubst
import Derived.Test.YtlcchafcgidpeaaDoorTerm2
import Derived.Test.YtlcchafcgidpeaaDoorOpen
import Derived.Test.YtlcchafcgidpeaaDoorRows
import Derived.Deep.RegionHeld3
import Derived.Test.YtlcchafcgidpeaaDoorTie
import Derived.Test.YtlcchafcgidpeaaDoorCards
import Derived.ProofKit
import Derived.Lay
import Derived.SevenTiedAt
namespace Go.Proofs.YtlcchafcgidpeaaDoor.lSubstText
open Go.RowKit Go.ChangeShapes Go.WideShapes Go.ChangeAt
open Go.ChangeMaps (open_string shut_string)
set_option linter.unusedVariables false
set_option linter.unusedSimpArgs false

set_option maxHeartbeats 8000000 in
set_option maxRecDepth 100000 in
theorem walk (A0_0 : Option Addr) (n0_0 c0_0 : Nat) (x0_0 : List Int) (A1_0 : Option Addr) (n1_0 c1_0 : Nat) (x1_0 : List (List Int)) (w : World) (h0_0 : RI w A0_0 n0_0 x0_0) (h1_0 : RR w A1_0 n1_0 x1_0) (m0_0 : n0_0 ≤ 9223372036854775807) (m1_0 : n1_0 ≤ 9223372036854775807) :
    Calls Tryd.prog 9 #[.agg #[.slice A0_0 n0_0 c0_0], .agg #[.slice A1_0 n1_0 c1_0]] w fun e w' => e = .returned (.bool true) ∧ Below w.heap.size w w' := by
  go_enter Tryd.func9, Tryd.ntmps9
  have hB : Below w.heap.size w w := Below.refl _ _
  go_wp2_with fail
  refine (szSig_any A0_0 n0_0 c0_0 (1048576) _ (by omega) (by omega) m0_0).mono ?_
  rintro e w1 ⟨rfl, hb1⟩
  have s1 : w.heap.size + 2 ≤ w1.heap.size := by have := hb1.size; first | omega | (simp at this; omega)
  have bx0 : w1.cell? ⟨w.heap.size, 0, none⟩ = some (.slice A0_0 n0_0 c0_0) := (hb1.cell (by simp <;> omega)).trans (by simp)
  have bx1 : w1.cell? ⟨w.heap.size + 1, 0, none⟩ = some (.slice A1_0 n1_0 c1_0) := (hb1.cell (by simp <;> omega)).trans (by simp)
  replace hB : Below w.heap.size w w1 := below_then ((hB.alloc (by have := hB.size; simp <;> omega) _).alloc (by have := hB.size; simp <;> omega) _) hb1 (by have := hB.size; simp <;> omega)
  clear hb1
  have sb1 : w.heap.size + 1 < w1.heap.size := by omega
  have z0 := szF_bd (left := 1048576) (n0_0) (by omega)
  obtain ⟨v0, e0⟩ : ∃ v, v = szF (1048576) (n0_0) := ⟨_, rfl⟩
  rw [← e0] at z0 ⊢
  clear e0
  by_cases q0 : v0 < 0
  · go_wp2_with fail
    go_ret
    exact ⟨rfl, hB⟩
  have g0 : n0_0 ≤ 1048576 := by omega
  go_wp2_with fail
  refine (szSubst_any A1_0 n1_0 c1_0 x1_0 (v0) _ (h1_0.below hB) (by omega) (by omega) m1_0).mono ?_
  rintro e w2 ⟨rfl, hb2⟩
  have s2 : w1.heap.size + 0 ≤ w2.heap.size := by have := hb2.size; first | omega | (simp at this; omega)
  replace bx0 := keepC hb2 bx0
  replace bx1 := keepC hb2 bx1
  replace hB : Below w.heap.size w w2 := below_then hB hb2 (by have := hB.size; simp <;> omega)
  clear hb2
  replace sb1 : w.heap.size + 1 < w2.heap.size := by omega
  have z1 := szF_bd (left := v0) (wtR x1_0) (by omega)
  obtain ⟨v1, e1⟩ : ∃ v, v = szF (v0) (wtR x1_0) := ⟨_, rfl⟩
  rw [← e1] at z1 ⊢
  clear e1
  by_cases q1 : v1 < 0
  · go_wp2_with fail
    go_ret
    exact ⟨rfl, hB⟩
  have g1 : wtR x1_0 ≤ 1048576 := by omega
  go_wp2_with fail
  have HKS : Hid (∀ w', Below w2.heap.size w2 w' → (fun w' => Below w2.heap.size w2 w' ∧ w'.cell? ⟨w.heap.size, 0, none⟩ = some (.slice A0_0 n0_0 c0_0) ∧ w'.cell? ⟨w.heap.size + 1, 0, none⟩ = some (.slice A1_0 n1_0 c1_0)) w') := Lib.hid (fun w' h_ => ⟨h_, keepC h_ bx0, keepC h_ bx1⟩)
  go_region_held3 (fun w' => Below w2.heap.size w2 w' ∧ w'.cell? ⟨w.heap.size, 0, none⟩ = some (.slice A0_0 n0_0 c0_0) ∧ w'.cell? ⟨w.heap.size + 1, 0, none⟩ = some (.slice A1_0 n1_0 c1_0))
    (first | exact HKS.out _ (Below.refl _ _).drew | exact HKS.out _ (keepS0 ha_0 (And.left (by assumption))) | exact HKS.out _ (keepS0 ha_1 (And.left (by assumption))) | exact HKS.out _ (keepS0 haf (And.left (by assumption))))
    ((first | (go_at_call 13; refine (toSig_any A0_0 n0_0 c0_0 x0_0 _ ?_ g0).mono ?_; exact riS (h0_0.below hB) (by assumption); rintro e wa_0 ⟨as0_0, rfl, os0_0, ha_0⟩) | (go_at_call 39; refine (toSubst_any A1_0 n1_0 c1_0 x1_0 _ ?_ g1).mono ?_; exact (h1_0.below hB).below (And.left (by assumption)); rintro e wa_1 ⟨as1_0, rfl, os1_0, ha_1⟩; replace os0_0 := os0_0.below ha_1) | (go_at_call 38; refine (S_SubstText (some ⟨as0_0, 0, none⟩) n0_0 n0_0 x0_0 (some ⟨as1_0, 0, none⟩) n1_0 n1_0 x1_0 _ os0_0.rd os1_0.rd g0 g1).mono ?_; rintro e w3 ⟨rfl, haf⟩)))
  rename_i hS
  have hb3 := hS.1
  have sz3 : w2.heap.size ≤ wa_1.heap.size := by have e_ : w2.drew.heap.size = w2.heap.size := rfl; have q_0 := ha_0.size; have q_1 := ha_1.size; have qf := haf.size; omega
  clear HKS hS haf ha_0 ha_1 os0_0 os1_0
  have s3 : w2.heap.size + 0 ≤ w3.heap.size := by have := hb3.size; first | omega | (simp at this; omega)
  replace bx0 := keepC hb3 bx0
  replace bx1 := keepC hb3 bx1
  replace hB : Below w.heap.size w w3 := below_then hB hb3 (by have := hB.size; simp <;> omega)
  clear hb3
  replace sb1 : w.heap.size + 1 < w3.heap.size := by omega
  go_wp2_with fail
  refine (toSig_any A0_0 n0_0 c0_0 x0_0 _ (h0_0.below hB) g0).mono ?_
  rintro e w4 ⟨ax0_0, rfl, ox0_0, hb4⟩
  have s4 : w3.heap.size + 0 ≤ w4.heap.size := by have := hb4.size; first | omega | (simp at this; omega)
  replace bx0 := keepC hb4 bx0
  replace bx1 := keepC hb4 bx1
  replace hB : Below w.heap.size w w4 := below_then hB hb4 (by have := hB.size; simp <;> omega)
  clear hb4
  replace sb1 : w.heap.size + 1 < w4.heap.size := by omega
  go_wp2_with fail
  refine (toSubst_any A1_0 n1_0 c1_0 x1_0 _ (h1_0.below (hB.alloc (by have := hB.size; simp <;> omega) _)) g1).mono ?_
  rintro e w5 ⟨ax1_0, rfl, ox1_0, hb5⟩
  have s5 : w4.heap.size + 1 ≤ w5.heap.size := by have := hb5.size; first | omega | (simp at this; omega)
  replace ox0_0 := (ox0_0.below ((Below.refl _ _).alloc (Nat.le_refl _) _)).below hb5
  replace bx0 := keepC hb5 (keepC ((Below.refl _ _).alloc (Nat.le_refl _) _) bx0)
  replace bx1 := keepC hb5 (keepC ((Below.refl _ _).alloc (Nat.le_refl _) _) bx1)
  have by0 : w5.cell? ⟨w4.heap.size, 0, none⟩ = some (.slice (some ⟨ax0_0, 0, none⟩) n0_0 n0_0) := (hb5.cell (by simp <;> omega)).trans (by simp)
  replace hB : Below w.heap.size w w5 := below_then (hB.alloc (by have := hB.size; simp <;> omega) _) hb5 (by have := hB.size; simp <;> omega)
  clear hb5
  have sy0 : w4.heap.size < w5.heap.size := by omega
  replace sb1 : w.heap.size + 1 < w5.heap.size := by omega
  go_wp2_with fail
  refine (I_SubstText (some ⟨ax0_0, 0, none⟩) n0_0 n0_0 x0_0 (some ⟨ax1_0, 0, none⟩) n1_0 n1_0 x1_0 _ (ox0_0.rd.below ((Below.refl _ _).alloc (Nat.le_refl _) _)) (ox1_0.rd.below ((Below.refl _ _).alloc (Nat.le_refl _) _)) g0 g1).mono ?_
  rintro e w6 ⟨rfl, hb6⟩
  have s6 : w5.heap.size + 1 ≤ w6.heap.size := by have := hb6.size; first | omega | (simp at this; omega)
  replace ox0_0 := (ox0_0.below ((Below.refl _ _).alloc (Nat.le_refl _) _)).below hb6
  replace ox1_0 := (ox1_0.below ((Below.refl _ _).alloc (Nat.le_refl _) _)).below hb6
  replace bx0 := keepC hb6 (keepC ((Below.refl _ _).alloc (Nat.le_refl _) _) bx0)
  replace bx1 := keepC hb6 (keepC ((Below.refl _ _).alloc (Nat.le_refl _) _) bx1)
  replace by0 := keepC hb6 (keepC ((Below.refl _ _).alloc (Nat.le_refl _) _) by0)
  have by1 : w6.cell? ⟨w5.heap.size, 0, none⟩ = some (.slice (some ⟨ax1_0, 0, none⟩) n1_0 n1_0) := (hb6.cell (by simp <;> omega)).trans (by simp)
  replace hB : Below w.heap.size w w6 := below_then (hB.alloc (by have := hB.size; simp <;> omega) _) hb6 (by have := hB.size; simp <;> omega)
  clear hb6
  replace sy0 : w4.heap.size < w6.heap.size := by omega
  replace sb1 : w.heap.size + 1 < w6.heap.size := by omega
  have sy1 : w5.heap.size < w6.heap.size := by omega
  go_wp2_with fail
  go_region_held3 (fun w' => Below w6.heap.size w6 w' ∧ w'.cell? ⟨w4.heap.size, 0, none⟩ = some (.slice (some ⟨ax0_0, 0, none⟩) n0_0 n0_0) ∧ w'.cell? ⟨w.heap.size, 0, none⟩ = some (.slice A0_0 n0_0 c0_0))
    (first | exact ⟨(Below.refl _ _).drew, by0, bx0⟩ | exact keepS2 ha1 (by assumption) | exact keepS2 ha2 (by assumption))
    ((first | (go_at_call 13; refine (toSig_any A0_0 n0_0 c0_0 x0_0 _ ?_ g0).mono ?_; exact riS (h0_0.below hB) (by assumption); rintro e wa ⟨a0, rfl, oa0, ha1⟩) | (go_at_call 16; refine (eqSig_same (some ⟨ax0_0, 0, none⟩) n0_0 n0_0 x0_0 _ _ _ ?_ ?_ (by omega)).mono ?_; exact ox0_0.rd.below (And.left (by assumption)); exact oa0.rd; rintro e w7 ⟨rfl, ha2⟩)))
  rename_i hS
  have hb7 := hS.1
  clear hS oa0 ha1 ha2
  have s7 : w6.heap.size + 0 ≤ w7.heap.size := by have := hb7.size; first | omega | (simp at this; omega)
  replace ox0_0 := ox0_0.below hb7
  replace ox1_0 := ox1_0.below hb7
  replace bx0 := keepC hb7 bx0
  replace bx1 := keepC hb7 bx1
  replace by0 := keepC hb7 by0
  replace by1 := keepC hb7 by1
  replace hB : Below w.heap.size w w7 := below_then hB hb7 (by have := hB.size; simp <;> omega)
  clear hb7
  replace sy0 : w4.heap.size < w7.heap.size := by omega
  replace sb1 : w.heap.size + 1 < w7.heap.size := by omega
  replace sy1 : w5.heap.size < w7.heap.size := by omega
  go_wp2_with fail
  go_region_held3 (fun w' => Below w7.heap.size w7 w' ∧ w'.cell? ⟨w5.heap.size, 0, none⟩ = some (.slice (some ⟨ax1_0, 0, none⟩) n1_0 n1_0) ∧ w'.cell? ⟨w.heap.size + 1, 0, none⟩ = some (.slice A1_0 n1_0 c1_0))
    (first | exact ⟨(Below.refl _ _).drew, by1, bx1⟩ | exact keepS2 ha1 (by assumption) | exact keepS2 ha2 (by assumption))
    ((first | (go_at_call 39; refine (toSubst_any A1_0 n1_0 c1_0 x1_0 _ ?_ g1).mono ?_; exact (h1_0.below hB).below (And.left (by assumption)); rintro e wa ⟨a0, rfl, oa0, ha1⟩) | (go_at_call 41; refine (eqSubst_same (some ⟨ax1_0, 0, none⟩) n1_0 n1_0 x1_0 _ _ _ ?_ ?_ (by omega)).mono ?_; exact ox1_0.rd.below (And.left (by assumption)); exact oa0.rd; rintro e w8 ⟨rfl, ha2⟩)))
  rename_i hS
  have hb8 := hS.1
  clear hS oa0 ha1 ha2
  have s8 : w7.heap.size + 0 ≤ w8.heap.size := by have := hb8.size; first | omega | (simp at this; omega)
  replace ox0_0 := ox0_0.below hb8
  replace ox1_0 := ox1_0.below hb8
  replace bx0 := keepC hb8 bx0
  replace bx1 := keepC hb8 bx1
  replace by0 := keepC hb8 by0
  replace by1 := keepC hb8 by1
  replace hB : Below w.heap.size w w8 := below_then hB hb8 (by have := hB.size; simp <;> omega)
  clear hb8
  replace sy0 : w4.heap.size < w8.heap.size := by omega
  replace sb1 : w.heap.size + 1 < w8.heap.size := by omega
  replace sy1 : w5.heap.size < w8.heap.size := by omega
  go_wp2_with fail
  go_ret
  exact ⟨rfl, hB⟩

theorem own : ownKnob Tryd.prog.godebug = none := by kernel_rfl
theorem laidOut : laidOutB Tryd.prog = true := by kernel_rfl

set_option maxRecDepth 100000 in
theorem lifted (os : Os) (started : os.Started) (H : Type) (enc : TypeId × Value → H) :
    ReturnsInHanded {} Tryd.checked os 9 .any (fun w args => (Rows.fnExactSubstTextSpec.pre enc Tryd.prog Tryd.f9 [] false w args ∧ laidMetH Tryd.prog Rows.fnExactSubstTextRow.laid w) ∧ sizedMet enc Tryd.prog Tryd.f9 (OpenSpec.ofChange Rows.fnExactSubstTextSpec) false w args) (Rows.fnExactSubstTextSpec.post enc Tryd.prog Tryd.f9 false true false false) := by
  refine returnsInHanded_of_change_and (C := Tryd.checked) (X := fun w _ => laidMetH Tryd.prog Rows.fnExactSubstTextRow.laid w) (fun _ _ _ hh h => h.of_heap hh) own started (by kernel_rfl) Tryd.func9
    (ChangeSpec.witness_shaped (enc := enc) (C := Tryd.checked) (os := os) (X := fun w _ => laidMetH Tryd.prog Rows.fnExactSubstTextRow.laid w) false (World.laidAll Tryd.prog os Rows.fnExactSubstTextRow.laid) #[.agg #[.slice none 0 0], .agg #[.slice none 0 0]] 8 (World.laidAll_os _ _ _)
      (World.shaped_of_ZipB (by kernel_rfl) (by kernel_rfl)) (by kernel_rfl) (by kernel_rfl) (by kernel_rfl)
      (by rw [MakeChecks.laidMetH_plain _ _ _ (by kernel_rfl)]; exact laidMet_laidAll _ (by kernel_rfl) (by kernel_rfl))) ?_
  intro W base args ds gs before hval0 hW hcnd _ hL _
  have hval : ∀ (j : Nat) t v, Tryd.f9.params[j]? = some t → args[j]? = some v → Value.okWide Tryd.prog W .any base t v := hval0
  have hW' := hW
  obtain ⟨p, q, hA0, hV, rfl, hfz, hnd⟩ := hW
  have hA : DataW.TrodAll enc Tryd.prog W 0 (fun _ => true) true Tryd.f9.params.toList args.toList ds p := hA0
  rw [Tryd.params9] at hA hval
  obtain ⟨v0, vs0, d0, ds0, p0, q0, hargs, rfl, rfl, h0, r0⟩ := trodAll_cons hA
  obtain ⟨v1, vs1, d1, ds1, p1, q1, rfl, rfl, rfl, h1, r1⟩ := trodAll_cons r0
  obtain ⟨rfl, rfl, rfl⟩ := trodAll_nil r1
  obtain rfl : args = #[v0, v1] := by cases args; simp_all
  obtain ⟨rfl, rfl⟩ := trodVars_none hV
  have k0 := h0
  have lt0 : ∀ x ∈ p0, x.block < W.heap.size := by obtain ⟨m, hm⟩ := k0; exact DataW.trod_lt m _ _ _ hm
  obtain ⟨A0_0, n0_0, c0_0, z0_0, rfl, R0_0, M0_0⟩ := open_one Tryd.underlying24 (by kernel_rfl) rfl rfl (by kernel_rfl) Tryd.underlying22 Tryd.underlying2 (by kernel_rfl) (hval 0 24 v0 rfl rfl) h0
  unfold maxLen at M0_0
  have k1 := h1
  have lt1 : ∀ x ∈ p1, x.block < W.heap.size := by obtain ⟨m, hm⟩ := k1; exact DataW.trod_lt m _ _ _ hm
  obtain ⟨A0_1, n0_1, c0_1, z0_1, rfl, R0_1, M0_1⟩ := open_subst Tryd.underlying56 (by kernel_rfl) rfl rfl (by kernel_rfl) Tryd.underlying54 (by kernel_rfl) Tryd.underlying22 Tryd.underlying2 (by kernel_rfl) (hval 1 56 v1 rfl rfl) h1
  unfold maxLen at M0_1
  clear hA0 hval0
  refine (walk A0_0 n0_0 c0_0 z0_0 A0_1 n0_1 c0_1 z0_1 W R0_0 R0_1 (by omega) (by omega)).mono fun e W' ⟨he, bel⟩ => ?_
  subst he
  exact ⟨_, rfl, _, _, _, [], _, [], hW', trodAll_mk1 (shut_bool Tryd.underlying4 _), (trodAll_cons_mk (Below.trod laidOut (by kernel_rfl) (of_decide_eq_true (by kernel_rfl)) k0 bel lt0) (trodAll_cons_mk (Below.trod laidOut (by kernel_rfl) (of_decide_eq_true (by kernel_rfl)) k1 bel lt1) trodAll_mk0)), rfl, bel.frame _, fun h => by cases h⟩

theorem over : Rows.fnExactSubstTextRow.holds Tryd.pinned (OpenSpec.ofChange Rows.fnExactSubstTextSpec) :=
  OpenClaim.holds_of_wide 9 Tryd.f9 rfl rfl rfl rfl rfl rfl rfl ⟨rfl, rfl, rfl, rfl, rfl⟩ rfl rfl rfl rfl rfl (by kernel_rfl) Tryd.func9 (by kernel_rfl)
    (of_decide_eq_true (by kernel_rfl)) (by unfold Func.isWrapper; first | (rw [if_pos (by decide +kernel)]; kernel_rfl) | (rw [if_neg (by decide +kernel)]; exact ⟨rfl, rfl⟩))
    (fun os started H enc _ => lifted os started H enc)

/-- The tied card, out of the row's statement and the given tie. -/
theorem proved : Rows.FnExactSubstTextCardSaid :=
  Claim7.holds_tied_plain_at .later [] [.data, .data, .data] true _ false
    over (fun _ h => by cases h) (by kernel_rfl) (fun _ h => by cases h) fnExactSubstText_row_tie rfl ⟨rfl, rfl⟩ (by kernel_rfl) rfl
    (fun f fn hf hfn => by
      obtain rfl : f = 9 := Option.some.inj ((show Tryd.prog.funcNamed Rows.fnExactSubstTextRow.func = some 9 by kernel_rfl).symm.trans hf) |>.symm
      obtain rfl : fn = Tryd.f9 := (Option.some.inj (Tryd.func9.symm.trans hfn)).symm
      exact ⟨by kernel_rfl, fun j t ht => by
        rw [Tryd.params9] at ht
        have hm : t ∈ [24, 56] := by simpa using Array.mem_of_getElem? ht
        have hall : ([24, 56].all fun u => !Tryd.prog.wantsStandIn u) = true := by kernel_rfl
        exact (show Tryd.prog.wantsStandIn t = false by simpa using List.all_eq_true.1 hall t hm)⟩)
    (by kernel_rfl)
end Go.Proofs.YtlcchafcgidpeaaDoor.lSubstText
