/- The statement FnExactTermText: whatever the input, it returns true and leaves its arguments alone. No conditions. -/
import Derived.Test.YtlcchafcgidpeaaDoorTxtT
import Derived.Test.YtlcchafcgidpeaaDoorOpen
import Derived.Test.YtlcchafcgidpeaaDoorRows
import Derived.Deep.RegionHeld3
import Derived.Test.YtlcchafcgidpeaaDoorTie
import Derived.Test.YtlcchafcgidpeaaDoorCards
import Derived.ProofKit
import Derived.Lay
import Derived.SevenTiedAt
namespace Go.Proofs.YtlcchafcgidpeaaDoor.lTermText
open Go.RowKit Go.ChangeShapes Go.WideShapes Go.ChangeAt
open Go.ChangeMaps (open_string shut_string)
set_option linter.unusedVariables false
set_option linter.unusedSimpArgs false

set_option maxHeartbeats 8000000 in
set_option maxRecDepth 100000 in
theorem walk (A0_0 : Option Addr) (n0_0 c0_0 : Nat) (x0_0 : List Int) (A1_0 : Option Addr) (n1_0 c1_0 : Nat) (x1_0 : List Int) (w : World) (h0_0 : RI w A0_0 n0_0 x0_0) (h1_0 : RI w A1_0 n1_0 x1_0) (m0_0 : n0_0 ≤ 9223372036854775807) (m1_0 : n1_0 ≤ 9223372036854775807) :
    Calls Tryd.prog 6 #[.agg #[.slice A0_0 n0_0 c0_0], .slice A1_0 n1_0 c1_0] w fun e w' => e = .returned (.bool true) ∧ Below w.heap.size w w' := by
  go_enter Tryd.func6, Tryd.ntmps6
  have hB : Below w.heap.size w w := Below.refl _ _
  by_cases q1 : n1_0 ≤ 1048576
  rotate_left
  · go_wp2_with fail
    go_ret
    exact ⟨rfl, (hB.alloc (by have := hB.size; simp <;> omega) _)⟩
  go_wp2_with fail
  refine (szSig_any A0_0 n0_0 c0_0 (1048576) _ (by omega) (by omega) m0_0).mono ?_
  rintro e w1 ⟨rfl, hb1⟩
  have s1 : w.heap.size + 1 ≤ w1.heap.size := by have := hb1.size; first | omega | (simp at this; omega)
  have bx0 : w1.cell? ⟨w.heap.size, 0, none⟩ = some (.slice A0_0 n0_0 c0_0) := (hb1.cell (by simp <;> omega)).trans (by simp)
  replace hB : Below w.heap.size w w1 := below_then (hB.alloc (by have := hB.size; simp <;> omega) _) hb1 (by have := hB.size; simp <;> omega)
  clear hb1
  have z0 := szF_bd (left := 1048576) (n0_0) (by omega)
  obtain ⟨v0, e0⟩ : ∃ v, v = szF (1048576) (n0_0) := ⟨_, rfl⟩
  rw [← e0] at z0 ⊢
  clear e0
  by_cases q0 : v0 < 0
  · go_wp2_with fail
    go_ret
    exact ⟨rfl, hB⟩
  have g0 : n0_0 ≤ 1048576 := by omega
  have g1 := q1
  go_wp2_with fail
  refine (toSig_any A0_0 n0_0 c0_0 x0_0 _ (h0_0.below hB) g0).mono ?_
  rintro e w2 ⟨as0_0, rfl, os0_0, hb2⟩
  have s2 : w1.heap.size + 0 ≤ w2.heap.size := by have := hb2.size; first | omega | (simp at this; omega)
  replace bx0 := keepC hb2 bx0
  replace hB : Below w.heap.size w w2 := below_then hB hb2 (by have := hB.size; simp <;> omega)
  clear hb2
  go_wp2_with fail
  refine (toInt64S_any A1_0 n1_0 c1_0 x1_0 _ (h1_0.below hB) g1).mono ?_
  rintro e w3 ⟨as1_0, rfl, os1_0, hb3⟩
  have s3 : w2.heap.size + 0 ≤ w3.heap.size := by have := hb3.size; first | omega | (simp at this; omega)
  replace os0_0 := os0_0.below hb3
  replace bx0 := keepC hb3 bx0
  replace hB : Below w.heap.size w w3 := below_then hB hb3 (by have := hB.size; simp <;> omega)
  clear hb3
  go_wp2_with fail
  refine (S_TermText (some ⟨as0_0, 0, none⟩) n0_0 n0_0 x0_0 (some ⟨as1_0, 0, none⟩) n1_0 n1_0 x1_0 _ os0_0.rd os1_0.rd g0 g1).mono ?_
  rintro e w4 ⟨rfl, hb4⟩
  have s4 : w3.heap.size + 0 ≤ w4.heap.size := by have := hb4.size; first | omega | (simp at this; omega)
  replace os0_0 := os0_0.below hb4
  replace os1_0 := os1_0.below hb4
  replace bx0 := keepC hb4 bx0
  replace hB : Below w.heap.size w w4 := below_then hB hb4 (by have := hB.size; simp <;> omega)
  clear hb4
  clear os0_0
  clear os1_0
  go_wp2_with fail
  refine (toSig_any A0_0 n0_0 c0_0 x0_0 _ (h0_0.below hB) g0).mono ?_
  rintro e w5 ⟨ax0_0, rfl, ox0_0, hb5⟩
  have s5 : w4.heap.size + 0 ≤ w5.heap.size := by have := hb5.size; first | omega | (simp at this; omega)
  replace bx0 := keepC hb5 bx0
  replace hB : Below w.heap.size w w5 := below_then hB hb5 (by have := hB.size; simp <;> omega)
  clear hb5
  go_wp2_with fail
  refine (toInt64S_any A1_0 n1_0 c1_0 x1_0 _ (h1_0.below (hB.alloc (by have := hB.size; simp <;> omega) _)) g1).mono ?_
  rintro e w6 ⟨ax1_0, rfl, ox1_0, hb6⟩
  have s6 : w5.heap.size + 1 ≤ w6.heap.size := by have := hb6.size; first | omega | (simp at this; omega)
  replace ox0_0 := (ox0_0.below ((Below.refl _ _).alloc (Nat.le_refl _) _)).below hb6
  replace bx0 := keepC hb6 (keepC ((Below.refl _ _).alloc (Nat.le_refl _) _) bx0)
  have by0 : w6.cell? ⟨w5.heap.size, 0, none⟩ = some (.slice (some ⟨ax0_0, 0, none⟩) n0_0 n0_0) := (hb6.cell (by simp <;> omega)).trans (by simp)
  replace hB : Below w.heap.size w w6 := below_then (hB.alloc (by have := hB.size; simp <;> omega) _) hb6 (by have := hB.size; simp <;> omega)
  clear hb6
  go_wp2_with fail
  refine (I_TermText (some ⟨ax0_0, 0, none⟩) n0_0 n0_0 x0_0 (some ⟨ax1_0, 0, none⟩) n1_0 n1_0 x1_0 _ ox0_0.rd ox1_0.rd g0 g1).mono ?_
  rintro e w7 ⟨rfl, hb7⟩
  have s7 : w6.heap.size + 0 ≤ w7.heap.size := by have := hb7.size; first | omega | (simp at this; omega)
  replace ox0_0 := ox0_0.below hb7
  replace ox1_0 := ox1_0.below hb7
  replace bx0 := keepC hb7 bx0
  replace by0 := keepC hb7 by0
  replace hB : Below w.heap.size w w7 := below_then hB hb7 (by have := hB.size; simp <;> omega)
  clear hb7
  go_wp2_with fail
  go_region_held3 (fun w' => Below w7.heap.size w7 w' ∧ w'.cell? ⟨w5.heap.size, 0, none⟩ = some (.slice (some ⟨ax0_0, 0, none⟩) n0_0 n0_0) ∧ w'.cell? ⟨w.heap.size, 0, none⟩ = some (.slice A0_0 n0_0 c0_0))
    (first | exact ⟨(Below.refl _ _).drew, by0, bx0⟩ | exact keepS2 ha1 (by assumption) | exact keepS2 ha2 (by assumption))
    ((first | (go_at_call 13; refine (toSig_any A0_0 n0_0 c0_0 x0_0 _ ?_ g0).mono ?_; exact riS (h0_0.below hB) (by assumption); rintro e wa ⟨a0, rfl, oa0, ha1⟩) | (go_at_call 16; refine (eqSig_same (some ⟨ax0_0, 0, none⟩) n0_0 n0_0 x0_0 _ _ _ ?_ ?_ (by omega)).mono ?_; exact ox0_0.rd.below (And.left (by assumption)); exact oa0.rd; rintro e w8 ⟨rfl, ha2⟩)))
  rename_i hS
  have hb8 := hS.1
  clear hS oa0 ha1 ha2
  have s8 : w7.heap.size + 0 ≤ w8.heap.size := by have := hb8.size; first | omega | (simp at this; omega)
  replace ox0_0 := ox0_0.below hb8
  replace ox1_0 := ox1_0.below hb8
  replace bx0 := keepC hb8 bx0
  replace by0 := keepC hb8 by0
  replace hB : Below w.heap.size w w8 := below_then hB hb8 (by have := hB.size; simp <;> omega)
  clear hb8
  go_wp2_with fail
  refine (toInt64S_any A1_0 n1_0 c1_0 x1_0 _ (h1_0.below hB) g1).mono ?_
  rintro e w9 ⟨ar1_0, rfl, or1_0, hb9⟩
  have s9 : w8.heap.size + 0 ≤ w9.heap.size := by have := hb9.size; first | omega | (simp at this; omega)
  replace ox0_0 := ox0_0.below hb9
  replace ox1_0 := ox1_0.below hb9
  replace bx0 := keepC hb9 bx0
  replace by0 := keepC hb9 by0
  replace hB : Below w.heap.size w w9 := below_then hB hb9 (by have := hB.size; simp <;> omega)
  clear hb9
  go_wp2_with fail
  refine (eqInt64S_any (some ⟨ax1_0, 0, none⟩) n1_0 n1_0 x1_0 (some ⟨ar1_0, 0, none⟩) n1_0 n1_0 x1_0 _ ox1_0.rd or1_0.rd (by omega)).mono ?_
  rintro e w10 ⟨rfl, hb10⟩
  have s10 : w9.heap.size + 0 ≤ w10.heap.size := by have := hb10.size; first | omega | (simp at this; omega)
  replace ox0_0 := ox0_0.below hb10
  replace ox1_0 := ox1_0.below hb10
  replace or1_0 := or1_0.below hb10
  replace bx0 := keepC hb10 bx0
  replace by0 := keepC hb10 by0
  replace hB : Below w.heap.size w w10 := below_then hB hb10 (by have := hB.size; simp <;> omega)
  clear hb10
  clear or1_0
  go_wp2_with fail
  go_ret
  exact ⟨rfl, hB⟩

theorem own : ownKnob Tryd.prog.godebug = none := by kernel_rfl
theorem laidOut : laidOutB Tryd.prog = true := by kernel_rfl

set_option maxRecDepth 100000 in
theorem lifted (os : Os) (started : os.Started) (H : Type) (enc : TypeId × Value → H) :
    ReturnsInHanded {} Tryd.checked os 6 .any (fun w args => (Rows.fnExactTermTextSpec.pre enc Tryd.prog Tryd.f6 [] false w args ∧ laidMetH Tryd.prog Rows.fnExactTermTextRow.laid w) ∧ sizedMet enc Tryd.prog Tryd.f6 (OpenSpec.ofChange Rows.fnExactTermTextSpec) false w args) (Rows.fnExactTermTextSpec.post enc Tryd.prog Tryd.f6 false true false false) := by
  refine returnsInHanded_of_change_and (C := Tryd.checked) (X := fun w _ => laidMetH Tryd.prog Rows.fnExactTermTextRow.laid w) (fun _ _ _ hh h => h.of_heap hh) own started (by kernel_rfl) Tryd.func6
    (ChangeSpec.witness_shaped (enc := enc) (C := Tryd.checked) (os := os) (X := fun w _ => laidMetH Tryd.prog Rows.fnExactTermTextRow.laid w) false (World.laidAll Tryd.prog os Rows.fnExactTermTextRow.laid) #[.agg #[.slice none 0 0], .slice none 0 0] 8 (World.laidAll_os _ _ _)
      (World.shaped_of_ZipB (by kernel_rfl) (by kernel_rfl)) (by kernel_rfl) (by kernel_rfl) (by kernel_rfl)
      (by rw [MakeChecks.laidMetH_plain _ _ _ (by kernel_rfl)]; exact laidMet_laidAll _ (by kernel_rfl) (by kernel_rfl))) ?_
  intro W base args ds gs before hval0 hW hcnd _ hL _
  have hval : ∀ (j : Nat) t v, Tryd.f6.params[j]? = some t → args[j]? = some v → Value.okWide Tryd.prog W .any base t v := hval0
  have hW' := hW
  obtain ⟨p, q, hA0, hV, rfl, hfz, hnd⟩ := hW
  have hA : DataW.TrodAll enc Tryd.prog W 0 (fun _ => true) true Tryd.f6.params.toList args.toList ds p := hA0
  rw [Tryd.params6] at hA hval
  obtain ⟨v0, vs0, d0, ds0, p0, q0, hargs, rfl, rfl, h0, r0⟩ := trodAll_cons hA
  obtain ⟨v1, vs1, d1, ds1, p1, q1, rfl, rfl, rfl, h1, r1⟩ := trodAll_cons r0
  obtain ⟨rfl, rfl, rfl⟩ := trodAll_nil r1
  obtain rfl : args = #[v0, v1] := by cases args; simp_all
  obtain ⟨rfl, rfl⟩ := trodVars_none hV
  have k0 := h0
  have lt0 : ∀ x ∈ p0, x.block < W.heap.size := by obtain ⟨m, hm⟩ := k0; exact DataW.trod_lt m _ _ _ hm
  obtain ⟨A0_0, n0_0, c0_0, z0_0, rfl, R0_0, M0_0⟩ := open_one Tryd.underlying24 (by kernel_rfl) rfl rfl (by kernel_rfl) Tryd.underlying22 Tryd.underlying2 (by kernel_rfl) (hval 0 24 v0 rfl rfl) h0
  unfold maxLen at M0_0
  have k1 := h1
  have lt1 : ∀ x ∈ p1, x.block < W.heap.size := by obtain ⟨m, hm⟩ := k1; exact DataW.trod_lt m _ _ _ hm
  obtain ⟨A0_1, n0_1, c0_1, z0_1, rfl, R0_1, M0_1⟩ := open_slice64 Tryd.underlying22 Tryd.underlying2 (by kernel_rfl) (hval 1 22 v1 rfl rfl) h1
  unfold maxLen at M0_1
  clear hA0 hval0
  refine (walk A0_0 n0_0 c0_0 z0_0 A0_1 n0_1 c0_1 z0_1 W R0_0 R0_1 (by omega) (by omega)).mono fun e W' ⟨he, bel⟩ => ?_
  subst he
  exact ⟨_, rfl, _, _, _, [], _, [], hW', trodAll_mk1 (shut_bool Tryd.underlying4 _), (trodAll_cons_mk (Below.trod laidOut (by kernel_rfl) (of_decide_eq_true (by kernel_rfl)) k0 bel lt0) (trodAll_cons_mk (Below.trod laidOut (by kernel_rfl) (of_decide_eq_true (by kernel_rfl)) k1 bel lt1) trodAll_mk0)), rfl, bel.frame _, fun h => by cases h⟩

theorem over : Rows.fnExactTermTextRow.holds Tryd.pinned (OpenSpec.ofChange Rows.fnExactTermTextSpec) :=
  OpenClaim.holds_of_wide 6 Tryd.f6 rfl rfl rfl rfl rfl rfl rfl ⟨rfl, rfl, rfl, rfl, rfl⟩ rfl rfl rfl rfl rfl (by kernel_rfl) Tryd.func6 (by kernel_rfl)
    (of_decide_eq_true (by kernel_rfl)) (by unfold Func.isWrapper; first | (rw [if_pos (by decide +kernel)]; kernel_rfl) | (rw [if_neg (by decide +kernel)]; exact ⟨rfl, rfl⟩))
    (fun os started H enc _ => lifted os started H enc)

/-- The tied card, out of the row's statement and the given tie. -/
theorem proved : Rows.FnExactTermTextCardSaid :=
  Claim7.holds_tied_plain_at .later [] [.data, .data, .data] true _ false
    over (fun _ h => by cases h) (by kernel_rfl) (fun _ h => by cases h) fnExactTermText_row_tie rfl ⟨rfl, rfl⟩ (by kernel_rfl) rfl
    (fun f fn hf hfn => by
      obtain rfl : f = 6 := Option.some.inj ((show Tryd.prog.funcNamed Rows.fnExactTermTextRow.func = some 6 by kernel_rfl).symm.trans hf) |>.symm
      obtain rfl : fn = Tryd.f6 := (Option.some.inj (Tryd.func6.symm.trans hfn)).symm
      exact ⟨by kernel_rfl, fun j t ht => by
        rw [Tryd.params6] at ht
        have hm : t ∈ [24, 22] := by simpa using Array.mem_of_getElem? ht
        have hall : ([24, 22].all fun u => !Tryd.prog.wantsStandIn u) = true := by kernel_rfl
        exact (show Tryd.prog.wantsStandIn t = false by simpa using List.all_eq_true.1 hall t hm)⟩)
    (by kernel_rfl)
end Go.Proofs.YtlcchafcgidpeaaDoor.lTermText
