/- The statement FnExactLessTerm: whatever the input, it returns true and leaves its arguments alone. No conditions. -/
import Derived.Test.YtlleldidkchicaaCmp
import Derived.Test.YtlleldidkchicaaOpen
import Derived.Test.YtlleldidkchicaaRows
import Derived.Deep.RegionHeld3
namespace Go.Proofs.Ytlleldidkchicaa.lLessTerm
open Go.RowKit Go.ChangeShapes Go.WideShapes Go.ChangeAt
open Go.ChangeMaps (open_string shut_string)
set_option linter.unusedVariables false

set_option maxHeartbeats 2000000 in
set_option maxRecDepth 100000 in
theorem walk (A0 : Option Addr) (n0 c0 : Nat) (x0 : List Int) (A1 : Option Addr) (n1 c1 : Nat) (x1 : List Int) (w : World) (h0 : RI w A0 n0 x0) (h1 : RI w A1 n1 x1) (m0 : n0 ≤ 9223372036854775807) (m1 : n1 ≤ 9223372036854775807) :
    Calls Try.prog 6 #[.slice A0 n0 c0, .slice A1 n1 c1] w fun e w' => e = .returned (.bool true) ∧ Below w.heap.size w w' := by
  go_enter Try.func6, Try.ntmps6
  by_cases q0 : n0 ≤ 1048576
  rotate_left
  · go_wp2_with fail
    go_ret
    exact ⟨rfl, (Below.refl _ _)⟩
  by_cases q1 : n1 ≤ 1048576
  rotate_left
  · go_wp2_with fail
    go_ret
    exact ⟨rfl, (Below.refl _ _)⟩
  have g0 : n0 ≤ 1048576 := q0
  have g1 : n1 ≤ 1048576 := q1
  go_wp2_with fail
  refine (toInt64S_any A0 n0 c0 x0 _ h0 g0).mono ?_
  rintro e w1 ⟨as0, rfl, os0, hb1⟩
  have hB : Below w.heap.size w w1 := hb1
  replace h0 := h0.below hb1
  replace h1 := h1.below hb1
  clear hb1
  go_wp2_with fail
  refine (toInt64S_any A1 n1 c1 x1 _ h1 g1).mono ?_
  rintro e w2 ⟨as1, rfl, os1, hb2⟩
  replace hB := below_then hB hb2 (by have := hB.size; simp <;> omega)
  replace h0 := h0.below hb2
  replace h1 := h1.below hb2
  replace os0 := os0.below hb2
  clear hb2
  go_wp2_with fail
  refine (S_LessTerm (some ⟨as0, 0, none⟩) n0 n0 x0 (some ⟨as1, 0, none⟩) n1 n1 x1 _ os0.ri os1.ri g0 g1).mono ?_
  rintro e w3 ⟨rfl, hb3⟩
  replace hB := below_then hB hb3 (by have := hB.size; simp <;> omega)
  replace h0 := h0.below hb3
  replace h1 := h1.below hb3
  replace os0 := os0.below hb3
  replace os1 := os1.below hb3
  clear hb3
  clear os0
  clear os1
  go_wp2_with fail
  refine (toInt64S_any A0 n0 c0 x0 _ h0 g0).mono ?_
  rintro e w4 ⟨ax0, rfl, ox0, hb4⟩
  replace hB := below_then hB hb4 (by have := hB.size; simp <;> omega)
  replace h0 := h0.below hb4
  replace h1 := h1.below hb4
  clear hb4
  go_wp2_with fail
  refine (toInt64S_any A1 n1 c1 x1 _ h1 g1).mono ?_
  rintro e w5 ⟨ax1, rfl, ox1, hb5⟩
  replace hB := below_then hB hb5 (by have := hB.size; simp <;> omega)
  replace h0 := h0.below hb5
  replace h1 := h1.below hb5
  replace ox0 := ox0.below hb5
  clear hb5
  go_wp2_with fail
  refine (I_LessTerm (some ⟨ax0, 0, none⟩) n0 n0 x0 (some ⟨ax1, 0, none⟩) n1 n1 x1 _ ox0.ri ox1.ri g0 g1).mono ?_
  rintro e w6 ⟨rfl, hb6⟩
  replace hB := below_then hB hb6 (by have := hB.size; simp <;> omega)
  replace h0 := h0.below hb6
  replace h1 := h1.below hb6
  replace ox0 := ox0.below hb6
  replace ox1 := ox1.below hb6
  clear hb6
  go_wp2_with fail
  refine (toInt64S_any A0 n0 c0 x0 _ h0 g0).mono ?_
  rintro e w7 ⟨ar0, rfl, or0, hb7⟩
  replace hB := below_then hB hb7 (by have := hB.size; simp <;> omega)
  replace h0 := h0.below hb7
  replace h1 := h1.below hb7
  replace ox0 := ox0.below hb7
  replace ox1 := ox1.below hb7
  clear hb7
  go_wp2_with fail
  refine (eqInt64S_any (some ⟨ax0, 0, none⟩) n0 n0 x0 (some ⟨ar0, 0, none⟩) n0 n0 x0 _ ox0.ri or0.ri (by omega)).mono ?_
  rintro e w8 ⟨rfl, hb8⟩
  replace hB := below_then hB hb8 (by have := hB.size; simp <;> omega)
  replace h0 := h0.below hb8
  replace h1 := h1.below hb8
  replace ox0 := ox0.below hb8
  replace ox1 := ox1.below hb8
  clear hb8
  clear or0
  go_wp2_with fail
  refine (toInt64S_any A1 n1 c1 x1 _ h1 g1).mono ?_
  rintro e w9 ⟨ar1, rfl, or1, hb9⟩
  replace hB := below_then hB hb9 (by have := hB.size; simp <;> omega)
  replace h0 := h0.below hb9
  replace h1 := h1.below hb9
  replace ox0 := ox0.below hb9
  replace ox1 := ox1.below hb9
  clear hb9
  go_wp2_with fail
  refine (eqInt64S_any (some ⟨ax1, 0, none⟩) n1 n1 x1 (some ⟨ar1, 0, none⟩) n1 n1 x1 _ ox1.ri or1.ri (by omega)).mono ?_
  rintro e w10 ⟨rfl, hb10⟩
  replace hB := below_then hB hb10 (by have := hB.size; simp <;> omega)
  replace h0 := h0.below hb10
  replace h1 := h1.below hb10
  replace ox0 := ox0.below hb10
  replace ox1 := ox1.below hb10
  clear hb10
  clear or1
  go_wp2_with fail
  go_ret
  exact ⟨rfl, hB⟩

theorem own : ownKnob Try.prog.godebug = none := by kernel_rfl
theorem laidOut : laidOutB Try.prog = true := by kernel_rfl

set_option maxRecDepth 100000 in
theorem lifted (os : Os) (started : os.Started) (H : Type) (enc : TypeId × Value → H) :
    ReturnsInHanded {} Try.checked os 6 .any (Rows.fnExactLessTermSpec.pre6 enc Try.prog Try.f6 Rows.fnExactLessTermRow.domain false) (Rows.fnExactLessTermSpec.post enc Try.prog Try.f6 false true false false) := by
  refine returnsInHanded_of_change (C := Try.checked) own started (by kernel_rfl) Try.func6
    (ChangeSpec.witness6 (enc := enc) (C := Try.checked) false ⟨#[], #[.slice none 0 0, .slice none 0 0], []⟩ 8 (by kernel_rfl) (by kernel_rfl) (by kernel_rfl) (by kernel_rfl)) ?_
  intro W base args ds gs before hval0 hW hcnd _
  have hval : ∀ (j : Nat) t v, Try.f6.params[j]? = some t → args[j]? = some v → Value.okWide Try.prog W .any base t v := hval0
  have hW' := hW
  obtain ⟨p, q, hA0, hV, rfl, hfz, hnd⟩ := hW
  have hA : DataW.TrodAll enc Try.prog W 0 (fun _ => true) true Try.f6.params.toList args.toList ds p := hA0
  rw [Try.params6] at hA hval
  obtain ⟨v0, vs0, d0, ds0, p0, q0, hargs, rfl, rfl, h0, r0⟩ := trodAll_cons hA
  obtain ⟨v1, vs1, d1, ds1, p1, q1, rfl, rfl, rfl, h1, r1⟩ := trodAll_cons r0
  obtain ⟨rfl, rfl, rfl⟩ := trodAll_nil r1
  obtain rfl : args = #[v0, v1] := by cases args; simp_all
  obtain ⟨rfl, rfl⟩ := trodVars_none hV
  have k0 := h0
  have lt0 : ∀ x ∈ p0, x.block < W.heap.size := by obtain ⟨m, hm⟩ := k0; exact DataW.trod_lt m _ _ _ hm
  obtain ⟨A0, n0, c0, z0, rfl, R0, M0⟩ := open_slice64 Try.underlying23 Try.underlying2 (by kernel_rfl) (hval 0 23 v0 rfl rfl) h0
  unfold maxLen at M0
  have k1 := h1
  have lt1 : ∀ x ∈ p1, x.block < W.heap.size := by obtain ⟨m, hm⟩ := k1; exact DataW.trod_lt m _ _ _ hm
  obtain ⟨A1, n1, c1, z1, rfl, R1, M1⟩ := open_slice64 Try.underlying23 Try.underlying2 (by kernel_rfl) (hval 1 23 v1 rfl rfl) h1
  unfold maxLen at M1
  clear hA0 hval0
  refine (walk A0 n0 c0 z0 A1 n1 c1 z1 W R0 R1 (by omega) (by omega)).mono fun e W' ⟨he, bel⟩ => ?_
  subst he
  exact ⟨_, rfl, _, _, _, [], _, [], hW', trodAll_mk1 (shut_bool Try.underlying4 _), (trodAll_cons_mk (Below.trod laidOut (by kernel_rfl) (of_decide_eq_true (by kernel_rfl)) k0 bel lt0) (trodAll_cons_mk (Below.trod laidOut (by kernel_rfl) (of_decide_eq_true (by kernel_rfl)) k1 bel lt1) trodAll_mk0)), rfl, bel.frame _, fun h => by cases h⟩

theorem over : Rows.fnExactLessTermRow.holds Try.pinned (OpenSpec.ofChange Rows.fnExactLessTermSpec) :=
  OpenClaim.holds_of_wide 6 Try.f6 rfl rfl rfl rfl rfl rfl rfl ⟨rfl, rfl, rfl, rfl, rfl⟩ rfl rfl rfl rfl rfl (by kernel_rfl) Try.func6 (by kernel_rfl)
    (of_decide_eq_true (by kernel_rfl)) (by unfold Func.isWrapper; first | (rw [if_pos (by decide +kernel)]; kernel_rfl) | (rw [if_neg (by decide +kernel)]; exact ⟨rfl, rfl⟩))
    (fun os started H enc _ => lifted os started H enc)

theorem proved : Rows.FnExactLessTermSaid := over
end Go.Proofs.Ytlleldidkchicaa.lLessTerm
