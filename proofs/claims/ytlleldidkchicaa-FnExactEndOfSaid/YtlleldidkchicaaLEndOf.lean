/- The statement FnExactEndOf: whatever the input, it returns true and leaves its arguments alone. No conditions. -/
import Derived.Test.YtlleldidkchicaaPlace
import Derived.Test.YtlleldidkchicaaOpen
import Derived.Test.YtlleldidkchicaaRows
import Derived.Deep.RegionHeld3
namespace Go.Proofs.Ytlleldidkchicaa.lEndOf
open Go.RowKit Go.ChangeShapes Go.WideShapes Go.ChangeAt
open Go.ChangeMaps (open_string shut_string)
set_option linter.unusedVariables false

set_option maxHeartbeats 2000000 in
set_option maxRecDepth 100000 in
theorem walk (A0 : Option Addr) (n0 c0 : Nat) (x0 : List Int) (A1 : Option Addr) (n1 c1 : Nat) (x1 : List Int) (p2 : Int) (w : World) (h0 : RI w A0 n0 x0) (h1 : RI w A1 n1 x1) (m0 : n0 ≤ 9223372036854775807) (m1 : n1 ≤ 9223372036854775807) :
    Calls Try.prog 11 #[.agg #[.slice A0 n0 c0], .slice A1 n1 c1, .int .i64 p2] w fun e w' => e = .returned (.bool true) ∧ Below w.heap.size w w' := by
  go_enter Try.func11, Try.ntmps11
  by_cases q1 : n1 ≤ 1048576
  rotate_left
  · go_wp2_with fail
    go_ret
    exact ⟨rfl, ((Below.refl _ _).alloc (Nat.le_refl _) _)⟩
  go_wp2_with fail
  refine (szSig_any A0 n0 c0 (1048576) _ (by omega) (by omega) m0).mono ?_
  rintro e w1 ⟨rfl, hb1⟩
  have hB : Below w.heap.size w w1 := below_then ((Below.refl _ _).alloc (Nat.le_refl _) _) hb1 (by simp <;> omega)
  replace h0 := (h0.alloc _).below hb1
  replace h1 := (h1.alloc _).below hb1
  have bx0 : w1.cell? ⟨w.heap.size, 0, none⟩ = some (.slice A0 n0 c0) := (hb1.cell (by simp <;> omega)).trans (by simp)
  clear hb1
  have z0 := szF_bd (left := 1048576) n0 (by omega)
  by_cases q0 : szF (1048576) n0 < 0
  · go_wp2_with fail
    go_ret
    exact ⟨rfl, hB⟩
  obtain ⟨v0, e0⟩ : ∃ v, v = szF (1048576) n0 := ⟨_, rfl⟩
  rw [← e0] at z0 q0 ⊢
  clear e0
  have g0 : n0 ≤ 1048576 := by omega
  have g1 : n1 ≤ 1048576 := q1
  go_wp2_with fail
  refine (toSig_any A0 n0 c0 x0 _ h0 g0).mono ?_
  rintro e w2 ⟨as0, rfl, os0, hb2⟩
  replace hB := below_then hB hb2 (by have := hB.size; simp <;> omega)
  replace h0 := h0.below hb2
  replace h1 := h1.below hb2
  replace bx0 := keepC hb2 bx0
  clear hb2
  go_wp2_with fail
  refine (toInt64S_any A1 n1 c1 x1 _ h1 g1).mono ?_
  rintro e w3 ⟨as1, rfl, os1, hb3⟩
  replace hB := below_then hB hb3 (by have := hB.size; simp <;> omega)
  replace h0 := h0.below hb3
  replace h1 := h1.below hb3
  replace os0 := os0.below hb3
  replace bx0 := keepC hb3 bx0
  clear hb3
  go_wp2_with fail
  refine (S_EndOf (some ⟨as0, 0, none⟩) n0 n0 x0 (some ⟨as1, 0, none⟩) n1 n1 x1 p2 _ os0.ri os1.ri g0 g1).mono ?_
  rintro e w4 ⟨rfl, hb4⟩
  replace hB := below_then hB hb4 (by have := hB.size; simp <;> omega)
  replace h0 := h0.below hb4
  replace h1 := h1.below hb4
  replace os0 := os0.below hb4
  replace os1 := os1.below hb4
  replace bx0 := keepC hb4 bx0
  clear hb4
  clear os0
  clear os1
  go_wp2_with fail
  refine (toSig_any A0 n0 c0 x0 _ h0 g0).mono ?_
  rintro e w5 ⟨ax0, rfl, ox0, hb5⟩
  replace hB := below_then hB hb5 (by have := hB.size; simp <;> omega)
  replace h0 := h0.below hb5
  replace h1 := h1.below hb5
  replace bx0 := keepC hb5 bx0
  clear hb5
  go_wp2_with fail
  refine (toInt64S_any A1 n1 c1 x1 _ (h1.alloc _) g1).mono ?_
  rintro e w6 ⟨ax1, rfl, ox1, hb6⟩
  replace hB := below_then (hB.alloc (by have := hB.size; simp <;> omega) _) hb6 (by have := hB.size; simp <;> omega)
  replace h0 := (h0.alloc _).below hb6
  replace h1 := (h1.alloc _).below hb6
  replace ox0 := (ox0.below ((Below.refl _ _).alloc (Nat.le_refl _) _)).below hb6
  replace bx0 := keepC hb6 (keepC ((Below.refl _ _).alloc (Nat.le_refl _) _) bx0)
  have by0 : w6.cell? ⟨w5.heap.size, 0, none⟩ = some (.slice (some ⟨ax0, 0, none⟩) n0 n0) := (hb6.cell (by simp <;> omega)).trans (by simp)
  clear hb6
  go_wp2_with fail
  refine (I_EndOf (some ⟨ax0, 0, none⟩) n0 n0 x0 (some ⟨ax1, 0, none⟩) n1 n1 x1 p2 _ ox0.ri ox1.ri g0 g1).mono ?_
  rintro e w7 ⟨rfl, hb7⟩
  replace hB := below_then hB hb7 (by have := hB.size; simp <;> omega)
  replace h0 := h0.below hb7
  replace h1 := h1.below hb7
  replace ox0 := ox0.below hb7
  replace ox1 := ox1.below hb7
  replace bx0 := keepC hb7 bx0
  replace by0 := keepC hb7 by0
  clear hb7
  go_wp2_with fail
  go_region_held3 (fun w' => Below w7.heap.size w7 w' ∧ w'.cell? ⟨w5.heap.size, 0, none⟩ = some (.slice (some ⟨ax0, 0, none⟩) n0 n0) ∧ w'.cell? ⟨w.heap.size, 0, none⟩ = some (.slice A0 n0 c0))
    (first | exact ⟨(Below.refl _ _).drew, by0, bx0⟩ | exact keepS2 ha1 (by assumption) | exact keepS2 ha2 (by assumption))
    ((first | (go_at_call 21; refine (toSig_any A0 n0 c0 x0 _ ?_ g0).mono ?_; exact riS h0 (by assumption); rintro e wa ⟨ga, rfl, oa, ha1⟩) | (go_at_call 23; refine (eqSig_any (some ⟨ax0, 0, none⟩) n0 n0 x0 _ n0 n0 x0 _ ?_ ?_ (by omega)).mono ?_; exact riS ox0.ri (by assumption); exact oa.ri; rintro e w8 ⟨rfl, ha2⟩)))
  rename_i hS
  obtain ⟨hb8, _, _⟩ := hS
  clear oa ha1 ha2
  replace hB := below_then hB hb8 (by have := hB.size; simp <;> omega)
  replace h0 := h0.below hb8
  replace h1 := h1.below hb8
  replace ox0 := ox0.below hb8
  replace ox1 := ox1.below hb8
  replace bx0 := keepC hb8 bx0
  replace by0 := keepC hb8 by0
  clear hb8
  go_wp2_with fail
  refine (toInt64S_any A1 n1 c1 x1 _ h1 g1).mono ?_
  rintro e w9 ⟨ar1, rfl, or1, hb9⟩
  replace hB := below_then hB hb9 (by have := hB.size; simp <;> omega)
  replace h0 := h0.below hb9
  replace h1 := h1.below hb9
  replace ox0 := ox0.below hb9
  replace ox1 := ox1.below hb9
  replace bx0 := keepC hb9 bx0
  replace by0 := keepC hb9 by0
  clear hb9
  go_wp2_with fail
  refine (eqInt64S_any (some ⟨ax1, 0, none⟩) n1 n1 x1 (some ⟨ar1, 0, none⟩) n1 n1 x1 _ ox1.ri or1.ri (by omega)).mono ?_
  rintro e w10 ⟨rfl, hb10⟩
  replace hB := below_then hB hb10 (by have := hB.size; simp <;> omega)
  replace h0 := h0.below hb10
  replace h1 := h1.below hb10
  replace ox0 := ox0.below hb10
  replace ox1 := ox1.below hb10
  replace bx0 := keepC hb10 bx0
  replace by0 := keepC hb10 by0
  clear hb10
  clear or1
  go_wp2_with fail
  go_ret
  exact ⟨rfl, hB⟩

theorem own : ownKnob Try.prog.godebug = none := by kernel_rfl
theorem laidOut : laidOutB Try.prog = true := by kernel_rfl

set_option maxRecDepth 100000 in
theorem lifted (os : Os) (started : os.Started) (H : Type) (enc : TypeId × Value → H) :
    ReturnsInHanded {} Try.checked os 11 .any (Rows.fnExactEndOfSpec.pre6 enc Try.prog Try.f11 Rows.fnExactEndOfRow.domain false) (Rows.fnExactEndOfSpec.post enc Try.prog Try.f11 false true false false) := by
  refine returnsInHanded_of_change (C := Try.checked) own started (by kernel_rfl) Try.func11
    (ChangeSpec.witness6 (enc := enc) (C := Try.checked) false ⟨#[], #[.agg #[.slice none 0 0], .slice none 0 0, .int .i64 0], []⟩ 8 (by kernel_rfl) (by kernel_rfl) (by kernel_rfl) (by kernel_rfl)) ?_
  intro W base args ds gs before hval0 hW hcnd _
  have hval : ∀ (j : Nat) t v, Try.f11.params[j]? = some t → args[j]? = some v → Value.okWide Try.prog W .any base t v := hval0
  have hW' := hW
  obtain ⟨p, q, hA0, hV, rfl, hfz, hnd⟩ := hW
  have hA : DataW.TrodAll enc Try.prog W 0 (fun _ => true) true Try.f11.params.toList args.toList ds p := hA0
  rw [Try.params11] at hA hval
  obtain ⟨v0, vs0, d0, ds0, p0, q0, hargs, rfl, rfl, h0, r0⟩ := trodAll_cons hA
  obtain ⟨v1, vs1, d1, ds1, p1, q1, rfl, rfl, rfl, h1, r1⟩ := trodAll_cons r0
  obtain ⟨v2, vs2, d2, ds2, p2, q2, rfl, rfl, rfl, h2, r2⟩ := trodAll_cons r1
  obtain ⟨rfl, rfl, rfl⟩ := trodAll_nil r2
  obtain rfl : args = #[v0, v1, v2] := by cases args; simp_all
  obtain ⟨rfl, rfl⟩ := trodVars_none hV
  have k0 := h0
  have lt0 : ∀ x ∈ p0, x.block < W.heap.size := by obtain ⟨m, hm⟩ := k0; exact DataW.trod_lt m _ _ _ hm
  obtain ⟨A0, n0, c0, z0, rfl, R0, M0⟩ := open_one Try.underlying27 (by kernel_rfl) rfl rfl (by kernel_rfl) Try.underlying23 Try.underlying2 (by kernel_rfl) (hval 0 27 v0 rfl rfl) h0
  unfold maxLen at M0
  have k1 := h1
  have lt1 : ∀ x ∈ p1, x.block < W.heap.size := by obtain ⟨m, hm⟩ := k1; exact DataW.trod_lt m _ _ _ hm
  obtain ⟨A1, n1, c1, z1, rfl, R1, M1⟩ := open_slice64 Try.underlying23 Try.underlying2 (by kernel_rfl) (hval 1 23 v1 rfl rfl) h1
  unfold maxLen at M1
  obtain ⟨a2, rfl, rfl, rfl, w2⟩ := open_int Try.underlying2 (hval 2 2 v2 rfl rfl) h2
  clear hA0 hval0
  refine (walk A0 n0 c0 z0 A1 n1 c1 z1 a2 W R0 R1 (by omega) (by omega)).mono fun e W' ⟨he, bel⟩ => ?_
  subst he
  exact ⟨_, rfl, _, _, _, [], _, [], hW', trodAll_mk1 (shut_bool Try.underlying4 _), (trodAll_cons_mk (Below.trod laidOut (by kernel_rfl) (of_decide_eq_true (by kernel_rfl)) k0 bel lt0) (trodAll_cons_mk (Below.trod laidOut (by kernel_rfl) (of_decide_eq_true (by kernel_rfl)) k1 bel lt1) (trodAll_cons_mk (shut_int Try.underlying2 w2) trodAll_mk0))), rfl, bel.frame _, fun h => by cases h⟩

theorem over : Rows.fnExactEndOfRow.holds Try.pinned (OpenSpec.ofChange Rows.fnExactEndOfSpec) :=
  OpenClaim.holds_of_wide 11 Try.f11 rfl rfl rfl rfl rfl rfl rfl ⟨rfl, rfl, rfl, rfl, rfl⟩ rfl rfl rfl rfl rfl (by kernel_rfl) Try.func11 (by kernel_rfl)
    (of_decide_eq_true (by kernel_rfl)) (by unfold Func.isWrapper; first | (rw [if_pos (by decide +kernel)]; kernel_rfl) | (rw [if_neg (by decide +kernel)]; exact ⟨rfl, rfl⟩))
    (fun os started H enc _ => lifted os started H enc)

theorem proved : Rows.FnExactEndOfSaid := over
end Go.Proofs.Ytlleldidkchicaa.lEndOf
