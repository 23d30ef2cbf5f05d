/- The statement FnExactSigOk: whatever the input, it returns true and leaves its arguments alone. No conditions. -/
import Derived.Test.YtlleldidkchicaaTop1
import Derived.Test.YtlleldidkchicaaOpen
import Derived.Test.YtlleldidkchicaaRows
import Derived.Deep.RegionHeld3
namespace Go.Proofs.Ytlleldidkchicaa.lSigOk
open Go.RowKit Go.ChangeShapes Go.WideShapes Go.ChangeAt
open Go.ChangeMaps (open_string shut_string)
set_option linter.unusedVariables false

set_option maxHeartbeats 2000000 in
set_option maxRecDepth 100000 in
theorem walk (A0 : Option Addr) (n0 c0 : Nat) (x0 : List Int) (w : World) (h0 : RI w A0 n0 x0) (m0 : n0 ≤ 9223372036854775807) :
    Calls Try.prog 5 #[.agg #[.slice A0 n0 c0]] w fun e w' => e = .returned (.bool true) ∧ Below w.heap.size w w' := by
  go_enter Try.func5, Try.ntmps5
  go_wp2_with fail
  refine (szSig_any A0 n0 c0 (1048576) _ (by omega) (by omega) m0).mono ?_
  rintro e w1 ⟨rfl, hb1⟩
  have hB : Below w.heap.size w w1 := below_then ((Below.refl _ _).alloc (Nat.le_refl _) _) hb1 (by simp <;> omega)
  replace h0 := (h0.alloc _).below hb1
  have bx0 : w1.cell? ⟨w.heap.size, 0, none⟩ = some (.slice A0 n0 c0) := (hb1.cell (by simp <;> omega)).trans (by simp)
  clear hb1
  have z0 := szF_bd (left := 1048576) n0 (by omega)
  by_cases q0 : szF (1048576) n0 < 0
  · go_wp2_with fail
    go_ret
    exact ⟨rfl, hB⟩
  obtain ⟨v0, e0⟩ : ∃ v, v = szF (1048576) n0 := ⟨_, rfl⟩
  rw [← e0] at z0 q0 ⊢
  clear e0
  have g0 : n0 ≤ 1048576 := by omega
  go_wp2_with fail
  refine (toSig_any A0 n0 c0 x0 _ h0 g0).mono ?_
  rintro e w2 ⟨as0, rfl, os0, hb2⟩
  replace hB := below_then hB hb2 (by have := hB.size; simp <;> omega)
  replace h0 := h0.below hb2
  replace bx0 := keepC hb2 bx0
  clear hb2
  go_wp2_with fail
  refine (S_SigOk (some ⟨as0, 0, none⟩) n0 n0 x0 _ os0.ri g0).mono ?_
  rintro e w3 ⟨rfl, hb3⟩
  replace hB := below_then hB hb3 (by have := hB.size; simp <;> omega)
  replace h0 := h0.below hb3
  replace os0 := os0.below hb3
  replace bx0 := keepC hb3 bx0
  clear hb3
  clear os0
  go_wp2_with fail
  refine (toSig_any A0 n0 c0 x0 _ h0 g0).mono ?_
  rintro e w4 ⟨ax0, rfl, ox0, hb4⟩
  replace hB := below_then hB hb4 (by have := hB.size; simp <;> omega)
  replace h0 := h0.below hb4
  replace bx0 := keepC hb4 bx0
  clear hb4
  go_wp2_with fail
  refine (I_SigOk (some ⟨ax0, 0, none⟩) n0 n0 x0 _ (ox0.ri.alloc _) g0).mono ?_
  rintro e w5 ⟨rfl, hb5⟩
  replace hB := below_then (hB.alloc (by have := hB.size; simp <;> omega) _) hb5 (by have := hB.size; simp <;> omega)
  replace h0 := (h0.alloc _).below hb5
  replace ox0 := (ox0.below ((Below.refl _ _).alloc (Nat.le_refl _) _)).below hb5
  replace bx0 := keepC hb5 (keepC ((Below.refl _ _).alloc (Nat.le_refl _) _) bx0)
  have by0 : w5.cell? ⟨w4.heap.size, 0, none⟩ = some (.slice (some ⟨ax0, 0, none⟩) n0 n0) := (hb5.cell (by simp <;> omega)).trans (by simp)
  clear hb5
  go_wp2_with fail
  go_region_held3 (fun w' => Below w5.heap.size w5 w' ∧ w'.cell? ⟨w4.heap.size, 0, none⟩ = some (.slice (some ⟨ax0, 0, none⟩) n0 n0) ∧ w'.cell? ⟨w.heap.size, 0, none⟩ = some (.slice A0 n0 c0))
    (first | exact ⟨(Below.refl _ _).drew, by0, bx0⟩ | exact keepS2 ha1 (by assumption) | exact keepS2 ha2 (by assumption))
    ((first | (go_at_call 21; refine (toSig_any A0 n0 c0 x0 _ ?_ g0).mono ?_; exact riS h0 (by assumption); rintro e wa ⟨ga, rfl, oa, ha1⟩) | (go_at_call 23; refine (eqSig_any (some ⟨ax0, 0, none⟩) n0 n0 x0 _ n0 n0 x0 _ ?_ ?_ (by omega)).mono ?_; exact riS ox0.ri (by assumption); exact oa.ri; rintro e w6 ⟨rfl, ha2⟩)))
  rename_i hS
  obtain ⟨hb6, _, _⟩ := hS
  clear oa ha1 ha2
  replace hB := below_then hB hb6 (by have := hB.size; simp <;> omega)
  replace h0 := h0.below hb6
  replace ox0 := ox0.below hb6
  replace bx0 := keepC hb6 bx0
  replace by0 := keepC hb6 by0
  clear hb6
  go_wp2_with fail
  go_ret
  exact ⟨rfl, hB⟩

theorem own : ownKnob Try.prog.godebug = none := by kernel_rfl
theorem laidOut : laidOutB Try.prog = true := by kernel_rfl

set_option maxRecDepth 100000 in
theorem lifted (os : Os) (started : os.Started) (H : Type) (enc : TypeId × Value → H) :
    ReturnsInHanded {} Try.checked os 5 .any (Rows.fnExactSigOkSpec.pre6 enc Try.prog Try.f5 Rows.fnExactSigOkRow.domain false) (Rows.fnExactSigOkSpec.post enc Try.prog Try.f5 false true false false) := by
  refine returnsInHanded_of_change (C := Try.checked) own started (by kernel_rfl) Try.func5
    (ChangeSpec.witness6 (enc := enc) (C := Try.checked) false ⟨#[], #[.agg #[.slice none 0 0]], []⟩ 8 (by kernel_rfl) (by kernel_rfl) (by kernel_rfl) (by kernel_rfl)) ?_
  intro W base args ds gs before hval0 hW hcnd _
  have hval : ∀ (j : Nat) t v, Try.f5.params[j]? = some t → args[j]? = some v → Value.okWide Try.prog W .any base t v := hval0
  have hW' := hW
  obtain ⟨p, q, hA0, hV, rfl, hfz, hnd⟩ := hW
  have hA : DataW.TrodAll enc Try.prog W 0 (fun _ => true) true Try.f5.params.toList args.toList ds p := hA0
  rw [Try.params5] at hA hval
  obtain ⟨v0, vs0, d0, ds0, p0, q0, hargs, rfl, rfl, h0, r0⟩ := trodAll_cons hA
  obtain ⟨rfl, rfl, rfl⟩ := trodAll_nil r0
  obtain rfl : args = #[v0] := by cases args; simp_all
  obtain ⟨rfl, rfl⟩ := trodVars_none hV
  have k0 := h0
  have lt0 : ∀ x ∈ p0, x.block < W.heap.size := by obtain ⟨m, hm⟩ := k0; exact DataW.trod_lt m _ _ _ hm
  obtain ⟨A0, n0, c0, z0, rfl, R0, M0⟩ := open_one Try.underlying27 (by kernel_rfl) rfl rfl (by kernel_rfl) Try.underlying23 Try.underlying2 (by kernel_rfl) (hval 0 27 v0 rfl rfl) h0
  unfold maxLen at M0
  clear hA0 hval0
  refine (walk A0 n0 c0 z0 W R0 (by omega)).mono fun e W' ⟨he, bel⟩ => ?_
  subst he
  exact ⟨_, rfl, _, _, _, [], _, [], hW', trodAll_mk1 (shut_bool Try.underlying4 _), (trodAll_cons_mk (Below.trod laidOut (by kernel_rfl) (of_decide_eq_true (by kernel_rfl)) k0 bel lt0) trodAll_mk0), rfl, bel.frame _, fun h => by cases h⟩

theorem over : Rows.fnExactSigOkRow.holds Try.pinned (OpenSpec.ofChange Rows.fnExactSigOkSpec) :=
  OpenClaim.holds_of_wide 5 Try.f5 rfl rfl rfl rfl rfl rfl rfl ⟨rfl, rfl, rfl, rfl, rfl⟩ rfl rfl rfl rfl rfl (by kernel_rfl) Try.func5 (by kernel_rfl)
    (of_decide_eq_true (by kernel_rfl)) (by unfold Func.isWrapper; first | (rw [if_pos (by decide +kernel)]; kernel_rfl) | (rw [if_neg (by decide +kernel)]; exact ⟨rfl, rfl⟩))
    (fun os started H enc _ => lifted os started H enc)

theorem proved : Rows.FnExactSigOkSaid := over
end Go.Proofs.Ytlleldidkchicaa.lSigOk
