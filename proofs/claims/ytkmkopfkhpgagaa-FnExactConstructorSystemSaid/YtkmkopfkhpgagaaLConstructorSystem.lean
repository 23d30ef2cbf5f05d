/- The statement FnExactConstructorSystem: whatever the input, it returns true and leaves its arguments alone. No conditions. -/
import Derived.Test.YtkmkopfkhpgagaaSysK
import Derived.Test.YtkmkopfkhpgagaaOpenY
import Derived.Test.YtkmkopfkhpgagaaOpen
import Derived.Test.YtkmkopfkhpgagaaRows
import Derived.Deep.RegionHeld3
namespace Go.Proofs.Ytkmkopfkhpgagaa.lConstructorSystem
open Go.RowKit Go.ChangeShapes Go.WideShapes Go.ChangeAt
open Go.ChangeMaps (open_string shut_string)
set_option linter.unusedVariables false

set_option maxHeartbeats 8000000 in
set_option maxRecDepth 100000 in
theorem walk (A0_0 : Option Addr) (n0_0 c0_0 : Nat) (x0_0 : List Int) (A0_1 : Option Addr) (n0_1 c0_1 : Nat) (x0_1 : List (List Int × List Int)) (w : World) (h0_0 : RI w A0_0 n0_0 x0_0) (h0_1 : RU w A0_1 n0_1 x0_1) (m0_0 : n0_0 ≤ 9223372036854775807) (m0_1 : n0_1 ≤ 9223372036854775807) :
    Calls Try.prog 6 #[.agg #[.slice A0_0 n0_0 c0_0, .slice A0_1 n0_1 c0_1]] w fun e w' => e = .returned (.bool true) ∧ Below w.heap.size w w' := by
  go_enter Try.func6, Try.ntmps6
  have hB : Below w.heap.size w w := Below.refl _ _
  go_wp2_with fail
  refine (szSystem_any A0_0 n0_0 c0_0 A0_1 n0_1 c0_1 x0_1 (1048576) _ (h0_0.below (hB.alloc (by have := hB.size; simp <;> omega) _)) (h0_1.below (hB.alloc (by have := hB.size; simp <;> omega) _)) (by omega) (by omega) m0_0 m0_1).mono ?_
  rintro e w1 ⟨rfl, hb1⟩
  have s1 : w.heap.size + 1 ≤ w1.heap.size := by have := hb1.size; first | omega | (simp at this; omega)
  have bx0_0 : w1.cell? ⟨w.heap.size, 0, none⟩ = some (.slice A0_0 n0_0 c0_0) := (hb1.cell (by simp <;> omega)).trans (by simp)
  have bx0_1 : w1.cell? ⟨w.heap.size, 1, none⟩ = some (.slice A0_1 n0_1 c0_1) := (hb1.cell (by simp <;> omega)).trans (by simp)
  replace hB : Below w.heap.size w w1 := below_then (hB.alloc (by have := hB.size; simp <;> omega) _) hb1 (by have := hB.size; simp <;> omega)
  clear hb1
  have z0 := szF_bd (left := 1048576) (n0_0 + wtU x0_1) (by omega)
  obtain ⟨v0, e0⟩ : ∃ v, v = szF (1048576) (n0_0 + wtU x0_1) := ⟨_, rfl⟩
  rw [← e0] at z0 ⊢
  clear e0
  by_cases q0 : v0 < 0
  · go_wp2_with fail
    go_ret
    exact ⟨rfl, hB⟩
  have g0 : n0_0 + wtU x0_1 ≤ 1048576 := by omega
  go_wp2_with fail
  refine (toSystem_any A0_0 n0_0 c0_0 x0_0 A0_1 n0_1 c0_1 x0_1 _ (h0_0.below hB) (h0_1.below hB) g0).mono ?_
  rintro e w2 ⟨as0_0, as0_1, rfl, os0_0, os0_1, hb2⟩
  have s2 : w1.heap.size + 0 ≤ w2.heap.size := by have := hb2.size; first | omega | (simp at this; omega)
  replace bx0_0 := keepC hb2 bx0_0
  replace bx0_1 := keepC hb2 bx0_1
  replace hB : Below w.heap.size w w2 := below_then hB hb2 (by have := hB.size; simp <;> omega)
  clear hb2
  go_wp2_with fail
  refine (S_ConstructorSystem (some ⟨as0_0, 0, none⟩) n0_0 n0_0 x0_0 (some ⟨as0_1, 0, none⟩) n0_1 n0_1 x0_1 _ os0_0.rd os0_1.rd g0).mono ?_
  rintro e w3 ⟨rfl, hb3⟩
  have s3 : w2.heap.size + 0 ≤ w3.heap.size := by have := hb3.size; first | omega | (simp at this; omega)
  replace os0_0 := os0_0.below hb3
  replace os0_1 := os0_1.below hb3
  replace bx0_0 := keepC hb3 bx0_0
  replace bx0_1 := keepC hb3 bx0_1
  replace hB : Below w.heap.size w w3 := below_then hB hb3 (by have := hB.size; simp <;> omega)
  clear hb3
  clear os0_0
  clear os0_1
  go_wp2_with fail
  refine (toSystem_any A0_0 n0_0 c0_0 x0_0 A0_1 n0_1 c0_1 x0_1 _ (h0_0.below hB) (h0_1.below hB) g0).mono ?_
  rintro e w4 ⟨ax0_0, ax0_1, rfl, ox0_0, ox0_1, hb4⟩
  have s4 : w3.heap.size + 0 ≤ w4.heap.size := by have := hb4.size; first | omega | (simp at this; omega)
  replace bx0_0 := keepC hb4 bx0_0
  replace bx0_1 := keepC hb4 bx0_1
  replace hB : Below w.heap.size w w4 := below_then hB hb4 (by have := hB.size; simp <;> omega)
  clear hb4
  go_wp2_with fail
  refine (I_ConstructorSystem (some ⟨ax0_0, 0, none⟩) n0_0 n0_0 x0_0 (some ⟨ax0_1, 0, none⟩) n0_1 n0_1 x0_1 _ (ox0_0.rd.below ((Below.refl _ _).alloc (Nat.le_refl _) _)) (ox0_1.rd.below ((Below.refl _ _).alloc (Nat.le_refl _) _)) g0).mono ?_
  rintro e w5 ⟨rfl, hb5⟩
  have s5 : w4.heap.size + 1 ≤ w5.heap.size := by have := hb5.size; first | omega | (simp at this; omega)
  replace ox0_0 := (ox0_0.below ((Below.refl _ _).alloc (Nat.le_refl _) _)).below hb5
  replace ox0_1 := (ox0_1.below ((Below.refl _ _).alloc (Nat.le_refl _) _)).below hb5
  replace bx0_0 := keepC hb5 (keepC ((Below.refl _ _).alloc (Nat.le_refl _) _) bx0_0)
  replace bx0_1 := keepC hb5 (keepC ((Below.refl _ _).alloc (Nat.le_refl _) _) bx0_1)
  have by0_0 : w5.cell? ⟨w4.heap.size, 0, none⟩ = some (.slice (some ⟨ax0_0, 0, none⟩) n0_0 n0_0) := (hb5.cell (by simp <;> omega)).trans (by simp)
  have by0_1 : w5.cell? ⟨w4.heap.size, 1, none⟩ = some (.slice (some ⟨ax0_1, 0, none⟩) n0_1 n0_1) := (hb5.cell (by simp <;> omega)).trans (by simp)
  replace hB : Below w.heap.size w w5 := below_then (hB.alloc (by have := hB.size; simp <;> omega) _) hb5 (by have := hB.size; simp <;> omega)
  clear hb5
  go_wp2_with fail
  go_region_held3 (fun w' => Below w5.heap.size w5 w' ∧ w'.cell? ⟨w4.heap.size, 0, none⟩ = some (.slice (some ⟨ax0_0, 0, none⟩) n0_0 n0_0) ∧ w'.cell? ⟨w4.heap.size, 1, none⟩ = some (.slice (some ⟨ax0_1, 0, none⟩) n0_1 n0_1) ∧ w'.cell? ⟨w.heap.size, 0, none⟩ = some (.slice A0_0 n0_0 c0_0) ∧ w'.cell? ⟨w.heap.size, 1, none⟩ = some (.slice A0_1 n0_1 c0_1))
    (first | exact ⟨(Below.refl _ _).drew, by0_0, by0_1, bx0_0, bx0_1⟩ | exact keepS4 ha1 (by assumption) | exact keepS4 ha2 (by assumption))
    ((first | (go_at_call 10; refine (toSystem_any A0_0 n0_0 c0_0 x0_0 A0_1 n0_1 c0_1 x0_1 _ ?_ ?_ g0).mono ?_; exact riS (h0_0.below hB) (by assumption); exact (h0_1.below hB).below (And.left (by assumption)); rintro e wa ⟨a0, a1, rfl, oa0, oa1, ha1⟩) | (go_at_call 12; refine (eqSystem_same (some ⟨ax0_0, 0, none⟩) n0_0 n0_0 x0_0 (some ⟨ax0_1, 0, none⟩) n0_1 n0_1 x0_1 _ _ _ _ _ ?_ ?_ ?_ ?_ (by omega)).mono ?_; exact ox0_0.rd.below (And.left (by assumption)); exact ox0_1.rd.below (And.left (by assumption)); exact oa0.rd; exact oa1.rd; rintro e w6 ⟨rfl, ha2⟩)))
  rename_i hS
  have hb6 := hS.1
  clear hS oa0 oa1 ha1 ha2
  have s6 : w5.heap.size + 0 ≤ w6.heap.size := by have := hb6.size; first | omega | (simp at this; omega)
  replace ox0_0 := ox0_0.below hb6
  replace ox0_1 := ox0_1.below hb6
  replace bx0_0 := keepC hb6 bx0_0
  replace bx0_1 := keepC hb6 bx0_1
  replace by0_0 := keepC hb6 by0_0
  replace by0_1 := keepC hb6 by0_1
  replace hB : Below w.heap.size w w6 := below_then hB hb6 (by have := hB.size; simp <;> omega)
  clear hb6
  go_wp2_with fail
  go_ret
  exact ⟨rfl, hB⟩

theorem own : ownKnob Try.prog.godebug = none := by kernel_rfl
theorem laidOut : laidOutB Try.prog = true := by kernel_rfl

set_option maxRecDepth 100000 in
theorem lifted (os : Os) (started : os.Started) (H : Type) (enc : TypeId × Value → H) :
    ReturnsInHanded {} Try.checked os 6 .any (Rows.fnExactConstructorSystemSpec.pre6 enc Try.prog Try.f6 Rows.fnExactConstructorSystemRow.domain false) (Rows.fnExactConstructorSystemSpec.post enc Try.prog Try.f6 false true false false) := by
  refine returnsInHanded_of_change (C := Try.checked) own started (by kernel_rfl) Try.func6
    (ChangeSpec.witness6 (enc := enc) (C := Try.checked) false ⟨#[], #[.agg #[.slice none 0 0, .slice none 0 0]], []⟩ 8 (by kernel_rfl) (by kernel_rfl) (by kernel_rfl) (by kernel_rfl)) ?_
  intro W base args ds gs before hval0 hW hcnd _
  have hval : ∀ (j : Nat) t v, Try.f6.params[j]? = some t → args[j]? = some v → Value.okWide Try.prog W .any base t v := hval0
  have hW' := hW
  obtain ⟨p, q, hA0, hV, rfl, hfz, hnd⟩ := hW
  have hA : DataW.TrodAll enc Try.prog W 0 (fun _ => true) true Try.f6.params.toList args.toList ds p := hA0
  rw [Try.params6] at hA hval
  obtain ⟨v0, vs0, d0, ds0, p0, q0, hargs, rfl, rfl, h0, r0⟩ := trodAll_cons hA
  obtain ⟨rfl, rfl, rfl⟩ := trodAll_nil r0
  obtain rfl : args = #[v0] := by cases args; simp_all
  obtain ⟨rfl, rfl⟩ := trodVars_none hV
  have k0 := h0
  have lt0 : ∀ x ∈ p0, x.block < W.heap.size := by obtain ⟨m, hm⟩ := k0; exact DataW.trod_lt m _ _ _ hm
  obtain ⟨A0_0, n0_0, c0_0, z0_0, A1_0, n1_0, c1_0, z1_0, rfl, R0_0, M0_0, R1_0, M1_0⟩ := open_system Try.underlying27 Try.underlying24 Try.underlying25 Try.underlying80 (by kernel_rfl) (by kernel_rfl) (by kernel_rfl) (by kernel_rfl) (by kernel_rfl) rfl rfl rfl rfl rfl rfl rfl rfl rfl rfl Try.underlying22 Try.underlying2 (by kernel_rfl) (hval 0 27 v0 rfl rfl) h0
  unfold maxLen at M0_0
  unfold maxLen at M1_0
  clear hA0 hval0
  refine (walk A0_0 n0_0 c0_0 z0_0 A1_0 n1_0 c1_0 z1_0 W R0_0 R1_0 (by omega) (by omega)).mono fun e W' ⟨he, bel⟩ => ?_
  subst he
  exact ⟨_, rfl, _, _, _, [], _, [], hW', trodAll_mk1 (shut_bool Try.underlying4 _), (trodAll_cons_mk (Below.trod laidOut (by kernel_rfl) (of_decide_eq_true (by kernel_rfl)) k0 bel lt0) trodAll_mk0), rfl, bel.frame _, fun h => by cases h⟩

theorem over : Rows.fnExactConstructorSystemRow.holds Try.pinned (OpenSpec.ofChange Rows.fnExactConstructorSystemSpec) :=
  OpenClaim.holds_of_wide 6 Try.f6 rfl rfl rfl rfl rfl rfl rfl ⟨rfl, rfl, rfl, rfl, rfl⟩ rfl rfl rfl rfl rfl (by kernel_rfl) Try.func6 (by kernel_rfl)
    (of_decide_eq_true (by kernel_rfl)) (by unfold Func.isWrapper; first | (rw [if_pos (by decide +kernel)]; kernel_rfl) | (rw [if_neg (by decide +kernel)]; exact ⟨rfl, rfl⟩))
    (fun os started H enc _ => lifted os started H enc)

theorem proved : Rows.FnExactConstructorSystemSaid := over
end Go.Proofs.Ytkmkopfkhpgagaa.lConstructorSystem
