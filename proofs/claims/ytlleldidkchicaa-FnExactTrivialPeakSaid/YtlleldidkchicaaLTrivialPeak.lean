/- The statement FnExactTrivialPeak: whatever the input, it returns true and leaves its arguments alone. No conditions. -/
import Derived.Test.YtlleldidkchicaaPeak
import Derived.Test.YtlleldidkchicaaOpenP
import Derived.Test.YtlleldidkchicaaTerm
import Derived.Test.YtlleldidkchicaaOpen
import Derived.Test.YtlleldidkchicaaRows
import Derived.Deep.RegionHeld3
namespace Go.Proofs.Ytlleldidkchicaa.lTrivialPeak
open Go.RowKit Go.ChangeShapes Go.WideShapes Go.ChangeAt
open Go.ChangeMaps (open_string shut_string)
set_option linter.unusedVariables false
set_option linter.unusedSimpArgs false

set_option maxHeartbeats 8000000 in
set_option maxRecDepth 100000 in
theorem walk (A0_0 : Option Addr) (n0_0 c0_0 : Nat) (x0_0 : List Int) (A0_1 : Option Addr) (n0_1 c0_1 : Nat) (x0_1 : List Int) (A0_2 : Option Addr) (n0_2 c0_2 : Nat) (x0_2 : List Int) (p0_3 : Int) (p0_4 : Int) (p0_5 : Int) (w : World) (h0_0 : RI w A0_0 n0_0 x0_0) (h0_1 : RI w A0_1 n0_1 x0_1) (h0_2 : RI w A0_2 n0_2 x0_2) (m0_0 : n0_0 ≤ 9223372036854775807) (m0_1 : n0_1 ≤ 9223372036854775807) (m0_2 : n0_2 ≤ 9223372036854775807) :
    Calls Try.prog 7 #[.agg #[.slice A0_0 n0_0 c0_0, .slice A0_1 n0_1 c0_1, .slice A0_2 n0_2 c0_2, .int .i64 p0_3, .int .i64 p0_4, .int .i64 p0_5]] w fun e w' => e = .returned (.bool true) ∧ Below w.heap.size w w' := by
  go_enter Try.func7, Try.ntmps7
  have hB : Below w.heap.size w w := Below.refl _ _
  go_wp2_with fail
  refine (szPeak_any A0_0 n0_0 c0_0 A0_1 n0_1 c0_1 A0_2 n0_2 c0_2 p0_3 p0_4 p0_5 (1048576) _ (by omega) (by omega) m0_0 m0_1 m0_2).mono ?_
  rintro e w1 ⟨rfl, hb1⟩
  have s1 : w.heap.size + 1 ≤ w1.heap.size := by have := hb1.size; first | omega | (simp at this; omega)
  have bx0_0 : w1.cell? ⟨w.heap.size, 0, none⟩ = some (.slice A0_0 n0_0 c0_0) := (hb1.cell (by simp <;> omega)).trans (by simp)
  have bx0_1 : w1.cell? ⟨w.heap.size, 1, none⟩ = some (.slice A0_1 n0_1 c0_1) := (hb1.cell (by simp <;> omega)).trans (by simp)
  have bx0_2 : w1.cell? ⟨w.heap.size, 2, none⟩ = some (.slice A0_2 n0_2 c0_2) := (hb1.cell (by simp <;> omega)).trans (by simp)
  have bx0_3 : w1.cell? ⟨w.heap.size, 3, none⟩ = some (.int .i64 p0_3) := (hb1.cell (by simp <;> omega)).trans (by simp)
  have bx0_4 : w1.cell? ⟨w.heap.size, 4, none⟩ = some (.int .i64 p0_4) := (hb1.cell (by simp <;> omega)).trans (by simp)
  have bx0_5 : w1.cell? ⟨w.heap.size, 5, none⟩ = some (.int .i64 p0_5) := (hb1.cell (by simp <;> omega)).trans (by simp)
  replace hB : Below w.heap.size w w1 := below_then (hB.alloc (by have := hB.size; simp <;> omega) _) hb1 (by have := hB.size; simp <;> omega)
  clear hb1
  have z0 := szF_bd (left := 1048576) (n0_0 + n0_1 + n0_2) (by omega)
  obtain ⟨v0, e0⟩ : ∃ v, v = szF (1048576) (n0_0 + n0_1 + n0_2) := ⟨_, rfl⟩
  rw [← e0] at z0 ⊢
  clear e0
  by_cases q0 : v0 < 0
  · go_wp2_with fail
    go_ret
    exact ⟨rfl, hB⟩
  have g0 : n0_0 + n0_1 + n0_2 ≤ 1048576 := by omega
  go_wp2_with fail
  refine (toPeak_any A0_0 n0_0 c0_0 x0_0 A0_1 n0_1 c0_1 x0_1 A0_2 n0_2 c0_2 x0_2 p0_3 p0_4 p0_5 _ (h0_0.below hB) (h0_1.below hB) (h0_2.below hB) g0).mono ?_
  rintro e w2 ⟨as0_0, as0_1, as0_2, rfl, os0_0, os0_1, os0_2, hb2⟩
  have s2 : w1.heap.size + 0 ≤ w2.heap.size := by have := hb2.size; first | omega | (simp at this; omega)
  replace bx0_0 := keepC hb2 bx0_0
  replace bx0_1 := keepC hb2 bx0_1
  replace bx0_2 := keepC hb2 bx0_2
  replace bx0_3 := keepC hb2 bx0_3
  replace bx0_4 := keepC hb2 bx0_4
  replace bx0_5 := keepC hb2 bx0_5
  replace hB : Below w.heap.size w w2 := below_then hB hb2 (by have := hB.size; simp <;> omega)
  clear hb2
  go_wp2_with fail
  refine (S_TrivialPeak (some ⟨as0_0, 0, none⟩) n0_0 n0_0 x0_0 (some ⟨as0_1, 0, none⟩) n0_1 n0_1 x0_1 (some ⟨as0_2, 0, none⟩) n0_2 n0_2 x0_2 p0_3 p0_4 p0_5 _ os0_0.rd os0_1.rd os0_2.rd g0).mono ?_
  rintro e w3 ⟨rfl, hb3⟩
  have s3 : w2.heap.size + 0 ≤ w3.heap.size := by have := hb3.size; first | omega | (simp at this; omega)
  replace os0_0 := os0_0.below hb3
  replace os0_1 := os0_1.below hb3
  replace os0_2 := os0_2.below hb3
  replace bx0_0 := keepC hb3 bx0_0
  replace bx0_1 := keepC hb3 bx0_1
  replace bx0_2 := keepC hb3 bx0_2
  replace bx0_3 := keepC hb3 bx0_3
  replace bx0_4 := keepC hb3 bx0_4
  replace bx0_5 := keepC hb3 bx0_5
  replace hB : Below w.heap.size w w3 := below_then hB hb3 (by have := hB.size; simp <;> omega)
  clear hb3
  clear os0_0
  clear os0_1
  clear os0_2
  go_wp2_with fail
  refine (toPeak_any A0_0 n0_0 c0_0 x0_0 A0_1 n0_1 c0_1 x0_1 A0_2 n0_2 c0_2 x0_2 p0_3 p0_4 p0_5 _ (h0_0.below hB) (h0_1.below hB) (h0_2.below hB) g0).mono ?_
  rintro e w4 ⟨ax0_0, ax0_1, ax0_2, rfl, ox0_0, ox0_1, ox0_2, hb4⟩
  have s4 : w3.heap.size + 0 ≤ w4.heap.size := by have := hb4.size; first | omega | (simp at this; omega)
  replace bx0_0 := keepC hb4 bx0_0
  replace bx0_1 := keepC hb4 bx0_1
  replace bx0_2 := keepC hb4 bx0_2
  replace bx0_3 := keepC hb4 bx0_3
  replace bx0_4 := keepC hb4 bx0_4
  replace bx0_5 := keepC hb4 bx0_5
  replace hB : Below w.heap.size w w4 := below_then hB hb4 (by have := hB.size; simp <;> omega)
  clear hb4
  go_wp2_with fail
  refine (I_TrivialPeak (some ⟨ax0_0, 0, none⟩) n0_0 n0_0 x0_0 (some ⟨ax0_1, 0, none⟩) n0_1 n0_1 x0_1 (some ⟨ax0_2, 0, none⟩) n0_2 n0_2 x0_2 p0_3 p0_4 p0_5 _ (ox0_0.rd.below ((Below.refl _ _).alloc (Nat.le_refl _) _)) (ox0_1.rd.below ((Below.refl _ _).alloc (Nat.le_refl _) _)) (ox0_2.rd.below ((Below.refl _ _).alloc (Nat.le_refl _) _)) g0).mono ?_
  rintro e w5 ⟨rfl, hb5⟩
  have s5 : w4.heap.size + 1 ≤ w5.heap.size := by have := hb5.size; first | omega | (simp at this; omega)
  replace ox0_0 := (ox0_0.below ((Below.refl _ _).alloc (Nat.le_refl _) _)).below hb5
  replace ox0_1 := (ox0_1.below ((Below.refl _ _).alloc (Nat.le_refl _) _)).below hb5
  replace ox0_2 := (ox0_2.below ((Below.refl _ _).alloc (Nat.le_refl _) _)).below hb5
  replace bx0_0 := keepC hb5 (keepC ((Below.refl _ _).alloc (Nat.le_refl _) _) bx0_0)
  replace bx0_1 := keepC hb5 (keepC ((Below.refl _ _).alloc (Nat.le_refl _) _) bx0_1)
  replace bx0_2 := keepC hb5 (keepC ((Below.refl _ _).alloc (Nat.le_refl _) _) bx0_2)
  replace bx0_3 := keepC hb5 (keepC ((Below.refl _ _).alloc (Nat.le_refl _) _) bx0_3)
  replace bx0_4 := keepC hb5 (keepC ((Below.refl _ _).alloc (Nat.le_refl _) _) bx0_4)
  replace bx0_5 := keepC hb5 (keepC ((Below.refl _ _).alloc (Nat.le_refl _) _) bx0_5)
  have by0_0 : w5.cell? ⟨w4.heap.size, 0, none⟩ = some (.slice (some ⟨ax0_0, 0, none⟩) n0_0 n0_0) := (hb5.cell (by simp <;> omega)).trans (by simp)
  have by0_1 : w5.cell? ⟨w4.heap.size, 1, none⟩ = some (.slice (some ⟨ax0_1, 0, none⟩) n0_1 n0_1) := (hb5.cell (by simp <;> omega)).trans (by simp)
  have by0_2 : w5.cell? ⟨w4.heap.size, 2, none⟩ = some (.slice (some ⟨ax0_2, 0, none⟩) n0_2 n0_2) := (hb5.cell (by simp <;> omega)).trans (by simp)
  have by0_3 : w5.cell? ⟨w4.heap.size, 3, none⟩ = some (.int .i64 p0_3) := (hb5.cell (by simp <;> omega)).trans (by simp)
  have by0_4 : w5.cell? ⟨w4.heap.size, 4, none⟩ = some (.int .i64 p0_4) := (hb5.cell (by simp <;> omega)).trans (by simp)
  have by0_5 : w5.cell? ⟨w4.heap.size, 5, none⟩ = some (.int .i64 p0_5) := (hb5.cell (by simp <;> omega)).trans (by simp)
  replace hB : Below w.heap.size w w5 := below_then (hB.alloc (by have := hB.size; simp <;> omega) _) hb5 (by have := hB.size; simp <;> omega)
  clear hb5
  go_wp2_with fail
  go_region_held3 (fun w' => Below w5.heap.size w5 w' ∧ w'.cell? ⟨w4.heap.size, 0, none⟩ = some (.slice (some ⟨ax0_0, 0, none⟩) n0_0 n0_0) ∧ w'.cell? ⟨w4.heap.size, 1, none⟩ = some (.slice (some ⟨ax0_1, 0, none⟩) n0_1 n0_1) ∧ w'.cell? ⟨w4.heap.size, 2, none⟩ = some (.slice (some ⟨ax0_2, 0, none⟩) n0_2 n0_2) ∧ w'.cell? ⟨w4.heap.size, 3, none⟩ = some (.int .i64 p0_3) ∧ w'.cell? ⟨w4.heap.size, 4, none⟩ = some (.int .i64 p0_4) ∧ w'.cell? ⟨w4.heap.size, 5, none⟩ = some (.int .i64 p0_5) ∧ w'.cell? ⟨w.heap.size, 0, none⟩ = some (.slice A0_0 n0_0 c0_0) ∧ w'.cell? ⟨w.heap.size, 1, none⟩ = some (.slice A0_1 n0_1 c0_1) ∧ w'.cell? ⟨w.heap.size, 2, none⟩ = some (.slice A0_2 n0_2 c0_2) ∧ w'.cell? ⟨w.heap.size, 3, none⟩ = some (.int .i64 p0_3) ∧ w'.cell? ⟨w.heap.size, 4, none⟩ = some (.int .i64 p0_4) ∧ w'.cell? ⟨w.heap.size, 5, none⟩ = some (.int .i64 p0_5))
    (first | exact ⟨(Below.refl _ _).drew, by0_0, by0_1, by0_2, by0_3, by0_4, by0_5, bx0_0, bx0_1, bx0_2, bx0_3, bx0_4, bx0_5⟩ | exact And.imp (keepS0 ha1) (And.imp (keepC ha1) (And.imp (keepC ha1) (And.imp (keepC ha1) (And.imp (keepC ha1) (And.imp (keepC ha1) (And.imp (keepC ha1) (And.imp (keepC ha1) (And.imp (keepC ha1) (And.imp (keepC ha1) (And.imp (keepC ha1) (And.imp (keepC ha1) (keepC ha1)))))))))))) (by assumption) | exact And.imp (keepS0 ha2) (And.imp (keepC ha2) (And.imp (keepC ha2) (And.imp (keepC ha2) (And.imp (keepC ha2) (And.imp (keepC ha2) (And.imp (keepC ha2) (And.imp (keepC ha2) (And.imp (keepC ha2) (And.imp (keepC ha2) (And.imp (keepC ha2) (And.imp (keepC ha2) (keepC ha2)))))))))))) (by assumption))
    ((first | (go_at_call 28; refine (toPeak_any A0_0 n0_0 c0_0 x0_0 A0_1 n0_1 c0_1 x0_1 A0_2 n0_2 c0_2 x0_2 p0_3 p0_4 p0_5 _ ?_ ?_ ?_ g0).mono ?_; exact riS (h0_0.below hB) (by assumption); exact riS (h0_1.below hB) (by assumption); exact riS (h0_2.below hB) (by assumption); rintro e wa ⟨a0, a1, a2, rfl, oa0, oa1, oa2, ha1⟩) | (go_at_call 30; refine (eqPeak_same (some ⟨ax0_0, 0, none⟩) n0_0 n0_0 x0_0 (some ⟨ax0_1, 0, none⟩) n0_1 n0_1 x0_1 (some ⟨ax0_2, 0, none⟩) n0_2 n0_2 x0_2 p0_3 p0_4 p0_5 _ _ _ _ _ _ _ ?_ ?_ ?_ ?_ ?_ ?_ (by omega)).mono ?_; exact ox0_0.rd.below (And.left (by assumption)); exact ox0_1.rd.below (And.left (by assumption)); exact ox0_2.rd.below (And.left (by assumption)); exact oa0.rd; exact oa1.rd; exact oa2.rd; rintro e w6 ⟨rfl, ha2⟩)))
  rename_i hS
  have hb6 := hS.1
  clear hS oa0 oa1 oa2 ha1 ha2
  have s6 : w5.heap.size + 0 ≤ w6.heap.size := by have := hb6.size; first | omega | (simp at this; omega)
  replace ox0_0 := ox0_0.below hb6
  replace ox0_1 := ox0_1.below hb6
  replace ox0_2 := ox0_2.below hb6
  replace bx0_0 := keepC hb6 bx0_0
  replace bx0_1 := keepC hb6 bx0_1
  replace bx0_2 := keepC hb6 bx0_2
  replace bx0_3 := keepC hb6 bx0_3
  replace bx0_4 := keepC hb6 bx0_4
  replace bx0_5 := keepC hb6 bx0_5
  replace by0_0 := keepC hb6 by0_0
  replace by0_1 := keepC hb6 by0_1
  replace by0_2 := keepC hb6 by0_2
  replace by0_3 := keepC hb6 by0_3
  replace by0_4 := keepC hb6 by0_4
  replace by0_5 := keepC hb6 by0_5
  replace hB : Below w.heap.size w w6 := below_then hB hb6 (by have := hB.size; simp <;> omega)
  clear hb6
  go_wp2_with fail
  go_ret
  exact ⟨rfl, hB⟩

theorem own : ownKnob Try.prog.godebug = none := by kernel_rfl
theorem laidOut : laidOutB Try.prog = true := by kernel_rfl

set_option maxRecDepth 100000 in
theorem lifted (os : Os) (started : os.Started) (H : Type) (enc : TypeId × Value → H) :
    ReturnsInHanded {} Try.checked os 7 .any (Rows.fnExactTrivialPeakSpec.pre6 enc Try.prog Try.f7 Rows.fnExactTrivialPeakRow.domain false) (Rows.fnExactTrivialPeakSpec.post enc Try.prog Try.f7 false true false false) := by
  refine returnsInHanded_of_change (C := Try.checked) own started (by kernel_rfl) Try.func7
    (ChangeSpec.witness6 (enc := enc) (C := Try.checked) false ⟨#[], #[.agg #[.slice none 0 0, .slice none 0 0, .slice none 0 0, .int .i64 0, .int .i64 0, .int .i64 0]], []⟩ 8 (by kernel_rfl) (by kernel_rfl) (by kernel_rfl) (by kernel_rfl)) ?_
  intro W base args ds gs before hval0 hW hcnd _
  have hval : ∀ (j : Nat) t v, Try.f7.params[j]? = some t → args[j]? = some v → Value.okWide Try.prog W .any base t v := hval0
  have hW' := hW
  obtain ⟨p, q, hA0, hV, rfl, hfz, hnd⟩ := hW
  have hA : DataW.TrodAll enc Try.prog W 0 (fun _ => true) true Try.f7.params.toList args.toList ds p := hA0
  rw [Try.params7] at hA hval
  obtain ⟨v0, vs0, d0, ds0, p0, q0, hargs, rfl, rfl, h0, r0⟩ := trodAll_cons hA
  obtain ⟨rfl, rfl, rfl⟩ := trodAll_nil r0
  obtain rfl : args = #[v0] := by cases args; simp_all
  obtain ⟨rfl, rfl⟩ := trodVars_none hV
  have k0 := h0
  have lt0 : ∀ x ∈ p0, x.block < W.heap.size := by obtain ⟨m, hm⟩ := k0; exact DataW.trod_lt m _ _ _ hm
  obtain ⟨A0_0, n0_0, c0_0, z0_0, A1_0, n1_0, c1_0, z1_0, A2_0, n2_0, c2_0, z2_0, p3_0, p4_0, p5_0, rfl, R0_0, M0_0, R1_0, M1_0, R2_0, M2_0⟩ := open_peak Try.underlying35 (by kernel_rfl) rfl rfl rfl rfl rfl rfl rfl rfl rfl rfl rfl rfl (by kernel_rfl) Try.underlying23 Try.underlying2 (by kernel_rfl) (hval 0 35 v0 rfl rfl) h0
  unfold maxLen at M0_0
  unfold maxLen at M1_0
  unfold maxLen at M2_0
  clear hA0 hval0
  refine (walk A0_0 n0_0 c0_0 z0_0 A1_0 n1_0 c1_0 z1_0 A2_0 n2_0 c2_0 z2_0 p3_0 p4_0 p5_0 W R0_0 R1_0 R2_0 (by omega) (by omega) (by omega)).mono fun e W' ⟨he, bel⟩ => ?_
  subst he
  exact ⟨_, rfl, _, _, _, [], _, [], hW', trodAll_mk1 (shut_bool Try.underlying4 _), (trodAll_cons_mk (Below.trod laidOut (by kernel_rfl) (of_decide_eq_true (by kernel_rfl)) k0 bel lt0) trodAll_mk0), rfl, bel.frame _, fun h => by cases h⟩

theorem over : Rows.fnExactTrivialPeakRow.holds Try.pinned (OpenSpec.ofChange Rows.fnExactTrivialPeakSpec) :=
  OpenClaim.holds_of_wide 7 Try.f7 rfl rfl rfl rfl rfl rfl rfl ⟨rfl, rfl, rfl, rfl, rfl⟩ rfl rfl rfl rfl rfl (by kernel_rfl) Try.func7 (by kernel_rfl)
    (of_decide_eq_true (by kernel_rfl)) (by unfold Func.isWrapper; first | (rw [if_pos (by decide +kernel)]; kernel_rfl) | (rw [if_neg (by decide +kernel)]; exact ⟨rfl, rfl⟩))
    (fun os started H enc _ => lifted os started H enc)

theorem proved : Rows.FnExactTrivialPeakSaid := over
end Go.Proofs.Ytlleldidkchicaa.lTrivialPeak
