/- The statement FnExactVariantIn: whatever the input, it returns true and leaves its arguments alone. No conditions. -/
import Derived.Test.YtkonnbkldjgomaaRenum
import Derived.Test.YtkonnbkldjgomaaOpen
import Derived.Test.YtkonnbkldjgomaaRows
import Derived.Deep.RegionHeld3
namespace Go.Proofs.Ytkonnbkldjgomaa.lVariantIn
open Go.RowKit Go.ChangeShapes Go.WideShapes Go.ChangeAt
open Go.ChangeMaps (open_string shut_string)
set_option linter.unusedVariables false

set_option maxHeartbeats 8000000 in
set_option maxRecDepth 100000 in
theorem walk (A0_0 : Option Addr) (n0_0 c0_0 : Nat) (x0_0 : List Int) (A1_0 : Option Addr) (n1_0 c1_0 : Nat) (x1_0 : List Int) (A2_0 : Option Addr) (n2_0 c2_0 : Nat) (x2_0 : List Int) (w : World) (h0_0 : RI w A0_0 n0_0 x0_0) (h1_0 : RI w A1_0 n1_0 x1_0) (h2_0 : RI w A2_0 n2_0 x2_0) (m0_0 : n0_0 ≤ 9223372036854775807) (m1_0 : n1_0 ≤ 9223372036854775807) (m2_0 : n2_0 ≤ 9223372036854775807) :
    Calls Try.prog 7 #[.agg #[.slice A0_0 n0_0 c0_0], .slice A1_0 n1_0 c1_0, .slice A2_0 n2_0 c2_0] w fun e w' => e = .returned (.bool true) ∧ Below w.heap.size w w' := by
  go_enter Try.func7, Try.ntmps7
  have hB : Below w.heap.size w w := Below.refl _ _
  by_cases q1 : n1_0 ≤ 1048576
  rotate_left
  · go_wp2_with fail
    go_ret
    exact ⟨rfl, (hB.alloc (by have := hB.size; simp <;> omega) _)⟩
  by_cases q2 : n2_0 ≤ 1048576
  rotate_left
  · go_wp2_with fail
    go_ret
    exact ⟨rfl, (hB.alloc (by have := hB.size; simp <;> omega) _)⟩
  go_wp2_with fail
  refine (szSig_any A0_0 n0_0 c0_0 (1048576) _ (by omega) (by omega) m0_0).mono ?_
  rintro e w1 ⟨rfl, hb1⟩
  have s1 : w.heap.size + 1 ≤ w1.heap.size := by have := hb1.size; first | omega | (simp at this; omega)
  have bx0 : w1.cell? ⟨w.heap.size, 0, none⟩ = some (.slice A0_0 n0_0 c0_0) := (hb1.cell (by simp <;> omega)).trans (by simp)
  replace hB : Below w.heap.size w w1 := below_then (hB.alloc (by have := hB.size; simp <;> omega) _) hb1 (by have := hB.size; simp <;> omega)
  clear hb1
  have z0 := szF_bd (left := 1048576) (n0_0) (by omega)
  obtain ⟨v0, e0⟩ : ∃ v, v = szF (1048576) (n0_0) := ⟨_, rfl⟩
  rw [← e0] at z0 ⊢
  clear e0
  by_cases q0 : v0 < 0
  · go_wp2_with fail
    go_ret
    exact ⟨rfl, hB⟩
  have g0 : n0_0 ≤ 1048576 := by omega
  have g1 := q1
  have g2 := q2
  go_wp2_with fail
  refine (toSig_any A0_0 n0_0 c0_0 x0_0 _ (h0_0.below hB) g0).mono ?_
  rintro e w2 ⟨as0_0, rfl, os0_0, hb2⟩
  have s2 : w1.heap.size + 0 ≤ w2.heap.size := by have := hb2.size; first | omega | (simp at this; omega)
  replace bx0 := keepC hb2 bx0
  replace hB : Below w.heap.size w w2 := below_then hB hb2 (by have := hB.size; simp <;> omega)
  clear hb2
  go_wp2_with fail
  refine (toInt64S_any A1_0 n1_0 c1_0 x1_0 _ (h1_0.below hB) g1).mono ?_
  rintro e w3 ⟨as1_0, rfl, os1_0, hb3⟩
  have s3 : w2.heap.size + 0 ≤ w3.heap.size := by have := hb3.size; first | omega | (simp at this; omega)
  replace os0_0 := os0_0.below hb3
  replace bx0 := keepC hb3 bx0
  replace hB : Below w.heap.size w w3 := below_then hB hb3 (by have := hB.size; simp <;> omega)
  clear hb3
  go_wp2_with fail
  refine (toInt64S_any A2_0 n2_0 c2_0 x2_0 _ (h2_0.below hB) g2).mono ?_
  rintro e w4 ⟨as2_0, rfl, os2_0, hb4⟩
  have s4 : w3.heap.size + 0 ≤ w4.heap.size := by have := hb4.size; first | omega | (simp at this; omega)
  replace os0_0 := os0_0.below hb4
  replace os1_0 := os1_0.below hb4
  replace bx0 := keepC hb4 bx0
  replace hB : Below w.heap.size w w4 := below_then hB hb4 (by have := hB.size; simp <;> omega)
  clear hb4
  go_wp2_with fail
  refine (S_VariantIn (some ⟨as0_0, 0, none⟩) n0_0 n0_0 x0_0 (some ⟨as1_0, 0, none⟩) n1_0 n1_0 x1_0 (some ⟨as2_0, 0, none⟩) n2_0 n2_0 x2_0 _ os0_0.rd os1_0.rd os2_0.rd g0 g1 g2).mono ?_
  rintro e w5 ⟨rfl, hb5⟩
  have s5 : w4.heap.size + 0 ≤ w5.heap.size := by have := hb5.size; first | omega | (simp at this; omega)
  replace os0_0 := os0_0.below hb5
  replace os1_0 := os1_0.below hb5
  replace os2_0 := os2_0.below hb5
  replace bx0 := keepC hb5 bx0
  replace hB : Below w.heap.size w w5 := below_then hB hb5 (by have := hB.size; simp <;> omega)
  clear hb5
  clear os0_0
  clear os1_0
  clear os2_0
  go_wp2_with fail
  refine (toSig_any A0_0 n0_0 c0_0 x0_0 _ (h0_0.below hB) g0).mono ?_
  rintro e w6 ⟨ax0_0, rfl, ox0_0, hb6⟩
  have s6 : w5.heap.size + 0 ≤ w6.heap.size := by have := hb6.size; first | omega | (simp at this; omega)
  replace bx0 := keepC hb6 bx0
  replace hB : Below w.heap.size w w6 := below_then hB hb6 (by have := hB.size; simp <;> omega)
  clear hb6
  go_wp2_with fail
  refine (toInt64S_any A1_0 n1_0 c1_0 x1_0 _ (h1_0.below (hB.alloc (by have := hB.size; simp <;> omega) _)) g1).mono ?_
  rintro e w7 ⟨ax1_0, rfl, ox1_0, hb7⟩
  have s7 : w6.heap.size + 1 ≤ w7.heap.size := by have := hb7.size; first | omega | (simp at this; omega)
  replace ox0_0 := (ox0_0.below ((Below.refl _ _).alloc (Nat.le_refl _) _)).below hb7
  replace bx0 := keepC hb7 (keepC ((Below.refl _ _).alloc (Nat.le_refl _) _) bx0)
  have by0 : w7.cell? ⟨w6.heap.size, 0, none⟩ = some (.slice (some ⟨ax0_0, 0, none⟩) n0_0 n0_0) := (hb7.cell (by simp <;> omega)).trans (by simp)
  replace hB : Below w.heap.size w w7 := below_then (hB.alloc (by have := hB.size; simp <;> omega) _) hb7 (by have := hB.size; simp <;> omega)
  clear hb7
  go_wp2_with fail
  refine (toInt64S_any A2_0 n2_0 c2_0 x2_0 _ (h2_0.below hB) g2).mono ?_
  rintro e w8 ⟨ax2_0, rfl, ox2_0, hb8⟩
  have s8 : w7.heap.size + 0 ≤ w8.heap.size := by have := hb8.size; first | omega | (simp at this; omega)
  replace ox0_0 := ox0_0.below hb8
  replace ox1_0 := ox1_0.below hb8
  replace bx0 := keepC hb8 bx0
  replace by0 := keepC hb8 by0
  replace hB : Below w.heap.size w w8 := below_then hB hb8 (by have := hB.size; simp <;> omega)
  clear hb8
  go_wp2_with fail
  refine (I_VariantIn (some ⟨ax0_0, 0, none⟩) n0_0 n0_0 x0_0 (some ⟨ax1_0, 0, none⟩) n1_0 n1_0 x1_0 (some ⟨ax2_0, 0, none⟩) n2_0 n2_0 x2_0 _ ox0_0.rd ox1_0.rd ox2_0.rd g0 g1 g2).mono ?_
  rintro e w9 ⟨rfl, hb9⟩
  have s9 : w8.heap.size + 0 ≤ w9.heap.size := by have := hb9.size; first | omega | (simp at this; omega)
  replace ox0_0 := ox0_0.below hb9
  replace ox1_0 := ox1_0.below hb9
  replace ox2_0 := ox2_0.below hb9
  replace bx0 := keepC hb9 bx0
  replace by0 := keepC hb9 by0
  replace hB : Below w.heap.size w w9 := below_then hB hb9 (by have := hB.size; simp <;> omega)
  clear hb9
  go_wp2_with fail
  go_region_held3 (fun w' => Below w9.heap.size w9 w' ∧ w'.cell? ⟨w6.heap.size, 0, none⟩ = some (.slice (some ⟨ax0_0, 0, none⟩) n0_0 n0_0) ∧ w'.cell? ⟨w.heap.size, 0, none⟩ = some (.slice A0_0 n0_0 c0_0))
    (first | exact ⟨(Below.refl _ _).drew, by0, bx0⟩ | exact keepS2 ha1 (by assumption) | exact keepS2 ha2 (by assumption))
    ((first | (go_at_call 17; refine (toSig_any A0_0 n0_0 c0_0 x0_0 _ ?_ g0).mono ?_; exact riS (h0_0.below hB) (by assumption); rintro e wa ⟨a0, rfl, oa0, ha1⟩) | (go_at_call 21; refine (eqSig_same (some ⟨ax0_0, 0, none⟩) n0_0 n0_0 x0_0 _ _ _ ?_ ?_ (by omega)).mono ?_; exact ox0_0.rd.below (And.left (by assumption)); exact oa0.rd; rintro e w10 ⟨rfl, ha2⟩)))
  rename_i hS
  have hb10 := hS.1
  clear hS oa0 ha1 ha2
  have s10 : w9.heap.size + 0 ≤ w10.heap.size := by have := hb10.size; first | omega | (simp at this; omega)
  replace ox0_0 := ox0_0.below hb10
  replace ox1_0 := ox1_0.below hb10
  replace ox2_0 := ox2_0.below hb10
  replace bx0 := keepC hb10 bx0
  replace by0 := keepC hb10 by0
  replace hB : Below w.heap.size w w10 := below_then hB hb10 (by have := hB.size; simp <;> omega)
  clear hb10
  go_wp2_with fail
  refine (toInt64S_any A1_0 n1_0 c1_0 x1_0 _ (h1_0.below hB) g1).mono ?_
  rintro e w11 ⟨ar1_0, rfl, or1_0, hb11⟩
  have s11 : w10.heap.size + 0 ≤ w11.heap.size := by have := hb11.size; first | omega | (simp at this; omega)
  replace ox0_0 := ox0_0.below hb11
  replace ox1_0 := ox1_0.below hb11
  replace ox2_0 := ox2_0.below hb11
  replace bx0 := keepC hb11 bx0
  replace by0 := keepC hb11 by0
  replace hB : Below w.heap.size w w11 := below_then hB hb11 (by have := hB.size; simp <;> omega)
  clear hb11
  go_wp2_with fail
  refine (eqInt64S_any (some ⟨ax1_0, 0, none⟩) n1_0 n1_0 x1_0 (some ⟨ar1_0, 0, none⟩) n1_0 n1_0 x1_0 _ ox1_0.rd or1_0.rd (by omega)).mono ?_
  rintro e w12 ⟨rfl, hb12⟩
  have s12 : w11.heap.size + 0 ≤ w12.heap.size := by have := hb12.size; first | omega | (simp at this; omega)
  replace ox0_0 := ox0_0.below hb12
  replace ox1_0 := ox1_0.below hb12
  replace ox2_0 := ox2_0.below hb12
  replace or1_0 := or1_0.below hb12
  replace bx0 := keepC hb12 bx0
  replace by0 := keepC hb12 by0
  replace hB : Below w.heap.size w w12 := below_then hB hb12 (by have := hB.size; simp <;> omega)
  clear hb12
  clear or1_0
  go_wp2_with fail
  refine (toInt64S_any A2_0 n2_0 c2_0 x2_0 _ (h2_0.below hB) g2).mono ?_
  rintro e w13 ⟨ar2_0, rfl, or2_0, hb13⟩
  have s13 : w12.heap.size + 0 ≤ w13.heap.size := by have := hb13.size; first | omega | (simp at this; omega)
  replace ox0_0 := ox0_0.below hb13
  replace ox1_0 := ox1_0.below hb13
  replace ox2_0 := ox2_0.below hb13
  replace bx0 := keepC hb13 bx0
  replace by0 := keepC hb13 by0
  replace hB : Below w.heap.size w w13 := below_then hB hb13 (by have := hB.size; simp <;> omega)
  clear hb13
  go_wp2_with fail
  refine (eqInt64S_any (some ⟨ax2_0, 0, none⟩) n2_0 n2_0 x2_0 (some ⟨ar2_0, 0, none⟩) n2_0 n2_0 x2_0 _ ox2_0.rd or2_0.rd (by omega)).mono ?_
  rintro e w14 ⟨rfl, hb14⟩
  have s14 : w13.heap.size + 0 ≤ w14.heap.size := by have := hb14.size; first | omega | (simp at this; omega)
  replace ox0_0 := ox0_0.below hb14
  replace ox1_0 := ox1_0.below hb14
  replace ox2_0 := ox2_0.below hb14
  replace or2_0 := or2_0.below hb14
  replace bx0 := keepC hb14 bx0
  replace by0 := keepC hb14 by0
  replace hB : Below w.heap.size w w14 := below_then hB hb14 (by have := hB.size; simp <;> omega)
  clear hb14
  clear or2_0
  go_wp2_with fail
  go_ret
  exact ⟨rfl, hB⟩

theorem own : ownKnob Try.prog.godebug = none := by kernel_rfl
theorem laidOut : laidOutB Try.prog = true := by kernel_rfl

set_option maxRecDepth 100000 in
theorem lifted (os : Os) (started : os.Started) (H : Type) (enc : TypeId × Value → H) :
    ReturnsInHanded {} Try.checked os 7 .any (Rows.fnExactVariantInSpec.pre6 enc Try.prog Try.f7 Rows.fnExactVariantInRow.domain false) (Rows.fnExactVariantInSpec.post enc Try.prog Try.f7 false true false false) := by
  refine returnsInHanded_of_change (C := Try.checked) own started (by kernel_rfl) Try.func7
    (ChangeSpec.witness6 (enc := enc) (C := Try.checked) false ⟨#[], #[.agg #[.slice none 0 0], .slice none 0 0, .slice none 0 0], []⟩ 8 (by kernel_rfl) (by kernel_rfl) (by kernel_rfl) (by kernel_rfl)) ?_
  intro W base args ds gs before hval0 hW hcnd _
  have hval : ∀ (j : Nat) t v, Try.f7.params[j]? = some t → args[j]? = some v → Value.okWide Try.prog W .any base t v := hval0
  have hW' := hW
  obtain ⟨p, q, hA0, hV, rfl, hfz, hnd⟩ := hW
  have hA : DataW.TrodAll enc Try.prog W 0 (fun _ => true) true Try.f7.params.toList args.toList ds p := hA0
  rw [Try.params7] at hA hval
  obtain ⟨v0, vs0, d0, ds0, p0, q0, hargs, rfl, rfl, h0, r0⟩ := trodAll_cons hA
  obtain ⟨v1, vs1, d1, ds1, p1, q1, rfl, rfl, rfl, h1, r1⟩ := trodAll_cons r0
  obtain ⟨v2, vs2, d2, ds2, p2, q2, rfl, rfl, rfl, h2, r2⟩ := trodAll_cons r1
  obtain ⟨rfl, rfl, rfl⟩ := trodAll_nil r2
  obtain rfl : args = #[v0, v1, v2] := by cases args; simp_all
  obtain ⟨rfl, rfl⟩ := trodVars_none hV
  have k0 := h0
  have lt0 : ∀ x ∈ p0, x.block < W.heap.size := by obtain ⟨m, hm⟩ := k0; exact DataW.trod_lt m _ _ _ hm
  obtain ⟨A0_0, n0_0, c0_0, z0_0, rfl, R0_0, M0_0⟩ := open_one Try.underlying24 (by kernel_rfl) rfl rfl (by kernel_rfl) Try.underlying22 Try.underlying2 (by kernel_rfl) (hval 0 24 v0 rfl rfl) h0
  unfold maxLen at M0_0
  have k1 := h1
  have lt1 : ∀ x ∈ p1, x.block < W.heap.size := by obtain ⟨m, hm⟩ := k1; exact DataW.trod_lt m _ _ _ hm
  obtain ⟨A0_1, n0_1, c0_1, z0_1, rfl, R0_1, M0_1⟩ := open_slice64 Try.underlying22 Try.underlying2 (by kernel_rfl) (hval 1 22 v1 rfl rfl) h1
  unfold maxLen at M0_1
  have k2 := h2
  have lt2 : ∀ x ∈ p2, x.block < W.heap.size := by obtain ⟨m, hm⟩ := k2; exact DataW.trod_lt m _ _ _ hm
  obtain ⟨A0_2, n0_2, c0_2, z0_2, rfl, R0_2, M0_2⟩ := open_slice64 Try.underlying22 Try.underlying2 (by kernel_rfl) (hval 2 22 v2 rfl rfl) h2
  unfold maxLen at M0_2
  clear hA0 hval0
  refine (walk A0_0 n0_0 c0_0 z0_0 A0_1 n0_1 c0_1 z0_1 A0_2 n0_2 c0_2 z0_2 W R0_0 R0_1 R0_2 (by omega) (by omega) (by omega)).mono fun e W' ⟨he, bel⟩ => ?_
  subst he
  exact ⟨_, rfl, _, _, _, [], _, [], hW', trodAll_mk1 (shut_bool Try.underlying4 _), (trodAll_cons_mk (Below.trod laidOut (by kernel_rfl) (of_decide_eq_true (by kernel_rfl)) k0 bel lt0) (trodAll_cons_mk (Below.trod laidOut (by kernel_rfl) (of_decide_eq_true (by kernel_rfl)) k1 bel lt1) (trodAll_cons_mk (Below.trod laidOut (by kernel_rfl) (of_decide_eq_true (by kernel_rfl)) k2 bel lt2) trodAll_mk0))), rfl, bel.frame _, fun h => by cases h⟩

theorem over : Rows.fnExactVariantInRow.holds Try.pinned (OpenSpec.ofChange Rows.fnExactVariantInSpec) :=
  OpenClaim.holds_of_wide 7 Try.f7 rfl rfl rfl rfl rfl rfl rfl ⟨rfl, rfl, rfl, rfl, rfl⟩ rfl rfl rfl rfl rfl (by kernel_rfl) Try.func7 (by kernel_rfl)
    (of_decide_eq_true (by kernel_rfl)) (by unfold Func.isWrapper; first | (rw [if_pos (by decide +kernel)]; kernel_rfl) | (rw [if_neg (by decide +kernel)]; exact ⟨rfl, rfl⟩))
    (fun os started H enc _ => lifted os started H enc)

theorem proved : Rows.FnExactVariantInSaid := over
end Go.Proofs.Ytkonnbkldjgomaa.lVariantIn
