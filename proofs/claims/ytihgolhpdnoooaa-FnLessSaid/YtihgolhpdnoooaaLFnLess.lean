/- The law FnLess: whatever the input, it returns true and leaves its argument alone. -/
import Derived.Test.YtihgolhpdnoooaaOpenB
import Derived.Test.YtihgolhpdnoooaaDrawE
import Derived.Test.YtihgolhpdnoooaaLss
import Derived.Test.YtihgolhpdnoooaaCmp
import Derived.Test.YtihgolhpdnoooaaCnt
import Derived.Test.YtihgolhpdnoooaaTop1
import Derived.Test.YtihgolhpdnoooaaDice
import Derived.Test.YtihgolhpdnoooaaRows
namespace Go.Proofs.Ytihgolhpdnoooaa.lFnLess
open Go.RowKit Go.ChangeShapes Go.WideShapes Go.ChangeAt
set_option linter.unusedVariables false
set_option linter.unusedSimpArgs false

/-- The counts so far. -/
def many (xs t : List Int) (k : Nat) : Nat := if Pl.termOk xs t then Pl.cntIn t (-24) k else 0
theorem many_zero (xs t : List Int) : many xs t 0 = 0 := by unfold many; split <;> simp [Pl.cntIn_zero]
theorem many_step (xs t : List Int) (k : Nat) : (many xs t (k + 1) : Int) = many xs t k + countOf xs t (-24 + k) := by
  unfold many countOf
  split
  · rename_i h
    simp [h, Pl.cntIn_step]
  · rename_i h
    simp [h]
theorem many_all {xs t : List Int} (h : Pl.termOk xs t = true) : many xs t 32 = t.length := by unfold many; rw [if_pos h, Pl.cntIn_all h]
theorem many_le (xs t : List Int) (k : Nat) : many xs t k ≤ t.length := by
  unfold many Pl.cntIn; split
  · exact List.length_filter_le _ _
  · omega
theorem three (a b : List Int) : (Pl.lessT a b = true ∧ Pl.lessT b a = false ∧ decide (a = b) = false) ∨ (Pl.lessT a b = false ∧ Pl.lessT b a = true ∧ decide (a = b) = false) ∨ (Pl.lessT a b = false ∧ Pl.lessT b a = false ∧ decide (a = b) = true) := by
  have h := Pl.less_three a b
  cases h1 : Pl.lessT a b <;> cases h2 : Pl.lessT b a <;> by_cases h3 : a = b <;> rw [h1, h2] at h <;> simp [h3] at h ⊢
set_option maxHeartbeats 4000000 in
set_option maxRecDepth 20000 in
theorem walk (A : Option Addr) (n c : Nat) (w : World) (h : BI w A n) (hn : n ≤ 9223372036854775807) :
    Calls Try.prog 4 #[.slice A n c] w fun e w' => e = .returned (.bool true) ∧ Below w.heap.size w w' := by
  by_cases hb : 4096 < n
  · have E := Lib.hid (decide_eq_true hb)
    go_enter Try.func4, Try.ntmps4
    go_wp2_with fail
    refine (big_any A n c _ hn).mono ?_
    rintro e w1 ⟨rfl, rfl⟩
    rw [E.out]
    go_wp2_with fail
    go_ret
    exact ⟨rfl, Below.refl _ _⟩
  have hn2 : n ≤ 4096 := by omega
  have E := Lib.hid (decide_eq_false hb)
  clear hb
  go_enter Try.func4, Try.ntmps4
  go_wp2_with fail
  refine (big_any A n c _ hn).mono ?_
  rintro e w1 ⟨rfl, rfl⟩
  rw [E.out]
  go_wp2_with fail
  refine (DrawLessTerm_any A n c w h hn2).mono ?_
  rintro e w1 ⟨S, m, d', xs, T, k, d, t, rfl, hS, hm, hT, hk, hB⟩
  replace h := h.below hB
  go_wp2_with fail
  refine (DrawDepthOf_any A n c w1 h hn2).mono ?_
  rintro e w2 ⟨G, mg, cg, ar, U, u, cu, z, rfl, hG, hmg, hU, hu, _, hb2⟩
  replace hS := hS.below hb2
  replace hT := hT.below hb2
  replace hB := below_then hB hb2 hB.size
  clear hb2
  clear h
  have bx : (w2.alloc (.cells #[.slice G mg cg] 26)).cell? ⟨w2.heap.size, 0, none⟩ = some (.slice G mg cg) := (Blk.new w2 26 #[.slice G mg cg]).cell 0
  go_wp2_with fail
  replace hS := hS.alloc (.cells #[.slice G mg cg] 26)
  replace hT := hT.alloc (.cells #[.slice G mg cg] 26)
  replace hG := hG.alloc (.cells #[.slice G mg cg] 26)
  replace hU := hU.alloc (.cells #[.slice G mg cg] 26)
  replace hB := hB.alloc hB.size (.cells #[.slice G mg cg] 26)
  generalize w2.alloc (.cells #[.slice G mg cg] 26) = W2 at *
  generalize w2.heap.size = g2 at *
  refine (I_LessTerm S m d' xs T k d t W2 hS hT (by omega) (by omega)).mono ?_
  rintro e w3 ⟨rfl, hb3⟩
  replace hS := hS.below hb3
  replace hT := hT.below hb3
  replace hG := hG.below hb3
  replace hU := hU.below hb3
  replace bx := keepC hb3 bx
  replace hB := below_then hB hb3 hB.size
  clear hb3
  go_wp2_with fail
  refine (S_LessTerm S m d' xs T k d t w3 hS hT (by omega) (by omega)).mono ?_
  rintro e w4 ⟨rfl, hb4⟩
  replace hS := hS.below hb4
  replace hT := hT.below hb4
  replace hG := hG.below hb4
  replace hU := hU.below hb4
  replace bx := keepC hb4 bx
  replace hB := below_then hB hb4 hB.size
  clear hb4
  go_wp2_with fail
  refine (I_SameTerm S m d' xs T k d t w4 hS hT (by omega) (by omega)).mono ?_
  rintro e w5 ⟨rfl, hb5⟩
  replace hS := hS.below hb5
  replace hT := hT.below hb5
  replace hG := hG.below hb5
  replace hU := hU.below hb5
  replace bx := keepC hb5 bx
  replace hB := below_then hB hb5 hB.size
  clear hb5
  go_wp2_with fail
  refine (S_SameTerm S m d' xs T k d t w5 hS hT (by omega) (by omega)).mono ?_
  rintro e w6 ⟨rfl, hb6⟩
  replace hS := hS.below hb6
  replace hT := hT.below hb6
  replace hG := hG.below hb6
  replace hU := hU.below hb6
  replace bx := keepC hb6 bx
  replace hB := below_then hB hb6 hB.size
  clear hb6
  have hul := hU.1
  have htr := Lib.hid (fun (h1 : Pl.lessT xs t = true) (h2 : Pl.lessT t z = true) => Pl.less_trans h1 h2)
  have h3 := three xs t
  rcases h3 with ⟨a1, a2, a3⟩ | ⟨a1, a2, a3⟩ | ⟨a1, a2, a3⟩
  all_goals (
    rw [a1]
    try rw [a3]
    have A1 := Lib.hid a1
    have A2 := Lib.hid a2
    have A3 := Lib.hid a3
    clear a1 a2 a3
    go_wp2_with fail
    refine (I_LessTerm T k d t S m d' xs w6 hT hS (by omega) (by omega)).mono ?_
    rintro e w7 ⟨rfl, hb7⟩
    rw [A2.out]
    replace hS := hS.below hb7
    replace hT := hT.below hb7
    replace hG := hG.below hb7
    replace hU := hU.below hb7
    replace bx := keepC hb7 bx
    replace hB := below_then hB hb7 hB.size
    clear hb7
    go_wp2_with fail
    refine (I_SameTerm S m d' xs T k d t w7 hS hT (by omega) (by omega)).mono ?_
    rintro e w8 ⟨rfl, hb8⟩
    rw [A3.out]
    replace hS := hS.below hb8
    replace hT := hT.below hb8
    replace hG := hG.below hb8
    replace hU := hU.below hb8
    replace bx := keepC hb8 bx
    replace hB := below_then hB hb8 hB.size
    clear hb8
    go_wp2_with fail
    go_loopw [9, 10] (fun v9 v10 wr => ∃ i : Nat, i ≤ 32 ∧ v10 = .int .i64 (-24 + i) ∧ v9 = .int .i64 (many ar z i : Nat) ∧ Below w8.heap.size w8 wr) (fun _ v10 _ => (8 - intOf v10).toNat)
    case atStart => exact ⟨0, by omega, rfl, by rw [many_zero]; rfl, Below.refl _ _⟩
    case round =>
      obtain ⟨i, hi, rfl, rfl, hr⟩ := hrel
      have bxr := keepC hr bx
      have hml := many_le ar z i
      by_cases hlt : i < 32
      · have HS := Lib.hid (many_step ar z i)
        have hml2 := many_le ar z (i + 1)
        have hct : (countOf ar z (-24 + i) : Int) = many ar z (i + 1) - many ar z i := by rw [HS.out]; omega
        have hct2 : 0 ≤ countOf ar z (-24 + i) := by unfold countOf; split <;> omega
        go_wp2_with fail
        refine (I_CountOf G mg cg ar U u cu z (-24 + i) wr (hG.below hr) (hU.below hr) (by omega) (by omega)).mono ?_
        rintro e w9 ⟨rfl, hb9⟩
        have hcb : countOf ar z (-24 + i) ≤ 100 := by omega
        clear hct
        generalize countOf ar z (-24 + i) = cc at *
        go_wp2_with fail
        go_roundw
        case rel => exact ⟨i + 1, by omega, by go_num, by rw [HS.out], hr.trans (hb9.mono hr.size)⟩
        case measure => simp [intOf]; omega
      · obtain rfl : i = 32 := by omega
        have bxr2 := bxr
        go_wp2_with fail
        refine (S_TermOk G mg cg ar U u cu z wr (hG.below hr) (hU.below hr) (by omega) (by omega)).mono ?_
        rintro e w9 ⟨rfl, hb9⟩
        have hB9 := below_then (below_then hB hr hB.size) hb9 (Nat.le_trans hB.size hr.size)
        have hb8 := below_then hr hb9 hr.size
        have hS9 := hS.below hb8
        have hT9 := hT.below hb8
        have hU9 := hU.below hb8
        clear hS hT hG hU bx bxr bxr2 hr hb9 hb8 hB
        have hE : Hid (Pl.termOk ar z = true → many ar z 32 = u) := Lib.hid (fun h => by rw [many_all h, hul])
        generalize many ar z 32 = M at *
        cases hok : Pl.termOk ar z
        · clear hok
          go_wp2_with fail
          first
            | (go_ret; exact ⟨rfl, hB9⟩)
            | (refine (I_LessTerm T k d t U u cu z w9 hT9 hU9 (by omega) (by omega)).mono ?_
               rintro e w10 ⟨rfl, hb10⟩
               cases hl : Pl.lessT t z
               · clear hl
                 go_wp2_with fail
                 go_ret
                 exact ⟨rfl, below_then hB9 hb10 hB9.size⟩
               · have HX := Lib.hid (htr.out A1.out hl)
                 clear hl
                 go_wp2_with fail
                 refine (I_LessTerm S m d' xs U u cu z w10 (hS9.below hb10) (hU9.below hb10) (by omega) (by omega)).mono ?_
                 rintro e w11 ⟨rfl, hb11⟩
                 rw [HX.out]
                 go_wp2_with fail
                 go_ret
                 exact ⟨rfl, below_then (below_then hB9 hb10 hB9.size) hb11 (below_then hB9 hb10 hB9.size).size⟩)
        · obtain rfl : u = M := (hE.out hok).symm
          clear hok hE
          go_wp2_with fail
          first
            | (go_ret; exact ⟨rfl, hB9⟩)
            | (refine (I_LessTerm T k d t U u cu z w9 hT9 hU9 (by omega) (by omega)).mono ?_
               rintro e w10 ⟨rfl, hb10⟩
               cases hl : Pl.lessT t z
               · clear hl
                 go_wp2_with fail
                 go_ret
                 exact ⟨rfl, below_then hB9 hb10 hB9.size⟩
               · have HX := Lib.hid (htr.out A1.out hl)
                 clear hl
                 go_wp2_with fail
                 refine (I_LessTerm S m d' xs U u cu z w10 (hS9.below hb10) (hU9.below hb10) (by omega) (by omega)).mono ?_
                 rintro e w11 ⟨rfl, hb11⟩
                 rw [HX.out]
                 go_wp2_with fail
                 go_ret
                 exact ⟨rfl, below_then (below_then hB9 hb10 hB9.size) hb11 (below_then hB9 hb10 hB9.size).size⟩))

theorem own : ownKnob Try.prog.godebug = none := by kernel_rfl
theorem laidOut : laidOutB Try.prog = true := by kernel_rfl

set_option maxRecDepth 100000 in
theorem lifted (os : Os) (started : os.Started) (H : Type) (enc : TypeId × Value → H) :
    ReturnsInHanded {} Try.checked os 4 .any (Rows.fnLessSpec.pre6 enc Try.prog Try.f4 Rows.fnLessRow.domain false) (Rows.fnLessSpec.post enc Try.prog Try.f4 false true false false) := by
  refine returnsInHanded_of_change (C := Try.checked) own started (by kernel_rfl) Try.func4
    (ChangeSpec.witness6 (enc := enc) (C := Try.checked) false ⟨#[], #[.slice none 0 0], []⟩ 8 (by kernel_rfl) (by kernel_rfl) (by kernel_rfl) (by kernel_rfl)) ?_
  intro W base args ds gs before hval0 hW hcnd _
  have hval : ∀ (j : Nat) t v, Try.f4.params[j]? = some t → args[j]? = some v → Value.okWide Try.prog W .any base t v := hval0
  have hW' := hW
  obtain ⟨p, q, hA0, hV, rfl, hfz, hnd⟩ := hW
  have hA : DataW.TrodAll enc Try.prog W 0 (fun _ => true) true Try.f4.params.toList args.toList ds p := hA0
  rw [Try.params4] at hA hval
  obtain ⟨v0, vs0, d0, ds0, p0, q0, hargs, rfl, rfl, h0, r0⟩ := trodAll_cons hA
  obtain ⟨rfl, rfl, rfl⟩ := trodAll_nil r0
  obtain rfl : args = #[v0] := by cases args; simp_all
  obtain ⟨rfl, rfl⟩ := trodVars_none hV
  have k0 := h0
  have lt0 : ∀ x ∈ p0, x.block < W.heap.size := by obtain ⟨m, hm⟩ := k0; exact DataW.trod_lt m _ _ _ hm
  obtain ⟨A0, n0, c0, rfl, R0, M0⟩ := open_raw Try.underlying22 Try.underlying5 (by kernel_rfl) (hval 0 22 v0 rfl rfl) h0
  unfold maxLen at M0
  clear hA0 hval0
  refine (walk A0 n0 c0 W R0 (by omega)).mono fun e W' ⟨he, bel⟩ => ?_
  subst he
  exact ⟨_, rfl, _, _, _, [], _, [], hW', trodAll_mk1 (shut_bool Try.underlying4 _), (trodAll_cons_mk (Below.trod laidOut (by kernel_rfl) (of_decide_eq_true (by kernel_rfl)) k0 bel lt0) trodAll_mk0), rfl, bel.frame _, fun h => by cases h⟩

theorem over : Rows.fnLessRow.holds Try.pinned (OpenSpec.ofChange Rows.fnLessSpec) :=
  OpenClaim.holds_of_wide 4 Try.f4 rfl rfl rfl rfl rfl rfl rfl ⟨rfl, rfl, rfl, rfl, rfl⟩ rfl rfl rfl rfl rfl (by kernel_rfl) Try.func4 (by kernel_rfl)
    (of_decide_eq_true (by kernel_rfl)) (by unfold Func.isWrapper; first | (rw [if_pos (by decide +kernel)]; kernel_rfl) | (rw [if_neg (by decide +kernel)]; exact ⟨rfl, rfl⟩))
    (fun os started H enc _ => lifted os started H enc)

theorem proved : Rows.FnLessSaid := over
end Go.Proofs.Ytihgolhpdnoooaa.lFnLess
