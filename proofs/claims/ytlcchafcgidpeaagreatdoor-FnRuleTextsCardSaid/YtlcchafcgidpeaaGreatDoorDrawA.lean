/- Contracts: a drawn term, bent sometimes. -/
import Derived.Test.YtlcchafcgidpeaaGreatDoorDrawT
import Derived.Test.YtlcchafcgidpeaaGreatDoorDrawC
namespace Go.Proofs.YtlcchafcgidpeaaGreatDoor
open Go.RowKit
set_option linter.unusedVariables false
set_option linter.unusedSimpArgs false

set_option maxHeartbeats 8000000 in
set_option maxRecDepth 20000 in
theorem l1DrawAny_any (cb : Nat) (A : Option Addr) (n c : Nat) (S : Option Addr) (m d' : Nat) (xs : List Int) (w : World) (h : Dcur w cb A n c) (hr : RB w (cb + 1) S m xs) (hm : m ≤ 9) :
    Calls Tryz.prog 46 #[.pointer (some ⟨cb, 0, none⟩), .agg #[.slice S m d']] w fun e w' => ∃ (T : Option Addr) (k d : Nat) (t : List Int), e = .returned (.slice T k d) ∧ RB w' w.heap.size T k t ∧ k ≤ 60 ∧ (k ≤ d ∧ d ≤ 9223372036854775807) ∧ Dcur w' cb A n c ∧ Only cb (cb + 1) w w' := by
  have hlt := h.lt
  obtain ⟨i0, hi, hz0, hz1, hz2⟩ := info_parts infoInt64
  have hl := hr.1.1
  have bx := Blk.new w 26 #[.slice S m d']
  have hC := h.alloc (.cells #[.slice S m d'] 26)
  have hO := (Only.refl cb (cb + 1) w).alloc (.cells #[.slice S m d'] 26)
  have hR := hr.below ((Below.refl _ _).alloc (Nat.le_refl _) (.cells #[.slice S m d'] 26))
  have hs0 := bx.lt
  have KX : ∀ i, (w.alloc (.cells #[.slice S m d'] 26)).cell? ⟨w.heap.size, i, none⟩ = #[Value.slice S m d'][i]? := fun i => bx.cell i
  by_cases hm0 : m = 0
  · subst hm0
    go_enter Tryz.func46, Tryz.ntmps46
    go_wp2_with fail
    refine (l1From_any cb A n c (-2) 2 _ hC (by omega) (by omega) (by omega) (by omega)).mono ?_
    rintro e w1 ⟨x, rfl, hx0, hx1, hC1, ho1⟩
    have hs1 := ho1.size
    go_wp2_with fail
    go_ret
    exact ⟨_, 1, 1, [x], rfl, ((OI.of_blk (xs := [x]) (Blk.new w1 2 #[.int .i64 x]) (by show 1 ≤ 1048576; omega)).base (by omega)).rb, by omega, by omega, hC1.alloc _, (hO.trans ho1).alloc _⟩
  · have em : ((m : Int) == 0) = false := by simp; omega
    cases hsg : Pl.sigOk xs
    · have HS := Lib.hid hsg
      clear hsg
      go_enter Tryz.func46, Tryz.ntmps46
      go_wp2_with fail
      refine (specSigOk_any S m d' xs _ hR.1 (by omega)).mono ?_
      rintro e w1 ⟨rfl, hb1⟩
      rw [HS.out]
      have hC1 := hC.below hb1
      have hO1 := hO.thenB hb1 (by omega)
      have hs1 := hb1.size
      go_wp2_with fail
      refine (l1From_any cb A n c (-2) 2 _ hC1 (by omega) (by omega) (by omega) (by omega)).mono ?_
      rintro e w2 ⟨x, rfl, hx0, hx1, hC2, ho2⟩
      have hs2 := ho2.size
      go_wp2_with fail
      go_ret
      exact ⟨_, 1, 1, [x], rfl, ((OI.of_blk (xs := [x]) (Blk.new w2 2 #[.int .i64 x]) (by show 1 ≤ 1048576; omega)).base (by omega)).rb, by omega, by omega, hC2.alloc _, (hO1.trans ho2).alloc _⟩
    · have HS := Lib.hid hsg
      clear hsg
      go_enter Tryz.func46, Tryz.ntmps46
      go_wp2_with fail
      refine (specSigOk_any S m d' xs _ hR.1 (by omega)).mono ?_
      rintro e w1 ⟨rfl, hb1⟩
      rw [HS.out]
      replace hC := hC.below hb1
      replace hO := hO.thenB hb1 (by omega)
      replace hR := hR.below hb1
      replace bx := bx.below hb1
      have hs1 := bx.lt
      clear hb1 KX
      have KX : ∀ i, w1.cell? ⟨w.heap.size, i, none⟩ = #[Value.slice S m d'][i]? := fun i => bx.cell i
      go_wp2_with fail
      go_region_law (first
        | (go_simp; go_at_call 47; refine (l1Below_any cb A n c 4 _ ?_ (by omega)).mono ?_; (first | exact hC | exact hC.drew); rintro e w2 ⟨x, rfl, hx0, hx1, hx2, hC2, ho2⟩; have bx2 := bx.only (Only.drewL ho2) (Or.inr (by omega)); have KX2 : ∀ i, w2.cell? ⟨w.heap.size, i, none⟩ = #[Value.slice S m d'][i]? := fun i => bx2.cell i; have hx3 := hx1 (by omega); have hw : IntKind.i64.wrap (1 + x) ≤ 4 := (by rw [IntKind.wrap_i64]; omega); have hR2 := hR.up (Only.drewL ho2) (Nat.le_refl _); have hO2 := hO.trans (Only.drewL ho2))
        | (go_simp; go_at_call 70; refine (l1DrawTerm_any cb A n c S m d' xs HS.out 3 (by omega) (by omega) 3 (IntKind.i64.wrap (1 + x)) w2 (by omega) (by omega) hC2 hR2).mono ?_; rintro e w3 ⟨T, k, d, t, rfl, hoT, hk1, hk2, hrun, hC3, ho3⟩))
      all_goals (
        have HI := Lib.hid (hoT.base (B' := w.heap.size + 1) (by have := bx2.lt; omega))
        have hO3 := hO2.trans ho3
        have hk4 : k ≤ 40 := hk2
        have hs3 := (bx2.only ho3 (Or.inr (by omega))).lt
        have hcapT : k ≤ d ∧ d ≤ 9223372036854775807 := by
          obtain ⟨A3, c3, hv, hcap, hmx⟩ := own_form hoT
          unfold maxLen at hmx
          have : d = c3 := by simp at hv; exact hv.2
          omega
        have hlt0 := hoT.ri.1
        clear hoT hO2 ho3 ho2 hC2 hR2 hC hO hR bx bx2 KX KX2 hrun hk2 hx1 hx2
        replace hC3 := hC3
        go_wp2_with fail
        refine (l1Once_any cb A n c 12 w3 hC3 (by omega)).mono ?_
        rintro e w4 ⟨b, rfl, hC4, ho4⟩
        replace HI := Lib.hid (HI.out.up ho4 (by omega))
        have hO4 := hO3.trans ho4
        have hs4 : w.heap.size < w4.heap.size := by have := ho4.size; omega
        clear ho4 hO3 hC3
        cases b
        · go_wp2_with fail
          go_ret
          exact ⟨T, k, d, t, rfl, (HI.out.base (by omega)).rb, by omega, hcapT, hC4, hO4⟩
        · go_wp2_with fail
          refine (l1Below_any cb A n c 4 w4 hC4 (by omega)).mono ?_
          rintro e w5 ⟨z, rfl, hz0', hz1', _, hC5, ho5⟩
          replace HI := Lib.hid (HI.out.up ho5 (by omega))
          have hO5 := hO4.trans ho5
          have hs5 : w.heap.size < w5.heap.size := by have := ho5.size; omega
          have hz3 := hz1' (by omega)
          clear ho5 hO4 hC4 hz1'
          obtain rfl | rfl | rfl | rfl : z = 0 ∨ z = 1 ∨ z = 2 ∨ z = 3 := by omega
          · go_wp2_with fail
            refine (l1From_any cb A n c (-2) 3 w5 hC5 (by omega) (by omega) (by omega) (by omega)).mono ?_
            rintro e w6 ⟨y, rfl, hy0, hy1, hC6, ho6⟩
            replace HI := Lib.hid (HI.out.up ho6 (by omega))
            have hO6 := hO5.trans ho6
            have hs6 : w.heap.size < w6.heap.size := by have := ho6.size; omega
            have howa := Lib.hid (ownsRow_below HI.out ((Below.refl _ w6).alloc (Nat.le_refl _) (.cells #[.int .i64 y] 2)))
            go_wp2_with (at_builtin; refine wpList_append_any rfl _ _ 24 rfl (w.heap.size + 1) 2 i0 (.int .i64 0) 1 8 Tryz.underlying24 hi hz0 hz1 hz2 rfl (by omega) T k d (t.map (Value.int .i64)) rfl howa.out _ 1 _ [.int .i64 y] rfl (Src.new w6 [.int .i64 y] _ 1 1 rfl (by simp [Value.oneCell'])) (by unfold maxLen; omega) (by omega) (by simp; omega) ?_; intro A2 c2 w7 ho7 hg7 hnil7)
            have hgb := app_below hg7 howa.out (by omega)
            have HI7 : OI w7 (w.heap.size + 1) A2 (k + 1) c2 (t ++ [y]) := by unfold OI; rw [List.map_append]; exact ho7
            have hC7 := hC6.belowB hgb (by omega)
            have hO7 := hO6.thenB hgb (by omega)
            have hcap := (own_form ho7)
            go_ret
            obtain ⟨A3, c3, hv, hcap, hmx⟩ := hcap
            unfold maxLen at hmx
            obtain ⟨rfl, rfl⟩ : A2 = A3 ∧ c2 = c3 := by simp at hv; exact ⟨hv.1, hv.2⟩
            exact ⟨A2, k + 1, c2, t ++ [y], rfl, (HI7.base (by omega)).rb, by omega, ⟨hcap, by omega⟩, hC7, hO7⟩
          · go_wp2_with fail
            refine (l1Below_any cb A n c k w5 hC5 (by omega)).mono ?_
            rintro e w6 ⟨i, rfl, hi0', hi1', _, hC6, ho6⟩
            have hi3 := hi1' (by omega)
            replace HI := Lib.hid (HI.out.up ho6 (by omega))
            have hO6 := hO5.trans ho6
            have hs6 : w.heap.size < w6.heap.size := by have := ho6.size; omega
            clear ho6 hO5 hC5 hi1'
            go_wp2_with fail
            refine (l1From_any cb A n c (-3) 4 w6 hC6 (by omega) (by omega) (by omega) (by omega)).mono ?_
            rintro e w7 ⟨y, rfl, hy0, hy1, hC7, ho7⟩
            replace HI := Lib.hid (HI.out.up ho7 (by omega))
            have hO7 := hO6.trans ho7
            have hs7 : w.heap.size < w7.heap.size := by have := ho7.size; omega
            clear ho7 hO6 hC6
            obtain ⟨j, rfl⟩ : ∃ j : Nat, i = j := ⟨i.toNat, by omega⟩
            obtain ⟨g, hA, hg1⟩ : ∃ g, T = some ⟨g, 0, none⟩ ∧ w.heap.size + 1 ≤ g := by
              rcases HI.out.2 with ⟨_, h0⟩ | ⟨g, cap, cur, hv, hB, _⟩
              · omega
              · have hA : T = some ⟨g, 0, none⟩ := by injection hv
                exact ⟨g, hA, hB⟩
            subst hA
            have hf := World.ownsRow.frozenAt HI.out j
            obtain ⟨vv, hcc⟩ := own_some HI.out (k := j) (by omega)
            have hst := (World.ownsRow.stored HI.out j (.int .i64 y)).1
            rw [← List.map_set] at hst
            have hB7 := (Below.refl (w.heap.size + 1) w7).setCell (p := ⟨g, j, none⟩) hg1 (.int .i64 y)
            go_wp2_with fail
            go_ret
            exact ⟨_, k, d, t.set j y, rfl, (OI.base (show OI _ _ _ _ _ _ from hst) (by omega)).rb, by omega, hcapT, hC7.belowB hB7 (by omega), hO7.thenB hB7 (by omega)⟩
          · obtain ⟨g, hA, hg1⟩ : ∃ g, T = some ⟨g, 0, none⟩ ∧ w.heap.size + 1 ≤ g := by
              rcases HI.out.2 with ⟨_, h0⟩ | ⟨g, cap, cur, hv, hB, _⟩
              · omega
              · have hA : T = some ⟨g, 0, none⟩ := by injection hv
                exact ⟨g, hA, hB⟩
            subst hA
            by_cases hd1 : d = 1
            · subst hd1
              obtain rfl : k = 1 := by omega
              go_wp2_with fail
              go_ret
              exact ⟨_, 0, 0, [], rfl, ⟨⟨rfl, fun h0 => by omega⟩, fun h0 => by omega⟩, by omega, by omega, hC5, hO5⟩
            · have hp := ri_part HI.out.ri 1 k (by omega) (by omega)
              go_wp2_with fail
              go_ret
              exact ⟨_, k - 1, d - 1, _, rfl, ⟨hp, fun _ a ha => by cases ha; simp; omega⟩, by omega, by omega, hC5, hO5⟩
          · go_wp2_with fail
            refine (l1Odd_any cb A n c w5 hC5).mono ?_
            rintro e w6 ⟨y, rfl, hC6, ho6⟩
            replace HI := Lib.hid (HI.out.up ho6 (by omega))
            have hO6 := hO5.trans ho6
            have hs6 : w.heap.size < w6.heap.size := by have := ho6.size; omega
            have howa := Lib.hid (ownsRow_below HI.out ((Below.refl _ w6).alloc (Nat.le_refl _) (.cells #[.int .i64 y] 2)))
            go_wp2_with (at_builtin; refine wpList_append_any rfl _ _ 24 rfl (w.heap.size + 1) 2 i0 (.int .i64 0) 1 8 Tryz.underlying24 hi hz0 hz1 hz2 rfl (by omega) T k d (t.map (Value.int .i64)) rfl howa.out _ 1 _ [.int .i64 y] rfl (Src.new w6 [.int .i64 y] _ 1 1 rfl (by simp [Value.oneCell'])) (by unfold maxLen; omega) (by omega) (by simp; omega) ?_; intro A2 c2 w7 ho7 hg7 hnil7)
            have hgb := app_below hg7 howa.out (by omega)
            have HI7 : OI w7 (w.heap.size + 1) A2 (k + 1) c2 (t ++ [y]) := by unfold OI; rw [List.map_append]; exact ho7
            have hC7 := hC6.belowB hgb (by omega)
            have hO7 := hO6.thenB hgb (by omega)
            have hcap := (own_form ho7)
            go_ret
            obtain ⟨A3, c3, hv, hcap, hmx⟩ := hcap
            unfold maxLen at hmx
            obtain ⟨rfl, rfl⟩ : A2 = A3 ∧ c2 = c3 := by simp at hv; exact ⟨hv.1, hv.2⟩
            exact ⟨A2, k + 1, c2, t ++ [y], rfl, (HI7.base (by omega)).rb, by omega, ⟨hcap, by omega⟩, hC7, hO7⟩)
end Go.Proofs.YtlcchafcgidpeaaGreatDoor
