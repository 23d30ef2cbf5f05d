/- Contracts: drawn signatures. -/
import Derived.Test.YtlcchafcgidpeaaGreatDoorDraw
import Derived.Test.YtlcchafcgidpeaaGreatDoorMat
import Derived.Deep.RegionLaw
namespace Go.Proofs.YtlcchafcgidpeaaGreatDoor
open Go.RowKit
set_option linter.unusedVariables false
set_option linter.unusedSimpArgs false

theorem all03_snoc {xs : List Int} {x : Int} (h : ∀ y ∈ xs, 0 ≤ y ∧ y ≤ 3) (h0 : 0 ≤ x) (h1 : x ≤ 3) : ∀ y ∈ xs ++ [x], 0 ≤ y ∧ y ≤ 3 := by
  intro y hy
  rcases List.mem_append.1 hy with hy | hy
  · exact h y hy
  · simp at hy; omega
set_option maxHeartbeats 4000000 in
set_option maxRecDepth 20000 in
theorem l1DrawSig_any (cb : Nat) (A : Option Addr) (n c : Nat) (w : World) (h : Dcur w cb A n c) :
    Calls Tryz.prog 57 #[.pointer (some ⟨cb, 0, none⟩)] w fun e w' => ∃ (S : Option Addr) (m d : Nat) (xs : List Int), e = .returned (.agg #[.slice S m d]) ∧ OI w' w.heap.size S m d xs ∧ m ≤ 4 ∧ Hid (Pl.sigOk xs = true) ∧ Dcur w' cb A n c ∧ Only cb (cb + 1) w w' := by
  have hlt := h.lt
  obtain ⟨i0, hi, hz0, hz1, hz2⟩ := info_parts infoInt64
  have hW0 : Below w.heap.size w (((w.alloc (.cells #[.slice none 0 0] 26)).alloc (.cells #[.int .i64 2, .int .i64 1, .int .i64 0] 2)).alloc (.cells #[.slice (some ⟨w.heap.size + 1, 0, none⟩) 3 3] 26)) :=
    (((Below.refl _ _).alloc (Nat.le_refl _) _).alloc (by simp) _).alloc (by simp; omega) _
  have bk0 : Blk (((w.alloc (.cells #[.slice none 0 0] 26)).alloc (.cells #[.int .i64 2, .int .i64 1, .int .i64 0] 2)).alloc (.cells #[.slice (some ⟨w.heap.size + 1, 0, none⟩) 3 3] 26)) w.heap.size 26 #[.slice none 0 0] := ((Blk.new w _ _).alloc _).alloc _
  have bk1 : Blk (((w.alloc (.cells #[.slice none 0 0] 26)).alloc (.cells #[.int .i64 2, .int .i64 1, .int .i64 0] 2)).alloc (.cells #[.slice (some ⟨w.heap.size + 1, 0, none⟩) 3 3] 26)) (w.heap.size + 1) 2 #[.int .i64 2, .int .i64 1, .int .i64 0] := by
    have := (Blk.new (w.alloc (.cells #[.slice none 0 0] 26)) 2 #[.int .i64 2, .int .i64 1, .int .i64 0]).alloc (.cells #[.slice (some ⟨w.heap.size + 1, 0, none⟩) 3 3] 26)
    simpa only [World.size_alloc] using this
  have bk2 : Blk (((w.alloc (.cells #[.slice none 0 0] 26)).alloc (.cells #[.int .i64 2, .int .i64 1, .int .i64 0] 2)).alloc (.cells #[.slice (some ⟨w.heap.size + 1, 0, none⟩) 3 3] 26)) (w.heap.size + 1 + 1) 26 #[.slice (some ⟨w.heap.size + 1, 0, none⟩) 3 3] := by
    have := Blk.new ((w.alloc (.cells #[.slice none 0 0] 26)).alloc (.cells #[.int .i64 2, .int .i64 1, .int .i64 0] 2)) 26 #[.slice (some ⟨w.heap.size + 1, 0, none⟩) 3 3]
    simpa only [World.size_alloc] using this
  have hC0 := h.below hW0
  have hO0 : Only cb (cb + 1) w _ := Only.of hW0
  clear hW0
  go_enter Tryz.func57, Tryz.ntmps57
  go_wp2_with fail
  generalize ((w.alloc (.cells #[.slice none 0 0] 26)).alloc (.cells #[.int .i64 2, .int .i64 1, .int .i64 0] 2)).alloc (.cells #[.slice (some ⟨w.heap.size + 1, 0, none⟩) 3 3] 26) = W0 at *
  refine (l1Once_any cb A n c 4 W0 hC0 (by omega)).mono ?_
  rintro e w1 ⟨b, rfl, hC1, ho1⟩
  replace bk0 := bk0.only ho1 (Or.inr (by omega))
  replace bk1 := bk1.only ho1 (Or.inr (by omega))
  replace bk2 := bk2.only ho1 (Or.inr (by omega))
  have hO1 := hO0.trans ho1
  have hlt2 := bk2.lt
  clear ho1 hO0 hC0
  have K2 : ∀ i, w1.cell? ⟨w.heap.size + 1 + 1, i, none⟩ = #[Value.slice (some ⟨w.heap.size + 1, 0, none⟩) 3 3][i]? := fun i => bk2.cell i
  have F2 : ∀ i, w1.frozen? ⟨w.heap.size + 1 + 1, i, none⟩ = false := fun i => bk2.frozen i
  have K0 : ∀ i, w1.cell? ⟨w.heap.size, i, none⟩ = #[Value.slice none 0 0][i]? := fun i => bk0.cell i
  have F0 : ∀ i, w1.frozen? ⟨w.heap.size, i, none⟩ = false := fun i => bk0.frozen i
  cases b
  · go_wp2_with fail
    refine bodyPost_ret (v := .agg #[.slice (some ⟨w.heap.size + 1, 0, none⟩) 3 3]) (by simp [results, Tryz.results57, go_sem, K0]) rfl ⟨_, 3, 3, [2, 1, 0], rfl, ?_, by omega, Lib.hid (by decide), ?_, ?_⟩
    · exact (OI.of_blk (xs := [2, 1, 0]) (bk1.far (by simp) _) (by simp)).base (by omega)
    · exact hC1.belowB ((Below.refl w.heap.size w1).setCell (p := ⟨w.heap.size, 0, none⟩) (by simp) _) hlt
    · exact hO1.thenB ((Below.refl w.heap.size w1).setCell (p := ⟨w.heap.size, 0, none⟩) (by simp) _) (Nat.le_refl _)
  · have hB2 : Below w.heap.size w1 ((w1.setCell ⟨w.heap.size + 1 + 1, 0, none⟩ (.slice (some ⟨w1.heap.size, 0, none⟩) 1 1)).alloc (.cells #[.int .i64 0] 2)) :=
      ((Below.refl w.heap.size w1).setCell (p := ⟨w.heap.size + 1 + 1, 0, none⟩) (by simp; omega) _).alloc (by simp [World.setCell]; omega) _
    have hC2 := hC1.belowB hB2 hlt
    have hO2 := hO1.thenB hB2 (Nat.le_refl _)
    replace bk0 := (bk0.far (p := ⟨w.heap.size + 1 + 1, 0, none⟩) (by simp; omega) (.slice (some ⟨w1.heap.size, 0, none⟩) 1 1)).alloc (.cells #[.int .i64 0] 2)
    replace bk2 := (bk2.set_ 0 (.slice (some ⟨w1.heap.size, 0, none⟩) 1 1)).alloc (.cells #[.int .i64 0] 2)
    have hI2 : OI ((w1.setCell ⟨w.heap.size + 1 + 1, 0, none⟩ (.slice (some ⟨w1.heap.size, 0, none⟩) 1 1)).alloc (.cells #[.int .i64 0] 2)) w1.heap.size (some ⟨w1.heap.size, 0, none⟩) 1 1 [0] := by
      have hs : (w1.setCell ⟨w.heap.size + 1 + 1, 0, none⟩ (.slice (some ⟨w1.heap.size, 0, none⟩) 1 1)).heap.size = w1.heap.size := by simp [World.setCell]
      have := OI.of_blk (xs := [0]) (Blk.new (w1.setCell ⟨w.heap.size + 1 + 1, 0, none⟩ (.slice (some ⟨w1.heap.size, 0, none⟩) 1 1)) 2 #[.int .i64 0]) (by simp)
      rw [hs] at this
      exact this
    have hlt3 : w.heap.size + 1 + 1 + 1 ≤ w1.heap.size := hlt2
    go_wp2_with fail
    clear hB2 hC1 hO1 K0 K2 F0 F2 bk1
    generalize (w1.setCell ⟨w.heap.size + 1 + 1, 0, none⟩ (.slice (some ⟨w1.heap.size, 0, none⟩) 1 1)).alloc (.cells #[.int .i64 0] 2) = W2 at *
    refine (l1Below_any cb A n c 4 W2 hC2 (by omega)).mono ?_
    rintro e w3 ⟨x, rfl, hx0, hx1, hx2, hC3, ho3⟩
    have hx4 := hx1 (by omega)
    replace bk0 := bk0.only ho3 (Or.inr (by omega))
    replace bk2 := bk2.only ho3 (Or.inr (by omega))
    have HI3 := Lib.hid ((hI2.up ho3 (by omega)).base hlt3)
    have hO3 := hO2.trans ho3
    clear ho3 hO2 hC2 hI2 hx1 hx2
    obtain ⟨k0, rfl⟩ : ∃ k : Nat, x = k := ⟨x.toNat, by omega⟩
    go_wp2_with fail
    go_loopw [4] (fun i wr => ∃ (k j : Nat) (S : Option Addr) (d : Nat) (xs : List Int), i = .int .i64 k ∧ k + j ≤ 4 ∧ 1 ≤ j ∧ Blk wr w.heap.size 26 #[.slice none 0 0] ∧ Blk wr (w.heap.size + 1 + 1) 26 #[.slice S j d] ∧ Hid (OI wr (w.heap.size + 1 + 1 + 1) S j d xs) ∧ Hid (∀ y ∈ xs, 0 ≤ y ∧ y ≤ 3) ∧ Dcur wr cb A n c ∧ Only cb (cb + 1) w wr) (fun i _ => (intOf i).toNat)
    case atStart => exact ⟨k0, 1, _, _, [0], rfl, by omega, by omega, bk0, bk2, HI3, Lib.hid (by simp), hC3, hO3⟩
    case round =>
      obtain ⟨k, j, S, d, xs, rfl, hkj, hj, bk0, bk2, ho, hxs, hC, hO⟩ := hrel
      have hszr := bk2.lt
      have hl := ho.out.ri.1
      have K2 : ∀ i, wr.cell? ⟨w.heap.size + 1 + 1, i, none⟩ = #[Value.slice S j d][i]? := fun i => bk2.cell i
      have F2 : ∀ i, wr.frozen? ⟨w.heap.size + 1 + 1, i, none⟩ = false := fun i => bk2.frozen i
      have K0 : ∀ i, wr.cell? ⟨w.heap.size, i, none⟩ = #[Value.slice none 0 0][i]? := fun i => bk0.cell i
      have F0 : ∀ i, wr.frozen? ⟨w.heap.size, i, none⟩ = false := fun i => bk0.frozen i
      by_cases h0 : 0 < k
      · go_wp2_with fail
        go_region_law (first
          | (go_simp; go_at_call 47; refine (l1Below_any cb A n c 3 _ ?_ (by omega)).mono ?_; (first | exact hC | exact hC.drew); rintro e w4 ⟨x, rfl, hx0, hx1, hx2, hC4, ho4⟩; have hx3 := hx1 (by omega); have bk4 := bk2.only (Only.drewL ho4) (Or.inr (by omega)); have K4 : ∀ i, w4.cell? ⟨w.heap.size + 1 + 1, i, none⟩ = #[Value.slice S j d][i]? := fun i => bk4.cell i; have F4 : ∀ i, w4.frozen? ⟨w.heap.size + 1 + 1, i, none⟩ = false := fun i => bk4.frozen i; have hs4 := bk4.lt)
          | (refine step_append_any rfl _ _ 24 rfl (w.heap.size + 1 + 1 + 1) 2 i0 (.int .i64 0) 1 8 Tryz.underlying24 hi hz0 hz1 hz2 rfl (by omega) S j d (xs.map (Value.int .i64)) rfl (ownsRow_below ((ho.out.up (Only.drewL ho4) (by omega))) ((Below.refl _ w4).alloc (Nat.le_refl _) _)) _ 1 _ [.int .i64 x] rfl (Src.new w4 [.int .i64 x] _ 1 1 rfl (by simp [Value.oneCell'])) (by unfold maxLen; omega) (by omega) (by simp; omega) ?_; intro A2 c2 w5 ho5 hg5 hnil5 hwh5; have hgb := app_below hg5 (ownsRow_below ((ho.out.up (Only.drewL ho4) (by omega))) ((Below.refl _ w4).alloc (Nat.le_refl _) _)) (by omega); have bk5 := bk4.belowB hgb (by omega); have K5 : ∀ i, w5.cell? ⟨w.heap.size + 1 + 1, i, none⟩ = #[Value.slice S j d][i]? := fun i => bk5.cell i; have F5 : ∀ i, w5.frozen? ⟨w.heap.size + 1 + 1, i, none⟩ = false := fun i => bk5.frozen i))
        all_goals (
          have HX5 := Lib.hid (all03_snoc hxs.out hx0 (by omega))
          have HI5 : Hid (OI (w5.setCell ⟨w.heap.size + 1 + 1, 0, none⟩ (.slice A2 (j + 1) c2)) (w.heap.size + 1 + 1 + 1) A2 (j + 1) c2 (xs ++ [x])) := Lib.hid (OI.setBelow (by unfold OI; rw [List.map_append]; exact ho5) (by simp) _)
          have hB5 : Below w.heap.size w4 (w5.setCell ⟨w.heap.size + 1 + 1, 0, none⟩ (.slice A2 (j + 1) c2)) := (hgb.mono (by omega)).setCell (p := ⟨w.heap.size + 1 + 1, 0, none⟩) (by simp; omega) _
          have hC5 := hC4.belowB hB5 hlt
          have hO5 := (hO.trans (Only.drewL ho4)).thenB hB5 (Nat.le_refl _)
          have bk06 := ((bk0.only (Only.drewL ho4) (Or.inr (by omega))).belowB hgb (by omega)).far (p := ⟨w.heap.size + 1 + 1, 0, none⟩) (by simp; omega) (.slice A2 (j + 1) c2)
          have bk26 := bk5.set_ 0 (.slice A2 (j + 1) c2)
          clear hB5 hgb ho5 hg5 hnil5 hwh5 hC4 ho4 hx1 hx2 K4 F4 K5 F5 bk5 bk4
          go_wp2_with fail
          go_roundw
          case rel => exact ⟨k - 1, j + 1, A2, c2, xs ++ [x], by go_num, by omega, by omega, bk06, bk26, HI5, HX5, hC5, hO5⟩
          case measure => simp [intOf]; omega)
      · have h0' : k = 0 := by omega
        subst h0'
        go_wp2_with fail
        refine bodyPost_ret (v := .agg #[.slice S j d]) (by simp [results, Tryz.results57, go_sem, K0]) rfl ⟨S, j, d, xs, rfl, ?_, by omega, Lib.hid (Pl.sigOk_iff.2 ⟨by omega, hxs.out⟩), ?_, ?_⟩
        · exact (ho.out.setBelow (by simp; omega) _).base (by omega)
        · exact hC.belowB ((Below.refl w.heap.size wr).setCell (p := ⟨w.heap.size, 0, none⟩) (by simp) _) hlt
        · exact hO.thenB ((Below.refl w.heap.size wr).setCell (p := ⟨w.heap.size, 0, none⟩) (by simp) _) (Nat.le_refl _)
end Go.Proofs.YtlcchafcgidpeaaGreatDoor
