/- Contracts: what the laws draw: a signature and a term. -/
import Derived.Test.YtihgolhpdnoooaaDrawA
namespace Go.Proofs.Ytihgolhpdnoooaa
open Go.RowKit
set_option linter.unusedVariables false
set_option linter.unusedSimpArgs false

set_option maxHeartbeats 4000000 in
set_option maxRecDepth 20000 in
theorem DrawTermOk_any (A : Option Addr) (n c : Nat) (w : World) (h : BI w A n) (hn : n ≤ 4096) :
    Calls Try.prog 12 #[.slice A n c] w fun e w' => ∃ (S : Option Addr) (m d' : Nat) (xs : List Int) (T : Option Addr) (k d : Nat) (t : List Int), e = .returned (.tuple #[.agg #[.slice S m d'], .slice T k d]) ∧ RI w' S m xs ∧ m ≤ 9 ∧ RI w' T k t ∧ k ≤ 61 ∧ (k ≤ d ∧ d ≤ 9223372036854775807) ∧ Below w.heap.size w w' := by
  obtain ⟨i0, hi, hz0, hz1, hz2⟩ := info_parts infoInt64
  have bk0 := Blk.new w 26 #[.slice none 0 0]
  go_enter Try.func12, Try.ntmps12
  go_wp2_with fail
  refine (l1New_any A n c _ (h.below ((Below.refl _ _).alloc (Nat.le_refl _) _)) hn).mono ?_
  rintro e w1 ⟨rfl, hC, hb1⟩
  have hs0 : (w.alloc (.cells #[.slice none 0 0] 26)).heap.size = w.heap.size + 1 := by simp
  replace bk0 := bk0.below hb1
  have hB := ((Below.refl w.heap.size w).alloc (Nat.le_refl _) (.cells #[.slice none 0 0] 26)).trans (hb1.mono (by omega))
  rw [hs0] at hC
  have hlt := hC.lt
  clear hb1
  go_wp2_with fail
  refine (l1DrawSigAny_any _ A n c w1 hC).mono ?_
  rintro e w2 ⟨S, m, d', xs, rfl, hI, hm, hC2, ho2⟩
  have bk2 := bk0.only ho2 (Or.inl (by omega))
  have hB2 := hB.trans (ho2.below (B := w.heap.size) (by omega) (by omega))
  have hI2 := (hI.rb.base (B' := w.heap.size + 1 + 1) (by omega)).below ((Below.refl _ _).alloc (Nat.le_refl _) (.cells #[.slice S m d'] 26))
  have hs2 : w1.heap.size ≤ w2.heap.size := ho2.size
  have bx := Blk.new w2 26 #[.slice S m d']
  replace bk2 := bk2.alloc (.cells #[.slice S m d'] 26)
  replace hC2 := hC2.alloc (.cells #[.slice S m d'] 26)
  replace hB2 := hB2.alloc (by omega) (.cells #[.slice S m d'] 26)
  clear ho2 hI bk0 hB
  have KX : ∀ i, (w2.alloc (.cells #[.slice S m d'] 26)).cell? ⟨w2.heap.size, i, none⟩ = #[Value.slice S m d'][i]? := fun i => bx.cell i
  go_wp2_with fail
  refine (l1DrawAny_any _ A n c S m d' xs _ hC2 hI2 hm).mono ?_
  rintro e w3 ⟨T, k, d, t, rfl, hT, hk, hkd, hC3, ho3⟩
  replace bx := bx.only ho3 (Or.inr (by omega))
  replace bk2 := bk2.only ho3 (Or.inl (by omega))
  replace hI2 := hI2.up ho3 (by omega)
  have hs3 : w2.heap.size < w3.heap.size := bx.lt
  have hB3 := hB2.trans (ho3.below (B := w.heap.size) (by omega) (by simp; omega))
  replace hT := hT.base (B' := w.heap.size + 1 + 1) (by simp; omega)
  clear ho3 hB2 hC2 KX
  go_wp2_with fail
  refine (l1Once_any _ A n c 30 w3 hC3 (by omega)).mono ?_
  rintro e w4 ⟨b, rfl, hC4, ho4⟩
  replace bx := bx.only ho4 (Or.inr (by omega))
  replace bk2 := bk2.only ho4 (Or.inl (by omega))
  replace hI2 := hI2.up ho4 (by omega)
  replace hT := hT.up ho4 (by omega)
  have hs4 : w2.heap.size < w4.heap.size := bx.lt
  have hB4 := hB3.trans (ho4.below (B := w.heap.size) (by omega) (by omega))
  clear ho4 hB3 hC3
  have KX : ∀ i, w4.cell? ⟨w2.heap.size, i, none⟩ = #[Value.slice S m d'][i]? := fun i => bx.cell i
  have K0 : ∀ i, w4.cell? ⟨w.heap.size, i, none⟩ = #[Value.slice none 0 0][i]? := fun i => bk2.cell i
  have F0 : ∀ i, w4.frozen? ⟨w.heap.size, i, none⟩ = false := fun i => bk2.frozen i
  cases b
  · have ho5 : Only w.heap.size (w.heap.size + 1) w4 (w4.setCell ⟨w.heap.size, 0, none⟩ (.slice S m d')) := (Only.refl _ _ _).setCell (by simp) _
    go_wp2_with fail
    refine bodyPost_ret (v := .tuple #[.agg #[.slice S m d'], .slice T k d]) (by simp [results, Try.results12, go_sem, K0]) rfl ⟨S, m, d', xs, T, k, d, t, rfl, (hI2.up ho5 (by omega)).1, hm, (hT.up ho5 (by omega)).1, by omega, hkd, hB4.trans (ho5.below (B := w.heap.size) (by omega) (by omega))⟩
  · go_wp2_with fail
    refine (l1Below_any _ A n c 2 w4 hC4 (by omega)).mono ?_
    rintro e w5 ⟨y, rfl, hy0, hy1, hy2, hC5, ho5⟩
    replace bx := bx.only ho5 (Or.inr (by omega))
    replace bk2 := bk2.only ho5 (Or.inl (by omega))
    replace hI2 := hI2.up ho5 (by omega)
    have hs5 : w2.heap.size < w5.heap.size := bx.lt
    have hB5 := hB4.trans (ho5.below (B := w.heap.size) (by omega) (by omega))
    have hy3 := hy1 (by omega)
    clear ho5 hB4 hC4 KX K0 F0 hT hy1
    obtain ⟨q, rfl⟩ : ∃ q : Nat, y = q := ⟨y.toNat, by omega⟩
    go_wp2_with (at_make; refine wpList_make_full _ rfl _ _ 24 rfl w5.heap.size 2 i0 (.int .i64 0) 1 Try.underlying24 hi hz0 hz1 .i64 .i64 _ _ (60 + q) rfl rfl (by simp) (by simp) (by rw [hz2]; omega) (by unfold maxLen; omega) (by omega) ?_; intro w6 hown hg; have hb6 := (Below.refl w5.heap.size w5).grown hg (Nat.le_refl _) (by simp); have bk6 := bx.below hb6; have bk06 := bk2.below hb6; have KB : ∀ i, w6.cell? ⟨w2.heap.size, i, none⟩ = #[Value.slice S m d'][i]? := fun i => bk6.cell i; have K0 : ∀ i, w6.cell? ⟨w.heap.size, i, none⟩ = #[Value.slice none 0 0][i]? := fun i => bk06.cell i; have F0 : ∀ i, w6.frozen? ⟨w.heap.size, i, none⟩ = false := fun i => bk06.frozen i)
    have HI6 : OI w6 w5.heap.size (some ⟨w5.heap.size, 0, none⟩) (60 + q) (60 + q) (List.replicate (60 + q) 0) := by
      unfold OI; simpa [Value.cells, toList_madeCells_one] using hown
    have ho6 : Only w.heap.size (w.heap.size + 1) w6 (w6.setCell ⟨w.heap.size, 0, none⟩ (.slice S m d')) := (Only.refl _ _ _).setCell (by simp) _
    have hs6 := bk6.lt
    refine bodyPost_ret (v := .tuple #[.agg #[.slice S m d'], .slice (some ⟨w5.heap.size, 0, none⟩) (60 + q) (60 + q)]) (by simp [results, Try.results12, go_sem, K0]) rfl ⟨S, m, d', xs, _, _, _, _, rfl, ((hI2.below hb6).up ho6 (by omega)).1, hm, (HI6.up ho6 (by omega)).ri, by omega, by omega, (hB5.trans (hb6.mono (by omega))).trans (ho6.below (B := w.heap.size) (by omega) (by omega))⟩
end Go.Proofs.Ytihgolhpdnoooaa
