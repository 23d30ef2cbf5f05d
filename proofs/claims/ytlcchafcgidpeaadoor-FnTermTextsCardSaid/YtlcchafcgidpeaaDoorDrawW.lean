/- Contracts: what the laws draw: a signature with two terms. -/
import Derived.Test.YtlcchafcgidpeaaDoorDrawE
import Derived.Test.YtlcchafcgidpeaaDoorShift
namespace Go.Proofs.YtlcchafcgidpeaaDoor
open Go.RowKit
set_option linter.unusedVariables false
set_option linter.unusedSimpArgs false

set_option maxHeartbeats 4000000 in
set_option maxRecDepth 20000 in
theorem l2DrawOne_any (cb : Nat) (A : Option Addr) (n c : Nat) (w : World) (h : Dcur w cb A n c) :
    Calls Tryd.prog 76 #[.pointer (some ⟨cb, 0, none⟩)] w fun e w' => ∃ (S : Option Addr) (m d' : Nat) (xs : List Int) (T : Option Addr) (k d : Nat) (t : List Int), e = .returned (.tuple #[.agg #[.slice S m d'], .slice T k d]) ∧ RB w' (w.heap.size + 1) S m xs ∧ m ≤ 9 ∧ RB w' (w.heap.size + 1) T k t ∧ k ≤ 60 ∧ (k ≤ d ∧ d ≤ 9223372036854775807) ∧ Dcur w' cb A n c ∧ Only cb (cb + 1) w w' := by
  have hlt := h.lt
  have bk0 := Blk.new w 30 #[.slice none 0 0]
  have hC := h.alloc (.cells #[.slice none 0 0] 30)
  have hO := (Only.refl cb (cb + 1) w).alloc (.cells #[.slice none 0 0] 30)
  have hs0 : (w.alloc (.cells #[.slice none 0 0] 30)).heap.size = w.heap.size + 1 := by simp
  go_enter Tryd.func76, Tryd.ntmps76
  go_wp2_with fail
  refine (l1DrawSigAny_any _ A n c _ hC).mono ?_
  rintro e w2 ⟨S, m, d', xs, rfl, hI, hm, hC2, ho2⟩
  have hs2 := ho2.size
  have bk2 := (bk0.only ho2 (Or.inr (by omega))).alloc (.cells #[.slice S m d'] 30)
  have hI2 := (hI.rb.base (B' := w.heap.size + 1) (by omega)).below ((Below.refl _ _).alloc (Nat.le_refl _) (.cells #[.slice S m d'] 30))
  have bx := Blk.new w2 30 #[.slice S m d']
  replace hC2 := hC2.alloc (.cells #[.slice S m d'] 30)
  replace hO := (hO.trans ho2).alloc (.cells #[.slice S m d'] 30)
  clear ho2 hI bk0 hC
  have hsz : (w2.alloc (.cells #[.slice S m d'] 30)).heap.size = w2.heap.size + 1 := by simp
  have KX : ∀ i, (w2.alloc (.cells #[.slice S m d'] 30)).cell? ⟨w2.heap.size, i, none⟩ = #[Value.slice S m d'][i]? := fun i => bx.cell i
  go_wp2_with fail
  generalize w2.alloc (.cells #[.slice S m d'] 30) = W at *
  go_region_law (go_simp; go_at_call 98; refine (l1DrawAny_any _ A n c S m d' xs _ ?_ ?_ hm).mono ?_; (first | exact hC2.drew); (first | exact (hI2.base (by omega)).drew); rintro e w3 ⟨T, k, d, t, rfl, hT, hk, hkd, hC4, ho4⟩; have bk3 := bk2.only (Only.drewL ho4) (Or.inr (by omega)); have K3 : ∀ i, w3.cell? ⟨w.heap.size, i, none⟩ = #[Value.slice none 0 0][i]? := fun i => bk3.cell i; have F3 : ∀ i, w3.frozen? ⟨w.heap.size, i, none⟩ = false := fun i => bk3.frozen i; have bx3 := bx.only (Only.drewL ho4) (Or.inr (by omega)); have KX3 : ∀ i, w3.cell? ⟨w2.heap.size, i, none⟩ = #[Value.slice S m d'][i]? := fun i => bx3.cell i)
  all_goals (
    have hs5 := (Only.drewL ho4).size
    have ho5 : Only w.heap.size (w.heap.size + 1) w3 (w3.setCell ⟨w.heap.size, 0, none⟩ (.slice S m d')) := (Only.refl _ _ _).setCell (by simp) _
    have hB5 : Below w.heap.size w3 (w3.setCell ⟨w.heap.size, 0, none⟩ (.slice S m d')) := (Below.refl _ _).setCell (p := ⟨w.heap.size, 0, none⟩) (Nat.le_refl _) _
    have hI3 := hI2.up (Only.drewL ho4) (by omega)
    have hT3 := hT.base (B' := w.heap.size + 1) (by show _ ≤ W.heap.size; omega)
    go_wp2_with fail
    refine bodyPost_ret (v := .tuple #[.agg #[.slice S m d'], .slice T k d]) (by simp [results, Tryd.results76, go_sem, K3]) rfl ⟨S, m, d', xs, T, k, d, t, rfl, hI3.up ho5 (by omega), hm, hT3.up ho5 (by omega), by omega, hkd, hC4.belowB hB5 (by omega), (hO.trans (Only.drewL ho4)).thenB hB5 (Nat.le_refl _)⟩)
end Go.Proofs.YtlcchafcgidpeaaDoor
