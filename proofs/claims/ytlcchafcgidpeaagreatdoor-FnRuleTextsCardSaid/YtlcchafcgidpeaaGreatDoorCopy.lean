/- Contracts: copies of slices. -/
import Derived.Test.YtlcchafcgidpeaaGreatDoorBase
import Derived.Test.YtlcchafcgidpeaaGreatDoorApp
namespace Go.Proofs.YtlcchafcgidpeaaGreatDoor
open Go.RowKit
set_option linter.unusedVariables false

set_option maxHeartbeats 400000 in
theorem l1Copy_any (A : Option Addr) (n c : Nat) (xs : List Int) (w : World) (h : RI w A n xs) (hn : n ≤ 1048576) :
    Calls Tryz.prog 87 #[.slice A n c] w fun e w' => ∃ A' c', e = .returned (.slice A' n c') ∧ OI w' w.heap.size A' n c' xs ∧ Below w.heap.size w w' := by
  obtain ⟨i0, hi, hz0, hz1, hz2⟩ := info_parts infoInt64
  have hown := World.ownsRow_lit (e := 2) (size := 1) (base := w.heap.size) w #[] 0 (Nat.le_refl _) (by simp [maxLen]) rfl
  go_enter Tryz.func87, Tryz.ntmps87
  go_wp2_with (at_builtin; refine wpList_append_any rfl _ _ 24 rfl w.heap.size 2 i0 (.int .i64 0) 1 8 Tryz.underlying24 hi hz0 hz1 hz2 rfl (by omega) _ 0 _ [] rfl hown _ n _ (xs.map (Value.int .i64)) rfl (Src.ints (h.alloc _)) (by unfold maxLen; omega) (by omega) (by simp) ?_; intro A' c' w1 ho hg hnil)
  have hb : Below w.heap.size w w1 := ((Below.refl w.heap.size w).alloc (Nat.le_refl _) _).trans (grown_below hg hown (by simp))
  go_ret
  exact ⟨A', c', by simp, by simpa [OI] using ho, hb⟩
end Go.Proofs.YtlcchafcgidpeaaGreatDoor
