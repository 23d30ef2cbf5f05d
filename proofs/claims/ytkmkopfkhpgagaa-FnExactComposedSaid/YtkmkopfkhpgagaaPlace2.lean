/- Contracts: what is inside, what is apart, what is behind; comparisons; ranks. -/
import Derived.Test.YtkmkopfkhpgagaaPlace
namespace Go.Proofs.Ytkmkopfkhpgagaa
open Go.RowKit
set_option linter.unusedVariables false

theorem insideIn_no1 {xs t : List Int} {p q : Int} (h : Pl.posOk xs t p = false) : Pl.insideIn xs t p q = false := by unfold Pl.insideIn; rw [h]; rfl
theorem insideIn_no2 {xs t : List Int} {p q : Int} (h1 : Pl.posOk xs t p = true) (h : Pl.posOk xs t q = false) : Pl.insideIn xs t p q = false := by unfold Pl.insideIn; rw [h, h1]; rfl
theorem insideIn_yes {xs t : List Int} {p q : Nat} (h1 : Pl.posOk xs t p = true) (h : Pl.posOk xs t q = true) : Pl.insideIn xs t p q = Pl.holds (Pl.ari xs) t p q := by unfold Pl.insideIn; rw [h, h1]; rfl
theorem apartIn_no1 {xs t : List Int} {p q : Int} (h : Pl.posOk xs t p = false) : Pl.apartIn xs t p q = false := by unfold Pl.apartIn; rw [h]; rfl
theorem apartIn_no2 {xs t : List Int} {p q : Int} (h1 : Pl.posOk xs t p = true) (h : Pl.posOk xs t q = false) : Pl.apartIn xs t p q = false := by unfold Pl.apartIn; rw [h, h1]; rfl
theorem apartIn_yes {xs t : List Int} {p q : Nat} (h1 : Pl.posOk xs t p = true) (h : Pl.posOk xs t q = true) : Pl.apartIn xs t p q = (!Pl.holds (Pl.ari xs) t p q && !Pl.holds (Pl.ari xs) t q p) := by
  unfold Pl.apartIn; rw [h, h1]; simp

def max2 (x y : Int) : Int := if y > x then y else x
theorem l1Max_any (x y : Int) (w : World) : Calls Try.prog 50 #[.int .i64 x, .int .i64 y] w fun e w' => e = .returned (.int .i64 (max2 x y)) ∧ w = w' := by
  by_cases h1 : y < x
  · have HE : Hid (max2 x y = x) := Lib.hid (by unfold max2; rw [if_neg (by omega)])
    go_enter Try.func50, Try.ntmps50
    go_wp2
    go_ret
    exact ⟨ret_int HE.out.symm, rfl⟩
  · have HE : Hid (max2 x y = y) := Lib.hid (by unfold max2; split <;> omega)
    go_enter Try.func50, Try.ntmps50
    go_wp2
    go_ret
    exact ⟨ret_int HE.out.symm, rfl⟩
def behindOf (xs t : List Int) : Int := if Pl.termOk xs t then Pl.behind t else -1
theorem behindOf_no {xs t : List Int} (h : Pl.termOk xs t = false) : behindOf xs t = -1 := by unfold behindOf; rw [h]; rfl
theorem behindOf_yes {xs t : List Int} (h : Pl.termOk xs t = true) : behindOf xs t = Pl.behind t := by unfold behindOf; rw [h]; rfl
end Go.Proofs.Ytkmkopfkhpgagaa
