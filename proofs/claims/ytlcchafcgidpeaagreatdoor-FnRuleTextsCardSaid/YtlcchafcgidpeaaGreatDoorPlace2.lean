/- Contracts: what is inside, what is apart, what is behind; comparisons; ranks. -/
import Derived.Test.YtlcchafcgidpeaaGreatDoorPlace
namespace Go.Proofs.YtlcchafcgidpeaaGreatDoor
open Go.RowKit
set_option linter.unusedVariables false

theorem insideIn_no1 {xs t : List Int} {p q : Int} (h : Pl.posOk xs t p = false) : Pl.insideIn xs t p q = false := by unfold Pl.insideIn; rw [h]; rfl
theorem insideIn_no2 {xs t : List Int} {p q : Int} (h1 : Pl.posOk xs t p = true) (h : Pl.posOk xs t q = false) : Pl.insideIn xs t p q = false := by unfold Pl.insideIn; rw [h, h1]; rfl
theorem insideIn_yes {xs t : List Int} {p q : Nat} (h1 : Pl.posOk xs t p = true) (h : Pl.posOk xs t q = true) : Pl.insideIn xs t p q = Pl.holds (Pl.ari xs) t p q := by unfold Pl.insideIn; rw [h, h1]; rfl
theorem apartIn_no1 {xs t : List Int} {p q : Int} (h : Pl.posOk xs t p = false) : Pl.apartIn xs t p q = false := by unfold Pl.apartIn; rw [h]; rfl
theorem apartIn_no2 {xs t : List Int} {p q : Int} (h1 : Pl.posOk xs t p = true) (h : Pl.posOk xs t q = false) : Pl.apartIn xs t p q = false := by unfold Pl.apartIn; rw [h, h1]; rfl
theorem apartIn_yes {xs t : List Int} {p q : Nat} (h1 : Pl.posOk xs t p = true) (h : Pl.posOk xs t q = true) : Pl.apartIn xs t p q = (!Pl.holds (Pl.ari xs) t p q && !Pl.holds (Pl.ari xs) t q p) := by
  unfold Pl.apartIn; rw [h, h1]; simp

def behindOf (xs t : List Int) : Int := if Pl.termOk xs t then Pl.behind t else -1
theorem behindOf_no {xs t : List Int} (h : Pl.termOk xs t = false) : behindOf xs t = -1 := by unfold behindOf; rw [h]; rfl
theorem behindOf_yes {xs t : List Int} (h : Pl.termOk xs t = true) : behindOf xs t = Pl.behind t := by unfold behindOf; rw [h]; rfl
end Go.Proofs.YtlcchafcgidpeaaGreatDoor
