/- Contracts: the text of a signature. -/
import Derived.Test.YtlcchafcgidpeaaGreatDoorStrN
namespace Go.Proofs.YtlcchafcgidpeaaGreatDoor
open Go.RowKit
open Go.Lib (decDigits)
set_option linter.unusedVariables false
set_option linter.unusedSimpArgs false

def V_SigText (xs : List Int) : List UInt8 := if Pl.sigOk xs = true then Pl.sigTxt xs else []
theorem V_SigText_no {xs : List Int} (h : Pl.sigOk xs = false) : V_SigText xs = [] := by unfold V_SigText; rw [h]; rfl
theorem V_SigText_yes {xs : List Int} (h : Pl.sigOk xs = true) : V_SigText xs = Pl.sigTxt xs := by unfold V_SigText; rw [if_pos h]
theorem sig_small {xs : List Int} {n : Nat} (h : Pl.sigOk xs = true) (hl : xs.length = n) : (1 ≤ n ∧ n ≤ 8) ∧ ∀ k, k < n → 0 ≤ xs.getD k 0 ∧ xs.getD k 0 < 100 := by
  obtain ⟨h1, h2⟩ := Pl.sigOk_iff.1 h
  refine ⟨by omega, fun k hk => ?_⟩
  have := h2 _ (Pl.getD_mem (l := xs) (i := k) (by omega))
  omega
set_option maxHeartbeats 1000000 in
theorem S_SigText (A : Option Addr) (n c : Nat) (xs : List Int) (w : World) (h : RI w A n xs) (hn : n ≤ 1048576) :
    Calls Tryz.prog 27 #[.agg #[.slice A n c]] w fun e w' => e = .returned (.string ⟨(V_SigText xs).toArray⟩) ∧ Below w.heap.size w w' := by
  have hl := h.1
  cases hs : Pl.sigOk xs
  · have HE := Lib.hid (V_SigText_no hs)
    have HS := Lib.hid hs
    clear hs
    go_enter Tryz.func27, Tryz.ntmps27
    go_wp2_with fail
    refine (specSigOk_any A n c xs _ (h.alloc _) (by omega)).mono ?_
    rintro e w1 ⟨rfl, hb1⟩
    rw [HS.out]
    go_wp2_with fail
    go_ret
    rw [HE.out]
    exact ⟨rfl, below_then ((Below.refl _ _).alloc (Nat.le_refl _) _) hb1 (by simp)⟩
  · have HE := Lib.hid (V_SigText_yes hs)
    obtain ⟨hn8, hx⟩ := sig_small hs hl
    have HS := Lib.hid hs
    have HX := Lib.hid hx
    clear hs hx
    go_enter Tryz.func27, Tryz.ntmps27
    go_wp2_with fail
    refine (specSigOk_any A n c xs _ (h.alloc _) (by omega)).mono ?_
    rintro e w1 ⟨rfl, hb1⟩
    rw [HS.out]
    have hB : Below w.heap.size w w1 := below_then ((Below.refl _ _).alloc (Nat.le_refl _) _) hb1 (by simp)
    have bx : w1.cell? ⟨w.heap.size, 0, none⟩ = some (.slice A n c) := (hb1.cell (by simp)).trans (by simp)
    have h1 := (h.alloc _).below hb1
    clear hb1
    go_wp2_with fail
    refine (l1Ints_any A n c xs w1 h1 (by omega) HX.out).mono ?_
    rintro e w2 ⟨rfl, hb2⟩
    go_wp2_with fail
    go_ret
    rw [HE.out]
    exact ⟨rfl, below_then hB hb2 hB.size⟩
set_option maxHeartbeats 1000000 in
theorem I_SigText (A : Option Addr) (n c : Nat) (xs : List Int) (w : World) (h : RI w A n xs) (hn : n ≤ 1048576) :
    Calls Tryz.prog 13 #[.agg #[.slice A n c]] w fun e w' => e = .returned (.string ⟨(V_SigText xs).toArray⟩) ∧ Below w.heap.size w w' := by
  have hl := h.1
  cases hs : Pl.sigOk xs
  · have HE := Lib.hid (V_SigText_no hs)
    have HS := Lib.hid hs
    clear hs
    go_enter Tryz.func13, Tryz.ntmps13
    go_wp2_with fail
    refine (implSigOk_any A n c xs _ (h.alloc _) (by omega)).mono ?_
    rintro e w1 ⟨rfl, hb1⟩
    rw [HS.out]
    go_wp2_with fail
    go_ret
    rw [HE.out]
    exact ⟨rfl, below_then ((Below.refl _ _).alloc (Nat.le_refl _) _) hb1 (by simp)⟩
  · have HE := Lib.hid (V_SigText_yes hs)
    obtain ⟨hn8, hx⟩ := sig_small hs hl
    have HS := Lib.hid hs
    have HX := Lib.hid hx
    clear hs hx
    go_enter Tryz.func13, Tryz.ntmps13
    go_wp2_with fail
    refine (implSigOk_any A n c xs _ (h.alloc _) (by omega)).mono ?_
    rintro e w1 ⟨rfl, hb1⟩
    rw [HS.out]
    have hB : Below w.heap.size w w1 := below_then ((Below.refl _ _).alloc (Nat.le_refl _) _) hb1 (by simp)
    have bx : w1.cell? ⟨w.heap.size, 0, none⟩ = some (.slice A n c) := (hb1.cell (by simp)).trans (by simp)
    have h1 := (h.alloc _).below hb1
    clear hb1
    go_wp2_with fail
    refine (numsText_any A n c xs w1 h1 (by omega) (by omega) HX.out).mono ?_
    rintro e w2 ⟨rfl, hb2⟩
    go_wp2_with fail
    go_ret
    rw [HE.out]
    exact ⟨rfl, below_then hB hb2 hB.size⟩
end Go.Proofs.YtlcchafcgidpeaaGreatDoor
