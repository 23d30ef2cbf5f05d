/- Contracts: places in terms; comparisons; ranks. -/
import Derived.Test.YtcjgcopkeeiicaaTerm2
namespace Go.Proofs.Ytcjgcopkeeiicaa
open Go.RowKit
set_option linter.unusedVariables false

/-- The program's end of a term at a place of a right term. -/
theorem endAt_ok (A : Option Addr) (n c : Nat) (xs : List Int) (B : Option Addr) (m d : Nat) (t : List Int) (p : Nat) (w : World)
    (h : RI w A n xs) (h' : RI w B m t) (hT : Pl.termOk xs t = true) (hp : p < m) :
    Calls Try.prog 68 #[.agg #[.slice A n c], .slice B m d, .int .i64 p] w fun e w' => e = .returned (.int .i64 (Pl.fin (Pl.ari xs) t p : Nat)) ∧ Below w.heap.size w w' := by
  obtain ⟨hs, hl, _⟩ := Pl.termOk_iff.1 hT
  have hs' := (Pl.sigOk_iff.1 hs).1
  rw [h.1] at hs'
  rw [h'.1] at hl
  rw [← Pl.end_nxt hT (by rw [h'.1]; exact hp)]
  exact endAt_any A n c xs B m d t p w h h' (by omega) (by omega) hs (by omega)
theorem l1End_ok (A : Option Addr) (n c : Nat) (xs : List Int) (B : Option Addr) (m d : Nat) (t : List Int) (p : Nat) (w : World)
    (h : RI w A n xs) (h' : RI w B m t) (hT : Pl.termOk xs t = true) (hp : p < m) :
    Calls Try.prog 70 #[.agg #[.slice A n c], .slice B m d, .int .i64 p] w fun e w' => e = .returned (.int .i64 (Pl.fin (Pl.ari xs) t p : Nat)) ∧ Below w.heap.size w w' := by
  obtain ⟨hs, hl, _⟩ := Pl.termOk_iff.1 hT
  have hs' := (Pl.sigOk_iff.1 hs).1
  rw [h.1] at hs'
  rw [h'.1] at hl
  rw [← Pl.end_ari hT (by rw [h'.1]; exact hp)]
  exact l1End_any A n c xs B m d t p w h h' (by omega) (by omega) hs (by omega)
theorem endOfV_no {xs t : List Int} {p : Int} (h : Pl.posOk xs t p = false) : Pl.endOfV xs t p = -1 := by unfold Pl.endOfV; rw [h]; rfl
theorem endOfV_yes {xs t : List Int} {k : Nat} (h : Pl.posOk xs t k = true) : Pl.endOfV xs t k = Pl.fin (Pl.ari xs) t k := by unfold Pl.endOfV; rw [h]; rfl

end Go.Proofs.Ytcjgcopkeeiicaa
