/- Contracts: subterms. -/
import Derived.Test.YtcjgcopkeeiicaaPlace
import Derived.Test.YtcjgcopkeeiicaaCopy
namespace Go.Proofs.Ytcjgcopkeeiicaa
open Go.RowKit
set_option linter.unusedVariables false

/-- The subterm at a place. -/
def subL (xs t : List Int) (p : Nat) : List Int := (t.drop p).take (Pl.fin (Pl.ari xs) t p - p)

theorem subL_length {xs t : List Int} {p : Nat} (hT : Pl.termOk xs t = true) (hp : p < t.length) : (subL xs t p).length = Pl.fin (Pl.ari xs) t p - p := by
  have hf := Pl.fin_of (Pl.termOk_iff.1 hT).2.2 hp
  unfold subL
  rw [List.length_take, List.length_drop]
  omega
set_option maxHeartbeats 400000 in
theorem subAt_any (A : Option Addr) (n c : Nat) (xs : List Int) (B : Option Addr) (m d : Nat) (t : List Int) (p : Nat) (w : World)
    (h : RI w A n xs) (h' : RI w B m t) (hT : Pl.termOk xs t = true) (hp : p < m) (hd : m ≤ d) (hd2 : d ≤ 9223372036854775807) :
    Calls Try.prog 65 #[.agg #[.slice A n c], .slice B m d, .int .i64 p] w fun e w' => ∃ A' c', e = .returned (.slice A' (subL xs t p).length c') ∧ RI w' A' (subL xs t p).length (subL xs t p) ∧ (subL xs t p).length ≤ c' ∧ c' ≤ 9223372036854775807 ∧ 1 ≤ (subL xs t p).length ∧ Below w.heap.size w w' := by
  have hf := (Pl.fin_of (Pl.termOk_iff.1 hT).2.2 (p := p) (by rw [h'.1]; exact hp))
  rw [h'.1] at hf
  have hf1 := hf.2.1
  have hf2 := hf.2.2.1
  have HT := Lib.hid hT
  clear hT hf
  obtain ⟨g, off, rfl, _⟩ := h'.2 (by omega)
  have hlen := subL_length HT.out (p := p) (by rw [h'.1]; exact hp)
  have hsub : subL xs t p = (t.drop p).take (Pl.fin (Pl.ari xs) t p - p) := rfl
  have HS := Lib.hid hsub
  have HL := Lib.hid hlen
  clear hsub hlen
  generalize hF : Pl.fin (Pl.ari xs) t p = F at *
  have HF := Lib.hid hF
  clear hF
  have e0 : (0 : Int) ≤ p := by omega
  have e1 : (p : Int) ≤ F := by omega
  have e2 : (F : Int) ≤ d := by omega
  go_enter Try.func65, Try.ntmps65
  go_wp2_with fail
  refine (endAt_ok A n c xs _ m d t p _ (h.alloc _) (h'.alloc _) HT.out hp).mono ?_
  rintro e w1 ⟨rfl, hb1⟩
  have hB : Below w.heap.size w w1 := below_then ((Below.refl _ _).alloc (Nat.le_refl _) _) hb1 (by simp)
  rw [HF.out]
  go_wp2_with fail
  go_ret
  have hr := ri_part ((h'.alloc _).below hb1) p F (by omega) (by omega)
  rw [← HS.out] at hr
  rw [HL.out]
  exact ⟨_, _, rfl, hr, by omega, by omega, by omega, hB⟩
/-- What SubAt gives. -/
def V_SubAt (xs t : List Int) (p : Int) : List Int := if Pl.posOk xs t p then subL xs t p.toNat else []
theorem subAt_no {xs t : List Int} {p : Int} (h : Pl.posOk xs t p = false) : V_SubAt xs t p = [] := by unfold V_SubAt; rw [h]; rfl
theorem subAt_yes {xs t : List Int} {k : Nat} (h : Pl.posOk xs t k = true) : V_SubAt xs t k = subL xs t k := by unfold V_SubAt; rw [h]; rfl
theorem bd_SubAt (xs t : List Int) (p : Int) : (V_SubAt xs t p).length ≤ 60 := by
  unfold V_SubAt
  split
  · rename_i h
    have := (Pl.termOk_iff.1 (Pl.posOk_iff.1 h).1).2.1
    unfold subL
    rw [List.length_take, List.length_drop]
    omega
  · simp
end Go.Proofs.Ytcjgcopkeeiicaa
