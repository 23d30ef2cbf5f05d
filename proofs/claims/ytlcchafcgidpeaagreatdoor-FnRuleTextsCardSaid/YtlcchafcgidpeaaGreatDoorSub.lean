/- Contracts: subterms. -/
import Derived.Test.YtlcchafcgidpeaaGreatDoorPlace
import Derived.Test.YtlcchafcgidpeaaGreatDoorCopy
namespace Go.Proofs.YtlcchafcgidpeaaGreatDoor
open Go.RowKit
set_option linter.unusedVariables false

/-- The subterm at a place. -/
def subL (xs t : List Int) (p : Nat) : List Int := (t.drop p).take (Pl.fin (Pl.ari xs) t p - p)

theorem subL_length {xs t : List Int} {p : Nat} (hT : Pl.termOk xs t = true) (hp : p < t.length) : (subL xs t p).length = Pl.fin (Pl.ari xs) t p - p := by
  have hf := Pl.fin_of (Pl.termOk_iff.1 hT).2.2 hp
  unfold subL
  rw [List.length_take, List.length_drop]
  omega
set_option maxHeartbeats 400000 in
theorem l1Sub_any (A : Option Addr) (n c : Nat) (xs : List Int) (B : Option Addr) (m d : Nat) (t : List Int) (p : Nat) (w : World)
    (h : RI w A n xs) (h' : RI w B m t) (hT : Pl.termOk xs t = true) (hp : p < m) (hd : m ≤ d) (hd2 : d ≤ 9223372036854775807) (hm : m ≤ 1048576) :
    Calls Tryz.prog 72 #[.agg #[.slice A n c], .slice B m d, .int .i64 p] w fun e w' => ∃ A' c', e = .returned (.slice A' (subL xs t p).length c') ∧ OI w' w.heap.size A' (subL xs t p).length c' (subL xs t p) ∧ Below w.heap.size w w' := by
  have hf := (Pl.fin_of (Pl.termOk_iff.1 hT).2.2 (p := p) (by rw [h'.1]; exact hp))
  rw [h'.1] at hf
  have hf1 := hf.2.1
  have hf2 := hf.2.2.1
  have HT := Lib.hid hT
  clear hT hf
  obtain ⟨g, off, rfl, _⟩ := h'.2 (by omega)
  have hlen := subL_length HT.out (p := p) (by rw [h'.1]; exact hp)
  have hsub : subL xs t p = (t.drop p).take (Pl.fin (Pl.ari xs) t p - p) := rfl
  have HS := Lib.hid hsub
  have HL := Lib.hid hlen
  clear hsub hlen
  generalize hF : Pl.fin (Pl.ari xs) t p = F at *
  have HF := Lib.hid hF
  clear hF
  have e0 : (0 : Int) ≤ p := by omega
  have e1 : (p : Int) ≤ F := by omega
  have e2 : (F : Int) ≤ d := by omega
  go_enter Tryz.func72, Tryz.ntmps72
  go_wp2_with fail
  refine (l1End_ok A n c xs _ m d t p _ (h.alloc _) (h'.alloc _) HT.out hp).mono ?_
  rintro e w1 ⟨rfl, hb1⟩
  have hB : Below w.heap.size w w1 := below_then ((Below.refl _ _).alloc (Nat.le_refl _) _) hb1 (by simp)
  rw [HF.out]
  have hr := ri_part ((h'.alloc _).below hb1) p F (by omega) (by omega)
  go_wp2_with fail
  refine (l1Copy_any _ _ _ _ _ hr (by omega)).mono ?_
  rintro e w2 ⟨A', c', rfl, ho, hb2⟩
  go_wp2_with fail
  go_ret
  rw [HL.out]
  rw [← HS.out] at ho
  exact ⟨A', c', rfl, ho.base hB.size, below_then hB hb2 hB.size⟩
/-- What SubAt gives. -/
def V_SubAt (xs t : List Int) (p : Int) : List Int := if Pl.posOk xs t p then subL xs t p.toNat else []
theorem subAt_no {xs t : List Int} {p : Int} (h : Pl.posOk xs t p = false) : V_SubAt xs t p = [] := by unfold V_SubAt; rw [h]; rfl
theorem subAt_yes {xs t : List Int} {k : Nat} (h : Pl.posOk xs t k = true) : V_SubAt xs t k = subL xs t k := by unfold V_SubAt; rw [h]; rfl
theorem bd_SubAt (xs t : List Int) (p : Int) : (V_SubAt xs t p).length ≤ 60 := by
  unfold V_SubAt
  split
  · rename_i h
    have := (Pl.termOk_iff.1 (Pl.posOk_iff.1 h).1).2.1
    unfold subL
    rw [List.length_take, List.length_drop]
    omega
  · simp
end Go.Proofs.YtlcchafcgidpeaaGreatDoor
