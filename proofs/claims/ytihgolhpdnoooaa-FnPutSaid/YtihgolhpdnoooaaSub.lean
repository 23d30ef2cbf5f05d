/- Contracts: subterms. -/
import Derived.Test.YtihgolhpdnoooaaPlace
import Derived.Test.YtihgolhpdnoooaaCopy
namespace Go.Proofs.Ytihgolhpdnoooaa
open Go.RowKit
set_option linter.unusedVariables false

/-- The subterm at a place. -/
def subL (xs t : List Int) (p : Nat) : List Int := (t.drop p).take (Pl.fin (Pl.ari xs) t p - p)

theorem subL_length {xs t : List Int} {p : Nat} (hT : Pl.termOk xs t = true) (hp : p < t.length) : (subL xs t p).length = Pl.fin (Pl.ari xs) t p - p := by
  have hf := Pl.fin_of (Pl.termOk_iff.1 hT).2.2 hp
  unfold subL
  rw [List.length_take, List.length_drop]
  omega
set_option maxHeartbeats 400000 in
theorem subAt_any (A : Option Addr) (n c : Nat) (xs : List Int) (B : Option Addr) (m d : Nat) (t : List Int) (p : Nat) (w : World)
    (h : RI w A n xs) (h' : RI w B m t) (hT : Pl.termOk xs t = true) (hp : p < m) (hd : m ≤ d) (hd2 : d ≤ 9223372036854775807) :
    Calls Try.prog 89 #[.agg #[.slice A n c], .slice B m d, .int .i64 p] w fun e w' => ∃ A' c', e = .returned (.slice A' (subL xs t p).length c') ∧ RI w' A' (subL xs t p).length (subL xs t p) ∧ (subL xs t p).length ≤ c' ∧ c' ≤ 9223372036854775807 ∧ 1 ≤ (subL xs t p).length ∧ Below w.heap.size w w' := by
  have hf := (Pl.fin_of (Pl.termOk_iff.1 hT).2.2 (p := p) (by rw [h'.1]; exact hp))
  rw [h'.1] at hf
  have hf1 := hf.2.1
  have hf2 := hf.2.2.1
  have HT := Lib.hid hT
  clear hT hf
  obtain ⟨g, off, rfl, _⟩ := h'.2 (by omega)
  have hlen := subL_length HT.out (p := p) (by rw [h'.1]; exact hp)
  have hsub : subL xs t p = (t.drop p).take (Pl.fin (Pl.ari xs) t p - p) := rfl
  have HS := Lib.hid hsub
  have HL := Lib.hid hlen
  clear hsub hlen
  generalize hF : Pl.fin (Pl.ari xs) t p = F at *
  have HF := Lib.hid hF
  clear hF
  have e0 : (0 : Int) ≤ p := by omega
  have e1 : (p : Int) ≤ F := by omega
  have e2 : (F : Int) ≤ d := by omega
  go_enter Try.func89, Try.ntmps89
  go_wp2_with fail
  refine (endAt_ok A n c xs _ m d t p _ (h.alloc _) (h'.alloc _) HT.out hp).mono ?_
  rintro e w1 ⟨rfl, hb1⟩
  have hB : Below w.heap.size w w1 := below_then ((Below.refl _ _).alloc (Nat.le_refl _) _) hb1 (by simp)
  rw [HF.out]
  go_wp2_with fail
  go_ret
  have hr := ri_part ((h'.alloc _).below hb1) p F (by omega) (by omega)
  rw [← HS.out] at hr
  rw [HL.out]
  exact ⟨_, _, rfl, hr, by omega, by omega, by omega, hB⟩
set_option maxHeartbeats 400000 in
theorem l1Sub_any (A : Option Addr) (n c : Nat) (xs : List Int) (B : Option Addr) (m d : Nat) (t : List Int) (p : Nat) (w : World)
    (h : RI w A n xs) (h' : RI w B m t) (hT : Pl.termOk xs t = true) (hp : p < m) (hd : m ≤ d) (hd2 : d ≤ 9223372036854775807) (hm : m ≤ 1048576) :
    Calls Try.prog 101 #[.agg #[.slice A n c], .slice B m d, .int .i64 p] w fun e w' => ∃ A' c', e = .returned (.slice A' (subL xs t p).length c') ∧ OI w' w.heap.size A' (subL xs t p).length c' (subL xs t p) ∧ Below w.heap.size w w' := by
  have hf := (Pl.fin_of (Pl.termOk_iff.1 hT).2.2 (p := p) (by rw [h'.1]; exact hp))
  rw [h'.1] at hf
  have hf1 := hf.2.1
  have hf2 := hf.2.2.1
  have HT := Lib.hid hT
  clear hT hf
  obtain ⟨g, off, rfl, _⟩ := h'.2 (by omega)
  have hlen := subL_length HT.out (p := p) (by rw [h'.1]; exact hp)
  have hsub : subL xs t p = (t.drop p).take (Pl.fin (Pl.ari xs) t p - p) := rfl
  have HS := Lib.hid hsub
  have HL := Lib.hid hlen
  clear hsub hlen
  generalize hF : Pl.fin (Pl.ari xs) t p = F at *
  have HF := Lib.hid hF
  clear hF
  have e0 : (0 : Int) ≤ p := by omega
  have e1 : (p : Int) ≤ F := by omega
  have e2 : (F : Int) ≤ d := by omega
  go_enter Try.func101, Try.ntmps101
  go_wp2_with fail
  refine (l1End_ok A n c xs _ m d t p _ (h.alloc _) (h'.alloc _) HT.out hp).mono ?_
  rintro e w1 ⟨rfl, hb1⟩
  have hB : Below w.heap.size w w1 := below_then ((Below.refl _ _).alloc (Nat.le_refl _) _) hb1 (by simp)
  rw [HF.out]
  have hr := ri_part ((h'.alloc _).below hb1) p F (by omega) (by omega)
  go_wp2_with fail
  refine (l1Copy_any _ _ _ _ _ hr (by omega)).mono ?_
  rintro e w2 ⟨A', c', rfl, ho, hb2⟩
  go_wp2_with fail
  go_ret
  rw [HL.out]
  rw [← HS.out] at ho
  exact ⟨A', c', rfl, ho.base hB.size, below_then hB hb2 hB.size⟩
/-- What SubAt gives. -/
def V_SubAt (xs t : List Int) (p : Int) : List Int := if Pl.posOk xs t p then subL xs t p.toNat else []
theorem subAt_no {xs t : List Int} {p : Int} (h : Pl.posOk xs t p = false) : V_SubAt xs t p = [] := by unfold V_SubAt; rw [h]; rfl
theorem subAt_yes {xs t : List Int} {k : Nat} (h : Pl.posOk xs t k = true) : V_SubAt xs t k = subL xs t k := by unfold V_SubAt; rw [h]; rfl
theorem bd_SubAt (xs t : List Int) (p : Int) : (V_SubAt xs t p).length ≤ 60 := by
  unfold V_SubAt
  split
  · rename_i h
    have := (Pl.termOk_iff.1 (Pl.posOk_iff.1 h).1).2.1
    unfold subL
    rw [List.length_take, List.length_drop]
    omega
  · simp
set_option maxHeartbeats 400000 in
theorem I_SubAt (A : Option Addr) (n c : Nat) (xs : List Int) (B : Option Addr) (m d : Nat) (t : List Int) (p : Int) (w : World) (h : RI w A n xs) (h' : RI w B m t) (hn : n ≤ 1048576) (hm : m ≤ 1048576) (hd : m ≤ d) (hd2 : d ≤ 9223372036854775807) :
    Calls Try.prog 21 #[.agg #[.slice A n c], .slice B m d, .int .i64 p] w fun e w' => ∃ A' c', e = .returned (.slice A' (V_SubAt xs t p).length c') ∧ OI w' w.heap.size A' (V_SubAt xs t p).length c' (V_SubAt xs t p) ∧ Below w.heap.size w w' := by
  have hl := h'.1
  cases hs : Pl.posOk xs t p
  · have HE := subAt_no hs
    rw [HE]
    clear hl HE
    go_enter Try.func21, Try.ntmps21
    go_wp2_with fail
    refine (posOk_ok A n c xs B m d t p _ (h.alloc _) (h'.alloc _) hn hm).mono ?_
    rintro e w1 ⟨rfl, hb1⟩
    have hB : Below w.heap.size w w1 := below_then ((Below.refl _ _).alloc (Nat.le_refl _) _) hb1 (by simp)
    have bx : w1.cell? ⟨w.heap.size, 0, none⟩ = some (.slice A n c) := (hb1.cell (by simp)).trans (by simp)
    replace h := (h.alloc _).below hb1
    replace h' := (h'.alloc _).below hb1
    clear hb1
    go_wp2_with fail
    go_ret
    exact ⟨none, 0, rfl, World.ownsRow_nil _ _ _ _, hB⟩
  · obtain ⟨k, rfl, hk, hT⟩ := Pl.posOk_nat hs
    rw [hl] at hk
    have HE := subAt_yes hs
    rw [HE]
    have hsl : (subL xs t k).length ≤ 60 := by rw [← HE]; exact bd_SubAt _ _ _
    have HT := Lib.hid hT
    clear hl hT HE
    go_enter Try.func21, Try.ntmps21
    go_wp2_with fail
    refine (posOk_ok A n c xs B m d t k _ (h.alloc _) (h'.alloc _) hn hm).mono ?_
    rintro e w1 ⟨rfl, hb1⟩
    have hB : Below w.heap.size w w1 := below_then ((Below.refl _ _).alloc (Nat.le_refl _) _) hb1 (by simp)
    have bx : w1.cell? ⟨w.heap.size, 0, none⟩ = some (.slice A n c) := (hb1.cell (by simp)).trans (by simp)
    replace h := (h.alloc _).below hb1
    replace h' := (h'.alloc _).below hb1
    clear hb1
    go_wp2_with fail
    refine (subAt_any A n c xs B m d t k _ h h' HT.out hk hd hd2).mono ?_
    rintro e w2 ⟨A', c', rfl, hr, _, _, _, hb2⟩
    replace hB := below_then hB hb2 hB.size
    replace bx := keepC hb2 bx
    replace h := h.below hb2
    replace h' := h'.below hb2
    clear hb2
    go_wp2_with fail
    refine (slicesClone_any _ _ _ _ _ hr (by omega)).mono ?_
    rintro e w3 ⟨A'', c'', rfl, ho, hb3⟩
    go_wp2_with fail
    go_ret
    exact ⟨A'', c'', rfl, ho.base hB.size, below_then hB hb3 hB.size⟩
set_option maxHeartbeats 400000 in
theorem S_SubAt (A : Option Addr) (n c : Nat) (xs : List Int) (B : Option Addr) (m d : Nat) (t : List Int) (p : Int) (w : World) (h : RI w A n xs) (h' : RI w B m t) (hn : n ≤ 1048576) (hm : m ≤ 1048576) (hd : m ≤ d) (hd2 : d ≤ 9223372036854775807) :
    Calls Try.prog 35 #[.agg #[.slice A n c], .slice B m d, .int .i64 p] w fun e w' => ∃ A' c', e = .returned (.slice A' (V_SubAt xs t p).length c') ∧ OI w' w.heap.size A' (V_SubAt xs t p).length c' (V_SubAt xs t p) ∧ Below w.heap.size w w' := by
  have hl := h'.1
  cases hT : Pl.termOk xs t
  · have HE := subAt_no (posOk_no1 p hT)
    rw [HE]
    clear hl HE
    go_enter Try.func35, Try.ntmps35
    go_wp2_with fail
    refine (specTermOk_any A n c xs B m d t _ (h.alloc _) (h'.alloc _) (by omega) (by omega)).mono ?_
    rintro e w1 ⟨rfl, hb1⟩
    have hB : Below w.heap.size w w1 := below_then ((Below.refl _ _).alloc (Nat.le_refl _) _) hb1 (by simp)
    have bx : w1.cell? ⟨w.heap.size, 0, none⟩ = some (.slice A n c) := (hb1.cell (by simp)).trans (by simp)
    replace h := (h.alloc _).below hb1
    replace h' := (h'.alloc _).below hb1
    clear hb1
    go_wp2_with fail
    go_ret
    exact ⟨_, _, rfl, OI.empty w1 hB.size, hB.alloc hB.size _⟩
  · have hP := posOk_there p hl hT
    cases hth : there m p
    · have HE := subAt_no (hP.trans hth)
      rw [HE]
      clear hl hP HE
      go_enter Try.func35, Try.ntmps35
      go_wp2_with fail
      refine (specTermOk_any A n c xs B m d t _ (h.alloc _) (h'.alloc _) (by omega) (by omega)).mono ?_
      rintro e w1 ⟨rfl, hb1⟩
      have hB : Below w.heap.size w w1 := below_then ((Below.refl _ _).alloc (Nat.le_refl _) _) hb1 (by simp)
      have bx : w1.cell? ⟨w.heap.size, 0, none⟩ = some (.slice A n c) := (hb1.cell (by simp)).trans (by simp)
      replace h := (h.alloc _).below hb1
      replace h' := (h'.alloc _).below hb1
      clear hb1
      go_wp2_with fail
      refine (l1There_any _ _ _ _ _ (by omega)).mono ?_
      rintro e w2 ⟨rfl, rfl⟩
      go_wp2_with fail
      go_ret
      exact ⟨_, _, rfl, OI.empty w1 hB.size, hB.alloc hB.size _⟩
    · obtain ⟨k, rfl, hk, _⟩ := Pl.posOk_nat (hP.trans hth)
      rw [hl] at hk
      have HE := subAt_yes (hP.trans hth)
      rw [HE]
      have HT := Lib.hid hT
      clear hl hP HE
      go_enter Try.func35, Try.ntmps35
      go_wp2_with fail
      refine (specTermOk_any A n c xs B m d t _ (h.alloc _) (h'.alloc _) (by omega) (by omega)).mono ?_
      rintro e w1 ⟨rfl, hb1⟩
      have hB : Below w.heap.size w w1 := below_then ((Below.refl _ _).alloc (Nat.le_refl _) _) hb1 (by simp)
      have bx : w1.cell? ⟨w.heap.size, 0, none⟩ = some (.slice A n c) := (hb1.cell (by simp)).trans (by simp)
      replace h := (h.alloc _).below hb1
      replace h' := (h'.alloc _).below hb1
      clear hb1
      go_wp2_with fail
      refine (l1There_any _ _ _ _ _ (by omega)).mono ?_
      rintro e w2 ⟨rfl, rfl⟩
      go_wp2_with fail
      refine (l1Sub_any A n c xs B m d t k _ h h' HT.out hk hd hd2 hm).mono ?_
      rintro e w2 ⟨A', c', rfl, ho, hb2⟩
      go_wp2_with fail
      go_ret
      exact ⟨A', c', rfl, ho.base hB.size, below_then hB hb2 hB.size⟩
end Go.Proofs.Ytihgolhpdnoooaa
