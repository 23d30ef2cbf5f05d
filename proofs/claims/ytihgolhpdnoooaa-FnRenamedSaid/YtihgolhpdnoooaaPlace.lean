/- Contracts: places in terms; comparisons; ranks. -/
import Derived.Test.YtihgolhpdnoooaaTerm2
namespace Go.Proofs.Ytihgolhpdnoooaa
open Go.RowKit
set_option linter.unusedVariables false

/-- The program's end of a term at a place of a right term. -/
theorem endAt_ok (A : Option Addr) (n c : Nat) (xs : List Int) (B : Option Addr) (m d : Nat) (t : List Int) (p : Nat) (w : World)
    (h : RI w A n xs) (h' : RI w B m t) (hT : Pl.termOk xs t = true) (hp : p < m) :
    Calls Try.prog 81 #[.agg #[.slice A n c], .slice B m d, .int .i64 p] w fun e w' => e = .returned (.int .i64 (Pl.fin (Pl.ari xs) t p : Nat)) ∧ Below w.heap.size w w' := by
  obtain ⟨hs, hl, _⟩ := Pl.termOk_iff.1 hT
  have hs' := (Pl.sigOk_iff.1 hs).1
  rw [h.1] at hs'
  rw [h'.1] at hl
  rw [← Pl.end_nxt hT (by rw [h'.1]; exact hp)]
  exact endAt_any A n c xs B m d t p w h h' (by omega) (by omega) hs (by omega)
theorem l1End_ok (A : Option Addr) (n c : Nat) (xs : List Int) (B : Option Addr) (m d : Nat) (t : List Int) (p : Nat) (w : World)
    (h : RI w A n xs) (h' : RI w B m t) (hT : Pl.termOk xs t = true) (hp : p < m) :
    Calls Try.prog 84 #[.agg #[.slice A n c], .slice B m d, .int .i64 p] w fun e w' => e = .returned (.int .i64 (Pl.fin (Pl.ari xs) t p : Nat)) ∧ Below w.heap.size w w' := by
  obtain ⟨hs, hl, _⟩ := Pl.termOk_iff.1 hT
  have hs' := (Pl.sigOk_iff.1 hs).1
  rw [h.1] at hs'
  rw [h'.1] at hl
  rw [← Pl.end_ari hT (by rw [h'.1]; exact hp)]
  exact l1End_any A n c xs B m d t p w h h' (by omega) (by omega) hs (by omega)
theorem posB_iff {xs t : List Int} {m : Nat} {p : Int} (hl : t.length = m) : (Pl.termOk xs t && inB p 0 ((m : Int) - 1)) = Pl.posOk xs t p := by
  unfold Pl.posOk inB
  rw [hl, Bool.eq_iff_iff]
  simp only [Bool.and_eq_true, decide_eq_true_eq]
  constructor <;> rintro ⟨h1, h2⟩ <;> exact ⟨h1, by omega⟩
theorem posOk_no1 {xs t : List Int} (p : Int) (h : Pl.termOk xs t = false) : Pl.posOk xs t p = false := by unfold Pl.posOk; rw [h]; rfl
theorem posOk_there {xs t : List Int} {m : Nat} (p : Int) (hl : t.length = m) (h : Pl.termOk xs t = true) : Pl.posOk xs t p = there m p := by
  rw [← posB_iff hl, h]; rfl

theorem posOk_ok (A : Option Addr) (n c : Nat) (xs : List Int) (B : Option Addr) (m d : Nat) (t : List Int) (p : Int) (w : World) (h : RI w A n xs) (h' : RI w B m t) (hn : n ≤ 1048576) (hm : m ≤ 1048576) :
    Calls Try.prog 86 #[.agg #[.slice A n c], .slice B m d, .int .i64 p] w fun e w' => e = .returned (.bool (Pl.posOk xs t p)) ∧ Below w.heap.size w w' := by
  rw [← posB_iff h'.1]
  exact posOk_any A n c xs B m d t p w h h' (by omega) (by omega)
set_option maxHeartbeats 400000 in
theorem l3Right_any (A : Option Addr) (n c : Nat) (xs : List Int) (B : Option Addr) (m d : Nat) (t : List Int) (p : Int) (w : World) (h : RI w A n xs) (h' : RI w B m t) (hn : n ≤ 1048576) (hm : m ≤ 1048576) :
    Calls Try.prog 96 #[.agg #[.slice A n c], .slice B m d, .int .i64 p] w fun e w' => e = .returned (.bool (Pl.posOk xs t p)) ∧ Below w.heap.size w w' := by
  have hl := h'.1
  cases hs : Pl.termOk xs t
  · have HE := Lib.hid (posOk_no1 p hs)
    clear hl
    go_enter Try.func96, Try.ntmps96
    go_wp2_with fail
    refine (specTermOk_any A n c xs B m d t _ (h.alloc _) (h'.alloc _) (by omega) (by omega)).mono ?_
    rintro e w1 ⟨rfl, hb1⟩
    have hB : Below w.heap.size w w1 := below_then ((Below.refl _ _).alloc (Nat.le_refl _) _) hb1 (by simp)
    have bx : w1.cell? ⟨w.heap.size, 0, none⟩ = some (.slice A n c) := (hb1.cell (by simp)).trans (by simp)
    replace h := (h.alloc _).below hb1
    replace h' := (h'.alloc _).below hb1
    clear hb1
    go_wp2_with fail
    go_ret
    exact ⟨ret_bool (by exact HE.out.symm), hB⟩
  · have HE := Lib.hid (posOk_there p hl hs)
    clear hl
    go_enter Try.func96, Try.ntmps96
    go_wp2_with fail
    refine (specTermOk_any A n c xs B m d t _ (h.alloc _) (h'.alloc _) (by omega) (by omega)).mono ?_
    rintro e w1 ⟨rfl, hb1⟩
    have hB : Below w.heap.size w w1 := below_then ((Below.refl _ _).alloc (Nat.le_refl _) _) hb1 (by simp)
    have bx : w1.cell? ⟨w.heap.size, 0, none⟩ = some (.slice A n c) := (hb1.cell (by simp)).trans (by simp)
    replace h := (h.alloc _).below hb1
    replace h' := (h'.alloc _).below hb1
    clear hb1
    go_wp2_with fail
    refine (l1There_any _ _ _ _ _ (by omega)).mono ?_
    rintro e w2 ⟨rfl, rfl⟩
    go_wp2_with fail
    go_ret
    exact ⟨ret_bool (by exact HE.out.symm), hB⟩
theorem endOfV_no {xs t : List Int} {p : Int} (h : Pl.posOk xs t p = false) : Pl.endOfV xs t p = -1 := by unfold Pl.endOfV; rw [h]; rfl
theorem endOfV_yes {xs t : List Int} {k : Nat} (h : Pl.posOk xs t k = true) : Pl.endOfV xs t k = Pl.fin (Pl.ari xs) t k := by unfold Pl.endOfV; rw [h]; rfl

set_option maxHeartbeats 400000 in
theorem I_EndOf (A : Option Addr) (n c : Nat) (xs : List Int) (B : Option Addr) (m d : Nat) (t : List Int) (p : Int) (w : World) (h : RI w A n xs) (h' : RI w B m t) (hn : n ≤ 1048576) (hm : m ≤ 1048576) :
    Calls Try.prog 16 #[.agg #[.slice A n c], .slice B m d, .int .i64 p] w fun e w' => e = .returned (.int .i64 (Pl.endOfV xs t p)) ∧ Below w.heap.size w w' := by
  have hl := h'.1
  cases hs : Pl.posOk xs t p
  · have HE := Lib.hid (endOfV_no hs)
    clear hl
    go_enter Try.func16, Try.ntmps16
    go_wp2_with fail
    refine (posOk_ok A n c xs B m d t p _ (h.alloc _) (h'.alloc _) hn hm).mono ?_
    rintro e w1 ⟨rfl, hb1⟩
    have hB : Below w.heap.size w w1 := below_then ((Below.refl _ _).alloc (Nat.le_refl _) _) hb1 (by simp)
    have bx : w1.cell? ⟨w.heap.size, 0, none⟩ = some (.slice A n c) := (hb1.cell (by simp)).trans (by simp)
    replace h := (h.alloc _).below hb1
    replace h' := (h'.alloc _).below hb1
    clear hb1
    go_wp2_with fail
    go_ret
    exact ⟨ret_int (by exact HE.out.symm), hB⟩
  · obtain ⟨k, rfl, hk, hT⟩ := Pl.posOk_nat hs
    rw [hl] at hk
    have HE := Lib.hid (endOfV_yes hs)
    have HT := Lib.hid hT
    clear hl hT
    go_enter Try.func16, Try.ntmps16
    go_wp2_with fail
    refine (posOk_ok A n c xs B m d t k _ (h.alloc _) (h'.alloc _) hn hm).mono ?_
    rintro e w1 ⟨rfl, hb1⟩
    have hB : Below w.heap.size w w1 := below_then ((Below.refl _ _).alloc (Nat.le_refl _) _) hb1 (by simp)
    have bx : w1.cell? ⟨w.heap.size, 0, none⟩ = some (.slice A n c) := (hb1.cell (by simp)).trans (by simp)
    replace h := (h.alloc _).below hb1
    replace h' := (h'.alloc _).below hb1
    clear hb1
    go_wp2_with fail
    refine (endAt_ok A n c xs B m d t k _ h h' HT.out hk).mono ?_
    rintro e w2 ⟨rfl, hb2⟩
    replace hB := below_then hB hb2 hB.size
    replace bx := keepC hb2 bx
    replace h := h.below hb2
    replace h' := h'.below hb2
    clear hb2
    go_wp2_with fail
    go_ret
    exact ⟨ret_int (by exact HE.out.symm), hB⟩
theorem l3Inside_any (A : Option Addr) (n c : Nat) (xs : List Int) (B : Option Addr) (m d : Nat) (t : List Int) (p q : Nat) (w : World) (h : RI w A n xs) (h' : RI w B m t) (hT : Pl.termOk xs t = true) (hp : p < m) (hq : q < m) (hm : m ≤ 1048576) :
    Calls Try.prog 142 #[.agg #[.slice A n c], .slice B m d, .int .i64 p, .int .i64 q] w fun e w' => e = .returned (.bool (Pl.holds (Pl.ari xs) t p q)) ∧ Below w.heap.size w w' := by
  have hf := (Pl.fin_of (Pl.termOk_iff.1 hT).2.2 (p := p) (by rw [h'.1]; exact hp))
  rw [h'.1] at hf
  have hf1 := hf.2.1
  have hf2 := hf.2.2.1
  have HT := Lib.hid hT
  have HE : Hid (inB (q : Int) p ((Pl.fin (Pl.ari xs) t p : Nat) - 1) = Pl.holds (Pl.ari xs) t p q) := Lib.hid (by
    unfold inB Pl.holds
    rw [Bool.eq_iff_iff]
    simp only [decide_eq_true_eq]
    omega)
  clear hT hf
  generalize hF : Pl.fin (Pl.ari xs) t p = F at *
  have HF := Lib.hid hF
  clear hF
  go_enter Try.func142, Try.ntmps142
  go_wp2_with fail
  refine (l1End_ok A n c xs B m d t p _ (h.alloc _) (h'.alloc _) HT.out hp).mono ?_
  rintro e w1 ⟨rfl, hb1⟩
  have hB : Below w.heap.size w w1 := below_then ((Below.refl _ _).alloc (Nat.le_refl _) _) hb1 (by simp)
  have bx : w1.cell? ⟨w.heap.size, 0, none⟩ = some (.slice A n c) := (hb1.cell (by simp)).trans (by simp)
  replace h := (h.alloc _).below hb1
  replace h' := (h'.alloc _).below hb1
  clear hb1
  rw [HF.out]
  go_wp2_with fail
  refine (l1In_any _ _ _ _).mono ?_
  rintro e w2 ⟨rfl, rfl⟩
  go_wp2_with fail
  go_ret
  exact ⟨ret_bool (by exact HE.out), hB⟩
theorem inside_any (A : Option Addr) (n c : Nat) (xs : List Int) (B : Option Addr) (m d : Nat) (t : List Int) (p q : Nat) (w : World) (h : RI w A n xs) (h' : RI w B m t) (hT : Pl.termOk xs t = true) (hp : p < m) (hm : m ≤ 1048576) :
    Calls Try.prog 98 #[.agg #[.slice A n c], .slice B m d, .int .i64 p, .int .i64 q] w fun e w' => e = .returned (.bool (Pl.holds (Pl.ari xs) t p q)) ∧ Below w.heap.size w w' := by
  have HT := Lib.hid hT
  by_cases hpq : p ≤ q
  · have e1 : decide (p ≤ q) = true := by simpa using hpq
    have HE : Hid (decide (q < Pl.fin (Pl.ari xs) t p) = Pl.holds (Pl.ari xs) t p q) := Lib.hid (by
      unfold Pl.holds
      rw [Bool.eq_iff_iff]
      simp only [decide_eq_true_eq]
      omega)
    clear hT hpq
    go_enter Try.func98, Try.ntmps98
    go_wp2_with fail
    refine (endAt_ok A n c xs B m d t p _ (h.alloc _) (h'.alloc _) HT.out hp).mono ?_
    rintro e w1 ⟨rfl, hb1⟩
    have hB : Below w.heap.size w w1 := below_then ((Below.refl _ _).alloc (Nat.le_refl _) _) hb1 (by simp)
    have bx : w1.cell? ⟨w.heap.size, 0, none⟩ = some (.slice A n c) := (hb1.cell (by simp)).trans (by simp)
    replace h := (h.alloc _).below hb1
    replace h' := (h'.alloc _).below hb1
    clear hb1
    go_wp2_with fail
    go_ret
    exact ⟨ret_bool (by exact HE.out), hB⟩
  · have e1 : decide (p ≤ q) = false := by simpa using hpq
    have HE : Hid (Pl.holds (Pl.ari xs) t p q = false) := Lib.hid (by
      unfold Pl.holds
      simp only [decide_eq_false_iff_not]
      omega)
    clear hT hpq
    go_enter Try.func98, Try.ntmps98
    go_wp2_with fail
    go_ret
    exact ⟨ret_bool HE.out.symm, (Below.refl _ _).alloc (Nat.le_refl _) _⟩
end Go.Proofs.Ytihgolhpdnoooaa
