/- Contracts: right terms and places, the program's way and the reference's. -/
import Derived.Test.YtcjgcopkeeiicaaCur
namespace Go.Proofs.Ytcjgcopkeeiicaa
open Go.RowKit
set_option linter.unusedVariables false

set_option maxHeartbeats 1000000 in
theorem endAt_any (A : Option Addr) (n c : Nat) (xs : List Int) (B : Option Addr) (m d : Nat) (t : List Int) (p : Nat) (w : World)
    (h : RI w A n xs) (h' : RI w B m t) (hn : n ≤ 9223372036854775806) (hm : m ≤ 1048576) (hs : Pl.sigOk xs = true) (hp : p ≤ m) :
    Calls Try.prog 68 #[.agg #[.slice A n c], .slice B m d, .int .i64 p] w fun e w' => e = .returned (.int .i64 (Pl.endOf (Pl.nxt xs) t p)) ∧ Below w.heap.size w w' := by
  have HS := Lib.hid hs
  clear hs
  go_enter Try.func68, Try.ntmps68
  go_wp2_with fail
  refine (skip_any w (w.heap.size + 1) A n c xs B m d t p _ h h' hn hm HS.out hp (((Below.refl _ _).alloc (Nat.le_refl _) _).alloc (by simp) _) (by omega) (by
    have := Blk.new (w.alloc (.cells #[.slice A n c] 30)) 108 #[.slice A n c, .slice B m d, .int .i64 p]
    simp only [World.size_alloc] at this
    exact this)).mono ?_
  rintro e w1 ⟨r, k, rfl, hb, hc, h1, h2⟩
  have c2 : w1.cell? ⟨w.heap.size + 1, 2, none⟩ = some (.int .i64 k) := by have := hc.cell 2; simpa using this
  have H1 := Lib.hid h1
  have H2 := Lib.hid h2
  clear h1 h2 hc
  cases r
  · go_wp2_with fail
    go_ret
    exact ⟨ret_int (H2.out (by simp)).symm, hb⟩
  · go_wp2_with fail
    go_ret
    exact ⟨ret_int (H1.out (by simp)).symm, hb⟩
theorem termOk_prog {ar t : List Int} {m : Nat} (hs : Pl.sigOk ar = true) (hl : t.length = m) (h : 1 ≤ m ∧ m ≤ 60) : Pl.termOk ar t = (decide (-24 ≤ Pl.lo t) && (Pl.endOf (Pl.nxt ar) t 0 == (m : Int))) := by
  rw [Pl.termOk_min hs (by rw [hl]; exact h), hl]
  congr 1
  · rw [Bool.eq_iff_iff]
    simp only [List.all_eq_true, decide_eq_true_eq]
    exact (Pl.le_lo (by omega) _).symm

set_option maxHeartbeats 1000000 in
theorem implTermOk_any (A : Option Addr) (n c : Nat) (xs : List Int) (B : Option Addr) (m d : Nat) (t : List Int) (w : World) (h : RI w A n xs) (h' : RI w B m t) (hn : n ≤ 9223372036854775806) (hm : m ≤ 9223372036854775806) :
    Calls Try.prog 62 #[.agg #[.slice A n c], .slice B m d] w fun e w' => e = .returned (.bool (Pl.termOk xs t)) ∧ Below w.heap.size w w' := by
  cases hs : Pl.sigOk xs
  · have HE := Lib.hid (termOk_no1 (t := t) hs)
    go_enter Try.func62, Try.ntmps62
    go_wp2_with fail
    refine (implSigOk_any A n c xs _ (h.alloc _) hn).mono ?_
    rintro e w1 ⟨rfl, hb1⟩
    go_wp2_with fail
    go_ret
    exact ⟨ret_bool HE.out.symm, below_then ((Below.refl _ _).alloc (Nat.le_refl _) _) hb1 (by simp)⟩
  · by_cases h1 : (0 : Int) < m
    · by_cases h2 : (m : Int) ≤ 60
      · have HE := Lib.hid (termOk_prog hs h'.1 (by omega))
        have e1 : decide ((0 : Int) < m) = true := by simpa using h1
        have e2 : decide ((m : Int) ≤ 60) = true := by simpa using h2
        cases h3 : decide (-24 ≤ Pl.lo t)
        · go_enter Try.func62, Try.ntmps62
          go_wp2_with fail
          refine (implSigOk_any A n c xs _ (h.alloc _) hn).mono ?_
          rintro e w1 ⟨rfl, hb1⟩
          go_wp2_with fail
          refine (slicesMin_any B m d t _ ((h'.alloc _).below hb1) (by omega)).mono ?_
          rintro e w2 ⟨rfl, hb2⟩
          go_wp2_with fail
          go_ret
          exact ⟨ret_bool (by rw [HE.out, h3]; rfl), below_then (below_then ((Below.refl _ _).alloc (Nat.le_refl _) _) hb1 (by simp)) hb2 (by have := hb1.size; simp at this; omega)⟩
        · go_enter Try.func62, Try.ntmps62
          go_wp2_with fail
          refine (implSigOk_any A n c xs _ (h.alloc _) hn).mono ?_
          rintro e w1 ⟨rfl, hb1⟩
          go_wp2_with fail
          refine (slicesMin_any B m d t _ ((h'.alloc _).below hb1) (by omega)).mono ?_
          rintro e w2 ⟨rfl, hb2⟩
          have hbox : w2.cell? ⟨w.heap.size, 0, none⟩ = some (.slice A n c) := keepC hb2 ((hb1.cell (by simp)).trans (by simp))
          go_wp2_with fail
          refine (endAt_any A n c xs B m d t 0 _ (((h.alloc _).below hb1).below hb2) (((h'.alloc _).below hb1).below hb2) hn (by omega) hs (by omega)).mono ?_
          rintro e w3 ⟨rfl, hb3⟩
          go_wp2_with fail
          go_ret
          exact ⟨ret_bool (by rw [HE.out, h3]; rfl), below_then (below_then (below_then ((Below.refl _ _).alloc (Nat.le_refl _) _) hb1 (by simp)) hb2 (by have := hb1.size; simp at this; omega)) hb3 (by have := hb1.size; have := hb2.size; simp at *; omega)⟩
      · have HE := Lib.hid (termOk_no2 (ar := xs) h'.1 (by omega))
        have e1 : decide ((0 : Int) < m) = true := by simpa using h1
        have e2 : decide ((m : Int) ≤ 60) = false := by simpa using h2
        go_enter Try.func62, Try.ntmps62
        go_wp2_with fail
        refine (implSigOk_any A n c xs _ (h.alloc _) hn).mono ?_
        rintro e w1 ⟨rfl, hb1⟩
        go_wp2_with fail
        go_ret
        exact ⟨ret_bool HE.out.symm, below_then ((Below.refl _ _).alloc (Nat.le_refl _) _) hb1 (by simp)⟩
    · have HE := Lib.hid (termOk_no2 (ar := xs) h'.1 (by omega))
      have e1 : decide ((0 : Int) < m) = false := by simpa using h1
      go_enter Try.func62, Try.ntmps62
      go_wp2_with fail
      refine (implSigOk_any A n c xs _ (h.alloc _) hn).mono ?_
      rintro e w1 ⟨rfl, hb1⟩
      go_wp2_with fail
      go_ret
      exact ⟨ret_bool HE.out.symm, below_then ((Below.refl _ _).alloc (Nat.le_refl _) _) hb1 (by simp)⟩
end Go.Proofs.Ytcjgcopkeeiicaa
