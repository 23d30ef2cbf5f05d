/- Contracts: what is inside, what is apart, what is behind; comparisons; ranks. -/
import Derived.Test.YtihgolhpdnoooaaPlace
namespace Go.Proofs.Ytihgolhpdnoooaa
open Go.RowKit
set_option linter.unusedVariables false

theorem insideIn_no1 {xs t : List Int} {p q : Int} (h : Pl.posOk xs t p = false) : Pl.insideIn xs t p q = false := by unfold Pl.insideIn; rw [h]; rfl
theorem insideIn_no2 {xs t : List Int} {p q : Int} (h1 : Pl.posOk xs t p = true) (h : Pl.posOk xs t q = false) : Pl.insideIn xs t p q = false := by unfold Pl.insideIn; rw [h, h1]; rfl
theorem insideIn_yes {xs t : List Int} {p q : Nat} (h1 : Pl.posOk xs t p = true) (h : Pl.posOk xs t q = true) : Pl.insideIn xs t p q = Pl.holds (Pl.ari xs) t p q := by unfold Pl.insideIn; rw [h, h1]; rfl
theorem apartIn_no1 {xs t : List Int} {p q : Int} (h : Pl.posOk xs t p = false) : Pl.apartIn xs t p q = false := by unfold Pl.apartIn; rw [h]; rfl
theorem apartIn_no2 {xs t : List Int} {p q : Int} (h1 : Pl.posOk xs t p = true) (h : Pl.posOk xs t q = false) : Pl.apartIn xs t p q = false := by unfold Pl.apartIn; rw [h, h1]; rfl
theorem apartIn_yes {xs t : List Int} {p q : Nat} (h1 : Pl.posOk xs t p = true) (h : Pl.posOk xs t q = true) : Pl.apartIn xs t p q = (!Pl.holds (Pl.ari xs) t p q && !Pl.holds (Pl.ari xs) t q p) := by
  unfold Pl.apartIn; rw [h, h1]; simp

set_option maxHeartbeats 1000000 in
theorem I_InsideIn (A : Option Addr) (n c : Nat) (xs : List Int) (B : Option Addr) (m d : Nat) (t : List Int) (p q : Int) (w : World) (h : RI w A n xs) (h' : RI w B m t) (hn : n ≤ 1048576) (hm : m ≤ 1048576) :
    Calls Try.prog 43 #[.agg #[.slice A n c], .slice B m d, .int .i64 p, .int .i64 q] w fun e w' => e = .returned (.bool (Pl.insideIn xs t p q)) ∧ Below w.heap.size w w' := by
  have hl := h'.1
  cases hs : Pl.posOk xs t p
  · have HE := Lib.hid (insideIn_no1 (q := q) hs)
    clear hl
    go_enter Try.func43, Try.ntmps43
    go_wp2_with fail
    refine (posOk_ok A n c xs B m d t p _ (h.alloc _) (h'.alloc _) hn hm).mono ?_
    rintro e w1 ⟨rfl, hb1⟩
    have hB : Below w.heap.size w w1 := below_then ((Below.refl _ _).alloc (Nat.le_refl _) _) hb1 (by simp)
    have bx : w1.cell? ⟨w.heap.size, 0, none⟩ = some (.slice A n c) := (hb1.cell (by simp)).trans (by simp)
    replace h := (h.alloc _).below hb1
    replace h' := (h'.alloc _).below hb1
    clear hb1
    go_wp2_with fail
    go_ret
    exact ⟨ret_bool (by exact HE.out.symm), hB⟩
  · cases hs2 : Pl.posOk xs t q
    · have HE := Lib.hid (insideIn_no2 hs hs2)
      clear hl
      go_enter Try.func43, Try.ntmps43
      go_wp2_with fail
      refine (posOk_ok A n c xs B m d t p _ (h.alloc _) (h'.alloc _) hn hm).mono ?_
      rintro e w1 ⟨rfl, hb1⟩
      have hB : Below w.heap.size w w1 := below_then ((Below.refl _ _).alloc (Nat.le_refl _) _) hb1 (by simp)
      have bx : w1.cell? ⟨w.heap.size, 0, none⟩ = some (.slice A n c) := (hb1.cell (by simp)).trans (by simp)
      replace h := (h.alloc _).below hb1
      replace h' := (h'.alloc _).below hb1
      clear hb1
      go_wp2_with fail
      refine (posOk_ok A n c xs B m d t q _ h h' hn hm).mono ?_
      rintro e w2 ⟨rfl, hb2⟩
      replace hB := below_then hB hb2 hB.size
      replace bx := keepC hb2 bx
      replace h := h.below hb2
      replace h' := h'.below hb2
      clear hb2
      go_wp2_with fail
      go_ret
      exact ⟨ret_bool (by exact HE.out.symm), hB⟩
    · obtain ⟨k, rfl, hk, hT⟩ := Pl.posOk_nat hs
      obtain ⟨l, rfl, hlk, _⟩ := Pl.posOk_nat hs2
      rw [hl] at hk hlk
      have HE := Lib.hid (insideIn_yes hs hs2)
      have HT := Lib.hid hT
      clear hl hT
      go_enter Try.func43, Try.ntmps43
      go_wp2_with fail
      refine (posOk_ok A n c xs B m d t k _ (h.alloc _) (h'.alloc _) hn hm).mono ?_
      rintro e w1 ⟨rfl, hb1⟩
      have hB : Below w.heap.size w w1 := below_then ((Below.refl _ _).alloc (Nat.le_refl _) _) hb1 (by simp)
      have bx : w1.cell? ⟨w.heap.size, 0, none⟩ = some (.slice A n c) := (hb1.cell (by simp)).trans (by simp)
      replace h := (h.alloc _).below hb1
      replace h' := (h'.alloc _).below hb1
      clear hb1
      go_wp2_with fail
      refine (posOk_ok A n c xs B m d t l _ h h' hn hm).mono ?_
      rintro e w2 ⟨rfl, hb2⟩
      replace hB := below_then hB hb2 hB.size
      replace bx := keepC hb2 bx
      replace h := h.below hb2
      replace h' := h'.below hb2
      clear hb2
      go_wp2_with fail
      refine (inside_any A n c xs B m d t k l _ h h' HT.out hk hm).mono ?_
      rintro e w3 ⟨rfl, hb3⟩
      replace hB := below_then hB hb3 hB.size
      replace bx := keepC hb3 bx
      replace h := h.below hb3
      replace h' := h'.below hb3
      clear hb3
      go_wp2_with fail
      go_ret
      exact ⟨ret_bool (by exact HE.out.symm), hB⟩
set_option maxHeartbeats 1000000 in
theorem I_ApartIn (A : Option Addr) (n c : Nat) (xs : List Int) (B : Option Addr) (m d : Nat) (t : List Int) (p q : Int) (w : World) (h : RI w A n xs) (h' : RI w B m t) (hn : n ≤ 1048576) (hm : m ≤ 1048576) :
    Calls Try.prog 32 #[.agg #[.slice A n c], .slice B m d, .int .i64 p, .int .i64 q] w fun e w' => e = .returned (.bool (Pl.apartIn xs t p q)) ∧ Below w.heap.size w w' := by
  have hl := h'.1
  cases hs : Pl.posOk xs t p
  · have HE := Lib.hid (apartIn_no1 (q := q) hs)
    clear hl
    go_enter Try.func32, Try.ntmps32
    go_wp2_with fail
    refine (posOk_ok A n c xs B m d t p _ (h.alloc _) (h'.alloc _) hn hm).mono ?_
    rintro e w1 ⟨rfl, hb1⟩
    have hB : Below w.heap.size w w1 := below_then ((Below.refl _ _).alloc (Nat.le_refl _) _) hb1 (by simp)
    have bx : w1.cell? ⟨w.heap.size, 0, none⟩ = some (.slice A n c) := (hb1.cell (by simp)).trans (by simp)
    replace h := (h.alloc _).below hb1
    replace h' := (h'.alloc _).below hb1
    clear hb1
    go_wp2_with fail
    go_ret
    exact ⟨ret_bool (by exact HE.out.symm), hB⟩
  · cases hs2 : Pl.posOk xs t q
    · have HE := Lib.hid (apartIn_no2 hs hs2)
      clear hl
      go_enter Try.func32, Try.ntmps32
      go_wp2_with fail
      refine (posOk_ok A n c xs B m d t p _ (h.alloc _) (h'.alloc _) hn hm).mono ?_
      rintro e w1 ⟨rfl, hb1⟩
      have hB : Below w.heap.size w w1 := below_then ((Below.refl _ _).alloc (Nat.le_refl _) _) hb1 (by simp)
      have bx : w1.cell? ⟨w.heap.size, 0, none⟩ = some (.slice A n c) := (hb1.cell (by simp)).trans (by simp)
      replace h := (h.alloc _).below hb1
      replace h' := (h'.alloc _).below hb1
      clear hb1
      go_wp2_with fail
      refine (posOk_ok A n c xs B m d t q _ h h' hn hm).mono ?_
      rintro e w2 ⟨rfl, hb2⟩
      replace hB := below_then hB hb2 hB.size
      replace bx := keepC hb2 bx
      replace h := h.below hb2
      replace h' := h'.below hb2
      clear hb2
      go_wp2_with fail
      go_ret
      exact ⟨ret_bool (by exact HE.out.symm), hB⟩
    · obtain ⟨k, rfl, hk, hT⟩ := Pl.posOk_nat hs
      obtain ⟨l, rfl, hlk, _⟩ := Pl.posOk_nat hs2
      rw [hl] at hk hlk
      have HE := Lib.hid (apartIn_yes hs hs2)
      have HT := Lib.hid hT
      clear hl hT
      cases hin : Pl.holds (Pl.ari xs) t k l
      · go_enter Try.func32, Try.ntmps32
        go_wp2_with fail
        refine (posOk_ok A n c xs B m d t k _ (h.alloc _) (h'.alloc _) hn hm).mono ?_
        rintro e w1 ⟨rfl, hb1⟩
        have hB : Below w.heap.size w w1 := below_then ((Below.refl _ _).alloc (Nat.le_refl _) _) hb1 (by simp)
        have bx : w1.cell? ⟨w.heap.size, 0, none⟩ = some (.slice A n c) := (hb1.cell (by simp)).trans (by simp)
        replace h := (h.alloc _).below hb1
        replace h' := (h'.alloc _).below hb1
        clear hb1
        go_wp2_with fail
        refine (posOk_ok A n c xs B m d t l _ h h' hn hm).mono ?_
        rintro e w2 ⟨rfl, hb2⟩
        replace hB := below_then hB hb2 hB.size
        replace bx := keepC hb2 bx
        replace h := h.below hb2
        replace h' := h'.below hb2
        clear hb2
        go_wp2_with fail
        refine (inside_any A n c xs B m d t k l _ h h' HT.out hk hm).mono ?_
        rintro e w3 ⟨rfl, hb3⟩
        replace hB := below_then hB hb3 hB.size
        replace bx := keepC hb3 bx
        replace h := h.below hb3
        replace h' := h'.below hb3
        clear hb3
        go_wp2_with fail
        refine (inside_any A n c xs B m d t l k _ h h' HT.out hlk hm).mono ?_
        rintro e w4 ⟨rfl, hb4⟩
        replace hB := below_then hB hb4 hB.size
        replace bx := keepC hb4 bx
        replace h := h.below hb4
        replace h' := h'.below hb4
        clear hb4
        go_wp2_with fail
        go_ret
        exact ⟨ret_bool (by rw [HE.out, hin]; rfl), hB⟩
      · go_enter Try.func32, Try.ntmps32
        go_wp2_with fail
        refine (posOk_ok A n c xs B m d t k _ (h.alloc _) (h'.alloc _) hn hm).mono ?_
        rintro e w1 ⟨rfl, hb1⟩
        have hB : Below w.heap.size w w1 := below_then ((Below.refl _ _).alloc (Nat.le_refl _) _) hb1 (by simp)
        have bx : w1.cell? ⟨w.heap.size, 0, none⟩ = some (.slice A n c) := (hb1.cell (by simp)).trans (by simp)
        replace h := (h.alloc _).below hb1
        replace h' := (h'.alloc _).below hb1
        clear hb1
        go_wp2_with fail
        refine (posOk_ok A n c xs B m d t l _ h h' hn hm).mono ?_
        rintro e w2 ⟨rfl, hb2⟩
        replace hB := below_then hB hb2 hB.size
        replace bx := keepC hb2 bx
        replace h := h.below hb2
        replace h' := h'.below hb2
        clear hb2
        go_wp2_with fail
        refine (inside_any A n c xs B m d t k l _ h h' HT.out hk hm).mono ?_
        rintro e w3 ⟨rfl, hb3⟩
        replace hB := below_then hB hb3 hB.size
        replace bx := keepC hb3 bx
        replace h := h.below hb3
        replace h' := h'.below hb3
        clear hb3
        go_wp2_with fail
        go_ret
        exact ⟨ret_bool (by rw [HE.out, hin]; rfl), hB⟩
def max2 (x y : Int) : Int := if y > x then y else x
theorem l1Max_any (x y : Int) (w : World) : Calls Try.prog 143 #[.int .i64 x, .int .i64 y] w fun e w' => e = .returned (.int .i64 (max2 x y)) ∧ w = w' := by
  by_cases h1 : y < x
  · have HE : Hid (max2 x y = x) := Lib.hid (by unfold max2; rw [if_neg (by omega)])
    go_enter Try.func143, Try.ntmps143
    go_wp2
    go_ret
    exact ⟨ret_int HE.out.symm, rfl⟩
  · have HE : Hid (max2 x y = y) := Lib.hid (by unfold max2; split <;> omega)
    go_enter Try.func143, Try.ntmps143
    go_wp2
    go_ret
    exact ⟨ret_int HE.out.symm, rfl⟩
def behindOf (xs t : List Int) : Int := if Pl.termOk xs t then Pl.behind t else -1
theorem behindOf_no {xs t : List Int} (h : Pl.termOk xs t = false) : behindOf xs t = -1 := by unfold behindOf; rw [h]; rfl
theorem behindOf_yes {xs t : List Int} (h : Pl.termOk xs t = true) : behindOf xs t = Pl.behind t := by unfold behindOf; rw [h]; rfl
end Go.Proofs.Ytihgolhpdnoooaa
