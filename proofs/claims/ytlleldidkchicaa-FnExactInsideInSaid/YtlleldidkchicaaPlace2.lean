/- Contracts: what is inside, what is apart, what is behind; comparisons; ranks. -/
import Derived.Test.YtlleldidkchicaaPlace
namespace Go.Proofs.Ytlleldidkchicaa
open Go.RowKit
set_option linter.unusedVariables false

theorem insideIn_no1 {xs t : List Int} {p q : Int} (h : Pl.posOk xs t p = false) : Pl.insideIn xs t p q = false := by unfold Pl.insideIn; rw [h]; rfl
theorem insideIn_no2 {xs t : List Int} {p q : Int} (h1 : Pl.posOk xs t p = true) (h : Pl.posOk xs t q = false) : Pl.insideIn xs t p q = false := by unfold Pl.insideIn; rw [h, h1]; rfl
theorem insideIn_yes {xs t : List Int} {p q : Nat} (h1 : Pl.posOk xs t p = true) (h : Pl.posOk xs t q = true) : Pl.insideIn xs t p q = Pl.holds (Pl.ari xs) t p q := by unfold Pl.insideIn; rw [h, h1]; rfl
theorem apartIn_no1 {xs t : List Int} {p q : Int} (h : Pl.posOk xs t p = false) : Pl.apartIn xs t p q = false := by unfold Pl.apartIn; rw [h]; rfl
theorem apartIn_no2 {xs t : List Int} {p q : Int} (h1 : Pl.posOk xs t p = true) (h : Pl.posOk xs t q = false) : Pl.apartIn xs t p q = false := by unfold Pl.apartIn; rw [h, h1]; rfl
theorem apartIn_yes {xs t : List Int} {p q : Nat} (h1 : Pl.posOk xs t p = true) (h : Pl.posOk xs t q = true) : Pl.apartIn xs t p q = (!Pl.holds (Pl.ari xs) t p q && !Pl.holds (Pl.ari xs) t q p) := by
  unfold Pl.apartIn; rw [h, h1]; simp

set_option maxHeartbeats 1000000 in
theorem I_InsideIn (A : Option Addr) (n c : Nat) (xs : List Int) (B : Option Addr) (m d : Nat) (t : List Int) (p q : Int) (w : World) (h : RI w A n xs) (h' : RI w B m t) (hn : n ≤ 1048576) (hm : m ≤ 1048576) :
    Calls Try.prog 40 #[.agg #[.slice A n c], .slice B m d, .int .i64 p, .int .i64 q] w fun e w' => e = .returned (.bool (Pl.insideIn xs t p q)) ∧ Below w.heap.size w w' := by
  have hl := h'.1
  cases hs : Pl.posOk xs t p
  · have HE := Lib.hid (insideIn_no1 (q := q) hs)
    clear hl
    go_enter Try.func40, Try.ntmps40
    go_wp2_with fail
    refine (posOk_ok A n c xs B m d t p _ (h.alloc _) (h'.alloc _) hn hm).mono ?_
    rintro e w1 ⟨rfl, hb1⟩
    have hB : Below w.heap.size w w1 := below_then ((Below.refl _ _).alloc (Nat.le_refl _) _) hb1 (by simp)
    have bx : w1.cell? ⟨w.heap.size, 0, none⟩ = some (.slice A n c) := (hb1.cell (by simp)).trans (by simp)
    replace h := (h.alloc _).below hb1
    replace h' := (h'.alloc _).below hb1
    clear hb1
    go_wp2_with fail
    go_ret
    exact ⟨ret_bool (by exact HE.out.symm), hB⟩
  · cases hs2 : Pl.posOk xs t q
    · have HE := Lib.hid (insideIn_no2 hs hs2)
      clear hl
      go_enter Try.func40, Try.ntmps40
      go_wp2_with fail
      refine (posOk_ok A n c xs B m d t p _ (h.alloc _) (h'.alloc _) hn hm).mono ?_
      rintro e w1 ⟨rfl, hb1⟩
      have hB : Below w.heap.size w w1 := below_then ((Below.refl _ _).alloc (Nat.le_refl _) _) hb1 (by simp)
      have bx : w1.cell? ⟨w.heap.size, 0, none⟩ = some (.slice A n c) := (hb1.cell (by simp)).trans (by simp)
      replace h := (h.alloc _).below hb1
      replace h' := (h'.alloc _).below hb1
      clear hb1
      go_wp2_with fail
      refine (posOk_ok A n c xs B m d t q _ h h' hn hm).mono ?_
      rintro e w2 ⟨rfl, hb2⟩
      replace hB := below_then hB hb2 hB.size
      replace bx := keepC hb2 bx
      replace h := h.below hb2
      replace h' := h'.below hb2
      clear hb2
      go_wp2_with fail
      go_ret
      exact ⟨ret_bool (by exact HE.out.symm), hB⟩
    · obtain ⟨k, rfl, hk, hT⟩ := Pl.posOk_nat hs
      obtain ⟨l, rfl, hlk, _⟩ := Pl.posOk_nat hs2
      rw [hl] at hk hlk
      have HE := Lib.hid (insideIn_yes hs hs2)
      have HT := Lib.hid hT
      clear hl hT
      go_enter Try.func40, Try.ntmps40
      go_wp2_with fail
      refine (posOk_ok A n c xs B m d t k _ (h.alloc _) (h'.alloc _) hn hm).mono ?_
      rintro e w1 ⟨rfl, hb1⟩
      have hB : Below w.heap.size w w1 := below_then ((Below.refl _ _).alloc (Nat.le_refl _) _) hb1 (by simp)
      have bx : w1.cell? ⟨w.heap.size, 0, none⟩ = some (.slice A n c) := (hb1.cell (by simp)).trans (by simp)
      replace h := (h.alloc _).below hb1
      replace h' := (h'.alloc _).below hb1
      clear hb1
      go_wp2_with fail
      refine (posOk_ok A n c xs B m d t l _ h h' hn hm).mono ?_
      rintro e w2 ⟨rfl, hb2⟩
      replace hB := below_then hB hb2 hB.size
      replace bx := keepC hb2 bx
      replace h := h.below hb2
      replace h' := h'.below hb2
      clear hb2
      go_wp2_with fail
      refine (inside_any A n c xs B m d t k l _ h h' HT.out hk hm).mono ?_
      rintro e w3 ⟨rfl, hb3⟩
      replace hB := below_then hB hb3 hB.size
      replace bx := keepC hb3 bx
      replace h := h.below hb3
      replace h' := h'.below hb3
      clear hb3
      go_wp2_with fail
      go_ret
      exact ⟨ret_bool (by exact HE.out.symm), hB⟩
set_option maxHeartbeats 1000000 in
theorem S_InsideIn (A : Option Addr) (n c : Nat) (xs : List Int) (B : Option Addr) (m d : Nat) (t : List Int) (p q : Int) (w : World) (h : RI w A n xs) (h' : RI w B m t) (hn : n ≤ 1048576) (hm : m ≤ 1048576) :
    Calls Try.prog 39 #[.agg #[.slice A n c], .slice B m d, .int .i64 p, .int .i64 q] w fun e w' => e = .returned (.bool (Pl.insideIn xs t p q)) ∧ Below w.heap.size w w' := by
  have hl := h'.1
  cases hs : Pl.posOk xs t p
  · have HE := Lib.hid (insideIn_no1 (q := q) hs)
    clear hl
    go_enter Try.func39, Try.ntmps39
    go_wp2_with fail
    refine (l3Right_any A n c xs B m d t p _ (h.alloc _) (h'.alloc _) hn hm).mono ?_
    rintro e w1 ⟨rfl, hb1⟩
    have hB : Below w.heap.size w w1 := below_then ((Below.refl _ _).alloc (Nat.le_refl _) _) hb1 (by simp)
    have bx : w1.cell? ⟨w.heap.size, 0, none⟩ = some (.slice A n c) := (hb1.cell (by simp)).trans (by simp)
    replace h := (h.alloc _).below hb1
    replace h' := (h'.alloc _).below hb1
    clear hb1
    go_wp2_with fail
    go_ret
    exact ⟨ret_bool (by exact HE.out.symm), hB⟩
  · obtain ⟨k, rfl, hk, hT⟩ := Pl.posOk_nat hs
    have hP := posOk_there q hl hT
    cases hth : there m q
    · have HE := Lib.hid (insideIn_no2 hs (hP.trans hth))
      clear hl hP
      go_enter Try.func39, Try.ntmps39
      go_wp2_with fail
      refine (l3Right_any A n c xs B m d t k _ (h.alloc _) (h'.alloc _) hn hm).mono ?_
      rintro e w1 ⟨rfl, hb1⟩
      have hB : Below w.heap.size w w1 := below_then ((Below.refl _ _).alloc (Nat.le_refl _) _) hb1 (by simp)
      have bx : w1.cell? ⟨w.heap.size, 0, none⟩ = some (.slice A n c) := (hb1.cell (by simp)).trans (by simp)
      replace h := (h.alloc _).below hb1
      replace h' := (h'.alloc _).below hb1
      clear hb1
      go_wp2_with fail
      refine (l1There_any _ _ _ _ _ (by omega)).mono ?_
      rintro e w2 ⟨rfl, rfl⟩
      go_wp2_with fail
      go_ret
      exact ⟨ret_bool (by exact HE.out.symm), hB⟩
    · obtain ⟨l, rfl, hlk, _⟩ := Pl.posOk_nat (hP.trans hth)
      rw [hl] at hk hlk
      have HE := Lib.hid (insideIn_yes hs (hP.trans hth))
      have HT := Lib.hid hT
      clear hl hT hP
      go_enter Try.func39, Try.ntmps39
      go_wp2_with fail
      refine (l3Right_any A n c xs B m d t k _ (h.alloc _) (h'.alloc _) hn hm).mono ?_
      rintro e w1 ⟨rfl, hb1⟩
      have hB : Below w.heap.size w w1 := below_then ((Below.refl _ _).alloc (Nat.le_refl _) _) hb1 (by simp)
      have bx : w1.cell? ⟨w.heap.size, 0, none⟩ = some (.slice A n c) := (hb1.cell (by simp)).trans (by simp)
      replace h := (h.alloc _).below hb1
      replace h' := (h'.alloc _).below hb1
      clear hb1
      go_wp2_with fail
      refine (l1There_any _ _ _ _ _ (by omega)).mono ?_
      rintro e w2 ⟨rfl, rfl⟩
      go_wp2_with fail
      refine (l3Inside_any A n c xs B m d t k l _ h h' HT.out hk hlk hm).mono ?_
      rintro e w3 ⟨rfl, hb3⟩
      replace hB := below_then hB hb3 hB.size
      replace bx := keepC hb3 bx
      replace h := h.below hb3
      replace h' := h'.below hb3
      clear hb3
      go_wp2_with fail
      go_ret
      exact ⟨ret_bool (by exact HE.out.symm), hB⟩
set_option maxHeartbeats 1000000 in
theorem I_ApartIn (A : Option Addr) (n c : Nat) (xs : List Int) (B : Option Addr) (m d : Nat) (t : List Int) (p q : Int) (w : World) (h : RI w A n xs) (h' : RI w B m t) (hn : n ≤ 1048576) (hm : m ≤ 1048576) :
    Calls Try.prog 42 #[.agg #[.slice A n c], .slice B m d, .int .i64 p, .int .i64 q] w fun e w' => e = .returned (.bool (Pl.apartIn xs t p q)) ∧ Below w.heap.size w w' := by
  have hl := h'.1
  cases hs : Pl.posOk xs t p
  · have HE := Lib.hid (apartIn_no1 (q := q) hs)
    clear hl
    go_enter Try.func42, Try.ntmps42
    go_wp2_with fail
    refine (posOk_ok A n c xs B m d t p _ (h.alloc _) (h'.alloc _) hn hm).mono ?_
    rintro e w1 ⟨rfl, hb1⟩
    have hB : Below w.heap.size w w1 := below_then ((Below.refl _ _).alloc (Nat.le_refl _) _) hb1 (by simp)
    have bx : w1.cell? ⟨w.heap.size, 0, none⟩ = some (.slice A n c) := (hb1.cell (by simp)).trans (by simp)
    replace h := (h.alloc _).below hb1
    replace h' := (h'.alloc _).below hb1
    clear hb1
    go_wp2_with fail
    go_ret
    exact ⟨ret_bool (by exact HE.out.symm), hB⟩
  · cases hs2 : Pl.posOk xs t q
    · have HE := Lib.hid (apartIn_no2 hs hs2)
      clear hl
      go_enter Try.func42, Try.ntmps42
      go_wp2_with fail
      refine (posOk_ok A n c xs B m d t p _ (h.alloc _) (h'.alloc _) hn hm).mono ?_
      rintro e w1 ⟨rfl, hb1⟩
      have hB : Below w.heap.size w w1 := below_then ((Below.refl _ _).alloc (Nat.le_refl _) _) hb1 (by simp)
      have bx : w1.cell? ⟨w.heap.size, 0, none⟩ = some (.slice A n c) := (hb1.cell (by simp)).trans (by simp)
      replace h := (h.alloc _).below hb1
      replace h' := (h'.alloc _).below hb1
      clear hb1
      go_wp2_with fail
      refine (posOk_ok A n c xs B m d t q _ h h' hn hm).mono ?_
      rintro e w2 ⟨rfl, hb2⟩
      replace hB := below_then hB hb2 hB.size
      replace bx := keepC hb2 bx
      replace h := h.below hb2
      replace h' := h'.below hb2
      clear hb2
      go_wp2_with fail
      go_ret
      exact ⟨ret_bool (by exact HE.out.symm), hB⟩
    · obtain ⟨k, rfl, hk, hT⟩ := Pl.posOk_nat hs
      obtain ⟨l, rfl, hlk, _⟩ := Pl.posOk_nat hs2
      rw [hl] at hk hlk
      have HE := Lib.hid (apartIn_yes hs hs2)
      have HT := Lib.hid hT
      clear hl hT
      cases hin : Pl.holds (Pl.ari xs) t k l
      · go_enter Try.func42, Try.ntmps42
        go_wp2_with fail
        refine (posOk_ok A n c xs B m d t k _ (h.alloc _) (h'.alloc _) hn hm).mono ?_
        rintro e w1 ⟨rfl, hb1⟩
        have hB : Below w.heap.size w w1 := below_then ((Below.refl _ _).alloc (Nat.le_refl _) _) hb1 (by simp)
        have bx : w1.cell? ⟨w.heap.size, 0, none⟩ = some (.slice A n c) := (hb1.cell (by simp)).trans (by simp)
        replace h := (h.alloc _).below hb1
        replace h' := (h'.alloc _).below hb1
        clear hb1
        go_wp2_with fail
        refine (posOk_ok A n c xs B m d t l _ h h' hn hm).mono ?_
        rintro e w2 ⟨rfl, hb2⟩
        replace hB := below_then hB hb2 hB.size
        replace bx := keepC hb2 bx
        replace h := h.below hb2
        replace h' := h'.below hb2
        clear hb2
        go_wp2_with fail
        refine (inside_any A n c xs B m d t k l _ h h' HT.out hk hm).mono ?_
        rintro e w3 ⟨rfl, hb3⟩
        replace hB := below_then hB hb3 hB.size
        replace bx := keepC hb3 bx
        replace h := h.below hb3
        replace h' := h'.below hb3
        clear hb3
        go_wp2_with fail
        refine (inside_any A n c xs B m d t l k _ h h' HT.out hlk hm).mono ?_
        rintro e w4 ⟨rfl, hb4⟩
        replace hB := below_then hB hb4 hB.size
        replace bx := keepC hb4 bx
        replace h := h.below hb4
        replace h' := h'.below hb4
        clear hb4
        go_wp2_with fail
        go_ret
        exact ⟨ret_bool (by rw [HE.out, hin]; rfl), hB⟩
      · go_enter Try.func42, Try.ntmps42
        go_wp2_with fail
        refine (posOk_ok A n c xs B m d t k _ (h.alloc _) (h'.alloc _) hn hm).mono ?_
        rintro e w1 ⟨rfl, hb1⟩
        have hB : Below w.heap.size w w1 := below_then ((Below.refl _ _).alloc (Nat.le_refl _) _) hb1 (by simp)
        have bx : w1.cell? ⟨w.heap.size, 0, none⟩ = some (.slice A n c) := (hb1.cell (by simp)).trans (by simp)
        replace h := (h.alloc _).below hb1
        replace h' := (h'.alloc _).below hb1
        clear hb1
        go_wp2_with fail
        refine (posOk_ok A n c xs B m d t l _ h h' hn hm).mono ?_
        rintro e w2 ⟨rfl, hb2⟩
        replace hB := below_then hB hb2 hB.size
        replace bx := keepC hb2 bx
        replace h := h.below hb2
        replace h' := h'.below hb2
        clear hb2
        go_wp2_with fail
        refine (inside_any A n c xs B m d t k l _ h h' HT.out hk hm).mono ?_
        rintro e w3 ⟨rfl, hb3⟩
        replace hB := below_then hB hb3 hB.size
        replace bx := keepC hb3 bx
        replace h := h.below hb3
        replace h' := h'.below hb3
        clear hb3
        go_wp2_with fail
        go_ret
        exact ⟨ret_bool (by rw [HE.out, hin]; rfl), hB⟩
set_option maxHeartbeats 1000000 in
theorem S_ApartIn (A : Option Addr) (n c : Nat) (xs : List Int) (B : Option Addr) (m d : Nat) (t : List Int) (p q : Int) (w : World) (h : RI w A n xs) (h' : RI w B m t) (hn : n ≤ 1048576) (hm : m ≤ 1048576) :
    Calls Try.prog 41 #[.agg #[.slice A n c], .slice B m d, .int .i64 p, .int .i64 q] w fun e w' => e = .returned (.bool (Pl.apartIn xs t p q)) ∧ Below w.heap.size w w' := by
  have hl := h'.1
  cases hs : Pl.posOk xs t p
  · have HE := Lib.hid (apartIn_no1 (q := q) hs)
    clear hl
    go_enter Try.func41, Try.ntmps41
    go_wp2_with fail
    refine (l3Right_any A n c xs B m d t p _ (h.alloc _) (h'.alloc _) hn hm).mono ?_
    rintro e w1 ⟨rfl, hb1⟩
    have hB : Below w.heap.size w w1 := below_then ((Below.refl _ _).alloc (Nat.le_refl _) _) hb1 (by simp)
    have bx : w1.cell? ⟨w.heap.size, 0, none⟩ = some (.slice A n c) := (hb1.cell (by simp)).trans (by simp)
    replace h := (h.alloc _).below hb1
    replace h' := (h'.alloc _).below hb1
    clear hb1
    go_wp2_with fail
    go_ret
    exact ⟨ret_bool (by exact HE.out.symm), hB⟩
  · obtain ⟨k, rfl, hk, hT⟩ := Pl.posOk_nat hs
    have hP := posOk_there q hl hT
    cases hth : there m q
    · have HE := Lib.hid (apartIn_no2 hs (hP.trans hth))
      clear hl hP
      go_enter Try.func41, Try.ntmps41
      go_wp2_with fail
      refine (l3Right_any A n c xs B m d t k _ (h.alloc _) (h'.alloc _) hn hm).mono ?_
      rintro e w1 ⟨rfl, hb1⟩
      have hB : Below w.heap.size w w1 := below_then ((Below.refl _ _).alloc (Nat.le_refl _) _) hb1 (by simp)
      have bx : w1.cell? ⟨w.heap.size, 0, none⟩ = some (.slice A n c) := (hb1.cell (by simp)).trans (by simp)
      replace h := (h.alloc _).below hb1
      replace h' := (h'.alloc _).below hb1
      clear hb1
      go_wp2_with fail
      refine (l1There_any _ _ _ _ _ (by omega)).mono ?_
      rintro e w2 ⟨rfl, rfl⟩
      go_wp2_with fail
      go_ret
      exact ⟨ret_bool (by exact HE.out.symm), hB⟩
    · obtain ⟨l, rfl, hlk, _⟩ := Pl.posOk_nat (hP.trans hth)
      rw [hl] at hk hlk
      have HE := Lib.hid (apartIn_yes hs (hP.trans hth))
      have HT := Lib.hid hT
      clear hl hT hP
      cases hin : Pl.holds (Pl.ari xs) t k l
      · go_enter Try.func41, Try.ntmps41
        go_wp2_with fail
        refine (l3Right_any A n c xs B m d t k _ (h.alloc _) (h'.alloc _) hn hm).mono ?_
        rintro e w1 ⟨rfl, hb1⟩
        have hB : Below w.heap.size w w1 := below_then ((Below.refl _ _).alloc (Nat.le_refl _) _) hb1 (by simp)
        have bx : w1.cell? ⟨w.heap.size, 0, none⟩ = some (.slice A n c) := (hb1.cell (by simp)).trans (by simp)
        replace h := (h.alloc _).below hb1
        replace h' := (h'.alloc _).below hb1
        clear hb1
        go_wp2_with fail
        refine (l1There_any _ _ _ _ _ (by omega)).mono ?_
        rintro e w2 ⟨rfl, rfl⟩
        go_wp2_with fail
        refine (l3Inside_any A n c xs B m d t k l _ h h' HT.out hk hlk hm).mono ?_
        rintro e w3 ⟨rfl, hb3⟩
        replace hB := below_then hB hb3 hB.size
        replace bx := keepC hb3 bx
        replace h := h.below hb3
        replace h' := h'.below hb3
        clear hb3
        go_wp2_with fail
        refine (l3Inside_any A n c xs B m d t l k _ h h' HT.out hlk hk hm).mono ?_
        rintro e w4 ⟨rfl, hb4⟩
        replace hB := below_then hB hb4 hB.size
        replace bx := keepC hb4 bx
        replace h := h.below hb4
        replace h' := h'.below hb4
        clear hb4
        go_wp2_with fail
        go_ret
        exact ⟨ret_bool (by rw [HE.out, hin]; rfl), hB⟩
      · go_enter Try.func41, Try.ntmps41
        go_wp2_with fail
        refine (l3Right_any A n c xs B m d t k _ (h.alloc _) (h'.alloc _) hn hm).mono ?_
        rintro e w1 ⟨rfl, hb1⟩
        have hB : Below w.heap.size w w1 := below_then ((Below.refl _ _).alloc (Nat.le_refl _) _) hb1 (by simp)
        have bx : w1.cell? ⟨w.heap.size, 0, none⟩ = some (.slice A n c) := (hb1.cell (by simp)).trans (by simp)
        replace h := (h.alloc _).below hb1
        replace h' := (h'.alloc _).below hb1
        clear hb1
        go_wp2_with fail
        refine (l1There_any _ _ _ _ _ (by omega)).mono ?_
        rintro e w2 ⟨rfl, rfl⟩
        go_wp2_with fail
        refine (l3Inside_any A n c xs B m d t k l _ h h' HT.out hk hlk hm).mono ?_
        rintro e w3 ⟨rfl, hb3⟩
        replace hB := below_then hB hb3 hB.size
        replace bx := keepC hb3 bx
        replace h := h.below hb3
        replace h' := h'.below hb3
        clear hb3
        go_wp2_with fail
        go_ret
        exact ⟨ret_bool (by rw [HE.out, hin]; rfl), hB⟩
def max2 (x y : Int) : Int := if y > x then y else x
theorem l1Max_any (x y : Int) (w : World) : Calls Try.prog 66 #[.int .i64 x, .int .i64 y] w fun e w' => e = .returned (.int .i64 (max2 x y)) ∧ w = w' := by
  by_cases h1 : y < x
  · have HE : Hid (max2 x y = x) := Lib.hid (by unfold max2; rw [if_neg (by omega)])
    go_enter Try.func66, Try.ntmps66
    go_wp2
    go_ret
    exact ⟨ret_int HE.out.symm, rfl⟩
  · have HE : Hid (max2 x y = y) := Lib.hid (by unfold max2; split <;> omega)
    go_enter Try.func66, Try.ntmps66
    go_wp2
    go_ret
    exact ⟨ret_int HE.out.symm, rfl⟩
theorem behind_step (t : List Int) (k : Nat) (h : k < t.length) : Pl.behind (t.take (k + 1)) = max2 (Pl.behind (t.take k)) (-(t.getD k 0)) := by
  unfold Pl.behind max2
  rw [List.take_succ_eq_append_getElem h, List.foldl_append]
  simp [List.getD_eq_getElem?_getD, List.getElem?_eq_getElem h]
theorem behind_bd {xs t : List Int} (h : Pl.termOk xs t = true) (k : Nat) : 0 ≤ Pl.behind (t.take k) ∧ Pl.behind (t.take k) ≤ 24 := by
  have hge := Pl.termOk_ge h
  have : ∀ (l : List Int) (b : Int), (∀ x ∈ l, -24 ≤ x) → 0 ≤ b → b ≤ 24 → 0 ≤ l.foldl (fun m x => if -x > m then -x else m) b ∧ l.foldl (fun m x => if -x > m then -x else m) b ≤ 24 := by
    intro l
    induction l with
    | nil => intro b _ h1 h2; exact ⟨h1, h2⟩
    | cons x xs ih =>
      intro b hx h1 h2
      simp only [List.foldl_cons]
      have h3 := hx x (by simp)
      refine ih _ (fun y hy => hx y (by simp [hy])) ?_ ?_ <;> split <;> omega
  exact this _ 0 (fun x hx => (hge x (List.mem_of_mem_take hx)).1) (by omega) (by omega)

set_option maxHeartbeats 400000 in
theorem l5Behind_any (B : Option Addr) (m d : Nat) (xs t : List Int) (w : World) (h' : RI w B m t) (hT : Pl.termOk xs t = true) (hm : m ≤ 1048576) :
    Calls Try.prog 59 #[.slice B m d] w fun e w' => e = .returned (.int .i64 (Pl.behind t)) ∧ Below w.heap.size w w' := by
  have hge := Lib.hid (Pl.termOk_bd hT)
  have hbd := Lib.hid (behind_bd hT)
  clear hT
  go_enter Try.func59, Try.ntmps59
  go_wp2
  go_loopw [3, 4] (fun u i wr => ∃ (k : Nat) (v : Int), k ≤ m ∧ i = .int .i64 k ∧ u = .int .i64 v ∧ Hid (v = Pl.behind (t.take k)) ∧ Below w.heap.size w wr) (fun _ i _ => m - (intOf i).toNat)
  case atStart => exact ⟨0, 0, by omega, rfl, rfl, rfl, Below.refl _ _⟩
  case round =>
    obtain ⟨k, v, hk, rfl, rfl, hv, hb⟩ := hrel
    by_cases hlt : k < m
    · obtain ⟨g, off, x, rfl, hc, hx⟩ := (h'.below hb).at_ hlt
      have hst := Lib.hid (behind_step t k (by rw [h'.1]; exact hlt))
      have hxb : -24 ≤ x ∧ x ≤ 7 := by rw [hx.out]; exact hge.out _ (Pl.getD_mem (by rw [h'.1]; exact hlt))
      obtain ⟨hx1, hx2⟩ := hxb
      go_wp2_with (go_at_call 66; refine (l1Max_any _ _ _).mono ?_; rintro e w1 ⟨rfl, rfl⟩)
      go_roundw
      case rel => exact ⟨k + 1, _, by omega, by go_num, rfl, by show _ = _; rw [hst.out, ← hv.out, ← hx.out], hb⟩
      case measure => simp [intOf]; omega
    · have hkm : k = m := by omega
      go_wp2
      go_ret
      refine ⟨ret_int ?_, hb⟩
      rw [hv.out, List.take_of_length_le (by rw [h'.1]; omega)]
theorem behind_any (B : Option Addr) (m d : Nat) (xs t : List Int) (w : World) (h' : RI w B m t) (hT : Pl.termOk xs t = true) (hm : m ≤ 1048576) :
    Calls Try.prog 60 #[.slice B m d] w fun e w' => e = .returned (.int .i64 (Pl.behind t)) ∧ Below w.heap.size w w' := by
  have hl := (Pl.termOk_iff.1 hT).2.1
  have hb := behind_bd hT m
  rw [List.take_of_length_le (by rw [h'.1]; omega)] at hb
  rw [Pl.behind_lo (by omega)] at hb ⊢
  rw [h'.1] at hl
  have hlo : Pl.lo t < 9223372036854775807 := by
    obtain ⟨g, off, x, _, _, hx⟩ := h'.at_ (k := 0) (by omega)
    have h1 := (Pl.termOk_bd hT _ (Pl.getD_mem (l := t) (i := 0) (by rw [h'.1]; omega)))
    have h2 := (Pl.le_lo (t := t) (by rw [h'.1]; omega) (Pl.lo t)).1 (Int.le_refl _) _ (Pl.getD_mem (l := t) (i := 0) (by rw [h'.1]; omega))
    omega
  have hlo2 : -24 ≤ Pl.lo t := (Pl.le_lo (by rw [h'.1]; omega) _).2 fun x hx => (Pl.termOk_bd hT x hx).1
  clear hb hT
  by_cases hpos : -Pl.lo t > 0
  · rw [if_pos hpos]
    go_enter Try.func60, Try.ntmps60
    go_wp2_with fail
    refine (slicesMin_any B m d t _ h' (by omega)).mono ?_
    rintro e w1 ⟨rfl, hb1⟩
    go_wp2_with fail
    go_ret
    exact ⟨rfl, hb1⟩
  · rw [if_neg hpos]
    go_enter Try.func60, Try.ntmps60
    go_wp2_with fail
    refine (slicesMin_any B m d t _ h' (by omega)).mono ?_
    rintro e w1 ⟨rfl, hb1⟩
    go_wp2_with fail
    go_ret
    exact ⟨rfl, hb1⟩
def behindOf (xs t : List Int) : Int := if Pl.termOk xs t then Pl.behind t else -1
theorem behindOf_no {xs t : List Int} (h : Pl.termOk xs t = false) : behindOf xs t = -1 := by unfold behindOf; rw [h]; rfl
theorem behindOf_yes {xs t : List Int} (h : Pl.termOk xs t = true) : behindOf xs t = Pl.behind t := by unfold behindOf; rw [h]; rfl
theorem S_BehindOf (A : Option Addr) (n c : Nat) (xs : List Int) (B : Option Addr) (m d : Nat) (t : List Int) (w : World) (h : RI w A n xs) (h' : RI w B m t) (hn : n ≤ 1048576) (hm : m ≤ 1048576) :
    Calls Try.prog 43 #[.agg #[.slice A n c], .slice B m d] w fun e w' => e = .returned (.int .i64 (behindOf xs t)) ∧ Below w.heap.size w w' := by
  cases hs : Pl.termOk xs t
  · have HE := Lib.hid (behindOf_no hs)
    go_enter Try.func43, Try.ntmps43
    go_wp2_with fail
    refine (specTermOk_any A n c xs B m d t _ (h.alloc _) (h'.alloc _) (by omega) (by omega)).mono ?_
    rintro e w1 ⟨rfl, hb1⟩
    have hB : Below w.heap.size w w1 := below_then ((Below.refl _ _).alloc (Nat.le_refl _) _) hb1 (by simp)
    have bx : w1.cell? ⟨w.heap.size, 0, none⟩ = some (.slice A n c) := (hb1.cell (by simp)).trans (by simp)
    replace h := (h.alloc _).below hb1
    replace h' := (h'.alloc _).below hb1
    clear hb1
    go_wp2_with fail
    go_ret
    exact ⟨ret_int (by exact HE.out.symm), hB⟩
  · have HE := Lib.hid (behindOf_yes hs)
    go_enter Try.func43, Try.ntmps43
    go_wp2_with fail
    refine (specTermOk_any A n c xs B m d t _ (h.alloc _) (h'.alloc _) (by omega) (by omega)).mono ?_
    rintro e w1 ⟨rfl, hb1⟩
    have hB : Below w.heap.size w w1 := below_then ((Below.refl _ _).alloc (Nat.le_refl _) _) hb1 (by simp)
    have bx : w1.cell? ⟨w.heap.size, 0, none⟩ = some (.slice A n c) := (hb1.cell (by simp)).trans (by simp)
    replace h := (h.alloc _).below hb1
    replace h' := (h'.alloc _).below hb1
    clear hb1
    go_wp2_with fail
    refine (l5Behind_any B m d xs t _ h' hs hm).mono ?_
    rintro e w2 ⟨rfl, hb2⟩
    replace hB := below_then hB hb2 hB.size
    replace bx := keepC hb2 bx
    replace h := h.below hb2
    replace h' := h'.below hb2
    clear hb2
    go_wp2_with fail
    go_ret
    exact ⟨ret_int (by exact HE.out.symm), hB⟩
theorem I_BehindOf (A : Option Addr) (n c : Nat) (xs : List Int) (B : Option Addr) (m d : Nat) (t : List Int) (w : World) (h : RI w A n xs) (h' : RI w B m t) (hn : n ≤ 1048576) (hm : m ≤ 1048576) :
    Calls Try.prog 44 #[.agg #[.slice A n c], .slice B m d] w fun e w' => e = .returned (.int .i64 (behindOf xs t)) ∧ Below w.heap.size w w' := by
  cases hs : Pl.termOk xs t
  · have HE := Lib.hid (behindOf_no hs)
    go_enter Try.func44, Try.ntmps44
    go_wp2_with fail
    refine (implTermOk_any A n c xs B m d t _ (h.alloc _) (h'.alloc _) (by omega) (by omega)).mono ?_
    rintro e w1 ⟨rfl, hb1⟩
    have hB : Below w.heap.size w w1 := below_then ((Below.refl _ _).alloc (Nat.le_refl _) _) hb1 (by simp)
    have bx : w1.cell? ⟨w.heap.size, 0, none⟩ = some (.slice A n c) := (hb1.cell (by simp)).trans (by simp)
    replace h := (h.alloc _).below hb1
    replace h' := (h'.alloc _).below hb1
    clear hb1
    go_wp2_with fail
    go_ret
    exact ⟨ret_int (by exact HE.out.symm), hB⟩
  · have HE := Lib.hid (behindOf_yes hs)
    go_enter Try.func44, Try.ntmps44
    go_wp2_with fail
    refine (implTermOk_any A n c xs B m d t _ (h.alloc _) (h'.alloc _) (by omega) (by omega)).mono ?_
    rintro e w1 ⟨rfl, hb1⟩
    have hB : Below w.heap.size w w1 := below_then ((Below.refl _ _).alloc (Nat.le_refl _) _) hb1 (by simp)
    have bx : w1.cell? ⟨w.heap.size, 0, none⟩ = some (.slice A n c) := (hb1.cell (by simp)).trans (by simp)
    replace h := (h.alloc _).below hb1
    replace h' := (h'.alloc _).below hb1
    clear hb1
    go_wp2_with fail
    refine (behind_any B m d xs t _ h' hs hm).mono ?_
    rintro e w2 ⟨rfl, hb2⟩
    replace hB := below_then hB hb2 hB.size
    replace bx := keepC hb2 bx
    replace h := h.below hb2
    replace h' := h'.below hb2
    clear hb2
    go_wp2_with fail
    go_ret
    exact ⟨ret_int (by exact HE.out.symm), hB⟩
end Go.Proofs.Ytlleldidkchicaa
