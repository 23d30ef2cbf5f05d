/- Contracts: right rules. -/
import Derived.Test.YtcjgcopkeeiicaaTerm2
import Derived.Test.YtcjgcopkeeiicaaCmp
import Derived.Test.YtcjgcopkeeiicaaHas
import Derived.Test.YtcjgcopkeeiicaaRule
namespace Go.Proofs.Ytcjgcopkeeiicaa
open Go.RowKit
set_option linter.unusedVariables false

/-- No variable stands on the right alone, among the first k numbers there. -/
def rvTo (l r : List Int) (k : Nat) : Bool := (List.range k).all fun i => !(decide (r.getD i 0 < 0) && !l.contains (r.getD i 0))
def ruleOk (xs l r : List Int) : Bool := Pl.termOk xs l && Pl.termOk xs r && decide (0 ≤ l.getD 0 0) && rvTo l r r.length
theorem ruleOk_no1 {xs l r : List Int} (h : Pl.termOk xs l = false) : ruleOk xs l r = false := by unfold ruleOk; rw [h]; rfl
theorem ruleOk_no2 {xs l r : List Int} (h1 : Pl.termOk xs l = true) (h : Pl.termOk xs r = false) : ruleOk xs l r = false := by unfold ruleOk; rw [h, h1]; rfl
theorem ruleOk_no3 {xs l r : List Int} (h1 : Pl.termOk xs l = true) (h2 : Pl.termOk xs r = true) (h : l.getD 0 0 < 0) : ruleOk xs l r = false := by unfold ruleOk; rw [h2, h1, decide_eq_false (by omega)]; rfl
theorem ruleOk_yes {xs l r : List Int} {o : Nat} (hl : r.length = o) (h1 : Pl.termOk xs l = true) (h2 : Pl.termOk xs r = true) (h : ¬ l.getD 0 0 < 0) : ruleOk xs l r = rvTo l r o := by unfold ruleOk; rw [h2, h1, hl, decide_eq_true (by omega)]; rfl
theorem rv_bad {l r : List Int} {k o : Nat} {x : Int} (hk : k < o) (hx : x = r.getD k 0) (h0 : x < 0) (hc : l.contains x = false) : rvTo l r o = false :=
  range_all_stop hk (by show (!(decide (r.getD k 0 < 0) && !l.contains (r.getD k 0))) = false; rw [← hx, hc, decide_eq_true h0]; rfl)
theorem rv_ok1 {l r : List Int} {k : Nat} {x : Int} (h : rvTo l r k = true) (hx : x = r.getD k 0) (h0 : ¬ x < 0) : rvTo l r (k + 1) = true :=
  range_all_step h (by show (!(decide (r.getD k 0 < 0) && !l.contains (r.getD k 0))) = true; rw [← hx, decide_eq_false h0]; rfl)
theorem rv_ok2 {l r : List Int} {k : Nat} {x : Int} (h : rvTo l r k = true) (hx : x = r.getD k 0) (hc : l.contains x = true) : rvTo l r (k + 1) = true :=
  range_all_step h (by show (!(decide (r.getD k 0 < 0) && !l.contains (r.getD k 0))) = true; rw [← hx, hc]; simp)
set_option maxHeartbeats 1000000 in
theorem S_RuleOk (A : Option Addr) (n c : Nat) (xs : List Int) (B : Option Addr) (m d : Nat) (l : List Int) (C : Option Addr) (o f : Nat) (r : List Int) (w : World) (h : RI w A n xs) (h' : RI w B m l) (h'' : RI w C o r) (hn : n ≤ 1048576) (hs : m + o ≤ 1048576) :
    Calls Try.prog 39 #[.agg #[.slice A n c], .agg #[.slice B m d, .slice C o f]] w fun e w' => e = .returned (.bool (ruleOk xs l r)) ∧ Below w.heap.size w w' := by
  cases hT1 : Pl.termOk xs l
  · have HE := Lib.hid (ruleOk_no1 (r := r) hT1)
    go_enter Try.func39, Try.ntmps39
    go_wp2_with fail
    refine (specTermOk_any A n c xs B m d l _ ((h.alloc _).alloc _) ((h'.alloc _).alloc _) (by omega) (by omega)).mono ?_
    rintro e w1 ⟨rfl, hb1⟩
    have hB : Below w.heap.size w w1 := below_then (((Below.refl _ _).alloc (Nat.le_refl _) _).alloc (by simp <;> omega) _) hb1 (by simp <;> omega)
    have bx : w1.cell? ⟨w.heap.size, 0, none⟩ = some (.slice A n c) := (hb1.cell (by simp <;> omega)).trans (by simp)
    have by0 : w1.cell? ⟨w.heap.size + 1, 0, none⟩ = some (.slice B m d) := (hb1.cell (by simp <;> omega)).trans (by simp)
    have by1 : w1.cell? ⟨w.heap.size + 1, 1, none⟩ = some (.slice C o f) := (hb1.cell (by simp <;> omega)).trans (by simp)
    replace h := ((h.alloc _).alloc _).below hb1
    replace h' := ((h'.alloc _).alloc _).below hb1
    replace h'' := ((h''.alloc _).alloc _).below hb1
    clear hb1
    go_wp2_with fail
    go_ret
    exact ⟨ret_bool (by exact HE.out.symm), hB⟩
  · cases hT2 : Pl.termOk xs r
    · have HE := Lib.hid (ruleOk_no2 hT1 hT2)
      go_enter Try.func39, Try.ntmps39
      go_wp2_with fail
      refine (specTermOk_any A n c xs B m d l _ ((h.alloc _).alloc _) ((h'.alloc _).alloc _) (by omega) (by omega)).mono ?_
      rintro e w1 ⟨rfl, hb1⟩
      have hB : Below w.heap.size w w1 := below_then (((Below.refl _ _).alloc (Nat.le_refl _) _).alloc (by simp <;> omega) _) hb1 (by simp <;> omega)
      have bx : w1.cell? ⟨w.heap.size, 0, none⟩ = some (.slice A n c) := (hb1.cell (by simp <;> omega)).trans (by simp)
      have by0 : w1.cell? ⟨w.heap.size + 1, 0, none⟩ = some (.slice B m d) := (hb1.cell (by simp <;> omega)).trans (by simp)
      have by1 : w1.cell? ⟨w.heap.size + 1, 1, none⟩ = some (.slice C o f) := (hb1.cell (by simp <;> omega)).trans (by simp)
      replace h := ((h.alloc _).alloc _).below hb1
      replace h' := ((h'.alloc _).alloc _).below hb1
      replace h'' := ((h''.alloc _).alloc _).below hb1
      clear hb1
      go_wp2_with fail
      refine (specTermOk_any A n c xs C o f r _ h h'' (by omega) (by omega)).mono ?_
      rintro e w2 ⟨rfl, hb2⟩
      replace hB := below_then hB hb2 hB.size
      replace bx := keepC hb2 bx
      replace by0 := keepC hb2 by0
      replace by1 := keepC hb2 by1
      replace h := h.below hb2
      replace h' := h'.below hb2
      replace h'' := h''.below hb2
      clear hb2
      go_wp2_with fail
      go_ret
      exact ⟨ret_bool (by exact HE.out.symm), hB⟩
    · have hm1 := (Pl.termOk_iff.1 hT1).2.1
      rw [h'.1] at hm1
      obtain ⟨g, off, y, rfl, hc, hy⟩ := h'.at_ (k := 0) (by omega)
      rw [Nat.add_zero] at hc
      have hm0 : (0 : Int) < m := by omega
      by_cases hy0 : y < 0
      · have HE := Lib.hid (ruleOk_no3 hT1 hT2 (by rw [← hy.out]; exact hy0))
        have e0 : decide (y < 0) = true := by simpa using hy0
        clear hy
        go_enter Try.func39, Try.ntmps39
        go_wp2_with fail
        refine (specTermOk_any A n c xs _ m d l _ ((h.alloc _).alloc _) ((h'.alloc _).alloc _) (by omega) (by omega)).mono ?_
        rintro e w1 ⟨rfl, hb1⟩
        have hB : Below w.heap.size w w1 := below_then (((Below.refl _ _).alloc (Nat.le_refl _) _).alloc (by simp <;> omega) _) hb1 (by simp <;> omega)
        have bx : w1.cell? ⟨w.heap.size, 0, none⟩ = some (.slice A n c) := (hb1.cell (by simp <;> omega)).trans (by simp)
        have by0 : w1.cell? ⟨w.heap.size + 1, 0, none⟩ = some (.slice (some ⟨g, off, none⟩) m d) := (hb1.cell (by simp <;> omega)).trans (by simp)
        have by1 : w1.cell? ⟨w.heap.size + 1, 1, none⟩ = some (.slice C o f) := (hb1.cell (by simp <;> omega)).trans (by simp)
        replace h := ((h.alloc _).alloc _).below hb1
        replace h' := ((h'.alloc _).alloc _).below hb1
        replace h'' := ((h''.alloc _).alloc _).below hb1
        clear hb1
        go_wp2_with fail
        refine (specTermOk_any A n c xs C o f r _ h h'' (by omega) (by omega)).mono ?_
        rintro e w2 ⟨rfl, hb2⟩
        replace hB := below_then hB hb2 hB.size
        replace bx := keepC hb2 bx
        replace by0 := keepC hb2 by0
        replace by1 := keepC hb2 by1
        replace h := h.below hb2
        replace h' := h'.below hb2
        replace h'' := h''.below hb2
        clear hb2
        replace hc := keepC hB hc
        go_wp2_with fail
        go_ret
        exact ⟨ret_bool (by exact HE.out.symm), hB⟩
      · have HE := Lib.hid (ruleOk_yes h''.1 hT1 hT2 (by rw [← hy.out]; exact hy0))
        have e0 : decide (y < 0) = false := by simpa using hy0
        clear hy
        go_enter Try.func39, Try.ntmps39
        go_wp2_with fail
        refine (specTermOk_any A n c xs _ m d l _ ((h.alloc _).alloc _) ((h'.alloc _).alloc _) (by omega) (by omega)).mono ?_
        rintro e w1 ⟨rfl, hb1⟩
        have hB : Below w.heap.size w w1 := below_then (((Below.refl _ _).alloc (Nat.le_refl _) _).alloc (by simp <;> omega) _) hb1 (by simp <;> omega)
        have bx : w1.cell? ⟨w.heap.size, 0, none⟩ = some (.slice A n c) := (hb1.cell (by simp <;> omega)).trans (by simp)
        have by0 : w1.cell? ⟨w.heap.size + 1, 0, none⟩ = some (.slice (some ⟨g, off, none⟩) m d) := (hb1.cell (by simp <;> omega)).trans (by simp)
        have by1 : w1.cell? ⟨w.heap.size + 1, 1, none⟩ = some (.slice C o f) := (hb1.cell (by simp <;> omega)).trans (by simp)
        replace h := ((h.alloc _).alloc _).below hb1
        replace h' := ((h'.alloc _).alloc _).below hb1
        replace h'' := ((h''.alloc _).alloc _).below hb1
        clear hb1
        go_wp2_with fail
        refine (specTermOk_any A n c xs C o f r _ h h'' (by omega) (by omega)).mono ?_
        rintro e w2 ⟨rfl, hb2⟩
        replace hB := below_then hB hb2 hB.size
        replace bx := keepC hb2 bx
        replace by0 := keepC hb2 by0
        replace by1 := keepC hb2 by1
        replace h := h.below hb2
        replace h' := h'.below hb2
        replace h'' := h''.below hb2
        clear hb2
        replace hc := keepC hB hc
        go_wp2_with fail
        go_loopw [5] (fun i wr => ∃ k : Nat, k ≤ o ∧ i = .int .i64 k ∧ Hid (rvTo l r k = true) ∧ Below w2.heap.size w2 wr) (fun i _ => o - (intOf i).toNat)
        case atStart => exact ⟨0, Nat.zero_le _, rfl, Lib.hid rfl, Below.refl _ _⟩
        case round =>
          obtain ⟨k, hk, rfl, ht, hb⟩ := hrel
          have by0' := keepC hb by0
          have by1' := keepC hb by1
          have hBr := below_then hB hb hB.size
          by_cases hlt : k < o
          · obtain ⟨g', off', x, rfl, hcx, hx⟩ := (h''.below hb).at_ hlt
            by_cases h0 : x < 0
            · have e1 : decide (x < 0) = true := by simpa using h0
              cases hcn : l.contains x
              · have HS := Lib.hid (rv_bad hlt hx.out h0 hcn)
                have HC : Hid (decide (x ∈ l) = false) := Lib.hid (by simpa using hcn)
                clear hcn hx
                go_wp2_with fail
                go_region_held3 (fun w' => Below wr.heap.size wr w' ∧ w'.cell? ⟨w.heap.size + 1, 0, none⟩ = some (.slice (some ⟨g, off, none⟩) m d) ∧ w'.cell? ⟨w.heap.size + 1, 1, none⟩ = some (.slice (some ⟨g', off', none⟩) o f) ∧ w'.cell? ⟨g', off' + k, none⟩ = some (.int .i64 x))
                  (first | exact ⟨(Below.refl _ _).drew, by0', by1', hcx⟩ | exact keepS3 hb3 (by assumption))
                  ((go_at_call 60; refine (l1Has_any _ m d l x _ ?_ (by omega)).mono ?_; exact riS (h'.below hb) (by assumption); rintro e w3 ⟨rfl, hb3⟩))
                rename_i hS
                replace hb3 := hS.1
                clear hS
                rw [HC.out]
                go_wp2_with fail
                go_ret
                exact ⟨ret_bool (by rw [HE.out, HS.out]), below_then hBr hb3 hBr.size⟩
              · have HS := Lib.hid (rv_ok2 ht.out hx.out hcn)
                have HC : Hid (decide (x ∈ l) = true) := Lib.hid (by simpa using hcn)
                clear hcn hx
                go_wp2_with fail
                go_region_held3 (fun w' => Below wr.heap.size wr w' ∧ w'.cell? ⟨w.heap.size + 1, 0, none⟩ = some (.slice (some ⟨g, off, none⟩) m d) ∧ w'.cell? ⟨w.heap.size + 1, 1, none⟩ = some (.slice (some ⟨g', off', none⟩) o f) ∧ w'.cell? ⟨g', off' + k, none⟩ = some (.int .i64 x))
                  (first | exact ⟨(Below.refl _ _).drew, by0', by1', hcx⟩ | exact keepS3 hb3 (by assumption))
                  ((go_at_call 60; refine (l1Has_any _ m d l x _ ?_ (by omega)).mono ?_; exact riS (h'.below hb) (by assumption); rintro e w3 ⟨rfl, hb3⟩))
                rename_i hS
                replace hb3 := hS.1
                clear hS
                rw [HC.out]
                go_wp2_with fail
                go_roundw
                case rel => exact ⟨k + 1, by omega, by go_num, HS, below_then hb hb3 hb.size⟩
                case measure => simp [intOf]; omega
            · have e1 : decide (x < 0) = false := by simpa using h0
              have HS := Lib.hid (rv_ok1 ht.out hx.out h0)
              clear hx
              go_wp2_with fail
              go_quiet (fail)
              go_wp2_with fail
              go_roundw
              case rel => exact ⟨k + 1, by omega, by go_num, HS, below_drewN hb _⟩
              case measure => simp [intOf]; omega
          · have hkm : k = o := by omega
            subst hkm
            go_wp2_with fail
            go_ret
            exact ⟨ret_bool (by rw [HE.out, ht.out]), hBr⟩
set_option maxHeartbeats 1000000 in
theorem I_RuleOk (A : Option Addr) (n c : Nat) (xs : List Int) (B : Option Addr) (m d : Nat) (l : List Int) (C : Option Addr) (o f : Nat) (r : List Int) (w : World) (h : RI w A n xs) (h' : RI w B m l) (h'' : RI w C o r) (hn : n ≤ 1048576) (hs : m + o ≤ 1048576) :
    Calls Try.prog 45 #[.agg #[.slice A n c], .agg #[.slice B m d, .slice C o f]] w fun e w' => e = .returned (.bool (ruleOk xs l r)) ∧ Below w.heap.size w w' := by
  cases hT1 : Pl.termOk xs l
  · have HE := Lib.hid (ruleOk_no1 (r := r) hT1)
    go_enter Try.func45, Try.ntmps45
    go_wp2_with fail
    refine (implTermOk_any A n c xs B m d l _ ((h.alloc _).alloc _) ((h'.alloc _).alloc _) (by omega) (by omega)).mono ?_
    rintro e w1 ⟨rfl, hb1⟩
    have hB : Below w.heap.size w w1 := below_then (((Below.refl _ _).alloc (Nat.le_refl _) _).alloc (by simp <;> omega) _) hb1 (by simp <;> omega)
    have bx : w1.cell? ⟨w.heap.size, 0, none⟩ = some (.slice A n c) := (hb1.cell (by simp <;> omega)).trans (by simp)
    have by0 : w1.cell? ⟨w.heap.size + 1, 0, none⟩ = some (.slice B m d) := (hb1.cell (by simp <;> omega)).trans (by simp)
    have by1 : w1.cell? ⟨w.heap.size + 1, 1, none⟩ = some (.slice C o f) := (hb1.cell (by simp <;> omega)).trans (by simp)
    replace h := ((h.alloc _).alloc _).below hb1
    replace h' := ((h'.alloc _).alloc _).below hb1
    replace h'' := ((h''.alloc _).alloc _).below hb1
    clear hb1
    go_wp2_with fail
    go_ret
    exact ⟨ret_bool (by exact HE.out.symm), hB⟩
  · cases hT2 : Pl.termOk xs r
    · have HE := Lib.hid (ruleOk_no2 hT1 hT2)
      go_enter Try.func45, Try.ntmps45
      go_wp2_with fail
      refine (implTermOk_any A n c xs B m d l _ ((h.alloc _).alloc _) ((h'.alloc _).alloc _) (by omega) (by omega)).mono ?_
      rintro e w1 ⟨rfl, hb1⟩
      have hB : Below w.heap.size w w1 := below_then (((Below.refl _ _).alloc (Nat.le_refl _) _).alloc (by simp <;> omega) _) hb1 (by simp <;> omega)
      have bx : w1.cell? ⟨w.heap.size, 0, none⟩ = some (.slice A n c) := (hb1.cell (by simp <;> omega)).trans (by simp)
      have by0 : w1.cell? ⟨w.heap.size + 1, 0, none⟩ = some (.slice B m d) := (hb1.cell (by simp <;> omega)).trans (by simp)
      have by1 : w1.cell? ⟨w.heap.size + 1, 1, none⟩ = some (.slice C o f) := (hb1.cell (by simp <;> omega)).trans (by simp)
      replace h := ((h.alloc _).alloc _).below hb1
      replace h' := ((h'.alloc _).alloc _).below hb1
      replace h'' := ((h''.alloc _).alloc _).below hb1
      clear hb1
      go_wp2_with fail
      refine (implTermOk_any A n c xs C o f r _ h h'' (by omega) (by omega)).mono ?_
      rintro e w2 ⟨rfl, hb2⟩
      replace hB := below_then hB hb2 hB.size
      replace bx := keepC hb2 bx
      replace by0 := keepC hb2 by0
      replace by1 := keepC hb2 by1
      replace h := h.below hb2
      replace h' := h'.below hb2
      replace h'' := h''.below hb2
      clear hb2
      go_wp2_with fail
      go_ret
      exact ⟨ret_bool (by exact HE.out.symm), hB⟩
    · have hm1 := (Pl.termOk_iff.1 hT1).2.1
      rw [h'.1] at hm1
      obtain ⟨g, off, y, rfl, hc, hy⟩ := h'.at_ (k := 0) (by omega)
      rw [Nat.add_zero] at hc
      have hm0 : (0 : Int) < m := by omega
      by_cases hy0 : y < 0
      · have HE := Lib.hid (ruleOk_no3 hT1 hT2 (by rw [← hy.out]; exact hy0))
        have e0 : decide (y < 0) = true := by simpa using hy0
        clear hy
        go_enter Try.func45, Try.ntmps45
        go_wp2_with fail
        refine (implTermOk_any A n c xs _ m d l _ ((h.alloc _).alloc _) ((h'.alloc _).alloc _) (by omega) (by omega)).mono ?_
        rintro e w1 ⟨rfl, hb1⟩
        have hB : Below w.heap.size w w1 := below_then (((Below.refl _ _).alloc (Nat.le_refl _) _).alloc (by simp <;> omega) _) hb1 (by simp <;> omega)
        have bx : w1.cell? ⟨w.heap.size, 0, none⟩ = some (.slice A n c) := (hb1.cell (by simp <;> omega)).trans (by simp)
        have by0 : w1.cell? ⟨w.heap.size + 1, 0, none⟩ = some (.slice (some ⟨g, off, none⟩) m d) := (hb1.cell (by simp <;> omega)).trans (by simp)
        have by1 : w1.cell? ⟨w.heap.size + 1, 1, none⟩ = some (.slice C o f) := (hb1.cell (by simp <;> omega)).trans (by simp)
        replace h := ((h.alloc _).alloc _).below hb1
        replace h' := ((h'.alloc _).alloc _).below hb1
        replace h'' := ((h''.alloc _).alloc _).below hb1
        clear hb1
        go_wp2_with fail
        refine (implTermOk_any A n c xs C o f r _ h h'' (by omega) (by omega)).mono ?_
        rintro e w2 ⟨rfl, hb2⟩
        replace hB := below_then hB hb2 hB.size
        replace bx := keepC hb2 bx
        replace by0 := keepC hb2 by0
        replace by1 := keepC hb2 by1
        replace h := h.below hb2
        replace h' := h'.below hb2
        replace h'' := h''.below hb2
        clear hb2
        replace hc := keepC hB hc
        go_wp2_with fail
        go_ret
        exact ⟨ret_bool (by exact HE.out.symm), hB⟩
      · have HE := Lib.hid (ruleOk_yes h''.1 hT1 hT2 (by rw [← hy.out]; exact hy0))
        have e0 : decide (y < 0) = false := by simpa using hy0
        clear hy
        go_enter Try.func45, Try.ntmps45
        go_wp2_with fail
        refine (implTermOk_any A n c xs _ m d l _ ((h.alloc _).alloc _) ((h'.alloc _).alloc _) (by omega) (by omega)).mono ?_
        rintro e w1 ⟨rfl, hb1⟩
        have hB : Below w.heap.size w w1 := below_then (((Below.refl _ _).alloc (Nat.le_refl _) _).alloc (by simp <;> omega) _) hb1 (by simp <;> omega)
        have bx : w1.cell? ⟨w.heap.size, 0, none⟩ = some (.slice A n c) := (hb1.cell (by simp <;> omega)).trans (by simp)
        have by0 : w1.cell? ⟨w.heap.size + 1, 0, none⟩ = some (.slice (some ⟨g, off, none⟩) m d) := (hb1.cell (by simp <;> omega)).trans (by simp)
        have by1 : w1.cell? ⟨w.heap.size + 1, 1, none⟩ = some (.slice C o f) := (hb1.cell (by simp <;> omega)).trans (by simp)
        replace h := ((h.alloc _).alloc _).below hb1
        replace h' := ((h'.alloc _).alloc _).below hb1
        replace h'' := ((h''.alloc _).alloc _).below hb1
        clear hb1
        go_wp2_with fail
        refine (implTermOk_any A n c xs C o f r _ h h'' (by omega) (by omega)).mono ?_
        rintro e w2 ⟨rfl, hb2⟩
        replace hB := below_then hB hb2 hB.size
        replace bx := keepC hb2 bx
        replace by0 := keepC hb2 by0
        replace by1 := keepC hb2 by1
        replace h := h.below hb2
        replace h' := h'.below hb2
        replace h'' := h''.below hb2
        clear hb2
        replace hc := keepC hB hc
        go_wp2_with fail
        go_loopw [29, 6] (fun i _ wr => ∃ k : Nat, k ≤ o ∧ i = .int .i64 k ∧ Hid (rvTo l r k = true) ∧ Below w2.heap.size w2 wr) (fun i _ _ => o - (intOf i).toNat)
        case atStart => exact ⟨0, Nat.zero_le _, rfl, Lib.hid rfl, Below.refl _ _⟩
        case round =>
          obtain ⟨k, hk, rfl, ht, hb⟩ := hrel
          have by0' := keepC hb by0
          have by1' := keepC hb by1
          have hBr := below_then hB hb hB.size
          by_cases hlt : k < o
          · obtain ⟨g', off', x, rfl, hcx, hx⟩ := (h''.below hb).at_ hlt
            by_cases h0 : x < 0
            · have e1 : decide (x < 0) = true := by simpa using h0
              cases hcn : l.contains x
              · have HS := Lib.hid (rv_bad hlt hx.out h0 hcn)
                have HC := Lib.hid hcn
                clear hcn hx
                go_wp2_with fail
                refine (slicesContains_any _ m d l x _ (h'.below hb) (by omega)).mono ?_
                rintro e w3 ⟨rfl, hb3⟩
                rw [HC.out]
                go_wp2_with fail
                go_ret
                exact ⟨ret_bool (by rw [HE.out, HS.out]), below_then hBr hb3 hBr.size⟩
              · have HS := Lib.hid (rv_ok2 ht.out hx.out hcn)
                have HC := Lib.hid hcn
                clear hcn hx
                go_wp2_with fail
                refine (slicesContains_any _ m d l x _ (h'.below hb) (by omega)).mono ?_
                rintro e w3 ⟨rfl, hb3⟩
                rw [HC.out]
                go_wp2_with fail
                go_roundw
                case rel => exact ⟨k + 1, by omega, by go_num, HS, below_then hb hb3 hb.size⟩
                case measure => simp [intOf]; omega
            · have e1 : decide (x < 0) = false := by simpa using h0
              have HS := Lib.hid (rv_ok1 ht.out hx.out h0)
              clear hx
              go_wp2_with fail
              go_roundw
              case rel => exact ⟨k + 1, by omega, by go_num, HS, hb⟩
              case measure => simp [intOf]; omega
          · have hkm : k = o := by omega
            subst hkm
            go_wp2_with fail
            go_ret
            exact ⟨ret_bool (by rw [HE.out, ht.out]), hBr⟩
end Go.Proofs.Ytcjgcopkeeiicaa
