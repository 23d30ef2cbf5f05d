/- Contracts: right substitutions. -/
import Derived.Test.YtlcchafcgidpeaaGreatDoorTerm2
import Derived.Test.YtlcchafcgidpeaaGreatDoorSubst
namespace Go.Proofs.YtlcchafcgidpeaaGreatDoor
open Go.RowKit
set_option linter.unusedVariables false

/-- The first k terms are right, or there is none. -/
def soTo (xs : List Int) (x : List (List Int)) (k : Nat) : Bool := (List.range k).all fun i => (x.getD i []).length == 0 || Pl.termOk xs (x.getD i [])
def substOk (xs : List Int) (x : List (List Int)) : Bool := Pl.sigOk xs && decide (x.length ≤ 24) && soTo xs x x.length
theorem substOk_no1 {xs : List Int} {x : List (List Int)} (h : Pl.sigOk xs = false) : substOk xs x = false := by unfold substOk; rw [h]; rfl
theorem substOk_no2 {xs : List Int} {x : List (List Int)} (h1 : Pl.sigOk xs = true) (h : ¬ x.length ≤ 24) : substOk xs x = false := by unfold substOk; rw [h1, decide_eq_false h]; rfl
theorem substOk_yes {xs : List Int} {x : List (List Int)} {m : Nat} (h1 : Pl.sigOk xs = true) (hm : x.length = m) (h : m ≤ 24) : substOk xs x = soTo xs x m := by unfold substOk; rw [h1, hm, decide_eq_true h]; rfl
theorem substOk_iff {xs : List Int} {x : List (List Int)} : substOk xs x = true ↔ Pl.sigOk xs = true ∧ x.length ≤ 24 ∧ ∀ k, k < x.length → (x.getD k []).length = 0 ∨ Pl.termOk xs (x.getD k []) = true := by
  unfold substOk soTo
  simp only [Bool.and_eq_true, decide_eq_true_eq, List.all_eq_true, List.mem_range, Bool.or_eq_true, beq_iff_eq, and_assoc]
theorem so_bad {xs : List Int} {x : List (List Int)} {k m : Nat} {t : List Int} (hk : k < m) (ht : t = x.getD k []) (h0 : ¬ t.length = 0) (h : Pl.termOk xs t = false) : soTo xs x m = false :=
  range_all_stop hk (by rw [← ht, h]; simpa using h0)
theorem so_ok1 {xs : List Int} {x : List (List Int)} {k : Nat} {t : List Int} (hs : soTo xs x k = true) (ht : t = x.getD k []) (h0 : t.length = 0) : soTo xs x (k + 1) = true :=
  range_all_step hs (by show ((x.getD k []).length == 0 || Pl.termOk xs (x.getD k [])) = true; rw [← ht, h0]; rfl)
theorem so_ok2 {xs : List Int} {x : List (List Int)} {k : Nat} {t : List Int} (hs : soTo xs x k = true) (ht : t = x.getD k []) (h : Pl.termOk xs t = true) : soTo xs x (k + 1) = true :=
  range_all_step hs (by show ((x.getD k []).length == 0 || Pl.termOk xs (x.getD k [])) = true; rw [← ht, h]; simp)
set_option maxHeartbeats 2000000 in
theorem specSubstOk_any (A : Option Addr) (n c : Nat) (xs : List Int) (B : Option Addr) (m d : Nat) (x : List (List Int)) (w : World) (h : RI w A n xs) (h' : RR w B m x) (hn : n ≤ 1048576) (hw : wtR x ≤ 1048576) :
    Calls Tryz.prog 40 #[.agg #[.slice A n c], .agg #[.slice B m d]] w fun e w' => e = .returned (.bool (substOk xs x)) ∧ Below w.heap.size w w' := by
  have hl := h'.1
  have hm1 : m ≤ 1048576 := by unfold wtR at hw; omega
  cases hs : Pl.sigOk xs
  · have HE := Lib.hid (substOk_no1 (x := x) hs)
    go_enter Tryz.func40, Tryz.ntmps40
    go_wp2_with fail
    refine (specSigOk_any A n c xs _ ((h.alloc _).alloc _) (by omega)).mono ?_
    rintro e w1 ⟨rfl, hb1⟩
    have hB : Below w.heap.size w w1 := below_then (((Below.refl _ _).alloc (Nat.le_refl _) _).alloc (by simp <;> omega) _) hb1 (by simp <;> omega)
    go_wp2_with fail
    go_ret
    exact ⟨ret_bool (by exact HE.out.symm), hB⟩
  · by_cases hm : m ≤ 24
    · have HE := Lib.hid (substOk_yes hs hl hm)
      have hm2 : ¬ (24 : Int) < m := by omega
      go_enter Tryz.func40, Tryz.ntmps40
      go_wp2_with fail
      refine (specSigOk_any A n c xs _ ((h.alloc _).alloc _) (by omega)).mono ?_
      rintro e w1 ⟨rfl, hb1⟩
      have hB : Below w.heap.size w w1 := below_then (((Below.refl _ _).alloc (Nat.le_refl _) _).alloc (by simp <;> omega) _) hb1 (by simp <;> omega)
      have bx : w1.cell? ⟨w.heap.size, 0, none⟩ = some (.slice A n c) := (hb1.cell (by simp <;> omega)).trans (by simp)
      have by0 : w1.cell? ⟨w.heap.size + 1, 0, none⟩ = some (.slice B m d) := (hb1.cell (by simp <;> omega)).trans (by simp)
      replace h := ((h.alloc _).alloc _).below hb1
      replace h' := ((h'.alloc _).alloc _).below hb1
      clear hb1
      go_wp2_with fail
      go_loopw [5] (fun i wr => ∃ k : Nat, k ≤ m ∧ i = .int .i64 k ∧ Hid (soTo xs x k = true) ∧ Below w1.heap.size w1 wr) (fun i _ => m - (intOf i).toNat)
      case atStart => exact ⟨0, Nat.zero_le _, rfl, Lib.hid rfl, Below.refl _ _⟩
      case round =>
        obtain ⟨k, hk, rfl, hso, hb⟩ := hrel
        have bx' := keepC hb bx
        have by0' := keepC hb by0
        have hBr := below_then hB hb hB.size
        by_cases hlt : k < m
        · obtain ⟨g, off, T, mt, dt, t, rfl, hct, ht, hmx, hx⟩ := (h'.below hb).at_ hlt
          have hrow := wtR_row (x := x) (k := k) (by omega)
          rw [← hx.out, ht.1] at hrow
          have hk0 : (0 : Int) ≤ k := by omega
          have hk1 : (k : Int) < m := by omega
          by_cases h0 : mt = 0
          · have HS := Lib.hid (so_ok1 hso.out hx.out (by rw [ht.1]; exact h0))
            have e0 : ¬ (0 : Int) < mt := by omega
            have e1 : decide ((0 : Int) < mt) = false := by simpa using e0
            have e2 : decide (0 < mt) = false := by simp; omega
            clear hx
            go_wp2_with fail
            go_quiet (fail)
            go_wp2_with fail
            go_roundw
            case rel => exact ⟨k + 1, by omega, by go_num, HS, below_drewN hb _⟩
            case measure => simp [intOf]; omega
          · have e0 : (0 : Int) < mt := by omega
            have e1 : decide ((0 : Int) < mt) = true := by simpa using e0
            have e2 : decide (0 < mt) = true := by simp; omega
            cases hT : Pl.termOk xs t
            · have HS := Lib.hid (so_bad hlt hx.out (by rw [ht.1]; exact h0) hT)
              have HT := Lib.hid hT
              clear hx hT
              go_wp2_with fail
              go_region_held3 (fun w' => Below wr.heap.size wr w' ∧ w'.cell? ⟨w.heap.size, 0, none⟩ = some (.slice A n c) ∧ w'.cell? ⟨w.heap.size + 1, 0, none⟩ = some (.slice (some ⟨g, off, none⟩) m d) ∧ w'.cell? ⟨g, off + k, none⟩ = some (.slice T mt dt))
                (first | exact ⟨(Below.refl _ _).drew, bx', by0', hct⟩ | exact keepS3 hb3 (by assumption))
                ((go_at_call 50; refine (specTermOk_any A n c xs T mt dt t _ ?_ ?_ (by omega) (by omega)).mono ?_; exact riS (h.below hb) (by assumption); exact riS ht (by assumption); rintro e w3 ⟨rfl, hb3⟩))
              rename_i hS
              replace hb3 := hS.1
              clear hS
              rw [HT.out]
              go_wp2_with fail
              go_ret
              exact ⟨ret_bool (by rw [HE.out, HS.out]), below_then hBr hb3 hBr.size⟩
            · have HS := Lib.hid (so_ok2 hso.out hx.out hT)
              have HT := Lib.hid hT
              clear hx hT
              go_wp2_with fail
              go_region_held3 (fun w' => Below wr.heap.size wr w' ∧ w'.cell? ⟨w.heap.size, 0, none⟩ = some (.slice A n c) ∧ w'.cell? ⟨w.heap.size + 1, 0, none⟩ = some (.slice (some ⟨g, off, none⟩) m d) ∧ w'.cell? ⟨g, off + k, none⟩ = some (.slice T mt dt))
                (first | exact ⟨(Below.refl _ _).drew, bx', by0', hct⟩ | exact keepS3 hb3 (by assumption))
                ((go_at_call 50; refine (specTermOk_any A n c xs T mt dt t _ ?_ ?_ (by omega) (by omega)).mono ?_; exact riS (h.below hb) (by assumption); exact riS ht (by assumption); rintro e w3 ⟨rfl, hb3⟩))
              rename_i hS
              replace hb3 := hS.1
              clear hS
              rw [HT.out]
              go_wp2_with fail
              go_roundw
              case rel => exact ⟨k + 1, by omega, by go_num, HS, below_then hb hb3 hb.size⟩
              case measure => simp [intOf]; omega
        · have hkm : k = m := by omega
          subst hkm
          go_wp2_with fail
          go_ret
          exact ⟨ret_bool (by rw [HE.out, hso.out]), hBr⟩
    · have HE := Lib.hid (substOk_no2 (x := x) hs (by omega))
      have hm2 : (24 : Int) < m := by omega
      go_enter Tryz.func40, Tryz.ntmps40
      go_wp2_with fail
      refine (specSigOk_any A n c xs _ ((h.alloc _).alloc _) (by omega)).mono ?_
      rintro e w1 ⟨rfl, hb1⟩
      have hB : Below w.heap.size w w1 := below_then (((Below.refl _ _).alloc (Nat.le_refl _) _).alloc (by simp <;> omega) _) hb1 (by simp <;> omega)
      have by0 : w1.cell? ⟨w.heap.size + 1, 0, none⟩ = some (.slice B m d) := (hb1.cell (by simp <;> omega)).trans (by simp)
      clear hb1
      go_wp2_with fail
      go_ret
      exact ⟨ret_bool (by exact HE.out.symm), hB⟩
set_option maxHeartbeats 2000000 in
theorem implSubstOk_any (A : Option Addr) (n c : Nat) (xs : List Int) (B : Option Addr) (m d : Nat) (x : List (List Int)) (w : World) (h : RI w A n xs) (h' : RR w B m x) (hn : n ≤ 1048576) (hw : wtR x ≤ 1048576) :
    Calls Tryz.prog 35 #[.agg #[.slice A n c], .agg #[.slice B m d]] w fun e w' => e = .returned (.bool (substOk xs x)) ∧ Below w.heap.size w w' := by
  have hl := h'.1
  have hm1 : m ≤ 1048576 := by unfold wtR at hw; omega
  cases hs : Pl.sigOk xs
  · have HE := Lib.hid (substOk_no1 (x := x) hs)
    go_enter Tryz.func35, Tryz.ntmps35
    go_wp2_with fail
    refine (implSigOk_any A n c xs _ ((h.alloc _).alloc _) (by omega)).mono ?_
    rintro e w1 ⟨rfl, hb1⟩
    have hB : Below w.heap.size w w1 := below_then (((Below.refl _ _).alloc (Nat.le_refl _) _).alloc (by simp <;> omega) _) hb1 (by simp <;> omega)
    go_wp2_with fail
    go_ret
    exact ⟨ret_bool (by exact HE.out.symm), hB⟩
  · by_cases hm : m ≤ 24
    · have HE := Lib.hid (substOk_yes hs hl hm)
      have hm2 : ¬ (24 : Int) < m := by omega
      go_enter Tryz.func35, Tryz.ntmps35
      go_wp2_with fail
      refine (implSigOk_any A n c xs _ ((h.alloc _).alloc _) (by omega)).mono ?_
      rintro e w1 ⟨rfl, hb1⟩
      have hB : Below w.heap.size w w1 := below_then (((Below.refl _ _).alloc (Nat.le_refl _) _).alloc (by simp <;> omega) _) hb1 (by simp <;> omega)
      have bx : w1.cell? ⟨w.heap.size, 0, none⟩ = some (.slice A n c) := (hb1.cell (by simp <;> omega)).trans (by simp)
      have by0 : w1.cell? ⟨w.heap.size + 1, 0, none⟩ = some (.slice B m d) := (hb1.cell (by simp <;> omega)).trans (by simp)
      replace h := ((h.alloc _).alloc _).below hb1
      replace h' := ((h'.alloc _).alloc _).below hb1
      clear hb1
      go_wp2_with fail
      go_loopw [19, 6] (fun i _ wr => ∃ k : Nat, k ≤ m ∧ i = .int .i64 k ∧ Hid (soTo xs x k = true) ∧ Below w1.heap.size w1 wr) (fun i _ _ => m - (intOf i).toNat)
      case atStart => exact ⟨0, Nat.zero_le _, rfl, Lib.hid rfl, Below.refl _ _⟩
      case round =>
        obtain ⟨k, hk, rfl, hso, hb⟩ := hrel
        have bx' := keepC hb bx
        have by0' := keepC hb by0
        have hBr := below_then hB hb hB.size
        by_cases hlt : k < m
        · obtain ⟨g, off, T, mt, dt, t, rfl, hct, ht, hmx, hx⟩ := (h'.below hb).at_ hlt
          have hrow := wtR_row (x := x) (k := k) (by omega)
          rw [← hx.out, ht.1] at hrow
          have hk0 : (0 : Int) ≤ k := by omega
          have hk1 : (k : Int) < m := by omega
          by_cases h0 : mt = 0
          · have HS := Lib.hid (so_ok1 hso.out hx.out (by rw [ht.1]; exact h0))
            have e0 : ¬ (0 : Int) < mt := by omega
            have e1 : decide ((0 : Int) < mt) = false := by simpa using e0
            have e2 : decide (0 < mt) = false := by simp; omega
            clear hx
            go_wp2_with fail
            skip
            go_wp2_with fail
            go_roundw
            case rel => exact ⟨k + 1, by omega, by go_num, HS, hb⟩
            case measure => simp [intOf]; omega
          · have e0 : (0 : Int) < mt := by omega
            have e1 : decide ((0 : Int) < mt) = true := by simpa using e0
            have e2 : decide (0 < mt) = true := by simp; omega
            cases hT : Pl.termOk xs t
            · have HS := Lib.hid (so_bad hlt hx.out (by rw [ht.1]; exact h0) hT)
              have HT := Lib.hid hT
              clear hx hT
              go_wp2_with fail
              refine (implTermOk_any A n c xs T mt dt t _ (h.below hb) ht (by omega) (by omega)).mono ?_
              rintro e w3 ⟨rfl, hb3⟩
              rw [HT.out]
              go_wp2_with fail
              go_ret
              exact ⟨ret_bool (by rw [HE.out, HS.out]), below_then hBr hb3 hBr.size⟩
            · have HS := Lib.hid (so_ok2 hso.out hx.out hT)
              have HT := Lib.hid hT
              clear hx hT
              go_wp2_with fail
              refine (implTermOk_any A n c xs T mt dt t _ (h.below hb) ht (by omega) (by omega)).mono ?_
              rintro e w3 ⟨rfl, hb3⟩
              rw [HT.out]
              go_wp2_with fail
              go_roundw
              case rel => exact ⟨k + 1, by omega, by go_num, HS, below_then hb hb3 hb.size⟩
              case measure => simp [intOf]; omega
        · have hkm : k = m := by omega
          subst hkm
          go_wp2_with fail
          go_ret
          exact ⟨ret_bool (by rw [HE.out, hso.out]), hBr⟩
    · have HE := Lib.hid (substOk_no2 (x := x) hs (by omega))
      have hm2 : (24 : Int) < m := by omega
      go_enter Tryz.func35, Tryz.ntmps35
      go_wp2_with fail
      refine (implSigOk_any A n c xs _ ((h.alloc _).alloc _) (by omega)).mono ?_
      rintro e w1 ⟨rfl, hb1⟩
      have hB : Below w.heap.size w w1 := below_then (((Below.refl _ _).alloc (Nat.le_refl _) _).alloc (by simp <;> omega) _) hb1 (by simp <;> omega)
      have by0 : w1.cell? ⟨w.heap.size + 1, 0, none⟩ = some (.slice B m d) := (hb1.cell (by simp <;> omega)).trans (by simp)
      clear hb1
      go_wp2_with fail
      go_ret
      exact ⟨ret_bool (by exact HE.out.symm), hB⟩
theorem S_SubstOk (A : Option Addr) (n c : Nat) (xs : List Int) (B : Option Addr) (m d : Nat) (x : List (List Int)) (w : World) (h : RI w A n xs) (h' : RR w B m x) (hn : n ≤ 1048576) (hs : wtR x ≤ 1048576) :
    Calls Tryz.prog 40 #[.agg #[.slice A n c], .agg #[.slice B m d]] w fun e w' => e = .returned (.bool (substOk xs x)) ∧ Below w.heap.size w w' := specSubstOk_any A n c xs B m d x w h h' hn hs
theorem I_SubstOk (A : Option Addr) (n c : Nat) (xs : List Int) (B : Option Addr) (m d : Nat) (x : List (List Int)) (w : World) (h : RI w A n xs) (h' : RR w B m x) (hn : n ≤ 1048576) (hs : wtR x ≤ 1048576) :
    Calls Tryz.prog 35 #[.agg #[.slice A n c], .agg #[.slice B m d]] w fun e w' => e = .returned (.bool (substOk xs x)) ∧ Below w.heap.size w w' := implSubstOk_any A n c xs B m d x w h h' hn hs
end Go.Proofs.YtlcchafcgidpeaaGreatDoor
