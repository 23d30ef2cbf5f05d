/- Contracts: a term with greater variables. -/
import Derived.Test.YtihgolhpdnoooaaAbove
import Derived.Test.YtihgolhpdnoooaaCmp
import Derived.Test.YtihgolhpdnoooaaCopy
import Derived.Test.YtihgolhpdnoooaaTerm2
namespace Go.Proofs.Ytihgolhpdnoooaa
open Go.RowKit
set_option linter.unusedVariables false

def sh (k x : Int) : Int := if x < 0 then x - k else x
theorem sh_sym {k x : Int} (h : ¬ x < 0) : sh k x = x := if_neg h
theorem sh_var {k x : Int} (h : x < 0) : sh k x = x - k := if_pos h
/-- None of the first j numbers becomes too small. -/
def shTo (k : Int) (t : List Int) (j : Nat) : Bool := (List.range j).all fun i => decide (-24 ≤ sh k (t.getD i 0))
def V_Shifted (xs t : List Int) (k : Int) : List Int × Bool := if Pl.termOk xs t && inB k 0 24 && shTo k t t.length then (t.map (sh k), true) else ([], false)
def shL (k : Int) (t : List Int) (n : Nat) : List Int := if shTo k t n then t.map (sh k) else []
theorem shL_no {k : Int} {t : List Int} {n : Nat} (h : shTo k t n = false) : shL k t n = [] := by unfold shL; rw [h]; rfl
theorem shL_yes {k : Int} {t : List Int} {n : Nat} (h : shTo k t n = true) : shL k t n = t.map (sh k) := by unfold shL; rw [h]; rfl
theorem shifted_no {xs t : List Int} {k : Int} (h : (Pl.termOk xs t && inB k 0 24 && shTo k t t.length) = false) : V_Shifted xs t k = ([], false) := by unfold V_Shifted; rw [h]; rfl
theorem shifted_yes {xs t : List Int} {k : Int} (h : (Pl.termOk xs t && inB k 0 24 && shTo k t t.length) = true) : V_Shifted xs t k = (t.map (sh k), true) := by unfold V_Shifted; rw [h]; rfl
theorem bd_Shifted (xs t : List Int) (k : Int) : (V_Shifted xs t k).1.length ≤ 60 := by
  unfold V_Shifted
  split
  · rename_i h
    simp only [Bool.and_eq_true] at h
    have := (Pl.termOk_iff.1 h.1.1).2.1
    simpa using this.2
  · simp
theorem shTo_bad {k : Int} {t : List Int} {j m : Nat} {x : Int} (hj : j < m) (hx : x = t.getD j 0) (h : sh k x < -24) : shTo k t m = false :=
  range_all_stop hj (by rw [← hx]; simpa using h)
theorem shTo_ok {k : Int} {t : List Int} {j : Nat} {x : Int} (ht : shTo k t j = true) (hx : x = t.getD j 0) (h : ¬ sh k x < -24) : shTo k t (j + 1) = true :=
  range_all_step ht (by rw [← hx]; simp; omega)
theorem shMap_step {k : Int} {t : List Int} {j : Nat} {x : Int} (hj : j < t.length) (hx : x = t.getD j 0) : (t.take (j + 1)).map (sh k) = (t.take j).map (sh k) ++ [sh k x] := by
  rw [List.take_succ_eq_append_getElem hj, List.map_append]
  simp [hx, List.getD_eq_getElem?_getD, List.getElem?_eq_getElem hj]
/-- What stands in the copy behind j rounds. -/
def shMid (k : Int) (t : List Int) (j : Nat) : List Int := (t.take j).map (sh k) ++ t.drop j
theorem shMid_len (k : Int) (t : List Int) (j : Nat) (h : j ≤ t.length) : (shMid k t j).length = t.length := by
  unfold shMid; simp; omega
theorem shMid_at (k : Int) (t : List Int) (j : Nat) (h : j < t.length) : (shMid k t j).getD j 0 = t.getD j 0 := by
  unfold shMid
  simp only [List.getD_eq_getElem?_getD]
  rw [List.getElem?_append_right (by simp; omega)]
  simp
  congr 2
  omega
theorem shMid_set (k : Int) (t : List Int) (j : Nat) (h : j < t.length) : (shMid k t j).set j (sh k (t.getD j 0)) = shMid k t (j + 1) := by
  unfold shMid
  have hl : ((t.take j).map (sh k)).length = j := by simp; omega
  rw [List.set_append_right _ _ (by omega), hl, Nat.sub_self, List.drop_eq_getElem_cons h, List.set_cons_zero, shMap_step h rfl, List.append_assoc]
  rfl
theorem shMid_sym (k : Int) (t : List Int) (j : Nat) {x : Int} (h : j < t.length) (hx : x = t.getD j 0) (h0 : ¬ x < 0) : shMid k t (j + 1) = shMid k t j := by
  have h1 := shMid_set k t j h
  rw [← hx, sh_sym h0, hx, ← shMid_at k t j h] at h1
  rw [← h1]
  have hl := shMid_len k t j (by omega)
  simp only [List.getD_eq_getElem?_getD]
  rw [List.getElem?_eq_getElem (by omega)]
  simp
theorem shMid_end (k : Int) (t : List Int) : shMid k t t.length = t.map (sh k) := by simp [shMid]
theorem shMid_zero (k : Int) (t : List Int) : shMid k t 0 = t := by simp [shMid]
set_option maxHeartbeats 2000000 in
set_option maxRecDepth 20000 in
theorem S_Shifted (A : Option Addr) (n c : Nat) (xs : List Int) (B : Option Addr) (m d : Nat) (t : List Int) (k : Int) (w : World) (h : RI w A n xs) (h' : RI w B m t) (hn : n ≤ 1048576) (hm : m ≤ 1048576) :
    Calls Try.prog 114 #[.agg #[.slice A n c], .slice B m d, .int .i64 k] w fun e w' => ∃ A' c', e = .returned (.tuple #[.slice A' (V_Shifted xs t k).1.length c', .bool (V_Shifted xs t k).2]) ∧ OI w' w.heap.size A' (V_Shifted xs t k).1.length c' (V_Shifted xs t k).1 ∧ Below w.heap.size w w' := by
  have hl := h'.1
  have hR := h'
  obtain ⟨i0, hi, hz0, hz1, hz2⟩ := info_parts infoInt64
  cases hT : Pl.termOk xs t
  · have HE := shifted_no (xs := xs) (t := t) (k := k) (by rw [hT]; rfl)
    rw [HE]
    clear HE
    go_enter Try.func114, Try.ntmps114
    go_wp2_with fail
    refine (specTermOk_any A n c xs B m d t _ (h.alloc _) (h'.alloc _) (by omega) (by omega)).mono ?_
    rintro e w1 ⟨rfl, hb1⟩
    have hB : Below w.heap.size w w1 := below_then ((Below.refl _ _).alloc (Nat.le_refl _) _) hb1 (by simp)
    have bx : w1.cell? ⟨w.heap.size, 0, none⟩ = some (.slice A n c) := (hb1.cell (by simp)).trans (by simp)
    replace h := (h.alloc _).below hb1
    replace h' := (h'.alloc _).below hb1
    clear hb1
    go_wp2_with fail
    go_ret2
    exact ⟨_, _, rfl, OI.empty w1 hB.size, hB.alloc hB.size _⟩
  · cases hq : inB k 0 24
    · have HE := shifted_no (xs := xs) (t := t) (k := k) (by rw [hq]; simp)
      rw [HE]
      have HQ := Lib.hid hq
      clear HE hq
      go_enter Try.func114, Try.ntmps114
      go_wp2_with fail
      refine (specTermOk_any A n c xs B m d t _ (h.alloc _) (h'.alloc _) (by omega) (by omega)).mono ?_
      rintro e w1 ⟨rfl, hb1⟩
      have hB : Below w.heap.size w w1 := below_then ((Below.refl _ _).alloc (Nat.le_refl _) _) hb1 (by simp)
      have bx : w1.cell? ⟨w.heap.size, 0, none⟩ = some (.slice A n c) := (hb1.cell (by simp)).trans (by simp)
      replace h := (h.alloc _).below hb1
      replace h' := (h'.alloc _).below hb1
      clear hb1
      go_wp2_with fail
      refine (l1In_any _ _ _ _).mono ?_
      rintro e w2 ⟨rfl, rfl⟩
      rw [HQ.out]
      go_wp2_with fail
      go_ret2
      exact ⟨_, _, rfl, OI.empty w1 hB.size, hB.alloc hB.size _⟩
    · have hq' := inB_true hq
      have hm1 := (Pl.termOk_iff.1 hT).2.1
      rw [hl] at hm1
      have HV : V_Shifted xs t k = (shL k t m, shTo k t m) := by
        cases hp : shTo k t m
        · rw [shifted_no (by rw [hl, hp]; simp), shL_no hp]
        · rw [shifted_yes (by rw [hl, hp, hT, hq]; rfl), shL_yes hp]
      rw [HV]
      have hbd := Lib.hid (Pl.termOk_bd hT)
      have HQ := Lib.hid hq
      clear HV hq
      go_enter Try.func114, Try.ntmps114
      go_wp2_with fail
      refine (specTermOk_any A n c xs B m d t _ (h.alloc _) (h'.alloc _) (by omega) (by omega)).mono ?_
      rintro e w1 ⟨rfl, hb1⟩
      have hB : Below w.heap.size w w1 := below_then ((Below.refl _ _).alloc (Nat.le_refl _) _) hb1 (by simp)
      have bx : w1.cell? ⟨w.heap.size, 0, none⟩ = some (.slice A n c) := (hb1.cell (by simp)).trans (by simp)
      replace h := (h.alloc _).below hb1
      replace h' := (h'.alloc _).below hb1
      clear hb1
      go_wp2_with fail
      refine (l1In_any _ _ _ _).mono ?_
      rintro e w2 ⟨rfl, rfl⟩
      rw [HQ.out]
      go_wp2_with fail
      have hO := Lib.hid (OI.empty w1 hB.size)
      have hB0 := hB.alloc hB.size (.cells #[] 2)
      clear h h' bx hB
      generalize w1.alloc (.cells #[] 2) = W0 at *
      go_loopw [8, 9, 10] (fun u i _ wr => ∃ (j : Nat) (A' : Option Addr) (c' : Nat), j ≤ m ∧ i = .int .i64 j ∧ u = .slice A' j c' ∧ Hid (shTo k t j = true) ∧ Hid (OI wr w.heap.size A' j c' ((t.take j).map (sh k))) ∧ Below w.heap.size w wr) (fun _ i _ _ => m - (intOf i).toNat)
      case atStart => exact ⟨0, _, _, Nat.zero_le _, rfl, rfl, Lib.hid rfl, Lib.hid (by simpa using hO.out), hB0⟩
      case round =>
        obtain ⟨j, A', c', hj, rfl, rfl, ht, ho, hb⟩ := hrel
        by_cases hlt : j < m
        · obtain ⟨g, off, x, rfl, hc, hx⟩ := (hR.below hb).at_ hlt
          have hxb := hbd.out x (by rw [hx.out]; exact Pl.getD_mem (by omega))
          have HM := Lib.hid (shMap_step (k := k) (by rw [hl]; exact hlt) hx.out)
          have hsz := hb.size
          by_cases h0 : x < 0
          · have e0 : decide (x < 0) = true := by simpa using h0
            have hsx := sh_var (k := k) h0
            by_cases hlo : x - k < -24
            · have HS := Lib.hid (shTo_bad (k := k) hlt hx.out (by rw [hsx]; exact hlo))
              have e2 : decide (x - k < -24) = true := by simpa using hlo
              clear hsx hx
              go_wp2_with fail
              go_ret2
              exact ⟨_, _, by rw [HS.out, shL_no HS.out]; rfl, by rw [shL_no HS.out]; exact OI.empty _ hsz, hb.alloc hsz _⟩
            · have HS := Lib.hid (shTo_ok (k := k) ht.out hx.out (by rw [hsx]; exact hlo))
              have e2 : decide (x - k < -24) = false := by simpa using hlo
              rw [hsx] at HM
              clear hsx hx
              have howa := Lib.hid (ownsRow_below ho.out ((Below.refl _ wr).alloc (Nat.le_refl _) (.cells #[.int .i64 (x - k)] 2)))
              go_wp2_with (at_builtin; refine wpList_append_any rfl _ _ 24 rfl w.heap.size 2 i0 (.int .i64 0) 1 8 Try.underlying24 hi hz0 hz1 hz2 rfl (by omega) A' j c' (((t.take j).map (sh k)).map (Value.int .i64)) rfl howa.out _ 1 _ [.int .i64 (x - k)] rfl (Src.new _ [.int .i64 (x - k)] _ 1 1 rfl (by simp [Value.oneCell'])) (by unfold maxLen; omega) (by omega) (by simp; omega) ?_; intro A2 c2 w2 ho2 hg hnil; have hgb := app_below hg howa.out hsz)
              have hb2 := hb.trans hgb
              have hO2 : Hid (OI w2 w.heap.size A2 (j + 1) c2 ((t.take (j + 1)).map (sh k))) := Lib.hid (by rw [HM.out]; unfold OI; rw [List.map_append]; exact ho2)
              clear hgb howa ho ho2 hg hb
              go_roundw
              case rel => exact ⟨j + 1, A2, c2, by omega, by go_num, rfl, HS, hO2, hb2⟩
              case measure => simp [intOf]; omega
          · have e0 : decide (x < 0) = false := by simpa using h0
            have hsx := sh_sym (k := k) h0
            have HS := Lib.hid (shTo_ok (k := k) ht.out hx.out (by rw [hsx]; omega))
            have e2 : decide (x < -24) = false := by simp; omega
            rw [hsx] at HM
            clear hsx hx
            have howa := Lib.hid (ownsRow_below ho.out ((Below.refl _ wr).alloc (Nat.le_refl _) (.cells #[.int .i64 x] 2)))
            go_wp2_with (at_builtin; refine wpList_append_any rfl _ _ 24 rfl w.heap.size 2 i0 (.int .i64 0) 1 8 Try.underlying24 hi hz0 hz1 hz2 rfl (by omega) A' j c' (((t.take j).map (sh k)).map (Value.int .i64)) rfl howa.out _ 1 _ [.int .i64 x] rfl (Src.new _ [.int .i64 x] _ 1 1 rfl (by simp [Value.oneCell'])) (by unfold maxLen; omega) (by omega) (by simp; omega) ?_; intro A2 c2 w2 ho2 hg hnil; have hgb := app_below hg howa.out hsz)
            have hb2 := hb.trans hgb
            have hO2 : Hid (OI w2 w.heap.size A2 (j + 1) c2 ((t.take (j + 1)).map (sh k))) := Lib.hid (by rw [HM.out]; unfold OI; rw [List.map_append]; exact ho2)
            clear hgb howa ho ho2 hg hb
            go_roundw
            case rel => exact ⟨j + 1, A2, c2, by omega, by go_num, rfl, HS, hO2, hb2⟩
            case measure => simp [intOf]; omega
        · have hjm : j = m := by omega
          subst hjm
          have hlen : (t.map (sh k)).length = j := by simpa using hl
          have HE : Hid (OI wr w.heap.size A' j c' (t.map (sh k))) := by have := ho.out; rw [List.take_of_length_le (by omega)] at this; exact Lib.hid this
          go_wp2_with fail
          go_ret2
          exact ⟨A', c', by rw [ht.out, shL_yes ht.out, hlen]; rfl, by rw [shL_yes ht.out, hlen]; exact HE.out, hb⟩
end Go.Proofs.Ytihgolhpdnoooaa
