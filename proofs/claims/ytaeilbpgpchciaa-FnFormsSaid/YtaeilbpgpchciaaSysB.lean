/- Contracts: properties of systems. -/
import Derived.Test.YtaeilbpgpchciaaSysOk
import Derived.Test.YtaeilbpgpchciaaCnt
namespace Go.Proofs.Ytaeilbpgpchciaa
open Go.RowKit
set_option linter.unusedVariables false

/-- The left sides of the first k rules are linear. -/
def llTo (x : List (List Int × List Int)) (k : Nat) : Bool := (List.range k).all fun i => linTo (x.getD i ([], [])).1 (x.getD i ([], [])).1.length
def leftLinearIn (xs : List Int) (x : List (List Int × List Int)) : Bool := systemOk xs x && llTo x x.length
theorem leftLinear_no {xs : List Int} {x : List (List Int × List Int)} (h : systemOk xs x = false) : leftLinearIn xs x = false := by unfold leftLinearIn; rw [h]; rfl
theorem leftLinear_yes {xs : List Int} {x : List (List Int × List Int)} {m : Nat} (hm : x.length = m) (h : systemOk xs x = true) : leftLinearIn xs x = llTo x m := by unfold leftLinearIn; rw [h, hm]; rfl
theorem ll_bad {x : List (List Int × List Int)} {k m n : Nat} {l r : List Int} (hk : k < m) (ht : (l, r) = x.getD k ([], [])) (hn : l.length = n) (h : linTo l n = false) : llTo x m = false :=
  range_all_stop hk (by rw [← ht, ← h, ← hn])
theorem ll_ok {x : List (List Int × List Int)} {k n : Nat} {l r : List Int} (hs : llTo x k = true) (ht : (l, r) = x.getD k ([], [])) (hn : l.length = n) (h : linTo l n = true) : llTo x (k + 1) = true :=
  range_all_step hs (by rw [← ht, ← h, ← hn])
set_option maxHeartbeats 1000000 in
theorem leftLinear_any (B : Option Addr) (m d : Nat) (x : List (List Int × List Int)) (w : World) (h' : RU w B m x) (hw : wtU x ≤ 1048576) :
    Calls Try.prog 18 #[.slice B m d] w fun e w' => e = .returned (.bool (llTo x m)) ∧ Below w.heap.size w w' := by
  have hl := h'.1
  have hm1 : m ≤ 1048576 := by unfold wtU at hw; omega
  go_enter Try.func18, Try.ntmps18
  go_wp2_with fail
  go_loopw [7, 4] (fun i _ wr => ∃ k : Nat, k ≤ m ∧ i = .int .i64 k ∧ Hid (llTo x k = true) ∧ Below w.heap.size w wr) (fun i _ _ => m - (intOf i).toNat)
  case atStart => exact ⟨0, Nat.zero_le _, rfl, Lib.hid rfl, Below.refl _ _⟩
  case round =>
    obtain ⟨k, hk, rfl, hso, hb⟩ := hrel
    by_cases hlt : k < m
    · obtain ⟨g, off, L, ml, dl, R, mr, dr, l, r, rfl, hcl, hcr, hL, hR, hld, hd, _, _, hx⟩ := (h'.below hb).at_ hlt
      have hrow := wtU_row (x := x) (k := k) (by omega)
      rw [← hx.out] at hrow
      have hrl : rlen (l, r) = ml + mr := by unfold rlen; rw [hL.1, hR.1]
      rw [hrl] at hrow
      cases hT : linTo l ml
      · have HS := Lib.hid (ll_bad hlt hx.out hL.1 hT)
        have HT := Lib.hid hT
        clear hx hT
        go_wp2_with fail
        refine (linear_any L ml dl l _ (hL.alloc _) (by omega) hld hd).mono ?_
        rintro e w3 ⟨rfl, hb3⟩
        replace hb3 := below_then ((Below.refl wr.heap.size wr).alloc (Nat.le_refl _) (.cells #[.slice L ml dl, .slice R mr dr] 33)) hb3 (by simp)
        rw [HT.out]
        go_wp2_with fail
        go_ret
        exact ⟨ret_bool HS.out.symm, below_then hb hb3 hb.size⟩
      · have HS := Lib.hid (ll_ok hso.out hx.out hL.1 hT)
        have HT := Lib.hid hT
        clear hx hT
        go_wp2_with fail
        refine (linear_any L ml dl l _ (hL.alloc _) (by omega) hld hd).mono ?_
        rintro e w3 ⟨rfl, hb3⟩
        replace hb3 := below_then ((Below.refl wr.heap.size wr).alloc (Nat.le_refl _) (.cells #[.slice L ml dl, .slice R mr dr] 33)) hb3 (by simp)
        rw [HT.out]
        go_wp2_with fail
        go_roundw
        case rel => exact ⟨k + 1, by omega, by go_num, HS, below_then hb hb3 hb.size⟩
        case measure => simp [intOf]; omega
    · have hkm : k = m := by omega
      subst hkm
      go_wp2_with fail
      go_ret
      exact ⟨ret_bool (by rw [hso.out]), hb⟩
set_option maxHeartbeats 1000000 in
theorem S_LeftLinearIn (A : Option Addr) (n c : Nat) (xs : List Int) (B : Option Addr) (m d : Nat) (x : List (List Int × List Int)) (w : World) (h : RI w A n xs) (h' : RU w B m x) (hs : n + wtU x ≤ 1048576) :
    Calls Try.prog 9 #[.agg #[.slice A n c, .slice B m d]] w fun e w' => e = .returned (.bool (leftLinearIn xs x)) ∧ Below w.heap.size w w' := by
  have hl := h'.1
  have hm1 : m ≤ 1048576 := by unfold wtU at hs; omega
  cases hq : systemOk xs x
  · have HE := Lib.hid (leftLinear_no hq)
    have HQ := Lib.hid hq
    go_enter Try.func9, Try.ntmps9
    go_wp2_with fail
    refine (specSystemOk_any A n c xs B m d x _ (h.alloc _) (h'.alloc _) hs).mono ?_
    rintro e w1 ⟨rfl, hb1⟩
    rw [HQ.out]
    have hB : Below w.heap.size w w1 := below_then ((Below.refl _ _).alloc (Nat.le_refl _) _) hb1 (by simp)
    go_wp2_with fail
    go_ret
    exact ⟨ret_bool (by exact HE.out.symm), hB⟩
  · have HE := Lib.hid (leftLinear_yes hl hq)
    have HQ := Lib.hid hq
    clear hq
    go_enter Try.func9, Try.ntmps9
    go_wp2_with fail
    refine (specSystemOk_any A n c xs B m d x _ (h.alloc _) (h'.alloc _) hs).mono ?_
    rintro e w1 ⟨rfl, hb1⟩
    rw [HQ.out]
    have hB : Below w.heap.size w w1 := below_then ((Below.refl _ _).alloc (Nat.le_refl _) _) hb1 (by simp)
    have by0 : w1.cell? ⟨w.heap.size, 1, none⟩ = some (.slice B m d) := (hb1.cell (by simp)).trans (by simp)
    replace h' := (h'.alloc _).below hb1
    clear hb1
    go_wp2_with fail
    go_loopw [3] (fun i wr => ∃ k : Nat, k ≤ m ∧ i = .int .i64 k ∧ Hid (llTo x k = true) ∧ Below w1.heap.size w1 wr) (fun i _ => m - (intOf i).toNat)
    case atStart => exact ⟨0, Nat.zero_le _, rfl, Lib.hid rfl, Below.refl _ _⟩
    case round =>
      obtain ⟨k, hk, rfl, hso, hb⟩ := hrel
      have by0' := keepC hb by0
      have hBr := below_then hB hb hB.size
      by_cases hlt : k < m
      · obtain ⟨g, off, L, ml, dl, R, mr, dr, l, r, rfl, hcl, hcr, hL, hR, hld, hd, _, _, hx⟩ := (h'.below hb).at_ hlt
        have hrow := wtU_row (x := x) (k := k) (by omega)
        rw [← hx.out] at hrow
        have hrl : rlen (l, r) = ml + mr := by unfold rlen; rw [hL.1, hR.1]
        rw [hrl] at hrow
        cases hT : linTo l ml
        · have HS := Lib.hid (ll_bad hlt hx.out hL.1 hT)
          have HT := Lib.hid hT
          clear hx hT
          go_wp2_with fail
          refine (l2Linear_any L ml dl l _ hL (by omega)).mono ?_
          rintro e w3 ⟨rfl, hb3⟩
          rw [HT.out]
          go_wp2_with fail
          go_ret
          exact ⟨ret_bool (by rw [HE.out, HS.out]), below_then hBr hb3 hBr.size⟩
        · have HS := Lib.hid (ll_ok hso.out hx.out hL.1 hT)
          have HT := Lib.hid hT
          clear hx hT
          go_wp2_with fail
          refine (l2Linear_any L ml dl l _ hL (by omega)).mono ?_
          rintro e w3 ⟨rfl, hb3⟩
          rw [HT.out]
          go_wp2_with fail
          go_roundw
          case rel => exact ⟨k + 1, by omega, by go_num, HS, below_then hb hb3 hb.size⟩
          case measure => simp [intOf]; omega
      · have hkm : k = m := by omega
        subst hkm
        go_wp2_with fail
        go_ret
        exact ⟨ret_bool (by rw [HE.out, hso.out]), hBr⟩
set_option maxHeartbeats 400000 in
theorem I_LeftLinearIn (A : Option Addr) (n c : Nat) (xs : List Int) (B : Option Addr) (m d : Nat) (x : List (List Int × List Int)) (w : World) (h : RI w A n xs) (h' : RU w B m x) (hs : n + wtU x ≤ 1048576) :
    Calls Try.prog 6 #[.agg #[.slice A n c, .slice B m d]] w fun e w' => e = .returned (.bool (leftLinearIn xs x)) ∧ Below w.heap.size w w' := by
  have hl := h'.1
  cases hq : systemOk xs x
  · have HE := Lib.hid (leftLinear_no hq)
    have HQ := Lib.hid hq
    go_enter Try.func6, Try.ntmps6
    go_wp2_with fail
    refine (implSystemOk_any A n c xs B m d x _ (h.alloc _) (h'.alloc _) hs).mono ?_
    rintro e w1 ⟨rfl, hb1⟩
    rw [HQ.out]
    have hB : Below w.heap.size w w1 := below_then ((Below.refl _ _).alloc (Nat.le_refl _) _) hb1 (by simp)
    go_wp2_with fail
    go_ret
    exact ⟨ret_bool (by exact HE.out.symm), hB⟩
  · have HE := Lib.hid (leftLinear_yes hl hq)
    have HQ := Lib.hid hq
    clear hq
    go_enter Try.func6, Try.ntmps6
    go_wp2_with fail
    refine (implSystemOk_any A n c xs B m d x _ (h.alloc _) (h'.alloc _) hs).mono ?_
    rintro e w1 ⟨rfl, hb1⟩
    rw [HQ.out]
    have hB : Below w.heap.size w w1 := below_then ((Below.refl _ _).alloc (Nat.le_refl _) _) hb1 (by simp)
    have by0 : w1.cell? ⟨w.heap.size, 1, none⟩ = some (.slice B m d) := (hb1.cell (by simp)).trans (by simp)
    clear hb1
    go_wp2_with fail
    refine (leftLinear_any B m d x _ (h'.below hB) (by omega)).mono ?_
    rintro e w2 ⟨rfl, hb2⟩
    replace hB := below_then hB hb2 hB.size
    go_wp2_with fail
    go_ret
    exact ⟨ret_bool (by exact HE.out.symm), hB⟩
end Go.Proofs.Ytaeilbpgpchciaa
