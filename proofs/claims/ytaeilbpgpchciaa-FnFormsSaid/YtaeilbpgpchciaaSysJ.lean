/- Contracts: constructor systems, the model's side. -/
import Derived.Test.YtaeilbpgpchciaaSysH
namespace Go.Proofs.Ytaeilbpgpchciaa
open Go.RowKit
set_option linter.unusedVariables false

set_option maxHeartbeats 4000000 in
set_option maxRecDepth 20000 in
theorem S_ConstructorSystem (A : Option Addr) (n c : Nat) (xs : List Int) (B : Option Addr) (m d : Nat) (x : List (List Int × List Int)) (w : World) (h : RI w A n xs) (h' : RU w B m x) (hs : n + wtU x ≤ 1048576) :
    Calls Try.prog 13 #[.agg #[.slice A n c, .slice B m d]] w fun e w' => e = .returned (.bool (conSystem xs x)) ∧ Below w.heap.size w w' := by
  have hl := h'.1
  have hm1 : m ≤ 1048576 := by unfold wtU at hs; omega
  cases hq : systemOk xs x
  · have HE := Lib.hid (con_no hq)
    have HQ := Lib.hid hq
    clear hq
    go_enter Try.func13, Try.ntmps13
    go_wp2_with fail
    refine (specSystemOk_any A n c xs B m d x _ (h.alloc _) (h'.alloc _) hs).mono ?_
    rintro e w1 ⟨rfl, hb1⟩
    rw [HQ.out]
    have hB : Below w.heap.size w w1 := below_then ((Below.refl _ _).alloc (Nat.le_refl _) _) hb1 (by simp)
    go_wp2_with fail
    go_ret
    exact ⟨ret_bool (by exact HE.out.symm), hB⟩
  · have HEND := Lib.hid (fun (hh : (x.take m).any (badL x) = false) => con_end hq hl hh)
    have HHIT := Lib.hid (fun (k : Nat) (t : List Int × List Int) (hk : k < m) (ht : t = x.getD k ([], [])) (hh : badL x t = true) => con_hit (xs := xs) (x := x) (k := k) (t := t) (by omega) ht hh)
    have HLEN := Lib.hid (fun (k : Nat) (l r : List Int) (hk : k < m) (ht : (l, r) = x.getD k ([], [])) => (rule_lens hq (by omega) ht).1)
    have HQ := Lib.hid hq
    have hm12 : m ≤ 12 := by have := (systemOk_iff.1 hq).2.1; omega
    clear hq
    go_enter Try.func13, Try.ntmps13
    go_wp2_with fail
    refine (specSystemOk_any A n c xs B m d x _ (h.alloc _) (h'.alloc _) hs).mono ?_
    rintro e w1 ⟨rfl, hb1⟩
    rw [HQ.out]
    have hB : Below w.heap.size w w1 := below_then ((Below.refl _ _).alloc (Nat.le_refl _) _) hb1 (by simp)
    have b0 : w1.cell? ⟨w.heap.size, 0, none⟩ = some (.slice A n c) := (hb1.cell (by simp)).trans (by simp)
    have b1 : w1.cell? ⟨w.heap.size, 1, none⟩ = some (.slice B m d) := (hb1.cell (by simp)).trans (by simp)
    clear hb1
    go_wp2_with fail
    refine (l6Defined_any A n c xs B m d x _ (h'.below hB) HQ.out).mono ?_
    rintro e w2 ⟨D, nd, cd, ys, rfl, hD, hnd, hys, hb2⟩
    replace hB := below_then hB hb2 hB.size
    replace b1 := keepC hb2 b1
    have HC := Lib.hid (fun v => heads_end hys.out hl v)
    clear hb2 b0 hys
    go_wp2_with fail
    go_loopw [4] (fun i wr => ∃ k : Nat, k ≤ m ∧ i = .int .i64 k ∧ Hid ((x.take k).any (badL x) = false) ∧ Below w2.heap.size w2 wr) (fun i _ => m - (intOf i).toNat)
    case atStart => exact ⟨0, Nat.zero_le _, rfl, Lib.hid (by simp), Below.refl _ _⟩
    case round =>
      obtain ⟨k, hk, rfl, hso, hb⟩ := hrel
      have b1' := keepC hb b1
      have hBr := below_then hB hb hB.size
      have hDr := hD.below hb
      by_cases hlt : k < m
      · obtain ⟨g, off, L, ml, dl, R, mr, dr, l, r, rfl, hcl, hcr, hL, hR, _, _, _, _, hx⟩ := (h'.below hBr).at_ hlt
        have hlens := HLEN.out k l r hlt hx.out
        rw [hL.1] at hlens
        have hk0 : (0 : Int) ≤ k := by omega
        have hk1 : (k : Int) < m := by omega
        have hll := hL.1
        go_wp2_with fail
        rename World => W1
        go_loopw [5] (fun i wr => ∃ q : Nat, 1 ≤ q ∧ q ≤ ml ∧ i = .int .i64 q ∧ Hid (badTo x l q = false) ∧ Below W1.heap.size W1 wr) (fun i _ => ml - (intOf i).toNat)
        case atStart => exact ⟨1, by omega, by omega, rfl, Lib.hid (bad_one x l), Below.refl _ _⟩
        case round =>
          obtain ⟨q, hq1, hqm, rfl, hsq, hbq⟩ := hrel
          have b1q := keepC hbq b1'
          have hclq := keepC hbq hcl
          have hBq := below_then hBr hbq hBr.size
          by_cases hlq : q < ml
          · obtain ⟨gl, ol, z, rfl, hcz, hz⟩ := (hL.below hbq).at_ hlq
            have hq0 : (0 : Int) ≤ q := by omega
            have hq2 : (q : Int) < ml := by omega
            cases hh : isHd x z
            · have HN := Lib.hid (bad_step hsq.out hz.out hh)
              have HV : Hid (ys.contains z = false) := Lib.hid ((HC.out z).trans hh)
              clear hz hh
              go_wp2_with fail
              refine (l1Has_any D nd cd ys z _ (hDr.below hbq) (by omega)).mono ?_
              rintro e w3 ⟨rfl, hb3⟩
              rw [HV.out]
              go_wp2_with fail
              go_roundw
              case rel => exact ⟨q + 1, by omega, by omega, by go_num, HN, below_then hbq hb3 hbq.size⟩
              case measure => simp [intOf]; omega
            · have HN := Lib.hid (HHIT.out k (l, r) hlt hx.out (bad_hit hll hlq hq1 hz.out hh))
              have HV : Hid (ys.contains z = true) := Lib.hid ((HC.out z).trans hh)
              clear hz hh hx
              go_wp2_with fail
              refine (l1Has_any D nd cd ys z _ (hDr.below hbq) (by omega)).mono ?_
              rintro e w3 ⟨rfl, hb3⟩
              rw [HV.out]
              go_wp2_with fail
              go_ret
              exact ⟨ret_bool HN.out.symm, below_then hBq hb3 hBq.size⟩
          · have hqe : q = ml := by omega
            subst hqe
            have HN := Lib.hid (any_step (p := badL x) hso.out (by omega) hx.out (bad_end hll hsq.out))
            clear hx
            go_wp2_with fail
            go_roundw
            case rel => exact ⟨k + 1, by omega, by go_num, HN, below_then hb hbq hb.size⟩
            case measure => simp [intOf]; omega
      · have hkm : k = m := by omega
        subst hkm
        have HE := Lib.hid (HEND.out hso.out)
        go_wp2_with fail
        go_ret
        exact ⟨ret_bool HE.out.symm, hBr⟩
end Go.Proofs.Ytaeilbpgpchciaa
