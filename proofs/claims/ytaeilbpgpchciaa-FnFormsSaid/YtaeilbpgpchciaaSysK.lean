/- Contracts: constructor systems, the program's side. -/
import Derived.Test.YtaeilbpgpchciaaSysJ
namespace Go.Proofs.Ytaeilbpgpchciaa
open Go.RowKit
set_option linter.unusedVariables false

set_option maxHeartbeats 4000000 in
set_option maxRecDepth 20000 in
theorem I_ConstructorSystem (A : Option Addr) (n c : Nat) (xs : List Int) (B : Option Addr) (m d : Nat) (x : List (List Int × List Int)) (w : World) (h : RI w A n xs) (h' : RU w B m x) (hs : n + wtU x ≤ 1048576) :
    Calls Try.prog 12 #[.agg #[.slice A n c, .slice B m d]] w fun e w' => e = .returned (.bool (conSystem xs x)) ∧ Below w.heap.size w w' := by
  have hl := h'.1
  have hm1 : m ≤ 1048576 := by unfold wtU at hs; omega
  cases hq : systemOk xs x
  · have HE := Lib.hid (con_no hq)
    have HQ := Lib.hid hq
    clear hq
    go_enter Try.func12, Try.ntmps12
    go_wp2_with fail
    refine (implSystemOk_any A n c xs B m d x _ (h.alloc _) (h'.alloc _) hs).mono ?_
    rintro e w1 ⟨rfl, hb1⟩
    rw [HQ.out]
    have hB : Below w.heap.size w w1 := below_then ((Below.refl _ _).alloc (Nat.le_refl _) _) hb1 (by simp)
    go_wp2_with fail
    go_ret
    exact ⟨ret_bool (by exact HE.out.symm), hB⟩
  · have HEND := Lib.hid (fun (hh : (x.take m).any (badL x) = false) => con_end hq hl hh)
    have HHIT := Lib.hid (fun (k : Nat) (t : List Int × List Int) (hk : k < m) (ht : t = x.getD k ([], [])) (hh : badL x t = true) => con_hit (xs := xs) (x := x) (k := k) (t := t) (by omega) ht hh)
    have HLEN := Lib.hid (fun (k : Nat) (l r : List Int) (hk : k < m) (ht : (l, r) = x.getD k ([], [])) => (rule_lens hq (by omega) ht).1)
    have HNEG := Lib.hid (fun (v : Int) (hv : v < 0) => isHd_neg hq hv)
    have HQ := Lib.hid hq
    have hm12 : m ≤ 12 := by have := (systemOk_iff.1 hq).2.1; omega
    clear hq
    go_enter Try.func12, Try.ntmps12
    go_wp2_with fail
    refine (implSystemOk_any A n c xs B m d x _ (h.alloc _) (h'.alloc _) hs).mono ?_
    rintro e w1 ⟨rfl, hb1⟩
    rw [HQ.out]
    have hB : Below w.heap.size w w1 := below_then ((Below.refl _ _).alloc (Nat.le_refl _) _) hb1 (by simp)
    have b0 : w1.cell? ⟨w.heap.size, 0, none⟩ = some (.slice A n c) := (hb1.cell (by simp)).trans (by simp)
    have b1 : w1.cell? ⟨w.heap.size, 1, none⟩ = some (.slice B m d) := (hb1.cell (by simp)).trans (by simp)
    clear hb1
    go_wp2_with fail
    go_loopw [13, 4] (fun i _ wr => ∃ k : Nat, k ≤ m ∧ i = .int .i64 k ∧ Hid ((x.take k).any (badL x) = false) ∧ Below w1.heap.size w1 wr) (fun i _ _ => m - (intOf i).toNat)
    case atStart => exact ⟨0, Nat.zero_le _, rfl, Lib.hid (by simp), Below.refl _ _⟩
    case round =>
      obtain ⟨k, hk, rfl, hso, hb⟩ := hrel
      have b0' := keepC hb b0
      have b1' := keepC hb b1
      have hBr := below_then hB hb hB.size
      by_cases hlt : k < m
      · obtain ⟨g, off, L, ml, dl, R, mr, dr, l, r, rfl, hcl, hcr, hL, hR, hmd, hmd2, _, _, hx⟩ := (h'.below hBr).at_ hlt
        have hlens := HLEN.out k l r hlt hx.out
        rw [hL.1] at hlens
        have hk0 : (0 : Int) ≤ k := by omega
        have hk1 : (k : Int) < m := by omega
        have hll := hL.1
        have hB2 : Below wr.heap.size wr (wr.alloc (.cells #[.slice L ml dl, .slice R mr dr] 33)) := (Below.refl _ _).alloc (Nat.le_refl _) _
        have c0 := keepC hB2 b0'
        have c1 := keepC hB2 b1'
        have hL2 := hL.below hB2
        have hb2 := below_then hb hB2 hb.size
        obtain ⟨gl, ol, z0, rfl, hcz0, _⟩ := hL.at_ (k := 0) (by omega)
        clear hcz0
        by_cases h2 : 2 ≤ ml
        · have hml : (1 : Int) < ml := by omega
          go_wp2_with fail
          generalize wr.alloc (.cells #[.slice _ ml dl, .slice R mr dr] 33) = W1 at *
          go_loopw [21, 6] (fun i _ wr => ∃ q : Nat, q + 1 ≤ ml ∧ i = .int .i64 q ∧ Hid (badTo x l (q + 1) = false) ∧ Below W1.heap.size W1 wr) (fun i _ _ => ml - (intOf i).toNat)
          case atStart => exact ⟨0, by omega, rfl, Lib.hid (bad_one x l), Below.refl _ _⟩
          case round =>
            obtain ⟨q, hqm, rfl, hsq, hbq⟩ := hrel
            have c0q := keepC hbq c0
            have c1q := keepC hbq c1
            have hBq := below_then hB (below_then hb2 hbq hb2.size) hB.size
            by_cases hlq : q + 1 < ml
            · obtain ⟨gl', ol', z, he, hcz, hz⟩ := (hL2.below hbq).at_ hlq
              obtain ⟨rfl, rfl⟩ : gl = gl' ∧ ol = ol' := by simpa using he
              clear he
              have hq0 : (0 : Int) ≤ q := by omega
              have hq2 : (q : Int) < ((ml - 1 : Nat) : Int) := by omega
              have hcz2 : wr.cell? ⟨gl, ol + 1 + q, none⟩ = some (.int .i64 z) := by rw [show ol + 1 + q = ol + (q + 1) by omega]; exact hcz
              by_cases hz0 : 0 ≤ z
              · have e0 : decide (0 ≤ z) = true := by simpa using hz0
                cases hh : isHd x z
                · have HN := Lib.hid (bad_step hsq.out hz.out hh)
                  have HV := Lib.hid hh
                  clear hz hh
                  go_wp2_with fail
                  refine (isDefined_any A n c xs _ m d x z _ (h'.below hBq) hm1 HQ.out).mono ?_
                  rintro e w3 ⟨rfl, hb3⟩
                  rw [HV.out]
                  go_wp2_with fail
                  go_roundw
                  case rel => exact ⟨q + 1, by omega, by go_num, HN, below_then hbq hb3 hbq.size⟩
                  case measure => simp [intOf]; omega
                · have HN := Lib.hid (HHIT.out k (l, r) hlt hx.out (bad_hit hll hlq (by omega) hz.out hh))
                  have HV := Lib.hid hh
                  clear hz hh hx
                  go_wp2_with fail
                  refine (isDefined_any A n c xs _ m d x z _ (h'.below hBq) hm1 HQ.out).mono ?_
                  rintro e w3 ⟨rfl, hb3⟩
                  rw [HV.out]
                  go_wp2_with fail
                  go_ret
                  exact ⟨ret_bool HN.out.symm, below_then hBq hb3 hBq.size⟩
              · have e0 : decide (0 ≤ z) = false := by simpa using hz0
                have HN := Lib.hid (bad_step hsq.out hz.out (HNEG.out z (by omega)))
                clear hz
                go_wp2_with fail
                go_roundw
                case rel => exact ⟨q + 1, by omega, by go_num, HN, hbq⟩
                case measure => simp [intOf]; omega
            · have hqe : q + 1 = ml := by omega
              have hq2 : ¬ (q : Int) < ((ml - 1 : Nat) : Int) := by omega
              have HN := Lib.hid (any_step (p := badL x) hso.out (by omega) hx.out (bad_end hll (by rw [← hqe]; exact hsq.out)))
              clear hx
              go_wp2_with fail
              go_roundw
              case rel => exact ⟨k + 1, by omega, by go_num, HN, below_then hb2 hbq hb2.size⟩
              case measure => simp [intOf]; omega
        · obtain rfl : ml = 1 := by omega
          have HN := Lib.hid (any_step (p := badL x) hso.out (by omega) hx.out (bad_end hll (bad_one x l)))
          clear hx
          by_cases hd1 : dl = 1
          · subst hd1
            go_wp2_with fail
            generalize wr.alloc (.cells #[.slice _ _ _, .slice R mr dr] 33) = W1 at *
            go_loopw [21, 6] (fun i _ wr => i = .int .i64 0 ∧ Below W1.heap.size W1 wr) (fun i _ _ => 0)
            case atStart => exact ⟨rfl, Below.refl _ _⟩
            case round =>
              obtain ⟨rfl, hbq⟩ := hrel
              go_wp2_with fail
              go_roundw
              case rel => exact ⟨k + 1, by omega, by go_num, HN, below_then hb2 hbq hb2.size⟩
              case measure => simp [intOf]; omega
          · have hd2 : 1 < dl := by omega
            have hd3 : (1 : Int) < dl := by omega
            go_wp2_with fail
            generalize wr.alloc (.cells #[.slice _ _ _, .slice R mr dr] 33) = W1 at *
            go_loopw [21, 6] (fun i _ wr => i = .int .i64 0 ∧ Below W1.heap.size W1 wr) (fun i _ _ => 0)
            case atStart => exact ⟨rfl, Below.refl _ _⟩
            case round =>
              obtain ⟨rfl, hbq⟩ := hrel
              go_wp2_with fail
              go_roundw
              case rel => exact ⟨k + 1, by omega, by go_num, HN, below_then hb2 hbq hb2.size⟩
              case measure => simp [intOf]; omega
      · have hkm : k = m := by omega
        subst hkm
        have HE := Lib.hid (HEND.out hso.out)
        go_wp2_with fail
        go_ret
        exact ⟨ret_bool HE.out.symm, hBr⟩
end Go.Proofs.Ytaeilbpgpchciaa
