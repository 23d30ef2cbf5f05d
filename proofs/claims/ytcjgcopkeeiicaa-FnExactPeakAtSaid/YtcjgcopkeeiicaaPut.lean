/- Contracts: a subterm replaced. -/
import Derived.Test.YtcjgcopkeeiicaaPlace
import Derived.Test.YtcjgcopkeeiicaaCopy
import Derived.Test.YtcjgcopkeeiicaaConcat
namespace Go.Proofs.Ytcjgcopkeeiicaa
open Go.RowKit
set_option linter.unusedVariables false

/-- The term with the part from p on and before F replaced. -/
def putAt (t : List Int) (p F : Nat) (u : List Int) : List Int := t.take p ++ u ++ t.drop F
def putOk (t : List Int) (p F : Nat) (u : List Int) : Bool := decide ((putAt t p F u).length ≤ 60)
def putL (t : List Int) (p F : Nat) (u : List Int) : List Int := if putOk t p F u then putAt t p F u else []
theorem putL_no {t : List Int} {p F : Nat} {u : List Int} (h : putOk t p F u = false) : putL t p F u = [] := by unfold putL; rw [h]; rfl
theorem putL_yes {t : List Int} {p F : Nat} {u : List Int} (h : putOk t p F u = true) : putL t p F u = putAt t p F u := by unfold putL; rw [h]; rfl
def V_PutAt (xs t : List Int) (p : Int) (u : List Int) : List Int × Bool := if Pl.posOk xs t p && Pl.termOk xs u then (putL t p.toNat (Pl.fin (Pl.ari xs) t p.toNat) u, putOk t p.toNat (Pl.fin (Pl.ari xs) t p.toNat) u) else ([], false)
theorem putAt_no {xs t : List Int} {p : Int} {u : List Int} (h : (Pl.posOk xs t p && Pl.termOk xs u) = false) : V_PutAt xs t p u = ([], false) := by unfold V_PutAt; rw [h]; rfl
theorem putAt_yes {xs t : List Int} {p : Nat} {u : List Int} (h : (Pl.posOk xs t p && Pl.termOk xs u) = true) : V_PutAt xs t p u = (putL t p (Pl.fin (Pl.ari xs) t p) u, putOk t p (Pl.fin (Pl.ari xs) t p) u) := by unfold V_PutAt; rw [h]; rfl
theorem bd_PutAt (xs t : List Int) (p : Int) (u : List Int) : (V_PutAt xs t p u).1.length ≤ 60 := by
  unfold V_PutAt
  split
  · show (putL _ _ _ _).length ≤ 60
    unfold putL
    split
    · rename_i h; simpa [putOk] using h
    · simp
  · simp
theorem putAt_len {t : List Int} {p F m o : Nat} {u : List Int} (ht : t.length = m) (hu : u.length = o) (hp : p ≤ m) (hF : F ≤ m) : (putAt t p F u).length = p + o + (m - F) := by
  unfold putAt; simp [ht, hu]; omega
set_option maxHeartbeats 4000000 in
set_option maxRecDepth 20000 in
theorem put_any (A : Option Addr) (n c : Nat) (xs : List Int) (B : Option Addr) (m d : Nat) (t : List Int) (p : Nat) (C : Option Addr) (o f : Nat) (u : List Int) (w : World)
    (h : RI w A n xs) (h' : RI w B m t) (h'' : RI w C o u) (hT : Pl.termOk xs t = true) (hp : p < m) (hm : m ≤ 60) (ho : o ≤ 60) (hd : m ≤ d) (hd2 : d ≤ 9223372036854775807) (hf : o ≤ f) (hf2 : f ≤ 9223372036854775807) :
    Calls Try.prog 55 #[.agg #[.slice A n c], .slice B m d, .int .i64 p, .slice C o f] w fun e w' => ∃ A' c',
      e = .returned (.tuple #[.slice A' (putL t p (Pl.fin (Pl.ari xs) t p) u).length c', .bool (putOk t p (Pl.fin (Pl.ari xs) t p) u)]) ∧ OI w' w.heap.size A' (putL t p (Pl.fin (Pl.ari xs) t p) u).length c' (putL t p (Pl.fin (Pl.ari xs) t p) u) ∧ Below w.heap.size w w' := by
  have hfn := (Pl.fin_of (Pl.termOk_iff.1 hT).2.2 (p := p) (by rw [h'.1]; exact hp))
  rw [h'.1] at hfn
  have hf1 := hfn.2.1
  have hf2' := hfn.2.2.1
  have hl := h'.1
  have hlu := h''.1
  have HEND := fun (W : World) (k1 : RI W A n xs) (k2 : RI W B m t) => endAt_ok A n c xs B m d t p W k1 k2 hT hp
  generalize hF : Pl.fin (Pl.ari xs) t p = F at *
  replace HEND := Lib.hid HEND
  clear hF hfn hT
  have hlen := putAt_len (p := p) (F := F) hl hlu (by omega) (by omega)
  obtain ⟨g, off, rfl, _⟩ := h'.2 (by omega)
  have e0 : (0 : Int) ≤ p := by omega
  have e1 : (p : Int) ≤ d := by omega
  have e1' : (p : Int) ≤ m := by omega
  have e2 : (0 : Int) ≤ F := by omega
  have e3 : (F : Int) ≤ m := by omega
  have hB0 : Below w.heap.size w (w.alloc (.cells #[.slice A n c] 30)) := (Below.refl _ _).alloc (Nat.le_refl _) _
  have bx : (w.alloc (.cells #[.slice A n c] 30)).cell? ⟨w.heap.size, 0, none⟩ = some (.slice A n c) := by simp
  have hr1 := ri_part h' 0 p (by omega) (by omega)
  simp only [Nat.add_zero, Nat.sub_zero, List.drop_zero] at hr1
  have hr3 := ri_part h' F m (by omega) (by omega)
  have HV : Hid ((t.drop F).take (m - F) = t.drop F) := Lib.hid (List.take_of_length_le (by rw [List.length_drop]; omega))
  rw [HV.out] at hr3
  have HZ : Hid (∀ (W : World) A', m - F = 0 → RI W A' 0 (t.drop F)) := Lib.hid (fun W A' h0 => ⟨by rw [List.length_drop]; omega, fun hh => by omega⟩)
  have HFL : Hid (flat [t.take p, u, t.drop F] 3 = putAt t p F u) := Lib.hid (by simp [flat, putAt])
  have hfl : (flat [t.take p, u, t.drop F] 3).length ≤ 1048576 := by rw [HFL.out, hlen]; omega
  go_enter Try.func55, Try.ntmps55
  go_wp2_with fail
  generalize w.alloc (.cells #[.slice A n c] 30) = W0 at *
  by_cases hFm : F < m
  · have e4 : ¬ (d : Int) - F = 0 := by omega
    have e5 : ¬ d - F = 0 := by omega
    have e6 : ¬ d = F := by omega
    go_region_held3 (fun w' => Below W0.heap.size W0 w' ∧ w'.cell? ⟨w.heap.size, 0, none⟩ = some (.slice A n c))
      (first | exact ⟨(Below.refl _ _).drew, bx⟩ | exact keepS1 hb1 (by assumption) | exact keepS1 hb2 (by assumption) | exact keepS1 ((Below.refl _ _).alloc (Nat.le_refl _) _) (by assumption))
      ((first | (go_at_call 68; refine (HEND.out _ ?_ ?_).mono ?_; exact riS (h.below hB0) (by assumption); exact riS (h'.below hB0) (by assumption); rintro e w1 ⟨rfl, hb1⟩) | (go_at_call 67; refine (concat_any _ 3 _ [t.take p, u, t.drop F] _ ?_ (by omega) hfl).mono ?_; exact RR.three ((hr1.below hB0).drew.below hb1) (by omega) (by omega) ((h''.below hB0).drew.below hb1) (by omega) (by omega) ((hr3.below hB0).drew.below hb1) (by omega) (by omega); rintro e w2 ⟨A', c', rfl, ho2, hb2⟩)))
    rename_i hS
    have hB2 := below_then hB0 hS.1 hB0.size
    replace ho2 := Lib.hid (ho2.base (B' := w.heap.size) (by have := hb1.size; have e_ : W0.drew.heap.size = W0.heap.size := rfl; have := hB0.size; simp; omega))
    rw [HFL.out] at ho2 ⊢
    rw [hlen] at ho2 ⊢
    clear hS hb1 hb2
    cases hq : putOk t p F u
    · have hbig := hq
      simp only [putOk, hlen, decide_eq_false_iff_not] at hbig
      have hbi : (60 : Int) < (p : Int) + o + (m - F : Nat) := by omega
      have HQ := Lib.hid (putL_no hq)
      have HK := Lib.hid hq
      clear hq
      go_wp2_with fail
      go_ret2
      exact ⟨none, 0, by rw [HK.out, HQ.out]; rfl, by rw [HQ.out]; exact World.ownsRow_nil _ _ _ _, hB2⟩
    · have hsm := hq
      simp only [putOk, hlen, decide_eq_true_eq] at hsm
      have hsi : ¬ (60 : Int) < (p : Int) + o + (m - F : Nat) := by omega
      have HQ := Lib.hid (putL_yes hq)
      have HK := Lib.hid hq
      clear hq
      go_wp2_with fail
      go_ret2
      exact ⟨A', c', by rw [HK.out, HQ.out, hlen]; rfl, by rw [HQ.out, hlen]; exact ho2.out, hB2⟩
  · obtain rfl : F = m := by omega
    have hz : F - F = 0 := by omega
    rw [hz] at hr3
    rw [hz, Nat.add_zero] at hlen
    by_cases hdF : d = F
    · subst hdF
      go_region_held3 (fun w' => Below W0.heap.size W0 w' ∧ w'.cell? ⟨w.heap.size, 0, none⟩ = some (.slice A n c))
        (first | exact ⟨(Below.refl _ _).drew, bx⟩ | exact keepS1 hb1 (by assumption) | exact keepS1 hb2 (by assumption) | exact keepS1 ((Below.refl _ _).alloc (Nat.le_refl _) _) (by assumption))
        ((first | (go_at_call 68; refine (HEND.out _ ?_ ?_).mono ?_; exact riS (h.below hB0) (by assumption); exact riS (h'.below hB0) (by assumption); rintro e w1 ⟨rfl, hb1⟩) | (go_at_call 67; refine (concat_any _ 3 _ [t.take p, u, t.drop _] _ ?_ (by omega) hfl).mono ?_; exact RR.three ((hr1.below hB0).drew.below hb1) (by omega) (by omega) ((h''.below hB0).drew.below hb1) (by omega) (by omega) (HZ.out _ _ hz) (by omega) (by omega); rintro e w2 ⟨A', c', rfl, ho2, hb2⟩)))
      rename_i hS
      have hB2 := below_then hB0 hS.1 hB0.size
      replace ho2 := Lib.hid (ho2.base (B' := w.heap.size) (by have := hb1.size; have e_ : W0.drew.heap.size = W0.heap.size := rfl; have := hB0.size; simp; omega))
      rw [HFL.out] at ho2 ⊢
      rw [hlen] at ho2 ⊢
      clear hS hb1 hb2
      cases hq : putOk t p d u
      · have hbig := hq
        simp only [putOk, hlen, decide_eq_false_iff_not] at hbig
        have hbi : (60 : Int) < (p : Int) + o := by omega
        have HQ := Lib.hid (putL_no hq)
        have HK := Lib.hid hq
        clear hq
        go_wp2_with fail
        go_ret2
        exact ⟨none, 0, by rw [HK.out, HQ.out]; rfl, by rw [HQ.out]; exact World.ownsRow_nil _ _ _ _, hB2⟩
      · have hsm := hq
        simp only [putOk, hlen, decide_eq_true_eq] at hsm
        have hsi : ¬ (60 : Int) < (p : Int) + o := by omega
        have HQ := Lib.hid (putL_yes hq)
        have HK := Lib.hid hq
        clear hq
        go_wp2_with fail
        go_ret2
        exact ⟨A', c', by rw [HK.out, HQ.out, hlen]; rfl, by rw [HQ.out, hlen]; exact ho2.out, hB2⟩
    · have e5 : ¬ d - F = 0 := by omega
      go_region_held3 (fun w' => Below W0.heap.size W0 w' ∧ w'.cell? ⟨w.heap.size, 0, none⟩ = some (.slice A n c))
        (first | exact ⟨(Below.refl _ _).drew, bx⟩ | exact keepS1 hb1 (by assumption) | exact keepS1 hb2 (by assumption) | exact keepS1 ((Below.refl _ _).alloc (Nat.le_refl _) _) (by assumption))
        ((first | (go_at_call 68; refine (HEND.out _ ?_ ?_).mono ?_; exact riS (h.below hB0) (by assumption); exact riS (h'.below hB0) (by assumption); rintro e w1 ⟨rfl, hb1⟩) | (go_at_call 67; refine (concat_any _ 3 _ [t.take p, u, t.drop F] _ ?_ (by omega) hfl).mono ?_; exact RR.three ((hr1.below hB0).drew.below hb1) (by omega) (by omega) ((h''.below hB0).drew.below hb1) (by omega) (by omega) (HZ.out _ _ hz) (by omega) (by omega); rintro e w2 ⟨A', c', rfl, ho2, hb2⟩)))
      rename_i hS
      have hB2 := below_then hB0 hS.1 hB0.size
      replace ho2 := Lib.hid (ho2.base (B' := w.heap.size) (by have := hb1.size; have e_ : W0.drew.heap.size = W0.heap.size := rfl; have := hB0.size; simp; omega))
      rw [HFL.out] at ho2 ⊢
      rw [hlen] at ho2 ⊢
      clear hS hb1 hb2
      cases hq : putOk t p F u
      · have hbig := hq
        simp only [putOk, hlen, decide_eq_false_iff_not] at hbig
        have hbi : (60 : Int) < (p : Int) + o := by omega
        have HQ := Lib.hid (putL_no hq)
        have HK := Lib.hid hq
        clear hq
        go_wp2_with fail
        go_ret2
        exact ⟨none, 0, by rw [HK.out, HQ.out]; rfl, by rw [HQ.out]; exact World.ownsRow_nil _ _ _ _, hB2⟩
      · have hsm := hq
        simp only [putOk, hlen, decide_eq_true_eq] at hsm
        have hsi : ¬ (60 : Int) < (p : Int) + o := by omega
        have HQ := Lib.hid (putL_yes hq)
        have HK := Lib.hid hq
        clear hq
        go_wp2_with fail
        go_ret2
        exact ⟨A', c', by rw [HK.out, HQ.out, hlen]; rfl, by rw [HQ.out, hlen]; exact ho2.out, hB2⟩
end Go.Proofs.Ytcjgcopkeeiicaa
