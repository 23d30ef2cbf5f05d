/- Contracts: a subterm replaced. -/
import Derived.Test.YtihgolhpdnoooaaPlace
import Derived.Test.YtihgolhpdnoooaaCopy
import Derived.Test.YtihgolhpdnoooaaConcat
namespace Go.Proofs.Ytihgolhpdnoooaa
open Go.RowKit
set_option linter.unusedVariables false

/-- The term with the part from p on and before F replaced. -/
def putAt (t : List Int) (p F : Nat) (u : List Int) : List Int := t.take p ++ u ++ t.drop F
def putOk (t : List Int) (p F : Nat) (u : List Int) : Bool := decide ((putAt t p F u).length ≤ 60)
def putL (t : List Int) (p F : Nat) (u : List Int) : List Int := if putOk t p F u then putAt t p F u else []
theorem putL_no {t : List Int} {p F : Nat} {u : List Int} (h : putOk t p F u = false) : putL t p F u = [] := by unfold putL; rw [h]; rfl
theorem putL_yes {t : List Int} {p F : Nat} {u : List Int} (h : putOk t p F u = true) : putL t p F u = putAt t p F u := by unfold putL; rw [h]; rfl
def V_PutAt (xs t : List Int) (p : Int) (u : List Int) : List Int × Bool := if Pl.posOk xs t p && Pl.termOk xs u then (putL t p.toNat (Pl.fin (Pl.ari xs) t p.toNat) u, putOk t p.toNat (Pl.fin (Pl.ari xs) t p.toNat) u) else ([], false)
theorem putAt_no {xs t : List Int} {p : Int} {u : List Int} (h : (Pl.posOk xs t p && Pl.termOk xs u) = false) : V_PutAt xs t p u = ([], false) := by unfold V_PutAt; rw [h]; rfl
theorem putAt_yes {xs t : List Int} {p : Nat} {u : List Int} (h : (Pl.posOk xs t p && Pl.termOk xs u) = true) : V_PutAt xs t p u = (putL t p (Pl.fin (Pl.ari xs) t p) u, putOk t p (Pl.fin (Pl.ari xs) t p) u) := by unfold V_PutAt; rw [h]; rfl
theorem bd_PutAt (xs t : List Int) (p : Int) (u : List Int) : (V_PutAt xs t p u).1.length ≤ 60 := by
  unfold V_PutAt
  split
  · show (putL _ _ _ _).length ≤ 60
    unfold putL
    split
    · rename_i h; simpa [putOk] using h
    · simp
  · simp
theorem putAt_len {t : List Int} {p F m o : Nat} {u : List Int} (ht : t.length = m) (hu : u.length = o) (hp : p ≤ m) (hF : F ≤ m) : (putAt t p F u).length = p + o + (m - F) := by
  unfold putAt; simp [ht, hu]; omega
set_option maxHeartbeats 4000000 in
set_option maxRecDepth 20000 in
theorem l3Put_any (A : Option Addr) (n c : Nat) (xs : List Int) (B : Option Addr) (m d : Nat) (t : List Int) (p : Nat) (C : Option Addr) (o f : Nat) (u : List Int) (w : World)
    (h : RI w A n xs) (h' : RI w B m t) (h'' : RI w C o u) (hT : Pl.termOk xs t = true) (hp : p < m) (hm : m ≤ 60) (ho : o ≤ 60) (hd : m ≤ d) (hd2 : d ≤ 9223372036854775807) :
    Calls Try.prog 97 #[.agg #[.slice A n c], .slice B m d, .int .i64 p, .slice C o f] w fun e w' => ∃ A' c',
      e = .returned (.tuple #[.slice A' (putL t p (Pl.fin (Pl.ari xs) t p) u).length c', .bool (putOk t p (Pl.fin (Pl.ari xs) t p) u)]) ∧ OI w' w.heap.size A' (putL t p (Pl.fin (Pl.ari xs) t p) u).length c' (putL t p (Pl.fin (Pl.ari xs) t p) u) ∧ Below w.heap.size w w' := by
  obtain ⟨i0, hi, hz0, hz1, hz2⟩ := info_parts infoInt64
  have hf := (Pl.fin_of (Pl.termOk_iff.1 hT).2.2 (p := p) (by rw [h'.1]; exact hp))
  rw [h'.1] at hf
  have hf1 := hf.2.1
  have hf2 := hf.2.2.1
  have hl := h'.1
  have hlu := h''.1
  have HEND := fun (W : World) (k1 : RI W A n xs) (k2 : RI W B m t) => l1End_ok A n c xs B m d t p W k1 k2 hT hp
  generalize hF : Pl.fin (Pl.ari xs) t p = F at *
  replace HEND := Lib.hid HEND
  clear hF hf hT
  have hlen := putAt_len (p := p) (F := F) hl hlu (by omega) (by omega)
  obtain ⟨g, off, rfl, _⟩ := h'.2 (by omega)
  have e0 : (0 : Int) ≤ p := by omega
  have e1 : (p : Int) ≤ d := by omega
  have e2 : (0 : Int) ≤ F := by omega
  have e3 : (F : Int) ≤ m := by omega
  have hB0 : Below w.heap.size w (w.alloc (.cells #[.slice A n c] 26)) := (Below.refl _ _).alloc (Nat.le_refl _) _
  have hr1 := ri_part (h'.below hB0) 0 p (by omega) (by omega)
  simp only [Nat.add_zero, Nat.sub_zero, List.drop_zero] at hr1
  go_enter Try.func97, Try.ntmps97
  go_wp2_with fail
  refine (l1Copy_any _ _ _ _ _ hr1 (by omega)).mono ?_
  rintro e w1 ⟨A1, c1, rfl, ho1, hb1⟩
  have hB1 : Below w.heap.size w w1 := below_then hB0 hb1 (by simp)
  have bx : w1.cell? ⟨w.heap.size, 0, none⟩ = some (.slice A n c) := (hb1.cell (by simp)).trans (by simp)
  replace ho1 := Lib.hid (ho1.base (B' := w.heap.size + 1) (by simp))
  have hsz1 : w.heap.size + 1 ≤ w1.heap.size := by have := hb1.size; simp at this; omega
  clear hb1 hB0 hr1
  have hU1 := h''.below hB1
  go_wp2_with (at_builtin; refine wpList_append_any rfl _ _ 24 rfl (w.heap.size + 1) 2 i0 (.int .i64 0) 1 8 Try.underlying24 hi hz0 hz1 hz2 rfl (by omega) A1 p c1 ((t.take p).map (Value.int .i64)) rfl ho1.out C o f (u.map (Value.int .i64)) rfl (Src.ints hU1) (by unfold maxLen; omega) (by omega) hsz1 ?_; intro A2 c2 w2 ho2 hg2 hnil2; have hgb2 := grown_below hg2 ho1.out hsz1; have hB2 := hB1.trans (hgb2.mono (by omega)); have bx2 := (hgb2.cell (p := ⟨w.heap.size, 0, none⟩) (by simp)).trans bx; have hsz2 : w.heap.size + 1 ≤ w2.heap.size := (by have := hgb2.size; omega); replace ho2 := Lib.hid ho2; clear hgb2 hg2 ho1 hU1 hB1 bx)
  refine (HEND.out _ (h.below hB2) (h'.below hB2)).mono ?_
  rintro e w3 ⟨rfl, hb3⟩
  have hB3 := below_then hB2 hb3 hB2.size
  have ho3 := Lib.hid (ownsRow_below ho2.out hb3)
  have hsz3 : w.heap.size + 1 ≤ w3.heap.size := by have := hb3.size; omega
  clear ho2 hb3 hB2 bx2
  have hr3 := ri_part (h'.below hB3) F m (by omega) (by omega)
  have hr3' : m - F = 0 → ∀ A', RI w3 A' 0 ((t.drop F).take (m - F)) := fun h0 A' => ⟨by rw [List.length_take, h0]; simp, fun hh => by omega⟩
  have HR := Lib.hid hr3'
  clear hr3'
  have HV : Hid ((t.drop F).take (m - F) = t.drop F) := Lib.hid (List.take_of_length_le (by rw [List.length_drop]; omega))
  by_cases hFm : F < m
  · have e4 : ¬ (d : Int) - F = 0 := by omega
    have e5 : ¬ d - F = 0 := by omega
    cases hq : putOk t p F u
    · have hbig : (60 : Int) < (p : Int) + o + (m - F : Nat) := by simp only [putOk, hlen, decide_eq_false_iff_not] at hq; omega
      have HQ := Lib.hid (putL_no hq)
      have HK := Lib.hid hq
      clear hq
      go_wp2_with (at_builtin; refine wpList_append_any rfl _ _ 24 rfl (w.heap.size + 1) 2 i0 (.int .i64 0) 1 8 Try.underlying24 hi hz0 hz1 hz2 rfl (by omega) A2 (p + o) c2 ((t.take p).map (Value.int .i64) ++ u.map (Value.int .i64)) rfl ho3.out _ (m - F) _ (((t.drop F).take (m - F)).map (Value.int .i64)) rfl (Src.ints hr3) (by unfold maxLen; omega) (by omega) hsz3 ?_; intro A4 c4 w4 ho4 hg4 hnil4; have hgb4 := grown_below hg4 ho3.out hsz3; have hB4 := hB3.trans (hgb4.mono (by omega)); replace ho4 := Lib.hid ho4; clear hgb4 hg4 ho3 hB3)
      go_ret2
      rw [HQ.out]
      exact ⟨some ⟨w4.heap.size, 0, none⟩, 0, by rw [HK.out]; rfl, OI.empty w4 hB4.size, hB4.alloc hB4.size _⟩
    · have hsm : ¬ (60 : Int) < (p : Int) + o + (m - F : Nat) := by simp only [putOk, hlen, decide_eq_true_eq] at hq; omega
      have HQ := Lib.hid (putL_yes hq)
      have HK := Lib.hid hq
      clear hq
      go_wp2_with (at_builtin; refine wpList_append_any rfl _ _ 24 rfl (w.heap.size + 1) 2 i0 (.int .i64 0) 1 8 Try.underlying24 hi hz0 hz1 hz2 rfl (by omega) A2 (p + o) c2 ((t.take p).map (Value.int .i64) ++ u.map (Value.int .i64)) rfl ho3.out _ (m - F) _ (((t.drop F).take (m - F)).map (Value.int .i64)) rfl (Src.ints hr3) (by unfold maxLen; omega) (by omega) hsz3 ?_; intro A4 c4 w4 ho4 hg4 hnil4; have hgb4 := grown_below hg4 ho3.out hsz3; have hB4 := hB3.trans (hgb4.mono (by omega)); replace ho4 := Lib.hid ho4; clear hgb4 hg4 ho3 hB3)
      go_ret2
      rw [HQ.out, hlen]
      refine ⟨A4, c4, by rw [HK.out]; rfl, ?_, hB4⟩
      have := ho4.out
      rw [HV.out] at this
      refine OI.base (B := w.heap.size + 1) ?_ (by omega)
      unfold OI putAt
      rw [List.map_append, List.map_append]
      exact this
  · obtain rfl : F = m := by omega
    have hz : F - F = 0 := by omega
    cases hq : putOk t p F u
    · have hbig : (60 : Int) < (p : Int) + o := by simp only [putOk, hlen, decide_eq_false_iff_not] at hq; omega
      have HQ := Lib.hid (putL_no hq)
      have HK := Lib.hid hq
      clear hq
      go_wp2_with (at_builtin; refine wpList_append_any rfl _ _ 24 rfl (w.heap.size + 1) 2 i0 (.int .i64 0) 1 8 Try.underlying24 hi hz0 hz1 hz2 rfl (by omega) A2 (p + o) c2 ((t.take p).map (Value.int .i64) ++ u.map (Value.int .i64)) rfl ho3.out _ 0 _ [] rfl ⟨rfl, by simp, Or.inl rfl⟩ (by unfold maxLen; omega) (by omega) hsz3 ?_; intro A4 c4 w4 ho4 hg4 hnil4; have hgb4 := grown_below hg4 ho3.out hsz3; have hB4 := hB3.trans (hgb4.mono (by omega)); replace ho4 := Lib.hid ho4; clear hgb4 hg4 ho3 hB3)
      all_goals go_ret2
      all_goals rw [HQ.out]
      all_goals exact ⟨some ⟨w4.heap.size, 0, none⟩, 0, by rw [HK.out]; rfl, OI.empty w4 hB4.size, hB4.alloc hB4.size _⟩
    · have hsm : ¬ (60 : Int) < (p : Int) + o := by simp only [putOk, hlen, decide_eq_true_eq] at hq; omega
      have HQ := Lib.hid (putL_yes hq)
      have HK := Lib.hid hq
      clear hq
      go_wp2_with (at_builtin; refine wpList_append_any rfl _ _ 24 rfl (w.heap.size + 1) 2 i0 (.int .i64 0) 1 8 Try.underlying24 hi hz0 hz1 hz2 rfl (by omega) A2 (p + o) c2 ((t.take p).map (Value.int .i64) ++ u.map (Value.int .i64)) rfl ho3.out _ 0 _ [] rfl ⟨rfl, by simp, Or.inl rfl⟩ (by unfold maxLen; omega) (by omega) hsz3 ?_; intro A4 c4 w4 ho4 hg4 hnil4; have hgb4 := grown_below hg4 ho3.out hsz3; have hB4 := hB3.trans (hgb4.mono (by omega)); replace ho4 := Lib.hid ho4; clear hgb4 hg4 ho3 hB3)
      all_goals go_ret2
      all_goals rw [HQ.out, hlen]
      all_goals refine ⟨A4, c4, by rw [HK.out, hz]; rfl, ?_, hB4⟩
      all_goals (
        have := ho4.out
        refine OI.base (B := w.heap.size + 1) ?_ (by omega)
        unfold OI putAt
        rw [List.drop_of_length_le (by omega), hz]
        simpa using this)
set_option maxHeartbeats 4000000 in
set_option maxRecDepth 20000 in
theorem put_any (A : Option Addr) (n c : Nat) (xs : List Int) (B : Option Addr) (m d : Nat) (t : List Int) (p : Nat) (C : Option Addr) (o f : Nat) (u : List Int) (w : World)
    (h : RI w A n xs) (h' : RI w B m t) (h'' : RI w C o u) (hT : Pl.termOk xs t = true) (hp : p < m) (hm : m ≤ 60) (ho : o ≤ 60) (hd : m ≤ d) (hd2 : d ≤ 9223372036854775807) (hf : o ≤ f) (hf2 : f ≤ 9223372036854775807) :
    Calls Try.prog 95 #[.agg #[.slice A n c], .slice B m d, .int .i64 p, .slice C o f] w fun e w' => ∃ A' c',
      e = .returned (.tuple #[.slice A' (putL t p (Pl.fin (Pl.ari xs) t p) u).length c', .bool (putOk t p (Pl.fin (Pl.ari xs) t p) u)]) ∧ OI w' w.heap.size A' (putL t p (Pl.fin (Pl.ari xs) t p) u).length c' (putL t p (Pl.fin (Pl.ari xs) t p) u) ∧ Below w.heap.size w w' := by
  have hfn := (Pl.fin_of (Pl.termOk_iff.1 hT).2.2 (p := p) (by rw [h'.1]; exact hp))
  rw [h'.1] at hfn
  have hf1 := hfn.2.1
  have hf2' := hfn.2.2.1
  have hl := h'.1
  have hlu := h''.1
  have HEND := fun (W : World) (k1 : RI W A n xs) (k2 : RI W B m t) => endAt_ok A n c xs B m d t p W k1 k2 hT hp
  generalize hF : Pl.fin (Pl.ari xs) t p = F at *
  replace HEND := Lib.hid HEND
  clear hF hfn hT
  have hlen := putAt_len (p := p) (F := F) hl hlu (by omega) (by omega)
  obtain ⟨g, off, rfl, _⟩ := h'.2 (by omega)
  have e0 : (0 : Int) ≤ p := by omega
  have e1 : (p : Int) ≤ d := by omega
  have e1' : (p : Int) ≤ m := by omega
  have e2 : (0 : Int) ≤ F := by omega
  have e3 : (F : Int) ≤ m := by omega
  have hB0 : Below w.heap.size w (w.alloc (.cells #[.slice A n c] 26)) := (Below.refl _ _).alloc (Nat.le_refl _) _
  have bx : (w.alloc (.cells #[.slice A n c] 26)).cell? ⟨w.heap.size, 0, none⟩ = some (.slice A n c) := by simp
  have hr1 := ri_part h' 0 p (by omega) (by omega)
  simp only [Nat.add_zero, Nat.sub_zero, List.drop_zero] at hr1
  have hr3 := ri_part h' F m (by omega) (by omega)
  have HV : Hid ((t.drop F).take (m - F) = t.drop F) := Lib.hid (List.take_of_length_le (by rw [List.length_drop]; omega))
  rw [HV.out] at hr3
  have HZ : Hid (∀ (W : World) A', m - F = 0 → RI W A' 0 (t.drop F)) := Lib.hid (fun W A' h0 => ⟨by rw [List.length_drop]; omega, fun hh => by omega⟩)
  have HFL : Hid (flat [t.take p, u, t.drop F] 3 = putAt t p F u) := Lib.hid (by simp [flat, putAt])
  have hfl : (flat [t.take p, u, t.drop F] 3).length ≤ 1048576 := by rw [HFL.out, hlen]; omega
  go_enter Try.func95, Try.ntmps95
  go_wp2_with fail
  generalize w.alloc (.cells #[.slice A n c] 26) = W0 at *
  by_cases hFm : F < m
  · have e4 : ¬ (d : Int) - F = 0 := by omega
    have e5 : ¬ d - F = 0 := by omega
    have e6 : ¬ d = F := by omega
    go_region_held3 (fun w' => Below W0.heap.size W0 w' ∧ w'.cell? ⟨w.heap.size, 0, none⟩ = some (.slice A n c))
      (first | exact ⟨(Below.refl _ _).drew, bx⟩ | exact keepS1 hb1 (by assumption) | exact keepS1 hb2 (by assumption) | exact keepS1 ((Below.refl _ _).alloc (Nat.le_refl _) _) (by assumption))
      ((first | (go_at_call 81; refine (HEND.out _ ?_ ?_).mono ?_; exact riS (h.below hB0) (by assumption); exact riS (h'.below hB0) (by assumption); rintro e w1 ⟨rfl, hb1⟩) | (go_at_call 141; refine (concat_any _ 3 _ [t.take p, u, t.drop F] _ ?_ (by omega) hfl).mono ?_; exact RR.three ((hr1.below hB0).drew.below hb1) (by omega) (by omega) ((h''.below hB0).drew.below hb1) (by omega) (by omega) ((hr3.below hB0).drew.below hb1) (by omega) (by omega); rintro e w2 ⟨A', c', rfl, ho2, hb2⟩)))
    rename_i hS
    have hB2 := below_then hB0 hS.1 hB0.size
    replace ho2 := Lib.hid (ho2.base (B' := w.heap.size) (by have := hb1.size; have e_ : W0.drew.heap.size = W0.heap.size := rfl; have := hB0.size; simp; omega))
    rw [HFL.out] at ho2 ⊢
    rw [hlen] at ho2 ⊢
    clear hS hb1 hb2
    cases hq : putOk t p F u
    · have hbig := hq
      simp only [putOk, hlen, decide_eq_false_iff_not] at hbig
      have hbi : (60 : Int) < (p : Int) + o + (m - F : Nat) := by omega
      have HQ := Lib.hid (putL_no hq)
      have HK := Lib.hid hq
      clear hq
      go_wp2_with fail
      go_ret2
      exact ⟨none, 0, by rw [HK.out, HQ.out]; rfl, by rw [HQ.out]; exact World.ownsRow_nil _ _ _ _, hB2⟩
    · have hsm := hq
      simp only [putOk, hlen, decide_eq_true_eq] at hsm
      have hsi : ¬ (60 : Int) < (p : Int) + o + (m - F : Nat) := by omega
      have HQ := Lib.hid (putL_yes hq)
      have HK := Lib.hid hq
      clear hq
      go_wp2_with fail
      go_ret2
      exact ⟨A', c', by rw [HK.out, HQ.out, hlen]; rfl, by rw [HQ.out, hlen]; exact ho2.out, hB2⟩
  · obtain rfl : F = m := by omega
    have hz : F - F = 0 := by omega
    rw [hz] at hr3
    rw [hz, Nat.add_zero] at hlen
    by_cases hdF : d = F
    · subst hdF
      go_region_held3 (fun w' => Below W0.heap.size W0 w' ∧ w'.cell? ⟨w.heap.size, 0, none⟩ = some (.slice A n c))
        (first | exact ⟨(Below.refl _ _).drew, bx⟩ | exact keepS1 hb1 (by assumption) | exact keepS1 hb2 (by assumption) | exact keepS1 ((Below.refl _ _).alloc (Nat.le_refl _) _) (by assumption))
        ((first | (go_at_call 81; refine (HEND.out _ ?_ ?_).mono ?_; exact riS (h.below hB0) (by assumption); exact riS (h'.below hB0) (by assumption); rintro e w1 ⟨rfl, hb1⟩) | (go_at_call 141; refine (concat_any _ 3 _ [t.take p, u, t.drop _] _ ?_ (by omega) hfl).mono ?_; exact RR.three ((hr1.below hB0).drew.below hb1) (by omega) (by omega) ((h''.below hB0).drew.below hb1) (by omega) (by omega) (HZ.out _ _ hz) (by omega) (by omega); rintro e w2 ⟨A', c', rfl, ho2, hb2⟩)))
      rename_i hS
      have hB2 := below_then hB0 hS.1 hB0.size
      replace ho2 := Lib.hid (ho2.base (B' := w.heap.size) (by have := hb1.size; have e_ : W0.drew.heap.size = W0.heap.size := rfl; have := hB0.size; simp; omega))
      rw [HFL.out] at ho2 ⊢
      rw [hlen] at ho2 ⊢
      clear hS hb1 hb2
      cases hq : putOk t p d u
      · have hbig := hq
        simp only [putOk, hlen, decide_eq_false_iff_not] at hbig
        have hbi : (60 : Int) < (p : Int) + o := by omega
        have HQ := Lib.hid (putL_no hq)
        have HK := Lib.hid hq
        clear hq
        go_wp2_with fail
        go_ret2
        exact ⟨none, 0, by rw [HK.out, HQ.out]; rfl, by rw [HQ.out]; exact World.ownsRow_nil _ _ _ _, hB2⟩
      · have hsm := hq
        simp only [putOk, hlen, decide_eq_true_eq] at hsm
        have hsi : ¬ (60 : Int) < (p : Int) + o := by omega
        have HQ := Lib.hid (putL_yes hq)
        have HK := Lib.hid hq
        clear hq
        go_wp2_with fail
        go_ret2
        exact ⟨A', c', by rw [HK.out, HQ.out, hlen]; rfl, by rw [HQ.out, hlen]; exact ho2.out, hB2⟩
    · have e5 : ¬ d - F = 0 := by omega
      go_region_held3 (fun w' => Below W0.heap.size W0 w' ∧ w'.cell? ⟨w.heap.size, 0, none⟩ = some (.slice A n c))
        (first | exact ⟨(Below.refl _ _).drew, bx⟩ | exact keepS1 hb1 (by assumption) | exact keepS1 hb2 (by assumption) | exact keepS1 ((Below.refl _ _).alloc (Nat.le_refl _) _) (by assumption))
        ((first | (go_at_call 81; refine (HEND.out _ ?_ ?_).mono ?_; exact riS (h.below hB0) (by assumption); exact riS (h'.below hB0) (by assumption); rintro e w1 ⟨rfl, hb1⟩) | (go_at_call 141; refine (concat_any _ 3 _ [t.take p, u, t.drop F] _ ?_ (by omega) hfl).mono ?_; exact RR.three ((hr1.below hB0).drew.below hb1) (by omega) (by omega) ((h''.below hB0).drew.below hb1) (by omega) (by omega) (HZ.out _ _ hz) (by omega) (by omega); rintro e w2 ⟨A', c', rfl, ho2, hb2⟩)))
      rename_i hS
      have hB2 := below_then hB0 hS.1 hB0.size
      replace ho2 := Lib.hid (ho2.base (B' := w.heap.size) (by have := hb1.size; have e_ : W0.drew.heap.size = W0.heap.size := rfl; have := hB0.size; simp; omega))
      rw [HFL.out] at ho2 ⊢
      rw [hlen] at ho2 ⊢
      clear hS hb1 hb2
      cases hq : putOk t p F u
      · have hbig := hq
        simp only [putOk, hlen, decide_eq_false_iff_not] at hbig
        have hbi : (60 : Int) < (p : Int) + o := by omega
        have HQ := Lib.hid (putL_no hq)
        have HK := Lib.hid hq
        clear hq
        go_wp2_with fail
        go_ret2
        exact ⟨none, 0, by rw [HK.out, HQ.out]; rfl, by rw [HQ.out]; exact World.ownsRow_nil _ _ _ _, hB2⟩
      · have hsm := hq
        simp only [putOk, hlen, decide_eq_true_eq] at hsm
        have hsi : ¬ (60 : Int) < (p : Int) + o := by omega
        have HQ := Lib.hid (putL_yes hq)
        have HK := Lib.hid hq
        clear hq
        go_wp2_with fail
        go_ret2
        exact ⟨A', c', by rw [HK.out, HQ.out, hlen]; rfl, by rw [HQ.out, hlen]; exact ho2.out, hB2⟩
set_option maxHeartbeats 400000 in
theorem S_PutAt (A : Option Addr) (n c : Nat) (xs : List Int) (B : Option Addr) (m d : Nat) (t : List Int) (p : Int) (C : Option Addr) (o f : Nat) (u : List Int) (w : World) (h : RI w A n xs) (h' : RI w B m t) (h'' : RI w C o u) (hn : n ≤ 1048576) (hm : m ≤ 1048576) (ho : o ≤ 1048576) (hd : m ≤ d) (hd2 : d ≤ 9223372036854775807) (hf : o ≤ f) (hf2 : f ≤ 9223372036854775807) :
    Calls Try.prog 31 #[.agg #[.slice A n c], .slice B m d, .int .i64 p, .slice C o f] w fun e w' => ∃ A' c', e = .returned (.tuple #[.slice A' (V_PutAt xs t p u).1.length c', .bool (V_PutAt xs t p u).2]) ∧ OI w' w.heap.size A' (V_PutAt xs t p u).1.length c' (V_PutAt xs t p u).1 ∧ Below w.heap.size w w' := by
  have hl := h'.1
  cases hs : Pl.posOk xs t p
  · have HE := putAt_no (xs := xs) (t := t) (p := p) (u := u) (by rw [hs]; rfl)
    rw [HE]
    have HS := Lib.hid hs
    clear hl HE hs
    go_enter Try.func31, Try.ntmps31
    go_wp2_with fail
    refine (l3Right_any A n c xs B m d t p _ (h.alloc _) (h'.alloc _) hn hm).mono ?_
    rintro e w1 ⟨rfl, hb1⟩
    rw [HS.out]
    have hB : Below w.heap.size w w1 := below_then ((Below.refl _ _).alloc (Nat.le_refl _) _) hb1 (by simp)
    have bx : w1.cell? ⟨w.heap.size, 0, none⟩ = some (.slice A n c) := (hb1.cell (by simp)).trans (by simp)
    replace h := (h.alloc _).below hb1
    replace h' := (h'.alloc _).below hb1
    clear hb1
    go_wp2_with fail
    go_ret2
    exact ⟨_, _, rfl, OI.empty w1 hB.size, hB.alloc hB.size _⟩
  · obtain ⟨k, rfl, hk, hT⟩ := Pl.posOk_nat hs
    have hm1 := (Pl.termOk_iff.1 hT).2.1
    rw [hl] at hk hm1
    cases hU : Pl.termOk xs u
    · have HE := putAt_no (xs := xs) (t := t) (p := k) (u := u) (by rw [hU]; simp)
      rw [HE]
      have HS := Lib.hid hs
      have HU := Lib.hid hU
      clear hl HE hs
      go_enter Try.func31, Try.ntmps31
      go_wp2_with fail
      refine (l3Right_any A n c xs B m d t k _ (h.alloc _) (h'.alloc _) hn hm).mono ?_
      rintro e w1 ⟨rfl, hb1⟩
      rw [HS.out]
      replace h'' := (h''.alloc _).below hb1
      have hB : Below w.heap.size w w1 := below_then ((Below.refl _ _).alloc (Nat.le_refl _) _) hb1 (by simp)
      have bx : w1.cell? ⟨w.heap.size, 0, none⟩ = some (.slice A n c) := (hb1.cell (by simp)).trans (by simp)
      replace h := (h.alloc _).below hb1
      replace h' := (h'.alloc _).below hb1
      clear hb1
      go_wp2_with fail
      refine (specTermOk_any A n c xs C o f u _ h h'' (by omega) (by omega)).mono ?_
      rintro e w2 ⟨rfl, hb2⟩
      rw [HU.out]
      replace hB := below_then hB hb2 hB.size
      replace bx := keepC hb2 bx
      replace h := h.below hb2
      replace h' := h'.below hb2
      clear hb2
      go_wp2_with fail
      go_ret2
      exact ⟨_, _, rfl, OI.empty w2 hB.size, hB.alloc hB.size _⟩
    · have hu1 := (Pl.termOk_iff.1 hU).2.1
      rw [h''.1] at hu1
      have HE := putAt_yes (xs := xs) (t := t) (p := k) (u := u) (by rw [hs, hU]; rfl)
      rw [HE]
      have HS := Lib.hid hs
      have HU := Lib.hid hU
      have HT := Lib.hid hT
      clear hl HE hs hT
      go_enter Try.func31, Try.ntmps31
      go_wp2_with fail
      refine (l3Right_any A n c xs B m d t k _ (h.alloc _) (h'.alloc _) hn hm).mono ?_
      rintro e w1 ⟨rfl, hb1⟩
      rw [HS.out]
      replace h'' := (h''.alloc _).below hb1
      have hB : Below w.heap.size w w1 := below_then ((Below.refl _ _).alloc (Nat.le_refl _) _) hb1 (by simp)
      have bx : w1.cell? ⟨w.heap.size, 0, none⟩ = some (.slice A n c) := (hb1.cell (by simp)).trans (by simp)
      replace h := (h.alloc _).below hb1
      replace h' := (h'.alloc _).below hb1
      clear hb1
      go_wp2_with fail
      refine (specTermOk_any A n c xs C o f u _ h h'' (by omega) (by omega)).mono ?_
      rintro e w2 ⟨rfl, hb2⟩
      rw [HU.out]
      replace h'' := h''.below hb2
      replace hB := below_then hB hb2 hB.size
      replace bx := keepC hb2 bx
      replace h := h.below hb2
      replace h' := h'.below hb2
      clear hb2
      go_wp2_with fail
      refine (l3Put_any A n c xs B m d t k C o f u _ h h' h'' HT.out hk (by omega) (by omega) hd hd2).mono ?_
      rintro e w3 ⟨A', c', rfl, ho, hb3⟩
      go_wp2_with fail
      go_ret2
      exact ⟨A', c', rfl, ho.base hB.size, below_then hB hb3 hB.size⟩
set_option maxHeartbeats 400000 in
theorem I_PutAt (A : Option Addr) (n c : Nat) (xs : List Int) (B : Option Addr) (m d : Nat) (t : List Int) (p : Int) (C : Option Addr) (o f : Nat) (u : List Int) (w : World) (h : RI w A n xs) (h' : RI w B m t) (h'' : RI w C o u) (hn : n ≤ 1048576) (hm : m ≤ 1048576) (ho : o ≤ 1048576) (hd : m ≤ d) (hd2 : d ≤ 9223372036854775807) (hf : o ≤ f) (hf2 : f ≤ 9223372036854775807) :
    Calls Try.prog 30 #[.agg #[.slice A n c], .slice B m d, .int .i64 p, .slice C o f] w fun e w' => ∃ A' c', e = .returned (.tuple #[.slice A' (V_PutAt xs t p u).1.length c', .bool (V_PutAt xs t p u).2]) ∧ OI w' w.heap.size A' (V_PutAt xs t p u).1.length c' (V_PutAt xs t p u).1 ∧ Below w.heap.size w w' := by
  have hl := h'.1
  cases hs : Pl.posOk xs t p
  · have HE := putAt_no (xs := xs) (t := t) (p := p) (u := u) (by rw [hs]; rfl)
    rw [HE]
    have HS := Lib.hid hs
    clear hl HE hs
    go_enter Try.func30, Try.ntmps30
    go_wp2_with fail
    refine (posOk_ok A n c xs B m d t p _ (h.alloc _) (h'.alloc _) hn hm).mono ?_
    rintro e w1 ⟨rfl, hb1⟩
    rw [HS.out]
    have hB : Below w.heap.size w w1 := below_then ((Below.refl _ _).alloc (Nat.le_refl _) _) hb1 (by simp)
    have bx : w1.cell? ⟨w.heap.size, 0, none⟩ = some (.slice A n c) := (hb1.cell (by simp)).trans (by simp)
    replace h := (h.alloc _).below hb1
    replace h' := (h'.alloc _).below hb1
    clear hb1
    go_wp2_with fail
    go_ret2
    exact ⟨none, 0, rfl, World.ownsRow_nil _ _ _ _, hB⟩
  · obtain ⟨k, rfl, hk, hT⟩ := Pl.posOk_nat hs
    have hm1 := (Pl.termOk_iff.1 hT).2.1
    rw [hl] at hk hm1
    cases hU : Pl.termOk xs u
    · have HE := putAt_no (xs := xs) (t := t) (p := k) (u := u) (by rw [hU]; simp)
      rw [HE]
      have HS := Lib.hid hs
      have HU := Lib.hid hU
      clear hl HE hs
      go_enter Try.func30, Try.ntmps30
      go_wp2_with fail
      refine (posOk_ok A n c xs B m d t k _ (h.alloc _) (h'.alloc _) hn hm).mono ?_
      rintro e w1 ⟨rfl, hb1⟩
      rw [HS.out]
      replace h'' := (h''.alloc _).below hb1
      have hB : Below w.heap.size w w1 := below_then ((Below.refl _ _).alloc (Nat.le_refl _) _) hb1 (by simp)
      have bx : w1.cell? ⟨w.heap.size, 0, none⟩ = some (.slice A n c) := (hb1.cell (by simp)).trans (by simp)
      replace h := (h.alloc _).below hb1
      replace h' := (h'.alloc _).below hb1
      clear hb1
      go_wp2_with fail
      refine (implTermOk_any A n c xs C o f u _ h h'' (by omega) (by omega)).mono ?_
      rintro e w2 ⟨rfl, hb2⟩
      rw [HU.out]
      replace hB := below_then hB hb2 hB.size
      replace bx := keepC hb2 bx
      replace h := h.below hb2
      replace h' := h'.below hb2
      clear hb2
      go_wp2_with fail
      go_ret2
      exact ⟨none, 0, rfl, World.ownsRow_nil _ _ _ _, hB⟩
    · have hu1 := (Pl.termOk_iff.1 hU).2.1
      rw [h''.1] at hu1
      have HE := putAt_yes (xs := xs) (t := t) (p := k) (u := u) (by rw [hs, hU]; rfl)
      rw [HE]
      have HS := Lib.hid hs
      have HU := Lib.hid hU
      have HT := Lib.hid hT
      clear hl HE hs hT
      go_enter Try.func30, Try.ntmps30
      go_wp2_with fail
      refine (posOk_ok A n c xs B m d t k _ (h.alloc _) (h'.alloc _) hn hm).mono ?_
      rintro e w1 ⟨rfl, hb1⟩
      rw [HS.out]
      replace h'' := (h''.alloc _).below hb1
      have hB : Below w.heap.size w w1 := below_then ((Below.refl _ _).alloc (Nat.le_refl _) _) hb1 (by simp)
      have bx : w1.cell? ⟨w.heap.size, 0, none⟩ = some (.slice A n c) := (hb1.cell (by simp)).trans (by simp)
      replace h := (h.alloc _).below hb1
      replace h' := (h'.alloc _).below hb1
      clear hb1
      go_wp2_with fail
      refine (implTermOk_any A n c xs C o f u _ h h'' (by omega) (by omega)).mono ?_
      rintro e w2 ⟨rfl, hb2⟩
      rw [HU.out]
      replace h'' := h''.below hb2
      replace hB := below_then hB hb2 hB.size
      replace bx := keepC hb2 bx
      replace h := h.below hb2
      replace h' := h'.below hb2
      clear hb2
      go_wp2_with fail
      refine (put_any A n c xs B m d t k C o f u _ h h' h'' HT.out hk (by omega) (by omega) hd hd2 hf hf2).mono ?_
      rintro e w3 ⟨A', c', rfl, ho, hb3⟩
      go_wp2_with fail
      go_ret2
      exact ⟨A', c', rfl, ho.base hB.size, below_then hB hb3 hB.size⟩
end Go.Proofs.Ytihgolhpdnoooaa
