/- Contracts: PlaceOf. -/
import Derived.Test.YtihgolhpdnoooaaArgs
namespace Go.Proofs.Ytihgolhpdnoooaa
open Go.RowKit
set_option linter.unusedVariables false

/-- Where a path leads. -/
def goTo (ar t : List Int) : List Int → Nat → Int
  | [], p => p
  | i :: r, p => if 0 ≤ i ∧ i < (Pl.args (Pl.ari ar) t p).length then goTo ar t r ((Pl.args (Pl.ari ar) t p).getD i.toNat 0) else -1
theorem goTo_no {ar t P : List Int} {k p : Nat} (hk : k < P.length) {i : Int} (hi : i = P.getD k 0) (h : ¬(0 ≤ i ∧ i < (Pl.args (Pl.ari ar) t p).length)) : goTo ar t (P.drop k) p = -1 := by
  rw [List.getD_eq_getElem?_getD, List.getElem?_eq_getElem hk, Option.getD_some] at hi
  rw [List.drop_eq_getElem_cons hk, ← hi, goTo, if_neg h]
theorem goTo_yes {ar t P : List Int} {k p : Nat} (hk : k < P.length) {i : Nat} (hi : (i : Int) = P.getD k 0) (h : i < (Pl.args (Pl.ari ar) t p).length) : goTo ar t (P.drop k) p = goTo ar t (P.drop (k + 1)) ((Pl.args (Pl.ari ar) t p).getD i 0) := by
  rw [List.getD_eq_getElem?_getD, List.getElem?_eq_getElem hk, Option.getD_some] at hi
  rw [List.drop_eq_getElem_cons hk, ← hi, goTo, if_pos (by omega), Int.toNat_natCast]
theorem goTo_end {ar t P : List Int} {k p : Nat} (hk : P.length ≤ k) : goTo ar t (P.drop k) p = p := by
  rw [List.drop_eq_nil_of_le hk, goTo]
theorem args_lt {ar t : List Int} (hT : Pl.termOk ar t = true) {p i : Nat} (hp : p < t.length) (hi : i < (Pl.args (Pl.ari ar) t p).length) : (Pl.args (Pl.ari ar) t p).getD i 0 < t.length := by
  have := Pl.args_mem (Pl.termOk_iff.1 hT).2.2 hp ((Pl.args (Pl.ari ar) t p).getD i 0) (by rw [List.getD_eq_getElem?_getD, List.getElem?_eq_getElem hi, Option.getD_some]; exact List.getElem_mem hi)
  exact this.2.2.1
def V_PlaceOf (xs t P : List Int) : Int := if Pl.termOk xs t then goTo xs t P 0 else -1
theorem placeOf_no {xs t P : List Int} (h : Pl.termOk xs t = false) : V_PlaceOf xs t P = -1 := by unfold V_PlaceOf; rw [h]; rfl
theorem placeOf_yes {xs t P : List Int} (h : Pl.termOk xs t = true) : goTo xs t (P.drop 0) 0 = V_PlaceOf xs t P := by unfold V_PlaceOf; rw [h]; rfl
set_option maxHeartbeats 4000000 in
theorem S_PlaceOf (A : Option Addr) (n c : Nat) (xs : List Int) (B : Option Addr) (m d : Nat) (t : List Int) (C : Option Addr) (r b : Nat) (P : List Int) (w : World) (h : RI w A n xs) (h' : RI w B m t) (h2 : RI w C r P) (hn : n ≤ 1048576) (hm : m ≤ 1048576) (hr : r ≤ 1048576) :
    Calls Try.prog 39 #[.agg #[.slice A n c], .slice B m d, .slice C r b] w fun e w' => e = .returned (.int .i64 (V_PlaceOf xs t P)) ∧ Below w.heap.size w w' := by
  have hl := h'.1
  have hl2 := h2.1
  cases hs : Pl.termOk xs t
  · have HE := placeOf_no (P := P) hs
    rw [HE]
    have HS := Lib.hid hs
    clear hl hl2 HE hs
    go_enter Try.func39, Try.ntmps39
    go_wp2_with fail
    refine (specTermOk_any A n c xs B m d t _ (h.alloc _) (h'.alloc _) (by omega) (by omega)).mono ?_
    rintro e w1 ⟨rfl, hb1⟩
    rw [HS.out]
    have hB : Below w.heap.size w w1 := below_then ((Below.refl _ _).alloc (Nat.le_refl _) _) hb1 (by simp)
    have bx : w1.cell? ⟨w.heap.size, 0, none⟩ = some (.slice A n c) := (hb1.cell (by simp)).trans (by simp)
    replace h := (h.alloc _).below hb1
    replace h' := (h'.alloc _).below hb1
    clear hb1
    go_wp2_with fail
    go_ret
    exact ⟨rfl, hB⟩
  · have HE := Lib.hid (placeOf_yes (P := P) hs)
    have hm60 : m ≤ 60 := by have := (Pl.termOk_iff.1 hs).2.1.2; omega
    have h0 : 0 < m := by have := (Pl.termOk_iff.1 hs).2.1.1; omega
    have HS := Lib.hid hs
    clear hs
    obtain ⟨V, hV⟩ : ∃ V, V = V_PlaceOf xs t P := ⟨_, rfl⟩
    rw [← hV] at HE ⊢
    clear hV
    go_enter Try.func39, Try.ntmps39
    go_wp2_with fail
    refine (specTermOk_any A n c xs B m d t _ (h.alloc _) (h'.alloc _) (by omega) (by omega)).mono ?_
    rintro e w1 ⟨rfl, hb1⟩
    rw [HS.out]
    replace h2 := (h2.alloc _).below hb1
    have hB : Below w.heap.size w w1 := below_then ((Below.refl _ _).alloc (Nat.le_refl _) _) hb1 (by simp)
    have bx : w1.cell? ⟨w.heap.size, 0, none⟩ = some (.slice A n c) := (hb1.cell (by simp)).trans (by simp)
    replace h := (h.alloc _).below hb1
    replace h' := (h'.alloc _).below hb1
    clear hb1
    go_wp2_with fail
    go_loopw [7, 8, 9] (fun u i _ wr => ∃ k p : Nat, k ≤ r ∧ p < m ∧ i = .int .i64 k ∧ u = .int .i64 p ∧ Hid (goTo xs t (P.drop k) p = V) ∧ Below w1.heap.size w1 wr) (fun _ i _ _ => r - (intOf i).toNat)
    case atStart => exact ⟨0, 0, Nat.zero_le _, h0, rfl, rfl, HE, Below.refl _ _⟩
    case round =>
      obtain ⟨k, p, hk, hp, rfl, rfl, hg, hb⟩ := hrel
      have hbx := keepC hb bx
      by_cases hlt : k < r
      · go_wp2_with fail
        refine (l1Args_any A n c xs B m d t p _ (h.below hb) (h'.below hb) HS.out hp hm hn).mono ?_
        rintro e w2 ⟨A', c', rfl, ho, hb2⟩
        have hR := ho.ri
        have hal := args_len HS.out p
        have hB2 := hb.trans (hb2.mono hb.size)
        have hbx2 := keepC hb2 hbx
        clear ho hb2 hbx hb
        obtain ⟨g, off, x, rfl, hc, hx⟩ := (h2.below hB2).at_ hlt
        by_cases hx1 : 0 ≤ x
        · by_cases hx2 : x < ((Pl.args (Pl.ari xs) t p).length : Int)
          · obtain ⟨i, rfl⟩ : ∃ i : Nat, x = i := ⟨x.toNat, by omega⟩
            have hil : i < (Pl.args (Pl.ari xs) t p).length := by omega
            have hst := Lib.hid (goTo_yes (ar := xs) (t := t) (p := p) (by rw [hl2]; exact hlt) hx.out hil)
            have hqm := args_lt HS.out (p := p) (by rw [hl]; exact hp) hil
            rw [hl] at hqm
            obtain ⟨g2, off2, y, rfl, hc2, hy⟩ := hR.at_ (k := i) hil
            have hyn : y = ((Pl.args (Pl.ari xs) t p).getD i 0 : Nat) := by rw [hy.out, nats_getD _ _ hil]
            obtain ⟨q, hq⟩ : ∃ q : Nat, q = (Pl.args (Pl.ari xs) t p).getD i 0 := ⟨_, rfl⟩
            rw [← hq] at hyn hst hqm
            subst hyn
            have HB : Hid (inB (i : Int) 0 (((Pl.args (Pl.ari xs) t p).length : Int) - 1) = true) := Lib.hid (by unfold inB; simp; omega)
            clear hx hy hq
            generalize Pl.args (Pl.ari xs) t p = L at *
            go_wp2_with fail
            refine (l1In_any _ _ _ _).mono ?_
            rintro e w3 ⟨rfl, rfl⟩
            rw [HB.out]
            go_wp2_with fail
            go_roundw
            case rel => exact ⟨k + 1, q, by omega, hqm, by go_num, rfl, Lib.hid (hst.out.symm.trans hg.out), hB2⟩
            case measure => simp [intOf]; omega
          · have HV := Lib.hid (hg.out.symm.trans (goTo_no (ar := xs) (t := t) (p := p) (by rw [hl2]; exact hlt) hx.out (by omega)))
            have HB : Hid (inB x 0 (((Pl.args (Pl.ari xs) t p).length : Int) - 1) = false) := Lib.hid (by unfold inB; simp; omega)
            clear hx
            generalize Pl.args (Pl.ari xs) t p = L at *
            go_wp2_with fail
            refine (l1In_any _ _ _ _).mono ?_
            rintro e w3 ⟨rfl, rfl⟩
            rw [HB.out]
            go_wp2_with fail
            go_ret
            exact ⟨ret_int HV.out.symm, below_then hB hB2 hB.size⟩
        · have HV := Lib.hid (hg.out.symm.trans (goTo_no (ar := xs) (t := t) (p := p) (by rw [hl2]; exact hlt) hx.out (by omega)))
          have HB : Hid (inB x 0 (((Pl.args (Pl.ari xs) t p).length : Int) - 1) = false) := Lib.hid (by unfold inB; simp; omega)
          clear hx
          generalize Pl.args (Pl.ari xs) t p = L at *
          go_wp2_with fail
          refine (l1In_any _ _ _ _).mono ?_
          rintro e w3 ⟨rfl, rfl⟩
          rw [HB.out]
          go_wp2_with fail
          go_ret
          exact ⟨ret_int HV.out.symm, below_then hB hB2 hB.size⟩
      · have HV := Lib.hid (hg.out.symm.trans (goTo_end (ar := xs) (t := t) (p := p) (k := k) (by omega)))
        go_wp2_with fail
        go_ret
        exact ⟨ret_int HV.out.symm, below_then hB hb hB.size⟩
set_option maxHeartbeats 4000000 in
theorem I_PlaceOf (A : Option Addr) (n c : Nat) (xs : List Int) (B : Option Addr) (m d : Nat) (t : List Int) (C : Option Addr) (r b : Nat) (P : List Int) (w : World) (h : RI w A n xs) (h' : RI w B m t) (h2 : RI w C r P) (hn : n ≤ 1048576) (hm : m ≤ 1048576) (hr : r ≤ 1048576) :
    Calls Try.prog 33 #[.agg #[.slice A n c], .slice B m d, .slice C r b] w fun e w' => e = .returned (.int .i64 (V_PlaceOf xs t P)) ∧ Below w.heap.size w w' := by
  have hl := h'.1
  have hl2 := h2.1
  cases hs : Pl.termOk xs t
  · have HE := placeOf_no (P := P) hs
    rw [HE]
    have HS := Lib.hid hs
    clear hl hl2 HE hs
    go_enter Try.func33, Try.ntmps33
    go_wp2_with fail
    refine (implTermOk_any A n c xs B m d t _ (h.alloc _) (h'.alloc _) (by omega) (by omega)).mono ?_
    rintro e w1 ⟨rfl, hb1⟩
    rw [HS.out]
    have hB : Below w.heap.size w w1 := below_then ((Below.refl _ _).alloc (Nat.le_refl _) _) hb1 (by simp)
    have bx : w1.cell? ⟨w.heap.size, 0, none⟩ = some (.slice A n c) := (hb1.cell (by simp)).trans (by simp)
    replace h := (h.alloc _).below hb1
    replace h' := (h'.alloc _).below hb1
    clear hb1
    go_wp2_with fail
    go_ret
    exact ⟨rfl, hB⟩
  · have HE := Lib.hid (placeOf_yes (P := P) hs)
    have hm60 : m ≤ 60 := by have := (Pl.termOk_iff.1 hs).2.1.2; omega
    have h0 : 0 < m := by have := (Pl.termOk_iff.1 hs).2.1.1; omega
    have HS := Lib.hid hs
    clear hs
    obtain ⟨V, hV⟩ : ∃ V, V = V_PlaceOf xs t P := ⟨_, rfl⟩
    rw [← hV] at HE ⊢
    clear hV
    go_enter Try.func33, Try.ntmps33
    go_wp2_with fail
    refine (implTermOk_any A n c xs B m d t _ (h.alloc _) (h'.alloc _) (by omega) (by omega)).mono ?_
    rintro e w1 ⟨rfl, hb1⟩
    rw [HS.out]
    replace h2 := (h2.alloc _).below hb1
    have hB : Below w.heap.size w w1 := below_then ((Below.refl _ _).alloc (Nat.le_refl _) _) hb1 (by simp)
    have bx : w1.cell? ⟨w.heap.size, 0, none⟩ = some (.slice A n c) := (hb1.cell (by simp)).trans (by simp)
    replace h := (h.alloc _).below hb1
    replace h' := (h'.alloc _).below hb1
    clear hb1
    go_wp2_with fail
    go_loopw [7, 17, 9, 10] (fun u i _ _ wr => ∃ k p : Nat, k ≤ r ∧ p < m ∧ i = .int .i64 k ∧ u = .int .i64 p ∧ Hid (goTo xs t (P.drop k) p = V) ∧ Below w1.heap.size w1 wr) (fun _ i _ _ _ => r - (intOf i).toNat)
    case atStart => exact ⟨0, 0, Nat.zero_le _, h0, rfl, rfl, HE, Below.refl _ _⟩
    case round =>
      obtain ⟨k, p, hk, hp, rfl, rfl, hg, hb⟩ := hrel
      have hbx := keepC hb bx
      by_cases hlt : k < r
      · obtain ⟨g, off, x, rfl, hc, hx⟩ := (h2.below hb).at_ hlt
        go_wp2_with fail
        refine (argsAt_any A n c xs B m d t p _ (h.below hb) (h'.below hb) HS.out hp hm hn).mono ?_
        rintro e w2 ⟨A', c', rfl, ho, hb2⟩
        have hR := ho.ri
        have hal := args_len HS.out p
        have hB2 := hb.trans (hb2.mono hb.size)
        clear ho hb2 hbx hb hc
        by_cases hx1 : 0 ≤ x
        · by_cases hx2 : x < ((Pl.args (Pl.ari xs) t p).length : Int)
          · obtain ⟨i, rfl⟩ : ∃ i : Nat, x = i := ⟨x.toNat, by omega⟩
            have hil : i < (Pl.args (Pl.ari xs) t p).length := by omega
            have hst := Lib.hid (goTo_yes (ar := xs) (t := t) (p := p) (by rw [hl2]; exact hlt) hx.out hil)
            have hqm := args_lt HS.out (p := p) (by rw [hl]; exact hp) hil
            rw [hl] at hqm
            obtain ⟨g2, off2, y, rfl, hc2, hy⟩ := hR.at_ (k := i) hil
            have hyn : y = ((Pl.args (Pl.ari xs) t p).getD i 0 : Nat) := by rw [hy.out, nats_getD _ _ hil]
            obtain ⟨q, hq⟩ : ∃ q : Nat, q = (Pl.args (Pl.ari xs) t p).getD i 0 := ⟨_, rfl⟩
            rw [← hq] at hyn hst hqm
            subst hyn
            clear hx hy hq
            generalize Pl.args (Pl.ari xs) t p = L at *
            have hi0 : ¬ (i : Int) < 0 := by omega
            have hi2 : ¬ (i : Int) ≥ (L.length : Int) := by omega
            go_wp2_with fail
            go_roundw
            case rel => exact ⟨k + 1, q, by omega, hqm, by go_num, rfl, Lib.hid (hst.out.symm.trans hg.out), hB2⟩
            case measure => simp [intOf]; omega
          · have HV := Lib.hid (hg.out.symm.trans (goTo_no (ar := xs) (t := t) (p := p) (by rw [hl2]; exact hlt) hx.out (by omega)))
            clear hx
            generalize Pl.args (Pl.ari xs) t p = L at *
            go_wp2_with fail
            go_ret
            exact ⟨ret_int HV.out.symm, below_then hB hB2 hB.size⟩
        · have HV := Lib.hid (hg.out.symm.trans (goTo_no (ar := xs) (t := t) (p := p) (by rw [hl2]; exact hlt) hx.out (by omega)))
          clear hx
          generalize Pl.args (Pl.ari xs) t p = L at *
          go_wp2_with fail
          go_ret
          exact ⟨ret_int HV.out.symm, below_then hB hB2 hB.size⟩
      · have HV := Lib.hid (hg.out.symm.trans (goTo_end (ar := xs) (t := t) (p := p) (k := k) (by omega)))
        go_wp2_with fail
        go_ret
        exact ⟨ret_int HV.out.symm, below_then hB hb hB.size⟩
end Go.Proofs.Ytihgolhpdnoooaa
