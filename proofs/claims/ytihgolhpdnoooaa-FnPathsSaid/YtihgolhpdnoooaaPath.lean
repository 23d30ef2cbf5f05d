/- Contracts: paths. -/
import Derived.Test.YtihgolhpdnoooaaArgs
import Derived.Deep.LoopGhost
namespace Go.Proofs.Ytihgolhpdnoooaa
open Go.RowKit
set_option linter.unusedVariables false

/-- Where the way down stands. -/
def Way (ar t : List Int) (x : Nat) (all done : List Nat) (q : Nat) : Prop :=
  done ++ Pl.pathF (Pl.ari ar) t x (x - q) q = all ∧ q ≤ x ∧ x < Pl.fin (Pl.ari ar) t q ∧ q < t.length
theorem Way.start {ar t : List Int} (hT : Pl.termOk ar t = true) {x : Nat} (hx : x < t.length) : Way ar t x (Pl.path (Pl.ari ar) t x) [] 0 := by
  have hr := (Pl.termOk_iff.1 hT).2.2
  have hl := (Pl.termOk_iff.1 hT).2.1
  have h0 : Pl.fin (Pl.ari ar) t 0 = t.length := by unfold Pl.fin; rw [List.drop_zero, hr]; simp
  refine ⟨?_, by omega, by omega, by omega⟩
  rw [List.nil_append, Pl.path]
  exact Pl.pathF_fuel hr _ _ 0 (by omega) (by omega) (by omega) (by omega) (by omega)
theorem Way.done_ {ar t : List Int} {x : Nat} {all done : List Nat} (h : Way ar t x all done x) : done = all := by
  have := h.1; rw [Pl.pathF_here] at this; simpa using this
theorem Way.step {ar t : List Int} (hT : Pl.termOk ar t = true) {x q : Nat} {all done : List Nat} (h : Way ar t x all done q) (hq : q ≠ x) :
    ∃ i r, Pl.pick (Pl.ari ar) t x (Pl.args (Pl.ari ar) t q) 0 = some (i, r) ∧ q < r ∧ r ≤ x ∧ Way ar t x all (done ++ [i]) r ∧ (∀ y ∈ Pl.args (Pl.ari ar) t q, y < t.length) := by
  obtain ⟨h1, h2, h3, h4⟩ := h
  have hr := (Pl.termOk_iff.1 hT).2.2
  obtain ⟨i, r, g1, g2, g3, g4, g5, g6, g7, g8⟩ := Pl.pathF_step hr h4 (by omega) h3
  refine ⟨i, r, g1, g2, g3, ⟨?_, g3, g4, g5⟩, fun y hy => (Pl.args_mem hr h4 y hy).2.2.1⟩
  rw [← h1, show x - q = (x - q - 1) + 1 by omega, g8, List.append_assoc, List.singleton_append]
  rw [Pl.pathF_fuel hr (x - r) (x - q - 1) r g5 g3 g4 (by omega) (by omega)]
theorem Way.len {ar t : List Int} {x q : Nat} {all done : List Nat} (h : Way ar t x all done q) (ha : all.length ≤ 60) : done.length ≤ 60 := by
  have := congrArg List.length h.1
  rw [List.length_append] at this
  omega

theorem pick_no {f : Int → Int} {t : List Int} {x j i r : Nat} {L : List Nat} (h : Pl.pick f t x (L.drop j) j = some (i, r)) (hj : j < L.length) (hh : Pl.holds f t (L.getD j 0) x = false) : Pl.pick f t x (L.drop (j + 1)) (j + 1) = some (i, r) := by
  rw [List.drop_eq_getElem_cons hj] at h
  unfold Pl.pick at h
  rw [List.getD_eq_getElem?_getD, List.getElem?_eq_getElem hj, Option.getD_some] at hh
  rw [if_neg (by rw [hh]; simp)] at h
  exact h
theorem pick_yes {f : Int → Int} {t : List Int} {x j i r : Nat} {L : List Nat} (h : Pl.pick f t x (L.drop j) j = some (i, r)) (hj : j < L.length) (hh : Pl.holds f t (L.getD j 0) x = true) : i = j ∧ r = L.getD j 0 := by
  rw [List.drop_eq_getElem_cons hj] at h
  unfold Pl.pick at h
  rw [List.getD_eq_getElem?_getD, List.getElem?_eq_getElem hj, Option.getD_some] at hh ⊢
  rw [if_pos hh] at h
  simp only [Option.some.injEq, Prod.mk.injEq] at h
  exact ⟨h.1.symm, h.2.symm⟩
theorem pick_end {f : Int → Int} {t : List Int} {x j i r : Nat} {L : List Nat} (h : Pl.pick f t x (L.drop j) j = some (i, r)) : j < L.length := by
  rcases Nat.lt_or_ge j L.length with hj | hj
  · exact hj
  · rw [List.drop_eq_nil_of_le hj] at h; simp [Pl.pick] at h

set_option maxHeartbeats 4000000 in
set_option maxRecDepth 20000 in
theorem l3Path_any (A : Option Addr) (n c : Nat) (xs : List Int) (B : Option Addr) (m d : Nat) (t : List Int) (x : Nat) (w : World)
    (h : RI w A n xs) (h' : RI w B m t) (hT : Pl.termOk xs t = true) (hx : x < m) (hm : m ≤ 1048576) (hn : n ≤ 1048576) :
    Calls Try.prog 102 #[.agg #[.slice A n c], .slice B m d, .int .i64 x] w fun e w' => ∃ A' c', e = .returned (.slice A' (Pl.path (Pl.ari xs) t x).length c') ∧ OI w' w.heap.size A' (Pl.path (Pl.ari xs) t x).length c' (nats (Pl.path (Pl.ari xs) t x)) ∧ Below w.heap.size w w' := by
  obtain ⟨i0, hi, hz0, hz1, hz2⟩ := info_parts infoInt64
  have hst := Lib.hid (Way.start hT (x := x) (by rw [h'.1]; exact hx))
  have hpl : (Pl.path (Pl.ari xs) t x).length ≤ 60 := by
    have := Pl.pathF_len (f := Pl.ari xs) (t := t) x t.length 0
    have := (Pl.termOk_iff.1 hT).2.1
    unfold Pl.path; omega
  have HT := Lib.hid hT
  clear hT
  generalize hP : Pl.path (Pl.ari xs) t x = P at *
  have HP := Lib.hid hP
  clear hP
  go_enter Try.func102, Try.ntmps102
  go_wp2_with fail
  have W0b : Below w.heap.size w ((w.alloc (.cells #[.slice A n c] 26)).alloc (.cells #[] 2)) := ((Below.refl _ _).alloc (Nat.le_refl _) _).alloc (by simp) _
  have hbox : ((w.alloc (.cells #[.slice A n c] 26)).alloc (.cells #[] 2)).cell? ⟨w.heap.size, 0, none⟩ = some (.slice A n c) := by simp
  have hO : OI ((w.alloc (.cells #[.slice A n c] 26)).alloc (.cells #[] 2)) (w.heap.size + 1) (some ⟨w.heap.size + 1, 0, none⟩) 0 0 [] := by
    have := OI.empty (w.alloc (.cells #[.slice A n c] 26)) (B := w.heap.size + 1) (by simp)
    simpa only [World.size_alloc] using this
  have HO := Lib.hid hO
  have hsz : w.heap.size < ((w.alloc (.cells #[.slice A n c] 26)).alloc (.cells #[] 2)).heap.size := by simp; omega
  clear hO
  generalize (w.alloc (.cells #[.slice A n c] 26)).alloc (.cells #[] 2) = W0 at *
  go_loopw [7, 8, 9, 10] (fun u v _ _ wr => ∃ (done : List Nat) (q : Nat) (A2 : Option Addr) (c2 : Nat), u = .slice A2 done.length c2 ∧ v = .int .i64 q ∧ Hid (Way xs t x P done q) ∧ Hid (OI wr (w.heap.size + 1) A2 done.length c2 (nats done)) ∧ Below w.heap.size w wr ∧ wr.cell? ⟨w.heap.size, 0, none⟩ = some (.slice A n c) ∧ w.heap.size < wr.heap.size) (fun _ v _ _ _ => x - (intOf v).toNat)
  case atStart => exact ⟨[], 0, _, _, rfl, rfl, hst, HO, W0b, hbox, hsz⟩
  case round =>
    obtain ⟨done, q, A2, c2, rfl, rfl, hway, ho, hb, hbx, hsz⟩ := hrel
    have hdl := hway.out.len hpl
    by_cases hqx : q = x
    · subst hqx
      have hd := Lib.hid hway.out.done_
      go_wp2
      go_ret
      rw [← hd.out]
      exact ⟨A2, c2, rfl, ho.out.base (by omega), hb⟩
    · have hne : ((q : Int) != (x : Int)) = true := by simp; omega
      have hqm : q < m := by have := hway.out.2.2.2; rw [h'.1] at this; exact this
      obtain ⟨i, r, g1, g2, g3, g4, g5⟩ := hway.out.step HT.out hqx
      have G1 := Lib.hid g1
      have G4 := Lib.hid g4
      have G5 := Lib.hid g5
      clear g1 g4 g5 hqx
      go_wp2_with fail
      refine (l1Args_any A n c xs B m d t q _ (h.below hb) (h'.below hb) HT.out hqm hm hn).mono ?_
      rintro e w3 ⟨A3, c3, rfl, ho3, hb3⟩
      have HX3 := Lib.hid (ho3.hi_ (Nat.le_refl _))
      have hX2 := Lib.hid ((ho.out.hi_ (Nat.le_refl _)).below hb3)
      have hbx3 := keepC hb3 hbx
      have hB3 := below_then hb hb3 hb.size
      have hsz3 := hb3.size
      have hal := args_len HT.out q
      obtain ⟨wo, hwo⟩ : ∃ wo : World, wo = wr := ⟨_, rfl⟩
      subst hwo
      clear ho3 hb3 hbx hb ho
      generalize hL : Pl.args (Pl.ari xs) t q = L at *
      have HL := Lib.hid hL
      clear hL
      go_wp2_with fail
      go_loopw [7, 8, 10] (fun u v k wz => ∃ j : Nat, k = .int .i64 j ∧ u = .slice A2 done.length c2 ∧ v = .int .i64 q ∧ Hid (Pl.pick (Pl.ari xs) t x (L.drop j) j = some (i, r)) ∧ Below w3.heap.size w3 wz) (fun _ _ k _ => L.length - (intOf k).toNat)
      case atStart => exact ⟨0, rfl, rfl, rfl, G1, Below.refl _ _⟩
      case round =>
        obtain ⟨j, rfl, rfl, rfl, hpk, hz⟩ := hrel
        have hjl := pick_end hpk.out
        obtain ⟨g, off, y', hA3, hc, hy⟩ := (HX3.out.rd.below hz).at_ (k := j) hjl
        obtain ⟨y, hyn⟩ : ∃ y : Nat, y = L.getD j 0 := ⟨_, rfl⟩
        have hyy : y' = (y : Int) := by rw [hy.out, nats_getD _ _ hjl, hyn]
        subst hyy
        have hym : y < m := by
          have := G5.out y (by rw [hyn, List.getD_eq_getElem?_getD, List.getElem?_eq_getElem hjl, Option.getD_some]; exact List.getElem_mem hjl)
          rwa [h'.1] at this
        have HY := Lib.hid hyn
        have hj0 : (0 : Int) ≤ (j : Int) := by omega
        have hj1 : (j : Int) < (L.length : Int) := by omega
        have hbz := keepC hz hbx3
        clear hyn hy
        subst hA3
        have hBz := below_then hB3 hz hB3.size
        cases hh : Pl.holds (Pl.ari xs) t y x
        · have HN := Lib.hid (pick_no hpk.out hjl (by rw [← HY.out]; exact hh))
          have HH := Lib.hid hh
          clear hh
          go_wp2_with fail
          go_region_held3 (fun w' => Below wr.heap.size wr w' ∧ w'.cell? ⟨w.heap.size, 0, none⟩ = some (.slice A n c) ∧ w'.cell? ⟨g, off + j, none⟩ = some (.int .i64 y))
            (first | exact ⟨(Below.refl _ _).drew, hbz, hc⟩ | exact keepS2 ha1 (by assumption))
            ((go_at_call 142; refine (l3Inside_any A n c xs _ m d t y x _ ?_ ?_ HT.out hym hx hm).mono ?_; exact riS (h.below hBz) (by assumption); exact riS (h'.below hBz) (by assumption); rintro e wa ⟨rfl, ha1⟩))
          rename_i hS
          have hb5 := hS.1
          clear hS ha1
          rw [HH.out]
          go_wp2_with fail
          go_roundw
          case rel => exact ⟨j + 1, by go_num, rfl, rfl, HN, below_then hz hb5 hz.size⟩
          case measure => simp [intOf]; omega
        · obtain ⟨hij, hry⟩ := pick_yes hpk.out hjl (by rw [← HY.out]; exact hh)
          rw [← HY.out] at hry
          subst hij hry
          have HH := Lib.hid hh
          clear hh
          go_wp2_with fail
          go_region_held3 (fun w' => Below wr.heap.size wr w' ∧ w'.cell? ⟨w.heap.size, 0, none⟩ = some (.slice A n c) ∧ w'.cell? ⟨g, off + i, none⟩ = some (.int .i64 r))
            (first | exact ⟨(Below.refl _ _).drew, hbz, hc⟩ | exact keepS2 ha1 (by assumption))
            ((go_at_call 142; refine (l3Inside_any A n c xs _ m d t r x _ ?_ ?_ HT.out hym hx hm).mono ?_; exact riS (h.below hBz) (by assumption); exact riS (h'.below hBz) (by assumption); rintro e wa ⟨rfl, ha1⟩))
          rename_i hS
          obtain ⟨hb5, hbx5, hc5⟩ := hS
          clear ha1
          rw [HH.out]
          have hX5 := Lib.hid ((hX2.out.below hz).below hb5)
          have hXR := Lib.hid ((HX3.out.below hz).below hb5)
          have howa := Lib.hid (ownsRow_below hX5.out.1 ((Below.refl _ wa).alloc (Nat.le_refl _) (.cells #[.int .i64 i] 2)))
          have hsz5 : w.heap.size + 1 ≤ wa.heap.size := by have := hz.size; have := hb5.size; omega
          clear hc hbz
          go_wp2_with (at_builtin; refine wpList_append_any rfl _ _ 24 rfl (w.heap.size + 1) 2 i0 (.int .i64 0) 1 8 Try.underlying24 hi hz0 hz1 hz2 rfl (by omega) A2 done.length c2 ((nats done).map (Value.int .i64)) rfl howa.out _ 1 _ [.int .i64 i] rfl (Src.new _ [.int .i64 i] _ 1 1 rfl (by simp [Value.oneCell'])) (by unfold maxLen; omega) (by omega) (by simp; omega) ?_; intro A4 c4 w4 ho4 hg hnil; have hon := app_only hg howa.out hX5.out.2; have hc6 := keepO hon (by
            obtain ⟨g', off', e1, hc'⟩ := hXR.out.rd.2 (by omega)
            have e2 := hXR.out.1.lt g rfl
            right; exact e2.1) hc5)
          have hB5 := below_then hBz hb5 hBz.size
          have hB6 := hB5.trans (hon.below (B := w.heap.size) (by omega) (by omega))
          have hbx6 := keepO hon (Or.inl (by simp)) hbx5
          have hsz6 := hon.size
          go_roundw
          case rel => exact ⟨done ++ [i], r, A4, c4, by simp, rfl, G4, oi_nats ho4, hB6, hbx6, by omega⟩
          case measure => simp [intOf]; omega
set_option maxHeartbeats 4000000 in
set_option maxRecDepth 20000 in
theorem pathTo_any (A : Option Addr) (n c : Nat) (xs : List Int) (B : Option Addr) (m d : Nat) (t : List Int) (x : Nat) (w : World)
    (h : RI w A n xs) (h' : RI w B m t) (hT : Pl.termOk xs t = true) (hx : x < m) (hm : m ≤ 1048576) (hn : n ≤ 1048576) :
    Calls Try.prog 99 #[.agg #[.slice A n c], .slice B m d, .int .i64 x] w fun e w' => ∃ A' c', e = .returned (.slice A' (Pl.path (Pl.ari xs) t x).length c') ∧ OI w' w.heap.size A' (Pl.path (Pl.ari xs) t x).length c' (nats (Pl.path (Pl.ari xs) t x)) ∧ Below w.heap.size w w' := by
  obtain ⟨i0, hi, hz0, hz1, hz2⟩ := info_parts infoInt64
  have hst := Lib.hid (Way.start hT (x := x) (by rw [h'.1]; exact hx))
  have hpl : (Pl.path (Pl.ari xs) t x).length ≤ 60 := by
    have := Pl.pathF_len (f := Pl.ari xs) (t := t) x t.length 0
    have := (Pl.termOk_iff.1 hT).2.1
    unfold Pl.path; omega
  have HT := Lib.hid hT
  clear hT
  generalize hP : Pl.path (Pl.ari xs) t x = P at *
  have HP := Lib.hid hP
  clear hP
  go_enter Try.func99, Try.ntmps99
  go_wp2
  go_step3
  go_wp2_with fail
  have W0b : Below w.heap.size w (w.alloc (.cells #[.slice A n c] 26)) := (Below.refl _ _).alloc (Nat.le_refl _) _
  have hbox : (w.alloc (.cells #[.slice A n c] 26)).cell? ⟨w.heap.size, 0, none⟩ = some (.slice A n c) := by simp
  have hO : OI (w.alloc (.cells #[.slice A n c] 26)) (w.heap.size + 1) none 0 0 [] := World.ownsRow_nil _ _ _ _
  have HO := Lib.hid hO
  have hsz : w.heap.size < (w.alloc (.cells #[.slice A n c] 26)).heap.size := by simp
  clear hO
  generalize w.alloc (.cells #[.slice A n c] 26) = W0 at *
  go_step3
  go_wp2
  go_loopg [7, 8, 9, 10, 19] x (fun g u v _ _ _ wr => ∃ (done : List Nat) (q : Nat) (A2 : Option Addr) (c2 : Nat), Hid (x = q + g) ∧ u = .slice A2 done.length c2 ∧ v = .int .i64 q ∧ Hid (Way xs t x P done q) ∧ Hid (OI wr (w.heap.size + 1) A2 done.length c2 (nats done)) ∧ Below w.heap.size w wr ∧ wr.cell? ⟨w.heap.size, 0, none⟩ = some (.slice A n c) ∧ w.heap.size < wr.heap.size)
  case atStart => exact ⟨[], 0, _, _, Lib.hid (by omega), rfl, rfl, hst, HO, W0b, hbox, hsz⟩
  case round =>
    obtain ⟨done, q, A2, c2, hxq, rfl, rfl, hway, ho, hb, hbx, hsz⟩ := hrel
    have hdl := hway.out.len hpl
    by_cases hqx : q = x
    · subst hqx
      have hd := Lib.hid hway.out.done_
      go_wp2
      try rw [Exit.noGoto_ret]
      go_ret
      rw [← hd.out]
      exact ⟨A2, c2, rfl, ho.out.base (by omega), hb⟩
    · have hne : ((q : Int) != (x : Int)) = true := by simp; omega
      have hqm : q < m := by have := hway.out.2.2.2; rw [h'.1] at this; exact this
      obtain ⟨i, r, g1, g2, g3, g4, g5⟩ := hway.out.step HT.out hqx
      have G1 := Lib.hid g1
      have G4 := Lib.hid g4
      have G5 := Lib.hid g5
      clear g1 g4 g5 hqx
      go_wp2_with fail
      refine (argsAt_any A n c xs B m d t q _ (h.below hb) (h'.below hb) HT.out hqm hm hn).mono ?_
      rintro e w3 ⟨A3, c3, rfl, ho3, hb3⟩
      have HR3 := Lib.hid ho3.ri
      have hO2 : Hid (OI w3 (w.heap.size + 1) A2 done.length c2 (nats done)) := ho.out.below hb3
      have hbx3 := keepC hb3 hbx
      have hB3 := below_then hb hb3 hb.size
      have hsz3 := hb3.size
      have hal := args_len HT.out q
      obtain ⟨wo, hwo⟩ : ∃ wo : World, wo = wr := ⟨_, rfl⟩
      subst hwo
      obtain ⟨go, hgo⟩ : ∃ go : Nat, go = gk := ⟨_, rfl⟩
      subst hgo
      clear ho3 hb3 hbx hb ho
      generalize hL : Pl.args (Pl.ari xs) t q = L at *
      have HL := Lib.hid hL
      clear hL
      go_wp2_with fail
      go_loopg [7, 8, 9, 10, 19] L.length (fun g2 u v _ _ k wz => ∃ j : Nat, Hid (j + g2 = L.length) ∧ k = .int .i64 j ∧ u = .slice A2 done.length c2 ∧ v = .int .i64 q ∧ Hid (Pl.pick (Pl.ari xs) t x (L.drop j) j = some (i, r)) ∧ Below w3.heap.size w3 wz)
      case atStart => exact ⟨0, Lib.hid (by omega), rfl, rfl, rfl, G1, Below.refl _ _⟩
      case round =>
        obtain ⟨j, hjg, rfl, rfl, rfl, hpk, hz⟩ := hrel
        have hjl := pick_end hpk.out
        obtain ⟨g, off, y', hA3, hc, hy⟩ := (HR3.out.below hz).at_ (k := j) hjl
        obtain ⟨y, hyn⟩ : ∃ y : Nat, y = L.getD j 0 := ⟨_, rfl⟩
        have hyy : y' = (y : Int) := by rw [hy.out, nats_getD _ _ hjl, hyn]
        subst hyy
        have hym : y < m := by
          have := G5.out y (by rw [hyn, List.getD_eq_getElem?_getD, List.getElem?_eq_getElem hjl, Option.getD_some]; exact List.getElem_mem hjl)
          rwa [h'.1] at this
        have HY := Lib.hid hyn
        have hj0 : (0 : Int) ≤ (j : Int) := by omega
        have hj1 : (j : Int) < (L.length : Int) := by omega
        have hbz := keepC hz hbx3
        clear hyn hy
        subst hA3
        have hBz := below_then hB3 hz hB3.size
        cases hh : Pl.holds (Pl.ari xs) t y x
        · have HN := Lib.hid (pick_no hpk.out hjl (by rw [← HY.out]; exact hh))
          have HH := Lib.hid hh
          clear hh
          go_wp2_with fail
          refine (inside_any A n c xs _ m d t y x _ (h.below hBz) (h'.below hBz) HT.out hym hm).mono ?_
          rintro e wa ⟨rfl, hb5⟩
          rw [HH.out]
          go_wp2_with fail
          go_roundg (L.length - (j + 1))
          case rel => exact ⟨j + 1, Lib.hid (by omega), by go_num, rfl, rfl, HN, below_then hz hb5 hz.size⟩
          case measure => have := hjg.out; omega
        · obtain ⟨hij, hry⟩ := pick_yes hpk.out hjl (by rw [← HY.out]; exact hh)
          rw [← HY.out] at hry
          subst hij hry
          have HH := Lib.hid hh
          clear hh
          go_wp2_with fail
          refine (inside_any A n c xs _ m d t r x _ (h.below hBz) (h'.below hBz) HT.out hym hm).mono ?_
          rintro e wa ⟨rfl, hb5⟩
          rw [HH.out]
          have hX5 : Hid (OI wa (w.heap.size + 1) A2 done.length c2 (nats done)) := (hO2.out.below hz).below hb5
          have hbx5 := keepC hb5 hbz
          have howa := Lib.hid (ownsRow_below hX5.out ((Below.refl _ wa).alloc (Nat.le_refl _) (.cells #[.int .i64 i] 2)))
          have hsz5 : w.heap.size + 1 ≤ wa.heap.size := by have := hz.size; have := hb5.size; omega
          have hB5 := below_then hBz hb5 hBz.size
          clear hc hbz hb5
          go_wp2_with (at_builtin; refine wpList_append_any rfl _ _ 24 rfl (w.heap.size + 1) 2 i0 (.int .i64 0) 1 8 Try.underlying24 hi hz0 hz1 hz2 rfl (by omega) A2 done.length c2 ((nats done).map (Value.int .i64)) rfl howa.out _ 1 _ [.int .i64 i] rfl (Src.new _ [.int .i64 i] _ 1 1 rfl (by simp [Value.oneCell'])) (by unfold maxLen; omega) (by omega) (by simp; omega) ?_; intro A4 c4 w4 ho4 hg hnil; have hgb := app_below hg howa.out hsz5; have hbx6 := (hgb.cell (p := ⟨w.heap.size, 0, none⟩) (by simp)).trans hbx5)
          have hB6 := hB5.trans (hgb.mono (by omega))
          have hsz6 := hgb.size
          go_roundg (x - r)
          case rel => exact ⟨done ++ [i], r, A4, c4, Lib.hid (by omega), by simp, rfl, G4, oi_nats ho4, hB6, hbx6, by omega⟩
          case measure => have := hxq.out; omega
def V_PathOf (xs t : List Int) (p : Int) : List Int := if Pl.posOk xs t p then nats (Pl.path (Pl.ari xs) t p.toNat) else []
theorem pathOf_no {xs t : List Int} {p : Int} (h : Pl.posOk xs t p = false) : V_PathOf xs t p = [] := by unfold V_PathOf; rw [h]; rfl
theorem pathOf_yes {xs t : List Int} {k : Nat} (h : Pl.posOk xs t k = true) : V_PathOf xs t k = nats (Pl.path (Pl.ari xs) t k) := by unfold V_PathOf; rw [h]; rfl
theorem bd_PathOf (xs t : List Int) (p : Int) : (V_PathOf xs t p).length ≤ 60 := by
  unfold V_PathOf
  split
  · rename_i h
    have h1 := (Pl.posOk_iff.1 h).1
    have := Pl.pathF_len (f := Pl.ari xs) (t := t) p.toNat t.length 0
    have := (Pl.termOk_iff.1 h1).2.1
    rw [nats_length]; unfold Pl.path; omega
  · simp
set_option maxHeartbeats 400000 in
theorem S_PathOf (A : Option Addr) (n c : Nat) (xs : List Int) (B : Option Addr) (m d : Nat) (t : List Int) (p : Int) (w : World) (h : RI w A n xs) (h' : RI w B m t) (hn : n ≤ 1048576) (hm : m ≤ 1048576) :
    Calls Try.prog 38 #[.agg #[.slice A n c], .slice B m d, .int .i64 p] w fun e w' => ∃ A' c', e = .returned (.slice A' (V_PathOf xs t p).length c') ∧ OI w' w.heap.size A' (V_PathOf xs t p).length c' (V_PathOf xs t p) ∧ Below w.heap.size w w' := by
  have hl := h'.1
  cases hs : Pl.posOk xs t p
  · have HE := pathOf_no hs
    rw [HE]
    have HS := Lib.hid hs
    clear hl HE hs
    go_enter Try.func38, Try.ntmps38
    go_wp2_with fail
    refine (l3Right_any A n c xs B m d t p _ (h.alloc _) (h'.alloc _) hn hm).mono ?_
    rintro e w1 ⟨rfl, hb1⟩
    rw [HS.out]
    have hB : Below w.heap.size w w1 := below_then ((Below.refl _ _).alloc (Nat.le_refl _) _) hb1 (by simp)
    have bx : w1.cell? ⟨w.heap.size, 0, none⟩ = some (.slice A n c) := (hb1.cell (by simp)).trans (by simp)
    replace h := (h.alloc _).below hb1
    replace h' := (h'.alloc _).below hb1
    clear hb1
    go_wp2_with fail
    go_ret
    exact ⟨_, _, rfl, OI.empty w1 hB.size, hB.alloc hB.size _⟩
  · obtain ⟨k, rfl, hk, hT⟩ := Pl.posOk_nat hs
    rw [hl] at hk
    have HE := pathOf_yes hs
    rw [HE, nats_length]
    have HT := Lib.hid hT
    have HS := Lib.hid hs
    clear hl hT HE hs
    go_enter Try.func38, Try.ntmps38
    go_wp2_with fail
    refine (l3Right_any A n c xs B m d t k _ (h.alloc _) (h'.alloc _) hn hm).mono ?_
    rintro e w1 ⟨rfl, hb1⟩
    rw [HS.out]
    have hB : Below w.heap.size w w1 := below_then ((Below.refl _ _).alloc (Nat.le_refl _) _) hb1 (by simp)
    have bx : w1.cell? ⟨w.heap.size, 0, none⟩ = some (.slice A n c) := (hb1.cell (by simp)).trans (by simp)
    replace h := (h.alloc _).below hb1
    replace h' := (h'.alloc _).below hb1
    clear hb1
    go_wp2_with fail
    refine (l3Path_any A n c xs B m d t k _ h h' HT.out hk hm hn).mono ?_
    rintro e w2 ⟨A', c', rfl, ho, hb2⟩
    go_wp2_with fail
    go_ret
    exact ⟨A', c', rfl, ho.base hB.size, below_then hB hb2 hB.size⟩
set_option maxHeartbeats 400000 in
theorem I_PathOf (A : Option Addr) (n c : Nat) (xs : List Int) (B : Option Addr) (m d : Nat) (t : List Int) (p : Int) (w : World) (h : RI w A n xs) (h' : RI w B m t) (hn : n ≤ 1048576) (hm : m ≤ 1048576) :
    Calls Try.prog 34 #[.agg #[.slice A n c], .slice B m d, .int .i64 p] w fun e w' => ∃ A' c', e = .returned (.slice A' (V_PathOf xs t p).length c') ∧ OI w' w.heap.size A' (V_PathOf xs t p).length c' (V_PathOf xs t p) ∧ Below w.heap.size w w' := by
  have hl := h'.1
  cases hs : Pl.posOk xs t p
  · have HE := pathOf_no hs
    rw [HE]
    have HS := Lib.hid hs
    clear hl HE hs
    go_enter Try.func34, Try.ntmps34
    go_wp2_with fail
    refine (posOk_ok A n c xs B m d t p _ (h.alloc _) (h'.alloc _) hn hm).mono ?_
    rintro e w1 ⟨rfl, hb1⟩
    rw [HS.out]
    have hB : Below w.heap.size w w1 := below_then ((Below.refl _ _).alloc (Nat.le_refl _) _) hb1 (by simp)
    have bx : w1.cell? ⟨w.heap.size, 0, none⟩ = some (.slice A n c) := (hb1.cell (by simp)).trans (by simp)
    replace h := (h.alloc _).below hb1
    replace h' := (h'.alloc _).below hb1
    clear hb1
    go_wp2_with fail
    go_ret
    exact ⟨none, 0, rfl, World.ownsRow_nil _ _ _ _, hB⟩
  · obtain ⟨k, rfl, hk, hT⟩ := Pl.posOk_nat hs
    rw [hl] at hk
    have HE := pathOf_yes hs
    rw [HE, nats_length]
    have HT := Lib.hid hT
    have HS := Lib.hid hs
    clear hl hT HE hs
    go_enter Try.func34, Try.ntmps34
    go_wp2_with fail
    refine (posOk_ok A n c xs B m d t k _ (h.alloc _) (h'.alloc _) hn hm).mono ?_
    rintro e w1 ⟨rfl, hb1⟩
    rw [HS.out]
    have hB : Below w.heap.size w w1 := below_then ((Below.refl _ _).alloc (Nat.le_refl _) _) hb1 (by simp)
    have bx : w1.cell? ⟨w.heap.size, 0, none⟩ = some (.slice A n c) := (hb1.cell (by simp)).trans (by simp)
    replace h := (h.alloc _).below hb1
    replace h' := (h'.alloc _).below hb1
    clear hb1
    go_wp2_with fail
    refine (pathTo_any A n c xs B m d t k _ h h' HT.out hk hm hn).mono ?_
    rintro e w2 ⟨A', c', rfl, ho, hb2⟩
    go_wp2_with fail
    go_ret
    exact ⟨A', c', rfl, ho.base hB.size, below_then hB hb2 hB.size⟩
end Go.Proofs.Ytihgolhpdnoooaa
