/- The law FnPlain: whatever the input, it returns true and leaves its argument alone. -/
import Derived.Test.YtihgolhpdnoooaaOpenB
import Derived.Test.YtihgolhpdnoooaaDrawV
import Derived.Test.YtihgolhpdnoooaaFcl
import Derived.Test.YtihgolhpdnoooaaPlu2
import Derived.Test.YtihgolhpdnoooaaPlu3
import Derived.Test.YtihgolhpdnoooaaSubstOk
import Derived.Test.YtihgolhpdnoooaaTop1
import Derived.Test.YtihgolhpdnoooaaDice
import Derived.Test.YtihgolhpdnoooaaRows
import Derived.Deep.RegionHeld3
namespace Go.Proofs.Ytihgolhpdnoooaa.lFnPlain
open Go.RowKit Go.ChangeShapes Go.WideShapes Go.ChangeAt
set_option linter.unusedVariables false
set_option linter.unusedSimpArgs false

/-- As far as the rows have been compared. -/
def al (P Q : List (List Int)) (k : Nat) : Bool := decide (P.length = Q.length) && decide (P.take k = Q.take k)
theorem al_zero (P Q : List (List Int)) : al P Q 0 = decide (P.length = Q.length) := by simp [al]
theorem al_step {P Q : List (List Int)} {k : Nat} (h : al P Q k = true) (hk : k < P.length) : al P Q (k + 1) = decide (P.getD k [] = Q.getD k []) := by
  simp only [al, Bool.and_eq_true, decide_eq_true_eq] at h
  have hkQ : k < Q.length := by omega
  unfold al
  rw [decide_eq_true h.1, Bool.true_and, List.take_succ_eq_append_getElem hk, List.take_succ_eq_append_getElem hkQ, h.2, List.getD_eq_getElem?_getD, List.getD_eq_getElem?_getD, List.getElem?_eq_getElem hk, List.getElem?_eq_getElem hkQ]
  refine decide_eq_decide.2 ⟨fun e => ?_, fun e => ?_⟩
  · simpa using List.append_cancel_left e
  · simp only [Option.getD_some] at e
    rw [e]
theorem al_end (P Q : List (List Int)) : al P Q P.length = decide (P = Q) := by
  by_cases h : P = Q
  · subst h; simp [al]
  · rw [decide_eq_false h]
    unfold al
    rw [Bool.and_eq_false_iff]
    by_cases hl : P.length = Q.length
    · right
      rw [List.take_length, hl, List.take_length]
      exact decide_eq_false h
    · exact .inl (decide_eq_false hl)
theorem al_no {P Q : List (List Int)} {k : Nat} (h : al P Q k = false) : decide (P = Q) = false := by
  rw [decide_eq_false_iff_not]
  rintro rfl
  simp [al] at h
theorem plain_facts {xs : List Int} {x y : List (List Int)} (h1 : substOk xs x = true) (h2 : substOk xs y = true) :
    sameSubst xs x y = decide (V_PlainOf xs x = V_PlainOf xs y) ∧ sameSubst xs (V_PlainOf xs x) x = true ∧ ∀ n, (V_PlainOf xs x).length = n + 1 → ¬ ((V_PlainOf xs x).getD n []).length = 0 := by
  rw [sameSubst_yes h1 h2, plainOf_yes h1, plainOf_yes h2]
  refine ⟨rfl, ?_, fun n hn => ?_⟩
  · rw [sameSubst_yes (plainU_ok h1) h1, plainU_twice]
    exact decide_eq_true rfl
  · unfold plainU at hn ⊢
    exact trimR_last _ hn
set_option maxHeartbeats 8000000 in
set_option maxRecDepth 20000 in
theorem walk (A : Option Addr) (n c : Nat) (w : World) (h : BI w A n) (hn : n ≤ 9223372036854775807) :
    Calls Try.prog 7 #[.slice A n c] w fun e w' => e = .returned (.bool true) ∧ Below w.heap.size w w' := by
  by_cases hb : 4096 < n
  · have E := Lib.hid (decide_eq_true hb)
    go_enter Try.func7, Try.ntmps7
    go_wp2_with fail
    refine (big_any A n c _ hn).mono ?_
    rintro e w1 ⟨rfl, rfl⟩
    rw [E.out]
    go_wp2_with fail
    go_ret
    exact ⟨rfl, Below.refl _ _⟩
  have hn2 : n ≤ 4096 := by omega
  have E := Lib.hid (decide_eq_false hb)
  clear hb
  go_enter Try.func7, Try.ntmps7
  go_wp2_with fail
  refine (big_any A n c _ hn).mono ?_
  rintro e w1 ⟨rfl, rfl⟩
  rw [E.out]
  go_wp2_with fail
  refine (DrawSameSubst_any A n c w h hn2).mono ?_
  rintro e w2 ⟨S, m, d', xs, U, j, b, x, V, k2, v2, y, rfl, hS, hm, ⟨hU, hwx, hj⟩, ⟨hV, hwy, hk2⟩, hB⟩
  clear h
  have bx : (((w2.alloc (.cells #[.slice S m d'] 26)).alloc (.cells #[.slice U j b] 51)).alloc (.cells #[.slice V k2 v2] 51)).cell? ⟨w2.heap.size, 0, none⟩ = some (.slice S m d') := (((Blk.new w2 26 #[.slice S m d']).alloc _).alloc _).cell 0
  have bu : (((w2.alloc (.cells #[.slice S m d'] 26)).alloc (.cells #[.slice U j b] 51)).alloc (.cells #[.slice V k2 v2] 51)).cell? ⟨w2.heap.size + 1, 0, none⟩ = some (.slice U j b) := by
    have := (show _ = some (Value.slice U j b) from ((Blk.new (w2.alloc (.cells #[.slice S m d'] 26)) 51 #[.slice U j b]).alloc (.cells #[.slice V k2 v2] 51)).cell 0)
    simpa only [World.size_alloc] using this
  have bv : (((w2.alloc (.cells #[.slice S m d'] 26)).alloc (.cells #[.slice U j b] 51)).alloc (.cells #[.slice V k2 v2] 51)).cell? ⟨w2.heap.size + 1 + 1, 0, none⟩ = some (.slice V k2 v2) := by
    have := (show _ = some (Value.slice V k2 v2) from (Blk.new ((w2.alloc (.cells #[.slice S m d'] 26)).alloc (.cells #[.slice U j b] 51)) 51 #[.slice V k2 v2]).cell 0)
    simpa only [World.size_alloc] using this
  have hb3 := (((Below.refl w2.heap.size w2).alloc (Nat.le_refl _) (.cells #[.slice S m d'] 26)).alloc (by simp) (.cells #[.slice U j b] 51)).alloc (by simp; omega) (.cells #[.slice V k2 v2] 51)
  go_wp2_with fail
  replace hS := hS.below hb3
  replace hU := hU.below hb3
  replace hV := hV.below hb3
  replace hB := below_then hB hb3 hB.size
  clear hb3
  generalize ((w2.alloc (.cells #[.slice S m d'] 26)).alloc (.cells #[.slice U j b] 51)).alloc (.cells #[.slice V k2 v2] 51) = W2 at *
  generalize w2.heap.size = G at *
  have hP24 := bd_PlainOf xs x
  have hPw := bw_PlainOf xs x
  have hQ24 := bd_PlainOf xs y
  have hQw := bw_PlainOf xs y
  have HF := Lib.hid (fun h1 h2 => plain_facts (xs := xs) (x := x) (y := y) h1 h2)
  have HN1 := Lib.hid (fun h1 => sameSubst_no1 (xs := xs) (x := x) (y := y) h1)
  have HN2 := Lib.hid (fun h1 h2 => sameSubst_no2 (xs := xs) (x := x) (y := y) h1 h2)
  refine (I_PlainOf S m d' xs U j b x W2 hS hU (by omega) (by omega)).mono ?_
  rintro e w3 ⟨P, cp, rfl, hP, hb4⟩
  replace hS := hS.below hb4
  replace hU := hU.below hb4
  replace hV := hV.below hb4
  replace bx := keepC hb4 bx
  replace bu := keepC hb4 bu
  replace bv := keepC hb4 bv
  replace hB := below_then hB hb4 hB.size
  clear hb4
  generalize hPe : V_PlainOf xs x = p at *
  have bp : (w3.alloc (.cells #[.slice P p.length cp] 51)).cell? ⟨w3.heap.size, 0, none⟩ = some (.slice P p.length cp) := (Blk.new w3 51 #[.slice P p.length cp]).cell 0
  have hb5 := (Below.refl w3.heap.size w3).alloc (Nat.le_refl _) (.cells #[.slice P p.length cp] 51)
  have bx2 := keepC hb5 bx
  have bv2 := keepC hb5 bv
  go_wp2_with fail
  clear bx2 bv2
  replace hS := hS.below hb5
  replace hU := hU.below hb5
  replace hV := hV.below hb5
  replace hP := hP.below hb5
  replace bx := keepC hb5 bx
  replace bu := keepC hb5 bu
  replace bv := keepC hb5 bv
  replace hB := below_then hB hb5 hB.size
  clear hb5
  generalize w3.alloc (.cells #[.slice P p.length cp] 51) = W3 at *
  generalize w3.heap.size = G3 at *
  refine (I_PlainOf S m d' xs V k2 v2 y W3 hS hV (by omega) (by omega)).mono ?_
  rintro e w4 ⟨Q, cq, rfl, hQ, hb6⟩
  replace hS := hS.below hb6
  replace hU := hU.below hb6
  replace hV := hV.below hb6
  replace hP := hP.below hb6
  replace bx := keepC hb6 bx
  replace bu := keepC hb6 bu
  replace bv := keepC hb6 bv
  replace bp := keepC hb6 bp
  replace hB := below_then hB hb6 hB.size
  clear hb6
  generalize hQe : V_PlainOf xs y = q at *
  have bq : (w4.alloc (.cells #[.slice Q q.length cq] 51)).cell? ⟨w4.heap.size, 0, none⟩ = some (.slice Q q.length cq) := (Blk.new w4 51 #[.slice Q q.length cq]).cell 0
  have hb7 := (Below.refl w4.heap.size w4).alloc (Nat.le_refl _) (.cells #[.slice Q q.length cq] 51)
  have bx2 := keepC hb7 bx
  have bu2 := keepC hb7 bu
  have bv2 := keepC hb7 bv
  go_wp2_with fail
  clear bx2 bv2 bu2
  replace hS := hS.below hb7
  replace hU := hU.below hb7
  replace hV := hV.below hb7
  replace hP := hP.below hb7
  replace hQ := hQ.below hb7
  replace bx := keepC hb7 bx
  replace bu := keepC hb7 bu
  replace bv := keepC hb7 bv
  replace bp := keepC hb7 bp
  replace hB := below_then hB hb7 hB.size
  clear hb7
  generalize w4.alloc (.cells #[.slice Q q.length cq] 51) = W4 at *
  generalize w4.heap.size = G4 at *
  refine (I_SameSubst S m d' xs U j b x V k2 v2 y W4 hS hU hV (by omega) (by omega) (by omega)).mono ?_
  rintro e w5 ⟨rfl, hb8⟩
  replace hS := hS.below hb8
  replace hU := hU.below hb8
  replace hV := hV.below hb8
  replace hP := hP.below hb8
  replace hQ := hQ.below hb8
  replace bx := keepC hb8 bx
  replace bu := keepC hb8 bu
  replace bv := keepC hb8 bv
  replace bp := keepC hb8 bp
  replace bq := keepC hb8 bq
  replace hB := below_then hB hb8 hB.size
  clear hb8
  go_wp2_with fail
  refine (S_SameSubst S m d' xs U j b x V k2 v2 y w5 hS hU hV (by omega) (by omega) (by omega)).mono ?_
  rintro e w6 ⟨rfl, hb9⟩
  replace hS := hS.below hb9
  replace hU := hU.below hb9
  replace hV := hV.below hb9
  replace hP := hP.below hb9
  replace hQ := hQ.below hb9
  replace bx := keepC hb9 bx
  replace bu := keepC hb9 bu
  replace bv := keepC hb9 bv
  replace bp := keepC hb9 bp
  replace bq := keepC hb9 bq
  replace hB := below_then hB hb9 hB.size
  clear hb9
  go_wp2_with fail
  refine (S_SubstOk S m d' xs U j b x w6 hS hU (by omega) (by omega)).mono ?_
  rintro e w7 ⟨rfl, hb10⟩
  replace hS := hS.below hb10
  replace hU := hU.below hb10
  replace hV := hV.below hb10
  replace hP := hP.below hb10
  replace hQ := hQ.below hb10
  replace bx := keepC hb10 bx
  replace bu := keepC hb10 bu
  replace bv := keepC hb10 bv
  replace bp := keepC hb10 bp
  replace bq := keepC hb10 bq
  replace hB := below_then hB hb10 hB.size
  clear hb10
  cases hx : substOk xs x
  · rw [HN1.out hx]
    clear hx HN1 HN2 HF
    go_wp2_with fail
    go_ret
    exact ⟨rfl, hB⟩
  go_wp2_with fail
  refine (S_SubstOk S m d' xs V k2 v2 y w7 hS hV (by omega) (by omega)).mono ?_
  rintro e w8 ⟨rfl, hb11⟩
  replace hS := hS.below hb11
  replace hU := hU.below hb11
  replace hV := hV.below hb11
  replace hP := hP.below hb11
  replace hQ := hQ.below hb11
  replace bx := keepC hb11 bx
  replace bu := keepC hb11 bu
  replace bv := keepC hb11 bv
  replace bp := keepC hb11 bp
  replace bq := keepC hb11 bq
  replace hB := below_then hB hb11 hB.size
  clear hb11
  cases hy : substOk xs y
  · rw [HN2.out hx hy]
    clear hx hy HN1 HN2 HF
    go_wp2_with fail
    go_ret
    exact ⟨rfl, hB⟩
  obtain ⟨f1, f2, f3⟩ := HF.out hx hy
  rw [f1]
  have F2 := Lib.hid f2
  have F3 := Lib.hid f3
  clear f1 f2 f3 hx hy HN1 HN2 HF hPe hQe
  obtain ⟨E0, hE0⟩ : ∃ E0, decide (p = q) = E0 := ⟨_, rfl⟩
  rw [hE0]
  have HE0 := Lib.hid hE0
  clear hE0
  have hz1 : (((p.length : Nat) : Int) == ((q.length : Nat) : Int)) = al p q 0 := by
    rw [al_zero]
    by_cases e : p.length = q.length
    · simp [e]
    · rw [decide_eq_false e]; simp; omega
  have hz2 : (p.length == q.length) = al p q 0 := by rw [al_zero]; by_cases e : p.length = q.length <;> simp [e]
  have hz3 : decide (p.length = q.length) = al p q 0 := by rw [al_zero]
  go_wp2_with fail
  clear hz1 hz2 hz3
  obtain ⟨r, hr⟩ : ∃ r, p.length = r := ⟨_, rfl⟩
  rw [hr] at hP bp hP24 ⊢
  have HR := Lib.hid hr
  have hpl := hr
  clear hr hpl
  go_loopw [9, 10] (fun v9 v10 wr => ∃ k : Nat, k ≤ r ∧ v10 = .int .i64 k ∧ v9 = .bool (al p q k) ∧ Below w8.heap.size w8 wr) (fun _ v10 _ => r - (intOf v10).toNat)
  case atStart => exact ⟨0, Nat.zero_le _, rfl, rfl, Below.refl _ _⟩
  case round =>
    obtain ⟨k, hk, rfl, rfl, hrr⟩ := hrel
    have bpr := keepC hrr bp
    have bqr := keepC hrr bq
    have bxr := keepC hrr bx
    have bur := keepC hrr bu
    have hSr := hS.below hrr
    have hUr := hU.below hrr
    have hPr := hP.rd.below hrr
    have hQr := hQ.rd.below hrr
    cases hal : al p q k
    · have hE : E0 = false := by rw [← HE0.out]; exact al_no hal
      subst hE
      clear hal
      have hkr : k ≤ r := hk
      cases r with
      | zero =>
        have hk0 : ¬ k < 0 := by omega
        go_wp2_with fail
        refine (I_SameSubst S m d' xs P 0 cp p U j b x wr hSr hPr hUr (by omega) (by omega) (by omega)).mono ?_
        rintro e w9 ⟨rfl, hb12⟩
        rw [F2.out]
        have hr9 := hrr.trans (hb12.mono hrr.size)
        have bp9 := keepC hb12 bpr
        go_wp2_with fail
        go_ret
        exact ⟨rfl, below_then hB hr9 hB.size⟩
      | succ r =>
        obtain ⟨g1, o1, B1, m1, d1, t1, rfl, c1, r1, z1, e1⟩ := hPr.at_ (k := r) (by omega)
        have f3 := F3.out r HR.out
        rw [← e1.out, r1.1] at f3
        have f4 : decide (0 < m1) = true := by simp; omega
        rcases Nat.lt_or_ge k (r + 1) with hlt | hlt
        all_goals (first | (exfalso; omega) | skip)
        all_goals (
          go_wp2_with fail
          refine (I_SameSubst S m d' xs _ (r + 1) cp p U j b x wr hSr hPr hUr (by omega) (by omega) (by omega)).mono ?_
          rintro e w9 ⟨rfl, hb12⟩
          rw [F2.out]
          have hr9 := hrr.trans (hb12.mono hrr.size)
          have bp9 := keepC hb12 bpr
          have c9 := keepC hb12 c1
          go_wp2_with fail
          go_ret
          exact ⟨rfl, below_then hB hr9 hB.size⟩
          )
    · by_cases hlt : k < r
      · have HST := Lib.hid (al_step hal (by rw [HR.out]; exact hlt))
        have hql : k < q.length := by
          simp only [al, Bool.and_eq_true, decide_eq_true_eq] at hal
          rw [← hal.1, HR.out]; exact hlt
        clear hal
        obtain ⟨g1, o1, B1, m1, d1, t1, rfl, c1, r1, z1, e1⟩ := hPr.at_ hlt
        obtain ⟨g2, o2, B2, m2, d2, t2, rfl, c2, r2, z2, e2⟩ := hQr.at_ hql
        have w1' := wtR_row (x := p) (k := k) (by rw [HR.out]; exact hlt)
        have w2' := wtR_row (x := q) (k := k) hql
        rw [← e1.out] at w1' HST
        rw [← e2.out] at w2' HST
        have l1 := r1.1
        have l2 := r2.1
        have hql2 : (k : Int) < (q.length : Int) := by omega
        go_wp2_with fail
        go_region_held3 (fun w' => Below wr.heap.size wr w' ∧ w'.cell? ⟨G3, 0, none⟩ = some (.slice (some ⟨g1, o1, none⟩) r cp) ∧ w'.cell? ⟨G4, 0, none⟩ = some (.slice (some ⟨g2, o2, none⟩) q.length cq) ∧ w'.cell? ⟨g1, o1 + k, none⟩ = some (.slice B1 m1 d1) ∧ w'.cell? ⟨g2, o2 + k, none⟩ = some (.slice B2 m2 d2))
          (first | exact ⟨(Below.refl _ _).drew, bpr, bqr, c1, c2⟩ | exact keepS4 ha1 (by assumption))
          ((go_at_call 22; refine (I_SameTerm B1 m1 d1 t1 B2 m2 d2 t2 _ ?_ ?_ (by omega) (by omega)).mono ?_; exact riS r1 (by assumption); exact riS r2 (by assumption); rintro e w9 ⟨rfl, ha1⟩))
        rename_i hq
        have hb12 := hq.1
        rw [← HST.out]
        go_wp2_with fail
        go_roundw
        case rel => exact ⟨k + 1, by omega, by go_num, rfl, hrr.trans (hb12.mono hrr.size)⟩
        case measure => simp [intOf]; omega
      · have hkr : k = r := by omega
        have hE : E0 = true := by rw [← HE0.out, ← al_end, HR.out, ← hkr]; exact hal
        subst hE
        clear hal
        cases r with
        | zero =>
          have hk0 : ¬ k < 0 := by omega
          go_wp2_with fail
          refine (I_SameSubst S m d' xs P 0 cp p U j b x wr hSr hPr hUr (by omega) (by omega) (by omega)).mono ?_
          rintro e w9 ⟨rfl, hb12⟩
          rw [F2.out]
          have hr9 := hrr.trans (hb12.mono hrr.size)
          have bp9 := keepC hb12 bpr
          go_wp2_with fail
          go_ret
          exact ⟨rfl, below_then hB hr9 hB.size⟩
        | succ r =>
          obtain ⟨g1, o1, B1, m1, d1, t1, rfl, c1, r1, z1, e1⟩ := hPr.at_ (k := r) (by omega)
          have f3 := F3.out r HR.out
          rw [← e1.out, r1.1] at f3
          have f4 : decide (0 < m1) = true := by simp; omega
          rcases Nat.lt_or_ge k (r + 1) with hlt | hlt
          all_goals (first | (exfalso; omega) | skip)
          all_goals (
            go_wp2_with fail
            refine (I_SameSubst S m d' xs _ (r + 1) cp p U j b x wr hSr hPr hUr (by omega) (by omega) (by omega)).mono ?_
            rintro e w9 ⟨rfl, hb12⟩
            rw [F2.out]
            have hr9 := hrr.trans (hb12.mono hrr.size)
            have bp9 := keepC hb12 bpr
            have c9 := keepC hb12 c1
            go_wp2_with fail
            go_ret
            exact ⟨rfl, below_then hB hr9 hB.size⟩
            )
theorem own : ownKnob Try.prog.godebug = none := by kernel_rfl
theorem laidOut : laidOutB Try.prog = true := by kernel_rfl

set_option maxRecDepth 100000 in
theorem lifted (os : Os) (started : os.Started) (H : Type) (enc : TypeId × Value → H) :
    ReturnsInHanded {} Try.checked os 7 .any (Rows.fnPlainSpec.pre6 enc Try.prog Try.f7 Rows.fnPlainRow.domain false) (Rows.fnPlainSpec.post enc Try.prog Try.f7 false true false false) := by
  refine returnsInHanded_of_change (C := Try.checked) own started (by kernel_rfl) Try.func7
    (ChangeSpec.witness6 (enc := enc) (C := Try.checked) false ⟨#[], #[.slice none 0 0], []⟩ 8 (by kernel_rfl) (by kernel_rfl) (by kernel_rfl) (by kernel_rfl)) ?_
  intro W base args ds gs before hval0 hW hcnd _
  have hval : ∀ (j : Nat) t v, Try.f7.params[j]? = some t → args[j]? = some v → Value.okWide Try.prog W .any base t v := hval0
  have hW' := hW
  obtain ⟨p, q, hA0, hV, rfl, hfz, hnd⟩ := hW
  have hA : DataW.TrodAll enc Try.prog W 0 (fun _ => true) true Try.f7.params.toList args.toList ds p := hA0
  rw [Try.params7] at hA hval
  obtain ⟨v0, vs0, d0, ds0, p0, q0, hargs, rfl, rfl, h0, r0⟩ := trodAll_cons hA
  obtain ⟨rfl, rfl, rfl⟩ := trodAll_nil r0
  obtain rfl : args = #[v0] := by cases args; simp_all
  obtain ⟨rfl, rfl⟩ := trodVars_none hV
  have k0 := h0
  have lt0 : ∀ x ∈ p0, x.block < W.heap.size := by obtain ⟨m, hm⟩ := k0; exact DataW.trod_lt m _ _ _ hm
  obtain ⟨A0, n0, c0, rfl, R0, M0⟩ := open_raw Try.underlying22 Try.underlying5 (by kernel_rfl) (hval 0 22 v0 rfl rfl) h0
  unfold maxLen at M0
  clear hA0 hval0
  refine (walk A0 n0 c0 W R0 (by omega)).mono fun e W' ⟨he, bel⟩ => ?_
  subst he
  exact ⟨_, rfl, _, _, _, [], _, [], hW', trodAll_mk1 (shut_bool Try.underlying4 _), (trodAll_cons_mk (Below.trod laidOut (by kernel_rfl) (of_decide_eq_true (by kernel_rfl)) k0 bel lt0) trodAll_mk0), rfl, bel.frame _, fun h => by cases h⟩

theorem over : Rows.fnPlainRow.holds Try.pinned (OpenSpec.ofChange Rows.fnPlainSpec) :=
  OpenClaim.holds_of_wide 7 Try.f7 rfl rfl rfl rfl rfl rfl rfl ⟨rfl, rfl, rfl, rfl, rfl⟩ rfl rfl rfl rfl rfl (by kernel_rfl) Try.func7 (by kernel_rfl)
    (of_decide_eq_true (by kernel_rfl)) (by unfold Func.isWrapper; first | (rw [if_pos (by decide +kernel)]; kernel_rfl) | (rw [if_neg (by decide +kernel)]; exact ⟨rfl, rfl⟩))
    (fun os started H enc _ => lifted os started H enc)

theorem proved : Rows.FnPlainSaid := over
end Go.Proofs.Ytihgolhpdnoooaa.lFnPlain
