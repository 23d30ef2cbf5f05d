/- The law FnPut: whatever the input, it returns true and leaves its argument alone. -/
import Derived.Test.YtihgolhpdnoooaaOpenB
import Derived.Test.YtihgolhpdnoooaaDrawF
import Derived.Test.YtihgolhpdnoooaaPtl
import Derived.Test.YtihgolhpdnoooaaPut
import Derived.Test.YtihgolhpdnoooaaSub
import Derived.Test.YtihgolhpdnoooaaPlace2
import Derived.Test.YtihgolhpdnoooaaPlaceOf
import Derived.Test.YtihgolhpdnoooaaPath
import Derived.Test.YtihgolhpdnoooaaTop1
import Derived.Test.YtihgolhpdnoooaaDice
import Derived.Test.YtihgolhpdnoooaaRows
import Derived.Deep.RegionHeld3
namespace Go.Proofs.Ytihgolhpdnoooaa.lFnPut
open Go.RowKit Go.ChangeShapes Go.WideShapes Go.ChangeAt
set_option linter.unusedVariables false
set_option linter.unusedSimpArgs false

theorem own_cap {w : World} {B : Nat} {A : Option Addr} {n c : Nat} {xs : List Int} (h : OI w B A n c xs) : n ≤ c ∧ c ≤ 9223372036854775807 := by
  obtain ⟨A3, c3, hv, hcap, hmx⟩ := own_form h
  unfold maxLen at hmx
  have : c = c3 := by simp at hv; exact hv.2
  omega
theorem put_no {xs t : List Int} {p : Int} {u : List Int} (h : (V_PutAt xs t p u).2 = false) : (V_PutAt xs t p u).1 = [] := by
  unfold V_PutAt at h ⊢
  split at h
  · rename_i h2
    rw [if_pos h2]
    exact putL_no h
  · rename_i h2
    rw [if_neg h2]
theorem put_yes {xs t : List Int} {p : Int} {u : List Int} (h : (V_PutAt xs t p u).2 = true) :
    ∃ q : Nat, p = q ∧ q < t.length ∧ Pl.termOk xs t = true ∧ Pl.termOk xs u = true ∧ Pl.termOk xs (V_PutAt xs t p u).1 = true ∧ V_SubAt xs (V_PutAt xs t p u).1 q = u ∧
      (∀ y : Nat, y < t.length → Pl.apartIn xs t q y = true → ∃ z : Nat, V_PlaceOf xs (V_PutAt xs t p u).1 (V_PathOf xs t y) = z ∧ V_SubAt xs (V_PutAt xs t p u).1 z = V_SubAt xs t y) ∧ V_PutAt xs (V_PutAt xs t p u).1 q (V_SubAt xs t q) = (t, true) := by
  cases h1 : (Pl.posOk xs t p && Pl.termOk xs u)
  · rw [putAt_no h1] at h; cases h
  rw [Bool.and_eq_true] at h1
  obtain ⟨q, rfl, hq, hT⟩ := Pl.posOk_nat h1.1
  have h2 := putAt_yes (p := q) (by rw [Bool.and_eq_true]; exact h1)
  rw [h2] at h ⊢
  have h3 : putOk t q (Pl.fin (Pl.ari xs) t q) u = true := h
  show ∃ q' : Nat, (q : Int) = q' ∧ _ ∧ _ ∧ _ ∧ Pl.termOk xs (putL t q (Pl.fin (Pl.ari xs) t q) u) = true ∧ _
  rw [putL_yes h3]
  obtain ⟨hs, hl, hr⟩ := Pl.termOk_iff.1 hT
  obtain ⟨_, hlu, hru⟩ := Pl.termOk_iff.1 h1.2
  have hx60 : (putAt t q (Pl.fin (Pl.ari xs) t q) u).length ≤ 60 := by simpa [putOk] using h3
  have hxr := Pl.put_run hr hq hru
  have hxl := Pl.put_lt hr hq hru
  have hxT : Pl.termOk xs (putAt t q (Pl.fin (Pl.ari xs) t q) u) = true := Pl.termOk_iff.2 ⟨hs, ⟨by omega, hx60⟩, hxr⟩
  have hso := Pl.sub_ok hT hq
  have hxp : Pl.posOk xs (putAt t q (Pl.fin (Pl.ari xs) t q) u) q = true := Pl.posOk_iff.2 ⟨hxT, by omega, by omega⟩
  refine ⟨q, rfl, hq, hT, h1.2, hxT, ?_, fun y hy ha => ?_, ?_⟩
  · rw [subAt_yes hxp]
    exact Pl.put_sub hr hq hru
  · have hyp : Pl.posOk xs t y = true := Pl.posOk_iff.2 ⟨hT, by omega, by omega⟩
    simp only [Pl.apartIn, Pl.holds, Int.toNat_natCast, Bool.and_eq_true, Bool.not_eq_true', decide_eq_false_iff_not] at ha
    obtain ⟨⟨_, a1⟩, a2⟩ := ha
    have hfy := (Pl.fin_of hr hy).2
    have hfq := (Pl.fin_of hr hq).2
    have hap : Pl.fin (Pl.ari xs) t y ≤ q ∨ Pl.fin (Pl.ari xs) t q ≤ y := by omega
    have hf0 : Pl.fin (Pl.ari xs) t 0 = t.length := by
      unfold Pl.fin; rw [List.drop_zero, hr]; simp
    have hq0 : 0 < q := by
      rcases Nat.eq_zero_or_pos q with e | e
      · subst e; omega
      · exact e
    have hz := put_goTo hr hq hru hy a1 t.length 0 (by omega) (by omega) (by omega) (by omega) (.inl hq0)
    rw [show Pl.mv q (Pl.fin (Pl.ari xs) t q) u.length 0 = 0 from if_pos (Nat.zero_le _)] at hz
    have hzs := Pl.put_apart hr hq hru hy hap
    refine ⟨Pl.mv q (Pl.fin (Pl.ari xs) t q) u.length y, ?_, ?_⟩
    · rw [pathOf_yes hyp, ← placeOf_yes hxT, List.drop_zero]
      exact hz
    · have hlt : Pl.mv q (Pl.fin (Pl.ari xs) t q) u.length y < (putAt t q (Pl.fin (Pl.ari xs) t q) u).length := by
        have h5 := Pl.put_len hr hq hru
        have h6 := hru
        unfold Pl.mv
        split <;> omega
      rw [subAt_yes hyp, subAt_yes (Pl.posOk_iff.2 ⟨hxT, by omega, by omega⟩)]
      exact hzs
  · have e : V_SubAt xs t q = Pl.sub (Pl.ari xs) t q := subAt_yes h1.1
    have hb := Pl.put_back hr hq hru
    rw [e, putAt_yes (by rw [Bool.and_eq_true]; exact ⟨hxp, hso⟩)]
    have hok : putOk (putAt t q (Pl.fin (Pl.ari xs) t q) u) q (Pl.fin (Pl.ari xs) (putAt t q (Pl.fin (Pl.ari xs) t q) u) q) (Pl.sub (Pl.ari xs) t q) = true := by
      unfold putOk; rw [hb]; simpa using hl.2
    rw [hok, putL_yes hok, hb]
set_option maxHeartbeats 4000000 in
set_option maxRecDepth 20000 in
theorem walk (A : Option Addr) (n c : Nat) (w : World) (h : BI w A n) (hn : n ≤ 9223372036854775807) :
    Calls Try.prog 5 #[.slice A n c] w fun e w' => e = .returned (.bool true) ∧ Below w.heap.size w w' := by
  by_cases hb : 4096 < n
  · have E := Lib.hid (decide_eq_true hb)
    go_enter Try.func5, Try.ntmps5
    go_wp2_with fail
    refine (big_any A n c _ hn).mono ?_
    rintro e w1 ⟨rfl, rfl⟩
    rw [E.out]
    go_wp2_with fail
    go_ret
    exact ⟨rfl, Below.refl _ _⟩
  have hn2 : n ≤ 4096 := by omega
  have E := Lib.hid (decide_eq_false hb)
  clear hb
  go_enter Try.func5, Try.ntmps5
  go_wp2_with fail
  refine (big_any A n c _ hn).mono ?_
  rintro e w1 ⟨rfl, rfl⟩
  rw [E.out]
  go_wp2_with fail
  refine (DrawPutAt_any A n c w h hn2).mono ?_
  rintro e w1 ⟨S, m, d', xs, T, k, d, t, at_, U, j, b, u, rfl, hS, hm, hT, hk, ⟨hkd, hd⟩, hat, hU, hj, ⟨hjb, hb⟩, hB⟩
  clear h
  have bx : (w1.alloc (.cells #[.slice S m d'] 26)).cell? ⟨w1.heap.size, 0, none⟩ = some (.slice S m d') := (Blk.new w1 26 #[.slice S m d']).cell 0
  go_wp2_with fail
  replace hS := hS.alloc (.cells #[.slice S m d'] 26)
  replace hT := hT.alloc (.cells #[.slice S m d'] 26)
  replace hU := hU.alloc (.cells #[.slice S m d'] 26)
  replace hB := hB.alloc hB.size (.cells #[.slice S m d'] 26)
  generalize w1.alloc (.cells #[.slice S m d'] 26) = W1 at *
  generalize w1.heap.size = G at *
  have hV60 := bd_PutAt xs t at_ u
  have hVn := Lib.hid (fun h => put_no (xs := xs) (t := t) (p := at_) (u := u) h)
  have hVy := Lib.hid (fun h => put_yes (xs := xs) (t := t) (p := at_) (u := u) h)
  refine (I_PutAt S m d' xs T k d t at_ U j b u W1 hS hT hU (by omega) (by omega) (by omega) hkd hd hjb hb).mono ?_
  rintro e w2 ⟨X, cx, rfl, hX, hb2⟩
  replace hS := hS.below hb2
  replace hT := hT.below hb2
  replace hU := hU.below hb2
  replace bx := keepC hb2 bx
  replace hB := below_then hB hb2 hB.size
  clear hb2
  go_wp2_with fail
  refine (S_PutAt S m d' xs T k d t at_ U j b u w2 hS hT hU (by omega) (by omega) (by omega) hkd hd hjb hb).mono ?_
  rintro e w3 ⟨Y, cy, rfl, hY, hb3⟩
  replace hS := hS.below hb3
  replace hT := hT.below hb3
  replace hU := hU.below hb3
  replace hX := hX.below hb3
  replace bx := keepC hb3 bx
  replace hB := below_then hB hb3 hB.size
  clear hb3
  generalize hVe : V_PutAt xs t at_ u = V at *
  obtain ⟨x, is⟩ := V
  simp only at hX hY hV60 hVn hVy ⊢
  go_wp2_with fail
  refine (I_SameTerm X x.length cx x Y x.length cy x w3 hX.ri hY.ri (by omega) (by omega)).mono ?_
  rintro e w4 ⟨rfl, hb4⟩
  rw [show decide (x = x) = true from decide_eq_true rfl]
  replace hS := hS.below hb4
  replace hT := hT.below hb4
  replace hU := hU.below hb4
  replace hX := hX.below hb4
  replace bx := keepC hb4 bx
  replace hB := below_then hB hb4 hB.size
  clear hb4
  clear hY
  cases is
  · obtain rfl := hVn.out rfl
    clear hVn hVy
    go_wp2_with fail
    go_ret
    exact ⟨rfl, hB⟩
  obtain ⟨p, rfl, hp, hTk, hUk, hXk, h1, h2, h3⟩ := hVy.out rfl
  have htl := hT.1
  have H1 := Lib.hid h1
  have H2 := Lib.hid h2
  have H3 := Lib.hid h3
  have HX := Lib.hid hXk
  have hxc : x.length ≤ cx ∧ cx ≤ 9223372036854775807 := by
    obtain ⟨A3, c3, hv, hcap, hmx⟩ := own_form hX
    unfold maxLen at hmx
    have : cx = c3 := by simp at hv; exact hv.2
    omega
  clear hVn hVy hTk hUk hXk h1 h2 h3 hVe
  go_wp2_with fail
  refine (I_SubAt S m d' xs X x.length cx x p w4 hS hX.ri (by omega) (by omega) hxc.1 hxc.2).mono ?_
  rintro e w5 ⟨A3, c3, rfl, o3, hb5⟩
  rw [H1.out] at o3 ⊢
  replace hS := hS.below hb5
  replace hT := hT.below hb5
  replace hU := hU.below hb5
  replace hX := hX.below hb5
  replace bx := keepC hb5 bx
  replace hB := below_then hB hb5 hB.size
  clear hb5
  have hul : u.length = j := hU.1
  rw [hul] at o3 ⊢
  go_wp2_with fail
  refine (I_SameTerm A3 j c3 u U j b u w5 o3.ri hU (by omega) (by omega)).mono ?_
  rintro e w6 ⟨rfl, hb6⟩
  rw [show decide (u = u) = true from decide_eq_true rfl]
  replace hS := hS.below hb6
  replace hT := hT.below hb6
  replace hU := hU.below hb6
  replace hX := hX.below hb6
  replace bx := keepC hb6 bx
  replace hB := below_then hB hb6 hB.size
  clear hb6
  clear o3
  go_wp2_with fail
  refine (I_TermOk S m d' xs X x.length cx x w6 hS hX.ri (by omega) (by omega)).mono ?_
  rintro e w7 ⟨rfl, hb7⟩
  rw [HX.out]
  replace hS := hS.below hb7
  replace hT := hT.below hb7
  replace hU := hU.below hb7
  replace hX := hX.below hb7
  replace bx := keepC hb7 bx
  replace hB := below_then hB hb7 hB.size
  clear hb7
  go_wp2_with fail
  go_loopw [11] (fun v11 wr => ∃ i : Nat, i ≤ k ∧ v11 = .int .i64 i ∧ Below w7.heap.size w7 wr) (fun v11 _ => k - (intOf v11).toNat)
  case atStart => exact ⟨0, Nat.zero_le _, rfl, Below.refl _ _⟩
  case round =>
    obtain ⟨i, hi, rfl, hr⟩ := hrel
    have bxr := keepC hr bx
    have hSr := hS.below hr
    have hTr := hT.below hr
    have hXr := hX.below hr
    by_cases hlt : i < k
    · go_wp2_with fail
      refine (I_ApartIn S m d' xs T k d t p i wr hSr hTr (by omega) (by omega)).mono ?_
      rintro e w8 ⟨rfl, hb8⟩
      cases ha : Pl.apartIn xs t p i
      · clear ha
        go_wp2_with fail
        go_roundw
        case rel => exact ⟨i + 1, by omega, by go_num, hr.trans (hb8.mono hr.size)⟩
        case measure => simp [intOf]; omega
      · obtain ⟨z, e1, e2⟩ := H2.out i (by omega) ha
        have E1 := Lib.hid e1
        have E2 := Lib.hid e2
        have hQ60 := bd_PathOf xs t i
        have hs60 := bd_SubAt xs t i
        clear e1 e2 ha
        replace hSr := hSr.below hb8
        replace hTr := hTr.below hb8
        replace hXr := hXr.below hb8
        replace bxr := keepC hb8 bxr
        replace hr := hr.trans (hb8.mono hr.size)
        clear hb8
        go_wp2_with fail
        go_region_held3 (fun w' => Below w8.heap.size w8 w' ∧ w'.cell? ⟨G, 0, none⟩ = some (.slice S m d'))
          (first | exact ⟨(Below.refl _ _).drew, bxr⟩ | exact keepS1 ha1 (by assumption) | exact keepS1 ha2 (by assumption))
          ((first | (go_at_call 34; refine (I_PathOf S m d' xs T k d t i _ ?_ ?_ (by omega) (by omega)).mono ?_; exact riS hSr (by assumption); exact riS hTr (by assumption); rintro e w9 ⟨A4, c4, rfl, o4, ha1⟩) | (go_at_call 33; refine (I_PlaceOf S m d' xs X x.length cx x A4 _ c4 (V_PathOf xs t i) _ ?_ ?_ ?_ (by omega) (by omega) (by omega)).mono ?_; exact riS hSr (by assumption); exact riS hXr.ri (by assumption); exact o4.ri; rintro e w10 ⟨rfl, ha2⟩)))
        rename_i hq
        have hb10 := hq.1
        clear hq ha1 ha2 o4
        rw [E1.out]
        replace hSr := hSr.below hb10
        replace hTr := hTr.below hb10
        replace hXr := hXr.below hb10
        replace bxr := keepC hb10 bxr
        replace hr := hr.trans (hb10.mono hr.size)
        clear hb10
        have hz0 : decide ((z : Int) < 0) = false := by simp
        have hsx60 := bd_SubAt xs x z
        go_wp2_with fail
        go_region_held3 (fun w' => Below w10.heap.size w10 w' ∧ w'.cell? ⟨G, 0, none⟩ = some (.slice S m d'))
          (first | exact ⟨(Below.refl _ _).drew, bxr⟩ | exact keepS1 ha1 (by assumption) | exact keepS1 ha2 (by assumption) | exact keepS1 ha3 (by assumption))
          ((first | (go_at_call 21; with_reducible show Calls Try.prog 21 #[_, .slice X x.length cx, _] _ _; refine (I_SubAt S m d' xs X x.length cx x z _ ?_ ?_ (by omega) (by omega) hxc.1 hxc.2).mono ?_; exact riS hSr (by assumption); exact riS hXr.ri (by assumption); rintro e wa ⟨A5, c5, rfl, o5, ha1⟩) | (go_at_call 21; with_reducible show Calls Try.prog 21 #[_, .slice T k d, _] _ _; refine (I_SubAt S m d' xs T k d t i _ ?_ ?_ (by omega) (by omega) hkd hd).mono ?_; exact riS hSr (by assumption); exact riS hTr (by assumption); rintro e wb ⟨A6, c6, rfl, o6, ha2⟩; replace o5 := o5.below ha2) | (go_at_call 22; refine (I_SameTerm A5 _ c5 (V_SubAt xs x z) A6 _ c6 (V_SubAt xs t i) _ ?_ ?_ (by omega) (by omega)).mono ?_; exact o5.ri; exact o6.ri; rintro e wc ⟨rfl, ha3⟩)))
        rename_i hq
        have hb11 := hq.1
        rw [decide_eq_true E2.out]
        replace hr := hr.trans (hb11.mono hr.size)
        go_wp2_with fail
        go_roundw
        case rel => exact ⟨i + 1, by omega, by go_num, hr⟩
        case measure => simp [intOf]; omega
    · obtain rfl : i = k := by omega
      have hst60 := bd_SubAt xs t p
      have hV2 : Hid ((V_PutAt xs x p (V_SubAt xs t p)).1 = t ∧ (V_PutAt xs x p (V_SubAt xs t p)).2 = true) := Lib.hid (by rw [H3.out]; exact ⟨rfl, rfl⟩)
      go_wp2_with fail
      go_region_held3 (fun w' => Below wr.heap.size wr w' ∧ w'.cell? ⟨G, 0, none⟩ = some (.slice S m d'))
        (first | exact ⟨(Below.refl _ _).drew, bxr⟩ | exact keepS1 ha1 (by assumption) | exact keepS1 ha2 (by assumption))
        ((first | (go_at_call 35; refine (S_SubAt S m d' xs T i d t p _ ?_ ?_ (by omega) (by omega) hkd hd).mono ?_; exact riS hSr (by assumption); exact riS hTr (by assumption); rintro e wa ⟨A5, c5, rfl, o5, ha1⟩; have hcc : (V_SubAt xs t p).length ≤ c5 ∧ c5 ≤ 9223372036854775807 := own_cap o5) | (go_at_call 30; refine (I_PutAt S m d' xs X x.length cx x p A5 _ c5 (V_SubAt xs t p) _ ?_ ?_ ?_ (by omega) (by omega) (by omega) hxc.1 hxc.2 hcc.1 hcc.2).mono ?_; exact riS hSr (by assumption); exact riS hXr.ri (by assumption); exact o5.ri; rintro e wb ⟨A6, c6, rfl, o6, ha2⟩)))
      rename_i hq
      have hb11 := hq.1
      replace hr := hr.trans (hb11.mono hr.size)
      have hT11 := hTr.below hb11
      generalize V_PutAt xs x p (V_SubAt xs t p) = V at *
      obtain ⟨v, is⟩ := V
      simp only at o6 hV2 ⊢
      obtain ⟨rfl, rfl⟩ := hV2.out
      clear hq ha1 ha2 o5
      have o7 := o6.ri
      rw [htl] at o7
      rw [htl]
      go_wp2_with fail
      refine (I_SameTerm A6 i c6 v T i d v wb o7 hT11 (by omega) (by omega)).mono ?_
      rintro e w12 ⟨rfl, hb12⟩
      rw [show decide (v = v) = true from decide_eq_true rfl]
      have hr12 := hr.trans (hb12.mono hr.size)
      go_wp2_with fail
      go_ret
      exact ⟨rfl, below_then hB hr12 hB.size⟩
theorem own : ownKnob Try.prog.godebug = none := by kernel_rfl
theorem laidOut : laidOutB Try.prog = true := by kernel_rfl

set_option maxRecDepth 100000 in
theorem lifted (os : Os) (started : os.Started) (H : Type) (enc : TypeId × Value → H) :
    ReturnsInHanded {} Try.checked os 5 .any (Rows.fnPutSpec.pre6 enc Try.prog Try.f5 Rows.fnPutRow.domain false) (Rows.fnPutSpec.post enc Try.prog Try.f5 false true false false) := by
  refine returnsInHanded_of_change (C := Try.checked) own started (by kernel_rfl) Try.func5
    (ChangeSpec.witness6 (enc := enc) (C := Try.checked) false ⟨#[], #[.slice none 0 0], []⟩ 8 (by kernel_rfl) (by kernel_rfl) (by kernel_rfl) (by kernel_rfl)) ?_
  intro W base args ds gs before hval0 hW hcnd _
  have hval : ∀ (j : Nat) t v, Try.f5.params[j]? = some t → args[j]? = some v → Value.okWide Try.prog W .any base t v := hval0
  have hW' := hW
  obtain ⟨p, q, hA0, hV, rfl, hfz, hnd⟩ := hW
  have hA : DataW.TrodAll enc Try.prog W 0 (fun _ => true) true Try.f5.params.toList args.toList ds p := hA0
  rw [Try.params5] at hA hval
  obtain ⟨v0, vs0, d0, ds0, p0, q0, hargs, rfl, rfl, h0, r0⟩ := trodAll_cons hA
  obtain ⟨rfl, rfl, rfl⟩ := trodAll_nil r0
  obtain rfl : args = #[v0] := by cases args; simp_all
  obtain ⟨rfl, rfl⟩ := trodVars_none hV
  have k0 := h0
  have lt0 : ∀ x ∈ p0, x.block < W.heap.size := by obtain ⟨m, hm⟩ := k0; exact DataW.trod_lt m _ _ _ hm
  obtain ⟨A0, n0, c0, rfl, R0, M0⟩ := open_raw Try.underlying22 Try.underlying5 (by kernel_rfl) (hval 0 22 v0 rfl rfl) h0
  unfold maxLen at M0
  clear hA0 hval0
  refine (walk A0 n0 c0 W R0 (by omega)).mono fun e W' ⟨he, bel⟩ => ?_
  subst he
  exact ⟨_, rfl, _, _, _, [], _, [], hW', trodAll_mk1 (shut_bool Try.underlying4 _), (trodAll_cons_mk (Below.trod laidOut (by kernel_rfl) (of_decide_eq_true (by kernel_rfl)) k0 bel lt0) trodAll_mk0), rfl, bel.frame _, fun h => by cases h⟩

theorem over : Rows.fnPutRow.holds Try.pinned (OpenSpec.ofChange Rows.fnPutSpec) :=
  OpenClaim.holds_of_wide 5 Try.f5 rfl rfl rfl rfl rfl rfl rfl ⟨rfl, rfl, rfl, rfl, rfl⟩ rfl rfl rfl rfl rfl (by kernel_rfl) Try.func5 (by kernel_rfl)
    (of_decide_eq_true (by kernel_rfl)) (by unfold Func.isWrapper; first | (rw [if_pos (by decide +kernel)]; kernel_rfl) | (rw [if_neg (by decide +kernel)]; exact ⟨rfl, rfl⟩))
    (fun os started H enc _ => lifted os started H enc)

theorem proved : Rows.FnPutSaid := over
end Go.Proofs.Ytihgolhpdnoooaa.lFnPut
