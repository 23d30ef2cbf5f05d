/- The law FnRenamed: whatever the input, it returns true and leaves its argument alone. -/
import Derived.Test.YtihgolhpdnoooaaOpenB
import Derived.Test.YtihgolhpdnoooaaDrawW
import Derived.Test.YtihgolhpdnoooaaRnm
import Derived.Test.YtihgolhpdnoooaaRenum
import Derived.Test.YtihgolhpdnoooaaVars
import Derived.Test.YtihgolhpdnoooaaCnt
import Derived.Test.YtihgolhpdnoooaaTop1
import Derived.Test.YtihgolhpdnoooaaDice
import Derived.Test.YtihgolhpdnoooaaRows
import Derived.Deep.RegionHeld3
namespace Go.Proofs.Ytihgolhpdnoooaa.lFnRenamed
open Go.RowKit Go.ChangeShapes Go.WideShapes Go.ChangeAt
set_option linter.unusedVariables false
set_option linter.unusedSimpArgs false

theorem own_cap {w : World} {B : Nat} {A : Option Addr} {n c : Nat} {xs : List Int} (h : OI w B A n c xs) : n ≤ c ∧ c ≤ 9223372036854775807 := by
  obtain ⟨A3, c3, hv, hcap, hmx⟩ := own_form h
  unfold maxLen at hmx
  have : c = c3 := by simp at hv; exact hv.2
  omega
theorem var_no1 {xs a b : List Int} (h : Pl.termOk xs a = false) : variantIn xs a b = false := by unfold variantIn; rw [h]; rfl
theorem var_no2 {xs a b : List Int} (h1 : Pl.termOk xs a = true) (h : Pl.termOk xs b = false) : variantIn xs a b = false := by unfold variantIn; rw [h1, h]; rfl
theorem ren_facts {xs a b : List Int} (h1 : Pl.termOk xs a = true) (h2 : Pl.termOk xs b = true) :
    variantIn xs a b = decide (V_Renamed xs a = V_Renamed xs b) ∧ variantIn xs (V_Renamed xs a) a = true ∧ linearIn xs (V_Renamed xs a) = linearIn xs a ∧
      ∃ r : Nat, (V_VarsOf xs (V_Renamed xs a)).length = r ∧ groundIn xs (V_Renamed xs a) = decide (r = 0) ∧ ∀ i : Nat, i < r → (V_VarsOf xs (V_Renamed xs a)).getD i 0 = i := by
  rw [renamed_yes h1, renamed_yes h2]
  have hok := rnT_ok h1
  have hbd := ord_bd h1
  have hup := upto_first (f := vset (rnT a)) (k := (ord [] a).length) (n := 24) (fun i => rnT_vars i) hbd
  refine ⟨?_, ?_, ?_, (ord [] a).length, ?_, ?_, ?_⟩
  · unfold variantIn; rw [h1, h2]; rfl
  · unfold variantIn; rw [hok, h1, rnT_twice]; simp
  · unfold linearIn; rw [hok, h1, linTo_rnT]
  · rw [varsOf_yes hok, hup, nats_length, List.length_range]
  · unfold groundIn
    rw [hok, hup, List.length_range, Bool.true_and]
    by_cases e : (ord [] a).length = 0 <;> simp [e]
  · intro i hi
    rw [varsOf_yes hok, hup, nats_getD _ _ (by rw [List.length_range]; exact hi)]
    simp [List.getD_eq_getElem?_getD, hi]
set_option maxHeartbeats 8000000 in
set_option maxRecDepth 20000 in
theorem walk (A : Option Addr) (n c : Nat) (w : World) (h : BI w A n) (hn : n ≤ 9223372036854775807) :
    Calls Try.prog 9 #[.slice A n c] w fun e w' => e = .returned (.bool true) ∧ Below w.heap.size w w' := by
  by_cases hb : 4096 < n
  · have E := Lib.hid (decide_eq_true hb)
    go_enter Try.func9, Try.ntmps9
    go_wp2_with fail
    refine (big_any A n c _ hn).mono ?_
    rintro e w1 ⟨rfl, rfl⟩
    rw [E.out]
    go_wp2_with fail
    go_ret
    exact ⟨rfl, Below.refl _ _⟩
  have hn2 : n ≤ 4096 := by omega
  have E := Lib.hid (decide_eq_false hb)
  clear hb
  go_enter Try.func9, Try.ntmps9
  go_wp2_with fail
  refine (big_any A n c _ hn).mono ?_
  rintro e w1 ⟨rfl, rfl⟩
  rw [E.out]
  go_wp2_with fail
  refine (DrawVariantIn_any A n c w h hn2).mono ?_
  rintro e w1 ⟨S, m, d', xs, T, k, d, a, U, j, q, b, rfl, hS, hm, hT, hk, ⟨hkd, hd⟩, hU, hj, hB⟩
  clear h
  have bx : (w1.alloc (.cells #[.slice S m d'] 26)).cell? ⟨w1.heap.size, 0, none⟩ = some (.slice S m d') := (Blk.new w1 26 #[.slice S m d']).cell 0
  go_wp2_with fail
  replace hS := hS.alloc (.cells #[.slice S m d'] 26)
  replace hT := hT.alloc (.cells #[.slice S m d'] 26)
  replace hU := hU.alloc (.cells #[.slice S m d'] 26)
  replace hB := hB.alloc hB.size (.cells #[.slice S m d'] 26)
  generalize w1.alloc (.cells #[.slice S m d'] 26) = W1 at *
  generalize w1.heap.size = G at *
  have hX60 := bd_Renamed xs a
  have hY60 := bd_Renamed xs b
  have HF := Lib.hid (fun h1 h2 => ren_facts (xs := xs) (a := a) (b := b) h1 h2)
  have HN1 := Lib.hid (fun h1 => var_no1 (xs := xs) (a := a) (b := b) h1)
  have HN2 := Lib.hid (fun h1 h2 => var_no2 (xs := xs) (a := a) (b := b) h1 h2)
  refine (I_Renamed S m d' xs T k d a W1 hS hT (by omega) (by omega)).mono ?_
  rintro e w2 ⟨X, cx, rfl, hX, hb2⟩
  replace hS := hS.below hb2
  replace hT := hT.below hb2
  replace hU := hU.below hb2
  replace bx := keepC hb2 bx
  replace hB := below_then hB hb2 hB.size
  clear hb2
  go_wp2_with fail
  refine (I_Renamed S m d' xs U j q b w2 hS hU (by omega) (by omega)).mono ?_
  rintro e w3 ⟨Y, cy, rfl, hY, hb3⟩
  replace hS := hS.below hb3
  replace hT := hT.below hb3
  replace hU := hU.below hb3
  replace hX := hX.below hb3
  replace bx := keepC hb3 bx
  replace hB := below_then hB hb3 hB.size
  clear hb3
  go_wp2_with fail
  refine (I_VariantIn S m d' xs T k d a U j q b w3 hS hT hU (by omega) (by omega) (by omega)).mono ?_
  rintro e w4 ⟨rfl, hb4⟩
  replace hS := hS.below hb4
  replace hT := hT.below hb4
  replace hU := hU.below hb4
  replace hX := hX.below hb4
  replace hY := hY.below hb4
  replace bx := keepC hb4 bx
  replace hB := below_then hB hb4 hB.size
  clear hb4
  go_wp2_with fail
  refine (S_VariantIn S m d' xs T k d a U j q b w4 hS hT hU (by omega) (by omega) (by omega)).mono ?_
  rintro e w5 ⟨rfl, hb5⟩
  replace hS := hS.below hb5
  replace hT := hT.below hb5
  replace hU := hU.below hb5
  replace hX := hX.below hb5
  replace hY := hY.below hb5
  replace bx := keepC hb5 bx
  replace hB := below_then hB hb5 hB.size
  clear hb5
  go_wp2_with fail
  refine (S_Renamed S m d' xs T k d a w5 hS hT (by omega) (by omega)).mono ?_
  rintro e w6 ⟨Z, cz, rfl, hZ, hb6⟩
  replace hS := hS.below hb6
  replace hT := hT.below hb6
  replace hU := hU.below hb6
  replace hX := hX.below hb6
  replace hY := hY.below hb6
  replace bx := keepC hb6 bx
  replace hB := below_then hB hb6 hB.size
  clear hb6
  go_wp2_with fail
  refine (I_SameTerm X _ cx _ Z _ cz _ w6 hX.ri hZ.ri (by omega) (by omega)).mono ?_
  rintro e w7 ⟨rfl, hb7⟩
  rw [show decide (V_Renamed xs a = V_Renamed xs a) = true from decide_eq_true rfl]
  replace hS := hS.below hb7
  replace hT := hT.below hb7
  replace hU := hU.below hb7
  replace hX := hX.below hb7
  replace hY := hY.below hb7
  replace bx := keepC hb7 bx
  replace hB := below_then hB hb7 hB.size
  clear hb7
  clear hZ
  go_wp2_with fail
  refine (S_TermOk S m d' xs T k d a w7 hS hT (by omega) (by omega)).mono ?_
  rintro e w8 ⟨rfl, hb8⟩
  replace hS := hS.below hb8
  replace hT := hT.below hb8
  replace hU := hU.below hb8
  replace hX := hX.below hb8
  replace hY := hY.below hb8
  replace bx := keepC hb8 bx
  replace hB := below_then hB hb8 hB.size
  clear hb8
  cases hx : Pl.termOk xs a
  · rw [HN1.out hx]
    clear hx HN1 HN2 HF
    go_wp2_with fail
    go_ret
    exact ⟨rfl, hB⟩
  go_wp2_with fail
  refine (S_TermOk S m d' xs U j q b w8 hS hU (by omega) (by omega)).mono ?_
  rintro e w9 ⟨rfl, hb9⟩
  replace hS := hS.below hb9
  replace hT := hT.below hb9
  replace hU := hU.below hb9
  replace hX := hX.below hb9
  replace hY := hY.below hb9
  replace bx := keepC hb9 bx
  replace hB := below_then hB hb9 hB.size
  clear hb9
  cases hy : Pl.termOk xs b
  · rw [HN2.out hx hy]
    clear hx hy HN1 HN2 HF
    go_wp2_with fail
    go_ret
    exact ⟨rfl, hB⟩
  obtain ⟨f1, f2, f3, r, f4, f5, f6⟩ := HF.out hx hy
  rw [f1]
  have F2 := Lib.hid f2
  have F3 := Lib.hid f3
  have F4 := Lib.hid f4
  have F5 := Lib.hid f5
  have F6 := Lib.hid f6
  have hr60 : r ≤ 60 := by rw [← f4]; exact bd_VarsOf _ _
  clear f1 f2 f3 f4 f5 f6 hx hy HN1 HN2 HF
  generalize V_Renamed xs a = x at *
  generalize V_Renamed xs b = y at *
  obtain ⟨E0, hE0⟩ : ∃ E0, decide (x = y) = E0 := ⟨_, rfl⟩
  rw [hE0]
  have HE0 := Lib.hid hE0
  clear hE0
  go_wp2_with fail
  refine (I_VarsOf S m d' xs X x.length cx x w9 hS hX.ri (by omega) (by omega)).mono ?_
  rintro e w10 ⟨V, cv, rfl, hV, hb10⟩
  rw [F4.out] at hV ⊢
  replace hS := hS.below hb10
  replace hT := hT.below hb10
  replace hX := hX.below hb10
  replace hY := hY.below hb10
  replace bx := keepC hb10 bx
  replace hB := below_then hB hb10 hB.size
  clear hb10
  go_wp2_with fail
  go_loopw [10] (fun v10 wr => ∃ i : Nat, i ≤ r ∧ v10 = .int .i64 i ∧ Below w10.heap.size w10 wr) (fun v10 _ => r - (intOf v10).toNat)
  case atStart => exact ⟨0, Nat.zero_le _, rfl, Below.refl _ _⟩
  case round =>
    obtain ⟨i, hi, rfl, hr⟩ := hrel
    by_cases hlt : i < r
    · obtain ⟨g, off, z, rfl, hc, hz⟩ := (hV.below hr).ri.at_ hlt
      obtain rfl : z = (i : Int) := hz.out.trans (F6.out i hlt)
      clear hz
      go_wp2_with fail
      go_roundw
      case rel => exact ⟨i + 1, by omega, by go_num, hr⟩
      case measure => simp [intOf]; omega
    · obtain rfl : i = r := by omega
      have hSr := hS.below hr
      have hTr := hT.below hr
      have hXr := (hX.below hr).ri
      have hxc := own_cap hX
      have hYr := (hY.below hr).ri
      have bxr := keepC hr bx
      have z0 : ((i : Int) == 0) = decide (i = 0) := by by_cases e : i = 0 <;> simp [e]
      have z1 : (i == 0) = decide (i = 0) := by by_cases e : i = 0 <;> simp [e]
      clear hV
      go_wp2_with fail
      go_region_held3 (fun w' => Below wr.heap.size wr w' ∧ w'.cell? ⟨G, 0, none⟩ = some (.slice S m d'))
        (first | exact ⟨(Below.refl _ _).drew, bxr⟩ | exact keepS1 ha1 (by assumption) | exact keepS1 ha2 (by assumption) | exact keepS1 ha3 (by assumption) | exact keepS1 ha4 (by assumption) | exact keepS1 ha5 (by assumption))
        ((first | (go_at_call 57; refine (I_VariantIn S m d' xs X x.length cx x T k d a _ ?_ ?_ ?_ (by omega) (by omega) (by omega)).mono ?_; exact riS hSr (by assumption); exact riS hXr (by assumption); exact riS hTr (by assumption); rintro e wa ⟨rfl, ha1⟩; rw [F2.out]) | (go_at_call 22; refine (I_SameTerm X x.length cx x Y y.length cy y _ ?_ ?_ (by omega) (by omega)).mono ?_; exact riS hXr (by assumption); exact riS hYr (by assumption); rintro e wb ⟨rfl, ha2⟩; rw [HE0.out]) | (go_at_call 61; refine (I_LinearIn S m d' xs X x.length cx x _ ?_ ?_ (by omega) (by omega) hxc.1 hxc.2).mono ?_; exact riS hSr (by assumption); exact riS hXr (by assumption); rintro e wc ⟨rfl, ha3⟩; rw [F3.out]) | (go_at_call 62; refine (S_LinearIn S m d' xs T k d a _ ?_ ?_ (by omega) (by omega) hkd hd).mono ?_; exact riS hSr (by assumption); exact riS hTr (by assumption); rintro e wd ⟨rfl, ha4⟩) | (go_at_call 63; refine (I_GroundIn S m d' xs X x.length cx x _ ?_ ?_ (by omega) (by omega)).mono ?_; exact riS hSr (by assumption); exact riS hXr (by assumption); rintro e we ⟨rfl, ha5⟩; rw [F5.out])))
      rename_i hq
      have hb11 := hq.1
      have hr2 := hr.trans (hb11.mono hr.size)
      go_wp2_with fail
      go_ret
      exact ⟨rfl, below_then hB hr2 hB.size⟩
theorem own : ownKnob Try.prog.godebug = none := by kernel_rfl
theorem laidOut : laidOutB Try.prog = true := by kernel_rfl

set_option maxRecDepth 100000 in
theorem lifted (os : Os) (started : os.Started) (H : Type) (enc : TypeId × Value → H) :
    ReturnsInHanded {} Try.checked os 9 .any (Rows.fnRenamedSpec.pre6 enc Try.prog Try.f9 Rows.fnRenamedRow.domain false) (Rows.fnRenamedSpec.post enc Try.prog Try.f9 false true false false) := by
  refine returnsInHanded_of_change (C := Try.checked) own started (by kernel_rfl) Try.func9
    (ChangeSpec.witness6 (enc := enc) (C := Try.checked) false ⟨#[], #[.slice none 0 0], []⟩ 8 (by kernel_rfl) (by kernel_rfl) (by kernel_rfl) (by kernel_rfl)) ?_
  intro W base args ds gs before hval0 hW hcnd _
  have hval : ∀ (j : Nat) t v, Try.f9.params[j]? = some t → args[j]? = some v → Value.okWide Try.prog W .any base t v := hval0
  have hW' := hW
  obtain ⟨p, q, hA0, hV, rfl, hfz, hnd⟩ := hW
  have hA : DataW.TrodAll enc Try.prog W 0 (fun _ => true) true Try.f9.params.toList args.toList ds p := hA0
  rw [Try.params9] at hA hval
  obtain ⟨v0, vs0, d0, ds0, p0, q0, hargs, rfl, rfl, h0, r0⟩ := trodAll_cons hA
  obtain ⟨rfl, rfl, rfl⟩ := trodAll_nil r0
  obtain rfl : args = #[v0] := by cases args; simp_all
  obtain ⟨rfl, rfl⟩ := trodVars_none hV
  have k0 := h0
  have lt0 : ∀ x ∈ p0, x.block < W.heap.size := by obtain ⟨m, hm⟩ := k0; exact DataW.trod_lt m _ _ _ hm
  obtain ⟨A0, n0, c0, rfl, R0, M0⟩ := open_raw Try.underlying22 Try.underlying5 (by kernel_rfl) (hval 0 22 v0 rfl rfl) h0
  unfold maxLen at M0
  clear hA0 hval0
  refine (walk A0 n0 c0 W R0 (by omega)).mono fun e W' ⟨he, bel⟩ => ?_
  subst he
  exact ⟨_, rfl, _, _, _, [], _, [], hW', trodAll_mk1 (shut_bool Try.underlying4 _), (trodAll_cons_mk (Below.trod laidOut (by kernel_rfl) (of_decide_eq_true (by kernel_rfl)) k0 bel lt0) trodAll_mk0), rfl, bel.frame _, fun h => by cases h⟩

theorem over : Rows.fnRenamedRow.holds Try.pinned (OpenSpec.ofChange Rows.fnRenamedSpec) :=
  OpenClaim.holds_of_wide 9 Try.f9 rfl rfl rfl rfl rfl rfl rfl ⟨rfl, rfl, rfl, rfl, rfl⟩ rfl rfl rfl rfl rfl (by kernel_rfl) Try.func9 (by kernel_rfl)
    (of_decide_eq_true (by kernel_rfl)) (by unfold Func.isWrapper; first | (rw [if_pos (by decide +kernel)]; kernel_rfl) | (rw [if_neg (by decide +kernel)]; exact ⟨rfl, rfl⟩))
    (fun os started H enc _ => lifted os started H enc)

theorem proved : Rows.FnRenamedSaid := over
end Go.Proofs.Ytihgolhpdnoooaa.lFnRenamed
