/- The law FnFilled: whatever the input, it returns true and leaves its argument alone. -/
import Derived.Test.YtihgolhpdnoooaaOpenB
import Derived.Test.YtihgolhpdnoooaaDrawV
import Derived.Test.YtihgolhpdnoooaaFcl
import Derived.Test.YtihgolhpdnoooaaComp
import Derived.Test.YtihgolhpdnoooaaFill2
import Derived.Test.YtihgolhpdnoooaaTop1
import Derived.Test.YtihgolhpdnoooaaDice
import Derived.Test.YtihgolhpdnoooaaRows
import Derived.Deep.RegionHeld3
namespace Go.Proofs.Ytihgolhpdnoooaa.lFnFilled
open Go.RowKit Go.ChangeShapes Go.WideShapes Go.ChangeAt
set_option linter.unusedVariables false
set_option linter.unusedSimpArgs false

/-- What the law says of two substitutions and a term. -/
theorem filled_not {xs : List Int} {x : List (List Int)} {t : List Int} (h : (V_Filled xs x t).2 = false) : (V_Filled xs x t).1 = [] := by
  unfold V_Filled at h ⊢
  split at h
  · rename_i h2
    rw [if_pos h2]
    have h3 : fillOk x t t.length = false := h
    show fillL x t t.length = []
    unfold fillL; rw [h3]; rfl
  · rename_i h2
    rw [if_neg h2]
theorem filled_facts {xs : List Int} {x u : List (List Int)} {t : List Int} (h1 : (V_Filled xs x t).2 = true) (h2 : (V_Composed xs x u).2 = true) (h3 : (V_Filled xs u (V_Filled xs x t).1).2 = true) :
    (V_Filled xs (V_Composed xs x u).1 t).2 = true ∧ (V_Filled xs (V_Composed xs x u).1 t).1 = (V_Filled xs u (V_Filled xs x t).1).1 ∧ substOk xs (V_Composed xs x u).1 = true := by
  cases e1 : (substOk xs x && Pl.termOk xs t)
  · rw [filled_no e1] at h1; cases h1
  have f1 := filled_yes rfl e1
  rw [Bool.and_eq_true] at e1
  rw [f1] at h1 h3 ⊢
  have h1 : fillOk x t t.length = true := h1
  have h3 : (V_Filled xs u (fillL x t t.length)).2 = true := h3
  cases e2 : substOk xs u
  · rw [composed_no2 e1.1 e2] at h2; cases h2
  rw [composed_yes e1.1 e2] at h2 ⊢
  cases e3 : cmpOk x u 24
  · rw [cmpU_no e3] at h2; cases h2
  rw [cmpU_yes e3]
  show (V_Filled xs (plainU (cmpR x u 24)) t).2 = true ∧ (V_Filled xs (plainU (cmpR x u 24)) t).1 = (V_Filled xs u (fillL x t t.length)).1 ∧ substOk xs (plainU (cmpR x u 24)) = true
  have hok := cmpU_ok e1.1 e2 e3
  have hft := fill_term e1.1 e1.2 h1
  have hc := fill_cmp e3 (fun v hv => (Pl.termOk_ge e1.2 v hv).1) h1
  have g1 := filled_yes (xs := xs) (x := u) (t := fillL x t t.length) rfl (by rw [e2, hft]; rfl)
  have g2 := filled_yes (xs := xs) (x := plainU (cmpR x u 24)) (t := t) rfl (by rw [hok, e1.2]; rfl)
  rw [g1] at h3 ⊢
  rw [g2]
  have h3 : fillOk u (fillL x t t.length) (fillL x t t.length).length = true := h3
  have h4 : fillOk (plainU (cmpR x u 24)) t t.length = true := by
    unfold fillOk at h3 ⊢
    rw [hc]; exact h3
  refine ⟨h4, ?_, hok⟩
  show fillL (plainU (cmpR x u 24)) t t.length = fillL u (fillL x t t.length) (fillL x t t.length).length
  rw [fillL_yes h4, fillL_yes h3, hc]
set_option maxHeartbeats 4000000 in
set_option maxRecDepth 20000 in
theorem walk (A : Option Addr) (n c : Nat) (w : World) (h : BI w A n) (hn : n ≤ 9223372036854775807) :
    Calls Try.prog 8 #[.slice A n c] w fun e w' => e = .returned (.bool true) ∧ Below w.heap.size w w' := by
  by_cases hb : 4096 < n
  · have E := Lib.hid (decide_eq_true hb)
    go_enter Try.func8, Try.ntmps8
    go_wp2_with fail
    refine (big_any A n c _ hn).mono ?_
    rintro e w1 ⟨rfl, rfl⟩
    rw [E.out]
    go_wp2_with fail
    go_ret
    exact ⟨rfl, Below.refl _ _⟩
  have hn2 : n ≤ 4096 := by omega
  have E := Lib.hid (decide_eq_false hb)
  clear hb
  go_enter Try.func8, Try.ntmps8
  go_wp2_with fail
  refine (big_any A n c _ hn).mono ?_
  rintro e w1 ⟨rfl, rfl⟩
  rw [E.out]
  go_wp2_with fail
  refine (DrawFilled_any A n c w h hn2).mono ?_
  rintro e w1 ⟨S, m, d', xs, U, j, b, x, T, k, d, t, rfl, hS, hm, ⟨hU, hwx, hj⟩, hT, hk, ⟨hkd, hd⟩, hB⟩
  replace h := h.below hB
  have bx : ((w1.alloc (.cells #[.slice S m d'] 26)).alloc (.cells #[.slice U j b] 51)).cell? ⟨w1.heap.size, 0, none⟩ = some (.slice S m d') := ((Blk.new w1 26 #[.slice S m d']).alloc _).cell 0
  have bu : ((w1.alloc (.cells #[.slice S m d'] 26)).alloc (.cells #[.slice U j b] 51)).cell? ⟨w1.heap.size + 1, 0, none⟩ = some (.slice U j b) := by
    have := (show _ = some (Value.slice U j b) from (Blk.new (w1.alloc (.cells #[.slice S m d'] 26)) 51 #[.slice U j b]).cell 0)
    simpa only [World.size_alloc] using this
  go_wp2_with fail
  have hb1 := ((Below.refl w1.heap.size w1).alloc (Nat.le_refl _) (.cells #[.slice S m d'] 26)).alloc (by simp) (.cells #[.slice U j b] 51)
  replace h := h.below hb1
  replace hS := hS.below hb1
  replace hU := hU.below hb1
  replace hT := hT.below hb1
  replace hB := below_then hB hb1 hB.size
  clear hb1
  generalize (w1.alloc (.cells #[.slice S m d'] 26)).alloc (.cells #[.slice U j b] 51) = W1 at *
  generalize w1.heap.size = G at *
  refine (DrawComposed_any A n c W1 h hn2).mono ?_
  rintro e w2 ⟨S2, m2, d2, xs2, U2, j2, b2, x2, V, k2, v2, u, rfl, _, _, _, ⟨hV, hwu, hk2⟩, hb2⟩
  replace hS := hS.below hb2
  replace hU := hU.below hb2
  replace hT := hT.below hb2
  replace bx := keepC hb2 bx
  replace bu := keepC hb2 bu
  replace hB := below_then hB hb2 hB.size
  clear hb2
  have bv : (((w2.alloc (.cells #[.slice S2 m2 d2] 26)).alloc (.cells #[.slice U2 j2 b2] 51)).alloc (.cells #[.slice V k2 v2] 51)).cell? ⟨w2.heap.size + 1 + 1, 0, none⟩ = some (.slice V k2 v2) := by
    have := (show _ = some (Value.slice V k2 v2) from (Blk.new ((w2.alloc (.cells #[.slice S2 m2 d2] 26)).alloc (.cells #[.slice U2 j2 b2] 51)) 51 #[.slice V k2 v2]).cell 0)
    simpa only [World.size_alloc] using this
  have hb3 := (((Below.refl w2.heap.size w2).alloc (Nat.le_refl _) (.cells #[.slice S2 m2 d2] 26)).alloc (by simp) (.cells #[.slice U2 j2 b2] 51)).alloc (by simp; omega) (.cells #[.slice V k2 v2] 51)
  have bx2 := keepC hb3 bx
  have bu2 := keepC hb3 bu
  have K1 : ∀ i, (((w2.alloc (.cells #[.slice S2 m2 d2] 26)).alloc (.cells #[.slice U2 j2 b2] 51)).alloc (.cells #[.slice V k2 v2] 51)).cell? ⟨w2.heap.size, i, none⟩ = #[Value.slice S2 m2 d2][i]? := fun i => (((Blk.new w2 26 #[.slice S2 m2 d2]).alloc _).alloc _).cell i
  go_wp2_with fail
  clear K1 bx2 bu2
  replace hS := hS.below hb3
  replace hU := hU.below hb3
  replace hT := hT.below hb3
  replace hV := hV.below hb3
  replace bx := keepC hb3 bx
  replace bu := keepC hb3 bu
  replace hB := below_then hB hb3 hB.size
  clear hb3
  generalize ((w2.alloc (.cells #[.slice S2 m2 d2] 26)).alloc (.cells #[.slice U2 j2 b2] 51)).alloc (.cells #[.slice V k2 v2] 51) = W2 at *
  generalize w2.heap.size = G2 at *
  have hX60 := bd_Filled xs x t
  have HN := Lib.hid (fun h => filled_not (xs := xs) (x := x) (t := t) h)
  have HF := Lib.hid (fun h1 h2 h3 => filled_facts (xs := xs) (x := x) (u := u) (t := t) h1 h2 h3)
  refine (I_Filled S m d' xs U j b x T k d t W2 hS hU hT (by omega) (by omega) (by omega)).mono ?_
  rintro e w3 ⟨X, cx, rfl, hX, hb4⟩
  replace hS := hS.below hb4
  replace hU := hU.below hb4
  replace hT := hT.below hb4
  replace hV := hV.below hb4
  replace bx := keepC hb4 bx
  replace bu := keepC hb4 bu
  replace bv := keepC hb4 bv
  replace hB := below_then hB hb4 hB.size
  clear hb4
  go_wp2_with fail
  refine (S_Filled S m d' xs U j b x T k d t w3 hS hU hT (by omega) (by omega) (by omega)).mono ?_
  rintro e w4 ⟨Y, cy, rfl, hY, hb5⟩
  replace hS := hS.below hb5
  replace hU := hU.below hb5
  replace hT := hT.below hb5
  replace hV := hV.below hb5
  replace hX := hX.below hb5
  replace bx := keepC hb5 bx
  replace bu := keepC hb5 bu
  replace bv := keepC hb5 bv
  replace hB := below_then hB hb5 hB.size
  clear hb5
  generalize hVe : V_Filled xs x t = P at *
  obtain ⟨r, is⟩ := P
  simp only at hX hY hX60 HN HF ⊢
  go_wp2_with fail
  refine (I_SameTerm X r.length cx r Y r.length cy r w4 hX.ri hY.ri (by omega) (by omega)).mono ?_
  rintro e w5 ⟨rfl, hb6⟩
  rw [show decide (r = r) = true from decide_eq_true rfl]
  replace hS := hS.below hb6
  replace hU := hU.below hb6
  replace hT := hT.below hb6
  replace hV := hV.below hb6
  replace hX := hX.below hb6
  replace bx := keepC hb6 bx
  replace bu := keepC hb6 bu
  replace bv := keepC hb6 bv
  replace hB := below_then hB hb6 hB.size
  clear hb6
  clear hY
  go_wp2_with fail
  have hC24 := bd_Composed xs x u
  have hCw := bw_Composed xs x u
  refine (I_Composed S m d' xs U j b x V k2 v2 u w5 hS hU hV (by omega) (by omega) (by omega)).mono ?_
  rintro e w6 ⟨Z, cz, rfl, hZ, hb7⟩
  replace hS := hS.below hb7
  replace hU := hU.below hb7
  replace hT := hT.below hb7
  replace hV := hV.below hb7
  replace hX := hX.below hb7
  replace bx := keepC hb7 bx
  replace bu := keepC hb7 bu
  replace bv := keepC hb7 bv
  replace hB := below_then hB hb7 hB.size
  clear hb7
  generalize hCe : V_Composed xs x u = Q at *
  obtain ⟨q, one⟩ := Q
  simp only at hZ hC24 hCw HF ⊢
  have bz : (w6.alloc (.cells #[.slice Z q.length cz] 51)).cell? ⟨w6.heap.size, 0, none⟩ = some (.slice Z q.length cz) := (Blk.new w6 51 #[.slice Z q.length cz]).cell 0
  have hb8 := (Below.refl w6.heap.size w6).alloc (Nat.le_refl _) (.cells #[.slice Z q.length cz] 51)
  have bx2 := keepC hb8 bx
  have bv2 := keepC hb8 bv
  go_wp2_with fail
  clear bx2 bv2
  replace hS := hS.below hb8
  replace hT := hT.below hb8
  replace hV := hV.below hb8
  replace hX := hX.below hb8
  replace hZ := hZ.below hb8
  replace bx := keepC hb8 bx
  replace bv := keepC hb8 bv
  replace hB := below_then hB hb8 hB.size
  clear hb8
  generalize w6.alloc (.cells #[.slice Z q.length cz] 51) = W6 at *
  generalize w6.heap.size = G6 at *
  have hy60 := bd_Filled xs u r
  refine (I_Filled S m d' xs V k2 v2 u X r.length cx r W6 hS hV hX.ri (by omega) (by omega) (by omega)).mono ?_
  rintro e w7 ⟨Y, cy, rfl, hY, hb9⟩
  replace hS := hS.below hb9
  replace hT := hT.below hb9
  replace hZ := hZ.below hb9
  replace bx := keepC hb9 bx
  replace bz := keepC hb9 bz
  replace hB := below_then hB hb9 hB.size
  clear hb9
  generalize hYe : V_Filled xs u r = P at *
  obtain ⟨y, two⟩ := P
  simp only at hY hy60 HF ⊢
  go_wp2_with fail
  have hz60 := bd_Filled xs q t
  refine (I_Filled S m d' xs Z q.length cz q T k d t w7 hS hZ.rd hT (by omega) (by omega) (by omega)).mono ?_
  rintro e w8 ⟨R, cr, rfl, hR, hb10⟩
  replace hS := hS.below hb10
  replace hY := hY.below hb10
  replace hZ := hZ.below hb10
  replace bx := keepC hb10 bx
  replace bz := keepC hb10 bz
  replace hB := below_then hB hb10 hB.size
  clear hb10
  generalize hRe : V_Filled xs q t = P at *
  obtain ⟨z, three⟩ := P
  simp only at hR hz60 HF ⊢
  clear hVe hCe hYe hRe
  cases is
  · obtain rfl := HN.out rfl
    clear HN HF
    go_wp2_with fail
    go_ret
    exact ⟨rfl, hB⟩
  cases one
  · clear HN HF
    go_wp2_with fail
    go_ret
    exact ⟨rfl, hB⟩
  cases two
  · clear HN HF
    go_wp2_with fail
    go_ret
    exact ⟨rfl, hB⟩
  obtain ⟨rfl, rfl, f3⟩ := HF.out rfl rfl rfl
  have F3 := Lib.hid f3
  clear HN HF f3
  go_wp2_with fail
  refine (I_SameTerm Y _ cy _ R _ cr _ w8 hY.ri hR.ri (by omega) (by omega)).mono ?_
  rintro e w9 ⟨rfl, hb11⟩
  rw [decide_eq_true rfl]
  replace hS := hS.below hb11
  replace hZ := hZ.below hb11
  replace bx := keepC hb11 bx
  replace bz := keepC hb11 bz
  replace hB := below_then hB hb11 hB.size
  clear hb11
  go_wp2_with fail
  refine (I_SubstOk S m d' xs Z q.length cz q w9 hS hZ.rd (by omega) (by omega)).mono ?_
  rintro e w10 ⟨rfl, hb12⟩
  rw [F3.out]
  replace hS := hS.below hb12
  replace hB := below_then hB hb12 hB.size
  clear hb12
  go_wp2_with fail
  go_ret
  exact ⟨rfl, hB⟩
theorem own : ownKnob Try.prog.godebug = none := by kernel_rfl
theorem laidOut : laidOutB Try.prog = true := by kernel_rfl

set_option maxRecDepth 100000 in
theorem lifted (os : Os) (started : os.Started) (H : Type) (enc : TypeId × Value → H) :
    ReturnsInHanded {} Try.checked os 8 .any (Rows.fnFilledSpec.pre6 enc Try.prog Try.f8 Rows.fnFilledRow.domain false) (Rows.fnFilledSpec.post enc Try.prog Try.f8 false true false false) := by
  refine returnsInHanded_of_change (C := Try.checked) own started (by kernel_rfl) Try.func8
    (ChangeSpec.witness6 (enc := enc) (C := Try.checked) false ⟨#[], #[.slice none 0 0], []⟩ 8 (by kernel_rfl) (by kernel_rfl) (by kernel_rfl) (by kernel_rfl)) ?_
  intro W base args ds gs before hval0 hW hcnd _
  have hval : ∀ (j : Nat) t v, Try.f8.params[j]? = some t → args[j]? = some v → Value.okWide Try.prog W .any base t v := hval0
  have hW' := hW
  obtain ⟨p, q, hA0, hV, rfl, hfz, hnd⟩ := hW
  have hA : DataW.TrodAll enc Try.prog W 0 (fun _ => true) true Try.f8.params.toList args.toList ds p := hA0
  rw [Try.params8] at hA hval
  obtain ⟨v0, vs0, d0, ds0, p0, q0, hargs, rfl, rfl, h0, r0⟩ := trodAll_cons hA
  obtain ⟨rfl, rfl, rfl⟩ := trodAll_nil r0
  obtain rfl : args = #[v0] := by cases args; simp_all
  obtain ⟨rfl, rfl⟩ := trodVars_none hV
  have k0 := h0
  have lt0 : ∀ x ∈ p0, x.block < W.heap.size := by obtain ⟨m, hm⟩ := k0; exact DataW.trod_lt m _ _ _ hm
  obtain ⟨A0, n0, c0, rfl, R0, M0⟩ := open_raw Try.underlying22 Try.underlying5 (by kernel_rfl) (hval 0 22 v0 rfl rfl) h0
  unfold maxLen at M0
  clear hA0 hval0
  refine (walk A0 n0 c0 W R0 (by omega)).mono fun e W' ⟨he, bel⟩ => ?_
  subst he
  exact ⟨_, rfl, _, _, _, [], _, [], hW', trodAll_mk1 (shut_bool Try.underlying4 _), (trodAll_cons_mk (Below.trod laidOut (by kernel_rfl) (of_decide_eq_true (by kernel_rfl)) k0 bel lt0) trodAll_mk0), rfl, bel.frame _, fun h => by cases h⟩

theorem over : Rows.fnFilledRow.holds Try.pinned (OpenSpec.ofChange Rows.fnFilledSpec) :=
  OpenClaim.holds_of_wide 8 Try.f8 rfl rfl rfl rfl rfl rfl rfl ⟨rfl, rfl, rfl, rfl, rfl⟩ rfl rfl rfl rfl rfl (by kernel_rfl) Try.func8 (by kernel_rfl)
    (of_decide_eq_true (by kernel_rfl)) (by unfold Func.isWrapper; first | (rw [if_pos (by decide +kernel)]; kernel_rfl) | (rw [if_neg (by decide +kernel)]; exact ⟨rfl, rfl⟩))
    (fun os started H enc _ => lifted os started H enc)

theorem proved : Rows.FnFilledSaid := over
end Go.Proofs.Ytihgolhpdnoooaa.lFnFilled
