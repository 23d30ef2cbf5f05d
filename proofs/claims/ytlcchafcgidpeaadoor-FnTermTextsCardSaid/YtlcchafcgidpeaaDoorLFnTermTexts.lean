/- The law FnTermTexts: whatever the input, it returns true and leaves its argument alone. -/
import Derived.Test.YtlcchafcgidpeaaDoorOpenB
import Derived.Test.YtlcchafcgidpeaaDoorDrawX
import Derived.Test.YtlcchafcgidpeaaDoorTxtU
import Derived.Test.YtlcchafcgidpeaaDoorTop1
import Derived.Test.YtlcchafcgidpeaaDoorTerm2
import Derived.Test.YtlcchafcgidpeaaDoorBig
import Derived.Test.YtlcchafcgidpeaaDoorRows
import Derived.Test.YtlcchafcgidpeaaDoorTie
import Derived.Test.YtlcchafcgidpeaaDoorCards
import Derived.ProofKit
import Derived.Lay
import Derived.SevenTiedAt
namespace Go.Proofs.YtlcchafcgidpeaaDoor.lFnTermTexts
open Go.RowKit Go.ChangeShapes Go.WideShapes Go.ChangeAt
set_option linter.unusedVariables false
set_option linter.unusedSimpArgs false

theorem VT_yes {xs y : List Int} {s : ByteArray} (h : V_TextTerm xs s = (y, true)) : Pl.readT xs s.data.toList = some y := by
  by_cases h4 : 400 < s.size
  · rw [V_TextTerm_long h4] at h; cases h
  · cases hq : Pl.readT xs s.data.toList with
    | none => rw [V_TextTerm_none hq] at h; cases h
    | some t => rw [V_TextTerm_some h4 hq] at h; cases h; rfl
theorem again {xs y : List Int} {u : ByteArray} (h : V_TextTerm xs u = (y, true)) : (⟨(V_TermText xs y).toArray⟩ : ByteArray) = u := by
  obtain ⟨h1, h2⟩ := Pl.readT_iff.1 (VT_yes h)
  rw [V_TermText_yes h1, h2]
theorem there {xs t : List Int} (h : V_TermText xs t ≠ []) : V_TextTerm xs ⟨(V_TermText xs t).toArray⟩ = (t, true) := by
  cases hok : Pl.termOk xs t
  · exact absurd (V_TermText_no hok) h
  · have hl := V_TermText_len xs t
    exact V_TextTerm_some (by simp [ByteArray.size]; omega) (Pl.readT_iff.2 ⟨hok, (V_TermText_yes hok).symm⟩)
set_option maxHeartbeats 4000000 in
set_option maxRecDepth 20000 in
theorem walk (A : Option Addr) (n c : Nat) (w : World) (h : BI w A n) (hn : n ≤ 9223372036854775807) :
    Calls Tryd.prog 10 #[.slice A n c] w fun e w' => e = .returned (.bool true) ∧ Below w.heap.size w w' := by
  by_cases hb : 4096 < n
  · have E := Lib.hid (decide_eq_true hb)
    go_enter Tryd.func10, Tryd.ntmps10
    go_wp2_with fail
    refine (big_any A n c _ hn).mono ?_
    rintro e w1 ⟨rfl, rfl⟩
    rw [E.out]
    go_wp2_with fail
    go_ret
    exact ⟨rfl, Below.refl _ _⟩
  have hn2 : n ≤ 4096 := by omega
  have E := Lib.hid (decide_eq_false hb)
  clear hb
  go_enter Tryd.func10, Tryd.ntmps10
  go_wp2_with fail
  refine (big_any A n c _ hn).mono ?_
  rintro e w1 ⟨rfl, rfl⟩
  rw [E.out]
  go_wp2_with fail
  refine (DrawTermText_any A n c w h hn2).mono ?_
  rintro e w1 ⟨S, m, d', xs, T, k, d, t, rfl, hS, hm, hT, hk, hB⟩
  replace h := h.below hB
  have bx : (w1.alloc (.cells #[.slice S m d'] 30)).cell? ⟨w1.heap.size, 0, none⟩ = some (.slice S m d') := (Blk.new w1 30 #[.slice S m d']).cell 0
  go_wp2_with fail
  replace hS := hS.alloc (.cells #[.slice S m d'] 30)
  replace hT := hT.alloc (.cells #[.slice S m d'] 30)
  replace h := h.below ((Below.refl _ _).alloc (Nat.le_refl _) (.cells #[.slice S m d'] 30))
  replace hB := hB.alloc hB.size (.cells #[.slice S m d'] 30)
  generalize w1.alloc (.cells #[.slice S m d'] 30) = W1 at *
  generalize w1.heap.size = g1 at *
  refine (I_TermText S m d' xs T k d t W1 hS hT (by omega) (by omega)).mono ?_
  rintro e w2 ⟨rfl, hb2⟩
  replace hS := hS.below hb2
  replace hT := hT.below hb2
  replace h := h.below hb2
  replace bx := keepC hb2 bx
  replace hB := below_then hB hb2 hB.size
  clear hb2
  go_wp2_with fail
  refine (S_TermText S m d' xs T k d t w2 hS hT (by omega) (by omega)).mono ?_
  rintro e w3 ⟨rfl, hb3⟩
  replace hS := hS.below hb3
  replace hT := hT.below hb3
  replace h := h.below hb3
  replace bx := keepC hb3 bx
  replace hB := below_then hB hb3 hB.size
  clear hb3
  have htl := V_TermText_len xs t
  have hth := fun hne => there (xs := xs) (t := t) hne
  have HTH := Lib.hid hth
  clear hth E
  obtain ⟨TX, hTX⟩ : ∃ TX, V_TermText xs t = TX := ⟨_, rfl⟩
  rw [hTX] at htl HTH ⊢
  clear hTX
  by_cases hne : TX = []
  · subst hne
    clear HTH htl hS hT bx
    go_wp2_with fail
    refine (DrawTextTerm_any A n c w3 h hn2).mono ?_
    rintro e w6 ⟨Q, mq, dq, qs, u, rfl, hQ, hmq, hu, hb6⟩
    replace hB := below_then hB hb6 hB.size
    clear hb6 h
    have bq : (w6.alloc (.cells #[.slice Q mq dq] 30)).cell? ⟨w6.heap.size, 0, none⟩ = some (.slice Q mq dq) := (Blk.new w6 30 #[.slice Q mq dq]).cell 0
    go_wp2_with fail
    replace hQ := hQ.alloc (.cells #[.slice Q mq dq] 30)
    replace hB := hB.alloc hB.size (.cells #[.slice Q mq dq] 30)
    generalize w6.alloc (.cells #[.slice Q mq dq] 30) = W6 at *
    generalize w6.heap.size = g6 at *
    have hyl := bd_TextTerm qs u
    have hag := fun y (hv : V_TextTerm qs u = (y, true)) => again hv
    have HAG := Lib.hid hag
    clear hag
    refine (I_TextTerm Q mq dq qs u W6 hQ (by omega) (by omega)).mono ?_
    rintro e w7 ⟨A7, c7, rfl, ho7, hb7⟩
    replace hQ := hQ.below hb7
    replace bq := keepC hb7 bq
    replace hB := below_then hB hb7 hB.size
    clear hb7
    obtain ⟨⟨y, b⟩, hv⟩ : ∃ z, V_TextTerm qs u = z := ⟨_, rfl⟩
    have HV7 := Lib.hid hv
    rw [hv] at ho7 hyl ⊢
    clear hv
    dsimp only at ho7 hyl ⊢
    go_wp2_with fail
    refine (S_TextTerm Q mq dq qs u w7 hQ (by omega) (by omega)).mono ?_
    rw [HV7.out]
    rintro e w8 ⟨A8, c8, rfl, ho8, hb8⟩
    have hR8 := (ho7.below hb8).ri
    replace hQ := hQ.below hb8
    replace bq := keepC hb8 bq
    replace hB := below_then hB hb8 hB.size
    clear hb8
    clear ho7 ho8
    cases b
    · go_wp2_with fail
      go_ret
      exact ⟨rfl, hB⟩
    · have HZ := Lib.hid (HAG.out y HV7.out)
      clear HAG HV7
      go_wp2_with fail
      refine (I_TermText Q mq dq qs A7 y.length c7 y w8 hQ hR8 (by omega) (by omega)).mono ?_
      rintro e w9 ⟨rfl, hb9⟩
      rw [HZ.out]
      replace hB := below_then hB hb9 hB.size
      go_wp2_with fail
      go_ret
      exact ⟨rfl, hB⟩
  · have hz0 : TX.isEmpty = false := by cases TX with
      | nil => exact absurd rfl hne
      | cons a l => rfl
    have hz : (!TX.isEmpty) = true := by rw [hz0]; rfl
    have HV := Lib.hid (HTH.out hne)
    have htl4 : (TX.length : Int) ≤ 400 := by omega
    clear HTH
    go_wp2_with fail
    refine (I_TextTerm S m d' xs ⟨TX.toArray⟩ w3 hS (by omega) (by simp [ByteArray.size]; omega)).mono ?_
    rw [HV.out]
    rintro e w4 ⟨A4, c4, rfl, ho4, hb4⟩
    replace hS := hS.below hb4
    replace hT := hT.below hb4
    replace h := h.below hb4
    replace hB := below_then hB hb4 hB.size
    clear hb4
    have hR4 := ho4.ri
    clear ho4
    go_wp2_with fail
    refine (I_SameTerm A4 t.length c4 t T k d t w4 hR4 hT (by have := hT.1; omega) (by omega)).mono ?_
    rintro e w5 ⟨rfl, hb5⟩
    rw [decide_eq_true rfl]
    replace h := h.below hb5
    replace hB := below_then hB hb5 hB.size
    clear hb5
    clear hS hT hR4 bx htl htl4
    go_wp2_with fail
    refine (DrawTextTerm_any A n c w5 h hn2).mono ?_
    rintro e w6 ⟨Q, mq, dq, qs, u, rfl, hQ, hmq, hu, hb6⟩
    replace hB := below_then hB hb6 hB.size
    clear hb6 h
    have bq : (w6.alloc (.cells #[.slice Q mq dq] 30)).cell? ⟨w6.heap.size, 0, none⟩ = some (.slice Q mq dq) := (Blk.new w6 30 #[.slice Q mq dq]).cell 0
    go_wp2_with fail
    replace hQ := hQ.alloc (.cells #[.slice Q mq dq] 30)
    replace hB := hB.alloc hB.size (.cells #[.slice Q mq dq] 30)
    generalize w6.alloc (.cells #[.slice Q mq dq] 30) = W6 at *
    generalize w6.heap.size = g6 at *
    have hyl := bd_TextTerm qs u
    have hag := fun y (hv : V_TextTerm qs u = (y, true)) => again hv
    have HAG := Lib.hid hag
    clear hag
    refine (I_TextTerm Q mq dq qs u W6 hQ (by omega) (by omega)).mono ?_
    rintro e w7 ⟨A7, c7, rfl, ho7, hb7⟩
    replace hQ := hQ.below hb7
    replace bq := keepC hb7 bq
    replace hB := below_then hB hb7 hB.size
    clear hb7
    obtain ⟨⟨y, b⟩, hv⟩ : ∃ z, V_TextTerm qs u = z := ⟨_, rfl⟩
    have HV7 := Lib.hid hv
    rw [hv] at ho7 hyl ⊢
    clear hv
    dsimp only at ho7 hyl ⊢
    go_wp2_with fail
    refine (S_TextTerm Q mq dq qs u w7 hQ (by omega) (by omega)).mono ?_
    rw [HV7.out]
    rintro e w8 ⟨A8, c8, rfl, ho8, hb8⟩
    have hR8 := (ho7.below hb8).ri
    replace hQ := hQ.below hb8
    replace bq := keepC hb8 bq
    replace hB := below_then hB hb8 hB.size
    clear hb8
    clear ho7 ho8
    cases b
    · go_wp2_with fail
      go_ret
      exact ⟨rfl, hB⟩
    · have HZ := Lib.hid (HAG.out y HV7.out)
      clear HAG HV7
      go_wp2_with fail
      refine (I_TermText Q mq dq qs A7 y.length c7 y w8 hQ hR8 (by omega) (by omega)).mono ?_
      rintro e w9 ⟨rfl, hb9⟩
      rw [HZ.out]
      replace hB := below_then hB hb9 hB.size
      go_wp2_with fail
      go_ret
      exact ⟨rfl, hB⟩

theorem own : ownKnob Tryd.prog.godebug = none := by kernel_rfl
theorem laidOut : laidOutB Tryd.prog = true := by kernel_rfl

set_option maxRecDepth 100000 in
theorem lifted (os : Os) (started : os.Started) (H : Type) (enc : TypeId × Value → H) :
    ReturnsInHanded {} Tryd.checked os 10 .any (fun w args => (Rows.fnTermTextsSpec.pre enc Tryd.prog Tryd.f10 [] false w args ∧ laidMetH Tryd.prog Rows.fnTermTextsRow.laid w) ∧ sizedMet enc Tryd.prog Tryd.f10 (OpenSpec.ofChange Rows.fnTermTextsSpec) false w args) (Rows.fnTermTextsSpec.post enc Tryd.prog Tryd.f10 false true false false) := by
  refine returnsInHanded_of_change_and (C := Tryd.checked) (X := fun w _ => laidMetH Tryd.prog Rows.fnTermTextsRow.laid w) (fun _ _ _ hh h => h.of_heap hh) own started (by kernel_rfl) Tryd.func10
    (ChangeSpec.witness_shaped (enc := enc) (C := Tryd.checked) (os := os) (X := fun w _ => laidMetH Tryd.prog Rows.fnTermTextsRow.laid w) false (World.laidAll Tryd.prog os Rows.fnTermTextsRow.laid) #[.slice none 0 0] 8 (World.laidAll_os _ _ _)
      (World.shaped_of_ZipB (by kernel_rfl) (by kernel_rfl)) (by kernel_rfl) (by kernel_rfl) (by kernel_rfl)
      (by rw [MakeChecks.laidMetH_plain _ _ _ (by kernel_rfl)]; exact laidMet_laidAll _ (by kernel_rfl) (by kernel_rfl))) ?_
  intro W base args ds gs before hval0 hW hcnd _ hL _
  have hval : ∀ (j : Nat) t v, Tryd.f10.params[j]? = some t → args[j]? = some v → Value.okWide Tryd.prog W .any base t v := hval0
  have hW' := hW
  obtain ⟨p, q, hA0, hV, rfl, hfz, hnd⟩ := hW
  have hA : DataW.TrodAll enc Tryd.prog W 0 (fun _ => true) true Tryd.f10.params.toList args.toList ds p := hA0
  rw [Tryd.params10] at hA hval
  obtain ⟨v0, vs0, d0, ds0, p0, q0, hargs, rfl, rfl, h0, r0⟩ := trodAll_cons hA
  obtain ⟨rfl, rfl, rfl⟩ := trodAll_nil r0
  obtain rfl : args = #[v0] := by cases args; simp_all
  obtain ⟨rfl, rfl⟩ := trodVars_none hV
  have k0 := h0
  have lt0 : ∀ x ∈ p0, x.block < W.heap.size := by obtain ⟨m, hm⟩ := k0; exact DataW.trod_lt m _ _ _ hm
  obtain ⟨A0, n0, c0, rfl, R0, M0⟩ := open_raw Tryd.underlying63 Tryd.underlying5 (by kernel_rfl) (hval 0 63 v0 rfl rfl) h0
  unfold maxLen at M0
  clear hA0 hval0
  refine (walk A0 n0 c0 W R0 (by omega)).mono fun e W' ⟨he, bel⟩ => ?_
  subst he
  exact ⟨_, rfl, _, _, _, [], _, [], hW', trodAll_mk1 (shut_bool Tryd.underlying4 _), (trodAll_cons_mk (Below.trod laidOut (by kernel_rfl) (of_decide_eq_true (by kernel_rfl)) k0 bel lt0) trodAll_mk0), rfl, bel.frame _, fun h => by cases h⟩

theorem over : Rows.fnTermTextsRow.holds Tryd.pinned (OpenSpec.ofChange Rows.fnTermTextsSpec) :=
  OpenClaim.holds_of_wide 10 Tryd.f10 rfl rfl rfl rfl rfl rfl rfl ⟨rfl, rfl, rfl, rfl, rfl⟩ rfl rfl rfl rfl rfl (by kernel_rfl) Tryd.func10 (by kernel_rfl)
    (of_decide_eq_true (by kernel_rfl)) (by unfold Func.isWrapper; first | (rw [if_pos (by decide +kernel)]; kernel_rfl) | (rw [if_neg (by decide +kernel)]; exact ⟨rfl, rfl⟩))
    (fun os started H enc _ => lifted os started H enc)

/-- The tied card, out of the row's statement and the given tie. -/
theorem proved : Rows.FnTermTextsCardSaid :=
  Claim7.holds_tied_plain_at .later [] [.data, .data, .data] true _ false
    over (fun _ h => by cases h) (by kernel_rfl) (fun _ h => by cases h) fnTermTexts_row_tie rfl ⟨rfl, rfl⟩ (by kernel_rfl) rfl
    (fun f fn hf hfn => by
      obtain rfl : f = 10 := Option.some.inj ((show Tryd.prog.funcNamed Rows.fnTermTextsRow.func = some 10 by kernel_rfl).symm.trans hf) |>.symm
      obtain rfl : fn = Tryd.f10 := (Option.some.inj (Tryd.func10.symm.trans hfn)).symm
      exact ⟨by kernel_rfl, fun j t ht => by
        rw [Tryd.params10] at ht
        have hm : t ∈ [63] := by simpa using Array.mem_of_getElem? ht
        have hall : ([63].all fun u => !Tryd.prog.wantsStandIn u) = true := by kernel_rfl
        exact (show Tryd.prog.wantsStandIn t = false by simpa using List.all_eq_true.1 hall t hm)⟩)
    (by kernel_rfl)
end Go.Proofs.YtlcchafcgidpeaaDoor.lFnTermTexts
