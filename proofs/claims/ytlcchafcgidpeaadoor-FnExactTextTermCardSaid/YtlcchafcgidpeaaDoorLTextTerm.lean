/- The statement FnExactTextTerm: whatever the input, it returns true and leaves its arguments alone. No conditions. -/
import Derived.Test.YtlcchafcgidpeaaDoorTxtU
import Derived.Test.YtlcchafcgidpeaaDoorMark
import Derived.Test.YtlcchafcgidpeaaDoorTerm2
import Derived.Test.YtlcchafcgidpeaaDoorOpen
import Derived.Test.YtlcchafcgidpeaaDoorRows
import Derived.Deep.RegionHeld3
import Derived.Test.YtlcchafcgidpeaaDoorTie
import Derived.Test.YtlcchafcgidpeaaDoorCards
import Derived.ProofKit
import Derived.Lay
import Derived.SevenTiedAt
namespace Go.Proofs.YtlcchafcgidpeaaDoor.lTextTerm
open Go.RowKit Go.ChangeShapes Go.WideShapes Go.ChangeAt
open Go.ChangeMaps (open_string shut_string)
set_option linter.unusedVariables false
set_option linter.unusedSimpArgs false

set_option maxHeartbeats 8000000 in
set_option maxRecDepth 100000 in
theorem walk (A0_0 : Option Addr) (n0_0 c0_0 : Nat) (x0_0 : List Int) (t1_0 : ByteArray) (w : World) (h0_0 : RI w A0_0 n0_0 x0_0) (m0_0 : n0_0 ≤ 9223372036854775807) (m1_0 : t1_0.size ≤ 9223372036854775807) :
    Calls Tryd.prog 8 #[.agg #[.slice A0_0 n0_0 c0_0], .string t1_0] w fun e w' => e = .returned (.bool true) ∧ Below w.heap.size w w' := by
  go_enter Tryd.func8, Tryd.ntmps8
  have hB : Below w.heap.size w w := Below.refl _ _
  by_cases q1 : t1_0.size ≤ 1048576
  rotate_left
  · go_wp2_with fail
    go_ret
    exact ⟨rfl, (hB.alloc (by have := hB.size; simp <;> omega) _)⟩
  go_wp2_with fail
  refine (szSig_any A0_0 n0_0 c0_0 (1048576) _ (by omega) (by omega) m0_0).mono ?_
  rintro e w1 ⟨rfl, hb1⟩
  have s1 : w.heap.size + 1 ≤ w1.heap.size := by have := hb1.size; first | omega | (simp at this; omega)
  have bx0 : w1.cell? ⟨w.heap.size, 0, none⟩ = some (.slice A0_0 n0_0 c0_0) := (hb1.cell (by simp <;> omega)).trans (by simp)
  replace hB : Below w.heap.size w w1 := below_then (hB.alloc (by have := hB.size; simp <;> omega) _) hb1 (by have := hB.size; simp <;> omega)
  clear hb1
  have z0 := szF_bd (left := 1048576) (n0_0) (by omega)
  obtain ⟨v0, e0⟩ : ∃ v, v = szF (1048576) (n0_0) := ⟨_, rfl⟩
  rw [← e0] at z0 ⊢
  clear e0
  by_cases q0 : v0 < 0
  · go_wp2_with fail
    go_ret
    exact ⟨rfl, hB⟩
  have g0 : n0_0 ≤ 1048576 := by omega
  have g1 := q1
  go_wp2_with fail
  refine (toSig_any A0_0 n0_0 c0_0 x0_0 _ (h0_0.below hB) g0).mono ?_
  rintro e w2 ⟨as0_0, rfl, os0_0, hb2⟩
  have s2 : w1.heap.size + 0 ≤ w2.heap.size := by have := hb2.size; first | omega | (simp at this; omega)
  replace bx0 := keepC hb2 bx0
  replace hB : Below w.heap.size w w2 := below_then hB hb2 (by have := hB.size; simp <;> omega)
  clear hb2
  replace os0_0 : OX w2 (w1.heap.size) w2.heap.size (some ⟨as0_0, 0, none⟩) n0_0 n0_0 x0_0 := os0_0.hi_ (by simp)
  go_wp2_with fail
  refine (S_TextTerm (some ⟨as0_0, 0, none⟩) n0_0 n0_0 x0_0 t1_0 _ os0_0.rd g0 g1).mono ?_
  rintro e w3 ⟨Aw, cw, rfl, ow, hb3⟩
  have s3 : w2.heap.size + 0 ≤ w3.heap.size := by have := hb3.size; first | omega | (simp at this; omega)
  replace os0_0 := os0_0.below hb3
  replace bx0 := keepC hb3 bx0
  replace hB : Below w.heap.size w w3 := below_then hB hb3 (by have := hB.size; simp <;> omega)
  clear hb3
  replace ow := ow.hi_ (Nat.le_refl _)
  clear os0_0
  go_wp2_with fail
  refine (toSig_any A0_0 n0_0 c0_0 x0_0 _ (h0_0.below hB) g0).mono ?_
  rintro e w4 ⟨ax0_0, rfl, ox0_0, hb4⟩
  have s4 : w3.heap.size + 0 ≤ w4.heap.size := by have := hb4.size; first | omega | (simp at this; omega)
  replace ow := ow.below hb4
  replace bx0 := keepC hb4 bx0
  replace hB : Below w.heap.size w w4 := below_then hB hb4 (by have := hB.size; simp <;> omega)
  clear hb4
  replace ox0_0 : OX w4 (w3.heap.size) w4.heap.size (some ⟨ax0_0, 0, none⟩) n0_0 n0_0 x0_0 := ox0_0.hi_ (by simp)
  go_wp2_with fail
  refine (I_TextTerm (some ⟨ax0_0, 0, none⟩) n0_0 n0_0 x0_0 t1_0 _ (ox0_0.rd.below ((Below.refl _ _).alloc (Nat.le_refl _) _)) g0 g1).mono ?_
  rintro e w5 ⟨Ag, cg, rfl, og, hb5⟩
  have s5 : w4.heap.size + 1 ≤ w5.heap.size := by have := hb5.size; first | omega | (simp at this; omega)
  replace ow := (ow.below ((Below.refl _ _).alloc (Nat.le_refl _) _)).below hb5
  replace ox0_0 := (ox0_0.below ((Below.refl _ _).alloc (Nat.le_refl _) _)).below hb5
  replace bx0 := keepC hb5 (keepC ((Below.refl _ _).alloc (Nat.le_refl _) _) bx0)
  have by0 : w5.cell? ⟨w4.heap.size, 0, none⟩ = some (.slice (some ⟨ax0_0, 0, none⟩) n0_0 n0_0) := (hb5.cell (by simp <;> omega)).trans (by simp)
  replace hB : Below w.heap.size w w5 := below_then (hB.alloc (by have := hB.size; simp <;> omega) _) hb5 (by have := hB.size; simp <;> omega)
  clear hb5
  replace og : OX w5 (w4.heap.size + 1) w5.heap.size Ag (V_TextTerm x0_0 t1_0).1.length cg (V_TextTerm x0_0 t1_0).1 := og.hi_ (by simp)
  go_wp2_with fail
  refine (eqInt64S_any Ag _ cg (V_TextTerm x0_0 t1_0).1 Aw _ cw (V_TextTerm x0_0 t1_0).1 _ og.rd ow.rd (by have := bd_TextTerm x0_0 t1_0; omega)).mono ?_
  rintro e w6 ⟨rfl, hb6⟩
  have s6 : w5.heap.size + 0 ≤ w6.heap.size := by have := hb6.size; first | omega | (simp at this; omega)
  replace ow := ow.below hb6
  replace ox0_0 := ox0_0.below hb6
  replace og := og.below hb6
  replace bx0 := keepC hb6 bx0
  replace by0 := keepC hb6 by0
  replace hB : Below w.heap.size w w6 := below_then hB hb6 (by have := hB.size; simp <;> omega)
  clear hb6
  go_wp2_with fail
  go_region_held3 (fun w' => Below w6.heap.size w6 w' ∧ w'.cell? ⟨w4.heap.size, 0, none⟩ = some (.slice (some ⟨ax0_0, 0, none⟩) n0_0 n0_0) ∧ w'.cell? ⟨w.heap.size, 0, none⟩ = some (.slice A0_0 n0_0 c0_0))
    (first | exact ⟨(Below.refl _ _).drew, by0, bx0⟩ | exact keepS2 ha1 (by assumption) | exact keepS2 ha2 (by assumption))
    ((first | (go_at_call 13; refine (toSig_any A0_0 n0_0 c0_0 x0_0 _ ?_ g0).mono ?_; exact riS (h0_0.below hB) (by assumption); rintro e wa ⟨a0, rfl, oa0, ha1⟩) | (go_at_call 16; refine (eqSig_same (some ⟨ax0_0, 0, none⟩) n0_0 n0_0 x0_0 _ _ _ ?_ ?_ (by omega)).mono ?_; exact ox0_0.rd.below (And.left (by assumption)); exact oa0.rd; rintro e w7 ⟨rfl, ha2⟩)))
  rename_i hS
  have hb7 := hS.1
  clear hS oa0 ha1 ha2
  have s7 : w6.heap.size + 0 ≤ w7.heap.size := by have := hb7.size; first | omega | (simp at this; omega)
  replace ow := ow.below hb7
  replace ox0_0 := ox0_0.below hb7
  replace og := og.below hb7
  replace bx0 := keepC hb7 bx0
  replace by0 := keepC hb7 by0
  replace hB : Below w.heap.size w w7 := below_then hB hb7 (by have := hB.size; simp <;> omega)
  clear hb7
  go_wp2_with fail
  have mk8 := markSig_any _ _ (some ⟨ax0_0, 0, none⟩) n0_0 n0_0 x0_0 (1) _ ox0_0 (by omega) (by omega) 
  refine mk8.mono ?_
  clear mk8
  rintro e w8 ⟨rfl, _, ho8⟩
  have s8 : w7.heap.size ≤ w8.heap.size := ho8.size
  replace ow := ow.only ho8 (by first | omega | (dsimp only; omega))
  replace og := og.only ho8 (by first | omega | (dsimp only; omega))
  replace bx0 := keepO ho8 (by first | omega | (dsimp only; omega)) bx0
  replace by0 := keepO ho8 (by first | omega | (dsimp only; omega)) by0
  replace hB : Below w.heap.size w w8 := hB.trans (ho8.below (by first | omega | (dsimp only; omega)) hB.size)
  clear ho8
  clear ox0_0
  have kn : decide ((1 + ↑(n0_0) : Int) < 0) = false := by simp; omega
  go_wp2_with fail
  refine (eqInt64S_any Ag _ cg (V_TextTerm x0_0 t1_0).1 Aw _ cw (V_TextTerm x0_0 t1_0).1 _ og.rd ow.rd (by have := bd_TextTerm x0_0 t1_0; omega)).mono ?_
  rintro e w9 ⟨rfl, hb9⟩
  have s9 : w8.heap.size + 0 ≤ w9.heap.size := by have := hb9.size; first | omega | (simp at this; omega)
  replace ow := ow.below hb9
  replace og := og.below hb9
  replace bx0 := keepC hb9 bx0
  replace by0 := keepC hb9 by0
  replace hB : Below w.heap.size w w9 := below_then hB hb9 (by have := hB.size; simp <;> omega)
  clear hb9
  have bdl := bd_TextTerm x0_0 t1_0
  go_wp2_with fail
  have mk10 := markInt64S_any _ _ Ag _ cg (V_TextTerm x0_0 t1_0).1 1 _ og (by omega) (by omega)
  refine mk10.mono ?_
  clear mk10
  rintro e w10 ⟨rfl, og, ho10⟩
  have s10 : w9.heap.size ≤ w10.heap.size := ho10.size
  replace ow := ow.only ho10 (by first | omega | (dsimp only; omega))
  replace bx0 := keepO ho10 (by first | omega | (dsimp only; omega)) bx0
  replace by0 := keepO ho10 (by first | omega | (dsimp only; omega)) by0
  replace hB : Below w.heap.size w w10 := hB.trans (ho10.below (by first | omega | (dsimp only; omega)) hB.size)
  clear ho10
  go_wp2_with fail
  refine (heldInt64S_any Ag _ cg 1 _ og.rd (by omega) (by omega)).mono ?_
  rintro e w11 ⟨rfl, hb11⟩
  have s11 : w10.heap.size + 0 ≤ w11.heap.size := by have := hb11.size; first | omega | (simp at this; omega)
  replace ow := ow.below hb11
  replace og := og.below hb11
  replace bx0 := keepC hb11 bx0
  replace by0 := keepC hb11 by0
  replace hB : Below w.heap.size w w11 := below_then hB hb11 (by have := hB.size; simp <;> omega)
  clear hb11
  go_wp2_with fail
  refine (toSig_any A0_0 n0_0 c0_0 x0_0 _ (h0_0.below hB) g0).mono ?_
  rintro e w12 ⟨at0_0, rfl, ot0_0, hb12⟩
  have s12 : w11.heap.size + 0 ≤ w12.heap.size := by have := hb12.size; first | omega | (simp at this; omega)
  replace ow := ow.below hb12
  replace og := og.below hb12
  replace bx0 := keepC hb12 bx0
  replace by0 := keepC hb12 by0
  replace hB : Below w.heap.size w w12 := below_then hB hb12 (by have := hB.size; simp <;> omega)
  clear hb12
  replace ot0_0 : OX w12 (w11.heap.size) w12.heap.size (some ⟨at0_0, 0, none⟩) n0_0 n0_0 x0_0 := ot0_0.hi_ (by simp)
  go_wp2_with fail
  refine (I_TextTerm (some ⟨at0_0, 0, none⟩) n0_0 n0_0 x0_0 t1_0 _ ot0_0.rd g0 g1).mono ?_
  rintro e w13 ⟨Ah, ch, rfl, oh, hb13⟩
  have s13 : w12.heap.size + 0 ≤ w13.heap.size := by have := hb13.size; first | omega | (simp at this; omega)
  replace ow := ow.below hb13
  replace og := og.below hb13
  replace ot0_0 := ot0_0.below hb13
  replace bx0 := keepC hb13 bx0
  replace by0 := keepC hb13 by0
  replace hB : Below w.heap.size w w13 := below_then hB hb13 (by have := hB.size; simp <;> omega)
  clear hb13
  replace oh := oh.hi_ (Nat.le_refl _)
  clear ot0_0
  go_wp2_with fail
  refine (eqInt64S_any Ah _ ch (V_TextTerm x0_0 t1_0).1 Aw _ cw (V_TextTerm x0_0 t1_0).1 _ oh.rd ow.rd (by have := bd_TextTerm x0_0 t1_0; omega)).mono ?_
  rintro e w14 ⟨rfl, hb14⟩
  have s14 : w13.heap.size + 0 ≤ w14.heap.size := by have := hb14.size; first | omega | (simp at this; omega)
  replace ow := ow.below hb14
  replace og := og.below hb14
  replace oh := oh.below hb14
  replace bx0 := keepC hb14 bx0
  replace by0 := keepC hb14 by0
  replace hB : Below w.heap.size w w14 := below_then hB hb14 (by have := hB.size; simp <;> omega)
  clear hb14
  go_wp2_with fail
  refine (heldInt64S_any Ag _ cg 1 _ og.rd (by omega) (by omega)).mono ?_
  rintro e w15 ⟨rfl, hb15⟩
  have s15 : w14.heap.size + 0 ≤ w15.heap.size := by have := hb15.size; first | omega | (simp at this; omega)
  replace ow := ow.below hb15
  replace og := og.below hb15
  replace oh := oh.below hb15
  replace bx0 := keepC hb15 bx0
  replace by0 := keepC hb15 by0
  replace hB : Below w.heap.size w w15 := below_then hB hb15 (by have := hB.size; simp <;> omega)
  clear hb15
  go_wp2_with fail
  go_ret
  exact ⟨rfl, hB⟩

theorem own : ownKnob Tryd.prog.godebug = none := by kernel_rfl
theorem laidOut : laidOutB Tryd.prog = true := by kernel_rfl

set_option maxRecDepth 100000 in
theorem lifted (os : Os) (started : os.Started) (H : Type) (enc : TypeId × Value → H) :
    ReturnsInHanded {} Tryd.checked os 8 .any (fun w args => (Rows.fnExactTextTermSpec.pre enc Tryd.prog Tryd.f8 [] false w args ∧ laidMetH Tryd.prog Rows.fnExactTextTermRow.laid w) ∧ sizedMet enc Tryd.prog Tryd.f8 (OpenSpec.ofChange Rows.fnExactTextTermSpec) false w args) (Rows.fnExactTextTermSpec.post enc Tryd.prog Tryd.f8 false true false false) := by
  refine returnsInHanded_of_change_and (C := Tryd.checked) (X := fun w _ => laidMetH Tryd.prog Rows.fnExactTextTermRow.laid w) (fun _ _ _ hh h => h.of_heap hh) own started (by kernel_rfl) Tryd.func8
    (ChangeSpec.witness_shaped (enc := enc) (C := Tryd.checked) (os := os) (X := fun w _ => laidMetH Tryd.prog Rows.fnExactTextTermRow.laid w) false (World.laidAll Tryd.prog os Rows.fnExactTextTermRow.laid) #[.agg #[.slice none 0 0], .string ByteArray.empty] 8 (World.laidAll_os _ _ _)
      (World.shaped_of_ZipB (by kernel_rfl) (by kernel_rfl)) (by kernel_rfl) (by kernel_rfl) (by kernel_rfl)
      (by rw [MakeChecks.laidMetH_plain _ _ _ (by kernel_rfl)]; exact laidMet_laidAll _ (by kernel_rfl) (by kernel_rfl))) ?_
  intro W base args ds gs before hval0 hW hcnd _ hL _
  have hval : ∀ (j : Nat) t v, Tryd.f8.params[j]? = some t → args[j]? = some v → Value.okWide Tryd.prog W .any base t v := hval0
  have hW' := hW
  obtain ⟨p, q, hA0, hV, rfl, hfz, hnd⟩ := hW
  have hA : DataW.TrodAll enc Tryd.prog W 0 (fun _ => true) true Tryd.f8.params.toList args.toList ds p := hA0
  rw [Tryd.params8] at hA hval
  obtain ⟨v0, vs0, d0, ds0, p0, q0, hargs, rfl, rfl, h0, r0⟩ := trodAll_cons hA
  obtain ⟨v1, vs1, d1, ds1, p1, q1, rfl, rfl, rfl, h1, r1⟩ := trodAll_cons r0
  obtain ⟨rfl, rfl, rfl⟩ := trodAll_nil r1
  obtain rfl : args = #[v0, v1] := by cases args; simp_all
  obtain ⟨rfl, rfl⟩ := trodVars_none hV
  have k0 := h0
  have lt0 : ∀ x ∈ p0, x.block < W.heap.size := by obtain ⟨m, hm⟩ := k0; exact DataW.trod_lt m _ _ _ hm
  obtain ⟨A0_0, n0_0, c0_0, z0_0, rfl, R0_0, M0_0⟩ := open_one Tryd.underlying24 (by kernel_rfl) rfl rfl (by kernel_rfl) Tryd.underlying22 Tryd.underlying2 (by kernel_rfl) (hval 0 24 v0 rfl rfl) h0
  unfold maxLen at M0_0
  obtain ⟨t1_0, rfl, rfl, rfl, w1⟩ := open_string Tryd.underlying9 (hval 1 9 v1 rfl rfl) h1
  clear hA0 hval0
  refine (walk A0_0 n0_0 c0_0 z0_0 t1_0 W R0_0 (by omega) w1).mono fun e W' ⟨he, bel⟩ => ?_
  subst he
  exact ⟨_, rfl, _, _, _, [], _, [], hW', trodAll_mk1 (shut_bool Tryd.underlying4 _), (trodAll_cons_mk (Below.trod laidOut (by kernel_rfl) (of_decide_eq_true (by kernel_rfl)) k0 bel lt0) (trodAll_cons_mk (shut_string Tryd.underlying9 w1) trodAll_mk0)), rfl, bel.frame _, fun h => by cases h⟩

theorem over : Rows.fnExactTextTermRow.holds Tryd.pinned (OpenSpec.ofChange Rows.fnExactTextTermSpec) :=
  OpenClaim.holds_of_wide 8 Tryd.f8 rfl rfl rfl rfl rfl rfl rfl ⟨rfl, rfl, rfl, rfl, rfl⟩ rfl rfl rfl rfl rfl (by kernel_rfl) Tryd.func8 (by kernel_rfl)
    (of_decide_eq_true (by kernel_rfl)) (by unfold Func.isWrapper; first | (rw [if_pos (by decide +kernel)]; kernel_rfl) | (rw [if_neg (by decide +kernel)]; exact ⟨rfl, rfl⟩))
    (fun os started H enc _ => lifted os started H enc)

/-- The tied card, out of the row's statement and the given tie. -/
theorem proved : Rows.FnExactTextTermCardSaid :=
  Claim7.holds_tied_plain_at .later [] [.data, .data, .data] true _ false
    over (fun _ h => by cases h) (by kernel_rfl) (fun _ h => by cases h) fnExactTextTerm_row_tie rfl ⟨rfl, rfl⟩ (by kernel_rfl) rfl
    (fun f fn hf hfn => by
      obtain rfl : f = 8 := Option.some.inj ((show Tryd.prog.funcNamed Rows.fnExactTextTermRow.func = some 8 by kernel_rfl).symm.trans hf) |>.symm
      obtain rfl : fn = Tryd.f8 := (Option.some.inj (Tryd.func8.symm.trans hfn)).symm
      exact ⟨by kernel_rfl, fun j t ht => by
        rw [Tryd.params8] at ht
        have hm : t ∈ [24, 9] := by simpa using Array.mem_of_getElem? ht
        have hall : ([24, 9].all fun u => !Tryd.prog.wantsStandIn u) = true := by kernel_rfl
        exact (show Tryd.prog.wantsStandIn t = false by simpa using List.all_eq_true.1 hall t hm)⟩)
    (by kernel_rfl)
end Go.Proofs.YtlcchafcgidpeaaDoor.lTextTerm
