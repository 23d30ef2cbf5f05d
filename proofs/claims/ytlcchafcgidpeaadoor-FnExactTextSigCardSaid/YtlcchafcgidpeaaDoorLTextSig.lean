/- The statement FnExactTextSig: whatever the input, it returns true and leaves its arguments alone. No conditions. -/
import Derived.Test.YtlcchafcgidpeaaDoorSigY
import Derived.Test.YtlcchafcgidpeaaDoorMark
import Derived.Test.YtlcchafcgidpeaaDoorTerm2
import Derived.Test.YtlcchafcgidpeaaDoorOpen
import Derived.Test.YtlcchafcgidpeaaDoorRows
import Derived.Deep.RegionHeld3
import Derived.Test.YtlcchafcgidpeaaDoorTie
import Derived.Test.YtlcchafcgidpeaaDoorCards
import Derived.ProofKit
import Derived.Lay
import Derived.SevenTiedAt
import Derived.Test.YtlcchafcgidpeaaDoorCard
namespace Go.Proofs.YtlcchafcgidpeaaDoor.lTextSig
open Go.RowKit Go.ChangeShapes Go.WideShapes Go.ChangeAt
open Go.ChangeMaps (open_string shut_string)
set_option linter.unusedVariables false
set_option linter.unusedSimpArgs false

theorem belA {W w : World} {o : Obj} (h : Below W.heap.size W w) : Below W.heap.size W (w.alloc o) := h.alloc h.size o
theorem belR {W w : World} {o o2 : Obj} (hs : W.heap.size ≤ w.heap.size) (h : Below W.heap.size W (w.alloc o)) : Below W.heap.size W (w.alloc o2) :=
  (show Below W.heap.size W w from ⟨h.os, h.tape, h.output, hs, fun k hk => (Below.heap_alloc w o k (by omega)).symm.trans (h.block k hk)⟩).alloc hs o2

set_option maxHeartbeats 8000000 in
set_option maxRecDepth 100000 in
theorem walk (t0_0 : ByteArray) (w : World) (m0_0 : t0_0.size ≤ 9223372036854775807) (hM : ML w) :
    Calls Tryd.prog 4 #[.string t0_0] w fun e w' => e = .returned (.bool true) ∧ Below w.heap.size w w' := by
  go_enter Tryd.func4, Tryd.ntmps4
  have hB : Below w.heap.size w w := Below.refl _ _
  have hML := hM.lt
  by_cases q0 : t0_0.size ≤ 1048576
  rotate_left
  · go_wp2_with fail
    go_ret
    exact ⟨rfl, hB⟩
  have g0 := q0
  go_wp2_with fail
  refine (S_TextSig t0_0 _  g0).mono ?_
  rintro e w1 ⟨Aw, cw, rfl, ow, hb1⟩
  have s1 : w.heap.size + 0 ≤ w1.heap.size := by have := hb1.size; first | omega | (simp at this; omega)
  replace hM := hM.below hb1
  replace hB : Below w.heap.size w w1 := below_then hB hb1 (by have := hB.size; simp <;> omega)
  clear hb1
  replace ow := ow.hi_ (Nat.le_refl _)
  go_wp2_with fail
  refine (I_TextSig t0_0 _  g0 (hM.below ((Below.refl _ _).alloc (Nat.le_refl _) _))).mono ?_
  rintro e w2 ⟨Ag, cg, rfl, og, hb2⟩
  have s2 : w1.heap.size + 1 ≤ w2.heap.size := by have := hb2.size; first | omega | (simp at this; omega)
  replace hM := (hM.below ((Below.refl _ _).alloc (Nat.le_refl _) _)).below hb2
  replace ow := (ow.below ((Below.refl _ _).alloc (Nat.le_refl _) _)).below hb2
  have bw : w2.cell? ⟨w1.heap.size, 0, none⟩ = some (.slice Aw (V_TextSig t0_0).1.length cw) := (hb2.cell (by simp <;> omega)).trans (by simp)
  replace hB : Below w.heap.size w w2 := below_then (hB.alloc (by have := hB.size; simp <;> omega) _) hb2 (by have := hB.size; simp <;> omega)
  clear hb2
  have hhw : w1.heap.size < w2.heap.size := by omega
  replace og : OX w2 (w1.heap.size + 1) w2.heap.size Ag (V_TextSig t0_0).1.length cg (V_TextSig t0_0).1 := og.hi_ (by simp)
  go_wp2_with fail
  refine (eqSig_same Ag _ cg (V_TextSig t0_0).1 Aw cw _ (og.rd.below ((Below.refl _ _).alloc (Nat.le_refl _) _)) (ow.rd.below ((Below.refl _ _).alloc (Nat.le_refl _) _)) (by have := bd_TextSig t0_0; omega)).mono ?_
  rintro e w3 ⟨rfl, hb3⟩
  have s3 : w2.heap.size + 1 ≤ w3.heap.size := by have := hb3.size; first | omega | (simp at this; omega)
  replace hM := (hM.below ((Below.refl _ _).alloc (Nat.le_refl _) _)).below hb3
  replace ow := (ow.below ((Below.refl _ _).alloc (Nat.le_refl _) _)).below hb3
  replace og := (og.below ((Below.refl _ _).alloc (Nat.le_refl _) _)).below hb3
  replace bw := keepC hb3 (keepC ((Below.refl _ _).alloc (Nat.le_refl _) _) bw)
  have bg : w3.cell? ⟨w2.heap.size, 0, none⟩ = some (.slice Ag (V_TextSig t0_0).1.length cg) := (hb3.cell (by simp <;> omega)).trans (by simp)
  replace hB : Below w.heap.size w w3 := below_then (hB.alloc (by have := hB.size; simp <;> omega) _) hb3 (by have := hB.size; simp <;> omega)
  clear hb3
  replace hhw : w1.heap.size < w3.heap.size := by omega
  have hhg : w2.heap.size < w3.heap.size := by omega
  have bdl := bd_TextSig t0_0
  go_wp2_with fail
  have mk4 := markSig_any _ _ Ag _ cg (V_TextSig t0_0).1 1 _ og (by omega) (by omega)
  refine mk4.mono ?_
  clear mk4
  rintro e w4 ⟨rfl, og, ho4⟩
  have s4 : w3.heap.size ≤ w4.heap.size := ho4.size
  replace hM := hM.only ho4 (by first | omega | (dsimp only; omega))
  replace ow := ow.only ho4 (by first | omega | (dsimp only; omega))
  replace bw := keepO ho4 (by first | omega | (dsimp only; omega)) bw
  replace bg := keepO ho4 (by first | omega | (dsimp only; omega)) bg
  replace hB : Below w.heap.size w w4 := hB.trans (ho4.below (by first | omega | (dsimp only; omega)) hB.size)
  clear ho4
  replace hhw : w1.heap.size < w4.heap.size := by omega
  replace hhg : w2.heap.size < w4.heap.size := by omega
  go_wp2_with fail
  refine (heldSig_any Ag _ cg 1 _ og.rd (by omega) (by omega)).mono ?_
  rintro e w5 ⟨rfl, hb5⟩
  have s5 : w4.heap.size + 0 ≤ w5.heap.size := by have := hb5.size; first | omega | (simp at this; omega)
  replace hM := hM.below hb5
  replace ow := ow.below hb5
  replace og := og.below hb5
  replace bw := keepC hb5 bw
  replace bg := keepC hb5 bg
  replace hB : Below w.heap.size w w5 := below_then hB hb5 (by have := hB.size; simp <;> omega)
  clear hb5
  replace hhw : w1.heap.size < w5.heap.size := by omega
  replace hhg : w2.heap.size < w5.heap.size := by omega
  go_wp2_with fail
  refine (I_TextSig t0_0 _  g0 hM).mono ?_
  rintro e w6 ⟨Ah, ch, rfl, oh, hb6⟩
  have s6 : w5.heap.size + 0 ≤ w6.heap.size := by have := hb6.size; first | omega | (simp at this; omega)
  replace hM := hM.below hb6
  replace ow := ow.below hb6
  replace og := og.below hb6
  replace bw := keepC hb6 bw
  replace bg := keepC hb6 bg
  replace hB : Below w.heap.size w w6 := below_then hB hb6 (by have := hB.size; simp <;> omega)
  clear hb6
  replace hhw : w1.heap.size < w6.heap.size := by omega
  replace hhg : w2.heap.size < w6.heap.size := by omega
  replace oh := oh.hi_ (Nat.le_refl _)
  go_wp2_with fail
  refine (eqSig_same Ah _ ch (V_TextSig t0_0).1 Aw cw _ (oh.rd.below ((Below.refl _ _).alloc (Nat.le_refl _) _)) (ow.rd.below ((Below.refl _ _).alloc (Nat.le_refl _) _)) (by have := bd_TextSig t0_0; omega)).mono ?_
  rintro e w7 ⟨rfl, hb7⟩
  have s7 : w6.heap.size + 1 ≤ w7.heap.size := by have := hb7.size; first | omega | (simp at this; omega)
  replace hM := (hM.below ((Below.refl _ _).alloc (Nat.le_refl _) _)).below hb7
  replace ow := (ow.below ((Below.refl _ _).alloc (Nat.le_refl _) _)).below hb7
  replace og := (og.below ((Below.refl _ _).alloc (Nat.le_refl _) _)).below hb7
  replace oh := (oh.below ((Below.refl _ _).alloc (Nat.le_refl _) _)).below hb7
  replace bw := keepC hb7 (keepC ((Below.refl _ _).alloc (Nat.le_refl _) _) bw)
  replace bg := keepC hb7 (keepC ((Below.refl _ _).alloc (Nat.le_refl _) _) bg)
  have bh : w7.cell? ⟨w6.heap.size, 0, none⟩ = some (.slice Ah (V_TextSig t0_0).1.length ch) := (hb7.cell (by simp <;> omega)).trans (by simp)
  replace hB : Below w.heap.size w w7 := below_then (hB.alloc (by have := hB.size; simp <;> omega) _) hb7 (by have := hB.size; simp <;> omega)
  clear hb7
  replace hhw : w1.heap.size < w7.heap.size := by omega
  replace hhg : w2.heap.size < w7.heap.size := by omega
  have hhh : w6.heap.size < w7.heap.size := by omega
  go_wp2_with fail
  refine (heldSig_any Ag _ cg 1 _ og.rd (by omega) (by omega)).mono ?_
  rintro e w8 ⟨rfl, hb8⟩
  have s8 : w7.heap.size + 0 ≤ w8.heap.size := by have := hb8.size; first | omega | (simp at this; omega)
  replace hM := hM.below hb8
  replace ow := ow.below hb8
  replace og := og.below hb8
  replace oh := oh.below hb8
  replace bw := keepC hb8 bw
  replace bg := keepC hb8 bg
  replace bh := keepC hb8 bh
  replace hB : Below w.heap.size w w8 := below_then hB hb8 (by have := hB.size; simp <;> omega)
  clear hb8
  replace hhw : w1.heap.size < w8.heap.size := by omega
  replace hhg : w2.heap.size < w8.heap.size := by omega
  replace hhh : w6.heap.size < w8.heap.size := by omega
  go_wp2_with fail
  go_ret
  exact ⟨rfl, hB⟩

theorem own : ownKnob Tryd.prog.godebug = none := by kernel_rfl
theorem laidOut : laidOutB Tryd.prog = true := by kernel_rfl

set_option maxRecDepth 100000 in
theorem lifted (os : Os) (started : os.Started) (H : Type) (enc : TypeId × Value → H) :
    ReturnsInHanded {} Tryd.checked os 4 .any (fun w args => (Rows.fnExactTextSigSpec.pre enc Tryd.prog Tryd.f4 [] false w args ∧ laidMetH Tryd.prog Rows.fnExactTextSigRow.laid w) ∧ sizedMet enc Tryd.prog Tryd.f4 (OpenSpec.ofChange Rows.fnExactTextSigSpec) false w args) (Rows.fnExactTextSigSpec.post enc Tryd.prog Tryd.f4 false true false false) := by
  refine handed_and_shaped (C := Tryd.checked) (X := fun w _ => laidMetH Tryd.prog Rows.fnExactTextSigRow.laid w) (fun _ _ _ hh h => h.of_heap hh) own started (by kernel_rfl) Tryd.func4
    (ChangeSpec.witness_shaped (enc := enc) (C := Tryd.checked) (os := os) (X := fun w _ => laidMetH Tryd.prog Rows.fnExactTextSigRow.laid w) false (World.laidAll Tryd.prog os Rows.fnExactTextSigRow.laid) #[.string ByteArray.empty] 8 (World.laidAll_os _ _ _)
      (World.shaped_of_ZipB (by kernel_rfl) (by kernel_rfl)) (by kernel_rfl) (by kernel_rfl) (by kernel_rfl)
      (by rw [MakeChecks.laidMetH_plain _ _ _ (by kernel_rfl)]; exact laidMet_laidAll _ (by kernel_rfl) (by kernel_rfl))) ?_
  intro W base args ds gs before hval0 hW hcnd _ hL hShape _
  have hval : ∀ (j : Nat) t v, Tryd.f4.params[j]? = some t → args[j]? = some v → Value.okWide Tryd.prog W .any base t v := hval0
  have hW' := hW
  obtain ⟨p, q, hA0, hV, rfl, hfz, hnd⟩ := hW
  have hA : DataW.TrodAll enc Tryd.prog W 0 (fun _ => true) true Tryd.f4.params.toList args.toList ds p := hA0
  rw [Tryd.params4] at hA hval
  obtain ⟨v0, vs0, d0, ds0, p0, q0, hargs, rfl, rfl, h0, r0⟩ := trodAll_cons hA
  obtain ⟨rfl, rfl, rfl⟩ := trodAll_nil r0
  obtain rfl : args = #[v0] := by cases args; simp_all
  obtain ⟨rfl, rfl⟩ := trodVars_none hV
  obtain ⟨t0_0, rfl, rfl, rfl, w0⟩ := open_string Tryd.underlying9 (hval 0 9 v0 rfl rfl) h0
  clear hA0 hval0
  refine (walk t0_0 W  w0 (ML.of hShape)).mono fun e W' ⟨he, bel⟩ => ?_
  subst he
  exact ⟨_, rfl, _, _, _, [], _, [], hW', trodAll_mk1 (shut_bool Tryd.underlying4 _), (trodAll_cons_mk (shut_string Tryd.underlying9 w0) trodAll_mk0), rfl, bel.frame _, fun h => by cases h⟩

theorem over : Rows.fnExactTextSigRow.holds Tryd.pinned (OpenSpec.ofChange Rows.fnExactTextSigSpec) :=
  OpenClaim.holds_of_wide 4 Tryd.f4 rfl rfl rfl rfl rfl rfl rfl ⟨rfl, rfl, rfl, rfl, rfl⟩ rfl rfl rfl rfl rfl (by kernel_rfl) Tryd.func4 (by kernel_rfl)
    (of_decide_eq_true (by kernel_rfl)) (by unfold Func.isWrapper; first | (rw [if_pos (by decide +kernel)]; kernel_rfl) | (rw [if_neg (by decide +kernel)]; exact ⟨rfl, rfl⟩))
    (fun os started H enc _ => lifted os started H enc)

/-- The tied card, out of the row's statement and the given tie. -/
theorem proved : Rows.FnExactTextSigCardSaid :=
  Claim7.holds_tied_plain_at .later [] [.data, .pinned] true _ false
    over (fun _ h => by cases h) (by kernel_rfl) (fun _ h => by cases h) fnExactTextSig_row_tie rfl ⟨rfl, rfl⟩ (by kernel_rfl) rfl
    (fun f fn hf hfn => by
      obtain rfl : f = 4 := Option.some.inj ((show Tryd.prog.funcNamed Rows.fnExactTextSigRow.func = some 4 by kernel_rfl).symm.trans hf) |>.symm
      obtain rfl : fn = Tryd.f4 := (Option.some.inj (Tryd.func4.symm.trans hfn)).symm
      exact ⟨by kernel_rfl, fun j t ht => by
        rw [Tryd.params4] at ht
        have hm : t ∈ [9] := by simpa using Array.mem_of_getElem? ht
        have hall : ([9].all fun u => !Tryd.prog.wantsStandIn u) = true := by kernel_rfl
        exact (show Tryd.prog.wantsStandIn t = false by simpa using List.all_eq_true.1 hall t hm)⟩)
    (by kernel_rfl)
end Go.Proofs.YtlcchafcgidpeaaDoor.lTextSig
