/- Contracts: RuleText, both sides. -/
import Derived.Test.YtlcchafcgidpeaaDoorTxtT
import Derived.Test.YtlcchafcgidpeaaDoorRuleOk
namespace Go.Proofs.YtlcchafcgidpeaaDoor
open Go.RowKit
set_option linter.unusedVariables false
set_option linter.unusedSimpArgs false

def V_RuleText (xs l r : List Int) : List UInt8 := if ruleOk xs l r = true then Pl.txt xs l 0 ++ Pl.arrow ++ Pl.txt xs r 0 else []
theorem V_RuleText_no {xs l r : List Int} (h : ruleOk xs l r = false) : V_RuleText xs l r = [] := by unfold V_RuleText; rw [h]; rfl
theorem V_RuleText_yes {xs l r : List Int} (h : ruleOk xs l r = true) : V_RuleText xs l r = Pl.txt xs l 0 ++ Pl.arrow ++ Pl.txt xs r 0 := by unfold V_RuleText; rw [if_pos h]
theorem ruleOk_terms {xs l r : List Int} (h : ruleOk xs l r = true) : Pl.termOk xs l = true ∧ Pl.termOk xs r = true := by
  unfold ruleOk at h
  simp only [Bool.and_eq_true] at h
  exact ⟨h.1.1.1, h.1.1.2⟩
set_option maxHeartbeats 2000000 in
set_option maxRecDepth 20000 in
theorem S_RuleText (A : Option Addr) (n c : Nat) (xs : List Int) (B : Option Addr) (m d : Nat) (l : List Int) (C : Option Addr) (o f : Nat) (r : List Int) (w : World) (h : RI w A n xs) (h' : RI w B m l) (h'' : RI w C o r) (hn : n ≤ 1048576) (hs : m + o ≤ 1048576) :
    Calls Tryd.prog 30 #[.agg #[.slice A n c], .agg #[.slice B m d, .slice C o f]] w fun e w' => e = .returned (.string ⟨(V_RuleText xs l r).toArray⟩) ∧ Below w.heap.size w w' := by
  have hB0 : Below w.heap.size w ((w.alloc (.cells #[.slice A n c] 30)).alloc (.cells #[.slice B m d, .slice C o f] 27)) := ((Below.refl _ _).alloc (Nat.le_refl _) _).alloc (by simp) _
  have bx0 := (Blk.new w 30 #[.slice A n c]).alloc (.cells #[.slice B m d, .slice C o f] 27)
  have by0 : Blk ((w.alloc (.cells #[.slice A n c] 30)).alloc (.cells #[.slice B m d, .slice C o f] 27)) (w.heap.size + 1) 27 #[.slice B m d, .slice C o f] := by
    have := Blk.new (w.alloc (.cells #[.slice A n c] 30)) 27 #[.slice B m d, .slice C o f]
    rwa [World.size_alloc] at this
  have h1 := h.below hB0
  have h2 := h'.below hB0
  have h3 := h''.below hB0
  have hsz : ((w.alloc (.cells #[.slice A n c] 30)).alloc (.cells #[.slice B m d, .slice C o f] 27)).heap.size = w.heap.size + 1 + 1 := by simp
  have K0 : ∀ i, ((w.alloc (.cells #[.slice A n c] 30)).alloc (.cells #[.slice B m d, .slice C o f] 27)).cell? ⟨w.heap.size, i, none⟩ = #[Value.slice A n c][i]? := fun i => bx0.cell i
  have K1 : ∀ i, ((w.alloc (.cells #[.slice A n c] 30)).alloc (.cells #[.slice B m d, .slice C o f] 27)).cell? ⟨w.heap.size + 1, i, none⟩ = #[Value.slice B m d, .slice C o f][i]? := fun i => by0.cell i
  cases hk : ruleOk xs l r
  · have HE := Lib.hid (V_RuleText_no hk)
    have HK := Lib.hid hk
    clear hk
    go_enter Tryd.func30, Tryd.ntmps30
    go_wp2_with fail
    generalize (w.alloc (.cells #[.slice A n c] 30)).alloc (.cells #[.slice B m d, .slice C o f] 27) = W at *
    refine (S_RuleOk A n c xs B m d l C o f r W h1 h2 h3 hn hs).mono ?_
    rintro e w1 ⟨rfl, hb1⟩
    rw [HK.out]
    go_wp2_with fail
    go_ret
    rw [HE.out]
    exact ⟨rfl, hB0.trans (hb1.mono (by omega))⟩
  · have HE := Lib.hid (V_RuleText_yes hk)
    obtain ⟨hT1, hT2⟩ := ruleOk_terms hk
    obtain ⟨TL, hTL⟩ : ∃ TL : List UInt8, Pl.txt xs l 0 = TL := ⟨_, rfl⟩
    obtain ⟨TR, hTR⟩ : ∃ TR : List UInt8, Pl.txt xs r 0 = TR := ⟨_, rfl⟩
    have hl1 := (Pl.txt_tk hT1).2
    have hl2 := (Pl.txt_tk hT2).2
    rw [hTL] at hl1
    rw [hTR] at hl2
    rw [hTL, hTR] at HE
    have HTL := Lib.hid hTL
    have HTR := Lib.hid hTR
    have HV1 := Lib.hid ((V_TermText_yes hT1).trans hTL)
    have HV2 := Lib.hid ((V_TermText_yes hT2).trans hTR)
    have HT1 := Lib.hid hT1
    have HT2 := Lib.hid hT2
    have HK := Lib.hid hk
    obtain ⟨T3, hT3⟩ : ∃ T3 : List UInt8, Hid (T3 = TL ++ Pl.arrow) := ⟨_, Lib.hid rfl⟩
    have hT3l : T3.length ≤ 303 := by rw [hT3.out, List.length_append]; simp [Pl.arrow]; omega
    have hadd : (⟨TL.toArray⟩ : ByteArray) ++ ⟨#[32, 45, 62, 32]⟩ = ⟨T3.toArray⟩ := by rw [hT3.out, show (⟨#[32, 45, 62, 32]⟩ : ByteArray) = ⟨Pl.arrow.toArray⟩ from rfl, ByteArray.mk_append_mk]
    have had1 : ¬ 9223372036854775807 < TL.length + 4 := by omega
    have had2 : ¬ 9223372036854775807 < T3.length + TR.length := by omega
    clear hk hTL hTR hT1 hT2
    go_enter Tryd.func30, Tryd.ntmps30
    go_wp2_with fail
    generalize (w.alloc (.cells #[.slice A n c] 30)).alloc (.cells #[.slice B m d, .slice C o f] 27) = W at *
    refine (S_RuleOk A n c xs B m d l C o f r W h1 h2 h3 hn hs).mono ?_
    rintro e w1 ⟨rfl, hb1⟩
    rw [HK.out]
    have hB1 := hB0.trans (hb1.mono (by omega))
    have c0 : w1.cell? ⟨w.heap.size, 0, none⟩ = some (.slice A n c) := (bx0.below hb1).cell 0
    have c1 : w1.cell? ⟨w.heap.size + 1, 0, none⟩ = some (.slice B m d) := (by0.below hb1).cell 0
    have c2 : w1.cell? ⟨w.heap.size + 1, 1, none⟩ = some (.slice C o f) := (by0.below hb1).cell 1
    replace h1 := h1.below hb1
    replace h2 := h2.below hb1
    replace h3 := h3.below hb1
    have hsb := hb1.size
    clear hb1 bx0 by0 K0 K1
    go_wp2_with fail
    go_region_held3 (fun w' => Below w1.heap.size w1 w' ∧ w'.cell? ⟨w.heap.size, 0, none⟩ = some (.slice A n c) ∧ w'.cell? ⟨w.heap.size + 1, 0, none⟩ = some (.slice B m d) ∧ w'.cell? ⟨w.heap.size + 1, 1, none⟩ = some (.slice C o f))
      (first | exact ⟨(Below.refl _ _).drew, c0, c1, c2⟩ | exact keepS3 ha1 (by assumption) | exact keepS3 ha2 (by assumption) | assumption)
      ((first | (go_at_call 25; with_reducible (show Calls Tryd.prog 25 #[.agg #[.slice A n c], .slice B m d] _ _); refine (S_TermText A n c xs B m d l _ ?_ ?_ hn (by omega)).mono ?_; exact riS h1 (by assumption); exact riS h2 (by assumption); (first | rw [HV1.out] | rw [HTL.out]); rintro e wa ⟨rfl, ha1⟩) | (go_at_call 25; with_reducible (show Calls Tryd.prog 25 #[.agg #[.slice A n c], .slice C o f] _ _); refine (S_TermText A n c xs C o f r _ ?_ ?_ hn (by omega)).mono ?_; exact riS h1 (by assumption); exact riS h3 (by assumption); (first | rw [HV2.out] | rw [HTR.out]); rintro e wb ⟨rfl, ha2⟩)))
    rename_i hS
    have hb2 := hS.1
    go_wp2_with fail
    go_ret
    rw [HE.out, show TL ++ Pl.arrow ++ TR = T3 ++ TR by rw [hT3.out], ← ByteArray.mk_append_mk]
    exact ⟨rfl, hB1.trans (hb2.mono (by omega))⟩
set_option maxHeartbeats 2000000 in
set_option maxRecDepth 20000 in
theorem I_RuleText (A : Option Addr) (n c : Nat) (xs : List Int) (B : Option Addr) (m d : Nat) (l : List Int) (C : Option Addr) (o f : Nat) (r : List Int) (w : World) (h : RI w A n xs) (h' : RI w B m l) (h'' : RI w C o r) (hn : n ≤ 1048576) (hs : m + o ≤ 1048576) :
    Calls Tryd.prog 32 #[.agg #[.slice A n c], .agg #[.slice B m d, .slice C o f]] w fun e w' => e = .returned (.string ⟨(V_RuleText xs l r).toArray⟩) ∧ Below w.heap.size w w' := by
  have hB0 : Below w.heap.size w ((w.alloc (.cells #[.slice A n c] 30)).alloc (.cells #[.slice B m d, .slice C o f] 27)) := ((Below.refl _ _).alloc (Nat.le_refl _) _).alloc (by simp) _
  have bx0 := (Blk.new w 30 #[.slice A n c]).alloc (.cells #[.slice B m d, .slice C o f] 27)
  have by0 : Blk ((w.alloc (.cells #[.slice A n c] 30)).alloc (.cells #[.slice B m d, .slice C o f] 27)) (w.heap.size + 1) 27 #[.slice B m d, .slice C o f] := by
    have := Blk.new (w.alloc (.cells #[.slice A n c] 30)) 27 #[.slice B m d, .slice C o f]
    rwa [World.size_alloc] at this
  have h1 := h.below hB0
  have h2 := h'.below hB0
  have h3 := h''.below hB0
  have hsz : ((w.alloc (.cells #[.slice A n c] 30)).alloc (.cells #[.slice B m d, .slice C o f] 27)).heap.size = w.heap.size + 1 + 1 := by simp
  have K0 : ∀ i, ((w.alloc (.cells #[.slice A n c] 30)).alloc (.cells #[.slice B m d, .slice C o f] 27)).cell? ⟨w.heap.size, i, none⟩ = #[Value.slice A n c][i]? := fun i => bx0.cell i
  have K1 : ∀ i, ((w.alloc (.cells #[.slice A n c] 30)).alloc (.cells #[.slice B m d, .slice C o f] 27)).cell? ⟨w.heap.size + 1, i, none⟩ = #[Value.slice B m d, .slice C o f][i]? := fun i => by0.cell i
  cases hk : ruleOk xs l r
  · have HE := Lib.hid (V_RuleText_no hk)
    have HK := Lib.hid hk
    clear hk
    go_enter Tryd.func32, Tryd.ntmps32
    go_wp2_with fail
    generalize (w.alloc (.cells #[.slice A n c] 30)).alloc (.cells #[.slice B m d, .slice C o f] 27) = W at *
    refine (I_RuleOk A n c xs B m d l C o f r W h1 h2 h3 hn hs).mono ?_
    rintro e w1 ⟨rfl, hb1⟩
    rw [HK.out]
    go_wp2_with fail
    go_ret
    rw [HE.out]
    exact ⟨rfl, hB0.trans (hb1.mono (by omega))⟩
  · have HE := Lib.hid (V_RuleText_yes hk)
    obtain ⟨hT1, hT2⟩ := ruleOk_terms hk
    obtain ⟨TL, hTL⟩ : ∃ TL : List UInt8, Pl.txt xs l 0 = TL := ⟨_, rfl⟩
    obtain ⟨TR, hTR⟩ : ∃ TR : List UInt8, Pl.txt xs r 0 = TR := ⟨_, rfl⟩
    have hl1 := (Pl.txt_tk hT1).2
    have hl2 := (Pl.txt_tk hT2).2
    rw [hTL] at hl1
    rw [hTR] at hl2
    rw [hTL, hTR] at HE
    have HTL := Lib.hid hTL
    have HTR := Lib.hid hTR
    have HV1 := Lib.hid ((V_TermText_yes hT1).trans hTL)
    have HV2 := Lib.hid ((V_TermText_yes hT2).trans hTR)
    have HT1 := Lib.hid hT1
    have HT2 := Lib.hid hT2
    have HK := Lib.hid hk
    obtain ⟨T3, hT3⟩ : ∃ T3 : List UInt8, Hid (T3 = TL ++ Pl.arrow) := ⟨_, Lib.hid rfl⟩
    have hT3l : T3.length ≤ 303 := by rw [hT3.out, List.length_append]; simp [Pl.arrow]; omega
    have hadd : (⟨TL.toArray⟩ : ByteArray) ++ ⟨#[32, 45, 62, 32]⟩ = ⟨T3.toArray⟩ := by rw [hT3.out, show (⟨#[32, 45, 62, 32]⟩ : ByteArray) = ⟨Pl.arrow.toArray⟩ from rfl, ByteArray.mk_append_mk]
    have had1 : ¬ 9223372036854775807 < TL.length + 4 := by omega
    have had2 : ¬ 9223372036854775807 < T3.length + TR.length := by omega
    clear hk hTL hTR hT1 hT2
    go_enter Tryd.func32, Tryd.ntmps32
    go_wp2_with fail
    generalize (w.alloc (.cells #[.slice A n c] 30)).alloc (.cells #[.slice B m d, .slice C o f] 27) = W at *
    refine (I_RuleOk A n c xs B m d l C o f r W h1 h2 h3 hn hs).mono ?_
    rintro e w1 ⟨rfl, hb1⟩
    rw [HK.out]
    have hB1 := hB0.trans (hb1.mono (by omega))
    have c0 : w1.cell? ⟨w.heap.size, 0, none⟩ = some (.slice A n c) := (bx0.below hb1).cell 0
    have c1 : w1.cell? ⟨w.heap.size + 1, 0, none⟩ = some (.slice B m d) := (by0.below hb1).cell 0
    have c2 : w1.cell? ⟨w.heap.size + 1, 1, none⟩ = some (.slice C o f) := (by0.below hb1).cell 1
    replace h1 := h1.below hb1
    replace h2 := h2.below hb1
    replace h3 := h3.below hb1
    have hsb := hb1.size
    clear hb1 bx0 by0 K0 K1
    go_wp2_with fail
    go_region_held3 (fun w' => Below w1.heap.size w1 w' ∧ w'.cell? ⟨w.heap.size, 0, none⟩ = some (.slice A n c) ∧ w'.cell? ⟨w.heap.size + 1, 0, none⟩ = some (.slice B m d) ∧ w'.cell? ⟨w.heap.size + 1, 1, none⟩ = some (.slice C o f))
      (first | exact ⟨(Below.refl _ _).drew, c0, c1, c2⟩ | exact keepS3 ha1 (by assumption) | exact keepS3 ha2 (by assumption) | assumption)
      ((first | (go_at_call 59; with_reducible (show Calls Tryd.prog 59 #[.agg #[.slice A n c], .slice B m d] _ _); refine (text_any A n c xs B m d l _ ?_ ?_ HT1.out hn (by omega)).mono ?_; exact riS h1 (by assumption); exact riS h2 (by assumption); (first | rw [HV1.out] | rw [HTL.out]); rintro e wa ⟨rfl, ha1⟩) | (go_at_call 59; with_reducible (show Calls Tryd.prog 59 #[.agg #[.slice A n c], .slice C o f] _ _); refine (text_any A n c xs C o f r _ ?_ ?_ HT2.out hn (by omega)).mono ?_; exact riS h1 (by assumption); exact riS h3 (by assumption); (first | rw [HV2.out] | rw [HTR.out]); rintro e wb ⟨rfl, ha2⟩)))
    rename_i hS
    have hb2 := hS.1
    go_wp2_with fail
    go_ret
    rw [HE.out, show TL ++ Pl.arrow ++ TR = T3 ++ TR by rw [hT3.out], ← ByteArray.mk_append_mk]
    exact ⟨rfl, hB1.trans (hb2.mono (by omega))⟩
end Go.Proofs.YtlcchafcgidpeaaDoor
