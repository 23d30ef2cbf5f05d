/- Contracts: rules with their variables renumbered: the program's side. -/
import Derived.Test.YtkonnbkldjgomaaRenRule
namespace Go.Proofs.Ytkonnbkldjgomaa
open Go.RowKit
set_option linter.unusedVariables false

set_option maxHeartbeats 1000000 in
set_option maxRecDepth 20000 in
theorem I_RenamedRule (A : Option Addr) (n c : Nat) (xs : List Int) (B : Option Addr) (m d : Nat) (l : List Int) (C : Option Addr) (o f : Nat) (r : List Int) (w : World) (h : RI w A n xs) (h' : RI w B m l) (h'' : RI w C o r) (hn : n ≤ 1048576) (hs : m + o ≤ 1048576) :
    Calls Try.prog 53 #[.agg #[.slice A n c], .agg #[.slice B m d, .slice C o f]] w fun e w' => ∃ A1 c1 A2 c2, e = .returned (.agg #[.slice A1 (V_RenamedRule xs l r).1.length c1, .slice A2 (V_RenamedRule xs l r).2.length c2]) ∧
      OI w' w.heap.size A1 (V_RenamedRule xs l r).1.length c1 (V_RenamedRule xs l r).1 ∧ OI w' w.heap.size A2 (V_RenamedRule xs l r).2.length c2 (V_RenamedRule xs l r).2 ∧ (∀ b, blk A1 = some b → blk A2 ≠ some b) ∧ Below w.heap.size w w' := by
  have hl := h'.1
  have hl' := h''.1
  have hB0 : Below w.heap.size w (((w.alloc (.cells #[.slice A n c] 27)).alloc (.cells #[.slice B m d, .slice C o f] 69)).alloc (.cells #[.slice none 0 0, .slice none 0 0] 69)) := (((Below.refl _ _).alloc (Nat.le_refl _) _).alloc (by simp) _).alloc (by simp <;> omega) _
  have bk1 : Blk (((w.alloc (.cells #[.slice A n c] 27)).alloc (.cells #[.slice B m d, .slice C o f] 69)).alloc (.cells #[.slice none 0 0, .slice none 0 0] 69)) (w.heap.size + 1) 69 #[.slice B m d, .slice C o f] := by
    have := (Blk.new (w.alloc (.cells #[.slice A n c] 27)) 69 #[.slice B m d, .slice C o f]).alloc (.cells #[.slice none 0 0, .slice none 0 0] 69)
    simpa only [World.size_alloc] using this
  have bk2 : Blk (((w.alloc (.cells #[.slice A n c] 27)).alloc (.cells #[.slice B m d, .slice C o f] 69)).alloc (.cells #[.slice none 0 0, .slice none 0 0] 69)) (w.heap.size + 1 + 1) 69 #[.slice none 0 0, .slice none 0 0] := by
    have := Blk.new ((w.alloc (.cells #[.slice A n c] 27)).alloc (.cells #[.slice B m d, .slice C o f] 69)) 69 #[.slice none 0 0, .slice none 0 0]
    simpa only [World.size_alloc] using this
  cases hq : ruleOk xs l r
  · have HE := renRule_no hq
    rw [HE]
    have HQ := Lib.hid hq
    have HN0 : ∀ b, blk none = some b → blk none ≠ some b := fun b e => by simp [blk] at e
    clear HE hq
    go_enter Try.func53, Try.ntmps53
    go_wp2_with fail
    generalize ((w.alloc (.cells #[.slice A n c] 27)).alloc (.cells #[.slice B m d, .slice C o f] 69)).alloc (.cells #[.slice none 0 0, .slice none 0 0] 69) = W0 at *
    refine (I_RuleOk A n c xs B m d l C o f r _ (h.below hB0) (h'.below hB0) (h''.below hB0) hn hs).mono ?_
    rintro e w1 ⟨rfl, hb1⟩
    rw [HQ.out]
    replace bk2 := bk2.below hb1
    have hB := below_then hB0 hb1 hB0.size
    clear hb1 bk1
    have K0 : w1.cell? ⟨w.heap.size + 1 + 1, 0, none⟩ = some (.slice none 0 0) := by simpa using bk2.cell 0
    have K1 : w1.cell? ⟨w.heap.size + 1 + 1, 1, none⟩ = some (.slice none 0 0) := by simpa using bk2.cell 1
    have F0 : w1.frozen? ⟨w.heap.size + 1 + 1, 0, none⟩ = false := bk2.frozen 0
    have F1 : w1.frozen? ⟨w.heap.size + 1 + 1, 1, none⟩ = false := bk2.frozen 1
    have bk := (bk2.set_ 0 (.slice none 0 0)).set_ 1 (.slice none 0 0)
    simp only [List.setIfInBounds_toArray, List.set_cons_zero, List.set_cons_succ] at bk
    have E3 : Below w.heap.size w ((w1.setCell ⟨w.heap.size + 1 + 1, 0, none⟩ (.slice none 0 0)).setCell ⟨w.heap.size + 1 + 1, 1, none⟩ (.slice none 0 0)) :=
      (hB.setCell (p := ⟨w.heap.size + 1 + 1, 0, none⟩) (by simp <;> omega) _).setCell (p := ⟨w.heap.size + 1 + 1, 1, none⟩) (by simp <;> omega) _
    have hlt := bk2.lt
    go_wp2_with fail
    have K2 : ∀ i, ((w1.setCell ⟨w.heap.size + 1 + 1, 0, none⟩ (.slice none 0 0)).setCell ⟨w.heap.size + 1 + 1, 1, none⟩ (.slice none 0 0)).cell? ⟨w.heap.size + 1 + 1, i, none⟩ = #[.slice none 0 0, .slice none 0 0][i]? := fun i => bk.cell i
    generalize ((w1.setCell ⟨w.heap.size + 1 + 1, 0, none⟩ (.slice none 0 0)).setCell ⟨w.heap.size + 1 + 1, 1, none⟩ (.slice none 0 0)) = W2 at *
    exact bodyPost_ret (v := .agg #[.slice none 0 0, .slice none 0 0]) (by simp [results, Try.results53, go_sem, K2]) rfl ⟨none, 0, none, 0, rfl, World.ownsRow_nil _ _ _ _, World.ownsRow_nil _ _ _ _, HN0, E3⟩
  · have HE := renRule_yes hq
    rw [HE]
    have HQ := Lib.hid hq
    have hlens := ruleOk_lens hq
    have hm60 : m ≤ 60 := by omega
    have ho60 : o ≤ 60 := by omega
    have HV := Lib.hid (ruleOk_vars hq)
    have e1 : (rnT l).length = m := by rw [rnT_len, hl]
    have e2 : (rnR l r).length = o := by rw [rnR_len, hl']
    simp only [e1, e2]
    clear HE hq e1 e2 hlens
    go_enter Try.func53, Try.ntmps53
    go_wp2_with fail
    generalize ((w.alloc (.cells #[.slice A n c] 27)).alloc (.cells #[.slice B m d, .slice C o f] 69)).alloc (.cells #[.slice none 0 0, .slice none 0 0] 69) = W0 at *
    refine (I_RuleOk A n c xs B m d l C o f r _ (h.below hB0) (h'.below hB0) (h''.below hB0) hn hs).mono ?_
    rintro e w1 ⟨rfl, hb1⟩
    rw [HQ.out]
    replace bk1 := bk1.below hb1
    replace bk2 := bk2.below hb1
    have hB := below_then hB0 hb1 hB0.size
    clear hb1
    have K0 : w1.cell? ⟨w.heap.size + 1, 0, none⟩ = some (.slice B m d) := by simpa using bk1.cell 0
    have K1 : w1.cell? ⟨w.heap.size + 1, 1, none⟩ = some (.slice C o f) := by simpa using bk1.cell 1
    have hlt := bk2.lt
    go_wp2_with fail
    refine (renamedRule_any B m d l C o f r _ (h'.below hB) (h''.below hB) hm60 ho60 HV.out).mono ?_
    rintro e w2 ⟨L, d1, R, d2, rfl, hL, hR, hne, hb2⟩
    replace bk2 := bk2.below hb2
    have hB2 := below_then hB hb2 hB.size
    have HNE := Lib.hid hne
    clear hb2 bk1 K0 K1 hne
    have K0 : w2.cell? ⟨w.heap.size + 1 + 1, 0, none⟩ = some (.slice none 0 0) := by simpa using bk2.cell 0
    have K1 : w2.cell? ⟨w.heap.size + 1 + 1, 1, none⟩ = some (.slice none 0 0) := by simpa using bk2.cell 1
    have F0 : w2.frozen? ⟨w.heap.size + 1 + 1, 0, none⟩ = false := bk2.frozen 0
    have F1 : w2.frozen? ⟨w.heap.size + 1 + 1, 1, none⟩ = false := bk2.frozen 1
    have bk := (bk2.set_ 0 (.slice L m d1)).set_ 1 (.slice R o d2)
    simp only [List.setIfInBounds_toArray, List.set_cons_zero, List.set_cons_succ] at bk
    have E1 : OI ((w2.setCell ⟨w.heap.size + 1 + 1, 0, none⟩ (.slice L m d1)).setCell ⟨w.heap.size + 1 + 1, 1, none⟩ (.slice R o d2)) w.heap.size L m d1 (rnT l) :=
      OI.base (B := w1.heap.size) ((hL.setBelow (p := ⟨w.heap.size + 1 + 1, 0, none⟩) hlt (.slice L m d1)).setBelow (p := ⟨w.heap.size + 1 + 1, 1, none⟩) hlt (.slice R o d2)) hB.size
    have E2 : OI ((w2.setCell ⟨w.heap.size + 1 + 1, 0, none⟩ (.slice L m d1)).setCell ⟨w.heap.size + 1 + 1, 1, none⟩ (.slice R o d2)) w.heap.size R o d2 (rnR l r) :=
      OI.base (B := w1.heap.size) ((hR.setBelow (p := ⟨w.heap.size + 1 + 1, 0, none⟩) hlt (.slice L m d1)).setBelow (p := ⟨w.heap.size + 1 + 1, 1, none⟩) hlt (.slice R o d2)) hB.size
    have E3 : Below w.heap.size w ((w2.setCell ⟨w.heap.size + 1 + 1, 0, none⟩ (.slice L m d1)).setCell ⟨w.heap.size + 1 + 1, 1, none⟩ (.slice R o d2)) :=
      (hB2.setCell (p := ⟨w.heap.size + 1 + 1, 0, none⟩) (by simp <;> omega) _).setCell (p := ⟨w.heap.size + 1 + 1, 1, none⟩) (by simp <;> omega) _
    have HK := Lib.hid bk
    clear hL hR bk
    go_wp2_with fail
    have K2 : ∀ i, ((w2.setCell ⟨w.heap.size + 1 + 1, 0, none⟩ (.slice L m d1)).setCell ⟨w.heap.size + 1 + 1, 1, none⟩ (.slice R o d2)).cell? ⟨w.heap.size + 1 + 1, i, none⟩ = #[.slice L m d1, .slice R o d2][i]? := fun i => HK.out.cell i
    generalize ((w2.setCell ⟨w.heap.size + 1 + 1, 0, none⟩ (.slice L m d1)).setCell ⟨w.heap.size + 1 + 1, 1, none⟩ (.slice R o d2)) = W2 at *
    exact bodyPost_ret (v := .agg #[.slice L m d1, .slice R o d2]) (by simp [results, Try.results53, go_sem, K2]) rfl ⟨L, d1, R, d2, rfl, E1, E2, HNE.out, E3⟩
end Go.Proofs.Ytkonnbkldjgomaa
