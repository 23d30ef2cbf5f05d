/- Contracts: rules with their variables renumbered. -/
import Derived.Test.YtkonnbkldjgomaaRenum
import Derived.Test.YtkonnbkldjgomaaRuleOk
import Derived.Deep.RegionHeld3
namespace Go.Proofs.Ytkonnbkldjgomaa
open Go.RowKit
set_option linter.unusedVariables false

/-- A rule's right side, its variables renumbered by the left side. -/
def rnR (l r : List Int) : List Int := r.map (rn (ord [] l))
theorem rnR_len (l r : List Int) : (rnR l r).length = r.length := by simp [rnR]
theorem ruleOk_vars {xs l r : List Int} (h : ruleOk xs l r = true) : ∀ x ∈ r, x < 0 → x ∈ ord [] l := by
  unfold ruleOk at h
  simp only [Bool.and_eq_true] at h
  have h2 := h.2
  unfold rvTo at h2
  rw [List.all_eq_true] at h2
  intro x hx h0
  obtain ⟨k, hk, rfl⟩ := List.mem_iff_getElem.1 hx
  have h3 := h2 k (by simpa using hk)
  have e : r.getD k 0 = r[k] := by rw [List.getD_eq_getElem?_getD, List.getElem?_eq_getElem hk, Option.getD_some]
  rw [e] at h3
  simp only [Bool.not_eq_true', Bool.and_eq_false_iff, decide_eq_false_iff_not, Bool.not_eq_false'] at h3
  rcases h3 with h3 | h3
  · omega
  · exact ord_map l _ (by simpa using h3) h0
theorem ruleOk_lens {xs l r : List Int} (h : ruleOk xs l r = true) : l.length ≤ 60 ∧ r.length ≤ 60 := by
  unfold ruleOk at h
  simp only [Bool.and_eq_true] at h
  exact ⟨(Pl.termOk_iff.1 h.1.1.1).2.1.2, (Pl.termOk_iff.1 h.1.1.2).2.1.2⟩
theorem ren_two {l r : List Int} (h : ∀ x ∈ r, x < 0 → x ∈ ord [] l) : ren [l, r] 2 = [rnT l, rnR l r] := by
  have e : ord [] (l ++ r) = ord [] l := by rw [ord_app, ord_same h]
  simp [ren, flat, e, rnT, rnR]
def V_RenamedRule (xs l r : List Int) : List Int × List Int := if ruleOk xs l r then (rnT l, rnR l r) else ([], [])
theorem renRule_no {xs l r : List Int} (h : ruleOk xs l r = false) : V_RenamedRule xs l r = ([], []) := by unfold V_RenamedRule; rw [h]; rfl
theorem renRule_yes {xs l r : List Int} (h : ruleOk xs l r = true) : V_RenamedRule xs l r = (rnT l, rnR l r) := by unfold V_RenamedRule; rw [h]; rfl
theorem bd_RenamedRule (xs l r : List Int) : (V_RenamedRule xs l r).1.length + (V_RenamedRule xs l r).2.length ≤ 120 := by
  unfold V_RenamedRule
  split
  · rename_i h
    have := ruleOk_lens h
    show (rnT l).length + (rnR l r).length ≤ 120
    rw [rnT_len, rnR_len]; omega
  · simp
theorem rows_two {w : World} {B : Nat} {A : Option Addr} {c : Nat} {rs : List (Option Addr × Nat)} {x0 x1 : List Int} (h : w.ownsRow B 22 1 (.slice A 2 c) 2 (List.zipWith rowV rs [x0, x1])) (hr : Rows w B rs [x0, x1]) :
    ∃ g L c1 R c2, A = some ⟨g, 0, none⟩ ∧ w.cell? ⟨g, 0, none⟩ = some (.slice L x0.length c1) ∧ w.cell? ⟨g, 1, none⟩ = some (.slice R x1.length c2) ∧ OI w B L x0.length c1 x0 ∧ OI w B R x1.length c2 x1 ∧ (∀ b, blk L = some b → blk R ≠ some b) ∧ B ≤ g := by
  match rs, hr.1 with
  | [r0, r1], _ =>
    rcases h.2 with ⟨_, h0⟩ | ⟨g, cap, cur, hv, hB, _⟩
    · omega
    · simp only [Value.slice.injEq] at hv
      obtain ⟨rfl, _, rfl⟩ := hv
      have hc0 := h.cellAt 0 (by omega)
      have hc1 := h.cellAt 1 (by omega)
      exact ⟨g, r0.1, r0.2, r1.1, r1.2, rfl, by simpa [rowV] using hc0, by simpa [rowV] using hc1, hr.2.1 0 (by simp), hr.2.1 1 (by simp), hr.2.2 0 1 (by omega) (by simp), hB⟩
set_option maxHeartbeats 1000000 in
set_option maxRecDepth 20000 in
theorem renamedRule_any (B : Option Addr) (m d : Nat) (l : List Int) (C : Option Addr) (o f : Nat) (r : List Int) (w : World) (h : RI w B m l) (h' : RI w C o r) (hm : m ≤ 60) (ho : o ≤ 60) (hv : ∀ x ∈ r, x < 0 → x ∈ ord [] l) :
    Calls Try.prog 97 #[.agg #[.slice B m d, .slice C o f]] w fun e w' => ∃ A1 c1 A2 c2, e = .returned (.agg #[.slice A1 m c1, .slice A2 o c2]) ∧ OI w' w.heap.size A1 m c1 (rnT l) ∧ OI w' w.heap.size A2 o c2 (rnR l r) ∧ (∀ b, blk A1 = some b → blk A2 ≠ some b) ∧ Below w.heap.size w w' := by
  have hl := h.1
  have hl' := h'.1
  have hfl : (flat [l, r] 2).length ≤ 1000 := by simp [flat]; omega
  have HR := Lib.hid (ren_two hv)
  have HL := Lib.hid (rnT_len l)
  have HL2 := Lib.hid (rnR_len l r)
  clear hv
  have hB0 : Below w.heap.size w ((w.alloc (.cells #[.slice B m d, .slice C o f] 69)).alloc (.cells #[.slice none 0 0, .slice none 0 0] 69)) := ((Below.refl _ _).alloc (Nat.le_refl _) _).alloc (by simp) _
  have HRR : Hid (RR ((((w.alloc (.cells #[.slice B m d, .slice C o f] 69)).alloc (.cells #[.slice none 0 0, .slice none 0 0] 69)).alloc (.cells #[.slice B m d, .slice C o f] 22))) (some ⟨w.heap.size + 1 + 1, 0, none⟩) 2 [l, r]) := Lib.hid (by
    have := RR.two (c := d) (d := f) (T := 22) (h.below hB0) (by omega) (h'.below hB0) (by omega)
    have e : ((w.alloc (.cells #[.slice B m d, .slice C o f] 69)).alloc (.cells #[.slice none 0 0, .slice none 0 0] 69)).heap.size = w.heap.size + 1 + 1 := by simp
    rwa [e] at this)
  have hB1 : Below w.heap.size w (((w.alloc (.cells #[.slice B m d, .slice C o f] 69)).alloc (.cells #[.slice none 0 0, .slice none 0 0] 69)).alloc (.cells #[.slice B m d, .slice C o f] 22)) := hB0.alloc (by simp <;> omega) _
  have b2 : (((w.alloc (.cells #[.slice B m d, .slice C o f] 69)).alloc (.cells #[.slice none 0 0, .slice none 0 0] 69)).alloc (.cells #[.slice B m d, .slice C o f] 22)).heap[w.heap.size + 1]? = some (.cells #[.slice none 0 0, .slice none 0 0] 69) := by
    have k1 := (Blk.new (w.alloc (.cells #[.slice B m d, .slice C o f] 69)) 69 #[.slice none 0 0, .slice none 0 0]).alloc (.cells #[.slice B m d, .slice C o f] 22)
    have e : (w.alloc (.cells #[.slice B m d, .slice C o f] 69)).heap.size = w.heap.size + 1 := by simp
    rw [e] at k1; exact k1
  go_enter Try.func97, Try.ntmps97
  go_wp2_with fail
  generalize ((w.alloc (.cells #[.slice B m d, .slice C o f] 69)).alloc (.cells #[.slice none 0 0, .slice none 0 0] 69)).alloc (.cells #[.slice B m d, .slice C o f] 22) = W0 at *
  refine (renumber_any _ 2 _ [l, r] _ HRR.out (by omega) hfl).mono ?_
  rintro e w1 ⟨A1, c1, rs, rfl, ho1, hr, hb1⟩
  rw [HR.out] at ho1 hr
  obtain ⟨g, L, d1, R, d2, rfl, hc1, hc2, hL, hR, hne, hg⟩ := rows_two ho1 hr
  rw [HL.out, hl] at hc1 hL
  rw [HL2.out, hl'] at hc2 hR
  have hbase : w.heap.size ≤ W0.heap.size := hB1.size
  have hlt2 : w.heap.size + 1 < W0.heap.size := by by_cases hh : w.heap.size + 1 < W0.heap.size; exact hh; rw [Array.getElem?_eq_none (by omega)] at b2; cases b2
  have b3 : w1.heap[w.heap.size + 1]? = some (.cells #[.slice none 0 0, .slice none 0 0] 69) := (hb1.block _ hlt2).trans b2
  have k0 : w1.cell? ⟨w.heap.size + 1, 0, none⟩ = some (.slice none 0 0) := by simpa using (show Blk w1 (w.heap.size + 1) 69 #[.slice none 0 0, .slice none 0 0] from b3).cell 0
  have k1 : w1.cell? ⟨w.heap.size + 1, 1, none⟩ = some (.slice none 0 0) := by simpa using (show Blk w1 (w.heap.size + 1) 69 #[.slice none 0 0, .slice none 0 0] from b3).cell 1
  have f0 : w1.frozen? ⟨w.heap.size + 1, 0, none⟩ = false := (show Blk w1 (w.heap.size + 1) 69 #[.slice none 0 0, .slice none 0 0] from b3).frozen 0
  have f1 : w1.frozen? ⟨w.heap.size + 1, 1, none⟩ = false := (show Blk w1 (w.heap.size + 1) 69 #[.slice none 0 0, .slice none 0 0] from b3).frozen 1
  have HOL := Lib.hid hL
  have HOR := Lib.hid hR
  have HNE := Lib.hid hne
  have hBW := below_then hB1 hb1 hbase
  have hgne : ¬ g = w.heap.size + 1 := by omega
  clear hL hR hne ho1 hr HRR
  go_wp2_with fail
  go_region
  have bk := (((show Blk w1 (w.heap.size + 1) 69 #[.slice none 0 0, .slice none 0 0] from b3).set_ 0 (.slice L m d1)).set_ 1 (.slice R o d2)).drew
  simp only [List.setIfInBounds_toArray, List.set_cons_zero, List.set_cons_succ] at bk
  have E1 : OI (((w1.setCell ⟨w.heap.size + 1, 0, none⟩ (.slice L m d1)).setCell ⟨w.heap.size + 1, 1, none⟩ (.slice R o d2)).drew) w.heap.size L m d1 (rnT l) := by
    refine OI.base (B := W0.heap.size) ?_ hbase
    exact (HOL.out.setBelow (p := ⟨w.heap.size + 1, 0, none⟩) hlt2 (.slice L m d1)).setBelow (p := ⟨w.heap.size + 1, 1, none⟩) hlt2 (.slice R o d2)
  have E2 : OI (((w1.setCell ⟨w.heap.size + 1, 0, none⟩ (.slice L m d1)).setCell ⟨w.heap.size + 1, 1, none⟩ (.slice R o d2)).drew) w.heap.size R o d2 (rnR l r) := by
    refine OI.base (B := W0.heap.size) ?_ hbase
    exact (HOR.out.setBelow (p := ⟨w.heap.size + 1, 0, none⟩) hlt2 (.slice L m d1)).setBelow (p := ⟨w.heap.size + 1, 1, none⟩) hlt2 (.slice R o d2)
  have E3 : Below w.heap.size w (((w1.setCell ⟨w.heap.size + 1, 0, none⟩ (.slice L m d1)).setCell ⟨w.heap.size + 1, 1, none⟩ (.slice R o d2)).drew) :=
    ((hBW.setCell (p := ⟨w.heap.size + 1, 0, none⟩) (by simp <;> omega) (.slice L m d1)).setCell (p := ⟨w.heap.size + 1, 1, none⟩) (by simp <;> omega) (.slice R o d2)).drew
  generalize (((w1.setCell ⟨w.heap.size + 1, 0, none⟩ (.slice L m d1)).setCell ⟨w.heap.size + 1, 1, none⟩ (.slice R o d2)).drew) = W2 at *
  have K1 : ∀ i, W2.cell? ⟨w.heap.size + 1, i, none⟩ = #[.slice L m d1, .slice R o d2][i]? := fun i => bk.cell i
  go_wp2_with fail
  exact bodyPost_ret (v := .agg #[.slice L m d1, .slice R o d2]) (by simp [results, Try.results97, go_sem, K1]) rfl ⟨L, d1, R, d2, rfl, E1, E2, HNE.out, E3⟩
end Go.Proofs.Ytkonnbkldjgomaa
