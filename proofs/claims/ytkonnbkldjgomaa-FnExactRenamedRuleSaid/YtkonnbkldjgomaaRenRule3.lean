/- Contracts: rules with their variables renumbered: the model's side. -/
import Derived.Test.YtkonnbkldjgomaaRenRule
namespace Go.Proofs.Ytkonnbkldjgomaa
open Go.RowKit
set_option linter.unusedVariables false

theorem riO {w0 w2 w' : World} {lo hi : Nat} {R : Prop} {A : Option Addr} {n : Nat} {xs : List Int} (h : RI w0 A n xs) (hb : Below w0.heap.size w0 w2) (hlo : w0.heap.size ≤ lo) (hS : Only lo hi w2 w' ∧ R) : RI w' A n xs := h.below (hb.trans (hS.1.below hlo hb.size))
theorem riD {w2 w' : World} {lo hi B : Nat} {R : Prop} {A : Option Addr} {n c : Nat} {xs : List Int} (h : OI w2 B A n c xs) (hB : hi ≤ B) (hS : Only lo hi w2 w' ∧ R) : RI w' A n xs := ((h.hi_ (Nat.le_refl _)).only hS.1 (Or.inr hB)).rd
/-- What a cell holds. -/
def cellAt (w : World) (b i : Nat) : Value := (w.cell? ⟨b, i, none⟩).getD (.bool false)
theorem cellAt_of {w : World} {b i : Nat} {v : Value} (h : w.cell? ⟨b, i, none⟩ = some v) : w.cell? ⟨b, i, none⟩ = some (cellAt w b i) := by unfold cellAt; rw [h]; rfl
theorem stMk {W w1 : World} {lo : Nat} {t : TypeId} {p q : Addr} {u v : Value} (ho : Only lo (lo + 1) W w1) (hp : w1.cell? p = some u) (hq : w1.cell? q = some v) (hb : ∃ x y, Blk w1 lo t #[x, y]) :
    Only lo (lo + 1) W w1 ∧ w1.cell? p = some u ∧ w1.cell? q = some v ∧ w1.cell? ⟨lo, 0, none⟩ = some (cellAt w1 (lo) 0) ∧ w1.cell? ⟨lo, 1, none⟩ = some (cellAt w1 (lo) 1) ∧ w1.frozen? ⟨lo, 0, none⟩ = false ∧ w1.frozen? ⟨lo, 1, none⟩ = false ∧ (∃ x y, Blk w1 lo t #[x, y]) := by
  obtain ⟨x, y, k⟩ := hb
  exact ⟨ho, hp, hq, cellAt_of (v := x) (by simpa using k.cell 0), cellAt_of (v := y) (by simpa using k.cell 1), k.frozen 0, k.frozen 1, x, y, k⟩
theorem stCall {W w1 w2 : World} {lo : Nat} {t : TypeId} {p q : Addr} {u v : Value} (hb : Below w1.heap.size w1 w2)
    (h : Only lo (lo + 1) W w1 ∧ w1.cell? p = some u ∧ w1.cell? q = some v ∧ w1.cell? ⟨lo, 0, none⟩ = some (cellAt w1 (lo) 0) ∧ w1.cell? ⟨lo, 1, none⟩ = some (cellAt w1 (lo) 1) ∧ w1.frozen? ⟨lo, 0, none⟩ = false ∧ w1.frozen? ⟨lo, 1, none⟩ = false ∧ (∃ x y, Blk w1 lo t #[x, y])) :
    Only lo (lo + 1) W w2 ∧ w2.cell? p = some u ∧ w2.cell? q = some v ∧ w2.cell? ⟨lo, 0, none⟩ = some (cellAt w2 (lo) 0) ∧ w2.cell? ⟨lo, 1, none⟩ = some (cellAt w2 (lo) 1) ∧ w2.frozen? ⟨lo, 0, none⟩ = false ∧ w2.frozen? ⟨lo, 1, none⟩ = false ∧ (∃ x y, Blk w2 lo t #[x, y]) := by
  obtain ⟨x, y, k⟩ := h.2.2.2.2.2.2.2
  exact stMk (h.1.trans (Only.of hb)) (keepC hb h.2.1) (keepC hb h.2.2.1) ⟨x, y, k.below hb⟩
theorem stSet {W w1 : World} {lo : Nat} {t : TypeId} {p q : Addr} {u v a b : Value} (hp : p.block ≠ lo) (hq : q.block ≠ lo)
    (h : Only lo (lo + 1) W w1 ∧ w1.cell? p = some u ∧ w1.cell? q = some v ∧ w1.cell? ⟨lo, 0, none⟩ = some (cellAt w1 (lo) 0) ∧ w1.cell? ⟨lo, 1, none⟩ = some (cellAt w1 (lo) 1) ∧ w1.frozen? ⟨lo, 0, none⟩ = false ∧ w1.frozen? ⟨lo, 1, none⟩ = false ∧ (∃ x y, Blk w1 lo t #[x, y])) :
    Only lo (lo + 1) W ((w1.setCell ⟨lo, 0, none⟩ a).setCell ⟨lo, 1, none⟩ b) ∧ ((w1.setCell ⟨lo, 0, none⟩ a).setCell ⟨lo, 1, none⟩ b).cell? p = some u ∧ ((w1.setCell ⟨lo, 0, none⟩ a).setCell ⟨lo, 1, none⟩ b).cell? q = some v ∧ ((w1.setCell ⟨lo, 0, none⟩ a).setCell ⟨lo, 1, none⟩ b).cell? ⟨lo, 0, none⟩ = some (cellAt ((w1.setCell ⟨lo, 0, none⟩ a).setCell ⟨lo, 1, none⟩ b) (lo) 0) ∧ ((w1.setCell ⟨lo, 0, none⟩ a).setCell ⟨lo, 1, none⟩ b).cell? ⟨lo, 1, none⟩ = some (cellAt ((w1.setCell ⟨lo, 0, none⟩ a).setCell ⟨lo, 1, none⟩ b) (lo) 1) ∧ ((w1.setCell ⟨lo, 0, none⟩ a).setCell ⟨lo, 1, none⟩ b).frozen? ⟨lo, 0, none⟩ = false ∧ ((w1.setCell ⟨lo, 0, none⟩ a).setCell ⟨lo, 1, none⟩ b).frozen? ⟨lo, 1, none⟩ = false ∧ (∃ x y, Blk ((w1.setCell ⟨lo, 0, none⟩ a).setCell ⟨lo, 1, none⟩ b) lo t #[x, y]) := by
  obtain ⟨x, y, k⟩ := h.2.2.2.2.2.2.2
  have k2 := (k.set_ 0 a).set_ 1 b
  simp only [List.setIfInBounds_toArray, List.set_cons_zero, List.set_cons_succ] at k2
  have far : ∀ {p : Addr} {u : Value}, p.block ≠ lo → w1.cell? p = some u → ((w1.setCell ⟨lo, 0, none⟩ a).setCell ⟨lo, 1, none⟩ b).cell? p = some u := fun {p u} hp hc =>
    (World.cell?_of_block ((Below.heap_setCell _ ⟨lo, 1, none⟩ b p.block hp).trans (Below.heap_setCell _ ⟨lo, 0, none⟩ a p.block hp))).trans hc
  exact stMk ((h.1.setCell (p := ⟨lo, 0, none⟩) (by simp) a).setCell (p := ⟨lo, 1, none⟩) (by simp) b) (far hp h.2.1) (far hq h.2.2.1) ⟨_, _, k2⟩
set_option maxHeartbeats 1000000 in
set_option maxRecDepth 20000 in
theorem S_RenamedRule (A : Option Addr) (n c : Nat) (xs : List Int) (B : Option Addr) (m d : Nat) (l : List Int) (C : Option Addr) (o f : Nat) (r : List Int) (w : World) (h : RI w A n xs) (h' : RI w B m l) (h'' : RI w C o r) (hn : n ≤ 1048576) (hs : m + o ≤ 1048576) :
    Calls Try.prog 51 #[.agg #[.slice A n c], .agg #[.slice B m d, .slice C o f]] w fun e w' => ∃ A1 c1 A2 c2, e = .returned (.agg #[.slice A1 (V_RenamedRule xs l r).1.length c1, .slice A2 (V_RenamedRule xs l r).2.length c2]) ∧
      OI w' w.heap.size A1 (V_RenamedRule xs l r).1.length c1 (V_RenamedRule xs l r).1 ∧ OI w' w.heap.size A2 (V_RenamedRule xs l r).2.length c2 (V_RenamedRule xs l r).2 ∧ (∀ b, blk A1 = some b → blk A2 ≠ some b) ∧ Below w.heap.size w w' := by
  have hl := h'.1
  have hl' := h''.1
  have hB0 : Below w.heap.size w (((w.alloc (.cells #[.slice A n c] 27)).alloc (.cells #[.slice B m d, .slice C o f] 69)).alloc (.cells #[.slice none 0 0, .slice none 0 0] 69)) := (((Below.refl _ _).alloc (Nat.le_refl _) _).alloc (by simp) _).alloc (by simp <;> omega) _
  have bk1 : Blk (((w.alloc (.cells #[.slice A n c] 27)).alloc (.cells #[.slice B m d, .slice C o f] 69)).alloc (.cells #[.slice none 0 0, .slice none 0 0] 69)) (w.heap.size + 1) 69 #[.slice B m d, .slice C o f] := by
    have := (Blk.new (w.alloc (.cells #[.slice A n c] 27)) 69 #[.slice B m d, .slice C o f]).alloc (.cells #[.slice none 0 0, .slice none 0 0] 69)
    simpa only [World.size_alloc] using this
  have bk2 : Blk (((w.alloc (.cells #[.slice A n c] 27)).alloc (.cells #[.slice B m d, .slice C o f] 69)).alloc (.cells #[.slice none 0 0, .slice none 0 0] 69)) (w.heap.size + 1 + 1) 69 #[.slice none 0 0, .slice none 0 0] := by
    have := Blk.new ((w.alloc (.cells #[.slice A n c] 27)).alloc (.cells #[.slice B m d, .slice C o f] 69)) 69 #[.slice none 0 0, .slice none 0 0]
    simpa only [World.size_alloc] using this
  cases hq : ruleOk xs l r
  · have HE := renRule_no hq
    rw [HE]
    have HQ := Lib.hid hq
    have HN0 : ∀ b, blk none = some b → blk none ≠ some b := fun b e => by simp [blk] at e
    clear HE hq
    go_enter Try.func51, Try.ntmps51
    go_wp2_with fail
    generalize ((w.alloc (.cells #[.slice A n c] 27)).alloc (.cells #[.slice B m d, .slice C o f] 69)).alloc (.cells #[.slice none 0 0, .slice none 0 0] 69) = W0 at *
    refine (S_RuleOk A n c xs B m d l C o f r _ (h.below hB0) (h'.below hB0) (h''.below hB0) hn hs).mono ?_
    rintro e w1 ⟨rfl, hb1⟩
    rw [HQ.out]
    replace bk2 := bk2.below hb1
    have hB := below_then hB0 hb1 hB0.size
    clear hb1 bk1
    have K0 : w1.cell? ⟨w.heap.size + 1 + 1, 0, none⟩ = some (.slice none 0 0) := by simpa using bk2.cell 0
    have K1 : w1.cell? ⟨w.heap.size + 1 + 1, 1, none⟩ = some (.slice none 0 0) := by simpa using bk2.cell 1
    have F0 : w1.frozen? ⟨w.heap.size + 1 + 1, 0, none⟩ = false := bk2.frozen 0
    have F1 : w1.frozen? ⟨w.heap.size + 1 + 1, 1, none⟩ = false := bk2.frozen 1
    have bk := (bk2.set_ 0 (.slice none 0 0)).set_ 1 (.slice none 0 0)
    simp only [List.setIfInBounds_toArray, List.set_cons_zero, List.set_cons_succ] at bk
    have E3 : Below w.heap.size w ((w1.setCell ⟨w.heap.size + 1 + 1, 0, none⟩ (.slice none 0 0)).setCell ⟨w.heap.size + 1 + 1, 1, none⟩ (.slice none 0 0)) :=
      (hB.setCell (p := ⟨w.heap.size + 1 + 1, 0, none⟩) (by simp <;> omega) _).setCell (p := ⟨w.heap.size + 1 + 1, 1, none⟩) (by simp <;> omega) _
    have hlt := bk2.lt
    go_wp2_with fail
    have K2 : ∀ i, ((w1.setCell ⟨w.heap.size + 1 + 1, 0, none⟩ (.slice none 0 0)).setCell ⟨w.heap.size + 1 + 1, 1, none⟩ (.slice none 0 0)).cell? ⟨w.heap.size + 1 + 1, i, none⟩ = #[.slice none 0 0, .slice none 0 0][i]? := fun i => bk.cell i
    generalize ((w1.setCell ⟨w.heap.size + 1 + 1, 0, none⟩ (.slice none 0 0)).setCell ⟨w.heap.size + 1 + 1, 1, none⟩ (.slice none 0 0)) = W2 at *
    exact bodyPost_ret (v := .agg #[.slice none 0 0, .slice none 0 0]) (by simp [results, Try.results51, go_sem, K2]) rfl ⟨none, 0, none, 0, rfl, World.ownsRow_nil _ _ _ _, World.ownsRow_nil _ _ _ _, HN0, E3⟩
  · have HE := renRule_yes hq
    rw [HE]
    have HQ := Lib.hid hq
    have hlens := ruleOk_lens hq
    have hm60 : m ≤ 60 := by omega
    have ho60 : o ≤ 60 := by omega
    have HV := Lib.hid (ruleOk_vars hq)
    have e1 : (rnT l).length = m := by rw [rnT_len, hl]
    have e2 : (rnR l r).length = o := by rw [rnR_len, hl']
    simp only [e1, e2]
    clear HE hq e1 e2 hlens
    go_enter Try.func51, Try.ntmps51
    go_wp2_with fail
    generalize ((w.alloc (.cells #[.slice A n c] 27)).alloc (.cells #[.slice B m d, .slice C o f] 69)).alloc (.cells #[.slice none 0 0, .slice none 0 0] 69) = W0 at *
    refine (S_RuleOk A n c xs B m d l C o f r _ (h.below hB0) (h'.below hB0) (h''.below hB0) hn hs).mono ?_
    rintro e w1 ⟨rfl, hb1⟩
    rw [HQ.out]
    replace bk1 := bk1.below hb1
    replace bk2 := bk2.below hb1
    have hB := below_then hB0 hb1 hB0.size
    clear hb1
    have K0 : w1.cell? ⟨w.heap.size + 1, 0, none⟩ = some (.slice B m d) := by simpa using bk1.cell 0
    have K1 : w1.cell? ⟨w.heap.size + 1, 1, none⟩ = some (.slice C o f) := by simpa using bk1.cell 1
    have hlt := bk2.lt
    go_wp2_with fail
    refine (l2Order_any B m d l _ (h'.below hB) (by omega)).mono ?_
    rintro e w2 ⟨D, cd, rfl, hD, hb2⟩
    replace bk1 := bk1.below hb2
    replace bk2 := bk2.below hb2
    have hB2 := below_then hB hb2 hB.size
    have hol := ord_len l []
    have hon : (ord [] l).length ≤ 1000 := by simp at hol; omega
    have hnd := Lib.hid (ord_nodup (t := l) (s := []) List.nodup_nil)
    have hall := Lib.hid (ord_map l)
    have HDR := Lib.hid hD
    clear hb2 K0 K1 hD hol
    have K0 : w2.cell? ⟨w.heap.size + 1, 0, none⟩ = some (.slice B m d) := by simpa using bk1.cell 0
    have K1 : w2.cell? ⟨w.heap.size + 1, 1, none⟩ = some (.slice C o f) := by simpa using bk1.cell 1
    have K2 : w2.cell? ⟨w.heap.size + 1 + 1, 0, none⟩ = some (.slice none 0 0) := by simpa using bk2.cell 0
    have K3 : w2.cell? ⟨w.heap.size + 1 + 1, 1, none⟩ = some (.slice none 0 0) := by simpa using bk2.cell 1
    have F0 : w2.frozen? ⟨w.heap.size + 1 + 1, 0, none⟩ = false := bk2.frozen 0
    have F1 : w2.frozen? ⟨w.heap.size + 1 + 1, 1, none⟩ = false := bk2.frozen 1
    go_wp2_with fail
    have HLO : w.heap.size ≤ w.heap.size + 1 + 1 := by omega
    have HHI : w.heap.size + 1 + 1 + 1 ≤ w1.heap.size := by omega
    have HBX := Lib.hid bk2
    have hp1 : w.heap.size ≠ w.heap.size + 1 + 1 := by omega
    go_region_held3 (fun w' => Only (w.heap.size + 1 + 1) (w.heap.size + 1 + 1 + 1) w2 w' ∧ w'.cell? ⟨w.heap.size + 1, 0, none⟩ = some (.slice B m d) ∧ w'.cell? ⟨w.heap.size + 1, 1, none⟩ = some (.slice C o f) ∧ w'.cell? ⟨w.heap.size + 1 + 1, 0, none⟩ = some (cellAt w' (w.heap.size + 1 + 1) 0) ∧ w'.cell? ⟨w.heap.size + 1 + 1, 1, none⟩ = some (cellAt w' (w.heap.size + 1 + 1) 1) ∧ w'.frozen? ⟨w.heap.size + 1 + 1, 0, none⟩ = false ∧ w'.frozen? ⟨w.heap.size + 1 + 1, 1, none⟩ = false ∧ (∃ x y, Blk w' (w.heap.size + 1 + 1) 69 #[x, y]))
      (first | exact stMk (Only.of (Below.refl _ _).drew) K0 K1 ⟨_, _, HBX.out⟩ | exact stCall ha1 (by assumption) | exact stCall ha2 (by assumption) | exact stSet (by simp) (by simp) (by assumption))
      ((first | (go_at_call 96; with_reducible (show Calls Try.prog 96 #[.slice D _ cd, .slice B m d] _ _); refine (l2By_any D _ cd _ B m d l _ ?_ ?_ hon (by omega) hnd.out hall.out).mono ?_; exact riD HDR.out HHI (by assumption); exact riO h' hB2 HLO (by assumption); rintro e wa ⟨L, d1, rfl, hL, ha1⟩) | (go_at_call 96; with_reducible (show Calls Try.prog 96 #[.slice D _ cd, .slice C o f] _ _); refine (l2By_any D _ cd _ C o f r _ ?_ ?_ hon (by omega) hnd.out HV.out).mono ?_; exact riD HDR.out HHI (by assumption); exact riO h'' hB2 HLO (by assumption); rintro e wb ⟨R, d2, rfl, hR, ha2⟩)))
    rename_i hS
    have hsz : w2.heap.size ≤ wa.heap.size := ha1.size
    have hbs : w.heap.size + 1 + 1 < w2.heap.size := bk2.lt
    have bkb := (bk2.drew.below ha1).below ha2
    have bk := (bkb.set_ 0 (.slice L m d1)).set_ 1 (.slice R o d2)
    simp only [List.setIfInBounds_toArray, List.set_cons_zero, List.set_cons_succ] at bk
    have E1 : OI ((wb.setCell ⟨w.heap.size + 1 + 1, 0, none⟩ (.slice L m d1)).setCell ⟨w.heap.size + 1 + 1, 1, none⟩ (.slice R o d2)) w.heap.size L m d1 (rnT l) :=
      OI.base (B := w2.heap.size) (((hL.below ha2).setBelow (p := ⟨w.heap.size + 1 + 1, 0, none⟩) hbs (.slice L m d1)).setBelow (p := ⟨w.heap.size + 1 + 1, 1, none⟩) hbs (.slice R o d2)) hB2.size
    have hbs2 : w.heap.size + 1 + 1 < wa.heap.size := by omega
    have E2 : OI ((wb.setCell ⟨w.heap.size + 1 + 1, 0, none⟩ (.slice L m d1)).setCell ⟨w.heap.size + 1 + 1, 1, none⟩ (.slice R o d2)) w.heap.size R o d2 (rnR l r) :=
      OI.base (B := wa.heap.size) ((hR.setBelow (p := ⟨w.heap.size + 1 + 1, 0, none⟩) hbs2 (.slice L m d1)).setBelow (p := ⟨w.heap.size + 1 + 1, 1, none⟩) hbs2 (.slice R o d2)) (by have := hB2.size; omega)
    have HNE : ∀ b, blk L = some b → blk R ≠ some b := fun b e e2 => by have := (hL.lt_ e).2; have := (hR.lt_ e2).1; omega
    have E3 : Below w.heap.size w ((wb.setCell ⟨w.heap.size + 1 + 1, 0, none⟩ (.slice L m d1)).setCell ⟨w.heap.size + 1 + 1, 1, none⟩ (.slice R o d2)) := hB2.trans (hS.1.below HLO hB2.size)
    clear hS hL hR ha1 ha2 bkb
    generalize ((wb.setCell ⟨w.heap.size + 1 + 1, 0, none⟩ (.slice L m d1)).setCell ⟨w.heap.size + 1 + 1, 1, none⟩ (.slice R o d2)) = W2 at *
    have K2 : ∀ i, W2.cell? ⟨w.heap.size + 1 + 1, i, none⟩ = #[.slice L m d1, .slice R o d2][i]? := fun i => bk.cell i
    go_wp2_with fail
    exact bodyPost_ret (v := .agg #[.slice L m d1, .slice R o d2]) (by simp [results, Try.results51, go_sem, K2]) rfl ⟨L, d1, R, d2, rfl, E1, E2, HNE, E3⟩
end Go.Proofs.Ytkonnbkldjgomaa
