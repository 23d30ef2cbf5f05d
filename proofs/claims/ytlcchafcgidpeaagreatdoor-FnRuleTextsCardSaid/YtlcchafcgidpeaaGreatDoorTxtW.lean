/- Contracts: TextRule, the program's. -/
import Derived.Test.YtlcchafcgidpeaaGreatDoorTxtU
import Derived.Test.YtlcchafcgidpeaaGreatDoorSigY
import Derived.Test.YtlcchafcgidpeaaGreatDoorRuleOk
import Derived.Test.YtlcchafcgidpeaaGreatDoorMat
import Derived.Deep.RegionHeld3
namespace Go.Proofs.YtlcchafcgidpeaaGreatDoor
open Go.RowKit
set_option linter.unusedVariables false
set_option linter.unusedSimpArgs false

def V_TextRule (xs : List Int) (s : ByteArray) : (List Int × List Int) × Bool := if 400 < s.size then (([], []), false) else match Pl.sides xs s.data.toList with
  | some (l, r) => if ruleOk xs l r = true then ((l, r), true) else (([], []), false)
  | none => (([], []), false)
theorem V_TextRule_long {xs : List Int} {s : ByteArray} (h : 400 < s.size) : V_TextRule xs s = (([], []), false) := by unfold V_TextRule; rw [if_pos h]
theorem V_TextRule_none {xs : List Int} {s : ByteArray} (h : Pl.sides xs s.data.toList = none) : V_TextRule xs s = (([], []), false) := by
  unfold V_TextRule
  rw [h]
  split <;> rfl
theorem V_TextRule_no {xs l r : List Int} {s : ByteArray} (h : Pl.sides xs s.data.toList = some (l, r)) (h2 : ruleOk xs l r = false) : V_TextRule xs s = (([], []), false) := by
  unfold V_TextRule
  rw [h]
  simp only [h2]
  split <;> rfl
theorem V_TextRule_yes {xs l r : List Int} {s : ByteArray} (h4 : ¬ 400 < s.size) (h : Pl.sides xs s.data.toList = some (l, r)) (h2 : ruleOk xs l r = true) : V_TextRule xs s = ((l, r), true) := by
  unfold V_TextRule
  rw [h, if_neg h4]
  simp only [h2]
  rfl
theorem bd_TextRule (xs : List Int) (s : ByteArray) : (V_TextRule xs s).1.1.length + (V_TextRule xs s).1.2.length ≤ 120 := by
  unfold V_TextRule
  split
  · simp
  · cases h : Pl.sides xs s.data.toList with
    | none => simp
    | some p =>
      obtain ⟨l, r⟩ := p
      simp only
      split
      · obtain ⟨h1, h2, _⟩ := Pl.sides_iff.1 h
        have := (Pl.termOk_iff.1 h1).2.1
        have := (Pl.termOk_iff.1 h2).2.1
        simp only
        omega
      · simp
theorem sides_cut0 {xs : List Int} {l a b : List UInt8} (h : Go.Lib.cut l [32, 45, 62, 32] = (a, b, false)) : Pl.sides xs l = none := by
  rw [← Pl.sides_same]
  unfold Pl.sidesI
  rw [h]
  rfl
theorem sides_cut1 {xs : List Int} {l a b : List UInt8} (h : Go.Lib.cut l [32, 45, 62, 32] = (a, b, true)) (h2 : Pl.readT xs a = none) : Pl.sides xs l = none := by
  rw [← Pl.sides_same]
  unfold Pl.sidesI
  simp only [h, h2]
  rfl
theorem sides_cut2 {xs : List Int} {l a b : List UInt8} (h : Go.Lib.cut l [32, 45, 62, 32] = (a, b, true)) (h2 : Pl.readT xs b = none) : Pl.sides xs l = none := by
  rw [← Pl.sides_same]
  unfold Pl.sidesI
  simp only [h, h2]
  cases Pl.readT xs a <;> rfl
theorem sides_cut3 {xs : List Int} {l a b : List UInt8} {x y : List Int} (h : Go.Lib.cut l [32, 45, 62, 32] = (a, b, true)) (h1 : Pl.readT xs a = some x) (h2 : Pl.readT xs b = some y) : Pl.sides xs l = some (x, y) := by
  rw [← Pl.sides_same]
  unfold Pl.sidesI
  simp only [h, h1, h2]
  rfl
theorem cut_len (l q : List UInt8) : (Go.Lib.cut l q).1.length ≤ l.length ∧ (Go.Lib.cut l q).2.1.length ≤ l.length := by
  unfold Go.Lib.cut
  split
  · simp only [List.length_take, List.length_drop]; omega
  · simp
theorem setPair {W : World} {g : Nat} {x y : Value} (bk : Blk W g 30 #[x, y]) (a b : Value) : Blk ((W.setCell ⟨g, 0, none⟩ a).setCell ⟨g, 1, none⟩ b) g 30 #[a, b] ∧ Only g (g + 1) W ((W.setCell ⟨g, 0, none⟩ a).setCell ⟨g, 1, none⟩ b) := by
  have bk2 := (bk.set_ 0 a).set_ 1 b
  simp only [List.setIfInBounds_toArray, List.set_cons_zero, List.set_cons_succ] at bk2
  exact ⟨bk2, ((Only.refl _ _ _).setCell (by simp) _).setCell (by simp) _⟩
theorem blk_none2 (B : Option Addr) : ∀ b, blk none = some b → blk B ≠ some b := fun b e => by simp [blk] at e
set_option maxHeartbeats 4000000 in
set_option maxRecDepth 20000 in
theorem parsePair_any (A : Option Addr) (n c : Nat) (xs : List Int) (s : ByteArray) (w : World) (h : RI w A n xs) (hn : n ≤ 1048576) (hs : s.size ≤ 400) (hM : ML w) :
    Calls Tryz.prog 48 #[.agg #[.slice A n c], .string s, .string ⟨#[32, 45, 62, 32]⟩] w fun e w' => ∃ A0 y0 c0 A1 y1 c1, e = .returned (.tuple #[.slice A0 y0.length c0, .slice A1 y1.length c1, .bool (Pl.sides xs s.data.toList).isSome]) ∧ OI w' w.heap.size A0 y0.length c0 y0 ∧ OI w' w.heap.size A1 y1.length c1 y1 ∧ (∀ b, blk A0 = some b → blk A1 ≠ some b) ∧ (∀ l r, Pl.sides xs s.data.toList = some (l, r) → y0 = l ∧ y1 = r) ∧ y0.length ≤ 400 ∧ y1.length ≤ 400 ∧ Below w.heap.size w w' := by
  have hB0 : Below w.heap.size w (w.alloc (.cells #[.slice A n c] 26)) := (Below.refl _ _).alloc (Nat.le_refl _) _
  have bx0 := Blk.new w 26 #[.slice A n c]
  have r0 := h.below hB0
  have hM0 := hM.below hB0
  go_enter Tryz.func48, Tryz.ntmps48
  go_wp2_with fail
  generalize w.alloc (.cells #[.slice A n c] 26) = W0 at *
  have hs0 := hB0.size
  obtain ⟨m, hm⟩ := hM0
  refine (Tryz.strings_Cut s ⟨#[32, 45, 62, 32]⟩ m W0 (by omega) hm).mono ?_
  clear hm
  rintro e w1 ⟨rfl, q, rfl⟩
  have hcl := cut_len s.data.toList [32, 45, 62, 32]
  rw [size_len] at hcl
  rw [show (⟨#[32, 45, 62, 32]⟩ : ByteArray).data.toList = [32, 45, 62, 32] from rfl]
  obtain ⟨⟨a, b, k⟩, hc⟩ : ∃ z, Go.Lib.cut s.data.toList [32, 45, 62, 32] = z := ⟨_, rfl⟩
  rw [hc] at hcl ⊢
  simp only at hcl
  have HC := Lib.hid hc
  clear hc
  have hb1 := below_drewN (Below.refl W0.heap.size W0) q
  have bx1 := bx0.below hb1
  have r1 := r0.below hb1
  have hB1 := hB0.trans (hb1.mono hs0)
  have hs1 := hb1.size
  generalize W0.drewN q = w1 at *
  clear hb1 bx0 r0 hB0
  cases k
  · have HE := Lib.hid (sides_cut0 (xs := xs) HC.out)
    clear HC
    go_wp2_with fail
    go_ret3
    rw [HE.out]
    exact ⟨none, [], 0, none, [], 0, rfl, World.ownsRow_nil _ _ _ _, World.ownsRow_nil _ _ _ _, blk_none2 _, (fun l r e => by cases e), Nat.zero_le _, Nat.zero_le _, hB1⟩
  · have KX1 : ∀ i, w1.cell? ⟨w.heap.size, i, none⟩ = #[Value.slice A n c][i]? := fun i => bx1.cell i
    go_wp2_with fail
    refine (parseTerm_any A n c xs ⟨a.toArray⟩ w1 r1 hn (by simp [ByteArray.size]; omega)).mono ?_
    rintro e w2 ⟨A0, y0, c0, rfl, hO0, hy0, hl0, hb2⟩
    rw [show (⟨a.toArray⟩ : ByteArray).data.toList = a from rfl] at hy0 ⊢
    have bx2 := bx1.below hb2
    have r2 := r1.below hb2
    have hB2 := hB1.trans (hb2.mono (by omega))
    have hs2 := hb2.size
    have HO0 := Lib.hid hO0
    have KX2 : ∀ i, w2.cell? ⟨w.heap.size, i, none⟩ = #[Value.slice A n c][i]? := fun i => bx2.cell i
    clear KX1 bx1 r1 hB1 hb2 hO0
    go_wp2_with fail
    refine (parseTerm_any A n c xs ⟨b.toArray⟩ w2 r2 hn (by simp [ByteArray.size]; omega)).mono ?_
    rintro e w3 ⟨A1, y1, c1, rfl, hO1, hy1, hl1, hb3⟩
    rw [show (⟨b.toArray⟩ : ByteArray).data.toList = b from rfl] at hy1 ⊢
    have hB3 := hB2.trans (hb3.mono (by omega))
    have HNE : ∀ b, blk A0 = some b → blk A1 ≠ some b := fun b e e2 => by have := (HO0.out.lt_ e).2; have := (hO1.lt_ e2).1; omega
    have HO := Lib.hid ((HO0.out.below hb3).base (B' := w.heap.size) (by omega))
    have HO1 := Lib.hid (hO1.base (B' := w.heap.size) (by omega))
    clear KX2 bx2 r2 hB2 hb3 hO1 HO0
    cases h0 : Pl.readT xs a with
    | none =>
      have HE := Lib.hid (sides_cut1 HC.out h0)
      clear HC h0 hy0 hy1
      go_wp2_with fail
      go_ret3
      rw [HE.out]
      exact ⟨A0, y0, c0, A1, y1, c1, rfl, HO.out, HO1.out, HNE, (fun l r e => by cases e), hl0, hl1, hB3⟩
    | some x =>
      obtain rfl := hy0 x h0
      cases h1 : Pl.readT xs b with
      | none =>
        have HE := Lib.hid (sides_cut2 HC.out h1)
        clear HC h0 h1 hy0 hy1
        go_wp2_with fail
        go_ret3
        rw [HE.out]
        exact ⟨A0, y0, c0, A1, y1, c1, rfl, HO.out, HO1.out, HNE, (fun l r e => by cases e), hl0, hl1, hB3⟩
      | some y =>
        obtain rfl := hy1 y h1
        have HE := Lib.hid (sides_cut3 HC.out h0 h1)
        clear HC h0 h1 hy0 hy1
        go_wp2_with fail
        go_ret3
        rw [HE.out]
        exact ⟨A0, y0, c0, A1, y1, c1, rfl, HO.out, HO1.out, HNE, (fun l r e => by simp only [Option.some.injEq, Prod.mk.injEq] at e; exact e), hl0, hl1, hB3⟩
set_option maxHeartbeats 4000000 in
set_option maxRecDepth 20000 in
theorem parseRule_any (A : Option Addr) (n c : Nat) (xs : List Int) (s : ByteArray) (w : World) (h : RI w A n xs) (hn : n ≤ 1048576) (hs : ¬ 400 < s.size) (hM : ML w) :
    Calls Tryz.prog 21 #[.agg #[.slice A n c], .string s] w fun e w' => ∃ A0 c0 A1 c1, e = .returned (.tuple #[.agg #[.slice A0 (V_TextRule xs s).1.1.length c0, .slice A1 (V_TextRule xs s).1.2.length c1], .bool (V_TextRule xs s).2]) ∧ OI w' (w.heap.size + 1 + 1) A0 (V_TextRule xs s).1.1.length c0 (V_TextRule xs s).1.1 ∧ OI w' (w.heap.size + 1 + 1) A1 (V_TextRule xs s).1.2.length c1 (V_TextRule xs s).1.2 ∧ (∀ b, blk A0 = some b → blk A1 ≠ some b) ∧ Below w.heap.size w w' := by
  have hB0 : Below w.heap.size w ((w.alloc (.cells #[.slice A n c] 26)).alloc (.cells #[.slice none 0 0, .slice none 0 0] 30)) := ((Below.refl _ _).alloc (Nat.le_refl _) _).alloc (by simp) _
  have bx0 := (Blk.new w 26 #[.slice A n c]).alloc (.cells #[.slice none 0 0, .slice none 0 0] 30)
  have bo : Blk ((w.alloc (.cells #[.slice A n c] 26)).alloc (.cells #[.slice none 0 0, .slice none 0 0] 30)) (w.heap.size + 1) 30 #[.slice none 0 0, .slice none 0 0] := by
    have := Blk.new (w.alloc (.cells #[.slice A n c] 26)) 30 #[.slice none 0 0, .slice none 0 0]
    simpa only [World.size_alloc] using this
  have hsz : ((w.alloc (.cells #[.slice A n c] 26)).alloc (.cells #[.slice none 0 0, .slice none 0 0] 30)).heap.size = w.heap.size + 1 + 1 := by simp
  have r0 := h.below hB0
  have hM0 := hM.below hB0
  have KX0 : ∀ i, ((w.alloc (.cells #[.slice A n c] 26)).alloc (.cells #[.slice none 0 0, .slice none 0 0] 30)).cell? ⟨w.heap.size, i, none⟩ = #[Value.slice A n c][i]? := fun i => bx0.cell i
  go_enter Tryz.func21, Tryz.ntmps21
  go_wp2_with fail
  generalize (w.alloc (.cells #[.slice A n c] 26)).alloc (.cells #[.slice none 0 0, .slice none 0 0] 30) = W0 at *
  have HS := Lib.hid hsz
  clear hsz
  refine (parsePair_any A n c xs s W0 r0 hn (by omega) hM0).mono ?_
  rintro e w1 ⟨A0, y0, c0, A1, y1, c1, rfl, hO, hO1, HNE, hy, hl0, hl1, hb1⟩
  have bx1 := bx0.below hb1
  have bo1 := bo.below hb1
  have r1 := r0.below hb1
  have hB1 := hB0.trans (hb1.mono (by have := HS.out; omega))
  have hs1 : w.heap.size + 1 + 1 ≤ w1.heap.size := by have := HS.out; have := hb1.size; omega
  have HO := Lib.hid (hO.base (B' := w.heap.size + 1 + 1) (by have := HS.out; omega))
  have HO1 := Lib.hid (hO1.base (B' := w.heap.size + 1 + 1) (by have := HS.out; omega))
  have KX1 : ∀ i, w1.cell? ⟨w.heap.size, i, none⟩ = #[Value.slice A n c][i]? := fun i => bx1.cell i
  have HNO := Lib.hid (fun hq => V_TextRule_none (xs := xs) (s := s) hq)
  clear KX0 bx0 r0 hB0 hb1 bo hO hO1 HS hM0
  cases hq : Pl.sides xs s.data.toList with
  | none =>
    have HE := Lib.hid (HNO.out hq)
    have bo := bo1
    clear HNO hq hy bo1
    have K0 : w1.cell? ⟨w.heap.size + 1, 0, none⟩ = some (.slice none 0 0) := by simpa using bo.cell 0
    have K1 : w1.cell? ⟨w.heap.size + 1, 1, none⟩ = some (.slice none 0 0) := by simpa using bo.cell 1
    have F0 : w1.frozen? ⟨w.heap.size + 1, 0, none⟩ = false := bo.frozen 0
    have F1 : w1.frozen? ⟨w.heap.size + 1, 1, none⟩ = false := bo.frozen 1
    obtain ⟨bk, ho⟩ := setPair bo (.slice none 0 0) (.slice none 0 0)
    go_wp2_with fail
    have K2 : ∀ i, ((w1.setCell ⟨w.heap.size + 1, 0, none⟩ (.slice none 0 0)).setCell ⟨w.heap.size + 1, 1, none⟩ (.slice none 0 0)).cell? ⟨w.heap.size + 1, i, none⟩ = #[(.slice none 0 0), (.slice none 0 0)][i]? := fun i => bk.cell i
    generalize ((w1.setCell ⟨w.heap.size + 1, 0, none⟩ (.slice none 0 0)).setCell ⟨w.heap.size + 1, 1, none⟩ (.slice none 0 0)) = WZ at *
    try rw [HE.out]
    exact bodyPost_ret (v := .tuple #[.agg #[(.slice none 0 0), (.slice none 0 0)], .bool false]) (by simp [results, Tryz.results21, go_sem, K2]) rfl ⟨none, 0, none, 0, rfl, World.ownsRow_nil _ _ _ _, World.ownsRow_nil _ _ _ _, blk_none2 _, hB1.trans (ho.below (by omega) (by omega))⟩
  | some p =>
    obtain ⟨l, r⟩ := p
    obtain ⟨rfl, rfl⟩ := hy l r hq
    have HN2 := Lib.hid (fun h2 => V_TextRule_no (s := s) hq h2)
    have HY2 := Lib.hid (fun h2 => V_TextRule_yes (s := s) hs hq h2)
    clear HNO hq hy
    go_wp2_with fail
    refine (I_RuleOk A n c xs A0 y0.length c0 y0 A1 y1.length c1 y1 w1 r1 HO.out.ri HO1.out.ri hn (by omega)).mono ?_
    rintro e w2 ⟨rfl, hb2⟩
    have bo := bo1.below hb2
    have hB2 := hB1.trans (hb2.mono (by omega))
    have hs2 := hb2.size
    have HP := Lib.hid (HO.out.below hb2)
    have HP1 := Lib.hid (HO1.out.below hb2)
    clear KX1 bx1 bo1 r1 hB1 HO HO1 hb2
    cases hok : ruleOk xs y0 y1
    · have HE := Lib.hid (HN2.out hok)
      clear HN2 HY2 hok
      have K0 : w2.cell? ⟨w.heap.size + 1, 0, none⟩ = some (.slice none 0 0) := by simpa using bo.cell 0
      have K1 : w2.cell? ⟨w.heap.size + 1, 1, none⟩ = some (.slice none 0 0) := by simpa using bo.cell 1
      have F0 : w2.frozen? ⟨w.heap.size + 1, 0, none⟩ = false := bo.frozen 0
      have F1 : w2.frozen? ⟨w.heap.size + 1, 1, none⟩ = false := bo.frozen 1
      obtain ⟨bk, ho⟩ := setPair bo (.slice none 0 0) (.slice none 0 0)
      go_wp2_with fail
      have K2 : ∀ i, ((w2.setCell ⟨w.heap.size + 1, 0, none⟩ (.slice none 0 0)).setCell ⟨w.heap.size + 1, 1, none⟩ (.slice none 0 0)).cell? ⟨w.heap.size + 1, i, none⟩ = #[(.slice none 0 0), (.slice none 0 0)][i]? := fun i => bk.cell i
      generalize ((w2.setCell ⟨w.heap.size + 1, 0, none⟩ (.slice none 0 0)).setCell ⟨w.heap.size + 1, 1, none⟩ (.slice none 0 0)) = WZ at *
      try rw [HE.out]
      exact bodyPost_ret (v := .tuple #[.agg #[(.slice none 0 0), (.slice none 0 0)], .bool false]) (by simp [results, Tryz.results21, go_sem, K2]) rfl ⟨none, 0, none, 0, rfl, World.ownsRow_nil _ _ _ _, World.ownsRow_nil _ _ _ _, blk_none2 _, hB2.trans (ho.below (by omega) (by omega))⟩
    · have HE := Lib.hid (HY2.out hok)
      clear HN2 HY2 hok
      have K0 : w2.cell? ⟨w.heap.size + 1, 0, none⟩ = some (.slice none 0 0) := by simpa using bo.cell 0
      have K1 : w2.cell? ⟨w.heap.size + 1, 1, none⟩ = some (.slice none 0 0) := by simpa using bo.cell 1
      have F0 : w2.frozen? ⟨w.heap.size + 1, 0, none⟩ = false := bo.frozen 0
      have F1 : w2.frozen? ⟨w.heap.size + 1, 1, none⟩ = false := bo.frozen 1
      obtain ⟨bk, ho⟩ := setPair bo (.slice A0 y0.length c0) (.slice A1 y1.length c1)
      go_wp2_with fail
      have K2 : ∀ i, ((w2.setCell ⟨w.heap.size + 1, 0, none⟩ (.slice A0 y0.length c0)).setCell ⟨w.heap.size + 1, 1, none⟩ (.slice A1 y1.length c1)).cell? ⟨w.heap.size + 1, i, none⟩ = #[(.slice A0 y0.length c0), (.slice A1 y1.length c1)][i]? := fun i => bk.cell i
      generalize ((w2.setCell ⟨w.heap.size + 1, 0, none⟩ (.slice A0 y0.length c0)).setCell ⟨w.heap.size + 1, 1, none⟩ (.slice A1 y1.length c1)) = WZ at *
      try rw [HE.out]
      exact bodyPost_ret (v := .tuple #[.agg #[(.slice A0 y0.length c0), (.slice A1 y1.length c1)], .bool true]) (by simp [results, Tryz.results21, go_sem, K2]) rfl ⟨A0, c0, A1, c1, rfl, HP.out.up ho (Nat.le_refl _), HP1.out.up ho (Nat.le_refl _), HNE, hB2.trans (ho.below (by omega) (by omega))⟩
set_option maxHeartbeats 4000000 in
set_option maxRecDepth 20000 in
theorem I_TextRule (A : Option Addr) (n c : Nat) (xs : List Int) (s : ByteArray) (w : World) (h : RI w A n xs) (hn : n ≤ 1048576) (_ : s.size ≤ 1048576) (hM : ML w) :
    Calls Tryz.prog 6 #[.agg #[.slice A n c], .string s] w fun e w' => ∃ A0 c0 A1 c1, e = .returned (.tuple #[.agg #[.slice A0 (V_TextRule xs s).1.1.length c0, .slice A1 (V_TextRule xs s).1.2.length c1], .bool (V_TextRule xs s).2]) ∧ OI w' w.heap.size A0 (V_TextRule xs s).1.1.length c0 (V_TextRule xs s).1.1 ∧ OI w' w.heap.size A1 (V_TextRule xs s).1.2.length c1 (V_TextRule xs s).1.2 ∧ (∀ b, blk A0 = some b → blk A1 ≠ some b) ∧ Below w.heap.size w w' := by
  have hB0 : Below w.heap.size w ((w.alloc (.cells #[.slice A n c] 26)).alloc (.cells #[.slice none 0 0, .slice none 0 0] 30)) := ((Below.refl _ _).alloc (Nat.le_refl _) _).alloc (by simp) _
  have bx0 := (Blk.new w 26 #[.slice A n c]).alloc (.cells #[.slice none 0 0, .slice none 0 0] 30)
  have bo : Blk ((w.alloc (.cells #[.slice A n c] 26)).alloc (.cells #[.slice none 0 0, .slice none 0 0] 30)) (w.heap.size + 1) 30 #[.slice none 0 0, .slice none 0 0] := by
    have := Blk.new (w.alloc (.cells #[.slice A n c] 26)) 30 #[.slice none 0 0, .slice none 0 0]
    simpa only [World.size_alloc] using this
  have hsz : ((w.alloc (.cells #[.slice A n c] 26)).alloc (.cells #[.slice none 0 0, .slice none 0 0] 30)).heap.size = w.heap.size + 1 + 1 := by simp
  have r0 := h.below hB0
  have hM0 := hM.below hB0
  have KX0 : ∀ i, ((w.alloc (.cells #[.slice A n c] 26)).alloc (.cells #[.slice none 0 0, .slice none 0 0] 30)).cell? ⟨w.heap.size, i, none⟩ = #[Value.slice A n c][i]? := fun i => bx0.cell i
  by_cases h4 : 400 < s.size
  · have HE := Lib.hid (V_TextRule_long (xs := xs) h4)
    go_enter Tryz.func6, Tryz.ntmps6
    go_wp2_with fail
    rw [HE.out]
    exact bodyPost_ret (v := .tuple #[.agg #[.slice none 0 0, .slice none 0 0], .bool false]) (by simp [results, Tryz.results6, go_sem]) rfl ⟨none, 0, none, 0, rfl, World.ownsRow_nil _ _ _ _, World.ownsRow_nil _ _ _ _, blk_none2 _, hB0⟩
  go_enter Tryz.func6, Tryz.ntmps6
  go_wp2_with fail
  generalize (w.alloc (.cells #[.slice A n c] 26)).alloc (.cells #[.slice none 0 0, .slice none 0 0] 30) = W0 at *
  have HS := Lib.hid hsz
  clear hsz
  refine (parseRule_any A n c xs s W0 r0 hn h4 hM0).mono ?_
  rintro e w1 ⟨A0, c0, A1, c1, rfl, hO, hO1, HNE, hb1⟩
  have bo1 := bo.below hb1
  have hB1 := hB0.trans (hb1.mono (by have := HS.out; omega))
  have hs1 : w.heap.size + 1 + 1 ≤ w1.heap.size := by have := HS.out; have := hb1.size; omega
  have HO := Lib.hid (hO.base (B' := w.heap.size + 1 + 1) (by have := HS.out; omega))
  have HO1 := Lib.hid (hO1.base (B' := w.heap.size + 1 + 1) (by have := HS.out; omega))
  clear KX0 bx0 r0 hB0 hb1 bo hO hO1 HS hM0
  have bo := bo1
  clear bo1
  obtain ⟨⟨⟨y0, y1⟩, bb⟩, hv⟩ : ∃ z, V_TextRule xs s = z := ⟨_, rfl⟩
  rw [hv] at HO HO1 ⊢
  have HE := Lib.hid hv
  clear hv
  dsimp only at HO HO1 ⊢
  have K0 : w1.cell? ⟨w.heap.size + 1, 0, none⟩ = some (.slice none 0 0) := by simpa using bo.cell 0
  have K1 : w1.cell? ⟨w.heap.size + 1, 1, none⟩ = some (.slice none 0 0) := by simpa using bo.cell 1
  have F0 : w1.frozen? ⟨w.heap.size + 1, 0, none⟩ = false := bo.frozen 0
  have F1 : w1.frozen? ⟨w.heap.size + 1, 1, none⟩ = false := bo.frozen 1
  obtain ⟨bk, ho⟩ := setPair bo (.slice A0 y0.length c0) (.slice A1 y1.length c1)
  go_wp2_with fail
  have K2 : ∀ i, ((w1.setCell ⟨w.heap.size + 1, 0, none⟩ (.slice A0 y0.length c0)).setCell ⟨w.heap.size + 1, 1, none⟩ (.slice A1 y1.length c1)).cell? ⟨w.heap.size + 1, i, none⟩ = #[(.slice A0 y0.length c0), (.slice A1 y1.length c1)][i]? := fun i => bk.cell i
  generalize ((w1.setCell ⟨w.heap.size + 1, 0, none⟩ (.slice A0 y0.length c0)).setCell ⟨w.heap.size + 1, 1, none⟩ (.slice A1 y1.length c1)) = WZ at *
  try rw [HE.out]
  exact bodyPost_ret (v := .tuple #[.agg #[(.slice A0 y0.length c0), (.slice A1 y1.length c1)], .bool bb]) (by simp [results, Tryz.results6, go_sem, K2]) rfl ⟨A0, c0, A1, c1, rfl, (by have k_ := HO.out.up ho (Nat.le_refl _); exact k_.base (by omega)), (by have k_ := HO1.out.up ho (Nat.le_refl _); exact k_.base (by omega)), HNE, hB1.trans (ho.below (by omega) (by omega))⟩
end Go.Proofs.YtlcchafcgidpeaaGreatDoor
/-! Contracts: TextRule, the reference's. -/

namespace Go.Proofs.YtlcchafcgidpeaaGreatDoor
open Go.RowKit
set_option linter.unusedVariables false
set_option linter.unusedSimpArgs false

theorem VT_false {xs y : List Int} {s : ByteArray} (h4 : ¬ 400 < s.size) (h : V_TextTerm xs s = (y, false)) : Pl.readT xs s.data.toList = none := by
  cases hq : Pl.readT xs s.data.toList with
  | none => rfl
  | some t => rw [V_TextTerm_some h4 hq] at h; cases h
theorem VT_true {xs y : List Int} {s : ByteArray} (h4 : ¬ 400 < s.size) (h : V_TextTerm xs s = (y, true)) : Pl.readT xs s.data.toList = some y := by
  cases hq : Pl.readT xs s.data.toList with
  | none => rw [V_TextTerm_none hq] at h; cases h
  | some t => rw [V_TextTerm_some h4 hq] at h; cases h; rfl
theorem sides_w0 {xs : List Int} {l : List UInt8} (h : (Pl.words 32 l).length ≠ 3) : Pl.sides xs l = none := by
  unfold Pl.sides
  split
  · rename_i hw; rw [hw] at h; simp at h
  · rfl
theorem sides_w1 {xs : List Int} {l a m b : List UInt8} (h : Pl.words 32 l = [a, m, b]) (h2 : m ≠ [45, 62]) : Pl.sides xs l = none := by
  unfold Pl.sides
  rw [h]
  exact if_neg h2
theorem sides_w2 {xs : List Int} {l a m b : List UInt8} (h : Pl.words 32 l = [a, m, b]) (h2 : Pl.readT xs a = none) : Pl.sides xs l = none := by
  unfold Pl.sides
  rw [h]
  simp only [h2]
  split <;> rfl
theorem sides_w3 {xs : List Int} {l a m b : List UInt8} (h : Pl.words 32 l = [a, m, b]) (h2 : Pl.readT xs b = none) : Pl.sides xs l = none := by
  unfold Pl.sides
  rw [h]
  simp only [h2]
  split
  · cases Pl.readT xs a <;> rfl
  · rfl
theorem sides_w4 {xs : List Int} {l a m b : List UInt8} {x y : List Int} (h : Pl.words 32 l = [a, m, b]) (hm : m = [45, 62]) (h1 : Pl.readT xs a = some x) (h2 : Pl.readT xs b = some y) : Pl.sides xs l = some (x, y) := by
  unfold Pl.sides
  rw [h]
  simp only [h1, h2, hm]
  rfl
theorem three_of {W : List (List UInt8)} (h : W.length = 3) : ∃ a m b, W = [a, m, b] := by
  match W, h with
  | [a, m, b], _ => exact ⟨a, m, b, rfl⟩
set_option maxHeartbeats 8000000 in
set_option maxRecDepth 20000 in
theorem S_TextRule (A : Option Addr) (n c : Nat) (xs : List Int) (s : ByteArray) (w : World) (h : RI w A n xs) (hn : n ≤ 1048576) (_ : s.size ≤ 1048576) :
    Calls Tryz.prog 7 #[.agg #[.slice A n c], .string s] w fun e w' => ∃ A0 c0 A1 c1, e = .returned (.tuple #[.agg #[.slice A0 (V_TextRule xs s).1.1.length c0, .slice A1 (V_TextRule xs s).1.2.length c1], .bool (V_TextRule xs s).2]) ∧ OI w' w.heap.size A0 (V_TextRule xs s).1.1.length c0 (V_TextRule xs s).1.1 ∧ OI w' w.heap.size A1 (V_TextRule xs s).1.2.length c1 (V_TextRule xs s).1.2 ∧ (∀ b, blk A0 = some b → blk A1 ≠ some b) ∧ Below w.heap.size w w' := by
  have hB0 : Below w.heap.size w ((w.alloc (.cells #[.slice A n c] 26)).alloc (.cells #[.slice none 0 0, .slice none 0 0] 30)) := ((Below.refl _ _).alloc (Nat.le_refl _) _).alloc (by simp) _
  by_cases h4 : 400 < s.size
  · have HE := Lib.hid (V_TextRule_long (xs := xs) h4)
    go_enter Tryz.func7, Tryz.ntmps7
    go_wp2_with fail
    rw [HE.out]
    exact bodyPost_ret (v := .tuple #[.agg #[.slice none 0 0, .slice none 0 0], .bool false]) (by simp [results, Tryz.results7, go_sem]) rfl ⟨none, 0, none, 0, rfl, World.ownsRow_nil _ _ _ _, World.ownsRow_nil _ _ _ _, blk_none2 _, hB0⟩
  have bx0 := (Blk.new w 26 #[.slice A n c]).alloc (.cells #[.slice none 0 0, .slice none 0 0] 30)
  have bo : Blk ((w.alloc (.cells #[.slice A n c] 26)).alloc (.cells #[.slice none 0 0, .slice none 0 0] 30)) (w.heap.size + 1) 30 #[.slice none 0 0, .slice none 0 0] := by
    have := Blk.new (w.alloc (.cells #[.slice A n c] 26)) 30 #[.slice none 0 0, .slice none 0 0]
    simpa only [World.size_alloc] using this
  have hsz : ((w.alloc (.cells #[.slice A n c] 26)).alloc (.cells #[.slice none 0 0, .slice none 0 0] 30)).heap.size = w.heap.size + 1 + 1 := by simp
  have r0 := h.below hB0
  go_enter Tryz.func7, Tryz.ntmps7
  go_wp2_with fail
  generalize (w.alloc (.cells #[.slice A n c] 26)).alloc (.cells #[.slice none 0 0, .slice none 0 0] 30) = W0 at *
  have HS := Lib.hid hsz
  clear hsz
  refine (l1Split_any s 32 W0 (by omega)).mono ?_
  rintro e w1 ⟨Aw, cw, rfl, hW, hb1⟩
  have bx1 := bx0.below hb1
  have bo1 := bo.below hb1
  have r1 := r0.below hb1
  have hB1 := hB0.trans (hb1.mono (by have := HS.out; omega))
  have hs1 : w.heap.size + 1 + 1 ≤ w1.heap.size := by have := HS.out; have := hb1.size; omega
  have hWI := hW.wi
  have HNO := Lib.hid (fun hq => V_TextRule_none (xs := xs) (s := s) hq)
  have hwe := fun a ha => Pl.words_each 32 s.data.toList a ha
  have hwl := Pl.words_len 32 s.data.toList
  rw [size_len] at hwe hwl
  clear bx0 bo r0 hB0 hb1 hW HS
  by_cases h3 : (Pl.words 32 s.data.toList).length = 3
  rotate_left
  · have HE := Lib.hid (HNO.out (sides_w0 h3))
    have bo := bo1
    have hneq : (((Pl.words 32 s.data.toList).length : Int) != 3) = true := bne_iff_ne.2 (by omega)
    clear HNO bo1
    generalize Pl.words 32 s.data.toList = W at *
    have K0 : w1.cell? ⟨w.heap.size + 1, 0, none⟩ = some (.slice none 0 0) := by simpa using bo.cell 0
    have K1 : w1.cell? ⟨w.heap.size + 1, 1, none⟩ = some (.slice none 0 0) := by simpa using bo.cell 1
    have F0 : w1.frozen? ⟨w.heap.size + 1, 0, none⟩ = false := bo.frozen 0
    have F1 : w1.frozen? ⟨w.heap.size + 1, 1, none⟩ = false := bo.frozen 1
    obtain ⟨bk, ho⟩ := setPair bo (.slice none 0 0) (.slice none 0 0)
    go_wp2_with fail
    have K2 : ∀ i, ((w1.setCell ⟨w.heap.size + 1, 0, none⟩ (.slice none 0 0)).setCell ⟨w.heap.size + 1, 1, none⟩ (.slice none 0 0)).cell? ⟨w.heap.size + 1, i, none⟩ = #[(.slice none 0 0), (.slice none 0 0)][i]? := fun i => bk.cell i
    generalize ((w1.setCell ⟨w.heap.size + 1, 0, none⟩ (.slice none 0 0)).setCell ⟨w.heap.size + 1, 1, none⟩ (.slice none 0 0)) = WZ at *
    try rw [HE.out]
    exact bodyPost_ret (v := .tuple #[.agg #[(.slice none 0 0), (.slice none 0 0)], .bool false]) (by simp [results, Tryz.results7, go_sem, K2]) rfl ⟨none, 0, none, 0, rfl, World.ownsRow_nil _ _ _ _, World.ownsRow_nil _ _ _ _, blk_none2 _, hB1.trans (ho.below (by omega) (by omega))⟩
  obtain ⟨a, m, b, hW3⟩ := three_of h3
  have HW3 := Lib.hid hW3
  rw [hW3] at hWI hwe ⊢
  have ha4 : a.length ≤ 400 := by have := hwe a (by simp); omega
  have hb4 : b.length ≤ 400 := by have := hwe b (by simp); omega
  clear hW3 h3 hwe hwl
  rw [show [a, m, b].length = 3 from rfl] at hWI ⊢
  obtain ⟨g, off, x0, rfl, hk0, hx0⟩ := hWI.at_ (k := 0) (by omega)
  obtain ⟨g', off', x1, he1, hk1, hx1⟩ := hWI.at_ (k := 1) (by omega)
  obtain ⟨rfl, rfl⟩ : g = g' ∧ off = off' := by simp only [Option.some.injEq, Addr.mk.injEq] at he1; exact ⟨he1.1, he1.2.1⟩
  obtain ⟨g', off', x2, he2, hk2, hx2⟩ := hWI.at_ (k := 2) (by omega)
  obtain ⟨rfl, rfl⟩ : g = g' ∧ off = off' := by simp only [Option.some.injEq, Addr.mk.injEq] at he2; exact ⟨he2.1, he2.2.1⟩
  obtain rfl : x0 = a := hx0.out
  obtain rfl : x1 = m := hx1.out
  obtain rfl : x2 = b := hx2.out
  clear he1 he2 hx0 hx1 hx2
  have KX1 : ∀ i, w1.cell? ⟨w.heap.size, i, none⟩ = #[Value.slice A n c][i]? := fun i => bx1.cell i
  by_cases hm : x1 = [45, 62]
  rotate_left
  · have hz2 : (!x1 == [45, 62]) = true := by rw [beq_false_of_ne hm]; rfl
    have HE := Lib.hid (HNO.out (sides_w1 HW3.out hm))
    have bo := bo1
    clear HNO bo1 hm HW3
    have K0 : w1.cell? ⟨w.heap.size + 1, 0, none⟩ = some (.slice none 0 0) := by simpa using bo.cell 0
    have K1 : w1.cell? ⟨w.heap.size + 1, 1, none⟩ = some (.slice none 0 0) := by simpa using bo.cell 1
    have F0 : w1.frozen? ⟨w.heap.size + 1, 0, none⟩ = false := bo.frozen 0
    have F1 : w1.frozen? ⟨w.heap.size + 1, 1, none⟩ = false := bo.frozen 1
    obtain ⟨bk, ho⟩ := setPair bo (.slice none 0 0) (.slice none 0 0)
    go_wp2_with fail
    have K2 : ∀ i, ((w1.setCell ⟨w.heap.size + 1, 0, none⟩ (.slice none 0 0)).setCell ⟨w.heap.size + 1, 1, none⟩ (.slice none 0 0)).cell? ⟨w.heap.size + 1, i, none⟩ = #[(.slice none 0 0), (.slice none 0 0)][i]? := fun i => bk.cell i
    generalize ((w1.setCell ⟨w.heap.size + 1, 0, none⟩ (.slice none 0 0)).setCell ⟨w.heap.size + 1, 1, none⟩ (.slice none 0 0)) = WZ at *
    try rw [HE.out]
    exact bodyPost_ret (v := .tuple #[.agg #[(.slice none 0 0), (.slice none 0 0)], .bool false]) (by simp [results, Tryz.results7, go_sem, K2]) rfl ⟨none, 0, none, 0, rfl, World.ownsRow_nil _ _ _ _, World.ownsRow_nil _ _ _ _, blk_none2 _, hB1.trans (ho.below (by omega) (by omega))⟩
  have HM := Lib.hid hm
  have hz2 : (!x1 == [45, 62]) = false := by rw [hm]; rfl
  clear hm
  have KS : w1.cell? ⟨w.heap.size, 0, none⟩ = some (.slice A n c) := by simpa using bx1.cell 0
  rw [Nat.add_zero] at hk0
  go_wp2_with fail
  clear hWI hk1 hz2
  go_region_held3 (fun w' => Below w1.heap.size w1 w' ∧ w'.cell? ⟨w.heap.size, 0, none⟩ = some (.slice A n c) ∧ w'.cell? ⟨g, off, none⟩ = some (.string ⟨x0.toArray⟩))
    (first | exact ⟨(Below.refl _ _).drew, KS, hk0⟩ | exact keepS2 ha1 (by assumption))
    ((go_at_call 23; refine (S_TextTerm A n c xs ⟨x0.toArray⟩ _ ?_ hn (by simp [ByteArray.size]; omega)).mono ?_; exact riS r1 (by assumption); rintro e wa ⟨A0, c0, rfl, hO0, ha1⟩))
  rename_i hS
  have hb2 := hS.1
  have KS2 := hS.2.1
  have hk22 := keepC hb2 hk2
  have r2 := r1.below hb2
  have bo2 := bo1.below hb2
  have hB2 := hB1.trans (hb2.mono (by omega))
  have hs2 := hb2.size
  obtain ⟨⟨y0, b0⟩, hv0⟩ : ∃ z, V_TextTerm xs ⟨x0.toArray⟩ = z := ⟨_, rfl⟩
  have hy0 := bd_TextTerm xs ⟨x0.toArray⟩
  rw [hv0] at hO0 hy0 ⊢
  dsimp only at hO0 hy0 ⊢
  have HV0 := Lib.hid hv0
  have HO0 := Lib.hid (OI.base (B' := w1.heap.size) hO0 (Nat.le_refl _))
  clear hS ha1 hO0 hv0 r1 bo1 bx1 hB1 hb2 KS hk0 hk2 KX1
  go_wp2_with fail
  go_region_held3 (fun w' => Below wa.heap.size wa w' ∧ w'.cell? ⟨w.heap.size, 0, none⟩ = some (.slice A n c) ∧ w'.cell? ⟨g, off + 2, none⟩ = some (.string ⟨x2.toArray⟩))
    (first | exact ⟨(Below.refl _ _).drew, KS2, hk22⟩ | exact keepS2 ha1 (by assumption))
    ((go_at_call 23; refine (S_TextTerm A n c xs ⟨x2.toArray⟩ _ ?_ hn (by simp [ByteArray.size]; omega)).mono ?_; exact riS r2 (by assumption); rintro e wb ⟨A1, c1, rfl, hO1, ha1⟩))
  rename_i hS
  have hb3 := hS.1
  have KS3 := hS.2.1
  have r3 := r2.below hb3
  have bo3 := bo2.below hb3
  have hB3 := hB2.trans (hb3.mono (by omega))
  have hs3 := hb3.size
  obtain ⟨⟨y1, b1⟩, hv1⟩ : ∃ z, V_TextTerm xs ⟨x2.toArray⟩ = z := ⟨_, rfl⟩
  have hy1 := bd_TextTerm xs ⟨x2.toArray⟩
  rw [hv1] at hO1 hy1 ⊢
  dsimp only at hO1 hy1 ⊢
  have HV1 := Lib.hid hv1
  have hO1 := OI.base (B' := wa.heap.size) hO1 (Nat.le_refl _)
  have HNE : ∀ b, blk A0 = some b → blk A1 ≠ some b := fun b e e2 => by have := (HO0.out.lt_ e).2; have := (hO1.lt_ e2).1; omega
  have HP0 := Lib.hid ((HO0.out.below hb3).base (B' := w.heap.size + 1 + 1) (by omega))
  have HP1 := Lib.hid (hO1.base (B' := w.heap.size + 1 + 1) (by omega))
  clear hS ha1 hO1 hv1 r2 bo2 hB2 hb3 KS2 hk22 HO0
  have r4 := r3.alloc (.cells #[.slice A0 y0.length c0, .slice A1 y1.length c1] 30)
  have bo := bo3.alloc (.cells #[.slice A0 y0.length c0, .slice A1 y1.length c1] 30)
  have hB4 := hB3.alloc hB3.size (.cells #[.slice A0 y0.length c0, .slice A1 y1.length c1] 30)
  have hal : Below wb.heap.size wb (wb.alloc (.cells #[.slice A0 y0.length c0, .slice A1 y1.length c1] 30)) := (Below.refl _ _).alloc (Nat.le_refl _) _
  have KS4 := keepC hal KS3
  have hs4 := hal.size
  clear r3 bo3 hB3
  cases b0
  · have HE := Lib.hid (HNO.out (sides_w2 HW3.out (VT_false (by simp [ByteArray.size]; omega) HV0.out)))
    clear HNO HV0 HV1 HW3 HM
    have K0 : (wb.alloc (.cells #[.slice A0 y0.length c0, .slice A1 y1.length c1] 30)).cell? ⟨w.heap.size + 1, 0, none⟩ = some (.slice none 0 0) := by simpa using bo.cell 0
    have K1 : (wb.alloc (.cells #[.slice A0 y0.length c0, .slice A1 y1.length c1] 30)).cell? ⟨w.heap.size + 1, 1, none⟩ = some (.slice none 0 0) := by simpa using bo.cell 1
    have F0 : (wb.alloc (.cells #[.slice A0 y0.length c0, .slice A1 y1.length c1] 30)).frozen? ⟨w.heap.size + 1, 0, none⟩ = false := bo.frozen 0
    have F1 : (wb.alloc (.cells #[.slice A0 y0.length c0, .slice A1 y1.length c1] 30)).frozen? ⟨w.heap.size + 1, 1, none⟩ = false := bo.frozen 1
    obtain ⟨bk, ho⟩ := setPair bo (.slice none 0 0) (.slice none 0 0)
    go_wp2_with fail
    have K2 : ∀ i, (((wb.alloc (.cells #[.slice A0 y0.length c0, .slice A1 y1.length c1] 30)).setCell ⟨w.heap.size + 1, 0, none⟩ (.slice none 0 0)).setCell ⟨w.heap.size + 1, 1, none⟩ (.slice none 0 0)).cell? ⟨w.heap.size + 1, i, none⟩ = #[(.slice none 0 0), (.slice none 0 0)][i]? := fun i => bk.cell i
    generalize (((wb.alloc (.cells #[.slice A0 y0.length c0, .slice A1 y1.length c1] 30)).setCell ⟨w.heap.size + 1, 0, none⟩ (.slice none 0 0)).setCell ⟨w.heap.size + 1, 1, none⟩ (.slice none 0 0)) = WZ at *
    try rw [HE.out]
    exact bodyPost_ret (v := .tuple #[.agg #[(.slice none 0 0), (.slice none 0 0)], .bool false]) (by simp [results, Tryz.results7, go_sem, K2]) rfl ⟨none, 0, none, 0, rfl, World.ownsRow_nil _ _ _ _, World.ownsRow_nil _ _ _ _, blk_none2 _, hB4.trans (ho.below (by omega) (by omega))⟩
  cases b1
  · have HE := Lib.hid (HNO.out (sides_w3 HW3.out (VT_false (by simp [ByteArray.size]; omega) HV1.out)))
    clear HNO HV0 HV1 HW3 HM
    have K0 : (wb.alloc (.cells #[.slice A0 y0.length c0, .slice A1 y1.length c1] 30)).cell? ⟨w.heap.size + 1, 0, none⟩ = some (.slice none 0 0) := by simpa using bo.cell 0
    have K1 : (wb.alloc (.cells #[.slice A0 y0.length c0, .slice A1 y1.length c1] 30)).cell? ⟨w.heap.size + 1, 1, none⟩ = some (.slice none 0 0) := by simpa using bo.cell 1
    have F0 : (wb.alloc (.cells #[.slice A0 y0.length c0, .slice A1 y1.length c1] 30)).frozen? ⟨w.heap.size + 1, 0, none⟩ = false := bo.frozen 0
    have F1 : (wb.alloc (.cells #[.slice A0 y0.length c0, .slice A1 y1.length c1] 30)).frozen? ⟨w.heap.size + 1, 1, none⟩ = false := bo.frozen 1
    obtain ⟨bk, ho⟩ := setPair bo (.slice none 0 0) (.slice none 0 0)
    go_wp2_with fail
    have K2 : ∀ i, (((wb.alloc (.cells #[.slice A0 y0.length c0, .slice A1 y1.length c1] 30)).setCell ⟨w.heap.size + 1, 0, none⟩ (.slice none 0 0)).setCell ⟨w.heap.size + 1, 1, none⟩ (.slice none 0 0)).cell? ⟨w.heap.size + 1, i, none⟩ = #[(.slice none 0 0), (.slice none 0 0)][i]? := fun i => bk.cell i
    generalize (((wb.alloc (.cells #[.slice A0 y0.length c0, .slice A1 y1.length c1] 30)).setCell ⟨w.heap.size + 1, 0, none⟩ (.slice none 0 0)).setCell ⟨w.heap.size + 1, 1, none⟩ (.slice none 0 0)) = WZ at *
    try rw [HE.out]
    exact bodyPost_ret (v := .tuple #[.agg #[(.slice none 0 0), (.slice none 0 0)], .bool false]) (by simp [results, Tryz.results7, go_sem, K2]) rfl ⟨none, 0, none, 0, rfl, World.ownsRow_nil _ _ _ _, World.ownsRow_nil _ _ _ _, blk_none2 _, hB4.trans (ho.below (by omega) (by omega))⟩
  have HSD := Lib.hid (sides_w4 HW3.out HM.out (VT_true (by simp [ByteArray.size]; omega) HV0.out) (VT_true (by simp [ByteArray.size]; omega) HV1.out))
  have HN2 := Lib.hid (fun h2 => V_TextRule_no (s := s) HSD.out h2)
  have HY2 := Lib.hid (fun h2 => V_TextRule_yes (s := s) h4 HSD.out h2)
  clear HNO HV0 HV1 HW3 HM HSD
  go_wp2_with fail
  refine (S_RuleOk A n c xs A0 y0.length c0 y0 A1 y1.length c1 y1 (wb.alloc (.cells #[.slice A0 y0.length c0, .slice A1 y1.length c1] 30)) r4 (HP0.out.ri.below hal) (HP1.out.ri.below hal) hn (by omega)).mono ?_
  rintro e w5 ⟨rfl, hb5⟩
  replace bo := bo.below hb5
  have hB5 := hB4.trans (hb5.mono (by omega))
  have hs5 := hb5.size
  have HQ0 := Lib.hid ((HP0.out.below hal).below hb5)
  have HQ1 := Lib.hid ((HP1.out.below hal).below hb5)
  have bt := (Blk.new wb 30 #[.slice A0 y0.length c0, .slice A1 y1.length c1]).below hb5
  have KT0 : w5.cell? ⟨wb.heap.size, 0, none⟩ = some (.slice A0 y0.length c0) := by simpa using bt.cell 0
  have KT1 : w5.cell? ⟨wb.heap.size, 1, none⟩ = some (.slice A1 y1.length c1) := by simpa using bt.cell 1
  clear r4 hB4 hal KS4 HP0 HP1 hb5 bt
  cases hok : ruleOk xs y0 y1
  · have HE := Lib.hid (HN2.out hok)
    clear HN2 HY2 hok
    have K0 : w5.cell? ⟨w.heap.size + 1, 0, none⟩ = some (.slice none 0 0) := by simpa using bo.cell 0
    have K1 : w5.cell? ⟨w.heap.size + 1, 1, none⟩ = some (.slice none 0 0) := by simpa using bo.cell 1
    have F0 : w5.frozen? ⟨w.heap.size + 1, 0, none⟩ = false := bo.frozen 0
    have F1 : w5.frozen? ⟨w.heap.size + 1, 1, none⟩ = false := bo.frozen 1
    obtain ⟨bk, ho⟩ := setPair bo (.slice none 0 0) (.slice none 0 0)
    go_wp2_with fail
    have K2 : ∀ i, ((w5.setCell ⟨w.heap.size + 1, 0, none⟩ (.slice none 0 0)).setCell ⟨w.heap.size + 1, 1, none⟩ (.slice none 0 0)).cell? ⟨w.heap.size + 1, i, none⟩ = #[(.slice none 0 0), (.slice none 0 0)][i]? := fun i => bk.cell i
    generalize ((w5.setCell ⟨w.heap.size + 1, 0, none⟩ (.slice none 0 0)).setCell ⟨w.heap.size + 1, 1, none⟩ (.slice none 0 0)) = WZ at *
    try rw [HE.out]
    exact bodyPost_ret (v := .tuple #[.agg #[(.slice none 0 0), (.slice none 0 0)], .bool false]) (by simp [results, Tryz.results7, go_sem, K2]) rfl ⟨none, 0, none, 0, rfl, World.ownsRow_nil _ _ _ _, World.ownsRow_nil _ _ _ _, blk_none2 _, hB5.trans (ho.below (by omega) (by omega))⟩
  · have HE := Lib.hid (HY2.out hok)
    clear HN2 HY2 hok
    have K0 : w5.cell? ⟨w.heap.size + 1, 0, none⟩ = some (.slice none 0 0) := by simpa using bo.cell 0
    have K1 : w5.cell? ⟨w.heap.size + 1, 1, none⟩ = some (.slice none 0 0) := by simpa using bo.cell 1
    have F0 : w5.frozen? ⟨w.heap.size + 1, 0, none⟩ = false := bo.frozen 0
    have F1 : w5.frozen? ⟨w.heap.size + 1, 1, none⟩ = false := bo.frozen 1
    obtain ⟨bk, ho⟩ := setPair bo (.slice A0 y0.length c0) (.slice A1 y1.length c1)
    go_wp2_with fail
    have K2 : ∀ i, ((w5.setCell ⟨w.heap.size + 1, 0, none⟩ (.slice A0 y0.length c0)).setCell ⟨w.heap.size + 1, 1, none⟩ (.slice A1 y1.length c1)).cell? ⟨w.heap.size + 1, i, none⟩ = #[(.slice A0 y0.length c0), (.slice A1 y1.length c1)][i]? := fun i => bk.cell i
    generalize ((w5.setCell ⟨w.heap.size + 1, 0, none⟩ (.slice A0 y0.length c0)).setCell ⟨w.heap.size + 1, 1, none⟩ (.slice A1 y1.length c1)) = WZ at *
    try rw [HE.out]
    exact bodyPost_ret (v := .tuple #[.agg #[(.slice A0 y0.length c0), (.slice A1 y1.length c1)], .bool true]) (by simp [results, Tryz.results7, go_sem, K2]) rfl ⟨A0, c0, A1, c1, rfl, (by have k_ := HQ0.out.up ho (Nat.le_refl _); exact k_.base (by omega)), (by have k_ := HQ1.out.up ho (Nat.le_refl _); exact k_.base (by omega)), HNE, hB5.trans (ho.below (by omega) (by omega))⟩
end Go.Proofs.YtlcchafcgidpeaaGreatDoor
