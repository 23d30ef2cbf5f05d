/- Contracts: drawn systems, bent sometimes. -/
import Derived.Test.YtaeilbpgpchciaaDrawS
import Derived.Deep.LoopGhost
namespace Go.Proofs.Ytaeilbpgpchciaa
open Go.RowKit
set_option linter.unusedVariables false
set_option linter.unusedSimpArgs false

theorem RB.grow {w w2 : World} {o : Obj} {B : Nat} {S : Option Addr} {m : Nat} {xs : List Int} {U : Option Addr} {k d : Nat} (h : RB w B S m xs) (hne : 0 < m → ∀ a, S = some a → Go.Proofs.Ytaeilbpgpchciaa.blk U ≠ some a.block) (hg : (w.alloc o).grownBy w2 (Value.slice U k d).ownBlock) : RB w2 B S m xs := by
  rcases Nat.eq_zero_or_pos m with h0 | h0
  · subst h0; exact ⟨⟨h.1.1, fun h => absurd h (by omega)⟩, fun h => absurd h (by omega)⟩
  · refine h.same fun a ha => ?_
    have hlt := h.lt h0 a ha
    rw [hg.block a.block (by simp; omega) (fun e => hne h0 a ha (by rw [← blk_own U k d]; exact e.symm))]
    exact Below.heap_alloc w o a.block hlt
theorem DS.lit2 {w : World} {B g : Nat} {U : Option Addr} {xs : List Int} (h : Blk w g 2 (xs.map (Value.int .i64)).toArray) (hB : B ≤ g) (hl : xs.length ≤ 60) (hne : blk U ≠ some g) : DS w B U (some (.slice (some ⟨g, 0, none⟩) xs.length xs.length)) xs :=
  ⟨_, _, _, rfl, RB.blk h hB, hl, by omega, fun _ a ha => by injection ha with ha; subst ha; exact hne⟩
set_option maxHeartbeats 8000000 in
set_option maxRecDepth 20000 in
theorem l6DrawAny_any (cb : Nat) (A : Option Addr) (n c : Nat) (w : World) (h : Dcur w cb A n c) :
    Calls Try.prog 16 #[.pointer (some ⟨cb, 0, none⟩)] w fun e w' => ∃ (S : Option Addr) (m d' : Nat) (xs : List Int) (U : Option Addr) (k d : Nat) (x : List (List Int × List Int)), e = .returned (.agg #[.slice S m d', .slice U k d]) ∧ RB w' (w.heap.size + 1) S m xs ∧ m ≤ 9 ∧ DU w' (w.heap.size + 1) U k d x ∧ k ≤ 40 ∧ Dcur w' cb A n c ∧ Only cb (cb + 1) w w' := by
  have hlt := h.lt
  obtain ⟨i1, hj, hy0, hy1, hy2⟩ := info_parts infoRule
  have hO := (Only.refl cb (cb + 1) w).alloc (.cells #[.slice none 0 0, .slice none 0 0] 29)
  have hC := h.alloc (.cells #[.slice none 0 0, .slice none 0 0] 29)
  have br := Blk.new w 29 #[.slice none 0 0, .slice none 0 0]
  have hsz : (w.alloc (.cells #[.slice none 0 0, .slice none 0 0] 29)).heap.size = w.heap.size + 1 := by simp
  go_enter Try.func16, Try.ntmps16
  go_wp2_with fail
  generalize w.alloc (.cells #[.slice none 0 0, .slice none 0 0] 29) = W0 at *
  refine (l6Draw_any cb A n c W0 hC).mono ?_
  rintro e w1 ⟨S, m, d', xs, U, k, d, x, rfl, hS, hm, hD, hk, hSU, hC1, ho1⟩
  have HSU := Lib.hid hSU
  clear hSU
  have hs1 := ho1.size
  have br1 := (br.only ho1 (Or.inr (by omega))).alloc (.cells #[.slice S m d', .slice U k d] 29)
  have hO1 := (hO.trans ho1).alloc (.cells #[.slice S m d', .slice U k d] 29)
  have hC2 := hC1.alloc (.cells #[.slice S m d', .slice U k d] 29)
  have bs1 := Blk.new w1 29 #[.slice S m d', .slice U k d]
  have hb1 := (Below.refl w1.heap.size w1).alloc (Nat.le_refl _) (.cells #[.slice S m d', .slice U k d] 29)
  have hS1 := (hS.base (B' := w.heap.size + 1) (by omega)).below hb1
  have hD1 := (hD.base (B' := w.heap.size + 1) (by omega)).below hb1
  clear hS hD hC1 ho1 br hO hC hb1
  go_wp2_with fail
  generalize w1.alloc (.cells #[.slice S m d', .slice U k d] 29) = W1 at *
  have hsW := bs1.lt
  refine (l1Once_any cb A n c 15 W1 hC2 (by omega)).mono ?_
  rintro e w2 ⟨b, rfl, hC3, ho2⟩
  have br2 := br1.only ho2 (Or.inr (by omega))
  have bs2 := bs1.only ho2 (Or.inr (by omega))
  have hO2 := hO1.trans ho2
  have HS := Lib.hid (hS1.up ho2 (by omega))
  have HD := Lib.hid (hD1.up ho2 (by omega))
  have hs2 := bs2.lt
  clear hS1 hD1 ho2 br1 bs1 hO1 hC2
  cases b
  · have KS : ∀ i, w2.cell? ⟨w1.heap.size, i, none⟩ = #[Value.slice S m d', .slice U k d][i]? := fun i => bs2.cell i
    have KR : ∀ i, w2.cell? ⟨w.heap.size, i, none⟩ = #[Value.slice none 0 0, .slice none 0 0][i]? := fun i => br2.cell i
    have FR : ∀ i, w2.frozen? ⟨w.heap.size, i, none⟩ = false := fun i => br2.frozen i
    go_wp2_with fail
    have ho5 : Only w.heap.size (w.heap.size + 1) w2 ((w2.setCell ⟨w.heap.size, 0, none⟩ (.slice S m d')).setCell ⟨w.heap.size, 1, none⟩ (.slice U k d)) := ((Only.refl _ _ _).setCell (by simp) _).setCell (by simp) _
    have hB5 : Below w.heap.size w2 ((w2.setCell ⟨w.heap.size, 0, none⟩ (.slice S m d')).setCell ⟨w.heap.size, 1, none⟩ (.slice U k d)) := ho5.below (Nat.le_refl _) (by omega)
    exact bodyPost_ret (v := .agg #[.slice S m d', .slice U k d]) (by simp [results, Try.results16, go_sem, KR]) rfl ⟨S, m, d', xs, U, k, d, x, rfl, HS.out.up ho5 (Nat.le_refl _), hm, HD.out.up ho5 (Nat.le_refl _), by omega, hC3.belowB hB5 (by omega), hO2.thenB hB5 (Nat.le_refl _)⟩
  · go_wp2_with fail
    refine (l1Below_any cb A n c 4 w2 hC3 (by omega)).mono ?_
    rintro e w3 ⟨z, rfl, hz0, hz1, _, hC4, ho3⟩
    have hz3 := hz1 (by omega)
    have br3 := br2.only ho3 (Or.inr (by omega))
    have bs3 := bs2.only ho3 (Or.inr (by omega))
    have hO3 := hO2.trans ho3
    replace HS := Lib.hid (HS.out.up ho3 (by omega))
    replace HD := Lib.hid (HD.out.up ho3 (by omega))
    have hs3 := bs3.lt
    clear ho3 hC3 br2 bs2 hO2 hz1
    obtain rfl | rfl | rfl | rfl : z = 0 ∨ z = 1 ∨ z = 2 ∨ z = 3 := by omega
    · obtain ⟨vs, HV, HVL, HVS⟩ : ∃ vs : List Value, Hid (w3.ownsRow (w.heap.size + 1) 33 2 (.slice U k d) k vs) ∧ Hid (vs.length = k * 2) ∧ Hid (∀ i, i < k → DS w3 (w.heap.size + 1) U vs[i * 2]? (x.getD i ([], [])).1 ∧ DS w3 (w.heap.size + 1) U vs[i * 2 + 1]? (x.getD i ([], [])).2) := by
        obtain ⟨h1, vs, h2, h3⟩ := HD.out
        have h4 := h2.1
        exact ⟨vs, Lib.hid h2, Lib.hid (by simpa using h4), Lib.hid h3⟩
      have KS : ∀ i, w3.cell? ⟨w1.heap.size, i, none⟩ = #[Value.slice S m d', .slice U k d][i]? := fun i => bs3.cell i
      have hR3 := HS.out.base (B' := cb + 1) (by omega)
      have MARK : True := trivial
      go_wp2_with fail
      go_region_law (first
        | (clear MARK; go_simp; go_at_call 32; refine (l1DrawAny_any cb A n c S m d' xs _ ?_ ?_ hm).mono ?_; (first | exact hC4.drew); (first | exact hR3.drew); rintro e w4 ⟨P, p, p', l, rfl, hP, hp, hcp, hC5, ho4⟩; have bs4 := bs3.only (Only.drewL ho4) (Or.inr (by omega)); have KS4 : ∀ i, w4.cell? ⟨w1.heap.size, i, none⟩ = #[Value.slice S m d', .slice U k d][i]? := fun i => bs4.cell i; have hR4 := (hR3.up (Only.drewL ho4) (by omega)); have hs4 := bs4.lt)
        | (go_simp; go_at_call 32; refine (l1DrawAny_any cb A n c S m d' xs _ hC5 hR4 hm).mono ?_; rintro e w5 ⟨Q, q4, q5, r, rfl, hQ, hq4, hcq, hC6, ho5⟩; have bs5 := bs4.only ho5 (Or.inr (by omega)); have KS5 : ∀ i, w5.cell? ⟨w1.heap.size, i, none⟩ = #[Value.slice S m d', .slice U k d][i]? := fun i => bs5.cell i; have HV5 := Lib.hid (ownsRow_upO (ownsRow_upO HV.out (Only.drewL ho4) (by omega)) ho5 (by omega)); have hs5 := bs5.lt)
        | (refine step_append_any rfl _ _ 27 rfl (w.heap.size + 1) 33 i1 (.agg #[.slice none 0 0, .slice none 0 0]) 2 48 Try.underlying27 hj hy0 hy1 hy2 rfl (by omega) U k d vs rfl (ownsRow_below HV5.out ((Below.refl _ _).alloc (Nat.le_refl _) (.cells #[.slice P p p', .slice Q q4 q5] 33))) _ 1 _ [.slice P p p', .slice Q q4 q5] rfl (Src.new _ [.slice P p p', .slice Q q4 q5] _ 1 2 rfl (by simp [Value.oneCell'])) (by unfold maxLen; omega) (by omega) (by simp; omega) ?_; intro A9 c9 w9 ho9 hg9 hnil9 hwh9; have hgb := app_below hg9 (ownsRow_below HV5.out ((Below.refl _ _).alloc (Nat.le_refl _) (.cells #[.slice P p p', .slice Q q4 q5] 33))) (by omega); have bs9 := bkGrowS bs5 hg9 HV5.out (by decide); have KS9 : ∀ i, w9.cell? ⟨w1.heap.size, i, none⟩ = #[Value.slice S m d', .slice U k d][i]? := fun i => bs9.cell i; have FS9 : ∀ i, w9.frozen? ⟨w1.heap.size, i, none⟩ = false := fun i => bs9.frozen i)
        | (refine step_append_any rfl _ _ 27 rfl (w.heap.size + 1) 33 i1 (.agg #[.slice none 0 0, .slice none 0 0]) 2 48 Try.underlying27 hj hy0 hy1 hy2 rfl (by omega) U k d vs rfl (ownsRow_below HV5.out ((Below.refl _ _).alloc (Nat.le_refl _) (.cells #[.slice Q q4 q5, .slice P p p'] 33))) _ 1 _ [.slice Q q4 q5, .slice P p p'] rfl (Src.new _ [.slice Q q4 q5, .slice P p p'] _ 1 2 rfl (by simp [Value.oneCell'])) (by unfold maxLen; omega) (by omega) (by simp; omega) ?_; intro A9 c9 w9 ho9 hg9 hnil9 hwh9; have hgb := app_below hg9 (ownsRow_below HV5.out ((Below.refl _ _).alloc (Nat.le_refl _) (.cells #[.slice Q q4 q5, .slice P p p'] 33))) (by omega); have bs9 := bkGrowS bs5 hg9 HV5.out (by decide); have KS9 : ∀ i, w9.cell? ⟨w1.heap.size, i, none⟩ = #[Value.slice S m d', .slice U k d][i]? := fun i => bs9.cell i; have FS9 : ∀ i, w9.frozen? ⟨w1.heap.size, i, none⟩ = false := fun i => bs9.frozen i))
      all_goals (
        have hOw := (Only.drewL ho4).trans ho5
        have hs45 := ho5.size
        have HD5 := Lib.hid (HD.out.up hOw (by omega))
        have HS5 := Lib.hid (HS.out.up hOw (by omega))
        have hUlt : ∀ b, blk U = some b → b < w3.heap.size := fun b hb => (HV.out.lt b (by rw [blk_own]; exact hb)).2
        have d1 : DS w5 (w.heap.size + 1) U (some (.slice P p p')) l := ⟨P, p, p', rfl, (hP.up ho5 (by show _ ≤ w3.heap.size; omega)).base (by show _ ≤ w3.heap.size; omega), hp, hcp, fun h0 a ha e => by
          have h1 : w3.heap.size ≤ a.block := hP.2 h0 a ha
          have := hUlt _ e
          omega⟩
        have d2 : DS w5 (w.heap.size + 1) U (some (.slice Q q4 q5)) r := ⟨Q, q4, q5, rfl, hQ.base (by omega), hq4, hcq, fun h0 a ha e => by
          have h1 : w4.heap.size ≤ a.block := hQ.2 h0 a ha
          have h2 : w3.heap.size ≤ w4.heap.size := (Only.drewL ho4).size
          have := hUlt _ e
          omega⟩
        have hvs5 : ∀ i, i < k → DS w5 (w.heap.size + 1) U vs[i * 2]? (x.getD i ([], [])).1 ∧ DS w5 (w.heap.size + 1) U vs[i * 2 + 1]? (x.getD i ([], [])).2 := fun i hi => ⟨(HVS.out i hi).1.up hOw (by omega), (HVS.out i hi).2.up hOw (by omega)⟩
        obtain ⟨x9, HD9⟩ : ∃ x9, Hid (DU w9 (w.heap.size + 1) A9 (k + 1) c9 x9) := by
          first
            | exact ⟨_, Lib.hid (DU.push HD5.out d1 d2 hvs5 HVL.out ho9 hg9 hwh9)⟩
            | exact ⟨_, Lib.hid (DU.push HD5.out d2 d1 hvs5 HVL.out ho9 hg9 hwh9)⟩
        have HS9 := Lib.hid (RB.grow HS5.out HSU.out hg9)
        have HD10 := Lib.hid (HD9.out.set2 (j := 1) bs9 (by decide) (.slice A9 (k + 1) c9))
        have HS10 := Lib.hid (HS9.out.set2 (j := 1) bs9 (.slice A9 (k + 1) c9))
        have hBS : Below (w.heap.size + 1) w9 (w9.setCell ⟨w1.heap.size, 1, none⟩ (.slice A9 (k + 1) c9)) := (Below.refl _ _).setCell (p := ⟨w1.heap.size, 1, none⟩) (by show _ ≤ w1.heap.size; omega) _
        have bs10 := bs9.set_ 1 (.slice A9 (k + 1) c9)
        have br10 := ((br3.only hOw (Or.inr (by omega))).belowB hgb (by omega)).belowB hBS (by omega)
        have KRa : ∀ i, w9.cell? ⟨w.heap.size, i, none⟩ = #[Value.slice none 0 0, .slice none 0 0][i]? := fun i => ((br3.only hOw (Or.inr (by omega))).belowB hgb (by omega)).cell i
        have FRa : ∀ i, w9.frozen? ⟨w.heap.size, i, none⟩ = false := fun i => ((br3.only hOw (Or.inr (by omega))).belowB hgb (by omega)).frozen i
        have hC10 := (hC6.belowB hgb (by omega)).belowB hBS (by omega)
        have hO10 := ((hO3.trans hOw).thenB hgb (by omega)).thenB hBS (by omega)
        clear hgb HD9 HS9 hBS bs9 KS9 FS9 ho9 hg9 hnil9 hwh9 HV HVL HVS d1 d2 hvs5 hUlt hP hQ HV5 HD5 HS5 bs5 KS5 bs4 KS4 hR4 hC5 hC6 ho4 ho5 hOw KS hR3
        have KS9 : ∀ i, ((w9.setCell ⟨w1.heap.size, 1, none⟩ (.slice A9 (k + 1) c9))).cell? ⟨w1.heap.size, i, none⟩ = #[Value.slice (S) (m) (d'), .slice (A9) (k + 1) (c9)][i]? := fun i => Blk.cell bs10 i
        have KR9 : ∀ i, ((w9.setCell ⟨w1.heap.size, 1, none⟩ (.slice A9 (k + 1) c9))).cell? ⟨w.heap.size, i, none⟩ = #[Value.slice none 0 0, .slice none 0 0][i]? := fun i => Blk.cell br10 i
        have FR9 : ∀ i, ((w9.setCell ⟨w1.heap.size, 1, none⟩ (.slice A9 (k + 1) c9))).frozen? ⟨w.heap.size, i, none⟩ = false := fun i => Blk.frozen br10 i
        go_wp2_with fail
        have hsw9 := Blk.lt br10
        have ho5 : Only w.heap.size (w.heap.size + 1) ((w9.setCell ⟨w1.heap.size, 1, none⟩ (.slice A9 (k + 1) c9))) ((((w9.setCell ⟨w1.heap.size, 1, none⟩ (.slice A9 (k + 1) c9))).setCell ⟨w.heap.size, 0, none⟩ (.slice (S) (m) (d'))).setCell ⟨w.heap.size, 1, none⟩ (.slice (A9) (k + 1) (c9))) := ((Only.refl _ _ _).setCell (by simp) _).setCell (by simp) _
        have hB5 : Below w.heap.size ((w9.setCell ⟨w1.heap.size, 1, none⟩ (.slice A9 (k + 1) c9))) ((((w9.setCell ⟨w1.heap.size, 1, none⟩ (.slice A9 (k + 1) c9))).setCell ⟨w.heap.size, 0, none⟩ (.slice (S) (m) (d'))).setCell ⟨w.heap.size, 1, none⟩ (.slice (A9) (k + 1) (c9))) := ho5.below (Nat.le_refl _) (by omega)
        exact bodyPost_ret (v := .agg #[.slice (S) (m) (d'), .slice (A9) (k + 1) (c9)]) (by simp [results, Try.results16, go_sem, KR9]) rfl ⟨S, m, d', xs, A9, k + 1, c9, x9, rfl, (HS10).out.up ho5 (Nat.le_refl _), by omega, (HD10).out.up ho5 (Nat.le_refl _), by omega, (hC10).belowB hB5 (by omega), (hO10).thenB hB5 (Nat.le_refl _)⟩
        )
    · go_wp2_with fail
      refine (l1DrawSigAny_any cb A n c w3 hC4).mono ?_
      rintro e w4 ⟨S2, m2, d2, ys, rfl, hI, hm2, hC5, ho4⟩
      have br4 := br3.only ho4 (Or.inr (by omega))
      have bs4 := bs3.only ho4 (Or.inr (by omega))
      have hO4 := hO3.trans ho4
      have HD4 := Lib.hid (HD.out.up ho4 (by omega))
      have HS4 := Lib.hid (hI.rb.base (B' := w.heap.size + 1) (by omega))
      have KS : ∀ i, w4.cell? ⟨w1.heap.size, i, none⟩ = #[Value.slice S m d', .slice U k d][i]? := fun i => bs4.cell i
      have FS : ∀ i, w4.frozen? ⟨w1.heap.size, i, none⟩ = false := fun i => bs4.frozen i
      have hBS : Below (w.heap.size + 1) w4 (w4.setCell ⟨w1.heap.size, 0, none⟩ (.slice S2 m2 d2)) := (Below.refl _ _).setCell (p := ⟨w1.heap.size, 0, none⟩) (by show _ ≤ w1.heap.size; omega) _
      have bs5 := bs4.set_ 0 (.slice S2 m2 d2)
      have br5 := br4.belowB hBS (by omega)
      have hC6 := hC5.belowB hBS (by omega)
      have hO5 := hO4.thenB hBS (by omega)
      have HD5 := Lib.hid (HD4.out.set2 (j := 0) bs4 (by decide) (.slice S2 m2 d2))
      have HS5 := Lib.hid (HS4.out.set2 (j := 0) bs4 (.slice S2 m2 d2))
      have KR : ∀ i, w4.cell? ⟨w.heap.size, i, none⟩ = #[Value.slice none 0 0, .slice none 0 0][i]? := fun i => br4.cell i
      have FR : ∀ i, w4.frozen? ⟨w.heap.size, i, none⟩ = false := fun i => br4.frozen i
      clear hBS ho4 hI HD4 HS4 hO4
      have KS9 : ∀ i, (w4.setCell ⟨w1.heap.size, 0, none⟩ (.slice S2 m2 d2)).cell? ⟨w1.heap.size, i, none⟩ = #[Value.slice (S2) (m2) (d2), .slice (U) (k) (d)][i]? := fun i => Blk.cell bs5 i
      have KR9 : ∀ i, (w4.setCell ⟨w1.heap.size, 0, none⟩ (.slice S2 m2 d2)).cell? ⟨w.heap.size, i, none⟩ = #[Value.slice none 0 0, .slice none 0 0][i]? := fun i => Blk.cell br5 i
      have FR9 : ∀ i, (w4.setCell ⟨w1.heap.size, 0, none⟩ (.slice S2 m2 d2)).frozen? ⟨w.heap.size, i, none⟩ = false := fun i => Blk.frozen br5 i
      go_wp2_with fail
      have hsw9 := Blk.lt br5
      have ho5 : Only w.heap.size (w.heap.size + 1) (w4.setCell ⟨w1.heap.size, 0, none⟩ (.slice S2 m2 d2)) (((w4.setCell ⟨w1.heap.size, 0, none⟩ (.slice S2 m2 d2)).setCell ⟨w.heap.size, 0, none⟩ (.slice (S2) (m2) (d2))).setCell ⟨w.heap.size, 1, none⟩ (.slice (U) (k) (d))) := ((Only.refl _ _ _).setCell (by simp) _).setCell (by simp) _
      have hB5 : Below w.heap.size (w4.setCell ⟨w1.heap.size, 0, none⟩ (.slice S2 m2 d2)) (((w4.setCell ⟨w1.heap.size, 0, none⟩ (.slice S2 m2 d2)).setCell ⟨w.heap.size, 0, none⟩ (.slice (S2) (m2) (d2))).setCell ⟨w.heap.size, 1, none⟩ (.slice (U) (k) (d))) := ho5.below (Nat.le_refl _) (by omega)
      exact bodyPost_ret (v := .agg #[.slice (S2) (m2) (d2), .slice (U) (k) (d)]) (by simp [results, Try.results16, go_sem, KR9]) rfl ⟨S2, m2, d2, ys, U, k, d, x, rfl, (HS5).out.up ho5 (Nat.le_refl _), by omega, (HD5).out.up ho5 (Nat.le_refl _), by omega, (hC6).belowB hB5 (by omega), (hO5).thenB hB5 (Nat.le_refl _)⟩
    · have HG : Hid (∀ j, j = 13 - k → True) := Lib.hid fun _ _ => trivial
      go_wp2_with fail
      go_loopg [33] (13 - k) (fun g _ wr => ∃ (k' : Nat) (U' : Option Addr) (d9 : Nat) (x' : List (List Int × List Int)), Hid (g = 13 - k') ∧ k' ≤ 20 ∧ Hid (RB wr (w.heap.size + 1) S m xs) ∧ Hid (DU wr (w.heap.size + 1) U' k' d9 x') ∧ Hid (0 < m → ∀ a, S = some a → blk U' ≠ some a.block) ∧ Blk wr w1.heap.size 29 #[.slice S m d', .slice U' k' d9] ∧ Blk wr w.heap.size 29 #[.slice none 0 0, .slice none 0 0] ∧ Dcur wr cb A n c ∧ Only cb (cb + 1) w wr)
      case atStart => exact ⟨k, U, d, x, Lib.hid rfl, hk, HS, HD, HSU, bs3, br3, hC4, hO3⟩
      case round =>
        clear HS HD bs3 br3 hC4 hO3 HSU
        obtain ⟨k', U', d9, x', HG2, hk9, HS, HD, HSU, bs3, br3, hC4, hO3⟩ := hrel
        have KSr : ∀ i, wr.cell? ⟨w1.heap.size, i, none⟩ = #[Value.slice S m d', .slice U' k' d9][i]? := fun i => bs3.cell i
        by_cases hlt : k' < 13
        · have bA := ((Blk.new (wr) 2 #[.int .i64 (2)]).alloc (.cells #[.int .i64 (2)] 2))
          have bB := Blk.new ((wr).alloc (.cells #[.int .i64 (2)] 2)) 2 #[.int .i64 (2)]
          rw [World.size_alloc] at bB
          have hbW : Below (wr).heap.size (wr) (((wr).alloc (.cells #[.int .i64 (2)] 2)).alloc (.cells #[.int .i64 (2)] 2)) := ((Below.refl _ _).alloc (Nat.le_refl _) _).alloc (by simp) _
          have hszW : (((wr).alloc (.cells #[.int .i64 (2)] 2)).alloc (.cells #[.int .i64 (2)] 2)).heap.size = (wr).heap.size + 1 + 1 := by simp
          have hltU : ∀ b, blk (U') = some b → b < (wr).heap.size := fun b hb => by
            obtain ⟨_, vs, h2, _⟩ := (HD).out
            exact (h2.lt b (by rw [blk_own]; exact hb)).2
          have hlt0 := Blk.lt bs3
          have d1 : DS (((wr).alloc (.cells #[.int .i64 (2)] 2)).alloc (.cells #[.int .i64 (2)] 2)) (w.heap.size + 1) (U') (some (.slice (some ⟨(wr).heap.size, 0, none⟩) 1 1)) [2] := DS.lit2 (xs := [2]) bA (by omega) (by simp) (fun e => by have := hltU _ e; omega)
          have d2 : DS (((wr).alloc (.cells #[.int .i64 (2)] 2)).alloc (.cells #[.int .i64 (2)] 2)) (w.heap.size + 1) (U') (some (.slice (some ⟨(wr).heap.size + 1, 0, none⟩) 1 1)) [2] := DS.lit2 (xs := [2]) bB (by omega) (by simp) (fun e => by have := hltU _ e; omega)
          have HS0 := Lib.hid ((HS).out.below hbW)
          have HD0 := Lib.hid ((HD).out.below hbW)
          have bs0 := Blk.below bs3 hbW
          have br0 := Blk.below br3 hbW
          have hC0 := Dcur.below hC4 hbW
          have hO0 := Only.thenB hO3 hbW (by omega)
          have KS0 : ∀ i, (wr).cell? ⟨w1.heap.size, i, none⟩ = #[Value.slice S m d', .slice (U') (k') (d9)][i]? := fun i => Blk.cell bs3 i
          obtain ⟨vs, HV, HVL, HVS⟩ : ∃ vs : List Value, Hid ((((wr).alloc (.cells #[.int .i64 (2)] 2)).alloc (.cells #[.int .i64 (2)] 2)).ownsRow (w.heap.size + 1) 33 2 (.slice (U') (k') (d9)) (k') vs) ∧ Hid (vs.length = (k') * 2) ∧ Hid (∀ i, i < (k') → DS (((wr).alloc (.cells #[.int .i64 (2)] 2)).alloc (.cells #[.int .i64 (2)] 2)) (w.heap.size + 1) (U') vs[i * 2]? ((x').getD i ([], [])).1 ∧ DS (((wr).alloc (.cells #[.int .i64 (2)] 2)).alloc (.cells #[.int .i64 (2)] 2)) (w.heap.size + 1) (U') vs[i * 2 + 1]? ((x').getD i ([], [])).2) := by
            obtain ⟨h1, vs, h2, h3⟩ := HD0.out
            have h4 := h2.1
            exact ⟨vs, Lib.hid h2, Lib.hid (by simpa using h4), Lib.hid h3⟩
          have D1 := Lib.hid d1
          have D2 := Lib.hid d2
          have HWO := Lib.hid hbW
          clear bA bB d1 d2 hltU hbW
          have howa := Lib.hid (ownsRow_below HV.out ((Below.refl _ _).alloc (Nat.le_refl _) (.cells #[.slice (some ⟨(wr).heap.size, 0, none⟩) 1 1, .slice (some ⟨(wr).heap.size + 1, 0, none⟩) 1 1] 33)))
          have hsrc := Src.new (((wr).alloc (.cells #[.int .i64 (2)] 2)).alloc (.cells #[.int .i64 (2)] 2)) [.slice (some ⟨(wr).heap.size, 0, none⟩) 1 1, .slice (some ⟨(wr).heap.size + 1, 0, none⟩) 1 1] 33 1 2 rfl (by simp [Value.oneCell'])
          simp only [World.size_alloc] at hsrc
          have HSRC := Lib.hid hsrc
          clear hsrc
          go_wp2_with (at_builtin; refine wpList_append_sep rfl _ _ 27 rfl (w.heap.size + 1) 33 i1 (.agg #[.slice none 0 0, .slice none 0 0]) 2 48 Try.underlying27 hj hy0 hy1 hy2 rfl (by omega) (U') (k') (d9) vs rfl howa.out _ 1 _ [.slice (some ⟨(wr).heap.size, 0, none⟩) 1 1, .slice (some ⟨(wr).heap.size + 1, 0, none⟩) 1 1] rfl HSRC.out (by unfold maxLen; omega) (by omega) (by simp; omega) ?_; intro A9 c9 w9 ho9 hg9 hnil9 hwh9; have bs9 := bkGrowS bs0 hg9 HV.out (by decide); have KS9 : ∀ i, w9.cell? ⟨w1.heap.size, i, none⟩ = #[Value.slice S m d', .slice (U') (k') (d9)][i]? := fun i => bs9.cell i; have FS9 : ∀ i, w9.frozen? ⟨w1.heap.size, i, none⟩ = false := fun i => bs9.frozen i; have KR9 : ∀ i, w9.cell? ⟨w.heap.size, i, none⟩ = #[Value.slice none 0 0, .slice none 0 0][i]? := fun i => (br0.belowB (app_below hg9 howa.out (by omega)) (by omega)).cell i; have FR9 : ∀ i, w9.frozen? ⟨w.heap.size, i, none⟩ = false := fun i => (br0.belowB (app_below hg9 howa.out (by omega)) (by omega)).frozen i)
          have hgb := app_below hg9 howa.out (by omega)
          have HD9 := Lib.hid (DU.push HD0.out D1.out D2.out HVS.out HVL.out ho9 hg9 hwh9)
          have HS9 := Lib.hid (RB.grow HS0.out HSU.out hg9)
          have HD10 := Lib.hid (HD9.out.set2 (j := 1) bs9 (by decide) (.slice A9 ((k') + 1) c9))
          have HS10 := Lib.hid (HS9.out.set2 (j := 1) bs9 (.slice A9 ((k') + 1) c9))
          have hBS : Below (w.heap.size + 1) w9 (w9.setCell ⟨w1.heap.size, 1, none⟩ (.slice A9 ((k') + 1) c9)) := (Below.refl _ _).setCell (p := ⟨w1.heap.size, 1, none⟩) (by show _ ≤ w1.heap.size; omega) _
          have bs10 := bs9.set_ 1 (.slice A9 ((k') + 1) c9)
          have br10 := (br0.belowB hgb (by omega)).belowB hBS (by omega)
          have hC10 := (hC0.belowB hgb (by omega)).belowB hBS (by omega)
          have hO10 := (hO0.thenB hgb (by omega)).thenB hBS (by omega)
          have HN10 : 0 < m → ∀ a, S = some a → blk A9 ≠ some a.block := by
            intro h0 a ha
            rcases hwh9 with e | e
            · rw [e]; exact HSU.out h0 a ha
            · rw [e]
              have := ((HS).out).lt h0 a ha
              simp [blk]
              omega
          clear hgb HD9 HS9 hBS bs9 KS9 FS9 KR9 FR9 KS0 ho9 hg9 hwh9 hnil9 howa HV HVL HVS D1 D2 HWO HS0 HD0 bs0 br0 hC0 hO0 HSRC
          go_wp2_with fail
          go_roundg (13 - (k' + 1))
          case measure => rw [HG2.out]; omega
          case rel => exact ⟨k' + 1, A9, c9, _, Lib.hid rfl, by omega, HS10, HD10, Lib.hid HN10, bs10, br10, hC10, hO10⟩
        · have KS9 : ∀ i, (wr).cell? ⟨w1.heap.size, i, none⟩ = #[Value.slice (S) (m) (d'), .slice (U') (k') (d9)][i]? := fun i => Blk.cell bs3 i
          have KR9 : ∀ i, (wr).cell? ⟨w.heap.size, i, none⟩ = #[Value.slice none 0 0, .slice none 0 0][i]? := fun i => Blk.cell br3 i
          have FR9 : ∀ i, (wr).frozen? ⟨w.heap.size, i, none⟩ = false := fun i => Blk.frozen br3 i
          go_wp2_with fail
          have hsw9 := Blk.lt br3
          have ho5 : Only w.heap.size (w.heap.size + 1) (wr) (((wr).setCell ⟨w.heap.size, 0, none⟩ (.slice (S) (m) (d'))).setCell ⟨w.heap.size, 1, none⟩ (.slice (U') (k') (d9))) := ((Only.refl _ _ _).setCell (by simp) _).setCell (by simp) _
          have hB5 : Below w.heap.size (wr) (((wr).setCell ⟨w.heap.size, 0, none⟩ (.slice (S) (m) (d'))).setCell ⟨w.heap.size, 1, none⟩ (.slice (U') (k') (d9))) := ho5.below (Nat.le_refl _) (by omega)
          exact bodyPost_ret (v := .agg #[.slice (S) (m) (d'), .slice (U') (k') (d9)]) (by simp [results, Try.results16, go_sem, KR9]) rfl ⟨S, m, d', xs, U', k', d9, x', rfl, (HS).out.up ho5 (Nat.le_refl _), by omega, (HD).out.up ho5 (Nat.le_refl _), by omega, (hC4).belowB hB5 (by omega), (hO3).thenB hB5 (Nat.le_refl _)⟩
    · have bA := ((Blk.new (w3) 2 #[.int .i64 (-1)]).alloc (.cells #[.int .i64 (-1)] 2))
      have bB := Blk.new ((w3).alloc (.cells #[.int .i64 (-1)] 2)) 2 #[.int .i64 (-1)]
      rw [World.size_alloc] at bB
      have hbW : Below (w3).heap.size (w3) (((w3).alloc (.cells #[.int .i64 (-1)] 2)).alloc (.cells #[.int .i64 (-1)] 2)) := ((Below.refl _ _).alloc (Nat.le_refl _) _).alloc (by simp) _
      have hszW : (((w3).alloc (.cells #[.int .i64 (-1)] 2)).alloc (.cells #[.int .i64 (-1)] 2)).heap.size = (w3).heap.size + 1 + 1 := by simp
      have hltU : ∀ b, blk (U) = some b → b < (w3).heap.size := fun b hb => by
        obtain ⟨_, vs, h2, _⟩ := (HD).out
        exact (h2.lt b (by rw [blk_own]; exact hb)).2
      have hlt0 := Blk.lt bs3
      have d1 : DS (((w3).alloc (.cells #[.int .i64 (-1)] 2)).alloc (.cells #[.int .i64 (-1)] 2)) (w.heap.size + 1) (U) (some (.slice (some ⟨(w3).heap.size, 0, none⟩) 1 1)) [-1] := DS.lit2 (xs := [-1]) bA (by omega) (by simp) (fun e => by have := hltU _ e; omega)
      have d2 : DS (((w3).alloc (.cells #[.int .i64 (-1)] 2)).alloc (.cells #[.int .i64 (-1)] 2)) (w.heap.size + 1) (U) (some (.slice (some ⟨(w3).heap.size + 1, 0, none⟩) 1 1)) [-1] := DS.lit2 (xs := [-1]) bB (by omega) (by simp) (fun e => by have := hltU _ e; omega)
      have HS0 := Lib.hid ((HS).out.below hbW)
      have HD0 := Lib.hid ((HD).out.below hbW)
      have bs0 := Blk.below bs3 hbW
      have br0 := Blk.below br3 hbW
      have hC0 := Dcur.below hC4 hbW
      have hO0 := Only.thenB hO3 hbW (by omega)
      have KS0 : ∀ i, (w3).cell? ⟨w1.heap.size, i, none⟩ = #[Value.slice S m d', .slice (U) (k) (d)][i]? := fun i => Blk.cell bs3 i
      obtain ⟨vs, HV, HVL, HVS⟩ : ∃ vs : List Value, Hid ((((w3).alloc (.cells #[.int .i64 (-1)] 2)).alloc (.cells #[.int .i64 (-1)] 2)).ownsRow (w.heap.size + 1) 33 2 (.slice (U) (k) (d)) (k) vs) ∧ Hid (vs.length = (k) * 2) ∧ Hid (∀ i, i < (k) → DS (((w3).alloc (.cells #[.int .i64 (-1)] 2)).alloc (.cells #[.int .i64 (-1)] 2)) (w.heap.size + 1) (U) vs[i * 2]? ((x).getD i ([], [])).1 ∧ DS (((w3).alloc (.cells #[.int .i64 (-1)] 2)).alloc (.cells #[.int .i64 (-1)] 2)) (w.heap.size + 1) (U) vs[i * 2 + 1]? ((x).getD i ([], [])).2) := by
        obtain ⟨h1, vs, h2, h3⟩ := HD0.out
        have h4 := h2.1
        exact ⟨vs, Lib.hid h2, Lib.hid (by simpa using h4), Lib.hid h3⟩
      have D1 := Lib.hid d1
      have D2 := Lib.hid d2
      have HWO := Lib.hid hbW
      clear bA bB d1 d2 hltU hbW
      have howa := Lib.hid (ownsRow_below HV.out ((Below.refl _ _).alloc (Nat.le_refl _) (.cells #[.slice (some ⟨(w3).heap.size, 0, none⟩) 1 1, .slice (some ⟨(w3).heap.size + 1, 0, none⟩) 1 1] 33)))
      have hsrc := Src.new (((w3).alloc (.cells #[.int .i64 (-1)] 2)).alloc (.cells #[.int .i64 (-1)] 2)) [.slice (some ⟨(w3).heap.size, 0, none⟩) 1 1, .slice (some ⟨(w3).heap.size + 1, 0, none⟩) 1 1] 33 1 2 rfl (by simp [Value.oneCell'])
      simp only [World.size_alloc] at hsrc
      have HSRC := Lib.hid hsrc
      clear hsrc
      go_wp2_with (at_builtin; refine wpList_append_sep rfl _ _ 27 rfl (w.heap.size + 1) 33 i1 (.agg #[.slice none 0 0, .slice none 0 0]) 2 48 Try.underlying27 hj hy0 hy1 hy2 rfl (by omega) (U) (k) (d) vs rfl howa.out _ 1 _ [.slice (some ⟨(w3).heap.size, 0, none⟩) 1 1, .slice (some ⟨(w3).heap.size + 1, 0, none⟩) 1 1] rfl HSRC.out (by unfold maxLen; omega) (by omega) (by simp; omega) ?_; intro A9 c9 w9 ho9 hg9 hnil9 hwh9; have bs9 := bkGrowS bs0 hg9 HV.out (by decide); have KS9 : ∀ i, w9.cell? ⟨w1.heap.size, i, none⟩ = #[Value.slice S m d', .slice (U) (k) (d)][i]? := fun i => bs9.cell i; have FS9 : ∀ i, w9.frozen? ⟨w1.heap.size, i, none⟩ = false := fun i => bs9.frozen i; have KR9 : ∀ i, w9.cell? ⟨w.heap.size, i, none⟩ = #[Value.slice none 0 0, .slice none 0 0][i]? := fun i => (br0.belowB (app_below hg9 howa.out (by omega)) (by omega)).cell i; have FR9 : ∀ i, w9.frozen? ⟨w.heap.size, i, none⟩ = false := fun i => (br0.belowB (app_below hg9 howa.out (by omega)) (by omega)).frozen i)
      have hgb := app_below hg9 howa.out (by omega)
      have HD9 := Lib.hid (DU.push HD0.out D1.out D2.out HVS.out HVL.out ho9 hg9 hwh9)
      have HS9 := Lib.hid (RB.grow HS0.out HSU.out hg9)
      have HD10 := Lib.hid (HD9.out.set2 (j := 1) bs9 (by decide) (.slice A9 ((k) + 1) c9))
      have HS10 := Lib.hid (HS9.out.set2 (j := 1) bs9 (.slice A9 ((k) + 1) c9))
      have hBS : Below (w.heap.size + 1) w9 (w9.setCell ⟨w1.heap.size, 1, none⟩ (.slice A9 ((k) + 1) c9)) := (Below.refl _ _).setCell (p := ⟨w1.heap.size, 1, none⟩) (by show _ ≤ w1.heap.size; omega) _
      have bs10 := bs9.set_ 1 (.slice A9 ((k) + 1) c9)
      have br10 := (br0.belowB hgb (by omega)).belowB hBS (by omega)
      have hC10 := (hC0.belowB hgb (by omega)).belowB hBS (by omega)
      have hO10 := (hO0.thenB hgb (by omega)).thenB hBS (by omega)
      have HN10 : 0 < m → ∀ a, S = some a → blk A9 ≠ some a.block := by
        intro h0 a ha
        rcases hwh9 with e | e
        · rw [e]; exact HSU.out h0 a ha
        · rw [e]
          have := ((HS).out).lt h0 a ha
          simp [blk]
          omega
      clear hgb HD9 HS9 hBS bs9 KS9 FS9 KR9 FR9 KS0 ho9 hg9 hwh9 hnil9 howa HV HVL HVS D1 D2 HWO HS0 HD0 bs0 br0 hC0 hO0 HSRC
      have KS9 : ∀ i, ((w9.setCell ⟨w1.heap.size, 1, none⟩ (.slice A9 (k + 1) c9))).cell? ⟨w1.heap.size, i, none⟩ = #[Value.slice (S) (m) (d'), .slice (A9) (k + 1) (c9)][i]? := fun i => Blk.cell bs10 i
      have KR9 : ∀ i, ((w9.setCell ⟨w1.heap.size, 1, none⟩ (.slice A9 (k + 1) c9))).cell? ⟨w.heap.size, i, none⟩ = #[Value.slice none 0 0, .slice none 0 0][i]? := fun i => Blk.cell br10 i
      have FR9 : ∀ i, ((w9.setCell ⟨w1.heap.size, 1, none⟩ (.slice A9 (k + 1) c9))).frozen? ⟨w.heap.size, i, none⟩ = false := fun i => Blk.frozen br10 i
      go_wp2_with fail
      have hsw9 := Blk.lt br10
      have ho5 : Only w.heap.size (w.heap.size + 1) ((w9.setCell ⟨w1.heap.size, 1, none⟩ (.slice A9 (k + 1) c9))) ((((w9.setCell ⟨w1.heap.size, 1, none⟩ (.slice A9 (k + 1) c9))).setCell ⟨w.heap.size, 0, none⟩ (.slice (S) (m) (d'))).setCell ⟨w.heap.size, 1, none⟩ (.slice (A9) (k + 1) (c9))) := ((Only.refl _ _ _).setCell (by simp) _).setCell (by simp) _
      have hB5 : Below w.heap.size ((w9.setCell ⟨w1.heap.size, 1, none⟩ (.slice A9 (k + 1) c9))) ((((w9.setCell ⟨w1.heap.size, 1, none⟩ (.slice A9 (k + 1) c9))).setCell ⟨w.heap.size, 0, none⟩ (.slice (S) (m) (d'))).setCell ⟨w.heap.size, 1, none⟩ (.slice (A9) (k + 1) (c9))) := ho5.below (Nat.le_refl _) (by omega)
      exact bodyPost_ret (v := .agg #[.slice (S) (m) (d'), .slice (A9) (k + 1) (c9)]) (by simp [results, Try.results16, go_sem, KR9]) rfl ⟨S, m, d', xs, A9, k + 1, c9, x ++ [([-1], [-1])], rfl, (HS10).out.up ho5 (Nat.le_refl _), by omega, (HD10).out.up ho5 (Nat.le_refl _), by omega, (hC10).belowB hB5 (by omega), (hO10).thenB hB5 (Nat.le_refl _)⟩
set_option maxHeartbeats 4000000 in
set_option maxRecDepth 20000 in
theorem DrawLeftLinearIn_any (A : Option Addr) (n c : Nat) (w : World) (h : BI w A n) (hn : n ≤ 4096) :
    Calls Try.prog 5 #[.slice A n c] w fun e w' => ∃ (S : Option Addr) (m d' : Nat) (xs : List Int) (U : Option Addr) (k d : Nat) (x : List (List Int × List Int)), e = .returned (.agg #[.slice S m d', .slice U k d]) ∧ RI w' S m xs ∧ m ≤ 9 ∧ RU w' U k x ∧ wtU x ≤ 5000 ∧ Below w.heap.size w w' := by
  have bk0 := Blk.new w 29 #[.slice none 0 0, .slice none 0 0]
  go_enter Try.func5, Try.ntmps5
  go_wp2_with fail
  refine (l1New_any A n c _ (h.below ((Below.refl _ _).alloc (Nat.le_refl _) _)) hn).mono ?_
  rintro e w1 ⟨rfl, hC, hb1⟩
  have hs0 : (w.alloc (.cells #[.slice none 0 0, .slice none 0 0] 29)).heap.size = w.heap.size + 1 := by simp
  replace bk0 := bk0.below hb1
  have hB1 := ((Below.refl w.heap.size w).alloc (Nat.le_refl _) (.cells #[.slice none 0 0, .slice none 0 0] 29)).trans (hb1.mono (by omega))
  rw [hs0] at hC
  have hlt := hC.lt
  clear hb1
  go_wp2_with fail
  refine (l6DrawAny_any _ A n c w1 hC).mono ?_
  rintro e w2 ⟨S, m, d', xs, U, k, d, x, rfl, hS, hm, hD, hk, hC2, ho2⟩
  have hs2 := ho2.size
  have bk2 := bk0.only ho2 (Or.inl (by omega))
  have hB2 := hB1.trans (ho2.below (B := w.heap.size) (by omega) (by omega))
  have HS := Lib.hid hS
  have HD := Lib.hid hD
  have KR : ∀ i, w2.cell? ⟨w.heap.size, i, none⟩ = #[Value.slice none 0 0, .slice none 0 0][i]? := fun i => bk2.cell i
  have FR : ∀ i, w2.frozen? ⟨w.heap.size, i, none⟩ = false := fun i => bk2.frozen i
  clear hS hD hC hC2
  go_wp2_with fail
  have ho5 : Only w.heap.size (w.heap.size + 1) w2 ((w2.setCell ⟨w.heap.size, 0, none⟩ (.slice S m d')).setCell ⟨w.heap.size, 1, none⟩ (.slice U k d)) := ((Only.refl _ _ _).setCell (by simp) _).setCell (by simp) _
  have hB5 : Below w.heap.size w2 ((w2.setCell ⟨w.heap.size, 0, none⟩ (.slice S m d')).setCell ⟨w.heap.size, 1, none⟩ (.slice U k d)) := ho5.below (Nat.le_refl _) (by omega)
  have hD5 := (HD.out.base (B' := w.heap.size + 1) (by omega)).up ho5 (Nat.le_refl _)
  have hS5 := ((HS.out.base (B' := w.heap.size + 1) (by omega)).up ho5 (Nat.le_refl _)).1
  have hR5 := hD5.ru
  have hW5 : wtU x ≤ 5000 := by have := hD5.wt; omega
  have hB9 := hB2.trans hB5
  clear hD5 ho5 hB5 HS HD hB2 hB1
  exact bodyPost_ret (v := .agg #[.slice S m d', .slice U k d]) (by simp [results, Try.results5, go_sem, KR]) rfl ⟨S, m, d', xs, U, k, d, x, rfl, hS5, hm, hR5, hW5, hB9⟩
end Go.Proofs.Ytaeilbpgpchciaa
