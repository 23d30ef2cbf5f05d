/- Contracts: drawn systems, by dice or known. -/
import Derived.Test.YtaeilbpgpchciaaKnown
namespace Go.Proofs.Ytaeilbpgpchciaa
open Go.RowKit
set_option linter.unusedVariables false
set_option linter.unusedSimpArgs false

/-- A store into a block of two slices: no row of numbers lies there. -/
theorem RB.set2 {w : World} {B gs j : Nat} {ty : TypeId} {A0 A1 : Option Addr} {n0 c0 n1 c1 : Nat} {T : Option Addr} {m : Nat} {t : List Int} (h : RB w B T m t) (hb : Blk w gs ty #[.slice A0 n0 c0, .slice A1 n1 c1]) (u : Value) : RB (w.setCell ⟨gs, j, none⟩ u) B T m t := by
  rcases Nat.eq_zero_or_pos m with h0 | h0
  · subst h0
    exact ⟨⟨h.1.1, fun h => absurd h (by omega)⟩, fun h => absurd h (by omega)⟩
  refine h.same fun a ha => Below.heap_setCell w ⟨gs, j, none⟩ u a.block (fun e => ?_)
  obtain ⟨g, off, hA, hc⟩ := h.1.2 h0
  rw [hA] at ha
  injection ha with ha
  subst ha
  have h1 := hc 0 h0
  simp only at e
  rw [e, hb.cell] at h1
  match off, h1 with
  | 0, h1 => simp at h1
  | 1, h1 => simp at h1
  | off + 2, h1 => simp at h1
theorem DU.set2 {w : World} {B gs j : Nat} {ty : TypeId} {A0 A1 : Option Addr} {n0 c0 n1 c1 : Nat} {A : Option Addr} {n c : Nat} {x : List (List Int × List Int)} (h : DU w B A n c x) (hb : Blk w gs ty #[.slice A0 n0 c0, .slice A1 n1 c1]) (hty : ty ≠ 33) (u : Value) : DU (w.setCell ⟨gs, j, none⟩ u) B A n c x := by
  obtain ⟨h1, vs, h2, h3⟩ := h
  have ks : ∀ {v : Option Value} {t : List Int}, DS w B A v t → DS (w.setCell ⟨gs, j, none⟩ u) B A v t := by
    rintro v t ⟨P, p, p', e1, e2, e3, e4, e5⟩
    exact ⟨P, p, p', e1, e2.set2 hb u, e3, e4, e5⟩
  refine ⟨h1, vs, own_same h2 fun b hbl => Below.heap_setCell w ⟨gs, j, none⟩ u b (fun e => ?_), fun k hk => ⟨ks (h3 k hk).1, ks (h3 k hk).2⟩⟩
  rcases h2.2 with ⟨hn, _⟩ | ⟨g, cap, cur, hv, hB, hg, _⟩
  · rw [hn] at hbl; cases hbl
  · rw [hv] at hbl
    have hbl2 : g = b := by simpa [Value.ownBlock] using hbl
    subst hbl2
    simp only at e
    unfold Blk at hb
    rw [← e, hg] at hb
    simp at hb
    exact hty hb.2.symm
set_option maxHeartbeats 8000000 in
set_option maxRecDepth 20000 in
theorem l6Draw_any (cb : Nat) (A : Option Addr) (n c : Nat) (w : World) (h : Dcur w cb A n c) :
    Calls Try.prog 29 #[.pointer (some ⟨cb, 0, none⟩)] w fun e w' => ∃ (S : Option Addr) (m d' : Nat) (xs : List Int) (U : Option Addr) (k d : Nat) (x : List (List Int × List Int)), e = .returned (.agg #[.slice S m d', .slice U k d]) ∧ RB w' (w.heap.size + 1) S m xs ∧ m ≤ 9 ∧ DU w' (w.heap.size + 1) U k d x ∧ k ≤ 20 ∧ (0 < m → ∀ a, S = some a → blk U ≠ some a.block) ∧ Dcur w' cb A n c ∧ Only cb (cb + 1) w w' := by
  have hlt := h.lt
  obtain ⟨i1, hj, hy0, hy1, hy2⟩ := info_parts infoRule
  have hO := (Only.refl cb (cb + 1) w).alloc (.cells #[.slice none 0 0, .slice none 0 0] 29)
  have hC := h.alloc (.cells #[.slice none 0 0, .slice none 0 0] 29)
  have br := Blk.new w 29 #[.slice none 0 0, .slice none 0 0]
  have hsz : (w.alloc (.cells #[.slice none 0 0, .slice none 0 0] 29)).heap.size = w.heap.size + 1 := by simp
  go_enter Try.func29, Try.ntmps29
  go_wp2_with fail
  generalize w.alloc (.cells #[.slice none 0 0, .slice none 0 0] 29) = W0 at *
  refine (l1Once_any cb A n c 2 W0 hC (by omega)).mono ?_
  rintro e w1 ⟨b, rfl, hC1, ho1⟩
  have br1 := br.only ho1 (Or.inr (by omega))
  have hO1 := hO.trans ho1
  have hs1 := br1.lt
  clear hC ho1 br hO
  cases b
  · go_wp2_with fail
    refine (l1DrawSig_any cb A n c w1 hC1).mono ?_
    rintro e w2 ⟨S, m, d', xs, rfl, hI, hm, hsg, hC2, ho2⟩
    have hs2 := ho2.size
    have br2 := (br1.only ho2 (Or.inr (by omega))).alloc (.cells #[.slice S m d', .slice none 0 0] 29)
    have hO2 := (hO1.trans ho2).alloc (.cells #[.slice S m d', .slice none 0 0] 29)
    have hOa := hO1.trans ho2
    have hC3 := hC2.alloc (.cells #[.slice S m d', .slice none 0 0] 29)
    have bs := Blk.new w2 29 #[.slice S m d', .slice none 0 0]
    have hR2 := hI.rb.base (B' := w.heap.size + 1) (by omega)
    have hO9 := (Only.refl cb (cb + 1) w2).alloc (.cells #[.slice S m d', .slice none 0 0] 29)
    have hsz2 : (w2.alloc (.cells #[.slice S m d', .slice none 0 0] 29)).heap.size = w2.heap.size + 1 := by simp
    clear hI ho2 hC1 hC2 br1 hO1
    go_wp2_with fail
    generalize w2.alloc (.cells #[.slice S m d', .slice none 0 0] 29) = W2 at *
    refine (l1Below_any cb A n c 4 W2 hC3 (by omega)).mono ?_
    rintro e w3 ⟨y, rfl, hq0, hq1, _, hC4, ho3⟩
    have hq3 := hq1 (by omega)
    obtain ⟨q, rfl⟩ : ∃ q : Nat, y = q := ⟨y.toNat, by omega⟩
    have br3 := br2.only ho3 (Or.inr (by omega))
    have bs3 := bs.only ho3 (Or.inr (by omega))
    have hO3 := hO9.trans ho3
    have HN := Lib.hid (DU.nil w3 w2.heap.size)
    clear ho3 hC3 br2 bs hO9 hO2 hq1
    go_wp2_with fail
    go_loopw [4] (fun v4 wr => ∃ (j k : Nat) (U : Option Addr) (d : Nat) (x : List (List Int × List Int)), v4 = .int .i64 j ∧ k + j ≤ 4 ∧ Hid (DU wr w2.heap.size U k d x) ∧ Blk wr w.heap.size 29 #[.slice none 0 0, .slice none 0 0] ∧ Blk wr w2.heap.size 29 #[.slice S m d', .slice U k d] ∧ Dcur wr cb A n c ∧ Only cb (cb + 1) w2 wr) (fun v4 _ => (intOf v4).toNat)
    case atStart => exact ⟨q, 0, none, 0, [], rfl, by omega, HN, br3, bs3, hC4, hO3⟩
    case round =>
      clear HN br3 bs3 hC4 hO3
      obtain ⟨j, k, U, d, x, rfl, hkj, HD, br, bs, hC, hO⟩ := hrel
      have hsr := bs.lt
      have KS : ∀ i, wr.cell? ⟨w2.heap.size, i, none⟩ = #[Value.slice S m d', .slice U k d][i]? := fun i => bs.cell i
      by_cases h0 : 0 < j
      · have hR : RB wr (cb + 1) S m xs := (hR2.up hO (by omega)).base (by omega)
        obtain ⟨vs, HV, HVL, HVS⟩ : ∃ vs : List Value, Hid (wr.ownsRow w2.heap.size 33 2 (.slice U k d) k vs) ∧ Hid (vs.length = k * 2) ∧ Hid (∀ i, i < k → DS wr w2.heap.size U vs[i * 2]? (x.getD i ([], [])).1 ∧ DS wr w2.heap.size U vs[i * 2 + 1]? (x.getD i ([], [])).2) := by
          obtain ⟨h1, vs, h2, h3⟩ := HD.out
          have h4 := h2.1
          exact ⟨vs, Lib.hid h2, Lib.hid (by simpa using h4), Lib.hid h3⟩
        go_wp2_with fail
        go_region_law (first
          | (go_simp; go_at_call 46; refine (l6DrawRule_any cb A n c S m d' xs hsg.out _ ?_ ?_).mono ?_; (first | exact hC.drew); (first | exact hR.drew); rintro e w4 ⟨P, p, p', l, Q, q4, q5, r, rfl, hP, hp, hcp, hQ, hq4, hcq, hC4, ho4⟩; have bs4 := bs.only (Only.drewL ho4) (Or.inr (by omega)); have KS4 : ∀ i, w4.cell? ⟨w2.heap.size, i, none⟩ = #[Value.slice S m d', .slice U k d][i]? := fun i => bs4.cell i; have HV4 := Lib.hid (ownsRow_upO HV.out (Only.drewL ho4) (by omega)); have hs4 := bs4.lt)
          | (refine step_append_any rfl _ _ 27 rfl w2.heap.size 33 i1 (.agg #[.slice none 0 0, .slice none 0 0]) 2 48 Try.underlying27 hj hy0 hy1 hy2 rfl (by omega) U k d vs rfl (ownsRow_below HV4.out ((Below.refl _ _).alloc (Nat.le_refl _) (.cells #[.slice P p p', .slice Q q4 q5] 33))) _ 1 _ [.slice P p p', .slice Q q4 q5] rfl (Src.new _ [.slice P p p', .slice Q q4 q5] _ 1 2 rfl (by simp [Value.oneCell'])) (by unfold maxLen; omega) (by omega) (by simp; omega) ?_; intro A9 c9 w9 ho9 hg9 hnil9 hwh9; have hgb := app_below hg9 (ownsRow_below HV4.out ((Below.refl _ _).alloc (Nat.le_refl _) (.cells #[.slice P p p', .slice Q q4 q5] 33))) (by omega); have bs9 := bkGrowS bs4 hg9 HV4.out (by decide); have KS9 : ∀ i, w9.cell? ⟨w2.heap.size, i, none⟩ = #[Value.slice S m d', .slice U k d][i]? := fun i => bs9.cell i; have FS9 : ∀ i, w9.frozen? ⟨w2.heap.size, i, none⟩ = false := fun i => bs9.frozen i))
        all_goals (
          have hOw := Only.drewL ho4
          have HD4 := Lib.hid (HD.out.up hOw (by omega))
          have hUlt : ∀ b, blk U = some b → b < wr.heap.size := fun b hb => (HV.out.lt b (by rw [blk_own]; exact hb)).2
          have d1 : DS w4 w2.heap.size U (some (.slice P p p')) l := ⟨P, p, p', rfl, hP.base (by show _ ≤ wr.heap.size; omega), hp, hcp, fun h0 a ha e => by
            have h1 : wr.heap.size ≤ a.block := hP.2 h0 a ha
            have := hUlt _ e
            omega⟩
          have d2 : DS w4 w2.heap.size U (some (.slice Q q4 q5)) r := ⟨Q, q4, q5, rfl, hQ.base (by show _ ≤ wr.heap.size; omega), hq4, hcq, fun h0 a ha e => by
            have h1 : wr.heap.size ≤ a.block := hQ.2 h0 a ha
            have := hUlt _ e
            omega⟩
          have HD9 := Lib.hid (DU.push HD4.out d1 d2 (fun i hi => ⟨(HVS.out i hi).1.up hOw (by omega), (HVS.out i hi).2.up hOw (by omega)⟩) HVL.out ho9 hg9 hwh9)
          have HD10 := Lib.hid (HD9.out.set2 (j := 1) bs9 (by decide) (.slice A9 (k + 1) c9))
          have hBS : Below (w.heap.size + 1) w9 (w9.setCell ⟨w2.heap.size, 1, none⟩ (.slice A9 (k + 1) c9)) := (Below.refl _ _).setCell (p := ⟨w2.heap.size, 1, none⟩) (by show _ ≤ w2.heap.size; omega) _
          have hBS2 : Below w2.heap.size w9 (w9.setCell ⟨w2.heap.size, 1, none⟩ (.slice A9 (k + 1) c9)) := (Below.refl _ _).setCell (p := ⟨w2.heap.size, 1, none⟩) (Nat.le_refl _) _
          have bs10 := bs9.set_ 1 (.slice A9 (k + 1) c9)
          have br10 := ((br.only hOw (Or.inr (by omega))).belowB hgb (by omega)).belowB hBS (by omega)
          have hC10 := (hC4.belowB hgb (by omega)).belowB hBS (by omega)
          have hO10 := (((hO.trans hOw).thenB hgb (Nat.le_refl _))).thenB hBS2 (Nat.le_refl _)
          clear hgb HD9 hBS hBS2 bs9 KS9 FS9 ho9 hg9 hnil9 hwh9 hC4 HD4 HD HV HVL HVS HV4 bs bs4 KS4 KS br hO hC hOw ho4 hR d1 d2 hUlt hP hQ hs4
          go_wp2_with fail
          go_roundw
          case rel => exact ⟨j - 1, k + 1, A9, c9, _, by go_num, by omega, HD10, br10, bs10, hC10, hO10⟩
          case measure => simp [intOf]; omega)
      · obtain rfl : j = 0 := by omega
        have KR : ∀ i, wr.cell? ⟨w.heap.size, i, none⟩ = #[Value.slice none 0 0, .slice none 0 0][i]? := fun i => br.cell i
        have FR : ∀ i, wr.frozen? ⟨w.heap.size, i, none⟩ = false := fun i => br.frozen i
        go_wp2_with fail
        have ho5 : Only w.heap.size (w.heap.size + 1) wr ((wr.setCell ⟨w.heap.size, 0, none⟩ (.slice S m d')).setCell ⟨w.heap.size, 1, none⟩ (.slice U k d)) := ((Only.refl _ _ _).setCell (by simp) _).setCell (by simp) _
        have hB5 : Below w.heap.size wr ((wr.setCell ⟨w.heap.size, 0, none⟩ (.slice S m d')).setCell ⟨w.heap.size, 1, none⟩ (.slice U k d)) := ho5.below (Nat.le_refl _) (by omega)
        have hSU : 0 < m → ∀ a, S = some a → blk U ≠ some a.block := fun h0 a ha e => by
          have h1 := hR2.lt h0 a ha
          obtain ⟨_, vs, h2, _⟩ := HD.out
          have := (h2.lt a.block (by rw [blk_own]; exact e)).1
          omega
        exact bodyPost_ret (v := .agg #[.slice S m d', .slice U k d]) (by simp [results, Try.results29, go_sem, KR]) rfl ⟨S, m, d', xs, U, k, d, x, rfl, (hR2.up hO (by omega)).up ho5 (Nat.le_refl _), by omega, (HD.out.up ho5 (by omega)).base (by omega), by omega, hSU, hC.belowB hB5 (by omega), (hOa.trans hO).thenB hB5 (Nat.le_refl _)⟩
  · go_wp2_with fail
    refine (l1Below_any cb A n c 7 w1 hC1 (by omega)).mono ?_
    rintro e w2 ⟨q, rfl, hq0, hq1, _, hC2, ho2⟩
    have hq3 := hq1 (by omega)
    have br2 := br1.only ho2 (Or.inr (by omega))
    have hO2 := hO1.trans ho2
    have hs2 := br2.lt
    clear hC1 ho2 br1 hO1 hq1
    go_wp2_with fail
    refine (l6Known_any q hq0 hq3 w2).mono ?_
    rintro e w3 ⟨S, m, d', xs, U, k, d, x, rfl, hS, hm, hD, hk, hSU, hb3⟩
    have br3 := br2.below hb3
    have hO3 := hO2.thenB hb3 (by omega)
    have hC3 := hC2.below hb3
    have HS := Lib.hid (hS.base (B' := w.heap.size + 1) (by omega))
    have HD := Lib.hid (hD.base (B' := w.heap.size + 1) (by omega))
    have KR : ∀ i, w3.cell? ⟨w.heap.size, i, none⟩ = #[Value.slice none 0 0, .slice none 0 0][i]? := fun i => br3.cell i
    have FR : ∀ i, w3.frozen? ⟨w.heap.size, i, none⟩ = false := fun i => br3.frozen i
    clear br2 hO2 hC2 hb3 hS hD
    go_wp2_with fail
    have ho5 : Only w.heap.size (w.heap.size + 1) w3 ((w3.setCell ⟨w.heap.size, 0, none⟩ (.slice S m d')).setCell ⟨w.heap.size, 1, none⟩ (.slice U k d)) := ((Only.refl _ _ _).setCell (by simp) _).setCell (by simp) _
    have hB5 : Below w.heap.size w3 ((w3.setCell ⟨w.heap.size, 0, none⟩ (.slice S m d')).setCell ⟨w.heap.size, 1, none⟩ (.slice U k d)) := ho5.below (Nat.le_refl _) (by have := br3.lt; omega)
    exact bodyPost_ret (v := .agg #[.slice S m d', .slice U k d]) (by simp [results, Try.results29, go_sem, KR]) rfl ⟨S, m, d', xs, U, k, d, x, rfl, HS.out.up ho5 (Nat.le_refl _), hm, HD.out.up ho5 (Nat.le_refl _), hk, hSU, hC3.belowB hB5 (by omega), hO3.thenB hB5 (Nat.le_refl _)⟩
end Go.Proofs.Ytaeilbpgpchciaa
