/- Contracts: drawn rules and systems. -/
import Derived.Test.YtlcchafcgidpeaaGreatDoorDrawU
import Derived.Test.YtlcchafcgidpeaaGreatDoorHas
import Derived.Test.YtlcchafcgidpeaaGreatDoorSub
import Derived.Test.YtlcchafcgidpeaaGreatDoorRenum
import Derived.Test.YtlcchafcgidpeaaGreatDoorSys
namespace Go.Proofs.YtlcchafcgidpeaaGreatDoor
open Go.RowKit
set_option linter.unusedVariables false
set_option linter.unusedSimpArgs false

theorem oi_cap {w : World} {B : Nat} {A : Option Addr} {n c : Nat} {xs : List Int} (h : OI w B A n c xs) : n ≤ c ∧ c ≤ 9223372036854775807 := by
  obtain ⟨A3, c3, hv, hcap, hmx⟩ := own_form h
  unfold maxLen at hmx
  have : c = c3 := by simp at hv; exact hv.2
  omega
theorem oi_addr {w : World} {B : Nat} {A : Option Addr} {n c : Nat} {xs : List Int} (h : OI w B A n c xs) (hn : 0 < n) : ∃ g, A = some ⟨g, 0, none⟩ ∧ B ≤ g := by
  rcases h.2 with ⟨_, h0⟩ | ⟨g, cap, cur, hv, hB, _⟩
  · omega
  · have hA : A = some ⟨g, 0, none⟩ := by injection hv
    exact ⟨g, hA, hB⟩
set_option maxHeartbeats 8000000 in
set_option maxRecDepth 20000 in
theorem l6DrawRule_any (cb : Nat) (A : Option Addr) (n c : Nat) (S : Option Addr) (m d' : Nat) (xs : List Int) (hsg : Pl.sigOk xs = true) (w : World) (h : Dcur w cb A n c) (hr : RB w (cb + 1) S m xs) :
    Calls Tryz.prog 45 #[.pointer (some ⟨cb, 0, none⟩), .agg #[.slice S m d']] w fun e w' => ∃ (P : Option Addr) (p p' : Nat) (l : List Int) (Q : Option Addr) (q q' : Nat) (r : List Int), e = .returned (.agg #[.slice P p p', .slice Q q q']) ∧ RB w' w.heap.size P p l ∧ p ≤ 60 ∧ (p ≤ p' ∧ p' ≤ 9223372036854775807) ∧ RB w' w.heap.size Q q r ∧ q ≤ 60 ∧ (q ≤ q' ∧ q' ≤ 9223372036854775807) ∧ Dcur w' cb A n c ∧ Only cb (cb + 1) w w' := by
  have hlt := h.lt
  have hsl := (Pl.sigOk_iff.1 hsg).1
  have hml := hr.1.1
  obtain ⟨i0, hi, hz0, hz1, hz2⟩ := info_parts infoInt64
  have hO := ((Only.refl cb (cb + 1) w).alloc (.cells #[.slice S m d'] 26)).alloc (.cells #[.slice none 0 0, .slice none 0 0] 30)
  have hC := (h.alloc (.cells #[.slice S m d'] 26)).alloc (.cells #[.slice none 0 0, .slice none 0 0] 30)
  have bx := (Blk.new w 26 #[.slice S m d']).alloc (.cells #[.slice none 0 0, .slice none 0 0] 30)
  have br : Blk ((w.alloc (.cells #[.slice S m d'] 26)).alloc (.cells #[.slice none 0 0, .slice none 0 0] 30)) (w.heap.size + 1) 30 #[.slice none 0 0, .slice none 0 0] := by
    have := Blk.new (w.alloc (.cells #[.slice S m d'] 26)) 30 #[.slice none 0 0, .slice none 0 0]
    simpa only [World.size_alloc] using this
  have hsz : ((w.alloc (.cells #[.slice S m d'] 26)).alloc (.cells #[.slice none 0 0, .slice none 0 0] 30)).heap.size = w.heap.size + 1 + 1 := by simp
  have KX : ∀ i, ((w.alloc (.cells #[.slice S m d'] 26)).alloc (.cells #[.slice none 0 0, .slice none 0 0] 30)).cell? ⟨w.heap.size, i, none⟩ = #[Value.slice S m d'][i]? := fun i => bx.cell i
  go_enter Tryz.func45, Tryz.ntmps45
  go_wp2_with fail
  generalize (w.alloc (.cells #[.slice S m d'] 26)).alloc (.cells #[.slice none 0 0, .slice none 0 0] 30) = W0 at *
  have hR : RB W0 (cb + 1) S m xs := hr.up hO (Nat.le_refl _)
  go_region_law (first
    | (go_simp; go_at_call 47; refine (l1Below_any cb A n c 2 _ ?_ (by omega)).mono ?_; (first | exact hC | exact hC.drew); rintro e w1 ⟨y, rfl, hq0, hq1, _, hC1, ho1⟩; have bx1 := bx.only (Only.drewL ho1) (Or.inr (by omega)); have KX1 : ∀ i, w1.cell? ⟨w.heap.size, i, none⟩ = #[Value.slice S m d'][i]? := fun i => bx1.cell i; have hq3 := hq1 (by omega); have hw : IntKind.i64.wrap (2 + y) ≤ 3 := (by rw [IntKind.wrap_i64]; omega); have hR1 := hR.up (Only.drewL ho1) (Nat.le_refl _))
    | (go_simp; go_at_call 70; refine (l1DrawTerm_any cb A n c S m d' xs hsg 2 (by omega) (by omega) 2 (IntKind.i64.wrap (2 + y)) w1 (by omega) (by omega) hC1 hR1).mono ?_; rintro e w2 ⟨P, p, p', l, rfl, hoL, hk1, hk2, hrun, hC2, ho2⟩))
  all_goals (
    have hO1 := hO.trans (Only.drewL ho1)
    have hO2 := hO1.trans ho2
    have bx2 := bx1.only ho2 (Or.inr (by omega))
    have br2 := (br.only (Only.drewL ho1) (Or.inr (by omega))).only ho2 (Or.inr (by omega))
    have hs1 := (Only.drewL ho1).size
    have hs2 := ho2.size
    have hp40 : p ≤ 40 := Nat.le_trans hk2 (by decide)
    have HL := Lib.hid (hoL.base (B' := w.heap.size + 1 + 1) (by omega))
    have hszb := br2.lt
    clear hoL ho1 ho2 hC hO hO1 bx bx1 br hR hR1 KX KX1 hC1 hk2 hw hq1
    obtain ⟨gl, rfl, hgl⟩ := oi_addr HL.out (by omega)
    obtain ⟨g, off, v, e9, hc, hv⟩ := HL.out.ri.at_ (k := 0) (by omega)
    simp only [Option.some.injEq, Addr.mk.injEq, and_true] at e9
    obtain ⟨rfl, rfl⟩ := e9
    simp only [Nat.add_zero] at hc
    by_cases hv0 : v < 0
    · have e0 : decide (v < 0) = true := by simpa using hv0
      clear hrun hv HL
      have KX : ∀ i, w2.cell? ⟨w.heap.size, i, none⟩ = #[Value.slice S m d'][i]? := fun i => bx2.cell i
      go_wp2_with fail
      refine (l1Below_any cb A n c (m : Int) w2 hC2 (by omega)).mono ?_
      rintro e w3 ⟨x, rfl, hx0, hx1, _, hC3, ho3⟩
      have hx3 := hx1 (by omega)
      obtain ⟨f, rfl⟩ : ∃ f : Nat, x = f := ⟨x.toNat, by omega⟩
      have bx3 := bx2.only ho3 (Or.inr (by omega))
      have br3 := br2.only ho3 (Or.inr (by omega))
      have hO3 := hO2.trans ho3
      have hs3 := br3.lt
      clear ho3 KX hC2 bx2 br2 hO2 hx1 hc
      have hR3 := hr.up hO3 (Nat.le_refl _)
      obtain ⟨gS, oS, a, rfl, hca, ha⟩ := hR3.1.at_ (k := f) (by omega)
      have ha3 : 0 ≤ a ∧ a ≤ 3 := (Pl.sigOk_iff.1 hsg).2 a (by rw [ha.out]; exact Pl.getD_mem (by omega))
      obtain ⟨ar, rfl⟩ : ∃ ar : Nat, a = ar := ⟨a.toNat, by omega⟩
      have HA := Lib.hid ((ari_sym (xs := xs) (x := f) (by omega)).trans ha.out.symm)
      clear ha
      have hgS := World.block_lt_of_cell? w3 _ hca
      simp only at hgS
      have KX2 : ∀ i, (w3.alloc (.cells #[.int .i64 f] 2)).cell? ⟨w.heap.size, i, none⟩ = #[Value.slice (some ⟨gS, oS, none⟩) m d'][i]? := fun i => (bx3.alloc _).cell i
      go_wp2_with fail
      have HI := Lib.hid ((OI.of_blk (xs := [(f : Int)]) (Blk.new w3 2 #[.int .i64 f]) (by show 1 ≤ 1048576; omega)).base (B' := w.heap.size + 1 + 1) (by omega))
      have bx4 := bx3.alloc (.cells #[.int .i64 f] 2)
      have br4 := br3.alloc (.cells #[.int .i64 f] 2)
      have hO4 := hO3.alloc (.cells #[.int .i64 f] 2)
      have hC4 := hC3.alloc (.cells #[.int .i64 f] 2)
      clear KX2 hca hgS bx3 br3 hO3 hC3 hR3
      generalize w3.alloc (.cells #[.int .i64 f] 2) = W4 at *
      go_loopw [5, 7] (fun u v wr => ∃ (k j : Nat) (T' : Option Addr) (d : Nat) (rest : List Int), v = .int .i64 k ∧ u = .slice T' (rest.length + 1) d ∧ k + j = ar ∧ Hid (OI wr (w.heap.size + 1 + 1) T' (rest.length + 1) d ((f : Int) :: rest)) ∧ Hid (Pl.run (Pl.ari xs) j rest = some rest.length) ∧ rest.length ≤ j ∧ Blk wr w.heap.size 26 #[.slice (some ⟨gS, oS, none⟩) m d'] ∧ Blk wr (w.heap.size + 1) 30 #[.slice none 0 0, .slice none 0 0] ∧ Dcur wr cb A n c ∧ Only cb (cb + 1) w wr) (fun _ v _ => (intOf v).toNat)
      case atStart => exact ⟨ar, 0, _, _, [], rfl, rfl, rfl, HI, Lib.hid (Pl.run_zero _ _), by simp, bx4, br4, hC4, hO4⟩
      case round =>
        clear HI bx4 br4 hC4 hO4
        obtain ⟨k, j, T', d, rest, rfl, rfl, hkj, ho, hrun, hrl, bx, br, hC, hO⟩ := hrel
        have KX : ∀ i, wr.cell? ⟨w.heap.size, i, none⟩ = #[Value.slice (some ⟨gS, oS, none⟩) m d'][i]? := fun i => bx.cell i
        have hsr := br.lt
        by_cases h0 : 0 < k
        · have hR := hr.up hO (Nat.le_refl _)
          go_wp2_with fail
          refine (l1DrawTerm_any cb A n c (some ⟨gS, oS, none⟩) m d' xs hsg 2 (by omega) (by omega) 0 1 wr (by omega) (by omega) hC hR).mono ?_
          rintro e w4 ⟨T, q, d4, t, rfl, hoT, hq1, hq2, hrunT, hC4, ho4⟩
          have hq2 : q ≤ 1 := hq2
          have howa := Lib.hid (ho.out.up ho4 (by omega))
          have hsz4 := ho4.size
          have hlt := hoT.ri.1
          go_wp2_with (at_builtin; refine wpList_append_any rfl _ _ 24 rfl (w.heap.size + 1 + 1) 2 i0 (.int .i64 0) 1 8 Tryz.underlying24 hi hz0 hz1 hz2 rfl (by omega) T' (rest.length + 1) d (((f : Int) :: rest).map (Value.int .i64)) rfl howa.out T q d4 (t.map (Value.int .i64)) rfl (Src.ints hoT.ri) (by unfold maxLen; omega) (by omega) (by omega) ?_; intro A2 c2 w5 ho5 hg5 hnil5)
          have hgb := grown_below hg5 howa.out (by omega)
          have he : (rest ++ t).length + 1 = rest.length + 1 + q := by rw [List.length_append]; omega
          have HI5 : Hid (OI w5 (w.heap.size + 1 + 1) A2 ((rest ++ t).length + 1) c2 ((f : Int) :: (rest ++ t))) := Lib.hid (by rw [he, ← List.cons_append]; unfold OI; rw [List.map_append]; exact ho5)
          have HR5 := Lib.hid (run_snoc hrun.out hrunT.out fun s h => run_app2 s h)
          have hle : (rest ++ t).length ≤ j + 1 := by rw [List.length_append]; omega
          have bx5 := (bx.only ho4 (Or.inr (by omega))).belowB hgb (by omega)
          have br5 := (br.only ho4 (Or.inr (by omega))).belowB hgb (by omega)
          have hC5 := hC4.belowB hgb (by omega)
          have hO5 := (hO.trans ho4).thenB hgb (by omega)
          clear hgb ho5 hg5 hnil5 howa ho hoT ho4 hC4 hR
          go_roundw
          case rel => exact ⟨k - 1, j + 1, A2, c2, rest ++ t, by go_num, by rw [he], by omega, HI5, HR5, hle, bx5, br5, hC5, hO5⟩
          case measure => simp [intOf]; omega
        · obtain rfl : k = 0 := by omega
          obtain rfl : j = ar := by omega
          clear KX
          obtain ⟨gl0, rfl, hgl2⟩ := oi_addr ho.out (by omega)
          have hlen60 : Hid (1 ≤ ((f : Int) :: rest).length ∧ ((f : Int) :: rest).length ≤ 60) := Lib.hid (by simp; omega)
          have HRN := Lib.hid (run_node HA.out hrun.out)
          obtain ⟨P9, hP9⟩ : ∃ P9, rest.length + 1 = P9 := ⟨_, rfl⟩
          rw [hP9] at ho ⊢
          have hp60 : P9 ≤ 60 ∧ 1 ≤ P9 := by omega
          generalize hL9 : (f : Int) :: rest = L9 at *
          clear hP9 hL9 hrun hrl hkj
          go_wp2_with fail
          have hRW : RB (wr) (cb + 1) (some ⟨gS, oS, none⟩) m xs := hr.up hO (Nat.le_refl _)
          have hsW := br.lt
          have KX : ∀ i, (wr).cell? ⟨w.heap.size, i, none⟩ = #[Value.slice (some ⟨gS, oS, none⟩) m d'][i]? := fun i => bx.cell i
          go_wp2_with fail
          go_region_law (first
            | (go_simp; go_at_call 47; refine (l1Below_any cb A n c 3 _ ?_ (by omega)).mono ?_; (first | exact hC | exact Dcur.drew hC); rintro e w3 ⟨z, rfl, hr0, hr1, _, hC3, ho3⟩; have bx3 := bx.only (Only.drewL ho3) (Or.inr (by omega)); have KX3 : ∀ i, w3.cell? ⟨w.heap.size, i, none⟩ = #[Value.slice (some ⟨gS, oS, none⟩) m d'][i]? := fun i => bx3.cell i; have hr3 := hr1 (by omega); have hw : IntKind.i64.wrap (1 + z) ≤ 3 := (by rw [IntKind.wrap_i64]; omega); have hR3 := hRW.up (Only.drewL ho3) (Nat.le_refl _))
            | (go_simp; go_at_call 70; refine (l1DrawTerm_any cb A n c (some ⟨gS, oS, none⟩) m d' xs hsg 2 (by omega) (by omega) 2 (IntKind.i64.wrap (1 + z)) w3 (by omega) (by omega) hC3 hR3).mono ?_; rintro e w4 ⟨Q, q, q', r0, rfl, hoQ, hk1, hk2, _, hC4, ho4⟩))
          all_goals (
            have hOw := (Only.drewL ho3).trans ho4
            have hs3 := (Only.drewL ho3).size
            have HL4 := Lib.hid (ho.out.up hOw (by omega))
            have hgl4 : Hid (gl0 < (wr).heap.size) := Lib.hid (ho.out.lt_ (b := gl0) rfl).2
            have bx4 := bx.only hOw (Or.inr (by omega))
            have br4 := br.only hOw (Or.inr (by omega))
            have hO4 := (hO).trans hOw
            have hq40 : q ≤ 40 := Nat.le_trans hk2 (by decide)
            obtain ⟨gq, rfl, hgq⟩ := oi_addr hoQ (by omega)
            have hne : gl0 ≠ gq := by have := hgl4.out; omega
            have hcq := oi_cap hoQ
            have hcl := oi_cap ho.out
            have HQ4 := Lib.hid (hoQ.base (B' := w.heap.size + 1 + 1) (by omega))
            have hO4s := hO4.size
            clear hoQ ho3 ho4 hOw hRW bx3 KX3 KX hw hR3 hC3 hr1 hk2 hgl4 hgq hs3
            go_wp2_with fail
            go_loopw [9] (fun v9 wr => ∃ (k : Nat) (r : List Int), v9 = .int .i64 k ∧ k ≤ q ∧ Hid (OI wr (w.heap.size + 1 + 1) (some ⟨gq, 0, none⟩) q q' r) ∧ Hid (OI wr (w.heap.size + 1 + 1) (some ⟨gl0, 0, none⟩) (P9) (d) (L9)) ∧ Blk wr w.heap.size 26 #[.slice (some ⟨gS, oS, none⟩) m d'] ∧ Blk wr (w.heap.size + 1) 30 #[.slice none 0 0, .slice none 0 0] ∧ Dcur wr cb A n c ∧ Only cb (cb + 1) w wr) (fun v9 _ => q - (intOf v9).toNat)
            case atStart => exact ⟨0, r0, rfl, Nat.zero_le _, HQ4, HL4, bx4, br4, hC4, hO4⟩
            case round =>
              clear HQ4 HL4 bx4 br4 hC4 hO4 hO4s
              obtain ⟨k, r, rfl, hkq, HQ, HL9, bx9, br9, hC9, hO9⟩ := hrel
              have hs9 := br9.lt
              have hlq := HQ.out.ri.1
              have hll := HL9.out.ri.1
              have KR : ∀ i, wr.cell? ⟨w.heap.size + 1, i, none⟩ = #[Value.slice none 0 0, .slice none 0 0][i]? := fun i => br9.cell i
              have FR : ∀ i, wr.frozen? ⟨w.heap.size + 1, i, none⟩ = false := fun i => br9.frozen i
              by_cases hlt : k < q
              · obtain ⟨g, off, v, e9, hc, _⟩ := HQ.out.ri.at_ (k := k) hlt
                simp only [Option.some.injEq, Addr.mk.injEq, and_true] at e9
                obtain ⟨rfl, rfl⟩ := e9
                simp only [Nat.zero_add] at hc
                by_cases hv0 : v < 0
                · have e0 : decide (v < 0) = true := by simpa using hv0
                  go_wp2_with fail
                  refine (l1Has_any _ (P9) (d) (L9) v wr HL9.out.ri (by omega)).mono ?_
                  rintro e w5 ⟨rfl, hb5⟩
                  have HQ5 := Lib.hid (HQ.out.below hb5)
                  have HL5 := Lib.hid (HL9.out.below hb5)
                  have bx5 := bx9.below hb5
                  have br5 := br9.below hb5
                  have hC5 := hC9.below hb5
                  have hO5 := hO9.thenB hb5 (by omega)
                  have hs5 := br5.lt
                  clear HQ HL9 bx9 br9 hC9 hO9 hb5 KR FR hc e0
                  cases hct : (L9).contains v
                  · clear hct
                    go_wp2_with fail
                    refine (l2Order_any _ (P9) (d) (L9) w5 HL5.out.ri (by omega)).mono ?_
                    rintro e w6 ⟨V, cv, rfl, hV, hb6⟩
                    have HQ6 := Lib.hid (HQ5.out.below hb6)
                    have HL6 := Lib.hid (HL5.out.below hb6)
                    have bx6 := bx5.below hb6
                    have br6 := br5.below hb6
                    have hC6 := hC5.below hb6
                    have hO6 := hO5.thenB hb6 (by have := hO5.size; omega)
                    have hs6 := br6.lt
                    clear HQ5 HL5 bx5 br5 hC5 hO5 hb6
                    generalize ord [] (L9) = o at *
                    by_cases h0 : o.length = 0
                    · rw [h0] at hV ⊢
                      clear h0 HQ6
                      obtain ⟨p0, hp0⟩ : ∃ p0, P9 = p0 + 1 := ⟨P9 - 1, by omega⟩
                      subst hp0
                      have KX6 : ∀ i, w6.cell? ⟨w.heap.size, i, none⟩ = #[Value.slice (some ⟨gS, oS, none⟩) m d'][i]? := fun i => bx6.cell i
                      have KR6 : ∀ i, w6.cell? ⟨w.heap.size + 1, i, none⟩ = #[Value.slice none 0 0, .slice none 0 0][i]? := fun i => br6.cell i
                      have hR6 := hr.up hO6 (Nat.le_refl _)
                      go_wp2_with fail
                      refine (l1Sub_any (some ⟨gS, oS, none⟩) m d' xs _ (p0 + 1) (d) (L9) p0 w6 hR6.1 HL6.out.ri (Pl.termOk_iff.2 ⟨hsg, hlen60.out, HRN.out⟩) (by omega) hcl.1 hcl.2 (by omega)).mono ?_
                      rintro e w7 ⟨A7, c7, rfl, h7, hb7⟩
                      have hs60 : (subL xs (L9) p0).length ≤ 60 := by
                        have := hlen60.out.2
                        unfold subL
                        rw [List.length_take, List.length_drop]
                        omega
                      generalize subL xs (L9) p0 = s7 at *
                      have HL7 := Lib.hid (HL6.out.below hb7)
                      have br7 := br6.below hb7
                      have hC7 := hC6.below hb7
                      have hO7 := hO6.thenB hb7 (by have := hO6.size; omega)
                      have hs7 := br7.lt
                      have hc7 := oi_cap h7
                      have H7 := Lib.hid (h7.base (B' := w.heap.size + 1 + 1) (by omega))
                      have KR7 : ∀ i, w7.cell? ⟨w.heap.size + 1, i, none⟩ = #[Value.slice none 0 0, .slice none 0 0][i]? := fun i => br7.cell i
                      have FR7 : ∀ i, w7.frozen? ⟨w.heap.size + 1, i, none⟩ = false := fun i => br7.frozen i
                      clear KX6 KR6 hR6 HL6 bx6 br6 hC6 hO6 hb7 h7
                      go_wp2_with fail
                      have ho5 : Only (w.heap.size + 1) (w.heap.size + 1 + 1) (w7) (((w7).setCell ⟨w.heap.size + 1, 0, none⟩ (.slice (some ⟨gl0, 0, none⟩) (p0 + 1) (d))).setCell ⟨w.heap.size + 1, 1, none⟩ (.slice (A7) (s7.length) (c7))) := ((Only.refl _ _ _).setCell (by simp) _).setCell (by simp) _
                      have hB5 : Below w.heap.size (w7) (((w7).setCell ⟨w.heap.size + 1, 0, none⟩ (.slice (some ⟨gl0, 0, none⟩) (p0 + 1) (d))).setCell ⟨w.heap.size + 1, 1, none⟩ (.slice (A7) (s7.length) (c7))) := ho5.below (by omega) (by omega)
                      refine bodyPost_ret (v := .agg #[.slice (some ⟨gl0, 0, none⟩) (p0 + 1) (d), .slice (A7) (s7.length) (c7)]) (by simp [results, Tryz.results45, go_sem, KR7]) rfl ⟨some ⟨gl0, 0, none⟩, p0 + 1, d, L9, A7, s7.length, c7, s7, rfl, ((HL7.out.rb).up ho5 (by omega)).base (by omega), by omega, hcl, ((H7.out.rb).up ho5 (by omega)).base (by omega), by omega, hc7, (hC7).belowB hB5 (by omega), (hO7).thenB hB5 (Nat.le_refl _)⟩
                    · obtain ⟨g6, off6, v6, rfl, hc6, _⟩ := hV.ri.at_ (k := 0) (by omega)
                      simp only [Nat.add_zero] at hc6
                      have hvl : (0 : Int) < o.length := by omega
                      have hf := World.ownsRow.frozenAt HQ6.out k
                      obtain ⟨vv, hcc⟩ := own_some HQ6.out (k := k) hlt
                      have hst := (World.ownsRow.stored HQ6.out k (.int .i64 v6)).1
                      rw [← List.map_set] at hst
                      have hqB : w.heap.size + 1 + 1 ≤ gq := (HQ6.out.lt_ (b := gq) rfl).1
                      have hBs : Below (w.heap.size + 1 + 1) w6 (w6.setCell ⟨gq, k, none⟩ (.int .i64 v6)) := (Below.refl _ w6).setCell (p := ⟨gq, k, none⟩) hqB (.int .i64 v6)
                      have HQ7 : Hid (OI (w6.setCell ⟨gq, k, none⟩ (.int .i64 v6)) (w.heap.size + 1 + 1) (some ⟨gq, 0, none⟩) q q' (r.set k v6)) := Lib.hid hst
                      have HL7 := Lib.hid (HL6.out.same fun b hb => Below.heap_setCell w6 ⟨gq, k, none⟩ (.int .i64 v6) b (fun e => by simp [blk] at hb e; omega))
                      have bx7 := bx6.belowB hBs (by omega)
                      have br7 := br6.belowB hBs (by omega)
                      have hC7 := hC6.belowB hBs (by omega)
                      have hO7 := hO6.thenB hBs (by omega)
                      clear HQ6 HL6 bx6 br6 hC6 hO6 hBs hst hqB hV
                      go_wp2_with fail
                      go_roundw
                      case rel => exact ⟨k + 1, r.set k v6, by go_num, by omega, HQ7, HL7, bx7, br7, hC7, hO7⟩
                      case measure => simp [intOf]; omega
                  · clear hct
                    go_wp2_with fail
                    go_roundw
                    case rel => exact ⟨k + 1, r, by go_num, by omega, HQ5, HL5, bx5, br5, hC5, hO5⟩
                    case measure => simp [intOf]; omega
                · have e0 : decide (v < 0) = false := by simpa using hv0
                  clear KR FR
                  go_wp2_with fail
                  go_roundw
                  case rel => exact ⟨k + 1, r, by go_num, by omega, HQ, HL9, bx9, br9, hC9, hO9⟩
                  case measure => simp [intOf]; omega
              · obtain rfl : k = q := by omega
                go_wp2_with fail
                have ho5 : Only (w.heap.size + 1) (w.heap.size + 1 + 1) (wr) (((wr).setCell ⟨w.heap.size + 1, 0, none⟩ (.slice (some ⟨gl0, 0, none⟩) (P9) (d))).setCell ⟨w.heap.size + 1, 1, none⟩ (.slice (some ⟨gq, 0, none⟩) (k) (q'))) := ((Only.refl _ _ _).setCell (by simp) _).setCell (by simp) _
                have hB5 : Below w.heap.size (wr) (((wr).setCell ⟨w.heap.size + 1, 0, none⟩ (.slice (some ⟨gl0, 0, none⟩) (P9) (d))).setCell ⟨w.heap.size + 1, 1, none⟩ (.slice (some ⟨gq, 0, none⟩) (k) (q'))) := ho5.below (by omega) (by omega)
                refine bodyPost_ret (v := .agg #[.slice (some ⟨gl0, 0, none⟩) (P9) (d), .slice (some ⟨gq, 0, none⟩) (k) (q')]) (by simp [results, Tryz.results45, go_sem, KR]) rfl ⟨some ⟨gl0, 0, none⟩, P9, d, L9, some ⟨gq, 0, none⟩, k, q', r, rfl, ((HL9.out.rb).up ho5 (by omega)).base (by omega), by omega, hcl, ((HQ.out.rb).up ho5 (by omega)).base (by omega), by omega, hcq, (hC9).belowB hB5 (by omega), (hO9).thenB hB5 (Nat.le_refl _)⟩
            )
    · have e0 : decide (v < 0) = false := by simpa using hv0
      clear hv
      obtain ⟨gl0, hgl0⟩ : ∃ gl0, gl0 = gl := ⟨_, rfl⟩
      subst hgl0
      have hp60 : p ≤ 60 := by omega
      have hlen60 : Hid (1 ≤ l.length ∧ l.length ≤ 60) := Lib.hid (by have := HL.out.ri.1; omega)
      have hRW : RB (w2) (cb + 1) (S) m xs := hr.up hO2 (Nat.le_refl _)
      have hsW := br2.lt
      have KX : ∀ i, (w2).cell? ⟨w.heap.size, i, none⟩ = #[Value.slice (S) m d'][i]? := fun i => bx2.cell i
      go_wp2_with fail
      go_region_law (first
        | (go_simp; go_at_call 47; refine (l1Below_any cb A n c 3 _ ?_ (by omega)).mono ?_; (first | exact hC2 | exact Dcur.drew hC2); rintro e w3 ⟨z, rfl, hr0, hr1, _, hC3, ho3⟩; have bx3 := bx2.only (Only.drewL ho3) (Or.inr (by omega)); have KX3 : ∀ i, w3.cell? ⟨w.heap.size, i, none⟩ = #[Value.slice (S) m d'][i]? := fun i => bx3.cell i; have hr3 := hr1 (by omega); have hw : IntKind.i64.wrap (1 + z) ≤ 3 := (by rw [IntKind.wrap_i64]; omega); have hR3 := hRW.up (Only.drewL ho3) (Nat.le_refl _))
        | (go_simp; go_at_call 70; refine (l1DrawTerm_any cb A n c (S) m d' xs hsg 2 (by omega) (by omega) 2 (IntKind.i64.wrap (1 + z)) w3 (by omega) (by omega) hC3 hR3).mono ?_; rintro e w4 ⟨Q, q, q', r0, rfl, hoQ, hk1, hk2, _, hC4, ho4⟩))
      all_goals (
        have hOw := (Only.drewL ho3).trans ho4
        have hs3 := (Only.drewL ho3).size
        have HL4 := Lib.hid (HL.out.up hOw (by omega))
        have hgl4 : Hid (gl0 < (w2).heap.size) := Lib.hid (HL.out.lt_ (b := gl0) rfl).2
        have bx4 := bx2.only hOw (Or.inr (by omega))
        have br4 := br2.only hOw (Or.inr (by omega))
        have hO4 := (hO2).trans hOw
        have hq40 : q ≤ 40 := Nat.le_trans hk2 (by decide)
        obtain ⟨gq, rfl, hgq⟩ := oi_addr hoQ (by omega)
        have hne : gl0 ≠ gq := by have := hgl4.out; omega
        have hcq := oi_cap hoQ
        have hcl := oi_cap HL.out
        have HQ4 := Lib.hid (hoQ.base (B' := w.heap.size + 1 + 1) (by omega))
        have hO4s := hO4.size
        clear hoQ ho3 ho4 hOw hRW bx3 KX3 KX hw hR3 hC3 hr1 hk2 hgl4 hgq hs3
        go_wp2_with fail
        go_loopw [9] (fun v9 wr => ∃ (k : Nat) (r : List Int), v9 = .int .i64 k ∧ k ≤ q ∧ Hid (OI wr (w.heap.size + 1 + 1) (some ⟨gq, 0, none⟩) q q' r) ∧ Hid (OI wr (w.heap.size + 1 + 1) (some ⟨gl0, 0, none⟩) (p) (p') (l)) ∧ Blk wr w.heap.size 26 #[.slice (S) m d'] ∧ Blk wr (w.heap.size + 1) 30 #[.slice none 0 0, .slice none 0 0] ∧ Dcur wr cb A n c ∧ Only cb (cb + 1) w wr) (fun v9 _ => q - (intOf v9).toNat)
        case atStart => exact ⟨0, r0, rfl, Nat.zero_le _, HQ4, HL4, bx4, br4, hC4, hO4⟩
        case round =>
          clear HQ4 HL4 bx4 br4 hC4 hO4 hO4s
          obtain ⟨k, r, rfl, hkq, HQ, HL9, bx9, br9, hC9, hO9⟩ := hrel
          have hs9 := br9.lt
          have hlq := HQ.out.ri.1
          have hll := HL9.out.ri.1
          have KR : ∀ i, wr.cell? ⟨w.heap.size + 1, i, none⟩ = #[Value.slice none 0 0, .slice none 0 0][i]? := fun i => br9.cell i
          have FR : ∀ i, wr.frozen? ⟨w.heap.size + 1, i, none⟩ = false := fun i => br9.frozen i
          by_cases hlt : k < q
          · obtain ⟨g, off, v, e9, hc, _⟩ := HQ.out.ri.at_ (k := k) hlt
            simp only [Option.some.injEq, Addr.mk.injEq, and_true] at e9
            obtain ⟨rfl, rfl⟩ := e9
            simp only [Nat.zero_add] at hc
            by_cases hv0 : v < 0
            · have e0 : decide (v < 0) = true := by simpa using hv0
              go_wp2_with fail
              refine (l1Has_any _ (p) (p') (l) v wr HL9.out.ri (by omega)).mono ?_
              rintro e w5 ⟨rfl, hb5⟩
              have HQ5 := Lib.hid (HQ.out.below hb5)
              have HL5 := Lib.hid (HL9.out.below hb5)
              have bx5 := bx9.below hb5
              have br5 := br9.below hb5
              have hC5 := hC9.below hb5
              have hO5 := hO9.thenB hb5 (by omega)
              have hs5 := br5.lt
              clear HQ HL9 bx9 br9 hC9 hO9 hb5 KR FR hc e0
              cases hct : (l).contains v
              · clear hct
                go_wp2_with fail
                refine (l2Order_any _ (p) (p') (l) w5 HL5.out.ri (by omega)).mono ?_
                rintro e w6 ⟨V, cv, rfl, hV, hb6⟩
                have HQ6 := Lib.hid (HQ5.out.below hb6)
                have HL6 := Lib.hid (HL5.out.below hb6)
                have bx6 := bx5.below hb6
                have br6 := br5.below hb6
                have hC6 := hC5.below hb6
                have hO6 := hO5.thenB hb6 (by have := hO5.size; omega)
                have hs6 := br6.lt
                clear HQ5 HL5 bx5 br5 hC5 hO5 hb6
                generalize ord [] (l) = o at *
                by_cases h0 : o.length = 0
                · rw [h0] at hV ⊢
                  clear h0 HQ6
                  obtain ⟨p0, hp0⟩ : ∃ p0, p = p0 + 1 := ⟨p - 1, by omega⟩
                  subst hp0
                  have KX6 : ∀ i, w6.cell? ⟨w.heap.size, i, none⟩ = #[Value.slice (S) m d'][i]? := fun i => bx6.cell i
                  have KR6 : ∀ i, w6.cell? ⟨w.heap.size + 1, i, none⟩ = #[Value.slice none 0 0, .slice none 0 0][i]? := fun i => br6.cell i
                  have hR6 := hr.up hO6 (Nat.le_refl _)
                  go_wp2_with fail
                  refine (l1Sub_any (S) m d' xs _ (p0 + 1) (p') (l) p0 w6 hR6.1 HL6.out.ri (Pl.termOk_iff.2 ⟨hsg, hlen60.out, hrun.out⟩) (by omega) hcl.1 hcl.2 (by omega)).mono ?_
                  rintro e w7 ⟨A7, c7, rfl, h7, hb7⟩
                  have hs60 : (subL xs (l) p0).length ≤ 60 := by
                    have := hlen60.out.2
                    unfold subL
                    rw [List.length_take, List.length_drop]
                    omega
                  generalize subL xs (l) p0 = s7 at *
                  have HL7 := Lib.hid (HL6.out.below hb7)
                  have br7 := br6.below hb7
                  have hC7 := hC6.below hb7
                  have hO7 := hO6.thenB hb7 (by have := hO6.size; omega)
                  have hs7 := br7.lt
                  have hc7 := oi_cap h7
                  have H7 := Lib.hid (h7.base (B' := w.heap.size + 1 + 1) (by omega))
                  have KR7 : ∀ i, w7.cell? ⟨w.heap.size + 1, i, none⟩ = #[Value.slice none 0 0, .slice none 0 0][i]? := fun i => br7.cell i
                  have FR7 : ∀ i, w7.frozen? ⟨w.heap.size + 1, i, none⟩ = false := fun i => br7.frozen i
                  clear KX6 KR6 hR6 HL6 bx6 br6 hC6 hO6 hb7 h7
                  go_wp2_with fail
                  have ho5 : Only (w.heap.size + 1) (w.heap.size + 1 + 1) (w7) (((w7).setCell ⟨w.heap.size + 1, 0, none⟩ (.slice (some ⟨gl0, 0, none⟩) (p0 + 1) (p'))).setCell ⟨w.heap.size + 1, 1, none⟩ (.slice (A7) (s7.length) (c7))) := ((Only.refl _ _ _).setCell (by simp) _).setCell (by simp) _
                  have hB5 : Below w.heap.size (w7) (((w7).setCell ⟨w.heap.size + 1, 0, none⟩ (.slice (some ⟨gl0, 0, none⟩) (p0 + 1) (p'))).setCell ⟨w.heap.size + 1, 1, none⟩ (.slice (A7) (s7.length) (c7))) := ho5.below (by omega) (by omega)
                  refine bodyPost_ret (v := .agg #[.slice (some ⟨gl0, 0, none⟩) (p0 + 1) (p'), .slice (A7) (s7.length) (c7)]) (by simp [results, Tryz.results45, go_sem, KR7]) rfl ⟨some ⟨gl0, 0, none⟩, p0 + 1, p', l, A7, s7.length, c7, s7, rfl, ((HL7.out.rb).up ho5 (by omega)).base (by omega), by omega, hcl, ((H7.out.rb).up ho5 (by omega)).base (by omega), by omega, hc7, (hC7).belowB hB5 (by omega), (hO7).thenB hB5 (Nat.le_refl _)⟩
                · obtain ⟨g6, off6, v6, rfl, hc6, _⟩ := hV.ri.at_ (k := 0) (by omega)
                  simp only [Nat.add_zero] at hc6
                  have hvl : (0 : Int) < o.length := by omega
                  have hf := World.ownsRow.frozenAt HQ6.out k
                  obtain ⟨vv, hcc⟩ := own_some HQ6.out (k := k) hlt
                  have hst := (World.ownsRow.stored HQ6.out k (.int .i64 v6)).1
                  rw [← List.map_set] at hst
                  have hqB : w.heap.size + 1 + 1 ≤ gq := (HQ6.out.lt_ (b := gq) rfl).1
                  have hBs : Below (w.heap.size + 1 + 1) w6 (w6.setCell ⟨gq, k, none⟩ (.int .i64 v6)) := (Below.refl _ w6).setCell (p := ⟨gq, k, none⟩) hqB (.int .i64 v6)
                  have HQ7 : Hid (OI (w6.setCell ⟨gq, k, none⟩ (.int .i64 v6)) (w.heap.size + 1 + 1) (some ⟨gq, 0, none⟩) q q' (r.set k v6)) := Lib.hid hst
                  have HL7 := Lib.hid (HL6.out.same fun b hb => Below.heap_setCell w6 ⟨gq, k, none⟩ (.int .i64 v6) b (fun e => by simp [blk] at hb e; omega))
                  have bx7 := bx6.belowB hBs (by omega)
                  have br7 := br6.belowB hBs (by omega)
                  have hC7 := hC6.belowB hBs (by omega)
                  have hO7 := hO6.thenB hBs (by omega)
                  clear HQ6 HL6 bx6 br6 hC6 hO6 hBs hst hqB hV
                  go_wp2_with fail
                  go_roundw
                  case rel => exact ⟨k + 1, r.set k v6, by go_num, by omega, HQ7, HL7, bx7, br7, hC7, hO7⟩
                  case measure => simp [intOf]; omega
              · clear hct
                go_wp2_with fail
                go_roundw
                case rel => exact ⟨k + 1, r, by go_num, by omega, HQ5, HL5, bx5, br5, hC5, hO5⟩
                case measure => simp [intOf]; omega
            · have e0 : decide (v < 0) = false := by simpa using hv0
              clear KR FR
              go_wp2_with fail
              go_roundw
              case rel => exact ⟨k + 1, r, by go_num, by omega, HQ, HL9, bx9, br9, hC9, hO9⟩
              case measure => simp [intOf]; omega
          · obtain rfl : k = q := by omega
            go_wp2_with fail
            have ho5 : Only (w.heap.size + 1) (w.heap.size + 1 + 1) (wr) (((wr).setCell ⟨w.heap.size + 1, 0, none⟩ (.slice (some ⟨gl0, 0, none⟩) (p) (p'))).setCell ⟨w.heap.size + 1, 1, none⟩ (.slice (some ⟨gq, 0, none⟩) (k) (q'))) := ((Only.refl _ _ _).setCell (by simp) _).setCell (by simp) _
            have hB5 : Below w.heap.size (wr) (((wr).setCell ⟨w.heap.size + 1, 0, none⟩ (.slice (some ⟨gl0, 0, none⟩) (p) (p'))).setCell ⟨w.heap.size + 1, 1, none⟩ (.slice (some ⟨gq, 0, none⟩) (k) (q'))) := ho5.below (by omega) (by omega)
            refine bodyPost_ret (v := .agg #[.slice (some ⟨gl0, 0, none⟩) (p) (p'), .slice (some ⟨gq, 0, none⟩) (k) (q')]) (by simp [results, Tryz.results45, go_sem, KR]) rfl ⟨some ⟨gl0, 0, none⟩, p, p', l, some ⟨gq, 0, none⟩, k, q', r, rfl, ((HL9.out.rb).up ho5 (by omega)).base (by omega), by omega, hcl, ((HQ.out.rb).up ho5 (by omega)).base (by omega), by omega, hcq, (hC9).belowB hB5 (by omega), (hO9).thenB hB5 (Nat.le_refl _)⟩
        )
      )
end Go.Proofs.YtlcchafcgidpeaaGreatDoor
