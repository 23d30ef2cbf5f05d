/- Contracts: the peak of two rules at a place, the program's way: the arguments tried. -/
import Derived.Test.YtcjgcopkeeiicaaPkI
namespace Go.Proofs.Ytcjgcopkeeiicaa
open Go.RowKit
set_option linter.unusedVariables false
set_option linter.unusedSimpArgs false

theorem peakAt_val {xs : List Int} {x : List (List Int × List Int)} {over under q : Nat} {l r l2 r2 : List Int} (hS : systemOk xs x = true) (h1 : over < x.length) (h2 : under < x.length) (hl : (l, r) = x.getD over ([], [])) (hl2 : (l2, r2) = x.getD under ([], [])) (hq : q < l.length) :
    V_PeakAt xs x over q under = if ovB xs l l2 (decide (over = under)) q then pkAt (Pl.nxt xs) l r l2 r2 q else pkNo := by
  cases h : ovB xs l l2 (decide (over = under)) q
  · rw [peakAt_no2 hl hl2 (by rw [Int.toNat_natCast, h, Bool.and_false])]; rfl
  · rw [peakAt_yes hS h1 h2 hl hl2 hq h]; rfl
theorem inB_nat {p : Int} {m : Nat} (h : inB p 0 ((m : Int) - 1) = true) : ∃ k : Nat, p = k ∧ k < m := by
  have := inB_true h
  exact ⟨p.toNat, by omega, by omega⟩
set_option maxHeartbeats 4000000 in
set_option maxRecDepth 20000 in
theorem I_PeakAt (A : Option Addr) (n c : Nat) (xs : List Int) (B : Option Addr) (m d : Nat) (x : List (List Int × List Int)) (p q j : Int) (w : World) (h : RI w A n xs) (h' : RU w B m x) (hs : n + wtU x ≤ 1048576) :
    Calls Try.prog 15 #[.agg #[.slice A n c, .slice B m d], .int .i64 p, .int .i64 q, .int .i64 j] w (PkR w (V_PeakAt xs x p q j) q j p) := by
  have hlm := h'.1
  have hB0 : Below w.heap.size w ((w.alloc (.cells #[.slice A n c, .slice B m d] 33)).alloc (.cells #[.slice none 0 0, .slice none 0 0, .slice none 0 0, .int .i64 0, .int .i64 0, .int .i64 0] 41)) := ((Below.refl _ _).alloc (Nat.le_refl _) _).alloc (by simp) _
  have bkS : Blk ((w.alloc (.cells #[.slice A n c, .slice B m d] 33)).alloc (.cells #[.slice none 0 0, .slice none 0 0, .slice none 0 0, .int .i64 0, .int .i64 0, .int .i64 0] 41)) w.heap.size 33 #[.slice A n c, .slice B m d] := (Blk.new w _ _).alloc _
  have bkP : Blk ((w.alloc (.cells #[.slice A n c, .slice B m d] 33)).alloc (.cells #[.slice none 0 0, .slice none 0 0, .slice none 0 0, .int .i64 0, .int .i64 0, .int .i64 0] 41)) (w.heap.size + 1) 41 #[.slice none 0 0, .slice none 0 0, .slice none 0 0, .int .i64 0, .int .i64 0, .int .i64 0] := by
    have := Blk.new (w.alloc (.cells #[.slice A n c, .slice B m d] 33)) 41 #[.slice none 0 0, .slice none 0 0, .slice none 0 0, .int .i64 0, .int .i64 0, .int .i64 0]
    simpa only [World.size_alloc] using this
  obtain ⟨V, hV⟩ : ∃ V, V_PeakAt xs x p q j = V := ⟨_, rfl⟩
  have HV := Lib.hid hV
  rw [hV]
  clear hV
  go_enter Try.func15, Try.ntmps15
  go_wp2_with fail
  generalize (w.alloc (.cells #[.slice A n c, .slice B m d] 33)).alloc (.cells #[.slice none 0 0, .slice none 0 0, .slice none 0 0, .int .i64 0, .int .i64 0, .int .i64 0] 41) = W0 at *
  refine (implSystemOk_any A n c xs B m d x _ (h.below hB0) (h'.below hB0) hs).mono ?_
  rintro e w1 ⟨rfl, hb1⟩
  have bkS_ := bkS.below hb1
  have bkP_ := bkP.below hb1
  have hB_ := below_then hB0 hb1 hB0.size
  clear hb1 bkS bkP hB0
  (try clear b0 b1)
  have bkS := bkS_
  have bkP := bkP_
  have hB := hB_
  clear bkS_ bkP_ hB_
  have b0 := bkS.cell 0
  have b1 := bkS.cell 1
  simp only [List.getElem?_toArray, List.getElem?_cons_zero, List.getElem?_cons_succ] at b0 b1
  cases hS : systemOk xs x
  · obtain rfl : pkNo = V := by rw [← HV.out, peakAt_no (by rw [hS]; rfl)]
    clear bkS
    have K0 : w1.cell? ⟨w.heap.size + 1, 0, none⟩ = some (.slice none 0 0) := by simpa using bkP.cell 0
    have K1 : w1.cell? ⟨w.heap.size + 1, 1, none⟩ = some (.slice none 0 0) := by simpa using bkP.cell 1
    have K2 : w1.cell? ⟨w.heap.size + 1, 2, none⟩ = some (.slice none 0 0) := by simpa using bkP.cell 2
    have K3 : w1.cell? ⟨w.heap.size + 1, 3, none⟩ = some (.int .i64 0) := by simpa using bkP.cell 3
    have K4 : w1.cell? ⟨w.heap.size + 1, 4, none⟩ = some (.int .i64 0) := by simpa using bkP.cell 4
    have K5 : w1.cell? ⟨w.heap.size + 1, 5, none⟩ = some (.int .i64 0) := by simpa using bkP.cell 5
    have F0 : w1.frozen? ⟨w.heap.size + 1, 0, none⟩ = false := bkP.frozen 0
    have F1 : w1.frozen? ⟨w.heap.size + 1, 1, none⟩ = false := bkP.frozen 1
    have F2 : w1.frozen? ⟨w.heap.size + 1, 2, none⟩ = false := bkP.frozen 2
    have F3 : w1.frozen? ⟨w.heap.size + 1, 3, none⟩ = false := bkP.frozen 3
    have F4 : w1.frozen? ⟨w.heap.size + 1, 4, none⟩ = false := bkP.frozen 4
    have F5 : w1.frozen? ⟨w.heap.size + 1, 5, none⟩ = false := bkP.frozen 5
    have hlt := bkP.lt
    have HK := Lib.hid (blk6 (a' := .slice none 0 0) (b' := .slice none 0 0) (c' := .slice none 0 0) (d' := .int .i64 0) (e' := .int .i64 0) (f' := .int .i64 0) bkP)
    have E3 := below6 (P := w.heap.size + 1) (a := .slice none 0 0) (b := .slice none 0 0) (c := .slice none 0 0) (d := .int .i64 0) (e := .int .i64 0) (f := .int .i64 0) hB (by omega)
    clear bkP hB
    go_wp2_with fail
    have K6 : ∀ i, ((World.setCell (World.setCell (World.setCell (World.setCell (World.setCell (World.setCell w1 ⟨(w.heap.size + 1), 0, none⟩ (.slice none 0 0)) ⟨(w.heap.size + 1), 1, none⟩ (.slice none 0 0)) ⟨(w.heap.size + 1), 2, none⟩ (.slice none 0 0)) ⟨(w.heap.size + 1), 3, none⟩ (.int .i64 0)) ⟨(w.heap.size + 1), 4, none⟩ (.int .i64 0)) ⟨(w.heap.size + 1), 5, none⟩ (.int .i64 0))).cell? ⟨w.heap.size + 1, i, none⟩ = #[.slice none 0 0, .slice none 0 0, .slice none 0 0, .int .i64 0, .int .i64 0, .int .i64 0][i]? := fun i => HK.out.cell i
    generalize (World.setCell (World.setCell (World.setCell (World.setCell (World.setCell (World.setCell w1 ⟨(w.heap.size + 1), 0, none⟩ (.slice none 0 0)) ⟨(w.heap.size + 1), 1, none⟩ (.slice none 0 0)) ⟨(w.heap.size + 1), 2, none⟩ (.slice none 0 0)) ⟨(w.heap.size + 1), 3, none⟩ (.int .i64 0)) ⟨(w.heap.size + 1), 4, none⟩ (.int .i64 0)) ⟨(w.heap.size + 1), 5, none⟩ (.int .i64 0)) = W9 at *
    exact bodyPost_ret (v := .tuple #[.agg #[.slice none 0 0, .slice none 0 0, .slice none 0 0, .int .i64 0, .int .i64 0, .int .i64 0], .bool false]) (by simp [results, Try.results15, go_sem, K6]) rfl (pkR_no E3)
  · replace hS := Lib.hid hS
    go_wp2_with fail
    refine (ruleIn_any A n c B m d p w1).mono ?_
    rintro e w2 ⟨rfl, hb2⟩
    have bkS_ := bkS.below hb2
    have bkP_ := bkP.below hb2
    have hB_ := below_then hB hb2 hB.size
    clear hb2 bkS bkP hB
    (try clear b0 b1)
    have bkS := bkS_
    have bkP := bkP_
    have hB := hB_
    clear bkS_ bkP_ hB_
    have b0 := bkS.cell 0
    have b1 := bkS.cell 1
    simp only [List.getElem?_toArray, List.getElem?_cons_zero, List.getElem?_cons_succ] at b0 b1
    cases hp : inB p 0 ((m : Int) - 1)
    · obtain rfl : pkNo = V := by rw [← HV.out, peakAt_no (by rw [hS.out, hlm, hp]; rfl)]
      clear bkS
      have K0 : w2.cell? ⟨w.heap.size + 1, 0, none⟩ = some (.slice none 0 0) := by simpa using bkP.cell 0
      have K1 : w2.cell? ⟨w.heap.size + 1, 1, none⟩ = some (.slice none 0 0) := by simpa using bkP.cell 1
      have K2 : w2.cell? ⟨w.heap.size + 1, 2, none⟩ = some (.slice none 0 0) := by simpa using bkP.cell 2
      have K3 : w2.cell? ⟨w.heap.size + 1, 3, none⟩ = some (.int .i64 0) := by simpa using bkP.cell 3
      have K4 : w2.cell? ⟨w.heap.size + 1, 4, none⟩ = some (.int .i64 0) := by simpa using bkP.cell 4
      have K5 : w2.cell? ⟨w.heap.size + 1, 5, none⟩ = some (.int .i64 0) := by simpa using bkP.cell 5
      have F0 : w2.frozen? ⟨w.heap.size + 1, 0, none⟩ = false := bkP.frozen 0
      have F1 : w2.frozen? ⟨w.heap.size + 1, 1, none⟩ = false := bkP.frozen 1
      have F2 : w2.frozen? ⟨w.heap.size + 1, 2, none⟩ = false := bkP.frozen 2
      have F3 : w2.frozen? ⟨w.heap.size + 1, 3, none⟩ = false := bkP.frozen 3
      have F4 : w2.frozen? ⟨w.heap.size + 1, 4, none⟩ = false := bkP.frozen 4
      have F5 : w2.frozen? ⟨w.heap.size + 1, 5, none⟩ = false := bkP.frozen 5
      have hlt := bkP.lt
      have HK := Lib.hid (blk6 (a' := .slice none 0 0) (b' := .slice none 0 0) (c' := .slice none 0 0) (d' := .int .i64 0) (e' := .int .i64 0) (f' := .int .i64 0) bkP)
      have E3 := below6 (P := w.heap.size + 1) (a := .slice none 0 0) (b := .slice none 0 0) (c := .slice none 0 0) (d := .int .i64 0) (e := .int .i64 0) (f := .int .i64 0) hB (by omega)
      clear bkP hB
      go_wp2_with fail
      have K6 : ∀ i, ((World.setCell (World.setCell (World.setCell (World.setCell (World.setCell (World.setCell w2 ⟨(w.heap.size + 1), 0, none⟩ (.slice none 0 0)) ⟨(w.heap.size + 1), 1, none⟩ (.slice none 0 0)) ⟨(w.heap.size + 1), 2, none⟩ (.slice none 0 0)) ⟨(w.heap.size + 1), 3, none⟩ (.int .i64 0)) ⟨(w.heap.size + 1), 4, none⟩ (.int .i64 0)) ⟨(w.heap.size + 1), 5, none⟩ (.int .i64 0))).cell? ⟨w.heap.size + 1, i, none⟩ = #[.slice none 0 0, .slice none 0 0, .slice none 0 0, .int .i64 0, .int .i64 0, .int .i64 0][i]? := fun i => HK.out.cell i
      generalize (World.setCell (World.setCell (World.setCell (World.setCell (World.setCell (World.setCell w2 ⟨(w.heap.size + 1), 0, none⟩ (.slice none 0 0)) ⟨(w.heap.size + 1), 1, none⟩ (.slice none 0 0)) ⟨(w.heap.size + 1), 2, none⟩ (.slice none 0 0)) ⟨(w.heap.size + 1), 3, none⟩ (.int .i64 0)) ⟨(w.heap.size + 1), 4, none⟩ (.int .i64 0)) ⟨(w.heap.size + 1), 5, none⟩ (.int .i64 0)) = W9 at *
      exact bodyPost_ret (v := .tuple #[.agg #[.slice none 0 0, .slice none 0 0, .slice none 0 0, .int .i64 0, .int .i64 0, .int .i64 0], .bool false]) (by simp [results, Try.results15, go_sem, K6]) rfl (pkR_no E3)
    · obtain ⟨over, rfl, hov⟩ := inB_nat hp
      clear hp
      go_wp2_with fail
      refine (ruleIn_any A n c B m d j w2).mono ?_
      rintro e w3 ⟨rfl, hb3⟩
      have bkS_ := bkS.below hb3
      have bkP_ := bkP.below hb3
      have hB_ := below_then hB hb3 hB.size
      clear hb3 bkS bkP hB
      (try clear b0 b1)
      have bkS := bkS_
      have bkP := bkP_
      have hB := hB_
      clear bkS_ bkP_ hB_
      have b0 := bkS.cell 0
      have b1 := bkS.cell 1
      simp only [List.getElem?_toArray, List.getElem?_cons_zero, List.getElem?_cons_succ] at b0 b1
      cases hj : inB j 0 ((m : Int) - 1)
      · obtain rfl : pkNo = V := by rw [← HV.out, peakAt_no (by rw [hS.out, hlm, inB_mk (by omega), hj]; rfl)]
        clear bkS
        have K0 : w3.cell? ⟨w.heap.size + 1, 0, none⟩ = some (.slice none 0 0) := by simpa using bkP.cell 0
        have K1 : w3.cell? ⟨w.heap.size + 1, 1, none⟩ = some (.slice none 0 0) := by simpa using bkP.cell 1
        have K2 : w3.cell? ⟨w.heap.size + 1, 2, none⟩ = some (.slice none 0 0) := by simpa using bkP.cell 2
        have K3 : w3.cell? ⟨w.heap.size + 1, 3, none⟩ = some (.int .i64 0) := by simpa using bkP.cell 3
        have K4 : w3.cell? ⟨w.heap.size + 1, 4, none⟩ = some (.int .i64 0) := by simpa using bkP.cell 4
        have K5 : w3.cell? ⟨w.heap.size + 1, 5, none⟩ = some (.int .i64 0) := by simpa using bkP.cell 5
        have F0 : w3.frozen? ⟨w.heap.size + 1, 0, none⟩ = false := bkP.frozen 0
        have F1 : w3.frozen? ⟨w.heap.size + 1, 1, none⟩ = false := bkP.frozen 1
        have F2 : w3.frozen? ⟨w.heap.size + 1, 2, none⟩ = false := bkP.frozen 2
        have F3 : w3.frozen? ⟨w.heap.size + 1, 3, none⟩ = false := bkP.frozen 3
        have F4 : w3.frozen? ⟨w.heap.size + 1, 4, none⟩ = false := bkP.frozen 4
        have F5 : w3.frozen? ⟨w.heap.size + 1, 5, none⟩ = false := bkP.frozen 5
        have hlt := bkP.lt
        have HK := Lib.hid (blk6 (a' := .slice none 0 0) (b' := .slice none 0 0) (c' := .slice none 0 0) (d' := .int .i64 0) (e' := .int .i64 0) (f' := .int .i64 0) bkP)
        have E3 := below6 (P := w.heap.size + 1) (a := .slice none 0 0) (b := .slice none 0 0) (c := .slice none 0 0) (d := .int .i64 0) (e := .int .i64 0) (f := .int .i64 0) hB (by omega)
        clear bkP hB
        go_wp2_with fail
        have K6 : ∀ i, ((World.setCell (World.setCell (World.setCell (World.setCell (World.setCell (World.setCell w3 ⟨(w.heap.size + 1), 0, none⟩ (.slice none 0 0)) ⟨(w.heap.size + 1), 1, none⟩ (.slice none 0 0)) ⟨(w.heap.size + 1), 2, none⟩ (.slice none 0 0)) ⟨(w.heap.size + 1), 3, none⟩ (.int .i64 0)) ⟨(w.heap.size + 1), 4, none⟩ (.int .i64 0)) ⟨(w.heap.size + 1), 5, none⟩ (.int .i64 0))).cell? ⟨w.heap.size + 1, i, none⟩ = #[.slice none 0 0, .slice none 0 0, .slice none 0 0, .int .i64 0, .int .i64 0, .int .i64 0][i]? := fun i => HK.out.cell i
        generalize (World.setCell (World.setCell (World.setCell (World.setCell (World.setCell (World.setCell w3 ⟨(w.heap.size + 1), 0, none⟩ (.slice none 0 0)) ⟨(w.heap.size + 1), 1, none⟩ (.slice none 0 0)) ⟨(w.heap.size + 1), 2, none⟩ (.slice none 0 0)) ⟨(w.heap.size + 1), 3, none⟩ (.int .i64 0)) ⟨(w.heap.size + 1), 4, none⟩ (.int .i64 0)) ⟨(w.heap.size + 1), 5, none⟩ (.int .i64 0)) = W9 at *
        exact bodyPost_ret (v := .tuple #[.agg #[.slice none 0 0, .slice none 0 0, .slice none 0 0, .int .i64 0, .int .i64 0, .int .i64 0], .bool false]) (by simp [results, Try.results15, go_sem, K6]) rfl (pkR_no E3)
      · obtain ⟨under, rfl, hun⟩ := inB_nat hj
        clear hj
        obtain ⟨l, r, hl⟩ : ∃ l r, (l, r) = x.getD over ([], []) := ⟨_, _, rfl⟩
        obtain ⟨l2, r2, hl2⟩ : ∃ l2 r2, (l2, r2) = x.getD under ([], []) := ⟨_, _, rfl⟩
        have R1 := Lib.hid (sys_rule hS.out (by omega) hl)
        have R2 := Lib.hid (sys_rule hS.out (by omega) hl2)
        have HQ := Lib.hid (fun (hh : (inB q 0 ((l.length : Int) - 1) && ovB xs l l2 (decide (over = under)) q.toNat) = false) => (peakAt_no2 (q := q) hl hl2 hh).symm.trans HV.out)
        have HW := Lib.hid (fun (k : Nat) (e : q = k) (hk : k < l.length) => by have := peakAt_val (q := k) hS.out (by omega) (by omega) hl hl2 hk; rw [← e] at this; exact this.symm.trans HV.out)
        have HL := Lib.hid hl
        have HL2 := Lib.hid hl2
        have h0' := h'
        obtain ⟨g, off, rfl, hcs⟩ := h'.2 (by omega)
        obtain ⟨L, ml, dl, R, mr, dr, hcl, hcr, hL, hR, hld, hld2, hrd, hrd2⟩ := hcs over hov
        rw [← hl] at hL
        dsimp only at hL
        have hll := hL.1
        have i0 : (0 : Int) ≤ (over : Int) := by omega
        have i1 : (over : Int) < (m : Int) := by omega
        have d0 := keepC hB hcl
        have HCS := Lib.hid hcs
        have hsg := Lib.hid (systemOk_iff.1 hS.out).1
        clear hcs hl hl2 hcr hR
        by_cases hq0 : q < 0
        · obtain rfl : pkNo = V := HQ.out (by rw [inB_no (by omega)]; rfl)
          clear bkS
          have K0 : w3.cell? ⟨w.heap.size + 1, 0, none⟩ = some (.slice none 0 0) := by simpa using bkP.cell 0
          have K1 : w3.cell? ⟨w.heap.size + 1, 1, none⟩ = some (.slice none 0 0) := by simpa using bkP.cell 1
          have K2 : w3.cell? ⟨w.heap.size + 1, 2, none⟩ = some (.slice none 0 0) := by simpa using bkP.cell 2
          have K3 : w3.cell? ⟨w.heap.size + 1, 3, none⟩ = some (.int .i64 0) := by simpa using bkP.cell 3
          have K4 : w3.cell? ⟨w.heap.size + 1, 4, none⟩ = some (.int .i64 0) := by simpa using bkP.cell 4
          have K5 : w3.cell? ⟨w.heap.size + 1, 5, none⟩ = some (.int .i64 0) := by simpa using bkP.cell 5
          have F0 : w3.frozen? ⟨w.heap.size + 1, 0, none⟩ = false := bkP.frozen 0
          have F1 : w3.frozen? ⟨w.heap.size + 1, 1, none⟩ = false := bkP.frozen 1
          have F2 : w3.frozen? ⟨w.heap.size + 1, 2, none⟩ = false := bkP.frozen 2
          have F3 : w3.frozen? ⟨w.heap.size + 1, 3, none⟩ = false := bkP.frozen 3
          have F4 : w3.frozen? ⟨w.heap.size + 1, 4, none⟩ = false := bkP.frozen 4
          have F5 : w3.frozen? ⟨w.heap.size + 1, 5, none⟩ = false := bkP.frozen 5
          have hlt := bkP.lt
          have HK := Lib.hid (blk6 (a' := .slice none 0 0) (b' := .slice none 0 0) (c' := .slice none 0 0) (d' := .int .i64 0) (e' := .int .i64 0) (f' := .int .i64 0) bkP)
          have E3 := below6 (P := w.heap.size + 1) (a := .slice none 0 0) (b := .slice none 0 0) (c := .slice none 0 0) (d := .int .i64 0) (e := .int .i64 0) (f := .int .i64 0) hB (by omega)
          clear bkP hB
          go_wp2_with fail
          have K6 : ∀ i, ((World.setCell (World.setCell (World.setCell (World.setCell (World.setCell (World.setCell w3 ⟨(w.heap.size + 1), 0, none⟩ (.slice none 0 0)) ⟨(w.heap.size + 1), 1, none⟩ (.slice none 0 0)) ⟨(w.heap.size + 1), 2, none⟩ (.slice none 0 0)) ⟨(w.heap.size + 1), 3, none⟩ (.int .i64 0)) ⟨(w.heap.size + 1), 4, none⟩ (.int .i64 0)) ⟨(w.heap.size + 1), 5, none⟩ (.int .i64 0))).cell? ⟨w.heap.size + 1, i, none⟩ = #[.slice none 0 0, .slice none 0 0, .slice none 0 0, .int .i64 0, .int .i64 0, .int .i64 0][i]? := fun i => HK.out.cell i
          generalize (World.setCell (World.setCell (World.setCell (World.setCell (World.setCell (World.setCell w3 ⟨(w.heap.size + 1), 0, none⟩ (.slice none 0 0)) ⟨(w.heap.size + 1), 1, none⟩ (.slice none 0 0)) ⟨(w.heap.size + 1), 2, none⟩ (.slice none 0 0)) ⟨(w.heap.size + 1), 3, none⟩ (.int .i64 0)) ⟨(w.heap.size + 1), 4, none⟩ (.int .i64 0)) ⟨(w.heap.size + 1), 5, none⟩ (.int .i64 0)) = W9 at *
          exact bodyPost_ret (v := .tuple #[.agg #[.slice none 0 0, .slice none 0 0, .slice none 0 0, .int .i64 0, .int .i64 0, .int .i64 0], .bool false]) (by simp [results, Try.results15, go_sem, K6]) rfl (pkR_no E3)
        · obtain ⟨k, rfl⟩ : ∃ k : Nat, q = k := ⟨q.toNat, by omega⟩
          by_cases hk : k < ml
          · have hk2 : k < l.length := by omega
            obtain ⟨gl, ol, y, rfl, hcy, hy⟩ := (hL.below hB).at_ hk
            have j0 : (0 : Int) ≤ (k : Int) := by omega
            have j1 : (k : Int) < (ml : Int) := by omega
            cases hy0 : decide (y < 0)
            · have hyk : 0 ≤ l.getD k 0 := by rw [← hy.out]; simpa using hy0
              have HYK := Lib.hid hyk
              have HVV := Lib.hid (HW.out k rfl hk2)
              clear hyk hy HQ HW
              go_wp2_with fail
              refine (peakAt_any A n c xs _ m d x over k under l r l2 r2 w3 (h.below hB) (h0'.below hB) hsg.out hov hun HL.out HL2.out R1.out R2.out hk2 HYK.out).mono ?_
              rw [HVV.out]
              rintro e w4 ⟨A1, c1, A2, c2, A3, c3, rfl, o1, o2, o3, k1, k2, k3, hb4⟩
              have hP3 := bkP.lt
              have bkS_ := bkS.below hb4
              have bkP_ := bkP.below hb4
              have hB_ := below_then hB hb4 hB.size
              clear hb4 bkS bkP hB
              (try clear b0 b1)
              have bkS := bkS_
              have bkP := bkP_
              have hB := hB_
              clear bkS_ bkP_ hB_
              have b0 := bkS.cell 0
              have b1 := bkS.cell 1
              simp only [List.getElem?_toArray, List.getElem?_cons_zero, List.getElem?_cons_succ] at b0 b1
              clear bkS
              have K0 : w4.cell? ⟨w.heap.size + 1, 0, none⟩ = some (.slice none 0 0) := by simpa using bkP.cell 0
              have K1 : w4.cell? ⟨w.heap.size + 1, 1, none⟩ = some (.slice none 0 0) := by simpa using bkP.cell 1
              have K2 : w4.cell? ⟨w.heap.size + 1, 2, none⟩ = some (.slice none 0 0) := by simpa using bkP.cell 2
              have K3 : w4.cell? ⟨w.heap.size + 1, 3, none⟩ = some (.int .i64 0) := by simpa using bkP.cell 3
              have K4 : w4.cell? ⟨w.heap.size + 1, 4, none⟩ = some (.int .i64 0) := by simpa using bkP.cell 4
              have K5 : w4.cell? ⟨w.heap.size + 1, 5, none⟩ = some (.int .i64 0) := by simpa using bkP.cell 5
              have F0 : w4.frozen? ⟨w.heap.size + 1, 0, none⟩ = false := bkP.frozen 0
              have F1 : w4.frozen? ⟨w.heap.size + 1, 1, none⟩ = false := bkP.frozen 1
              have F2 : w4.frozen? ⟨w.heap.size + 1, 2, none⟩ = false := bkP.frozen 2
              have F3 : w4.frozen? ⟨w.heap.size + 1, 3, none⟩ = false := bkP.frozen 3
              have F4 : w4.frozen? ⟨w.heap.size + 1, 4, none⟩ = false := bkP.frozen 4
              have F5 : w4.frozen? ⟨w.heap.size + 1, 5, none⟩ = false := bkP.frozen 5
              have hlt := bkP.lt
              have HK := Lib.hid (blk6 (a' := .slice A1 V.1.1.length c1) (b' := .slice A2 V.1.2.1.length c2) (c' := .slice A3 V.1.2.2.length c3) (d' := .int .i64 (pkI V k)) (e' := .int .i64 (pkI V under)) (f' := .int .i64 (pkI V over)) bkP)
              have E3 := Lib.hid (below6 (P := w.heap.size + 1) (a := .slice A1 V.1.1.length c1) (b := .slice A2 V.1.2.1.length c2) (c := .slice A3 V.1.2.2.length c3) (d := .int .i64 (pkI V k)) (e := .int .i64 (pkI V under)) (f := .int .i64 (pkI V over)) hB (by omega))
              have O1 := Lib.hid o1
              have O2 := Lib.hid o2
              have O3 := Lib.hid o3
              have N1 := Lib.hid k1
              have N2 := Lib.hid k2
              have N3 := Lib.hid k3
              clear o1 o2 o3 k1 k2 k3 bkP hB
              go_wp2_with fail
              have Q1 := Lib.hid (oi6 (P := w.heap.size + 1) (a := .slice A1 V.1.1.length c1) (b := .slice A2 V.1.2.1.length c2) (c := .slice A3 V.1.2.2.length c3) (d := .int .i64 (pkI V k)) (e := .int .i64 (pkI V under)) (f := .int .i64 (pkI V over)) O1.out hP3)
              have Q2 := Lib.hid (oi6 (P := w.heap.size + 1) (a := .slice A1 V.1.1.length c1) (b := .slice A2 V.1.2.1.length c2) (c := .slice A3 V.1.2.2.length c3) (d := .int .i64 (pkI V k)) (e := .int .i64 (pkI V under)) (f := .int .i64 (pkI V over)) O2.out hP3)
              have Q3 := Lib.hid (oi6 (P := w.heap.size + 1) (a := .slice A1 V.1.1.length c1) (b := .slice A2 V.1.2.1.length c2) (c := .slice A3 V.1.2.2.length c3) (d := .int .i64 (pkI V k)) (e := .int .i64 (pkI V under)) (f := .int .i64 (pkI V over)) O3.out hP3)
              have K6 : ∀ i, ((World.setCell (World.setCell (World.setCell (World.setCell (World.setCell (World.setCell w4 ⟨(w.heap.size + 1), 0, none⟩ (.slice A1 V.1.1.length c1)) ⟨(w.heap.size + 1), 1, none⟩ (.slice A2 V.1.2.1.length c2)) ⟨(w.heap.size + 1), 2, none⟩ (.slice A3 V.1.2.2.length c3)) ⟨(w.heap.size + 1), 3, none⟩ (.int .i64 (pkI V k))) ⟨(w.heap.size + 1), 4, none⟩ (.int .i64 (pkI V under))) ⟨(w.heap.size + 1), 5, none⟩ (.int .i64 (pkI V over)))).cell? ⟨w.heap.size + 1, i, none⟩ = #[.slice A1 V.1.1.length c1, .slice A2 V.1.2.1.length c2, .slice A3 V.1.2.2.length c3, .int .i64 (pkI V k), .int .i64 (pkI V under), .int .i64 (pkI V over)][i]? := fun i => HK.out.cell i
              clear HK O1 O2 O3
              generalize (World.setCell (World.setCell (World.setCell (World.setCell (World.setCell (World.setCell w4 ⟨(w.heap.size + 1), 0, none⟩ (.slice A1 V.1.1.length c1)) ⟨(w.heap.size + 1), 1, none⟩ (.slice A2 V.1.2.1.length c2)) ⟨(w.heap.size + 1), 2, none⟩ (.slice A3 V.1.2.2.length c3)) ⟨(w.heap.size + 1), 3, none⟩ (.int .i64 (pkI V k))) ⟨(w.heap.size + 1), 4, none⟩ (.int .i64 (pkI V under))) ⟨(w.heap.size + 1), 5, none⟩ (.int .i64 (pkI V over))) = W9 at *
              exact bodyPost_ret (v := .tuple #[.agg #[.slice A1 V.1.1.length c1, .slice A2 V.1.2.1.length c2, .slice A3 V.1.2.2.length c3, .int .i64 (pkI V k), .int .i64 (pkI V under), .int .i64 (pkI V over)], .bool V.2]) (by simp [results, Try.results15, go_sem, K6]) rfl ⟨A1, c1, A2, c2, A3, c3, rfl, Q1.out.base (by omega), Q2.out.base (by omega), Q3.out.base (by omega), N1.out, N2.out, N3.out, E3.out⟩
            · have hyk : l.getD k 0 < 0 := by rw [← hy.out]; simpa using hy0
              obtain rfl : pkNo = V := HQ.out (by rw [Int.toNat_natCast, ovB_var hyk, Bool.and_false])
              clear hyk hy HQ HW
              clear bkS
              have K0 : w3.cell? ⟨w.heap.size + 1, 0, none⟩ = some (.slice none 0 0) := by simpa using bkP.cell 0
              have K1 : w3.cell? ⟨w.heap.size + 1, 1, none⟩ = some (.slice none 0 0) := by simpa using bkP.cell 1
              have K2 : w3.cell? ⟨w.heap.size + 1, 2, none⟩ = some (.slice none 0 0) := by simpa using bkP.cell 2
              have K3 : w3.cell? ⟨w.heap.size + 1, 3, none⟩ = some (.int .i64 0) := by simpa using bkP.cell 3
              have K4 : w3.cell? ⟨w.heap.size + 1, 4, none⟩ = some (.int .i64 0) := by simpa using bkP.cell 4
              have K5 : w3.cell? ⟨w.heap.size + 1, 5, none⟩ = some (.int .i64 0) := by simpa using bkP.cell 5
              have F0 : w3.frozen? ⟨w.heap.size + 1, 0, none⟩ = false := bkP.frozen 0
              have F1 : w3.frozen? ⟨w.heap.size + 1, 1, none⟩ = false := bkP.frozen 1
              have F2 : w3.frozen? ⟨w.heap.size + 1, 2, none⟩ = false := bkP.frozen 2
              have F3 : w3.frozen? ⟨w.heap.size + 1, 3, none⟩ = false := bkP.frozen 3
              have F4 : w3.frozen? ⟨w.heap.size + 1, 4, none⟩ = false := bkP.frozen 4
              have F5 : w3.frozen? ⟨w.heap.size + 1, 5, none⟩ = false := bkP.frozen 5
              have hlt := bkP.lt
              have HK := Lib.hid (blk6 (a' := .slice none 0 0) (b' := .slice none 0 0) (c' := .slice none 0 0) (d' := .int .i64 0) (e' := .int .i64 0) (f' := .int .i64 0) bkP)
              have E3 := below6 (P := w.heap.size + 1) (a := .slice none 0 0) (b := .slice none 0 0) (c := .slice none 0 0) (d := .int .i64 0) (e := .int .i64 0) (f := .int .i64 0) hB (by omega)
              clear bkP hB
              go_wp2_with fail
              have K6 : ∀ i, ((World.setCell (World.setCell (World.setCell (World.setCell (World.setCell (World.setCell w3 ⟨(w.heap.size + 1), 0, none⟩ (.slice none 0 0)) ⟨(w.heap.size + 1), 1, none⟩ (.slice none 0 0)) ⟨(w.heap.size + 1), 2, none⟩ (.slice none 0 0)) ⟨(w.heap.size + 1), 3, none⟩ (.int .i64 0)) ⟨(w.heap.size + 1), 4, none⟩ (.int .i64 0)) ⟨(w.heap.size + 1), 5, none⟩ (.int .i64 0))).cell? ⟨w.heap.size + 1, i, none⟩ = #[.slice none 0 0, .slice none 0 0, .slice none 0 0, .int .i64 0, .int .i64 0, .int .i64 0][i]? := fun i => HK.out.cell i
              generalize (World.setCell (World.setCell (World.setCell (World.setCell (World.setCell (World.setCell w3 ⟨(w.heap.size + 1), 0, none⟩ (.slice none 0 0)) ⟨(w.heap.size + 1), 1, none⟩ (.slice none 0 0)) ⟨(w.heap.size + 1), 2, none⟩ (.slice none 0 0)) ⟨(w.heap.size + 1), 3, none⟩ (.int .i64 0)) ⟨(w.heap.size + 1), 4, none⟩ (.int .i64 0)) ⟨(w.heap.size + 1), 5, none⟩ (.int .i64 0)) = W9 at *
              exact bodyPost_ret (v := .tuple #[.agg #[.slice none 0 0, .slice none 0 0, .slice none 0 0, .int .i64 0, .int .i64 0, .int .i64 0], .bool false]) (by simp [results, Try.results15, go_sem, K6]) rfl (pkR_no E3)
          · obtain rfl : pkNo = V := HQ.out (by rw [inB_no (by omega)]; rfl)
            have j1 : ¬ (k : Int) < (ml : Int) := by omega
            have j2 : (ml : Int) ≤ (k : Int) := by omega
            clear HQ HW
            clear bkS
            have K0 : w3.cell? ⟨w.heap.size + 1, 0, none⟩ = some (.slice none 0 0) := by simpa using bkP.cell 0
            have K1 : w3.cell? ⟨w.heap.size + 1, 1, none⟩ = some (.slice none 0 0) := by simpa using bkP.cell 1
            have K2 : w3.cell? ⟨w.heap.size + 1, 2, none⟩ = some (.slice none 0 0) := by simpa using bkP.cell 2
            have K3 : w3.cell? ⟨w.heap.size + 1, 3, none⟩ = some (.int .i64 0) := by simpa using bkP.cell 3
            have K4 : w3.cell? ⟨w.heap.size + 1, 4, none⟩ = some (.int .i64 0) := by simpa using bkP.cell 4
            have K5 : w3.cell? ⟨w.heap.size + 1, 5, none⟩ = some (.int .i64 0) := by simpa using bkP.cell 5
            have F0 : w3.frozen? ⟨w.heap.size + 1, 0, none⟩ = false := bkP.frozen 0
            have F1 : w3.frozen? ⟨w.heap.size + 1, 1, none⟩ = false := bkP.frozen 1
            have F2 : w3.frozen? ⟨w.heap.size + 1, 2, none⟩ = false := bkP.frozen 2
            have F3 : w3.frozen? ⟨w.heap.size + 1, 3, none⟩ = false := bkP.frozen 3
            have F4 : w3.frozen? ⟨w.heap.size + 1, 4, none⟩ = false := bkP.frozen 4
            have F5 : w3.frozen? ⟨w.heap.size + 1, 5, none⟩ = false := bkP.frozen 5
            have hlt := bkP.lt
            have HK := Lib.hid (blk6 (a' := .slice none 0 0) (b' := .slice none 0 0) (c' := .slice none 0 0) (d' := .int .i64 0) (e' := .int .i64 0) (f' := .int .i64 0) bkP)
            have E3 := below6 (P := w.heap.size + 1) (a := .slice none 0 0) (b := .slice none 0 0) (c := .slice none 0 0) (d := .int .i64 0) (e := .int .i64 0) (f := .int .i64 0) hB (by omega)
            clear bkP hB
            go_wp2_with fail
            have K6 : ∀ i, ((World.setCell (World.setCell (World.setCell (World.setCell (World.setCell (World.setCell w3 ⟨(w.heap.size + 1), 0, none⟩ (.slice none 0 0)) ⟨(w.heap.size + 1), 1, none⟩ (.slice none 0 0)) ⟨(w.heap.size + 1), 2, none⟩ (.slice none 0 0)) ⟨(w.heap.size + 1), 3, none⟩ (.int .i64 0)) ⟨(w.heap.size + 1), 4, none⟩ (.int .i64 0)) ⟨(w.heap.size + 1), 5, none⟩ (.int .i64 0))).cell? ⟨w.heap.size + 1, i, none⟩ = #[.slice none 0 0, .slice none 0 0, .slice none 0 0, .int .i64 0, .int .i64 0, .int .i64 0][i]? := fun i => HK.out.cell i
            generalize (World.setCell (World.setCell (World.setCell (World.setCell (World.setCell (World.setCell w3 ⟨(w.heap.size + 1), 0, none⟩ (.slice none 0 0)) ⟨(w.heap.size + 1), 1, none⟩ (.slice none 0 0)) ⟨(w.heap.size + 1), 2, none⟩ (.slice none 0 0)) ⟨(w.heap.size + 1), 3, none⟩ (.int .i64 0)) ⟨(w.heap.size + 1), 4, none⟩ (.int .i64 0)) ⟨(w.heap.size + 1), 5, none⟩ (.int .i64 0)) = W9 at *
            exact bodyPost_ret (v := .tuple #[.agg #[.slice none 0 0, .slice none 0 0, .slice none 0 0, .int .i64 0, .int .i64 0, .int .i64 0], .bool false]) (by simp [results, Try.results15, go_sem, K6]) rfl (pkR_no E3)
end Go.Proofs.Ytcjgcopkeeiicaa
