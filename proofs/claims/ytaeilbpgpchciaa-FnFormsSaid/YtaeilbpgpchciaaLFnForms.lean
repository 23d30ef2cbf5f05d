/- The law FnForms: whatever the input, it returns true and leaves its argument alone. -/
import Derived.Test.YtaeilbpgpchciaaOpenB
import Derived.Test.YtaeilbpgpchciaaDrawSA
import Derived.Test.YtaeilbpgpchciaaForms
import Derived.Test.YtaeilbpgpchciaaSysJ
import Derived.Test.YtaeilbpgpchciaaSysK
import Derived.Test.YtaeilbpgpchciaaBig
import Derived.Test.YtaeilbpgpchciaaRows
import Derived.Deep.RegionHeld3
import Derived.Deep.Cut
import Derived.Deep.CutRange
namespace Go.Proofs.Ytaeilbpgpchciaa.lFnForms
open Go.RowKit Go.ChangeShapes Go.WideShapes Go.ChangeAt
set_option linter.unusedVariables false
set_option linter.unusedSimpArgs false

theorem blk2 (w : World) (o : Obj) (t : TypeId) (cs : Array Value) : Blk ((w.alloc o).alloc (.cells cs t)).drew (w.heap.size + 1) t cs := by
  have := Blk.new (w.alloc o) t cs
  rw [World.size_alloc] at this
  exact this.drew
theorem bel2 (w : World) (o o2 : Obj) : Below w.heap.size w ((w.alloc o).alloc o2).drew := (((Below.refl _ _).alloc (Nat.le_refl _) o).alloc (by simp) o2).drew
theorem ruS {W w1 : World} {R : Prop} {A : Option Addr} {n : Nat} {x : List (List Int × List Int)} (h : RU W A n x) (hS : Below W.heap.size W w1 ∧ R) : RU w1 A n x := h.below hS.1
theorem forms_no {xs : List Int} {x : List (List Int × List Int)} (h : systemOk xs x = false) : leftLinearIn xs x = false ∧ duplicatingIn xs x = false ∧ collapsingIn xs x = false := by
  unfold leftLinearIn duplicatingIn collapsingIn
  rw [h]
  exact ⟨rfl, rfl, rfl⟩
theorem all_snoc {α : Type} {x : List α} {k : Nat} {d : α} (p : α → Bool) (hk : k < x.length) : (x.take (k + 1)).all p = ((x.take k).all p && p (x.getD k d)) := by
  rw [List.take_succ_eq_append_getElem hk, List.all_append]
  simp [List.getD_eq_getElem?_getD, hk]
theorem any_snoc {α : Type} {x : List α} {k : Nat} {d : α} (p : α → Bool) (hk : k < x.length) : (x.take (k + 1)).any p = ((x.take k).any p || p (x.getD k d)) := by
  rw [List.take_succ_eq_append_getElem hk, List.any_append]
  simp [List.getD_eq_getElem?_getD, hk]
theorem wt_one {x : List (List Int × List Int)} {k : Nat} (hk : k < x.length) : wtU [x.getD k ([], [])] ≤ wtU x := by
  have := wtU_row hk
  unfold wtU at this ⊢
  simp only [List.length_cons, List.length_nil, List.map_cons, List.map_nil, List.sum_cons, List.sum_nil]
  omega
/-- A slice of one rule, just laid. -/
theorem ru_one {w : World} {g : Nat} {A : Option Addr} {n c : Nat} {B : Option Addr} {m d : Nat} {l r : List Int} (h : Blk w g 33 #[.slice A n c, .slice B m d]) (h1 : RI w A n l) (h2 : RI w B m r) (h3 : n ≤ c ∧ c ≤ 9223372036854775807) (h4 : m ≤ d ∧ d ≤ 9223372036854775807) :
    RU w (some ⟨g, 0, none⟩) 1 [(l, r)] := by
  refine ⟨rfl, fun _ => ⟨g, 0, rfl, fun k hk => ?_⟩⟩
  obtain rfl : k = 0 := by omega
  exact ⟨A, n, c, B, m, d, by rw [Nat.zero_add, h.cell]; rfl, by rw [Nat.zero_add, h.cell]; rfl, h1, h2, h3.1, h3.2, h4.1, h4.2⟩
set_option maxHeartbeats 8000000 in
set_option maxRecDepth 20000 in
theorem walk (A : Option Addr) (n c : Nat) (w : World) (h : BI w A n) (hn : n ≤ 9223372036854775807) :
    Calls Try.prog 3 #[.slice A n c] w fun e w' => e = .returned (.bool true) ∧ Below w.heap.size w w' := by
  by_cases hb : 4096 < n
  · have E := Lib.hid (decide_eq_true hb)
    go_enter Try.func3, Try.ntmps3
    go_wp2_with fail
    refine (big_any A n c _ hn).mono ?_
    rintro e w1 ⟨rfl, rfl⟩
    rw [E.out]
    go_wp2_with fail
    go_ret
    exact ⟨rfl, Below.refl _ _⟩
  have hn2 : n ≤ 4096 := by omega
  have E := Lib.hid (decide_eq_false hb)
  clear hb
  go_enter Try.func3, Try.ntmps3
  go_wp2_with fail
  refine (big_any A n c _ hn).mono ?_
  rintro e w1 ⟨rfl, rfl⟩
  rw [E.out]
  go_wp2_with fail
  refine (DrawLeftLinearIn_any A n c w h hn2).mono ?_
  rintro e w1 ⟨S, m, d', xs, U, k, d, x, rfl, hS, hm, hU, hwt, hB⟩
  clear h
  have hk5 : k ≤ 5000 := by have := hU.1; unfold wtU at hwt; omega
  have bs := Blk.new w1 29 #[.slice S m d', .slice U k d]
  replace hS := hS.alloc (.cells #[.slice S m d', .slice U k d] 29)
  replace hU := hU.alloc (.cells #[.slice S m d', .slice U k d] 29)
  replace hB := hB.alloc hB.size (.cells #[.slice S m d', .slice U k d] 29)
  have bx0 := bs.cell 0
  have bx1 := bs.cell 1
  simp only [List.getElem?_toArray, List.getElem?_cons_zero, List.getElem?_cons_succ] at bx0 bx1
  have hGl := bs.lt
  go_wp2_with fail
  generalize w1.alloc (.cells #[.slice S m d', .slice U k d] 29) = W1 at *
  generalize w1.heap.size = G at *
  clear bs
  have HN := Lib.hid (fun h => forms_no (xs := xs) (x := x) h)
  have HL := Lib.hid (fun h => leftLinear_one (xs := xs) (x := x) h)
  have HD := Lib.hid (fun h => duplicating_one (xs := xs) (x := x) h)
  have HC := Lib.hid (fun h => collapsing_one (xs := xs) (x := x) h)
  refine (I_LeftLinearIn S m d' xs U k d x W1 hS hU (by omega)).mono ?_
  rintro e w2 ⟨rfl, hb2⟩
  replace hS := hS.below hb2
  replace hU := hU.below hb2
  replace bx0 := keepC hb2 bx0
  replace bx1 := keepC hb2 bx1
  replace hB := below_then hB hb2 hB.size
  clear hb2
  go_wp2_with fail
  refine (I_DuplicatingIn S m d' xs U k d x w2 hS hU (by omega)).mono ?_
  rintro e w3 ⟨rfl, hb3⟩
  replace hS := hS.below hb3
  replace hU := hU.below hb3
  replace bx0 := keepC hb3 bx0
  replace bx1 := keepC hb3 bx1
  replace hB := below_then hB hb3 hB.size
  clear hb3
  go_wp2_with fail
  refine (I_CollapsingIn S m d' xs U k d x w3 hS hU (by omega)).mono ?_
  rintro e w4 ⟨rfl, hb4⟩
  replace hS := hS.below hb4
  replace hU := hU.below hb4
  replace bx0 := keepC hb4 bx0
  replace bx1 := keepC hb4 bx1
  replace hB := below_then hB hb4 hB.size
  clear hb4
  obtain ⟨E1, hE1⟩ : ∃ E1, leftLinearIn xs x = E1 := ⟨_, rfl⟩
  obtain ⟨E2, hE2⟩ : ∃ E2, duplicatingIn xs x = E2 := ⟨_, rfl⟩
  obtain ⟨E3, hE3⟩ : ∃ E3, collapsingIn xs x = E3 := ⟨_, rfl⟩
  obtain ⟨E4, hE4⟩ : ∃ E4, conSystem xs x = E4 := ⟨_, rfl⟩
  rw [hE1, hE2, hE3]
  rw [hE1, hE2, hE3] at HN
  rw [hE1] at HL
  rw [hE2] at HD
  rw [hE3] at HC
  have HE1 := Lib.hid hE1
  have HE2 := Lib.hid hE2
  have HE3 := Lib.hid hE3
  have HE4 := Lib.hid hE4
  clear hE1 hE2 hE3 hE4
  go_wp2_with fail
  go_region_held3 (fun w' => Below w4.heap.size w4 w' ∧ w'.cell? ⟨G, 0, none⟩ = some (.slice S m d') ∧ w'.cell? ⟨G, 1, none⟩ = some (.slice U k d))
    (first | exact ⟨(Below.refl _ _).drew, bx0, bx1⟩ | exact keepS2 ha1 (by assumption) | exact keepS2 ha2 (by assumption) | exact keepS2 ha3 (by assumption) | exact keepS2 ha4 (by assumption) | exact keepS2 ha5 (by assumption))
    ((first | (go_at_call 9; refine (S_LeftLinearIn S m d' xs U k d x _ ?_ ?_ (by omega)).mono ?_; exact riS hS (by assumption); exact ruS hU (by assumption); rintro e wa ⟨rfl, ha1⟩; rw [HE1.out]) | (go_at_call 10; refine (S_DuplicatingIn S m d' xs U k d x _ ?_ ?_ (by omega)).mono ?_; exact riS hS (by assumption); exact ruS hU (by assumption); rintro e wb ⟨rfl, ha2⟩; rw [HE2.out]) | (go_at_call 11; refine (S_CollapsingIn S m d' xs U k d x _ ?_ ?_ (by omega)).mono ?_; exact riS hS (by assumption); exact ruS hU (by assumption); rintro e wb ⟨rfl, ha3⟩; rw [HE3.out]) | (go_at_call 12; refine (I_ConstructorSystem S m d' xs U k d x _ ?_ ?_ (by omega)).mono ?_; exact riS hS (by assumption); exact ruS hU (by assumption); rintro e wb ⟨rfl, ha4⟩; rw [HE4.out]) | (go_at_call 13; refine (S_ConstructorSystem S m d' xs U k d x _ ?_ ?_ (by omega)).mono ?_; exact riS hS (by assumption); exact ruS hU (by assumption); rintro e wb ⟨rfl, ha5⟩; rw [HE4.out])))
  rename_i hq
  have hb5 := hq.1
  clear hq
  replace hS := hS.below hb5
  replace hU := hU.below hb5
  replace bx0 := keepC hb5 bx0
  replace bx1 := keepC hb5 bx1
  replace hB := below_then hB hb5 hB.size
  clear hb5
  go_wp2_with fail
  refine (S_SystemOk S m d' xs U k d x wb hS hU (by omega)).mono ?_
  rintro e w6 ⟨rfl, hb6⟩
  replace hS := hS.below hb6
  replace hU := hU.below hb6
  replace bx0 := keepC hb6 bx0
  replace bx1 := keepC hb6 bx1
  replace hB := below_then hB hb6 hB.size
  clear hb6
  cases hok : systemOk xs x
  · obtain ⟨f1, f2, f3⟩ := HN.out hok
    clear HN HL HD HC HE1 HE2 HE3 HE4
    subst f1 f2 f3
    go_wp2_with fail
    go_ret
    exact ⟨rfl, hB⟩
  have L1 := HL.out hok
  have L2 := HD.out hok
  have L3 := HC.out hok
  obtain ⟨P, hP⟩ : ∃ P : List Int × List Int → Bool, P = fun r => leftLinearIn xs [r] := ⟨_, rfl⟩
  obtain ⟨Q, hQ⟩ : ∃ P : List Int × List Int → Bool, P = fun r => duplicatingIn xs [r] := ⟨_, rfl⟩
  obtain ⟨R, hR⟩ : ∃ P : List Int × List Int → Bool, P = fun r => collapsingIn xs [r] := ⟨_, rfl⟩
  rw [← hP] at L1
  rw [← hQ] at L2
  rw [← hR] at L3
  have HL1 := Lib.hid L1
  have HL2 := Lib.hid L2
  have HL3 := Lib.hid L3
  have HP : ∀ r, Hid (leftLinearIn xs [r] = P r) := fun r => Lib.hid (by rw [hP])
  have HQ : ∀ r, Hid (duplicatingIn xs [r] = Q r) := fun r => Lib.hid (by rw [hQ])
  have HR : ∀ r, Hid (collapsingIn xs [r] = R r) := fun r => Lib.hid (by rw [hR])
  have HXL := Lib.hid hU.1
  clear L1 L2 L3 hP hQ hR hok HN HL HD HC HE1 HE2 HE3 HE4
  go_wp2_with fail
  go_loopw [7, 8, 9, 10] (fun a b c i wr => ∃ (j : Nat) (B1 B2 B3 : Bool), j ≤ k ∧ i = .int .i64 j ∧ a = .bool B1 ∧ b = .bool B2 ∧ c = .bool B3 ∧ Hid (B1 = (x.take j).all P) ∧ Hid (B2 = (x.take j).any Q) ∧ Hid (B3 = (x.take j).any R) ∧ Below w6.heap.size w6 wr) (fun _ _ _ i _ => k - (intOf i).toNat)
  case atStart => exact ⟨0, true, false, false, Nat.zero_le _, rfl, rfl, rfl, rfl, Lib.hid rfl, Lib.hid rfl, Lib.hid rfl, Below.refl _ _⟩
  case round =>
    obtain ⟨j, B1, B2, B3, hj, rfl, rfl, rfl, rfl, HB1, HB2, HB3, hr⟩ := hrel
    replace bx0 := keepC hr bx0
    replace bx1 := keepC hr bx1
    have hSr := hS.below hr
    have hUr := hU.below hr
    by_cases hlt : j < k
    · obtain ⟨g, off, A1, n1, c1, A2, n2, c2, l, r, hUe, hc1, hc2, h1, h2, q1, q2, q3, q4, he⟩ := hUr.at_ hlt
      subst hUe
      have HLT := Lib.hid hlt
      have HA1 : Hid ((x.take (j + 1)).all P = (B1 && P (l, r))) := Lib.hid (by rw [all_snoc (d := ([], [])) P (by rw [HXL.out]; exact hlt), ← HB1.out, ← he.out])
      have HA2 : Hid ((x.take (j + 1)).any Q = (B2 || Q (l, r))) := Lib.hid (by rw [any_snoc (d := ([], [])) Q (by rw [HXL.out]; exact hlt), ← HB2.out, ← he.out])
      have HA3 : Hid ((x.take (j + 1)).any R = (B3 || R (l, r))) := Lib.hid (by rw [any_snoc (d := ([], [])) R (by rw [HXL.out]; exact hlt), ← HB3.out, ← he.out])
      have hw1 : wtU [(l, r)] ≤ wtU x := by rw [he.out]; exact wt_one (by rw [HXL.out]; exact hlt)
      clear HB1 HB2 HB3 he
      go_wp2_with fail
      go_cut [11] from 58 to 88 (fun s11 w' => ∃ (b g1 : Nat), s11 = .pointer (some ⟨b, 0, none⟩) ∧ Blk w' b 29 #[.slice S m d', .slice (some ⟨g1, 0, none⟩) 1 1] ∧ Hid (RU w' (some ⟨g1, 0, none⟩) 1 [(l, r)]) ∧ Below wr.heap.size wr w')
      case first =>
        have bxa0 : ∀ o, (wr.alloc o).cell? ⟨G, 0, none⟩ = some (.slice S m d') := fun o => keepC ((Below.refl _ wr).alloc (Nat.le_refl _) o) bx0
        have bxa1 : ∀ o, (wr.alloc o).cell? ⟨G, 1, none⟩ = some (.slice (some ⟨g, off, none⟩) k d) := fun o => keepC ((Below.refl _ wr).alloc (Nat.le_refl _) o) bx1
        have hca1 : ∀ o, (wr.alloc o).cell? ⟨g, off + j * 2, none⟩ = some (.slice A1 n1 c1) := fun o => keepC ((Below.refl _ wr).alloc (Nat.le_refl _) o) hc1
        have hca2 : ∀ o, (wr.alloc o).cell? ⟨g, off + j * 2 + 1, none⟩ = some (.slice A2 n2 c2) := fun o => keepC ((Below.refl _ wr).alloc (Nat.le_refl _) o) hc2
        have bxb0 : ∀ o o2, ((wr.alloc o).alloc o2).cell? ⟨G, 0, none⟩ = some (.slice S m d') := fun o o2 => keepC ((Below.refl _ _).alloc (Nat.le_refl _) o2) (bxa0 o)
        have bxb1 : ∀ o o2, ((wr.alloc o).alloc o2).cell? ⟨G, 1, none⟩ = some (.slice (some ⟨g, off, none⟩) k d) := fun o o2 => keepC ((Below.refl _ _).alloc (Nat.le_refl _) o2) (bxa1 o)
        go_region
        all_goals (go_wp2_with fail; go_meet)
        all_goals first
          | exact ⟨wr.heap.size + 1, wr.heap.size, rfl, blk2 wr _ _ _, Lib.hid (ru_one ((Blk.new wr _ _).alloc _).drew (h1.below (bel2 wr _ _)) (h2.below (bel2 wr _ _)) ⟨q1, q2⟩ ⟨q3, q4⟩), bel2 wr _ _⟩
          | exact ⟨wr.heap.size, wr.heap.size + 1, rfl, ((Blk.new wr _ _).alloc _).drew, Lib.hid (ru_one (blk2 wr _ _ _) (h1.below (bel2 wr _ _)) (h2.below (bel2 wr _ _)) ⟨q1, q2⟩ ⟨q3, q4⟩), bel2 wr _ _⟩
      case rest =>
        obtain ⟨b, g1, rfl, hbb, HRU, hbc⟩ := hcut
        have hSc := hSr.below hbc
        have kb0 := hbb.cell 0
        have kb1 := hbb.cell 1
        simp only [List.getElem?_toArray, List.getElem?_cons_zero, List.getElem?_cons_succ] at kb0 kb1
        clear hbb
        have hr2 := hr.trans (hbc.mono hr.size)
        clear hbc bx0 bx1 hc1 hc2 h1 h2
        have HRUc := HRU.out
        have HPp := HP (l, r)
        have HQp := HQ (l, r)
        have HRp := HR (l, r)
        generalize P (l, r) = p9 at HPp HA1
        generalize Q (l, r) = q9 at HQp HA2
        generalize R (l, r) = r9 at HRp HA3
        cases B1
        · cases B2
          · go_wp2_with fail
            refine (I_DuplicatingIn S m d' xs (some ⟨g1, 0, none⟩) 1 1 [(l, r)] (wc) (hSc) (HRUc) (by omega)).mono ?_
            rintro e w9b ⟨rfl, hb9b⟩
            rw [HQp.out]
            have hr9b := (hr2).trans (hb9b.mono (hr2).size)
            have hS9b := (hSc).below hb9b
            have hR9b := (HRUc).below hb9b
            replace kb0 := keepC hb9b kb0
            replace kb1 := keepC hb9b kb1
            cases B3
            · go_wp2_with fail
              refine (I_CollapsingIn S m d' xs (some ⟨g1, 0, none⟩) 1 1 [(l, r)] (w9b) (hS9b) (hR9b) (by omega)).mono ?_
              rintro e w9c ⟨rfl, hb9c⟩
              rw [HRp.out]
              have hr9c := (hr9b).trans (hb9c.mono (hr9b).size)
              go_wp2_with fail
              go_roundw
              case rel => exact ⟨j + 1, _, _, _, by have := HLT.out; omega, by go_num, rfl, rfl, rfl, Lib.hid (by rw [HA1.out]; rfl), Lib.hid (by rw [HA2.out]; rfl), Lib.hid (by rw [HA3.out]; rfl), hr9c⟩
              case measure => have := HLT.out; simp [intOf]; omega
            · go_wp2_with fail
              go_roundw
              case rel => exact ⟨j + 1, _, _, _, by have := HLT.out; omega, by go_num, rfl, rfl, rfl, Lib.hid (by rw [HA1.out]; rfl), Lib.hid (by rw [HA2.out]; rfl), Lib.hid (by rw [HA3.out]; rfl), hr9b⟩
              case measure => have := HLT.out; simp [intOf]; omega
          · cases B3
            · go_wp2_with fail
              refine (I_CollapsingIn S m d' xs (some ⟨g1, 0, none⟩) 1 1 [(l, r)] (wc) (hSc) (HRUc) (by omega)).mono ?_
              rintro e w9c ⟨rfl, hb9c⟩
              rw [HRp.out]
              have hr9c := (hr2).trans (hb9c.mono (hr2).size)
              go_wp2_with fail
              go_roundw
              case rel => exact ⟨j + 1, _, _, _, by have := HLT.out; omega, by go_num, rfl, rfl, rfl, Lib.hid (by rw [HA1.out]; rfl), Lib.hid (by rw [HA2.out]; rfl), Lib.hid (by rw [HA3.out]; rfl), hr9c⟩
              case measure => have := HLT.out; simp [intOf]; omega
            · go_wp2_with fail
              go_roundw
              case rel => exact ⟨j + 1, _, _, _, by have := HLT.out; omega, by go_num, rfl, rfl, rfl, Lib.hid (by rw [HA1.out]; rfl), Lib.hid (by rw [HA2.out]; rfl), Lib.hid (by rw [HA3.out]; rfl), hr2⟩
              case measure => have := HLT.out; simp [intOf]; omega
        · go_wp2_with fail
          refine (I_LeftLinearIn S m d' xs (some ⟨g1, 0, none⟩) 1 1 [(l, r)] (wc) (hSc) (HRUc) (by omega)).mono ?_
          rintro e w9a ⟨rfl, hb9a⟩
          rw [HPp.out]
          have hr9a := (hr2).trans (hb9a.mono (hr2).size)
          have hS9a := (hSc).below hb9a
          have hR9a := (HRUc).below hb9a
          replace kb0 := keepC hb9a kb0
          replace kb1 := keepC hb9a kb1
          cases B2
          · go_wp2_with fail
            refine (I_DuplicatingIn S m d' xs (some ⟨g1, 0, none⟩) 1 1 [(l, r)] (w9a) (hS9a) (hR9a) (by omega)).mono ?_
            rintro e w9b ⟨rfl, hb9b⟩
            rw [HQp.out]
            have hr9b := (hr9a).trans (hb9b.mono (hr9a).size)
            have hS9b := (hS9a).below hb9b
            have hR9b := (hR9a).below hb9b
            replace kb0 := keepC hb9b kb0
            replace kb1 := keepC hb9b kb1
            cases B3
            · go_wp2_with fail
              refine (I_CollapsingIn S m d' xs (some ⟨g1, 0, none⟩) 1 1 [(l, r)] (w9b) (hS9b) (hR9b) (by omega)).mono ?_
              rintro e w9c ⟨rfl, hb9c⟩
              rw [HRp.out]
              have hr9c := (hr9b).trans (hb9c.mono (hr9b).size)
              go_wp2_with fail
              go_roundw
              case rel => exact ⟨j + 1, _, _, _, by have := HLT.out; omega, by go_num, rfl, rfl, rfl, Lib.hid (by rw [HA1.out]; rfl), Lib.hid (by rw [HA2.out]; rfl), Lib.hid (by rw [HA3.out]; rfl), hr9c⟩
              case measure => have := HLT.out; simp [intOf]; omega
            · go_wp2_with fail
              go_roundw
              case rel => exact ⟨j + 1, _, _, _, by have := HLT.out; omega, by go_num, rfl, rfl, rfl, Lib.hid (by rw [HA1.out]; rfl), Lib.hid (by rw [HA2.out]; rfl), Lib.hid (by rw [HA3.out]; rfl), hr9b⟩
              case measure => have := HLT.out; simp [intOf]; omega
          · cases B3
            · go_wp2_with fail
              refine (I_CollapsingIn S m d' xs (some ⟨g1, 0, none⟩) 1 1 [(l, r)] (w9a) (hS9a) (hR9a) (by omega)).mono ?_
              rintro e w9c ⟨rfl, hb9c⟩
              rw [HRp.out]
              have hr9c := (hr9a).trans (hb9c.mono (hr9a).size)
              go_wp2_with fail
              go_roundw
              case rel => exact ⟨j + 1, _, _, _, by have := HLT.out; omega, by go_num, rfl, rfl, rfl, Lib.hid (by rw [HA1.out]; rfl), Lib.hid (by rw [HA2.out]; rfl), Lib.hid (by rw [HA3.out]; rfl), hr9c⟩
              case measure => have := HLT.out; simp [intOf]; omega
            · go_wp2_with fail
              go_roundw
              case rel => exact ⟨j + 1, _, _, _, by have := HLT.out; omega, by go_num, rfl, rfl, rfl, Lib.hid (by rw [HA1.out]; rfl), Lib.hid (by rw [HA2.out]; rfl), Lib.hid (by rw [HA3.out]; rfl), hr9a⟩
              case measure => have := HLT.out; simp [intOf]; omega
    · obtain rfl : j = k := by omega
      have e1 := HB1.out
      have e2 := HB2.out
      have e3 := HB3.out
      rw [List.take_of_length_le (by rw [HXL.out]; exact Nat.le_refl _)] at e1 e2 e3
      have f1 := e1.trans HL1.out.symm
      have f2 := e2.trans HL2.out.symm
      have f3 := e3.trans HL3.out.symm
      clear e1 e2 e3 HL1 HL2 HL3 HB1 HB2 HB3
      subst f1 f2 f3
      go_wp2_with fail
      go_ret
      exact ⟨by simp, below_then hB hr hB.size⟩
theorem own : ownKnob Try.prog.godebug = none := by kernel_rfl
theorem laidOut : laidOutB Try.prog = true := by kernel_rfl

set_option maxRecDepth 100000 in
theorem lifted (os : Os) (started : os.Started) (H : Type) (enc : TypeId × Value → H) :
    ReturnsInHanded {} Try.checked os 3 .any (Rows.fnFormsSpec.pre6 enc Try.prog Try.f3 Rows.fnFormsRow.domain false) (Rows.fnFormsSpec.post enc Try.prog Try.f3 false true false false) := by
  refine returnsInHanded_of_change (C := Try.checked) own started (by kernel_rfl) Try.func3
    (ChangeSpec.witness6 (enc := enc) (C := Try.checked) false ⟨#[], #[.slice none 0 0], []⟩ 8 (by kernel_rfl) (by kernel_rfl) (by kernel_rfl) (by kernel_rfl)) ?_
  intro W base args ds gs before hval0 hW hcnd _
  have hval : ∀ (j : Nat) t v, Try.f3.params[j]? = some t → args[j]? = some v → Value.okWide Try.prog W .any base t v := hval0
  have hW' := hW
  obtain ⟨p, q, hA0, hV, rfl, hfz, hnd⟩ := hW
  have hA : DataW.TrodAll enc Try.prog W 0 (fun _ => true) true Try.f3.params.toList args.toList ds p := hA0
  rw [Try.params3] at hA hval
  obtain ⟨v0, vs0, d0, ds0, p0, q0, hargs, rfl, rfl, h0, r0⟩ := trodAll_cons hA
  obtain ⟨rfl, rfl, rfl⟩ := trodAll_nil r0
  obtain rfl : args = #[v0] := by cases args; simp_all
  obtain ⟨rfl, rfl⟩ := trodVars_none hV
  have k0 := h0
  have lt0 : ∀ x ∈ p0, x.block < W.heap.size := by obtain ⟨m, hm⟩ := k0; exact DataW.trod_lt m _ _ _ hm
  obtain ⟨A0, n0, c0, rfl, R0, M0⟩ := open_raw Try.underlying22 Try.underlying5 (by kernel_rfl) (hval 0 22 v0 rfl rfl) h0
  unfold maxLen at M0
  clear hA0 hval0
  refine (walk A0 n0 c0 W R0 (by omega)).mono fun e W' ⟨he, bel⟩ => ?_
  subst he
  exact ⟨_, rfl, _, _, _, [], _, [], hW', trodAll_mk1 (shut_bool Try.underlying4 _), (trodAll_cons_mk (Below.trod laidOut (by kernel_rfl) (of_decide_eq_true (by kernel_rfl)) k0 bel lt0) trodAll_mk0), rfl, bel.frame _, fun h => by cases h⟩

theorem over : Rows.fnFormsRow.holds Try.pinned (OpenSpec.ofChange Rows.fnFormsSpec) :=
  OpenClaim.holds_of_wide 3 Try.f3 rfl rfl rfl rfl rfl rfl rfl ⟨rfl, rfl, rfl, rfl, rfl⟩ rfl rfl rfl rfl rfl (by kernel_rfl) Try.func3 (by kernel_rfl)
    (of_decide_eq_true (by kernel_rfl)) (by unfold Func.isWrapper; first | (rw [if_pos (by decide +kernel)]; kernel_rfl) | (rw [if_neg (by decide +kernel)]; exact ⟨rfl, rfl⟩))
    (fun os started H enc _ => lifted os started H enc)

theorem proved : Rows.FnFormsSaid := over
end Go.Proofs.Ytaeilbpgpchciaa.lFnForms
