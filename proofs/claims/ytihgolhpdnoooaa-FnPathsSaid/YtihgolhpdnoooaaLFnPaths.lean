/- The law FnPaths: whatever the input, it returns true and leaves its argument alone. -/
import Derived.Test.YtihgolhpdnoooaaOpenB
import Derived.Test.YtihgolhpdnoooaaDrawF
import Derived.Test.YtihgolhpdnoooaaPth
import Derived.Test.YtihgolhpdnoooaaPlace2
import Derived.Test.YtihgolhpdnoooaaPlaceOf
import Derived.Test.YtihgolhpdnoooaaPath
import Derived.Test.YtihgolhpdnoooaaAbove
import Derived.Test.YtihgolhpdnoooaaDeep
import Derived.Test.YtihgolhpdnoooaaDepth
import Derived.Test.YtihgolhpdnoooaaTop1
import Derived.Test.YtihgolhpdnoooaaDice
import Derived.Test.YtihgolhpdnoooaaRows
import Derived.Deep.RegionHeld3
namespace Go.Proofs.Ytihgolhpdnoooaa.lFnPaths
open Go.RowKit Go.ChangeShapes Go.WideShapes Go.ChangeAt
set_option linter.unusedVariables false
set_option linter.unusedSimpArgs false

theorem own_cap {w : World} {B : Nat} {A : Option Addr} {n c : Nat} {xs : List Int} (h : OI w B A n c xs) : n ≤ c ∧ c ≤ 9223372036854775807 := by
  obtain ⟨A3, c3, hv, hcap, hmx⟩ := own_form h
  unfold maxLen at hmx
  have : c = c3 := by simp at hv; exact hv.2
  omega
theorem riOne (w : World) (v : Int) : RI (w.alloc (.cells #[.int .i64 v] 2)) (some ⟨w.heap.size, 0, none⟩) 1 [v] := (OI.of_blk (xs := [v]) (Blk.new w 2 #[.int .i64 v]) (by show 1 ≤ 1048576; omega)).ri
theorem riOne2 (w : World) (o : Obj) (v : Int) : RI ((w.alloc o).alloc (.cells #[.int .i64 v] 2)) (some ⟨w.heap.size + 1, 0, none⟩) 1 [v] := by
  have := riOne (w.alloc o) v
  simpa only [World.size_alloc] using this
/-- What the law says of a place of a right term. -/
theorem path_facts {xs t : List Int} {p : Nat} (hT : Pl.termOk xs t = true) (hp : p < t.length) :
    ∃ r : Nat, (V_PathOf xs t p).length = r ∧ (V_AboveOf xs t p).length = r ∧ V_PlaceOf xs t (V_PathOf xs t p) = p ∧
      (∀ i, i < r → ∃ q : Nat, (V_AboveOf xs t p).getD i 0 = q ∧ V_PlaceOf xs t ((V_PathOf xs t p).take i) = q ∧ Pl.insideIn xs t q p = true ∧ Pl.insideIn xs t p q = false) ∧
      Pl.insideIn xs t p p = true ∧ (∃ dd L : Nat, V_DeepestOf xs t = dd ∧ (V_PathOf xs t dd).length = L ∧ V_DepthOf xs t = (L : Int) + 1) := by
  obtain ⟨hs, hl, hr⟩ := Pl.termOk_iff.1 hT
  have hpp : Pl.posOk xs t p = true := Pl.posOk_iff.2 ⟨hT, by omega, by omega⟩
  have hal := above_len hT hp
  have hgo := fun i hi => path_goTo hT hp (i := i) hi
  rw [pathOf_yes hpp, aboveOf_yes hpp]
  refine ⟨(Pl.path (Pl.ari xs) t p).length, nats_length _, by rw [nats_length, hal], ?_, fun i hi => ?_, ?_, ?_⟩
  · rw [← placeOf_yes hT, List.drop_zero]
    have := hgo _ (Nat.le_refl _)
    rw [List.take_length] at this
    rw [this, List.getD_eq_getElem?_getD, List.getElem?_append_right (by omega)]
    simp [hal]
  · have h1 := hgo i (by omega)
    have h2 : (upto (fun k => Pl.holds (Pl.ari xs) t k p) p ++ [p]).getD i 0 = (upto (fun k => Pl.holds (Pl.ari xs) t k p) p).getD i 0 := by
      rw [List.getD_eq_getElem?_getD, List.getElem?_append_left (by omega), ← List.getD_eq_getElem?_getD]
    rw [h2] at h1
    have hmem : (upto (fun k => Pl.holds (Pl.ari xs) t k p) p).getD i 0 ∈ upto (fun k => Pl.holds (Pl.ari xs) t k p) p := by
      rw [List.getD_eq_getElem?_getD, List.getElem?_eq_getElem (by omega)]; exact List.getElem_mem (by omega)
    have hn := nats_getD (upto (fun k => Pl.holds (Pl.ari xs) t k p) p) i (by omega)
    generalize (upto (fun k => Pl.holds (Pl.ari xs) t k p) p).getD i 0 = q at *
    unfold upto at hmem
    obtain ⟨m1, m2⟩ := List.mem_filter.1 hmem
    have m1 := List.mem_range.1 m1
    refine ⟨q, hn, ?_, ?_, ?_⟩
    · rw [← placeOf_yes hT, List.drop_zero, ← h1]
      congr 1
      unfold nats; rw [List.map_take]
    · unfold Pl.insideIn
      rw [hpp, Pl.posOk_iff.2 ⟨hT, (by omega : (0 : Int) ≤ (q : Int)), by omega⟩]
      simpa using m2
    · unfold Pl.insideIn
      simp [Pl.holds]
      intro _ _ h3
      omega
  · unfold Pl.insideIn
    rw [hpp, Int.toNat_natCast]
    have := (Pl.fin_of hr hp).2.1
    simp [Pl.holds]; omega
  · have hd := deepest_depth hT
    have hdl := deep_lt (fun p => (Pl.path (Pl.ari xs) t p).length) t.length hl.1
    refine ⟨_, (Pl.path (Pl.ari xs) t (deep (plen xs t) t.length)).length, deepestOf_yes hT, ?_, ?_⟩
    · rw [pathOf_yes (Pl.posOk_iff.2 ⟨hT, by omega, ?_⟩), nats_length]
      have : deep (plen xs t) t.length < t.length := hdl
      omega
    · rw [depthOf_yes hT]
      unfold dep
      rw [← hd]
      rfl
set_option maxHeartbeats 8000000 in
set_option maxRecDepth 20000 in
theorem walk (A : Option Addr) (n c : Nat) (w : World) (h : BI w A n) (hn : n ≤ 9223372036854775807) :
    Calls Try.prog 6 #[.slice A n c] w fun e w' => e = .returned (.bool true) ∧ Below w.heap.size w w' := by
  by_cases hb : 4096 < n
  · have E := Lib.hid (decide_eq_true hb)
    go_enter Try.func6, Try.ntmps6
    go_wp2_with fail
    refine (big_any A n c _ hn).mono ?_
    rintro e w1 ⟨rfl, rfl⟩
    rw [E.out]
    go_wp2_with fail
    go_ret
    exact ⟨rfl, Below.refl _ _⟩
  have hn2 : n ≤ 4096 := by omega
  have E := Lib.hid (decide_eq_false hb)
  clear hb
  go_enter Try.func6, Try.ntmps6
  go_wp2_with fail
  refine (big_any A n c _ hn).mono ?_
  rintro e w1 ⟨rfl, rfl⟩
  rw [E.out]
  go_wp2_with fail
  refine (DrawPathOf_any A n c w h hn2).mono ?_
  rintro e w1 ⟨S, m, d', xs, T, k, d, t, at_, rfl, hS, hm, hT, hk, ⟨hkd, hd⟩, ⟨ha0, ha1⟩, hB⟩
  clear h
  have bx : (w1.alloc (.cells #[.slice S m d'] 26)).cell? ⟨w1.heap.size, 0, none⟩ = some (.slice S m d') := (Blk.new w1 26 #[.slice S m d']).cell 0
  go_wp2_with fail
  replace hS := hS.alloc (.cells #[.slice S m d'] 26)
  replace hT := hT.alloc (.cells #[.slice S m d'] 26)
  replace hB := hB.alloc hB.size (.cells #[.slice S m d'] 26)
  generalize w1.alloc (.cells #[.slice S m d'] 26) = W1 at *
  generalize w1.heap.size = G at *
  have htl := hT.1
  have hP60 := bd_PathOf xs t at_
  refine (I_PathOf S m d' xs T k d t at_ W1 hS hT (by omega) (by omega)).mono ?_
  rintro e w2 ⟨P, cp, rfl, hP, hb2⟩
  replace hS := hS.below hb2
  replace hT := hT.below hb2
  replace bx := keepC hb2 bx
  replace hB := below_then hB hb2 hB.size
  clear hb2
  go_wp2_with fail
  refine (S_PathOf S m d' xs T k d t at_ w2 hS hT (by omega) (by omega)).mono ?_
  rintro e w3 ⟨P2, cp2, rfl, hP2, hb3⟩
  replace hS := hS.below hb3
  replace hT := hT.below hb3
  replace hP := hP.below hb3
  replace bx := keepC hb3 bx
  replace hB := below_then hB hb3 hB.size
  clear hb3
  go_wp2_with fail
  refine (likeInts_any P _ cp _ P2 _ cp2 _ w3 hP.ri hP2.ri (by omega)).mono ?_
  rintro e w4 ⟨rfl, hb4⟩
  rw [show decide (V_PathOf xs t at_ = V_PathOf xs t at_) = true from decide_eq_true rfl]
  replace hS := hS.below hb4
  replace hT := hT.below hb4
  replace hP := hP.below hb4
  replace bx := keepC hb4 bx
  replace hB := below_then hB hb4 hB.size
  clear hb4
  clear hP2
  go_wp2_with fail
  refine (S_TermOk S m d' xs T k d t w4 hS hT (by omega) (by omega)).mono ?_
  rintro e w5 ⟨rfl, hb5⟩
  replace hS := hS.below hb5
  replace hT := hT.below hb5
  replace hP := hP.below hb5
  replace bx := keepC hb5 bx
  replace hB := below_then hB hb5 hB.size
  clear hb5
  cases hpos : Pl.posOk xs t at_
  · have HN := Lib.hid (pathOf_no hpos)
    have hnp : Pl.termOk xs t = false ∨ (Pl.termOk xs t = true ∧ decide (at_ < 0) = true) ∨ (Pl.termOk xs t = true ∧ decide (at_ < 0) = false ∧ decide ((k : Int) ≤ at_) = true) := by
      rw [← htl]
      cases h1 : Pl.termOk xs t
      · exact .inl rfl
      · right
        by_cases h2 : at_ < 0
        · exact .inl ⟨rfl, by simpa using h2⟩
        · refine .inr ⟨rfl, by simpa using h2, ?_⟩
          have : ¬ (0 ≤ at_ ∧ at_ < t.length) := fun hh => by rw [Pl.posOk_iff.2 ⟨h1, hh⟩] at hpos; cases hpos
          simp; omega
    clear hpos
    rw [HN.out] at hP ⊢
    rcases hnp with h1 | ⟨h1, h2⟩ | ⟨h1, h2, h3⟩
    · rw [h1]
      clear h1
      go_wp2_with fail
      go_region_held3 (fun w' => Below w5.heap.size w5 w' ∧ w'.cell? ⟨G, 0, none⟩ = some (.slice S m d'))
        (first | exact ⟨(Below.refl _ _).drew, bx⟩ | exact keepS1 ha1 (by assumption) | exact keepS1 ha2 (by assumption) | exact keepS1 ((Below.refl _ _).alloc (Nat.le_refl _) _) (by assumption))
        ((first | (go_at_call 33; refine (I_PlaceOf S m d' xs T k d t _ 1 1 [at_] _ ?_ ?_ ?_ (by omega) (by omega) (by omega)).mono ?_; exact riS hS (by assumption); exact riS hT (by assumption); (first | exact riOne2 _ _ _ | exact (riOne2 _ _ _).drew | exact (riOne _ _).alloc _ | exact ((riOne _ _).alloc _).drew | exact (riOne2 _ _ _).below ha2 | exact (riOne2 _ _ _).drew.below ha2 | exact ((riOne _ _).alloc _).below ha2 | exact ((riOne _ _).alloc _).drew.below ha2 | exact riOne _ _ | exact (riOne _ _).drew); rintro e wa ⟨rfl, ha1⟩) | (go_at_call 39; refine (S_PlaceOf S m d' xs T k d t _ 1 1 [at_] _ ?_ ?_ ?_ (by omega) (by omega) (by omega)).mono ?_; exact riS hS (by assumption); exact riS hT (by assumption); (first | exact riOne2 _ _ _ | exact (riOne2 _ _ _).drew | exact (riOne _ _).alloc _ | exact ((riOne _ _).alloc _).drew | exact (riOne2 _ _ _).below ha1 | exact (riOne2 _ _ _).drew.below ha1 | exact ((riOne _ _).alloc _).below ha1 | exact ((riOne _ _).alloc _).drew.below ha1 | exact riOne _ _ | exact (riOne _ _).drew); rintro e wb ⟨rfl, ha2⟩)))
      all_goals (
        rename_i hq
        have hbz := hq.1
        clear hq
        go_wp2_with fail
        go_ret
        exact ⟨rfl, below_then hB hbz hB.size⟩)
    · rw [h1]
      clear h1
      go_wp2_with fail
      go_region_held3 (fun w' => Below w5.heap.size w5 w' ∧ w'.cell? ⟨G, 0, none⟩ = some (.slice S m d'))
        (first | exact ⟨(Below.refl _ _).drew, bx⟩ | exact keepS1 ha1 (by assumption) | exact keepS1 ha2 (by assumption) | exact keepS1 ((Below.refl _ _).alloc (Nat.le_refl _) _) (by assumption))
        ((first | (go_at_call 33; refine (I_PlaceOf S m d' xs T k d t _ 1 1 [at_] _ ?_ ?_ ?_ (by omega) (by omega) (by omega)).mono ?_; exact riS hS (by assumption); exact riS hT (by assumption); (first | exact riOne2 _ _ _ | exact (riOne2 _ _ _).drew | exact (riOne _ _).alloc _ | exact ((riOne _ _).alloc _).drew | exact (riOne2 _ _ _).below ha2 | exact (riOne2 _ _ _).drew.below ha2 | exact ((riOne _ _).alloc _).below ha2 | exact ((riOne _ _).alloc _).drew.below ha2 | exact riOne _ _ | exact (riOne _ _).drew); rintro e wa ⟨rfl, ha1⟩) | (go_at_call 39; refine (S_PlaceOf S m d' xs T k d t _ 1 1 [at_] _ ?_ ?_ ?_ (by omega) (by omega) (by omega)).mono ?_; exact riS hS (by assumption); exact riS hT (by assumption); (first | exact riOne2 _ _ _ | exact (riOne2 _ _ _).drew | exact (riOne _ _).alloc _ | exact ((riOne _ _).alloc _).drew | exact (riOne2 _ _ _).below ha1 | exact (riOne2 _ _ _).drew.below ha1 | exact ((riOne _ _).alloc _).below ha1 | exact ((riOne _ _).alloc _).drew.below ha1 | exact riOne _ _ | exact (riOne _ _).drew); rintro e wb ⟨rfl, ha2⟩)))
      all_goals (
        rename_i hq
        have hbz := hq.1
        clear hq
        go_wp2_with fail
        go_ret
        exact ⟨rfl, below_then hB hbz hB.size⟩)
    · rw [h1]
      clear h1
      go_wp2_with fail
      go_region_held3 (fun w' => Below w5.heap.size w5 w' ∧ w'.cell? ⟨G, 0, none⟩ = some (.slice S m d'))
        (first | exact ⟨(Below.refl _ _).drew, bx⟩ | exact keepS1 ha1 (by assumption) | exact keepS1 ha2 (by assumption) | exact keepS1 ((Below.refl _ _).alloc (Nat.le_refl _) _) (by assumption))
        ((first | (go_at_call 33; refine (I_PlaceOf S m d' xs T k d t _ 1 1 [at_] _ ?_ ?_ ?_ (by omega) (by omega) (by omega)).mono ?_; exact riS hS (by assumption); exact riS hT (by assumption); (first | exact riOne2 _ _ _ | exact (riOne2 _ _ _).drew | exact (riOne _ _).alloc _ | exact ((riOne _ _).alloc _).drew | exact (riOne2 _ _ _).below ha2 | exact (riOne2 _ _ _).drew.below ha2 | exact ((riOne _ _).alloc _).below ha2 | exact ((riOne _ _).alloc _).drew.below ha2 | exact riOne _ _ | exact (riOne _ _).drew); rintro e wa ⟨rfl, ha1⟩) | (go_at_call 39; refine (S_PlaceOf S m d' xs T k d t _ 1 1 [at_] _ ?_ ?_ ?_ (by omega) (by omega) (by omega)).mono ?_; exact riS hS (by assumption); exact riS hT (by assumption); (first | exact riOne2 _ _ _ | exact (riOne2 _ _ _).drew | exact (riOne _ _).alloc _ | exact ((riOne _ _).alloc _).drew | exact (riOne2 _ _ _).below ha1 | exact (riOne2 _ _ _).drew.below ha1 | exact ((riOne _ _).alloc _).below ha1 | exact ((riOne _ _).alloc _).drew.below ha1 | exact riOne _ _ | exact (riOne _ _).drew); rintro e wb ⟨rfl, ha2⟩)))
      all_goals (
        rename_i hq
        have hbz := hq.1
        clear hq
        go_wp2_with fail
        go_ret
        exact ⟨rfl, below_then hB hbz hB.size⟩)
  obtain ⟨p, rfl, hp, hTk⟩ := Pl.posOk_nat hpos
  obtain ⟨r, f1, f2, f3, f4, f5, dd, L, f6, f7, f8⟩ := path_facts hTk hp
  have hpk : p < k := by omega
  have hrb : r ≤ 60 := by omega
  have hL60 : L ≤ 60 := by rw [← f7]; exact bd_PathOf xs t dd
  have F2 := Lib.hid f2
  have F3 := Lib.hid f3
  have F4 := Lib.hid f4
  have F5 := Lib.hid f5
  have F6 := Lib.hid f6
  have F7 := Lib.hid f7
  have F8 := Lib.hid f8
  have HT := Lib.hid hTk
  rw [f1] at hP ⊢
  rw [hTk]
  clear f1 f2 f3 f4 f5 f6 f7 f8 hTk hpos hP60
  go_wp2_with fail
  refine (I_AboveOf S m d' xs T k d t p w5 hS hT (by omega) (by omega)).mono ?_
  rintro e w6 ⟨AQ, cQ, rfl, hQ, hb6⟩
  rw [F2.out] at hQ ⊢
  replace hS := hS.below hb6
  replace hT := hT.below hb6
  replace hP := hP.below hb6
  replace bx := keepC hb6 bx
  replace hB := below_then hB hb6 hB.size
  clear hb6
  go_wp2_with fail
  refine (I_DeepestOf S m d' xs T k d t w6 hS hT (by omega) (by omega)).mono ?_
  rintro e w7 ⟨rfl, hb7⟩
  rw [F6.out]
  replace hS := hS.below hb7
  replace hT := hT.below hb7
  replace hP := hP.below hb7
  replace hQ := hQ.below hb7
  replace bx := keepC hb7 bx
  replace hB := below_then hB hb7 hB.size
  clear hb7
  go_wp2_with fail
  have hw : IntKind.i64.wrap ((L : Int) + 1 - 1) = L := by rw [Int.add_sub_cancel, IntKind.wrap_i64]; omega
  have hw2 : IntKind.i64.wrap (L : Int) = L := by rw [IntKind.wrap_i64]; omega
  go_region_held3 (fun w' => Below w7.heap.size w7 w' ∧ w'.cell? ⟨G, 0, none⟩ = some (.slice S m d'))
    (first | exact ⟨(Below.refl _ _).drew, bx⟩ | exact keepS1 ha1 (by assumption) | exact keepS1 ha2 (by assumption) | exact keepS1 ha3 (by assumption))
    ((first | (go_at_call 33; refine (I_PlaceOf S m d' xs T k d t P r cp (V_PathOf xs t p) _ ?_ ?_ ?_ (by omega) (by omega) (by omega)).mono ?_; exact riS hS (by assumption); exact riS hT (by assumption); exact riS hP.ri (by assumption); rintro e wa ⟨rfl, ha1⟩; rw [F3.out]) | (go_at_call 34; refine (I_PathOf S m d' xs T k d t dd _ ?_ ?_ (by omega) (by omega)).mono ?_; exact riS hS (by assumption); exact riS hT (by assumption); rintro e wb ⟨A5, c5, rfl, o5, ha2⟩; rw [F7.out]) | (go_at_call 42; refine (S_DepthOf S m d' xs T k d t _ ?_ ?_ (by omega) (by omega)).mono ?_; exact riS hS (by assumption); exact riS hT (by assumption); rintro e wc ⟨rfl, ha3⟩; rw [F8.out])))
  rename_i hq
  have hb8 := hq.1
  clear hq ha1 ha2 ha3 o5 hw hw2
  replace hS := hS.below hb8
  replace hT := hT.below hb8
  replace hP := hP.below hb8
  replace hQ := hQ.below hb8
  replace bx := keepC hb8 bx
  replace hB := below_then hB hb8 hB.size
  clear hb8
  go_wp2_with fail
  go_loopw [9] (fun v9 wr => ∃ i : Nat, i ≤ r ∧ v9 = .int .i64 i ∧ Below wc.heap.size wc wr) (fun v9 _ => r - (intOf v9).toNat)
  case atStart => exact ⟨0, Nat.zero_le _, rfl, Below.refl _ _⟩
  case round =>
    obtain ⟨i, hi, rfl, hr⟩ := hrel
    have bxr := keepC hr bx
    have hSr := hS.below hr
    have hTr := hT.below hr
    have hPr := hP.below hr
    have hQr := hQ.below hr
    by_cases hlt : i < r
    · obtain ⟨q, e1, e2, e3, e4⟩ := F4.out i hlt
      obtain ⟨gq, oq, z, rfl, hcq, hz⟩ := hQr.ri.at_ hlt
      obtain ⟨gp, op, zp, rfl, hcp, hzp⟩ := hPr.ri.at_ hlt
      obtain rfl : z = (q : Int) := hz.out.trans e1
      have hpart := ri_part hPr.ri 0 i (Nat.zero_le _) hi
      have hcap := own_cap hPr
      have E2 := Lib.hid e2
      have E3 := Lib.hid e3
      have E4 := Lib.hid e4
      clear e1 e2 e3 e4 hz hzp hcp
      have i0' : (0 : Int) ≤ (i : Int) := by omega
      have i1' : (i : Int) ≤ (cp : Int) := by omega
      go_wp2_with fail
      go_region_held3 (fun w' => Below wr.heap.size wr w' ∧ w'.cell? ⟨G, 0, none⟩ = some (.slice S m d') ∧ w'.cell? ⟨gq, oq + i, none⟩ = some (.int .i64 q))
        (first | exact ⟨(Below.refl _ _).drew, bxr, hcq⟩ | exact keepS2 ha1 (by assumption) | exact keepS2 ha2 (by assumption) | exact keepS2 ha3 (by assumption))
        ((first | (go_at_call 33; refine (I_PlaceOf S m d' xs T k d t (some ⟨gp, op, none⟩) i cp ((V_PathOf xs t p).take i) _ ?_ ?_ ?_ (by omega) (by omega) (by omega)).mono ?_; exact riS hSr (by assumption); exact riS hTr (by assumption); exact riS hpart (by assumption); rintro e wd ⟨rfl, ha1⟩; rw [E2.out]) | (go_at_call 43; with_reducible show Calls Try.prog 43 #[_, _, .int .i64 (q : Int), .int .i64 (p : Int)] _ _; refine (I_InsideIn S m d' xs T k d t q p _ ?_ ?_ (by omega) (by omega)).mono ?_; exact riS hSr (by assumption); exact riS hTr (by assumption); rintro e we ⟨rfl, ha2⟩; rw [E3.out]) | (go_at_call 43; with_reducible show Calls Try.prog 43 #[_, _, .int .i64 (p : Int), .int .i64 (q : Int)] _ _; refine (I_InsideIn S m d' xs T k d t p q _ ?_ ?_ (by omega) (by omega)).mono ?_; exact riS hSr (by assumption); exact riS hTr (by assumption); rintro e wf ⟨rfl, ha3⟩; rw [E4.out])))
      rename_i hq
      have hb9 := hq.1
      clear hq ha1 ha2 ha3
      have hr2 := hr.trans (hb9.mono hr.size)
      go_wp2_with fail
      go_roundw
      case rel => exact ⟨i + 1, by omega, by go_num, hr2⟩
      case measure => simp [intOf]; omega
    · obtain rfl : i = r := by omega
      go_wp2_with fail
      refine (I_InsideIn S m d' xs T k d t p p wr hSr hTr (by omega) (by omega)).mono ?_
      rintro e wd ⟨rfl, hb9⟩
      rw [F5.out]
      go_wp2_with fail
      go_ret
      exact ⟨rfl, below_then hB (hr.trans (hb9.mono hr.size)) hB.size⟩
theorem own : ownKnob Try.prog.godebug = none := by kernel_rfl
theorem laidOut : laidOutB Try.prog = true := by kernel_rfl

set_option maxRecDepth 100000 in
theorem lifted (os : Os) (started : os.Started) (H : Type) (enc : TypeId × Value → H) :
    ReturnsInHanded {} Try.checked os 6 .any (Rows.fnPathsSpec.pre6 enc Try.prog Try.f6 Rows.fnPathsRow.domain false) (Rows.fnPathsSpec.post enc Try.prog Try.f6 false true false false) := by
  refine returnsInHanded_of_change (C := Try.checked) own started (by kernel_rfl) Try.func6
    (ChangeSpec.witness6 (enc := enc) (C := Try.checked) false ⟨#[], #[.slice none 0 0], []⟩ 8 (by kernel_rfl) (by kernel_rfl) (by kernel_rfl) (by kernel_rfl)) ?_
  intro W base args ds gs before hval0 hW hcnd _
  have hval : ∀ (j : Nat) t v, Try.f6.params[j]? = some t → args[j]? = some v → Value.okWide Try.prog W .any base t v := hval0
  have hW' := hW
  obtain ⟨p, q, hA0, hV, rfl, hfz, hnd⟩ := hW
  have hA : DataW.TrodAll enc Try.prog W 0 (fun _ => true) true Try.f6.params.toList args.toList ds p := hA0
  rw [Try.params6] at hA hval
  obtain ⟨v0, vs0, d0, ds0, p0, q0, hargs, rfl, rfl, h0, r0⟩ := trodAll_cons hA
  obtain ⟨rfl, rfl, rfl⟩ := trodAll_nil r0
  obtain rfl : args = #[v0] := by cases args; simp_all
  obtain ⟨rfl, rfl⟩ := trodVars_none hV
  have k0 := h0
  have lt0 : ∀ x ∈ p0, x.block < W.heap.size := by obtain ⟨m, hm⟩ := k0; exact DataW.trod_lt m _ _ _ hm
  obtain ⟨A0, n0, c0, rfl, R0, M0⟩ := open_raw Try.underlying22 Try.underlying5 (by kernel_rfl) (hval 0 22 v0 rfl rfl) h0
  unfold maxLen at M0
  clear hA0 hval0
  refine (walk A0 n0 c0 W R0 (by omega)).mono fun e W' ⟨he, bel⟩ => ?_
  subst he
  exact ⟨_, rfl, _, _, _, [], _, [], hW', trodAll_mk1 (shut_bool Try.underlying4 _), (trodAll_cons_mk (Below.trod laidOut (by kernel_rfl) (of_decide_eq_true (by kernel_rfl)) k0 bel lt0) trodAll_mk0), rfl, bel.frame _, fun h => by cases h⟩

theorem over : Rows.fnPathsRow.holds Try.pinned (OpenSpec.ofChange Rows.fnPathsSpec) :=
  OpenClaim.holds_of_wide 6 Try.f6 rfl rfl rfl rfl rfl rfl rfl ⟨rfl, rfl, rfl, rfl, rfl⟩ rfl rfl rfl rfl rfl (by kernel_rfl) Try.func6 (by kernel_rfl)
    (of_decide_eq_true (by kernel_rfl)) (by unfold Func.isWrapper; first | (rw [if_pos (by decide +kernel)]; kernel_rfl) | (rw [if_neg (by decide +kernel)]; exact ⟨rfl, rfl⟩))
    (fun os started H enc _ => lifted os started H enc)

theorem proved : Rows.FnPathsSaid := over
end Go.Proofs.Ytihgolhpdnoooaa.lFnPaths
