/- The law FnTerms: whatever the input, it returns true and leaves its argument alone. -/
import Derived.Test.YtihgolhpdnoooaaOpenB
import Derived.Test.YtihgolhpdnoooaaDrawD
import Derived.Test.YtihgolhpdnoooaaDice
import Derived.Test.YtihgolhpdnoooaaLoc
import Derived.Test.YtihgolhpdnoooaaDepth
import Derived.Test.YtihgolhpdnoooaaPlace
import Derived.Test.YtihgolhpdnoooaaSub
import Derived.Test.YtihgolhpdnoooaaAbove
import Derived.Test.YtihgolhpdnoooaaArgs2
import Derived.Test.YtihgolhpdnoooaaTop1
import Derived.Test.YtihgolhpdnoooaaRows
import Derived.Deep.RegionHeld3
namespace Go.Proofs.Ytihgolhpdnoooaa.lFnTerms
open Go.RowKit Go.ChangeShapes Go.WideShapes Go.ChangeAt
set_option linter.unusedVariables false
set_option linter.unusedSimpArgs false

theorem dep_no {xs t : List Int} (h : Pl.termOk xs t = false) : V_DepthOf xs t = 0 := depthOf_no h
theorem end_no {xs t : List Int} {p : Int} (h : Pl.termOk xs t = false) : Pl.endOfV xs t p = -1 := by
  unfold Pl.endOfV Pl.posOk; rw [h]; rfl
theorem mx_step (g : Nat → Nat) (Q : List Nat) (k : Nat) (hk : k < Q.length) : (Q.take (k + 1)).foldl (fun d q => max d (g q)) 0 = max ((Q.take k).foldl (fun d q => max d (g q)) 0) (g (Q.getD k 0)) := by
  rw [List.take_succ_eq_append_getElem hk, List.foldl_append]
  simp [List.getD_eq_getElem?_getD, hk]
theorem fm_step (g : Nat → List Int) (Q : List Nat) (k : Nat) (hk : k < Q.length) : (Q.take (k + 1)).flatMap g = (Q.take k).flatMap g ++ g (Q.getD k 0) := by
  rw [List.take_succ_eq_append_getElem hk, List.flatMap_append]
  simp [List.getD_eq_getElem?_getD, hk]
/-- The parts of a right term, as the law speaks of them. -/
theorem part_at {xs t : List Int} (hT : Pl.termOk xs t = true) {p k : Nat} (hp : p < t.length) (hk : k < (Pl.args (Pl.ari xs) t p).length) :
    ∃ q : Nat, (nats (Pl.args (Pl.ari xs) t p)).getD k 0 = q ∧ q = (Pl.args (Pl.ari xs) t p).getD k 0 ∧ V_SubAt xs t q = Pl.sub (Pl.ari xs) t q ∧ V_DepthOf xs (Pl.sub (Pl.ari xs) t q) = (dep xs t q : Nat) ∧ (Pl.sub (Pl.ari xs) t q).length ≤ 60 := by
  obtain ⟨hs, hl, hr⟩ := Pl.termOk_iff.1 hT
  have hmem : (Pl.args (Pl.ari xs) t p).getD k 0 ∈ Pl.args (Pl.ari xs) t p := by
    rw [List.getD_eq_getElem?_getD, List.getElem?_eq_getElem hk]; exact List.getElem_mem hk
  have hm := Pl.args_mem hr hp _ hmem
  have hso := Pl.sub_ok hT hm.2.2.1
  refine ⟨_, nats_getD _ _ hk, rfl, ?_, ?_, (Pl.termOk_iff.1 hso).2.1.2⟩
  · exact subAt_yes (Pl.posOk_iff.2 ⟨hT, by omega, by omega⟩)
  · rw [depthOf_yes hso]
    unfold dep
    rw [Pl.sub_dep hr hm.2.2.1]
set_option maxHeartbeats 4000000 in
set_option maxRecDepth 20000 in
theorem walk (A : Option Addr) (n c : Nat) (w : World) (h : BI w A n) (hn : n ≤ 9223372036854775807) :
    Calls Try.prog 3 #[.slice A n c] w fun e w' => e = .returned (.bool true) ∧ Below w.heap.size w w' := by
  obtain ⟨i0, hi, hz0, hz1, hz2⟩ := info_parts infoInt64
  by_cases hb : 4096 < n
  · have E := Lib.hid (decide_eq_true hb)
    go_enter Try.func3, Try.ntmps3
    go_wp2_with fail
    refine (big_any A n c _ hn).mono ?_
    rintro e w1 ⟨rfl, rfl⟩
    rw [E.out]
    go_wp2_with fail
    go_ret
    exact ⟨rfl, Below.refl _ _⟩
  have hn2 : n ≤ 4096 := by omega
  have E := Lib.hid (decide_eq_false hb)
  clear hb
  go_enter Try.func3, Try.ntmps3
  go_wp2_with fail
  refine (big_any A n c _ hn).mono ?_
  rintro e w1 ⟨rfl, rfl⟩
  rw [E.out]
  go_wp2_with fail
  refine (DrawTermOk_any A n c w h hn2).mono ?_
  rintro e w1 ⟨S, m, d', xs, T, k, d, t, rfl, hS, hm, hT, hk, ⟨hkd, hd⟩, hB⟩
  replace h := h.below hB
  have bx : (w1.alloc (.cells #[.slice S m d'] 26)).cell? ⟨w1.heap.size, 0, none⟩ = some (.slice S m d') := (Blk.new w1 26 #[.slice S m d']).cell 0
  go_wp2_with fail
  replace h := h.below ((Below.refl _ _).alloc (Nat.le_refl _) (.cells #[.slice S m d'] 26))
  replace hS := hS.alloc (.cells #[.slice S m d'] 26)
  replace hT := hT.alloc (.cells #[.slice S m d'] 26)
  replace hB := hB.alloc hB.size (.cells #[.slice S m d'] 26)
  generalize w1.alloc (.cells #[.slice S m d'] 26) = W1 at *
  generalize w1.heap.size = G at *
  go_region_held3 (fun w' => Below W1.heap.size W1 w' ∧ w'.cell? ⟨G, 0, none⟩ = some (.slice S m d'))
    (first | exact ⟨(Below.refl _ _).drew, bx⟩ | exact keepS1 ha1 (by assumption) | exact keepS1 ha2 (by assumption))
    ((first | (go_at_call 13; refine (I_TermOk S m d' xs T k d t _ ?_ ?_ (by omega) (by omega)).mono ?_; exact riS hS (by assumption); exact riS hT (by assumption); rintro e w2 ⟨rfl, ha1⟩) | (go_at_call 14; refine (S_TermOk S m d' xs T k d t _ ?_ ?_ (by omega) (by omega)).mono ?_; exact riS hS (by assumption); exact riS hT (by assumption); rintro e w3 ⟨rfl, ha2⟩)))
  rename_i hq
  have hb3 := hq.1
  clear hq ha1 ha2
  replace h := h.below hb3
  replace hS := hS.below hb3
  replace hT := hT.below hb3
  replace bx := keepC hb3 bx
  replace hB := below_then hB hb3 hB.size
  clear hb3
  go_wp2_with fail
  refine (S_TermOk S m d' xs T k d t w3 hS hT (by omega) (by omega)).mono ?_
  rintro e w4 ⟨rfl, hb4⟩
  replace h := h.below hb4
  replace hS := hS.below hb4
  replace hT := hT.below hb4
  replace bx := keepC hb4 bx
  replace hB := below_then hB hb4 hB.size
  clear hb4
  cases hok : Pl.termOk xs t
  · have H1 := Lib.hid (dep_no hok)
    have H2 := Lib.hid (end_no (p := 0) hok)
    have H3 := Lib.hid (symPlaces_no hok)
    clear hok
    go_wp2_with fail
    refine (I_DepthOf S m d' xs T k d t w4 hS hT (by omega) (by omega)).mono ?_
    rintro e w5 ⟨rfl, hb5⟩
    rw [H1.out]
    replace h := h.below hb5
    replace hS := hS.below hb5
    replace hT := hT.below hb5
    replace bx := keepC hb5 bx
    replace hB := below_then hB hb5 hB.size
    clear hb5
    go_wp2_with fail
    refine (I_EndOf S m d' xs T k d t 0 w5 hS hT (by omega) (by omega)).mono ?_
    rintro e w6 ⟨rfl, hb6⟩
    rw [H2.out]
    replace h := h.below hb6
    replace hS := hS.below hb6
    replace hT := hT.below hb6
    replace bx := keepC hb6 bx
    replace hB := below_then hB hb6 hB.size
    clear hb6
    go_wp2_with fail
    refine (I_SymPlaces S m d' xs T k d t w6 hS hT (by omega) (by omega)).mono ?_
    rintro e w7 ⟨A', c', rfl, _, hb7⟩
    rw [H3.out]
    replace h := h.below hb7
    replace hS := hS.below hb7
    replace hT := hT.below hb7
    replace bx := keepC hb7 bx
    replace hB := below_then hB hb7 hB.size
    clear hb7
    go_wp2_with fail
    go_ret
    exact ⟨rfl, hB⟩
  obtain ⟨hsg, hl, hr⟩ := Pl.termOk_iff.1 hok
  have hlk : Hid (t.length = k) := Lib.hid hT.1
  rw [hT.1] at hl
  have HT := Lib.hid hok
  have HR := Lib.hid hr
  clear hok hr
  go_wp2_with fail
  refine (roll_any A n c 701 w4 h hn2).mono ?_
  rintro e w5 ⟨rfl, hD, hb5⟩
  go_wp2_with fail
  refine (below_any _ A n c k w5 hD (by omega) (by omega)).mono ?_
  rintro e w6 ⟨x, rfl, hx0, hx1, hD6, ho6⟩
  obtain ⟨p, rfl⟩ : ∃ p : Nat, x = p := ⟨x.toNat, by omega⟩
  have hb6 := hb5.trans (ho6.below (B := w4.heap.size) (Nat.le_refl _) hb5.size)
  clear hb5 hD ho6 hD6
  replace h := h.below hb6
  replace hS := hS.below hb6
  replace hT := hT.below hb6
  replace bx := keepC hb6 bx
  replace hB := below_then hB hb6 hB.size
  clear hb6
  have hp : p < k := by omega
  have hGlt : (⟨G, 0, none⟩ : Addr).block < w6.heap.size := World.block_lt_of_cell? w6 _ bx
  have hpt : p < t.length := by rw [hlk.out]; exact hp
  obtain ⟨g, off, y, rfl, hc, hy⟩ := hT.at_ hp
  have bxa := keepC ((Below.refl _ w6).alloc (Nat.le_refl _) (.cells #[.int .i64 y] 2)) bx
  go_wp2_with fail
  have hA := OI.of_blk (xs := [y]) (Blk.new w6 2 #[.int .i64 y]) (by show 1 ≤ 1048576; omega)
  have hB6 := (Below.refl w6.heap.size w6).alloc (Nat.le_refl _) (.cells #[.int .i64 y] 2)
  have hlt6 : w6.heap.size < (w6.alloc (.cells #[.int .i64 y] 2)).heap.size := by simp
  clear h hc bxa
  generalize w6.alloc (.cells #[.int .i64 y] 2) = W6 at *
  refine (I_ArgsAt S m d' xs _ k d t p W6 (hS.below hB6) (hT.below hB6) (by omega) (by omega)).mono ?_
  rintro e w7 ⟨AQ, cQ, rfl, hQ, hb7⟩
  replace hA := hA.below hb7
  replace hB6 := below_then hB6 hb7 (by omega)
  have hN : Hid (∀ b, blk (some (⟨w6.heap.size, 0, none⟩ : Addr)) = some b → blk AQ ≠ some b) := Lib.hid (fun b hb hb2 => by
    have := (hQ.lt_ hb2).1
    simp [blk] at hb
    omega)
  have hlt7 := hb7.size
  clear hb7
  have hPQ := argsAt_yes (Pl.posOk_iff.2 ⟨HT.out, (by omega : (0 : Int) ≤ (p : Int)), by rw [hlk.out]; omega⟩)
  have hQ3 : (Pl.args (Pl.ari xs) t p).length ≤ 60 := by have := bd_ArgsAt xs t p; rw [hPQ, nats_length] at this; exact this
  rw [hPQ, nats_length] at hQ ⊢
  clear hPQ
  have HP := Lib.hid (fun i hi => part_at HT.out hpt (k := i) hi)
  have H1 := Lib.hid (Pl.again_sub HR.out hpt)
  have H2 := Lib.hid (Pl.depth_args HR.out hpt)
  have hsl := Pl.sub_len HR.out hpt
  have hso := Pl.sub_ok HT.out hpt
  have hfin := (Pl.fin_of HR.out hpt).2.1
  have H3 : Hid (Pl.endOfV xs t p = (p : Int) + ((Pl.sub (Pl.ari xs) t p).length : Nat)) := Lib.hid (by
    unfold Pl.endOfV
    rw [Pl.posOk_iff.2 ⟨HT.out, (by omega : (0 : Int) ≤ (p : Int)), by rw [hlk.out]; omega⟩, if_pos rfl, hsl, Int.toNat_natCast]
    omega)
  have H4 : Hid (V_DepthOf xs (Pl.sub (Pl.ari xs) t p) = (dep xs t p : Nat)) := Lib.hid (by
    rw [depthOf_yes hso]; unfold dep; rw [Pl.sub_dep HR.out hpt])
  have H5 := Lib.hid hso
  have H6 : Hid (V_SubAt xs t p = Pl.sub (Pl.ari xs) t p) := Lib.hid (subAt_yes (Pl.posOk_iff.2 ⟨HT.out, by omega, by rw [hlk.out]; omega⟩))
  have hs60 : (Pl.sub (Pl.ari xs) t p).length ≤ 60 := (Pl.termOk_iff.1 hso).2.1.2
  have hy2 : Hid (t.getD p 0 = y) := Lib.hid hy.out.symm
  clear hsl hso hfin hy
  generalize Pl.args (Pl.ari xs) t p = Q at *
  have HQ : Hid (Q.length = Q.length) := Lib.hid rfl
  obtain ⟨r, hr⟩ : ∃ r, Q.length = r := ⟨_, rfl⟩
  rw [hr] at hQ hQ3 ⊢
  have HQl := Lib.hid hr
  clear hr HQ
  go_wp2_with fail
  go_loopw [7, 9, 10] (fun v7 v9 v10 wr => ∃ (i : Nat) (A2 : Option Addr) (c2 : Nat) (l : List Int) (dd : Nat), v10 = .int .i64 i ∧ v7 = .slice A2 l.length c2 ∧ v9 = .int .i64 dd ∧ i ≤ r ∧ l.length ≤ 1 + 60 * i ∧ Hid (l = y :: (Q.take i).flatMap (Pl.sub (Pl.ari xs) t)) ∧ Hid (dd = (Q.take i).foldl (fun d q => max d (Pl.depth (Pl.ari xs) t t.length q)) 0) ∧ Hid (OI wr w6.heap.size A2 l.length c2 l) ∧ Hid (∀ b, blk A2 = some b → blk AQ ≠ some b) ∧ OI wr W6.heap.size AQ r cQ (nats Q) ∧ Below w6.heap.size w6 wr ∧ w7.heap.size ≤ wr.heap.size) (fun _ _ v10 _ => r - (intOf v10).toNat)
  case atStart => exact ⟨0, _, _, [y], 0, rfl, rfl, rfl, Nat.zero_le _, by simp, Lib.hid rfl, Lib.hid rfl, Lib.hid hA, hN, hQ, hB6, Nat.le_refl _⟩
  case round =>
    clear hA hN hQ hB6
    obtain ⟨i, A2, c2, l, dd, rfl, rfl, rfl, hir, hll, HL, HD, HO, HN, hQ, hB6, hlt8⟩ := hrel
    have hSr := hS.below hB6
    have hTr := hT.below hB6
    have bxr := keepC hB6 bx
    by_cases hlt : i < r
    · obtain ⟨q, e1, e2, e3, e4, e5⟩ := HP.out i (by rw [HQl.out]; omega)
      obtain ⟨gq, oq, z, rfl, hcq, hz⟩ := hQ.ri.at_ hlt
      obtain rfl : z = (q : Int) := hz.out.trans e1
      have E2 := Lib.hid e2
      have E3 := Lib.hid e3
      have E4 := Lib.hid e4
      clear e1 e2 e3 e4 hz
      go_wp2_with fail
      go_region_held3 (fun w' => Below wr.heap.size wr w' ∧ w'.cell? ⟨G, 0, none⟩ = some (.slice S m d') ∧ w'.cell? ⟨gq, oq + i, none⟩ = some (.int .i64 q))
        (first | exact ⟨(Below.refl _ _).drew, bxr, hcq⟩ | exact keepS2 ha1 (by assumption))
        ((go_at_call 21; refine (I_SubAt S m d' xs _ k d t q _ ?_ ?_ (by omega) (by omega) (by omega) (by omega)).mono ?_; exact riS hSr (by assumption); exact riS hTr (by assumption); rintro e w8 ⟨A3, c3, rfl, o3, ha1⟩))
      rename_i hq
      have hb8 := hq.1
      have hsz8 := ha1.size
      clear hq ha1
      rw [E3.out] at o3 ⊢
      generalize hse : Pl.sub (Pl.ari xs) t q = s at *
      have HSe := Lib.hid hse
      clear hse
      have hO8 := Lib.hid (HO.out.below hb8)
      replace hQ := hQ.below hb8
      replace hB6 := below_then hB6 hb8 hB6.size
      replace bxr := keepC hb8 bxr
      have hsz := hb8.size
      replace o3 : OI w8 wr.heap.size A3 s.length c3 s := o3
      have o3lt := fun b h => o3.lt_ (b := b) h
      have o2lt := fun b h => HO.out.lt_ (b := b) h
      clear hb8 hSr hTr hcq
      go_wp2_with (at_builtin; refine wpList_append_sep rfl _ _ 24 rfl w6.heap.size 2 i0 (.int .i64 0) 1 8 Try.underlying24 hi hz0 hz1 hz2 rfl (by omega) A2 l.length c2 (l.map (Value.int .i64)) rfl hO8.out A3 s.length c3 (s.map (Value.int .i64)) rfl (Src.ints o3.ri) (by unfold maxLen; omega) (by omega) (by omega) ?_; intro A4 c4 w9 ho9 hg9 hnil9 hwh; have hgb := grown_below hg9 hO8.out (by omega); have bx9 : w9.cell? ⟨G, 0, none⟩ = some (.slice S m d') := (hgb.cell hGlt).trans bxr)
      have hO9 : Hid (OI w9 w6.heap.size A4 (l ++ s).length c4 (l ++ s)) := Lib.hid (by rw [List.length_append]; unfold OI; rw [List.map_append]; exact ho9)
      have hN9 : Hid (∀ b, blk A4 = some b → blk (some (⟨gq, oq, none⟩ : Addr)) ≠ some b) := Lib.hid (fun b hb => by
        rcases hwh with e | e
        · rw [e] at hb; exact HN.out b hb
        · intro hb2
          rw [e] at hb
          have := (hQ.lt_ hb2).2
          simp [blk] at hb
          omega)
      have hQ9 : OI w9 W6.heap.size (some ⟨gq, oq, none⟩) r cQ (nats Q) := hQ.same fun b hb => hg9.block b (hQ.lt_ hb).2 (fun e => HN.out b (by rw [← blk_own A2 l.length c2]; exact e.symm) hb)
      have o9 := o3.same (w' := w9) fun b hb => hg9.block b (o3lt b hb).2 (fun e => by
        have h1 := (o3lt b hb).1
        have h2 := (o2lt b (by rw [← blk_own A2 l.length c2]; exact e.symm)).2
        omega)
      have hB9 := hB6.trans hgb
      have hsz9 := hg9.size
      clear ho9 hg9 hnil9 hwh hO8 HO HN hQ o3 hgb hB6 o3lt o2lt bxr
      refine (I_DepthOf S m d' xs A3 s.length c3 s w9 (hS.below hB9) o9.ri (by omega) (by omega)).mono ?_
      rintro e w10 ⟨rfl, hb10⟩
      rw [E4.out]
      have hO10 := Lib.hid (hO9.out.below hb10)
      have hQ10 := hQ9.below hb10
      have hB10 := below_then hB9 hb10 hB9.size
      have hs10 := hb10.size
      have hdq : dep xs t q ≤ 61 := by
        have : dep xs t q ≤ t.length := Pl.depth_le _ _
        rw [hlk.out] at this; omega
      have hmx := mx_step (Pl.depth (Pl.ari xs) t t.length) Q i (by rw [HQl.out]; exact hlt)
      have hfm := fm_step (Pl.sub (Pl.ari xs) t) Q i (by rw [HQl.out]; exact hlt)
      rw [← E2.out] at hmx hfm
      rw [← HD.out] at hmx
      rw [HSe.out] at hfm
      have HL9 : Hid (l ++ s = y :: (Q.take (i + 1)).flatMap (Pl.sub (Pl.ari xs) t)) := Lib.hid (by rw [hfm, HL.out, List.cons_append])
      have hll9 : (l ++ s).length ≤ 1 + 60 * (i + 1) := by rw [List.length_append]; omega
      have hdq2 : dep xs t q = Pl.depth (Pl.ari xs) t t.length q := rfl
      rw [← hdq2] at hmx
      clear hb10 hO9 hQ9 hB9 bx9 o9 HL HD E2 E3 E4 HSe hfm hdq2
      generalize dep xs t q = dq at *
      generalize hLe : l ++ s = L at *
      have hLl : l.length + s.length = L.length := by rw [← hLe, List.length_append]
      rw [hLl]
      clear hLe hLl
      by_cases hc : dd < dq
      · have HD9 : Hid (dq = (Q.take (i + 1)).foldl (fun d q => max d (Pl.depth (Pl.ari xs) t t.length q)) 0) := Lib.hid (by rw [hmx]; omega)
        clear hmx
        go_wp2_with fail
        go_roundw
        case rel => exact ⟨i + 1, A4, c4, L, dq, by go_num, rfl, rfl, by omega, hll9, HL9, HD9, hO10, hN9, hQ10, hB10, by omega⟩
        case measure => simp [intOf]; omega
      · have HD9 : Hid (dd = (Q.take (i + 1)).foldl (fun d q => max d (Pl.depth (Pl.ari xs) t t.length q)) 0) := Lib.hid (by rw [hmx]; omega)
        clear hmx
        go_wp2_with fail
        go_roundw
        case rel => exact ⟨i + 1, A4, c4, L, dd, by go_num, rfl, rfl, by omega, hll9, HL9, HD9, hO10, hN9, hQ10, hB10, by omega⟩
        case measure => simp [intOf]; omega
    · obtain rfl : i = r := by omega
      have e1 : Q.take i = Q := List.take_of_length_le (by rw [HQl.out]; exact Nat.le_refl _)
      have h1 := HL.out
      have h2 := HD.out
      rw [e1] at h1 h2
      rw [← hy2.out, H1.out] at h1
      have h3 := H2.out
      rw [← h2] at h3
      have h3' : dep xs t p = dd + 1 := h3
      have h4 := H4.out
      rw [h3'] at h4
      generalize Pl.sub (Pl.ari xs) t p = s at *
      obtain rfl := h1
      have E4 : Hid (V_DepthOf xs l = (dd : Int) + 1) := Lib.hid (by rw [h4]; omega)
      have HOr := Lib.hid HO.out
      have hdd : dd ≤ 61 := by
        have : dep xs t p ≤ t.length := Pl.depth_le _ _
        rw [hlk.out] at this; omega
      clear e1 h2 h3 h3' h4 HL HD HN hQ H1 H2 H4 HP HO
      go_wp2_with fail
      refine (I_SubAt S m d' xs _ k d t p wr hSr hTr (by omega) (by omega) (by omega) (by omega)).mono ?_
      rintro e w8 ⟨A3, c3, rfl, o3, hb8⟩
      rw [H6.out] at o3 ⊢
      have hB8 := below_then hB6 hb8 hB6.size
      have hO8 := HOr.out.below hb8
      have bx8 := keepC hB8 bx
      go_wp2_with fail
      refine (implSameTerm_any A2 l.length c2 l A3 l.length c3 l w8 hO8.ri o3.ri (by omega)).mono ?_
      rintro e w9 ⟨rfl, hb9⟩
      rw [show decide (l = l) = true from decide_eq_true rfl]
      have hB9 := below_then hB8 hb9 hB8.size
      have o9 := o3.below hb9
      have bx9 := keepC hB9 bx
      go_wp2_with fail
      refine (I_EndOf S m d' xs _ k d t p w9 (hS.below hB9) (hT.below hB9) (by omega) (by omega)).mono ?_
      rintro e w10 ⟨rfl, hb10⟩
      rw [H3.out]
      have hB10 := below_then hB9 hb10 hB9.size
      have o10 := o9.below hb10
      have bx10 := keepC hB10 bx
      go_wp2_with fail
      refine (I_DepthOf S m d' xs A3 l.length c3 l w10 (hS.below hB10) o10.ri (by omega) (by omega)).mono ?_
      rintro e w11 ⟨rfl, hb11⟩
      rw [E4.out]
      have hB11 := below_then hB10 hb11 hB10.size
      have o11 := o10.below hb11
      have bx11 := keepC hB11 bx
      go_wp2_with fail
      refine (I_TermOk S m d' xs A3 l.length c3 l w11 (hS.below hB11) o11.ri (by omega) (by omega)).mono ?_
      rintro e w12 ⟨rfl, hb12⟩
      rw [H5.out]
      have hB12 := below_then hB11 hb12 hB11.size
      go_wp2_with fail
      go_ret
      exact ⟨rfl, below_then hB hB12 hB.size⟩

theorem own : ownKnob Try.prog.godebug = none := by kernel_rfl
theorem laidOut : laidOutB Try.prog = true := by kernel_rfl

set_option maxRecDepth 100000 in
theorem lifted (os : Os) (started : os.Started) (H : Type) (enc : TypeId × Value → H) :
    ReturnsInHanded {} Try.checked os 3 .any (Rows.fnTermsSpec.pre6 enc Try.prog Try.f3 Rows.fnTermsRow.domain false) (Rows.fnTermsSpec.post enc Try.prog Try.f3 false true false false) := by
  refine returnsInHanded_of_change (C := Try.checked) own started (by kernel_rfl) Try.func3
    (ChangeSpec.witness6 (enc := enc) (C := Try.checked) false ⟨#[], #[.slice none 0 0], []⟩ 8 (by kernel_rfl) (by kernel_rfl) (by kernel_rfl) (by kernel_rfl)) ?_
  intro W base args ds gs before hval0 hW hcnd _
  have hval : ∀ (j : Nat) t v, Try.f3.params[j]? = some t → args[j]? = some v → Value.okWide Try.prog W .any base t v := hval0
  have hW' := hW
  obtain ⟨p, q, hA0, hV, rfl, hfz, hnd⟩ := hW
  have hA : DataW.TrodAll enc Try.prog W 0 (fun _ => true) true Try.f3.params.toList args.toList ds p := hA0
  rw [Try.params3] at hA hval
  obtain ⟨v0, vs0, d0, ds0, p0, q0, hargs, rfl, rfl, h0, r0⟩ := trodAll_cons hA
  obtain ⟨rfl, rfl, rfl⟩ := trodAll_nil r0
  obtain rfl : args = #[v0] := by cases args; simp_all
  obtain ⟨rfl, rfl⟩ := trodVars_none hV
  have k0 := h0
  have lt0 : ∀ x ∈ p0, x.block < W.heap.size := by obtain ⟨m, hm⟩ := k0; exact DataW.trod_lt m _ _ _ hm
  obtain ⟨A0, n0, c0, rfl, R0, M0⟩ := open_raw Try.underlying22 Try.underlying5 (by kernel_rfl) (hval 0 22 v0 rfl rfl) h0
  unfold maxLen at M0
  clear hA0 hval0
  refine (walk A0 n0 c0 W R0 (by omega)).mono fun e W' ⟨he, bel⟩ => ?_
  subst he
  exact ⟨_, rfl, _, _, _, [], _, [], hW', trodAll_mk1 (shut_bool Try.underlying4 _), (trodAll_cons_mk (Below.trod laidOut (by kernel_rfl) (of_decide_eq_true (by kernel_rfl)) k0 bel lt0) trodAll_mk0), rfl, bel.frame _, fun h => by cases h⟩

theorem over : Rows.fnTermsRow.holds Try.pinned (OpenSpec.ofChange Rows.fnTermsSpec) :=
  OpenClaim.holds_of_wide 3 Try.f3 rfl rfl rfl rfl rfl rfl rfl ⟨rfl, rfl, rfl, rfl, rfl⟩ rfl rfl rfl rfl rfl (by kernel_rfl) Try.func3 (by kernel_rfl)
    (of_decide_eq_true (by kernel_rfl)) (by unfold Func.isWrapper; first | (rw [if_pos (by decide +kernel)]; kernel_rfl) | (rw [if_neg (by decide +kernel)]; exact ⟨rfl, rfl⟩))
    (fun os started H enc _ => lifted os started H enc)

theorem proved : Rows.FnTermsSaid := over
end Go.Proofs.Ytihgolhpdnoooaa.lFnTerms
