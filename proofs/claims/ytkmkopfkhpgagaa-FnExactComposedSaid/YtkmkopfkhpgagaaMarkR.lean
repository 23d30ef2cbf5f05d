/- Contracts: the marks that a statement lays into slices of slices and asks for again. -/
import Derived.Test.YtkmkopfkhpgagaaMark
import Derived.Test.YtkmkopfkhpgagaaSubst
namespace Go.Proofs.Ytkmkopfkhpgagaa
open Go.RowKit
set_option linter.unusedVariables false

/-- A call that writes one row alone. -/
theorem markOne_any (lo hi : Nat) (A : Option Addr) (n c : Nat) (xs : List Int) (k : Int) (w : World) (h : OX w lo hi A n c xs) (h0 : 0 ≤ k) (h1 : k + n ≤ 9223372036854775806) :
    Calls Try.prog 60 #[.slice A n c, .int .i64 k] w fun e w' => e = .returned (.int .i64 (k + n)) ∧ OX w' lo hi A n c (marks k n) ∧ Only lo hi w w' ∧ (∀ b, b < w.heap.size → blk A ≠ some b → w'.heap[b]? = w.heap[b]?) := by
  rcases h.1.2 with ⟨hv, hn⟩ | ⟨g, cap, cur, hv, hB, _⟩
  · simp only [Value.slice.injEq] at hv
    obtain ⟨rfl, rfl, rfl⟩ := hv
    have hx : xs = [] := List.eq_nil_of_length_eq_zero h.1.ri.1
    subst hx
    have h2 : OX w 0 0 none 0 0 [] := ⟨World.ownsRow_nil _ _ _ _, fun a ha => by cases ha⟩
    refine (markInt64S_any 0 0 none 0 0 [] k w h2 h0 h1).mono fun e w' ⟨he, ho, hq⟩ => ⟨he, ⟨World.ownsRow_nil _ _ _ _, fun a ha => by cases ha⟩, ⟨hq.os, hq.tape, hq.output, hq.size, fun i hi _ => hq.block i hi (by omega)⟩, fun b hb _ => hq.block b hb (by omega)⟩
  · have hA : A = some ⟨g, 0, none⟩ := by injection hv
    have hh := h.2 _ hA
    dsimp only at hh
    have h2 : OX w g (g + 1) A n c xs := by
      refine ⟨⟨h.1.1, ?_⟩, fun a ha => by rw [hA] at ha; injection ha with ha; subst ha; simp⟩
      rcases h.1.2 with hn | ⟨g', cap', cur', hv', _, rest⟩
      · exact .inl hn
      · have : g' = g := by rw [hv] at hv'; injection hv' with e; injection e with e; injection e with e; exact e.symm
        exact .inr ⟨g', cap', cur', hv', by omega, rest⟩
    refine (markInt64S_any g (g + 1) A n c xs k w h2 h0 h1).mono fun e w' ⟨he, ho, hq⟩ => ⟨he, ⟨ho.1.base hB, h.2⟩, hq.wide hB (by omega), fun b hb hne => hq.block b hb ?_⟩
    have : b ≠ g := fun e => hne (by rw [hA, e]; rfl)
    omega
def sumR (x : List (List Int)) : Nat := (x.map List.length).sum
theorem sumR_le (x : List (List Int)) : sumR x ≤ wtR x := by unfold sumR wtR; omega
theorem lens_sum {x : List (List Int)} {n : Nat} (h : x.length = n) : lens x n = sumR x := by unfold lens sumR; rw [List.take_of_length_le (by omega)]
theorem lens_sumle (x : List (List Int)) (k : Nat) : lens x k ≤ sumR x := by unfold lens sumR; exact sum_le x k
/-- The first j rows bear marks. -/
def mkTo (k : Int) (x : List (List Int)) (j : Nat) : List (List Int) := (List.range x.length).map fun i => if i < j then marks (k + (lens x i : Nat)) (x.getD i []).length else x.getD i []
def mkR (k : Int) (x : List (List Int)) : List (List Int) := mkTo k x x.length
theorem mkTo_len (k : Int) (x : List (List Int)) (j : Nat) : (mkTo k x j).length = x.length := by simp [mkTo]
theorem mkTo_get (k : Int) (x : List (List Int)) (j : Nat) {i : Nat} (hi : i < x.length) : (mkTo k x j).getD i [] = if i < j then marks (k + (lens x i : Nat)) (x.getD i []).length else x.getD i [] := by
  unfold mkTo
  rw [List.getD_eq_getElem?_getD, List.getElem?_map, List.getElem?_range hi]
  rfl
theorem mkTo_zero (k : Int) (x : List (List Int)) : mkTo k x 0 = x := by
  apply List.ext_getElem?
  intro i
  unfold mkTo
  rw [List.getElem?_map]
  by_cases hi : i < x.length
  · rw [List.getElem?_range hi]
    simp [List.getD_eq_getElem?_getD, List.getElem?_eq_getElem hi]
  · rw [List.getElem?_eq_none (by simpa using hi), List.getElem?_eq_none (by omega)]; rfl
theorem mkTo_step (k : Int) (x : List (List Int)) {j : Nat} (hj : j < x.length) : (mkTo k x j).set j (marks (k + (lens x j : Nat)) (x.getD j []).length) = mkTo k x (j + 1) := by
  apply List.ext_getElem?
  intro i
  rw [List.getElem?_set]
  unfold mkTo
  by_cases hi : i < x.length
  · rw [List.getElem?_map, List.getElem?_map, List.getElem?_range hi, List.length_map, List.length_range]
    by_cases hij : j = i
    · subst hij
      rw [if_pos rfl, if_pos hj]
      simp
    · rw [if_neg hij]
      simp only [Option.map_some]
      by_cases h2 : i < j
      · rw [if_pos h2, if_pos (by omega)]
      · rw [if_neg h2, if_neg (by omega)]
  · rw [if_neg (by omega), List.getElem?_eq_none (by simpa using hi), List.getElem?_eq_none (by simpa using hi)]
theorem mkTo_row (k : Int) (x : List (List Int)) (j : Nat) {i : Nat} (hi : i < x.length) : ((mkTo k x j).getD i []).length = (x.getD i []).length := by
  rw [mkTo_get k x j hi]; split
  · rw [marks_length]
  · rfl
theorem rowV_set {rs : List (Option Addr × Nat)} {y : List (List Int)} {j : Nat} {t : List Int} (ht : t.length = (y.getD j []).length) : List.zipWith rowV rs (y.set j t) = List.zipWith rowV rs y := by
  apply List.ext_getElem?
  intro i
  rw [List.getElem?_zipWith, List.getElem?_zipWith, List.getElem?_set]
  by_cases hij : j = i
  · subst hij
    rw [if_pos rfl]
    by_cases hj : j < y.length
    · rw [if_pos hj, List.getElem?_eq_getElem hj]
      rw [List.getD_eq_getElem?_getD, List.getElem?_eq_getElem hj, Option.getD_some] at ht
      cases rs[j]? <;> simp [rowV, ht]
    · rw [if_neg hj, show y[j]? = none from List.getElem?_eq_none (by omega)]
  · rw [if_neg hij]
theorem getD_set {y : List (List Int)} {j k : Nat} {t : List Int} (hk : k < y.length) : (y.set j t).getD k [] = if j = k then t else y.getD k [] := by
  simp only [List.getD_eq_getElem?_getD, List.getElem?_set]
  by_cases h : j = k
  · subst h; rw [if_pos rfl, if_pos hk, if_pos rfl]; rfl
  · rw [if_neg h, if_neg h]
theorem OR.row {w : World} {lo hi : Nat} {A : Option Addr} {n c : Nat} {y : List (List Int)} (h : OR w lo hi A n c y) {j : Nat} (hj : j < n) :
    ∃ g A' c', A = some ⟨g, 0, none⟩ ∧ w.cell? ⟨g, j, none⟩ = some (.slice A' (y.getD j []).length c') ∧ OX w lo hi A' (y.getD j []).length c' (y.getD j []) ∧
      (∀ (w' : World) (t' : List Int), t'.length = (y.getD j []).length → OI w' lo A' (y.getD j []).length c' t' → (∀ b, b < w.heap.size → blk A' ≠ some b → w'.heap[b]? = w.heap[b]?) → OR w' lo hi A n c (y.set j t')) := by
  obtain ⟨hl, rs, h2, h3, h4, h5⟩ := h
  have hrl := h3.1
  rcases h2.2 with ⟨_, h0⟩ | ⟨g, cap, cur, hv, hB, _⟩
  · omega
  · simp only [Value.slice.injEq] at hv
    obtain ⟨rfl, _, rfl⟩ := hv
    have hc := h2.cellAt j (by omega)
    have ho := h3.2.1 j (by omega)
    refine ⟨g, (rs.getD j (none, 0)).1, (rs.getD j (none, 0)).2, rfl, ?_, ⟨ho, fun a ha => h5 j (by omega) a.block (by rw [ha]; rfl)⟩, fun w' t' ht ho' hs => ?_⟩
    · rw [hc, List.getElem?_zipWith]
      rw [List.getElem?_eq_getElem (show j < rs.length by omega), List.getElem?_eq_getElem (show j < y.length by omega)]
      simp [rowV, List.getD_eq_getElem?_getD, show j < rs.length by omega, show j < y.length by omega]
    · refine ⟨by simpa using hl, rs, ?_, ⟨by simpa using hrl, fun k hk => ?_, fun i k hik hk => ?_⟩, h4, h5⟩
      · rw [rowV_set ht]
        refine own_same h2 fun b hb => hs b (h2.lt b hb).2 fun e => ?_
        rw [blk_own] at hb
        exact own_ne ho h2 (by decide : (2 : TypeId) ≠ 22) e hb
      · rw [List.length_set] at hk
        rw [getD_set hk]
        by_cases hjk : j = k
        · subst hjk
          rw [if_pos rfl, ht]; exact ho'
        · rw [if_neg hjk]
          refine (h3.2.1 k hk).same fun b hb => hs b (h3.lt (by omega) hb).2 fun e => ?_
          rcases Nat.lt_or_gt_of_ne hjk with hlt | hgt
          · exact h3.2.2 j k hlt hk b e hb
          · exact h3.2.2 k j hgt (by omega) b hb e
      · rw [List.length_set] at hk
        exact h3.2.2 i k hik hk
set_option maxHeartbeats 1000000 in
theorem markInt64SS_any (lo hi : Nat) (A : Option Addr) (n c : Nat) (x : List (List Int)) (k : Int) (w : World) (h : OR w lo hi A n c x) (h0 : 0 ≤ k) (h1 : k + (sumR x : Nat) ≤ 9223372036854775806) (hn : n ≤ 1048576) :
    Calls Try.prog 61 #[.slice A n c, .int .i64 k] w fun e w' => e = .returned (.int .i64 (k + (sumR x : Nat))) ∧ OR w' lo hi A n c (mkR k x) ∧ Only lo hi w w' := by
  have hl := h.1
  have HO := Lib.hid h
  clear h
  go_enter Try.func61, Try.ntmps61
  go_wp2_with fail
  go_loopw [1, 5] (fun v i wr => ∃ j : Nat, j ≤ n ∧ i = .int .i64 j ∧ v = .int .i64 (k + (lens x j : Nat)) ∧ Hid (OR wr lo hi A n c (mkTo k x j)) ∧ Only lo hi w wr) (fun _ i _ => n - (intOf i).toNat)
  case atStart => exact ⟨0, Nat.zero_le _, rfl, by rw [lens_zero]; simp, Lib.hid (by rw [mkTo_zero]; exact HO.out), Only.refl _ _ _⟩
  case round =>
    obtain ⟨j, hj, rfl, rfl, ho, hb⟩ := hrel
    by_cases hlt : j < n
    · obtain ⟨g, A', c', rfl, hc, hox, hset⟩ := ho.out.row hlt
      have hrow := mkTo_row k x j (i := j) (by omega)
      have hgt := mkTo_get k x j (i := j) (by omega)
      have hst := lens_step (x := x) (k := j) (t := x.getD j []) (by omega) rfl
      have hle := lens_sumle x (j + 1)
      have HST := Lib.hid hst
      have HSTEP := Lib.hid (mkTo_step k x (j := j) (by omega))
      rw [hrow] at hc hox hset
      have HSET := Lib.hid hset
      have HOX := Lib.hid hox
      clear hset hox hrow hgt
      generalize hL : (x.getD j []).length = L at *
      clear hL
      go_wp2_with fail
      have mk := markOne_any lo hi A' L c' _ (k + (lens x j : Nat)) wr HOX.out (by omega) (by omega)
      refine mk.mono ?_
      clear mk
      rintro e w1 ⟨rfl, ho1, hq, hs1⟩
      have HO1 := Lib.hid (HSET.out w1 (marks (k + (lens x j : Nat)) L) (by rw [marks_length]) ho1.1 hs1)
      rw [HSTEP.out] at HO1
      have hB1 := hb.trans hq
      clear ho ho1 hq hs1 hb
      go_wp2_with fail
      go_roundw
      case rel => exact ⟨j + 1, by omega, by go_num, by rw [HST.out]; congr 1; omega, HO1, hB1⟩
      case measure => simp [intOf]; omega
    · have hjn : j = n := by omega
      subst hjn
      have HS := Lib.hid (lens_sum hl)
      have HE : Hid (OR wr lo hi A j c (mkR k x)) := Lib.hid (by unfold mkR; rw [hl]; exact ho.out)
      go_wp2_with fail
      go_ret
      exact ⟨ret_int (by rw [HS.out]), HE.out, hb⟩
set_option maxHeartbeats 1000000 in
theorem heldInt64SS_any (A : Option Addr) (n c : Nat) (x : List (List Int)) (k : Int) (w : World) (h : RR w A n (mkR k x)) (h0 : 0 ≤ k) (h1 : k + (sumR x : Nat) ≤ 9223372036854775806) (hn : n ≤ 1048576) :
    Calls Try.prog 62 #[.slice A n c, .int .i64 k] w fun e w' => e = .returned (.int .i64 (k + (sumR x : Nat))) ∧ Below w.heap.size w w' := by
  have hl : x.length = n := by have := h.1; unfold mkR at this; rwa [mkTo_len] at this
  go_enter Try.func62, Try.ntmps62
  go_wp2_with fail
  go_loopw [1, 5] (fun v i wr => ∃ j : Nat, j ≤ n ∧ i = .int .i64 j ∧ v = .int .i64 (k + (lens x j : Nat)) ∧ Below w.heap.size w wr) (fun _ i _ => n - (intOf i).toNat)
  case atStart => exact ⟨0, Nat.zero_le _, rfl, by rw [lens_zero]; simp, Below.refl _ _⟩
  case round =>
    obtain ⟨j, hj, rfl, rfl, hb⟩ := hrel
    by_cases hlt : j < n
    · obtain ⟨g, off, B, m, d, t, rfl, hc, ht, hmx, hx⟩ := (h.below hb).at_ hlt
      have hgt := mkTo_get k x x.length (i := j) (by omega)
      rw [if_pos (by omega)] at hgt
      have htx : t = marks (k + (lens x j : Nat)) (x.getD j []).length := hx.out.trans hgt
      have hst := lens_step (x := x) (k := j) (t := x.getD j []) (by omega) rfl
      have hle := lens_sumle x (j + 1)
      have hml : (x.getD j []).length = m := by rw [← ht.1, htx, marks_length]
      rw [hml] at htx hst
      subst htx
      have HST := Lib.hid hst
      clear hgt hx hml
      have hneg : ¬ (k + (lens x j : Nat) + (m : Int) < 0) := by omega
      go_wp2_with fail
      refine (heldInt64S_any B m d (k + (lens x j : Nat)) _ ht (by omega) (by omega)).mono ?_
      rintro e w1 ⟨rfl, hb1⟩
      have hB1 := below_then hb hb1 hb.size
      clear hb hb1
      go_wp2_with fail
      go_roundw
      case rel => exact ⟨j + 1, by omega, by go_num, by rw [HST.out]; congr 1; omega, hB1⟩
      case measure => simp [intOf]; omega
    · have hjn : j = n := by omega
      subst hjn
      have HS := Lib.hid (lens_sum hl)
      go_wp2_with fail
      go_ret
      exact ⟨ret_int (by rw [HS.out]), hb⟩
set_option maxHeartbeats 400000 in
theorem markSubst_any (lo hi : Nat) (A : Option Addr) (n c : Nat) (x : List (List Int)) (k : Int) (w : World) (h : OR w lo hi A n c x) (h0 : 0 ≤ k) (h1 : k + (sumR x : Nat) ≤ 9223372036854775806) (hn : n ≤ 1048576) :
    Calls Try.prog 28 #[.agg #[.slice A n c], .int .i64 k] w fun e w' => e = .returned (.int .i64 (k + (sumR x : Nat))) ∧ OR w' lo hi A n c (mkR k x) ∧ Only lo hi w w' := by
  go_enter Try.func28, Try.ntmps28
  go_wp2_with fail
  have mk := markInt64SS_any lo hi A n c x k _ (h.below ((Below.refl _ _).alloc (Nat.le_refl _) (.cells #[.slice A n c] 43))) h0 h1 hn
  refine mk.mono ?_
  clear mk
  rintro e w1 ⟨rfl, ho, hb⟩
  go_wp2_with fail
  go_ret
  exact ⟨rfl, ho, (Only.of ((Below.refl _ _).alloc (Nat.le_refl _) _)).trans hb⟩
set_option maxHeartbeats 400000 in
theorem heldSubst_any (A : Option Addr) (n c : Nat) (x : List (List Int)) (k : Int) (w : World) (h : RR w A n (mkR k x)) (h0 : 0 ≤ k) (h1 : k + (sumR x : Nat) ≤ 9223372036854775806) (hn : n ≤ 1048576) :
    Calls Try.prog 29 #[.agg #[.slice A n c], .int .i64 k] w fun e w' => e = .returned (.int .i64 (k + (sumR x : Nat))) ∧ Below w.heap.size w w' := by
  have hneg : ¬ (k + (sumR x : Nat) < 0) := by omega
  go_enter Try.func29, Try.ntmps29
  go_wp2_with fail
  refine (heldInt64SS_any A n c x k _ (h.alloc _) h0 h1 hn).mono ?_
  rintro e w1 ⟨rfl, hb⟩
  go_wp2_with fail
  go_ret
  exact ⟨rfl, below_then ((Below.refl _ _).alloc (Nat.le_refl _) _) hb (by simp)⟩
end Go.Proofs.Ytkmkopfkhpgagaa
