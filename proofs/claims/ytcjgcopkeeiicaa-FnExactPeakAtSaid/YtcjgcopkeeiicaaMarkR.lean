/- Contracts: the marks that a statement lays into memory and asks for again. -/
import Derived.Test.YtcjgcopkeeiicaaSig
import Derived.Test.YtcjgcopkeeiicaaSubst
namespace Go.Proofs.Ytcjgcopkeeiicaa
open Go.RowKit
set_option linter.unusedVariables false

def marks (k : Int) (n : Nat) : List Int := (List.range n).map fun i : Nat => k + (i : Int)
theorem marks_length (k : Int) (n : Nat) : (marks k n).length = n := by simp [marks]
theorem marks_getD (k : Int) (n i : Nat) (h : i < n) : (marks k n).getD i 0 = k + i := by
  simp [marks, List.getD_eq_getElem?_getD, h]
/-- Behind i rounds. -/
def markTo (k : Int) (xs : List Int) (i : Nat) : List Int := marks k i ++ xs.drop i
theorem markTo_step (k : Int) (xs : List Int) (i : Nat) (h : i < xs.length) : (markTo k xs i).set i (k + i) = markTo k xs (i + 1) := by
  unfold markTo
  have hl := marks_length k i
  rw [List.set_append_right _ _ (by omega), hl, Nat.sub_self, List.drop_eq_getElem_cons h, List.set_cons_zero]
  unfold marks
  rw [List.range_succ, List.map_append]
  simp
theorem markTo_len (k : Int) (xs : List Int) (i : Nat) (h : i ≤ xs.length) : (markTo k xs i).length = xs.length := by
  unfold markTo; rw [List.length_append, marks_length, List.length_drop]; omega
theorem markTo_end (k : Int) (xs : List Int) : markTo k xs xs.length = marks k xs.length := by simp [markTo]

set_option maxHeartbeats 400000 in
theorem markInt64S_any (lo hi : Nat) (A : Option Addr) (n c : Nat) (xs : List Int) (k : Int) (w : World) (h : OX w lo hi A n c xs) (h0 : 0 ≤ k) (h1 : k + n ≤ 9223372036854775806) :
    Calls Try.prog 12 #[.slice A n c, .int .i64 k] w fun e w' => e = .returned (.int .i64 (k + n)) ∧ OX w' lo hi A n c (marks k n) ∧ Only lo hi w w' := by
  have hl := h.1.ri.1
  have hHi := h.2
  have hOwn := h.1
  clear h
  go_enter Try.func12, Try.ntmps12
  go_wp2
  go_loopw [1, 5] (fun u i wr => ∃ j : Nat, j ≤ n ∧ i = .int .i64 j ∧ u = .int .i64 (k + j) ∧ Hid (OI wr lo A n c (markTo k xs j)) ∧ Only lo hi w wr) (fun _ i _ => n - (intOf i).toNat)
  case atStart => exact ⟨0, Nat.zero_le _, rfl, by simp, by simpa [markTo, marks, Hid] using hOwn, Only.refl _ _ _⟩
  case round =>
    obtain ⟨j, hj, rfl, rfl, ho, hb⟩ := hrel
    by_cases hlt : j < n
    · obtain ⟨g, hA, hg1, hg2⟩ : ∃ g, A = some ⟨g, 0, none⟩ ∧ lo ≤ g ∧ g < hi := by
        rcases ho.out.2 with ⟨_, h0⟩ | ⟨g, cap, cur, hv, hB, _⟩
        · omega
        · have hA : A = some ⟨g, 0, none⟩ := by injection hv
          exact ⟨g, hA, hB, by simpa using hHi _ hA⟩
      subst hA
      have hf := World.ownsRow.frozenAt ho.out j
      obtain ⟨v, hcc⟩ := own_some ho.out hlt
      have hst := (World.ownsRow.stored ho.out j (.int .i64 (k + j))).1
      rw [← List.map_set, markTo_step k xs j (by rw [hl]; exact hlt)] at hst
      have HST : Hid (OI (wr.setCell ⟨g, j, none⟩ (.int .i64 (k + j))) lo (some ⟨g, 0, none⟩) n c (markTo k xs (j + 1))) := Lib.hid hst
      have hb' := hb.setCell (p := ⟨g, j, none⟩) ⟨hg1, hg2⟩ (.int .i64 (k + j))
      clear hst
      go_wp2
      go_roundw
      case rel => exact ⟨j + 1, by omega, by go_num, by congr 1; omega, HST, hb'⟩
      case measure => simp [intOf]; omega
    · have hjn : j = n := by omega
      subst hjn
      have HE : Hid (OI wr lo A j c (marks k j)) := by have := ho.out; rw [← hl, markTo_end, hl] at this; exact Lib.hid this
      go_wp2
      go_ret
      exact ⟨rfl, ⟨HE.out, hHi⟩, hb⟩
set_option maxHeartbeats 400000 in
theorem heldInt64S_any (A : Option Addr) (n c : Nat) (k : Int) (w : World) (h : RI w A n (marks k n)) (h0 : 0 ≤ k) (h1 : k + n ≤ 9223372036854775806) :
    Calls Try.prog 13 #[.slice A n c, .int .i64 k] w fun e w' => e = .returned (.int .i64 (k + n)) ∧ Below w.heap.size w w' := by
  go_enter Try.func13, Try.ntmps13
  go_wp2
  go_loopw [1, 5] (fun u i wr => ∃ j : Nat, j ≤ n ∧ i = .int .i64 j ∧ u = .int .i64 (k + j) ∧ Below w.heap.size w wr) (fun _ i _ => n - (intOf i).toNat)
  case atStart => exact ⟨0, Nat.zero_le _, rfl, by simp, Below.refl _ _⟩
  case round =>
    obtain ⟨j, hj, rfl, rfl, hb⟩ := hrel
    by_cases hlt : j < n
    · obtain ⟨g, off, x, rfl, hc, hx⟩ := (h.below hb).at_ hlt
      have hxk : x = k + j := by rw [hx.out]; exact marks_getD k n j hlt
      subst hxk
      clear hx
      go_wp2
      go_roundw
      case rel => exact ⟨j + 1, by omega, by go_num, by congr 1; omega, hb⟩
      case measure => simp [intOf]; omega
    · have hjn : j = n := by omega
      subst hjn
      go_wp2
      go_ret
      exact ⟨rfl, hb⟩
set_option maxHeartbeats 400000 in
theorem markSig_any (lo hi : Nat) (A : Option Addr) (n c : Nat) (xs : List Int) (k : Int) (w : World) (h : OX w lo hi A n c xs) (h0 : 0 ≤ k) (h1 : k + n ≤ 9223372036854775806) :
    Calls Try.prog 32 #[.agg #[.slice A n c], .int .i64 k] w fun e w' => e = .returned (.int .i64 (k + n)) ∧ OX w' lo hi A n c (marks k n) ∧ Only lo hi w w' := by
  go_enter Try.func32, Try.ntmps32
  go_wp2_with fail
  refine (markInt64S_any lo hi A n c xs k _ (h.below ((Below.refl _ _).alloc (Nat.le_refl _) _)) h0 h1).mono ?_
  rintro e w1 ⟨rfl, ho, hb⟩
  go_wp2_with fail
  go_ret
  exact ⟨rfl, ho, (Only.of ((Below.refl _ _).alloc (Nat.le_refl _) _)).trans hb⟩
end Go.Proofs.Ytcjgcopkeeiicaa
/-! Contracts: the marks that a statement lays into slices of slices and asks for again. -/

namespace Go.Proofs.Ytcjgcopkeeiicaa
open Go.RowKit
set_option linter.unusedVariables false

/-- A call that writes one row alone. -/
theorem markOne_any (lo hi : Nat) (A : Option Addr) (n c : Nat) (xs : List Int) (k : Int) (w : World) (h : OX w lo hi A n c xs) (h0 : 0 ≤ k) (h1 : k + n ≤ 9223372036854775806) :
    Calls Try.prog 12 #[.slice A n c, .int .i64 k] w fun e w' => e = .returned (.int .i64 (k + n)) ∧ OX w' lo hi A n c (marks k n) ∧ Only lo hi w w' ∧ (∀ b, b < w.heap.size → blk A ≠ some b → w'.heap[b]? = w.heap[b]?) := by
  rcases h.1.2 with ⟨hv, hn⟩ | ⟨g, cap, cur, hv, hB, _⟩
  · simp only [Value.slice.injEq] at hv
    obtain ⟨rfl, rfl, rfl⟩ := hv
    have hx : xs = [] := List.eq_nil_of_length_eq_zero h.1.ri.1
    subst hx
    have h2 : OX w 0 0 none 0 0 [] := ⟨World.ownsRow_nil _ _ _ _, fun a ha => by cases ha⟩
    refine (markInt64S_any 0 0 none 0 0 [] k w h2 h0 h1).mono fun e w' ⟨he, ho, hq⟩ => ⟨he, ⟨World.ownsRow_nil _ _ _ _, fun a ha => by cases ha⟩, ⟨hq.os, hq.tape, hq.output, hq.size, fun i hi _ => hq.block i hi (by omega)⟩, fun b hb _ => hq.block b hb (by omega)⟩
  · have hA : A = some ⟨g, 0, none⟩ := by injection hv
    have hh := h.2 _ hA
    dsimp only at hh
    have h2 : OX w g (g + 1) A n c xs := by
      refine ⟨⟨h.1.1, ?_⟩, fun a ha => by rw [hA] at ha; injection ha with ha; subst ha; simp⟩
      rcases h.1.2 with hn | ⟨g', cap', cur', hv', _, rest⟩
      · exact .inl hn
      · have : g' = g := by rw [hv] at hv'; injection hv' with e; injection e with e; injection e with e; exact e.symm
        exact .inr ⟨g', cap', cur', hv', by omega, rest⟩
    refine (markInt64S_any g (g + 1) A n c xs k w h2 h0 h1).mono fun e w' ⟨he, ho, hq⟩ => ⟨he, ⟨ho.1.base hB, h.2⟩, hq.wide hB (by omega), fun b hb hne => hq.block b hb ?_⟩
    have : b ≠ g := fun e => hne (by rw [hA, e]; rfl)
    omega
def sumR (x : List (List Int)) : Nat := (x.map List.length).sum
theorem sumR_le (x : List (List Int)) : sumR x ≤ wtR x := by unfold sumR wtR; omega
theorem lens_sum {x : List (List Int)} {n : Nat} (h : x.length = n) : lens x n = sumR x := by unfold lens sumR; rw [List.take_of_length_le (by omega)]
theorem lens_sumle (x : List (List Int)) (k : Nat) : lens x k ≤ sumR x := by unfold lens sumR; exact sum_le x k
/-- The first j rows bear marks. -/
def mkTo (k : Int) (x : List (List Int)) (j : Nat) : List (List Int) := (List.range x.length).map fun i => if i < j then marks (k + (lens x i : Nat)) (x.getD i []).length else x.getD i []
def mkR (k : Int) (x : List (List Int)) : List (List Int) := mkTo k x x.length
theorem mkTo_len (k : Int) (x : List (List Int)) (j : Nat) : (mkTo k x j).length = x.length := by simp [mkTo]
theorem mkTo_get (k : Int) (x : List (List Int)) (j : Nat) {i : Nat} (hi : i < x.length) : (mkTo k x j).getD i [] = if i < j then marks (k + (lens x i : Nat)) (x.getD i []).length else x.getD i [] := by
  unfold mkTo
  rw [List.getD_eq_getElem?_getD, List.getElem?_map, List.getElem?_range hi]
  rfl
theorem mkTo_zero (k : Int) (x : List (List Int)) : mkTo k x 0 = x := by
  apply List.ext_getElem?
  intro i
  unfold mkTo
  rw [List.getElem?_map]
  by_cases hi : i < x.length
  · rw [List.getElem?_range hi]
    simp [List.getD_eq_getElem?_getD, List.getElem?_eq_getElem hi]
  · rw [List.getElem?_eq_none (by simpa using hi), List.getElem?_eq_none (by omega)]; rfl
theorem mkTo_step (k : Int) (x : List (List Int)) {j : Nat} (hj : j < x.length) : (mkTo k x j).set j (marks (k + (lens x j : Nat)) (x.getD j []).length) = mkTo k x (j + 1) := by
  apply List.ext_getElem?
  intro i
  rw [List.getElem?_set]
  unfold mkTo
  by_cases hi : i < x.length
  · rw [List.getElem?_map, List.getElem?_map, List.getElem?_range hi, List.length_map, List.length_range]
    by_cases hij : j = i
    · subst hij
      rw [if_pos rfl, if_pos hj]
      simp
    · rw [if_neg hij]
      simp only [Option.map_some]
      by_cases h2 : i < j
      · rw [if_pos h2, if_pos (by omega)]
      · rw [if_neg h2, if_neg (by omega)]
  · rw [if_neg (by omega), List.getElem?_eq_none (by simpa using hi), List.getElem?_eq_none (by simpa using hi)]
theorem mkTo_row (k : Int) (x : List (List Int)) (j : Nat) {i : Nat} (hi : i < x.length) : ((mkTo k x j).getD i []).length = (x.getD i []).length := by
  rw [mkTo_get k x j hi]; split
  · rw [marks_length]
  · rfl
theorem rowV_set {rs : List (Option Addr × Nat)} {y : List (List Int)} {j : Nat} {t : List Int} (ht : t.length = (y.getD j []).length) : List.zipWith rowV rs (y.set j t) = List.zipWith rowV rs y := by
  apply List.ext_getElem?
  intro i
  rw [List.getElem?_zipWith, List.getElem?_zipWith, List.getElem?_set]
  by_cases hij : j = i
  · subst hij
    rw [if_pos rfl]
    by_cases hj : j < y.length
    · rw [if_pos hj, List.getElem?_eq_getElem hj]
      rw [List.getD_eq_getElem?_getD, List.getElem?_eq_getElem hj, Option.getD_some] at ht
      cases rs[j]? <;> simp [rowV, ht]
    · rw [if_neg hj, show y[j]? = none from List.getElem?_eq_none (by omega)]
  · rw [if_neg hij]
theorem getD_set {y : List (List Int)} {j k : Nat} {t : List Int} (hk : k < y.length) : (y.set j t).getD k [] = if j = k then t else y.getD k [] := by
  simp only [List.getD_eq_getElem?_getD, List.getElem?_set]
  by_cases h : j = k
  · subst h; rw [if_pos rfl, if_pos hk, if_pos rfl]; rfl
  · rw [if_neg h, if_neg h]
theorem OR.row {w : World} {lo hi : Nat} {A : Option Addr} {n c : Nat} {y : List (List Int)} (h : OR w lo hi A n c y) {j : Nat} (hj : j < n) :
    ∃ g A' c', A = some ⟨g, 0, none⟩ ∧ w.cell? ⟨g, j, none⟩ = some (.slice A' (y.getD j []).length c') ∧ OX w lo hi A' (y.getD j []).length c' (y.getD j []) ∧
      (∀ (w' : World) (t' : List Int), t'.length = (y.getD j []).length → OI w' lo A' (y.getD j []).length c' t' → (∀ b, b < w.heap.size → blk A' ≠ some b → w'.heap[b]? = w.heap[b]?) → OR w' lo hi A n c (y.set j t')) := by
  obtain ⟨hl, rs, h2, h3, h4, h5⟩ := h
  have hrl := h3.1
  rcases h2.2 with ⟨_, h0⟩ | ⟨g, cap, cur, hv, hB, _⟩
  · omega
  · simp only [Value.slice.injEq] at hv
    obtain ⟨rfl, _, rfl⟩ := hv
    have hc := h2.cellAt j (by omega)
    have ho := h3.2.1 j (by omega)
    refine ⟨g, (rs.getD j (none, 0)).1, (rs.getD j (none, 0)).2, rfl, ?_, ⟨ho, fun a ha => h5 j (by omega) a.block (by rw [ha]; rfl)⟩, fun w' t' ht ho' hs => ?_⟩
    · rw [hc, List.getElem?_zipWith]
      rw [List.getElem?_eq_getElem (show j < rs.length by omega), List.getElem?_eq_getElem (show j < y.length by omega)]
      simp [rowV, List.getD_eq_getElem?_getD, show j < rs.length by omega, show j < y.length by omega]
    · refine ⟨by simpa using hl, rs, ?_, ⟨by simpa using hrl, fun k hk => ?_, fun i k hik hk => ?_⟩, h4, h5⟩
      · rw [rowV_set ht]
        refine own_same h2 fun b hb => hs b (h2.lt b hb).2 fun e => ?_
        rw [blk_own] at hb
        exact own_ne ho h2 (by decide : (2 : TypeId) ≠ 22) e hb
      · rw [List.length_set] at hk
        rw [getD_set hk]
        by_cases hjk : j = k
        · subst hjk
          rw [if_pos rfl, ht]; exact ho'
        · rw [if_neg hjk]
          refine (h3.2.1 k hk).same fun b hb => hs b (h3.lt (by omega) hb).2 fun e => ?_
          rcases Nat.lt_or_gt_of_ne hjk with hlt | hgt
          · exact h3.2.2 j k hlt hk b e hb
          · exact h3.2.2 k j hgt (by omega) b hb e
      · rw [List.length_set] at hk
        exact h3.2.2 i k hik hk
end Go.Proofs.Ytcjgcopkeeiicaa
