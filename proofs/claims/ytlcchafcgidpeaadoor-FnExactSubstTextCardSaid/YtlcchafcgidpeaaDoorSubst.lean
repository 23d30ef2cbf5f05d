/- Contracts: substitutions: their size, copy, comparison. -/
import Derived.Test.YtlcchafcgidpeaaDoorMat
import Derived.Test.YtlcchafcgidpeaaDoorSig
import Derived.Test.YtlcchafcgidpeaaDoorTerm
import Derived.Deep.RegionHeld3
namespace Go.Proofs.YtlcchafcgidpeaaDoor
open Go.RowKit
set_option linter.unusedVariables false
set_option linter.unusedSimpArgs false

/-- A slice of slices that the call itself made, from block B on. -/
def QR (w : World) (B : Nat) (A : Option Addr) (n c : Nat) (x : List (List Int)) : Prop :=
  x.length = n ∧ ∃ rs, w.ownsRow B 22 1 (.slice A n c) n (List.zipWith rowV rs x) ∧ Rows w B rs x
/-- The same, with a bound of its blocks. -/
def OR (w : World) (lo hi : Nat) (A : Option Addr) (n c : Nat) (x : List (List Int)) : Prop :=
  x.length = n ∧ ∃ rs, w.ownsRow lo 22 1 (.slice A n c) n (List.zipWith rowV rs x) ∧ Rows w lo rs x ∧ (∀ b, blk A = some b → b < hi) ∧ (∀ i, i < rs.length → ∀ b, blk (rs.getD i (none, 0)).1 = some b → b < hi)
theorem Rows.base {w : World} {B B' : Nat} {rs : List (Option Addr × Nat)} {x : List (List Int)} (h : Rows w B rs x) (hB : B' ≤ B) : Rows w B' rs x := ⟨h.1, fun k hk => (h.2.1 k hk).base hB, h.2.2⟩
theorem rd_rows {w : World} {B : Nat} {A : Option Addr} {n c : Nat} {rs : List (Option Addr × Nat)} {x : List (List Int)} (hl : x.length = n) (h : w.ownsRow B 22 1 (.slice A n c) n (List.zipWith rowV rs x)) (hr : Rows w B rs x) : RR w A n x := by
  refine ⟨hl, fun hn => ?_⟩
  rcases h.2 with ⟨_, h0⟩ | ⟨g, cap, cur, hv, hB, _⟩
  · omega
  · simp only [Value.slice.injEq] at hv
    obtain ⟨rfl, _, rfl⟩ := hv
    refine ⟨g, 0, rfl, fun k hk => ?_⟩
    have hc := h.cellAt k (by omega)
    have hrl := hr.1
    have ho := hr.2.1 k (by omega)
    obtain ⟨A', c', hv, h1, h2⟩ := own_form ho
    unfold maxLen at h2
    refine ⟨_, _, (rs.getD k (none, 0)).2, ?_, ho.ri, ?_⟩
    · rw [Nat.zero_add, hc, List.getElem?_zipWith]
      rw [List.getElem?_eq_getElem (show k < rs.length by omega), List.getElem?_eq_getElem (show k < x.length by omega)]
      simp [rowV, List.getD_eq_getElem?_getD, show k < rs.length by omega, show k < x.length by omega]
    · simp only [Value.slice.injEq] at hv
      obtain ⟨_, _, rfl⟩ := hv
      omega
section
variable {w w' : World} {B lo hi : Nat} {A : Option Addr} {n c : Nat} {x : List (List Int)}
theorem QR.rd (h : QR w B A n c x) : RR w A n x := by obtain ⟨h1, rs, h2, h3⟩ := h; exact rd_rows h1 h2 h3
theorem OR.rd (h : OR w lo hi A n c x) : RR w A n x := by obtain ⟨h1, rs, h2, h3, _⟩ := h; exact rd_rows h1 h2 h3
theorem QR.below (h : QR w B A n c x) (hb : Below w.heap.size w w') : QR w' B A n c x := by obtain ⟨h1, rs, h2, h3⟩ := h; exact ⟨h1, rs, ownsRow_below h2 hb, h3.below hb⟩
theorem QR.base {B' : Nat} (h : QR w B A n c x) (hB : B' ≤ B) : QR w B' A n c x := by obtain ⟨h1, rs, h2, h3⟩ := h; exact ⟨h1, rs, ownsRow_base h2 hB, h3.base hB⟩
theorem OR.below (h : OR w lo hi A n c x) (hb : Below w.heap.size w w') : OR w' lo hi A n c x := by obtain ⟨h1, rs, h2, h3, h4⟩ := h; exact ⟨h1, rs, ownsRow_below h2 hb, h3.below hb, h4⟩
theorem QR.hi_ (h : QR w B A n c x) (hB : lo ≤ B) : OR w lo w.heap.size A n c x := by
  obtain ⟨h1, rs, h2, h3⟩ := h
  exact ⟨h1, rs, ownsRow_base h2 hB, h3.base hB, fun b hb => (h2.lt b (by rw [blk_own]; exact hb)).2, fun i hi b hb => (h3.lt hi hb).2⟩
theorem OR.only {lo' hi' : Nat} (h : OR w lo hi A n c x) (ho : Only lo' hi' w w') (hd : hi ≤ lo' ∨ hi' ≤ lo) : OR w' lo hi A n c x := by
  obtain ⟨h1, rs, h2, h3, h4, h5⟩ := h
  refine ⟨h1, rs, own_same h2 fun b hb => ?_, h3.same fun i hi b hb => ?_, h4, h5⟩
  · have hl := h2.lt b hb
    rw [blk_own] at hb
    exact ho.block b hl.2 (by have := h4 b hb; omega)
  · have hl := h3.lt hi hb
    exact ho.block b hl.2 (by have := h5 i hi b hb; omega)
end
theorem zset {rs : List (Option Addr × Nat)} {y : List (List Int)} {z : Value} {n k : Nat} (hr : rs.length = k) (hy : y.length = k) (hk : k < n) (r : Option Addr × Nat) (t : List Int) :
    (List.zipWith rowV rs y ++ List.replicate (n - k) z).set k (rowV r t) = List.zipWith rowV (rs ++ [r]) (y ++ [t]) ++ List.replicate (n - (k + 1)) z := by
  have hl : (List.zipWith rowV rs y).length = k := by rw [List.length_zipWith, hr, hy, Nat.min_self]
  rw [List.set_append_right _ _ (by omega), hl, Nat.sub_self, List.zipWith_append (by omega), show n - k = n - (k + 1) + 1 by omega, List.replicate_succ, List.set_cons_zero]
  simp
theorem take_snoc {x : List (List Int)} {k : Nat} {t : List Int} (hk : k < x.length) (ht : t = x.getD k []) : x.take (k + 1) = x.take k ++ [t] := by
  rw [List.take_succ_eq_append_getElem hk, ht]
  simp [List.getD_eq_getElem?_getD, hk]
/-- One row more is laid. -/
theorem fill_step {w w1 : World} {B g0 n k : Nat} {rs : List (Option Addr × Nat)} {x : List (List Int)} {t : List Int} {A' : Option Addr} {m : Nat}
    (ho : w.ownsRow B 22 1 (.slice (some ⟨g0, 0, none⟩) n n) n (List.zipWith rowV rs (x.take k) ++ List.replicate (n - k) (.slice none 0 0))) (hr : Rows w B rs (x.take k)) (hb : Below w.heap.size w w1) (hi : OI w1 w.heap.size A' m m t) (hB : B ≤ w.heap.size) (hk : k < n) (hx : x.length = n) (ht : t = x.getD k []) :
    (w1.setCell ⟨g0, k, none⟩ (.slice A' m m)).ownsRow B 22 1 (.slice (some ⟨g0, 0, none⟩) n n) n (List.zipWith rowV (rs ++ [(A', m)]) (x.take (k + 1)) ++ List.replicate (n - (k + 1)) (.slice none 0 0)) ∧ Rows (w1.setCell ⟨g0, k, none⟩ (.slice A' m m)) B (rs ++ [(A', m)]) (x.take (k + 1)) := by
  have hm : t.length = m := hi.ri.1
  have hl : (x.take k).length = k := by rw [List.length_take]; omega
  have hrl : rs.length = k := by rw [hr.1, hl]
  have h1 := (ownsRow_below ho hb)
  have h2 := (World.ownsRow.stored h1 k (.slice A' m m)).1
  have hz := zset (z := .slice none 0 0) hrl hl hk (A', m) t
  rw [show rowV (A', m) t = .slice A' m m by unfold rowV; rw [hm]] at hz
  rw [hz, ← take_snoc (by omega) ht] at h2
  refine ⟨h2, ?_⟩
  have hg0 : g0 < w.heap.size := (ho.lt g0 rfl).2
  rw [take_snoc (by omega) ht]
  refine ((hr.below hb).set_ ⟨g0, k, none⟩ _ fun i hii b hbl e => ?_).snoc ?_ fun i hii b hbl e => ?_
  · have hne := own_ne (hr.2.1 i (by rw [← hr.1]; exact hii)) ho (by decide : (2 : TypeId) ≠ 22) hbl
    exact hne (by injection e with e; rw [← e]; rfl)
  · rw [hm]
    refine (hi.base hB).same fun b hbl => Below.heap_setCell _ _ _ b (fun e => ?_)
    have := (hi.lt_ hbl).1
    dsimp only at e
    omega
  · have := (hr.lt hii hbl).2
    have := (hi.lt_ e).1
    omega
theorem infoSlice_ : (Tryd.prog.info? 22).map (fun i => (i.zero, i.size, i.bytes)) = some (some (.slice none 0 0), 1, 24) := by kernel_rfl
set_option maxHeartbeats 2000000 in
set_option maxRecDepth 20000 in
theorem toInt64SS_any (A : Option Addr) (n c : Nat) (x : List (List Int)) (w : World) (h : RR w A n x) (hn : wtR x ≤ 1048576) :
    Calls Tryd.prog 68 #[.slice A n c] w fun e w' => ∃ g, e = .returned (.slice (some ⟨g, 0, none⟩) n n) ∧ QR w' w.heap.size (some ⟨g, 0, none⟩) n n x ∧ Below w.heap.size w w' := by
  obtain ⟨i0, hi, hz0, hz1, hz2⟩ := info_parts infoSlice_
  have hl := h.1
  have hn1 : n ≤ 1048576 := by unfold wtR at hn; omega
  go_enter Tryd.func68, Tryd.ntmps68
  go_wp2_with (at_make; refine wpList_make_full _ rfl _ _ 54 rfl w.heap.size 22 i0 (.slice none 0 0) 1 Tryd.underlying54 hi hz0 hz1 .i64 .i64 _ _ n rfl rfl rfl rfl (by rw [hz2]; omega) (by unfold maxLen; omega) (by omega) ?_; intro w1 hown hg)
  go_loopw [4] (fun i wr => ∃ (k : Nat) (rs : List (Option Addr × Nat)), k ≤ n ∧ i = .int .i64 k ∧ Hid (wr.ownsRow w.heap.size 22 1 (.slice (some ⟨w.heap.size, 0, none⟩) n n) n (List.zipWith rowV rs (x.take k) ++ List.replicate (n - k) (.slice none 0 0))) ∧ Hid (Rows wr w.heap.size rs (x.take k)) ∧ Below w.heap.size w wr) (fun i _ => n - (intOf i).toNat)
  case atStart =>
    refine ⟨0, [], Nat.zero_le _, rfl, Lib.hid ?_, Lib.hid (by rw [List.take_zero]; exact Rows.nil _ _), ?_⟩
    · simpa [Value.cells, toList_madeCells_one] using hown
    · exact (Below.refl _ _).grown hg (Nat.le_refl _) (by simp)
  case round =>
    obtain ⟨k, rs, hk, rfl, ho, hr, hb⟩ := hrel
    have hsz := hb.size
    by_cases hlt : k < n
    · obtain ⟨g, off, B, m, d, t, rfl, hc, ht, hmx, hx⟩ := (h.below hb).at_ hlt
      have hrow := wtR_row (x := x) (k := k) (by omega)
      rw [← hx.out, ht.1] at hrow
      go_wp2_with fail
      refine (toInt64S_any B m d t _ ht (by omega)).mono ?_
      rintro e w2 ⟨g2, rfl, ho2, hb2⟩
      have hst := fill_step ho.out hr.out hb2 ho2 hsz hlt hl hx.out
      have hH1 := Lib.hid hst.1
      have hH2 := Lib.hid hst.2
      have ho3 := ownsRow_below ho.out hb2
      have hf := ho3.frozenAt k
      have hcc : ∃ v, w2.cell? ⟨w.heap.size, k, none⟩ = some v := own_some ho3 hlt
      obtain ⟨v, hcc⟩ := hcc
      have hb' := (below_then hb hb2 hsz).setCell (p := ⟨w.heap.size, k, none⟩) (Nat.le_refl _) (.slice (some ⟨g2, 0, none⟩) m m)
      clear hst ho3 ho2 hb2 ho hr hb hx
      go_wp2_with fail
      go_roundw
      case rel => exact ⟨k + 1, _, by omega, by go_num, hH1, hH2, hb'⟩
      case measure => simp [intOf]; omega
    · have hkn : k = n := by omega
      subst hkn
      have HT : Hid (x.take k = x) := Lib.hid (List.take_of_length_le (by omega))
      go_wp2_with fail
      go_ret
      refine ⟨_, rfl, ⟨hl, rs, ?_, ?_⟩, hb⟩
      · have := ho.out; rw [HT.out] at this; simpa using this
      · have := hr.out; rwa [HT.out] at this
set_option maxHeartbeats 1000000 in
theorem toSubst_any (A : Option Addr) (n c : Nat) (x : List (List Int)) (w : World) (h : RR w A n x) (hn : wtR x ≤ 1048576) :
    Calls Tryd.prog 39 #[.agg #[.slice A n c]] w fun e w' => ∃ g, e = .returned (.agg #[.slice (some ⟨g, 0, none⟩) n n]) ∧ QR w' w.heap.size (some ⟨g, 0, none⟩) n n x ∧ Below w.heap.size w w' := by
  go_enter Tryd.func39, Tryd.ntmps39
  go_wp2_with fail
  refine (toInt64SS_any A n c x _ (((h.alloc _).alloc _).alloc _) hn).mono ?_
  rintro e w1 ⟨g, rfl, ho, hb⟩
  obtain ⟨hc, hf⟩ := bcell hb
  have hz : w.heap.size + 2 < w1.heap.size := by have := hb.size; simp at this; omega
  have HO := Lib.hid ho
  clear ho
  go_wp2_with fail
  refine bodyPost_ret (v := .agg #[.slice (some ⟨g, 0, none⟩) n n]) (by simp [results, Tryd.results39, go_sem, hc]) rfl ⟨g, rfl, ?_, ?_⟩
  · obtain ⟨h1, rs, h2, h3⟩ := HO.out
    refine QR.base (B := ((w.alloc (.cells #[.slice A n c] 56)).alloc (.cells #[.slice none 0 0] 59)).heap.size + 1) ⟨h1, rs, ?_, ?_⟩ (by simp <;> omega)
    · have : (((w.alloc (.cells #[.slice A n c] 56)).alloc (.cells #[.slice none 0 0] 59)).alloc (.cells #[.slice none 0 0] 59)).heap.size = ((w.alloc (.cells #[.slice A n c] 56)).alloc (.cells #[.slice none 0 0] 59)).heap.size + 1 := by simp
      rw [← this]
      repeat (first | exact h2 | refine ownsRow_setCell_below ?_ (by simp <;> omega) _)
    · have : (((w.alloc (.cells #[.slice A n c] 56)).alloc (.cells #[.slice none 0 0] 59)).alloc (.cells #[.slice none 0 0] 59)).heap.size = ((w.alloc (.cells #[.slice A n c] 56)).alloc (.cells #[.slice none 0 0] 59)).heap.size + 1 := by simp
      rw [← this]
      repeat (first | exact h3 | refine Rows.set_ ?_ _ _ (fun i hi b hb e => by have := (h3.lt hi hb).1; injection e with e; simp at this e; omega))
  · exact (((below_then ((((Below.refl _ _).alloc (Nat.le_refl _) _).alloc (by simp) _).alloc (by simp; omega) _) hb (by simp; omega)).setCell (by simp; omega) _).setCell (by simp) _)
theorem sum_step {x : List (List Int)} {k : Nat} {t : List Int} (hk : k < x.length) (ht : t = x.getD k []) : ((x.take (k + 1)).map List.length).sum = ((x.take k).map List.length).sum + t.length := by
  rw [take_snoc hk ht]; simp
theorem sum_le (x : List (List Int)) (k : Nat) : ((x.take k).map List.length).sum ≤ (x.map List.length).sum := by
  have := congrArg (fun l => (l.map List.length).sum) (List.take_append_drop k x)
  simp only [List.map_append, List.sum_append] at this
  omega
/-- The lengths of the first k rows. -/
def lens (x : List (List Int)) (k : Nat) : Nat := ((x.take k).map List.length).sum
theorem lens_zero (x : List (List Int)) : lens x 0 = 0 := by simp [lens]
theorem lens_step {x : List (List Int)} {k : Nat} {t : List Int} (hk : k < x.length) (ht : t = x.getD k []) : lens x (k + 1) = lens x k + t.length := sum_step hk ht
theorem lens_le (x : List (List Int)) (k : Nat) : x.length + lens x k ≤ wtR x := by have := sum_le x k; unfold lens wtR; omega
theorem lens_all {x : List (List Int)} {n : Nat} (h : x.length = n) : n + lens x n = wtR x := by unfold lens wtR; rw [List.take_of_length_le (by omega), h]
set_option maxHeartbeats 1000000 in
theorem szInt64SS_any (A : Option Addr) (n c : Nat) (x : List (List Int)) (left : Int) (w : World) (h : RR w A n x) (h0 : 0 ≤ left) (h1 : left ≤ 1048576) (hn : n ≤ 9223372036854775807) :
    Calls Tryd.prog 63 #[.slice A n c, .int .i64 left] w fun e w' => e = .returned (.int .i64 (szF left (wtR x))) ∧ w = w' := by
  have hl := h.1
  have hw0 := lens_le x 0
  rw [lens_zero] at hw0
  by_cases hlt : left - n < 0
  · have HE := Lib.hid (szF_neg (left := left) (n := wtR x) (by omega))
    go_enter Tryd.func63, Tryd.ntmps63
    go_wp2_with fail
    go_ret
    exact ⟨ret_int HE.out.symm, rfl⟩
  · go_enter Tryd.func63, Tryd.ntmps63
    go_wp2_with fail
    go_loopw [1, 5] (fun v i wr => ∃ k : Nat, k ≤ n ∧ i = .int .i64 k ∧ v = .int .i64 (left - n - (lens x k : Nat)) ∧ (0 : Int) ≤ left - n - (lens x k : Nat) ∧ w = wr) (fun _ i _ => n - (intOf i).toNat)
    case atStart => exact ⟨0, Nat.zero_le _, rfl, by rw [lens_zero]; simp, by rw [lens_zero]; omega, by first | rfl | trivial⟩
    case round =>
      obtain ⟨k, hk, rfl, rfl, hge, rfl⟩ := hrel
      by_cases hlt2 : k < n
      · obtain ⟨g, off, B, m, d, t, rfl, hc, ht, hmx, hx⟩ := h.at_ hlt2
        have hst := lens_step (by omega) hx.out
        rw [ht.1] at hst
        have hle := lens_le x (k + 1)
        have HST := Lib.hid hst
        generalize hq : lens x k = q at *
        clear hx
        by_cases hneg : left - (n : Int) - (q : Int) - (m : Int) < 0
        · have HN := Lib.hid (szF_neg (left := left - (n : Int) - (q : Int)) (n := m) (by omega))
          have HE := Lib.hid (szF_neg (left := left) (n := wtR x) (by omega))
          clear hst
          go_wp2_with fail
          refine (szInt64S_any B m d _ _ (by omega) (by omega) hmx).mono ?_
          rintro e w1 ⟨rfl, rfl⟩
          rw [HN.out]
          go_wp2_with fail
          go_ret
          exact ⟨ret_int HE.out.symm, rfl⟩
        · have HN := Lib.hid (szF_pos (left := left - (n : Int) - (q : Int)) (n := m) (by omega))
          clear hst
          go_wp2_with fail
          refine (szInt64S_any B m d _ _ (by omega) (by omega) hmx).mono ?_
          rintro e w1 ⟨rfl, rfl⟩
          rw [HN.out]
          go_wp2_with fail
          go_roundw
          case rel => exact ⟨k + 1, by omega, by go_num, by rw [HST.out]; congr 1; omega, by rw [HST.out]; omega, by first | rfl | trivial⟩
          case measure => simp [intOf]; omega
      · have hkn : k = n := by omega
        subst hkn
        have hall := lens_all hl
        have HE := Lib.hid (szF_pos (left := left) (n := wtR x) (by omega))
        go_wp2_with fail
        go_ret
        exact ⟨ret_int (by rw [HE.out]; omega), rfl⟩
theorem szSubst_any (A : Option Addr) (n c : Nat) (x : List (List Int)) (left : Int) (w : World) (h : RR w A n x) (h0 : 0 ≤ left) (h1 : left ≤ 1048576) (hn : n ≤ 9223372036854775807) :
    Calls Tryd.prog 37 #[.agg #[.slice A n c], .int .i64 left] w fun e w' => e = .returned (.int .i64 (szF left (wtR x))) ∧ Below w.heap.size w w' := by
  by_cases hlt : szF left (wtR x) < 0
  · go_enter Tryd.func37, Tryd.ntmps37
    go_wp2_with fail
    refine (szInt64SS_any A n c x left _ (h.alloc _) h0 h1 hn).mono ?_
    rintro e w1 ⟨rfl, rfl⟩
    go_wp2_with fail
    go_ret
    exact ⟨ret_int (by have := szF_bd (wtR x) h0; omega), (Below.refl _ _).alloc (Nat.le_refl _) _⟩
  · go_enter Tryd.func37, Tryd.ntmps37
    go_wp2_with fail
    refine (szInt64SS_any A n c x left _ (h.alloc _) h0 h1 hn).mono ?_
    rintro e w1 ⟨rfl, rfl⟩
    go_wp2_with fail
    go_ret
    exact ⟨rfl, (Below.refl _ _).alloc (Nat.le_refl _) _⟩
set_option maxHeartbeats 2000000 in
theorem eqInt64SS_same (A : Option Addr) (n c : Nat) (x : List (List Int)) (B : Option Addr) (d : Nat) (w : World) (h : RR w A n x) (h' : RR w B n x) (hs : wtR x ≤ 1048576) :
    Calls Tryd.prog 74 #[.slice A n c, .slice B n d] w fun e w' => e = .returned (.bool true) ∧ Below w.heap.size w w' := by
  have hl := h.1
  have hn1 : n ≤ 1048576 := by unfold wtR at hs; omega
  go_enter Tryd.func74, Tryd.ntmps74
  go_wp2_with fail
  go_loopw [5] (fun i wr => ∃ k : Nat, k ≤ n ∧ i = .int .i64 k ∧ Below w.heap.size w wr) (fun i _ => n - (intOf i).toNat)
  case atStart => exact ⟨0, Nat.zero_le _, rfl, Below.refl _ _⟩
  case round =>
    obtain ⟨k, hk, rfl, hb⟩ := hrel
    by_cases hlt : k < n
    · obtain ⟨g, off, A1, m, d1, t, rfl, hc, ht, hmx, hx⟩ := (h.below hb).at_ hlt
      obtain ⟨g', off', A2, m', d2, t', rfl, hc', ht', hmx', hx'⟩ := (h'.below hb).at_ hlt
      obtain rfl : t = t' := by rw [hx.out, hx'.out]
      obtain rfl : m = m' := by rw [← ht.1, ← ht'.1]
      have hrow := wtR_row (x := x) (k := k) (by omega)
      rw [← hx.out, ht.1] at hrow
      clear hx hx'
      have hk0 : (0 : Int) ≤ k := by omega
      have hk1 : (k : Int) < n := by omega
      go_wp2_with fail
      go_region_held3 (fun w' => Below wr.heap.size wr w' ∧ w'.cell? ⟨g, off + k, none⟩ = some (.slice A1 m d1) ∧ w'.cell? ⟨g', off' + k, none⟩ = some (.slice A2 m d2))
        (first | exact ⟨(Below.refl _ _).drew, hc, hc'⟩ | exact keepS2 hb1 (by assumption))
        ((go_at_call 28; refine (eqInt64S_any A1 m d1 t A2 m d2 t _ ?_ ?_ (by omega)).mono ?_; exact riS ht (by assumption); exact riS ht' (by assumption); rintro e w1 ⟨rfl, hb1⟩))
      rename_i hS
      have hb2 := below_then hb hS.1 hb.size
      clear hS hb1
      go_wp2_with fail
      go_roundw
      case rel => exact ⟨k + 1, by omega, by go_num, hb2⟩
      case measure => simp [intOf]; omega
    · have hkn : k = n := by omega
      go_wp2_with fail
      go_ret
      exact ⟨rfl, hb⟩
set_option maxHeartbeats 1000000 in
theorem eqSubst_same (A : Option Addr) (n c : Nat) (x : List (List Int)) (B : Option Addr) (d : Nat) (w : World) (h : RR w A n x) (h' : RR w B n x) (hs : wtR x ≤ 1048576) :
    Calls Tryd.prog 41 #[.agg #[.slice A n c], .agg #[.slice B n d]] w fun e w' => e = .returned (.bool true) ∧ Below w.heap.size w w' := by
  go_enter Tryd.func41, Tryd.ntmps41
  go_wp2_with fail
  refine (eqInt64SS_same A n c x B d _ ((h.alloc _).alloc _) ((h'.alloc _).alloc _) hs).mono ?_
  rintro e w1 ⟨rfl, hb⟩
  go_wp2_with fail
  go_ret
  exact ⟨rfl, below_then (((Below.refl _ _).alloc (Nat.le_refl _) _).alloc (by simp) _) hb (by simp <;> omega)⟩
end Go.Proofs.YtlcchafcgidpeaaDoor
