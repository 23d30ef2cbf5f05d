/- Contracts: slices.Grow of nothing, slices.Concat. -/
import Derived.Test.YtcjgcopkeeiicaaMat
import Derived.Test.YtcjgcopkeeiicaaApp
import Derived.Test.YtcjgcopkeeiicaaTerm
import Derived.Lib.AppendZeros
namespace Go.Proofs.Ytcjgcopkeeiicaa
open Go.RowKit
set_option linter.unusedVariables false

theorem zero_size (z : Value) (hz : z.cells.size = 1) (n : Nat) : (Builtin.zeroCells z.cells n).size = n := by
  have := @toList_madeCells_one
  simp [Builtin.zeroCells, hz]
set_option maxHeartbeats 1000000 in
set_option maxRecDepth 20000 in
theorem growNil_any (n : Nat) (w : World) (hn : n ≤ 1048576) :
    Calls Try.prog 76 #[.slice none 0 0, .int .i64 n] w fun e w' => ∃ A c, e = .returned (.slice A 0 c) ∧ OI w' w.heap.size A 0 c [] ∧ Below w.heap.size w w' := by
  obtain ⟨i0, hi, hz0, hz1, hz2⟩ := info_parts infoInt64
  by_cases h0 : n = 0
  · subst h0
    go_enter Try.func76, Try.ntmps76
    go_wp2_with fail
    go_ret
    exact ⟨none, 0, rfl, World.ownsRow_nil _ _ _ _, Below.refl _ _⟩
  · have hrz : ∀ ty, (Builtin.append_ #[22, 3] ty #[.slice none 0 0, .int .i64 n]).run Try.prog w = _ := fun ty =>
      Lib.run_append_nil_zeros w 22 3 ty 2 i0 (.int .i64 0) .i64 .i64 Try.underlying22 Try.underlying3 hi hz0 n (by omega) (by omega) (by omega) (by rw [hz2]; omega)
    have hge := grownCap_ge w n 0 2
    have hle := grownCap_le_maxLen w n 0 2 (by unfold maxLen; omega)
    have hown : (w.drew.alloc (.cells (Builtin.zeroCells (Value.int .i64 0).cells n ++ Builtin.zeroCells (Value.int .i64 0).cells (grownCap w n 0 2 - n)) 2)).ownsRow w.heap.size 2 1 (.slice (some ⟨w.heap.size, 0, none⟩) 0 (grownCap w n 0 2)) 0 [] :=
      World.ownsRow_made (w := w.drew) (size := 1) _ _ (Nat.le_refl _) hle (by rw [Array.size_append, zero_size _ rfl, zero_size _ rfl]; omega)
    have HOWN := Lib.hid hown
    clear hown
    generalize hG : grownCap w n 0 2 = G at *
    clear hG
    have hn1 : (0 : Int) < n := by omega
    unfold maxLen at hle
    go_enter Try.func76, Try.ntmps76
    go_wp2_with (at_builtin; refine Lib.wpList_append_run _ rfl _ _ _ _ rfl _ _ rfl rfl _ _ (hrz _) ?_)
    go_ret
    exact ⟨_, G, rfl, HOWN.out, (Below.refl w.heap.size w).drew.alloc (Nat.le_refl _) _⟩
/-- The first k rows, one behind the other. -/
def flat (x : List (List Int)) (k : Nat) : List Int := (x.take k).flatten
theorem flat_zero (x : List (List Int)) : flat x 0 = [] := by simp [flat]
theorem flat_step {x : List (List Int)} {k : Nat} (h : k < x.length) : flat x (k + 1) = flat x k ++ x.getD k [] := by
  unfold flat
  rw [List.take_succ_eq_append_getElem h, List.flatten_append]
  simp [List.getD_eq_getElem?_getD, h]
theorem flat_le (x : List (List Int)) {k n : Nat} (hk : k ≤ n) : (flat x k).length ≤ (flat x n).length := by
  unfold flat
  have h := congrArg List.length (congrArg List.flatten (List.take_append_drop k (x.take n)))
  rw [List.flatten_append, List.length_append, List.take_take, Nat.min_eq_left hk] at h
  omega
theorem RR.three {w : World} {A B C : Option Addr} {n c m d o f : Nat} {x y z : List Int} {T : TypeId} (h : RI w A n x) (hc : n ≤ c) (hc2 : c ≤ 9223372036854775807) (h' : RI w B m y) (hd : m ≤ d) (hd2 : d ≤ 9223372036854775807) (h'' : RI w C o z) (hf : o ≤ f) (hf2 : f ≤ 9223372036854775807) :
    RR (w.alloc (.cells #[.slice A n c, .slice B m d, .slice C o f] T)) (some ⟨w.heap.size, 0, none⟩) 3 [x, y, z] := by
  refine ⟨rfl, fun _ => ⟨w.heap.size, 0, rfl, fun k hk => ?_⟩⟩
  have hn := (Blk.new w T #[.slice A n c, .slice B m d, .slice C o f])
  match k, hk with
  | 0, _ => exact ⟨A, n, c, by rw [Nat.zero_add, hn.cell]; rfl, h.alloc _, by omega⟩
  | 1, _ => exact ⟨B, m, d, by rw [Nat.zero_add, hn.cell]; rfl, h'.alloc _, by omega⟩
  | 2, _ => exact ⟨C, o, f, by rw [Nat.zero_add, hn.cell]; rfl, h''.alloc _, by omega⟩
set_option maxHeartbeats 2000000 in
set_option maxRecDepth 20000 in
theorem concat_any (A : Option Addr) (n c : Nat) (x : List (List Int)) (w : World) (h : RR w A n x) (hn : n ≤ 1048576) (hs : (flat x n).length ≤ 1048576) :
    Calls Try.prog 67 #[.slice A n c] w fun e w' => ∃ A' c', e = .returned (.slice A' (flat x n).length c') ∧ OI w' w.heap.size A' (flat x n).length c' (flat x n) ∧ Below w.heap.size w w' := by
  obtain ⟨i0, hi, hz0, hz1, hz2⟩ := info_parts infoInt64
  have hl := h.1
  go_enter Try.func67, Try.ntmps67
  go_wp2_with fail
  go_loopw [3, 5, 11] (fun u _ i wr => ∃ k : Nat, k ≤ n ∧ i = .int .i64 k ∧ u = .int .i64 ((flat x k).length : Nat) ∧ Below w.heap.size w wr) (fun _ _ i _ => n - (intOf i).toNat)
  case atStart => exact ⟨0, Nat.zero_le _, rfl, by rw [flat_zero]; rfl, Below.refl _ _⟩
  case round =>
    obtain ⟨k, hk, rfl, rfl, hb⟩ := hrel
    have hfl := flat_le x hk
    by_cases hlt : k < n
    · obtain ⟨g, off, B, m, d, t, rfl, hc, ht, hmx, hx⟩ := (h.below hb).at_ hlt
      have hst := flat_step (x := x) (k := k) (by omega)
      have hfl2 := flat_le x (k := k + 1) (n := n) (by omega)
      rw [← hx.out] at hst
      have hlen : (flat x (k + 1)).length = (flat x k).length + m := by rw [hst, List.length_append, ht.1]
      have HL := Lib.hid hlen
      rw [hlen] at hfl2
      clear hst hlen hx
      generalize (flat x k).length = q at *
      have hq : ¬ ((q : Int) + (m : Int) < 0) := by omega
      go_wp2_with fail
      go_roundw
      case rel => exact ⟨k + 1, by omega, by go_num, by rw [HL.out]; go_num, hb⟩
      case measure => simp [intOf]; omega
    · have hkn : k = n := by omega
      subst hkn
      go_wp2_with fail
      refine (growNil_any _ _ hs).mono ?_
      rintro e w1 ⟨A1, c1, rfl, ho1, hb1⟩
      have hB1 := below_then hb hb1 hb.size
      have ho1' := Lib.hid (ho1.base hb.size)
      clear hb1 ho1 hb hfl
      go_wp2_with fail
      go_loopw [6, 8, 27] (fun u _ i wv => ∃ (j : Nat) (A' : Option Addr) (c' : Nat), j ≤ k ∧ i = .int .i64 j ∧ u = .slice A' (flat x j).length c' ∧ Hid (OI wv w.heap.size A' (flat x j).length c' (flat x j)) ∧ Below w.heap.size w wv) (fun _ _ i _ => k - (intOf i).toNat)
      case atStart => exact ⟨0, A1, c1, Nat.zero_le _, rfl, by rw [flat_zero]; rfl, by rw [flat_zero]; exact ho1', hB1⟩
      case round =>
        obtain ⟨j, A', c', hj, rfl, rfl, ho, hb⟩ := hrel
        have hsz := hb.size
        by_cases hlt2 : j < k
        · obtain ⟨g, off, B, m, d, t, rfl, hc, ht, hmx, hx⟩ := (h.below hb).at_ hlt2
          have HS := Lib.hid (flat_step (x := x) (k := j) (by omega))
          have hfl2 := flat_le x (k := j + 1) (n := k) (by omega)
          rw [HS.out, ← hx.out, List.length_append, ht.1] at hfl2
          generalize hq : (flat x j) = q at *
          go_wp2_with (at_builtin; refine wpList_append_any rfl _ _ 22 rfl w.heap.size 2 i0 (.int .i64 0) 1 8 Try.underlying22 hi hz0 hz1 hz2 rfl (by omega) A' q.length c' (q.map (Value.int .i64)) rfl ho.out B m d (t.map (Value.int .i64)) rfl (Src.ints ht) (by unfold maxLen; omega) (by omega) hsz ?_; intro A3 c3 w3 ho3 hg hnil; have hgb := grown_below hg ho.out hsz)
          have hb3 := hb.trans hgb
          have hO3 : Hid (OI w3 w.heap.size A3 (flat x (j + 1)).length c3 (flat x (j + 1))) := Lib.hid (by
            rw [HS.out, ← hx.out, List.length_append, ht.1]; unfold OI; rw [List.map_append]; exact ho3)
          have HL : Hid ((flat x (j + 1)).length = q.length + m) := Lib.hid (by rw [HS.out, ← hx.out, List.length_append, ht.1])
          clear hgb ho ho3 hg hb HS hx hq
          go_roundw
          case rel => exact ⟨j + 1, A3, c3, by omega, by go_num, by rw [HL.out], hO3, hb3⟩
          case measure => simp [intOf]; omega
        · have hjk : j = k := by omega
          subst hjk
          go_wp2_with fail
          go_ret
          exact ⟨A', c', rfl, ho.out, hb⟩
end Go.Proofs.Ytcjgcopkeeiicaa
