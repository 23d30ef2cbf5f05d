/- Contracts: the laws' dice. -/
import Derived.Test.YtihgolhpdnoooaaDraw
namespace Go.Proofs.Ytihgolhpdnoooaa
open Go.RowKit
set_option linter.unusedVariables false
set_option linter.unusedSimpArgs false

theorem and24 (x : Int) : 0 ≤ bits .and .u64 x 16777215 ∧ bits .and .u64 x 16777215 ≤ 16777215 := by
  have h1 : (BitVec.ofInt 64 x &&& BitVec.ofInt 64 16777215).toNat ≤ 16777215 := by
    rw [BitVec.toNat_and]
    exact Nat.le_trans Nat.and_le_right (by decide)
  have e : bits .and .u64 x 16777215 = IntKind.u64.wrap ((BitVec.ofInt 64 x &&& BitVec.ofInt 64 16777215).toNat : Int) := rfl
  rw [e, IntKind.wrap_u64]
  omega
structure Die (w : World) (cb : Nat) (A : Option Addr) (n c : Nat) : Prop where
  blk : ∃ (i : Nat) (h : Int), i ≤ n ∧ Blk w cb 85 #[.slice A n c, .int .i64 i, .int .u64 h]
  bi : BI w A n
  far : 0 < n → ∀ a, A = some a → a.block < cb
  small : n ≤ 4096
theorem Die.below {w w' : World} {cb : Nat} {A : Option Addr} {n c : Nat} (h : Die w cb A n c) (hb : Below w.heap.size w w') : Die w' cb A n c := by
  obtain ⟨i, hh, hi, hk⟩ := h.blk
  exact ⟨⟨i, hh, hi, hk.below hb⟩, h.bi.below hb, h.far, h.small⟩
theorem Die.lt {w : World} {cb : Nat} {A : Option Addr} {n c : Nat} (h : Die w cb A n c) : cb < w.heap.size := by
  obtain ⟨i, hh, _, hb⟩ := h.blk
  exact hb.lt
theorem big_any (A : Option Addr) (n c : Nat) (w : World) (hn : n ≤ 9223372036854775807) :
    Calls Try.prog 11 #[.slice A n c] w fun e w' => e = .returned (.bool (decide (4096 < n))) ∧ w = w' := by
  go_enter Try.func11, Try.ntmps11
  go_wp2
  go_ret
  exact ⟨ret_bool (by simp <;> omega), rfl⟩
set_option maxHeartbeats 1000000 in
theorem roll_any (A : Option Addr) (n c : Nat) (s : Int) (w : World) (h : BI w A n) (hn : n ≤ 4096) :
    Calls Try.prog 18 #[.slice A n c, .int .u64 s] w fun e w' => e = .returned (.pointer (some ⟨w.heap.size, 0, none⟩)) ∧ Die w' w.heap.size A n c ∧ Below w.heap.size w w' := by
  go_enter Try.func18, Try.ntmps18
  go_wp2_with fail
  go_loopw [6] (fun i wr => ∃ (k : Nat) (x : Int), k ≤ n ∧ i = .int .i64 k ∧ Blk wr w.heap.size 85 #[.slice A n c, .int .i64 0, .int .u64 x] ∧ Below w.heap.size w wr) (fun i _ => n - (intOf i).toNat)
  case atStart => exact ⟨0, _, Nat.zero_le _, rfl, Blk.new _ _ _, (Below.refl _ _).alloc (Nat.le_refl _) _⟩
  case round =>
    obtain ⟨k, x, hk, rfl, hbk, hb⟩ := hrel
    have K2 : wr.cell? ⟨w.heap.size, 2, none⟩ = some (.int .u64 x) := hbk.cell 2
    have KF : wr.frozen? ⟨w.heap.size, 2, none⟩ = false := hbk.frozen 2
    by_cases hlt : k < n
    · obtain ⟨g, off, y, rfl, hc, hy0, hy1⟩ := (h.below hb).at_ hlt
      go_wp2
      go_region
      go_wp2
      go_roundw
      case rel => exact ⟨k + 1, _, by omega, by go_num, hbk.set_ 2 _, (hb.setCell (p := ⟨w.heap.size, 2, none⟩) (Nat.le_refl _) _).drew⟩
      case measure => simp [intOf]; omega
    · go_wp2_with fail
      go_ret
      refine ⟨rfl, ⟨⟨0, x, Nat.zero_le _, hbk⟩, h.below hb, fun h0 a ha => ?_, hn⟩, hb⟩
      obtain ⟨g, off, hA, hc⟩ := h h0
      obtain ⟨y, hy, _⟩ := hc 0 h0
      rw [hA] at ha
      injection ha with ha
      subst ha
      exact World.block_lt_of_cell? _ _ hy
theorem wrap_small {y : Int} (h0 : 0 ≤ y) (h1 : y ≤ 100000000) : wrap64 y = y := by
  have := IntKind.wrap_i64 y
  unfold wrap64
  omega
theorem tmod_bd {y k : Int} (h0 : 0 ≤ y) (h1 : y ≤ 100000000) (hk : 0 < k) : 0 ≤ (wrap64 y).tmod k ∧ (wrap64 y).tmod k < k := by
  rw [wrap_small h0 h1]
  exact ⟨Int.tmod_nonneg k h0, Int.tmod_lt_of_pos y hk⟩
theorem tmod_bd2 {y x k : Int} (h0 : 0 ≤ y) (h1 : y ≤ 16777215) (h2 : 0 ≤ x) (h3 : x ≤ 255) (hk : 0 < k) : 0 ≤ (wrap64 (wrap64 y + x)).tmod k ∧ (wrap64 (wrap64 y + x)).tmod k < k := by
  rw [wrap_small (y := y) h0 (by omega)]
  exact tmod_bd (by omega) (by omega) hk
theorem Die.of {w w' : World} {cb : Nat} {A : Option Addr} {n c : Nat} (h : Die w cb A n c) (ho : Only cb (cb + 1) w w') {i : Nat} {x : Int} (hi : i ≤ n) (hb : Blk w' cb 85 #[.slice A n c, .int .i64 i, .int .u64 x]) : Die w' cb A n c :=
  ⟨⟨i, x, hi, hb⟩, h.bi.keep' ho h.far, h.far, h.small⟩
set_option maxHeartbeats 2000000 in
theorem below_any (cb : Nat) (A : Option Addr) (n c : Nat) (k : Int) (w : World) (h : Die w cb A n c) (hk : 0 < k) (hk2 : k ≤ 100000) :
    Calls Try.prog 19 #[.pointer (some ⟨cb, 0, none⟩), .int .i64 k] w fun e w' => ∃ x : Int, e = .returned (.int .i64 x) ∧ 0 ≤ x ∧ x < k ∧ Die w' cb A n c ∧ Only cb (cb + 1) w w' := by
  obtain ⟨i, hh, hi, hb⟩ := h.blk
  have hlt := hb.lt
  have K : ∀ j, w.cell? ⟨cb, j, none⟩ = #[Value.slice A n c, .int .i64 i, .int .u64 hh][j]? := fun j => hb.cell j
  have KF : ∀ j, w.frozen? ⟨cb, j, none⟩ = false := fun j => hb.frozen j
  have hsm := h.small
  by_cases hin : i < n
  · obtain ⟨g, off, x, rfl, hc, hx0, hx1⟩ := h.bi.at_ hin
    have hg : g < cb := by have := h.far (by omega) _ rfl; simpa using this
    have hne : g ≠ cb := by omega
    go_enter Try.func19, Try.ntmps19
    go_wp2
    go_quiet (fail)
    go_wp2
    go_quiet (fail)
    go_wp2
    go_ret
    have hm := and24 (IntKind.u64.wrap (IntKind.u64.wrap (hh * 6364136223846793005) + 1442695040888963407) / 8589934592)
    have hr := tmod_bd2 hm.1 hm.2 hx0 hx1 hk
    have ho := fun N : Nat => ((((Only.refl cb (cb + 1) w).setCell (p := ⟨cb, 2, none⟩) (by simp) (Value.int IntKind.u64 (IntKind.u64.wrap (IntKind.u64.wrap (hh * 6364136223846793005) + 1442695040888963407)))).drewN N).setCell (p := ⟨cb, 1, none⟩) (by simp) (Value.int IntKind.i64 (↑i + 1)))
    have hk1 := fun N : Nat => ((hb.set_ 2 (Value.int IntKind.u64 (IntKind.u64.wrap (IntKind.u64.wrap (hh * 6364136223846793005) + 1442695040888963407)))).drewN N).set_ 1 (Value.int IntKind.i64 (↑i + 1))
    exact ⟨_, rfl, hr.1, hr.2, h.of (ho _) (i := i + 1) (by omega) (hk1 _), ho _⟩
  · go_enter Try.func19, Try.ntmps19
    go_wp2
    go_quiet (fail)
    go_wp2
    go_ret
    have hm := and24 (IntKind.u64.wrap (IntKind.u64.wrap (hh * 6364136223846793005) + 1442695040888963407) / 8589934592)
    have hr := tmod_bd hm.1 (by omega) hk
    have ho := fun N : Nat => (((Only.refl cb (cb + 1) w).setCell (p := ⟨cb, 2, none⟩) (by simp) (Value.int IntKind.u64 (IntKind.u64.wrap (IntKind.u64.wrap (hh * 6364136223846793005) + 1442695040888963407)))).drewN N)
    have hk1 := fun N : Nat => ((hb.set_ 2 (Value.int IntKind.u64 (IntKind.u64.wrap (IntKind.u64.wrap (hh * 6364136223846793005) + 1442695040888963407)))).drewN N)
    exact ⟨_, rfl, hr.1, hr.2, h.of (ho _) (i := i) (by omega) (hk1 _), ho _⟩
end Go.Proofs.Ytihgolhpdnoooaa
