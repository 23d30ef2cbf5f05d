/- Contracts: draws. The cursor is a block of its own. -/
import Derived.Test.YtlcchafcgidpeaaGreatDoorBase
import Derived.Test.YtlcchafcgidpeaaGreatDoorApp
import Derived.Test.YtlcchafcgidpeaaGreatDoorSig
import Derived.Laws.Shifts
namespace Go.Proofs.YtlcchafcgidpeaaGreatDoor
open Go.RowKit
set_option linter.unusedVariables false
set_option linter.unusedSimpArgs false

/-- Bytes in memory. -/
def BI (w : World) (A : Option Addr) (n : Nat) : Prop := 0 < n → ∃ g off, A = some ⟨g, off, none⟩ ∧ ∀ k, k < n → ∃ x : Int, w.cell? ⟨g, off + k, none⟩ = some (.int .u8 x) ∧ 0 ≤ x ∧ x ≤ 255

theorem BI.at_ {w : World} {A : Option Addr} {n : Nat} (h : BI w A n) {k : Nat} (hk : k < n) : ∃ g off x, A = some ⟨g, off, none⟩ ∧ w.cell? ⟨g, off + k, none⟩ = some (.int .u8 x) ∧ 0 ≤ x ∧ x ≤ 255 := by
  obtain ⟨g, off, hA, hc⟩ := h (by omega)
  obtain ⟨x, hx, h0, h1⟩ := hc k hk
  exact ⟨g, off, x, hA, hx, h0, h1⟩
theorem BI.keep {w w' : World} {lo hi : Nat} {A : Option Addr} {n : Nat} (h : BI w A n) (ho : Only lo hi w w') (hf : ∀ a, A = some a → a.block < lo) : BI w' A n := by
  intro hn
  obtain ⟨g, off, hA, hc⟩ := h hn
  refine ⟨g, off, hA, fun k hk => ?_⟩
  obtain ⟨x, hx, h0, h1⟩ := hc k hk
  exact ⟨x, keepO ho (Or.inl (by have := hf _ hA; simpa using this)) hx, h0, h1⟩
theorem BI.below {w w' : World} {A : Option Addr} {n : Nat} (h : BI w A n) (hb : Below w.heap.size w w') : BI w' A n := by
  intro hn
  obtain ⟨g, off, hA, hc⟩ := h hn
  refine ⟨g, off, hA, fun k hk => ?_⟩
  obtain ⟨x, hx, h0, h1⟩ := hc k hk
  exact ⟨x, (hb.cell (World.block_lt_of_cell? w _ hx)).trans hx, h0, h1⟩

theorem and255 (x : Int) : 0 ≤ bits .and .i64 x 255 ∧ bits .and .i64 x 255 ≤ 255 := by
  have h1 : (BitVec.ofInt 64 x &&& BitVec.ofInt 64 255).toNat ≤ 255 := by
    rw [BitVec.toNat_and]
    exact Nat.le_trans Nat.and_le_right (by decide)
  have e : bits .and .i64 x 255 = IntKind.i64.wrap ((BitVec.ofInt 64 x &&& BitVec.ofInt 64 255).toNat : Int) := rfl
  rw [e, IntKind.wrap_i64]
  omega

/-- A draw leaves all old memory alone, but for the cursor's block. -/
structure Dcur (w : World) (cb : Nat) (A : Option Addr) (n c : Nat) : Prop where
  blk : ∃ (i : Nat) (h : Int), i ≤ n ∧ Blk w cb 70 #[.slice A n c, .int .i64 i, .int .i64 h]
  bi : BI w A n
  far : 0 < n → ∀ a, A = some a → a.block < cb
  small : n ≤ 4096

theorem Dcur.lt {w : World} {cb : Nat} {A : Option Addr} {n c : Nat} (h : Dcur w cb A n c) : cb < w.heap.size := by
  obtain ⟨i, hh, _, hb⟩ := h.blk
  exact hb.lt
theorem Dcur.belowB {w w' : World} {cb B : Nat} {A : Option Addr} {n c : Nat} (h : Dcur w cb A n c) (hb : Below B w w') (hB : cb < B) : Dcur w' cb A n c := by
  obtain ⟨i, hh, hi, hk⟩ := h.blk
  refine ⟨⟨i, hh, hi, (hb.block cb hB).trans hk⟩, ?_, h.far, h.small⟩
  intro hn
  obtain ⟨g, off, hA, hc⟩ := h.bi hn
  refine ⟨g, off, hA, fun k hkn => ?_⟩
  obtain ⟨x, hx, h0, h1⟩ := hc k hkn
  have := h.far hn _ hA
  exact ⟨x, (hb.cell (by simp at this ⊢; omega)).trans hx, h0, h1⟩
theorem Dcur.below {w w' : World} {cb : Nat} {A : Option Addr} {n c : Nat} (h : Dcur w cb A n c) (hb : Below w.heap.size w w') : Dcur w' cb A n c := h.belowB hb h.lt
theorem Dcur.alloc {w : World} {cb : Nat} {A : Option Addr} {n c : Nat} (h : Dcur w cb A n c) (o : Obj) : Dcur (w.alloc o) cb A n c := h.below ((Below.refl _ _).alloc (Nat.le_refl _) o)

theorem Dcur.drew {w : World} {cb : Nat} {A : Option Addr} {n c : Nat} (h : Dcur w cb A n c) : Dcur w.drew cb A n c := ⟨h.blk, h.bi, h.far, h.small⟩
theorem Only.drew {lo hi : Nat} {a b : World} (h : Only lo hi a b) : Only lo hi a b.drew := ⟨h.os, h.tape, h.output, h.size, h.block⟩
theorem Only.drewL {lo hi : Nat} {a b : World} (h : Only lo hi a.drew b) : Only lo hi a b := ⟨h.os, h.tape, h.output, h.size, h.block⟩
theorem Only.drewN {lo hi : Nat} {a b : World} (h : Only lo hi a b) (n : Nat) : Only lo hi a (b.drewN n) := ⟨h.os, h.tape, h.output, h.size, h.block⟩
theorem BI.keep' {w w' : World} {lo hi : Nat} {A : Option Addr} {n : Nat} (h : BI w A n) (ho : Only lo hi w w') (hf : 0 < n → ∀ a, A = some a → a.block < lo) : BI w' A n := fun hn => (h.keep ho (hf hn)) hn
theorem Dcur.of {w w' : World} {cb : Nat} {A : Option Addr} {n c : Nat} (h : Dcur w cb A n c) (ho : Only cb (cb + 1) w w') {i : Nat} {x : Int} (hi : i ≤ n) (hb : Blk w' cb 70 #[.slice A n c, .int .i64 i, .int .i64 x]) : Dcur w' cb A n c :=
  ⟨⟨i, x, hi, hb⟩, h.bi.keep' ho h.far, h.far, h.small⟩
theorem Only.thenB {lo hi B : Nat} {a b c : World} (h : Only lo hi a b) (k : Below B b c) (hB : a.heap.size ≤ B) : Only lo hi a c :=
  ⟨k.os.trans h.os, k.tape.trans h.tape, k.output.trans h.output, Nat.le_trans h.size k.size, fun i hi hh => (k.block i (Nat.lt_of_lt_of_le hi hB)).trans (h.block i hi hh)⟩
theorem Only.alloc {lo hi : Nat} {a b : World} (h : Only lo hi a b) (o : Obj) : Only lo hi a (b.alloc o) := h.thenB ((Below.refl a.heap.size b).alloc h.size o) (Nat.le_refl _)
/-- Own rows lie behind the cursor. -/
theorem OI.up {w w' : World} {B lo hi : Nat} {A : Option Addr} {n c : Nat} {xs : List Int} (h : OI w B A n c xs) (ho : Only lo hi w w') (hB : hi ≤ B) : OI w' B A n c xs := by
  refine ⟨h.1, ?_⟩
  rcases h.2 with hn | ⟨g, cap, cur, hv, hg, hh, rest⟩
  · exact .inl hn
  · exact .inr ⟨g, cap, cur, hv, hg, (ho.block g (Array.getElem?_eq_some_iff.1 hh).1 (Or.inr (by omega))).trans hh, rest⟩

/-- A row that reads as xs, in a block from B on. -/
def RB (w : World) (B : Nat) (A : Option Addr) (n : Nat) (xs : List Int) : Prop := RI w A n xs ∧ (0 < n → ∀ a, A = some a → B ≤ a.block)
theorem RB.up {w w' : World} {B lo hi : Nat} {A : Option Addr} {n : Nat} {xs : List Int} (h : RB w B A n xs) (ho : Only lo hi w w') (hB : hi ≤ B) : RB w' B A n xs := by
  refine ⟨⟨h.1.1, fun hn => ?_⟩, h.2⟩
  obtain ⟨g, off, hA, hc⟩ := h.1.2 hn
  refine ⟨g, off, hA, fun k hk => ?_⟩
  have := h.2 hn _ hA
  exact keepO ho (Or.inr (by simp at this ⊢; omega)) (hc k hk)
theorem RB.below {w w' : World} {B : Nat} {A : Option Addr} {n : Nat} {xs : List Int} (h : RB w B A n xs) (hb : Below w.heap.size w w') : RB w' B A n xs := ⟨h.1.below hb, h.2⟩
theorem RB.base {w : World} {B B' : Nat} {A : Option Addr} {n : Nat} {xs : List Int} (h : RB w B A n xs) (hB : B' ≤ B) : RB w B' A n xs := ⟨h.1, fun hn a ha => Nat.le_trans hB (h.2 hn a ha)⟩
theorem OI.rb {w : World} {B : Nat} {A : Option Addr} {n c : Nat} {xs : List Int} (h : OI w B A n c xs) : RB w B A n xs := by
  refine ⟨h.ri, fun hn a ha => ?_⟩
  rcases h.2 with ⟨_, h0⟩ | ⟨g, cap, cur, hv, hg, _⟩
  · omega
  · have hA : A = some ⟨g, 0, none⟩ := by injection hv
    rw [hA] at ha
    injection ha with ha
    subst ha
    exact hg

set_option maxHeartbeats 2000000 in
theorem l1Byte_any (cb : Nat) (A : Option Addr) (n c : Nat) (w : World) (h : Dcur w cb A n c) :
    Calls Tryz.prog 73 #[.pointer (some ⟨cb, 0, none⟩)] w fun e w' => ∃ x : Int, e = .returned (.int .i64 x) ∧ 0 ≤ x ∧ x ≤ 255 ∧ Dcur w' cb A n c ∧ Only cb (cb + 1) w w' := by
  obtain ⟨i, hh, hi, hk⟩ := h.blk
  have hlt := hk.lt
  have K : ∀ j, w.cell? ⟨cb, j, none⟩ = #[Value.slice A n c, .int .i64 i, .int .i64 hh][j]? := fun j => hk.cell j
  have KF : ∀ j, w.frozen? ⟨cb, j, none⟩ = false := fun j => hk.frozen j
  have hsm := h.small
  have hbi := h.bi
  have hfar := h.far
  by_cases hin : i < n
  · obtain ⟨g, off, x, rfl, hc, hx0, hx1⟩ := h.bi.at_ hin
    have hg : g < cb := by have := h.far (by omega) _ rfl; simpa using this
    have hne : g ≠ cb := by omega
    go_enter Tryz.func73, Tryz.ntmps73
    go_wp2
    go_quiet (fail)
    go_wp2
    go_quiet (fail)
    go_wp2
    go_quiet (fail)
    go_wp2
    go_ret
    have ho := fun N : Nat => ((((Only.refl cb (cb + 1) w).setCell (p := ⟨cb, 2, none⟩) (by simp) (Value.int IntKind.i64 (wrap64 (wrap64 (hh * 6364136223846793005) + 1442695040888963407)))).drewN N).setCell (p := ⟨cb, 1, none⟩) (by simp) (Value.int IntKind.i64 (↑i + 1)))
    refine ⟨_, rfl, (and255 _).1, (and255 _).2, h.of (ho _) (i := i + 1) (x := wrap64 (wrap64 (hh * 6364136223846793005) + 1442695040888963407)) (by omega) ?_, ho _⟩
    have := fun N : Nat => ((hk.set_ 2 (Value.int IntKind.i64 (wrap64 (wrap64 (hh * 6364136223846793005) + 1442695040888963407)))).drewN N).set_ 1 (Value.int IntKind.i64 (↑i + 1))
    exact this _
  · go_enter Tryz.func73, Tryz.ntmps73
    go_wp2
    go_quiet (fail)
    go_wp2
    go_quiet (fail)
    go_wp2
    go_ret
    have ho := fun N M : Nat => ((((Only.refl cb (cb + 1) w).setCell (p := ⟨cb, 2, none⟩) (by simp) (Value.int IntKind.i64 (wrap64 (wrap64 (hh * 6364136223846793005) + 1442695040888963407)))).drewN N).drewN M)
    refine ⟨_, rfl, (and255 _).1, (and255 _).2, h.of (ho _ _) (i := i) (x := wrap64 (wrap64 (hh * 6364136223846793005) + 1442695040888963407)) (by omega) ?_, ho _ _⟩
    have := fun N M : Nat => ((hk.set_ 2 (Value.int IntKind.i64 (wrap64 (wrap64 (hh * 6364136223846793005) + 1442695040888963407)))).drewN N).drewN M
    exact this _ _
theorem Blk.belowB {w w' : World} {g B : Nat} {t : TypeId} {cs : Array Value} (h : Blk w g t cs) (hb : Below B w w') (hg : g < B) : Blk w' g t cs := (hb.block g hg).trans h
theorem Blk.only {w w' : World} {g : Nat} {t : TypeId} {cs : Array Value} {lo hi : Nat} (h : Blk w g t cs) (ho : Only lo hi w w') (hg : g < lo ∨ hi ≤ g) : Blk w' g t cs := (ho.block g h.lt hg).trans h
theorem OI.of_blk {w : World} {g : Nat} {xs : List Int} (h : Blk w g 2 (xs.map (Value.int .i64)).toArray) (hl : xs.length ≤ 1048576) : OI w g (some ⟨g, 0, none⟩) xs.length xs.length xs :=
  ⟨by simp, Or.inr ⟨g, xs.length, (xs.map (Value.int .i64)).toArray, rfl, Nat.le_refl _, by simpa [Blk] using h, Nat.le_refl _, by unfold maxLen; omega, by simp, by simp [List.take_of_length_le]⟩⟩
set_option maxHeartbeats 1000000 in
theorem l1New_any (A : Option Addr) (n c : Nat) (w : World) (h : BI w A n) (hn : n ≤ 4096) :
    Calls Tryz.prog 16 #[.slice A n c] w fun e w' => e = .returned (.pointer (some ⟨w.heap.size, 0, none⟩)) ∧ Dcur w' w.heap.size A n c ∧ Below w.heap.size w w' := by
  go_enter Tryz.func16, Tryz.ntmps16
  go_wp2_with fail
  go_loopw [3, 4] (fun q i wr => ∃ (k : Nat) (x : Int), k ≤ n ∧ i = .int .i64 k ∧ q = .int .i64 x ∧ wr = w) (fun _ i _ => n - (intOf i).toNat)
  case atStart => exact ⟨0, _, Nat.zero_le _, rfl, rfl, rfl⟩
  case round =>
    obtain ⟨k, x, hk, rfl, rfl, rfl⟩ := hrel
    by_cases hlt : k < n
    · obtain ⟨g, off, y, rfl, hc, hy0, hy1⟩ := h.at_ hlt
      go_wp2_with fail
      go_roundw
      case rel => exact ⟨k + 1, _, by omega, by go_num, rfl, trivial⟩
      case measure => simp [intOf]; omega
    · go_wp2_with fail
      go_ret
      refine ⟨rfl, ⟨⟨0, x, Nat.zero_le _, Blk.new _ _ _⟩, h.below ((Below.refl _ _).alloc (Nat.le_refl _) _), fun h0 a ha => ?_, hn⟩, (Below.refl _ _).alloc (Nat.le_refl _) _⟩
      obtain ⟨g, off, hA, hc⟩ := h h0
      obtain ⟨y, hy, _⟩ := hc 0 h0
      rw [hA] at ha
      injection ha with ha
      subst ha
      exact World.block_lt_of_cell? _ _ hy
set_option maxHeartbeats 1000000 in
theorem l1Below_any (cb : Nat) (A : Option Addr) (n c : Nat) (k : Int) (w : World) (h : Dcur w cb A n c) (hk : k ≤ 256) :
    Calls Tryz.prog 47 #[.pointer (some ⟨cb, 0, none⟩), .int .i64 k] w fun e w' => ∃ x : Int, e = .returned (.int .i64 x) ∧ 0 ≤ x ∧ (0 < k → x < k) ∧ x ≤ 255 ∧ Dcur w' cb A n c ∧ Only cb (cb + 1) w w' := by
  by_cases h0 : k ≤ 0
  · have e0 : decide (k ≤ 0) = true := by simpa using h0
    go_enter Tryz.func47, Tryz.ntmps47
    go_wp2_with fail
    go_ret
    exact ⟨0, rfl, Int.le_refl _, by omega, by omega, h, Only.refl _ _ _⟩
  · have e0 : decide (k ≤ 0) = false := by simpa using h0
    have e1 : decide (k ≤ 256) = true := by simpa using hk
    have e2 : ¬ k = 0 := by omega
    go_enter Tryz.func47, Tryz.ntmps47
    go_wp2_with fail
    refine (l1Byte_any cb A n c _ h).mono ?_
    rintro e w1 ⟨x, rfl, hx0, hx1, hc1, ho1⟩
    go_wp2_with fail
    go_ret
    have hm1 := Int.emod_nonneg x e2
    have hm2 := Int.emod_lt_of_pos x (b := k) (by omega)
    exact ⟨_, rfl, by omega, fun _ => by omega, by omega, hc1, ho1⟩
theorem l1Once_any (cb : Nat) (A : Option Addr) (n c : Nat) (k : Int) (w : World) (h : Dcur w cb A n c) (hk : k ≤ 256) :
    Calls Tryz.prog 19 #[.pointer (some ⟨cb, 0, none⟩), .int .i64 k] w fun e w' => ∃ b : Bool, e = .returned (.bool b) ∧ Dcur w' cb A n c ∧ Only cb (cb + 1) w w' := by
  go_enter Tryz.func19, Tryz.ntmps19
  go_wp2_with fail
  refine (l1Below_any cb A n c k _ h hk).mono ?_
  rintro e w1 ⟨x, rfl, hx0, hx1, hx2, hc1, ho1⟩
  go_wp2_with fail
  go_ret
  exact ⟨_, rfl, hc1, ho1⟩
theorem l1From_any (cb : Nat) (A : Option Addr) (n c : Nat) (lo hi : Int) (w : World) (h : Dcur w cb A n c) (h0 : -1000 ≤ lo) (h1 : lo ≤ hi) (h2 : hi - lo ≤ 255) (h3 : hi ≤ 100000) :
    Calls Tryz.prog 58 #[.pointer (some ⟨cb, 0, none⟩), .int .i64 lo, .int .i64 hi] w fun e w' => ∃ x : Int, e = .returned (.int .i64 x) ∧ lo ≤ x ∧ x ≤ hi ∧ Dcur w' cb A n c ∧ Only cb (cb + 1) w w' := by
  go_enter Tryz.func58, Tryz.ntmps58
  go_wp2_with fail
  refine (l1Below_any cb A n c (hi - lo + 1) _ h (by omega)).mono ?_
  rintro e w1 ⟨x, rfl, hx0, hx1, hx2, hc1, ho1⟩
  have := hx1 (by omega)
  go_wp2_with fail
  go_ret
  exact ⟨lo + x, rfl, by omega, by omega, hc1, ho1⟩
set_option maxHeartbeats 1000000 in
theorem l1Odd_any (cb : Nat) (A : Option Addr) (n c : Nat) (w : World) (h : Dcur w cb A n c) :
    Calls Tryz.prog 63 #[.pointer (some ⟨cb, 0, none⟩)] w fun e w' => ∃ x : Int, e = .returned (.int .i64 x) ∧ Dcur w' cb A n c ∧ Only cb (cb + 1) w w' := by
  have hlt := h.lt
  go_enter Tryz.func63, Tryz.ntmps63
  go_wp2_with fail
  refine (l1Below_any cb A n c 10 _ (h.alloc _) (by omega)).mono ?_
  rintro e w1 ⟨x, rfl, hx0, hx1, hx2, hc1, ho1⟩
  have hb1 := (Blk.new w _ _).only ho1 (Or.inr (by omega))
  have K : ∀ i, w1.cell? ⟨w.heap.size, i, none⟩ = _ := fun i => hb1.cell i
  have ho := ((Only.refl cb (cb + 1) w).alloc _).trans ho1
  have hx3 := hx1 (by omega)
  obtain rfl | rfl | rfl | rfl | rfl | rfl | rfl | rfl | rfl | rfl : x = 0 ∨ x = 1 ∨ x = 2 ∨ x = 3 ∨ x = 4 ∨ x = 5 ∨ x = 6 ∨ x = 7 ∨ x = 8 ∨ x = 9 := by omega
  all_goals (
    go_wp2_with fail
    go_ret
    exact ⟨_, rfl, hc1, ho⟩)
end Go.Proofs.YtlcchafcgidpeaaGreatDoor
