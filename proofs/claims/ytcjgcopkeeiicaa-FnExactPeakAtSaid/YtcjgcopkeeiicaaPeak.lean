/- Contracts: peaks. -/
import Derived.Test.YtcjgcopkeeiicaaSig
import Derived.Deep.RegionHeld3
namespace Go.Proofs.Ytcjgcopkeeiicaa
open Go.RowKit
set_option linter.unusedVariables false

/-- Are two peaks the same? -/
def eqP (xs ys zs xs' ys' zs' : List Int) (p q r p' q' r' : Int) : Bool := decide (xs = xs') && decide (ys = ys') && decide (zs = zs') && decide (p = p') && decide (q = q') && decide (r = r')

set_option maxHeartbeats 2000000 in
theorem eqPeak_same (A : Option Addr) (n c : Nat) (xs : List Int) (B : Option Addr) (m d : Nat) (ys : List Int) (C : Option Addr) (o f : Nat) (zs : List Int) (p q r : Int)
    (A' : Option Addr) (c' : Nat) (B' : Option Addr) (d' : Nat) (C' : Option Addr) (f' : Nat) (w : World)
    (h : RI w A n xs) (h' : RI w B m ys) (h'' : RI w C o zs) (k : RI w A' n xs) (k' : RI w B' m ys) (k'' : RI w C' o zs) (hs : n + m + o ≤ 1048576) :
    Calls Try.prog 16 #[.agg #[.slice A n c, .slice B m d, .slice C o f, .int .i64 p, .int .i64 q, .int .i64 r], .agg #[.slice A' n c', .slice B' m d', .slice C' o f', .int .i64 p, .int .i64 q, .int .i64 r]] w fun e w' =>
      e = .returned (.bool true) ∧ Below w.heap.size w w' := by
  go_enter Try.func16, Try.ntmps16
  go_wp2_with fail
  refine (eqInt64S_any A n c xs A' n c' xs _ ((h.alloc _).alloc _) ((k.alloc _).alloc _) (by omega)).mono ?_
  rintro e w1 ⟨rfl, hb1⟩
  have hB : Below w.heap.size w w1 := below_then (((Below.refl _ _).alloc (Nat.le_refl _) _).alloc (by simp <;> omega) _) hb1 (by simp <;> omega)
  have bk0 : Blk w1 w.heap.size 41 #[.slice A n c, .slice B m d, .slice C o f, .int .i64 p, .int .i64 q, .int .i64 r] := ((Blk.new w _ _).alloc _).below hb1
  have bk1 : Blk w1 (w.heap.size + 1) 41 #[.slice A' n c', .slice B' m d', .slice C' o f', .int .i64 p, .int .i64 q, .int .i64 r] := by
    have := (Blk.new (w.alloc (.cells #[.slice A n c, .slice B m d, .slice C o f, .int .i64 p, .int .i64 q, .int .i64 r] 41)) 41 #[.slice A' n c', .slice B' m d', .slice C' o f', .int .i64 p, .int .i64 q, .int .i64 r]).below hb1
    simpa only [World.size_alloc] using this
  clear hb1
  have K0 : ∀ i, w1.cell? ⟨w.heap.size, i, none⟩ = #[.slice A n c, .slice B m d, .slice C o f, .int .i64 p, .int .i64 q, .int .i64 r][i]? := fun i => bk0.cell i
  have K1 : ∀ i, w1.cell? ⟨w.heap.size + 1, i, none⟩ = #[.slice A' n c', .slice B' m d', .slice C' o f', .int .i64 p, .int .i64 q, .int .i64 r][i]? := fun i => bk1.cell i
  go_wp2_with fail
  refine (eqInt64S_any B m d ys B' m d' ys _ (h'.below hB) (k'.below hB) (by omega)).mono ?_
  rintro e w2 ⟨rfl, hb1⟩
  replace hB := below_then hB hb1 hB.size
  replace bk0 := bk0.below hb1
  replace bk1 := bk1.below hb1
  clear hb1 K0 K1
  have K0 : ∀ i, w2.cell? ⟨w.heap.size, i, none⟩ = #[.slice A n c, .slice B m d, .slice C o f, .int .i64 p, .int .i64 q, .int .i64 r][i]? := fun i => bk0.cell i
  have K1 : ∀ i, w2.cell? ⟨w.heap.size + 1, i, none⟩ = #[.slice A' n c', .slice B' m d', .slice C' o f', .int .i64 p, .int .i64 q, .int .i64 r][i]? := fun i => bk1.cell i
  go_wp2_with fail
  refine (eqInt64S_any C o f zs C' o f' zs _ (h''.below hB) (k''.below hB) (by omega)).mono ?_
  rintro e w3 ⟨rfl, hb1⟩
  replace hB := below_then hB hb1 hB.size
  replace bk0 := bk0.below hb1
  replace bk1 := bk1.below hb1
  clear hb1 K0 K1
  have K0 : ∀ i, w3.cell? ⟨w.heap.size, i, none⟩ = #[.slice A n c, .slice B m d, .slice C o f, .int .i64 p, .int .i64 q, .int .i64 r][i]? := fun i => bk0.cell i
  have K1 : ∀ i, w3.cell? ⟨w.heap.size + 1, i, none⟩ = #[.slice A' n c', .slice B' m d', .slice C' o f', .int .i64 p, .int .i64 q, .int .i64 r][i]? := fun i => bk1.cell i
  go_wp2_with fail
  go_ret
  exact ⟨rfl, hB⟩
end Go.Proofs.Ytcjgcopkeeiicaa
