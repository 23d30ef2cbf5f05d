/- Contracts: the marks that a statement lays into a rule and asks for again. -/
import Derived.Test.YtlcchafcgidpeaaDoorMarkR
import Derived.Test.YtlcchafcgidpeaaDoorRule
namespace Go.Proofs.YtlcchafcgidpeaaDoor
open Go.RowKit
set_option linter.unusedVariables false

theorem ne_blk {a b : Nat} (h : a ≠ b) : ∀ g, blk (some ⟨a, 0, none⟩) = some g → blk (some ⟨b, 0, none⟩) ≠ some g := fun g e f => by
  simp only [blk, Option.map_some, Option.some.injEq] at e f
  omega
set_option maxHeartbeats 400000 in
theorem markRule_any (lo hi : Nat) (A : Option Addr) (n c : Nat) (xs : List Int) (B : Option Addr) (m d : Nat) (ys : List Int) (k : Int) (w : World) (h : OX w lo hi A n c xs) (h' : OX w lo hi B m d ys) (hne : ∀ b, blk A = some b → blk B ≠ some b) (h0 : 0 ≤ k) (h1 : k + ((n + m : Nat) : Int) ≤ 9223372036854775806) :
    Calls Tryd.prog 18 #[.agg #[.slice A n c, .slice B m d], .int .i64 k] w fun e w' => e = .returned (.int .i64 (k + ((n + m : Nat) : Int))) ∧ OX w' lo hi A n c (marks k n) ∧ OX w' lo hi B m d (marks (k + n) m) ∧ Only lo hi w w' := by
  have hlA : ∀ b, blk A = some b → b < w.heap.size := fun b e => (h.1.lt_ e).2
  have hlB : ∀ b, blk B = some b → b < w.heap.size := fun b e => (h'.1.lt_ e).2
  have hB0 : Below w.heap.size w (w.alloc (.cells #[.slice A n c, .slice B m d] 27)) := (Below.refl _ _).alloc (Nat.le_refl _) _
  have hs0 : (w.alloc (.cells #[.slice A n c, .slice B m d] 27)).heap.size = w.heap.size + 1 := by simp
  have b1 : (w.alloc (.cells #[.slice A n c, .slice B m d] 27)).cell? ⟨w.heap.size, 1, none⟩ = some (.slice B m d) := by simp
  have hX := Lib.hid (h.below hB0)
  have hY := Lib.hid (h'.below hB0)
  go_enter Tryd.func18, Tryd.ntmps18
  go_wp2_with fail
  have mk := markOne_any lo hi A n c xs k _ hX.out h0 (by omega)
  refine mk.mono ?_
  clear mk
  rintro e w1 ⟨rfl, ho, hb, hk⟩
  have c1 : w1.cell? ⟨w.heap.size, 1, none⟩ = some (.slice B m d) := (World.cell?_of_block (hk w.heap.size (by omega) (fun e => by have := hlA _ e; omega))).trans b1
  have hs1 := hb.size
  have hY1 : OX w1 lo hi B m d ys := ⟨hY.out.1.same (fun b e => hk b (by have := hlB _ e; omega) (fun e2 => hne b e2 e)), hY.out.2⟩
  clear b1 hY hX
  go_wp2_with fail
  have mk := markOne_any lo hi B m d ys (k + n) w1 hY1 (by omega) (by omega)
  refine mk.mono ?_
  clear mk
  rintro e w2 ⟨rfl, ho2, hb2, hk2⟩
  have hX2 : OX w2 lo hi A n c (marks k n) := ⟨ho.1.same (fun b e => hk2 b (by have := hlA _ e; omega) (fun e2 => hne b e e2)), ho.2⟩
  go_wp2_with fail
  go_ret
  exact ⟨ret_int (by omega), hX2, ho2, ((Only.of hB0).trans hb).trans hb2⟩
set_option maxHeartbeats 400000 in
theorem heldRule_any (A : Option Addr) (n c : Nat) (B : Option Addr) (m d : Nat) (k : Int) (w : World) (h : RI w A n (marks k n)) (h' : RI w B m (marks (k + n) m)) (h0 : 0 ≤ k) (h1 : k + ((n + m : Nat) : Int) ≤ 9223372036854775806) :
    Calls Tryd.prog 19 #[.agg #[.slice A n c, .slice B m d], .int .i64 k] w fun e w' => e = .returned (.int .i64 (k + ((n + m : Nat) : Int))) ∧ Below w.heap.size w w' := by
  have hn1 : ¬ k + (n : Int) < 0 := by omega
  have hn2 : ¬ k + (n : Int) + (m : Int) < 0 := by omega
  go_enter Tryd.func19, Tryd.ntmps19
  go_wp2_with fail
  refine (heldInt64S_any A n c k _ (h.alloc _) h0 (by omega)).mono ?_
  rintro e w1 ⟨rfl, hb1⟩
  have hB : Below w.heap.size w w1 := below_then ((Below.refl _ _).alloc (Nat.le_refl _) _) hb1 (by simp)
  have c1 : w1.cell? ⟨w.heap.size, 1, none⟩ = some (.slice B m d) := (hb1.cell (by simp)).trans (by simp)
  clear hb1
  go_wp2_with fail
  refine (heldInt64S_any B m d (k + n) _ (h'.below hB) (by omega) (by omega)).mono ?_
  rintro e w2 ⟨rfl, hb2⟩
  go_wp2_with fail
  go_ret
  exact ⟨ret_int (by omega), below_then hB hb2 hB.size⟩
end Go.Proofs.YtlcchafcgidpeaaDoor
