/- Words for memory: slices of slices of numbers. -/
import Derived.Test.YtkonnbkldjgomaaMem
import Derived.Test.YtkonnbkldjgomaaBase
namespace Go.Proofs.Ytkonnbkldjgomaa
open Go.RowKit
set_option linter.unusedVariables false

/-- A slice of slices of int64 that reads as the list x. -/
def RR (w : World) (A : Option Addr) (n : Nat) (x : List (List Int)) : Prop :=
  x.length = n ∧ (0 < n → ∃ g off, A = some ⟨g, off, none⟩ ∧ ∀ k, k < n → ∃ B m d, w.cell? ⟨g, off + k, none⟩ = some (.slice B m d) ∧ RI w B m (x.getD k []) ∧ m ≤ d ∧ d ≤ 9223372036854775807)

theorem RR.below {w w' : World} {A : Option Addr} {n : Nat} {x : List (List Int)} (h : RR w A n x) (hb : Below w.heap.size w w') : RR w' A n x := by
  refine ⟨h.1, fun hn => ?_⟩
  obtain ⟨g, off, hA, hc⟩ := h.2 hn
  refine ⟨g, off, hA, fun k hk => ?_⟩
  obtain ⟨B, m, d, h1, h2, h3⟩ := hc k hk
  exact ⟨B, m, d, (hb.cell (World.block_lt_of_cell? w _ h1)).trans h1, h2.below hb, h3⟩
theorem RR.alloc {w : World} {A : Option Addr} {n : Nat} {x : List (List Int)} (h : RR w A n x) (o : Obj) : RR (w.alloc o) A n x := h.below ((Below.refl _ _).alloc (Nat.le_refl _) o)
theorem RR.at_ {w : World} {A : Option Addr} {n : Nat} {x : List (List Int)} (h : RR w A n x) {k : Nat} (hk : k < n) :
    ∃ g off B m d t, A = some ⟨g, off, none⟩ ∧ w.cell? ⟨g, off + k, none⟩ = some (.slice B m d) ∧ RI w B m t ∧ m ≤ d ∧ d ≤ 9223372036854775807 ∧ Hid (t = x.getD k []) := by
  obtain ⟨g, off, hA, hc⟩ := h.2 (by omega)
  obtain ⟨B, m, d, h1, h2, h3, h4⟩ := hc k hk
  exact ⟨g, off, B, m, d, _, hA, h1, h2, h3, h4, rfl⟩

/-- How much a row of rows takes: one a row, one a number. -/
def wtR (x : List (List Int)) : Nat := x.length + (x.map List.length).sum
theorem le_sum_mem {a : Nat} : ∀ {l : List Nat}, a ∈ l → a ≤ l.sum
  | x :: r, h => by
    rw [List.sum_cons]
    rcases List.mem_cons.1 h with rfl | h
    · omega
    · have := le_sum_mem h; omega
theorem wtR_row {x : List (List Int)} {k : Nat} (hk : k < x.length) : (x.getD k []).length + x.length ≤ wtR x := by
  unfold wtR
  have : (x.getD k []).length ≤ (x.map List.length).sum := by
    rw [List.getD_eq_getElem?_getD, List.getElem?_eq_getElem hk, Option.getD_some]
    exact le_sum_mem (List.mem_map_of_mem (List.getElem_mem hk))
  omega

/-- One row of a slice of slices: where it begins and what it has room for. -/
def rowV (r : Option Addr × Nat) (t : List Int) : Value := .slice r.1 t.length r.2

/-- A slice of slices that the call itself made, each row in a block of its own, all blocks from lo on and before hi. -/
def OR (w : World) (lo hi : Nat) (A : Option Addr) (n c : Nat) (x : List (List Int)) : Prop :=
  x.length = n ∧ ∃ rs : List (Option Addr × Nat), rs.length = n ∧ w.ownsRow lo 22 1 (.slice A n c) n (List.zipWith rowV rs x) ∧ (∀ a, A = some a → a.block < hi) ∧
    (∀ k, k < n → OX w lo hi (rs.getD k (none, 0)).1 (x.getD k []).length (rs.getD k (none, 0)).2 (x.getD k [])) ∧
    (∀ i j, i < j → j < n → ∀ a b, (rs.getD i (none, 0)).1 = some a → (rs.getD j (none, 0)).1 = some b → a.block ≠ b.block)
end Go.Proofs.Ytkonnbkldjgomaa
