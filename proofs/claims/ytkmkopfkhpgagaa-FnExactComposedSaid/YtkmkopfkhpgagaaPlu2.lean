/- Contracts: PlainOf. -/
import Derived.Test.YtkmkopfkhpgagaaPlu
namespace Go.Proofs.Ytkmkopfkhpgagaa
open Go.RowKit
set_option linter.unusedVariables false

theorem QR.setBelow {w : World} {B : Nat} {A : Option Addr} {n c : Nat} {x : List (List Int)} (h : QR w B A n c x) {p : Addr} (hp : p.block < B) (u : Value) : QR (w.setCell p u) B A n c x := by
  obtain ⟨h1, rs, h2, h3⟩ := h
  exact ⟨h1, rs, ownsRow_setCell_below h2 hp u, h3.set_ p u fun i hi b hb e => by have := (h3.lt hi hb).1; injection e with e; omega⟩
def V_PlainOf (xs : List Int) (x : List (List Int)) : List (List Int) := if substOk xs x then plainU x else []
theorem plainOf_no {xs : List Int} {x : List (List Int)} (h : substOk xs x = false) : V_PlainOf xs x = [] := by unfold V_PlainOf; rw [h]; rfl
theorem plainOf_yes {xs : List Int} {x : List (List Int)} (h : substOk xs x = true) : V_PlainOf xs x = plainU x := by unfold V_PlainOf; rw [h]; rfl
theorem cl1_len (i : Nat) (t : List Int) : (cl1 i t).length ≤ t.length := by unfold cl1; split <;> simp
theorem wtR_all {y : List (List Int)} {n m : Nat} (hn : y.length ≤ n) (h : ∀ i, (y.getD i []).length ≤ m) : wtR y ≤ n + n * m := by
  unfold wtR
  have key : ∀ (l : List (List Int)), (∀ t ∈ l, t.length ≤ m) → (l.map List.length).sum ≤ l.length * m := by
    intro l
    induction l with
    | nil => intro _; simp
    | cons a r ih =>
      intro hl
      have h1 := hl a (by simp)
      have h2 := ih (fun t ht => hl t (by simp [ht]))
      rw [List.map_cons, List.sum_cons, List.length_cons, Nat.add_mul]
      omega
  have h1 := key y (fun t ht => by
    obtain ⟨i, hi, rfl⟩ := List.getElem_of_mem ht
    have := h i
    rwa [List.getD_eq_getElem?_getD, List.getElem?_eq_getElem hi, Option.getD_some] at this)
  have h2 : y.length * m ≤ n * m := Nat.mul_le_mul_right _ hn
  omega
theorem plainU_wt {x : List (List Int)} {n m : Nat} (hn : x.length ≤ n) (h : ∀ i, (hasV x i).length ≤ m) : wtR (plainU x) ≤ n + n * m :=
  wtR_all (Nat.le_trans (plainU_len x) hn) fun i => by rw [plainU_get]; exact Nat.le_trans (cl1_len i _) (h i)
theorem bd_PlainOf (xs : List Int) (x : List (List Int)) : (V_PlainOf xs x).length ≤ 24 := by
  unfold V_PlainOf
  split
  · rename_i h
    have := plainU_len x
    have := (substOk_iff.1 h).2.1
    omega
  · simp
theorem bw_PlainOf (xs : List Int) (x : List (List Int)) : wtR (V_PlainOf xs x) ≤ 1464 := by
  unfold V_PlainOf
  split
  · rename_i h
    have := plainU_wt (x := x) (n := 24) (m := 60) (substOk_iff.1 h).2.1 (hasV_len h)
    omega
  · simp [wtR]
end Go.Proofs.Ytkmkopfkhpgagaa
