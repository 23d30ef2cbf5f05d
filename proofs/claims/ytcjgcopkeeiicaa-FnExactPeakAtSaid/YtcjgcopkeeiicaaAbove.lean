/- Contracts: AboveOf; SymPlaces. -/
import Derived.Test.YtcjgcopkeeiicaaArgs
namespace Go.Proofs.Ytcjgcopkeeiicaa
open Go.RowKit
set_option linter.unusedVariables false

/-- The places below k that pass. -/
def upto (f : Nat → Bool) (k : Nat) : List Nat := (List.range k).filter f
theorem upto_yes {f : Nat → Bool} {k : Nat} (h : f k = true) : upto f (k + 1) = upto f k ++ [k] := by
  unfold upto; rw [List.range_succ, List.filter_append]; simp [h]
theorem upto_no {f : Nat → Bool} {k : Nat} (h : f k = false) : upto f (k + 1) = upto f k := by
  unfold upto; rw [List.range_succ, List.filter_append]; simp [h]
theorem upto_len (f : Nat → Bool) (k : Nat) : (upto f k).length ≤ k := by
  unfold upto
  have := List.length_filter_le f (List.range k)
  rwa [List.length_range] at this
def V_AboveOf (xs t : List Int) (p : Int) : List Int := if Pl.posOk xs t p then nats (upto (fun k => Pl.holds (Pl.ari xs) t k p.toNat) p.toNat) else []
theorem aboveOf_no {xs t : List Int} {p : Int} (h : Pl.posOk xs t p = false) : V_AboveOf xs t p = [] := by unfold V_AboveOf; rw [h]; rfl
theorem aboveOf_yes {xs t : List Int} {q : Nat} (h : Pl.posOk xs t q = true) : V_AboveOf xs t q = nats (upto (fun k => Pl.holds (Pl.ari xs) t k q) q) := by unfold V_AboveOf; rw [h]; rfl
theorem bd_AboveOf (xs t : List Int) (p : Int) : (V_AboveOf xs t p).length ≤ 60 := by
  unfold V_AboveOf
  split
  · rename_i h
    obtain ⟨h1, h2, h3⟩ := Pl.posOk_iff.1 h
    have h4 := (Pl.termOk_iff.1 h1).2.1
    have := upto_len (fun k => Pl.holds (Pl.ari xs) t k p.toNat) p.toNat
    rw [nats_length]; omega
  · simp
def V_SymPlaces (xs t : List Int) : List Int := if Pl.termOk xs t then nats (upto (fun k => decide (0 ≤ t.getD k 0)) t.length) else []
theorem symPlaces_no {xs t : List Int} (h : Pl.termOk xs t = false) : V_SymPlaces xs t = [] := by unfold V_SymPlaces; rw [h]; rfl
theorem symPlaces_yes {xs t : List Int} (h : Pl.termOk xs t = true) : V_SymPlaces xs t = nats (upto (fun k => decide (0 ≤ t.getD k 0)) t.length) := by unfold V_SymPlaces; rw [h]; rfl
theorem bd_SymPlaces (xs t : List Int) : (V_SymPlaces xs t).length ≤ 60 := by
  unfold V_SymPlaces
  split
  · rename_i h
    have h4 := (Pl.termOk_iff.1 h).2.1
    have := upto_len (fun k => decide (0 ≤ t.getD k 0)) t.length
    rw [nats_length]; omega
  · simp
end Go.Proofs.Ytcjgcopkeeiicaa
