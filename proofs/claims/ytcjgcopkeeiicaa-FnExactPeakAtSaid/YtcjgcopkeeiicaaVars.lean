/- The variables of a term, ascending: the plain law (contracts to come: spec.l1Into, spec.l2Vars, impl.varsIn). -/
import Derived.Test.YtcjgcopkeeiicaaAbove
import Derived.Test.YtcjgcopkeeiicaaCmp
import Derived.Test.YtcjgcopkeeiicaaCopy
namespace Go.Proofs.Ytcjgcopkeeiicaa
open Go.RowKit
set_option linter.unusedVariables false

/-- A set with one number more. -/
def ins (f : Nat → Bool) (n : Nat) (i : Nat) : Bool := f i || decide (i = n)
/-- The numbers from lo that pass, m of them looked at. -/
def from_ (f : Nat → Bool) (lo m : Nat) : List Nat := (List.range' lo m).filter f
theorem upto_split (f : Nat → Bool) {n N : Nat} (h : n < N) : upto f N = upto f n ++ ((if f n then [n] else []) ++ from_ f (n + 1) (N - (n + 1))) := by
  unfold upto from_
  rw [List.range_eq_range', List.range_eq_range', show N = n + (1 + (N - (n + 1))) from by omega, ← List.range'_append_1, ← List.range'_append_1, List.filter_append, List.filter_append]
  rw [show n + (1 + (N - (n + 1))) - (n + 1) = N - (n + 1) from by omega]
  simp only [Nat.zero_add]
  congr 2
  by_cases hf : f n = true <;> simp [hf, List.range'_succ]
theorem ins_same {f : Nat → Bool} {n : Nat} (h : f n = true) : ins f n = f := by
  funext i; unfold ins
  by_cases hi : i = n
  · subst hi; simp [h]
  · simp [hi]
theorem ins_upto (f : Nat → Bool) {n k : Nat} (h : k ≤ n) : upto (ins f n) k = upto f k := by
  unfold upto
  apply List.filter_congr
  intro x hx
  have := List.mem_range.1 hx
  unfold ins
  simp; omega
theorem ins_from (f : Nat → Bool) (n m : Nat) : from_ (ins f n) (n + 1) m = from_ f (n + 1) m := by
  unfold from_
  apply List.filter_congr
  intro x hx
  have := List.mem_range'_1.1 hx
  unfold ins
  simp; omega
theorem ins_new {f : Nat → Bool} {n N : Nat} (hn : n < N) (h : f n = false) : upto (ins f n) N = upto f n ++ ([n] ++ from_ f (n + 1) (N - (n + 1))) := by
  rw [upto_split _ hn, ins_upto f (Nat.le_refl _), ins_from]
  simp [ins]
/-- Which variables occur. -/
def vset (t : List Int) (i : Nat) : Bool := t.contains (-1 - (i : Int))
theorem vset_snoc (t : List Int) (x : Int) (i : Nat) : vset (t ++ [x]) i = (vset t i || decide (x = -1 - (i : Int))) := by
  unfold vset
  rw [Bool.eq_iff_iff]
  simp only [List.contains_iff_mem, List.mem_append, List.mem_singleton, Bool.or_eq_true, decide_eq_true_eq]
  constructor
  · rintro (h | h)
    · exact Or.inl h
    · exact Or.inr h.symm
  · rintro (h | h)
    · exact Or.inl h
    · exact Or.inr h.symm
theorem vset_sym {t : List Int} {x : Int} (h : 0 ≤ x) : vset (t ++ [x]) = vset t := by
  funext i
  rw [vset_snoc, show decide (x = -1 - (i : Int)) = false from by simp; omega, Bool.or_false]
theorem vset_var {t : List Int} {n : Nat} : vset (t ++ [-1 - (n : Int)]) = ins (vset t) n := by
  funext i
  rw [vset_snoc]
  unfold ins
  congr 1
  rw [Bool.eq_iff_iff]; simp; omega
/-- How many numbers at the head are below v. -/
def low (v : Int) : List Int → Nat
  | [] => 0
  | x :: r => if x < v then low v r + 1 else 0
theorem low_le (v : Int) : ∀ xs, low v xs ≤ xs.length
  | [] => Nat.le_refl _
  | x :: r => by have := low_le v r; unfold low; split <;> simp <;> omega
theorem low_lt {v : Int} : ∀ {xs : List Int} {k : Nat}, k < low v xs → k < xs.length ∧ xs.getD k 0 < v
  | [], k, h => by simp [low] at h
  | x :: r, k, h => by
    unfold low at h
    split at h
    · rename_i hx
      cases k with
      | zero => exact ⟨by simp, by simpa using hx⟩
      | succ k =>
        have := low_lt (v := v) (xs := r) (k := k) (by omega)
        exact ⟨by simp; omega, by simpa using this.2⟩
    · omega
theorem low_stop {v : Int} : ∀ {xs : List Int}, low v xs < xs.length → ¬ xs.getD (low v xs) 0 < v
  | [], h => by simp [low] at h
  | x :: r, h => by
    unfold low at h ⊢
    split at h
    · rename_i hx
      rw [if_pos hx]
      have := low_stop (v := v) (xs := r) (by simpa using h)
      simpa using this
    · rename_i hx
      rw [if_neg hx]
      simpa using hx
def into (xs : List Int) (v : Int) : List Int := if low v xs < xs.length ∧ xs.getD (low v xs) 0 = v then xs else xs.take (low v xs) ++ [v] ++ xs.drop (low v xs)
theorem into_same {xs : List Int} {v : Int} (h : low v xs < xs.length ∧ xs.getD (low v xs) 0 = v) : into xs v = xs := if_pos h
theorem into_new {xs : List Int} {v : Int} (h : ¬ (low v xs < xs.length ∧ xs.getD (low v xs) 0 = v)) : into xs v = xs.take (low v xs) ++ [v] ++ xs.drop (low v xs) := if_neg h
theorem low_app {v : Int} : ∀ {xs ys : List Int}, (∀ x ∈ xs, x < v) → (∀ y ∈ ys, ¬ y < v) → low v (xs ++ ys) = xs.length
  | [], [], _, _ => rfl
  | [], y :: ys, _, h => by simp only [List.nil_append, low]; rw [if_neg (h y (by simp))]; rfl
  | x :: xs, ys, h, h2 => by
    simp only [List.cons_append, low]
    rw [if_pos (h x (by simp)), low_app (fun y hy => h y (by simp [hy])) h2]; rfl
theorem into_upto (f : Nat → Bool) {n N : Nat} (hn : n < N) : into (nats (upto f N)) (n : Int) = nats (upto (ins f n) N) := by
  have hlo : ∀ x ∈ nats (upto f n), x < (n : Int) := by
    intro x hx
    simp only [nats, List.mem_map, upto, List.mem_filter, List.mem_range] at hx
    obtain ⟨y, ⟨hy, _⟩, rfl⟩ := hx
    omega
  have hhi : ∀ x ∈ nats (from_ f (n + 1) (N - (n + 1))), (n : Int) < x := by
    intro x hx
    simp only [nats, List.mem_map, from_, List.mem_filter, List.mem_range'_1] at hx
    obtain ⟨y, ⟨hy, _⟩, rfl⟩ := hx
    omega
  cases hf : f n
  · rw [ins_new hn hf, upto_split f hn, hf]
    have e1 : nats (upto f n ++ ((if false = true then [n] else []) ++ from_ f (n + 1) (N - (n + 1)))) = nats (upto f n) ++ nats (from_ f (n + 1) (N - (n + 1))) := by simp [nats]
    rw [e1]
    have hl := low_app (v := (n : Int)) hlo (fun y hy => by have := hhi y hy; omega)
    rw [into_new]
    · rw [hl, List.take_left, List.drop_left]; simp [nats]
    · rintro ⟨h1, h2⟩
      rw [hl] at h1 h2
      have hm : (nats (upto f n) ++ nats (from_ f (n + 1) (N - (n + 1)))).getD (nats (upto f n)).length 0 ∈ nats (from_ f (n + 1) (N - (n + 1))) := by
        rw [List.getD_eq_getElem?_getD, List.getElem?_append_right (Nat.le_refl _), Nat.sub_self]
        rw [List.length_append] at h1
        rw [List.getElem?_eq_getElem (by omega), Option.getD_some]
        exact List.getElem_mem _
      have := hhi _ hm
      omega
  · rw [ins_same hf]
    apply into_same
    rw [upto_split f hn, hf]
    have e1 : nats (upto f n ++ ((if true = true then [n] else []) ++ from_ f (n + 1) (N - (n + 1)))) = nats (upto f n) ++ ((n : Int) :: nats (from_ f (n + 1) (N - (n + 1)))) := by simp [nats]
    rw [e1]
    have hl := low_app (v := (n : Int)) hlo (ys := (n : Int) :: nats (from_ f (n + 1) (N - (n + 1)))) (fun y hy => by
      rcases List.mem_cons.1 hy with rfl | hy
      · omega
      · have := hhi y hy; omega)
    rw [hl]
    refine ⟨by simp, ?_⟩
    rw [List.getD_eq_getElem?_getD, List.getElem?_append_right (Nat.le_refl _), Nat.sub_self]
    rfl
theorem vset_zero (t : List Int) : nats (upto (vset (t.take 0)) 24) = [] := by rw [List.take_zero]; decide
theorem into_keep {w w1 : World} {B g n c : Nat} {A' : Option Addr} {c' : Nat} {xs ys : List Int} (hor : (A' = some ⟨g, 0, none⟩ ∧ c' = c ∧ ys = xs) ∨ OI w1 w.heap.size A' ys.length c' ys) (ho : OI w B (some ⟨g, 0, none⟩) n c xs) (hB : B ≤ w.heap.size) (hnc : n ≤ c) (hc2 : c ≤ 9223372036854775807) (hb : Below w.heap.size w w1) (hne : 0 < ys.length) :
    ∃ g', A' = some ⟨g', 0, none⟩ ∧ ys.length ≤ c' ∧ c' ≤ 9223372036854775807 ∧ OI w1 B A' ys.length c' ys := by
  rcases hor with ⟨rfl, rfl, rfl⟩ | hnew
  · have hl := ho.ri.1
    exact ⟨g, rfl, by omega, hc2, by rw [hl]; exact ho.below hb⟩
  · rcases hnew.2 with ⟨_, h0⟩ | ⟨g', cap, cur, hv, hBg, hg, h1, h2, h3⟩
    · omega
    · simp only [Value.slice.injEq] at hv
      obtain ⟨rfl, _, rfl⟩ := hv
      exact ⟨g', rfl, h1, by unfold maxLen at h2; omega, hnew.base hB⟩
theorem vtake_sym {t : List Int} {k : Nat} {x : Int} (hk : k < t.length) (hx : x = t.getD k 0) (h : ¬ x < 0) : vset (t.take (k + 1)) = vset (t.take k) := by
  rw [List.take_succ_eq_append_getElem hk]
  exact vset_sym (by rw [List.getD_eq_getElem?_getD, List.getElem?_eq_getElem hk, Option.getD_some] at hx; omega)
theorem vtake_var {t : List Int} {k : Nat} {x : Int} (hk : k < t.length) (hx : x = t.getD k 0) (h : x < 0) (hlo : -24 ≤ x) : into (nats (upto (vset (t.take k)) 24)) (-1 - x) = nats (upto (vset (t.take (k + 1))) 24) := by
  obtain ⟨v, hv⟩ : ∃ v : Nat, x = -1 - (v : Int) := ⟨(-1 - x).toNat, by omega⟩
  rw [show -1 - x = (v : Int) by omega, into_upto _ (by omega), ← vset_var, ← hv, List.take_succ_eq_append_getElem hk]
  rw [List.getD_eq_getElem?_getD, List.getElem?_eq_getElem hk, Option.getD_some] at hx
  rw [hx]
theorem vtake_pos {t : List Int} {k : Nat} {x : Int} (hk : k < t.length) (hx : x = t.getD k 0) (h : x < 0) (hlo : -24 ≤ x) : 0 < (nats (upto (vset (t.take (k + 1))) 24)).length := by
  rw [nats_length]
  refine List.length_pos_of_mem (a := (-1 - x).toNat) ?_
  unfold upto
  rw [List.mem_filter, List.mem_range]
  refine ⟨by omega, ?_⟩
  unfold vset
  rw [List.contains_iff_mem, show -1 - (((-1 - x).toNat : Nat) : Int) = x by omega, List.take_succ_eq_append_getElem hk, List.mem_append]
  rw [List.getD_eq_getElem?_getD, List.getElem?_eq_getElem hk, Option.getD_some] at hx
  right; simp [hx]
def V_VarsOf (xs t : List Int) : List Int := if Pl.termOk xs t then nats (upto (vset t) 24) else []
theorem varsOf_no {xs t : List Int} (h : Pl.termOk xs t = false) : V_VarsOf xs t = [] := by unfold V_VarsOf; rw [h]; rfl
theorem varsOf_yes {xs t : List Int} (h : Pl.termOk xs t = true) : V_VarsOf xs t = nats (upto (vset t) 24) := by unfold V_VarsOf; rw [h]; rfl
theorem bd_VarsOf (xs t : List Int) : (V_VarsOf xs t).length ≤ 60 := by
  unfold V_VarsOf
  split
  · have := upto_len (vset t) 24
    rw [nats_length]; omega
  · simp
def groundIn (xs t : List Int) : Bool := Pl.termOk xs t && ((upto (vset t) 24).length == 0)
theorem groundIn_no {xs t : List Int} (h : Pl.termOk xs t = false) : groundIn xs t = false := by unfold groundIn; rw [h]; rfl
theorem groundIn_yes {xs t : List Int} (h : Pl.termOk xs t = true) : groundIn xs t = ((upto (vset t) 24).length == 0) := by unfold groundIn; rw [h]; rfl
theorem len0 (n : Nat) : ((n : Int) == 0) = (n == 0) := by
  rw [Bool.eq_iff_iff]; simp
end Go.Proofs.Ytcjgcopkeeiicaa
