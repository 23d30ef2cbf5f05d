/- The variables of a term in the order in which they stand first: the plain law. -/
import Derived.Test.YtcjgcopkeeiicaaCmp
namespace Go.Proofs.Ytcjgcopkeeiicaa
set_option linter.unusedVariables false

/-- One number more, if it is a variable that is not there yet. -/
def add1 (s : List Int) (x : Int) : List Int := if x < 0 ∧ x ∉ s then s ++ [x] else s
theorem add1_no {s : List Int} {x : Int} (h : ¬ x < 0 ∨ x ∈ s) : add1 s x = s := by
  unfold add1; rw [if_neg]; rintro ⟨h1, h2⟩; rcases h with h | h
  · exact h h1
  · exact h2 h
theorem add1_yes {s : List Int} {x : Int} (h : x < 0) (h2 : x ∉ s) : add1 s x = s ++ [x] := if_pos ⟨h, h2⟩
theorem add1_pre (s : List Int) (x : Int) : ∃ r, add1 s x = s ++ r := by
  unfold add1; split
  · exact ⟨_, rfl⟩
  · exact ⟨[], by simp⟩
theorem add1_has {s : List Int} {x : Int} (h : x < 0) : x ∈ add1 s x := by
  by_cases h2 : x ∈ s
  · rw [add1_no (.inr h2)]; exact h2
  · rw [add1_yes h h2]; simp
theorem add1_nodup {s : List Int} (h : s.Nodup) (x : Int) : (add1 s x).Nodup := by
  by_cases h2 : x < 0 ∧ x ∉ s
  · rw [add1_yes h2.1 h2.2, List.nodup_append]
    refine ⟨h, by simp, ?_⟩
    intro a ha b hb e
    rw [List.mem_singleton] at hb
    subst e hb
    exact h2.2 ha
  · unfold add1; rw [if_neg h2]; exact h
theorem add1_len (s : List Int) (x : Int) : (add1 s x).length ≤ s.length + 1 := by unfold add1; split <;> simp
theorem add1_neg {s : List Int} (h : ∀ y ∈ s, y < 0) (x : Int) : ∀ y ∈ add1 s x, y < 0 := by
  unfold add1; split
  · rename_i hx
    intro y hy
    rw [List.mem_append, List.mem_singleton] at hy
    rcases hy with hy | rfl
    · exact h y hy
    · exact hx.1
  · exact h
def ord (s t : List Int) : List Int := t.foldl add1 s
theorem ord_nil (s : List Int) : ord s [] = s := rfl
theorem ord_app (s t u : List Int) : ord s (t ++ u) = ord (ord s t) u := by unfold ord; rw [List.foldl_append]
theorem ord_step (s : List Int) {t : List Int} {k : Nat} {x : Int} (hk : k < t.length) (hx : x = t.getD k 0) : ord s (t.take (k + 1)) = add1 (ord s (t.take k)) x := by
  rw [List.take_succ_eq_append_getElem hk, ord_app]
  rw [List.getD_eq_getElem?_getD, List.getElem?_eq_getElem hk, Option.getD_some] at hx
  rw [hx]; rfl
theorem ord_pre : ∀ (t s : List Int), ∃ r, ord s t = s ++ r
  | [], s => ⟨[], by simp [ord_nil]⟩
  | x :: t, s => by
    obtain ⟨r1, h1⟩ := add1_pre s x
    obtain ⟨r2, h2⟩ := ord_pre t (add1 s x)
    exact ⟨r1 ++ r2, by show ord (add1 s x) t = _; rw [h2, h1, List.append_assoc]⟩
theorem ord_mono {t s : List Int} {y : Int} (h : y ∈ s) : y ∈ ord s t := by
  obtain ⟨r, hr⟩ := ord_pre t s
  rw [hr]; simp [h]
theorem ord_has : ∀ {t : List Int} (s : List Int) {x : Int}, x ∈ t → x < 0 → x ∈ ord s t
  | y :: t, s, x, h, h0 => by
    rcases List.mem_cons.1 h with rfl | h
    · exact (show x ∈ ord (add1 s x) t from ord_mono (add1_has h0))
    · exact ord_has (add1 s y) h h0
theorem ord_nodup : ∀ {t s : List Int}, s.Nodup → (ord s t).Nodup
  | [], _, h => h
  | x :: t, _, h => ord_nodup (t := t) (add1_nodup h x)
theorem ord_len : ∀ (t s : List Int), (ord s t).length ≤ s.length + t.length
  | [], s => by simp [ord_nil]
  | x :: t, s => by
    have h1 := ord_len t (add1 s x)
    have h2 := add1_len s x
    show (ord (add1 s x) t).length ≤ _
    simp; omega
theorem ord_neg : ∀ {t s : List Int}, (∀ y ∈ s, y < 0) → ∀ y ∈ ord s t, y < 0
  | [], _, h => h
  | x :: t, _, h => ord_neg (t := t) (add1_neg h x)
theorem ord_same : ∀ {t s : List Int}, (∀ x ∈ t, x < 0 → x ∈ s) → ord s t = s
  | [], _, _ => rfl
  | x :: t, s, h => by
    show ord (add1 s x) t = s
    have e : add1 s x = s := add1_no (by
      by_cases h0 : x < 0
      · exact .inr (h x (by simp) h0)
      · exact .inl h0)
    rw [e]
    exact ord_same fun y hy => h y (by simp [hy])
theorem idx_app {s r : List Int} {y : Int} (h : y ∈ s) : idx (s ++ r) y = idx s y := by
  unfold idx
  rw [if_pos (by simp [h]), if_pos (by simpa using h), List.idxOf_append, if_pos h]
theorem idx_end {s : List Int} {y : Int} (h : y ∉ s) : idx (s ++ [y]) y = s.length := by
  unfold idx
  rw [if_pos (by simp), List.idxOf_append, if_neg h]
  simp
theorem idx_nat {s : List Int} {y : Int} (h : y ∈ s) : ∃ k : Nat, idx s y = k ∧ k < s.length := by
  unfold idx
  rw [if_pos (by simpa using h)]
  exact ⟨_, rfl, List.idxOf_lt_length_iff.2 h⟩
/-- The number of a variable by its place in an order. -/
def rn (s : List Int) (x : Int) : Int := if x < 0 then -1 - idx s x else x
theorem rn_sym {s : List Int} {x : Int} (h : ¬ x < 0) : rn s x = x := if_neg h
theorem rn_var {s : List Int} {x : Int} (h : x < 0) : rn s x = -1 - idx s x := if_pos h
theorem rn_app {s r : List Int} {x : Int} (h : x < 0 → x ∈ s) : rn (s ++ r) x = rn s x := by
  by_cases h0 : x < 0
  · rw [rn_var h0, rn_var h0, idx_app (h h0)]
  · rw [rn_sym h0, rn_sym h0]
theorem rn_add {s : List Int} {x y : Int} (h : x < 0 → x ∈ s) : rn (add1 s y) x = rn s x := by
  obtain ⟨r, hr⟩ := add1_pre s y
  rw [hr, rn_app h]
theorem rn_ord {s t : List Int} {x : Int} (h : x < 0 → x ∈ s) : rn (ord s t) x = rn s x := by
  obtain ⟨r, hr⟩ := ord_pre t s
  rw [hr, rn_app h]
/-- A copy in which the first k numbers are renumbered, by the order that they make. -/
def rnMid (s t : List Int) (k : Nat) : List Int := (t.take k).map (rn (ord s (t.take k))) ++ t.drop k
theorem rnMid_zero (s t : List Int) : rnMid s t 0 = t := by simp [rnMid]
theorem rnMid_end (s t : List Int) {m : Nat} (h : t.length = m) : rnMid s t m = t.map (rn (ord s t)) := by
  unfold rnMid
  rw [List.take_of_length_le (by omega), List.drop_of_length_le (by omega), List.append_nil]
theorem rnMid_len (s t : List Int) {k : Nat} (h : k ≤ t.length) : (rnMid s t k).length = t.length := by simp [rnMid]; omega
theorem rnMid_at (s t : List Int) {k : Nat} (h : k < t.length) : (rnMid s t k).getD k 0 = t.getD k 0 := by
  unfold rnMid
  simp only [List.getD_eq_getElem?_getD]
  rw [List.getElem?_append_right (by simp; omega)]
  simp
  congr 2
  omega
theorem rnMid_head (s t : List Int) {k : Nat} {x : Int} (h : k < t.length) (hx : x = t.getD k 0) : (t.take k).map (rn (ord s (t.take (k + 1)))) = (t.take k).map (rn (ord s (t.take k))) := by
  rw [ord_step s h hx]
  apply List.map_congr_left
  intro y hy
  exact rn_add fun h0 => ord_has s hy h0
theorem rnMid_step (s t : List Int) {k : Nat} {x : Int} (h : k < t.length) (hx : x = t.getD k 0) : (rnMid s t k).set k (rn (ord s (t.take (k + 1))) x) = rnMid s t (k + 1) := by
  have hh := rnMid_head s t h hx
  unfold rnMid
  have hl : ((t.take k).map (rn (ord s (t.take k)))).length = k := by simp; omega
  rw [List.set_append_right _ _ (by omega), hl, Nat.sub_self, List.drop_eq_getElem_cons h, List.set_cons_zero, List.take_succ_eq_append_getElem h, List.map_append]
  rw [List.take_succ_eq_append_getElem h] at hh
  rw [hh, List.append_assoc]
  rw [List.getD_eq_getElem?_getD, List.getElem?_eq_getElem h, Option.getD_some] at hx
  rw [hx]
  rfl
theorem rnMid_sym (s t : List Int) {k : Nat} {x : Int} (h : k < t.length) (hx : x = t.getD k 0) (h0 : ¬ x < 0) : rnMid s t (k + 1) = rnMid s t k := by
  have h1 := rnMid_step s t h hx
  rw [rn_sym h0, hx, ← rnMid_at s t h] at h1
  rw [← h1]
  have hl := rnMid_len s t (k := k) (by omega)
  simp only [List.getD_eq_getElem?_getD]
  rw [List.getElem?_eq_getElem (by omega)]
  simp
/-- The last of the first k places of an order at which a number stands gives its number. -/
def rnTo (s : List Int) (k : Nat) (x : Int) : Int := if x ∈ s.take k then -1 - idx s x else x
theorem rnTo_zero (s : List Int) (x : Int) : rnTo s 0 x = x := by simp [rnTo]
theorem rnTo_hit {s : List Int} {k : Nat} {x : Int} (hn : s.Nodup) (hk : k < s.length) (hx : x = s.getD k 0) : rnTo s (k + 1) x = -1 - (k : Int) := by
  have hx2 := hx
  rw [List.getD_eq_getElem?_getD, List.getElem?_eq_getElem hk, Option.getD_some] at hx2
  have hno : x ∉ s.take k := by
    intro hm
    have h2 := hn
    rw [← List.take_append_drop k s, List.drop_eq_getElem_cons hk, List.nodup_append] at h2
    exact h2.2.2 x hm s[k] List.mem_cons_self hx2
  unfold rnTo
  rw [if_pos (by rw [hx2, List.take_succ_eq_append_getElem hk]; exact List.mem_append_right _ (List.mem_singleton.2 rfl)), idx_at hno hk hx]
theorem rnTo_miss {s : List Int} {k : Nat} {x : Int} (hk : k < s.length) (hx : ¬ s.getD k 0 = x) : rnTo s (k + 1) x = rnTo s k x := by
  rw [List.getD_eq_getElem?_getD, List.getElem?_eq_getElem hk, Option.getD_some] at hx
  unfold rnTo
  rw [List.take_succ_eq_append_getElem hk]
  have : (x ∈ s.take k ++ [s[k]]) ↔ x ∈ s.take k := by
    rw [List.mem_append, List.mem_singleton]
    exact ⟨fun h => h.elim id (fun e => absurd e.symm hx), .inl⟩
  simp only [this]
theorem rnTo_end {s : List Int} {x : Int} {n : Nat} (hl : s.length = n) (h0 : x < 0) (h : x ∈ s) : rnTo s n x = rn s x := by
  unfold rnTo
  rw [List.take_of_length_le (by omega), if_pos h, rn_var h0]
theorem ord_map (t : List Int) : ∀ x ∈ t, x < 0 → x ∈ ord [] t := fun x hx h0 => ord_has [] hx h0
theorem rn_bd {s : List Int} {x : Int} (h : x < 0 → x ∈ s) (hx : x ≤ 7) : -(s.length : Int) ≤ rn s x ∧ rn s x ≤ 7 := by
  by_cases h0 : x < 0
  · obtain ⟨k, hk, hl⟩ := idx_nat (h h0)
    rw [rn_var h0, hk]; omega
  · rw [rn_sym h0]; omega
end Go.Proofs.Ytcjgcopkeeiicaa
