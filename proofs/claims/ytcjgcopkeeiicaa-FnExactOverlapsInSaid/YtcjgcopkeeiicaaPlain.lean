/- Plain facts about terms as lists of numbers; no program in sight. -/
namespace Go.Proofs.Ytcjgcopkeeiicaa.Pl

/-- A signature in order: one to eight symbols, each with none to three arguments. -/
def sigOk (ar : List Int) : Bool := decide (1 ≤ ar.length ∧ ar.length ≤ 8) && ar.all fun n => decide (0 ≤ n ∧ n ≤ 3)

/-- How many arguments a number has; -1 where it is neither a symbol nor a variable. -/
def ari (ar : List Int) (n : Int) : Int :=
  if n < 0 then (if n < -24 then -1 else 0) else if n < (ar.length : Int) then ar.getD n.toNat 0 else -1

/-- The same, but every number below 0 is a variable. -/
def nxt (ar : List Int) (n : Int) : Int :=
  if n < 0 then 0 else if n < (ar.length : Int) then ar.getD n.toNat 0 else -1

/-- How many numbers the first m terms of a list take. -/
def run (f : Int → Int) : Nat → List Int → Option Nat
  | 0, _ => some 0
  | _ + 1, [] => none
  | m + 1, x :: xs => if f x < 0 then none else (run f (m + (f x).toNat) xs).map (· + 1)

/-- The index behind what begins at a place; -1 where it has no end. -/
def endOf (f : Int → Int) (t : List Int) (p : Nat) : Int :=
  match run f 1 (t.drop p) with
  | none => -1
  | some k => (p : Int) + k

def termOk (ar t : List Int) : Bool :=
  sigOk ar && decide (1 ≤ t.length ∧ t.length ≤ 60) && decide (run (ari ar) 1 t = some t.length)

theorem run_zero (f : Int → Int) (l : List Int) : run f 0 l = some 0 := by cases l <;> rfl

theorem run_le {f : Int → Int} : ∀ {l : List Int} {m k : Nat}, run f m l = some k → k ≤ l.length ∧ m ≤ k
  | [], 0, k, h => by simp [run] at h; omega
  | [], m + 1, k, h => by simp [run] at h
  | x :: xs, 0, k, h => by simp [run] at h; omega
  | x :: xs, m + 1, k, h => by
    simp only [run] at h
    split at h
    · cases h
    · simp only [Option.map_eq_some_iff] at h
      obtain ⟨j, hj, rfl⟩ := h
      have := run_le hj
      simp only [List.length_cons]
      omega

theorem run_add {f : Int → Int} : ∀ (l : List Int) (a b : Nat), run f (a + b) l = (run f a l).bind fun k => (run f b (l.drop k)).map (k + ·)
  | [], 0, b => by simp [run_zero]
  | [], a + 1, b => by rw [show a + 1 + b = (a + b) + 1 from by omega]; simp [run]
  | x :: xs, 0, b => by simp [run_zero]
  | x :: xs, a + 1, b => by
    rw [show a + 1 + b = (a + b) + 1 from by omega]
    simp only [run]
    by_cases h : f x < 0
    · simp [h]
    · rw [if_neg h, if_neg h, show a + b + (f x).toNat = (a + (f x).toNat) + b from by omega, run_add xs]
      cases run f (a + (f x).toNat) xs with
      | none => rfl
      | some j =>
        simp only [Option.bind_some, Option.map_some, List.drop_succ_cons]
        cases run f b (xs.drop j) with
        | none => rfl
        | some i => simp only [Option.map_some]; congr 1; omega

/-- Each place of a list of whole terms begins a term that ends in the list. -/
theorem run_at {f : Int → Int} : ∀ {l : List Int} {m : Nat}, run f m l = some l.length → ∀ {p : Nat}, p < l.length → ∃ k, run f 1 (l.drop p) = some k ∧ p + k ≤ l.length ∧ 1 ≤ k
  | [], m, _, p, hp => by simp at hp
  | x :: xs, 0, h, p, hp => by simp [run] at h
  | x :: xs, m + 1, h, p, hp => by
    cases p with
    | zero =>
      rw [show m + 1 = 1 + m from by omega, run_add] at h
      cases h1 : run f 1 (x :: xs) with
      | none => rw [h1] at h; cases h
      | some k => have := run_le h1; exact ⟨k, by simpa using h1, by omega, by omega⟩
    | succ p =>
      simp only [run] at h
      split at h
      · cases h
      · simp only [Option.map_eq_some_iff, List.length_cons] at h
        obtain ⟨j, hj, hjl⟩ := h
        have hjx : j = xs.length := by omega
        subst hjx
        obtain ⟨k, h1, h2, h3⟩ := run_at hj (p := p) (by simpa using hp)
        exact ⟨k, by simpa using h1, by simp only [List.length_cons]; omega, h3⟩

/-- In a run that comes to its end no number is unknown. -/
theorem run_known {f : Int → Int} : ∀ {l : List Int} {m k : Nat}, run f m l = some k → ∀ {p : Nat}, p < k → 0 ≤ f (l.getD p 0)
  | [], 0, k, h, p, hp => by simp [run] at h; omega
  | [], m + 1, k, h, p, hp => by simp [run] at h
  | x :: xs, 0, k, h, p, hp => by simp [run] at h; omega
  | x :: xs, m + 1, k, h, p, hp => by
    simp only [run] at h
    split at h
    · cases h
    · simp only [Option.map_eq_some_iff] at h
      obtain ⟨j, hj, rfl⟩ := h
      cases p with
      | zero => simp; omega
      | succ p => simpa using run_known hj (p := p) (by omega)

theorem run_congr {f g : Int → Int} : ∀ {l : List Int} (m : Nat), (∀ x ∈ l, f x = g x) → run f m l = run g m l
  | l, 0, _ => by rw [run_zero, run_zero]
  | [], m + 1, _ => rfl
  | x :: xs, m + 1, h => by
    simp only [run]
    rw [h x (by simp), run_congr (l := xs) _ (fun y hy => h y (by simp [hy]))]

theorem nxt_ari {ar : List Int} {n : Int} (h : -24 ≤ n) : nxt ar n = ari ar n := by
  unfold nxt ari
  by_cases h0 : n < 0
  · rw [if_pos h0, if_pos h0, if_neg (by omega)]
  · rw [if_neg h0, if_neg h0]

theorem sigOk_iff {ar : List Int} : sigOk ar = true ↔ (1 ≤ ar.length ∧ ar.length ≤ 8) ∧ ∀ n ∈ ar, 0 ≤ n ∧ n ≤ 3 := by
  simp [sigOk]

theorem getD_mem {l : List Int} {i : Nat} (h : i < l.length) : l.getD i 0 ∈ l := by
  rw [List.getD_eq_getElem?_getD, List.getElem?_eq_getElem h, Option.getD_some]
  exact List.getElem_mem h

theorem ari_bd {ar : List Int} (h : sigOk ar = true) (n : Int) : -1 ≤ ari ar n ∧ ari ar n ≤ 3 := by
  have hs := (sigOk_iff.1 h).2
  unfold ari
  split
  · split <;> omega
  · split
    · have := hs _ (getD_mem (l := ar) (i := n.toNat) (by omega)); omega
    · omega

theorem nxt_bd {ar : List Int} (h : sigOk ar = true) (n : Int) : -1 ≤ nxt ar n ∧ nxt ar n ≤ 3 := by
  have hs := (sigOk_iff.1 h).2
  unfold nxt
  split
  · omega
  · split
    · have := hs _ (getD_mem (l := ar) (i := n.toNat) (by omega)); omega
    · omega

theorem termOk_iff {ar t : List Int} : termOk ar t = true ↔ sigOk ar = true ∧ (1 ≤ t.length ∧ t.length ≤ 60) ∧ run (ari ar) 1 t = some t.length := by
  simp [termOk, and_assoc]

/-- The numbers of a right term are symbols or variables. -/
theorem termOk_ge {ar t : List Int} (h : termOk ar t = true) : ∀ x ∈ t, -24 ≤ x ∧ x < ar.length := by
  obtain ⟨_, _, hr⟩ := termOk_iff.1 h
  intro x hx
  obtain ⟨i, hi, rfl⟩ := List.getElem_of_mem hx
  have := run_known hr hi
  rw [List.getD_eq_getElem?_getD, List.getElem?_eq_getElem hi, Option.getD_some] at this
  unfold ari at this
  split at this
  · split at this
    · omega
    · have := (sigOk_iff.1 (termOk_iff.1 h).1).1; omega
  · split at this
    · omega
    · omega

theorem termOk_bd {ar t : List Int} (h : termOk ar t = true) : ∀ x ∈ t, -24 ≤ x ∧ x ≤ 7 := by
  intro x hx
  have h1 := termOk_ge h x hx
  have h2 := (sigOk_iff.1 (termOk_iff.1 h).1).1
  omega

theorem endOf_bd {f : Int → Int} {t : List Int} (p : Nat) : -1 ≤ endOf f t p ∧ endOf f t p ≤ (p : Int) + t.length := by
  unfold endOf
  split
  · omega
  · rename_i k hk
    have := run_le hk
    simp only [List.length_drop] at this
    omega

theorem endOf_le {f : Int → Int} {t : List Int} (p : Nat) (hp : p ≤ t.length) : endOf f t p ≤ t.length := by
  unfold endOf
  split
  · omega
  · rename_i k hk
    have := run_le hk
    simp only [List.length_drop] at this
    omega

theorem endOf_in {f : Int → Int} {t : List Int} (h : run f 1 t = some t.length) {p : Nat} (hp : p < t.length) :
    (p : Int) + 1 ≤ endOf f t p ∧ endOf f t p ≤ t.length := by
  obtain ⟨k, h1, h2, h3⟩ := run_at h hp
  unfold endOf
  rw [h1]
  simp only
  omega

/-- The program's own way to ask whether a list is a term. -/
theorem termOk_min {ar t : List Int} (hs : sigOk ar = true) (hl : 1 ≤ t.length ∧ t.length ≤ 60) :
    termOk ar t = ((t.all fun x => decide (-24 ≤ x)) && decide (endOf (nxt ar) t 0 = t.length)) := by
  rw [Bool.eq_iff_iff]
  constructor
  · intro h
    have hge := termOk_ge h
    obtain ⟨_, _, hr⟩ := termOk_iff.1 h
    simp only [Bool.and_eq_true, List.all_eq_true, decide_eq_true_eq]
    refine ⟨fun x hx => (hge x hx).1, ?_⟩
    unfold endOf
    rw [List.drop_zero, run_congr (g := ari ar) _ (fun x hx => nxt_ari (hge x hx).1), hr]
    simp
  · intro h
    simp only [Bool.and_eq_true, List.all_eq_true, decide_eq_true_eq] at h
    obtain ⟨h1, h2⟩ := h
    refine termOk_iff.2 ⟨hs, hl, ?_⟩
    unfold endOf at h2
    rw [List.drop_zero, run_congr (g := ari ar) _ (fun x hx => nxt_ari (h1 x hx))] at h2
    split at h2
    · omega
    · rename_i k hk
      rw [hk]
      congr 1
      omega

theorem termOk_spec {ar t : List Int} : termOk ar t = (sigOk ar && decide (1 ≤ t.length ∧ t.length ≤ 60) && decide (endOf (ari ar) t 0 = t.length)) := by
  unfold termOk
  congr 1
  unfold endOf
  rw [List.drop_zero]
  cases h : run (ari ar) 1 t with
  | none => simp
  | some k => simp; omega

/-- The least of a list that is not empty. -/
def lo : List Int → Int
  | [] => 0
  | x :: xs => xs.foldl (fun m y => if y < m then y else m) x

theorem lo_one (t : List Int) (h : 1 ≤ t.length) : lo (t.take 1) = t.getD 0 0 := by
  cases t with
  | nil => simp at h
  | cons x xs => simp [lo]

theorem lo_step (t : List Int) (k : Nat) (hk : 1 ≤ k) (h : k < t.length) : lo (t.take (k + 1)) = if t.getD k 0 < lo (t.take k) then t.getD k 0 else lo (t.take k) := by
  cases t with
  | nil => simp at h
  | cons x xs =>
    cases k with
    | zero => omega
    | succ k =>
      simp only [List.length_cons] at h
      rw [List.take_succ_cons, List.take_succ_cons]
      simp only [lo]
      rw [List.take_succ_eq_append_getElem (show k < xs.length by omega), List.foldl_append]
      simp [List.getD_eq_getElem?_getD, List.getElem?_eq_getElem (show k < xs.length by omega)]

theorem foldl_lo (c : Int) : ∀ (xs : List Int) (x : Int), (c ≤ xs.foldl (fun m y => if y < m then y else m) x ↔ c ≤ x ∧ ∀ y ∈ xs, c ≤ y)
  | [], x => by simp
  | y :: ys, x => by
    simp only [List.foldl_cons]
    rw [foldl_lo c ys]
    simp only [List.mem_cons, forall_eq_or_imp]
    split
    · constructor
      · rintro ⟨h1, h2⟩; exact ⟨by omega, h1, h2⟩
      · rintro ⟨h1, h2, h3⟩; exact ⟨h2, h3⟩
    · constructor
      · rintro ⟨h1, h2⟩; exact ⟨h1, by omega, h2⟩
      · rintro ⟨h1, h2, h3⟩; exact ⟨h1, h3⟩

theorem le_lo {t : List Int} (h : 1 ≤ t.length) (c : Int) : c ≤ lo t ↔ ∀ x ∈ t, c ≤ x := by
  cases t with
  | nil => simp at h
  | cons x xs => simp only [lo]; rw [foldl_lo]; simp

end Go.Proofs.Ytcjgcopkeeiicaa.Pl
