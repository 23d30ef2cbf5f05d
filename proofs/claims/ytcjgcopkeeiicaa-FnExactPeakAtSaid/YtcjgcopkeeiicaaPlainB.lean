/- Plain facts about terms as lists of numbers; no program in sight. -/
namespace Go.Proofs.Ytcjgcopkeeiicaa.Pl

/-- A signature in order: one to eight symbols, each with none to three arguments. -/
def sigOk (ar : List Int) : Bool := decide (1 ≤ ar.length ∧ ar.length ≤ 8) && ar.all fun n => decide (0 ≤ n ∧ n ≤ 3)

/-- How many arguments a number has; -1 where it is neither a symbol nor a variable. -/
def ari (ar : List Int) (n : Int) : Int :=
  if n < 0 then (if n < -24 then -1 else 0) else if n < (ar.length : Int) then ar.getD n.toNat 0 else -1

/-- The same, but every number below 0 is a variable. -/
def nxt (ar : List Int) (n : Int) : Int :=
  if n < 0 then 0 else if n < (ar.length : Int) then ar.getD n.toNat 0 else -1

/-- How many numbers the first m terms of a list take. -/
def run (f : Int → Int) : Nat → List Int → Option Nat
  | 0, _ => some 0
  | _ + 1, [] => none
  | m + 1, x :: xs => if f x < 0 then none else (run f (m + (f x).toNat) xs).map (· + 1)

/-- The index behind what begins at a place; -1 where it has no end. -/
def endOf (f : Int → Int) (t : List Int) (p : Nat) : Int :=
  match run f 1 (t.drop p) with
  | none => -1
  | some k => (p : Int) + k

def termOk (ar t : List Int) : Bool :=
  sigOk ar && decide (1 ≤ t.length ∧ t.length ≤ 60) && decide (run (ari ar) 1 t = some t.length)

theorem run_zero (f : Int → Int) (l : List Int) : run f 0 l = some 0 := by cases l <;> rfl

theorem run_le {f : Int → Int} : ∀ {l : List Int} {m k : Nat}, run f m l = some k → k ≤ l.length ∧ m ≤ k
  | [], 0, k, h => by simp [run] at h; omega
  | [], m + 1, k, h => by simp [run] at h
  | x :: xs, 0, k, h => by simp [run] at h; omega
  | x :: xs, m + 1, k, h => by
    simp only [run] at h
    split at h
    · cases h
    · simp only [Option.map_eq_some_iff] at h
      obtain ⟨j, hj, rfl⟩ := h
      have := run_le hj
      simp only [List.length_cons]
      omega

theorem run_add {f : Int → Int} : ∀ (l : List Int) (a b : Nat), run f (a + b) l = (run f a l).bind fun k => (run f b (l.drop k)).map (k + ·)
  | [], 0, b => by simp [run_zero]
  | [], a + 1, b => by rw [show a + 1 + b = (a + b) + 1 from by omega]; simp [run]
  | x :: xs, 0, b => by simp [run_zero]
  | x :: xs, a + 1, b => by
    rw [show a + 1 + b = (a + b) + 1 from by omega]
    simp only [run]
    by_cases h : f x < 0
    · simp [h]
    · rw [if_neg h, if_neg h, show a + b + (f x).toNat = (a + (f x).toNat) + b from by omega, run_add xs]
      cases run f (a + (f x).toNat) xs with
      | none => rfl
      | some j =>
        simp only [Option.bind_some, Option.map_some, List.drop_succ_cons]
        cases run f b (xs.drop j) with
        | none => rfl
        | some i => simp only [Option.map_some]; congr 1; omega

/-- Each place of a list of whole terms begins a term that ends in the list. -/
theorem run_at {f : Int → Int} : ∀ {l : List Int} {m : Nat}, run f m l = some l.length → ∀ {p : Nat}, p < l.length → ∃ k, run f 1 (l.drop p) = some k ∧ p + k ≤ l.length ∧ 1 ≤ k
  | [], m, _, p, hp => by simp at hp
  | x :: xs, 0, h, p, hp => by simp [run] at h
  | x :: xs, m + 1, h, p, hp => by
    cases p with
    | zero =>
      rw [show m + 1 = 1 + m from by omega, run_add] at h
      cases h1 : run f 1 (x :: xs) with
      | none => rw [h1] at h; cases h
      | some k => have := run_le h1; exact ⟨k, by simpa using h1, by omega, by omega⟩
    | succ p =>
      simp only [run] at h
      split at h
      · cases h
      · simp only [Option.map_eq_some_iff, List.length_cons] at h
        obtain ⟨j, hj, hjl⟩ := h
        have hjx : j = xs.length := by omega
        subst hjx
        obtain ⟨k, h1, h2, h3⟩ := run_at hj (p := p) (by simpa using hp)
        exact ⟨k, by simpa using h1, by simp only [List.length_cons]; omega, h3⟩

/-- In a run that comes to its end no number is unknown. -/
theorem run_known {f : Int → Int} : ∀ {l : List Int} {m k : Nat}, run f m l = some k → ∀ {p : Nat}, p < k → 0 ≤ f (l.getD p 0)
  | [], 0, k, h, p, hp => by simp [run] at h; omega
  | [], m + 1, k, h, p, hp => by simp [run] at h
  | x :: xs, 0, k, h, p, hp => by simp [run] at h; omega
  | x :: xs, m + 1, k, h, p, hp => by
    simp only [run] at h
    split at h
    · cases h
    · simp only [Option.map_eq_some_iff] at h
      obtain ⟨j, hj, rfl⟩ := h
      cases p with
      | zero => simp; omega
      | succ p => simpa using run_known hj (p := p) (by omega)

theorem run_congr {f g : Int → Int} : ∀ {l : List Int} (m : Nat), (∀ x ∈ l, f x = g x) → run f m l = run g m l
  | l, 0, _ => by rw [run_zero, run_zero]
  | [], m + 1, _ => rfl
  | x :: xs, m + 1, h => by
    simp only [run]
    rw [h x (by simp), run_congr (l := xs) _ (fun y hy => h y (by simp [hy]))]

theorem nxt_ari {ar : List Int} {n : Int} (h : -24 ≤ n) : nxt ar n = ari ar n := by
  unfold nxt ari
  by_cases h0 : n < 0
  · rw [if_pos h0, if_pos h0, if_neg (by omega)]
  · rw [if_neg h0, if_neg h0]

theorem sigOk_iff {ar : List Int} : sigOk ar = true ↔ (1 ≤ ar.length ∧ ar.length ≤ 8) ∧ ∀ n ∈ ar, 0 ≤ n ∧ n ≤ 3 := by
  simp [sigOk]

theorem getD_mem {l : List Int} {i : Nat} (h : i < l.length) : l.getD i 0 ∈ l := by
  rw [List.getD_eq_getElem?_getD, List.getElem?_eq_getElem h, Option.getD_some]
  exact List.getElem_mem h

theorem ari_bd {ar : List Int} (h : sigOk ar = true) (n : Int) : -1 ≤ ari ar n ∧ ari ar n ≤ 3 := by
  have hs := (sigOk_iff.1 h).2
  unfold ari
  split
  · split <;> omega
  · split
    · have := hs _ (getD_mem (l := ar) (i := n.toNat) (by omega)); omega
    · omega

theorem nxt_bd {ar : List Int} (h : sigOk ar = true) (n : Int) : -1 ≤ nxt ar n ∧ nxt ar n ≤ 3 := by
  have hs := (sigOk_iff.1 h).2
  unfold nxt
  split
  · omega
  · split
    · have := hs _ (getD_mem (l := ar) (i := n.toNat) (by omega)); omega
    · omega

theorem termOk_iff {ar t : List Int} : termOk ar t = true ↔ sigOk ar = true ∧ (1 ≤ t.length ∧ t.length ≤ 60) ∧ run (ari ar) 1 t = some t.length := by
  simp [termOk, and_assoc]

/-- The numbers of a right term are symbols or variables. -/
theorem termOk_ge {ar t : List Int} (h : termOk ar t = true) : ∀ x ∈ t, -24 ≤ x ∧ x < ar.length := by
  obtain ⟨_, _, hr⟩ := termOk_iff.1 h
  intro x hx
  obtain ⟨i, hi, rfl⟩ := List.getElem_of_mem hx
  have := run_known hr hi
  rw [List.getD_eq_getElem?_getD, List.getElem?_eq_getElem hi, Option.getD_some] at this
  unfold ari at this
  split at this
  · split at this
    · omega
    · have := (sigOk_iff.1 (termOk_iff.1 h).1).1; omega
  · split at this
    · omega
    · omega

theorem termOk_bd {ar t : List Int} (h : termOk ar t = true) : ∀ x ∈ t, -24 ≤ x ∧ x ≤ 7 := by
  intro x hx
  have h1 := termOk_ge h x hx
  have h2 := (sigOk_iff.1 (termOk_iff.1 h).1).1
  omega

theorem endOf_bd {f : Int → Int} {t : List Int} (p : Nat) : -1 ≤ endOf f t p ∧ endOf f t p ≤ (p : Int) + t.length := by
  unfold endOf
  split
  · omega
  · rename_i k hk
    have := run_le hk
    simp only [List.length_drop] at this
    omega

theorem endOf_le {f : Int → Int} {t : List Int} (p : Nat) (hp : p ≤ t.length) : endOf f t p ≤ t.length := by
  unfold endOf
  split
  · omega
  · rename_i k hk
    have := run_le hk
    simp only [List.length_drop] at this
    omega

theorem endOf_in {f : Int → Int} {t : List Int} (h : run f 1 t = some t.length) {p : Nat} (hp : p < t.length) :
    (p : Int) + 1 ≤ endOf f t p ∧ endOf f t p ≤ t.length := by
  obtain ⟨k, h1, h2, h3⟩ := run_at h hp
  unfold endOf
  rw [h1]
  simp only
  omega

/-- The program's own way to ask whether a list is a term. -/
theorem termOk_min {ar t : List Int} (hs : sigOk ar = true) (hl : 1 ≤ t.length ∧ t.length ≤ 60) :
    termOk ar t = ((t.all fun x => decide (-24 ≤ x)) && decide (endOf (nxt ar) t 0 = t.length)) := by
  rw [Bool.eq_iff_iff]
  constructor
  · intro h
    have hge := termOk_ge h
    obtain ⟨_, _, hr⟩ := termOk_iff.1 h
    simp only [Bool.and_eq_true, List.all_eq_true, decide_eq_true_eq]
    refine ⟨fun x hx => (hge x hx).1, ?_⟩
    unfold endOf
    rw [List.drop_zero, run_congr (g := ari ar) _ (fun x hx => nxt_ari (hge x hx).1), hr]
    simp
  · intro h
    simp only [Bool.and_eq_true, List.all_eq_true, decide_eq_true_eq] at h
    obtain ⟨h1, h2⟩ := h
    refine termOk_iff.2 ⟨hs, hl, ?_⟩
    unfold endOf at h2
    rw [List.drop_zero, run_congr (g := ari ar) _ (fun x hx => nxt_ari (h1 x hx))] at h2
    split at h2
    · omega
    · rename_i k hk
      rw [hk]
      congr 1
      omega

theorem termOk_spec {ar t : List Int} : termOk ar t = (sigOk ar && decide (1 ≤ t.length ∧ t.length ≤ 60) && decide (endOf (ari ar) t 0 = t.length)) := by
  unfold termOk
  congr 1
  unfold endOf
  rw [List.drop_zero]
  cases h : run (ari ar) 1 t with
  | none => simp
  | some k => simp; omega

/-- The least of a list that is not empty. -/
def lo : List Int → Int
  | [] => 0
  | x :: xs => xs.foldl (fun m y => if y < m then y else m) x

theorem lo_one (t : List Int) (h : 1 ≤ t.length) : lo (t.take 1) = t.getD 0 0 := by
  cases t with
  | nil => simp at h
  | cons x xs => simp [lo]

theorem lo_step (t : List Int) (k : Nat) (hk : 1 ≤ k) (h : k < t.length) : lo (t.take (k + 1)) = if t.getD k 0 < lo (t.take k) then t.getD k 0 else lo (t.take k) := by
  cases t with
  | nil => simp at h
  | cons x xs =>
    cases k with
    | zero => omega
    | succ k =>
      simp only [List.length_cons] at h
      rw [List.take_succ_cons, List.take_succ_cons]
      simp only [lo]
      rw [List.take_succ_eq_append_getElem (show k < xs.length by omega), List.foldl_append]
      simp [List.getD_eq_getElem?_getD, List.getElem?_eq_getElem (show k < xs.length by omega)]

theorem foldl_lo (c : Int) : ∀ (xs : List Int) (x : Int), (c ≤ xs.foldl (fun m y => if y < m then y else m) x ↔ c ≤ x ∧ ∀ y ∈ xs, c ≤ y)
  | [], x => by simp
  | y :: ys, x => by
    simp only [List.foldl_cons]
    rw [foldl_lo c ys]
    simp only [List.mem_cons, forall_eq_or_imp]
    split
    · constructor
      · rintro ⟨h1, h2⟩; exact ⟨by omega, h1, h2⟩
      · rintro ⟨h1, h2, h3⟩; exact ⟨h2, h3⟩
    · constructor
      · rintro ⟨h1, h2⟩; exact ⟨h1, by omega, h2⟩
      · rintro ⟨h1, h2, h3⟩; exact ⟨h1, h3⟩

theorem le_lo {t : List Int} (h : 1 ≤ t.length) (c : Int) : c ≤ lo t ↔ ∀ x ∈ t, c ≤ x := by
  cases t with
  | nil => simp at h
  | cons x xs => simp only [lo]; rw [foldl_lo]; simp

end Go.Proofs.Ytcjgcopkeeiicaa.Pl
/-! Plain facts about places in terms; no program in sight. -/

namespace Go.Proofs.Ytcjgcopkeeiicaa.Pl

/-- The index behind the term at a place. -/
def fin (f : Int → Int) (t : List Int) (p : Nat) : Nat := p + (run f 1 (t.drop p)).getD 0

theorem fin_of {f : Int → Int} {t : List Int} (h : run f 1 t = some t.length) {p : Nat} (hp : p < t.length) :
    endOf f t p = fin f t p ∧ p < fin f t p ∧ fin f t p ≤ t.length ∧ run f 1 (t.drop p) = some (fin f t p - p) := by
  obtain ⟨k, h1, h2, h3⟩ := run_at h hp
  unfold endOf fin
  rw [h1]
  simp only [Option.getD_some]
  refine ⟨by omega, by omega, by omega, ?_⟩
  congr 1
  omega

def argsFrom (f : Int → Int) (t : List Int) : Nat → Nat → List Nat
  | 0, _ => []
  | c + 1, p => p :: argsFrom f t c (fin f t p)

/-- The places of the arguments of what stands at a place. -/
def args (f : Int → Int) (t : List Int) (p : Nat) : List Nat := argsFrom f t (f (t.getD p 0)).toNat (p + 1)

theorem argsFrom_length (f : Int → Int) (t : List Int) : ∀ (c p : Nat), (argsFrom f t c p).length = c
  | 0, _ => rfl
  | c + 1, p => by simp [argsFrom, argsFrom_length f t c]

theorem run_one_args {f : Int → Int} {l : List Int} {k : Nat} (h : run f 1 l = some k) :
    ∃ x xs, l = x :: xs ∧ 0 ≤ f x ∧ run f (f x).toNat xs = some (k - 1) ∧ 1 ≤ k := by
  cases l with
  | nil => simp [run] at h
  | cons x xs =>
    simp only [run] at h
    split at h
    · cases h
    · simp only [Option.map_eq_some_iff, Nat.zero_add] at h
      obtain ⟨j, hj, rfl⟩ := h
      exact ⟨x, xs, rfl, by omega, by simpa using hj, by omega⟩

/-- What is left of a row of arguments: the next one is there, and behind it the rest. -/
theorem args_next {f : Int → Int} {t : List Int} {c q j : Nat} (h : run f (c + 1) (t.drop q) = some j) (hl : q + j ≤ t.length) :
    q < fin f t q ∧ fin f t q ≤ q + j ∧ run f 1 (t.drop q) = some (fin f t q - q) ∧ run f c (t.drop (fin f t q)) = some (q + j - fin f t q) := by
  rw [show c + 1 = 1 + c from by omega, run_add] at h
  cases h1 : run f 1 (t.drop q) with
  | none => rw [h1] at h; cases h
  | some k =>
    rw [h1] at h
    simp only [Option.bind_some, Option.map_eq_some_iff, List.drop_drop] at h
    obtain ⟨i, hi, rfl⟩ := h
    have hk := (run_le h1).2
    have e : fin f t q = q + k := by unfold fin; rw [h1]; rfl
    rw [e]
    refine ⟨by omega, by omega, by congr 1; omega, ?_⟩
    rw [hi]
    congr 1
    omega

/-- The arguments of a place of a right term, as a row of terms. -/
theorem args_start {f : Int → Int} {t : List Int} (h : run f 1 t = some t.length) {p : Nat} (hp : p < t.length) :
    0 ≤ f (t.getD p 0) ∧ run f (f (t.getD p 0)).toNat (t.drop (p + 1)) = some (fin f t p - (p + 1)) ∧ p + 1 ≤ fin f t p ∧ fin f t p ≤ t.length := by
  obtain ⟨h1, h2, h3, h4⟩ := fin_of h hp
  obtain ⟨x, xs, e, hx, hr, hk⟩ := run_one_args h4
  have ex : t.getD p 0 = x := by
    rw [List.getD_eq_getElem?_getD, List.getElem?_eq_getElem hp, Option.getD_some]
    rw [List.drop_eq_getElem_cons hp] at e
    injection e
  have exs : t.drop (p + 1) = xs := by
    rw [List.drop_eq_getElem_cons hp] at e
    injection e
  rw [ex, exs]
  refine ⟨hx, ?_, by omega, h3⟩
  rw [hr]
  congr 1

/-- Each argument lies behind its head and ends in the term. -/
theorem argsFrom_mem {f : Int → Int} {t : List Int} : ∀ {c q j : Nat}, run f c (t.drop q) = some j → q + j ≤ t.length → ∀ x ∈ argsFrom f t c q, q ≤ x ∧ x < q + j ∧ fin f t x ≤ q + j
  | 0, _, _, _, _, x, hx => by simp [argsFrom] at hx
  | c + 1, q, j, h, hl, x, hx => by
    obtain ⟨a1, a2, a3, a4⟩ := args_next h hl
    simp only [argsFrom, List.mem_cons] at hx
    rcases hx with rfl | hx
    · omega
    · have := argsFrom_mem a4 (by omega) x hx
      omega

theorem args_mem {f : Int → Int} {t : List Int} (h : run f 1 t = some t.length) {p : Nat} (hp : p < t.length) : ∀ x ∈ args f t p, p < x ∧ x < fin f t p ∧ x < t.length ∧ fin f t x ≤ fin f t p := by
  intro x hx
  obtain ⟨a1, a2, a3, a4⟩ := args_start h hp
  have := argsFrom_mem a2 (by omega) x hx
  omega

/-- What lies behind a head and inside its term lies inside just one of its arguments. -/
theorem argsFrom_find {f : Int → Int} {t : List Int} : ∀ {c q j : Nat}, run f c (t.drop q) = some j → q + j ≤ t.length → ∀ {x : Nat}, q ≤ x → x < q + j → ∃ y ∈ argsFrom f t c q, y ≤ x ∧ x < fin f t y
  | 0, q, j, h, hl, x, h1, h2 => by simp [run_zero] at h; omega
  | c + 1, q, j, h, hl, x, h1, h2 => by
    obtain ⟨a1, a2, a3, a4⟩ := args_next h hl
    by_cases hx : x < fin f t q
    · exact ⟨q, by simp [argsFrom], h1, hx⟩
    · obtain ⟨y, hy, h3, h4⟩ := argsFrom_find a4 (by omega) (x := x) (by omega) (by omega)
      exact ⟨y, by simp [argsFrom, hy], h3, h4⟩

/-- How deep a term is; the first number bounds the rounds. -/
def depth (f : Int → Int) (t : List Int) : Nat → Nat → Nat
  | 0, _ => 0
  | k + 1, p => ((args f t p).foldl (fun d q => max d (depth f t k q)) 0) + 1

theorem foldl_congr {α β : Type} {g g' : β → α → β} : ∀ {l : List α} (b : β), (∀ d, ∀ x ∈ l, g d x = g' d x) → l.foldl g b = l.foldl g' b
  | [], _, _ => rfl
  | x :: xs, b, h => by
    simp only [List.foldl_cons]
    rw [h b x (by simp), foldl_congr _ (fun d y hy => h d y (by simp [hy]))]

theorem depth_fuel {f : Int → Int} {t : List Int} (h : run f 1 t = some t.length) : ∀ (k k' p : Nat), p < t.length → t.length - p ≤ k → t.length - p ≤ k' → depth f t k p = depth f t k' p
  | 0, k', p, hp, h1, _ => by omega
  | k + 1, 0, p, hp, _, h2 => by omega
  | k + 1, k' + 1, p, hp, h1, h2 => by
    simp only [depth]
    congr 1
    refine foldl_congr _ fun d x hx => ?_
    have := args_mem h hp x hx
    rw [depth_fuel h k k' x (by omega) (by omega) (by omega)]

theorem depth_le {f : Int → Int} {t : List Int} : ∀ (k p : Nat), depth f t k p ≤ k
  | 0, p => Nat.le_refl _
  | k + 1, p => by
    simp only [depth]
    have : ∀ (l : List Nat) (b : Nat), b ≤ k → l.foldl (fun d q => max d (depth f t k q)) b ≤ k := by
      intro l
      induction l with
      | nil => intro b hb; exact hb
      | cons x xs ih =>
        intro b hb
        simp only [List.foldl_cons]
        exact ih _ (by have := depth_le (f := f) (t := t) k x; omega)
    have := this (args f t p) 0 (by omega)
    omega

/-- Does the term at p hold the place x? -/
def holds (f : Int → Int) (t : List Int) (p x : Nat) : Bool := decide (p ≤ x ∧ x < fin f t p)

/-- The first of the arguments that holds a place, and its number. -/
def pick (f : Int → Int) (t : List Int) (x : Nat) : List Nat → Nat → Option (Nat × Nat)
  | [], _ => none
  | q :: qs, i => if holds f t q x then some (i, q) else pick f t x qs (i + 1)

theorem pick_some {f : Int → Int} {t : List Int} {x : Nat} : ∀ {qs : List Nat} {i : Nat}, (∃ y ∈ qs, y ≤ x ∧ x < fin f t y) → ∃ j q, pick f t x qs i = some (j, q) ∧ q ∈ qs ∧ q ≤ x ∧ x < fin f t q ∧ i ≤ j ∧ j < i + qs.length ∧ qs.getD (j - i) 0 = q
  | [], i, h => by simp at h
  | q :: qs, i, h => by
    unfold pick
    by_cases hh : holds f t q x = true
    · rw [if_pos hh]
      have := of_decide_eq_true hh
      exact ⟨i, q, rfl, by simp, this.1, this.2, Nat.le_refl _, by simp, by simp⟩
    · rw [if_neg hh]
      have h' : ∃ y ∈ qs, y ≤ x ∧ x < fin f t y := by
        obtain ⟨y, hy, h1, h2⟩ := h
        rcases List.mem_cons.1 hy with rfl | hy
        · exact absurd (decide_eq_true ⟨h1, h2⟩) hh
        · exact ⟨y, hy, h1, h2⟩
      obtain ⟨j, r, h1, h2, h3, h4, h5, h6, h7⟩ := pick_some (i := i + 1) h'
      refine ⟨j, r, h1, by simp [h2], h3, h4, by omega, by simp; omega, ?_⟩
      rw [show j - i = (j - (i + 1)) + 1 by omega]
      simpa using h7

/-- The path from a place to a place that it holds; the first number bounds the rounds. -/
def pathF (f : Int → Int) (t : List Int) (x : Nat) : Nat → Nat → List Nat
  | 0, _ => []
  | k + 1, p => if p = x then [] else match pick f t x (args f t p) 0 with
    | none => []
    | some (i, q) => i :: pathF f t x k q

theorem pathF_here {f : Int → Int} {t : List Int} (x k : Nat) : pathF f t x k x = [] := by cases k <;> simp [pathF]

/-- One step down. -/
theorem pathF_step {f : Int → Int} {t : List Int} (h : run f 1 t = some t.length) {x p : Nat} (hp : p < t.length) (h1 : p < x) (h2 : x < fin f t p) :
    ∃ i q, pick f t x (args f t p) 0 = some (i, q) ∧ p < q ∧ q ≤ x ∧ x < fin f t q ∧ q < t.length ∧ i < (args f t p).length ∧ (args f t p).getD i 0 = q ∧
      ∀ k, pathF f t x (k + 1) p = i :: pathF f t x k q := by
  obtain ⟨a1, a2, a3, a4⟩ := args_start h hp
  obtain ⟨y, hy, h3, h4⟩ := argsFrom_find a2 (by omega) (x := x) (by omega) (by omega)
  obtain ⟨j, q, g1, g2, g3, g4, g5, g6, g7⟩ := pick_some (f := f) (t := t) (x := x) (qs := args f t p) (i := 0) ⟨y, hy, h3, h4⟩
  have hm := args_mem h hp q g2
  refine ⟨j, q, g1, hm.1, g3, g4, hm.2.2.1, by omega, by simpa using g7, fun k => ?_⟩
  rw [pathF, if_neg (by omega), g1]

def path (f : Int → Int) (t : List Int) (x : Nat) : List Nat := pathF f t x t.length 0

theorem pathF_len {f : Int → Int} {t : List Int} (x : Nat) : ∀ (k p : Nat), (pathF f t x k p).length ≤ k
  | 0, _ => by simp [pathF]
  | k + 1, p => by
    unfold pathF
    split
    · simp
    · split
      · simp
      · rename_i i q _
        have := pathF_len (f := f) (t := t) x k q
        simp; omega

/-- More rounds than are wanted change nothing. -/
theorem pathF_fuel {f : Int → Int} {t : List Int} (h : run f 1 t = some t.length) {x : Nat} : ∀ (k k' p : Nat), p < t.length → p ≤ x → x < fin f t p → x - p ≤ k → x - p ≤ k' → pathF f t x k p = pathF f t x k' p
  | 0, k', p, hp, h1, h2, h3, _ => by
    obtain rfl : p = x := by omega
    rw [pathF_here, pathF_here]
  | k + 1, 0, p, hp, h1, h2, _, h4 => by
    obtain rfl : p = x := by omega
    rw [pathF_here, pathF_here]
  | k + 1, k' + 1, p, hp, h1, h2, h3, h4 => by
    by_cases hpx : p = x
    · subst hpx; rw [pathF_here, pathF_here]
    · obtain ⟨i, q, g1, g2, g3, g4, g5, g6, g7, g8⟩ := pathF_step h hp (by omega) h2
      rw [g8, g8, pathF_fuel h k k' q g5 g3 g4 (by omega) (by omega)]

/-- Is this a right term with this place? -/
def posOk (ar t : List Int) (p : Int) : Bool := termOk ar t && decide (0 ≤ p ∧ p < t.length)

theorem posOk_iff {ar t : List Int} {p : Int} : posOk ar t p = true ↔ termOk ar t = true ∧ 0 ≤ p ∧ p < t.length := by simp [posOk]
theorem posOk_nat {ar t : List Int} {p : Int} (h : posOk ar t p = true) : ∃ k : Nat, p = k ∧ k < t.length ∧ termOk ar t = true := by
  obtain ⟨h1, h2, h3⟩ := posOk_iff.1 h
  exact ⟨p.toNat, by omega, by omega, h1⟩

def endOfV (ar t : List Int) (p : Int) : Int := if posOk ar t p then fin (ari ar) t p.toNat else -1
def insideIn (ar t : List Int) (p q : Int) : Bool := posOk ar t p && posOk ar t q && holds (ari ar) t p.toNat q.toNat
def apartIn (ar t : List Int) (p q : Int) : Bool := posOk ar t p && posOk ar t q && !holds (ari ar) t p.toNat q.toNat && !holds (ari ar) t q.toNat p.toNat

theorem end_ari {ar t : List Int} (h : termOk ar t = true) {p : Nat} (hp : p < t.length) : endOf (ari ar) t p = fin (ari ar) t p := (fin_of (termOk_iff.1 h).2.2 hp).1
theorem end_nxt {ar t : List Int} (h : termOk ar t = true) {p : Nat} (hp : p < t.length) : endOf (nxt ar) t p = fin (ari ar) t p := by
  rw [← end_ari h hp]
  unfold endOf
  rw [run_congr (g := ari ar) _ (fun x hx => nxt_ari (termOk_ge h x (List.mem_of_mem_drop hx)).1)]

/-- The comparison of two lists, number by number: below 0, 0, above 0. -/
def cmpL : List Int → List Int → Int
  | [], [] => 0
  | [], _ :: _ => -1
  | _ :: _, [] => 1
  | x :: xs, y :: ys => if x < y then -1 else if y < x then 1 else cmpL xs ys

def lessT (xs ys : List Int) : Bool := if xs.length ≠ ys.length then decide (xs.length < ys.length) else decide (cmpL xs ys < 0)

/-- What the compared lists have come to behind k equal numbers. -/
theorem cmpL_step {xs ys : List Int} {k : Nat} (hx : k < xs.length) (hy : k < ys.length) :
    cmpL (xs.drop k) (ys.drop k) = if xs.getD k 0 < ys.getD k 0 then -1 else if ys.getD k 0 < xs.getD k 0 then 1 else cmpL (xs.drop (k + 1)) (ys.drop (k + 1)) := by
  rw [List.drop_eq_getElem_cons hx, List.drop_eq_getElem_cons hy]
  simp [cmpL, List.getD_eq_getElem?_getD, List.getElem?_eq_getElem hx, List.getElem?_eq_getElem hy]

theorem cmpL_end {xs ys : List Int} {k : Nat} (hx : xs.length ≤ k) (hy : ys.length ≤ k) : cmpL (xs.drop k) (ys.drop k) = 0 := by
  rw [List.drop_eq_nil_of_le hx, List.drop_eq_nil_of_le hy]; rfl

/-- Is a list a rank of a signature's symbols? -/
def rankOk (ar rk : List Int) : Bool := sigOk ar && decide (rk.length = ar.length) && (List.range rk.length).all fun i => rk.contains (i : Int)

theorem erase_length {l : List Int} {a : Int} (h : a ∈ l) : (l.erase a).length + 1 = l.length := by
  rw [List.length_erase_of_mem h]
  have : 0 < l.length := List.length_pos_of_mem h
  omega

/-- Whoever holds the numbers 0 to n - 1 in n places holds each once and no other. -/
theorem full_all : ∀ (n : Nat) (l : List Int), l.length = n → (∀ i : Nat, i < n → (i : Int) ∈ l) → (∀ x ∈ l, 0 ≤ x ∧ x < n) ∧ l.Nodup
  | 0, l, hl, _ => by
    have : l = [] := List.eq_nil_of_length_eq_zero hl
    subst this
    simp
  | n + 1, l, hl, h => by
    have hn := h n (by omega)
    have hp := List.perm_cons_erase hn
    have hel : (l.erase (n : Int)).length = n := by have := erase_length hn; omega
    have ih := full_all n (l.erase (n : Int)) hel (fun i hi => (List.mem_erase_of_ne (by omega)).2 (h i (by omega)))
    constructor
    · intro x hx
      have := hp.mem_iff.1 hx
      rcases List.mem_cons.1 this with rfl | hx
      · omega
      · have := ih.1 x hx; omega
    · refine hp.nodup_iff.2 (List.nodup_cons.2 ⟨fun hc => ?_, ih.2⟩)
      have := ih.1 _ hc
      omega

theorem full_of : ∀ (n : Nat) (l : List Int), l.length = n → (∀ x ∈ l, 0 ≤ x ∧ x < n) → l.Nodup → ∀ i : Nat, i < n → (i : Int) ∈ l
  | 0, _, _, _, _, i, hi => by omega
  | n + 1, l, hl, hb, hd, i, hi => by
    by_cases hn : (n : Int) ∈ l
    · have hp := List.perm_cons_erase hn
      have hd' := List.nodup_cons.1 (hp.nodup_iff.1 hd)
      have hel : (l.erase (n : Int)).length = n := by have := erase_length hn; omega
      by_cases hin : i = n
      · subst hin; exact hn
      · refine List.mem_of_mem_erase (full_of n (l.erase (n : Int)) hel (fun x hx => ?_) hd'.2 i (by omega))
        have h1 := hb x (List.mem_of_mem_erase hx)
        have h2 : x ≠ n := fun e => hd'.1 (e ▸ hx)
        omega
    · exfalso
      match l, hl, hb, hd, hn with
      | x :: xs, hl, hb, hd, hn =>
        have hd' := List.nodup_cons.1 hd
        have hx := hb x (by simp)
        have hxn : x ≠ n := fun e => hn (by simp [e])
        have := full_of n xs (by simpa using hl) (fun y hy => by
          have h1 := hb y (by simp [hy])
          have h2 : y ≠ n := fun e => hn (by simp [← e, hy])
          omega) hd'.2 x.toNat (by omega)
        rw [show ((x.toNat : Nat) : Int) = x by omega] at this
        exact hd'.1 this

/-- The reference's way: each number fits and stands at no place before. -/
def rankTo (rk : List Int) (k : Nat) : Bool := (List.range k).all fun i => decide (0 ≤ rk.getD i 0 ∧ rk.getD i 0 < rk.length) && (List.range i).all fun j => rk.getD j 0 != rk.getD i 0

theorem rankTo_len (rk : List Int) : rankTo rk rk.length = (List.range rk.length).all fun i => rk.contains (i : Int) := by
  rw [Bool.eq_iff_iff]
  simp only [rankTo, List.all_eq_true, List.mem_range, Bool.and_eq_true, decide_eq_true_eq, bne_iff_ne, List.contains_iff_mem]
  have key : (∀ i, i < rk.length → (0 ≤ rk.getD i 0 ∧ rk.getD i 0 < rk.length) ∧ ∀ j, j < i → rk.getD j 0 ≠ rk.getD i 0) ↔ (∀ x ∈ rk, 0 ≤ x ∧ x < rk.length) ∧ rk.Nodup := by
    have hg : ∀ i (h : i < rk.length), rk.getD i 0 = rk[i] := fun i h => by simp [List.getD_eq_getElem?_getD, h]
    constructor
    · intro h
      constructor
      · intro x hx
        obtain ⟨i, hi, rfl⟩ := List.getElem_of_mem hx
        have := (h i hi).1
        rwa [hg i hi] at this
      · rw [List.nodup_iff_pairwise_ne, List.pairwise_iff_getElem]
        intro i j hi hj hij
        have := (h j hj).2 i hij
        rwa [hg i hi, hg j hj] at this
    · rintro ⟨h1, h2⟩ i hi
      rw [hg i hi]
      refine ⟨h1 _ (List.getElem_mem hi), fun j hj => ?_⟩
      rw [hg j (by omega)]
      rw [List.nodup_iff_pairwise_ne, List.pairwise_iff_getElem] at h2
      exact h2 j i (by omega) hi hj
  rw [key]
  constructor
  · rintro ⟨h1, h2⟩ i hi
    exact full_of _ rk rfl h1 h2 i hi
  · intro h
    exact full_all _ rk rfl h

/-- The largest variable number plus 1, or 0. -/
def behind (t : List Int) : Int := t.foldl (fun m x => if -x > m then -x else m) 0

theorem behind_lo {t : List Int} (h : 1 ≤ t.length) : behind t = if -lo t > 0 then -lo t else 0 := by
  have key : ∀ (xs : List Int) (x : Int), xs.foldl (fun m y => if -y > m then -y else m) (if -x > 0 then -x else 0) = if -(xs.foldl (fun m y => if y < m then y else m) x) > 0 then -(xs.foldl (fun m y => if y < m then y else m) x) else 0 := by
    intro xs
    induction xs with
    | nil => intro x; rfl
    | cons y ys ih =>
      intro x
      refine Eq.trans ?_ (ih (if y < x then y else x))
      show ys.foldl _ (if -y > (if -x > 0 then -x else 0) then -y else (if -x > 0 then -x else 0)) = _
      congr 1
      by_cases h1 : y < x
      · rw [if_pos h1]
        by_cases h2 : -x > 0
        · rw [if_pos h2, if_pos (by omega), if_pos (by omega)]
        · rw [if_neg h2]
      · rw [if_neg h1]
        by_cases h2 : -x > 0
        · rw [if_pos h2, if_neg (by omega)]
        · rw [if_neg h2, if_neg (by omega)]
  cases t with
  | nil => simp at h
  | cons x xs =>
    unfold behind lo
    simp only [List.foldl_cons]
    exact key xs x

end Go.Proofs.Ytcjgcopkeeiicaa.Pl
