/- Plain facts about places in terms; no program in sight. -/
import Derived.Test.YtlleldidkchicaaPlain
namespace Go.Proofs.Ytlleldidkchicaa.Pl

/-- The index behind the term at a place. -/
def fin (f : Int → Int) (t : List Int) (p : Nat) : Nat := p + (run f 1 (t.drop p)).getD 0

theorem fin_of {f : Int → Int} {t : List Int} (h : run f 1 t = some t.length) {p : Nat} (hp : p < t.length) :
    endOf f t p = fin f t p ∧ p < fin f t p ∧ fin f t p ≤ t.length ∧ run f 1 (t.drop p) = some (fin f t p - p) := by
  obtain ⟨k, h1, h2, h3⟩ := run_at h hp
  unfold endOf fin
  rw [h1]
  simp only [Option.getD_some]
  refine ⟨by omega, by omega, by omega, ?_⟩
  congr 1
  omega

def argsFrom (f : Int → Int) (t : List Int) : Nat → Nat → List Nat
  | 0, _ => []
  | c + 1, p => p :: argsFrom f t c (fin f t p)

/-- The places of the arguments of what stands at a place. -/
def args (f : Int → Int) (t : List Int) (p : Nat) : List Nat := argsFrom f t (f (t.getD p 0)).toNat (p + 1)

theorem argsFrom_length (f : Int → Int) (t : List Int) : ∀ (c p : Nat), (argsFrom f t c p).length = c
  | 0, _ => rfl
  | c + 1, p => by simp [argsFrom, argsFrom_length f t c]

theorem run_one_args {f : Int → Int} {l : List Int} {k : Nat} (h : run f 1 l = some k) :
    ∃ x xs, l = x :: xs ∧ 0 ≤ f x ∧ run f (f x).toNat xs = some (k - 1) ∧ 1 ≤ k := by
  cases l with
  | nil => simp [run] at h
  | cons x xs =>
    simp only [run] at h
    split at h
    · cases h
    · simp only [Option.map_eq_some_iff, Nat.zero_add] at h
      obtain ⟨j, hj, rfl⟩ := h
      exact ⟨x, xs, rfl, by omega, by simpa using hj, by omega⟩

/-- What is left of a row of arguments: the next one is there, and behind it the rest. -/
theorem args_next {f : Int → Int} {t : List Int} {c q j : Nat} (h : run f (c + 1) (t.drop q) = some j) (hl : q + j ≤ t.length) :
    q < fin f t q ∧ fin f t q ≤ q + j ∧ run f 1 (t.drop q) = some (fin f t q - q) ∧ run f c (t.drop (fin f t q)) = some (q + j - fin f t q) := by
  rw [show c + 1 = 1 + c from by omega, run_add] at h
  cases h1 : run f 1 (t.drop q) with
  | none => rw [h1] at h; cases h
  | some k =>
    rw [h1] at h
    simp only [Option.bind_some, Option.map_eq_some_iff, List.drop_drop] at h
    obtain ⟨i, hi, rfl⟩ := h
    have hk := (run_le h1).2
    have e : fin f t q = q + k := by unfold fin; rw [h1]; rfl
    rw [e]
    refine ⟨by omega, by omega, by congr 1; omega, ?_⟩
    rw [hi]
    congr 1
    omega

/-- The arguments of a place of a right term, as a row of terms. -/
theorem args_start {f : Int → Int} {t : List Int} (h : run f 1 t = some t.length) {p : Nat} (hp : p < t.length) :
    0 ≤ f (t.getD p 0) ∧ run f (f (t.getD p 0)).toNat (t.drop (p + 1)) = some (fin f t p - (p + 1)) ∧ p + 1 ≤ fin f t p ∧ fin f t p ≤ t.length := by
  obtain ⟨h1, h2, h3, h4⟩ := fin_of h hp
  obtain ⟨x, xs, e, hx, hr, hk⟩ := run_one_args h4
  have ex : t.getD p 0 = x := by
    rw [List.getD_eq_getElem?_getD, List.getElem?_eq_getElem hp, Option.getD_some]
    rw [List.drop_eq_getElem_cons hp] at e
    injection e
  have exs : t.drop (p + 1) = xs := by
    rw [List.drop_eq_getElem_cons hp] at e
    injection e
  rw [ex, exs]
  refine ⟨hx, ?_, by omega, h3⟩
  rw [hr]
  congr 1

/-- Each argument lies behind its head and ends in the term. -/
theorem argsFrom_mem {f : Int → Int} {t : List Int} : ∀ {c q j : Nat}, run f c (t.drop q) = some j → q + j ≤ t.length → ∀ x ∈ argsFrom f t c q, q ≤ x ∧ x < q + j ∧ fin f t x ≤ q + j
  | 0, _, _, _, _, x, hx => by simp [argsFrom] at hx
  | c + 1, q, j, h, hl, x, hx => by
    obtain ⟨a1, a2, a3, a4⟩ := args_next h hl
    simp only [argsFrom, List.mem_cons] at hx
    rcases hx with rfl | hx
    · omega
    · have := argsFrom_mem a4 (by omega) x hx
      omega

theorem args_mem {f : Int → Int} {t : List Int} (h : run f 1 t = some t.length) {p : Nat} (hp : p < t.length) : ∀ x ∈ args f t p, p < x ∧ x < fin f t p ∧ x < t.length ∧ fin f t x ≤ fin f t p := by
  intro x hx
  obtain ⟨a1, a2, a3, a4⟩ := args_start h hp
  have := argsFrom_mem a2 (by omega) x hx
  omega

/-- What lies behind a head and inside its term lies inside just one of its arguments. -/
theorem argsFrom_find {f : Int → Int} {t : List Int} : ∀ {c q j : Nat}, run f c (t.drop q) = some j → q + j ≤ t.length → ∀ {x : Nat}, q ≤ x → x < q + j → ∃ y ∈ argsFrom f t c q, y ≤ x ∧ x < fin f t y
  | 0, q, j, h, hl, x, h1, h2 => by simp [run_zero] at h; omega
  | c + 1, q, j, h, hl, x, h1, h2 => by
    obtain ⟨a1, a2, a3, a4⟩ := args_next h hl
    by_cases hx : x < fin f t q
    · exact ⟨q, by simp [argsFrom], h1, hx⟩
    · obtain ⟨y, hy, h3, h4⟩ := argsFrom_find a4 (by omega) (x := x) (by omega) (by omega)
      exact ⟨y, by simp [argsFrom, hy], h3, h4⟩

/-- How deep a term is; the first number bounds the rounds. -/
def depth (f : Int → Int) (t : List Int) : Nat → Nat → Nat
  | 0, _ => 0
  | k + 1, p => ((args f t p).foldl (fun d q => max d (depth f t k q)) 0) + 1

theorem foldl_congr {α β : Type} {g g' : β → α → β} : ∀ {l : List α} (b : β), (∀ d, ∀ x ∈ l, g d x = g' d x) → l.foldl g b = l.foldl g' b
  | [], _, _ => rfl
  | x :: xs, b, h => by
    simp only [List.foldl_cons]
    rw [h b x (by simp), foldl_congr _ (fun d y hy => h d y (by simp [hy]))]

theorem depth_fuel {f : Int → Int} {t : List Int} (h : run f 1 t = some t.length) : ∀ (k k' p : Nat), p < t.length → t.length - p ≤ k → t.length - p ≤ k' → depth f t k p = depth f t k' p
  | 0, k', p, hp, h1, _ => by omega
  | k + 1, 0, p, hp, _, h2 => by omega
  | k + 1, k' + 1, p, hp, h1, h2 => by
    simp only [depth]
    congr 1
    refine foldl_congr _ fun d x hx => ?_
    have := args_mem h hp x hx
    rw [depth_fuel h k k' x (by omega) (by omega) (by omega)]

theorem depth_le {f : Int → Int} {t : List Int} : ∀ (k p : Nat), depth f t k p ≤ k
  | 0, p => Nat.le_refl _
  | k + 1, p => by
    simp only [depth]
    have : ∀ (l : List Nat) (b : Nat), b ≤ k → l.foldl (fun d q => max d (depth f t k q)) b ≤ k := by
      intro l
      induction l with
      | nil => intro b hb; exact hb
      | cons x xs ih =>
        intro b hb
        simp only [List.foldl_cons]
        exact ih _ (by have := depth_le (f := f) (t := t) k x; omega)
    have := this (args f t p) 0 (by omega)
    omega

/-- Does the term at p hold the place x? -/
def holds (f : Int → Int) (t : List Int) (p x : Nat) : Bool := decide (p ≤ x ∧ x < fin f t p)

end Go.Proofs.Ytlleldidkchicaa.Pl
