/- Plain: a part of a right term is a right term. -/
import Derived.Test.YtcjgcopkeeiicaaPlainB
namespace Go.Proofs.Ytcjgcopkeeiicaa.Pl
set_option linter.unusedVariables false
theorem run_take {f : Int → Int} : ∀ {l : List Int} {m k n : Nat}, run f m l = some k → k ≤ n → run f m (l.take n) = some k
  | l, 0, k, n, h, _ => by rw [run_zero] at h ⊢; exact h
  | [], m + 1, k, n, h, _ => by simp [run] at h
  | x :: xs, m + 1, k, n, h, hk => by
    simp only [run] at h
    by_cases h0 : f x < 0
    · rw [if_pos h0] at h; cases h
    · rw [if_neg h0] at h
      simp only [Option.map_eq_some_iff] at h
      obtain ⟨j, hj, rfl⟩ := h
      obtain ⟨n, rfl⟩ : ∃ n', n = n' + 1 := ⟨n - 1, by omega⟩
      rw [List.take_succ_cons]
      simp only [run]
      rw [if_neg h0, run_take hj (by omega)]
      rfl
/-- The part of a right term that begins at a place. -/
def sub (f : Int → Int) (t : List Int) (p : Nat) : List Int := (t.drop p).take (fin f t p - p)
section
variable {f : Int → Int} {t : List Int} (h : run f 1 t = some t.length) {p : Nat} (hp : p < t.length)
include h hp
theorem sub_len : (sub f t p).length = fin f t p - p := by
  have := (fin_of h hp).2.2.1
  unfold sub; rw [List.length_take, List.length_drop]; omega
theorem sub_run : run f 1 (sub f t p) = some (sub f t p).length := by
  rw [sub_len h hp]
  exact run_take (fin_of h hp).2.2.2 (Nat.le_refl _)
theorem sub_drop {q : Nat} (hq : p + q < fin f t p) : run f 1 ((sub f t p).drop q) = run f 1 (t.drop (p + q)) ∧ fin f t (p + q) ≤ fin f t p := by
  have h1 := fin_of h hp
  have h2 := fin_of h (p := p + q) (by omega)
  obtain ⟨k, k1, k2, k3⟩ := run_at (sub_run h hp) (p := q) (by rw [sub_len h hp]; omega)
  rw [sub_len h hp] at k2
  have e : (sub f t p).drop q = (t.drop (p + q)).take (fin f t p - p - q) := by unfold sub; rw [List.drop_take, List.drop_drop]
  have k4 : run f 1 (t.drop (p + q)) = some k := by
    rw [e] at k1
    have := run_take (n := fin f t p - p - q) h2.2.2.2
    -- the run in the part is the run in the whole
    rcases Nat.lt_or_ge (fin f t p - p - q) (fin f t (p + q) - (p + q)) with hlt | hge
    · exfalso
      have happ : ∀ {l : List Int} {m j : Nat} (r : List Int), run f m l = some j → run f m (l ++ r) = some j := by
        intro l
        induction l with
        | nil =>
          intro m j r hh
          cases m with
          | zero => rw [run_zero] at hh ⊢; exact hh
          | succ m => simp [run] at hh
        | cons x xs ih =>
          intro m j r hh
          cases m with
          | zero => rw [run_zero] at hh ⊢; exact hh
          | succ m =>
            simp only [List.cons_append, run] at hh ⊢
            by_cases h0 : f x < 0
            · rw [if_pos h0] at hh; cases hh
            · rw [if_neg h0] at hh ⊢
              simp only [Option.map_eq_some_iff] at hh ⊢
              obtain ⟨i, hi, rfl⟩ := hh
              exact ⟨i, ih r hi, rfl⟩
      have h5 := happ ((t.drop (p + q)).drop (fin f t p - p - q)) k1
      rw [List.take_append_drop, h2.2.2.2] at h5
      injection h5 with h5
      omega
    · have := this hge
      rw [this] at k1
      injection k1 with k1
      rw [← k1]; exact h2.2.2.2
  rw [k1, k4]
  refine ⟨rfl, ?_⟩
  rw [h2.2.2.2] at k4
  injection k4 with k4
  omega
theorem sub_fin {q : Nat} (hq : p + q < fin f t p) : fin f t (p + q) = p + fin f (sub f t p) q := by
  unfold fin at *
  rw [(sub_drop h hp hq).1]; omega
omit h hp in
theorem sub_at (_ : run f 1 t = some t.length) (_ : p < t.length) {q : Nat} (hq : p + q < fin f t p) : (sub f t p).getD q 0 = t.getD (p + q) 0 := by
  unfold sub
  simp only [List.getD_eq_getElem?_getD]
  rw [List.getElem?_take_of_lt (by omega), List.getElem?_drop]
theorem sub_sub {q : Nat} (hq : p + q < fin f t p) : sub f (sub f t p) q = sub f t (p + q) := by
  have h1 := sub_fin h hp hq
  have h2 := (sub_drop h hp hq).2
  have h3 := fin_of (sub_run h hp) (p := q) (by rw [sub_len h hp]; omega)
  conv => lhs; unfold sub
  rw [show (List.take (fin f t p - p) (List.drop p t)) = sub f t p from rfl]
  unfold sub
  rw [List.drop_take, List.drop_drop, List.take_take]
  congr 1
  have h4 : fin f (List.take (fin f t p - p) (List.drop p t)) q = fin f (sub f t p) q := rfl
  rw [h4]
  omega
theorem sub_argsFrom : ∀ {c q j : Nat}, run f c (t.drop (p + q)) = some j → p + q + j ≤ fin f t p → argsFrom f t c (p + q) = (argsFrom f (sub f t p) c q).map (p + ·)
  | 0, _, _, _, _ => rfl
  | c + 1, q, j, hr, hj => by
    have hF := (fin_of h hp).2.2.1
    obtain ⟨a1, a2, a3, a4⟩ := args_next hr (by omega)
    have hq : p + q < fin f t p := by have := (run_le hr).2; omega
    have e := sub_fin h hp hq
    simp only [argsFrom, List.map_cons]
    rw [e]
    rw [e] at a2 a4
    rw [sub_argsFrom (q := fin f (sub f t p) q) a4 (by omega)]
theorem sub_args {q : Nat} (hq : p + q < fin f t p) : args f t (p + q) = (args f (sub f t p) q).map (p + ·) := by
  have hF := (fin_of h hp).2.2.1
  obtain ⟨a1, a2, a3, a4⟩ := args_start h (p := p + q) (by omega)
  have h2 := (sub_drop h hp hq).2
  unfold args
  rw [sub_at h hp hq]
  exact sub_argsFrom h hp (q := q + 1) a2 (by omega)
theorem sub_depth : ∀ (k : Nat) {q : Nat}, p + q < fin f t p → depth f (sub f t p) k q = depth f t k (p + q)
  | 0, _, _ => rfl
  | k + 1, q, hq => by
    simp only [depth]
    rw [sub_args h hp hq, List.foldl_map]
    congr 1
    refine foldl_congr _ fun d x hx => ?_
    have := args_mem (sub_run h hp) (p := q) (by rw [sub_len h hp]; omega) x hx
    rw [sub_len h hp] at this
    rw [sub_depth k (q := x) (by omega)]
end
/-- The head and the arguments' terms are the term. -/
theorem flat_args {f : Int → Int} {t : List Int} : ∀ {c q j : Nat}, run f c (t.drop q) = some j → q + j ≤ t.length → (argsFrom f t c q).flatMap (sub f t) = (t.drop q).take j
  | 0, q, j, h, _ => by rw [run_zero] at h; cases h; simp [argsFrom]
  | c + 1, q, j, h, hl => by
    obtain ⟨a1, a2, a3, a4⟩ := args_next h hl
    simp only [argsFrom, List.flatMap_cons]
    rw [flat_args a4 (by omega)]
    unfold sub
    obtain ⟨d, hd⟩ : ∃ d, fin f t q = q + d := ⟨fin f t q - q, by omega⟩
    rw [hd]
    have e1 : q + d - q = d := by omega
    have e2 : q + j - (q + d) = j - d := by omega
    rw [e1, e2, ← List.drop_drop, ← List.take_add]
    congr 1
    omega
theorem again_sub {f : Int → Int} {t : List Int} (h : run f 1 t = some t.length) {p : Nat} (hp : p < t.length) : t.getD p 0 :: (args f t p).flatMap (sub f t) = sub f t p := by
  obtain ⟨a1, a2, a3, a4⟩ := args_start h hp
  unfold args
  rw [flat_args a2 (by omega)]
  unfold sub
  rw [List.drop_eq_getElem_cons hp, show fin f t p - p = fin f t p - (p + 1) + 1 by omega, List.take_succ_cons]
  simp [List.getD_eq_getElem?_getD, hp]
theorem depth_args {f : Int → Int} {t : List Int} (h : run f 1 t = some t.length) {p : Nat} (hp : p < t.length) : depth f t t.length p = ((args f t p).foldl (fun d q => max d (depth f t t.length q)) 0) + 1 := by
  obtain ⟨n, hn⟩ : ∃ n, t.length = n + 1 := ⟨t.length - 1, by omega⟩
  rw [hn]
  simp only [depth]
  congr 1
  refine foldl_congr _ fun d x hx => ?_
  have := args_mem h hp x hx
  rw [depth_fuel h n (n + 1) x this.2.2.1 (by omega) (by omega)]
  simp only [depth]
theorem depth_fuel2 {f : Int → Int} {t : List Int} (h : run f 1 t = some t.length) : ∀ (k k' p : Nat), p < t.length → fin f t p - p ≤ k → fin f t p - p ≤ k' → depth f t k p = depth f t k' p
  | 0, k', p, hp, h1, _ => by have := (fin_of h hp).2.1; omega
  | k + 1, 0, p, hp, _, h2 => by have := (fin_of h hp).2.1; omega
  | k + 1, k' + 1, p, hp, h1, h2 => by
    simp only [depth]
    congr 1
    refine foldl_congr _ fun d x hx => ?_
    have := args_mem h hp x hx
    rw [depth_fuel2 h k k' x (by omega) (by omega) (by omega)]
/-- A part's depth, reckoned by itself. -/
theorem sub_dep {f : Int → Int} {t : List Int} (h : run f 1 t = some t.length) {p : Nat} (hp : p < t.length) : depth f (sub f t p) (sub f t p).length 0 = depth f t t.length p := by
  have h1 := fin_of h hp
  rw [sub_depth h hp _ (by omega), Nat.add_zero]
  exact depth_fuel2 h _ _ p hp (by rw [sub_len h hp]; omega) (by omega)
theorem sub_ok {ar t : List Int} (h : termOk ar t = true) {p : Nat} (hp : p < t.length) : termOk ar (sub (ari ar) t p) = true := by
  obtain ⟨hs, hl, hr⟩ := termOk_iff.1 h
  have h1 := fin_of hr hp
  have h2 := sub_len hr hp
  exact termOk_iff.2 ⟨hs, by omega, sub_run hr hp⟩
end Go.Proofs.Ytcjgcopkeeiicaa.Pl
