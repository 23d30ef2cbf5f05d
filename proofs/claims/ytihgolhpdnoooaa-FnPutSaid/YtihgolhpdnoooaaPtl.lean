/- Plain: a part that is put in. -/
import Derived.Test.YtihgolhpdnoooaaPth
import Derived.Test.YtihgolhpdnoooaaPut
namespace Go.Proofs.Ytihgolhpdnoooaa
set_option linter.unusedVariables false
namespace Pl
theorem run_app' {f : Int → Int} : ∀ {l : List Int} {m j : Nat} (r : List Int), run f m l = some j → run f m (l ++ r) = some j
  | [], 0, j, r, h => by rw [run_zero] at h ⊢; exact h
  | [], m + 1, j, r, h => by simp [run] at h
  | x :: xs, 0, j, r, h => by rw [run_zero] at h ⊢; exact h
  | x :: xs, m + 1, j, r, h => by
    simp only [List.cons_append, run] at h ⊢
    by_cases h0 : f x < 0
    · rw [if_pos h0] at h; cases h
    · rw [if_neg h0] at h ⊢
      simp only [Option.map_eq_some_iff] at h ⊢
      obtain ⟨i, hi, rfl⟩ := h
      exact ⟨i, run_app' r hi, rfl⟩
/-- A run that passes a first part: what is still to come behind it. -/
theorem run_split {f : Int → Int} : ∀ {a r : List Int} {m j : Nat}, run f m (a ++ r) = some j → a.length < j → ∃ m', run f (1 + m') r = some (j - a.length) ∧ ∀ r', run f m (a ++ r') = (run f (1 + m') r').map (· + a.length)
  | [], r, m, j, h, hj => by
    obtain ⟨m', rfl⟩ : ∃ m', m = 1 + m' := by
      cases m with
      | zero => rw [run_zero] at h; cases h; simp at hj
      | succ m => exact ⟨m, by omega⟩
    exact ⟨m', by simpa using h, fun r' => by simp⟩
  | y :: a, r, m, j, h, hj => by
    cases m with
    | zero => rw [run_zero] at h; cases h; simp at hj
    | succ m =>
      simp only [List.cons_append, run] at h
      by_cases h0 : f y < 0
      · rw [if_pos h0] at h; cases h
      · rw [if_neg h0] at h
        simp only [Option.map_eq_some_iff] at h
        obtain ⟨i, hi, rfl⟩ := h
        obtain ⟨m', h1, h2⟩ := run_split hi (by simp at hj; omega)
        refine ⟨m', by rw [h1]; congr 1; simp, fun r' => ?_⟩
        simp only [List.cons_append, run]
        rw [if_neg h0, h2 r', Option.map_map]
        congr 1
/-- A term put for a term in the middle of a run. -/
theorem run_put {f : Int → Int} {a s u b : List Int} {m k : Nat} (h : run f m (a ++ (s ++ b)) = some k) (hs : run f 1 s = some s.length) (hu : run f 1 u = some u.length) (hk : a.length < k) :
    a.length + s.length ≤ k ∧ run f m (a ++ (u ++ b)) = some (k - s.length + u.length) := by
  obtain ⟨m', h1, h2⟩ := run_split h hk
  rw [run_add, run_app' b hs] at h1
  simp only [Option.bind_some, Option.map_eq_some_iff, List.drop_left] at h1
  obtain ⟨i, hi, he⟩ := h1
  refine ⟨by omega, ?_⟩
  rw [h2, run_add, run_app' b hu]
  simp only [Option.bind_some, List.drop_left]
  rw [hi]
  simp only [Option.map_some]
  congr 1
  omega
theorem fin_eq {f : Int → Int} {t : List Int} {p k : Nat} (h : run f 1 (t.drop p) = some k) : fin f t p = p + k := by unfold fin; rw [h]; rfl
section
set_option linter.unusedSectionVars false
variable {f : Int → Int} {t : List Int} (h : run f 1 t = some t.length) {p : Nat} (hp : p < t.length) {u : List Int} (hu : run f 1 u = some u.length)
include h hp hu
theorem put_parts : t = t.take p ++ (sub f t p ++ t.drop (fin f t p)) := by
  have hf := fin_of h hp
  have : sub f t p ++ t.drop (fin f t p) = t.drop p := by
    unfold sub
    have e : t.drop (fin f t p) = (t.drop p).drop (fin f t p - p) := by rw [List.drop_drop]; congr 1; omega
    rw [e, List.take_append_drop]
  rw [this, List.take_append_drop]
theorem put_len : (putAt t p (fin f t p) u).length + (fin f t p - p) = t.length + u.length := by
  have hf := fin_of h hp
  unfold putAt; simp; omega
theorem put_eq : putAt t p (fin f t p) u = t.take p ++ (u ++ t.drop (fin f t p)) := by unfold putAt; rw [List.append_assoc]
theorem put_run : run f 1 (putAt t p (fin f t p) u) = some (putAt t p (fin f t p) u).length := by
  have hf := fin_of h hp
  have h1 := h
  rw [put_parts h hp hu] at h1
  have hl : (t.take p ++ (sub f t p ++ t.drop (fin f t p))).length = t.length := by rw [← put_parts h hp hu]
  rw [hl] at h1
  have h2 := (run_put h1 (sub_run h hp) hu (by rw [List.length_take]; omega)).2
  rw [put_eq h hp hu, h2]
  congr 1
  have := put_len h hp hu
  rw [put_eq h hp hu] at this
  have := sub_len h hp
  omega
theorem put_lt : p < (putAt t p (fin f t p) u).length := by
  have hf := fin_of h hp
  have := put_len h hp hu
  have h1 : 1 ≤ u.length := (run_le hu).2
  omega
theorem put_drop : (putAt t p (fin f t p) u).drop p = u ++ t.drop (fin f t p) := by
  rw [put_eq h hp hu]
  have : (t.take p).length = p := by rw [List.length_take]; omega
  rw [List.drop_append_of_le_length (by omega), List.drop_of_length_le (by omega), List.nil_append]
theorem put_fin : fin f (putAt t p (fin f t p) u) p = p + u.length := by
  exact fin_eq (by rw [put_drop h hp hu, run_app' _ hu])
theorem put_sub : sub f (putAt t p (fin f t p) u) p = u := by
  conv => lhs; unfold sub
  rw [put_fin h hp hu, put_drop h hp hu, show p + u.length - p = u.length by omega, List.take_left]
theorem put_back : putAt (putAt t p (fin f t p) u) p (fin f (putAt t p (fin f t p) u) p) (sub f t p) = t := by
  rw [put_fin h hp hu]
  have hl : (t.take p).length = p := by rw [List.length_take]; omega
  have e1 : (putAt t p (fin f t p) u).take p = t.take p := by
    rw [put_eq h hp hu, List.take_append_of_le_length (by omega), List.take_of_length_le (by omega)]
  have e2 : (putAt t p (fin f t p) u).drop (p + u.length) = t.drop (fin f t p) := by
    rw [← List.drop_drop, put_drop h hp hu, List.drop_left]
  conv => lhs; unfold putAt
  rw [show List.take p t ++ u ++ List.drop (fin f t p) t = putAt t p (fin f t p) u from rfl, e1, e2, List.append_assoc, ← put_parts h hp hu]
/-- Where a place comes to lie. -/
def mv (p F n y : Nat) : Nat := if y ≤ p then y else y + n - (F - p)
theorem put_left {y : Nat} (hy : y ≤ p) : (putAt t p (fin f t p) u).drop y = (t.drop y).take (p - y) ++ (u ++ t.drop (fin f t p)) := by
  rw [put_eq h hp hu]
  have hl : (t.take p).length = p := by rw [List.length_take]; omega
  rw [List.drop_append_of_le_length (by omega), List.drop_take]
theorem t_left {y : Nat} (hy : y ≤ p) : t.drop y = (t.drop y).take (p - y) ++ (sub f t p ++ t.drop (fin f t p)) := by
  have e := put_parts h hp hu
  have hl : (t.take p).length = p := by rw [List.length_take]; omega
  conv => lhs; rw [e]
  rw [List.drop_append_of_le_length (by omega), List.drop_take]
theorem put_right {y : Nat} (hy : fin f t p ≤ y) : (putAt t p (fin f t p) u).drop (mv p (fin f t p) u.length y) = t.drop y := by
  have hf := fin_of h hp
  have : mv p (fin f t p) u.length y = p + (u.length + (y - fin f t p)) := by unfold mv; rw [if_neg (by omega)]; omega
  rw [this, ← List.drop_drop, put_drop h hp hu, ← List.drop_drop, List.drop_left, List.drop_drop]
  congr 1; omega
/-- A place outside the part keeps its term's end. -/
theorem put_fin_at {y : Nat} (hy : y < t.length) (ho : y ≤ p ∨ fin f t p ≤ y) : fin f (putAt t p (fin f t p) u) (mv p (fin f t p) u.length y) = mv p (fin f t p) u.length (fin f t y) ∧ (fin f t y ≤ p ∨ fin f t p ≤ fin f t y) := by
  have hf := fin_of h hp
  have hg := fin_of h hy
  have hsl := sub_len h hp
  rcases ho with ho | ho
  · have em : mv p (fin f t p) u.length y = y := if_pos ho
    rw [em]
    rcases Nat.lt_or_ge p (fin f t y) with hlt | hge
    · -- the part lies inside
      have hr := hg.2.2.2
      rw [t_left h hp hu ho] at hr
      have hl : ((t.drop y).take (p - y)).length = p - y := by rw [List.length_take, List.length_drop]; omega
      have h2 := run_put hr (sub_run h hp) hu (by omega)
      rw [hl] at h2
      have hF : fin f t p ≤ fin f t y := by omega
      refine ⟨?_, .inr hF⟩
      rw [fin_eq (by rw [put_left h hp hu ho]; exact h2.2)]
      unfold mv
      rw [if_neg (by omega)]
      omega
    · refine ⟨?_, .inl hge⟩
      have e2 : mv p (fin f t p) u.length (fin f t y) = fin f t y := if_pos hge
      rw [e2]
      rw [fin_eq (by rw [put_left h hp hu ho]; exact run_app' _ (run_take hg.2.2.2 (by omega)))]
      omega
  · refine ⟨?_, .inr (by omega)⟩
    rw [fin_eq (by rw [put_right h hp hu ho]; exact hg.2.2.2)]
    unfold mv
    rw [if_neg (by omega), if_neg (by omega)]
    omega
theorem put_at {y : Nat} (ho : y < p ∨ fin f t p ≤ y) : (putAt t p (fin f t p) u).getD (mv p (fin f t p) u.length y) 0 = t.getD y 0 := by
  have hl : (t.take p).length = p := by rw [List.length_take]; omega
  rcases ho with ho | ho
  · have em : mv p (fin f t p) u.length y = y := if_pos (by omega)
    rw [em, put_eq h hp hu]
    simp only [List.getD_eq_getElem?_getD]
    rw [List.getElem?_append_left (by omega), List.getElem?_take_of_lt ho]
  · have e := put_right h hp hu ho
    have e2 := congrArg (fun l => l.getD 0 0) e
    simp only [List.getD_eq_getElem?_getD, List.getElem?_drop, Nat.add_zero] at e2 ⊢
    exact e2
theorem put_argsFrom : ∀ {c s j : Nat}, run f c (t.drop s) = some j → s + j ≤ t.length → (s ≤ p ∨ fin f t p ≤ s) → argsFrom f (putAt t p (fin f t p) u) c (mv p (fin f t p) u.length s) = (argsFrom f t c s).map (mv p (fin f t p) u.length)
  | 0, _, _, _, _, _ => rfl
  | c + 1, s, j, hr, hl, ho => by
    obtain ⟨a1, a2, a3, a4⟩ := args_next hr hl
    obtain ⟨b1, b2⟩ := put_fin_at h hp hu (y := s) (by omega) ho
    simp only [argsFrom, List.map_cons]
    rw [b1, put_argsFrom a4 (by omega) b2]
theorem put_args {y : Nat} (hy : y < t.length) (ho : y < p ∨ fin f t p ≤ y) : args f (putAt t p (fin f t p) u) (mv p (fin f t p) u.length y) = (args f t y).map (mv p (fin f t p) u.length) := by
  obtain ⟨a1, a2, a3, a4⟩ := args_start h hy
  have hf := fin_of h hp
  unfold args
  rw [put_at h hp hu ho]
  have e : mv p (fin f t p) u.length y + 1 = mv p (fin f t p) u.length (y + 1) := by
    unfold mv
    rcases ho with ho | ho
    · rw [if_pos (by omega), if_pos (by omega)]
    · rw [if_neg (by omega), if_neg (by omega)]; omega
  rw [e]
  exact put_argsFrom h hp hu a2 (by omega) (by omega)
/-- A place apart from the part keeps its term. -/
theorem put_apart {y : Nat} (hy : y < t.length) (ho : fin f t y ≤ p ∨ fin f t p ≤ y) : sub f (putAt t p (fin f t p) u) (mv p (fin f t p) u.length y) = sub f t y := by
  have hg := fin_of h hy
  have hf := fin_of h hp
  rcases ho with ho | ho
  · have em : mv p (fin f t p) u.length y = y := if_pos (by omega)
    have e1 := (put_fin_at h hp hu hy (.inl (by omega))).1
    rw [em] at e1 ⊢
    have e2 : mv p (fin f t p) u.length (fin f t y) = fin f t y := if_pos ho
    rw [e2] at e1
    conv => lhs; unfold sub
    rw [e1, put_left h hp hu (by omega)]
    unfold sub
    rw [List.take_append_of_le_length (by rw [List.length_take, List.length_drop]; omega), List.take_take]
    congr 1
    omega
  · have e1 := (put_fin_at h hp hu hy (.inr ho)).1
    conv => lhs; unfold sub
    rw [e1, put_right h hp hu ho]
    unfold sub
    congr 1
    unfold mv
    rw [if_neg (by omega), if_neg (by omega)]
    omega
end
end Pl
theorem getD_map_mv {g : Nat → Nat} {l : List Nat} {i : Nat} (hi : i < l.length) : (l.map g).getD i 0 = g (l.getD i 0) := by
  simp [List.getD_eq_getElem?_getD, hi]
/-- The path to a place apart from the part leads there still. -/
theorem put_goTo {ar t u : List Int} (h : Pl.run (Pl.ari ar) 1 t = some t.length) {p : Nat} (hp : p < t.length) (hu : Pl.run (Pl.ari ar) 1 u = some u.length) {x : Nat} (hx : x < t.length) (ha : ¬ (p ≤ x ∧ x < Pl.fin (Pl.ari ar) t p)) :
    ∀ (k c : Nat), c < t.length → c ≤ x → x < Pl.fin (Pl.ari ar) t c → x - c ≤ k → (c < p ∨ Pl.fin (Pl.ari ar) t p ≤ c) →
      goTo ar (putAt t p (Pl.fin (Pl.ari ar) t p) u) (nats (Pl.pathF (Pl.ari ar) t x k c)) (Pl.mv p (Pl.fin (Pl.ari ar) t p) u.length c) = (Pl.mv p (Pl.fin (Pl.ari ar) t p) u.length x : Nat)
  | 0, c, _, h1, _, hk, _ => by
    obtain rfl : c = x := by omega
    simp [Pl.pathF, nats, goTo]
  | k + 1, c, hc, h1, h2, hk, ho => by
    by_cases hcx : c = x
    · subst hcx; rw [Pl.pathF_here]; simp [nats, goTo]
    · obtain ⟨j, q, g2, g3, g4, g5, g6, g7, g8, g9, g10⟩ := Pl.ancF_step h hc (by omega) h2
      rw [g9]
      show goTo ar _ ((j : Int) :: nats (Pl.pathF (Pl.ari ar) t x k q)) _ = _
      have e := Pl.put_args h hp hu hc ho
      have hq : q < p ∨ Pl.fin (Pl.ari ar) t p ≤ q := by
        rcases Nat.lt_or_ge q p with hlt | hge
        · exact .inl hlt
        · right
          rcases Nat.lt_or_ge q (Pl.fin (Pl.ari ar) t p) with hlt2 | hge2
          · exfalso
            obtain ⟨d, rfl⟩ : ∃ d, q = p + d := ⟨q - p, by omega⟩
            have := (Pl.sub_drop h hp (q := d) hlt2).2
            omega
          · exact hge2
      rw [goTo, e, List.length_map, if_pos (by omega), Int.toNat_natCast, getD_map_mv g6, g7]
      exact put_goTo h hp hu hx ha k q g5 g3 g4 (by omega) hq
end Go.Proofs.Ytihgolhpdnoooaa
