/- Plain: paths and depth. -/
import Derived.Test.YtihgolhpdnoooaaLoc
import Derived.Test.YtihgolhpdnoooaaPlaceOf
import Derived.Test.YtihgolhpdnoooaaAbove
import Derived.Test.YtihgolhpdnoooaaDeep
namespace Go.Proofs.Ytihgolhpdnoooaa
set_option linter.unusedVariables false
namespace Pl
/-- The places above a place, from p on. -/
def ancF (f : Int → Int) (t : List Int) (x : Nat) : Nat → Nat → List Nat
  | 0, _ => []
  | k + 1, p => if p = x then [] else match pick f t x (args f t p) 0 with
    | none => []
    | some (_, q) => p :: ancF f t x k q
theorem ancF_here {f : Int → Int} {t : List Int} (x k : Nat) : ancF f t x k x = [] := by cases k <;> simp [ancF]
theorem ancF_len {f : Int → Int} {t : List Int} (x : Nat) : ∀ (k p : Nat), (ancF f t x k p).length = (pathF f t x k p).length
  | 0, _ => rfl
  | k + 1, p => by
    unfold ancF pathF
    by_cases h : p = x
    · rw [if_pos h, if_pos h]
    · rw [if_neg h, if_neg h]
      cases pick f t x (args f t p) 0 with
      | none => rfl
      | some iq => simp [ancF_len x k iq.2]
theorem argsFrom_gap {f : Int → Int} {t : List Int} (h : run f 1 t = some t.length) : ∀ {c s j : Nat}, run f c (t.drop s) = some j → s + j ≤ t.length → ∀ q ∈ argsFrom f t c s, ∀ y, s ≤ y → y < q → fin f t y ≤ q
  | 0, s, j, _, _, q, hq, _, _, _ => by simp [argsFrom] at hq
  | c + 1, s, j, hr, hl, q, hq, y, h1, h2 => by
    obtain ⟨a1, a2, a3, a4⟩ := args_next hr hl
    simp only [argsFrom, List.mem_cons] at hq
    rcases hq with rfl | hq
    · omega
    · have hm := argsFrom_mem a4 (by omega) q hq
      rcases Nat.lt_or_ge y (fin f t s) with hlt | hge
      · obtain ⟨d, rfl⟩ : ∃ d, y = s + d := ⟨y - s, by omega⟩
        have := (sub_drop h (p := s) (by omega) (q := d) hlt).2
        omega
      · exact argsFrom_gap h a4 (by omega) q hq y hge h2
theorem args_gap {f : Int → Int} {t : List Int} (h : run f 1 t = some t.length) {p : Nat} (hp : p < t.length) {q y : Nat} (hq : q ∈ args f t p) (h1 : p < y) (h2 : y < q) : fin f t y ≤ q := by
  obtain ⟨a1, a2, a3, a4⟩ := args_start h hp
  exact argsFrom_gap h a2 (by omega) q hq y h1 h2
theorem getD_mem_nat {l : List Nat} {i : Nat} (h : i < l.length) : l.getD i 0 ∈ l := by
  rw [List.getD_eq_getElem?_getD, List.getElem?_eq_getElem h, Option.getD_some]; exact List.getElem_mem h
theorem ancF_step {f : Int → Int} {t : List Int} (h : run f 1 t = some t.length) {x p : Nat} (hp : p < t.length) (h1 : p < x) (h2 : x < fin f t p) :
    ∃ i q, p < q ∧ q ≤ x ∧ x < fin f t q ∧ q < t.length ∧ i < (args f t p).length ∧ (args f t p).getD i 0 = q ∧ q ∈ args f t p ∧
      (∀ k, pathF f t x (k + 1) p = i :: pathF f t x k q) ∧ (∀ k, ancF f t x (k + 1) p = p :: ancF f t x k q) := by
  obtain ⟨i, q, g1, g2, g3, g4, g5, g6, g7, g8⟩ := pathF_step h hp h1 h2
  exact ⟨i, q, g2, g3, g4, g5, g6, g7, by rw [← g7]; exact getD_mem_nat g6, g8, fun k => by rw [ancF, if_neg (by omega), g1]⟩
/-- The places that hold a place, below it, are those above it. -/
theorem anc_filter {f : Int → Int} {t : List Int} (h : run f 1 t = some t.length) {x : Nat} : ∀ (k p : Nat), p < t.length → p ≤ x → x < fin f t p → x - p ≤ k → (List.range' p (x - p)).filter (fun y => holds f t y x) = ancF f t x k p
  | 0, p, _, h1, _, hk => by
    obtain rfl : p = x := by omega
    simp [ancF]
  | k + 1, p, hp, h1, h2, hk => by
    by_cases hpx : p = x
    · subst hpx; rw [ancF_here]; simp
    · obtain ⟨i, q, g2, g3, g4, g5, g6, g7, g8, g9, g10⟩ := ancF_step h hp (by omega) h2
      rw [g10, ← anc_filter h k q g5 g3 g4 (by omega)]
      have e : List.range' p (x - p) = p :: (List.range' (p + 1) (q - p - 1) ++ List.range' q (x - q)) := by
        rw [show x - p = (x - p - 1) + 1 by omega, List.range'_succ]
        congr 1
        rw [show x - p - 1 = (q - p - 1) + (x - q) by omega, ← List.range'_append_1]
        congr 2
        omega
      rw [e, List.filter_cons, if_pos (by simp [holds]; omega), List.filter_append]
      have hmid : (List.range' (p + 1) (q - p - 1)).filter (fun y => holds f t y x) = [] := by
        rw [List.filter_eq_nil_iff]
        intro y hy
        rw [List.mem_range'_1] at hy
        have := args_gap h hp g8 (y := y) (by omega) (by omega)
        simp [holds]; omega
      rw [hmid]; simp
end Pl
/-- Along a path. -/
theorem goTo_take {ar t : List Int} (h : Pl.run (Pl.ari ar) 1 t = some t.length) {x : Nat} : ∀ (k p i : Nat), p < t.length → p ≤ x → x < Pl.fin (Pl.ari ar) t p → x - p ≤ k → i ≤ (Pl.pathF (Pl.ari ar) t x k p).length →
    goTo ar t (nats ((Pl.pathF (Pl.ari ar) t x k p).take i)) p = ((Pl.ancF (Pl.ari ar) t x k p ++ [x]).getD i 0 : Nat)
  | 0, p, i, _, h1, _, hk, hi => by
    obtain rfl : p = x := by omega
    simp [Pl.pathF] at hi
    subst hi
    simp [Pl.pathF, Pl.ancF, nats, goTo]
  | k + 1, p, i, hp, h1, h2, hk, hi => by
    by_cases hpx : p = x
    · subst hpx
      rw [Pl.pathF_here] at hi ⊢
      simp at hi
      subst hi
      rw [Pl.ancF_here]; simp [nats, goTo]
    · obtain ⟨j, q, g2, g3, g4, g5, g6, g7, g8, g9, g10⟩ := Pl.ancF_step h hp (by omega) h2
      rw [g9] at hi ⊢
      rw [g10]
      cases i with
      | zero => simp [nats, goTo]
      | succ i =>
        rw [List.take_succ_cons]
        show goTo ar t ((j : Int) :: nats ((Pl.pathF (Pl.ari ar) t x k q).take i)) p = _
        rw [goTo, if_pos (by omega), Int.toNat_natCast, g7, goTo_take h k q i g5 g3 g4 (by omega) (by simpa using hi)]
        simp
theorem path_goTo {ar t : List Int} (h : Pl.termOk ar t = true) {x : Nat} (hx : x < t.length) {i : Nat} (hi : i ≤ (Pl.path (Pl.ari ar) t x).length) :
    goTo ar t (nats ((Pl.path (Pl.ari ar) t x).take i)) 0 = ((upto (fun k => Pl.holds (Pl.ari ar) t k x) x ++ [x]).getD i 0 : Nat) := by
  obtain ⟨_, hl, hr⟩ := Pl.termOk_iff.1 h
  have h0 : Pl.fin (Pl.ari ar) t 0 = t.length := by unfold Pl.fin; rw [List.drop_zero, hr]; simp
  have h1 := Pl.anc_filter hr (x := x) t.length 0 (by omega) (by omega) (by omega) (by omega)
  unfold upto
  rw [Nat.sub_zero, ← List.range_eq_range'] at h1
  rw [h1]
  exact goTo_take hr t.length 0 i (by omega) (by omega) (by omega) (by omega) hi
theorem above_len {ar t : List Int} (h : Pl.termOk ar t = true) {x : Nat} (hx : x < t.length) : (upto (fun k => Pl.holds (Pl.ari ar) t k x) x).length = (Pl.path (Pl.ari ar) t x).length := by
  obtain ⟨_, hl, hr⟩ := Pl.termOk_iff.1 h
  have h0 : Pl.fin (Pl.ari ar) t 0 = t.length := by unfold Pl.fin; rw [List.drop_zero, hr]; simp
  have h1 := Pl.anc_filter hr (x := x) t.length 0 (by omega) (by omega) (by omega) (by omega)
  unfold upto
  rw [Nat.sub_zero, ← List.range_eq_range'] at h1
  rw [h1, Pl.ancF_len]; rfl
namespace Pl
theorem foldl_max_le {g : Nat → Nat} : ∀ (l : List Nat) (b : Nat), b ≤ l.foldl (fun d q => max d (g q)) b ∧ ∀ q ∈ l, g q ≤ l.foldl (fun d q => max d (g q)) b
  | [], b => ⟨Nat.le_refl _, fun q hq => by cases hq⟩
  | x :: l, b => by
    obtain ⟨h1, h2⟩ := foldl_max_le (g := g) l (max b (g x))
    rw [List.foldl_cons]
    refine ⟨by omega, fun q hq => ?_⟩
    rcases List.mem_cons.1 hq with rfl | hq
    · omega
    · exact h2 q hq
theorem foldl_max_at {g : Nat → Nat} : ∀ (l : List Nat) (b : Nat), l.foldl (fun d q => max d (g q)) b = b ∨ ∃ q ∈ l, l.foldl (fun d q => max d (g q)) b = g q
  | [], b => .inl rfl
  | x :: l, b => by
    rw [List.foldl_cons]
    rcases foldl_max_at (g := g) l (max b (g x)) with h | ⟨q, hq, h⟩
    · rcases Nat.le_total (g x) b with h1 | h1
      · left; rw [h]; omega
      · right; exact ⟨x, by simp, by rw [h]; omega⟩
    · exact .inr ⟨q, by simp [hq], h⟩
/-- No path is longer than the depth allows. -/
theorem path_depth {f : Int → Int} {t : List Int} (h : run f 1 t = some t.length) {x : Nat} : ∀ (k p : Nat), p < t.length → p ≤ x → x < fin f t p → x - p ≤ k → (pathF f t x k p).length + 1 ≤ depth f t t.length p
  | 0, p, hp, h1, h2, hk => by rw [depth_args h hp]; simp [pathF]
  | k + 1, p, hp, h1, h2, hk => by
    by_cases hpx : p = x
    · subst hpx; rw [pathF_here, depth_args h hp]; simp
    · obtain ⟨i, q, g2, g3, g4, g5, g6, g7, g8, g9, g10⟩ := ancF_step h hp (by omega) h2
      have ih := path_depth h k q g5 g3 g4 (by omega)
      have h5 := (foldl_max_le (g := depth f t t.length) (args f t p) 0).2 q g8
      rw [g9, depth_args h hp, List.length_cons]
      omega
/-- Some path is as long as the depth allows. -/
theorem depth_path {f : Int → Int} {t : List Int} (h : run f 1 t = some t.length) : ∀ (n p : Nat), p < t.length → fin f t p - p ≤ n → ∃ x, p ≤ x ∧ x < fin f t p ∧ ∀ k, x - p ≤ k → (pathF f t x k p).length + 1 = depth f t t.length p
  | 0, p, hp, hn => by have := (fin_of h hp).2.1; omega
  | n + 1, p, hp, hn => by
    have hf := fin_of h hp
    rw [depth_args h hp]
    rcases foldl_max_at (g := depth f t t.length) (args f t p) 0 with h0 | ⟨q, hq, h0⟩
    · refine ⟨p, Nat.le_refl _, hf.2.1, fun k hk => ?_⟩
      rw [pathF_here, h0]; rfl
    · have hm := args_mem h hp q hq
      obtain ⟨x, x1, x2, x3⟩ := depth_path h n q hm.2.2.1 (by omega)
      refine ⟨x, by omega, by omega, fun k hk => ?_⟩
      obtain ⟨k, rfl⟩ : ∃ k', k = k' + 1 := ⟨k - 1, by omega⟩
      obtain ⟨i, q', g2, g3, g4, g5, g6, g7, g8, g9, g10⟩ := ancF_step h hp (x := x) (by omega) (by omega)
      have hqq : q' = q := by
        rcases Nat.lt_trichotomy q' q with hlt | he | hgt
        · have := args_gap h hp hq (y := q') (by omega) hlt; omega
        · exact he
        · have := args_gap h hp g8 (y := q) (by omega) hgt; omega
      subst hqq
      rw [g9, h0, List.length_cons, x3 k (by omega)]
end Pl
theorem deep_max (L : Nat → Nat) : ∀ (k i : Nat), i < k → L i ≤ L (deep L k)
  | k + 1, i, hi => by
    unfold deep
    by_cases h : L (deep L k) < L k
    · rw [if_pos h]
      rcases Nat.lt_or_ge i k with hlt | hge
      · have := deep_max L k i hlt; omega
      · obtain rfl : i = k := by omega
        exact Nat.le_refl _
    · rw [if_neg h]
      rcases Nat.lt_or_ge i k with hlt | hge
      · exact deep_max L k i hlt
      · obtain rfl : i = k := by omega
        omega
theorem deep_lt (L : Nat → Nat) : ∀ (k : Nat), 1 ≤ k → deep L k < k
  | k + 1, _ => by
    unfold deep
    split
    · omega
    · cases k with
      | zero => simp [deep]
      | succ k => have := deep_lt L (k + 1) (by omega); omega
/-- The longest path is one shorter than the depth. -/
theorem deepest_depth {ar t : List Int} (h : Pl.termOk ar t = true) : (Pl.path (Pl.ari ar) t (deep (fun p => (Pl.path (Pl.ari ar) t p).length) t.length)).length + 1 = Pl.depth (Pl.ari ar) t t.length 0 := by
  obtain ⟨_, hl, hr⟩ := Pl.termOk_iff.1 h
  have h0 : Pl.fin (Pl.ari ar) t 0 = t.length := by unfold Pl.fin; rw [List.drop_zero, hr]; simp
  have hd := deep_lt (fun p => (Pl.path (Pl.ari ar) t p).length) t.length hl.1
  obtain ⟨x, x1, x2, x3⟩ := Pl.depth_path hr t.length 0 (by omega) (by omega)
  have h1 := deep_max (fun p => (Pl.path (Pl.ari ar) t p).length) t.length x (by omega)
  have h2 := x3 t.length (by omega)
  have h3 := Pl.path_depth hr t.length 0 (x := deep (fun p => (Pl.path (Pl.ari ar) t p).length) t.length) (by omega) (by omega) (by omega) (by omega)
  have h4 : (Pl.path (Pl.ari ar) t x).length ≤ (Pl.path (Pl.ari ar) t (deep (fun p => (Pl.path (Pl.ari ar) t p).length) t.length)).length := h1
  unfold Pl.path at *
  omega
end Go.Proofs.Ytihgolhpdnoooaa
