/- Plain: composed substitutions. -/
import Derived.Test.YtihgolhpdnoooaaComp
import Derived.Test.YtihgolhpdnoooaaFill2
import Derived.Test.YtihgolhpdnoooaaSubstOk
namespace Go.Proofs.Ytihgolhpdnoooaa
set_option linter.unusedVariables false
theorem cl1_cl1 (i : Nat) (t : List Int) : cl1 i (cl1 i t) = cl1 i t := by
  by_cases h : t = [-1 - (i : Int)]
  · rw [h, cl1_self, cl1_nil]
  · rw [cl1_other h, cl1_other h]
theorem gives_plain (x : List (List Int)) (i : Nat) : gives (plainU x) i = gives x i :=
  gives_cl1.2 (by rw [show hasV (plainU x) i = cl1 i (hasV x i) from plainU_get x i, cl1_cl1])
theorem plainU_twice (x : List (List Int)) : plainU (plainU x) = plainU x :=
  plainU_ext fun i => by rw [show hasV (plainU x) i = cl1 i (hasV x i) from plainU_get x i, cl1_cl1]
theorem gives_pos (x : List (List Int)) (i : Nat) : 1 ≤ (gives x i).length := by
  unfold gives; split
  · simp
  · omega
theorem fl_pos (x : List (List Int)) (v : Int) : 1 ≤ (fl x v).length := by
  unfold fl; split
  · exact gives_pos _ _
  · simp
theorem flTo_all (x : List (List Int)) (t : List Int) : flTo x t t.length = t.flatMap (fl x) := by unfold flTo; rw [List.take_length]
theorem flatMap_pos {σ : Int → List Int} (h : ∀ v, 1 ≤ (σ v).length) : ∀ {t : List Int}, 1 ≤ t.length → 1 ≤ (t.flatMap σ).length
  | x :: r, _ => by rw [List.flatMap_cons, List.length_append]; have := h x; omega
theorem cmp1_flat {x y : List (List Int)} {i : Nat} (h : ok1 x y i = true) : cmp1 x y i = (gives x i).flatMap (fl y) := by
  unfold ok1 at h; unfold cmp1; rw [fillL_yes h, flTo_all]
theorem cmp1_pos {x y : List (List Int)} {i : Nat} (h : ok1 x y i = true) : 1 ≤ (cmp1 x y i).length := by
  rw [cmp1_flat h]; exact flatMap_pos (fl_pos y) (gives_pos x i)
theorem cmpOk_at {x y : List (List Int)} {k i : Nat} (h : cmpOk x y k = true) (hi : i < k) : ok1 x y i = true := by
  unfold cmpOk at h; rw [List.all_eq_true] at h; exact h i (by simpa using hi)
theorem gives_cmp {x y : List (List Int)} {i : Nat} (h : cmpOk x y 24 = true) (hi : i < 24) : gives (plainU (cmpR x y 24)) i = cmp1 x y i := by
  rw [gives_plain]
  have h1 : hasV (cmpR x y 24) i = cmp1 x y i := by rw [cmpR_has, if_pos hi]
  rw [gives_yes (by rw [h1]; have := cmp1_pos (cmpOk_at h hi); omega), h1]
theorem fl_cmp {x y : List (List Int)} (h : cmpOk x y 24 = true) {v : Int} (hv : -24 ≤ v) : fl (plainU (cmpR x y 24)) v = (fl x v).flatMap (fl y) := by
  unfold fl
  by_cases h0 : v < 0
  · rw [if_pos h0, if_pos h0, gives_cmp h (by omega), cmp1_flat (cmpOk_at h (by omega))]
    rfl
  · rw [if_neg h0, if_neg h0, List.flatMap_cons, List.flatMap_nil, List.append_nil, if_neg h0]
theorem flatMap_ext {σ τ : Int → List Int} : ∀ {t : List Int}, (∀ v ∈ t, σ v = τ v) → t.flatMap σ = t.flatMap τ
  | [], _ => rfl
  | x :: r, h => by rw [List.flatMap_cons, List.flatMap_cons, h x (by simp), flatMap_ext (fun v hv => h v (by simp [hv]))]
/-- One after the other is the composition. -/
theorem fill_cmp {x y : List (List Int)} {t : List Int} (h : cmpOk x y 24 = true) (ht : ∀ v ∈ t, -24 ≤ v) (h1 : fillOk x t t.length = true) :
    flTo (plainU (cmpR x y 24)) t t.length = flTo y (fillL x t t.length) (fillL x t t.length).length := by
  rw [flTo_all, flTo_all, fillL_yes h1, flTo_all, List.flatMap_assoc]
  exact flatMap_ext fun v hv => fl_cmp h (ht v hv)
theorem run_app {f : Int → Int} : ∀ {l : List Int} {m j : Nat} (r : List Int), Pl.run f m l = some j → Pl.run f m (l ++ r) = some j
  | [], 0, j, r, h => by rw [Pl.run_zero] at h ⊢; exact h
  | [], m + 1, j, r, h => by simp [Pl.run] at h
  | x :: xs, 0, j, r, h => by rw [Pl.run_zero] at h ⊢; exact h
  | x :: xs, m + 1, j, r, h => by
    simp only [List.cons_append, Pl.run] at h ⊢
    by_cases h0 : f x < 0
    · rw [if_pos h0] at h; cases h
    · rw [if_neg h0] at h ⊢
      simp only [Option.map_eq_some_iff] at h ⊢
      obtain ⟨i, hi, rfl⟩ := h
      exact ⟨i, run_app r hi, rfl⟩
/-- Terms put for variables: whole terms stay whole terms. -/
theorem run_fill {f : Int → Int} {σ : Int → List Int} (hs : ∀ v, ¬ v < 0 → σ v = [v]) (hv : ∀ v, v < 0 → 0 ≤ f v → f v = 0) :
    ∀ {t : List Int} {m : Nat}, Pl.run f m t = some t.length → (∀ v ∈ t, v < 0 → Pl.run f 1 (σ v) = some (σ v).length) → Pl.run f m (t.flatMap σ) = some (t.flatMap σ).length
  | [], m, h, _ => by simpa using h
  | x :: r, 0, h, _ => by rw [Pl.run_zero] at h; simp at h
  | x :: r, m + 1, h, ht => by
    simp only [Pl.run] at h
    by_cases h0 : f x < 0
    · rw [if_pos h0] at h; cases h
    · rw [if_neg h0] at h
      simp only [Option.map_eq_some_iff, List.length_cons] at h
      obtain ⟨j, hj, hjl⟩ := h
      obtain rfl : j = r.length := by omega
      rw [List.flatMap_cons]
      by_cases hx : x < 0
      · have hfx := hv x hx (by omega)
        rw [hfx] at hj
        simp only [Int.toNat_zero, Nat.add_zero] at hj
        have ih := run_fill hs hv hj (fun v hv2 => ht v (by simp [hv2]))
        rw [show m + 1 = 1 + m by omega, Pl.run_add, run_app _ (ht x (by simp) hx)]
        simp only [Option.bind_some]
        rw [List.drop_left, ih, List.length_append]
        rfl
      · rw [hs x hx]
        have ih := run_fill hs hv hj (fun v hv2 => ht v (by simp [hv2]))
        simp only [List.singleton_append, Pl.run]
        rw [if_neg h0, ih]
        simp
theorem ari_neg {ar : List Int} (v : Int) (h : v < 0) (h0 : 0 ≤ Pl.ari ar v) : Pl.ari ar v = 0 := by
  unfold Pl.ari at h0 ⊢
  rw [if_pos h] at h0 ⊢
  split
  · rename_i h1; rw [if_pos h1] at h0; omega
  · rfl
theorem gives_term {xs : List Int} {x : List (List Int)} (h : substOk xs x = true) {i : Nat} (hi : i < 24) : Pl.termOk xs (gives x i) = true := by
  obtain ⟨hsig, _, hrow⟩ := substOk_iff.1 h
  by_cases h0 : (hasV x i).length = 0
  · rw [gives_no h0]
    refine Pl.termOk_iff.2 ⟨hsig, by simp, ?_⟩
    have ha : Pl.ari xs (-1 - (i : Int)) = 0 := by unfold Pl.ari; rw [if_pos (by omega), if_neg (by omega)]
    simp [Pl.run, ha]
  · rw [gives_yes h0]
    by_cases hix : i < x.length
    · rcases hrow i hix with h1 | h1
      · exact absurd h1 h0
      · exact h1
    · exact absurd (by rw [hasV_none (by omega)]; rfl) h0
/-- A right term filled with right terms is a right term, if it is not too long. -/
theorem fill_term {xs : List Int} {x : List (List Int)} {t : List Int} (h : substOk xs x = true) (ht : Pl.termOk xs t = true) (h1 : fillOk x t t.length = true) : Pl.termOk xs (fillL x t t.length) = true := by
  obtain ⟨hsig, hlen, hrun⟩ := Pl.termOk_iff.1 ht
  rw [fillL_yes h1, flTo_all]
  have h2 : (t.flatMap (fl x)).length ≤ 60 := by rw [← flTo_all]; simpa [fillOk] using h1
  refine Pl.termOk_iff.2 ⟨hsig, ⟨flatMap_pos (fl_pos x) hlen.1, h2⟩, ?_⟩
  refine run_fill (f := Pl.ari xs) (σ := fl x) (fun v hv => if_neg hv) (fun v hv h0 => ari_neg v hv h0) hrun fun v hv h0 => ?_
  have hb := Pl.termOk_bd ht v hv
  have : fl x v = gives x (-1 - v).toNat := if_pos h0
  rw [this]
  exact (Pl.termOk_iff.1 (gives_term h (by omega))).2.2
theorem plainU_ok {xs : List Int} {x : List (List Int)} (h : substOk xs x = true) : substOk xs (plainU x) = true := by
  obtain ⟨hsig, hl, hrow⟩ := substOk_iff.1 h
  refine substOk_iff.2 ⟨hsig, by have := plainU_len x; omega, fun k hk => ?_⟩
  rw [plainU_get]
  have hkx : k < x.length := by have := plainU_len x; omega
  unfold cl1
  split
  · exact .inl rfl
  · exact hrow k hkx
theorem cmpU_ok {xs : List Int} {x y : List (List Int)} (hx : substOk xs x = true) (hy : substOk xs y = true) (h : cmpOk x y 24 = true) : substOk xs (plainU (cmpR x y 24)) = true := by
  obtain ⟨hsig, _, _⟩ := substOk_iff.1 hx
  refine substOk_iff.2 ⟨hsig, by have := plainU_len (cmpR x y 24); rw [cmpR_len] at this; omega, fun k hk => ?_⟩
  have hk24 : k < 24 := by have := plainU_len (cmpR x y 24); rw [cmpR_len] at this; omega
  rw [plainU_get, cmpR_has, if_pos hk24]
  unfold cl1
  split
  · exact .inl rfl
  · right
    exact fill_term hy (gives_term hx hk24) (cmpOk_at h hk24)
end Go.Proofs.Ytihgolhpdnoooaa
