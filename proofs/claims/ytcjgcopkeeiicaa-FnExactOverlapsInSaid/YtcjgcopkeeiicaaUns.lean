/- Plain: right terms as terms of the solver. -/
import Derived.Test.YtcjgcopkeeiicaaUnq
import Derived.Test.YtcjgcopkeeiicaaWide
import Derived.Test.YtcjgcopkeeiicaaShift
namespace Go.Proofs.Ytcjgcopkeeiicaa
set_option linter.unusedVariables false

theorem tm_ok {xs t : List Int} (h : Pl.termOk xs t = true) : Un.Tm (Pl.nxt xs) t := by
  have h3 := (Pl.termOk_iff.1 h).2.2
  unfold Un.Tm
  rw [Pl.run_congr (g := Pl.ari xs) 1 fun x hx => Pl.nxt_ari (Pl.termOk_ge h x hx).1]
  exact h3
theorem wt_ok {xs t : List Int} (h : Pl.termOk xs t = true) : Un.WT (Pl.nxt xs) t :=
  ⟨tm_ok h, fun v hv h0 => by have := (Pl.termOk_ge h v hv).1; have := Un.ix_neg h0; omega⟩
theorem run_map {f : Int → Int} {g : Int → Int} (hg : ∀ x, f (g x) = f x) : ∀ (l : List Int) (m : Nat), Pl.run f m (l.map g) = Pl.run f m l
  | [], 0 => rfl
  | [], m + 1 => rfl
  | x :: xs, 0 => by simp [Pl.run_zero]
  | x :: xs, m + 1 => by
    simp only [List.map_cons, Pl.run, hg, run_map hg xs]
theorem nxt_sh (xs : List Int) (x : Int) : Pl.nxt xs (sh 24 x) = Pl.nxt xs x := by
  by_cases h : x < 0
  · rw [sh_var h, nxt_ar xs _ (by omega), nxt_ar xs _ h]
  · rw [sh_sym h]
theorem wt_away {xs t : List Int} (h : Pl.termOk xs t = true) : Un.WT (Pl.nxt xs) (t.map (sh 24)) := by
  refine ⟨?_, fun v hv h0 => ?_⟩
  · unfold Un.Tm
    rw [run_map (nxt_sh xs), List.length_map]
    exact tm_ok h
  · obtain ⟨x, hx, rfl⟩ := List.mem_map.1 hv
    have h1 := (Pl.termOk_ge h x hx).1
    by_cases hx0 : x < 0
    · rw [sh_var hx0] at h0 ⊢
      have := Un.ix_neg h0
      omega
    · rw [sh_sym hx0] at h0; omega
theorem wt_sub {f : Int → Int} {t : List Int} (h : Un.WT f t) {p : Nat} (hp : p < t.length) : Un.WT f (Pl.sub f t p) :=
  ⟨Pl.sub_run h.1 hp, fun v hv h0 => h.2 v (Un.sub_mem hv) h0⟩
end Go.Proofs.Ytcjgcopkeeiicaa
