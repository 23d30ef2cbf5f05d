/- Plain: unification by a stack of equations. -/
import Derived.Test.YtcjgcopkeeiicaaUnp
import Derived.Test.YtcjgcopkeeiicaaWideS
import Derived.Test.YtcjgcopkeeiicaaShift
namespace Go.Proofs.Ytcjgcopkeeiicaa.Un
set_option linter.unusedVariables false

theorem Ro.free {B : Bd} : ∀ {k : Nat} {t u : List Int}, RoN B k t u → hd u < 0 → B (ix (hd u)) = []
  | 0, t, u, h, h0 => by
    obtain ⟨rfl, h⟩ := h
    exact Classical.byContradiction fun hb => h ⟨h0, hb⟩
  | k + 1, t, u, h, h0 => Ro.free h.2.2 h0
/-- What holds of the stacks. -/
def Inv (f : Int → Int) (B : Bd) (L R : List (List Int)) : Prop := (∃ σ rk, Good f 48 B σ rk) ∧ L.length = R.length ∧ (∀ u ∈ L, WT f u) ∧ ∀ u ∈ R, WT f u
/-- One round. -/
def Nx (f : Int → Int) (B : Bd) (L R : List (List Int)) (B' : Bd) (L' R' : List (List Int)) : Prop :=
  ∃ L0 a R0 b u v, L = L0 ++ [a] ∧ R = R0 ++ [b] ∧ Ro B a u ∧ Ro B b v ∧
    ((hd u = hd v ∧ hd u < 0 ∧ B' = B ∧ L' = L0 ∧ R' = R0) ∨ (hd u ≠ hd v ∧ hd u < 0 ∧ B' = put B (ix (hd u)) v ∧ L' = L0 ∧ R' = R0) ∨
     (¬ hd u < 0 ∧ hd v < 0 ∧ B' = put B (ix (hd v)) u ∧ L' = L0 ∧ R' = R0) ∨ (¬ hd u < 0 ∧ hd u = hd v ∧ B' = B ∧ L' = L0 ++ parts f u ∧ R' = R0 ++ parts f v))
theorem Nx.det {f : Int → Int} {B : Bd} {L R : List (List Int)} {B1 B2 : Bd} {L1 R1 L2 R2 : List (List Int)} (h : Nx f B L R B1 L1 R1) (h' : Nx f B L R B2 L2 R2) : B1 = B2 ∧ L1 = L2 ∧ R1 = R2 := by
  obtain ⟨L0, a, R0, b, u, v, e1, e2, r1, r2, hc⟩ := h
  obtain ⟨L0', a', R0', b', u', v', e1', e2', r1', r2', hc'⟩ := h'
  subst e1 e2
  obtain ⟨rfl, h1⟩ := List.append_inj' e1' rfl
  obtain ⟨rfl, h2⟩ := List.append_inj' e2' rfl
  injection h1 with h1
  injection h2 with h2
  subst h1 h2
  obtain rfl := r1.det r1'
  obtain rfl := r2.det r2'
  rcases hc with ⟨p1, p2, rfl, rfl, rfl⟩ | ⟨p1, p2, rfl, rfl, rfl⟩ | ⟨p1, p2, rfl, rfl, rfl⟩ | ⟨p1, p2, rfl, rfl, rfl⟩ <;>
  rcases hc' with ⟨q1, q2, rfl, rfl, rfl⟩ | ⟨q1, q2, rfl, rfl, rfl⟩ | ⟨q1, q2, rfl, rfl, rfl⟩ | ⟨q1, q2, rfl, rfl, rfl⟩ <;>
  first | exact ⟨rfl, rfl, rfl⟩ | (exfalso; first | exact q1 p1 | exact p1 q1 | omega)
/-- So many rounds at most. -/
def Fu (f : Int → Int) : Nat → Bd → List (List Int) → List (List Int) → Prop
  | 0, B, L, R => ∀ B' L' R', Nx f B L R B' L' R' → Inv f B' L' R' → False
  | k + 1, B, L, R => ∀ B' L' R', Nx f B L R B' L' R' → Inv f B' L' R' → Fu f k B' L' R'
theorem wts_one (σ : Int → List Int) (u : List Int) : wts σ [u] = (ap σ u).length := by simp [wts]
theorem fu_ex {f : Int → Int} (hf : Ar f) : ∀ (N M : Nat) (B : Bd) (L R : List (List Int)) (σ : Int → List Int) (rk : Int → Nat), Good f 48 B σ rk → L.length = R.length → (∀ u ∈ L, WT f u) → (∀ u ∈ R, WT f u) → free 48 B = N → wts σ L = M → ∃ k, Fu f k B L R := by
  intro N
  induction N using Nat.strongRecOn with
  | ind N ihN =>
    intro M
    induction M using Nat.strongRecOn with
    | ind M ihM =>
      intro B L R σ rk g hl hL hR hN hM
      by_cases hx : ∃ B' L' R', Nx f B L R B' L' R' ∧ Inv f B' L' R'
      · obtain ⟨B', L', R', hnx, hinv⟩ := hx
        obtain ⟨k, hk⟩ : ∃ k, Fu f k B' L' R' := by
          obtain ⟨⟨σ', rk', g'⟩, hl', hL', hR'⟩ := hinv
          obtain ⟨L0, a, R0, b, u, v, e1, e2, ⟨k1, r1⟩, ⟨k2, r2⟩, hc⟩ := hnx
          subst e1 e2
          have ha := hL a (by simp)
          have hb := hR b (by simp)
          obtain ⟨k3, u', r3, wu, fu, eu⟩ := root_ex hf g ha
          obtain rfl := roN_det r1 r3
          obtain ⟨k4, v', r4, wv, fv, ev⟩ := root_ex hf g hb
          obtain rfl := roN_det r2 r4
          rw [wts_app, wts_one] at hM
          have h1 := wts_pos g.su ha
          rcases hc with ⟨p1, p2, rfl, rfl, rfl⟩ | ⟨p1, p2, rfl, rfl, rfl⟩ | ⟨p1, p2, rfl, rfl, rfl⟩ | ⟨p1, p2, rfl, rfl, rfl⟩
          · exact ihM _ (by omega) _ _ _ σ rk g hl' hL' hR' hN rfl
          · have := free_put (wu.ix p2) (fu p2) wv.ne
            exact ihN _ (by omega) _ _ _ _ σ' rk' g' hl' hL' hR' rfl rfl
          · have := free_put (wv.ix p2) (fv p2) wu.ne
            exact ihN _ (by omega) _ _ _ _ σ' rk' g' hl' hL' hR' rfl rfl
          · have h2 := parts_wts wu p1 σ
            rw [eu σ g.sol] at h2
            exact ihM _ (by rw [wts_app]; omega) _ _ _ σ rk g hl' hL' hR' hN rfl
        refine ⟨k + 1, fun B2 L2 R2 h2 hi2 => ?_⟩
        obtain ⟨rfl, rfl, rfl⟩ := hnx.det h2
        exact hk
      · exact ⟨0, fun B' L' R' h1 h2 => hx ⟨B', L', R', h1, h2⟩⟩
theorem Fu.next {f : Int → Int} {k : Nat} {B B' : Bd} {L R L' R' : List (List Int)} (h : Fu f k B L R) (h1 : Nx f B L R B' L' R') (h2 : Inv f B' L' R') : ∃ j, j < k ∧ Fu f j B' L' R' := by
  cases k with
  | zero => exact (h _ _ _ h1 h2).elim
  | succ k => exact ⟨k, by omega, h _ _ _ h1 h2⟩

/-- What the stacks still ask. -/
def Eqs (f : Int → Int) (B : Bd) (L R : List (List Int)) (s t : List Int) : Prop := ∀ τ, (Sol f τ B ∧ ∀ i, i < L.length → ap τ (gt L i) = ap τ (gt R i)) ↔ (Su f τ ∧ ap τ s = ap τ t)
theorem gt_snoc (L : List (List Int)) (a : List Int) (i : Nat) (h : i < L.length + 1) : gt (L ++ [a]) i = if i < L.length then gt L i else a := by
  unfold gt
  simp only [List.getD_eq_getElem?_getD]
  by_cases hk : i < L.length
  · rw [if_pos hk, List.getElem?_append_left hk]
  · rw [if_neg hk, List.getElem?_append_right (by omega), show i - L.length = 0 by omega]
    rfl
theorem gt_app {L M : List (List Int)} {i : Nat} : gt (L ++ M) i = if i < L.length then gt L i else gt M (i - L.length) := by
  unfold gt
  simp only [List.getD_eq_getElem?_getD]
  by_cases hk : i < L.length
  · rw [if_pos hk, List.getElem?_append_left hk]
  · rw [if_neg hk, List.getElem?_append_right (by omega)]
theorem all_snoc {L R : List (List Int)} {a b : List Int} (hl : L.length = R.length) (τ : Int → List Int) : (∀ i, i < (L ++ [a]).length → ap τ (gt (L ++ [a]) i) = ap τ (gt (R ++ [b]) i)) ↔ (∀ i, i < L.length → ap τ (gt L i) = ap τ (gt R i)) ∧ ap τ a = ap τ b := by
  rw [List.length_append, List.length_singleton]
  constructor
  · intro h
    refine ⟨fun i hi => ?_, ?_⟩
    · have := h i (by omega)
      rwa [gt_snoc _ _ _ (by omega), gt_snoc _ _ _ (by omega), if_pos hi, if_pos (by omega)] at this
    · have := h L.length (by omega)
      rwa [gt_snoc _ _ _ (by omega), gt_snoc _ _ _ (by omega), if_neg (by omega), if_neg (by omega)] at this
  · rintro ⟨h1, h2⟩ i hi
    rw [gt_snoc _ _ _ (by omega), gt_snoc _ _ _ (by omega)]
    by_cases h : i < L.length
    · rw [if_pos h, if_pos (by omega)]; exact h1 i h
    · rw [if_neg h, if_neg (by omega)]; exact h2
theorem Eqs.start {f : Int → Int} (s t : List Int) : Eqs f (fun _ => []) [s] [t] s t := by
  intro τ
  constructor
  · rintro ⟨h1, h2⟩; exact ⟨h1.1, h2 0 (by simp)⟩
  · rintro ⟨h1, h2⟩
    refine ⟨sol_zero h1, fun i hi => ?_⟩
    obtain rfl : i = 0 := by simpa using hi
    exact h2
theorem Eqs.step {f : Int → Int} {B B' : Bd} {L R : List (List Int)} {a b s t : List Int} (h : Eqs f B (L ++ [a]) (R ++ [b]) s t) (hl : L.length = R.length) (h' : Step f B B' a b) : Eqs f B' L R s t := by
  intro τ
  rw [← h τ, all_snoc hl, h'.2.1]
  constructor
  · rintro ⟨⟨a1, a2⟩, a3⟩; exact ⟨a1, a3, a2⟩
  · rintro ⟨a1, a3, a2⟩; exact ⟨⟨a1, a2⟩, a3⟩
theorem Eqs.clash {f : Int → Int} {B : Bd} {L R : List (List Int)} {a b s t : List Int} (h : Eqs f B (L ++ [a]) (R ++ [b]) s t) (hl : L.length = R.length) (h' : Clash f B a b) : ¬ Meets f s t := by
  rintro ⟨τ, h1, h2⟩
  have := (h τ).2 ⟨h1, h2⟩
  rw [all_snoc hl] at this
  exact h' τ this.1 this.2.2
theorem Eqs.parts {f : Int → Int} (hf : Ar f) {B : Bd} {L R : List (List Int)} {a b u v s t : List Int} (h : Eqs f B (L ++ [a]) (R ++ [b]) s t) (hl : L.length = R.length) (hu : WT f u) (hv : WT f v) (h0 : ¬ hd u < 0) (he : hd u = hd v)
    (eu : ∀ τ, Sol f τ B → ap τ u = ap τ a) (ev : ∀ τ, Sol f τ B → ap τ v = ap τ b) : Eqs f B (L ++ parts f u) (R ++ parts f v) s t := by
  intro τ
  rw [← h τ, all_snoc hl]
  have hp := parts_len2 (f := f) hu.1 hv.1 he
  refine and_congr_right fun hτ => ?_
  rw [← eu τ hτ, ← ev τ hτ, ap_heads hf hτ.1 hu.1 hv.1 h0 (by show ¬ hd v < 0; rw [← he]; exact h0)]
  constructor
  · intro h1
    refine ⟨fun i hi => ?_, he, fun i hi => ?_⟩
    · have := h1 i (by rw [List.length_append]; omega)
      rwa [gt_app, gt_app, if_pos hi, if_pos (by omega)] at this
    · have := h1 (L.length + i) (by rw [List.length_append]; omega)
      rw [gt_app, gt_app, if_neg (by omega), if_neg (by omega), ← hl, show L.length + i - L.length = i by omega] at this
      exact this
  · rintro ⟨h1, _, h2⟩ i hi
    rw [List.length_append] at hi
    rw [gt_app, gt_app]
    by_cases hk : i < L.length
    · rw [if_pos hk, if_pos (by omega)]; exact h1 i hk
    · rw [if_neg hk, if_neg (by omega), ← hl]; exact h2 (i - L.length) (by omega)
/-- The end: all is solved. -/
def Done (f : Int → Int) (B : Bd) (s t : List Int) : Prop := (∃ σ rk, Good f 48 B σ rk) ∧ ∀ τ, Sol f τ B ↔ Su f τ ∧ ap τ s = ap τ t
theorem Eqs.done {f : Int → Int} {B : Bd} {R : List (List Int)} {s t : List Int} (h : Eqs f B [] R s t) (g : ∃ σ rk, Good f 48 B σ rk) : Done f B s t :=
  ⟨g, fun τ => by rw [← h τ]; exact ⟨fun a => ⟨a, fun i hi => by simp at hi⟩, fun a => a.1⟩⟩
theorem Done.meets {f : Int → Int} {B : Bd} {s t : List Int} (h : Done f B s t) : Meets f s t := by
  obtain ⟨⟨σ, rk, g⟩, h2⟩ := h
  have := (h2 σ).1 g.sol
  exact ⟨σ, this⟩
theorem step_done {f : Int → Int} {B : Bd} {s t : List Int} (h : Step f (fun _ => []) B s t) : Done f B s t :=
  ⟨h.1, fun τ => by rw [h.2.1]; exact ⟨fun a => ⟨a.1.1, a.2⟩, fun a => ⟨sol_zero a.1, a.2⟩⟩⟩
theorem clash_none {f : Int → Int} {s t : List Int} (h : Clash f (fun _ => []) s t) : ¬ Meets f s t := by
  rintro ⟨τ, h1, h2⟩
  exact h τ (sol_zero h1) h2
end Go.Proofs.Ytcjgcopkeeiicaa.Un
/-! Plain: right terms as terms of the solver. -/

namespace Go.Proofs.Ytcjgcopkeeiicaa
set_option linter.unusedVariables false

theorem tm_ok {xs t : List Int} (h : Pl.termOk xs t = true) : Un.Tm (Pl.nxt xs) t := by
  have h3 := (Pl.termOk_iff.1 h).2.2
  unfold Un.Tm
  rw [Pl.run_congr (g := Pl.ari xs) 1 fun x hx => Pl.nxt_ari (Pl.termOk_ge h x hx).1]
  exact h3
theorem wt_ok {xs t : List Int} (h : Pl.termOk xs t = true) : Un.WT (Pl.nxt xs) t :=
  ⟨tm_ok h, fun v hv h0 => by have := (Pl.termOk_ge h v hv).1; have := Un.ix_neg h0; omega⟩
theorem run_map {f : Int → Int} {g : Int → Int} (hg : ∀ x, f (g x) = f x) : ∀ (l : List Int) (m : Nat), Pl.run f m (l.map g) = Pl.run f m l
  | [], 0 => rfl
  | [], m + 1 => rfl
  | x :: xs, 0 => by simp [Pl.run_zero]
  | x :: xs, m + 1 => by
    simp only [List.map_cons, Pl.run, hg, run_map hg xs]
theorem nxt_sh (xs : List Int) (x : Int) : Pl.nxt xs (sh 24 x) = Pl.nxt xs x := by
  by_cases h : x < 0
  · rw [sh_var h, nxt_ar xs _ (by omega), nxt_ar xs _ h]
  · rw [sh_sym h]
theorem wt_away {xs t : List Int} (h : Pl.termOk xs t = true) : Un.WT (Pl.nxt xs) (t.map (sh 24)) := by
  refine ⟨?_, fun v hv h0 => ?_⟩
  · unfold Un.Tm
    rw [run_map (nxt_sh xs), List.length_map]
    exact tm_ok h
  · obtain ⟨x, hx, rfl⟩ := List.mem_map.1 hv
    have h1 := (Pl.termOk_ge h x hx).1
    by_cases hx0 : x < 0
    · rw [sh_var hx0] at h0 ⊢
      have := Un.ix_neg h0
      omega
    · rw [sh_sym hx0] at h0; omega
theorem wt_sub {f : Int → Int} {t : List Int} (h : Un.WT f t) {p : Nat} (hp : p < t.length) : Un.WT f (Pl.sub f t p) :=
  ⟨Pl.sub_run h.1 hp, fun v hv h0 => h.2 v (Un.sub_mem hv) h0⟩
end Go.Proofs.Ytcjgcopkeeiicaa
