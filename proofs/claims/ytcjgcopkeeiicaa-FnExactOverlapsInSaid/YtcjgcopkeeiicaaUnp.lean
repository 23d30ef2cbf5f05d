/- Plain: the steps of unification. -/
import Derived.Test.YtcjgcopkeeiicaaUni
namespace Go.Proofs.Ytcjgcopkeeiicaa.Un
set_option linter.unusedVariables false

/-- A term of the solver. -/
def WT (f : Int → Int) (t : List Int) : Prop := Tm f t ∧ In 48 t
def hd (t : List Int) : Int := t.getD 0 0
theorem hd_mem {f : Int → Int} {t : List Int} (h : Tm f t) : hd t ∈ t := Pl.getD_mem h.pos
theorem WT.ix {f : Int → Int} {t : List Int} (h : WT f t) (h0 : hd t < 0) : ix (hd t) < 48 := h.2 _ (hd_mem h.1) h0
theorem ix_neg {x : Int} (h : x < 0) : (ix x : Int) = -1 - x := by unfold ix; omega

/-- The chain from a term to its root, by its length. -/
def RoN (B : Bd) : Nat → List Int → List Int → Prop
  | 0, t, u => u = t ∧ ¬ (hd t < 0 ∧ B (ix (hd t)) ≠ [])
  | k + 1, t, u => hd t < 0 ∧ B (ix (hd t)) ≠ [] ∧ RoN B k (B (ix (hd t))) u
def Ro (B : Bd) (t u : List Int) : Prop := ∃ k, RoN B k t u
theorem roN_det {B : Bd} : ∀ {k k' : Nat} {t u u' : List Int}, RoN B k t u → RoN B k' t u' → u = u'
  | 0, 0, t, u, u', h, h' => by rw [h.1, h'.1]
  | 0, k' + 1, t, u, u', h, h' => absurd ⟨h'.1, h'.2.1⟩ h.2
  | k + 1, 0, t, u, u', h, h' => absurd ⟨h.1, h.2.1⟩ h'.2
  | k + 1, k' + 1, t, u, u', h, h' => roN_det h.2.2 h'.2.2
theorem Ro.det {B : Bd} {t u u' : List Int} (h : Ro B t u) (h' : Ro B t u') : u = u' := by
  obtain ⟨k, h⟩ := h
  obtain ⟨k', h'⟩ := h'
  exact roN_det h h'
section
variable {f : Int → Int} {B : Bd} {σ : Int → List Int} {rk : Int → Nat}
theorem Good.inB (g : Good f 48 B σ rk) (i : Nat) : In 48 (B i) := by
  by_cases hb : B i = []
  · rw [hb]; intro v hv; cases hv
  · have := g.has (vr i) (vr_neg i) (by rw [ix_vr]; exact hb)
    rw [ix_vr] at this
    exact this.2.1
theorem Good.wt (g : Good f 48 B σ rk) {i : Nat} (hb : B i ≠ []) : WT f (B i) := by
  have := g.has (vr i) (vr_neg i) (by rw [ix_vr]; exact hb)
  rw [ix_vr] at this
  exact ⟨this.1, this.2.1⟩
theorem ro_ex (hf : Ar f) (g : Good f 48 B σ rk) : ∀ (n : Nat) {t : List Int}, WT f t → (hd t < 0 → rk (hd t) ≤ n) →
    ∃ k u, RoN B k t u ∧ WT f u ∧ (hd u < 0 → B (ix (hd u)) = []) ∧ ∀ τ, Sol f τ B → ap τ u = ap τ t := by
  intro n
  induction n with
  | zero =>
    intro t ht hk
    by_cases hs : hd t < 0 ∧ B (ix (hd t)) ≠ []
    · obtain ⟨h1, h2⟩ := hs
      have hw := g.wt h2
      obtain ⟨_, _, h4, h5⟩ := g.has _ h1 h2
      have hne : ¬ hd (B (ix (hd t))) < 0 := fun h0 => by
        have := h5 _ (hd_mem hw.1) h0
        have := hk h1
        omega
      refine ⟨1, _, ⟨h1, h2, rfl, fun h => hne h.1⟩, hw, fun h => absurd h hne, fun τ hτ => ?_⟩
      have e : t = [hd t] := tm_var hf ht.1 h1
      have e2 := hτ.2 _ h1 h2
      conv => rhs; rw [e, ap_one]
      rw [sg_var h1]
      exact e2.symm
    · exact ⟨0, t, ⟨rfl, hs⟩, ht, fun h0 => Classical.byContradiction fun hb => hs ⟨h0, hb⟩, fun _ _ => rfl⟩
  | succ n ih =>
    intro t ht hk
    by_cases hs : hd t < 0 ∧ B (ix (hd t)) ≠ []
    · obtain ⟨h1, h2⟩ := hs
      have hw := g.wt h2
      obtain ⟨_, _, h4, h5⟩ := g.has _ h1 h2
      obtain ⟨k, u, a1, a2, a3, a4⟩ := ih hw fun h0 => by
        have := h5 _ (hd_mem hw.1) h0
        have := hk h1
        omega
      refine ⟨k + 1, u, ⟨h1, h2, a1⟩, a2, a3, fun τ hτ => (a4 τ hτ).trans ?_⟩
      have e : t = [hd t] := tm_var hf ht.1 h1
      have e2 := hτ.2 _ h1 h2
      conv => rhs; rw [e, ap_one]
      rw [sg_var h1]
      exact e2.symm
    · exact ⟨0, t, ⟨rfl, hs⟩, ht, fun h0 => Classical.byContradiction fun hb => hs ⟨h0, hb⟩, fun _ _ => rfl⟩
theorem root_ex (hf : Ar f) (g : Good f 48 B σ rk) {t : List Int} (ht : WT f t) :
    ∃ k u, RoN B k t u ∧ WT f u ∧ (hd u < 0 → B (ix (hd u)) = []) ∧ ∀ τ, Sol f τ B → ap τ u = ap τ t := ro_ex hf g (rk (hd t)) ht fun _ => Nat.le_refl _
end

/-! The variables that have been seen. -/
def mark (S : Nat → Bool) (i : Nat) : Nat → Bool := fun j => decide (j = i) || S j
theorem mark_same (S : Nat → Bool) (i : Nat) : mark S i i = true := by simp [mark]
theorem mark_sub {S : Nat → Bool} {i j : Nat} (h : S j = true) : mark S i j = true := by simp [mark, h]
theorem mark_inv {S : Nat → Bool} {i j : Nat} (h : mark S i j = true) : j = i ∨ S j = true := by simpa [mark] using h
def un (S : Nat → Bool) : Nat := ((List.range 48).filter fun i => !S i).length
theorem filter_len_le {α : Type} {p q : α → Bool} (h : ∀ a, p a = true → q a = true) : ∀ l : List α, (l.filter p).length ≤ (l.filter q).length
  | [] => Nat.le_refl _
  | a :: l => by
    have ih := filter_len_le h l
    rw [List.filter_cons, List.filter_cons]
    by_cases hp : p a = true
    · rw [if_pos hp, if_pos (h a hp)]; simp; exact ih
    · rw [if_neg hp]
      split
      · simp; omega
      · exact ih
theorem un_le {S S' : Nat → Bool} (h : ∀ i, S i = true → S' i = true) : un S' ≤ un S := by
  unfold un
  refine filter_len_le (fun a ha => ?_) _
  cases hs : S a
  · rfl
  · rw [h a hs] at ha; exact ha
theorem un_mark {S : Nat → Bool} {i : Nat} (hi : i < 48) (h : S i = false) : un (mark S i) + 1 = un S := by
  unfold un
  generalize 48 = n at hi
  induction n with
  | zero => omega
  | succ n ih =>
    rw [List.range_succ, List.filter_append, List.filter_append, List.length_append, List.length_append]
    by_cases he : i = n
    · subst he
      have e1 : (List.range i).filter (fun j => !mark S i j) = (List.range i).filter (fun j => !S j) :=
        List.filter_congr fun j hj => by
          have := List.mem_range.1 hj
          have : ¬ j = i := by omega
          simp [mark, this]
      rw [e1]
      simp [mark, h]
    · have := ih (by omega)
      have e2 : [n].filter (fun j => !mark S i j) = [n].filter (fun j => !S j) := by
        have : ¬ n = i := fun e => he e.symm
        simp [mark, List.filter_cons, this]
      rw [e2]
      omega
theorem un_pos {S : Nat → Bool} {i : Nat} (hi : i < 48) (h : S i = false) : 1 ≤ un S := by have := un_mark hi h; omega
theorem un_bd (S : Nat → Bool) : un S ≤ 48 := by unfold un; exact Nat.le_trans (List.length_filter_le _ _) (by simp)
/-- What has been seen between two times is closed. -/
structure Cl (B : Bd) (x : Int) (S S' : Nat → Bool) : Prop where
  sub : ∀ i, S i = true → S' i = true
  cl : ∀ i, S' i = true → S i = false → x ∉ B i ∧ ∀ v ∈ B i, v < 0 → S' (ix v) = true
def Cov (x : Int) (S : Nat → Bool) (l : List Int) : Prop := x ∉ l ∧ ∀ v ∈ l, v < 0 → S (ix v) = true
theorem Cl.refl (B : Bd) (x : Int) (S : Nat → Bool) : Cl B x S S := ⟨fun _ h => h, fun i h h' => by rw [h] at h'; cases h'⟩
theorem Cov.mono {x : Int} {S S' : Nat → Bool} {l : List Int} (h : Cov x S l) (hs : ∀ i, S i = true → S' i = true) : Cov x S' l := ⟨h.1, fun v hv h0 => hs _ (h.2 v hv h0)⟩
theorem Cov.nil (x : Int) (S : Nat → Bool) : Cov x S [] := ⟨by simp, by simp⟩
theorem Cov.snoc {x : Int} {S : Nat → Bool} {l : List Int} {y : Int} (h : Cov x S l) (h1 : y ≠ x) (h2 : y < 0 → S (ix y) = true) : Cov x S (l ++ [y]) := by
  refine ⟨fun h0 => ?_, fun v hv h0 => ?_⟩
  · rcases List.mem_append.1 h0 with h0 | h0
    · exact h.1 h0
    · exact h1 (List.mem_singleton.1 h0).symm
  · rcases List.mem_append.1 hv with hv | hv
    · exact h.2 v hv h0
    · obtain rfl : v = y := by simpa using hv
      exact h2 h0
theorem Cl.nil {B : Bd} {x : Int} {S S1 : Nat → Bool} (h : Cl B x S S1) {i : Nat} (hb : B i = []) : Cl B x S (mark S1 i) := by
  refine ⟨fun j hj => mark_sub (h.sub j hj), fun j hj hj' => ?_⟩
  rcases mark_inv hj with rfl | hj
  · rw [hb]; exact ⟨by simp, by simp⟩
  · obtain ⟨h1, h2⟩ := h.cl j hj hj'
    exact ⟨h1, fun v hv h0 => mark_sub (h2 v hv h0)⟩
theorem Cl.rec_ {B : Bd} {x : Int} {S S1 S2 : Nat → Bool} (h : Cl B x S S1) {i : Nat} (h2 : Cl B x (mark S1 i) S2) (hc : Cov x S2 (B i)) : Cl B x S S2 := by
  refine ⟨fun j hj => h2.sub j (mark_sub (h.sub j hj)), fun j hj hj' => ?_⟩
  by_cases he : j = i
  · subst he; exact hc
  · cases hm : S1 j
    · exact h2.cl j hj (by simp [mark, he, hm])
    · obtain ⟨h3, h4⟩ := h.cl j hm hj'
      exact ⟨h3, fun v hv h0 => h2.sub _ (mark_sub (h4 v hv h0))⟩
section
variable {f : Int → Int} {B : Bd} {σ : Int → List Int} {rk : Int → Nat}
theorem occ_mem (g : Good f 48 B σ rk) {x : Int} (hx : x < 0) (hb : B (ix x) = []) {t : List Int} (h : x ∈ t) : x ∈ ap σ t :=
  mem_ap.2 ⟨x, h, by rw [sg_var hx, g.free x hx hb]; simp⟩
theorem occ_deep (g : Good f 48 B σ rk) {x y : Int} (hy : y < 0) (hb : B (ix y) ≠ []) {t : List Int} (h : y ∈ t) (ho : x ∈ ap σ (B (ix y))) : x ∈ ap σ t :=
  mem_ap.2 ⟨y, h, by rw [sg_var hy, (g.has y hy hb).2.2.1]; exact ho⟩
theorem occ_no (g : Good f 48 B σ rk) {x : Int} (hx : x < 0) {S : Nat → Bool} (hs : Cl B x (fun _ => false) S) {t : List Int} (hc : Cov x S t) : x ∉ ap σ t :=
  not_occurs g hx (S := fun w => S (ix w) = true) (fun w _ hw _ => ⟨(hs.cl _ hw rfl).1, fun u hu h0 _ => (hs.cl _ hw rfl).2 u hu h0⟩) hc.1 fun u hu h0 _ => hc.2 u hu h0
end

/-! The reference's way of seeing. -/
def Cov2 (B : Bd) (x : Int) (S : Nat → Bool) (l : List Int) : Prop := x ∉ l ∧ ∀ v ∈ l, v < 0 → B (ix v) ≠ [] → S (ix v) = true
def Pend (B : Bd) (x : Int) (t : List Int) (P : List Int → Prop) (S : Nat → Bool) : Prop := (∀ i, S i = true → P (B i) ∨ Cov2 B x S (B i)) ∧ (P t ∨ Cov2 B x S t)
theorem Cov2.mono {B : Bd} {x : Int} {S S' : Nat → Bool} {l : List Int} (h : Cov2 B x S l) (hs : ∀ i, S i = true → S' i = true) : Cov2 B x S' l := ⟨h.1, fun v hv h0 hb => hs _ (h.2 v hv h0 hb)⟩
theorem Cov2.nil (B : Bd) (x : Int) (S : Nat → Bool) : Cov2 B x S [] := ⟨by simp, by simp⟩
theorem Cov2.snoc {B : Bd} {x : Int} {S : Nat → Bool} {l : List Int} {y : Int} (h : Cov2 B x S l) (h1 : y ≠ x) (h2 : y < 0 → B (ix y) ≠ [] → S (ix y) = true) : Cov2 B x S (l ++ [y]) := by
  refine ⟨fun h0 => ?_, fun v hv h0 => ?_⟩
  · rcases List.mem_append.1 h0 with h0 | h0
    · exact h.1 h0
    · exact h1 (List.mem_singleton.1 h0).symm
  · rcases List.mem_append.1 hv with hv | hv
    · exact h.2 v hv h0
    · obtain rfl : v = y := by simpa using hv
      exact h2 h0
theorem Pend.start (B : Bd) (x : Int) (t : List Int) : Pend B x t (fun u => u ∈ [t]) (fun _ => false) := ⟨fun i h => by simp at h, .inl (by simp)⟩
theorem Pend.imp {B : Bd} {x : Int} {t : List Int} {P P' : List Int → Prop} {S : Nat → Bool} (h : Pend B x t P S) (hp : ∀ u, P u → P' u ∨ Cov2 B x S u) : Pend B x t P' S := by
  refine ⟨fun i hi => ?_, ?_⟩
  · rcases h.1 i hi with h1 | h1
    · exact hp _ h1
    · exact .inr h1
  · rcases h.2 with h1 | h1
    · exact hp _ h1
    · exact .inr h1
theorem Pend.push {B : Bd} {x : Int} {t : List Int} {P : List Int → Prop} {S : Nat → Bool} (h : Pend B x t P S) {i : Nat} {P' : List Int → Prop} (hp : ∀ u, P u → P' u) (hi : P' (B i)) : Pend B x t P' (mark S i) := by
  refine ⟨fun j hj => ?_, ?_⟩
  · rcases mark_inv hj with rfl | hj
    · exact .inl hi
    · rcases h.1 j hj with h1 | h1
      · exact .inl (hp _ h1)
      · exact .inr (h1.mono fun _ => mark_sub)
  · rcases h.2 with h1 | h1
    · exact .inl (hp _ h1)
    · exact .inr (h1.mono fun _ => mark_sub)
theorem pend_no {f : Int → Int} {B : Bd} {σ : Int → List Int} {rk : Int → Nat} (g : Good f 48 B σ rk) {x : Int} (hx : x < 0) {S : Nat → Bool} {t : List Int} (h : Pend B x t (fun _ => False) S) : x ∉ ap σ t := by
  have h1 : ∀ i, S i = true → Cov2 B x S (B i) := fun i hi => (h.1 i hi).resolve_left id
  have h2 := h.2.resolve_left id
  exact not_occurs g hx (S := fun w => S (ix w) = true) (fun w _ hw _ => h1 _ hw) h2.1 h2.2

/-! Binding. -/
section
variable {f : Int → Int} {B : Bd} {σ : Int → List Int} {rk : Int → Nat}
theorem WT.ne {t : List Int} (h : WT f t) : t ≠ [] := by intro e; have := h.1.pos; simp [e] at this
theorem bind_ok (hf : Ar f) (g : Good f 48 B σ rk) {x : Int} (hx : x < 0) (hi : ix x < 48) (hb : B (ix x) = []) {t : List Int} (ht : WT f t) (ho : x ∉ ap σ t) :
    (∃ σ' rk', Good f 48 (put B (ix x) t) σ' rk') ∧ (∀ τ, Sol f τ (put B (ix x) t) ↔ Sol f τ B ∧ τ x = ap τ t) ∧ free 48 (put B (ix x) t) + 1 = free 48 B :=
  ⟨good_put hf g hx hi hb ht.1 ht.2 ho, fun _ => sol_put hx hb ht.1, free_put hi hb ht.ne⟩
theorem fresh_var (g : Good f 48 B σ rk) {x y : Int} (hy : y < 0) (hb : B (ix y) = []) (hne : x ≠ y) : x ∉ ap σ [y] := by
  rw [ap_one, sg_var hy, g.free y hy hb]; simpa using hne
theorem ap_var {τ : Int → List Int} {x : Int} (hx : x < 0) : ap τ [x] = τ x := by rw [ap_one, sg_var hx]
theorem var_eq (hf : Ar f) {t : List Int} (ht : WT f t) (h0 : hd t < 0) : t = [hd t] := tm_var hf ht.1 h0
end
/-! Parts. -/
theorem sub_mem {f : Int → Int} {t : List Int} {p : Nat} {x : Int} (h : x ∈ Pl.sub f t p) : x ∈ t := List.mem_of_mem_drop (List.mem_of_mem_take h)
theorem parts_wt {f : Int → Int} {t : List Int} (h : WT f t) : ∀ u ∈ parts f t, WT f u := by
  intro u hu
  refine ⟨parts_tm h.1 u hu, fun v hv h0 => h.2 v ?_ h0⟩
  unfold parts at hu
  obtain ⟨q, _, rfl⟩ := List.mem_map.1 hu
  exact sub_mem hv
def wts (σ : Int → List Int) (L : List (List Int)) : Nat := (L.map fun u => (ap σ u).length).sum
theorem wts_app (σ : Int → List Int) (L M : List (List Int)) : wts σ (L ++ M) = wts σ L + wts σ M := by simp [wts]
theorem flat_len (σ : Int → List Int) : ∀ L : List (List Int), (L.flatMap (ap σ)).length = wts σ L
  | [] => rfl
  | u :: L => by have := flat_len σ L; simp only [List.flatMap_cons, List.length_append, this, wts, List.map_cons, List.sum_cons]
theorem parts_wts {f : Int → Int} {t : List Int} (h : WT f t) (h0 : ¬ hd t < 0) (σ : Int → List Int) : wts σ (parts f t) + 1 = (ap σ t).length := by
  rw [tm_ap_parts h.1 σ, List.length_append, flat_len]
  have : sg σ (t.getD 0 0) = [t.getD 0 0] := sg_sym h0
  rw [this]
  simp; omega
theorem wts_mem (σ : Int → List Int) {u : List Int} : ∀ {L : List (List Int)}, u ∈ L → (ap σ u).length ≤ wts σ L
  | v :: L, h => by
    unfold wts
    rw [List.map_cons, List.sum_cons]
    rcases List.mem_cons.1 h with rfl | h
    · omega
    · have := wts_mem σ h; unfold wts at this; omega
theorem wts_pos {f : Int → Int} {σ : Int → List Int} (hs : Su f σ) {u : List Int} (h : WT f u) : 1 ≤ (ap σ u).length := Nat.le_trans h.1.pos (ap_pos hs u)

theorem parts_len2 {f : Int → Int} {u v : List Int} (hu : Tm f u) (hv : Tm f v) (h : hd u = hd v) : (parts f u).length = (parts f v).length := by
  rw [parts_len, parts_len]
  unfold hd at h
  rw [h]
theorem parts_few {f : Int → Int} {t : List Int} (h : Tm f t) : (parts f t).length + 1 ≤ t.length := by
  have e := congrArg List.length (parts_flat h)
  rw [List.length_cons] at e
  have : ∀ L : List (List Int), (∀ u ∈ L, Tm f u) → L.length ≤ (L.flatMap id).length := by
    intro L
    induction L with
    | nil => intro _; simp
    | cons u L ih =>
      intro hL
      have h1 := ih fun x hx => hL x (List.mem_cons_of_mem _ hx)
      have h2 := (hL u List.mem_cons_self).pos
      simp only [List.flatMap_cons, List.length_append, List.length_cons, id] at h1 ⊢
      omega
  have := this _ (parts_tm h)
  omega
/-! What equating two terms does. -/
def Meets (f : Int → Int) (s t : List Int) : Prop := ∃ τ, Su f τ ∧ ap τ s = ap τ t
def Step (f : Int → Int) (B B' : Bd) (s t : List Int) : Prop := (∃ σ rk, Good f 48 B' σ rk) ∧ (∀ τ, Sol f τ B' ↔ Sol f τ B ∧ ap τ s = ap τ t) ∧ (B' = B ∨ free 48 B' < free 48 B)
def Clash (f : Int → Int) (B : Bd) (s t : List Int) : Prop := ∀ τ, Sol f τ B → ap τ s ≠ ap τ t
def gt (L : List (List Int)) (i : Nat) : List Int := L.getD i []
/-- The first i parts are made the same. -/
def StepTo (f : Int → Int) (B Bi : Bd) (P Q : List (List Int)) (i : Nat) : Prop := (∃ σ rk, Good f 48 Bi σ rk) ∧ (∀ τ, Sol f τ Bi ↔ Sol f τ B ∧ ∀ j, j < i → ap τ (gt P j) = ap τ (gt Q j)) ∧ (Bi = B ∨ free 48 Bi < free 48 B)
theorem StepTo.zero {f : Int → Int} {B : Bd} {σ : Int → List Int} {rk : Int → Nat} (g : Good f 48 B σ rk) (P Q : List (List Int)) : StepTo f B B P Q 0 :=
  ⟨⟨σ, rk, g⟩, fun τ => ⟨fun h => ⟨h, fun j hj => by omega⟩, fun h => h.1⟩, .inl rfl⟩
theorem StepTo.next {f : Int → Int} {B Bi B' : Bd} {P Q : List (List Int)} {i : Nat} (h : StepTo f B Bi P Q i) (h' : Step f Bi B' (gt P i) (gt Q i)) : StepTo f B B' P Q (i + 1) := by
  obtain ⟨_, h2, h3⟩ := h
  obtain ⟨g1, g2, g3⟩ := h'
  refine ⟨g1, fun τ => ?_, ?_⟩
  · rw [g2, h2]
    constructor
    · rintro ⟨⟨a, b⟩, c⟩
      refine ⟨a, fun j hj => ?_⟩
      by_cases he : j = i
      · subst he; exact c
      · exact b j (by omega)
    · rintro ⟨a, b⟩
      exact ⟨⟨a, fun j hj => b j (by omega)⟩, b i (by omega)⟩
  · rcases g3 with rfl | g3
    · exact h3
    · rcases h3 with rfl | h3
      · exact .inr g3
      · right; omega
section
variable {f : Int → Int} {B : Bd} {σ : Int → List Int} {rk : Int → Nat}
theorem StepTo.all (hf : Ar f) {Bi : Bd} {s t u v : List Int} (hu : WT f u) (hv : WT f v) (h0 : ¬ hd u < 0) (he : hd u = hd v) (eu : ∀ τ, Sol f τ B → ap τ u = ap τ s) (ev : ∀ τ, Sol f τ B → ap τ v = ap τ t)
    (h : StepTo f B Bi (parts f u) (parts f v) (parts f u).length) : Step f B Bi s t := by
  obtain ⟨h1, h2, h3⟩ := h
  refine ⟨h1, fun τ => ?_, h3⟩
  rw [h2]
  constructor
  · rintro ⟨a, b⟩
    refine ⟨a, ?_⟩
    rw [← eu τ a, ← ev τ a]
    exact (ap_heads hf a.1 hu.1 hv.1 h0 (by show ¬ hd v < 0; rw [← he]; exact h0)).2 ⟨he, b⟩
  · rintro ⟨a, b⟩
    refine ⟨a, ?_⟩
    rw [← eu τ a, ← ev τ a] at b
    exact ((ap_heads hf a.1 hu.1 hv.1 h0 (by show ¬ hd v < 0; rw [← he]; exact h0)).1 b).2
theorem StepTo.clash (hf : Ar f) {Bi : Bd} {s t u v : List Int} (hu : WT f u) (hv : WT f v) (h0 : ¬ hd u < 0) (he : hd u = hd v) (eu : ∀ τ, Sol f τ B → ap τ u = ap τ s) (ev : ∀ τ, Sol f τ B → ap τ v = ap τ t)
    {i : Nat} (hi : i < (parts f u).length) (h : StepTo f B Bi (parts f u) (parts f v) i) (hc : Clash f Bi (gt (parts f u) i) (gt (parts f v) i)) : Clash f B s t := by
  intro τ hτ hs
  rw [← eu τ hτ, ← ev τ hτ] at hs
  have := ((ap_heads hf hτ.1 hu.1 hv.1 h0 (by show ¬ hd v < 0; rw [← he]; exact h0)).1 hs).2
  exact hc τ ((h.2.1 τ).2 ⟨hτ, fun j hj => this j (by omega)⟩) (this i hi)
theorem step_same (hf : Ar f) (g : Good f 48 B σ rk) {s t u v : List Int} (hu : WT f u) (hv : WT f v) (h0 : hd u < 0) (he : hd u = hd v) (eu : ∀ τ, Sol f τ B → ap τ u = ap τ s) (ev : ∀ τ, Sol f τ B → ap τ v = ap τ t) : Step f B B s t := by
  refine ⟨⟨σ, rk, g⟩, fun τ => ⟨fun h => ⟨h, ?_⟩, fun h => h.1⟩, .inl rfl⟩
  rw [← eu τ h, ← ev τ h, var_eq hf hu h0, var_eq hf hv (by rw [← he]; exact h0), he]
theorem step_bind (hf : Ar f) (g : Good f 48 B σ rk) {s t u v : List Int} (hu : WT f u) (hv : WT f v) (h0 : hd u < 0) (hb : B (ix (hd u)) = []) (ho : hd u ∉ ap σ v) (eu : ∀ τ, Sol f τ B → ap τ u = ap τ s) (ev : ∀ τ, Sol f τ B → ap τ v = ap τ t) : Step f B (put B (ix (hd u)) v) s t := by
  obtain ⟨h1, h2, h3⟩ := bind_ok hf g h0 (hu.ix h0) hb hv ho
  refine ⟨h1, fun τ => ?_, .inr (by omega)⟩
  rw [h2]
  have e : ∀ τ, ap τ u = τ (hd u) := fun τ => by
    conv => lhs; rw [var_eq hf hu h0]
    exact ap_var h0
  constructor
  · rintro ⟨a, b⟩; exact ⟨a, by rw [← eu τ a, ← ev τ a, e, b]⟩
  · rintro ⟨a, b⟩; exact ⟨a, (e τ).symm.trans ((eu τ a).trans (b.trans (ev τ a).symm))⟩
theorem step_occ (hf : Ar f) (g : Good f 48 B σ rk) {s t u v : List Int} (hu : WT f u) (hv : WT f v) (h0 : hd u < 0) (h1 : ¬ hd v < 0) (ho : hd u ∈ ap σ v) (eu : ∀ τ, Sol f τ B → ap τ u = ap τ s) (ev : ∀ τ, Sol f τ B → ap τ v = ap τ t) : Clash f B s t := by
  intro τ hτ hs
  rw [← eu τ hτ, ← ev τ hτ] at hs
  refine sol_none g h0 hv.1 h1 ho hτ ?_
  rw [← hs]
  conv => rhs; rw [var_eq hf hu h0]
  exact (ap_var h0).symm
theorem step_heads (hf : Ar f) {s t u v : List Int} (hu : WT f u) (hv : WT f v) (h0 : ¬ hd u < 0) (h1 : ¬ hd v < 0) (hne : hd u ≠ hd v) (eu : ∀ τ, Sol f τ B → ap τ u = ap τ s) (ev : ∀ τ, Sol f τ B → ap τ v = ap τ t) : Clash f B s t := by
  intro τ hτ hs
  rw [← eu τ hτ, ← ev τ hτ] at hs
  exact hne ((ap_heads hf hτ.1 hu.1 hv.1 h0 h1).1 hs).1
theorem Step.swap {B' : Bd} {s t : List Int} (h : Step f B B' s t) : Step f B B' t s := ⟨h.1, fun τ => by rw [h.2.1]; exact and_congr_right fun _ => eq_comm, h.2.2⟩
theorem Clash.swap {s t : List Int} (h : Clash f B s t) : Clash f B t s := fun τ hτ e => h τ hτ e.symm
end
end Go.Proofs.Ytcjgcopkeeiicaa.Un
