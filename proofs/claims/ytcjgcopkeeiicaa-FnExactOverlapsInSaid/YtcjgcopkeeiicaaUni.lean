/- Plain: substitutions, unification. -/
import Derived.Test.YtcjgcopkeeiicaaLoc
namespace Go.Proofs.Ytcjgcopkeeiicaa.Un
set_option linter.unusedVariables false
/-- A substitution's work on one number, and on a term. -/
def sg (σ : Int → List Int) (v : Int) : List Int := if v < 0 then σ v else [v]
def ap (σ : Int → List Int) (t : List Int) : List Int := t.flatMap (sg σ)
theorem ap_nil (σ : Int → List Int) : ap σ [] = [] := rfl
theorem ap_cons (σ : Int → List Int) (x : Int) (t : List Int) : ap σ (x :: t) = sg σ x ++ ap σ t := by simp [ap]
theorem ap_app (σ : Int → List Int) (s t : List Int) : ap σ (s ++ t) = ap σ s ++ ap σ t := by simp [ap]
theorem ap_one (σ : Int → List Int) (v : Int) : ap σ [v] = sg σ v := by simp [ap]
theorem sg_var {σ : Int → List Int} {v : Int} (h : v < 0) : sg σ v = σ v := if_pos h
theorem sg_sym {σ : Int → List Int} {v : Int} (h : ¬ v < 0) : sg σ v = [v] := if_neg h
theorem ap_ext {σ τ : Int → List Int} {t : List Int} (h : ∀ v ∈ t, v < 0 → σ v = τ v) : ap σ t = ap τ t := by
  induction t with
  | nil => rfl
  | cons x t ih =>
    rw [ap_cons, ap_cons, ih fun v hv => h v (List.mem_cons_of_mem _ hv)]
    congr 1
    unfold sg
    split
    · next h0 => exact h x List.mem_cons_self h0
    · rfl
theorem ap_ap (σ τ : Int → List Int) (t : List Int) : ap τ (ap σ t) = ap (fun v => ap τ (σ v)) t := by
  induction t with
  | nil => rfl
  | cons x t ih =>
    rw [ap_cons, ap_cons, ap_app, ih]
    congr 1
    unfold sg
    split
    · rfl
    · next h0 => rw [ap_one, sg_sym h0]
theorem ap_id (t : List Int) : ap (fun v => [v]) t = t := by
  induction t with
  | nil => rfl
  | cons x t ih => rw [ap_cons, ih]; unfold sg; split <;> rfl

/-- The arity that is meant here: no number of a variable has arguments, no symbol of the terms is unknown. -/
def Ar (f : Int → Int) : Prop := ∀ v, v < 0 → f v = 0
def Tm (f : Int → Int) (t : List Int) : Prop := Pl.run f 1 t = some t.length
theorem Tm.pos {f : Int → Int} {t : List Int} (h : Tm f t) : 1 ≤ t.length := (Pl.run_le h).2
theorem Tm.one {f : Int → Int} (hf : Ar f) {v : Int} (h : v < 0) : Tm f [v] := by
  unfold Tm; simp [Pl.run, hf v h]
/-- Substitutions that give terms. -/
def Su (f : Int → Int) (σ : Int → List Int) : Prop := ∀ v, v < 0 → Tm f (σ v)
theorem run_ext {f : Int → Int} : ∀ {l : List Int} {m j : Nat} (r : List Int), Pl.run f m l = some j → Pl.run f m (l ++ r) = some j
  | [], 0, j, r, h => by rw [Pl.run_zero] at h ⊢; exact h
  | [], m + 1, j, r, h => by simp [Pl.run] at h
  | x :: xs, 0, j, r, h => by rw [Pl.run_zero] at h ⊢; exact h
  | x :: xs, m + 1, j, r, h => by
    simp only [List.cons_append, Pl.run] at h ⊢
    by_cases h0 : f x < 0
    · rw [if_pos h0] at h; cases h
    · rw [if_neg h0] at h ⊢
      simp only [Option.map_eq_some_iff] at h ⊢
      obtain ⟨i, hi, rfl⟩ := h
      exact ⟨i, run_ext r hi, rfl⟩
/-- Terms can be read in one way only. -/
theorem tm_split {f : Int → Int} {a b r s : List Int} (ha : Tm f a) (hb : Tm f b) (h : a ++ r = b ++ s) : a = b ∧ r = s := by
  have h1 := run_ext r ha
  have h2 := run_ext s hb
  rw [h, h2] at h1
  injection h1 with h1
  exact List.append_inj h h1.symm
theorem run_ap {f : Int → Int} (hf : Ar f) {σ : Int → List Int} (hs : Su f σ) : ∀ {t : List Int} {m : Nat}, Pl.run f m t = some t.length → Pl.run f m (ap σ t) = some (ap σ t).length
  | [], m, h => by
    cases m with
    | zero => rfl
    | succ m => simp [Pl.run] at h
  | x :: t, 0, h => by rw [Pl.run_zero] at h; simp at h
  | x :: t, m + 1, h => by
    simp only [Pl.run] at h
    by_cases h0 : f x < 0
    · rw [if_pos h0] at h; cases h
    · rw [if_neg h0] at h
      simp only [Option.map_eq_some_iff, List.length_cons] at h
      obtain ⟨j, hj, hj2⟩ := h
      obtain rfl : j = t.length := by omega
      have ih := run_ap hf hs hj
      rw [ap_cons]
      by_cases hx : x < 0
      · rw [sg_var hx]
        have e : f x = 0 := hf x hx
        rw [e, Int.toNat_zero, Nat.add_zero] at ih
        have h1 := run_ext (ap σ t) (hs x hx)
        rw [show m + 1 = 1 + m by omega, Pl.run_add, h1]
        simp [ih]
      · rw [sg_sym hx]
        show Pl.run f (m + 1) (x :: ap σ t) = _
        simp only [Pl.run]
        rw [if_neg h0, ih]
        simp
theorem Tm.ap {f : Int → Int} (hf : Ar f) {σ : Int → List Int} (hs : Su f σ) {t : List Int} (h : Tm f t) : Tm f (ap σ t) := run_ap hf hs h
theorem ap_pos {f : Int → Int} {σ : Int → List Int} (hs : Su f σ) (t : List Int) : t.length ≤ (Un.ap σ t).length := by
  induction t with
  | nil => simp [Un.ap]
  | cons x t ih =>
    rw [ap_cons, List.length_append, List.length_cons]
    have : 1 ≤ (sg σ x).length := by
      unfold sg; split
      · next h => exact (hs x h).pos
      · simp
    omega
/-- Lists of terms that are the same when they are written one behind the other. -/
theorem tms_eq {f : Int → Int} {g : List Int → List Int} : ∀ {us vs : List (List Int)}, us.length = vs.length → (∀ u ∈ us, Tm f (g u)) → (∀ v ∈ vs, Tm f (g v)) → (us.flatMap g = vs.flatMap g ↔ ∀ i, i < us.length → g (us.getD i []) = g (vs.getD i []))
  | [], [], _, _, _ => by simp
  | [], v :: vs, h, _, _ => by simp at h
  | u :: us, [], h, _, _ => by simp at h
  | u :: us, v :: vs, h, hu, hv => by
    have ih := tms_eq (us := us) (vs := vs) (by simpa using h) (fun x hx => hu x (List.mem_cons_of_mem _ hx)) (fun x hx => hv x (List.mem_cons_of_mem _ hx))
    simp only [List.flatMap_cons]
    constructor
    · intro e
      obtain ⟨e1, e2⟩ := tm_split (hu u List.mem_cons_self) (hv v List.mem_cons_self) e
      intro i hi
      cases i with
      | zero => simpa using e1
      | succ i => simpa using ih.1 e2 i (by simpa using hi)
    · intro e
      have e1 := e 0 (by simp)
      have e2 := ih.2 fun i hi => by simpa using e (i + 1) (by simpa using hi)
      simp at e1
      rw [e1, e2]
/-- The arguments' terms. -/
def parts (f : Int → Int) (t : List Int) : List (List Int) := (Pl.args f t 0).map (Pl.sub f t)
theorem parts_len {f : Int → Int} {t : List Int} : (parts f t).length = (f (t.getD 0 0)).toNat := by
  unfold parts Pl.args; rw [List.length_map, Pl.argsFrom_length]
theorem sub_all {f : Int → Int} {t : List Int} (h : Tm f t) : Pl.sub f t 0 = t := by
  unfold Pl.sub Pl.fin
  simp only [List.drop_zero]
  have h : Pl.run f 1 t = some t.length := h
  rw [h]
  simp
theorem parts_flat {f : Int → Int} {t : List Int} (h : Tm f t) : t.getD 0 0 :: (parts f t).flatMap id = t := by
  have := Pl.again_sub h (p := 0) (by have := h.pos; omega)
  rw [sub_all h] at this
  unfold parts
  rw [List.flatMap_map]
  exact this
theorem parts_tm {f : Int → Int} {t : List Int} (h : Tm f t) : ∀ u ∈ parts f t, Tm f u := by
  intro u hu
  unfold parts at hu
  obtain ⟨q, hq, rfl⟩ := List.mem_map.1 hu
  exact Pl.sub_run h ((Pl.args_mem h (by have := h.pos; omega) q hq).2.2.1)
theorem ap_flat (σ : Int → List Int) (us : List (List Int)) : ap σ (us.flatMap id) = us.flatMap (ap σ) := by
  induction us with
  | nil => rfl
  | cons u us ih => simp only [List.flatMap_cons, ap_app, ih, id]
theorem tm_ap_parts {f : Int → Int} {t : List Int} (h : Tm f t) (σ : Int → List Int) : ap σ t = sg σ (t.getD 0 0) ++ (parts f t).flatMap (ap σ) := by
  conv => lhs; rw [← parts_flat h, ap_cons, ap_flat]
/-- Two terms with heads that are symbols are made the same iff the heads are the same and the arguments are made the same. -/
theorem ap_heads {f : Int → Int} (hf : Ar f) {σ : Int → List Int} (hs : Su f σ) {a b : List Int} (ha : Tm f a) (hb : Tm f b) (h0 : ¬ a.getD 0 0 < 0) (h1 : ¬ b.getD 0 0 < 0) :
    ap σ a = ap σ b ↔ a.getD 0 0 = b.getD 0 0 ∧ ∀ i, i < (parts f a).length → ap σ ((parts f a).getD i []) = ap σ ((parts f b).getD i []) := by
  rw [tm_ap_parts ha, tm_ap_parts hb, sg_sym h0, sg_sym h1]
  simp only [List.singleton_append, List.cons.injEq]
  constructor
  · rintro ⟨e, e2⟩
    exact ⟨e, (tms_eq (f := f) (by rw [parts_len, parts_len, e]) (fun u hu => (parts_tm ha u hu).ap hf hs) (fun u hu => (parts_tm hb u hu).ap hf hs)).1 e2⟩
  · rintro ⟨e, e2⟩
    exact ⟨e, (tms_eq (f := f) (by rw [parts_len, parts_len, e]) (fun u hu => (parts_tm ha u hu).ap hf hs) (fun u hu => (parts_tm hb u hu).ap hf hs)).2 e2⟩

/-- Terms of variables. -/
abbrev Bd := Nat → List Int
def ix (v : Int) : Nat := (-1 - v).toNat
def vr (i : Nat) : Int := -1 - (i : Int)
theorem vr_neg (i : Nat) : vr i < 0 := by unfold vr; omega
theorem ix_vr (i : Nat) : ix (vr i) = i := by unfold ix vr; omega
theorem vr_ix {v : Int} (h : v < 0) : vr (ix v) = v := by unfold ix vr; omega
def put (B : Bd) (i : Nat) (t : List Int) : Bd := fun j => if j = i then t else B j
theorem put_same (B : Bd) (i : Nat) (t : List Int) : put B i t i = t := if_pos rfl
theorem put_other {B : Bd} {i j : Nat} {t : List Int} (h : j ≠ i) : put B i t j = B j := if_neg h
/-- What a term of the terms at work looks like: its variables are the first n. -/
def In (n : Nat) (t : List Int) : Prop := ∀ v ∈ t, v < 0 → ix v < n
structure Good (f : Int → Int) (n : Nat) (B : Bd) (σ : Int → List Int) (rk : Int → Nat) : Prop where
  su : Su f σ
  free : ∀ v, v < 0 → B (ix v) = [] → σ v = [v]
  has : ∀ v, v < 0 → B (ix v) ≠ [] → Tm f (B (ix v)) ∧ In n (B (ix v)) ∧ σ v = ap σ (B (ix v)) ∧ ∀ w ∈ B (ix v), w < 0 → rk w < rk v
  out : ∀ i, n ≤ i → B i = []
/-- It solves what has been laid down. -/
def Sol (f : Int → Int) (τ : Int → List Int) (B : Bd) : Prop := Su f τ ∧ ∀ v, v < 0 → B (ix v) ≠ [] → τ v = ap τ (B (ix v))
theorem good_zero {f : Int → Int} (hf : Ar f) (n : Nat) : Good f n (fun _ => []) (fun v => [v]) (fun _ => 0) :=
  ⟨fun v h => Tm.one hf h, fun v _ _ => rfl, fun v _ h => absurd rfl h, fun _ _ => rfl⟩
theorem sol_zero {f : Int → Int} {τ : Int → List Int} (h : Su f τ) : Sol f τ (fun _ => []) := ⟨h, fun v _ h => absurd rfl h⟩
section
variable {f : Int → Int} {n : Nat} {B : Bd} {σ : Int → List Int} {rk : Int → Nat}
/-- The own solution. -/
theorem Good.sol (g : Good f n B σ rk) : Sol f σ B := ⟨g.su, fun v h hb => (g.has v h hb).2.2.1⟩
/-- Every solution goes over the own one. -/
theorem sol_over (g : Good f n B σ rk) {τ : Int → List Int} (h : Sol f τ B) : ∀ (k : Nat) (v : Int), v < 0 → rk v ≤ k → τ v = ap τ (σ v)
  | k, v, hv, hk => by
    by_cases hb : B (ix v) = []
    · rw [g.free v hv hb, ap_one, sg_var hv]
    · obtain ⟨h1, _, h2, h3⟩ := g.has v hv hb
      rw [h.2 v hv hb, h2, ap_ap]
      refine ap_ext fun w hw h0 => ?_
      have := h3 w hw h0
      cases k with
      | zero => omega
      | succ k => exact sol_over g h k w h0 (by omega)
theorem sol_ap (g : Good f n B σ rk) {τ : Int → List Int} (h : Sol f τ B) (t : List Int) : ap τ (ap σ t) = ap τ t := by
  rw [ap_ap]
  exact ap_ext fun v _ h0 => (sol_over g h (rk v) v h0 (Nat.le_refl _)).symm
theorem own_twice (g : Good f n B σ rk) (t : List Int) : ap σ (ap σ t) = ap σ t := sol_ap g g.sol t
theorem mem_ap {σ : Int → List Int} {t : List Int} {x : Int} : x ∈ ap σ t ↔ ∃ v ∈ t, x ∈ sg σ v := by simp [ap, List.mem_flatMap]
/-- What the own solution leaves is free. -/
theorem own_free (g : Good f n B σ rk) : ∀ (k : Nat) (v : Int), v < 0 → rk v ≤ k → ∀ x ∈ σ v, x < 0 → B (ix x) = []
  | k, v, hv, hk, x, hx, h0 => by
    by_cases hb : B (ix v) = []
    · rw [g.free v hv hb] at hx
      obtain rfl : x = v := by simpa using hx
      exact hb
    · obtain ⟨h1, _, h2, h3⟩ := g.has v hv hb
      rw [h2, mem_ap] at hx
      obtain ⟨w, hw, hx⟩ := hx
      by_cases hw0 : w < 0
      · rw [sg_var hw0] at hx
        have := h3 w hw hw0
        cases k with
        | zero => omega
        | succ k => exact own_free g k w hw0 (by omega) x hx h0
      · rw [sg_sym hw0] at hx
        obtain rfl : x = w := by simpa using hx
        exact absurd h0 hw0
/-- A new term for a variable that has none and does not stand in it. -/
theorem good_put (hf : Ar f) (g : Good f n B σ rk) {x : Int} (hx : x < 0) (hxn : ix x < n) (hb : B (ix x) = []) {t : List Int} (ht : Tm f t) (hin : In n t) (ho : x ∉ ap σ t) :
    ∃ σ' rk', Good f n (put B (ix x) t) σ' rk' := by
  have hte : t ≠ [] := by intro e; have := ht.pos; simp [e] at this
  obtain ⟨M, hM⟩ : ∃ M : Nat, ∀ w ∈ t, rk w < M := by
    clear ht hin ho hte
    induction t with
    | nil => exact ⟨0, by simp⟩
    | cons y t ih =>
      obtain ⟨M, hM⟩ := ih
      refine ⟨max M (rk y + 1), fun w hw => ?_⟩
      rcases List.mem_cons.1 hw with rfl | hw
      · omega
      · have := hM w hw; omega
  have hone : ∀ v, v < 0 → Tm f (if v = x then ap σ t else [v]) := by
    intro v hv; split
    · exact ht.ap hf g.su
    · exact Tm.one hf hv
  have hfix : ∀ u : List Int, x ∉ u → ap (fun v => if v = x then ap σ t else [v]) u = u := by
    intro u hu
    conv => rhs; rw [← ap_id u]
    exact ap_ext fun v hv _ => if_neg fun e => hu (by rw [← e]; exact hv)
  refine ⟨fun v => ap (fun v => if v = x then ap σ t else [v]) (σ v), fun v => rk v + if x ∈ σ v then M else 0, ⟨fun v hv => (g.su v hv).ap hf hone, fun v hv hB => ?_, fun v hv hB => ?_, fun i hi => ?_⟩⟩
  · have hne : ix v ≠ ix x := fun e => by rw [e, put_same] at hB; exact hte hB
    rw [put_other hne] at hB
    show ap _ (σ v) = [v]
    rw [g.free v hv hB]
    refine hfix _ fun e => hne ?_
    obtain rfl : x = v := by simpa using e
    rfl
  · by_cases he : ix v = ix x
    · obtain rfl : v = x := by rw [← vr_ix hv, he, vr_ix hx]
      rw [put_same]
      refine ⟨ht, hin, ?_, fun w hw h0 => ?_⟩
      · show ap _ (σ v) = _
        rw [g.free v hv hb, ap_one, sg_var hv, if_pos rfl, ← ap_ap]
        exact (hfix _ ho).symm
      · have h1 : v ∉ σ w := fun e => ho (mem_ap.2 ⟨w, hw, by rw [sg_var h0]; exact e⟩)
        have h2 : v ∈ σ v := by rw [g.free v hv hb]; simp
        show rk w + (if v ∈ σ w then M else 0) < rk v + (if v ∈ σ v then M else 0)
        rw [if_neg h1, if_pos h2]
        have := hM w hw
        omega
    · rw [put_other he] at hB ⊢
      obtain ⟨h1, h2, h3, h4⟩ := g.has v hv hB
      refine ⟨h1, h2, ?_, fun w hw h0 => ?_⟩
      · show ap _ (σ v) = _
        rw [h3, ap_ap]
      · have := h4 w hw h0
        show rk w + (if x ∈ σ w then M else 0) < rk v + (if x ∈ σ v then M else 0)
        by_cases hw1 : x ∈ σ w
        · have hv1 : x ∈ σ v := by rw [h3]; exact mem_ap.2 ⟨w, hw, by rw [sg_var h0]; exact hw1⟩
          rw [if_pos hw1, if_pos hv1]; omega
        · rw [if_neg hw1]; omega
  · rw [put_other (by omega)]
    exact g.out i hi
theorem sol_put {x : Int} (hx : x < 0) (hb : B (ix x) = []) {t : List Int} (ht : Tm f t) {τ : Int → List Int} : Sol f τ (put B (ix x) t) ↔ Sol f τ B ∧ τ x = ap τ t := by
  have hte : t ≠ [] := by intro e; have := ht.pos; simp [e] at this
  constructor
  · rintro ⟨h1, h2⟩
    refine ⟨⟨h1, fun v hv hB => ?_⟩, ?_⟩
    · have hne : ix v ≠ ix x := fun e => hB (e ▸ hb)
      have := h2 v hv (by rw [put_other hne]; exact hB)
      rwa [put_other hne] at this
    · have := h2 x hx (by rw [put_same]; exact hte)
      rwa [put_same] at this
  · rintro ⟨⟨h1, h2⟩, h3⟩
    refine ⟨h1, fun v hv hB => ?_⟩
    by_cases he : ix v = ix x
    · obtain rfl : v = x := by rw [← vr_ix hv, he, vr_ix hx]
      rw [put_same]; exact h3
    · rw [put_other he] at hB ⊢
      exact h2 v hv hB
/-- No solution where a variable would stand within its own term. -/
theorem ap_mem_len {τ : Int → List Int} (hs : Su f τ) {x : Int} (hx : x < 0) : ∀ {u : List Int}, x ∈ u → (τ x).length + (u.length - 1) ≤ (ap τ u).length
  | y :: u, h => by
    rw [ap_cons, List.length_append, List.length_cons]
    by_cases he : y = x
    · subst he
      rw [sg_var hx]
      have := ap_pos hs u
      omega
    · have hu : x ∈ u := by rcases List.mem_cons.1 h with e | e; exact absurd e.symm he; exact e
      have h1 := ap_mem_len hs hx hu
      have h2 : 1 ≤ (sg τ y).length := by
        unfold sg; split
        · next h => exact (hs y h).pos
        · simp
      have : 1 ≤ u.length := List.length_pos_of_mem hu
      omega
theorem sol_none (g : Good f n B σ rk) {x : Int} (hx : x < 0) {t : List Int} (ht : Tm f t) (h0 : ¬ t.getD 0 0 < 0) (ho : x ∈ ap σ t) {τ : Int → List Int} (h : Sol f τ B) : τ x ≠ ap τ t := by
  intro e
  rw [← sol_ap g h t] at e
  have h1 := ap_mem_len h.1 hx ho
  have h2 : 2 ≤ (ap σ t).length := by
    have hp := ht.pos
    cases t with
    | nil => simp at hp
    | cons y t =>
      have hy : ¬ y < 0 := h0
      rw [ap_cons, sg_sym hy] at ho ⊢
      rcases List.mem_cons.1 ho with e | e
      · omega
      · have : 1 ≤ (ap σ t).length := List.length_pos_of_mem e
        simp; omega
  have := congrArg List.length e
  omega
end
/-- A variable, or a term with a head that is a symbol. -/
theorem tm_var {f : Int → Int} (hf : Ar f) {t : List Int} (h : Tm f t) (h0 : t.getD 0 0 < 0) : t = [t.getD 0 0] := by
  have hp := h.pos
  cases t with
  | nil => simp at hp
  | cons y t =>
    have hy : y < 0 := h0
    have h1 := run_ext t (Tm.one hf hy)
    unfold Tm at h
    rw [show [y] ++ t = y :: t from rfl, h] at h1
    injection h1 with h1
    simp at h1
    simp [h1]
/-- How many variables are still free. -/
def free (n : Nat) (B : Bd) : Nat := ((List.range n).filter fun i => decide (B i = [])).length
theorem free_put {n : Nat} {B : Bd} {i : Nat} (hi : i < n) (hb : B i = []) {t : List Int} (ht : t ≠ []) : free n (put B i t) + 1 = free n B := by
  unfold free
  induction n with
  | zero => omega
  | succ n ih =>
    simp only [List.range_succ, List.filter_append, List.length_append]
    by_cases he : i = n
    · subst he
      have e1 : ((List.range i).filter fun j => decide (put B i t j = [])) = ((List.range i).filter fun j => decide (B j = [])) :=
        List.filter_congr fun j hj => by rw [put_other (by have := List.mem_range.1 hj; omega)]
      rw [e1]
      simp [put_same, hb, ht]
    · have := ih (by omega)
      rw [List.filter_cons, List.filter_cons, put_other (by omega : n ≠ i)]
      simp only [List.filter_nil]
      omega
theorem free_le (n : Nat) (B : Bd) : free n B ≤ n := by
  unfold free
  exact Nat.le_trans (List.length_filter_le _ _) (by simp)
/-- Found by no way: a set of variables that is closed under what they have. -/
theorem not_occurs {f : Int → Int} {n : Nat} {B : Bd} {σ : Int → List Int} {rk : Int → Nat} (g : Good f n B σ rk) {x : Int} (hx : x < 0) {S : Int → Prop}
    (hS : ∀ w, w < 0 → S w → B (ix w) ≠ [] → x ∉ B (ix w) ∧ ∀ u ∈ B (ix w), u < 0 → B (ix u) ≠ [] → S u) {t : List Int} (h1 : x ∉ t) (h2 : ∀ u ∈ t, u < 0 → B (ix u) ≠ [] → S u) : x ∉ ap σ t := by
  have key : ∀ (k : Nat) (v : Int), v < 0 → v ≠ x → (B (ix v) ≠ [] → S v) → rk v ≤ k → x ∉ σ v := by
    intro k
    induction k with
    | zero =>
      intro v hv hne hs hk
      by_cases hb : B (ix v) = []
      · rw [g.free v hv hb]; simpa using fun e => hne e.symm
      · obtain ⟨_, _, h3, h4⟩ := g.has v hv hb
        obtain ⟨a1, a2⟩ := hS v hv (hs hb) hb
        rw [h3, mem_ap]
        rintro ⟨w, hw, hxw⟩
        by_cases hw0 : w < 0
        · have := h4 w hw hw0; omega
        · rw [sg_sym hw0] at hxw
          obtain rfl : x = w := by simpa using hxw
          exact a1 hw
    | succ k ih =>
      intro v hv hne hs hk
      by_cases hb : B (ix v) = []
      · rw [g.free v hv hb]; simpa using fun e => hne e.symm
      · obtain ⟨_, _, h3, h4⟩ := g.has v hv hb
        obtain ⟨a1, a2⟩ := hS v hv (hs hb) hb
        rw [h3, mem_ap]
        rintro ⟨w, hw, hxw⟩
        by_cases hw0 : w < 0
        · have := h4 w hw hw0
          rw [sg_var hw0] at hxw
          exact ih w hw0 (fun e => a1 (e ▸ hw)) (a2 w hw hw0) (by omega) hxw
        · rw [sg_sym hw0] at hxw
          obtain rfl : x = w := by simpa using hxw
          exact a1 hw
  rw [mem_ap]
  rintro ⟨w, hw, hxw⟩
  by_cases hw0 : w < 0
  · rw [sg_var hw0] at hxw
    exact key (rk w) w hw0 (fun e => h1 (e ▸ hw)) (h2 w hw hw0) (Nat.le_refl _) hxw
  · rw [sg_sym hw0] at hxw
    obtain rfl : x = w := by simpa using hxw
    exact h1 hw
/-- Two own solutions of the same: each goes over the other, so what they make differs by names alone. -/
theorem variant {f : Int → Int} {σ1 σ2 : Int → List Int} (s1 : Su f σ1) (s2 : Su f σ2) : ∀ {s : List Int}, ap σ1 (ap σ2 s) = s → ∀ x ∈ s, sg σ2 x = [(sg σ2 x).getD 0 0] ∧ sg σ1 ((sg σ2 x).getD 0 0) = [x]
  | [], _, x, hx => by simp at hx
  | y :: s, h, x, hx => by
    rw [ap_cons, ap_app] at h
    have l1 : 1 ≤ (sg σ2 y).length := by
      unfold sg; split
      · next h => exact (s2 y h).pos
      · simp
    have l2 := ap_pos s1 (sg σ2 y)
    have l3 := ap_pos s1 (ap σ2 s)
    have l4 := ap_pos s2 s
    have l5 := congrArg List.length h
    simp only [List.length_append, List.length_cons] at l5
    obtain ⟨e1, e2⟩ := List.append_inj (s₁ := ap σ1 (sg σ2 y)) (s₂ := [y]) (t₁ := ap σ1 (ap σ2 s)) (t₂ := s) h (by rw [List.length_singleton]; omega)
    rcases List.mem_cons.1 hx with rfl | hx
    · obtain ⟨z, hz⟩ : ∃ z, sg σ2 x = [z] := List.length_eq_one_iff.1 (by omega)
      rw [hz] at e1 ⊢
      rw [ap_one] at e1
      exact ⟨rfl, e1⟩
    · exact variant s1 s2 e2 x hx
theorem variant_map {f : Int → Int} {σ1 σ2 : Int → List Int} (s1 : Su f σ1) (s2 : Su f σ2) {s : List Int} (h : ap σ1 (ap σ2 s) = s) : ap σ2 s = s.map fun x => (sg σ2 x).getD 0 0 := by
  have := variant s1 s2 h
  clear h
  induction s with
  | nil => rfl
  | cons y s ih =>
    rw [ap_cons, List.map_cons, ih fun x hx => this x (List.mem_cons_of_mem _ hx)]
    conv => lhs; rw [(this y List.mem_cons_self).1]
    rfl
end Go.Proofs.Ytcjgcopkeeiicaa.Un
