/- Plain: a part of a right term is a right term. -/
import Derived.Test.YtcjgcopkeeiicaaPlainB
namespace Go.Proofs.Ytcjgcopkeeiicaa.Pl
set_option linter.unusedVariables false
theorem run_take {f : Int → Int} : ∀ {l : List Int} {m k n : Nat}, run f m l = some k → k ≤ n → run f m (l.take n) = some k
  | l, 0, k, n, h, _ => by rw [run_zero] at h ⊢; exact h
  | [], m + 1, k, n, h, _ => by simp [run] at h
  | x :: xs, m + 1, k, n, h, hk => by
    simp only [run] at h
    by_cases h0 : f x < 0
    · rw [if_pos h0] at h; cases h
    · rw [if_neg h0] at h
      simp only [Option.map_eq_some_iff] at h
      obtain ⟨j, hj, rfl⟩ := h
      obtain ⟨n, rfl⟩ : ∃ n', n = n' + 1 := ⟨n - 1, by omega⟩
      rw [List.take_succ_cons]
      simp only [run]
      rw [if_neg h0, run_take hj (by omega)]
      rfl
/-- The part of a right term that begins at a place. -/
def sub (f : Int → Int) (t : List Int) (p : Nat) : List Int := (t.drop p).take (fin f t p - p)
section
variable {f : Int → Int} {t : List Int} (h : run f 1 t = some t.length) {p : Nat} (hp : p < t.length)
include h hp
theorem sub_len : (sub f t p).length = fin f t p - p := by
  have := (fin_of h hp).2.2.1
  unfold sub; rw [List.length_take, List.length_drop]; omega
theorem sub_run : run f 1 (sub f t p) = some (sub f t p).length := by
  rw [sub_len h hp]
  exact run_take (fin_of h hp).2.2.2 (Nat.le_refl _)
theorem sub_drop {q : Nat} (hq : p + q < fin f t p) : run f 1 ((sub f t p).drop q) = run f 1 (t.drop (p + q)) ∧ fin f t (p + q) ≤ fin f t p := by
  have h1 := fin_of h hp
  have h2 := fin_of h (p := p + q) (by omega)
  obtain ⟨k, k1, k2, k3⟩ := run_at (sub_run h hp) (p := q) (by rw [sub_len h hp]; omega)
  rw [sub_len h hp] at k2
  have e : (sub f t p).drop q = (t.drop (p + q)).take (fin f t p - p - q) := by unfold sub; rw [List.drop_take, List.drop_drop]
  have k4 : run f 1 (t.drop (p + q)) = some k := by
    rw [e] at k1
    have := run_take (n := fin f t p - p - q) h2.2.2.2
    -- the run in the part is the run in the whole
    rcases Nat.lt_or_ge (fin f t p - p - q) (fin f t (p + q) - (p + q)) with hlt | hge
    · exfalso
      have happ : ∀ {l : List Int} {m j : Nat} (r : List Int), run f m l = some j → run f m (l ++ r) = some j := by
        intro l
        induction l with
        | nil =>
          intro m j r hh
          cases m with
          | zero => rw [run_zero] at hh ⊢; exact hh
          | succ m => simp [run] at hh
        | cons x xs ih =>
          intro m j r hh
          cases m with
          | zero => rw [run_zero] at hh ⊢; exact hh
          | succ m =>
            simp only [List.cons_append, run] at hh ⊢
            by_cases h0 : f x < 0
            · rw [if_pos h0] at hh; cases hh
            · rw [if_neg h0] at hh ⊢
              simp only [Option.map_eq_some_iff] at hh ⊢
              obtain ⟨i, hi, rfl⟩ := hh
              exact ⟨i, ih r hi, rfl⟩
      have h5 := happ ((t.drop (p + q)).drop (fin f t p - p - q)) k1
      rw [List.take_append_drop, h2.2.2.2] at h5
      injection h5 with h5
      omega
    · have := this hge
      rw [this] at k1
      injection k1 with k1
      rw [← k1]; exact h2.2.2.2
  rw [k1, k4]
  refine ⟨rfl, ?_⟩
  rw [h2.2.2.2] at k4
  injection k4 with k4
  omega
theorem sub_fin {q : Nat} (hq : p + q < fin f t p) : fin f t (p + q) = p + fin f (sub f t p) q := by
  unfold fin at *
  rw [(sub_drop h hp hq).1]; omega
omit h hp in
theorem sub_at (_ : run f 1 t = some t.length) (_ : p < t.length) {q : Nat} (hq : p + q < fin f t p) : (sub f t p).getD q 0 = t.getD (p + q) 0 := by
  unfold sub
  simp only [List.getD_eq_getElem?_getD]
  rw [List.getElem?_take_of_lt (by omega), List.getElem?_drop]
theorem sub_sub {q : Nat} (hq : p + q < fin f t p) : sub f (sub f t p) q = sub f t (p + q) := by
  have h1 := sub_fin h hp hq
  have h2 := (sub_drop h hp hq).2
  have h3 := fin_of (sub_run h hp) (p := q) (by rw [sub_len h hp]; omega)
  conv => lhs; unfold sub
  rw [show (List.take (fin f t p - p) (List.drop p t)) = sub f t p from rfl]
  unfold sub
  rw [List.drop_take, List.drop_drop, List.take_take]
  congr 1
  have h4 : fin f (List.take (fin f t p - p) (List.drop p t)) q = fin f (sub f t p) q := rfl
  rw [h4]
  omega
theorem sub_argsFrom : ∀ {c q j : Nat}, run f c (t.drop (p + q)) = some j → p + q + j ≤ fin f t p → argsFrom f t c (p + q) = (argsFrom f (sub f t p) c q).map (p + ·)
  | 0, _, _, _, _ => rfl
  | c + 1, q, j, hr, hj => by
    have hF := (fin_of h hp).2.2.1
    obtain ⟨a1, a2, a3, a4⟩ := args_next hr (by omega)
    have hq : p + q < fin f t p := by have := (run_le hr).2; omega
    have e := sub_fin h hp hq
    simp only [argsFrom, List.map_cons]
    rw [e]
    rw [e] at a2 a4
    rw [sub_argsFrom (q := fin f (sub f t p) q) a4 (by omega)]
theorem sub_args {q : Nat} (hq : p + q < fin f t p) : args f t (p + q) = (args f (sub f t p) q).map (p + ·) := by
  have hF := (fin_of h hp).2.2.1
  obtain ⟨a1, a2, a3, a4⟩ := args_start h (p := p + q) (by omega)
  have h2 := (sub_drop h hp hq).2
  unfold args
  rw [sub_at h hp hq]
  exact sub_argsFrom h hp (q := q + 1) a2 (by omega)
theorem sub_depth : ∀ (k : Nat) {q : Nat}, p + q < fin f t p → depth f (sub f t p) k q = depth f t k (p + q)
  | 0, _, _ => rfl
  | k + 1, q, hq => by
    simp only [depth]
    rw [sub_args h hp hq, List.foldl_map]
    congr 1
    refine foldl_congr _ fun d x hx => ?_
    have := args_mem (sub_run h hp) (p := q) (by rw [sub_len h hp]; omega) x hx
    rw [sub_len h hp] at this
    rw [sub_depth k (q := x) (by omega)]
end
/-- The head and the arguments' terms are the term. -/
theorem flat_args {f : Int → Int} {t : List Int} : ∀ {c q j : Nat}, run f c (t.drop q) = some j → q + j ≤ t.length → (argsFrom f t c q).flatMap (sub f t) = (t.drop q).take j
  | 0, q, j, h, _ => by rw [run_zero] at h; cases h; simp [argsFrom]
  | c + 1, q, j, h, hl => by
    obtain ⟨a1, a2, a3, a4⟩ := args_next h hl
    simp only [argsFrom, List.flatMap_cons]
    rw [flat_args a4 (by omega)]
    unfold sub
    obtain ⟨d, hd⟩ : ∃ d, fin f t q = q + d := ⟨fin f t q - q, by omega⟩
    rw [hd]
    have e1 : q + d - q = d := by omega
    have e2 : q + j - (q + d) = j - d := by omega
    rw [e1, e2, ← List.drop_drop, ← List.take_add]
    congr 1
    omega
theorem again_sub {f : Int → Int} {t : List Int} (h : run f 1 t = some t.length) {p : Nat} (hp : p < t.length) : t.getD p 0 :: (args f t p).flatMap (sub f t) = sub f t p := by
  obtain ⟨a1, a2, a3, a4⟩ := args_start h hp
  unfold args
  rw [flat_args a2 (by omega)]
  unfold sub
  rw [List.drop_eq_getElem_cons hp, show fin f t p - p = fin f t p - (p + 1) + 1 by omega, List.take_succ_cons]
  simp [List.getD_eq_getElem?_getD, hp]
theorem depth_args {f : Int → Int} {t : List Int} (h : run f 1 t = some t.length) {p : Nat} (hp : p < t.length) : depth f t t.length p = ((args f t p).foldl (fun d q => max d (depth f t t.length q)) 0) + 1 := by
  obtain ⟨n, hn⟩ : ∃ n, t.length = n + 1 := ⟨t.length - 1, by omega⟩
  rw [hn]
  simp only [depth]
  congr 1
  refine foldl_congr _ fun d x hx => ?_
  have := args_mem h hp x hx
  rw [depth_fuel h n (n + 1) x this.2.2.1 (by omega) (by omega)]
  simp only [depth]
theorem depth_fuel2 {f : Int → Int} {t : List Int} (h : run f 1 t = some t.length) : ∀ (k k' p : Nat), p < t.length → fin f t p - p ≤ k → fin f t p - p ≤ k' → depth f t k p = depth f t k' p
  | 0, k', p, hp, h1, _ => by have := (fin_of h hp).2.1; omega
  | k + 1, 0, p, hp, _, h2 => by have := (fin_of h hp).2.1; omega
  | k + 1, k' + 1, p, hp, h1, h2 => by
    simp only [depth]
    congr 1
    refine foldl_congr _ fun d x hx => ?_
    have := args_mem h hp x hx
    rw [depth_fuel2 h k k' x (by omega) (by omega) (by omega)]
/-- A part's depth, reckoned by itself. -/
theorem sub_dep {f : Int → Int} {t : List Int} (h : run f 1 t = some t.length) {p : Nat} (hp : p < t.length) : depth f (sub f t p) (sub f t p).length 0 = depth f t t.length p := by
  have h1 := fin_of h hp
  rw [sub_depth h hp _ (by omega), Nat.add_zero]
  exact depth_fuel2 h _ _ p hp (by rw [sub_len h hp]; omega) (by omega)
theorem sub_ok {ar t : List Int} (h : termOk ar t = true) {p : Nat} (hp : p < t.length) : termOk ar (sub (ari ar) t p) = true := by
  obtain ⟨hs, hl, hr⟩ := termOk_iff.1 h
  have h1 := fin_of hr hp
  have h2 := sub_len hr hp
  exact termOk_iff.2 ⟨hs, by omega, sub_run hr hp⟩
end Go.Proofs.Ytcjgcopkeeiicaa.Pl
/-! Plain: substitutions, unification. -/

namespace Go.Proofs.Ytcjgcopkeeiicaa.Un
set_option linter.unusedVariables false
/-- A substitution's work on one number, and on a term. -/
def sg (σ : Int → List Int) (v : Int) : List Int := if v < 0 then σ v else [v]
def ap (σ : Int → List Int) (t : List Int) : List Int := t.flatMap (sg σ)
theorem ap_nil (σ : Int → List Int) : ap σ [] = [] := rfl
theorem ap_cons (σ : Int → List Int) (x : Int) (t : List Int) : ap σ (x :: t) = sg σ x ++ ap σ t := by simp [ap]
theorem ap_app (σ : Int → List Int) (s t : List Int) : ap σ (s ++ t) = ap σ s ++ ap σ t := by simp [ap]
theorem ap_one (σ : Int → List Int) (v : Int) : ap σ [v] = sg σ v := by simp [ap]
theorem sg_var {σ : Int → List Int} {v : Int} (h : v < 0) : sg σ v = σ v := if_pos h
theorem sg_sym {σ : Int → List Int} {v : Int} (h : ¬ v < 0) : sg σ v = [v] := if_neg h
theorem ap_ext {σ τ : Int → List Int} {t : List Int} (h : ∀ v ∈ t, v < 0 → σ v = τ v) : ap σ t = ap τ t := by
  induction t with
  | nil => rfl
  | cons x t ih =>
    rw [ap_cons, ap_cons, ih fun v hv => h v (List.mem_cons_of_mem _ hv)]
    congr 1
    unfold sg
    split
    · next h0 => exact h x List.mem_cons_self h0
    · rfl
theorem ap_ap (σ τ : Int → List Int) (t : List Int) : ap τ (ap σ t) = ap (fun v => ap τ (σ v)) t := by
  induction t with
  | nil => rfl
  | cons x t ih =>
    rw [ap_cons, ap_cons, ap_app, ih]
    congr 1
    unfold sg
    split
    · rfl
    · next h0 => rw [ap_one, sg_sym h0]
theorem ap_id (t : List Int) : ap (fun v => [v]) t = t := by
  induction t with
  | nil => rfl
  | cons x t ih => rw [ap_cons, ih]; unfold sg; split <;> rfl

/-- The arity that is meant here: no number of a variable has arguments, no symbol of the terms is unknown. -/
def Ar (f : Int → Int) : Prop := ∀ v, v < 0 → f v = 0
def Tm (f : Int → Int) (t : List Int) : Prop := Pl.run f 1 t = some t.length
theorem Tm.pos {f : Int → Int} {t : List Int} (h : Tm f t) : 1 ≤ t.length := (Pl.run_le h).2
theorem Tm.one {f : Int → Int} (hf : Ar f) {v : Int} (h : v < 0) : Tm f [v] := by
  unfold Tm; simp [Pl.run, hf v h]
/-- Substitutions that give terms. -/
def Su (f : Int → Int) (σ : Int → List Int) : Prop := ∀ v, v < 0 → Tm f (σ v)
theorem run_ext {f : Int → Int} : ∀ {l : List Int} {m j : Nat} (r : List Int), Pl.run f m l = some j → Pl.run f m (l ++ r) = some j
  | [], 0, j, r, h => by rw [Pl.run_zero] at h ⊢; exact h
  | [], m + 1, j, r, h => by simp [Pl.run] at h
  | x :: xs, 0, j, r, h => by rw [Pl.run_zero] at h ⊢; exact h
  | x :: xs, m + 1, j, r, h => by
    simp only [List.cons_append, Pl.run] at h ⊢
    by_cases h0 : f x < 0
    · rw [if_pos h0] at h; cases h
    · rw [if_neg h0] at h ⊢
      simp only [Option.map_eq_some_iff] at h ⊢
      obtain ⟨i, hi, rfl⟩ := h
      exact ⟨i, run_ext r hi, rfl⟩
/-- Terms can be read in one way only. -/
theorem tm_split {f : Int → Int} {a b r s : List Int} (ha : Tm f a) (hb : Tm f b) (h : a ++ r = b ++ s) : a = b ∧ r = s := by
  have h1 := run_ext r ha
  have h2 := run_ext s hb
  rw [h, h2] at h1
  injection h1 with h1
  exact List.append_inj h h1.symm
theorem run_ap {f : Int → Int} (hf : Ar f) {σ : Int → List Int} (hs : Su f σ) : ∀ {t : List Int} {m : Nat}, Pl.run f m t = some t.length → Pl.run f m (ap σ t) = some (ap σ t).length
  | [], m, h => by
    cases m with
    | zero => rfl
    | succ m => simp [Pl.run] at h
  | x :: t, 0, h => by rw [Pl.run_zero] at h; simp at h
  | x :: t, m + 1, h => by
    simp only [Pl.run] at h
    by_cases h0 : f x < 0
    · rw [if_pos h0] at h; cases h
    · rw [if_neg h0] at h
      simp only [Option.map_eq_some_iff, List.length_cons] at h
      obtain ⟨j, hj, hj2⟩ := h
      obtain rfl : j = t.length := by omega
      have ih := run_ap hf hs hj
      rw [ap_cons]
      by_cases hx : x < 0
      · rw [sg_var hx]
        have e : f x = 0 := hf x hx
        rw [e, Int.toNat_zero, Nat.add_zero] at ih
        have h1 := run_ext (ap σ t) (hs x hx)
        rw [show m + 1 = 1 + m by omega, Pl.run_add, h1]
        simp [ih]
      · rw [sg_sym hx]
        show Pl.run f (m + 1) (x :: ap σ t) = _
        simp only [Pl.run]
        rw [if_neg h0, ih]
        simp
theorem Tm.ap {f : Int → Int} (hf : Ar f) {σ : Int → List Int} (hs : Su f σ) {t : List Int} (h : Tm f t) : Tm f (ap σ t) := run_ap hf hs h
theorem ap_pos {f : Int → Int} {σ : Int → List Int} (hs : Su f σ) (t : List Int) : t.length ≤ (Un.ap σ t).length := by
  induction t with
  | nil => simp [Un.ap]
  | cons x t ih =>
    rw [ap_cons, List.length_append, List.length_cons]
    have : 1 ≤ (sg σ x).length := by
      unfold sg; split
      · next h => exact (hs x h).pos
      · simp
    omega
/-- Lists of terms that are the same when they are written one behind the other. -/
theorem tms_eq {f : Int → Int} {g : List Int → List Int} : ∀ {us vs : List (List Int)}, us.length = vs.length → (∀ u ∈ us, Tm f (g u)) → (∀ v ∈ vs, Tm f (g v)) → (us.flatMap g = vs.flatMap g ↔ ∀ i, i < us.length → g (us.getD i []) = g (vs.getD i []))
  | [], [], _, _, _ => by simp
  | [], v :: vs, h, _, _ => by simp at h
  | u :: us, [], h, _, _ => by simp at h
  | u :: us, v :: vs, h, hu, hv => by
    have ih := tms_eq (us := us) (vs := vs) (by simpa using h) (fun x hx => hu x (List.mem_cons_of_mem _ hx)) (fun x hx => hv x (List.mem_cons_of_mem _ hx))
    simp only [List.flatMap_cons]
    constructor
    · intro e
      obtain ⟨e1, e2⟩ := tm_split (hu u List.mem_cons_self) (hv v List.mem_cons_self) e
      intro i hi
      cases i with
      | zero => simpa using e1
      | succ i => simpa using ih.1 e2 i (by simpa using hi)
    · intro e
      have e1 := e 0 (by simp)
      have e2 := ih.2 fun i hi => by simpa using e (i + 1) (by simpa using hi)
      simp at e1
      rw [e1, e2]
/-- The arguments' terms. -/
def parts (f : Int → Int) (t : List Int) : List (List Int) := (Pl.args f t 0).map (Pl.sub f t)
theorem parts_len {f : Int → Int} {t : List Int} : (parts f t).length = (f (t.getD 0 0)).toNat := by
  unfold parts Pl.args; rw [List.length_map, Pl.argsFrom_length]
theorem sub_all {f : Int → Int} {t : List Int} (h : Tm f t) : Pl.sub f t 0 = t := by
  unfold Pl.sub Pl.fin
  simp only [List.drop_zero]
  have h : Pl.run f 1 t = some t.length := h
  rw [h]
  simp
theorem parts_flat {f : Int → Int} {t : List Int} (h : Tm f t) : t.getD 0 0 :: (parts f t).flatMap id = t := by
  have := Pl.again_sub h (p := 0) (by have := h.pos; omega)
  rw [sub_all h] at this
  unfold parts
  rw [List.flatMap_map]
  exact this
theorem parts_tm {f : Int → Int} {t : List Int} (h : Tm f t) : ∀ u ∈ parts f t, Tm f u := by
  intro u hu
  unfold parts at hu
  obtain ⟨q, hq, rfl⟩ := List.mem_map.1 hu
  exact Pl.sub_run h ((Pl.args_mem h (by have := h.pos; omega) q hq).2.2.1)
theorem ap_flat (σ : Int → List Int) (us : List (List Int)) : ap σ (us.flatMap id) = us.flatMap (ap σ) := by
  induction us with
  | nil => rfl
  | cons u us ih => simp only [List.flatMap_cons, ap_app, ih, id]
theorem tm_ap_parts {f : Int → Int} {t : List Int} (h : Tm f t) (σ : Int → List Int) : ap σ t = sg σ (t.getD 0 0) ++ (parts f t).flatMap (ap σ) := by
  conv => lhs; rw [← parts_flat h, ap_cons, ap_flat]
/-- Two terms with heads that are symbols are made the same iff the heads are the same and the arguments are made the same. -/
theorem ap_heads {f : Int → Int} (hf : Ar f) {σ : Int → List Int} (hs : Su f σ) {a b : List Int} (ha : Tm f a) (hb : Tm f b) (h0 : ¬ a.getD 0 0 < 0) (h1 : ¬ b.getD 0 0 < 0) :
    ap σ a = ap σ b ↔ a.getD 0 0 = b.getD 0 0 ∧ ∀ i, i < (parts f a).length → ap σ ((parts f a).getD i []) = ap σ ((parts f b).getD i []) := by
  rw [tm_ap_parts ha, tm_ap_parts hb, sg_sym h0, sg_sym h1]
  simp only [List.singleton_append, List.cons.injEq]
  constructor
  · rintro ⟨e, e2⟩
    exact ⟨e, (tms_eq (f := f) (by rw [parts_len, parts_len, e]) (fun u hu => (parts_tm ha u hu).ap hf hs) (fun u hu => (parts_tm hb u hu).ap hf hs)).1 e2⟩
  · rintro ⟨e, e2⟩
    exact ⟨e, (tms_eq (f := f) (by rw [parts_len, parts_len, e]) (fun u hu => (parts_tm ha u hu).ap hf hs) (fun u hu => (parts_tm hb u hu).ap hf hs)).2 e2⟩

/-- Terms of variables. -/
abbrev Bd := Nat → List Int
def ix (v : Int) : Nat := (-1 - v).toNat
def vr (i : Nat) : Int := -1 - (i : Int)
theorem vr_neg (i : Nat) : vr i < 0 := by unfold vr; omega
theorem ix_vr (i : Nat) : ix (vr i) = i := by unfold ix vr; omega
theorem vr_ix {v : Int} (h : v < 0) : vr (ix v) = v := by unfold ix vr; omega
def put (B : Bd) (i : Nat) (t : List Int) : Bd := fun j => if j = i then t else B j
theorem put_same (B : Bd) (i : Nat) (t : List Int) : put B i t i = t := if_pos rfl
theorem put_other {B : Bd} {i j : Nat} {t : List Int} (h : j ≠ i) : put B i t j = B j := if_neg h
/-- What a term of the terms at work looks like: its variables are the first n. -/
def In (n : Nat) (t : List Int) : Prop := ∀ v ∈ t, v < 0 → ix v < n
structure Good (f : Int → Int) (n : Nat) (B : Bd) (σ : Int → List Int) (rk : Int → Nat) : Prop where
  su : Su f σ
  free : ∀ v, v < 0 → B (ix v) = [] → σ v = [v]
  has : ∀ v, v < 0 → B (ix v) ≠ [] → Tm f (B (ix v)) ∧ In n (B (ix v)) ∧ σ v = ap σ (B (ix v)) ∧ ∀ w ∈ B (ix v), w < 0 → rk w < rk v
  out : ∀ i, n ≤ i → B i = []
/-- It solves what has been laid down. -/
def Sol (f : Int → Int) (τ : Int → List Int) (B : Bd) : Prop := Su f τ ∧ ∀ v, v < 0 → B (ix v) ≠ [] → τ v = ap τ (B (ix v))
theorem good_zero {f : Int → Int} (hf : Ar f) (n : Nat) : Good f n (fun _ => []) (fun v => [v]) (fun _ => 0) :=
  ⟨fun v h => Tm.one hf h, fun v _ _ => rfl, fun v _ h => absurd rfl h, fun _ _ => rfl⟩
theorem sol_zero {f : Int → Int} {τ : Int → List Int} (h : Su f τ) : Sol f τ (fun _ => []) := ⟨h, fun v _ h => absurd rfl h⟩
section
variable {f : Int → Int} {n : Nat} {B : Bd} {σ : Int → List Int} {rk : Int → Nat}
/-- The own solution. -/
theorem Good.sol (g : Good f n B σ rk) : Sol f σ B := ⟨g.su, fun v h hb => (g.has v h hb).2.2.1⟩
/-- Every solution goes over the own one. -/
theorem sol_over (g : Good f n B σ rk) {τ : Int → List Int} (h : Sol f τ B) : ∀ (k : Nat) (v : Int), v < 0 → rk v ≤ k → τ v = ap τ (σ v)
  | k, v, hv, hk => by
    by_cases hb : B (ix v) = []
    · rw [g.free v hv hb, ap_one, sg_var hv]
    · obtain ⟨h1, _, h2, h3⟩ := g.has v hv hb
      rw [h.2 v hv hb, h2, ap_ap]
      refine ap_ext fun w hw h0 => ?_
      have := h3 w hw h0
      cases k with
      | zero => omega
      | succ k => exact sol_over g h k w h0 (by omega)
theorem sol_ap (g : Good f n B σ rk) {τ : Int → List Int} (h : Sol f τ B) (t : List Int) : ap τ (ap σ t) = ap τ t := by
  rw [ap_ap]
  exact ap_ext fun v _ h0 => (sol_over g h (rk v) v h0 (Nat.le_refl _)).symm
theorem own_twice (g : Good f n B σ rk) (t : List Int) : ap σ (ap σ t) = ap σ t := sol_ap g g.sol t
theorem mem_ap {σ : Int → List Int} {t : List Int} {x : Int} : x ∈ ap σ t ↔ ∃ v ∈ t, x ∈ sg σ v := by simp [ap, List.mem_flatMap]
/-- What the own solution leaves is free. -/
theorem own_free (g : Good f n B σ rk) : ∀ (k : Nat) (v : Int), v < 0 → rk v ≤ k → ∀ x ∈ σ v, x < 0 → B (ix x) = []
  | k, v, hv, hk, x, hx, h0 => by
    by_cases hb : B (ix v) = []
    · rw [g.free v hv hb] at hx
      obtain rfl : x = v := by simpa using hx
      exact hb
    · obtain ⟨h1, _, h2, h3⟩ := g.has v hv hb
      rw [h2, mem_ap] at hx
      obtain ⟨w, hw, hx⟩ := hx
      by_cases hw0 : w < 0
      · rw [sg_var hw0] at hx
        have := h3 w hw hw0
        cases k with
        | zero => omega
        | succ k => exact own_free g k w hw0 (by omega) x hx h0
      · rw [sg_sym hw0] at hx
        obtain rfl : x = w := by simpa using hx
        exact absurd h0 hw0
/-- A new term for a variable that has none and does not stand in it. -/
theorem good_put (hf : Ar f) (g : Good f n B σ rk) {x : Int} (hx : x < 0) (hxn : ix x < n) (hb : B (ix x) = []) {t : List Int} (ht : Tm f t) (hin : In n t) (ho : x ∉ ap σ t) :
    ∃ σ' rk', Good f n (put B (ix x) t) σ' rk' := by
  have hte : t ≠ [] := by intro e; have := ht.pos; simp [e] at this
  obtain ⟨M, hM⟩ : ∃ M : Nat, ∀ w ∈ t, rk w < M := by
    clear ht hin ho hte
    induction t with
    | nil => exact ⟨0, by simp⟩
    | cons y t ih =>
      obtain ⟨M, hM⟩ := ih
      refine ⟨max M (rk y + 1), fun w hw => ?_⟩
      rcases List.mem_cons.1 hw with rfl | hw
      · omega
      · have := hM w hw; omega
  have hone : ∀ v, v < 0 → Tm f (if v = x then ap σ t else [v]) := by
    intro v hv; split
    · exact ht.ap hf g.su
    · exact Tm.one hf hv
  have hfix : ∀ u : List Int, x ∉ u → ap (fun v => if v = x then ap σ t else [v]) u = u := by
    intro u hu
    conv => rhs; rw [← ap_id u]
    exact ap_ext fun v hv _ => if_neg fun e => hu (by rw [← e]; exact hv)
  refine ⟨fun v => ap (fun v => if v = x then ap σ t else [v]) (σ v), fun v => rk v + if x ∈ σ v then M else 0, ⟨fun v hv => (g.su v hv).ap hf hone, fun v hv hB => ?_, fun v hv hB => ?_, fun i hi => ?_⟩⟩
  · have hne : ix v ≠ ix x := fun e => by rw [e, put_same] at hB; exact hte hB
    rw [put_other hne] at hB
    show ap _ (σ v) = [v]
    rw [g.free v hv hB]
    refine hfix _ fun e => hne ?_
    obtain rfl : x = v := by simpa using e
    rfl
  · by_cases he : ix v = ix x
    · obtain rfl : v = x := by rw [← vr_ix hv, he, vr_ix hx]
      rw [put_same]
      refine ⟨ht, hin, ?_, fun w hw h0 => ?_⟩
      · show ap _ (σ v) = _
        rw [g.free v hv hb, ap_one, sg_var hv, if_pos rfl, ← ap_ap]
        exact (hfix _ ho).symm
      · have h1 : v ∉ σ w := fun e => ho (mem_ap.2 ⟨w, hw, by rw [sg_var h0]; exact e⟩)
        have h2 : v ∈ σ v := by rw [g.free v hv hb]; simp
        show rk w + (if v ∈ σ w then M else 0) < rk v + (if v ∈ σ v then M else 0)
        rw [if_neg h1, if_pos h2]
        have := hM w hw
        omega
    · rw [put_other he] at hB ⊢
      obtain ⟨h1, h2, h3, h4⟩ := g.has v hv hB
      refine ⟨h1, h2, ?_, fun w hw h0 => ?_⟩
      · show ap _ (σ v) = _
        rw [h3, ap_ap]
      · have := h4 w hw h0
        show rk w + (if x ∈ σ w then M else 0) < rk v + (if x ∈ σ v then M else 0)
        by_cases hw1 : x ∈ σ w
        · have hv1 : x ∈ σ v := by rw [h3]; exact mem_ap.2 ⟨w, hw, by rw [sg_var h0]; exact hw1⟩
          rw [if_pos hw1, if_pos hv1]; omega
        · rw [if_neg hw1]; omega
  · rw [put_other (by omega)]
    exact g.out i hi
theorem sol_put {x : Int} (hx : x < 0) (hb : B (ix x) = []) {t : List Int} (ht : Tm f t) {τ : Int → List Int} : Sol f τ (put B (ix x) t) ↔ Sol f τ B ∧ τ x = ap τ t := by
  have hte : t ≠ [] := by intro e; have := ht.pos; simp [e] at this
  constructor
  · rintro ⟨h1, h2⟩
    refine ⟨⟨h1, fun v hv hB => ?_⟩, ?_⟩
    · have hne : ix v ≠ ix x := fun e => hB (e ▸ hb)
      have := h2 v hv (by rw [put_other hne]; exact hB)
      rwa [put_other hne] at this
    · have := h2 x hx (by rw [put_same]; exact hte)
      rwa [put_same] at this
  · rintro ⟨⟨h1, h2⟩, h3⟩
    refine ⟨h1, fun v hv hB => ?_⟩
    by_cases he : ix v = ix x
    · obtain rfl : v = x := by rw [← vr_ix hv, he, vr_ix hx]
      rw [put_same]; exact h3
    · rw [put_other he] at hB ⊢
      exact h2 v hv hB
/-- No solution where a variable would stand within its own term. -/
theorem ap_mem_len {τ : Int → List Int} (hs : Su f τ) {x : Int} (hx : x < 0) : ∀ {u : List Int}, x ∈ u → (τ x).length + (u.length - 1) ≤ (ap τ u).length
  | y :: u, h => by
    rw [ap_cons, List.length_append, List.length_cons]
    by_cases he : y = x
    · subst he
      rw [sg_var hx]
      have := ap_pos hs u
      omega
    · have hu : x ∈ u := by rcases List.mem_cons.1 h with e | e; exact absurd e.symm he; exact e
      have h1 := ap_mem_len hs hx hu
      have h2 : 1 ≤ (sg τ y).length := by
        unfold sg; split
        · next h => exact (hs y h).pos
        · simp
      have : 1 ≤ u.length := List.length_pos_of_mem hu
      omega
theorem sol_none (g : Good f n B σ rk) {x : Int} (hx : x < 0) {t : List Int} (ht : Tm f t) (h0 : ¬ t.getD 0 0 < 0) (ho : x ∈ ap σ t) {τ : Int → List Int} (h : Sol f τ B) : τ x ≠ ap τ t := by
  intro e
  rw [← sol_ap g h t] at e
  have h1 := ap_mem_len h.1 hx ho
  have h2 : 2 ≤ (ap σ t).length := by
    have hp := ht.pos
    cases t with
    | nil => simp at hp
    | cons y t =>
      have hy : ¬ y < 0 := h0
      rw [ap_cons, sg_sym hy] at ho ⊢
      rcases List.mem_cons.1 ho with e | e
      · omega
      · have : 1 ≤ (ap σ t).length := List.length_pos_of_mem e
        simp; omega
  have := congrArg List.length e
  omega
end
/-- A variable, or a term with a head that is a symbol. -/
theorem tm_var {f : Int → Int} (hf : Ar f) {t : List Int} (h : Tm f t) (h0 : t.getD 0 0 < 0) : t = [t.getD 0 0] := by
  have hp := h.pos
  cases t with
  | nil => simp at hp
  | cons y t =>
    have hy : y < 0 := h0
    have h1 := run_ext t (Tm.one hf hy)
    unfold Tm at h
    rw [show [y] ++ t = y :: t from rfl, h] at h1
    injection h1 with h1
    simp at h1
    simp [h1]
/-- How many variables are still free. -/
def free (n : Nat) (B : Bd) : Nat := ((List.range n).filter fun i => decide (B i = [])).length
theorem free_put {n : Nat} {B : Bd} {i : Nat} (hi : i < n) (hb : B i = []) {t : List Int} (ht : t ≠ []) : free n (put B i t) + 1 = free n B := by
  unfold free
  induction n with
  | zero => omega
  | succ n ih =>
    simp only [List.range_succ, List.filter_append, List.length_append]
    by_cases he : i = n
    · subst he
      have e1 : ((List.range i).filter fun j => decide (put B i t j = [])) = ((List.range i).filter fun j => decide (B j = [])) :=
        List.filter_congr fun j hj => by rw [put_other (by have := List.mem_range.1 hj; omega)]
      rw [e1]
      simp [put_same, hb, ht]
    · have := ih (by omega)
      rw [List.filter_cons, List.filter_cons, put_other (by omega : n ≠ i)]
      simp only [List.filter_nil]
      omega
theorem free_le (n : Nat) (B : Bd) : free n B ≤ n := by
  unfold free
  exact Nat.le_trans (List.length_filter_le _ _) (by simp)
/-- Found by no way: a set of variables that is closed under what they have. -/
theorem not_occurs {f : Int → Int} {n : Nat} {B : Bd} {σ : Int → List Int} {rk : Int → Nat} (g : Good f n B σ rk) {x : Int} (hx : x < 0) {S : Int → Prop}
    (hS : ∀ w, w < 0 → S w → B (ix w) ≠ [] → x ∉ B (ix w) ∧ ∀ u ∈ B (ix w), u < 0 → B (ix u) ≠ [] → S u) {t : List Int} (h1 : x ∉ t) (h2 : ∀ u ∈ t, u < 0 → B (ix u) ≠ [] → S u) : x ∉ ap σ t := by
  have key : ∀ (k : Nat) (v : Int), v < 0 → v ≠ x → (B (ix v) ≠ [] → S v) → rk v ≤ k → x ∉ σ v := by
    intro k
    induction k with
    | zero =>
      intro v hv hne hs hk
      by_cases hb : B (ix v) = []
      · rw [g.free v hv hb]; simpa using fun e => hne e.symm
      · obtain ⟨_, _, h3, h4⟩ := g.has v hv hb
        obtain ⟨a1, a2⟩ := hS v hv (hs hb) hb
        rw [h3, mem_ap]
        rintro ⟨w, hw, hxw⟩
        by_cases hw0 : w < 0
        · have := h4 w hw hw0; omega
        · rw [sg_sym hw0] at hxw
          obtain rfl : x = w := by simpa using hxw
          exact a1 hw
    | succ k ih =>
      intro v hv hne hs hk
      by_cases hb : B (ix v) = []
      · rw [g.free v hv hb]; simpa using fun e => hne e.symm
      · obtain ⟨_, _, h3, h4⟩ := g.has v hv hb
        obtain ⟨a1, a2⟩ := hS v hv (hs hb) hb
        rw [h3, mem_ap]
        rintro ⟨w, hw, hxw⟩
        by_cases hw0 : w < 0
        · have := h4 w hw hw0
          rw [sg_var hw0] at hxw
          exact ih w hw0 (fun e => a1 (e ▸ hw)) (a2 w hw hw0) (by omega) hxw
        · rw [sg_sym hw0] at hxw
          obtain rfl : x = w := by simpa using hxw
          exact a1 hw
  rw [mem_ap]
  rintro ⟨w, hw, hxw⟩
  by_cases hw0 : w < 0
  · rw [sg_var hw0] at hxw
    exact key (rk w) w hw0 (fun e => h1 (e ▸ hw)) (h2 w hw hw0) (Nat.le_refl _) hxw
  · rw [sg_sym hw0] at hxw
    obtain rfl : x = w := by simpa using hxw
    exact h1 hw
/-- Two own solutions of the same: each goes over the other, so what they make differs by names alone. -/
theorem variant {f : Int → Int} {σ1 σ2 : Int → List Int} (s1 : Su f σ1) (s2 : Su f σ2) : ∀ {s : List Int}, ap σ1 (ap σ2 s) = s → ∀ x ∈ s, sg σ2 x = [(sg σ2 x).getD 0 0] ∧ sg σ1 ((sg σ2 x).getD 0 0) = [x]
  | [], _, x, hx => by simp at hx
  | y :: s, h, x, hx => by
    rw [ap_cons, ap_app] at h
    have l1 : 1 ≤ (sg σ2 y).length := by
      unfold sg; split
      · next h => exact (s2 y h).pos
      · simp
    have l2 := ap_pos s1 (sg σ2 y)
    have l3 := ap_pos s1 (ap σ2 s)
    have l4 := ap_pos s2 s
    have l5 := congrArg List.length h
    simp only [List.length_append, List.length_cons] at l5
    obtain ⟨e1, e2⟩ := List.append_inj (s₁ := ap σ1 (sg σ2 y)) (s₂ := [y]) (t₁ := ap σ1 (ap σ2 s)) (t₂ := s) h (by rw [List.length_singleton]; omega)
    rcases List.mem_cons.1 hx with rfl | hx
    · obtain ⟨z, hz⟩ : ∃ z, sg σ2 x = [z] := List.length_eq_one_iff.1 (by omega)
      rw [hz] at e1 ⊢
      rw [ap_one] at e1
      exact ⟨rfl, e1⟩
    · exact variant s1 s2 e2 x hx
theorem variant_map {f : Int → Int} {σ1 σ2 : Int → List Int} (s1 : Su f σ1) (s2 : Su f σ2) {s : List Int} (h : ap σ1 (ap σ2 s) = s) : ap σ2 s = s.map fun x => (sg σ2 x).getD 0 0 := by
  have := variant s1 s2 h
  clear h
  induction s with
  | nil => rfl
  | cons y s ih =>
    rw [ap_cons, List.map_cons, ih fun x hx => this x (List.mem_cons_of_mem _ hx)]
    conv => lhs; rw [(this y List.mem_cons_self).1]
    rfl
end Go.Proofs.Ytcjgcopkeeiicaa.Un
/-! Plain: the steps of unification. -/

namespace Go.Proofs.Ytcjgcopkeeiicaa.Un
set_option linter.unusedVariables false

/-- A term of the solver. -/
def WT (f : Int → Int) (t : List Int) : Prop := Tm f t ∧ In 48 t
def hd (t : List Int) : Int := t.getD 0 0
theorem hd_mem {f : Int → Int} {t : List Int} (h : Tm f t) : hd t ∈ t := Pl.getD_mem h.pos
theorem WT.ix {f : Int → Int} {t : List Int} (h : WT f t) (h0 : hd t < 0) : ix (hd t) < 48 := h.2 _ (hd_mem h.1) h0
theorem ix_neg {x : Int} (h : x < 0) : (ix x : Int) = -1 - x := by unfold ix; omega

/-- The chain from a term to its root, by its length. -/
def RoN (B : Bd) : Nat → List Int → List Int → Prop
  | 0, t, u => u = t ∧ ¬ (hd t < 0 ∧ B (ix (hd t)) ≠ [])
  | k + 1, t, u => hd t < 0 ∧ B (ix (hd t)) ≠ [] ∧ RoN B k (B (ix (hd t))) u
def Ro (B : Bd) (t u : List Int) : Prop := ∃ k, RoN B k t u
theorem roN_det {B : Bd} : ∀ {k k' : Nat} {t u u' : List Int}, RoN B k t u → RoN B k' t u' → u = u'
  | 0, 0, t, u, u', h, h' => by rw [h.1, h'.1]
  | 0, k' + 1, t, u, u', h, h' => absurd ⟨h'.1, h'.2.1⟩ h.2
  | k + 1, 0, t, u, u', h, h' => absurd ⟨h.1, h.2.1⟩ h'.2
  | k + 1, k' + 1, t, u, u', h, h' => roN_det h.2.2 h'.2.2
theorem Ro.det {B : Bd} {t u u' : List Int} (h : Ro B t u) (h' : Ro B t u') : u = u' := by
  obtain ⟨k, h⟩ := h
  obtain ⟨k', h'⟩ := h'
  exact roN_det h h'
section
variable {f : Int → Int} {B : Bd} {σ : Int → List Int} {rk : Int → Nat}
theorem Good.inB (g : Good f 48 B σ rk) (i : Nat) : In 48 (B i) := by
  by_cases hb : B i = []
  · rw [hb]; intro v hv; cases hv
  · have := g.has (vr i) (vr_neg i) (by rw [ix_vr]; exact hb)
    rw [ix_vr] at this
    exact this.2.1
theorem Good.wt (g : Good f 48 B σ rk) {i : Nat} (hb : B i ≠ []) : WT f (B i) := by
  have := g.has (vr i) (vr_neg i) (by rw [ix_vr]; exact hb)
  rw [ix_vr] at this
  exact ⟨this.1, this.2.1⟩
theorem ro_ex (hf : Ar f) (g : Good f 48 B σ rk) : ∀ (n : Nat) {t : List Int}, WT f t → (hd t < 0 → rk (hd t) ≤ n) →
    ∃ k u, RoN B k t u ∧ WT f u ∧ (hd u < 0 → B (ix (hd u)) = []) ∧ ∀ τ, Sol f τ B → ap τ u = ap τ t := by
  intro n
  induction n with
  | zero =>
    intro t ht hk
    by_cases hs : hd t < 0 ∧ B (ix (hd t)) ≠ []
    · obtain ⟨h1, h2⟩ := hs
      have hw := g.wt h2
      obtain ⟨_, _, h4, h5⟩ := g.has _ h1 h2
      have hne : ¬ hd (B (ix (hd t))) < 0 := fun h0 => by
        have := h5 _ (hd_mem hw.1) h0
        have := hk h1
        omega
      refine ⟨1, _, ⟨h1, h2, rfl, fun h => hne h.1⟩, hw, fun h => absurd h hne, fun τ hτ => ?_⟩
      have e : t = [hd t] := tm_var hf ht.1 h1
      have e2 := hτ.2 _ h1 h2
      conv => rhs; rw [e, ap_one]
      rw [sg_var h1]
      exact e2.symm
    · exact ⟨0, t, ⟨rfl, hs⟩, ht, fun h0 => Classical.byContradiction fun hb => hs ⟨h0, hb⟩, fun _ _ => rfl⟩
  | succ n ih =>
    intro t ht hk
    by_cases hs : hd t < 0 ∧ B (ix (hd t)) ≠ []
    · obtain ⟨h1, h2⟩ := hs
      have hw := g.wt h2
      obtain ⟨_, _, h4, h5⟩ := g.has _ h1 h2
      obtain ⟨k, u, a1, a2, a3, a4⟩ := ih hw fun h0 => by
        have := h5 _ (hd_mem hw.1) h0
        have := hk h1
        omega
      refine ⟨k + 1, u, ⟨h1, h2, a1⟩, a2, a3, fun τ hτ => (a4 τ hτ).trans ?_⟩
      have e : t = [hd t] := tm_var hf ht.1 h1
      have e2 := hτ.2 _ h1 h2
      conv => rhs; rw [e, ap_one]
      rw [sg_var h1]
      exact e2.symm
    · exact ⟨0, t, ⟨rfl, hs⟩, ht, fun h0 => Classical.byContradiction fun hb => hs ⟨h0, hb⟩, fun _ _ => rfl⟩
theorem root_ex (hf : Ar f) (g : Good f 48 B σ rk) {t : List Int} (ht : WT f t) :
    ∃ k u, RoN B k t u ∧ WT f u ∧ (hd u < 0 → B (ix (hd u)) = []) ∧ ∀ τ, Sol f τ B → ap τ u = ap τ t := ro_ex hf g (rk (hd t)) ht fun _ => Nat.le_refl _
end

/-! The variables that have been seen. -/
def mark (S : Nat → Bool) (i : Nat) : Nat → Bool := fun j => decide (j = i) || S j
theorem mark_same (S : Nat → Bool) (i : Nat) : mark S i i = true := by simp [mark]
theorem mark_sub {S : Nat → Bool} {i j : Nat} (h : S j = true) : mark S i j = true := by simp [mark, h]
theorem mark_inv {S : Nat → Bool} {i j : Nat} (h : mark S i j = true) : j = i ∨ S j = true := by simpa [mark] using h
def un (S : Nat → Bool) : Nat := ((List.range 48).filter fun i => !S i).length
theorem filter_len_le {α : Type} {p q : α → Bool} (h : ∀ a, p a = true → q a = true) : ∀ l : List α, (l.filter p).length ≤ (l.filter q).length
  | [] => Nat.le_refl _
  | a :: l => by
    have ih := filter_len_le h l
    rw [List.filter_cons, List.filter_cons]
    by_cases hp : p a = true
    · rw [if_pos hp, if_pos (h a hp)]; simp; exact ih
    · rw [if_neg hp]
      split
      · simp; omega
      · exact ih
theorem un_le {S S' : Nat → Bool} (h : ∀ i, S i = true → S' i = true) : un S' ≤ un S := by
  unfold un
  refine filter_len_le (fun a ha => ?_) _
  cases hs : S a
  · rfl
  · rw [h a hs] at ha; exact ha
theorem un_mark {S : Nat → Bool} {i : Nat} (hi : i < 48) (h : S i = false) : un (mark S i) + 1 = un S := by
  unfold un
  generalize 48 = n at hi
  induction n with
  | zero => omega
  | succ n ih =>
    rw [List.range_succ, List.filter_append, List.filter_append, List.length_append, List.length_append]
    by_cases he : i = n
    · subst he
      have e1 : (List.range i).filter (fun j => !mark S i j) = (List.range i).filter (fun j => !S j) :=
        List.filter_congr fun j hj => by
          have := List.mem_range.1 hj
          have : ¬ j = i := by omega
          simp [mark, this]
      rw [e1]
      simp [mark, h]
    · have := ih (by omega)
      have e2 : [n].filter (fun j => !mark S i j) = [n].filter (fun j => !S j) := by
        have : ¬ n = i := fun e => he e.symm
        simp [mark, List.filter_cons, this]
      rw [e2]
      omega
theorem un_pos {S : Nat → Bool} {i : Nat} (hi : i < 48) (h : S i = false) : 1 ≤ un S := by have := un_mark hi h; omega
theorem un_bd (S : Nat → Bool) : un S ≤ 48 := by unfold un; exact Nat.le_trans (List.length_filter_le _ _) (by simp)
/-- What has been seen between two times is closed. -/
structure Cl (B : Bd) (x : Int) (S S' : Nat → Bool) : Prop where
  sub : ∀ i, S i = true → S' i = true
  cl : ∀ i, S' i = true → S i = false → x ∉ B i ∧ ∀ v ∈ B i, v < 0 → S' (ix v) = true
def Cov (x : Int) (S : Nat → Bool) (l : List Int) : Prop := x ∉ l ∧ ∀ v ∈ l, v < 0 → S (ix v) = true
theorem Cl.refl (B : Bd) (x : Int) (S : Nat → Bool) : Cl B x S S := ⟨fun _ h => h, fun i h h' => by rw [h] at h'; cases h'⟩
theorem Cov.mono {x : Int} {S S' : Nat → Bool} {l : List Int} (h : Cov x S l) (hs : ∀ i, S i = true → S' i = true) : Cov x S' l := ⟨h.1, fun v hv h0 => hs _ (h.2 v hv h0)⟩
theorem Cov.nil (x : Int) (S : Nat → Bool) : Cov x S [] := ⟨by simp, by simp⟩
theorem Cov.snoc {x : Int} {S : Nat → Bool} {l : List Int} {y : Int} (h : Cov x S l) (h1 : y ≠ x) (h2 : y < 0 → S (ix y) = true) : Cov x S (l ++ [y]) := by
  refine ⟨fun h0 => ?_, fun v hv h0 => ?_⟩
  · rcases List.mem_append.1 h0 with h0 | h0
    · exact h.1 h0
    · exact h1 (List.mem_singleton.1 h0).symm
  · rcases List.mem_append.1 hv with hv | hv
    · exact h.2 v hv h0
    · obtain rfl : v = y := by simpa using hv
      exact h2 h0
theorem Cl.nil {B : Bd} {x : Int} {S S1 : Nat → Bool} (h : Cl B x S S1) {i : Nat} (hb : B i = []) : Cl B x S (mark S1 i) := by
  refine ⟨fun j hj => mark_sub (h.sub j hj), fun j hj hj' => ?_⟩
  rcases mark_inv hj with rfl | hj
  · rw [hb]; exact ⟨by simp, by simp⟩
  · obtain ⟨h1, h2⟩ := h.cl j hj hj'
    exact ⟨h1, fun v hv h0 => mark_sub (h2 v hv h0)⟩
theorem Cl.rec_ {B : Bd} {x : Int} {S S1 S2 : Nat → Bool} (h : Cl B x S S1) {i : Nat} (h2 : Cl B x (mark S1 i) S2) (hc : Cov x S2 (B i)) : Cl B x S S2 := by
  refine ⟨fun j hj => h2.sub j (mark_sub (h.sub j hj)), fun j hj hj' => ?_⟩
  by_cases he : j = i
  · subst he; exact hc
  · cases hm : S1 j
    · exact h2.cl j hj (by simp [mark, he, hm])
    · obtain ⟨h3, h4⟩ := h.cl j hm hj'
      exact ⟨h3, fun v hv h0 => h2.sub _ (mark_sub (h4 v hv h0))⟩
section
variable {f : Int → Int} {B : Bd} {σ : Int → List Int} {rk : Int → Nat}
theorem occ_mem (g : Good f 48 B σ rk) {x : Int} (hx : x < 0) (hb : B (ix x) = []) {t : List Int} (h : x ∈ t) : x ∈ ap σ t :=
  mem_ap.2 ⟨x, h, by rw [sg_var hx, g.free x hx hb]; simp⟩
theorem occ_deep (g : Good f 48 B σ rk) {x y : Int} (hy : y < 0) (hb : B (ix y) ≠ []) {t : List Int} (h : y ∈ t) (ho : x ∈ ap σ (B (ix y))) : x ∈ ap σ t :=
  mem_ap.2 ⟨y, h, by rw [sg_var hy, (g.has y hy hb).2.2.1]; exact ho⟩
theorem occ_no (g : Good f 48 B σ rk) {x : Int} (hx : x < 0) {S : Nat → Bool} (hs : Cl B x (fun _ => false) S) {t : List Int} (hc : Cov x S t) : x ∉ ap σ t :=
  not_occurs g hx (S := fun w => S (ix w) = true) (fun w _ hw _ => ⟨(hs.cl _ hw rfl).1, fun u hu h0 _ => (hs.cl _ hw rfl).2 u hu h0⟩) hc.1 fun u hu h0 _ => hc.2 u hu h0
end

/-! The reference's way of seeing. -/
def Cov2 (B : Bd) (x : Int) (S : Nat → Bool) (l : List Int) : Prop := x ∉ l ∧ ∀ v ∈ l, v < 0 → B (ix v) ≠ [] → S (ix v) = true
def Pend (B : Bd) (x : Int) (t : List Int) (P : List Int → Prop) (S : Nat → Bool) : Prop := (∀ i, S i = true → P (B i) ∨ Cov2 B x S (B i)) ∧ (P t ∨ Cov2 B x S t)
theorem Cov2.mono {B : Bd} {x : Int} {S S' : Nat → Bool} {l : List Int} (h : Cov2 B x S l) (hs : ∀ i, S i = true → S' i = true) : Cov2 B x S' l := ⟨h.1, fun v hv h0 hb => hs _ (h.2 v hv h0 hb)⟩
theorem Cov2.nil (B : Bd) (x : Int) (S : Nat → Bool) : Cov2 B x S [] := ⟨by simp, by simp⟩
theorem Cov2.snoc {B : Bd} {x : Int} {S : Nat → Bool} {l : List Int} {y : Int} (h : Cov2 B x S l) (h1 : y ≠ x) (h2 : y < 0 → B (ix y) ≠ [] → S (ix y) = true) : Cov2 B x S (l ++ [y]) := by
  refine ⟨fun h0 => ?_, fun v hv h0 => ?_⟩
  · rcases List.mem_append.1 h0 with h0 | h0
    · exact h.1 h0
    · exact h1 (List.mem_singleton.1 h0).symm
  · rcases List.mem_append.1 hv with hv | hv
    · exact h.2 v hv h0
    · obtain rfl : v = y := by simpa using hv
      exact h2 h0
theorem Pend.start (B : Bd) (x : Int) (t : List Int) : Pend B x t (fun u => u ∈ [t]) (fun _ => false) := ⟨fun i h => by simp at h, .inl (by simp)⟩
theorem Pend.imp {B : Bd} {x : Int} {t : List Int} {P P' : List Int → Prop} {S : Nat → Bool} (h : Pend B x t P S) (hp : ∀ u, P u → P' u ∨ Cov2 B x S u) : Pend B x t P' S := by
  refine ⟨fun i hi => ?_, ?_⟩
  · rcases h.1 i hi with h1 | h1
    · exact hp _ h1
    · exact .inr h1
  · rcases h.2 with h1 | h1
    · exact hp _ h1
    · exact .inr h1
theorem Pend.push {B : Bd} {x : Int} {t : List Int} {P : List Int → Prop} {S : Nat → Bool} (h : Pend B x t P S) {i : Nat} {P' : List Int → Prop} (hp : ∀ u, P u → P' u) (hi : P' (B i)) : Pend B x t P' (mark S i) := by
  refine ⟨fun j hj => ?_, ?_⟩
  · rcases mark_inv hj with rfl | hj
    · exact .inl hi
    · rcases h.1 j hj with h1 | h1
      · exact .inl (hp _ h1)
      · exact .inr (h1.mono fun _ => mark_sub)
  · rcases h.2 with h1 | h1
    · exact .inl (hp _ h1)
    · exact .inr (h1.mono fun _ => mark_sub)
theorem pend_no {f : Int → Int} {B : Bd} {σ : Int → List Int} {rk : Int → Nat} (g : Good f 48 B σ rk) {x : Int} (hx : x < 0) {S : Nat → Bool} {t : List Int} (h : Pend B x t (fun _ => False) S) : x ∉ ap σ t := by
  have h1 : ∀ i, S i = true → Cov2 B x S (B i) := fun i hi => (h.1 i hi).resolve_left id
  have h2 := h.2.resolve_left id
  exact not_occurs g hx (S := fun w => S (ix w) = true) (fun w _ hw _ => h1 _ hw) h2.1 h2.2

/-! Binding. -/
section
variable {f : Int → Int} {B : Bd} {σ : Int → List Int} {rk : Int → Nat}
theorem WT.ne {t : List Int} (h : WT f t) : t ≠ [] := by intro e; have := h.1.pos; simp [e] at this
theorem bind_ok (hf : Ar f) (g : Good f 48 B σ rk) {x : Int} (hx : x < 0) (hi : ix x < 48) (hb : B (ix x) = []) {t : List Int} (ht : WT f t) (ho : x ∉ ap σ t) :
    (∃ σ' rk', Good f 48 (put B (ix x) t) σ' rk') ∧ (∀ τ, Sol f τ (put B (ix x) t) ↔ Sol f τ B ∧ τ x = ap τ t) ∧ free 48 (put B (ix x) t) + 1 = free 48 B :=
  ⟨good_put hf g hx hi hb ht.1 ht.2 ho, fun _ => sol_put hx hb ht.1, free_put hi hb ht.ne⟩
theorem fresh_var (g : Good f 48 B σ rk) {x y : Int} (hy : y < 0) (hb : B (ix y) = []) (hne : x ≠ y) : x ∉ ap σ [y] := by
  rw [ap_one, sg_var hy, g.free y hy hb]; simpa using hne
theorem ap_var {τ : Int → List Int} {x : Int} (hx : x < 0) : ap τ [x] = τ x := by rw [ap_one, sg_var hx]
theorem var_eq (hf : Ar f) {t : List Int} (ht : WT f t) (h0 : hd t < 0) : t = [hd t] := tm_var hf ht.1 h0
end
/-! Parts. -/
theorem sub_mem {f : Int → Int} {t : List Int} {p : Nat} {x : Int} (h : x ∈ Pl.sub f t p) : x ∈ t := List.mem_of_mem_drop (List.mem_of_mem_take h)
theorem parts_wt {f : Int → Int} {t : List Int} (h : WT f t) : ∀ u ∈ parts f t, WT f u := by
  intro u hu
  refine ⟨parts_tm h.1 u hu, fun v hv h0 => h.2 v ?_ h0⟩
  unfold parts at hu
  obtain ⟨q, _, rfl⟩ := List.mem_map.1 hu
  exact sub_mem hv
def wts (σ : Int → List Int) (L : List (List Int)) : Nat := (L.map fun u => (ap σ u).length).sum
theorem wts_app (σ : Int → List Int) (L M : List (List Int)) : wts σ (L ++ M) = wts σ L + wts σ M := by simp [wts]
theorem flat_len (σ : Int → List Int) : ∀ L : List (List Int), (L.flatMap (ap σ)).length = wts σ L
  | [] => rfl
  | u :: L => by have := flat_len σ L; simp only [List.flatMap_cons, List.length_append, this, wts, List.map_cons, List.sum_cons]
theorem parts_wts {f : Int → Int} {t : List Int} (h : WT f t) (h0 : ¬ hd t < 0) (σ : Int → List Int) : wts σ (parts f t) + 1 = (ap σ t).length := by
  rw [tm_ap_parts h.1 σ, List.length_append, flat_len]
  have : sg σ (t.getD 0 0) = [t.getD 0 0] := sg_sym h0
  rw [this]
  simp; omega
theorem wts_mem (σ : Int → List Int) {u : List Int} : ∀ {L : List (List Int)}, u ∈ L → (ap σ u).length ≤ wts σ L
  | v :: L, h => by
    unfold wts
    rw [List.map_cons, List.sum_cons]
    rcases List.mem_cons.1 h with rfl | h
    · omega
    · have := wts_mem σ h; unfold wts at this; omega
theorem wts_pos {f : Int → Int} {σ : Int → List Int} (hs : Su f σ) {u : List Int} (h : WT f u) : 1 ≤ (ap σ u).length := Nat.le_trans h.1.pos (ap_pos hs u)

theorem parts_len2 {f : Int → Int} {u v : List Int} (hu : Tm f u) (hv : Tm f v) (h : hd u = hd v) : (parts f u).length = (parts f v).length := by
  rw [parts_len, parts_len]
  unfold hd at h
  rw [h]
theorem parts_few {f : Int → Int} {t : List Int} (h : Tm f t) : (parts f t).length + 1 ≤ t.length := by
  have e := congrArg List.length (parts_flat h)
  rw [List.length_cons] at e
  have : ∀ L : List (List Int), (∀ u ∈ L, Tm f u) → L.length ≤ (L.flatMap id).length := by
    intro L
    induction L with
    | nil => intro _; simp
    | cons u L ih =>
      intro hL
      have h1 := ih fun x hx => hL x (List.mem_cons_of_mem _ hx)
      have h2 := (hL u List.mem_cons_self).pos
      simp only [List.flatMap_cons, List.length_append, List.length_cons, id] at h1 ⊢
      omega
  have := this _ (parts_tm h)
  omega
/-! What equating two terms does. -/
def Meets (f : Int → Int) (s t : List Int) : Prop := ∃ τ, Su f τ ∧ ap τ s = ap τ t
def Step (f : Int → Int) (B B' : Bd) (s t : List Int) : Prop := (∃ σ rk, Good f 48 B' σ rk) ∧ (∀ τ, Sol f τ B' ↔ Sol f τ B ∧ ap τ s = ap τ t) ∧ (B' = B ∨ free 48 B' < free 48 B)
def Clash (f : Int → Int) (B : Bd) (s t : List Int) : Prop := ∀ τ, Sol f τ B → ap τ s ≠ ap τ t
def gt (L : List (List Int)) (i : Nat) : List Int := L.getD i []
/-- The first i parts are made the same. -/
def StepTo (f : Int → Int) (B Bi : Bd) (P Q : List (List Int)) (i : Nat) : Prop := (∃ σ rk, Good f 48 Bi σ rk) ∧ (∀ τ, Sol f τ Bi ↔ Sol f τ B ∧ ∀ j, j < i → ap τ (gt P j) = ap τ (gt Q j)) ∧ (Bi = B ∨ free 48 Bi < free 48 B)
theorem StepTo.zero {f : Int → Int} {B : Bd} {σ : Int → List Int} {rk : Int → Nat} (g : Good f 48 B σ rk) (P Q : List (List Int)) : StepTo f B B P Q 0 :=
  ⟨⟨σ, rk, g⟩, fun τ => ⟨fun h => ⟨h, fun j hj => by omega⟩, fun h => h.1⟩, .inl rfl⟩
theorem StepTo.next {f : Int → Int} {B Bi B' : Bd} {P Q : List (List Int)} {i : Nat} (h : StepTo f B Bi P Q i) (h' : Step f Bi B' (gt P i) (gt Q i)) : StepTo f B B' P Q (i + 1) := by
  obtain ⟨_, h2, h3⟩ := h
  obtain ⟨g1, g2, g3⟩ := h'
  refine ⟨g1, fun τ => ?_, ?_⟩
  · rw [g2, h2]
    constructor
    · rintro ⟨⟨a, b⟩, c⟩
      refine ⟨a, fun j hj => ?_⟩
      by_cases he : j = i
      · subst he; exact c
      · exact b j (by omega)
    · rintro ⟨a, b⟩
      exact ⟨⟨a, fun j hj => b j (by omega)⟩, b i (by omega)⟩
  · rcases g3 with rfl | g3
    · exact h3
    · rcases h3 with rfl | h3
      · exact .inr g3
      · right; omega
section
variable {f : Int → Int} {B : Bd} {σ : Int → List Int} {rk : Int → Nat}
theorem StepTo.all (hf : Ar f) {Bi : Bd} {s t u v : List Int} (hu : WT f u) (hv : WT f v) (h0 : ¬ hd u < 0) (he : hd u = hd v) (eu : ∀ τ, Sol f τ B → ap τ u = ap τ s) (ev : ∀ τ, Sol f τ B → ap τ v = ap τ t)
    (h : StepTo f B Bi (parts f u) (parts f v) (parts f u).length) : Step f B Bi s t := by
  obtain ⟨h1, h2, h3⟩ := h
  refine ⟨h1, fun τ => ?_, h3⟩
  rw [h2]
  constructor
  · rintro ⟨a, b⟩
    refine ⟨a, ?_⟩
    rw [← eu τ a, ← ev τ a]
    exact (ap_heads hf a.1 hu.1 hv.1 h0 (by show ¬ hd v < 0; rw [← he]; exact h0)).2 ⟨he, b⟩
  · rintro ⟨a, b⟩
    refine ⟨a, ?_⟩
    rw [← eu τ a, ← ev τ a] at b
    exact ((ap_heads hf a.1 hu.1 hv.1 h0 (by show ¬ hd v < 0; rw [← he]; exact h0)).1 b).2
theorem StepTo.clash (hf : Ar f) {Bi : Bd} {s t u v : List Int} (hu : WT f u) (hv : WT f v) (h0 : ¬ hd u < 0) (he : hd u = hd v) (eu : ∀ τ, Sol f τ B → ap τ u = ap τ s) (ev : ∀ τ, Sol f τ B → ap τ v = ap τ t)
    {i : Nat} (hi : i < (parts f u).length) (h : StepTo f B Bi (parts f u) (parts f v) i) (hc : Clash f Bi (gt (parts f u) i) (gt (parts f v) i)) : Clash f B s t := by
  intro τ hτ hs
  rw [← eu τ hτ, ← ev τ hτ] at hs
  have := ((ap_heads hf hτ.1 hu.1 hv.1 h0 (by show ¬ hd v < 0; rw [← he]; exact h0)).1 hs).2
  exact hc τ ((h.2.1 τ).2 ⟨hτ, fun j hj => this j (by omega)⟩) (this i hi)
theorem step_same (hf : Ar f) (g : Good f 48 B σ rk) {s t u v : List Int} (hu : WT f u) (hv : WT f v) (h0 : hd u < 0) (he : hd u = hd v) (eu : ∀ τ, Sol f τ B → ap τ u = ap τ s) (ev : ∀ τ, Sol f τ B → ap τ v = ap τ t) : Step f B B s t := by
  refine ⟨⟨σ, rk, g⟩, fun τ => ⟨fun h => ⟨h, ?_⟩, fun h => h.1⟩, .inl rfl⟩
  rw [← eu τ h, ← ev τ h, var_eq hf hu h0, var_eq hf hv (by rw [← he]; exact h0), he]
theorem step_bind (hf : Ar f) (g : Good f 48 B σ rk) {s t u v : List Int} (hu : WT f u) (hv : WT f v) (h0 : hd u < 0) (hb : B (ix (hd u)) = []) (ho : hd u ∉ ap σ v) (eu : ∀ τ, Sol f τ B → ap τ u = ap τ s) (ev : ∀ τ, Sol f τ B → ap τ v = ap τ t) : Step f B (put B (ix (hd u)) v) s t := by
  obtain ⟨h1, h2, h3⟩ := bind_ok hf g h0 (hu.ix h0) hb hv ho
  refine ⟨h1, fun τ => ?_, .inr (by omega)⟩
  rw [h2]
  have e : ∀ τ, ap τ u = τ (hd u) := fun τ => by
    conv => lhs; rw [var_eq hf hu h0]
    exact ap_var h0
  constructor
  · rintro ⟨a, b⟩; exact ⟨a, by rw [← eu τ a, ← ev τ a, e, b]⟩
  · rintro ⟨a, b⟩; exact ⟨a, (e τ).symm.trans ((eu τ a).trans (b.trans (ev τ a).symm))⟩
theorem step_occ (hf : Ar f) (g : Good f 48 B σ rk) {s t u v : List Int} (hu : WT f u) (hv : WT f v) (h0 : hd u < 0) (h1 : ¬ hd v < 0) (ho : hd u ∈ ap σ v) (eu : ∀ τ, Sol f τ B → ap τ u = ap τ s) (ev : ∀ τ, Sol f τ B → ap τ v = ap τ t) : Clash f B s t := by
  intro τ hτ hs
  rw [← eu τ hτ, ← ev τ hτ] at hs
  refine sol_none g h0 hv.1 h1 ho hτ ?_
  rw [← hs]
  conv => rhs; rw [var_eq hf hu h0]
  exact (ap_var h0).symm
theorem step_heads (hf : Ar f) {s t u v : List Int} (hu : WT f u) (hv : WT f v) (h0 : ¬ hd u < 0) (h1 : ¬ hd v < 0) (hne : hd u ≠ hd v) (eu : ∀ τ, Sol f τ B → ap τ u = ap τ s) (ev : ∀ τ, Sol f τ B → ap τ v = ap τ t) : Clash f B s t := by
  intro τ hτ hs
  rw [← eu τ hτ, ← ev τ hτ] at hs
  exact hne ((ap_heads hf hτ.1 hu.1 hv.1 h0 h1).1 hs).1
theorem Step.swap {B' : Bd} {s t : List Int} (h : Step f B B' s t) : Step f B B' t s := ⟨h.1, fun τ => by rw [h.2.1]; exact and_congr_right fun _ => eq_comm, h.2.2⟩
theorem Clash.swap {s t : List Int} (h : Clash f B s t) : Clash f B t s := fun τ hτ e => h τ hτ e.symm
end
end Go.Proofs.Ytcjgcopkeeiicaa.Un
