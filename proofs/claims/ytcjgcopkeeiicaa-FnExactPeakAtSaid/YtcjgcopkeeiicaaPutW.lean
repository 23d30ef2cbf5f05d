/- The peak of two rules at a place, in plain lists: whichever solution makes them meet. -/
import Derived.Test.YtcjgcopkeeiicaaRes
import Derived.Test.YtcjgcopkeeiicaaOvl
import Derived.Test.YtcjgcopkeeiicaaRnm
import Derived.Test.YtcjgcopkeeiicaaRenRule
import Derived.Test.YtcjgcopkeeiicaaPut
namespace Go.Proofs.Ytcjgcopkeeiicaa
open Go.RowKit
set_option linter.unusedVariables false
set_option linter.unusedSimpArgs false

abbrev Pk := (List Int × List Int × List Int) × Bool
def pkNo : Pk := (([], [], []), false)
def pkOk (a b c : List Int) : Bool := decide (a.length ≤ 60) && decide (b.length ≤ 60) && decide (c.length ≤ 60) && decide ((ord [] a).length ≤ 24)
def pkL (a b c : List Int) : Pk := if pkOk a b c then ((rnR a a, rnR a b, rnR a c), true) else pkNo
theorem pkL_yes {a b c : List Int} (h : pkOk a b c = true) : pkL a b c = ((rnR a a, rnR a b, rnR a c), true) := by unfold pkL; rw [h]; rfl
theorem pkL_no {a b c : List Int} (h : pkOk a b c = false) : pkL a b c = pkNo := by unfold pkL; rw [h]; rfl
theorem pkOk_yes {a b c : List Int} (h1 : a.length ≤ 60) (h2 : b.length ≤ 60) (h3 : c.length ≤ 60) (h4 : (ord [] a).length ≤ 24) : pkOk a b c = true := by simp [pkOk, h1, h2, h3, h4]
theorem pkOk_no {a b c : List Int} (h : 60 < a.length ∨ 60 < b.length ∨ 60 < c.length ∨ 24 < (ord [] a).length) : pkOk a b c = false := by
  unfold pkOk
  rw [Bool.eq_false_iff]
  intro hh
  simp only [Bool.and_eq_true, decide_eq_true_eq] at hh
  omega
def pkOf (σ : Int → List Int) (l mid r : List Int) : Pk := pkL (Un.ap σ l) (Un.ap σ mid) (Un.ap σ r)
theorem rnR_good {a b : List Int} {g : Int → Int} (hg : Good (ord [] a) g) (hb : ∀ x ∈ b, x < 0 → x ∈ ord [] a) : rnR (a.map g) (b.map g) = rnR a b := by
  have e : ord [] (a.map g) = (ord [] a).map g := ord_map_good hg (u := []) (fun y hy => by cases hy) (vars_in a)
  unfold rnR
  rw [e, List.map_map]
  exact List.map_congr_left fun x hx => rn_map hg (hb x hx)
theorem ord_good {a : List Int} {g : Int → Int} (hg : Good (ord [] a) g) : (ord [] (a.map g)).length = (ord [] a).length := by
  rw [show ord [] (a.map g) = (ord [] a).map g from ord_map_good hg (u := []) (fun y hy => by cases hy) (vars_in a), List.length_map]
theorem pkL_good {a b c : List Int} {g : Int → Int} (hg : Good (ord [] a) g) (hb : ∀ x ∈ b, x < 0 → x ∈ ord [] a) (hc : ∀ x ∈ c, x < 0 → x ∈ ord [] a) : pkL (a.map g) (b.map g) (c.map g) = pkL a b c := by
  unfold pkL pkOk
  rw [rnR_good hg hb, rnR_good hg hc, rnR_good hg (vars_in a), ord_good hg, List.length_map, List.length_map, List.length_map]
section
variable {f : Int → Int} {B1 B2 : Un.Bd} {σ1 σ2 : Int → List Int} {rk1 rk2 : Int → Nat} {s t : List Int}
theorem two_maps (g1 : Un.Good f 48 B1 σ1 rk1) (d1 : Un.Done f B1 s t) (g2 : Un.Good f 48 B2 σ2 rk2) (d2 : Un.Done f B2 s t) (u : List Int) :
    Un.ap σ1 (Un.ap σ2 (Un.ap σ1 u)) = Un.ap σ1 u ∧ Un.ap σ2 (Un.ap σ1 u) = Un.ap σ2 u := by
  have m1 := (d1.2 σ1).1 g1.sol
  have m2 := (d2.2 σ2).1 g2.sol
  refine ⟨?_, Un.sol_ap g1 ((d1.2 σ2).2 m2) u⟩
  rw [Un.sol_ap g2 ((d2.2 σ1).2 m1), Un.own_twice g1]
def rho (σ : Int → List Int) (x : Int) : Int := (Un.sg σ x).getD 0 0
theorem rho_back (g1 : Un.Good f 48 B1 σ1 rk1) (d1 : Un.Done f B1 s t) (g2 : Un.Good f 48 B2 σ2 rk2) (d2 : Un.Done f B2 s t) {u : List Int} {x : Int} (hx : x < 0 → x ∈ ord [] (Un.ap σ1 u)) : Un.sg σ1 (rho σ2 x) = [x] := by
  by_cases h0 : x < 0
  · exact (Un.variant g1.su g2.su (two_maps g1 d1 g2 d2 u).1 x ((ord_mem (hx h0)).resolve_left (by simp))).2
  · have : rho σ2 x = x := by unfold rho; rw [Un.sg_sym h0]; rfl
    rw [this, Un.sg_sym h0]
theorem rho_sym {x : Int} (h : ¬ x < 0) : rho σ2 x = x := by unfold rho; rw [Un.sg_sym h]; rfl
theorem rho_neg (g1 : Un.Good f 48 B1 σ1 rk1) (d1 : Un.Done f B1 s t) (g2 : Un.Good f 48 B2 σ2 rk2) (d2 : Un.Done f B2 s t) {u : List Int} {x : Int} (hx : x < 0 → x ∈ ord [] (Un.ap σ1 u)) : rho σ2 x < 0 ↔ x < 0 := by
  constructor
  · intro h
    apply Decidable.byContradiction
    intro h0
    rw [rho_sym h0] at h
    exact h0 h
  · intro h0
    apply Decidable.byContradiction
    intro h
    have := rho_back g1 d1 g2 d2 hx
    rw [Un.sg_sym h] at this
    injection this with this
    omega
theorem rho_good (g1 : Un.Good f 48 B1 σ1 rk1) (d1 : Un.Done f B1 s t) (g2 : Un.Good f 48 B2 σ2 rk2) (d2 : Un.Done f B2 s t) (u : List Int) : Good (ord [] (Un.ap σ1 u)) (rho σ2) := by
  refine ⟨fun x hx => rho_neg g1 d1 g2 d2 hx, fun x y hx hy h => ?_, fun x h => rho_sym h⟩
  have h1 := rho_back g1 d1 g2 d2 hx
  have h2 := rho_back g1 d1 g2 d2 hy
  rw [h, h2] at h1
  injection h1 with h1
  exact h1.symm
theorem rho_map (g1 : Un.Good f 48 B1 σ1 rk1) (d1 : Un.Done f B1 s t) (g2 : Un.Good f 48 B2 σ2 rk2) (d2 : Un.Done f B2 s t) (u : List Int) : Un.ap σ2 u = (Un.ap σ1 u).map (rho σ2) := by
  obtain ⟨h1, h2⟩ := two_maps g1 d1 g2 d2 u
  rw [← h2]
  exact Un.variant_map g1.su g2.su h1
theorem pk_same (g1 : Un.Good f 48 B1 σ1 rk1) (d1 : Un.Done f B1 s t) (g2 : Un.Good f 48 B2 σ2 rk2) (d2 : Un.Done f B2 s t) {l mid r : List Int}
    (hm : ∀ x ∈ Un.ap σ1 mid, x < 0 → x ∈ Un.ap σ1 l) (hr : ∀ x ∈ Un.ap σ1 r, x < 0 → x ∈ Un.ap σ1 l) : pkOf σ2 l mid r = pkOf σ1 l mid r := by
  unfold pkOf
  rw [rho_map g1 d1 g2 d2 l, rho_map g1 d1 g2 d2 mid, rho_map g1 d1 g2 d2 r]
  exact pkL_good (rho_good g1 d1 g2 d2 l) (fun x hx h0 => vars_in _ x (hm x hx h0) h0) (fun x hx h0 => vars_in _ x (hr x hx h0) h0)
/-- The peak: by any solution. -/
noncomputable def pkV (f : Int → Int) (s t l mid r : List Int) : Pk := @dite _ (∃ σ B rk, Un.Good f 48 B σ rk ∧ Un.Done f B s t) (Classical.propDecidable _) (fun h => pkOf (Classical.choose h) l mid r) (fun _ => pkNo)
theorem pkV_eq (g : Un.Good f 48 B1 σ1 rk1) (d : Un.Done f B1 s t) {l mid r : List Int} (hm : ∀ x ∈ Un.ap σ1 mid, x < 0 → x ∈ Un.ap σ1 l) (hr : ∀ x ∈ Un.ap σ1 r, x < 0 → x ∈ Un.ap σ1 l) : pkV f s t l mid r = pkOf σ1 l mid r := by
  have h : ∃ σ B rk, Un.Good f 48 B σ rk ∧ Un.Done f B s t := ⟨σ1, B1, rk1, g, d⟩
  unfold pkV
  rw [dif_pos h]
  obtain ⟨B2, rk2, g2, d2⟩ := Classical.choose_spec h
  exact pk_same g d g2 d2 hm hr
theorem ap_mem_sub {σ : Int → List Int} {u l : List Int} (h : ∀ x ∈ u, x < 0 → x ∈ l) : ∀ x ∈ Un.ap σ u, x < 0 → x ∈ Un.ap σ l := by
  intro x hx h0
  obtain ⟨v, hv, hxv⟩ := Un.mem_ap.1 hx
  by_cases hv0 : v < 0
  · exact Un.mem_ap.2 ⟨v, h v hv hv0, hxv⟩
  · rw [Un.sg_sym hv0] at hxv
    obtain rfl := List.mem_singleton.1 hxv
    exact absurd h0 hv0
/-- The other side of the peak, ahead of the solution. -/
def pkMid (f : Int → Int) (l r2 : List Int) (q : Nat) : List Int := putAt l q (Pl.fin f l q) (r2.map (sh 24))
theorem mid_vars {σ : Int → List Int} {l l2 r2 : List Int} {q : Nat} (he : Un.ap σ (Pl.sub f l q) = Un.ap σ (l2.map (sh 24))) (h2 : ∀ x ∈ r2, x < 0 → x ∈ l2) : ∀ x ∈ Un.ap σ (pkMid f l r2 q), x < 0 → x ∈ Un.ap σ l := by
  intro x hx h0
  unfold pkMid putAt at hx
  rw [Un.ap_app, Un.ap_app] at hx
  rcases List.mem_append.1 hx with hx | hx
  · rcases List.mem_append.1 hx with hx | hx
    · exact ap_mem_sub (fun y hy _ => List.mem_of_mem_take hy) x hx h0
    · have h3 : x ∈ Un.ap σ (l2.map (sh 24)) := by
        refine ap_mem_sub (fun y hy h0 => ?_) x hx h0
        obtain ⟨z, hz, rfl⟩ := List.mem_map.1 hy
        refine List.mem_map.2 ⟨z, h2 z hz ?_, rfl⟩
        unfold sh at h0
        split at h0 <;> omega
      rw [← he] at h3
      exact ap_mem_sub (fun y hy _ => Un.sub_mem hy) x h3 h0
  · exact ap_mem_sub (fun y hy _ => List.mem_of_mem_drop hy) x hx h0
end
theorem ruleOk_in {xs l r : List Int} (h : ruleOk xs l r = true) : ∀ x ∈ r, x < 0 → x ∈ l := fun x hx h0 => (ord_mem (ruleOk_vars h x hx h0)).resolve_left (by simp)
/-- What the peak at a place is. -/
noncomputable def pkAt (f : Int → Int) (l r l2 r2 : List Int) (q : Nat) : Pk := pkV f (Pl.sub f l q) (l2.map (sh 24)) l (pkMid f l r2 q) r
theorem pkAt_eq {f : Int → Int} {B : Un.Bd} {σ : Int → List Int} {rk : Int → Nat} {xs l r l2 r2 : List Int} {q : Nat} (g : Un.Good f 48 B σ rk) (d : Un.Done f B (Pl.sub f l q) (l2.map (sh 24))) (h1 : ruleOk xs l r = true) (h2 : ruleOk xs l2 r2 = true) :
    pkAt f l r l2 r2 q = pkL (Un.ap σ l) (Un.ap σ (pkMid f l r2 q)) (Un.ap σ r) :=
  pkV_eq g d (mid_vars ((d.2 σ).1 g.sol).2 (ruleOk_in h2)) (ap_mem_sub (ruleOk_in h1))
noncomputable def V_PeakAt (xs : List Int) (x : List (List Int × List Int)) (p q j : Int) : Pk :=
  if systemOk xs x && inB p 0 ((x.length : Int) - 1) && inB j 0 ((x.length : Int) - 1) && inB q 0 (((x.getD p.toNat ([], [])).1.length : Int) - 1) && ovB xs (x.getD p.toNat ([], [])).1 (x.getD j.toNat ([], [])).1 (decide (p = j)) q.toNat
  then pkAt (Pl.nxt xs) (x.getD p.toNat ([], [])).1 (x.getD p.toNat ([], [])).2 (x.getD j.toNat ([], [])).1 (x.getD j.toNat ([], [])).2 q.toNat else pkNo
theorem pkL_bd (a b c : List Int) : (pkL a b c).1.1.length ≤ 60 ∧ (pkL a b c).1.2.1.length ≤ 60 ∧ (pkL a b c).1.2.2.length ≤ 60 := by
  unfold pkL
  split
  · rename_i h
    simp only [pkOk, Bool.and_eq_true, decide_eq_true_eq] at h
    simp [rnR]
    omega
  · simp [pkNo]
theorem bd_PeakAt (xs : List Int) (x : List (List Int × List Int)) (p q j : Int) : (V_PeakAt xs x p q j).1.1.length ≤ 60 ∧ (V_PeakAt xs x p q j).1.2.1.length ≤ 60 ∧ (V_PeakAt xs x p q j).1.2.2.length ≤ 60 := by
  unfold V_PeakAt
  split
  · unfold pkAt pkV
    split
    · exact pkL_bd _ _ _
    · simp [pkNo]
  · simp [pkNo]
theorem peakAt_no {xs : List Int} {x : List (List Int × List Int)} {p q j : Int} (h : (systemOk xs x && inB p 0 ((x.length : Int) - 1) && inB j 0 ((x.length : Int) - 1)) = false) : V_PeakAt xs x p q j = pkNo := by unfold V_PeakAt; rw [h]; rfl
theorem peakAt_no2 {xs : List Int} {x : List (List Int × List Int)} {over under : Nat} {q : Int} {l r l2 r2 : List Int} (hl : (l, r) = x.getD over ([], [])) (hl2 : (l2, r2) = x.getD under ([], [])) (h : (inB q 0 ((l.length : Int) - 1) && ovB xs l l2 (decide (over = under)) q.toNat) = false) : V_PeakAt xs x over q under = pkNo := by
  unfold V_PeakAt
  rw [Int.toNat_natCast, Int.toNat_natCast, ← hl, ← hl2]
  have : decide ((over : Int) = (under : Int)) = decide (over = under) := by rw [Bool.eq_iff_iff]; simp only [decide_eq_true_eq]; omega
  rw [this]
  rw [if_neg]
  intro hh
  simp only [Bool.and_eq_true] at hh
  rw [hh.1.2, hh.2] at h
  cases h
theorem peakAt_yes {xs : List Int} {x : List (List Int × List Int)} {over under q : Nat} {l r l2 r2 : List Int} (hS : systemOk xs x = true) (h1 : over < x.length) (h2 : under < x.length) (hl : (l, r) = x.getD over ([], [])) (hl2 : (l2, r2) = x.getD under ([], [])) (hq : q < l.length) (h : ovB xs l l2 (decide (over = under)) q = true) :
    V_PeakAt xs x over q under = pkAt (Pl.nxt xs) l r l2 r2 q := by
  unfold V_PeakAt
  rw [Int.toNat_natCast, Int.toNat_natCast, Int.toNat_natCast, ← hl, ← hl2]
  dsimp only
  have : decide ((over : Int) = (under : Int)) = decide (over = under) := by rw [Bool.eq_iff_iff]; simp only [decide_eq_true_eq]; omega
  rw [this, hS, inB_mk (by omega), inB_mk (by omega), inB_mk (by omega), h]
  rfl
theorem ren_three {a b c : List Int} (hb : ∀ x ∈ b, x < 0 → x ∈ ord [] a) (hc : ∀ x ∈ c, x < 0 → x ∈ ord [] a) : ren [a, b, c] 3 = [rnR a a, rnR a b, rnR a c] := by
  have e : ord [] (a ++ (b ++ c)) = ord [] a := by rw [ord_app, ord_same fun x hx h0 => ?_]; rcases List.mem_append.1 hx with hx | hx; exact hb x hx h0; exact hc x hx h0
  have e2 : flat [a, b, c] 3 = a ++ (b ++ c) := by simp [flat]
  unfold ren
  rw [e2, e]
  rfl
theorem lo_all : ∀ (xs : List Int) (x : Int), (xs.foldl (fun m y => if y < m then y else m) x ≤ x) ∧ (∀ y ∈ xs, xs.foldl (fun m y => if y < m then y else m) x ≤ y) ∧ (xs.foldl (fun m y => if y < m then y else m) x = x ∨ xs.foldl (fun m y => if y < m then y else m) x ∈ xs)
  | [], x => by simp
  | y :: xs, x => by
    have hz : (if y < x then y else x) ≤ x ∧ (if y < x then y else x) ≤ y ∧ ((if y < x then y else x) = x ∨ (if y < x then y else x) = y) := by split <;> omega
    rw [List.foldl_cons]
    generalize (if y < x then y else x) = z at *
    obtain ⟨h1, h2, h3⟩ := lo_all xs z
    generalize xs.foldl (fun m y => if y < m then y else m) z = r at *
    refine ⟨by omega, fun q hq => ?_, ?_⟩
    · rcases List.mem_cons.1 hq with rfl | hq
      · omega
      · exact h2 q hq
    · rcases h3 with rfl | h3
      · rcases hz.2.2 with h | h
        · exact .inl h
        · exact .inr (by simp [h])
      · exact .inr (by simp [h3])
theorem lo_le {t : List Int} {x : Int} (h : x ∈ t) : Pl.lo t ≤ x := by
  cases t with
  | nil => cases h
  | cons y t =>
    rcases List.mem_cons.1 h with rfl | h
    · exact (lo_all t x).1
    · exact (lo_all t y).2.1 x h
theorem lo_mem {t : List Int} (h : t ≠ []) : Pl.lo t ∈ t := by
  cases t with
  | nil => exact absurd rfl h
  | cons y t =>
    rcases (lo_all t y).2.2 with h | h
    · show t.foldl _ y ∈ _; rw [h]; simp
    · exact List.mem_cons_of_mem _ h
/-- The program's way to tell that a term has too many variables. -/
theorem lo_many {a : List Int} (h : a ≠ []) : decide (Pl.lo (rnR a a) < -24) = decide (24 < (ord [] a).length) := by
  have hne : rnR a a ≠ [] := by unfold rnR; simpa using h
  rw [Bool.eq_iff_iff, decide_eq_true_eq, decide_eq_true_eq]
  constructor
  · intro h1
    obtain ⟨x, hx, e'⟩ := List.mem_map.1 (lo_mem hne)
    have e : rn (ord [] a) x = Pl.lo (rnR a a) := e'
    have h0 : x < 0 := by
      apply Decidable.byContradiction
      intro h0
      rw [rn_sym h0] at e
      omega
    have := rn_range (s := ord [] a) (fun _ => vars_in a x hx h0) h0
    omega
  · intro h1
    have hn := ord_nodup (t := a) (s := []) List.nodup_nil
    have hm : (ord [] a)[24] ∈ ord [] a := List.getElem_mem h1
    have h0 := ord_neg (t := a) (s := []) (fun y hy => by cases hy) _ hm
    have hx : (ord [] a)[24] ∈ a := (ord_mem hm).resolve_left (by simp)
    have hi : idx (ord [] a) (ord [] a)[24] = 24 := by
      unfold idx
      rw [if_pos (by simp), hn.idxOf_getElem]
      rfl
    have hr : rn (ord [] a) (ord [] a)[24] = -25 := by rw [rn_var h0, hi]; rfl
    have := lo_le (t := rnR a a) (x := -25) (List.mem_map.2 ⟨_, hx, hr⟩)
    omega
theorem ap_parts {f : Int → Int} {l : List Int} {q : Nat} (hT : Un.Tm f l) (hq : q < l.length) : l = l.take q ++ Pl.sub f l q ++ l.drop (Pl.fin f l q) := by
  obtain ⟨_, h2, h3, _⟩ := Pl.fin_of hT hq
  unfold Pl.sub
  rw [List.append_assoc, ← List.take_append_drop q l]
  congr 1
  · rw [List.take_append_drop]
  · rw [List.take_append_drop]
    have := List.take_append_drop (Pl.fin f l q - q) (l.drop q)
    rw [List.drop_drop] at this
    rw [show q + (Pl.fin f l q - q) = Pl.fin f l q by omega] at this
    exact this.symm
theorem fin_ap {f : Int → Int} {σ : Int → List Int} {l : List Int} {q : Nat} (hf : Un.Ar f) (hs : Un.Su f σ) (hT : Un.Tm f l) (hq : q < l.length) (u : List Int) :
    Pl.fin f (Un.ap σ l) (Un.ap σ (l.take q)).length = (Un.ap σ (l.take q)).length + (Un.ap σ (Pl.sub f l q)).length ∧ (Un.ap σ (l.take q)).length < (Un.ap σ l).length ∧
      putAt (Un.ap σ l) (Un.ap σ (l.take q)).length ((Un.ap σ (l.take q)).length + (Un.ap σ (Pl.sub f l q)).length) (Un.ap σ u) = Un.ap σ (l.take q ++ u ++ l.drop (Pl.fin f l q)) := by
  have hsub : Un.Tm f (Pl.sub f l q) := Pl.sub_run hT hq
  have hsu := Un.Tm.ap hf hs hsub
  have hp := hsu.pos
  have e : Un.ap σ l = Un.ap σ (l.take q) ++ (Un.ap σ (Pl.sub f l q) ++ Un.ap σ (l.drop (Pl.fin f l q))) := by
    rw [← Un.ap_app, ← Un.ap_app, ← List.append_assoc, ← ap_parts hT hq]
  refine ⟨?_, ?_, ?_⟩
  · unfold Pl.fin
    rw [e, List.drop_left, Un.run_ext _ hsu]
    rfl
  · rw [e]; simp; omega
  · unfold putAt
    rw [e, List.take_left, ← List.append_assoc (Un.ap σ (l.take q)), ← List.length_append, List.drop_left, Un.ap_app, Un.ap_app]
end Go.Proofs.Ytcjgcopkeeiicaa
/-! Contracts: a subterm replaced, in a term over any signature; the program's whole terms. -/

namespace Go.Proofs.Ytcjgcopkeeiicaa
open Go.RowKit
set_option linter.unusedVariables false
set_option linter.unusedSimpArgs false

set_option maxHeartbeats 4000000 in
set_option maxRecDepth 20000 in
theorem put_w (A : Option Addr) (n c : Nat) (xs : List Int) (B : Option Addr) (m d : Nat) (t : List Int) (p : Nat) (C : Option Addr) (o f : Nat) (u : List Int) (w : World) (F : Nat)
    (h : RI w A n xs) (h' : RI w B m t) (h'' : RI w C o u) (hs : Pl.sigOk xs = true) (hT : Un.Tm (Pl.nxt xs) t) (hF : Pl.fin (Pl.nxt xs) t p = F) (hp : p < m) (hm : m ≤ 60) (ho : o ≤ 60) (hd : m ≤ d) (hd2 : d ≤ 9223372036854775807) (hf : o ≤ f) (hf2 : f ≤ 9223372036854775807) :
    Calls Try.prog 55 #[.agg #[.slice A n c], .slice B m d, .int .i64 p, .slice C o f] w fun e w' => ∃ A' c',
      e = .returned (.tuple #[.slice A' (putL t p F u).length c', .bool (putOk t p F u)]) ∧ OI w' w.heap.size A' (putL t p F u).length c' (putL t p F u) ∧ Below w.heap.size w w' := by
  have hfn := Pl.fin_of hT (p := p) (by rw [h'.1]; exact hp)
  rw [h'.1] at hfn
  have hf1 := hfn.2.1
  have hf2' := hfn.2.2.1
  have hl := h'.1
  have hlu := h''.1
  have HEND := fun (W : World) (k1 : RI W A n xs) (k2 : RI W B m t) => endAt_w A n c xs B m d t p W k1 k2 hs hT hp (by omega)
  rw [hF] at hf1 hf2' HEND
  replace HEND := Lib.hid HEND
  clear hF hfn hT hs
  have hlen := putAt_len (p := p) (F := F) hl hlu (by omega) (by omega)
  obtain ⟨g, off, rfl, _⟩ := h'.2 (by omega)
  have e0 : (0 : Int) ≤ p := by omega
  have e1 : (p : Int) ≤ d := by omega
  have e1' : (p : Int) ≤ m := by omega
  have e2 : (0 : Int) ≤ F := by omega
  have e3 : (F : Int) ≤ m := by omega
  have hB0 : Below w.heap.size w (w.alloc (.cells #[.slice A n c] 30)) := (Below.refl _ _).alloc (Nat.le_refl _) _
  have bx : (w.alloc (.cells #[.slice A n c] 30)).cell? ⟨w.heap.size, 0, none⟩ = some (.slice A n c) := by simp
  have hr1 := ri_part h' 0 p (by omega) (by omega)
  simp only [Nat.add_zero, Nat.sub_zero, List.drop_zero] at hr1
  have hr3 := ri_part h' F m (by omega) (by omega)
  have HV : Hid ((t.drop F).take (m - F) = t.drop F) := Lib.hid (List.take_of_length_le (by rw [List.length_drop]; omega))
  rw [HV.out] at hr3
  have HZ : Hid (∀ (W : World) A', m - F = 0 → RI W A' 0 (t.drop F)) := Lib.hid (fun W A' h0 => ⟨by rw [List.length_drop]; omega, fun hh => by omega⟩)
  have HFL : Hid (flat [t.take p, u, t.drop F] 3 = putAt t p F u) := Lib.hid (by simp [flat, putAt])
  have hfl : (flat [t.take p, u, t.drop F] 3).length ≤ 1048576 := by rw [HFL.out, hlen]; omega
  go_enter Try.func55, Try.ntmps55
  go_wp2_with fail
  generalize w.alloc (.cells #[.slice A n c] 30) = W0 at *
  by_cases hFm : F < m
  · have e4 : ¬ (d : Int) - F = 0 := by omega
    have e5 : ¬ d - F = 0 := by omega
    have e6 : ¬ d = F := by omega
    go_region_held3 (fun w' => Below W0.heap.size W0 w' ∧ w'.cell? ⟨w.heap.size, 0, none⟩ = some (.slice A n c))
      (first | exact ⟨(Below.refl _ _).drew, bx⟩ | exact keepS1 hb1 (by assumption) | exact keepS1 hb2 (by assumption) | exact keepS1 ((Below.refl _ _).alloc (Nat.le_refl _) _) (by assumption))
      ((first | (go_at_call 68; refine (HEND.out _ ?_ ?_).mono ?_; exact riS (h.below hB0) (by assumption); exact riS (h'.below hB0) (by assumption); rintro e w1 ⟨rfl, hb1⟩) | (go_at_call 67; refine (concat_any _ 3 _ [t.take p, u, t.drop F] _ ?_ (by omega) hfl).mono ?_; exact RR.three ((hr1.below hB0).drew.below hb1) (by omega) (by omega) ((h''.below hB0).drew.below hb1) (by omega) (by omega) ((hr3.below hB0).drew.below hb1) (by omega) (by omega); rintro e w2 ⟨A', c', rfl, ho2, hb2⟩)))
    rename_i hS
    have hB2 := below_then hB0 hS.1 hB0.size
    replace ho2 := Lib.hid (ho2.base (B' := w.heap.size) (by have := hb1.size; have e_ : W0.drew.heap.size = W0.heap.size := rfl; have := hB0.size; simp; omega))
    rw [HFL.out] at ho2 ⊢
    rw [hlen] at ho2 ⊢
    clear hS hb1 hb2
    cases hq : putOk t p F u
    · have hbig := hq
      simp only [putOk, hlen, decide_eq_false_iff_not] at hbig
      have hbi : (60 : Int) < (p : Int) + o + (m - F : Nat) := by omega
      have HQ := Lib.hid (putL_no hq)
      have HK := Lib.hid hq
      clear hq
      go_wp2_with fail
      go_ret2
      exact ⟨none, 0, by rw [HK.out, HQ.out]; rfl, by rw [HQ.out]; exact World.ownsRow_nil _ _ _ _, hB2⟩
    · have hsm := hq
      simp only [putOk, hlen, decide_eq_true_eq] at hsm
      have hsi : ¬ (60 : Int) < (p : Int) + o + (m - F : Nat) := by omega
      have HQ := Lib.hid (putL_yes hq)
      have HK := Lib.hid hq
      clear hq
      go_wp2_with fail
      go_ret2
      exact ⟨A', c', by rw [HK.out, HQ.out, hlen]; rfl, by rw [HQ.out, hlen]; exact ho2.out, hB2⟩
  · obtain rfl : F = m := by omega
    have hz : F - F = 0 := by omega
    rw [hz] at hr3
    rw [hz, Nat.add_zero] at hlen
    by_cases hdF : d = F
    · subst hdF
      go_region_held3 (fun w' => Below W0.heap.size W0 w' ∧ w'.cell? ⟨w.heap.size, 0, none⟩ = some (.slice A n c))
        (first | exact ⟨(Below.refl _ _).drew, bx⟩ | exact keepS1 hb1 (by assumption) | exact keepS1 hb2 (by assumption) | exact keepS1 ((Below.refl _ _).alloc (Nat.le_refl _) _) (by assumption))
        ((first | (go_at_call 68; refine (HEND.out _ ?_ ?_).mono ?_; exact riS (h.below hB0) (by assumption); exact riS (h'.below hB0) (by assumption); rintro e w1 ⟨rfl, hb1⟩) | (go_at_call 67; refine (concat_any _ 3 _ [t.take p, u, t.drop _] _ ?_ (by omega) hfl).mono ?_; exact RR.three ((hr1.below hB0).drew.below hb1) (by omega) (by omega) ((h''.below hB0).drew.below hb1) (by omega) (by omega) (HZ.out _ _ hz) (by omega) (by omega); rintro e w2 ⟨A', c', rfl, ho2, hb2⟩)))
      rename_i hS
      have hB2 := below_then hB0 hS.1 hB0.size
      replace ho2 := Lib.hid (ho2.base (B' := w.heap.size) (by have := hb1.size; have e_ : W0.drew.heap.size = W0.heap.size := rfl; have := hB0.size; simp; omega))
      rw [HFL.out] at ho2 ⊢
      rw [hlen] at ho2 ⊢
      clear hS hb1 hb2
      cases hq : putOk t p d u
      · have hbig := hq
        simp only [putOk, hlen, decide_eq_false_iff_not] at hbig
        have hbi : (60 : Int) < (p : Int) + o := by omega
        have HQ := Lib.hid (putL_no hq)
        have HK := Lib.hid hq
        clear hq
        go_wp2_with fail
        go_ret2
        exact ⟨none, 0, by rw [HK.out, HQ.out]; rfl, by rw [HQ.out]; exact World.ownsRow_nil _ _ _ _, hB2⟩
      · have hsm := hq
        simp only [putOk, hlen, decide_eq_true_eq] at hsm
        have hsi : ¬ (60 : Int) < (p : Int) + o := by omega
        have HQ := Lib.hid (putL_yes hq)
        have HK := Lib.hid hq
        clear hq
        go_wp2_with fail
        go_ret2
        exact ⟨A', c', by rw [HK.out, HQ.out, hlen]; rfl, by rw [HQ.out, hlen]; exact ho2.out, hB2⟩
    · have e5 : ¬ d - F = 0 := by omega
      go_region_held3 (fun w' => Below W0.heap.size W0 w' ∧ w'.cell? ⟨w.heap.size, 0, none⟩ = some (.slice A n c))
        (first | exact ⟨(Below.refl _ _).drew, bx⟩ | exact keepS1 hb1 (by assumption) | exact keepS1 hb2 (by assumption) | exact keepS1 ((Below.refl _ _).alloc (Nat.le_refl _) _) (by assumption))
        ((first | (go_at_call 68; refine (HEND.out _ ?_ ?_).mono ?_; exact riS (h.below hB0) (by assumption); exact riS (h'.below hB0) (by assumption); rintro e w1 ⟨rfl, hb1⟩) | (go_at_call 67; refine (concat_any _ 3 _ [t.take p, u, t.drop F] _ ?_ (by omega) hfl).mono ?_; exact RR.three ((hr1.below hB0).drew.below hb1) (by omega) (by omega) ((h''.below hB0).drew.below hb1) (by omega) (by omega) (HZ.out _ _ hz) (by omega) (by omega); rintro e w2 ⟨A', c', rfl, ho2, hb2⟩)))
      rename_i hS
      have hB2 := below_then hB0 hS.1 hB0.size
      replace ho2 := Lib.hid (ho2.base (B' := w.heap.size) (by have := hb1.size; have e_ : W0.drew.heap.size = W0.heap.size := rfl; have := hB0.size; simp; omega))
      rw [HFL.out] at ho2 ⊢
      rw [hlen] at ho2 ⊢
      clear hS hb1 hb2
      cases hq : putOk t p F u
      · have hbig := hq
        simp only [putOk, hlen, decide_eq_false_iff_not] at hbig
        have hbi : (60 : Int) < (p : Int) + o := by omega
        have HQ := Lib.hid (putL_no hq)
        have HK := Lib.hid hq
        clear hq
        go_wp2_with fail
        go_ret2
        exact ⟨none, 0, by rw [HK.out, HQ.out]; rfl, by rw [HQ.out]; exact World.ownsRow_nil _ _ _ _, hB2⟩
      · have hsm := hq
        simp only [putOk, hlen, decide_eq_true_eq] at hsm
        have hsi : ¬ (60 : Int) < (p : Int) + o := by omega
        have HQ := Lib.hid (putL_yes hq)
        have HK := Lib.hid hq
        clear hq
        go_wp2_with fail
        go_ret2
        exact ⟨A', c', by rw [HK.out, HQ.out, hlen]; rfl, by rw [HQ.out, hlen]; exact ho2.out, hB2⟩
theorem rk_bound (rk : Int → Nat) : ∀ t : List Int, ∃ K, ∀ x ∈ t, x < 0 → rk x < K
  | [] => ⟨0, fun x h => by cases h⟩
  | y :: t => by
    obtain ⟨K, hK⟩ := rk_bound rk t
    refine ⟨max K (rk y + 1), fun x hx h0 => ?_⟩
    rcases List.mem_cons.1 hx with rfl | hx
    · omega
    · have := hK x hx h0; omega
theorem resL_nil (u : List Int) : resL [] u = fullL u := by unfold resL resB fullL; simp
theorem resB_nil (u : List Int) : resB [] u = decide (u.length ≤ 60) := by unfold resB; simp
theorem in_take {k : Nat} {t : List Int} (h : Un.In 48 t) : Un.In 48 (t.take k) := fun v hv h0 => h v (List.mem_of_mem_take hv) h0
theorem bnd_re {w0 w : World} {G : Nat} {T : TypeId} {hd : List Value} {B : Un.Bd} (h : Bnd w0 w G T hd B) (ho : Only G (G + 1) w0 w) : Bnd w w G T hd B := by
  obtain ⟨vs, hl, hk, hv⟩ := h
  exact ⟨vs, hl, hk, fun i hi => (hv i hi).only ho⟩
theorem bnd_on {w w' : World} {G : Nat} {T : TypeId} {hd : List Value} {B : Un.Bd} (h : Bnd w w G T hd B) (hb : Below w.heap.size w w') : Bnd w' w' G T hd B := bnd_re (h.below hb) (Only.of hb)
theorem resolve0 (f : Int → Int) (U : Nat) (S : Value) (B : Un.Bd) (σ : Int → List Int) (rk : Int → Nat) (gd : Un.Good f 48 B σ rk) (t : List Int) (A : Option Addr) (n c : Nat) (w : World) (hin : Un.In 48 t) (h : RI w A n t) (hA : 0 < n → ∀ a, A = some a → a.block ≠ U) (h60 : n ≤ 60) (hb : Bnd w w U 95 [S] B) :
    Calls Try.prog 53 #[.pointer (some ⟨U, 0, none⟩), .slice none 0 0, .slice A n c] w fun e w' => ∃ A' c', e = .returned (.tuple #[.slice A' (fullL (Un.ap σ t)).length c', .bool (decide ((Un.ap σ t).length ≤ 60))]) ∧ OI w' w.heap.size A' (fullL (Un.ap σ t)).length c' (fullL (Un.ap σ t)) ∧ Below w.heap.size w w' := by
  obtain ⟨K, hK⟩ := rk_bound rk t
  have hl := h.1
  subst hl
  have := resolve_any f U w.heap.size S w B σ rk gd hb.lt (Nat.le_refl _) K t (.slice A t.length c) none 0 0 [] w hK hin ⟨A, c, rfl, h, hA, by omega⟩ hb (Only.refl _ _ _) (Nat.le_refl _) rfl (by omega) (World.ownsRow_nil _ _ _ _)
  rw [resL_nil, resB_nil] at this
  exact this
set_option maxHeartbeats 1000000 in
theorem placeIn_any (f : Int → Int) (U : Nat) (S : Value) (B : Un.Bd) (σ : Int → List Int) (rk : Int → Nat) (gd : Un.Good f 48 B σ rk) (t : List Int) (A : Option Addr) (n c q : Nat) (w : World) (hin : Un.In 48 t) (h : RI w A n t) (hA : ∀ a, A = some a → a.block ≠ U) (h60 : n ≤ 60) (hn : n ≤ c) (hc : c ≤ 9223372036854775807) (hq : q < n) (hb : Bnd w w U 95 [S] B) (hlen : (Un.ap σ (t.take q)).length ≤ 60) :
    Calls Try.prog 56 #[.pointer (some ⟨U, 0, none⟩), .slice A n c, .int .i64 q] w fun e w' => e = .returned (.int .i64 ((Un.ap σ (t.take q)).length : Nat)) ∧ Below w.heap.size w w' := by
  obtain ⟨g, off, rfl, _⟩ := h.2 (by omega)
  have e0 : (0 : Int) ≤ q := by omega
  have e1 : (q : Int) ≤ c := by omega
  have hr := ri_part h 0 q (by omega) (by omega)
  simp only [Nat.add_zero, Nat.sub_zero, List.drop_zero] at hr
  have HF := Lib.hid (fullL_yes hlen)
  go_enter Try.func56, Try.ntmps56
  go_wp2_with fail
  refine (resolve0 f U S B σ rk gd (t.take q) _ _ _ _ (in_take hin) hr (fun _ a ha => hA a ha) (by omega) hb).mono ?_
  rintro e w1 ⟨A1, c1, rfl, ho1, hb1⟩
  rw [HF.out] at ho1 ⊢
  go_wp2_with fail
  go_ret
  exact ⟨rfl, hb1⟩
end Go.Proofs.Ytcjgcopkeeiicaa
