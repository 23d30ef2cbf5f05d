/- Plain: renumbered terms. -/
import Derived.Test.YtcjgcopkeeiicaaRenum
import Derived.Test.YtcjgcopkeeiicaaVars
import Derived.Test.YtcjgcopkeeiicaaAbove
import Derived.Test.YtcjgcopkeeiicaaCnt
namespace Go.Proofs.Ytcjgcopkeeiicaa
set_option linter.unusedVariables false
theorem rn_neg {s : List Int} {x : Int} (hx : x < 0 → x ∈ s) : rn s x < 0 ↔ x < 0 := by
  by_cases h0 : x < 0
  · obtain ⟨k, hk, _⟩ := idx_nat (hx h0)
    rw [rn_var h0, hk]
    constructor <;> omega
  · rw [rn_sym h0]
theorem idx_inj {s : List Int} {x y : Int} (hx : x ∈ s) (hy : y ∈ s) (h : idx s x = idx s y) : x = y := by
  unfold idx at h
  rw [if_pos (by simpa using hx), if_pos (by simpa using hy)] at h
  have h1 : s.idxOf x = s.idxOf y := by omega
  have h2 := List.getElem_idxOf (List.idxOf_lt_length_iff.2 hx)
  have h3 := List.getElem_idxOf (List.idxOf_lt_length_iff.2 hy)
  rw [← h2, ← h3]
  congr 1
theorem rn_inj {s : List Int} {x y : Int} (hx : x < 0 → x ∈ s) (hy : y < 0 → y ∈ s) (h : rn s x = rn s y) : x = y := by
  by_cases h0 : x < 0
  · have h1 : y < 0 := (rn_neg hy).1 (by rw [← h]; exact (rn_neg hx).2 h0)
    rw [rn_var h0, rn_var h1] at h
    exact idx_inj (hx h0) (hy h1) (by omega)
  · have h1 : ¬ y < 0 := fun h1 => h0 ((rn_neg hx).1 (by rw [h]; exact (rn_neg hy).2 h1))
    rwa [rn_sym h0, rn_sym h1] at h
/-- A renumbering that keeps signs and parts what is apart. -/
def Good (s : List Int) (g : Int → Int) : Prop := (∀ x, (x < 0 → x ∈ s) → (g x < 0 ↔ x < 0)) ∧ (∀ x y, (x < 0 → x ∈ s) → (y < 0 → y ∈ s) → g x = g y → x = y) ∧ (∀ x, ¬ x < 0 → g x = x)
theorem good_rn (s : List Int) : Good s (rn s) := ⟨fun x h => rn_neg h, fun x y h1 h2 h => rn_inj h1 h2 h, fun x h => rn_sym h⟩
theorem mem_map_good {s : List Int} {g : Int → Int} (hg : Good s g) {u : List Int} (hu : ∀ y ∈ u, y < 0 → y ∈ s) {x : Int} (hx : x < 0 → x ∈ s) : g x ∈ u.map g ↔ x ∈ u := by
  rw [List.mem_map]
  constructor
  · rintro ⟨y, hy, e⟩
    have := hg.2.1 y x (hu y hy) hx e
    rwa [← this]
  · exact fun h => ⟨x, h, rfl⟩
theorem add1_map {s : List Int} {g : Int → Int} (hg : Good s g) {u : List Int} (hu : ∀ y ∈ u, y < 0 → y ∈ s) {x : Int} (hx : x < 0 → x ∈ s) : add1 (u.map g) (g x) = (add1 u x).map g := by
  unfold add1
  have h1 := hg.1 x hx
  have h2 := mem_map_good hg hu hx
  by_cases h : x < 0 ∧ x ∉ u
  · rw [if_pos h, if_pos ⟨h1.2 h.1, fun hh => h.2 (h2.1 hh)⟩, List.map_append]; rfl
  · rw [if_neg h, if_neg (fun hh => h ⟨h1.1 hh.1, fun e => hh.2 (h2.2 e)⟩)]
theorem ord_map_good {s : List Int} {g : Int → Int} (hg : Good s g) : ∀ {t u : List Int}, (∀ y ∈ u, y < 0 → y ∈ s) → (∀ x ∈ t, x < 0 → x ∈ s) → ord (u.map g) (t.map g) = (ord u t).map g
  | [], u, _, _ => rfl
  | x :: t, u, hu, ht => by
    show ord (add1 (u.map g) (g x)) (t.map g) = (ord (add1 u x) t).map g
    rw [add1_map hg hu (ht x (by simp))]
    refine ord_map_good hg (fun y hy h0 => ?_) (fun y hy => ht y (by simp [hy]))
    unfold add1 at hy
    split at hy
    · rw [List.mem_append, List.mem_singleton] at hy
      rcases hy with hy | rfl
      · exact hu y hy h0
      · exact ht y (by simp) h0
    · exact hu y hy h0
theorem idx_map {s : List Int} {g : Int → Int} (hg : Good s g) : ∀ {u : List Int}, (∀ y ∈ u, y ∈ s) → ∀ {x : Int}, x ∈ s → (u.map g).idxOf (g x) = u.idxOf x
  | [], _, _, _ => rfl
  | y :: u, hu, x, hx => by
    rw [List.map_cons, List.idxOf_cons, List.idxOf_cons]
    have ih := idx_map hg (u := u) (fun z hz => hu z (by simp [hz])) hx
    by_cases h : y = x
    · subst h; simp
    · have : ¬ g y = g x := fun e => h (hg.2.1 y x (fun _ => hu y (by simp)) (fun _ => hx) e)
      rw [show (g y == g x) = false by simpa using this, show (y == x) = false by simpa using h, ih]
theorem rn_map {s : List Int} {g : Int → Int} (hg : Good s g) {x : Int} (hx : x < 0 → x ∈ s) : rn (s.map g) (g x) = rn s x := by
  by_cases h0 : x < 0
  · rw [rn_var h0, rn_var ((hg.1 x hx).2 h0)]
    unfold idx
    have hm := hx h0
    rw [if_pos (show (s.map g).contains (g x) = true from List.contains_iff_mem.2 (List.mem_map.2 ⟨x, hm, rfl⟩)), if_pos (show s.contains x = true from List.contains_iff_mem.2 hm), idx_map hg (fun y hy => hy) hm]
  · rw [rn_sym h0, rn_sym (fun h => h0 ((hg.1 x hx).1 h)), hg.2.2 x h0]
theorem vars_in (t : List Int) : ∀ x ∈ t, x < 0 → x ∈ ord [] t := fun x hx h0 => ord_has [] hx h0
theorem ord_rnT (t : List Int) : ord [] (rnT t) = (ord [] t).map (rn (ord [] t)) :=
  ord_map_good (good_rn (ord [] t)) (u := []) (fun y hy => by cases hy) (vars_in t)
/-- Renumbering once more changes nothing. -/
theorem rnT_twice (t : List Int) : rnT (rnT t) = rnT t := by
  conv => lhs; unfold rnT
  rw [show List.map (rn (ord [] t)) t = rnT t from rfl, ord_rnT]
  unfold rnT
  rw [List.map_map]
  apply List.map_congr_left
  intro x hx
  exact rn_map (good_rn _) (vars_in t x hx)
theorem run_mapR {f g : Int → Int} : ∀ {t : List Int} {m : Nat}, (∀ x ∈ t, f (g x) = f x) → Pl.run f m (t.map g) = Pl.run f m t
  | t, 0, _ => by rw [Pl.run_zero, Pl.run_zero]
  | [], m + 1, _ => rfl
  | x :: t, m + 1, h => by
    simp only [List.map_cons, Pl.run]
    rw [h x (by simp), run_mapR (fun y hy => h y (by simp [hy]))]
theorem nodup_lt : ∀ (n : Nat) (l : List Nat), l.Nodup → (∀ x ∈ l, x < n) → l.length ≤ n
  | 0, l, _, h => by
    cases l with
    | nil => simp
    | cons a r => have := h a (by simp); omega
  | n + 1, l, hl, h => by
    have h1 := nodup_lt n (l.erase n) (hl.erase n) (fun x hx => by
      have h2 := (hl.mem_erase_iff).1 hx
      have := h x h2.2
      have := h2.1
      omega)
    rw [List.length_erase] at h1
    split at h1 <;> omega
theorem nodup_bd {s : List Int} (hn : s.Nodup) (h : ∀ x ∈ s, -24 ≤ x ∧ x < 0) : s.length ≤ 24 := by
  have key : (s.map fun x => (-1 - x).toNat).Nodup := by
    rw [List.Nodup, List.pairwise_map]
    refine List.Pairwise.imp_of_mem ?_ hn
    intro a b ha hb hab e
    have := h a ha
    have := h b hb
    exact hab (by omega)
  have h2 : ∀ n ∈ s.map (fun x => (-1 - x).toNat), n < 24 := by
    intro n hn
    rw [List.mem_map] at hn
    obtain ⟨x, hx, rfl⟩ := hn
    have := h x hx
    omega
  have h3 := nodup_lt 24 _ key h2
  simpa using h3
theorem ord_mem : ∀ {t s : List Int} {x : Int}, x ∈ ord s t → x ∈ s ∨ x ∈ t
  | [], s, x, h => .inl h
  | y :: t, s, x, h => by
    rcases ord_mem (t := t) (s := add1 s y) h with h1 | h1
    · unfold add1 at h1
      split at h1
      · rw [List.mem_append, List.mem_singleton] at h1
        rcases h1 with h1 | rfl
        · exact .inl h1
        · exact .inr (by simp)
      · exact .inl h1
    · exact .inr (by simp [h1])
theorem ord_bd {ar t : List Int} (h : Pl.termOk ar t = true) : (ord [] t).length ≤ 24 := by
  refine nodup_bd (ord_nodup List.nodup_nil) fun x hx => ?_
  have h1 : x ∈ t := (ord_mem hx).resolve_left (by simp)
  exact ⟨(Pl.termOk_bd h x h1).1, ord_neg (fun y hy => by cases hy) x hx⟩
theorem rn_range {s : List Int} {x : Int} (hx : x < 0 → x ∈ s) (h0 : x < 0) : -(s.length : Int) ≤ rn s x := by
  obtain ⟨k, hk, hl⟩ := idx_nat (hx h0)
  rw [rn_var h0, hk]; omega
theorem rnT_ok {ar t : List Int} (h : Pl.termOk ar t = true) : Pl.termOk ar (rnT t) = true := by
  obtain ⟨hs, hl, hr⟩ := Pl.termOk_iff.1 h
  have hb := ord_bd h
  refine Pl.termOk_iff.2 ⟨hs, by rw [rnT_len]; exact hl, ?_⟩
  rw [rnT_len]
  unfold rnT
  rw [run_mapR, hr]
  intro x hx
  by_cases h0 : x < 0
  · have h1 := rn_range (vars_in t x hx) h0
    have h2 := (rn_neg (vars_in t x hx)).2 h0
    have h3 := (Pl.termOk_bd h x hx).1
    unfold Pl.ari
    rw [if_pos h2, if_neg (by omega), if_pos h0, if_neg (by omega)]
  · rw [rn_sym h0]
/-- The variables of a renumbered term are the first ones. -/
theorem rnT_vars {t : List Int} (i : Nat) : vset (rnT t) i = decide (i < (ord [] t).length) := by
  unfold vset
  rw [Bool.eq_iff_iff, List.contains_iff_mem, decide_eq_true_eq]
  unfold rnT
  rw [List.mem_map]
  constructor
  · rintro ⟨x, hx, e⟩
    have h0 : x < 0 := (rn_neg (vars_in t x hx)).1 (by rw [e]; omega)
    obtain ⟨k, hk, hl⟩ := idx_nat (vars_in t x hx h0)
    rw [rn_var h0, hk] at e
    omega
  · intro hi
    have hm : (ord [] t)[i] ∈ ord [] t := List.getElem_mem hi
    have ht : (ord [] t)[i] ∈ t := (ord_mem hm).resolve_left (by simp)
    have h0 := ord_neg (s := []) (t := t) (fun y hy => by cases hy) _ hm
    refine ⟨_, ht, ?_⟩
    have hn := ord_nodup (t := t) (s := []) List.nodup_nil
    have hk : idx (ord [] t) (ord [] t)[i] = i := by
      unfold idx
      rw [if_pos (by simp)]
      congr 1
      exact hn.idxOf_getElem i hi
    rw [rn_var h0, hk]
theorem upto_first {f : Nat → Bool} {k n : Nat} (hf : ∀ i, f i = decide (i < k)) (hk : k ≤ n) : upto f n = List.range k := by
  unfold upto
  have : (List.range n).filter f = (List.range n).filter fun i => decide (i < k) := by congr 1; funext i; exact hf i
  rw [this]
  obtain ⟨m, rfl⟩ : ∃ m, n = k + m := ⟨n - k, by omega⟩
  rw [List.range_add, List.filter_append, List.filter_eq_self.2 (by simp), List.filter_eq_nil_iff.2 (by simp), List.append_nil]
theorem linTo_rnT (t : List Int) : linTo (rnT t) (rnT t).length = linTo t t.length := by
  rw [rnT_len]
  unfold linTo
  rw [Bool.eq_iff_iff, List.all_eq_true, List.all_eq_true]
  have key : ∀ i ∈ List.range t.length, (!(decide ((rnT t).getD i 0 < 0) && ((rnT t).take i).contains ((rnT t).getD i 0))) = (!(decide (t.getD i 0 < 0) && (t.take i).contains (t.getD i 0))) := by
    intro i hi
    have hi : i < t.length := by simpa using hi
    have hm := Pl.getD_mem (l := t) hi
    have hv := vars_in t _ hm
    have e1 : (rnT t).getD i 0 = rn (ord [] t) (t.getD i 0) := by
      unfold rnT
      simp only [List.getD_eq_getElem?_getD, List.getElem?_map, List.getElem?_eq_getElem hi, Option.map_some, Option.getD_some]
    have e2 : (rnT t).take i = (t.take i).map (rn (ord [] t)) := by unfold rnT; rw [List.map_take]
    rw [e1, e2]
    congr 1
    congr 1
    · rw [decide_eq_decide]; exact rn_neg hv
    · rw [Bool.eq_iff_iff, List.contains_iff_mem, List.contains_iff_mem]
      exact mem_map_good (good_rn _) (fun y hy => vars_in t y (List.mem_of_mem_take hy)) hv
  constructor
  · intro h i hi; rw [← key i hi]; exact h i hi
  · intro h i hi; rw [key i hi]; exact h i hi
end Go.Proofs.Ytcjgcopkeeiicaa
