/- Plain: how high the stack of equations grows. -/
import Derived.Test.YtcjgcopkeeiicaaUns
namespace Go.Proofs.Ytcjgcopkeeiicaa.Un
set_option linter.unusedVariables false

theorem filter_len_lt {α : Type} {p q : α → Bool} (h : ∀ a, p a = true → q a = true) {x : α} (hq : q x = true) (hp : p x = false) : ∀ {l : List α}, x ∈ l → (l.filter p).length < (l.filter q).length
  | a :: l, hx => by
    rw [List.filter_cons, List.filter_cons]
    rcases List.mem_cons.1 hx with rfl | hx
    · rw [hq, hp]
      have := filter_len_le h l
      simp; omega
    · have ih := filter_len_lt h hq hp hx
      cases h1 : p a
      · cases h2 : q a
        · simpa using ih
        · simp; omega
      · rw [h a h1]; simpa using ih
/-- How many variables have a lower rank. -/
def cnt (rk : Int → Nat) (v : Int) : Nat := ((List.range 48).filter fun i => decide (rk (vr i) < rk v)).length
theorem cnt_le (rk : Int → Nat) (v : Int) : cnt rk v ≤ 48 := by unfold cnt; exact Nat.le_trans (List.length_filter_le _ _) (by simp)
theorem cnt_lt {rk : Int → Nat} {v w : Int} (hw : w < 0) (hi : ix w < 48) (h : rk w < rk v) : cnt rk w < cnt rk v := by
  unfold cnt
  refine filter_len_lt (x := ix w) (fun a ha => ?_) ?_ ?_ (List.mem_range.2 hi)
  · simp only [decide_eq_true_eq] at ha ⊢; omega
  · rw [vr_ix hw]; simpa using h
  · rw [vr_ix hw]; simp
/-- What the variables may have later on. -/
def Ext (B B' : Bd) (rk : Int → Nat) : Prop := (∀ i, B i ≠ [] → B' i = B i) ∧ ∀ v, v < 0 → B' (ix v) ≠ [] → (B' (ix v)).length ≤ 60 ∧ ∀ w ∈ B' (ix v), w < 0 → ix w < 48 ∧ rk w < rk v
def Fit (rk : Int → Nat) (e : List Int) (i : Nat) : Prop := ∃ c, (∀ v ∈ e, v < 0 → cnt rk v < c) ∧ 2 * (e.length + 61 * c) + i ≤ 6098
def Low (B : Bd) (L : List (List Int)) : Prop := ∀ B' rk, Ext B B' rk → ∀ i, i < L.length → Fit rk (gt L i) i
theorem Low.start (B : Bd) {s : List Int} (h : s.length ≤ 60) : Low B [s] := by
  intro B' rk _ i hi
  obtain rfl : i = 0 := by simpa using hi
  exact ⟨49, fun v _ _ => by have := cnt_le rk v; omega, by show 2 * (s.length + 61 * 49) + 0 ≤ 6098; omega⟩
theorem Low.ext {B B1 : Bd} {L : List (List Int)} (h : Low B L) (hB : ∀ i, B i ≠ [] → B1 i = B i) : Low B1 L := by
  intro B' rk he
  refine h B' rk ⟨fun i hi => ?_, he.2⟩
  have := hB i hi
  rw [he.1 i (by rw [this]; exact hi), this]
theorem Low.put {B : Bd} {L : List (List Int)} (h : Low B L) {i : Nat} (hb : B i = []) (t : List Int) : Low (put B i t) L :=
  h.ext fun j hj => put_other fun e => hj (by rw [e]; exact hb)
theorem Low.pop {B : Bd} {L : List (List Int)} {a : List Int} (h : Low B (L ++ [a])) : Low B L := by
  intro B' rk he i hi
  have := h B' rk he i (by simp; omega)
  rwa [gt_snoc _ _ _ (by omega), if_pos hi] at this
theorem Low.len {B : Bd} {L : List (List Int)} {rk : Int → Nat} (h : Low B L) (he : Ext B B rk) : L.length ≤ 6099 := by
  rcases Nat.lt_or_ge 6099 L.length with hl | hl
  · obtain ⟨c, _, hc⟩ := h B rk he (L.length - 1) (by omega)
    omega
  · exact hl
theorem fit_root {f : Int → Int} (hf : Ar f) {B B' : Bd} {rk : Int → Nat} (he : Ext B B' rk) (hw : ∀ i, B i ≠ [] → WT f (B i)) {j : Nat} : ∀ {k : Nat} {a u : List Int}, RoN B k a u → WT f a → Fit rk a j → Fit rk u j
  | 0, a, u, h, ha, hc => by rw [h.1]; exact hc
  | k + 1, a, u, h, ha, hc => by
    obtain ⟨h0, h1, h2⟩ := h
    refine fit_root hf he hw h2 (hw _ h1) ?_
    obtain ⟨c, c1, c2⟩ := hc
    have hcv := c1 _ (hd_mem ha.1) h0
    have e := he.1 _ h1
    obtain ⟨l1, l2⟩ := he.2 _ h0 (by rw [e]; exact h1)
    rw [e] at l1 l2
    refine ⟨cnt rk (hd a), fun w hw' hw0 => cnt_lt hw0 (l2 w hw' hw0).1 (l2 w hw' hw0).2, ?_⟩
    have := ha.1.pos
    omega
theorem parts_sub {f : Int → Int} {t : List Int} (h : WT f t) {u : List Int} (hu : u ∈ parts f t) : u.length + 1 ≤ t.length ∧ ∀ v ∈ u, v ∈ t := by
  have hm : ∀ v ∈ u, v ∈ t := by
    unfold parts at hu
    obtain ⟨q, _, rfl⟩ := List.mem_map.1 hu
    exact fun v hv => sub_mem hv
  refine ⟨?_, hm⟩
  have e := congrArg List.length (parts_flat h.1)
  rw [List.length_cons] at e
  have : ∀ L : List (List Int), u ∈ L → u.length ≤ (L.flatMap id).length := by
    intro L
    induction L with
    | nil => intro h; cases h
    | cons x L ih =>
      intro hL
      simp only [List.flatMap_cons, List.length_append]
      show u.length ≤ x.length + _
      rcases List.mem_cons.1 hL with rfl | hL
      · omega
      · have := ih hL; omega
  have := this _ hu
  omega
theorem Low.parts {f : Int → Int} (hf : Ar f) {B : Bd} {L : List (List Int)} {a u : List Int} {k : Nat} (h : Low B (L ++ [a])) (hw : ∀ i, B i ≠ [] → WT f (B i)) (hr : RoN B k a u) (ha : WT f a) (hu : WT f u) (h3 : (parts f u).length ≤ 3) : Low B (L ++ parts f u) := by
  intro B' rk he i hi
  rw [List.length_append] at hi
  rw [gt_app]
  by_cases hl : i < L.length
  · rw [if_pos hl]; exact h.pop B' rk he i hl
  · rw [if_neg hl]
    have h1 := h B' rk he L.length (by simp)
    rw [gt_snoc _ _ _ (by omega), if_neg (by omega)] at h1
    obtain ⟨c, c1, c2⟩ := fit_root hf he hw hr ha h1
    have hm : gt (Un.parts f u) (i - L.length) ∈ Un.parts f u := by
      unfold gt
      rw [List.getD_eq_getElem?_getD, List.getElem?_eq_getElem (by omega), Option.getD_some]
      exact List.getElem_mem (by omega)
    obtain ⟨p1, p2⟩ := parts_sub hu hm
    exact ⟨c, fun v hv h0 => c1 v (p2 v hv) h0, by omega⟩
/-- Its own terms, where they are short. -/
theorem Good.ext {f : Int → Int} {B : Bd} {σ : Int → List Int} {rk : Int → Nat} (g : Good f 48 B σ rk) (hl : ∀ i, (B i).length ≤ 60) : Ext B B rk :=
  ⟨fun _ _ => rfl, fun v h0 hb => ⟨hl _, fun w hw hw0 => ⟨(g.has v h0 hb).2.1 w hw hw0, (g.has v h0 hb).2.2.2 w hw hw0⟩⟩⟩
end Go.Proofs.Ytcjgcopkeeiicaa.Un
