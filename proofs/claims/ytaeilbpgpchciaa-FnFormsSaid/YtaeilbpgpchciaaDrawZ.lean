/- Contracts: drawn systems. -/
import Derived.Test.YtaeilbpgpchciaaDrawY
namespace Go.Proofs.Ytaeilbpgpchciaa
open Go.RowKit
set_option linter.unusedVariables false
set_option linter.unusedSimpArgs false

/-- One side of a drawn rule: a row of at most sixty numbers, not in the rules' own block. -/
def DS (w : World) (B : Nat) (A : Option Addr) (u : Option Value) (t : List Int) : Prop :=
  ∃ P p p', u = some (.slice P p p') ∧ RB w B P p t ∧ p ≤ 60 ∧ (p ≤ p' ∧ p' ≤ 9223372036854775807) ∧ (0 < p → ∀ a, P = some a → blk A ≠ some a.block)
/-- Drawn rules: the call's own slice of rules, from block B on, their sides from B on too. -/
def DU (w : World) (B : Nat) (A : Option Addr) (n c : Nat) (x : List (List Int × List Int)) : Prop :=
  x.length = n ∧ ∃ vs : List Value, w.ownsRow B 33 2 (.slice A n c) n vs ∧ ∀ k, k < n → DS w B A vs[k * 2]? (x.getD k ([], [])).1 ∧ DS w B A vs[k * 2 + 1]? (x.getD k ([], [])).2
section
variable {w w' : World} {B lo hi : Nat} {A : Option Addr} {n c : Nat} {x : List (List Int × List Int)} {u : Option Value} {t : List Int}
theorem DS.up (h : DS w B A u t) (ho : Only lo hi w w') (hB : hi ≤ B) : DS w' B A u t := by
  obtain ⟨P, p, p', e1, e2, e3, e4, e5⟩ := h
  exact ⟨P, p, p', e1, e2.up ho hB, e3, e4, e5⟩
theorem DS.below (h : DS w B A u t) (hb : Below w.heap.size w w') : DS w' B A u t := by
  obtain ⟨P, p, p', e1, e2, e3, e4, e5⟩ := h
  exact ⟨P, p, p', e1, e2.below hb, e3, e4, e5⟩
theorem DS.base {B' : Nat} (h : DS w B A u t) (hB : B' ≤ B) : DS w B' A u t := by
  obtain ⟨P, p, p', e1, e2, e3, e4, e5⟩ := h
  exact ⟨P, p, p', e1, e2.base hB, e3, e4, e5⟩
theorem DU.nil (w : World) (B : Nat) : DU w B none 0 0 [] := ⟨rfl, [], World.ownsRow_nil w B _ _, fun k hk => by omega⟩
theorem DU.up (h : DU w B A n c x) (ho : Only lo hi w w') (hB : hi ≤ B) : DU w' B A n c x := by
  obtain ⟨h1, vs, h2, h3⟩ := h
  exact ⟨h1, vs, ownsRow_upO h2 ho hB, fun k hk => ⟨(h3 k hk).1.up ho hB, (h3 k hk).2.up ho hB⟩⟩
theorem DU.below (h : DU w B A n c x) (hb : Below w.heap.size w w') : DU w' B A n c x := by
  obtain ⟨h1, vs, h2, h3⟩ := h
  exact ⟨h1, vs, ownsRow_below h2 hb, fun k hk => ⟨(h3 k hk).1.below hb, (h3 k hk).2.below hb⟩⟩
theorem DU.base {B' : Nat} (h : DU w B A n c x) (hB : B' ≤ B) : DU w B' A n c x := by
  obtain ⟨h1, vs, h2, h3⟩ := h
  exact ⟨h1, vs, ownsRow_base h2 hB, fun k hk => ⟨(h3 k hk).1.base hB, (h3 k hk).2.base hB⟩⟩
theorem DU.ru (h : DU w B A n c x) : RU w A n x := by
  obtain ⟨h1, vs, h2, h3⟩ := h
  refine ⟨h1, fun hn => ?_⟩
  have hlen := h2.1
  rcases h2.2 with ⟨_, h0⟩ | ⟨g, cap, cur, hv, hB, _⟩
  · omega
  · simp only [Value.slice.injEq] at hv
    obtain ⟨rfl, _, rfl⟩ := hv
    refine ⟨g, 0, rfl, fun k hk => ?_⟩
    obtain ⟨⟨P, p, p', e1, e2, e3, e4, _⟩, ⟨Q, q, q', f1, f2, f3, f4, _⟩⟩ := h3 k hk
    have hc1 := h2.cellAt (k * 2) (by omega)
    have hc2 := h2.cellAt (k * 2 + 1) (by omega)
    exact ⟨P, p, p', Q, q, q', by rw [Nat.zero_add, hc1, e1], by rw [Nat.zero_add, hc2, f1], e2.1, f2.1, e4.1, e4.2, f4.1, f4.2⟩
theorem DU.wt (h : DU w B A n c x) : wtU x ≤ 121 * n := by
  obtain ⟨h1, vs, h2, h3⟩ := h
  have key : ∀ a ∈ x.map rlen, a ≤ 120 := fun a ha => by
    obtain ⟨r, hr, rfl⟩ := List.mem_map.1 ha
    obtain ⟨k, hk, e⟩ := List.getElem_of_mem hr
    obtain ⟨⟨P, p, p', e1, e2, e3, _, _⟩, ⟨Q, q, q', f1, f2, f3, _, _⟩⟩ := h3 k (by omega)
    rw [List.getD_eq_getElem?_getD, List.getElem?_eq_getElem hk, Option.getD_some, e] at e2 f2
    have := e2.1.1
    have := f2.1.1
    unfold rlen
    omega
  have hs : ∀ {l : List Nat}, (∀ a ∈ l, a ≤ 120) → l.sum ≤ 120 * l.length := by
    intro l
    induction l with
    | nil => intro _; simp
    | cons a l ih =>
      intro hl
      have h1 := hl a List.mem_cons_self
      have h2 := ih fun b hb => hl b (List.mem_cons_of_mem _ hb)
      rw [List.sum_cons, List.length_cons]; omega
  have := hs key
  rw [List.length_map] at this
  unfold wtU
  omega
theorem getD_snocU (l : List (List Int × List Int)) (a d : List Int × List Int) (k : Nat) (h : k < l.length + 1) : (l ++ [a]).getD k d = if k < l.length then l.getD k d else a := getD_snoc l a d k h
/-- One rule more. -/
theorem DU.push (h : DU w B A n c x) {vs : List Value} {o : Obj} {w2 : World} {A' : Option Addr} {c' : Nat} {u v : Value} {l r : List Int} (hl : DS w B A (some u) l) (hr : DS w B A (some v) r)
    (hvs : ∀ k, k < n → DS w B A vs[k * 2]? (x.getD k ([], [])).1 ∧ DS w B A vs[k * 2 + 1]? (x.getD k ([], [])).2) (hvl : vs.length = n * 2)
    (ho : w2.ownsRow B 33 2 (.slice A' (n + 1) c') (n + 1) (vs ++ [u, v])) (hg : (w.alloc o).grownBy w2 (Value.slice A n c).ownBlock) (hw : A' = A ∨ A' = some ⟨(w.alloc o).heap.size, 0, none⟩) : DU w2 B A' (n + 1) c' (x ++ [(l, r)]) := by
  have hxl := h.1
  have keep : ∀ {u : Option Value} {t : List Int}, DS w B A u t → DS w2 B A' u t := by
    rintro u t ⟨P, p, p', e1, e2, e3, e4, e5⟩
    refine ⟨P, p, p', e1, ?_, e3, e4, fun h0 a ha => ?_⟩
    · rcases Nat.eq_zero_or_pos p with h0 | h0
      · subst h0
        exact ⟨⟨e2.1.1, fun h => absurd h (by omega)⟩, fun h => absurd h (by omega)⟩
      · refine e2.same fun a ha => ?_
        have hlt := e2.lt h0 a ha
        rw [hg.block a.block (by simp; omega) (fun e => e5 h0 a ha (by rw [← blk_own A n c]; exact e.symm))]
        exact Below.heap_alloc w o a.block hlt
    · rcases hw with e | e
      · rw [e]; exact e5 h0 a ha
      · rw [e]
        have := e2.lt h0 a ha
        simp [blk]
        omega
  refine ⟨by rw [List.length_append, hxl]; rfl, _, ho, fun k hk => ?_⟩
  by_cases hkn : k < n
  · obtain ⟨a1, a2⟩ := hvs k hkn
    rw [getD_snocU _ _ _ _ (by omega), if_pos (by omega), List.getElem?_append_left (by omega), List.getElem?_append_left (by omega)]
    exact ⟨keep a1, keep a2⟩
  · obtain rfl : k = n := by omega
    rw [getD_snocU _ _ _ _ (by omega), if_neg (by omega), List.getElem?_append_right (by omega), List.getElem?_append_right (by omega), hvl]
    have e1 : k * 2 - k * 2 = 0 := by omega
    have e2 : k * 2 + 1 - k * 2 = 1 := by omega
    rw [e1, e2]
    exact ⟨keep hl, keep hr⟩
/-- A row that the call has just laid. -/
theorem RB.blk {g : Nat} {xs : List Int} (h : Blk w g 2 (xs.map (Value.int .i64)).toArray) (hB : B ≤ g) : RB w B (some ⟨g, 0, none⟩) xs.length xs := by
  refine ⟨⟨rfl, fun _ => ⟨g, 0, rfl, fun k hk => ?_⟩⟩, fun _ a ha => by injection ha with ha; subst ha; exact hB⟩
  rw [Nat.zero_add, h.cell]
  simp [List.getD_eq_getElem?_getD, hk]
/-- A rule's side that the call has just laid. -/
theorem DS.lit {g g0 : Nat} {xs : List Int} (h : Blk w g 2 (xs.map (Value.int .i64)).toArray) (hB : B ≤ g) (hl : xs.length ≤ 60) (hne : g0 ≠ g) : DS w B (some ⟨g0, 0, none⟩) (some (.slice (some ⟨g, 0, none⟩) xs.length xs.length)) xs :=
  ⟨_, _, _, rfl, RB.blk h hB, hl, by omega, fun _ a ha => by injection ha with ha; subst ha; simpa [Go.Proofs.Ytaeilbpgpchciaa.blk] using hne⟩
theorem DU.lit {g n : Nat} {vs : List Value} (h : Blk w g 33 vs.toArray) (hB : B ≤ g) (hl : vs.length = n * 2) (hn : n ≤ 1000) (hx : x.length = n) (hr : ∀ k, k < n → DS w B (some ⟨g, 0, none⟩) vs[k * 2]? (x.getD k ([], [])).1 ∧ DS w B (some ⟨g, 0, none⟩) vs[k * 2 + 1]? (x.getD k ([], [])).2) : DU w B (some ⟨g, 0, none⟩) n n x :=
  ⟨hx, vs, ⟨hl, Or.inr ⟨g, n, vs.toArray, rfl, hB, h, Nat.le_refl _, by unfold maxLen; omega, by simp [hl], by simp [List.take_of_length_le, hl]⟩⟩, hr⟩
end
end Go.Proofs.Ytaeilbpgpchciaa
