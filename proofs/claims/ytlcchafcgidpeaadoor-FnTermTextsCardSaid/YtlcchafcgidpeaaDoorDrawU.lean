/- Contracts: drawn substitutions. -/
import Derived.Test.YtlcchafcgidpeaaDoorDrawE
import Derived.Test.YtlcchafcgidpeaaDoorMat
namespace Go.Proofs.YtlcchafcgidpeaaDoor
open Go.RowKit
set_option linter.unusedVariables false
set_option linter.unusedSimpArgs false

/-- Drawn rows: the call's own slice of slices, from block B on, each of them from B on too. -/
def DP (w : World) (B : Nat) (A : Option Addr) (n c : Nat) (x : List (List Int)) : Prop :=
  x.length = n ∧ ∃ vs : List Value, w.ownsRow B 22 1 (.slice A n c) n vs ∧
    ∀ k, k < n → ∃ T m d, vs[k]? = some (.slice T m d) ∧ RB w B T m (x.getD k []) ∧ m ≤ 60 ∧ (m ≤ d ∧ d ≤ 9223372036854775807) ∧ (0 < m → ∀ a, T = some a → blk A ≠ some a.block)
section
variable {w w' : World} {B lo hi : Nat} {A : Option Addr} {n c : Nat} {x : List (List Int)}
theorem DP.nil (w : World) (B : Nat) : DP w B none 0 0 [] := ⟨rfl, [], World.ownsRow_nil w B _ _, fun k hk => by omega⟩
theorem DP.up (h : DP w B A n c x) (ho : Only lo hi w w') (hB : hi ≤ B) : DP w' B A n c x := by
  obtain ⟨h1, vs, h2, h3⟩ := h
  refine ⟨h1, vs, own_same h2 fun b hb => ho.block b (h2.lt b hb).2 (Or.inr (by have := (h2.lt b hb).1; omega)), fun k hk => ?_⟩
  obtain ⟨T, m, d, e1, e2, e3, e4, e5⟩ := h3 k hk
  exact ⟨T, m, d, e1, e2.up ho hB, e3, e4, e5⟩
theorem DP.below (h : DP w B A n c x) (hb : Below w.heap.size w w') : DP w' B A n c x := by
  obtain ⟨h1, vs, h2, h3⟩ := h
  refine ⟨h1, vs, ownsRow_below h2 hb, fun k hk => ?_⟩
  obtain ⟨T, m, d, e1, e2, e3, e4, e5⟩ := h3 k hk
  exact ⟨T, m, d, e1, e2.below hb, e3, e4, e5⟩
theorem DP.base {B' : Nat} (h : DP w B A n c x) (hB : B' ≤ B) : DP w B' A n c x := by
  obtain ⟨h1, vs, h2, h3⟩ := h
  refine ⟨h1, vs, ownsRow_base h2 hB, fun k hk => ?_⟩
  obtain ⟨T, m, d, e1, e2, e3, e4, e5⟩ := h3 k hk
  exact ⟨T, m, d, e1, e2.base hB, e3, e4, e5⟩
theorem DP.rr (h : DP w B A n c x) : RR w A n x := by
  obtain ⟨h1, vs, h2, h3⟩ := h
  refine ⟨h1, fun hn => ?_⟩
  rcases h2.2 with ⟨_, h0⟩ | ⟨g, cap, cur, hv, hB, _⟩
  · omega
  · simp only [Value.slice.injEq] at hv
    obtain ⟨rfl, _, rfl⟩ := hv
    refine ⟨g, 0, rfl, fun k hk => ?_⟩
    obtain ⟨T, m, d, e1, e2, e3, e4, e5⟩ := h3 k hk
    have hc := h2.cellAt k (by omega)
    exact ⟨T, m, d, by rw [Nat.zero_add, hc, e1], e2.1, by omega⟩
theorem DP.cap (h : DP w B A n c x) : n ≤ c ∧ c ≤ maxLen := by
  obtain ⟨h1, vs, h2, h3⟩ := h
  obtain ⟨A', c', hv, h4, h5⟩ := own_form h2
  simp only [Value.slice.injEq] at hv
  obtain ⟨_, _, rfl⟩ := hv
  exact ⟨h4, h5⟩
theorem DP.row (h : DP w B A n c x) {k : Nat} (hk : k < n) : (x.getD k []).length ≤ 60 := by
  obtain ⟨h1, vs, h2, h3⟩ := h
  obtain ⟨T, m, d, e1, e2, e3, e4, e5⟩ := h3 k hk
  have := e2.1.1
  omega
theorem sum_le60 : ∀ {l : List Nat}, (∀ a ∈ l, a ≤ 60) → l.sum ≤ 60 * l.length
  | [], _ => by simp
  | a :: l, h => by
    have h1 := h a List.mem_cons_self
    have h2 := sum_le60 (l := l) fun b hb => h b (List.mem_cons_of_mem _ hb)
    rw [List.sum_cons, List.length_cons]; omega
theorem DP.wt (h : DP w B A n c x) : wtR x ≤ 61 * n := by
  have hr := fun k hk => h.row (k := k) hk
  have hl := h.1
  unfold wtR
  have := sum_le60 (l := x.map List.length) fun a ha => by
    obtain ⟨t, ht, rfl⟩ := List.mem_map.1 ha
    obtain ⟨k, hk, e⟩ := List.getElem_of_mem ht
    have := hr k (by omega)
    rw [List.getD_eq_getElem?_getD, List.getElem?_eq_getElem hk, Option.getD_some, e] at this
    exact this
  rw [List.length_map] at this
  omega
/-- Where a row that reads lies. -/
theorem RB.lt {T : Option Addr} {m : Nat} {t : List Int} (h : RB w B T m t) (hm : 0 < m) : ∀ a, T = some a → a.block < w.heap.size := by
  intro a ha
  obtain ⟨g, off, hA, hc⟩ := h.1.2 hm
  rw [hA] at ha
  injection ha with ha
  subst ha
  have := World.block_lt_of_cell? w _ (hc 0 hm)
  simpa using this
theorem RB.same {T : Option Addr} {m : Nat} {t : List Int} (h : RB w B T m t) (hs : ∀ a, T = some a → w'.heap[a.block]? = w.heap[a.block]?) : RB w' B T m t := by
  refine ⟨⟨h.1.1, fun hn => ?_⟩, h.2⟩
  obtain ⟨g, off, hA, hc⟩ := h.1.2 hn
  exact ⟨g, off, hA, fun k hk => (show w'.cell? ⟨g, off + k, none⟩ = w.cell? ⟨g, off + k, none⟩ from World.cell?_of_block (show w'.heap[g]? = w.heap[g]? from hs _ hA)).trans (hc k hk)⟩
/-- One row more. -/
theorem DP.push (h : DP w B A n c x) {T : Option Addr} {m d : Nat} {t : List Int} (ht : RB w B T m t) (hm : m ≤ 60) (hd : m ≤ d ∧ d ≤ 9223372036854775807) (hne : 0 < m → ∀ a, T = some a → blk A ≠ some a.block)
    {vs : List Value} {o : Obj} {w2 : World} {A' : Option Addr} {c' : Nat} (hvs : ∀ k, k < n → ∃ T m d, vs[k]? = some (.slice T m d) ∧ RB w B T m (x.getD k []) ∧ m ≤ 60 ∧ (m ≤ d ∧ d ≤ 9223372036854775807) ∧ (0 < m → ∀ a, T = some a → blk A ≠ some a.block)) (hvl : vs.length = n)
    (ho : w2.ownsRow B 22 1 (.slice A' (n + 1) c') (n + 1) (vs ++ [.slice T m d])) (hg : (w.alloc o).grownBy w2 (Value.slice A n c).ownBlock) (hw : A' = A ∨ A' = some ⟨(w.alloc o).heap.size, 0, none⟩) : DP w2 B A' (n + 1) c' (x ++ [t]) := by
  have hl := h.1
  have keep : ∀ {T : Option Addr} {m : Nat} {t : List Int}, RB w B T m t → (0 < m → ∀ a, T = some a → blk A ≠ some a.block) → RB w2 B T m t := by
    intro T m t hr hn
    rcases Nat.eq_zero_or_pos m with h0 | h0
    · subst h0
      exact ⟨⟨hr.1.1, fun h => absurd h (by omega)⟩, fun h => absurd h (by omega)⟩
    · refine hr.same fun a ha => ?_
      have hlt := hr.lt h0 a ha
      rw [hg.block a.block (by simp; omega) (fun e => hn h0 a ha (by rw [← blk_own A n c]; exact e.symm))]
      exact Below.heap_alloc w o a.block hlt
  have keep2 : ∀ {T : Option Addr} {m : Nat} {t : List Int}, RB w B T m t → (0 < m → ∀ a, T = some a → blk A ≠ some a.block) → (0 < m → ∀ a, T = some a → blk A' ≠ some a.block) := by
    intro T m t hr hn h0 a ha
    rcases hw with e | e
    · rw [e]; exact hn h0 a ha
    · rw [e]
      have := hr.lt h0 a ha
      simp [blk]
      omega
  refine ⟨by rw [List.length_append, hl]; rfl, _, ho, fun k hk => ?_⟩
  by_cases hkn : k < n
  · obtain ⟨T', m', d', e1, e2, e3, e4, e5⟩ := hvs k hkn
    refine ⟨T', m', d', by rw [List.getElem?_append_left (by omega)]; exact e1, ?_, e3, e4, keep2 e2 e5⟩
    rw [getD_snoc _ _ _ _ (by omega), if_pos (by omega)]
    exact keep e2 e5
  · obtain rfl : k = n := by omega
    refine ⟨T, m, d, by rw [List.getElem?_append_right (by omega), hvl]; simp, ?_, hm, hd, keep2 ht hne⟩
    rw [getD_snoc _ _ _ _ (by omega), if_neg (by omega)]
    exact keep ht hne
end
/-- A store into a block of one slice: no drawn row lies there. -/
theorem RB.setS {w : World} {B gs : Nat} {ty : TypeId} {A0 : Option Addr} {n0 c0 : Nat} {T : Option Addr} {m : Nat} {t : List Int} (h : RB w B T m t) (hb : Blk w gs ty #[.slice A0 n0 c0]) (u : Value) : RB (w.setCell ⟨gs, 0, none⟩ u) B T m t := by
  rcases Nat.eq_zero_or_pos m with h0 | h0
  · subst h0
    exact ⟨⟨h.1.1, fun h => absurd h (by omega)⟩, fun h => absurd h (by omega)⟩
  refine h.same fun a ha => Below.heap_setCell w ⟨gs, 0, none⟩ u a.block (fun e => ?_)
  obtain ⟨g, off, hA, hc⟩ := h.1.2 h0
  rw [hA] at ha
  injection ha with ha
  subst ha
  have h1 := hc 0 h0
  simp only at e
  rw [e, hb.cell] at h1
  cases off with
  | zero => simp at h1
  | succ off => simp at h1
theorem DP.setS {w : World} {B gs : Nat} {ty : TypeId} {A0 : Option Addr} {n0 c0 : Nat} {A : Option Addr} {n c : Nat} {x : List (List Int)} (h : DP w B A n c x) (hb : Blk w gs ty #[.slice A0 n0 c0]) (hty : ty ≠ 22) (u : Value) : DP (w.setCell ⟨gs, 0, none⟩ u) B A n c x := by
  obtain ⟨h1, vs, h2, h3⟩ := h
  refine ⟨h1, vs, own_same h2 fun b hbl => Below.heap_setCell w ⟨gs, 0, none⟩ u b (fun e => ?_), fun k hk => ?_⟩
  · rcases h2.2 with ⟨hn, _⟩ | ⟨g, cap, cur, hv, hB, hg, _⟩
    · rw [hn] at hbl; cases hbl
    · rw [hv] at hbl
      have hbl2 : g = b := by simpa [Value.ownBlock] using hbl
      subst hbl2
      simp only at e
      unfold Blk at hb
      rw [← e, hg] at hb
      simp at hb
      exact hty hb.2.symm
  · obtain ⟨T, m, d, e1, e2, e3, e4, e5⟩ := h3 k hk
    exact ⟨T, m, d, e1, e2.setS hb u, e3, e4, e5⟩
theorem ownsRow_upO {w w' : World} {B lo hi e size : Nat} {v : Value} {n : Nat} {xs : List Value} (h : w.ownsRow B e size v n xs) (ho : Only lo hi w w') (hB : hi ≤ B) : w'.ownsRow B e size v n xs :=
  own_same h fun b hb => ho.block b (h.lt b hb).2 (Or.inr (by have := (h.lt b hb).1; omega))
/-- A block of another type stays as it is when a row grows. -/
theorem bkGrowS {w w2 : World} {o : Obj} {gs B e : Nat} {ty : TypeId} {cs : Array Value} {A : Option Addr} {n c size : Nat} {vs : List Value} (h : Blk w gs ty cs) (hg : (w.alloc o).grownBy w2 (Value.slice A n c).ownBlock) (hv : w.ownsRow B e size (.slice A n c) n vs) (hty : ty ≠ e) : Blk w2 gs ty cs := by
  have h1 := h.alloc o
  refine (hg.block gs h1.lt fun hh => ?_).trans h1
  rcases hv.2 with ⟨hn, _⟩ | ⟨g, cap, cur, hv2, hB, hg2, _⟩
  · rw [hn] at hh; cases hh
  · rw [hv2] at hh
    have : g = gs := by simpa [Value.ownBlock] using hh.symm
    subst this
    unfold Blk at h
    rw [hg2] at h
    simp at h
    exact hty h.2.symm
end Go.Proofs.YtlcchafcgidpeaaDoor
