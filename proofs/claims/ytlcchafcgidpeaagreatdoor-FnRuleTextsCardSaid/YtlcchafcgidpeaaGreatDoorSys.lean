/- Contracts: systems: their size, copy, comparison. -/
import Derived.Test.YtlcchafcgidpeaaGreatDoorSubst
import Derived.Test.YtlcchafcgidpeaaGreatDoorRule
namespace Go.Proofs.YtlcchafcgidpeaaGreatDoor
open Go.RowKit
set_option linter.unusedVariables false
set_option linter.unusedSimpArgs false

/-- A slice of rules that reads as the list x. -/
def RU (w : World) (A : Option Addr) (n : Nat) (x : List (List Int × List Int)) : Prop :=
  x.length = n ∧ (0 < n → ∃ g off, A = some ⟨g, off, none⟩ ∧ ∀ k, k < n → ∃ B m d C o f, w.cell? ⟨g, off + k * 2, none⟩ = some (.slice B m d) ∧ w.cell? ⟨g, off + k * 2 + 1, none⟩ = some (.slice C o f) ∧
    RI w B m (x.getD k ([], [])).1 ∧ RI w C o (x.getD k ([], [])).2 ∧ m ≤ d ∧ d ≤ 9223372036854775807 ∧ o ≤ f ∧ f ≤ 9223372036854775807)
theorem RU.below {w w' : World} {A : Option Addr} {n : Nat} {x : List (List Int × List Int)} (h : RU w A n x) (hb : Below w.heap.size w w') : RU w' A n x := by
  refine ⟨h.1, fun hn => ?_⟩
  obtain ⟨g, off, hA, hc⟩ := h.2 hn
  refine ⟨g, off, hA, fun k hk => ?_⟩
  obtain ⟨B, m, d, C, o, f, h1, h2, h3, h4, h5⟩ := hc k hk
  exact ⟨B, m, d, C, o, f, (hb.cell (World.block_lt_of_cell? w _ h1)).trans h1, (hb.cell (World.block_lt_of_cell? w _ h2)).trans h2, h3.below hb, h4.below hb, h5⟩
theorem RU.alloc {w : World} {A : Option Addr} {n : Nat} {x : List (List Int × List Int)} (h : RU w A n x) (o : Obj) : RU (w.alloc o) A n x := h.below ((Below.refl _ _).alloc (Nat.le_refl _) o)
theorem RU.at_ {w : World} {A : Option Addr} {n : Nat} {x : List (List Int × List Int)} (h : RU w A n x) {k : Nat} (hk : k < n) :
    ∃ g off B m d C o f l r, A = some ⟨g, off, none⟩ ∧ w.cell? ⟨g, off + k * 2, none⟩ = some (.slice B m d) ∧ w.cell? ⟨g, off + k * 2 + 1, none⟩ = some (.slice C o f) ∧ RI w B m l ∧ RI w C o r ∧
      m ≤ d ∧ d ≤ 9223372036854775807 ∧ o ≤ f ∧ f ≤ 9223372036854775807 ∧ Hid ((l, r) = x.getD k ([], [])) := by
  obtain ⟨g, off, hA, hc⟩ := h.2 (by omega)
  obtain ⟨B, m, d, C, o, f, h1, h2, h3, h4, h5, h6, h7, h8⟩ := hc k hk
  exact ⟨g, off, B, m, d, C, o, f, _, _, hA, h1, h2, h3, h4, h5, h6, h7, h8, rfl⟩
/-- How much a list of rules takes: one a rule, one a number. -/
def rlen (r : List Int × List Int) : Nat := r.1.length + r.2.length
def wtU (x : List (List Int × List Int)) : Nat := x.length + (x.map rlen).sum
theorem wtU_row {x : List (List Int × List Int)} {k : Nat} (hk : k < x.length) : rlen (x.getD k ([], [])) + x.length ≤ wtU x := by
  unfold wtU
  have : rlen (x.getD k ([], [])) ≤ (x.map rlen).sum := by
    rw [List.getD_eq_getElem?_getD, List.getElem?_eq_getElem hk, Option.getD_some]
    exact le_sum_mem (List.mem_map_of_mem (List.getElem_mem hk))
  omega
def lensU (x : List (List Int × List Int)) (k : Nat) : Nat := ((x.take k).map rlen).sum
theorem lensU_zero (x : List (List Int × List Int)) : lensU x 0 = 0 := by simp [lensU]
theorem takeU_snoc {x : List (List Int × List Int)} {k : Nat} {t : List Int × List Int} (hk : k < x.length) (ht : t = x.getD k ([], [])) : x.take (k + 1) = x.take k ++ [t] := by
  rw [List.take_succ_eq_append_getElem hk, ht]
  simp [List.getD_eq_getElem?_getD, hk]
theorem lensU_step {x : List (List Int × List Int)} {k : Nat} {t : List Int × List Int} (hk : k < x.length) (ht : t = x.getD k ([], [])) : lensU x (k + 1) = lensU x k + rlen t := by
  unfold lensU; rw [takeU_snoc hk ht]; simp
theorem lensU_le (x : List (List Int × List Int)) (k : Nat) : x.length + lensU x k ≤ wtU x := by
  have := congrArg (fun l => (l.map rlen).sum) (List.take_append_drop k x)
  simp only [List.map_append, List.sum_append] at this
  unfold lensU wtU; omega
theorem lensU_all {x : List (List Int × List Int)} {n : Nat} (h : x.length = n) : n + lensU x n = wtU x := by unfold lensU wtU; rw [List.take_of_length_le (by omega), h]

/-- The sides of rules, one behind the other. -/
def flatR (x : List (List Int × List Int)) : List (List Int) := x.flatMap fun r => [r.1, r.2]
theorem flatR_snoc (x : List (List Int × List Int)) (t : List Int × List Int) : flatR (x ++ [t]) = flatR x ++ [t.1] ++ [t.2] := by simp [flatR]
theorem flatR_len (x : List (List Int × List Int)) : (flatR x).length = x.length * 2 := by
  induction x with
  | nil => rfl
  | cons a r ih => simp only [flatR, List.flatMap_cons, List.length_append, List.length_cons, List.length_nil] at ih ⊢; omega
theorem flatR_at : ∀ {x : List (List Int × List Int)} {k : Nat}, k < x.length → (flatR x).getD (k * 2) [] = (x.getD k ([], [])).1 ∧ (flatR x).getD (k * 2 + 1) [] = (x.getD k ([], [])).2
  | a :: r, 0, _ => ⟨rfl, rfl⟩
  | a :: r, k + 1, h => by
    have := flatR_at (x := r) (k := k) (by simpa using h)
    have e1 : (k + 1) * 2 = k * 2 + 1 + 1 := by omega
    have e2 : flatR (a :: r) = a.1 :: a.2 :: flatR r := rfl
    rw [e1, e2]
    simpa using this
/-- A slice of rules that the call itself made, from block B on. -/
def QU (w : World) (B : Nat) (A : Option Addr) (n c : Nat) (x : List (List Int × List Int)) : Prop :=
  x.length = n ∧ ∃ rs, w.ownsRow B 30 2 (.slice A n c) n (List.zipWith rowV rs (flatR x)) ∧ Rows w B rs (flatR x)
/-- The same, with a bound of its blocks. -/
def OU (w : World) (lo hi : Nat) (A : Option Addr) (n c : Nat) (x : List (List Int × List Int)) : Prop :=
  x.length = n ∧ ∃ rs, w.ownsRow lo 30 2 (.slice A n c) n (List.zipWith rowV rs (flatR x)) ∧ Rows w lo rs (flatR x) ∧ (∀ b, blk A = some b → b < hi) ∧ (∀ i, i < rs.length → ∀ b, blk (rs.getD i (none, 0)).1 = some b → b < hi)
theorem rowsU_cell {w : World} {B g n c : Nat} {rs : List (Option Addr × Nat)} {y : List (List Int)} (h : w.ownsRow B 30 2 (.slice (some ⟨g, 0, none⟩) n c) n (List.zipWith rowV rs y)) (hr : Rows w B rs y) (hn : y.length = n * 2) {k : Nat} (hk : k < n * 2) :
    ∃ A' c', w.cell? ⟨g, k, none⟩ = some (.slice A' (y.getD k []).length c') ∧ OI w B A' (y.getD k []).length c' (y.getD k []) := by
  have hl := hr.1
  have hc := h.cellAt k hk
  refine ⟨_, _, ?_, hr.2.1 k (by omega)⟩
  rw [hc, List.getElem?_zipWith]
  rw [List.getElem?_eq_getElem (show k < rs.length by omega), List.getElem?_eq_getElem (show k < y.length by omega)]
  simp [rowV, List.getD_eq_getElem?_getD, show k < rs.length by omega, show k < y.length by omega]
theorem rd_rowsU {w : World} {B : Nat} {A : Option Addr} {n c : Nat} {rs : List (Option Addr × Nat)} {x : List (List Int × List Int)} (hl : x.length = n) (h : w.ownsRow B 30 2 (.slice A n c) n (List.zipWith rowV rs (flatR x))) (hr : Rows w B rs (flatR x)) : RU w A n x := by
  refine ⟨hl, fun hn => ?_⟩
  have hfl := flatR_len x
  rw [hl] at hfl
  rcases h.2 with ⟨_, h0⟩ | ⟨g, cap, cur, hv, hB, _⟩
  · omega
  · simp only [Value.slice.injEq] at hv
    obtain ⟨rfl, _, rfl⟩ := hv
    refine ⟨g, 0, rfl, fun k hk => ?_⟩
    obtain ⟨A1, c1, h1, o1⟩ := rowsU_cell h hr hfl (k := k * 2) (by omega)
    obtain ⟨A2, c2, h2, o2⟩ := rowsU_cell h hr hfl (k := k * 2 + 1) (by omega)
    obtain ⟨f1, f2⟩ := flatR_at (x := x) (k := k) (by omega)
    rw [f1] at h1 o1
    rw [f2] at h2 o2
    obtain ⟨_, _, e1, l1, m1⟩ := own_form o1
    obtain ⟨_, _, e2, l2, m2⟩ := own_form o2
    simp only [Value.slice.injEq] at e1 e2
    obtain ⟨_, _, rfl⟩ := e1
    obtain ⟨_, _, rfl⟩ := e2
    unfold maxLen at m1 m2
    exact ⟨A1, _, c1, A2, _, c2, by rw [Nat.zero_add]; exact h1, by rw [Nat.zero_add]; exact h2, o1.ri, o2.ri, l1, by omega, l2, by omega⟩
section
variable {w w' : World} {B lo hi : Nat} {A : Option Addr} {n c : Nat} {x : List (List Int × List Int)}
theorem QU.rd (h : QU w B A n c x) : RU w A n x := by obtain ⟨h1, rs, h2, h3⟩ := h; exact rd_rowsU h1 h2 h3
theorem OU.rd (h : OU w lo hi A n c x) : RU w A n x := by obtain ⟨h1, rs, h2, h3, _⟩ := h; exact rd_rowsU h1 h2 h3
theorem QU.below (h : QU w B A n c x) (hb : Below w.heap.size w w') : QU w' B A n c x := by obtain ⟨h1, rs, h2, h3⟩ := h; exact ⟨h1, rs, ownsRow_below h2 hb, h3.below hb⟩
theorem QU.set_ (h : QU w B A n c x) {p : Addr} (hp : p.block < B) (u : Value) : QU (w.setCell p u) B A n c x := by
  obtain ⟨h1, rs, h2, h3⟩ := h
  exact ⟨h1, rs, ownsRow_setCell_below h2 hp u, h3.set_ p u fun i hi b hb e => by have := (h3.lt hi hb).1; injection e with e; omega⟩
theorem QU.base {B' : Nat} (h : QU w B A n c x) (hB : B' ≤ B) : QU w B' A n c x := by obtain ⟨h1, rs, h2, h3⟩ := h; exact ⟨h1, rs, ownsRow_base h2 hB, h3.base hB⟩
theorem OU.below (h : OU w lo hi A n c x) (hb : Below w.heap.size w w') : OU w' lo hi A n c x := by obtain ⟨h1, rs, h2, h3, h4⟩ := h; exact ⟨h1, rs, ownsRow_below h2 hb, h3.below hb, h4⟩
theorem QU.hi_ (h : QU w B A n c x) (hB : lo ≤ B) : OU w lo w.heap.size A n c x := by
  obtain ⟨h1, rs, h2, h3⟩ := h
  exact ⟨h1, rs, ownsRow_base h2 hB, h3.base hB, fun b hb => (h2.lt b (by rw [blk_own]; exact hb)).2, fun i hi b hb => (h3.lt hi hb).2⟩
theorem OU.only {lo' hi' : Nat} (h : OU w lo hi A n c x) (ho : Only lo' hi' w w') (hd : hi ≤ lo' ∨ hi' ≤ lo) : OU w' lo hi A n c x := by
  obtain ⟨h1, rs, h2, h3, h4, h5⟩ := h
  refine ⟨h1, rs, own_same h2 fun b hb => ?_, h3.same fun i hi b hb => ?_, h4, h5⟩
  · have hl := h2.lt b hb
    rw [blk_own] at hb
    exact ho.block b hl.2 (by have := h4 b hb; omega)
  · have hl := h3.lt hi hb
    exact ho.block b hl.2 (by have := h5 i hi b hb; omega)
end
theorem madeTwo (z : Value) (n : Nat) : (madeCells #[z, z] n).toList = List.replicate n z := by
  apply List.ext_getElem?
  intro j
  by_cases hj : j < n
  · rcases Nat.mod_two_eq_zero_or_one j with h | h <;> simp [madeCells, hj, h]
  · simp [madeCells, hj]
theorem zset2 {rs : List (Option Addr × Nat)} {y : List (List Int)} {z : Value} {n k : Nat} (hr : rs.length = k * 2) (hy : y.length = k * 2) (hk : k < n) (p q : Option Addr × Nat) (s t : List Int) :
    ((List.zipWith rowV rs y ++ List.replicate ((n - k) * 2) z).set (k * 2) (rowV p s)).set (k * 2 + 1) (rowV q t) = List.zipWith rowV (rs ++ [p] ++ [q]) (y ++ [s] ++ [t]) ++ List.replicate ((n - (k + 1)) * 2) z := by
  have h1 := zset (rs := rs) (y := y) (z := z) (n := n * 2) (k := k * 2) hr hy (by omega) p s
  have h2 := zset (rs := rs ++ [p]) (y := y ++ [s]) (z := z) (n := n * 2) (k := k * 2 + 1) (by simp [hr]) (by simp [hy]) (by omega) q t
  rw [show (n - k) * 2 = n * 2 - k * 2 by omega, h1, h2, show (n - (k + 1)) * 2 = n * 2 - (k * 2 + 1 + 1) by omega]
/-- One rule more is laid. -/
theorem fill2_step {w w1 : World} {B g0 n k : Nat} {rs : List (Option Addr × Nat)} {x : List (List Int × List Int)} {l r : List Int} {A' C' : Option Addr} {m o : Nat}
    (ho : w.ownsRow B 30 2 (.slice (some ⟨g0, 0, none⟩) n n) n (List.zipWith rowV rs (flatR (x.take k)) ++ List.replicate ((n - k) * 2) (.slice none 0 0))) (hr : Rows w B rs (flatR (x.take k))) (hb : Below w.heap.size w w1)
    (hi : OI w1 w.heap.size A' m m l) (hi' : OI w1 w.heap.size C' o o r) (hne : ∀ b, blk A' = some b → blk C' ≠ some b) (hB : B ≤ w.heap.size) (hk : k < n) (hx : x.length = n) (ht : (l, r) = x.getD k ([], [])) :
    ((w1.setCell ⟨g0, k * 2, none⟩ (.slice A' m m)).setCell ⟨g0, k * 2 + 1, none⟩ (.slice C' o o)).ownsRow B 30 2 (.slice (some ⟨g0, 0, none⟩) n n) n (List.zipWith rowV (rs ++ [(A', m)] ++ [(C', o)]) (flatR (x.take (k + 1))) ++ List.replicate ((n - (k + 1)) * 2) (.slice none 0 0)) ∧
      Rows ((w1.setCell ⟨g0, k * 2, none⟩ (.slice A' m m)).setCell ⟨g0, k * 2 + 1, none⟩ (.slice C' o o)) B (rs ++ [(A', m)] ++ [(C', o)]) (flatR (x.take (k + 1))) := by
  have hm : l.length = m := hi.ri.1
  have hm' : r.length = o := hi'.ri.1
  have hl : (flatR (x.take k)).length = k * 2 := by rw [flatR_len, List.length_take]; omega
  have hrl : rs.length = k * 2 := by rw [hr.1, hl]
  have h1 := (ownsRow_below ho hb)
  have h2 := (World.ownsRow.stored h1 (k * 2) (.slice A' m m)).1
  have h3 := (World.ownsRow.stored h2 (k * 2 + 1) (.slice C' o o)).1
  have hz := zset2 (z := .slice none 0 0) hrl hl hk (A', m) (C', o) l r
  rw [show rowV (A', m) l = .slice A' m m by unfold rowV; rw [hm], show rowV (C', o) r = .slice C' o o by unfold rowV; rw [hm']] at hz
  have hts := takeU_snoc (x := x) (k := k) (t := (l, r)) (by omega) ht
  rw [hz] at h3
  rw [hts, flatR_snoc]
  refine ⟨h3, ?_⟩
  have hg0 : g0 < w.heap.size := (ho.lt g0 rfl).2
  have ha0 : Apart rs (some g0) := fun i hii b hbl e => by
    have hne := own_ne (hr.2.1 i (by rw [← hr.1]; exact hii)) ho (by decide : (2 : TypeId) ≠ 30) hbl
    exact hne (by injection e with e; rw [← e]; rfl)
  have hkeep : ∀ {A : Option Addr} {q : Nat} {t : List Int}, OI w1 w.heap.size A q q t → OI ((w1.setCell ⟨g0, k * 2, none⟩ (.slice A' m m)).setCell ⟨g0, k * 2 + 1, none⟩ (.slice C' o o)) B A q q t := by
    intro A q t hA
    refine (hA.base hB).same fun b hbl => ?_
    have := (hA.lt_ hbl).1
    exact (Below.heap_setCell _ _ _ b (fun e => by dsimp only at e; omega)).trans (Below.heap_setCell _ _ _ b (fun e => by dsimp only at e; omega))
  have hr2 := ((hr.below hb).set_ ⟨g0, k * 2, none⟩ (.slice A' m m) ha0).set_ ⟨g0, k * 2 + 1, none⟩ (.slice C' o o) ha0
  have hap : ∀ {A : Option Addr} {q : Nat} {t : List Int}, OI w1 w.heap.size A q q t → Apart rs (blk A) := fun hA i hii b hbl e => by
    have := (hr.lt hii hbl).2
    have := (hA.lt_ e).1
    omega
  refine (hr2.snoc (by rw [hm]; exact hkeep hi) (hap hi)).snoc (by rw [hm']; exact hkeep hi') ?_
  exact (hap hi').snoc fun b hb => hne b hb
theorem infoRule : (Tryz.prog.info? 30).map (fun i => (i.zero, i.size, i.bytes)) = some (some (.agg #[.slice none 0 0, .slice none 0 0]), 2, 48) := by kernel_rfl
end Go.Proofs.YtlcchafcgidpeaaGreatDoor
