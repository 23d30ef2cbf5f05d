/- Words for memory: slices of slices of numbers; rows of which each lies in a block of its own. -/
import Derived.Test.YtcjgcopkeeiicaaMem
import Derived.Test.YtcjgcopkeeiicaaBase
import Derived.Test.YtcjgcopkeeiicaaApp
namespace Go.Proofs.Ytcjgcopkeeiicaa
open Go.RowKit
set_option linter.unusedVariables false

/-- A slice of slices of int64 that reads as the list x. -/
def RR (w : World) (A : Option Addr) (n : Nat) (x : List (List Int)) : Prop :=
  x.length = n ∧ (0 < n → ∃ g off, A = some ⟨g, off, none⟩ ∧ ∀ k, k < n → ∃ B m d, w.cell? ⟨g, off + k, none⟩ = some (.slice B m d) ∧ RI w B m (x.getD k []) ∧ m ≤ 9223372036854775807)

theorem RR.below {w w' : World} {A : Option Addr} {n : Nat} {x : List (List Int)} (h : RR w A n x) (hb : Below w.heap.size w w') : RR w' A n x := by
  refine ⟨h.1, fun hn => ?_⟩
  obtain ⟨g, off, hA, hc⟩ := h.2 hn
  refine ⟨g, off, hA, fun k hk => ?_⟩
  obtain ⟨B, m, d, h1, h2, h3⟩ := hc k hk
  exact ⟨B, m, d, (hb.cell (World.block_lt_of_cell? w _ h1)).trans h1, h2.below hb, h3⟩
theorem RR.alloc {w : World} {A : Option Addr} {n : Nat} {x : List (List Int)} (h : RR w A n x) (o : Obj) : RR (w.alloc o) A n x := h.below ((Below.refl _ _).alloc (Nat.le_refl _) o)
theorem RR.at_ {w : World} {A : Option Addr} {n : Nat} {x : List (List Int)} (h : RR w A n x) {k : Nat} (hk : k < n) :
    ∃ g off B m d t, A = some ⟨g, off, none⟩ ∧ w.cell? ⟨g, off + k, none⟩ = some (.slice B m d) ∧ RI w B m t ∧ m ≤ 9223372036854775807 ∧ Hid (t = x.getD k []) := by
  obtain ⟨g, off, hA, hc⟩ := h.2 (by omega)
  obtain ⟨B, m, d, h1, h2, h3⟩ := hc k hk
  exact ⟨g, off, B, m, d, _, hA, h1, h2, h3, rfl⟩

/-- How much a row of rows takes: one a row, one a number. -/
def wtR (x : List (List Int)) : Nat := x.length + (x.map List.length).sum
theorem le_sum_mem {a : Nat} : ∀ {l : List Nat}, a ∈ l → a ≤ l.sum
  | x :: r, h => by
    rw [List.sum_cons]
    rcases List.mem_cons.1 h with rfl | h
    · omega
    · have := le_sum_mem h; omega
theorem wtR_row {x : List (List Int)} {k : Nat} (hk : k < x.length) : (x.getD k []).length + x.length ≤ wtR x := by
  unfold wtR
  have : (x.getD k []).length ≤ (x.map List.length).sum := by
    rw [List.getD_eq_getElem?_getD, List.getElem?_eq_getElem hk, Option.getD_some]
    exact le_sum_mem (List.mem_map_of_mem (List.getElem_mem hk))
  omega


section
variable {P : Program}
/-- Where an append's answer lies: where the slice lay, or in a new block. -/
theorem run_append_where (w : World) (base : Nat) (t ty e : TypeId) (i : TypeInfo) (z : Value) (size bytes : Nat) (ht : P.underlying t = some (.slice e)) (hi : P.info? e = some i) (hz : i.zero = some z)
    (hsize : i.size = size) (hby : i.bytes = bytes)
    (A : Option Addr) (n c : Nat) (xs : List Value) (hown : w.ownsRow base e size (.slice A n c) n xs)
    (B : Option Addr) (m d : Nat) (news : List Value) (hs : Src w B m size news)
    (h63 : n + m ≤ maxLen) (hbytes : (n + m) * bytes ≤ 140737488355328) {A' : Option Addr} {k c' : Nat} {w' : World}
    (hr : (Builtin.append_ #[t, t] ty #[.slice A n c, .slice B m d]).run P w = .ok (.slice A' k c') w') : A' = A ∨ A' = some ⟨w.heap.size, 0, none⟩ := by
  obtain ⟨hl, h1, hB⟩ := hs
  subst hsize
  subst hby
  cases B with
  | some ad =>
    have hnews : ∀ j u, news[j]? = some u → w.cell? (ad.add j) = some u := by
      rcases hB with hm | ⟨ad', he, hc⟩
      · subst hm
        have : news = [] := List.eq_nil_of_length_eq_zero (by simpa using hl)
        subst this
        intro j u hu
        simp at hu
      · injection he with he
        subst he
        exact hc
    rcases hown.2 with ⟨hv, hn⟩ | ⟨g, cap, cur, hv, hbg, hg, hnc, hcm, hcs, htake⟩
    · simp only [Value.slice.injEq] at hv
      obtain ⟨rfl, _, rfl⟩ := hv
      subst hn
      by_cases hm : m = 0
      · subst hm
        left
        simp [Builtin.append_, run_underlying ht, sizeOf, typeInfo, hi, Builtin.lenOf, Builtin.firstCells, loadCells, loadCellsFrom] at hr
        exact hr.1.1.symm
      · rw [run_append_nil (P := P) w t ty e i z ht hi hz ad m d news hl hnews (by omega) (by unfold maxLen at h63; omega) (by have hb := hbytes; simp only [Nat.zero_add] at hb; omega)] at hr
        injection hr with h2 _
        injection h2 with h2
        exact .inr h2.symm
    · simp only [Value.slice.injEq] at hv
      obtain ⟨rfl, _, rfl⟩ := hv
      by_cases hroom : n + m ≤ c
      · have hfit : n * i.size + news.length ≤ cur.size := by rw [hl, hcs, ← Nat.add_mul]; exact Nat.mul_le_mul_right _ hroom
        rw [run_append_room (P := P) w t ty e i ht hi g n c cur hg ad m d news hl hnews h1 hroom hfit] at hr
        injection hr with h2 _
        injection h2 with h2
        exact .inl h2.symm
      · have holds : ∀ j u, xs[j]? = some u → w.cell? ((⟨g, 0, none⟩ : Addr).add j) = some u := hown.cells (g := g) rfl
        rw [run_append_grow (P := P) w t ty e i z ht hi hz ⟨g, 0, none⟩ n c xs hown.1 holds ad m d news hl hnews (by omega) (by unfold maxLen at h63; omega) (growslice_fits (by omega) hbytes)] at hr
        injection hr with h2 _
        injection h2 with h2
        exact .inr h2.symm
  | none =>
    have hm : m = 0 := by
      rcases hB with hm | ⟨ad', he, _⟩
      · exact hm
      · cases he
    subst hm
    left
    rcases hown.2 with ⟨hv, hn⟩ | ⟨g, cap, cur, hv, hbg, hg, hnc, hrest⟩
    · simp only [Value.slice.injEq] at hv
      obtain ⟨rfl, rfl, rfl⟩ := hv
      simp [Builtin.append_, run_underlying ht, sizeOf, typeInfo, hi, Builtin.lenOf, Builtin.firstCells] at hr
      exact hr.1.1.symm
    · simp only [Value.slice.injEq] at hv
      obtain ⟨rfl, _, rfl⟩ := hv
      simp [Builtin.append_, run_underlying ht, sizeOf, typeInfo, hi, Builtin.lenOf, Builtin.firstCells, hnc, storeCells] at hr
      exact hr.1.1.symm

theorem wpList_append_sep {w : World} {ops : Array Oper} {rest : List Oper} {o : Oper} {a : Act} {Q : Exit → Act → World → Prop} (hgd : o.guard = none) (s x : Operand) (t : TypeId)
    (ho : o.op = .call { callee := .builtin .append, args := #[s, x], argTypes := #[t, t] })
    (base : Nat) (e : TypeId) (i : TypeInfo) (z : Value) (size bytes : Nat) (ht : P.underlying t = some (.slice e)) (hi : P.info? e = some i) (hz : i.zero = some z)
    (hsize : i.size = size) (hby : i.bytes = bytes) (hzs : z.cells.size = size) (hsz : 0 < size)
    (A : Option Addr) (n c : Nat) (xs : List Value) (hs : a.eval s = .slice A n c) (hown : w.ownsRow base e size (.slice A n c) n xs)
    (B : Option Addr) (m d : Nat) (news : List Value) (hx : a.eval x = .slice B m d) (hsrc : Src w B m size news)
    (h63 : n + m ≤ maxLen) (hbytes : (n + m) * bytes ≤ 140737488355328) (hbase : base ≤ w.heap.size)
    (h : ∀ A' c' w', w'.ownsRow base e size (.slice A' (n + m) c') (n + m) (xs ++ news) → w.grownBy w' (Value.slice A n c).ownBlock → (A' = none → n + m = 0) → (A' = A ∨ A' = some ⟨w.heap.size, 0, none⟩) → wpList P ops Q rest (a.put o.dst (.slice A' (n + m) c')) w') :
    wpList P ops Q (o :: rest) a w := by
  obtain ⟨A', c', w', hr, h2, h3, h4⟩ := run_append_any (P := P) w base t o.type e i z size bytes ht hi hz hsize hby hzs hsz A n c xs hown B m d news hsrc h63 hbytes hbase
  have h5 := run_append_where (P := P) w base t o.type e i z size bytes ht hi hz hsize hby A n c xs hown B m d news hsrc h63 hbytes hr
  refine wpList_plain hgd fun K hK => ?_
  unfold Oper.wp execOp
  simp only [ho, resolve, invoke, builtin, Sem.run_bind, Sem.run_pure, Result.andThen_ok, List.map_toArray, List.map_cons, List.map_nil, hs, hx, hr]
  exact hK _ _ (h A' c' w' h2 h3 h4 h5)
/-- An append as one step of a region that draws its order. -/
theorem step_append_any {ops : Array Oper} {o : Oper} {a : Act} {w : World} {K : Act → World → Prop} {Q : Exit → Act → World → Prop} {E : Prop} (hgd : o.guard = none) (s x : Operand) (t : TypeId)
    (ho : o.op = .call { callee := .builtin .append, args := #[s, x], argTypes := #[t, t] })
    (base : Nat) (e : TypeId) (i : TypeInfo) (z : Value) (size bytes : Nat) (ht : P.underlying t = some (.slice e)) (hi : P.info? e = some i) (hz : i.zero = some z)
    (hsize : i.size = size) (hby : i.bytes = bytes) (hzs : z.cells.size = size) (hsz : 0 < size)
    (A : Option Addr) (n c : Nat) (xs : List Value) (hs : a.eval s = .slice A n c) (hown : w.ownsRow base e size (.slice A n c) n xs)
    (B : Option Addr) (m d : Nat) (news : List Value) (hx : a.eval x = .slice B m d) (hsrc : Src w B m size news)
    (h63 : n + m ≤ maxLen) (hbytes : (n + m) * bytes ≤ 140737488355328) (hbase : base ≤ w.heap.size)
    (h : ∀ A' c' w', w'.ownsRow base e size (.slice A' (n + m) c') (n + m) (xs ++ news) → w.grownBy w' (Value.slice A n c).ownBlock → (A' = none → n + m = 0) → (A' = A ∨ A' = some ⟨w.heap.size, 0, none⟩) → K (a.put o.dst (.slice A' (n + m) c')) w') :
    if Region.wanted o (yielded ops a.tmps) = true then Oper.wp P o a w K Q else E := by
  have hw : Region.wanted o (yielded ops a.tmps) = true := by simp [Region.wanted, hgd]
  rw [if_pos hw]
  obtain ⟨A', c', w', hr, h2, h3, h4⟩ := run_append_any (P := P) w base t o.type e i z size bytes ht hi hz hsize hby hzs hsz A n c xs hown B m d news hsrc h63 hbytes hbase
  have h5 := run_append_where (P := P) w base t o.type e i z size bytes ht hi hz hsize hby A n c xs hown B m d news hsrc h63 hbytes hr
  unfold Oper.wp execOp
  simp only [ho, resolve, invoke, builtin, Sem.run_bind, Sem.run_pure, Result.andThen_ok, List.map_toArray, List.map_cons, List.map_nil, hs, hx, hr]
  exact h A' c' w' h2 h3 h4 h5
end

theorem own_same {w w' : World} {B e size : Nat} {v : Value} {n : Nat} {xs : List Value} (h : w.ownsRow B e size v n xs) (hs : ∀ k, v.ownBlock = some k → w'.heap[k]? = w.heap[k]?) : w'.ownsRow B e size v n xs := by
  refine ⟨h.1, ?_⟩
  rcases h.2 with hn | ⟨g, cap, cur, rfl, hB, hg, rest⟩
  · exact .inl hn
  · exact .inr ⟨g, cap, cur, rfl, hB, (hs g rfl).trans hg, rest⟩

/-- The block in which a row lies. -/
def blk (A : Option Addr) : Option Nat := A.map (·.block)
theorem blk_own (A : Option Addr) (n c : Nat) : (Value.slice A n c).ownBlock = blk A := by cases A <;> rfl
theorem OI.lt_ {w : World} {B : Nat} {A : Option Addr} {n c : Nat} {xs : List Int} (h : OI w B A n c xs) {b : Nat} (hb : blk A = some b) : B ≤ b ∧ b < w.heap.size := World.ownsRow.lt h b (by rw [blk_own]; exact hb)
theorem OI.same {w w' : World} {B : Nat} {A : Option Addr} {n c : Nat} {xs : List Int} (h : OI w B A n c xs) (hs : ∀ b, blk A = some b → w'.heap[b]? = w.heap[b]?) : OI w' B A n c xs := own_same h (by rw [blk_own]; exact hs)

/-- One row of a slice of slices: where it begins, what it has room for. -/
def rowV (r : Option Addr × Nat) (t : List Int) : Value := .slice r.1 t.length r.2
/-- Rows that the call itself made, from block B on, each in a block of its own. -/
def Rows (w : World) (B : Nat) (rs : List (Option Addr × Nat)) (x : List (List Int)) : Prop :=
  rs.length = x.length ∧ (∀ k, k < x.length → OI w B (rs.getD k (none, 0)).1 (x.getD k []).length (rs.getD k (none, 0)).2 (x.getD k [])) ∧
    (∀ i j, i < j → j < x.length → ∀ b, blk (rs.getD i (none, 0)).1 = some b → blk (rs.getD j (none, 0)).1 ≠ some b)
/-- None of the rows lies in a block. -/
def Apart (rs : List (Option Addr × Nat)) (o : Option Nat) : Prop := ∀ i, i < rs.length → ∀ b, blk (rs.getD i (none, 0)).1 = some b → o ≠ some b

section
variable {w w' : World} {B : Nat} {rs : List (Option Addr × Nat)} {x : List (List Int)}
theorem Rows.lt (h : Rows w B rs x) {i : Nat} (hi : i < rs.length) {b : Nat} (hb : blk (rs.getD i (none, 0)).1 = some b) : B ≤ b ∧ b < w.heap.size := (h.2.1 i (by rw [← h.1]; exact hi)).lt_ hb
theorem Rows.same (h : Rows w B rs x) (hs : ∀ i, i < rs.length → ∀ b, blk (rs.getD i (none, 0)).1 = some b → w'.heap[b]? = w.heap[b]?) : Rows w' B rs x :=
  ⟨h.1, fun k hk => (h.2.1 k hk).same (hs k (by rw [h.1]; exact hk)), h.2.2⟩
theorem Rows.below (h : Rows w B rs x) (hb : Below w.heap.size w w') : Rows w' B rs x := h.same fun i hi b hbl => hb.block b (h.lt hi hbl).2
theorem Rows.alloc (h : Rows w B rs x) (o : Obj) : Rows (w.alloc o) B rs x := h.below ((Below.refl _ _).alloc (Nat.le_refl _) o)
theorem Rows.grown {row : Option Nat} (h : Rows w B rs x) (hg : w.grownBy w' row) (ha : Apart rs row) : Rows w' B rs x :=
  h.same fun i hi b hbl => hg.block b (h.lt hi hbl).2 (fun e => ha i hi b hbl e.symm)
theorem Rows.set_ (h : Rows w B rs x) (p : Addr) (u : Value) (ha : Apart rs (some p.block)) : Rows (w.setCell p u) B rs x :=
  h.same fun i hi b hbl => Below.heap_setCell w p u b (fun e => ha i hi b hbl (by rw [e]))
theorem Rows.nil (w : World) (B : Nat) : Rows w B [] [] := ⟨rfl, fun k hk => by simp at hk, fun i j _ hj => by simp at hj⟩
theorem Apart.nil (o : Option Nat) : Apart [] o := fun i hi => by simp at hi
theorem Apart.none (rs : List (Option Addr × Nat)) : Apart rs none := fun i hi b hb h => by cases h
theorem Rows.fresh (h : Rows w B rs x) {g : Nat} (hg : w.heap.size ≤ g) : Apart rs (some g) := fun i hi b hb e => by
  have := (h.lt hi hb).2
  injection e with e
  omega
theorem getD_snoc {α : Type} (l : List α) (a d : α) (k : Nat) (h : k < l.length + 1) : (l ++ [a]).getD k d = if k < l.length then l.getD k d else a := by
  simp only [List.getD_eq_getElem?_getD]
  by_cases hk : k < l.length
  · rw [if_pos hk, List.getElem?_append_left hk]
  · rw [if_neg hk, List.getElem?_append_right (by omega), show k - l.length = 0 by omega]
    rfl
theorem Rows.snoc (h : Rows w B rs x) {A : Option Addr} {c : Nat} {t : List Int} (ho : OI w B A t.length c t) (ha : Apart rs (blk A)) : Rows w B (rs ++ [(A, c)]) (x ++ [t]) := by
  have hl := h.1
  refine ⟨by simp [hl], fun k hk => ?_, fun i j hij hj b hb => ?_⟩
  · rw [List.length_append, List.length_singleton] at hk
    rw [getD_snoc _ _ _ _ (by rw [hl]; exact hk), getD_snoc _ _ _ _ hk, hl]
    by_cases hk2 : k < x.length
    · rw [if_pos hk2, if_pos hk2]; exact h.2.1 k hk2
    · rw [if_neg hk2, if_neg hk2]; exact ho
  · rw [List.length_append, List.length_singleton] at hj
    rw [getD_snoc _ _ _ _ (by rw [hl]; omega), if_pos (by omega)] at hb
    rw [getD_snoc _ _ _ _ (by rw [hl]; exact hj), hl]
    by_cases hj2 : j < x.length
    · rw [if_pos hj2]; exact h.2.2 i j hij hj2 b hb
    · rw [if_neg hj2]; exact ha i (by omega) b hb
theorem Apart.snoc {o : Option Nat} (h : Apart rs o) {A : Option Addr} {c : Nat} (ha : ∀ b, blk A = some b → o ≠ some b) : Apart (rs ++ [(A, c)]) o := by
  intro i hi b hb
  rw [List.length_append, List.length_singleton] at hi
  rw [getD_snoc _ _ _ _ hi] at hb
  by_cases hk : i < rs.length
  · rw [if_pos hk] at hb; exact h i hk b hb
  · rw [if_neg hk] at hb; exact ha b hb
end
/-- Two rows of different types do not lie in one block. -/
theorem own_ne {w : World} {B B' e e' size size' : Nat} {A A' : Option Addr} {n n' c c' : Nat} {xs xs' : List Value} (h : w.ownsRow B e size (.slice A n c) n xs) (h' : w.ownsRow B' e' size' (.slice A' n' c') n' xs') (he : e ≠ e') {b : Nat} (hb : blk A = some b) : blk A' ≠ some b := by
  intro hb'
  rcases h.2 with ⟨hv, _⟩ | ⟨g, cap, cur, hv, _, hg, _⟩
  · injection hv with hA; subst hA; cases hb
  · rcases h'.2 with ⟨hv', _⟩ | ⟨g', cap', cur', hv', _, hg', _⟩
    · injection hv' with hA; subst hA; cases hb'
    · injection hv with hA
      injection hv' with hA'
      subst hA hA'
      injection hb with hb
      injection hb' with hb'
      dsimp only at hb hb'
      subst hb hb'
      rw [hg] at hg'
      simp only [Option.some.injEq, Obj.cells.injEq] at hg'
      exact he hg'.2.1
end Go.Proofs.Ytcjgcopkeeiicaa
