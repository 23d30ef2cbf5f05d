/- Words for memory: appending to a slice of the call's own. -/
import Derived.Test.YtcjgcopkeeiicaaMem
import Derived.Laws.AppendOwnNone
namespace Go.Proofs.Ytcjgcopkeeiicaa
open Go.RowKit
set_option linter.unusedVariables false

section
variable {P : Program}

theorem own_form {w : World} {base e size : Nat} {v : Value} {n : Nat} {xs : List Value} (h : w.ownsRow base e size v n xs) : ∃ A c, v = .slice A n c ∧ n ≤ c ∧ c ≤ maxLen := by
  rcases h.2 with ⟨rfl, rfl⟩ | ⟨g, cap, cur, rfl, hB, hg, h1, h2, _⟩
  · exact ⟨none, 0, rfl, Nat.le_refl _, by simp [maxLen]⟩
  · exact ⟨_, _, rfl, h1, h2⟩

/-- What is appended reads as cells in memory, or is nothing. -/
def Src (w : World) (B : Option Addr) (m size : Nat) (news : List Value) : Prop :=
  news.length = m * size ∧ (∀ u ∈ news, u.oneCell' = true) ∧ (m = 0 ∨ ∃ ad, B = some ad ∧ ∀ j u, news[j]? = some u → w.cell? (ad.add j) = some u)

theorem Src.ints {w : World} {B : Option Addr} {m : Nat} {ys : List Int} (h : RI w B m ys) : Src w B m 1 (ys.map (Value.int .i64)) := by
  refine ⟨by simp [h.1], ints_oneCell _ _, ?_⟩
  by_cases hm : m = 0
  · exact .inl hm
  · obtain ⟨g, off, rfl, hc⟩ := h.2 (by omega)
    refine .inr ⟨_, rfl, fun j u hu => ?_⟩
    have hj : j < ys.length := by
      rw [List.getElem?_eq_some_iff] at hu
      obtain ⟨hj, _⟩ := hu
      simpa using hj
    have e1 : (⟨g, off, none⟩ : Addr).add j = ⟨g, off + j, none⟩ := by unfold Addr.add; split <;> simp_all
    rw [e1, hc j (by rw [← h.1]; exact hj)]
    rw [List.getElem?_map, List.getElem?_eq_getElem hj, Option.map_some] at hu
    rw [← hu]
    simp [List.getD_eq_getElem?_getD, hj]

/-- One new cell, or more, that the statement has just laid. -/
theorem Src.new (w : World) (cs : List Value) (t : TypeId) (m size : Nat) (hl : cs.length = m * size) (h1 : ∀ u ∈ cs, u.oneCell' = true) : Src (w.alloc (.cells cs.toArray t)) (some ⟨w.heap.size, 0, none⟩) m size cs := by
  refine ⟨hl, h1, .inr ⟨_, rfl, fun j u hu => ?_⟩⟩
  have e1 : (⟨w.heap.size, 0, none⟩ : Addr).add j = ⟨w.heap.size, j, none⟩ := by unfold Addr.add; split <;> simp_all
  rw [e1, cell_of_row _ w.heap.size j cs.toArray t (0, 0) (heap_alloc_new w _)]
  simpa using hu

theorem run_append_any (w : World) (base : Nat) (t ty e : TypeId) (i : TypeInfo) (z : Value) (size bytes : Nat) (ht : P.underlying t = some (.slice e)) (hi : P.info? e = some i) (hz : i.zero = some z)
    (hsize : i.size = size) (hby : i.bytes = bytes) (hzs : z.cells.size = size) (hsz : 0 < size)
    (A : Option Addr) (n c : Nat) (xs : List Value) (hown : w.ownsRow base e size (.slice A n c) n xs)
    (B : Option Addr) (m d : Nat) (news : List Value) (hs : Src w B m size news)
    (h63 : n + m ≤ maxLen) (hbytes : (n + m) * bytes ≤ 140737488355328) (hbase : base ≤ w.heap.size) :
    ∃ A' c' w', (Builtin.append_ #[t, t] ty #[.slice A n c, .slice B m d]).run P w = .ok (.slice A' (n + m) c') w' ∧ w'.ownsRow base e size (.slice A' (n + m) c') (n + m) (xs ++ news) ∧
      w.grownBy w' (Value.slice A n c).ownBlock ∧ (A' = none → n + m = 0) := by
  obtain ⟨hl, h1, hB⟩ := hs
  cases B with
  | some ad =>
    have hnews : ∀ j u, news[j]? = some u → w.cell? (ad.add j) = some u := by
      rcases hB with hm | ⟨ad', he, hc⟩
      · subst hm
        have : news = [] := List.eq_nil_of_length_eq_zero (by simpa using hl)
        subst this
        intro j u hu
        simp at hu
      · injection he with he
        subst he
        exact hc
    obtain ⟨v', w', hr, ho, hg, hnil⟩ := run_append_own (P := P) w base t ty e i z size bytes ht hi hz hsize hby hzs hsz (.slice A n c) n xs hown ad m d news hl hnews h1 h63 hbytes hbase
    obtain ⟨A', c', rfl, _, _⟩ := own_form ho
    refine ⟨A', c', w', hr, ho, hg, fun hA => ?_⟩
    rcases ho.2 with ⟨_, h0⟩ | ⟨g, cap, cur, hv, _⟩
    · exact h0
    · subst hA; simp at hv
  | none =>
    have hm : m = 0 := by
      rcases hB with hm | ⟨ad', he, _⟩
      · exact hm
      · cases he
    subst hm
    have : news = [] := List.eq_nil_of_length_eq_zero (by simpa using hl)
    subst this
    rcases hown.2 with ⟨hv, hn⟩ | ⟨g, cap, cur, hv, hbg, hg, hnc, hrest⟩
    · simp only [Value.slice.injEq] at hv
      obtain ⟨rfl, rfl, rfl⟩ := hv
      refine ⟨none, 0, w, ?_, by simpa using hown, World.grownBy.refl _ _, fun _ => rfl⟩
      simp [Builtin.append_, run_underlying ht, sizeOf, typeInfo, hi, Builtin.lenOf, Builtin.firstCells]
    · simp only [Value.slice.injEq] at hv
      obtain ⟨rfl, _, rfl⟩ := hv
      refine ⟨_, c, w, ?_, by simpa using hown, World.grownBy.refl _ _, fun h => by cases h⟩
      simp [Builtin.append_, run_underlying ht, sizeOf, typeInfo, hi, Builtin.lenOf, Builtin.firstCells, hnc, storeCells]

theorem wpList_append_any {w : World} {ops : Array Oper} {rest : List Oper} {o : Oper} {a : Act} {Q : Exit → Act → World → Prop} (hgd : o.guard = none) (s x : Operand) (t : TypeId)
    (ho : o.op = .call { callee := .builtin .append, args := #[s, x], argTypes := #[t, t] })
    (base : Nat) (e : TypeId) (i : TypeInfo) (z : Value) (size bytes : Nat) (ht : P.underlying t = some (.slice e)) (hi : P.info? e = some i) (hz : i.zero = some z)
    (hsize : i.size = size) (hby : i.bytes = bytes) (hzs : z.cells.size = size) (hsz : 0 < size)
    (A : Option Addr) (n c : Nat) (xs : List Value) (hs : a.eval s = .slice A n c) (hown : w.ownsRow base e size (.slice A n c) n xs)
    (B : Option Addr) (m d : Nat) (news : List Value) (hx : a.eval x = .slice B m d) (hsrc : Src w B m size news)
    (h63 : n + m ≤ maxLen) (hbytes : (n + m) * bytes ≤ 140737488355328) (hbase : base ≤ w.heap.size)
    (h : ∀ A' c' w', w'.ownsRow base e size (.slice A' (n + m) c') (n + m) (xs ++ news) → w.grownBy w' (Value.slice A n c).ownBlock → (A' = none → n + m = 0) → wpList P ops Q rest (a.put o.dst (.slice A' (n + m) c')) w') :
    wpList P ops Q (o :: rest) a w := by
  obtain ⟨A', c', w', hr, h2, h3, h4⟩ := run_append_any (P := P) w base t o.type e i z size bytes ht hi hz hsize hby hzs hsz A n c xs hown B m d news hsrc h63 hbytes hbase
  refine wpList_plain hgd fun K hK => ?_
  unfold Oper.wp execOp
  simp only [ho, resolve, invoke, builtin, Sem.run_bind, Sem.run_pure, Result.andThen_ok, List.map_toArray, List.map_cons, List.map_nil, hs, hx, hr]
  exact hK _ _ (h A' c' w' h2 h3 h4)

/-- Behind an append to a slice from base on: old memory is as it was. -/
theorem grown_below {w w' : World} {base e size : Nat} {A : Option Addr} {n c : Nat} {xs : List Value} (hg : w.grownBy w' (Value.slice A n c).ownBlock) (ho : w.ownsRow base e size (.slice A n c) n xs) (hb : base ≤ w.heap.size) : Below base w w' :=
  (Below.refl _ _).grown hg hb (fun k hk => (ho.lt k hk).1)
theorem app_below {w w2 : World} {o : Obj} {base e size : Nat} {A : Option Addr} {n c : Nat} {xs : List Value} (hg : (w.alloc o).grownBy w2 (Value.slice A n c).ownBlock) (ho : (w.alloc o).ownsRow base e size (.slice A n c) n xs) (hb : base ≤ w.heap.size) : Below base w w2 :=
  ((Below.refl base w).alloc hb o).trans (grown_below hg ho (by simp; omega))
theorem app_only {w w2 : World} {o : Obj} {base hi e size : Nat} {A : Option Addr} {n c : Nat} {xs : List Value} (hg : (w.alloc o).grownBy w2 (Value.slice A n c).ownBlock) (ho : (w.alloc o).ownsRow base e size (.slice A n c) n xs) (hh : ∀ a, A = some a → a.block < hi) : Only base hi w w2 := by
  refine (Only.of ((Below.refl _ _).alloc (Nat.le_refl _) o)).trans ⟨hg.os, hg.tape, hg.output, hg.size, fun k hk hd => hg.block k hk fun e => ?_⟩
  cases A with
  | none => simp [Value.ownBlock] at e
  | some a =>
    have h1 := (ho.lt k e.symm).1
    simp [Value.ownBlock] at e
    have h2 := hh a rfl
    omega
end
theorem OI.snoc {w : World} {B : Nat} {A : Option Addr} {c : Nat} {l : List Int} {q : Int} (h : w.ownsRow B 2 1 (.slice A (l.length + 1) c) (l.length + 1) (l.map (Value.int .i64) ++ [.int .i64 q])) : OI w B A (l ++ [q]).length c (l ++ [q]) := by
  rw [List.length_append]; unfold OI; rw [List.map_append]; exact h
end Go.Proofs.Ytcjgcopkeeiicaa
