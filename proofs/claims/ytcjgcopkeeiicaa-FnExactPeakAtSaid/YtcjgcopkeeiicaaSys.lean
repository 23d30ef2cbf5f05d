/- Contracts: systems: their size, copy, comparison. -/
import Derived.Test.YtcjgcopkeeiicaaSubst
import Derived.Test.YtcjgcopkeeiicaaRuleOk
namespace Go.Proofs.Ytcjgcopkeeiicaa
open Go.RowKit
set_option linter.unusedVariables false
set_option linter.unusedSimpArgs false

/-- A slice of rules that reads as the list x. -/
def RU (w : World) (A : Option Addr) (n : Nat) (x : List (List Int × List Int)) : Prop :=
  x.length = n ∧ (0 < n → ∃ g off, A = some ⟨g, off, none⟩ ∧ ∀ k, k < n → ∃ B m d C o f, w.cell? ⟨g, off + k * 2, none⟩ = some (.slice B m d) ∧ w.cell? ⟨g, off + k * 2 + 1, none⟩ = some (.slice C o f) ∧
    RI w B m (x.getD k ([], [])).1 ∧ RI w C o (x.getD k ([], [])).2 ∧ m ≤ d ∧ d ≤ 9223372036854775807 ∧ o ≤ f ∧ f ≤ 9223372036854775807)
theorem RU.below {w w' : World} {A : Option Addr} {n : Nat} {x : List (List Int × List Int)} (h : RU w A n x) (hb : Below w.heap.size w w') : RU w' A n x := by
  refine ⟨h.1, fun hn => ?_⟩
  obtain ⟨g, off, hA, hc⟩ := h.2 hn
  refine ⟨g, off, hA, fun k hk => ?_⟩
  obtain ⟨B, m, d, C, o, f, h1, h2, h3, h4, h5⟩ := hc k hk
  exact ⟨B, m, d, C, o, f, (hb.cell (World.block_lt_of_cell? w _ h1)).trans h1, (hb.cell (World.block_lt_of_cell? w _ h2)).trans h2, h3.below hb, h4.below hb, h5⟩
theorem RU.alloc {w : World} {A : Option Addr} {n : Nat} {x : List (List Int × List Int)} (h : RU w A n x) (o : Obj) : RU (w.alloc o) A n x := h.below ((Below.refl _ _).alloc (Nat.le_refl _) o)
theorem RU.at_ {w : World} {A : Option Addr} {n : Nat} {x : List (List Int × List Int)} (h : RU w A n x) {k : Nat} (hk : k < n) :
    ∃ g off B m d C o f l r, A = some ⟨g, off, none⟩ ∧ w.cell? ⟨g, off + k * 2, none⟩ = some (.slice B m d) ∧ w.cell? ⟨g, off + k * 2 + 1, none⟩ = some (.slice C o f) ∧ RI w B m l ∧ RI w C o r ∧
      m ≤ d ∧ d ≤ 9223372036854775807 ∧ o ≤ f ∧ f ≤ 9223372036854775807 ∧ Hid ((l, r) = x.getD k ([], [])) := by
  obtain ⟨g, off, hA, hc⟩ := h.2 (by omega)
  obtain ⟨B, m, d, C, o, f, h1, h2, h3, h4, h5, h6, h7, h8⟩ := hc k hk
  exact ⟨g, off, B, m, d, C, o, f, _, _, hA, h1, h2, h3, h4, h5, h6, h7, h8, rfl⟩
/-- How much a list of rules takes: one a rule, one a number. -/
def rlen (r : List Int × List Int) : Nat := r.1.length + r.2.length
def wtU (x : List (List Int × List Int)) : Nat := x.length + (x.map rlen).sum
theorem wtU_row {x : List (List Int × List Int)} {k : Nat} (hk : k < x.length) : rlen (x.getD k ([], [])) + x.length ≤ wtU x := by
  unfold wtU
  have : rlen (x.getD k ([], [])) ≤ (x.map rlen).sum := by
    rw [List.getD_eq_getElem?_getD, List.getElem?_eq_getElem hk, Option.getD_some]
    exact le_sum_mem (List.mem_map_of_mem (List.getElem_mem hk))
  omega
def lensU (x : List (List Int × List Int)) (k : Nat) : Nat := ((x.take k).map rlen).sum
theorem lensU_zero (x : List (List Int × List Int)) : lensU x 0 = 0 := by simp [lensU]
theorem takeU_snoc {x : List (List Int × List Int)} {k : Nat} {t : List Int × List Int} (hk : k < x.length) (ht : t = x.getD k ([], [])) : x.take (k + 1) = x.take k ++ [t] := by
  rw [List.take_succ_eq_append_getElem hk, ht]
  simp [List.getD_eq_getElem?_getD, hk]
theorem lensU_step {x : List (List Int × List Int)} {k : Nat} {t : List Int × List Int} (hk : k < x.length) (ht : t = x.getD k ([], [])) : lensU x (k + 1) = lensU x k + rlen t := by
  unfold lensU; rw [takeU_snoc hk ht]; simp
theorem lensU_le (x : List (List Int × List Int)) (k : Nat) : x.length + lensU x k ≤ wtU x := by
  have := congrArg (fun l => (l.map rlen).sum) (List.take_append_drop k x)
  simp only [List.map_append, List.sum_append] at this
  unfold lensU wtU; omega
theorem lensU_all {x : List (List Int × List Int)} {n : Nat} (h : x.length = n) : n + lensU x n = wtU x := by unfold lensU wtU; rw [List.take_of_length_le (by omega), h]

/-- The sides of rules, one behind the other. -/
def flatR (x : List (List Int × List Int)) : List (List Int) := x.flatMap fun r => [r.1, r.2]
theorem flatR_snoc (x : List (List Int × List Int)) (t : List Int × List Int) : flatR (x ++ [t]) = flatR x ++ [t.1] ++ [t.2] := by simp [flatR]
theorem flatR_len (x : List (List Int × List Int)) : (flatR x).length = x.length * 2 := by
  induction x with
  | nil => rfl
  | cons a r ih => simp only [flatR, List.flatMap_cons, List.length_append, List.length_cons, List.length_nil] at ih ⊢; omega
theorem flatR_at : ∀ {x : List (List Int × List Int)} {k : Nat}, k < x.length → (flatR x).getD (k * 2) [] = (x.getD k ([], [])).1 ∧ (flatR x).getD (k * 2 + 1) [] = (x.getD k ([], [])).2
  | a :: r, 0, _ => ⟨rfl, rfl⟩
  | a :: r, k + 1, h => by
    have := flatR_at (x := r) (k := k) (by simpa using h)
    have e1 : (k + 1) * 2 = k * 2 + 1 + 1 := by omega
    have e2 : flatR (a :: r) = a.1 :: a.2 :: flatR r := rfl
    rw [e1, e2]
    simpa using this
/-- A slice of rules that the call itself made, from block B on. -/
def QU (w : World) (B : Nat) (A : Option Addr) (n c : Nat) (x : List (List Int × List Int)) : Prop :=
  x.length = n ∧ ∃ rs, w.ownsRow B 52 2 (.slice A n c) n (List.zipWith rowV rs (flatR x)) ∧ Rows w B rs (flatR x)
/-- The same, with a bound of its blocks. -/
def OU (w : World) (lo hi : Nat) (A : Option Addr) (n c : Nat) (x : List (List Int × List Int)) : Prop :=
  x.length = n ∧ ∃ rs, w.ownsRow lo 52 2 (.slice A n c) n (List.zipWith rowV rs (flatR x)) ∧ Rows w lo rs (flatR x) ∧ (∀ b, blk A = some b → b < hi) ∧ (∀ i, i < rs.length → ∀ b, blk (rs.getD i (none, 0)).1 = some b → b < hi)
theorem rowsU_cell {w : World} {B g n c : Nat} {rs : List (Option Addr × Nat)} {y : List (List Int)} (h : w.ownsRow B 52 2 (.slice (some ⟨g, 0, none⟩) n c) n (List.zipWith rowV rs y)) (hr : Rows w B rs y) (hn : y.length = n * 2) {k : Nat} (hk : k < n * 2) :
    ∃ A' c', w.cell? ⟨g, k, none⟩ = some (.slice A' (y.getD k []).length c') ∧ OI w B A' (y.getD k []).length c' (y.getD k []) := by
  have hl := hr.1
  have hc := h.cellAt k hk
  refine ⟨_, _, ?_, hr.2.1 k (by omega)⟩
  rw [hc, List.getElem?_zipWith]
  rw [List.getElem?_eq_getElem (show k < rs.length by omega), List.getElem?_eq_getElem (show k < y.length by omega)]
  simp [rowV, List.getD_eq_getElem?_getD, show k < rs.length by omega, show k < y.length by omega]
theorem rd_rowsU {w : World} {B : Nat} {A : Option Addr} {n c : Nat} {rs : List (Option Addr × Nat)} {x : List (List Int × List Int)} (hl : x.length = n) (h : w.ownsRow B 52 2 (.slice A n c) n (List.zipWith rowV rs (flatR x))) (hr : Rows w B rs (flatR x)) : RU w A n x := by
  refine ⟨hl, fun hn => ?_⟩
  have hfl := flatR_len x
  rw [hl] at hfl
  rcases h.2 with ⟨_, h0⟩ | ⟨g, cap, cur, hv, hB, _⟩
  · omega
  · simp only [Value.slice.injEq] at hv
    obtain ⟨rfl, _, rfl⟩ := hv
    refine ⟨g, 0, rfl, fun k hk => ?_⟩
    obtain ⟨A1, c1, h1, o1⟩ := rowsU_cell h hr hfl (k := k * 2) (by omega)
    obtain ⟨A2, c2, h2, o2⟩ := rowsU_cell h hr hfl (k := k * 2 + 1) (by omega)
    obtain ⟨f1, f2⟩ := flatR_at (x := x) (k := k) (by omega)
    rw [f1] at h1 o1
    rw [f2] at h2 o2
    obtain ⟨_, _, e1, l1, m1⟩ := own_form o1
    obtain ⟨_, _, e2, l2, m2⟩ := own_form o2
    simp only [Value.slice.injEq] at e1 e2
    obtain ⟨_, _, rfl⟩ := e1
    obtain ⟨_, _, rfl⟩ := e2
    unfold maxLen at m1 m2
    exact ⟨A1, _, c1, A2, _, c2, by rw [Nat.zero_add]; exact h1, by rw [Nat.zero_add]; exact h2, o1.ri, o2.ri, l1, by omega, l2, by omega⟩
section
variable {w w' : World} {B lo hi : Nat} {A : Option Addr} {n c : Nat} {x : List (List Int × List Int)}
theorem QU.rd (h : QU w B A n c x) : RU w A n x := by obtain ⟨h1, rs, h2, h3⟩ := h; exact rd_rowsU h1 h2 h3
theorem OU.rd (h : OU w lo hi A n c x) : RU w A n x := by obtain ⟨h1, rs, h2, h3, _⟩ := h; exact rd_rowsU h1 h2 h3
theorem QU.below (h : QU w B A n c x) (hb : Below w.heap.size w w') : QU w' B A n c x := by obtain ⟨h1, rs, h2, h3⟩ := h; exact ⟨h1, rs, ownsRow_below h2 hb, h3.below hb⟩
theorem QU.set_ (h : QU w B A n c x) {p : Addr} (hp : p.block < B) (u : Value) : QU (w.setCell p u) B A n c x := by
  obtain ⟨h1, rs, h2, h3⟩ := h
  exact ⟨h1, rs, ownsRow_setCell_below h2 hp u, h3.set_ p u fun i hi b hb e => by have := (h3.lt hi hb).1; injection e with e; omega⟩
theorem QU.base {B' : Nat} (h : QU w B A n c x) (hB : B' ≤ B) : QU w B' A n c x := by obtain ⟨h1, rs, h2, h3⟩ := h; exact ⟨h1, rs, ownsRow_base h2 hB, h3.base hB⟩
theorem OU.below (h : OU w lo hi A n c x) (hb : Below w.heap.size w w') : OU w' lo hi A n c x := by obtain ⟨h1, rs, h2, h3, h4⟩ := h; exact ⟨h1, rs, ownsRow_below h2 hb, h3.below hb, h4⟩
theorem QU.hi_ (h : QU w B A n c x) (hB : lo ≤ B) : OU w lo w.heap.size A n c x := by
  obtain ⟨h1, rs, h2, h3⟩ := h
  exact ⟨h1, rs, ownsRow_base h2 hB, h3.base hB, fun b hb => (h2.lt b (by rw [blk_own]; exact hb)).2, fun i hi b hb => (h3.lt hi hb).2⟩
theorem OU.only {lo' hi' : Nat} (h : OU w lo hi A n c x) (ho : Only lo' hi' w w') (hd : hi ≤ lo' ∨ hi' ≤ lo) : OU w' lo hi A n c x := by
  obtain ⟨h1, rs, h2, h3, h4, h5⟩ := h
  refine ⟨h1, rs, own_same h2 fun b hb => ?_, h3.same fun i hi b hb => ?_, h4, h5⟩
  · have hl := h2.lt b hb
    rw [blk_own] at hb
    exact ho.block b hl.2 (by have := h4 b hb; omega)
  · have hl := h3.lt hi hb
    exact ho.block b hl.2 (by have := h5 i hi b hb; omega)
end
theorem madeTwo (z : Value) (n : Nat) : (madeCells #[z, z] n).toList = List.replicate n z := by
  apply List.ext_getElem?
  intro j
  by_cases hj : j < n
  · rcases Nat.mod_two_eq_zero_or_one j with h | h <;> simp [madeCells, hj, h]
  · simp [madeCells, hj]
theorem zset2 {rs : List (Option Addr × Nat)} {y : List (List Int)} {z : Value} {n k : Nat} (hr : rs.length = k * 2) (hy : y.length = k * 2) (hk : k < n) (p q : Option Addr × Nat) (s t : List Int) :
    ((List.zipWith rowV rs y ++ List.replicate ((n - k) * 2) z).set (k * 2) (rowV p s)).set (k * 2 + 1) (rowV q t) = List.zipWith rowV (rs ++ [p] ++ [q]) (y ++ [s] ++ [t]) ++ List.replicate ((n - (k + 1)) * 2) z := by
  have h1 := zset (rs := rs) (y := y) (z := z) (n := n * 2) (k := k * 2) hr hy (by omega) p s
  have h2 := zset (rs := rs ++ [p]) (y := y ++ [s]) (z := z) (n := n * 2) (k := k * 2 + 1) (by simp [hr]) (by simp [hy]) (by omega) q t
  rw [show (n - k) * 2 = n * 2 - k * 2 by omega, h1, h2, show (n - (k + 1)) * 2 = n * 2 - (k * 2 + 1 + 1) by omega]
/-- One rule more is laid. -/
theorem fill2_step {w w1 : World} {B g0 n k : Nat} {rs : List (Option Addr × Nat)} {x : List (List Int × List Int)} {l r : List Int} {A' C' : Option Addr} {m o : Nat}
    (ho : w.ownsRow B 52 2 (.slice (some ⟨g0, 0, none⟩) n n) n (List.zipWith rowV rs (flatR (x.take k)) ++ List.replicate ((n - k) * 2) (.slice none 0 0))) (hr : Rows w B rs (flatR (x.take k))) (hb : Below w.heap.size w w1)
    (hi : OI w1 w.heap.size A' m m l) (hi' : OI w1 w.heap.size C' o o r) (hne : ∀ b, blk A' = some b → blk C' ≠ some b) (hB : B ≤ w.heap.size) (hk : k < n) (hx : x.length = n) (ht : (l, r) = x.getD k ([], [])) :
    ((w1.setCell ⟨g0, k * 2, none⟩ (.slice A' m m)).setCell ⟨g0, k * 2 + 1, none⟩ (.slice C' o o)).ownsRow B 52 2 (.slice (some ⟨g0, 0, none⟩) n n) n (List.zipWith rowV (rs ++ [(A', m)] ++ [(C', o)]) (flatR (x.take (k + 1))) ++ List.replicate ((n - (k + 1)) * 2) (.slice none 0 0)) ∧
      Rows ((w1.setCell ⟨g0, k * 2, none⟩ (.slice A' m m)).setCell ⟨g0, k * 2 + 1, none⟩ (.slice C' o o)) B (rs ++ [(A', m)] ++ [(C', o)]) (flatR (x.take (k + 1))) := by
  have hm : l.length = m := hi.ri.1
  have hm' : r.length = o := hi'.ri.1
  have hl : (flatR (x.take k)).length = k * 2 := by rw [flatR_len, List.length_take]; omega
  have hrl : rs.length = k * 2 := by rw [hr.1, hl]
  have h1 := (ownsRow_below ho hb)
  have h2 := (World.ownsRow.stored h1 (k * 2) (.slice A' m m)).1
  have h3 := (World.ownsRow.stored h2 (k * 2 + 1) (.slice C' o o)).1
  have hz := zset2 (z := .slice none 0 0) hrl hl hk (A', m) (C', o) l r
  rw [show rowV (A', m) l = .slice A' m m by unfold rowV; rw [hm], show rowV (C', o) r = .slice C' o o by unfold rowV; rw [hm']] at hz
  have hts := takeU_snoc (x := x) (k := k) (t := (l, r)) (by omega) ht
  rw [hz] at h3
  rw [hts, flatR_snoc]
  refine ⟨h3, ?_⟩
  have hg0 : g0 < w.heap.size := (ho.lt g0 rfl).2
  have ha0 : Apart rs (some g0) := fun i hii b hbl e => by
    have hne := own_ne (hr.2.1 i (by rw [← hr.1]; exact hii)) ho (by decide : (2 : TypeId) ≠ 52) hbl
    exact hne (by injection e with e; rw [← e]; rfl)
  have hkeep : ∀ {A : Option Addr} {q : Nat} {t : List Int}, OI w1 w.heap.size A q q t → OI ((w1.setCell ⟨g0, k * 2, none⟩ (.slice A' m m)).setCell ⟨g0, k * 2 + 1, none⟩ (.slice C' o o)) B A q q t := by
    intro A q t hA
    refine (hA.base hB).same fun b hbl => ?_
    have := (hA.lt_ hbl).1
    exact (Below.heap_setCell _ _ _ b (fun e => by dsimp only at e; omega)).trans (Below.heap_setCell _ _ _ b (fun e => by dsimp only at e; omega))
  have hr2 := ((hr.below hb).set_ ⟨g0, k * 2, none⟩ (.slice A' m m) ha0).set_ ⟨g0, k * 2 + 1, none⟩ (.slice C' o o) ha0
  have hap : ∀ {A : Option Addr} {q : Nat} {t : List Int}, OI w1 w.heap.size A q q t → Apart rs (blk A) := fun hA i hii b hbl e => by
    have := (hr.lt hii hbl).2
    have := (hA.lt_ e).1
    omega
  refine (hr2.snoc (by rw [hm]; exact hkeep hi) (hap hi)).snoc (by rw [hm']; exact hkeep hi') ?_
  exact (hap hi').snoc fun b hb => hne b hb
theorem infoRule : (Try.prog.info? 52).map (fun i => (i.zero, i.size, i.bytes)) = some (some (.agg #[.slice none 0 0, .slice none 0 0]), 2, 48) := by kernel_rfl
set_option maxHeartbeats 1000000 in
theorem szRuleS_any (A : Option Addr) (n c : Nat) (x : List (List Int × List Int)) (left : Int) (w : World) (h : RU w A n x) (h0 : 0 ≤ left) (h1 : left ≤ 1048576) (hn : n ≤ 9223372036854775807) :
    Calls Try.prog 20 #[.slice A n c, .int .i64 left] w fun e w' => e = .returned (.int .i64 (szF left (wtU x))) ∧ Below w.heap.size w w' := by
  have hl := h.1
  have hw0 := lensU_le x 0
  rw [lensU_zero] at hw0
  by_cases hlt : left - n < 0
  · have HE := Lib.hid (szF_neg (left := left) (n := wtU x) (by omega))
    go_enter Try.func20, Try.ntmps20
    go_wp2_with fail
    go_ret
    exact ⟨ret_int HE.out.symm, Below.refl _ _⟩
  · go_enter Try.func20, Try.ntmps20
    go_wp2_with fail
    go_loopw [1, 5] (fun v i wr => ∃ k : Nat, k ≤ n ∧ i = .int .i64 k ∧ v = .int .i64 (left - n - (lensU x k : Nat)) ∧ (0 : Int) ≤ left - n - (lensU x k : Nat) ∧ Below w.heap.size w wr) (fun _ i _ => n - (intOf i).toNat)
    case atStart => exact ⟨0, Nat.zero_le _, rfl, by rw [lensU_zero]; simp, by rw [lensU_zero]; omega, Below.refl _ _⟩
    case round =>
      obtain ⟨k, hk, rfl, rfl, hge, hb⟩ := hrel
      by_cases hlt2 : k < n
      · obtain ⟨g, off, B, m, d, C, o, f, l, r, rfl, hc, hc', hL, hR, hmd, hd, hof, hf, hx⟩ := (h.below hb).at_ hlt2
        have hst := lensU_step (by omega) hx.out
        have hrl : rlen (l, r) = m + o := by unfold rlen; rw [hL.1, hR.1]
        rw [hrl] at hst
        have hle := lensU_le x (k + 1)
        have HST := Lib.hid hst
        generalize hq : lensU x k = q at *
        clear hx
        by_cases hneg : left - (n : Int) - (q : Int) - ((m + o : Nat) : Int) < 0
        · have HN := Lib.hid (szF_neg (left := left - (n : Int) - (q : Int)) (n := m + o) (by omega))
          have HE := Lib.hid (szF_neg (left := left) (n := wtU x) (by omega))
          clear hst
          go_wp2_with fail
          refine (szRule_any B m d C o f _ _ (by omega) (by omega) (by omega) (by omega)).mono ?_
          rintro e w1 ⟨rfl, hb1⟩
          rw [HN.out]
          go_wp2_with fail
          go_ret
          exact ⟨ret_int HE.out.symm, below_then hb hb1 hb.size⟩
        · have HN := Lib.hid (szF_pos (left := left - (n : Int) - (q : Int)) (n := m + o) (by omega))
          clear hst
          go_wp2_with fail
          refine (szRule_any B m d C o f _ _ (by omega) (by omega) (by omega) (by omega)).mono ?_
          rintro e w1 ⟨rfl, hb1⟩
          rw [HN.out]
          have hB1 := below_then hb hb1 hb.size
          clear hb hb1
          have hnn : ¬ (left - (n : Int) - (q : Int) - ((m + o : Nat) : Int) < 0) := by omega
          generalize hz : left - (n : Int) - (q : Int) - ((m + o : Nat) : Int) = z at *
          have HZ := Lib.hid hz
          clear hz
          go_wp2_with fail
          go_roundw
          case rel => exact ⟨k + 1, by omega, by go_num, by rw [HST.out, ← HZ.out]; congr 1; omega, by rw [HST.out]; have := HZ.out; omega, hB1⟩
          case measure => simp [intOf]; omega
      · have hkn : k = n := by omega
        subst hkn
        have hall := lensU_all hl
        have HE := Lib.hid (szF_pos (left := left) (n := wtU x) (by omega))
        go_wp2_with fail
        go_ret
        exact ⟨ret_int (by rw [HE.out]; omega), hb⟩
def szY (left : Int) (n m : Nat) : Int := if szF left n < 0 then -1 else szF (szF left n) m
set_option maxHeartbeats 400000 in
theorem szSystem_any {xs : List Int} (A : Option Addr) (n c : Nat) (B : Option Addr) (m d : Nat) (x : List (List Int × List Int)) (left : Int) (w : World) (h : RI w A n xs) (h' : RU w B m x) (h0 : 0 ≤ left) (h1 : left ≤ 1048576) (hn : n ≤ 9223372036854775807) (hm : m ≤ 9223372036854775807) :
    Calls Try.prog 5 #[.agg #[.slice A n c, .slice B m d], .int .i64 left] w fun e w' => e = .returned (.int .i64 (szF left (n + wtU x))) ∧ Below w.heap.size w w' := by
  rw [← szR_sum n (wtU x) h0]
  have hb1 := szF_bd n h0
  by_cases hz1 : szF left n < 0
  · have HE := Lib.hid (szR_1 (m := wtU x) hz1)
    go_enter Try.func5, Try.ntmps5
    go_wp2_with fail
    refine (szSig_any A n c left _ h0 h1 hn).mono ?_
    rintro e w1 ⟨rfl, hb⟩
    go_wp2_with fail
    go_ret
    exact ⟨ret_int HE.out.symm, below_then ((Below.refl _ _).alloc (Nat.le_refl _) _) hb (by simp)⟩
  · have HE := Lib.hid (szR_2 (m := wtU x) hz1)
    have hb2 := szF_bd (left := szF left n) (wtU x) (by omega)
    by_cases hz2 : szF (szF left n) (wtU x) < 0
    · go_enter Try.func5, Try.ntmps5
      go_wp2_with fail
      refine (szSig_any A n c left _ h0 h1 hn).mono ?_
      rintro e w1 ⟨rfl, hb⟩
      have hB : Below w.heap.size w w1 := below_then ((Below.refl _ _).alloc (Nat.le_refl _) _) hb (by simp)
      have bx1 : w1.cell? ⟨w.heap.size, 1, none⟩ = some (.slice B m d) := (hb.cell (by simp)).trans (by simp)
      clear hb
      go_wp2_with fail
      refine (szRuleS_any B m d x _ _ (h'.below hB) (by omega) (by omega) hm).mono ?_
      rintro e w2 ⟨rfl, hb2⟩
      go_wp2_with fail
      go_ret
      exact ⟨ret_int (by rw [HE.out]; omega), below_then hB hb2 hB.size⟩
    · go_enter Try.func5, Try.ntmps5
      go_wp2_with fail
      refine (szSig_any A n c left _ h0 h1 hn).mono ?_
      rintro e w1 ⟨rfl, hb⟩
      have hB : Below w.heap.size w w1 := below_then ((Below.refl _ _).alloc (Nat.le_refl _) _) hb (by simp)
      have bx1 : w1.cell? ⟨w.heap.size, 1, none⟩ = some (.slice B m d) := (hb.cell (by simp)).trans (by simp)
      clear hb
      go_wp2_with fail
      refine (szRuleS_any B m d x _ _ (h'.below hB) (by omega) (by omega) hm).mono ?_
      rintro e w2 ⟨rfl, hb2⟩
      go_wp2_with fail
      go_ret
      exact ⟨ret_int HE.out.symm, below_then hB hb2 hB.size⟩
set_option maxHeartbeats 2000000 in
theorem eqRuleS_same (A : Option Addr) (n c : Nat) (x : List (List Int × List Int)) (B : Option Addr) (d : Nat) (w : World) (h : RU w A n x) (h' : RU w B n x) (hs : wtU x ≤ 1048576) :
    Calls Try.prog 31 #[.slice A n c, .slice B n d] w fun e w' => e = .returned (.bool true) ∧ Below w.heap.size w w' := by
  have hl := h.1
  have hn1 : n ≤ 1048576 := by unfold wtU at hs; omega
  go_enter Try.func31, Try.ntmps31
  go_wp2_with fail
  go_loopw [5] (fun i wr => ∃ k : Nat, k ≤ n ∧ i = .int .i64 k ∧ Below w.heap.size w wr) (fun i _ => n - (intOf i).toNat)
  case atStart => exact ⟨0, Nat.zero_le _, rfl, Below.refl _ _⟩
  case round =>
    obtain ⟨k, hk, rfl, hb⟩ := hrel
    by_cases hlt : k < n
    · obtain ⟨g, off, A1, m, d1, A2, o, f, l, r, rfl, hc, hc2, ht, ht2, _, _, _, _, hx⟩ := (h.below hb).at_ hlt
      obtain ⟨g', off', B1, m', d1', B2, o', f', l', r', rfl, hc', hc2', ht', ht2', _, _, _, _, hx'⟩ := (h'.below hb).at_ hlt
      have hxx : (l, r) = (l', r') := hx.out.trans hx'.out.symm
      simp only [Prod.mk.injEq] at hxx
      obtain ⟨rfl, rfl⟩ := hxx
      obtain rfl : m = m' := by rw [← ht.1, ← ht'.1]
      obtain rfl : o = o' := by rw [← ht2.1, ← ht2'.1]
      have hrow := wtU_row (x := x) (k := k) (by omega)
      rw [← hx.out] at hrow
      have hrl : rlen (l, r) = m + o := by unfold rlen; rw [ht.1, ht2.1]
      rw [hrl] at hrow
      clear hx hx'
      have hk0 : (0 : Int) ≤ k := by omega
      have hk1 : (k : Int) < n := by omega
      go_wp2_with fail
      go_region_held3 (fun w' => Below wr.heap.size wr w' ∧ w'.cell? ⟨g, off + k * 2, none⟩ = some (.slice A1 m d1) ∧ w'.cell? ⟨g, off + k * 2 + 1, none⟩ = some (.slice A2 o f) ∧ w'.cell? ⟨g', off' + k * 2, none⟩ = some (.slice B1 m d1') ∧ w'.cell? ⟨g', off' + k * 2 + 1, none⟩ = some (.slice B2 o f'))
        (first | exact ⟨(Below.refl _ _).drew, hc, hc2, hc', hc2'⟩ | exact keepS4 hb1 (by assumption))
        ((go_at_call 47; refine (eqRule_same A1 m d1 l A2 o f r B1 d1' B2 f' _ ?_ ?_ ?_ ?_ (by omega)).mono ?_; exact riS ht (by assumption); exact riS ht2 (by assumption); exact riS ht' (by assumption); exact riS ht2' (by assumption); rintro e w1 ⟨rfl, hb1⟩))
      rename_i hS
      have hb2 := below_then hb hS.1 hb.size
      clear hS hb1
      go_wp2_with fail
      go_roundw
      case rel => exact ⟨k + 1, by omega, by go_num, hb2⟩
      case measure => simp [intOf]; omega
    · have hkn : k = n := by omega
      go_wp2_with fail
      go_ret
      exact ⟨rfl, hb⟩
set_option maxHeartbeats 1000000 in
theorem eqSystem_same (A : Option Addr) (n c : Nat) (xs : List Int) (B : Option Addr) (m d : Nat) (x : List (List Int × List Int)) (A' : Option Addr) (c' : Nat) (B' : Option Addr) (d' : Nat) (w : World)
    (h : RI w A n xs) (h' : RU w B m x) (k : RI w A' n xs) (k' : RU w B' m x) (hs : n + wtU x ≤ 1048576) :
    Calls Try.prog 10 #[.agg #[.slice A n c, .slice B m d], .agg #[.slice A' n c', .slice B' m d']] w fun e w' => e = .returned (.bool true) ∧ Below w.heap.size w w' := by
  go_enter Try.func10, Try.ntmps10
  go_wp2_with fail
  refine (eqSig_same A n c xs A' c' _ ((h.alloc _).alloc _) ((k.alloc _).alloc _) (by omega)).mono ?_
  rintro e w1 ⟨rfl, hb1⟩
  have hB : Below w.heap.size w w1 := below_then (((Below.refl _ _).alloc (Nat.le_refl _) _).alloc (by simp <;> omega) _) hb1 (by simp <;> omega)
  have bx1 : w1.cell? ⟨w.heap.size, 1, none⟩ = some (.slice B m d) := (hb1.cell (by simp <;> omega)).trans (by simp)
  have by1 : w1.cell? ⟨w.heap.size + 1, 1, none⟩ = some (.slice B' m d') := (hb1.cell (by simp <;> omega)).trans (by simp)
  clear hb1
  go_wp2_with fail
  refine (eqRuleS_same B m d x B' d' _ (h'.below hB) (k'.below hB) (by omega)).mono ?_
  rintro e w2 ⟨rfl, hb2⟩
  go_wp2_with fail
  go_ret
  exact ⟨rfl, below_then hB hb2 hB.size⟩
set_option maxHeartbeats 4000000 in
set_option maxRecDepth 20000 in
theorem toRuleS_any (A : Option Addr) (n c : Nat) (x : List (List Int × List Int)) (w : World) (h : RU w A n x) (hn : wtU x ≤ 1048576) :
    Calls Try.prog 25 #[.slice A n c] w fun e w' => ∃ g, e = .returned (.slice (some ⟨g, 0, none⟩) n n) ∧ QU w' w.heap.size (some ⟨g, 0, none⟩) n n x ∧ Below w.heap.size w w' := by
  obtain ⟨i0, hi, hz0, hz1, hz2⟩ := info_parts infoRule
  have hl := h.1
  have hn1 : n ≤ 1048576 := by unfold wtU at hn; omega
  go_enter Try.func25, Try.ntmps25
  go_wp2_with (at_make; refine wpList_make_full _ rfl _ _ 31 rfl w.heap.size 52 i0 (.agg #[.slice none 0 0, .slice none 0 0]) 2 Try.underlying31 hi hz0 hz1 .i64 .i64 _ _ n rfl rfl rfl rfl (by rw [hz2]; omega) (by unfold maxLen; omega) (by omega) ?_; intro w1 hown hg)
  go_loopw [4] (fun i wr => ∃ (k : Nat) (rs : List (Option Addr × Nat)), k ≤ n ∧ i = .int .i64 k ∧ Hid (wr.ownsRow w.heap.size 52 2 (.slice (some ⟨w.heap.size, 0, none⟩) n n) n (List.zipWith rowV rs (flatR (x.take k)) ++ List.replicate ((n - k) * 2) (.slice none 0 0))) ∧ Hid (Rows wr w.heap.size rs (flatR (x.take k))) ∧ Below w.heap.size w wr) (fun i _ => n - (intOf i).toNat)
  case atStart =>
    refine ⟨0, [], Nat.zero_le _, rfl, Lib.hid ?_, Lib.hid (by rw [List.take_zero]; exact Rows.nil _ _), ?_⟩
    · simpa [Value.cells, madeTwo, flatR] using hown
    · exact (Below.refl _ _).grown hg (Nat.le_refl _) (by simp)
  case round =>
    obtain ⟨k, rs, hk, rfl, ho, hr, hb⟩ := hrel
    have hsz := hb.size
    by_cases hlt : k < n
    · obtain ⟨g, off, B, m, d, C, o, f, l, r, rfl, hc, hc', hL, hR, _, _, _, _, hx⟩ := (h.below hb).at_ hlt
      have hrow := wtU_row (x := x) (k := k) (by omega)
      rw [← hx.out] at hrow
      have hrl : rlen (l, r) = m + o := by unfold rlen; rw [hL.1, hR.1]
      rw [hrl] at hrow
      go_wp2_with fail
      refine (toRule_any B m d l C o f r _ hL hR (by omega)).mono ?_
      rintro e w2 ⟨g2, g3, rfl, ho2, ho3, hne, hb2⟩
      have hst := fill2_step ho.out hr.out hb2 ho2 ho3 (fun b hb e => hne (by injection hb with hb; injection e with e; dsimp only at hb e; omega)) hsz hlt hl hx.out
      have hH1 := Lib.hid hst.1
      have hH2 := Lib.hid hst.2
      have hob := ownsRow_below ho.out hb2
      have hf0 := hob.frozenAt (k * 2)
      have hf1 := hob.frozenAt (k * 2 + 1)
      have hcell : ∀ j, j < n * 2 → ∃ v, w2.cell? ⟨w.heap.size, j, none⟩ = some v := fun j hj => by
        have h1 := hob.cellAt j hj
        have : j < (List.zipWith rowV rs (flatR (x.take k)) ++ List.replicate ((n - k) * 2) (Value.slice none 0 0)).length := by have := hob.1; omega
        exact ⟨_, by rw [h1, List.getElem?_eq_getElem this]⟩
      obtain ⟨v0, hv0⟩ := hcell (k * 2) (by omega)
      obtain ⟨v1, hv1⟩ := hcell (k * 2 + 1) (by omega)
      have hb' := ((below_then hb hb2 hsz).setCell (p := ⟨w.heap.size, k * 2, none⟩) (Nat.le_refl _) (.slice (some ⟨g2, 0, none⟩) m m)).setCell (p := ⟨w.heap.size, k * 2 + 1, none⟩) (Nat.le_refl _) (.slice (some ⟨g3, 0, none⟩) o o)
      clear hst hob ho2 ho3 hb2 ho hr hb hx hcell hne
      go_wp2_with fail
      go_roundw
      case rel => exact ⟨k + 1, _, by omega, by go_num, hH1, hH2, hb'⟩
      case measure => simp [intOf]; omega
    · have hkn : k = n := by omega
      subst hkn
      have HT : Hid (x.take k = x) := Lib.hid (List.take_of_length_le (by omega))
      go_wp2_with fail
      go_ret
      refine ⟨_, rfl, ⟨hl, rs, ?_, ?_⟩, hb⟩
      · have := ho.out; rw [HT.out] at this; simpa using this
      · have := hr.out; rwa [HT.out] at this
set_option maxHeartbeats 2000000 in
theorem toSystem_any (A : Option Addr) (n c : Nat) (xs : List Int) (B : Option Addr) (m d : Nat) (x : List (List Int × List Int)) (w : World) (h : RI w A n xs) (h' : RU w B m x) (hs : n + wtU x ≤ 1048576) :
    Calls Try.prog 7 #[.agg #[.slice A n c, .slice B m d]] w fun e w' => ∃ g1 g2,
      e = .returned (.agg #[.slice (some ⟨g1, 0, none⟩) n n, .slice (some ⟨g2, 0, none⟩) m m]) ∧ OI w' w.heap.size (some ⟨g1, 0, none⟩) n n xs ∧ QU w' w.heap.size (some ⟨g2, 0, none⟩) m m x ∧ Below w.heap.size w w' := by
  go_enter Try.func7, Try.ntmps7
  go_wp2_with fail
  refine (toSig_any A n c xs _ (((h.alloc _).alloc _).alloc _) (by omega)).mono ?_
  rintro e w1 ⟨g1, rfl, o1, hb1⟩
  have hB : Below w.heap.size w w1 := below_then ((((Below.refl _ _).alloc (Nat.le_refl _) _).alloc (by simp <;> omega) _).alloc (by simp <;> omega) _) hb1 (by simp <;> omega)
  have bk0 : Blk w1 w.heap.size 27 #[.slice A n c, .slice B m d] := (((Blk.new w _ _).alloc _).alloc _).below hb1
  have bk1 : Blk w1 (w.heap.size + 1) 33 #[.slice none 0 0, .slice none 0 0] := (((by have := Blk.new (w.alloc (.cells #[.slice A n c, .slice B m d] 27)) 33 #[.slice none 0 0, .slice none 0 0]; simpa only [World.size_alloc] using this)) : Blk ((w.alloc (.cells #[.slice A n c, .slice B m d] 27)).alloc (.cells #[.slice none 0 0, .slice none 0 0] 33)) (w.heap.size + 1) 33 #[.slice none 0 0, .slice none 0 0]).alloc _ |>.below hb1
  have bk2 : Blk w1 (w.heap.size + 1 + 1) 33 #[.slice none 0 0, .slice none 0 0] := by
    have := (Blk.new ((w.alloc (.cells #[.slice A n c, .slice B m d] 27)).alloc (.cells #[.slice none 0 0, .slice none 0 0] 33)) 33 #[.slice none 0 0, .slice none 0 0]).below hb1
    simpa only [World.size_alloc] using this
  replace o1 : OI w1 (w.heap.size + 1 + 1 + 1) (some ⟨g1, 0, none⟩) n n xs := by simpa only [World.size_alloc] using o1
  clear hb1
  have K0 : ∀ i, w1.cell? ⟨w.heap.size, i, none⟩ = #[.slice A n c, .slice B m d][i]? := fun i => bk0.cell i
  have c2 : w1.cell? ⟨w.heap.size + 1 + 1, 0, none⟩ = some (.slice none 0 0) := by have := bk2.cell 0; simpa using this
  have f2 : w1.frozen? ⟨w.heap.size + 1 + 1, 0, none⟩ = false := bk2.frozen 0
  have hlt := bk2.lt
  go_wp2_with fail
  clear K0 c2 f2
  replace bk0 := bk0.far (p := ⟨w.heap.size + 1 + 1, 0, none⟩) (by simp <;> omega) (.slice (some ⟨g1, 0, none⟩) n n)
  replace bk1 := bk1.far (p := ⟨w.heap.size + 1 + 1, 0, none⟩) (by simp <;> omega) (.slice (some ⟨g1, 0, none⟩) n n)
  replace bk2 := bk2.set_ 0 (.slice (some ⟨g1, 0, none⟩) n n)
  replace hB := hB.setCell (p := ⟨w.heap.size + 1 + 1, 0, none⟩) (by simp <;> omega) (.slice (some ⟨g1, 0, none⟩) n n)
  replace o1 := o1.setBelow (p := ⟨w.heap.size + 1 + 1, 0, none⟩) (by simp <;> omega) (.slice (some ⟨g1, 0, none⟩) n n)
  clear hlt
  generalize w1.setCell ⟨w.heap.size + 1 + 1, 0, none⟩ (.slice (some ⟨g1, 0, none⟩) n n) = W0 at *
  refine (toRuleS_any B m d x _ (h'.below hB) (by omega)).mono ?_
  rintro e w2 ⟨g2, rfl, o2, hb1⟩
  replace o2 : QU w2 (w.heap.size + 1 + 1 + 1) (some ⟨g2, 0, none⟩) m m x := o2.base (by have := bk2.lt; omega)
  replace o1 := o1.below hb1
  replace bk0 := bk0.below hb1
  replace bk1 := bk1.below hb1
  replace bk2 := bk2.below hb1
  replace hB := below_then hB hb1 hB.size
  clear hb1
  simp only [List.setIfInBounds_toArray, List.set_cons_zero, List.set_cons_succ] at bk2
  have K1 : ∀ i, w2.cell? ⟨w.heap.size + 1, i, none⟩ = #[.slice none 0 0, .slice none 0 0][i]? := fun i => bk1.cell i
  have K2 : ∀ i, w2.cell? ⟨w.heap.size + 1 + 1, i, none⟩ = #[.slice (some ⟨g1, 0, none⟩) n n, .slice none 0 0][i]? := fun i => bk2.cell i
  have F1 : ∀ i, w2.frozen? ⟨w.heap.size + 1, i, none⟩ = false := fun i => bk1.frozen i
  have F2 : ∀ i, w2.frozen? ⟨w.heap.size + 1 + 1, i, none⟩ = false := fun i => bk2.frozen i
  have hlt := bk2.lt
  have HO2 := Lib.hid o2
  clear o2
  go_wp2_with fail
  refine bodyPost_ret (v := .agg #[.slice (some ⟨g1, 0, none⟩) n n, .slice (some ⟨g2, 0, none⟩) m m]) (by simp [results, Try.results7, go_sem, K1]) rfl ⟨g1, g2, rfl, ?_, ?_, ?_⟩
  · refine OI.base (B := w.heap.size + 1 + 1 + 1) ?_ (by omega)
    repeat (first | exact o1 | refine OI.setBelow ?_ (by simp <;> omega) _)
  · refine QU.base (B := w.heap.size + 1 + 1 + 1) ?_ (by omega)
    repeat (first | exact HO2.out | refine QU.set_ ?_ (by simp <;> omega) _)
  · repeat (first | exact hB | refine Below.setCell ?_ (by simp <;> omega) _)
end Go.Proofs.Ytcjgcopkeeiicaa
