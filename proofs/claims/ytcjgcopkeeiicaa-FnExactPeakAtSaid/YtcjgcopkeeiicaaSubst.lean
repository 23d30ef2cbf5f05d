/- Contracts: substitutions: their size, copy, comparison. -/
import Derived.Test.YtcjgcopkeeiicaaMat
import Derived.Test.YtcjgcopkeeiicaaSig
import Derived.Test.YtcjgcopkeeiicaaTerm
import Derived.Deep.RegionHeld3
namespace Go.Proofs.Ytcjgcopkeeiicaa
open Go.RowKit
set_option linter.unusedVariables false
set_option linter.unusedSimpArgs false

/-- A slice of slices that the call itself made, from block B on. -/
def QR (w : World) (B : Nat) (A : Option Addr) (n c : Nat) (x : List (List Int)) : Prop :=
  x.length = n ∧ ∃ rs, w.ownsRow B 22 1 (.slice A n c) n (List.zipWith rowV rs x) ∧ Rows w B rs x
/-- The same, with a bound of its blocks. -/
def OR (w : World) (lo hi : Nat) (A : Option Addr) (n c : Nat) (x : List (List Int)) : Prop :=
  x.length = n ∧ ∃ rs, w.ownsRow lo 22 1 (.slice A n c) n (List.zipWith rowV rs x) ∧ Rows w lo rs x ∧ (∀ b, blk A = some b → b < hi) ∧ (∀ i, i < rs.length → ∀ b, blk (rs.getD i (none, 0)).1 = some b → b < hi)
theorem Rows.base {w : World} {B B' : Nat} {rs : List (Option Addr × Nat)} {x : List (List Int)} (h : Rows w B rs x) (hB : B' ≤ B) : Rows w B' rs x := ⟨h.1, fun k hk => (h.2.1 k hk).base hB, h.2.2⟩
theorem rd_rows {w : World} {B : Nat} {A : Option Addr} {n c : Nat} {rs : List (Option Addr × Nat)} {x : List (List Int)} (hl : x.length = n) (h : w.ownsRow B 22 1 (.slice A n c) n (List.zipWith rowV rs x)) (hr : Rows w B rs x) : RR w A n x := by
  refine ⟨hl, fun hn => ?_⟩
  rcases h.2 with ⟨_, h0⟩ | ⟨g, cap, cur, hv, hB, _⟩
  · omega
  · simp only [Value.slice.injEq] at hv
    obtain ⟨rfl, _, rfl⟩ := hv
    refine ⟨g, 0, rfl, fun k hk => ?_⟩
    have hc := h.cellAt k (by omega)
    have hrl := hr.1
    have ho := hr.2.1 k (by omega)
    obtain ⟨A', c', hv, h1, h2⟩ := own_form ho
    unfold maxLen at h2
    refine ⟨_, _, (rs.getD k (none, 0)).2, ?_, ho.ri, ?_⟩
    · rw [Nat.zero_add, hc, List.getElem?_zipWith]
      rw [List.getElem?_eq_getElem (show k < rs.length by omega), List.getElem?_eq_getElem (show k < x.length by omega)]
      simp [rowV, List.getD_eq_getElem?_getD, show k < rs.length by omega, show k < x.length by omega]
    · simp only [Value.slice.injEq] at hv
      obtain ⟨_, _, rfl⟩ := hv
      omega
section
variable {w w' : World} {B lo hi : Nat} {A : Option Addr} {n c : Nat} {x : List (List Int)}
theorem QR.rd (h : QR w B A n c x) : RR w A n x := by obtain ⟨h1, rs, h2, h3⟩ := h; exact rd_rows h1 h2 h3
theorem OR.rd (h : OR w lo hi A n c x) : RR w A n x := by obtain ⟨h1, rs, h2, h3, _⟩ := h; exact rd_rows h1 h2 h3
theorem QR.below (h : QR w B A n c x) (hb : Below w.heap.size w w') : QR w' B A n c x := by obtain ⟨h1, rs, h2, h3⟩ := h; exact ⟨h1, rs, ownsRow_below h2 hb, h3.below hb⟩
theorem QR.base {B' : Nat} (h : QR w B A n c x) (hB : B' ≤ B) : QR w B' A n c x := by obtain ⟨h1, rs, h2, h3⟩ := h; exact ⟨h1, rs, ownsRow_base h2 hB, h3.base hB⟩
theorem OR.below (h : OR w lo hi A n c x) (hb : Below w.heap.size w w') : OR w' lo hi A n c x := by obtain ⟨h1, rs, h2, h3, h4⟩ := h; exact ⟨h1, rs, ownsRow_below h2 hb, h3.below hb, h4⟩
theorem QR.hi_ (h : QR w B A n c x) (hB : lo ≤ B) : OR w lo w.heap.size A n c x := by
  obtain ⟨h1, rs, h2, h3⟩ := h
  exact ⟨h1, rs, ownsRow_base h2 hB, h3.base hB, fun b hb => (h2.lt b (by rw [blk_own]; exact hb)).2, fun i hi b hb => (h3.lt hi hb).2⟩
theorem OR.only {lo' hi' : Nat} (h : OR w lo hi A n c x) (ho : Only lo' hi' w w') (hd : hi ≤ lo' ∨ hi' ≤ lo) : OR w' lo hi A n c x := by
  obtain ⟨h1, rs, h2, h3, h4, h5⟩ := h
  refine ⟨h1, rs, own_same h2 fun b hb => ?_, h3.same fun i hi b hb => ?_, h4, h5⟩
  · have hl := h2.lt b hb
    rw [blk_own] at hb
    exact ho.block b hl.2 (by have := h4 b hb; omega)
  · have hl := h3.lt hi hb
    exact ho.block b hl.2 (by have := h5 i hi b hb; omega)
end
theorem zset {rs : List (Option Addr × Nat)} {y : List (List Int)} {z : Value} {n k : Nat} (hr : rs.length = k) (hy : y.length = k) (hk : k < n) (r : Option Addr × Nat) (t : List Int) :
    (List.zipWith rowV rs y ++ List.replicate (n - k) z).set k (rowV r t) = List.zipWith rowV (rs ++ [r]) (y ++ [t]) ++ List.replicate (n - (k + 1)) z := by
  have hl : (List.zipWith rowV rs y).length = k := by rw [List.length_zipWith, hr, hy, Nat.min_self]
  rw [List.set_append_right _ _ (by omega), hl, Nat.sub_self, List.zipWith_append (by omega), show n - k = n - (k + 1) + 1 by omega, List.replicate_succ, List.set_cons_zero]
  simp
theorem take_snoc {x : List (List Int)} {k : Nat} {t : List Int} (hk : k < x.length) (ht : t = x.getD k []) : x.take (k + 1) = x.take k ++ [t] := by
  rw [List.take_succ_eq_append_getElem hk, ht]
  simp [List.getD_eq_getElem?_getD, hk]
/-- One row more is laid. -/
theorem fill_step {w w1 : World} {B g0 n k : Nat} {rs : List (Option Addr × Nat)} {x : List (List Int)} {t : List Int} {A' : Option Addr} {m : Nat}
    (ho : w.ownsRow B 22 1 (.slice (some ⟨g0, 0, none⟩) n n) n (List.zipWith rowV rs (x.take k) ++ List.replicate (n - k) (.slice none 0 0))) (hr : Rows w B rs (x.take k)) (hb : Below w.heap.size w w1) (hi : OI w1 w.heap.size A' m m t) (hB : B ≤ w.heap.size) (hk : k < n) (hx : x.length = n) (ht : t = x.getD k []) :
    (w1.setCell ⟨g0, k, none⟩ (.slice A' m m)).ownsRow B 22 1 (.slice (some ⟨g0, 0, none⟩) n n) n (List.zipWith rowV (rs ++ [(A', m)]) (x.take (k + 1)) ++ List.replicate (n - (k + 1)) (.slice none 0 0)) ∧ Rows (w1.setCell ⟨g0, k, none⟩ (.slice A' m m)) B (rs ++ [(A', m)]) (x.take (k + 1)) := by
  have hm : t.length = m := hi.ri.1
  have hl : (x.take k).length = k := by rw [List.length_take]; omega
  have hrl : rs.length = k := by rw [hr.1, hl]
  have h1 := (ownsRow_below ho hb)
  have h2 := (World.ownsRow.stored h1 k (.slice A' m m)).1
  have hz := zset (z := .slice none 0 0) hrl hl hk (A', m) t
  rw [show rowV (A', m) t = .slice A' m m by unfold rowV; rw [hm]] at hz
  rw [hz, ← take_snoc (by omega) ht] at h2
  refine ⟨h2, ?_⟩
  have hg0 : g0 < w.heap.size := (ho.lt g0 rfl).2
  rw [take_snoc (by omega) ht]
  refine ((hr.below hb).set_ ⟨g0, k, none⟩ _ fun i hii b hbl e => ?_).snoc ?_ fun i hii b hbl e => ?_
  · have hne := own_ne (hr.2.1 i (by rw [← hr.1]; exact hii)) ho (by decide : (2 : TypeId) ≠ 22) hbl
    exact hne (by injection e with e; rw [← e]; rfl)
  · rw [hm]
    refine (hi.base hB).same fun b hbl => Below.heap_setCell _ _ _ b (fun e => ?_)
    have := (hi.lt_ hbl).1
    dsimp only at e
    omega
  · have := (hr.lt hii hbl).2
    have := (hi.lt_ e).1
    omega
theorem sum_step {x : List (List Int)} {k : Nat} {t : List Int} (hk : k < x.length) (ht : t = x.getD k []) : ((x.take (k + 1)).map List.length).sum = ((x.take k).map List.length).sum + t.length := by
  rw [take_snoc hk ht]; simp
theorem sum_le (x : List (List Int)) (k : Nat) : ((x.take k).map List.length).sum ≤ (x.map List.length).sum := by
  have := congrArg (fun l => (l.map List.length).sum) (List.take_append_drop k x)
  simp only [List.map_append, List.sum_append] at this
  omega
/-- The lengths of the first k rows. -/
def lens (x : List (List Int)) (k : Nat) : Nat := ((x.take k).map List.length).sum
theorem lens_zero (x : List (List Int)) : lens x 0 = 0 := by simp [lens]
theorem lens_step {x : List (List Int)} {k : Nat} {t : List Int} (hk : k < x.length) (ht : t = x.getD k []) : lens x (k + 1) = lens x k + t.length := sum_step hk ht
theorem lens_le (x : List (List Int)) (k : Nat) : x.length + lens x k ≤ wtR x := by have := sum_le x k; unfold lens wtR; omega
theorem lens_all {x : List (List Int)} {n : Nat} (h : x.length = n) : n + lens x n = wtR x := by unfold lens wtR; rw [List.take_of_length_le (by omega), h]
end Go.Proofs.Ytcjgcopkeeiicaa
