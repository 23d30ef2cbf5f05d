/- Contracts: variables replaced. -/
import Derived.Test.YtlcchafcgidpeaaGreatDoorSubstOk
import Derived.Test.YtlcchafcgidpeaaGreatDoorCopy
namespace Go.Proofs.YtlcchafcgidpeaaGreatDoor
open Go.RowKit
set_option linter.unusedVariables false

/-- What a substitution has for a variable; nothing where it has none. -/
def hasV (x : List (List Int)) (i : Nat) : List Int := x.getD i []
/-- What it gives for a variable. -/
def gives (x : List (List Int)) (i : Nat) : List Int := if (hasV x i).length = 0 then [-1 - (i : Int)] else hasV x i
theorem gives_no {x : List (List Int)} {i : Nat} (h : (hasV x i).length = 0) : gives x i = [-1 - (i : Int)] := if_pos h
theorem gives_yes {x : List (List Int)} {i : Nat} (h : ¬ (hasV x i).length = 0) : gives x i = hasV x i := if_neg h
theorem hasV_out {x : List (List Int)} {i n : Nat} (hl : x.length = n) (h : ¬ i < n) : (hasV x i).length = 0 := by
  unfold hasV; rw [List.getD_eq_getElem?_getD, List.getElem?_eq_none (by omega)]; rfl
theorem hasV_len {x : List (List Int)} {xs : List Int} (h : substOk xs x = true) (i : Nat) : (hasV x i).length ≤ 60 := by
  by_cases hi : i < x.length
  · rcases (substOk_iff.1 h).2.2 i hi with h0 | hT
    · unfold hasV; omega
    · exact (Pl.termOk_iff.1 hT).2.1.2
  · have := hasV_out rfl hi; omega
/-- What becomes of one number. -/
def fl (x : List (List Int)) (v : Int) : List Int := if v < 0 then gives x (-1 - v).toNat else [v]
theorem fl_sym {x : List (List Int)} {v : Int} (h : ¬ v < 0) : fl x v = [v] := if_neg h
theorem fl_var {x : List (List Int)} {i : Nat} {v : Int} (h : v = -1 - (i : Int)) : fl x v = gives x i := by
  unfold fl; rw [if_pos (by omega), show (-1 - v).toNat = i by omega]
def flTo (x : List (List Int)) (t : List Int) (k : Nat) : List Int := (t.take k).flatMap (fl x)
theorem flTo_zero (x : List (List Int)) (t : List Int) : flTo x t 0 = [] := by simp [flTo]
theorem flTo_step {x : List (List Int)} {t : List Int} {k : Nat} {v : Int} (hk : k < t.length) (hv : v = t.getD k 0) : flTo x t (k + 1) = flTo x t k ++ fl x v := by
  unfold flTo
  rw [List.take_succ_eq_append_getElem hk, List.flatMap_append, hv]
  simp [List.getD_eq_getElem?_getD, hk]
theorem flTo_mono {x : List (List Int)} {t : List Int} {k m : Nat} (h : k ≤ m) : (flTo x t k).length ≤ (flTo x t m).length := by
  unfold flTo
  have := congrArg (fun l => (l.flatMap (fl x)).length) (List.take_append_drop k (t.take m))
  simp only [List.flatMap_append, List.length_append, List.take_take, Nat.min_eq_left h] at this
  omega
def fillOk (x : List (List Int)) (t : List Int) (m : Nat) : Bool := decide ((flTo x t m).length ≤ 60)
def fillL (x : List (List Int)) (t : List Int) (m : Nat) : List Int := if fillOk x t m then flTo x t m else []
theorem fillL_no {x : List (List Int)} {t : List Int} {m : Nat} (h : fillOk x t m = false) : fillL x t m = [] := by unfold fillL; rw [h]; rfl
theorem fillL_yes {x : List (List Int)} {t : List Int} {m : Nat} (h : fillOk x t m = true) : fillL x t m = flTo x t m := by unfold fillL; rw [h]; rfl
theorem fillOk_no {x : List (List Int)} {t : List Int} {k m : Nat} (hk : k ≤ m) (h : ¬ (flTo x t k).length ≤ 60) : fillOk x t m = false := by
  have := flTo_mono (x := x) (t := t) hk
  unfold fillOk; simp; omega
theorem fillOk_yes {x : List (List Int)} {t : List Int} {m : Nat} (h : (flTo x t m).length ≤ 60) : fillOk x t m = true := by unfold fillOk; simpa using h
theorem fillL_le (x : List (List Int)) (t : List Int) (m : Nat) : (fillL x t m).length ≤ 60 := by
  unfold fillL; split
  · rename_i h; simpa [fillOk] using h
  · simp
set_option maxHeartbeats 1000000 in
set_option maxRecDepth 20000 in
theorem l2Gives_any (A : Option Addr) (n c : Nat) (x : List (List Int)) (i : Nat) (w : World) (h : RR w A n x) (hw : wtR x ≤ 1048576) (hi : i ≤ 1048576) :
    Calls Tryz.prog 68 #[.agg #[.slice A n c], .int .i64 i] w fun e w' => ∃ A' c', e = .returned (.slice A' (gives x i).length c') ∧ OI w' w.heap.size A' (gives x i).length c' (gives x i) ∧ Below w.heap.size w w' := by
  have hl := h.1
  have hn : n ≤ 1048576 := by unfold wtR at hw; omega
  have hnew : OI ((w.alloc (.cells #[.slice A n c] 39)).alloc (.cells #[.int .i64 (-1 - (i : Int))] 2)) (w.heap.size + 1) (some ⟨w.heap.size + 1, 0, none⟩) 1 1 [-1 - (i : Int)] := by
    have := World.ownsRow_lit (e := 2) (size := 1) (base := w.heap.size + 1) (w.alloc (.cells #[.slice A n c] 39)) #[.int .i64 (-1 - (i : Int))] 1 (by simp) (by simp [maxLen]) rfl
    simp only [World.size_alloc] at this
    exact this
  have HN := Lib.hid hnew
  have hB1 : Below w.heap.size w (w.alloc (.cells #[.slice A n c] 39)) := (Below.refl _ _).alloc (Nat.le_refl _) _
  clear hnew
  by_cases hin : i < n
  · obtain ⟨g, off, B, m, d, t, rfl, hc, ht, hmx, hx⟩ := (h.below hB1).at_ hin
    have hrow := wtR_row (x := x) (k := i) (by omega)
    rw [← hx.out, ht.1] at hrow
    have hh : hasV x i = t := hx.out.symm
    have hi1 : (i : Int) < n := by omega
    have hi0 : (0 : Int) ≤ i := by omega
    by_cases h0 : m = 0
    · have HE := gives_no (x := x) (i := i) (by rw [hh, ht.1]; exact h0)
      rw [HE]
      have e0 : ¬ (0 : Int) < m := by omega
      clear hx hh HE
      subst h0
      go_enter Tryz.func68, Tryz.ntmps68
      go_wp2_with fail
      go_ret
      exact ⟨_, _, rfl, HN.out.base (by omega), hB1.alloc (by simp) _⟩
    · have HE := gives_yes (x := x) (i := i) (by rw [hh, ht.1]; exact h0)
      rw [HE, hh, ht.1]
      have e0 : (0 : Int) < m := by omega
      clear hx hh HE
      go_enter Tryz.func68, Tryz.ntmps68
      go_wp2_with fail
      refine (l1Copy_any B m d t _ ht (by omega)).mono ?_
      rintro e w1 ⟨A', c', rfl, ho, hb1⟩
      go_wp2_with fail
      go_ret
      exact ⟨A', c', rfl, ho.base hB1.size, below_then hB1 hb1 hB1.size⟩
  · have HE := gives_no (hasV_out hl hin)
    rw [HE]
    have hi1 : ¬ (i : Int) < n := by omega
    clear HE
    go_enter Tryz.func68, Tryz.ntmps68
    go_wp2_with fail
    go_ret
    exact ⟨_, _, rfl, HN.out.base (by omega), hB1.alloc (by simp) _⟩
theorem l2Gives_at (A : Option Addr) (n c : Nat) (x : List (List Int)) (i : Nat) (j : Int) (G : List Int) (hj : j = (i : Int)) (hG : gives x i = G) (w : World) (h : RR w A n x) (hw : wtR x ≤ 1048576) (hi : i ≤ 1048576) :
    Calls Tryz.prog 68 #[.agg #[.slice A n c], .int .i64 j] w fun e w' => ∃ A' c', e = .returned (.slice A' G.length c') ∧ OI w' w.heap.size A' G.length c' G ∧ Below w.heap.size w w' := by
  subst hj hG
  exact l2Gives_any A n c x i w h hw hi
theorem keepB2 {W w1 w2 : World} {B : Nat} {p q : Addr} {u v : Value} (hb : Below w1.heap.size w1 w2) (hB : B ≤ w1.heap.size) (h : Below B W w1 ∧ w1.cell? p = some u ∧ w1.cell? q = some v) : Below B W w2 ∧ w2.cell? p = some u ∧ w2.cell? q = some v :=
  ⟨h.1.trans (hb.mono hB), keepC hb h.2.1, keepC hb h.2.2⟩
theorem rrS {w wr w1 : World} {B : Nat} {R : Prop} {A : Option Addr} {n : Nat} {x : List (List Int)} (h : RR w A n x) (hb : Below w.heap.size w wr) (hS : Below B wr w1 ∧ R) (hB : w.heap.size ≤ B) : RR w1 A n x := h.below (hb.trans (hS.1.mono hB))
theorem keepG2 {W w1 w2 : World} {B : Nat} {p q : Addr} {u v : Value} (hb : Below B w1 w2) (hp : p.block < B) (hq : q.block < B) (h : Below B W w1 ∧ w1.cell? p = some u ∧ w1.cell? q = some v) : Below B W w2 ∧ w2.cell? p = some u ∧ w2.cell? q = some v :=
  ⟨h.1.trans hb, (hb.cell hp).trans h.2.1, (hb.cell hq).trans h.2.2⟩
end Go.Proofs.YtlcchafcgidpeaaGreatDoor
