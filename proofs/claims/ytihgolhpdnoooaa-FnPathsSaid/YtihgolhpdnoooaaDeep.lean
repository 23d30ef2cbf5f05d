/- Contracts: DeepestOf. -/
import Derived.Test.YtihgolhpdnoooaaPath
namespace Go.Proofs.Ytihgolhpdnoooaa
open Go.RowKit
set_option linter.unusedVariables false

/-- The first of the places below k whose path is longest. -/
def deep (L : Nat → Nat) : Nat → Nat
  | 0 => 0
  | k + 1 => if L (deep L k) < L k then k else deep L k
theorem deep_le (L : Nat → Nat) : ∀ k, deep L k ≤ k
  | 0 => Nat.le_refl _
  | k + 1 => by have := deep_le L k; unfold deep; split <;> omega
theorem deep_yes {L : Nat → Nat} {k : Nat} (h : L (deep L k) < L k) : deep L (k + 1) = k := by rw [deep, if_pos h]
theorem deep_no {L : Nat → Nat} {k : Nat} (h : ¬ L (deep L k) < L k) : deep L (k + 1) = deep L k := by rw [deep, if_neg h]
def plen (xs t : List Int) (p : Nat) : Nat := (Pl.path (Pl.ari xs) t p).length
theorem plen_le (xs t : List Int) (p : Nat) : plen xs t p ≤ t.length := Pl.pathF_len (f := Pl.ari xs) (t := t) p t.length 0
theorem plen_zero (xs t : List Int) : plen xs t 0 = 0 := by unfold plen Pl.path; rw [Pl.pathF_here]; rfl
def V_DeepestOf (xs t : List Int) : Int := if Pl.termOk xs t then (deep (plen xs t) t.length : Nat) else -1
theorem deepestOf_no {xs t : List Int} (h : Pl.termOk xs t = false) : V_DeepestOf xs t = -1 := by unfold V_DeepestOf; rw [h]; rfl
theorem deepestOf_yes {xs t : List Int} (h : Pl.termOk xs t = true) : V_DeepestOf xs t = (deep (plen xs t) t.length : Nat) := by unfold V_DeepestOf; rw [h]; rfl
theorem l3Path_len (A : Option Addr) (n c : Nat) (xs : List Int) (B : Option Addr) (m d : Nat) (t : List Int) (x : Nat) (w : World)
    (h : RI w A n xs) (h' : RI w B m t) (hT : Pl.termOk xs t = true) (hx : x < m) (hm : m ≤ 1048576) (hn : n ≤ 1048576) :
    Calls Try.prog 102 #[.agg #[.slice A n c], .slice B m d, .int .i64 x] w fun e w' => ∃ A' c', e = .returned (.slice A' (plen xs t x) c') ∧ Below w.heap.size w w' :=
  (l3Path_any A n c xs B m d t x w h h' hT hx hm hn).mono (by rintro e w' ⟨A', c', he, _, hb⟩; exact ⟨A', c', he, hb⟩)
theorem pathTo_len (A : Option Addr) (n c : Nat) (xs : List Int) (B : Option Addr) (m d : Nat) (t : List Int) (x : Nat) (w : World)
    (h : RI w A n xs) (h' : RI w B m t) (hT : Pl.termOk xs t = true) (hx : x < m) (hm : m ≤ 1048576) (hn : n ≤ 1048576) :
    Calls Try.prog 99 #[.agg #[.slice A n c], .slice B m d, .int .i64 x] w fun e w' => ∃ A' c', e = .returned (.slice A' (plen xs t x) c') ∧ Below w.heap.size w w' :=
  (pathTo_any A n c xs B m d t x w h h' hT hx hm hn).mono (by rintro e w' ⟨A', c', he, _, hb⟩; exact ⟨A', c', he, hb⟩)
set_option maxHeartbeats 2000000 in
theorem I_DeepestOf (A : Option Addr) (n c : Nat) (xs : List Int) (B : Option Addr) (m d : Nat) (t : List Int) (w : World) (h : RI w A n xs) (h' : RI w B m t) (hn : n ≤ 1048576) (hm : m ≤ 1048576) :
    Calls Try.prog 41 #[.agg #[.slice A n c], .slice B m d] w fun e w' => e = .returned (.int .i64 (V_DeepestOf xs t)) ∧ Below w.heap.size w w' := by
  have hl := h'.1
  cases hs : Pl.termOk xs t
  · have HE := deepestOf_no hs
    rw [HE]
    have HS := Lib.hid hs
    clear hl HE hs
    go_enter Try.func41, Try.ntmps41
    go_wp2_with fail
    refine (implTermOk_any A n c xs B m d t _ (h.alloc _) (h'.alloc _) (by omega) (by omega)).mono ?_
    rintro e w1 ⟨rfl, hb1⟩
    rw [HS.out]
    have hB : Below w.heap.size w w1 := below_then ((Below.refl _ _).alloc (Nat.le_refl _) _) hb1 (by simp)
    have bx : w1.cell? ⟨w.heap.size, 0, none⟩ = some (.slice A n c) := (hb1.cell (by simp)).trans (by simp)
    replace h := (h.alloc _).below hb1
    replace h' := (h'.alloc _).below hb1
    clear hb1
    go_wp2_with fail
    go_ret
    exact ⟨rfl, hB⟩
  · have HE := deepestOf_yes hs
    rw [hl] at HE
    rw [HE]
    have hp0 := Lib.hid (plen_zero xs t)
    have HS := Lib.hid hs
    clear hl HE hs
    go_enter Try.func41, Try.ntmps41
    go_wp2_with fail
    refine (implTermOk_any A n c xs B m d t _ (h.alloc _) (h'.alloc _) (by omega) (by omega)).mono ?_
    rintro e w1 ⟨rfl, hb1⟩
    rw [HS.out]
    have hB : Below w.heap.size w w1 := below_then ((Below.refl _ _).alloc (Nat.le_refl _) _) hb1 (by simp)
    have bx : w1.cell? ⟨w.heap.size, 0, none⟩ = some (.slice A n c) := (hb1.cell (by simp)).trans (by simp)
    replace h := (h.alloc _).below hb1
    replace h' := (h'.alloc _).below hb1
    clear hb1
    go_wp2_with fail
    go_loopw [5, 6, 15, 7, 8] (fun u v i _ _ wr => ∃ k : Nat, k ≤ m ∧ i = .int .i64 k ∧ u = .int .i64 (deep (plen xs t) k : Nat) ∧ v = .int .i64 (plen xs t (deep (plen xs t) k) : Nat) ∧ Below w1.heap.size w1 wr) (fun _ _ i _ _ _ => m - (intOf i).toNat)
    case atStart => exact ⟨0, Nat.zero_le _, rfl, rfl, by show _ = Value.int .i64 ((plen xs t 0 : Nat) : Int); rw [hp0.out]; rfl, Below.refl _ _⟩
    case round =>
      obtain ⟨k, hk, rfl, rfl, rfl, hb⟩ := hrel
      have hbx := keepC hb bx
      by_cases hlt : k < m
      · by_cases hc : plen xs t (deep (plen xs t) k) < plen xs t k
        · have HU := Lib.hid (deep_yes hc)
          generalize deep (plen xs t) k = bst at *
          go_wp2_with fail
          refine (pathTo_len A n c xs B m d t k _ (h.below hb) (h'.below hb) HS.out hlt hm hn).mono ?_
          rintro e w2 ⟨A', c', rfl, hb2⟩
          have hB2 := hb.trans (hb2.mono hb.size)
          go_wp2_with fail
          go_roundw
          case rel => exact ⟨k + 1, by omega, by go_num, by rw [HU.out], by rw [HU.out], hB2⟩
          case measure => simp [intOf]; omega
        · have HU := Lib.hid (deep_no hc)
          generalize deep (plen xs t) k = bst at *
          go_wp2_with fail
          refine (pathTo_len A n c xs B m d t k _ (h.below hb) (h'.below hb) HS.out hlt hm hn).mono ?_
          rintro e w2 ⟨A', c', rfl, hb2⟩
          have hB2 := hb.trans (hb2.mono hb.size)
          go_wp2_with fail
          go_roundw
          case rel => exact ⟨k + 1, by omega, by go_num, by rw [HU.out], by rw [HU.out], hB2⟩
          case measure => simp [intOf]; omega
      · have hkm : k = m := by omega
        subst hkm
        go_wp2_with fail
        go_ret
        exact ⟨rfl, below_then hB hb hB.size⟩
end Go.Proofs.Ytihgolhpdnoooaa
