/- Contracts: the marks that a statement lays into memory and asks for again. -/
import Derived.Test.YtcjgcopkeeiicaaSig
namespace Go.Proofs.Ytcjgcopkeeiicaa
open Go.RowKit
set_option linter.unusedVariables false

def marks (k : Int) (n : Nat) : List Int := (List.range n).map fun i : Nat => k + (i : Int)
theorem marks_length (k : Int) (n : Nat) : (marks k n).length = n := by simp [marks]
theorem marks_getD (k : Int) (n i : Nat) (h : i < n) : (marks k n).getD i 0 = k + i := by
  simp [marks, List.getD_eq_getElem?_getD, h]
/-- Behind i rounds. -/
def markTo (k : Int) (xs : List Int) (i : Nat) : List Int := marks k i ++ xs.drop i
theorem markTo_step (k : Int) (xs : List Int) (i : Nat) (h : i < xs.length) : (markTo k xs i).set i (k + i) = markTo k xs (i + 1) := by
  unfold markTo
  have hl := marks_length k i
  rw [List.set_append_right _ _ (by omega), hl, Nat.sub_self, List.drop_eq_getElem_cons h, List.set_cons_zero]
  unfold marks
  rw [List.range_succ, List.map_append]
  simp
theorem markTo_len (k : Int) (xs : List Int) (i : Nat) (h : i ≤ xs.length) : (markTo k xs i).length = xs.length := by
  unfold markTo; rw [List.length_append, marks_length, List.length_drop]; omega
theorem markTo_end (k : Int) (xs : List Int) : markTo k xs xs.length = marks k xs.length := by simp [markTo]

set_option maxHeartbeats 400000 in
theorem markInt64S_any (lo hi : Nat) (A : Option Addr) (n c : Nat) (xs : List Int) (k : Int) (w : World) (h : OX w lo hi A n c xs) (h0 : 0 ≤ k) (h1 : k + n ≤ 9223372036854775806) :
    Calls Try.prog 12 #[.slice A n c, .int .i64 k] w fun e w' => e = .returned (.int .i64 (k + n)) ∧ OX w' lo hi A n c (marks k n) ∧ Only lo hi w w' := by
  have hl := h.1.ri.1
  have hHi := h.2
  have hOwn := h.1
  clear h
  go_enter Try.func12, Try.ntmps12
  go_wp2
  go_loopw [1, 5] (fun u i wr => ∃ j : Nat, j ≤ n ∧ i = .int .i64 j ∧ u = .int .i64 (k + j) ∧ Hid (OI wr lo A n c (markTo k xs j)) ∧ Only lo hi w wr) (fun _ i _ => n - (intOf i).toNat)
  case atStart => exact ⟨0, Nat.zero_le _, rfl, by simp, by simpa [markTo, marks, Hid] using hOwn, Only.refl _ _ _⟩
  case round =>
    obtain ⟨j, hj, rfl, rfl, ho, hb⟩ := hrel
    by_cases hlt : j < n
    · obtain ⟨g, hA, hg1, hg2⟩ : ∃ g, A = some ⟨g, 0, none⟩ ∧ lo ≤ g ∧ g < hi := by
        rcases ho.out.2 with ⟨_, h0⟩ | ⟨g, cap, cur, hv, hB, _⟩
        · omega
        · have hA : A = some ⟨g, 0, none⟩ := by injection hv
          exact ⟨g, hA, hB, by simpa using hHi _ hA⟩
      subst hA
      have hf := World.ownsRow.frozenAt ho.out j
      obtain ⟨v, hcc⟩ := own_some ho.out hlt
      have hst := (World.ownsRow.stored ho.out j (.int .i64 (k + j))).1
      rw [← List.map_set, markTo_step k xs j (by rw [hl]; exact hlt)] at hst
      have HST : Hid (OI (wr.setCell ⟨g, j, none⟩ (.int .i64 (k + j))) lo (some ⟨g, 0, none⟩) n c (markTo k xs (j + 1))) := Lib.hid hst
      have hb' := hb.setCell (p := ⟨g, j, none⟩) ⟨hg1, hg2⟩ (.int .i64 (k + j))
      clear hst
      go_wp2
      go_roundw
      case rel => exact ⟨j + 1, by omega, by go_num, by congr 1; omega, HST, hb'⟩
      case measure => simp [intOf]; omega
    · have hjn : j = n := by omega
      subst hjn
      have HE : Hid (OI wr lo A j c (marks k j)) := by have := ho.out; rw [← hl, markTo_end, hl] at this; exact Lib.hid this
      go_wp2
      go_ret
      exact ⟨rfl, ⟨HE.out, hHi⟩, hb⟩
set_option maxHeartbeats 400000 in
theorem heldInt64S_any (A : Option Addr) (n c : Nat) (k : Int) (w : World) (h : RI w A n (marks k n)) (h0 : 0 ≤ k) (h1 : k + n ≤ 9223372036854775806) :
    Calls Try.prog 13 #[.slice A n c, .int .i64 k] w fun e w' => e = .returned (.int .i64 (k + n)) ∧ Below w.heap.size w w' := by
  go_enter Try.func13, Try.ntmps13
  go_wp2
  go_loopw [1, 5] (fun u i wr => ∃ j : Nat, j ≤ n ∧ i = .int .i64 j ∧ u = .int .i64 (k + j) ∧ Below w.heap.size w wr) (fun _ i _ => n - (intOf i).toNat)
  case atStart => exact ⟨0, Nat.zero_le _, rfl, by simp, Below.refl _ _⟩
  case round =>
    obtain ⟨j, hj, rfl, rfl, hb⟩ := hrel
    by_cases hlt : j < n
    · obtain ⟨g, off, x, rfl, hc, hx⟩ := (h.below hb).at_ hlt
      have hxk : x = k + j := by rw [hx.out]; exact marks_getD k n j hlt
      subst hxk
      clear hx
      go_wp2
      go_roundw
      case rel => exact ⟨j + 1, by omega, by go_num, by congr 1; omega, hb⟩
      case measure => simp [intOf]; omega
    · have hjn : j = n := by omega
      subst hjn
      go_wp2
      go_ret
      exact ⟨rfl, hb⟩
set_option maxHeartbeats 400000 in
theorem markSig_any (lo hi : Nat) (A : Option Addr) (n c : Nat) (xs : List Int) (k : Int) (w : World) (h : OX w lo hi A n c xs) (h0 : 0 ≤ k) (h1 : k + n ≤ 9223372036854775806) :
    Calls Try.prog 32 #[.agg #[.slice A n c], .int .i64 k] w fun e w' => e = .returned (.int .i64 (k + n)) ∧ OX w' lo hi A n c (marks k n) ∧ Only lo hi w w' := by
  go_enter Try.func32, Try.ntmps32
  go_wp2_with fail
  refine (markInt64S_any lo hi A n c xs k _ (h.below ((Below.refl _ _).alloc (Nat.le_refl _) _)) h0 h1).mono ?_
  rintro e w1 ⟨rfl, ho, hb⟩
  go_wp2_with fail
  go_ret
  exact ⟨rfl, ho, (Only.of ((Below.refl _ _).alloc (Nat.le_refl _) _)).trans hb⟩
end Go.Proofs.Ytcjgcopkeeiicaa
