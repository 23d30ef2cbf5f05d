/- Contracts: the marks that a statement lays into a peak and asks for again. -/
import Derived.Test.YtcjgcopkeeiicaaMarkR
import Derived.Test.YtcjgcopkeeiicaaPeak
import Derived.Test.YtcjgcopkeeiicaaSys
namespace Go.Proofs.Ytcjgcopkeeiicaa
open Go.RowKit
set_option linter.unusedVariables false

theorem OX.other {w w' : World} {lo hi : Nat} {A B : Option Addr} {n c : Nat} {xs : List Int} (h : OX w lo hi B n c xs) (hk : ∀ b, b < w.heap.size → blk A ≠ some b → w'.heap[b]? = w.heap[b]?) (hne : ∀ b, blk A = some b → blk B ≠ some b) : OX w' lo hi B n c xs :=
  ⟨h.1.same fun b e => hk b (h.1.lt_ e).2 fun e2 => hne b e2 e, h.2⟩
set_option maxHeartbeats 1000000 in
theorem markPeak_any (lo hi : Nat) (A : Option Addr) (n c : Nat) (xs : List Int) (B : Option Addr) (m d : Nat) (ys : List Int) (C : Option Addr) (o f : Nat) (zs : List Int) (p q r k : Int) (w : World) (h : OX w lo hi A n c xs) (h' : OX w lo hi B m d ys) (h'' : OX w lo hi C o f zs) (n1 : ∀ b, blk A = some b → blk B ≠ some b) (n2 : ∀ b, blk A = some b → blk C ≠ some b) (n3 : ∀ b, blk B = some b → blk C ≠ some b) (h0 : 0 ≤ k) (h1 : k + ((n + m + o : Nat) : Int) ≤ 9223372036854775806) :
    Calls Try.prog 17 #[.agg #[.slice A n c, .slice B m d, .slice C o f, .int .i64 p, .int .i64 q, .int .i64 r], .int .i64 k] w fun e w' => e = .returned (.int .i64 (k + ((n + m + o : Nat) : Int))) ∧ OX w' lo hi A n c (marks k n) ∧ OX w' lo hi B m d (marks (k + n) m) ∧ OX w' lo hi C o f (marks (k + n + m) o) ∧ Only lo hi w w' := by
  have hlA : ∀ b, blk A = some b → b < w.heap.size := fun b e => (h.1.lt_ e).2
  have hlB : ∀ b, blk B = some b → b < w.heap.size := fun b e => (h'.1.lt_ e).2
  have hB0 : Below w.heap.size w (w.alloc (.cells #[.slice A n c, .slice B m d, .slice C o f, .int .i64 p, .int .i64 q, .int .i64 r] 41)) := (Below.refl _ _).alloc (Nat.le_refl _) _
  have hs0 : (w.alloc (.cells #[.slice A n c, .slice B m d, .slice C o f, .int .i64 p, .int .i64 q, .int .i64 r] 41)).heap.size = w.heap.size + 1 := by simp
  have b1 : (w.alloc (.cells #[.slice A n c, .slice B m d, .slice C o f, .int .i64 p, .int .i64 q, .int .i64 r] 41)).cell? ⟨w.heap.size, 1, none⟩ = some (.slice B m d) := by simp
  have b2 : (w.alloc (.cells #[.slice A n c, .slice B m d, .slice C o f, .int .i64 p, .int .i64 q, .int .i64 r] 41)).cell? ⟨w.heap.size, 2, none⟩ = some (.slice C o f) := by simp
  have hX := Lib.hid (h.below hB0)
  have hY := Lib.hid (h'.below hB0)
  have hZ := Lib.hid (h''.below hB0)
  have N1 := Lib.hid n1
  have N2 := Lib.hid n2
  have N3 := Lib.hid n3
  clear n1 n2 n3 h h' h''
  go_enter Try.func17, Try.ntmps17
  go_wp2_with fail
  have mk := markOne_any lo hi A n c xs k _ hX.out h0 (by omega)
  refine mk.mono ?_
  clear mk
  rintro e w1 ⟨rfl, ho, hb, hk⟩
  have c1 : w1.cell? ⟨w.heap.size, 1, none⟩ = some (.slice B m d) := (World.cell?_of_block (hk w.heap.size (by omega) (fun e => by have := hlA _ e; omega))).trans b1
  have c2 : w1.cell? ⟨w.heap.size, 2, none⟩ = some (.slice C o f) := (World.cell?_of_block (hk w.heap.size (by omega) (fun e => by have := hlA _ e; omega))).trans b2
  have hs1 := hb.size
  have hX1 := Lib.hid ho
  have hY1 := Lib.hid (hY.out.other hk N1.out)
  have hZ1 := Lib.hid (hZ.out.other hk N2.out)
  have hb1 := (Only.of (lo := lo) (hi := hi) hB0).trans hb
  clear b1 b2 hY hX hZ ho hk hb
  go_wp2_with fail
  have mk := markOne_any lo hi B m d ys (k + n) w1 hY1.out (by omega) (by omega)
  refine mk.mono ?_
  clear mk
  rintro e w2 ⟨rfl, ho, hb, hk⟩
  have d2 : w2.cell? ⟨w.heap.size, 2, none⟩ = some (.slice C o f) := (World.cell?_of_block (hk w.heap.size (by omega) (fun e => by have := hlB _ e; omega))).trans c2
  have hs2 := hb.size
  have hY2 := Lib.hid ho
  have hX2 := Lib.hid (hX1.out.other hk (fun b e e2 => N1.out b e2 e))
  have hZ2 := Lib.hid (hZ1.out.other hk N3.out)
  have hb2 := hb1.trans hb
  clear c1 c2 hY1 hX1 hZ1 ho hk hb hb1
  go_wp2_with fail
  have mk := markOne_any lo hi C o f zs (k + n + m) w2 hZ2.out (by omega) (by omega)
  refine mk.mono ?_
  clear mk
  rintro e w3 ⟨rfl, ho, hb, hk⟩
  have hX3 := Lib.hid (hX2.out.other hk (fun b e e2 => N2.out b e2 e))
  have hY3 := Lib.hid (hY2.out.other hk (fun b e e2 => N3.out b e2 e))
  have hZ3 := Lib.hid ho
  have hb3 := hb2.trans hb
  clear d2 hY2 hX2 hZ2 ho hk hb hb2
  go_wp2_with fail
  go_ret
  exact ⟨ret_int (by omega), hX3.out, hY3.out, hZ3.out, hb3⟩
set_option maxHeartbeats 400000 in
theorem heldPeak_any (A : Option Addr) (n c : Nat) (B : Option Addr) (m d : Nat) (C : Option Addr) (o f : Nat) (p q r k : Int) (w : World) (h : RI w A n (marks k n)) (h' : RI w B m (marks (k + n) m)) (h'' : RI w C o (marks (k + n + m) o)) (h0 : 0 ≤ k) (h1 : k + ((n + m + o : Nat) : Int) ≤ 9223372036854775806) :
    Calls Try.prog 18 #[.agg #[.slice A n c, .slice B m d, .slice C o f, .int .i64 p, .int .i64 q, .int .i64 r], .int .i64 k] w fun e w' => e = .returned (.int .i64 (k + ((n + m + o : Nat) : Int))) ∧ Below w.heap.size w w' := by
  have hn1 : ¬ k + (n : Int) < 0 := by omega
  have hn2 : ¬ k + (n : Int) + (m : Int) < 0 := by omega
  have hn3 : ¬ k + (n : Int) + (m : Int) + (o : Int) < 0 := by omega
  go_enter Try.func18, Try.ntmps18
  go_wp2_with fail
  refine (heldInt64S_any A n c k _ (h.alloc _) h0 (by omega)).mono ?_
  rintro e w1 ⟨rfl, hb1⟩
  have hB : Below w.heap.size w w1 := below_then ((Below.refl _ _).alloc (Nat.le_refl _) _) hb1 (by simp)
  have c1 : w1.cell? ⟨w.heap.size, 1, none⟩ = some (.slice B m d) := (hb1.cell (by simp)).trans (by simp)
  have c2 : w1.cell? ⟨w.heap.size, 2, none⟩ = some (.slice C o f) := (hb1.cell (by simp)).trans (by simp)
  clear hb1
  go_wp2_with fail
  refine (heldInt64S_any B m d (k + n) _ (h'.below hB) (by omega) (by omega)).mono ?_
  rintro e w2 ⟨rfl, hb2⟩
  have hB2 := below_then hB hb2 hB.size
  replace c2 := keepC hb2 c2
  clear c1 hb2
  go_wp2_with fail
  refine (heldInt64S_any C o f (k + n + m) _ (h''.below hB2) (by omega) (by omega)).mono ?_
  rintro e w3 ⟨rfl, hb3⟩
  go_wp2_with fail
  go_ret
  exact ⟨ret_int (by omega), below_then hB2 hb3 hB2.size⟩
end Go.Proofs.Ytcjgcopkeeiicaa
/-! Contracts: the marks that a statement lays into a system. -/

namespace Go.Proofs.Ytcjgcopkeeiicaa
open Go.RowKit
set_option linter.unusedVariables false

def sumU (x : List (List Int × List Int)) : Nat := (x.map rlen).sum
theorem sumU_le (x : List (List Int × List Int)) : sumU x ≤ wtU x := by unfold sumU wtU; omega
theorem lensU_sum {x : List (List Int × List Int)} {n : Nat} (h : x.length = n) : lensU x n = sumU x := by unfold lensU sumU; rw [List.take_of_length_le (by omega)]
theorem lensU_sumle (x : List (List Int × List Int)) (k : Nat) : lensU x k ≤ sumU x := by have := lensU_le x k; unfold sumU; unfold wtU at this; omega
/-- The rows of a list of rules that the call itself made. -/
def OY (w : World) (lo hi : Nat) (A : Option Addr) (n c : Nat) (y : List (List Int)) : Prop :=
  y.length = n * 2 ∧ ∃ rs, w.ownsRow lo 52 2 (.slice A n c) n (List.zipWith rowV rs y) ∧ Rows w lo rs y ∧ (∀ b, blk A = some b → b < hi) ∧ (∀ i, i < rs.length → ∀ b, blk (rs.getD i (none, 0)).1 = some b → b < hi)
theorem OU.oy {w : World} {lo hi : Nat} {A : Option Addr} {n c : Nat} {x : List (List Int × List Int)} (h : OU w lo hi A n c x) : OY w lo hi A n c (flatR x) := by
  obtain ⟨h1, rs, h2⟩ := h
  exact ⟨by rw [flatR_len, h1], rs, h2⟩
theorem OY.row {w : World} {lo hi : Nat} {A : Option Addr} {n c : Nat} {y : List (List Int)} (h : OY w lo hi A n c y) {j : Nat} (hj : j < n * 2) :
    ∃ g A' c', A = some ⟨g, 0, none⟩ ∧ w.cell? ⟨g, j, none⟩ = some (.slice A' (y.getD j []).length c') ∧ OX w lo hi A' (y.getD j []).length c' (y.getD j []) ∧
      (∀ (w' : World) (t' : List Int), t'.length = (y.getD j []).length → OI w' lo A' (y.getD j []).length c' t' → (∀ b, b < w.heap.size → blk A' ≠ some b → w'.heap[b]? = w.heap[b]?) → OY w' lo hi A n c (y.set j t')) := by
  obtain ⟨hl, rs, h2, h3, h4, h5⟩ := h
  have hrl := h3.1
  rcases h2.2 with ⟨_, h0⟩ | ⟨g, cap, cur, hv, hB, _⟩
  · omega
  · simp only [Value.slice.injEq] at hv
    obtain ⟨rfl, _, rfl⟩ := hv
    have hc := h2.cellAt j (by omega)
    have ho := h3.2.1 j (by omega)
    refine ⟨g, (rs.getD j (none, 0)).1, (rs.getD j (none, 0)).2, rfl, ?_, ⟨ho, fun a ha => h5 j (by omega) a.block (by rw [ha]; rfl)⟩, fun w' t' ht ho' hs => ?_⟩
    · rw [hc, List.getElem?_zipWith]
      rw [List.getElem?_eq_getElem (show j < rs.length by omega), List.getElem?_eq_getElem (show j < y.length by omega)]
      simp [rowV, List.getD_eq_getElem?_getD, show j < rs.length by omega, show j < y.length by omega]
    · refine ⟨by simpa using hl, rs, ?_, ⟨by simpa using hrl, fun k hk => ?_, fun i k hik hk => ?_⟩, h4, h5⟩
      · rw [rowV_set ht]
        refine own_same h2 fun b hb => hs b (h2.lt b hb).2 fun e => ?_
        rw [blk_own] at hb
        exact own_ne ho h2 (by decide : (2 : TypeId) ≠ 52) e hb
      · rw [List.length_set] at hk
        rw [getD_set hk]
        by_cases hjk : j = k
        · subst hjk
          rw [if_pos rfl, ht]; exact ho'
        · rw [if_neg hjk]
          refine (h3.2.1 k hk).same fun b hb => hs b (h3.lt (by omega) hb).2 fun e => ?_
          rcases Nat.lt_or_gt_of_ne hjk with hlt | hgt
          · exact h3.2.2 j k hlt hk b e hb
          · exact h3.2.2 k j hgt (by omega) b hb e
      · rw [List.length_set] at hk
        exact h3.2.2 i k hik hk
/-- Rows of the same lengths. -/
def Len2 (y z : List (List Int)) : Prop := z.length = y.length ∧ ∀ i, (z.getD i []).length = (y.getD i []).length
theorem Len2.refl (y : List (List Int)) : Len2 y y := ⟨rfl, fun _ => rfl⟩
theorem Len2.set_ {y z : List (List Int)} (h : Len2 y z) {j : Nat} {t : List Int} (hj : j < z.length) (ht : t.length = (z.getD j []).length) : Len2 y (z.set j t) := by
  refine ⟨by rw [List.length_set]; exact h.1, fun i => ?_⟩
  by_cases hi : i < z.length
  · rw [getD_set hi]
    by_cases hij : j = i
    · subst hij; rw [if_pos rfl, ht]; exact h.2 j
    · rw [if_neg hij]; exact h.2 i
  · have := h.2 i
    rw [← this]
    simp only [List.getD_eq_getElem?_getD]
    rw [List.getElem?_eq_none (by rw [List.length_set]; omega), List.getElem?_eq_none (by omega)]
set_option maxHeartbeats 1000000 in
theorem markSigB_any (lo hi : Nat) (A : Option Addr) (n c : Nat) (xs : List Int) (k : Int) (w : World) (h : OX w lo hi A n c xs) (h0 : 0 ≤ k) (h1 : k + n ≤ 9223372036854775806) :
    Calls Try.prog 32 #[.agg #[.slice A n c], .int .i64 k] w fun e w' => e = .returned (.int .i64 (k + n)) ∧ Only lo hi w w' ∧ (∀ b, b < w.heap.size → blk A ≠ some b → w'.heap[b]? = w.heap[b]?) := by
  have hB0 : Below w.heap.size w (w.alloc (.cells #[.slice A n c] 30)) := (Below.refl _ _).alloc (Nat.le_refl _) _
  go_enter Try.func32, Try.ntmps32
  go_wp2_with fail
  have mk := markOne_any lo hi A n c xs k _ (h.below hB0) h0 h1
  refine mk.mono ?_
  clear mk
  rintro e w1 ⟨rfl, ho, hb, hk⟩
  go_wp2_with fail
  go_ret
  exact ⟨rfl, (Only.of hB0).trans hb, fun b hlt hne => (hk b (by simp; omega) hne).trans (hB0.block b hlt)⟩
set_option maxHeartbeats 2000000 in
set_option maxRecDepth 20000 in
theorem markRuleS_any (lo hi : Nat) (A : Option Addr) (n c : Nat) (x : List (List Int × List Int)) (k : Int) (w : World) (h : OY w lo hi A n c (flatR x)) (hl : x.length = n) (h0 : 0 ≤ k) (h1 : k + (sumU x : Nat) ≤ 9223372036854775806) (hn : n ≤ 1048576) :
    Calls Try.prog 33 #[.slice A n c, .int .i64 k] w fun e w' => e = .returned (.int .i64 (k + (sumU x : Nat))) ∧ Only lo hi w w' := by
  have HO := Lib.hid h
  have HL := Lib.hid hl
  clear h hl
  go_enter Try.func33, Try.ntmps33
  go_wp2_with fail
  go_loopw [1, 5] (fun v i wr => ∃ (j : Nat) (y : List (List Int)), j ≤ n ∧ i = .int .i64 j ∧ v = .int .i64 (k + (lensU x j : Nat)) ∧ Hid (OY wr lo hi A n c y) ∧ Hid (Len2 (flatR x) y) ∧ Only lo hi w wr) (fun _ i _ => n - (intOf i).toNat)
  case atStart => exact ⟨0, flatR x, Nat.zero_le _, rfl, by rw [lensU_zero]; simp, HO, Len2.refl _, Only.refl _ _ _⟩
  case round =>
    obtain ⟨j, y, hj, rfl, rfl, ho, hlen, hb⟩ := hrel
    by_cases hlt : j < n
    · obtain ⟨g, A1, c1, rfl, hc1, hox1, hset1⟩ := ho.out.row (j := j * 2) (by omega)
      have hfl := flatR_at (x := x) (k := j) (by rw [HL.out]; exact hlt)
      have hst := lensU_step (x := x) (k := j) (t := x.getD j ([], [])) (by rw [HL.out]; exact hlt) rfl
      have hle := lensU_sumle x (j + 1)
      have e1 : (y.getD (j * 2) []).length = (x.getD j ([], [])).1.length := by rw [hlen.out.2, hfl.1]
      have e2 : (y.getD (j * 2 + 1) []).length = (x.getD j ([], [])).2.length := by rw [hlen.out.2, hfl.2]
      have hyl : y.length = n * 2 := ho.out.1
      have hrl : rlen (x.getD j ([], [])) = (x.getD j ([], [])).1.length + (x.getD j ([], [])).2.length := rfl
      have HST := Lib.hid hst
      have HE2 := Lib.hid e2
      have HRL := Lib.hid hrl
      rw [e1] at hc1 hox1 hset1
      have HSET := Lib.hid hset1
      have HOX := Lib.hid hox1
      have HLN := Lib.hid (fun t (ht : t.length = (x.getD j ([], [])).1.length) => hlen.out.set_ (j := j * 2) (t := t) (by omega) (by rw [e1]; exact ht))
      have HYL := Lib.hid hyl
      rw [hrl] at hst
      clear hset1 hox1 hfl e1 e2 hyl hrl
      obtain ⟨a, ha⟩ : ∃ a, (x.getD j ([], [])).1.length = a := ⟨_, rfl⟩
      obtain ⟨b, hbb⟩ : ∃ b, (x.getD j ([], [])).2.length = b := ⟨_, rfl⟩
      rw [ha] at hc1 HOX HSET HLN hst HRL
      rw [hbb] at hst HRL HE2
      clear ha hbb
      have j0 : (0 : Int) ≤ (j : Int) := by omega
      have j1 : (j : Int) < (n : Int) := by omega
      go_wp2_with fail
      have mk := markOne_any lo hi A1 a c1 _ (k + (lensU x j : Nat)) wr HOX.out (by omega) (by omega)
      refine mk.mono ?_
      clear mk
      rintro e w1 ⟨rfl, ho1, hq, hs1⟩
      have HO1 := Lib.hid (HSET.out w1 (marks (k + (lensU x j : Nat)) a) (by rw [marks_length]) ho1.1 hs1)
      have HL1 := Lib.hid (HLN.out (marks (k + (lensU x j : Nat)) a) (by rw [marks_length]))
      have hB1 := hb.trans hq
      clear ho ho1 hq hs1 hb hc1 HOX HSET HLN hlen
      obtain ⟨g', A2, c2, hA2, hc2, hox2, hset2⟩ := HO1.out.row (j := j * 2 + 1) (by omega)
      injection hA2 with hA2
      injection hA2 with hA2
      subst hA2
      have e3 : ((y.set (j * 2) (marks (k + (lensU x j : Nat)) a)).getD (j * 2 + 1) []).length = b := by
        rw [getD_set (by rw [HYL.out]; omega), if_neg (by omega)]; exact HE2.out
      rw [e3] at hc2 hox2 hset2
      have HSET2 := Lib.hid hset2
      have HOX2 := Lib.hid hox2
      have HLN2 := Lib.hid (fun t (ht : t.length = b) => HL1.out.set_ (j := j * 2 + 1) (t := t) (by rw [List.length_set, HYL.out]; omega) (by rw [e3]; exact ht))
      clear hset2 hox2 e3
      generalize y.set (j * 2) (marks (k + (lensU x j : Nat)) a) = y2 at *
      go_wp2_with fail
      have mk := markOne_any lo hi A2 b c2 _ (k + (lensU x j : Nat) + a) w1 HOX2.out (by omega) (by omega)
      refine mk.mono ?_
      clear mk
      rintro e w2 ⟨rfl, ho2, hq2, hs2⟩
      have HO2 := Lib.hid (HSET2.out w2 (marks (k + (lensU x j : Nat) + a) b) (by rw [marks_length]) ho2.1 hs2)
      have HL2 := Lib.hid (HLN2.out (marks (k + (lensU x j : Nat) + a) b) (by rw [marks_length]))
      have hB2 := hB1.trans hq2
      clear ho2 hq2 hs2 hB1 hc2
      go_wp2_with fail
      go_roundw
      case rel => exact ⟨j + 1, _, by omega, by go_num, by rw [HST.out, HRL.out]; congr 1; omega, HO2, HL2, hB2⟩
      case measure => simp [intOf]; omega
    · have hjn : j = n := by omega
      subst hjn
      have HS := Lib.hid (lensU_sum HL.out)
      go_wp2_with fail
      go_ret
      exact ⟨ret_int (by rw [HS.out]), hb⟩
set_option maxHeartbeats 2000000 in
theorem toSystem_m (A : Option Addr) (n c : Nat) (xs : List Int) (B : Option Addr) (m d : Nat) (x : List (List Int × List Int)) (w : World) (h : RI w A n xs) (h' : RU w B m x) (hs : n + wtU x ≤ 1048576) :
    Calls Try.prog 7 #[.agg #[.slice A n c, .slice B m d]] w fun e w' => ∃ g1 g2 mid,
      e = .returned (.agg #[.slice (some ⟨g1, 0, none⟩) n n, .slice (some ⟨g2, 0, none⟩) m m]) ∧ OI w' w.heap.size (some ⟨g1, 0, none⟩) n n xs ∧ g1 < mid ∧ w.heap.size ≤ mid ∧ QU w' mid (some ⟨g2, 0, none⟩) m m x ∧ Below w.heap.size w w' := by
  go_enter Try.func7, Try.ntmps7
  go_wp2_with fail
  refine (toSig_any A n c xs _ (((h.alloc _).alloc _).alloc _) (by omega)).mono ?_
  rintro e w1 ⟨g1, rfl, o1, hb1⟩
  have hB : Below w.heap.size w w1 := below_then ((((Below.refl _ _).alloc (Nat.le_refl _) _).alloc (by simp <;> omega) _).alloc (by simp <;> omega) _) hb1 (by simp <;> omega)
  have bk0 : Blk w1 w.heap.size 27 #[.slice A n c, .slice B m d] := (((Blk.new w _ _).alloc _).alloc _).below hb1
  have bk1 : Blk w1 (w.heap.size + 1) 33 #[.slice none 0 0, .slice none 0 0] := (((by have := Blk.new (w.alloc (.cells #[.slice A n c, .slice B m d] 27)) 33 #[.slice none 0 0, .slice none 0 0]; simpa only [World.size_alloc] using this)) : Blk ((w.alloc (.cells #[.slice A n c, .slice B m d] 27)).alloc (.cells #[.slice none 0 0, .slice none 0 0] 33)) (w.heap.size + 1) 33 #[.slice none 0 0, .slice none 0 0]).alloc _ |>.below hb1
  have bk2 : Blk w1 (w.heap.size + 1 + 1) 33 #[.slice none 0 0, .slice none 0 0] := by
    have := (Blk.new ((w.alloc (.cells #[.slice A n c, .slice B m d] 27)).alloc (.cells #[.slice none 0 0, .slice none 0 0] 33)) 33 #[.slice none 0 0, .slice none 0 0]).below hb1
    simpa only [World.size_alloc] using this
  replace o1 : OI w1 (w.heap.size + 1 + 1 + 1) (some ⟨g1, 0, none⟩) n n xs := by simpa only [World.size_alloc] using o1
  clear hb1
  have K0 : ∀ i, w1.cell? ⟨w.heap.size, i, none⟩ = #[.slice A n c, .slice B m d][i]? := fun i => bk0.cell i
  have c2 : w1.cell? ⟨w.heap.size + 1 + 1, 0, none⟩ = some (.slice none 0 0) := by have := bk2.cell 0; simpa using this
  have f2 : w1.frozen? ⟨w.heap.size + 1 + 1, 0, none⟩ = false := bk2.frozen 0
  have hlt := bk2.lt
  go_wp2_with fail
  clear K0 c2 f2
  replace bk0 := bk0.far (p := ⟨w.heap.size + 1 + 1, 0, none⟩) (by simp <;> omega) (.slice (some ⟨g1, 0, none⟩) n n)
  replace bk1 := bk1.far (p := ⟨w.heap.size + 1 + 1, 0, none⟩) (by simp <;> omega) (.slice (some ⟨g1, 0, none⟩) n n)
  replace bk2 := bk2.set_ 0 (.slice (some ⟨g1, 0, none⟩) n n)
  replace hB := hB.setCell (p := ⟨w.heap.size + 1 + 1, 0, none⟩) (by simp <;> omega) (.slice (some ⟨g1, 0, none⟩) n n)
  replace o1 := o1.setBelow (p := ⟨w.heap.size + 1 + 1, 0, none⟩) (by simp <;> omega) (.slice (some ⟨g1, 0, none⟩) n n)
  clear hlt
  generalize w1.setCell ⟨w.heap.size + 1 + 1, 0, none⟩ (.slice (some ⟨g1, 0, none⟩) n n) = W0 at *
  refine (toRuleS_any B m d x _ (h'.below hB) (by omega)).mono ?_
  rintro e w2 ⟨g2, rfl, o2, hb1⟩
  have hmid : g1 < W0.heap.size := (World.ownsRow.lt o1 g1 rfl).2
  have hmid2 : w.heap.size + 1 + 1 < W0.heap.size := bk2.lt
  obtain ⟨mid, hme⟩ : ∃ mid, W0.heap.size = mid := ⟨_, rfl⟩
  rw [hme] at o2 hmid hmid2
  clear hme
  replace o1 := o1.below hb1
  replace bk0 := bk0.below hb1
  replace bk1 := bk1.below hb1
  replace bk2 := bk2.below hb1
  replace hB := below_then hB hb1 hB.size
  clear hb1
  simp only [List.setIfInBounds_toArray, List.set_cons_zero] at bk2
  have K1 : ∀ i, w2.cell? ⟨w.heap.size + 1, i, none⟩ = #[.slice none 0 0, .slice none 0 0][i]? := fun i => bk1.cell i
  have K2 : ∀ i, w2.cell? ⟨w.heap.size + 1 + 1, i, none⟩ = #[.slice (some ⟨g1, 0, none⟩) n n, .slice none 0 0][i]? := fun i => bk2.cell i
  have F1 : ∀ i, w2.frozen? ⟨w.heap.size + 1, i, none⟩ = false := fun i => bk1.frozen i
  have F2 : ∀ i, w2.frozen? ⟨w.heap.size + 1 + 1, i, none⟩ = false := fun i => bk2.frozen i
  have hlt := bk2.lt
  have HO2 := Lib.hid o2
  clear o2
  go_wp2_with fail
  refine bodyPost_ret (v := .agg #[.slice (some ⟨g1, 0, none⟩) n n, .slice (some ⟨g2, 0, none⟩) m m]) (by simp [results, Try.results7, go_sem, K1]) rfl ⟨g1, g2, mid, rfl, ?_, hmid, by omega, ?_, ?_⟩
  · refine OI.base (B := w.heap.size + 1 + 1 + 1) ?_ (by omega)
    repeat (first | exact o1 | refine OI.setBelow ?_ (by simp <;> omega) _)
  · repeat (first | exact HO2.out | refine QU.set_ ?_ (by simp <;> omega) _)
  · repeat (first | exact hB | refine Below.setCell ?_ (by simp <;> omega) _)
theorem OY.same {w w' : World} {lo hi : Nat} {A : Option Addr} {n c : Nat} {y : List (List Int)} (h : OY w lo hi A n c y) (hs : ∀ b, lo ≤ b → b < w.heap.size → w'.heap[b]? = w.heap[b]?) : OY w' lo hi A n c y := by
  obtain ⟨h1, rs, h2, h3, h4, h5⟩ := h
  exact ⟨h1, rs, own_same h2 fun b hb => hs b (h2.lt b hb).1 (h2.lt b hb).2, h3.same fun i hi b hb => hs b (h3.lt hi hb).1 (h3.lt hi hb).2, h4, h5⟩
set_option maxHeartbeats 1000000 in
set_option maxRecDepth 20000 in
theorem markSystem_any (lo mid hi : Nat) (A : Option Addr) (n c : Nat) (xs : List Int) (B : Option Addr) (m d : Nat) (x : List (List Int × List Int)) (k : Int) (w : World) (h : OX w lo hi A n c xs) (h' : OU w mid hi B m d x) (hA : ∀ b, blk A = some b → b < mid) (hlo : lo ≤ mid) (h0 : 0 ≤ k) (h1 : k + ((n + sumU x : Nat) : Int) ≤ 9223372036854775806) (hm : m ≤ 1048576) :
    Calls Try.prog 11 #[.agg #[.slice A n c, .slice B m d], .int .i64 k] w fun e w' => e = .returned (.int .i64 (k + ((n + sumU x : Nat) : Int))) ∧ True ∧ True ∧ Only lo hi w w' := by
  have hB0 : Below w.heap.size w (w.alloc (.cells #[.slice A n c, .slice B m d] 33)) := (Below.refl _ _).alloc (Nat.le_refl _) _
  have b1 : (w.alloc (.cells #[.slice A n c, .slice B m d] 33)).cell? ⟨w.heap.size, 1, none⟩ = some (.slice B m d) := by simp
  have hX := Lib.hid (h.below hB0)
  have hl := h'.1
  have hY := Lib.hid (h'.below hB0).oy
  have hlA : ∀ b, blk A = some b → b < w.heap.size := fun b e => (h.1.lt_ e).2
  have HA := Lib.hid hA
  clear hA h h'
  go_enter Try.func11, Try.ntmps11
  go_wp2_with fail
  have mk := markSigB_any lo hi A n c xs k _ hX.out h0 (by omega)
  refine mk.mono ?_
  clear mk
  rintro e w1 ⟨rfl, ho1, hk1⟩
  have c1 : w1.cell? ⟨w.heap.size, 1, none⟩ = some (.slice B m d) := (World.cell?_of_block (hk1 w.heap.size (by simp) (fun e => by have := hlA _ e; omega))).trans b1
  have hY1 := Lib.hid (hY.out.same (w' := w1) fun b hb hlt => hk1 b hlt fun e => by have := HA.out b e; omega)
  clear b1 hX hY hk1
  go_wp2_with fail
  have mk := markRuleS_any mid hi B m d x (k + n) w1 hY1.out hl (by omega) (by omega) hm
  refine mk.mono ?_
  clear mk
  rintro e w2 ⟨rfl, ho2⟩
  go_wp2_with fail
  go_ret
  exact ⟨ret_int (by omega), trivial, trivial, ((Only.of hB0).trans ho1).trans (ho2.wide hlo (Nat.le_refl _))⟩
end Go.Proofs.Ytcjgcopkeeiicaa
