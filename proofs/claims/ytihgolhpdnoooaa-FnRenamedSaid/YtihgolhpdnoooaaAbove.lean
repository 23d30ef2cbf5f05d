/- Contracts: AboveOf; SymPlaces. -/
import Derived.Test.YtihgolhpdnoooaaArgs
namespace Go.Proofs.Ytihgolhpdnoooaa
open Go.RowKit
set_option linter.unusedVariables false

/-- The places below k that pass. -/
def upto (f : Nat → Bool) (k : Nat) : List Nat := (List.range k).filter f
theorem upto_yes {f : Nat → Bool} {k : Nat} (h : f k = true) : upto f (k + 1) = upto f k ++ [k] := by
  unfold upto; rw [List.range_succ, List.filter_append]; simp [h]
theorem upto_no {f : Nat → Bool} {k : Nat} (h : f k = false) : upto f (k + 1) = upto f k := by
  unfold upto; rw [List.range_succ, List.filter_append]; simp [h]
theorem upto_len (f : Nat → Bool) (k : Nat) : (upto f k).length ≤ k := by
  unfold upto
  have := List.length_filter_le f (List.range k)
  rwa [List.length_range] at this
def V_AboveOf (xs t : List Int) (p : Int) : List Int := if Pl.posOk xs t p then nats (upto (fun k => Pl.holds (Pl.ari xs) t k p.toNat) p.toNat) else []
theorem aboveOf_no {xs t : List Int} {p : Int} (h : Pl.posOk xs t p = false) : V_AboveOf xs t p = [] := by unfold V_AboveOf; rw [h]; rfl
theorem aboveOf_yes {xs t : List Int} {q : Nat} (h : Pl.posOk xs t q = true) : V_AboveOf xs t q = nats (upto (fun k => Pl.holds (Pl.ari xs) t k q) q) := by unfold V_AboveOf; rw [h]; rfl
theorem bd_AboveOf (xs t : List Int) (p : Int) : (V_AboveOf xs t p).length ≤ 60 := by
  unfold V_AboveOf
  split
  · rename_i h
    obtain ⟨h1, h2, h3⟩ := Pl.posOk_iff.1 h
    have h4 := (Pl.termOk_iff.1 h1).2.1
    have := upto_len (fun k => Pl.holds (Pl.ari xs) t k p.toNat) p.toNat
    rw [nats_length]; omega
  · simp
set_option maxHeartbeats 2000000 in
set_option maxRecDepth 20000 in
theorem I_AboveOf (A : Option Addr) (n c : Nat) (xs : List Int) (B : Option Addr) (m d : Nat) (t : List Int) (p : Int) (w : World) (h : RI w A n xs) (h' : RI w B m t) (hn : n ≤ 1048576) (hm : m ≤ 1048576) :
    Calls Try.prog 40 #[.agg #[.slice A n c], .slice B m d, .int .i64 p] w fun e w' => ∃ A' c', e = .returned (.slice A' (V_AboveOf xs t p).length c') ∧ OI w' w.heap.size A' (V_AboveOf xs t p).length c' (V_AboveOf xs t p) ∧ Below w.heap.size w w' := by
  have hl := h'.1
  obtain ⟨i0, hi, hz0, hz1, hz2⟩ := info_parts infoInt64
  cases hs : Pl.posOk xs t p
  · have HE := aboveOf_no hs
    rw [HE]
    clear hl HE
    go_enter Try.func40, Try.ntmps40
    go_wp2_with fail
    refine (posOk_ok A n c xs B m d t p _ (h.alloc _) (h'.alloc _) hn hm).mono ?_
    rintro e w1 ⟨rfl, hb1⟩
    have hB : Below w.heap.size w w1 := below_then ((Below.refl _ _).alloc (Nat.le_refl _) _) hb1 (by simp)
    have bx : w1.cell? ⟨w.heap.size, 0, none⟩ = some (.slice A n c) := (hb1.cell (by simp)).trans (by simp)
    replace h := (h.alloc _).below hb1
    replace h' := (h'.alloc _).below hb1
    clear hb1
    go_wp2_with fail
    go_ret
    exact ⟨none, 0, rfl, World.ownsRow_nil _ _ _ _, hB⟩
  · obtain ⟨q, rfl, hq, hT⟩ := Pl.posOk_nat hs
    rw [hl] at hq
    have HE := aboveOf_yes hs
    rw [HE, nats_length]
    have hul := fun k => upto_len (fun k => Pl.holds (Pl.ari xs) t k q) k
    have hq60 : q ≤ 60 := by have := (Pl.termOk_iff.1 hT).2.1; omega
    have HT := Lib.hid hT
    clear hl hT HE
    generalize hf : (fun k => Pl.holds (Pl.ari xs) t k q) = f at *
    have HF : ∀ k, Hid (Pl.holds (Pl.ari xs) t k q = f k) := fun k => by rw [← hf]; exact Lib.hid rfl
    clear hf
    go_enter Try.func40, Try.ntmps40
    go_wp2_with fail
    refine (posOk_ok A n c xs B m d t q _ (h.alloc _) (h'.alloc _) hn hm).mono ?_
    rintro e w1 ⟨rfl, hb1⟩
    have hB : Below w.heap.size w w1 := below_then ((Below.refl _ _).alloc (Nat.le_refl _) _) hb1 (by simp)
    have bx : w1.cell? ⟨w.heap.size, 0, none⟩ = some (.slice A n c) := (hb1.cell (by simp)).trans (by simp)
    replace h := (h.alloc _).below hb1
    replace h' := (h'.alloc _).below hb1
    clear hb1
    have hsz : w.heap.size < w1.heap.size := World.block_lt_of_cell? w1 _ bx
    go_wp2_with fail
    go_loopw [7, 15, 8] (fun u i _ wr => ∃ (k : Nat) (A' : Option Addr) (c' : Nat), k ≤ q ∧ i = .int .i64 k ∧ u = .slice A' (upto f k).length c' ∧ Hid (OI wr w1.heap.size A' (upto f k).length c' (nats (upto f k))) ∧ Below w1.heap.size w1 wr ∧ wr.cell? ⟨w.heap.size, 0, none⟩ = some (.slice A n c)) (fun _ i _ _ => q - (intOf i).toNat)
    case atStart => exact ⟨0, none, 0, Nat.zero_le _, rfl, rfl, World.ownsRow_nil _ _ _ _, Below.refl _ _, bx⟩
    case round =>
      obtain ⟨k, A', c', hk, rfl, rfl, ho2, hB2, hbx2⟩ := hrel
      have hsz2 := hB2.size
      by_cases hlt : k < q
      · have huk := hul k
        have hlt' : (k : Int) < (q : Int) := by omega
        go_wp2_with fail
        refine (inside_any A n c xs B m d t k q _ (h.below hB2) (h'.below hB2) HT.out (by omega) hm).mono ?_
        rintro e w3 ⟨rfl, hb3⟩
        rw [(HF k).out]
        replace ho2 : Hid (OI w3 w1.heap.size A' (upto f k).length c' (nats (upto f k))) := ho2.out.below hb3
        replace hbx2 := keepC hb3 hbx2
        replace hB2 := below_then hB2 hb3 (by omega)
        replace hsz2 := hB2.size
        clear hb3
        cases hfk : f k
        · have HU := Lib.hid (upto_no hfk)
          go_wp2_with fail
          go_roundw
          case rel => exact ⟨k + 1, A', c', by omega, by go_num, by rw [HU.out], by rw [HU.out]; exact ho2, hB2, hbx2⟩
          case measure => simp [intOf]; omega
        · have HU := Lib.hid (upto_yes hfk)
          have howa := Lib.hid (ownsRow_below ho2.out ((Below.refl _ w3).alloc (Nat.le_refl _) (.cells #[.int .i64 k] 2)))
          clear hfk
          generalize upto f k = l at *
          have hll : l.length ≤ 60 := by omega
          go_wp2_with (at_builtin; refine wpList_append_any rfl _ _ 24 rfl w1.heap.size 2 i0 (.int .i64 0) 1 8 Try.underlying24 hi hz0 hz1 hz2 rfl (by omega) A' l.length c' ((nats l).map (Value.int .i64)) rfl howa.out _ 1 _ [.int .i64 k] rfl (Src.new _ [.int .i64 k] _ 1 1 rfl (by simp [Value.oneCell'])) (by unfold maxLen; omega) (by omega) (by simp; omega) ?_; intro A3 c3 w4 ho3 hg hnil; have hgb := app_below hg howa.out (by omega); (have hbx3 := (hgb.cell (p := ⟨w.heap.size, 0, none⟩) hsz).trans hbx2))
          have hb3 := hB2.trans (hgb.mono (by omega))
          have hO3 := Lib.hid (oi_nats ho3)
          clear hgb howa ho2 ho3 hg hB2 hbx2
          go_roundw
          case rel => exact ⟨k + 1, A3, c3, by omega, by go_num, by rw [HU.out]; simp, by rw [HU.out]; exact hO3, hb3, hbx3⟩
          case measure => simp [intOf]; omega
      · have hkq : k = q := by omega
        subst hkq
        go_wp2_with fail
        go_ret
        exact ⟨A', c', rfl, ho2.out.base (by omega), below_then hB hB2 hB.size⟩
def V_SymPlaces (xs t : List Int) : List Int := if Pl.termOk xs t then nats (upto (fun k => decide (0 ≤ t.getD k 0)) t.length) else []
theorem symPlaces_no {xs t : List Int} (h : Pl.termOk xs t = false) : V_SymPlaces xs t = [] := by unfold V_SymPlaces; rw [h]; rfl
theorem symPlaces_yes {xs t : List Int} (h : Pl.termOk xs t = true) : V_SymPlaces xs t = nats (upto (fun k => decide (0 ≤ t.getD k 0)) t.length) := by unfold V_SymPlaces; rw [h]; rfl
theorem bd_SymPlaces (xs t : List Int) : (V_SymPlaces xs t).length ≤ 60 := by
  unfold V_SymPlaces
  split
  · rename_i h
    have h4 := (Pl.termOk_iff.1 h).2.1
    have := upto_len (fun k => decide (0 ≤ t.getD k 0)) t.length
    rw [nats_length]; omega
  · simp
set_option maxHeartbeats 2000000 in
set_option maxRecDepth 20000 in
theorem I_SymPlaces (A : Option Addr) (n c : Nat) (xs : List Int) (B : Option Addr) (m d : Nat) (t : List Int) (w : World) (h : RI w A n xs) (h' : RI w B m t) (hn : n ≤ 1048576) (hm : m ≤ 1048576) :
    Calls Try.prog 17 #[.agg #[.slice A n c], .slice B m d] w fun e w' => ∃ A' c', e = .returned (.slice A' (V_SymPlaces xs t).length c') ∧ OI w' w.heap.size A' (V_SymPlaces xs t).length c' (V_SymPlaces xs t) ∧ Below w.heap.size w w' := by
  have hl := h'.1
  obtain ⟨i0, hi, hz0, hz1, hz2⟩ := info_parts infoInt64
  cases hs : Pl.termOk xs t
  · have HE := symPlaces_no hs
    rw [HE]
    have HS := Lib.hid hs
    clear hl HE hs
    go_enter Try.func17, Try.ntmps17
    go_wp2_with fail
    refine (implTermOk_any A n c xs B m d t _ (h.alloc _) (h'.alloc _) (by omega) (by omega)).mono ?_
    rintro e w1 ⟨rfl, hb1⟩
    rw [HS.out]
    have hB : Below w.heap.size w w1 := below_then ((Below.refl _ _).alloc (Nat.le_refl _) _) hb1 (by simp)
    have bx : w1.cell? ⟨w.heap.size, 0, none⟩ = some (.slice A n c) := (hb1.cell (by simp)).trans (by simp)
    replace h := (h.alloc _).below hb1
    replace h' := (h'.alloc _).below hb1
    clear hb1
    go_wp2_with fail
    go_ret
    exact ⟨none, 0, rfl, World.ownsRow_nil _ _ _ _, hB⟩
  · have HE := symPlaces_yes hs
    rw [hl] at HE
    rw [HE, nats_length]
    have hul := fun k => upto_len (fun k => decide (0 ≤ t.getD k 0)) k
    have hq60 : m ≤ 60 := by have := (Pl.termOk_iff.1 hs).2.1; omega
    have HS := Lib.hid hs
    clear hl HE hs
    generalize hf : (fun k => decide (0 ≤ t.getD k 0)) = f at *
    have HF : ∀ k, Hid (decide (0 ≤ t.getD k 0) = f k) := fun k => by rw [← hf]; exact Lib.hid rfl
    clear hf
    go_enter Try.func17, Try.ntmps17
    go_wp2_with fail
    refine (implTermOk_any A n c xs B m d t _ (h.alloc _) (h'.alloc _) (by omega) (by omega)).mono ?_
    rintro e w1 ⟨rfl, hb1⟩
    rw [HS.out]
    have hB : Below w.heap.size w w1 := below_then ((Below.refl _ _).alloc (Nat.le_refl _) _) hb1 (by simp)
    have bx : w1.cell? ⟨w.heap.size, 0, none⟩ = some (.slice A n c) := (hb1.cell (by simp)).trans (by simp)
    replace h := (h.alloc _).below hb1
    replace h' := (h'.alloc _).below hb1
    clear hb1
    go_wp2_with fail
    go_loopw [5, 14, 6, 7] (fun u i _ _ wr => ∃ (k : Nat) (A' : Option Addr) (c' : Nat), k ≤ m ∧ i = .int .i64 k ∧ u = .slice A' (upto f k).length c' ∧ Hid (OI wr w1.heap.size A' (upto f k).length c' (nats (upto f k))) ∧ Below w1.heap.size w1 wr) (fun _ i _ _ _ => m - (intOf i).toNat)
    case atStart => exact ⟨0, none, 0, Nat.zero_le _, rfl, rfl, World.ownsRow_nil _ _ _ _, Below.refl _ _⟩
    case round =>
      obtain ⟨k, A', c', hk, rfl, rfl, ho2, hB2⟩ := hrel
      have hsz2 := hB2.size
      by_cases hlt : k < m
      · have huk := hul k
        have hlt' : (k : Int) < (m : Int) := by omega
        obtain ⟨g, off, x, rfl, hc, hx⟩ := (h'.below hB2).at_ hlt
        have hfx := (HF k).out
        rw [← hx.out] at hfx
        clear hx
        cases hfk : f k
        · have HU := Lib.hid (upto_no hfk)
          have hx0 : ¬ (0 : Int) ≤ x := by rw [hfk] at hfx; simpa using hfx
          clear hfx
          go_wp2_with fail
          go_roundw
          case rel => exact ⟨k + 1, A', c', by omega, by go_num, by rw [HU.out], by rw [HU.out]; exact ho2, hB2⟩
          case measure => simp [intOf]; omega
        · have HU := Lib.hid (upto_yes hfk)
          have hx0 : (0 : Int) ≤ x := by rw [hfk] at hfx; simpa using hfx
          clear hfx
          have howa := Lib.hid (ownsRow_below ho2.out ((Below.refl _ wr).alloc (Nat.le_refl _) (.cells #[.int .i64 k] 2)))
          clear hfk
          generalize upto f k = l at *
          have hll : l.length ≤ 60 := by omega
          go_wp2_with (at_builtin; refine wpList_append_any rfl _ _ 24 rfl w1.heap.size 2 i0 (.int .i64 0) 1 8 Try.underlying24 hi hz0 hz1 hz2 rfl (by omega) A' l.length c' ((nats l).map (Value.int .i64)) rfl howa.out _ 1 _ [.int .i64 k] rfl (Src.new _ [.int .i64 k] _ 1 1 rfl (by simp [Value.oneCell'])) (by unfold maxLen; omega) (by omega) (by simp; omega) ?_; intro A3 c3 w4 ho3 hg hnil; have hgb := app_below hg howa.out (by omega))
          have hb3 := hB2.trans (hgb.mono (by omega))
          have hO3 := Lib.hid (oi_nats ho3)
          clear hgb howa ho2 ho3 hg hB2
          go_roundw
          case rel => exact ⟨k + 1, A3, c3, by omega, by go_num, by rw [HU.out]; simp, by rw [HU.out]; exact hO3, hb3⟩
          case measure => simp [intOf]; omega
      · have hkq : k = m := by omega
        subst hkq
        go_wp2_with fail
        go_ret
        exact ⟨A', c', rfl, ho2.out.base hB.size, below_then hB hB2 hB.size⟩
end Go.Proofs.Ytihgolhpdnoooaa
