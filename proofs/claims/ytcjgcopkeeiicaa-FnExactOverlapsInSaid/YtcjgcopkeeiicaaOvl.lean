/- Contracts: the places at which rules overlap, the program's way. -/
import Derived.Test.YtcjgcopkeeiicaaOver
namespace Go.Proofs.Ytcjgcopkeeiicaa
open Go.RowKit
set_option linter.unusedVariables false
set_option linter.unusedSimpArgs false

/-- Can a place of l and l2 be made the same? -/
noncomputable def mtB (xs l l2 : List Int) (q : Nat) : Bool := @decide (Un.Meets (Pl.nxt xs) (Pl.sub (Pl.nxt xs) l q) (l2.map (sh 24))) (Classical.propDecidable _)
theorem mtB_yes {xs l l2 : List Int} {q : Nat} (h : Un.Meets (Pl.nxt xs) (Pl.sub (Pl.nxt xs) l q) (l2.map (sh 24))) : mtB xs l l2 q = true := by
  unfold mtB
  exact @decide_eq_true _ (Classical.propDecidable _) h
theorem mtB_no {xs l l2 : List Int} {q : Nat} (h : ¬ Un.Meets (Pl.nxt xs) (Pl.sub (Pl.nxt xs) l q) (l2.map (sh 24))) : mtB xs l l2 q = false := by
  unfold mtB
  exact @decide_eq_false _ (Classical.propDecidable _) h
noncomputable def ovB (xs l l2 : List Int) (same : Bool) (q : Nat) : Bool := decide (0 ≤ l.getD q 0) && !(same && decide (q = 0)) && mtB xs l l2 q
noncomputable def ovTo (xs l l2 : List Int) (same : Bool) (k : Nat) : List Nat := (List.range k).filter (ovB xs l l2 same)
theorem ovTo_zero (xs l l2 : List Int) (same : Bool) : ovTo xs l l2 same 0 = [] := rfl
theorem ovTo_yes {xs l l2 : List Int} {same : Bool} {k : Nat} (h : ovB xs l l2 same k = true) : ovTo xs l l2 same (k + 1) = ovTo xs l l2 same k ++ [k] := by
  unfold ovTo; rw [List.range_succ, List.filter_append]; simp [h]
theorem ovTo_no {xs l l2 : List Int} {same : Bool} {k : Nat} (h : ovB xs l l2 same k = false) : ovTo xs l l2 same (k + 1) = ovTo xs l l2 same k := by
  unfold ovTo; rw [List.range_succ, List.filter_append]; simp [h]
theorem ovTo_len (xs l l2 : List Int) (same : Bool) (k : Nat) : (ovTo xs l l2 same k).length ≤ k := by
  unfold ovTo; exact Nat.le_trans (List.length_filter_le _ _) (by simp)
theorem ovB_var {xs l l2 : List Int} {same : Bool} {q : Nat} (h : l.getD q 0 < 0) : ovB xs l l2 same q = false := by unfold ovB; rw [decide_eq_false (by omega)]; rfl
theorem ovB_self {xs l l2 : List Int} : ovB xs l l2 true 0 = false := by unfold ovB; simp
theorem ovB_mt {xs l l2 : List Int} {same : Bool} {q : Nat} (h : ¬ l.getD q 0 < 0) (hs : (same && decide (q = 0)) = false) : ovB xs l l2 same q = mtB xs l l2 q := by unfold ovB; rw [decide_eq_true (by omega), hs]; rfl
noncomputable def V_OverlapsIn (xs : List Int) (x : List (List Int × List Int)) (p q : Int) : List Int :=
  if systemOk xs x && inB p 0 ((x.length : Int) - 1) && inB q 0 ((x.length : Int) - 1) then nats (ovTo xs (x.getD p.toNat ([], [])).1 (x.getD q.toNat ([], [])).1 (decide (p = q)) (x.getD p.toNat ([], [])).1.length) else []
theorem overlapsIn_no {xs : List Int} {x : List (List Int × List Int)} {p q : Int} (h : (systemOk xs x && inB p 0 ((x.length : Int) - 1) && inB q 0 ((x.length : Int) - 1)) = false) : V_OverlapsIn xs x p q = [] := by unfold V_OverlapsIn; rw [h]; rfl
theorem overlapsIn_yes {xs : List Int} {x : List (List Int × List Int)} {over under : Nat} {l r l2 r2 : List Int} (h : systemOk xs x = true) (h1 : over < x.length) (h2 : under < x.length) (hl : (l, r) = x.getD over ([], [])) (hl2 : (l2, r2) = x.getD under ([], [])) :
    V_OverlapsIn xs x over under = nats (ovTo xs l l2 (decide (over = under)) l.length) := by
  unfold V_OverlapsIn
  rw [h, inB_mk (by omega), inB_mk (by omega), Int.toNat_natCast, Int.toNat_natCast, ← hl, ← hl2]
  have : decide ((over : Int) = (under : Int)) = decide (over = under) := by rw [Bool.eq_iff_iff]; simp only [decide_eq_true_eq]; omega
  rw [this]
  rfl
theorem bd_OverlapsIn (xs : List Int) (x : List (List Int × List Int)) (p q : Int) : (V_OverlapsIn xs x p q).length ≤ 60 := by
  unfold V_OverlapsIn
  split
  · rename_i h
    simp only [Bool.and_eq_true] at h
    obtain ⟨⟨h0, h1⟩, h2⟩ := h
    have h1' := inB_true h1
    obtain ⟨_, _, hr⟩ := systemOk_iff.1 h0
    have h3 := hr p.toNat (by omega)
    rw [nats_length]
    have := ovTo_len xs (x.getD p.toNat ([], [])).1 (x.getD q.toNat ([], [])).1 (decide (p = q)) (x.getD p.toNat ([], [])).1.length
    have h4 : Pl.termOk xs (x.getD p.toNat ([], [])).1 = true := by unfold ruleOk at h3; simp only [Bool.and_eq_true] at h3; exact h3.1.1.1
    have := (Pl.termOk_iff.1 h4).2.1
    omega
  · simp
theorem rule_term {xs l r : List Int} (h : ruleOk xs l r = true) : Pl.termOk xs l = true ∧ Pl.termOk xs r = true := by
  unfold ruleOk at h; simp only [Bool.and_eq_true] at h; exact ⟨h.1.1.1, h.1.1.2⟩
theorem sys_rule {xs : List Int} {x : List (List Int × List Int)} {k : Nat} {l r : List Int} (h : systemOk xs x = true) (hk : k < x.length) (hl : (l, r) = x.getD k ([], [])) : ruleOk xs l r = true := by
  have := (systemOk_iff.1 h).2.2 k hk
  rw [← hl] at this
  exact this
theorem ruleIn_any (A : Option Addr) (n c : Nat) (B : Option Addr) (m d : Nat) (k : Int) (w : World) :
    Calls Try.prog 27 #[.agg #[.slice A n c, .slice B m d], .int .i64 k] w fun e w' => e = .returned (.bool (inB k 0 ((m : Int) - 1))) ∧ Below w.heap.size w w' := by
  by_cases h0 : 0 ≤ k
  · have e0 : decide (0 ≤ k) = true := by simpa using h0
    have HE : Hid (decide (k < m) = inB k 0 ((m : Int) - 1)) := Lib.hid (by unfold inB; rw [Bool.eq_iff_iff]; simp; omega)
    go_enter Try.func27, Try.ntmps27
    go_wp2_with fail
    go_ret
    exact ⟨ret_bool HE.out, (Below.refl _ _).alloc (Nat.le_refl _) _⟩
  · have e0 : decide (0 ≤ k) = false := by simpa using h0
    have HE : Hid (inB k 0 ((m : Int) - 1) = false) := Lib.hid (inB_no (by omega))
    go_enter Try.func27, Try.ntmps27
    go_wp2_with fail
    go_ret
    exact ⟨ret_bool HE.out.symm, (Below.refl _ _).alloc (Nat.le_refl _) _⟩
set_option maxHeartbeats 1000000 in
set_option maxRecDepth 20000 in
theorem wide_any (A : Option Addr) (n c : Nat) (t : List Int) (w : World) (h : RI w A n t) (hn : n ≤ 60) :
    Calls Try.prog 28 #[.slice A n c] w fun e w' => ∃ A' c', e = .returned (.slice A' n c') ∧ OI w' w.heap.size A' n c' t ∧ Below w.heap.size w w' := by
  obtain ⟨i0, hi, hz0, hz1, hz2⟩ := info_parts infoInt64
  have hl := Lib.hid h.1
  go_enter Try.func28, Try.ntmps28
  go_wp2_with fail
  go_loopw [3, 8] (fun u i wr => ∃ (j : Nat) (A' : Option Addr) (c' : Nat), j ≤ n ∧ i = .int .i64 j ∧ u = .slice A' j c' ∧ Hid (OI wr w.heap.size A' j c' (t.take j)) ∧ Below w.heap.size w wr) (fun _ i _ => n - (intOf i).toNat)
  case atStart => exact ⟨0, _, _, Nat.zero_le _, rfl, rfl, Lib.hid (by rw [List.take_zero]; exact World.ownsRow_nil _ _ _ _), Below.refl _ _⟩
  case round =>
    obtain ⟨j, A', c', hj, rfl, rfl, ho, hb⟩ := hrel
    by_cases hlt : j < n
    · obtain ⟨g, off, x, rfl, hc, hx⟩ := (h.below hb).at_ hlt
      have HM := Lib.hid (take_snocI (by rw [hl.out]; exact hlt) hx.out)
      have hsz := hb.size
      clear hx
      have howa := Lib.hid (ownsRow_below ho.out ((Below.refl _ wr).alloc (Nat.le_refl _) (.cells #[.int .i64 x] 2)))
      go_wp2_with (at_builtin; refine wpList_append_any rfl _ _ 22 rfl w.heap.size 2 i0 (.int .i64 0) 1 8 Try.underlying22 hi hz0 hz1 hz2 rfl (by omega) A' j c' ((t.take j).map (Value.int .i64)) rfl howa.out _ 1 _ [.int .i64 x] rfl (Src.new _ [.int .i64 x] _ 1 1 rfl (by simp [Value.oneCell'])) (by unfold maxLen; omega) (by omega) (by simp; omega) ?_; intro A2 c2 w2 ho2 hg hnil; have hgb := app_below hg howa.out hsz)
      have hb2 := hb.trans hgb
      have hO2 : Hid (OI w2 w.heap.size A2 (j + 1) c2 (t.take (j + 1))) := Lib.hid (by rw [HM.out]; unfold OI; rw [List.map_append]; exact ho2)
      clear hgb howa ho ho2 hg hb
      go_roundw
      case rel => exact ⟨j + 1, A2, c2, by omega, by go_num, rfl, hO2, hb2⟩
      case measure => simp [intOf]; omega
    · have hjm : j = n := by omega
      subst hjm
      have HE : Hid (OI wr w.heap.size A' j c' t) := by have := ho.out; rw [List.take_of_length_le (by rw [hl.out]; exact Nat.le_refl _)] at this; exact Lib.hid this
      go_wp2_with fail
      go_ret
      exact ⟨A', c', rfl, HE.out, hb⟩
/-- What a try to bring two rules together tells. -/
def OvB (w : World) (b : Bool) (e : Ending) (w' : World) : Prop := Below w.heap.size w w' ∧ ∃ v, e = .returned (.tuple #[v, .bool b])
theorem ovD_b {T : TypeId} {sg : Value} {w w' : World} {xs l l2 : List Int} {q : Nat} {e : Ending} (h : OvD T sg w (Pl.nxt xs) (Pl.sub (Pl.nxt xs) l q) (l2.map (sh 24)) e w') : OvB w (mtB xs l l2 q) e w' := by
  obtain ⟨h1, U, _, _, ⟨w0, B', rfl, _, _, _, _, hd⟩ | ⟨rfl, hn⟩⟩ := h
  · exact ⟨h1, _, by rw [mtB_yes hd.meets]⟩
  · exact ⟨h1, _, by rw [mtB_no hn]⟩
theorem overlap_b (A : Option Addr) (n c : Nat) (xs : List Int) (B : Option Addr) (m d : Nat) (x : List (List Int × List Int)) (over q under : Nat) (l r l2 r2 : List Int) (w : World)
    (h : RI w A n xs) (h' : RU w B m x) (hs : Pl.sigOk xs = true) (hov : over < m) (hun : under < m) (hl : (l, r) = x.getD over ([], [])) (hl2 : (l2, r2) = x.getD under ([], [])) (T1 : Pl.termOk xs l = true) (T2 : Pl.termOk xs l2 = true) (hq : q < l.length) (h0 : 0 ≤ l.getD q 0) :
    Calls Try.prog 46 #[.agg #[.slice A n c, .slice B m d], .int .i64 over, .int .i64 q, .int .i64 under] w (OvB w (ovB xs l l2 (decide (over = under)) q)) := by
  by_cases hne : over = under ∧ q = 0
  · obtain ⟨rfl, rfl⟩ := hne
    refine (overlap_self _ _ over w).mono ?_
    rintro e w' ⟨rfl, hb⟩
    exact ⟨hb, _, by rw [decide_eq_true rfl, ovB_self]⟩
  · refine (overlap_any A n c xs B m d x over q under l r l2 r2 w h h' hs hov hun hl hl2 T1 T2 hq hne).mono ?_
    intro e w' he
    rw [ovB_mt (by omega) (by rw [Bool.and_eq_false_iff]; simp only [decide_eq_false_iff_not]; omega)]
    exact ovD_b he
set_option maxHeartbeats 2000000 in
set_option maxRecDepth 20000 in
theorem overlaps_any (A : Option Addr) (n c : Nat) (xs : List Int) (B : Option Addr) (m d : Nat) (x : List (List Int × List Int)) (over under : Nat) (l r l2 r2 : List Int) (w : World)
    (h : RI w A n xs) (h' : RU w B m x) (hs : Pl.sigOk xs = true) (hov : over < m) (hun : under < m) (hl : (l, r) = x.getD over ([], [])) (hl2 : (l2, r2) = x.getD under ([], [])) (T1 : Pl.termOk xs l = true) (T2 : Pl.termOk xs l2 = true) :
    Calls Try.prog 29 #[.agg #[.slice A n c, .slice B m d], .int .i64 over, .int .i64 under] w fun e w' => ∃ A' c', e = .returned (.slice A' (ovTo xs l l2 (decide (over = under)) l.length).length c') ∧ OJ w' w.heap.size A' (ovTo xs l l2 (decide (over = under)) l.length).length c' (nats (ovTo xs l l2 (decide (over = under)) l.length)) ∧ Below w.heap.size w w' := by
  obtain ⟨i0, hi, hz0, hz1, hz2⟩ := info_parts infoInt
  obtain ⟨g, off, rfl, hcs⟩ := h'.2 (by omega)
  obtain ⟨L, ml, dl, R, mr, dr, hcl, hcr, hL, hR, hld, hdd, _, _⟩ := hcs over hov
  rw [← hl] at hL
  have hL := hL
  have t1 := (Pl.termOk_iff.1 T1).2.1
  have hll := hL.1
  rw [hll] at t1
  have HLL := Lib.hid hll
  have HLE := Lib.hid hl
  have HLE2 := Lib.hid hl2
  have HT1 := Lib.hid T1
  have HT2 := Lib.hid T2
  have HS := Lib.hid hs
  have i0' : (0 : Int) ≤ (over : Int) := by omega
  have i1 : (over : Int) < (m : Int) := by omega
  rw [hll]
  have hcr2 := hcr
  clear hl hl2 hcs hs T1 T2 hll hR hcr2
  obtain ⟨same, hsm⟩ : ∃ same, decide (over = under) = same := ⟨_, rfl⟩
  have HSM := Lib.hid hsm
  rw [hsm]
  clear hsm
  have hB0 : Below w.heap.size w (w.alloc (.cells #[.slice A n c, .slice (some ⟨g, off, none⟩) m d] 33)) := (Below.refl _ _).alloc (Nat.le_refl _) _
  have hc0 := keepC hB0 hcl
  go_enter Try.func29, Try.ntmps29
  go_wp2_with fail
  have bk0 : Blk (w.alloc (.cells #[.slice A n c, .slice (some ⟨g, off, none⟩) m d] 33)) w.heap.size 33 #[.slice A n c, .slice (some ⟨g, off, none⟩) m d] := Blk.new w _ _
  have hs0 : w.heap.size < (w.alloc (.cells #[.slice A n c, .slice (some ⟨g, off, none⟩) m d] 33)).heap.size := bk0.lt
  clear hc0 hcl hcr
  generalize w.alloc (.cells #[.slice A n c, .slice (some ⟨g, off, none⟩) m d] 33) = W0 at *
  have BK0 := Lib.hid bk0
  clear bk0
  go_loopw [7, 19] (fun u i wr => ∃ (k : Nat) (A' : Option Addr) (c' j : Nat), k ≤ ml ∧ i = .int .i64 k ∧ u = .slice A' j c' ∧ Hid (j = (ovTo xs l l2 same k).length) ∧ Hid (OJ wr (w.heap.size + 1) A' j c' (nats (ovTo xs l l2 same k))) ∧ Below w.heap.size w wr ∧ Hid (Blk wr w.heap.size 33 #[.slice A n c, .slice (some ⟨g, off, none⟩) m d])) (fun _ i _ => ml - (intOf i).toNat)
  case atStart => exact ⟨0, _, _, 0, Nat.zero_le _, rfl, rfl, Lib.hid rfl, Lib.hid (World.ownsRow_nil _ _ _ _), hB0, BK0⟩
  case round =>
    obtain ⟨k, A', c', j, hk, rfl, rfl, hj, ho, hb, hbk⟩ := hrel
    by_cases hlt : k < ml
    · obtain ⟨gl, ol, y, rfl, hc, hy⟩ := (hL.below hb).at_ hlt
      have hjk : j ≤ 60 := by have := ovTo_len xs l l2 same k; rw [hj.out]; omega
      have hsz := hbk.out.lt
      have b0 : wr.cell? ⟨w.heap.size, 0, none⟩ = some (.slice A n c) := by have := hbk.out.cell 0; simpa using this
      have b1 : wr.cell? ⟨w.heap.size, 1, none⟩ = some (.slice (some ⟨g, off, none⟩) m d) := by have := hbk.out.cell 1; simpa using this
      cases hy0 : decide (y < 0)
      · have hn0 : 0 ≤ l.getD k 0 := by rw [← hy.out]; simpa using hy0
        have HN0 := Lib.hid hn0
        clear hn0 hy
        go_wp2_with fail
        refine (overlap_b A n c xs (some ⟨g, off, none⟩) m d x over k under l r l2 r2 _ (h.below hb) (h'.below hb) HS.out hov hun HLE.out HLE2.out HT1.out HT2.out (by rw [HLL.out]; exact hlt) HN0.out).mono ?_
        rintro e w1 ⟨hb1, v1, rfl⟩
        rw [HSM.out]
        have hB1 := below_then hb hb1 hb.size
        have hbk1 := Lib.hid (hbk.out.below hb1)
        have ho1 : Hid (OJ w1 (w.heap.size + 1) A' j c' (nats (ovTo xs l l2 same k))) := ownsRow_below ho.out hb1
        have hsz1 := hbk1.out.lt
        cases hov1 : ovB xs l l2 same k
        · have HS1 := Lib.hid (ovTo_no hov1)
          clear hb1 ho hbk hb b0 b1 hc
          go_wp2_with fail
          go_roundw
          case rel => exact ⟨k + 1, A', c', j, by omega, by go_num, rfl, Lib.hid (by rw [HS1.out]; exact hj.out), Lib.hid (by rw [HS1.out]; exact ho1.out), hB1, hbk1⟩
          case measure => simp [intOf]; omega
        · have HS1 := Lib.hid (ovTo_yes hov1)
          clear hb1 ho hbk hb b0 b1 hc
          have howa := Lib.hid (ownsRow_below ho1.out ((Below.refl _ w1).alloc (Nat.le_refl _) (.cells #[.int .i64 k] 3)))
          go_wp2_with (at_builtin; refine wpList_append_any rfl _ _ 57 rfl (w.heap.size + 1) 3 i0 (.int .i64 0) 1 8 Try.underlying57 hi hz0 hz1 hz2 rfl (by omega) A' j c' ((nats (ovTo xs l l2 same k)).map (Value.int .i64)) rfl howa.out _ 1 _ [.int .i64 k] rfl (Src.new _ [.int .i64 k] _ 1 1 rfl (by simp [Value.oneCell'])) (by unfold maxLen; omega) (by omega) (by simp; omega) ?_; intro A2 c2 w2 ho2 hg hnil; (have hgb := app_below hg howa.out (by omega)))
          have hb2 := hB1.trans (hgb.mono (by omega))
          have hbk2 : Hid (Blk w2 w.heap.size 33 #[.slice A n c, .slice (some ⟨g, off, none⟩) m d]) := Lib.hid ((hgb.block _ (by omega)).trans hbk1.out)
          have hO2 : Hid (OJ w2 (w.heap.size + 1) A2 (j + 1) c2 (nats (ovTo xs l l2 same (k + 1)))) := Lib.hid (by rw [HS1.out, nats_snoc]; unfold OJ; rw [List.map_append]; exact ho2)
          clear hgb howa ho1 ho2 hg hB1 hbk1
          go_roundw
          case rel => exact ⟨k + 1, A2, c2, j + 1, by omega, by go_num, rfl, Lib.hid (by rw [HS1.out, List.length_append, ← hj.out]; rfl), hO2, hb2, hbk2⟩
          case measure => simp [intOf]; omega
      · have hn0 : l.getD k 0 < 0 := by rw [← hy.out]; simpa using hy0
        have HS1 := Lib.hid (ovTo_no (ovB_var (xs := xs) (l2 := l2) (same := same) hn0))
        clear hn0 hy
        go_wp2_with fail
        go_roundw
        case rel => exact ⟨k + 1, A', c', j, by omega, by go_num, rfl, Lib.hid (by rw [HS1.out]; exact hj.out), Lib.hid (by rw [HS1.out]; exact ho.out), hb, hbk⟩
        case measure => simp [intOf]; omega
    · have hkm : k = ml := by omega
      subst hkm
      go_wp2_with fail
      go_ret
      exact ⟨A', c', by rw [← hj.out]; rfl, ownsRow_base (by rw [← hj.out]; exact ho.out) (by omega), hb⟩
set_option maxHeartbeats 1000000 in
set_option maxRecDepth 20000 in
theorem I_OverlapsIn (A : Option Addr) (n c : Nat) (xs : List Int) (B : Option Addr) (m d : Nat) (x : List (List Int × List Int)) (p q : Int) (w : World) (h : RI w A n xs) (h' : RU w B m x) (hs : n + wtU x ≤ 1048576) :
    Calls Try.prog 8 #[.agg #[.slice A n c, .slice B m d], .int .i64 p, .int .i64 q] w fun e w' => ∃ A' c', e = .returned (.slice A' (V_OverlapsIn xs x p q).length c') ∧ OI w' w.heap.size A' (V_OverlapsIn xs x p q).length c' (V_OverlapsIn xs x p q) ∧ Below w.heap.size w w' := by
  have hl := h'.1
  cases hS : systemOk xs x
  · have HE := overlapsIn_no (p := p) (q := q) (x := x) (xs := xs) (by rw [hS]; rfl)
    rw [HE]
    have HS := Lib.hid hS
    clear HE hl hS
    go_enter Try.func8, Try.ntmps8
    go_wp2_with fail
    refine (implSystemOk_any A n c xs B m d x _ (h.alloc _) (h'.alloc _) hs).mono ?_
    rintro e w1 ⟨rfl, hb1⟩
    rw [HS.out]
    have hB : Below w.heap.size w w1 := below_then ((Below.refl _ _).alloc (Nat.le_refl _) _) hb1 (by simp)
    go_wp2_with fail
    go_ret
    exact ⟨none, 0, rfl, World.ownsRow_nil _ _ _ _, hB⟩
  · cases hp : inB p 0 ((m : Int) - 1)
    · have HE := overlapsIn_no (p := p) (q := q) (x := x) (xs := xs) (by rw [hS, hl, hp]; rfl)
      rw [HE]
      have HS := Lib.hid hS
      have HP := Lib.hid hp
      clear HE hl hS hp
      go_enter Try.func8, Try.ntmps8
      go_wp2_with fail
      refine (implSystemOk_any A n c xs B m d x _ (h.alloc _) (h'.alloc _) hs).mono ?_
      rintro e w1 ⟨rfl, hb1⟩
      rw [HS.out]
      have hB : Below w.heap.size w w1 := below_then ((Below.refl _ _).alloc (Nat.le_refl _) _) hb1 (by simp)
      have b0 : w1.cell? ⟨w.heap.size, 0, none⟩ = some (.slice A n c) := (hb1.cell (by simp)).trans (by simp)
      have b1 : w1.cell? ⟨w.heap.size, 1, none⟩ = some (.slice B m d) := (hb1.cell (by simp)).trans (by simp)
      clear hb1
      go_wp2_with fail
      refine (ruleIn_any A n c B m d p _).mono ?_
      rintro e w2 ⟨rfl, hb2⟩
      rw [HP.out]
      go_wp2_with fail
      go_ret
      exact ⟨none, 0, rfl, World.ownsRow_nil _ _ _ _, below_then hB hb2 hB.size⟩
    · cases hq : inB q 0 ((m : Int) - 1)
      · have HE := overlapsIn_no (p := p) (q := q) (x := x) (xs := xs) (by rw [hS, hl, hp, hq]; rfl)
        rw [HE]
        have HS := Lib.hid hS
        have HP := Lib.hid hp
        have HQ := Lib.hid hq
        clear HE hl hS hp hq
        go_enter Try.func8, Try.ntmps8
        go_wp2_with fail
        refine (implSystemOk_any A n c xs B m d x _ (h.alloc _) (h'.alloc _) hs).mono ?_
        rintro e w1 ⟨rfl, hb1⟩
        rw [HS.out]
        have hB : Below w.heap.size w w1 := below_then ((Below.refl _ _).alloc (Nat.le_refl _) _) hb1 (by simp)
        have b0 : w1.cell? ⟨w.heap.size, 0, none⟩ = some (.slice A n c) := (hb1.cell (by simp)).trans (by simp)
        have b1 : w1.cell? ⟨w.heap.size, 1, none⟩ = some (.slice B m d) := (hb1.cell (by simp)).trans (by simp)
        clear hb1
        go_wp2_with fail
        refine (ruleIn_any A n c B m d p _).mono ?_
        rintro e w2 ⟨rfl, hb2⟩
        rw [HP.out]
        replace b0 := keepC hb2 b0
        replace b1 := keepC hb2 b1
        replace hB := below_then hB hb2 hB.size
        clear hb2
        go_wp2_with fail
        refine (ruleIn_any A n c B m d q _).mono ?_
        rintro e w3 ⟨rfl, hb3⟩
        rw [HQ.out]
        go_wp2_with fail
        go_ret
        exact ⟨none, 0, rfl, World.ownsRow_nil _ _ _ _, below_then hB hb3 hB.size⟩
      · have hp' := inB_true hp
        have hq' := inB_true hq
        obtain ⟨over, rfl⟩ : ∃ k : Nat, p = k := ⟨p.toNat, by omega⟩
        obtain ⟨under, rfl⟩ : ∃ k : Nat, q = k := ⟨q.toNat, by omega⟩
        have hov : over < m := by omega
        have hun : under < m := by omega
        obtain ⟨⟨l, r⟩, hlr⟩ : ∃ z, z = x.getD over ([], []) := ⟨_, rfl⟩
        obtain ⟨⟨l2, r2⟩, hlr2⟩ : ∃ z, z = x.getD under ([], []) := ⟨_, rfl⟩
        have HE := overlapsIn_yes hS (by omega) (by omega) hlr hlr2
        rw [HE]
        have hT1 := Lib.hid (rule_term (sys_rule hS (by omega) hlr)).1
        have hT2 := Lib.hid (rule_term (sys_rule hS (by omega) hlr2)).1
        have hbd : (nats (ovTo xs l l2 (decide (over = under)) l.length)).length ≤ 60 := by rw [← HE]; exact bd_OverlapsIn _ _ _ _
        have HS := Lib.hid hS
        have HP := Lib.hid hp
        have HQ := Lib.hid hq
        have HSG := Lib.hid (systemOk_iff.1 hS).1
        have HLR := Lib.hid hlr
        have HLR2 := Lib.hid hlr2
        clear HE hl hS hp hq hlr hlr2 hp' hq'
        go_enter Try.func8, Try.ntmps8
        go_wp2_with fail
        refine (implSystemOk_any A n c xs B m d x _ (h.alloc _) (h'.alloc _) hs).mono ?_
        rintro e w1 ⟨rfl, hb1⟩
        rw [HS.out]
        have hB : Below w.heap.size w w1 := below_then ((Below.refl _ _).alloc (Nat.le_refl _) _) hb1 (by simp)
        have b0 : w1.cell? ⟨w.heap.size, 0, none⟩ = some (.slice A n c) := (hb1.cell (by simp)).trans (by simp)
        have b1 : w1.cell? ⟨w.heap.size, 1, none⟩ = some (.slice B m d) := (hb1.cell (by simp)).trans (by simp)
        clear hb1
        go_wp2_with fail
        refine (ruleIn_any A n c B m d over _).mono ?_
        rintro e w2 ⟨rfl, hb2⟩
        rw [HP.out]
        replace b0 := keepC hb2 b0
        replace b1 := keepC hb2 b1
        replace hB := below_then hB hb2 hB.size
        clear hb2
        go_wp2_with fail
        refine (ruleIn_any A n c B m d under _).mono ?_
        rintro e w3 ⟨rfl, hb3⟩
        rw [HQ.out]
        replace b0 := keepC hb3 b0
        replace b1 := keepC hb3 b1
        replace hB := below_then hB hb3 hB.size
        clear hb3
        go_wp2_with fail
        refine (overlaps_any A n c xs B m d x over under l r l2 r2 _ (h.below hB) (h'.below hB) HSG.out hov hun HLR.out HLR2.out hT1.out hT2.out).mono ?_
        rintro e w4 ⟨A1, c1, rfl, oj, hb4⟩
        replace hB := below_then hB hb4 hB.size
        rw [nats_length] at hbd
        go_wp2_with fail
        refine (wide_any A1 _ c1 _ _ oj.ri hbd).mono ?_
        rintro e w5 ⟨A2, c2, rfl, oi, hb5⟩
        go_wp2_with fail
        go_ret
        rw [nats_length]
        exact ⟨A2, c2, rfl, oi.base hB.size, below_then hB hb5 hB.size⟩
end Go.Proofs.Ytcjgcopkeeiicaa
