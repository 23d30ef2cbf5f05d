/- Contracts: overlaps of rules. -/
import Derived.Test.YtcjgcopkeeiicaaSolve
import Derived.Test.YtcjgcopkeeiicaaAway
import Derived.Test.YtcjgcopkeeiicaaUns
import Derived.Test.YtcjgcopkeeiicaaSysOk
namespace Go.Proofs.Ytcjgcopkeeiicaa
open Go.RowKit
set_option linter.unusedVariables false
set_option linter.unusedSimpArgs false

theorem SV.only {w0 w : World} {U : Nat} {v : Value} {t : List Int} (h : SV w0 U v t) (ho : Only U (U + 1) w0 w) : SV w U v t := by
  obtain ⟨A, n, c, rfl, hr, hg, h1, h2, h3, h4⟩ := h
  exact ⟨A, n, c, rfl, ri_only hr hg ho, hg, h1, h2, h3, h4⟩
theorem ri_addr {w : World} {A : Option Addr} {n : Nat} {t : List Int} (h : RI w A n t) (hn : 0 < n) : ∃ g off, A = some ⟨g, off, none⟩ ∧ g < w.heap.size := by
  obtain ⟨g, off, hA, hc⟩ := h.2 hn
  exact ⟨g, off, hA, World.block_lt_of_cell? w _ (hc 0 hn)⟩
theorem sv_old {w W : World} {U : Nat} {A : Option Addr} {n c : Nat} {t : List Int} (h : RI w A n t) (hU : w.heap.size ≤ U) (hb : Below w.heap.size w W) (h1 : n ≤ c) (h2 : c ≤ 9223372036854775807) (h3 : 1 ≤ n) (h4 : n ≤ 60) : SV W U (.slice A n c) t := by
  obtain ⟨g, off, rfl, hg⟩ := ri_addr h h3
  have hl := h.1
  exact SV.mk_ (h.below hb) (by omega) h1 h2 h4 h3
theorem sv_own {w : World} {B U : Nat} {A : Option Addr} {n c : Nat} {t : List Int} (h : OI w B A n c t) (hU : U < B) (h3 : 1 ≤ n) (h4 : n ≤ 60) : SV w U (.slice A n c) t := by
  obtain ⟨A', c', e, h1, h2⟩ := own_form h
  simp only [Value.slice.injEq] at e
  obtain ⟨rfl, _, rfl⟩ := e
  obtain ⟨g, off, rfl, _⟩ := h.ri.2 h3
  have := (World.ownsRow.lt h g rfl).1
  unfold maxLen at h2
  exact SV.mk_ h.ri (by omega) h1 h2 h4 h3
theorem sg_old {w W : World} {U : Nat} {A : Option Addr} {n : Nat} {xs : List Int} (h : RI w A n xs) (hU : w.heap.size ≤ U) (hb : Below w.heap.size w W) : SG W U A n xs := by
  refine ⟨h.below hb, fun hn a ha => ?_⟩
  obtain ⟨g, off, rfl, hg⟩ := ri_addr h hn
  injection ha with ha
  subst ha
  dsimp only
  omega
theorem bnd0 {w0 w : World} {U : Nat} {T : TypeId} {hd : List Value} (h : Blk w U T (hd ++ List.replicate 48 (Value.slice none 0 0)).toArray) : Bnd w0 w U T hd (fun _ => []) :=
  ⟨_, by simp, h, fun i hi => by
    have : (List.replicate 48 (Value.slice none 0 0)).getD i .nilFunc = .slice none 0 0 := by rw [List.getD_eq_getElem?_getD, List.getElem?_replicate, if_pos hi]; rfl
    rw [this]; exact SV.nil _ _⟩
theorem solD_b {T : TypeId} {hd : List Value} {w0 w w' : World} {U : Nat} {f : Int → Int} {B : Un.Bd} {s t : List Int} {e : Ending} (h : SolD T hd w0 w U f B s t e w') :
    ∃ b, e = .returned (.bool b) ∧ Only U (U + 1) w w' ∧ (b = true → ∃ B', Bnd w0 w' U T hd B' ∧ Un.Step f B B' s t) ∧ (b = false → Un.Clash f B s t) := by
  obtain ⟨h1, ⟨B', rfl, h2, h3⟩ | ⟨rfl, h2⟩⟩ := h
  · exact ⟨true, rfl, h1, (fun _ => ⟨B', h2, h3⟩), (fun h => by cases h)⟩
  · exact ⟨false, rfl, h1, (fun h => by cases h), (fun _ => h2)⟩
/-- How a try to bring two rules together ends. -/
def OvD (T : TypeId) (sg : Value) (w : World) (f : Int → Int) (s t : List Int) (e : Ending) (w' : World) : Prop :=
  Below w.heap.size w w' ∧ ∃ U, w.heap.size ≤ U ∧ U < w'.heap.size ∧
    ((∃ w0 B', e = .returned (.tuple #[.pointer (some ⟨U, 0, none⟩), .bool true]) ∧ Below w.heap.size w w0 ∧ U < w0.heap.size ∧ Only U (U + 1) w0 w' ∧ Bnd w0 w' U T [sg] B' ∧ Un.Done f B' s t) ∨
     (e = .returned (.tuple #[.pointer (some ⟨U, 0, none⟩), .bool false]) ∧ ¬ Un.Meets f s t))
theorem keepV {U : Nat} {W w1 w2 : World} {p q r s : Addr} {x y z u : Value} (hb : Below w1.heap.size w1 w2) (h : Only U (U + 1) W w1 ∧ w1.cell? p = some x ∧ w1.cell? q = some y ∧ w1.cell? r = some z ∧ w1.cell? s = some u) :
    Only U (U + 1) W w2 ∧ w2.cell? p = some x ∧ w2.cell? q = some y ∧ w2.cell? r = some z ∧ w2.cell? s = some u :=
  ⟨h.1.trans (Only.of hb), keepC hb h.2.1, keepC hb h.2.2.1, keepC hb h.2.2.2.1, keepC hb h.2.2.2.2⟩
theorem keepU {U : Nat} {W w1 w2 : World} {p q r s : Addr} {x y z u : Value} (ho : Only U (U + 1) w1 w2) (hp : p.block ≠ U ∧ q.block ≠ U ∧ r.block ≠ U ∧ s.block ≠ U) (h : Only U (U + 1) W w1 ∧ w1.cell? p = some x ∧ w1.cell? q = some y ∧ w1.cell? r = some z ∧ w1.cell? s = some u) :
    Only U (U + 1) W w2 ∧ w2.cell? p = some x ∧ w2.cell? q = some y ∧ w2.cell? r = some z ∧ w2.cell? s = some u :=
  ⟨h.1.trans ho, keepO ho (by omega) h.2.1, keepO ho (by omega) h.2.2.1, keepO ho (by omega) h.2.2.2.1, keepO ho (by omega) h.2.2.2.2⟩
theorem below_undrew1 {w w' : World} (h : Below w.drew.heap.size w.drew w') : Below w.heap.size w w' := ⟨h.os, h.tape, h.output, h.size, h.block⟩
theorem onlyV {U : Nat} {w w' : World} (h : Below w.drew.heap.size w.drew w') : Only U (U + 1) w w' := Only.of (below_undrew1 h)
theorem nil48 (S : Value) : ([S] ++ List.replicate 48 (Value.slice none 0 0)).toArray = #[S, .slice none 0 0, .slice none 0 0, .slice none 0 0, .slice none 0 0, .slice none 0 0, .slice none 0 0, .slice none 0 0, .slice none 0 0, .slice none 0 0, .slice none 0 0, .slice none 0 0, .slice none 0 0, .slice none 0 0, .slice none 0 0, .slice none 0 0, .slice none 0 0, .slice none 0 0, .slice none 0 0, .slice none 0 0, .slice none 0 0, .slice none 0 0, .slice none 0 0, .slice none 0 0, .slice none 0 0, .slice none 0 0, .slice none 0 0, .slice none 0 0, .slice none 0 0, .slice none 0 0, .slice none 0 0, .slice none 0 0, .slice none 0 0, .slice none 0 0, .slice none 0 0, .slice none 0 0, .slice none 0 0, .slice none 0 0, .slice none 0 0, .slice none 0 0, .slice none 0 0, .slice none 0 0, .slice none 0 0, .slice none 0 0, .slice none 0 0, .slice none 0 0, .slice none 0 0, .slice none 0 0, .slice none 0 0] := by rfl
theorem blk_only {U G : Nat} {T : TypeId} {cs : Array Value} {w w' : World} (h : Blk w G T cs) (ho : Only U (U + 1) w w') (hne : G ≠ U) : Blk w' G T cs := (ho.block G h.lt (by omega)).trans h
theorem overlap_self (V V' : Value) (over : Nat) (w : World) :
    Calls Try.prog 46 #[.agg #[V, V'], .int .i64 over, .int .i64 0, .int .i64 over] w fun e w' => e = .returned (.tuple #[.pointer none, .bool false]) ∧ Below w.heap.size w w' := by
  go_enter Try.func46, Try.ntmps46
  go_wp2_with fail
  go_ret2
  exact ⟨rfl, (Below.refl _ _).alloc (Nat.le_refl _) _⟩
set_option maxHeartbeats 4000000 in
set_option maxRecDepth 20000 in
theorem overlap_any (A : Option Addr) (n c : Nat) (xs : List Int) (B : Option Addr) (m d : Nat) (x : List (List Int × List Int)) (over q under : Nat) (l r l2 r2 : List Int) (w : World)
    (h : RI w A n xs) (h' : RU w B m x) (hs : Pl.sigOk xs = true) (hov : over < m) (hun : under < m) (hl : (l, r) = x.getD over ([], [])) (hl2 : (l2, r2) = x.getD under ([], [])) (T1 : Pl.termOk xs l = true) (T2 : Pl.termOk xs l2 = true) (hq : q < l.length) (hne : ¬ (over = under ∧ q = 0)) :
    Calls Try.prog 46 #[.agg #[.slice A n c, .slice B m d], .int .i64 over, .int .i64 q, .int .i64 under] w (OvD 95 (.slice A n c) w (Pl.nxt xs) (Pl.sub (Pl.nxt xs) l q) (l2.map (sh 24))) := by
  obtain ⟨g, off, rfl, hcs⟩ := h'.2 (by omega)
  obtain ⟨L, ml, dl, R, mr, dr, hcl, hcr, hL, hR, hld, hdd, _, _⟩ := hcs over hov
  obtain ⟨L2, ml2, dl2, R2, mr2, dr2, hcl2, hcr2, hL2, hR2, hld2, hdd2, _, _⟩ := hcs under hun
  rw [← hl] at hL
  rw [← hl2] at hL2
  have hgw := World.block_lt_of_cell? w _ hcl
  have t1 := (Pl.termOk_iff.1 T1).2.1
  have t2 := (Pl.termOk_iff.1 T2).2.1
  rw [hL.1] at t1
  rw [hL2.1] at t2
  have HT1 := Lib.hid T1
  have HT2 := Lib.hid T2
  have HS := Lib.hid hs
  have HQ := Lib.hid hq
  have i0 : (0 : Int) ≤ (over : Int) := by omega
  have i1 : (over : Int) < (m : Int) := by omega
  have i2 : (0 : Int) ≤ (under : Int) := by omega
  have i3 : (under : Int) < (m : Int) := by omega
  have HLL := Lib.hid (fun e : over = under => show l2 = l by rw [← e, ← hl] at hl2; exact congrArg Prod.fst hl2)
  clear hl hl2 hcs hs hq T1 T2
  by_cases hou : over = under
  · subst hou
    obtain rfl : l = l2 := (HLL.out rfl).symm
    clear HLL hcl2 hcr2 hcr hL2 HT2 t2
    have hq0 : ((q : Int) == 0) = false := by simp; omega
    go_enter Try.func46, Try.ntmps46
    go_wp2_with fail
    have hB0 : Below w.heap.size w ((w.alloc (.cells #[.slice A n c, .slice (some ⟨g, off, none⟩) m d] 33)).alloc (.cells #[.slice A n c, .slice none 0 0, .slice none 0 0, .slice none 0 0, .slice none 0 0, .slice none 0 0, .slice none 0 0, .slice none 0 0, .slice none 0 0, .slice none 0 0, .slice none 0 0, .slice none 0 0, .slice none 0 0, .slice none 0 0, .slice none 0 0, .slice none 0 0, .slice none 0 0, .slice none 0 0, .slice none 0 0, .slice none 0 0, .slice none 0 0, .slice none 0 0, .slice none 0 0, .slice none 0 0, .slice none 0 0, .slice none 0 0, .slice none 0 0, .slice none 0 0, .slice none 0 0, .slice none 0 0, .slice none 0 0, .slice none 0 0, .slice none 0 0, .slice none 0 0, .slice none 0 0, .slice none 0 0, .slice none 0 0, .slice none 0 0, .slice none 0 0, .slice none 0 0, .slice none 0 0, .slice none 0 0, .slice none 0 0, .slice none 0 0, .slice none 0 0, .slice none 0 0, .slice none 0 0, .slice none 0 0, .slice none 0 0] 95)) := ((Below.refl _ _).alloc (Nat.le_refl _) _).alloc (by simp) _
    have bk0 : Blk ((w.alloc (.cells #[.slice A n c, .slice (some ⟨g, off, none⟩) m d] 33)).alloc (.cells #[.slice A n c, .slice none 0 0, .slice none 0 0, .slice none 0 0, .slice none 0 0, .slice none 0 0, .slice none 0 0, .slice none 0 0, .slice none 0 0, .slice none 0 0, .slice none 0 0, .slice none 0 0, .slice none 0 0, .slice none 0 0, .slice none 0 0, .slice none 0 0, .slice none 0 0, .slice none 0 0, .slice none 0 0, .slice none 0 0, .slice none 0 0, .slice none 0 0, .slice none 0 0, .slice none 0 0, .slice none 0 0, .slice none 0 0, .slice none 0 0, .slice none 0 0, .slice none 0 0, .slice none 0 0, .slice none 0 0, .slice none 0 0, .slice none 0 0, .slice none 0 0, .slice none 0 0, .slice none 0 0, .slice none 0 0, .slice none 0 0, .slice none 0 0, .slice none 0 0, .slice none 0 0, .slice none 0 0, .slice none 0 0, .slice none 0 0, .slice none 0 0, .slice none 0 0, .slice none 0 0, .slice none 0 0, .slice none 0 0] 95)) w.heap.size 33 #[.slice A n c, .slice (some ⟨g, off, none⟩) m d] := (Blk.new w _ _).alloc _
    have bk1 : Blk ((w.alloc (.cells #[.slice A n c, .slice (some ⟨g, off, none⟩) m d] 33)).alloc (.cells #[.slice A n c, .slice none 0 0, .slice none 0 0, .slice none 0 0, .slice none 0 0, .slice none 0 0, .slice none 0 0, .slice none 0 0, .slice none 0 0, .slice none 0 0, .slice none 0 0, .slice none 0 0, .slice none 0 0, .slice none 0 0, .slice none 0 0, .slice none 0 0, .slice none 0 0, .slice none 0 0, .slice none 0 0, .slice none 0 0, .slice none 0 0, .slice none 0 0, .slice none 0 0, .slice none 0 0, .slice none 0 0, .slice none 0 0, .slice none 0 0, .slice none 0 0, .slice none 0 0, .slice none 0 0, .slice none 0 0, .slice none 0 0, .slice none 0 0, .slice none 0 0, .slice none 0 0, .slice none 0 0, .slice none 0 0, .slice none 0 0, .slice none 0 0, .slice none 0 0, .slice none 0 0, .slice none 0 0, .slice none 0 0, .slice none 0 0, .slice none 0 0, .slice none 0 0, .slice none 0 0, .slice none 0 0, .slice none 0 0] 95)) (w.heap.size + 1) 95 ([Value.slice A n c] ++ List.replicate 48 (Value.slice none 0 0)).toArray := by
      have := Blk.new (w.alloc (.cells #[.slice A n c, .slice (some ⟨g, off, none⟩) m d] 33)) 95 #[.slice A n c, .slice none 0 0, .slice none 0 0, .slice none 0 0, .slice none 0 0, .slice none 0 0, .slice none 0 0, .slice none 0 0, .slice none 0 0, .slice none 0 0, .slice none 0 0, .slice none 0 0, .slice none 0 0, .slice none 0 0, .slice none 0 0, .slice none 0 0, .slice none 0 0, .slice none 0 0, .slice none 0 0, .slice none 0 0, .slice none 0 0, .slice none 0 0, .slice none 0 0, .slice none 0 0, .slice none 0 0, .slice none 0 0, .slice none 0 0, .slice none 0 0, .slice none 0 0, .slice none 0 0, .slice none 0 0, .slice none 0 0, .slice none 0 0, .slice none 0 0, .slice none 0 0, .slice none 0 0, .slice none 0 0, .slice none 0 0, .slice none 0 0, .slice none 0 0, .slice none 0 0, .slice none 0 0, .slice none 0 0, .slice none 0 0, .slice none 0 0, .slice none 0 0, .slice none 0 0, .slice none 0 0, .slice none 0 0]
      rw [nil48]
      simpa only [World.size_alloc] using this
    generalize (w.alloc (.cells #[.slice A n c, .slice (some ⟨g, off, none⟩) m d] 33)).alloc (.cells #[.slice A n c, .slice none 0 0, .slice none 0 0, .slice none 0 0, .slice none 0 0, .slice none 0 0, .slice none 0 0, .slice none 0 0, .slice none 0 0, .slice none 0 0, .slice none 0 0, .slice none 0 0, .slice none 0 0, .slice none 0 0, .slice none 0 0, .slice none 0 0, .slice none 0 0, .slice none 0 0, .slice none 0 0, .slice none 0 0, .slice none 0 0, .slice none 0 0, .slice none 0 0, .slice none 0 0, .slice none 0 0, .slice none 0 0, .slice none 0 0, .slice none 0 0, .slice none 0 0, .slice none 0 0, .slice none 0 0, .slice none 0 0, .slice none 0 0, .slice none 0 0, .slice none 0 0, .slice none 0 0, .slice none 0 0, .slice none 0 0, .slice none 0 0, .slice none 0 0, .slice none 0 0, .slice none 0 0, .slice none 0 0, .slice none 0 0, .slice none 0 0, .slice none 0 0, .slice none 0 0, .slice none 0 0, .slice none 0 0] 95) = W at *
    have d0 : W.cell? ⟨w.heap.size, 0, none⟩ = some (.slice A n c) := by have := bk0.cell 0; simpa using this
    have d1 : W.cell? ⟨w.heap.size, 1, none⟩ = some (.slice (some ⟨g, off, none⟩) m d) := by have := bk0.cell 1; simpa using this
    have d2 := keepC hB0 hcl
    have d3 := keepC hB0 hcl
    have hWs := bk1.lt
    have hLW := sv_old (U := w.heap.size + 1) hL (by omega) hB0 hld hdd t1.1 t1.2
    have hSW := sg_old (U := w.heap.size + 1) h (by omega) hB0
    have BK1 := Lib.hid bk1
    clear bk0 bk1
    go_region_held3 (fun w' => Only (w.heap.size + 1) (w.heap.size + 1 + 1) W w' ∧ w'.cell? ⟨w.heap.size, 0, none⟩ = some (.slice A n c) ∧ w'.cell? ⟨w.heap.size, 1, none⟩ = some (.slice (some ⟨g, off, none⟩) m d) ∧ w'.cell? ⟨g, off + over * 2, none⟩ = some (.slice L ml dl) ∧ w'.cell? ⟨g, off + over * 2, none⟩ = some (.slice L ml dl))
      (first | exact ⟨⟨rfl, rfl, rfl, Nat.le_refl _, fun _ _ _ => rfl⟩, d0, d1, d2, d3⟩ | exact keepV ha1 ⟨⟨rfl, rfl, rfl, Nat.le_refl _, fun _ _ _ => rfl⟩, d0, d1, d2, d3⟩ | exact keepV ha2 (by assumption) | exact keepU ho3 (by dsimp only; omega) (by assumption))
      ((first | (go_at_call 65; refine (subAt_w _ W (w.heap.size + 1) A n c xs _ l q _ rfl hSW hLW ?_ HS.out (tm_ok HT1.out) HQ.out).mono ?_; exact ⟨rfl, rfl, rfl, Nat.le_refl _, fun _ _ _ => rfl⟩; rintro e w1 ⟨va, rfl, hva, ha1⟩; have hb01 := below_then hB0 (below_undrew1 ha1) hB0.size; have hs1 := (below_undrew1 ha1).size; have hv1 := hva.only (onlyV ha1); have bk1 := BK1.out.below (below_undrew1 ha1)) | (go_at_call 54; refine (away_any L ml dl l _ ?_ t1.2 (Pl.termOk_bd HT1.out)).mono ?_; exact hL.below hb01; rintro e w2 ⟨A2, c2, rfl, oi2, ha2⟩; have hb02 := below_then hb01 ha2 hb01.size; have hs2 := ha2.size; have hv2 := hv1.only (Only.of ha2); have bk2 := bk1.below ha2; have hw2 := sv_own (U := w.heap.size + 1) oi2 (by omega) t1.1 t1.2; have hsg2 := sg_old (U := w.heap.size + 1) h (by omega) hb02) | (go_at_call 64; refine (solve_any (Pl.nxt xs) (w.heap.size + 1) w2 A n c xs rfl hsg2 HS.out (by omega) _ _ _ (Pl.sub (Pl.nxt xs) l q) (l.map (sh 24)) va (.slice A2 ml c2) w2 (Un.good_zero (nxt_ar xs) 48) hv2 hw2 (wt_sub (wt_ok HT1.out) HQ.out) (wt_away HT1.out) (bnd0 bk2) (Only.refl _ _ _)).mono ?_; intro e w3 hsol; obtain ⟨bb, rfl, ho3, hyes, hno⟩ := solD_b hsol)))
    rename_i hS
    have hb3 : Below w.heap.size w w3 := hb02.trans (ho3.below (by omega) hb02.size)
    have hs3 := ho3.size
    have HY := Lib.hid hyes
    have HN := Lib.hid hno
    clear hS hyes hno bk1 bk2
    cases bb
    · have hcl := Lib.hid (Un.clash_none (HN.out rfl))
      go_wp2_with fail
      go_ret2
      exact ⟨hb3, w.heap.size + 1, by omega, by omega, .inr ⟨rfl, hcl.out⟩⟩
    · obtain ⟨B', hb', hst⟩ := HY.out rfl
      have HB' := Lib.hid hb'
      have HD := Lib.hid (Un.step_done hst)
      clear hb' hst
      go_wp2_with fail
      go_ret2
      exact ⟨hb3, w.heap.size + 1, by omega, by omega, .inl ⟨w2, B', rfl, hb02, by omega, ho3, HB'.out, HD.out⟩⟩
  · have hob : ((over : Int) == (under : Int)) = false := by simp; omega
    go_enter Try.func46, Try.ntmps46
    go_wp2_with fail
    have hB0 : Below w.heap.size w ((w.alloc (.cells #[.slice A n c, .slice (some ⟨g, off, none⟩) m d] 33)).alloc (.cells #[.slice A n c, .slice none 0 0, .slice none 0 0, .slice none 0 0, .slice none 0 0, .slice none 0 0, .slice none 0 0, .slice none 0 0, .slice none 0 0, .slice none 0 0, .slice none 0 0, .slice none 0 0, .slice none 0 0, .slice none 0 0, .slice none 0 0, .slice none 0 0, .slice none 0 0, .slice none 0 0, .slice none 0 0, .slice none 0 0, .slice none 0 0, .slice none 0 0, .slice none 0 0, .slice none 0 0, .slice none 0 0, .slice none 0 0, .slice none 0 0, .slice none 0 0, .slice none 0 0, .slice none 0 0, .slice none 0 0, .slice none 0 0, .slice none 0 0, .slice none 0 0, .slice none 0 0, .slice none 0 0, .slice none 0 0, .slice none 0 0, .slice none 0 0, .slice none 0 0, .slice none 0 0, .slice none 0 0, .slice none 0 0, .slice none 0 0, .slice none 0 0, .slice none 0 0, .slice none 0 0, .slice none 0 0, .slice none 0 0] 95)) := ((Below.refl _ _).alloc (Nat.le_refl _) _).alloc (by simp) _
    have bk0 : Blk ((w.alloc (.cells #[.slice A n c, .slice (some ⟨g, off, none⟩) m d] 33)).alloc (.cells #[.slice A n c, .slice none 0 0, .slice none 0 0, .slice none 0 0, .slice none 0 0, .slice none 0 0, .slice none 0 0, .slice none 0 0, .slice none 0 0, .slice none 0 0, .slice none 0 0, .slice none 0 0, .slice none 0 0, .slice none 0 0, .slice none 0 0, .slice none 0 0, .slice none 0 0, .slice none 0 0, .slice none 0 0, .slice none 0 0, .slice none 0 0, .slice none 0 0, .slice none 0 0, .slice none 0 0, .slice none 0 0, .slice none 0 0, .slice none 0 0, .slice none 0 0, .slice none 0 0, .slice none 0 0, .slice none 0 0, .slice none 0 0, .slice none 0 0, .slice none 0 0, .slice none 0 0, .slice none 0 0, .slice none 0 0, .slice none 0 0, .slice none 0 0, .slice none 0 0, .slice none 0 0, .slice none 0 0, .slice none 0 0, .slice none 0 0, .slice none 0 0, .slice none 0 0, .slice none 0 0, .slice none 0 0, .slice none 0 0] 95)) w.heap.size 33 #[.slice A n c, .slice (some ⟨g, off, none⟩) m d] := (Blk.new w _ _).alloc _
    have bk1 : Blk ((w.alloc (.cells #[.slice A n c, .slice (some ⟨g, off, none⟩) m d] 33)).alloc (.cells #[.slice A n c, .slice none 0 0, .slice none 0 0, .slice none 0 0, .slice none 0 0, .slice none 0 0, .slice none 0 0, .slice none 0 0, .slice none 0 0, .slice none 0 0, .slice none 0 0, .slice none 0 0, .slice none 0 0, .slice none 0 0, .slice none 0 0, .slice none 0 0, .slice none 0 0, .slice none 0 0, .slice none 0 0, .slice none 0 0, .slice none 0 0, .slice none 0 0, .slice none 0 0, .slice none 0 0, .slice none 0 0, .slice none 0 0, .slice none 0 0, .slice none 0 0, .slice none 0 0, .slice none 0 0, .slice none 0 0, .slice none 0 0, .slice none 0 0, .slice none 0 0, .slice none 0 0, .slice none 0 0, .slice none 0 0, .slice none 0 0, .slice none 0 0, .slice none 0 0, .slice none 0 0, .slice none 0 0, .slice none 0 0, .slice none 0 0, .slice none 0 0, .slice none 0 0, .slice none 0 0, .slice none 0 0, .slice none 0 0] 95)) (w.heap.size + 1) 95 ([Value.slice A n c] ++ List.replicate 48 (Value.slice none 0 0)).toArray := by
      have := Blk.new (w.alloc (.cells #[.slice A n c, .slice (some ⟨g, off, none⟩) m d] 33)) 95 #[.slice A n c, .slice none 0 0, .slice none 0 0, .slice none 0 0, .slice none 0 0, .slice none 0 0, .slice none 0 0, .slice none 0 0, .slice none 0 0, .slice none 0 0, .slice none 0 0, .slice none 0 0, .slice none 0 0, .slice none 0 0, .slice none 0 0, .slice none 0 0, .slice none 0 0, .slice none 0 0, .slice none 0 0, .slice none 0 0, .slice none 0 0, .slice none 0 0, .slice none 0 0, .slice none 0 0, .slice none 0 0, .slice none 0 0, .slice none 0 0, .slice none 0 0, .slice none 0 0, .slice none 0 0, .slice none 0 0, .slice none 0 0, .slice none 0 0, .slice none 0 0, .slice none 0 0, .slice none 0 0, .slice none 0 0, .slice none 0 0, .slice none 0 0, .slice none 0 0, .slice none 0 0, .slice none 0 0, .slice none 0 0, .slice none 0 0, .slice none 0 0, .slice none 0 0, .slice none 0 0, .slice none 0 0, .slice none 0 0]
      rw [nil48]
      simpa only [World.size_alloc] using this
    generalize (w.alloc (.cells #[.slice A n c, .slice (some ⟨g, off, none⟩) m d] 33)).alloc (.cells #[.slice A n c, .slice none 0 0, .slice none 0 0, .slice none 0 0, .slice none 0 0, .slice none 0 0, .slice none 0 0, .slice none 0 0, .slice none 0 0, .slice none 0 0, .slice none 0 0, .slice none 0 0, .slice none 0 0, .slice none 0 0, .slice none 0 0, .slice none 0 0, .slice none 0 0, .slice none 0 0, .slice none 0 0, .slice none 0 0, .slice none 0 0, .slice none 0 0, .slice none 0 0, .slice none 0 0, .slice none 0 0, .slice none 0 0, .slice none 0 0, .slice none 0 0, .slice none 0 0, .slice none 0 0, .slice none 0 0, .slice none 0 0, .slice none 0 0, .slice none 0 0, .slice none 0 0, .slice none 0 0, .slice none 0 0, .slice none 0 0, .slice none 0 0, .slice none 0 0, .slice none 0 0, .slice none 0 0, .slice none 0 0, .slice none 0 0, .slice none 0 0, .slice none 0 0, .slice none 0 0, .slice none 0 0, .slice none 0 0] 95) = W at *
    have d0 : W.cell? ⟨w.heap.size, 0, none⟩ = some (.slice A n c) := by have := bk0.cell 0; simpa using this
    have d1 : W.cell? ⟨w.heap.size, 1, none⟩ = some (.slice (some ⟨g, off, none⟩) m d) := by have := bk0.cell 1; simpa using this
    have d2 := keepC hB0 hcl
    have d3 := keepC hB0 hcl2
    have hWs := bk1.lt
    have hLW := sv_old (U := w.heap.size + 1) hL (by omega) hB0 hld hdd t1.1 t1.2
    have hSW := sg_old (U := w.heap.size + 1) h (by omega) hB0
    have BK1 := Lib.hid bk1
    clear bk0 bk1
    go_region_held3 (fun w' => Only (w.heap.size + 1) (w.heap.size + 1 + 1) W w' ∧ w'.cell? ⟨w.heap.size, 0, none⟩ = some (.slice A n c) ∧ w'.cell? ⟨w.heap.size, 1, none⟩ = some (.slice (some ⟨g, off, none⟩) m d) ∧ w'.cell? ⟨g, off + over * 2, none⟩ = some (.slice L ml dl) ∧ w'.cell? ⟨g, off + under * 2, none⟩ = some (.slice L2 ml2 dl2))
      (first | exact ⟨⟨rfl, rfl, rfl, Nat.le_refl _, fun _ _ _ => rfl⟩, d0, d1, d2, d3⟩ | exact keepV ha1 ⟨⟨rfl, rfl, rfl, Nat.le_refl _, fun _ _ _ => rfl⟩, d0, d1, d2, d3⟩ | exact keepV ha2 (by assumption) | exact keepU ho3 (by dsimp only; omega) (by assumption))
      ((first | (go_at_call 65; refine (subAt_w _ W (w.heap.size + 1) A n c xs _ l q _ rfl hSW hLW ?_ HS.out (tm_ok HT1.out) HQ.out).mono ?_; exact ⟨rfl, rfl, rfl, Nat.le_refl _, fun _ _ _ => rfl⟩; rintro e w1 ⟨va, rfl, hva, ha1⟩; have hb01 := below_then hB0 (below_undrew1 ha1) hB0.size; have hs1 := (below_undrew1 ha1).size; have hv1 := hva.only (onlyV ha1); have bk1 := BK1.out.below (below_undrew1 ha1)) | (go_at_call 54; refine (away_any L2 ml2 dl2 l2 _ ?_ t2.2 (Pl.termOk_bd HT2.out)).mono ?_; exact hL2.below hb01; rintro e w2 ⟨A2, c2, rfl, oi2, ha2⟩; have hb02 := below_then hb01 ha2 hb01.size; have hs2 := ha2.size; have hv2 := hv1.only (Only.of ha2); have bk2 := bk1.below ha2; have hw2 := sv_own (U := w.heap.size + 1) oi2 (by omega) t2.1 t2.2; have hsg2 := sg_old (U := w.heap.size + 1) h (by omega) hb02) | (go_at_call 64; refine (solve_any (Pl.nxt xs) (w.heap.size + 1) w2 A n c xs rfl hsg2 HS.out (by omega) _ _ _ (Pl.sub (Pl.nxt xs) l q) (l2.map (sh 24)) va (.slice A2 ml2 c2) w2 (Un.good_zero (nxt_ar xs) 48) hv2 hw2 (wt_sub (wt_ok HT1.out) HQ.out) (wt_away HT2.out) (bnd0 bk2) (Only.refl _ _ _)).mono ?_; intro e w3 hsol; obtain ⟨bb, rfl, ho3, hyes, hno⟩ := solD_b hsol)))
    rename_i hS
    have hb3 : Below w.heap.size w w3 := hb02.trans (ho3.below (by omega) hb02.size)
    have hs3 := ho3.size
    have HY := Lib.hid hyes
    have HN := Lib.hid hno
    clear hS hyes hno bk1 bk2
    cases bb
    · have hcl := Lib.hid (Un.clash_none (HN.out rfl))
      go_wp2_with fail
      go_ret2
      exact ⟨hb3, w.heap.size + 1, by omega, by omega, .inr ⟨rfl, hcl.out⟩⟩
    · obtain ⟨B', hb', hst⟩ := HY.out rfl
      have HB' := Lib.hid hb'
      have HD := Lib.hid (Un.step_done hst)
      clear hb' hst
      go_wp2_with fail
      go_ret2
      exact ⟨hb3, w.heap.size + 1, by omega, by omega, .inl ⟨w2, B', rfl, hb02, by omega, ho3, HB'.out, HD.out⟩⟩
end Go.Proofs.Ytcjgcopkeeiicaa
