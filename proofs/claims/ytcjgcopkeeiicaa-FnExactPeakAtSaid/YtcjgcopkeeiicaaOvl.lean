/- Contracts: overlaps of rules. -/
import Derived.Test.YtcjgcopkeeiicaaSolve
import Derived.Test.YtcjgcopkeeiicaaAway
import Derived.Test.YtcjgcopkeeiicaaUns
import Derived.Test.YtcjgcopkeeiicaaSysOk
namespace Go.Proofs.Ytcjgcopkeeiicaa
open Go.RowKit
set_option linter.unusedVariables false
set_option linter.unusedSimpArgs false

theorem SV.only {w0 w : World} {U : Nat} {v : Value} {t : List Int} (h : SV w0 U v t) (ho : Only U (U + 1) w0 w) : SV w U v t := by
  obtain ⟨A, n, c, rfl, hr, hg, h1, h2, h3, h4⟩ := h
  exact ⟨A, n, c, rfl, ri_only hr hg ho, hg, h1, h2, h3, h4⟩
theorem ri_addr {w : World} {A : Option Addr} {n : Nat} {t : List Int} (h : RI w A n t) (hn : 0 < n) : ∃ g off, A = some ⟨g, off, none⟩ ∧ g < w.heap.size := by
  obtain ⟨g, off, hA, hc⟩ := h.2 hn
  exact ⟨g, off, hA, World.block_lt_of_cell? w _ (hc 0 hn)⟩
theorem sv_old {w W : World} {U : Nat} {A : Option Addr} {n c : Nat} {t : List Int} (h : RI w A n t) (hU : w.heap.size ≤ U) (hb : Below w.heap.size w W) (h1 : n ≤ c) (h2 : c ≤ 9223372036854775807) (h3 : 1 ≤ n) (h4 : n ≤ 60) : SV W U (.slice A n c) t := by
  obtain ⟨g, off, rfl, hg⟩ := ri_addr h h3
  have hl := h.1
  exact SV.mk_ (h.below hb) (by omega) h1 h2 h4 h3
theorem sv_own {w : World} {B U : Nat} {A : Option Addr} {n c : Nat} {t : List Int} (h : OI w B A n c t) (hU : U < B) (h3 : 1 ≤ n) (h4 : n ≤ 60) : SV w U (.slice A n c) t := by
  obtain ⟨A', c', e, h1, h2⟩ := own_form h
  simp only [Value.slice.injEq] at e
  obtain ⟨rfl, _, rfl⟩ := e
  obtain ⟨g, off, rfl, _⟩ := h.ri.2 h3
  have := (World.ownsRow.lt h g rfl).1
  unfold maxLen at h2
  exact SV.mk_ h.ri (by omega) h1 h2 h4 h3
theorem sg_old {w W : World} {U : Nat} {A : Option Addr} {n : Nat} {xs : List Int} (h : RI w A n xs) (hU : w.heap.size ≤ U) (hb : Below w.heap.size w W) : SG W U A n xs := by
  refine ⟨h.below hb, fun hn a ha => ?_⟩
  obtain ⟨g, off, rfl, hg⟩ := ri_addr h hn
  injection ha with ha
  subst ha
  dsimp only
  omega
theorem bnd0 {w0 w : World} {U : Nat} {T : TypeId} {hd : List Value} (h : Blk w U T (hd ++ List.replicate 48 (Value.slice none 0 0)).toArray) : Bnd w0 w U T hd (fun _ => []) :=
  ⟨_, by simp, h, fun i hi => by
    have : (List.replicate 48 (Value.slice none 0 0)).getD i .nilFunc = .slice none 0 0 := by rw [List.getD_eq_getElem?_getD, List.getElem?_replicate, if_pos hi]; rfl
    rw [this]; exact SV.nil _ _⟩
theorem solD_b {T : TypeId} {hd : List Value} {w0 w w' : World} {U : Nat} {f : Int → Int} {B : Un.Bd} {s t : List Int} {e : Ending} (h : SolD T hd w0 w U f B s t e w') :
    ∃ b, e = .returned (.bool b) ∧ Only U (U + 1) w w' ∧ (b = true → ∃ B', Bnd w0 w' U T hd B' ∧ Un.Step f B B' s t) ∧ (b = false → Un.Clash f B s t) := by
  obtain ⟨h1, ⟨B', rfl, h2, h3⟩ | ⟨rfl, h2⟩⟩ := h
  · exact ⟨true, rfl, h1, (fun _ => ⟨B', h2, h3⟩), (fun h => by cases h)⟩
  · exact ⟨false, rfl, h1, (fun h => by cases h), (fun _ => h2)⟩
/-- How a try to bring two rules together ends. -/
def OvD (T : TypeId) (sg : Value) (w : World) (f : Int → Int) (s t : List Int) (e : Ending) (w' : World) : Prop :=
  Below w.heap.size w w' ∧ ∃ U, w.heap.size ≤ U ∧ U < w'.heap.size ∧
    ((∃ w0 B', e = .returned (.tuple #[.pointer (some ⟨U, 0, none⟩), .bool true]) ∧ Below w.heap.size w w0 ∧ U < w0.heap.size ∧ Only U (U + 1) w0 w' ∧ Bnd w0 w' U T [sg] B' ∧ Un.Done f B' s t) ∨
     (e = .returned (.tuple #[.pointer (some ⟨U, 0, none⟩), .bool false]) ∧ ¬ Un.Meets f s t))
theorem keepV {U : Nat} {W w1 w2 : World} {p q r s : Addr} {x y z u : Value} (hb : Below w1.heap.size w1 w2) (h : Only U (U + 1) W w1 ∧ w1.cell? p = some x ∧ w1.cell? q = some y ∧ w1.cell? r = some z ∧ w1.cell? s = some u) :
    Only U (U + 1) W w2 ∧ w2.cell? p = some x ∧ w2.cell? q = some y ∧ w2.cell? r = some z ∧ w2.cell? s = some u :=
  ⟨h.1.trans (Only.of hb), keepC hb h.2.1, keepC hb h.2.2.1, keepC hb h.2.2.2.1, keepC hb h.2.2.2.2⟩
theorem keepU {U : Nat} {W w1 w2 : World} {p q r s : Addr} {x y z u : Value} (ho : Only U (U + 1) w1 w2) (hp : p.block ≠ U ∧ q.block ≠ U ∧ r.block ≠ U ∧ s.block ≠ U) (h : Only U (U + 1) W w1 ∧ w1.cell? p = some x ∧ w1.cell? q = some y ∧ w1.cell? r = some z ∧ w1.cell? s = some u) :
    Only U (U + 1) W w2 ∧ w2.cell? p = some x ∧ w2.cell? q = some y ∧ w2.cell? r = some z ∧ w2.cell? s = some u :=
  ⟨h.1.trans ho, keepO ho (by omega) h.2.1, keepO ho (by omega) h.2.2.1, keepO ho (by omega) h.2.2.2.1, keepO ho (by omega) h.2.2.2.2⟩
theorem below_undrew1 {w w' : World} (h : Below w.drew.heap.size w.drew w') : Below w.heap.size w w' := ⟨h.os, h.tape, h.output, h.size, h.block⟩
theorem onlyV {U : Nat} {w w' : World} (h : Below w.drew.heap.size w.drew w') : Only U (U + 1) w w' := Only.of (below_undrew1 h)
theorem nil48 (S : Value) : ([S] ++ List.replicate 48 (Value.slice none 0 0)).toArray = #[S, .slice none 0 0, .slice none 0 0, .slice none 0 0, .slice none 0 0, .slice none 0 0, .slice none 0 0, .slice none 0 0, .slice none 0 0, .slice none 0 0, .slice none 0 0, .slice none 0 0, .slice none 0 0, .slice none 0 0, .slice none 0 0, .slice none 0 0, .slice none 0 0, .slice none 0 0, .slice none 0 0, .slice none 0 0, .slice none 0 0, .slice none 0 0, .slice none 0 0, .slice none 0 0, .slice none 0 0, .slice none 0 0, .slice none 0 0, .slice none 0 0, .slice none 0 0, .slice none 0 0, .slice none 0 0, .slice none 0 0, .slice none 0 0, .slice none 0 0, .slice none 0 0, .slice none 0 0, .slice none 0 0, .slice none 0 0, .slice none 0 0, .slice none 0 0, .slice none 0 0, .slice none 0 0, .slice none 0 0, .slice none 0 0, .slice none 0 0, .slice none 0 0, .slice none 0 0, .slice none 0 0, .slice none 0 0] := by rfl
theorem blk_only {U G : Nat} {T : TypeId} {cs : Array Value} {w w' : World} (h : Blk w G T cs) (ho : Only U (U + 1) w w') (hne : G ≠ U) : Blk w' G T cs := (ho.block G h.lt (by omega)).trans h
theorem overlap_self (V V' : Value) (over : Nat) (w : World) :
    Calls Try.prog 46 #[.agg #[V, V'], .int .i64 over, .int .i64 0, .int .i64 over] w fun e w' => e = .returned (.tuple #[.pointer none, .bool false]) ∧ Below w.heap.size w w' := by
  go_enter Try.func46, Try.ntmps46
  go_wp2_with fail
  go_ret2
  exact ⟨rfl, (Below.refl _ _).alloc (Nat.le_refl _) _⟩
set_option maxHeartbeats 4000000 in
set_option maxRecDepth 20000 in
theorem overlap_any (A : Option Addr) (n c : Nat) (xs : List Int) (B : Option Addr) (m d : Nat) (x : List (List Int × List Int)) (over q under : Nat) (l r l2 r2 : List Int) (w : World)
    (h : RI w A n xs) (h' : RU w B m x) (hs : Pl.sigOk xs = true) (hov : over < m) (hun : under < m) (hl : (l, r) = x.getD over ([], [])) (hl2 : (l2, r2) = x.getD under ([], [])) (T1 : Pl.termOk xs l = true) (T2 : Pl.termOk xs l2 = true) (hq : q < l.length) (hne : ¬ (over = under ∧ q = 0)) :
    Calls Try.prog 46 #[.agg #[.slice A n c, .slice B m d], .int .i64 over, .int .i64 q, .int .i64 under] w (OvD 95 (.slice A n c) w (Pl.nxt xs) (Pl.sub (Pl.nxt xs) l q) (l2.map (sh 24))) := by
  obtain ⟨g, off, rfl, hcs⟩ := h'.2 (by omega)
  obtain ⟨L, ml, dl, R, mr, dr, hcl, hcr, hL, hR, hld, hdd, _, _⟩ := hcs over hov
  obtain ⟨L2, ml2, dl2, R2, mr2, dr2, hcl2, hcr2, hL2, hR2, hld2, hdd2, _, _⟩ := hcs under hun
  rw [← hl] at hL
  rw [← hl2] at hL2
  have hgw := World.block_lt_of_cell? w _ hcl
  have t1 := (Pl.termOk_iff.1 T1).2.1
  have t2 := (Pl.termOk_iff.1 T2).2.1
  rw [hL.1] at t1
  rw [hL2.1] at t2
  have HT1 := Lib.hid T1
  have HT2 := Lib.hid T2
  have HS := Lib.hid hs
  have HQ := Lib.hid hq
  have i0 : (0 : Int) ≤ (over : Int) := by omega
  have i1 : (over : Int) < (m : Int) := by omega
  have i2 : (0 : Int) ≤ (under : Int) := by omega
  have i3 : (under : Int) < (m : Int) := by omega
  have HLL := Lib.hid (fun e : over = under => show l2 = l by rw [← e, ← hl] at hl2; exact congrArg Prod.fst hl2)
  clear hl hl2 hcs hs hq T1 T2
  by_cases hou : over = under
  · subst hou
    obtain rfl : l = l2 := (HLL.out rfl).symm
    clear HLL hcl2 hcr2 hcr hL2 HT2 t2
    have hq0 : ((q : Int) == 0) = false := by simp; omega
    go_enter Try.func46, Try.ntmps46
    go_wp2_with fail
    have hB0 : Below w.heap.size w ((w.alloc (.cells #[.slice A n c, .slice (some ⟨g, off, none⟩) m d] 33)).alloc (.cells #[.slice A n c, .slice none 0 0, .slice none 0 0, .slice none 0 0, .slice none 0 0, .slice none 0 0, .slice none 0 0, .slice none 0 0, .slice none 0 0, .slice none 0 0, .slice none 0 0, .slice none 0 0, .slice none 0 0, .slice none 0 0, .slice none 0 0, .slice none 0 0, .slice none 0 0, .slice none 0 0, .slice none 0 0, .slice none 0 0, .slice none 0 0, .slice none 0 0, .slice none 0 0, .slice none 0 0, .slice none 0 0, .slice none 0 0, .slice none 0 0, .slice none 0 0, .slice none 0 0, .slice none 0 0, .slice none 0 0, .slice none 0 0, .slice none 0 0, .slice none 0 0, .slice none 0 0, .slice none 0 0, .slice none 0 0, .slice none 0 0, .slice none 0 0, .slice none 0 0, .slice none 0 0, .slice none 0 0, .slice none 0 0, .slice none 0 0, .slice none 0 0, .slice none 0 0, .slice none 0 0, .slice none 0 0, .slice none 0 0] 95)) := ((Below.refl _ _).alloc (Nat.le_refl _) _).alloc (by simp) _
    have bk0 : Blk ((w.alloc (.cells #[.slice A n c, .slice (some ⟨g, off, none⟩) m d] 33)).alloc (.cells #[.slice A n c, .slice none 0 0, .slice none 0 0, .slice none 0 0, .slice none 0 0, .slice none 0 0, .slice none 0 0, .slice none 0 0, .slice none 0 0, .slice none 0 0, .slice none 0 0, .slice none 0 0, .slice none 0 0, .slice none 0 0, .slice none 0 0, .slice none 0 0, .slice none 0 0, .slice none 0 0, .slice none 0 0, .slice none 0 0, .slice none 0 0, .slice none 0 0, .slice none 0 0, .slice none 0 0, .slice none 0 0, .slice none 0 0, .slice none 0 0, .slice none 0 0, .slice none 0 0, .slice none 0 0, .slice none 0 0, .slice none 0 0, .slice none 0 0, .slice none 0 0, .slice none 0 0, .slice none 0 0, .slice none 0 0, .slice none 0 0, .slice none 0 0, .slice none 0 0, .slice none 0 0, .slice none 0 0, .slice none 0 0, .slice none 0 0, .slice none 0 0, .slice none 0 0, .slice none 0 0, .slice none 0 0, .slice none 0 0] 95)) w.heap.size 33 #[.slice A n c, .slice (some ⟨g, off, none⟩) m d] := (Blk.new w _ _).alloc _
    have bk1 : Blk ((w.alloc (.cells #[.slice A n c, .slice (some ⟨g, off, none⟩) m d] 33)).alloc (.cells #[.slice A n c, .slice none 0 0, .slice none 0 0, .slice none 0 0, .slice none 0 0, .slice none 0 0, .slice none 0 0, .slice none 0 0, .slice none 0 0, .slice none 0 0, .slice none 0 0, .slice none 0 0, .slice none 0 0, .slice none 0 0, .slice none 0 0, .slice none 0 0, .slice none 0 0, .slice none 0 0, .slice none 0 0, .slice none 0 0, .slice none 0 0, .slice none 0 0, .slice none 0 0, .slice none 0 0, .slice none 0 0, .slice none 0 0, .slice none 0 0, .slice none 0 0, .slice none 0 0, .slice none 0 0, .slice none 0 0, .slice none 0 0, .slice none 0 0, .slice none 0 0, .slice none 0 0, .slice none 0 0, .slice none 0 0, .slice none 0 0, .slice none 0 0, .slice none 0 0, .slice none 0 0, .slice none 0 0, .slice none 0 0, .slice none 0 0, .slice none 0 0, .slice none 0 0, .slice none 0 0, .slice none 0 0, .slice none 0 0] 95)) (w.heap.size + 1) 95 ([Value.slice A n c] ++ List.replicate 48 (Value.slice none 0 0)).toArray := by
      have := Blk.new (w.alloc (.cells #[.slice A n c, .slice (some ⟨g, off, none⟩) m d] 33)) 95 #[.slice A n c, .slice none 0 0, .slice none 0 0, .slice none 0 0, .slice none 0 0, .slice none 0 0, .slice none 0 0, .slice none 0 0, .slice none 0 0, .slice none 0 0, .slice none 0 0, .slice none 0 0, .slice none 0 0, .slice none 0 0, .slice none 0 0, .slice none 0 0, .slice none 0 0, .slice none 0 0, .slice none 0 0, .slice none 0 0, .slice none 0 0, .slice none 0 0, .slice none 0 0, .slice none 0 0, .slice none 0 0, .slice none 0 0, .slice none 0 0, .slice none 0 0, .slice none 0 0, .slice none 0 0, .slice none 0 0, .slice none 0 0, .slice none 0 0, .slice none 0 0, .slice none 0 0, .slice none 0 0, .slice none 0 0, .slice none 0 0, .slice none 0 0, .slice none 0 0, .slice none 0 0, .slice none 0 0, .slice none 0 0, .slice none 0 0, .slice none 0 0, .slice none 0 0, .slice none 0 0, .slice none 0 0, .slice none 0 0]
      rw [nil48]
      simpa only [World.size_alloc] using this
    generalize (w.alloc (.cells #[.slice A n c, .slice (some ⟨g, off, none⟩) m d] 33)).alloc (.cells #[.slice A n c, .slice none 0 0, .slice none 0 0, .slice none 0 0, .slice none 0 0, .slice none 0 0, .slice none 0 0, .slice none 0 0, .slice none 0 0, .slice none 0 0, .slice none 0 0, .slice none 0 0, .slice none 0 0, .slice none 0 0, .slice none 0 0, .slice none 0 0, .slice none 0 0, .slice none 0 0, .slice none 0 0, .slice none 0 0, .slice none 0 0, .slice none 0 0, .slice none 0 0, .slice none 0 0, .slice none 0 0, .slice none 0 0, .slice none 0 0, .slice none 0 0, .slice none 0 0, .slice none 0 0, .slice none 0 0, .slice none 0 0, .slice none 0 0, .slice none 0 0, .slice none 0 0, .slice none 0 0, .slice none 0 0, .slice none 0 0, .slice none 0 0, .slice none 0 0, .slice none 0 0, .slice none 0 0, .slice none 0 0, .slice none 0 0, .slice none 0 0, .slice none 0 0, .slice none 0 0, .slice none 0 0, .slice none 0 0] 95) = W at *
    have d0 : W.cell? ⟨w.heap.size, 0, none⟩ = some (.slice A n c) := by have := bk0.cell 0; simpa using this
    have d1 : W.cell? ⟨w.heap.size, 1, none⟩ = some (.slice (some ⟨g, off, none⟩) m d) := by have := bk0.cell 1; simpa using this
    have d2 := keepC hB0 hcl
    have d3 := keepC hB0 hcl
    have hWs := bk1.lt
    have hLW := sv_old (U := w.heap.size + 1) hL (by omega) hB0 hld hdd t1.1 t1.2
    have hSW := sg_old (U := w.heap.size + 1) h (by omega) hB0
    have BK1 := Lib.hid bk1
    clear bk0 bk1
    go_region_held3 (fun w' => Only (w.heap.size + 1) (w.heap.size + 1 + 1) W w' ∧ w'.cell? ⟨w.heap.size, 0, none⟩ = some (.slice A n c) ∧ w'.cell? ⟨w.heap.size, 1, none⟩ = some (.slice (some ⟨g, off, none⟩) m d) ∧ w'.cell? ⟨g, off + over * 2, none⟩ = some (.slice L ml dl) ∧ w'.cell? ⟨g, off + over * 2, none⟩ = some (.slice L ml dl))
      (first | exact ⟨⟨rfl, rfl, rfl, Nat.le_refl _, fun _ _ _ => rfl⟩, d0, d1, d2, d3⟩ | exact keepV ha1 ⟨⟨rfl, rfl, rfl, Nat.le_refl _, fun _ _ _ => rfl⟩, d0, d1, d2, d3⟩ | exact keepV ha2 (by assumption) | exact keepU ho3 (by dsimp only; omega) (by assumption))
      ((first | (go_at_call 65; refine (subAt_w _ W (w.heap.size + 1) A n c xs _ l q _ rfl hSW hLW ?_ HS.out (tm_ok HT1.out) HQ.out).mono ?_; exact ⟨rfl, rfl, rfl, Nat.le_refl _, fun _ _ _ => rfl⟩; rintro e w1 ⟨va, rfl, hva, ha1⟩; have hb01 := below_then hB0 (below_undrew1 ha1) hB0.size; have hs1 := (below_undrew1 ha1).size; have hv1 := hva.only (onlyV ha1); have bk1 := BK1.out.below (below_undrew1 ha1)) | (go_at_call 54; refine (away_any L ml dl l _ ?_ t1.2 (Pl.termOk_bd HT1.out)).mono ?_; exact hL.below hb01; rintro e w2 ⟨A2, c2, rfl, oi2, ha2⟩; have hb02 := below_then hb01 ha2 hb01.size; have hs2 := ha2.size; have hv2 := hv1.only (Only.of ha2); have bk2 := bk1.below ha2; have hw2 := sv_own (U := w.heap.size + 1) oi2 (by omega) t1.1 t1.2; have hsg2 := sg_old (U := w.heap.size + 1) h (by omega) hb02) | (go_at_call 64; refine (solve_any (Pl.nxt xs) (w.heap.size + 1) w2 A n c xs rfl hsg2 HS.out (by omega) _ _ _ (Pl.sub (Pl.nxt xs) l q) (l.map (sh 24)) va (.slice A2 ml c2) w2 (Un.good_zero (nxt_ar xs) 48) hv2 hw2 (wt_sub (wt_ok HT1.out) HQ.out) (wt_away HT1.out) (bnd0 bk2) (Only.refl _ _ _)).mono ?_; intro e w3 hsol; obtain ⟨bb, rfl, ho3, hyes, hno⟩ := solD_b hsol)))
    rename_i hS
    have hb3 : Below w.heap.size w w3 := hb02.trans (ho3.below (by omega) hb02.size)
    have hs3 := ho3.size
    have HY := Lib.hid hyes
    have HN := Lib.hid hno
    clear hS hyes hno bk1 bk2
    cases bb
    · have hcl := Lib.hid (Un.clash_none (HN.out rfl))
      go_wp2_with fail
      go_ret2
      exact ⟨hb3, w.heap.size + 1, by omega, by omega, .inr ⟨rfl, hcl.out⟩⟩
    · obtain ⟨B', hb', hst⟩ := HY.out rfl
      have HB' := Lib.hid hb'
      have HD := Lib.hid (Un.step_done hst)
      clear hb' hst
      go_wp2_with fail
      go_ret2
      exact ⟨hb3, w.heap.size + 1, by omega, by omega, .inl ⟨w2, B', rfl, hb02, by omega, ho3, HB'.out, HD.out⟩⟩
  · have hob : ((over : Int) == (under : Int)) = false := by simp; omega
    go_enter Try.func46, Try.ntmps46
    go_wp2_with fail
    have hB0 : Below w.heap.size w ((w.alloc (.cells #[.slice A n c, .slice (some ⟨g, off, none⟩) m d] 33)).alloc (.cells #[.slice A n c, .slice none 0 0, .slice none 0 0, .slice none 0 0, .slice none 0 0, .slice none 0 0, .slice none 0 0, .slice none 0 0, .slice none 0 0, .slice none 0 0, .slice none 0 0, .slice none 0 0, .slice none 0 0, .slice none 0 0, .slice none 0 0, .slice none 0 0, .slice none 0 0, .slice none 0 0, .slice none 0 0, .slice none 0 0, .slice none 0 0, .slice none 0 0, .slice none 0 0, .slice none 0 0, .slice none 0 0, .slice none 0 0, .slice none 0 0, .slice none 0 0, .slice none 0 0, .slice none 0 0, .slice none 0 0, .slice none 0 0, .slice none 0 0, .slice none 0 0, .slice none 0 0, .slice none 0 0, .slice none 0 0, .slice none 0 0, .slice none 0 0, .slice none 0 0, .slice none 0 0, .slice none 0 0, .slice none 0 0, .slice none 0 0, .slice none 0 0, .slice none 0 0, .slice none 0 0, .slice none 0 0, .slice none 0 0] 95)) := ((Below.refl _ _).alloc (Nat.le_refl _) _).alloc (by simp) _
    have bk0 : Blk ((w.alloc (.cells #[.slice A n c, .slice (some ⟨g, off, none⟩) m d] 33)).alloc (.cells #[.slice A n c, .slice none 0 0, .slice none 0 0, .slice none 0 0, .slice none 0 0, .slice none 0 0, .slice none 0 0, .slice none 0 0, .slice none 0 0, .slice none 0 0, .slice none 0 0, .slice none 0 0, .slice none 0 0, .slice none 0 0, .slice none 0 0, .slice none 0 0, .slice none 0 0, .slice none 0 0, .slice none 0 0, .slice none 0 0, .slice none 0 0, .slice none 0 0, .slice none 0 0, .slice none 0 0, .slice none 0 0, .slice none 0 0, .slice none 0 0, .slice none 0 0, .slice none 0 0, .slice none 0 0, .slice none 0 0, .slice none 0 0, .slice none 0 0, .slice none 0 0, .slice none 0 0, .slice none 0 0, .slice none 0 0, .slice none 0 0, .slice none 0 0, .slice none 0 0, .slice none 0 0, .slice none 0 0, .slice none 0 0, .slice none 0 0, .slice none 0 0, .slice none 0 0, .slice none 0 0, .slice none 0 0, .slice none 0 0] 95)) w.heap.size 33 #[.slice A n c, .slice (some ⟨g, off, none⟩) m d] := (Blk.new w _ _).alloc _
    have bk1 : Blk ((w.alloc (.cells #[.slice A n c, .slice (some ⟨g, off, none⟩) m d] 33)).alloc (.cells #[.slice A n c, .slice none 0 0, .slice none 0 0, .slice none 0 0, .slice none 0 0, .slice none 0 0, .slice none 0 0, .slice none 0 0, .slice none 0 0, .slice none 0 0, .slice none 0 0, .slice none 0 0, .slice none 0 0, .slice none 0 0, .slice none 0 0, .slice none 0 0, .slice none 0 0, .slice none 0 0, .slice none 0 0, .slice none 0 0, .slice none 0 0, .slice none 0 0, .slice none 0 0, .slice none 0 0, .slice none 0 0, .slice none 0 0, .slice none 0 0, .slice none 0 0, .slice none 0 0, .slice none 0 0, .slice none 0 0, .slice none 0 0, .slice none 0 0, .slice none 0 0, .slice none 0 0, .slice none 0 0, .slice none 0 0, .slice none 0 0, .slice none 0 0, .slice none 0 0, .slice none 0 0, .slice none 0 0, .slice none 0 0, .slice none 0 0, .slice none 0 0, .slice none 0 0, .slice none 0 0, .slice none 0 0, .slice none 0 0] 95)) (w.heap.size + 1) 95 ([Value.slice A n c] ++ List.replicate 48 (Value.slice none 0 0)).toArray := by
      have := Blk.new (w.alloc (.cells #[.slice A n c, .slice (some ⟨g, off, none⟩) m d] 33)) 95 #[.slice A n c, .slice none 0 0, .slice none 0 0, .slice none 0 0, .slice none 0 0, .slice none 0 0, .slice none 0 0, .slice none 0 0, .slice none 0 0, .slice none 0 0, .slice none 0 0, .slice none 0 0, .slice none 0 0, .slice none 0 0, .slice none 0 0, .slice none 0 0, .slice none 0 0, .slice none 0 0, .slice none 0 0, .slice none 0 0, .slice none 0 0, .slice none 0 0, .slice none 0 0, .slice none 0 0, .slice none 0 0, .slice none 0 0, .slice none 0 0, .slice none 0 0, .slice none 0 0, .slice none 0 0, .slice none 0 0, .slice none 0 0, .slice none 0 0, .slice none 0 0, .slice none 0 0, .slice none 0 0, .slice none 0 0, .slice none 0 0, .slice none 0 0, .slice none 0 0, .slice none 0 0, .slice none 0 0, .slice none 0 0, .slice none 0 0, .slice none 0 0, .slice none 0 0, .slice none 0 0, .slice none 0 0, .slice none 0 0]
      rw [nil48]
      simpa only [World.size_alloc] using this
    generalize (w.alloc (.cells #[.slice A n c, .slice (some ⟨g, off, none⟩) m d] 33)).alloc (.cells #[.slice A n c, .slice none 0 0, .slice none 0 0, .slice none 0 0, .slice none 0 0, .slice none 0 0, .slice none 0 0, .slice none 0 0, .slice none 0 0, .slice none 0 0, .slice none 0 0, .slice none 0 0, .slice none 0 0, .slice none 0 0, .slice none 0 0, .slice none 0 0, .slice none 0 0, .slice none 0 0, .slice none 0 0, .slice none 0 0, .slice none 0 0, .slice none 0 0, .slice none 0 0, .slice none 0 0, .slice none 0 0, .slice none 0 0, .slice none 0 0, .slice none 0 0, .slice none 0 0, .slice none 0 0, .slice none 0 0, .slice none 0 0, .slice none 0 0, .slice none 0 0, .slice none 0 0, .slice none 0 0, .slice none 0 0, .slice none 0 0, .slice none 0 0, .slice none 0 0, .slice none 0 0, .slice none 0 0, .slice none 0 0, .slice none 0 0, .slice none 0 0, .slice none 0 0, .slice none 0 0, .slice none 0 0, .slice none 0 0] 95) = W at *
    have d0 : W.cell? ⟨w.heap.size, 0, none⟩ = some (.slice A n c) := by have := bk0.cell 0; simpa using this
    have d1 : W.cell? ⟨w.heap.size, 1, none⟩ = some (.slice (some ⟨g, off, none⟩) m d) := by have := bk0.cell 1; simpa using this
    have d2 := keepC hB0 hcl
    have d3 := keepC hB0 hcl2
    have hWs := bk1.lt
    have hLW := sv_old (U := w.heap.size + 1) hL (by omega) hB0 hld hdd t1.1 t1.2
    have hSW := sg_old (U := w.heap.size + 1) h (by omega) hB0
    have BK1 := Lib.hid bk1
    clear bk0 bk1
    go_region_held3 (fun w' => Only (w.heap.size + 1) (w.heap.size + 1 + 1) W w' ∧ w'.cell? ⟨w.heap.size, 0, none⟩ = some (.slice A n c) ∧ w'.cell? ⟨w.heap.size, 1, none⟩ = some (.slice (some ⟨g, off, none⟩) m d) ∧ w'.cell? ⟨g, off + over * 2, none⟩ = some (.slice L ml dl) ∧ w'.cell? ⟨g, off + under * 2, none⟩ = some (.slice L2 ml2 dl2))
      (first | exact ⟨⟨rfl, rfl, rfl, Nat.le_refl _, fun _ _ _ => rfl⟩, d0, d1, d2, d3⟩ | exact keepV ha1 ⟨⟨rfl, rfl, rfl, Nat.le_refl _, fun _ _ _ => rfl⟩, d0, d1, d2, d3⟩ | exact keepV ha2 (by assumption) | exact keepU ho3 (by dsimp only; omega) (by assumption))
      ((first | (go_at_call 65; refine (subAt_w _ W (w.heap.size + 1) A n c xs _ l q _ rfl hSW hLW ?_ HS.out (tm_ok HT1.out) HQ.out).mono ?_; exact ⟨rfl, rfl, rfl, Nat.le_refl _, fun _ _ _ => rfl⟩; rintro e w1 ⟨va, rfl, hva, ha1⟩; have hb01 := below_then hB0 (below_undrew1 ha1) hB0.size; have hs1 := (below_undrew1 ha1).size; have hv1 := hva.only (onlyV ha1); have bk1 := BK1.out.below (below_undrew1 ha1)) | (go_at_call 54; refine (away_any L2 ml2 dl2 l2 _ ?_ t2.2 (Pl.termOk_bd HT2.out)).mono ?_; exact hL2.below hb01; rintro e w2 ⟨A2, c2, rfl, oi2, ha2⟩; have hb02 := below_then hb01 ha2 hb01.size; have hs2 := ha2.size; have hv2 := hv1.only (Only.of ha2); have bk2 := bk1.below ha2; have hw2 := sv_own (U := w.heap.size + 1) oi2 (by omega) t2.1 t2.2; have hsg2 := sg_old (U := w.heap.size + 1) h (by omega) hb02) | (go_at_call 64; refine (solve_any (Pl.nxt xs) (w.heap.size + 1) w2 A n c xs rfl hsg2 HS.out (by omega) _ _ _ (Pl.sub (Pl.nxt xs) l q) (l2.map (sh 24)) va (.slice A2 ml2 c2) w2 (Un.good_zero (nxt_ar xs) 48) hv2 hw2 (wt_sub (wt_ok HT1.out) HQ.out) (wt_away HT2.out) (bnd0 bk2) (Only.refl _ _ _)).mono ?_; intro e w3 hsol; obtain ⟨bb, rfl, ho3, hyes, hno⟩ := solD_b hsol)))
    rename_i hS
    have hb3 : Below w.heap.size w w3 := hb02.trans (ho3.below (by omega) hb02.size)
    have hs3 := ho3.size
    have HY := Lib.hid hyes
    have HN := Lib.hid hno
    clear hS hyes hno bk1 bk2
    cases bb
    · have hcl := Lib.hid (Un.clash_none (HN.out rfl))
      go_wp2_with fail
      go_ret2
      exact ⟨hb3, w.heap.size + 1, by omega, by omega, .inr ⟨rfl, hcl.out⟩⟩
    · obtain ⟨B', hb', hst⟩ := HY.out rfl
      have HB' := Lib.hid hb'
      have HD := Lib.hid (Un.step_done hst)
      clear hb' hst
      go_wp2_with fail
      go_ret2
      exact ⟨hb3, w.heap.size + 1, by omega, by omega, .inl ⟨w2, B', rfl, hb02, by omega, ho3, HB'.out, HD.out⟩⟩
end Go.Proofs.Ytcjgcopkeeiicaa
/-! Contracts: the places at which rules overlap, the program's way. -/

namespace Go.Proofs.Ytcjgcopkeeiicaa
open Go.RowKit
set_option linter.unusedVariables false
set_option linter.unusedSimpArgs false

/-- Can a place of l and l2 be made the same? -/
noncomputable def mtB (xs l l2 : List Int) (q : Nat) : Bool := @decide (Un.Meets (Pl.nxt xs) (Pl.sub (Pl.nxt xs) l q) (l2.map (sh 24))) (Classical.propDecidable _)
theorem mtB_yes {xs l l2 : List Int} {q : Nat} (h : Un.Meets (Pl.nxt xs) (Pl.sub (Pl.nxt xs) l q) (l2.map (sh 24))) : mtB xs l l2 q = true := by
  unfold mtB
  exact @decide_eq_true _ (Classical.propDecidable _) h
theorem mtB_no {xs l l2 : List Int} {q : Nat} (h : ¬ Un.Meets (Pl.nxt xs) (Pl.sub (Pl.nxt xs) l q) (l2.map (sh 24))) : mtB xs l l2 q = false := by
  unfold mtB
  exact @decide_eq_false _ (Classical.propDecidable _) h
noncomputable def ovB (xs l l2 : List Int) (same : Bool) (q : Nat) : Bool := decide (0 ≤ l.getD q 0) && !(same && decide (q = 0)) && mtB xs l l2 q
noncomputable def ovTo (xs l l2 : List Int) (same : Bool) (k : Nat) : List Nat := (List.range k).filter (ovB xs l l2 same)
theorem ovTo_zero (xs l l2 : List Int) (same : Bool) : ovTo xs l l2 same 0 = [] := rfl
theorem ovTo_yes {xs l l2 : List Int} {same : Bool} {k : Nat} (h : ovB xs l l2 same k = true) : ovTo xs l l2 same (k + 1) = ovTo xs l l2 same k ++ [k] := by
  unfold ovTo; rw [List.range_succ, List.filter_append]; simp [h]
theorem ovTo_no {xs l l2 : List Int} {same : Bool} {k : Nat} (h : ovB xs l l2 same k = false) : ovTo xs l l2 same (k + 1) = ovTo xs l l2 same k := by
  unfold ovTo; rw [List.range_succ, List.filter_append]; simp [h]
theorem ovTo_len (xs l l2 : List Int) (same : Bool) (k : Nat) : (ovTo xs l l2 same k).length ≤ k := by
  unfold ovTo; exact Nat.le_trans (List.length_filter_le _ _) (by simp)
theorem ovB_var {xs l l2 : List Int} {same : Bool} {q : Nat} (h : l.getD q 0 < 0) : ovB xs l l2 same q = false := by unfold ovB; rw [decide_eq_false (by omega)]; rfl
theorem ovB_self {xs l l2 : List Int} : ovB xs l l2 true 0 = false := by unfold ovB; simp
theorem ovB_mt {xs l l2 : List Int} {same : Bool} {q : Nat} (h : ¬ l.getD q 0 < 0) (hs : (same && decide (q = 0)) = false) : ovB xs l l2 same q = mtB xs l l2 q := by unfold ovB; rw [decide_eq_true (by omega), hs]; rfl
noncomputable def V_OverlapsIn (xs : List Int) (x : List (List Int × List Int)) (p q : Int) : List Int :=
  if systemOk xs x && inB p 0 ((x.length : Int) - 1) && inB q 0 ((x.length : Int) - 1) then nats (ovTo xs (x.getD p.toNat ([], [])).1 (x.getD q.toNat ([], [])).1 (decide (p = q)) (x.getD p.toNat ([], [])).1.length) else []
theorem overlapsIn_no {xs : List Int} {x : List (List Int × List Int)} {p q : Int} (h : (systemOk xs x && inB p 0 ((x.length : Int) - 1) && inB q 0 ((x.length : Int) - 1)) = false) : V_OverlapsIn xs x p q = [] := by unfold V_OverlapsIn; rw [h]; rfl
theorem overlapsIn_yes {xs : List Int} {x : List (List Int × List Int)} {over under : Nat} {l r l2 r2 : List Int} (h : systemOk xs x = true) (h1 : over < x.length) (h2 : under < x.length) (hl : (l, r) = x.getD over ([], [])) (hl2 : (l2, r2) = x.getD under ([], [])) :
    V_OverlapsIn xs x over under = nats (ovTo xs l l2 (decide (over = under)) l.length) := by
  unfold V_OverlapsIn
  rw [h, inB_mk (by omega), inB_mk (by omega), Int.toNat_natCast, Int.toNat_natCast, ← hl, ← hl2]
  have : decide ((over : Int) = (under : Int)) = decide (over = under) := by rw [Bool.eq_iff_iff]; simp only [decide_eq_true_eq]; omega
  rw [this]
  rfl
theorem bd_OverlapsIn (xs : List Int) (x : List (List Int × List Int)) (p q : Int) : (V_OverlapsIn xs x p q).length ≤ 60 := by
  unfold V_OverlapsIn
  split
  · rename_i h
    simp only [Bool.and_eq_true] at h
    obtain ⟨⟨h0, h1⟩, h2⟩ := h
    have h1' := inB_true h1
    obtain ⟨_, _, hr⟩ := systemOk_iff.1 h0
    have h3 := hr p.toNat (by omega)
    rw [nats_length]
    have := ovTo_len xs (x.getD p.toNat ([], [])).1 (x.getD q.toNat ([], [])).1 (decide (p = q)) (x.getD p.toNat ([], [])).1.length
    have h4 : Pl.termOk xs (x.getD p.toNat ([], [])).1 = true := by unfold ruleOk at h3; simp only [Bool.and_eq_true] at h3; exact h3.1.1.1
    have := (Pl.termOk_iff.1 h4).2.1
    omega
  · simp
theorem rule_term {xs l r : List Int} (h : ruleOk xs l r = true) : Pl.termOk xs l = true ∧ Pl.termOk xs r = true := by
  unfold ruleOk at h; simp only [Bool.and_eq_true] at h; exact ⟨h.1.1.1, h.1.1.2⟩
theorem sys_rule {xs : List Int} {x : List (List Int × List Int)} {k : Nat} {l r : List Int} (h : systemOk xs x = true) (hk : k < x.length) (hl : (l, r) = x.getD k ([], [])) : ruleOk xs l r = true := by
  have := (systemOk_iff.1 h).2.2 k hk
  rw [← hl] at this
  exact this
theorem ruleIn_any (A : Option Addr) (n c : Nat) (B : Option Addr) (m d : Nat) (k : Int) (w : World) :
    Calls Try.prog 27 #[.agg #[.slice A n c, .slice B m d], .int .i64 k] w fun e w' => e = .returned (.bool (inB k 0 ((m : Int) - 1))) ∧ Below w.heap.size w w' := by
  by_cases h0 : 0 ≤ k
  · have e0 : decide (0 ≤ k) = true := by simpa using h0
    have HE : Hid (decide (k < m) = inB k 0 ((m : Int) - 1)) := Lib.hid (by unfold inB; rw [Bool.eq_iff_iff]; simp; omega)
    go_enter Try.func27, Try.ntmps27
    go_wp2_with fail
    go_ret
    exact ⟨ret_bool HE.out, (Below.refl _ _).alloc (Nat.le_refl _) _⟩
  · have e0 : decide (0 ≤ k) = false := by simpa using h0
    have HE : Hid (inB k 0 ((m : Int) - 1) = false) := Lib.hid (inB_no (by omega))
    go_enter Try.func27, Try.ntmps27
    go_wp2_with fail
    go_ret
    exact ⟨ret_bool HE.out.symm, (Below.refl _ _).alloc (Nat.le_refl _) _⟩
set_option maxHeartbeats 1000000 in
set_option maxRecDepth 20000 in
theorem wide_any (A : Option Addr) (n c : Nat) (t : List Int) (w : World) (h : RI w A n t) (hn : n ≤ 60) :
    Calls Try.prog 28 #[.slice A n c] w fun e w' => ∃ A' c', e = .returned (.slice A' n c') ∧ OI w' w.heap.size A' n c' t ∧ Below w.heap.size w w' := by
  obtain ⟨i0, hi, hz0, hz1, hz2⟩ := info_parts infoInt64
  have hl := Lib.hid h.1
  go_enter Try.func28, Try.ntmps28
  go_wp2_with fail
  go_loopw [3, 8] (fun u i wr => ∃ (j : Nat) (A' : Option Addr) (c' : Nat), j ≤ n ∧ i = .int .i64 j ∧ u = .slice A' j c' ∧ Hid (OI wr w.heap.size A' j c' (t.take j)) ∧ Below w.heap.size w wr) (fun _ i _ => n - (intOf i).toNat)
  case atStart => exact ⟨0, _, _, Nat.zero_le _, rfl, rfl, Lib.hid (by rw [List.take_zero]; exact World.ownsRow_nil _ _ _ _), Below.refl _ _⟩
  case round =>
    obtain ⟨j, A', c', hj, rfl, rfl, ho, hb⟩ := hrel
    by_cases hlt : j < n
    · obtain ⟨g, off, x, rfl, hc, hx⟩ := (h.below hb).at_ hlt
      have HM := Lib.hid (take_snocI (by rw [hl.out]; exact hlt) hx.out)
      have hsz := hb.size
      clear hx
      have howa := Lib.hid (ownsRow_below ho.out ((Below.refl _ wr).alloc (Nat.le_refl _) (.cells #[.int .i64 x] 2)))
      go_wp2_with (at_builtin; refine wpList_append_any rfl _ _ 22 rfl w.heap.size 2 i0 (.int .i64 0) 1 8 Try.underlying22 hi hz0 hz1 hz2 rfl (by omega) A' j c' ((t.take j).map (Value.int .i64)) rfl howa.out _ 1 _ [.int .i64 x] rfl (Src.new _ [.int .i64 x] _ 1 1 rfl (by simp [Value.oneCell'])) (by unfold maxLen; omega) (by omega) (by simp; omega) ?_; intro A2 c2 w2 ho2 hg hnil; have hgb := app_below hg howa.out hsz)
      have hb2 := hb.trans hgb
      have hO2 : Hid (OI w2 w.heap.size A2 (j + 1) c2 (t.take (j + 1))) := Lib.hid (by rw [HM.out]; unfold OI; rw [List.map_append]; exact ho2)
      clear hgb howa ho ho2 hg hb
      go_roundw
      case rel => exact ⟨j + 1, A2, c2, by omega, by go_num, rfl, hO2, hb2⟩
      case measure => simp [intOf]; omega
    · have hjm : j = n := by omega
      subst hjm
      have HE : Hid (OI wr w.heap.size A' j c' t) := by have := ho.out; rw [List.take_of_length_le (by rw [hl.out]; exact Nat.le_refl _)] at this; exact Lib.hid this
      go_wp2_with fail
      go_ret
      exact ⟨A', c', rfl, HE.out, hb⟩
/-- What a try to bring two rules together tells. -/
def OvB (w : World) (b : Bool) (e : Ending) (w' : World) : Prop := Below w.heap.size w w' ∧ ∃ v, e = .returned (.tuple #[v, .bool b])
theorem ovD_b {T : TypeId} {sg : Value} {w w' : World} {xs l l2 : List Int} {q : Nat} {e : Ending} (h : OvD T sg w (Pl.nxt xs) (Pl.sub (Pl.nxt xs) l q) (l2.map (sh 24)) e w') : OvB w (mtB xs l l2 q) e w' := by
  obtain ⟨h1, U, _, _, ⟨w0, B', rfl, _, _, _, _, hd⟩ | ⟨rfl, hn⟩⟩ := h
  · exact ⟨h1, _, by rw [mtB_yes hd.meets]⟩
  · exact ⟨h1, _, by rw [mtB_no hn]⟩
theorem overlap_b (A : Option Addr) (n c : Nat) (xs : List Int) (B : Option Addr) (m d : Nat) (x : List (List Int × List Int)) (over q under : Nat) (l r l2 r2 : List Int) (w : World)
    (h : RI w A n xs) (h' : RU w B m x) (hs : Pl.sigOk xs = true) (hov : over < m) (hun : under < m) (hl : (l, r) = x.getD over ([], [])) (hl2 : (l2, r2) = x.getD under ([], [])) (T1 : Pl.termOk xs l = true) (T2 : Pl.termOk xs l2 = true) (hq : q < l.length) (h0 : 0 ≤ l.getD q 0) :
    Calls Try.prog 46 #[.agg #[.slice A n c, .slice B m d], .int .i64 over, .int .i64 q, .int .i64 under] w (OvB w (ovB xs l l2 (decide (over = under)) q)) := by
  by_cases hne : over = under ∧ q = 0
  · obtain ⟨rfl, rfl⟩ := hne
    refine (overlap_self _ _ over w).mono ?_
    rintro e w' ⟨rfl, hb⟩
    exact ⟨hb, _, by rw [decide_eq_true rfl, ovB_self]⟩
  · refine (overlap_any A n c xs B m d x over q under l r l2 r2 w h h' hs hov hun hl hl2 T1 T2 hq hne).mono ?_
    intro e w' he
    rw [ovB_mt (by omega) (by rw [Bool.and_eq_false_iff]; simp only [decide_eq_false_iff_not]; omega)]
    exact ovD_b he
set_option maxHeartbeats 2000000 in
set_option maxRecDepth 20000 in
theorem overlaps_any (A : Option Addr) (n c : Nat) (xs : List Int) (B : Option Addr) (m d : Nat) (x : List (List Int × List Int)) (over under : Nat) (l r l2 r2 : List Int) (w : World)
    (h : RI w A n xs) (h' : RU w B m x) (hs : Pl.sigOk xs = true) (hov : over < m) (hun : under < m) (hl : (l, r) = x.getD over ([], [])) (hl2 : (l2, r2) = x.getD under ([], [])) (T1 : Pl.termOk xs l = true) (T2 : Pl.termOk xs l2 = true) :
    Calls Try.prog 29 #[.agg #[.slice A n c, .slice B m d], .int .i64 over, .int .i64 under] w fun e w' => ∃ A' c', e = .returned (.slice A' (ovTo xs l l2 (decide (over = under)) l.length).length c') ∧ OJ w' w.heap.size A' (ovTo xs l l2 (decide (over = under)) l.length).length c' (nats (ovTo xs l l2 (decide (over = under)) l.length)) ∧ Below w.heap.size w w' := by
  obtain ⟨i0, hi, hz0, hz1, hz2⟩ := info_parts infoInt
  obtain ⟨g, off, rfl, hcs⟩ := h'.2 (by omega)
  obtain ⟨L, ml, dl, R, mr, dr, hcl, hcr, hL, hR, hld, hdd, _, _⟩ := hcs over hov
  rw [← hl] at hL
  have hL := hL
  have t1 := (Pl.termOk_iff.1 T1).2.1
  have hll := hL.1
  rw [hll] at t1
  have HLL := Lib.hid hll
  have HLE := Lib.hid hl
  have HLE2 := Lib.hid hl2
  have HT1 := Lib.hid T1
  have HT2 := Lib.hid T2
  have HS := Lib.hid hs
  have i0' : (0 : Int) ≤ (over : Int) := by omega
  have i1 : (over : Int) < (m : Int) := by omega
  rw [hll]
  have hcr2 := hcr
  clear hl hl2 hcs hs T1 T2 hll hR hcr2
  obtain ⟨same, hsm⟩ : ∃ same, decide (over = under) = same := ⟨_, rfl⟩
  have HSM := Lib.hid hsm
  rw [hsm]
  clear hsm
  have hB0 : Below w.heap.size w (w.alloc (.cells #[.slice A n c, .slice (some ⟨g, off, none⟩) m d] 33)) := (Below.refl _ _).alloc (Nat.le_refl _) _
  have hc0 := keepC hB0 hcl
  go_enter Try.func29, Try.ntmps29
  go_wp2_with fail
  have bk0 : Blk (w.alloc (.cells #[.slice A n c, .slice (some ⟨g, off, none⟩) m d] 33)) w.heap.size 33 #[.slice A n c, .slice (some ⟨g, off, none⟩) m d] := Blk.new w _ _
  have hs0 : w.heap.size < (w.alloc (.cells #[.slice A n c, .slice (some ⟨g, off, none⟩) m d] 33)).heap.size := bk0.lt
  clear hc0 hcl hcr
  generalize w.alloc (.cells #[.slice A n c, .slice (some ⟨g, off, none⟩) m d] 33) = W0 at *
  have BK0 := Lib.hid bk0
  clear bk0
  go_loopw [7, 19] (fun u i wr => ∃ (k : Nat) (A' : Option Addr) (c' j : Nat), k ≤ ml ∧ i = .int .i64 k ∧ u = .slice A' j c' ∧ Hid (j = (ovTo xs l l2 same k).length) ∧ Hid (OJ wr (w.heap.size + 1) A' j c' (nats (ovTo xs l l2 same k))) ∧ Below w.heap.size w wr ∧ Hid (Blk wr w.heap.size 33 #[.slice A n c, .slice (some ⟨g, off, none⟩) m d])) (fun _ i _ => ml - (intOf i).toNat)
  case atStart => exact ⟨0, _, _, 0, Nat.zero_le _, rfl, rfl, Lib.hid rfl, Lib.hid (World.ownsRow_nil _ _ _ _), hB0, BK0⟩
  case round =>
    obtain ⟨k, A', c', j, hk, rfl, rfl, hj, ho, hb, hbk⟩ := hrel
    by_cases hlt : k < ml
    · obtain ⟨gl, ol, y, rfl, hc, hy⟩ := (hL.below hb).at_ hlt
      have hjk : j ≤ 60 := by have := ovTo_len xs l l2 same k; rw [hj.out]; omega
      have hsz := hbk.out.lt
      have b0 : wr.cell? ⟨w.heap.size, 0, none⟩ = some (.slice A n c) := by have := hbk.out.cell 0; simpa using this
      have b1 : wr.cell? ⟨w.heap.size, 1, none⟩ = some (.slice (some ⟨g, off, none⟩) m d) := by have := hbk.out.cell 1; simpa using this
      cases hy0 : decide (y < 0)
      · have hn0 : 0 ≤ l.getD k 0 := by rw [← hy.out]; simpa using hy0
        have HN0 := Lib.hid hn0
        clear hn0 hy
        go_wp2_with fail
        refine (overlap_b A n c xs (some ⟨g, off, none⟩) m d x over k under l r l2 r2 _ (h.below hb) (h'.below hb) HS.out hov hun HLE.out HLE2.out HT1.out HT2.out (by rw [HLL.out]; exact hlt) HN0.out).mono ?_
        rintro e w1 ⟨hb1, v1, rfl⟩
        rw [HSM.out]
        have hB1 := below_then hb hb1 hb.size
        have hbk1 := Lib.hid (hbk.out.below hb1)
        have ho1 : Hid (OJ w1 (w.heap.size + 1) A' j c' (nats (ovTo xs l l2 same k))) := ownsRow_below ho.out hb1
        have hsz1 := hbk1.out.lt
        cases hov1 : ovB xs l l2 same k
        · have HS1 := Lib.hid (ovTo_no hov1)
          clear hb1 ho hbk hb b0 b1 hc
          go_wp2_with fail
          go_roundw
          case rel => exact ⟨k + 1, A', c', j, by omega, by go_num, rfl, Lib.hid (by rw [HS1.out]; exact hj.out), Lib.hid (by rw [HS1.out]; exact ho1.out), hB1, hbk1⟩
          case measure => simp [intOf]; omega
        · have HS1 := Lib.hid (ovTo_yes hov1)
          clear hb1 ho hbk hb b0 b1 hc
          have howa := Lib.hid (ownsRow_below ho1.out ((Below.refl _ w1).alloc (Nat.le_refl _) (.cells #[.int .i64 k] 3)))
          go_wp2_with (at_builtin; refine wpList_append_any rfl _ _ 57 rfl (w.heap.size + 1) 3 i0 (.int .i64 0) 1 8 Try.underlying57 hi hz0 hz1 hz2 rfl (by omega) A' j c' ((nats (ovTo xs l l2 same k)).map (Value.int .i64)) rfl howa.out _ 1 _ [.int .i64 k] rfl (Src.new _ [.int .i64 k] _ 1 1 rfl (by simp [Value.oneCell'])) (by unfold maxLen; omega) (by omega) (by simp; omega) ?_; intro A2 c2 w2 ho2 hg hnil; (have hgb := app_below hg howa.out (by omega)))
          have hb2 := hB1.trans (hgb.mono (by omega))
          have hbk2 : Hid (Blk w2 w.heap.size 33 #[.slice A n c, .slice (some ⟨g, off, none⟩) m d]) := Lib.hid ((hgb.block _ (by omega)).trans hbk1.out)
          have hO2 : Hid (OJ w2 (w.heap.size + 1) A2 (j + 1) c2 (nats (ovTo xs l l2 same (k + 1)))) := Lib.hid (by rw [HS1.out, nats_snoc]; unfold OJ; rw [List.map_append]; exact ho2)
          clear hgb howa ho1 ho2 hg hB1 hbk1
          go_roundw
          case rel => exact ⟨k + 1, A2, c2, j + 1, by omega, by go_num, rfl, Lib.hid (by rw [HS1.out, List.length_append, ← hj.out]; rfl), hO2, hb2, hbk2⟩
          case measure => simp [intOf]; omega
      · have hn0 : l.getD k 0 < 0 := by rw [← hy.out]; simpa using hy0
        have HS1 := Lib.hid (ovTo_no (ovB_var (xs := xs) (l2 := l2) (same := same) hn0))
        clear hn0 hy
        go_wp2_with fail
        go_roundw
        case rel => exact ⟨k + 1, A', c', j, by omega, by go_num, rfl, Lib.hid (by rw [HS1.out]; exact hj.out), Lib.hid (by rw [HS1.out]; exact ho.out), hb, hbk⟩
        case measure => simp [intOf]; omega
    · have hkm : k = ml := by omega
      subst hkm
      go_wp2_with fail
      go_ret
      exact ⟨A', c', by rw [← hj.out]; rfl, ownsRow_base (by rw [← hj.out]; exact ho.out) (by omega), hb⟩
set_option maxHeartbeats 1000000 in
set_option maxRecDepth 20000 in
theorem I_OverlapsIn (A : Option Addr) (n c : Nat) (xs : List Int) (B : Option Addr) (m d : Nat) (x : List (List Int × List Int)) (p q : Int) (w : World) (h : RI w A n xs) (h' : RU w B m x) (hs : n + wtU x ≤ 1048576) :
    Calls Try.prog 8 #[.agg #[.slice A n c, .slice B m d], .int .i64 p, .int .i64 q] w fun e w' => ∃ A' c', e = .returned (.slice A' (V_OverlapsIn xs x p q).length c') ∧ OI w' w.heap.size A' (V_OverlapsIn xs x p q).length c' (V_OverlapsIn xs x p q) ∧ Below w.heap.size w w' := by
  have hl := h'.1
  cases hS : systemOk xs x
  · have HE := overlapsIn_no (p := p) (q := q) (x := x) (xs := xs) (by rw [hS]; rfl)
    rw [HE]
    have HS := Lib.hid hS
    clear HE hl hS
    go_enter Try.func8, Try.ntmps8
    go_wp2_with fail
    refine (implSystemOk_any A n c xs B m d x _ (h.alloc _) (h'.alloc _) hs).mono ?_
    rintro e w1 ⟨rfl, hb1⟩
    rw [HS.out]
    have hB : Below w.heap.size w w1 := below_then ((Below.refl _ _).alloc (Nat.le_refl _) _) hb1 (by simp)
    go_wp2_with fail
    go_ret
    exact ⟨none, 0, rfl, World.ownsRow_nil _ _ _ _, hB⟩
  · cases hp : inB p 0 ((m : Int) - 1)
    · have HE := overlapsIn_no (p := p) (q := q) (x := x) (xs := xs) (by rw [hS, hl, hp]; rfl)
      rw [HE]
      have HS := Lib.hid hS
      have HP := Lib.hid hp
      clear HE hl hS hp
      go_enter Try.func8, Try.ntmps8
      go_wp2_with fail
      refine (implSystemOk_any A n c xs B m d x _ (h.alloc _) (h'.alloc _) hs).mono ?_
      rintro e w1 ⟨rfl, hb1⟩
      rw [HS.out]
      have hB : Below w.heap.size w w1 := below_then ((Below.refl _ _).alloc (Nat.le_refl _) _) hb1 (by simp)
      have b0 : w1.cell? ⟨w.heap.size, 0, none⟩ = some (.slice A n c) := (hb1.cell (by simp)).trans (by simp)
      have b1 : w1.cell? ⟨w.heap.size, 1, none⟩ = some (.slice B m d) := (hb1.cell (by simp)).trans (by simp)
      clear hb1
      go_wp2_with fail
      refine (ruleIn_any A n c B m d p _).mono ?_
      rintro e w2 ⟨rfl, hb2⟩
      rw [HP.out]
      go_wp2_with fail
      go_ret
      exact ⟨none, 0, rfl, World.ownsRow_nil _ _ _ _, below_then hB hb2 hB.size⟩
    · cases hq : inB q 0 ((m : Int) - 1)
      · have HE := overlapsIn_no (p := p) (q := q) (x := x) (xs := xs) (by rw [hS, hl, hp, hq]; rfl)
        rw [HE]
        have HS := Lib.hid hS
        have HP := Lib.hid hp
        have HQ := Lib.hid hq
        clear HE hl hS hp hq
        go_enter Try.func8, Try.ntmps8
        go_wp2_with fail
        refine (implSystemOk_any A n c xs B m d x _ (h.alloc _) (h'.alloc _) hs).mono ?_
        rintro e w1 ⟨rfl, hb1⟩
        rw [HS.out]
        have hB : Below w.heap.size w w1 := below_then ((Below.refl _ _).alloc (Nat.le_refl _) _) hb1 (by simp)
        have b0 : w1.cell? ⟨w.heap.size, 0, none⟩ = some (.slice A n c) := (hb1.cell (by simp)).trans (by simp)
        have b1 : w1.cell? ⟨w.heap.size, 1, none⟩ = some (.slice B m d) := (hb1.cell (by simp)).trans (by simp)
        clear hb1
        go_wp2_with fail
        refine (ruleIn_any A n c B m d p _).mono ?_
        rintro e w2 ⟨rfl, hb2⟩
        rw [HP.out]
        replace b0 := keepC hb2 b0
        replace b1 := keepC hb2 b1
        replace hB := below_then hB hb2 hB.size
        clear hb2
        go_wp2_with fail
        refine (ruleIn_any A n c B m d q _).mono ?_
        rintro e w3 ⟨rfl, hb3⟩
        rw [HQ.out]
        go_wp2_with fail
        go_ret
        exact ⟨none, 0, rfl, World.ownsRow_nil _ _ _ _, below_then hB hb3 hB.size⟩
      · have hp' := inB_true hp
        have hq' := inB_true hq
        obtain ⟨over, rfl⟩ : ∃ k : Nat, p = k := ⟨p.toNat, by omega⟩
        obtain ⟨under, rfl⟩ : ∃ k : Nat, q = k := ⟨q.toNat, by omega⟩
        have hov : over < m := by omega
        have hun : under < m := by omega
        obtain ⟨⟨l, r⟩, hlr⟩ : ∃ z, z = x.getD over ([], []) := ⟨_, rfl⟩
        obtain ⟨⟨l2, r2⟩, hlr2⟩ : ∃ z, z = x.getD under ([], []) := ⟨_, rfl⟩
        have HE := overlapsIn_yes hS (by omega) (by omega) hlr hlr2
        rw [HE]
        have hT1 := Lib.hid (rule_term (sys_rule hS (by omega) hlr)).1
        have hT2 := Lib.hid (rule_term (sys_rule hS (by omega) hlr2)).1
        have hbd : (nats (ovTo xs l l2 (decide (over = under)) l.length)).length ≤ 60 := by rw [← HE]; exact bd_OverlapsIn _ _ _ _
        have HS := Lib.hid hS
        have HP := Lib.hid hp
        have HQ := Lib.hid hq
        have HSG := Lib.hid (systemOk_iff.1 hS).1
        have HLR := Lib.hid hlr
        have HLR2 := Lib.hid hlr2
        clear HE hl hS hp hq hlr hlr2 hp' hq'
        go_enter Try.func8, Try.ntmps8
        go_wp2_with fail
        refine (implSystemOk_any A n c xs B m d x _ (h.alloc _) (h'.alloc _) hs).mono ?_
        rintro e w1 ⟨rfl, hb1⟩
        rw [HS.out]
        have hB : Below w.heap.size w w1 := below_then ((Below.refl _ _).alloc (Nat.le_refl _) _) hb1 (by simp)
        have b0 : w1.cell? ⟨w.heap.size, 0, none⟩ = some (.slice A n c) := (hb1.cell (by simp)).trans (by simp)
        have b1 : w1.cell? ⟨w.heap.size, 1, none⟩ = some (.slice B m d) := (hb1.cell (by simp)).trans (by simp)
        clear hb1
        go_wp2_with fail
        refine (ruleIn_any A n c B m d over _).mono ?_
        rintro e w2 ⟨rfl, hb2⟩
        rw [HP.out]
        replace b0 := keepC hb2 b0
        replace b1 := keepC hb2 b1
        replace hB := below_then hB hb2 hB.size
        clear hb2
        go_wp2_with fail
        refine (ruleIn_any A n c B m d under _).mono ?_
        rintro e w3 ⟨rfl, hb3⟩
        rw [HQ.out]
        replace b0 := keepC hb3 b0
        replace b1 := keepC hb3 b1
        replace hB := below_then hB hb3 hB.size
        clear hb3
        go_wp2_with fail
        refine (overlaps_any A n c xs B m d x over under l r l2 r2 _ (h.below hB) (h'.below hB) HSG.out hov hun HLR.out HLR2.out hT1.out hT2.out).mono ?_
        rintro e w4 ⟨A1, c1, rfl, oj, hb4⟩
        replace hB := below_then hB hb4 hB.size
        rw [nats_length] at hbd
        go_wp2_with fail
        refine (wide_any A1 _ c1 _ _ oj.ri hbd).mono ?_
        rintro e w5 ⟨A2, c2, rfl, oi, hb5⟩
        go_wp2_with fail
        go_ret
        rw [nats_length]
        exact ⟨A2, c2, rfl, oi.base hB.size, below_then hB hb5 hB.size⟩
end Go.Proofs.Ytcjgcopkeeiicaa
