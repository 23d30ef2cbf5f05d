/- Contracts: the places at which rules overlap, the reference's way. -/
import Derived.Test.YtcjgcopkeeiicaaOvl
import Derived.Test.YtcjgcopkeeiicaaMeet
namespace Go.Proofs.Ytcjgcopkeeiicaa
open Go.RowKit
set_option linter.unusedVariables false
set_option linter.unusedSimpArgs false

theorem meD_b {T : TypeId} {w0 w w' : World} {G : Nat} {f : Int → Int} {s t : List Int} {e : Ending} (h : MeD T w0 w G f s t e w') :
    ∃ b, e = .returned (.bool b) ∧ Only G (G + 1) w w' ∧ (b = true → ∃ B', Bnd w0 w' G T [] B' ∧ Un.Done f B' s t) ∧ (b = false → ¬ Un.Meets f s t) := by
  obtain ⟨h1, ⟨B', rfl, h2, h3⟩ | ⟨rfl, h2⟩⟩ := h
  · exact ⟨true, rfl, h1, (fun _ => ⟨B', h2, h3⟩), (fun h => by cases h)⟩
  · exact ⟨false, rfl, h1, (fun h => by cases h), (fun _ => h2)⟩
/-- How the reference's try to bring two rules together ends. -/
def TrD (T : TypeId) (w : World) (f : Int → Int) (s t : List Int) (e : Ending) (w' : World) : Prop :=
  Below w.heap.size w w' ∧ ∃ p G, w.heap.size ≤ G ∧ G < w'.heap.size ∧ w.heap.size ≤ p ∧ p ≠ G ∧
    ((∃ w0 B', e = .returned (.tuple #[.pointer (some ⟨p, 0, none⟩), .bool true]) ∧ Below w.heap.size w w0 ∧ G < w0.heap.size ∧ w'.cell? ⟨p, 0, none⟩ = some (.slice (some ⟨G, 0, none⟩) 48 48) ∧ Only G (G + 1) w0 w' ∧ Bnd w0 w' G T [] B' ∧ Un.Done f B' s t) ∨
     (e = .returned (.tuple #[.pointer (some ⟨p, 0, none⟩), .bool false]) ∧ ¬ Un.Meets f s t))
theorem SV.below_ {w0 w : World} {U : Nat} {v : Value} {t : List Int} (h : SV w0 U v t) (hb : Below w0.heap.size w0 w) : SV w U v t := h.only (Only.of hb)
theorem nil_rep : (madeCells (Value.slice none 0 0).cells (48 * 1)).toList = List.replicate 48 (Value.slice none 0 0) := by
  rw [show (Value.slice none 0 0).cells = #[.slice none 0 0] by rfl, toList_madeCells_one]
theorem keepX {U : Nat} {W w1 w2 : World} {p q r s o : Addr} {x y z u v : Value} (hb : Below w1.heap.size w1 w2) (h : Only U (U + 1) W w1 ∧ w1.cell? p = some x ∧ w1.cell? q = some y ∧ w1.cell? r = some z ∧ w1.cell? s = some u ∧ w1.cell? o = some v) :
    Only U (U + 1) W w2 ∧ w2.cell? p = some x ∧ w2.cell? q = some y ∧ w2.cell? r = some z ∧ w2.cell? s = some u ∧ w2.cell? o = some v :=
  ⟨h.1.trans (Only.of hb), keepC hb h.2.1, keepC hb h.2.2.1, keepC hb h.2.2.2.1, keepC hb h.2.2.2.2.1, keepC hb h.2.2.2.2.2⟩
theorem keepY {U : Nat} {W w1 w2 : World} {p q r s o : Addr} {x y z u v : Value} (ho : Only U (U + 1) w1 w2) (hp : p.block ≠ U ∧ q.block ≠ U ∧ r.block ≠ U ∧ s.block ≠ U ∧ o.block ≠ U) (h : Only U (U + 1) W w1 ∧ w1.cell? p = some x ∧ w1.cell? q = some y ∧ w1.cell? r = some z ∧ w1.cell? s = some u ∧ w1.cell? o = some v) :
    Only U (U + 1) W w2 ∧ w2.cell? p = some x ∧ w2.cell? q = some y ∧ w2.cell? r = some z ∧ w2.cell? s = some u ∧ w2.cell? o = some v :=
  ⟨h.1.trans ho, keepO ho (by omega) h.2.1, keepO ho (by omega) h.2.2.1, keepO ho (by omega) h.2.2.2.1, keepO ho (by omega) h.2.2.2.2.1, keepO ho (by omega) h.2.2.2.2.2⟩
theorem l11Rule_any (A : Option Addr) (n c : Nat) (B : Option Addr) (m d : Nat) (k : Int) (w : World) (hm : m ≤ 1048576) :
    Calls Try.prog 22 #[.agg #[.slice A n c, .slice B m d], .int .i64 k] w fun e w' => e = .returned (.bool (inB k 0 ((m : Int) - 1))) ∧ Below w.heap.size w w' := by
  go_enter Try.func22, Try.ntmps22
  go_wp2_with fail
  refine (l1In_any _ _ _ _).mono ?_
  rintro e w1 ⟨rfl, rfl⟩
  go_wp2_with fail
  go_ret
  exact ⟨rfl, (Below.refl _ _).alloc (Nat.le_refl _) _⟩
set_option maxHeartbeats 4000000 in
set_option maxRecDepth 20000 in
theorem l11Try_any (A : Option Addr) (n c : Nat) (xs : List Int) (B : Option Addr) (m d : Nat) (x : List (List Int × List Int)) (over q under : Nat) (l r l2 r2 : List Int) (w : World)
    (h : RI w A n xs) (h' : RU w B m x) (hs : Pl.sigOk xs = true) (hov : over < m) (hun : under < m) (hl : (l, r) = x.getD over ([], [])) (hl2 : (l2, r2) = x.getD under ([], [])) (T1 : Pl.termOk xs l = true) (T2 : Pl.termOk xs l2 = true) (hq : q < l.length) :
    Calls Try.prog 41 #[.agg #[.slice A n c, .slice B m d], .int .i64 over, .int .i64 q, .int .i64 under] w (TrD 22 w (Pl.nxt xs) (Pl.sub (Pl.nxt xs) l q) (l2.map (sh 24))) := by
  obtain ⟨j0, hi, iz0, iz1, iz2⟩ := info_parts infoSliceW
  obtain ⟨g, off, rfl, hcs⟩ := h'.2 (by omega)
  obtain ⟨L, ml, dl, R, mr, dr, hcl, hcr, hL, hR, hld, hdd, _, _⟩ := hcs over hov
  obtain ⟨L2, ml2, dl2, R2, mr2, dr2, hcl2, hcr2, hL2, hR2, hld2, hdd2, _, _⟩ := hcs under hun
  rw [← hl] at hL
  rw [← hl2] at hL2
  have hgw := World.block_lt_of_cell? w _ hcl
  have t1 := (Pl.termOk_iff.1 T1).2.1
  have t2 := (Pl.termOk_iff.1 T2).2.1
  have hl1 := hL.1
  rw [hL.1] at t1
  rw [hL2.1] at t2
  have HT1 := Lib.hid T1
  have HT2 := Lib.hid T2
  have HS := Lib.hid hs
  have HQ := Lib.hid hq
  have HML := Lib.hid hl1
  have i0 : (0 : Int) ≤ (over : Int) := by omega
  have i1 : (over : Int) < (m : Int) := by omega
  have i2 : (0 : Int) ≤ (under : Int) := by omega
  have i3 : (under : Int) < (m : Int) := by omega
  clear hl hl2 hcs hs hq T1 T2 hcr hcr2 hl1
  have hB0 : Below w.heap.size w (w.alloc (.cells #[.slice A n c, .slice (some ⟨g, off, none⟩) m d] 33)) := (Below.refl _ _).alloc (Nat.le_refl _) _
  have bk0 : Blk (w.alloc (.cells #[.slice A n c, .slice (some ⟨g, off, none⟩) m d] 33)) w.heap.size 33 #[.slice A n c, .slice (some ⟨g, off, none⟩) m d] := Blk.new w _ _
  have hs0 := bk0.lt
  have c0 : (w.alloc (.cells #[.slice A n c, .slice (some ⟨g, off, none⟩) m d] 33)).cell? ⟨w.heap.size, 0, none⟩ = some (.slice A n c) := by simp
  have c1 : (w.alloc (.cells #[.slice A n c, .slice (some ⟨g, off, none⟩) m d] 33)).cell? ⟨w.heap.size, 1, none⟩ = some (.slice (some ⟨g, off, none⟩) m d) := by simp
  have c2 := keepC hB0 hcl
  have c3 := keepC hB0 hcl2
  go_enter Try.func41, Try.ntmps41
  go_wp2_with (at_make; (refine wpList_make_full _ rfl _ _ 85 rfl (w.heap.size + 1) 22 j0 (.slice none 0 0) 1 Try.underlying85 hi iz0 iz1 .i64 .i64 _ _ 48 rfl rfl rfl rfl (by rw [iz2]; omega) (by unfold maxLen; omega) (by simp) ?_); intro w1 hown hg; have hb1 : Below (w.heap.size + 1) (w.alloc (.cells #[.slice A n c, .slice (some ⟨g, off, none⟩) m d] 33)) w1 := (Below.refl _ _).grown hg (by simp) (by simp); have hbA : Below w1.heap.size w1 (w1.alloc (.cells #[.slice (some ⟨w.heap.size + 1, 0, none⟩) 48 48] 91)) := (Below.refl _ _).alloc (Nat.le_refl _) _; have d0 := keepC hbA ((hb1.cell (p := ⟨w.heap.size, 0, none⟩) (Nat.lt_succ_self _)).trans c0); have d1 := keepC hbA ((hb1.cell (p := ⟨w.heap.size, 1, none⟩) (Nat.lt_succ_self _)).trans c1); have d2 := keepC hbA ((hb1.cell (p := ⟨g, off + over * 2, none⟩) (Nat.lt_succ_of_lt hgw)).trans c2); have d3 := keepC hbA ((hb1.cell (p := ⟨g, off + under * 2, none⟩) (Nat.lt_succ_of_lt hgw)).trans c3))
  rw [nil_rep] at hown
  simp only [World.size_alloc] at hown
  have hS1 : w.heap.size + 1 < w1.heap.size := (World.ownsRow.lt hown (w.heap.size + 1) rfl).2
  have hB1 : Below w.heap.size w w1 := hB0.trans (hb1.mono (by omega))
  have hBW := hB1.alloc hB1.size (.cells #[.slice (some ⟨w.heap.size + 1, 0, none⟩) 48 48] 91)
  have bkG := Lib.hid ((own_blk hown).alloc (.cells #[.slice (some ⟨w.heap.size + 1, 0, none⟩) 48 48] 91))
  have d4 : (w1.alloc (.cells #[.slice (some ⟨w.heap.size + 1, 0, none⟩) 48 48] 91)).cell? ⟨w1.heap.size, 0, none⟩ = some (.slice (some ⟨w.heap.size + 1, 0, none⟩) 48 48) := by simp
  have hpw : w1.heap.size < (w1.alloc (.cells #[.slice (some ⟨w.heap.size + 1, 0, none⟩) 48 48] 91)).heap.size := by simp
  clear c0 c1 c2 c3 bk0 hb1 hbA hown hg hB1 hs0
  generalize w1.alloc (.cells #[.slice (some ⟨w.heap.size + 1, 0, none⟩) 48 48] 91) = W at *
  generalize w1.heap.size = p at *
  have hLW := sv_old (U := w.heap.size + 1) hL (by omega) hBW hld hdd t1.1 t1.2
  have hSW := sg_old (U := w.heap.size + 1) h (by omega) hBW
  obtain ⟨gl, ol, hLe, _⟩ := ri_addr hL (by omega)
  subst hLe
  refine (l13End_w _ W (w.heap.size + 1) A n c xs _ l q _ rfl hSW hLW (Only.refl _ _ _) HS.out (tm_ok HT1.out) HQ.out).mono ?_
  rintro e w2 ⟨rfl, hb2⟩
  obtain ⟨_, f2, f3, _⟩ := Pl.fin_of (tm_ok HT1.out) HQ.out
  rw [HML.out] at f3
  have hvp := Lib.hid (sv_part (G := w.heap.size + 1) (f := Pl.nxt xs) (c := dl) (p := q) (by rw [HML.out]; exact hL.below (below_then hBW hb2 hBW.size)) (by omega) (by rw [HML.out]; exact hld) hdd (by rw [HML.out]; exact t1.2) (tm_ok HT1.out) HQ.out _ rfl _ rfl)
  generalize Pl.fin (Pl.nxt xs) l q = F at *
  have k0 : (0 : Int) ≤ (q : Int) := by omega
  have k1 : (q : Int) ≤ (F : Int) := by omega
  have k2 : (F : Int) ≤ (dl : Int) := by omega
  have hb02 := below_then hBW hb2 hBW.size
  have hs2 := hb2.size
  have bk2 := bkG.out.below hb2
  replace d0 := keepC hb2 d0
  replace d1 := keepC hb2 d1
  replace d3 := keepC hb2 d3
  replace d4 := keepC hb2 d4
  clear d2 hb2 hBW hLW hSW bkG
  go_wp2_with fail
  go_region_held3 (fun w' => Only (w.heap.size + 1) (w.heap.size + 1 + 1) w2 w' ∧ w'.cell? ⟨w.heap.size, 0, none⟩ = some (.slice A n c) ∧ w'.cell? ⟨w.heap.size, 1, none⟩ = some (.slice (some ⟨g, off, none⟩) m d) ∧ w'.cell? ⟨g, off + under * 2, none⟩ = some (.slice L2 ml2 dl2) ∧ w'.cell? ⟨p, 0, none⟩ = some (.slice (some ⟨w.heap.size + 1, 0, none⟩) 48 48))
    (first | exact ⟨⟨rfl, rfl, rfl, Nat.le_refl _, fun _ _ _ => rfl⟩, d0, d1, d3, d4⟩ | exact keepV ha2 ⟨⟨rfl, rfl, rfl, Nat.le_refl _, fun _ _ _ => rfl⟩, d0, d1, d3, d4⟩ | exact keepU ho4 (by dsimp only; omega) (by assumption))
    ((first | (go_at_call 49; refine (l11Away_any L2 ml2 dl2 l2 _ ?_ t2.2 (Pl.termOk_bd HT2.out)).mono ?_; exact (hL2.below hb02).drew; rintro e w3 ⟨A2, c2, rfl, oi3, ha2⟩; have hb03 := below_then hb02 (below_undrew1 ha2) hb02.size; have hs3 := (below_undrew1 ha2).size; have bk3 := bk2.below (below_undrew1 ha2); have hv3 := hvp.out.below_ (below_undrew1 ha2); have hw3 := sv_own (U := w.heap.size + 1) oi3 (by have e_ : w2.drew.heap.size = w2.heap.size := rfl; omega) t2.1 t2.2; have hsg3 := sg_old (U := w.heap.size + 1) h (by omega) hb03; have d5 := keepC (below_undrew1 ha2) d4) | (go_at_call 61; refine (l11Meet_any (Pl.nxt xs) p (w.heap.size + 1) w3 A n c xs rfl hsg3 HS.out (by omega) (by omega) (Pl.sub (Pl.nxt xs) l q) (l2.map (sh 24)) _ _ w3 d5 (bnd0 (by simpa using bk3)) (Only.refl _ _ _) hv3 hw3 (wt_sub (wt_ok HT1.out) HQ.out) (wt_away HT2.out)).mono ?_; intro e w4 hmd; obtain ⟨bb, rfl, ho4, hyes, hno⟩ := meD_b hmd)))
  rename_i hS
  have hb4 : Below w.heap.size w w4 := hb03.trans (ho4.below (by omega) hb03.size)
  have hs4 := ho4.size
  have hcp := hS.2.2.2.2
  have HY := Lib.hid hyes
  have HN := Lib.hid hno
  clear hS hyes hno bk3
  cases bb
  · have hcl := Lib.hid (HN.out rfl)
    go_wp2_with fail
    go_ret2
    exact ⟨hb4, p, w.heap.size + 1, by omega, by omega, by omega, by omega, .inr ⟨rfl, hcl.out⟩⟩
  · obtain ⟨B', hb', hst⟩ := HY.out rfl
    have HB' := Lib.hid hb'
    have HD := Lib.hid hst
    clear hb' hst
    go_wp2_with fail
    go_ret2
    exact ⟨hb4, p, w.heap.size + 1, by omega, by omega, by omega, by omega, .inl ⟨w3, B', rfl, hb03, by omega, hcp, ho4, HB'.out, HD.out⟩⟩
/-- What the reference's try tells. -/
theorem trD_b {T : TypeId} {w w' : World} {xs l l2 : List Int} {q : Nat} {e : Ending} (h : TrD T w (Pl.nxt xs) (Pl.sub (Pl.nxt xs) l q) (l2.map (sh 24)) e w') : OvB w (mtB xs l l2 q) e w' := by
  obtain ⟨h1, p, G, _, _, _, _, ⟨w0, B', rfl, _, _, _, _, _, hd⟩ | ⟨rfl, hn⟩⟩ := h
  · exact ⟨h1, _, by rw [mtB_yes hd.meets]⟩
  · exact ⟨h1, _, by rw [mtB_no hn]⟩
set_option maxHeartbeats 1000000 in
set_option maxRecDepth 20000 in
theorem l11Meets_any (A : Option Addr) (n c : Nat) (xs : List Int) (B : Option Addr) (m d : Nat) (x : List (List Int × List Int)) (over q under : Nat) (l r l2 r2 : List Int) (w : World)
    (h : RI w A n xs) (h' : RU w B m x) (hs : Pl.sigOk xs = true) (hov : over < m) (hun : under < m) (hl : (l, r) = x.getD over ([], [])) (hl2 : (l2, r2) = x.getD under ([], [])) (T1 : Pl.termOk xs l = true) (T2 : Pl.termOk xs l2 = true) (hq : q < l.length) :
    Calls Try.prog 23 #[.agg #[.slice A n c, .slice B m d], .int .i64 over, .int .i64 q, .int .i64 under] w fun e w' => e = .returned (.bool (ovB xs l l2 (decide (over = under)) q)) ∧ Below w.heap.size w w' := by
  obtain ⟨g, off, rfl, hcs⟩ := h'.2 (by omega)
  obtain ⟨L, ml, dl, R, mr, dr, hcl, hcr, hL, hR, hld, hdd, _, _⟩ := hcs over hov
  rw [← hl] at hL
  have hgw := World.block_lt_of_cell? w _ hcl
  have t1 := (Pl.termOk_iff.1 T1).2.1
  have hl1 := hL.1
  rw [hL.1] at t1
  have hqm : q < ml := by rw [← hl1]; exact hq
  obtain ⟨gl, ol, y, rfl, hcy, hy⟩ := hL.at_ hqm
  have HT1 := Lib.hid T1
  have HT2 := Lib.hid T2
  have HS := Lib.hid hs
  have HQ := Lib.hid hq
  have HLE := Lib.hid hl
  have HLE2 := Lib.hid hl2
  have i0 : (0 : Int) ≤ (over : Int) := by omega
  have i1 : (over : Int) < (m : Int) := by omega
  have hin : inB (q : Int) 0 ((ml : Int) - 1) = true := inB_mk (by omega)
  have HIN := Lib.hid hin
  have j0 : (0 : Int) ≤ (q : Int) := by omega
  have j1 : (q : Int) < (ml : Int) := by omega
  clear hl hl2 hcs hs hq T1 T2 hcr hl1 hin
  have hB0 : Below w.heap.size w (w.alloc (.cells #[.slice A n c, .slice (some ⟨g, off, none⟩) m d] 33)) := (Below.refl _ _).alloc (Nat.le_refl _) _
  have c2 := keepC hB0 hcl
  have c3 := keepC hB0 hcy
  have c0 : (w.alloc (.cells #[.slice A n c, .slice (some ⟨g, off, none⟩) m d] 33)).cell? ⟨w.heap.size, 0, none⟩ = some (.slice A n c) := by simp
  have c1 : (w.alloc (.cells #[.slice A n c, .slice (some ⟨g, off, none⟩) m d] 33)).cell? ⟨w.heap.size, 1, none⟩ = some (.slice (some ⟨g, off, none⟩) m d) := by simp
  have hR0 := h.alloc (.cells #[.slice A n c, .slice (some ⟨g, off, none⟩) m d] 33)
  have hU0 := h'.alloc (.cells #[.slice A n c, .slice (some ⟨g, off, none⟩) m d] 33)
  cases hy0 : decide (y < 0)
  · by_cases hz : over = under ∧ q = 0
    · obtain ⟨rfl, rfl⟩ := hz
      rw [Nat.add_zero] at c3
      have jm : 0 < ml := hqm
      have HE : Hid (ovB xs l l2 (decide (over = over)) 0 = false) := Lib.hid (by rw [decide_eq_true rfl, ovB_self])
      go_enter Try.func23, Try.ntmps23
      go_wp2_with fail
      refine (l1In_any _ _ _ _).mono ?_
      rintro e w1 ⟨rfl, rfl⟩
      rw [show inB 0 0 ((ml : Int) - 1) = true from HIN.out]
      go_wp2_with fail
      go_ret
      exact ⟨ret_bool HE.out.symm, hB0⟩
    · have HE : Hid (ovB xs l l2 (decide (over = under)) q = mtB xs l l2 q) := Lib.hid (ovB_mt (by rw [← hy.out]; simpa using hy0) (by rw [Bool.and_eq_false_iff]; simp only [decide_eq_false_iff_not]; omega))
      by_cases hq0 : q = 0
      · have hou : ((over : Int) == (under : Int)) = false := by simp; omega
        subst hq0
        rw [Nat.add_zero] at c3
        have jm : 0 < ml := hqm
        go_enter Try.func23, Try.ntmps23
        go_wp2_with fail
        refine (l1In_any _ _ _ _).mono ?_
        rintro e w1 ⟨rfl, rfl⟩
        rw [show inB 0 0 ((ml : Int) - 1) = true from HIN.out]
        go_wp2_with fail
        refine (l11Try_any A n c xs _ m d x over 0 under l r l2 r2 _ hR0 hU0 HS.out hov hun HLE.out HLE2.out HT1.out HT2.out HQ.out).mono ?_
        intro e w2 htr
        obtain ⟨hb2, v2, rfl⟩ := trD_b htr
        go_wp2_with fail
        go_ret
        exact ⟨ret_bool HE.out.symm, below_then hB0 hb2 (by simp)⟩
      · have hq1 : ((q : Int) == 0) = false := by simp; omega
        go_enter Try.func23, Try.ntmps23
        go_wp2_with fail
        refine (l1In_any _ _ _ _).mono ?_
        rintro e w1 ⟨rfl, rfl⟩
        rw [HIN.out]
        go_wp2_with fail
        refine (l11Try_any A n c xs _ m d x over q under l r l2 r2 _ hR0 hU0 HS.out hov hun HLE.out HLE2.out HT1.out HT2.out HQ.out).mono ?_
        intro e w2 htr
        obtain ⟨hb2, v2, rfl⟩ := trD_b htr
        go_wp2_with fail
        go_ret
        exact ⟨ret_bool HE.out.symm, below_then hB0 hb2 (by simp)⟩
  · have HE : Hid (ovB xs l l2 (decide (over = under)) q = false) := Lib.hid (ovB_var (by rw [← hy.out]; simpa using hy0))
    go_enter Try.func23, Try.ntmps23
    go_wp2_with fail
    refine (l1In_any _ _ _ _).mono ?_
    rintro e w1 ⟨rfl, rfl⟩
    rw [HIN.out]
    go_wp2_with fail
    go_ret
    exact ⟨ret_bool HE.out.symm, hB0⟩
set_option maxHeartbeats 2000000 in
set_option maxRecDepth 20000 in
theorem S_OverlapsIn (A : Option Addr) (n c : Nat) (xs : List Int) (B : Option Addr) (m d : Nat) (x : List (List Int × List Int)) (p q : Int) (w : World) (h : RI w A n xs) (h' : RU w B m x) (hs : n + wtU x ≤ 1048576) :
    Calls Try.prog 6 #[.agg #[.slice A n c, .slice B m d], .int .i64 p, .int .i64 q] w fun e w' => ∃ A' c', e = .returned (.slice A' (V_OverlapsIn xs x p q).length c') ∧ OI w' w.heap.size A' (V_OverlapsIn xs x p q).length c' (V_OverlapsIn xs x p q) ∧ Below w.heap.size w w' := by
  obtain ⟨i0, hi, hz0, hz1, hz2⟩ := info_parts infoInt64
  have hl := h'.1
  have hm1 : m ≤ 1048576 := by unfold wtU at hs; omega
  have hB0 : Below w.heap.size w ((w.alloc (.cells #[.slice A n c, .slice B m d] 33)).alloc (.cells #[] 2)) := ((Below.refl _ _).alloc (Nat.le_refl _) _).alloc (by simp) _
  have hOE : OI ((w.alloc (.cells #[.slice A n c, .slice B m d] 33)).alloc (.cells #[] 2)) (w.heap.size + 1) (some ⟨w.heap.size + 1, 0, none⟩) 0 0 [] := by
    have := OI.empty (w.alloc (.cells #[.slice A n c, .slice B m d] 33)) (B := w.heap.size + 1) (by simp)
    simpa only [World.size_alloc] using this
  have bk0 : Blk ((w.alloc (.cells #[.slice A n c, .slice B m d] 33)).alloc (.cells #[] 2)) w.heap.size 33 #[.slice A n c, .slice B m d] := (Blk.new w _ _).alloc _
  have BK0 := Lib.hid bk0
  have HOE := Lib.hid hOE
  have a0 : ((w.alloc (.cells #[.slice A n c, .slice B m d] 33)).alloc (.cells #[] 2)).cell? ⟨w.heap.size, 0, none⟩ = some (.slice A n c) := by simp
  have a1 : ((w.alloc (.cells #[.slice A n c, .slice B m d] 33)).alloc (.cells #[] 2)).cell? ⟨w.heap.size, 1, none⟩ = some (.slice B m d) := by simp
  clear bk0 hOE
  cases hS : systemOk xs x
  · have HE := overlapsIn_no (p := p) (q := q) (x := x) (xs := xs) (by rw [hS]; rfl)
    rw [HE]
    have HS := Lib.hid hS
    clear HE hl hS
    go_enter Try.func6, Try.ntmps6
    go_wp2_with fail
    refine (specSystemOk_any A n c xs B m d x _ (h.below hB0) (h'.below hB0) hs).mono ?_
    rintro e w1 ⟨rfl, hb1⟩
    rw [HS.out]
    go_wp2_with fail
    go_ret
    exact ⟨_, 0, rfl, (HOE.out.below hb1).base (by omega), below_then hB0 hb1 hB0.size⟩
  · cases hp : inB p 0 ((m : Int) - 1)
    · have HE := overlapsIn_no (p := p) (q := q) (x := x) (xs := xs) (by rw [hS, hl, hp]; rfl)
      rw [HE]
      have HS := Lib.hid hS
      have HP := Lib.hid hp
      clear HE hl hS hp
      go_enter Try.func6, Try.ntmps6
      go_wp2_with fail
      refine (specSystemOk_any A n c xs B m d x _ (h.below hB0) (h'.below hB0) hs).mono ?_
      rintro e w1 ⟨rfl, hb1⟩
      rw [HS.out]
      replace a0 := keepC hb1 a0
      replace a1 := keepC hb1 a1
      go_wp2_with fail
      refine (l11Rule_any A n c B m d p _ hm1).mono ?_
      rintro e w2 ⟨rfl, hb2⟩
      rw [HP.out]
      go_wp2_with fail
      go_ret
      exact ⟨_, 0, rfl, ((HOE.out.below hb1).below hb2).base (by omega), below_then (below_then hB0 hb1 hB0.size) hb2 (by have := hB0.size; have := hb1.size; omega)⟩
    · cases hq : inB q 0 ((m : Int) - 1)
      · have HE := overlapsIn_no (p := p) (q := q) (x := x) (xs := xs) (by rw [hS, hl, hp, hq]; rfl)
        rw [HE]
        have HS := Lib.hid hS
        have HP := Lib.hid hp
        have HQ := Lib.hid hq
        clear HE hl hS hp hq
        go_enter Try.func6, Try.ntmps6
        go_wp2_with fail
        refine (specSystemOk_any A n c xs B m d x _ (h.below hB0) (h'.below hB0) hs).mono ?_
        rintro e w1 ⟨rfl, hb1⟩
        rw [HS.out]
        replace a0 := keepC hb1 a0
        replace a1 := keepC hb1 a1
        go_wp2_with fail
        refine (l11Rule_any A n c B m d p _ hm1).mono ?_
        rintro e w2 ⟨rfl, hb2⟩
        rw [HP.out]
        replace a0 := keepC hb2 a0
        replace a1 := keepC hb2 a1
        go_wp2_with fail
        refine (l11Rule_any A n c B m d q _ hm1).mono ?_
        rintro e w3 ⟨rfl, hb3⟩
        rw [HQ.out]
        have hB := below_then (below_then hB0 hb1 hB0.size) hb2 (by have := hB0.size; have := hb1.size; omega)
        go_wp2_with fail
        go_ret
        exact ⟨_, 0, rfl, (((HOE.out.below hb1).below hb2).below hb3).base (by omega), below_then hB hb3 hB.size⟩
      · have hp' := inB_true hp
        have hq' := inB_true hq
        obtain ⟨over, rfl⟩ : ∃ k : Nat, p = k := ⟨p.toNat, by omega⟩
        obtain ⟨under, rfl⟩ : ∃ k : Nat, q = k := ⟨q.toNat, by omega⟩
        have hov : over < m := by omega
        have hun : under < m := by omega
        obtain ⟨⟨l, r⟩, hlr⟩ : ∃ z, z = x.getD over ([], []) := ⟨_, rfl⟩
        obtain ⟨⟨l2, r2⟩, hlr2⟩ : ∃ z, z = x.getD under ([], []) := ⟨_, rfl⟩
        have HE := overlapsIn_yes hS (by omega) (by omega) hlr hlr2
        rw [HE]
        have hT1 := Lib.hid (rule_term (sys_rule hS (by omega) hlr)).1
        have hT2 := Lib.hid (rule_term (sys_rule hS (by omega) hlr2)).1
        have HS := Lib.hid hS
        have HP := Lib.hid hp
        have HQ := Lib.hid hq
        have HSG := Lib.hid (systemOk_iff.1 hS).1
        have HLR := Lib.hid hlr
        have HLR2 := Lib.hid hlr2
        obtain ⟨g, off, rfl, hcs⟩ := h'.2 (by omega)
        obtain ⟨L, ml, dl, R, mr, dr, hcl, _, hL, _, _, _, _, _⟩ := hcs over hov
        rw [← hlr] at hL
        have HML := Lib.hid hL.1
        have t1 := (Pl.termOk_iff.1 hT1.out).2.1
        rw [hL.1] at t1
        have i0' : (0 : Int) ≤ (over : Int) := by omega
        have i1 : (over : Int) < (m : Int) := by omega
        rw [nats_length]
        obtain ⟨same, hsm⟩ : ∃ same, decide (over = under) = same := ⟨_, rfl⟩
        have HSM := Lib.hid hsm
        rw [hsm, hL.1]
        clear HE hl hS hp hq hlr hlr2 hp' hq' hcs hsm
        go_enter Try.func6, Try.ntmps6
        go_wp2_with fail
        refine (specSystemOk_any A n c xs _ m d x _ (h.below hB0) (h'.below hB0) hs).mono ?_
        rintro e w1 ⟨rfl, hb1⟩
        rw [HS.out]
        replace a0 := keepC hb1 a0
        replace a1 := keepC hb1 a1
        go_wp2_with fail
        refine (l11Rule_any A n c _ m d over _ hm1).mono ?_
        rintro e w2 ⟨rfl, hb2⟩
        rw [HP.out]
        replace a0 := keepC hb2 a0
        replace a1 := keepC hb2 a1
        go_wp2_with fail
        refine (l11Rule_any A n c _ m d under _ hm1).mono ?_
        rintro e w3 ⟨rfl, hb3⟩
        rw [HQ.out]
        have hB3 : Below w.heap.size w w3 := by
          have hB := below_then (below_then hB0 hb1 hB0.size) hb2 (by have := hB0.size; have := hb1.size; omega)
          exact below_then hB hb3 hB.size
        have BK3 := Lib.hid (((BK0.out.below hb1).below hb2).below hb3)
        have HO3 := Lib.hid (((HOE.out.below hb1).below hb2).below hb3)
        clear hb1 hb2 hb3 a0 a1 hB0 BK0 HOE
        go_wp2_with fail
        go_loopw [7, 8] (fun u i wr => ∃ (k : Nat) (A' : Option Addr) (c' j : Nat), k ≤ ml ∧ i = .int .i64 k ∧ u = .slice A' j c' ∧ Hid (j = (ovTo xs l l2 same k).length) ∧ Hid (OI wr (w.heap.size + 1) A' j c' (nats (ovTo xs l l2 same k))) ∧ Below w.heap.size w wr ∧ Hid (Blk wr w.heap.size 33 #[.slice A n c, .slice (some ⟨g, off, none⟩) m d])) (fun _ i _ => ml - (intOf i).toNat)
        case atStart => exact ⟨0, _, _, 0, Nat.zero_le _, rfl, rfl, Lib.hid rfl, HO3, hB3, BK3⟩
        case round =>
          obtain ⟨k, A', c', j, hk, rfl, rfl, hj, ho, hb, hbk⟩ := hrel
          have hjk : j ≤ 60 := by have := ovTo_len xs l l2 same k; rw [hj.out]; omega
          have hsz := hbk.out.lt
          have b0 : wr.cell? ⟨w.heap.size, 0, none⟩ = some (.slice A n c) := by have := hbk.out.cell 0; simpa using this
          have b1 : wr.cell? ⟨w.heap.size, 1, none⟩ = some (.slice (some ⟨g, off, none⟩) m d) := by have := hbk.out.cell 1; simpa using this
          have b2 := keepC hb hcl
          by_cases hlt : k < ml
          · go_wp2_with fail
            refine (l11Meets_any A n c xs (some ⟨g, off, none⟩) m d x over k under l r l2 r2 _ (h.below hb) (h'.below hb) HSG.out hov hun HLR.out HLR2.out hT1.out hT2.out (by rw [HML.out]; exact hlt)).mono ?_
            rintro e w4 ⟨rfl, hb4⟩
            rw [HSM.out]
            have hB4 := below_then hb hb4 hb.size
            have hbk4 := Lib.hid (hbk.out.below hb4)
            have ho4 : Hid (OI w4 (w.heap.size + 1) A' j c' (nats (ovTo xs l l2 same k))) := ho.out.below hb4
            have hsz4 := hbk4.out.lt
            cases hov1 : ovB xs l l2 same k
            · have HS1 := Lib.hid (ovTo_no hov1)
              clear hb4 ho hbk hb b0 b1 b2
              go_wp2_with fail
              go_roundw
              case rel => exact ⟨k + 1, A', c', j, by omega, by go_num, rfl, Lib.hid (by rw [HS1.out]; exact hj.out), Lib.hid (by rw [HS1.out]; exact ho4.out), hB4, hbk4⟩
              case measure => simp [intOf]; omega
            · have HS1 := Lib.hid (ovTo_yes hov1)
              clear hb4 ho hbk hb b0 b1 b2
              have howa := Lib.hid (ownsRow_below ho4.out ((Below.refl _ w4).alloc (Nat.le_refl _) (.cells #[.int .i64 k] 2)))
              go_wp2_with (at_builtin; refine wpList_append_any rfl _ _ 22 rfl (w.heap.size + 1) 2 i0 (.int .i64 0) 1 8 Try.underlying22 hi hz0 hz1 hz2 rfl (by omega) A' j c' ((nats (ovTo xs l l2 same k)).map (Value.int .i64)) rfl howa.out _ 1 _ [.int .i64 k] rfl (Src.new _ [.int .i64 k] _ 1 1 rfl (by simp [Value.oneCell'])) (by unfold maxLen; omega) (by omega) (by simp; omega) ?_; intro A2 c2 w2 ho2 hg hnil; (have hgb := app_below hg howa.out (by omega)))
              have hb5 := hB4.trans (hgb.mono (by omega))
              have hbk5 : Hid (Blk w2 w.heap.size 33 #[.slice A n c, .slice (some ⟨g, off, none⟩) m d]) := Lib.hid ((hgb.block _ (by omega)).trans hbk4.out)
              have hO5 : Hid (OI w2 (w.heap.size + 1) A2 (j + 1) c2 (nats (ovTo xs l l2 same (k + 1)))) := Lib.hid (by rw [HS1.out, nats_snoc]; unfold OI; rw [List.map_append]; exact ho2)
              clear hgb howa ho4 ho2 hg hB4 hbk4
              go_roundw
              case rel => exact ⟨k + 1, A2, c2, j + 1, by omega, by go_num, rfl, Lib.hid (by rw [HS1.out, List.length_append, ← hj.out]; rfl), hO5, hb5, hbk5⟩
              case measure => simp [intOf]; omega
          · have hkm : k = ml := by omega
            subst hkm
            go_wp2_with fail
            go_ret
            exact ⟨A', c', by rw [← hj.out]; rfl, OI.base (by rw [← hj.out]; exact ho.out) (by omega), hb⟩
end Go.Proofs.Ytcjgcopkeeiicaa
