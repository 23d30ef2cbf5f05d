/- Contracts: the peak of two rules at a place, the reference's way. -/
import Derived.Test.YtcjgcopkeeiicaaPkI
import Derived.Test.YtcjgcopkeeiicaaFull
import Derived.Test.YtcjgcopkeeiicaaOvs
namespace Go.Proofs.Ytcjgcopkeeiicaa
open Go.RowKit
set_option linter.unusedVariables false
set_option linter.unusedSimpArgs false

theorem ovB_meets {xs l l2 : List Int} {same : Bool} {q : Nat} (h : ovB xs l l2 same q = true) : Un.Meets (Pl.nxt xs) (Pl.sub (Pl.nxt xs) l q) (l2.map (sh 24)) := by
  apply Classical.byContradiction
  intro hn
  unfold ovB at h
  rw [mtB_no hn, Bool.and_false] at h
  cases h
/-- What the walk of a peak keeps. -/
def PkD (T Ts Tp Tr : TypeId) (G p rb : Nat) (B : Un.Bd) (cs cp cr : Array Value) (w W : World) : Prop := Below w.heap.size w W ∧ Bnd W W G T [] B ∧ W.cell? ⟨p, 0, none⟩ = some (.slice (some ⟨G, 0, none⟩) 48 48) ∧ Blk W w.heap.size Ts cs ∧ Blk W (w.heap.size + 1) Tp cp ∧ Blk W rb Tr cr
theorem PkD.on {T Ts Tp Tr : TypeId} {G p rb : Nat} {B : Un.Bd} {cs cp cr : Array Value} {w W W' : World} (h : PkD T Ts Tp Tr G p rb B cs cp cr w W) (hb : Below W.heap.size W W') : PkD T Ts Tp Tr G p rb B cs cp cr w W' :=
  ⟨below_then h.1 hb h.1.size, bnd_on h.2.1 hb, keepC hb h.2.2.1, h.2.2.2.1.below hb, h.2.2.2.2.1.below hb, h.2.2.2.2.2.below hb⟩
theorem full0 (f : Int → Int) (p G : Nat) (B : Un.Bd) (σ : Int → List Int) (rk : Int → Nat) (gd : Un.Good f 48 B σ rk) (t : List Int) (A : Option Addr) (n c : Nat) (w : World) (hin : Un.In 48 t) (h : RI w A n t) (hA : 0 < n → ∀ a, A = some a → a.block ≠ G) (h60 : n ≤ 1000) (hp : w.cell? ⟨p, 0, none⟩ = some (.slice (some ⟨G, 0, none⟩) 48 48)) (hb : Bnd w w G 22 [] B) :
    Calls Try.prog 50 #[.pointer (some ⟨p, 0, none⟩), .slice A n c] w fun e w' => ∃ A' c', e = .returned (.slice A' (fullL (Un.ap σ t)).length c') ∧ OI w' w.heap.size A' (fullL (Un.ap σ t)).length c' (fullL (Un.ap σ t)) ∧ Below w.heap.size w w' := by
  obtain ⟨K, hK⟩ := rk_bound rk t
  have hl := h.1
  subst hl
  exact l11Full_any f p G w B σ rk gd K t _ w hK hin ⟨A, c, rfl, h, hA, h60⟩ hp hb (Only.refl _ _ _)
theorem in_app {a b : List Int} (h : Un.In 48 a) (h' : Un.In 48 b) : Un.In 48 (a ++ b) := fun v hv h0 => by rcases List.mem_append.1 hv with hv | hv; exact h v hv h0; exact h' v hv h0
theorem in_drop {k : Nat} {t : List Int} (h : Un.In 48 t) : Un.In 48 (t.drop k) := fun v hv h0 => h v (List.mem_of_mem_drop hv) h0
set_option maxHeartbeats 8000000 in
set_option maxRecDepth 20000 in
theorem l11Peak_any (A : Option Addr) (n c : Nat) (xs : List Int) (B : Option Addr) (m d : Nat) (x : List (List Int × List Int)) (over q under : Nat) (l r l2 r2 : List Int) (w : World)
    (h : RI w A n xs) (h' : RU w B m x) (hs : Pl.sigOk xs = true) (hov : over < m) (hun : under < m) (hl : (l, r) = x.getD over ([], [])) (hl2 : (l2, r2) = x.getD under ([], [])) (R1 : ruleOk xs l r = true) (R2 : ruleOk xs l2 r2 = true) (hq : q < l.length) (hM : Un.Meets (Pl.nxt xs) (Pl.sub (Pl.nxt xs) l q) (l2.map (sh 24))) :
    Calls Try.prog 34 #[.agg #[.slice A n c, .slice B m d], .int .i64 over, .int .i64 q, .int .i64 under] w (PkR w (pkAt (Pl.nxt xs) l r l2 r2 q) q under over) := by
  obtain ⟨i0_, hi, hz0, hz1, hz2⟩ := info_parts infoInt64
  have T1 := rule_term R1
  have T2 := rule_term R2
  have hB0 : Below w.heap.size w ((w.alloc (.cells #[.slice A n c, .slice B m d] 33)).alloc (.cells #[.slice none 0 0, .slice none 0 0, .slice none 0 0, .int .i64 0, .int .i64 0, .int .i64 0] 41)) := ((Below.refl _ _).alloc (Nat.le_refl _) _).alloc (by simp) _
  have hW0 : w.heap.size + 1 < ((w.alloc (.cells #[.slice A n c, .slice B m d] 33)).alloc (.cells #[.slice none 0 0, .slice none 0 0, .slice none 0 0, .int .i64 0, .int .i64 0, .int .i64 0] 41)).heap.size := by simp
  have bkS : Blk ((w.alloc (.cells #[.slice A n c, .slice B m d] 33)).alloc (.cells #[.slice none 0 0, .slice none 0 0, .slice none 0 0, .int .i64 0, .int .i64 0, .int .i64 0] 41)) w.heap.size 33 #[.slice A n c, .slice B m d] := (Blk.new w _ _).alloc _
  have bkP : Blk ((w.alloc (.cells #[.slice A n c, .slice B m d] 33)).alloc (.cells #[.slice none 0 0, .slice none 0 0, .slice none 0 0, .int .i64 0, .int .i64 0, .int .i64 0] 41)) (w.heap.size + 1) 41 #[.slice none 0 0, .slice none 0 0, .slice none 0 0, .int .i64 0, .int .i64 0, .int .i64 0] := by
    have := Blk.new (w.alloc (.cells #[.slice A n c, .slice B m d] 33)) 41 #[.slice none 0 0, .slice none 0 0, .slice none 0 0, .int .i64 0, .int .i64 0, .int .i64 0]
    simpa only [World.size_alloc] using this
  have HD := Lib.hid (fun (B' : Un.Bd) (σ : Int → List Int) (rk : Int → Nat) (g : Un.Good (Pl.nxt xs) 48 B' σ rk) (dd : Un.Done (Pl.nxt xs) B' (Pl.sub (Pl.nxt xs) l q) (l2.map (sh 24))) => pkAt_eq g dd R1 R2)
  have HS := Lib.hid hs
  have HM := Lib.hid hM
  obtain ⟨V, hV⟩ : ∃ V, pkAt (Pl.nxt xs) l r l2 r2 q = V := ⟨_, rfl⟩
  have HV := Lib.hid hV
  rw [hV]
  clear hV hM
  go_enter Try.func34, Try.ntmps34
  go_wp2_with fail
  generalize (w.alloc (.cells #[.slice A n c, .slice B m d] 33)).alloc (.cells #[.slice none 0 0, .slice none 0 0, .slice none 0 0, .int .i64 0, .int .i64 0, .int .i64 0] 41) = W0 at *
  refine (l11Try_any A n c xs B m d x over q under l r l2 r2 _ (h.below hB0) (h'.below hB0) hs hov hun hl hl2 T1.1 T2.1 hq).mono ?_
  rintro e w1 ⟨hb1, p, G, hG1, hG2, hp1, hpG, ⟨w0, B', rfl, hbw0, hGw0, hcp, ho, hB'_, hD⟩ | ⟨rfl, hn⟩⟩
  · have hB' := bnd_re hB'_ ho
    obtain ⟨⟨σ, rk, gd⟩, hsol⟩ := id hD
    have HE := Lib.hid (show pkL (Un.ap σ l) (Un.ap σ (pkMid (Pl.nxt xs) l r2 q)) (Un.ap σ r) = V by rw [← HV.out]; exact (HD.out B' σ rk gd hD).symm)
    have hm := Lib.hid (mid_vars ((hsol σ).1 gd.sol).2 (ruleOk_in R2))
    have hr := Lib.hid (ap_mem_sub (σ := σ) (ruleOk_in R1))
    have hsu := Lib.hid gd.su
    obtain ⟨g, off, rfl, hcs⟩ := h'.2 (by omega)
    obtain ⟨L, ml, dl, R, mr, dr, hcl, hcr, hL, hR, hld, hld2, hrd, hrd2⟩ := hcs over hov
    obtain ⟨L2, ml2, dl2, R2', mr2, dr2, hcl2, hcr2, hL2, hR2, hld_, hld2_, hrd_, hrd2_⟩ := hcs under hun
    rw [← hl] at hL hR
    rw [← hl2] at hL2 hR2
    dsimp only at hL hR hL2 hR2
    have hB1 := below_then hB0 hb1 hB0.size
    have i0 : (0 : Int) ≤ (over : Int) := by omega
    have i1 : (over : Int) < (m : Int) := by omega
    have i2 : (0 : Int) ≤ (under : Int) := by omega
    have i3 : (under : Int) < (m : Int) := by omega
    replace bkS := bkS.below hb1
    replace bkP := bkP.below hb1
    have b0 : w1.cell? ⟨w.heap.size, 0, none⟩ = some (.slice A n c) := by simpa using bkS.cell 0
    have b1 : w1.cell? ⟨w.heap.size, 1, none⟩ = some (.slice (some ⟨g, off, none⟩) m d) := by simpa using bkS.cell 1
    have d0 := keepC hB1 hcl
    have d1 := keepC hB1 hcr
    have t1 := ruleOk_lens R1
    have t2 := ruleOk_lens R2
    have HG := Lib.hid gd
    have HB := Lib.hid hB'
    have BS := Lib.hid bkS
    have BP := Lib.hid bkP
    have hgw := World.block_lt_of_cell? w _ hcl
    have sw := hB0.size
    have hml : ml ≤ 60 := by have := hL.1; omega
    have hmr : mr ≤ 60 := by have := hR.1; omega
    have hmr2 : mr2 ≤ 60 := by have := hR2.1; omega
    have hqm : q < ml := by have := hL.1; omega
    obtain ⟨gl, ol, rfl, hgl⟩ := ri_addr hL (by omega)
    have hmr0 : 0 < mr := by have := (Pl.termOk_iff.1 T1.2).2.1.1; have := hR.1; omega
    have hmr20 : 0 < mr2 := by have := (Pl.termOk_iff.1 T2.2).2.1.1; have := hR2.1; omega
    obtain ⟨gr, or_, rfl, hgr⟩ := ri_addr hR hmr0
    have hLU : Hid (∀ a, (some (⟨gl, ol, none⟩ : Addr)) = some a → a.block ≠ G) := Lib.hid fun a ha => by injection ha with ha; subst ha; dsimp only; omega
    have hRU : Hid (∀ a, (some (⟨gr, or_, none⟩ : Addr)) = some a → a.block ≠ G) := Lib.hid fun a ha => by injection ha with ha; subst ha; dsimp only; omega
    have hinl := Lib.hid (wt_ok T1.1).2
    have hinr := Lib.hid (wt_ok T1.2).2
    have hiny := Lib.hid (wt_away T2.2).2
    have hTl := Lib.hid (tm_ok T1.1)
    have hTa := Lib.hid (Un.Tm.ap (nxt_ar xs) hsu.out (tm_ok T1.1))
    have hybd := Lib.hid (Pl.termOk_bd T2.2)
    clear hD gd hB' hB'_ bkS bkP R1 R2 hcs hl hl2 hsol HD HV ho hbw0 hGw0 T1 T2 hb1
    have hAl : Below w1.heap.size w1 (w1.alloc (.cells #[.slice (some ⟨gl, ol, none⟩) ml dl, .slice (some ⟨gr, or_, none⟩) mr dr] 52)) := (Below.refl _ _).alloc (Nat.le_refl _) _
    have HC : Hid (PkD 22 33 41 52 G p w1.heap.size B' #[.slice A n c, .slice (some ⟨g, off, none⟩) m d] #[.slice none 0 0, .slice none 0 0, .slice none 0 0, .int .i64 0, .int .i64 0, .int .i64 0] #[.slice (some ⟨gl, ol, none⟩) ml dl, .slice (some ⟨gr, or_, none⟩) mr dr] w (w1.alloc (.cells #[.slice (some ⟨gl, ol, none⟩) ml dl, .slice (some ⟨gr, or_, none⟩) mr dr] 52))) := Lib.hid ⟨below_then hB1 hAl hB1.size, bnd_on HB.out hAl, keepC hAl hcp, BS.out.below hAl, BP.out.below hAl, Blk.new _ _ _⟩
    have s2 : w1.heap.size < (w1.alloc (.cells #[.slice (some ⟨gl, ol, none⟩) ml dl, .slice (some ⟨gr, or_, none⟩) mr dr] 52)).heap.size := by simp
    have q0 := keepC hAl b0
    have q1 := keepC hAl b1
    clear HB BS BP hAl hcp
    go_wp2_with fail
    clear b0 b1 d0 d1 q0 q1
    generalize w1.alloc (.cells #[.slice (some ⟨gl, ol, none⟩) ml dl, .slice (some ⟨gr, or_, none⟩) mr dr] 52) = w2 at *
    refine (l13End_w _ w2 G A n c xs _ l q w2 rfl (sg_old (U := G) h (by omega) HC.out.1) (sv_old (U := G) hL (by omega) HC.out.1 hld hld2 (by omega) hml) (Only.refl _ _ _) HS.out hTl.out hq).mono ?_
    rintro e w3 ⟨rfl, hb3⟩
    obtain ⟨_, f2, f3, _⟩ := Pl.fin_of hTl.out hq
    have hll := hL.1
    have HMID := Lib.hid (show pkMid (Pl.nxt xs) l r2 q = l.take q ++ r2.map (sh 24) ++ l.drop (Pl.fin (Pl.nxt xs) l q) from rfl)
    generalize pkMid (Pl.nxt xs) l r2 q = mid at *
    generalize Pl.fin (Pl.nxt xs) l q = F at *
    replace HC := Lib.hid (HC.out.on hb3)
    have s3 := hb3.size
    clear hb3
    have b0 : w3.cell? ⟨w.heap.size, 0, none⟩ = some (.slice A n c) := by simpa using HC.out.2.2.2.1.cell 0
    have b1 : w3.cell? ⟨w.heap.size, 1, none⟩ = some (.slice (some ⟨g, off, none⟩) m d) := by simpa using HC.out.2.2.2.1.cell 1
    have r0 : w3.cell? ⟨w1.heap.size, 0, none⟩ = some (.slice (some ⟨gl, ol, none⟩) ml dl) := by simpa using HC.out.2.2.2.2.2.cell 0
    have r1 : w3.cell? ⟨w1.heap.size, 1, none⟩ = some (.slice (some ⟨gr, or_, none⟩) mr dr) := by simpa using HC.out.2.2.2.2.2.cell 1
    have u1 := keepC HC.out.1 hcr2
    have e0 : (0 : Int) ≤ (q : Int) := by omega
    have e1 : (q : Int) ≤ (dl : Int) := by omega
    have hrq := ri_part hL 0 q (by omega) (by omega)
    simp only [Nat.add_zero, Nat.sub_zero, List.drop_zero] at hrq
    have HRQ := Lib.hid hrq
    have HEM := Lib.hid (OI.empty w3 (Nat.le_refl _))
    clear hrq
    go_wp2_with fail
    go_region_held3 (fun W => Below w3.heap.size w3 W ∧ W.cell? ⟨w.heap.size, 1, none⟩ = some (.slice (some ⟨g, off, none⟩) m d) ∧ W.cell? ⟨w1.heap.size, 0, none⟩ = some (.slice (some ⟨gl, ol, none⟩) ml dl) ∧ W.cell? ⟨g, off + under * 2 + 1, none⟩ = some (.slice R2' mr2 dr2))
      (first | exact ⟨(Below.refl _ _).drew, b1, r0, u1⟩ | exact keepH ((Below.refl _ _).alloc (Nat.le_refl _) _) (by assumption) | exact keepGb hgb4 (by simp; omega) (by assumption) | exact keepH hb5 (by assumption) | exact keepGb hgb6 (by simp; omega) (by assumption))
      ((first | (go_at_call 49; refine (l11Away_any R2' mr2 dr2 r2 _ ?_ hmr2 hybd.out).mono ?_; exact (hR2.below HC.out.1).below (And.left (by assumption)); rintro e w5 ⟨A5, c5, rfl, oy, hb5⟩) | (refine step_append_any rfl _ _ 22 rfl w3.heap.size 2 i0_ (.int .i64 0) 1 8 Try.underlying22 hi hz0 hz1 hz2 rfl (by omega) (some ⟨w3.heap.size, 0, none⟩) 0 0 [] rfl HEM.out.drew (some ⟨gl, ol, none⟩) q dl ((l.take q).map (Value.int .i64)) rfl (Src.ints (HRQ.out.below (HC.out.1.alloc HC.out.1.size _).drew)) (by unfold maxLen; omega) (by omega) (by simp) ?_; intro A4 c4 w4 ho4 hg4 hnil4 hwh4; have hgb4 := grown_below hg4 HEM.out.drew (by simp); clear hnil4 hwh4 hg4; rw [Nat.zero_add, List.nil_append] at ho4; rw [Nat.zero_add]) | (refine step_append_any rfl _ _ 22 rfl w3.heap.size 2 i0_ (.int .i64 0) 1 8 Try.underlying22 hi hz0 hz1 hz2 rfl (by omega) A4 q c4 ((l.take q).map (Value.int .i64)) rfl (ownsRow_below ho4 hb5) A5 mr2 c5 ((r2.map (sh 24)).map (Value.int .i64)) rfl (Src.ints oy.ri) (by unfold maxLen; omega) (by omega) (by have := hb5.size; have := hgb4.size; simp at this; omega) ?_; intro A6 c6 w6 ho6 hg6 hnil6 hwh6; have hgb6 := grown_below hg6 (ownsRow_below ho4 hb5) (by have := hb5.size; have := hgb4.size; simp at this; omega); clear hnil6 hwh6 hg6)))
    rename_i hS
    have HC3 := HC
    have hB36 := Lib.hid hS.1
    replace HC := Lib.hid (HC.out.on hS.1)
    have s6 := hS.1.size
    have OM := Lib.hid (show OI w6 w3.heap.size A6 (q + mr2) c6 (l.take q ++ r2.map (sh 24)) by unfold OI; rw [List.map_append]; exact ho6)
    have hA6 := Lib.hid (fun b (e : blk A6 = some b) => (OM.out.lt_ e).2)
    clear hS ho6 ho4 hgb4 hgb6 hb5 oy b0 b1 r0 r1 u1
    have b0 : w6.cell? ⟨w.heap.size, 0, none⟩ = some (.slice A n c) := by simpa using HC.out.2.2.2.1.cell 0
    have b1 : w6.cell? ⟨w.heap.size, 1, none⟩ = some (.slice (some ⟨g, off, none⟩) m d) := by simpa using HC.out.2.2.2.1.cell 1
    have r0 : w6.cell? ⟨w1.heap.size, 0, none⟩ = some (.slice (some ⟨gl, ol, none⟩) ml dl) := by simpa using HC.out.2.2.2.2.2.cell 0
    have r1 : w6.cell? ⟨w1.heap.size, 1, none⟩ = some (.slice (some ⟨gr, or_, none⟩) mr dr) := by simpa using HC.out.2.2.2.2.2.cell 1
    have u1 := keepC HC.out.1 hcr2
    have hp6 := HC.out.2.2.1
    go_wp2_with fail
    refine (full0 _ p G B' σ rk HG.out l _ ml dl w6 hinl.out (hL.below HC.out.1) (fun _ => hLU.out) (by omega) hp6 HC.out.2.1).mono ?_
    rintro e w7 ⟨A7, c7, rfl, oa, hb7⟩
    have hB37 := Lib.hid (below_then hB36.out hb7 hB36.out.size)
    replace HC := Lib.hid (HC.out.on hb7)
    have s7 := hb7.size
    replace OM := Lib.hid (OM.out.below hb7)
    replace oa := Lib.hid oa
    clear hb7 b0 b1 r0 r1 u1 hp6
    have b0 : w7.cell? ⟨w.heap.size, 0, none⟩ = some (.slice A n c) := by simpa using HC.out.2.2.2.1.cell 0
    have b1 : w7.cell? ⟨w.heap.size, 1, none⟩ = some (.slice (some ⟨g, off, none⟩) m d) := by simpa using HC.out.2.2.2.1.cell 1
    have r0 : w7.cell? ⟨w1.heap.size, 0, none⟩ = some (.slice (some ⟨gl, ol, none⟩) ml dl) := by simpa using HC.out.2.2.2.2.2.cell 0
    have r1 : w7.cell? ⟨w1.heap.size, 1, none⟩ = some (.slice (some ⟨gr, or_, none⟩) mr dr) := by simpa using HC.out.2.2.2.2.2.cell 1
    have u1 := keepC HC.out.1 hcr2
    have f0 : (0 : Int) ≤ (F : Int) := by omega
    have f1 : (F : Int) ≤ (dl : Int) := by omega
    have f4 : F ≤ ml := by omega
    have f5 : (F : Int) ≤ (ml : Int) := by omega
    by_cases hFm : F < ml
    · have e4 : ¬ (dl : Int) - F = 0 := by omega
      have e5 : ¬ dl - F = 0 := by omega
      have hrf := ri_part (hL.below HC.out.1) F ml (by omega) (by omega)
      rw [List.take_of_length_le (by rw [List.length_drop]; omega)] at hrf
      have HRF := Lib.hid hrf
      clear hrf
      go_wp2_with (at_builtin; refine wpList_append_any rfl _ _ 22 rfl w3.heap.size 2 i0_ (.int .i64 0) 1 8 Try.underlying22 hi hz0 hz1 hz2 rfl (by omega) A6 (q + mr2) c6 ((l.take q ++ r2.map (sh 24)).map (Value.int .i64)) rfl OM.out _ (ml - F) _ ((l.drop F).map (Value.int .i64)) rfl (Src.ints HRF.out) (by unfold maxLen; omega) (by omega) (by omega) ?_; intro A8 c8 w8 ho8 hg8 hnil8; have hgb := grown_below hg8 OM.out (by omega); clear hnil8)
      have hB38 := Lib.hid (hB37.out.trans hgb)
      have OA := Lib.hid (show OI w8 w6.heap.size A7 (fullL (Un.ap σ l)).length c7 (fullL (Un.ap σ l)) from World.ownsRow.kept oa.out hg8 (by
        rw [blk_own, blk_own]
        cases hA : blk A7 with
        | none => exact .inl rfl
        | some b => exact .inr fun e => by have h1 := hA6.out b e.symm; have h2 := (oa.out.lt_ hA).1; omega))
      have OM8 := Lib.hid (show OI w8 w3.heap.size A8 (q + mr2 + (ml - F)) c8 mid by rw [HMID.out]; unfold OI; rw [List.map_append]; exact ho8)
      have hml8 := Lib.hid OM8.out.ri.1
      have hinm := Lib.hid (show Un.In 48 mid by rw [HMID.out]; first | exact in_app (in_app (in_take hinl.out) hiny.out) (in_drop hinl.out) | exact in_app (in_app (in_take hinl.out) hiny.out) (fun v hv => by cases hv))
      replace HC := Lib.hid (HC3.out.on hB38.out)
      have s8 := hgb.size
      clear hgb hg8 ho8 oa b0 b1 r0 r1 u1
      have b0 : w8.cell? ⟨w.heap.size, 0, none⟩ = some (.slice A n c) := by simpa using HC.out.2.2.2.1.cell 0
      have b1 : w8.cell? ⟨w.heap.size, 1, none⟩ = some (.slice (some ⟨g, off, none⟩) m d) := by simpa using HC.out.2.2.2.1.cell 1
      have r0 : w8.cell? ⟨w1.heap.size, 0, none⟩ = some (.slice (some ⟨gl, ol, none⟩) ml dl) := by simpa using HC.out.2.2.2.2.2.cell 0
      have r1 : w8.cell? ⟨w1.heap.size, 1, none⟩ = some (.slice (some ⟨gr, or_, none⟩) mr dr) := by simpa using HC.out.2.2.2.2.2.cell 1
      have u1 := keepC HC.out.1 hcr2
      refine (full0 _ p G B' σ rk HG.out mid _ _ c8 w8 hinm.out OM8.out.ri (fun _ => own_off OM8.out (by omega)) (by omega) HC.out.2.2.1 HC.out.2.1).mono ?_
      rintro e w9 ⟨A9, c9, rfl, ob, hb9⟩
      replace HC := Lib.hid (HC.out.on hb9)
      have s9 := hb9.size
      replace OA := Lib.hid (OA.out.below hb9)
      have OB := Lib.hid ob
      clear hb9 ob b0 b1 r0 r1 u1
      have b0 : w9.cell? ⟨w.heap.size, 0, none⟩ = some (.slice A n c) := by simpa using HC.out.2.2.2.1.cell 0
      have b1 : w9.cell? ⟨w.heap.size, 1, none⟩ = some (.slice (some ⟨g, off, none⟩) m d) := by simpa using HC.out.2.2.2.1.cell 1
      have r0 : w9.cell? ⟨w1.heap.size, 0, none⟩ = some (.slice (some ⟨gl, ol, none⟩) ml dl) := by simpa using HC.out.2.2.2.2.2.cell 0
      have r1 : w9.cell? ⟨w1.heap.size, 1, none⟩ = some (.slice (some ⟨gr, or_, none⟩) mr dr) := by simpa using HC.out.2.2.2.2.2.cell 1
      have u1 := keepC HC.out.1 hcr2
      go_wp2_with fail
      refine (full0 _ p G B' σ rk HG.out r _ mr dr w9 hinr.out (hR.below HC.out.1) (fun _ => hRU.out) (by omega) HC.out.2.2.1 HC.out.2.1).mono ?_
      rintro e w10 ⟨A10, c10, rfl, oc, hb10⟩
      replace HC := Lib.hid (HC.out.on hb10)
      have s10 := hb10.size
      replace OA := Lib.hid (OA.out.below hb10)
      replace OB := Lib.hid (OB.out.below hb10)
      have OC := Lib.hid oc
      clear hb10 oc b0 b1 r0 r1 u1
      have b0 : w10.cell? ⟨w.heap.size, 0, none⟩ = some (.slice A n c) := by simpa using HC.out.2.2.2.1.cell 0
      have b1 : w10.cell? ⟨w.heap.size, 1, none⟩ = some (.slice (some ⟨g, off, none⟩) m d) := by simpa using HC.out.2.2.2.1.cell 1
      have r0 : w10.cell? ⟨w1.heap.size, 0, none⟩ = some (.slice (some ⟨gl, ol, none⟩) ml dl) := by simpa using HC.out.2.2.2.2.2.cell 0
      have r1 : w10.cell? ⟨w1.heap.size, 1, none⟩ = some (.slice (some ⟨gr, or_, none⟩) mr dr) := by simpa using HC.out.2.2.2.2.2.cell 1
      have u1 := keepC HC.out.1 hcr2
      have hfa : (fullL (Un.ap σ l)).length ≤ 60 := by unfold fullL; split; assumption; simp
      go_wp2_with fail
      refine (l2Order_any A7 _ c7 (fullL (Un.ap σ l)) w10 OA.out.ri (by omega)).mono ?_
      rintro e w11 ⟨A11, c11, rfl, od, hb11⟩
      replace HC := Lib.hid (HC.out.on hb11)
      have s11 := hb11.size
      replace OA := Lib.hid (OA.out.below hb11)
      replace OB := Lib.hid (OB.out.below hb11)
      replace OC := Lib.hid (OC.out.below hb11)
      have OD := Lib.hid od
      clear hb11 od b0 b1 r0 r1 u1
      have b0 : w11.cell? ⟨w.heap.size, 0, none⟩ = some (.slice A n c) := by simpa using HC.out.2.2.2.1.cell 0
      have b1 : w11.cell? ⟨w.heap.size, 1, none⟩ = some (.slice (some ⟨g, off, none⟩) m d) := by simpa using HC.out.2.2.2.1.cell 1
      have r0 : w11.cell? ⟨w1.heap.size, 0, none⟩ = some (.slice (some ⟨gl, ol, none⟩) ml dl) := by simpa using HC.out.2.2.2.2.2.cell 0
      have r1 : w11.cell? ⟨w1.heap.size, 1, none⟩ = some (.slice (some ⟨gr, or_, none⟩) mr dr) := by simpa using HC.out.2.2.2.2.2.cell 1
      have u1 := keepC HC.out.1 hcr2
      have pa := hTa.out.pos
      have pm := Nat.le_trans (show 1 ≤ mid.length by have := hml8.out; omega) (Un.ap_pos hsu.out mid)
      have pr := Nat.le_trans (show 1 ≤ r.length by have := hR.1; omega) (Un.ap_pos hsu.out r)
      generalize Un.ap σ l = a at *
      generalize Un.ap σ mid = M at *
      generalize Un.ap σ r = cc at *
      by_cases ha60 : a.length ≤ 60
      · rw [fullL_yes ha60] at OA OD ⊢
        have za : ¬ a.length = 0 := by omega
        by_cases hm60 : M.length ≤ 60
        · rw [fullL_yes hm60] at OB ⊢
          have zm : ¬ M.length = 0 := by omega
          by_cases hc60 : cc.length ≤ 60
          · rw [fullL_yes hc60] at OC ⊢
            have zc : ¬ cc.length = 0 := by omega
            by_cases h24 : 24 < (ord [] a).length
            · have h24' : (24 : Int) < ((ord [] a).length : Int) := by omega
              obtain rfl : pkNo = V := by rw [← HE.out, pkL_no (pkOk_no (.inr (.inr (.inr h24))))]
              have bkP := HC.out.2.2.2.2.1
              have hB := HC.out.1
              clear HC HE b0 b1 r0 r1 u1
              have K0 : w11.cell? ⟨w.heap.size + 1, 0, none⟩ = some (.slice none 0 0) := by simpa using bkP.cell 0
              have K1 : w11.cell? ⟨w.heap.size + 1, 1, none⟩ = some (.slice none 0 0) := by simpa using bkP.cell 1
              have K2 : w11.cell? ⟨w.heap.size + 1, 2, none⟩ = some (.slice none 0 0) := by simpa using bkP.cell 2
              have K3 : w11.cell? ⟨w.heap.size + 1, 3, none⟩ = some (.int .i64 0) := by simpa using bkP.cell 3
              have K4 : w11.cell? ⟨w.heap.size + 1, 4, none⟩ = some (.int .i64 0) := by simpa using bkP.cell 4
              have K5 : w11.cell? ⟨w.heap.size + 1, 5, none⟩ = some (.int .i64 0) := by simpa using bkP.cell 5
              have F0 : w11.frozen? ⟨w.heap.size + 1, 0, none⟩ = false := bkP.frozen 0
              have F1 : w11.frozen? ⟨w.heap.size + 1, 1, none⟩ = false := bkP.frozen 1
              have F2 : w11.frozen? ⟨w.heap.size + 1, 2, none⟩ = false := bkP.frozen 2
              have F3 : w11.frozen? ⟨w.heap.size + 1, 3, none⟩ = false := bkP.frozen 3
              have F4 : w11.frozen? ⟨w.heap.size + 1, 4, none⟩ = false := bkP.frozen 4
              have F5 : w11.frozen? ⟨w.heap.size + 1, 5, none⟩ = false := bkP.frozen 5
              have hlt := bkP.lt
              have HK := Lib.hid (blk6 (a' := .slice none 0 0) (b' := .slice none 0 0) (c' := .slice none 0 0) (d' := .int .i64 0) (e' := .int .i64 0) (f' := .int .i64 0) bkP)
              have E3 := below6 (P := w.heap.size + 1) (a := .slice none 0 0) (b := .slice none 0 0) (c := .slice none 0 0) (d := .int .i64 0) (e := .int .i64 0) (f := .int .i64 0) hB (by omega)
              clear bkP hB
              go_wp2_with fail
              have K6 : ∀ i, ((World.setCell (World.setCell (World.setCell (World.setCell (World.setCell (World.setCell w11 ⟨(w.heap.size + 1), 0, none⟩ (.slice none 0 0)) ⟨(w.heap.size + 1), 1, none⟩ (.slice none 0 0)) ⟨(w.heap.size + 1), 2, none⟩ (.slice none 0 0)) ⟨(w.heap.size + 1), 3, none⟩ (.int .i64 0)) ⟨(w.heap.size + 1), 4, none⟩ (.int .i64 0)) ⟨(w.heap.size + 1), 5, none⟩ (.int .i64 0))).cell? ⟨w.heap.size + 1, i, none⟩ = #[.slice none 0 0, .slice none 0 0, .slice none 0 0, .int .i64 0, .int .i64 0, .int .i64 0][i]? := fun i => HK.out.cell i
              generalize (World.setCell (World.setCell (World.setCell (World.setCell (World.setCell (World.setCell w11 ⟨(w.heap.size + 1), 0, none⟩ (.slice none 0 0)) ⟨(w.heap.size + 1), 1, none⟩ (.slice none 0 0)) ⟨(w.heap.size + 1), 2, none⟩ (.slice none 0 0)) ⟨(w.heap.size + 1), 3, none⟩ (.int .i64 0)) ⟨(w.heap.size + 1), 4, none⟩ (.int .i64 0)) ⟨(w.heap.size + 1), 5, none⟩ (.int .i64 0)) = W9 at *
              exact bodyPost_ret (v := .tuple #[.agg #[.slice none 0 0, .slice none 0 0, .slice none 0 0, .int .i64 0, .int .i64 0, .int .i64 0], .bool false]) (by simp [results, Try.results34, go_sem, K6]) rfl (pkR_no E3)
            · have h24' : ¬ (24 : Int) < ((ord [] a).length : Int) := by omega
              obtain rfl : ((rnR a a, rnR a M, rnR a cc), true) = V := by rw [← HE.out, pkL_yes (pkOk_yes ha60 hm60 hc60 (by omega))]
              have hnd := Lib.hid (ord_nodup (t := a) (s := []) List.nodup_nil)
              have hmq := Lib.hid (fun x hx h0 => vars_in a x (hm.out x hx h0) h0)
              have hrq := Lib.hid (fun x hx h0 => vars_in a x (hr.out x hx h0) h0)
              have h24d : decide ((24 : Int) < ((ord [] a).length : Int)) = false := decide_eq_false h24'
              have h24n : ((ord [] a).length : Int) ≤ 24 := by omega
              have na : ¬ a = [] := fun e => za (by rw [e]; rfl)
              have nm : ¬ M = [] := fun e => zm (by rw [e]; rfl)
              have nc : ¬ cc = [] := fun e => zc (by rw [e]; rfl)
              have na' : ((a.length : Int) == 0) = false := beq_eq_false_iff_ne.2 (by omega)
              have nm' : ((M.length : Int) == 0) = false := beq_eq_false_iff_ne.2 (by omega)
              have nc' : ((cc.length : Int) == 0) = false := beq_eq_false_iff_ne.2 (by omega)
              clear hm hr HE
              go_wp2_with fail
              refine (l2By_any A11 _ c11 (ord [] a) A7 _ c7 a w11 OD.out.ri OA.out.ri (by omega) (by omega) hnd.out (vars_in a)).mono ?_
              rintro e w12 ⟨A12, c12, rfl, o1, hb12⟩
              have O1 := Lib.hid (show OI w12 w11.heap.size A12 a.length c12 (rnR a a) from o1)
              have L1 := Lib.hid (fun b (e : blk A12 = some b) => (O1.out.lt_ e).2)
              replace HC := Lib.hid (HC.out.on hb12)
              have s12 := hb12.size
              replace OB := Lib.hid (OB.out.below hb12)
              replace OC := Lib.hid (OC.out.below hb12)
              replace OD := Lib.hid (OD.out.below hb12)
              clear hb12 o1 b0 b1 r0 r1 u1
              go_wp2_with fail
              refine (l2By_any A11 _ c11 (ord [] a) A9 _ c9 M w12 OD.out.ri OB.out.ri (by omega) (by omega) hnd.out hmq.out).mono ?_
              rintro e w13 ⟨A13, c13, rfl, o2, hb13⟩
              have O2 := Lib.hid (show OI w13 w12.heap.size A13 M.length c13 (rnR a M) from o2)
              have L2_ := Lib.hid (fun b (e : blk A13 = some b) => (O2.out.lt_ e))
              replace HC := Lib.hid (HC.out.on hb13)
              have s13 := hb13.size
              replace O1 := Lib.hid (O1.out.below hb13)
              replace OC := Lib.hid (OC.out.below hb13)
              replace OD := Lib.hid (OD.out.below hb13)
              clear hb13 o2
              go_wp2_with fail
              refine (l2By_any A11 _ c11 (ord [] a) A10 _ c10 cc w13 OD.out.ri OC.out.ri (by omega) (by omega) hnd.out hrq.out).mono ?_
              rintro e w14 ⟨A14, c14, rfl, o3, hb14⟩
              have O3 := Lib.hid (show OI w14 w13.heap.size A14 cc.length c14 (rnR a cc) from o3)
              have N1 := Lib.hid (show ∀ b, blk A12 = some b → blk A13 ≠ some b from fun b e1 e2 => by have h1 := L1.out b e1; have h2 := (L2_.out b e2).1; omega)
              have N2 := Lib.hid (show ∀ b, blk A12 = some b → blk A14 ≠ some b from fun b e1 e2 => by have h1 := L1.out b e1; have h2 := (O3.out.lt_ e2).1; omega)
              have N3 := Lib.hid (show ∀ b, blk A13 = some b → blk A14 ≠ some b from fun b e1 e2 => by have h1 := (L2_.out b e1).2; have h2 := (O3.out.lt_ e2).1; omega)
              replace HC := Lib.hid (HC.out.on hb14)
              have s14 := hb14.size
              replace O1 := Lib.hid (O1.out.below hb14)
              replace O2 := Lib.hid (O2.out.below hb14)
              have bkP := HC.out.2.2.2.2.1
              have hB := HC.out.1
              clear hb14 o3 HC OA OB OC OD
              have K0 : w14.cell? ⟨w.heap.size + 1, 0, none⟩ = some (.slice none 0 0) := by simpa using bkP.cell 0
              have K1 : w14.cell? ⟨w.heap.size + 1, 1, none⟩ = some (.slice none 0 0) := by simpa using bkP.cell 1
              have K2 : w14.cell? ⟨w.heap.size + 1, 2, none⟩ = some (.slice none 0 0) := by simpa using bkP.cell 2
              have K3 : w14.cell? ⟨w.heap.size + 1, 3, none⟩ = some (.int .i64 0) := by simpa using bkP.cell 3
              have K4 : w14.cell? ⟨w.heap.size + 1, 4, none⟩ = some (.int .i64 0) := by simpa using bkP.cell 4
              have K5 : w14.cell? ⟨w.heap.size + 1, 5, none⟩ = some (.int .i64 0) := by simpa using bkP.cell 5
              have F0 : w14.frozen? ⟨w.heap.size + 1, 0, none⟩ = false := bkP.frozen 0
              have F1 : w14.frozen? ⟨w.heap.size + 1, 1, none⟩ = false := bkP.frozen 1
              have F2 : w14.frozen? ⟨w.heap.size + 1, 2, none⟩ = false := bkP.frozen 2
              have F3 : w14.frozen? ⟨w.heap.size + 1, 3, none⟩ = false := bkP.frozen 3
              have F4 : w14.frozen? ⟨w.heap.size + 1, 4, none⟩ = false := bkP.frozen 4
              have F5 : w14.frozen? ⟨w.heap.size + 1, 5, none⟩ = false := bkP.frozen 5
              have hlt := bkP.lt
              have hPw : w.heap.size + 1 < w11.heap.size := by omega
              have HK := Lib.hid (blk6 (a' := .slice A12 a.length c12) (b' := .slice A13 M.length c13) (c' := .slice A14 cc.length c14) (d' := .int .i64 q) (e' := .int .i64 under) (f' := .int .i64 over) bkP)
              have E3 := Lib.hid (below6 (P := w.heap.size + 1) (a := .slice A12 a.length c12) (b := .slice A13 M.length c13) (c := .slice A14 cc.length c14) (d := .int .i64 q) (e := .int .i64 under) (f := .int .i64 over) hB (by omega))
              clear bkP hB
              go_wp2_with fail
              have Q1 := Lib.hid (oi6 (P := w.heap.size + 1) (a := .slice A12 a.length c12) (b := .slice A13 M.length c13) (c := .slice A14 cc.length c14) (d := .int .i64 q) (e := .int .i64 under) (f := .int .i64 over) O1.out hPw)
              have Q2 := Lib.hid (oi6 (P := w.heap.size + 1) (a := .slice A12 a.length c12) (b := .slice A13 M.length c13) (c := .slice A14 cc.length c14) (d := .int .i64 q) (e := .int .i64 under) (f := .int .i64 over) O2.out (by omega))
              have Q3 := Lib.hid (oi6 (P := w.heap.size + 1) (a := .slice A12 a.length c12) (b := .slice A13 M.length c13) (c := .slice A14 cc.length c14) (d := .int .i64 q) (e := .int .i64 under) (f := .int .i64 over) O3.out (by omega))
              have K6 : ∀ i, ((World.setCell (World.setCell (World.setCell (World.setCell (World.setCell (World.setCell w14 ⟨(w.heap.size + 1), 0, none⟩ (.slice A12 a.length c12)) ⟨(w.heap.size + 1), 1, none⟩ (.slice A13 M.length c13)) ⟨(w.heap.size + 1), 2, none⟩ (.slice A14 cc.length c14)) ⟨(w.heap.size + 1), 3, none⟩ (.int .i64 q)) ⟨(w.heap.size + 1), 4, none⟩ (.int .i64 under)) ⟨(w.heap.size + 1), 5, none⟩ (.int .i64 over))).cell? ⟨w.heap.size + 1, i, none⟩ = #[.slice A12 a.length c12, .slice A13 M.length c13, .slice A14 cc.length c14, .int .i64 q, .int .i64 under, .int .i64 over][i]? := fun i => HK.out.cell i
              clear HK O1 O2 O3
              generalize (World.setCell (World.setCell (World.setCell (World.setCell (World.setCell (World.setCell w14 ⟨(w.heap.size + 1), 0, none⟩ (.slice A12 a.length c12)) ⟨(w.heap.size + 1), 1, none⟩ (.slice A13 M.length c13)) ⟨(w.heap.size + 1), 2, none⟩ (.slice A14 cc.length c14)) ⟨(w.heap.size + 1), 3, none⟩ (.int .i64 q)) ⟨(w.heap.size + 1), 4, none⟩ (.int .i64 under)) ⟨(w.heap.size + 1), 5, none⟩ (.int .i64 over)) = W9 at *
              exact bodyPost_ret (v := .tuple #[.agg #[.slice A12 a.length c12, .slice A13 M.length c13, .slice A14 cc.length c14, .int .i64 q, .int .i64 under, .int .i64 over], .bool true]) (by simp [results, Try.results34, go_sem, K6]) rfl (pkR_yes (rnR_len _ _).symm (rnR_len _ _).symm (rnR_len _ _).symm (Q1.out.base (by omega)) (Q2.out.base (by omega)) (Q3.out.base (by omega)) N1.out N2.out N3.out E3.out)
          · rw [fullL_no hc60] at OC ⊢
            obtain rfl : pkNo = V := by rw [← HE.out, pkL_no (pkOk_no (.inr (.inr (.inl (by omega)))))]
            have bkP := HC.out.2.2.2.2.1
            have hB := HC.out.1
            clear HC HE b0 b1 r0 r1 u1
            have K0 : w11.cell? ⟨w.heap.size + 1, 0, none⟩ = some (.slice none 0 0) := by simpa using bkP.cell 0
            have K1 : w11.cell? ⟨w.heap.size + 1, 1, none⟩ = some (.slice none 0 0) := by simpa using bkP.cell 1
            have K2 : w11.cell? ⟨w.heap.size + 1, 2, none⟩ = some (.slice none 0 0) := by simpa using bkP.cell 2
            have K3 : w11.cell? ⟨w.heap.size + 1, 3, none⟩ = some (.int .i64 0) := by simpa using bkP.cell 3
            have K4 : w11.cell? ⟨w.heap.size + 1, 4, none⟩ = some (.int .i64 0) := by simpa using bkP.cell 4
            have K5 : w11.cell? ⟨w.heap.size + 1, 5, none⟩ = some (.int .i64 0) := by simpa using bkP.cell 5
            have F0 : w11.frozen? ⟨w.heap.size + 1, 0, none⟩ = false := bkP.frozen 0
            have F1 : w11.frozen? ⟨w.heap.size + 1, 1, none⟩ = false := bkP.frozen 1
            have F2 : w11.frozen? ⟨w.heap.size + 1, 2, none⟩ = false := bkP.frozen 2
            have F3 : w11.frozen? ⟨w.heap.size + 1, 3, none⟩ = false := bkP.frozen 3
            have F4 : w11.frozen? ⟨w.heap.size + 1, 4, none⟩ = false := bkP.frozen 4
            have F5 : w11.frozen? ⟨w.heap.size + 1, 5, none⟩ = false := bkP.frozen 5
            have hlt := bkP.lt
            have HK := Lib.hid (blk6 (a' := .slice none 0 0) (b' := .slice none 0 0) (c' := .slice none 0 0) (d' := .int .i64 0) (e' := .int .i64 0) (f' := .int .i64 0) bkP)
            have E3 := below6 (P := w.heap.size + 1) (a := .slice none 0 0) (b := .slice none 0 0) (c := .slice none 0 0) (d := .int .i64 0) (e := .int .i64 0) (f := .int .i64 0) hB (by omega)
            clear bkP hB
            go_wp2_with fail
            have K6 : ∀ i, ((World.setCell (World.setCell (World.setCell (World.setCell (World.setCell (World.setCell w11 ⟨(w.heap.size + 1), 0, none⟩ (.slice none 0 0)) ⟨(w.heap.size + 1), 1, none⟩ (.slice none 0 0)) ⟨(w.heap.size + 1), 2, none⟩ (.slice none 0 0)) ⟨(w.heap.size + 1), 3, none⟩ (.int .i64 0)) ⟨(w.heap.size + 1), 4, none⟩ (.int .i64 0)) ⟨(w.heap.size + 1), 5, none⟩ (.int .i64 0))).cell? ⟨w.heap.size + 1, i, none⟩ = #[.slice none 0 0, .slice none 0 0, .slice none 0 0, .int .i64 0, .int .i64 0, .int .i64 0][i]? := fun i => HK.out.cell i
            generalize (World.setCell (World.setCell (World.setCell (World.setCell (World.setCell (World.setCell w11 ⟨(w.heap.size + 1), 0, none⟩ (.slice none 0 0)) ⟨(w.heap.size + 1), 1, none⟩ (.slice none 0 0)) ⟨(w.heap.size + 1), 2, none⟩ (.slice none 0 0)) ⟨(w.heap.size + 1), 3, none⟩ (.int .i64 0)) ⟨(w.heap.size + 1), 4, none⟩ (.int .i64 0)) ⟨(w.heap.size + 1), 5, none⟩ (.int .i64 0)) = W9 at *
            exact bodyPost_ret (v := .tuple #[.agg #[.slice none 0 0, .slice none 0 0, .slice none 0 0, .int .i64 0, .int .i64 0, .int .i64 0], .bool false]) (by simp [results, Try.results34, go_sem, K6]) rfl (pkR_no E3)
        · rw [fullL_no hm60] at OB ⊢
          obtain rfl : pkNo = V := by rw [← HE.out, pkL_no (pkOk_no (.inr (.inl (by omega))))]
          have bkP := HC.out.2.2.2.2.1
          have hB := HC.out.1
          clear HC HE b0 b1 r0 r1 u1
          have K0 : w11.cell? ⟨w.heap.size + 1, 0, none⟩ = some (.slice none 0 0) := by simpa using bkP.cell 0
          have K1 : w11.cell? ⟨w.heap.size + 1, 1, none⟩ = some (.slice none 0 0) := by simpa using bkP.cell 1
          have K2 : w11.cell? ⟨w.heap.size + 1, 2, none⟩ = some (.slice none 0 0) := by simpa using bkP.cell 2
          have K3 : w11.cell? ⟨w.heap.size + 1, 3, none⟩ = some (.int .i64 0) := by simpa using bkP.cell 3
          have K4 : w11.cell? ⟨w.heap.size + 1, 4, none⟩ = some (.int .i64 0) := by simpa using bkP.cell 4
          have K5 : w11.cell? ⟨w.heap.size + 1, 5, none⟩ = some (.int .i64 0) := by simpa using bkP.cell 5
          have F0 : w11.frozen? ⟨w.heap.size + 1, 0, none⟩ = false := bkP.frozen 0
          have F1 : w11.frozen? ⟨w.heap.size + 1, 1, none⟩ = false := bkP.frozen 1
          have F2 : w11.frozen? ⟨w.heap.size + 1, 2, none⟩ = false := bkP.frozen 2
          have F3 : w11.frozen? ⟨w.heap.size + 1, 3, none⟩ = false := bkP.frozen 3
          have F4 : w11.frozen? ⟨w.heap.size + 1, 4, none⟩ = false := bkP.frozen 4
          have F5 : w11.frozen? ⟨w.heap.size + 1, 5, none⟩ = false := bkP.frozen 5
          have hlt := bkP.lt
          have HK := Lib.hid (blk6 (a' := .slice none 0 0) (b' := .slice none 0 0) (c' := .slice none 0 0) (d' := .int .i64 0) (e' := .int .i64 0) (f' := .int .i64 0) bkP)
          have E3 := below6 (P := w.heap.size + 1) (a := .slice none 0 0) (b := .slice none 0 0) (c := .slice none 0 0) (d := .int .i64 0) (e := .int .i64 0) (f := .int .i64 0) hB (by omega)
          clear bkP hB
          go_wp2_with fail
          have K6 : ∀ i, ((World.setCell (World.setCell (World.setCell (World.setCell (World.setCell (World.setCell w11 ⟨(w.heap.size + 1), 0, none⟩ (.slice none 0 0)) ⟨(w.heap.size + 1), 1, none⟩ (.slice none 0 0)) ⟨(w.heap.size + 1), 2, none⟩ (.slice none 0 0)) ⟨(w.heap.size + 1), 3, none⟩ (.int .i64 0)) ⟨(w.heap.size + 1), 4, none⟩ (.int .i64 0)) ⟨(w.heap.size + 1), 5, none⟩ (.int .i64 0))).cell? ⟨w.heap.size + 1, i, none⟩ = #[.slice none 0 0, .slice none 0 0, .slice none 0 0, .int .i64 0, .int .i64 0, .int .i64 0][i]? := fun i => HK.out.cell i
          generalize (World.setCell (World.setCell (World.setCell (World.setCell (World.setCell (World.setCell w11 ⟨(w.heap.size + 1), 0, none⟩ (.slice none 0 0)) ⟨(w.heap.size + 1), 1, none⟩ (.slice none 0 0)) ⟨(w.heap.size + 1), 2, none⟩ (.slice none 0 0)) ⟨(w.heap.size + 1), 3, none⟩ (.int .i64 0)) ⟨(w.heap.size + 1), 4, none⟩ (.int .i64 0)) ⟨(w.heap.size + 1), 5, none⟩ (.int .i64 0)) = W9 at *
          exact bodyPost_ret (v := .tuple #[.agg #[.slice none 0 0, .slice none 0 0, .slice none 0 0, .int .i64 0, .int .i64 0, .int .i64 0], .bool false]) (by simp [results, Try.results34, go_sem, K6]) rfl (pkR_no E3)
      · rw [fullL_no ha60] at OA OD ⊢
        obtain rfl : pkNo = V := by rw [← HE.out, pkL_no (pkOk_no (.inl (by omega)))]
        have bkP := HC.out.2.2.2.2.1
        have hB := HC.out.1
        clear HC HE b0 b1 r0 r1 u1
        have K0 : w11.cell? ⟨w.heap.size + 1, 0, none⟩ = some (.slice none 0 0) := by simpa using bkP.cell 0
        have K1 : w11.cell? ⟨w.heap.size + 1, 1, none⟩ = some (.slice none 0 0) := by simpa using bkP.cell 1
        have K2 : w11.cell? ⟨w.heap.size + 1, 2, none⟩ = some (.slice none 0 0) := by simpa using bkP.cell 2
        have K3 : w11.cell? ⟨w.heap.size + 1, 3, none⟩ = some (.int .i64 0) := by simpa using bkP.cell 3
        have K4 : w11.cell? ⟨w.heap.size + 1, 4, none⟩ = some (.int .i64 0) := by simpa using bkP.cell 4
        have K5 : w11.cell? ⟨w.heap.size + 1, 5, none⟩ = some (.int .i64 0) := by simpa using bkP.cell 5
        have F0 : w11.frozen? ⟨w.heap.size + 1, 0, none⟩ = false := bkP.frozen 0
        have F1 : w11.frozen? ⟨w.heap.size + 1, 1, none⟩ = false := bkP.frozen 1
        have F2 : w11.frozen? ⟨w.heap.size + 1, 2, none⟩ = false := bkP.frozen 2
        have F3 : w11.frozen? ⟨w.heap.size + 1, 3, none⟩ = false := bkP.frozen 3
        have F4 : w11.frozen? ⟨w.heap.size + 1, 4, none⟩ = false := bkP.frozen 4
        have F5 : w11.frozen? ⟨w.heap.size + 1, 5, none⟩ = false := bkP.frozen 5
        have hlt := bkP.lt
        have HK := Lib.hid (blk6 (a' := .slice none 0 0) (b' := .slice none 0 0) (c' := .slice none 0 0) (d' := .int .i64 0) (e' := .int .i64 0) (f' := .int .i64 0) bkP)
        have E3 := below6 (P := w.heap.size + 1) (a := .slice none 0 0) (b := .slice none 0 0) (c := .slice none 0 0) (d := .int .i64 0) (e := .int .i64 0) (f := .int .i64 0) hB (by omega)
        clear bkP hB
        go_wp2_with fail
        have K6 : ∀ i, ((World.setCell (World.setCell (World.setCell (World.setCell (World.setCell (World.setCell w11 ⟨(w.heap.size + 1), 0, none⟩ (.slice none 0 0)) ⟨(w.heap.size + 1), 1, none⟩ (.slice none 0 0)) ⟨(w.heap.size + 1), 2, none⟩ (.slice none 0 0)) ⟨(w.heap.size + 1), 3, none⟩ (.int .i64 0)) ⟨(w.heap.size + 1), 4, none⟩ (.int .i64 0)) ⟨(w.heap.size + 1), 5, none⟩ (.int .i64 0))).cell? ⟨w.heap.size + 1, i, none⟩ = #[.slice none 0 0, .slice none 0 0, .slice none 0 0, .int .i64 0, .int .i64 0, .int .i64 0][i]? := fun i => HK.out.cell i
        generalize (World.setCell (World.setCell (World.setCell (World.setCell (World.setCell (World.setCell w11 ⟨(w.heap.size + 1), 0, none⟩ (.slice none 0 0)) ⟨(w.heap.size + 1), 1, none⟩ (.slice none 0 0)) ⟨(w.heap.size + 1), 2, none⟩ (.slice none 0 0)) ⟨(w.heap.size + 1), 3, none⟩ (.int .i64 0)) ⟨(w.heap.size + 1), 4, none⟩ (.int .i64 0)) ⟨(w.heap.size + 1), 5, none⟩ (.int .i64 0)) = W9 at *
        exact bodyPost_ret (v := .tuple #[.agg #[.slice none 0 0, .slice none 0 0, .slice none 0 0, .int .i64 0, .int .i64 0, .int .i64 0], .bool false]) (by simp [results, Try.results34, go_sem, K6]) rfl (pkR_no E3)
    · obtain ⟨z, hz⟩ : ∃ z, z = F := ⟨_, rfl⟩
      obtain rfl : ml = F := by omega
      have hzz : ml - ml = 0 := by omega
      have hde := Lib.hid (show l.drop ml = [] from List.drop_of_length_le (by omega))
      rw [hde.out] at HMID
      clear hz z
      by_cases hdF : dl = ml
      · have e5 : dl - ml = 0 := by omega
        have e6 : (dl : Int) - ml = 0 := by omega
        go_wp2_with (at_builtin; refine wpList_append_any rfl _ _ 22 rfl w3.heap.size 2 i0_ (.int .i64 0) 1 8 Try.underlying22 hi hz0 hz1 hz2 rfl (by omega) A6 (q + mr2) c6 ((l.take q ++ r2.map (sh 24)).map (Value.int .i64)) rfl OM.out _ 0 _ [] rfl ⟨rfl, by simp, Or.inl rfl⟩ (by unfold maxLen; omega) (by omega) (by omega) ?_; intro A8 c8 w8 ho8 hg8 hnil8; have hgb := grown_below hg8 OM.out (by omega); clear hnil8)
        have hB38 := Lib.hid (hB37.out.trans hgb)
        have OA := Lib.hid (show OI w8 w6.heap.size A7 (fullL (Un.ap σ l)).length c7 (fullL (Un.ap σ l)) from World.ownsRow.kept oa.out hg8 (by
          rw [blk_own, blk_own]
          cases hA : blk A7 with
          | none => exact .inl rfl
          | some b => exact .inr fun e => by have h1 := hA6.out b e.symm; have h2 := (oa.out.lt_ hA).1; omega))
        have OM8 := Lib.hid (show OI w8 w3.heap.size A8 (q + mr2) c8 mid by rw [HMID.out]; unfold OI; rw [List.map_append]; exact ho8)
        have hml8 := Lib.hid OM8.out.ri.1
        have hinm := Lib.hid (show Un.In 48 mid by rw [HMID.out]; first | exact in_app (in_app (in_take hinl.out) hiny.out) (in_drop hinl.out) | exact in_app (in_app (in_take hinl.out) hiny.out) (fun v hv => by cases hv))
        replace HC := Lib.hid (HC3.out.on hB38.out)
        have s8 := hgb.size
        clear hgb hg8 ho8 oa b0 b1 r0 r1 u1
        have b0 : w8.cell? ⟨w.heap.size, 0, none⟩ = some (.slice A n c) := by simpa using HC.out.2.2.2.1.cell 0
        have b1 : w8.cell? ⟨w.heap.size, 1, none⟩ = some (.slice (some ⟨g, off, none⟩) m d) := by simpa using HC.out.2.2.2.1.cell 1
        have r0 : w8.cell? ⟨w1.heap.size, 0, none⟩ = some (.slice (some ⟨gl, ol, none⟩) ml dl) := by simpa using HC.out.2.2.2.2.2.cell 0
        have r1 : w8.cell? ⟨w1.heap.size, 1, none⟩ = some (.slice (some ⟨gr, or_, none⟩) mr dr) := by simpa using HC.out.2.2.2.2.2.cell 1
        have u1 := keepC HC.out.1 hcr2
        refine (full0 _ p G B' σ rk HG.out mid _ _ c8 w8 hinm.out OM8.out.ri (fun _ => own_off OM8.out (by omega)) (by omega) HC.out.2.2.1 HC.out.2.1).mono ?_
        rintro e w9 ⟨A9, c9, rfl, ob, hb9⟩
        replace HC := Lib.hid (HC.out.on hb9)
        have s9 := hb9.size
        replace OA := Lib.hid (OA.out.below hb9)
        have OB := Lib.hid ob
        clear hb9 ob b0 b1 r0 r1 u1
        have b0 : w9.cell? ⟨w.heap.size, 0, none⟩ = some (.slice A n c) := by simpa using HC.out.2.2.2.1.cell 0
        have b1 : w9.cell? ⟨w.heap.size, 1, none⟩ = some (.slice (some ⟨g, off, none⟩) m d) := by simpa using HC.out.2.2.2.1.cell 1
        have r0 : w9.cell? ⟨w1.heap.size, 0, none⟩ = some (.slice (some ⟨gl, ol, none⟩) ml dl) := by simpa using HC.out.2.2.2.2.2.cell 0
        have r1 : w9.cell? ⟨w1.heap.size, 1, none⟩ = some (.slice (some ⟨gr, or_, none⟩) mr dr) := by simpa using HC.out.2.2.2.2.2.cell 1
        have u1 := keepC HC.out.1 hcr2
        go_wp2_with fail
        refine (full0 _ p G B' σ rk HG.out r _ mr dr w9 hinr.out (hR.below HC.out.1) (fun _ => hRU.out) (by omega) HC.out.2.2.1 HC.out.2.1).mono ?_
        rintro e w10 ⟨A10, c10, rfl, oc, hb10⟩
        replace HC := Lib.hid (HC.out.on hb10)
        have s10 := hb10.size
        replace OA := Lib.hid (OA.out.below hb10)
        replace OB := Lib.hid (OB.out.below hb10)
        have OC := Lib.hid oc
        clear hb10 oc b0 b1 r0 r1 u1
        have b0 : w10.cell? ⟨w.heap.size, 0, none⟩ = some (.slice A n c) := by simpa using HC.out.2.2.2.1.cell 0
        have b1 : w10.cell? ⟨w.heap.size, 1, none⟩ = some (.slice (some ⟨g, off, none⟩) m d) := by simpa using HC.out.2.2.2.1.cell 1
        have r0 : w10.cell? ⟨w1.heap.size, 0, none⟩ = some (.slice (some ⟨gl, ol, none⟩) ml dl) := by simpa using HC.out.2.2.2.2.2.cell 0
        have r1 : w10.cell? ⟨w1.heap.size, 1, none⟩ = some (.slice (some ⟨gr, or_, none⟩) mr dr) := by simpa using HC.out.2.2.2.2.2.cell 1
        have u1 := keepC HC.out.1 hcr2
        have hfa : (fullL (Un.ap σ l)).length ≤ 60 := by unfold fullL; split; assumption; simp
        go_wp2_with fail
        refine (l2Order_any A7 _ c7 (fullL (Un.ap σ l)) w10 OA.out.ri (by omega)).mono ?_
        rintro e w11 ⟨A11, c11, rfl, od, hb11⟩
        replace HC := Lib.hid (HC.out.on hb11)
        have s11 := hb11.size
        replace OA := Lib.hid (OA.out.below hb11)
        replace OB := Lib.hid (OB.out.below hb11)
        replace OC := Lib.hid (OC.out.below hb11)
        have OD := Lib.hid od
        clear hb11 od b0 b1 r0 r1 u1
        have b0 : w11.cell? ⟨w.heap.size, 0, none⟩ = some (.slice A n c) := by simpa using HC.out.2.2.2.1.cell 0
        have b1 : w11.cell? ⟨w.heap.size, 1, none⟩ = some (.slice (some ⟨g, off, none⟩) m d) := by simpa using HC.out.2.2.2.1.cell 1
        have r0 : w11.cell? ⟨w1.heap.size, 0, none⟩ = some (.slice (some ⟨gl, ol, none⟩) ml dl) := by simpa using HC.out.2.2.2.2.2.cell 0
        have r1 : w11.cell? ⟨w1.heap.size, 1, none⟩ = some (.slice (some ⟨gr, or_, none⟩) mr dr) := by simpa using HC.out.2.2.2.2.2.cell 1
        have u1 := keepC HC.out.1 hcr2
        have pa := hTa.out.pos
        have pm := Nat.le_trans (show 1 ≤ mid.length by have := hml8.out; omega) (Un.ap_pos hsu.out mid)
        have pr := Nat.le_trans (show 1 ≤ r.length by have := hR.1; omega) (Un.ap_pos hsu.out r)
        generalize Un.ap σ l = a at *
        generalize Un.ap σ mid = M at *
        generalize Un.ap σ r = cc at *
        by_cases ha60 : a.length ≤ 60
        · rw [fullL_yes ha60] at OA OD ⊢
          have za : ¬ a.length = 0 := by omega
          by_cases hm60 : M.length ≤ 60
          · rw [fullL_yes hm60] at OB ⊢
            have zm : ¬ M.length = 0 := by omega
            by_cases hc60 : cc.length ≤ 60
            · rw [fullL_yes hc60] at OC ⊢
              have zc : ¬ cc.length = 0 := by omega
              by_cases h24 : 24 < (ord [] a).length
              · have h24' : (24 : Int) < ((ord [] a).length : Int) := by omega
                obtain rfl : pkNo = V := by rw [← HE.out, pkL_no (pkOk_no (.inr (.inr (.inr h24))))]
                have bkP := HC.out.2.2.2.2.1
                have hB := HC.out.1
                clear HC HE b0 b1 r0 r1 u1
                have K0 : w11.cell? ⟨w.heap.size + 1, 0, none⟩ = some (.slice none 0 0) := by simpa using bkP.cell 0
                have K1 : w11.cell? ⟨w.heap.size + 1, 1, none⟩ = some (.slice none 0 0) := by simpa using bkP.cell 1
                have K2 : w11.cell? ⟨w.heap.size + 1, 2, none⟩ = some (.slice none 0 0) := by simpa using bkP.cell 2
                have K3 : w11.cell? ⟨w.heap.size + 1, 3, none⟩ = some (.int .i64 0) := by simpa using bkP.cell 3
                have K4 : w11.cell? ⟨w.heap.size + 1, 4, none⟩ = some (.int .i64 0) := by simpa using bkP.cell 4
                have K5 : w11.cell? ⟨w.heap.size + 1, 5, none⟩ = some (.int .i64 0) := by simpa using bkP.cell 5
                have F0 : w11.frozen? ⟨w.heap.size + 1, 0, none⟩ = false := bkP.frozen 0
                have F1 : w11.frozen? ⟨w.heap.size + 1, 1, none⟩ = false := bkP.frozen 1
                have F2 : w11.frozen? ⟨w.heap.size + 1, 2, none⟩ = false := bkP.frozen 2
                have F3 : w11.frozen? ⟨w.heap.size + 1, 3, none⟩ = false := bkP.frozen 3
                have F4 : w11.frozen? ⟨w.heap.size + 1, 4, none⟩ = false := bkP.frozen 4
                have F5 : w11.frozen? ⟨w.heap.size + 1, 5, none⟩ = false := bkP.frozen 5
                have hlt := bkP.lt
                have HK := Lib.hid (blk6 (a' := .slice none 0 0) (b' := .slice none 0 0) (c' := .slice none 0 0) (d' := .int .i64 0) (e' := .int .i64 0) (f' := .int .i64 0) bkP)
                have E3 := below6 (P := w.heap.size + 1) (a := .slice none 0 0) (b := .slice none 0 0) (c := .slice none 0 0) (d := .int .i64 0) (e := .int .i64 0) (f := .int .i64 0) hB (by omega)
                clear bkP hB
                go_wp2_with fail
                have K6 : ∀ i, ((World.setCell (World.setCell (World.setCell (World.setCell (World.setCell (World.setCell w11 ⟨(w.heap.size + 1), 0, none⟩ (.slice none 0 0)) ⟨(w.heap.size + 1), 1, none⟩ (.slice none 0 0)) ⟨(w.heap.size + 1), 2, none⟩ (.slice none 0 0)) ⟨(w.heap.size + 1), 3, none⟩ (.int .i64 0)) ⟨(w.heap.size + 1), 4, none⟩ (.int .i64 0)) ⟨(w.heap.size + 1), 5, none⟩ (.int .i64 0))).cell? ⟨w.heap.size + 1, i, none⟩ = #[.slice none 0 0, .slice none 0 0, .slice none 0 0, .int .i64 0, .int .i64 0, .int .i64 0][i]? := fun i => HK.out.cell i
                generalize (World.setCell (World.setCell (World.setCell (World.setCell (World.setCell (World.setCell w11 ⟨(w.heap.size + 1), 0, none⟩ (.slice none 0 0)) ⟨(w.heap.size + 1), 1, none⟩ (.slice none 0 0)) ⟨(w.heap.size + 1), 2, none⟩ (.slice none 0 0)) ⟨(w.heap.size + 1), 3, none⟩ (.int .i64 0)) ⟨(w.heap.size + 1), 4, none⟩ (.int .i64 0)) ⟨(w.heap.size + 1), 5, none⟩ (.int .i64 0)) = W9 at *
                exact bodyPost_ret (v := .tuple #[.agg #[.slice none 0 0, .slice none 0 0, .slice none 0 0, .int .i64 0, .int .i64 0, .int .i64 0], .bool false]) (by simp [results, Try.results34, go_sem, K6]) rfl (pkR_no E3)
              · have h24' : ¬ (24 : Int) < ((ord [] a).length : Int) := by omega
                obtain rfl : ((rnR a a, rnR a M, rnR a cc), true) = V := by rw [← HE.out, pkL_yes (pkOk_yes ha60 hm60 hc60 (by omega))]
                have hnd := Lib.hid (ord_nodup (t := a) (s := []) List.nodup_nil)
                have hmq := Lib.hid (fun x hx h0 => vars_in a x (hm.out x hx h0) h0)
                have hrq := Lib.hid (fun x hx h0 => vars_in a x (hr.out x hx h0) h0)
                have h24d : decide ((24 : Int) < ((ord [] a).length : Int)) = false := decide_eq_false h24'
                have h24n : ((ord [] a).length : Int) ≤ 24 := by omega
                have na : ¬ a = [] := fun e => za (by rw [e]; rfl)
                have nm : ¬ M = [] := fun e => zm (by rw [e]; rfl)
                have nc : ¬ cc = [] := fun e => zc (by rw [e]; rfl)
                have na' : ((a.length : Int) == 0) = false := beq_eq_false_iff_ne.2 (by omega)
                have nm' : ((M.length : Int) == 0) = false := beq_eq_false_iff_ne.2 (by omega)
                have nc' : ((cc.length : Int) == 0) = false := beq_eq_false_iff_ne.2 (by omega)
                clear hm hr HE
                go_wp2_with fail
                refine (l2By_any A11 _ c11 (ord [] a) A7 _ c7 a w11 OD.out.ri OA.out.ri (by omega) (by omega) hnd.out (vars_in a)).mono ?_
                rintro e w12 ⟨A12, c12, rfl, o1, hb12⟩
                have O1 := Lib.hid (show OI w12 w11.heap.size A12 a.length c12 (rnR a a) from o1)
                have L1 := Lib.hid (fun b (e : blk A12 = some b) => (O1.out.lt_ e).2)
                replace HC := Lib.hid (HC.out.on hb12)
                have s12 := hb12.size
                replace OB := Lib.hid (OB.out.below hb12)
                replace OC := Lib.hid (OC.out.below hb12)
                replace OD := Lib.hid (OD.out.below hb12)
                clear hb12 o1 b0 b1 r0 r1 u1
                go_wp2_with fail
                refine (l2By_any A11 _ c11 (ord [] a) A9 _ c9 M w12 OD.out.ri OB.out.ri (by omega) (by omega) hnd.out hmq.out).mono ?_
                rintro e w13 ⟨A13, c13, rfl, o2, hb13⟩
                have O2 := Lib.hid (show OI w13 w12.heap.size A13 M.length c13 (rnR a M) from o2)
                have L2_ := Lib.hid (fun b (e : blk A13 = some b) => (O2.out.lt_ e))
                replace HC := Lib.hid (HC.out.on hb13)
                have s13 := hb13.size
                replace O1 := Lib.hid (O1.out.below hb13)
                replace OC := Lib.hid (OC.out.below hb13)
                replace OD := Lib.hid (OD.out.below hb13)
                clear hb13 o2
                go_wp2_with fail
                refine (l2By_any A11 _ c11 (ord [] a) A10 _ c10 cc w13 OD.out.ri OC.out.ri (by omega) (by omega) hnd.out hrq.out).mono ?_
                rintro e w14 ⟨A14, c14, rfl, o3, hb14⟩
                have O3 := Lib.hid (show OI w14 w13.heap.size A14 cc.length c14 (rnR a cc) from o3)
                have N1 := Lib.hid (show ∀ b, blk A12 = some b → blk A13 ≠ some b from fun b e1 e2 => by have h1 := L1.out b e1; have h2 := (L2_.out b e2).1; omega)
                have N2 := Lib.hid (show ∀ b, blk A12 = some b → blk A14 ≠ some b from fun b e1 e2 => by have h1 := L1.out b e1; have h2 := (O3.out.lt_ e2).1; omega)
                have N3 := Lib.hid (show ∀ b, blk A13 = some b → blk A14 ≠ some b from fun b e1 e2 => by have h1 := (L2_.out b e1).2; have h2 := (O3.out.lt_ e2).1; omega)
                replace HC := Lib.hid (HC.out.on hb14)
                have s14 := hb14.size
                replace O1 := Lib.hid (O1.out.below hb14)
                replace O2 := Lib.hid (O2.out.below hb14)
                have bkP := HC.out.2.2.2.2.1
                have hB := HC.out.1
                clear hb14 o3 HC OA OB OC OD
                have K0 : w14.cell? ⟨w.heap.size + 1, 0, none⟩ = some (.slice none 0 0) := by simpa using bkP.cell 0
                have K1 : w14.cell? ⟨w.heap.size + 1, 1, none⟩ = some (.slice none 0 0) := by simpa using bkP.cell 1
                have K2 : w14.cell? ⟨w.heap.size + 1, 2, none⟩ = some (.slice none 0 0) := by simpa using bkP.cell 2
                have K3 : w14.cell? ⟨w.heap.size + 1, 3, none⟩ = some (.int .i64 0) := by simpa using bkP.cell 3
                have K4 : w14.cell? ⟨w.heap.size + 1, 4, none⟩ = some (.int .i64 0) := by simpa using bkP.cell 4
                have K5 : w14.cell? ⟨w.heap.size + 1, 5, none⟩ = some (.int .i64 0) := by simpa using bkP.cell 5
                have F0 : w14.frozen? ⟨w.heap.size + 1, 0, none⟩ = false := bkP.frozen 0
                have F1 : w14.frozen? ⟨w.heap.size + 1, 1, none⟩ = false := bkP.frozen 1
                have F2 : w14.frozen? ⟨w.heap.size + 1, 2, none⟩ = false := bkP.frozen 2
                have F3 : w14.frozen? ⟨w.heap.size + 1, 3, none⟩ = false := bkP.frozen 3
                have F4 : w14.frozen? ⟨w.heap.size + 1, 4, none⟩ = false := bkP.frozen 4
                have F5 : w14.frozen? ⟨w.heap.size + 1, 5, none⟩ = false := bkP.frozen 5
                have hlt := bkP.lt
                have hPw : w.heap.size + 1 < w11.heap.size := by omega
                have HK := Lib.hid (blk6 (a' := .slice A12 a.length c12) (b' := .slice A13 M.length c13) (c' := .slice A14 cc.length c14) (d' := .int .i64 q) (e' := .int .i64 under) (f' := .int .i64 over) bkP)
                have E3 := Lib.hid (below6 (P := w.heap.size + 1) (a := .slice A12 a.length c12) (b := .slice A13 M.length c13) (c := .slice A14 cc.length c14) (d := .int .i64 q) (e := .int .i64 under) (f := .int .i64 over) hB (by omega))
                clear bkP hB
                go_wp2_with fail
                have Q1 := Lib.hid (oi6 (P := w.heap.size + 1) (a := .slice A12 a.length c12) (b := .slice A13 M.length c13) (c := .slice A14 cc.length c14) (d := .int .i64 q) (e := .int .i64 under) (f := .int .i64 over) O1.out hPw)
                have Q2 := Lib.hid (oi6 (P := w.heap.size + 1) (a := .slice A12 a.length c12) (b := .slice A13 M.length c13) (c := .slice A14 cc.length c14) (d := .int .i64 q) (e := .int .i64 under) (f := .int .i64 over) O2.out (by omega))
                have Q3 := Lib.hid (oi6 (P := w.heap.size + 1) (a := .slice A12 a.length c12) (b := .slice A13 M.length c13) (c := .slice A14 cc.length c14) (d := .int .i64 q) (e := .int .i64 under) (f := .int .i64 over) O3.out (by omega))
                have K6 : ∀ i, ((World.setCell (World.setCell (World.setCell (World.setCell (World.setCell (World.setCell w14 ⟨(w.heap.size + 1), 0, none⟩ (.slice A12 a.length c12)) ⟨(w.heap.size + 1), 1, none⟩ (.slice A13 M.length c13)) ⟨(w.heap.size + 1), 2, none⟩ (.slice A14 cc.length c14)) ⟨(w.heap.size + 1), 3, none⟩ (.int .i64 q)) ⟨(w.heap.size + 1), 4, none⟩ (.int .i64 under)) ⟨(w.heap.size + 1), 5, none⟩ (.int .i64 over))).cell? ⟨w.heap.size + 1, i, none⟩ = #[.slice A12 a.length c12, .slice A13 M.length c13, .slice A14 cc.length c14, .int .i64 q, .int .i64 under, .int .i64 over][i]? := fun i => HK.out.cell i
                clear HK O1 O2 O3
                generalize (World.setCell (World.setCell (World.setCell (World.setCell (World.setCell (World.setCell w14 ⟨(w.heap.size + 1), 0, none⟩ (.slice A12 a.length c12)) ⟨(w.heap.size + 1), 1, none⟩ (.slice A13 M.length c13)) ⟨(w.heap.size + 1), 2, none⟩ (.slice A14 cc.length c14)) ⟨(w.heap.size + 1), 3, none⟩ (.int .i64 q)) ⟨(w.heap.size + 1), 4, none⟩ (.int .i64 under)) ⟨(w.heap.size + 1), 5, none⟩ (.int .i64 over)) = W9 at *
                exact bodyPost_ret (v := .tuple #[.agg #[.slice A12 a.length c12, .slice A13 M.length c13, .slice A14 cc.length c14, .int .i64 q, .int .i64 under, .int .i64 over], .bool true]) (by simp [results, Try.results34, go_sem, K6]) rfl (pkR_yes (rnR_len _ _).symm (rnR_len _ _).symm (rnR_len _ _).symm (Q1.out.base (by omega)) (Q2.out.base (by omega)) (Q3.out.base (by omega)) N1.out N2.out N3.out E3.out)
            · rw [fullL_no hc60] at OC ⊢
              obtain rfl : pkNo = V := by rw [← HE.out, pkL_no (pkOk_no (.inr (.inr (.inl (by omega)))))]
              have bkP := HC.out.2.2.2.2.1
              have hB := HC.out.1
              clear HC HE b0 b1 r0 r1 u1
              have K0 : w11.cell? ⟨w.heap.size + 1, 0, none⟩ = some (.slice none 0 0) := by simpa using bkP.cell 0
              have K1 : w11.cell? ⟨w.heap.size + 1, 1, none⟩ = some (.slice none 0 0) := by simpa using bkP.cell 1
              have K2 : w11.cell? ⟨w.heap.size + 1, 2, none⟩ = some (.slice none 0 0) := by simpa using bkP.cell 2
              have K3 : w11.cell? ⟨w.heap.size + 1, 3, none⟩ = some (.int .i64 0) := by simpa using bkP.cell 3
              have K4 : w11.cell? ⟨w.heap.size + 1, 4, none⟩ = some (.int .i64 0) := by simpa using bkP.cell 4
              have K5 : w11.cell? ⟨w.heap.size + 1, 5, none⟩ = some (.int .i64 0) := by simpa using bkP.cell 5
              have F0 : w11.frozen? ⟨w.heap.size + 1, 0, none⟩ = false := bkP.frozen 0
              have F1 : w11.frozen? ⟨w.heap.size + 1, 1, none⟩ = false := bkP.frozen 1
              have F2 : w11.frozen? ⟨w.heap.size + 1, 2, none⟩ = false := bkP.frozen 2
              have F3 : w11.frozen? ⟨w.heap.size + 1, 3, none⟩ = false := bkP.frozen 3
              have F4 : w11.frozen? ⟨w.heap.size + 1, 4, none⟩ = false := bkP.frozen 4
              have F5 : w11.frozen? ⟨w.heap.size + 1, 5, none⟩ = false := bkP.frozen 5
              have hlt := bkP.lt
              have HK := Lib.hid (blk6 (a' := .slice none 0 0) (b' := .slice none 0 0) (c' := .slice none 0 0) (d' := .int .i64 0) (e' := .int .i64 0) (f' := .int .i64 0) bkP)
              have E3 := below6 (P := w.heap.size + 1) (a := .slice none 0 0) (b := .slice none 0 0) (c := .slice none 0 0) (d := .int .i64 0) (e := .int .i64 0) (f := .int .i64 0) hB (by omega)
              clear bkP hB
              go_wp2_with fail
              have K6 : ∀ i, ((World.setCell (World.setCell (World.setCell (World.setCell (World.setCell (World.setCell w11 ⟨(w.heap.size + 1), 0, none⟩ (.slice none 0 0)) ⟨(w.heap.size + 1), 1, none⟩ (.slice none 0 0)) ⟨(w.heap.size + 1), 2, none⟩ (.slice none 0 0)) ⟨(w.heap.size + 1), 3, none⟩ (.int .i64 0)) ⟨(w.heap.size + 1), 4, none⟩ (.int .i64 0)) ⟨(w.heap.size + 1), 5, none⟩ (.int .i64 0))).cell? ⟨w.heap.size + 1, i, none⟩ = #[.slice none 0 0, .slice none 0 0, .slice none 0 0, .int .i64 0, .int .i64 0, .int .i64 0][i]? := fun i => HK.out.cell i
              generalize (World.setCell (World.setCell (World.setCell (World.setCell (World.setCell (World.setCell w11 ⟨(w.heap.size + 1), 0, none⟩ (.slice none 0 0)) ⟨(w.heap.size + 1), 1, none⟩ (.slice none 0 0)) ⟨(w.heap.size + 1), 2, none⟩ (.slice none 0 0)) ⟨(w.heap.size + 1), 3, none⟩ (.int .i64 0)) ⟨(w.heap.size + 1), 4, none⟩ (.int .i64 0)) ⟨(w.heap.size + 1), 5, none⟩ (.int .i64 0)) = W9 at *
              exact bodyPost_ret (v := .tuple #[.agg #[.slice none 0 0, .slice none 0 0, .slice none 0 0, .int .i64 0, .int .i64 0, .int .i64 0], .bool false]) (by simp [results, Try.results34, go_sem, K6]) rfl (pkR_no E3)
          · rw [fullL_no hm60] at OB ⊢
            obtain rfl : pkNo = V := by rw [← HE.out, pkL_no (pkOk_no (.inr (.inl (by omega))))]
            have bkP := HC.out.2.2.2.2.1
            have hB := HC.out.1
            clear HC HE b0 b1 r0 r1 u1
            have K0 : w11.cell? ⟨w.heap.size + 1, 0, none⟩ = some (.slice none 0 0) := by simpa using bkP.cell 0
            have K1 : w11.cell? ⟨w.heap.size + 1, 1, none⟩ = some (.slice none 0 0) := by simpa using bkP.cell 1
            have K2 : w11.cell? ⟨w.heap.size + 1, 2, none⟩ = some (.slice none 0 0) := by simpa using bkP.cell 2
            have K3 : w11.cell? ⟨w.heap.size + 1, 3, none⟩ = some (.int .i64 0) := by simpa using bkP.cell 3
            have K4 : w11.cell? ⟨w.heap.size + 1, 4, none⟩ = some (.int .i64 0) := by simpa using bkP.cell 4
            have K5 : w11.cell? ⟨w.heap.size + 1, 5, none⟩ = some (.int .i64 0) := by simpa using bkP.cell 5
            have F0 : w11.frozen? ⟨w.heap.size + 1, 0, none⟩ = false := bkP.frozen 0
            have F1 : w11.frozen? ⟨w.heap.size + 1, 1, none⟩ = false := bkP.frozen 1
            have F2 : w11.frozen? ⟨w.heap.size + 1, 2, none⟩ = false := bkP.frozen 2
            have F3 : w11.frozen? ⟨w.heap.size + 1, 3, none⟩ = false := bkP.frozen 3
            have F4 : w11.frozen? ⟨w.heap.size + 1, 4, none⟩ = false := bkP.frozen 4
            have F5 : w11.frozen? ⟨w.heap.size + 1, 5, none⟩ = false := bkP.frozen 5
            have hlt := bkP.lt
            have HK := Lib.hid (blk6 (a' := .slice none 0 0) (b' := .slice none 0 0) (c' := .slice none 0 0) (d' := .int .i64 0) (e' := .int .i64 0) (f' := .int .i64 0) bkP)
            have E3 := below6 (P := w.heap.size + 1) (a := .slice none 0 0) (b := .slice none 0 0) (c := .slice none 0 0) (d := .int .i64 0) (e := .int .i64 0) (f := .int .i64 0) hB (by omega)
            clear bkP hB
            go_wp2_with fail
            have K6 : ∀ i, ((World.setCell (World.setCell (World.setCell (World.setCell (World.setCell (World.setCell w11 ⟨(w.heap.size + 1), 0, none⟩ (.slice none 0 0)) ⟨(w.heap.size + 1), 1, none⟩ (.slice none 0 0)) ⟨(w.heap.size + 1), 2, none⟩ (.slice none 0 0)) ⟨(w.heap.size + 1), 3, none⟩ (.int .i64 0)) ⟨(w.heap.size + 1), 4, none⟩ (.int .i64 0)) ⟨(w.heap.size + 1), 5, none⟩ (.int .i64 0))).cell? ⟨w.heap.size + 1, i, none⟩ = #[.slice none 0 0, .slice none 0 0, .slice none 0 0, .int .i64 0, .int .i64 0, .int .i64 0][i]? := fun i => HK.out.cell i
            generalize (World.setCell (World.setCell (World.setCell (World.setCell (World.setCell (World.setCell w11 ⟨(w.heap.size + 1), 0, none⟩ (.slice none 0 0)) ⟨(w.heap.size + 1), 1, none⟩ (.slice none 0 0)) ⟨(w.heap.size + 1), 2, none⟩ (.slice none 0 0)) ⟨(w.heap.size + 1), 3, none⟩ (.int .i64 0)) ⟨(w.heap.size + 1), 4, none⟩ (.int .i64 0)) ⟨(w.heap.size + 1), 5, none⟩ (.int .i64 0)) = W9 at *
            exact bodyPost_ret (v := .tuple #[.agg #[.slice none 0 0, .slice none 0 0, .slice none 0 0, .int .i64 0, .int .i64 0, .int .i64 0], .bool false]) (by simp [results, Try.results34, go_sem, K6]) rfl (pkR_no E3)
        · rw [fullL_no ha60] at OA OD ⊢
          obtain rfl : pkNo = V := by rw [← HE.out, pkL_no (pkOk_no (.inl (by omega)))]
          have bkP := HC.out.2.2.2.2.1
          have hB := HC.out.1
          clear HC HE b0 b1 r0 r1 u1
          have K0 : w11.cell? ⟨w.heap.size + 1, 0, none⟩ = some (.slice none 0 0) := by simpa using bkP.cell 0
          have K1 : w11.cell? ⟨w.heap.size + 1, 1, none⟩ = some (.slice none 0 0) := by simpa using bkP.cell 1
          have K2 : w11.cell? ⟨w.heap.size + 1, 2, none⟩ = some (.slice none 0 0) := by simpa using bkP.cell 2
          have K3 : w11.cell? ⟨w.heap.size + 1, 3, none⟩ = some (.int .i64 0) := by simpa using bkP.cell 3
          have K4 : w11.cell? ⟨w.heap.size + 1, 4, none⟩ = some (.int .i64 0) := by simpa using bkP.cell 4
          have K5 : w11.cell? ⟨w.heap.size + 1, 5, none⟩ = some (.int .i64 0) := by simpa using bkP.cell 5
          have F0 : w11.frozen? ⟨w.heap.size + 1, 0, none⟩ = false := bkP.frozen 0
          have F1 : w11.frozen? ⟨w.heap.size + 1, 1, none⟩ = false := bkP.frozen 1
          have F2 : w11.frozen? ⟨w.heap.size + 1, 2, none⟩ = false := bkP.frozen 2
          have F3 : w11.frozen? ⟨w.heap.size + 1, 3, none⟩ = false := bkP.frozen 3
          have F4 : w11.frozen? ⟨w.heap.size + 1, 4, none⟩ = false := bkP.frozen 4
          have F5 : w11.frozen? ⟨w.heap.size + 1, 5, none⟩ = false := bkP.frozen 5
          have hlt := bkP.lt
          have HK := Lib.hid (blk6 (a' := .slice none 0 0) (b' := .slice none 0 0) (c' := .slice none 0 0) (d' := .int .i64 0) (e' := .int .i64 0) (f' := .int .i64 0) bkP)
          have E3 := below6 (P := w.heap.size + 1) (a := .slice none 0 0) (b := .slice none 0 0) (c := .slice none 0 0) (d := .int .i64 0) (e := .int .i64 0) (f := .int .i64 0) hB (by omega)
          clear bkP hB
          go_wp2_with fail
          have K6 : ∀ i, ((World.setCell (World.setCell (World.setCell (World.setCell (World.setCell (World.setCell w11 ⟨(w.heap.size + 1), 0, none⟩ (.slice none 0 0)) ⟨(w.heap.size + 1), 1, none⟩ (.slice none 0 0)) ⟨(w.heap.size + 1), 2, none⟩ (.slice none 0 0)) ⟨(w.heap.size + 1), 3, none⟩ (.int .i64 0)) ⟨(w.heap.size + 1), 4, none⟩ (.int .i64 0)) ⟨(w.heap.size + 1), 5, none⟩ (.int .i64 0))).cell? ⟨w.heap.size + 1, i, none⟩ = #[.slice none 0 0, .slice none 0 0, .slice none 0 0, .int .i64 0, .int .i64 0, .int .i64 0][i]? := fun i => HK.out.cell i
          generalize (World.setCell (World.setCell (World.setCell (World.setCell (World.setCell (World.setCell w11 ⟨(w.heap.size + 1), 0, none⟩ (.slice none 0 0)) ⟨(w.heap.size + 1), 1, none⟩ (.slice none 0 0)) ⟨(w.heap.size + 1), 2, none⟩ (.slice none 0 0)) ⟨(w.heap.size + 1), 3, none⟩ (.int .i64 0)) ⟨(w.heap.size + 1), 4, none⟩ (.int .i64 0)) ⟨(w.heap.size + 1), 5, none⟩ (.int .i64 0)) = W9 at *
          exact bodyPost_ret (v := .tuple #[.agg #[.slice none 0 0, .slice none 0 0, .slice none 0 0, .int .i64 0, .int .i64 0, .int .i64 0], .bool false]) (by simp [results, Try.results34, go_sem, K6]) rfl (pkR_no E3)
      · have e5 : ¬ dl - ml = 0 := by omega
        have e6 : ¬ (dl : Int) - ml = 0 := by omega
        go_wp2_with (at_builtin; refine wpList_append_any rfl _ _ 22 rfl w3.heap.size 2 i0_ (.int .i64 0) 1 8 Try.underlying22 hi hz0 hz1 hz2 rfl (by omega) A6 (q + mr2) c6 ((l.take q ++ r2.map (sh 24)).map (Value.int .i64)) rfl OM.out _ 0 _ [] rfl ⟨rfl, by simp, Or.inl rfl⟩ (by unfold maxLen; omega) (by omega) (by omega) ?_; intro A8 c8 w8 ho8 hg8 hnil8; have hgb := grown_below hg8 OM.out (by omega); clear hnil8)
        have hB38 := Lib.hid (hB37.out.trans hgb)
        have OA := Lib.hid (show OI w8 w6.heap.size A7 (fullL (Un.ap σ l)).length c7 (fullL (Un.ap σ l)) from World.ownsRow.kept oa.out hg8 (by
          rw [blk_own, blk_own]
          cases hA : blk A7 with
          | none => exact .inl rfl
          | some b => exact .inr fun e => by have h1 := hA6.out b e.symm; have h2 := (oa.out.lt_ hA).1; omega))
        have OM8 := Lib.hid (show OI w8 w3.heap.size A8 (q + mr2) c8 mid by rw [HMID.out]; unfold OI; rw [List.map_append]; exact ho8)
        have hml8 := Lib.hid OM8.out.ri.1
        have hinm := Lib.hid (show Un.In 48 mid by rw [HMID.out]; first | exact in_app (in_app (in_take hinl.out) hiny.out) (in_drop hinl.out) | exact in_app (in_app (in_take hinl.out) hiny.out) (fun v hv => by cases hv))
        replace HC := Lib.hid (HC3.out.on hB38.out)
        have s8 := hgb.size
        clear hgb hg8 ho8 oa b0 b1 r0 r1 u1
        have b0 : w8.cell? ⟨w.heap.size, 0, none⟩ = some (.slice A n c) := by simpa using HC.out.2.2.2.1.cell 0
        have b1 : w8.cell? ⟨w.heap.size, 1, none⟩ = some (.slice (some ⟨g, off, none⟩) m d) := by simpa using HC.out.2.2.2.1.cell 1
        have r0 : w8.cell? ⟨w1.heap.size, 0, none⟩ = some (.slice (some ⟨gl, ol, none⟩) ml dl) := by simpa using HC.out.2.2.2.2.2.cell 0
        have r1 : w8.cell? ⟨w1.heap.size, 1, none⟩ = some (.slice (some ⟨gr, or_, none⟩) mr dr) := by simpa using HC.out.2.2.2.2.2.cell 1
        have u1 := keepC HC.out.1 hcr2
        refine (full0 _ p G B' σ rk HG.out mid _ _ c8 w8 hinm.out OM8.out.ri (fun _ => own_off OM8.out (by omega)) (by omega) HC.out.2.2.1 HC.out.2.1).mono ?_
        rintro e w9 ⟨A9, c9, rfl, ob, hb9⟩
        replace HC := Lib.hid (HC.out.on hb9)
        have s9 := hb9.size
        replace OA := Lib.hid (OA.out.below hb9)
        have OB := Lib.hid ob
        clear hb9 ob b0 b1 r0 r1 u1
        have b0 : w9.cell? ⟨w.heap.size, 0, none⟩ = some (.slice A n c) := by simpa using HC.out.2.2.2.1.cell 0
        have b1 : w9.cell? ⟨w.heap.size, 1, none⟩ = some (.slice (some ⟨g, off, none⟩) m d) := by simpa using HC.out.2.2.2.1.cell 1
        have r0 : w9.cell? ⟨w1.heap.size, 0, none⟩ = some (.slice (some ⟨gl, ol, none⟩) ml dl) := by simpa using HC.out.2.2.2.2.2.cell 0
        have r1 : w9.cell? ⟨w1.heap.size, 1, none⟩ = some (.slice (some ⟨gr, or_, none⟩) mr dr) := by simpa using HC.out.2.2.2.2.2.cell 1
        have u1 := keepC HC.out.1 hcr2
        go_wp2_with fail
        refine (full0 _ p G B' σ rk HG.out r _ mr dr w9 hinr.out (hR.below HC.out.1) (fun _ => hRU.out) (by omega) HC.out.2.2.1 HC.out.2.1).mono ?_
        rintro e w10 ⟨A10, c10, rfl, oc, hb10⟩
        replace HC := Lib.hid (HC.out.on hb10)
        have s10 := hb10.size
        replace OA := Lib.hid (OA.out.below hb10)
        replace OB := Lib.hid (OB.out.below hb10)
        have OC := Lib.hid oc
        clear hb10 oc b0 b1 r0 r1 u1
        have b0 : w10.cell? ⟨w.heap.size, 0, none⟩ = some (.slice A n c) := by simpa using HC.out.2.2.2.1.cell 0
        have b1 : w10.cell? ⟨w.heap.size, 1, none⟩ = some (.slice (some ⟨g, off, none⟩) m d) := by simpa using HC.out.2.2.2.1.cell 1
        have r0 : w10.cell? ⟨w1.heap.size, 0, none⟩ = some (.slice (some ⟨gl, ol, none⟩) ml dl) := by simpa using HC.out.2.2.2.2.2.cell 0
        have r1 : w10.cell? ⟨w1.heap.size, 1, none⟩ = some (.slice (some ⟨gr, or_, none⟩) mr dr) := by simpa using HC.out.2.2.2.2.2.cell 1
        have u1 := keepC HC.out.1 hcr2
        have hfa : (fullL (Un.ap σ l)).length ≤ 60 := by unfold fullL; split; assumption; simp
        go_wp2_with fail
        refine (l2Order_any A7 _ c7 (fullL (Un.ap σ l)) w10 OA.out.ri (by omega)).mono ?_
        rintro e w11 ⟨A11, c11, rfl, od, hb11⟩
        replace HC := Lib.hid (HC.out.on hb11)
        have s11 := hb11.size
        replace OA := Lib.hid (OA.out.below hb11)
        replace OB := Lib.hid (OB.out.below hb11)
        replace OC := Lib.hid (OC.out.below hb11)
        have OD := Lib.hid od
        clear hb11 od b0 b1 r0 r1 u1
        have b0 : w11.cell? ⟨w.heap.size, 0, none⟩ = some (.slice A n c) := by simpa using HC.out.2.2.2.1.cell 0
        have b1 : w11.cell? ⟨w.heap.size, 1, none⟩ = some (.slice (some ⟨g, off, none⟩) m d) := by simpa using HC.out.2.2.2.1.cell 1
        have r0 : w11.cell? ⟨w1.heap.size, 0, none⟩ = some (.slice (some ⟨gl, ol, none⟩) ml dl) := by simpa using HC.out.2.2.2.2.2.cell 0
        have r1 : w11.cell? ⟨w1.heap.size, 1, none⟩ = some (.slice (some ⟨gr, or_, none⟩) mr dr) := by simpa using HC.out.2.2.2.2.2.cell 1
        have u1 := keepC HC.out.1 hcr2
        have pa := hTa.out.pos
        have pm := Nat.le_trans (show 1 ≤ mid.length by have := hml8.out; omega) (Un.ap_pos hsu.out mid)
        have pr := Nat.le_trans (show 1 ≤ r.length by have := hR.1; omega) (Un.ap_pos hsu.out r)
        generalize Un.ap σ l = a at *
        generalize Un.ap σ mid = M at *
        generalize Un.ap σ r = cc at *
        by_cases ha60 : a.length ≤ 60
        · rw [fullL_yes ha60] at OA OD ⊢
          have za : ¬ a.length = 0 := by omega
          by_cases hm60 : M.length ≤ 60
          · rw [fullL_yes hm60] at OB ⊢
            have zm : ¬ M.length = 0 := by omega
            by_cases hc60 : cc.length ≤ 60
            · rw [fullL_yes hc60] at OC ⊢
              have zc : ¬ cc.length = 0 := by omega
              by_cases h24 : 24 < (ord [] a).length
              · have h24' : (24 : Int) < ((ord [] a).length : Int) := by omega
                obtain rfl : pkNo = V := by rw [← HE.out, pkL_no (pkOk_no (.inr (.inr (.inr h24))))]
                have bkP := HC.out.2.2.2.2.1
                have hB := HC.out.1
                clear HC HE b0 b1 r0 r1 u1
                have K0 : w11.cell? ⟨w.heap.size + 1, 0, none⟩ = some (.slice none 0 0) := by simpa using bkP.cell 0
                have K1 : w11.cell? ⟨w.heap.size + 1, 1, none⟩ = some (.slice none 0 0) := by simpa using bkP.cell 1
                have K2 : w11.cell? ⟨w.heap.size + 1, 2, none⟩ = some (.slice none 0 0) := by simpa using bkP.cell 2
                have K3 : w11.cell? ⟨w.heap.size + 1, 3, none⟩ = some (.int .i64 0) := by simpa using bkP.cell 3
                have K4 : w11.cell? ⟨w.heap.size + 1, 4, none⟩ = some (.int .i64 0) := by simpa using bkP.cell 4
                have K5 : w11.cell? ⟨w.heap.size + 1, 5, none⟩ = some (.int .i64 0) := by simpa using bkP.cell 5
                have F0 : w11.frozen? ⟨w.heap.size + 1, 0, none⟩ = false := bkP.frozen 0
                have F1 : w11.frozen? ⟨w.heap.size + 1, 1, none⟩ = false := bkP.frozen 1
                have F2 : w11.frozen? ⟨w.heap.size + 1, 2, none⟩ = false := bkP.frozen 2
                have F3 : w11.frozen? ⟨w.heap.size + 1, 3, none⟩ = false := bkP.frozen 3
                have F4 : w11.frozen? ⟨w.heap.size + 1, 4, none⟩ = false := bkP.frozen 4
                have F5 : w11.frozen? ⟨w.heap.size + 1, 5, none⟩ = false := bkP.frozen 5
                have hlt := bkP.lt
                have HK := Lib.hid (blk6 (a' := .slice none 0 0) (b' := .slice none 0 0) (c' := .slice none 0 0) (d' := .int .i64 0) (e' := .int .i64 0) (f' := .int .i64 0) bkP)
                have E3 := below6 (P := w.heap.size + 1) (a := .slice none 0 0) (b := .slice none 0 0) (c := .slice none 0 0) (d := .int .i64 0) (e := .int .i64 0) (f := .int .i64 0) hB (by omega)
                clear bkP hB
                go_wp2_with fail
                have K6 : ∀ i, ((World.setCell (World.setCell (World.setCell (World.setCell (World.setCell (World.setCell w11 ⟨(w.heap.size + 1), 0, none⟩ (.slice none 0 0)) ⟨(w.heap.size + 1), 1, none⟩ (.slice none 0 0)) ⟨(w.heap.size + 1), 2, none⟩ (.slice none 0 0)) ⟨(w.heap.size + 1), 3, none⟩ (.int .i64 0)) ⟨(w.heap.size + 1), 4, none⟩ (.int .i64 0)) ⟨(w.heap.size + 1), 5, none⟩ (.int .i64 0))).cell? ⟨w.heap.size + 1, i, none⟩ = #[.slice none 0 0, .slice none 0 0, .slice none 0 0, .int .i64 0, .int .i64 0, .int .i64 0][i]? := fun i => HK.out.cell i
                generalize (World.setCell (World.setCell (World.setCell (World.setCell (World.setCell (World.setCell w11 ⟨(w.heap.size + 1), 0, none⟩ (.slice none 0 0)) ⟨(w.heap.size + 1), 1, none⟩ (.slice none 0 0)) ⟨(w.heap.size + 1), 2, none⟩ (.slice none 0 0)) ⟨(w.heap.size + 1), 3, none⟩ (.int .i64 0)) ⟨(w.heap.size + 1), 4, none⟩ (.int .i64 0)) ⟨(w.heap.size + 1), 5, none⟩ (.int .i64 0)) = W9 at *
                exact bodyPost_ret (v := .tuple #[.agg #[.slice none 0 0, .slice none 0 0, .slice none 0 0, .int .i64 0, .int .i64 0, .int .i64 0], .bool false]) (by simp [results, Try.results34, go_sem, K6]) rfl (pkR_no E3)
              · have h24' : ¬ (24 : Int) < ((ord [] a).length : Int) := by omega
                obtain rfl : ((rnR a a, rnR a M, rnR a cc), true) = V := by rw [← HE.out, pkL_yes (pkOk_yes ha60 hm60 hc60 (by omega))]
                have hnd := Lib.hid (ord_nodup (t := a) (s := []) List.nodup_nil)
                have hmq := Lib.hid (fun x hx h0 => vars_in a x (hm.out x hx h0) h0)
                have hrq := Lib.hid (fun x hx h0 => vars_in a x (hr.out x hx h0) h0)
                have h24d : decide ((24 : Int) < ((ord [] a).length : Int)) = false := decide_eq_false h24'
                have h24n : ((ord [] a).length : Int) ≤ 24 := by omega
                have na : ¬ a = [] := fun e => za (by rw [e]; rfl)
                have nm : ¬ M = [] := fun e => zm (by rw [e]; rfl)
                have nc : ¬ cc = [] := fun e => zc (by rw [e]; rfl)
                have na' : ((a.length : Int) == 0) = false := beq_eq_false_iff_ne.2 (by omega)
                have nm' : ((M.length : Int) == 0) = false := beq_eq_false_iff_ne.2 (by omega)
                have nc' : ((cc.length : Int) == 0) = false := beq_eq_false_iff_ne.2 (by omega)
                clear hm hr HE
                go_wp2_with fail
                refine (l2By_any A11 _ c11 (ord [] a) A7 _ c7 a w11 OD.out.ri OA.out.ri (by omega) (by omega) hnd.out (vars_in a)).mono ?_
                rintro e w12 ⟨A12, c12, rfl, o1, hb12⟩
                have O1 := Lib.hid (show OI w12 w11.heap.size A12 a.length c12 (rnR a a) from o1)
                have L1 := Lib.hid (fun b (e : blk A12 = some b) => (O1.out.lt_ e).2)
                replace HC := Lib.hid (HC.out.on hb12)
                have s12 := hb12.size
                replace OB := Lib.hid (OB.out.below hb12)
                replace OC := Lib.hid (OC.out.below hb12)
                replace OD := Lib.hid (OD.out.below hb12)
                clear hb12 o1 b0 b1 r0 r1 u1
                go_wp2_with fail
                refine (l2By_any A11 _ c11 (ord [] a) A9 _ c9 M w12 OD.out.ri OB.out.ri (by omega) (by omega) hnd.out hmq.out).mono ?_
                rintro e w13 ⟨A13, c13, rfl, o2, hb13⟩
                have O2 := Lib.hid (show OI w13 w12.heap.size A13 M.length c13 (rnR a M) from o2)
                have L2_ := Lib.hid (fun b (e : blk A13 = some b) => (O2.out.lt_ e))
                replace HC := Lib.hid (HC.out.on hb13)
                have s13 := hb13.size
                replace O1 := Lib.hid (O1.out.below hb13)
                replace OC := Lib.hid (OC.out.below hb13)
                replace OD := Lib.hid (OD.out.below hb13)
                clear hb13 o2
                go_wp2_with fail
                refine (l2By_any A11 _ c11 (ord [] a) A10 _ c10 cc w13 OD.out.ri OC.out.ri (by omega) (by omega) hnd.out hrq.out).mono ?_
                rintro e w14 ⟨A14, c14, rfl, o3, hb14⟩
                have O3 := Lib.hid (show OI w14 w13.heap.size A14 cc.length c14 (rnR a cc) from o3)
                have N1 := Lib.hid (show ∀ b, blk A12 = some b → blk A13 ≠ some b from fun b e1 e2 => by have h1 := L1.out b e1; have h2 := (L2_.out b e2).1; omega)
                have N2 := Lib.hid (show ∀ b, blk A12 = some b → blk A14 ≠ some b from fun b e1 e2 => by have h1 := L1.out b e1; have h2 := (O3.out.lt_ e2).1; omega)
                have N3 := Lib.hid (show ∀ b, blk A13 = some b → blk A14 ≠ some b from fun b e1 e2 => by have h1 := (L2_.out b e1).2; have h2 := (O3.out.lt_ e2).1; omega)
                replace HC := Lib.hid (HC.out.on hb14)
                have s14 := hb14.size
                replace O1 := Lib.hid (O1.out.below hb14)
                replace O2 := Lib.hid (O2.out.below hb14)
                have bkP := HC.out.2.2.2.2.1
                have hB := HC.out.1
                clear hb14 o3 HC OA OB OC OD
                have K0 : w14.cell? ⟨w.heap.size + 1, 0, none⟩ = some (.slice none 0 0) := by simpa using bkP.cell 0
                have K1 : w14.cell? ⟨w.heap.size + 1, 1, none⟩ = some (.slice none 0 0) := by simpa using bkP.cell 1
                have K2 : w14.cell? ⟨w.heap.size + 1, 2, none⟩ = some (.slice none 0 0) := by simpa using bkP.cell 2
                have K3 : w14.cell? ⟨w.heap.size + 1, 3, none⟩ = some (.int .i64 0) := by simpa using bkP.cell 3
                have K4 : w14.cell? ⟨w.heap.size + 1, 4, none⟩ = some (.int .i64 0) := by simpa using bkP.cell 4
                have K5 : w14.cell? ⟨w.heap.size + 1, 5, none⟩ = some (.int .i64 0) := by simpa using bkP.cell 5
                have F0 : w14.frozen? ⟨w.heap.size + 1, 0, none⟩ = false := bkP.frozen 0
                have F1 : w14.frozen? ⟨w.heap.size + 1, 1, none⟩ = false := bkP.frozen 1
                have F2 : w14.frozen? ⟨w.heap.size + 1, 2, none⟩ = false := bkP.frozen 2
                have F3 : w14.frozen? ⟨w.heap.size + 1, 3, none⟩ = false := bkP.frozen 3
                have F4 : w14.frozen? ⟨w.heap.size + 1, 4, none⟩ = false := bkP.frozen 4
                have F5 : w14.frozen? ⟨w.heap.size + 1, 5, none⟩ = false := bkP.frozen 5
                have hlt := bkP.lt
                have hPw : w.heap.size + 1 < w11.heap.size := by omega
                have HK := Lib.hid (blk6 (a' := .slice A12 a.length c12) (b' := .slice A13 M.length c13) (c' := .slice A14 cc.length c14) (d' := .int .i64 q) (e' := .int .i64 under) (f' := .int .i64 over) bkP)
                have E3 := Lib.hid (below6 (P := w.heap.size + 1) (a := .slice A12 a.length c12) (b := .slice A13 M.length c13) (c := .slice A14 cc.length c14) (d := .int .i64 q) (e := .int .i64 under) (f := .int .i64 over) hB (by omega))
                clear bkP hB
                go_wp2_with fail
                have Q1 := Lib.hid (oi6 (P := w.heap.size + 1) (a := .slice A12 a.length c12) (b := .slice A13 M.length c13) (c := .slice A14 cc.length c14) (d := .int .i64 q) (e := .int .i64 under) (f := .int .i64 over) O1.out hPw)
                have Q2 := Lib.hid (oi6 (P := w.heap.size + 1) (a := .slice A12 a.length c12) (b := .slice A13 M.length c13) (c := .slice A14 cc.length c14) (d := .int .i64 q) (e := .int .i64 under) (f := .int .i64 over) O2.out (by omega))
                have Q3 := Lib.hid (oi6 (P := w.heap.size + 1) (a := .slice A12 a.length c12) (b := .slice A13 M.length c13) (c := .slice A14 cc.length c14) (d := .int .i64 q) (e := .int .i64 under) (f := .int .i64 over) O3.out (by omega))
                have K6 : ∀ i, ((World.setCell (World.setCell (World.setCell (World.setCell (World.setCell (World.setCell w14 ⟨(w.heap.size + 1), 0, none⟩ (.slice A12 a.length c12)) ⟨(w.heap.size + 1), 1, none⟩ (.slice A13 M.length c13)) ⟨(w.heap.size + 1), 2, none⟩ (.slice A14 cc.length c14)) ⟨(w.heap.size + 1), 3, none⟩ (.int .i64 q)) ⟨(w.heap.size + 1), 4, none⟩ (.int .i64 under)) ⟨(w.heap.size + 1), 5, none⟩ (.int .i64 over))).cell? ⟨w.heap.size + 1, i, none⟩ = #[.slice A12 a.length c12, .slice A13 M.length c13, .slice A14 cc.length c14, .int .i64 q, .int .i64 under, .int .i64 over][i]? := fun i => HK.out.cell i
                clear HK O1 O2 O3
                generalize (World.setCell (World.setCell (World.setCell (World.setCell (World.setCell (World.setCell w14 ⟨(w.heap.size + 1), 0, none⟩ (.slice A12 a.length c12)) ⟨(w.heap.size + 1), 1, none⟩ (.slice A13 M.length c13)) ⟨(w.heap.size + 1), 2, none⟩ (.slice A14 cc.length c14)) ⟨(w.heap.size + 1), 3, none⟩ (.int .i64 q)) ⟨(w.heap.size + 1), 4, none⟩ (.int .i64 under)) ⟨(w.heap.size + 1), 5, none⟩ (.int .i64 over)) = W9 at *
                exact bodyPost_ret (v := .tuple #[.agg #[.slice A12 a.length c12, .slice A13 M.length c13, .slice A14 cc.length c14, .int .i64 q, .int .i64 under, .int .i64 over], .bool true]) (by simp [results, Try.results34, go_sem, K6]) rfl (pkR_yes (rnR_len _ _).symm (rnR_len _ _).symm (rnR_len _ _).symm (Q1.out.base (by omega)) (Q2.out.base (by omega)) (Q3.out.base (by omega)) N1.out N2.out N3.out E3.out)
            · rw [fullL_no hc60] at OC ⊢
              obtain rfl : pkNo = V := by rw [← HE.out, pkL_no (pkOk_no (.inr (.inr (.inl (by omega)))))]
              have bkP := HC.out.2.2.2.2.1
              have hB := HC.out.1
              clear HC HE b0 b1 r0 r1 u1
              have K0 : w11.cell? ⟨w.heap.size + 1, 0, none⟩ = some (.slice none 0 0) := by simpa using bkP.cell 0
              have K1 : w11.cell? ⟨w.heap.size + 1, 1, none⟩ = some (.slice none 0 0) := by simpa using bkP.cell 1
              have K2 : w11.cell? ⟨w.heap.size + 1, 2, none⟩ = some (.slice none 0 0) := by simpa using bkP.cell 2
              have K3 : w11.cell? ⟨w.heap.size + 1, 3, none⟩ = some (.int .i64 0) := by simpa using bkP.cell 3
              have K4 : w11.cell? ⟨w.heap.size + 1, 4, none⟩ = some (.int .i64 0) := by simpa using bkP.cell 4
              have K5 : w11.cell? ⟨w.heap.size + 1, 5, none⟩ = some (.int .i64 0) := by simpa using bkP.cell 5
              have F0 : w11.frozen? ⟨w.heap.size + 1, 0, none⟩ = false := bkP.frozen 0
              have F1 : w11.frozen? ⟨w.heap.size + 1, 1, none⟩ = false := bkP.frozen 1
              have F2 : w11.frozen? ⟨w.heap.size + 1, 2, none⟩ = false := bkP.frozen 2
              have F3 : w11.frozen? ⟨w.heap.size + 1, 3, none⟩ = false := bkP.frozen 3
              have F4 : w11.frozen? ⟨w.heap.size + 1, 4, none⟩ = false := bkP.frozen 4
              have F5 : w11.frozen? ⟨w.heap.size + 1, 5, none⟩ = false := bkP.frozen 5
              have hlt := bkP.lt
              have HK := Lib.hid (blk6 (a' := .slice none 0 0) (b' := .slice none 0 0) (c' := .slice none 0 0) (d' := .int .i64 0) (e' := .int .i64 0) (f' := .int .i64 0) bkP)
              have E3 := below6 (P := w.heap.size + 1) (a := .slice none 0 0) (b := .slice none 0 0) (c := .slice none 0 0) (d := .int .i64 0) (e := .int .i64 0) (f := .int .i64 0) hB (by omega)
              clear bkP hB
              go_wp2_with fail
              have K6 : ∀ i, ((World.setCell (World.setCell (World.setCell (World.setCell (World.setCell (World.setCell w11 ⟨(w.heap.size + 1), 0, none⟩ (.slice none 0 0)) ⟨(w.heap.size + 1), 1, none⟩ (.slice none 0 0)) ⟨(w.heap.size + 1), 2, none⟩ (.slice none 0 0)) ⟨(w.heap.size + 1), 3, none⟩ (.int .i64 0)) ⟨(w.heap.size + 1), 4, none⟩ (.int .i64 0)) ⟨(w.heap.size + 1), 5, none⟩ (.int .i64 0))).cell? ⟨w.heap.size + 1, i, none⟩ = #[.slice none 0 0, .slice none 0 0, .slice none 0 0, .int .i64 0, .int .i64 0, .int .i64 0][i]? := fun i => HK.out.cell i
              generalize (World.setCell (World.setCell (World.setCell (World.setCell (World.setCell (World.setCell w11 ⟨(w.heap.size + 1), 0, none⟩ (.slice none 0 0)) ⟨(w.heap.size + 1), 1, none⟩ (.slice none 0 0)) ⟨(w.heap.size + 1), 2, none⟩ (.slice none 0 0)) ⟨(w.heap.size + 1), 3, none⟩ (.int .i64 0)) ⟨(w.heap.size + 1), 4, none⟩ (.int .i64 0)) ⟨(w.heap.size + 1), 5, none⟩ (.int .i64 0)) = W9 at *
              exact bodyPost_ret (v := .tuple #[.agg #[.slice none 0 0, .slice none 0 0, .slice none 0 0, .int .i64 0, .int .i64 0, .int .i64 0], .bool false]) (by simp [results, Try.results34, go_sem, K6]) rfl (pkR_no E3)
          · rw [fullL_no hm60] at OB ⊢
            obtain rfl : pkNo = V := by rw [← HE.out, pkL_no (pkOk_no (.inr (.inl (by omega))))]
            have bkP := HC.out.2.2.2.2.1
            have hB := HC.out.1
            clear HC HE b0 b1 r0 r1 u1
            have K0 : w11.cell? ⟨w.heap.size + 1, 0, none⟩ = some (.slice none 0 0) := by simpa using bkP.cell 0
            have K1 : w11.cell? ⟨w.heap.size + 1, 1, none⟩ = some (.slice none 0 0) := by simpa using bkP.cell 1
            have K2 : w11.cell? ⟨w.heap.size + 1, 2, none⟩ = some (.slice none 0 0) := by simpa using bkP.cell 2
            have K3 : w11.cell? ⟨w.heap.size + 1, 3, none⟩ = some (.int .i64 0) := by simpa using bkP.cell 3
            have K4 : w11.cell? ⟨w.heap.size + 1, 4, none⟩ = some (.int .i64 0) := by simpa using bkP.cell 4
            have K5 : w11.cell? ⟨w.heap.size + 1, 5, none⟩ = some (.int .i64 0) := by simpa using bkP.cell 5
            have F0 : w11.frozen? ⟨w.heap.size + 1, 0, none⟩ = false := bkP.frozen 0
            have F1 : w11.frozen? ⟨w.heap.size + 1, 1, none⟩ = false := bkP.frozen 1
            have F2 : w11.frozen? ⟨w.heap.size + 1, 2, none⟩ = false := bkP.frozen 2
            have F3 : w11.frozen? ⟨w.heap.size + 1, 3, none⟩ = false := bkP.frozen 3
            have F4 : w11.frozen? ⟨w.heap.size + 1, 4, none⟩ = false := bkP.frozen 4
            have F5 : w11.frozen? ⟨w.heap.size + 1, 5, none⟩ = false := bkP.frozen 5
            have hlt := bkP.lt
            have HK := Lib.hid (blk6 (a' := .slice none 0 0) (b' := .slice none 0 0) (c' := .slice none 0 0) (d' := .int .i64 0) (e' := .int .i64 0) (f' := .int .i64 0) bkP)
            have E3 := below6 (P := w.heap.size + 1) (a := .slice none 0 0) (b := .slice none 0 0) (c := .slice none 0 0) (d := .int .i64 0) (e := .int .i64 0) (f := .int .i64 0) hB (by omega)
            clear bkP hB
            go_wp2_with fail
            have K6 : ∀ i, ((World.setCell (World.setCell (World.setCell (World.setCell (World.setCell (World.setCell w11 ⟨(w.heap.size + 1), 0, none⟩ (.slice none 0 0)) ⟨(w.heap.size + 1), 1, none⟩ (.slice none 0 0)) ⟨(w.heap.size + 1), 2, none⟩ (.slice none 0 0)) ⟨(w.heap.size + 1), 3, none⟩ (.int .i64 0)) ⟨(w.heap.size + 1), 4, none⟩ (.int .i64 0)) ⟨(w.heap.size + 1), 5, none⟩ (.int .i64 0))).cell? ⟨w.heap.size + 1, i, none⟩ = #[.slice none 0 0, .slice none 0 0, .slice none 0 0, .int .i64 0, .int .i64 0, .int .i64 0][i]? := fun i => HK.out.cell i
            generalize (World.setCell (World.setCell (World.setCell (World.setCell (World.setCell (World.setCell w11 ⟨(w.heap.size + 1), 0, none⟩ (.slice none 0 0)) ⟨(w.heap.size + 1), 1, none⟩ (.slice none 0 0)) ⟨(w.heap.size + 1), 2, none⟩ (.slice none 0 0)) ⟨(w.heap.size + 1), 3, none⟩ (.int .i64 0)) ⟨(w.heap.size + 1), 4, none⟩ (.int .i64 0)) ⟨(w.heap.size + 1), 5, none⟩ (.int .i64 0)) = W9 at *
            exact bodyPost_ret (v := .tuple #[.agg #[.slice none 0 0, .slice none 0 0, .slice none 0 0, .int .i64 0, .int .i64 0, .int .i64 0], .bool false]) (by simp [results, Try.results34, go_sem, K6]) rfl (pkR_no E3)
        · rw [fullL_no ha60] at OA OD ⊢
          obtain rfl : pkNo = V := by rw [← HE.out, pkL_no (pkOk_no (.inl (by omega)))]
          have bkP := HC.out.2.2.2.2.1
          have hB := HC.out.1
          clear HC HE b0 b1 r0 r1 u1
          have K0 : w11.cell? ⟨w.heap.size + 1, 0, none⟩ = some (.slice none 0 0) := by simpa using bkP.cell 0
          have K1 : w11.cell? ⟨w.heap.size + 1, 1, none⟩ = some (.slice none 0 0) := by simpa using bkP.cell 1
          have K2 : w11.cell? ⟨w.heap.size + 1, 2, none⟩ = some (.slice none 0 0) := by simpa using bkP.cell 2
          have K3 : w11.cell? ⟨w.heap.size + 1, 3, none⟩ = some (.int .i64 0) := by simpa using bkP.cell 3
          have K4 : w11.cell? ⟨w.heap.size + 1, 4, none⟩ = some (.int .i64 0) := by simpa using bkP.cell 4
          have K5 : w11.cell? ⟨w.heap.size + 1, 5, none⟩ = some (.int .i64 0) := by simpa using bkP.cell 5
          have F0 : w11.frozen? ⟨w.heap.size + 1, 0, none⟩ = false := bkP.frozen 0
          have F1 : w11.frozen? ⟨w.heap.size + 1, 1, none⟩ = false := bkP.frozen 1
          have F2 : w11.frozen? ⟨w.heap.size + 1, 2, none⟩ = false := bkP.frozen 2
          have F3 : w11.frozen? ⟨w.heap.size + 1, 3, none⟩ = false := bkP.frozen 3
          have F4 : w11.frozen? ⟨w.heap.size + 1, 4, none⟩ = false := bkP.frozen 4
          have F5 : w11.frozen? ⟨w.heap.size + 1, 5, none⟩ = false := bkP.frozen 5
          have hlt := bkP.lt
          have HK := Lib.hid (blk6 (a' := .slice none 0 0) (b' := .slice none 0 0) (c' := .slice none 0 0) (d' := .int .i64 0) (e' := .int .i64 0) (f' := .int .i64 0) bkP)
          have E3 := below6 (P := w.heap.size + 1) (a := .slice none 0 0) (b := .slice none 0 0) (c := .slice none 0 0) (d := .int .i64 0) (e := .int .i64 0) (f := .int .i64 0) hB (by omega)
          clear bkP hB
          go_wp2_with fail
          have K6 : ∀ i, ((World.setCell (World.setCell (World.setCell (World.setCell (World.setCell (World.setCell w11 ⟨(w.heap.size + 1), 0, none⟩ (.slice none 0 0)) ⟨(w.heap.size + 1), 1, none⟩ (.slice none 0 0)) ⟨(w.heap.size + 1), 2, none⟩ (.slice none 0 0)) ⟨(w.heap.size + 1), 3, none⟩ (.int .i64 0)) ⟨(w.heap.size + 1), 4, none⟩ (.int .i64 0)) ⟨(w.heap.size + 1), 5, none⟩ (.int .i64 0))).cell? ⟨w.heap.size + 1, i, none⟩ = #[.slice none 0 0, .slice none 0 0, .slice none 0 0, .int .i64 0, .int .i64 0, .int .i64 0][i]? := fun i => HK.out.cell i
          generalize (World.setCell (World.setCell (World.setCell (World.setCell (World.setCell (World.setCell w11 ⟨(w.heap.size + 1), 0, none⟩ (.slice none 0 0)) ⟨(w.heap.size + 1), 1, none⟩ (.slice none 0 0)) ⟨(w.heap.size + 1), 2, none⟩ (.slice none 0 0)) ⟨(w.heap.size + 1), 3, none⟩ (.int .i64 0)) ⟨(w.heap.size + 1), 4, none⟩ (.int .i64 0)) ⟨(w.heap.size + 1), 5, none⟩ (.int .i64 0)) = W9 at *
          exact bodyPost_ret (v := .tuple #[.agg #[.slice none 0 0, .slice none 0 0, .slice none 0 0, .int .i64 0, .int .i64 0, .int .i64 0], .bool false]) (by simp [results, Try.results34, go_sem, K6]) rfl (pkR_no E3)
  · exact absurd HM.out hn
end Go.Proofs.Ytcjgcopkeeiicaa
