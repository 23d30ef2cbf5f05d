/- Contracts: the peak of two rules at a place, the program's way. -/
import Derived.Test.YtcjgcopkeeiicaaPutW
namespace Go.Proofs.Ytcjgcopkeeiicaa
open Go.RowKit
set_option linter.unusedVariables false
set_option linter.unusedSimpArgs false

theorem blk6 {w : World} {P : Nat} {T : TypeId} {a b c d e f a' b' c' d' e' f' : Value} (h : Blk w P T #[a, b, c, d, e, f]) : Blk ((World.setCell (World.setCell (World.setCell (World.setCell (World.setCell (World.setCell w ⟨P, 0, none⟩ a') ⟨P, 1, none⟩ b') ⟨P, 2, none⟩ c') ⟨P, 3, none⟩ d') ⟨P, 4, none⟩ e') ⟨P, 5, none⟩ f')) P T #[a', b', c', d', e', f'] := by
  have := (((((h.set_ 0 a').set_ 1 b').set_ 2 c').set_ 3 d').set_ 4 e').set_ 5 f'
  simpa only [List.setIfInBounds_toArray, List.set_cons_zero, List.set_cons_succ] using this
theorem below6 {w0 w : World} {P lo : Nat} {a b c d e f : Value} (h : Below lo w0 w) (hP : lo ≤ P) : Below lo w0 ((World.setCell (World.setCell (World.setCell (World.setCell (World.setCell (World.setCell w ⟨P, 0, none⟩ a) ⟨P, 1, none⟩ b) ⟨P, 2, none⟩ c) ⟨P, 3, none⟩ d) ⟨P, 4, none⟩ e) ⟨P, 5, none⟩ f)) :=
  (((((h.setCell (p := ⟨P, 0, none⟩) hP _).setCell (p := ⟨P, 1, none⟩) hP _).setCell (p := ⟨P, 2, none⟩) hP _).setCell (p := ⟨P, 3, none⟩) hP _).setCell (p := ⟨P, 4, none⟩) hP _).setCell (p := ⟨P, 5, none⟩) hP _
theorem oi6 {w : World} {P B : Nat} {A : Option Addr} {n c' : Nat} {xs : List Int} {a b c d e f : Value} (h : OI w B A n c' xs) (hP : P < B) : OI ((World.setCell (World.setCell (World.setCell (World.setCell (World.setCell (World.setCell w ⟨P, 0, none⟩ a) ⟨P, 1, none⟩ b) ⟨P, 2, none⟩ c) ⟨P, 3, none⟩ d) ⟨P, 4, none⟩ e) ⟨P, 5, none⟩ f)) B A n c' xs :=
  (((((h.setBelow (p := ⟨P, 0, none⟩) hP _).setBelow (p := ⟨P, 1, none⟩) hP _).setBelow (p := ⟨P, 2, none⟩) hP _).setBelow (p := ⟨P, 3, none⟩) hP _).setBelow (p := ⟨P, 4, none⟩) hP _).setBelow (p := ⟨P, 5, none⟩) hP _
/-- A number of a peak; zero where there is none. -/
def pkI (P : Pk) (v : Int) : Int := if P.2 then v else 0
/-- How a call that gives a peak ends. -/
def PkR (w : World) (P : Pk) (q under over : Int) (e : Ending) (w' : World) : Prop :=
  ∃ A1 c1 A2 c2 A3 c3, e = .returned (.tuple #[.agg #[.slice A1 P.1.1.length c1, .slice A2 P.1.2.1.length c2, .slice A3 P.1.2.2.length c3, .int .i64 (pkI P q), .int .i64 (pkI P under), .int .i64 (pkI P over)], .bool P.2]) ∧
    OI w' w.heap.size A1 P.1.1.length c1 P.1.1 ∧ OI w' w.heap.size A2 P.1.2.1.length c2 P.1.2.1 ∧ OI w' w.heap.size A3 P.1.2.2.length c3 P.1.2.2 ∧
    (∀ b, blk A1 = some b → blk A2 ≠ some b) ∧ (∀ b, blk A1 = some b → blk A3 ≠ some b) ∧ (∀ b, blk A2 = some b → blk A3 ≠ some b) ∧ Below w.heap.size w w'
theorem pkR_no {w w' : World} {q under over : Int} (hb : Below w.heap.size w w') : PkR w pkNo q under over (.returned (.tuple #[.agg #[.slice none 0 0, .slice none 0 0, .slice none 0 0, .int .i64 0, .int .i64 0, .int .i64 0], .bool false])) w' :=
  ⟨none, 0, none, 0, none, 0, rfl, World.ownsRow_nil _ _ _ _, World.ownsRow_nil _ _ _ _, World.ownsRow_nil _ _ _ _, fun b e => by simp [blk] at e, fun b e => by simp [blk] at e, fun b e => by simp [blk] at e, hb⟩
theorem pkR_yes {w w' : World} {a b c : List Int} {q under over : Int} {A1 A2 A3 : Option Addr} {n1 n2 n3 c1 c2 c3 : Nat} (h1 : n1 = (rnR a a).length) (h2 : n2 = (rnR a b).length) (h3 : n3 = (rnR a c).length) (o1 : OI w' w.heap.size A1 n1 c1 (rnR a a)) (o2 : OI w' w.heap.size A2 n2 c2 (rnR a b)) (o3 : OI w' w.heap.size A3 n3 c3 (rnR a c))
    (k1 : ∀ b, blk A1 = some b → blk A2 ≠ some b) (k2 : ∀ b, blk A1 = some b → blk A3 ≠ some b) (k3 : ∀ b, blk A2 = some b → blk A3 ≠ some b) (hb : Below w.heap.size w w') :
    PkR w ((rnR a a, rnR a b, rnR a c), true) q under over (.returned (.tuple #[.agg #[.slice A1 n1 c1, .slice A2 n2 c2, .slice A3 n3 c3, .int .i64 q, .int .i64 under, .int .i64 over], .bool true])) w' := by
  subst h1 h2 h3
  exact ⟨A1, c1, A2, c2, A3, c3, rfl, o1, o2, o3, k1, k2, k3, hb⟩
theorem PkR.base {w0 w w' : World} {P : Pk} {q under over : Int} {e : Ending} (h : PkR w P q under over e w') (hb : Below w0.heap.size w0 w) : PkR w0 P q under over e w' := by
  obtain ⟨A1, c1, A2, c2, A3, c3, he, o1, o2, o3, k1, k2, k3, hb'⟩ := h
  exact ⟨A1, c1, A2, c2, A3, c3, he, o1.base hb.size, o2.base hb.size, o3.base hb.size, k1, k2, k3, below_then hb hb' hb.size⟩
/-- What the walk of a peak keeps. -/
def PkC (T Ts Tp Tr : TypeId) (S : Value) (U rb : Nat) (B : Un.Bd) (cs cp cr : Array Value) (w W : World) : Prop := Below w.heap.size w W ∧ Bnd W W U T [S] B ∧ Blk W w.heap.size Ts cs ∧ Blk W (w.heap.size + 1) Tp cp ∧ Blk W rb Tr cr
theorem PkC.on {T Ts Tp Tr : TypeId} {S : Value} {U rb : Nat} {B : Un.Bd} {cs cp cr : Array Value} {w W W' : World} (h : PkC T Ts Tp Tr S U rb B cs cp cr w W) (hb : Below W.heap.size W W') : PkC T Ts Tp Tr S U rb B cs cp cr w W' :=
  ⟨below_then h.1 hb h.1.size, bnd_on h.2.1 hb, h.2.2.1.below hb, h.2.2.2.1.below hb, h.2.2.2.2.below hb⟩
theorem putL_full (t : List Int) (p F : Nat) (u : List Int) : putL t p F u = fullL (putAt t p F u) := by unfold putL putOk fullL; simp
theorem rows_three {w : World} {B : Nat} {A : Option Addr} {c : Nat} {rs : List (Option Addr × Nat)} {x0 x1 x2 : List Int} (h : w.ownsRow B 22 1 (.slice A 3 c) 3 (List.zipWith rowV rs [x0, x1, x2])) (hr : Rows w B rs [x0, x1, x2]) :
    ∃ g L c1 R c2 Q c3, A = some ⟨g, 0, none⟩ ∧ (w.cell? ⟨g, 0, none⟩ = some (.slice L x0.length c1) ∧ w.cell? ⟨g, 1, none⟩ = some (.slice R x1.length c2) ∧ w.cell? ⟨g, 2, none⟩ = some (.slice Q x2.length c3)) ∧ OI w B L x0.length c1 x0 ∧ OI w B R x1.length c2 x1 ∧ OI w B Q x2.length c3 x2 ∧ (∀ b, blk L = some b → blk R ≠ some b) ∧ (∀ b, blk L = some b → blk Q ≠ some b) ∧ (∀ b, blk R = some b → blk Q ≠ some b) ∧ B ≤ g := by
  match rs, hr.1 with
  | [r0, r1, r2], _ =>
    rcases h.2 with ⟨_, h0⟩ | ⟨g, cap, cur, hv, hB, _⟩
    · omega
    · simp only [Value.slice.injEq] at hv
      obtain ⟨rfl, _, rfl⟩ := hv
      have hc0 := h.cellAt 0 (by omega)
      have hc1 := h.cellAt 1 (by omega)
      have hc2 := h.cellAt 2 (by omega)
      exact ⟨g, r0.1, r0.2, r1.1, r1.2, r2.1, r2.2, rfl, ⟨by simpa [rowV] using hc0, by simpa [rowV] using hc1, by simpa [rowV] using hc2⟩, hr.2.1 0 (by simp), hr.2.1 1 (by simp), hr.2.1 2 (by simp), hr.2.2 0 1 (by omega) (by simp), hr.2.2 0 2 (by omega) (by simp), hr.2.2 1 2 (by omega) (by simp), hB⟩
theorem keepH {X w1 w2 : World} {p q r : Addr} {x y z : Value} (hb : Below w1.heap.size w1 w2) (h : Below X.heap.size X w1 ∧ w1.cell? p = some x ∧ w1.cell? q = some y ∧ w1.cell? r = some z) : Below X.heap.size X w2 ∧ w2.cell? p = some x ∧ w2.cell? q = some y ∧ w2.cell? r = some z :=
  ⟨below_then h.1 hb h.1.size, keepC hb h.2.1, keepC hb h.2.2.1, keepC hb h.2.2.2⟩
theorem RR.three3 {w : World} {A B C : Option Addr} {n c m d o f : Nat} {x y z : List Int} {T : TypeId} (h : RI w A n x) (hn : n ≤ 9223372036854775807) (h' : RI w B m y) (hm : m ≤ 9223372036854775807) (h'' : RI w C o z) (ho : o ≤ 9223372036854775807) :
    RR (w.alloc (.cells #[.slice A n c, .slice B m d, .slice C o f] T)) (some ⟨w.heap.size, 0, none⟩) 3 [x, y, z] := by
  refine ⟨rfl, fun _ => ⟨w.heap.size, 0, rfl, fun k hk => ?_⟩⟩
  have hn_ := (Blk.new w T #[.slice A n c, .slice B m d, .slice C o f])
  match k, hk with
  | 0, _ => exact ⟨A, n, c, by rw [Nat.zero_add, hn_.cell]; rfl, h.alloc _, hn⟩
  | 1, _ => exact ⟨B, m, d, by rw [Nat.zero_add, hn_.cell]; rfl, h'.alloc _, hm⟩
  | 2, _ => exact ⟨C, o, f, by rw [Nat.zero_add, hn_.cell]; rfl, h''.alloc _, ho⟩
theorem oi_drew {w : World} {B : Nat} {A : Option Addr} {n c : Nat} {xs : List Int} (h : OI w B A n c xs) : OI w.drew B A n c xs := h
theorem own_off {w : World} {B U : Nat} {A : Option Addr} {n c : Nat} {t : List Int} (h : OI w B A n c t) (hU : U < B) : ∀ a, A = some a → a.block ≠ U := by
  intro a ha
  subst ha
  obtain ⟨A', c', e, _, _⟩ := own_form h
  simp only [Value.slice.injEq] at e
  have := (h.lt_ (b := a.block) (by simp [blk])).1
  omega
theorem overlap_pk (A : Option Addr) (n c : Nat) (xs : List Int) (B : Option Addr) (m d : Nat) (x : List (List Int × List Int)) (over q under : Nat) (l r l2 r2 : List Int) (w : World)
    (h : RI w A n xs) (h' : RU w B m x) (hs : Pl.sigOk xs = true) (hov : over < m) (hun : under < m) (hl : (l, r) = x.getD over ([], [])) (hl2 : (l2, r2) = x.getD under ([], [])) (T1 : Pl.termOk xs l = true) (T2 : Pl.termOk xs l2 = true) (hq : q < l.length) (h0 : 0 ≤ l.getD q 0) :
    Calls Try.prog 46 #[.agg #[.slice A n c, .slice B m d], .int .i64 over, .int .i64 q, .int .i64 under] w fun e w' => Below w.heap.size w w' ∧
      ((ovB xs l l2 (decide (over = under)) q = false ∧ ∃ v, e = .returned (.tuple #[v, .bool false])) ∨
       (ovB xs l l2 (decide (over = under)) q = true ∧ ∃ U B', w.heap.size ≤ U ∧ U < w'.heap.size ∧ e = .returned (.tuple #[.pointer (some ⟨U, 0, none⟩), .bool true]) ∧ Bnd w' w' U 95 [.slice A n c] B' ∧ Un.Done (Pl.nxt xs) B' (Pl.sub (Pl.nxt xs) l q) (l2.map (sh 24)))) := by
  by_cases hne : over = under ∧ q = 0
  · obtain ⟨rfl, rfl⟩ := hne
    refine (overlap_self _ _ over w).mono ?_
    rintro e w' ⟨rfl, hb⟩
    exact ⟨hb, .inl ⟨by rw [decide_eq_true rfl, ovB_self], _, rfl⟩⟩
  · refine (overlap_any A n c xs B m d x over q under l r l2 r2 w h h' hs hov hun hl hl2 T1 T2 hq hne).mono ?_
    rintro e w' ⟨hb, U, hU1, hU2, ⟨w0, B', rfl, _, _, ho, hB, hd⟩ | ⟨rfl, hn⟩⟩
    · rw [ovB_mt (by omega) (by rw [Bool.and_eq_false_iff]; simp only [decide_eq_false_iff_not]; omega)]
      exact ⟨hb, .inr ⟨mtB_yes hd.meets, U, B', hU1, hU2, rfl, bnd_re hB ho, hd⟩⟩
    · rw [ovB_mt (by omega) (by rw [Bool.and_eq_false_iff]; simp only [decide_eq_false_iff_not]; omega)]
      exact ⟨hb, .inl ⟨mtB_no hn, _, rfl⟩⟩
set_option maxHeartbeats 8000000 in
set_option maxRecDepth 20000 in
theorem peakAt_any (A : Option Addr) (n c : Nat) (xs : List Int) (B : Option Addr) (m d : Nat) (x : List (List Int × List Int)) (over q under : Nat) (l r l2 r2 : List Int) (w : World)
    (h : RI w A n xs) (h' : RU w B m x) (hs : Pl.sigOk xs = true) (hov : over < m) (hun : under < m) (hl : (l, r) = x.getD over ([], [])) (hl2 : (l2, r2) = x.getD under ([], [])) (R1 : ruleOk xs l r = true) (R2 : ruleOk xs l2 r2 = true) (hq : q < l.length) (h0 : 0 ≤ l.getD q 0) :
    Calls Try.prog 35 #[.agg #[.slice A n c, .slice B m d], .int .i64 over, .int .i64 q, .int .i64 under] w (PkR w (if ovB xs l l2 (decide (over = under)) q then pkAt (Pl.nxt xs) l r l2 r2 q else pkNo) q under over) := by
  have T1 := rule_term R1
  have T2 := rule_term R2
  have hB0 : Below w.heap.size w ((w.alloc (.cells #[.slice A n c, .slice B m d] 33)).alloc (.cells #[.slice none 0 0, .slice none 0 0, .slice none 0 0, .int .i64 0, .int .i64 0, .int .i64 0] 41)) := ((Below.refl _ _).alloc (Nat.le_refl _) _).alloc (by simp) _
  have bkS : Blk ((w.alloc (.cells #[.slice A n c, .slice B m d] 33)).alloc (.cells #[.slice none 0 0, .slice none 0 0, .slice none 0 0, .int .i64 0, .int .i64 0, .int .i64 0] 41)) w.heap.size 33 #[.slice A n c, .slice B m d] := (Blk.new w _ _).alloc _
  have bkP : Blk ((w.alloc (.cells #[.slice A n c, .slice B m d] 33)).alloc (.cells #[.slice none 0 0, .slice none 0 0, .slice none 0 0, .int .i64 0, .int .i64 0, .int .i64 0] 41)) (w.heap.size + 1) 41 #[.slice none 0 0, .slice none 0 0, .slice none 0 0, .int .i64 0, .int .i64 0, .int .i64 0] := by
    have := Blk.new (w.alloc (.cells #[.slice A n c, .slice B m d] 33)) 41 #[.slice none 0 0, .slice none 0 0, .slice none 0 0, .int .i64 0, .int .i64 0, .int .i64 0]
    simpa only [World.size_alloc] using this
  have HD := Lib.hid (fun (B' : Un.Bd) (σ : Int → List Int) (rk : Int → Nat) (g : Un.Good (Pl.nxt xs) 48 B' σ rk) (dd : Un.Done (Pl.nxt xs) B' (Pl.sub (Pl.nxt xs) l q) (l2.map (sh 24))) => pkAt_eq g dd R1 R2)
  have HS := Lib.hid hs
  obtain ⟨V, hV⟩ : ∃ V, (if ovB xs l l2 (decide (over = under)) q then pkAt (Pl.nxt xs) l r l2 r2 q else pkNo) = V := ⟨_, rfl⟩
  have HV := Lib.hid hV
  rw [hV]
  clear hV
  go_enter Try.func35, Try.ntmps35
  go_wp2_with fail
  generalize (w.alloc (.cells #[.slice A n c, .slice B m d] 33)).alloc (.cells #[.slice none 0 0, .slice none 0 0, .slice none 0 0, .int .i64 0, .int .i64 0, .int .i64 0] 41) = W0 at *
  refine (overlap_pk A n c xs B m d x over q under l r l2 r2 _ (h.below hB0) (h'.below hB0) hs hov hun hl hl2 T1.1 T2.1 hq h0).mono ?_
  rintro e w1 ⟨hb1, ⟨ho, v, rfl⟩ | ⟨ho, U, B', hU1, hU2, rfl, hB', hD⟩⟩
  · obtain rfl : pkNo = V := by rw [← HV.out, ho]; rfl
    replace bkP := bkP.below hb1
    have hB := below_then hB0 hb1 hB0.size
    clear hb1 bkS h h' HD HS hs hl hl2 hB0 R1 R2 T1 T2
    have K0 : w1.cell? ⟨w.heap.size + 1, 0, none⟩ = some (.slice none 0 0) := by simpa using bkP.cell 0
    have K1 : w1.cell? ⟨w.heap.size + 1, 1, none⟩ = some (.slice none 0 0) := by simpa using bkP.cell 1
    have K2 : w1.cell? ⟨w.heap.size + 1, 2, none⟩ = some (.slice none 0 0) := by simpa using bkP.cell 2
    have K3 : w1.cell? ⟨w.heap.size + 1, 3, none⟩ = some (.int .i64 0) := by simpa using bkP.cell 3
    have K4 : w1.cell? ⟨w.heap.size + 1, 4, none⟩ = some (.int .i64 0) := by simpa using bkP.cell 4
    have K5 : w1.cell? ⟨w.heap.size + 1, 5, none⟩ = some (.int .i64 0) := by simpa using bkP.cell 5
    have F0 : w1.frozen? ⟨w.heap.size + 1, 0, none⟩ = false := bkP.frozen 0
    have F1 : w1.frozen? ⟨w.heap.size + 1, 1, none⟩ = false := bkP.frozen 1
    have F2 : w1.frozen? ⟨w.heap.size + 1, 2, none⟩ = false := bkP.frozen 2
    have F3 : w1.frozen? ⟨w.heap.size + 1, 3, none⟩ = false := bkP.frozen 3
    have F4 : w1.frozen? ⟨w.heap.size + 1, 4, none⟩ = false := bkP.frozen 4
    have F5 : w1.frozen? ⟨w.heap.size + 1, 5, none⟩ = false := bkP.frozen 5
    have hlt := bkP.lt
    have HK := Lib.hid (blk6 (a' := .slice none 0 0) (b' := .slice none 0 0) (c' := .slice none 0 0) (d' := .int .i64 0) (e' := .int .i64 0) (f' := .int .i64 0) bkP)
    have E3 := below6 (P := w.heap.size + 1) (a := .slice none 0 0) (b := .slice none 0 0) (c := .slice none 0 0) (d := .int .i64 0) (e := .int .i64 0) (f := .int .i64 0) hB (by omega)
    clear bkP hB
    go_wp2_with fail
    have K6 : ∀ i, ((World.setCell (World.setCell (World.setCell (World.setCell (World.setCell (World.setCell w1 ⟨(w.heap.size + 1), 0, none⟩ (.slice none 0 0)) ⟨(w.heap.size + 1), 1, none⟩ (.slice none 0 0)) ⟨(w.heap.size + 1), 2, none⟩ (.slice none 0 0)) ⟨(w.heap.size + 1), 3, none⟩ (.int .i64 0)) ⟨(w.heap.size + 1), 4, none⟩ (.int .i64 0)) ⟨(w.heap.size + 1), 5, none⟩ (.int .i64 0))).cell? ⟨w.heap.size + 1, i, none⟩ = #[.slice none 0 0, .slice none 0 0, .slice none 0 0, .int .i64 0, .int .i64 0, .int .i64 0][i]? := fun i => HK.out.cell i
    generalize (World.setCell (World.setCell (World.setCell (World.setCell (World.setCell (World.setCell w1 ⟨(w.heap.size + 1), 0, none⟩ (.slice none 0 0)) ⟨(w.heap.size + 1), 1, none⟩ (.slice none 0 0)) ⟨(w.heap.size + 1), 2, none⟩ (.slice none 0 0)) ⟨(w.heap.size + 1), 3, none⟩ (.int .i64 0)) ⟨(w.heap.size + 1), 4, none⟩ (.int .i64 0)) ⟨(w.heap.size + 1), 5, none⟩ (.int .i64 0)) = W9 at *
    exact bodyPost_ret (v := .tuple #[.agg #[.slice none 0 0, .slice none 0 0, .slice none 0 0, .int .i64 0, .int .i64 0, .int .i64 0], .bool false]) (by simp [results, Try.results35, go_sem, K6]) rfl (pkR_no E3)
  · obtain ⟨⟨σ, rk, gd⟩, hsol⟩ := id hD
    have HE := Lib.hid (show pkL (Un.ap σ l) (Un.ap σ (pkMid (Pl.nxt xs) l r2 q)) (Un.ap σ r) = V by rw [← HV.out, ho, if_pos rfl]; exact (HD.out B' σ rk gd hD).symm)
    have hm := Lib.hid (mid_vars ((hsol σ).1 gd.sol).2 (ruleOk_in R2))
    have hr := Lib.hid (ap_mem_sub (σ := σ) (ruleOk_in R1))
    have hap := Lib.hid ((hsol σ).1 gd.sol).2
    have hsu := Lib.hid gd.su
    have hD_ := hD
    obtain ⟨g, off, rfl, hcs⟩ := h'.2 (by omega)
    obtain ⟨L, ml, dl, R, mr, dr, hcl, hcr, hL, hR, hld, hld2, hrd, hrd2⟩ := hcs over hov
    obtain ⟨L2, ml2, dl2, R2', mr2, dr2, hcl2, hcr2, hL2, hR2, hld_, hld2_, hrd_, hrd2_⟩ := hcs under hun
    rw [← hl] at hL hR
    rw [← hl2] at hL2 hR2
    dsimp only at hL hR hL2 hR2
    have hB1 := below_then hB0 hb1 hB0.size
    have i0 : (0 : Int) ≤ (over : Int) := by omega
    have i1 : (over : Int) < (m : Int) := by omega
    have i2 : (0 : Int) ≤ (under : Int) := by omega
    have i3 : (under : Int) < (m : Int) := by omega
    replace bkS := bkS.below hb1
    replace bkP := bkP.below hb1
    have b0 : w1.cell? ⟨w.heap.size, 0, none⟩ = some (.slice A n c) := by simpa using bkS.cell 0
    have b1 : w1.cell? ⟨w.heap.size, 1, none⟩ = some (.slice (some ⟨g, off, none⟩) m d) := by simpa using bkS.cell 1
    have d0 := keepC hB1 hcl
    have d1 := keepC hB1 hcr
    have t1 := ruleOk_lens R1
    have t2 := ruleOk_lens R2
    have HD1 := Lib.hid hD_
    have HG := Lib.hid gd
    have HB := Lib.hid hB'
    have BS := Lib.hid bkS
    have BP := Lib.hid bkP
    have HR1 := Lib.hid R1
    have HR2 := Lib.hid R2
    have hgw := World.block_lt_of_cell? w _ hcl
    clear hD hD_ gd hB' bkS bkP R1 R2 hcs hl hl2 hsol HD HV ho
    have sw := hB0.size
    have hml : ml ≤ 60 := by have := hL.1; omega
    have hmr : mr ≤ 60 := by have := hR.1; omega
    have hmr2 : mr2 ≤ 60 := by have := hR2.1; omega
    have hqm : q < ml := by have := hL.1; omega
    obtain ⟨gl, ol, rfl, hgl⟩ := ri_addr hL (by omega)
    have hmr0 : 0 < mr := by have := (Pl.termOk_iff.1 T1.2).2.1.1; have := hR.1; omega
    obtain ⟨gr, or_, rfl, hgr⟩ := ri_addr hR hmr0
    have hLU : Hid (∀ a, (some (⟨gl, ol, none⟩ : Addr)) = some a → a.block ≠ U) := Lib.hid fun a ha => by injection ha with ha; subst ha; dsimp only; omega
    have hRU : Hid (∀ a, (some (⟨gr, or_, none⟩ : Addr)) = some a → a.block ≠ U) := Lib.hid fun a ha => by injection ha with ha; subst ha; dsimp only; omega
    have hinl := Lib.hid (wt_ok T1.1).2
    have hinr := Lib.hid (wt_ok T1.2).2
    have hiny := Lib.hid (wt_away T2.2).2
    have HTA := Lib.hid (fin_ap (σ := σ) (nxt_ar xs) hsu.out (tm_ok T1.1) hq (r2.map (sh 24)))
    have hTa := Lib.hid (Un.Tm.ap (nxt_ar xs) hsu.out (tm_ok T1.1))
    have hybd := Lib.hid (Pl.termOk_bd T2.2)
    clear T1 T2
    go_wp2_with fail
    have hAl : Below w1.heap.size w1 (w1.alloc (.cells #[.slice (some ⟨gl, ol, none⟩) ml dl, .slice (some ⟨gr, or_, none⟩) mr dr] 52)) := (Below.refl _ _).alloc (Nat.le_refl _) _
    have HC : Hid (PkC 95 33 41 52 (.slice A n c) U w1.heap.size B' #[.slice A n c, .slice (some ⟨g, off, none⟩) m d] #[.slice none 0 0, .slice none 0 0, .slice none 0 0, .int .i64 0, .int .i64 0, .int .i64 0] #[.slice (some ⟨gl, ol, none⟩) ml dl, .slice (some ⟨gr, or_, none⟩) mr dr] w (w1.alloc (.cells #[.slice (some ⟨gl, ol, none⟩) ml dl, .slice (some ⟨gr, or_, none⟩) mr dr] 52))) := Lib.hid ⟨below_then hB1 hAl hB1.size, bnd_on HB.out hAl, BS.out.below hAl, BP.out.below hAl, Blk.new _ _ _⟩
    have s2 : w1.heap.size < (w1.alloc (.cells #[.slice (some ⟨gl, ol, none⟩) ml dl, .slice (some ⟨gr, or_, none⟩) mr dr] 52)).heap.size := by simp
    clear HB BS BP b0 b1 d0 d1 hAl hb1
    generalize w1.alloc (.cells #[.slice (some ⟨gl, ol, none⟩) ml dl, .slice (some ⟨gr, or_, none⟩) mr dr] 52) = w2 at *
    refine (resolve0 _ U (.slice A n c) B' σ rk HG.out l _ _ _ w2 hinl.out (hL.below HC.out.1) (fun _ => hLU.out) hml HC.out.2.1).mono ?_
    rintro e w3 ⟨A1, c1, rfl, oa, hb3⟩
    obtain ⟨pa, hpa⟩ : ∃ pa, decide ((Un.ap σ l).length ≤ 60) = pa := ⟨_, rfl⟩
    rw [hpa]
    replace hpa := Lib.hid hpa
    replace HC := Lib.hid (HC.out.on hb3)
    have s3 := hb3.size
    replace oa := Lib.hid oa
    clear hb3
    have b0 : w3.cell? ⟨w.heap.size, 0, none⟩ = some (.slice A n c) := by simpa using HC.out.2.2.1.cell 0
    have b1 : w3.cell? ⟨w.heap.size, 1, none⟩ = some (.slice (some ⟨g, off, none⟩) m d) := by simpa using HC.out.2.2.1.cell 1
    have r0 : w3.cell? ⟨w1.heap.size, 0, none⟩ = some (.slice (some ⟨gl, ol, none⟩) ml dl) := by simpa using HC.out.2.2.2.2.cell 0
    have r1 : w3.cell? ⟨w1.heap.size, 1, none⟩ = some (.slice (some ⟨gr, or_, none⟩) mr dr) := by simpa using HC.out.2.2.2.2.cell 1
    have u1 := keepC HC.out.1 hcr2
    go_wp2_with fail
    refine (resolve0 _ U (.slice A n c) B' σ rk HG.out r _ _ _ w3 hinr.out (hR.below HC.out.1) (fun _ => hRU.out) hmr HC.out.2.1).mono ?_
    rintro e w4 ⟨A2, c2, rfl, oc, hb4⟩
    obtain ⟨pc, hpc⟩ : ∃ pc, decide ((Un.ap σ r).length ≤ 60) = pc := ⟨_, rfl⟩
    rw [hpc]
    replace hpc := Lib.hid hpc
    replace HC := Lib.hid (HC.out.on hb4)
    have s4 := hb4.size
    replace oa := Lib.hid (oa.out.below hb4)
    replace oc := Lib.hid oc
    clear hb4 b0 b1 r0 r1 u1
    have b0 : w4.cell? ⟨w.heap.size, 0, none⟩ = some (.slice A n c) := by simpa using HC.out.2.2.1.cell 0
    have b1 : w4.cell? ⟨w.heap.size, 1, none⟩ = some (.slice (some ⟨g, off, none⟩) m d) := by simpa using HC.out.2.2.1.cell 1
    have r0 : w4.cell? ⟨w1.heap.size, 0, none⟩ = some (.slice (some ⟨gl, ol, none⟩) ml dl) := by simpa using HC.out.2.2.2.2.cell 0
    have r1 : w4.cell? ⟨w1.heap.size, 1, none⟩ = some (.slice (some ⟨gr, or_, none⟩) mr dr) := by simpa using HC.out.2.2.2.2.cell 1
    have u1 := keepC HC.out.1 hcr2
    go_wp2_with fail
    refine (away_any R2' mr2 dr2 r2 w4 (hR2.below HC.out.1) hmr2 hybd.out).mono ?_
    rintro e w5 ⟨A3, c3, rfl, oy, hb5⟩
    replace HC := Lib.hid (HC.out.on hb5)
    have s5 := hb5.size
    replace oa := Lib.hid (oa.out.below hb5)
    replace oc := Lib.hid (oc.out.below hb5)
    clear hb5 b0 b1 r0 r1 u1
    have b0 : w5.cell? ⟨w.heap.size, 0, none⟩ = some (.slice A n c) := by simpa using HC.out.2.2.1.cell 0
    have b1 : w5.cell? ⟨w.heap.size, 1, none⟩ = some (.slice (some ⟨g, off, none⟩) m d) := by simpa using HC.out.2.2.1.cell 1
    have r0 : w5.cell? ⟨w1.heap.size, 0, none⟩ = some (.slice (some ⟨gl, ol, none⟩) ml dl) := by simpa using HC.out.2.2.2.2.cell 0
    have r1 : w5.cell? ⟨w1.heap.size, 1, none⟩ = some (.slice (some ⟨gr, or_, none⟩) mr dr) := by simpa using HC.out.2.2.2.2.cell 1
    have u1 := keepC HC.out.1 hcr2
    go_wp2_with fail
    refine (resolve0 _ U (.slice A n c) B' σ rk HG.out (r2.map (sh 24)) _ _ _ w5 hiny.out oy.ri (fun _ => own_off oy (by omega)) hmr2 HC.out.2.1).mono ?_
    rintro e w6 ⟨A4, c4, rfl, ob, hb6⟩
    obtain ⟨pb, hpb⟩ : ∃ pb, decide ((Un.ap σ (r2.map (sh 24))).length ≤ 60) = pb := ⟨_, rfl⟩
    rw [hpb]
    replace hpb := Lib.hid hpb
    replace HC := Lib.hid (HC.out.on hb6)
    have s6 := hb6.size
    replace oa := Lib.hid (oa.out.below hb6)
    replace oc := Lib.hid (oc.out.below hb6)
    replace ob := Lib.hid ob
    clear hb6 b0 b1 r0 r1 u1 oy
    cases pa
    · obtain rfl : pkNo = V := by rw [← HE.out, pkL_no (pkOk_no (.inl (by have := hpa.out; simp at this; omega)))]
      have bkP := HC.out.2.2.2.1
      have hB := HC.out.1
      clear HC HE
      have K0 : w6.cell? ⟨w.heap.size + 1, 0, none⟩ = some (.slice none 0 0) := by simpa using bkP.cell 0
      have K1 : w6.cell? ⟨w.heap.size + 1, 1, none⟩ = some (.slice none 0 0) := by simpa using bkP.cell 1
      have K2 : w6.cell? ⟨w.heap.size + 1, 2, none⟩ = some (.slice none 0 0) := by simpa using bkP.cell 2
      have K3 : w6.cell? ⟨w.heap.size + 1, 3, none⟩ = some (.int .i64 0) := by simpa using bkP.cell 3
      have K4 : w6.cell? ⟨w.heap.size + 1, 4, none⟩ = some (.int .i64 0) := by simpa using bkP.cell 4
      have K5 : w6.cell? ⟨w.heap.size + 1, 5, none⟩ = some (.int .i64 0) := by simpa using bkP.cell 5
      have F0 : w6.frozen? ⟨w.heap.size + 1, 0, none⟩ = false := bkP.frozen 0
      have F1 : w6.frozen? ⟨w.heap.size + 1, 1, none⟩ = false := bkP.frozen 1
      have F2 : w6.frozen? ⟨w.heap.size + 1, 2, none⟩ = false := bkP.frozen 2
      have F3 : w6.frozen? ⟨w.heap.size + 1, 3, none⟩ = false := bkP.frozen 3
      have F4 : w6.frozen? ⟨w.heap.size + 1, 4, none⟩ = false := bkP.frozen 4
      have F5 : w6.frozen? ⟨w.heap.size + 1, 5, none⟩ = false := bkP.frozen 5
      have hlt := bkP.lt
      have HK := Lib.hid (blk6 (a' := .slice none 0 0) (b' := .slice none 0 0) (c' := .slice none 0 0) (d' := .int .i64 0) (e' := .int .i64 0) (f' := .int .i64 0) bkP)
      have E3 := below6 (P := w.heap.size + 1) (a := .slice none 0 0) (b := .slice none 0 0) (c := .slice none 0 0) (d := .int .i64 0) (e := .int .i64 0) (f := .int .i64 0) hB (by omega)
      clear bkP hB
      go_wp2_with fail
      have K6 : ∀ i, ((World.setCell (World.setCell (World.setCell (World.setCell (World.setCell (World.setCell w6 ⟨(w.heap.size + 1), 0, none⟩ (.slice none 0 0)) ⟨(w.heap.size + 1), 1, none⟩ (.slice none 0 0)) ⟨(w.heap.size + 1), 2, none⟩ (.slice none 0 0)) ⟨(w.heap.size + 1), 3, none⟩ (.int .i64 0)) ⟨(w.heap.size + 1), 4, none⟩ (.int .i64 0)) ⟨(w.heap.size + 1), 5, none⟩ (.int .i64 0))).cell? ⟨w.heap.size + 1, i, none⟩ = #[.slice none 0 0, .slice none 0 0, .slice none 0 0, .int .i64 0, .int .i64 0, .int .i64 0][i]? := fun i => HK.out.cell i
      generalize (World.setCell (World.setCell (World.setCell (World.setCell (World.setCell (World.setCell w6 ⟨(w.heap.size + 1), 0, none⟩ (.slice none 0 0)) ⟨(w.heap.size + 1), 1, none⟩ (.slice none 0 0)) ⟨(w.heap.size + 1), 2, none⟩ (.slice none 0 0)) ⟨(w.heap.size + 1), 3, none⟩ (.int .i64 0)) ⟨(w.heap.size + 1), 4, none⟩ (.int .i64 0)) ⟨(w.heap.size + 1), 5, none⟩ (.int .i64 0)) = W9 at *
      exact bodyPost_ret (v := .tuple #[.agg #[.slice none 0 0, .slice none 0 0, .slice none 0 0, .int .i64 0, .int .i64 0, .int .i64 0], .bool false]) (by simp [results, Try.results35, go_sem, K6]) rfl (pkR_no E3)
    · cases pb
      · have hlen : 60 < (Un.ap σ (pkMid (Pl.nxt xs) l r2 q)).length := by
          have h1 := hpb.out
          simp only [decide_eq_false_iff_not] at h1
          unfold pkMid putAt
          rw [Un.ap_app, Un.ap_app, List.length_append, List.length_append]
          omega
        have hlen := Lib.hid hlen
        cases pc
        · obtain rfl : pkNo = V := by rw [← HE.out, pkL_no (pkOk_no (.inr (.inl hlen.out)))]
          have bkP := HC.out.2.2.2.1
          have hB := HC.out.1
          clear HC HE
          have K0 : w6.cell? ⟨w.heap.size + 1, 0, none⟩ = some (.slice none 0 0) := by simpa using bkP.cell 0
          have K1 : w6.cell? ⟨w.heap.size + 1, 1, none⟩ = some (.slice none 0 0) := by simpa using bkP.cell 1
          have K2 : w6.cell? ⟨w.heap.size + 1, 2, none⟩ = some (.slice none 0 0) := by simpa using bkP.cell 2
          have K3 : w6.cell? ⟨w.heap.size + 1, 3, none⟩ = some (.int .i64 0) := by simpa using bkP.cell 3
          have K4 : w6.cell? ⟨w.heap.size + 1, 4, none⟩ = some (.int .i64 0) := by simpa using bkP.cell 4
          have K5 : w6.cell? ⟨w.heap.size + 1, 5, none⟩ = some (.int .i64 0) := by simpa using bkP.cell 5
          have F0 : w6.frozen? ⟨w.heap.size + 1, 0, none⟩ = false := bkP.frozen 0
          have F1 : w6.frozen? ⟨w.heap.size + 1, 1, none⟩ = false := bkP.frozen 1
          have F2 : w6.frozen? ⟨w.heap.size + 1, 2, none⟩ = false := bkP.frozen 2
          have F3 : w6.frozen? ⟨w.heap.size + 1, 3, none⟩ = false := bkP.frozen 3
          have F4 : w6.frozen? ⟨w.heap.size + 1, 4, none⟩ = false := bkP.frozen 4
          have F5 : w6.frozen? ⟨w.heap.size + 1, 5, none⟩ = false := bkP.frozen 5
          have hlt := bkP.lt
          have HK := Lib.hid (blk6 (a' := .slice none 0 0) (b' := .slice none 0 0) (c' := .slice none 0 0) (d' := .int .i64 0) (e' := .int .i64 0) (f' := .int .i64 0) bkP)
          have E3 := below6 (P := w.heap.size + 1) (a := .slice none 0 0) (b := .slice none 0 0) (c := .slice none 0 0) (d := .int .i64 0) (e := .int .i64 0) (f := .int .i64 0) hB (by omega)
          clear bkP hB
          go_wp2_with fail
          have K6 : ∀ i, ((World.setCell (World.setCell (World.setCell (World.setCell (World.setCell (World.setCell w6 ⟨(w.heap.size + 1), 0, none⟩ (.slice none 0 0)) ⟨(w.heap.size + 1), 1, none⟩ (.slice none 0 0)) ⟨(w.heap.size + 1), 2, none⟩ (.slice none 0 0)) ⟨(w.heap.size + 1), 3, none⟩ (.int .i64 0)) ⟨(w.heap.size + 1), 4, none⟩ (.int .i64 0)) ⟨(w.heap.size + 1), 5, none⟩ (.int .i64 0))).cell? ⟨w.heap.size + 1, i, none⟩ = #[.slice none 0 0, .slice none 0 0, .slice none 0 0, .int .i64 0, .int .i64 0, .int .i64 0][i]? := fun i => HK.out.cell i
          generalize (World.setCell (World.setCell (World.setCell (World.setCell (World.setCell (World.setCell w6 ⟨(w.heap.size + 1), 0, none⟩ (.slice none 0 0)) ⟨(w.heap.size + 1), 1, none⟩ (.slice none 0 0)) ⟨(w.heap.size + 1), 2, none⟩ (.slice none 0 0)) ⟨(w.heap.size + 1), 3, none⟩ (.int .i64 0)) ⟨(w.heap.size + 1), 4, none⟩ (.int .i64 0)) ⟨(w.heap.size + 1), 5, none⟩ (.int .i64 0)) = W9 at *
          exact bodyPost_ret (v := .tuple #[.agg #[.slice none 0 0, .slice none 0 0, .slice none 0 0, .int .i64 0, .int .i64 0, .int .i64 0], .bool false]) (by simp [results, Try.results35, go_sem, K6]) rfl (pkR_no E3)
        · obtain rfl : pkNo = V := by rw [← HE.out, pkL_no (pkOk_no (.inr (.inl hlen.out)))]
          have bkP := HC.out.2.2.2.1
          have hB := HC.out.1
          clear HC HE
          have K0 : w6.cell? ⟨w.heap.size + 1, 0, none⟩ = some (.slice none 0 0) := by simpa using bkP.cell 0
          have K1 : w6.cell? ⟨w.heap.size + 1, 1, none⟩ = some (.slice none 0 0) := by simpa using bkP.cell 1
          have K2 : w6.cell? ⟨w.heap.size + 1, 2, none⟩ = some (.slice none 0 0) := by simpa using bkP.cell 2
          have K3 : w6.cell? ⟨w.heap.size + 1, 3, none⟩ = some (.int .i64 0) := by simpa using bkP.cell 3
          have K4 : w6.cell? ⟨w.heap.size + 1, 4, none⟩ = some (.int .i64 0) := by simpa using bkP.cell 4
          have K5 : w6.cell? ⟨w.heap.size + 1, 5, none⟩ = some (.int .i64 0) := by simpa using bkP.cell 5
          have F0 : w6.frozen? ⟨w.heap.size + 1, 0, none⟩ = false := bkP.frozen 0
          have F1 : w6.frozen? ⟨w.heap.size + 1, 1, none⟩ = false := bkP.frozen 1
          have F2 : w6.frozen? ⟨w.heap.size + 1, 2, none⟩ = false := bkP.frozen 2
          have F3 : w6.frozen? ⟨w.heap.size + 1, 3, none⟩ = false := bkP.frozen 3
          have F4 : w6.frozen? ⟨w.heap.size + 1, 4, none⟩ = false := bkP.frozen 4
          have F5 : w6.frozen? ⟨w.heap.size + 1, 5, none⟩ = false := bkP.frozen 5
          have hlt := bkP.lt
          have HK := Lib.hid (blk6 (a' := .slice none 0 0) (b' := .slice none 0 0) (c' := .slice none 0 0) (d' := .int .i64 0) (e' := .int .i64 0) (f' := .int .i64 0) bkP)
          have E3 := below6 (P := w.heap.size + 1) (a := .slice none 0 0) (b := .slice none 0 0) (c := .slice none 0 0) (d := .int .i64 0) (e := .int .i64 0) (f := .int .i64 0) hB (by omega)
          clear bkP hB
          go_wp2_with fail
          have K6 : ∀ i, ((World.setCell (World.setCell (World.setCell (World.setCell (World.setCell (World.setCell w6 ⟨(w.heap.size + 1), 0, none⟩ (.slice none 0 0)) ⟨(w.heap.size + 1), 1, none⟩ (.slice none 0 0)) ⟨(w.heap.size + 1), 2, none⟩ (.slice none 0 0)) ⟨(w.heap.size + 1), 3, none⟩ (.int .i64 0)) ⟨(w.heap.size + 1), 4, none⟩ (.int .i64 0)) ⟨(w.heap.size + 1), 5, none⟩ (.int .i64 0))).cell? ⟨w.heap.size + 1, i, none⟩ = #[.slice none 0 0, .slice none 0 0, .slice none 0 0, .int .i64 0, .int .i64 0, .int .i64 0][i]? := fun i => HK.out.cell i
          generalize (World.setCell (World.setCell (World.setCell (World.setCell (World.setCell (World.setCell w6 ⟨(w.heap.size + 1), 0, none⟩ (.slice none 0 0)) ⟨(w.heap.size + 1), 1, none⟩ (.slice none 0 0)) ⟨(w.heap.size + 1), 2, none⟩ (.slice none 0 0)) ⟨(w.heap.size + 1), 3, none⟩ (.int .i64 0)) ⟨(w.heap.size + 1), 4, none⟩ (.int .i64 0)) ⟨(w.heap.size + 1), 5, none⟩ (.int .i64 0)) = W9 at *
          exact bodyPost_ret (v := .tuple #[.agg #[.slice none 0 0, .slice none 0 0, .slice none 0 0, .int .i64 0, .int .i64 0, .int .i64 0], .bool false]) (by simp [results, Try.results35, go_sem, K6]) rfl (pkR_no E3)
      · cases pc
        · obtain rfl : pkNo = V := by rw [← HE.out, pkL_no (pkOk_no (.inr (.inr (.inl (by have := hpc.out; simp at this; omega)))))]
          have bkP := HC.out.2.2.2.1
          have hB := HC.out.1
          clear HC HE
          have K0 : w6.cell? ⟨w.heap.size + 1, 0, none⟩ = some (.slice none 0 0) := by simpa using bkP.cell 0
          have K1 : w6.cell? ⟨w.heap.size + 1, 1, none⟩ = some (.slice none 0 0) := by simpa using bkP.cell 1
          have K2 : w6.cell? ⟨w.heap.size + 1, 2, none⟩ = some (.slice none 0 0) := by simpa using bkP.cell 2
          have K3 : w6.cell? ⟨w.heap.size + 1, 3, none⟩ = some (.int .i64 0) := by simpa using bkP.cell 3
          have K4 : w6.cell? ⟨w.heap.size + 1, 4, none⟩ = some (.int .i64 0) := by simpa using bkP.cell 4
          have K5 : w6.cell? ⟨w.heap.size + 1, 5, none⟩ = some (.int .i64 0) := by simpa using bkP.cell 5
          have F0 : w6.frozen? ⟨w.heap.size + 1, 0, none⟩ = false := bkP.frozen 0
          have F1 : w6.frozen? ⟨w.heap.size + 1, 1, none⟩ = false := bkP.frozen 1
          have F2 : w6.frozen? ⟨w.heap.size + 1, 2, none⟩ = false := bkP.frozen 2
          have F3 : w6.frozen? ⟨w.heap.size + 1, 3, none⟩ = false := bkP.frozen 3
          have F4 : w6.frozen? ⟨w.heap.size + 1, 4, none⟩ = false := bkP.frozen 4
          have F5 : w6.frozen? ⟨w.heap.size + 1, 5, none⟩ = false := bkP.frozen 5
          have hlt := bkP.lt
          have HK := Lib.hid (blk6 (a' := .slice none 0 0) (b' := .slice none 0 0) (c' := .slice none 0 0) (d' := .int .i64 0) (e' := .int .i64 0) (f' := .int .i64 0) bkP)
          have E3 := below6 (P := w.heap.size + 1) (a := .slice none 0 0) (b := .slice none 0 0) (c := .slice none 0 0) (d := .int .i64 0) (e := .int .i64 0) (f := .int .i64 0) hB (by omega)
          clear bkP hB
          go_wp2_with fail
          have K6 : ∀ i, ((World.setCell (World.setCell (World.setCell (World.setCell (World.setCell (World.setCell w6 ⟨(w.heap.size + 1), 0, none⟩ (.slice none 0 0)) ⟨(w.heap.size + 1), 1, none⟩ (.slice none 0 0)) ⟨(w.heap.size + 1), 2, none⟩ (.slice none 0 0)) ⟨(w.heap.size + 1), 3, none⟩ (.int .i64 0)) ⟨(w.heap.size + 1), 4, none⟩ (.int .i64 0)) ⟨(w.heap.size + 1), 5, none⟩ (.int .i64 0))).cell? ⟨w.heap.size + 1, i, none⟩ = #[.slice none 0 0, .slice none 0 0, .slice none 0 0, .int .i64 0, .int .i64 0, .int .i64 0][i]? := fun i => HK.out.cell i
          generalize (World.setCell (World.setCell (World.setCell (World.setCell (World.setCell (World.setCell w6 ⟨(w.heap.size + 1), 0, none⟩ (.slice none 0 0)) ⟨(w.heap.size + 1), 1, none⟩ (.slice none 0 0)) ⟨(w.heap.size + 1), 2, none⟩ (.slice none 0 0)) ⟨(w.heap.size + 1), 3, none⟩ (.int .i64 0)) ⟨(w.heap.size + 1), 4, none⟩ (.int .i64 0)) ⟨(w.heap.size + 1), 5, none⟩ (.int .i64 0)) = W9 at *
          exact bodyPost_ret (v := .tuple #[.agg #[.slice none 0 0, .slice none 0 0, .slice none 0 0, .int .i64 0, .int .i64 0, .int .i64 0], .bool false]) (by simp [results, Try.results35, go_sem, K6]) rfl (pkR_no E3)
        · have ha60 : (Un.ap σ l).length ≤ 60 := by have := hpa.out; simpa using this
          have hc60 : (Un.ap σ r).length ≤ 60 := by have := hpc.out; simpa using this
          have hy60 : (Un.ap σ (r2.map (sh 24))).length ≤ 60 := by have := hpb.out; simpa using this
          rw [fullL_yes ha60] at oa ⊢
          rw [fullL_yes hc60] at oc ⊢
          rw [fullL_yes hy60] at ob ⊢
          have hp60 := ap_take_le σ l q
          obtain ⟨hfin, hplt, hput⟩ := HTA.out
          have hmid : Un.ap σ (pkMid (Pl.nxt xs) l r2 q) = putAt (Un.ap σ l) (Un.ap σ (l.take q)).length ((Un.ap σ (l.take q)).length + (Un.ap σ (Pl.sub (Pl.nxt xs) l q)).length) (Un.ap σ (r2.map (sh 24))) := by rw [hput]; rfl
          obtain ⟨_, _, ea1, ea2, ea3⟩ := own_form oa.out
          obtain ⟨_, _, eb1, eb2, eb3⟩ := own_form ob.out
          simp only [Value.slice.injEq] at ea1 eb1
          unfold maxLen at ea3 eb3
          have ea4 : (Un.ap σ l).length ≤ c1 ∧ c1 ≤ 9223372036854775807 := by omega
          have eb4 : (Un.ap σ (r2.map (sh 24))).length ≤ c4 ∧ c4 ≤ 9223372036854775807 := by omega
          have HPI : Hid (∀ W, (Below w6.heap.size w6 W ∧ W.cell? ⟨w.heap.size, 0, none⟩ = some (.slice A n c) ∧ W.cell? ⟨w1.heap.size, 0, none⟩ = some (.slice (some ⟨gl, ol, none⟩) ml dl) ∧ W.cell? ⟨w1.heap.size, 1, none⟩ = some (.slice (some ⟨gr, or_, none⟩) mr dr)) → Calls Try.prog 56 #[.pointer (some ⟨U, 0, none⟩), .slice (some ⟨gl, ol, none⟩) ml dl, .int .i64 q] W fun e w' => e = .returned (.int .i64 ((Un.ap σ (l.take q)).length : Nat)) ∧ Below W.heap.size W w') :=
            Lib.hid fun W hW => placeIn_any _ U (.slice A n c) B' σ rk HG.out l _ ml dl q W hinl.out ((hL.below HC.out.1).below hW.1) hLU.out hml hld hld2 hqm (bnd_on HC.out.2.1 hW.1) (by omega)
          have HPW : Hid (∀ W, (Below w6.heap.size w6 W ∧ W.cell? ⟨w.heap.size, 0, none⟩ = some (.slice A n c) ∧ W.cell? ⟨w1.heap.size, 0, none⟩ = some (.slice (some ⟨gl, ol, none⟩) ml dl) ∧ W.cell? ⟨w1.heap.size, 1, none⟩ = some (.slice (some ⟨gr, or_, none⟩) mr dr)) → Calls Try.prog 55 #[.agg #[.slice A n c], .slice A1 (Un.ap σ l).length c1, .int .i64 ((Un.ap σ (l.take q)).length : Nat), .slice A4 (Un.ap σ (r2.map (sh 24))).length c4] W fun e w' => ∃ A' c', e = .returned (.tuple #[.slice A' (fullL (Un.ap σ (pkMid (Pl.nxt xs) l r2 q))).length c', .bool (decide ((Un.ap σ (pkMid (Pl.nxt xs) l r2 q)).length ≤ 60))]) ∧ OI w' W.heap.size A' (fullL (Un.ap σ (pkMid (Pl.nxt xs) l r2 q))).length c' (fullL (Un.ap σ (pkMid (Pl.nxt xs) l r2 q))) ∧ Below W.heap.size W w') :=
            Lib.hid fun W hW => by
              have := put_w A n c xs A1 _ c1 (Un.ap σ l) (Un.ap σ (l.take q)).length A4 _ c4 (Un.ap σ (r2.map (sh 24))) W _ ((h.below HC.out.1).below hW.1) (oa.out.ri.below hW.1) (ob.out.ri.below hW.1) HS.out hTa.out hfin hplt ha60 hy60 ea4.1 ea4.2 eb4.1 eb4.2
              rw [putL_full, ← hmid, putOk, ← hmid] at this
              exact this
          have hA := Lib.hid (show (Un.ap σ l) ≠ [] from fun e => by rw [e] at hplt; simp at hplt)
          clear ea1 ea2 ea3 eb1 eb2 eb3 ea4 eb4 hmid hput hplt hfin HTA hp60
          obtain ⟨pm, hpm⟩ : ∃ pm, decide ((Un.ap σ (pkMid (Pl.nxt xs) l r2 q)).length ≤ 60) = pm := ⟨_, rfl⟩
          rw [hpm] at HPW
          have hpm := Lib.hid hpm
          generalize hMM : Un.ap σ (pkMid (Pl.nxt xs) l r2 q) = M at *
          clear hMM
          have b0 : w6.cell? ⟨w.heap.size, 0, none⟩ = some (.slice A n c) := by simpa using HC.out.2.2.1.cell 0
          have b1 : w6.cell? ⟨w.heap.size, 1, none⟩ = some (.slice (some ⟨g, off, none⟩) m d) := by simpa using HC.out.2.2.1.cell 1
          have r0 : w6.cell? ⟨w1.heap.size, 0, none⟩ = some (.slice (some ⟨gl, ol, none⟩) ml dl) := by simpa using HC.out.2.2.2.2.cell 0
          have r1 : w6.cell? ⟨w1.heap.size, 1, none⟩ = some (.slice (some ⟨gr, or_, none⟩) mr dr) := by simpa using HC.out.2.2.2.2.cell 1
          have u1 := keepC HC.out.1 hcr2
          go_wp2_with fail
          go_region_held3 (fun W => Below w6.heap.size w6 W ∧ W.cell? ⟨w.heap.size, 0, none⟩ = some (.slice A n c) ∧ W.cell? ⟨w1.heap.size, 0, none⟩ = some (.slice (some ⟨gl, ol, none⟩) ml dl) ∧ W.cell? ⟨w1.heap.size, 1, none⟩ = some (.slice (some ⟨gr, or_, none⟩) mr dr))
            (first | exact ⟨(Below.refl _ _).drew, b0, r0, r1⟩ | exact keepH hb7 (by assumption) | exact keepH hb8 (by assumption))
            ((first | (go_at_call 56; refine (HPI.out _ (by assumption)).mono ?_; rintro e w7 ⟨rfl, hb7⟩) | (go_at_call 55; refine (HPW.out _ (by assumption)).mono ?_; rintro e w8 ⟨A5, c5, rfl, om, hb8⟩)))
          rename_i hS
          replace HC := Lib.hid (HC.out.on hS.1)
          have s8 := hS.1.size
          have qa := Lib.hid (oa.out.below hS.1).ri
          have qc := Lib.hid (oc.out.below hS.1).ri
          have qm := Lib.hid om.ri
          clear hS oa oc ob om hb7 hb8 b0 b1 r0 r1 u1 HPI HPW
          cases pm
          · obtain rfl : pkNo = V := by rw [← HE.out, pkL_no (pkOk_no (.inr (.inl (by have := hpm.out; simp at this; omega))))]
            have bkP := HC.out.2.2.2.1
            have hB := HC.out.1
            clear HC HE
            have K0 : w8.cell? ⟨w.heap.size + 1, 0, none⟩ = some (.slice none 0 0) := by simpa using bkP.cell 0
            have K1 : w8.cell? ⟨w.heap.size + 1, 1, none⟩ = some (.slice none 0 0) := by simpa using bkP.cell 1
            have K2 : w8.cell? ⟨w.heap.size + 1, 2, none⟩ = some (.slice none 0 0) := by simpa using bkP.cell 2
            have K3 : w8.cell? ⟨w.heap.size + 1, 3, none⟩ = some (.int .i64 0) := by simpa using bkP.cell 3
            have K4 : w8.cell? ⟨w.heap.size + 1, 4, none⟩ = some (.int .i64 0) := by simpa using bkP.cell 4
            have K5 : w8.cell? ⟨w.heap.size + 1, 5, none⟩ = some (.int .i64 0) := by simpa using bkP.cell 5
            have F0 : w8.frozen? ⟨w.heap.size + 1, 0, none⟩ = false := bkP.frozen 0
            have F1 : w8.frozen? ⟨w.heap.size + 1, 1, none⟩ = false := bkP.frozen 1
            have F2 : w8.frozen? ⟨w.heap.size + 1, 2, none⟩ = false := bkP.frozen 2
            have F3 : w8.frozen? ⟨w.heap.size + 1, 3, none⟩ = false := bkP.frozen 3
            have F4 : w8.frozen? ⟨w.heap.size + 1, 4, none⟩ = false := bkP.frozen 4
            have F5 : w8.frozen? ⟨w.heap.size + 1, 5, none⟩ = false := bkP.frozen 5
            have hlt := bkP.lt
            have HK := Lib.hid (blk6 (a' := .slice none 0 0) (b' := .slice none 0 0) (c' := .slice none 0 0) (d' := .int .i64 0) (e' := .int .i64 0) (f' := .int .i64 0) bkP)
            have E3 := below6 (P := w.heap.size + 1) (a := .slice none 0 0) (b := .slice none 0 0) (c := .slice none 0 0) (d := .int .i64 0) (e := .int .i64 0) (f := .int .i64 0) hB (by omega)
            clear bkP hB
            go_wp2_with fail
            have K6 : ∀ i, ((World.setCell (World.setCell (World.setCell (World.setCell (World.setCell (World.setCell w8 ⟨(w.heap.size + 1), 0, none⟩ (.slice none 0 0)) ⟨(w.heap.size + 1), 1, none⟩ (.slice none 0 0)) ⟨(w.heap.size + 1), 2, none⟩ (.slice none 0 0)) ⟨(w.heap.size + 1), 3, none⟩ (.int .i64 0)) ⟨(w.heap.size + 1), 4, none⟩ (.int .i64 0)) ⟨(w.heap.size + 1), 5, none⟩ (.int .i64 0))).cell? ⟨w.heap.size + 1, i, none⟩ = #[.slice none 0 0, .slice none 0 0, .slice none 0 0, .int .i64 0, .int .i64 0, .int .i64 0][i]? := fun i => HK.out.cell i
            generalize (World.setCell (World.setCell (World.setCell (World.setCell (World.setCell (World.setCell w8 ⟨(w.heap.size + 1), 0, none⟩ (.slice none 0 0)) ⟨(w.heap.size + 1), 1, none⟩ (.slice none 0 0)) ⟨(w.heap.size + 1), 2, none⟩ (.slice none 0 0)) ⟨(w.heap.size + 1), 3, none⟩ (.int .i64 0)) ⟨(w.heap.size + 1), 4, none⟩ (.int .i64 0)) ⟨(w.heap.size + 1), 5, none⟩ (.int .i64 0)) = W9 at *
            exact bodyPost_ret (v := .tuple #[.agg #[.slice none 0 0, .slice none 0 0, .slice none 0 0, .int .i64 0, .int .i64 0, .int .i64 0], .bool false]) (by simp [results, Try.results35, go_sem, K6]) rfl (pkR_no E3)
          · have hm60 : M.length ≤ 60 := by have := hpm.out; simpa using this
            rw [fullL_yes hm60] at qm ⊢
            have hAl2 : Below w8.heap.size w8 (w8.alloc (.cells #[.slice A1 (Un.ap σ l).length c1, .slice A5 M.length c5, .slice A2 (Un.ap σ r).length c2] 22)) := (Below.refl _ _).alloc (Nat.le_refl _) _
            have HRR := Lib.hid (RR.three3 (T := 22) (n := (Un.ap σ l).length) (c := c1) (m := M.length) (d := c5) (o := (Un.ap σ r).length) (f := c2) qa.out (by omega) qm.out (by omega) qc.out (by omega))
            have hfl : (flat [Un.ap σ l, M, Un.ap σ r] 3).length ≤ 1000 := by simp [flat]; omega
            have HREN := Lib.hid (ren_three (a := Un.ap σ l) (b := M) (c := Un.ap σ r) (fun x hx h0 => vars_in _ x (hm.out x hx h0) h0) (fun x hx h0 => vars_in _ x (hr.out x hx h0) h0))
            have HC9 := Lib.hid (HC.out.on hAl2)
            have s9 := hAl2.size
            have b0 : w8.cell? ⟨w.heap.size, 0, none⟩ = some (.slice A n c) := by simpa using HC.out.2.2.1.cell 0
            have b1 : w8.cell? ⟨w.heap.size, 1, none⟩ = some (.slice (some ⟨g, off, none⟩) m d) := by simpa using HC.out.2.2.1.cell 1
            have r0 : w8.cell? ⟨w1.heap.size, 0, none⟩ = some (.slice (some ⟨gl, ol, none⟩) ml dl) := by simpa using HC.out.2.2.2.2.cell 0
            have r1 : w8.cell? ⟨w1.heap.size, 1, none⟩ = some (.slice (some ⟨gr, or_, none⟩) mr dr) := by simpa using HC.out.2.2.2.2.cell 1
            have u1 := keepC HC.out.1 hcr2
            clear hAl2 HC
            have HC := HC9
            clear HC9
            go_wp2_with fail
            clear b0 b1 r0 r1 u1
            generalize w8.alloc (.cells #[.slice A1 (Un.ap σ l).length c1, .slice A5 M.length c5, .slice A2 (Un.ap σ r).length c2] 22) = w9 at *
            refine (renumber_any _ 3 _ [Un.ap σ l, M, Un.ap σ r] w9 HRR.out (by omega) hfl).mono ?_
            rintro e w10 ⟨A6, c6, rs, rfl, ho6, hr6, hb10⟩
            rw [HREN.out] at ho6 hr6
            obtain ⟨g6, L1, e1, L2', e2, L3, e3, rfl, hcs, o1, o2, o3, k1, k2, k3, hg6⟩ := rows_three ho6 hr6
            replace HC := Lib.hid (HC.out.on hb10)
            have s10 := hb10.size
            clear hb10 ho6 hr6 HRR HREN
            have ha := hA.out
            generalize Un.ap σ l = a at *
            generalize Un.ap σ r = cc at *
            have hl1 : 1 ≤ (rnR a a).length := by rw [rnR_len]; exact List.length_pos_iff.2 ha
            have hl60 : (rnR a a).length ≤ 60 ∧ (rnR a M).length ≤ 60 ∧ (rnR a cc).length ≤ 60 := by rw [rnR_len, rnR_len, rnR_len]; exact ⟨ha60, hm60, hc60⟩
            have HLO := Lib.hid (lo_many ha)
            have O1 := Lib.hid o1
            have O2 := Lib.hid o2
            have O3 := Lib.hid o3
            have N1 := Lib.hid k1
            have N2 := Lib.hid k2
            have N3 := Lib.hid k3
            obtain ⟨h60a, h60b, h60c⟩ := hl60
            obtain ⟨hcs0, hcs1, hcs2⟩ := hcs
            have hm_ := hm
            have hr_ := hr
            clear o1 o2 o3 k1 k2 k3 hm hr hm_ hr_ ha
            go_wp2_with fail
            refine (slicesMin_any L1 _ e1 (rnR a a) w10 O1.out.ri ⟨hl1, by omega⟩).mono ?_
            rintro e w11 ⟨rfl, hb11⟩
            have HCp := HC
            replace HC := Lib.hid (HC.out.on hb11)
            have s11 := hb11.size
            replace hcs0 := keepC hb11 hcs0
            replace hcs1 := keepC hb11 hcs1
            replace hcs2 := keepC hb11 hcs2
            replace O1 := Lib.hid (O1.out.below hb11)
            replace O2 := Lib.hid (O2.out.below hb11)
            replace O3 := Lib.hid (O3.out.below hb11)
            clear hb11 HCp
            by_cases h24 : 24 < (ord [] a).length
            · have hlo : Pl.lo (rnR a a) < -24 := by have := HLO.out; rw [decide_eq_true h24] at this; exact of_decide_eq_true this
              clear hcs0 hcs1 hcs2 O1 O2 O3
              obtain rfl : pkNo = V := by rw [← HE.out, pkL_no (pkOk_no (.inr (.inr (.inr h24))))]
              have bkP := HC.out.2.2.2.1
              have hB := HC.out.1
              clear HC HE
              have K0 : w11.cell? ⟨w.heap.size + 1, 0, none⟩ = some (.slice none 0 0) := by simpa using bkP.cell 0
              have K1 : w11.cell? ⟨w.heap.size + 1, 1, none⟩ = some (.slice none 0 0) := by simpa using bkP.cell 1
              have K2 : w11.cell? ⟨w.heap.size + 1, 2, none⟩ = some (.slice none 0 0) := by simpa using bkP.cell 2
              have K3 : w11.cell? ⟨w.heap.size + 1, 3, none⟩ = some (.int .i64 0) := by simpa using bkP.cell 3
              have K4 : w11.cell? ⟨w.heap.size + 1, 4, none⟩ = some (.int .i64 0) := by simpa using bkP.cell 4
              have K5 : w11.cell? ⟨w.heap.size + 1, 5, none⟩ = some (.int .i64 0) := by simpa using bkP.cell 5
              have F0 : w11.frozen? ⟨w.heap.size + 1, 0, none⟩ = false := bkP.frozen 0
              have F1 : w11.frozen? ⟨w.heap.size + 1, 1, none⟩ = false := bkP.frozen 1
              have F2 : w11.frozen? ⟨w.heap.size + 1, 2, none⟩ = false := bkP.frozen 2
              have F3 : w11.frozen? ⟨w.heap.size + 1, 3, none⟩ = false := bkP.frozen 3
              have F4 : w11.frozen? ⟨w.heap.size + 1, 4, none⟩ = false := bkP.frozen 4
              have F5 : w11.frozen? ⟨w.heap.size + 1, 5, none⟩ = false := bkP.frozen 5
              have hlt := bkP.lt
              have HK := Lib.hid (blk6 (a' := .slice none 0 0) (b' := .slice none 0 0) (c' := .slice none 0 0) (d' := .int .i64 0) (e' := .int .i64 0) (f' := .int .i64 0) bkP)
              have E3 := below6 (P := w.heap.size + 1) (a := .slice none 0 0) (b := .slice none 0 0) (c := .slice none 0 0) (d := .int .i64 0) (e := .int .i64 0) (f := .int .i64 0) hB (by omega)
              clear bkP hB
              go_wp2_with fail
              have K6 : ∀ i, ((World.setCell (World.setCell (World.setCell (World.setCell (World.setCell (World.setCell w11 ⟨(w.heap.size + 1), 0, none⟩ (.slice none 0 0)) ⟨(w.heap.size + 1), 1, none⟩ (.slice none 0 0)) ⟨(w.heap.size + 1), 2, none⟩ (.slice none 0 0)) ⟨(w.heap.size + 1), 3, none⟩ (.int .i64 0)) ⟨(w.heap.size + 1), 4, none⟩ (.int .i64 0)) ⟨(w.heap.size + 1), 5, none⟩ (.int .i64 0))).cell? ⟨w.heap.size + 1, i, none⟩ = #[.slice none 0 0, .slice none 0 0, .slice none 0 0, .int .i64 0, .int .i64 0, .int .i64 0][i]? := fun i => HK.out.cell i
              generalize (World.setCell (World.setCell (World.setCell (World.setCell (World.setCell (World.setCell w11 ⟨(w.heap.size + 1), 0, none⟩ (.slice none 0 0)) ⟨(w.heap.size + 1), 1, none⟩ (.slice none 0 0)) ⟨(w.heap.size + 1), 2, none⟩ (.slice none 0 0)) ⟨(w.heap.size + 1), 3, none⟩ (.int .i64 0)) ⟨(w.heap.size + 1), 4, none⟩ (.int .i64 0)) ⟨(w.heap.size + 1), 5, none⟩ (.int .i64 0)) = W9 at *
              exact bodyPost_ret (v := .tuple #[.agg #[.slice none 0 0, .slice none 0 0, .slice none 0 0, .int .i64 0, .int .i64 0, .int .i64 0], .bool false]) (by simp [results, Try.results35, go_sem, K6]) rfl (pkR_no E3)
            · have hlo : ¬ Pl.lo (rnR a a) < -24 := by have := HLO.out; rw [decide_eq_false h24] at this; exact of_decide_eq_false this
              obtain rfl : ((rnR a a, rnR a M, rnR a cc), true) = V := by rw [← HE.out, pkL_yes (pkOk_yes ha60 hm60 hc60 (by omega))]
              go_wp2_with fail
              have bkP := HC.out.2.2.2.1
              have hB := HC.out.1
              have K0 : w11.cell? ⟨w.heap.size + 1, 0, none⟩ = some (.slice none 0 0) := by simpa using bkP.cell 0
              have K1 : w11.cell? ⟨w.heap.size + 1, 1, none⟩ = some (.slice none 0 0) := by simpa using bkP.cell 1
              have K2 : w11.cell? ⟨w.heap.size + 1, 2, none⟩ = some (.slice none 0 0) := by simpa using bkP.cell 2
              have K3 : w11.cell? ⟨w.heap.size + 1, 3, none⟩ = some (.int .i64 0) := by simpa using bkP.cell 3
              have K4 : w11.cell? ⟨w.heap.size + 1, 4, none⟩ = some (.int .i64 0) := by simpa using bkP.cell 4
              have K5 : w11.cell? ⟨w.heap.size + 1, 5, none⟩ = some (.int .i64 0) := by simpa using bkP.cell 5
              have F0 : w11.frozen? ⟨w.heap.size + 1, 0, none⟩ = false := bkP.frozen 0
              have F1 : w11.frozen? ⟨w.heap.size + 1, 1, none⟩ = false := bkP.frozen 1
              have F2 : w11.frozen? ⟨w.heap.size + 1, 2, none⟩ = false := bkP.frozen 2
              have F3 : w11.frozen? ⟨w.heap.size + 1, 3, none⟩ = false := bkP.frozen 3
              have F4 : w11.frozen? ⟨w.heap.size + 1, 4, none⟩ = false := bkP.frozen 4
              have F5 : w11.frozen? ⟨w.heap.size + 1, 5, none⟩ = false := bkP.frozen 5
              have hlt := bkP.lt
              have HK := Lib.hid (blk6 (a' := .slice L1 (rnR a a).length e1) (b' := .slice L2' (rnR a M).length e2) (c' := .slice L3 (rnR a cc).length e3) (d' := .int .i64 q) (e' := .int .i64 under) (f' := .int .i64 over) bkP)
              have E3 := below6 (P := w.heap.size + 1) (a := .slice L1 (rnR a a).length e1) (b := .slice L2' (rnR a M).length e2) (c := .slice L3 (rnR a cc).length e3) (d := .int .i64 q) (e := .int .i64 under) (f := .int .i64 over) hB (by omega)
              have hP9 : w.heap.size + 1 < w9.heap.size := by omega
              have Q1 := Lib.hid (oi6 (P := w.heap.size + 1) (a := .slice L1 (rnR a a).length e1) (b := .slice L2' (rnR a M).length e2) (c := .slice L3 (rnR a cc).length e3) (d := .int .i64 q) (e := .int .i64 under) (f := .int .i64 over) O1.out hP9)
              have Q2 := Lib.hid (oi6 (P := w.heap.size + 1) (a := .slice L1 (rnR a a).length e1) (b := .slice L2' (rnR a M).length e2) (c := .slice L3 (rnR a cc).length e3) (d := .int .i64 q) (e := .int .i64 under) (f := .int .i64 over) O2.out hP9)
              have Q3 := Lib.hid (oi6 (P := w.heap.size + 1) (a := .slice L1 (rnR a a).length e1) (b := .slice L2' (rnR a M).length e2) (c := .slice L3 (rnR a cc).length e3) (d := .int .i64 q) (e := .int .i64 under) (f := .int .i64 over) O3.out hP9)
              have hgne : ¬ g6 = w.heap.size + 1 := by omega
              have E3' := Lib.hid E3
              clear bkP hB HC O1 O2 O3 E3 HE
              go_region
              have K6 : ∀ i, ((World.setCell (World.setCell (World.setCell (World.setCell (World.setCell (World.setCell w11 ⟨(w.heap.size + 1), 0, none⟩ (.slice L1 (rnR a a).length e1)) ⟨(w.heap.size + 1), 1, none⟩ (.slice L2' (rnR a M).length e2)) ⟨(w.heap.size + 1), 2, none⟩ (.slice L3 (rnR a cc).length e3)) ⟨(w.heap.size + 1), 3, none⟩ (.int .i64 q)) ⟨(w.heap.size + 1), 4, none⟩ (.int .i64 under)) ⟨(w.heap.size + 1), 5, none⟩ (.int .i64 over))).drew.cell? ⟨w.heap.size + 1, i, none⟩ = #[.slice L1 (rnR a a).length e1, .slice L2' (rnR a M).length e2, .slice L3 (rnR a cc).length e3, .int .i64 q, .int .i64 under, .int .i64 over][i]? := fun i => HK.out.drew.cell i
              have Q1' := Lib.hid (oi_drew Q1.out)
              have Q2' := Lib.hid (oi_drew Q2.out)
              have Q3' := Lib.hid (oi_drew Q3.out)
              have E4 := Lib.hid E3'.out.drew
              clear Q1 Q2 Q3 E3' HK
              generalize ((World.setCell (World.setCell (World.setCell (World.setCell (World.setCell (World.setCell w11 ⟨(w.heap.size + 1), 0, none⟩ (.slice L1 (rnR a a).length e1)) ⟨(w.heap.size + 1), 1, none⟩ (.slice L2' (rnR a M).length e2)) ⟨(w.heap.size + 1), 2, none⟩ (.slice L3 (rnR a cc).length e3)) ⟨(w.heap.size + 1), 3, none⟩ (.int .i64 q)) ⟨(w.heap.size + 1), 4, none⟩ (.int .i64 under)) ⟨(w.heap.size + 1), 5, none⟩ (.int .i64 over))).drew = W9 at *
              go_wp2_with fail
              exact bodyPost_ret (v := .tuple #[.agg #[.slice L1 (rnR a a).length e1, .slice L2' (rnR a M).length e2, .slice L3 (rnR a cc).length e3, .int .i64 q, .int .i64 under, .int .i64 over], .bool true]) (by simp [results, Try.results35, go_sem, K6]) rfl (pkR_yes rfl rfl rfl (Q1'.out.base (by omega)) (Q2'.out.base (by omega)) (Q3'.out.base (by omega)) N1.out N2.out N3.out E4.out)
end Go.Proofs.Ytcjgcopkeeiicaa
