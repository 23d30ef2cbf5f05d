/- Contracts: places in terms with variables of any number. -/
import Derived.Test.YtcjgcopkeeiicaaRoot
import Derived.Test.YtcjgcopkeeiicaaArgs
import Derived.Test.YtcjgcopkeeiicaaSub
import Derived.Deep.RegionHeld3
namespace Go.Proofs.Ytcjgcopkeeiicaa
open Go.RowKit
set_option linter.unusedVariables false
set_option linter.unusedSimpArgs false

/-- The signature, read in a world of which block G alone has been written since w0. -/
def SG (w0 : World) (G : Nat) (A : Option Addr) (n : Nat) (xs : List Int) : Prop := RI w0 A n xs ∧ (0 < n → ∀ a, A = some a → a.block ≠ G)
theorem SG.ri {w0 w : World} {G : Nat} {A : Option Addr} {n : Nat} {xs : List Int} (h : SG w0 G A n xs) (ho : Only G (G + 1) w0 w) : RI w A n xs := ri_only h.1 h.2 ho
theorem nxt_ar (xs : List Int) : Un.Ar (Pl.nxt xs) := fun v hv => by unfold Pl.nxt; rw [if_pos hv]
theorem tm_known {f : Int → Int} {t : List Int} (h : Un.Tm f t) {p : Nat} (hp : p < t.length) : 0 ≤ f (t.getD p 0) := Pl.run_known h hp
theorem nxt_lt {xs : List Int} {x : Int} (h : 0 ≤ Pl.nxt xs x) : x < xs.length := Int.lt_of_not_ge fun h0 => by rw [nxt_big h0] at h; omega
theorem nxt_sym {xs : List Int} {x : Int} (h0 : 0 ≤ x) (h : x < xs.length) : Pl.nxt xs x = xs.getD x.toNat 0 := by unfold Pl.nxt; rw [if_pos h, if_neg (by omega)]
/-- A part of a term's slice reads as the subterm. -/
theorem sv_part {w0 : World} {G g off c : Nat} {f : Int → Int} {t : List Int} {p : Nat} (h : RI w0 (some ⟨g, off, none⟩) t.length t) (hg : g ≠ G) (h1 : t.length ≤ c) (h2 : c ≤ 9223372036854775807) (h3 : t.length ≤ 60) (hT : Un.Tm f t) (hp : p < t.length) (k : Nat) (hk : k = Pl.fin f t p - p) (c' : Nat) (hc : c' = c - p) : SV w0 G (.slice (some ⟨g, off + p, none⟩) k c') (Pl.sub f t p) := by
  obtain ⟨_, a2, a3, _⟩ := Pl.fin_of hT hp
  subst hk hc
  exact SV.mk_ (ri_part h p (Pl.fin f t p) (by omega) a3) hg (by omega) (by omega) (by omega) (by omega)
theorem rest_start {f : Int → Int} {t : List Int} (hT : Un.Tm f t) {p : Nat} (hp : p < t.length) : Rest f t (Pl.fin f t p) (Pl.args f t p) [] (f (t.getD p 0)).toNat (p + 1) := by
  obtain ⟨a1, a2, a3, a4⟩ := Pl.args_start hT hp
  exact ⟨rfl, a2, a3, a4⟩
theorem endAt_w (A : Option Addr) (n c : Nat) (xs : List Int) (B : Option Addr) (m d : Nat) (t : List Int) (p : Nat) (w : World)
    (h : RI w A n xs) (h' : RI w B m t) (hs : Pl.sigOk xs = true) (hT : Un.Tm (Pl.nxt xs) t) (hp : p < m) (hm : m ≤ 1048576) :
    Calls Try.prog 68 #[.agg #[.slice A n c], .slice B m d, .int .i64 p] w fun e w' => e = .returned (.int .i64 (Pl.fin (Pl.nxt xs) t p : Nat)) ∧ Below w.heap.size w w' := by
  have hs' := (Pl.sigOk_iff.1 hs).1
  rw [h.1] at hs'
  rw [← (Pl.fin_of hT (by rw [h'.1]; exact hp)).1]
  exact endAt_any A n c xs B m d t p w h h' (by omega) hm hs (by omega)
set_option maxHeartbeats 400000 in
theorem subAt_w (f : Int → Int) (w0 : World) (G : Nat) (A : Option Addr) (n c : Nat) (xs : List Int) (v : Value) (t : List Int) (p : Nat) (w : World) (hf : f = Pl.nxt xs)
    (h : SG w0 G A n xs) (hv : SV w0 G v t) (ho : Only G (G + 1) w0 w) (hs : Pl.sigOk xs = true) (hT : Un.Tm f t) (hp : p < t.length) :
    Calls Try.prog 65 #[.agg #[.slice A n c], v, .int .i64 p] w fun e w' => ∃ v', e = .returned v' ∧ SV w0 G v' (Pl.sub f t p) ∧ Below w.heap.size w w' := by
  subst hf
  obtain ⟨g, off, d, rfl, hri, hg, h1, h2, h3, h4⟩ := hv.some_ (by intro e; rw [e] at hp; simp at hp)
  obtain ⟨_, a2, a3, _⟩ := Pl.fin_of hT hp
  have HP := Lib.hid (sv_part (p := p) hri hg h1 h2 h3 hT hp _ rfl _ rfl)
  have HT := Lib.hid hT
  have HS := Lib.hid hs
  have hr := h.ri ho
  have hr' := ri_only hri (fun _ a ha => by injection ha with ha; subst ha; exact hg) ho
  clear hT hs
  generalize hF : Pl.fin (Pl.nxt xs) t p = F at *
  have HF := Lib.hid hF
  clear hF
  have e0 : (0 : Int) ≤ p := by omega
  have e1 : (p : Int) ≤ F := by omega
  have e2 : (F : Int) ≤ d := by omega
  go_enter Try.func65, Try.ntmps65
  go_wp2_with fail
  refine (endAt_w A n c xs _ _ d t p _ (hr.alloc _) (hr'.alloc _) HS.out HT.out hp (by omega)).mono ?_
  rintro e w1 ⟨rfl, hb1⟩
  have hB : Below w.heap.size w w1 := below_then ((Below.refl _ _).alloc (Nat.le_refl _) _) hb1 (by simp)
  rw [HF.out]
  go_wp2_with fail
  go_ret
  exact ⟨_, rfl, HP.out, hB⟩
set_option maxHeartbeats 2000000 in
set_option maxRecDepth 20000 in
theorem argsAt_w (f : Int → Int) (w0 : World) (G : Nat) (A : Option Addr) (n c : Nat) (xs : List Int) (v : Value) (t : List Int) (w : World) (hf : f = Pl.nxt xs)
    (hsg : SG w0 G A n xs) (hv : SV w0 G v t) (ho : Only G (G + 1) w0 w) (hs : Pl.sigOk xs = true) (hT : Un.Tm f t) :
    Calls Try.prog 81 #[.agg #[.slice A n c], v, .int .i64 0] w fun e w' => ∃ A' c', e = .returned (.slice A' (Pl.args f t 0).length c') ∧ OJ w' w.heap.size A' (Pl.args f t 0).length c' (nats (Pl.args f t 0)) ∧ Below w.heap.size w w' := by
  subst hf
  obtain ⟨i0, hi, hz0, hz1, hz2⟩ := info_parts infoInt
  have hp := hT.pos
  obtain ⟨g, off, d, rfl, hri, hg, h1, h2, h3, h4⟩ := hv.some_ (by intro e; rw [e] at hp; simp at hp)
  have h := hsg.ri ho
  have h' := ri_only hri (fun _ a ha => by injection ha with ha; subst ha; exact hg) ho
  have hst := Lib.hid (rest_start hT (p := 0) (by omega))
  have hal : (Pl.args (Pl.nxt xs) t 0).length ≤ 3 := by unfold Pl.args; rw [Pl.argsFrom_length]; have := Pl.nxt_bd hs (t.getD 0 0); omega
  have hbd := Pl.nxt_bd hs (t.getD 0 0)
  have ha0 := tm_known hT (p := 0) (by omega)
  have HT := Lib.hid hT
  have HS := Lib.hid hs
  clear hT hs
  generalize hL : Pl.args (Pl.nxt xs) t 0 = L at *
  have HL := Lib.hid hL
  clear hL
  obtain ⟨g', off', x, hA, hc, hx⟩ := h'.at_ (k := 0) (by omega)
  injection hA with hA
  injection hA with hA1 hA2
  subst hA1 hA2
  rw [Nat.add_zero] at hc
  rw [← hx.out] at hst hbd ha0
  have hxn : x < (n : Int) := by rw [← h.1]; exact nxt_lt ha0
  generalize hm : t.length = m at *
  have HM := Lib.hid hm
  clear hm
  have hi1 : 0 < m := by omega
  go_enter Try.func81, Try.ntmps81
  go_wp2_with fail
  have W0b : Below w.heap.size w (w.alloc (.cells #[.slice A n c] 30)) := (Below.refl _ _).alloc (Nat.le_refl _) _
  have hbox : (w.alloc (.cells #[.slice A n c] 30)).cell? ⟨w.heap.size, 0, none⟩ = some (.slice A n c) := by simp
  have hc0 := keepC W0b hc
  have hO : OJ (w.alloc (.cells #[.slice A n c] 30)) (w.heap.size + 1) none 0 0 [] := World.ownsRow_nil _ _ _ _
  have HO := Lib.hid hO
  have hsz : w.heap.size < (w.alloc (.cells #[.slice A n c] 30)).heap.size := by simp
  clear hO
  generalize w.alloc (.cells #[.slice A n c] 30) = W0 at *
  go_region_held3 (fun w' => Below W0.heap.size W0 w' ∧ w'.cell? ⟨w.heap.size, 0, none⟩ = some (.slice A n c) ∧ w'.cell? ⟨g, off, none⟩ = some (.int .i64 x))
    (first | exact ⟨(Below.refl _ _).drew, hbox, hc0⟩ | exact keepS2 hb1 (by assumption))
    ((go_at_call 83; refine (arityAt_any A n c xs x _ ?_ hxn).mono ?_; exact riS (h.below W0b) (by assumption); rintro e w1 ⟨rfl, hb1⟩))
  rename_i hS
  obtain ⟨hbA, hbx1, _⟩ := hS
  have hB1 : Below w.heap.size w w1 := below_then W0b hbA (Nat.le_of_lt hsz)
  have HO1 : Hid (OJ w1 (w.heap.size + 1) none 0 0 []) := ownsRow_below HO.out hbA
  have hsz1 : w.heap.size < w1.heap.size := by have := hbA.size; omega
  obtain ⟨r, hr⟩ : ∃ r : Nat, Pl.nxt xs x = r := ⟨(Pl.nxt xs x).toNat, by omega⟩
  rw [hr, Int.toNat_natCast] at hst
  rw [hr]
  have hr3 : r ≤ 3 := by omega
  clear hbA hb1 W0b hc0 hr hbd ha0 HO hbox hc
  go_wp2_with fail
  go_loopw [7, 8, 9] (fun u v k wr => ∃ (done : List Nat) (r q : Nat) (A' : Option Addr) (c' : Nat), u = .slice A' done.length c' ∧ v = .int .i64 q ∧ k = .int .i64 r ∧ Hid (Rest (Pl.nxt xs) t (Pl.fin (Pl.nxt xs) t 0) L done r q) ∧ Hid (OJ wr (w.heap.size + 1) A' done.length c' (nats done)) ∧ Below w.heap.size w wr ∧ wr.cell? ⟨w.heap.size, 0, none⟩ = some (.slice A n c) ∧ w.heap.size < wr.heap.size) (fun _ _ k _ => (intOf k).toNat)
  case atStart => exact ⟨[], r, 0 + 1, _, _, rfl, by go_num, rfl, hst, HO1, hB1, hbx1, hsz1⟩
  case round =>
    obtain ⟨done, r, q, A', c', rfl, rfl, rfl, hrest, ho', hb, hbx, hsz⟩ := hrel
    have hlen : done.length + r ≤ 3 := by have := hrest.out.len; omega
    cases r with
    | zero =>
      have hd := Lib.hid hrest.out.done_
      go_wp2
      go_ret
      rw [← hd.out]
      exact ⟨A', c', rfl, ownsRow_base ho'.out (by omega), hb⟩
    | succ r =>
      have hst' := hrest.out.step
      have hq := hst'.1
      rw [HM.out] at hq
      have HR := Lib.hid hst'.2
      clear hst'
      have hq0 : (0 : Int) ≤ (q : Int) := by omega
      have howa := Lib.hid (ownsRow_below ho'.out ((Below.refl _ wr).alloc (Nat.le_refl _) (.cells #[.int .i64 q] 3)))
      go_wp2_with (at_builtin; refine wpList_append_any rfl _ _ 57 rfl (w.heap.size + 1) 3 i0 (.int .i64 0) 1 8 Try.underlying57 hi hz0 hz1 hz2 rfl (by omega) A' done.length c' ((nats done).map (Value.int .i64)) rfl howa.out _ 1 _ [.int .i64 q] rfl (Src.new _ [.int .i64 q] _ 1 1 rfl (by simp [Value.oneCell'])) (by unfold maxLen; omega) (by omega) (by simp; omega) ?_; intro A2 c2 w2 ho2 hg hnil; (have hgb := app_below hg howa.out (by omega)); (have hbx2 := (hgb.cell (p := ⟨w.heap.size, 0, none⟩) (by simp)).trans hbx))
      have hb2 := hb.trans (hgb.mono (by omega))
      have hO2 := Lib.hid (oj_nats ho2)
      refine (endAt_w A n c xs _ _ d t q _ (h.below hb2) (h'.below hb2) HS.out HT.out hq (by omega)).mono ?_
      rintro e w3 ⟨rfl, hb3⟩
      have hb4 := below_then hb2 hb3 hb2.size
      have hbx3 := keepC hb3 hbx2
      have hO3 : Hid (OJ w3 (w.heap.size + 1) A2 (done ++ [q]).length c2 (nats (done ++ [q]))) := ownsRow_below hO2.out hb3
      have hsz3 : w.heap.size < w3.heap.size := by have := hgb.size; have := hb3.size; omega
      clear hO2 hb2 hbx2 hgb howa ho' ho2 hg hb hbx
      go_wp2_with fail
      go_roundw
      case rel => exact ⟨done ++ [q], r, _, A2, c2, by simp, rfl, by go_num, HR, hO3, hb4, hbx3, hsz3⟩
      case measure => simp [intOf]
end Go.Proofs.Ytcjgcopkeeiicaa
/-! Contracts: the reference's ends and parts of terms with variables of any number. -/

namespace Go.Proofs.Ytcjgcopkeeiicaa
open Go.RowKit
set_option linter.unusedVariables false
set_option linter.unusedSimpArgs false

theorem below_undrewN {w w' : World} {n : Nat} (h : Below (w.drewN n).heap.size (w.drewN n) w') : Below w.heap.size w w' := ⟨h.os, h.tape, h.output, h.size, h.block⟩
/-- What is still to be read of a term. -/
def Togo (f : Int → Int) (t : List Int) (F k q : Nat) : Prop := Pl.run f q (t.drop k) = some (F - k) ∧ k ≤ F ∧ F ≤ t.length
theorem Togo.start {f : Int → Int} {t : List Int} (hT : Un.Tm f t) {p : Nat} (hp : p < t.length) : Togo f t (Pl.fin f t p) p 1 := by
  obtain ⟨_, a2, a3, a4⟩ := Pl.fin_of hT hp
  exact ⟨a4, by omega, a3⟩
theorem Togo.done {f : Int → Int} {t : List Int} {F k : Nat} (h : Togo f t F k 0) : k = F := by
  obtain ⟨h1, h2, h3⟩ := h
  rw [Pl.run_zero] at h1
  injection h1 with h1
  omega
theorem Togo.step {f : Int → Int} {t : List Int} {F k q : Nat} (h : Togo f t F k (q + 1)) : k < t.length ∧ 0 ≤ f (t.getD k 0) ∧ Togo f t F (k + 1) (q + (f (t.getD k 0)).toNat) := by
  obtain ⟨h1, h2, h3⟩ := h
  have hl := Pl.run_le h1
  rw [List.length_drop] at hl
  have hk : k < t.length := by omega
  rw [run_step hk] at h1
  by_cases h0 : f (t.getD k 0) < 0
  · rw [if_pos h0] at h1; cases h1
  · rw [if_neg h0] at h1
    simp only [Option.map_eq_some_iff] at h1
    obtain ⟨j, hj, hj2⟩ := h1
    refine ⟨hk, by omega, ?_, by omega, h3⟩
    rw [hj]; congr 1; omega
theorem Togo.bd {f : Int → Int} {t : List Int} {F k q : Nat} (h : Togo f t F k q) : q ≤ t.length ∧ k ≤ F := by
  have := Pl.run_le h.1
  have := h.2
  omega
set_option maxHeartbeats 1000000 in
theorem l13End_w (f : Int → Int) (w0 : World) (G : Nat) (A : Option Addr) (n c : Nat) (xs : List Int) (v : Value) (t : List Int) (p : Nat) (w : World) (hf : f = Pl.nxt xs)
    (hsg : SG w0 G A n xs) (hv : SV w0 G v t) (ho : Only G (G + 1) w0 w) (hs : Pl.sigOk xs = true) (hT : Un.Tm f t) (hp : p < t.length) :
    Calls Try.prog 48 #[.agg #[.slice A n c], v, .int .i64 p] w fun e w' => e = .returned (.int .i64 (Pl.fin f t p : Nat)) ∧ Below w.heap.size w w' := by
  subst hf
  obtain ⟨g, off, d, rfl, hri, hg, h1, h2, h3, h4⟩ := hv.some_ (by intro e; rw [e] at hp; simp at hp)
  have h := hsg.ri ho
  have h' := ri_only hri (fun _ a ha => by injection ha with ha; subst ha; exact hg) ho
  have hst := Lib.hid (Togo.start hT hp)
  have HS := Lib.hid hs
  have HN := Lib.hid h.1
  clear hT hs
  generalize hF : Pl.fin (Pl.nxt xs) t p = F at *
  have HF := Lib.hid hF
  clear hF
  go_enter Try.func48, Try.ntmps48
  go_wp2_with fail
  have hbox : (w.alloc (.cells #[.slice A n c] 30)).cell? ⟨w.heap.size, 0, none⟩ = some (.slice A n c) := by simp
  have hB0 : Below w.heap.size w (w.alloc (.cells #[.slice A n c] 30)) := (Below.refl _ _).alloc (Nat.le_refl _) _
  generalize w.alloc (.cells #[.slice A n c] 30) = W0 at *
  go_loopw [2, 7] (fun u v wr => ∃ k q : Nat, u = .int .i64 k ∧ v = .int .i64 q ∧ Hid (Togo (Pl.nxt xs) t F k q) ∧ Below w.heap.size w wr ∧ wr.cell? ⟨w.heap.size, 0, none⟩ = some (.slice A n c)) (fun u _ _ => t.length - (intOf u).toNat)
  case atStart => exact ⟨p, 1, rfl, rfl, hst, hB0, hbox⟩
  case round =>
    obtain ⟨k, q, rfl, rfl, hg0, hb, hbx⟩ := hrel
    cases q with
    | zero =>
      have hd := Lib.hid hg0.out.done
      go_wp2
      go_ret
      exact ⟨ret_int (by rw [hd.out]), hb⟩
    | succ q =>
      obtain ⟨hlt, hx0, hst2⟩ := hg0.out.step
      have hbq := hg0.out.bd
      obtain ⟨g', off', x, hA, hc, hx⟩ := (h'.below hb).at_ hlt
      injection hA with hA
      injection hA with hA1 hA2
      subst hA1 hA2
      rw [← hx.out] at hst2 hx0
      have hxbd := Pl.nxt_bd HS.out x
      obtain ⟨r, hr⟩ : ∃ r : Nat, Pl.nxt xs x = r := ⟨(Pl.nxt xs x).toNat, by omega⟩
      rw [hr, Int.toNat_natCast] at hst2
      have hr3 : r ≤ 3 := by omega
      have hxn := nxt_lt hx0
      rw [HN.out] at hxn
      have HT2 := Lib.hid hst2
      have hk0 : (0 : Int) ≤ (k : Int) := by omega
      have hk1 : (k : Int) < (t.length : Int) := by omega
      clear hst2 hx0 hxbd
      by_cases hxs : x < 0
      · have hz : r = 0 := by
          have : Pl.nxt xs x = 0 := nxt_ar xs x hxs
          omega
        subst hz
        clear hr
        go_wp2
        go_roundw
        case rel => exact ⟨k + 1, q, by go_num, by go_num, by have := HT2.out; rw [Nat.add_zero] at this; exact Lib.hid this, hb, hbx⟩
        case measure => simp [intOf]; omega
      · obtain ⟨y, rfl⟩ : ∃ y : Nat, x = y := ⟨x.toNat, by omega⟩
        have hyn : y < n := by omega
        obtain ⟨gs, offs, z, hA, hcz, hz⟩ := (h.below hb).at_ hyn
        have hzr : z = (r : Int) := by rw [hz.out, ← hr, nxt_sym (by omega) (by rw [HN.out]; omega), Int.toNat_natCast]
        subst hA hzr
        have hy0 : (0 : Int) ≤ (y : Int) := by omega
        have e1 : IntKind.i64.wrap ((q : Int) + 1 + r) = (q : Int) + 1 + r := IntWalk.i64_in _ (by omega)
        have e2 : IntKind.i64.wrap ((q : Int) + 1 + r - 1) = ((q + r : Nat) : Int) := (IntWalk.i64_in _ (by omega)).trans (by omega)
        clear hr
        go_wp2
        go_quiet (fail)
        go_wp2
        go_roundw
        case rel => exact ⟨k + 1, q + r, by go_num, by go_num, HT2, below_drewN hb _, hbx⟩
        case measure => simp [intOf]; omega
/-- A row of terms' slices. -/
def Stk (w0 w : World) (G lo : Nat) (A : Option Addr) (c : Nat) (L : List (List Int)) : Prop :=
  ∃ vs : List Value, vs.length = L.length ∧ w.ownsRow lo 22 1 (.slice A L.length c) L.length vs ∧ ∀ i, i < L.length → SV w0 G (vs.getD i .nilFunc) (L.getD i [])
section
variable {w0 w w' : World} {G lo : Nat} {A : Option Addr} {c : Nat} {L : List (List Int)}
theorem Stk.below (h : Stk w0 w G lo A c L) (hb : Below w.heap.size w w') : Stk w0 w' G lo A c L := by
  obtain ⟨vs, h1, h2, h3⟩ := h
  exact ⟨vs, h1, ownsRow_below h2 hb, h3⟩
theorem Stk.base (h : Stk w0 w G lo A c L) {lo' : Nat} (hl : lo' ≤ lo) : Stk w0 w G lo' A c L := by
  obtain ⟨vs, h1, h2, h3⟩ := h
  exact ⟨vs, h1, ownsRow_base h2 hl, h3⟩
theorem Stk.mk_ {vs ws : List Value} {M : List (List Int)} {k : Nat} (hk : k = L.length + M.length) (h1 : vs.length = L.length) (h2 : ws.length = M.length) (ho : w.ownsRow lo 22 1 (.slice A k c) k (vs ++ ws))
    (h3 : ∀ i, i < L.length → SV w0 G (vs.getD i .nilFunc) (L.getD i [])) (h4 : ∀ i, i < M.length → SV w0 G (ws.getD i .nilFunc) (M.getD i [])) : Stk w0 w G lo A c (L ++ M) := by
  subst hk
  refine ⟨vs ++ ws, by simp [h1, h2], by rw [List.length_append]; exact ho, fun i hi => ?_⟩
  rw [List.length_append] at hi
  simp only [List.getD_eq_getElem?_getD]
  by_cases hl : i < L.length
  · rw [List.getElem?_append_left (by omega), List.getElem?_append_left hl]
    have := h3 i hl
    simpa only [List.getD_eq_getElem?_getD] using this
  · rw [List.getElem?_append_right (by omega), List.getElem?_append_right (by omega), h1]
    have := h4 (i - L.length) (by omega)
    simpa only [List.getD_eq_getElem?_getD] using this
end
theorem infoSliceW : (Try.prog.info? 22).map (fun i => (i.zero, i.size, i.bytes)) = some (some (.slice none 0 0), 1, 24) := by kernel_rfl
theorem sv_one {w0 : World} {G : Nat} {v : Value} {t : List Int} (h : SV w0 G v t) : v.oneCell' = true := by
  obtain ⟨A, n, c, rfl, _⟩ := h
  simp [Value.oneCell']
set_option maxHeartbeats 2000000 in
set_option maxRecDepth 20000 in
theorem l13Parts_w (f : Int → Int) (w0 : World) (G : Nat) (A : Option Addr) (n c : Nat) (xs : List Int) (v : Value) (t : List Int) (w : World) (hf : f = Pl.nxt xs)
    (hsg : SG w0 G A n xs) (hv : SV w0 G v t) (ho : Only G (G + 1) w0 w) (hs : Pl.sigOk xs = true) (hT : Un.Tm f t) (hh : ¬ Un.hd t < 0) :
    Calls Try.prog 73 #[.agg #[.slice A n c], v] w fun e w' => ∃ A' c', e = .returned (.slice A' (Un.parts f t).length c') ∧ Stk w0 w' G w.heap.size A' c' (Un.parts f t) ∧ Below w.heap.size w w' := by
  subst hf
  obtain ⟨i0, hi, hz0, hz1, hz2⟩ := info_parts infoSliceW
  have hp := hT.pos
  obtain ⟨g, off, d, rfl, hri, hg, h1, h2, h3, h4⟩ := hv.some_ (by intro e; rw [e] at hp; simp at hp)
  have h := hsg.ri ho
  have h' := ri_only hri (fun _ a ha => by injection ha with ha; subst ha; exact hg) ho
  have hst := Lib.hid (rest_start hT (p := 0) (by omega))
  have hal : (Pl.args (Pl.nxt xs) t 0).length ≤ 3 := by unfold Pl.args; rw [Pl.argsFrom_length]; have := Pl.nxt_bd hs (t.getD 0 0); omega
  have hbd := Pl.nxt_bd hs (t.getD 0 0)
  have ha0 := tm_known hT (p := 0) (by omega)
  have HP := Lib.hid (show Un.parts (Pl.nxt xs) t = (Pl.args (Pl.nxt xs) t 0).map (Pl.sub (Pl.nxt xs) t) from rfl)
  have HPL := Lib.hid (show (Un.parts (Pl.nxt xs) t).length = (Pl.args (Pl.nxt xs) t 0).length by unfold Un.parts; rw [List.length_map])
  have hpart : ∀ q, q < t.length → ∀ k, k = Pl.fin (Pl.nxt xs) t q - q → ∀ c', c' = d - q → SV w0 G (.slice (some ⟨g, off + q, none⟩) k c') (Pl.sub (Pl.nxt xs) t q) := fun q hq k hk c' hc' => sv_part hri hg h1 h2 h3 hT hq k hk c' hc'
  have HPT := Lib.hid hpart
  have HFO := Lib.hid (fun q (hq : q < t.length) => Pl.fin_of hT hq)
  have HT := Lib.hid hT
  have HS := Lib.hid hs
  have HN := Lib.hid h.1
  clear hT hs hpart
  generalize hL : Pl.args (Pl.nxt xs) t 0 = L at *
  generalize Un.parts (Pl.nxt xs) t = PA at *
  have HL := Lib.hid hL
  clear hL
  obtain ⟨g', off', x, hA, hc, hx⟩ := h'.at_ (k := 0) (by omega)
  injection hA with hA
  injection hA with hA1 hA2
  subst hA1 hA2
  rw [Nat.add_zero] at hc
  rw [← hx.out] at hst hbd ha0
  have hxn : x < (n : Int) := by rw [← h.1]; exact nxt_lt ha0
  have hxx : ¬ x < 0 := by rw [hx.out]; exact hh
  obtain ⟨y, rfl⟩ : ∃ y : Nat, x = y := ⟨x.toNat, by omega⟩
  have hyn : y < n := by omega
  obtain ⟨r, hr⟩ : ∃ r : Nat, Pl.nxt xs y = r := ⟨(Pl.nxt xs y).toNat, by omega⟩
  rw [hr, Int.toNat_natCast] at hst
  obtain ⟨gs, offs, z, hA, hcz, hz⟩ := h.at_ hyn
  have hzr : z = (r : Int) := by rw [hz.out, ← hr, nxt_sym (by omega) (by rw [HN.out]; omega), Int.toNat_natCast]
  subst hA hzr
  have hLr : r = L.length := by have := hst.out.len; simpa using this
  have hy0 : (0 : Int) ≤ (y : Int) := by omega
  have hne : t ≠ [] := by intro e; rw [e] at hp; simp at hp
  generalize hm : t.length = m at *
  have HM := Lib.hid hm
  have hm0 : 0 < m := by omega
  clear hm hr hxx hh hx hz hbd ha0
  have hB0 : Below w.heap.size w ((w.alloc (.cells #[.slice (some ⟨gs, offs, none⟩) n c] 30)).alloc (.cells #[] 22)) := ((Below.refl _ _).alloc (Nat.le_refl _) _).alloc (by simp) _
  have hc1 := keepC hB0 hc
  go_enter Try.func73, Try.ntmps73
  go_wp2_with fail
  have hbox : ((w.alloc (.cells #[.slice (some ⟨gs, offs, none⟩) n c] 30)).alloc (.cells #[] 22)).cell? ⟨w.heap.size, 0, none⟩ = some (.slice (some ⟨gs, offs, none⟩) n c) := by simp
  have hrow : ((w.alloc (.cells #[.slice (some ⟨gs, offs, none⟩) n c] 30)).alloc (.cells #[] 22)).ownsRow (w.heap.size + 1) 22 1 (.slice (some ⟨w.heap.size + 1, 0, none⟩) 0 0) 0 [] := by
    have := World.ownsRow_lit (e := 22) (size := 1) (w.alloc (.cells #[.slice (some ⟨gs, offs, none⟩) n c] 30)) #[] 0 (Nat.le_refl _) (by simp [maxLen]) rfl
    simpa only [World.size_alloc] using this
  have HR0 := Lib.hid hrow
  have hsz : w.heap.size + 1 < ((w.alloc (.cells #[.slice (some ⟨gs, offs, none⟩) n c] 30)).alloc (.cells #[] 22)).heap.size := by simp
  clear hrow hc1
  generalize (w.alloc (.cells #[.slice (some ⟨gs, offs, none⟩) n c] 30)).alloc (.cells #[] 22) = W0 at *
  go_loopw [5, 6, 7] (fun u v k wr => ∃ (done : List Nat) (rr q : Nat) (A' : Option Addr) (c' : Nat) (vs : List Value), u = .slice A' done.length c' ∧ v = .int .i64 q ∧ k = .int .i64 done.length ∧ Hid (Rest (Pl.nxt xs) t (Pl.fin (Pl.nxt xs) t 0) L done rr q) ∧ Hid (vs.length = done.length) ∧ Hid (wr.ownsRow (w.heap.size + 1) 22 1 (.slice A' done.length c') done.length vs) ∧ Hid (∀ i, i < done.length → SV w0 G (vs.getD i .nilFunc) (Pl.sub (Pl.nxt xs) t (done.getD i 0))) ∧ Below w.heap.size w wr ∧ wr.cell? ⟨w.heap.size, 0, none⟩ = some (.slice (some ⟨gs, offs, none⟩) n c) ∧ w.heap.size + 1 < wr.heap.size) (fun _ _ k _ => L.length - (intOf k).toNat)
  case atStart => exact ⟨[], r, 0 + 1, _, _, [], rfl, by go_num, rfl, hst, Lib.hid rfl, HR0, Lib.hid (fun i hi => by simp at hi), hB0, hbox, hsz⟩
  case round =>
    obtain ⟨done, rr, q, A', c', vs, rfl, rfl, rfl, hrest, hvl, hown, hsvs, hb, hbx, hsz⟩ := hrel
    have hlen := hrest.out.len
    have hcr := keepC hb hc
    have hczr := keepC hb hcz
    have hd0 : (0 : Int) ≤ (done.length : Int) := by omega
    cases rr with
    | zero =>
      have hd := Lib.hid hrest.out.done_
      have dlt : ¬ (done.length : Int) < (r : Int) := by omega
      have dlt2 : decide (done.length < r) = false := by simp; omega
      go_wp2
      go_quiet (fail)
      go_wp2
      go_ret
      refine ⟨A', c', by rw [HPL.out, ← hd.out]; rfl, ?_, below_drewN hb _⟩
      have hpd : PA = done.map (Pl.sub (Pl.nxt xs) t) := by rw [HP.out, hd.out]
      have hpl : PA.length = done.length := by rw [hpd, List.length_map]
      refine Stk.base (lo := w.heap.size + 1) ⟨vs, by rw [hpl, hvl.out], by rw [hpl]; exact hown.out, fun i hi => ?_⟩ (by omega)
      rw [hpl] at hi
      have := hsvs.out i hi
      rw [hpd]
      simpa [List.getD_eq_getElem?_getD, hi] using this
    | succ rr =>
      have hst' := hrest.out.step
      have hq := hst'.1
      rw [HM.out] at hq
      have HR := Lib.hid hst'.2
      clear hst'
      have dlt : (done.length : Int) < (r : Int) := by omega
      have dlt2 : decide (done.length < r) = true := by simp; omega
      go_wp2
      go_quiet (fail)
      go_wp2_with fail
      have hbn := below_drewN hb nq
      refine (l13End_w _ w0 G _ n c xs _ t q _ rfl hsg hv ((ho.trans (Only.of hb)).trans (Only.of (below_drewN (Below.refl _ _) nq))) HS.out HT.out (by rw [HM.out]; exact hq)).mono ?_
      rintro e w3 ⟨rfl, hb3⟩
      have hb3' : Below wr.heap.size wr w3 := below_undrewN hb3
      obtain ⟨_, f2, f3, _⟩ := HFO.out q hq
      have HSV := Lib.hid (HPT.out q hq (Pl.fin (Pl.nxt xs) t q - q) rfl (d - q) rfl)
      generalize Pl.fin (Pl.nxt xs) t q = F at *
      have q0 : (0 : Int) ≤ (q : Int) := by omega
      have q1 : (q : Int) ≤ (F : Int) := by omega
      have q2 : (F : Int) ≤ (d : Int) := by omega
      have hB3 := below_then hb hb3' hb.size
      have hbx3 := keepC hb3' hbx
      have hsz3 : w.heap.size + 1 < w3.heap.size := by have := hb3'.size; omega
      have howa := Lib.hid (ownsRow_below hown.out (hb3'.trans ((Below.refl _ w3).alloc hb3'.size (.cells #[.slice (some ⟨g, off + q, none⟩) (F - q) (d - q)] 22))))
      have hone := Lib.hid (sv_one HSV.out)
      have e3 : IntKind.i64.wrap ((done.length : Int) + 1) = ((done.length + 1 : Nat) : Int) := (IntWalk.i64_in _ (by omega)).trans (by omega)
      clear hb3 hbn hown hb hbx
      go_wp2_with (at_builtin; refine wpList_append_any rfl _ _ 85 rfl (w.heap.size + 1) 22 i0 (.slice none 0 0) 1 24 Try.underlying85 hi hz0 hz1 hz2 rfl (by omega) A' done.length c' vs rfl howa.out _ 1 _ [.slice (some ⟨g, off + q, none⟩) (F - q) (d - q)] rfl (Src.new _ [.slice (some ⟨g, off + q, none⟩) (F - q) (d - q)] _ 1 1 rfl (fun u hu => by obtain rfl := List.mem_singleton.1 hu; exact hone.out)) (by unfold maxLen; omega) (by omega) (by simp; omega) ?_; intro A2 c2 w4 ho4 hg4 hnil; have hgb := app_below hg4 howa.out (by omega); have hbx4 := (hgb.cell (p := ⟨w.heap.size, 0, none⟩) (by simp)).trans hbx3)
      have hB4 := hB3.trans (hgb.mono (by omega))
      have hsz4 := hgb.size
      go_roundw
      case rel =>
        refine ⟨done ++ [q], rr, F, A2, c2, vs ++ [.slice (some ⟨g, off + q, none⟩) (F - q) (d - q)], by simp, rfl, by simp [e3], HR, Lib.hid (by simp [hvl.out]), Lib.hid (by rw [List.length_append]; exact ho4), Lib.hid ?_, hB4, hbx4, by omega⟩
        intro i hi
        rw [List.length_append, List.length_singleton] at hi
        rw [getD_snoc _ _ _ _ (by rw [hvl.out]; exact hi), getD_snoc _ _ _ _ hi, hvl.out]
        by_cases hid_ : i < done.length
        · rw [if_pos hid_, if_pos hid_]; exact hsvs.out i hid_
        · rw [if_neg hid_, if_neg hid_]; exact HSV.out
      case measure => simp [intOf]; omega
end Go.Proofs.Ytcjgcopkeeiicaa
