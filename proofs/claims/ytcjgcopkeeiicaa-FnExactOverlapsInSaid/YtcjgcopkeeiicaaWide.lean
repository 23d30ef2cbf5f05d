/- Contracts: places in terms with variables of any number. -/
import Derived.Test.YtcjgcopkeeiicaaRoot
import Derived.Test.YtcjgcopkeeiicaaArgs
import Derived.Test.YtcjgcopkeeiicaaSub
import Derived.Deep.RegionHeld3
namespace Go.Proofs.Ytcjgcopkeeiicaa
open Go.RowKit
set_option linter.unusedVariables false
set_option linter.unusedSimpArgs false

/-- The signature, read in a world of which block G alone has been written since w0. -/
def SG (w0 : World) (G : Nat) (A : Option Addr) (n : Nat) (xs : List Int) : Prop := RI w0 A n xs ∧ (0 < n → ∀ a, A = some a → a.block ≠ G)
theorem SG.ri {w0 w : World} {G : Nat} {A : Option Addr} {n : Nat} {xs : List Int} (h : SG w0 G A n xs) (ho : Only G (G + 1) w0 w) : RI w A n xs := ri_only h.1 h.2 ho
theorem nxt_ar (xs : List Int) : Un.Ar (Pl.nxt xs) := fun v hv => by unfold Pl.nxt; rw [if_pos hv]
theorem tm_known {f : Int → Int} {t : List Int} (h : Un.Tm f t) {p : Nat} (hp : p < t.length) : 0 ≤ f (t.getD p 0) := Pl.run_known h hp
theorem nxt_lt {xs : List Int} {x : Int} (h : 0 ≤ Pl.nxt xs x) : x < xs.length := Int.lt_of_not_ge fun h0 => by rw [nxt_big h0] at h; omega
theorem nxt_sym {xs : List Int} {x : Int} (h0 : 0 ≤ x) (h : x < xs.length) : Pl.nxt xs x = xs.getD x.toNat 0 := by unfold Pl.nxt; rw [if_pos h, if_neg (by omega)]
/-- A part of a term's slice reads as the subterm. -/
theorem sv_part {w0 : World} {G g off c : Nat} {f : Int → Int} {t : List Int} {p : Nat} (h : RI w0 (some ⟨g, off, none⟩) t.length t) (hg : g ≠ G) (h1 : t.length ≤ c) (h2 : c ≤ 9223372036854775807) (h3 : t.length ≤ 60) (hT : Un.Tm f t) (hp : p < t.length) (k : Nat) (hk : k = Pl.fin f t p - p) (c' : Nat) (hc : c' = c - p) : SV w0 G (.slice (some ⟨g, off + p, none⟩) k c') (Pl.sub f t p) := by
  obtain ⟨_, a2, a3, _⟩ := Pl.fin_of hT hp
  subst hk hc
  exact SV.mk_ (ri_part h p (Pl.fin f t p) (by omega) a3) hg (by omega) (by omega) (by omega) (by omega)
theorem rest_start {f : Int → Int} {t : List Int} (hT : Un.Tm f t) {p : Nat} (hp : p < t.length) : Rest f t (Pl.fin f t p) (Pl.args f t p) [] (f (t.getD p 0)).toNat (p + 1) := by
  obtain ⟨a1, a2, a3, a4⟩ := Pl.args_start hT hp
  exact ⟨rfl, a2, a3, a4⟩
theorem endAt_w (A : Option Addr) (n c : Nat) (xs : List Int) (B : Option Addr) (m d : Nat) (t : List Int) (p : Nat) (w : World)
    (h : RI w A n xs) (h' : RI w B m t) (hs : Pl.sigOk xs = true) (hT : Un.Tm (Pl.nxt xs) t) (hp : p < m) (hm : m ≤ 1048576) :
    Calls Try.prog 68 #[.agg #[.slice A n c], .slice B m d, .int .i64 p] w fun e w' => e = .returned (.int .i64 (Pl.fin (Pl.nxt xs) t p : Nat)) ∧ Below w.heap.size w w' := by
  have hs' := (Pl.sigOk_iff.1 hs).1
  rw [h.1] at hs'
  rw [← (Pl.fin_of hT (by rw [h'.1]; exact hp)).1]
  exact endAt_any A n c xs B m d t p w h h' (by omega) hm hs (by omega)
set_option maxHeartbeats 400000 in
theorem subAt_w (f : Int → Int) (w0 : World) (G : Nat) (A : Option Addr) (n c : Nat) (xs : List Int) (v : Value) (t : List Int) (p : Nat) (w : World) (hf : f = Pl.nxt xs)
    (h : SG w0 G A n xs) (hv : SV w0 G v t) (ho : Only G (G + 1) w0 w) (hs : Pl.sigOk xs = true) (hT : Un.Tm f t) (hp : p < t.length) :
    Calls Try.prog 65 #[.agg #[.slice A n c], v, .int .i64 p] w fun e w' => ∃ v', e = .returned v' ∧ SV w0 G v' (Pl.sub f t p) ∧ Below w.heap.size w w' := by
  subst hf
  obtain ⟨g, off, d, rfl, hri, hg, h1, h2, h3, h4⟩ := hv.some_ (by intro e; rw [e] at hp; simp at hp)
  obtain ⟨_, a2, a3, _⟩ := Pl.fin_of hT hp
  have HP := Lib.hid (sv_part (p := p) hri hg h1 h2 h3 hT hp _ rfl _ rfl)
  have HT := Lib.hid hT
  have HS := Lib.hid hs
  have hr := h.ri ho
  have hr' := ri_only hri (fun _ a ha => by injection ha with ha; subst ha; exact hg) ho
  clear hT hs
  generalize hF : Pl.fin (Pl.nxt xs) t p = F at *
  have HF := Lib.hid hF
  clear hF
  have e0 : (0 : Int) ≤ p := by omega
  have e1 : (p : Int) ≤ F := by omega
  have e2 : (F : Int) ≤ d := by omega
  go_enter Try.func65, Try.ntmps65
  go_wp2_with fail
  refine (endAt_w A n c xs _ _ d t p _ (hr.alloc _) (hr'.alloc _) HS.out HT.out hp (by omega)).mono ?_
  rintro e w1 ⟨rfl, hb1⟩
  have hB : Below w.heap.size w w1 := below_then ((Below.refl _ _).alloc (Nat.le_refl _) _) hb1 (by simp)
  rw [HF.out]
  go_wp2_with fail
  go_ret
  exact ⟨_, rfl, HP.out, hB⟩
set_option maxHeartbeats 2000000 in
set_option maxRecDepth 20000 in
theorem argsAt_w (f : Int → Int) (w0 : World) (G : Nat) (A : Option Addr) (n c : Nat) (xs : List Int) (v : Value) (t : List Int) (w : World) (hf : f = Pl.nxt xs)
    (hsg : SG w0 G A n xs) (hv : SV w0 G v t) (ho : Only G (G + 1) w0 w) (hs : Pl.sigOk xs = true) (hT : Un.Tm f t) :
    Calls Try.prog 81 #[.agg #[.slice A n c], v, .int .i64 0] w fun e w' => ∃ A' c', e = .returned (.slice A' (Pl.args f t 0).length c') ∧ OJ w' w.heap.size A' (Pl.args f t 0).length c' (nats (Pl.args f t 0)) ∧ Below w.heap.size w w' := by
  subst hf
  obtain ⟨i0, hi, hz0, hz1, hz2⟩ := info_parts infoInt
  have hp := hT.pos
  obtain ⟨g, off, d, rfl, hri, hg, h1, h2, h3, h4⟩ := hv.some_ (by intro e; rw [e] at hp; simp at hp)
  have h := hsg.ri ho
  have h' := ri_only hri (fun _ a ha => by injection ha with ha; subst ha; exact hg) ho
  have hst := Lib.hid (rest_start hT (p := 0) (by omega))
  have hal : (Pl.args (Pl.nxt xs) t 0).length ≤ 3 := by unfold Pl.args; rw [Pl.argsFrom_length]; have := Pl.nxt_bd hs (t.getD 0 0); omega
  have hbd := Pl.nxt_bd hs (t.getD 0 0)
  have ha0 := tm_known hT (p := 0) (by omega)
  have HT := Lib.hid hT
  have HS := Lib.hid hs
  clear hT hs
  generalize hL : Pl.args (Pl.nxt xs) t 0 = L at *
  have HL := Lib.hid hL
  clear hL
  obtain ⟨g', off', x, hA, hc, hx⟩ := h'.at_ (k := 0) (by omega)
  injection hA with hA
  injection hA with hA1 hA2
  subst hA1 hA2
  rw [Nat.add_zero] at hc
  rw [← hx.out] at hst hbd ha0
  have hxn : x < (n : Int) := by rw [← h.1]; exact nxt_lt ha0
  generalize hm : t.length = m at *
  have HM := Lib.hid hm
  clear hm
  have hi1 : 0 < m := by omega
  go_enter Try.func81, Try.ntmps81
  go_wp2_with fail
  have W0b : Below w.heap.size w (w.alloc (.cells #[.slice A n c] 30)) := (Below.refl _ _).alloc (Nat.le_refl _) _
  have hbox : (w.alloc (.cells #[.slice A n c] 30)).cell? ⟨w.heap.size, 0, none⟩ = some (.slice A n c) := by simp
  have hc0 := keepC W0b hc
  have hO : OJ (w.alloc (.cells #[.slice A n c] 30)) (w.heap.size + 1) none 0 0 [] := World.ownsRow_nil _ _ _ _
  have HO := Lib.hid hO
  have hsz : w.heap.size < (w.alloc (.cells #[.slice A n c] 30)).heap.size := by simp
  clear hO
  generalize w.alloc (.cells #[.slice A n c] 30) = W0 at *
  go_region_held3 (fun w' => Below W0.heap.size W0 w' ∧ w'.cell? ⟨w.heap.size, 0, none⟩ = some (.slice A n c) ∧ w'.cell? ⟨g, off, none⟩ = some (.int .i64 x))
    (first | exact ⟨(Below.refl _ _).drew, hbox, hc0⟩ | exact keepS2 hb1 (by assumption))
    ((go_at_call 83; refine (arityAt_any A n c xs x _ ?_ hxn).mono ?_; exact riS (h.below W0b) (by assumption); rintro e w1 ⟨rfl, hb1⟩))
  rename_i hS
  obtain ⟨hbA, hbx1, _⟩ := hS
  have hB1 : Below w.heap.size w w1 := below_then W0b hbA (Nat.le_of_lt hsz)
  have HO1 : Hid (OJ w1 (w.heap.size + 1) none 0 0 []) := ownsRow_below HO.out hbA
  have hsz1 : w.heap.size < w1.heap.size := by have := hbA.size; omega
  obtain ⟨r, hr⟩ : ∃ r : Nat, Pl.nxt xs x = r := ⟨(Pl.nxt xs x).toNat, by omega⟩
  rw [hr, Int.toNat_natCast] at hst
  rw [hr]
  have hr3 : r ≤ 3 := by omega
  clear hbA hb1 W0b hc0 hr hbd ha0 HO hbox hc
  go_wp2_with fail
  go_loopw [7, 8, 9] (fun u v k wr => ∃ (done : List Nat) (r q : Nat) (A' : Option Addr) (c' : Nat), u = .slice A' done.length c' ∧ v = .int .i64 q ∧ k = .int .i64 r ∧ Hid (Rest (Pl.nxt xs) t (Pl.fin (Pl.nxt xs) t 0) L done r q) ∧ Hid (OJ wr (w.heap.size + 1) A' done.length c' (nats done)) ∧ Below w.heap.size w wr ∧ wr.cell? ⟨w.heap.size, 0, none⟩ = some (.slice A n c) ∧ w.heap.size < wr.heap.size) (fun _ _ k _ => (intOf k).toNat)
  case atStart => exact ⟨[], r, 0 + 1, _, _, rfl, by go_num, rfl, hst, HO1, hB1, hbx1, hsz1⟩
  case round =>
    obtain ⟨done, r, q, A', c', rfl, rfl, rfl, hrest, ho', hb, hbx, hsz⟩ := hrel
    have hlen : done.length + r ≤ 3 := by have := hrest.out.len; omega
    cases r with
    | zero =>
      have hd := Lib.hid hrest.out.done_
      go_wp2
      go_ret
      rw [← hd.out]
      exact ⟨A', c', rfl, ownsRow_base ho'.out (by omega), hb⟩
    | succ r =>
      have hst' := hrest.out.step
      have hq := hst'.1
      rw [HM.out] at hq
      have HR := Lib.hid hst'.2
      clear hst'
      have hq0 : (0 : Int) ≤ (q : Int) := by omega
      have howa := Lib.hid (ownsRow_below ho'.out ((Below.refl _ wr).alloc (Nat.le_refl _) (.cells #[.int .i64 q] 3)))
      go_wp2_with (at_builtin; refine wpList_append_any rfl _ _ 57 rfl (w.heap.size + 1) 3 i0 (.int .i64 0) 1 8 Try.underlying57 hi hz0 hz1 hz2 rfl (by omega) A' done.length c' ((nats done).map (Value.int .i64)) rfl howa.out _ 1 _ [.int .i64 q] rfl (Src.new _ [.int .i64 q] _ 1 1 rfl (by simp [Value.oneCell'])) (by unfold maxLen; omega) (by omega) (by simp; omega) ?_; intro A2 c2 w2 ho2 hg hnil; (have hgb := app_below hg howa.out (by omega)); (have hbx2 := (hgb.cell (p := ⟨w.heap.size, 0, none⟩) (by simp)).trans hbx))
      have hb2 := hb.trans (hgb.mono (by omega))
      have hO2 := Lib.hid (oj_nats ho2)
      refine (endAt_w A n c xs _ _ d t q _ (h.below hb2) (h'.below hb2) HS.out HT.out hq (by omega)).mono ?_
      rintro e w3 ⟨rfl, hb3⟩
      have hb4 := below_then hb2 hb3 hb2.size
      have hbx3 := keepC hb3 hbx2
      have hO3 : Hid (OJ w3 (w.heap.size + 1) A2 (done ++ [q]).length c2 (nats (done ++ [q]))) := ownsRow_below hO2.out hb3
      have hsz3 : w.heap.size < w3.heap.size := by have := hgb.size; have := hb3.size; omega
      clear hO2 hb2 hbx2 hgb howa ho' ho2 hg hb hbx
      go_wp2_with fail
      go_roundw
      case rel => exact ⟨done ++ [q], r, _, A2, c2, by simp, rfl, by go_num, HR, hO3, hb4, hbx3, hsz3⟩
      case measure => simp [intOf]
end Go.Proofs.Ytcjgcopkeeiicaa
