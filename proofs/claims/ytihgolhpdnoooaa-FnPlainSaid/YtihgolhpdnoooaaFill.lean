/- Contracts: variables replaced. -/
import Derived.Test.YtihgolhpdnoooaaSubstOk
import Derived.Test.YtihgolhpdnoooaaCopy
namespace Go.Proofs.Ytihgolhpdnoooaa
open Go.RowKit
set_option linter.unusedVariables false

/-- What a substitution has for a variable; nothing where it has none. -/
def hasV (x : List (List Int)) (i : Nat) : List Int := x.getD i []
/-- What it gives for a variable. -/
def gives (x : List (List Int)) (i : Nat) : List Int := if (hasV x i).length = 0 then [-1 - (i : Int)] else hasV x i
theorem gives_no {x : List (List Int)} {i : Nat} (h : (hasV x i).length = 0) : gives x i = [-1 - (i : Int)] := if_pos h
theorem gives_yes {x : List (List Int)} {i : Nat} (h : ¬ (hasV x i).length = 0) : gives x i = hasV x i := if_neg h
theorem hasV_out {x : List (List Int)} {i n : Nat} (hl : x.length = n) (h : ¬ i < n) : (hasV x i).length = 0 := by
  unfold hasV; rw [List.getD_eq_getElem?_getD, List.getElem?_eq_none (by omega)]; rfl
theorem hasV_len {x : List (List Int)} {xs : List Int} (h : substOk xs x = true) (i : Nat) : (hasV x i).length ≤ 60 := by
  by_cases hi : i < x.length
  · rcases (substOk_iff.1 h).2.2 i hi with h0 | hT
    · unfold hasV; omega
    · exact (Pl.termOk_iff.1 hT).2.1.2
  · have := hasV_out rfl hi; omega
/-- What becomes of one number. -/
def fl (x : List (List Int)) (v : Int) : List Int := if v < 0 then gives x (-1 - v).toNat else [v]
theorem fl_sym {x : List (List Int)} {v : Int} (h : ¬ v < 0) : fl x v = [v] := if_neg h
theorem fl_var {x : List (List Int)} {i : Nat} {v : Int} (h : v = -1 - (i : Int)) : fl x v = gives x i := by
  unfold fl; rw [if_pos (by omega), show (-1 - v).toNat = i by omega]
def flTo (x : List (List Int)) (t : List Int) (k : Nat) : List Int := (t.take k).flatMap (fl x)
theorem flTo_zero (x : List (List Int)) (t : List Int) : flTo x t 0 = [] := by simp [flTo]
theorem flTo_step {x : List (List Int)} {t : List Int} {k : Nat} {v : Int} (hk : k < t.length) (hv : v = t.getD k 0) : flTo x t (k + 1) = flTo x t k ++ fl x v := by
  unfold flTo
  rw [List.take_succ_eq_append_getElem hk, List.flatMap_append, hv]
  simp [List.getD_eq_getElem?_getD, hk]
theorem flTo_mono {x : List (List Int)} {t : List Int} {k m : Nat} (h : k ≤ m) : (flTo x t k).length ≤ (flTo x t m).length := by
  unfold flTo
  have := congrArg (fun l => (l.flatMap (fl x)).length) (List.take_append_drop k (t.take m))
  simp only [List.flatMap_append, List.length_append, List.take_take, Nat.min_eq_left h] at this
  omega
def fillOk (x : List (List Int)) (t : List Int) (m : Nat) : Bool := decide ((flTo x t m).length ≤ 60)
def fillL (x : List (List Int)) (t : List Int) (m : Nat) : List Int := if fillOk x t m then flTo x t m else []
theorem fillL_no {x : List (List Int)} {t : List Int} {m : Nat} (h : fillOk x t m = false) : fillL x t m = [] := by unfold fillL; rw [h]; rfl
theorem fillL_yes {x : List (List Int)} {t : List Int} {m : Nat} (h : fillOk x t m = true) : fillL x t m = flTo x t m := by unfold fillL; rw [h]; rfl
theorem fillOk_no {x : List (List Int)} {t : List Int} {k m : Nat} (hk : k ≤ m) (h : ¬ (flTo x t k).length ≤ 60) : fillOk x t m = false := by
  have := flTo_mono (x := x) (t := t) hk
  unfold fillOk; simp; omega
theorem fillOk_yes {x : List (List Int)} {t : List Int} {m : Nat} (h : (flTo x t m).length ≤ 60) : fillOk x t m = true := by unfold fillOk; simpa using h
theorem fillL_le (x : List (List Int)) (t : List Int) (m : Nat) : (fillL x t m).length ≤ 60 := by
  unfold fillL; split
  · rename_i h; simpa [fillOk] using h
  · simp
set_option maxHeartbeats 1000000 in
set_option maxRecDepth 20000 in
theorem l2Gives_any (A : Option Addr) (n c : Nat) (x : List (List Int)) (i : Nat) (w : World) (h : RR w A n x) (hw : wtR x ≤ 1048576) (hi : i ≤ 1048576) :
    Calls Try.prog 109 #[.agg #[.slice A n c], .int .i64 i] w fun e w' => ∃ A' c', e = .returned (.slice A' (gives x i).length c') ∧ OI w' w.heap.size A' (gives x i).length c' (gives x i) ∧ Below w.heap.size w w' := by
  have hl := h.1
  have hn : n ≤ 1048576 := by unfold wtR at hw; omega
  have hnew : OI ((w.alloc (.cells #[.slice A n c] 51)).alloc (.cells #[.int .i64 (-1 - (i : Int))] 2)) (w.heap.size + 1) (some ⟨w.heap.size + 1, 0, none⟩) 1 1 [-1 - (i : Int)] := by
    have := World.ownsRow_lit (e := 2) (size := 1) (base := w.heap.size + 1) (w.alloc (.cells #[.slice A n c] 51)) #[.int .i64 (-1 - (i : Int))] 1 (by simp) (by simp [maxLen]) rfl
    simp only [World.size_alloc] at this
    exact this
  have HN := Lib.hid hnew
  have hB1 : Below w.heap.size w (w.alloc (.cells #[.slice A n c] 51)) := (Below.refl _ _).alloc (Nat.le_refl _) _
  clear hnew
  by_cases hin : i < n
  · obtain ⟨g, off, B, m, d, t, rfl, hc, ht, hmx, hx⟩ := (h.below hB1).at_ hin
    have hrow := wtR_row (x := x) (k := i) (by omega)
    rw [← hx.out, ht.1] at hrow
    have hh : hasV x i = t := hx.out.symm
    have hi1 : (i : Int) < n := by omega
    have hi0 : (0 : Int) ≤ i := by omega
    by_cases h0 : m = 0
    · have HE := gives_no (x := x) (i := i) (by rw [hh, ht.1]; exact h0)
      rw [HE]
      have e0 : ¬ (0 : Int) < m := by omega
      clear hx hh HE
      subst h0
      go_enter Try.func109, Try.ntmps109
      go_wp2_with fail
      go_ret
      exact ⟨_, _, rfl, HN.out.base (by omega), hB1.alloc (by simp) _⟩
    · have HE := gives_yes (x := x) (i := i) (by rw [hh, ht.1]; exact h0)
      rw [HE, hh, ht.1]
      have e0 : (0 : Int) < m := by omega
      clear hx hh HE
      go_enter Try.func109, Try.ntmps109
      go_wp2_with fail
      refine (l1Copy_any B m d t _ ht (by omega)).mono ?_
      rintro e w1 ⟨A', c', rfl, ho, hb1⟩
      go_wp2_with fail
      go_ret
      exact ⟨A', c', rfl, ho.base hB1.size, below_then hB1 hb1 hB1.size⟩
  · have HE := gives_no (hasV_out hl hin)
    rw [HE]
    have hi1 : ¬ (i : Int) < n := by omega
    clear HE
    go_enter Try.func109, Try.ntmps109
    go_wp2_with fail
    go_ret
    exact ⟨_, _, rfl, HN.out.base (by omega), hB1.alloc (by simp) _⟩
theorem l2Gives_at (A : Option Addr) (n c : Nat) (x : List (List Int)) (i : Nat) (j : Int) (G : List Int) (hj : j = (i : Int)) (hG : gives x i = G) (w : World) (h : RR w A n x) (hw : wtR x ≤ 1048576) (hi : i ≤ 1048576) :
    Calls Try.prog 109 #[.agg #[.slice A n c], .int .i64 j] w fun e w' => ∃ A' c', e = .returned (.slice A' G.length c') ∧ OI w' w.heap.size A' G.length c' G ∧ Below w.heap.size w w' := by
  subst hj hG
  exact l2Gives_any A n c x i w h hw hi
theorem keepB2 {W w1 w2 : World} {B : Nat} {p q : Addr} {u v : Value} (hb : Below w1.heap.size w1 w2) (hB : B ≤ w1.heap.size) (h : Below B W w1 ∧ w1.cell? p = some u ∧ w1.cell? q = some v) : Below B W w2 ∧ w2.cell? p = some u ∧ w2.cell? q = some v :=
  ⟨h.1.trans (hb.mono hB), keepC hb h.2.1, keepC hb h.2.2⟩
theorem rrS {w wr w1 : World} {B : Nat} {R : Prop} {A : Option Addr} {n : Nat} {x : List (List Int)} (h : RR w A n x) (hb : Below w.heap.size w wr) (hS : Below B wr w1 ∧ R) (hB : w.heap.size ≤ B) : RR w1 A n x := h.below (hb.trans (hS.1.mono hB))
theorem keepG2 {W w1 w2 : World} {B : Nat} {p q : Addr} {u v : Value} (hb : Below B w1 w2) (hp : p.block < B) (hq : q.block < B) (h : Below B W w1 ∧ w1.cell? p = some u ∧ w1.cell? q = some v) : Below B W w2 ∧ w2.cell? p = some u ∧ w2.cell? q = some v :=
  ⟨h.1.trans hb, (hb.cell hp).trans h.2.1, (hb.cell hq).trans h.2.2⟩
set_option maxHeartbeats 1000000 in
theorem byVar_nil (A : Option Addr) (n c : Nat) (x : List (List Int)) (i : Nat) (w : World) (h : RR w A n x) (hn : n ≤ 1048576) (hi : i ≤ 1048576) (h0 : (hasV x i).length = 0) :
    Calls Try.prog 149 #[.agg #[.slice A n c], .int .i64 i] w fun e w' => e = .returned (.slice none 0 0) ∧ Below w.heap.size w w' := by
  have hB1 : Below w.heap.size w (w.alloc (.cells #[.slice A n c] 51)) := (Below.refl _ _).alloc (Nat.le_refl _) _
  by_cases hin : i < n
  · obtain ⟨g, off, B, m, d, t, rfl, hc, ht, hmx, hx⟩ := (h.below hB1).at_ hin
    have hm0 : m = 0 := by rw [← ht.1, hx.out]; exact h0
    subst hm0
    have hi1 : ¬ (n : Int) ≤ i := by omega
    have hi2 : (i : Int) < n := by omega
    have hi0 : (0 : Int) ≤ i := by omega
    clear hx h0
    go_enter Try.func149, Try.ntmps149
    go_wp2_with fail
    go_ret
    exact ⟨rfl, hB1⟩
  · have hi1 : (n : Int) ≤ i := by omega
    clear h0
    go_enter Try.func149, Try.ntmps149
    go_wp2_with fail
    go_ret
    exact ⟨rfl, hB1⟩
set_option maxHeartbeats 1000000 in
theorem byVar_some (A : Option Addr) (n c : Nat) (x : List (List Int)) (i : Nat) (w : World) (h : RR w A n x) (hn : n ≤ 1048576) (hi : i ≤ 1048576) (h0 : ¬ (hasV x i).length = 0) :
    Calls Try.prog 149 #[.agg #[.slice A n c], .int .i64 i] w fun e w' => ∃ g off c', e = .returned (.slice (some ⟨g, off, none⟩) (hasV x i).length c') ∧ RI w' (some ⟨g, off, none⟩) (hasV x i).length (hasV x i) ∧ Below w.heap.size w w' := by
  have hB1 : Below w.heap.size w (w.alloc (.cells #[.slice A n c] 51)) := (Below.refl _ _).alloc (Nat.le_refl _) _
  have hin : i < n := by
    rcases Nat.lt_or_ge i n with hlt | hge
    · exact hlt
    · exact absurd (hasV_out h.1 (by omega)) h0
  obtain ⟨g, off, B, m, d, t, rfl, hc, ht, hmx, hx⟩ := (h.below hB1).at_ hin
  have hh : hasV x i = t := hx.out.symm
  rw [hh] at h0 ⊢
  rw [ht.1] at h0 ⊢
  obtain ⟨g2, off2, rfl, _⟩ := ht.2 (by omega)
  have hi1 : ¬ (n : Int) ≤ i := by omega
  have hi2 : (i : Int) < n := by omega
  have hi0 : (0 : Int) ≤ i := by omega
  have hm0 : ¬ (m : Int) = 0 := by omega
  have hm1 : ((m : Int) == 0) = false := by simpa using h0
  clear hx hh
  go_enter Try.func149, Try.ntmps149
  go_wp2_with fail
  go_ret
  first | exact ⟨g2, off2, ⟨d, rfl⟩, ht, hB1⟩ | exact ⟨g2, off2, d, rfl, ht, hB1⟩
set_option maxHeartbeats 400000 in
theorem lookup_any (A : Option Addr) (n c : Nat) (w : World) :
    Calls Try.prog 148 #[.agg #[.slice A n c]] w fun e w' => e = .returned (.func (.func 163) #[] #[.pointer (some ⟨w.heap.size, 0, none⟩)]) ∧ w' = w.alloc (.cells #[.slice A n c] 51) := by
  have hmf : ∀ (fn : Fn) (first cap : Array Value) (w : World), (Instr.makeFunc fn first cap).run Try.prog w = .ok (.func fn first cap) w := fun _ _ _ _ => rfl
  go_enter Try.func148, Try.ntmps148
  go_wp2_with fail
  go_ret
  exact ⟨rfl, rfl⟩
set_option maxRecDepth 20000 in
theorem look_nil (b : Nat) (A : Option Addr) (n c : Nat) (x : List (List Int)) (v : Int) (w : World) (h : RR w A n x) (hc : w.cell? ⟨b, 0, none⟩ = some (.slice A n c)) (hn : n ≤ 1048576) (hv : -1000 ≤ v) (h0 : 0 ≤ v ∨ (hasV x (-1 - v).toNat).length = 0) :
    Calls Try.prog 163 #[.int .i64 v, .pointer (some ⟨b, 0, none⟩)] w fun e w' => e = .returned (.slice none 0 0) ∧ Below w.heap.size w w' := by
  by_cases hv0 : 0 ≤ v
  · have e0 : decide (0 ≤ v) = true := by simpa using hv0
    clear h0
    go_enter Try.func163, Try.ntmps163
    go_wp2_with fail
    go_ret
    exact ⟨rfl, Below.refl _ _⟩
  · have h1 : (hasV x (-1 - v).toNat).length = 0 := h0.resolve_left hv0
    have e0 : decide (0 ≤ v) = false := by simpa using hv0
    obtain ⟨q, hq⟩ : ∃ q : Nat, (-1 - v) = q := ⟨(-1 - v).toNat, by omega⟩
    have HC := byVar_nil A n c x q w h hn (by omega) (by rwa [hq] at h1)
    replace HC := Lib.hid HC
    clear h0 h1
    go_enter Try.func163, Try.ntmps163
    go_wp2_with fail
    refine HC.out.mono ?_
    rintro e w1 ⟨rfl, hb⟩
    go_wp2_with fail
    go_ret
    exact ⟨rfl, hb⟩
set_option maxRecDepth 20000 in
theorem look_some (b : Nat) (A : Option Addr) (n c : Nat) (x : List (List Int)) (v : Int) (q : Nat) (w : World) (h : RR w A n x) (hc : w.cell? ⟨b, 0, none⟩ = some (.slice A n c)) (hn : n ≤ 1048576) (hq : -1 - v = q) (hq2 : q ≤ 1000) (h0 : ¬ (hasV x q).length = 0) :
    Calls Try.prog 163 #[.int .i64 v, .pointer (some ⟨b, 0, none⟩)] w fun e w' => ∃ g off c', e = .returned (.slice (some ⟨g, off, none⟩) (hasV x q).length c') ∧ RI w' (some ⟨g, off, none⟩) (hasV x q).length (hasV x q) ∧ Below w.heap.size w w' := by
  have e0 : decide (0 ≤ v) = false := by simp; omega
  have HC := byVar_some A n c x q w h hn (by omega) h0
  replace HC := Lib.hid HC
  clear h0
  have hv : -1001 ≤ v := by omega
  go_enter Try.func163, Try.ntmps163
  go_wp2_with fail
  refine HC.out.mono ?_
  rintro e w1 ⟨g, off, c', rfl, hr, hb⟩
  go_wp2_with fail
  go_ret
  first | exact ⟨g, off, ⟨c', rfl⟩, hr, hb⟩ | exact ⟨g, off, c', rfl, hr, hb⟩
set_option maxHeartbeats 4000000 in
set_option maxRecDepth 20000 in
theorem fill_any (A : Option Addr) (n c : Nat) (x : List (List Int)) (B : Option Addr) (m d : Nat) (t : List Int) (w : World) (h : RR w A n x) (h' : RI w B m t) (hw : wtR x ≤ 1048576) (hlen : ∀ i, (hasV x i).length ≤ 60) (hbd : ∀ v ∈ t, -24 ≤ v ∧ v ≤ 7) (hm : m ≤ 60) :
    Calls Try.prog 110 #[.agg #[.slice A n c], .slice B m d] w fun e w' => ∃ A' c', e = .returned (.tuple #[.slice A' (fillL x t m).length c', .bool (fillOk x t m)]) ∧ OI w' w.heap.size A' (fillL x t m).length c' (fillL x t m) ∧ Below w.heap.size w w' := by
  obtain ⟨i0, hi, hz0, hz1, hz2⟩ := info_parts infoInt64
  have hl := h'.1
  have hn1 : n ≤ 1048576 := by have := h.1; unfold wtR at hw; omega
  have HBD := Lib.hid hbd
  have HLEN := Lib.hid hlen
  clear hbd hlen
  have hB0 : Below w.heap.size w ((w.alloc (.cells #[.slice A n c] 51)).alloc (.cells #[.slice A n c] 51)) := ((Below.refl _ _).alloc (Nat.le_refl _) _).alloc (by simp) _
  have hbox : ((w.alloc (.cells #[.slice A n c] 51)).alloc (.cells #[.slice A n c] 51)).cell? ⟨w.heap.size + 1, 0, none⟩ = some (.slice A n c) := by simp
  have hsz0 : w.heap.size + 2 ≤ ((w.alloc (.cells #[.slice A n c] 51)).alloc (.cells #[.slice A n c] 51)).heap.size := by simp
  have hq1 := fun (W : World) (g off l k : Nat) => Lib.run_eql_slice_nil (P := Try.prog) W 24 2 (some ⟨g, off, none⟩) l k 0 0 Try.underlying24
  have hq2 := fun (W : World) => Lib.run_eql_slice_nil (P := Try.prog) W 24 2 none 0 0 0 0 Try.underlying24
  go_enter Try.func110, Try.ntmps110
  go_wp2_with fail
  refine (lookup_any A n c _).mono ?_
  rintro e w1 ⟨rfl, rfl⟩
  generalize (w.alloc (.cells #[.slice A n c] 51)).alloc (.cells #[.slice A n c] 51) = W0 at *
  go_wp2_with (at_make; refine wpList_make_own _ rfl _ _ 24 rfl (w.heap.size + 2) 2 i0 (.int .i64 0) 1 Try.underlying24 hi hz0 hz1 .i64 .i64 _ m rfl rfl rfl (by rw [hz2]; omega) (by unfold maxLen; omega) hsz0 ?_; intro w1 hown hg)
  have hB1 : Below w.heap.size w w1 := hB0.grown hg (by have := hB0.size; omega) (by simp)
  have hbox1 : w1.cell? ⟨w.heap.size + 1, 0, none⟩ = some (.slice A n c) := hg.cell hbox (by simp)
  have hsz1 : w.heap.size + 2 ≤ w1.heap.size := by have := hg.size; omega
  have HOWN : Hid (OI w1 (w.heap.size + 2) (some ⟨W0.heap.size, 0, none⟩) 0 m []) := Lib.hid hown
  clear hown hg hB0 hbox hsz0
  generalize W0.heap.size = g0 at *
  go_loopw [7, 9, 10, 18] (fun u _ _ i wr => ∃ (k : Nat) (F : List Int) (A' : Option Addr) (c' : Nat), k ≤ m ∧ i = .int .i64 k ∧ Hid (F = flTo x t k) ∧ F.length ≤ 60 ∧ u = .slice A' F.length c' ∧ Hid (OI wr (w.heap.size + 2) A' F.length c' F) ∧ Below w.heap.size w wr ∧ wr.cell? ⟨w.heap.size + 1, 0, none⟩ = some (.slice A n c) ∧ w.heap.size + 2 ≤ wr.heap.size) (fun _ _ _ i _ => m - (intOf i).toNat)
  case atStart => exact ⟨0, [], _, m, Nat.zero_le _, rfl, Lib.hid (by rw [flTo_zero]), Nat.zero_le _, rfl, HOWN, hB1, hbox1, hsz1⟩
  case round =>
    obtain ⟨k, F, A', c', hk, rfl, hF, hF60, rfl, ho, hb, bx, hsz⟩ := hrel
    by_cases hlt : k < m
    · obtain ⟨g, off, v, rfl, hc, hx⟩ := (h'.below hb).at_ hlt
      have hvb := HBD.out v (by rw [hx.out]; exact Pl.getD_mem (by omega))
      have HST := Lib.hid (flTo_step (x := x) (by omega) hx.out)
      clear hx
      by_cases h0 : v < 0 ∧ ¬ (hasV x (-1 - v).toNat).length = 0
      · obtain ⟨h0, h1⟩ := h0
        obtain ⟨q, hq⟩ : ∃ q : Nat, v = -1 - (q : Int) := ⟨(-1 - v).toNat, by omega⟩
        have hqq : (-1 - v).toNat = q := by omega
        rw [hqq] at h1
        have HS : Hid (flTo x t (k + 1) = F ++ hasV x q) := Lib.hid (by rw [HST.out, fl_var hq, gives_yes h1, hF.out])
        have hG60 := HLEN.out q
        have HLK := Lib.hid (fun (W : World) (k1 : RR W A n x) (k2 : W.cell? ⟨w.heap.size + 1, 0, none⟩ = some (.slice A n c)) => look_some (w.heap.size + 1) A n c x v q W k1 k2 hn1 (by omega) (by omega) h1)
        clear h1 hqq
        subst hq
        generalize hasV x q = G at *
        go_wp2_with fail
        refine (HLK.out _ (h.below hb) bx).mono ?_
        rintro e w2 ⟨g2, off2, c2, rfl, hr2, hb2⟩
        have hB2 := below_then hb hb2 hb.size
        have ho2 := Lib.hid (ownsRow_below ho.out hb2)
        have bx2 := keepC hb2 bx
        have hsz2 : w.heap.size + 2 ≤ w2.heap.size := by have := hb2.size; omega
        clear hb ho bx hsz hb2 HLK
        by_cases hov : F.length + G.length ≤ 60
        · have hi1 : ¬ (60 : Int) < (F.length : Int) + (G.length : Int) := by omega
          go_wp2_with (at_builtin; refine wpList_append_any rfl _ _ 24 rfl (w.heap.size + 2) 2 i0 (.int .i64 0) 1 8 Try.underlying24 hi hz0 hz1 hz2 rfl (by omega) A' F.length c' (F.map (Value.int .i64)) rfl ho2.out _ G.length _ (G.map (Value.int .i64)) rfl (Src.ints hr2) (by unfold maxLen; omega) (by omega) hsz2 ?_; intro A3 c3 w3 ho3 hg3 hnil3; have hgb := grown_below hg3 ho2.out hsz2; (have bx3 := (hgb.cell (p := ⟨w.heap.size + 1, 0, none⟩) (by simp)).trans bx2))
          have hb3 := hB2.trans (hgb.mono (by omega))
          have hsz3 : w.heap.size + 2 ≤ w3.heap.size := by have := hgb.size; omega
          have HO3 : Hid (OI w3 (w.heap.size + 2) A3 (F ++ G).length c3 (F ++ G)) := Lib.hid (by rw [List.length_append]; unfold OI; rw [List.map_append]; exact ho3)
          clear hgb ho3 hg3 hB2 ho2
          go_roundw
          case rel => exact ⟨k + 1, F ++ G, A3, c3, by omega, by go_num, Lib.hid HS.out.symm, by rw [List.length_append]; exact hov, by rw [List.length_append], HO3, hb3, bx3, hsz3⟩
          case measure => simp [intOf]; omega
        · have hi1 : (60 : Int) < (F.length : Int) + (G.length : Int) := by omega
          have HOK := Lib.hid (fillOk_no (x := x) (t := t) (k := k + 1) (m := m) (by omega) (by rw [HS.out, List.length_append]; exact hov))
          have HL := Lib.hid (fillL_no HOK.out)
          go_wp2_with (at_builtin; refine wpList_append_any rfl _ _ 24 rfl (w.heap.size + 2) 2 i0 (.int .i64 0) 1 8 Try.underlying24 hi hz0 hz1 hz2 rfl (by omega) A' F.length c' (F.map (Value.int .i64)) rfl ho2.out _ G.length _ (G.map (Value.int .i64)) rfl (Src.ints hr2) (by unfold maxLen; omega) (by omega) hsz2 ?_; intro A3 c3 w3 ho3 hg3 hnil3; have hgb := grown_below hg3 ho2.out hsz2)
          have hb3 := hB2.trans (hgb.mono (by omega))
          clear hgb ho3 hg3 hB2 ho2
          go_ret2
          exact ⟨none, 0, by rw [HOK.out, HL.out]; rfl, by rw [HL.out]; exact World.ownsRow_nil _ _ _ _, hb3⟩
      · have h1 : 0 ≤ v ∨ (hasV x (-1 - v).toNat).length = 0 := by
          by_cases h2 : v < 0
          · exact .inr (Classical.byContradiction fun hh => h0 ⟨h2, hh⟩)
          · exact .inl (by omega)
        have HS : Hid (flTo x t (k + 1) = F ++ [v]) := Lib.hid (by
          rw [HST.out, hF.out]
          congr 1
          rcases h1 with h2 | h2
          · exact fl_sym (by omega)
          · by_cases h3 : v < 0
            · unfold fl; rw [if_pos h3, gives_no h2, show -1 - (((-1 - v).toNat : Nat) : Int) = v by omega]
            · exact fl_sym h3)
        have HLK := Lib.hid (fun (W : World) (k1 : RR W A n x) (k2 : W.cell? ⟨w.heap.size + 1, 0, none⟩ = some (.slice A n c)) => look_nil (w.heap.size + 1) A n c x v W k1 k2 hn1 (by omega) h1)
        clear h0 h1
        go_wp2_with fail
        refine (HLK.out _ (h.below hb) bx).mono ?_
        rintro e w2 ⟨rfl, hb2⟩
        have hB2 := below_then hb hb2 hb.size
        have bx2 := keepC hb2 bx
        have hsz2 : w.heap.size + 2 ≤ w2.heap.size := by have := hb2.size; omega
        have howa := Lib.hid (ownsRow_below (ownsRow_below ho.out hb2) ((Below.refl _ w2).alloc (Nat.le_refl _) (.cells #[.int .i64 v] 2)))
        clear hb ho bx hsz hb2 HLK
        by_cases hov : F.length + 1 ≤ 60
        · have hi1 : ¬ (60 : Int) < (F.length : Int) + 1 := by omega
          go_wp2_with (at_builtin; refine wpList_append_any rfl _ _ 24 rfl (w.heap.size + 2) 2 i0 (.int .i64 0) 1 8 Try.underlying24 hi hz0 hz1 hz2 rfl (by omega) A' F.length c' (F.map (Value.int .i64)) rfl howa.out _ 1 _ [.int .i64 v] rfl (Src.new _ [.int .i64 v] _ 1 1 rfl (by simp [Value.oneCell'])) (by unfold maxLen; omega) (by omega) (by simp; omega) ?_; intro A3 c3 w3 ho3 hg hnil; have hgb := app_below hg howa.out (by omega); (have bx3 := (hgb.cell (p := ⟨w.heap.size + 1, 0, none⟩) (by simp)).trans bx2))
          have hb3 := hB2.trans (hgb.mono (by omega))
          have hsz3 : w.heap.size + 2 ≤ w3.heap.size := by have := hgb.size; omega
          have HO3 : Hid (OI w3 (w.heap.size + 2) A3 (F ++ [v]).length c3 (F ++ [v])) := Lib.hid (OI.snoc ho3)
          clear hgb howa ho3 hg hB2
          go_roundw
          case rel => exact ⟨k + 1, F ++ [v], A3, c3, by omega, by go_num, Lib.hid HS.out.symm, by simp; omega, by simp, HO3, hb3, bx3, hsz3⟩
          case measure => simp [intOf]; omega
        · have hi1 : (60 : Int) < (F.length : Int) + 1 := by omega
          have HOK := Lib.hid (fillOk_no (x := x) (t := t) (k := k + 1) (m := m) (by omega) (by rw [HS.out, List.length_append]; simpa using hov))
          have HL := Lib.hid (fillL_no HOK.out)
          go_wp2_with (at_builtin; refine wpList_append_any rfl _ _ 24 rfl (w.heap.size + 2) 2 i0 (.int .i64 0) 1 8 Try.underlying24 hi hz0 hz1 hz2 rfl (by omega) A' F.length c' (F.map (Value.int .i64)) rfl howa.out _ 1 _ [.int .i64 v] rfl (Src.new _ [.int .i64 v] _ 1 1 rfl (by simp [Value.oneCell'])) (by unfold maxLen; omega) (by omega) (by simp; omega) ?_; intro A3 c3 w3 ho3 hg hnil; have hgb := app_below hg howa.out (by omega))
          have hb3 := hB2.trans (hgb.mono (by omega))
          clear hgb howa ho3 hg hB2
          go_ret2
          exact ⟨none, 0, by rw [HOK.out, HL.out]; rfl, by rw [HL.out]; exact World.ownsRow_nil _ _ _ _, hb3⟩
    · have hkm : k = m := by omega
      subst hkm
      have HOK := Lib.hid (fillOk_yes (x := x) (t := t) (m := k) (by rw [← hF.out]; exact hF60))
      have HL := Lib.hid (fillL_yes HOK.out)
      go_wp2_with fail
      go_ret2
      exact ⟨A', c', by rw [HOK.out, HL.out, ← hF.out]; rfl, by rw [HL.out, ← hF.out]; exact ho.out.base (by omega), hb⟩
end Go.Proofs.Ytihgolhpdnoooaa
