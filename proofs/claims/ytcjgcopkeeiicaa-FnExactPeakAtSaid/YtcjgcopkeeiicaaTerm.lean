/- Contracts: the arguments of a number, the end of a term, right terms. -/
import Derived.Test.YtcjgcopkeeiicaaSig
import Derived.Test.YtcjgcopkeeiicaaPlainB
import Derived.Deep.RegionHeld3
namespace Go.Proofs.Ytcjgcopkeeiicaa
open Go.RowKit
set_option linter.unusedVariables false

/-- A cell that is there is there behind a call that leaves old memory alone. -/
theorem keepC {w w1 : World} (hb : Below w.heap.size w w1) {p : Addr} {v : Value} (h : w.cell? p = some v) : w1.cell? p = some v := (hb.cell (World.block_lt_of_cell? w p h)).trans h

theorem keepS0 {W w1 w2 : World} (hb : Below w1.heap.size w1 w2) (h : Below W.heap.size W w1) : Below W.heap.size W w2 := below_then h hb h.size
theorem keepS1 {W w1 w2 : World} {p : Addr} {u : Value} (hb : Below w1.heap.size w1 w2) (h : Below W.heap.size W w1 ∧ w1.cell? p = some u) : Below W.heap.size W w2 ∧ w2.cell? p = some u :=
  ⟨keepS0 hb h.1, keepC hb h.2⟩
theorem keepS2 {W w1 w2 : World} {p q : Addr} {u v : Value} (hb : Below w1.heap.size w1 w2) (h : Below W.heap.size W w1 ∧ w1.cell? p = some u ∧ w1.cell? q = some v) : Below W.heap.size W w2 ∧ w2.cell? p = some u ∧ w2.cell? q = some v :=
  ⟨keepS0 hb h.1, keepC hb h.2.1, keepC hb h.2.2⟩
theorem keepS3 {W w1 w2 : World} {p q r : Addr} {u v x : Value} (hb : Below w1.heap.size w1 w2) (h : Below W.heap.size W w1 ∧ w1.cell? p = some u ∧ w1.cell? q = some v ∧ w1.cell? r = some x) : Below W.heap.size W w2 ∧ w2.cell? p = some u ∧ w2.cell? q = some v ∧ w2.cell? r = some x :=
  ⟨keepS0 hb h.1, keepC hb h.2.1, keepC hb h.2.2.1, keepC hb h.2.2.2⟩
theorem keepS4 {W w1 w2 : World} {p q r s : Addr} {u v x y : Value} (hb : Below w1.heap.size w1 w2) (h : Below W.heap.size W w1 ∧ w1.cell? p = some u ∧ w1.cell? q = some v ∧ w1.cell? r = some x ∧ w1.cell? s = some y) :
    Below W.heap.size W w2 ∧ w2.cell? p = some u ∧ w2.cell? q = some v ∧ w2.cell? r = some x ∧ w2.cell? s = some y :=
  ⟨keepS0 hb h.1, keepC hb h.2.1, keepC hb h.2.2.1, keepC hb h.2.2.2.1, keepC hb h.2.2.2.2⟩
/-- One fact more that is kept. -/
theorem keepA {w1 w2 : World} {R R' : Prop} {g : Nat} {t : TypeId} {cs : Array Value} (hb : Below w1.heap.size w1 w2) (k : R → R') (h : Blk w1 g t cs ∧ R) : Blk w2 g t cs ∧ R' := ⟨h.1.below hb, k h.2⟩
theorem riS {W w1 : World} {R : Prop} {A : Option Addr} {n : Nat} {xs : List Int} (h : RI W A n xs) (hS : Below W.heap.size W w1 ∧ R) : RI w1 A n xs := h.below hS.1

set_option maxHeartbeats 400000 in
theorem l1Arity_any (A : Option Addr) (n c : Nat) (xs : List Int) (x : Int) (w : World) (h : RI w A n xs) (hn : n ≤ 9223372036854775806) :
    Calls Try.prog 78 #[.agg #[.slice A n c], .int .i64 x] w fun e w' => e = .returned (.int .i64 (Pl.ari xs x)) ∧ Below w.heap.size w w' := by
  have hl := h.1
  cases hq : inB x (-24) (-1)
  · cases hr : inB x 0 ((n : Int) - 1)
    · have HA : Hid (Pl.ari xs x = -1) := Lib.hid (by
        have := inB_false hq
        have := inB_false hr
        unfold Pl.ari
        split
        · rw [if_pos (by omega)]
        · rw [if_neg (by omega)])
      clear hl
      go_enter Try.func78, Try.ntmps78
      go_wp2_with (go_at_call 40; refine (l1In_any _ _ _ _).mono ?_; rintro e w1 ⟨rfl, rfl⟩)
      go_ret
      exact ⟨ret_int HA.out.symm, (Below.refl _ _).alloc (Nat.le_refl _) _⟩
    · have hr' := inB_true hr
      obtain ⟨m, rfl⟩ : ∃ m : Nat, x = m := ⟨x.toNat, by omega⟩
      have HA : Hid (Pl.ari xs m = xs.getD m 0) := Lib.hid (by
        unfold Pl.ari
        rw [if_neg (by omega), if_pos (by omega), Int.toNat_natCast])
      clear hl
      have hmn : m < n := by omega
      obtain ⟨g, off, y, rfl, hc, hy⟩ := h.at_ hmn
      have hlt : g < w.heap.size := World.block_lt_of_cell? _ _ hc
      go_enter Try.func78, Try.ntmps78
      go_wp2_with (go_at_call 40; refine (l1In_any _ _ _ _).mono ?_; rintro e w1 ⟨rfl, rfl⟩)
      go_ret
      exact ⟨ret_int (HA.out.trans hy.out.symm).symm, (Below.refl _ _).alloc (Nat.le_refl _) _⟩
  · have HA : Hid (Pl.ari xs x = 0) := Lib.hid (by
      have := inB_true hq
      unfold Pl.ari
      rw [if_pos (by omega), if_neg (by omega)])
    clear hl
    go_enter Try.func78, Try.ntmps78
    go_wp2_with (go_at_call 40; refine (l1In_any _ _ _ _).mono ?_; rintro e w1 ⟨rfl, rfl⟩)
    go_ret
    exact ⟨ret_int HA.out.symm, (Below.refl _ _).alloc (Nat.le_refl _) _⟩
set_option maxHeartbeats 400000 in
theorem arityAt_any (A : Option Addr) (n c : Nat) (xs : List Int) (x : Int) (w : World) (h : RI w A n xs) (hx : x < n) :
    Calls Try.prog 83 #[.agg #[.slice A n c], .int .i64 x] w fun e w' => e = .returned (.int .i64 (Pl.nxt xs x)) ∧ Below w.heap.size w w' := by
  have hl := h.1
  by_cases h0 : x < 0
  · have HA : Hid (Pl.nxt xs x = 0) := Lib.hid (by unfold Pl.nxt; rw [if_pos h0])
    clear hl
    go_enter Try.func83, Try.ntmps83
    go_wp2
    go_ret
    exact ⟨ret_int HA.out.symm, (Below.refl _ _).alloc (Nat.le_refl _) _⟩
  · obtain ⟨m, rfl⟩ : ∃ m : Nat, x = m := ⟨x.toNat, by omega⟩
    have HA : Hid (Pl.nxt xs m = xs.getD m 0) := Lib.hid (by
      unfold Pl.nxt
      rw [if_neg (by omega), if_pos (by omega), Int.toNat_natCast])
    clear hl
    have hmn : m < n := by omega
    obtain ⟨g, off, y, rfl, hc, hy⟩ := h.at_ hmn
    have hlt : g < w.heap.size := World.block_lt_of_cell? _ _ hc
    go_enter Try.func83, Try.ntmps83
    go_wp2
    go_ret
    exact ⟨ret_int (HA.out.trans hy.out.symm).symm, (Below.refl _ _).alloc (Nat.le_refl _) _⟩
/-- One number more of a run. -/
theorem run_step {f : Int → Int} {t : List Int} {p : Nat} (hp : p < t.length) (m : Nat) :
    Pl.run f (m + 1) (t.drop p) = if f (t.getD p 0) < 0 then none else (Pl.run f (m + (f (t.getD p 0)).toNat) (t.drop (p + 1))).map (· + 1) := by
  rw [List.drop_eq_getElem_cons hp, List.getD_eq_getElem?_getD, List.getElem?_eq_getElem hp, Option.getD_some]
  rfl

/-- Where a run stands that began at p: m + 1 terms are still to come behind the place i. -/
def Mid (f : Int → Int) (t : List Int) (p i m : Nat) : Prop := Pl.run f 1 (t.drop p) = (Pl.run f m (t.drop i)).map (· + (i - p))

theorem Mid.step {f : Int → Int} {t : List Int} {p i m : Nat} {x : Int} (h : Mid f t p i (m + 1)) (hp : p ≤ i) (hi : i < t.length) (hx : x = t.getD i 0) (h0 : 0 ≤ f x) : Mid f t p (i + 1) (m + (f x).toNat) := by
  unfold Mid at *
  rw [h, run_step hi, ← hx, if_neg (by omega), Option.map_map]
  congr 1
  funext k
  simp
  omega
theorem Mid.stop {f : Int → Int} {t : List Int} {p i m : Nat} {x : Int} (h : Mid f t p i (m + 1)) (hi : i < t.length) (hx : x = t.getD i 0) (h0 : f x < 0) : Pl.endOf f t p = -1 := by
  unfold Mid at *
  unfold Pl.endOf
  rw [h, run_step hi, ← hx, if_pos h0]
  rfl
theorem Mid.out_ {f : Int → Int} {t : List Int} {p i m : Nat} (h : Mid f t p i (m + 1)) (hi : t.length ≤ i) : Pl.endOf f t p = -1 := by
  unfold Mid at *
  unfold Pl.endOf
  rw [h, List.drop_eq_nil_of_le hi]
  rfl
theorem Mid.done {f : Int → Int} {t : List Int} {p i : Nat} (h : Mid f t p i 0) (hp : p ≤ i) : Pl.endOf f t p = i := by
  unfold Mid at *
  unfold Pl.endOf
  rw [h, Pl.run_zero]
  simp
  omega
theorem Mid.start (f : Int → Int) (t : List Int) (p : Nat) : Mid f t p p 1 := by
  unfold Mid
  cases Pl.run f 1 (t.drop p) <;> simp

set_option maxHeartbeats 1000000 in
theorem l1End_any (A : Option Addr) (n c : Nat) (xs : List Int) (B : Option Addr) (m d : Nat) (t : List Int) (p : Nat) (w : World) (h : RI w A n xs) (h' : RI w B m t) (hn : n ≤ 9223372036854775806) (hm : m ≤ 1048576) (hs : Pl.sigOk xs = true) (hp : p ≤ m) :
    Calls Try.prog 70 #[.agg #[.slice A n c], .slice B m d, .int .i64 p] w fun e w' => e = .returned (.int .i64 (Pl.endOf (Pl.ari xs) t p)) ∧ Below w.heap.size w w' := by
  have HS := Lib.hid hs
  clear hs
  have h0 : (0 : Int) ≤ p := by omega
  go_enter Try.func70, Try.ntmps70
  go_wp2
  go_loopw [7, 8, 9] (fun u i v wr => ∃ k q : Nat, p ≤ k ∧ k ≤ m ∧ q ≤ 3 * k ∧ i = .int .i64 k ∧ u = .int .i64 ((q : Int) + 1) ∧ Hid (Mid (Pl.ari xs) t p k (q + 1)) ∧ Below (w.alloc (.cells #[.slice A n c] 30)).heap.size (w.alloc (.cells #[.slice A n c] 30)) wr) (fun _ i _ _ => m - (intOf i).toNat)
  case atStart => exact ⟨p, 0, Nat.le_refl _, hp, by omega, rfl, rfl, Mid.start _ _ _, Below.refl _ _⟩
  case round =>
    obtain ⟨k, q, hpk, hk, hq, rfl, rfl, hmid, hb⟩ := hrel
    have hbox : wr.cell? ⟨w.heap.size, 0, none⟩ = some (.slice A n c) := (hb.cell (by simp)).trans (by simp)
    by_cases hlt : k < m
    · obtain ⟨g, off, x, rfl, hc, hx⟩ := ((h'.alloc _).below hb).at_ hlt
      have hi0 : (0 : Int) ≤ (k : Int) := by omega
      have hi1 : (k : Int) < (m : Int) := by omega
      go_wp2
      go_region_held3 (fun w' => Below (w.alloc (.cells #[.slice A n c] 30)).heap.size (w.alloc (.cells #[.slice A n c] 30)) w' ∧ w'.cell? ⟨w.heap.size, 0, none⟩ = some (.slice A n c) ∧ w'.cell? ⟨g, off + k, none⟩ = some (.int .i64 x))
        (first | exact ⟨hb.drew, hbox, hc⟩ | exact keepS2 hb1 (by assumption))
        ((go_at_call 78; refine (l1Arity_any A n c xs x _ ?_ hn).mono ?_; exact riS (h.alloc _) (by assumption); rintro e w1 ⟨rfl, hb1⟩))
      rename_i hS
      obtain ⟨hb2, _, _⟩ := hS
      clear hb hb1 hbox hc
      have hbd := Pl.ari_bd HS.out x
      by_cases hneg : Pl.ari xs x < 0
      · have HE := Lib.hid (Mid.stop hmid.out (by rw [h'.1]; omega) hx.out hneg)
        go_wp2
        go_ret
        exact ⟨ret_int HE.out.symm, below_then ((Below.refl _ _).alloc (Nat.le_refl _) _) hb2 (by simp)⟩
      · have hmid2 := Lib.hid (Mid.step hmid.out hpk (by rw [h'.1]; omega) hx.out (by omega))
        obtain ⟨r, hr⟩ : ∃ r : Nat, Pl.ari xs x = r := ⟨(Pl.ari xs x).toNat, by omega⟩
        rw [hr] at hmid2 hbd hneg ⊢
        clear hr
        rw [Int.toNat_natCast] at hmid2
        cases hz : ((q : Int) + 1 + r - 1 == 0)
        · go_wp2
          go_roundw
          case rel => exact ⟨k + 1, q + r - 1, by omega, by omega, by simp at hz; omega, by go_num, by simp at hz; congr 1; omega, by simp at hz; rw [show q + r - 1 + 1 = q + r by omega]; exact hmid2, hb2⟩
          case measure => simp [intOf]; omega
        · have hqr : q + r = 0 := by simp at hz; omega
          have HE := Lib.hid (Mid.done (by have := hmid2.out; rwa [hqr] at this) (by omega))
          clear hmid2
          go_wp2
          go_ret
          exact ⟨ret_int (by rw [HE.out]; omega), below_then ((Below.refl _ _).alloc (Nat.le_refl _) _) hb2 (by simp)⟩
    · have HE := Lib.hid (Mid.out_ hmid.out (by rw [h'.1]; omega))
      go_wp2
      go_ret
      exact ⟨ret_int HE.out.symm, below_then ((Below.refl _ _).alloc (Nat.le_refl _) _) hb (by simp)⟩
theorem termOk_no1 {ar t : List Int} (h : Pl.sigOk ar = false) : Pl.termOk ar t = false := by rw [Pl.termOk_spec, h]; rfl
theorem termOk_no2 {ar t : List Int} {m : Nat} (hl : t.length = m) (h : ¬ (1 ≤ m ∧ m ≤ 60)) : Pl.termOk ar t = false := by
  rw [Pl.termOk_spec, hl]
  simp [h]
theorem termOk_yes {ar t : List Int} {m : Nat} (hs : Pl.sigOk ar = true) (hl : t.length = m) (h : 1 ≤ m ∧ m ≤ 60) : Pl.termOk ar t = (Pl.endOf (Pl.ari ar) t 0 == (m : Int)) := by
  rw [Pl.termOk_spec, hs, hl, Bool.eq_iff_iff]
  simp [h]

set_option maxHeartbeats 400000 in
theorem specTermOk_any (A : Option Addr) (n c : Nat) (xs : List Int) (B : Option Addr) (m d : Nat) (t : List Int) (w : World) (h : RI w A n xs) (h' : RI w B m t) (hn : n ≤ 9223372036854775806) (hm : m ≤ 9223372036854775806) :
    Calls Try.prog 59 #[.agg #[.slice A n c], .slice B m d] w fun e w' => e = .returned (.bool (Pl.termOk xs t)) ∧ Below w.heap.size w w' := by
  cases hs : Pl.sigOk xs
  · have HE := Lib.hid (termOk_no1 (t := t) hs)
    go_enter Try.func59, Try.ntmps59
    go_wp2_with fail
    refine (specSigOk_any A n c xs _ (h.alloc _) hn).mono ?_
    rintro e w1 ⟨rfl, hb1⟩
    go_wp2_with fail
    go_ret
    exact ⟨ret_bool HE.out.symm, below_then ((Below.refl _ _).alloc (Nat.le_refl _) _) hb1 (by simp)⟩
  · cases hq : inB (m : Int) 1 60
    · have HE := Lib.hid (termOk_no2 (ar := xs) h'.1 (by have := inB_false hq; omega))
      go_enter Try.func59, Try.ntmps59
      go_wp2_with fail
      refine (specSigOk_any A n c xs _ (h.alloc _) hn).mono ?_
      rintro e w1 ⟨rfl, hb1⟩
      go_wp2_with fail
      refine (l1In_any _ _ _ _).mono ?_
      rintro e w2 ⟨rfl, rfl⟩
      go_wp2_with fail
      go_ret
      exact ⟨ret_bool HE.out.symm, below_then ((Below.refl _ _).alloc (Nat.le_refl _) _) hb1 (by simp)⟩
    · have hq' := inB_true hq
      have HE := Lib.hid (termOk_yes hs h'.1 (by omega))
      go_enter Try.func59, Try.ntmps59
      go_wp2_with fail
      refine (specSigOk_any A n c xs _ (h.alloc _) hn).mono ?_
      rintro e w1 ⟨rfl, hb1⟩
      have hbox : w1.cell? ⟨w.heap.size, 0, none⟩ = some (.slice A n c) := (hb1.cell (by simp)).trans (by simp)
      go_wp2_with fail
      refine (l1In_any _ _ _ _).mono ?_
      rintro e w2 ⟨rfl, rfl⟩
      go_wp2_with fail
      refine (l1End_any A n c xs B m d t 0 _ ((h.alloc _).below hb1) ((h'.alloc _).below hb1) hn (by omega) hs (by omega)).mono ?_
      rintro e w2 ⟨rfl, hb2⟩
      go_wp2_with fail
      go_ret
      exact ⟨ret_bool HE.out.symm, below_then (below_then ((Below.refl _ _).alloc (Nat.le_refl _) _) hb1 (by simp)) hb2 (by have := hb1.size; simp at this; omega)⟩
set_option maxHeartbeats 400000 in
theorem slicesMin_any (B : Option Addr) (m d : Nat) (t : List Int) (w : World) (h' : RI w B m t) (hm : 1 ≤ m ∧ m ≤ 9223372036854775806) :
    Calls Try.prog 58 #[.slice B m d] w fun e w' => e = .returned (.int .i64 (Pl.lo t)) ∧ Below w.heap.size w w' := by
  have hlo := Lib.hid (Pl.lo_one t (by rw [h'.1]; omega))
  obtain ⟨g, off, x0, rfl, hc0, hx0⟩ := h'.at_ (k := 0) (by omega)
  rw [Nat.add_zero] at hc0
  obtain ⟨hm1, hm2⟩ := hm
  go_enter Try.func58, Try.ntmps58
  go_wp2
  go_loopw [3, 4] (fun u i wr => ∃ (k : Nat) (v : Int), 1 ≤ k ∧ k ≤ m ∧ i = .int .i64 k ∧ u = .int .i64 v ∧ Hid (v = Pl.lo (t.take k)) ∧ Below w.heap.size w wr) (fun _ i _ => m - (intOf i).toNat)
  case atStart => exact ⟨1, x0, by omega, by omega, rfl, rfl, hx0.out.trans hlo.out.symm, Below.refl _ _⟩
  case round =>
    obtain ⟨k, v, hk1, hk, rfl, rfl, hv, hb⟩ := hrel
    by_cases hlt : k < m
    · have hc := (h'.below hb).2 (by omega)
      obtain ⟨g', off', he, hc⟩ := hc
      simp only [Option.some.injEq, Addr.mk.injEq, and_true] at he
      obtain ⟨rfl, rfl⟩ := he
      obtain ⟨x, hx⟩ : ∃ x, x = t.getD k 0 := ⟨_, rfl⟩
      have hck : wr.cell? ⟨g, off + k, none⟩ = some (.int .i64 x) := by rw [hx]; exact hc k hlt
      have HX := Lib.hid hx
      clear hx hc hc0
      have hst := Lib.hid (Pl.lo_step t k hk1 (by rw [h'.1]; omega))
      by_cases hlt2 : x < v
      · go_wp2
        go_roundw
        case rel => exact ⟨k + 1, x, by omega, by omega, by go_num, rfl, by show x = _; rw [hst.out, ← hv.out, ← HX.out, if_pos hlt2], hb⟩
        case measure => simp [intOf]; omega
      · go_wp2
        go_roundw
        case rel => exact ⟨k + 1, v, by omega, by omega, by go_num, rfl, by show v = _; rw [hst.out, ← hv.out, ← HX.out, if_neg (by omega)], hb⟩
        case measure => simp [intOf]; omega
    · have hkm : k = m := by omega
      go_wp2
      go_ret
      refine ⟨ret_int ?_, hb⟩
      rw [hv.out, List.take_of_length_le (by rw [h'.1]; omega)]
end Go.Proofs.Ytcjgcopkeeiicaa
