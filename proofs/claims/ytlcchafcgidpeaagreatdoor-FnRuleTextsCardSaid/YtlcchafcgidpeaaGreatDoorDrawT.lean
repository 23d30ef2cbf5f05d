/- Contracts: drawn terms. -/
import Derived.Test.YtlcchafcgidpeaaGreatDoorDraw
import Derived.Test.YtlcchafcgidpeaaGreatDoorMat
import Derived.Test.YtlcchafcgidpeaaGreatDoorSig
import Derived.Deep.RegionLaw
namespace Go.Proofs.YtlcchafcgidpeaaGreatDoor
open Go.RowKit
set_option linter.unusedVariables false
set_option linter.unusedSimpArgs false

def dtB : Nat → Nat
  | 0 => 1
  | D + 1 => 1 + 3 * dtB D
theorem dtB_pos : ∀ D, 1 ≤ dtB D
  | 0 => Nat.le_refl _
  | D + 1 => by unfold dtB; omega
theorem dtB_mono : ∀ {D E : Nat}, D ≤ E → dtB D ≤ dtB E := by
  intro D E h
  induction E with
  | zero => have : D = 0 := by omega
            subst this; exact Nat.le_refl _
  | succ E ih =>
    rcases Nat.lt_or_ge D (E + 1) with h1 | h1
    · have := ih (by omega)
      show dtB D ≤ 1 + 3 * dtB E
      omega
    · have : D = E + 1 := by omega
      subst this; exact Nat.le_refl _
theorem run_leaf {f : Int → Int} {x : Int} (h : f x = 0) : Pl.run f 1 [x] = some 1 := by
  simp [Pl.run, h]
theorem run_node {f : Int → Int} {x : Int} {r : List Int} {a : Nat} (h : f x = a) (hr : Pl.run f a r = some r.length) : Pl.run f 1 (x :: r) = some (x :: r).length := by
  simp [Pl.run, h, hr]
theorem run_snoc {f : Int → Int} {r t : List Int} {j : Nat} (hr : Pl.run f j r = some r.length) (ht : Pl.run f 1 t = some t.length) (happ : ∀ {l : List Int} {m k : Nat} (s : List Int), Pl.run f m l = some k → Pl.run f m (l ++ s) = some k) : Pl.run f (j + 1) (r ++ t) = some (r ++ t).length := by
  rw [Pl.run_add, happ t hr]
  simp [ht]
theorem ari_var {xs : List Int} {x : Int} (h : -24 ≤ x) (h0 : x < 0) : Pl.ari xs x = 0 := by
  unfold Pl.ari
  split <;> simp_all <;> omega
theorem ari_sym {xs : List Int} {x : Nat} (h : x < xs.length) : Pl.ari xs x = xs.getD x 0 := by
  unfold Pl.ari
  split <;> simp_all <;> omega
theorem run_app2 {f : Int → Int} : ∀ {l : List Int} {m j : Nat} (r : List Int), Pl.run f m l = some j → Pl.run f m (l ++ r) = some j
  | [], 0, j, r, h => by rw [Pl.run_zero] at h ⊢; exact h
  | [], m + 1, j, r, h => by simp [Pl.run] at h
  | x :: xs, 0, j, r, h => by rw [Pl.run_zero] at h ⊢; exact h
  | x :: xs, m + 1, j, r, h => by
    simp only [List.cons_append, Pl.run] at h ⊢
    by_cases h0 : f x < 0
    · rw [if_pos h0] at h; cases h
    · rw [if_neg h0] at h ⊢
      simp only [Option.map_eq_some_iff] at h ⊢
      obtain ⟨i, hi, rfl⟩ := h
      exact ⟨i, run_app2 r hi, rfl⟩
set_option maxHeartbeats 8000000 in
set_option maxRecDepth 20000 in
theorem l1DrawTerm_any (cb : Nat) (A : Option Addr) (n c : Nat) (S : Option Addr) (m d' : Nat) (xs : List Int) (hsg : Pl.sigOk xs = true) (vars : Int) (hv0 : 0 ≤ vars) (hv1 : vars ≤ 24) : ∀ (D : Nat) (dep : Int) (w : World), dep ≤ D + 1 → D ≤ 4 → Dcur w cb A n c → RB w (cb + 1) S m xs →
    Calls Tryz.prog 70 #[.pointer (some ⟨cb, 0, none⟩), .agg #[.slice S m d'], .int .i64 dep, .int .i64 vars] w fun e w' => ∃ (T : Option Addr) (k d : Nat) (t : List Int), e = .returned (.slice T k d) ∧ OI w' w.heap.size T k d t ∧ 1 ≤ k ∧ k ≤ dtB D ∧ Hid (Pl.run (Pl.ari xs) 1 t = some t.length) ∧ Dcur w' cb A n c ∧ Only cb (cb + 1) w w' := by
  intro D
  induction D with
  | zero =>
    intro dep w hdep hD h hr
    have hlt := h.lt
    have e1 : decide (dep ≤ 1) = true := by simp; omega
    have bx := Blk.new w 26 #[.slice S m d']
    have hC := h.alloc (.cells #[.slice S m d'] 26)
    have hO := (Only.refl cb (cb + 1) w).alloc (.cells #[.slice S m d'] 26)
    have hR := hr.below ((Below.refl _ _).alloc (Nat.le_refl _) (.cells #[.slice S m d'] 26))
    have hs0 := bx.lt
    have hm8 := (Pl.sigOk_iff.1 hsg).1
    rw [hr.1.1] at hm8
    by_cases hv : 0 < vars
    · have ev : decide (0 < vars) = true := by simpa using hv
      go_enter Tryz.func70, Tryz.ntmps70
      go_wp2_with fail
      generalize w.alloc (.cells #[.slice S m d'] 26) = W at *
      refine (l1Once_any cb A n c 2 W hC (by omega)).mono ?_
      rintro e w8 ⟨b, rfl, hC8, ho8⟩
      replace bx := bx.only ho8 (Or.inr (by omega))
      replace hR := hR.up ho8 (Nat.le_refl _)
      replace hO := hO.trans ho8
      have hs8 := bx.lt
      clear ho8
      replace hC := hC8
      clear hC8
      cases b
      · have hl := hR.1.1
        have KX : ∀ i, (w8).cell? ⟨w.heap.size, i, none⟩ = #[Value.slice S m d'][i]? := fun i => bx.cell i
        try go_wp2_with fail
        go_loopw [9] (fun i wr => ∃ (k : Nat) (q : Int), i = .int .i64 q ∧ q = (k : Int) - 1 ∧ k ≤ m ∧ wr = w8) (fun i _ => (intOf i + 1).toNat)
        case atStart => exact ⟨m, _, rfl, rfl, Nat.le_refl _, rfl⟩
        case round =>
          obtain ⟨k, q, rfl, hq, hk, rfl⟩ := hrel
          by_cases h0 : 1 ≤ k
          · obtain ⟨j, rfl⟩ : ∃ j, k = j + 1 := ⟨k - 1, by omega⟩
            obtain rfl : q = (j : Int) := by omega
            clear hq
            obtain ⟨g, off, x, rfl, hc, hx⟩ := hR.1.at_ (k := j) (by omega)
            by_cases hx0 : x = 0
            · subst hx0
              have HE := Lib.hid ((ari_sym (xs := xs) (x := j) (by omega)).trans hx.out.symm)
              clear hx
              go_wp2_with fail
              go_ret
              exact ⟨_, 1, 1, [(j : Int)], rfl, (OI.of_blk (xs := [(j : Int)]) (Blk.new (wr) 2 #[.int .i64 ((j : Int))]) (by show 1 ≤ 1048576; omega)).base (by omega), Nat.le_refl _, dtB_pos _, Lib.hid (run_leaf (HE.out)), hC.alloc _, hO.alloc _⟩
            · clear hx
              have e0 : (x == 0) = false := by simpa using hx0
              go_wp2_with fail
              go_roundw
              case rel => exact ⟨j, _, rfl, by omega, by omega, trivial⟩
              case measure => first | (simp [intOf]; done) | (simp [intOf]; omega)
          · obtain rfl : k = 0 := by omega
            obtain rfl : q = -1 := by omega
            clear hq
            go_wp2_with fail
            go_ret
            exact ⟨_, 1, 1, [(-1 : Int)], rfl, (OI.of_blk (xs := [(-1 : Int)]) (Blk.new (wr) 2 #[.int .i64 ((-1 : Int))]) (by show 1 ≤ 1048576; omega)).base (by omega), Nat.le_refl _, dtB_pos _, Lib.hid (run_leaf (ari_var (by omega) (by omega))), hC.alloc _, hO.alloc _⟩
      · go_wp2_with fail
        refine (l1Below_any cb A n c vars w8 hC (by omega)).mono ?_
        rintro e w9 ⟨x, rfl, hx0, hx1, hx2, hC9, ho9⟩
        have hs9 := (bx.only ho9 (Or.inr (by omega))).lt
        have hx3 := hx1 (by omega)
        replace hO := hO.trans ho9
        clear ho9
        replace hC := hC9
        clear hC9
        go_wp2_with fail
        go_ret
        exact ⟨_, 1, 1, [(-1 - x)], rfl, (OI.of_blk (xs := [(-1 - x)]) (Blk.new (w9) 2 #[.int .i64 ((-1 - x))]) (by show 1 ≤ 1048576; omega)).base (by omega), Nat.le_refl _, dtB_pos _, Lib.hid (run_leaf (ari_var (by omega) (by omega))), hC.alloc _, hO.alloc _⟩
    · have ev : decide (0 < vars) = false := by simpa using hv
      have KX : ∀ i, (w.alloc (.cells #[.slice S m d'] 26)).cell? ⟨w.heap.size, i, none⟩ = #[Value.slice S m d'][i]? := fun i => bx.cell i
      go_enter Tryz.func70, Tryz.ntmps70
      go_wp2_with fail
      clear KX
      generalize w.alloc (.cells #[.slice S m d'] 26) = W at *
      have hl := hR.1.1
      have KX : ∀ i, (W).cell? ⟨w.heap.size, i, none⟩ = #[Value.slice S m d'][i]? := fun i => bx.cell i
      try go_wp2_with fail
      go_loopw [9] (fun i wr => ∃ (k : Nat) (q : Int), i = .int .i64 q ∧ q = (k : Int) - 1 ∧ k ≤ m ∧ wr = W) (fun i _ => (intOf i + 1).toNat)
      case atStart => exact ⟨m, _, rfl, rfl, Nat.le_refl _, rfl⟩
      case round =>
        obtain ⟨k, q, rfl, hq, hk, rfl⟩ := hrel
        by_cases h0 : 1 ≤ k
        · obtain ⟨j, rfl⟩ : ∃ j, k = j + 1 := ⟨k - 1, by omega⟩
          obtain rfl : q = (j : Int) := by omega
          clear hq
          obtain ⟨g, off, x, rfl, hc, hx⟩ := hR.1.at_ (k := j) (by omega)
          by_cases hx0 : x = 0
          · subst hx0
            have HE := Lib.hid ((ari_sym (xs := xs) (x := j) (by omega)).trans hx.out.symm)
            clear hx
            go_wp2_with fail
            go_ret
            exact ⟨_, 1, 1, [(j : Int)], rfl, (OI.of_blk (xs := [(j : Int)]) (Blk.new (wr) 2 #[.int .i64 ((j : Int))]) (by show 1 ≤ 1048576; omega)).base (by omega), Nat.le_refl _, dtB_pos _, Lib.hid (run_leaf (HE.out)), hC.alloc _, hO.alloc _⟩
          · clear hx
            have e0 : (x == 0) = false := by simpa using hx0
            go_wp2_with fail
            go_roundw
            case rel => exact ⟨j, _, rfl, by omega, by omega, trivial⟩
            case measure => first | (simp [intOf]; done) | (simp [intOf]; omega)
        · obtain rfl : k = 0 := by omega
          obtain rfl : q = -1 := by omega
          clear hq
          go_wp2_with fail
          go_ret
          exact ⟨_, 1, 1, [(-1 : Int)], rfl, (OI.of_blk (xs := [(-1 : Int)]) (Blk.new (wr) 2 #[.int .i64 ((-1 : Int))]) (by show 1 ≤ 1048576; omega)).base (by omega), Nat.le_refl _, dtB_pos _, Lib.hid (run_leaf (ari_var (by omega) (by omega))), hC.alloc _, hO.alloc _⟩
  | succ D ih =>
    intro dep w hdep hD h hr
    have hlt := h.lt
    have bx := Blk.new w 26 #[.slice S m d']
    have hC := h.alloc (.cells #[.slice S m d'] 26)
    have hO := (Only.refl cb (cb + 1) w).alloc (.cells #[.slice S m d'] 26)
    have hR := hr.below ((Below.refl _ _).alloc (Nat.le_refl _) (.cells #[.slice S m d'] 26))
    have hs0 := bx.lt
    have hm8 := (Pl.sigOk_iff.1 hsg).1
    rw [hr.1.1] at hm8
    by_cases hd : dep ≤ 1
    · have e1 : decide (dep ≤ 1) = true := by simpa using hd
      by_cases hv : 0 < vars
      · have ev : decide (0 < vars) = true := by simpa using hv
        go_enter Tryz.func70, Tryz.ntmps70
        go_wp2_with fail
        generalize w.alloc (.cells #[.slice S m d'] 26) = W at *
        refine (l1Once_any cb A n c 2 W hC (by omega)).mono ?_
        rintro e w8 ⟨b, rfl, hC8, ho8⟩
        replace bx := bx.only ho8 (Or.inr (by omega))
        replace hR := hR.up ho8 (Nat.le_refl _)
        replace hO := hO.trans ho8
        have hs8 := bx.lt
        clear ho8
        replace hC := hC8
        clear hC8
        cases b
        · have hl := hR.1.1
          have KX : ∀ i, (w8).cell? ⟨w.heap.size, i, none⟩ = #[Value.slice S m d'][i]? := fun i => bx.cell i
          try go_wp2_with fail
          go_loopw [9] (fun i wr => ∃ (k : Nat) (q : Int), i = .int .i64 q ∧ q = (k : Int) - 1 ∧ k ≤ m ∧ wr = w8) (fun i _ => (intOf i + 1).toNat)
          case atStart => exact ⟨m, _, rfl, rfl, Nat.le_refl _, rfl⟩
          case round =>
            obtain ⟨k, q, rfl, hq, hk, rfl⟩ := hrel
            by_cases h0 : 1 ≤ k
            · obtain ⟨j, rfl⟩ : ∃ j, k = j + 1 := ⟨k - 1, by omega⟩
              obtain rfl : q = (j : Int) := by omega
              clear hq
              obtain ⟨g, off, x, rfl, hc, hx⟩ := hR.1.at_ (k := j) (by omega)
              by_cases hx0 : x = 0
              · subst hx0
                have HE := Lib.hid ((ari_sym (xs := xs) (x := j) (by omega)).trans hx.out.symm)
                clear hx
                go_wp2_with fail
                go_ret
                exact ⟨_, 1, 1, [(j : Int)], rfl, (OI.of_blk (xs := [(j : Int)]) (Blk.new (wr) 2 #[.int .i64 ((j : Int))]) (by show 1 ≤ 1048576; omega)).base (by omega), Nat.le_refl _, dtB_pos _, Lib.hid (run_leaf (HE.out)), hC.alloc _, hO.alloc _⟩
              · clear hx
                have e0 : (x == 0) = false := by simpa using hx0
                go_wp2_with fail
                go_roundw
                case rel => exact ⟨j, _, rfl, by omega, by omega, trivial⟩
                case measure => first | (simp [intOf]; done) | (simp [intOf]; omega)
            · obtain rfl : k = 0 := by omega
              obtain rfl : q = -1 := by omega
              clear hq
              go_wp2_with fail
              go_ret
              exact ⟨_, 1, 1, [(-1 : Int)], rfl, (OI.of_blk (xs := [(-1 : Int)]) (Blk.new (wr) 2 #[.int .i64 ((-1 : Int))]) (by show 1 ≤ 1048576; omega)).base (by omega), Nat.le_refl _, dtB_pos _, Lib.hid (run_leaf (ari_var (by omega) (by omega))), hC.alloc _, hO.alloc _⟩
        · go_wp2_with fail
          refine (l1Below_any cb A n c vars w8 hC (by omega)).mono ?_
          rintro e w9 ⟨x, rfl, hx0, hx1, hx2, hC9, ho9⟩
          have hs9 := (bx.only ho9 (Or.inr (by omega))).lt
          have hx3 := hx1 (by omega)
          replace hO := hO.trans ho9
          clear ho9
          replace hC := hC9
          clear hC9
          go_wp2_with fail
          go_ret
          exact ⟨_, 1, 1, [(-1 - x)], rfl, (OI.of_blk (xs := [(-1 - x)]) (Blk.new (w9) 2 #[.int .i64 ((-1 - x))]) (by show 1 ≤ 1048576; omega)).base (by omega), Nat.le_refl _, dtB_pos _, Lib.hid (run_leaf (ari_var (by omega) (by omega))), hC.alloc _, hO.alloc _⟩
      · have ev : decide (0 < vars) = false := by simpa using hv
        have KX : ∀ i, (w.alloc (.cells #[.slice S m d'] 26)).cell? ⟨w.heap.size, i, none⟩ = #[Value.slice S m d'][i]? := fun i => bx.cell i
        go_enter Tryz.func70, Tryz.ntmps70
        go_wp2_with fail
        clear KX
        generalize w.alloc (.cells #[.slice S m d'] 26) = W at *
        have hl := hR.1.1
        have KX : ∀ i, (W).cell? ⟨w.heap.size, i, none⟩ = #[Value.slice S m d'][i]? := fun i => bx.cell i
        try go_wp2_with fail
        go_loopw [9] (fun i wr => ∃ (k : Nat) (q : Int), i = .int .i64 q ∧ q = (k : Int) - 1 ∧ k ≤ m ∧ wr = W) (fun i _ => (intOf i + 1).toNat)
        case atStart => exact ⟨m, _, rfl, rfl, Nat.le_refl _, rfl⟩
        case round =>
          obtain ⟨k, q, rfl, hq, hk, rfl⟩ := hrel
          by_cases h0 : 1 ≤ k
          · obtain ⟨j, rfl⟩ : ∃ j, k = j + 1 := ⟨k - 1, by omega⟩
            obtain rfl : q = (j : Int) := by omega
            clear hq
            obtain ⟨g, off, x, rfl, hc, hx⟩ := hR.1.at_ (k := j) (by omega)
            by_cases hx0 : x = 0
            · subst hx0
              have HE := Lib.hid ((ari_sym (xs := xs) (x := j) (by omega)).trans hx.out.symm)
              clear hx
              go_wp2_with fail
              go_ret
              exact ⟨_, 1, 1, [(j : Int)], rfl, (OI.of_blk (xs := [(j : Int)]) (Blk.new (wr) 2 #[.int .i64 ((j : Int))]) (by show 1 ≤ 1048576; omega)).base (by omega), Nat.le_refl _, dtB_pos _, Lib.hid (run_leaf (HE.out)), hC.alloc _, hO.alloc _⟩
            · clear hx
              have e0 : (x == 0) = false := by simpa using hx0
              go_wp2_with fail
              go_roundw
              case rel => exact ⟨j, _, rfl, by omega, by omega, trivial⟩
              case measure => first | (simp [intOf]; done) | (simp [intOf]; omega)
          · obtain rfl : k = 0 := by omega
            obtain rfl : q = -1 := by omega
            clear hq
            go_wp2_with fail
            go_ret
            exact ⟨_, 1, 1, [(-1 : Int)], rfl, (OI.of_blk (xs := [(-1 : Int)]) (Blk.new (wr) 2 #[.int .i64 ((-1 : Int))]) (by show 1 ≤ 1048576; omega)).base (by omega), Nat.le_refl _, dtB_pos _, Lib.hid (run_leaf (ari_var (by omega) (by omega))), hC.alloc _, hO.alloc _⟩
    · have e1 : decide (dep ≤ 1) = false := by simpa using hd
      go_enter Tryz.func70, Tryz.ntmps70
      go_wp2_with fail
      generalize w.alloc (.cells #[.slice S m d'] 26) = W at *
      refine (l1Once_any cb A n c 4 W hC (by omega)).mono ?_
      rintro e w7 ⟨b, rfl, hC7, ho7⟩
      replace bx := bx.only ho7 (Or.inr (by omega))
      replace hR := hR.up ho7 (Nat.le_refl _)
      replace hO := hO.trans ho7
      have hs7 := bx.lt
      clear ho7
      replace hC := hC7
      clear hC7
      cases b
      · have KX : ∀ i, w7.cell? ⟨w.heap.size, i, none⟩ = #[Value.slice S m d'][i]? := fun i => bx.cell i
        go_wp2_with fail
        refine (l1Below_any cb A n c (m : Int) w7 hC (by omega)).mono ?_
        rintro e w6 ⟨x, rfl, hx0, hx1, hx2, hC6, ho6⟩
        have hx3 := hx1 (by omega)
        obtain ⟨f, rfl⟩ : ∃ f : Nat, x = f := ⟨x.toNat, by omega⟩
        replace bx := bx.only ho6 (Or.inr (by omega))
        replace hR := hR.up ho6 (Nat.le_refl _)
        replace hO := hO.trans ho6
        have hs6 := bx.lt
        clear ho6 KX hC hx1 hx2
        have hl := hR.1.1
        obtain ⟨g, off, a, rfl, hc, ha⟩ := hR.1.at_ (k := f) (by omega)
        have ha3 : 0 ≤ a ∧ a ≤ 3 := (Pl.sigOk_iff.1 hsg).2 a (by rw [ha.out]; exact Pl.getD_mem (by omega))
        obtain ⟨r, rfl⟩ : ∃ r : Nat, a = r := ⟨a.toNat, by omega⟩
        have HA := Lib.hid ((ari_sym (xs := xs) (x := f) (by omega)).trans ha.out.symm)
        clear ha
        have hDB : dtB D ≤ 121 := Nat.le_trans (dtB_mono (by omega : D ≤ 4)) (by decide)
        have KX : ∀ i, w6.cell? ⟨w.heap.size, i, none⟩ = #[Value.slice (some ⟨g, off, none⟩) m d'][i]? := fun i => bx.cell i
        have KX2 : ∀ i, (w6.alloc (.cells #[.int .i64 f] 2)).cell? ⟨w.heap.size, i, none⟩ = #[Value.slice (some ⟨g, off, none⟩) m d'][i]? := fun i => (bx.alloc _).cell i
        have hgl := World.block_lt_of_cell? w6 _ hc
        simp only at hgl
        go_wp2_with fail
        have hI := OI.of_blk (xs := [(f : Int)]) (Blk.new w6 2 #[.int .i64 f]) (by show 1 ≤ 1048576; omega)
        replace bx := bx.alloc (.cells #[.int .i64 f] 2)
        replace hR := hR.below ((Below.refl _ w6).alloc (Nat.le_refl _) (.cells #[.int .i64 f] 2))
        replace hO := hO.alloc (.cells #[.int .i64 f] 2)
        replace hC6 := hC6.alloc (.cells #[.int .i64 f] 2)
        have HI := Lib.hid (hI.base (B' := w.heap.size + 1) (by omega))
        clear hI KX KX2 hc hgl
        generalize w6.alloc (.cells #[.int .i64 f] 2) = W6 at *
        obtain ⟨i0, hi, hz0, hz1, hz2⟩ := info_parts infoInt64
        go_loopw [11, 12] (fun u v wr => ∃ (k j : Nat) (T' : Option Addr) (d : Nat) (rest : List Int), v = .int .i64 k ∧ u = .slice T' (rest.length + 1) d ∧ k + j = r ∧ Hid (OI wr (w.heap.size + 1) T' (rest.length + 1) d ((f : Int) :: rest)) ∧ Hid (Pl.run (Pl.ari xs) j rest = some rest.length) ∧ rest.length ≤ j * dtB D ∧ Blk wr w.heap.size 26 #[.slice (some ⟨g, off, none⟩) m d'] ∧ RB wr (cb + 1) (some ⟨g, off, none⟩) m xs ∧ Dcur wr cb A n c ∧ Only cb (cb + 1) w wr) (fun _ v _ => (intOf v).toNat)
        case atStart => exact ⟨r, 0, _, _, [], rfl, rfl, rfl, HI, Lib.hid (Pl.run_zero _ _), by simp, bx, hR, hC6, hO⟩
        case round =>
          clear HI bx hR hC6 hO
          obtain ⟨k, j, T', d, rest, rfl, rfl, hkj, ho, hrun, hrl, bx, hR, hC, hO⟩ := hrel
          have KX : ∀ i, wr.cell? ⟨w.heap.size, i, none⟩ = #[Value.slice (some ⟨g, off, none⟩) m d'][i]? := fun i => bx.cell i
          have hsr := bx.lt
          have hj3 : j * dtB D ≤ 3 * dtB D := Nat.mul_le_mul_right _ (by omega)
          by_cases h0 : 0 < k
          · go_wp2_with fail
            refine (ih (dep - 1) wr (by omega) (by omega) hC hR).mono ?_
            rintro e w4 ⟨T, q, d4, t, rfl, hoT, hq1, hq2, hrunT, hC4, ho4⟩
            have howa := Lib.hid (ho.out.up ho4 (by omega))
            have hsz4 := ho4.size
            have hlt := hoT.ri.1
            go_wp2_with (at_builtin; refine wpList_append_any rfl _ _ 24 rfl (w.heap.size + 1) 2 i0 (.int .i64 0) 1 8 Tryz.underlying24 hi hz0 hz1 hz2 rfl (by omega) T' (rest.length + 1) d (((f : Int) :: rest).map (Value.int .i64)) rfl howa.out T q d4 (t.map (Value.int .i64)) rfl (Src.ints hoT.ri) (by unfold maxLen; omega) (by omega) (by omega) ?_; intro A2 c2 w5 ho5 hg5 hnil5)
            have hgb := grown_below hg5 howa.out (by omega)
            have he : (rest ++ t).length + 1 = rest.length + 1 + q := by rw [List.length_append]; omega
            have HI5 : Hid (OI w5 (w.heap.size + 1) A2 ((rest ++ t).length + 1) c2 ((f : Int) :: (rest ++ t))) := Lib.hid (by rw [he, ← List.cons_append]; unfold OI; rw [List.map_append]; exact ho5)
            have HR5 := Lib.hid (run_snoc hrun.out hrunT.out fun s h => run_app2 s h)
            have hle : (rest ++ t).length ≤ (j + 1) * dtB D := by rw [List.length_append, Nat.add_mul]; omega
            have bx5 := (bx.only ho4 (Or.inr (by omega))).belowB hgb (by omega)
            have hC5 := hC4.belowB hgb (by omega)
            have hO5 := (hO.trans ho4).thenB hgb (by omega)
            have hR5 : RB w5 (cb + 1) (some ⟨g, off, none⟩) m xs := hr.up hO5 (Nat.le_refl _)
            clear hgb ho5 hg5 hnil5 howa ho hoT ho4 hC4
            go_roundw
            case rel => exact ⟨k - 1, j + 1, A2, c2, rest ++ t, by go_num, by rw [he], by omega, HI5, HR5, hle, bx5, hR5, hC5, hO5⟩
            case measure => simp [intOf]; omega
          · obtain rfl : k = 0 := by omega
            obtain rfl : j = r := by omega
            go_wp2_with fail
            go_ret
            exact ⟨T', rest.length + 1, d, (f : Int) :: rest, rfl, ho.out.base (by omega), by omega, by show _ ≤ 1 + 3 * dtB D; omega, Lib.hid (run_node HA.out hrun.out), hC, hO⟩
      · by_cases hv : 0 < vars
        · have ev : decide (0 < vars) = true := by simpa using hv
          go_wp2_with fail
          refine (l1Once_any cb A n c 2 w7 hC (by omega)).mono ?_
          rintro e w8 ⟨b, rfl, hC8, ho8⟩
          replace bx := bx.only ho8 (Or.inr (by omega))
          replace hR := hR.up ho8 (Nat.le_refl _)
          replace hO := hO.trans ho8
          have hs8 := bx.lt
          clear ho8
          replace hC := hC8
          clear hC8
          cases b
          · have hl := hR.1.1
            have KX : ∀ i, (w8).cell? ⟨w.heap.size, i, none⟩ = #[Value.slice S m d'][i]? := fun i => bx.cell i
            try go_wp2_with fail
            go_loopw [9] (fun i wr => ∃ (k : Nat) (q : Int), i = .int .i64 q ∧ q = (k : Int) - 1 ∧ k ≤ m ∧ wr = w8) (fun i _ => (intOf i + 1).toNat)
            case atStart => exact ⟨m, _, rfl, rfl, Nat.le_refl _, rfl⟩
            case round =>
              obtain ⟨k, q, rfl, hq, hk, rfl⟩ := hrel
              by_cases h0 : 1 ≤ k
              · obtain ⟨j, rfl⟩ : ∃ j, k = j + 1 := ⟨k - 1, by omega⟩
                obtain rfl : q = (j : Int) := by omega
                clear hq
                obtain ⟨g, off, x, rfl, hc, hx⟩ := hR.1.at_ (k := j) (by omega)
                by_cases hx0 : x = 0
                · subst hx0
                  have HE := Lib.hid ((ari_sym (xs := xs) (x := j) (by omega)).trans hx.out.symm)
                  clear hx
                  go_wp2_with fail
                  go_ret
                  exact ⟨_, 1, 1, [(j : Int)], rfl, (OI.of_blk (xs := [(j : Int)]) (Blk.new (wr) 2 #[.int .i64 ((j : Int))]) (by show 1 ≤ 1048576; omega)).base (by omega), Nat.le_refl _, dtB_pos _, Lib.hid (run_leaf (HE.out)), hC.alloc _, hO.alloc _⟩
                · clear hx
                  have e0 : (x == 0) = false := by simpa using hx0
                  go_wp2_with fail
                  go_roundw
                  case rel => exact ⟨j, _, rfl, by omega, by omega, trivial⟩
                  case measure => first | (simp [intOf]; done) | (simp [intOf]; omega)
              · obtain rfl : k = 0 := by omega
                obtain rfl : q = -1 := by omega
                clear hq
                go_wp2_with fail
                go_ret
                exact ⟨_, 1, 1, [(-1 : Int)], rfl, (OI.of_blk (xs := [(-1 : Int)]) (Blk.new (wr) 2 #[.int .i64 ((-1 : Int))]) (by show 1 ≤ 1048576; omega)).base (by omega), Nat.le_refl _, dtB_pos _, Lib.hid (run_leaf (ari_var (by omega) (by omega))), hC.alloc _, hO.alloc _⟩
          · go_wp2_with fail
            refine (l1Below_any cb A n c vars w8 hC (by omega)).mono ?_
            rintro e w9 ⟨x, rfl, hx0, hx1, hx2, hC9, ho9⟩
            have hs9 := (bx.only ho9 (Or.inr (by omega))).lt
            have hx3 := hx1 (by omega)
            replace hO := hO.trans ho9
            clear ho9
            replace hC := hC9
            clear hC9
            go_wp2_with fail
            go_ret
            exact ⟨_, 1, 1, [(-1 - x)], rfl, (OI.of_blk (xs := [(-1 - x)]) (Blk.new (w9) 2 #[.int .i64 ((-1 - x))]) (by show 1 ≤ 1048576; omega)).base (by omega), Nat.le_refl _, dtB_pos _, Lib.hid (run_leaf (ari_var (by omega) (by omega))), hC.alloc _, hO.alloc _⟩
        · have ev : decide (0 < vars) = false := by simpa using hv
          have KX : ∀ i, w7.cell? ⟨w.heap.size, i, none⟩ = #[Value.slice S m d'][i]? := fun i => bx.cell i
          go_wp2_with fail
          clear KX
          have hl := hR.1.1
          have KX : ∀ i, (w7).cell? ⟨w.heap.size, i, none⟩ = #[Value.slice S m d'][i]? := fun i => bx.cell i
          try go_wp2_with fail
          go_loopw [9] (fun i wr => ∃ (k : Nat) (q : Int), i = .int .i64 q ∧ q = (k : Int) - 1 ∧ k ≤ m ∧ wr = w7) (fun i _ => (intOf i + 1).toNat)
          case atStart => exact ⟨m, _, rfl, rfl, Nat.le_refl _, rfl⟩
          case round =>
            obtain ⟨k, q, rfl, hq, hk, rfl⟩ := hrel
            by_cases h0 : 1 ≤ k
            · obtain ⟨j, rfl⟩ : ∃ j, k = j + 1 := ⟨k - 1, by omega⟩
              obtain rfl : q = (j : Int) := by omega
              clear hq
              obtain ⟨g, off, x, rfl, hc, hx⟩ := hR.1.at_ (k := j) (by omega)
              by_cases hx0 : x = 0
              · subst hx0
                have HE := Lib.hid ((ari_sym (xs := xs) (x := j) (by omega)).trans hx.out.symm)
                clear hx
                go_wp2_with fail
                go_ret
                exact ⟨_, 1, 1, [(j : Int)], rfl, (OI.of_blk (xs := [(j : Int)]) (Blk.new (wr) 2 #[.int .i64 ((j : Int))]) (by show 1 ≤ 1048576; omega)).base (by omega), Nat.le_refl _, dtB_pos _, Lib.hid (run_leaf (HE.out)), hC.alloc _, hO.alloc _⟩
              · clear hx
                have e0 : (x == 0) = false := by simpa using hx0
                go_wp2_with fail
                go_roundw
                case rel => exact ⟨j, _, rfl, by omega, by omega, trivial⟩
                case measure => first | (simp [intOf]; done) | (simp [intOf]; omega)
            · obtain rfl : k = 0 := by omega
              obtain rfl : q = -1 := by omega
              clear hq
              go_wp2_with fail
              go_ret
              exact ⟨_, 1, 1, [(-1 : Int)], rfl, (OI.of_blk (xs := [(-1 : Int)]) (Blk.new (wr) 2 #[.int .i64 ((-1 : Int))]) (by show 1 ≤ 1048576; omega)).base (by omega), Nat.le_refl _, dtB_pos _, Lib.hid (run_leaf (ari_var (by omega) (by omega))), hC.alloc _, hO.alloc _⟩
end Go.Proofs.YtlcchafcgidpeaaGreatDoor
