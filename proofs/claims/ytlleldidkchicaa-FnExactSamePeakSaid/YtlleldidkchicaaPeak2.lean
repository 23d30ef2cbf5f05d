/- Contracts: are two peaks the same? -/
import Derived.Test.YtlleldidkchicaaPeak
import Derived.Test.YtlleldidkchicaaTerms
namespace Go.Proofs.Ytlleldidkchicaa
open Go.RowKit
set_option linter.unusedVariables false

theorem RR.three' {w : World} {A B C : Option Addr} {n c m d o f : Nat} {x y z : List Int} {T : TypeId} (h : RI w A n x) (hn : n ≤ 9223372036854775807) (h' : RI w B m y) (hm : m ≤ 9223372036854775807) (h'' : RI w C o z) (ho : o ≤ 9223372036854775807) :
    RR (w.alloc (.cells #[.slice A n c, .slice B m d, .slice C o f] T)) (some ⟨w.heap.size, 0, none⟩) 3 [x, y, z] := by
  refine ⟨rfl, fun _ => ⟨w.heap.size, 0, rfl, fun k hk => ?_⟩⟩
  have hn_ := (Blk.new w T #[.slice A n c, .slice B m d, .slice C o f])
  match k, hk with
  | 0, _ => exact ⟨A, n, c, by rw [Nat.zero_add, hn_.cell]; rfl, h.alloc _, hn⟩
  | 1, _ => exact ⟨B, m, d, by rw [Nat.zero_add, hn_.cell]; rfl, h'.alloc _, hm⟩
  | 2, _ => exact ⟨C, o, f, by rw [Nat.zero_add, hn_.cell]; rfl, h''.alloc _, ho⟩
theorem eqP_same3 {xs ys zs xs' ys' zs' : List Int} {p q r : Int} : eqP xs ys zs xs' ys' zs' p q r p q r = decide ([xs, ys, zs] = [xs', ys', zs']) := by
  unfold eqP
  rw [Bool.eq_iff_iff]
  simp [and_assoc]
theorem eqP_ints {xs ys zs xs' ys' zs' : List Int} {p q r p' q' r' : Int} (h : ¬ (p = p' ∧ q = q' ∧ r = r')) : eqP xs ys zs xs' ys' zs' p q r p' q' r' = false := by
  unfold eqP
  rw [Bool.eq_false_iff]
  intro hh
  simp only [Bool.and_eq_true, decide_eq_true_eq] at hh
  exact h ⟨hh.1.1.2, hh.1.2, hh.2⟩
theorem eqP_rows {xs ys zs xs' ys' zs' : List Int} {p q r p' q' r' : Int} (h : ¬ (xs = xs' ∧ ys = ys' ∧ zs = zs')) : eqP xs ys zs xs' ys' zs' p q r p' q' r' = false := by
  unfold eqP
  rw [Bool.eq_false_iff]
  intro hh
  simp only [Bool.and_eq_true, decide_eq_true_eq] at hh
  exact h ⟨hh.1.1.1.1.1, hh.1.1.1.1.2, hh.1.1.1.2⟩
set_option maxHeartbeats 4000000 in
set_option maxRecDepth 20000 in
theorem S_SamePeak (A : Option Addr) (n c : Nat) (xs : List Int) (B : Option Addr) (m d : Nat) (ys : List Int) (C : Option Addr) (o f : Nat) (zs : List Int) (p q r : Int)
    (A' : Option Addr) (n' c' : Nat) (xs' : List Int) (B' : Option Addr) (m' d' : Nat) (ys' : List Int) (C' : Option Addr) (o' f' : Nat) (zs' : List Int) (p' q' r' : Int) (w : World)
    (h : RI w A n xs) (h' : RI w B m ys) (h'' : RI w C o zs) (k : RI w A' n' xs') (k' : RI w B' m' ys') (k'' : RI w C' o' zs') (hs : n + m + o ≤ 1048576) (hs' : n' + m' + o' ≤ 1048576) :
    Calls Try.prog 33 #[.agg #[.slice A n c, .slice B m d, .slice C o f, .int .i64 p, .int .i64 q, .int .i64 r], .agg #[.slice A' n' c', .slice B' m' d', .slice C' o' f', .int .i64 p', .int .i64 q', .int .i64 r']] w fun e w' => e = .returned (.bool (eqP xs ys zs xs' ys' zs' p q r p' q' r')) ∧ Below w.heap.size w w' := by
  have hB0 : Below w.heap.size w ((w.alloc (.cells #[.slice A n c, .slice B m d, .slice C o f, .int .i64 p, .int .i64 q, .int .i64 r] 38)).alloc (.cells #[.slice A' n' c', .slice B' m' d', .slice C' o' f', .int .i64 p', .int .i64 q', .int .i64 r'] 38)) := ((Below.refl _ _).alloc (Nat.le_refl _) _).alloc (by simp <;> omega) _
  have bk0 : Blk ((w.alloc (.cells #[.slice A n c, .slice B m d, .slice C o f, .int .i64 p, .int .i64 q, .int .i64 r] 38)).alloc (.cells #[.slice A' n' c', .slice B' m' d', .slice C' o' f', .int .i64 p', .int .i64 q', .int .i64 r'] 38)) w.heap.size 38 #[.slice A n c, .slice B m d, .slice C o f, .int .i64 p, .int .i64 q, .int .i64 r] := (Blk.new w _ _).alloc _
  have bk1 : Blk ((w.alloc (.cells #[.slice A n c, .slice B m d, .slice C o f, .int .i64 p, .int .i64 q, .int .i64 r] 38)).alloc (.cells #[.slice A' n' c', .slice B' m' d', .slice C' o' f', .int .i64 p', .int .i64 q', .int .i64 r'] 38)) (w.heap.size + 1) 38 #[.slice A' n' c', .slice B' m' d', .slice C' o' f', .int .i64 p', .int .i64 q', .int .i64 r'] := by
    have := Blk.new (w.alloc (.cells #[.slice A n c, .slice B m d, .slice C o f, .int .i64 p, .int .i64 q, .int .i64 r] 38)) 38 #[.slice A' n' c', .slice B' m' d', .slice C' o' f', .int .i64 p', .int .i64 q', .int .i64 r']
    simpa only [World.size_alloc] using this
  generalize hW0 : (w.alloc (.cells #[.slice A n c, .slice B m d, .slice C o f, .int .i64 p, .int .i64 q, .int .i64 r] 38)).alloc (.cells #[.slice A' n' c', .slice B' m' d', .slice C' o' f', .int .i64 p', .int .i64 q', .int .i64 r'] 38) = W0 at *
  have K0 : ∀ i, W0.cell? ⟨w.heap.size, i, none⟩ = #[.slice A n c, .slice B m d, .slice C o f, .int .i64 p, .int .i64 q, .int .i64 r][i]? := fun i => bk0.cell i
  have K1 : ∀ i, W0.cell? ⟨w.heap.size + 1, i, none⟩ = #[.slice A' n' c', .slice B' m' d', .slice C' o' f', .int .i64 p', .int .i64 q', .int .i64 r'][i]? := fun i => bk1.cell i
  by_cases e1 : p = p'
  rotate_left
  · have HE := Lib.hid (eqP_ints (xs := xs) (ys := ys) (zs := zs) (xs' := xs') (ys' := ys') (zs' := zs') (p := p) (q := q) (r := r) (p' := p') (q' := q') (r' := r') (fun hh => e1 hh.1))
    have e2 : (p == p') = false := by simpa using e1
    go_enter Try.func33, Try.ntmps33
    go_wp2_with fail
    go_ret
    exact ⟨ret_bool HE.out.symm, hB0⟩
  subst e1
  by_cases e1 : q = q'
  rotate_left
  · have HE := Lib.hid (eqP_ints (xs := xs) (ys := ys) (zs := zs) (xs' := xs') (ys' := ys') (zs' := zs') (p := p) (q := q) (r := r) (p' := p) (q' := q') (r' := r') (fun hh => e1 hh.2.1))
    have e2 : (q == q') = false := by simpa using e1
    go_enter Try.func33, Try.ntmps33
    go_wp2_with fail
    go_ret
    exact ⟨ret_bool HE.out.symm, hB0⟩
  subst e1
  by_cases e1 : r = r'
  rotate_left
  · have HE := Lib.hid (eqP_ints (xs := xs) (ys := ys) (zs := zs) (xs' := xs') (ys' := ys') (zs' := zs') (p := p) (q := q) (r := r) (p' := p) (q' := q) (r' := r') (fun hh => e1 hh.2.2))
    have e2 : (r == r') = false := by simpa using e1
    go_enter Try.func33, Try.ntmps33
    go_wp2_with fail
    go_ret
    exact ⟨ret_bool HE.out.symm, hB0⟩
  subst e1
  cases t1 : decide (xs = xs')
  · have HE := Lib.hid (eqP_rows (p := p) (q := q) (r := r) (p' := p) (q' := q) (r' := r) (ys := ys) (zs := zs) (ys' := ys') (zs' := zs') (fun hh => by rw [decide_eq_false_iff_not] at t1; exact t1 hh.1))
    have T1 := Lib.hid t1
    clear t1
    go_enter Try.func33, Try.ntmps33
    go_wp2_with fail
    refine (specSameTerm_any A n c xs A' n' c' xs' _ (h.below hB0) (k.below hB0) (by omega)).mono ?_
    rintro e w1 ⟨rfl, hb1⟩
    rw [T1.out]
    go_wp2_with fail
    go_ret
    exact ⟨ret_bool HE.out.symm, below_then hB0 hb1 hB0.size⟩
  · cases t2 : decide (ys = ys')
    · have HE := Lib.hid (eqP_rows (p := p) (q := q) (r := r) (p' := p) (q' := q) (r' := r) (xs := xs) (zs := zs) (xs' := xs') (zs' := zs') (fun hh => by rw [decide_eq_false_iff_not] at t2; exact t2 hh.2.1))
      have T1 := Lib.hid t1
      have T2 := Lib.hid t2
      clear t1 t2
      go_enter Try.func33, Try.ntmps33
      go_wp2_with fail
      refine (specSameTerm_any A n c xs A' n' c' xs' _ (h.below hB0) (k.below hB0) (by omega)).mono ?_
      rintro e w1 ⟨rfl, hb1⟩
      rw [T1.out]
      clear hW0 K0 K1
      replace bk0 := bk0.below hb1
      replace bk1 := bk1.below hb1
      replace hB0 := below_then hB0 hb1 hB0.size
      have K0 : ∀ i, w1.cell? ⟨w.heap.size, i, none⟩ = #[.slice A n c, .slice B m d, .slice C o f, .int .i64 p, .int .i64 q, .int .i64 r][i]? := fun i => bk0.cell i
      have K1 : ∀ i, w1.cell? ⟨w.heap.size + 1, i, none⟩ = #[.slice A' n' c', .slice B' m' d', .slice C' o' f', .int .i64 p, .int .i64 q, .int .i64 r][i]? := fun i => bk1.cell i
      clear hb1
      go_wp2_with fail
      refine (specSameTerm_any B m d ys B' m' d' ys' _ (h'.below hB0) (k'.below hB0) (by omega)).mono ?_
      rintro e w2 ⟨rfl, hb2⟩
      rw [T2.out]
      go_wp2_with fail
      go_ret
      exact ⟨ret_bool HE.out.symm, below_then hB0 hb2 hB0.size⟩
    · have HE : Hid (eqP xs ys zs xs' ys' zs' p q r p q r = decide (zs = zs')) := Lib.hid (by rw [decide_eq_true_eq] at t1 t2; subst t1 t2; unfold eqP; simp)
      have T1 := Lib.hid t1
      have T2 := Lib.hid t2
      clear t1 t2
      go_enter Try.func33, Try.ntmps33
      go_wp2_with fail
      refine (specSameTerm_any A n c xs A' n' c' xs' _ (h.below hB0) (k.below hB0) (by omega)).mono ?_
      rintro e w1 ⟨rfl, hb1⟩
      rw [T1.out]
      clear hW0 K0 K1
      replace bk0 := bk0.below hb1
      replace bk1 := bk1.below hb1
      replace hB0 := below_then hB0 hb1 hB0.size
      have K0 : ∀ i, w1.cell? ⟨w.heap.size, i, none⟩ = #[.slice A n c, .slice B m d, .slice C o f, .int .i64 p, .int .i64 q, .int .i64 r][i]? := fun i => bk0.cell i
      have K1 : ∀ i, w1.cell? ⟨w.heap.size + 1, i, none⟩ = #[.slice A' n' c', .slice B' m' d', .slice C' o' f', .int .i64 p, .int .i64 q, .int .i64 r][i]? := fun i => bk1.cell i
      clear hb1
      go_wp2_with fail
      refine (specSameTerm_any B m d ys B' m' d' ys' _ (h'.below hB0) (k'.below hB0) (by omega)).mono ?_
      rintro e w2 ⟨rfl, hb2⟩
      rw [T2.out]
      clear K0 K1
      replace bk0 := bk0.below hb2
      replace bk1 := bk1.below hb2
      replace hB0 := below_then hB0 hb2 hB0.size
      have K0 : ∀ i, w2.cell? ⟨w.heap.size, i, none⟩ = #[.slice A n c, .slice B m d, .slice C o f, .int .i64 p, .int .i64 q, .int .i64 r][i]? := fun i => bk0.cell i
      have K1 : ∀ i, w2.cell? ⟨w.heap.size + 1, i, none⟩ = #[.slice A' n' c', .slice B' m' d', .slice C' o' f', .int .i64 p, .int .i64 q, .int .i64 r][i]? := fun i => bk1.cell i
      clear hb2
      go_wp2_with fail
      refine (specSameTerm_any C o f zs C' o' f' zs' _ (h''.below hB0) (k''.below hB0) (by omega)).mono ?_
      rintro e w3 ⟨rfl, hb3⟩
      go_wp2_with fail
      go_ret
      exact ⟨ret_bool HE.out.symm, below_then hB0 hb3 hB0.size⟩
set_option maxHeartbeats 4000000 in
set_option maxRecDepth 20000 in
theorem I_SamePeak (A : Option Addr) (n c : Nat) (xs : List Int) (B : Option Addr) (m d : Nat) (ys : List Int) (C : Option Addr) (o f : Nat) (zs : List Int) (p q r : Int)
    (A' : Option Addr) (n' c' : Nat) (xs' : List Int) (B' : Option Addr) (m' d' : Nat) (ys' : List Int) (C' : Option Addr) (o' f' : Nat) (zs' : List Int) (p' q' r' : Int) (w : World)
    (h : RI w A n xs) (h' : RI w B m ys) (h'' : RI w C o zs) (k : RI w A' n' xs') (k' : RI w B' m' ys') (k'' : RI w C' o' zs') (hs : n + m + o ≤ 1048576) (hs' : n' + m' + o' ≤ 1048576) :
    Calls Try.prog 34 #[.agg #[.slice A n c, .slice B m d, .slice C o f, .int .i64 p, .int .i64 q, .int .i64 r], .agg #[.slice A' n' c', .slice B' m' d', .slice C' o' f', .int .i64 p', .int .i64 q', .int .i64 r']] w fun e w' => e = .returned (.bool (eqP xs ys zs xs' ys' zs' p q r p' q' r')) ∧ Below w.heap.size w w' := by
  have hB0 : Below w.heap.size w ((w.alloc (.cells #[.slice A n c, .slice B m d, .slice C o f, .int .i64 p, .int .i64 q, .int .i64 r] 38)).alloc (.cells #[.slice A' n' c', .slice B' m' d', .slice C' o' f', .int .i64 p', .int .i64 q', .int .i64 r'] 38)) := ((Below.refl _ _).alloc (Nat.le_refl _) _).alloc (by simp <;> omega) _
  have bk0 : Blk ((w.alloc (.cells #[.slice A n c, .slice B m d, .slice C o f, .int .i64 p, .int .i64 q, .int .i64 r] 38)).alloc (.cells #[.slice A' n' c', .slice B' m' d', .slice C' o' f', .int .i64 p', .int .i64 q', .int .i64 r'] 38)) w.heap.size 38 #[.slice A n c, .slice B m d, .slice C o f, .int .i64 p, .int .i64 q, .int .i64 r] := (Blk.new w _ _).alloc _
  have bk1 : Blk ((w.alloc (.cells #[.slice A n c, .slice B m d, .slice C o f, .int .i64 p, .int .i64 q, .int .i64 r] 38)).alloc (.cells #[.slice A' n' c', .slice B' m' d', .slice C' o' f', .int .i64 p', .int .i64 q', .int .i64 r'] 38)) (w.heap.size + 1) 38 #[.slice A' n' c', .slice B' m' d', .slice C' o' f', .int .i64 p', .int .i64 q', .int .i64 r'] := by
    have := Blk.new (w.alloc (.cells #[.slice A n c, .slice B m d, .slice C o f, .int .i64 p, .int .i64 q, .int .i64 r] 38)) 38 #[.slice A' n' c', .slice B' m' d', .slice C' o' f', .int .i64 p', .int .i64 q', .int .i64 r']
    simpa only [World.size_alloc] using this
  generalize hW0 : (w.alloc (.cells #[.slice A n c, .slice B m d, .slice C o f, .int .i64 p, .int .i64 q, .int .i64 r] 38)).alloc (.cells #[.slice A' n' c', .slice B' m' d', .slice C' o' f', .int .i64 p', .int .i64 q', .int .i64 r'] 38) = W0 at *
  have K0 : ∀ i, W0.cell? ⟨w.heap.size, i, none⟩ = #[.slice A n c, .slice B m d, .slice C o f, .int .i64 p, .int .i64 q, .int .i64 r][i]? := fun i => bk0.cell i
  have K1 : ∀ i, W0.cell? ⟨w.heap.size + 1, i, none⟩ = #[.slice A' n' c', .slice B' m' d', .slice C' o' f', .int .i64 p', .int .i64 q', .int .i64 r'][i]? := fun i => bk1.cell i
  have HR1 : Hid (RR (W0.alloc (.cells #[.slice A n c, .slice B m d, .slice C o f] 23)) (some ⟨W0.heap.size, 0, none⟩) 3 [xs, ys, zs]) := Lib.hid (RR.three' (h.below hB0) (by omega) (h'.below hB0) (by omega) (h''.below hB0) (by omega))
  have hB1 : Below w.heap.size w (W0.alloc (.cells #[.slice A n c, .slice B m d, .slice C o f] 23)) := hB0.alloc hB0.size _
  have HR2 : Hid (RR ((W0.alloc (.cells #[.slice A n c, .slice B m d, .slice C o f] 23)).alloc (.cells #[.slice A' n' c', .slice B' m' d', .slice C' o' f'] 23)) (some ⟨W0.heap.size + 1, 0, none⟩) 3 [xs', ys', zs']) := Lib.hid (by
    have := RR.three' (T := 23) (c := c') (d := d') (f := f') (k.below hB1) (by omega) (k'.below hB1) (by omega) (k''.below hB1) (by omega)
    simpa only [World.size_alloc] using this)
  have HR3 := Lib.hid (HR1.out.alloc (.cells #[.slice A' n' c', .slice B' m' d', .slice C' o' f'] 23))
  have hB2 := hB1.alloc hB1.size (.cells #[.slice A' n' c', .slice B' m' d', .slice C' o' f'] 23)
  have hwt : wtR [xs, ys, zs] ≤ 2097152 := by have h1 := h.1; have h2 := h'.1; have h3 := h''.1; unfold wtR; simp; omega
  have bk0' := (bk0.alloc (.cells #[.slice A n c, .slice B m d, .slice C o f] 23)).alloc (.cells #[.slice A' n' c', .slice B' m' d', .slice C' o' f'] 23)
  have bk1' := (bk1.alloc (.cells #[.slice A n c, .slice B m d, .slice C o f] 23)).alloc (.cells #[.slice A' n' c', .slice B' m' d', .slice C' o' f'] 23)
  have hl1 := bk1.lt
  have hl0 := bk0.lt
  cases t1 : decide ([xs, ys, zs] = [xs', ys', zs'])
  · have HE := Lib.hid (eqP_rows (p := p) (q := q) (r := r) (p' := p') (q' := q') (r' := r') (xs := xs) (ys := ys) (zs := zs) (xs' := xs') (ys' := ys') (zs' := zs') (fun hh => by rw [decide_eq_false_iff_not] at t1; exact t1 (by rw [hh.1, hh.2.1, hh.2.2])))
    have T1 := Lib.hid t1
    clear t1
    go_enter Try.func34, Try.ntmps34
    go_wp2_with fail
    refine (sameTerms_any _ 3 _ [xs, ys, zs] _ 3 _ [xs', ys', zs'] _ HR3.out HR2.out (by omega) hwt (by omega)).mono ?_
    rintro e w1 ⟨rfl, hb1⟩
    rw [T1.out]
    go_wp2_with fail
    go_ret
    exact ⟨ret_bool HE.out.symm, below_then hB2 hb1 hB2.size⟩
  have T1 := Lib.hid t1
  by_cases e1 : p = p' ∧ q = q' ∧ r = r'
  · obtain ⟨rfl, rfl, rfl⟩ := e1
    have HE := Lib.hid ((eqP_same3 (xs := xs) (ys := ys) (zs := zs) (xs' := xs') (ys' := ys') (zs' := zs') (p := p) (q := q) (r := r)).trans t1)
    clear t1
    go_enter Try.func34, Try.ntmps34
    go_wp2_with fail
    refine (sameTerms_any _ 3 _ [xs, ys, zs] _ 3 _ [xs', ys', zs'] _ HR3.out HR2.out (by omega) hwt (by omega)).mono ?_
    rintro e w1 ⟨rfl, hb1⟩
    rw [T1.out]
    replace bk0 := bk0'.below hb1
    replace bk1 := bk1'.below hb1
    clear hW0 K0 K1 bk0' bk1'
    have K0 : ∀ i, w1.cell? ⟨w.heap.size, i, none⟩ = #[.slice A n c, .slice B m d, .slice C o f, .int .i64 p, .int .i64 q, .int .i64 r][i]? := fun i => bk0.cell i
    have K1 : ∀ i, w1.cell? ⟨w.heap.size + 1, i, none⟩ = #[.slice A' n' c', .slice B' m' d', .slice C' o' f', .int .i64 p, .int .i64 q, .int .i64 r][i]? := fun i => bk1.cell i
    go_wp2_with fail
    go_ret
    exact ⟨ret_bool HE.out.symm, below_then hB2 hb1 hB2.size⟩
  · have HE := Lib.hid (eqP_ints (xs := xs) (ys := ys) (zs := zs) (xs' := xs') (ys' := ys') (zs' := zs') (p := p) (q := q) (r := r) (p' := p') (q' := q') (r' := r') e1)
    clear t1
    have e2 : (p == p') = false ∨ ((p == p') = true ∧ (q == q') = false) ∨ ((p == p') = true ∧ (q == q') = true ∧ (r == r') = false) := by
      by_cases a : p = p'
      · by_cases b : q = q'
        · exact .inr (.inr ⟨by simpa using a, by simpa using b, by simpa using fun hh => e1 ⟨a, b, hh⟩⟩)
        · exact .inr (.inl ⟨by simpa using a, by simpa using b⟩)
      · exact .inl (by simpa using a)
    clear e1
    rcases e2 with a | ⟨a, b⟩ | ⟨a, b, g⟩
    all_goals (
      go_enter Try.func34, Try.ntmps34
      go_wp2_with fail
      refine (sameTerms_any _ 3 _ [xs, ys, zs] _ 3 _ [xs', ys', zs'] _ HR3.out HR2.out (by omega) hwt (by omega)).mono ?_
      rintro e w1 ⟨rfl, hb1⟩
      rw [T1.out]
      replace bk0 := bk0'.below hb1
      replace bk1 := bk1'.below hb1
      clear hW0 K0 K1 bk0' bk1'
      have K0 : ∀ i, w1.cell? ⟨w.heap.size, i, none⟩ = #[.slice A n c, .slice B m d, .slice C o f, .int .i64 p, .int .i64 q, .int .i64 r][i]? := fun i => bk0.cell i
      have K1 : ∀ i, w1.cell? ⟨w.heap.size + 1, i, none⟩ = #[.slice A' n' c', .slice B' m' d', .slice C' o' f', .int .i64 p', .int .i64 q', .int .i64 r'][i]? := fun i => bk1.cell i
      go_wp2_with fail
      go_ret
      exact ⟨ret_bool HE.out.symm, below_then hB2 hb1 hB2.size⟩)
end Go.Proofs.Ytlleldidkchicaa
