/- Contracts: renumbering the variables of terms. -/
import Derived.Test.YtcjgcopkeeiicaaOrd
import Derived.Test.YtcjgcopkeeiicaaMat
import Derived.Test.YtcjgcopkeeiicaaCopy
import Derived.Test.YtcjgcopkeeiicaaHas
import Derived.Test.YtcjgcopkeeiicaaConcat
namespace Go.Proofs.Ytcjgcopkeeiicaa
open Go.RowKit
set_option linter.unusedVariables false

set_option maxHeartbeats 2000000 in
set_option maxRecDepth 20000 in
theorem l2Order_any (B : Option Addr) (m d : Nat) (t : List Int) (w : World) (h' : RI w B m t) (hm : m ≤ 1000) :
    Calls Try.prog 51 #[.slice B m d] w fun e w' => ∃ A' c', e = .returned (.slice A' (ord [] t).length c') ∧ OI w' w.heap.size A' (ord [] t).length c' (ord [] t) ∧ Below w.heap.size w w' := by
  obtain ⟨i0, hi, hz0, hz1, hz2⟩ := info_parts infoInt64
  have hl := h'.1
  go_enter Try.func51, Try.ntmps51
  go_wp2_with fail
  have hO := Lib.hid (OI.empty w (Nat.le_refl _))
  have hB0 := (Below.refl w.heap.size w).alloc (Nat.le_refl _) (.cells #[] 2)
  generalize w.alloc (.cells #[] 2) = W0 at *
  go_loopw [3, 4] (fun u i wr => ∃ (k : Nat) (s : List Int) (A' : Option Addr) (c' : Nat), k ≤ m ∧ i = .int .i64 k ∧ Hid (s = ord [] (t.take k)) ∧ s.length ≤ k ∧ u = .slice A' s.length c' ∧ Hid (OI wr w.heap.size A' s.length c' s) ∧ Below w.heap.size w wr) (fun _ i _ => m - (intOf i).toNat)
  case atStart => exact ⟨0, [], _, 0, Nat.zero_le _, rfl, Lib.hid (by simp [ord]), Nat.le_refl _, rfl, hO, hB0⟩
  case round =>
    obtain ⟨k, s, A', c', hk, rfl, hs, hsl, rfl, ho, hb⟩ := hrel
    have hsz := hb.size
    by_cases hlt : k < m
    · obtain ⟨g, off, x, rfl, hc, hx⟩ := (h'.below hb).at_ hlt
      have HS := Lib.hid (ord_step [] (by omega) hx.out)
      by_cases h0 : x < 0
      · have e0 : decide (x < 0) = true := by simpa using h0
        cases hcn : s.contains x
        · have HC := Lib.hid hcn
          have HA := Lib.hid (add1_yes h0 (by simpa using hcn))
          clear hcn hx
          go_wp2_with fail
          refine (l1Has_any _ _ _ s x _ ho.out.ri (by omega)).mono ?_
          rintro e w1 ⟨rfl, hb1⟩
          rw [HC.out]
          have hb2 := below_then hb hb1 hsz
          have howa := Lib.hid (ownsRow_below (ownsRow_below ho.out hb1) ((Below.refl _ w1).alloc (Nat.le_refl _) (.cells #[.int .i64 x] 2)))
          have hc1 := keepC hb1 hc
          have hsz1 := hb2.size
          clear ho hb hb1
          go_wp2_with (at_builtin; refine wpList_append_any rfl _ _ 22 rfl w.heap.size 2 i0 (.int .i64 0) 1 8 Try.underlying22 hi hz0 hz1 hz2 rfl (by omega) A' s.length c' (s.map (Value.int .i64)) rfl howa.out _ 1 _ [.int .i64 x] rfl (Src.new _ [.int .i64 x] _ 1 1 rfl (by simp [Value.oneCell'])) (by unfold maxLen; omega) (by omega) (by simp; omega) ?_; intro A3 c3 w3 ho3 hg hnil; have hgb := app_below hg howa.out (by omega))
          have hb3 := hb2.trans (hgb.mono (by omega))
          have HO3 : Hid (OI w3 w.heap.size A3 (s ++ [x]).length c3 (s ++ [x])) := Lib.hid (OI.snoc ho3)
          clear hgb howa ho3 hg hb2
          go_roundw
          case rel => exact ⟨k + 1, s ++ [x], A3, c3, by omega, by go_num, Lib.hid (by rw [HS.out, ← hs.out, HA.out]), by simp; omega, by simp, HO3, hb3⟩
          case measure => simp [intOf]; omega
        · have HC := Lib.hid hcn
          have HA := Lib.hid (add1_no (s := s) (x := x) (.inr (by simpa using hcn)))
          clear hcn hx
          go_wp2_with fail
          refine (l1Has_any _ _ _ s x _ ho.out.ri (by omega)).mono ?_
          rintro e w1 ⟨rfl, hb1⟩
          rw [HC.out]
          have HO1 := Lib.hid (ho.out.below hb1)
          go_wp2_with fail
          go_roundw
          case rel => exact ⟨k + 1, s, A', c', by omega, by go_num, Lib.hid (by rw [HS.out, ← hs.out, HA.out]), by omega, rfl, HO1, below_then hb hb1 hsz⟩
          case measure => simp [intOf]; omega
      · have e0 : decide (x < 0) = false := by simpa using h0
        have HA := Lib.hid (add1_no (s := s) (x := x) (.inl h0))
        clear hx
        go_wp2_with fail
        go_roundw
        case rel => exact ⟨k + 1, s, A', c', by omega, by go_num, Lib.hid (by rw [HS.out, ← hs.out, HA.out]), by omega, rfl, ho, hb⟩
        case measure => simp [intOf]; omega
    · have hkm : k = m := by omega
      have HE : Hid (s = ord [] t) := Lib.hid (by have := hs.out; rwa [List.take_of_length_le (by omega)] at this)
      go_wp2_with fail
      go_ret
      exact ⟨A', c', by rw [← HE.out]; rfl, by rw [← HE.out]; exact ho.out, hb⟩
theorem map_step {f : Int → Int} {t : List Int} {j : Nat} {x : Int} (hj : j < t.length) (hx : x = t.getD j 0) : (t.take (j + 1)).map f = (t.take j).map f ++ [f x] := by
  rw [List.take_succ_eq_append_getElem hj, List.map_append]
  simp [hx, List.getD_eq_getElem?_getD, List.getElem?_eq_getElem hj]
set_option maxHeartbeats 4000000 in
set_option maxRecDepth 20000 in
theorem l2By_any (A : Option Addr) (n c : Nat) (s : List Int) (B : Option Addr) (m d : Nat) (t : List Int) (w : World) (h : RI w A n s) (h' : RI w B m t) (hn : n ≤ 1000) (hm : m ≤ 1000) (hnd : s.Nodup) (hall : ∀ x ∈ t, x < 0 → x ∈ s) :
    Calls Try.prog 52 #[.slice A n c, .slice B m d] w fun e w' => ∃ A' c', e = .returned (.slice A' m c') ∧ OI w' w.heap.size A' m c' (t.map (rn s)) ∧ Below w.heap.size w w' := by
  obtain ⟨i0, hi, hz0, hz1, hz2⟩ := info_parts infoInt64
  have hl := h'.1
  have hls := h.1
  have HND := Lib.hid hnd
  have HALL := Lib.hid hall
  clear hnd hall
  go_enter Try.func52, Try.ntmps52
  go_wp2_with fail
  have hO := Lib.hid (OI.empty w (Nat.le_refl _))
  have hB0 := (Below.refl w.heap.size w).alloc (Nat.le_refl _) (.cells #[] 2)
  generalize w.alloc (.cells #[] 2) = W0 at *
  go_loopw [5, 6, 7, 8] (fun u i _ _ wr => ∃ (k : Nat) (A' : Option Addr) (c' : Nat), k ≤ m ∧ i = .int .i64 k ∧ u = .slice A' k c' ∧ Hid (OI wr w.heap.size A' k c' ((t.take k).map (rn s))) ∧ Below w.heap.size w wr) (fun _ i _ _ _ => m - (intOf i).toNat)
  case atStart => exact ⟨0, _, 0, Nat.zero_le _, rfl, rfl, by simpa using hO, hB0⟩
  case round =>
    obtain ⟨k, A', c', hk, rfl, rfl, ho, hb⟩ := hrel
    rename World => W1
    have hsz := hb.size
    by_cases hlt : k < m
    · obtain ⟨g, off, x, rfl, hc, hx⟩ := (h'.below hb).at_ hlt
      have HM := Lib.hid (map_step (f := rn s) (by omega) hx.out)
      have hk0 : (0 : Int) ≤ k := by omega
      have hk1 : (k : Int) < m := by omega
      have HX : Hid (x < 0 → x ∈ s) := Lib.hid (fun h0 => HALL.out x (by rw [hx.out]; exact Pl.getD_mem (by omega)) h0)
      clear hx
      by_cases h0 : x < 0
      · have e0 : decide (x < 0) = true := by simpa using h0
        go_wp2_with fail
        go_loopw [7, 8] (fun v j wv => ∃ q : Nat, q ≤ n ∧ j = .int .i64 q ∧ v = .int .i64 (rnTo s q x) ∧ Below W1.heap.size W1 wv) (fun _ j _ => n - (intOf j).toNat)
        case atStart => exact ⟨0, Nat.zero_le _, rfl, by rw [rnTo_zero], Below.refl _ _⟩
        case round =>
          obtain ⟨q, hq, rfl, rfl, hbv⟩ := hrel
          have hcv := keepC hbv hc
          by_cases hlt2 : q < n
          · obtain ⟨g', off', y, rfl, hcy, hy⟩ := ((h.below hb).below hbv).at_ hlt2
            have hq0 : (0 : Int) ≤ q := by omega
            have hq1 : (q : Int) < n := by omega
            cases hyx : (y == x)
            · have HR := Lib.hid (rnTo_miss (s := s) (k := q) (x := x) (by omega) (by rw [← hy.out]; simpa using hyx))
              clear hy
              go_wp2_with fail
              go_quiet (fail)
              go_wp2_with fail
              go_roundw
              case rel => exact ⟨q + 1, by omega, by go_num, by rw [HR.out], below_drewN hbv _⟩
              case measure => simp [intOf]; omega
            · have HR := Lib.hid (rnTo_hit (s := s) (k := q) (x := x) HND.out (by omega) (by rw [← hy.out]; simpa using (beq_iff_eq.1 hyx).symm))
              clear hy
              go_wp2_with fail
              go_quiet (fail)
              go_wp2_with fail
              go_roundw
              case rel => exact ⟨q + 1, by omega, by go_num, by rw [HR.out], below_drewN hbv _⟩
              case measure => simp [intOf]; omega
          · have hqn : q = n := by omega
            subst hqn
            rw [rnTo_end hls h0 (HX.out h0)]
            have hb2 := below_then hb hbv hsz
            have howa := Lib.hid (ownsRow_below (ownsRow_below ho.out hbv) ((Below.refl _ wr).alloc (Nat.le_refl _) (.cells #[.int .i64 (rn s x)] 2)))
            have hsz2 := hb2.size
            generalize rn s x = y at *
            go_wp2_with (at_builtin; refine wpList_append_any rfl _ _ 22 rfl w.heap.size 2 i0 (.int .i64 0) 1 8 Try.underlying22 hi hz0 hz1 hz2 rfl (by omega) A' k c' (((t.take k).map (rn s)).map (Value.int .i64)) rfl howa.out _ 1 _ [.int .i64 y] rfl (Src.new _ [.int .i64 y] _ 1 1 rfl (by simp [Value.oneCell'])) (by unfold maxLen; omega) (by omega) (by simp; omega) ?_; intro A3 c3 w3 ho3 hg hnil; have hgb := app_below hg howa.out (by omega))
            have hb3 := hb2.trans (hgb.mono (by omega))
            have HO3 : Hid (OI w3 w.heap.size A3 (k + 1) c3 ((t.take (k + 1)).map (rn s))) := Lib.hid (by rw [HM.out]; unfold OI; rw [List.map_append]; exact ho3)
            clear hgb howa ho3 hg hb2
            go_roundw
            case rel => exact ⟨k + 1, A3, c3, by omega, by go_num, rfl, HO3, hb3⟩
            case measure => simp [intOf]; omega
      · have e0 : decide (x < 0) = false := by simpa using h0
        rw [rn_sym h0] at HM
        have howa := Lib.hid (ownsRow_below ho.out ((Below.refl _ W1).alloc (Nat.le_refl _) (.cells #[.int .i64 x] 2)))
        go_wp2_with fail
        go_loopw [7, 8] (fun v j wv => v = .int .i64 x ∧ j = .int .i64 0 ∧ wv = W1) (fun _ _ _ => 0)
        case atStart => exact ⟨rfl, rfl, rfl⟩
        case round =>
          obtain ⟨rfl, rfl, rfl⟩ := hrel
          by_cases hn0 : (0 : Int) < n
          · go_wp2_with (at_builtin; refine wpList_append_any rfl _ _ 22 rfl w.heap.size 2 i0 (.int .i64 0) 1 8 Try.underlying22 hi hz0 hz1 hz2 rfl (by omega) A' k c' (((t.take k).map (rn s)).map (Value.int .i64)) rfl howa.out _ 1 _ [.int .i64 x] rfl (Src.new _ [.int .i64 x] _ 1 1 rfl (by simp [Value.oneCell'])) (by unfold maxLen; omega) (by omega) (by simp; omega) ?_; intro A3 c3 w3 ho3 hg hnil; have hgb := app_below hg howa.out (by omega))
            have hb3 := hb.trans (hgb.mono (by omega))
            have HO3 : Hid (OI w3 w.heap.size A3 (k + 1) c3 ((t.take (k + 1)).map (rn s))) := Lib.hid (by rw [HM.out]; unfold OI; rw [List.map_append]; exact ho3)
            clear hgb howa ho3 hg hb
            go_roundw
            case rel => exact ⟨k + 1, A3, c3, by omega, by go_num, rfl, HO3, hb3⟩
            case measure => simp [intOf]; omega
          · go_wp2_with (at_builtin; refine wpList_append_any rfl _ _ 22 rfl w.heap.size 2 i0 (.int .i64 0) 1 8 Try.underlying22 hi hz0 hz1 hz2 rfl (by omega) A' k c' (((t.take k).map (rn s)).map (Value.int .i64)) rfl howa.out _ 1 _ [.int .i64 x] rfl (Src.new _ [.int .i64 x] _ 1 1 rfl (by simp [Value.oneCell'])) (by unfold maxLen; omega) (by omega) (by simp; omega) ?_; intro A3 c3 w3 ho3 hg hnil; have hgb := app_below hg howa.out (by omega))
            have hb3 := hb.trans (hgb.mono (by omega))
            have HO3 : Hid (OI w3 w.heap.size A3 (k + 1) c3 ((t.take (k + 1)).map (rn s))) := Lib.hid (by rw [HM.out]; unfold OI; rw [List.map_append]; exact ho3)
            clear hgb howa ho3 hg hb
            go_roundw
            case rel => exact ⟨k + 1, A3, c3, by omega, by go_num, rfl, HO3, hb3⟩
            case measure => simp [intOf]; omega
    · have hkm : k = m := by omega
      subst hkm
      have HE : Hid (t.take k = t) := Lib.hid (List.take_of_length_le (by omega))
      go_wp2_with fail
      go_ret
      exact ⟨A', c', rfl, by have := ho.out; rwa [HE.out] at this, hb⟩
/-- The variables seen so far, and the rows laid so far. -/
def OutSt (w : World) (B : Nat) (As : Option Addr) (cs : Nat) (s : List Int) (Ao : Option Addr) (k co : Nat) (rs : List (Option Addr × Nat)) (y : List (List Int)) : Prop :=
  OI w B As s.length cs s ∧ w.ownsRow B 22 1 (.slice Ao k co) k (List.zipWith rowV rs y) ∧ Rows w B rs y ∧ Apart rs (blk As) ∧ y.length = k
/-- The same, and the row that is being renumbered. -/
def InSt (w : World) (B : Nat) (As : Option Addr) (cs : Nat) (s : List Int) (Ao : Option Addr) (k co : Nat) (rs : List (Option Addr × Nat)) (y : List (List Int)) (A1 : Option Addr) (m c1 : Nat) (mid : List Int) : Prop :=
  OutSt w B As cs s Ao k co rs y ∧ OI w B A1 m c1 mid ∧ Apart rs (blk A1) ∧ (∀ b, blk As = some b → blk A1 ≠ some b)
theorem ne_types : (2 : TypeId) ≠ 22 := by decide
section
variable {w w' w1 : World} {B : Nat} {As : Option Addr} {cs : Nat} {s : List Int} {Ao : Option Addr} {k co : Nat} {rs : List (Option Addr × Nat)} {y : List (List Int)} {A1 : Option Addr} {m c1 : Nat} {mid : List Int}
theorem OutSt.below (h : OutSt w B As cs s Ao k co rs y) (hb : Below w.heap.size w w') : OutSt w' B As cs s Ao k co rs y :=
  ⟨h.1.below hb, ownsRow_below h.2.1 hb, h.2.2.1.below hb, h.2.2.2⟩
theorem OutSt.start (w : World) (B : Nat) : OutSt w B none 0 [] none 0 0 [] [] := ⟨World.ownsRow_nil _ _ _ _, World.ownsRow_nil _ _ _ _, Rows.nil w B, Apart.nil _, rfl⟩
theorem OutSt.open_ (h : OutSt w B As cs s Ao k co rs y) (hb : Below w.heap.size w w1) (ho : OI w1 w.heap.size A1 m c1 mid) (hB : B ≤ w.heap.size) : InSt w1 B As cs s Ao k co rs y A1 m c1 mid := by
  refine ⟨h.below hb, ho.base hB, fun i hi b hbl e => ?_, fun b hbs e => ?_⟩
  · have h1 := (h.2.2.1.lt hi hbl).2
    have h2 := (ho.lt_ e).1
    omega
  · have h1 := (h.1.lt_ hbs).2
    have h2 := (ho.lt_ e).1
    omega
theorem InSt.below (h : InSt w B As cs s Ao k co rs y A1 m c1 mid) (hb : Below w.heap.size w w') : InSt w' B As cs s Ao k co rs y A1 m c1 mid :=
  ⟨h.1.below hb, h.2.1.below hb, h.2.2⟩
theorem InSt.grow (h : InSt w B As cs s Ao k co rs y A1 m c1 mid) {o : Obj} {x : Int} {A' : Option Addr} {c' : Nat} (hB : B ≤ w.heap.size)
    (hg : (w.alloc o).grownBy w' (Value.slice As s.length cs).ownBlock) (ho : w'.ownsRow B 2 1 (.slice A' (s.length + 1) c') (s.length + 1) (s.map (Value.int .i64) ++ [.int .i64 x])) (hw : A' = As ∨ A' = some ⟨(w.alloc o).heap.size, 0, none⟩) :
    InSt w' B A' c' (s ++ [x]) Ao k co rs y A1 m c1 mid := by
  have ha := h.below ((Below.refl _ w).alloc (Nat.le_refl _) o)
  obtain ⟨⟨h1, h2, h3, h4, h5⟩, h6, h7, h8⟩ := ha
  rw [blk_own] at hg
  have hfr : ∀ b, blk A' = some b → b ≥ (w.alloc o).heap.size ∨ blk As = some b := by
    rcases hw with rfl | rfl
    · exact fun b hb => .inr hb
    · intro b hb
      have hb2 : (w.alloc o).heap.size = b := Option.some.inj hb
      left; omega
  refine ⟨⟨OI.snoc ho, h2.kept hg ?_, h3.grown hg h4, fun i hi b hb e => ?_, h5⟩, World.ownsRow.kept h6 hg ?_, h7, fun b hb e => ?_⟩
  · rw [blk_own]
    cases hA : blk Ao with
    | none => exact .inl rfl
    | some b => exact .inr fun e => own_ne h1 h2 ne_types e.symm hA
  · rcases hfr b e with hb2 | hb2
    · have := (h3.lt hi hb).2; omega
    · exact h4 i hi b hb hb2
  · rw [blk_own]
    cases hA : blk A1 with
    | none => exact .inl rfl
    | some b => exact .inr fun e => h8 b e.symm hA
  · rcases hfr b hb with hb2 | hb2
    · have := (h6.lt_ e).2; omega
    · exact h8 b hb2 e
theorem InSt.set_ {g j : Nat} {v : Value} {mid' : List Int} (h : InSt w B As cs s Ao k co rs y (some ⟨g, 0, none⟩) m c1 mid) (ho : OI (w.setCell ⟨g, j, none⟩ v) B (some ⟨g, 0, none⟩) m c1 mid') : InSt (w.setCell ⟨g, j, none⟩ v) B As cs s Ao k co rs y (some ⟨g, 0, none⟩) m c1 mid' := by
  obtain ⟨⟨h1, h2, h3, h4, h5⟩, h6, h7, h8⟩ := h
  have hb1 : blk (some (⟨g, 0, none⟩ : Addr)) = some g := rfl
  refine ⟨⟨h1.same fun b hb => Below.heap_setCell w ⟨g, j, none⟩ v b (fun e => h8 b hb (by rw [e]; rfl)), own_same h2 fun b hb => Below.heap_setCell w ⟨g, j, none⟩ v b (fun e => ?_), h3.set_ ⟨g, j, none⟩ v h7, h4, h5⟩, ho, h7, h8⟩
  rw [blk_own] at hb
  exact own_ne h6 h2 ne_types (b := b) (by rw [e]; rfl) hb
theorem InSt.close (h : InSt w B As cs s Ao k co rs y A1 m c1 mid) {o : Obj} {A' : Option Addr} {c' : Nat} 
    (hg : (w.alloc o).grownBy w' (Value.slice Ao k co).ownBlock) (ho : w'.ownsRow B 22 1 (.slice A' (k + 1) c') (k + 1) (List.zipWith rowV rs y ++ [.slice A1 m c1])) :
    OutSt w' B As cs s A' (k + 1) c' (rs ++ [(A1, c1)]) (y ++ [mid]) := by
  have ha := h.below ((Below.refl _ w).alloc (Nat.le_refl _) o)
  obtain ⟨⟨h1, h2, h3, h4, h5⟩, h6, h7, h8⟩ := ha
  have hm : mid.length = m := h6.ri.1
  subst hm
  rw [blk_own] at hg
  have hne : ∀ {A : Option Addr} {n c : Nat} {xs : List Int}, OI (w.alloc o) B A n c xs → (Value.slice A n c).ownBlock = none ∨ (Value.slice A n c).ownBlock ≠ blk Ao := by
    intro A n c xs hA
    rw [blk_own]
    cases hq : blk A with
    | none => exact .inl rfl
    | some b => exact .inr fun e => own_ne hA h2 ne_types hq e.symm
  have k6 : OI w' B A1 mid.length c1 mid := World.ownsRow.kept h6 hg (hne h6)
  have k3 : Rows w' B rs y := h3.grown hg fun i hi b hb e => own_ne (h3.2.1 i (by rw [← h3.1]; exact hi)) h2 ne_types hb e
  refine ⟨World.ownsRow.kept h1 hg (hne h1), ?_, k3.snoc k6 h7, h4.snoc fun b hb e => h8 b e hb, by simp [h5]⟩
  rw [List.zipWith_append h3.1]
  exact ho
end
/-- The first k rows, renumbered by the order that they make. -/
def ren (x : List (List Int)) (k : Nat) : List (List Int) := (x.take k).map fun t => t.map (rn (ord [] (flat x k)))
theorem ren_zero (x : List (List Int)) : ren x 0 = [] := by simp [ren]
theorem flat_mem {x : List (List Int)} {k : Nat} {t : List Int} (h : t ∈ x.take k) {v : Int} (hv : v ∈ t) : v ∈ flat x k := List.mem_flatten.2 ⟨t, h, hv⟩
theorem ord_flat {x : List (List Int)} {k : Nat} {t : List Int} (hk : k < x.length) (ht : t = x.getD k []) : ord [] (flat x (k + 1)) = ord (ord [] (flat x k)) t := by
  rw [flat_step hk, ord_app, ht]
theorem ren_step {x : List (List Int)} {k : Nat} {t : List Int} (hk : k < x.length) (ht : t = x.getD k []) : ren x (k + 1) = ren x k ++ [t.map (rn (ord (ord [] (flat x k)) t))] := by
  have ht2 := ht
  rw [List.getD_eq_getElem?_getD, List.getElem?_eq_getElem hk, Option.getD_some] at ht2
  unfold ren
  rw [List.take_succ_eq_append_getElem hk, List.map_append, ord_flat hk ht, ← ht2]
  congr 1
  apply List.map_congr_left
  intro u hu
  apply List.map_congr_left
  intro v hv
  exact rn_ord fun h0 => ord_has [] (flat_mem hu hv) h0
theorem infoSlice : (Try.prog.info? 22).map (fun i => (i.zero, i.size, i.bytes)) = some (some (.slice none 0 0), 1, 24) := by kernel_rfl
set_option maxHeartbeats 8000000 in
set_option maxRecDepth 20000 in
theorem renumber_any (A : Option Addr) (n c : Nat) (x : List (List Int)) (w : World) (h : RR w A n x) (hn : n ≤ 100) (hs : (flat x n).length ≤ 1000) :
    Calls Try.prog 57 #[.slice A n c] w fun e w' => ∃ A' c' rs, e = .returned (.slice A' n c') ∧ w'.ownsRow w.heap.size 22 1 (.slice A' n c') n (List.zipWith rowV rs (ren x n)) ∧ Rows w' w.heap.size rs (ren x n) ∧ Below w.heap.size w w' := by
  obtain ⟨i0, hi, hz0, hz1, hz2⟩ := info_parts infoInt64
  obtain ⟨i1, hj, hy0, hy1, hy2⟩ := info_parts infoSlice
  have hl := h.1
  go_enter Try.func57, Try.ntmps57
  go_wp2_with fail
  go_loopw [3, 4, 6, 7, 8, 9, 10, 13] (fun u o _ _ _ _ _ i wr => ∃ (k : Nat) (s : List Int) (As : Option Addr) (cs : Nat) (Ao : Option Addr) (co : Nat) (rs : List (Option Addr × Nat)), k ≤ n ∧ i = .int .i64 k ∧ Hid (s = ord [] (flat x k)) ∧ s.length ≤ (flat x k).length ∧ u = .slice As s.length cs ∧ o = .slice Ao k co ∧ Hid (OutSt wr w.heap.size As cs s Ao k co rs (ren x k)) ∧ Below w.heap.size w wr) (fun _ _ _ _ _ _ _ i _ => n - (intOf i).toNat)
  case atStart => exact ⟨0, [], none, 0, none, 0, [], Nat.zero_le _, rfl, Lib.hid (by rw [flat_zero]; rfl), Nat.zero_le _, rfl, rfl, Lib.hid (by rw [ren_zero]; exact OutSt.start _ _), Below.refl _ _⟩
  case round =>
    obtain ⟨k, s0, As, cs, Ao, co, rs, hk, rfl, hs0, hsl, rfl, rfl, hst, hb⟩ := hrel
    rename World => W1
    have hsz := hb.size
    by_cases hlt : k < n
    · obtain ⟨g, off, B, m, d, t, rfl, hc, ht, hmx, htx⟩ := (h.below hb).at_ hlt
      have HSTEP := Lib.hid (ren_step (by omega) htx.out)
      have HORD := Lib.hid (ord_flat (by omega) htx.out)
      have hfl := flat_le x (k := k + 1) (n := n) (by omega)
      have hft := flat_step (x := x) (k := k) (by omega)
      rw [← htx.out] at hft
      have hfl2 : (flat x (k + 1)).length = (flat x k).length + m := by rw [hft, List.length_append, ht.1]
      have htl := ht.1
      clear hft htx
      go_wp2_with fail
      refine (slicesClone_any B m d t _ ht (by omega)).mono ?_
      rintro e w1 ⟨A1, c1, rfl, ho1, hb1⟩
      have hIN := Lib.hid (hst.out.open_ hb1 ho1 hsz)
      have hB1 := below_then hb hb1 hsz
      clear ho1 hb1 hst
      go_wp2_with fail
      go_loopw [3, 8, 9, 10, 21] (fun u _ _ _ i wv => ∃ (j : Nat) (s : List Int) (As : Option Addr) (cs : Nat), j ≤ m ∧ i = .int .i64 j ∧ Hid (s = ord s0 (t.take j)) ∧ s.length ≤ s0.length + j ∧ u = .slice As s.length cs ∧ Hid (InSt wv w.heap.size As cs s Ao k co rs (ren x k) A1 m c1 (rnMid s0 t j)) ∧ Below w.heap.size w wv) (fun _ _ _ _ i _ => m - (intOf i).toNat)
      case atStart => exact ⟨0, s0, As, cs, Nat.zero_le _, rfl, Lib.hid (by rw [List.take_zero]; rfl), by omega, rfl, Lib.hid (by rw [rnMid_zero]; exact hIN.out), hB1⟩
      case round =>
        obtain ⟨j, s, As', cs', hjm, rfl, hsj, hsl2, rfl, hin, hbv⟩ := hrel
        have hszv := hbv.size
        by_cases hlt2 : j < m
        · obtain ⟨g1, hA1, hg1⟩ : ∃ g1, A1 = some ⟨g1, 0, none⟩ ∧ w.heap.size ≤ g1 := by
            rcases hin.out.2.1.2 with ⟨_, h0⟩ | ⟨g1, cap, cur, hv, hB, _⟩
            · omega
            · have hA : A1 = some ⟨g1, 0, none⟩ := by injection hv
              exact ⟨g1, hA, hB⟩
          subst hA1
          obtain ⟨v, hv⟩ : ∃ v, v = t.getD j 0 := ⟨_, rfl⟩
          have hcv : wr.cell? ⟨g1, j, none⟩ = some (.int .i64 v) := by
            obtain ⟨g', off', he, hc⟩ := hin.out.2.1.ri.2 (by omega)
            obtain ⟨rfl, rfl⟩ : g1 = g' ∧ 0 = off' := by simpa using he
            have := hc j hlt2
            rw [rnMid_at s0 t (by omega), ← hv, Nat.zero_add] at this
            exact this
          have HV := Lib.hid hv
          have HO := Lib.hid (ord_step s0 (k := j) (by omega) hv)
          clear hv
          by_cases h0 : v < 0
          · have e0 : decide (0 ≤ v) = false := by simpa using h0
            by_cases hmem : v ∈ s
            · obtain ⟨q, hq, hql⟩ := idx_nat hmem
              have HQ := Lib.hid hq
              have HA := Lib.hid (add1_no (s := s) (x := v) (.inr hmem))
              clear hq
              go_wp2_with fail
              refine (slicesIndex_any _ _ _ s v _ hin.out.1.1.ri (by omega)).mono ?_
              rintro e w2 ⟨rfl, hb2⟩
              rw [HQ.out]
              have hI2 := Lib.hid (hin.out.below hb2)
              have hBv := below_then hbv hb2 hszv
              have hcv2 := keepC hb2 hcv
              have hf := World.ownsRow.frozenAt hI2.out.2.1 j
              have hset := (World.ownsRow.stored hI2.out.2.1 j (.int .i64 (-1 - (q : Int)))).1
              rw [← List.map_set, show (-1 - (q : Int)) = rn (ord s0 (t.take (j + 1))) v by rw [HO.out, ← hsj.out, HA.out, rn_var h0, HQ.out], rnMid_step s0 t (by omega) HV.out] at hset
              rw [show rn (ord s0 (t.take (j + 1))) v = (-1 - (q : Int)) by rw [HO.out, ← hsj.out, HA.out, rn_var h0, HQ.out]] at hset
              have hI3 := Lib.hid (hI2.out.set_ hset)
              have hB3 := hBv.setCell (p := ⟨g1, j, none⟩) hg1 (.int .i64 (-1 - (q : Int)))
              clear hset hin hI2 hbv hb2 hBv
              go_wp2_with fail
              go_roundw
              case rel => exact ⟨j + 1, s, As', cs', by omega, by go_num, Lib.hid (by rw [HO.out, ← hsj.out, HA.out]), by omega, rfl, hI3, hB3⟩
              case measure => simp [intOf]; omega
            · have HQ := Lib.hid (idx_no hmem)
              have HA := Lib.hid (add1_yes h0 hmem)
              have HE := Lib.hid (idx_end hmem)
              go_wp2_with fail
              refine (slicesIndex_any _ _ _ s v _ hin.out.1.1.ri (by omega)).mono ?_
              rintro e w2 ⟨rfl, hb2⟩
              rw [HQ.out]
              have hI2 := Lib.hid (hin.out.below hb2)
              have hBv := below_then hbv hb2 hszv
              have hsz2 := hBv.size
              have howa := Lib.hid (ownsRow_below hI2.out.1.1 ((Below.refl _ w2).alloc (Nat.le_refl _) (.cells #[.int .i64 v] 2)))
              clear hin hbv hb2 hcv
              go_wp2_with (at_builtin; refine wpList_append_sep rfl _ _ 22 rfl w.heap.size 2 i0 (.int .i64 0) 1 8 Try.underlying22 hi hz0 hz1 hz2 rfl (by omega) As' s.length cs' (s.map (Value.int .i64)) rfl howa.out _ 1 _ [.int .i64 v] rfl (Src.new _ [.int .i64 v] _ 1 1 rfl (by simp [Value.oneCell'])) (by unfold maxLen; omega) (by omega) (by simp; omega) ?_; intro A3 c3 w3 ho3 hg hnil hwhere; have hgb := app_below hg howa.out (by omega); have hI3 := Lib.hid (hI2.out.grow hsz2 hg ho3 hwhere); have hB3 := hBv.trans (hgb.mono (by omega)); have hf := World.ownsRow.frozenAt hI3.out.2.1 j; obtain ⟨v3, hcv3⟩ := own_some hI3.out.2.1 hlt2; clear hg ho3 hwhere hgb)
              have hset := (World.ownsRow.stored hI3.out.2.1 j (.int .i64 (-1 - (s.length : Int)))).1
              have hrv : rn (ord s0 (t.take (j + 1))) v = (-1 - (s.length : Int)) := by rw [HO.out, ← hsj.out, HA.out, rn_var h0, HE.out]
              rw [← List.map_set, ← hrv, rnMid_step s0 t (by omega) HV.out, hrv] at hset
              have hI4 := Lib.hid (hI3.out.set_ hset)
              have hB4 := hB3.setCell (p := ⟨g1, j, none⟩) hg1 (.int .i64 (-1 - (s.length : Int)))
              clear hset hI3 hB3 hrv
              go_roundw
              case rel => exact ⟨j + 1, s ++ [v], A3, c3, by omega, by go_num, Lib.hid (by rw [HO.out, ← hsj.out, HA.out]), by simp; omega, by simp, hI4, hB4⟩
              case measure => simp [intOf]; omega
          · have e0 : decide (0 ≤ v) = true := by simp; omega
            have HA := Lib.hid (add1_no (s := s) (x := v) (.inl h0))
            have hI3 : Hid (InSt wr w.heap.size As' cs' s Ao k co rs (ren x k) (some ⟨g1, 0, none⟩) m c1 (rnMid s0 t (j + 1))) := Lib.hid (by rw [rnMid_sym s0 t (by omega) HV.out h0]; exact hin.out)
            go_wp2_with fail
            go_roundw
            case rel => exact ⟨j + 1, s, As', cs', by omega, by go_num, Lib.hid (by rw [HO.out, ← hsj.out, HA.out]), by omega, rfl, hI3, hbv⟩
            case measure => simp [intOf]; omega
        · have hjm2 : j = m := by omega
          subst hjm2
          have howa := Lib.hid (ownsRow_below hin.out.1.2.1 ((Below.refl _ wr).alloc (Nat.le_refl _) (.cells #[.slice A1 j c1] 22)))
          have HT : Hid (t.take j = t) := Lib.hid (List.take_of_length_le (by omega))
          have HR := Lib.hid (rnMid_end s0 t htl)
          go_wp2_with (at_builtin; refine wpList_append_any rfl _ _ 85 rfl w.heap.size 22 i1 (.slice none 0 0) 1 24 Try.underlying85 hj hy0 hy1 hy2 rfl (by omega) Ao k co (List.zipWith rowV rs (ren x k)) rfl howa.out _ 1 _ [.slice A1 j c1] rfl (Src.new _ [.slice A1 j c1] _ 1 1 rfl (by simp [Value.oneCell'])) (by unfold maxLen; omega) (by omega) (by simp; omega) ?_; intro A3 c3 w3 ho3 hg hnil; have hgb := app_below hg howa.out (by omega); have hO3 := Lib.hid (hin.out.close hg ho3); have hB3 := hbv.trans (hgb.mono (by omega)); clear hgb hg ho3)
          rw [HR.out, hs0.out, ← HSTEP.out] at hO3
          go_roundw
          case rel => exact ⟨k + 1, s, As', cs', A3, c3, _, by omega, by go_num, Lib.hid (by rw [hsj.out, HT.out, HORD.out, hs0.out]), by omega, rfl, rfl, hO3, hB3⟩
          case measure => simp [intOf]; omega
    · have hkn : k = n := by omega
      subst hkn
      go_wp2_with fail
      go_ret
      exact ⟨Ao, co, rs, rfl, hst.out.2.1, hst.out.2.2.1, hb⟩
theorem RR.one {w : World} {B : Option Addr} {m d : Nat} {t : List Int} {T : TypeId} (h : RI w B m t) (hm : m ≤ 9223372036854775807) : RR (w.alloc (.cells #[.slice B m d] T)) (some ⟨w.heap.size, 0, none⟩) 1 [t] := by
  refine ⟨rfl, fun _ => ⟨w.heap.size, 0, rfl, fun k hk => ?_⟩⟩
  have hn := (Blk.new w T #[.slice B m d])
  match k, hk with
  | 0, _ => exact ⟨B, m, d, by rw [Nat.zero_add, hn.cell]; rfl, h.alloc _, hm⟩
theorem RR.two {w : World} {A B : Option Addr} {n c m d : Nat} {x y : List Int} {T : TypeId} (h : RI w A n x) (hn : n ≤ 9223372036854775807) (h' : RI w B m y) (hm : m ≤ 9223372036854775807) :
    RR (w.alloc (.cells #[.slice A n c, .slice B m d] T)) (some ⟨w.heap.size, 0, none⟩) 2 [x, y] := by
  refine ⟨rfl, fun _ => ⟨w.heap.size, 0, rfl, fun k hk => ?_⟩⟩
  have hk_ := (Blk.new w T #[.slice A n c, .slice B m d])
  match k, hk with
  | 0, _ => exact ⟨A, n, c, by rw [Nat.zero_add, hk_.cell]; rfl, h.alloc _, hn⟩
  | 1, _ => exact ⟨B, m, d, by rw [Nat.zero_add, hk_.cell]; rfl, h'.alloc _, hm⟩
/-- The row that a slice of slices of the call's own holds at a place. -/
theorem rows_cell {w : World} {B : Nat} {A : Option Addr} {n c : Nat} {rs : List (Option Addr × Nat)} {y : List (List Int)} (h : w.ownsRow B 22 1 (.slice A n c) n (List.zipWith rowV rs y)) (hr : Rows w B rs y) (hn : y.length = n) {k : Nat} (hk : k < n) :
    ∃ g A' c', A = some ⟨g, 0, none⟩ ∧ w.cell? ⟨g, k, none⟩ = some (.slice A' (y.getD k []).length c') ∧ OI w B A' (y.getD k []).length c' (y.getD k []) ∧ B ≤ g := by
  rcases h.2 with ⟨_, h0⟩ | ⟨g, cap, cur, hv, hB, _⟩
  · omega
  · simp only [Value.slice.injEq] at hv
    obtain ⟨rfl, _, rfl⟩ := hv
    have hl := hr.1
    have hc := h.cellAt k (by omega)
    refine ⟨g, _, _, rfl, ?_, hr.2.1 k (by omega), hB⟩
    rw [hc, List.getElem?_zipWith]
    rw [List.getElem?_eq_getElem (show k < rs.length by omega), List.getElem?_eq_getElem (show k < y.length by omega)]
    simp [rowV, List.getD_eq_getElem?_getD, show k < rs.length by omega, show k < y.length by omega]
theorem ren_one (t : List Int) : ren [t] 1 = [t.map (rn (ord [] t))] := by simp [ren, flat]
/-- A term with its variables renumbered. -/
def rnT (t : List Int) : List Int := t.map (rn (ord [] t))
theorem rnT_len (t : List Int) : (rnT t).length = t.length := by simp [rnT]
theorem ren_one_at (t : List Int) : (ren [t] 1).getD 0 [] = rnT t := by rw [ren_one]; rfl
def V_Renamed (xs t : List Int) : List Int := if Pl.termOk xs t then rnT t else []
theorem renamed_no {xs t : List Int} (h : Pl.termOk xs t = false) : V_Renamed xs t = [] := by unfold V_Renamed; rw [h]; rfl
theorem renamed_yes {xs t : List Int} (h : Pl.termOk xs t = true) : V_Renamed xs t = rnT t := by unfold V_Renamed; rw [h]; rfl
theorem bd_Renamed (xs t : List Int) : (V_Renamed xs t).length ≤ 60 := by
  unfold V_Renamed
  split
  · rename_i h
    have := (Pl.termOk_iff.1 h).2.1
    rw [rnT_len]; omega
  · simp
def variantIn (xs a b : List Int) : Bool := Pl.termOk xs a && Pl.termOk xs b && decide (rnT a = rnT b)
theorem variantIn_no1 {xs a b : List Int} (h : Pl.termOk xs a = false) : variantIn xs a b = false := by unfold variantIn; rw [h]; rfl
theorem variantIn_no2 {xs a b : List Int} (h1 : Pl.termOk xs a = true) (h : Pl.termOk xs b = false) : variantIn xs a b = false := by unfold variantIn; rw [h1, h]; rfl
theorem variantIn_yes {xs a b : List Int} (h1 : Pl.termOk xs a = true) (h : Pl.termOk xs b = true) : variantIn xs a b = decide (rnT a = rnT b) := by unfold variantIn; rw [h1, h]; rfl
end Go.Proofs.Ytcjgcopkeeiicaa
