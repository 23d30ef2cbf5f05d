/- Contracts: renumbering the variables of terms. -/
import Derived.Test.YtlcchafcgidpeaaGreatDoorOrd
import Derived.Test.YtlcchafcgidpeaaGreatDoorMat
import Derived.Test.YtlcchafcgidpeaaGreatDoorCopy
import Derived.Test.YtlcchafcgidpeaaGreatDoorHas
import Derived.Test.YtlcchafcgidpeaaGreatDoorConcat
namespace Go.Proofs.YtlcchafcgidpeaaGreatDoor
open Go.RowKit
set_option linter.unusedVariables false

set_option maxHeartbeats 2000000 in
set_option maxRecDepth 20000 in
theorem l2Order_any (B : Option Addr) (m d : Nat) (t : List Int) (w : World) (h' : RI w B m t) (hm : m ≤ 1000) :
    Calls Tryz.prog 71 #[.slice B m d] w fun e w' => ∃ A' c', e = .returned (.slice A' (ord [] t).length c') ∧ OI w' w.heap.size A' (ord [] t).length c' (ord [] t) ∧ Below w.heap.size w w' := by
  obtain ⟨i0, hi, hz0, hz1, hz2⟩ := info_parts infoInt64
  have hl := h'.1
  go_enter Tryz.func71, Tryz.ntmps71
  go_wp2_with fail
  have hO := Lib.hid (OI.empty w (Nat.le_refl _))
  have hB0 := (Below.refl w.heap.size w).alloc (Nat.le_refl _) (.cells #[] 2)
  generalize w.alloc (.cells #[] 2) = W0 at *
  go_loopw [3, 4] (fun u i wr => ∃ (k : Nat) (s : List Int) (A' : Option Addr) (c' : Nat), k ≤ m ∧ i = .int .i64 k ∧ Hid (s = ord [] (t.take k)) ∧ s.length ≤ k ∧ u = .slice A' s.length c' ∧ Hid (OI wr w.heap.size A' s.length c' s) ∧ Below w.heap.size w wr) (fun _ i _ => m - (intOf i).toNat)
  case atStart => exact ⟨0, [], _, 0, Nat.zero_le _, rfl, Lib.hid (by simp [ord]), Nat.le_refl _, rfl, hO, hB0⟩
  case round =>
    obtain ⟨k, s, A', c', hk, rfl, hs, hsl, rfl, ho, hb⟩ := hrel
    have hsz := hb.size
    by_cases hlt : k < m
    · obtain ⟨g, off, x, rfl, hc, hx⟩ := (h'.below hb).at_ hlt
      have HS := Lib.hid (ord_step [] (by omega) hx.out)
      by_cases h0 : x < 0
      · have e0 : decide (x < 0) = true := by simpa using h0
        cases hcn : s.contains x
        · have HC := Lib.hid hcn
          have HA := Lib.hid (add1_yes h0 (by simpa using hcn))
          clear hcn hx
          go_wp2_with fail
          refine (l1Has_any _ _ _ s x _ ho.out.ri (by omega)).mono ?_
          rintro e w1 ⟨rfl, hb1⟩
          rw [HC.out]
          have hb2 := below_then hb hb1 hsz
          have howa := Lib.hid (ownsRow_below (ownsRow_below ho.out hb1) ((Below.refl _ w1).alloc (Nat.le_refl _) (.cells #[.int .i64 x] 2)))
          have hc1 := keepC hb1 hc
          have hsz1 := hb2.size
          clear ho hb hb1
          go_wp2_with (at_builtin; refine wpList_append_any rfl _ _ 24 rfl w.heap.size 2 i0 (.int .i64 0) 1 8 Tryz.underlying24 hi hz0 hz1 hz2 rfl (by omega) A' s.length c' (s.map (Value.int .i64)) rfl howa.out _ 1 _ [.int .i64 x] rfl (Src.new _ [.int .i64 x] _ 1 1 rfl (by simp [Value.oneCell'])) (by unfold maxLen; omega) (by omega) (by simp; omega) ?_; intro A3 c3 w3 ho3 hg hnil; have hgb := app_below hg howa.out (by omega))
          have hb3 := hb2.trans (hgb.mono (by omega))
          have HO3 : Hid (OI w3 w.heap.size A3 (s ++ [x]).length c3 (s ++ [x])) := Lib.hid (OI.snoc ho3)
          clear hgb howa ho3 hg hb2
          go_roundw
          case rel => exact ⟨k + 1, s ++ [x], A3, c3, by omega, by go_num, Lib.hid (by rw [HS.out, ← hs.out, HA.out]), by simp; omega, by simp, HO3, hb3⟩
          case measure => simp [intOf]; omega
        · have HC := Lib.hid hcn
          have HA := Lib.hid (add1_no (s := s) (x := x) (.inr (by simpa using hcn)))
          clear hcn hx
          go_wp2_with fail
          refine (l1Has_any _ _ _ s x _ ho.out.ri (by omega)).mono ?_
          rintro e w1 ⟨rfl, hb1⟩
          rw [HC.out]
          have HO1 := Lib.hid (ho.out.below hb1)
          go_wp2_with fail
          go_roundw
          case rel => exact ⟨k + 1, s, A', c', by omega, by go_num, Lib.hid (by rw [HS.out, ← hs.out, HA.out]), by omega, rfl, HO1, below_then hb hb1 hsz⟩
          case measure => simp [intOf]; omega
      · have e0 : decide (x < 0) = false := by simpa using h0
        have HA := Lib.hid (add1_no (s := s) (x := x) (.inl h0))
        clear hx
        go_wp2_with fail
        go_roundw
        case rel => exact ⟨k + 1, s, A', c', by omega, by go_num, Lib.hid (by rw [HS.out, ← hs.out, HA.out]), by omega, rfl, ho, hb⟩
        case measure => simp [intOf]; omega
    · have hkm : k = m := by omega
      have HE : Hid (s = ord [] t) := Lib.hid (by have := hs.out; rwa [List.take_of_length_le (by omega)] at this)
      go_wp2_with fail
      go_ret
      exact ⟨A', c', by rw [← HE.out]; rfl, by rw [← HE.out]; exact ho.out, hb⟩
/-- The variables seen so far, and the rows laid so far. -/
def OutSt (w : World) (B : Nat) (As : Option Addr) (cs : Nat) (s : List Int) (Ao : Option Addr) (k co : Nat) (rs : List (Option Addr × Nat)) (y : List (List Int)) : Prop :=
  OI w B As s.length cs s ∧ w.ownsRow B 24 1 (.slice Ao k co) k (List.zipWith rowV rs y) ∧ Rows w B rs y ∧ Apart rs (blk As) ∧ y.length = k
/-- The same, and the row that is being renumbered. -/
def InSt (w : World) (B : Nat) (As : Option Addr) (cs : Nat) (s : List Int) (Ao : Option Addr) (k co : Nat) (rs : List (Option Addr × Nat)) (y : List (List Int)) (A1 : Option Addr) (m c1 : Nat) (mid : List Int) : Prop :=
  OutSt w B As cs s Ao k co rs y ∧ OI w B A1 m c1 mid ∧ Apart rs (blk A1) ∧ (∀ b, blk As = some b → blk A1 ≠ some b)
theorem ne_types : (2 : TypeId) ≠ 24 := by decide
section
variable {w w' w1 : World} {B : Nat} {As : Option Addr} {cs : Nat} {s : List Int} {Ao : Option Addr} {k co : Nat} {rs : List (Option Addr × Nat)} {y : List (List Int)} {A1 : Option Addr} {m c1 : Nat} {mid : List Int}
theorem OutSt.below (h : OutSt w B As cs s Ao k co rs y) (hb : Below w.heap.size w w') : OutSt w' B As cs s Ao k co rs y :=
  ⟨h.1.below hb, ownsRow_below h.2.1 hb, h.2.2.1.below hb, h.2.2.2⟩
theorem OutSt.start (w : World) (B : Nat) : OutSt w B none 0 [] none 0 0 [] [] := ⟨World.ownsRow_nil _ _ _ _, World.ownsRow_nil _ _ _ _, Rows.nil w B, Apart.nil _, rfl⟩
theorem OutSt.open_ (h : OutSt w B As cs s Ao k co rs y) (hb : Below w.heap.size w w1) (ho : OI w1 w.heap.size A1 m c1 mid) (hB : B ≤ w.heap.size) : InSt w1 B As cs s Ao k co rs y A1 m c1 mid := by
  refine ⟨h.below hb, ho.base hB, fun i hi b hbl e => ?_, fun b hbs e => ?_⟩
  · have h1 := (h.2.2.1.lt hi hbl).2
    have h2 := (ho.lt_ e).1
    omega
  · have h1 := (h.1.lt_ hbs).2
    have h2 := (ho.lt_ e).1
    omega
theorem InSt.below (h : InSt w B As cs s Ao k co rs y A1 m c1 mid) (hb : Below w.heap.size w w') : InSt w' B As cs s Ao k co rs y A1 m c1 mid :=
  ⟨h.1.below hb, h.2.1.below hb, h.2.2⟩
theorem InSt.grow (h : InSt w B As cs s Ao k co rs y A1 m c1 mid) {o : Obj} {x : Int} {A' : Option Addr} {c' : Nat} (hB : B ≤ w.heap.size)
    (hg : (w.alloc o).grownBy w' (Value.slice As s.length cs).ownBlock) (ho : w'.ownsRow B 2 1 (.slice A' (s.length + 1) c') (s.length + 1) (s.map (Value.int .i64) ++ [.int .i64 x])) (hw : A' = As ∨ A' = some ⟨(w.alloc o).heap.size, 0, none⟩) :
    InSt w' B A' c' (s ++ [x]) Ao k co rs y A1 m c1 mid := by
  have ha := h.below ((Below.refl _ w).alloc (Nat.le_refl _) o)
  obtain ⟨⟨h1, h2, h3, h4, h5⟩, h6, h7, h8⟩ := ha
  rw [blk_own] at hg
  have hfr : ∀ b, blk A' = some b → b ≥ (w.alloc o).heap.size ∨ blk As = some b := by
    rcases hw with rfl | rfl
    · exact fun b hb => .inr hb
    · intro b hb
      have hb2 : (w.alloc o).heap.size = b := Option.some.inj hb
      left; omega
  refine ⟨⟨OI.snoc ho, h2.kept hg ?_, h3.grown hg h4, fun i hi b hb e => ?_, h5⟩, World.ownsRow.kept h6 hg ?_, h7, fun b hb e => ?_⟩
  · rw [blk_own]
    cases hA : blk Ao with
    | none => exact .inl rfl
    | some b => exact .inr fun e => own_ne h1 h2 ne_types e.symm hA
  · rcases hfr b e with hb2 | hb2
    · have := (h3.lt hi hb).2; omega
    · exact h4 i hi b hb hb2
  · rw [blk_own]
    cases hA : blk A1 with
    | none => exact .inl rfl
    | some b => exact .inr fun e => h8 b e.symm hA
  · rcases hfr b hb with hb2 | hb2
    · have := (h6.lt_ e).2; omega
    · exact h8 b hb2 e
theorem InSt.set_ {g j : Nat} {v : Value} {mid' : List Int} (h : InSt w B As cs s Ao k co rs y (some ⟨g, 0, none⟩) m c1 mid) (ho : OI (w.setCell ⟨g, j, none⟩ v) B (some ⟨g, 0, none⟩) m c1 mid') : InSt (w.setCell ⟨g, j, none⟩ v) B As cs s Ao k co rs y (some ⟨g, 0, none⟩) m c1 mid' := by
  obtain ⟨⟨h1, h2, h3, h4, h5⟩, h6, h7, h8⟩ := h
  have hb1 : blk (some (⟨g, 0, none⟩ : Addr)) = some g := rfl
  refine ⟨⟨h1.same fun b hb => Below.heap_setCell w ⟨g, j, none⟩ v b (fun e => h8 b hb (by rw [e]; rfl)), own_same h2 fun b hb => Below.heap_setCell w ⟨g, j, none⟩ v b (fun e => ?_), h3.set_ ⟨g, j, none⟩ v h7, h4, h5⟩, ho, h7, h8⟩
  rw [blk_own] at hb
  exact own_ne h6 h2 ne_types (b := b) (by rw [e]; rfl) hb
theorem InSt.close (h : InSt w B As cs s Ao k co rs y A1 m c1 mid) {o : Obj} {A' : Option Addr} {c' : Nat} 
    (hg : (w.alloc o).grownBy w' (Value.slice Ao k co).ownBlock) (ho : w'.ownsRow B 24 1 (.slice A' (k + 1) c') (k + 1) (List.zipWith rowV rs y ++ [.slice A1 m c1])) :
    OutSt w' B As cs s A' (k + 1) c' (rs ++ [(A1, c1)]) (y ++ [mid]) := by
  have ha := h.below ((Below.refl _ w).alloc (Nat.le_refl _) o)
  obtain ⟨⟨h1, h2, h3, h4, h5⟩, h6, h7, h8⟩ := ha
  have hm : mid.length = m := h6.ri.1
  subst hm
  rw [blk_own] at hg
  have hne : ∀ {A : Option Addr} {n c : Nat} {xs : List Int}, OI (w.alloc o) B A n c xs → (Value.slice A n c).ownBlock = none ∨ (Value.slice A n c).ownBlock ≠ blk Ao := by
    intro A n c xs hA
    rw [blk_own]
    cases hq : blk A with
    | none => exact .inl rfl
    | some b => exact .inr fun e => own_ne hA h2 ne_types hq e.symm
  have k6 : OI w' B A1 mid.length c1 mid := World.ownsRow.kept h6 hg (hne h6)
  have k3 : Rows w' B rs y := h3.grown hg fun i hi b hb e => own_ne (h3.2.1 i (by rw [← h3.1]; exact hi)) h2 ne_types hb e
  refine ⟨World.ownsRow.kept h1 hg (hne h1), ?_, k3.snoc k6 h7, h4.snoc fun b hb e => h8 b e hb, by simp [h5]⟩
  rw [List.zipWith_append h3.1]
  exact ho
end
/-- The first k rows, renumbered by the order that they make. -/
def ren (x : List (List Int)) (k : Nat) : List (List Int) := (x.take k).map fun t => t.map (rn (ord [] (flat x k)))
theorem ren_zero (x : List (List Int)) : ren x 0 = [] := by simp [ren]
theorem flat_mem {x : List (List Int)} {k : Nat} {t : List Int} (h : t ∈ x.take k) {v : Int} (hv : v ∈ t) : v ∈ flat x k := List.mem_flatten.2 ⟨t, h, hv⟩
theorem ord_flat {x : List (List Int)} {k : Nat} {t : List Int} (hk : k < x.length) (ht : t = x.getD k []) : ord [] (flat x (k + 1)) = ord (ord [] (flat x k)) t := by
  rw [flat_step hk, ord_app, ht]
theorem ren_step {x : List (List Int)} {k : Nat} {t : List Int} (hk : k < x.length) (ht : t = x.getD k []) : ren x (k + 1) = ren x k ++ [t.map (rn (ord (ord [] (flat x k)) t))] := by
  have ht2 := ht
  rw [List.getD_eq_getElem?_getD, List.getElem?_eq_getElem hk, Option.getD_some] at ht2
  unfold ren
  rw [List.take_succ_eq_append_getElem hk, List.map_append, ord_flat hk ht, ← ht2]
  congr 1
  apply List.map_congr_left
  intro u hu
  apply List.map_congr_left
  intro v hv
  exact rn_ord fun h0 => ord_has [] (flat_mem hu hv) h0
theorem RR.one {w : World} {B : Option Addr} {m d : Nat} {t : List Int} {T : TypeId} (h : RI w B m t) (hm : m ≤ 9223372036854775807) : RR (w.alloc (.cells #[.slice B m d] T)) (some ⟨w.heap.size, 0, none⟩) 1 [t] := by
  refine ⟨rfl, fun _ => ⟨w.heap.size, 0, rfl, fun k hk => ?_⟩⟩
  have hn := (Blk.new w T #[.slice B m d])
  match k, hk with
  | 0, _ => exact ⟨B, m, d, by rw [Nat.zero_add, hn.cell]; rfl, h.alloc _, hm⟩
theorem RR.two {w : World} {A B : Option Addr} {n c m d : Nat} {x y : List Int} {T : TypeId} (h : RI w A n x) (hn : n ≤ 9223372036854775807) (h' : RI w B m y) (hm : m ≤ 9223372036854775807) :
    RR (w.alloc (.cells #[.slice A n c, .slice B m d] T)) (some ⟨w.heap.size, 0, none⟩) 2 [x, y] := by
  refine ⟨rfl, fun _ => ⟨w.heap.size, 0, rfl, fun k hk => ?_⟩⟩
  have hk_ := (Blk.new w T #[.slice A n c, .slice B m d])
  match k, hk with
  | 0, _ => exact ⟨A, n, c, by rw [Nat.zero_add, hk_.cell]; rfl, h.alloc _, hn⟩
  | 1, _ => exact ⟨B, m, d, by rw [Nat.zero_add, hk_.cell]; rfl, h'.alloc _, hm⟩
/-- The row that a slice of slices of the call's own holds at a place. -/
theorem rows_cell {w : World} {B : Nat} {A : Option Addr} {n c : Nat} {rs : List (Option Addr × Nat)} {y : List (List Int)} (h : w.ownsRow B 24 1 (.slice A n c) n (List.zipWith rowV rs y)) (hr : Rows w B rs y) (hn : y.length = n) {k : Nat} (hk : k < n) :
    ∃ g A' c', A = some ⟨g, 0, none⟩ ∧ w.cell? ⟨g, k, none⟩ = some (.slice A' (y.getD k []).length c') ∧ OI w B A' (y.getD k []).length c' (y.getD k []) ∧ B ≤ g := by
  rcases h.2 with ⟨_, h0⟩ | ⟨g, cap, cur, hv, hB, _⟩
  · omega
  · simp only [Value.slice.injEq] at hv
    obtain ⟨rfl, _, rfl⟩ := hv
    have hl := hr.1
    have hc := h.cellAt k (by omega)
    refine ⟨g, _, _, rfl, ?_, hr.2.1 k (by omega), hB⟩
    rw [hc, List.getElem?_zipWith]
    rw [List.getElem?_eq_getElem (show k < rs.length by omega), List.getElem?_eq_getElem (show k < y.length by omega)]
    simp [rowV, List.getD_eq_getElem?_getD, show k < rs.length by omega, show k < y.length by omega]
theorem ren_one (t : List Int) : ren [t] 1 = [t.map (rn (ord [] t))] := by simp [ren, flat]
/-- A term with its variables renumbered. -/
def rnT (t : List Int) : List Int := t.map (rn (ord [] t))
theorem rnT_len (t : List Int) : (rnT t).length = t.length := by simp [rnT]
theorem ren_one_at (t : List Int) : (ren [t] 1).getD 0 [] = rnT t := by rw [ren_one]; rfl
def V_Renamed (xs t : List Int) : List Int := if Pl.termOk xs t then rnT t else []
theorem renamed_no {xs t : List Int} (h : Pl.termOk xs t = false) : V_Renamed xs t = [] := by unfold V_Renamed; rw [h]; rfl
theorem renamed_yes {xs t : List Int} (h : Pl.termOk xs t = true) : V_Renamed xs t = rnT t := by unfold V_Renamed; rw [h]; rfl
theorem bd_Renamed (xs t : List Int) : (V_Renamed xs t).length ≤ 60 := by
  unfold V_Renamed
  split
  · rename_i h
    have := (Pl.termOk_iff.1 h).2.1
    rw [rnT_len]; omega
  · simp
def variantIn (xs a b : List Int) : Bool := Pl.termOk xs a && Pl.termOk xs b && decide (rnT a = rnT b)
theorem variantIn_no1 {xs a b : List Int} (h : Pl.termOk xs a = false) : variantIn xs a b = false := by unfold variantIn; rw [h]; rfl
theorem variantIn_no2 {xs a b : List Int} (h1 : Pl.termOk xs a = true) (h : Pl.termOk xs b = false) : variantIn xs a b = false := by unfold variantIn; rw [h1, h]; rfl
theorem variantIn_yes {xs a b : List Int} (h1 : Pl.termOk xs a = true) (h : Pl.termOk xs b = true) : variantIn xs a b = decide (rnT a = rnT b) := by unfold variantIn; rw [h1, h]; rfl
end Go.Proofs.YtlcchafcgidpeaaGreatDoor
