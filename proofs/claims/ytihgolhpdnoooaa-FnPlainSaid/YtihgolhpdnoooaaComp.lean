/- Contracts: one substitution after another one. -/
import Derived.Test.YtihgolhpdnoooaaPlu2
import Derived.Test.YtihgolhpdnoooaaFill2
import Derived.Test.YtihgolhpdnoooaaPlace2
namespace Go.Proofs.Ytihgolhpdnoooaa
open Go.RowKit
set_option linter.unusedVariables false

/-- What becomes of a variable: first x, then y. -/
def cmp1 (x y : List (List Int)) (i : Nat) : List Int := fillL y (gives x i) (gives x i).length
def ok1 (x y : List (List Int)) (i : Nat) : Bool := fillOk y (gives x i) (gives x i).length
def cmpR (x y : List (List Int)) (k : Nat) : List (List Int) := (List.range k).map (cmp1 x y)
def cmpOk (x y : List (List Int)) (k : Nat) : Bool := (List.range k).all (ok1 x y)
def cmpU (x y : List (List Int)) : List (List Int) × Bool := if cmpOk x y 24 then (plainU (cmpR x y 24), true) else ([], false)
theorem cmpR_len (x y : List (List Int)) (k : Nat) : (cmpR x y k).length = k := by simp [cmpR]
theorem cmpR_zero (x y : List (List Int)) : cmpR x y 0 = [] := rfl
theorem cmpR_step (x y : List (List Int)) (k : Nat) : cmpR x y (k + 1) = cmpR x y k ++ [cmp1 x y k] := by simp [cmpR, List.range_succ]
theorem cmpOk_zero (x y : List (List Int)) : cmpOk x y 0 = true := rfl
theorem cmpOk_step {x y : List (List Int)} {k : Nat} (h : cmpOk x y k = true) (h1 : ok1 x y k = true) : cmpOk x y (k + 1) = true := by
  unfold cmpOk at *; rw [List.range_succ, List.all_append, h]; simp [h1]
theorem cmpOk_no {x y : List (List Int)} {k m : Nat} (hk : k < m) (h : ok1 x y k = false) : cmpOk x y m = false := by
  unfold cmpOk; rw [List.all_eq_false]; exact ⟨k, by simpa using hk, by simp [h]⟩
theorem cmpR_has {x y : List (List Int)} {k i : Nat} : hasV (cmpR x y k) i = if i < k then cmp1 x y i else [] := by
  unfold hasV cmpR
  by_cases h : i < k
  · simp [List.getD_eq_getElem?_getD, h]
  · simp [List.getD_eq_getElem?_getD, h]
/-- Behind both nothing is replaced. -/
theorem ok1_out {x y : List (List Int)} {i : Nat} (hx : x.length ≤ i) (hy : y.length ≤ i) : ok1 x y i = true ∧ cmp1 x y i = [-1 - (i : Int)] := by
  have h1 : gives x i = [-1 - (i : Int)] := gives_no (by rw [hasV_none hx]; rfl)
  have h2 : gives y i = [-1 - (i : Int)] := gives_no (by rw [hasV_none hy]; rfl)
  have h3 : flTo y [-1 - (i : Int)] 1 = [-1 - (i : Int)] := by
    have : (-1 - (-1 - (i : Int))).toNat = i := by omega
    simp only [flTo, List.take_succ_cons, List.take_nil, List.flatMap_cons, List.flatMap_nil, List.append_nil, fl]
    rw [if_pos (by omega), this, h2]
  have h4 : ok1 x y i = true := by
    unfold ok1; rw [h1]; unfold fillOk
    have h5 : (flTo y [-1 - (i : Int)] [-1 - (i : Int)].length).length ≤ 60 := by
      show (flTo y [-1 - (i : Int)] 1).length ≤ 60
      rw [h3]; simp
    exact decide_eq_true h5
  refine ⟨h4, ?_⟩
  unfold ok1 at h4
  unfold cmp1
  rw [fillL_yes h4, h1]
  exact h3
theorem cmpOk_max {x y : List (List Int)} {n : Nat} (hx : x.length ≤ n) (hy : y.length ≤ n) (hn : n ≤ 24) : cmpOk x y 24 = cmpOk x y n := by
  cases h : cmpOk x y n
  · unfold cmpOk at h ⊢
    rw [List.all_eq_false] at h ⊢
    obtain ⟨i, hi, h1⟩ := h
    exact ⟨i, by simp at hi ⊢; omega, h1⟩
  · unfold cmpOk at h ⊢
    rw [List.all_eq_true] at h ⊢
    intro i hi
    by_cases hin : i < n
    · exact h i (by simpa using hin)
    · exact (ok1_out (by omega) (by omega)).1
theorem cmpR_max {x y : List (List Int)} {n : Nat} (hx : x.length ≤ n) (hy : y.length ≤ n) (hn : n ≤ 24) : plainU (cmpR x y 24) = plainU (cmpR x y n) := by
  refine plainU_ext fun i => ?_
  rw [cmpR_has, cmpR_has]
  by_cases h1 : i < n
  · rw [if_pos h1, if_pos (by omega)]
  · rw [if_neg h1]
    by_cases h2 : i < 24
    · rw [if_pos h2, (ok1_out (by omega) (by omega)).2, cl1_self, cl1_nil]
    · rw [if_neg h2]
theorem cmpU_no {x y : List (List Int)} (h : cmpOk x y 24 = false) : cmpU x y = ([], false) := by unfold cmpU; rw [h]; rfl
theorem cmpU_yes {x y : List (List Int)} (h : cmpOk x y 24 = true) : cmpU x y = (plainU (cmpR x y 24), true) := by unfold cmpU; rw [h]; rfl
theorem cmpR_row (x y : List (List Int)) (k i : Nat) : (hasV (cmpR x y k) i).length ≤ 60 := by
  rw [cmpR_has]; split
  · exact fillL_le _ _ _
  · simp
theorem gives_bd {xs : List Int} {x : List (List Int)} (h : substOk xs x = true) {i : Nat} (hi : i < 24) : (gives x i).length ≤ 60 ∧ ∀ v ∈ gives x i, -24 ≤ v ∧ v ≤ 7 := by
  by_cases h0 : (hasV x i).length = 0
  · rw [gives_no h0]
    refine ⟨by simp, fun v hv => ?_⟩
    simp at hv
    omega
  · rw [gives_yes h0]
    refine ⟨hasV_len h i, ?_⟩
    by_cases hix : i < x.length
    · rcases (substOk_iff.1 h).2.2 i hix with h1 | h1
      · exact absurd h1 h0
      · exact Pl.termOk_bd h1
    · exact absurd (hasV_out rfl hix) h0
theorem cmpR_wt (x y : List (List Int)) {k : Nat} (hk : k ≤ 24) : wtR (cmpR x y k) ≤ 1464 := by
  have := wtR_all (y := cmpR x y k) (n := 24) (m := 60) (by rw [cmpR_len]; exact hk) (fun i => cmpR_row x y k i)
  omega
def V_Composed (xs : List Int) (x y : List (List Int)) : List (List Int) × Bool := if substOk xs x && substOk xs y then cmpU x y else ([], false)
theorem composed_no1 {xs : List Int} {x y : List (List Int)} (h : substOk xs x = false) : V_Composed xs x y = ([], false) := by unfold V_Composed; rw [h]; rfl
theorem composed_no2 {xs : List Int} {x y : List (List Int)} (h1 : substOk xs x = true) (h : substOk xs y = false) : V_Composed xs x y = ([], false) := by unfold V_Composed; rw [h1, h]; rfl
theorem composed_yes {xs : List Int} {x y : List (List Int)} (h1 : substOk xs x = true) (h : substOk xs y = true) : V_Composed xs x y = cmpU x y := by unfold V_Composed; rw [h1, h]; rfl
theorem cmpU_bd (x y : List (List Int)) : (cmpU x y).1.length ≤ 24 ∧ wtR (cmpU x y).1 ≤ 1464 := by
  cases h : cmpOk x y 24
  · rw [cmpU_no h]; simp [wtR]
  · rw [cmpU_yes h]
    have h1 := plainU_len (cmpR x y 24)
    have h2 := plainU_wt (x := cmpR x y 24) (n := 24) (m := 60) (by rw [cmpR_len]; omega) (cmpR_row x y 24)
    rw [cmpR_len] at h1
    exact ⟨h1, by omega⟩
theorem bd_Composed (xs : List Int) (x y : List (List Int)) : (V_Composed xs x y).1.length ≤ 24 := by
  unfold V_Composed; split
  · exact (cmpU_bd x y).1
  · simp
theorem bw_Composed (xs : List Int) (x y : List (List Int)) : wtR (V_Composed xs x y).1 ≤ 1464 := by
  unfold V_Composed; split
  · exact (cmpU_bd x y).2
  · simp [wtR]
/-- The boxes of a call that makes a substitution of two: where they lie, what they hold. -/
structure EnvC (w : World) (s u r g : Nat) (A : Option Addr) (n c : Nat) (B : Option Addr) (m d : Nat) (Ao : Option Addr) (ko co : Nat) (wr : World) : Prop where
  k0 : Blk wr s 51 #[.slice A n c]
  k1 : Blk wr u 51 #[.slice B m d]
  k2 : Blk wr r 51 #[.slice none 0 0]
  k3 : Blk wr g 51 #[.slice Ao ko co]
  bel : Below w.heap.size w wr
  hs : w.heap.size ≤ s ∧ w.heap.size ≤ u ∧ s < r ∧ u < r ∧ r < g
section
variable {w wr w1 : World} {s u r g : Nat} {A : Option Addr} {n c : Nat} {B : Option Addr} {m d : Nat} {Ao : Option Addr} {ko co : Nat}
theorem EnvC.size (h : EnvC w s u r g A n c B m d Ao ko co wr) : g + 1 ≤ wr.heap.size := h.k3.lt
theorem EnvC.c0 (h : EnvC w s u r g A n c B m d Ao ko co wr) : wr.cell? ⟨s, 0, none⟩ = some (.slice A n c) := by simpa using h.k0.cell 0
theorem EnvC.c1 (h : EnvC w s u r g A n c B m d Ao ko co wr) : wr.cell? ⟨u, 0, none⟩ = some (.slice B m d) := by simpa using h.k1.cell 0
theorem EnvC.c2 (h : EnvC w s u r g A n c B m d Ao ko co wr) : wr.cell? ⟨r, 0, none⟩ = some (.slice none 0 0) := by simpa using h.k2.cell 0
theorem EnvC.c3 (h : EnvC w s u r g A n c B m d Ao ko co wr) : wr.cell? ⟨g, 0, none⟩ = some (.slice Ao ko co) := by simpa using h.k3.cell 0
theorem EnvC.f2 (h : EnvC w s u r g A n c B m d Ao ko co wr) : wr.frozen? ⟨r, 0, none⟩ = false := h.k2.frozen 0
theorem EnvC.f3 (h : EnvC w s u r g A n c B m d Ao ko co wr) : wr.frozen? ⟨g, 0, none⟩ = false := h.k3.frozen 0
theorem EnvC.grow (h : EnvC w s u r g A n c B m d Ao ko co wr) (hb : Below (g + 1) wr w1) : EnvC w s u r g A n c B m d Ao ko co w1 := by
  have hh := h.hs
  exact ⟨h.k0.old hb (by omega), h.k1.old hb (by omega), h.k2.old hb (by omega), h.k3.old hb (by omega), h.bel.trans (hb.mono (by omega)), hh⟩
theorem EnvC.below (h : EnvC w s u r g A n c B m d Ao ko co wr) (hb : Below wr.heap.size wr w1) : EnvC w s u r g A n c B m d Ao ko co w1 := h.grow (hb.mono h.size)
theorem EnvC.set_ (h : EnvC w s u r g A n c B m d Ao ko co wr) (Ao' : Option Addr) (ko' co' : Nat) : EnvC w s u r g A n c B m d Ao' ko' co' (wr.setCell ⟨g, 0, none⟩ (.slice Ao' ko' co')) := by
  have hh := h.hs
  exact ⟨h.k0.far (by dsimp only; omega) _, h.k1.far (by dsimp only; omega) _, h.k2.far (by dsimp only; omega) _, by simpa using h.k3.set_ 0 (.slice Ao' ko' co'), h.bel.setCell (by dsimp only; omega) _, hh⟩
theorem EnvC.none_ (h : EnvC w s u r g A n c B m d Ao ko co wr) : (∀ i, (wr.setCell ⟨r, 0, none⟩ (.slice none 0 0)).cell? ⟨r, i, none⟩ = #[.slice none 0 0][i]?) ∧ Below w.heap.size w (wr.setCell ⟨r, 0, none⟩ (.slice none 0 0)) := by
  have hh := h.hs
  have k := h.k2.set_ 0 (.slice none 0 0)
  simp only [List.setIfInBounds_toArray, List.set_cons_zero] at k
  exact ⟨fun i => k.cell i, h.bel.setCell (by dsimp only; omega) _⟩
theorem EnvC.fin {A' : Option Addr} {n' c' B' : Nat} {z : List (List Int)} (h : EnvC w s u r g A n c B m d Ao ko co wr) (hq : QR wr B' A' n' c' z) (hr : r < B') :
    (∀ i, (wr.setCell ⟨r, 0, none⟩ (.slice A' n' c')).cell? ⟨r, i, none⟩ = #[.slice A' n' c'][i]?) ∧ QR (wr.setCell ⟨r, 0, none⟩ (.slice A' n' c')) w.heap.size A' n' c' z ∧ Below w.heap.size w (wr.setCell ⟨r, 0, none⟩ (.slice A' n' c')) := by
  have hh := h.hs
  have k := h.k2.set_ 0 (.slice A' n' c')
  simp only [List.setIfInBounds_toArray, List.set_cons_zero] at k
  exact ⟨fun i => k.cell i, (hq.setBelow (p := ⟨r, 0, none⟩) hr _).base (by omega), h.bel.setCell (by dsimp only; omega) _⟩
end
theorem EnvC.start (w : World) (A : Option Addr) (n c : Nat) (B : Option Addr) (m d : Nat) :
    EnvC w w.heap.size (w.heap.size + 1) (w.heap.size + 1 + 1) (w.heap.size + 1 + 1 + 1) A n c B m d none 0 0 ((((w.alloc (.cells #[.slice A n c] 51)).alloc (.cells #[.slice B m d] 51)).alloc (.cells #[.slice none 0 0] 51)).alloc (.cells #[.slice none 0 0] 51)) := by
  refine ⟨(((Blk.new w _ _).alloc _).alloc _).alloc _, ?_, ?_, ?_, ((((Below.refl _ _).alloc (Nat.le_refl _) _).alloc (by simp) _).alloc (by simp <;> omega) _).alloc (by simp <;> omega) _, by omega⟩
  · have := ((Blk.new (w.alloc (.cells #[.slice A n c] 51)) 51 #[.slice B m d]).alloc (.cells #[.slice none 0 0] 51)).alloc (.cells #[.slice none 0 0] 51)
    simpa only [World.size_alloc] using this
  · have := (Blk.new ((w.alloc (.cells #[.slice A n c] 51)).alloc (.cells #[.slice B m d] 51)) 51 #[.slice none 0 0]).alloc (.cells #[.slice none 0 0] 51)
    simpa only [World.size_alloc] using this
  · have := Blk.new (((w.alloc (.cells #[.slice A n c] 51)).alloc (.cells #[.slice B m d] 51)).alloc (.cells #[.slice none 0 0] 51)) 51 #[.slice none 0 0]
    simpa only [World.size_alloc] using this
set_option maxHeartbeats 4000000 in
set_option maxRecDepth 20000 in
theorem compose_any (A : Option Addr) (n c : Nat) (x : List (List Int)) (B : Option Addr) (m d : Nat) (y : List (List Int)) (w : World) (h : RR w A n x) (h' : RR w B m y) (hw : wtR x ≤ 1048576) (hw2 : wtR y ≤ 1048576)
    (hx : ∀ i, i < 24 → (gives x i).length ≤ 60 ∧ ∀ v ∈ gives x i, -24 ≤ v ∧ v ≤ 7) (hy : ∀ i, (hasV y i).length ≤ 60) :
    Calls Try.prog 112 #[.agg #[.slice A n c], .agg #[.slice B m d]] w fun e w' => ∃ A' c', e = .returned (.tuple #[.agg #[.slice A' (cmpU x y).1.length c'], .bool (cmpU x y).2]) ∧ QR w' w.heap.size A' (cmpU x y).1.length c' (cmpU x y).1 ∧ Below w.heap.size w w' := by
  obtain ⟨i1, hj, hy0, hy1, hy2⟩ := info_parts infoSliceP
  have hn1 : n ≤ 1048576 := by have := h.1; unfold wtR at hw; omega
  have HX := Lib.hid hx
  have HY := Lib.hid hy
  clear hx hy
  have HE0 := Lib.hid (EnvC.start w A n c B m d)
  have hq1 := fun (W : World) (g off l k : Nat) => Lib.run_eql_slice_nil (P := Try.prog) W 24 2 (some ⟨g, off, none⟩) l k 0 0 Try.underlying24
  have hq2 := fun (W : World) => Lib.run_eql_slice_nil (P := Try.prog) W 24 2 none 0 0 0 0 Try.underlying24
  go_enter Try.func112, Try.ntmps112
  go_wp2_with fail
  generalize (((w.alloc (.cells #[.slice A n c] 51)).alloc (.cells #[.slice B m d] 51)).alloc (.cells #[.slice none 0 0] 51)).alloc (.cells #[.slice none 0 0] 51) = W0 at *
  have HO0 := Lib.hid (OutP.start W0 (w.heap.size + 1 + 1 + 1 + 1))
  go_loopw [11] (fun i wr => ∃ (k : Nat) (Ao : Option Addr) (co : Nat) (rs : List (Option Addr × Nat)), k ≤ 24 ∧ i = .int .i64 k ∧ Hid (EnvC w w.heap.size (w.heap.size + 1) (w.heap.size + 1 + 1) (w.heap.size + 1 + 1 + 1) A n c B m d Ao k co wr) ∧ Hid (OutP wr (w.heap.size + 1 + 1 + 1 + 1) Ao k co rs (cmpR x y k)) ∧ Hid (cmpOk x y k = true)) (fun i _ => 24 - (intOf i).toNat)
  case atStart => exact ⟨0, none, 0, [], Nat.zero_le _, rfl, HE0, HO0, Lib.hid (cmpOk_zero x y)⟩
  case round =>
    obtain ⟨k, Ao, co, rs, hk, rfl, he, ho, hcm⟩ := hrel
    have hcap := ho.out.cap
    by_cases hlt : k < 24
    · have hk1 : (k : Int) < 24 := by omega
      have C0 := he.out.c0
      by_cases h0 : (hasV x k).length = 0
      · have HC := Lib.hid (show fillL y [-1 - (k : Int)] 1 = cmp1 x y k by unfold cmp1; rw [gives_no h0]; rfl)
        have HO := Lib.hid (show fillOk y [-1 - (k : Int)] 1 = ok1 x y k by unfold ok1; rw [gives_no h0]; rfl)
        have HN := Lib.hid (byVar_nil A n c x k wr (h.below he.out.bel) hn1 (by omega) h0)
        clear h0
        go_wp2_with fail
        refine HN.out.mono ?_
        rintro e w1 ⟨rfl, hb1⟩
        have he1 := Lib.hid (he.out.below hb1)
        have ho1 := Lib.hid (ho.out.below hb1)
        clear hb1 he ho C0 HN
        go_wp2_with fail
        refine (variable_any k _ (by omega)).mono ?_
        rintro e w2 ⟨rfl, o2, hb2⟩
        have he2 := Lib.hid (he1.out.below hb2)
        have ho2 := Lib.hid (ho1.out.below hb2)
        have C1 := he2.out.c1
        have R2 := Lib.hid o2.ri
        clear hb2 he1 ho1 o2
        go_wp2_with fail
        refine (fill_any B m d y _ 1 1 [-1 - (k : Int)] _ (h'.below he2.out.bel) R2.out hw2 HY.out (by intro v hv; simp at hv; omega) (by omega)).mono ?_
        rintro e w3 ⟨A1, c1, rfl, o3, hb3⟩
        rw [HC.out] at o3 ⊢
        rw [HO.out]
        have hszg := he2.out.size
        have hO0 := ho2
        have he3 := Lib.hid (he2.out.below hb3)
        have ho3 := Lib.hid (ho2.out.below hb3)
        clear hb3 he2 C1 R2 ho2 HC HO
        have R1 := Lib.hid (o3.base (B' := w.heap.size + 1 + 1 + 1 + 1) hszg)
        have P1 := Lib.hid (hO0.out.fresh o3)
        clear o3
        obtain ⟨G, hG⟩ : ∃ G, cmp1 x y k = G := ⟨_, rfl⟩
        have HG := Lib.hid hG
        rw [hG] at R1
        rw [hG]
        have hG60 : G.length ≤ 60 := by rw [← hG]; exact fillL_le _ _ _
        clear hG
        cases hok : ok1 x y k
        · have HU := Lib.hid (cmpU_no (cmpOk_no hlt hok))
          have C2 := he3.out.c2
          have F2 := he3.out.f2
          have HF := Lib.hid (he3.out.none_)
          clear hok
          go_wp2_with fail
          exact bodyPost_ret (v := .tuple #[.agg #[.slice none 0 0], .bool false]) (by simp [results, Try.results112, go_sem, HF.out.1]) rfl ⟨none, 0, by rw [HU.out]; rfl, by rw [HU.out]; exact ⟨rfl, [], World.ownsRow_nil _ _ _ _, Rows.nil _ _⟩, HF.out.2⟩
        · have HK1 := Lib.hid (cmpOk_step hcm.out hok)
          have HST := Lib.hid (cmpR_step x y k)
          clear hok
          have hszE := he3.out.size
          have C3E := he3.out.c3
          have F3E := he3.out.f3
          have howa := Lib.hid (ownsRow_below ho3.out.1 ((Below.refl _ _).alloc (Nat.le_refl _) (.cells #[.slice A1 G.length c1] 24)))
          go_wp2_with (at_builtin; refine wpList_append_any rfl _ _ 49 rfl (w.heap.size + 1 + 1 + 1 + 1) 24 i1 (.slice none 0 0) 1 24 Try.underlying49 hj hy0 hy1 hy2 rfl (by omega) Ao k co (List.zipWith rowV rs (cmpR x y k)) rfl howa.out _ 1 _ [.slice A1 G.length c1] rfl (Src.new _ [.slice A1 G.length c1] _ 1 1 rfl (by simp [Value.oneCell'])) (by unfold maxLen; omega) (by omega) (by first | omega | (simp; omega) | (simp at hszE ⊢; omega)) ?_; intro A3 c3 wN hoN hg hnil; have hgb := app_below hg howa.out hszE; have hO3 := Lib.hid (ho3.out.push R1.out P1.out hg hoN); have hE3 := Lib.hid (he3.out.grow hgb); have C3 := hE3.out.c3; have F3 := hE3.out.f3; clear hgb hg hoN howa C3E F3E)
          have hO4 := Lib.hid (hO3.out.setBelow (p := ⟨w.heap.size + 1 + 1 + 1, 0, none⟩) (by dsimp only; omega) (.slice A3 (k + 1) c3))
          have hE4 := Lib.hid (hE3.out.set_ A3 (k + 1) c3)
          clear hO3 hE3 C3 F3
          rw [← HG.out, ← HST.out] at hO4
          go_roundw
          case rel => exact ⟨k + 1, A3, c3, _, by omega, by go_num, hE4, hO4, HK1⟩
          case measure => simp [intOf]; omega
      · have hgv := gives_yes h0
        have HC := Lib.hid (show fillL y (hasV x k) (hasV x k).length = cmp1 x y k by unfold cmp1; rw [hgv])
        have HO := Lib.hid (show fillOk y (hasV x k) (hasV x k).length = ok1 x y k by unfold ok1; rw [hgv])
        have HN := Lib.hid (byVar_some A n c x k wr (h.below he.out.bel) hn1 (by omega) h0)
        have HB := HX.out k hlt
        rw [hgv] at HB
        obtain ⟨hb60, hbd⟩ := HB
        have HBD := Lib.hid hbd
        clear h0 hgv hbd
        generalize hasV x k = V at *
        go_wp2_with fail
        refine HN.out.mono ?_
        rintro e w1 ⟨g, off, c', rfl, r1, hb1⟩
        have he1 := Lib.hid (he.out.below hb1)
        have ho1 := Lib.hid (ho.out.below hb1)
        have R1 := Lib.hid r1
        have C1 := he1.out.c1
        clear hb1 he ho C0 HN r1
        go_wp2_with fail
        refine (fill_any B m d y _ V.length c' V _ (h'.below he1.out.bel) R1.out hw2 HY.out HBD.out hb60).mono ?_
        rintro e w3 ⟨A1, c1, rfl, o3, hb3⟩
        rw [HC.out] at o3 ⊢
        rw [HO.out]
        have hszg := he1.out.size
        have hO0 := ho1
        have he3 := Lib.hid (he1.out.below hb3)
        have ho3 := Lib.hid (ho1.out.below hb3)
        clear hb3 he1 C1 R1 ho1 HC HO
        have R1 := Lib.hid (o3.base (B' := w.heap.size + 1 + 1 + 1 + 1) hszg)
        have P1 := Lib.hid (hO0.out.fresh o3)
        clear o3
        obtain ⟨G, hG⟩ : ∃ G, cmp1 x y k = G := ⟨_, rfl⟩
        have HG := Lib.hid hG
        rw [hG] at R1
        rw [hG]
        have hG60 : G.length ≤ 60 := by rw [← hG]; exact fillL_le _ _ _
        clear hG
        cases hok : ok1 x y k
        · have HU := Lib.hid (cmpU_no (cmpOk_no hlt hok))
          have C2 := he3.out.c2
          have F2 := he3.out.f2
          have HF := Lib.hid (he3.out.none_)
          clear hok
          go_wp2_with fail
          exact bodyPost_ret (v := .tuple #[.agg #[.slice none 0 0], .bool false]) (by simp [results, Try.results112, go_sem, HF.out.1]) rfl ⟨none, 0, by rw [HU.out]; rfl, by rw [HU.out]; exact ⟨rfl, [], World.ownsRow_nil _ _ _ _, Rows.nil _ _⟩, HF.out.2⟩
        · have HK1 := Lib.hid (cmpOk_step hcm.out hok)
          have HST := Lib.hid (cmpR_step x y k)
          clear hok
          have hszE := he3.out.size
          have C3E := he3.out.c3
          have F3E := he3.out.f3
          have howa := Lib.hid (ownsRow_below ho3.out.1 ((Below.refl _ _).alloc (Nat.le_refl _) (.cells #[.slice A1 G.length c1] 24)))
          go_wp2_with (at_builtin; refine wpList_append_any rfl _ _ 49 rfl (w.heap.size + 1 + 1 + 1 + 1) 24 i1 (.slice none 0 0) 1 24 Try.underlying49 hj hy0 hy1 hy2 rfl (by omega) Ao k co (List.zipWith rowV rs (cmpR x y k)) rfl howa.out _ 1 _ [.slice A1 G.length c1] rfl (Src.new _ [.slice A1 G.length c1] _ 1 1 rfl (by simp [Value.oneCell'])) (by unfold maxLen; omega) (by omega) (by first | omega | (simp; omega) | (simp at hszE ⊢; omega)) ?_; intro A3 c3 wN hoN hg hnil; have hgb := app_below hg howa.out hszE; have hO3 := Lib.hid (ho3.out.push R1.out P1.out hg hoN); have hE3 := Lib.hid (he3.out.grow hgb); have C3 := hE3.out.c3; have F3 := hE3.out.f3; clear hgb hg hoN howa C3E F3E)
          have hO4 := Lib.hid (hO3.out.setBelow (p := ⟨w.heap.size + 1 + 1 + 1, 0, none⟩) (by dsimp only; omega) (.slice A3 (k + 1) c3))
          have hE4 := Lib.hid (hE3.out.set_ A3 (k + 1) c3)
          clear hO3 hE3 C3 F3
          rw [← HG.out, ← HST.out] at hO4
          go_roundw
          case rel => exact ⟨k + 1, A3, c3, _, by omega, by go_num, hE4, hO4, HK1⟩
          case measure => simp [intOf]; omega
    · obtain rfl : k = 24 := by omega
      have HU : Hid (cmpU x y = (plainU (cmpR x y 24), true)) := Lib.hid (cmpU_yes hcm.out)
      have HR := Lib.hid ho.out.qr.rd
      have hwt := cmpR_wt x y (k := 24) (by omega)
      have hszg := he.out.size
      have hrg := he.out.hs
      have C3 := he.out.c3
      go_wp2_with fail
      refine (plain_any Ao 24 co (cmpR x y 24) _ HR.out (by omega) (by omega)).mono ?_
      rintro e w4 ⟨A', c', rfl, oP, hb4⟩
      have he4 := Lib.hid (he.out.below hb4)
      have HF := Lib.hid (he4.out.fin oP (by omega))
      have C2 := he4.out.c2
      have F2 := he4.out.f2
      clear hb4 he oP
      go_wp2_with fail
      exact bodyPost_ret (v := .tuple #[.agg #[.slice A' (plainU (cmpR x y 24)).length c'], .bool true]) (by simp [results, Try.results112, go_sem, HF.out.1]) rfl ⟨A', c', by rw [HU.out], by rw [HU.out]; exact HF.out.2.1, HF.out.2.2⟩
set_option maxHeartbeats 4000000 in
set_option maxRecDepth 20000 in
theorem I_Composed (A : Option Addr) (n c : Nat) (xs : List Int) (B : Option Addr) (m d : Nat) (x : List (List Int)) (C : Option Addr) (o f : Nat) (y : List (List Int)) (w : World) (h : RI w A n xs) (h' : RR w B m x) (h'' : RR w C o y) (hn : n ≤ 1048576) (hw : wtR x ≤ 1048576) (hw2 : wtR y ≤ 1048576) :
    Calls Try.prog 53 #[.agg #[.slice A n c], .agg #[.slice B m d], .agg #[.slice C o f]] w fun e w' => ∃ A' c', e = .returned (.tuple #[.agg #[.slice A' (V_Composed xs x y).1.length c'], .bool (V_Composed xs x y).2]) ∧ QR w' w.heap.size A' (V_Composed xs x y).1.length c' (V_Composed xs x y).1 ∧ Below w.heap.size w w' := by
  have hl := h'.1
  have hl' := h''.1
  have hB0 : Below w.heap.size w ((((w.alloc (.cells #[.slice A n c] 26)).alloc (.cells #[.slice B m d] 51)).alloc (.cells #[.slice C o f] 51)).alloc (.cells #[.slice none 0 0] 51)) := ((((Below.refl _ _).alloc (Nat.le_refl _) _).alloc (by simp) _).alloc (by simp <;> omega) _).alloc (by simp <;> omega) _
  have bk0 : Blk ((((w.alloc (.cells #[.slice A n c] 26)).alloc (.cells #[.slice B m d] 51)).alloc (.cells #[.slice C o f] 51)).alloc (.cells #[.slice none 0 0] 51)) w.heap.size 26 #[.slice A n c] := (((Blk.new w _ _).alloc _).alloc _).alloc _
  have bk1 : Blk ((((w.alloc (.cells #[.slice A n c] 26)).alloc (.cells #[.slice B m d] 51)).alloc (.cells #[.slice C o f] 51)).alloc (.cells #[.slice none 0 0] 51)) (w.heap.size + 1) 51 #[.slice B m d] := by
    have := ((Blk.new (w.alloc (.cells #[.slice A n c] 26)) 51 #[.slice B m d]).alloc (.cells #[.slice C o f] 51)).alloc (.cells #[.slice none 0 0] 51)
    simpa only [World.size_alloc] using this
  have bk2 : Blk ((((w.alloc (.cells #[.slice A n c] 26)).alloc (.cells #[.slice B m d] 51)).alloc (.cells #[.slice C o f] 51)).alloc (.cells #[.slice none 0 0] 51)) (w.heap.size + 1 + 1) 51 #[.slice C o f] := by
    have := (Blk.new ((w.alloc (.cells #[.slice A n c] 26)).alloc (.cells #[.slice B m d] 51)) 51 #[.slice C o f]).alloc (.cells #[.slice none 0 0] 51)
    simpa only [World.size_alloc] using this
  have bk3 : Blk ((((w.alloc (.cells #[.slice A n c] 26)).alloc (.cells #[.slice B m d] 51)).alloc (.cells #[.slice C o f] 51)).alloc (.cells #[.slice none 0 0] 51)) (w.heap.size + 1 + 1 + 1) 51 #[.slice none 0 0] := by
    have := Blk.new (((w.alloc (.cells #[.slice A n c] 26)).alloc (.cells #[.slice B m d] 51)).alloc (.cells #[.slice C o f] 51)) 51 #[.slice none 0 0]
    simpa only [World.size_alloc] using this
  generalize hW0 : (((w.alloc (.cells #[.slice A n c] 26)).alloc (.cells #[.slice B m d] 51)).alloc (.cells #[.slice C o f] 51)).alloc (.cells #[.slice none 0 0] 51) = W0 at *
  have K00 : W0.cell? ⟨w.heap.size, 0, none⟩ = some (.slice A n c) := by simpa using bk0.cell 0
  have K01 : W0.cell? ⟨w.heap.size + 1, 0, none⟩ = some (.slice B m d) := by simpa using bk1.cell 0
  have K02 : W0.cell? ⟨w.heap.size + 1 + 1, 0, none⟩ = some (.slice C o f) := by simpa using bk2.cell 0
  cases hq1 : substOk xs x
  · rw [composed_no1 hq1]
    have H1 := Lib.hid hq1
    clear hq1
    go_enter Try.func53, Try.ntmps53
    go_wp2_with fail
    clear hW0 K00 K01 K02
    refine (implSubstOk_any A n c xs B m d x _ (h.below hB0) (h'.below hB0) hn hw).mono ?_
    rintro e wL ⟨rfl, hbL⟩
    rw [H1.out]
    replace bk3 := bk3.below hbL
    replace hB0 := below_then hB0 hbL hB0.size
    have K0 : wL.cell? ⟨w.heap.size + 1 + 1 + 1, 0, none⟩ = some (.slice none 0 0) := by simpa using bk3.cell 0
    have F0 : wL.frozen? ⟨w.heap.size + 1 + 1 + 1, 0, none⟩ = false := bk3.frozen 0
    have bk := bk3.set_ 0 (.slice none 0 0)
    simp only [List.setIfInBounds_toArray, List.set_cons_zero] at bk
    have E3 : Below w.heap.size w (wL.setCell ⟨w.heap.size + 1 + 1 + 1, 0, none⟩ (.slice none 0 0)) := hB0.setCell (p := ⟨w.heap.size + 1 + 1 + 1, 0, none⟩) (by dsimp only; omega) _
    have HK := Lib.hid bk
    clear bk bk0 bk1 bk2 bk3
    go_wp2_with fail
    have K2 : ∀ i, (wL.setCell ⟨w.heap.size + 1 + 1 + 1, 0, none⟩ (.slice none 0 0)).cell? ⟨w.heap.size + 1 + 1 + 1, i, none⟩ = #[.slice none 0 0][i]? := fun i => HK.out.cell i
    exact bodyPost_ret (v := .tuple #[.agg #[.slice none 0 0], .bool false]) (by simp [results, Try.results53, go_sem, K2]) rfl ⟨none, 0, rfl, ⟨rfl, [], World.ownsRow_nil _ _ _ _, Rows.nil _ _⟩, E3⟩
  · cases hq2 : substOk xs y
    · rw [composed_no2 hq1 hq2]
      have H1 := Lib.hid hq1
      have H2 := Lib.hid hq2
      clear hq1 hq2
      go_enter Try.func53, Try.ntmps53
      go_wp2_with fail
      clear hW0 K00 K01 K02
      refine (implSubstOk_any A n c xs B m d x _ (h.below hB0) (h'.below hB0) hn hw).mono ?_
      rintro e w1 ⟨rfl, hb1⟩
      rw [H1.out]
      replace bk0 := bk0.below hb1
      replace bk2 := bk2.below hb1
      replace bk3 := bk3.below hb1
      replace hB0 := below_then hB0 hb1 hB0.size
      have K0 : w1.cell? ⟨w.heap.size, 0, none⟩ = some (.slice A n c) := by simpa using bk0.cell 0
      have K2 : w1.cell? ⟨w.heap.size + 1 + 1, 0, none⟩ = some (.slice C o f) := by simpa using bk2.cell 0
      clear hb1 bk1
      have bk1 := bk2
      go_wp2_with fail
      refine (implSubstOk_any A n c xs C o f y _ (h.below hB0) (h''.below hB0) hn hw2).mono ?_
      rintro e wL ⟨rfl, hbL⟩
      rw [H2.out]
      clear K0 K2
      replace bk3 := bk3.below hbL
      replace hB0 := below_then hB0 hbL hB0.size
      have K0 : wL.cell? ⟨w.heap.size + 1 + 1 + 1, 0, none⟩ = some (.slice none 0 0) := by simpa using bk3.cell 0
      have F0 : wL.frozen? ⟨w.heap.size + 1 + 1 + 1, 0, none⟩ = false := bk3.frozen 0
      have bk := bk3.set_ 0 (.slice none 0 0)
      simp only [List.setIfInBounds_toArray, List.set_cons_zero] at bk
      have E3 : Below w.heap.size w (wL.setCell ⟨w.heap.size + 1 + 1 + 1, 0, none⟩ (.slice none 0 0)) := hB0.setCell (p := ⟨w.heap.size + 1 + 1 + 1, 0, none⟩) (by dsimp only; omega) _
      have HK := Lib.hid bk
      clear bk bk0 bk1 bk2 bk3
      go_wp2_with fail
      have K2 : ∀ i, (wL.setCell ⟨w.heap.size + 1 + 1 + 1, 0, none⟩ (.slice none 0 0)).cell? ⟨w.heap.size + 1 + 1 + 1, i, none⟩ = #[.slice none 0 0][i]? := fun i => HK.out.cell i
      exact bodyPost_ret (v := .tuple #[.agg #[.slice none 0 0], .bool false]) (by simp [results, Try.results53, go_sem, K2]) rfl ⟨none, 0, rfl, ⟨rfl, [], World.ownsRow_nil _ _ _ _, Rows.nil _ _⟩, E3⟩
    · rw [composed_yes hq1 hq2]
      have H1 := Lib.hid hq1
      have H2 := Lib.hid hq2
      have HGB := Lib.hid (fun (i : Nat) (hi : i < 24) => gives_bd hq1 hi)
      have HYB := Lib.hid (hasV_len hq2)
      have hm24 := (substOk_iff.1 hq1).2.1
      have ho24 := (substOk_iff.1 hq2).2.1
      rw [hl] at hm24
      rw [hl'] at ho24
      clear hq1 hq2
      go_enter Try.func53, Try.ntmps53
      go_wp2_with fail
      clear hW0 K00 K01 K02
      refine (implSubstOk_any A n c xs B m d x _ (h.below hB0) (h'.below hB0) hn hw).mono ?_
      rintro e w1 ⟨rfl, hb1⟩
      rw [H1.out]
      replace bk0 := bk0.below hb1
      replace bk1 := bk1.below hb1
      replace bk2 := bk2.below hb1
      replace bk3 := bk3.below hb1
      replace hB0 := below_then hB0 hb1 hB0.size
      have K0 : w1.cell? ⟨w.heap.size, 0, none⟩ = some (.slice A n c) := by simpa using bk0.cell 0
      have K2 : w1.cell? ⟨w.heap.size + 1 + 1, 0, none⟩ = some (.slice C o f) := by simpa using bk2.cell 0
      clear hb1
      go_wp2_with fail
      refine (implSubstOk_any A n c xs C o f y _ (h.below hB0) (h''.below hB0) hn hw2).mono ?_
      rintro e w2 ⟨rfl, hb2⟩
      rw [H2.out]
      replace bk1 := bk1.below hb2
      replace bk2 := bk2.below hb2
      replace bk3 := bk3.below hb2
      replace hB0 := below_then hB0 hb2 hB0.size
      clear K0 K2 hb2 bk0
      have K1 : w2.cell? ⟨w.heap.size + 1, 0, none⟩ = some (.slice B m d) := by simpa using bk1.cell 0
      have K2 : w2.cell? ⟨w.heap.size + 1 + 1, 0, none⟩ = some (.slice C o f) := by simpa using bk2.cell 0
      go_wp2_with fail
      refine (compose_any B m d x C o f y _ (h'.below hB0) (h''.below hB0) hw hw2 HGB.out HYB.out).mono ?_
      rintro e w3 ⟨A', c', rfl, hL, hb3⟩
      have hlt := bk3.lt
      have hsz2 := hB0.size
      replace bk3 := bk3.below hb3
      replace hB0 := below_then hB0 hb3 hB0.size
      clear K1 K2 hb3 bk1 bk2
      have K0 : w3.cell? ⟨w.heap.size + 1 + 1 + 1, 0, none⟩ = some (.slice none 0 0) := by simpa using bk3.cell 0
      have F0 : w3.frozen? ⟨w.heap.size + 1 + 1 + 1, 0, none⟩ = false := bk3.frozen 0
      obtain ⟨V, hV⟩ : ∃ V, cmpU x y = V := ⟨_, rfl⟩
      rw [hV] at hL ⊢
      have HV := Lib.hid hV
      have bk := bk3.set_ 0 (.slice A' V.1.length c')
      simp only [List.setIfInBounds_toArray, List.set_cons_zero] at bk
      have E1 : QR (w3.setCell ⟨w.heap.size + 1 + 1 + 1, 0, none⟩ (.slice A' V.1.length c')) w.heap.size A' V.1.length c' V.1 :=
        QR.base (B := w2.heap.size) (hL.setBelow (p := ⟨w.heap.size + 1 + 1 + 1, 0, none⟩) hlt _) hsz2
      have E3 : Below w.heap.size w (w3.setCell ⟨w.heap.size + 1 + 1 + 1, 0, none⟩ (.slice A' V.1.length c')) := hB0.setCell (p := ⟨w.heap.size + 1 + 1 + 1, 0, none⟩) (by dsimp only; omega) _
      have HK := Lib.hid bk
      clear hL bk bk3 hV
      go_wp2_with fail
      have K2 : ∀ i, (w3.setCell ⟨w.heap.size + 1 + 1 + 1, 0, none⟩ (.slice A' V.1.length c')).cell? ⟨w.heap.size + 1 + 1 + 1, i, none⟩ = #[.slice A' V.1.length c'][i]? := fun i => HK.out.cell i
      exact bodyPost_ret (v := .tuple #[.agg #[.slice A' V.1.length c'], .bool V.2]) (by simp [results, Try.results53, go_sem, K2]) rfl ⟨A', c', by rw [HV.out], by rw [HV.out]; exact E1, E3⟩
end Go.Proofs.Ytihgolhpdnoooaa
