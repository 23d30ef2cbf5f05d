/- Contracts: depth. -/
import Derived.Test.YtihgolhpdnoooaaArgs
import Derived.Test.YtihgolhpdnoooaaPlace2
namespace Go.Proofs.Ytihgolhpdnoooaa
open Go.RowKit
set_option linter.unusedVariables false

/-- The depth at a place of a valid term. -/
def dep (ar t : List Int) (p : Nat) : Nat := Pl.depth (Pl.ari ar) t t.length p
theorem dep_le (ar t : List Int) (p : Nat) : dep ar t p ≤ t.length := Pl.depth_le _ _
def deps (ar t : List Int) (L : List Nat) : Nat := L.foldl (fun d q => max d (dep ar t q)) 0
theorem dep_eq {ar t : List Int} (hT : Pl.termOk ar t = true) {p : Nat} (hp : p < t.length) : dep ar t p = deps ar t (Pl.args (Pl.ari ar) t p) + 1 := by
  have hr := (Pl.termOk_iff.1 hT).2.2
  obtain ⟨k, hk⟩ : ∃ k, t.length = k + 1 := ⟨t.length - 1, by omega⟩
  unfold dep deps
  rw [show Pl.depth (Pl.ari ar) t t.length p = Pl.depth (Pl.ari ar) t (k + 1) p from by rw [hk]]
  simp only [Pl.depth]
  congr 1
  apply Pl.foldl_congr
  intro d x hx
  have := Pl.args_mem hr hp x hx
  unfold dep
  rw [Pl.depth_fuel hr k t.length x (by omega) (by omega) (by omega)]
theorem deps_step {ar t : List Int} {L : List Nat} {j : Nat} (hj : j < L.length) : deps ar t (L.take (j + 1)) = max (deps ar t (L.take j)) (dep ar t (L.getD j 0)) := by
  unfold deps
  rw [List.take_succ_eq_append_getElem hj, List.foldl_append, List.getD_eq_getElem?_getD, List.getElem?_eq_getElem hj]
  rfl
theorem deps_le {ar t : List Int} : ∀ (L : List Nat), deps ar t L ≤ t.length := by
  have : ∀ (L : List Nat) (b : Nat), b ≤ t.length → L.foldl (fun d q => max d (dep ar t q)) b ≤ t.length := by
    intro L
    induction L with
    | nil => intro b hb; exact hb
    | cons x L ih => intro b hb; exact ih _ (by show max b (dep ar t x) ≤ t.length; have := dep_le ar t x; omega)
  exact fun L => this L 0 (Nat.zero_le _)
set_option maxHeartbeats 2000000 in
set_option maxRecDepth 20000 in
theorem depthAt_k (A : Option Addr) (n c : Nat) (xs : List Int) (B : Option Addr) (m d : Nat) (t : List Int) (hT : Pl.termOk xs t = true) (hm : m ≤ 1048576) (hn : n ≤ 1048576) : ∀ (k p : Nat) (w : World)
    (h : RI w A n xs) (h' : RI w B m t) (hp : p < m) (hk : m - p ≤ k),
    Calls Try.prog 85 #[.agg #[.slice A n c], .slice B m d, .int .i64 p] w fun e w' => e = .returned (.int .i64 (dep xs t p : Nat)) ∧ Below w.heap.size w w' := by
  intro k
  induction k with
  | zero => intro p w h h' hp hk; omega
  | succ k ih =>
    intro p w h h' hp hk
    have hl := h'.1
    have hD := dep_eq hT (p := p) (by rw [hl]; exact hp)
    have hal := args_len hT p
    have hmem := Pl.args_mem (Pl.termOk_iff.1 hT).2.2 (p := p) (by rw [hl]; exact hp)
    have hds := fun L => deps_le (ar := xs) (t := t) L
    have hdl := fun q => dep_le xs t q
    rw [hl] at hds hdl hmem
    rw [hD]
    have HT := Lib.hid hT
    have hq : ∀ j, j < (Pl.args (Pl.ari xs) t p).length → p < (Pl.args (Pl.ari xs) t p).getD j 0 ∧ (Pl.args (Pl.ari xs) t p).getD j 0 < m := by
      intro j hj
      have := hmem ((Pl.args (Pl.ari xs) t p).getD j 0) (by rw [List.getD_eq_getElem?_getD, List.getElem?_eq_getElem hj, Option.getD_some]; exact List.getElem_mem hj)
      exact ⟨this.1, this.2.2.1⟩
    clear hmem hD hl
    generalize hL : Pl.args (Pl.ari xs) t p = L at *
    have HL := Lib.hid hL
    clear hL
    go_enter Try.func85, Try.ntmps85
    go_wp2_with fail
    refine (argsAt_any A n c xs B m d t p _ (h.alloc _) (h'.alloc _) HT.out hp hm hn).mono ?_
    rw [HL.out]
    rintro e w1 ⟨A', c', rfl, ho, hb1⟩
    have hR := ho.ri
    clear ho
    have hB : Below w.heap.size w w1 := below_then ((Below.refl _ _).alloc (Nat.le_refl _) _) hb1 (by simp)
    have bx : w1.cell? ⟨w.heap.size, 0, none⟩ = some (.slice A n c) := (hb1.cell (by simp)).trans (by simp)
    replace h := (h.alloc _).below hb1
    replace h' := (h'.alloc _).below hb1
    clear hb1
    go_wp2_with fail
    go_loopw [7, 15, 9] (fun u i _ wr => ∃ j : Nat, j ≤ L.length ∧ i = .int .i64 j ∧ u = .int .i64 (deps xs t (L.take j) : Nat) ∧ Below w1.heap.size w1 wr) (fun _ i _ _ => L.length - (intOf i).toNat)
    case atStart => exact ⟨0, Nat.zero_le _, rfl, rfl, Below.refl _ _⟩
    case round =>
      obtain ⟨j, hj, rfl, rfl, hb⟩ := hrel
      by_cases hlt : j < L.length
      · obtain ⟨g, off, x, rfl, hc, hx⟩ := (hR.below hb).at_ (k := j) hlt
        have hxn : x = (L.getD j 0 : Nat) := by rw [hx.out, nats_getD _ _ hlt]
        have hqj := hq j hlt
        have HS := Lib.hid (deps_step (ar := xs) (t := t) hlt)
        obtain ⟨q, hqe⟩ : ∃ q : Nat, q = L.getD j 0 := ⟨_, rfl⟩
        rw [← hqe] at hxn hqj HS
        subst hxn
        clear hx hqe
        have hbx := keepC hb bx
        have hdq := hdl q
        have hdL := hds (L.take j)
        go_wp2_with fail
        refine (ih q _ (h.below hb) (h'.below hb) hqj.2 (by omega)).mono ?_
        rintro e w2 ⟨rfl, hb2⟩
        have hB2 := hb.trans (hb2.mono hb.size)
        go_wp2_with fail
        go_roundw
        case rel => exact ⟨j + 1, by omega, by go_num, by rw [HS.out]; go_num, hB2⟩
        case measure => simp [intOf]; omega
      · have hjl : j = L.length := by omega
        subst hjl
        have hdL := hds L
        rw [List.take_length]
        go_wp2_with fail
        go_ret
        exact ⟨ret_int (by omega), below_then hB hb hB.size⟩
set_option maxHeartbeats 2000000 in
set_option maxRecDepth 20000 in
theorem l1Depth_k (A : Option Addr) (n c : Nat) (xs : List Int) (B : Option Addr) (m d : Nat) (t : List Int) (hT : Pl.termOk xs t = true) (hm : m ≤ 1048576) (hn : n ≤ 1048576) : ∀ (k p : Nat) (w : World)
    (h : RI w A n xs) (h' : RI w B m t) (hp : p < m) (hk : m - p ≤ k),
    Calls Try.prog 104 #[.agg #[.slice A n c], .slice B m d, .int .i64 p] w fun e w' => e = .returned (.int .i64 (dep xs t p : Nat)) ∧ Below w.heap.size w w' := by
  intro k
  induction k with
  | zero => intro p w h h' hp hk; omega
  | succ k ih =>
    intro p w h h' hp hk
    have hl := h'.1
    have hD := dep_eq hT (p := p) (by rw [hl]; exact hp)
    have hal := args_len hT p
    have hmem := Pl.args_mem (Pl.termOk_iff.1 hT).2.2 (p := p) (by rw [hl]; exact hp)
    have hds := fun L => deps_le (ar := xs) (t := t) L
    have hdl := fun q => dep_le xs t q
    rw [hl] at hds hdl hmem
    rw [hD]
    have HT := Lib.hid hT
    have hq : ∀ j, j < (Pl.args (Pl.ari xs) t p).length → p < (Pl.args (Pl.ari xs) t p).getD j 0 ∧ (Pl.args (Pl.ari xs) t p).getD j 0 < m := by
      intro j hj
      have := hmem ((Pl.args (Pl.ari xs) t p).getD j 0) (by rw [List.getD_eq_getElem?_getD, List.getElem?_eq_getElem hj, Option.getD_some]; exact List.getElem_mem hj)
      exact ⟨this.1, this.2.2.1⟩
    clear hmem hD hl
    generalize hL : Pl.args (Pl.ari xs) t p = L at *
    have HL := Lib.hid hL
    clear hL
    go_enter Try.func104, Try.ntmps104
    go_wp2_with fail
    refine (l1Args_any A n c xs B m d t p _ (h.alloc _) (h'.alloc _) HT.out hp hm hn).mono ?_
    rw [HL.out]
    rintro e w1 ⟨A', c', rfl, ho, hb1⟩
    have hR := ho.ri
    clear ho
    have hB : Below w.heap.size w w1 := below_then ((Below.refl _ _).alloc (Nat.le_refl _) _) hb1 (by simp)
    have bx : w1.cell? ⟨w.heap.size, 0, none⟩ = some (.slice A n c) := (hb1.cell (by simp)).trans (by simp)
    replace h := (h.alloc _).below hb1
    replace h' := (h'.alloc _).below hb1
    clear hb1
    go_wp2_with fail
    go_loopw [7, 9] (fun u i wr => ∃ j : Nat, j ≤ L.length ∧ i = .int .i64 j ∧ u = .int .i64 (deps xs t (L.take j) : Nat) ∧ Below w1.heap.size w1 wr) (fun _ i _ => L.length - (intOf i).toNat)
    case atStart => exact ⟨0, Nat.zero_le _, rfl, rfl, Below.refl _ _⟩
    case round =>
      obtain ⟨j, hj, rfl, rfl, hb⟩ := hrel
      by_cases hlt : j < L.length
      · obtain ⟨g, off, x, rfl, hc, hx⟩ := (hR.below hb).at_ (k := j) hlt
        have hxn : x = (L.getD j 0 : Nat) := by rw [hx.out, nats_getD _ _ hlt]
        have hqj := hq j hlt
        have HS := Lib.hid (deps_step (ar := xs) (t := t) hlt)
        obtain ⟨q, hqe⟩ : ∃ q : Nat, q = L.getD j 0 := ⟨_, rfl⟩
        rw [← hqe] at hxn hqj HS
        subst hxn
        clear hx hqe
        have hbx := keepC hb bx
        have hdq := hdl q
        have hdL := hds (L.take j)
        have hj0 : (0 : Int) ≤ (j : Int) := by omega
        have hj1 : (j : Int) < (L.length : Int) := by omega
        have hq2 := hqj.2
        have hqk : m - q ≤ k := by omega
        go_wp2_with fail
        go_region_held3 (fun w' => Below wr.heap.size wr w' ∧ w'.cell? ⟨w.heap.size, 0, none⟩ = some (.slice A n c) ∧ w'.cell? ⟨g, off + j, none⟩ = some (.int .i64 q))
          (first | exact ⟨(Below.refl _ _).drew, hbx, hc⟩ | exact keepS2 hb2 (by assumption) | assumption)
          ((first | (go_at_call 104; refine (ih q _ ?_ ?_ hq2 hqk).mono ?_; exact riS (h.below hb) (by assumption); exact riS (h'.below hb) (by assumption); rintro e w2 ⟨rfl, hb2⟩) | (go_at_call 143; refine (l1Max_any _ _ _).mono ?_; rintro e w3 ⟨rfl, rfl⟩)))
        rename_i hS
        have hB2 := hb.trans (hS.1.mono hb.size)
        go_wp2_with fail
        go_roundw
        case rel => exact ⟨j + 1, by omega, by go_num, by rw [HS.out]; unfold max2; split <;> go_num, hB2⟩
        case measure => simp [intOf]; omega
      · have hjl : j = L.length := by omega
        subst hjl
        have hdL := hds L
        rw [List.take_length]
        go_wp2_with fail
        go_ret
        exact ⟨ret_int (by omega), below_then hB hb hB.size⟩
def V_DepthOf (xs t : List Int) : Int := if Pl.termOk xs t then (dep xs t 0 : Nat) else 0
theorem depthOf_no {xs t : List Int} (h : Pl.termOk xs t = false) : V_DepthOf xs t = 0 := by unfold V_DepthOf; rw [h]; rfl
theorem depthOf_yes {xs t : List Int} (h : Pl.termOk xs t = true) : V_DepthOf xs t = (dep xs t 0 : Nat) := by unfold V_DepthOf; rw [h]; rfl
theorem S_DepthOf (A : Option Addr) (n c : Nat) (xs : List Int) (B : Option Addr) (m d : Nat) (t : List Int) (w : World) (h : RI w A n xs) (h' : RI w B m t) (hn : n ≤ 1048576) (hm : m ≤ 1048576) :
    Calls Try.prog 42 #[.agg #[.slice A n c], .slice B m d] w fun e w' => e = .returned (.int .i64 (V_DepthOf xs t)) ∧ Below w.heap.size w w' := by
  have hl := h'.1
  cases hs : Pl.termOk xs t
  · have HE := depthOf_no hs
    rw [HE]
    have HS := Lib.hid hs
    clear hl HE hs
    go_enter Try.func42, Try.ntmps42
    go_wp2_with fail
    refine (specTermOk_any A n c xs B m d t _ (h.alloc _) (h'.alloc _) (by omega) (by omega)).mono ?_
    rintro e w1 ⟨rfl, hb1⟩
    rw [HS.out]
    have hB : Below w.heap.size w w1 := below_then ((Below.refl _ _).alloc (Nat.le_refl _) _) hb1 (by simp)
    have bx : w1.cell? ⟨w.heap.size, 0, none⟩ = some (.slice A n c) := (hb1.cell (by simp)).trans (by simp)
    replace h := (h.alloc _).below hb1
    replace h' := (h'.alloc _).below hb1
    clear hb1
    go_wp2_with fail
    go_ret
    exact ⟨rfl, hB⟩
  · have HE := depthOf_yes hs
    rw [HE]
    have h0 : 0 < m := by have := (Pl.termOk_iff.1 hs).2.1.1; omega
    have HS := Lib.hid hs
    clear hl HE hs
    go_enter Try.func42, Try.ntmps42
    go_wp2_with fail
    refine (specTermOk_any A n c xs B m d t _ (h.alloc _) (h'.alloc _) (by omega) (by omega)).mono ?_
    rintro e w1 ⟨rfl, hb1⟩
    rw [HS.out]
    have hB : Below w.heap.size w w1 := below_then ((Below.refl _ _).alloc (Nat.le_refl _) _) hb1 (by simp)
    have bx : w1.cell? ⟨w.heap.size, 0, none⟩ = some (.slice A n c) := (hb1.cell (by simp)).trans (by simp)
    replace h := (h.alloc _).below hb1
    replace h' := (h'.alloc _).below hb1
    clear hb1
    go_wp2_with fail
    refine (l1Depth_k A n c xs B m d t HS.out hm hn m 0 _ h h' h0 (by omega)).mono ?_
    rintro e w2 ⟨rfl, hb2⟩
    go_wp2_with fail
    go_ret
    exact ⟨rfl, below_then hB hb2 hB.size⟩
theorem I_DepthOf (A : Option Addr) (n c : Nat) (xs : List Int) (B : Option Addr) (m d : Nat) (t : List Int) (w : World) (h : RI w A n xs) (h' : RI w B m t) (hn : n ≤ 1048576) (hm : m ≤ 1048576) :
    Calls Try.prog 15 #[.agg #[.slice A n c], .slice B m d] w fun e w' => e = .returned (.int .i64 (V_DepthOf xs t)) ∧ Below w.heap.size w w' := by
  have hl := h'.1
  cases hs : Pl.termOk xs t
  · have HE := depthOf_no hs
    rw [HE]
    have HS := Lib.hid hs
    clear hl HE hs
    go_enter Try.func15, Try.ntmps15
    go_wp2_with fail
    refine (implTermOk_any A n c xs B m d t _ (h.alloc _) (h'.alloc _) (by omega) (by omega)).mono ?_
    rintro e w1 ⟨rfl, hb1⟩
    rw [HS.out]
    have hB : Below w.heap.size w w1 := below_then ((Below.refl _ _).alloc (Nat.le_refl _) _) hb1 (by simp)
    have bx : w1.cell? ⟨w.heap.size, 0, none⟩ = some (.slice A n c) := (hb1.cell (by simp)).trans (by simp)
    replace h := (h.alloc _).below hb1
    replace h' := (h'.alloc _).below hb1
    clear hb1
    go_wp2_with fail
    go_ret
    exact ⟨rfl, hB⟩
  · have HE := depthOf_yes hs
    rw [HE]
    have h0 : 0 < m := by have := (Pl.termOk_iff.1 hs).2.1.1; omega
    have HS := Lib.hid hs
    clear hl HE hs
    go_enter Try.func15, Try.ntmps15
    go_wp2_with fail
    refine (implTermOk_any A n c xs B m d t _ (h.alloc _) (h'.alloc _) (by omega) (by omega)).mono ?_
    rintro e w1 ⟨rfl, hb1⟩
    rw [HS.out]
    have hB : Below w.heap.size w w1 := below_then ((Below.refl _ _).alloc (Nat.le_refl _) _) hb1 (by simp)
    have bx : w1.cell? ⟨w.heap.size, 0, none⟩ = some (.slice A n c) := (hb1.cell (by simp)).trans (by simp)
    replace h := (h.alloc _).below hb1
    replace h' := (h'.alloc _).below hb1
    clear hb1
    go_wp2_with fail
    refine (depthAt_k A n c xs B m d t HS.out hm hn m 0 _ h h' h0 (by omega)).mono ?_
    rintro e w2 ⟨rfl, hb2⟩
    go_wp2_with fail
    go_ret
    exact ⟨rfl, below_then hB hb2 hB.size⟩
end Go.Proofs.Ytihgolhpdnoooaa
