/- Contracts: drawn substitutions. -/
import Derived.Test.YtlcchafcgidpeaaGreatDoorDrawE
import Derived.Test.YtlcchafcgidpeaaGreatDoorMat
namespace Go.Proofs.YtlcchafcgidpeaaGreatDoor
open Go.RowKit
set_option linter.unusedVariables false
set_option linter.unusedSimpArgs false

/-- Drawn rows: the call's own slice of slices, from block B on, each of them from B on too. -/
def DP (w : World) (B : Nat) (A : Option Addr) (n c : Nat) (x : List (List Int)) : Prop :=
  x.length = n ∧ ∃ vs : List Value, w.ownsRow B 24 1 (.slice A n c) n vs ∧
    ∀ k, k < n → ∃ T m d, vs[k]? = some (.slice T m d) ∧ RB w B T m (x.getD k []) ∧ m ≤ 60 ∧ (m ≤ d ∧ d ≤ 9223372036854775807) ∧ (0 < m → ∀ a, T = some a → blk A ≠ some a.block)
section
variable {w w' : World} {B lo hi : Nat} {A : Option Addr} {n c : Nat} {x : List (List Int)}
theorem DP.nil (w : World) (B : Nat) : DP w B none 0 0 [] := ⟨rfl, [], World.ownsRow_nil w B _ _, fun k hk => by omega⟩
theorem DP.up (h : DP w B A n c x) (ho : Only lo hi w w') (hB : hi ≤ B) : DP w' B A n c x := by
  obtain ⟨h1, vs, h2, h3⟩ := h
  refine ⟨h1, vs, own_same h2 fun b hb => ho.block b (h2.lt b hb).2 (Or.inr (by have := (h2.lt b hb).1; omega)), fun k hk => ?_⟩
  obtain ⟨T, m, d, e1, e2, e3, e4, e5⟩ := h3 k hk
  exact ⟨T, m, d, e1, e2.up ho hB, e3, e4, e5⟩
theorem DP.below (h : DP w B A n c x) (hb : Below w.heap.size w w') : DP w' B A n c x := by
  obtain ⟨h1, vs, h2, h3⟩ := h
  refine ⟨h1, vs, ownsRow_below h2 hb, fun k hk => ?_⟩
  obtain ⟨T, m, d, e1, e2, e3, e4, e5⟩ := h3 k hk
  exact ⟨T, m, d, e1, e2.below hb, e3, e4, e5⟩
theorem DP.base {B' : Nat} (h : DP w B A n c x) (hB : B' ≤ B) : DP w B' A n c x := by
  obtain ⟨h1, vs, h2, h3⟩ := h
  refine ⟨h1, vs, ownsRow_base h2 hB, fun k hk => ?_⟩
  obtain ⟨T, m, d, e1, e2, e3, e4, e5⟩ := h3 k hk
  exact ⟨T, m, d, e1, e2.base hB, e3, e4, e5⟩
theorem DP.rr (h : DP w B A n c x) : RR w A n x := by
  obtain ⟨h1, vs, h2, h3⟩ := h
  refine ⟨h1, fun hn => ?_⟩
  rcases h2.2 with ⟨_, h0⟩ | ⟨g, cap, cur, hv, hB, _⟩
  · omega
  · simp only [Value.slice.injEq] at hv
    obtain ⟨rfl, _, rfl⟩ := hv
    refine ⟨g, 0, rfl, fun k hk => ?_⟩
    obtain ⟨T, m, d, e1, e2, e3, e4, e5⟩ := h3 k hk
    have hc := h2.cellAt k (by omega)
    exact ⟨T, m, d, by rw [Nat.zero_add, hc, e1], e2.1, by omega⟩
theorem DP.cap (h : DP w B A n c x) : n ≤ c ∧ c ≤ maxLen := by
  obtain ⟨h1, vs, h2, h3⟩ := h
  obtain ⟨A', c', hv, h4, h5⟩ := own_form h2
  simp only [Value.slice.injEq] at hv
  obtain ⟨_, _, rfl⟩ := hv
  exact ⟨h4, h5⟩
theorem DP.row (h : DP w B A n c x) {k : Nat} (hk : k < n) : (x.getD k []).length ≤ 60 := by
  obtain ⟨h1, vs, h2, h3⟩ := h
  obtain ⟨T, m, d, e1, e2, e3, e4, e5⟩ := h3 k hk
  have := e2.1.1
  omega
theorem sum_le60 : ∀ {l : List Nat}, (∀ a ∈ l, a ≤ 60) → l.sum ≤ 60 * l.length
  | [], _ => by simp
  | a :: l, h => by
    have h1 := h a List.mem_cons_self
    have h2 := sum_le60 (l := l) fun b hb => h b (List.mem_cons_of_mem _ hb)
    rw [List.sum_cons, List.length_cons]; omega
theorem DP.wt (h : DP w B A n c x) : wtR x ≤ 61 * n := by
  have hr := fun k hk => h.row (k := k) hk
  have hl := h.1
  unfold wtR
  have := sum_le60 (l := x.map List.length) fun a ha => by
    obtain ⟨t, ht, rfl⟩ := List.mem_map.1 ha
    obtain ⟨k, hk, e⟩ := List.getElem_of_mem ht
    have := hr k (by omega)
    rw [List.getD_eq_getElem?_getD, List.getElem?_eq_getElem hk, Option.getD_some, e] at this
    exact this
  rw [List.length_map] at this
  omega
/-- Where a row that reads lies. -/
theorem RB.lt {T : Option Addr} {m : Nat} {t : List Int} (h : RB w B T m t) (hm : 0 < m) : ∀ a, T = some a → a.block < w.heap.size := by
  intro a ha
  obtain ⟨g, off, hA, hc⟩ := h.1.2 hm
  rw [hA] at ha
  injection ha with ha
  subst ha
  have := World.block_lt_of_cell? w _ (hc 0 hm)
  simpa using this
theorem RB.same {T : Option Addr} {m : Nat} {t : List Int} (h : RB w B T m t) (hs : ∀ a, T = some a → w'.heap[a.block]? = w.heap[a.block]?) : RB w' B T m t := by
  refine ⟨⟨h.1.1, fun hn => ?_⟩, h.2⟩
  obtain ⟨g, off, hA, hc⟩ := h.1.2 hn
  exact ⟨g, off, hA, fun k hk => (show w'.cell? ⟨g, off + k, none⟩ = w.cell? ⟨g, off + k, none⟩ from World.cell?_of_block (show w'.heap[g]? = w.heap[g]? from hs _ hA)).trans (hc k hk)⟩
/-- One row more. -/
theorem DP.push (h : DP w B A n c x) {T : Option Addr} {m d : Nat} {t : List Int} (ht : RB w B T m t) (hm : m ≤ 60) (hd : m ≤ d ∧ d ≤ 9223372036854775807) (hne : 0 < m → ∀ a, T = some a → blk A ≠ some a.block)
    {vs : List Value} {o : Obj} {w2 : World} {A' : Option Addr} {c' : Nat} (hvs : ∀ k, k < n → ∃ T m d, vs[k]? = some (.slice T m d) ∧ RB w B T m (x.getD k []) ∧ m ≤ 60 ∧ (m ≤ d ∧ d ≤ 9223372036854775807) ∧ (0 < m → ∀ a, T = some a → blk A ≠ some a.block)) (hvl : vs.length = n)
    (ho : w2.ownsRow B 24 1 (.slice A' (n + 1) c') (n + 1) (vs ++ [.slice T m d])) (hg : (w.alloc o).grownBy w2 (Value.slice A n c).ownBlock) (hw : A' = A ∨ A' = some ⟨(w.alloc o).heap.size, 0, none⟩) : DP w2 B A' (n + 1) c' (x ++ [t]) := by
  have hl := h.1
  have keep : ∀ {T : Option Addr} {m : Nat} {t : List Int}, RB w B T m t → (0 < m → ∀ a, T = some a → blk A ≠ some a.block) → RB w2 B T m t := by
    intro T m t hr hn
    rcases Nat.eq_zero_or_pos m with h0 | h0
    · subst h0
      exact ⟨⟨hr.1.1, fun h => absurd h (by omega)⟩, fun h => absurd h (by omega)⟩
    · refine hr.same fun a ha => ?_
      have hlt := hr.lt h0 a ha
      rw [hg.block a.block (by simp; omega) (fun e => hn h0 a ha (by rw [← blk_own A n c]; exact e.symm))]
      exact Below.heap_alloc w o a.block hlt
  have keep2 : ∀ {T : Option Addr} {m : Nat} {t : List Int}, RB w B T m t → (0 < m → ∀ a, T = some a → blk A ≠ some a.block) → (0 < m → ∀ a, T = some a → blk A' ≠ some a.block) := by
    intro T m t hr hn h0 a ha
    rcases hw with e | e
    · rw [e]; exact hn h0 a ha
    · rw [e]
      have := hr.lt h0 a ha
      simp [blk]
      omega
  refine ⟨by rw [List.length_append, hl]; rfl, _, ho, fun k hk => ?_⟩
  by_cases hkn : k < n
  · obtain ⟨T', m', d', e1, e2, e3, e4, e5⟩ := hvs k hkn
    refine ⟨T', m', d', by rw [List.getElem?_append_left (by omega)]; exact e1, ?_, e3, e4, keep2 e2 e5⟩
    rw [getD_snoc _ _ _ _ (by omega), if_pos (by omega)]
    exact keep e2 e5
  · obtain rfl : k = n := by omega
    refine ⟨T, m, d, by rw [List.getElem?_append_right (by omega), hvl]; simp, ?_, hm, hd, keep2 ht hne⟩
    rw [getD_snoc _ _ _ _ (by omega), if_neg (by omega)]
    exact keep ht hne
end
/-- A store into a block of one slice: no drawn row lies there. -/
theorem RB.setS {w : World} {B gs : Nat} {ty : TypeId} {A0 : Option Addr} {n0 c0 : Nat} {T : Option Addr} {m : Nat} {t : List Int} (h : RB w B T m t) (hb : Blk w gs ty #[.slice A0 n0 c0]) (u : Value) : RB (w.setCell ⟨gs, 0, none⟩ u) B T m t := by
  rcases Nat.eq_zero_or_pos m with h0 | h0
  · subst h0
    exact ⟨⟨h.1.1, fun h => absurd h (by omega)⟩, fun h => absurd h (by omega)⟩
  refine h.same fun a ha => Below.heap_setCell w ⟨gs, 0, none⟩ u a.block (fun e => ?_)
  obtain ⟨g, off, hA, hc⟩ := h.1.2 h0
  rw [hA] at ha
  injection ha with ha
  subst ha
  have h1 := hc 0 h0
  simp only at e
  rw [e, hb.cell] at h1
  cases off with
  | zero => simp at h1
  | succ off => simp at h1
theorem DP.setS {w : World} {B gs : Nat} {ty : TypeId} {A0 : Option Addr} {n0 c0 : Nat} {A : Option Addr} {n c : Nat} {x : List (List Int)} (h : DP w B A n c x) (hb : Blk w gs ty #[.slice A0 n0 c0]) (hty : ty ≠ 24) (u : Value) : DP (w.setCell ⟨gs, 0, none⟩ u) B A n c x := by
  obtain ⟨h1, vs, h2, h3⟩ := h
  refine ⟨h1, vs, own_same h2 fun b hbl => Below.heap_setCell w ⟨gs, 0, none⟩ u b (fun e => ?_), fun k hk => ?_⟩
  · rcases h2.2 with ⟨hn, _⟩ | ⟨g, cap, cur, hv, hB, hg, _⟩
    · rw [hn] at hbl; cases hbl
    · rw [hv] at hbl
      have hbl2 : g = b := by simpa [Value.ownBlock] using hbl
      subst hbl2
      simp only at e
      unfold Blk at hb
      rw [← e, hg] at hb
      simp at hb
      exact hty hb.2.symm
  · obtain ⟨T, m, d, e1, e2, e3, e4, e5⟩ := h3 k hk
    exact ⟨T, m, d, e1, e2.setS hb u, e3, e4, e5⟩
theorem infoRow : (Tryz.prog.info? 24).map (fun i => (i.zero, i.size, i.bytes)) = some (some (.slice none 0 0), 1, 24) := by kernel_rfl
set_option maxHeartbeats 8000000 in
set_option maxRecDepth 20000 in
theorem l2Draw_any (cb : Nat) (A : Option Addr) (n c : Nat) (S : Option Addr) (m d' : Nat) (xs : List Int) (hsg : Pl.sigOk xs = true) (w : World) (h : Dcur w cb A n c) (hr : RB w (cb + 1) S m xs) :
    Calls Tryz.prog 62 #[.pointer (some ⟨cb, 0, none⟩), .agg #[.slice S m d']] w fun e w' => ∃ (T : Option Addr) (k d : Nat) (x : List (List Int)), e = .returned (.agg #[.slice T k d]) ∧ DP w' w.heap.size T k d x ∧ k ≤ 3 ∧ Dcur w' cb A n c ∧ Only cb (cb + 1) w w' := by
  have hlt := h.lt
  obtain ⟨i1, hj, hy0, hy1, hy2⟩ := info_parts infoRow
  have hO0 := (((Only.refl cb (cb + 1) w).alloc (.cells #[.slice S m d'] 26)).alloc (.cells #[.slice none 0 0] 39)).alloc (.cells #[.slice none 0 0] 39)
  have hC0 := ((h.alloc (.cells #[.slice S m d'] 26)).alloc (.cells #[.slice none 0 0] 39)).alloc (.cells #[.slice none 0 0] 39)
  have bx0 := ((Blk.new w 26 #[.slice S m d']).alloc (.cells #[.slice none 0 0] 39)).alloc (.cells #[.slice none 0 0] 39)
  have br0 : Blk (((w.alloc (.cells #[.slice S m d'] 26)).alloc (.cells #[.slice none 0 0] 39)).alloc (.cells #[.slice none 0 0] 39)) (w.heap.size + 1) 39 #[.slice none 0 0] := by
    have := (Blk.new (w.alloc (.cells #[.slice S m d'] 26)) 39 #[.slice none 0 0]).alloc (.cells #[.slice none 0 0] 39)
    simpa only [World.size_alloc] using this
  have bs0 : Blk (((w.alloc (.cells #[.slice S m d'] 26)).alloc (.cells #[.slice none 0 0] 39)).alloc (.cells #[.slice none 0 0] 39)) (w.heap.size + 1 + 1) 39 #[.slice none 0 0] := by
    have := Blk.new ((w.alloc (.cells #[.slice S m d'] 26)).alloc (.cells #[.slice none 0 0] 39)) 39 #[.slice none 0 0]
    simpa only [World.size_alloc] using this
  go_enter Tryz.func62, Tryz.ntmps62
  go_wp2_with fail
  generalize ((w.alloc (.cells #[.slice S m d'] 26)).alloc (.cells #[.slice none 0 0] 39)).alloc (.cells #[.slice none 0 0] 39) = W0 at *
  refine (l1Below_any cb A n c 4 W0 hC0 (by omega)).mono ?_
  rintro e w1 ⟨x, rfl, hx0, hx1, _, hC1, ho1⟩
  have hx3 := hx1 (by omega)
  obtain ⟨q, rfl⟩ : ∃ q : Nat, x = q := ⟨x.toNat, by omega⟩
  replace hO0 := hO0.trans ho1
  replace bx0 := bx0.only ho1 (Or.inr (by omega))
  replace br0 := br0.only ho1 (Or.inr (by omega))
  replace bs0 := bs0.only ho1 (Or.inr (by omega))
  have HN := Lib.hid (DP.nil w1 (w.heap.size + 1 + 1 + 1))
  clear ho1 hC0 hx1
  go_wp2_with fail
  go_loopw [6] (fun v6 wr => ∃ (j k : Nat) (T : Option Addr) (d : Nat) (x : List (List Int)), v6 = .int .i64 j ∧ k + j ≤ 3 ∧ Hid (DP wr (w.heap.size + 1 + 1 + 1) T k d x) ∧ Blk wr w.heap.size 26 #[.slice S m d'] ∧ Blk wr (w.heap.size + 1) 39 #[.slice none 0 0] ∧ Blk wr (w.heap.size + 1 + 1) 39 #[.slice T k d] ∧ Dcur wr cb A n c ∧ Only cb (cb + 1) w wr) (fun v6 _ => (intOf v6).toNat)
  case atStart => exact ⟨q, 0, none, 0, [], rfl, by omega, HN, bx0, br0, bs0, hC1, hO0⟩
  case round =>
    clear HN bx0 br0 bs0 hC1 hO0
    obtain ⟨j, k, T, d, x, rfl, hkj, HD, bx, br, bs, hC, hO⟩ := hrel
    have hsr := bs.lt
    have KS : ∀ i, wr.cell? ⟨w.heap.size + 1 + 1, i, none⟩ = #[Value.slice T k d][i]? := fun i => bs.cell i
    have KR : ∀ i, wr.cell? ⟨w.heap.size + 1, i, none⟩ = #[Value.slice none 0 0][i]? := fun i => br.cell i
    have FR : ∀ i, wr.frozen? ⟨w.heap.size + 1, i, none⟩ = false := fun i => br.frozen i
    by_cases h0 : 0 < j
    · clear KS KR FR
      go_wp2_with fail
      have hC2 := hC.alloc (.cells #[] 2)
      have hO2 := hO.alloc (.cells #[] 2)
      have HD2 := Lib.hid (HD.out.below ((Below.refl _ _).alloc (Nat.le_refl _) (.cells #[] 2)))
      have bx2 := bx.alloc (.cells #[] 2)
      have br2 := br.alloc (.cells #[] 2)
      have bs2 := bs.alloc (.cells #[] 2)
      have hsz : (wr.alloc (.cells #[] 2)).heap.size = wr.heap.size + 1 := by simp
      generalize wr.alloc (.cells #[] 2) = W2 at *
      refine (l1Once_any cb A n c 3 W2 hC2 (by omega)).mono ?_
      rintro e w3 ⟨b, rfl, hC3, ho3⟩
      have hO3 := hO2.trans ho3
      have HD3 := Lib.hid (HD2.out.up ho3 (by omega))
      have bx3 := bx2.only ho3 (Or.inr (by omega))
      have br3 := br2.only ho3 (Or.inr (by omega))
      have bs3 := bs2.only ho3 (Or.inr (by omega))
      have hs3 := ho3.size
      clear hC2 hO2 HD2 bx2 br2 bs2 ho3 HD bx br bs hC hO
      have hR3 : RB w3 (cb + 1) S m xs := hr.up hO3 (Nat.le_refl _)
      cases b
      · have KX : ∀ i, w3.cell? ⟨w.heap.size, i, none⟩ = #[Value.slice S m d'][i]? := fun i => bx3.cell i
        go_wp2_with fail
        go_region_law (first
          | (go_simp; go_at_call 47; refine (l1Below_any cb A n c 3 _ ?_ (by omega)).mono ?_; (first | exact hC3 | exact hC3.drew); rintro e w4 ⟨y, rfl, hq0, hq1, _, hC4, ho4⟩; have bx4 := bx3.only (Only.drewL ho4) (Or.inr (by omega)); have KX4 : ∀ i, w4.cell? ⟨w.heap.size, i, none⟩ = #[Value.slice S m d'][i]? := fun i => bx4.cell i; have hq3 := hq1 (by omega); have hw : IntKind.i64.wrap (1 + y) ≤ 3 := (by rw [IntKind.wrap_i64]; omega); have hR4 := hR3.up (Only.drewL ho4) (Nat.le_refl _); have hO4 := hO3.trans (Only.drewL ho4); have HD4 := Lib.hid (HD3.out.up (Only.drewL ho4) (by omega)); have br4 := br3.only (Only.drewL ho4) (Or.inr (by omega)); have bs4 := bs3.only (Only.drewL ho4) (Or.inr (by omega)))
          | (go_simp; go_at_call 70; refine (l1DrawTerm_any cb A n c S m d' xs hsg 3 (by omega) (by omega) 2 (IntKind.i64.wrap (1 + y)) w4 (by omega) (by omega) hC4 hR4).mono ?_; rintro e w5 ⟨T2, m2, d2, t2, rfl, hoT, hk1, hk2, hrun, hC5, ho5⟩))
        all_goals (
          have hs4 := bs4.lt
          have hs5 := ho5.size
          have hm2 : m2 ≤ 60 := Nat.le_trans hk2 (by decide)
          have hcd2 : m2 ≤ d2 ∧ d2 ≤ 9223372036854775807 := by
            obtain ⟨A3, c3, hv, hcap, hmx⟩ := own_form hoT
            unfold maxLen at hmx
            have : d2 = c3 := by simp at hv; exact hv.2
            omega
          have ht2 := hoT.rb.base (B' := w.heap.size + 1 + 1 + 1) (by omega)
          have hne : 0 < m2 → ∀ a, T2 = some a → blk T ≠ some a.block := fun h0 a ha e => by
            have h1 := hoT.rb.2 h0 a ha
            obtain ⟨_, vs, h2, _⟩ := HD4.out
            have := (h2.lt a.block (by rw [blk_own]; exact e)).2
            omega
          have HT2 := Lib.hid ht2
          have HNE := Lib.hid hne
          have HD5 := Lib.hid (HD4.out.up ho5 (by omega))
          have bx5 := bx4.only ho5 (Or.inr (by omega))
          have br5 := br4.only ho5 (Or.inr (by omega))
          have bs5 := bs4.only ho5 (Or.inr (by omega))
          have hO5 := hO4.trans ho5
          clear hC3 hO3 HD3 bx3 br3 bs3 hR3 hC4 hO4 HD4 bx4 br4 bs4 hR4 ho4 ho5 hoT hrun hne ht2 hw hq1 hk2 KX KX4
          have hsW := bs5.lt
          have KS : ∀ i, (w5).cell? ⟨w.heap.size + 1 + 1, i, none⟩ = #[Value.slice T k d][i]? := fun i => bs5.cell i
          obtain ⟨vs, HV, HVL, HVS⟩ : ∃ vs : List Value, Hid ((w5).ownsRow (w.heap.size + 1 + 1 + 1) 24 1 (.slice T k d) k vs) ∧ Hid (vs.length = k) ∧ Hid (∀ i, i < k → ∃ T m d, vs[i]? = some (.slice T m d) ∧ RB (w5) (w.heap.size + 1 + 1 + 1) T m (x.getD i []) ∧ m ≤ 60 ∧ (m ≤ d ∧ d ≤ 9223372036854775807) ∧ (0 < m → ∀ a, T = some a → blk _ ≠ some a.block)) := by
            obtain ⟨h1, vs, h2, h3⟩ := HD5.out
            have h4 := h2.1
            exact ⟨vs, Lib.hid h2, Lib.hid (by simpa using h4), Lib.hid h3⟩
          have howa := Lib.hid (ownsRow_below HV.out ((Below.refl _ _).alloc (Nat.le_refl _) (.cells #[.slice (T2) (m2) (d2)] 24)))
          have bsa := bs5.alloc (.cells #[.slice (T2) (m2) (d2)] 24)
          have hne2 : ∀ b, blk T = some b → w.heap.size + 1 + 1 + 1 ≤ b := fun b hb => (HV.out.lt b (by rw [blk_own]; exact hb)).1
          have HNB := Lib.hid hne2
          clear hne2
          go_wp2_with (at_builtin; refine wpList_append_sep rfl _ _ 37 rfl (w.heap.size + 1 + 1 + 1) 24 i1 (.slice none 0 0) 1 24 Tryz.underlying37 hj hy0 hy1 hy2 rfl (by omega) T k d vs rfl howa.out _ 1 _ [.slice (T2) (m2) (d2)] rfl (Src.new (w5) [.slice (T2) (m2) (d2)] _ 1 1 rfl (by simp [Value.oneCell'])) (by unfold maxLen; omega) (by omega) (by simp; omega) ?_; intro A9 c9 w9 ho9 hg9 hnil9 hwh9; have bs9 : Blk w9 (w.heap.size + 1 + 1) 39 #[.slice T k d] := (hg9.block (w.heap.size + 1 + 1) bsa.lt (fun e => by have := HNB.out (w.heap.size + 1 + 1) (by rw [← blk_own T k d]; exact e.symm); omega)).trans bsa; have KS9 : ∀ i, w9.cell? ⟨w.heap.size + 1 + 1, i, none⟩ = #[Value.slice T k d][i]? := fun i => bs9.cell i; have FS9 : ∀ i, w9.frozen? ⟨w.heap.size + 1 + 1, i, none⟩ = false := fun i => bs9.frozen i)
          have hgb := app_below hg9 howa.out (by omega)
          have HD9 := Lib.hid (DP.push HD5.out HT2.out hm2 hcd2 HNE.out HVS.out HVL.out ho9 hg9 hwh9)
          have hoS : Only (w.heap.size + 1 + 1) (w.heap.size + 1 + 1 + 1) w9 (w9.setCell ⟨w.heap.size + 1 + 1, 0, none⟩ (.slice A9 (k + 1) c9)) := (Only.refl _ _ _).setCell (by simp) _
          have hBS : Below (w.heap.size + 1 + 1) w9 (w9.setCell ⟨w.heap.size + 1 + 1, 0, none⟩ (.slice A9 (k + 1) c9)) := (Below.refl _ _).setCell (p := ⟨w.heap.size + 1 + 1, 0, none⟩) (Nat.le_refl _) _
          have HD10 := Lib.hid (HD9.out.up hoS (Nat.le_refl _))
          have bs10 := bs9.set_ 0 (.slice A9 (k + 1) c9)
          have bx10 := (bx5.belowB hgb (by omega)).belowB hBS (by omega)
          have br10 := (br5.belowB hgb (by omega)).belowB hBS (by omega)
          have hC10 := (hC5.belowB hgb (by omega)).belowB hBS (by omega)
          have hO10 := ((hO5).thenB hgb (by omega)).thenB hBS (by omega)
          clear hgb HD9 hoS hBS bs9 KS9 FS9 KS ho9 hg9 hwh9 hnil9 howa bsa HV HVL HVS HNB
          go_roundw
          case rel => exact ⟨j - 1, k + 1, A9, c9, _, by go_num, by omega, HD10, bx10, br10, bs10, hC10, hO10⟩
          case measure => simp [intOf]; omega
        )
      · have HT2 : Hid (RB w3 (w.heap.size + 1 + 1 + 1) (some ⟨wr.heap.size, 0, none⟩) 0 []) := Lib.hid ⟨⟨rfl, fun h => absurd h (by omega)⟩, fun h => absurd h (by omega)⟩
        have HNE : Hid (0 < 0 → ∀ a, (some (⟨wr.heap.size, 0, none⟩ : Addr)) = some a → blk T ≠ some a.block) := Lib.hid (fun h => absurd h (by omega))
        have hm2 : 0 ≤ 60 := by omega
        have hcd2 : 0 ≤ 0 ∧ 0 ≤ 9223372036854775807 := by omega
        clear hR3
        have hsW := bs3.lt
        have KS : ∀ i, (w3).cell? ⟨w.heap.size + 1 + 1, i, none⟩ = #[Value.slice T k d][i]? := fun i => bs3.cell i
        obtain ⟨vs, HV, HVL, HVS⟩ : ∃ vs : List Value, Hid ((w3).ownsRow (w.heap.size + 1 + 1 + 1) 24 1 (.slice T k d) k vs) ∧ Hid (vs.length = k) ∧ Hid (∀ i, i < k → ∃ T m d, vs[i]? = some (.slice T m d) ∧ RB (w3) (w.heap.size + 1 + 1 + 1) T m (x.getD i []) ∧ m ≤ 60 ∧ (m ≤ d ∧ d ≤ 9223372036854775807) ∧ (0 < m → ∀ a, T = some a → blk _ ≠ some a.block)) := by
          obtain ⟨h1, vs, h2, h3⟩ := HD3.out
          have h4 := h2.1
          exact ⟨vs, Lib.hid h2, Lib.hid (by simpa using h4), Lib.hid h3⟩
        have howa := Lib.hid (ownsRow_below HV.out ((Below.refl _ _).alloc (Nat.le_refl _) (.cells #[.slice (some ⟨wr.heap.size, 0, none⟩) (0) (0)] 24)))
        have bsa := bs3.alloc (.cells #[.slice (some ⟨wr.heap.size, 0, none⟩) (0) (0)] 24)
        have hne2 : ∀ b, blk T = some b → w.heap.size + 1 + 1 + 1 ≤ b := fun b hb => (HV.out.lt b (by rw [blk_own]; exact hb)).1
        have HNB := Lib.hid hne2
        clear hne2
        go_wp2_with (at_builtin; refine wpList_append_sep rfl _ _ 37 rfl (w.heap.size + 1 + 1 + 1) 24 i1 (.slice none 0 0) 1 24 Tryz.underlying37 hj hy0 hy1 hy2 rfl (by omega) T k d vs rfl howa.out _ 1 _ [.slice (some ⟨wr.heap.size, 0, none⟩) (0) (0)] rfl (Src.new (w3) [.slice (some ⟨wr.heap.size, 0, none⟩) (0) (0)] _ 1 1 rfl (by simp [Value.oneCell'])) (by unfold maxLen; omega) (by omega) (by simp; omega) ?_; intro A9 c9 w9 ho9 hg9 hnil9 hwh9; have bs9 : Blk w9 (w.heap.size + 1 + 1) 39 #[.slice T k d] := (hg9.block (w.heap.size + 1 + 1) bsa.lt (fun e => by have := HNB.out (w.heap.size + 1 + 1) (by rw [← blk_own T k d]; exact e.symm); omega)).trans bsa; have KS9 : ∀ i, w9.cell? ⟨w.heap.size + 1 + 1, i, none⟩ = #[Value.slice T k d][i]? := fun i => bs9.cell i; have FS9 : ∀ i, w9.frozen? ⟨w.heap.size + 1 + 1, i, none⟩ = false := fun i => bs9.frozen i)
        have hgb := app_below hg9 howa.out (by omega)
        have HD9 := Lib.hid (DP.push HD3.out HT2.out hm2 hcd2 HNE.out HVS.out HVL.out ho9 hg9 hwh9)
        have hoS : Only (w.heap.size + 1 + 1) (w.heap.size + 1 + 1 + 1) w9 (w9.setCell ⟨w.heap.size + 1 + 1, 0, none⟩ (.slice A9 (k + 1) c9)) := (Only.refl _ _ _).setCell (by simp) _
        have hBS : Below (w.heap.size + 1 + 1) w9 (w9.setCell ⟨w.heap.size + 1 + 1, 0, none⟩ (.slice A9 (k + 1) c9)) := (Below.refl _ _).setCell (p := ⟨w.heap.size + 1 + 1, 0, none⟩) (Nat.le_refl _) _
        have HD10 := Lib.hid (HD9.out.up hoS (Nat.le_refl _))
        have bs10 := bs9.set_ 0 (.slice A9 (k + 1) c9)
        have bx10 := (bx3.belowB hgb (by omega)).belowB hBS (by omega)
        have br10 := (br3.belowB hgb (by omega)).belowB hBS (by omega)
        have hC10 := (hC3.belowB hgb (by omega)).belowB hBS (by omega)
        have hO10 := ((hO3).thenB hgb (by omega)).thenB hBS (by omega)
        clear hgb HD9 hoS hBS bs9 KS9 FS9 KS ho9 hg9 hwh9 hnil9 howa bsa HV HVL HVS HNB
        go_roundw
        case rel => exact ⟨j - 1, k + 1, A9, c9, _, by go_num, by omega, HD10, bx10, br10, bs10, hC10, hO10⟩
        case measure => simp [intOf]; omega
    · obtain rfl : j = 0 := by omega
      go_wp2_with fail
      have hB5 : Below w.heap.size wr (wr.setCell ⟨w.heap.size + 1, 0, none⟩ (.slice T k d)) := (Below.refl _ _).setCell (p := ⟨w.heap.size + 1, 0, none⟩) (by simp) _
      have ho5 : Only (w.heap.size + 1) (w.heap.size + 1 + 1) wr (wr.setCell ⟨w.heap.size + 1, 0, none⟩ (.slice T k d)) := (Only.refl _ _ _).setCell (by simp) _
      exact bodyPost_ret (v := .agg #[.slice T k d]) (by simp [results, Tryz.results62, go_sem, KR]) rfl ⟨T, k, d, x, rfl, (HD.out.up ho5 (by omega)).base (by omega), by omega, hC.belowB hB5 (by omega), hO.thenB hB5 (Nat.le_refl _)⟩
theorem ownsRow_upO {w w' : World} {B lo hi e size : Nat} {v : Value} {n : Nat} {xs : List Value} (h : w.ownsRow B e size v n xs) (ho : Only lo hi w w') (hB : hi ≤ B) : w'.ownsRow B e size v n xs :=
  own_same h fun b hb => ho.block b (h.lt b hb).2 (Or.inr (by have := (h.lt b hb).1; omega))
/-- A block of another type stays as it is when a row grows. -/
theorem bkGrowS {w w2 : World} {o : Obj} {gs B e : Nat} {ty : TypeId} {cs : Array Value} {A : Option Addr} {n c size : Nat} {vs : List Value} (h : Blk w gs ty cs) (hg : (w.alloc o).grownBy w2 (Value.slice A n c).ownBlock) (hv : w.ownsRow B e size (.slice A n c) n vs) (hty : ty ≠ e) : Blk w2 gs ty cs := by
  have h1 := h.alloc o
  refine (hg.block gs h1.lt fun hh => ?_).trans h1
  rcases hv.2 with ⟨hn, _⟩ | ⟨g, cap, cur, hv2, hB, hg2, _⟩
  · rw [hn] at hh; cases hh
  · rw [hv2] at hh
    have : g = gs := by simpa [Value.ownBlock] using hh.symm
    subst this
    unfold Blk at h
    rw [hg2] at h
    simp at h
    exact hty h.2.symm
/-- Rows without a number. -/
theorem DP.made {w : World} {B : Nat} {A : Option Addr} {q c : Nat} (h : w.ownsRow B 24 1 (.slice A q c) q (List.replicate q (.slice none 0 0))) : DP w B A q c (List.replicate q []) := by
  refine ⟨List.length_replicate .., _, h, fun k hk => ⟨none, 0, 0, by simp [hk], ⟨⟨?_, fun h => absurd h (by omega)⟩, fun h => absurd h (by omega)⟩, by omega, by omega, fun h => absurd h (by omega)⟩⟩
  simp [List.getD_eq_getElem?_getD, hk]
set_option maxHeartbeats 8000000 in
set_option maxRecDepth 20000 in
theorem l2DrawAny_any (cb : Nat) (A : Option Addr) (n c : Nat) (S : Option Addr) (m d' : Nat) (xs : List Int) (w : World) (h : Dcur w cb A n c) (hr : RB w (cb + 1) S m xs) (hm : m ≤ 9) :
    Calls Tryz.prog 32 #[.pointer (some ⟨cb, 0, none⟩), .agg #[.slice S m d']] w fun e w' => ∃ (T : Option Addr) (k d : Nat) (x : List (List Int)), e = .returned (.agg #[.slice T k d]) ∧ DP w' w.heap.size T k d x ∧ k ≤ 25 ∧ Dcur w' cb A n c ∧ Only cb (cb + 1) w w' := by
  have hlt := h.lt
  obtain ⟨i1, hj, hy0, hy1, hy2⟩ := info_parts infoRow
  have hO0 := ((Only.refl cb (cb + 1) w).alloc (.cells #[.slice S m d'] 26)).alloc (.cells #[.slice none 0 0] 39)
  have hC0 := (h.alloc (.cells #[.slice S m d'] 26)).alloc (.cells #[.slice none 0 0] 39)
  have bx0 := (Blk.new w 26 #[.slice S m d']).alloc (.cells #[.slice none 0 0] 39)
  have br0 : Blk ((w.alloc (.cells #[.slice S m d'] 26)).alloc (.cells #[.slice none 0 0] 39)) (w.heap.size + 1) 39 #[.slice none 0 0] := by
    have := Blk.new (w.alloc (.cells #[.slice S m d'] 26)) 39 #[.slice none 0 0]
    simpa only [World.size_alloc] using this
  have hsz0 : ((w.alloc (.cells #[.slice S m d'] 26)).alloc (.cells #[.slice none 0 0] 39)).heap.size = w.heap.size + 1 + 1 := by simp
  go_enter Tryz.func32, Tryz.ntmps32
  go_wp2_with fail
  generalize (w.alloc (.cells #[.slice S m d'] 26)).alloc (.cells #[.slice none 0 0] 39) = W0 at *
  have hR0 : RB W0 (cb + 1) S m xs := hr.up hO0 (Nat.le_refl _)
  have KX : ∀ i, W0.cell? ⟨w.heap.size, i, none⟩ = #[Value.slice S m d'][i]? := fun i => bx0.cell i
  go_wp2_with fail
  refine (specSigOk_any S m d' xs W0 hR0.1 (by omega)).mono ?_
  rintro e w1 ⟨rfl, hb1⟩
  replace hC0 := hC0.below hb1
  replace hO0 := hO0.thenB hb1 (by omega)
  replace hR0 := hR0.below hb1
  replace bx0 := bx0.below hb1
  replace br0 := br0.below hb1
  have hs1 := br0.lt
  clear hb1 KX
  have KR : ∀ i, w1.cell? ⟨w.heap.size + 1, i, none⟩ = #[Value.slice none 0 0][i]? := fun i => br0.cell i
  have FR : ∀ i, w1.frozen? ⟨w.heap.size + 1, i, none⟩ = false := fun i => br0.frozen i
  have KX : ∀ i, w1.cell? ⟨w.heap.size, i, none⟩ = #[Value.slice S m d'][i]? := fun i => bx0.cell i
  cases hsg : Pl.sigOk xs
  · clear hsg
    go_wp2_with fail
    have hB5 : Below w.heap.size w1 (w1.setCell ⟨w.heap.size + 1, 0, none⟩ (.slice none 0 0)) := (Below.refl _ _).setCell (p := ⟨w.heap.size + 1, 0, none⟩) (by simp) _
    exact bodyPost_ret (v := .agg #[.slice none 0 0]) (by simp [results, Tryz.results32, go_sem, KR]) rfl ⟨none, 0, 0, [], rfl, DP.nil _ _, by omega, hC0.belowB hB5 (by omega), hO0.thenB hB5 (Nat.le_refl _)⟩
  have HSG := Lib.hid hsg
  clear hsg KR FR
  go_wp2_with fail
  refine (l2Draw_any cb A n c S m d' xs HSG.out w1 hC0 hR0).mono ?_
  rintro e w2 ⟨T, k, d, x, rfl, hD, hk, hC2, ho2⟩
  have HD2 := Lib.hid ((hD.base (B' := w.heap.size + 1 + 1) (by omega)).below ((Below.refl _ _).alloc (Nat.le_refl _) (.cells #[.slice T k d] 39)))
  have hs2 := ho2.size
  have bs := Blk.new w2 39 #[.slice T k d]
  have bx := (bx0.only ho2 (Or.inr (by omega))).alloc (.cells #[.slice T k d] 39)
  have br := (br0.only ho2 (Or.inr (by omega))).alloc (.cells #[.slice T k d] 39)
  have hC := hC2.alloc (.cells #[.slice T k d] 39)
  have hO := (hO0.trans ho2).alloc (.cells #[.slice T k d] 39)
  clear hC2 ho2 hD bx0 br0 hC0 hO0 KX hR0
  go_wp2_with fail
  generalize w2.alloc (.cells #[.slice T k d] 39) = W2 at *
  have hsW := bs.lt
  refine (l1Once_any cb A n c 12 W2 hC (by omega)).mono ?_
  rintro e w3 ⟨b, rfl, hC3, ho3⟩
  replace HD2 := Lib.hid (HD2.out.up ho3 (by omega))
  replace bs := bs.only ho3 (Or.inr (by omega))
  replace bx := bx.only ho3 (Or.inr (by omega))
  replace br := br.only ho3 (Or.inr (by omega))
  replace hO := hO.trans ho3
  have hs3 := bs.lt
  clear hC ho3
  cases b
  · have KS : ∀ i, w3.cell? ⟨w2.heap.size, i, none⟩ = #[Value.slice T k d][i]? := fun i => bs.cell i
    have KR : ∀ i, w3.cell? ⟨w.heap.size + 1, i, none⟩ = #[Value.slice none 0 0][i]? := fun i => br.cell i
    have FR : ∀ i, w3.frozen? ⟨w.heap.size + 1, i, none⟩ = false := fun i => br.frozen i
    go_wp2_with fail
    have hB5 : Below w.heap.size (w3) ((w3).setCell ⟨w.heap.size + 1, 0, none⟩ (.slice (T) (k) (d))) := (Below.refl _ _).setCell (p := ⟨w.heap.size + 1, 0, none⟩) (by simp) _
    exact bodyPost_ret (v := .agg #[.slice (T) (k) (d)]) (by simp [results, Tryz.results32, go_sem, KR]) rfl ⟨T, k, d, x, rfl, ((HD2).out.setS br (by decide) _).base (by omega), by omega, (hC3).belowB hB5 (by omega), (hO).thenB hB5 (Nat.le_refl _)⟩
  · go_wp2_with fail
    refine (l1Below_any cb A n c 3 w3 hC3 (by omega)).mono ?_
    rintro e w4 ⟨z, rfl, hz0, hz1, _, hC4, ho4⟩
    replace HD2 := Lib.hid (HD2.out.up ho4 (by omega))
    replace bs := bs.only ho4 (Or.inr (by omega))
    replace bx := bx.only ho4 (Or.inr (by omega))
    replace br := br.only ho4 (Or.inr (by omega))
    replace hO := hO.trans ho4
    have hs4 := bs.lt
    have hz3 := hz1 (by omega)
    clear hC3 ho4 hz1
    obtain rfl | rfl | rfl : z = 0 ∨ z = 1 ∨ z = 2 := by omega
    · have KX : ∀ i, w4.cell? ⟨w.heap.size, i, none⟩ = #[Value.slice S m d'][i]? := fun i => bx.cell i
      have KS : ∀ i, w4.cell? ⟨w2.heap.size, i, none⟩ = #[Value.slice T k d][i]? := fun i => bs.cell i
      have hR4 : RB w4 (cb + 1) S m xs := hr.up hO (Nat.le_refl _)
      obtain ⟨vs, HV, HVL, HVS⟩ : ∃ vs : List Value, Hid ((w4).ownsRow (w.heap.size + 1 + 1) 24 1 (.slice T k d) k vs) ∧ Hid (vs.length = k) ∧ Hid (∀ i, i < k → ∃ T' m d, vs[i]? = some (.slice T' m d) ∧ RB (w4) (w.heap.size + 1 + 1) T' m (x.getD i []) ∧ m ≤ 60 ∧ (m ≤ d ∧ d ≤ 9223372036854775807) ∧ (0 < m → ∀ a, T' = some a → blk T ≠ some a.block)) := by
        obtain ⟨h1, vs, h2, h3⟩ := HD2.out
        have h4 := h2.1
        exact ⟨vs, Lib.hid h2, Lib.hid (by simpa using h4), Lib.hid h3⟩
      go_wp2_with fail
      go_region_law (first
        | (go_simp; go_at_call 46; refine (l1DrawAny_any cb A n c S m d' xs _ ?_ ?_ hm).mono ?_; (first | exact hC4.drew); (first | exact hR4.drew); rintro e w5 ⟨T2, m2, d2, t2, rfl, hT2, hm2, hcd2, hC5, ho5⟩; have bs5 := bs.only (Only.drewL ho5) (Or.inr (by omega)); have KS5 : ∀ i, w5.cell? ⟨w2.heap.size, i, none⟩ = #[Value.slice T k d][i]? := fun i => bs5.cell i; have HV5 := Lib.hid (ownsRow_upO HV.out (Only.drewL ho5) (by omega)); have hs5 := bs5.lt)
        | (refine step_append_any rfl _ _ 37 rfl (w.heap.size + 1 + 1) 24 i1 (.slice none 0 0) 1 24 Tryz.underlying37 hj hy0 hy1 hy2 rfl (by omega) T k d vs rfl (ownsRow_below HV5.out ((Below.refl _ _).alloc (Nat.le_refl _) (.cells #[.slice (T2) (m2) (d2)] 24))) _ 1 _ [.slice (T2) (m2) (d2)] rfl (Src.new _ [.slice T2 m2 d2] _ 1 1 rfl (by simp [Value.oneCell'])) (by unfold maxLen; omega) (by omega) (by simp; omega) ?_; intro A9 c9 w9 ho9 hg9 hnil9 hwh9; have hgb := app_below hg9 (ownsRow_below HV5.out ((Below.refl _ _).alloc (Nat.le_refl _) (.cells #[.slice (T2) (m2) (d2)] 24))) (by omega); have bs9 := bkGrowS bs5 hg9 (HV5.out) (by decide); have KS9 : ∀ i, w9.cell? ⟨w2.heap.size, i, none⟩ = #[Value.slice T k d][i]? := fun i => bs9.cell i; have FS9 : ∀ i, w9.frozen? ⟨w2.heap.size, i, none⟩ = false := fun i => bs9.frozen i)
        )
      all_goals (
        have hOw := Only.drewL ho5
        have ht2 := hT2.base (B' := w.heap.size + 1 + 1) (by show _ ≤ w4.heap.size; omega)
        have HD5 := Lib.hid (HD2.out.up hOw (by omega))
        have hne : 0 < m2 → ∀ a, T2 = some a → blk T ≠ some a.block := fun h0 a ha e => by
          have h1 : w4.heap.size ≤ a.block := hT2.2 h0 a ha
          have := (HV.out.lt a.block (by rw [blk_own]; exact e)).2
          omega
        have hO5 := hO.trans hOw
        have br5 := br.only hOw (Or.inr (by omega))
        have HVS5 : ∀ i, i < k → ∃ T' m d, vs[i]? = some (.slice T' m d) ∧ RB (w5) (w.heap.size + 1 + 1) T' m (x.getD i []) ∧ m ≤ 60 ∧ (m ≤ d ∧ d ≤ 9223372036854775807) ∧ (0 < m → ∀ a, T' = some a → blk T ≠ some a.block) := fun i hi => by
          obtain ⟨T', m', d', e1, e2, e3, e4, e5⟩ := HVS.out i hi
          exact ⟨T', m', d', e1, e2.up hOw (by omega), e3, e4, e5⟩
        have HD9 := Lib.hid (DP.push HD5.out ht2 (by first | omega | simp) hcd2 hne HVS5 HVL.out ho9 hg9 hwh9)
        have HD10 := Lib.hid (HD9.out.setS bs9 (by decide) (.slice A9 (k + 1) c9))
        have hBS : Below (w.heap.size + 1 + 1) w9 (w9.setCell ⟨w2.heap.size, 0, none⟩ (.slice A9 (k + 1) c9)) := (Below.refl _ _).setCell (p := ⟨w2.heap.size, 0, none⟩) (by show _ ≤ w2.heap.size; omega) _
        have bs10 := bs9.set_ 0 (.slice A9 (k + 1) c9)
        have br10 := (br5.belowB hgb (by omega)).belowB hBS (by omega)
        have hC10 := (hC5.belowB hgb (by omega)).belowB hBS (by omega)
        have hO10 := (hO5.thenB hgb (by omega)).thenB hBS (by omega)
        clear hgb HD9 hBS bs9 KS9 FS9 ho9 hg9 hwh9 hnil9 hC5 hO5 br5 HD5 HVS5 HVS hne ht2 bs5 KS5 HV5 HV HD2 bs bx br hO hC4 hOw ho5 KX KS
        generalize w9.setCell ⟨w2.heap.size, 0, none⟩ (.slice A9 (k + 1) c9) = W9 at *
        have KS : ∀ i, W9.cell? ⟨w2.heap.size, i, none⟩ = #[Value.slice A9 (k + 1) c9][i]? := fun i => bs10.cell i
        have KR : ∀ i, W9.cell? ⟨w.heap.size + 1, i, none⟩ = #[Value.slice none 0 0][i]? := fun i => br10.cell i
        have FR : ∀ i, W9.frozen? ⟨w.heap.size + 1, i, none⟩ = false := fun i => br10.frozen i
        go_wp2_with fail
        have hB5 : Below w.heap.size (W9) ((W9).setCell ⟨w.heap.size + 1, 0, none⟩ (.slice (A9) (k + 1) (c9))) := (Below.refl _ _).setCell (p := ⟨w.heap.size + 1, 0, none⟩) (by simp) _
        exact bodyPost_ret (v := .agg #[.slice (A9) (k + 1) (c9)]) (by simp [results, Tryz.results32, go_sem, KR]) rfl ⟨A9, k + 1, c9, _, rfl, ((HD10).out.setS br10 (by decide) _).base (by omega), by omega, (hC10).belowB hB5 (by omega), (hO10).thenB hB5 (Nat.le_refl _)⟩
        )
    · go_wp2_with fail
      refine (l1Below_any cb A n c 2 w4 hC4 (by omega)).mono ?_
      rintro e w5 ⟨y, rfl, hq0, hq1, _, hC5, ho5⟩
      have hq3 := hq1 (by omega)
      obtain ⟨q, rfl⟩ : ∃ q : Nat, y = q := ⟨y.toNat, by omega⟩
      replace bs := bs.only ho5 (Or.inr (by omega))
      replace br := br.only ho5 (Or.inr (by omega))
      replace hO := hO.trans ho5
      have hs5 := bs.lt
      clear hC4 ho5 hq1 HD2 bx
      go_wp2_with (at_make; refine wpList_make_full _ rfl _ _ 37 rfl w5.heap.size 24 i1 (.slice none 0 0) 1 Tryz.underlying37 hj hy0 hy1 .i64 .i64 _ _ (24 + q) rfl rfl (by simp) (by simp) (by rw [hy2]; omega) (by unfold maxLen; omega) (by omega) ?_; intro w6 hown hg; have hb6 := (Below.refl w5.heap.size w5).grown hg (Nat.le_refl _) (by simp); have bs6 := bs.below hb6; have KS6 : ∀ i, w6.cell? ⟨w2.heap.size, i, none⟩ = #[Value.slice T k d][i]? := fun i => bs6.cell i; have FS6 : ∀ i, w6.frozen? ⟨w2.heap.size, i, none⟩ = false := fun i => bs6.frozen i; have br6 := br.below hb6; have KR6 : ∀ i, w6.cell? ⟨w.heap.size + 1, i, none⟩ = #[Value.slice none 0 0][i]? := fun i => br6.cell i; have FR6 : ∀ i, w6.frozen? ⟨w.heap.size + 1, i, none⟩ = false := fun i => br6.frozen i)
      have HD6 : Hid (DP w6 (w.heap.size + 1 + 1) (some ⟨w5.heap.size, 0, none⟩) (24 + q) (24 + q) (List.replicate (24 + q) [])) := Lib.hid ((DP.made (by simpa [Value.cells, toList_madeCells_one] using hown)).base (by omega))
      have HD10 := Lib.hid (HD6.out.setS bs6 (by decide) (.slice (some ⟨w5.heap.size, 0, none⟩) (24 + q) (24 + q)))
      have hBS : Below (w.heap.size + 1 + 1) w6 (w6.setCell ⟨w2.heap.size, 0, none⟩ (.slice (some ⟨w5.heap.size, 0, none⟩) (24 + q) (24 + q))) := (Below.refl _ _).setCell (p := ⟨w2.heap.size, 0, none⟩) (by show _ ≤ w2.heap.size; omega) _
      have bs10 := bs6.set_ 0 (.slice (some ⟨w5.heap.size, 0, none⟩) (24 + q) (24 + q))
      have br10 := (br.below hb6).belowB hBS (by omega)
      have hC10 := (hC5.below hb6).belowB hBS (by omega)
      have hO10 := (hO.thenB hb6 (by omega)).thenB hBS (by omega)
      go_wp2_with fail
      have hB5 : Below w.heap.size (w6.setCell ⟨w2.heap.size, 0, none⟩ (.slice (some ⟨w5.heap.size, 0, none⟩) (24 + q) (24 + q))) ((w6.setCell ⟨w2.heap.size, 0, none⟩ (.slice (some ⟨w5.heap.size, 0, none⟩) (24 + q) (24 + q))).setCell ⟨w.heap.size + 1, 0, none⟩ (.slice ((some ⟨w5.heap.size, 0, none⟩)) (24 + q) (24 + q))) := (Below.refl _ _).setCell (p := ⟨w.heap.size + 1, 0, none⟩) (by simp) _
      exact bodyPost_ret (v := .agg #[.slice ((some ⟨w5.heap.size, 0, none⟩)) (24 + q) (24 + q)]) (by simp [results, Tryz.results32, go_sem, KR6]) rfl ⟨(some ⟨w5.heap.size, 0, none⟩), 24 + q, 24 + q, _, rfl, ((HD10).out.setS br10 (by decide) _).base (by omega), by omega, (hC10).belowB hB5 (by omega), (hO10).thenB hB5 (Nat.le_refl _)⟩
    · have KS : ∀ i, w4.cell? ⟨w2.heap.size, i, none⟩ = #[Value.slice T k d][i]? := fun i => bs.cell i
      obtain ⟨vs, HV, HVL, HVS⟩ : ∃ vs : List Value, Hid ((w4).ownsRow (w.heap.size + 1 + 1) 24 1 (.slice T k d) k vs) ∧ Hid (vs.length = k) ∧ Hid (∀ i, i < k → ∃ T' m d, vs[i]? = some (.slice T' m d) ∧ RB (w4) (w.heap.size + 1 + 1) T' m (x.getD i []) ∧ m ≤ 60 ∧ (m ≤ d ∧ d ≤ 9223372036854775807) ∧ (0 < m → ∀ a, T' = some a → blk T ≠ some a.block)) := by
        obtain ⟨h1, vs, h2, h3⟩ := HD2.out
        have h4 := h2.1
        exact ⟨vs, Lib.hid h2, Lib.hid (by simpa using h4), Lib.hid h3⟩
      go_wp2_with fail
      go_region_law (first
        | (go_simp; go_at_call 63; refine (l1Odd_any cb A n c _ ?_).mono ?_; (first | exact hC4.drew); rintro e w5 ⟨y, rfl, hC5', ho5⟩; have bs5' := bs.only (Only.drewL ho5) (Or.inr (by omega)); have KS5' : ∀ i, w5.cell? ⟨w2.heap.size, i, none⟩ = #[Value.slice T k d][i]? := fun i => bs5'.cell i; have hs5' := bs5'.lt; have bs5 := bs5'.alloc (.cells #[.int .i64 y] 2); have KS5 : ∀ i, (w5.alloc (.cells #[.int .i64 y] 2)).cell? ⟨w2.heap.size, i, none⟩ = #[Value.slice T k d][i]? := fun i => bs5.cell i; have HV5 := Lib.hid (ownsRow_below (ownsRow_upO HV.out (Only.drewL ho5) (by omega)) ((Below.refl _ _).alloc (Nat.le_refl _) (.cells #[.int .i64 y] 2))); have hs5 := bs5.lt; have HSRC : Hid (Src ((w5.alloc (.cells #[.int .i64 y] 2)).alloc (.cells #[.slice (some ⟨w5.heap.size, 0, none⟩) 1 1] 24)) (some ⟨w5.heap.size + 1, 0, none⟩) 1 1 [.slice (some ⟨w5.heap.size, 0, none⟩) 1 1]) := Lib.hid (by have := Src.new (w5.alloc (.cells #[.int .i64 y] 2)) [.slice (some ⟨w5.heap.size, 0, none⟩) 1 1] 24 1 1 rfl (by simp [Value.oneCell']); simpa only [World.size_alloc] using this))
        | (refine step_append_any rfl _ _ 37 rfl (w.heap.size + 1 + 1) 24 i1 (.slice none 0 0) 1 24 Tryz.underlying37 hj hy0 hy1 hy2 rfl (by omega) T k d vs rfl (ownsRow_below HV5.out ((Below.refl _ _).alloc (Nat.le_refl _) (.cells #[.slice (some ⟨w5.heap.size, 0, none⟩) (1) (1)] 24))) _ 1 _ [.slice (some ⟨w5.heap.size, 0, none⟩) (1) (1)] rfl (HSRC.out) (by unfold maxLen; omega) (by omega) (by simp; omega) ?_; intro A9 c9 w9 ho9 hg9 hnil9 hwh9; have hgb := app_below hg9 (ownsRow_below HV5.out ((Below.refl _ _).alloc (Nat.le_refl _) (.cells #[.slice (some ⟨w5.heap.size, 0, none⟩) (1) (1)] 24))) (by omega); have bs9 := bkGrowS bs5 hg9 (HV5.out) (by decide); have KS9 : ∀ i, w9.cell? ⟨w2.heap.size, i, none⟩ = #[Value.slice T k d][i]? := fun i => bs9.cell i; have FS9 : ∀ i, w9.frozen? ⟨w2.heap.size, i, none⟩ = false := fun i => bs9.frozen i)
        )
      all_goals (
        have hOw : Only cb (cb + 1) w4 (w5.alloc (.cells #[.int .i64 y] 2)) := (Only.drewL ho5).alloc _
        have hsz5 : w4.heap.size ≤ w5.heap.size := ho5.size
        have ht2 := ((OI.of_blk (xs := [y]) (Blk.new w5 2 #[.int .i64 y]) (by show 1 ≤ 1048576; omega)).base (B' := w.heap.size + 1 + 1) (by omega)).rb
        have HD5 := Lib.hid (HD2.out.up hOw (by omega))
        have hcd2 : 1 ≤ 1 ∧ 1 ≤ 9223372036854775807 := by omega
        have hne : 0 < 1 → ∀ a, (some (⟨w5.heap.size, 0, none⟩ : Addr)) = some a → blk T ≠ some a.block := fun h0 a ha e => by
          injection ha with ha
          subst ha
          have := (HV.out.lt _ (by rw [blk_own]; exact e)).2
          simp only at this
          omega
        have hO5 := hO.trans hOw
        have hC5 := hC5'.alloc (.cells #[.int .i64 y] 2)
        have br5 := br.only hOw (Or.inr (by omega))
        clear KS5' bs5' hC5'
        have KX := hsz5
        have HVS5 : ∀ i, i < k → ∃ T' m d, vs[i]? = some (.slice T' m d) ∧ RB (w5.alloc (.cells #[.int .i64 y] 2)) (w.heap.size + 1 + 1) T' m (x.getD i []) ∧ m ≤ 60 ∧ (m ≤ d ∧ d ≤ 9223372036854775807) ∧ (0 < m → ∀ a, T' = some a → blk T ≠ some a.block) := fun i hi => by
          obtain ⟨T', m', d', e1, e2, e3, e4, e5⟩ := HVS.out i hi
          exact ⟨T', m', d', e1, e2.up hOw (by omega), e3, e4, e5⟩
        have HD9 := Lib.hid (DP.push HD5.out ht2 (by first | omega | simp) hcd2 hne HVS5 HVL.out ho9 hg9 hwh9)
        have HD10 := Lib.hid (HD9.out.setS bs9 (by decide) (.slice A9 (k + 1) c9))
        have hBS : Below (w.heap.size + 1 + 1) w9 (w9.setCell ⟨w2.heap.size, 0, none⟩ (.slice A9 (k + 1) c9)) := (Below.refl _ _).setCell (p := ⟨w2.heap.size, 0, none⟩) (by show _ ≤ w2.heap.size; omega) _
        have bs10 := bs9.set_ 0 (.slice A9 (k + 1) c9)
        have br10 := (br5.belowB hgb (by omega)).belowB hBS (by omega)
        have hC10 := (hC5.belowB hgb (by omega)).belowB hBS (by omega)
        have hO10 := (hO5.thenB hgb (by omega)).thenB hBS (by omega)
        clear hgb HD9 hBS bs9 KS9 FS9 ho9 hg9 hwh9 hnil9 hC5 hO5 br5 HD5 HVS5 HVS hne ht2 bs5 KS5 HV5 HV HD2 bs bx br hO hC4 hOw ho5 KX KS
        generalize w9.setCell ⟨w2.heap.size, 0, none⟩ (.slice A9 (k + 1) c9) = W9 at *
        have KS : ∀ i, W9.cell? ⟨w2.heap.size, i, none⟩ = #[Value.slice A9 (k + 1) c9][i]? := fun i => bs10.cell i
        have KR : ∀ i, W9.cell? ⟨w.heap.size + 1, i, none⟩ = #[Value.slice none 0 0][i]? := fun i => br10.cell i
        have FR : ∀ i, W9.frozen? ⟨w.heap.size + 1, i, none⟩ = false := fun i => br10.frozen i
        go_wp2_with fail
        have hB5 : Below w.heap.size (W9) ((W9).setCell ⟨w.heap.size + 1, 0, none⟩ (.slice (A9) (k + 1) (c9))) := (Below.refl _ _).setCell (p := ⟨w.heap.size + 1, 0, none⟩) (by simp) _
        exact bodyPost_ret (v := .agg #[.slice (A9) (k + 1) (c9)]) (by simp [results, Tryz.results32, go_sem, KR]) rfl ⟨A9, k + 1, c9, _, rfl, ((HD10).out.setS br10 (by decide) _).base (by omega), by omega, (hC10).belowB hB5 (by omega), (hO10).thenB hB5 (Nat.le_refl _)⟩
        )
end Go.Proofs.YtlcchafcgidpeaaGreatDoor
