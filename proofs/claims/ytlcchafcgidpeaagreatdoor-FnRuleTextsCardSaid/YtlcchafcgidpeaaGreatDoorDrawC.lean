/- Contracts: drawn signatures of any kind. -/
import Derived.Test.YtlcchafcgidpeaaGreatDoorDrawB
namespace Go.Proofs.YtlcchafcgidpeaaGreatDoor
open Go.RowKit
set_option linter.unusedVariables false
set_option linter.unusedSimpArgs false

theorem OI.setFar {w : World} {B : Nat} {A : Option Addr} {n c : Nat} {xs : List Int} (h : OI w B A n c xs) {p : Addr} (hp : ∀ a, A = some a → a.block ≠ p.block) (u : Value) : OI (w.setCell p u) B A n c xs := by
  refine ⟨h.1, ?_⟩
  rcases h.2 with hn | ⟨g, cap, cur, hv, hg, hh, rest⟩
  · exact .inl hn
  · have hA : A = some ⟨g, 0, none⟩ := by injection hv
    exact .inr ⟨g, cap, cur, hv, hg, (Below.heap_setCell w p u g (hp _ hA)).trans hh, rest⟩
theorem OI.ltA {w : World} {B : Nat} {A : Option Addr} {n c : Nat} {xs : List Int} (h : OI w B A n c xs) : ∀ a, A = some a → a.block < w.heap.size := by
  intro a ha
  subst ha
  exact (h.lt a.block rfl).2
theorem bkGrow {w w' : World} {o : Obj} {g : Nat} {t : TypeId} {cs : Array Value} {S : Option Addr} {m d : Nat} (h : Blk w g t cs) (hg : (w.alloc o).grownBy w' (Value.slice S m d).ownBlock) (hS : ∀ a, S = some a → a.block ≠ g) : Blk w' g t cs := by
  refine (hg.block g (Nat.lt_of_lt_of_le h.lt (by simp)) fun e => ?_).trans (h.alloc o)
  cases S with
  | none => simp [Value.ownBlock] at e
  | some a => simp [Value.ownBlock] at e; exact hS a rfl e.symm
theorem appWhere {A A' : Option Addr} {k j : Nat} (h : A' = A ∨ A' = some ⟨k, 0, none⟩) (hA : ∀ a, A = some a → a.block ≠ j) (hk : k ≠ j) : ∀ a, A' = some a → a.block ≠ j := by
  rintro a rfl
  rcases h with h | h
  · exact hA a h.symm
  · injection h with h; subst h; exact hk
set_option maxHeartbeats 4000000 in
set_option maxRecDepth 20000 in
theorem l1DrawSigAny_any (cb : Nat) (A : Option Addr) (n c : Nat) (w : World) (h : Dcur w cb A n c) :
    Calls Tryz.prog 28 #[.pointer (some ⟨cb, 0, none⟩)] w fun e w' => ∃ (S : Option Addr) (m d : Nat) (xs : List Int), e = .returned (.agg #[.slice S m d]) ∧ OI w' w.heap.size S m d xs ∧ m ≤ 9 ∧ Dcur w' cb A n c ∧ Only cb (cb + 1) w w' := by
  have hlt := h.lt
  obtain ⟨i0, hi, hz0, hz1, hz2⟩ := info_parts infoInt64
  go_enter Tryz.func28, Tryz.ntmps28
  go_wp2_with fail
  refine (l1DrawSig_any cb A n c _ (h.alloc _)).mono ?_
  rintro e w1 ⟨S, m, d, xs, rfl, hI1, hm, hsg, hC1, ho1⟩
  have bk0 := ((Blk.new w 26 #[.slice none 0 0]).only ho1 (Or.inr (by omega))).alloc (.cells #[.slice S m d] 26)
  have bkb := Blk.new w1 26 #[.slice S m d]
  have hs1 : w.heap.size + 1 ≤ w1.heap.size := by have := ho1.size; simpa using this
  have hne : ∀ a, S = some a → a.block ≠ w1.heap.size := fun a ha => by have := hI1.ltA a ha; omega
  have hI : OI (w1.alloc (.cells #[.slice S m d] 26)) (w.heap.size + 1) S m d xs := by
    have := hI1.below ((Below.refl _ _).alloc (Nat.le_refl _) (.cells #[.slice S m d] 26))
    simpa only [World.size_alloc] using this
  have hC := hC1.alloc (.cells #[.slice S m d] 26)
  have hO := (((Only.refl cb (cb + 1) w).alloc (.cells #[.slice none 0 0] 26)).trans ho1).alloc (.cells #[.slice S m d] 26)
  have hl := hI1.ri.1
  clear hI1 hC1 ho1 hsg
  go_wp2_with fail
  refine (l1Once_any cb A n c 15 _ hC (by omega)).mono ?_
  rintro e w2 ⟨b, rfl, hC2, ho2⟩
  replace bk0 := bk0.only ho2 (Or.inr (by omega))
  replace bkb := bkb.only ho2 (Or.inr (by omega))
  replace hI := hI.up ho2 (by omega)
  replace hO := hO.trans ho2
  have hs2 := bkb.lt
  clear ho2 hC
  cases b
  · have KB : ∀ i, w2.cell? ⟨w1.heap.size, i, none⟩ = #[Value.slice S m d][i]? := fun i => bkb.cell i
    have FB : ∀ i, w2.frozen? ⟨w1.heap.size, i, none⟩ = false := fun i => bkb.frozen i
    have K0 : ∀ i, w2.cell? ⟨w.heap.size, i, none⟩ = #[Value.slice none 0 0][i]? := fun i => bk0.cell i
    have F0 : ∀ i, w2.frozen? ⟨w.heap.size, i, none⟩ = false := fun i => bk0.frozen i
    go_wp2_with fail
    refine bodyPost_ret (v := .agg #[.slice S m d]) (by simp [results, Tryz.results28, go_sem, K0]) rfl ⟨S, m, d, xs, rfl, ?_, by omega, ?_, ?_⟩
    · exact (OI.setBelow hI (by simp) _).base (by omega)
    · exact (hC2).belowB ((Below.refl w.heap.size w2).setCell (p := ⟨w.heap.size, 0, none⟩) (by simp) _) hlt
    · exact (hO).thenB ((Below.refl w.heap.size w2).setCell (p := ⟨w.heap.size, 0, none⟩) (by simp) _) (Nat.le_refl _)
  · go_wp2_with fail
    refine (l1Below_any cb A n c 3 w2 hC2 (by omega)).mono ?_
    rintro e w3 ⟨x, rfl, hx0, hx1, hx2, hC3, ho3⟩
    replace bk0 := bk0.only ho3 (Or.inr (by omega))
    replace bkb := bkb.only ho3 (Or.inr (by omega))
    have HI := Lib.hid (hI.up ho3 (by omega))
    replace hO := hO.trans ho3
    have hs3 := bkb.lt
    have hx3 := hx1 (by omega)
    clear ho3 hC2 hx1 hx2 hI hs2
    have KB : ∀ i, w3.cell? ⟨w1.heap.size, i, none⟩ = #[Value.slice S m d][i]? := fun i => bkb.cell i
    have FB : ∀ i, w3.frozen? ⟨w1.heap.size, i, none⟩ = false := fun i => bkb.frozen i
    have K0 : ∀ i, w3.cell? ⟨w.heap.size, i, none⟩ = #[Value.slice none 0 0][i]? := fun i => bk0.cell i
    have F0 : ∀ i, w3.frozen? ⟨w.heap.size, i, none⟩ = false := fun i => bk0.frozen i
    have hne0 : w.heap.size ≠ w1.heap.size := by omega
    have hne1 : w1.heap.size ≠ w.heap.size := by omega
    have hlt0 : w.heap.size < w3.heap.size := by omega
    obtain rfl | rfl | rfl : x = 0 ∨ x = 1 ∨ x = 2 := by omega
    · go_wp2_with fail
      go_region_law (first
        | (go_simp; go_at_call 58; refine (l1From_any cb A n c (-1) 4 _ ?_ (by omega) (by omega) (by omega) (by omega)).mono ?_; (first | exact hC3 | exact hC3.drew); rintro e w4 ⟨x, rfl, hx0, hx1, hC4, ho4⟩; have bk4 := bkb.only (Only.drewL ho4) (Or.inr (by omega)); have K4 : ∀ i, w4.cell? ⟨w1.heap.size, i, none⟩ = #[Value.slice S m d][i]? := fun i => bk4.cell i; have F4 : ∀ i, w4.frozen? ⟨w1.heap.size, i, none⟩ = false := fun i => bk4.frozen i; have hs4 := bk4.lt)
        | (refine step_append_any rfl _ _ 24 rfl (w.heap.size + 1) 2 i0 (.int .i64 0) 1 8 Tryz.underlying24 hi hz0 hz1 hz2 rfl (by omega) S m d (xs.map (Value.int .i64)) rfl (ownsRow_below ((HI.out.up (Only.drewL ho4) (by omega))) ((Below.refl _ w4).alloc (Nat.le_refl _) _)) _ 1 _ [.int .i64 x] rfl (Src.new w4 [.int .i64 x] _ 1 1 rfl (by simp [Value.oneCell'])) (by unfold maxLen; omega) (by omega) (by simp; omega) ?_; intro A2 c2 w5 ho5 hg5 hnil5 hwh5; have hgn := hg5; have hgb := app_below hg5 (ownsRow_below ((HI.out.up (Only.drewL ho4) (by omega))) ((Below.refl _ w4).alloc (Nat.le_refl _) _)) (by omega); have bk5 := bkGrow bk4 hgn (hne) ; have K5 : ∀ i, w5.cell? ⟨w1.heap.size, i, none⟩ = #[Value.slice S m d][i]? := fun i => bk5.cell i; have F5 : ∀ i, w5.frozen? ⟨w1.heap.size, i, none⟩ = false := fun i => bk5.frozen i))
      all_goals (
        have hw2 := appWhere (j := w1.heap.size) hwh5 hne (by simp; omega)
        have HI5 : Hid (OI (w5.setCell ⟨w1.heap.size, 0, none⟩ (.slice A2 (m + 1) c2)) (w.heap.size + 1) A2 (m + 1) c2 (xs ++ [x])) := Lib.hid (OI.setFar (by unfold OI; rw [List.map_append]; exact ho5) hw2 _)
        have hB5 : Below w.heap.size w4 (w5.setCell ⟨w1.heap.size, 0, none⟩ (.slice A2 (m + 1) c2)) := (hgb.mono (by omega)).setCell (p := ⟨w1.heap.size, 0, none⟩) (by simp; omega) _
        have hC5 := hC4.belowB hB5 hlt
        have hO5 := (hO.trans (Only.drewL ho4)).thenB hB5 (Nat.le_refl _)
        have bk06 := ((bk0.only (Only.drewL ho4) (Or.inr (by omega))).belowB hgb (by omega)).far (p := ⟨w1.heap.size, 0, none⟩) (by simp; omega) (.slice A2 (m + 1) c2)
        have bk26 := bk5.set_ 0 (.slice A2 (m + 1) c2)
        clear hB5 hgb ho5 hg5 hgn hnil5 hwh5 hC4 ho4 KB FB K0 F0
        generalize w5.setCell ⟨w1.heap.size, 0, none⟩ (.slice A2 (m + 1) c2) = w6 at *
        have KB : ∀ i, w6.cell? ⟨w1.heap.size, i, none⟩ = #[Value.slice A2 (m + 1) c2][i]? := fun i => bk26.cell i
        have K0 : ∀ i, w6.cell? ⟨w.heap.size, i, none⟩ = #[Value.slice none 0 0][i]? := fun i => bk06.cell i
        have F0 : ∀ i, w6.frozen? ⟨w.heap.size, i, none⟩ = false := fun i => bk06.frozen i
        go_wp2_with fail
        refine bodyPost_ret (v := .agg #[.slice A2 (m + 1) c2]) (by simp [results, Tryz.results28, go_sem, K0]) rfl ⟨A2, m + 1, c2, xs ++ [x], rfl, ?_, by omega, ?_, ?_⟩
        · exact (OI.setBelow HI5.out (by simp) _).base (by omega)
        · exact hC5.belowB ((Below.refl w.heap.size w6).setCell (p := ⟨w.heap.size, 0, none⟩) (by simp) _) hlt
        · exact hO5.thenB ((Below.refl w.heap.size w6).setCell (p := ⟨w.heap.size, 0, none⟩) (by simp) _) (Nat.le_refl _))
    · go_wp2_with fail
      have hsz : ((w3.setCell ⟨w1.heap.size, 0, none⟩ (.slice (some ⟨w3.heap.size, 0, none⟩) 0 0)).setCell ⟨w.heap.size, 0, none⟩ (.slice (some ⟨w3.heap.size, 0, none⟩) 0 0)).heap.size = w3.heap.size := by simp [World.setCell]
      have hB5 : Below w.heap.size w3 (((w3.setCell ⟨w1.heap.size, 0, none⟩ (.slice (some ⟨w3.heap.size, 0, none⟩) 0 0)).setCell ⟨w.heap.size, 0, none⟩ (.slice (some ⟨w3.heap.size, 0, none⟩) 0 0)).alloc (.cells #[] 2)) :=
        (((Below.refl w.heap.size w3).setCell (p := ⟨w1.heap.size, 0, none⟩) (by simp; omega) _).setCell (p := ⟨w.heap.size, 0, none⟩) (by simp) _).alloc (by omega) _
      have HI5 := OI.of_blk (xs := []) (Blk.new ((w3.setCell ⟨w1.heap.size, 0, none⟩ (.slice (some ⟨w3.heap.size, 0, none⟩) 0 0)).setCell ⟨w.heap.size, 0, none⟩ (.slice (some ⟨w3.heap.size, 0, none⟩) 0 0)) 2 #[]) (by simp)
      rw [hsz] at HI5
      refine bodyPost_ret (v := .agg #[.slice (some ⟨w3.heap.size, 0, none⟩) 0 0]) (by simp [results, Tryz.results28, go_sem, K0, hne1, hlt0]) rfl ⟨_, 0, 0, [], rfl, HI5.base (by omega), by omega, hC3.belowB hB5 hlt, hO.thenB hB5 (Nat.le_refl _)⟩
    · go_wp2_with fail
      refine (l1Below_any cb A n c 2 w3 hC3 (by omega)).mono ?_
      rintro e w4 ⟨y, rfl, hy0, hy1, hy2, hC4, ho4⟩
      replace bk0 := bk0.only ho4 (Or.inr (by omega))
      replace bkb := bkb.only ho4 (Or.inr (by omega))
      have hO4 := hO.trans ho4
      have hs4 := bkb.lt
      have hy3 := hy1 (by omega)
      clear ho4 hC3 hy1 hy2 HI KB FB K0 F0 hO
      obtain ⟨k, rfl⟩ : ∃ k : Nat, y = k := ⟨y.toNat, by omega⟩
      go_wp2_with (at_make; refine wpList_make_full _ rfl _ _ 24 rfl w4.heap.size 2 i0 (.int .i64 0) 1 Tryz.underlying24 hi hz0 hz1 .i64 .i64 _ _ (8 + k) rfl rfl (by simp) (by simp) (by rw [hz2]; omega) (by unfold maxLen; omega) (by omega) ?_; intro w5 hown hg; have hb5 := (Below.refl w4.heap.size w4).grown hg (Nat.le_refl _) (by simp); have bk5 := bkb.below hb5; have bk05 := bk0.below hb5; have KB : ∀ i, w5.cell? ⟨w1.heap.size, i, none⟩ = #[Value.slice S m d][i]? := fun i => bk5.cell i; have FB : ∀ i, w5.frozen? ⟨w1.heap.size, i, none⟩ = false := fun i => bk5.frozen i; have K0 : ∀ i, w5.cell? ⟨w.heap.size, i, none⟩ = #[Value.slice none 0 0][i]? := fun i => bk05.cell i; have F0 : ∀ i, w5.frozen? ⟨w.heap.size, i, none⟩ = false := fun i => bk05.frozen i)
      have HI5 : OI w5 w4.heap.size (some ⟨w4.heap.size, 0, none⟩) (8 + k) (8 + k) (List.replicate (8 + k) 0) := by
        unfold OI; simpa [Value.cells, toList_madeCells_one] using hown
      have hB5 : Below w.heap.size w4 ((w5.setCell ⟨w1.heap.size, 0, none⟩ (.slice (some ⟨w4.heap.size, 0, none⟩) (8 + k) (8 + k))).setCell ⟨w.heap.size, 0, none⟩ (.slice (some ⟨w4.heap.size, 0, none⟩) (8 + k) (8 + k))) :=
        ((hb5.mono (by omega)).setCell (p := ⟨w1.heap.size, 0, none⟩) (by simp; omega) _).setCell (p := ⟨w.heap.size, 0, none⟩) (by simp) _
      have hne2 : w1.heap.size ≠ w4.heap.size := by omega
      refine bodyPost_ret (v := .agg #[.slice (some ⟨w4.heap.size, 0, none⟩) (8 + k) (8 + k)]) (by simp [results, Tryz.results28, go_sem, K0, hne1]) rfl ⟨_, 8 + k, 8 + k, List.replicate (8 + k) 0, rfl, ?_, by omega, hC4.belowB hB5 hlt, hO4.thenB hB5 (Nat.le_refl _)⟩
      exact ((HI5.setFar (by rintro a ⟨⟩; simp; omega) _).setFar (by rintro a ⟨⟩; simp; omega) _).base (by omega)
end Go.Proofs.YtlcchafcgidpeaaGreatDoor
