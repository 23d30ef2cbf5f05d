/- Contracts: draws of texts. -/
import Derived.Test.YtlcchafcgidpeaaDoorDrawW
import Derived.Test.YtlcchafcgidpeaaDoorBendB
import Derived.Test.YtlcchafcgidpeaaDoorTxtT
import Derived.Deep.RegionHeld3
import Derived.Deep.RegionLaw
namespace Go.Proofs.YtlcchafcgidpeaaDoor
open Go.RowKit
set_option linter.unusedVariables false
set_option linter.unusedSimpArgs false

set_option maxHeartbeats 2000000 in
set_option maxRecDepth 20000 in
theorem DrawTermText_any (A : Option Addr) (n c : Nat) (w : World) (h : BI w A n) (hn : n ≤ 4096) :
    Calls Tryd.prog 43 #[.slice A n c] w fun e w' => ∃ (S : Option Addr) (m d' : Nat) (xs : List Int) (T : Option Addr) (k d : Nat) (t : List Int), e = .returned (.tuple #[.agg #[.slice S m d'], .slice T k d]) ∧ RI w' S m xs ∧ m ≤ 9 ∧ RI w' T k t ∧ k ≤ 60 ∧ Below w.heap.size w w' := by
  have bk0 := Blk.new w 30 #[.slice none 0 0]
  have hB0 : Below w.heap.size w (w.alloc (.cells #[.slice none 0 0] 30)) := (Below.refl _ _).alloc (Nat.le_refl _) _
  have hs0 : (w.alloc (.cells #[.slice none 0 0] 30)).heap.size = w.heap.size + 1 := by simp
  have h0 := h.below hB0
  go_enter Tryd.func43, Tryd.ntmps43
  go_wp2_with fail
  generalize w.alloc (.cells #[.slice none 0 0] 30) = W0 at *
  have HS := Lib.hid hs0
  clear hs0
  refine (l1New_any A n c W0 h0 hn).mono ?_
  rintro e w1 ⟨rfl, hC, hb1⟩
  have bk1 := bk0.below hb1
  have hB1 := hB0.trans (hb1.mono (by have := HS.out; omega))
  have hs1 : w.heap.size + 1 < w1.heap.size := by have := HS.out; have := hC.lt; omega
  clear bk0 hB0 h0 hb1
  go_wp2_with fail
  refine (l2DrawOne_any _ A n c w1 hC).mono ?_
  rintro e w2 ⟨S, m, d', xs, T, k, d, t, rfl, hS, hm, hT, hk, hkd, hC2, ho2⟩
  have bk2 := bk1.only ho2 (Or.inl (by have := HS.out; omega))
  have hB2 := hB1.trans (ho2.below (B := w.heap.size) (by have := HS.out; omega) (by omega))
  have hs2 := ho2.size
  have KR : ∀ i, w2.cell? ⟨w.heap.size, i, none⟩ = #[Value.slice none 0 0][i]? := fun i => bk2.cell i
  have FR : ∀ i, w2.frozen? ⟨w.heap.size, i, none⟩ = false := fun i => bk2.frozen i
  have ho5 : Only w.heap.size (w.heap.size + 1) w2 (w2.setCell ⟨w.heap.size, 0, none⟩ (.slice S m d')) := (Only.refl _ _ _).setCell (by simp) _
  have hS5 := hS.up ho5 (by omega)
  have hT5 := hT.up ho5 (by omega)
  clear hC hC2 ho2 hS hT bk1 bk2
  go_wp2_with fail
  exact bodyPost_ret (v := .tuple #[.agg #[.slice S m d'], .slice T k d]) (by simp [results, Tryd.results43, go_sem, KR]) rfl ⟨S, m, d', xs, T, k, d, t, rfl, hS5.1, hm, hT5.1, hk, hB2.trans (ho5.below (Nat.le_refl _) (by omega))⟩
set_option maxHeartbeats 4000000 in
set_option maxRecDepth 20000 in
theorem DrawTextTerm_any (A : Option Addr) (n c : Nat) (w : World) (h : BI w A n) (hn : n ≤ 4096) :
    Calls Tryd.prog 45 #[.slice A n c] w fun e w' => ∃ (S : Option Addr) (m d' : Nat) (xs : List Int) (z : ByteArray), e = .returned (.tuple #[.agg #[.slice S m d'], .string z]) ∧ RI w' S m xs ∧ m ≤ 9 ∧ z.size ≤ 1000 ∧ Below w.heap.size w w' := by
  have bk0 := Blk.new w 30 #[.slice none 0 0]
  have hB0 : Below w.heap.size w (w.alloc (.cells #[.slice none 0 0] 30)) := (Below.refl _ _).alloc (Nat.le_refl _) _
  have hs0 : (w.alloc (.cells #[.slice none 0 0] 30)).heap.size = w.heap.size + 1 := by simp
  have h0 := h.below hB0
  go_enter Tryd.func45, Tryd.ntmps45
  go_wp2_with fail
  generalize w.alloc (.cells #[.slice none 0 0] 30) = W0 at *
  have HS := Lib.hid hs0
  clear hs0
  refine (l1New_any A n c W0 h0 hn).mono ?_
  rintro e w1 ⟨rfl, hC, hb1⟩
  obtain ⟨cb, hcb⟩ : ∃ cb, Hid (cb = W0.heap.size) := ⟨_, Lib.hid rfl⟩
  rw [← hcb.out] at hC ⊢
  have hcb1 : cb = w.heap.size + 1 := by rw [hcb.out, HS.out]
  have HCB := Lib.hid hcb1
  have bk1 := bk0.below hb1
  have hB1 := hB0.trans (hb1.mono (by have := HS.out; omega))
  have hs1 : w.heap.size + 1 < w1.heap.size := by have := hC.lt; omega
  clear bk0 hB0 h0 hb1 hcb1
  go_wp2_with fail
  refine (l2DrawOne_any _ A n c w1 hC).mono ?_
  rintro e w2 ⟨S, m, d', xs, T, k, d, t, rfl, hS, hm, hT, hk, hkd, hC2, ho2⟩
  have bk2 := bk1.only ho2 (Or.inl (by have := HCB.out; omega))
  have hB2 := hB1.trans (ho2.below (B := w.heap.size) (by have := HCB.out; omega) (by omega))
  have hs2 := ho2.size
  clear hC ho2 bk1 hB1
  have hal : Below w2.heap.size w2 (w2.alloc (.cells #[.slice S m d'] 30)) := (Below.refl _ _).alloc (Nat.le_refl _) _
  have bx := Blk.new w2 30 #[.slice S m d']
  have hS3 := hS.1.below hal
  have hT3 := hT.1.below hal
  have bk3 := bk2.below hal
  have hC3 := hC2.below hal
  have hB3 := hB2.trans (hal.mono (by omega))
  have hs3 := bx.lt
  have hSB := fun hm a ha => hS.2 hm a ha
  have KX3 : ∀ i, (w2.alloc (.cells #[.slice S m d'] 30)).cell? ⟨w2.heap.size, i, none⟩ = #[Value.slice S m d'][i]? := fun i => bx.cell i
  clear hal hS hT bk2 hC2 hB2
  go_wp2_with fail
  generalize w2.alloc (.cells #[.slice S m d'] 30) = W3 at *
  refine (S_TermText S m d' xs T k d t W3 hS3 hT3 (by omega) (by omega)).mono ?_
  rintro e w4 ⟨rfl, hb4⟩
  have htl := V_TermText_len xs t
  generalize V_TermText xs t = TX at *
  replace bx := bx.below hb4
  have bk4 := bk3.below hb4
  have hC4 := hC3.below hb4
  have hB4 := hB3.trans (hb4.mono (by omega))
  have hs4 := hb4.size
  have hS4 := hS3.below hb4
  clear KX3 bk3 hC3 hB3 hb4 hS3 hT3
  go_wp2_with fail
  refine (l1Once_any cb A n c 2 w4 hC4 (by omega)).mono ?_
  rintro e w5 ⟨b, rfl, hC5, ho5⟩
  replace bx := bx.only ho5 (Or.inr (by have := HCB.out; omega))
  have bk5 := bk4.only ho5 (Or.inl (by have := HCB.out; omega))
  have hB5 := hB4.trans (ho5.below (B := w.heap.size) (by have := HCB.out; omega) (by omega))
  have hs5 := ho5.size
  have hR5 : RB w5 (cb + 1) S m xs := (show RB w4 (cb + 1) S m xs from ⟨hS4, fun hm a ha => by have := hSB hm a ha; have := HCB.out; omega⟩).up ho5 (Nat.le_refl _)
  clear bk4 hC4 hB4 ho5 hS4 hSB
  have KX5 : ∀ i, w5.cell? ⟨w2.heap.size, i, none⟩ = #[Value.slice S m d'][i]? := fun i => bx.cell i
  have KR5 : ∀ i, w5.cell? ⟨w.heap.size, i, none⟩ = #[Value.slice none 0 0][i]? := fun i => bk5.cell i
  have FR5 : ∀ i, w5.frozen? ⟨w.heap.size, i, none⟩ = false := fun i => bk5.frozen i
  cases b
  · go_wp2_with fail
    go_region_law (go_simp; go_at_call 78; refine (l1Bend_any cb A n c ⟨TX.toArray⟩ ⟨#[102, 120, 48, 49, 40, 44, 41, 32]⟩ _ ?_ (by simp [ByteArray.size]; omega) (by decide) (by decide)).mono ?_; (first | exact hC5.drew); rintro e w6 ⟨z, rfl, hz, hC6, ho6⟩; have bk6 := bk5.only (Only.drewL ho6) (Or.inl (by have := HCB.out; omega)); have K6 : ∀ i, w6.cell? ⟨w.heap.size, i, none⟩ = #[Value.slice none 0 0][i]? := fun i => bk6.cell i; have F6 : ∀ i, w6.frozen? ⟨w.heap.size, i, none⟩ = false := fun i => bk6.frozen i; have bx6 := bx.only (Only.drewL ho6) (Or.inr (by have := HCB.out; omega)); have KX6 : ∀ i, w6.cell? ⟨w2.heap.size, i, none⟩ = #[Value.slice S m d'][i]? := fun i => bx6.cell i)
    all_goals (
      have hs6 := (Only.drewL ho6).size
      have ho7 : Only w.heap.size (w.heap.size + 1) w6 (w6.setCell ⟨w.heap.size, 0, none⟩ (.slice S m d')) := (Only.refl _ _ _).setCell (by simp) _
      have hB6 := hB5.trans ((Only.drewL ho6).below (B := w.heap.size) (by have := HCB.out; omega) (by omega))
      have hR6 := hR5.up (Only.drewL ho6) (Nat.le_refl _)
      have hz2 : z.size ≤ 1000 := by rw [show (⟨TX.toArray⟩ : ByteArray).size = TX.length from by simp [ByteArray.size]] at hz; omega
      go_wp2_with fail
      exact bodyPost_ret (v := .tuple #[.agg #[.slice S m d'], .string z]) (by simp [results, Tryd.results45, go_sem, K6]) rfl ⟨S, m, d', xs, z, rfl, (hR6.up ho7 (by have := HCB.out; omega)).1, hm, hz2, hB6.trans (ho7.below (Nat.le_refl _) (by omega))⟩)
  · have ho6 : Only w.heap.size (w.heap.size + 1) w5 (w5.setCell ⟨w.heap.size, 0, none⟩ (.slice S m d')) := (Only.refl _ _ _).setCell (by simp) _
    go_wp2_with fail
    exact bodyPost_ret (v := .tuple #[.agg #[.slice S m d'], .string ⟨TX.toArray⟩]) (by simp [results, Tryd.results45, go_sem, KR5]) rfl ⟨S, m, d', xs, _, rfl, (hR5.up ho6 (by have := HCB.out; omega)).1, hm, by simp [ByteArray.size]; omega, hB5.trans (ho6.below (Nat.le_refl _) (by omega))⟩
end Go.Proofs.YtlcchafcgidpeaaDoor
