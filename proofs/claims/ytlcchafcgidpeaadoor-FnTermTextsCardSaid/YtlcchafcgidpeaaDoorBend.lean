/- Contracts: a text bent by draws. -/
import Derived.Test.YtlcchafcgidpeaaDoorDraw
import Derived.Test.YtlcchafcgidpeaaDoorDrawU
import Derived.Test.YtlcchafcgidpeaaDoorMat
import Derived.Test.YtlcchafcgidpeaaDoorStr
import Derived.Deep.RegionHeld3
import Derived.Laws.IdiomStrings
namespace Go.Proofs.YtlcchafcgidpeaaDoor
open Go.RowKit
set_option linter.unusedVariables false
set_option linter.unusedSimpArgs false

set_option maxHeartbeats 1000000 in
theorem l1BelowBig_any (cb : Nat) (A : Option Addr) (n c : Nat) (k : Int) (w : World) (h : Dcur w cb A n c) (hk : ¬ k ≤ 256) (hk2 : k ≤ 100000) :
    Calls Tryd.prog 99 #[.pointer (some ⟨cb, 0, none⟩), .int .i64 k] w fun e w' => ∃ x : Int, e = .returned (.int .i64 x) ∧ 0 ≤ x ∧ x < k ∧ Dcur w' cb A n c ∧ Only cb (cb + 1) w w' := by
  have e0 : decide (k ≤ 0) = false := by simp; omega
  have e1 : decide (k ≤ 256) = false := by simpa using hk
  have e2 : ¬ k = 0 := by omega
  go_enter Tryd.func99, Tryd.ntmps99
  go_wp2_with fail
  refine (l1Byte_any cb A n c _ h).mono ?_
  rintro e w1 ⟨x, rfl, hx0, hx1, hc1, ho1⟩
  go_wp2_with fail
  refine (l1Byte_any cb A n c _ hc1).mono ?_
  rintro e w2 ⟨y, rfl, hy0, hy1, hc2, ho2⟩
  go_wp2_with fail
  refine (l1Byte_any cb A n c _ hc2).mono ?_
  rintro e w3 ⟨z, rfl, hz0, hz1, hc3, ho3⟩
  go_wp2_with fail
  refine (l1Byte_any cb A n c _ hc3).mono ?_
  rintro e w4 ⟨v, rfl, hv0, hv1, hc4, ho4⟩
  go_wp2_with fail
  go_ret
  have hm1 := Int.emod_nonneg (x * 16777216 + y * 65536 + z * 256 + v) e2
  have hm2 := Int.emod_lt_of_pos (x * 16777216 + y * 65536 + z * 256 + v) (b := k) (by omega)
  exact ⟨_, rfl, hm1, hm2, hc4, ((ho1.trans ho2).trans ho3).trans ho4⟩
theorem l1BelowQ_any (cb : Nat) (A : Option Addr) (n c : Nat) (k : Int) (w : World) (h : Dcur w cb A n c) (hk0 : 0 < k) (hk2 : k ≤ 100000) :
    Calls Tryd.prog 99 #[.pointer (some ⟨cb, 0, none⟩), .int .i64 k] w fun e w' => ∃ x : Nat, e = .returned (.int .i64 x) ∧ (x : Int) < k ∧ Dcur w' cb A n c ∧ Only cb (cb + 1) w w' := by
  by_cases hk : k ≤ 256
  · refine (l1Below_any cb A n c k w h hk).mono ?_
    rintro e w' ⟨x, rfl, h0, h1, _, h3, h4⟩
    exact ⟨x.toNat, by rw [Int.toNat_of_nonneg h0], by have := h1 hk0; omega, h3, h4⟩
  · refine (l1BelowBig_any cb A n c k w h hk hk2).mono ?_
    rintro e w' ⟨x, rfl, h0, h1, h3, h4⟩
    exact ⟨x.toNat, by rw [Int.toNat_of_nonneg h0], by omega, h3, h4⟩
/-- A slice of bytes in a block of its own, which may be written. -/
def BRow (w : World) (B g n c : Nat) : Prop :=
  n ≤ c ∧ c ≤ maxLen ∧ B ≤ g ∧ g < w.heap.size ∧ ∀ k, k < n → (∃ y : UInt8, w.cell? ⟨g, k, none⟩ = some (.int .u8 y.toNat)) ∧ w.frozen? ⟨g, k, none⟩ = false
theorem BRow.block {w w' : World} {B g n c : Nat} (h : BRow w B g n c) (hb : w'.heap[g]? = w.heap[g]?) (hs : w.heap.size ≤ w'.heap.size) : BRow w' B g n c := by
  obtain ⟨h1, h2, h3, h4, h5⟩ := h
  refine ⟨h1, h2, h3, by omega, fun k hk => ?_⟩
  obtain ⟨⟨y, hy⟩, hf⟩ := h5 k hk
  refine ⟨⟨y, (World.cell?_of_block hb).trans hy⟩, ?_⟩
  unfold World.frozen? at hf ⊢
  rw [hb]
  exact hf
theorem BRow.below {w w' : World} {B g n c : Nat} (h : BRow w B g n c) (hb : Below w.heap.size w w') : BRow w' B g n c := h.block (hb.block g h.2.2.2.1) hb.size
theorem BRow.only {w w' : World} {B lo hi g n c : Nat} (h : BRow w B g n c) (ho : Only lo hi w w') (hB : hi ≤ B) : BRow w' B g n c := h.block (ho.block g h.2.2.2.1 (Or.inr (by have := h.2.2.1; omega))) ho.size
theorem BRow.take {w : World} {B g n c k : Nat} (h : BRow w B g n c) (hk : k ≤ n) : BRow w B g k c := ⟨by have := h.1; omega, h.2.1, h.2.2.1, h.2.2.2.1, fun j hj => h.2.2.2.2 j (by omega)⟩
theorem BRow.cell {w : World} {B g n c k : Nat} (h : BRow w B g n c) (hk : k < n) : ∃ y : UInt8, w.cell? ⟨g, k, none⟩ = some (.int .u8 y.toNat) := (h.2.2.2.2 k hk).1
theorem BRow.frozen {w : World} {B g n c k : Nat} (h : BRow w B g n c) (hk : k < n) : w.frozen? ⟨g, k, none⟩ = false := (h.2.2.2.2 k hk).2
theorem BRow.set_ {w : World} {B g n c : Nat} (h : BRow w B g n c) (k : Nat) (y : UInt8) : BRow (w.setCell ⟨g, k, none⟩ (.int .u8 y.toNat)) B g n c := by
  obtain ⟨h1, h2, h3, h4, h5⟩ := h
  refine ⟨h1, h2, h3, by rw [World.size_setCell]; exact h4, fun j hj => ?_⟩
  obtain ⟨⟨z, hz⟩, hf⟩ := h5 j hj
  refine ⟨?_, by rw [World.frozen?_setCell]; exact hf⟩
  by_cases hjk : k = j
  · subst hjk; exact ⟨y, World.cell?_setCell_same _ _ _ hz⟩
  · exact ⟨z, (World.cell?_setCell_other _ _ _ _ (by simp [hjk])).trans hz⟩
/-- Bytes only. -/
def U8 (l : List Value) : Prop := ∀ u ∈ l, ∃ y : UInt8, u = .int .u8 y.toNat
theorem U8.append {a b : List Value} (h : U8 a) (h2 : U8 b) : U8 (a ++ b) := fun u hu => by rcases List.mem_append.1 hu with hu | hu; exact h u hu; exact h2 u hu
theorem BRow.of_own {w : World} {B g n c : Nat} {xs : List Value} (h : w.ownsRow B 5 1 (.slice (some ⟨g, 0, none⟩) n c) n xs) (hx : U8 xs) : BRow w B g n c := by
  obtain ⟨hl, hn | ⟨g', cap, cur, hv, hg, hh, hc, hm, hs, ht⟩⟩ := h
  · simp at hn
  · simp only [Value.slice.injEq, Option.some.injEq, Addr.mk.injEq] at hv
    obtain ⟨⟨rfl, -⟩, -, rfl⟩ := hv
    have hb : Blk w g 5 cur := hh
    refine ⟨hc, hm, hg, hb.lt, fun k hk => ⟨?_, hb.frozen k⟩⟩
    rw [hb.cell k]
    have e : cur[k]? = xs[k]? := by
      rw [← ht, List.getElem?_take, if_pos (by omega)]
      simp
    have hlt : k < xs.length := by omega
    obtain ⟨y, hy⟩ := hx xs[k] (List.getElem_mem hlt)
    exact ⟨y, by rw [e, List.getElem?_eq_getElem hlt, hy]⟩
theorem BRow.src {w : World} {B g n c : Nat} (h : BRow w B g n c) (f m : Nat) (hf : f + m ≤ n) : ∃ news, U8 news ∧ Src w (some ⟨g, f, none⟩) m 1 news := by
  have hcell : ∀ j, j < m → ∃ y : UInt8, w.cell? ⟨g, f + j, none⟩ = some (.int .u8 y.toNat) := fun j hj => h.cell (by omega)
  refine ⟨(List.range m).map fun j => (w.cell? ⟨g, f + j, none⟩).getD undef, ?_, by simp, ?_, .inr ⟨_, rfl, fun j u hu => ?_⟩⟩
  · intro u hu
    obtain ⟨j, hj, rfl⟩ := List.mem_map.1 hu
    obtain ⟨y, hy⟩ := hcell j (List.mem_range.1 hj)
    exact ⟨y, by rw [hy]; rfl⟩
  · intro u hu
    obtain ⟨j, hj, rfl⟩ := List.mem_map.1 hu
    obtain ⟨y, hy⟩ := hcell j (List.mem_range.1 hj)
    rw [hy]
    rfl
  · rw [List.getElem?_map] at hu
    cases hj : (List.range m)[j]? with
    | none => rw [hj] at hu; cases hu
    | some i =>
      rw [hj] at hu
      have hlt : j < m := by simpa using (List.getElem?_eq_some_iff.1 hj).1
      obtain rfl : j = i := by simpa using (List.getElem?_eq_some_iff.1 hj).2
      simp only [Option.map_some, Option.some.injEq] at hu
      subst hu
      obtain ⟨y, hy⟩ := hcell j hlt
      have e1 : (⟨g, f, none⟩ : Addr).add j = ⟨g, f + j, none⟩ := by unfold Addr.add; split <;> simp_all
      rw [e1, hy]
      rfl
theorem BRow.conv {w : World} {B g n c : Nat} (h : BRow w B g n c) : ∃ z : ByteArray, z.size = n ∧ (convert 63 9 (.slice (some ⟨g, 0, none⟩) n c)).run Tryd.prog w = .ok (.string z) w := by
  obtain ⟨l, hl, hc⟩ : ∃ l : List UInt8, l.length = n ∧ ∀ j (hj : j < l.length), w.cell? ((⟨g, 0, none⟩ : Addr).add j) = some (.int .u8 (l[j].toNat : Int)) := by
    refine ⟨(List.range n).map fun j => match w.cell? ⟨g, j, none⟩ with | some (.int _ v) => UInt8.ofNat v.toNat | _ => 0, by simp, fun j hj => ?_⟩
    have hlt : j < n := by simpa using hj
    obtain ⟨y, hy⟩ := h.cell hlt
    have e1 : (⟨g, 0, none⟩ : Addr).add j = ⟨g, j, none⟩ := by unfold Addr.add; split <;> simp_all
    rw [e1]
    simp only [List.getElem_map, List.getElem_range, hy, Int.toNat_natCast]
    simp
  subst hl
  exact ⟨⟨l.toArray⟩, by simp [ByteArray.size], run_convert_bytes_back (P := Tryd.prog) w 63 9 5 ⟨g, 0, none⟩ c l Tryd.underlying63 Tryd.underlying5 Tryd.underlying9 hc⟩
/-- '[]byte(s)'. -/
theorem BRow.start (w : World) (s : ByteArray) (hs : s.size ≤ 1048576) : ∃ c o, (convert 9 63 (.string s)).run Tryd.prog w = .ok (.slice (some ⟨w.heap.size, 0, none⟩) s.size c) (w.drew.alloc o) ∧ BRow (w.drew.alloc o) w.heap.size w.heap.size s.size c := by
  refine ⟨grownCap w s.size 0 5, _, run_bytes_of_string (P := Tryd.prog) w 9 63 5 s Tryd.underlying9 Tryd.underlying63 Tryd.underlying5, ?_⟩
  have hge := grownCap_ge w s.size 0 5
  have hle := grownCap_le_maxLen w s.size 0 5 (by unfold maxLen; omega)
  generalize grownCap w s.size 0 5 = cap at *
  have hsz : (bytesRow s cap).size = cap := by
    unfold bytesRow
    rw [Array.size_append, Array.size_map, Array.size_replicate]
    show s.size + _ = _
    omega
  refine ⟨hge, hle, Nat.le_refl _, by simp, fun k hk => ?_⟩
  have hn : (w.drew.alloc (.cells (bytesRow s cap) 5 ((bytesRow s cap).size, (bytesRow s cap).size + 1))).heap[w.heap.size]? = some (.cells (bytesRow s cap) 5 ((bytesRow s cap).size, (bytesRow s cap).size + 1)) := heap_alloc_new w.drew _
  refine ⟨⟨s.data[k], ?_⟩, ?_⟩
  · rw [cell_of_row _ w.heap.size k _ _ _ hn, bytesRow_at s cap k hk]
  · unfold World.frozen?
    rw [hn, hsz]
    simp only
    rw [Bool.and_eq_false_iff]
    left
    simp
    omega
end Go.Proofs.YtlcchafcgidpeaaDoor
