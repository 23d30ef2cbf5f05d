/- Contracts: a text bent by draws. -/
import Derived.Test.YtlcchafcgidpeaaGreatDoorDraw
import Derived.Test.YtlcchafcgidpeaaGreatDoorDrawU
import Derived.Test.YtlcchafcgidpeaaGreatDoorMat
import Derived.Test.YtlcchafcgidpeaaGreatDoorStr
import Derived.Deep.RegionHeld3
import Derived.Laws.IdiomStrings
namespace Go.Proofs.YtlcchafcgidpeaaGreatDoor
open Go.RowKit
set_option linter.unusedVariables false
set_option linter.unusedSimpArgs false

set_option maxHeartbeats 1000000 in
theorem l1BelowBig_any (cb : Nat) (A : Option Addr) (n c : Nat) (k : Int) (w : World) (h : Dcur w cb A n c) (hk : ¬ k ≤ 256) (hk2 : k ≤ 100000) :
    Calls Tryz.prog 47 #[.pointer (some ⟨cb, 0, none⟩), .int .i64 k] w fun e w' => ∃ x : Int, e = .returned (.int .i64 x) ∧ 0 ≤ x ∧ x < k ∧ Dcur w' cb A n c ∧ Only cb (cb + 1) w w' := by
  have e0 : decide (k ≤ 0) = false := by simp; omega
  have e1 : decide (k ≤ 256) = false := by simpa using hk
  have e2 : ¬ k = 0 := by omega
  go_enter Tryz.func47, Tryz.ntmps47
  go_wp2_with fail
  refine (l1Byte_any cb A n c _ h).mono ?_
  rintro e w1 ⟨x, rfl, hx0, hx1, hc1, ho1⟩
  go_wp2_with fail
  refine (l1Byte_any cb A n c _ hc1).mono ?_
  rintro e w2 ⟨y, rfl, hy0, hy1, hc2, ho2⟩
  go_wp2_with fail
  refine (l1Byte_any cb A n c _ hc2).mono ?_
  rintro e w3 ⟨z, rfl, hz0, hz1, hc3, ho3⟩
  go_wp2_with fail
  refine (l1Byte_any cb A n c _ hc3).mono ?_
  rintro e w4 ⟨v, rfl, hv0, hv1, hc4, ho4⟩
  go_wp2_with fail
  go_ret
  have hm1 := Int.emod_nonneg (x * 16777216 + y * 65536 + z * 256 + v) e2
  have hm2 := Int.emod_lt_of_pos (x * 16777216 + y * 65536 + z * 256 + v) (b := k) (by omega)
  exact ⟨_, rfl, hm1, hm2, hc4, ((ho1.trans ho2).trans ho3).trans ho4⟩
theorem l1BelowQ_any (cb : Nat) (A : Option Addr) (n c : Nat) (k : Int) (w : World) (h : Dcur w cb A n c) (hk0 : 0 < k) (hk2 : k ≤ 100000) :
    Calls Tryz.prog 47 #[.pointer (some ⟨cb, 0, none⟩), .int .i64 k] w fun e w' => ∃ x : Nat, e = .returned (.int .i64 x) ∧ (x : Int) < k ∧ Dcur w' cb A n c ∧ Only cb (cb + 1) w w' := by
  by_cases hk : k ≤ 256
  · refine (l1Below_any cb A n c k w h hk).mono ?_
    rintro e w' ⟨x, rfl, h0, h1, _, h3, h4⟩
    exact ⟨x.toNat, by rw [Int.toNat_of_nonneg h0], by have := h1 hk0; omega, h3, h4⟩
  · refine (l1BelowBig_any cb A n c k w h hk hk2).mono ?_
    rintro e w' ⟨x, rfl, h0, h1, h3, h4⟩
    exact ⟨x.toNat, by rw [Int.toNat_of_nonneg h0], by omega, h3, h4⟩
/-- A slice of bytes in a block of its own, which may be written. -/
def BRow (w : World) (B g n c : Nat) : Prop :=
  n ≤ c ∧ c ≤ maxLen ∧ B ≤ g ∧ g < w.heap.size ∧ ∀ k, k < n → (∃ y : UInt8, w.cell? ⟨g, k, none⟩ = some (.int .u8 y.toNat)) ∧ w.frozen? ⟨g, k, none⟩ = false
theorem BRow.block {w w' : World} {B g n c : Nat} (h : BRow w B g n c) (hb : w'.heap[g]? = w.heap[g]?) (hs : w.heap.size ≤ w'.heap.size) : BRow w' B g n c := by
  obtain ⟨h1, h2, h3, h4, h5⟩ := h
  refine ⟨h1, h2, h3, by omega, fun k hk => ?_⟩
  obtain ⟨⟨y, hy⟩, hf⟩ := h5 k hk
  refine ⟨⟨y, (World.cell?_of_block hb).trans hy⟩, ?_⟩
  unfold World.frozen? at hf ⊢
  rw [hb]
  exact hf
theorem BRow.below {w w' : World} {B g n c : Nat} (h : BRow w B g n c) (hb : Below w.heap.size w w') : BRow w' B g n c := h.block (hb.block g h.2.2.2.1) hb.size
theorem BRow.only {w w' : World} {B lo hi g n c : Nat} (h : BRow w B g n c) (ho : Only lo hi w w') (hB : hi ≤ B) : BRow w' B g n c := h.block (ho.block g h.2.2.2.1 (Or.inr (by have := h.2.2.1; omega))) ho.size
theorem BRow.take {w : World} {B g n c k : Nat} (h : BRow w B g n c) (hk : k ≤ n) : BRow w B g k c := ⟨by have := h.1; omega, h.2.1, h.2.2.1, h.2.2.2.1, fun j hj => h.2.2.2.2 j (by omega)⟩
theorem BRow.cell {w : World} {B g n c k : Nat} (h : BRow w B g n c) (hk : k < n) : ∃ y : UInt8, w.cell? ⟨g, k, none⟩ = some (.int .u8 y.toNat) := (h.2.2.2.2 k hk).1
theorem BRow.frozen {w : World} {B g n c k : Nat} (h : BRow w B g n c) (hk : k < n) : w.frozen? ⟨g, k, none⟩ = false := (h.2.2.2.2 k hk).2
theorem BRow.set_ {w : World} {B g n c : Nat} (h : BRow w B g n c) (k : Nat) (y : UInt8) : BRow (w.setCell ⟨g, k, none⟩ (.int .u8 y.toNat)) B g n c := by
  obtain ⟨h1, h2, h3, h4, h5⟩ := h
  refine ⟨h1, h2, h3, by rw [World.size_setCell]; exact h4, fun j hj => ?_⟩
  obtain ⟨⟨z, hz⟩, hf⟩ := h5 j hj
  refine ⟨?_, by rw [World.frozen?_setCell]; exact hf⟩
  by_cases hjk : k = j
  · subst hjk; exact ⟨y, World.cell?_setCell_same _ _ _ hz⟩
  · exact ⟨z, (World.cell?_setCell_other _ _ _ _ (by simp [hjk])).trans hz⟩
/-- Bytes only. -/
def U8 (l : List Value) : Prop := ∀ u ∈ l, ∃ y : UInt8, u = .int .u8 y.toNat
theorem U8.append {a b : List Value} (h : U8 a) (h2 : U8 b) : U8 (a ++ b) := fun u hu => by rcases List.mem_append.1 hu with hu | hu; exact h u hu; exact h2 u hu
theorem BRow.of_own {w : World} {B g n c : Nat} {xs : List Value} (h : w.ownsRow B 5 1 (.slice (some ⟨g, 0, none⟩) n c) n xs) (hx : U8 xs) : BRow w B g n c := by
  obtain ⟨hl, hn | ⟨g', cap, cur, hv, hg, hh, hc, hm, hs, ht⟩⟩ := h
  · simp at hn
  · simp only [Value.slice.injEq, Option.some.injEq, Addr.mk.injEq] at hv
    obtain ⟨⟨rfl, -⟩, -, rfl⟩ := hv
    have hb : Blk w g 5 cur := hh
    refine ⟨hc, hm, hg, hb.lt, fun k hk => ⟨?_, hb.frozen k⟩⟩
    rw [hb.cell k]
    have e : cur[k]? = xs[k]? := by
      rw [← ht, List.getElem?_take, if_pos (by omega)]
      simp
    have hlt : k < xs.length := by omega
    obtain ⟨y, hy⟩ := hx xs[k] (List.getElem_mem hlt)
    exact ⟨y, by rw [e, List.getElem?_eq_getElem hlt, hy]⟩
theorem BRow.src {w : World} {B g n c : Nat} (h : BRow w B g n c) (f m : Nat) (hf : f + m ≤ n) : ∃ news, U8 news ∧ Src w (some ⟨g, f, none⟩) m 1 news := by
  have hcell : ∀ j, j < m → ∃ y : UInt8, w.cell? ⟨g, f + j, none⟩ = some (.int .u8 y.toNat) := fun j hj => h.cell (by omega)
  refine ⟨(List.range m).map fun j => (w.cell? ⟨g, f + j, none⟩).getD undef, ?_, by simp, ?_, .inr ⟨_, rfl, fun j u hu => ?_⟩⟩
  · intro u hu
    obtain ⟨j, hj, rfl⟩ := List.mem_map.1 hu
    obtain ⟨y, hy⟩ := hcell j (List.mem_range.1 hj)
    exact ⟨y, by rw [hy]; rfl⟩
  · intro u hu
    obtain ⟨j, hj, rfl⟩ := List.mem_map.1 hu
    obtain ⟨y, hy⟩ := hcell j (List.mem_range.1 hj)
    rw [hy]
    rfl
  · rw [List.getElem?_map] at hu
    cases hj : (List.range m)[j]? with
    | none => rw [hj] at hu; cases hu
    | some i =>
      rw [hj] at hu
      have hlt : j < m := by simpa using (List.getElem?_eq_some_iff.1 hj).1
      obtain rfl : j = i := by simpa using (List.getElem?_eq_some_iff.1 hj).2
      simp only [Option.map_some, Option.some.injEq] at hu
      subst hu
      obtain ⟨y, hy⟩ := hcell j hlt
      have e1 : (⟨g, f, none⟩ : Addr).add j = ⟨g, f + j, none⟩ := by unfold Addr.add; split <;> simp_all
      rw [e1, hy]
      rfl
theorem BRow.conv {w : World} {B g n c : Nat} (h : BRow w B g n c) : ∃ z : ByteArray, z.size = n ∧ (convert 22 9 (.slice (some ⟨g, 0, none⟩) n c)).run Tryz.prog w = .ok (.string z) w := by
  obtain ⟨l, hl, hc⟩ : ∃ l : List UInt8, l.length = n ∧ ∀ j (hj : j < l.length), w.cell? ((⟨g, 0, none⟩ : Addr).add j) = some (.int .u8 (l[j].toNat : Int)) := by
    refine ⟨(List.range n).map fun j => match w.cell? ⟨g, j, none⟩ with | some (.int _ v) => UInt8.ofNat v.toNat | _ => 0, by simp, fun j hj => ?_⟩
    have hlt : j < n := by simpa using hj
    obtain ⟨y, hy⟩ := h.cell hlt
    have e1 : (⟨g, 0, none⟩ : Addr).add j = ⟨g, j, none⟩ := by unfold Addr.add; split <;> simp_all
    rw [e1]
    simp only [List.getElem_map, List.getElem_range, hy, Int.toNat_natCast]
    simp
  subst hl
  exact ⟨⟨l.toArray⟩, by simp [ByteArray.size], run_convert_bytes_back (P := Tryz.prog) w 22 9 5 ⟨g, 0, none⟩ c l Tryz.underlying22 Tryz.underlying5 Tryz.underlying9 hc⟩
/-- '[]byte(s)'. -/
theorem BRow.start (w : World) (s : ByteArray) (hs : s.size ≤ 1048576) : ∃ c o, (convert 9 22 (.string s)).run Tryz.prog w = .ok (.slice (some ⟨w.heap.size, 0, none⟩) s.size c) (w.drew.alloc o) ∧ BRow (w.drew.alloc o) w.heap.size w.heap.size s.size c := by
  refine ⟨grownCap w s.size 0 5, _, run_bytes_of_string (P := Tryz.prog) w 9 22 5 s Tryz.underlying9 Tryz.underlying22 Tryz.underlying5, ?_⟩
  have hge := grownCap_ge w s.size 0 5
  have hle := grownCap_le_maxLen w s.size 0 5 (by unfold maxLen; omega)
  generalize grownCap w s.size 0 5 = cap at *
  have hsz : (bytesRow s cap).size = cap := by
    unfold bytesRow
    rw [Array.size_append, Array.size_map, Array.size_replicate]
    show s.size + _ = _
    omega
  refine ⟨hge, hle, Nat.le_refl _, by simp, fun k hk => ?_⟩
  have hn : (w.drew.alloc (.cells (bytesRow s cap) 5 ((bytesRow s cap).size, (bytesRow s cap).size + 1))).heap[w.heap.size]? = some (.cells (bytesRow s cap) 5 ((bytesRow s cap).size, (bytesRow s cap).size + 1)) := heap_alloc_new w.drew _
  refine ⟨⟨s.data[k], ?_⟩, ?_⟩
  · rw [cell_of_row _ w.heap.size k _ _ _ hn, bytesRow_at s cap k hk]
  · unfold World.frozen?
    rw [hn, hsz]
    simp only
    rw [Bool.and_eq_false_iff]
    left
    simp
    omega
end Go.Proofs.YtlcchafcgidpeaaGreatDoor
/-! Contracts: a text bent by draws; the walk. -/

namespace Go.Proofs.YtlcchafcgidpeaaGreatDoor
open Go.RowKit
set_option linter.unusedVariables false
set_option linter.unusedSimpArgs false
theorem infoUint8 : (Tryz.prog.info? 5).map (fun i => (i.zero, i.size, i.bytes)) = some (some (.int .u8 0), 1, 1) := by kernel_rfl
theorem own_empty {W : World} {B : Nat} (h : B ≤ W.heap.size) : (W.alloc (.cells #[] 5)).ownsRow B 5 1 (.slice (some ⟨W.heap.size, 0, none⟩) 0 0) 0 [] :=
  ⟨rfl, Or.inr ⟨W.heap.size, 0, #[], rfl, h, Blk.new W 5 #[], Nat.le_refl _, by unfold maxLen; omega, by simp, by simp⟩⟩
def bnews (w : World) (g f m : Nat) : List Value := (List.range m).map fun j => (w.cell? ⟨g, f + j, none⟩).getD undef
theorem BRow.srcN {w : World} {B g n c : Nat} (h : BRow w B g n c) (f m : Nat) (hf : f + m ≤ n) : Src w (some ⟨g, f, none⟩) m 1 (bnews w g f m) := by
  have hcell : ∀ j, j < m → ∃ y : UInt8, w.cell? ⟨g, f + j, none⟩ = some (.int .u8 y.toNat) := fun j hj => h.cell (by omega)
  refine ⟨by simp [bnews], ?_, .inr ⟨_, rfl, fun j u hu => ?_⟩⟩
  · intro u hu
    obtain ⟨j, hj, rfl⟩ := List.mem_map.1 hu
    obtain ⟨y, hy⟩ := hcell j (List.mem_range.1 hj)
    rw [hy]
    rfl
  · unfold bnews at hu
    rw [List.getElem?_map] at hu
    cases hj : (List.range m)[j]? with
    | none => rw [hj] at hu; cases hu
    | some i =>
      rw [hj] at hu
      have hlt : j < m := by simpa using (List.getElem?_eq_some_iff.1 hj).1
      obtain rfl : j = i := by simpa using (List.getElem?_eq_some_iff.1 hj).2
      simp only [Option.map_some, Option.some.injEq] at hu
      subst hu
      obtain ⟨y, hy⟩ := hcell j hlt
      have e1 : (⟨g, f, none⟩ : Addr).add j = ⟨g, f + j, none⟩ := by unfold Addr.add; split <;> simp_all
      rw [e1, hy]
      rfl
theorem BRow.u8N {w : World} {B g n c : Nat} (h : BRow w B g n c) (f m : Nat) (hf : f + m ≤ n) : U8 (bnews w g f m) := by
  intro u hu
  obtain ⟨j, hj, rfl⟩ := List.mem_map.1 hu
  have := List.mem_range.1 hj
  obtain ⟨y, hy⟩ := h.cell (k := f + j) (by omega)
  exact ⟨y, by rw [hy]; rfl⟩
theorem U8.nil : U8 [] := fun u hu => by cases hu
theorem U8.one (y : UInt8) : U8 [.int .u8 y.toNat] := fun u hu => ⟨y, by simpa using hu⟩
theorem BRow.belowB {w w' : World} {B g n c b : Nat} (h : BRow w b g n c) (hb : Below B w w') (hg : g < B) : BRow w' b g n c := h.block (hb.block g hg) hb.size
theorem BRow.base {w : World} {B B' g n c : Nat} (h : BRow w B g n c) (hB : B' ≤ B) : BRow w B' g n c := ⟨h.1, h.2.1, by have := h.2.2.1; omega, h.2.2.2.1, h.2.2.2.2⟩
theorem keepBR {w w1 w2 : World} {B b g q cq cb : Nat} {A : Option Addr} {n c : Nat} (hb : Below B w1 w2) (hg : g < B) (hcb : cb < B) (hw : w.heap.size ≤ B) (h : BRow w1 b g q cq ∧ Dcur w1 cb A n c ∧ Only cb (cb + 1) w w1) : BRow w2 b g q cq ∧ Dcur w2 cb A n c ∧ Only cb (cb + 1) w w2 :=
  ⟨h.1.belowB hb hg, h.2.1.belowB hb hcb, h.2.2.thenB hb hw⟩
theorem keepBO {w w1 w2 : World} {b g q cq cb : Nat} {A : Option Addr} {n c : Nat} (ho : Only cb (cb + 1) w1 w2) (hd : Dcur w2 cb A n c) (hb : cb + 1 ≤ b) (h : BRow w1 b g q cq ∧ Dcur w1 cb A n c ∧ Only cb (cb + 1) w w1) : BRow w2 b g q cq ∧ Dcur w2 cb A n c ∧ Only cb (cb + 1) w w2 :=
  ⟨h.1.only ho hb, hd, h.2.2.trans ho⟩
/-- An own row of bytes. -/
def OB (w : World) (B g n c : Nat) : Prop := ∃ xs, U8 xs ∧ w.ownsRow B 5 1 (.slice (some ⟨g, 0, none⟩) n c) n xs
def BSrc (w : World) (B : Option Addr) (m : Nat) : Prop := ∃ news, U8 news ∧ Src w B m 1 news
theorem OB.empty {W : World} {B : Nat} (h : B ≤ W.heap.size) : OB (W.alloc (.cells #[] 5)) B W.heap.size 0 0 := ⟨[], U8.nil, own_empty h⟩
theorem OB.below {w w' : World} {B g n c : Nat} (h : OB w B g n c) (hb : Below w.heap.size w w') : OB w' B g n c := by obtain ⟨xs, hx, ho⟩ := h; exact ⟨xs, hx, ownsRow_below ho hb⟩
theorem OB.up {w w' : World} {B lo hi g n c : Nat} (h : OB w B g n c) (ho : Only lo hi w w') (hB : hi ≤ B) : OB w' B g n c := by obtain ⟨xs, hx, hr⟩ := h; exact ⟨xs, hx, ownsRow_upO hr ho hB⟩
theorem OB.row {w : World} {B g n c : Nat} (h : OB w B g n c) : BRow w B g n c := by obtain ⟨xs, hx, ho⟩ := h; exact BRow.of_own ho hx
theorem BRow.bsrc {w : World} {B g n c : Nat} (h : BRow w B g n c) (f m : Nat) (hf : f + m ≤ n) : BSrc w (some ⟨g, f, none⟩) m := ⟨_, h.u8N f m hf, h.srcN f m hf⟩
theorem BSrc.zero {w : World} {B : Option Addr} : BSrc w B 0 := ⟨[], U8.nil, rfl, fun u hu => (by cases hu), Or.inl rfl⟩
theorem BRow.bsrcI {w : World} {B g n c : Nat} (h : BRow w B g n c) (f : Nat) (hf : f ≤ n) : BSrc w (if c = f then some ⟨g, 0, none⟩ else some ⟨g, f, none⟩) (n - f) := by
  split
  · rename_i e
    have := h.1
    rw [show n - f = 0 by omega]
    exact BSrc.zero
  · exact h.bsrc f (n - f) (by omega)
theorem BSrc.one (w : World) (y : UInt8) : BSrc (w.alloc (.cells #[.int .u8 y.toNat] 5)) (some ⟨w.heap.size, 0, none⟩) 1 := ⟨[.int .u8 y.toNat], U8.one y, Src.new w [.int .u8 y.toNat] 5 1 1 rfl (by simp [Value.oneCell'])⟩
theorem step_app8 {ops : Array Oper} {o : Oper} {a : Act} {w : World} {K : Act → World → Prop} {Q : Exit → Act → World → Prop} {E : Prop} (hgd : o.guard = none) (s x : Operand)
    (ho : o.op = .call { callee := .builtin .append, args := #[s, x], argTypes := #[22, 22] }) (base g n c : Nat) (hs : a.eval s = .slice (some ⟨g, 0, none⟩) n c) (hown : OB w base g n c)
    (B : Option Addr) (m d : Nat) (hx : a.eval x = .slice B m d) (hsrc : BSrc w B m) (hlen : n + m ≤ 100000) (hbase : base ≤ w.heap.size)
    (h : ∀ g' c' w', OB w' base g' (n + m) c' → Below base w w' → K (a.put o.dst (.slice (some ⟨g', 0, none⟩) (n + m) c')) w') :
    if Region.wanted o (yielded ops a.tmps) = true then Oper.wp Tryz.prog o a w K Q else E := by
  obtain ⟨i0, hi, hz0, hz1, hz2⟩ := info_parts infoUint8
  obtain ⟨xs, hxs, hr⟩ := hown
  obtain ⟨news, hn, hsr⟩ := hsrc
  refine step_append_any hgd s x 22 ho base 5 i0 (.int .u8 0) 1 1 Tryz.underlying22 hi hz0 hz1 hz2 rfl (by omega) (some ⟨g, 0, none⟩) n c xs hs hr B m d news hx hsr (by unfold maxLen; omega) (by omega) hbase ?_
  intro A' c' w' ho' hg hnil hw
  obtain ⟨g', rfl⟩ : ∃ g', A' = some ⟨g', 0, none⟩ := by rcases hw with e | e <;> exact ⟨_, e⟩
  exact h g' c' w' ⟨_, hxs.append hn, ho'⟩ (grown_below hg hr hbase)
theorem Only.dr {lo hi : Nat} {a b : World} (h : Only lo hi a b) (o : Obj) : Only lo hi a (b.drew.alloc o) := h.drew.alloc o
set_option maxHeartbeats 8000000 in
set_option maxRecDepth 20000 in
theorem l1Bend_any (cb : Nat) (A : Option Addr) (n c : Nat) (s signs : ByteArray) (w : World) (h : Dcur w cb A n c) (hs : s.size ≤ 50000) (hg1 : 0 < signs.size) (hg2 : signs.size ≤ 100) :
    Calls Tryz.prog 20 #[.pointer (some ⟨cb, 0, none⟩), .string s, .string signs] w fun e w' => ∃ z : ByteArray, e = .returned (.string z) ∧ z.size ≤ s.size + 3 ∧ Dcur w' cb A n c ∧ Only cb (cb + 1) w w' := by
  obtain ⟨i0, hi, hz0, hz1, hz2⟩ := info_parts infoUint8
  obtain ⟨c0, o0, hcv, hb0⟩ := BRow.start w s (by omega)
  have hcb := h.lt
  have hd0 : Dcur (w.alloc o0).drew cb A n c := (h.alloc o0).drew
  have ho0 : Only cb (cb + 1) w (w.alloc o0).drew := ((Only.refl cb (cb + 1) w).alloc o0).drew
  have HB0 : Hid (BRow (w.alloc o0).drew w.heap.size w.heap.size s.size c0) := Lib.hid hb0
  clear hb0
  go_enter Tryz.func20, Tryz.ntmps20
  go_wp2_with fail
  generalize (w.alloc o0).drew = W0 at *
  refine (l1Below_any cb A n c 3 W0 hd0 (by omega)).mono ?_
  rintro e w1 ⟨x, rfl, hx0, hx1, _, hd1, ho1⟩
  obtain ⟨v, rfl⟩ : ∃ v : Nat, x = (v : Int) := ⟨x.toNat, by omega⟩
  have hv3 : v < 3 := by have := hx1 (by omega); omega
  have HB1 := Lib.hid (HB0.out.only ho1 (by omega))
  have hO1 := ho0.trans ho1
  clear hx0 hx1 hd0 ho0 HB0 ho1 h hcv
  go_wp2_with fail
  go_loopw [7, 8] (fun u i wr => ∃ (v g q cq : Nat), i = .int .i64 v ∧ u = .slice (some ⟨g, 0, none⟩) q cq ∧ v < 3 ∧ q + v ≤ s.size + 3 ∧ Hid (BRow wr w.heap.size g q cq) ∧ Dcur wr cb A n c ∧ Only cb (cb + 1) w wr) (fun _ i _ => (intOf i).toNat)
  case atStart => exact ⟨v, w.heap.size, s.size, c0, rfl, rfl, hv3, by omega, HB1, hd1, hO1⟩
  case round =>
    obtain ⟨v, g, q, cq, rfl, rfl, hv, hq, HB, hd, ho⟩ := hrel
    clear hd1 hO1 HB1
    obtain ⟨z, hz, hcv⟩ := HB.out.conv
    by_cases hv0 : 0 < v
    · by_cases hq0 : 0 < q
      · obtain ⟨v, rfl⟩ : ∃ v', v = v' + 1 := ⟨v - 1, by omega⟩
        clear hcv
        go_wp2_with fail
        refine (l1BelowQ_any cb A n c q wr hd (by omega) (by omega)).mono ?_
        rintro e w2 ⟨k, rfl, hk, hd2, ho2⟩
        have HB2 := Lib.hid (HB.out.only ho2 (by omega))
        have hO2 := ho.trans ho2
        clear hd ho HB ho2
        go_wp2_with fail
        refine (l1BelowQ_any cb A n c 4 w2 hd2 (by omega) (by omega)).mono ?_
        rintro e w3 ⟨j, rfl, hj, hd3, ho3⟩
        have HB3 := Lib.hid (HB2.out.only ho3 (by omega))
        have hO3 := hO2.trans ho3
        clear hd2 HB2 hO2 ho3
        have hkq : k < q := by omega
        have hk0 : (0 : Int) ≤ k := by omega
        have hqc : q ≤ cq := HB3.out.1
        have hgw : w.heap.size ≤ g := HB3.out.2.2.1
        have hgl : g < w3.heap.size := HB3.out.2.2.2.1
        have hw3 : w.heap.size ≤ w3.heap.size := hO3.size
        have hcm : cq ≤ maxLen := HB3.out.2.1
        unfold maxLen at hcm
        rcases (by omega : j = 0 ∨ j = 1 ∨ j = 2 ∨ j = 3) with rfl | rfl | rfl | rfl
        · go_wp2_with fail
          refine (l1BelowQ_any cb A n c signs.size w3 hd3 (by omega) (by omega)).mono ?_
          rintro e w4 ⟨m, rfl, hm, hd4, ho4⟩
          have HB4 := Lib.hid (HB3.out.only ho4 (by omega))
          have hO4 := hO3.trans ho4
          have hms : m < signs.size := by omega
          obtain ⟨y, hy⟩ := HB4.out.cell hkq
          have hf := HB4.out.frozen hkq
          obtain ⟨z2, hz2, _⟩ := byte_at (s := signs) (k := m) hms
          go_wp2_with fail
          go_roundw
          case rel => exact ⟨v, g, q, cq, by go_num, rfl, by omega, by omega, Lib.hid (HB4.out.set_ k z2), hd4.belowB ((Below.refl w.heap.size _).setCell hgw _) (by omega), hO4.thenB ((Below.refl w.heap.size _).setCell hgw _) (Nat.le_refl _)⟩
          case measure => simp [intOf]
        · go_wp2_with fail
          go_roundw
          case rel => exact ⟨v, g, k, cq, by go_num, rfl, by omega, by omega, Lib.hid (HB3.out.take (by omega)), hd3, hO3⟩
          case measure => simp [intOf]
        · have hBz := HB3.out
          have hqk : (k : Int) + 1 ≤ q := by omega
          have hkc : (k : Int) ≤ cq := by omega
          have hkq2 : (k : Int) ≤ q := by omega
          have hkc2 : (k : Int) + 1 ≤ cq := by omega
          have hk01 : (0 : Int) ≤ (k : Int) + 1 := by omega
          have hwr : IntKind.i64.wrap ((k : Int) + 1) = (k : Int) + 1 := IntWalk.i64_in _ (by omega)
          have htn : ((k : Int) + 1).toNat = k + 1 := by omega
          go_wp2_with fail
          go_region_held3 (fun w' => BRow w' w.heap.size g q cq ∧ Dcur w' cb A n c ∧ Only cb (cb + 1) w w')
            (first | exact ⟨hBz.below (Below.refl _ _).drew, hd3.drew, hO3.drew⟩ | exact keepBR (w1 := w3.drew) ((Below.refl w3.heap.size w3.drew).alloc (Nat.le_refl _) (.cells #[] 5)) hgl (by omega) hw3 ⟨hBz.below (Below.refl _ _).drew, hd3.drew, hO3.drew⟩ | exact keepBR hgb2 hgl (by omega) hw3 (by assumption) | exact keepBR hgb1 hgl (by omega) hw3 (by assumption) | assumption)
            ((first
              | (refine step_app8 rfl _ _ rfl w3.heap.size w3.drew.heap.size 0 0 rfl (OB.empty (W := w3.drew) (Nat.le_refl _)) (some ⟨g, 0, none⟩) k cq rfl (BRow.bsrc (And.left (by assumption)) 0 k (by omega)) (by omega) (by simp) ?_; intro g1 c1 wa hoa hgb1)
              | (refine step_app8 rfl _ _ rfl w3.heap.size g1 (0 + k) c1 rfl hoa _ (q - (k + 1)) (cq - (k + 1)) rfl (BRow.bsrcI (And.left (by assumption)) (k + 1) (by omega)) (by omega) (by have := hgb1.size; simp at this; omega) ?_; intro g2 c2 wb hob hgb2; obtain ⟨r, hr⟩ : ∃ r, 0 + k + (q - (k + 1)) = r := ⟨_, rfl⟩; rw [hr] at hob ⊢; have HR := Lib.hid hr; clear hr)))
          rename_i hS
          have hrq : r ≤ q := by have := HR.out; omega
          have HB9 := Lib.hid (hob.row.base hw3)
          have hd9 := hS.2.1
          have hO9 := hS.2.2
          clear hS hgb1 hgb2 hoa hob hBz
          go_wp2_with fail
          go_roundw
          case rel => exact ⟨v, g2, r, c2, by go_num, rfl, by omega, by omega, HB9, hd9, hO9⟩
          case measure => simp [intOf]
        · have hBz := HB3.out
          have hkc : (k : Int) ≤ cq := by omega
          have hkq2 : (k : Int) ≤ q := by omega
          go_wp2_with fail
          go_region_held3 (fun w' => BRow w' w.heap.size g q cq ∧ Dcur w' cb A n c ∧ Only cb (cb + 1) w w')
            (first | exact ⟨hBz.below (Below.refl _ _).drew, hd3.drew, hO3.drew⟩ | exact keepBR (w1 := w3.drew) ((Below.refl w3.heap.size w3.drew).alloc (Nat.le_refl _) (.cells #[] 5)) hgl (by omega) hw3 ⟨hBz.below (Below.refl _ _).drew, hd3.drew, hO3.drew⟩ | exact keepBR hgb3 hgl (by omega) hw3 (by assumption) | exact keepBR hgb2 hgl (by omega) hw3 (by assumption) | exact keepBR hgb1 hgl (by omega) hw3 (by assumption) | exact keepBO ho5 hd5 (by omega) (by assumption) | exact keepBR ((Below.refl w3.heap.size w5).alloc hs5 _) hgl (by omega) hw3 (by assumption) | assumption)
            ((first
              | (refine step_app8 rfl _ _ rfl w3.heap.size w3.drew.heap.size 0 0 rfl (OB.empty (W := w3.drew) (Nat.le_refl _)) (some ⟨g, 0, none⟩) k cq rfl (BRow.bsrc (And.left (by assumption)) 0 k (by omega)) (by omega) (by simp) ?_; intro g1 c1 wa hoa hgb1)
              | (go_at_call 47; refine (l1BelowQ_any cb A n c signs.size _ (And.left (And.right (by assumption))) (by omega) (by omega)).mono ?_; rintro e w5 ⟨m, rfl, hm, hd5, ho5⟩; have hoa5 := hoa.up ho5 (by omega); rw [Nat.zero_add] at hoa5; have hs5 : w3.heap.size ≤ w5.heap.size := by have h1 := hgb1.size; have h2 := ho5.size; simp at h1; omega)
              | (refine step_app8 rfl _ _ rfl w3.heap.size g1 k c1 rfl (hoa5.below ((Below.refl _ w5).alloc (Nat.le_refl _) _)) _ 1 _ rfl (BSrc.one w5 _) (by omega) (by simp; omega) ?_; intro g2 c2 wb hob hgb2)
              | (refine step_app8 rfl _ _ rfl w3.heap.size g2 (k + 1) c2 rfl hob _ (q - k) (cq - k) rfl (by first | exact BRow.bsrcI (And.left (by assumption)) k (by omega) | exact BRow.bsrc (And.left (by assumption)) k (q - k) (by omega)) (by omega) (by have := hgb2.size; simp at this; omega) ?_; intro g3 c3 wc hoc hgb3; obtain ⟨r, hr⟩ : ∃ r, k + 1 + (q - k) = r := ⟨_, rfl⟩; rw [hr] at hoc ⊢; have HR := Lib.hid hr; clear hr)))
          rename_i hS
          have hrq : r = q + 1 := by have := HR.out; omega
          subst hrq
          have HB9 := Lib.hid (hoc.row.base hw3)
          have hd9 := hS.2.1
          have hO9 := hS.2.2
          clear hS hgb1 hgb2 hgb3 hoa hob hoc hBz hoa5
          go_wp2_with fail
          go_roundw
          case rel => exact ⟨v, g3, q + 1, c3, by go_num, by simp, by omega, by omega, HB9, hd9, hO9⟩
          case measure => simp [intOf]
      · have hq1 : q = 0 := by omega
        subst hq1
        go_wp2_with fail
        go_ret
        exact ⟨z, rfl, by omega, hd, ho⟩
    · have hv1 : v = 0 := by omega
      subst hv1
      go_wp2_with fail
      go_ret
      exact ⟨z, rfl, by omega, hd, ho⟩
end Go.Proofs.YtlcchafcgidpeaaGreatDoor
