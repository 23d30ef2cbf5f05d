/- Contracts: a text bent by draws; the walk. -/
import Derived.Test.YtlcchafcgidpeaaDoorBend
namespace Go.Proofs.YtlcchafcgidpeaaDoor
open Go.RowKit
set_option linter.unusedVariables false
set_option linter.unusedSimpArgs false
theorem infoUint8 : (Tryd.prog.info? 5).map (fun i => (i.zero, i.size, i.bytes)) = some (some (.int .u8 0), 1, 1) := by kernel_rfl
theorem own_empty {W : World} {B : Nat} (h : B ≤ W.heap.size) : (W.alloc (.cells #[] 5)).ownsRow B 5 1 (.slice (some ⟨W.heap.size, 0, none⟩) 0 0) 0 [] :=
  ⟨rfl, Or.inr ⟨W.heap.size, 0, #[], rfl, h, Blk.new W 5 #[], Nat.le_refl _, by unfold maxLen; omega, by simp, by simp⟩⟩
def bnews (w : World) (g f m : Nat) : List Value := (List.range m).map fun j => (w.cell? ⟨g, f + j, none⟩).getD undef
theorem BRow.srcN {w : World} {B g n c : Nat} (h : BRow w B g n c) (f m : Nat) (hf : f + m ≤ n) : Src w (some ⟨g, f, none⟩) m 1 (bnews w g f m) := by
  have hcell : ∀ j, j < m → ∃ y : UInt8, w.cell? ⟨g, f + j, none⟩ = some (.int .u8 y.toNat) := fun j hj => h.cell (by omega)
  refine ⟨by simp [bnews], ?_, .inr ⟨_, rfl, fun j u hu => ?_⟩⟩
  · intro u hu
    obtain ⟨j, hj, rfl⟩ := List.mem_map.1 hu
    obtain ⟨y, hy⟩ := hcell j (List.mem_range.1 hj)
    rw [hy]
    rfl
  · unfold bnews at hu
    rw [List.getElem?_map] at hu
    cases hj : (List.range m)[j]? with
    | none => rw [hj] at hu; cases hu
    | some i =>
      rw [hj] at hu
      have hlt : j < m := by simpa using (List.getElem?_eq_some_iff.1 hj).1
      obtain rfl : j = i := by simpa using (List.getElem?_eq_some_iff.1 hj).2
      simp only [Option.map_some, Option.some.injEq] at hu
      subst hu
      obtain ⟨y, hy⟩ := hcell j hlt
      have e1 : (⟨g, f, none⟩ : Addr).add j = ⟨g, f + j, none⟩ := by unfold Addr.add; split <;> simp_all
      rw [e1, hy]
      rfl
theorem BRow.u8N {w : World} {B g n c : Nat} (h : BRow w B g n c) (f m : Nat) (hf : f + m ≤ n) : U8 (bnews w g f m) := by
  intro u hu
  obtain ⟨j, hj, rfl⟩ := List.mem_map.1 hu
  have := List.mem_range.1 hj
  obtain ⟨y, hy⟩ := h.cell (k := f + j) (by omega)
  exact ⟨y, by rw [hy]; rfl⟩
theorem U8.nil : U8 [] := fun u hu => by cases hu
theorem U8.one (y : UInt8) : U8 [.int .u8 y.toNat] := fun u hu => ⟨y, by simpa using hu⟩
theorem BRow.belowB {w w' : World} {B g n c b : Nat} (h : BRow w b g n c) (hb : Below B w w') (hg : g < B) : BRow w' b g n c := h.block (hb.block g hg) hb.size
theorem BRow.base {w : World} {B B' g n c : Nat} (h : BRow w B g n c) (hB : B' ≤ B) : BRow w B' g n c := ⟨h.1, h.2.1, by have := h.2.2.1; omega, h.2.2.2.1, h.2.2.2.2⟩
theorem keepBR {w w1 w2 : World} {B b g q cq cb : Nat} {A : Option Addr} {n c : Nat} (hb : Below B w1 w2) (hg : g < B) (hcb : cb < B) (hw : w.heap.size ≤ B) (h : BRow w1 b g q cq ∧ Dcur w1 cb A n c ∧ Only cb (cb + 1) w w1) : BRow w2 b g q cq ∧ Dcur w2 cb A n c ∧ Only cb (cb + 1) w w2 :=
  ⟨h.1.belowB hb hg, h.2.1.belowB hb hcb, h.2.2.thenB hb hw⟩
theorem keepBO {w w1 w2 : World} {b g q cq cb : Nat} {A : Option Addr} {n c : Nat} (ho : Only cb (cb + 1) w1 w2) (hd : Dcur w2 cb A n c) (hb : cb + 1 ≤ b) (h : BRow w1 b g q cq ∧ Dcur w1 cb A n c ∧ Only cb (cb + 1) w w1) : BRow w2 b g q cq ∧ Dcur w2 cb A n c ∧ Only cb (cb + 1) w w2 :=
  ⟨h.1.only ho hb, hd, h.2.2.trans ho⟩
/-- An own row of bytes. -/
def OB (w : World) (B g n c : Nat) : Prop := ∃ xs, U8 xs ∧ w.ownsRow B 5 1 (.slice (some ⟨g, 0, none⟩) n c) n xs
def BSrc (w : World) (B : Option Addr) (m : Nat) : Prop := ∃ news, U8 news ∧ Src w B m 1 news
theorem OB.empty {W : World} {B : Nat} (h : B ≤ W.heap.size) : OB (W.alloc (.cells #[] 5)) B W.heap.size 0 0 := ⟨[], U8.nil, own_empty h⟩
theorem OB.below {w w' : World} {B g n c : Nat} (h : OB w B g n c) (hb : Below w.heap.size w w') : OB w' B g n c := by obtain ⟨xs, hx, ho⟩ := h; exact ⟨xs, hx, ownsRow_below ho hb⟩
theorem OB.up {w w' : World} {B lo hi g n c : Nat} (h : OB w B g n c) (ho : Only lo hi w w') (hB : hi ≤ B) : OB w' B g n c := by obtain ⟨xs, hx, hr⟩ := h; exact ⟨xs, hx, ownsRow_upO hr ho hB⟩
theorem OB.row {w : World} {B g n c : Nat} (h : OB w B g n c) : BRow w B g n c := by obtain ⟨xs, hx, ho⟩ := h; exact BRow.of_own ho hx
theorem BRow.bsrc {w : World} {B g n c : Nat} (h : BRow w B g n c) (f m : Nat) (hf : f + m ≤ n) : BSrc w (some ⟨g, f, none⟩) m := ⟨_, h.u8N f m hf, h.srcN f m hf⟩
theorem BSrc.zero {w : World} {B : Option Addr} : BSrc w B 0 := ⟨[], U8.nil, rfl, fun u hu => (by cases hu), Or.inl rfl⟩
theorem BRow.bsrcI {w : World} {B g n c : Nat} (h : BRow w B g n c) (f : Nat) (hf : f ≤ n) : BSrc w (if c = f then some ⟨g, 0, none⟩ else some ⟨g, f, none⟩) (n - f) := by
  split
  · rename_i e
    have := h.1
    rw [show n - f = 0 by omega]
    exact BSrc.zero
  · exact h.bsrc f (n - f) (by omega)
theorem BSrc.one (w : World) (y : UInt8) : BSrc (w.alloc (.cells #[.int .u8 y.toNat] 5)) (some ⟨w.heap.size, 0, none⟩) 1 := ⟨[.int .u8 y.toNat], U8.one y, Src.new w [.int .u8 y.toNat] 5 1 1 rfl (by simp [Value.oneCell'])⟩
theorem step_app8 {ops : Array Oper} {o : Oper} {a : Act} {w : World} {K : Act → World → Prop} {Q : Exit → Act → World → Prop} {E : Prop} (hgd : o.guard = none) (s x : Operand)
    (ho : o.op = .call { callee := .builtin .append, args := #[s, x], argTypes := #[63, 63] }) (base g n c : Nat) (hs : a.eval s = .slice (some ⟨g, 0, none⟩) n c) (hown : OB w base g n c)
    (B : Option Addr) (m d : Nat) (hx : a.eval x = .slice B m d) (hsrc : BSrc w B m) (hlen : n + m ≤ 100000) (hbase : base ≤ w.heap.size)
    (h : ∀ g' c' w', OB w' base g' (n + m) c' → Below base w w' → K (a.put o.dst (.slice (some ⟨g', 0, none⟩) (n + m) c')) w') :
    if Region.wanted o (yielded ops a.tmps) = true then Oper.wp Tryd.prog o a w K Q else E := by
  obtain ⟨i0, hi, hz0, hz1, hz2⟩ := info_parts infoUint8
  obtain ⟨xs, hxs, hr⟩ := hown
  obtain ⟨news, hn, hsr⟩ := hsrc
  refine step_append_any hgd s x 63 ho base 5 i0 (.int .u8 0) 1 1 Tryd.underlying63 hi hz0 hz1 hz2 rfl (by omega) (some ⟨g, 0, none⟩) n c xs hs hr B m d news hx hsr (by unfold maxLen; omega) (by omega) hbase ?_
  intro A' c' w' ho' hg hnil hw
  obtain ⟨g', rfl⟩ : ∃ g', A' = some ⟨g', 0, none⟩ := by rcases hw with e | e <;> exact ⟨_, e⟩
  exact h g' c' w' ⟨_, hxs.append hn, ho'⟩ (grown_below hg hr hbase)
theorem Only.dr {lo hi : Nat} {a b : World} (h : Only lo hi a b) (o : Obj) : Only lo hi a (b.drew.alloc o) := h.drew.alloc o
set_option maxHeartbeats 8000000 in
set_option maxRecDepth 20000 in
theorem l1Bend_any (cb : Nat) (A : Option Addr) (n c : Nat) (s signs : ByteArray) (w : World) (h : Dcur w cb A n c) (hs : s.size ≤ 2000) (hg1 : 0 < signs.size) (hg2 : signs.size ≤ 100) :
    Calls Tryd.prog 78 #[.pointer (some ⟨cb, 0, none⟩), .string s, .string signs] w fun e w' => ∃ z : ByteArray, e = .returned (.string z) ∧ z.size ≤ s.size + 3 ∧ Dcur w' cb A n c ∧ Only cb (cb + 1) w w' := by
  obtain ⟨i0, hi, hz0, hz1, hz2⟩ := info_parts infoUint8
  obtain ⟨c0, o0, hcv, hb0⟩ := BRow.start w s (by omega)
  have hcb := h.lt
  have hd0 : Dcur (w.alloc o0).drew cb A n c := (h.alloc o0).drew
  have ho0 : Only cb (cb + 1) w (w.alloc o0).drew := ((Only.refl cb (cb + 1) w).alloc o0).drew
  have HB0 : Hid (BRow (w.alloc o0).drew w.heap.size w.heap.size s.size c0) := Lib.hid hb0
  clear hb0
  go_enter Tryd.func78, Tryd.ntmps78
  go_wp2_with fail
  generalize (w.alloc o0).drew = W0 at *
  refine (l1Below_any cb A n c 3 W0 hd0 (by omega)).mono ?_
  rintro e w1 ⟨x, rfl, hx0, hx1, _, hd1, ho1⟩
  obtain ⟨v, rfl⟩ : ∃ v : Nat, x = (v : Int) := ⟨x.toNat, by omega⟩
  have hv3 : v < 3 := by have := hx1 (by omega); omega
  have HB1 := Lib.hid (HB0.out.only ho1 (by omega))
  have hO1 := ho0.trans ho1
  clear hx0 hx1 hd0 ho0 HB0 ho1 h hcv
  go_wp2_with fail
  go_loopw [7, 8] (fun u i wr => ∃ (v g q cq : Nat), i = .int .i64 v ∧ u = .slice (some ⟨g, 0, none⟩) q cq ∧ v < 3 ∧ q + v ≤ s.size + 3 ∧ Hid (BRow wr w.heap.size g q cq) ∧ Dcur wr cb A n c ∧ Only cb (cb + 1) w wr) (fun _ i _ => (intOf i).toNat)
  case atStart => exact ⟨v, w.heap.size, s.size, c0, rfl, rfl, hv3, by omega, HB1, hd1, hO1⟩
  case round =>
    obtain ⟨v, g, q, cq, rfl, rfl, hv, hq, HB, hd, ho⟩ := hrel
    clear hd1 hO1 HB1
    obtain ⟨z, hz, hcv⟩ := HB.out.conv
    by_cases hv0 : 0 < v
    · by_cases hq0 : 0 < q
      · obtain ⟨v, rfl⟩ : ∃ v', v = v' + 1 := ⟨v - 1, by omega⟩
        clear hcv
        go_wp2_with fail
        refine (l1BelowQ_any cb A n c q wr hd (by omega) (by omega)).mono ?_
        rintro e w2 ⟨k, rfl, hk, hd2, ho2⟩
        have HB2 := Lib.hid (HB.out.only ho2 (by omega))
        have hO2 := ho.trans ho2
        clear hd ho HB ho2
        go_wp2_with fail
        refine (l1BelowQ_any cb A n c 4 w2 hd2 (by omega) (by omega)).mono ?_
        rintro e w3 ⟨j, rfl, hj, hd3, ho3⟩
        have HB3 := Lib.hid (HB2.out.only ho3 (by omega))
        have hO3 := hO2.trans ho3
        clear hd2 HB2 hO2 ho3
        have hkq : k < q := by omega
        have hk0 : (0 : Int) ≤ k := by omega
        have hqc : q ≤ cq := HB3.out.1
        have hgw : w.heap.size ≤ g := HB3.out.2.2.1
        have hgl : g < w3.heap.size := HB3.out.2.2.2.1
        have hw3 : w.heap.size ≤ w3.heap.size := hO3.size
        have hcm : cq ≤ maxLen := HB3.out.2.1
        unfold maxLen at hcm
        rcases (by omega : j = 0 ∨ j = 1 ∨ j = 2 ∨ j = 3) with rfl | rfl | rfl | rfl
        · go_wp2_with fail
          refine (l1BelowQ_any cb A n c signs.size w3 hd3 (by omega) (by omega)).mono ?_
          rintro e w4 ⟨m, rfl, hm, hd4, ho4⟩
          have HB4 := Lib.hid (HB3.out.only ho4 (by omega))
          have hO4 := hO3.trans ho4
          have hms : m < signs.size := by omega
          obtain ⟨y, hy⟩ := HB4.out.cell hkq
          have hf := HB4.out.frozen hkq
          obtain ⟨z2, hz2, _⟩ := byte_at (s := signs) (k := m) hms
          go_wp2_with fail
          go_roundw
          case rel => exact ⟨v, g, q, cq, by go_num, rfl, by omega, by omega, Lib.hid (HB4.out.set_ k z2), hd4.belowB ((Below.refl w.heap.size _).setCell hgw _) (by omega), hO4.thenB ((Below.refl w.heap.size _).setCell hgw _) (Nat.le_refl _)⟩
          case measure => simp [intOf]
        · go_wp2_with fail
          go_roundw
          case rel => exact ⟨v, g, k, cq, by go_num, rfl, by omega, by omega, Lib.hid (HB3.out.take (by omega)), hd3, hO3⟩
          case measure => simp [intOf]
        · have hBz := HB3.out
          have hqk : (k : Int) + 1 ≤ q := by omega
          have hkc : (k : Int) ≤ cq := by omega
          have hkq2 : (k : Int) ≤ q := by omega
          have hkc2 : (k : Int) + 1 ≤ cq := by omega
          have hk01 : (0 : Int) ≤ (k : Int) + 1 := by omega
          have hwr : IntKind.i64.wrap ((k : Int) + 1) = (k : Int) + 1 := IntWalk.i64_in _ (by omega)
          have htn : ((k : Int) + 1).toNat = k + 1 := by omega
          go_wp2_with fail
          go_region_held3 (fun w' => BRow w' w.heap.size g q cq ∧ Dcur w' cb A n c ∧ Only cb (cb + 1) w w')
            (first | exact ⟨hBz.below (Below.refl _ _).drew, hd3.drew, hO3.drew⟩ | exact keepBR (w1 := w3.drew) ((Below.refl w3.heap.size w3.drew).alloc (Nat.le_refl _) (.cells #[] 5)) hgl (by omega) hw3 ⟨hBz.below (Below.refl _ _).drew, hd3.drew, hO3.drew⟩ | exact keepBR hgb2 hgl (by omega) hw3 (by assumption) | exact keepBR hgb1 hgl (by omega) hw3 (by assumption) | assumption)
            ((first
              | (refine step_app8 rfl _ _ rfl w3.heap.size w3.drew.heap.size 0 0 rfl (OB.empty (W := w3.drew) (Nat.le_refl _)) (some ⟨g, 0, none⟩) k cq rfl (BRow.bsrc (And.left (by assumption)) 0 k (by omega)) (by omega) (by simp) ?_; intro g1 c1 wa hoa hgb1)
              | (refine step_app8 rfl _ _ rfl w3.heap.size g1 (0 + k) c1 rfl hoa _ (q - (k + 1)) (cq - (k + 1)) rfl (BRow.bsrcI (And.left (by assumption)) (k + 1) (by omega)) (by omega) (by have := hgb1.size; simp at this; omega) ?_; intro g2 c2 wb hob hgb2; obtain ⟨r, hr⟩ : ∃ r, 0 + k + (q - (k + 1)) = r := ⟨_, rfl⟩; rw [hr] at hob ⊢; have HR := Lib.hid hr; clear hr)))
          rename_i hS
          have hrq : r ≤ q := by have := HR.out; omega
          have HB9 := Lib.hid (hob.row.base hw3)
          have hd9 := hS.2.1
          have hO9 := hS.2.2
          clear hS hgb1 hgb2 hoa hob hBz
          go_wp2_with fail
          go_roundw
          case rel => exact ⟨v, g2, r, c2, by go_num, rfl, by omega, by omega, HB9, hd9, hO9⟩
          case measure => simp [intOf]
        · have hBz := HB3.out
          have hkc : (k : Int) ≤ cq := by omega
          have hkq2 : (k : Int) ≤ q := by omega
          go_wp2_with fail
          go_region_held3 (fun w' => BRow w' w.heap.size g q cq ∧ Dcur w' cb A n c ∧ Only cb (cb + 1) w w')
            (first | exact ⟨hBz.below (Below.refl _ _).drew, hd3.drew, hO3.drew⟩ | exact keepBR (w1 := w3.drew) ((Below.refl w3.heap.size w3.drew).alloc (Nat.le_refl _) (.cells #[] 5)) hgl (by omega) hw3 ⟨hBz.below (Below.refl _ _).drew, hd3.drew, hO3.drew⟩ | exact keepBR hgb3 hgl (by omega) hw3 (by assumption) | exact keepBR hgb2 hgl (by omega) hw3 (by assumption) | exact keepBR hgb1 hgl (by omega) hw3 (by assumption) | exact keepBO ho5 hd5 (by omega) (by assumption) | exact keepBR ((Below.refl w3.heap.size w5).alloc hs5 _) hgl (by omega) hw3 (by assumption) | assumption)
            ((first
              | (refine step_app8 rfl _ _ rfl w3.heap.size w3.drew.heap.size 0 0 rfl (OB.empty (W := w3.drew) (Nat.le_refl _)) (some ⟨g, 0, none⟩) k cq rfl (BRow.bsrc (And.left (by assumption)) 0 k (by omega)) (by omega) (by simp) ?_; intro g1 c1 wa hoa hgb1)
              | (go_at_call 99; refine (l1BelowQ_any cb A n c signs.size _ (And.left (And.right (by assumption))) (by omega) (by omega)).mono ?_; rintro e w5 ⟨m, rfl, hm, hd5, ho5⟩; have hoa5 := hoa.up ho5 (by omega); rw [Nat.zero_add] at hoa5; have hs5 : w3.heap.size ≤ w5.heap.size := by have h1 := hgb1.size; have h2 := ho5.size; simp at h1; omega)
              | (refine step_app8 rfl _ _ rfl w3.heap.size g1 k c1 rfl (hoa5.below ((Below.refl _ w5).alloc (Nat.le_refl _) _)) _ 1 _ rfl (BSrc.one w5 _) (by omega) (by simp; omega) ?_; intro g2 c2 wb hob hgb2)
              | (refine step_app8 rfl _ _ rfl w3.heap.size g2 (k + 1) c2 rfl hob _ (q - k) (cq - k) rfl (by first | exact BRow.bsrcI (And.left (by assumption)) k (by omega) | exact BRow.bsrc (And.left (by assumption)) k (q - k) (by omega)) (by omega) (by have := hgb2.size; simp at this; omega) ?_; intro g3 c3 wc hoc hgb3; obtain ⟨r, hr⟩ : ∃ r, k + 1 + (q - k) = r := ⟨_, rfl⟩; rw [hr] at hoc ⊢; have HR := Lib.hid hr; clear hr)))
          rename_i hS
          have hrq : r = q + 1 := by have := HR.out; omega
          subst hrq
          have HB9 := Lib.hid (hoc.row.base hw3)
          have hd9 := hS.2.1
          have hO9 := hS.2.2
          clear hS hgb1 hgb2 hgb3 hoa hob hoc hBz hoa5
          go_wp2_with fail
          go_roundw
          case rel => exact ⟨v, g3, q + 1, c3, by go_num, by simp, by omega, by omega, HB9, hd9, hO9⟩
          case measure => simp [intOf]
      · have hq1 : q = 0 := by omega
        subst hq1
        go_wp2_with fail
        go_ret
        exact ⟨z, rfl, by omega, hd, ho⟩
    · have hv1 : v = 0 := by omega
      subst hv1
      go_wp2_with fail
      go_ret
      exact ⟨z, rfl, by omega, hd, ho⟩
end Go.Proofs.YtlcchafcgidpeaaDoor
