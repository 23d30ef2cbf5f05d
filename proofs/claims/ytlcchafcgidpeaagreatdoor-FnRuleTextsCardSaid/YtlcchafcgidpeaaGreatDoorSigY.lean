/- Contracts: a signature out of a text. -/
import Derived.Test.YtlcchafcgidpeaaGreatDoorSigT
import Derived.Test.YtlcchafcgidpeaaGreatDoorDraw
import Derived.Test.YtlcchafcgidpeaaGreatDoorMat
import Derived.Test.YtlcchafcgidpeaaGreatDoorMark
namespace Go.Proofs.YtlcchafcgidpeaaGreatDoor
open Go.RowKit
open Go.Lib (decDigits)
set_option linter.unusedVariables false
set_option linter.unusedSimpArgs false

theorem WO.up {w w' : World} {B lo hi : Nat} {A : Option Addr} {n c : Nat} {W : List (List UInt8)} (h : WO w B A n c W) (ho : Only lo hi w w') (hB : hi ≤ B) : WO w' B A n c W :=
  own_same h fun b hb => ho.block b (h.lt b hb).2 (Or.inr (by have := (h.lt b hb).1; omega))
/-- Words read as numbers, one behind the other. -/
def numsA (acc : List Int) : List (List UInt8) → Option (List Int)
  | [] => some acc
  | a :: r => match Pl.readN a with
    | none => none
    | some n => numsA (acc ++ [n]) r
theorem numsA_W : ∀ (W : List (List UInt8)) (acc : List Int), numsA acc W = (Pl.numsW W).map (acc ++ ·)
  | [], acc => by simp [numsA, Pl.numsW]
  | a :: r, acc => by
    simp only [numsA, Pl.numsW]
    cases Pl.readN a with
    | none => rfl
    | some n =>
      simp only [numsA_W r (acc ++ [n])]
      cases Pl.numsW r with
      | none => rfl
      | some ys => simp
theorem numsA_at {W : List (List UInt8)} {k : Nat} (h : k < W.length) (acc : List Int) : numsA acc (W.drop k) = match Pl.readN (W.getD k []) with
    | none => none
    | some n => numsA (acc ++ [n]) (W.drop (k + 1)) := by
  rw [List.drop_eq_getElem_cons h, List.getD_eq_getElem?_getD, List.getElem?_eq_getElem h, Option.getD_some]
  rfl
theorem numsA_bad {W : List (List UInt8)} {k : Nat} {acc : List Int} (h : k < W.length) (hd : numsA [] W = numsA acc (W.drop k)) (hr : rdB (W.getD k []) = false) : Pl.numsW W = none := by
  have e : Pl.readN (W.getD k []) = none := by
    unfold rdB at hr
    generalize Pl.readN (W.getD k []) = q at *
    cases q <;> simp_all
  rw [numsA_at h, e] at hd
  rw [numsA_W] at hd
  cases hq : Pl.numsW W <;> simp [hq] at hd ⊢
theorem numsA_next {W : List (List UInt8)} {k : Nat} {acc : List Int} (h : k < W.length) (hd : numsA [] W = numsA acc (W.drop k)) (hr : rdB (W.getD k []) = true) : numsA [] W = numsA (acc ++ [rdV (W.getD k [])]) (W.drop (k + 1)) := by
  rw [hd, numsA_at h]
  unfold rdB at hr
  unfold rdV
  generalize Pl.readN (W.getD k []) = q at *
  cases q with
  | none => simp at hr
  | some n => rfl
theorem numsA_end {W : List (List UInt8)} {acc : List Int} (hd : numsA [] W = numsA acc (W.drop W.length)) : Pl.numsW W = some acc := by
  rw [List.drop_length, numsA_W] at hd
  cases hq : Pl.numsW W with
  | none => simp [hq, numsA] at hd
  | some ys => simp [hq, numsA] at hd; rw [hd]
theorem numsW_len : ∀ {W : List (List UInt8)} {xs : List Int}, Pl.numsW W = some xs → xs.length = W.length
  | [], xs, h => by simp [Pl.numsW] at h; subst h; rfl
  | a :: r, xs, h => by
    simp only [Pl.numsW] at h
    split at h
    · cases h
    · simp only [Option.map_eq_some_iff] at h
      obtain ⟨ys, hy, rfl⟩ := h
      simp [numsW_len hy]
theorem rdV_bd {l : List UInt8} : 0 ≤ rdV l ∧ rdV l ≤ 999999999 := by
  by_cases h : l.length < 1 ∨ 9 < l.length ∨ (l.head? = some 48 ∧ 1 < l.length)
  · rw [(rd_no h).1]; omega
  · cases h2 : l.all Pl.isDig with
    | false => rw [(rd_bad h2).1]; omega
    | true =>
      rw [(rd_yes h h2).1]
      exact rdA_bd9 (by omega) (by rw [List.take_length]; exact h2)
def V_nums (W : List (List UInt8)) : List Int × Bool := match Pl.numsW W with
  | some xs => (xs, true)
  | none => ([], false)
theorem V_nums_none {W : List (List UInt8)} (h : Pl.numsW W = none) : V_nums W = ([], false) := by unfold V_nums; rw [h]
theorem V_nums_some {W : List (List UInt8)} {xs : List Int} (h : Pl.numsW W = some xs) : V_nums W = (xs, true) := by unfold V_nums; rw [h]
def V_TextSig (s : ByteArray) : List Int × Bool := if 400 < s.size then ([], false) else match Pl.readS s.data.toList with
  | some xs => (xs, true)
  | none => ([], false)
theorem V_TextSig_long {s : ByteArray} (h : 400 < s.size) : V_TextSig s = ([], false) := by unfold V_TextSig; rw [if_pos h]
theorem V_TextSig_bad {s : ByteArray} (h : Pl.numsW (Pl.words 32 s.data.toList) = none) : V_TextSig s = ([], false) := by
  unfold V_TextSig Pl.readS
  rw [h]
  split <;> rfl
theorem V_TextSig_no {s : ByteArray} {xs : List Int} (h : Pl.numsW (Pl.words 32 s.data.toList) = some xs) (h2 : Pl.sigOk xs = false) : V_TextSig s = ([], false) := by
  unfold V_TextSig Pl.readS
  rw [h]
  simp only [h2]
  split <;> rfl
theorem V_TextSig_yes {s : ByteArray} {xs : List Int} (h0 : ¬ 400 < s.size) (h : Pl.numsW (Pl.words 32 s.data.toList) = some xs) (h2 : Pl.sigOk xs = true) : V_TextSig s = (xs, true) := by
  unfold V_TextSig Pl.readS
  rw [h, if_neg h0]
  simp only [h2, if_true]
theorem bd_TextSig (s : ByteArray) : (V_TextSig s).1.length ≤ 8 := by
  unfold V_TextSig
  split
  · simp
  · cases h : Pl.readS s.data.toList with
    | none => simp
    | some xs => have := (Pl.sigOk_iff.1 (Pl.readS_txt h).1).1; exact this.2
set_option maxHeartbeats 4000000 in
set_option maxRecDepth 20000 in
theorem parseNums_any (A : Option Addr) (n c : Nat) (W : List (List UInt8)) (w : World) (h : WI w A n W) (hn : n ≤ 1000) (hb : ∀ a ∈ W, a.length ≤ 1000) :
    Calls Tryz.prog 59 #[.slice A n c] w fun e w' => ∃ A' c', e = .returned (.tuple #[.slice A' (V_nums W).1.length c', .bool (V_nums W).2]) ∧ OI w' w.heap.size A' (V_nums W).1.length c' (V_nums W).1 ∧ Below w.heap.size w w' := by
  obtain ⟨i0, hi, hz0, hz1, hz2⟩ := info_parts infoInt64
  have hl := h.1
  have HB := Lib.hid hb
  clear hb
  go_enter Tryz.func59, Tryz.ntmps59
  go_wp2_with fail
  go_loopw [4, 11] (fun u i wr => ∃ (k : Nat) (acc : List Int) (A' : Option Addr) (c' : Nat), k ≤ n ∧ i = .int .i64 k ∧ u = .slice A' acc.length c' ∧ acc.length = k ∧ Hid (OI wr w.heap.size A' acc.length c' acc) ∧ Hid (numsA [] W = numsA acc (W.drop k)) ∧ Below w.heap.size w wr) (fun _ i _ => n - (intOf i).toNat)
  case atStart => exact ⟨0, [], none, 0, Nat.zero_le _, rfl, rfl, rfl, Lib.hid (World.ownsRow_nil _ _ _ _), Lib.hid rfl, Below.refl _ _⟩
  case round =>
    obtain ⟨k, acc, A', c', hk, rfl, rfl, rfl, HO, HA, hb⟩ := hrel
    have hsr := hb.size
    by_cases hlt : acc.length < n
    · obtain ⟨g, off, x, rfl, hc, hx⟩ := (h.below hb).at_ hlt
      have hxl : x.length ≤ 1000 := by
        rw [hx.out, List.getD_eq_getElem?_getD, List.getElem?_eq_getElem (by omega), Option.getD_some]
        exact HB.out _ (List.getElem_mem _)
      have hv := rdV_bd (l := x)
      have HR0 := Lib.hid (fun h2 => numsA_bad (k := acc.length) (by omega) HA.out h2)
      have HR1 := Lib.hid (fun h2 => numsA_next (k := acc.length) (by omega) HA.out h2)
      rw [← hx.out] at HR0 HR1
      go_wp2_with fail
      refine (parseNum_any ⟨x.toArray⟩ wr (by simp [ByteArray.size]; omega)).mono ?_
      rintro e w3 ⟨rfl, rfl⟩
      rw [show (⟨x.toArray⟩ : ByteArray).data.toList = x from rfl]
      obtain ⟨v, hv2⟩ : ∃ v, rdV x = v := ⟨_, rfl⟩
      rw [hv2] at hv HR1 ⊢
      clear hv2
      cases hq : rdB x
      · have HE := Lib.hid (V_nums_none (HR0.out hq))
        clear hq HR0 HR1 HA
        go_wp2_with fail
        go_ret2
        rw [HE.out]
        exact ⟨none, 0, rfl, World.ownsRow_nil _ _ _ _, hb⟩
      · have HA2 := Lib.hid (HR1.out hq)
        have howa := Lib.hid (ownsRow_below HO.out ((Below.refl _ w3).alloc (Nat.le_refl _) (.cells #[.int .i64 v] 2)))
        clear hq HR0 HR1 HA
        go_wp2_with (at_builtin; (refine wpList_append_any rfl _ _ 24 rfl w.heap.size 2 i0 (.int .i64 0) 1 8 Tryz.underlying24 hi hz0 hz1 hz2 rfl (by omega) A' acc.length c' (acc.map (Value.int .i64)) rfl howa.out _ 1 _ [.int .i64 v] rfl (Src.new _ [.int .i64 v] _ 1 1 rfl (by simp [Value.oneCell'])) (by unfold maxLen; omega) (by omega) (by simp; omega) ?_; intro A2 c2 w2 ho2 hg hnil))
        have hgb := app_below hg howa.out (by omega)
        have hb3 := hb.trans (hgb.mono (by omega))
        have HO3 : Hid (OI w2 w.heap.size A2 (acc ++ [v]).length c2 (acc ++ [v])) := Lib.hid (OI.snoc ho2)
        clear hgb howa ho2 hg HO hb
        go_wp2_with fail
        go_roundw
        case rel => exact ⟨acc.length + 1, acc ++ [v], A2, c2, by omega, by go_num, by simp, by simp, HO3, HA2, hb3⟩
        case measure => simp [intOf]; omega
    · have hkn : acc.length = n := by omega
      subst hkn
      have HE := Lib.hid (V_nums_some (numsA_end (by rw [hl]; exact HA.out)))
      go_wp2_with fail
      go_ret2
      rw [HE.out]
      exact ⟨A', c', rfl, HO.out, hb⟩
/-- The library's bound on a text holds some number. -/
def ML (w : World) : Prop := ∃ m : Int, w.cell? ⟨1, 0, none⟩ = some (.int .i64 m)
theorem ML.of {w : World} (h : w.ShapedOpen Tryz.prog) : ML w := Tryz.laysM146.s1_3 w h
theorem ML.lt {w : World} (h : ML w) : 1 < w.heap.size := by obtain ⟨m, hm⟩ := h; exact World.block_lt_of_cell? w _ hm
theorem ML.below {w w' : World} (h : ML w) (hb : Below w.heap.size w w') : ML w' := by
  obtain ⟨m, hm⟩ := h
  exact ⟨m, (hb.cell (World.block_lt_of_cell? w _ hm)).trans hm⟩
theorem ML.only {w w' : World} {lo hi : Nat} (h : ML w) (ho : Only lo hi w w') (hd : hi ≤ 1 ∨ 1 < lo) : ML w' := by
  obtain ⟨m, hm⟩ := h
  exact ⟨m, keepO ho (by simp only; omega) hm⟩
/-- The row that strings.Split lays, at blanks. -/
theorem split_wi (s : ByteArray) (w : World) : WI (w.alloc (.cells ((Go.Lib.splitB ⟨#[32]⟩ 0 (Go.Lib.countB s ⟨#[32]⟩) s).map Value.string).toArray 9)) (some ⟨w.heap.size, 0, none⟩) (Go.Lib.countB s ⟨#[32]⟩ + 1) (Pl.words 32 s.data.toList) := by
  have e : (Go.Lib.splitB ⟨#[32]⟩ 0 (Go.Lib.countB s ⟨#[32]⟩) s).map (·.data.toList) = Pl.words 32 s.data.toList := by
    rw [Go.Lib.splitB_data]
    exact Pl.split_eq 32 s.data.toList
  have hl := Go.Lib.splitB_all ⟨#[32]⟩ (Nat.le_refl 1) 0 _ s rfl
  refine ⟨by rw [← e, List.length_map, hl], fun _ => ⟨w.heap.size, 0, rfl, fun k hk => ?_⟩⟩
  rw [Nat.zero_add, (Blk.new w 9 _).cell k, ← e]
  have hk2 : k < (Go.Lib.splitB ⟨#[32]⟩ 0 (Go.Lib.countB s ⟨#[32]⟩) s).length := by rw [hl]; exact hk
  rw [List.getElem?_toArray, List.getElem?_map, List.getElem?_eq_getElem hk2, Option.map_some, List.getD_eq_getElem?_getD, List.getElem?_map, List.getElem?_eq_getElem hk2]
  simp only [Option.map_some, Option.getD_some]
  rw [sv_of]
theorem split_len (s : ByteArray) : Go.Lib.countB s ⟨#[32]⟩ + 1 ≤ s.size + 1 := by
  have h1 := (split_wi s default).1
  have h2 := Pl.words_len 32 s.data.toList
  rw [size_len] at h2
  omega
set_option maxHeartbeats 1000000 in
set_option maxRecDepth 20000 in
theorem parseSig_any (s : ByteArray) (w : World) (hs : ¬ 400 < s.size) (hM : ML w) :
    Calls Tryz.prog 29 #[.string s] w fun e w' => ∃ A' c', e = .returned (.tuple #[.agg #[.slice A' (V_TextSig s).1.length c'], .bool (V_TextSig s).2]) ∧ OI w' (w.heap.size + 1) A' (V_TextSig s).1.length c' (V_TextSig s).1 ∧ Below w.heap.size w w' := by
  have br := Blk.new w 26 #[.slice none 0 0]
  have hB0 : Below w.heap.size w (w.alloc (.cells #[.slice none 0 0] 26)) := (Below.refl _ _).alloc (Nat.le_refl _) _
  have hM0 := hM.below hB0
  have hsz : (w.alloc (.cells #[.slice none 0 0] 26)).heap.size = w.heap.size + 1 := by simp
  go_enter Tryz.func29, Tryz.ntmps29
  go_wp2_with fail
  generalize w.alloc (.cells #[.slice none 0 0] 26) = W0 at *
  obtain ⟨m, hm⟩ := hM0
  refine (Tryz.strings_Split s ⟨#[32]⟩ m W0 (by omega) hm (Nat.le_refl 1)).mono ?_
  rintro e w1 ⟨rfl, rfl⟩
  have hWI := split_wi s W0
  have hlen := split_len s
  have hb1 : Below W0.heap.size W0 (W0.alloc (.cells ((Go.Lib.splitB ⟨#[32]⟩ 0 (Go.Lib.countB s ⟨#[32]⟩) s).map Value.string).toArray 9)) := (Below.refl _ _).alloc (Nat.le_refl _) _
  have hsz1 : (W0.alloc (.cells ((Go.Lib.splitB ⟨#[32]⟩ 0 (Go.Lib.countB s ⟨#[32]⟩) s).map Value.string).toArray 9)).heap.size = W0.heap.size + 1 := by simp
  generalize W0.alloc (.cells ((Go.Lib.splitB ⟨#[32]⟩ 0 (Go.Lib.countB s ⟨#[32]⟩) s).map Value.string).toArray 9) = W1 at *
  generalize Go.Lib.countB s ⟨#[32]⟩ = N at *
  clear hm
  rw [hsz] at hWI
  have HWI := Lib.hid hWI
  clear hWI
  go_wp2_with fail
  refine (parseNums_any (some ⟨w.heap.size + 1, 0, none⟩) (N + 1) (N + 1) (Pl.words 32 s.data.toList) W1 HWI.out (by omega) (fun a ha => by have := Pl.words_each 32 s.data.toList a ha; rw [size_len] at this; omega)).mono ?_
  rintro e w2 ⟨A', c', rfl, hO, hb2⟩
  have br2 := (br.below hb1).below hb2
  have hB2 := (hB0.trans (hb1.mono (by omega))).trans (hb2.mono (by omega))
  have hs2 := hb2.size
  have HNB := Lib.hid (fun h => V_TextSig_bad (s := s) h)
  have HNN := Lib.hid (fun xs h h2 => V_TextSig_no (s := s) (xs := xs) h h2)
  have HNY := Lib.hid (fun xs h h2 => V_TextSig_yes (s := s) (xs := xs) hs h h2)
  have KR : ∀ i, w2.cell? ⟨w.heap.size, i, none⟩ = #[Value.slice none 0 0][i]? := fun i => br2.cell i
  have FR : ∀ i, w2.frozen? ⟨w.heap.size, i, none⟩ = false := fun i => br2.frozen i
  clear br hB0 hb1 hb2 HWI
  cases hq : Pl.numsW (Pl.words 32 s.data.toList) with
  | none =>
    rw [V_nums_none hq] at hO ⊢
    have HE := Lib.hid (HNB.out hq)
    clear hO hq HNB HNN HNY
    go_wp2_with fail
    rw [HE.out]
    have ho5 : Only w.heap.size (w.heap.size + 1) w2 (w2.setCell ⟨w.heap.size, 0, none⟩ (.slice none 0 0)) := (Only.refl _ _ _).setCell (by simp) _
    exact bodyPost_ret (v := .tuple #[.agg #[.slice none 0 0], .bool false]) (by simp [results, Tryz.results29, go_sem, KR]) rfl ⟨none, 0, rfl, World.ownsRow_nil _ _ _ _, hB2.trans (ho5.below (Nat.le_refl _) (by omega))⟩
  | some xs =>
    rw [V_nums_some hq] at hO ⊢
    have HO := Lib.hid hO
    have HN2 := Lib.hid (fun h2 => HNN.out xs hq h2)
    have HY2 := Lib.hid (fun h2 => HNY.out xs hq h2)
    have hxl : xs.length ≤ 1000 := by
      have h1 := numsW_len hq
      have h2 := Pl.words_len 32 s.data.toList
      rw [size_len] at h2
      omega
    clear hO hq HNB HNN HNY
    go_wp2_with fail
    refine (implSigOk_any A' xs.length c' xs w2 HO.out.ri (by omega)).mono ?_
    rintro e w3 ⟨rfl, hb3⟩
    have HO3 := Lib.hid (HO.out.below hb3)
    have br3 := br2.below hb3
    have hB3 := hB2.trans (hb3.mono hB2.size)
    have hs3 := hb3.size
    have KR3 : ∀ i, w3.cell? ⟨w.heap.size, i, none⟩ = #[Value.slice none 0 0][i]? := fun i => br3.cell i
    have FR3 : ∀ i, w3.frozen? ⟨w.heap.size, i, none⟩ = false := fun i => br3.frozen i
    clear hb3 HO KR FR br2 hB2
    cases hok : Pl.sigOk xs
    · have HE := Lib.hid (HN2.out hok)
      clear hok HN2 HY2
      go_wp2_with fail
      rw [HE.out]
      have ho5 : Only w.heap.size (w.heap.size + 1) w3 (w3.setCell ⟨w.heap.size, 0, none⟩ (.slice none 0 0)) := (Only.refl _ _ _).setCell (by simp) _
      exact bodyPost_ret (v := .tuple #[.agg #[.slice none 0 0], .bool false]) (by simp [results, Tryz.results29, go_sem, KR3]) rfl ⟨none, 0, rfl, World.ownsRow_nil _ _ _ _, hB3.trans (ho5.below (Nat.le_refl _) (by omega))⟩
    · have HE := Lib.hid (HY2.out hok)
      clear hok HN2 HY2
      go_wp2_with fail
      rw [HE.out]
      have ho5 : Only w.heap.size (w.heap.size + 1) w3 (w3.setCell ⟨w.heap.size, 0, none⟩ (.slice A' xs.length c')) := (Only.refl _ _ _).setCell (by simp) _
      exact bodyPost_ret (v := .tuple #[.agg #[.slice A' xs.length c'], .bool true]) (by simp [results, Tryz.results29, go_sem, KR3]) rfl ⟨A', c', rfl, (HO3.out.base (by omega)).up ho5 (Nat.le_refl _), hB3.trans (ho5.below (Nat.le_refl _) (by omega))⟩
end Go.Proofs.YtlcchafcgidpeaaGreatDoor
/-! Contracts: a signature out of a text; both sides. -/

namespace Go.Proofs.YtlcchafcgidpeaaGreatDoor
open Go.RowKit
open Go.Lib (decDigits)
set_option linter.unusedVariables false
set_option linter.unusedSimpArgs false

set_option maxHeartbeats 1000000 in
set_option maxRecDepth 20000 in
theorem I_TextSig (s : ByteArray) (w : World) (hs : s.size ≤ 1048576) (hM : ML w) :
    Calls Tryz.prog 10 #[.string s] w fun e w' => ∃ A' c', e = .returned (.tuple #[.agg #[.slice A' (V_TextSig s).1.length c'], .bool (V_TextSig s).2]) ∧ OI w' w.heap.size A' (V_TextSig s).1.length c' (V_TextSig s).1 ∧ Below w.heap.size w w' := by
  have br := Blk.new w 26 #[.slice none 0 0]
  have hB0 : Below w.heap.size w (w.alloc (.cells #[.slice none 0 0] 26)) := (Below.refl _ _).alloc (Nat.le_refl _) _
  have hM0 := hM.below hB0
  have hsz : (w.alloc (.cells #[.slice none 0 0] 26)).heap.size = w.heap.size + 1 := by simp
  by_cases h4 : 400 < s.size
  · have HE := Lib.hid (V_TextSig_long h4)
    go_enter Tryz.func10, Tryz.ntmps10
    go_wp2_with fail
    rw [HE.out]
    exact bodyPost_ret (v := .tuple #[.agg #[.slice none 0 0], .bool false]) (by simp [results, Tryz.results10, go_sem]) rfl ⟨none, 0, rfl, World.ownsRow_nil _ _ _ _, hB0⟩
  · go_enter Tryz.func10, Tryz.ntmps10
    go_wp2_with fail
    generalize w.alloc (.cells #[.slice none 0 0] 26) = W0 at *
    obtain ⟨xs, b, hV⟩ : ∃ xs b, V_TextSig s = (xs, b) := ⟨_, _, rfl⟩
    have hc := parseSig_any s W0 h4 hM0
    rw [hV] at hc
    have HV := Lib.hid hV
    clear hV
    refine hc.mono ?_
    clear hc
    dsimp only
    rintro e w1 ⟨A', c', rfl, hO, hb1⟩
    have br1 := br.below hb1
    have hs1 := hb1.size
    have HO := Lib.hid (hO.base (B' := w.heap.size + 1) (by omega))
    have hB1 := hB0.trans (hb1.mono (by omega))
    have KR : ∀ i, w1.cell? ⟨w.heap.size, i, none⟩ = #[Value.slice none 0 0][i]? := fun i => br1.cell i
    have FR : ∀ i, w1.frozen? ⟨w.heap.size, i, none⟩ = false := fun i => br1.frozen i
    clear hO hb1 br hB0 hM0 hM
    go_wp2_with fail
    have ho5 : Only w.heap.size (w.heap.size + 1) w1 (w1.setCell ⟨w.heap.size, 0, none⟩ (.slice A' xs.length c')) := (Only.refl _ _ _).setCell (by simp) _
    rw [HV.out]
    exact bodyPost_ret (v := .tuple #[.agg #[.slice A' xs.length c'], .bool b]) (by simp [results, Tryz.results10, go_sem, KR]) rfl ⟨A', c', rfl, (HO.out.up ho5 (Nat.le_refl _)).base (B' := w.heap.size) (by omega), hB1.trans (ho5.below (Nat.le_refl _) (by omega))⟩
set_option maxHeartbeats 2000000 in
set_option maxRecDepth 20000 in
theorem S_TextSig (s : ByteArray) (w : World) (hs : s.size ≤ 1048576) :
    Calls Tryz.prog 11 #[.string s] w fun e w' => ∃ A' c', e = .returned (.tuple #[.agg #[.slice A' (V_TextSig s).1.length c'], .bool (V_TextSig s).2]) ∧ OI w' w.heap.size A' (V_TextSig s).1.length c' (V_TextSig s).1 ∧ Below w.heap.size w w' := by
  by_cases h4 : 400 < s.size
  · have hB0 : Below w.heap.size w (w.alloc (.cells #[.slice none 0 0] 26)) := (Below.refl _ _).alloc (Nat.le_refl _) _
    have HE := Lib.hid (V_TextSig_long h4)
    go_enter Tryz.func11, Tryz.ntmps11
    go_wp2_with fail
    rw [HE.out]
    exact bodyPost_ret (v := .tuple #[.agg #[.slice none 0 0], .bool false]) (by simp [results, Tryz.results11, go_sem]) rfl ⟨none, 0, rfl, World.ownsRow_nil _ _ _ _, hB0⟩
  obtain ⟨i0, hi, hz0, hz1, hz2⟩ := info_parts infoInt64
  have br0 := (Blk.new w 26 #[.slice none 0 0]).alloc (.cells #[.slice none 0 0] 26)
  have bo0 : Blk ((w.alloc (.cells #[.slice none 0 0] 26)).alloc (.cells #[.slice none 0 0] 26)) (w.heap.size + 1) 26 #[.slice none 0 0] := by
    have := Blk.new (w.alloc (.cells #[.slice none 0 0] 26)) 26 #[.slice none 0 0]
    simpa only [World.size_alloc] using this
  have hB0 : Below w.heap.size w ((w.alloc (.cells #[.slice none 0 0] 26)).alloc (.cells #[.slice none 0 0] 26)) := ((Below.refl _ _).alloc (Nat.le_refl _) _).alloc (by simp) _
  have hsz : ((w.alloc (.cells #[.slice none 0 0] 26)).alloc (.cells #[.slice none 0 0] 26)).heap.size = w.heap.size + 1 + 1 := by simp
  have HNB := Lib.hid (fun h => V_TextSig_bad (s := s) h)
  have HNN := Lib.hid (fun xs h h2 => V_TextSig_no (s := s) (xs := xs) h h2)
  have HNY := Lib.hid (fun xs h h2 => V_TextSig_yes (s := s) (xs := xs) h4 h h2)
  go_enter Tryz.func11, Tryz.ntmps11
  go_wp2_with fail
  generalize (w.alloc (.cells #[.slice none 0 0] 26)).alloc (.cells #[.slice none 0 0] 26) = W0 at *
  refine (l1Split_any s 32 W0 (by omega)).mono ?_
  rintro e w1 ⟨Aw, cw, rfl, hW, hb1⟩
  have hwl := Pl.words_len 32 s.data.toList
  have hwe := fun a ha => Pl.words_each 32 s.data.toList a ha
  rw [size_len] at hwl hwe
  have HWE := Lib.hid hwe
  clear hwe
  have br1 := br0.below hb1
  have bo1 := bo0.below hb1
  have hB1 := hB0.trans (hb1.mono (by omega))
  have hs1 := hb1.size
  have HW := Lib.hid (hW.base (B' := w.heap.size + 1 + 1) (by omega))
  clear br0 bo0 hB0 hb1 hW
  generalize Pl.words 32 s.data.toList = W at *
  go_wp2_with fail
  go_loopw [6] (fun i wr => ∃ (k : Nat) (acc : List Int) (A' : Option Addr) (c' : Nat), k ≤ W.length ∧ i = .int .i64 k ∧ acc.length = k ∧ Hid (OI wr w1.heap.size A' acc.length c' acc) ∧ Hid (numsA [] W = numsA acc (W.drop k)) ∧ Blk wr w.heap.size 26 #[.slice none 0 0] ∧ Blk wr (w.heap.size + 1) 26 #[.slice A' acc.length c'] ∧ Only (w.heap.size + 1) (w.heap.size + 1 + 1) w1 wr) (fun i _ => W.length - (intOf i).toNat)
  case atStart => exact ⟨0, [], none, 0, Nat.zero_le _, rfl, rfl, Lib.hid (World.ownsRow_nil _ _ _ _), Lib.hid rfl, br1, bo1, Only.refl _ _ _⟩
  case round =>
    clear br1 bo1
    obtain ⟨k, acc, A', c', hk, rfl, rfl, HO, HA, br, bo, ho⟩ := hrel
    have hsr := ho.size
    have hWr := (HW.out.up ho (Nat.le_refl _)).wi
    have KO : ∀ i, wr.cell? ⟨w.heap.size + 1, i, none⟩ = #[Value.slice A' acc.length c'][i]? := fun i => bo.cell i
    have FO : ∀ i, wr.frozen? ⟨w.heap.size + 1, i, none⟩ = false := fun i => bo.frozen i
    have KR : ∀ i, wr.cell? ⟨w.heap.size, i, none⟩ = #[Value.slice none 0 0][i]? := fun i => br.cell i
    have FR : ∀ i, wr.frozen? ⟨w.heap.size, i, none⟩ = false := fun i => br.frozen i
    by_cases hlt : acc.length < W.length
    · obtain ⟨g, off, x, hAe, hc, hx⟩ := hWr.at_ hlt
      subst hAe
      have hxl : x.length ≤ 1000 := by
        rw [hx.out, List.getD_eq_getElem?_getD, List.getElem?_eq_getElem hlt, Option.getD_some]
        have := HWE.out _ (List.getElem_mem hlt)
        omega
      have hv := rdV_bd (l := x)
      have HR0 := Lib.hid (fun h2 => numsA_bad (k := acc.length) hlt HA.out h2)
      have HR1 := Lib.hid (fun h2 => numsA_next (k := acc.length) hlt HA.out h2)
      rw [← hx.out] at HR0 HR1
      clear hWr
      go_wp2_with fail
      refine (l1Read_any ⟨x.toArray⟩ wr (by simp [ByteArray.size]; omega)).mono ?_
      rintro e w3 ⟨rfl, rfl⟩
      rw [show (⟨x.toArray⟩ : ByteArray).data.toList = x from rfl]
      obtain ⟨v, hv2⟩ : ∃ v, rdV x = v := ⟨_, rfl⟩
      rw [hv2] at hv HR1 ⊢
      clear hv2
      cases hq : rdB x
      · have HE := Lib.hid (HNB.out (HR0.out hq))
        have hBr := hB1.trans (ho.below (by omega) (by omega))
        clear hq HR0 HR1 HA HNB HNN HNY
        go_wp2_with fail
        rw [HE.out]
        have ho5 : Only w.heap.size (w.heap.size + 1) w3 (w3.setCell ⟨w.heap.size, 0, none⟩ (.slice none 0 0)) := (Only.refl _ _ _).setCell (by simp) _
        exact bodyPost_ret (v := .tuple #[.agg #[.slice none 0 0], .bool false]) (by simp [results, Tryz.results11, go_sem, KR]) rfl ⟨none, 0, rfl, World.ownsRow_nil _ _ _ _, hBr.trans (ho5.below (Nat.le_refl _) (by omega))⟩
      · have HA2 := Lib.hid (HR1.out hq)
        have howa := Lib.hid (ownsRow_below HO.out ((Below.refl _ w3).alloc (Nat.le_refl _) (.cells #[.int .i64 v] 2)))
        clear hq HR0 HR1 HA
        go_wp2_with (at_builtin; (refine wpList_append_any rfl _ _ 24 rfl w1.heap.size 2 i0 (.int .i64 0) 1 8 Tryz.underlying24 hi hz0 hz1 hz2 rfl (by omega) A' acc.length c' (acc.map (Value.int .i64)) rfl howa.out _ 1 _ [.int .i64 v] rfl (Src.new _ [.int .i64 v] _ 1 1 rfl (by simp [Value.oneCell'])) (by unfold maxLen; omega) (by omega) (by simp; omega) ?_; intro A2 c2 w2 ho2 hg hnil; have hgb := app_below hg howa.out (by omega); have bo2 := bo.belowB hgb (by omega); have KO2 : ∀ i, w2.cell? ⟨w.heap.size + 1, i, none⟩ = #[Value.slice A' acc.length c'][i]? := fun i => bo2.cell i; have FO2 : ∀ i, w2.frozen? ⟨w.heap.size + 1, i, none⟩ = false := fun i => bo2.frozen i))
        have hO3 : OI w2 w1.heap.size A2 (acc ++ [v]).length c2 (acc ++ [v]) := OI.snoc ho2
        have hos : Only (w.heap.size + 1) (w.heap.size + 1 + 1) w2 (w2.setCell ⟨w.heap.size + 1, 0, none⟩ (.slice A2 (acc.length + 1) c2)) := (Only.refl _ _ _).setCell (by simp) _
        have HO4 := Lib.hid (hO3.up hos (by omega))
        have ho4 := (ho.thenB hgb (Nat.le_refl _)).trans hos
        have br4 := (br.belowB hgb (by omega)).only hos (Or.inl (by omega))
        have bo4 : Blk (w2.setCell ⟨w.heap.size + 1, 0, none⟩ (.slice A2 (acc.length + 1) c2)) (w.heap.size + 1) 26 #[.slice A2 (acc ++ [v]).length c2] := by
          rw [List.length_append]
          exact bo2.set_ 0 _
        clear hgb howa ho2 hg HO hO3 hos bo2 KO2 FO2
        go_wp2_with fail
        go_roundw
        case rel => exact ⟨acc.length + 1, acc ++ [v], A2, c2, by omega, by go_num, by simp, HO4, HA2, br4, bo4, ho4⟩
        case measure => simp [intOf]; omega
    · have hkn : acc.length = W.length := by omega
      have HE := Lib.hid (numsA_end (W := W) (acc := acc) (by rw [← hkn]; exact HA.out))
      have HN2 := Lib.hid (fun h2 => HNN.out acc HE.out h2)
      have HY2 := Lib.hid (fun h2 => HNY.out acc HE.out h2)
      have hBr := hB1.trans (ho.below (by omega) (by omega))
      have hal : acc.length ≤ 1000 := by omega
      clear HE HA HNB HNN HNY hWr hkn
      go_wp2_with fail
      refine (specSigOk_any A' acc.length c' acc wr HO.out.ri (by omega)).mono ?_
      rintro e w3 ⟨rfl, hb3⟩
      have hs3 := hb3.size
      have HO3 := Lib.hid ((HO.out.below hb3).base (B' := w.heap.size + 1) (by omega))
      have br3 := br.below hb3
      have bo3 := bo.below hb3
      have hB3 := hBr.trans (hb3.mono hBr.size)
      have KO3 : ∀ i, w3.cell? ⟨w.heap.size + 1, i, none⟩ = #[Value.slice A' acc.length c'][i]? := fun i => bo3.cell i
      have KR3 : ∀ i, w3.cell? ⟨w.heap.size, i, none⟩ = #[Value.slice none 0 0][i]? := fun i => br3.cell i
      have FR3 : ∀ i, w3.frozen? ⟨w.heap.size, i, none⟩ = false := fun i => br3.frozen i
      clear hb3 HO KO FO KR FR br bo hBr
      cases hok : Pl.sigOk acc
      · have HE := Lib.hid (HN2.out hok)
        clear hok HN2 HY2
        go_wp2_with fail
        rw [HE.out]
        have ho5 : Only w.heap.size (w.heap.size + 1) w3 (w3.setCell ⟨w.heap.size, 0, none⟩ (.slice none 0 0)) := (Only.refl _ _ _).setCell (by simp) _
        exact bodyPost_ret (v := .tuple #[.agg #[.slice none 0 0], .bool false]) (by simp [results, Tryz.results11, go_sem, KR3]) rfl ⟨none, 0, rfl, World.ownsRow_nil _ _ _ _, hB3.trans (ho5.below (Nat.le_refl _) (by omega))⟩
      · have HE := Lib.hid (HY2.out hok)
        clear hok HN2 HY2
        go_wp2_with fail
        rw [HE.out]
        have ho5 : Only w.heap.size (w.heap.size + 1) w3 (w3.setCell ⟨w.heap.size, 0, none⟩ (.slice A' acc.length c')) := (Only.refl _ _ _).setCell (by simp) _
        exact bodyPost_ret (v := .tuple #[.agg #[.slice A' acc.length c'], .bool true]) (by simp [results, Tryz.results11, go_sem, KR3]) rfl ⟨A', c', rfl, (HO3.out.up ho5 (Nat.le_refl _)).base (B' := w.heap.size) (by omega), hB3.trans (ho5.below (Nat.le_refl _) (by omega))⟩
end Go.Proofs.YtlcchafcgidpeaaGreatDoor
