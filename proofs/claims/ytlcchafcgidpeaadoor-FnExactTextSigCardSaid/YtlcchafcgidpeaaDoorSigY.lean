/- Contracts: a signature out of a text; both sides. -/
import Derived.Test.YtlcchafcgidpeaaDoorSigX
namespace Go.Proofs.YtlcchafcgidpeaaDoor
open Go.RowKit
open Go.Lib (decDigits)
set_option linter.unusedVariables false
set_option linter.unusedSimpArgs false

set_option maxHeartbeats 400000 in
theorem heldSig_any (A : Option Addr) (n c : Nat) (k : Int) (w : World) (h : RI w A n (marks k n)) (h0 : 0 ≤ k) (h1 : k + n ≤ 9223372036854775806) :
    Calls Tryd.prog 22 #[.agg #[.slice A n c], .int .i64 k] w fun e w' => e = .returned (.int .i64 (k + n)) ∧ Below w.heap.size w w' := by
  have hneg : ¬ (k + n < 0) := by omega
  go_enter Tryd.func22, Tryd.ntmps22
  go_wp2_with fail
  refine (heldInt64S_any A n c k _ (h.alloc _) h0 h1).mono ?_
  rintro e w1 ⟨rfl, hb⟩
  go_wp2_with fail
  go_ret
  exact ⟨rfl, below_then ((Below.refl _ _).alloc (Nat.le_refl _) _) hb (by simp)⟩
set_option maxHeartbeats 1000000 in
set_option maxRecDepth 20000 in
theorem I_TextSig (s : ByteArray) (w : World) (hs : s.size ≤ 1048576) (hM : ML w) :
    Calls Tryd.prog 21 #[.string s] w fun e w' => ∃ A' c', e = .returned (.tuple #[.agg #[.slice A' (V_TextSig s).1.length c'], .bool (V_TextSig s).2]) ∧ OI w' w.heap.size A' (V_TextSig s).1.length c' (V_TextSig s).1 ∧ Below w.heap.size w w' := by
  have br := Blk.new w 30 #[.slice none 0 0]
  have hB0 : Below w.heap.size w (w.alloc (.cells #[.slice none 0 0] 30)) := (Below.refl _ _).alloc (Nat.le_refl _) _
  have hM0 := hM.below hB0
  have hsz : (w.alloc (.cells #[.slice none 0 0] 30)).heap.size = w.heap.size + 1 := by simp
  by_cases h4 : 400 < s.size
  · have HE := Lib.hid (V_TextSig_long h4)
    go_enter Tryd.func21, Tryd.ntmps21
    go_wp2_with fail
    rw [HE.out]
    exact bodyPost_ret (v := .tuple #[.agg #[.slice none 0 0], .bool false]) (by simp [results, Tryd.results21, go_sem]) rfl ⟨none, 0, rfl, World.ownsRow_nil _ _ _ _, hB0⟩
  · go_enter Tryd.func21, Tryd.ntmps21
    go_wp2_with fail
    generalize w.alloc (.cells #[.slice none 0 0] 30) = W0 at *
    obtain ⟨xs, b, hV⟩ : ∃ xs b, V_TextSig s = (xs, b) := ⟨_, _, rfl⟩
    have hc := parseSig_any s W0 h4 hM0
    rw [hV] at hc
    have HV := Lib.hid hV
    clear hV
    refine hc.mono ?_
    clear hc
    dsimp only
    rintro e w1 ⟨A', c', rfl, hO, hb1⟩
    have br1 := br.below hb1
    have hs1 := hb1.size
    have HO := Lib.hid (hO.base (B' := w.heap.size + 1) (by omega))
    have hB1 := hB0.trans (hb1.mono (by omega))
    have KR : ∀ i, w1.cell? ⟨w.heap.size, i, none⟩ = #[Value.slice none 0 0][i]? := fun i => br1.cell i
    have FR : ∀ i, w1.frozen? ⟨w.heap.size, i, none⟩ = false := fun i => br1.frozen i
    clear hO hb1 br hB0 hM0 hM
    go_wp2_with fail
    have ho5 : Only w.heap.size (w.heap.size + 1) w1 (w1.setCell ⟨w.heap.size, 0, none⟩ (.slice A' xs.length c')) := (Only.refl _ _ _).setCell (by simp) _
    rw [HV.out]
    exact bodyPost_ret (v := .tuple #[.agg #[.slice A' xs.length c'], .bool b]) (by simp [results, Tryd.results21, go_sem, KR]) rfl ⟨A', c', rfl, (HO.out.up ho5 (Nat.le_refl _)).base (B' := w.heap.size) (by omega), hB1.trans (ho5.below (Nat.le_refl _) (by omega))⟩
set_option maxHeartbeats 2000000 in
set_option maxRecDepth 20000 in
theorem S_TextSig (s : ByteArray) (w : World) (hs : s.size ≤ 1048576) :
    Calls Tryd.prog 20 #[.string s] w fun e w' => ∃ A' c', e = .returned (.tuple #[.agg #[.slice A' (V_TextSig s).1.length c'], .bool (V_TextSig s).2]) ∧ OI w' w.heap.size A' (V_TextSig s).1.length c' (V_TextSig s).1 ∧ Below w.heap.size w w' := by
  by_cases h4 : 400 < s.size
  · have hB0 : Below w.heap.size w (w.alloc (.cells #[.slice none 0 0] 30)) := (Below.refl _ _).alloc (Nat.le_refl _) _
    have HE := Lib.hid (V_TextSig_long h4)
    go_enter Tryd.func20, Tryd.ntmps20
    go_wp2_with fail
    rw [HE.out]
    exact bodyPost_ret (v := .tuple #[.agg #[.slice none 0 0], .bool false]) (by simp [results, Tryd.results20, go_sem]) rfl ⟨none, 0, rfl, World.ownsRow_nil _ _ _ _, hB0⟩
  obtain ⟨i0, hi, hz0, hz1, hz2⟩ := info_parts infoInt64
  have br0 := (Blk.new w 30 #[.slice none 0 0]).alloc (.cells #[.slice none 0 0] 30)
  have bo0 : Blk ((w.alloc (.cells #[.slice none 0 0] 30)).alloc (.cells #[.slice none 0 0] 30)) (w.heap.size + 1) 30 #[.slice none 0 0] := by
    have := Blk.new (w.alloc (.cells #[.slice none 0 0] 30)) 30 #[.slice none 0 0]
    simpa only [World.size_alloc] using this
  have hB0 : Below w.heap.size w ((w.alloc (.cells #[.slice none 0 0] 30)).alloc (.cells #[.slice none 0 0] 30)) := ((Below.refl _ _).alloc (Nat.le_refl _) _).alloc (by simp) _
  have hsz : ((w.alloc (.cells #[.slice none 0 0] 30)).alloc (.cells #[.slice none 0 0] 30)).heap.size = w.heap.size + 1 + 1 := by simp
  have HNB := Lib.hid (fun h => V_TextSig_bad (s := s) h)
  have HNN := Lib.hid (fun xs h h2 => V_TextSig_no (s := s) (xs := xs) h h2)
  have HNY := Lib.hid (fun xs h h2 => V_TextSig_yes (s := s) (xs := xs) h4 h h2)
  go_enter Tryd.func20, Tryd.ntmps20
  go_wp2_with fail
  generalize (w.alloc (.cells #[.slice none 0 0] 30)).alloc (.cells #[.slice none 0 0] 30) = W0 at *
  refine (l1Split_any s 32 W0 (by omega)).mono ?_
  rintro e w1 ⟨Aw, cw, rfl, hW, hb1⟩
  have hwl := Pl.words_len 32 s.data.toList
  have hwe := fun a ha => Pl.words_each 32 s.data.toList a ha
  rw [size_len] at hwl hwe
  have HWE := Lib.hid hwe
  clear hwe
  have br1 := br0.below hb1
  have bo1 := bo0.below hb1
  have hB1 := hB0.trans (hb1.mono (by omega))
  have hs1 := hb1.size
  have HW := Lib.hid (hW.base (B' := w.heap.size + 1 + 1) (by omega))
  clear br0 bo0 hB0 hb1 hW
  generalize Pl.words 32 s.data.toList = W at *
  go_wp2_with fail
  go_loopw [6] (fun i wr => ∃ (k : Nat) (acc : List Int) (A' : Option Addr) (c' : Nat), k ≤ W.length ∧ i = .int .i64 k ∧ acc.length = k ∧ Hid (OI wr w1.heap.size A' acc.length c' acc) ∧ Hid (numsA [] W = numsA acc (W.drop k)) ∧ Blk wr w.heap.size 30 #[.slice none 0 0] ∧ Blk wr (w.heap.size + 1) 30 #[.slice A' acc.length c'] ∧ Only (w.heap.size + 1) (w.heap.size + 1 + 1) w1 wr) (fun i _ => W.length - (intOf i).toNat)
  case atStart => exact ⟨0, [], none, 0, Nat.zero_le _, rfl, rfl, Lib.hid (World.ownsRow_nil _ _ _ _), Lib.hid rfl, br1, bo1, Only.refl _ _ _⟩
  case round =>
    clear br1 bo1
    obtain ⟨k, acc, A', c', hk, rfl, rfl, HO, HA, br, bo, ho⟩ := hrel
    have hsr := ho.size
    have hWr := (HW.out.up ho (Nat.le_refl _)).wi
    have KO : ∀ i, wr.cell? ⟨w.heap.size + 1, i, none⟩ = #[Value.slice A' acc.length c'][i]? := fun i => bo.cell i
    have FO : ∀ i, wr.frozen? ⟨w.heap.size + 1, i, none⟩ = false := fun i => bo.frozen i
    have KR : ∀ i, wr.cell? ⟨w.heap.size, i, none⟩ = #[Value.slice none 0 0][i]? := fun i => br.cell i
    have FR : ∀ i, wr.frozen? ⟨w.heap.size, i, none⟩ = false := fun i => br.frozen i
    by_cases hlt : acc.length < W.length
    · obtain ⟨g, off, x, hAe, hc, hx⟩ := hWr.at_ hlt
      subst hAe
      have hxl : x.length ≤ 1000 := by
        rw [hx.out, List.getD_eq_getElem?_getD, List.getElem?_eq_getElem hlt, Option.getD_some]
        have := HWE.out _ (List.getElem_mem hlt)
        omega
      have hv := rdV_bd (l := x)
      have HR0 := Lib.hid (fun h2 => numsA_bad (k := acc.length) hlt HA.out h2)
      have HR1 := Lib.hid (fun h2 => numsA_next (k := acc.length) hlt HA.out h2)
      rw [← hx.out] at HR0 HR1
      clear hWr
      go_wp2_with fail
      refine (l1Read_any ⟨x.toArray⟩ wr (by simp [ByteArray.size]; omega)).mono ?_
      rintro e w3 ⟨rfl, rfl⟩
      rw [show (⟨x.toArray⟩ : ByteArray).data.toList = x from rfl]
      obtain ⟨v, hv2⟩ : ∃ v, rdV x = v := ⟨_, rfl⟩
      rw [hv2] at hv HR1 ⊢
      clear hv2
      cases hq : rdB x
      · have HE := Lib.hid (HNB.out (HR0.out hq))
        have hBr := hB1.trans (ho.below (by omega) (by omega))
        clear hq HR0 HR1 HA HNB HNN HNY
        go_wp2_with fail
        rw [HE.out]
        have ho5 : Only w.heap.size (w.heap.size + 1) w3 (w3.setCell ⟨w.heap.size, 0, none⟩ (.slice none 0 0)) := (Only.refl _ _ _).setCell (by simp) _
        exact bodyPost_ret (v := .tuple #[.agg #[.slice none 0 0], .bool false]) (by simp [results, Tryd.results20, go_sem, KR]) rfl ⟨none, 0, rfl, World.ownsRow_nil _ _ _ _, hBr.trans (ho5.below (Nat.le_refl _) (by omega))⟩
      · have HA2 := Lib.hid (HR1.out hq)
        have howa := Lib.hid (ownsRow_below HO.out ((Below.refl _ w3).alloc (Nat.le_refl _) (.cells #[.int .i64 v] 2)))
        clear hq HR0 HR1 HA
        go_wp2_with (at_builtin; (refine wpList_append_any rfl _ _ 22 rfl w1.heap.size 2 i0 (.int .i64 0) 1 8 Tryd.underlying22 hi hz0 hz1 hz2 rfl (by omega) A' acc.length c' (acc.map (Value.int .i64)) rfl howa.out _ 1 _ [.int .i64 v] rfl (Src.new _ [.int .i64 v] _ 1 1 rfl (by simp [Value.oneCell'])) (by unfold maxLen; omega) (by omega) (by simp; omega) ?_; intro A2 c2 w2 ho2 hg hnil; have hgb := app_below hg howa.out (by omega); have bo2 := bo.belowB hgb (by omega); have KO2 : ∀ i, w2.cell? ⟨w.heap.size + 1, i, none⟩ = #[Value.slice A' acc.length c'][i]? := fun i => bo2.cell i; have FO2 : ∀ i, w2.frozen? ⟨w.heap.size + 1, i, none⟩ = false := fun i => bo2.frozen i))
        have hO3 : OI w2 w1.heap.size A2 (acc ++ [v]).length c2 (acc ++ [v]) := OI.snoc ho2
        have hos : Only (w.heap.size + 1) (w.heap.size + 1 + 1) w2 (w2.setCell ⟨w.heap.size + 1, 0, none⟩ (.slice A2 (acc.length + 1) c2)) := (Only.refl _ _ _).setCell (by simp) _
        have HO4 := Lib.hid (hO3.up hos (by omega))
        have ho4 := (ho.thenB hgb (Nat.le_refl _)).trans hos
        have br4 := (br.belowB hgb (by omega)).only hos (Or.inl (by omega))
        have bo4 : Blk (w2.setCell ⟨w.heap.size + 1, 0, none⟩ (.slice A2 (acc.length + 1) c2)) (w.heap.size + 1) 30 #[.slice A2 (acc ++ [v]).length c2] := by
          rw [List.length_append]
          exact bo2.set_ 0 _
        clear hgb howa ho2 hg HO hO3 hos bo2 KO2 FO2
        go_wp2_with fail
        go_roundw
        case rel => exact ⟨acc.length + 1, acc ++ [v], A2, c2, by omega, by go_num, by simp, HO4, HA2, br4, bo4, ho4⟩
        case measure => simp [intOf]; omega
    · have hkn : acc.length = W.length := by omega
      have HE := Lib.hid (numsA_end (W := W) (acc := acc) (by rw [← hkn]; exact HA.out))
      have HN2 := Lib.hid (fun h2 => HNN.out acc HE.out h2)
      have HY2 := Lib.hid (fun h2 => HNY.out acc HE.out h2)
      have hBr := hB1.trans (ho.below (by omega) (by omega))
      have hal : acc.length ≤ 1000 := by omega
      clear HE HA HNB HNN HNY hWr hkn
      go_wp2_with fail
      refine (specSigOk_any A' acc.length c' acc wr HO.out.ri (by omega)).mono ?_
      rintro e w3 ⟨rfl, hb3⟩
      have hs3 := hb3.size
      have HO3 := Lib.hid ((HO.out.below hb3).base (B' := w.heap.size + 1) (by omega))
      have br3 := br.below hb3
      have bo3 := bo.below hb3
      have hB3 := hBr.trans (hb3.mono hBr.size)
      have KO3 : ∀ i, w3.cell? ⟨w.heap.size + 1, i, none⟩ = #[Value.slice A' acc.length c'][i]? := fun i => bo3.cell i
      have KR3 : ∀ i, w3.cell? ⟨w.heap.size, i, none⟩ = #[Value.slice none 0 0][i]? := fun i => br3.cell i
      have FR3 : ∀ i, w3.frozen? ⟨w.heap.size, i, none⟩ = false := fun i => br3.frozen i
      clear hb3 HO KO FO KR FR br bo hBr
      cases hok : Pl.sigOk acc
      · have HE := Lib.hid (HN2.out hok)
        clear hok HN2 HY2
        go_wp2_with fail
        rw [HE.out]
        have ho5 : Only w.heap.size (w.heap.size + 1) w3 (w3.setCell ⟨w.heap.size, 0, none⟩ (.slice none 0 0)) := (Only.refl _ _ _).setCell (by simp) _
        exact bodyPost_ret (v := .tuple #[.agg #[.slice none 0 0], .bool false]) (by simp [results, Tryd.results20, go_sem, KR3]) rfl ⟨none, 0, rfl, World.ownsRow_nil _ _ _ _, hB3.trans (ho5.below (Nat.le_refl _) (by omega))⟩
      · have HE := Lib.hid (HY2.out hok)
        clear hok HN2 HY2
        go_wp2_with fail
        rw [HE.out]
        have ho5 : Only w.heap.size (w.heap.size + 1) w3 (w3.setCell ⟨w.heap.size, 0, none⟩ (.slice A' acc.length c')) := (Only.refl _ _ _).setCell (by simp) _
        exact bodyPost_ret (v := .tuple #[.agg #[.slice A' acc.length c'], .bool true]) (by simp [results, Tryd.results20, go_sem, KR3]) rfl ⟨A', c', rfl, (HO3.out.up ho5 (Nat.le_refl _)).base (B' := w.heap.size) (by omega), hB3.trans (ho5.below (Nat.le_refl _) (by omega))⟩
end Go.Proofs.YtlcchafcgidpeaaDoor
